/- The interpreter 'VM'. -/
import Derived.Test.YtpgkmggaifgjkaaGreatDoorVmC
import Derived.Calls
import Derived.Orders
import Derived.Laws.AppendOwn
import Derived.KernelRfl
import Derived.Laws.Sem
import Derived.Laws.StructEq
open Option.some renaming injEq->Aa,inj->Aj
open Array renaming getElem?_eq_some_iff->Ab,getElem?_eq_getElem->Ac,getD_eq_getD_getElem?->Af
open List renaming getElem?_eq_some_iff->Ad,getElem?_eq_getElem->Ae,map_map->Ah,getElem?_take->Ai
open Prod.mk renaming injEq->Ag
set_option linter.all false
namespace Go.Proofs.YtpgkmggaifgjkaaGreatDoor.VM
open Go
abbrev vaj:=Nat->Nat->Prop
theorem vrc (v:Value):one1 v=v.oneCell':=by cases v<;>rfl
theorem vhx {x:Addr} (h:x.spot=none) (k:Nat):x.add k=⟨x.block,x.off+k,none⟩:=by
 cases x with
 |mk b o s=>simp only at h;subst h;unfold Addr.add;split<;>simp_all
def SameAt (w w':World) (b o:Nat):Prop:=
 ∀cur e fr,w.heap[b]? =some (.cells cur e fr)->∃cur',w'.heap[b]? =some (.cells cur' e fr)/\cur'.size=cur.size/\cur'[o]? =cur[o]?
structure Kept (w w':World) (M:vaj):Prop where
 os:w'.os=w.os
 tape:w'.tape=w.tape
 output:w'.output=w.output
 size:w.heap.size<=w'.heap.size
 cells:∀b cur e fr,w.heap[b]? =some (.cells cur e fr)->∃cur',w'.heap[b]? =some (.cells cur' e fr)/\cur'.size=cur.size/\∀o,¬M b o->cur'[o]? =cur[o]?
 other:∀(b:Nat) x,w.heap[b]? =some x->(∀cur e fr,x≠ .cells cur e fr)->w'.heap[b]? =some x
theorem Kept.refl (w:World) (M:vaj):Kept w w M:=
 ⟨rfl,rfl,rfl,Nat.le_refl _,λ_ cur _ _ h=>⟨cur,h,rfl,λ_ _=>rfl⟩,λ_ _ h _=>h⟩
theorem Kept.trans {w w1 w2:World} {M M1:vaj} (h:Kept w w1 M) (h':Kept w1 w2 M1) (hm:∀b o,M1 b o->b<w.heap.size->M b o):Kept w w2 M:=by
 refine ⟨h'.os.trans h.os,h'.tape.trans h.tape,h'.output.trans h.output,Nat.le_trans h.size h'.size,?_,?_⟩
 ·intro b cur e fr hb;obtain ⟨c1,h1,s1,e1⟩:=h.cells b cur e fr hb;obtain ⟨c2,h2,s2,e2⟩:=h'.cells b c1 e fr h1;have hlt:b<w.heap.size:=(Ab.1 hb).1;exact ⟨c2,h2,s2.trans s1,λo ho=>(e2 o λhh=>ho (hm b o hh hlt)).trans (e1 o ho)⟩
 ·intro b x hb hx;exact h'.other b x (h.other b x hb hx) hx
theorem Kept.mono {w w':World} {M M':vaj} (h:Kept w w' M) (hm:∀b o,M b o->M' b o):Kept w w' M':=
 ⟨h.os,h.tape,h.output,h.size,λb cur e fr hb=>by
  obtain ⟨c,h1,h2,h3⟩:=h.cells b cur e fr hb
  exact ⟨c,h1,h2,λo ho=>h3 o λhh=>ho (hm b o hh)⟩,h.other⟩
theorem Kept.same {w w':World} {M:vaj} (h:Kept w w' M) {b o:Nat} (ho:¬M b o):SameAt w w' b o:=by
 intro cur e fr hb;obtain ⟨c,h1,h2,h3⟩:=h.cells b cur e fr hb;exact ⟨c,h1,h2,h3 o ho⟩
theorem Kept.alloc (w:World) (x:Obj) (M:vaj):Kept w (w.alloc x) M:=by
 refine ⟨rfl,rfl,rfl,by simp,?_,?_⟩
 ·intro b cur e fr hb;refine ⟨cur,?_,rfl,λ_ _=>rfl⟩;rw [heap_alloc_old w x b (Ab.1 hb).1];exact hb
 ·intro b y hb _;rw [heap_alloc_old w x b (Ab.1 hb).1];exact hb
theorem Kept.drew (w:World) (M:vaj):Kept w w.drew M:=
 ⟨rfl,rfl,rfl,Nat.le_refl _,λ_ cur _ _ h=>⟨cur,h,rfl,λ_ _=>rfl⟩,λ_ _ h _=>h⟩
theorem SameAt.cell {w w':World} {b o:Nat} (h:SameAt w w' b o) {v:Value} (hc:w.cell? ⟨b,o,none⟩=some v):w'.cell? ⟨b,o,none⟩=some v:=by
 unfold World.cell? at hc⊢;simp only at hc⊢;cases hb:w.heap[b]? with
 |none=>rw [hb] at hc;cases hc
 |some x=>
  rw [hb] at hc;cases x with
  |cells cur e fr=>
   obtain ⟨c,h1,_,h3⟩:=h cur e fr hb;simp only [Option.isSome_none,Bool.false_eq_true,if_false] at hc⊢;rw [h1];simp only;rw [h3];exact hc
  |_=>cases hc
theorem vef {w:World} {b o:Nat} {cur:Array Value} {e:TypeId} {fr:Nat×Nat} (h:w.heap[b]? =some (.cells cur e fr)):w.cell? ⟨b,o,none⟩=cur[o]? :=by
 simp [World.cell?,h]
def flat (es:List PV):List PV:=es.flatMap PV.cells
abbrev Zn:=Nat->vaj
def zU (Z:Zn):vaj:=λb o=>∃e,Z e b o
theorem zle {Z Z':Zn} (h:∀e b o,Z e b o->Z' e b o):∀b o,zU Z b o->zU Z' b o:=λb o ⟨e,he⟩=>⟨e,h e b o he⟩
inductive RC (P:Program) (w:World) (Z:Zn):PV->Value->Prop
 |a (v:Value) (h:one1 v=true):RC P w Z (.a v) v
 |un (v:Value) (h:one1 v=true):RC P w Z .un v
 |sl (e:Nat) (es:List PV) (x:Option Addr) (len cap m:Nat) (vs:Nat->Value) (hl:len=es.length/\len<=cap) (hm:va8 P e=some m) (hw:∀y∈es,y.cells.length=m)
   (hx:∀y,x=some y->es≠[]->y.spot=none) (hn:x=none->len=0)
   (hc:∀k c,(flat es)[k]? =some c->∀y,x=some y->w.cell? ⟨y.block,y.off+k,none⟩=some (vs k)/\Z e y.block (y.off+k))
   (hr:∀k c,(flat es)[k]? =some c->RC P w Z c (vs k)):RC P w Z (.sl e es) (.slice x len cap)
 |fz (e:Nat) (es:List PV) (x:Option Addr) (len cap m:Nat) (vs:Nat->Value) (hl:len=es.length/\len<=cap) (hm:va8 P e=some m) (hw:∀y∈es,y.cells.length=m)
   (hx:∀y,x=some y->es≠[]->y.spot=none) (hn:x=none->len=0)
   (hc:∀k c,(flat es)[k]? =some c->∀y,x=some y->w.cell? ⟨y.block,y.off+k,none⟩=some (vs k)/\Z e y.block (y.off+k))
   (hr:∀k c,(flat es)[k]? =some c->RC P w Z c (vs k)):RC P w Z (.fz e es) (.slice x len cap)
theorem RC.mono {P:Program} {w w':World} {Z Z':Zn} {c:PV} {v:Value} (h:RC P w Z c v) (hs:∀b o,zU Z b o->SameAt w w' b o) (hz:∀e b o,Z e b o->Z' e b o):RC P w' Z' c v:=by
 induction h with
 |a v h=>exact .a v h
 |un v h=>exact .un v h
 |sl e es x len cap m vs hl hm hw hx hn hc hr ih=>
  exact .sl e es x len cap m vs hl hm hw hx hn (λk c hk y hy=>let ⟨h1,h2⟩:=hc k c hk y hy;⟨(hs _ _ ⟨_,h2⟩).cell h1,hz _ _ _ h2⟩) ih
 |fz e es x len cap m vs hl hm hw hx hn hc hr ih=>
  exact .fz e es x len cap m vs hl hm hw hx hn (λk c hk y hy=>let ⟨h1,h2⟩:=hc k c hk y hy;⟨(hs _ _ ⟨_,h2⟩).cell h1,hz _ _ _ h2⟩) ih
theorem RC.one {P:Program} {w:World} {Z:Zn} {c:PV} {v:Value} (h:RC P w Z c v):one1 v=true:=by
 cases h<;>first|assumption|rfl
theorem RC.ofFz {P:Program} {w:World} {Z:Zn} {e:Nat} {es:List PV} {v:Value} (h:RC P w Z (.fz e es) v):RC P w Z (.sl e es) v:=by
 cases h with
 |fz _ _ x len cap m vs hl hm hw hx hn hc hr=>exact .sl e es x len cap m vs hl hm hw hx hn hc hr
theorem RC.toFz {P:Program} {w:World} {Z:Zn} {e:Nat} {es:List PV} {v:Value} (h:RC P w Z (.sl e es) v):RC P w Z (.fz e es) v:=by
 cases h with
 |sl _ _ x len cap m vs hl hm hw hx hn hc hr=>exact .fz e es x len cap m vs hl hm hw hx hn hc hr
def Apart (F G:vaj):Prop:=∀b o,F b o->¬G b o
theorem Apart.symm {F G:vaj} (h:Apart F G):Apart G F:=λb o hg hf=>h b o hf hg
def NoFz (fr:Nat×Nat) (n:Nat):Prop:=∀o,o<n->¬(fr.1<=o/\o<fr.2)
theorem NoFz.eq {fr:Nat×Nat} {n n':Nat} (h:NoFz fr n) (e:n'=n):NoFz fr n':=by rw [e];exact h
theorem NoFz.zero (n:Nat):NoFz (0,0) n:=λo _ h=>by have:=h.2;simp at this
inductive DC (P:Program) (w:World) (Z:Zn):PV->Value->vaj->Prop
 |a (v:Value) (F:vaj) (h:one1 v=true) (hF:∀b o,¬F b o):DC P w Z (.a v) v F
 |un (v:Value) (F:vaj) (h:one1 v=true) (hF:∀b o,¬F b o):DC P w Z .un v F
 |fz (e:Nat) (es:List PV) (v:Value) (F:vaj) (h:RC P w Z (.sl e es) v) (hF:∀b o,¬F b o):DC P w Z (.fz e es) v F
 |nil (e m:Nat) {x:Option Addr} (F:vaj) (hm:va8 P e=some m) (hF:∀b o,¬F b o):DC P w Z (.sl e []) (.slice x 0 0) F
 |sl (e:Nat) (es:List PV) (g off len cap m:Nat) (fr:Nat×Nat) (cur:Array Value) (vs:Nat->Value) (Fk:Nat->vaj) (F:vaj) (hl:len=es.length) (hm:va8 P e=some m)
   (hw:∀y∈es,y.cells.length=m) (hg:w.heap[g]? =some (.cells cur e fr)) (hfr:NoFz fr cur.size) (hlc:len<=cap) (hcm:cap<=maxLen) (hsz:cur.size=off+cap * m)
   (hc:∀k c,(flat es)[k]? =some c->cur[off+k]? =some (vs k))
   (hr:∀k c,(flat es)[k]? =some c->DC P w Z c (vs k) (Fk k))
   (hF:∀b o,F b o↔(b=g\/∃k,k<(flat es).length/\Fk k b o))
   (hd:∀k l,k<(flat es).length->l<(flat es).length->k≠l->Apart (Fk k) (Fk l))
   (hd0:∀k,k<(flat es).length->∀o,¬Fk k g o):DC P w Z (.sl e es) (.slice (some ⟨g,off,none⟩) len cap) F
theorem SameAt.block {w w':World} {b:Nat} (h:∀o,SameAt w w' b o) {cur:Array Value} {e:TypeId} {fr:Nat×Nat} (hb:w.heap[b]? =some (.cells cur e fr)):
  w'.heap[b]? =some (.cells cur e fr):=by
 obtain ⟨c,h1,h2,_⟩:=h 0 cur e fr hb;have:c=cur:=by
  apply Array.ext h2;intro i hi hj;obtain ⟨c',h1',_,h3⟩:=h i cur e fr hb;rw [h1] at h1';injection h1' with h1'
  injection h1' with h1' _ _
  subst h1';rw [Ac hi,Ac hj] at h3;exact Aj h3
 rw [h1,this]
theorem DC.mono {P:Program} {w w':World} {Z Z':Zn} {c:PV} {v:Value} {F:vaj} (h:DC P w Z c v F) (hs:∀b o,F b o->SameAt w w' b o) (hz:∀b o,zU Z b o->SameAt w w' b o)
  (hzz:∀e b o,Z e b o->Z' e b o):DC P w' Z' c v F:=by
 induction h with
 |a v F h hF=>exact .a v F h hF
 |un v F h hF=>exact .un v F h hF
 |fz e es v F h hF=>exact .fz e es v F (h.mono hz hzz) hF
 |nil e m F hm hF=>exact .nil e m F hm hF
 |sl e es g off len cap m fr cur vs Fk F hl hm hw hg hfr hlc hcm hsz hc hr hF hd hd0 ih=>
  refine .sl e es g off len cap m fr cur vs Fk F hl hm hw (SameAt.block (λo=>hs g o ((hF g o).2 (.inl rfl))) hg) hfr hlc hcm hsz hc ?_ hF hd hd0;intro k c hk;exact ih k c hk λb o hb=>hs b o ((hF b o).2 (.inr ⟨k,(Ad.1 hk).1,hb⟩))
theorem DC.one {P:Program} {w:World} {Z:Zn} {c:PV} {v:Value} {F:vaj} (h:DC P w Z c v F):one1 v=true:=by
 cases h with
 |a v F h hF=>exact h
 |un v F h hF=>exact h
 |fz e es v F h hF=>exact h.one
 |nil=>rfl
 |sl=>rfl
theorem DC.congr {P:Program} {w:World} {Z:Zn} {c:PV} {v:Value} {F F':vaj} (h:DC P w Z c v F) (hf:∀b o,F' b o↔F b o):DC P w Z c v F':=by
 cases h with
 |a _ _ h hF=>exact .a v F' h λb o hb=>hF b o ((hf b o).1 hb)
 |un _ _ h hF=>exact .un v F' h λb o hb=>hF b o ((hf b o).1 hb)
 |fz e es _ _ h hF=>exact .fz e es v F' h λb o hb=>hF b o ((hf b o).1 hb)
 |nil e m _ hm hF=>exact .nil e m F' hm λb o hb=>hF b o ((hf b o).1 hb)
 |sl e es g off len cap m fr cur vs Fk _ hl hm hw hg hfr hlc hcm hsz hc hr hF hd hd0=>exact .sl e es g off len cap m fr cur vs Fk F' hl hm hw hg hfr hlc hcm hsz hc hr (λb o=>(hf b o).trans (hF b o)) hd hd0
theorem DC.inside {P:Program} {w:World} {Z:Zn} {c:PV} {v:Value} {F:vaj} (h:DC P w Z c v F):∀b o,F b o->b<w.heap.size:=by
 induction h with
 |a v F h hF=>exact λb o hb=>absurd hb (hF b o)
 |un v F h hF=>exact λb o hb=>absurd hb (hF b o)
 |fz e es v F h hF=>exact λb o hb=>absurd hb (hF b o)
 |nil e m F hm hF=>exact λb o hb=>absurd hb (hF b o)
 |sl e es g off len cap m fr cur vs Fk F hl hm hw hg hfr hlc hcm hsz hc hr hF hd hd0 ih=>
  intro b o hb;rcases (hF b o).1 hb with rfl|⟨k,hk,hb⟩
  ·exact (Ab.1 hg).1
  ·exact ih k _ (Ae hk) b o hb
theorem DC.read {P:Program} {w:World} {Z:Zn} {c:PV} {v:Value} {F:vaj} (h:DC P w Z c v F):∀(Z':Zn),(∀e b o,F b o->Z' e b o)->(∀e b o,Z e b o->Z' e b o)->RC P w Z' c v:=by
 induction h with
 |a v F h hF=>exact λ_ _ _=> .a v h
 |un v F h hF=>exact λ_ _ _=> .un v h
 |fz e es v F h hF=>exact λZ' _ hz=>(h.mono (λb o _ cur e fr hb=>⟨cur,hb,rfl,rfl⟩) hz).toFz
 |nil e m F hm hF=>
  intro Z' _ _;exact .sl e [] _ 0 0 m (λ_=> .bool false) ⟨rfl,Nat.le_refl _⟩ hm (by simp) (λ_ _ h=>absurd rfl h) (λ_=>rfl) (by simp [flat]) (by simp [flat])
 |sl e es g off len cap m fr cur vs Fk F hl hm hw hg hfr hlc hcm hsz hc hr hF hd hd0 ih=>
  intro Z' hf hz;refine .sl e es _ len cap m vs ⟨hl,hlc⟩ hm hw (λy hy _=>by cases hy;rfl) (by simp) ?_ ?_
  ·intro k c hk y hy;cases hy;exact ⟨(vef hg).trans (hc k c hk),hf _ _ _ ((hF _ _).2 (.inl rfl))⟩
  ·intro k c hk;exact ih k c hk Z' (λe b o hb=>hf e b o ((hF b o).2 (.inr ⟨k,(Ad.1 hk).1,hb⟩))) hz
inductive Nav (P:Program) (w:World) (S:vaj):Value->List (Nat×Nat×Nat)->Value->Prop
 |nil (v:Value):Nav P w S v [] v
 |cons (g off len cap i m o:Nat) (u v:Value) (p:List (Nat×Nat×Nat)) (hc:w.cell? ⟨g,off+(i * m+o),none⟩=some u)
   (hk:∀cur e fr m0,w.heap[g]? =some (.cells cur e fr)->va8 P e=some m0->i * m+o<len * m0)
   (hu:isSliceV u=true) (hs:S g (off+(i * m+o))) (h:Nav P w S u p v):Nav P w S (.slice (some ⟨g,off,none⟩) len cap) ((i,m,o)::p) v
def SameTy (w w':World):Prop:=∀b cur e fr,w'.heap[b]? =some (.cells cur e fr)->b<w.heap.size->∃cur0,w.heap[b]? =some (.cells cur0 e fr)
theorem SameTy.refl (w:World):SameTy w w:=λ_ cur _ _ h _=>⟨cur,h⟩
theorem Kept.ty {w w':World} {M:vaj} (h:Kept w w' M):SameTy w w':=by
 intro b cur e fr hb hlt;have h0:w.heap[b]? =some w.heap[b]:=Ac hlt;generalize w.heap[b]=x at h0;cases x with
 |cells c0 e0 fr0=>
  obtain ⟨c1,h1,_⟩:=h.cells b c0 e0 fr0 h0;rw [hb] at h1;cases h1;exact ⟨c0,h0⟩
 |_=>
  have:=h.other b _ h0 (by intros;simp);rw [hb] at this;cases this
theorem qe5 {w:World} {b o:Nat} {v:Value} (h:w.cell? ⟨b,o,none⟩=some v):b<w.heap.size:=by
 unfold World.cell? at h;simp only at h;cases hb:w.heap[b]? with
 |none=>rw [hb] at h;cases h
 |some x=>exact (Ab.1 hb).1
def NavKept (P:Program) (w w':World) (S S':vaj) (r:Value):Prop:=∀p v,Nav P w S r p v->Nav P w' S' r p v
theorem NavKept.of {P:Program} {w w':World} {S S':vaj} {r:Value} (ht:SameTy w w')
  (hs:∀b o,S b o->S' b o/\∀y,w.cell? ⟨b,o,none⟩=some y->isSliceV y=true->w'.cell? ⟨b,o,none⟩=some y):NavKept P w w' S S' r:=by
 intro p v h;induction h with
 |nil v=>exact .nil v
 |cons g off len cap i m o u v p hc hk hu hS _ ih=>
  refine .cons g off len cap i m o u v p ((hs _ _ hS).2 _ hc hu) (λcur e fr m0 hb hm=> ?_) hu (hs _ _ hS).1 ih;obtain ⟨cur0,h0⟩:=ht g cur e fr hb (qe5 hc);exact hk cur0 e fr m0 h0 hm
abbrev va2:=Nat->Option (Nat×Nat×Nat)
inductive TR (P:Program) (w:World) (Z:Zn) (ρ:Nat->Value) (F:Nat->vaj) (sh:va2):TV->Value->Prop
 |a (v:Value):TR P w Z ρ F sh (.a v) v
 |nl (e m:Nat) (hm:va8 P e=some m):TR P w Z ρ F sh (.nl e) (.slice none 0 0)
 |rf (id:Nat):TR P w Z ρ F sh (.rf id) (ρ id)
 |ri (id ver:Nat) (p:List (Nat×Nat×Nat)) (v:Value) (h1:one1 v=true) (h:∀e l,sh id=some (ver,e,l)->Nav P w (F id) (ρ id) p v):TR P w Z ρ F sh (.ri id ver p) v
 |sb (id lo n:Nat) (v:Value) (h1:one1 v=true) (h:∀ver e l,sh id=some (ver,e,l)->∃x cap,v= .slice x n cap/\n<=cap/\lo+n<=l/\(cap≠0->∃g off l' c' m,ρ id= .slice (some ⟨g,off,none⟩) l' c'/\va8 P e=some m/\x=some ⟨g,off+lo * m,none⟩/\cap+lo=c')):
   TR P w Z ρ F sh (.sb id lo n) v
 |ad (id o b off:Nat) (h:ρ id= .pointer (some ⟨b,off,none⟩)):TR P w Z ρ F sh (.ad id o) (.pointer (some ⟨b,off+o,none⟩))
 |ea (id i m o:Nat) (v:Value) (h1:one1 v=true) (h:∀ver e l,sh id=some (ver,e,l)->∃g off l' c',ρ id= .slice (some ⟨g,off,none⟩) l' c'/\va8 P e=some m/\v= .pointer (some ⟨g,off+(i * m+o),none⟩)):
   TR P w Z ρ F sh (.ea id i m o) v
 |ei (id ver:Nat) (p:List (Nat×Nat×Nat)) (i m o:Nat) (v:Value) (h1:one1 v=true) (h:∀e l,sh id=some (ver,e,l)->∃g off l' c',Nav P w (F id) (ρ id) p (.slice (some ⟨g,off,none⟩) l' c')/\v= .pointer (some ⟨g,off+(i * m+o),none⟩)):
   TR P w Z ρ F sh (.ei id ver p i m o) v
 |sz (e:Nat) (es:List PV) (v:Value) (h:RC P w Z (.sl e es) v):TR P w Z ρ F sh (.sz e es) v
 |ez (cs:List PV) (o:Nat) (x:Addr) (hx:x.spot=none) (vs:Nat->Value) (hc:∀(j:Nat) c,cs[o+j]? =some c->w.cell? ⟨x.block,x.off+j,none⟩=some (vs j)/\zU Z x.block (x.off+j)/\RC P w Z c (vs j)):
   TR P w Z ρ F sh (.ez cs o) (.pointer (some x))
 |st (cs:List TV) (us:Array Value) (hl:us.size=cs.length) (h:∀(i:Nat) c u,cs[i]? =some c->us[i]? =some u->TR P w Z ρ F sh c u):TR P w Z ρ F sh (.st cs) (.agg us)
 |tp (cs:List TV) (us:Array Value) (hl:us.size=cs.length) (h:∀(i:Nat) c u,cs[i]? =some c->us[i]? =some u->TR P w Z ρ F sh c u):TR P w Z ρ F sh (.tp cs) (.tuple us)
 |fn (f:Nat) (fs cs:List TV) (xs us:Array Value) (hx:xs.size=fs.length) (hl:us.size=cs.length) (hf:∀(i:Nat) c u,fs[i]? =some c->xs[i]? =some u->TR P w Z ρ F sh c u)
   (h:∀(i:Nat) c u,cs[i]? =some c->us[i]? =some u->TR P w Z ρ F sh c u):TR P w Z ρ F sh (.fn f fs cs) (.func (.func f) xs us)
 |ic (t:Nat) (c:TV) (u:Value) (h:TR P w Z ρ F sh c u):TR P w Z ρ F sh (.ic t c) (.iface t u)
 |un (v:Value):TR P w Z ρ F sh .un v
inductive NR (P:Program) (w:World) (Z:Zn) (ρ:Nat->Value) (F:Nat->vaj) (sh:va2) (id:Nat):Node->Prop
 |bx (z:Bool) (cs:List TV) (b off:Nat) (cur:Array Value) (t:TypeId) (hρ:ρ id= .pointer (some ⟨b,off,none⟩)) (hb:w.heap[b]? =some (.cells cur t (0,0))) (hsz:off+cs.length<=cur.size) (hne:cs≠[])
   (hc:∀(i:Nat) c,cs[i]? =some c->∀u,cur[off+i]? =some u->TR P w Z ρ F sh c u)
   (hF:∀b' o',F id b' o'↔(z=false/\b'=b/\off<=o'/\o'<off+cs.length))
   (hz:z=true->∀i,i<cs.length->zU Z b (off+i)):NR P w Z ρ F sh id (.bx z cs)
 |sl (q:Bool) (ver e:Nat) (es:List PV) (h:DC P w Z (.sl e es) (ρ id) (F id)):NR P w Z ρ F sh id (.sl q ver e es)
def vah (st:St):va2:=λid=>match st.node id with
 |some (.sl _ ver e es)=>some (ver,e,es.length)
 |_=>none
mutual
def idsIn (U:Nat->Prop):TV->Prop
 | .rf id=>U id
 | .ri id ver _=>U id/\(ver=0\/U (ver-1))
 | .sb id _ _=>U id
 | .ad id _=>U id
 | .ea id _ _ _=>U id
 | .ei id ver _ _ _ _=>U id/\(ver=0\/U (ver-1))
 | .st cs=>vap U cs
 | .tp cs=>vap U cs
 | .fn _ fs cs=>vap U fs/\vap U cs
 | .ic _ c=>idsIn U c
 |_=>True
def vap (U:Nat->Prop):List TV->Prop
 | []=>True
 |c::cs=>idsIn U c/\vap U cs
end
def Node.idsIn (U:Nat->Prop):Node->Prop
 | .bx _ cs=>vap U cs
 | .sl _ ver _ _=>ver=0\/U (ver-1)
structure Cx where
 P:Program
 w0:World
 M0:vaj
 Z:Zn
 n:Nat
 args:Array Value
def Cx.val (cx:Cx) (tmps:Array Value) (t:Nat):Value:=if t<10000 then tmps.getD t undef else cx.args.getD (t-10000) undef
structure G (cx:Cx) (U:Nat->Prop) (X:vaj) (ρ:Nat->Value) (F:Nat->vaj) (st:St) (a:Act) (w:World):Prop where
 slots:∀t,TR cx.P w cx.Z ρ F (vah st) (st.slot t) (cx.val a.tmps t)
 ids:∀t,idsIn U (st.slot t)
 nodes:∀id n,st.node id=some n->NR cx.P w cx.Z ρ F (vah st) id n
 used:∀id n,st.node id=some n->U id/\n.idsIn U
 apart:∀i j,i≠j->(st.node i).isSome=true->(st.node j).isSome=true->Apart (F i) (F j)
 apartX:∀i,(st.node i).isSome=true->Apart (F i) X
 mine:∀i,(st.node i).isSome=true->∀b o,F i b o->¬zU cx.Z b o/\(cx.M0 b o\/cx.w0.heap.size<=b)
 mineX:∀b o,X b o->¬zU cx.Z b o/\(cx.M0 b o\/cx.w0.heap.size<=b)/\b<w.heap.size
 one:∀i,one1 (ρ i)=true
 kept:Kept cx.w0 w cx.M0
 zold:∀b o,zU cx.Z b o->b<cx.w0.heap.size/\¬cx.M0 b o
 size:a.tmps.size=cx.n
 small:cx.n<=10000
 defers:a.defers= []
theorem run_bind {α β:Type} (x:M α) (f:α->M β) (s:St):(x.bind f).run s=(x.run s).bind λr=>(f r.1).run r.2:=by
 induction x generalizing s with
 |pure x=>rfl
 |fail=>rfl
 |getS t k ih=>exact ih _ _
 |setS t v k ih=>exact ih _
 |getN id k ih=>exact ih _ _
 |setN id n k ih=>exact ih _
theorem vaa {α β:Type} {x:M α} {f:α->M β} {s:St} {r:β×St} (h:(x.bind f).run s=some r):∃a s1,x.run s=some (a,s1)/\(f a).run s1=some r:=by
 rw [run_bind] at h;cases hx:x.run s with
 |none=>rw [hx] at h;cases h
 |some q=>rw [hx] at h;exact ⟨q.1,q.2,rfl,h⟩
theorem run_pure {α:Type} {x:α} {s:St} {r:α×St} (h:(M.pure x).run s=some r):r=(x,s):=by
 simp only [M.run,Aa] at h;exact h.symm
theorem vjy {t:Nat} {s:St} {r:TV×St} (h:(getS t).run s=some r):r=(s.slot t,s):=by
 simp only [getS,M.run,Aa] at h;exact h.symm
theorem vbn {id:Nat} {s:St} {r:Option Node×St} (h:(getN id).run s=some r):r=(s.node id,s):=by
 simp only [getN,M.run,Aa] at h;exact h.symm
theorem vbd {t:Nat} {v:TV} {s:St} {r:Unit×St} (h:(setS t v).run s=some r):r=((),{s with slots:=(t,v)::s.slots}):=by
 simp only [setS,M.run,Aa] at h;exact h.symm
theorem vby {id:Nat} {n:Option Node} {s:St} {r:Unit×St} (h:(setN id n).run s=some r):r=((),{s with nodes:=(id,n)::s.nodes}):=by
 simp only [setN,M.run,Aa] at h;exact h.symm
theorem vdl {α:Type} {o:Option α} {s:St} {r:α×St} (h:(liftO o).run s=some r):o=some r.1/\r.2=s:=by
 cases o with
 |none=>simp [liftO,M.run] at h
 |some x=>simp only [liftO,M.run,Aa] at h;subst h;exact ⟨rfl,rfl⟩
theorem vac {α:Type} {s:St} {r:α×St} (h:(M.fail:M α).run s=some r):False:=by cases h
theorem vkl (s:St) (t t':Nat) (v:TV):({s with slots:=(t,v)::s.slots}:St).slot t'=if t=t' then v else s.slot t':=by
 simp only [St.slot,look];split<;>rfl
theorem vgd (s:St) (id id':Nat) (n:Option Node):({s with nodes:=(id,n)::s.nodes}:St).node id'=if id=id' then n else s.node id':=by
 simp only [St.node,look];split<;>rfl
theorem vbm {U:Nat->Prop}:∀{cs:List TV} {i:Nat} {c:TV},vap U cs->cs[i]? =some c->idsIn U c
 | [],_,_,_,h=>by simp at h
 |c::cs,0,_,hU,h=>by simp at h;subst h;exact hU.1
 |c::cs,i+1,_,hU,h=>vbm (cs:=cs) (i:=i) hU.2 (by simpa using h)
theorem vdc {U:Nat->Prop}:∀{cs:List TV},(∀c∈cs,idsIn U c)->vap U cs
 | [],_=>trivial
 |c::cs,h=>⟨h c (by simp),vdc λx hx=>h x (by simp [hx])⟩
theorem vco {U:Nat->Prop} {cs:List TV} (h:vap U cs):∀c∈cs,idsIn U c:=by
 intro c hc;obtain ⟨i,hi⟩:=List.getElem?_of_mem hc;exact vbm h hi
mutual
theorem idsIn.mono {U U':Nat->Prop} (h:∀i,U i->U' i):∀{c:TV},idsIn U c->idsIn U' c
 | .a _,_=>trivial
 | .nl _,_=>trivial
 | .rf _,hc=>h _ hc
 | .ri _ _ _,hc=>⟨h _ hc.1,hc.2.imp id (h _)⟩
 | .sb _ _ _,hc=>h _ hc
 | .ad _ _,hc=>h _ hc
 | .ea _ _ _ _,hc=>h _ hc
 | .ei _ _ _ _ _ _,hc=>⟨h _ hc.1,hc.2.imp id (h _)⟩
 | .sz _ _,_=>trivial
 | .ez _ _,_=>trivial
 | .st cs,hc=>vap.mono h (cs:=cs) hc
 | .tp cs,hc=>vap.mono h (cs:=cs) hc
 | .fn _ fs cs,hc=>⟨vap.mono h (cs:=fs) hc.1,vap.mono h (cs:=cs) hc.2⟩
 | .ic _ c,hc=>idsIn.mono h (c:=c) hc
 | .un,_=>trivial
theorem vap.mono {U U':Nat->Prop} (h:∀i,U i->U' i):∀{cs:List TV},vap U cs->vap U' cs
 | [],_=>trivial
 |c::cs,hc=>⟨idsIn.mono h (c:=c) hc.1,vap.mono h (cs:=cs) hc.2⟩
end
theorem Node.idsIn_mono {U U':Nat->Prop} (h:∀i,U i->U' i) {n:Node} (hn:n.idsIn U):n.idsIn U':=by
 cases n with
 |bx z cs=>exact vap.mono h hn
 |sl=>exact hn.imp id (h _)
def ShapeKept (U:Nat->Prop) (sh sh':va2):Prop:=
 ∀id,U id->∀ver e l,sh' id=some (ver,e,l)->∃ver0,sh id=some (ver0,e,l)/\((ver=0\/U (ver-1))->ver0=ver)
theorem ShapeKept.refl (U:Nat->Prop) (sh:va2):ShapeKept U sh sh:=λ_ _ ver _ _ h=>⟨ver,h,λ_=>rfl⟩
theorem TR.mono {P:Program} {w w':World} {Z:Zn} {ρ ρ':Nat->Value} {F F':Nat->vaj} {sh sh':va2} {U:Nat->Prop} {c:TV} {v:Value}
  (h:TR P w Z ρ F sh c v) (hU:idsIn U c) (hz:∀b o,zU Z b o->SameAt w w' b o) (hρ:∀id,U id->ρ' id=ρ id) (hsh:ShapeKept U sh sh')
  (hn:∀id,U id->∀ver e l,sh' id=some (ver,e,l)->(ver=0\/U (ver-1))->NavKept P w w' (F id) (F' id) (ρ id)):TR P w' Z ρ' F' sh' c v:=by
 induction h with
 |a v=>exact .a v
 |nl e m hm=>exact .nl e m hm
 |rf id=>rw [<-hρ id hU];exact .rf id
 |ri id ver p v h1 h=>
  refine .ri id ver p v h1 λe l hs=> ?_;obtain ⟨ver0,h0,hv⟩:=hsh id hU.1 ver e l hs;rw [hρ id hU.1];rw [hv hU.2] at h0;exact hn id hU.1 ver e l hs hU.2 p v (h e l h0)
 |sb id lo n v h1 h=>
  refine .sb id lo n v h1 λver e l hs=> ?_;obtain ⟨ver0,h0,_⟩:=hsh id hU ver e l hs;rw [hρ id hU];exact h ver0 e l h0
 |ad id o b off h=>exact .ad id o b off (by rw [hρ id hU];exact h)
 |ea id i m o v h1 h=>
  refine .ea id i m o v h1 λver e l hs=> ?_;obtain ⟨ver0,h0,_⟩:=hsh id hU ver e l hs;rw [hρ id hU];exact h ver0 e l h0
 |ei id ver p i m o v h1 h=>
  refine .ei id ver p i m o v h1 λe l hs=> ?_;obtain ⟨ver0,h0,hv⟩:=hsh id hU.1 ver e l hs;rw [hρ id hU.1];rw [hv hU.2] at h0;obtain ⟨g,off,l',c',hnv,hval⟩:=h e l h0;exact ⟨g,off,l',c',hn id hU.1 ver e l hs hU.2 p _ hnv,hval⟩
 |sz e es v h=>exact .sz e es v (h.mono hz λ_ _ _ h=>h)
 |ez cs o x hx vs hc=>
  refine .ez cs o x hx vs λj c hj=> ?_;obtain ⟨h1,h2,h3⟩:=hc j c hj;exact ⟨(hz _ _ h2).cell h1,h2,h3.mono hz λ_ _ _ h=>h⟩
 |st cs us hl h ih=>exact .st cs us hl λi c u hi hu=>ih i c u hi hu (vbm hU hi)
 |tp cs us hl h ih=>exact .tp cs us hl λi c u hi hu=>ih i c u hi hu (vbm hU hi)
 |fn f fs cs xs us hx hl hf h ihf ih=>exact .fn f fs cs xs us hx hl (λi c u hi hu=>ihf i c u hi hu (vbm hU.1 hi)) λi c u hi hu=>ih i c u hi hu (vbm hU.2 hi)
 |ic t c u h ih=>exact .ic t c u (ih hU)
 |un v=>exact .un v
theorem NR.mono {P:Program} {w w':World} {Z:Zn} {ρ ρ':Nat->Value} {F F':Nat->vaj} {sh sh':va2} {U:Nat->Prop} {id:Nat} {n:Node}
  (h:NR P w Z ρ F sh id n) (hU:U id) (hUn:n.idsIn U) (hz:∀b o,zU Z b o->SameAt w w' b o) (hρ:∀id,U id->ρ' id=ρ id) (hsh:ShapeKept U sh sh')
  (hn:∀id,U id->∀ver e l,sh' id=some (ver,e,l)->(ver=0\/U (ver-1))->NavKept P w w' (F id) (F' id) (ρ id))
  (hF:∀b o,F' id b o↔F id b o) (hs:∀b o,F id b o->SameAt w w' b o):NR P w' Z ρ' F' sh' id n:=by
 cases h with
 |bx z cs b off cur t hr hb hsz hne hc hFi hzz=>
  have hsame:∀i,i<cs.length->SameAt w w' b (off+i):=by
   intro i hi;cases z with
   |false=>exact hs b _ ((hFi b _).2 ⟨rfl,rfl,zo,zo⟩)
   |true=>exact hz b _ (hzz rfl i hi)
  have h0:0<cs.length:=List.length_pos_iff.2 hne;obtain ⟨cur',h1,h2,_⟩:=hsame 0 h0 cur t (0,0) hb;have hcell:∀i,i<cs.length->cur'[off+i]? =cur[off+i]? :=by
   intro i hi;obtain ⟨c2,k1,_,k3⟩:=hsame i hi cur t (0,0) hb;rw [h1] at k1;injection k1 with k1
   injection k1 with k1 _ _
   rw [k1];exact k3
  refine .bx z cs b off cur' t ((hρ id hU).trans hr) h1 zo hne ?_ (λb' o'=>(hF b' o').trans (hFi b' o')) hzz;intro i c hi u hu;rw [hcell i (Ad.1 hi).1] at hu;exact (hc i c hi u hu).mono (vbm hUn hi) hz hρ hsh hn
 |sl q ver e es h=>
  refine .sl q ver e es ?_;rw [hρ id hU];exact (h.mono hs hz λ_ _ _ h=>h).congr hF
theorem Cx.val_put (cx:Cx) (a:Act) (d:Nat) (v:Value) (t:Nat) (hd:d<a.tmps.size) (hs:a.tmps.size<=10000):
  cx.val (a.put (some d) v).tmps t=if d=t then v else cx.val a.tmps t:=by
 unfold Cx.val Act.put;by_cases h:t<10000
 ·simp only [h,if_true];by_cases e:d=t
  ·subst e;simp [Af,hd]
  ·simp [Af,e]
 ·simp only [h,if_false];rw [if_neg zo]
variable {cx:Cx} {U:Nat->Prop} {X:vaj} {ρ:Nat->Value} {F:Nat->vaj} {st:St} {a:Act} {w:World}
theorem G.put (h:G cx U X ρ F st a w) {d:Nat} {c:TV} {v:Value} (hd:d<cx.n) (hc:TR cx.P w cx.Z ρ F (vah st) c v) (hi:idsIn U c):
  G cx U X ρ F {st with slots:=(d,c)::st.slots} (a.put (some d) v) w:=by
 refine ⟨?_,?_,h.nodes,h.used,h.apart,h.apartX,h.mine,h.mineX,h.one,h.kept,h.zold,?_,h.small,h.defers⟩
 ·intro t;rw [vkl,Cx.val_put cx a d v t (by rw [h.size];exact hd) (by rw [h.size];exact h.small)];split
  ·exact hc
  ·exact h.slots t
 ·intro t;rw [vkl];split
  ·exact hi
  ·exact h.ids t
 ·simp [Act.put,h.size]
theorem vst (cx:Cx) {w w':World} {M:vaj} (hk:Kept w w' M) (hM:∀b o,M b o->¬zU cx.Z b o):∀b o,zU cx.Z b o->SameAt w w' b o:=
 λb o hz=>hk.same λhm=>hM b o hm hz
theorem G.world (h:G cx U X ρ F st a w) {w':World} {M:vaj} (hk:Kept w w' M) (hz:∀b o,M b o->¬zU cx.Z b o) (hm:∀b o,M b o->b<cx.w0.heap.size->cx.M0 b o)
  (ha:∀i,(st.node i).isSome=true->Apart (F i) M):G cx U X ρ F st a w':=by
 have hzs:=vst cx hk hz;have hkey:∀id,U id->∀ver e l,vah st id=some (ver,e,l)->(ver=0\/U (ver-1))->NavKept cx.P w w' (F id) (F id) (ρ id):=by
  intro id _ ver e l hs _;refine .of hk.ty λb o hf=> ?_;refine ⟨hf,λy hy _=>(hk.same (ha id ?_ b o hf)).cell hy⟩;unfold vah at hs;cases hn:st.node id with
  |none=>rw [hn] at hs;cases hs
  |some n=>rfl
 refine ⟨λt=>(h.slots t).mono (h.ids t) hzs (λ_ _=>rfl) (.refl _ _) hkey,h.ids,λid n hn=> ?_,h.used,h.apart,h.apartX,h.mine,?_,h.one,h.kept.trans hk hm,h.zold,h.size,h.small,h.defers⟩
 ·exact (h.nodes id n hn).mono (h.used id n hn).1 (h.used id n hn).2 hzs (λ_ _=>rfl) (.refl _ _) hkey (λ_ _=>Iff.rfl)
   λb o hf=>hk.same (ha id (by rw [hn];rfl) b o hf)
 ·intro b o hx;obtain ⟨h1,h2,h3⟩:=h.mineX b o hx;exact ⟨h1,h2,Nat.lt_of_lt_of_le h3 hk.size⟩
def upd {α:Type} (f:Nat->α) (i:Nat) (x:α) (j:Nat):α:=if j=i then x else f j
theorem va5 {α:Type} (f:Nat->α) (i:Nat) (x:α):upd f i x i=x:=by simp [upd]
theorem vce {α:Type} (f:Nat->α) {i j:Nat} (x:α) (h:j≠i):upd f i x j=f j:=by simp [upd,h]
def St.setNode (st:St) (id:Nat) (n:Option Node):St:={st with nodes:=(id,n)::st.nodes}
theorem St.setNode_node (st:St) (id j:Nat) (n:Option Node):(st.setNode id n).node j=if id=j then n else st.node j:=vgd st id j n
theorem ve2 (st:St) {id j:Nat} (n:Option Node) (h:j≠id):vah (st.setNode id n) j=vah st j:=by
 unfold vah;rw [St.setNode_node,if_neg (λe=>h e.symm)]
theorem vma {st:St} {id:Nat} (h:vah st id≠none):(st.node id).isSome=true:=by
 unfold vah at h;cases hn:st.node id with
 |none=>rw [hn] at h;exact absurd rfl h
 |some n=>rfl
theorem G.update (h:G cx U X ρ F st a w) {U':Nat->Prop} {id:Nat} {o:Option Node} {v':Value} {Fn X' M:vaj} {w':World}
  (hU':∀i,U i->U' i) (hk:Kept w w' M) (hMz:∀b o,M b o->¬zU cx.Z b o) (hMm:∀b o,M b o->b<cx.w0.heap.size->cx.M0 b o)
  (hMa:∀i,i≠id->(st.node i).isSome=true->Apart (F i) M) (hv:U id->v'=ρ id) (hv1:one1 v'=true)
  (hsh:ShapeKept U (vah st) (vah (st.setNode id o)))
  (hnav:U id->∀ver e l,vah (st.setNode id o) id=some (ver,e,l)->(ver=0\/U (ver-1))->∀b o,F id b o->Fn b o/\∀y,w.cell? ⟨b,o,none⟩=some y->isSliceV y=true->w'.cell? ⟨b,o,none⟩=some y)
  (hn:∀n,o=some n->NR cx.P w' cx.Z (upd ρ id v') (upd F id Fn) (vah (st.setNode id o)) id n/\U' id/\n.idsIn U')
  (hf:o≠none->(∀b o,Fn b o->¬zU cx.Z b o/\(cx.M0 b o\/cx.w0.heap.size<=b))/\(∀i,i≠id->(st.node i).isSome=true->Apart (F i) Fn)/\Apart Fn X')
  (hX:∀b o,X' b o->¬zU cx.Z b o/\(cx.M0 b o\/cx.w0.heap.size<=b)/\b<w'.heap.size) (hXa:∀i,i≠id->(st.node i).isSome=true->Apart (F i) X'):
  G cx U' X' (upd ρ id v') (upd F id Fn) (st.setNode id o) a w':=by
 have hzs:=vst cx hk hMz;have hρ:∀j,U j->upd ρ id v' j=ρ j:=by
  intro j hj;by_cases e:j=id
  ·subst e;rw [va5];exact hv hj
  ·exact vce _ _ e
 have hkey:∀j,U j->∀ver e l,vah (st.setNode id o) j=some (ver,e,l)->(ver=0\/U (ver-1))->NavKept cx.P w w' (F j) (upd F id Fn j) (ρ j):=by
  intro j hj ver el l hs hver;refine .of hk.ty λb q hfj=> ?_;by_cases e:j=id
  ·subst e;rw [va5];exact hnav hj ver el l hs hver b q hfj
  ·rw [vce _ _ e];rw [ve2 st o e] at hs;exact ⟨hfj,λy hy _=>(hk.same (hMa j e (vma (by rw [hs];simp)) b q hfj)).cell hy⟩
 have hsome:∀j,j≠id->((st.setNode id o).node j).isSome=true->(st.node j).isSome=true:=by
  intro j e hj;rwa [St.setNode_node,if_neg (λx=>e x.symm)] at hj
 have hid:((st.setNode id o).node id).isSome=true->o≠none:=by
  intro hj e;rw [St.setNode_node,if_pos rfl,e] at hj;cases hj
 refine ⟨λt=>(h.slots t).mono (h.ids t) hzs hρ hsh hkey,λt=>(h.ids t).mono hU',?_,?_,?_,?_,?_,hX,?_,h.kept.trans hk hMm,h.zold,h.size,h.small,h.defers⟩
 ·intro j n hj;rw [St.setNode_node] at hj;by_cases e:id=j
  ·subst e;rw [if_pos rfl] at hj;exact (hn n hj).1
  ·rw [if_neg e] at hj;have hUj:=(h.used j n hj).1;exact (h.nodes j n hj).mono hUj (h.used j n hj).2 hzs hρ hsh hkey (λb o=>by rw [vce _ _ (λx=>e x.symm)])
    λb o hf=>hk.same (hMa j (λx=>e x.symm) (by rw [hj];rfl) b o hf)
 ·intro j n hj;rw [St.setNode_node] at hj;by_cases e:id=j
  ·subst e;rw [if_pos rfl] at hj;exact (hn n hj).2
  ·rw [if_neg e] at hj;exact ⟨hU' j (h.used j n hj).1,Node.idsIn_mono hU' (h.used j n hj).2⟩
 ·intro i j hij hi hj;by_cases ei:i=id
  ·subst ei;rw [va5,vce _ _ (λx=>hij x.symm)];exact ((hf (hid hi)).2.1 j (λx=>hij x.symm) (hsome j (λx=>hij x.symm) hj)).symm
  ·by_cases ej:j=id
   ·subst ej;rw [va5,vce _ _ ei];exact (hf (hid hj)).2.1 i ei (hsome i ei hi)
   ·rw [vce _ _ ei,vce _ _ ej];exact h.apart i j hij (hsome i ei hi) (hsome j ej hj)
 ·intro i hi;by_cases ei:i=id
  ·subst ei;rw [va5];exact (hf (hid hi)).2.2
  ·rw [vce _ _ ei];exact hXa i ei (hsome i ei hi)
 ·intro i hi b o hb;by_cases ei:i=id
  ·subst ei;rw [va5] at hb;exact (hf (hid hi)).1 b o hb
  ·rw [vce _ _ ei] at hb;exact h.mine i (hsome i ei hi) b o hb
 ·intro i;by_cases ei:i=id
  ·subst ei;rw [va5];exact hv1
  ·rw [vce _ _ ei];exact h.one i
theorem vd6 {α:Type} (f:Nat->α) (i:Nat):upd f i (f i)=f:=by
 funext j;unfold upd;split
 ·next h=>rw [h]
 ·rfl
theorem G.drop (h:G cx U X ρ F st a w) {id:Nat} {n:Node} (hn:st.node id=some n) (hin:∀b o,F id b o->b<w.heap.size):
  G cx U (λb o=>X b o\/F id b o) ρ F (st.setNode id none) a w:=by
 have hs:(st.node id).isSome=true:=by rw [hn];rfl
 have:=h.update (U':=U) (id:=id) (o:=none) (v':=ρ id) (Fn:=F id) (X':=λb o=>X b o\/F id b o) (M:=λ_ _=>False) (w':=w)
  (λ_ h=>h) (Kept.refl _ _) (λ_ _ h=>h.elim) (λ_ _ h=>h.elim) (λ_ _ _ _ _ _ h=>h) (λ_=>rfl) (h.one id)
  (by
   intro j _ ver e l hj;by_cases ej:j=id
   ·subst ej;unfold vah at hj;rw [St.setNode_node,if_pos rfl] at hj;cases hj
   ·rw [ve2 st none ej] at hj;exact ⟨ver,hj,λ_=>rfl⟩)
  (λ_ ver e l hs=>by unfold vah at hs;rw [St.setNode_node,if_pos rfl] at hs;cases hs) (λn hn=>by cases hn) (λhne=>absurd rfl hne)
  (by
   intro b o hx;rcases hx with hx|hx
   ·exact h.mineX b o hx
   ·exact ⟨(h.mine id hs b o hx).1,(h.mine id hs b o hx).2,hin b o hx⟩)
  (by
   intro i hi his b o hf hx;rcases hx with hx|hx
   ·exact h.apartX i his b o hf hx
   ·exact h.apart i id hi his hs b o hf hx)
 rw [vd6,vd6] at this;exact this
theorem G.less (h:G cx U X ρ F st a w) {X':vaj} (hx:∀b o,X' b o->X b o):G cx U X' ρ F st a w:=
 ⟨h.slots,h.ids,h.nodes,h.used,h.apart,λi hi b o hf hb=>h.apartX i hi b o hf (hx b o hb),h.mine,λb o hb=>h.mineX b o (hx b o hb),h.one,h.kept,h.zold,h.size,h.small,h.defers⟩
theorem G.more (h:G cx U X ρ F st a w) {U':Nat->Prop} (hu:∀i,U i->U' i):G cx U' X ρ F st a w:=
 ⟨h.slots,λt=>(h.ids t).mono hu,h.nodes,λi n hn=>⟨hu i (h.used i n hn).1,Node.idsIn_mono hu (h.used i n hn).2⟩,h.apart,h.apartX,h.mine,h.mineX,h.one,h.kept,h.zold,h.size,h.small,h.defers⟩
theorem vs6 (st:St) {b:Nat} (hb:¬U b) (n:Node):ShapeKept U (vah st) (vah (st.setNode b (some n))):=by
 intro j hj ver e l hs;rw [ve2 st _ (by rintro rfl;exact hb hj)] at hs;exact ⟨ver,hs,λ_=>rfl⟩
theorem G.tr_new (_h:G cx U X ρ F st a w) {b:Nat} (hb:¬U b) (n:Node) (v:Value) (Fn:vaj) {c:TV} {u:Value} (hc:TR cx.P w cx.Z ρ F (vah st) c u) (hi:idsIn U c):
  TR cx.P w cx.Z (upd ρ b v) (upd F b Fn) (vah (st.setNode b (some n))) c u:=
 hc.mono hi (λ_ _ _ cur _ _ h=>⟨cur,h,rfl,rfl⟩) (λ_ hj=>vce _ _ (by rintro rfl;exact hb hj)) (vs6 st hb n)
  (λ_ hj _ _ _ _ _=> .of (.refl _) λ_ _ hf=>⟨by rw [vce _ _ (by rintro rfl;exact hb hj)];exact hf,λ_ hy _=>hy⟩)
theorem G.add (h:G cx U X ρ F st a w) {b:Nat} (hb:¬U b) {n:Node} {v:Value} {Fn X':vaj} (hv:one1 v=true) (hFn:∀b o,Fn b o->X b o) (hX':∀b o,X' b o->X b o) (hap:Apart Fn X')
  (hn:NR cx.P w cx.Z (upd ρ b v) (upd F b Fn) (vah (st.setNode b (some n))) b n) (hi:n.idsIn λi=>U i\/i=b):
  G cx (λi=>U i\/i=b) X' (upd ρ b v) (upd F b Fn) (st.setNode b (some n)) a w:=
 h.update (M:=λ_ _=>False) (λ_ h=> .inl h) (Kept.refl _ _) (λ_ _ h=>h.elim) (λ_ _ h=>h.elim) (λ_ _ _ _ _ _ h=>h) (λhu=>absurd hu hb) hv (vs6 st hb n)
  (λhu=>absurd hu hb) (λn' hn'=>by cases hn';exact ⟨hn,.inr rfl,hi⟩)
  (λ_=>⟨λb o hf=>⟨(h.mineX b o (hFn b o hf)).1,(h.mineX b o (hFn b o hf)).2.1⟩,λi _ his b o hf hfn=>h.apartX i his b o hf (hFn b o hfn),hap⟩)
  (λb o hx=>h.mineX b o (hX' b o hx)) (λi _ his b o hf hx=>h.apartX i his b o hf (hX' b o hx))
theorem G.alloc (h:G cx U X ρ F st a w) (x:Obj):G cx U (λb o=>X b o\/b=w.heap.size) ρ F st a (w.alloc x):=by
 have hw:=h.world (Kept.alloc w x λ_ _=>False) (λ_ _ h=>h.elim) (λ_ _ h=>h.elim) (λ_ _ _ _ _ h=>h);have hold:∀i,(st.node i).isSome=true->∀b o,F i b o->b<w.heap.size:=by
  intro i hi b o hf;cases hn:st.node i with
  |none=>rw [hn] at hi;cases hi
  |some n=>
   have hN:=h.nodes i n hn;cases hN with
   |bx z cs b' off cur t hr hb hsz hne hc hFi hzz=>obtain ⟨_,rfl,_⟩:=(hFi b o).1 hf;exact (Ab.1 hb).1
   |sl q ver e es hd=>exact hd.inside b o hf
 refine ⟨hw.slots,hw.ids,hw.nodes,hw.used,hw.apart,?_,hw.mine,?_,hw.one,hw.kept,hw.zold,hw.size,hw.small,hw.defers⟩
 ·intro i hi b o hf hx;rcases hx with hx|rfl
  ·exact h.apartX i hi b o hf hx
  ·exact absurd (hold i hi _ o hf) (Nat.lt_irrefl _)
 ·intro b o hx;rcases hx with hx|rfl
  ·exact hw.mineX b o hx
  ·refine ⟨λhz=> ?_,.inr h.kept.size,by simp⟩;have:=(h.zold _ _ hz).1;have:=h.kept.size;omega
theorem G.inside (h:G cx U X ρ F st a w) {i:Nat} (hi:(st.node i).isSome=true):∀b o,F i b o->b<w.heap.size:=by
 intro b o hf;cases hn:st.node i with
 |none=>rw [hn] at hi;cases hi
 |some n=>
  have hN:=h.nodes i n hn;cases hN with
  |bx z cs b' off cur t hr hb hsz hne hc hFi hzz=>obtain ⟨_,rfl,_⟩:=(hFi b o).1 hf;exact (Ab.1 hb).1
  |sl q ver e es hd=>exact hd.inside b o hf
theorem G.drew (h:G cx U X ρ F st a w):G cx U X ρ F st a w.drew:=
 h.world (Kept.drew w λ_ _=>False) (λ_ _ h=>h.elim) (λ_ _ h=>h.elim) (λ_ _ _ _ _ h=>h)
inductive Does (P:Program) (o:Oper) (a:Act) (w:World) (R:Act->World->Prop):Prop
 |value (v:Value) (w':World) (h:(execOp a.eval o).run P w= .ok (.value v) w') (hr:R (a.put o.dst v) w')
 |skip (w':World) (h:(execOp a.eval o).run P w= .ok .skip w') (hr:R (a.put o.dst undef) w')
 |call (h:∀(K:Act->World->Prop) (Q:Exit->Act->World->Prop),(∀a w,R a w->K a w)->o.wp P a w K Q)
theorem Does.wp {P:Program} {o:Oper} {a:Act} {w:World} {R:Act->World->Prop} (h:Does P o a w R) {K:Act->World->Prop} {Q:Exit->Act->World->Prop} (hk:∀a w,R a w->K a w):
  o.wp P a w K Q:=by
 cases h with
 |value v w' h hr=>unfold Oper.wp;rw [h];exact hk _ _ hr
 |skip w' h hr=>unfold Oper.wp;rw [h];exact hk _ _ hr
 |call h=>exact h K Q hk
def Rel (cx:Cx) (U:Nat->Prop) (st:St) (a:Act) (w:World):Prop:=∃ρ F,G cx U (λ_ _=>False) ρ F st a w
theorem vq4 (h:G cx U X ρ F st a w) {t:Nat} (ht:t<10000):TR cx.P w cx.Z ρ F (vah st) (st.slot t) (a.tmps.getD t undef):=by
 have:=h.slots t;unfold Cx.val at this
 rwa [if_pos ht] at this
theorem vbw (h:G cx U X ρ F st a w) {t:Nat} {x:Operand} {y:Opd} (hc:cOpd cx.P t x=some y) {c:TV} {s1:St} (hr:(opd y).run st=some (c,s1)):
  s1=st/\TR cx.P w cx.Z ρ F (vah st) c (a.eval x)/\idsIn U c:=by
 cases x with
 |tmp n=>
  simp only [cOpd] at hc;split at hc
  ·rename_i hn;cases hc;have:=vjy hr;cases this;exact ⟨rfl,vq4 h hn,h.ids n⟩
  ·cases hc
 |func f=>
  simp only [cOpd,Aa] at hc;subst hc;simp only [opd,M.run,Aa,Ag] at hr;obtain ⟨rfl,rfl⟩:=hr;exact ⟨rfl,.fn f [] [] #[] #[] rfl rfl (by simp) (by simp),⟨trivial,trivial⟩⟩
 |«global» g=>simp [cOpd] at hc
 |const v=>
  have key:∀v,cOpd cx.P t (.const v)=some y->(∃e m,v= .slice none 0 0/\y= .nl e/\va8 cx.P e=some m)\/y= .c v:=by
   intro v hc;unfold cOpd at hc;split at hc
   ·rename_i h1;cases h1
   ·rename_i h1;cases h1
   ·rename_i h1;cases h1
   ·rename_i h1;cases h1;split at hc
    ·split at hc
     ·rename_i hs;cases hc;obtain ⟨m,hm⟩:=Option.isSome_iff_exists.1 hs;exact .inl ⟨_,m,rfl,rfl,hm⟩
     ·cases hc
    ·cases hc
   ·rename_i h1;cases h1;split at hc
    ·cases hc;exact .inr rfl
    ·cases hc
  rcases key v hc with ⟨e,m,rfl,rfl,hm⟩|rfl
  ·simp only [opd,M.run,Aa,Ag] at hr;obtain ⟨rfl,rfl⟩:=hr;exact ⟨rfl,.nl e m hm,trivial⟩
  ·simp only [opd,M.run,Aa,Ag] at hr;obtain ⟨rfl,rfl⟩:=hr;exact ⟨rfl,.a v,trivial⟩
inductive TRL (P:Program) (w:World) (Z:Zn) (ρ:Nat->Value) (F:Nat->vaj) (sh:va2):List TV->List Value->Prop
 |nil:TRL P w Z ρ F sh [] []
 |cons {c:TV} {v:Value} {cs:List TV} {vs:List Value} (h:TR P w Z ρ F sh c v) (hs:TRL P w Z ρ F sh cs vs):TRL P w Z ρ F sh (c::cs) (v::vs)
theorem TRL.length {P:Program} {w:World} {Z:Zn} {sh:va2} {cs:List TV} {vs:List Value} (h:TRL P w Z ρ F sh cs vs):vs.length=cs.length:=by
 induction h with
 |nil=>rfl
 |cons _ _ ih=>simp [ih]
theorem TRL.get {P:Program} {w:World} {Z:Zn} {sh:va2} {cs:List TV} {vs:List Value} (h:TRL P w Z ρ F sh cs vs):∀(i:Nat) c u,cs[i]? =some c->vs[i]? =some u->TR P w Z ρ F sh c u:=by
 induction h with
 |nil=>intro i c u h;simp at h
 |cons h hs ih=>
  intro i c u hc hu;cases i with
  |zero=>simp at hc hu;subst hc hu;exact h
  |succ i=>exact ih i c u (by simpa using hc) (by simpa using hu)
theorem TRL.of {P:Program} {w:World} {Z:Zn} {sh:va2}:∀{cs:List TV} {vs:List Value},vs.length=cs.length->(∀(i:Nat) c u,cs[i]? =some c->vs[i]? =some u->TR P w Z ρ F sh c u)->TRL P w Z ρ F sh cs vs
 | [],[],_,_=> .nil
 |c::cs,v::vs,hl,h=> .cons (h 0 c v rfl rfl) (TRL.of (by simpa using hl) λi c u hc hu=>h (i+1) c u (by simpa using hc) (by simpa using hu))
 | [],_::_,hl,_=>by simp at hl
 |_::_,[],hl,_=>by simp at hl
theorem vmy (h:G cx U X ρ F st a w) (xs:List (Nat×Operand)):∀{ys:List Opd} {cs:List TV} {s1:St},cOpds cx.P xs=some ys->(opds ys).run st=some (cs,s1)->
  s1=st/\TRL cx.P w cx.Z ρ F (vah st) cs (xs.map λx=>a.eval x.2)/\vap U cs:=by
 induction xs with
 |nil=>
  intro ys cs s1 hc hr;simp only [cOpds,Aa] at hc;subst hc;simp only [opds,M.run,Aa,Ag] at hr;obtain ⟨rfl,rfl⟩:=hr;exact ⟨rfl,.nil,trivial⟩
 |cons tx xs ih=>
  intro ys cs s1 hc hr;obtain ⟨t,x⟩:=tx;simp only [cOpds] at hc;split at hc
  ·rename_i y ys' hy hys;cases hc;obtain ⟨c,s2,h1,h2⟩:=vaa hr;obtain ⟨cs',s3,h3,h4⟩:=vaa h2;cases run_pure h4;obtain ⟨rfl,g1,g2⟩:=vbw h hy h1;obtain ⟨rfl,g3,g4⟩:=ih hys h3;exact ⟨rfl,.cons g1 g3,g2,g4⟩
  ·cases hc
theorem G.rel_put (h:G cx U X ρ F st a w) {d:Nat} {c:TV} {v:Value} (hd:d<cx.n) (hc:TR cx.P w cx.Z ρ F (vah st) c v) (hi:idsIn U c):
  Rel cx U {st with slots:=(d,c)::st.slots} (a.put (some d) v) w:=
 ⟨ρ,F,(h.less (X':=λ_ _=>False) λ_ _ h=>h.elim).put hd hc hi⟩
theorem Rel.more {U':Nat->Prop} (h:Rel cx U st a w) (hu:∀i,U i->U' i):Rel cx U' st a w:=by
 obtain ⟨ρ,F,h⟩:=h;exact ⟨ρ,F,h.more hu⟩
theorem qnp (w:World) (x:Obj):(w.alloc x).heap[w.heap.size]? =some x:=heap_alloc_new w x
theorem G.newBox (h:G cx U X ρ F st a w) {b:Nat} (hb:¬U b) {cs:List TV} {us:Array Value} (hne:cs≠[]) (hl:us.size=cs.length)
  (hc:∀(i:Nat) c u,cs[i]? =some c->us[i]? =some u->TR cx.P w cx.Z ρ F (vah st) c u) (hi:vap U cs) (t:TypeId):
  ∃ρ' F',G cx (λi=>U i\/i=b) X ρ' F' (st.setNode b (some (.bx false cs))) a (w.alloc (.cells us t))/\ρ' b= .pointer (some ⟨w.heap.size,0,none⟩):=by
 have h1:=h.alloc (.cells us t);have hX:∀b o,X b o->b<w.heap.size:=λb o hx=>(h.mineX b o hx).2.2
 refine ⟨_,_,h1.add (b:=b) hb (n:= .bx false cs) (v:= .pointer (some ⟨w.heap.size,0,none⟩)) (Fn:=λb o=>b=w.heap.size/\0<=o/\o<0+cs.length) (X':=X) rfl
  (λb o hf=> .inr hf.1) (λb o hx=> .inl hx) (λb o hf hx=>by have:=hX b o hx;have:=hf.1;omega) ?_ (vap.mono (λ_ h=> .inl h) hi),va5 _ _ _⟩
 refine .bx false cs w.heap.size 0 us t (va5 _ _ _) (qnp w _) zo hne ?_ (λb' o'=>by rw [va5];simp) (by simp);intro i c hci u hu;rw [Nat.zero_add] at hu;have hold:=hc i c u hci hu;refine h1.tr_new hb _ _ _ ?_ (vbm hi hci);exact hold.mono (vbm hi hci) (vst cx (Kept.alloc w _ λ_ _=>False) (λ_ _ h=>h.elim)) (λ_ _=>rfl) (.refl _ _)
  λid _ _ _ _ hs _=> .of (Kept.ty (Kept.alloc w _ λ_ _=>False)) λb o hf=>⟨hf,λy hy _=>by
   rw [World.cell?_alloc_lt w _ _ (h.inside (vma (by rw [hs];simp)) b o hf)];exact hy⟩
theorem qj4 {v:Value} (h:one1 v=true):v.cells= #[v]:=by
 cases v<;>first|rfl|cases h
theorem TR.row {P:Program} {w:World} {Z:Zn} {sh:va2} {c:TV} {v:Value} (h:TR P w Z ρ F sh c v) (hone:∀i,one1 (ρ i)=true) {cs:List TV} (hr:c.row=some cs):
  TRL P w Z ρ F sh cs v.cells.toList/\(c.cells=cs):=by
 have single:∀{c:TV} {v:Value},TR P w Z ρ F sh c v->one1 v=true->TRL P w Z ρ F sh [c] v.cells.toList:=by
  intro c v h hv;rw [qj4 hv];exact .cons h .nil
 cases h with
 |a v=>
  simp only [TV.row] at hr;split at hr
  ·rename_i hv;cases hr;exact ⟨single (.a v) hv,rfl⟩
  ·cases hr
 |nl e m hm=>cases hr;exact ⟨single (.nl e m hm) rfl,rfl⟩
 |rf id=>cases hr;exact ⟨single (.rf id) (hone id),rfl⟩
 |ri id ver p v h1 h=>cases hr;exact ⟨single (.ri id ver p v h1 h) h1,rfl⟩
 |sb id lo n v h1 h=>cases hr;exact ⟨single (.sb id lo n v h1 h) h1,rfl⟩
 |ad id o b off h=>cases hr;exact ⟨single (.ad id o b off h) rfl,rfl⟩
 |ea id i m o v h1 h=>cases hr;exact ⟨single (.ea id i m o v h1 h) h1,rfl⟩
 |ei id ver p i m o v h1 h=>cases hr;exact ⟨single (.ei id ver p i m o v h1 h) h1,rfl⟩
 |sz e es v h=>cases hr;exact ⟨single (.sz e es v h) h.one,rfl⟩
 |ez cs o x hx vs hc=>cases hr;exact ⟨single (.ez cs o x hx vs hc) rfl,rfl⟩
 |st cs us hl h=>cases hr;exact ⟨.of (by simpa [Value.cells] using hl) λi c u hc hu=>h i c u hc (by simpa [Value.cells] using hu),rfl⟩
 |tp cs us hl h=>cases hr
 |fn f fs cs xs us hx hl hf h=>cases hr;exact ⟨single (.fn f fs cs xs us hx hl hf h) rfl,rfl⟩
 |ic t c u h=>cases hr;exact ⟨single (.ic t c u h) rfl,rfl⟩
 |un v=>cases hr
theorem viw {U:Nat->Prop} {c:TV} (h:idsIn U c):vap U c.cells:=by
 cases c with
 |st cs=>exact h
 |_=>exact ⟨h,trivial⟩
theorem qjs {op : BinOp} {k : IntKind} {x y : Int} {v : Value} (h : vep op k x y = some v) (hs : vdp op = false) (t : TypeId) : binOp op t (.int k x) (.int k y) = Sem.pure v := by
  cases op <;> simp only [vep, vdp, Aa, reduceCtorEq] at h hs <;>
    first
    | (subst h; simp only [binOp, ne_eq, not_true_eq_false, if_false]; rfl)
    | (split at h
       · cases h
       · rename_i hb
         cases h;simp only [binOp, ne_eq, not_true_eq_false, if_false, Op.intDiv, hb]
         rfl)
theorem qn8 {op : BinOp} {k k' : IntKind} {x y : Int} {v : Value} (h : vep op k x y = some v) (hs : vdp op = true) (t : TypeId) : binOp op t (.int k x) (.int k' y) = Sem.pure v := by
  cases op <;> simp only [vep, vdp, Aa, reduceCtorEq] at h hs <;>
    (split at h
     · cases h
     · rename_i hb
       cases h;simp only [binOp, Op.shift, hb, if_false]
       rfl)
theorem qjx {op : BinOp} {x y : ByteArray} {v : Value} (h : strBin op x y = some v) (t : TypeId) : binOp op t (.string x) (.string y) = Sem.pure v := by
  cases op <;> simp only [strBin, Aa, reduceCtorEq] at h <;>
    first
    | (subst h; rfl)
    | (split at h
       · rename_i hb
         cases h;simp only [binOp, Op.stringOp]
         rw [if_neg (by have h63 : IntKind.i64.max = 9223372036854775807 := by decide
                        rw [h63]; omega)]
         rfl
       · cases h)
theorem vns {op:BinOp} {t:TypeId} {x y:Operand} {u v:Value} (h:∀w,u≠ .nilIface/\u≠ .agg w):eqGuard op t x y u v=Sem.pure ():=by
 unfold eqGuard;cases op<;>cases u<;>first|rfl|exact absurd rfl (h default).1|exact absurd rfl (h _).2
theorem vud {P:Program} {w:World} {t:TypeId} (ht:P.underlying t=some .bool) (x y:Bool):(Op.equal t (.bool x) (.bool y)).run P w= .ok (x==y) w:=by
 unfold Op.equal Op.maxDepth;rw [show (10000:Nat)=9999+1 from rfl,Op.equalIn];simp only [underlying,Sem.run_bind,run_program,Result.andThen_ok,ht,Sem.run_pure]
theorem qvc {P:Program} {w:World} {op:BinOp} {t:TypeId} {x y:Operand} {u v r:Value} (h:binA op u v=some r):
  (do eqGuard op t x y u v;binOp op t u v:Sem Value).run P w= .ok r w:=by
 have guard:eqGuard op t x y u v=Sem.pure ():=by
  apply vns;intro w;cases u<;>first|(cases h;done)|exact ⟨by simp,by simp⟩
 rw [guard];simp only [Sem.run_bind,Sem.run_pure',Result.andThen_ok];unfold binA at h;split at h
 ·rename_i k a k' b;by_cases hs:vdp op=true
  ·simp only [hs,Bool.true_or,if_true] at h;rw [qn8 h hs];rfl
  ·simp only [hs,Bool.false_or] at h;split at h
   ·rename_i hk;have hk:k=k':=by simpa using hk
    subst hk;rw [qjs h (by simpa using hs)];rfl
   ·cases h
 ·rw [qjx h];rfl
 ·cases h
theorem qby {P:Program} {t:TypeId} (h:boolT P t=true):P.underlying t=some .bool:=by
 unfold boolT und at h;split at h
 ·assumption
 ·cases h
theorem qt9 {P:Program} {w:World} {op:BinOp} {t:TypeId} {x y:Operand} {u v:Bool} {ne:Bool} (ht:boolT P t=true) (h:eqSign op=some ne):
  (do eqGuard op t x y (.bool u) (.bool v);binOp op t (.bool u) (.bool v):Sem Value).run P w= .ok (.bool (if ne then u !=v else u==v)) w:=by
 rw [vns (u:= .bool u) (λ_=>⟨by simp,by simp⟩)];simp only [Sem.run_bind,Sem.run_pure',Result.andThen_ok];cases op<;>cases h
 ·simp only [binOp,Sem.run_bind,vud (qby ht),Result.andThen_ok,Sem.run_pure];rfl
 ·simp only [binOp,Sem.run_bind,vud (qby ht),Result.andThen_ok,Sem.run_pure];rfl
theorem eqF {P:Program} {w:World} {d:Nat} {xs ys:Array Value}:∀{fs:List Field} {off:Nat} {us vs:List TV} {r:Bool},fs.map (·.offset)=List.range' off fs.length->(∀f∈fs,f.name≠ "_" /\∃k,P.underlying f.type=some (.int k))->us.length=fs.length->
  (∀i v,us[i]? =some (.a v)->xs[off+i]? =some v)->(∀i v,vs[i]? =some (.a v)->ys[off+i]? =some v)->rowEq us vs=some r->(Op.eqFields (d+1) xs ys fs).run P w= .ok r w
 | [],off,us,vs,r,_,_,hl,_,_,hr=>by
  obtain rfl:us= []:=List.length_eq_zero_iff.1 hl;cases vs with
  |nil=>cases hr;simp [Op.eqFields]
  |cons v vs=>simp [rowEq] at hr
 |f::fs,off,us,vs,r,ho,hf,hl,hx,hy,hr=>by
  unfold rowEq at hr;split at hr
  ·simp at hl
  ·rename_i k x us' k' y vs';split at hr
   ·rename_i hk;subst hk;obtain ⟨r',hr',rfl⟩:=Option.map_eq_some_iff.1 hr;simp only [List.map_cons,List.length_cons,List.range'_succ,List.cons.injEq] at ho;obtain ⟨hn,q,hq⟩:=hf f (by simp);have p1:(part f.type xs f.offset).run P w= .ok (.int k x) w:=by
     have:=hx 0 (.int k x) rfl;rw [ho.1];simp [part,isAgg,run_underlying hq,show xs[off]? =some (Value.int k x) from this]
    have p2:(part f.type ys f.offset).run P w= .ok (.int k y) w:=by
     have:=hy 0 (.int k y) rfl;rw [ho.1];simp [part,isAgg,run_underlying hq,show ys[off]? =some (Value.int k y) from this]
    have ih:=eqF (P:=P) (w:=w) (d:=d) (xs:=xs) (ys:=ys) (fs:=fs) (off:=off+1) (us:=us') (vs:=vs') (r:=r') ho.2 (λg hg=>hf g (by simp [hg])) (by simpa using hl)
     (λi v h=>by have:=hx (i+1) v (by simpa using h);rwa [show off+(i+1)=off+1+i by omega] at this) (λi v h=>by have:=hy (i+1) v (by simpa using h);rwa [show off+(i+1)=off+1+i by omega] at this) hr'
    simp only [Op.eqFields,hn,ne_eq,not_false_eq_true,if_true,Sem.run_bind,p1,p2,Result.andThen_ok,run_equalIn_int w d f.type k q x y hq];by_cases hxy:x=y
    ·subst hxy;simp [ih]
    ·simp [hxy]
   ·cases hr
  ·cases hr
theorem qpc {P:Program} {w:World} {op:BinOp} {t:TypeId} {x y:Operand} {xs ys:Array Value} {us vs:List TV} {r:Bool} {ne:Bool} (ht:stT P t=some us.length) (h:eqSign op=some ne)
  (hx:∀(i:Nat) (v:Value),us[i]? =some (TV.a v)->xs[i]? =some v) (hy:∀(i:Nat) (v:Value),vs[i]? =some (TV.a v)->ys[i]? =some v) (hr:rowEq us vs=some r):
  (do eqGuard op t x y (.agg xs) (.agg ys);binOp op t (.agg xs) (.agg ys):Sem Value).run P w= .ok (.bool (if ne then !r else r)) w:=by
 unfold stT at ht;split at ht
 ·rename_i fs hu;have hu:P.underlying t=some (.struct fs):=hu;split at ht
  case isFalse=>cases ht
  rename_i hc;have hn:us.length=fs.toList.length:=(Aj ht).symm;simp only [Bool.and_eq_true,Bool.not_eq_true',List.all_eq_true,beq_iff_eq] at hc;obtain ⟨⟨⟨h1,h2⟩,h3⟩,h4⟩:=hc;have hfs:P.fieldsOf t=fs:=by simp [Program.fieldsOf,hu]
  have he:(Op.equal t (.agg xs) (.agg ys)).run P w= .ok r w:=by
   unfold Op.equal Op.maxDepth;rw [show (10000:Nat)=9999+1 from rfl,run_equalIn_struct w 9999 t xs ys (by rw [hfs];exact hu) h1,hfs];refine eqF (d:=9998) (off:=0) h3 (λf hf=> ?_) hn (λi v h=>by rw [Nat.zero_add];exact hx i v h) (λi v h=>by rw [Nat.zero_add];exact hy i v h) hr;have h5:=h4 f hf;rw [bne_iff_ne] at h5;refine ⟨h5.1,?_⟩;have h6:=h5.2;split at h6
   ·rename_i k hk;exact ⟨k,hk⟩
   ·cases h6
  have hg:(eqGuard op t x y (.agg xs) (.agg ys)).run P w= .ok () w:=by
   unfold eqGuard;cases op<;>cases h<;>simp [run_program,h2]
  simp only [Sem.run_bind,hg,Result.andThen_ok];cases op<;>cases h
  ·simp only [binOp,Sem.run_bind,he,Result.andThen_ok,Sem.run_pure];rfl
  ·simp only [binOp,Sem.run_bind,he,Result.andThen_ok,Sem.run_pure];rfl
 ·cases ht
theorem qwy {op:UnOp} {u v:Value} (h:unA op u=some v):Op.unary op u=Sem.pure v:=by
 unfold unA at h;split at h
 ·cases op<;>cases h;rfl
 ·cases op<;>cases h<;>rfl
 ·cases h
def Win (U:Nat->Prop) (b:Nat):Nat->Prop:=λi=>U i\/(b<=i/\i<b+100)
def Now (cx:Cx) (U:Nat->Prop) (b:Nat) (o:Oper) (st':St) (a:Act) (w:World):Prop:=Does cx.P o a w (Rel cx (Win U b) st')
theorem vbq (h:G cx U X ρ F st a w) {b:Nat} {o:Oper} {d:Nat} (ho:o.dst=some d) (hd:d<cx.n) {c:TV} {v:Value} (hrun:(execOp a.eval o).run cx.P w= .ok (.value v) w)
  (hc:TR cx.P w cx.Z ρ F (vah st) c v) (hi:idsIn U c):Now cx U b o {st with slots:=(d,c)::st.slots} a w:=by
 refine .value v w hrun ?_;rw [ho];exact (h.rel_put hd hc hi).more λ_ h=> .inl h
theorem qay (h:G cx U X ρ F st a w) {b:Nat} {o:Oper} {d:Nat} (ho:o.dst=some d) (hd:d<cx.n) {x:Operand} {t:Nat} {y:Opd} (hop:o.op= .move x\/o.op= .assign x)
  (hc:cOpd cx.P t x=some y) {s1:St} (hr:((opd y).bind (setS d)).run st=some ((),s1)):Now cx U b o s1 a w:=by
 obtain ⟨c,s2,h1,h2⟩:=vaa hr;obtain ⟨rfl,g1,g2⟩:=vbw h hc h1;cases vbd h2;refine vbq h ho hd (v:=a.eval x) ?_ g1 g2;rcases hop with e|e<;>·unfold execOp;rw [e];rfl
theorem qef (h:G cx U X ρ F st a w) {b:Nat} {o:Oper} {d:Nat} (ho:o.dst=some d) (hd:d<cx.n) {x y z:Operand} {t1 t2 t3:Nat} {x' y' z':Opd} (hop:o.op= .pick x y z)
  (hx:cOpd cx.P t1 x=some x') (hy:cOpd cx.P t2 y=some y') (hz:cOpd cx.P t3 z=some z') {s1:St}
  (hr:((opd x').bind λu=>match u with| .a (.bool t)=>(if t then opd y' else opd z').bind (setS d)|_=> .fail).run st=some ((),s1)):Now cx U b o s1 a w:=by
 obtain ⟨c,s2,h1,h2⟩:=vaa hr;obtain ⟨rfl,g1,g2⟩:=vbw h hx h1;split at h2
 ·rename_i t;obtain ⟨c',s3,h3,h4⟩:=vaa h2;have hv:a.eval x= .bool t:=by
   generalize hu:a.eval x=u at g1;cases g1;rfl
  cases t with
  |true=>
   obtain ⟨rfl,g3,g4⟩:=vbw h hy h3;cases vbd h4;refine vbq h ho hd (v:=a.eval y) ?_ g3 g4;unfold execOp;rw [hop];simp only [hv,asBool,Sem.run_bind,Sem.run_pure,Result.andThen_ok,if_true]
  |false=>
   obtain ⟨rfl,g3,g4⟩:=vbw h hz h3;cases vbd h4;refine vbq h ho hd (v:=a.eval z) ?_ g3 g4;unfold execOp;rw [hop];simp only [hv,asBool,Sem.run_bind,Sem.run_pure,Result.andThen_ok,Bool.false_eq_true,if_false]
 ·exact (vac h2).elim
theorem vib {P:Program} {Z:Zn} {sh:va2} {u v:Value} (h:TR P w Z ρ F sh (.a u) v):v=u:=by cases h;rfl
theorem qid (h:G cx U X ρ F st a w) {b:Nat} {o:Oper} {d:Nat} (ho:o.dst=some d) (hd:d<cx.n) {op:BinOp} {t t':TypeId} {x y:Operand} {x' y':Opd} (hop:o.op= .binOp op t x y t')
  (hx:cOpd cx.P t x=some x') (hy:cOpd cx.P t y=some y') {s1:St}
  (hr:((opd x').bind λu=>(opd y').bind λv=>match u,v with| .a u,.a v=>(liftO (binA op u v)).bind λr=>setS d (.a r)|_,_=> .fail).run st=some ((),s1)):Now cx U b o s1 a w:=by
 obtain ⟨c,s2,h1,h2⟩:=vaa hr;obtain ⟨rfl,g1,_⟩:=vbw h hx h1;obtain ⟨c',s3,h3,h4⟩:=vaa h2;obtain ⟨rfl,g3,_⟩:=vbw h hy h3;split at h4
 ·rename_i u v;obtain ⟨r,s4,h5,h6⟩:=vaa h4;obtain ⟨h7,rfl⟩:=vdl h5;cases vbd h6;refine vbq h ho hd (v:=r) ?_ (.a r) trivial;unfold execOp;rw [hop];have e1:=vib g1;have e2:=vib g3;simp only [e1,e2];have:=qvc (P:=cx.P) (w:=w) (t:=t) (x:=x) (y:=y) h7;simp only [Sem.run_bind] at this⊢;rw [this];rfl
 ·exact (vac h4).elim
theorem qgx (h:G cx U X ρ F st a w) {b:Nat} {o:Oper} {d:Nat} (ho:o.dst=some d) (hd:d<cx.n) {op:BinOp} {t t':TypeId} {x y:Operand} {x' y':Opd} {ne:Bool} (hop:o.op= .binOp op t x y t')
  (hx:cOpd cx.P t x=some x') (hy:cOpd cx.P t y=some y') (ht:boolT cx.P t=true) (hs:eqSign op=some ne) {s1:St}
  (hr:((opd x').bind λu=>(opd y').bind λv=>match 0,u,v with|0,.a (.bool u),.a (.bool v)=>setS d (.a (.bool (if ne then u !=v else u==v)))|m+1,.st us,.st vs=>(liftO (if us.length=m+1 then rowEq us vs else none)).bind λr=>setS d (.a (.bool (if ne then !r else r)))|_,_,_=> .fail).run st=some ((),s1)):Now cx U b o s1 a w:=by
 obtain ⟨c,s2,h1,h2⟩:=vaa hr;obtain ⟨rfl,g1,i1⟩:=vbw h hx h1;obtain ⟨c',s3,h3,h4⟩:=vaa h2;obtain ⟨rfl,g3,i3⟩:=vbw h hy h3;split at h4
 ·rename_i u v h0;cases vbd h4;refine vbq h ho hd ?_ (.a _) trivial;unfold execOp;rw [hop];have e1:=vib g1;have e2:=vib g3;simp only [e1,e2];have:=qt9 (P:=cx.P) (w:=w) (t:=t) (x:=x) (y:=y) (u:=u) (v:=v) ht hs;simp only [Sem.run_bind] at this⊢;rw [this];rfl
 ·rename_i h0;cases h0
 ·exact (vac h4).elim
theorem qrf (h:G cx U X ρ F st a w) {b:Nat} {o:Oper} {d:Nat} (ho:o.dst=some d) (hd:d<cx.n) {op:BinOp} {t t':TypeId} {x y:Operand} {x' y':Opd} {ne:Bool} {n:Nat} (hop:o.op= .binOp op t x y t')
  (hx:cOpd cx.P t x=some x') (hy:cOpd cx.P t y=some y') (ht:stT cx.P t=some (n+1)) (hs:eqSign op=some ne) {s1:St}
  (hr:((opd x').bind λu=>(opd y').bind λv=>match n+1,u,v with|0,.a (.bool u),.a (.bool v)=>setS d (.a (.bool (if ne then u !=v else u==v)))|m+1,.st us,.st vs=>(liftO (if us.length=m+1 then rowEq us vs else none)).bind λr=>setS d (.a (.bool (if ne then !r else r)))|_,_,_=> .fail).run st=some ((),s1)):Now cx U b o s1 a w:=by
 obtain ⟨c,s2,h1,h2⟩:=vaa hr;obtain ⟨rfl,g1,i1⟩:=vbw h hx h1;obtain ⟨c',s3,h3,h4⟩:=vaa h2;obtain ⟨rfl,g3,i3⟩:=vbw h hy h3;split at h4
 ·rename_i h0;cases h0
 ·rename_i m us vs h0;cases h0;obtain ⟨r,s4,h5,h6⟩:=vaa h4;obtain ⟨h7,rfl⟩:=vdl h5;split at h7
  case isFalse=>cases h7
  rename_i hl;cases vbd h6;generalize e1:a.eval x=u at g1;generalize e2:a.eval y=v at g3;cases g1 with
  |st _ xs hxl hxc=>
   cases g3 with
   |st _ ys hyl hyc=>
    refine vbq h ho hd ?_ (.a _) trivial;unfold execOp;rw [hop];simp only [e1,e2];have at_:∀{sh:va2} {cs:List TV} {xs:Array Value},xs.size=cs.length->(∀(i:Nat) (c:TV) (u:Value),cs[i]? =some c->xs[i]? =some u->TR cx.P w cx.Z ρ F sh c u)->∀(i:Nat) (v:Value),cs[i]? =some (TV.a v)->xs[i]? =some v:=by
     intro sh cs xs hl hc i v hv;have hi:=(Ad.1 hv).1;have hx:xs[i]? =some xs[i]:=Ac zo;have:=vib (hc i _ _ hv hx);rw [hx,this]
    have:=qpc (P:=cx.P) (w:=w) (t:=t) (x:=x) (y:=y) (xs:=xs) (ys:=ys) (us:=us) (vs:=vs) (r:=r) (by rw [hl];exact ht) hs (at_ hxl hxc) (at_ hyl hyc) h7;simp only [Sem.run_bind] at this⊢;rw [this];rfl
 ·exact (vac h4).elim
theorem qo1 (h:G cx U X ρ F st a w) {b:Nat} {o:Oper} {d:Nat} (ho:o.dst=some d) (hd:d<cx.n) {op:UnOp} {t t':TypeId} {x:Operand} {x':Opd} (hop:o.op= .unOp op t x)
  (hx:cOpd cx.P t' x=some x') {s1:St}
  (hr:((opd x').bind λu=>match u with| .a u=>(liftO (unA op u)).bind λr=>setS d (.a r)|_=> .fail).run st=some ((),s1)):Now cx U b o s1 a w:=by
 obtain ⟨c,s2,h1,h2⟩:=vaa hr;obtain ⟨rfl,g1,_⟩:=vbw h hx h1;split at h2
 ·rename_i u;obtain ⟨r,s4,h5,h6⟩:=vaa h2;obtain ⟨h7,rfl⟩:=vdl h5;cases vbd h6;refine vbq h ho hd (v:=r) ?_ (.a r) trivial;unfold execOp;rw [hop];simp only [vib g1,qwy h7];rfl
 ·exact (vac h2).elim
theorem qj1 (h:G cx U X ρ F st a w) {b:Nat} {o:Oper} {d:Nat} (ho:o.dst=some d) (hd:d<cx.n) {s t:TypeId} {k k0:IntKind} {x:Operand} {x':Opd} (hop:o.op= .convert s t x)
  (hs:cx.P.underlying s=some (.int k0)) (ht:cx.P.underlying t=some (.int k)) (hx:cOpd cx.P s x=some x') {s1:St}
  (hr:((opd x').bind λu=>match u with| .a (.int _ n)=>setS d (.a (.int k (k.wrap n)))|_=> .fail).run st=some ((),s1)):Now cx U b o s1 a w:=by
 obtain ⟨c,s2,h1,h2⟩:=vaa hr;obtain ⟨rfl,g1,_⟩:=vbw h hx h1;split at h2
 ·cases vbd h2;refine vbq h ho hd ?_ (.a _) trivial;unfold execOp;rw [hop];simp only [vib g1,convert,underlying,Sem.run_bind,run_program,Result.andThen_ok,hs,ht,Sem.run_pure];rfl
 ·exact (vac h2).elim
theorem qkf (h:G cx U X ρ F st a w) {b:Nat} {o:Oper} {d:Nat} (ho:o.dst=some d) (hd:d<cx.n) {s t:TypeId} {x:Operand} {x':Opd} (hop:o.op= .convert s t x)
  (hs:cx.P.underlying s=some .string) (ht:cx.P.underlying t=some .string) (hx:cOpd cx.P s x=some x') {s1:St}
  (hr:((opd x').bind λu=>match u with| .a (.string s)=>setS d (.a (.string s))|_=> .fail).run st=some ((),s1)):Now cx U b o s1 a w:=by
 obtain ⟨c,s2,h1,h2⟩:=vaa hr;obtain ⟨rfl,g1,_⟩:=vbw h hx h1;split at h2
 ·cases vbd h2;refine vbq h ho hd ?_ (.a _) trivial;unfold execOp;rw [hop];simp only [vib g1,convert,underlying,Sem.run_bind,run_program,Result.andThen_ok,hs,ht,Sem.run_pure]
 ·exact (vac h2).elim
theorem vy3 {P:Program} {Z:Zn} {sh:va2} {cs:List TV} {xs:List (Nat×Operand)} (h:TRL P w Z ρ F sh cs (xs.map λx=>a.eval x.2)) {ys:Array Operand} (hy:xs.map (·.2)=ys.toList):
  (ys.map a.eval).size=cs.length/\∀(i:Nat) c u,cs[i]? =some c->(ys.map a.eval)[i]? =some u->TR P w Z ρ F sh c u:=by
 have e:(ys.map a.eval).toList=xs.map λx=>a.eval x.2:=by
  rw [Array.toList_map,<-hy,Ah];rfl
 constructor
 ·rw [<-h.length,<-e,Array.length_toList]
 ·intro i c u hc hu;refine h.get i c u hc ?_;rw [<-e,Array.getElem?_toList];exact hu
theorem qh0 (h:G cx U X ρ F st a w) {b:Nat} {o:Oper} {d:Nat} (ho:o.dst=some d) (hd:d<cx.n) {f:FuncId} {fs cs:Array Operand} {fs' cs':List Opd} (hop:o.op= .makeFunc (.func f) fs cs)
  (hf:cOpds cx.P (fs.toList.map λx=>(0,x))=some fs') (hc:cOpds cx.P (cs.toList.map λx=>(0,x))=some cs') {s1:St}
  (hr:((opds fs').bind λus=>(opds cs').bind λvs=>setS d (.fn f us vs)).run st=some ((),s1)):Now cx U b o s1 a w:=by
 obtain ⟨us,s2,h1,h2⟩:=vaa hr;obtain ⟨rfl,g1,i1⟩:=vmy h _ hf h1;obtain ⟨vs,s3,h3,h4⟩:=vaa h2;obtain ⟨rfl,g2,i2⟩:=vmy h _ hc h3;cases vbd h4;obtain ⟨k1,k2⟩:=vy3 (ys:=fs) g1 (by simp [Ah,Function.comp_def]);obtain ⟨k3,k4⟩:=vy3 (ys:=cs) g2 (by simp [Ah,Function.comp_def]);refine vbq h ho hd (v:= .func (.func f) (fs.map a.eval) (cs.map a.eval)) ?_ (.fn f us vs _ _ k1 k3 k2 k4) ⟨i1,i2⟩;unfold execOp;rw [hop];rfl
theorem qik (h:G cx U X ρ F st a w) {b:Nat} {o:Oper} {d:Nat} (ho:o.dst=some d) (hd:d<cx.n) {t:TypeId} {x:Operand} {x':Opd} (hop:o.op= .makeInterface t x)
  (hm:∀v:Value,(Instr.makeInterface t v).run cx.P w= .ok (.iface t v) w) (hx:cOpd cx.P t x=some x') {s1:St}
  (hr:((opd x').bind λv=>setS d (.ic t v)).run st=some ((),s1)):Now cx U b o s1 a w:=by
 obtain ⟨c,s2,h1,h2⟩:=vaa hr;obtain ⟨rfl,g1,i1⟩:=vbw h hx h1;cases vbd h2;refine vbq h ho hd ?_ (.ic t c _ g1) i1;unfold execOp;rw [hop];simp only [Sem.run_bind,hm,Result.andThen_ok,Sem.run_pure]
theorem qjv (h:G cx U X ρ F st a w) {b:Nat} {o:Oper} {d:Nat} (ho:o.dst=some d) (hd:d<cx.n) {x:Operand} {i t:Nat} {x':Opd} (hop:o.op= .extract x i)
  (hx:cOpd cx.P t x=some x') {s1:St}
  (hr:((opd x').bind λv=>match v with| .tp cs=>(liftO cs[i]?).bind (setS d)|_=> .fail).run st=some ((),s1)):Now cx U b o s1 a w:=by
 obtain ⟨c,s2,h1,h2⟩:=vaa hr;obtain ⟨rfl,g1,i1⟩:=vbw h hx h1;split at h2
 ·rename_i cs;obtain ⟨c',s4,h5,h6⟩:=vaa h2;obtain ⟨h7,rfl⟩:=vdl h5;cases vbd h6;generalize hu:a.eval x=u at g1;cases g1 with
  |tp _ us hl hg=>
   have hlt:i<us.size:=by rw [hl];exact (Ad.1 h7).1
   refine vbq h ho hd (v:=us[i]) ?_ (hg i _ _ h7 (Ac hlt)) (vbm i1 h7);unfold execOp;rw [hop];simp only [hu,Instr.extract,Sem.run_bind,Ac hlt,Sem.run_pure,Result.andThen_ok]
 ·exact (vac h2).elim
theorem vtu {P:Program} {Z:Zn} {sh:va2} {cs:List TV} {us:List Value} (h:∀(i:Nat) c u,cs[i]? =some c->us[i]? =some u->TR P w Z ρ F sh c u) (hl:cs.length<=us.length) (hi:vap U cs)
  {o:Nat} {wd:Option Nat} {c:TV} (hp:vbi cs o wd=some c):
  (∀n,wd=some n->o+n<=us.length/\TR P w Z ρ F sh c (.agg ((us.drop o).take n).toArray))/\(wd=none->∃u,us[o]? =some u/\TR P w Z ρ F sh c u)/\idsIn U c:=by
 cases wd with
 |none=>
  simp only [vbi] at hp;have hlt:=(Ad.1 hp).1;refine ⟨(λn hn=>by cases hn),λ_=>⟨us[o],Ae zo,h o c _ hp (Ae zo)⟩,vbm hi hp⟩
 |some n=>
  simp only [vbi] at hp;split at hp
  ·rename_i hlen;cases hp;refine ⟨λm hm=> ?_,(λhn=>by cases hn),?_⟩
   ·cases hm;refine ⟨zo,.st _ _ (by simp;omega) ?_⟩;intro i c u hc hu;rw [Ai] at hc;split at hc
    ·rename_i hin;rw [List.getElem?_drop] at hc;refine h (o+i) c u hc ?_;simpa [Ai,hin] using hu
    ·cases hc
   ·exact vdc λc hc=>vco hi c (List.mem_of_mem_drop (List.mem_of_mem_take hc))
  ·cases hp

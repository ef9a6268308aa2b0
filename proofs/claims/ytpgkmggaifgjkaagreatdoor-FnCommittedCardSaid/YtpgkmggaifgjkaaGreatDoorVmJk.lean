/- The interpreter 'VM'. -/
import Derived.Test.YtpgkmggaifgjkaaGreatDoorVmFi
import Derived.Laws.MakeOwn
import Derived.Lib.ConvBytes
open List renaming getElem?_eq_some_iff->Aa,getElem?_map->Ab,getElem?_eq_getElem->Ac,eq_nil_of_length_eq_zero->Ad,length_map->Ai,getElem?_range->Ak,replicate->Al,getElem?_of_mem->Am,getElem?_append_right->An,getElem?_append_left->Ap,mem_replicate->Ar,length_append->At,getD_eq_getElem?_getD->Au,mem_or_eq_of_mem_set->Aw,mem_map->Ay,mem_append->Az,length_set->A0,length_replicate->A2,mem_of_getElem?->A3,mem_of_mem_take->A4,mem_of_mem_drop->A5,range->A7,map_append->A9
open Nat renaming le_refl->Ae,add_mul->Aq,zero_add->Ax,mul_le_mul_right->A6,lt_irrefl->Ba,mul_comm->Bb,zero_mul->Bc
open Option.some renaming injEq->Af
open Array renaming getElem?_toList->Ag,length_toList->Aj,getElem?_append_left->Ao,getElem?_eq_some_iff->Av,toList_map->A8
open Option renaming map_some->Ah,map_eq_some_iff->A1
set_option linter.all false
namespace Go.Proofs.YtpgkmggaifgjkaaGreatDoor.VM
open Go
variable {cx:Cx} {U:Nat->Prop} {X:vaj} {ρ:Nat->Value} {F:Nat->vaj} {st:St} {a:Act} {w:World}
theorem DC.cells1 {P:Program} {Z:Zn} {Fd:vaj} {c:PV} {v:Value} (h:DC P w Z c v Fd):c.cells= [c]:=by cases h<;>rfl
theorem DC.alloc {P:Program} {Z:Zn} {Fd:vaj} {c:PV} {v:Value} (h:DC P w Z c v Fd) (x:Obj):DC P (w.alloc x) Z c v Fd:=
 h.mono (λ_ _ _=>(Kept.alloc w x λ_ _=>False).same id) (λ_ _ _=>(Kept.alloc w x λ_ _=>False).same id) λ_ _ _ h=>h
theorem G.newSl (h:G cx U X ρ F st a w) {b:Nat} (hb:¬U b) {q:Bool} {e m len cap:Nat} {es:List PV} {cur:Array Value} {us:List Value} {Gk:Nat->vaj} {X':vaj} (hl:len=es.length) (hm:va8 cx.P e=some m)
  (hw:∀y∈es,y.cells.length=m) (hlc:len<=cap) (hcm:cap<=maxLen) (hsz:cur.size=cap * m) (hp:Parts cx w X' (flat es) us Gk) (hX:∀b o,Or X' (flat es).length Gk b o->X b o)
  (hc:∀(k:Nat) u,us[k]? =some u->cur[k]? =some u):
  ∃ρ' F',G cx (Win U b) X' ρ' F' (st.setNode b (some (.sl q 0 e es))) a (w.alloc (.cells cur e))/\ρ' b= .slice (some ⟨w.heap.size,0,none⟩) len cap:=by
 have h1:=(h.less hX).alloc (.cells cur e);have hin:∀k,k<(flat es).length->∀b o,Gk k b o->b<w.heap.size:=λk hk b o hg=>(h.mineX b o (hX b o (.inr ⟨k,hk,hg⟩))).2.2;have hX'in:∀b o,X' b o->b<w.heap.size:=λb o hx=>(h.mineX b o (hX b o (.inl hx))).2.2;let Fn:vaj:=λb o=>b=w.heap.size\/∃k,k<(flat es).length/\Gk k b o;have hd:DC cx.P (w.alloc (.cells cur e)) cx.Z (.sl e es) (.slice (some ⟨w.heap.size,0,none⟩) len cap) Fn:=by
  have get:∀(k:Nat) c,(flat es)[k]? =some c->us[k]? =some (us.getD k undef):=by
   intro k c hk;have hlt:k<us.length:=by rw [hp.len];exact (Aa.1 hk).1
   rw [Au,Ac hlt];rfl
  refine .sl e es w.heap.size 0 len cap m (0,0) cur (λk=>us.getD k undef) Gk Fn hl hm hw (heap_alloc_new w _) (NoFz.zero _) hlc hcm zo (λk c hk=>by rw [Ax];exact hc k _ (get k c hk)) (λk c hk=>(hp.dc k c _ hk (get k c hk)).alloc _)
   (λb o=>Iff.rfl) hp.apart λk hk o hg=>absurd (hin k hk _ o hg) (Ba _)
 have hrho:one1 (.slice (some ⟨w.heap.size,0,none⟩) len cap)=true:=rfl;refine ⟨_,_,(h1.add hb (n:= .sl q 0 e es) (v:= .slice (some ⟨w.heap.size,0,none⟩) len cap) (Fn:=Fn) (X':=X') hrho ?_ (λb o hx=> .inl (.inl hx)) ?_ ?_ (.inl rfl)).more ?_,va5 _ _ _⟩
 ·intro b o hf;rcases hf with hf|⟨k,hk,hf⟩
  ·exact .inr hf
  ·exact .inl (.inr ⟨k,hk,hf⟩)
 ·intro b o hf hx;rcases hf with rfl|⟨k,hk,hf⟩
  ·exact absurd (hX'in _ o hx) (Ba _)
  ·exact hp.apartX k hk b o hf hx
 ·refine .sl q 0 e es ?_;rw [va5,va5];exact hd
 ·intro i hi;exact hi.imp id λe=>by subst e;omega
theorem vyw (h:G cx U X ρ F st a w) {b:Nat} (hb:¬U b) {q:Bool} {e m len cap:Nat} {es:List PV} {cur:Array Value} {us:List Value} {Gk:Nat->vaj} (hl:len=es.length) (hm:va8 cx.P e=some m)
  (hw:∀y∈es,y.cells.length=m) (hlc:len<=cap) (hcm:cap<=maxLen) (hsz:cur.size=cap * m) (hp:Parts cx w (λ_ _=>False) (flat es) us Gk) (hX:∀b o,Or (λ_ _=>False) (flat es).length Gk b o->X b o)
  (hc:∀(k:Nat) u,us[k]? =some u->cur[k]? =some u) {o:Oper} {d:Nat} (ho:o.dst=some d) (hd:d<cx.n) {w0:World} (hrun:(execOp a.eval o).run cx.P w0= .ok (.value (.slice (some ⟨w.heap.size,0,none⟩) len cap)) (w.alloc (.cells cur e))):
  Now cx U b o {st.setNode b (some (.sl q 0 e es)) with slots:=(d,.rf b)::st.slots} a w0:=by
 obtain ⟨ρ',F',h2,hρ⟩:=h.newSl hb (q:=q) hl hm hw hlc hcm hsz hp hX hc;refine .value _ _ hrun ?_;rw [ho,<-hρ];exact h2.rel_put hd (.rf b) (.inr ⟨Ae _,zo⟩)
theorem ZC.pv_dc {cx:Cx} {z:ZC} {v:Value} (h:zcFits cx.P z v=true):DC cx.P w cx.Z z.pv v (λ_ _=>False):=by
 cases z with
 |v x=>
  have e:=qbv h;subst e;refine .a _ _ ?_ (λ_ _ h=>h);simp only [zcFits] at h;cases v<;>first|rfl|(simp [sameV] at h)
 |nl e=>
  simp only [zcFits,Bool.and_eq_true] at h;obtain ⟨h1,h2⟩:=h;split at h1
  ·obtain ⟨m,hm⟩:=Option.isSome_iff_exists.1 h2;exact .nil e m _ hm (λ_ _ h=>h)
  ·cases h1
theorem qfs {cx:Cx}:∀{zs:List ZC} {vs:List Value},zsFit cx.P zs vs=true->vs.length=zs.length/\∀(k:Nat) c u,(zs.map ZC.pv)[k]? =some c->vs[k]? =some u->DC cx.P w cx.Z c u (λ_ _=>False)
 | [],[],_=>⟨rfl,by simp⟩
 |z::zs,v::vs,h=>by
  simp only [zsFit,Bool.and_eq_true] at h;obtain ⟨k1,k2⟩:=qfs h.2;refine ⟨by simp [k1],λk c u hc hu=> ?_⟩;cases k with
  |zero=>simp at hc hu;subst hc hu;exact ZC.pv_dc h.1
  |succ k=>exact k2 k c u (by simpa using hc) (by simpa using hu)
 | [],_::_,h=>by cases h
 |_::_,[],h=>by cases h
theorem vy8 (z:ZC):z.pv.cells= [z.pv]:=by cases z<;>rfl
theorem vl8 {m:Nat} {zs:List ZC} (h:zs.length=m):(zeroEl m zs).cells=zs.map ZC.pv:=by
 unfold zeroEl;split
 ·rename_i h1;subst h1;cases zs with
  |nil=>simp at h
  |cons z zs=>
   cases zs with
   |nil=>simp [vy8]
   |cons _ _=>simp at h
 ·rfl
theorem vtd {k n m:Nat} (hk:k<n * m):k/m<n/\k%m<m/\k=k/m * m+k%m:=by
 have hm:0<m:=by
  rcases Nat.eq_zero_or_pos m with rfl|h
  ·simp at hk
  ·exact h
 refine ⟨Nat.div_lt_of_lt_mul (by rwa [Bb] at hk),Nat.mod_lt _ hm,?_⟩;have:=Nat.div_add_mod k m;rw [Bb] at this;omega
theorem vr9 {zs:List ZC} {z:Value} (hfit:zsFit cx.P zs z.cells.toList=true) (n:Nat) (X':vaj):
  Parts cx w X' (flat (Al n (zeroEl zs.length zs))) (madeCells z.cells (n * zs.length)).toList (λ_ _ _=>False):=by
 obtain ⟨k1,k2⟩:=qfs (cx:=cx) (w:=w) hfit;have hcl:=vl8 (m:=zs.length) (zs:=zs) rfl;have hw:∀y∈Al n (zeroEl zs.length zs),y.cells.length=zs.length:=by
  intro y hy;rw [(Ar.1 hy).2,hcl,Ai]
 have hzs:z.cells.size=zs.length:=by rw [<-Aj,k1]
 have hfl:=vfk hw;rw [A2] at hfl;have at_:∀(j:Nat) c,(flat (Al n (zeroEl zs.length zs)))[j]? =some c->j<n * zs.length/\(zs.map ZC.pv)[j%zs.length]? =some c:=by
  intro j c hj;have hlt:j<n * zs.length:=by rw [<-hfl];exact (Aa.1 hj).1
  obtain ⟨d1,d2,d3⟩:=vtd hlt;refine ⟨hlt,?_⟩;rw [d3,vlm hw (i:=j/zs.length) (x:=zeroEl zs.length zs) (by rw [List.getElem?_replicate,if_pos d1]) d2,hcl] at hj;exact hj
 refine ⟨by simp [size_madeCells,hfl],λj c u hj hu=> ?_,?_,λ_ _ _ _ _ _ _ h=>h.elim,λ_ _ _ _ h=>h.elim⟩
 ·obtain ⟨hlt,hc⟩:=at_ j c hj;refine k2 _ c u hc ?_;have hmod:j%zs.length<z.cells.size:=by rw [hzs];exact (vtd hlt).2.1
  simp only [madeCells,A8,Ab] at hu;rw [Ag] at hu;simp only [Array.getElem?_range] at hu;rw [if_pos hlt] at hu;simp only [Ah,Af] at hu;rw [hzs] at hu;rw [Ag,<-hu,getElem!_pos z.cells _ hmod];exact Array.getElem?_eq_getElem hmod
 ·intro y hy;obtain ⟨j,hj⟩:=Am hy;obtain ⟨_,hc⟩:=at_ j y hj;obtain ⟨zz,_,rfl⟩:=Ay.1 (A3 hc);exact vy8 zz
theorem qkd (h:G cx U (λ_ _=>False) ρ F st a w) {b:Nat} (hb:∀i,b<=i->i<b+100->¬U i) {o:Oper} {d:Nat} (ho:o.dst=some d) (hd:d<cx.n) {t e by_:Nat} {zs:List ZC} {x:Operand} {x':Opd} {t3:Nat} (hop:o.op= .makeSlice t x x)
  (ht:cx.P.underlying t=some (.slice e)) (hby:bytesT cx.P e=some by_) (hz:zeros cx.P e=some zs) (hx:cOpd cx.P t3 x=some x') {s1:St}
  (hr:((opd x').bind λu=>match u with
   | .a (.int .i64 n)=>
    if 0<=n/\n * by_<=140737488355328/\n<=9223372036854775807 then
     (setN b (some (.sl false 0 e (Al n.toNat (zeroEl zs.length zs))))).bind λ_=>setS d (.rf b)
    else .fail
   |_=> .fail).run st=some ((),s1)):Now cx U b o s1 a w:=by
 obtain ⟨c,s2,h1,h2⟩:=vaa hr;obtain ⟨rfl,g1,i1⟩:=vbw h hx h1;split at h2
 ·rename_i n;split at h2
  ·rename_i hcond;obtain ⟨h0,hbyt,h63⟩:=hcond;obtain ⟨_,s3,h3,h4⟩:=vaa h2;cases vby h3;cases vbd h4;obtain ⟨i,z,hi,hz0,hsz,hfit⟩:=vjr hz;have hm:va8 cx.P e=some zs.length:=by unfold va8;rw [hi];simp only [Ah,hsz]
   have hbb:i.bytes=by_:=by unfold bytesT at hby;rw [hi] at hby;simpa using hby
   have hv:a.eval x= .int .i64 n:=vib g1;have h63':n<=9223372036854775807:=by simpa [maxLen] using h63
   have hrun:=run_make (P:=cx.P) w t e i z ht hi hz0 .i64 .i64 n n h0 (Int.le_refl _) (by rw [hbb,Int.mul_comm];omega) h63';rw [hsz] at hrun;refine vyw h (hb b (Ae _) zo) (len:=n.toNat) (cap:=n.toNat) (by simp) hm ?_ (Ae _) ?_ (size_madeCells _ _) (vr9 hfit _ _) ?_ (λk u hu=>by rwa [Ag] at hu) ho hd ?_
   ·intro y hy;rw [(Ar.1 hy).2,vl8 rfl,Ai]
   ·simp only [maxLen] at *;omega
   ·rintro b o (h|⟨_,_,h⟩)<;>exact h
   ·unfold execOp;rw [hop];simp only [hv,Sem.run_bind,hrun,Result.andThen_ok,Sem.run_pure]
  ·exact (vac h2).elim
 ·exact (vac h2).elim
theorem qc8 {α:Type} {l ys:List α} {o:Nat} (h:o+ys.length<=l.length) (k:Nat):(l.take o++ys++l.drop (o+ys.length))[k]? =if o<=k/\k<o+ys.length then ys[k-o]? else l[k]? :=vic l ys o k h
theorem Parts.seg {X0:vaj} {l ys:List PV} {us vs:List Value} {Gk Hk:Nat->vaj} (h:Parts cx w X0 l us Gk) (h2:Parts cx w (Or X0 l.length Gk) ys vs Hk) {o:Nat} (ho:o+ys.length<=l.length):
  Parts cx w X0 (l.take o++ys++l.drop (o+ys.length)) (us.take o++vs++us.drop (o+vs.length)) (λk=>if o<=k/\k<o+ys.length then Hk (k-o) else Gk k):=by
 have l1:=h.len;have l2:=h2.len;have hlen:(l.take o++ys++l.drop (o+ys.length)).length=l.length:=by simp;omega
 refine ⟨by simp;omega,λj c u hc hu=> ?_,λy hy=> ?_,λj k hj hk hjk=> ?_,λj hj=> ?_⟩
 ·rw [vic _ _ _ _ ho] at hc;rw [vic _ _ _ _ zo,l2] at hu;split at hc
  ·rename_i hin;rw [if_pos hin] at hu;rw [if_pos hin];exact h2.dc _ c u hc hu
  ·rename_i hin;rw [if_neg hin] at hu;rw [if_neg hin];exact h.dc _ c u hc hu
 ·simp only [Az] at hy;rcases hy with (hy|hy)|hy
  ·exact h.cells y (A4 hy)
  ·exact h2.cells y hy
  ·exact h.cells y (A5 hy)
 ·rw [hlen] at hj hk;split
  ·rename_i h3;split
   ·rename_i h4;exact h2.apart _ _ zo zo zo
   ·exact λb q hf hg=>h2.apartX (j-o) zo b q hf (.inr ⟨k,hk,hg⟩)
  ·split
   ·rename_i h4;exact λb q hf hg=>h2.apartX (k-o) zo b q hg (.inr ⟨j,hj,hf⟩)
   ·exact h.apart j k hj hk hjk
 ·rw [hlen] at hj;split
  ·exact λb q hf hx=>h2.apartX (j-o) zo b q hf (.inl hx)
  ·exact h.apartX j hj
theorem Or.seg {X0:vaj} {l ys:List PV} {Gk Hk:Nat->vaj} {o:Nat} (ho:o+ys.length<=l.length):
  ∀b q,Or X0 (l.take o++ys++l.drop (o+ys.length)).length (λk=>if o<=k/\k<o+ys.length then Hk (k-o) else Gk k) b q->Or (Or X0 l.length Gk) ys.length Hk b q:=by
 have hlen:(l.take o++ys++l.drop (o+ys.length)).length=l.length:=by simp;omega
 rintro b q (hx|⟨k,hk,hx⟩)
 ·exact .inl (.inl hx)
 ·rw [hlen] at hk;split at hx
  ·exact .inr ⟨k-o,zo,hx⟩
  ·exact .inl (.inr ⟨k,hk,hx⟩)
theorem Parts.app {X0:vaj} {l ys:List PV} {us vs:List Value} {Gk Hk:Nat->vaj} (h:Parts cx w X0 l us Gk) (h2:Parts cx w (Or X0 l.length Gk) ys vs Hk):
  Parts cx w X0 (l++ys) (us++vs) (λk=>if k<l.length then Gk k else Hk (k-l.length)):=by
 have l1:=h.len;have l2:=h2.len;refine ⟨by simp [l1,l2],λj c u hc hu=> ?_,λy hy=> ?_,λj k hj hk hjk=> ?_,λj hj=> ?_⟩
 ·split
  ·rename_i hlt;rw [Ap hlt] at hc;rw [Ap zo] at hu;exact h.dc j c u hc hu
  ·rename_i hge;rw [An zo] at hc;rw [An zo,l1] at hu;exact h2.dc _ c u hc hu
 ·simp only [Az] at hy;rcases hy with hy|hy
  ·exact h.cells y hy
  ·exact h2.cells y hy
 ·rw [At] at hj hk;split
  ·split
   ·exact h.apart j k (by assumption) (by assumption) hjk
   ·exact λb q hf hg=>h2.apartX (k-l.length) zo b q hg (.inr ⟨j,by assumption,hf⟩)
  ·split
   ·exact λb q hf hg=>h2.apartX (j-l.length) zo b q hf (.inr ⟨k,by assumption,hg⟩)
   ·exact h2.apart _ _ zo zo zo
 ·rw [At] at hj;split
  ·exact h.apartX j (by assumption)
  ·exact λb q hf hx=>h2.apartX (j-l.length) zo b q hf (.inl hx)
theorem Or.app {X0:vaj} {l ys:List PV} {Gk Hk:Nat->vaj}:
  ∀b q,Or X0 (l++ys).length (λk=>if k<l.length then Gk k else Hk (k-l.length)) b q->Or (Or X0 l.length Gk) ys.length Hk b q:=by
 rintro b q (hx|⟨k,hk,hx⟩)
 ·exact .inl (.inl hx)
 ·rw [At] at hk;split at hx
  ·exact .inl (.inr ⟨k,by assumption,hx⟩)
  ·exact .inr ⟨k-l.length,zo,hx⟩
theorem vyl {P:Program} {Z Z':Zn} {sh:va2} {c:TV} {v:Value} {y:PV} (h:TR P w Z ρ F sh c v) (ha:atomPV c=some y):DC P w Z' y v (λ_ _=>False):=by
 unfold atomPV at ha;split at ha
 ·split at ha
  ·rename_i h1;cases ha;rw [vib h];exact .a _ _ h1 λ_ _ h=>h
  ·cases ha
 ·cases ha
theorem vwe {P:Program} {Z Z':Zn} {sh:va2}:∀{cs:List TV} {vs:List Value} {ys:List PV},TRL P w Z ρ F sh cs vs->vej cs=some ys->
  vs.length=ys.length/\∀(k:Nat) c u,ys[k]? =some c->vs[k]? =some u->DC P w Z' c u (λ_ _=>False)
 | [],vs,ys,h,ha=>by cases h;cases ha;exact ⟨rfl,by simp⟩
 |c::cs,vs,ys,h,ha=>by
  cases h with
  | @cons _ v _ vs' h1 hs=>
   simp only [vej] at ha;split at ha
   ·rename_i y ys' hy hys;cases ha;obtain ⟨k1,k2⟩:=vwe (Z':=Z') hs hys;refine ⟨by simp [k1],λk c u hc hu=> ?_⟩;cases k with
    |zero=>simp at hc hu;subst hc hu;exact vyl h1 hy
    |succ k=>exact k2 k c u (by simpa using hc) (by simpa using hu)
   ·cases ha
theorem vk1 {X0:vaj} {ys:List PV} {us:List Value} (hl:us.length=ys.length) (h:∀(k:Nat) c u,ys[k]? =some c->us[k]? =some u->DC cx.P w cx.Z c u (λ_ _=>False)):Parts cx w X0 ys us (λ_ _ _=>False):=by
 refine ⟨hl,h,λy hy=> ?_,λ_ _ _ _ _ _ _ h=>h.elim,λ_ _ _ _ h=>h.elim⟩;obtain ⟨j,hj⟩:=Am hy;have hlt:j<us.length:=by rw [hl];exact (Aa.1 hj).1
 exact (h j y _ hj (Ac hlt)).cells1
theorem vlz {X0:vaj} {n:Nat}:∀b q,Or X0 n (λ_ _ _=>False) b q->X0 b q:=by
 rintro b q (h|⟨_,_,h⟩)
 ·exact h
 ·exact h.elim
theorem qow {P:Program} {Z:Zn} {sh:va2} {cs:List TV} {v:Value} (h:TR P w Z ρ F sh (.st cs) v):TRL P w Z ρ F sh cs v.cells.toList:=by
 cases h with
 |st _ us hl hc=>exact .of (by simpa [Value.cells] using hl) λi c u h1 h2=>hc i c u h1 (by simpa [Value.cells] using h2)
theorem qpo (h:G cx U X ρ F st a w) {flat:Bool} {c:TV} {v:Value} (hc:TR cx.P w cx.Z ρ F (vah st) c v) (hi:idsIn U c) {r:PV×Bool} {s1:St} (hr:(toEl flat c).run st=some (r,s1)):
  ∃Hk,Parts cx w X r.1.cells v.cells.toList Hk/\G cx U (Or X r.1.cells.length Hk) ρ F s1 a w/\ShapeKept U (vah st) (vah s1):=by
 have oneCase:∀{c:TV},TR cx.P w cx.Z ρ F (vah st) c v->idsIn U c->(toPV c).run st=some (r,s1)->∃Hk,Parts cx w X r.1.cells v.cells.toList Hk/\G cx U (Or X r.1.cells.length Hk) ρ F s1 a w/\ShapeKept U (vah st) (vah s1):=by
  intro c hc hi hr;obtain ⟨Fp,d1,d2,d3,d4,d5⟩:=qdv h hc hr;have hv:v.cells.toList= [v]:=by
   have:=d1.one;cases v<;>first|rfl|(cases this)
  rw [d2,hv];refine ⟨λ_=>Fp,⟨rfl,λj c u hj hu=> ?_,λy hy=> ?_,λj k hj hk hjk=> ?_,λj hj=>d4⟩,d3.less ?_,d5⟩
  ·cases j with
   |zero=>simp at hj hu;subst hj hu;exact d1
   |succ j=>simp at hj
  ·simp at hy;subst hy;exact d2
  ·simp at hj hk;omega
  ·rintro b q (hx|⟨_,_,hx⟩)
   ·exact .inl hx
   ·exact .inr hx
 have flatCase:∀{c:TV} {y:PV},TR cx.P w cx.Z ρ F (vah st) c v->atomPV c=some y->∃Hk,Parts cx w X y.cells v.cells.toList Hk/\G cx U (Or X y.cells.length Hk) ρ F st a w/\ShapeKept U (vah st) (vah st):=by
  intro c y hc ha;have hd:=vyl (Z':=cx.Z) hc ha;have hv:v.cells.toList= [v]:=by
   have:=hd.one;cases v<;>first|rfl|(cases this)
  rw [hd.cells1,hv];refine ⟨_,vk1 rfl λk c u hc hu=> ?_,h.less vlz,.refl _ _⟩;cases k with
  |zero=>simp at hc hu;subst hc hu;exact hd
  |succ k=>simp at hc
 unfold toEl at hr;split at hr
 ·rename_i cs;have hcs:=qow hc;split at hr
  ·obtain ⟨ys,s2,h1,h2⟩:=vaa hr;obtain ⟨h3,h4⟩:=vdl h1;simp only at h3 h4;subst h4;cases run_pure h2;obtain ⟨k1,k2⟩:=vwe (Z':=cx.Z) hcs h3;exact ⟨_,vk1 k1 k2,h.less vlz,.refl _ _⟩
  ·obtain ⟨ys,s2,h1,h2⟩:=vaa hr;cases run_pure h2;exact qbo h hcs hi h1
 ·split at hr
  ·obtain ⟨ys,s2,h1,h2⟩:=vaa hr;obtain ⟨h3,h4⟩:=vdl h1;simp only at h3 h4;subst h4;cases run_pure h2;exact flatCase hc h3
  ·exact oneCase hc hi hr
theorem qc6 {m:Nat} {es:List PV} {y:PV} {i:Nat} (hw:∀y∈es,y.cells.length=m) (hy:y.cells.length=m) (hi:i<es.length):
  flat (es.set i y)=(flat es).take (i * m)++y.cells++(flat es).drop (i * m+y.cells.length):=by
 have e1:es.set i y=es.take i++ [y]++es.drop (i+1):=by rw [List.set_eq_take_append_cons_drop,if_pos hi];simp
 rw [e1];have e2:flat (es.take i++ [y]++es.drop (i+1))=flat (es.take i)++y.cells++flat (es.drop (i+1)):=by simp [flat]
 rw [e2,vp4 hw,vp5 hw,hy,Aq,Nat.one_mul]
theorem qcb {m i:Nat} {fl:Bool} {c:TV} {v:Value} {y:PV×Bool} {es:List PV} {us:Array Value} {Gk:Nat->vaj} {s1:St} (h:G cx U (Or (λ_ _=>False) (flat es).length Gk) ρ F st a w) (hc:TR cx.P w cx.Z ρ F (vah st) c v) (hi:idsIn U c)
  (hw:∀y∈es,y.cells.length=m) (hp:Parts cx w (λ_ _=>False) (flat es) us.toList Gk) (hr:(toEl fl c).run st=some (y,s1)) (hlen:y.1.cells.length=m) (hil:i<es.length):
  ∃us' Gk',(∀l,Instr.fill (λi=>some (i * m,m)) us ((i,v)::l)=Instr.fill (λi=>some (i * m,m)) us' l)/\G cx U (Or (λ_ _=>False) (flat (es.set i y.1)).length Gk') ρ F s1 a w/\Parts cx w (λ_ _=>False) (flat (es.set i y.1)) us'.toList Gk'/\
   ∀z∈es.set i y.1,z.cells.length=m:=by
 obtain ⟨Hk,k1,k2,k3⟩:=qpo h hc hi hr;have hfl:=vfk hw;have hfit:i * m+y.1.cells.length<=(flat es).length:=by
  rw [hfl,hlen];have:(i+1) * m<=es.length * m:=A6 _ hil;rw [Aq] at this;omega
 have hset:=qc6 hw hlen hil;have hp':=hp.seg k1 hfit;have hus:us.size=(flat es).length:=by rw [<-Aj,hp.len]
 have hvl:v.cells.size=m:=by rw [<-Aj,k1.len,hlen]
 have hseg:=vy7 (i * m) v us zo;rw [<-hset,<-hseg] at hp';refine ⟨_,_,λl=> ?_,?_,hp',λz hz=> ?_⟩
 ·simp only [Instr.fill];rw [if_neg (by simp [hvl];omega)]
 ·rw [hset];exact k2.less (Or.seg hfit)
 ·rcases Aw hz with hz|rfl
  ·exact hw z hz
  ·exact hlen
theorem qvd {e m:Nat} {fl:Bool} (ps:List (Nat×Operand)):∀{st:St} {qs:List (Nat×Opd)} {es:List PV} {us:Array Value} {Gk:Nat->vaj} {q:Bool} {r:List PV×Bool} {s1:St},
  G cx U (Or (λ_ _=>False) (flat es).length Gk) ρ F st a w->cElems cx.P e ps=some qs->(∀y∈es,y.cells.length=m)->Parts cx w (λ_ _=>False) (flat es) us.toList Gk->(bslM fl m qs q es).run st=some (r,s1)->
   ∃us' Gk',Instr.fill (λi=>some (i * m,m)) us (ps.map λx=>(x.1,a.eval x.2))=some us'/\G cx U (Or (λ_ _=>False) (flat r.1).length Gk') ρ F s1 a w/\Parts cx w (λ_ _=>False) (flat r.1) us'.toList Gk'/\
    (∀y∈r.1,y.cells.length=m)/\r.1.length=es.length:=by
 induction ps with
 |nil=>
  intro st qs es us Gk q r s1 h hq hw hp hr;simp only [cElems,Af] at hq;subst hq;cases run_pure hr;exact ⟨us,Gk,rfl,h,hp,hw,rfl⟩
 |cons ix ps ih=>
  intro st qs es us Gk q r s1 h hq hw hp hr;obtain ⟨i,x⟩:=ix;simp only [cElems] at hq;split at hq
  ·rename_i y ys hy hys;cases hq;simp only [bslM] at hr;obtain ⟨c,s2,h1,h2⟩:=vaa hr;obtain ⟨rfl,g1,i1⟩:=vbw h hy h1;obtain ⟨y',s3,h3,h4⟩:=vaa h2;split at h4
   ·rename_i hcond;obtain ⟨hlen,hil⟩:=hcond;obtain ⟨us1,G1,e1,e2,e3,e4⟩:=qcb h g1 i1 hw hp h3 hlen hil;obtain ⟨us',Gk',f1,f2,f3,f4,f5⟩:=ih e2 hys e4 e3 h4;exact ⟨us',Gk',by rw [List.map_cons,e1];exact f1,f2,f3,f4,by rw [f5,A0]⟩
   ·exact (vac h4).elim
  ·cases hq
theorem qdu {es:List PV} {Gk':Nat->vaj} (h:G cx U (Or (λ_ _=>False) (flat es).length Gk') ρ F st a w) {b:Nat} (hb:¬U b) {o:Oper} {d:Nat} (ho:o.dst=some d) (hd:d<cx.n) {t e n:Nat} {zs:List ZC} {ps:Array (Nat×Operand)} (hop:o.op= .buildSlice t n ps)
  (ht:cx.P.underlying t=some (.slice e)) (hm:va8 cx.P e=some zs.length) {i:TypeInfo} {z:Value} (hi:cx.P.info? e=some i) (hz0:i.zero=some z) (hbig:0<zs.length/\n * zs.length<=16777216) {q:Bool} {us':Array Value}
  (f1:Instr.fill (λi=>some (i * zs.length,zs.length)) (madeCells z.cells (n * zs.length)) (ps.toList.map λx=>(x.1,a.eval x.2))=some us') (f3:Parts cx w (λ_ _=>False) (flat es) us'.toList Gk') (f4:∀y∈es,y.cells.length=zs.length) (f5:es.length=n):
  Now cx U b o {st.setNode b (some (.sl q 0 e es)) with slots:=(d,.rf b)::st.slots} a w:=by
 have hfl:=vfk f4;rw [f5] at hfl;have hlen:us'.size=n * zs.length:=by rw [<-Aj,f3.len,hfl]
 have hn63:n<=maxLen:=by
  have h1:n * 1<=n * zs.length:=Nat.mul_le_mul_left _ hbig.1;simp only [maxLen];omega
 refine vyw h hb (len:=n) (cap:=n) (cur:=us') (us:=us'.toList) f5.symm hm f4 (Ae _) hn63 hlen f3 (λ_ _ h=>h) (λk u hu=>by rwa [Ag] at hu) ho hd ?_;unfold execOp;rw [hop];have hb2:(Instr.buildSlice t n (ps.map λ(i,x)=>(i,a.eval x))).run cx.P w= .ok (.slice (some ⟨w.heap.size,0,none⟩) n n) (w.alloc (.cells us' e)):=by
  have hps:(ps.map λ(i,x)=>(i,a.eval x)).toList=ps.toList.map λx=>(x.1,a.eval x.2):=by rw [A8]
  have hbig2:¬(16777216<n * zs.length):=zo
  by_cases hn:n=0
  ·subst hn;simp only [madeCells,Bc] at f1;simp [Instr.buildSlice,run_underlying ht,vhf hm,newRow,Array.range_zero'];have e0:(Array.map (λx=>z.cells[x%z.cells.size]!) (Array.range 0))= #[]:=by simp
   rw [e0] at f1;simp [f1]
  ·have hnz:¬(n * zs.length=0):=by
    have:=Nat.mul_pos (Nat.pos_of_ne_zero hn) hbig.1;omega
   simp only [Instr.buildSlice,Sem.run_bind,run_underlying ht,Result.andThen_ok,vhf hm,hps];have hzv:(zeroValue e).run cx.P w= .ok z w:=by simp [zeroValue,typeInfo,hi,hz0]
   simp [hbig2,hnz,hzv,newRow];simp only [madeCells] at f1;simp [f1]
 simp only [Sem.run_bind,hb2,Result.andThen_ok,Sem.run_pure]
theorem qi2 (h:G cx U (λ_ _=>False) ρ F st a w) {b:Nat} (hb:∀i,b<=i->i<b+100->¬U i) {o:Oper} {d:Nat} (ho:o.dst=some d) (hd:d<cx.n) {t e m n:Nat} {zs:List ZC} {ps:Array (Nat×Operand)} {qs:List (Nat×Opd)} (hop:o.op= .buildSlice t n ps)
  (ht:cx.P.underlying t=some (.slice e)) (hm:va8 cx.P e=some m) (hz:zeros cx.P e=some zs) (hq:cElems cx.P e ps.toList=some qs) (hbig:0<m/\n * m<=16777216) {s1:St}
  (hr:((bslM (flatZ zs) m qs false (Al n (zeroEl m zs))).bind λes=>(setN b (some (.sl es.2 0 e es.1))).bind λ_=>setS d (.rf b)).run st=some ((),s1)):Now cx U b o s1 a w:=by
 obtain ⟨es,s2,h1,h2⟩:=vaa hr;obtain ⟨_,s3,h3,h4⟩:=vaa h2;cases vby h3;cases vbd h4;obtain ⟨i,z,hi,hz0,hsz,hfit⟩:=vjr hz;have hmz:m=zs.length:=by unfold va8 at hm;rw [hi] at hm;simp only [Ah,Af] at hm;omega
 subst hmz;have hp0:=vr9 (cx:=cx) (w:=w) hfit n (λ_ _=>False);have hw0:∀y∈Al n (zeroEl zs.length zs),y.cells.length=zs.length:=by
  intro y hy;rw [(Ar.1 hy).2,vl8 rfl,Ai]
 obtain ⟨us',Gk',f1,f2,f3,f4,f5⟩:=qvd ps.toList (h.less vlz) hq hw0 hp0 h1;exact qdu f2 (hb b (Ae _) zo) ho hd hop ht hm hi hz0 hbig f1 f3 f4 (by rw [f5,A2])
theorem DC.cellAt {P:Program} {Z:Zn} {e:Nat} {es:List PV} {v:Value} {Fd:vaj} (hd:DC P w Z (.sl e es) v Fd) {i m o:Nat} {x c:PV} (hx:es[i]? =some x) (hm:x.cells.length=m) (ho:x.cells[o]? =some c):
  ∃g off len cap u Fr Fk,v= .slice (some ⟨g,off,none⟩) len cap/\w.cell? ⟨g,off+(i * m+o),none⟩=some u/\DC P w Z c u Fk/\(∀b k,Fd b k↔(Fr b k\/Fk b k))/\Apart Fr Fk/\Fr g (off+(i * m+o))/\
   (∀c1 e1 f1 m1,w.heap[g]? =some (.cells c1 e1 f1)->va8 P e1=some m1->i * m+o<len * m1)/\
   ∀c' Fk',c'.cells= [c']->DC P w Z c' u Fk'->Apart Fr Fk'->DC P w Z (.sl e (es.set i (vbu x o [c']))) v (λb k=>Fr b k\/Fk' b k):=by
 cases hd with
 |nil=>simp at hx
 |sl _ _ g off len cap m' fr cur vs Fk _ hl hm' hw hg hfr hlc hcm hsz hc hr hFd hdd hd0=>
  have hmm:m'=m:=by rw [<-hm];exact (hw x (A3 hx)).symm
  subst hmm;have hlt:o<m':=by have:=(Aa.1 ho).1;omega
  have hf:(flat es)[i * m'+o]? =some c:=by rw [vlm hw hx hlt];exact ho
  have hk:=(Aa.1 hf).1;have hfl:=vfk hw;refine ⟨g,off,len,cap,vs (i * m'+o),λb k=>b=g\/∃j,j<(flat es).length/\j≠i * m'+o/\Fk j b k,Fk (i * m'+o),rfl,by rw [vef hg];exact hc _ _ hf,hr _ _ hf,λb k=> ?_,?_,.inl rfl,?_,?_⟩
  ·rw [hFd b k];constructor
   ·rintro (h|⟨j,hj,h⟩)
    ·exact .inl (.inl h)
    ·by_cases e:j=i * m'+o
     ·subst e;exact .inr h
     ·exact .inl (.inr ⟨j,hj,e,h⟩)
   ·rintro ((h|⟨j,hj,_,h⟩)|h)
    ·exact .inl h
    ·exact .inr ⟨j,hj,h⟩
    ·exact .inr ⟨_,hk,h⟩
  ·rintro b k (rfl|⟨j,hj,hne,h⟩) h2
   ·exact hd0 _ hk k h2
   ·exact hdd j _ hj hk hne b k h h2
  ·intro c1 e1 f1 m1 hb1 hm1;rw [hg] at hb1;cases hb1;rw [hm'] at hm1;cases hm1;rw [hfl] at hk;rw [hl];exact hk
  ·intro c' Fk' hc1 hD hap;have hfit:o+ [c'].length<=x.cells.length:=by simp;omega
   have hflat:=vv6 (o:=o) (ys:= [c']) hfit (by simpa using hc1) hw hx;have hwx:(vbu x o [c']).cells.length=m':=by rw [vkv hfit (by simpa using hc1)];simp;omega
   have hw':∀y∈es.set i (vbu x o [c']),y.cells.length=m':=by
    intro y hy;rcases Aw hy with hy|rfl
    ·exact hw y hy
    ·exact hwx
   have hfl':(flat (es.set i (vbu x o [c']))).length=(flat es).length:=by rw [vfk hw',hfl,A0]
   refine .sl e _ g off len cap m' fr cur vs (λj=>if j=i * m'+o then Fk' else Fk j) _ (by rw [A0];exact hl) hm' hw' hg hfr hlc hcm hsz ?_ ?_ ?_ ?_ ?_
   ·intro k d hd;rw [hflat] at hd;split at hd
    ·rename_i hin;have:k=i * m'+o:=by simp at hin;omega
     subst this;exact hc _ _ hf
    ·exact hc k d hd
   ·intro k d hd;rw [hflat] at hd;split at hd
    ·rename_i hin;have e:k=i * m'+o:=by simp at hin;omega
     subst e;rw [Nat.sub_self] at hd;cases hd;rw [if_pos rfl];exact hD
    ·rename_i hin;have e:k≠i * m'+o:=by intro e;apply hin;simp;omega
     rw [if_neg e];exact hr k d hd
   ·intro b k;rw [hfl'];constructor
    ·rintro ((h|⟨j,hj,hne,h⟩)|h)
     ·exact .inl h
     ·exact .inr ⟨j,hj,by rw [if_neg hne];exact h⟩
     ·exact .inr ⟨_,hk,by rw [if_pos rfl];exact h⟩
    ·rintro (h|⟨j,hj,h⟩)
     ·exact .inl (.inl h)
     ·by_cases e:j=i * m'+o
      ·rw [if_pos e] at h;exact .inr h
      ·rw [if_neg e] at h;exact .inl (.inr ⟨j,hj,e,h⟩)
   ·rw [hfl'];intro j l hj hl' hne b k h1 h2;by_cases e1:j=i * m'+o
    ·rw [if_pos e1] at h1;rw [if_neg zo] at h2;exact hap b k (.inr ⟨l,hl',zo,h2⟩) h1
    ·rw [if_neg e1] at h1;by_cases e2:l=i * m'+o
     ·rw [if_pos e2] at h2;exact hap b k (.inr ⟨j,hj,e1,h1⟩) h2
     ·rw [if_neg e2] at h2;exact hdd j l hj hl' hne b k h1 h2
   ·rw [hfl'];intro j hj k h;by_cases e:j=i * m'+o
    ·rw [if_pos e] at h;exact hap g k (.inl rfl) h
    ·rw [if_neg e] at h;exact hd0 j hj k h
set_option maxRecDepth 4000 in
theorem DC.carve {P:Program} {Z:Zn} {S:vaj}:∀(p:List (Nat×Nat×Nat)) {e:Nat} {es:List PV} {v v':Value} {Fd:vaj} {r:Nat×List PV} {es1:List PV},DC P w Z (.sl e es) v Fd->dget es p=some r->dput es p .un=some es1->Nav P w S v p v'->
  ∃F1 F2,DC P w Z (.sl e es1) v F1/\DC P w Z (.sl r.1 r.2) v' F2/\(∀b o,Fd b o↔(F1 b o\/F2 b o))/\Apart F1 F2/\Nav P w F1 v p v'/\es1.length=es.length
 | [],e,es,v,v',Fd,r,es1,h,hg,hp,hn=>by simp [dget] at hg
 |(i,m,o)::p,e,es,v,v',Fd,r,es1,h,hg,hp,hn=>by
  simp only [dget] at hg;simp only [dput] at hp;split at hg
  ·cases hg
  ·rename_i x hx;rw [hx] at hp;simp only at hp;split at hg
   ·rename_i hm;rw [if_pos hm] at hp;split at hg
    ·rename_i e1 es1' hxo;rw [hxo] at hp;simp only at hp;obtain ⟨g,off,len,cap,u,Fr,Fk,rfl,k2,k3,k4,k5,k6,k7,k8⟩:=h.cellAt hx hm hxo;cases hn with
     |cons _ _ _ _ _ _ _ u' _ _ hcu hk hu hS hrest=>
      rw [k2] at hcu;cases hcu;split at hg
      ·cases hg;cases hp;have e0:=hrest.nil_eq rfl;subst e0
       exact ⟨_,Fk,k8 .un (λ_ _=>False:vaj) rfl (.un _ _ k3.one λ_ _ h=>h) (λ_ _ _ h=>h),k3,λb o=>by rw [k4 b o];simp,λb o h1 h2=>k5 b o (h1.resolve_right λh=>h) h2,
        .cons _ _ _ _ _ _ _ _ _ _ k2 k7 hu (.inl k6) (.nil _),by simp⟩
      ·simp only at hp;split at hp
       ·rename_i in' hin;cases hp;obtain ⟨F1,F2,m1,m2,m3,m4,m5,_⟩:=DC.carve _ k3 hg hin hrest;have ap1:Apart Fr F1:=λb o h1 h2=>k5 b o h1 ((m3 b o).2 (.inl h2));refine ⟨_,F2,k8 _ F1 rfl m1 ap1,m2,λb o=>by rw [k4 b o,m3 b o,or_assoc],?_,.cons _ _ _ _ _ _ _ _ _ _ k2 k7 hu (.inl k6) ?_,by simp⟩
        ·rintro b o (h1|h1) h2
         ·exact k5 b o h1 ((m3 b o).2 (.inr h2))
         ·exact m4 b o h1 h2
        ·exact NavKept.of (.refl _) (λb o h=>⟨.inr h,λ_ hy _=>hy⟩) _ _ m5
       ·cases hp
    ·cases hg
   ·cases hg
theorem G.oldSl (h:G cx U X ρ F st a w) {b:Nat} (hb:¬U b) {q:Bool} {e m len cap g off:Nat} {fr:Nat×Nat} {es:List PV} {cur:Array Value} {us:List Value} {Gk:Nat->vaj} {X':vaj} (hl:len=es.length) (hm:va8 cx.P e=some m)
  (hw:∀y∈es,y.cells.length=m) (hlc:len<=cap) (hcm:cap<=maxLen) (hsz:cur.size=off+cap * m) (hg:w.heap[g]? =some (.cells cur e fr)) (hfr:NoFz fr cur.size) (hp:Parts cx w (λb o=>X' b o\/b=g) (flat es) us Gk)
  (hX:∀b o,Or (λb o=>X' b o\/b=g) (flat es).length Gk b o->X b o) (hX':∀o,¬X' g o) (hc:∀(k:Nat) u,us[k]? =some u->cur[off+k]? =some u):
  ∃ρ' F',G cx (Win U b) X' ρ' F' (st.setNode b (some (.sl q 0 e es))) a w/\ρ' b= .slice (some ⟨g,off,none⟩) len cap:=by
 let Fn:vaj:=λb o=>b=g\/∃k,k<(flat es).length/\Gk k b o;have hd:DC cx.P w cx.Z (.sl e es) (.slice (some ⟨g,off,none⟩) len cap) Fn:=by
  have get:∀(k:Nat) c,(flat es)[k]? =some c->us[k]? =some (us.getD k undef):=by
   intro k c hk;have hlt:k<us.length:=by rw [hp.len];exact (Aa.1 hk).1
   rw [Au,Ac hlt];rfl
  exact .sl e es g off len cap m fr cur (λk=>us.getD k undef) Gk Fn hl hm hw hg hfr hlc hcm hsz (λk c hk=>hc k _ (get k c hk)) (λk c hk=>hp.dc k c _ hk (get k c hk))
   (λb o=>Iff.rfl) hp.apart λk hk o hg'=>hp.apartX k hk g o hg' (.inr rfl)
 have hrho:one1 (.slice (some ⟨g,off,none⟩) len cap)=true:=rfl;refine ⟨_,_,(h.add hb (n:= .sl q 0 e es) (v:= .slice (some ⟨g,off,none⟩) len cap) (Fn:=Fn) (X':=X') hrho ?_ (λb o hx=>hX b o (.inl (.inl hx))) ?_ ?_ (.inl rfl)).more ?_,va5 _ _ _⟩
 ·intro b o hf;rcases hf with hf|⟨k,hk,hf⟩
  ·exact hX b o (.inl (.inr hf))
  ·exact hX b o (.inr ⟨k,hk,hf⟩)
 ·intro b o hf hx;rcases hf with rfl|⟨k,hk,hf⟩
  ·exact hX' o hx
  ·exact hp.apartX k hk b o hf (.inl hx)
 ·refine .sl q 0 e es ?_;rw [va5,va5];exact hd
 ·intro i hi;exact hi.imp id λe=>by subst e;omega
theorem G.nilSl (h:G cx U X ρ F st a w) {b:Nat} (hb:¬U b) {q:Bool} {e m:Nat} (hm:va8 cx.P e=some m) (x:Option Addr):
  ∃ρ' F',G cx (Win U b) X ρ' F' (st.setNode b (some (.sl q 0 e []))) a w/\ρ' b= .slice x 0 0:=by
 refine ⟨_,_,(h.add hb (n:= .sl q 0 e []) (v:= .slice x 0 0) (Fn:=λ_ _=>False) (X':=X) rfl (λ_ _ h=>h.elim) (λ_ _ h=>h) (λ_ _ h=>h.elim) ?_ (.inl rfl)).more ?_,va5 _ _ _⟩
 ·refine .sl q 0 e [] ?_;rw [va5,va5];exact .nil e m _ hm λ_ _ h=>h
 ·intro i hi;exact hi.imp id λe=>by subst e;omega
theorem Parts.world {X0:vaj} {l:List PV} {us:List Value} {Gk:Nat->vaj} (h:Parts cx w X0 l us Gk) {w':World} {M:vaj} (hk:Kept w w' M) (hz:∀b o,M b o->¬zU cx.Z b o) (hM:∀j,j<l.length->Apart (Gk j) M):
  Parts cx w' X0 l us Gk:=
 ⟨h.len,λj c u hc hu=>(h.dc j c u hc hu).mono (λb o hf=>hk.same (hM j (Aa.1 hc).1 b o hf)) (vst cx hk hz) λ_ _ _ h=>h,h.cells,h.apart,h.apartX⟩
theorem DC.open {Fd:vaj} {e:Nat} {es:List PV} {v:Value} (h:DC cx.P w cx.Z (.sl e es) v Fd) {X0:vaj} (hX:Apart Fd X0):(∃x,v= .slice x 0 0/\es= [])\/
  ∃g off cap m fr cur us Gk,v= .slice (some ⟨g,off,none⟩) es.length cap/\va8 cx.P e=some m/\(∀y∈es,y.cells.length=m)/\w.heap[g]? =some (.cells cur e fr)/\NoFz fr cur.size/\es.length<=cap/\cap<=maxLen/\cur.size=off+cap * m/\
   Parts cx w (λb o=>X0 b o\/b=g) (flat es) us Gk/\(∀(k:Nat) u,us[k]? =some u->cur[off+k]? =some u)/\(∀b o,Fd b o↔(b=g\/∃k,k<(flat es).length/\Gk k b o)):=by
 cases h with
 |nil=>exact .inl ⟨_,rfl,rfl⟩
 |sl _ _ g off len cap m fr cur vs Fk _ hl hm hw hg hfr hlc hcm hsz hc hr hF hd hd0=>
  subst hl;have get:∀(k:Nat) u,((A7 (flat es).length).map vs)[k]? =some u->k<(flat es).length/\u=vs k:=by
   intro k u hu;have hlt:k<(flat es).length:=by have:=(Aa.1 hu).1;simpa using this
   simp only [Ab,Ak hlt,Ah,Af] at hu;exact ⟨hlt,hu.symm⟩
  refine .inr ⟨g,off,cap,m,fr,cur,(A7 (flat es).length).map vs,Fk,rfl,hm,hw,hg,hfr,hlc,hcm,hsz,⟨by simp,?_,?_,hd,?_⟩,?_,hF⟩
  ·intro j c u hcj hu;obtain ⟨_,rfl⟩:=get j u hu;exact hr j c hcj
  ·intro y hy;obtain ⟨j,hj⟩:=Am hy;exact (hr j y hj).cells1
  ·intro j hj b o hf hx;rcases hx with hx|rfl
   ·exact hX b o ((hF b o).2 (.inr ⟨j,hj,hf⟩)) hx
   ·exact hd0 j hj o hf
  ·intro k u hu;obtain ⟨hlt,rfl⟩:=get k u hu;exact hc k _ (Ac hlt)
theorem DC.behind {P:Program} {Z:Zn} {Fd:vaj} {e m g off l' c' lo cap:Nat} {es:List PV} (h:DC P w Z (.sl e es) (.slice (some ⟨g,off,none⟩) l' c') Fd) (hm:va8 P e=some m) (hlo:lo<=es.length) (h0:cap≠0) (hc:cap+lo=c'):
  ∃F',DC P w Z (.sl e (es.drop lo)) (.slice (some ⟨g,off+lo * m,none⟩) (es.length-lo) cap) F'/\∀b o,F' b o->Fd b o:=by
 cases h with
 |nil=>omega
 |sl _ _ _ _ len _ m' fr cur vs Fk _ hl hm' hw hg hfr hlc hcm hsz hcc hr hF hd hd0=>
  rw [hm] at hm';cases hm';have hfd:=vp5 hw lo;have hget:∀k,(flat (es.drop lo))[k]? =(flat es)[lo * m+k]? :=λk=>by rw [hfd,List.getElem?_drop]
  have hlen:∀k,k<(flat (es.drop lo)).length->lo * m+k<(flat es).length:=λk hk=>by rw [hfd,List.length_drop] at hk;omega
  refine ⟨λb o=>b=g\/∃k,k<(flat (es.drop lo)).length/\Fk (lo * m+k) b o,.sl e _ g _ _ cap m fr cur (λk=>vs (lo * m+k)) (λk=>Fk (lo * m+k)) _ (by simp) hm (λy hy=>hw y (A5 hy)) hg hfr zo zo ?_ ?_ ?_ (λ_ _=>Iff.rfl) ?_ ?_,?_⟩
  ·rw [hsz,<-hc,Aq];omega
  ·intro k c hk;rw [hget] at hk;rw [Nat.add_assoc];exact hcc _ c hk
  ·intro k c hk;rw [hget] at hk;exact hr _ c hk
  ·intro k l hk hl' hne;exact hd _ _ (hlen k hk) (hlen l hl') zo
  ·intro k hk;exact hd0 _ (hlen k hk)
  ·rintro b o (rfl|⟨k,hk,hf⟩)
   ·exact (hF _ o).2 (.inl rfl)
   ·exact (hF b o).2 (.inr ⟨_,hlen k hk,hf⟩)
theorem DC.front {P:Program} {Z:Zn} {Fd:vaj} {e cap len:Nat} {x:Option Addr} {es:List PV} (h:DC P w Z (.sl e es) (.slice x len cap) Fd) (n:Nat) (hn:n<=len):
  ∃F',DC P w Z (.sl e (es.take n)) (.slice x n cap) F'/\∀b o,F' b o->Fd b o:=by
 cases h with
 |nil _ m _ hm hF=>
  obtain rfl:n=0:=zo
  exact ⟨Fd,.nil e m Fd hm hF,λ_ _ h=>h⟩
 |sl _ _ g off _ _ m fr cur vs Fk _ hl hm hw hg hfr hlc hcm hsz hcc hr hF hd hd0=>
  have hft:=vp4 hw n;have hle:(flat (es.take n)).length<=(flat es).length:=by rw [hft,List.length_take];omega
  have hget:∀k c,(flat (es.take n))[k]? =some c->(flat es)[k]? =some c:=λk c hk=>by
   rw [hft,List.getElem?_take] at hk;split at hk
   ·exact hk
   ·cases hk
  refine ⟨λb o=>b=g\/∃k,k<(flat (es.take n)).length/\Fk k b o,.sl e _ g off _ cap m fr cur vs Fk _ (by simp;omega) hm (λy hy=>hw y (A4 hy)) hg hfr zo hcm hsz (λk c hk=>hcc k c (hget k c hk)) (λk c hk=>hr k c (hget k c hk)) (λ_ _=>Iff.rfl) (λk l hk hl' hne=>hd k l zo zo hne) (λk hk=>hd0 k zo),?_⟩
  rintro b o (rfl|⟨k,hk,hf⟩)
  ·exact (hF _ o).2 (.inl rfl)
  ·exact (hF b o).2 (.inr ⟨k,zo,hf⟩)
abbrev Wb (U:Nat->Prop) (b:Nat):Nat->Prop:=λi=>U i\/i=b+50
theorem qbs (h:G cx U X ρ F st a w) {b:Nat} (hb:¬U (b+50)) {e:Nat} {c:TV} {v:Value} (hc:TR cx.P w cx.Z ρ F (vah st) c v) (hi:idsIn U c) {r:List PV×Bool} {s1:St} (hr:(appTo b e c).run st=some (r,s1)):
  ∃Fd F',DC cx.P w cx.Z (.sl e r.1) v Fd/\Apart Fd X/\G cx (Wb U b) (λb o=>X b o\/Fd b o) ρ F' s1 a w/\∀d u,TR cx.P w cx.Z ρ F (vah st) d u->idsIn U d->TR cx.P w cx.Z ρ F' (vah s1) d u:=by
 unfold appTo at hr;split at hr
 ·rename_i e';split at hr
  ·rename_i he;subst he;cases run_pure hr;cases hc with
   |nl _ m hm=>exact ⟨λ_ _=>False,F,.nil _ m _ hm λ_ _ h=>h,λ_ _ h=>h.elim,(h.less λb o hx=>hx.resolve_right id).more λ_ h=> .inl h,λ_ _ h _=>h⟩
  ·exact (vac hr).elim
 ·rename_i id;obtain ⟨nd,s2,h1,h2⟩:=vaa hr;cases vbn h1;split at h2
  ·rename_i q ver e' es hn;split at h2
   ·rename_i he;subst he;obtain ⟨_,s3,h3,h4⟩:=vaa h2;cases vby h3;cases run_pure h4;obtain ⟨hd,_⟩:=vdt h hn;have hv:v=ρ id:=by cases hc;rfl
    rw [hv];exact ⟨F id,F,hd,h.apartX id (by rw [hn];rfl),(h.drop hn hd.inside).more λ_ h=> .inl h,λd u hd hdi=>hd.shape hdi (vm3 st id)⟩
   ·exact (vac h2).elim
  ·exact (vac h2).elim
 ·rename_i id lo k;obtain ⟨nd,s2,h1,h2⟩:=vaa hr;cases vbn h1;split at h2
  ·rename_i q ver e' es hn;split at h2
   ·rename_i he;subst he;split at h2
    ·rename_i hlk;obtain ⟨_,s3,h3,h4⟩:=vaa h2;cases vby h3;cases run_pure h4;obtain ⟨hd,hsh⟩:=vdt h hn;have hX:=h.apartX id (by rw [hn];rfl);have hG:=h.drop hn hd.inside;have hskk:∀d u,TR cx.P w cx.Z ρ F (vah st) d u->idsIn U d->TR cx.P w cx.Z ρ F (vah (st.setNode id none)) d u:=λd u hd hdi=>hd.shape hdi (vm3 st id);cases hc with
     |sb _ _ _ _ _ hcl=>
      obtain ⟨x,cap,rfl,hcap,hle,hnz⟩:=hcl _ _ _ hsh;by_cases hc0:cap=0
      ·obtain ⟨m,hm⟩:=hd.esize;have hk0:k=0:=zo
       subst hc0 hk0;have hdr:es.drop lo= []:=List.drop_eq_nil_of_le zo;simp only [hdr];exact ⟨λ_ _=>False,F,.nil _ m _ hm λ_ _ h=>h,λ_ _ h=>h.elim,(hG.less λb o hx=>hx.elim .inl λh=>h.elim).more λ_ h=> .inl h,hskk⟩
      ·obtain ⟨g,off,l',c',m,hr0,hm,rfl,hcc⟩:=hnz hc0;rw [hr0] at hd;obtain ⟨F',hd',hsub⟩:=hd.behind hm (lo:=lo) zo hc0 hcc;have hkk:es.length-lo=k:=zo
       rw [hkk] at hd';exact ⟨F',F,hd',λb o hf hx=>hX b o (hsub b o hf) hx,(hG.less λb o hx=>hx.imp (λh=>h) (hsub b o)).more λ_ h=> .inl h,hskk⟩
    ·exact (vac h2).elim
   ·exact (vac h2).elim
  ·exact (vac h2).elim
 ·rename_i id ver p;obtain ⟨nd,s2,h1,h2⟩:=vaa hr;cases vbn h1;split at h2
  ·rename_i q ver' e' es hn;split at h2
   ·rename_i hver;subst hver;unfold takeIn at h2;split at h2
    ·rename_i r0 es1 hg hp;split at h2
     ·rename_i he;subst he;obtain ⟨_,s3,h3,h4⟩:=vaa h2;cases vby h3;cases run_pure h4;obtain ⟨hd,hsh⟩:=vdt h hn;have hsome:(st.node id).isSome=true:=by rw [hn];rfl
      have hnav:Nav cx.P w (F id) (ρ id) p v:=by
       cases hc with
       |ri _ _ _ _ _ hnav=>exact hnav e' _ hsh
      obtain ⟨G0,G1,k1,k2,k3,k4,k5,k6⟩:=hd.carve p hg hp hnav;have hsub0:∀b o,G0 b o->F id b o:=λb o hg=>(k3 b o).2 (.inl hg);have hsub1:∀b o,G1 b o->F id b o:=λb o hg=>(k3 b o).2 (.inr hg);have hin:=hd.inside;have no:¬(b+51=0\/U (b+51-1)):=λh=>h.elim (λh=>zo) λh=>hb h;have hsh1:∀ver1 e1 l,vah (st.setNode id (some (.sl q (b+51) e' es1))) id=some (ver1,e1,l)->ver1=b+51/\e1=e'/\l=es.length:=by
       intro ver1 e1 l hs1;unfold vah at hs1;rw [St.setNode_node,if_pos rfl] at hs1;simp only [k6] at hs1;cases hs1;exact ⟨rfl,rfl,rfl⟩
      have hkept:ShapeKept U (vah st) (vah (st.setNode id (some (.sl q (b+51) e' es1)))):=by
       intro j hj ver1 e1 l hs1;by_cases ej:j=id
       ·subst ej;obtain ⟨rfl,rfl,rfl⟩:=hsh1 ver1 e1 l hs1;exact ⟨_,hsh,λh=>(no h).elim⟩
       ·rw [ve2 st _ ej] at hs1;exact ⟨ver1,hs1,λ_=>rfl⟩
      have hup:=h.update (U':=Wb U b) (id:=id) (o:=some (.sl q (b+51) e' es1)) (v':=ρ id) (Fn:=G0) (X':=λb o=>X b o\/G1 b o) (M:=λ_ _=>False) (w':=w)
       (λ_ h=> .inl h) (.refl w _) (λ_ _ h=>h.elim) (λ_ _ h=>h.elim) (λ_ _ _ _ _ _ h=>h.elim) (λ_=>rfl) (h.one id) hkept
       (λ_ ver1 e1 l hs1 hv1=>by
        obtain ⟨rfl,_,_⟩:=hsh1 ver1 e1 l hs1
        exact (no hv1).elim)
       (λn hn'=>by
        cases hn';refine ⟨?_,.inl (h.used id _ hn).1,.inr (.inr rfl)⟩;refine .sl q _ e' es1 ?_
        rw [va5,va5];exact k1)
       (λ_=>⟨λb o hg=>h.mine id hsome b o (hsub0 b o hg),λi hi' his b o hf hg=>h.apart i id hi' his hsome b o hf (hsub0 b o hg),λb o hg hx=>hx.elim (λhx=>h.apartX id hsome b o (hsub0 b o hg) hx) λhx=>k4 b o hg hx⟩)
       (λb o hx=>hx.elim (h.mineX b o) λhx=>⟨(h.mine id hsome b o (hsub1 b o hx)).1,(h.mine id hsome b o (hsub1 b o hx)).2,hin b o (hsub1 b o hx)⟩)
       (λi hi' his b o hf hx=>hx.elim (λhx=>h.apartX i his b o hf hx) λhx=>h.apart i id hi' his hsome b o hf (hsub1 b o hx))
      rw [vd6] at hup;refine ⟨G1,_,k2,λb o hg hx=>h.apartX id hsome b o (hsub1 b o hg) hx,hup,λd u hd' hdi=> ?_⟩;refine hd'.mono hdi (λ_ _ _ cur _ _ hb=>⟨cur,hb,rfl,rfl⟩) (λ_ _=>rfl) hkept λj _ ver1 e1 l hs1 hv1=> ?_;by_cases ej:j=id
      ·subst ej;obtain ⟨rfl,_,_⟩:=hsh1 ver1 e1 l hs1;exact (no hv1).elim
      ·rw [vce _ _ ej];exact λ_ _ h=>h
     ·exact (vac h2).elim
    ·exact (vac h2).elim
   ·exact (vac h2).elim
  ·exact (vac h2).elim
 ·exact (vac hr).elim
def at1:PV->PV
 | .a v=> .a v
 |_=> .un
theorem vyd (x:PV):x.cpy.cells=x.cells.map at1:=by
 cases x<;>rfl
theorem qac (es:List PV):flat (es.map PV.cpy)=(flat es).map at1:=by
 induction es with
 |nil=>rfl
 |cons y es ih=>
  have e1:flat (y::es)=y.cells++flat es:=by simp [flat]
  have e2:flat ((y::es).map PV.cpy)=y.cpy.cells++flat (es.map PV.cpy):=by simp [flat]
  rw [e1,e2,ih,vyd,A9]
theorem qub {P:Program} {Z Z':Zn} {c:PV} {v:Value} (h:RC P w Z c v):DC P w Z' (at1 c) v (λ_ _=>False):=by
 cases h with
 |a _ h=>exact .a _ _ h λ_ _ h=>h
 |un _ h=>exact .un _ _ h λ_ _ h=>h
 |sl=>exact .un _ _ rfl λ_ _ h=>h
 |fz=>exact .un _ _ rfl λ_ _ h=>h
structure News (cx:Cx) (w:World) (X:vaj) (e:Nat) (es:List PV) (v:Value) (news:List Value) (Hk:Nat->vaj):Prop where
 val:∃x cap,v= .slice x es.length cap/\(∀y,x=some y->(es≠[]->y.spot=none)/\∀(j:Nat) u,news[j]? =some u->w.cell? ⟨y.block,y.off+j,none⟩=some u)/\(x=none->es= [])
 width:∃m,va8 cx.P e=some m/\∀y∈es,y.cells.length=m
 parts:Parts cx w X (flat es) news Hk
theorem vwd (h:G cx U X ρ F st a w) {e:Nat} {c:TV} {v:Value} (hc:TR cx.P w cx.Z ρ F (vah st) c v) {r:Nat×List PV} {s1:St} (hr:(elems c).run st=some (r,s1)) (he:r.1=e):
  s1=st/\∃news,News cx w X e (r.2.map PV.cpy) v news (λ_ _ _=>False):=by
 obtain ⟨rfl,hrc⟩:=vpd h hc hr;subst he;cases hrc with
 |sl _ _ x len cap m vs hl hm hw hx hn hcc hrr=>
  refine ⟨rfl,(A7 (flat r.2).length).map vs,⟨x,cap,by rw [Ai,<-hl.1],λy hy=>⟨λhne=>hx y hy (λh0=>hne (by rw [h0];rfl)),λj u hu=> ?_⟩,λh0=> ?_⟩,⟨m,hm,?_⟩,vk1 (by rw [qac];simp) ?_⟩
  ·have hlt:j<(flat r.2).length:=by have:=(Aa.1 hu).1;simpa using this
   simp only [Ab,Ak hlt,Ah,Af] at hu;rw [<-hu];exact (hcc j _ (Ac hlt) y hy).1
  ·have:=hn h0;have:r.2= []:=Ad zo;rw [this];rfl
  ·intro y hy;obtain ⟨z,hz,rfl⟩:=Ay.1 hy;rw [vyd,Ai];exact hw z hz
  ·intro k c u hc' hu;rw [qac,Ab] at hc';obtain ⟨c0,hc0,rfl⟩:=A1.1 hc';have hlt:k<(flat r.2).length:=(Aa.1 hc0).1;simp only [Ab,Ak hlt,Ah,Af] at hu;rw [<-hu];exact qub (hrr k c0 hc0)
def fz1:PV->PV
 | .a v=> .a v
 | .sl e es=> .fz e es
 | .fz e es=> .fz e es
 |_=> .un
theorem vyy (x:PV):x.fzc.cells=x.cells.map fz1:=by
 cases x with
 |st cs=>simp only [PV.fzc,PV.cells];exact List.map_congr_left λc _=>by cases c<;>rfl
 |_=>rfl
theorem qbz (es:List PV):flat (es.map PV.fzc)=(flat es).map fz1:=by
 induction es with
 |nil=>rfl
 |cons y es ih=>
  have e1:flat (y::es)=y.cells++flat es:=by simp [flat]
  have e2:flat ((y::es).map PV.fzc)=y.fzc.cells++flat (es.map PV.fzc):=by simp [flat]
  rw [e1,e2,ih,vyy,A9]
theorem qug {P:Program} {Z:Zn} {c:PV} {v:Value} (h:RC P w Z c v):DC P w Z (fz1 c) v (λ_ _=>False):=by
 cases h with
 |a _ h=>exact .a _ _ h λ_ _ h=>h
 |un _ h=>exact .un _ _ h λ_ _ h=>h
 |sl e es x len cap m vs hl hm hw hx hn hc hr=>exact .fz e es _ _ (.sl e es x len cap m vs hl hm hw hx hn hc hr) λ_ _ h=>h
 |fz e es x len cap m vs hl hm hw hx hn hc hr=>exact .fz e es _ _ (.sl e es x len cap m vs hl hm hw hx hn hc hr) λ_ _ h=>h
theorem qpt {e:Nat} {es:List PV} {v:Value} (hrc:RC cx.P w cx.Z (.sl e es) v):∃news,News cx w X e (es.map PV.fzc) v news (λ_ _ _=>False):=by
 cases hrc with
 |sl _ _ x len cap m vs hl hm hw hx hn hcc hrr=>
  refine ⟨(A7 (flat es).length).map vs,⟨x,cap,by rw [Ai,<-hl.1],λy hy=>⟨λhne=>hx y hy (λh0=>hne (by rw [h0];rfl)),λj u hu=> ?_⟩,λh0=> ?_⟩,⟨m,hm,?_⟩,vk1 (by rw [qbz];simp) ?_⟩
  ·have hlt:j<(flat es).length:=by have:=(Aa.1 hu).1;simpa using this
   simp only [Ab,Ak hlt,Ah,Af] at hu;rw [<-hu];exact (hcc j _ (Ac hlt) y hy).1
  ·have:=hn h0;have:es= []:=Ad zo;rw [this];rfl
  ·intro y hy;obtain ⟨z,hz,rfl⟩:=Ay.1 hy;rw [vyy,Ai];exact hw z hz
  ·intro k c u hc' hu;rw [qbz,Ab] at hc';obtain ⟨c0,hc0,rfl⟩:=A1.1 hc';have hlt:k<(flat es).length:=(Aa.1 hc0).1;simp only [Ab,Ak hlt,Ah,Af] at hu;rw [<-hu];exact qug (hrr k c0 hc0)
theorem qlg (h:G cx U X ρ F st a w) {e:Nat} {mv:Bool} {c:TV} {v:Value} (hc:TR cx.P w cx.Z ρ F (vah st) c v) {r:List PV×Bool} {s1:St} (hr:(appOf e mv c).run st=some (r,s1)):
  ∃news Hk,News cx w X e r.1 v news Hk/\G cx U (Or X (flat r.1).length Hk) ρ F s1 a w:=by
 unfold appOf at hr;split at hr
 ·rename_i id;obtain ⟨nd,s2,h1,h2⟩:=vaa hr;cases vbn h1;split at h2
  ·rename_i q ver e' es hn;split at h2
   ·rename_i he;subst he;split at h2
    ·obtain ⟨_,s3,h3,h4⟩:=vaa h2;cases vby h3;cases run_pure h4;obtain ⟨hd,_⟩:=vdt h hn;have hv:v=ρ id:=by cases hc;rfl
     rw [hv];have hap:=h.apartX id (by rw [hn];rfl);have hG:=h.drop hn hd.inside;obtain ⟨m0,hm0⟩:=hd.esize;rcases hd.open hap with ⟨x0,e1,rfl⟩|⟨g,off,cap,m,fr,cur,us,Gk,e1,hm,hw,hg,hfr,hlc,hcm,hsz,hp,hcu,hF⟩
     ·rw [e1];refine ⟨[],λ_ _ _=>False,⟨⟨x0,0,rfl,by simp,λ_=>rfl⟩,⟨m0,hm0,by simp⟩,vk1 (by simp [flat]) (by simp)⟩,hG.less λb o hx=> .inl (vlz b o hx)⟩
     ·rw [e1];refine ⟨us,Gk,⟨⟨_,cap,rfl,λy hy=> ?_,by simp⟩,⟨m,hm,hw⟩,⟨hp.len,hp.dc,hp.cells,hp.apart,λj hj b o hf hx=>hp.apartX j hj b o hf (.inl hx)⟩⟩,hG.less ?_⟩
      ·cases hy;refine ⟨λ_=>rfl,λj u hu=> ?_⟩;rw [vef hg];exact hcu j u hu
      ·rintro b o (hx|⟨k,hk,hx⟩)
       ·exact .inl hx
       ·exact .inr ((hF b o).2 (.inr ⟨k,hk,hx⟩))
    ·cases run_pure h2;have hr':(elems (.rf id)).run st=some ((e',es),st):=by simp [elems,getN,M.bind,M.run,hn]
     obtain ⟨_,news,hnews⟩:=vwd h hc hr' rfl;exact ⟨news,_,hnews,h.less vlz⟩
   ·exact (vac h2).elim
  ·exact (vac h2).elim
 ·obtain ⟨r',s2,h1,h2⟩:=vaa hr;split at h2
  ·rename_i he;cases run_pure h2;obtain ⟨rfl,news,hnews⟩:=vwd h hc h1 he;unfold cpyOf;split
   ·cases hc with
    |sz _ _ _ hrc=>
     simp only [elems] at h1;cases run_pure h1;simp only at he;subst he;obtain ⟨news,hn⟩:=qpt (X:=X) hrc;exact ⟨news,_,hn,h.less vlz⟩
   ·exact ⟨news,_,hnews,h.less vlz⟩
  ·exact (vac h2).elim
theorem vvg {P:Program} {t ty e:TypeId} {i:TypeInfo} (ht:P.underlying t=some (.slice e)) (hi:P.info? e=some i) {base x:Option Addr} {len cap c:Nat} (hle:len<=cap):
  (Builtin.append_ #[t,t] ty #[.slice base len cap,.slice x 0 c]).run P w= .ok (.slice base len cap) w:=by
 cases base<;>cases x<;>simp [Builtin.append_,run_underlying ht,sizeOf,typeInfo,hi,Builtin.lenOf,Builtin.firstCells,hle,storeCells,loadCells,loadCellsFrom]
theorem vwj {olds news:List Value} {z:Value} {n m cap:Nat} (h1:olds.length+news.length=n * m) (hz:z.cells.size=m) (hc:n<=cap):
  (olds.toArray++news.toArray++Builtin.zeroCells z.cells (cap-n)).size=cap * m:=by
 simp only [Array.size_append,List.size_toArray,size_zeroCells,hz];have:cap * m=n * m+(cap-n) * m:=by rw [<-Aq];congr 1;omega
 omega
theorem vtw {P:Program} (w:World) (t ty e:TypeId) (i:TypeInfo) (ht:P.underlying t=some (.slice e)) (hi:P.info? e=some i)
  (g off sLen sCap:Nat) (cur:Array Value) {fr:Nat×Nat} (hg:w.heap[g]? =some (.cells cur e fr)) (hfr:NoFz fr cur.size)
  (a:Addr) (m c:Nat) (news:List Value) (hl:news.length=m * i.size) (hnews:∀j u,news[j]? =some u->w.cell? (a.add j)=some u) (h1:∀u∈news,u.oneCell'=true)
  (hroom:sLen+m<=sCap) (hfit:off+sLen * i.size+news.length<=cur.size):
  (Builtin.append_ #[t,t] ty #[.slice (some ⟨g,off,none⟩) sLen sCap,.slice (some a) m c]).run P w=
   .ok (.slice (some ⟨g,off,none⟩) (sLen+m) sCap) (w.setRow g (cur.toList.take (off+sLen * i.size)++news++cur.toList.drop (off+sLen * i.size+news.length)).toArray):=by
 have hf:=run_firstCells_some (P:=P) w i.size m a m c news hl hnews;have hst:=vi2 P g (off+sLen * i.size) e fr news 0 cur w hg hfr (by simpa using hfit) h1;simp only [Nat.add_zero] at hst;simp [Builtin.append_,run_underlying ht,sizeOf,typeInfo,hi,Builtin.lenOf,hroom,hf,Addr.add_lit,hst]
theorem vwt {P:Program} {x0:Option Addr} (t ty e:TypeId) (i:TypeInfo) (z:Value) (ht:P.underlying t=some (.slice e)) (hi:P.info? e=some i) (hz:i.zero=some z)
  (a:Addr) (n c:Nat) (news:List Value) (hl:news.length=n * i.size) (hnews:∀j v,news[j]? =some v->w.cell? (a.add j)=some v)
  (h0:0<n) (h63:(n:Int)<=9223372036854775807) (h48:n * i.bytes<=281474976710656):
  (Builtin.append_ #[t,t] ty #[.slice x0 0 0,.slice (some a) n c]).run P w=
   .ok (.slice (some ⟨w.heap.size,0,none⟩) n (grownCap w n 0 e)) (w.drew.alloc (.cells (news.toArray++Builtin.zeroCells z.cells (grownCap w n 0 e-n)) e)):=by
 cases x0 with
 |none=>exact run_append_nil w t ty e i z ht hi hz a n c news hl hnews h0 h63 h48
 |some b=>
  have:=run_append_grow (P:=P) w t ty e i z ht hi hz b 0 0 [] (by simp) (by simp) a n c news hl hnews zo (by simpa using h63) (by rw [Ax,nextslicecap_zero h0];exact h48);simpa using this
theorem qjk (h:G cx U (λ_ _=>False) ρ F st a w) {b:Nat} (hb0:¬U b) (hb50:¬U (b+50)) {t ty e by_:Nat} {mv:Bool} (ht:cx.P.underlying t=some (.slice e)) {m:Nat} (hm:va8 cx.P e=some m) (hby:bytesT cx.P e=some by_) {zs:List ZC}
  (hz:zeros cx.P e=some zs) (_hpos:0<m) {c d c':TV} {v u:Value} (hc:TR cx.P w cx.Z ρ F (vah st) c v) (hci:idsIn U c) (hd:TR cx.P w cx.Z ρ F (vah st) d u) (hdi:idsIn U d) {s1:St}
  (hr:(appendM b e by_ mv c d).run st=some (c',s1)):
  ∃w' ρ' F' v',(Builtin.append_ #[t,t] ty #[v,u]).run cx.P w= .ok v' w'/\G cx (Win (Wb U b) b) (λ_ _=>False) ρ' F' s1 a w'/\c'= .rf b/\v'=ρ' b:=by
 obtain ⟨xs,s2,h1,h2⟩:=vaa hr;obtain ⟨ys,s3,h3,h4⟩:=vaa h2;split at h4
 ·rename_i hcond;obtain ⟨h63,h48⟩:=qih.1 hcond;obtain ⟨_,s4,h5,h6⟩:=vaa h4;have e5:=vby h5;have e6:=run_pure h6;have e7:s4=s3.setNode b _:=congrArg Prod.snd e5;have e8:c'= .rf b:=congrArg Prod.fst e6;have e9:s1=s4:=congrArg Prod.snd e6;subst e9 e8;rw [e7];obtain ⟨i,z,hi,hz0,hsz,hfit⟩:=vjr hz;have hmi:i.size=m:=by unfold va8 at hm;rw [hi] at hm;simpa using hm
  have hbi:i.bytes=by_:=by unfold bytesT at hby;rw [hi] at hby;simpa using hby
  have hzsz:z.cells.size=m:=by
   rw [<-Aj,(qfs (cx:=cx) (w:=w) hfit).1,<-hsz,hmi]
  obtain ⟨Fd,F1,hdx,hap,hG,hsk⟩:=qbs h hb50 hc hci h1;have hb:¬Wb U b b:=λh=>h.elim hb0 zo;obtain ⟨news,Hk,hN,hG2⟩:=qlg hG (hsk _ _ hd hdi) h3;obtain ⟨x,cap2,rfl,hx,hxn⟩:=hN.val;obtain ⟨m',hm',hw2⟩:=hN.width;rw [hm] at hm';cases hm';have hfl2:=vfk hw2;have hnl:news.length=ys.1.length * m:=by rw [hN.parts.len,hfl2]
  have h63':xs.1.length+ys.1.length<=9223372036854775807:=by simpa [maxLen] using h63
  rcases hdx.open hap with ⟨x0,rfl,hx0⟩|⟨g,off,cap,m1,fr,cur,us,Gk,rfl,hm1,hw1,hg,hfr,hlc,hcm,hcsz,hp,hcu,hF⟩
  ·rw [hx0] at h48 h63 h63'⊢;simp only [List.length_nil,Ax,List.nil_append] at h48 h63 h63'⊢;by_cases hn0:ys.1.length=0
   ·have hy0:ys.1= []:=Ad hn0;rw [hy0];obtain ⟨ρ',F',k1,k2⟩:=(hG2.less (X':=λ_ _=>False) λ_ _ h=>h.elim).nilSl hb (q:=xs.2||ys.2) hm x0;exact ⟨w,ρ',F',_,vvg ht hi (Ae _),k1,trivial,k2.symm⟩
   ·cases x with
    |none=>rw [hxn rfl] at hn0;exact absurd rfl hn0
    |some y=>
     obtain ⟨hys,hyc⟩:=hx y rfl;have hys:=hys λh0=>hn0 (by rw [h0];rfl);have hrun:=vwt (P:=cx.P) (w:=w) (x0:=x0) t ty e i z ht hi hz0 y ys.1.length cap2 news (by rw [hmi];exact hnl) (λj u hj=>by rw [vhx hys];exact hyc j u hj) zo zo (by rw [hbi];omega);have hge:=grownCap_ge w ys.1.length 0 e;have hpd:=hN.parts.world (Kept.drew w λ_ _=>False) (λ_ _ h=>h.elim) (λ_ _ _ _ _ h=>h);have hpd':Parts cx w.drew (λ_ _=>False) (flat ys.1) news Hk:=⟨hpd.len,hpd.dc,hpd.cells,hpd.apart,λ_ _ _ _ _ h=>h.elim⟩
     obtain ⟨ρ',F',k1,k2⟩:=hG2.drew.newSl hb (q:=xs.2||ys.2) (e:=e) (len:=ys.1.length) (cap:=grownCap w ys.1.length 0 e) (cur:=news.toArray++Builtin.zeroCells z.cells (grownCap w ys.1.length 0 e-ys.1.length)) rfl hm hw2 hge
      (grownCap_le_maxLen w _ _ e h63) (by have:=vwj (olds:= []) (news:=news) (z:=z) (n:=ys.1.length) (m:=m) (cap:=grownCap w ys.1.length 0 e) (by simpa using hnl) hzsz hge;simpa using this) hpd'
      (λb o hx=>hx.elim (λh=>h.elim) .inr) (λk u hu=>by
       rw [Ao (by simpa using (Aa.1 hu).1)]
       simpa using hu)
     exact ⟨_,ρ',F',_,hrun,k1,trivial,k2.symm⟩
  ·rw [hm] at hm1;cases hm1;have hfl1:=vfk hw1;have hul:us.length=xs.1.length * m:=by rw [hp.len,hfl1]
   have hgX:∀b o,b=g->Fd b o:=λb o hbg=>(hF b o).2 (.inl hbg);have hp2:Parts cx w (Or (λb o=>False\/b=g) (flat xs.1).length Gk) (flat ys.1) news Hk:=by
    refine ⟨hN.parts.len,hN.parts.dc,hN.parts.cells,hN.parts.apart,λj hj b o hf hx=>hN.parts.apartX j hj b o hf (.inr ?_)⟩;rcases hx with (hx|hx)|⟨k,hk,hx⟩
    ·exact hx.elim
    ·exact hgX b o hx
    ·exact (hF b o).2 (.inr ⟨k,hk,hx⟩)
   have hpp:=hp.app hp2;have hflat:flat (xs.1++ys.1)=flat xs.1++flat ys.1:=by simp [flat]
   rw [<-hflat] at hpp;have hww:∀y∈xs.1++ys.1,y.cells.length=m:=λy hy=>(Az.1 hy).elim (hw1 y) (hw2 y);have hXX:∀b o,Or (λb o=>False\/b=g) (flat (xs.1++ys.1)).length (λk=>if k<(flat xs.1).length then Gk k else Hk (k-(flat xs.1).length)) b o->Or (λb o=>(λ_ _=>False:vaj) b o\/Fd b o) (flat ys.1).length Hk b o:=by
    intro b o hx;rw [hflat] at hx;rcases Or.app b o hx with ((hx|hx)|⟨k,hk,hx⟩)|hx
    ·exact hx.elim
    ·exact .inl (.inr (hgX b o hx))
    ·exact .inl (.inr ((hF b o).2 (.inr ⟨k,hk,hx⟩)))
    ·exact .inr hx
   by_cases hn0:ys.1.length=0
   ·have hy0:ys.1= []:=Ad hn0;have hnil:news= []:=Ad (by rw [hnl,hn0,Bc]);rw [hy0] at hpp hww hXX⊢;rw [hnil,List.append_nil us] at hpp;obtain ⟨ρ',F',k1,k2⟩:=(hG2.less (λb o hx=>by rw [hy0];exact hXX b o hx)).oldSl (X':=λ_ _=>False) hb (q:=xs.2||ys.2) (len:=xs.1.length) (by simp) hm hww hlc hcm hcsz hg hfr hpp (λ_ _ h=>h) (λ_ h=>h) hcu;refine ⟨w,ρ',F',_,vvg ht hi hlc,?_,rfl,k2.symm⟩;exact k1
   ·cases x with
    |none=>rw [hxn rfl] at hn0;exact absurd rfl hn0
    |some y=>
     obtain ⟨hys,hyc⟩:=hx y rfl;have hys:=hys λh0=>hn0 (by rw [h0];rfl);have hnc:∀j u,news[j]? =some u->w.cell? (y.add j)=some u:=λj u hj=>by rw [vhx hys];exact hyc j u hj
     by_cases hroom:xs.1.length+ys.1.length<=cap
     ·have hn1:∀u∈news,u.oneCell'=true:=by
       intro u hu;obtain ⟨j,hj⟩:=Am hu;have hlt:j<(flat ys.1).length:=by rw [<-hN.parts.len];exact (Aa.1 hj).1
       rw [<-vrc];exact (hN.parts.dc j _ u (Ac hlt) hj).one
      have hfitc:off+xs.1.length * m+news.length<=cur.size:=by
       have:=A6 m hroom;rw [Aq] at this;omega
      have hrun:=vtw (P:=cx.P) w t ty e i ht hi g off xs.1.length cap cur hg hfr y ys.1.length cap2 news (by rw [hmi];exact hnl) hnc hn1 hroom (by rw [hmi];exact hfitc);rw [hmi] at hrun;have hk:=vmw (o:=off+xs.1.length * m) (vs:=news) hg hfitc;have hMF:∀b' k,(b'=g/\off+xs.1.length * m<=k/\k<off+xs.1.length * m+news.length)->Fd b' k:=λb' k hM=>hgX b' k hM.1;have hG3:=hG2.world hk (λb' k hM=>(hG2.mineX b' k (.inl (.inr (hMF b' k hM)))).1) (λb' k hM hlt=>((hG2.mineX b' k (.inl (.inr (hMF b' k hM)))).2.1).resolve_right zo)
       (λj hj b' k hf hM=>hG2.apartX j hj b' k hf (.inl (.inr (hMF b' k hM))))
      have hpp':=hpp.world hk (λb' k hM=>(hG2.mineX b' k (.inl (.inr (hMF b' k hM)))).1) (λj hj b' k hf hM=>hpp.apartX j hj b' k hf (.inr hM.1));have hnew:∀(k:Nat) u,(us++news)[k]? =some u->(cur.toList.take (off+xs.1.length * m)++news++cur.toList.drop (off+xs.1.length * m+news.length)).toArray[off+k]? =some u:=by
       intro k u hu;rw [List.getElem?_toArray,vic _ _ _ _ (by simpa using hfitc)];by_cases hlt:k<us.length
       ·rw [Ap hlt] at hu;rw [if_neg zo];rw [Ag];exact hcu k u hu
       ·rw [An zo] at hu;have:=(Aa.1 hu).1;rw [if_pos zo,<-hul,show off+k-(off+us.length)=k-us.length by omega];exact hu
      obtain ⟨ρ',F',k1,k2⟩:=(hG3.less hXX).oldSl (X':=λ_ _=>False) hb (q:=xs.2||ys.2) (len:=xs.1.length+ys.1.length) (cap:=cap) (by simp) hm hww hroom hcm (by simp;omega) (setRow_heap w g _ _ _ _ hg) (hfr.eq (by simp;omega)) hpp' (λ_ _ h=>h) (λ_ h=>h) hnew;exact ⟨_,ρ',F',_,hrun,k1,rfl,k2.symm⟩
     ·have hlt:cap<xs.1.length+ys.1.length:=zo
      have hold:∀j u,us[j]? =some u->w.cell? ((⟨g,off,none⟩:Addr).add j)=some u:=λj u hj=>by
       rw [vhx rfl];rw [vef hg];exact hcu j u hj
      have hrun:=run_append_grow (P:=cx.P) w t ty e i z ht hi hz0 ⟨g,off,none⟩ xs.1.length cap us (by rw [hmi];exact hul) hold y ys.1.length cap2 news (by rw [hmi];exact hnl) hnc hlt zo
       (growslice_fits hlt (by rw [hbi];omega))
      have hge:=grownCap_ge w (xs.1.length+ys.1.length) cap e;have hpd:=hpp.world (Kept.drew w λ_ _=>False) (λ_ _ h=>h.elim) (λ_ _ _ _ _ h=>h);have hpd':Parts cx w.drew (λ_ _=>False) (flat (xs.1++ys.1)) (us++news) _:=⟨hpd.len,hpd.dc,hpd.cells,hpd.apart,λ_ _ _ _ _ h=>h.elim⟩
      obtain ⟨ρ',F',k1,k2⟩:=hG2.drew.newSl hb (q:=xs.2||ys.2) (e:=e) (len:=xs.1.length+ys.1.length) (cap:=grownCap w (xs.1.length+ys.1.length) cap e)
       (cur:=us.toArray++news.toArray++Builtin.zeroCells z.cells (grownCap w (xs.1.length+ys.1.length) cap e-(xs.1.length+ys.1.length))) (by simp) hm hww hge (grownCap_le_maxLen w _ _ e h63)
       (vwj (by rw [hul,hnl,<-Aq]) hzsz hge) hpd' (λb o hx=>hXX b o (hx.elim (λh=>h.elim) .inr)) (λk u hu=>by
        rw [Ao (by have:=(Aa.1 hu).1;simpa using this)]
        simpa using hu)
      exact ⟨_,ρ',F',_,hrun,k1,rfl,k2.symm⟩
 ·exact (vac h4).elim
theorem qg2 (h:G cx U (λ_ _=>False) ρ F st a w) {b:Nat} (hb:∀i,b<=i->i<b+100->¬U i) {o:Oper} {d:Nat} (ho:o.dst=some d) (hd:d<cx.n) {t e m by_:Nat} {mv:Bool} {zs:List ZC} {x y:Operand} {x' y':Opd} {c:Call}
  (hop:o.op= .call c) (hcal:c.callee= .builtin .append) (hargs:c.args= #[x,y]) (hts:c.argTypes= #[t,t]) (ht:cx.P.underlying t=some (.slice e)) (hm:va8 cx.P e=some m) (hby:bytesT cx.P e=some by_)
  (hz:zeros cx.P e=some zs) (hpos:0<m) (hx:cOpd cx.P t x=some x') (hy:cOpd cx.P t y=some y') {s1:St}
  (hr:((opd x').bind λu=>(opd y').bind λv=>(appendM b e by_ mv u v).bind (setS d)).run st=some ((),s1)):Now cx U b o s1 a w:=by
 obtain ⟨c1,s2,h1,h2⟩:=vaa hr;obtain ⟨rfl,g1,i1⟩:=vbw h hx h1;obtain ⟨c2,s3,h3,h4⟩:=vaa h2;obtain ⟨rfl,g2,i2⟩:=vbw h hy h3;obtain ⟨c3,s4,h5,h6⟩:=vaa h4;obtain ⟨w',ρ',F',v',hrun,hG,rfl,rfl⟩:=qjk (ty:=o.type) h (hb b (Ae _) zo) (hb (b+50) zo zo) ht hm hby hz hpos g1 i1 g2 i2 h5;have hG:=hG.more (U':=Win U b) λi hi=>hi.elim (λh=>h.elim .inl λh=> .inr zo) .inr;cases vbd h6;refine .value (ρ' b) w' ?_ ?_
 ·rw [vk8 hop hcal,hargs,hts];simp [builtin,hrun]
 ·rw [ho];exact hG.rel_put hd (.rf b) (.inr ⟨Ae _,zo⟩)
theorem qd6 (h:G cx U (λ_ _=>False) ρ F st a w) {b:Nat} (hb:∀i,b<=i->i<b+100->¬U i) {o:Oper} {d:Nat} (ho:o.dst=some d) (hd:d<cx.n) {t e m:TypeId} {x:Operand} {x':Opd} {hi mx:Operand} (hop:o.op= .slice t x none (some hi) (some mx))
  (ht:cx.P.underlying t=some (.slice e)) (hm:va8 cx.P e=some m) (hx:cOpd cx.P t x=some x') (hhi:isZero hi=true) (hmx:isZero mx=true) {s1:St}
  (hr:((opd x').bind λv=>(elems v).bind λr=>if r.1=e then (setN b (some (.sl false 0 e []))).bind λ_=>setS d (.rf b) else .fail).run st=some ((),s1)):Now cx U b o s1 a w:=by
 obtain ⟨c',s2,h1,h2⟩:=vaa hr;obtain ⟨rfl,g1,i1⟩:=vbw h hx h1;obtain ⟨r,s3,h3,h4⟩:=vaa h2;obtain ⟨rfl,hrc⟩:=vpd h g1 h3;split at h4
 ·obtain ⟨_,s4,h5,h6⟩:=vaa h4;cases vby h5;cases vbd h6;obtain ⟨y,cap,hv,_⟩:=hrc.slice;have z:∀{x:Operand},isZero x=true->x= .const (.int .i64 0):=by
   intro x hx;unfold isZero at hx;split at hx
   ·rw [beq_iff_eq] at hx;subst hx;rfl
   ·cases hx
  obtain rfl:=z hhi;obtain rfl:=z hmx;obtain ⟨x0,hrun⟩:∃x0,(execOp a.eval o).run cx.P w= .ok (.value (.slice x0 0 0)) w:=by
   unfold execOp;rw [hop];have ev0:a.eval (.const (.int .i64 0))= .int .i64 0:=rfl;simp [Instr.sliceAt,Instr.slice,run_underlying ht,hv,Instr.sliceBounds,Instr.sliceBound,vhf hm,ev0,asIntOf]
  obtain ⟨ρ',F',k1,k2⟩:=h.nilSl (hb b (Ae _) zo) (q:=false) hm x0;refine .value _ w hrun ?_;rw [ho];refine (G.rel_put k1 hd (c:= .rf b) ?_ (.inr ⟨Ae _,zo⟩));rw [<-k2];exact .rf b
 ·exact (vac h4).elim
theorem G.fresh {X:vaj} (h:G cx U X ρ F st a w) {w':World} (hk:Kept w w' λ_ _=>False) {g:Nat} (hg:w.heap.size<=g) (hlt:g<w'.heap.size):G cx U (λb o=>X b o\/b=g) ρ F st a w':=by
 have hw:=h.world hk (λ_ _ h=>h.elim) (λ_ _ h=>h.elim) (λ_ _ _ _ _ h=>h);refine ⟨hw.slots,hw.ids,hw.nodes,hw.used,hw.apart,?_,hw.mine,?_,hw.one,hw.kept,hw.zold,hw.size,hw.small,hw.defers⟩
 ·intro i hi b o hf hx;rcases hx with hx|rfl
  ·exact h.apartX i hi b o hf hx
  ·have:=h.inside hi _ o hf;omega
 ·intro b o hx;rcases hx with hx|rfl
  ·exact hw.mineX b o hx
  ·refine ⟨λhz=> ?_,.inr (Nat.le_trans h.kept.size hg),hlt⟩;have:=(h.zold _ _ hz).1;have:=h.kept.size;omega
theorem qfv (w:World) (e:TypeId) (s:ByteArray):Kept w (Lib.bytesWorld w e s) λ_ _=>False:=by
 refine ⟨rfl,rfl,rfl,by rw [Lib.bytesWorld_size];omega,λb cur e' fr hb=> ?_,λb x hb _=> ?_⟩
 ·have hlt:=(Av.1 hb).1;exact ⟨cur,(Lib.bytesWorld_at_old w e s b hlt).trans hb,rfl,λ_ _=>rfl⟩
 ·have hlt:=(Av.1 hb).1;exact (Lib.bytesWorld_at_old w e s b hlt).trans hb
theorem vxg {α:Type} (f:α->Value):∀(l:List α),flat (l.map λx=>PV.a (f x))=l.map λx=>PV.a (f x)
 | []=>rfl
 |x::l=>congrArg (PV.a (f x)::·) (vxg f l)
theorem qg7 (h:G cx U (λ_ _=>False) ρ F st a w) {b:Nat} (hb:∀i,b<=i->i<b+100->¬U i) {o:Oper} {d:Nat} (ho:o.dst=some d) (hd:d<cx.n) {s t e:TypeId} {x:Operand} {x':Opd} (hop:o.op= .convert s t x)
  (hs:cx.P.underlying s=some .string) (ht:cx.P.underlying t=some (.slice e)) (he:cx.P.underlying e=some (.int .u8)) (hm:va8 cx.P e=some 1) (hx:cOpd cx.P s x=some x') {s1:St}
  (hr:((opd x').bind λu=>match u with
   | .a (.string s)=>if s.size<=9223372036854775807 then (setN b (some (.sl false 0 e (bytesPV s)))).bind λ_=>setS d (.rf b) else .fail
   |_=> .fail).run st=some ((),s1)):Now cx U b o s1 a w:=by
 obtain ⟨c,s2,h1,h2⟩:=vaa hr;obtain ⟨rfl,g1,i1⟩:=vbw h hx h1;split at h2
 ·rename_i bs;split at h2
  ·rename_i h63;obtain ⟨_,s3,h3,h4⟩:=vaa h2;cases vby h3;cases vbd h4;have hv:a.eval x= .string bs:=vib g1;have hrun:=Lib.run_convert_string_bytes (P:=cx.P) w s t e bs hs ht he;have hge:=grownCap_ge w bs.size 0 e;have hsz:(Lib.bytesCells w e bs).size=grownCap w bs.size 0 e:=by
    have:bs.data.size=bs.size:=rfl;simp [Lib.bytesCells];omega
   have hl:bs.size=(bytesPV bs).length:=by
    have:bs.data.size=bs.size:=rfl;simp [bytesPV,this]
   have hfl:flat (bytesPV bs)=bytesPV bs:=vxg _ _;have hG:=h.fresh (w':=Lib.bytesWorld w e bs) (qfv w e bs) (g:=w.heap.size) (Ae _) (by rw [Lib.bytesWorld_size];omega);obtain ⟨ρ',F',k1,k2⟩:=hG.oldSl (X':=λ_ _=>False) (g:=w.heap.size) (hb b (Ae _) zo) (q:=false) (len:=bs.size) (cap:=grownCap w bs.size 0 e) (off:=0) (Gk:=λ_ _ _=>False) (us:=bs.data.toList.map λc=>Value.int .u8 c.toNat) hl hm
    (λy hy=>by obtain ⟨c,_,rfl⟩:=Ay.1 hy;rfl) hge (grownCap_le_maxLen w _ _ e (by simpa [maxLen] using h63)) zo (Lib.bytesWorld_at_new w e bs) (λo h1 h2=>by have:=h2.1;simp only at this;omega)
    (vk1 (by rw [hfl];simp [bytesPV]) λk c u hk hu=>by
     rw [hfl,bytesPV,Ab] at hk;rw [Ab] at hu;cases hq:bs.data.toList[k]? with
     |none=>rw [hq] at hk;cases hk
     |some q=>
      rw [hq] at hk hu;cases hk;cases hu
      exact .a _ _ rfl λ_ _ h=>h)
    (λb o hx=>hx.elim (λh=>h) λ⟨_,_,h⟩=>h.elim) (λ_ h=>h)
    (λk u hu=>by
     have hlt:k<bs.data.size:=by have:=(Aa.1 hu).1;simpa using this
     rw [Ax,Lib.bytesCells,Ao (by simpa using hlt)]
     simpa [Ag] using hu)
   refine .value (ρ' b) (Lib.bytesWorld w e bs) ?_ ?_
   ·unfold execOp;rw [hop];simp only [hv,Sem.run_bind,hrun,Result.andThen_ok,Sem.run_pure,k2]
   ·rw [ho];exact k1.rel_put hd (.rf b) (.inr ⟨Ae _,zo⟩)
  ·exact (vac h2).elim
 ·exact (vac h2).elim

/- Canonical forms of graphs. -/
import Derived.Test.YtpgkmggaifgjkaaGreatDoorLawD
open Nat renaming reduceAdd->Aa,reduceBEq->Ab,succ_ne_zero->Am,min_eq_left->A0,sub_self->A3,zero_add->A5
open List renaming getElem?_eq_getElem->Ac,getElem?_eq_some_iff->Ad,length_take->Ae,mem_of_getElem?->Af,take_length->Ag,take_add_one->Ah,getElem?_eq_none->Ai,take_zero->Aj,map_nil->Ak,length_map->An,drop_eq_getElem_cons->Ap,getElem?_cons_succ->Aq,replicate->Ar,singleton_append->At,findIdx?_cons->Au,length_append->Av,append_assoc->Aw,length_cons->Ax,length_drop->Ay,map->Az,mem_map->A2,map_set->A4
open Option renaming toList_some->Al,map_some->A1
open Int renaming toNat_natCast->Ao
set_option linter.all false
namespace Go.Proofs.YtpgkmggaifgjkaaGreatDoor.VM
open Go Sy
variable {Φ:Nat->Option Callee} {N:Nat}
def nm (F:List Nat) (v:Int):Int:=idxOf (λx:Nat=>decide ((x:Int)=v-1)) F+1
def nmK (F:List Nat) (s:ByteArray):Nat->List Int->List Int
 |_,[]=> []
 |k,v::l=>(if refAt s k then nm F v else v)::nmK F s (k+1) l
def plainO (ts:List ByteArray) (F:List Nat) (o:Obj'):Obj':=match ts[o.ty.toNat]? with
 |some s=>⟨o.ty,nmK F s 0 o.vals⟩
 |none=>o
def plainN (ts:List ByteArray) (F:List Nat) (g:Gr) (k:Nat):Obj':=match g.nodes[k]? with
 |some o=>plainO ts F o
 |none=>⟨0,[]⟩
def plainG (ts:List ByteArray) (g:Gr):Gr:=⟨g.roots.map (nm (found ts g)),(found ts g).map (plainN ts (found ts g) g)⟩
theorem vmd {F:List Nat} {s:ByteArray}:∀{l:List Int} {k:Nat},(nmK F s k l).length=l.length
 | [],_=>rfl
 |v::l,k=>by rw [nmK,Ax,Ax,vmd]
theorem vuw {F:List Nat} {s:ByteArray}:∀{l:List Int} {k i:Nat},(nmK F s k l)[i]? =(l[i]?).map λv=>if refAt s (k+i) then nm F v else v
 | [],_,_=>by simp [nmK]
 |v::l,k,0=>by simp [nmK]
 |v::l,k,i+1=>by
  rw [nmK,Aq,Aq,vuw,show k+1+i=k+(i+1) by omega]
theorem qcj {α:Type} (q:α->Bool) (l:List α): -1<=idxOf q l/\idxOf q l<l.length:=by
 unfold idxOf;cases h:l.findIdx? q with
 |some i=>obtain ⟨hi,_⟩:=List.findIdx?_eq_some_iff_getElem.1 h;dsimp only;omega
 |none=>dsimp only;omega
theorem qb2 (F:List Nat) (v:Int):0<=nm F v/\nm F v<=F.length:=by
 have:=qcj (λx:Nat=>decide ((x:Int)=v-1)) F;unfold nm;omega
def Rn (F:List Nat) (n:Nat):List Int:=(List.range (n+1)).map λv:Nat=>nm F v
theorem vwl {F:List Nat} {n v:Nat} (h:v<=n):(Rn F n)[v]? =some (nm F v):=by
 unfold Rn;rw [List.getElem?_map,List.getElem?_range zo];rfl
theorem qu9 (n:Nat):Rn [] n=Ar (n+1) 0:=by
 unfold Rn;rw [List.eq_replicate_iff];refine ⟨by simp,λb hb=> ?_⟩;obtain ⟨v,_,rfl⟩:=A2.1 hb;rfl
theorem qrw {F:List Nat} {k:Nat} (hk:k∉F) (v:Nat):nm (F++ [k]) v=if k+1=v then ((F.length+1:Nat):Int) else nm F v:=by
 unfold nm idxOf;rw [List.findIdx?_append];by_cases c:k+1=v
 ·subst c;rw [if_pos rfl]
  rw [show F.findIdx? (λx:Nat=>decide ((x:Int)=((k+1:Nat):Int)-1))=none from List.findIdx?_eq_none_iff.2 λx hx=>by
   rw [decide_eq_false];intro he;have:x=k:=zo
   subst this
   exact hk hx]
  rw [show [k].findIdx? (λx:Nat=>decide ((x:Int)=((k+1:Nat):Int)-1))=some 0 from by
   rw [Au,show decide ((k:Int)=((k+1:Nat):Int)-1)=true from decide_eq_true zo];rfl]
  simp
 ·rw [if_neg c]
  rw [show [k].findIdx? (λx:Nat=>decide ((x:Int)=(v:Int)-1))=none from by
   rw [Au,show decide ((k:Int)=(v:Int)-1)=false from decide_eq_false zo];rfl]
  cases F.findIdx? (λx:Nat=>decide ((x:Int)=(v:Int)-1))<;>rfl
theorem qpy {F:List Nat} {n i k:Nat} (hd:F.Nodup) (hk:F[i]? =some k):(Rn (F.take i) n).set (k+1) ((i+1:Nat):Int)=Rn (F.take (i+1)) n:=by
 have hi:i<F.length:=(Ad.1 hk).1;have hnk:k∉F.take i:=by
  intro hm;obtain ⟨j,hj,hjk⟩:=List.mem_iff_getElem.1 hm;rw [Ae] at hj;rw [List.getElem_take] at hjk;have hk':=(Ad.1 hk).2;have:=(List.getElem_inj (h₀:=zo) (h₁:=hi) hd).1 (hjk.trans hk'.symm);omega
 apply List.ext_getElem?;intro v;rw [List.getElem?_set];rw [Ah,hk,Al];by_cases hv:v<=n
 ·rw [vwl hv,vwl hv,qrw hnk,Ae,A0 zo];have hlen:(Rn (F.take i) n).length=n+1:=by simp [Rn]
  by_cases c:k+1=v
  ·rw [if_pos c,if_pos c,if_pos zo]
  ·rw [if_neg c,if_neg c]
 ·have e1:(Rn (F.take i) n)[v]? =none:=Ai (by simp [Rn];omega);have e2:(Rn (F.take i++ [k]) n)[v]? =none:=Ai (by simp [Rn];omega);have hlen:(Rn (F.take i) n).length=n+1:=by simp [Rn]
  rw [e1,e2];split
  ·rw [if_neg zo]
  ·rfl
def S95 (l:List Nat) (n:Int) (i:Nat):St:=⟨[(0,.sz vae (l.map eNat)),(1,.a (.int .i64 n)),(5,.a (.int .i64 i))],[],0⟩
theorem qnb (l:List Nat) (n:Int) (hl:l.length<=1048576):
  vbt Φ vad [0,1,5] veu (S95 l n 0)=
  some (match l.findIdx? (λx:Nat=>decide ((x:Int)=n)) with|some i=>(.ret,⟨[(4,.a (.int .i64 (i:Nat)))],[],1200⟩)|none=>(.ext 0,⟨[(0,.sz vae (l.map eNat)),(1,.a (.int .i64 n)),(5,.a (.int .i64 l.length)),(9,.a (.bool false))],[],400⟩)):=by
 refine vd2 (S95 l n) _ (λi=>∀(j:Nat) b,j<i->l[j]? =some b->decide ((b:Int)=n)=false) (m:=l.length) (vbc zo) (λj b h=>zo) (by split<;>simp) (λi hi hp=> ?_);by_cases hi':i<l.length
 ·obtain ⟨b,hb⟩:∃b,l[i]? =some b:=⟨_,Ac hi'⟩
  have hw:=va0 i zo;unfold round S95 veu;by_cases c:(b:Int)=n
  ·right;rw [vjn (q:=λx:Nat=>decide ((x:Int)=n)) hb (decide_eq_true c) hp];simp -implicitDefEqProofs (disch:=try exact zd) only [go_sem,Aa,Ab,hb,hw]
  ·refine .inl ⟨hi',?_,λj y hj hy=> ?_⟩
   ·simp -implicitDefEqProofs (disch:=try exact zd) only [go_sem,Aa,Ab,hb,hw];kernel_rfl
   ·by_cases hji:j=i
    ·subst hji;rw [hb] at hy;cases hy;exact decide_eq_false c
    ·exact hp j y zo hy
 ·obtain rfl:i=l.length:=zo
  right;rw [vjh λj y hy=>hp j y (by have:=(Ad.1 hy).1;omega) hy];unfold round S95 veu;simp -implicitDefEqProofs (disch:=try exact zd) only [go_sem,Aa,Ab]
theorem vyg (l:List Nat) (n:Int) (hl:l.length<=1048576):vag Φ vad vek [.sl true vae (l.map eNat),.a (.int .i64 n)]=some ([.a (.int .i64 (idxOf (λx:Nat=>decide ((x:Int)=n)) l))],[]):=by
 have key:=qnb (Φ:=Φ) l n hl;unfold S95 at key;rw [vab rfl];unfold idxOf;cases h:l.findIdx? (λx:Nat=>decide ((x:Int)=n)) with
 |some i=>
  rw [h] at key;dsimp only at key;simp -implicitDefEqProofs (disch:=try exact zd) only [go_sem,Aa,Ab,vek,vjl,vih key]
 |none=>
  rw [h] at key;dsimp only at key;simp -implicitDefEqProofs (disch:=try exact zd) only [go_sem,Aa,Ab,vek,vjl,vaw key]
def mixL {α:Type} (A B:List α) (j:Nat):List α:=A.take j++B.drop j
theorem qt7 {α:Type} (A B:List α):mixL A B 0=B:=by simp [mixL]
theorem qm8 {α:Type} {A B:List α} (h:A.length=B.length):mixL A B B.length=A:=by
 unfold mixL;rw [<-h,Ag,h,List.drop_length,List.append_nil]
theorem qda {α:Type} {A B:List α} (h:A.length=B.length) {j:Nat}:(mixL A B j).length=B.length:=by
 unfold mixL;rw [Av,Ae,Ay];omega
theorem ql0 {α:Type} {A B:List α} (h:A.length=B.length) {j:Nat}:(mixL A B j)[j]? =B[j]? :=by
 unfold mixL;by_cases c:j<=A.length
 ·rw [List.getElem?_append_right (by rw [Ae];omega),Ae,A0 c,A3,List.getElem?_drop,Nat.add_zero]
 ·rw [Ai (by rw [Av,Ae,Ay];omega),Ai zo]
theorem qlr {α:Type} {A B:List α} (h:A.length=B.length) {j:Nat} {a:α} (ha:A[j]? =some a):(mixL A B j).set j a=mixL A B (j+1):=by
 have hj:j<A.length:=(Ad.1 ha).1;have hlt:(A.take j).length=j:=by rw [Ae];omega
 unfold mixL;rw [Ah,ha,Al,Aw,List.set_append_right _ _ zo,hlt,A3];congr 1;rw [Ap zo,List.set_cons_zero,At]
theorem qij {α:Type} {A B:List α} (h:A.length=B.length) {j:Nat} {a:α} (ha:A[j]? =some a) (hb:B[j]? =some a):mixL A B (j+1)=mixL A B j:=by
 have hj:j<A.length:=(Ad.1 ha).1;unfold mixL;rw [Ah,ha,Al,Aw];congr 1;rw [Ap (by omega:j<B.length),(Ad.1 hb).2,At]
abbrev nP0 (g:Gr) (O:List Nat) (R:List Int) (i:Nat):List (Nat×Option Node):=if i=0 then [(0,some (.bx false (uGr g))),(1,some (.bx false [.rf 4,.rf 5])),(2,some (.sl false 0 vae (O.map eNat))),(3,some (.sl false 0 vae (R.map vak))),(4,some (.sl false 0 vae [])),(5,some (.sl false 0 vai []))]
 else [(0,some (.bx false (uGr g))),(1,some (.bx false [.rf 4,.rf 5])),(2,some (.sl false 0 vae (O.map eNat))),(3,some (.sl false 0 vae (R.map vak))),(4,some (.sl false 0 vae [])),(5,some (.sl false 0 vai []))]
def SP0 (ts:List ByteArray) (g:Gr) (F:List Nat) (i:Nat):St:=⟨[(0,.sz vam (ts.map eStr)),(3,.rf 0),(4,.rf 1),(5,.rf 2),(6,.rf 3),(25,.rf 2),(26,.a (.int .i64 F.length)),(27,.a (.int .i64 i))],nP0 g F (Rn (F.take i) g.nodes.length) i,6⟩
theorem qm9 {ts:List ByteArray} {g:Gr} {F:List Nat} (hn:g.nodes.length<=400) (hd:F.Nodup) (hF:∀k∈F,k<g.nodes.length) (hl:F.length<=g.nodes.length):
  vbt Φ vad [0,3,4,5,6,25,26,27] vkj (SP0 ts g F 0)=some (.ext 0,⟨[(0,.sz vam (ts.map eStr)),(3,.rf 0),(4,.rf 1),(5,.rf 2),(6,.rf 3),(25,.rf 2),(26,.a (.int .i64 F.length)),(27,.a (.int .i64 F.length)),(28,.a (.bool false))],nP0 g F (Rn F g.nodes.length) F.length,106⟩):=by
 refine vcj (SP0 ts g F) _ (m:=F.length) (vbc zo) (λi hi=> ?_) ?_
 ·obtain ⟨k,hk⟩:∃v,F[i]? =some v:=⟨_,Ac hi⟩
  have hkn:=hF k (Af hk);have hst:=qpy (n:=g.nodes.length) hd hk;have hw:=va0 i zo;have hwk:=va0 k zo;have hlen:(Rn (F.take i) g.nodes.length).length=g.nodes.length+1:=by simp [Rn]
  have hset:((Rn (F.take i) g.nodes.length).map vak).set (k+1) (.a (.int .i64 ((i+1:Nat):Int)))=(Rn (F.take (i+1)) g.nodes.length).map vak:=by rw [<-hst,A4];rfl
  unfold round SP0 vkj nP0;rw [if_neg (Am i)];obtain ⟨old,ho⟩:∃v,(Rn (F.take i) g.nodes.length)[k+1]? =some v:=⟨_,Ac zo⟩
  generalize Rn (F.take (i+1)) g.nodes.length=R' at *;generalize Rn (F.take i) g.nodes.length=R at *;by_cases c:i=0
  ·rw [if_pos c];simp -implicitDefEqProofs (disch:=try exact zd) only [go_sem,Aa,Ab,hk,hw,hwk,ho,hset]
   (show some _=some _;kernel_rfl)
  ·rw [if_neg c];simp -implicitDefEqProofs (disch:=try exact zd) only [go_sem,Aa,Ab,hk,hw,hwk,ho,hset]
   (show some _=some _;kernel_rfl)
 ·unfold round SP0 vkj nP0;rw [Ag];by_cases c:F.length=0
  ·rw [if_pos c];simp -implicitDefEqProofs (disch:=try exact zd) only [go_sem,Aa,Ab]
  ·rw [if_neg c];simp -implicitDefEqProofs (disch:=try exact zd) only [go_sem,Aa,Ab]
abbrev nP1 (g:Gr) (O:List Nat) (R X:List Int) (i:Nat):List (Nat×Option Node):=if i=0 then [(0,some (.bx false (uGr g))),(1,some (.bx false [.rf 5,.rf 6])),(2,some (.sl false 0 vae (O.map eNat))),(3,some (.sl false 0 vae (R.map vak))),(4,some (.bx false [.rf 7,.rf 8])),(5,some (.sl false 0 vae [])),(6,some (.sl false 0 vai [])),(7,some (.sl false 0 vae (X.map vak))),(8,some (.sl false 0 vai []))]
 else [(0,some (.bx false (uGr g))),(1,some (.bx false [.rf 5,.rf 6])),(2,some (.sl false 0 vae (O.map eNat))),(3,some (.sl false 0 vae (R.map vak))),(4,some (.bx false [.rf 7,.rf 8])),(5,some (.sl false 0 vae [])),(6,some (.sl false 0 vai [])),(7,some (.sl false 0 vae (X.map vak))),(8,some (.sl false 0 vai []))]
def SP1 (ts:List ByteArray) (g:Gr) (F:List Nat) (i:Nat):St:=⟨[(0,.sz vam (ts.map eStr)),(3,.rf 0),(4,.rf 1),(5,.rf 2),(6,.rf 3),(9,.rf 4),(41,.sz vae (g.roots.map vak)),(42,.a (.int .i64 g.roots.length)),(43,.a (.int .i64 i))],nP1 g F (Rn F g.nodes.length) ((g.roots.take i).map (nm F)) i,9⟩
theorem vsb {α β:Type} (f:α->β) {l:List α} {i:Nat} {x:α} (h:l[i]? =some x):(l.take (i+1)).map f=(l.take i).map f++ [f x]:=by
 rw [Ah,h];simp
theorem ql7 {ts:List ByteArray} {g:Gr} {F:List Nat} (hr:g.roots.length<=1000) (hv:∀v∈g.roots,0<=v/\v<=(g.nodes.length:Int)):
  vbt Φ vad [0,3,4,5,6,9,41,42,43] vkh (SP1 ts g F 0)=some (.ext 2,⟨[(0,.sz vam (ts.map eStr)),(3,.rf 0),(4,.rf 1),(5,.rf 2),(6,.rf 3),(9,.rf 4),(41,.sz vae (g.roots.map vak)),(42,.a (.int .i64 g.roots.length)),(43,.a (.int .i64 g.roots.length)),(44,.a (.bool false))],nP1 g F (Rn F g.nodes.length) (g.roots.map (nm F)) g.roots.length,109⟩):=by
 refine vcj (SP1 ts g F) _ (m:=g.roots.length) (vbc zo) (λi hi=> ?_) ?_
 ·obtain ⟨v,hk⟩:∃v,g.roots[i]? =some v:=⟨_,Ac hi⟩
  obtain ⟨v0,v1⟩:=hv v (Af hk);obtain ⟨w,rfl⟩:∃w:Nat,v=(w:Int):=⟨v.toNat,zo⟩
  have hg:=vwl (F:=F) (n:=g.nodes.length) (v:=w) zo;have hw:=va0 i zo;have hlen:(Rn F g.nodes.length).length=g.nodes.length+1:=by simp [Rn]
  have hX:((g.roots.take i).map (nm F)).length<=1000:=by rw [An,Ae];omega
  unfold round SP1 vkh nP1;rw [if_neg (Am i),vsb _ hk];generalize (g.roots.take i).map (nm F)=X at *;generalize Rn F g.nodes.length=R at *;generalize nm F w=y at *;by_cases c:i=0
  ·rw [if_pos c];simp -implicitDefEqProofs (disch:=try exact zd) only [go_sem,Aa,Ab,hk,hw,hg]
   (show some _=some _;kernel_rfl)
  ·rw [if_neg c];simp -implicitDefEqProofs (disch:=try exact zd) only [go_sem,Aa,Ab,hk,hw,hg]
   (show some _=some _;kernel_rfl)
 ·unfold round SP1 vkh nP1;rw [Ag];by_cases c:g.roots.length=0
  ·rw [if_pos c];simp -implicitDefEqProofs (disch:=try exact zd) only [go_sem,Aa,Ab]
  ·rw [if_neg c];simp -implicitDefEqProofs (disch:=try exact zd) only [go_sem,Aa,Ab]
abbrev nP3 (g:Gr) (O:List Nat) (R X:List Int) (P:List Obj') (t:Nat) (V:List Int):List (Nat×Option Node):= [(0,some (.bx false (uGr g))),(1,some (.bx false [.rf 7,.rf 8])),(2,some (.sl false 0 vae (R.map vak))),(3,some (.bx false [.rf 9,.rf 10])),(4,some (.bx false [.a (.int .i64 t),.rf 6])),(5,some (.sl false 0 vae (O.map eNat))),(6,some (.sl false 0 vae (V.map vak))),(7,some (.sl false 0 vae [])),(8,some (.sl false 0 vai [])),(9,some (.sl false 0 vae (X.map vak))),(10,some (.sl false 0 vai (P.map eObj)))]
def SP3 (ts:List ByteArray) (g:Gr) (F:List Nat) (X:List Int) (P:List Obj') (t:Nat) (A V:List Int) (q i:Nat):St:=⟨[(0,.sz vam (ts.map eStr)),(3,.rf 0),(4,.rf 1),(6,.rf 2),(9,.rf 3),(14,.rf 4),(57,.rf 5),(58,.a (.int .i64 F.length)),(59,.a (.int .i64 q)),(78,.rf 6),(79,.a (.int .i64 V.length)),(80,.a (.int .i64 i))],nP3 g F (Rn F g.nodes.length) X P t (mixL A V i),11⟩
theorem qmv {ts:List ByteArray} {g:Gr} {F:List Nat} {X:List Int} {P:List Obj'} {q:Nat} (hn:g.nodes.length<=400) {t:Nat} {s:ByteArray} {V:List Int} (hs:ts[t]? =some s) (hz:V.length=s.size) (hss:s.size<=23) (hv:∀(j:Nat) v,V[j]? =some v->refAt s j=true->0<=v/\v<=(g.nodes.length:Int)):
  vbt Φ vad [0,3,4,6,9,14,57,58,59,78,79,80] vkg (SP3 ts g F X P t (nmK F s 0 V) V q 0)=some (.ext 6,⟨[(0,.sz vam (ts.map eStr)),(3,.rf 0),(4,.rf 1),(6,.rf 2),(9,.rf 3),(14,.rf 4),(57,.rf 5),(58,.a (.int .i64 F.length)),(59,.a (.int .i64 q)),(78,.rf 6),(79,.a (.int .i64 V.length)),(80,.a (.int .i64 V.length)),(81,.a (.bool false))],nP3 g F (Rn F g.nodes.length) X P t (nmK F s 0 V),111⟩):=by
 have htl:t<ts.length:=(Ad.1 hs).1;have hAB:(nmK F s 0 V).length=V.length:=vmd;refine vcj (SP3 ts g F X P t (nmK F s 0 V) V q) _ (m:=V.length) (vbc zo) (λi hi=> ?_) ?_
 ·obtain ⟨v,hk⟩:∃v,V[i]? =some v:=⟨_,Ac hi⟩
  obtain ⟨b,hb⟩:∃b,(ch s)[i]? =some b:=⟨_,Ac (by rw [<-vho];omega)⟩
  have hx:=vmc hb;have hw:=va0 i zo;have hr:refAt s i=decide ((b.toNat:Int)=114):=by simp only [refAt,hb]
  have hm:(mixL (nmK F s 0 V) V i)[i]? =some v:=by rw [ql0 hAB,hk]
  have hml:(mixL (nmK F s 0 V) V i).length=V.length:=qda hAB;have hlen:(Rn F g.nodes.length).length=g.nodes.length+1:=by simp [Rn]
  have hA:(nmK F s 0 V)[i]? =some (if refAt s i then nm F v else v):=by rw [vuw,hk,A1,A5]
  unfold round SP3 vkg nP3;by_cases c1:(b.toNat:Int)=114
  ·obtain ⟨v0,v1⟩:=hv i v hk (by rw [hr];exact decide_eq_true c1);obtain ⟨w,rfl⟩:∃w:Nat,v=(w:Int):=⟨v.toNat,zo⟩
   have hg:=vwl (F:=F) (n:=g.nodes.length) (v:=w) zo;rw [hr,decide_eq_true c1,if_pos rfl] at hA;have hset:((mixL (nmK F s 0 V) V i).map vak).set i (.a (.int .i64 (nm F w)))=(mixL (nmK F s 0 V) V (i+1)).map vak:=by rw [<-qlr hAB hA,A4];rfl
   generalize mixL (nmK F s 0 V) V i=M at *;generalize mixL (nmK F s 0 V) V (i+1)=M' at *;generalize Rn F g.nodes.length=R at *;generalize nm F w=y at *;simp -implicitDefEqProofs (disch:=try exact zd) only [go_sem,Aa,Ab,hm,hx,hs,hw,c1,hg,hset]
   (show some _=some _;kernel_rfl)
  ·rw [hr,decide_eq_false c1,if_neg (by simp)] at hA;rw [qij hAB hA hk];generalize mixL (nmK F s 0 V) V i=M at *;simp -implicitDefEqProofs (disch:=try exact zd) only [go_sem,Aa,Ab,hm,hx,hs,hw]
   (show some _=some _;kernel_rfl)
 ·unfold round SP3 vkg nP3;rw [qm8 hAB];simp -implicitDefEqProofs (disch:=try exact zd) only [go_sem,Aa,Ab]
abbrev nP2 (g:Gr) (O:List Nat) (R X:List Int) (P:List Obj'):List (Nat×Option Node):= [(0,some (.bx false (uGr g))),(1,some (.bx false [.rf 5,.rf 6])),(2,some (.sl false 0 vae (R.map vak))),(3,some (.bx false [.rf 7,.rf 8])),(4,some (.sl false 0 vae (O.map eNat))),(5,some (.sl false 0 vae [])),(6,some (.sl false 0 vai [])),(7,some (.sl false 0 vae (X.map vak))),(8,some (.sl false 0 vai (P.map eObj)))]
def SP2 (ts:List ByteArray) (g:Gr) (F:List Nat) (X:List Int) (i:Nat):St:=⟨[(0,.sz vam (ts.map eStr)),(3,.rf 0),(4,.rf 1),(6,.rf 2),(9,.rf 3),(57,.rf 4),(58,.a (.int .i64 F.length)),(59,.a (.int .i64 i))],nP2 g F (Rn F g.nodes.length) X ((F.take i).map (plainN ts F g)),9⟩
theorem qli {d:Nat} {ts:List ByteArray} {g:Gr} (h:Right ts g) {F:List Nat} {X:List Int} (hF:∀k∈F,k<g.nodes.length) (hl:F.length<=g.nodes.length):
  vbt (T (d+1)) vad [0,3,4,6,9,57,58,59] vki (SP2 ts g F X 0)=some (.ext 4,⟨[(0,.sz vam (ts.map eStr)),(3,.rf 0),(4,.rf 1),(6,.rf 2),(9,.rf 3),(57,.rf 4),(58,.a (.int .i64 F.length)),(59,.a (.int .i64 F.length)),(60,.a (.bool false))],nP2 g F (Rn F g.nodes.length) X (F.map (plainN ts F g)),109⟩):=by
 have hn:=h.n;refine vcj (SP2 ts g F X) _ (m:=F.length) (vbc zo) (λi hi=> ?_) ?_
 ·obtain ⟨k,hk⟩:∃v,F[i]? =some v:=⟨_,Ac hi⟩
  have hkn:=hF k (Af hk);obtain ⟨o,ho⟩:∃v,g.nodes[k]? =some v:=⟨_,Ac hkn⟩
  obtain ⟨t,s,o1,o2,o3,o4,o5,o6⟩:=h.obj o (Af ho);have hpn:plainN ts F g k=⟨o.ty,nmK F s 0 o.vals⟩:=by unfold plainN;rw [ho];simp only;unfold plainO;rw [o1,Ao,o2]
  obtain ⟨ty,V⟩:=o;dsimp only at *;subst o1;have hw:=va0 i zo;have key:=qmv (Φ:=T (d+1)) (F:=F) (X:=X) (P:=(F.take i).map (plainN ts F g)) (q:=i) h.n o2 o3 o5 o6;have hPl:((F.take i).map (plainN ts F g)).length<=400:=by rw [An,Ae];omega
  have hcp:Az PV.cpy (Az vak V)=Az vak V:=by rw [List.map_map];rfl
  unfold SP3 nP3 at key;rw [qt7] at key;unfold round SP2 vki nP2;rw [vsb _ hk,hpn];generalize (F.take i).map (plainN ts F g)=P at *;generalize Rn F g.nodes.length=R at *;generalize nmK F s 0 V=W at *;simp -implicitDefEqProofs (disch:=try exact zd) only [go_sem,Aa,Ab,hk,ho,hw,hcp];rw [vaw key (by kernel_rfl)];simp -implicitDefEqProofs (disch:=try exact zd) only [go_sem,Aa,Ab,hw]
  (show some _=some _;kernel_rfl)
 ·unfold round SP2 vki nP2;rw [Ag];simp -implicitDefEqProofs (disch:=try exact zd) only [go_sem,Aa,Ab]
theorem vqo {d:Nat} {ts:List ByteArray} {g:Gr} (h:Right ts g):vag (T (d+2)) vad vkp [.sl true vam (ts.map eStr),cGr true g]=some ([cGr false (plainG ts g)],[]):=by
 have hn:=h.n;have hr:=h.r;have hI:=vcw ts g g.nodes.length;have hd:=vr0 (d:=d) h;have k0:=qm9 (Φ:=T (d+2)) (ts:=ts) (g:=g) (F:=found ts g) hn hI.nod hI.low hI.le;have k1:=ql7 (Φ:=T (d+2)) (ts:=ts) (g:=g) (F:=found ts g) hr h.roots;have k2:=qli (d:=d+1) h (F:=found ts g) (X:=g.roots.map (nm (found ts g))) hI.low hI.le;have hle:(found ts g).length<=g.nodes.length:=hI.le;have hw:=va0 g.nodes.length zo;unfold SP0 nP0 at k0;unfold SP1 nP1 at k1;unfold SP2 nP2 at k2;rw [if_pos rfl,Aj,qu9] at k0;rw [if_pos rfl,Aj,Ak] at k1;rw [Aj,Ak] at k2;have e:Az vak (Ar (g.nodes.length+1) 0)=Ar (g.nodes.length+1) (.a (.int .i64 0)):=by rw [List.map_replicate];rfl
 simp only [e,Ak] at k0 k1 k2;rw [vab rfl];unfold plainG;generalize found ts g=F at *;generalize Rn F g.nodes.length=R at *;generalize g.roots.map (nm F)=X at *;generalize F.map (plainN ts F g)=P at *;simp -implicitDefEqProofs (disch:=try exact zd) only [go_sem,Aa,Ab,vkp,vtx,hd,hw];rw [vaw k0 (by kernel_rfl)];by_cases c0:F.length=0
 ·rw [if_pos c0];simp -implicitDefEqProofs (disch:=try exact zd) only [go_sem,Aa,Ab];rw [vaw k1 (by kernel_rfl)];by_cases c1:g.roots.length=0
  ·rw [if_pos c1];simp -implicitDefEqProofs (disch:=try exact zd) only [go_sem,Aa,Ab];rw [vaw k2 (by kernel_rfl)];simp -implicitDefEqProofs (disch:=try exact zd) only [go_sem,Aa,Ab]
  ·rw [if_neg c1];simp -implicitDefEqProofs (disch:=try exact zd) only [go_sem,Aa,Ab];rw [vaw k2 (by kernel_rfl)];simp -implicitDefEqProofs (disch:=try exact zd) only [go_sem,Aa,Ab]
 ·rw [if_neg c0];simp -implicitDefEqProofs (disch:=try exact zd) only [go_sem,Aa,Ab];rw [vaw k1 (by kernel_rfl)];by_cases c1:g.roots.length=0
  ·rw [if_pos c1];simp -implicitDefEqProofs (disch:=try exact zd) only [go_sem,Aa,Ab];rw [vaw k2 (by kernel_rfl)];simp -implicitDefEqProofs (disch:=try exact zd) only [go_sem,Aa,Ab]
  ·rw [if_neg c1];simp -implicitDefEqProofs (disch:=try exact zd) only [go_sem,Aa,Ab];rw [vaw k2 (by kernel_rfl)];simp -implicitDefEqProofs (disch:=try exact zd) only [go_sem,Aa,Ab]
theorem vyq {v:Int} (h0:0<=v) (h1:v<=1048576):IntKind.i64.wrap (v-1)=v-1:=by rw [vau]<;>omega
theorem vyx (F:List Nat) (v:Int) (h:F.length<=1048576):IntKind.i64.wrap (idxOf (λx:Nat=>decide ((x:Int)=v-1)) F+1)=nm F v:=by
 have:=qcj (λx:Nat=>decide ((x:Int)=v-1)) F;rw [vau _ zo zo];rfl
abbrev nQ0 (g:Gr) (O:List Nat) (X:List Int) (i:Nat):List (Nat×Option Node):=if i=0 then [(0,some (.bx false (uGr g))),(1,some (.bx false [.rf 4,.rf 5])),(2,some (.sl false 0 vae (O.map eNat))),(3,some (.bx false [.rf 6,.rf 7])),(4,some (.sl false 0 vae [])),(5,some (.sl false 0 vai [])),(6,some (.sl false 0 vae (X.map vak))),(7,some (.sl false 0 vai []))]
 else [(0,some (.bx false (uGr g))),(1,some (.bx false [.rf 4,.rf 5])),(2,some (.sl false 0 vae (O.map eNat))),(3,some (.bx false [.rf 6,.rf 7])),(4,some (.sl false 0 vae [])),(5,some (.sl false 0 vai [])),(6,some (.sl false 0 vae (X.map vak))),(7,some (.sl false 0 vai []))]
def SQ0 (ts:List ByteArray) (g:Gr) (F:List Nat) (i:Nat):St:=⟨[(0,.sz vam (ts.map eStr)),(3,.rf 0),(4,.rf 1),(5,.rf 2),(6,.rf 3),(7,.a (.int .i64 i))],nQ0 g F ((g.roots.take i).map (nm F)) i,8⟩
theorem qju {d:Nat} {ts:List ByteArray} {g:Gr} {F:List Nat} (hn:g.nodes.length<=400) (hl:F.length<=g.nodes.length) (hr:g.roots.length<=1000) (hv:∀v∈g.roots,0<=v/\v<=(g.nodes.length:Int)):
  vbt (T (d+1)) vad [0,3,4,5,6,7] vi8 (SQ0 ts g F 0)=some (.ext 0,⟨[(0,.sz vam (ts.map eStr)),(3,.rf 0),(4,.rf 1),(5,.rf 2),(6,.rf 3),(7,.a (.int .i64 g.roots.length)),(21,.a (.bool false))],nQ0 g F (g.roots.map (nm F)) g.roots.length,508⟩):=by
 refine vcj (SQ0 ts g F) _ (m:=g.roots.length) (vbc zo) (λi hi=> ?_) ?_
 ·obtain ⟨v,hk⟩:∃v,g.roots[i]? =some v:=⟨_,Ac hi⟩
  obtain ⟨v0,v1⟩:=hv v (Af hk);have hw:=va0 i zo;have hc:=vyg (Φ:=T d) F (v-1) zo;have hs:=vyq v0 zo;have ha:=vyx F v zo;have hX:((g.roots.take i).map (nm F)).length<=1000:=by rw [An,Ae];omega
  unfold round SQ0 vi8 nQ0;rw [if_neg (Am i),vsb _ hk];generalize (g.roots.take i).map (nm F)=X at *;generalize nm F v=y at *;generalize idxOf (λx:Nat=>decide ((x:Int)=v-1)) F=z at *;by_cases c:i=0
  ·rw [if_pos c];simp -implicitDefEqProofs (disch:=try exact zd) only [go_sem,Aa,Ab,hk,hw,hc,hs,ha]
   (show some _=some _;kernel_rfl)
  ·rw [if_neg c];simp -implicitDefEqProofs (disch:=try exact zd) only [go_sem,Aa,Ab,hk,hw,hc,hs,ha]
   (show some _=some _;kernel_rfl)
 ·unfold round SQ0 vi8 nQ0;rw [Ag];by_cases c:g.roots.length=0
  ·rw [if_pos c];simp -implicitDefEqProofs (disch:=try exact zd) only [go_sem,Aa,Ab]
  ·rw [if_neg c];simp -implicitDefEqProofs (disch:=try exact zd) only [go_sem,Aa,Ab]
abbrev nQ2 (g:Gr) (O:List Nat) (X:List Int) (P:List Obj') (t:Nat) (V W:List Int) (i:Nat):List (Nat×Option Node):=if i=0 then [(0,some (.bx false (uGr g))),(1,some (.bx false [.rf 6,.rf 7])),(2,some (.sl false 0 vae (O.map eNat))),(3,some (.bx false [.rf 8,.rf 9])),(4,some (.bx false [.a (.int .i64 t),.sz vae (V.map vak)])),(5,some (.bx false [.a (.int .i64 t),.rf 10])),(6,some (.sl false 0 vae [])),(7,some (.sl false 0 vai [])),(8,some (.sl false 0 vae (X.map vak))),(9,some (.sl false 0 vai (P.map eObj))),(10,some (.sl false 0 vae (W.map vak)))]
 else [(0,some (.bx false (uGr g))),(1,some (.bx false [.rf 6,.rf 7])),(2,some (.sl false 0 vae (O.map eNat))),(3,some (.bx false [.rf 8,.rf 9])),(4,some (.bx false [.a (.int .i64 t),.sz vae (V.map vak)])),(5,some (.bx false [.a (.int .i64 t),.rf 10])),(6,some (.sl false 0 vae [])),(7,some (.sl false 0 vai [])),(8,some (.sl false 0 vae (X.map vak))),(9,some (.sl false 0 vai (P.map eObj))),(10,some (.sl false 0 vae (W.map vak)))]
def SQ2 (ts:List ByteArray) (g:Gr) (F:List Nat) (X:List Int) (P:List Obj') (t:Nat) (A V:List Int) (q i:Nat):St:=⟨[(0,.sz vam (ts.map eStr)),(3,.rf 0),(4,.rf 1),(5,.rf 2),(6,.rf 3),(8,.a (.int .i64 q)),(9,.rf 4),(10,.rf 5),(11,.a (.int .i64 i))],nQ2 g F X P t V (A.take i) i,11⟩
theorem qje {d:Nat} {ts:List ByteArray} {g:Gr} {F:List Nat} {X:List Int} {P:List Obj'} {q:Nat} (hn:g.nodes.length<=400) (hl:F.length<=g.nodes.length) {t:Nat} {s:ByteArray} {V:List Int} (hs:ts[t]? =some s) (hz:V.length=s.size) (hss:s.size<=23) (hs1:1<=s.size) (hv:∀(j:Nat) v,V[j]? =some v->refAt s j=true->0<=v/\v<=(g.nodes.length:Int)):
  vbt (T (d+1)) vad [0,3,4,5,6,8,9,10,11] vi3 (SQ2 ts g F X P t (nmK F s 0 V) V q 0)=some (.ext 4,⟨[(0,.sz vam (ts.map eStr)),(3,.rf 0),(4,.rf 1),(5,.rf 2),(6,.rf 3),(8,.a (.int .i64 q)),(9,.rf 4),(10,.rf 5),(11,.a (.int .i64 V.length)),(59,.a (.bool false))],nQ2 g F X P t V (nmK F s 0 V) 1,511⟩):=by
 have htl:t<ts.length:=(Ad.1 hs).1;have hAB:(nmK F s 0 V).length=V.length:=vmd;refine vcj (SQ2 ts g F X P t (nmK F s 0 V) V q) _ (m:=V.length) (vbc zo) (λi hi=> ?_) ?_
 ·obtain ⟨v,hk⟩:∃v,V[i]? =some v:=⟨_,Ac hi⟩
  obtain ⟨b,hb⟩:∃b,(ch s)[i]? =some b:=⟨_,Ac (by rw [<-vho];omega)⟩
  have hx:=vmc hb;have hw:=va0 i zo;have hr:refAt s i=decide ((b.toNat:Int)=114):=by simp only [refAt,hb]
  have hA:(nmK F s 0 V)[i]? =some (if refAt s i then nm F v else v):=by rw [vuw,hk,A1,A5]
  have htk:((nmK F s 0 V).take i).length<=23:=by rw [Ae];omega
  unfold round SQ2 vi3 nQ2;rw [if_neg (Am i)];rw [Ah,hA,Al];by_cases c1:(b.toNat:Int)=114
  ·obtain ⟨v0,v1⟩:=hv i v hk (by rw [hr];exact decide_eq_true c1);have hc:=vyg (Φ:=T d) F (v-1) zo;have hsu:=vyq v0 zo;have ha:=vyx F v zo;rw [hr,decide_eq_true c1,if_pos rfl];clear hA;generalize (nmK F s 0 V).take i=W at *;generalize nm F v=y at *;generalize idxOf (λx:Nat=>decide ((x:Int)=v-1)) F=z at *;by_cases c:i=0
   ·rw [if_pos c];simp -implicitDefEqProofs (disch:=try exact zd) only [go_sem,Aa,Ab,hk,hx,hs,hw,c1,hc,hsu,ha]
    (show some _=some _;kernel_rfl)
   ·rw [if_neg c];simp -implicitDefEqProofs (disch:=try exact zd) only [go_sem,Aa,Ab,hk,hx,hs,hw,c1,hc,hsu,ha]
    (show some _=some _;kernel_rfl)
  ·rw [hr,decide_eq_false c1,if_neg (Bool.false_ne_true)];clear hA;generalize (nmK F s 0 V).take i=W at *;by_cases c:i=0
   ·rw [if_pos c];simp -implicitDefEqProofs (disch:=try exact zd) only [go_sem,Aa,Ab,hk,hx,hs,hw]
    (show some _=some _;kernel_rfl)
   ·rw [if_neg c];simp -implicitDefEqProofs (disch:=try exact zd) only [go_sem,Aa,Ab,hk,hx,hs,hw]
    (show some _=some _;kernel_rfl)
 ·unfold round SQ2 vi3 nQ2;rw [if_neg (by omega:¬V.length=0),if_neg (by decide:¬1=0),<-hAB,Ag];simp -implicitDefEqProofs (disch:=try exact zd) only [go_sem,Aa,Ab,hAB]
def SQ1 (ts:List ByteArray) (g:Gr) (F:List Nat) (X:List Int) (i:Nat):St:=⟨[(0,.sz vam (ts.map eStr)),(3,.rf 0),(4,.rf 1),(5,.rf 2),(6,.rf 3),(8,.a (.int .i64 i))],[(0,some (.bx false (uGr g))),(1,some (.bx false [.rf 4,.rf 5])),(2,some (.sl false 0 vae (F.map eNat))),(3,some (.bx false [.rf 6,.rf 7])),(4,some (.sl false 0 vae [])),(5,some (.sl false 0 vai [])),(6,some (.sl false 0 vae (X.map vak))),(7,some (.sl false 0 vai (((F.take i).map (plainN ts F g)).map eObj)))],8⟩
theorem qjl {d:Nat} {ts:List ByteArray} {g:Gr} (h:Right ts g) {F:List Nat} {X:List Int} (hF:∀k∈F,k<g.nodes.length) (hl:F.length<=g.nodes.length):
  vbt (T (d+1)) vad [0,3,4,5,6,8] vi9 (SQ1 ts g F X 0)=some (.ext 2,⟨[(0,.sz vam (ts.map eStr)),(3,.rf 0),(4,.rf 1),(5,.rf 2),(6,.rf 3),(8,.a (.int .i64 F.length)),(41,.a (.bool false))],[(0,some (.bx false (uGr g))),(1,some (.bx false [.rf 4,.rf 5])),(2,some (.sl false 0 vae (F.map eNat))),(3,some (.bx false [.rf 6,.rf 7])),(4,some (.sl false 0 vae [])),(5,some (.sl false 0 vai [])),(6,some (.sl false 0 vae (X.map vak))),(7,some (.sl false 0 vai ((F.map (plainN ts F g)).map eObj)))],408⟩):=by
 have hn:=h.n;refine vcj (SQ1 ts g F X) _ (m:=F.length) (vbc zo) (λi hi=> ?_) ?_
 ·obtain ⟨k,hk⟩:∃v,F[i]? =some v:=⟨_,Ac hi⟩
  have hkn:=hF k (Af hk);obtain ⟨o,ho⟩:∃v,g.nodes[k]? =some v:=⟨_,Ac hkn⟩
  obtain ⟨t,s,o1,o2,o3,o4,o5,o6⟩:=h.obj o (Af ho);have hpn:plainN ts F g k=⟨o.ty,nmK F s 0 o.vals⟩:=by unfold plainN;rw [ho];simp only;unfold plainO;rw [o1,Ao,o2]
  obtain ⟨ty,V⟩:=o;dsimp only at *;subst o1;have hw:=va0 i zo;have key:=qje (d:=d) (F:=F) (X:=X) (P:=(F.take i).map (plainN ts F g)) (q:=i) h.n hl o2 o3 o5 o4 o6;have hPl:((F.take i).map (plainN ts F g)).length<=400:=by rw [An,Ae];omega
  unfold SQ2 nQ2 at key;rw [if_pos rfl,Aj,if_neg (by decide)] at key;simp only [Ak] at key;unfold round SQ1 vi9;rw [vsb _ hk,hpn];generalize (F.take i).map (plainN ts F g)=P at *;generalize nmK F s 0 V=W at *;simp -implicitDefEqProofs (disch:=try exact zd) only [go_sem,Aa,Ab,hk,ho,hw];rw [vaw key (by kernel_rfl)];simp -implicitDefEqProofs (disch:=try exact zd) only [go_sem,Aa,Ab,hw]
  (show some _=some _;kernel_rfl)
 ·unfold round SQ1 vi9;rw [Ag];simp -implicitDefEqProofs (disch:=try exact zd) only [go_sem,Aa,Ab]
theorem vu8 {d:Nat} {ts:List ByteArray} {g:Gr} (h:Right ts g):vag (T (d+2)) vad vjj [.sl true vam (ts.map eStr),cGr true g]=some ([cGr false (plainG ts g)],[]):=by
 have hn:=h.n;have hr:=h.r;have hI:=vcw ts g g.nodes.length;have hle:(found ts g).length<=g.nodes.length:=hI.le;have hd:=qcw (Φ:=T (d+1)) h;have k0:=qju (d:=d+1) (ts:=ts) (g:=g) (F:=found ts g) hn hle hr h.roots;have k1:=qjl (d:=d+1) h (F:=found ts g) (X:=g.roots.map (nm (found ts g))) hI.low hle;unfold SQ0 nQ0 at k0;unfold SQ1 at k1;rw [if_pos rfl,Aj,Ak] at k0;rw [Aj,Ak] at k1;simp only [Ak] at k0 k1;rw [vab rfl];unfold plainG;generalize found ts g=F at *;generalize g.roots.map (nm F)=X at *;generalize F.map (plainN ts F g)=P at *;simp -implicitDefEqProofs (disch:=try exact zd) only [go_sem,Aa,Ab,vjj,vrl,hd];rw [vaw k0 (by kernel_rfl)];by_cases c0:g.roots.length=0
 ·rw [if_pos c0];simp -implicitDefEqProofs (disch:=try exact zd) only [go_sem,Aa,Ab];rw [vaw k1 (by kernel_rfl)];simp -implicitDefEqProofs (disch:=try exact zd) only [go_sem,Aa,Ab]
 ·rw [if_neg c0];simp -implicitDefEqProofs (disch:=try exact zd) only [go_sem,Aa,Ab];rw [vaw k1 (by kernel_rfl)];simp -implicitDefEqProofs (disch:=try exact zd) only [go_sem,Aa,Ab]
theorem qgb {ts:List ByteArray} {g:Gr} (h:Right ts g) {k:Nat} {F:List Nat}:(plainN ts F g k).vals.length<=23:=by
 unfold plainN;split
 ·rename_i o ho;obtain ⟨t,s,o1,o2,o3,o4,o5,_⟩:=h.obj o (Af ho);unfold plainO;rw [o1,Ao,o2];simp only;rw [vmd];omega
 ·simp
theorem vt7 {ts:List ByteArray} {g:Gr} (h:Right ts g):(plainG ts g).roots.length<=1000/\(plainG ts g).nodes.length<=400/\∀o∈(plainG ts g).nodes,o.vals.length<=23:=by
 have hle:(found ts g).length<=g.nodes.length:=(vcw ts g g.nodes.length).le;have hn:=h.n;have hr:=h.r;unfold plainG;refine ⟨by simpa using hr,by simp;omega,λo ho=> ?_⟩;obtain ⟨k,_,rfl⟩:=A2.1 ho;exact qgb h

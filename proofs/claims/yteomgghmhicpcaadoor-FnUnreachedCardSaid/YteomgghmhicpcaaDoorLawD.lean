/- Nodes that are discovered: the program's search. Nodes that are discovered: the program's loops. Nodes that are discovered: the reference's. -/
import Derived.Test.YteomgghmhicpcaaDoorLawT
namespace Go.Proofs.YteomgghmhicpcaaDoor.VM
open Go Sy
variable {Φ:Nat→Option Callee} {N:Nat}
def eNat (x:Nat):PV:= .a (.int .i64 x)
theorem vyr (x:Nat):eNat x= .a (.int .i64 x):=rfl
def eB (b:Bool):PV:= .a (.bool b)
theorem qdp (b:Bool):eB b= .a (.bool b):=rfl
attribute [go_sem] vyr qdp
structure Fd where
 out:List Nat
 seen:List Bool
def see1 (st:Fd) (v:Int):Fd:=if 0<v∧st.seen[(v-1).toNat]? =some false then ⟨st.out++ [(v-1).toNat],st.seen.set (v-1).toNat true⟩ else st
def unseen:List Bool→Nat
 | []=>0
 |b::l=>(if b then 0 else 1)+unseen l
theorem vlc:∀{l:List Bool} {i:Nat},l[i]? =some false→unseen (l.set i true)+1=unseen l
 | [],i,h=>by cases h
 |b::l,0,h=>by
  simp only [List.getElem?_cons_zero,Option.some.injEq] at h
  subst h
  simp [unseen];omega
 |b::l,i+1,h=>by
  rw [List.getElem?_cons_succ] at h
  have:=vlc h
  simp only [List.set_cons_succ,unseen]
  omega
theorem vrl (n:Nat):unseen (List.replicate n false)=n:=by
 induction n with
 |zero=>rfl
 |succ n ih=>rw [List.replicate_succ,unseen,ih];simp;omega
structure InvF (n:Nat) (st:Fd):Prop where
 len:st.seen.length=n
 cnt:st.out.length+unseen st.seen=n
 low:∀x∈st.out,x<n
 nod:st.out.Nodup
 mem:∀x,x∈st.out→st.seen[x]? =some true
theorem InvF.le {n:Nat} {st:Fd} (h:InvF n st):st.out.length≤n:=by have:=h.cnt;omega
theorem InvF.see {n:Nat} {st:Fd} (h:InvF n st) (v:Int):InvF n (see1 st v):=by
 unfold see1
 split
 ·rename_i hc
  obtain ⟨hi,hb⟩:=List.getElem?_eq_some_iff.1 hc.2
  have hnew:(v-1).toNat∉st.out:=fun hm=>by have:=h.mem _ hm;rw [hc.2] at this;cases this
  refine ⟨by rw [List.length_set];exact h.len,?_,?_,?_,?_⟩
  ·have:=vlc hc.2
   have h1:=h.cnt
   simp only [List.length_append,List.length_cons,List.length_nil]
   omega
  ·intro x hx
   rcases List.mem_append.1 hx with hx|hx
   ·exact h.low x hx
   ·simp only [List.mem_singleton] at hx;subst hx;rw [←h.len];exact hi
  ·rw [List.nodup_append]
   refine ⟨h.nod,by simp,fun a ha b hb e=> ?_⟩
   simp only [List.mem_singleton] at hb
   subst hb;subst e
   exact hnew ha
  ·intro x hx
   rw [List.getElem?_set]
   rcases List.mem_append.1 hx with hx|hx
   ·by_cases he:(v-1).toNat=x
    ·subst he;exact absurd hx hnew
    ·rw [if_neg he];exact h.mem x hx
   ·simp only [List.mem_singleton] at hx
    subst hx
    rw [if_pos rfl,if_pos hi]
 ·exact h
def seeAll (st:Fd) (l:List Int):Fd:=l.foldl see1 st
theorem InvF.all {n:Nat}:∀{l:List Int} {st:Fd},InvF n st→InvF n (seeAll st l)
 | [],_,h=>h
 |v::l,_,h=>InvF.all (l:=l) (h.see v)
theorem vi1 {st:Fd} {l:List Int} {i:Nat} {v:Int} (h:l[i]? =some v):seeAll st (l.take (i+1))=see1 (seeAll st (l.take i)) v:=by
 unfold seeAll
 rw [List.take_add_one,h,List.foldl_append];rfl
def refsOf (s:ByteArray):Nat→List Int→List Int
 |_,[]=> []
 |k,v::l=>(if refAt s k then [v] else [])++refsOf s (k+1) l
def seeK (s:ByteArray) (st:Fd):Nat→List Int→Fd
 |_,[]=>st
 |k,v::l=>seeK s (if refAt s k then see1 st v else st) (k+1) l
def seeT (s:ByteArray) (st:Fd) (vals:List Int) (i:Nat):Fd:=seeK s st 0 (vals.take i)
theorem vit {s:ByteArray}:∀{l l':List Int} {k:Nat} {st:Fd},seeK s st k (l++l')=seeK s (seeK s st k l) (k+l.length) l'
 | [],l',k,st=>rfl
 |v::l,l',k,st=>by
  rw [List.cons_append,seeK,seeK,vit,List.length_cons,show k+1+l.length=k+(l.length+1) by omega]
theorem vmh {s:ByteArray} {st:Fd} {vals:List Int} {i:Nat} {v:Int} (h:vals[i]? =some v):seeT s st vals (i+1)=if refAt s i then see1 (seeT s st vals i) v else seeT s st vals i:=by
 unfold seeT
 have hi:i<vals.length:=(List.getElem?_eq_some_iff.1 h).1
 rw [List.take_add_one,h,vit]
 simp only [Option.toList_some,seeK,List.length_take,Nat.zero_add,Nat.min_eq_left (Nat.le_of_lt hi)]
theorem InvF.seeK {n:Nat} {s:ByteArray}:∀{l:List Int} {k:Nat} {st:Fd},InvF n st→InvF n (seeK s st k l)
 | [],_,_,h=>h
 |v::l,k,st,h=>by
  rw [VM.seeK]
  refine InvF.seeK (l:=l) ?_
  split
  ·exact h.see v
  ·exact h
def seeO (ts:List ByteArray) (st:Fd) (o:Obj'):Fd:=match ts[o.ty.toNat]? with
 |some s=>seeT s st o.vals o.vals.length
 |none=>st
def seeN (ts:List ByteArray) (g:Gr) (st:Fd) (i:Nat):Fd:=match st.out[i]? with
 |some k=>(match g.nodes[k]? with
  |some o=>seeO ts st o
  |none=>st)
 |none=>st
def search (ts:List ByteArray) (g:Gr):Nat→Fd
 |0=>seeAll ⟨[],List.replicate g.nodes.length false⟩ g.roots
 |i+1=>seeN ts g (search ts g i) i
theorem vk5 (n:Nat):InvF n ⟨[],List.replicate n false⟩:=⟨by simp,by simp [vrl],by simp,by simp,by simp⟩
theorem InvF.seeO {n:Nat} {ts:List ByteArray} {st:Fd} (h:InvF n st) (o:Obj'):InvF n (seeO ts st o):=by
 unfold VM.seeO
 split
 ·exact InvF.seeK h
 ·exact h
theorem vau (ts:List ByteArray) (g:Gr):∀i,InvF g.nodes.length (search ts g i)
 |0=>InvF.all (vk5 _)
 |i+1=>by
  rw [search]
  unfold seeN
  split
  ·split
   ·exact (vau ts g i).seeO _
   ·exact vau ts g i
  ·exact vau ts g i
theorem vcl {ts:List ByteArray} {g:Gr} {i:Nat} (h:(search ts g i).out.length≤i):∀j,search ts g (i+j)=search ts g i
 |0=>rfl
 |j+1=>by
  rw [show i+(j+1)=(i+j)+1 by omega,search,vcl h j]
  unfold seeN
  rw [List.getElem?_eq_none (by omega)]
def found (ts:List ByteArray) (g:Gr):List Nat:=(search ts g g.nodes.length).out
theorem vgl (l:List Bool) (i:Nat):(l.map eB).set i (.a (.bool true))=(l.set i true).map eB:=by rw [List.map_set];rfl
theorem vq1 {n:Nat} {st:Fd} (h:InvF n st) (hn:n≤1048576) {v:Int} (hv:v≤(n:Int)) (hlo: -9223372036854775807≤v):
  runFn Φ N f_impl_discovered_1 [.a (.int .i64 v),.bx false [.sl false t_bool (st.seen.map eB)],.bx false [.sl false t_i64 (st.out.map eNat)]]=
  some ([],[.bx false [.sl false t_bool ((see1 st v).seen.map eB)],.bx false [.sl false t_i64 ((see1 st v).out.map eNat)]]):=by
 have hle:=h.le
 have hlen:=h.len
 rw [vae rfl]
 unfold see1
 by_cases c1:0<v
 ·obtain ⟨k,rfl⟩:∃k:Nat,v=(k:Int)+1:=⟨(v-1).toNat,by omega⟩
  have e1:((k:Int)+1-1).toNat=k:=by omega
  have e2:IntKind.i64.wrap ((k:Int)+1-1)=k:=by rw [van]<;>omega
  obtain ⟨b,hb⟩:∃b,st.seen[k]? =some b:=⟨_,List.getElem?_eq_getElem (by omega)⟩
  rw [e1,hb]
  cases b with
  |true=>
   rw [if_neg (by simp)]
   simp (maxSteps:=3000000) (implicitDefEqProofs:=false) (disch:=first|assumption|(refine ofR ?_;show norm _ _=_;kernel_rfl)|(refine ofR ?_;show okD _ _ _ _=true;kernel_rfl)|exact ofR (by with_unfolding_all rfl)|exact ofB (by with_unfolding_all rfl)|omega|(simp only [go_sem,vab];omega)) only [go_sem,Nat.reduceAdd,Nat.reduceBEq,f_impl_discovered_1,c_impl_discovered_1,e2,hb]
  |false=>
   rw [if_pos ⟨c1,rfl⟩]
   simp (maxSteps:=3000000) (implicitDefEqProofs:=false) (disch:=first|assumption|(refine ofR ?_;show norm _ _=_;kernel_rfl)|(refine ofR ?_;show okD _ _ _ _=true;kernel_rfl)|exact ofR (by with_unfolding_all rfl)|exact ofB (by with_unfolding_all rfl)|omega|(simp only [go_sem,vab];omega)) only [go_sem,Nat.reduceAdd,Nat.reduceBEq,f_impl_discovered_1,c_impl_discovered_1,e2,hb,vgl]
 ·rw [if_neg (fun h=>c1 h.1)]
  simp (maxSteps:=3000000) (implicitDefEqProofs:=false) (disch:=first|assumption|(refine ofR ?_;show norm _ _=_;kernel_rfl)|(refine ofR ?_;show okD _ _ _ _=true;kernel_rfl)|exact ofR (by with_unfolding_all rfl)|exact ofB (by with_unfolding_all rfl)|omega|(simp only [go_sem,vab];omega)) only [go_sem,Nat.reduceAdd,Nat.reduceBEq,f_impl_discovered_1,c_impl_discovered_1]
end Go.Proofs.YteomgghmhicpcaaDoor.VM
namespace Go.Proofs.YteomgghmhicpcaaDoor.VM
open Go Sy
variable {Φ:Nat→Option Callee} {N:Nat}
structure Right (ts:List ByteArray) (g:Gr):Prop where
 small:Small ts g
 n:g.nodes.length≤400
 r:g.roots.length≤40
 roots:∀v∈g.roots,0≤v∧v≤(g.nodes.length:Int)
 obj:∀o∈g.nodes,∃(t:Nat) (s:ByteArray),o.ty=(t:Int)∧ts[t]? =some s∧o.vals.length=s.size∧1≤s.size∧s.size≤23∧∀(j:Nat) v,o.vals[j]? =some v→refAt s j=true→0≤v∧v≤(g.nodes.length:Int)
 ty:ts.length≤12
theorem Right.of {ts:List ByteArray} {g:Gr} (hs:Small ts g) (h:graphOk ts g=true):Right ts g:=by
 unfold graphOk at h
 simp only [Bool.and_eq_true,decide_eq_true_eq,List.all_eq_true] at h
 obtain ⟨h1,h2,h3,h4,h5⟩:=h
 unfold typesOk at h1
 simp only [Bool.and_eq_true,decide_eq_true_eq,List.all_eq_true] at h1
 refine ⟨hs,h3,h2,fun v hv=> ?_,fun o ho=> ?_,h1.1.2⟩
 ·have:=h4 v hv
  rwa [isN,decide_eq_true_eq] at this
 ·have:=h5 o ho
  unfold objOk at this
  split at this
  ·rename_i s hs'
   simp only [Bool.and_eq_true,decide_eq_true_eq] at this
   obtain ⟨k1,k2,k3⟩:=this
   have hsz:=h1.2 s (List.mem_of_getElem? hs')
   unfold okType at hsz
   simp only [Bool.and_eq_true,decide_eq_true_eq] at hsz
   refine ⟨o.ty.toNat,s,by omega,hs',k2,hsz.1.1,hsz.1.2,fun j v hv hr=> ?_⟩
   have hb:=vby.1 k3 j v hv
   rw [Nat.zero_add,badV,hr] at hb
   simp only [Bool.true_and,Bool.not_eq_false'] at hb
   rwa [isN,decide_eq_true_eq] at hb
  ·cases this
theorem vxe (st:Fd) (v:Int):st.out.length≤(see1 st v).out.length:=by
 unfold see1
 split
 ·simp
 ·exact Nat.le_refl _
theorem vof {s:ByteArray}:∀{l:List Int} {k:Nat} {st:Fd},st.out.length≤(seeK s st k l).out.length
 | [],_,_=>Nat.le_refl _
 |v::l,k,st=>by
  rw [seeK]
  refine Nat.le_trans ?_ vof
  split
  ·exact vxe _ _
  ·exact Nat.le_refl _
theorem vld (ts:List ByteArray) (g:Gr) (i:Nat):(search ts g i).out.length≤(search ts g (i+1)).out.length:=by
 rw [search]
 unfold seeN
 split
 ·split
  ·unfold seeO
   split
   ·exact vof
   ·exact Nat.le_refl _
  ·exact Nat.le_refl _
 ·exact Nat.le_refl _
abbrev fSee:TV:= .fn n_impl_discovered_1 [] [.rf 2,.rf 1]
abbrev nSee (g:Gr) (st:Fd):List (Nat×Option Node):= [(0,some (.bx false (uGr g))),(1,some (.bx false [.rf 3])),(2,some (.bx false [.rf 4])),(3,some (.sl false 0 t_i64 (st.out.map eNat))),(4,some (.sl false 0 t_bool (st.seen.map eB)))]
def S80 (ts:List ByteArray) (g:Gr) (i:Nat):St:=⟨[(0,.sz t_string (ts.map eStr)),(3,.rf 0),(5,.rf 1),(7,fSee),(21,.sz t_i64 (g.roots.map eInt)),(22,.a (.int .i64 g.roots.length)),(23,.a (.int .i64 i))],nSee g (seeAll ⟨[],List.replicate g.nodes.length false⟩ (g.roots.take i)),5⟩
theorem vy8 {d:Nat} {ts:List ByteArray} {g:Gr} (h:Right ts g):
  loopE (T (d+1)) fuel [0,3,5,7,21,22,23] c_impl_discovered_L0 (S80 ts g 0)=some (.ext 0,⟨[(0,.sz t_string (ts.map eStr)),(3,.rf 0),(5,.rf 1),(7,fSee),(21,.sz t_i64 (g.roots.map eInt)),(22,.a (.int .i64 g.roots.length)),(23,.a (.int .i64 g.roots.length)),(24,.a (.bool false))],nSee g (search ts g 0),105⟩):=by
 have hr:=h.r
 have hn:=h.n
 have:=vbq (Φ:=T (d+1)) (N:=fuel) (live:= [0,3,5,7,21,22,23]) (b:=c_impl_discovered_L0) (id:=0) (S80 ts g) ⟨[(0,.sz t_string (ts.map eStr)),(3,.rf 0),(5,.rf 1),(7,fSee),(21,.sz t_i64 (g.roots.map eInt)),(22,.a (.int .i64 g.roots.length)),(23,.a (.int .i64 g.roots.length)),(24,.a (.bool false))],nSee g (search ts g 0),105⟩ (m:=g.roots.length) (vas (by omega)) (fun i hi=> ?_) ?_
 ·exact this
 ·obtain ⟨v,hv⟩:∃v,g.roots[i]? =some v:=⟨_,List.getElem?_eq_getElem hi⟩
  obtain ⟨v0,v1⟩:=h.roots v (List.mem_of_getElem? hv)
  have hI:InvF g.nodes.length (seeAll ⟨[],List.replicate g.nodes.length false⟩ (g.roots.take i)):=InvF.all (vk5 _)
  have hc:=vq1 (Φ:=T d) (N:=fuel) hI (by omega) v1 (by omega)
  have hw:=vag i (by omega)
  unfold round S80 c_impl_discovered_L0 nSee fSee
  rw [vi1 hv]
  generalize seeAll ⟨[],List.replicate g.nodes.length false⟩ (g.roots.take i)=st at *
  generalize see1 st v=st' at *
  simp (maxSteps:=3000000) (implicitDefEqProofs:=false) (disch:=first|assumption|(refine ofR ?_;show norm _ _=_;kernel_rfl)|(refine ofR ?_;show okD _ _ _ _=true;kernel_rfl)|exact ofR (by with_unfolding_all rfl)|exact ofB (by with_unfolding_all rfl)|omega|(simp only [go_sem,vab];omega)) only [go_sem,Nat.reduceAdd,Nat.reduceBEq,hv,hc,hw]
  cbv
 ·unfold round S80 c_impl_discovered_L0 nSee fSee
  rw [List.take_length]
  simp (maxSteps:=3000000) (implicitDefEqProofs:=false) (disch:=first|assumption|(refine ofR ?_;show norm _ _=_;kernel_rfl)|(refine ofR ?_;show okD _ _ _ _=true;kernel_rfl)|exact ofR (by with_unfolding_all rfl)|exact ofB (by with_unfolding_all rfl)|omega|(simp only [go_sem,vab];omega)) only [go_sem,Nat.reduceAdd,Nat.reduceBEq,search]
abbrev nSee2 (g:Gr) (o:Obj') (st:Fd):List (Nat×Option Node):= [(0,some (.bx false (uGr g))),(1,some (.bx false [.rf 4])),(2,some (.bx false [.rf 5])),(3,some (.bx false [.a (.int .i64 o.ty),.sz t_i64 (o.vals.map eInt)])),(4,some (.sl false 0 t_i64 (st.out.map eNat))),(5,some (.sl false 0 t_bool (st.seen.map eB)))]
def S82 (ts:List ByteArray) (g:Gr) (o:Obj') (q:Nat) (s:ByteArray) (st:Fd) (i:Nat):St:=⟨[(0,.sz t_string (ts.map eStr)),(3,.rf 0),(5,.rf 1),(7,fSee),(10,.a (.int .i64 q)),(11,.rf 3),(46,.sz t_i64 (o.vals.map eInt)),(47,.a (.int .i64 o.vals.length)),(48,.a (.int .i64 i))],nSee2 g o (seeT s st o.vals i),6⟩
theorem vyg {d:Nat} {ts:List ByteArray} {g:Gr} (h:Right ts g) {o:Obj'} (q:Nat) {t:Nat} {s:ByteArray} (ht:o.ty=(t:Int)) (hs:ts[t]? =some s) (hz:o.vals.length=s.size) (hss:s.size≤23) (hv:∀(j:Nat) v,o.vals[j]? =some v→refAt s j=true→0≤v∧v≤(g.nodes.length:Int)) {st:Fd} (hI:InvF g.nodes.length st):
  loopE (T (d+1)) fuel [0,3,5,7,10,11,46,47,48] c_impl_discovered_L2 (S82 ts g o q s st 0)=some (.ext 4,⟨[(0,.sz t_string (ts.map eStr)),(3,.rf 0),(5,.rf 1),(7,fSee),(10,.a (.int .i64 q)),(11,.rf 3),(46,.sz t_i64 (o.vals.map eInt)),(47,.a (.int .i64 o.vals.length)),(48,.a (.int .i64 o.vals.length)),(49,.a (.bool false))],nSee2 g o (seeT s st o.vals o.vals.length),106⟩):=by
 have htl:t<ts.length:=(List.getElem?_eq_some_iff.1 hs).1
 have hn:=h.n
 refine vbq (S82 ts g o q s st) _ (m:=o.vals.length) (vas (by omega)) (fun i hi=> ?_) ?_
 ·obtain ⟨v,hv'⟩:∃v,o.vals[i]? =some v:=⟨_,List.getElem?_eq_getElem hi⟩
  obtain ⟨b,hb⟩:∃b,(ch s)[i]? =some b:=⟨_,List.getElem?_eq_getElem (by rw [←vck];omega)⟩
  have hx:=vd1 hb
  have hw:=vag i (by omega)
  have hr:refAt s i=decide ((b.toNat:Int)=114):=by simp only [refAt,hb]
  have hI':InvF g.nodes.length (seeT s st o.vals i):=InvF.seeK hI
  unfold round S82 c_impl_discovered_L2 nSee2 fSee
  rw [vmh hv',hr,ht]
  by_cases c1:(b.toNat:Int)=114
  ·obtain ⟨v0,v1⟩:=hv i v hv' (by rw [hr];exact decide_eq_true c1)
   have hc:=vq1 (Φ:=T d) (N:=fuel) hI' (by omega) v1 (by omega)
   rw [decide_eq_true c1,if_pos rfl]
   generalize seeT s st o.vals i=st1 at *
   generalize see1 st1 v=st' at *
   simp (maxSteps:=3000000) (implicitDefEqProofs:=false) (disch:=first|assumption|(refine ofR ?_;show norm _ _=_;kernel_rfl)|(refine ofR ?_;show okD _ _ _ _=true;kernel_rfl)|exact ofR (by with_unfolding_all rfl)|exact ofB (by with_unfolding_all rfl)|omega|(simp only [go_sem,vab];omega)) only [go_sem,Nat.reduceAdd,Nat.reduceBEq,hv',hx,hs,hc,hw,c1]
   cbv
  ·rw [decide_eq_false c1,if_neg (by simp)]
   generalize seeT s st o.vals i=st1 at *
   simp (maxSteps:=3000000) (implicitDefEqProofs:=false) (disch:=first|assumption|(refine ofR ?_;show norm _ _=_;kernel_rfl)|(refine ofR ?_;show okD _ _ _ _=true;kernel_rfl)|exact ofR (by with_unfolding_all rfl)|exact ofB (by with_unfolding_all rfl)|omega|(simp only [go_sem,vab];omega)) only [go_sem,Nat.reduceAdd,Nat.reduceBEq,hv',hx,hs,hw]
   cbv
 ·unfold round S82 c_impl_discovered_L2
  simp (maxSteps:=3000000) (implicitDefEqProofs:=false) (disch:=first|assumption|(refine ofR ?_;show norm _ _=_;kernel_rfl)|(refine ofR ?_;show okD _ _ _ _=true;kernel_rfl)|exact ofR (by with_unfolding_all rfl)|exact ofB (by with_unfolding_all rfl)|omega|(simp only [go_sem,vab];omega)) only [go_sem,Nat.reduceAdd,Nat.reduceBEq]
def S81 (ts:List ByteArray) (g:Gr) (i:Nat):St:=⟨[(0,.sz t_string (ts.map eStr)),(3,.rf 0),(5,.rf 1),(7,fSee),(10,.a (.int .i64 i))],nSee g (search ts g i),5⟩
theorem vyb {d:Nat} {ts:List ByteArray} {g:Gr} (h:Right ts g):
  loopE (T (d+1)) fuel [0,3,5,7,10] c_impl_discovered_L1 (S81 ts g 0)=some (.ext 2,⟨[(0,.sz t_string (ts.map eStr)),(3,.rf 0),(5,.rf 1),(7,fSee),(10,.a (.int .i64 (found ts g).length)),(34,.a (.bool false))],nSee g (search ts g g.nodes.length),405⟩):=by
 have hn:=h.n
 refine vbf (S81 ts g) _ (fun i=>i≤(search ts g i).out.length) (m:=g.nodes.length) (vas (by omega)) (Nat.zero_le _) (by simp) (fun i hi hp=> ?_)
 have hI:=vau ts g i
 have hle:=hI.le
 have hw:=vag i (by omega)
 by_cases hi':i<(search ts g i).out.length
 ·obtain ⟨k,hk⟩:∃k,(search ts g i).out[i]? =some k:=⟨_,List.getElem?_eq_getElem hi'⟩
  have hkn:=hI.low k (List.mem_of_getElem? hk)
  obtain ⟨o,ho⟩:∃o,g.nodes[k]? =some o:=⟨_,List.getElem?_eq_getElem hkn⟩
  obtain ⟨t,s,o1,o2,o3,o4,o5,o6⟩:=h.obj o (List.mem_of_getElem? ho)
  have key:=vyg (d:=d) h i o1 o2 o3 o5 o6 hI
  have e:search ts g (i+1)=seeT s (search ts g i) o.vals o.vals.length:=by
   rw [search];unfold seeN;rw [hk];simp only;rw [ho];simp only
   unfold seeO
   rw [o1,Int.toNat_natCast,o2]
  have hgrow:=vld ts g i
  unfold S82 nSee2 fSee at key
  rw [show seeT s (search ts g i) o.vals 0=search ts g i from rfl] at key
  refine .inl ⟨by omega,?_,by omega⟩
  unfold round S81 c_impl_discovered_L1 nSee fSee
  rw [e]
  generalize seeT s (search ts g i) o.vals o.vals.length=st' at *
  generalize search ts g i=st at *
  simp (maxSteps:=3000000) (implicitDefEqProofs:=false) (disch:=first|assumption|(refine ofR ?_;show norm _ _=_;kernel_rfl)|(refine ofR ?_;show okD _ _ _ _=true;kernel_rfl)|exact ofR (by with_unfolding_all rfl)|exact ofB (by with_unfolding_all rfl)|omega|(simp only [go_sem,vab];omega)) only [go_sem,Nat.reduceAdd,Nat.reduceBEq,hk,ho,hw]
  rw [vah key (by cbv)]
  simp (maxSteps:=3000000) (implicitDefEqProofs:=false) (disch:=first|assumption|(refine ofR ?_;show norm _ _=_;kernel_rfl)|(refine ofR ?_;show okD _ _ _ _=true;kernel_rfl)|exact ofR (by with_unfolding_all rfl)|exact ofB (by with_unfolding_all rfl)|omega|(simp only [go_sem,vab];omega)) only [go_sem,Nat.reduceAdd,Nat.reduceBEq,hw]
  cbv
 ·have hlen:(search ts g i).out.length=i:=by omega
  have hst:=vcl (ts:=ts) (g:=g) (i:=i) (by omega) (g.nodes.length-i)
  rw [show i+(g.nodes.length-i)=g.nodes.length by omega] at hst
  right
  have hf:(found ts g).length=i:=by unfold found;rw [hst];exact hlen
  rw [hf,hst]
  unfold round S81 c_impl_discovered_L1 nSee fSee
  generalize search ts g i=st at *
  simp (maxSteps:=3000000) (implicitDefEqProofs:=false) (disch:=first|assumption|(refine ofR ?_;show norm _ _=_;kernel_rfl)|(refine ofR ?_;show okD _ _ _ _=true;kernel_rfl)|exact ofR (by with_unfolding_all rfl)|exact ofB (by with_unfolding_all rfl)|omega|(simp only [go_sem,vab];omega)) only [go_sem,Nat.reduceAdd,Nat.reduceBEq]
theorem vfs {d:Nat} {ts:List ByteArray} {g:Gr} (h:Right ts g):runFn (T (d+1)) fuel f_impl_discovered [.sl true t_string (ts.map eStr),cGr true g]=some ([.sl false t_i64 ((found ts g).map eNat)],[]):=by
 have k0:=vy8 (d:=d) h
 have k1:=vyb (d:=d) h
 have hn:=h.n
 unfold S80 nSee fSee at k0
 unfold S81 nSee fSee at k1
 rw [show seeAll ⟨[],List.replicate g.nodes.length false⟩ (g.roots.take 0)=⟨[],List.replicate g.nodes.length false⟩ from rfl] at k0
 rw [vae rfl]
 unfold found
 have e:List.map eB (List.replicate g.nodes.length false)=List.replicate g.nodes.length (.a (.bool false)):=by rw [List.map_replicate];rfl
 simp only [e,List.map_nil] at k0
 simp (maxSteps:=3000000) (implicitDefEqProofs:=false) (disch:=first|assumption|(refine ofR ?_;show norm _ _=_;kernel_rfl)|(refine ofR ?_;show okD _ _ _ _=true;kernel_rfl)|exact ofR (by with_unfolding_all rfl)|exact ofB (by with_unfolding_all rfl)|omega|(simp only [go_sem,vab];omega)) only [go_sem,Nat.reduceAdd,Nat.reduceBEq,f_impl_discovered,c_impl_discovered]
 rw [vah k0 (by cbv)]
 simp (maxSteps:=3000000) (implicitDefEqProofs:=false) (disch:=first|assumption|(refine ofR ?_;show norm _ _=_;kernel_rfl)|(refine ofR ?_;show okD _ _ _ _=true;kernel_rfl)|exact ofR (by with_unfolding_all rfl)|exact ofB (by with_unfolding_all rfl)|omega|(simp only [go_sem,vab];omega)) only [go_sem,Nat.reduceAdd,Nat.reduceBEq]
 generalize search ts g 0=s0 at *
 rw [vah k1 (by cbv)]
 simp (maxSteps:=3000000) (implicitDefEqProofs:=false) (disch:=first|assumption|(refine ofR ?_;show norm _ _=_;kernel_rfl)|(refine ofR ?_;show okD _ _ _ _=true;kernel_rfl)|exact ofR (by with_unfolding_all rfl)|exact ofB (by with_unfolding_all rfl)|omega|(simp only [go_sem,vab];omega)) only [go_sem,Nat.reduceAdd,Nat.reduceBEq]
end Go.Proofs.YteomgghmhicpcaaDoor.VM
namespace Go.Proofs.YteomgghmhicpcaaDoor.VM
open Go Sy
variable {Φ:Nat→Option Callee} {N:Nat}
abbrev nFnd (g:Gr) (st:Fd):List (Nat×Option Node):= [(0,some (.bx false (uGr g))),(1,some (.sl false 0 t_i64 (st.out.map eNat))),(2,some (.sl false 0 t_bool (st.seen.map eB)))]
def S90 (ts:List ByteArray) (g:Gr) (i:Nat):St:=⟨[(0,.sz t_string (ts.map eStr)),(3,.rf 0),(5,.rf 1),(6,.rf 2),(7,.a (.int .i64 i))],nFnd g (seeAll ⟨[],List.replicate g.nodes.length false⟩ (g.roots.take i)),3⟩
theorem vq6 (k:Nat) (h:k≤1048576):IntKind.i64.wrap ((k:Int)+1-1)=k:=by rw [van]<;>omega
theorem vxi:IntKind.i64.wrap ((0:Int)-1)= -1:=by decide
theorem qb7 {ts:List ByteArray} {g:Gr} (h:Right ts g):
  loopE Φ fuel [0,3,5,6,7] c_spec_l7Found_L0 (S90 ts g 0)=some (.ext 0,⟨[(0,.sz t_string (ts.map eStr)),(3,.rf 0),(5,.rf 1),(6,.rf 2),(7,.a (.int .i64 g.roots.length)),(22,.a (.bool false))],nFnd g (search ts g 0),503⟩):=by
 have hr:=h.r
 have hn:=h.n
 refine vbq (S90 ts g) _ (m:=g.roots.length) (vas (by omega)) (fun i hi=> ?_) ?_
 ·obtain ⟨v,hv⟩:∃v,g.roots[i]? =some v:=⟨_,List.getElem?_eq_getElem hi⟩
  obtain ⟨v0,v1⟩:=h.roots v (List.mem_of_getElem? hv)
  have hI:InvF g.nodes.length (seeAll ⟨[],List.replicate g.nodes.length false⟩ (g.roots.take i)):=InvF.all (vk5 _)
  have hw:=vag i (by omega)
  unfold round S90 c_spec_l7Found_L0 nFnd
  rw [vi1 hv]
  generalize seeAll ⟨[],List.replicate g.nodes.length false⟩ (g.roots.take i)=st at *
  have hle:=hI.le
  have hlen:=hI.len
  unfold see1
  by_cases c1:0<v
  ·obtain ⟨k,rfl⟩:∃k:Nat,v=(k:Int)+1:=⟨(v-1).toNat,by omega⟩
   have e1:((k:Int)+1-1).toNat=k:=by omega
   have e2:=vq6 k (by omega)
   obtain ⟨b,hb⟩:∃b,st.seen[k]? =some b:=⟨_,List.getElem?_eq_getElem (by omega)⟩
   rw [e1,hb]
   cases b with
   |true=>
    rw [if_neg (by simp)]
    simp (maxSteps:=3000000) (implicitDefEqProofs:=false) (disch:=first|assumption|(refine ofR ?_;show norm _ _=_;kernel_rfl)|(refine ofR ?_;show okD _ _ _ _=true;kernel_rfl)|exact ofR (by with_unfolding_all rfl)|exact ofB (by with_unfolding_all rfl)|omega|(simp only [go_sem,vab];omega)) only [go_sem,Nat.reduceAdd,Nat.reduceBEq,hv,hw,e2,hb]
    cbv
   |false=>
    rw [if_pos ⟨c1,rfl⟩]
    simp (maxSteps:=3000000) (implicitDefEqProofs:=false) (disch:=first|assumption|(refine ofR ?_;show norm _ _=_;kernel_rfl)|(refine ofR ?_;show okD _ _ _ _=true;kernel_rfl)|exact ofR (by with_unfolding_all rfl)|exact ofB (by with_unfolding_all rfl)|omega|(simp only [go_sem,vab];omega)) only [go_sem,Nat.reduceAdd,Nat.reduceBEq,hv,hw,e2,hb,vgl]
    cbv
  ·obtain rfl:v=0:=by omega
   rw [if_neg (fun h=>c1 h.1)]
   simp (maxSteps:=3000000) (implicitDefEqProofs:=false) (disch:=first|assumption|(refine ofR ?_;show norm _ _=_;kernel_rfl)|(refine ofR ?_;show okD _ _ _ _=true;kernel_rfl)|exact ofR (by with_unfolding_all rfl)|exact ofB (by with_unfolding_all rfl)|omega|(simp only [go_sem,vab];omega)) only [go_sem,Nat.reduceAdd,Nat.reduceBEq,hv,hw,vxi]
   cbv
 ·unfold round S90 c_spec_l7Found_L0 nFnd
  rw [List.take_length]
  simp (maxSteps:=3000000) (implicitDefEqProofs:=false) (disch:=first|assumption|(refine ofR ?_;show norm _ _=_;kernel_rfl)|(refine ofR ?_;show okD _ _ _ _=true;kernel_rfl)|exact ofR (by with_unfolding_all rfl)|exact ofB (by with_unfolding_all rfl)|omega|(simp only [go_sem,vab];omega)) only [go_sem,Nat.reduceAdd,Nat.reduceBEq,search]
abbrev nFnd2 (g:Gr) (o:Obj') (st:Fd):List (Nat×Option Node):= [(0,some (.bx false (uGr g))),(1,some (.sl false 0 t_i64 (st.out.map eNat))),(2,some (.sl false 0 t_bool (st.seen.map eB))),(3,some (.bx false [.a (.int .i64 o.ty),.sz t_i64 (o.vals.map eInt)]))]
def S92 (ts:List ByteArray) (g:Gr) (o:Obj') (q:Nat) (s:ByteArray) (st:Fd) (i:Nat):St:=⟨[(0,.sz t_string (ts.map eStr)),(3,.rf 0),(5,.rf 1),(6,.rf 2),(9,.a (.int .i64 q)),(10,.rf 3),(11,.a (.int .i64 i))],nFnd2 g o (seeT s st o.vals i),4⟩
theorem qae {ts:List ByteArray} {g:Gr} (h:Right ts g) {o:Obj'} (q:Nat) {t:Nat} {s:ByteArray} (ht:o.ty=(t:Int)) (hs:ts[t]? =some s) (hz:o.vals.length=s.size) (hss:s.size≤23) (hv:∀(j:Nat) v,o.vals[j]? =some v→refAt s j=true→0≤v∧v≤(g.nodes.length:Int)) {st:Fd} (hI:InvF g.nodes.length st):
  loopE Φ fuel [0,3,5,6,9,10,11] c_spec_l7Found_L2 (S92 ts g o q s st 0)=some (.ext 4,⟨[(0,.sz t_string (ts.map eStr)),(3,.rf 0),(5,.rf 1),(6,.rf 2),(9,.a (.int .i64 q)),(10,.rf 3),(11,.a (.int .i64 o.vals.length)),(65,.a (.bool false))],nFnd2 g o (seeT s st o.vals o.vals.length),504⟩):=by
 have htl:t<ts.length:=(List.getElem?_eq_some_iff.1 hs).1
 have hn:=h.n
 refine vbq (S92 ts g o q s st) _ (m:=o.vals.length) (vas (by omega)) (fun i hi=> ?_) ?_
 ·obtain ⟨v,hv'⟩:∃v,o.vals[i]? =some v:=⟨_,List.getElem?_eq_getElem hi⟩
  obtain ⟨b,hb⟩:∃b,(ch s)[i]? =some b:=⟨_,List.getElem?_eq_getElem (by rw [←vck];omega)⟩
  have hx:=vd1 hb
  have hw:=vag i (by omega)
  have hr:refAt s i=decide ((b.toNat:Int)=114):=by simp only [refAt,hb]
  have hI':InvF g.nodes.length (seeT s st o.vals i):=InvF.seeK hI
  unfold round S92 c_spec_l7Found_L2 nFnd2
  rw [vmh hv',hr,ht]
  by_cases c1:(b.toNat:Int)=114
  ·obtain ⟨v0,v1⟩:=hv i v hv' (by rw [hr];exact decide_eq_true c1)
   rw [decide_eq_true c1,if_pos rfl]
   generalize seeT s st o.vals i=st1 at *
   have hle:=hI'.le
   have hlen:=hI'.len
   unfold see1
   by_cases c2:0<v
   ·obtain ⟨k,rfl⟩:∃k:Nat,v=(k:Int)+1:=⟨(v-1).toNat,by omega⟩
    have e1:((k:Int)+1-1).toNat=k:=by omega
    have e2:=vq6 k (by omega)
    obtain ⟨b',hb'⟩:∃b,st1.seen[k]? =some b:=⟨_,List.getElem?_eq_getElem (by omega)⟩
    rw [e1,hb']
    cases b' with
    |true=>
     rw [if_neg (by simp)]
     simp (maxSteps:=3000000) (implicitDefEqProofs:=false) (disch:=first|assumption|(refine ofR ?_;show norm _ _=_;kernel_rfl)|(refine ofR ?_;show okD _ _ _ _=true;kernel_rfl)|exact ofR (by with_unfolding_all rfl)|exact ofB (by with_unfolding_all rfl)|omega|(simp only [go_sem,vab];omega)) only [go_sem,Nat.reduceAdd,Nat.reduceBEq,hv',hx,hs,hw,c1,e2,hb']
     cbv
    |false=>
     rw [if_pos ⟨c2,rfl⟩]
     simp (maxSteps:=3000000) (implicitDefEqProofs:=false) (disch:=first|assumption|(refine ofR ?_;show norm _ _=_;kernel_rfl)|(refine ofR ?_;show okD _ _ _ _=true;kernel_rfl)|exact ofR (by with_unfolding_all rfl)|exact ofB (by with_unfolding_all rfl)|omega|(simp only [go_sem,vab];omega)) only [go_sem,Nat.reduceAdd,Nat.reduceBEq,hv',hx,hs,hw,c1,e2,hb',vgl]
     cbv
   ·obtain rfl:v=0:=by omega
    rw [if_neg (fun h=>c2 h.1)]
    simp (maxSteps:=3000000) (implicitDefEqProofs:=false) (disch:=first|assumption|(refine ofR ?_;show norm _ _=_;kernel_rfl)|(refine ofR ?_;show okD _ _ _ _=true;kernel_rfl)|exact ofR (by with_unfolding_all rfl)|exact ofB (by with_unfolding_all rfl)|omega|(simp only [go_sem,vab];omega)) only [go_sem,Nat.reduceAdd,Nat.reduceBEq,hv',hx,hs,hw,c1,vxi]
    cbv
  ·rw [decide_eq_false c1,if_neg (by simp)]
   generalize seeT s st o.vals i=st1 at *
   simp (maxSteps:=3000000) (implicitDefEqProofs:=false) (disch:=first|assumption|(refine ofR ?_;show norm _ _=_;kernel_rfl)|(refine ofR ?_;show okD _ _ _ _=true;kernel_rfl)|exact ofR (by with_unfolding_all rfl)|exact ofB (by with_unfolding_all rfl)|omega|(simp only [go_sem,vab];omega)) only [go_sem,Nat.reduceAdd,Nat.reduceBEq,hv',hx,hs,hw]
   cbv
 ·unfold round S92 c_spec_l7Found_L2 nFnd2
  simp (maxSteps:=3000000) (implicitDefEqProofs:=false) (disch:=first|assumption|(refine ofR ?_;show norm _ _=_;kernel_rfl)|(refine ofR ?_;show okD _ _ _ _=true;kernel_rfl)|exact ofR (by with_unfolding_all rfl)|exact ofB (by with_unfolding_all rfl)|omega|(simp only [go_sem,vab];omega)) only [go_sem,Nat.reduceAdd,Nat.reduceBEq]
def S91 (ts:List ByteArray) (g:Gr) (i:Nat):St:=⟨[(0,.sz t_string (ts.map eStr)),(3,.rf 0),(5,.rf 1),(6,.rf 2),(9,.a (.int .i64 i))],nFnd g (search ts g i),3⟩
theorem qaw {ts:List ByteArray} {g:Gr} (h:Right ts g):
  loopE Φ fuel [0,3,5,6,9] c_spec_l7Found_L1 (S91 ts g 0)=some (.ext 2,⟨[(0,.sz t_string (ts.map eStr)),(3,.rf 0),(5,.rf 1),(6,.rf 2),(9,.a (.int .i64 (found ts g).length)),(50,.a (.bool false))],nFnd g (search ts g g.nodes.length),403⟩):=by
 have hn:=h.n
 refine vbf (S91 ts g) _ (fun i=>i≤(search ts g i).out.length) (m:=g.nodes.length) (vas (by omega)) (Nat.zero_le _) (by simp) (fun i hi hp=> ?_)
 have hI:=vau ts g i
 have hle:=hI.le
 have hw:=vag i (by omega)
 by_cases hi':i<(search ts g i).out.length
 ·obtain ⟨k,hk⟩:∃k,(search ts g i).out[i]? =some k:=⟨_,List.getElem?_eq_getElem hi'⟩
  have hkn:=hI.low k (List.mem_of_getElem? hk)
  obtain ⟨o,ho⟩:∃o,g.nodes[k]? =some o:=⟨_,List.getElem?_eq_getElem hkn⟩
  obtain ⟨t,s,o1,o2,o3,o4,o5,o6⟩:=h.obj o (List.mem_of_getElem? ho)
  have key:=qae (Φ:=Φ) h i o1 o2 o3 o5 o6 hI
  have e:search ts g (i+1)=seeT s (search ts g i) o.vals o.vals.length:=by
   rw [search];unfold seeN;rw [hk];simp only;rw [ho];simp only
   unfold seeO
   rw [o1,Int.toNat_natCast,o2]
  have hgrow:=vld ts g i
  unfold S92 nFnd2 at key
  rw [show seeT s (search ts g i) o.vals 0=search ts g i from rfl] at key
  refine .inl ⟨by omega,?_,by omega⟩
  unfold round S91 c_spec_l7Found_L1 nFnd
  rw [e]
  generalize seeT s (search ts g i) o.vals o.vals.length=st' at *
  generalize search ts g i=st at *
  simp (maxSteps:=3000000) (implicitDefEqProofs:=false) (disch:=first|assumption|(refine ofR ?_;show norm _ _=_;kernel_rfl)|(refine ofR ?_;show okD _ _ _ _=true;kernel_rfl)|exact ofR (by with_unfolding_all rfl)|exact ofB (by with_unfolding_all rfl)|omega|(simp only [go_sem,vab];omega)) only [go_sem,Nat.reduceAdd,Nat.reduceBEq,hk,ho,hw]
  rw [vah key (by cbv)]
  simp (maxSteps:=3000000) (implicitDefEqProofs:=false) (disch:=first|assumption|(refine ofR ?_;show norm _ _=_;kernel_rfl)|(refine ofR ?_;show okD _ _ _ _=true;kernel_rfl)|exact ofR (by with_unfolding_all rfl)|exact ofB (by with_unfolding_all rfl)|omega|(simp only [go_sem,vab];omega)) only [go_sem,Nat.reduceAdd,Nat.reduceBEq,hw]
  cbv
 ·have hlen:(search ts g i).out.length=i:=by omega
  have hst:=vcl (ts:=ts) (g:=g) (i:=i) (by omega) (g.nodes.length-i)
  rw [show i+(g.nodes.length-i)=g.nodes.length by omega] at hst
  right
  have hf:(found ts g).length=i:=by unfold found;rw [hst];exact hlen
  rw [hf,hst]
  unfold round S91 c_spec_l7Found_L1 nFnd
  generalize search ts g i=st at *
  simp (maxSteps:=3000000) (implicitDefEqProofs:=false) (disch:=first|assumption|(refine ofR ?_;show norm _ _=_;kernel_rfl)|(refine ofR ?_;show okD _ _ _ _=true;kernel_rfl)|exact ofR (by with_unfolding_all rfl)|exact ofB (by with_unfolding_all rfl)|omega|(simp only [go_sem,vab];omega)) only [go_sem,Nat.reduceAdd,Nat.reduceBEq]
theorem vi0 {ts:List ByteArray} {g:Gr} (h:Right ts g):runFn Φ fuel f_spec_l7Found [.sl true t_string (ts.map eStr),cGr true g]=some ([.sl false t_i64 ((found ts g).map eNat)],[]):=by
 have k0:=qb7 (Φ:=Φ) h
 have k1:=qaw (Φ:=Φ) h
 have hn:=h.n
 unfold S90 nFnd at k0
 unfold S91 nFnd at k1
 rw [show seeAll ⟨[],List.replicate g.nodes.length false⟩ (g.roots.take 0)=⟨[],List.replicate g.nodes.length false⟩ from rfl] at k0
 rw [vae rfl]
 unfold found
 have e:List.map eB (List.replicate g.nodes.length false)=List.replicate g.nodes.length (.a (.bool false)):=by rw [List.map_replicate];rfl
 simp only [e,List.map_nil] at k0
 simp (maxSteps:=3000000) (implicitDefEqProofs:=false) (disch:=first|assumption|(refine ofR ?_;show norm _ _=_;kernel_rfl)|(refine ofR ?_;show okD _ _ _ _=true;kernel_rfl)|exact ofR (by with_unfolding_all rfl)|exact ofB (by with_unfolding_all rfl)|omega|(simp only [go_sem,vab];omega)) only [go_sem,Nat.reduceAdd,Nat.reduceBEq,f_spec_l7Found,c_spec_l7Found]
 rw [vah k0 (by cbv)]
 simp (maxSteps:=3000000) (implicitDefEqProofs:=false) (disch:=first|assumption|(refine ofR ?_;show norm _ _=_;kernel_rfl)|(refine ofR ?_;show okD _ _ _ _=true;kernel_rfl)|exact ofR (by with_unfolding_all rfl)|exact ofB (by with_unfolding_all rfl)|omega|(simp only [go_sem,vab];omega)) only [go_sem,Nat.reduceAdd,Nat.reduceBEq]
 generalize search ts g 0=s0 at *
 rw [vah k1 (by cbv)]
 simp (maxSteps:=3000000) (implicitDefEqProofs:=false) (disch:=first|assumption|(refine ofR ?_;show norm _ _=_;kernel_rfl)|(refine ofR ?_;show okD _ _ _ _=true;kernel_rfl)|exact ofR (by with_unfolding_all rfl)|exact ofB (by with_unfolding_all rfl)|omega|(simp only [go_sem,vab];omega)) only [go_sem,Nat.reduceAdd,Nat.reduceBEq]
end Go.Proofs.YteomgghmhicpcaaDoor.VM

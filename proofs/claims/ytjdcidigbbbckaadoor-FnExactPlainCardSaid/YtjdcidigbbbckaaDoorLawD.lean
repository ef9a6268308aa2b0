/- dxc that are discovered: the program's oq. dxc that are discovered: the program's loops. dxc that are discovered: the reference's. -/
import Derived.Test.YtjdcidigbbbckaaDoorLawT
namespace Go.Proofs.YtjdcidigbbbckaaDoor.VM
open Go Sy
variable {Φ:Nat→Option Callee} {N:Nat}
def eNat (x:Nat):PV:= .a (.int .i64 x)
theorem rkj (x:Nat):eNat x= .a (.int .i64 x):=rfl
def eB (b:Bool):PV:= .a (.bool b)
theorem eB_eq (b:Bool):eB b= .a (.bool b):=rfl
attribute [go_sem] rkj eB_eq
structure Fd where
 out:List Nat
 seen:List Bool
def see1 (st:Fd) (v:Int):Fd:=if 0<v∧st.seen[(v - 1).toNat]? =some false then ⟨st.out++ [(v - 1).toNat],st.seen.set (v - 1).toNat true⟩ else st
def tze:List Bool→Nat
 | []=>0
 |b::l=>(if b then 0 else 1)+tze l
theorem xzf: ∀{l:List Bool} {i:Nat},l[i]? =some false→tze (l.set i true)+1=tze l
 | [],i,h=>by cases h
 |b::l,0,h=>by
  simp only [List.getElem?_cons_zero,Option.some.injEq] at h
  subst h
  simp [tze];omega
 |b::l,i+1,h=>by
  rw [List.getElem?_cons_succ] at h
  have:=xzf h
  simp only [List.set_cons_succ,tze]
  omega
theorem pzh (n:Nat):tze (List.replicate n false)=n:=by
 induction n with
 |zero=>rfl
 |succ n ih=>rw [List.replicate_succ,tze,ih];simp;omega
structure InvF (n:Nat) (st:Fd):Prop where
 len:st.seen.length=n
 cnt:st.out.length+tze st.seen=n
 low: ∀x∈st.out,x<n
 nod:st.out.Nodup
 mem: ∀x,x∈st.out→st.seen[x]? =some true
theorem InvF.le {n:Nat} {st:Fd} (h:InvF n st):st.out.length≤n:=by have:=h.cnt;omega
theorem InvF.see {n:Nat} {st:Fd} (h:InvF n st) (v:Int):InvF n (see1 st v):=by
 unfold see1
 split
 ·rename_i hc
  obtain ⟨hi,hb⟩:=List.getElem?_eq_some_iff.1 hc.2
  have hnew:(v - 1).toNat ∉ st.out:=fun hm=>by have:=h.mem _ hm;rw [hc.2] at this;cases this
  refine ⟨by rw [List.length_set];exact h.len,?_,?_,?_,?_⟩
  ·have:=xzf hc.2
   have h1:=h.cnt
   simp only [List.length_append,List.length_cons,List.length_nil]
   omega
  ·intro x hx
   rcases List.mem_append.1 hx with hx|hx
   ·exact h.low x hx
   ·simp only [List.mem_singleton] at hx;subst hx;rw [←h.len];exact hi
  ·rw [List.nodup_append]
   refine ⟨h.nod,by simp,fun a ha b hb e=> ?_⟩
   simp only [List.mem_singleton] at hb
   subst hb;subst e
   exact hnew ha
  ·intro x hx
   rw [List.getElem?_set]
   rcases List.mem_append.1 hx with hx|hx
   ·by_cases he:(v - 1).toNat=x
    ·subst he;exact absurd hx hnew
    ·rw [if_neg he];exact h.mem x hx
   ·simp only [List.mem_singleton] at hx
    subst hx
    rw [if_pos rfl,if_pos hi]
 ·exact h
def zxc (st:Fd) (l:List Int):Fd:=l.foldl see1 st
theorem InvF.all {n:Nat}: ∀{l:List Int} {st:Fd},InvF n st→InvF n (zxc st l)
 | [],_,h=>h
 |v::l,_,h=>InvF.all (l:=l) (h.see v)
theorem axe {st:Fd} {l:List Int} {i:Nat} {v:Int} (h:l[i]? =some v):zxc st (l.take (i+1))=see1 (zxc st (l.take i)) v:=by
 unfold zxc
 rw [List.take_add_one,h,List.foldl_append];rfl
def oxk (s:ByteArray):Nat→List Int→List Int
 |_,[]=> []
 |k,v::l=>(if bqc s k then [v] else [])++oxk s (k+1) l
def seeK (s:ByteArray) (st:Fd):Nat→List Int→Fd
 |_,[]=>st
 |k,v::l=>seeK s (if bqc s k then see1 st v else st) (k+1) l
def seeT (s:ByteArray) (st:Fd) (vals:List Int) (i:Nat):Fd:=seeK s st 0 (vals.take i)
theorem zqe {s:ByteArray}: ∀{l l':List Int} {k:Nat} {st:Fd},seeK s st k (l++l')=seeK s (seeK s st k l) (k+l.length) l'
 | [],l',k,st=>rfl
 |v::l,l',k,st=>by
  rw [List.cons_append,seeK,seeK,zqe,List.length_cons,show k+1+l.length=k+(l.length+1) by omega]
theorem ukf {s:ByteArray} {st:Fd} {vals:List Int} {i:Nat} {v:Int} (h:vals[i]? =some v):seeT s st vals (i+1)=if bqc s i then see1 (seeT s st vals i) v else seeT s st vals i:=by
 unfold seeT
 have hi:i<vals.length:=(List.getElem?_eq_some_iff.1 h).1
 rw [List.take_add_one,h,zqe]
 simp only [Option.toList_some,seeK,List.length_take,Nat.zero_add,Nat.min_eq_left (Nat.le_of_lt hi)]
theorem InvF.seeK {n:Nat} {s:ByteArray}: ∀{l:List Int} {k:Nat} {st:Fd},InvF n st→InvF n (seeK s st k l)
 | [],_,_,h=>h
 |v::l,k,st,h=>by
  rw [VM.seeK]
  refine InvF.seeK (l:=l) ?_
  split
  ·exact h.see v
  ·exact h
def seeO (ts:List ByteArray) (st:Fd) (o:Obj'):Fd:=match ts[o.ty.toNat]? with
 |some s=>seeT s st o.vals o.vals.length
 |none=>st
def seeN (ts:List ByteArray) (g:Gr) (st:Fd) (i:Nat):Fd:=match st.out[i]? with
 |some k=>(match g.nodes[k]? with
  |some o=>seeO ts st o
  |none=>st)
 |none=>st
def oq (ts:List ByteArray) (g:Gr):Nat→Fd
 |0=>zxc ⟨[],List.replicate g.nodes.length false⟩ g.roots
 |i+1=>seeN ts g (oq ts g i) i
theorem ekj (n:Nat):InvF n ⟨[],List.replicate n false⟩:=⟨by simp,by simp [pzh],by simp,by simp,by simp⟩
theorem InvF.seeO {n:Nat} {ts:List ByteArray} {st:Fd} (h:InvF n st) (o:Obj'):InvF n (seeO ts st o):=by
 unfold VM.seeO
 split
 ·exact InvF.seeK h
 ·exact h
theorem ezc (ts:List ByteArray) (g:Gr): ∀i,InvF g.nodes.length (oq ts g i)
 |0=>InvF.all (ekj _)
 |i+1=>by
  rw [oq]
  unfold seeN
  split
  ·split
   ·exact (ezc ts g i).seeO _
   ·exact ezc ts g i
  ·exact ezc ts g i
theorem qqd {ts:List ByteArray} {g:Gr} {i:Nat} (h:(oq ts g i).out.length≤i): ∀j,oq ts g (i+j)=oq ts g i
 |0=>rfl
 |j+1=>by
  rw [show i+(j+1)=(i+j)+1 by omega,oq,qqd h j]
  unfold seeN
  rw [List.getElem?_eq_none (by omega)]
def dqc (ts:List ByteArray) (g:Gr):List Nat:=(oq ts g g.nodes.length).out
theorem gze (l:List Bool) (i:Nat):(l.map eB).set i (.a (.bool true))=(l.set i true).map eB:=by rw [List.map_set];rfl
theorem nxh {n:Nat} {st:Fd} (h:InvF n st) (hn:n≤1048576) {v:Int} (hv:v≤(n:Int)) (hlo: -9223372036854775807≤v):
 uz Φ N rq [.a (.int .i64 v),.bx false [.sl false tqc (st.seen.map eB)],.bx false [.sl false nz (st.out.map eNat)]]=
 some ([],[.bx false [.sl false tqc ((see1 st v).seen.map eB)],.bx false [.sl false nz ((see1 st v).out.map eNat)]]):=by
 have hle:=h.le
 have hlen:=h.len
 rw [bq rfl]
 unfold see1
 by_cases c1:0<v
 ·obtain ⟨k,rfl⟩: ∃k:Nat,v=(k:Int)+1:=⟨(v - 1).toNat,by omega⟩
  have e1:((k:Int)+1 - 1).toNat=k:=by omega
  have e2:IntKind.i64.wrap ((k:Int)+1 - 1)=k:=by rw [vzb]<;>omega
  obtain ⟨b,hb⟩: ∃b,st.seen[k]? =some b:=⟨_,List.getElem?_eq_getElem (by omega)⟩
  rw [e1,hb]
  cases b with
  |true=>
   rw [if_neg (by simp)]
   simp (maxSteps:=3000000) (implicitDefEqProofs:=false) (disch:=first|assumption|(refine ofR ?_;show norm _ _=_;kernel_rfl)|(refine ofR ?_;show okD _ _ _ _=true;kernel_rfl)|exact ofR (by with_unfolding_all rfl)|exact ofB (by with_unfolding_all rfl)|omega|(simp only [go_sem,bz];omega)) only [go_sem,Nat.reduceAdd,Nat.reduceBEq,rq,iqb,e2,hb]
  |false=>
   rw [if_pos ⟨c1,rfl⟩]
   simp (maxSteps:=3000000) (implicitDefEqProofs:=false) (disch:=first|assumption|(refine ofR ?_;show norm _ _=_;kernel_rfl)|(refine ofR ?_;show okD _ _ _ _=true;kernel_rfl)|exact ofR (by with_unfolding_all rfl)|exact ofB (by with_unfolding_all rfl)|omega|(simp only [go_sem,bz];omega)) only [go_sem,Nat.reduceAdd,Nat.reduceBEq,rq,iqb,e2,hb,gze]
 ·rw [if_neg (fun h=>c1 h.1)]
  simp (maxSteps:=3000000) (implicitDefEqProofs:=false) (disch:=first|assumption|(refine ofR ?_;show norm _ _=_;kernel_rfl)|(refine ofR ?_;show okD _ _ _ _=true;kernel_rfl)|exact ofR (by with_unfolding_all rfl)|exact ofB (by with_unfolding_all rfl)|omega|(simp only [go_sem,bz];omega)) only [go_sem,Nat.reduceAdd,Nat.reduceBEq,rq,iqb]
end Go.Proofs.YtjdcidigbbbckaaDoor.VM
namespace Go.Proofs.YtjdcidigbbbckaaDoor.VM
open Go Sy
variable {Φ:Nat→Option Callee} {N:Nat}
structure Right (ts:List ByteArray) (g:Gr):Prop where
 small:Small ts g
 n:g.nodes.length≤400
 r:g.roots.length≤40
 roots: ∀v∈g.roots,0≤v∧v≤(g.nodes.length:Int)
 obj: ∀o∈g.nodes,∃(t:Nat) (s:ByteArray),o.ty=(t:Int)∧ts[t]? =some s∧o.vals.length=s.size∧1≤s.size∧s.size≤23∧ ∀(j:Nat) v,o.vals[j]? =some v→bqc s j=true→0≤v∧v≤(g.nodes.length:Int)
 ty:ts.length≤12
theorem Right.of {ts:List ByteArray} {g:Gr} (hs:Small ts g) (h:xkc ts g=true):Right ts g:=by
 unfold xkc at h
 simp only [Bool.and_eq_true,decide_eq_true_eq,List.all_eq_true] at h
 obtain ⟨h1,h2,h3,h4,h5⟩:=h
 unfold qzd at h1
 simp only [Bool.and_eq_true,decide_eq_true_eq,List.all_eq_true] at h1
 refine ⟨hs,h3,h2,fun v hv=> ?_,fun o ho=> ?_,h1.1.2⟩
 ·have:=h4 v hv
  rwa [isN,decide_eq_true_eq] at this
 ·have:=h5 o ho
  unfold okb at this
  split at this
  ·rename_i s hs'
   simp only [Bool.and_eq_true,decide_eq_true_eq] at this
   obtain ⟨k1,k2,k3⟩:=this
   have hsz:=h1.2 s (List.mem_of_getElem? hs')
   unfold jqb at hsz
   simp only [Bool.and_eq_true,decide_eq_true_eq] at hsz
   refine ⟨o.ty.toNat,s,by omega,hs',k2,hsz.1.1,hsz.1.2,fun j v hv hr=> ?_⟩
   have hb:=rqc.1 k3 j v hv
   rw [Nat.zero_add,badV,hr] at hb
   simp only [Bool.true_and,Bool.not_eq_false'] at hb
   rwa [isN,decide_eq_true_eq] at hb
  ·cases this
theorem jxi (st:Fd) (v:Int):st.out.length≤(see1 st v).out.length:=by
 unfold see1
 split
 ·simp
 ·exact Nat.le_refl _
theorem akg {s:ByteArray}: ∀{l:List Int} {k:Nat} {st:Fd},st.out.length≤(seeK s st k l).out.length
 | [],_,_=>Nat.le_refl _
 |v::l,k,st=>by
  rw [seeK]
  refine Nat.le_trans ?_ akg
  split
  ·exact jxi _ _
  ·exact Nat.le_refl _
theorem gjf (ts:List ByteArray) (g:Gr) (i:Nat):(oq ts g i).out.length≤(oq ts g (i+1)).out.length:=by
 rw [oq]
 unfold seeN
 split
 ·split
  ·unfold seeO
   split
   ·exact akg
   ·exact Nat.le_refl _
  ·exact Nat.le_refl _
 ·exact Nat.le_refl _
abbrev fSee:TV:= .fn ezb [] [.rf 2,.rf 1]
abbrev nSee (g:Gr) (st:Fd):List (Nat×Option Node):= [(0,some (.bx false (uGr g))),(1,some (.bx false [.rf 3])),(2,some (.bx false [.rf 4])),(3,some (.sl false 0 nz (st.out.map eNat))),(4,some (.sl false 0 tqc (st.seen.map eB)))]
def S80 (ts:List ByteArray) (g:Gr) (i:Nat):St:=⟨[(0,.sz lz (ts.map eStr)),(3,.rf 0),(5,.rf 1),(7,fSee),(21,.sz nz (g.roots.map eInt)),(22,.a (.int .i64 g.roots.length)),(23,.a (.int .i64 i))],nSee g (zxc ⟨[],List.replicate g.nodes.length false⟩ (g.roots.take i)),5⟩
theorem ukj {d:Nat} {ts:List ByteArray} {g:Gr} (h:Right ts g):
 mjb (T (d+1)) fuel [0,3,5,7,21,22,23] uk (S80 ts g 0)=some (.ext 0,⟨[(0,.sz lz (ts.map eStr)),(3,.rf 0),(5,.rf 1),(7,fSee),(21,.sz nz (g.roots.map eInt)),(22,.a (.int .i64 g.roots.length)),(23,.a (.int .i64 g.roots.length)),(24,.a (.bool false))],nSee g (oq ts g 0),105⟩):=by
 have hr:=h.r
 have hn:=h.n
 have:=lx (Φ:=T (d+1)) (N:=fuel) (live:= [0,3,5,7,21,22,23]) (b:=uk) (id:=0) (S80 ts g) ⟨[(0,.sz lz (ts.map eStr)),(3,.rf 0),(5,.rf 1),(7,fSee),(21,.sz nz (g.roots.map eInt)),(22,.a (.int .i64 g.roots.length)),(23,.a (.int .i64 g.roots.length)),(24,.a (.bool false))],nSee g (oq ts g 0),105⟩ (m:=g.roots.length) (cq (by omega)) (fun i hi=> ?_) ?_
 ·exact this
 ·obtain ⟨v,hv⟩: ∃v,g.roots[i]? =some v:=⟨_,List.getElem?_eq_getElem hi⟩
  obtain ⟨v0,v1⟩:=h.roots v (List.mem_of_getElem? hv)
  have hI:InvF g.nodes.length (zxc ⟨[],List.replicate g.nodes.length false⟩ (g.roots.take i)):=InvF.all (ekj _)
  have hc:=nxh (Φ:=T d) (N:=fuel) hI (by omega) v1 (by omega)
  have hw:=vz i (by omega)
  unfold ij S80 uk nSee fSee
  rw [axe hv]
  generalize zxc ⟨[],List.replicate g.nodes.length false⟩ (g.roots.take i)=st at*
  generalize see1 st v=st' at*
  simp (maxSteps:=3000000) (implicitDefEqProofs:=false) (disch:=first|assumption|(refine ofR ?_;show norm _ _=_;kernel_rfl)|(refine ofR ?_;show okD _ _ _ _=true;kernel_rfl)|exact ofR (by with_unfolding_all rfl)|exact ofB (by with_unfolding_all rfl)|omega|(simp only [go_sem,bz];omega)) only [go_sem,Nat.reduceAdd,Nat.reduceBEq,hv,hc,hw]
  cbv
 ·unfold ij S80 uk nSee fSee
  rw [List.take_length]
  simp (maxSteps:=3000000) (implicitDefEqProofs:=false) (disch:=first|assumption|(refine ofR ?_;show norm _ _=_;kernel_rfl)|(refine ofR ?_;show okD _ _ _ _=true;kernel_rfl)|exact ofR (by with_unfolding_all rfl)|exact ofB (by with_unfolding_all rfl)|omega|(simp only [go_sem,bz];omega)) only [go_sem,Nat.reduceAdd,Nat.reduceBEq,oq]
abbrev uxi (g:Gr) (o:Obj') (st:Fd):List (Nat×Option Node):= [(0,some (.bx false (uGr g))),(1,some (.bx false [.rf 4])),(2,some (.bx false [.rf 5])),(3,some (.bx false [.a (.int .i64 o.ty),.sz nz (o.vals.map eInt)])),(4,some (.sl false 0 nz (st.out.map eNat))),(5,some (.sl false 0 tqc (st.seen.map eB)))]
def S82 (ts:List ByteArray) (g:Gr) (o:Obj') (q:Nat) (s:ByteArray) (st:Fd) (i:Nat):St:=⟨[(0,.sz lz (ts.map eStr)),(3,.rf 0),(5,.rf 1),(7,fSee),(10,.a (.int .i64 q)),(11,.rf 3),(46,.sz nz (o.vals.map eInt)),(47,.a (.int .i64 o.vals.length)),(48,.a (.int .i64 i))],uxi g o (seeT s st o.vals i),6⟩
theorem skj {d:Nat} {ts:List ByteArray} {g:Gr} (h:Right ts g) {o:Obj'} (q:Nat) {t:Nat} {s:ByteArray} (ht:o.ty=(t:Int)) (hs:ts[t]? =some s) (hz:o.vals.length=s.size) (hss:s.size≤23) (hv: ∀(j:Nat) v,o.vals[j]? =some v→bqc s j=true→0≤v∧v≤(g.nodes.length:Int)) {st:Fd} (hI:InvF g.nodes.length st):
 mjb (T (d+1)) fuel [0,3,5,7,10,11,46,47,48] pjb (S82 ts g o q s st 0)=some (.ext 4,⟨[(0,.sz lz (ts.map eStr)),(3,.rf 0),(5,.rf 1),(7,fSee),(10,.a (.int .i64 q)),(11,.rf 3),(46,.sz nz (o.vals.map eInt)),(47,.a (.int .i64 o.vals.length)),(48,.a (.int .i64 o.vals.length)),(49,.a (.bool false))],uxi g o (seeT s st o.vals o.vals.length),106⟩):=by
 have htl:t<ts.length:=(List.getElem?_eq_some_iff.1 hs).1
 have hn:=h.n
 refine lx (S82 ts g o q s st) _ (m:=o.vals.length) (cq (by omega)) (fun i hi=> ?_) ?_
 ·obtain ⟨v,hv'⟩: ∃v,o.vals[i]? =some v:=⟨_,List.getElem?_eq_getElem hi⟩
  obtain ⟨b,hb⟩: ∃b,(ch s)[i]? =some b:=⟨_,List.getElem?_eq_getElem (by rw [←qkc];omega)⟩
  have hx:=lke hb
  have hw:=vz i (by omega)
  have hr:bqc s i=decide ((b.toNat:Int)=114):=by simp only [bqc,hb]
  have hI':InvF g.nodes.length (seeT s st o.vals i):=InvF.seeK hI
  unfold ij S82 pjb uxi fSee
  rw [ukf hv',hr,ht]
  by_cases c1:(b.toNat:Int)=114
  ·obtain ⟨v0,v1⟩:=hv i v hv' (by rw [hr];exact decide_eq_true c1)
   have hc:=nxh (Φ:=T d) (N:=fuel) hI' (by omega) v1 (by omega)
   rw [decide_eq_true c1,if_pos rfl]
   generalize seeT s st o.vals i=st1 at*
   generalize see1 st1 v=st' at*
   simp (maxSteps:=3000000) (implicitDefEqProofs:=false) (disch:=first|assumption|(refine ofR ?_;show norm _ _=_;kernel_rfl)|(refine ofR ?_;show okD _ _ _ _=true;kernel_rfl)|exact ofR (by with_unfolding_all rfl)|exact ofB (by with_unfolding_all rfl)|omega|(simp only [go_sem,bz];omega)) only [go_sem,Nat.reduceAdd,Nat.reduceBEq,hv',hx,hs,hc,hw,c1]
   cbv
  ·rw [decide_eq_false c1,if_neg (by simp)]
   generalize seeT s st o.vals i=st1 at*
   simp (maxSteps:=3000000) (implicitDefEqProofs:=false) (disch:=first|assumption|(refine ofR ?_;show norm _ _=_;kernel_rfl)|(refine ofR ?_;show okD _ _ _ _=true;kernel_rfl)|exact ofR (by with_unfolding_all rfl)|exact ofB (by with_unfolding_all rfl)|omega|(simp only [go_sem,bz];omega)) only [go_sem,Nat.reduceAdd,Nat.reduceBEq,hv',hx,hs,hw]
   cbv
 ·unfold ij S82 pjb
  simp (maxSteps:=3000000) (implicitDefEqProofs:=false) (disch:=first|assumption|(refine ofR ?_;show norm _ _=_;kernel_rfl)|(refine ofR ?_;show okD _ _ _ _=true;kernel_rfl)|exact ofR (by with_unfolding_all rfl)|exact ofB (by with_unfolding_all rfl)|omega|(simp only [go_sem,bz];omega)) only [go_sem,Nat.reduceAdd,Nat.reduceBEq]
def S81 (ts:List ByteArray) (g:Gr) (i:Nat):St:=⟨[(0,.sz lz (ts.map eStr)),(3,.rf 0),(5,.rf 1),(7,fSee),(10,.a (.int .i64 i))],nSee g (oq ts g i),5⟩
theorem tkj {d:Nat} {ts:List ByteArray} {g:Gr} (h:Right ts g):
 mjb (T (d+1)) fuel [0,3,5,7,10] qjb (S81 ts g 0)=some (.ext 2,⟨[(0,.sz lz (ts.map eStr)),(3,.rf 0),(5,.rf 1),(7,fSee),(10,.a (.int .i64 (dqc ts g).length)),(34,.a (.bool false))],nSee g (oq ts g g.nodes.length),405⟩):=by
 have hn:=h.n
 refine ck (S81 ts g) _ (fun i=>i≤(oq ts g i).out.length) (m:=g.nodes.length) (cq (by omega)) (Nat.zero_le _) (by simp) (fun i hi hp=> ?_)
 have hI:=ezc ts g i
 have hle:=hI.le
 have hw:=vz i (by omega)
 by_cases hi':i<(oq ts g i).out.length
 ·obtain ⟨k,hk⟩: ∃k,(oq ts g i).out[i]? =some k:=⟨_,List.getElem?_eq_getElem hi'⟩
  have hkn:=hI.low k (List.mem_of_getElem? hk)
  obtain ⟨o,ho⟩: ∃o,g.nodes[k]? =some o:=⟨_,List.getElem?_eq_getElem hkn⟩
  obtain ⟨t,s,o1,o2,o3,o4,o5,o6⟩:=h.obj o (List.mem_of_getElem? ho)
  have key:=skj (d:=d) h i o1 o2 o3 o5 o6 hI
  have e:oq ts g (i+1)=seeT s (oq ts g i) o.vals o.vals.length:=by
   rw [oq];unfold seeN;rw [hk];simp only;rw [ho];simp only
   unfold seeO
   rw [o1,Int.toNat_natCast,o2]
  have hgrow:=gjf ts g i
  unfold S82 uxi fSee at key
  rw [show seeT s (oq ts g i) o.vals 0=oq ts g i from rfl] at key
  refine .inl ⟨by omega,?_,by omega⟩
  unfold ij S81 qjb nSee fSee
  rw [e]
  generalize seeT s (oq ts g i) o.vals o.vals.length=st' at*
  generalize oq ts g i=st at*
  simp (maxSteps:=3000000) (implicitDefEqProofs:=false) (disch:=first|assumption|(refine ofR ?_;show norm _ _=_;kernel_rfl)|(refine ofR ?_;show okD _ _ _ _=true;kernel_rfl)|exact ofR (by with_unfolding_all rfl)|exact ofB (by with_unfolding_all rfl)|omega|(simp only [go_sem,bz];omega)) only [go_sem,Nat.reduceAdd,Nat.reduceBEq,hk,ho,hw]
  rw [dq key (by cbv)]
  simp (maxSteps:=3000000) (implicitDefEqProofs:=false) (disch:=first|assumption|(refine ofR ?_;show norm _ _=_;kernel_rfl)|(refine ofR ?_;show okD _ _ _ _=true;kernel_rfl)|exact ofR (by with_unfolding_all rfl)|exact ofB (by with_unfolding_all rfl)|omega|(simp only [go_sem,bz];omega)) only [go_sem,Nat.reduceAdd,Nat.reduceBEq,hw]
  cbv
 ·have hlen:(oq ts g i).out.length=i:=by omega
  have hst:=qqd (ts:=ts) (g:=g) (i:=i) (by omega) (g.nodes.length - i)
  rw [show i+(g.nodes.length - i)=g.nodes.length by omega] at hst
  right
  have hf:(dqc ts g).length=i:=by unfold dqc;rw [hst];exact hlen
  rw [hf,hst]
  unfold ij S81 qjb nSee fSee
  generalize oq ts g i=st at*
  simp (maxSteps:=3000000) (implicitDefEqProofs:=false) (disch:=first|assumption|(refine ofR ?_;show norm _ _=_;kernel_rfl)|(refine ofR ?_;show okD _ _ _ _=true;kernel_rfl)|exact ofR (by with_unfolding_all rfl)|exact ofB (by with_unfolding_all rfl)|omega|(simp only [go_sem,bz];omega)) only [go_sem,Nat.reduceAdd,Nat.reduceBEq]
theorem kzf {d:Nat} {ts:List ByteArray} {g:Gr} (h:Right ts g):uz (T (d+1)) fuel czb [.sl true lz (ts.map eStr),cGr true g]=some ([.sl false nz ((dqc ts g).map eNat)],[]):=by
 have k0:=ukj (d:=d) h
 have k1:=tkj (d:=d) h
 have hn:=h.n
 unfold S80 nSee fSee at k0
 unfold S81 nSee fSee at k1
 rw [show zxc ⟨[],List.replicate g.nodes.length false⟩ (g.roots.take 0)=⟨[],List.replicate g.nodes.length false⟩ from rfl] at k0
 rw [bq rfl]
 unfold dqc
 have e:List.map eB (List.replicate g.nodes.length false)=List.replicate g.nodes.length (.a (.bool false)):=by rw [List.map_replicate];rfl
 simp only [e,List.map_nil] at k0
 simp (maxSteps:=3000000) (implicitDefEqProofs:=false) (disch:=first|assumption|(refine ofR ?_;show norm _ _=_;kernel_rfl)|(refine ofR ?_;show okD _ _ _ _=true;kernel_rfl)|exact ofR (by with_unfolding_all rfl)|exact ofB (by with_unfolding_all rfl)|omega|(simp only [go_sem,bz];omega)) only [go_sem,Nat.reduceAdd,Nat.reduceBEq,czb,ikc]
 rw [dq k0 (by cbv)]
 simp (maxSteps:=3000000) (implicitDefEqProofs:=false) (disch:=first|assumption|(refine ofR ?_;show norm _ _=_;kernel_rfl)|(refine ofR ?_;show okD _ _ _ _=true;kernel_rfl)|exact ofR (by with_unfolding_all rfl)|exact ofB (by with_unfolding_all rfl)|omega|(simp only [go_sem,bz];omega)) only [go_sem,Nat.reduceAdd,Nat.reduceBEq]
 generalize oq ts g 0=s0 at*
 rw [dq k1 (by cbv)]
 simp (maxSteps:=3000000) (implicitDefEqProofs:=false) (disch:=first|assumption|(refine ofR ?_;show norm _ _=_;kernel_rfl)|(refine ofR ?_;show okD _ _ _ _=true;kernel_rfl)|exact ofR (by with_unfolding_all rfl)|exact ofB (by with_unfolding_all rfl)|omega|(simp only [go_sem,bz];omega)) only [go_sem,Nat.reduceAdd,Nat.reduceBEq]
end Go.Proofs.YtjdcidigbbbckaaDoor.VM
namespace Go.Proofs.YtjdcidigbbbckaaDoor.VM
open Go Sy
variable {Φ:Nat→Option Callee} {N:Nat}
abbrev nFnd (g:Gr) (st:Fd):List (Nat×Option Node):= [(0,some (.bx false (uGr g))),(1,some (.sl false 0 nz (st.out.map eNat))),(2,some (.sl false 0 tqc (st.seen.map eB)))]
def S90 (ts:List ByteArray) (g:Gr) (i:Nat):St:=⟨[(0,.sz lz (ts.map eStr)),(3,.rf 0),(5,.rf 1),(6,.rf 2),(7,.a (.int .i64 i))],nFnd g (zxc ⟨[],List.replicate g.nodes.length false⟩ (g.roots.take i)),3⟩
theorem exh (k:Nat) (h:k≤1048576):IntKind.i64.wrap ((k:Int)+1 - 1)=k:=by rw [vzb]<;>omega
theorem gqk:IntKind.i64.wrap ((0:Int)- 1)= -1:=by decide
theorem kjl {ts:List ByteArray} {g:Gr} (h:Right ts g):
 mjb Φ fuel [0,3,5,6,7] fkb (S90 ts g 0)=some (.ext 0,⟨[(0,.sz lz (ts.map eStr)),(3,.rf 0),(5,.rf 1),(6,.rf 2),(7,.a (.int .i64 g.roots.length)),(22,.a (.bool false))],nFnd g (oq ts g 0),503⟩):=by
 have hr:=h.r
 have hn:=h.n
 refine lx (S90 ts g) _ (m:=g.roots.length) (cq (by omega)) (fun i hi=> ?_) ?_
 ·obtain ⟨v,hv⟩: ∃v,g.roots[i]? =some v:=⟨_,List.getElem?_eq_getElem hi⟩
  obtain ⟨v0,v1⟩:=h.roots v (List.mem_of_getElem? hv)
  have hI:InvF g.nodes.length (zxc ⟨[],List.replicate g.nodes.length false⟩ (g.roots.take i)):=InvF.all (ekj _)
  have hw:=vz i (by omega)
  unfold ij S90 fkb nFnd
  rw [axe hv]
  generalize zxc ⟨[],List.replicate g.nodes.length false⟩ (g.roots.take i)=st at*
  have hle:=hI.le
  have hlen:=hI.len
  unfold see1
  by_cases c1:0<v
  ·obtain ⟨k,rfl⟩: ∃k:Nat,v=(k:Int)+1:=⟨(v - 1).toNat,by omega⟩
   have e1:((k:Int)+1 - 1).toNat=k:=by omega
   have e2:=exh k (by omega)
   obtain ⟨b,hb⟩: ∃b,st.seen[k]? =some b:=⟨_,List.getElem?_eq_getElem (by omega)⟩
   rw [e1,hb]
   cases b with
   |true=>
    rw [if_neg (by simp)]
    simp (maxSteps:=3000000) (implicitDefEqProofs:=false) (disch:=first|assumption|(refine ofR ?_;show norm _ _=_;kernel_rfl)|(refine ofR ?_;show okD _ _ _ _=true;kernel_rfl)|exact ofR (by with_unfolding_all rfl)|exact ofB (by with_unfolding_all rfl)|omega|(simp only [go_sem,bz];omega)) only [go_sem,Nat.reduceAdd,Nat.reduceBEq,hv,hw,e2,hb]
    cbv
   |false=>
    rw [if_pos ⟨c1,rfl⟩]
    simp (maxSteps:=3000000) (implicitDefEqProofs:=false) (disch:=first|assumption|(refine ofR ?_;show norm _ _=_;kernel_rfl)|(refine ofR ?_;show okD _ _ _ _=true;kernel_rfl)|exact ofR (by with_unfolding_all rfl)|exact ofB (by with_unfolding_all rfl)|omega|(simp only [go_sem,bz];omega)) only [go_sem,Nat.reduceAdd,Nat.reduceBEq,hv,hw,e2,hb,gze]
    cbv
  ·obtain rfl:v=0:=by omega
   rw [if_neg (fun h=>c1 h.1)]
   simp (maxSteps:=3000000) (implicitDefEqProofs:=false) (disch:=first|assumption|(refine ofR ?_;show norm _ _=_;kernel_rfl)|(refine ofR ?_;show okD _ _ _ _=true;kernel_rfl)|exact ofR (by with_unfolding_all rfl)|exact ofB (by with_unfolding_all rfl)|omega|(simp only [go_sem,bz];omega)) only [go_sem,Nat.reduceAdd,Nat.reduceBEq,hv,hw,gqk]
   cbv
 ·unfold ij S90 fkb nFnd
  rw [List.take_length]
  simp (maxSteps:=3000000) (implicitDefEqProofs:=false) (disch:=first|assumption|(refine ofR ?_;show norm _ _=_;kernel_rfl)|(refine ofR ?_;show okD _ _ _ _=true;kernel_rfl)|exact ofR (by with_unfolding_all rfl)|exact ofB (by with_unfolding_all rfl)|omega|(simp only [go_sem,bz];omega)) only [go_sem,Nat.reduceAdd,Nat.reduceBEq,oq]
abbrev azi (g:Gr) (o:Obj') (st:Fd):List (Nat×Option Node):= [(0,some (.bx false (uGr g))),(1,some (.sl false 0 nz (st.out.map eNat))),(2,some (.sl false 0 tqc (st.seen.map eB))),(3,some (.bx false [.a (.int .i64 o.ty),.sz nz (o.vals.map eInt)]))]
def S92 (ts:List ByteArray) (g:Gr) (o:Obj') (q:Nat) (s:ByteArray) (st:Fd) (i:Nat):St:=⟨[(0,.sz lz (ts.map eStr)),(3,.rf 0),(5,.rf 1),(6,.rf 2),(9,.a (.int .i64 q)),(10,.rf 3),(11,.a (.int .i64 i))],azi g o (seeT s st o.vals i),4⟩
theorem ijl {ts:List ByteArray} {g:Gr} (h:Right ts g) {o:Obj'} (q:Nat) {t:Nat} {s:ByteArray} (ht:o.ty=(t:Int)) (hs:ts[t]? =some s) (hz:o.vals.length=s.size) (hss:s.size≤23) (hv: ∀(j:Nat) v,o.vals[j]? =some v→bqc s j=true→0≤v∧v≤(g.nodes.length:Int)) {st:Fd} (hI:InvF g.nodes.length st):
 mjb Φ fuel [0,3,5,6,9,10,11] dkb (S92 ts g o q s st 0)=some (.ext 4,⟨[(0,.sz lz (ts.map eStr)),(3,.rf 0),(5,.rf 1),(6,.rf 2),(9,.a (.int .i64 q)),(10,.rf 3),(11,.a (.int .i64 o.vals.length)),(65,.a (.bool false))],azi g o (seeT s st o.vals o.vals.length),504⟩):=by
 have htl:t<ts.length:=(List.getElem?_eq_some_iff.1 hs).1
 have hn:=h.n
 refine lx (S92 ts g o q s st) _ (m:=o.vals.length) (cq (by omega)) (fun i hi=> ?_) ?_
 ·obtain ⟨v,hv'⟩: ∃v,o.vals[i]? =some v:=⟨_,List.getElem?_eq_getElem hi⟩
  obtain ⟨b,hb⟩: ∃b,(ch s)[i]? =some b:=⟨_,List.getElem?_eq_getElem (by rw [←qkc];omega)⟩
  have hx:=lke hb
  have hw:=vz i (by omega)
  have hr:bqc s i=decide ((b.toNat:Int)=114):=by simp only [bqc,hb]
  have hI':InvF g.nodes.length (seeT s st o.vals i):=InvF.seeK hI
  unfold ij S92 dkb azi
  rw [ukf hv',hr,ht]
  by_cases c1:(b.toNat:Int)=114
  ·obtain ⟨v0,v1⟩:=hv i v hv' (by rw [hr];exact decide_eq_true c1)
   rw [decide_eq_true c1,if_pos rfl]
   generalize seeT s st o.vals i=st1 at*
   have hle:=hI'.le
   have hlen:=hI'.len
   unfold see1
   by_cases c2:0<v
   ·obtain ⟨k,rfl⟩: ∃k:Nat,v=(k:Int)+1:=⟨(v - 1).toNat,by omega⟩
    have e1:((k:Int)+1 - 1).toNat=k:=by omega
    have e2:=exh k (by omega)
    obtain ⟨b',hb'⟩: ∃b,st1.seen[k]? =some b:=⟨_,List.getElem?_eq_getElem (by omega)⟩
    rw [e1,hb']
    cases b' with
    |true=>
     rw [if_neg (by simp)]
     simp (maxSteps:=3000000) (implicitDefEqProofs:=false) (disch:=first|assumption|(refine ofR ?_;show norm _ _=_;kernel_rfl)|(refine ofR ?_;show okD _ _ _ _=true;kernel_rfl)|exact ofR (by with_unfolding_all rfl)|exact ofB (by with_unfolding_all rfl)|omega|(simp only [go_sem,bz];omega)) only [go_sem,Nat.reduceAdd,Nat.reduceBEq,hv',hx,hs,hw,c1,e2,hb']
     cbv
    |false=>
     rw [if_pos ⟨c2,rfl⟩]
     simp (maxSteps:=3000000) (implicitDefEqProofs:=false) (disch:=first|assumption|(refine ofR ?_;show norm _ _=_;kernel_rfl)|(refine ofR ?_;show okD _ _ _ _=true;kernel_rfl)|exact ofR (by with_unfolding_all rfl)|exact ofB (by with_unfolding_all rfl)|omega|(simp only [go_sem,bz];omega)) only [go_sem,Nat.reduceAdd,Nat.reduceBEq,hv',hx,hs,hw,c1,e2,hb',gze]
     cbv
   ·obtain rfl:v=0:=by omega
    rw [if_neg (fun h=>c2 h.1)]
    simp (maxSteps:=3000000) (implicitDefEqProofs:=false) (disch:=first|assumption|(refine ofR ?_;show norm _ _=_;kernel_rfl)|(refine ofR ?_;show okD _ _ _ _=true;kernel_rfl)|exact ofR (by with_unfolding_all rfl)|exact ofB (by with_unfolding_all rfl)|omega|(simp only [go_sem,bz];omega)) only [go_sem,Nat.reduceAdd,Nat.reduceBEq,hv',hx,hs,hw,c1,gqk]
    cbv
  ·rw [decide_eq_false c1,if_neg (by simp)]
   generalize seeT s st o.vals i=st1 at*
   simp (maxSteps:=3000000) (implicitDefEqProofs:=false) (disch:=first|assumption|(refine ofR ?_;show norm _ _=_;kernel_rfl)|(refine ofR ?_;show okD _ _ _ _=true;kernel_rfl)|exact ofR (by with_unfolding_all rfl)|exact ofB (by with_unfolding_all rfl)|omega|(simp only [go_sem,bz];omega)) only [go_sem,Nat.reduceAdd,Nat.reduceBEq,hv',hx,hs,hw]
   cbv
 ·unfold ij S92 dkb azi
  simp (maxSteps:=3000000) (implicitDefEqProofs:=false) (disch:=first|assumption|(refine ofR ?_;show norm _ _=_;kernel_rfl)|(refine ofR ?_;show okD _ _ _ _=true;kernel_rfl)|exact ofR (by with_unfolding_all rfl)|exact ofB (by with_unfolding_all rfl)|omega|(simp only [go_sem,bz];omega)) only [go_sem,Nat.reduceAdd,Nat.reduceBEq]
def S91 (ts:List ByteArray) (g:Gr) (i:Nat):St:=⟨[(0,.sz lz (ts.map eStr)),(3,.rf 0),(5,.rf 1),(6,.rf 2),(9,.a (.int .i64 i))],nFnd g (oq ts g i),3⟩
theorem jjl {ts:List ByteArray} {g:Gr} (h:Right ts g):
 mjb Φ fuel [0,3,5,6,9] ekb (S91 ts g 0)=some (.ext 2,⟨[(0,.sz lz (ts.map eStr)),(3,.rf 0),(5,.rf 1),(6,.rf 2),(9,.a (.int .i64 (dqc ts g).length)),(50,.a (.bool false))],nFnd g (oq ts g g.nodes.length),403⟩):=by
 have hn:=h.n
 refine ck (S91 ts g) _ (fun i=>i≤(oq ts g i).out.length) (m:=g.nodes.length) (cq (by omega)) (Nat.zero_le _) (by simp) (fun i hi hp=> ?_)
 have hI:=ezc ts g i
 have hle:=hI.le
 have hw:=vz i (by omega)
 by_cases hi':i<(oq ts g i).out.length
 ·obtain ⟨k,hk⟩: ∃k,(oq ts g i).out[i]? =some k:=⟨_,List.getElem?_eq_getElem hi'⟩
  have hkn:=hI.low k (List.mem_of_getElem? hk)
  obtain ⟨o,ho⟩: ∃o,g.nodes[k]? =some o:=⟨_,List.getElem?_eq_getElem hkn⟩
  obtain ⟨t,s,o1,o2,o3,o4,o5,o6⟩:=h.obj o (List.mem_of_getElem? ho)
  have key:=ijl (Φ:=Φ) h i o1 o2 o3 o5 o6 hI
  have e:oq ts g (i+1)=seeT s (oq ts g i) o.vals o.vals.length:=by
   rw [oq];unfold seeN;rw [hk];simp only;rw [ho];simp only
   unfold seeO
   rw [o1,Int.toNat_natCast,o2]
  have hgrow:=gjf ts g i
  unfold S92 azi at key
  rw [show seeT s (oq ts g i) o.vals 0=oq ts g i from rfl] at key
  refine .inl ⟨by omega,?_,by omega⟩
  unfold ij S91 ekb nFnd
  rw [e]
  generalize seeT s (oq ts g i) o.vals o.vals.length=st' at*
  generalize oq ts g i=st at*
  simp (maxSteps:=3000000) (implicitDefEqProofs:=false) (disch:=first|assumption|(refine ofR ?_;show norm _ _=_;kernel_rfl)|(refine ofR ?_;show okD _ _ _ _=true;kernel_rfl)|exact ofR (by with_unfolding_all rfl)|exact ofB (by with_unfolding_all rfl)|omega|(simp only [go_sem,bz];omega)) only [go_sem,Nat.reduceAdd,Nat.reduceBEq,hk,ho,hw]
  rw [dq key (by cbv)]
  simp (maxSteps:=3000000) (implicitDefEqProofs:=false) (disch:=first|assumption|(refine ofR ?_;show norm _ _=_;kernel_rfl)|(refine ofR ?_;show okD _ _ _ _=true;kernel_rfl)|exact ofR (by with_unfolding_all rfl)|exact ofB (by with_unfolding_all rfl)|omega|(simp only [go_sem,bz];omega)) only [go_sem,Nat.reduceAdd,Nat.reduceBEq,hw]
  cbv
 ·have hlen:(oq ts g i).out.length=i:=by omega
  have hst:=qqd (ts:=ts) (g:=g) (i:=i) (by omega) (g.nodes.length - i)
  rw [show i+(g.nodes.length - i)=g.nodes.length by omega] at hst
  right
  have hf:(dqc ts g).length=i:=by unfold dqc;rw [hst];exact hlen
  rw [hf,hst]
  unfold ij S91 ekb nFnd
  generalize oq ts g i=st at*
  simp (maxSteps:=3000000) (implicitDefEqProofs:=false) (disch:=first|assumption|(refine ofR ?_;show norm _ _=_;kernel_rfl)|(refine ofR ?_;show okD _ _ _ _=true;kernel_rfl)|exact ofR (by with_unfolding_all rfl)|exact ofB (by with_unfolding_all rfl)|omega|(simp only [go_sem,bz];omega)) only [go_sem,Nat.reduceAdd,Nat.reduceBEq]
theorem zjg {ts:List ByteArray} {g:Gr} (h:Right ts g):uz Φ fuel rqb [.sl true lz (ts.map eStr),cGr true g]=some ([.sl false nz ((dqc ts g).map eNat)],[]):=by
 have k0:=kjl (Φ:=Φ) h
 have k1:=jjl (Φ:=Φ) h
 have hn:=h.n
 unfold S90 nFnd at k0
 unfold S91 nFnd at k1
 rw [show zxc ⟨[],List.replicate g.nodes.length false⟩ (g.roots.take 0)=⟨[],List.replicate g.nodes.length false⟩ from rfl] at k0
 rw [bq rfl]
 unfold dqc
 have e:List.map eB (List.replicate g.nodes.length false)=List.replicate g.nodes.length (.a (.bool false)):=by rw [List.map_replicate];rfl
 simp only [e,List.map_nil] at k0
 simp (maxSteps:=3000000) (implicitDefEqProofs:=false) (disch:=first|assumption|(refine ofR ?_;show norm _ _=_;kernel_rfl)|(refine ofR ?_;show okD _ _ _ _=true;kernel_rfl)|exact ofR (by with_unfolding_all rfl)|exact ofB (by with_unfolding_all rfl)|omega|(simp only [go_sem,bz];omega)) only [go_sem,Nat.reduceAdd,Nat.reduceBEq,rqb,iqd]
 rw [dq k0 (by cbv)]
 simp (maxSteps:=3000000) (implicitDefEqProofs:=false) (disch:=first|assumption|(refine ofR ?_;show norm _ _=_;kernel_rfl)|(refine ofR ?_;show okD _ _ _ _=true;kernel_rfl)|exact ofR (by with_unfolding_all rfl)|exact ofB (by with_unfolding_all rfl)|omega|(simp only [go_sem,bz];omega)) only [go_sem,Nat.reduceAdd,Nat.reduceBEq]
 generalize oq ts g 0=s0 at*
 rw [dq k1 (by cbv)]
 simp (maxSteps:=3000000) (implicitDefEqProofs:=false) (disch:=first|assumption|(refine ofR ?_;show norm _ _=_;kernel_rfl)|(refine ofR ?_;show okD _ _ _ _=true;kernel_rfl)|exact ofR (by with_unfolding_all rfl)|exact ofB (by with_unfolding_all rfl)|omega|(simp only [go_sem,bz];omega)) only [go_sem,Nat.reduceAdd,Nat.reduceBEq]
end Go.Proofs.YtjdcidigbbbckaaDoor.VM

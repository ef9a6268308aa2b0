/- Numbers, texts and bytes as data of the interpreter. Types of objects: what the program and the reference take for one. Types of objects: the program's side. Graphs that are right: the program's test. Graphs that are right: the reference's test. -/
import Derived.Test.YtjdcidigbbbckaaDoorVmSlc
import Derived.Test.YtjdcidigbbbckaaDoorVmLst
import Derived.Test.YtjdcidigbbbckaaDoorVmSt
import Derived.Test.YtjdcidigbbbckaaDoorCode
namespace Go.Proofs.YtjdcidigbbbckaaDoor.VM
open Go Sy
def eInt (x:Int):PV:= .a (.int .i64 x)
theorem azk (x:Int):eInt x= .a (.int .i64 x):=rfl
attribute [go_sem] azk
def eStr (s:ByteArray):PV:= .a (.string s)
theorem ykj (s:ByteArray):eStr s= .a (.string s):=rfl
attribute [go_sem] ykj
abbrev ch (s:ByteArray):List UInt8:=s.data.toList
theorem uxc (s:ByteArray):s.size=(ch s).length:=by show s.data.size=_;simp [ch]
theorem bqi {s:ByteArray} {i:Nat} {b:UInt8} (h:(ch s)[i]? =some b):czf s (i:Int)=some (.int .u8 b.toNat):=by
 have hi:i<s.data.size:=by have:=(List.getElem?_eq_some_iff.1 h).1;simpa [ch] using this
 have hb:s[i]? =some b:=by
  have h1:s[i]? =some (s[i]'hi):=getElem?_pos s i hi
  rw [h1]
  congr 1
  have h2:s.data[i]=b:=by
   have:=h
   simp only [ch,Array.getElem?_toList,Array.getElem?_eq_getElem hi,Option.some.injEq] at this
   exact this
  exact h2
 unfold czf
 rw [if_pos (Int.natCast_nonneg i),Int.toNat_natCast,hb]
 rfl
theorem pkd {s:ByteArray} {i:Nat} {b:UInt8} (h:(ch s)[i]? =some b):ixT (.a (.string s)) (.a (.int .i64 (i:Nat)))=some (.a (.int .u8 b.toNat)):=by
 simp only [ixT,bqi h,Option.map_some]
section
variable {α:Type}
def mix (M l:List α) (i:Nat):List α:=M.take i++l.drop i
theorem zzm {M l:List α}:mix M l 0=l:=by simp [mix]
theorem mix_all {M l:List α} {n:Nat} (h:M.length=l.length) (hn:n=l.length):mix M l n=M:=by subst hn;simp [mix,←h]
theorem ejk {M l:List α} {i:Nat} (h:M.length=l.length):(mix M l i).length=l.length:=by simp [mix];omega
theorem mix_get {M l:List α} {i:Nat} {x:α} (h:M.length=l.length) (hx:l[i]? =some x):(mix M l i)[i]? =some x:=by
 have hi:=(List.getElem?_eq_some_iff.1 hx).1
 have:(M.take i).length=i:=by rw [List.length_take];omega
 rw [mix,List.getElem?_append_right (by omega),this,Nat.sub_self,List.getElem?_drop]
 simpa using hx
theorem mix_set {M l:List α} {i:Nat} {y:α} (h:M.length=l.length) (hy:M[i]? =some y):(mix M l i).set i y=mix M l (i+1):=by
 have hi:=(List.getElem?_eq_some_iff.1 hy).1
 have h1:(M.take i).length=i:=by rw [List.length_take];omega
 unfold mix
 rw [List.set_append_right _ _ (by omega),h1,Nat.sub_self,List.take_add_one,hy,List.append_assoc]
 congr 1
 rw [List.drop_eq_getElem_cons (by omega)]
 rfl
end
section
variable {α:Type}
def yze (m:Int→α→PV) (w:α→Nat):Int→List α→List PV
 |_,[]=> []
 |k,x::l=>m k x::yze m w (k+w x) l
def wsum (w:α→Nat):List α→Nat
 | []=>0
 |x::l=>w x+wsum w l
variable {m:Int→α→PV} {w:α→Nat}
theorem uqe (l l':List α):wsum w (l++l')=wsum w l+wsum w l':=by
 induction l with
 |nil=>simp [wsum]
 |cons x l ih=>simp [wsum,ih];omega
theorem lqh {l:List α} {i:Nat} {x:α} (h:l[i]? =some x):wsum w (l.take (i+1))=wsum w (l.take i)+w x:=by
 rw [List.take_add_one,h,uqe];simp [wsum]
theorem wsum_le {l:List α} {i:Nat} {x:α} (h:l[i]? =some x):wsum w (l.take i)+w x≤wsum w l:=by
 rw [←lqh h]
 conv=>rhs;rw [←List.take_append_drop (i+1) l]
 rw [uqe];omega
theorem lqi {k:Int} {l:List α}:(yze m w k l).length=l.length:=by
 induction l generalizing k with
 |nil=>rfl
 |cons x l ih=>simp [yze,ih]
theorem ckj {k:Int} {l:List α} {i:Nat} {x:α} (h:l[i]? =some x):(yze m w k l)[i]? =some (m (k+wsum w (l.take i)) x):=by
 induction l generalizing k i with
 |nil=>cases h
 |cons y l ih=>
  cases i with
  |zero=>cases h;simp [yze,wsum]
  |succ i=>
   rw [List.getElem?_cons_succ] at h
   simp only [yze,List.getElem?_cons_succ,ih h,List.take_succ_cons,wsum]
   congr 2
   omega
end
end Go.Proofs.YtjdcidigbbbckaaDoor.VM
namespace Go.Proofs.YtjdcidigbbbckaaDoor.VM
open Go Sy
variable {Φ:Nat→Option Callee} {N:Nat}
def okC (b:UInt8):Bool:=decide ((b.toNat:Int)=105)||decide ((b.toNat:Int)=114)
def ixb (s:ByteArray):Bool:=decide (1≤s.size∧s.size≤23)&&(ch s).all okC
def pjd (ts:List ByteArray):Bool:=decide (1≤ts.length∧ts.length≤12)&&ts.all ixb
@[go_sem] theorem lqf {n lo hi:Int}:fj Φ N fkb [.a (.int .i64 n),.a (.int .i64 lo),.a (.int .i64 hi)]=some ([.a (.bool (decide (lo≤n∧n≤hi)))],[]):=by
  rw [sj rfl]
  by_cases h1:lo≤n
  ·by_cases h2:n≤hi
   ·have:lo≤n∧n≤hi:=⟨h1,h2⟩
    simp (maxSteps:=3000000) (implicitDefEqProofs:=false) (disch:=first|assumption|(refine ofR ?_;show norm _ _=_;kernel_rfl)|(refine ofR ?_;show okD _ _ _ _=true;kernel_rfl)|exact ofR (by with_unfolding_all rfl)|exact ofB (by with_unfolding_all rfl)|omega|(simp only [go_sem,bz];omega)) only [go_sem,Nat.reduceAdd,Nat.reduceBEq,fkb,ejd]
   ·have: ¬(lo≤n∧n≤hi):=fun h=>h2 h.2
    simp (maxSteps:=3000000) (implicitDefEqProofs:=false) (disch:=first|assumption|(refine ofR ?_;show norm _ _=_;kernel_rfl)|(refine ofR ?_;show okD _ _ _ _=true;kernel_rfl)|exact ofR (by with_unfolding_all rfl)|exact ofB (by with_unfolding_all rfl)|omega|(simp only [go_sem,bz];omega)) only [go_sem,Nat.reduceAdd,Nat.reduceBEq,fkb,ejd]
  ·have: ¬(lo≤n∧n≤hi):=fun h=>h1 h.1
   simp (maxSteps:=3000000) (implicitDefEqProofs:=false) (disch:=first|assumption|(refine ofR ?_;show norm _ _=_;kernel_rfl)|(refine ofR ?_;show okD _ _ _ _=true;kernel_rfl)|exact ofR (by with_unfolding_all rfl)|exact ofB (by with_unfolding_all rfl)|omega|(simp only [go_sem,bz];omega)) only [go_sem,Nat.reduceAdd,Nat.reduceBEq,fkb,ejd]
@[go_sem] theorem uzk {a b c:Int}:fj Φ N aqb [.a (.int .i64 a),.a (.int .i64 b),.a (.int .i64 c)]=some ([.a (.bool (decide (b≤a∧a≤c)))],[]):=by
  rw [sj rfl]
  by_cases h1:b≤a
  ·by_cases h2:a≤c
   ·have:b≤a∧a≤c:=⟨h1,h2⟩
    simp (maxSteps:=3000000) (implicitDefEqProofs:=false) (disch:=first|assumption|(refine ofR ?_;show norm _ _=_;kernel_rfl)|(refine ofR ?_;show okD _ _ _ _=true;kernel_rfl)|exact ofR (by with_unfolding_all rfl)|exact ofB (by with_unfolding_all rfl)|omega|(simp only [go_sem,bz];omega)) only [go_sem,Nat.reduceAdd,Nat.reduceBEq,aqb,pxc]
   ·have: ¬(b≤a∧a≤c):=fun h=>h2 h.2
    simp (maxSteps:=3000000) (implicitDefEqProofs:=false) (disch:=first|assumption|(refine ofR ?_;show norm _ _=_;kernel_rfl)|(refine ofR ?_;show okD _ _ _ _=true;kernel_rfl)|exact ofR (by with_unfolding_all rfl)|exact ofB (by with_unfolding_all rfl)|omega|(simp only [go_sem,bz];omega)) only [go_sem,Nat.reduceAdd,Nat.reduceBEq,aqb,pxc]
  ·have: ¬(b≤a∧a≤c):=fun h=>h1 h.1
   simp (maxSteps:=3000000) (implicitDefEqProofs:=false) (disch:=first|assumption|(refine ofR ?_;show norm _ _=_;kernel_rfl)|(refine ofR ?_;show okD _ _ _ _=true;kernel_rfl)|exact ofR (by with_unfolding_all rfl)|exact ofB (by with_unfolding_all rfl)|omega|(simp only [go_sem,bz];omega)) only [go_sem,Nat.reduceAdd,Nat.reduceBEq,aqb,pxc]
@[go_sem] theorem zqj {e:Nat} {es:List PV}:fj Φ N ezb [.sl true e es]=some ([.a (.int .i64 es.length)],[]):=by
  rw [sj rfl]
  simp (maxSteps:=3000000) (implicitDefEqProofs:=false) (disch:=first|assumption|(refine ofR ?_;show norm _ _=_;kernel_rfl)|(refine ofR ?_;show okD _ _ _ _=true;kernel_rfl)|exact ofR (by with_unfolding_all rfl)|exact ofB (by with_unfolding_all rfl)|omega|(simp only [go_sem,bz];omega)) only [go_sem,Nat.reduceAdd,Nat.reduceBEq,ezb,mkc]
@[go_sem] theorem axj {e:Nat} {es:List PV}:fj Φ N ik [.sl true e es]=some ([.a (.int .i64 es.length)],[]):=by
  rw [sj rfl]
  simp (maxSteps:=3000000) (implicitDefEqProofs:=false) (disch:=first|assumption|(refine ofR ?_;show norm _ _=_;kernel_rfl)|(refine ofR ?_;show okD _ _ _ _=true;kernel_rfl)|exact ofR (by with_unfolding_all rfl)|exact ofB (by with_unfolding_all rfl)|omega|(simp only [go_sem,bz];omega)) only [go_sem,Nat.reduceAdd,Nat.reduceBEq,ik,bxc]
def S44 (s:ByteArray) (i:Nat):St:=⟨[(0,.a (.string s)),(3,.a (.int .i64 i))],[],0⟩
theorem lzg {s:ByteArray} (hs:s.size≤1048576) {i:Nat} {b:UInt8} (hb:(ch s)[i]? =some b):
 yz Φ N [0,3] qxb (S44 s i)=some (if okC b=true then (.nrm,S44 s (i+1)) else (.ret,⟨[(2,.a (.bool false))],[],1500⟩)):=by
 have hi:i<s.size:=by rw [uxc];exact (List.getElem?_eq_some_iff.1 hb).1
 have hx:=pkd hb
 have hw:=gj i (by omega)
 unfold yz S44 qxb okC
 by_cases c1:(b.toNat:Int)=105
 ·rw [if_pos (by simp [c1])]
  simp (maxSteps:=3000000) (implicitDefEqProofs:=false) (disch:=first|assumption|(refine ofR ?_;show norm _ _=_;kernel_rfl)|(refine ofR ?_;show okD _ _ _ _=true;kernel_rfl)|exact ofR (by with_unfolding_all rfl)|exact ofB (by with_unfolding_all rfl)|omega|(simp only [go_sem,bz];omega)) only [go_sem,Nat.reduceAdd,Nat.reduceBEq,hx,hw]
  (show some _=some _;kernel_rfl)
 ·by_cases c2:(b.toNat:Int)=114
  ·rw [if_pos (by simp [c2])]
   simp (maxSteps:=3000000) (implicitDefEqProofs:=false) (disch:=first|assumption|(refine ofR ?_;show norm _ _=_;kernel_rfl)|(refine ofR ?_;show okD _ _ _ _=true;kernel_rfl)|exact ofR (by with_unfolding_all rfl)|exact ofB (by with_unfolding_all rfl)|omega|(simp only [go_sem,bz];omega)) only [go_sem,Nat.reduceAdd,Nat.reduceBEq,hx,hw]
   (show some _=some _;kernel_rfl)
  ·rw [if_neg (by simp [c1,c2])]
   simp (maxSteps:=3000000) (implicitDefEqProofs:=false) (disch:=first|assumption|(refine ofR ?_;show norm _ _=_;kernel_rfl)|(refine ofR ?_;show okD _ _ _ _=true;kernel_rfl)|exact ofR (by with_unfolding_all rfl)|exact ofB (by with_unfolding_all rfl)|omega|(simp only [go_sem,bz];omega)) only [go_sem,Nat.reduceAdd,Nat.reduceBEq,hx,hw]
theorem lqg (s:ByteArray) (hs:s.size≤1048576) (hN:s.size<N):
 tzb Φ N [0,3] qxb (S44 s 0)=some (if (ch s).all okC=true then (.ext 0,⟨[(0,.a (.string s)),(3,.a (.int .i64 s.size)),(7,.a (.bool false))],[],400⟩) else (.ret,⟨[(2,.a (.bool false))],[],1500⟩)):=by
 refine hzb (S44 s) _ (fun i=> ∀j b,j<i→(ch s)[j]? =some b→okC b=true) (m:=s.size) hN (fun j b h=>by omega) (by split<;>simp) (fun i hi hp=> ?_)
 by_cases hi':i<s.size
 ·obtain ⟨b,hb⟩: ∃b,(ch s)[i]? =some b:=⟨_,List.getElem?_eq_getElem (by rw [←uxc];exact hi')⟩
  rw [lzg hs hb]
  by_cases ho:okC b=true
  ·rw [if_pos ho]
   refine .inl ⟨hi',rfl,fun j y hj hy=> ?_⟩
   by_cases hji:j=i
   ·subst hji;rw [hb] at hy;cases hy;exact ho
   ·exact hp j y (by omega) hy
  ·rw [if_neg ho,if_neg]
   ·exact .inr rfl
   ·intro hall
    exact ho (List.all_eq_true.1 hall b (List.mem_of_getElem? hb))
 ·obtain rfl:i=s.size:=by omega
  right
  rw [if_pos (List.all_eq_true.2 fun b hb=>by
   obtain ⟨j,hj,rfl⟩:=List.mem_iff_getElem.1 hb
   exact hp j _ (by rw [uxc];exact hj) (List.getElem?_eq_getElem hj))]
  unfold yz S44 qxb
  simp (maxSteps:=3000000) (implicitDefEqProofs:=false) (disch:=first|assumption|(refine ofR ?_;show norm _ _=_;kernel_rfl)|(refine ofR ?_;show okD _ _ _ _=true;kernel_rfl)|exact ofR (by with_unfolding_all rfl)|exact ofB (by with_unfolding_all rfl)|omega|(simp only [go_sem,bz];omega)) only [go_sem,Nat.reduceAdd,Nat.reduceBEq]
theorem rzh {d:Nat} (s:ByteArray) (hs:s.size≤1048576):fj (T (d+1)) fuel cxb [.a (.string s)]=some ([.a (.bool (ixb s))],[]):=by
 have key:=lqg (Φ:=T (d+1)) (N:=fuel) s hs (sq (by omega))
 unfold S44 at key
 rw [sj rfl]
 unfold ixb
 by_cases ha:(ch s).all okC=true
 ·rw [if_pos ha] at key
  rw [ha,Bool.and_true]
  have:decide (1≤(s.size:Int)∧(s.size:Int)≤23)=decide (1≤s.size∧s.size≤23):=by
   congr 1;exact propext ⟨fun h=>by omega,fun h=>by omega⟩
  simp (maxSteps:=3000000) (implicitDefEqProofs:=false) (disch:=first|assumption|(refine ofR ?_;show norm _ _=_;kernel_rfl)|(refine ofR ?_;show okD _ _ _ _=true;kernel_rfl)|exact ofR (by with_unfolding_all rfl)|exact ofB (by with_unfolding_all rfl)|omega|(simp only [go_sem,bz];omega)) only [go_sem,Nat.reduceAdd,Nat.reduceBEq,cxb,djd,wj key,this]
 ·rw [if_neg ha] at key
  rw [show (ch s).all okC=false from by simpa using ha,Bool.and_false]
  simp (maxSteps:=3000000) (implicitDefEqProofs:=false) (disch:=first|assumption|(refine ofR ?_;show norm _ _=_;kernel_rfl)|(refine ofR ?_;show okD _ _ _ _=true;kernel_rfl)|exact ofR (by with_unfolding_all rfl)|exact ofB (by with_unfolding_all rfl)|omega|(simp only [go_sem,bz];omega)) only [go_sem,Nat.reduceAdd,Nat.reduceBEq,cxb,djd,pjc key]
def S25 (ts:List ByteArray) (i:Nat):St:=⟨[(0,.sz mz (ts.map eStr)),(3,.a (.int .i64 i))],[],0⟩
theorem gze {d:Nat} (ts:List ByteArray) (hl:ts.length≤1048576) (hs: ∀s∈ts,s.size≤1048576):
 tzb (T (d+2)) fuel [0,3] ykb (S25 ts 0)=some (if ts.all ixb=true then (.ext 0,⟨[(0,.sz mz (ts.map eStr)),(3,.a (.int .i64 ts.length)),(11,.a (.bool false))],[],400⟩) else (.ret,⟨[(2,.a (.bool false))],[],1100⟩)):=by
 refine hzb (S25 ts) _ (fun i=> ∀j b,j<i→ts[j]? =some b→ixb b=true) (m:=ts.length) (sq (by omega)) (fun j b h=>by omega) (by split<;>simp) (fun i hi hp=> ?_)
 by_cases hi':i<ts.length
 ·obtain ⟨b,hb⟩: ∃b,ts[i]? =some b:=⟨_,List.getElem?_eq_getElem hi'⟩
  have hc:=rzh (d:=d) b (hs b (List.mem_of_getElem? hb))
  have hw:=gj i (by omega)
  unfold yz S25 ykb
  by_cases ho:ixb b=true
  ·rw [ho] at hc
   refine .inl ⟨hi',?_,fun j y hj hy=> ?_⟩
   ·simp (maxSteps:=3000000) (implicitDefEqProofs:=false) (disch:=first|assumption|(refine ofR ?_;show norm _ _=_;kernel_rfl)|(refine ofR ?_;show okD _ _ _ _=true;kernel_rfl)|exact ofR (by with_unfolding_all rfl)|exact ofB (by with_unfolding_all rfl)|omega|(simp only [go_sem,bz];omega)) only [go_sem,Nat.reduceAdd,Nat.reduceBEq,hb,hc,hw]
    rfl
   ·by_cases hji:j=i
    ·subst hji;rw [hb] at hy;cases hy;exact ho
    ·exact hp j y (by omega) hy
  ·rw [show ixb b=false from by simpa using ho] at hc
   right
   rw [if_neg (fun hall=>ho (List.all_eq_true.1 hall b (List.mem_of_getElem? hb)))]
   simp (maxSteps:=3000000) (implicitDefEqProofs:=false) (disch:=first|assumption|(refine ofR ?_;show norm _ _=_;kernel_rfl)|(refine ofR ?_;show okD _ _ _ _=true;kernel_rfl)|exact ofR (by with_unfolding_all rfl)|exact ofB (by with_unfolding_all rfl)|omega|(simp only [go_sem,bz];omega)) only [go_sem,Nat.reduceAdd,Nat.reduceBEq,hb,hc,hw]
 ·obtain rfl:i=ts.length:=by omega
  right
  rw [if_pos (List.all_eq_true.2 fun b hb=>by
   obtain ⟨j,hj,rfl⟩:=List.mem_iff_getElem.1 hb
   exact hp j _ hj (List.getElem?_eq_getElem hj))]
  unfold yz S25 ykb
  simp (maxSteps:=3000000) (implicitDefEqProofs:=false) (disch:=first|assumption|(refine ofR ?_;show norm _ _=_;kernel_rfl)|(refine ofR ?_;show okD _ _ _ _=true;kernel_rfl)|exact ofR (by with_unfolding_all rfl)|exact ofB (by with_unfolding_all rfl)|omega|(simp only [go_sem,bz];omega)) only [go_sem,Nat.reduceAdd,Nat.reduceBEq]
theorem uji (ts:List ByteArray):decide (1≤(ts.length:Int)∧(ts.length:Int)≤12)=decide (1≤ts.length∧ts.length≤12):=by
 congr 1;exact propext ⟨fun h=>by omega,fun h=>by omega⟩
theorem aqe {d:Nat} (ts:List ByteArray) (hl:ts.length≤1048576) (hs: ∀s∈ts,s.size≤1048576):fj (T (d+2)) fuel wzb [.sl true mz (ts.map eStr)]=some ([.a (.bool (pjd ts))],[]):=by
 have key:=gze (d:=d) ts hl hs
 unfold S25 at key
 rw [sj rfl]
 unfold pjd
 have hd:=uji ts
 cases hb:decide (1≤ts.length∧ts.length≤12)
 ·rw [hb] at hd
  simp (maxSteps:=3000000) (implicitDefEqProofs:=false) (disch:=first|assumption|(refine ofR ?_;show norm _ _=_;kernel_rfl)|(refine ofR ?_;show okD _ _ _ _=true;kernel_rfl)|exact ofR (by with_unfolding_all rfl)|exact ofB (by with_unfolding_all rfl)|omega|(simp only [go_sem,bz];omega)) only [go_sem,Nat.reduceAdd,Nat.reduceBEq,wzb,kqc,hd]
 ·rw [hb] at hd
  by_cases ha:ts.all ixb=true
  ·rw [if_pos ha] at key
   rw [ha]
   simp (maxSteps:=3000000) (implicitDefEqProofs:=false) (disch:=first|assumption|(refine ofR ?_;show norm _ _=_;kernel_rfl)|(refine ofR ?_;show okD _ _ _ _=true;kernel_rfl)|exact ofR (by with_unfolding_all rfl)|exact ofB (by with_unfolding_all rfl)|omega|(simp only [go_sem,bz];omega)) only [go_sem,Nat.reduceAdd,Nat.reduceBEq,wzb,kqc,hd,wj key]
  ·rw [if_neg ha] at key
   rw [show ts.all ixb=false from by simpa using ha]
   simp (maxSteps:=3000000) (implicitDefEqProofs:=false) (disch:=first|assumption|(refine ofR ?_;show norm _ _=_;kernel_rfl)|(refine ofR ?_;show okD _ _ _ _=true;kernel_rfl)|exact ofR (by with_unfolding_all rfl)|exact ofB (by with_unfolding_all rfl)|omega|(simp only [go_sem,bz];omega)) only [go_sem,Nat.reduceAdd,Nat.reduceBEq,wzb,kqc,hd,pjc key]
end Go.Proofs.YtjdcidigbbbckaaDoor.VM
namespace Go.Proofs.YtjdcidigbbbckaaDoor.VM
open Go Sy
variable {Φ:Nat→Option Callee} {N:Nat}
theorem kkc {α:Type} {q:α→Bool} {l:List α} {i:Nat} {x:α} (hx:l[i]? =some x) (hq:q x=true) (hp: ∀(j:Nat) (y:α),j<i→l[j]? =some y→q y=false):l.findIdx? q=some i:=by
 rw [List.findIdx?_eq_some_iff_getElem]
 obtain ⟨hi,rfl⟩:=List.getElem?_eq_some_iff.1 hx
 refine ⟨hi,hq,fun j hj=> ?_⟩
 have:=hp j _ hj (List.getElem?_eq_getElem (Nat.lt_trans hj hi))
 simp [this]
theorem jkc {α:Type} {q:α→Bool} {l:List α} (hp: ∀(j:Nat) (y:α),l[j]? =some y→q y=false):l.findIdx? q=none:=by
 rw [List.findIdx?_eq_none_iff]
 intro x hx
 obtain ⟨j,hj,rfl⟩:=List.mem_iff_getElem.1 hx
 exact hp j _ (List.getElem?_eq_getElem hj)
def wkc {α:Type} (q:α→Bool) (l:List α):Int:=match l.findIdx? q with|some i=>i|none=> -1
theorem pke {α:Type} (q:α→Bool) (l:List α):decide (0≤wkc q l)=l.any q:=by
 unfold wkc
 cases h:l.findIdx? q with
 |some i=>
  obtain ⟨hi,h1,_⟩:=List.findIdx?_eq_some_iff_getElem.1 h
  rw [show l.any q=true from List.any_eq_true.2 ⟨_,List.getElem_mem hi,h1⟩]
  simp
 |none=>
  rw [List.findIdx?_eq_none_iff] at h
  rw [show l.any q=false from by rw [List.any_eq_false];intro x hx;simp [h x hx]]
  simp
theorem aqi {b:UInt8} {n:Nat} (hn:n<256):((b.toNat:Int)=(n:Int))↔b=UInt8.ofNat n:=by
 constructor
 ·intro h
  apply UInt8.toNat_inj.1
  rw [UInt8.toNat_ofNat',Nat.mod_eq_of_lt hn]
  exact_mod_cast h
 ·rintro rfl
  rw [UInt8.toNat_ofNat',Nat.mod_eq_of_lt hn]
theorem uxj (b:UInt8):okC b= [(105:UInt8),114].contains b:=by
 have h1:((b.toNat:Int)=105)↔b=105:=aqi (b:=b) (n:=105) (by omega)
 have h2:((b.toNat:Int)=114)↔b=114:=aqi (b:=b) (n:=114) (by omega)
 unfold okC
 rw [decide_eq_decide.2 h1,decide_eq_decide.2 h2]
 simp only [List.contains_cons,List.contains_nil,Bool.or_false]
 rfl
theorem nxc {α:Type} (p:α→Bool): ∀(l:List α),l.dropWhile p= []↔l.all p=true
 | []=>by simp
 |a::l=>by
  simp only [List.dropWhile,List.all_cons]
  cases h:p a
  ·simp
  ·simpa using nxc p l
theorem yqi (l:List UInt8):Lib.trimS l [105,114]= []↔l.all okC=true:=by
 have e:okC=fun b=> [(105:UInt8),114].contains b:=funext uxj
 rw [e]
 unfold Lib.trimS Lib.trimLeftS Lib.trimRightS
 rw [nxc]
 constructor
 ·intro h
  have h2:(l.reverse.dropWhile ([(105:UInt8),114].contains ·)).all ([(105:UInt8),114].contains ·)=true:=by simpa using h
  cases hd:l.reverse.dropWhile ([(105:UInt8),114].contains ·) with
  |nil=>
   have:=(nxc _ _).1 hd
   simpa using this
  |cons a r=>
   have h3:=List.head?_dropWhile_not ([(105:UInt8),114].contains ·) l.reverse
   rw [hd] at h3 h2
   simp only [List.head?_cons,List.all_cons,Bool.and_eq_true] at h3 h2
   rw [h2.1] at h3
   cases h3
 ·intro h
  rw [(nxc _ _).2 (by simpa using h)]
  rfl
theorem tzh {d:Nat} (s:ByteArray) (hs:s.size≤1048576):fj (T (d+1)) fuel dxb [.a (.string s)]=some ([.a (.bool (ixb s))],[]):=by
 have ht:yqe [.a (.string s),.a (.string ⟨#[105,114]⟩)]=some ([.a (.string ⟨(Lib.trimS (ch s) [105,114]).toArray⟩)],[]):=by
  simp only [yqe]
  rw [if_pos ⟨by omega,by decide,by decide⟩]
 have hd:decide ((⟨(Lib.trimS (ch s) [105,114]).toArray⟩:ByteArray)=⟨#[]⟩)=(ch s).all okC:=by
  rw [Bool.eq_iff_iff,decide_eq_true_eq,←yqi]
  constructor
  ·intro h
   have:=congrArg (fun b:ByteArray=>b.data.toList) h
   simpa using this
  ·intro h;rw [h]
 have hz:decide (1≤(s.size:Int)∧(s.size:Int)≤23)=decide (1≤s.size∧s.size≤23):=by
  congr 1;exact propext ⟨fun h=>by omega,fun h=>by omega⟩
 rw [sj rfl]
 unfold ixb
 cases hb:decide (1≤s.size∧s.size≤23)
 ·rw [hb] at hz
  simp (maxSteps:=3000000) (implicitDefEqProofs:=false) (disch:=first|assumption|(refine ofR ?_;show norm _ _=_;kernel_rfl)|(refine ofR ?_;show okD _ _ _ _=true;kernel_rfl)|exact ofR (by with_unfolding_all rfl)|exact ofB (by with_unfolding_all rfl)|omega|(simp only [go_sem,bz];omega)) only [go_sem,Nat.reduceAdd,Nat.reduceBEq,dxb,fjd,hz]
 ·rw [hb] at hz
  rw [Bool.true_and]
  simp (maxSteps:=3000000) (implicitDefEqProofs:=false) (disch:=first|assumption|(refine ofR ?_;show norm _ _=_;kernel_rfl)|(refine ofR ?_;show okD _ _ _ _=true;kernel_rfl)|exact ofR (by with_unfolding_all rfl)|exact ofB (by with_unfolding_all rfl)|omega|(simp only [go_sem,bz];omega)) only [go_sem,Nat.reduceAdd,Nat.reduceBEq,dxb,fjd,hz,ht,hd]
theorem nqf {d:Nat} (s:ByteArray) (hs:s.size≤1048576):fj (T (d+2)) fuel qjb [.a (.string s)]=some ([.a (.bool (!ixb s))],[]):=by
 have h:=tzh (d:=d) s hs
 rw [sj rfl]
 simp (maxSteps:=3000000) (implicitDefEqProofs:=false) (disch:=first|assumption|(refine ofR ?_;show norm _ _=_;kernel_rfl)|(refine ofR ?_;show okD _ _ _ _=true;kernel_rfl)|exact ofR (by with_unfolding_all rfl)|exact ofB (by with_unfolding_all rfl)|omega|(simp only [go_sem,bz];omega)) only [go_sem,Nat.reduceAdd,Nat.reduceBEq,qjb,kjd,h]
def S70 (ts:List ByteArray) (i:Nat):St:=⟨[(0,.sz mz (ts.map eStr)),(1,.fn pk [] []),(7,.a (.int .i64 ts.length)),(8,.a (.int .i64 i))],[],0⟩
theorem akf {d:Nat} (ts:List ByteArray) (hl:ts.length≤1048576) (hs: ∀s∈ts,s.size≤1048576):
 tzb (T (d+3)) fuel [0,1,7,8] rq (S70 ts 0)=
 some (match ts.findIdx? (fun s=> !ixb s) with|some i=>(.ret,⟨[(4,.a (.int .i64 (i:Nat)))],[],1100⟩)|none=>(.ext 0,⟨[(0,.sz mz (ts.map eStr)),(1,.fn pk [] []),(7,.a (.int .i64 ts.length)),(8,.a (.int .i64 ts.length)),(9,.a (.bool false))],[],100⟩)):=by
 refine hzb (S70 ts) _ (fun i=> ∀j b,j<i→ts[j]? =some b→(!ixb b)=false) (m:=ts.length) (sq (by omega)) (fun j b h=>by omega) (by split<;>simp) (fun i hi hp=> ?_)
 by_cases hi':i<ts.length
 ·obtain ⟨b,hb⟩: ∃b,ts[i]? =some b:=⟨_,List.getElem?_eq_getElem hi'⟩
  have hc:=nqf (d:=d) b (hs b (List.mem_of_getElem? hb))
  have hw:=gj i (by omega)
  unfold yz S70 rq
  cases ho:ixb b
  ·rw [ho] at hc
   right
   rw [kkc (q:=fun s=> !ixb s) hb (by simp [ho]) hp]
   simp (maxSteps:=3000000) (implicitDefEqProofs:=false) (disch:=first|assumption|(refine ofR ?_;show norm _ _=_;kernel_rfl)|(refine ofR ?_;show okD _ _ _ _=true;kernel_rfl)|exact ofR (by with_unfolding_all rfl)|exact ofB (by with_unfolding_all rfl)|omega|(simp only [go_sem,bz];omega)) only [go_sem,Nat.reduceAdd,Nat.reduceBEq,hb,hc,hw]
  ·rw [ho] at hc
   refine .inl ⟨hi',?_,fun j y hj hy=> ?_⟩
   ·simp (maxSteps:=3000000) (implicitDefEqProofs:=false) (disch:=first|assumption|(refine ofR ?_;show norm _ _=_;kernel_rfl)|(refine ofR ?_;show okD _ _ _ _=true;kernel_rfl)|exact ofR (by with_unfolding_all rfl)|exact ofB (by with_unfolding_all rfl)|omega|(simp only [go_sem,bz];omega)) only [go_sem,Nat.reduceAdd,Nat.reduceBEq,hb,hc,hw]
    rfl
   ·by_cases hji:j=i
    ·subst hji;rw [hb] at hy;cases hy;simp [ho]
    ·exact hp j y (by omega) hy
 ·obtain rfl:i=ts.length:=by omega
  right
  rw [jkc fun j y hy=>hp j y (by have:=(List.getElem?_eq_some_iff.1 hy).1;omega) hy]
  unfold yz S70 rq
  simp (maxSteps:=3000000) (implicitDefEqProofs:=false) (disch:=first|assumption|(refine ofR ?_;show norm _ _=_;kernel_rfl)|(refine ofR ?_;show okD _ _ _ _=true;kernel_rfl)|exact ofR (by with_unfolding_all rfl)|exact ofB (by with_unfolding_all rfl)|omega|(simp only [go_sem,bz];omega)) only [go_sem,Nat.reduceAdd,Nat.reduceBEq]
theorem ukf {d:Nat} (ts:List ByteArray) (hl:ts.length≤1048576) (hs: ∀s∈ts,s.size≤1048576):
 fj (T (d+3)) fuel jj [.sl true mz (ts.map eStr),.fn pk [] []]=some ([.a (.int .i64 (wkc (fun s=> !ixb s) ts))],[]):=by
 have key:=akf (d:=d) ts hl hs
 unfold S70 at key
 rw [sj rfl]
 unfold wkc
 cases h:ts.findIdx? (fun s=> !ixb s) with
 |some i=>
  rw [h] at key
  simp (maxSteps:=3000000) (implicitDefEqProofs:=false) (disch:=first|assumption|(refine ofR ?_;show norm _ _=_;kernel_rfl)|(refine ofR ?_;show okD _ _ _ _=true;kernel_rfl)|exact ofR (by with_unfolding_all rfl)|exact ofB (by with_unfolding_all rfl)|omega|(simp only [go_sem,bz];omega)) only [go_sem,Nat.reduceAdd,Nat.reduceBEq,jj,uk,pjc key]
 |none=>
  rw [h] at key
  simp (maxSteps:=3000000) (implicitDefEqProofs:=false) (disch:=first|assumption|(refine ofR ?_;show norm _ _=_;kernel_rfl)|(refine ofR ?_;show okD _ _ _ _=true;kernel_rfl)|exact ofR (by with_unfolding_all rfl)|exact ofB (by with_unfolding_all rfl)|omega|(simp only [go_sem,bz];omega)) only [go_sem,Nat.reduceAdd,Nat.reduceBEq,jj,uk,wj key]
theorem ixe {d:Nat} (ts:List ByteArray) (hl:ts.length≤1048576) (hs: ∀s∈ts,s.size≤1048576):
 fj (T (d+4)) fuel lj [.sl true mz (ts.map eStr),.fn pk [] []]=some ([.a (.bool (ts.any fun s=> !ixb s))],[]):=by
 have h:=ukf (d:=d) ts hl hs
 have hd:=pke (fun s=> !ixb s) ts
 generalize wkc (fun s=> !ixb s) ts=n at*
 rw [sj rfl]
 simp (maxSteps:=3000000) (implicitDefEqProofs:=false) (disch:=first|assumption|(refine ofR ?_;show norm _ _=_;kernel_rfl)|(refine ofR ?_;show okD _ _ _ _=true;kernel_rfl)|exact ofR (by with_unfolding_all rfl)|exact ofB (by with_unfolding_all rfl)|omega|(simp only [go_sem,bz];omega)) only [go_sem,Nat.reduceAdd,Nat.reduceBEq,lj,jjb,h,hd]
theorem bqe {d:Nat} (ts:List ByteArray) (hl:ts.length≤1048576) (hs: ∀s∈ts,s.size≤1048576):fj (T (d+5)) fuel gqb [.sl true mz (ts.map eStr)]=some ([.a (.bool (pjd ts))],[]):=by
 have h:=ixe (d:=d) ts hl hs
 have hall:(!ts.any fun s=> !ixb s)=ts.all ixb:=by
  rw [List.not_any_eq_all_not];simp
 have hd:=uji ts
 rw [sj rfl]
 unfold pjd
 rw [←hall]
 generalize (ts.any fun s=> !ixb s)=b at*
 cases hb:decide (1≤ts.length∧ts.length≤12)
 ·rw [hb] at hd
  simp (maxSteps:=3000000) (implicitDefEqProofs:=false) (disch:=first|assumption|(refine ofR ?_;show norm _ _=_;kernel_rfl)|(refine ofR ?_;show okD _ _ _ _=true;kernel_rfl)|exact ofR (by with_unfolding_all rfl)|exact ofB (by with_unfolding_all rfl)|omega|(simp only [go_sem,bz];omega)) only [go_sem,Nat.reduceAdd,Nat.reduceBEq,gqb,zkc,hd]
 ·rw [hb] at hd
  rw [Bool.true_and]
  simp (maxSteps:=3000000) (implicitDefEqProofs:=false) (disch:=first|assumption|(refine ofR ?_;show norm _ _=_;kernel_rfl)|(refine ofR ?_;show okD _ _ _ _=true;kernel_rfl)|exact ofR (by with_unfolding_all rfl)|exact ofB (by with_unfolding_all rfl)|omega|(simp only [go_sem,bz];omega)) only [go_sem,Nat.reduceAdd,Nat.reduceBEq,gqb,zkc,hd,h]
end Go.Proofs.YtjdcidigbbbckaaDoor.VM
namespace Go.Proofs.YtjdcidigbbbckaaDoor.VM
open Go Sy
variable {Φ:Nat→Option Callee} {N:Nat}
structure Obj' where
 ty:Int
 vals:List Int
structure Gr where
 roots:List Int
 nodes:List Obj'
def eObj (o:Obj'):PV:= .st [eInt o.ty,.sl oz (o.vals.map eInt)]
theorem yke (o:Obj'):eObj o= .st [.a (.int .i64 o.ty),.sl oz (o.vals.map eInt)]:=rfl
attribute [go_sem] yke
abbrev cObj (z:Bool) (o:Obj'):CV:= .st [.a (.int .i64 o.ty),.sl z oz (o.vals.map eInt)]
abbrev cGr (z:Bool) (g:Gr):CV:= .st [.sl z oz (g.roots.map eInt),.sl z gz (g.nodes.map eObj)]
abbrev tGr (g:Gr):TV:= .st [.sz oz (g.roots.map eInt),.sz gz (g.nodes.map eObj)]
def isN (n:Nat) (v:Int):Bool:=decide (0≤v∧v≤(n:Int))
def vqc (s:ByteArray) (k:Nat):Bool:=match (ch s)[k]? with|some b=>decide ((b.toNat:Int)=114)|none=>false
def badV (s:ByteArray) (n k:Nat) (v:Int):Bool:=vqc s k&& !isN n v
def rjd (s:ByteArray) (n:Nat):Nat→List Int→Bool
 |_,[]=>true
 |k,v::l=> !badV s n k v&&rjd s n (k+1) l
theorem qxc {s:ByteArray} {n:Nat}: ∀{l:List Int} {k:Nat},rjd s n k l=true↔ ∀(j:Nat) v,l[j]? =some v→badV s n (k+j) v=false
 | [],k=>by simp [rjd]
 |w::l,k=>by
  rw [rjd,Bool.and_eq_true,qxc,Bool.not_eq_true']
  constructor
  ·rintro ⟨h1,h2⟩ j v hj
   cases j with
   |zero=>cases hj;exact h1
   |succ j=>rw [show k+(j+1)=k+1+j by omega];exact h2 j v (by simpa using hj)
  ·intro h
   exact ⟨h 0 w rfl,fun j v hj=>by have:=h (j+1) v (by simpa using hj);rwa [show k+(j+1)=k+1+j by omega] at this⟩
def gzc (ts:List ByteArray) (n:Nat) (o:Obj'):Bool:=match ts[o.ty.toNat]? with
 |some s=>decide (0≤o.ty)&&(decide (o.vals.length=s.size)&&rjd s n 0 o.vals)
 |none=>false
def axb (ts:List ByteArray) (g:Gr):Bool:=pjd ts&&(decide (g.roots.length≤40)&&(decide (g.nodes.length≤400)&&(g.roots.all (isN g.nodes.length)&&g.nodes.all (gzc ts g.nodes.length))))
theorem jjf {d:Nat} (g:Gr) (v:Int):fj (T (d+1)) fuel xk [cGr true g,.a (.int .i64 v)]=some ([.a (.bool (isN g.nodes.length v))],[]):=by
 rw [sj rfl]
 unfold isN
 simp (maxSteps:=3000000) (implicitDefEqProofs:=false) (disch:=first|assumption|(refine ofR ?_;show norm _ _=_;kernel_rfl)|(refine ofR ?_;show okD _ _ _ _=true;kernel_rfl)|exact ofR (by with_unfolding_all rfl)|exact ofB (by with_unfolding_all rfl)|omega|(simp only [go_sem,bz];omega)) only [go_sem,Nat.reduceAdd,Nat.reduceBEq,xk,akc]
def S37 (ts:List ByteArray) (g:Gr) (o:Obj') (i:Nat):St:=⟨[(0,.sz mz (ts.map eStr)),(2,.fn gx [tGr g] []),(4,.rf 0),(29,.sz oz (o.vals.map eInt)),(30,.a (.int .i64 o.vals.length)),(31,.a (.int .i64 i))],[(0,some (.bx false [.a (.int .i64 o.ty),.sz oz (o.vals.map eInt)]))],1⟩
theorem mxf {d:Nat} (ts:List ByteArray) (g:Gr) (o:Obj') (hl:o.vals.length≤1048576) {s:ByteArray} {t:Nat} (ht:o.ty=(t:Int)) (hs:ts[t]? =some s) (hz:o.vals.length=s.size):
 tzb (T (d+2)) fuel [0,2,4,29,30,31] xxb (S37 ts g o 0)=some (if rjd s g.nodes.length 0 o.vals=true then
  (.ext 0,⟨[(0,.sz mz (ts.map eStr)),(2,.fn gx [tGr g] []),(4,.rf 0),(29,.sz oz (o.vals.map eInt)),(30,.a (.int .i64 o.vals.length)),(31,.a (.int .i64 o.vals.length)),(32,.a (.bool false))],[(0,some (.bx false [.a (.int .i64 o.ty),.sz oz (o.vals.map eInt)]))],101⟩)
  else (.ret,⟨[(6,.a (.bool false))],[(0,some (.bx false [.a (.int .i64 o.ty),.sz oz (o.vals.map eInt)]))],2101⟩)):=by
 have htl:t<ts.length:=(List.getElem?_eq_some_iff.1 hs).1
 refine hzb (S37 ts g o) _ (fun i=> ∀(j:Nat) v,j<i→o.vals[j]? =some v→badV s g.nodes.length j v=false) (m:=o.vals.length) (sq (by omega)) (fun j b h=>by omega) (by split<;>simp) (fun i hi hp=> ?_)
 by_cases hi':i<o.vals.length
 ·obtain ⟨v,hv⟩: ∃v,o.vals[i]? =some v:=⟨_,List.getElem?_eq_getElem hi'⟩
  obtain ⟨b,hb⟩: ∃b,(ch s)[i]? =some b:=⟨_,List.getElem?_eq_getElem (by rw [←uxc];omega)⟩
  have hx:=pkd hb
  have hc:=jjf (d:=d) g v
  have hw:=gj i (by omega)
  have hr:vqc s i=decide ((b.toNat:Int)=114):=by simp only [vqc,hb]
  have next (hbad:badV s g.nodes.length i v=false): ∀(j:Nat) y,j<i+1→o.vals[j]? =some y→badV s g.nodes.length j y=false:=fun j y hj hy=>by
   by_cases hji:j=i
   ·subst hji;rw [hv] at hy;cases hy;exact hbad
   ·exact hp j y (by omega) hy
  unfold yz S37 xxb
  rw [ht]
  by_cases c1:(b.toNat:Int)=114
  ·cases hn:isN g.nodes.length v
   ·right
    rw [hn] at hc
    rw [if_neg (fun hok=>by
     have:=(qxc.1 hok) i v hv
     rw [Nat.zero_add,badV,hr,hn,decide_eq_true c1] at this
     cases this)]
    simp (maxSteps:=3000000) (implicitDefEqProofs:=false) (disch:=first|assumption|(refine ofR ?_;show norm _ _=_;kernel_rfl)|(refine ofR ?_;show okD _ _ _ _=true;kernel_rfl)|exact ofR (by with_unfolding_all rfl)|exact ofB (by with_unfolding_all rfl)|omega|(simp only [go_sem,bz];omega)) only [go_sem,Nat.reduceAdd,Nat.reduceBEq,hv,hx,hs,hc,hw]
   ·rw [hn] at hc
    refine .inl ⟨hi',?_,next (by rw [badV,hn];simp)⟩
    simp (maxSteps:=3000000) (implicitDefEqProofs:=false) (disch:=first|assumption|(refine ofR ?_;show norm _ _=_;kernel_rfl)|(refine ofR ?_;show okD _ _ _ _=true;kernel_rfl)|exact ofR (by with_unfolding_all rfl)|exact ofB (by with_unfolding_all rfl)|omega|(simp only [go_sem,bz];omega)) only [go_sem,Nat.reduceAdd,Nat.reduceBEq,hv,hx,hs,hc,hw]
    (show some _=some _;kernel_rfl)
  ·refine .inl ⟨hi',?_,next (by rw [badV,hr,decide_eq_false c1];rfl)⟩
   simp (maxSteps:=3000000) (implicitDefEqProofs:=false) (disch:=first|assumption|(refine ofR ?_;show norm _ _=_;kernel_rfl)|(refine ofR ?_;show okD _ _ _ _=true;kernel_rfl)|exact ofR (by with_unfolding_all rfl)|exact ofB (by with_unfolding_all rfl)|omega|(simp only [go_sem,bz];omega)) only [go_sem,Nat.reduceAdd,Nat.reduceBEq,hv,hx,hs,hw]
   (show some _=some _;kernel_rfl)
 ·obtain rfl:i=o.vals.length:=by omega
  right
  rw [if_pos (qxc.2 fun j v hj=>by rw [Nat.zero_add];exact hp j v (by have:=(List.getElem?_eq_some_iff.1 hj).1;omega) hj)]
  unfold yz S37 xxb
  simp (maxSteps:=3000000) (implicitDefEqProofs:=false) (disch:=first|assumption|(refine ofR ?_;show norm _ _=_;kernel_rfl)|(refine ofR ?_;show okD _ _ _ _=true;kernel_rfl)|exact ofR (by with_unfolding_all rfl)|exact ofB (by with_unfolding_all rfl)|omega|(simp only [go_sem,bz];omega)) only [go_sem,Nat.reduceAdd,Nat.reduceBEq]
theorem skf {d:Nat} (ts:List ByteArray) (g:Gr) (o:Obj') (htl:ts.length≤1048576) (hl:o.vals.length≤1048576) (hsz: ∀s∈ts,s.size≤1048576):
 fj (T (d+2)) fuel gk [.sl true mz (ts.map eStr),cObj true o,.fn gx [cGr true g] []]=some ([.a (.bool (gzc ts g.nodes.length o))],[]):=by
 have hw:IntKind.i64.wrap ((ts.length:Int)- 1)=ts.length - 1:=by rw [aq]<;>omega
 rw [sj rfl]
 obtain ⟨ty,vals⟩:=o
 dsimp only at*
 by_cases c1:0≤ty∧ty≤(ts.length:Int)- 1
 ·obtain ⟨t,ht⟩: ∃t:Nat,ty=(t:Int):=⟨ty.toNat,by omega⟩
  subst ht
  obtain ⟨s,hs⟩: ∃s,ts[t]? =some s:=⟨_,List.getElem?_eq_getElem (by omega)⟩
  have hob:gzc ts g.nodes.length ⟨(t:Int),vals⟩=(decide (vals.length=s.size)&&rjd s g.nodes.length 0 vals):=by
   unfold gzc
   rw [show (⟨(t:Int),vals⟩:Obj').ty.toNat=t from Int.toNat_natCast t,hs]
   simp only [show decide (0≤(t:Int))=true from decide_eq_true c1.1,Bool.true_and]
  rw [hob]
  have hss:=hsz s (List.mem_of_getElem? hs)
  by_cases hz:vals.length=s.size
  ·have key:=mxf (d:=d) ts g ⟨(t:Int),vals⟩ hl rfl hs hz
   unfold S37 at key
   dsimp only at key
   rw [decide_eq_true hz,Bool.true_and]
   cases hv:rjd s g.nodes.length 0 vals
   ·rw [if_neg (by rw [hv];simp)] at key
    simp (maxSteps:=3000000) (implicitDefEqProofs:=false) (disch:=first|assumption|(refine ofR ?_;show norm _ _=_;kernel_rfl)|(refine ofR ?_;show okD _ _ _ _=true;kernel_rfl)|exact ofR (by with_unfolding_all rfl)|exact ofB (by with_unfolding_all rfl)|omega|(simp only [go_sem,bz];omega)) only [go_sem,Nat.reduceAdd,Nat.reduceBEq,gk,gkb,hw,hs,pjc key]
   ·rw [if_pos hv] at key
    simp (maxSteps:=3000000) (implicitDefEqProofs:=false) (disch:=first|assumption|(refine ofR ?_;show norm _ _=_;kernel_rfl)|(refine ofR ?_;show okD _ _ _ _=true;kernel_rfl)|exact ofR (by with_unfolding_all rfl)|exact ofB (by with_unfolding_all rfl)|omega|(simp only [go_sem,bz];omega)) only [go_sem,Nat.reduceAdd,Nat.reduceBEq,gk,gkb,hw,hs,wj key]
  ·rw [decide_eq_false hz,Bool.false_and]
   have hz': ¬((vals.length:Int)=(s.size:Int)):=by omega
   simp (maxSteps:=3000000) (implicitDefEqProofs:=false) (disch:=first|assumption|(refine ofR ?_;show norm _ _=_;kernel_rfl)|(refine ofR ?_;show okD _ _ _ _=true;kernel_rfl)|exact ofR (by with_unfolding_all rfl)|exact ofB (by with_unfolding_all rfl)|omega|(simp only [go_sem,bz];omega)) only [go_sem,Nat.reduceAdd,Nat.reduceBEq,gk,gkb,hw,hs]
 ·have hob:gzc ts g.nodes.length ⟨ty,vals⟩=false:=by
   unfold gzc
   dsimp only
   by_cases h0:0≤ty
   ·rw [List.getElem?_eq_none (by omega)]
   ·rw [show decide (0≤ty)=false from decide_eq_false h0]
    split<;>rfl
  rw [hob]
  simp (maxSteps:=3000000) (implicitDefEqProofs:=false) (disch:=first|assumption|(refine ofR ?_;show norm _ _=_;kernel_rfl)|(refine ofR ?_;show okD _ _ _ _=true;kernel_rfl)|exact ofR (by with_unfolding_all rfl)|exact ofB (by with_unfolding_all rfl)|omega|(simp only [go_sem,bz];omega)) only [go_sem,Nat.reduceAdd,Nat.reduceBEq,gk,gkb,hw]
abbrev bGr (g:Gr):List CV:= [.sl true oz (g.roots.map eInt),.sl true gz (g.nodes.map eObj)]
abbrev uGr (g:Gr):List TV:= [.sz oz (g.roots.map eInt),.sz gz (g.nodes.map eObj)]
theorem qqf {d:Nat} (g:Gr) (v:Int):fj (T (d+2)) fuel sjb [.a (.int .i64 v),.bx true (bGr g)]=some ([.a (.bool (!isN g.nodes.length v))],[]):=by
 have h:=jjf (d:=d) g v
 rw [sj rfl]
 simp (maxSteps:=3000000) (implicitDefEqProofs:=false) (disch:=first|assumption|(refine ofR ?_;show norm _ _=_;kernel_rfl)|(refine ofR ?_;show okD _ _ _ _=true;kernel_rfl)|exact ofR (by with_unfolding_all rfl)|exact ofB (by with_unfolding_all rfl)|omega|(simp only [go_sem,bz];omega)) only [go_sem,Nat.reduceAdd,Nat.reduceBEq,sjb,mjd,h]
theorem pqf {d:Nat} (ts:List ByteArray) (g:Gr) (o:Obj') (htl:ts.length≤1048576) (hl:o.vals.length≤1048576) (hsz: ∀s∈ts,s.size≤1048576):
 fj (T (d+3)) fuel rjb [cObj true o,.bx true [.sl true mz (ts.map eStr)],.bx true (bGr g)]=some ([.a (.bool (!gzc ts g.nodes.length o))],[]):=by
 have h:=skf (d:=d) ts g o htl hl hsz
 rw [sj rfl]
 simp (maxSteps:=3000000) (implicitDefEqProofs:=false) (disch:=first|assumption|(refine ofR ?_;show norm _ _=_;kernel_rfl)|(refine ofR ?_;show okD _ _ _ _=true;kernel_rfl)|exact ofR (by with_unfolding_all rfl)|exact ofB (by with_unfolding_all rfl)|omega|(simp only [go_sem,bz];omega)) only [go_sem,Nat.reduceAdd,Nat.reduceBEq,rjb,ljd,h]
def S51 (l:List Int) (g:Gr) (i:Nat):St:=⟨[(0,.sz oz (l.map eInt)),(1,.fn rk [] [.rf 0]),(7,.a (.int .i64 l.length)),(8,.a (.int .i64 i))],[(0,some (.bx true (uGr g)))],1⟩
theorem ckf {d:Nat} (l:List Int) (g:Gr) (hl:l.length≤1048576):
 tzb (T (d+3)) fuel [0,1,7,8] yq (S51 l g 0)=
 some (match l.findIdx? (fun v=> !isN g.nodes.length v) with|some i=>(.ret,⟨[(4,.a (.int .i64 (i:Nat)))],[(0,some (.bx true (uGr g)))],1101⟩)|none=>(.ext 0,⟨[(0,.sz oz (l.map eInt)),(1,.fn rk [] [.rf 0]),(7,.a (.int .i64 l.length)),(8,.a (.int .i64 l.length)),(9,.a (.bool false))],[(0,some (.bx true (uGr g)))],101⟩)):=by
 refine hzb (S51 l g) _ (fun i=> ∀(j:Nat) b,j<i→l[j]? =some b→(!isN g.nodes.length b)=false) (m:=l.length) (sq (by omega)) (fun j b h=>by omega) (by split<;>simp) (fun i hi hp=> ?_)
 by_cases hi':i<l.length
 ·obtain ⟨b,hb⟩: ∃b,l[i]? =some b:=⟨_,List.getElem?_eq_getElem hi'⟩
  have hc:=qqf (d:=d) g b
  have hw:=gj i (by omega)
  unfold yz S51 yq
  cases ho:isN g.nodes.length b
  ·rw [ho] at hc
   right
   rw [kkc (q:=fun v=> !isN g.nodes.length v) hb (by simp [ho]) hp]
   simp (maxSteps:=3000000) (implicitDefEqProofs:=false) (disch:=first|assumption|(refine ofR ?_;show norm _ _=_;kernel_rfl)|(refine ofR ?_;show okD _ _ _ _=true;kernel_rfl)|exact ofR (by with_unfolding_all rfl)|exact ofB (by with_unfolding_all rfl)|omega|(simp only [go_sem,bz];omega)) only [go_sem,Nat.reduceAdd,Nat.reduceBEq,hb,hc,hw]
  ·rw [ho] at hc
   refine .inl ⟨hi',?_,fun j y hj hy=> ?_⟩
   ·simp (maxSteps:=3000000) (implicitDefEqProofs:=false) (disch:=first|assumption|(refine ofR ?_;show norm _ _=_;kernel_rfl)|(refine ofR ?_;show okD _ _ _ _=true;kernel_rfl)|exact ofR (by with_unfolding_all rfl)|exact ofB (by with_unfolding_all rfl)|omega|(simp only [go_sem,bz];omega)) only [go_sem,Nat.reduceAdd,Nat.reduceBEq,hb,hc,hw]
    rfl
   ·by_cases hji:j=i
    ·subst hji;rw [hb] at hy;cases hy;simp [ho]
    ·exact hp j y (by omega) hy
 ·obtain rfl:i=l.length:=by omega
  right
  rw [jkc fun j y hy=>hp j y (by have:=(List.getElem?_eq_some_iff.1 hy).1;omega) hy]
  unfold yz S51 yq
  simp (maxSteps:=3000000) (implicitDefEqProofs:=false) (disch:=first|assumption|(refine ofR ?_;show norm _ _=_;kernel_rfl)|(refine ofR ?_;show okD _ _ _ _=true;kernel_rfl)|exact ofR (by with_unfolding_all rfl)|exact ofB (by with_unfolding_all rfl)|omega|(simp only [go_sem,bz];omega)) only [go_sem,Nat.reduceAdd,Nat.reduceBEq]
theorem wkf {d:Nat} (l:List Int) (g:Gr) (hl:l.length≤1048576):
 fj (T (d+3)) fuel rj [.sl true oz (l.map eInt),.fn rk [] [.bx true (bGr g)]]=some ([.a (.int .i64 (wkc (fun v=> !isN g.nodes.length v) l))],[]):=by
 have key:=ckf (d:=d) l g hl
 unfold S51 at key
 rw [sj rfl]
 unfold wkc
 cases h:l.findIdx? (fun v=> !isN g.nodes.length v) with
 |some i=>
  rw [h] at key
  simp (maxSteps:=3000000) (implicitDefEqProofs:=false) (disch:=first|assumption|(refine ofR ?_;show norm _ _=_;kernel_rfl)|(refine ofR ?_;show okD _ _ _ _=true;kernel_rfl)|exact ofR (by with_unfolding_all rfl)|exact ofB (by with_unfolding_all rfl)|omega|(simp only [go_sem,bz];omega)) only [go_sem,Nat.reduceAdd,Nat.reduceBEq,rj,azb,pjc key]
 |none=>
  rw [h] at key
  simp (maxSteps:=3000000) (implicitDefEqProofs:=false) (disch:=first|assumption|(refine ofR ?_;show norm _ _=_;kernel_rfl)|(refine ofR ?_;show okD _ _ _ _=true;kernel_rfl)|exact ofR (by with_unfolding_all rfl)|exact ofB (by with_unfolding_all rfl)|omega|(simp only [go_sem,bz];omega)) only [go_sem,Nat.reduceAdd,Nat.reduceBEq,rj,azb,wj key]
theorem kxe {d:Nat} (l:List Int) (g:Gr) (hl:l.length≤1048576):
 fj (T (d+4)) fuel uj [.sl true oz (l.map eInt),.fn rk [] [.bx true (bGr g)]]=some ([.a (.bool (l.any fun v=> !isN g.nodes.length v))],[]):=by
 have h:=wkf (d:=d) l g hl
 have hd:=pke (fun v=> !isN g.nodes.length v) l
 generalize wkc (fun v=> !isN g.nodes.length v) l=n at*
 rw [sj rfl]
 simp (maxSteps:=3000000) (implicitDefEqProofs:=false) (disch:=first|assumption|(refine ofR ?_;show norm _ _=_;kernel_rfl)|(refine ofR ?_;show okD _ _ _ _=true;kernel_rfl)|exact ofR (by with_unfolding_all rfl)|exact ofB (by with_unfolding_all rfl)|omega|(simp only [go_sem,bz];omega)) only [go_sem,Nat.reduceAdd,Nat.reduceBEq,uj,bqb,h,hd]
def S52 (l:List Obj') (ts:List ByteArray) (g:Gr) (i:Nat):St:=⟨[(0,.sz gz (l.map eObj)),(1,.fn qk [] [.rf 0,.rf 1]),(7,.a (.int .i64 l.length)),(8,.a (.int .i64 i))],[(0,some (.bx true [.sz mz (ts.map eStr)])),(1,some (.bx true (uGr g)))],2⟩
theorem bkf {d:Nat} (l:List Obj') (ts:List ByteArray) (g:Gr) (hl:l.length≤1048576) (htl:ts.length≤1048576) (hv: ∀o∈l,o.vals.length≤1048576) (hsz: ∀s∈ts,s.size≤1048576):
 tzb (T (d+4)) fuel [0,1,7,8] jq (S52 l ts g 0)=
 some (match l.findIdx? (fun o=> !gzc ts g.nodes.length o) with|some i=>(.ret,⟨[(4,.a (.int .i64 (i:Nat)))],[(0,some (.bx true [.sz mz (ts.map eStr)])),(1,some (.bx true (uGr g)))],1102⟩)|none=>(.ext 0,⟨[(0,.sz gz (l.map eObj)),(1,.fn qk [] [.rf 0,.rf 1]),(7,.a (.int .i64 l.length)),(8,.a (.int .i64 l.length)),(9,.a (.bool false))],[(0,some (.bx true [.sz mz (ts.map eStr)])),(1,some (.bx true (uGr g)))],102⟩)):=by
 refine hzb (S52 l ts g) _ (fun i=> ∀(j:Nat) b,j<i→l[j]? =some b→(!gzc ts g.nodes.length b)=false) (m:=l.length) (sq (by omega)) (fun j b h=>by omega) (by split<;>simp) (fun i hi hp=> ?_)
 by_cases hi':i<l.length
 ·obtain ⟨b,hb⟩: ∃b,l[i]? =some b:=⟨_,List.getElem?_eq_getElem hi'⟩
  have hc:=pqf (d:=d) ts g b htl (hv b (List.mem_of_getElem? hb)) hsz
  have hw:=gj i (by omega)
  unfold yz S52 jq
  cases ho:gzc ts g.nodes.length b
  ·rw [ho] at hc
   right
   rw [kkc (q:=fun o=> !gzc ts g.nodes.length o) hb (by simp [ho]) hp]
   simp (maxSteps:=3000000) (implicitDefEqProofs:=false) (disch:=first|assumption|(refine ofR ?_;show norm _ _=_;kernel_rfl)|(refine ofR ?_;show okD _ _ _ _=true;kernel_rfl)|exact ofR (by with_unfolding_all rfl)|exact ofB (by with_unfolding_all rfl)|omega|(simp only [go_sem,bz];omega)) only [go_sem,Nat.reduceAdd,Nat.reduceBEq,hb,hc,hw]
  ·rw [ho] at hc
   refine .inl ⟨hi',?_,fun j y hj hy=> ?_⟩
   ·simp (maxSteps:=3000000) (implicitDefEqProofs:=false) (disch:=first|assumption|(refine ofR ?_;show norm _ _=_;kernel_rfl)|(refine ofR ?_;show okD _ _ _ _=true;kernel_rfl)|exact ofR (by with_unfolding_all rfl)|exact ofB (by with_unfolding_all rfl)|omega|(simp only [go_sem,bz];omega)) only [go_sem,Nat.reduceAdd,Nat.reduceBEq,hb,hc,hw]
    rfl
   ·by_cases hji:j=i
    ·subst hji;rw [hb] at hy;cases hy;simp [ho]
    ·exact hp j y (by omega) hy
 ·obtain rfl:i=l.length:=by omega
  right
  rw [jkc fun j y hy=>hp j y (by have:=(List.getElem?_eq_some_iff.1 hy).1;omega) hy]
  unfold yz S52 jq
  simp (maxSteps:=3000000) (implicitDefEqProofs:=false) (disch:=first|assumption|(refine ofR ?_;show norm _ _=_;kernel_rfl)|(refine ofR ?_;show okD _ _ _ _=true;kernel_rfl)|exact ofR (by with_unfolding_all rfl)|exact ofB (by with_unfolding_all rfl)|omega|(simp only [go_sem,bz];omega)) only [go_sem,Nat.reduceAdd,Nat.reduceBEq]
theorem vkf {d:Nat} (l:List Obj') (ts:List ByteArray) (g:Gr) (hl:l.length≤1048576) (htl:ts.length≤1048576) (hv: ∀o∈l,o.vals.length≤1048576) (hsz: ∀s∈ts,s.size≤1048576):
 fj (T (d+4)) fuel uz [.sl true gz (l.map eObj),.fn qk [] [.bx true [.sl true mz (ts.map eStr)],.bx true (bGr g)]]=some ([.a (.int .i64 (wkc (fun o=> !gzc ts g.nodes.length o) l))],[]):=by
 have key:=bkf (d:=d) l ts g hl htl hv hsz
 unfold S52 at key
 rw [sj rfl]
 unfold wkc
 cases h:l.findIdx? (fun o=> !gzc ts g.nodes.length o) with
 |some i=>
  rw [h] at key
  simp (maxSteps:=3000000) (implicitDefEqProofs:=false) (disch:=first|assumption|(refine ofR ?_;show norm _ _=_;kernel_rfl)|(refine ofR ?_;show okD _ _ _ _=true;kernel_rfl)|exact ofR (by with_unfolding_all rfl)|exact ofB (by with_unfolding_all rfl)|omega|(simp only [go_sem,bz];omega)) only [go_sem,Nat.reduceAdd,Nat.reduceBEq,uz,xx,pjc key]
 |none=>
  rw [h] at key
  simp (maxSteps:=3000000) (implicitDefEqProofs:=false) (disch:=first|assumption|(refine ofR ?_;show norm _ _=_;kernel_rfl)|(refine ofR ?_;show okD _ _ _ _=true;kernel_rfl)|exact ofR (by with_unfolding_all rfl)|exact ofB (by with_unfolding_all rfl)|omega|(simp only [go_sem,bz];omega)) only [go_sem,Nat.reduceAdd,Nat.reduceBEq,uz,xx,wj key]
theorem jxe {d:Nat} (l:List Obj') (ts:List ByteArray) (g:Gr) (hl:l.length≤1048576) (htl:ts.length≤1048576) (hv: ∀o∈l,o.vals.length≤1048576) (hsz: ∀s∈ts,s.size≤1048576):
 fj (T (d+5)) fuel cj [.sl true gz (l.map eObj),.fn qk [] [.bx true [.sl true mz (ts.map eStr)],.bx true (bGr g)]]=some ([.a (.bool (l.any fun o=> !gzc ts g.nodes.length o))],[]):=by
 have h:=vkf (d:=d) l ts g hl htl hv hsz
 have hd:=pke (fun o=> !gzc ts g.nodes.length o) l
 generalize wkc (fun o=> !gzc ts g.nodes.length o) l=n at*
 rw [sj rfl]
 simp (maxSteps:=3000000) (implicitDefEqProofs:=false) (disch:=first|assumption|(refine ofR ?_;show norm _ _=_;kernel_rfl)|(refine ofR ?_;show okD _ _ _ _=true;kernel_rfl)|exact ofR (by with_unfolding_all rfl)|exact ofB (by with_unfolding_all rfl)|omega|(simp only [go_sem,bz];omega)) only [go_sem,Nat.reduceAdd,Nat.reduceBEq,cj,bzb,h,hd]
structure Small (ts:List ByteArray) (g:Gr):Prop where
 tl:ts.length≤1048576
 sz: ∀s∈ts,s.size≤1048576
 roots:g.roots.length≤1048576
 nodes:g.nodes.length≤1048576
 vals: ∀o∈g.nodes,o.vals.length≤1048576
theorem tqc {d:Nat} {ts:List ByteArray} {g:Gr} (h:Small ts g):fj (T (d+6)) fuel dk [.sl true mz (ts.map eStr),cGr true g]=some ([.a (.bool (axb ts g))],[]):=by
 have h1:=bqe (d:=d) ts h.tl h.sz
 have h2:=kxe (d:=d+1) g.roots g h.roots
 have h3:=jxe (d:=d) g.nodes ts g h.nodes h.tl h.vals h.sz
 have a1:(!g.roots.any fun v=> !isN g.nodes.length v)=g.roots.all (isN g.nodes.length):=by rw [List.not_any_eq_all_not];simp
 have a2:(!g.nodes.any fun o=> !gzc ts g.nodes.length o)=g.nodes.all (gzc ts g.nodes.length):=by rw [List.not_any_eq_all_not];simp
 rw [sj rfl]
 unfold axb
 rw [←a1,←a2]
 generalize (g.roots.any fun v=> !isN g.nodes.length v)=b1 at*
 generalize (g.nodes.any fun o=> !gzc ts g.nodes.length o)=b2 at*
 clear a1 a2
 cases ht:pjd ts
 ·rw [ht] at h1
  simp (maxSteps:=3000000) (implicitDefEqProofs:=false) (disch:=first|assumption|(refine ofR ?_;show norm _ _=_;kernel_rfl)|(refine ofR ?_;show okD _ _ _ _=true;kernel_rfl)|exact ofR (by with_unfolding_all rfl)|exact ofB (by with_unfolding_all rfl)|omega|(simp only [go_sem,bz];omega)) only [go_sem,Nat.reduceAdd,Nat.reduceBEq,dk,vxb,h1]
 ·rw [ht] at h1
  have hr:=h.roots
  have hn:=h.nodes
  by_cases c1:g.roots.length≤40
  ·rw [decide_eq_true c1]
   by_cases c2:g.nodes.length≤400
   ·rw [decide_eq_true c2]
    cases b1
    ·simp (maxSteps:=3000000) (implicitDefEqProofs:=false) (disch:=first|assumption|(refine ofR ?_;show norm _ _=_;kernel_rfl)|(refine ofR ?_;show okD _ _ _ _=true;kernel_rfl)|exact ofR (by with_unfolding_all rfl)|exact ofB (by with_unfolding_all rfl)|omega|(simp only [go_sem,bz];omega)) only [go_sem,Nat.reduceAdd,Nat.reduceBEq,dk,vxb,h1,h2,h3]
    ·simp (maxSteps:=3000000) (implicitDefEqProofs:=false) (disch:=first|assumption|(refine ofR ?_;show norm _ _=_;kernel_rfl)|(refine ofR ?_;show okD _ _ _ _=true;kernel_rfl)|exact ofR (by with_unfolding_all rfl)|exact ofB (by with_unfolding_all rfl)|omega|(simp only [go_sem,bz];omega)) only [go_sem,Nat.reduceAdd,Nat.reduceBEq,dk,vxb,h1,h2,h3]
   ·rw [decide_eq_false c2]
    simp (maxSteps:=3000000) (implicitDefEqProofs:=false) (disch:=first|assumption|(refine ofR ?_;show norm _ _=_;kernel_rfl)|(refine ofR ?_;show okD _ _ _ _=true;kernel_rfl)|exact ofR (by with_unfolding_all rfl)|exact ofB (by with_unfolding_all rfl)|omega|(simp only [go_sem,bz];omega)) only [go_sem,Nat.reduceAdd,Nat.reduceBEq,dk,vxb,h1]
  ·rw [decide_eq_false c1]
   simp (maxSteps:=3000000) (implicitDefEqProofs:=false) (disch:=first|assumption|(refine ofR ?_;show norm _ _=_;kernel_rfl)|(refine ofR ?_;show okD _ _ _ _=true;kernel_rfl)|exact ofR (by with_unfolding_all rfl)|exact ofB (by with_unfolding_all rfl)|omega|(simp only [go_sem,bz];omega)) only [go_sem,Nat.reduceAdd,Nat.reduceBEq,dk,vxb,h1]
end Go.Proofs.YtjdcidigbbbckaaDoor.VM
namespace Go.Proofs.YtjdcidigbbbckaaDoor.VM
open Go Sy
variable {Φ:Nat→Option Callee} {N:Nat}
theorem gkg {live:List Nat} {b:VC} (S:Nat→St) (E:Out→St→Prop) (P:Nat→Prop) {m:Nat} (hN:m<N) (h0:P 0)
 (step: ∀i,i≤m→P i→(i<m∧yz Φ N live b (S i)=some (.nrm,S (i+1))∧P (i+1))∨ ∃o e,o≠ .nrm∧yz Φ N live b (S i)=some (o,e)∧E o e): ∃o e,E o e∧tzb Φ N live b (S 0)=some (o,e):=by
 obtain ⟨o,e,h1,_,h2⟩:=mqe (Φ:=Φ) (N:=N) (live:=live) (b:=b) (r:= []) (fun j s=> ∃i,i+j=m∧P i∧s=S i) E hN (s:=S 0) ⟨0,by omega,h0,rfl⟩ (by
  rintro j s hj ⟨i,hi,hp,rfl⟩
  rcases step i (by omega) hp with ⟨h1,h2,h3⟩|⟨o,e,h1,h2,h3⟩
  ·exact .inl ⟨j - 1,_,by omega,h2,i+1,by omega,h3,rfl⟩
  ·exact .inr ⟨o,e,h1,h2,h3⟩)
 exact ⟨o,e,h1,h2⟩
def S60 (ts:List ByteArray) (g:Gr) (i:Nat):St:=⟨[(0,.sz mz (ts.map eStr)),(3,.rf 0),(5,.a (.int .i64 g.nodes.length)),(6,.a (.int .i64 i))],[(0,some (.bx false (uGr g)))],1⟩
theorem zjh {d:Nat} (ts:List ByteArray) (g:Gr) (hr:g.roots.length≤1048576):
 tzb (T (d+1)) fuel [0,3,5,6] azc (S60 ts g 0)=some (if g.roots.all (isN g.nodes.length)=true then (.ext 0,⟨[(0,.sz mz (ts.map eStr)),(3,.rf 0),(5,.a (.int .i64 g.nodes.length)),(6,.a (.int .i64 g.roots.length)),(32,.a (.bool false))],[(0,some (.bx false (uGr g)))],501⟩) else (.ret,⟨[(4,.a (.bool false))],[(0,some (.bx false (uGr g)))],1401⟩)):=by
 refine hzb (S60 ts g) _ (fun i=> ∀(j:Nat) b,j<i→g.roots[j]? =some b→isN g.nodes.length b=true) (m:=g.roots.length) (sq (by omega)) (fun j b h=>by omega) (by split<;>simp) (fun i hi hp=> ?_)
 by_cases hi':i<g.roots.length
 ·obtain ⟨b,hb⟩: ∃b,g.roots[i]? =some b:=⟨_,List.getElem?_eq_getElem hi'⟩
  have hc:=lqf (Φ:=T d) (N:=fuel) (n:=b) (lo:=0) (hi:=g.nodes.length)
  have hw:=gj i (by omega)
  unfold yz S60 azc
  cases ho:isN g.nodes.length b
  ·rw [show decide (0≤b∧b≤(g.nodes.length:Int))=false from ho] at hc
   right
   rw [if_neg (fun hall=>by have:=List.all_eq_true.1 hall b (List.mem_of_getElem? hb);rw [ho] at this;cases this)]
   simp (maxSteps:=3000000) (implicitDefEqProofs:=false) (disch:=first|assumption|(refine ofR ?_;show norm _ _=_;kernel_rfl)|(refine ofR ?_;show okD _ _ _ _=true;kernel_rfl)|exact ofR (by with_unfolding_all rfl)|exact ofB (by with_unfolding_all rfl)|omega|(simp only [go_sem,bz];omega)) only [go_sem,Nat.reduceAdd,Nat.reduceBEq,hb,hc,hw]
  ·rw [show decide (0≤b∧b≤(g.nodes.length:Int))=true from ho] at hc
   refine .inl ⟨hi',?_,fun j y hj hy=> ?_⟩
   ·simp (maxSteps:=3000000) (implicitDefEqProofs:=false) (disch:=first|assumption|(refine ofR ?_;show norm _ _=_;kernel_rfl)|(refine ofR ?_;show okD _ _ _ _=true;kernel_rfl)|exact ofR (by with_unfolding_all rfl)|exact ofB (by with_unfolding_all rfl)|omega|(simp only [go_sem,bz];omega)) only [go_sem,Nat.reduceAdd,Nat.reduceBEq,hb,hc,hw]
    rfl
   ·by_cases hji:j=i
    ·subst hji;rw [hb] at hy;cases hy;exact ho
    ·exact hp j y (by omega) hy
 ·obtain rfl:i=g.roots.length:=by omega
  right
  rw [if_pos (List.all_eq_true.2 fun b hb=>by
   obtain ⟨j,hj,rfl⟩:=List.mem_iff_getElem.1 hb
   exact hp j _ hj (List.getElem?_eq_getElem hj))]
  unfold yz S60 azc
  simp (maxSteps:=3000000) (implicitDefEqProofs:=false) (disch:=first|assumption|(refine ofR ?_;show norm _ _=_;kernel_rfl)|(refine ofR ?_;show okD _ _ _ _=true;kernel_rfl)|exact ofR (by with_unfolding_all rfl)|exact ofB (by with_unfolding_all rfl)|omega|(simp only [go_sem,bz];omega)) only [go_sem,Nat.reduceAdd,Nat.reduceBEq]
def S62 (ts:List ByteArray) (g:Gr) (q:Nat) (t:Nat) (vals:List Int) (k:Nat):St:=⟨[(0,.sz mz (ts.map eStr)),(3,.rf 0),(5,.a (.int .i64 g.nodes.length)),(7,.a (.int .i64 q)),(8,.rf 1),(9,.a (.int .i64 k))],[(0,some (.bx false (uGr g))),(1,some (.bx false [.a (.int .i64 t),.sz oz (vals.map eInt)]))],2⟩
theorem xjh {d:Nat} (ts:List ByteArray) (g:Gr) (q:Nat) {t:Nat} {vals:List Int} (hl:vals.length≤1048576) {s:ByteArray} (hs:ts[t]? =some s) (hz:vals.length=s.size):
 tzb (T (d+1)) fuel [0,3,5,7,8,9] zkb (S62 ts g q t vals 0)=some (if rjd s g.nodes.length 0 vals=true then
  (.ext 4,⟨[(0,.sz mz (ts.map eStr)),(3,.rf 0),(5,.a (.int .i64 g.nodes.length)),(7,.a (.int .i64 q)),(8,.rf 1),(9,.a (.int .i64 vals.length)),(78,.a (.bool false))],[(0,some (.bx false (uGr g))),(1,some (.bx false [.a (.int .i64 t),.sz oz (vals.map eInt)]))],502⟩)
  else (.ret,⟨[(4,.a (.bool false))],[(0,some (.bx false (uGr g))),(1,some (.bx false [.a (.int .i64 t),.sz oz (vals.map eInt)]))],2402⟩)):=by
 have htl:t<ts.length:=(List.getElem?_eq_some_iff.1 hs).1
 refine hzb (S62 ts g q t vals) _ (fun i=> ∀(j:Nat) v,j<i→vals[j]? =some v→badV s g.nodes.length j v=false) (m:=vals.length) (sq (by omega)) (fun j b h=>by omega) (by split<;>simp) (fun i hi hp=> ?_)
 by_cases hi':i<vals.length
 ·obtain ⟨v,hv⟩: ∃v,vals[i]? =some v:=⟨_,List.getElem?_eq_getElem hi'⟩
  obtain ⟨b,hb⟩: ∃b,(ch s)[i]? =some b:=⟨_,List.getElem?_eq_getElem (by rw [←uxc];omega)⟩
  have hx:=pkd hb
  have hc:=lqf (Φ:=T d) (N:=fuel) (n:=v) (lo:=0) (hi:=g.nodes.length)
  have hw:=gj i (by omega)
  have hr:vqc s i=decide ((b.toNat:Int)=114):=by simp only [vqc,hb]
  have next (hbad:badV s g.nodes.length i v=false): ∀(j:Nat) y,j<i+1→vals[j]? =some y→badV s g.nodes.length j y=false:=fun j y hj hy=>by
   by_cases hji:j=i
   ·subst hji;rw [hv] at hy;cases hy;exact hbad
   ·exact hp j y (by omega) hy
  unfold yz S62 zkb
  by_cases c1:(b.toNat:Int)=114
  ·cases hn:isN g.nodes.length v
   ·right
    rw [show decide (0≤v∧v≤(g.nodes.length:Int))=false from hn] at hc
    rw [if_neg (fun hok=>by
     have:=(qxc.1 hok) i v hv
     rw [Nat.zero_add,badV,hr,hn,decide_eq_true c1] at this
     cases this)]
    simp (maxSteps:=3000000) (implicitDefEqProofs:=false) (disch:=first|assumption|(refine ofR ?_;show norm _ _=_;kernel_rfl)|(refine ofR ?_;show okD _ _ _ _=true;kernel_rfl)|exact ofR (by with_unfolding_all rfl)|exact ofB (by with_unfolding_all rfl)|omega|(simp only [go_sem,bz];omega)) only [go_sem,Nat.reduceAdd,Nat.reduceBEq,hv,hx,hs,hc,hw]
   ·rw [show decide (0≤v∧v≤(g.nodes.length:Int))=true from hn] at hc
    refine .inl ⟨hi',?_,next (by rw [badV,hn];simp)⟩
    simp (maxSteps:=3000000) (implicitDefEqProofs:=false) (disch:=first|assumption|(refine ofR ?_;show norm _ _=_;kernel_rfl)|(refine ofR ?_;show okD _ _ _ _=true;kernel_rfl)|exact ofR (by with_unfolding_all rfl)|exact ofB (by with_unfolding_all rfl)|omega|(simp only [go_sem,bz];omega)) only [go_sem,Nat.reduceAdd,Nat.reduceBEq,hv,hx,hs,hc,hw]
    (show some _=some _;kernel_rfl)
  ·refine .inl ⟨hi',?_,next (by rw [badV,hr,decide_eq_false c1];rfl)⟩
   simp (maxSteps:=3000000) (implicitDefEqProofs:=false) (disch:=first|assumption|(refine ofR ?_;show norm _ _=_;kernel_rfl)|(refine ofR ?_;show okD _ _ _ _=true;kernel_rfl)|exact ofR (by with_unfolding_all rfl)|exact ofB (by with_unfolding_all rfl)|omega|(simp only [go_sem,bz];omega)) only [go_sem,Nat.reduceAdd,Nat.reduceBEq,hv,hx,hs,hw]
   (show some _=some _;kernel_rfl)
 ·obtain rfl:i=vals.length:=by omega
  right
  rw [if_pos (qxc.2 fun j v hj=>by rw [Nat.zero_add];exact hp j v (by have:=(List.getElem?_eq_some_iff.1 hj).1;omega) hj)]
  unfold yz S62 zkb
  simp (maxSteps:=3000000) (implicitDefEqProofs:=false) (disch:=first|assumption|(refine ofR ?_;show norm _ _=_;kernel_rfl)|(refine ofR ?_;show okD _ _ _ _=true;kernel_rfl)|exact ofR (by with_unfolding_all rfl)|exact ofB (by with_unfolding_all rfl)|omega|(simp only [go_sem,bz];omega)) only [go_sem,Nat.reduceAdd,Nat.reduceBEq]
def S61 (ts:List ByteArray) (g:Gr) (i:Nat):St:=⟨[(0,.sz mz (ts.map eStr)),(3,.rf 0),(5,.a (.int .i64 g.nodes.length)),(7,.a (.int .i64 i))],[(0,some (.bx false (uGr g)))],1⟩
def xzi (o:Out) (e:St):Prop:=o= .ret∧ ∃nd nx,e=⟨[(4,.a (.bool false))],nd,nx⟩
theorem yjh {d:Nat} {ts:List ByteArray} {g:Gr} (h:Small ts g):
 ∃o e,(if g.nodes.all (gzc ts g.nodes.length)=true then o= .ext 2∧ ∃nd nx sl,e=⟨sl,nd,nx⟩ else xzi o e)∧tzb (T (d+1)) fuel [0,3,5,7] nq (S61 ts g 0)=some (o,e):=by
 have hn:=h.nodes
 have htl:=h.tl
 have hww:IntKind.i64.wrap ((ts.length:Int)- 1)=ts.length - 1:=by rw [aq]<;>omega
 refine gkg (S61 ts g) _ (fun i=> ∀(j:Nat) b,j<i→g.nodes[j]? =some b→gzc ts g.nodes.length b=true) (m:=g.nodes.length) (sq (by omega)) (fun j b h=>by omega) (fun i hi hp=> ?_)
 by_cases hi':i<g.nodes.length
 ·obtain ⟨o,hb⟩: ∃b,g.nodes[i]? =some b:=⟨_,List.getElem?_eq_getElem hi'⟩
  have hvl:=h.vals o (List.mem_of_getElem? hb)
  have bad (hf:gzc ts g.nodes.length o=false) {o' e':_} (he:xzi o' e'):(if g.nodes.all (gzc ts g.nodes.length)=true then o'= .ext 2∧ ∃nd nx sl,e'=⟨sl,nd,nx⟩ else xzi o' e'):=by
   rw [if_neg (fun hall=>by have:=List.all_eq_true.1 hall o (List.mem_of_getElem? hb);rw [hf] at this;cases this)]
   exact he
  have next (hbad:gzc ts g.nodes.length o=true): ∀(j:Nat) y,j<i+1→g.nodes[j]? =some y→gzc ts g.nodes.length y=true:=fun j y hj hy=>by
   by_cases hji:j=i
   ·subst hji;rw [hb] at hy;cases hy;exact hbad
   ·exact hp j y (by omega) hy
  have hw:=gj i (by omega)
  obtain ⟨ty,vals⟩:=o
  dsimp only at*
  have hc:=lqf (Φ:=T d) (N:=fuel) (n:=ty) (lo:=0) (hi:=(ts.length:Int)- 1)
  by_cases c1:0≤ty∧ty≤(ts.length:Int)- 1
  ·rw [decide_eq_true c1] at hc
   obtain ⟨t,rfl⟩: ∃t:Nat,ty=(t:Int):=⟨ty.toNat,by omega⟩
   obtain ⟨s,hs⟩: ∃s,ts[t]? =some s:=⟨_,List.getElem?_eq_getElem (by omega)⟩
   have hss:=h.sz s (List.mem_of_getElem? hs)
   have hob:gzc ts g.nodes.length ⟨(t:Int),vals⟩=(decide (vals.length=s.size)&&rjd s g.nodes.length 0 vals):=by
    unfold gzc
    rw [show (⟨(t:Int),vals⟩:Obj').ty.toNat=t from Int.toNat_natCast t,hs]
    simp only [show decide (0≤(t:Int))=true from decide_eq_true c1.1,Bool.true_and]
   by_cases hz:vals.length=s.size
   ·have key:=xjh (d:=d) ts g i hvl hs hz
    unfold S62 at key
    rw [decide_eq_true hz,Bool.true_and] at hob
    cases hv:rjd s g.nodes.length 0 vals
    ·rw [hv] at hob
     rw [if_neg (by rw [hv];simp)] at key
     have hrd: ∃nd nx,yz (T (d+1)) fuel [0,3,5,7] nq (S61 ts g i)=some (.ret,⟨[(4,.a (.bool false))],nd,nx⟩):=by
      unfold yz S61 nq
      exact ⟨_,_,by
       simp (maxSteps:=3000000) (implicitDefEqProofs:=false) (disch:=first|assumption|(refine ofR ?_;show norm _ _=_;kernel_rfl)|(refine ofR ?_;show okD _ _ _ _=true;kernel_rfl)|exact ofR (by with_unfolding_all rfl)|exact ofB (by with_unfolding_all rfl)|omega|(simp only [go_sem,bz];omega)) only [go_sem,Nat.reduceAdd,Nat.reduceBEq,hb,hc,hw,hww,hs,pjc key]
       rfl⟩
     obtain ⟨nd,nx,hrd⟩:=hrd
     exact .inr ⟨_,_,by simp,hrd,bad hob ⟨rfl,nd,nx,rfl⟩⟩
    ·rw [hv] at hob
     rw [if_pos hv] at key
     refine .inl ⟨hi',?_,next hob⟩
     unfold yz S61 nq
     simp (maxSteps:=3000000) (implicitDefEqProofs:=false) (disch:=first|assumption|(refine ofR ?_;show norm _ _=_;kernel_rfl)|(refine ofR ?_;show okD _ _ _ _=true;kernel_rfl)|exact ofR (by with_unfolding_all rfl)|exact ofB (by with_unfolding_all rfl)|omega|(simp only [go_sem,bz];omega)) only [go_sem,Nat.reduceAdd,Nat.reduceBEq,hb,hc,hw,hww,hs,wj key]
     (show some _=some _;kernel_rfl)
   ·rw [decide_eq_false hz,Bool.false_and] at hob
    have hz': ¬((vals.length:Int)=(s.size:Int)):=by omega
    have hrd: ∃nd nx,yz (T (d+1)) fuel [0,3,5,7] nq (S61 ts g i)=some (.ret,⟨[(4,.a (.bool false))],nd,nx⟩):=by
     unfold yz S61 nq
     exact ⟨_,_,by
      simp (maxSteps:=3000000) (implicitDefEqProofs:=false) (disch:=first|assumption|(refine ofR ?_;show norm _ _=_;kernel_rfl)|(refine ofR ?_;show okD _ _ _ _=true;kernel_rfl)|exact ofR (by with_unfolding_all rfl)|exact ofB (by with_unfolding_all rfl)|omega|(simp only [go_sem,bz];omega)) only [go_sem,Nat.reduceAdd,Nat.reduceBEq,hb,hc,hw,hww,hs]
      rfl⟩
    obtain ⟨nd,nx,hrd⟩:=hrd
    exact .inr ⟨_,_,by simp,hrd,bad hob ⟨rfl,nd,nx,rfl⟩⟩
  ·rw [decide_eq_false c1] at hc
   have hob:gzc ts g.nodes.length ⟨ty,vals⟩=false:=by
    unfold gzc
    dsimp only
    by_cases h0:0≤ty
    ·rw [List.getElem?_eq_none (by omega)]
    ·rw [show decide (0≤ty)=false from decide_eq_false h0]
     split<;>rfl
   have hrd: ∃nd nx,yz (T (d+1)) fuel [0,3,5,7] nq (S61 ts g i)=some (.ret,⟨[(4,.a (.bool false))],nd,nx⟩):=by
    unfold yz S61 nq
    exact ⟨_,_,by
     simp (maxSteps:=3000000) (implicitDefEqProofs:=false) (disch:=first|assumption|(refine ofR ?_;show norm _ _=_;kernel_rfl)|(refine ofR ?_;show okD _ _ _ _=true;kernel_rfl)|exact ofR (by with_unfolding_all rfl)|exact ofB (by with_unfolding_all rfl)|omega|(simp only [go_sem,bz];omega)) only [go_sem,Nat.reduceAdd,Nat.reduceBEq,hb,hc,hw,hww]
     rfl⟩
   obtain ⟨nd,nx,hrd⟩:=hrd
   exact .inr ⟨_,_,by simp,hrd,bad hob ⟨rfl,nd,nx,rfl⟩⟩
 ·obtain rfl:i=g.nodes.length:=by omega
  right
  have hall:g.nodes.all (gzc ts g.nodes.length)=true:=List.all_eq_true.2 fun b hb=>by
   obtain ⟨j,hj,rfl⟩:=List.mem_iff_getElem.1 hb
   exact hp j _ hj (List.getElem?_eq_getElem hj)
  have hrd: ∃nd nx sl,yz (T (d+1)) fuel [0,3,5,7] nq (S61 ts g g.nodes.length)=some (.ext 2,⟨sl,nd,nx⟩):=by
   unfold yz S61 nq
   exact ⟨_,_,_,by
    simp (maxSteps:=3000000) (implicitDefEqProofs:=false) (disch:=first|assumption|(refine ofR ?_;show norm _ _=_;kernel_rfl)|(refine ofR ?_;show okD _ _ _ _=true;kernel_rfl)|exact ofR (by with_unfolding_all rfl)|exact ofB (by with_unfolding_all rfl)|omega|(simp only [go_sem,bz];omega)) only [go_sem,Nat.reduceAdd,Nat.reduceBEq]
    rfl⟩
  obtain ⟨nd,nx,sl,hrd⟩:=hrd
  exact ⟨_,_,by simp,hrd,by rw [if_pos hall];exact ⟨rfl,nd,nx,sl,rfl⟩⟩
theorem sqc {d:Nat} {ts:List ByteArray} {g:Gr} (h:Small ts g):fj (T (d+3)) fuel wx [.sl true mz (ts.map eStr),cGr true g]=some ([.a (.bool (axb ts g))],[]):=by
 have h1:=aqe (d:=d) ts h.tl h.sz
 have h2:=zjh (d:=d+2) ts g h.roots
 obtain ⟨o,e,h4,h3⟩:=yjh (d:=d+2) h
 unfold S60 at h2
 unfold S61 at h3
 rw [sj rfl]
 unfold axb
 have hr:=h.roots
 have hn:=h.nodes
 cases ht:pjd ts
 ·rw [ht] at h1
  simp (maxSteps:=3000000) (implicitDefEqProofs:=false) (disch:=first|assumption|(refine ofR ?_;show norm _ _=_;kernel_rfl)|(refine ofR ?_;show okD _ _ _ _=true;kernel_rfl)|exact ofR (by with_unfolding_all rfl)|exact ofB (by with_unfolding_all rfl)|omega|(simp only [go_sem,bz];omega)) only [go_sem,Nat.reduceAdd,Nat.reduceBEq,wx,hqb,h1]
 ·rw [ht] at h1
  by_cases c1:g.roots.length≤40
  ·rw [decide_eq_true c1]
   by_cases c2:g.nodes.length≤400
   ·rw [decide_eq_true c2]
    cases c3:g.roots.all (isN g.nodes.length)
    ·rw [if_neg (by rw [c3];simp)] at h2
     simp (maxSteps:=3000000) (implicitDefEqProofs:=false) (disch:=first|assumption|(refine ofR ?_;show norm _ _=_;kernel_rfl)|(refine ofR ?_;show okD _ _ _ _=true;kernel_rfl)|exact ofR (by with_unfolding_all rfl)|exact ofB (by with_unfolding_all rfl)|omega|(simp only [go_sem,bz];omega)) only [go_sem,Nat.reduceAdd,Nat.reduceBEq,wx,hqb,h1,pjc h2]
    ·rw [if_pos c3] at h2
     cases c4:g.nodes.all (gzc ts g.nodes.length)
     ·rw [if_neg (by rw [c4];simp)] at h4
      obtain ⟨rfl,nd,nx,rfl⟩:=h4
      simp (maxSteps:=3000000) (implicitDefEqProofs:=false) (disch:=first|assumption|(refine ofR ?_;show norm _ _=_;kernel_rfl)|(refine ofR ?_;show okD _ _ _ _=true;kernel_rfl)|exact ofR (by with_unfolding_all rfl)|exact ofB (by with_unfolding_all rfl)|omega|(simp only [go_sem,bz];omega)) only [go_sem,Nat.reduceAdd,Nat.reduceBEq,wx,hqb,h1,wj h2,pjc h3]
     ·rw [if_pos c4] at h4
      obtain ⟨rfl,nd,nx,sl,rfl⟩:=h4
      simp (maxSteps:=3000000) (implicitDefEqProofs:=false) (disch:=first|assumption|(refine ofR ?_;show norm _ _=_;kernel_rfl)|(refine ofR ?_;show okD _ _ _ _=true;kernel_rfl)|exact ofR (by with_unfolding_all rfl)|exact ofB (by with_unfolding_all rfl)|omega|(simp only [go_sem,bz];omega)) only [go_sem,Nat.reduceAdd,Nat.reduceBEq,wx,hqb,h1,wj h2,wj h3]
   ·rw [decide_eq_false c2]
    simp (maxSteps:=3000000) (implicitDefEqProofs:=false) (disch:=first|assumption|(refine ofR ?_;show norm _ _=_;kernel_rfl)|(refine ofR ?_;show okD _ _ _ _=true;kernel_rfl)|exact ofR (by with_unfolding_all rfl)|exact ofB (by with_unfolding_all rfl)|omega|(simp only [go_sem,bz];omega)) only [go_sem,Nat.reduceAdd,Nat.reduceBEq,wx,hqb,h1]
  ·rw [decide_eq_false c1]
   simp (maxSteps:=3000000) (implicitDefEqProofs:=false) (disch:=first|assumption|(refine ofR ?_;show norm _ _=_;kernel_rfl)|(refine ofR ?_;show okD _ _ _ _=true;kernel_rfl)|exact ofR (by with_unfolding_all rfl)|exact ofB (by with_unfolding_all rfl)|omega|(simp only [go_sem,bz];omega)) only [go_sem,Nat.reduceAdd,Nat.reduceBEq,wx,hqb,h1]
end Go.Proofs.YtjdcidigbbbckaaDoor.VM

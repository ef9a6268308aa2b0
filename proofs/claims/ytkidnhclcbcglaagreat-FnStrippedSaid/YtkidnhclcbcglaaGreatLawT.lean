/- Numbers, texts and bytes as data of the interpreter. Types of objects: what the program and the reference take for one. Types of objects: the program's side. Graphs that are right: the program's test. Graphs that are right: the reference's test. -/
import Derived.Test.YtkidnhclcbcglaaGreatVmSlc
import Derived.Test.YtkidnhclcbcglaaGreatVmLst
import Derived.Test.YtkidnhclcbcglaaGreatVmSt
import Derived.Test.YtkidnhclcbcglaaGreatCode
namespace Go.Proofs.YtkidnhclcbcglaaGreat.VM
open Go Sy
def vap (x:Int):PV:= .a (.int .i64 x)
theorem qta (x:Int):vap x= .a (.int .i64 x):=rfl
attribute [go_sem] qta
def eStr (s:ByteArray):PV:= .a (.string s)
theorem zcq:nfzL []=true:=rfl
theorem qk2 {c:PV} {cs:List PV}:nfzL (c::cs)=(nfz c&&nfzL cs):=rfl
theorem zmg {v:Value}:nfz (.a v)=true:=rfl
theorem zjo {cs:List PV}:nfz (.st cs)=nfzL cs:=rfl
theorem zkr {e:Nat} {es:List PV}:nfz (.sl e es)=nfzL es:=rfl
theorem zkl:(true&&true)=true:=rfl
theorem qoy:∀{a b:List PV},nfzL (a++b)=(nfzL a&&nfzL b)
 | [],b=>by simp [nfzL]
 |x::a,b=>by simp [nfzL,qoy (a:=a),Bool.and_assoc]
theorem vpo {α:Type} {f:α→PV} (h:∀x,nfz (f x)=true):∀l:List α,nfzL (l.map f)=true
 | []=>rfl
 |x::l=>by rw [List.map_cons,qk2,h,vpo h l];rfl
theorem qe3 (l:List Int):nfzL (l.map vap)=true:=vpo (fun _=>rfl) l
theorem zek (l:List ByteArray):nfzL (l.map eStr)=true:=vpo (fun _=>rfl) l
theorem quq (s:ByteArray):eStr s= .a (.string s):=rfl
attribute [go_sem] zcq qk2 zmg zjo zkr zkl qoy qe3 zek
attribute [go_sem] quq
abbrev ch (s:ByteArray):List UInt8:=s.data.toList
theorem veh (s:ByteArray):s.size=(ch s).length:=by show s.data.size=_;simp [ch]
theorem qlg {s:ByteArray} {i:Nat} {b:UInt8} (h:(ch s)[i]? =some b):byteAt s (i:Int)=some (.int .u8 b.toNat):=by
 have hi:i<s.data.size:=by have:=(List.getElem?_eq_some_iff.1 h).1;simpa [ch] using this
 have hb:s[i]? =some b:=by
  have h1:s[i]? =some (s[i]'hi):=getElem?_pos s i hi
  rw [h1]
  congr 1
  have h2:s.data[i]=b:=by
   have:=h
   simp only [ch,Array.getElem?_toList,Array.getElem?_eq_getElem hi,Option.some.injEq] at this
   exact this
  exact h2
 unfold byteAt
 rw [if_pos (Int.natCast_nonneg i),Int.toNat_natCast,hb]
 rfl
theorem vn6 {s:ByteArray} {i:Nat} {b:UInt8} (h:(ch s)[i]? =some b):ixT (.a (.string s)) (.a (.int .i64 (i:Nat)))=some (.a (.int .u8 b.toNat)):=by
 simp only [ixT,qlg h,Option.map_some]
section
variable {α:Type}
end
section
variable {α:Type}
variable {m:Int→α→PV} {w:α→Nat}
end
end Go.Proofs.YtkidnhclcbcglaaGreat.VM
namespace Go.Proofs.YtkidnhclcbcglaaGreat.VM
open Go Sy
variable {Φ:Nat→Option Callee} {N:Nat}
set_option maxRecDepth 100000
set_option maxHeartbeats 8000000
def okC (b:UInt8):Bool:=decide ((b.toNat:Int)=105)||decide ((b.toNat:Int)=114)
def okType (s:ByteArray):Bool:=decide (1≤s.size∧s.size≤23)&&(ch s).all okC
def vg6 (ts:List ByteArray):Bool:=decide (1≤ts.length∧ts.length≤12)&&ts.all okType
theorem vd1 {n lo hi:Int}:vaf Φ N vif [.a (.int .i64 n),.a (.int .i64 lo),.a (.int .i64 hi)]=some ([.a (.bool (decide (lo≤n∧n≤hi)))],[]):=by
 rw [vag rfl]
 by_cases h1:lo≤n
 ·by_cases h2:n≤hi
  ·have:lo≤n∧n≤hi:=⟨h1,h2⟩
   simp (implicitDefEqProofs:=false) (disch:=first|exact zd|fail) only [go_sem,Nat.reduceAdd,Nat.reduceBEq,vif,vpz]
  ·have:¬(lo≤n∧n≤hi):=fun h=>h2 h.2
   simp (implicitDefEqProofs:=false) (disch:=first|exact zd|fail) only [go_sem,Nat.reduceAdd,Nat.reduceBEq,vif,vpz]
 ·have:¬(lo≤n∧n≤hi):=fun h=>h1 h.1
  simp (implicitDefEqProofs:=false) (disch:=first|exact zd|fail) only [go_sem,Nat.reduceAdd,Nat.reduceBEq,vif,vpz]
attribute [go_sem] vd1
theorem qz7 {a b c:Int}:vaf Φ N vde [.a (.int .i64 a),.a (.int .i64 b),.a (.int .i64 c)]=some ([.a (.bool (decide (b≤a∧a≤c)))],[]):=by
 rw [vag rfl]
 by_cases h1:b≤a
 ·by_cases h2:a≤c
  ·have:b≤a∧a≤c:=⟨h1,h2⟩
   simp (implicitDefEqProofs:=false) (disch:=first|exact zd|fail) only [go_sem,Nat.reduceAdd,Nat.reduceBEq,vde,vhz]
  ·have:¬(b≤a∧a≤c):=fun h=>h2 h.2
   simp (implicitDefEqProofs:=false) (disch:=first|exact zd|fail) only [go_sem,Nat.reduceAdd,Nat.reduceBEq,vde,vhz]
 ·have:¬(b≤a∧a≤c):=fun h=>h1 h.1
  simp (implicitDefEqProofs:=false) (disch:=first|exact zd|fail) only [go_sem,Nat.reduceAdd,Nat.reduceBEq,vde,vhz]
attribute [go_sem] qz7
def S44 (s:ByteArray) (i:Nat):St:=⟨[(0,.a (.string s)),(3,.a (.int .i64 i))],[],0⟩
theorem qeu {s:ByteArray} (hs:s.size≤1048576) {i:Nat} {b:UInt8} (hb:(ch s)[i]? =some b):
  round Φ N [0,3] vix (S44 s i)=some (if okC b=true then (.nrm,S44 s (i+1)) else (.ret,⟨[(2,.a (.bool false))],[],1500⟩)):=by
 have hi:i<s.size:=by rw [veh];exact (List.getElem?_eq_some_iff.1 hb).1
 have hx:=vn6 hb
 have hw:=var i zo
 unfold round S44 vix okC
 by_cases c1:(b.toNat:Int)=105
 ·rw [if_pos (by simp [c1])]
  simp (implicitDefEqProofs:=false) (disch:=first|exact zd|fail) only [go_sem,Nat.reduceAdd,Nat.reduceBEq,hx,hw]
  (show some _=some _;kernel_rfl)
 ·by_cases c2:(b.toNat:Int)=114
  ·rw [if_pos (by simp [c2])]
   simp (implicitDefEqProofs:=false) (disch:=first|exact zd|fail) only [go_sem,Nat.reduceAdd,Nat.reduceBEq,hx,hw]
   (show some _=some _;kernel_rfl)
  ·rw [if_neg (by simp [c1,c2])]
   simp (implicitDefEqProofs:=false) (disch:=first|exact zd|fail) only [go_sem,Nat.reduceAdd,Nat.reduceBEq,hx,hw]
theorem qg5 (s:ByteArray) (hs:s.size≤1048576) (hN:s.size<N):
  va4 Φ N [0,3] vix (S44 s 0)=some (if (ch s).all okC=true then (.ext 0,⟨[(0,.a (.string s)),(3,.a (.int .i64 s.size)),(7,.a (.bool false))],[],400⟩) else (.ret,⟨[(2,.a (.bool false))],[],1500⟩)):=by
 refine ve1 (S44 s) _ (fun i=>∀j b,j<i→(ch s)[j]? =some b→okC b=true) (m:=s.size) hN (fun j b h=>by omega) (by split<;>simp) (fun i hi hp=> ?_)
 by_cases hi':i<s.size
 ·obtain ⟨b,hb⟩:∃b,(ch s)[i]? =some b:=⟨_,List.getElem?_eq_getElem (by rw [←veh];exact hi')⟩
  rw [qeu hs hb]
  by_cases ho:okC b=true
  ·rw [if_pos ho]
   refine .inl ⟨hi',rfl,fun j y hj hy=> ?_⟩
   by_cases hji:j=i
   ·subst hji;rw [hb] at hy;cases hy;exact ho
   ·exact hp j y zo hy
  ·rw [if_neg ho,if_neg]
   ·exact .inr rfl
   ·intro hall
    exact ho (List.all_eq_true.1 hall b (List.mem_of_getElem? hb))
 ·obtain rfl:i=s.size:=by omega
  right
  rw [if_pos (List.all_eq_true.2 fun b hb=>by
   obtain ⟨j,hj,rfl⟩:=List.mem_iff_getElem.1 hb
   exact hp j _ (by rw [veh];exact hj) (List.getElem?_eq_getElem hj))]
  unfold round S44 vix
  simp (implicitDefEqProofs:=false) (disch:=first|exact zd|fail) only [go_sem,Nat.reduceAdd,Nat.reduceBEq]
theorem vzx {d:Nat} (s:ByteArray) (hs:s.size≤1048576):vaf (T (d+1)) vab vhq [.a (.string s)]=some ([.a (.bool (okType s))],[]):=by
 have key:=qg5 (Φ:=T (d+1)) (N:=vab) s hs (vaw zo)
 unfold S44 at key
 rw [vag rfl]
 unfold okType
 by_cases ha:(ch s).all okC=true
 ·rw [if_pos ha] at key
  rw [ha,Bool.and_true]
  have:decide (1≤(s.size:Int)∧(s.size:Int)≤23)=decide (1≤s.size∧s.size≤23):=by
   congr 1;exact propext ⟨fun h=>by omega,fun h=>by omega⟩
  simp (implicitDefEqProofs:=false) (disch:=first|exact zd|fail) only [go_sem,Nat.reduceAdd,Nat.reduceBEq,vhq,vqc,van key,this]
 ·rw [if_neg ha] at key
  rw [show (ch s).all okC=false from by simpa using ha,Bool.and_false]
  simp (implicitDefEqProofs:=false) (disch:=first|exact zd|fail) only [go_sem,Nat.reduceAdd,Nat.reduceBEq,vhq,vqc,vgu key]
def S25 (ts:List ByteArray) (i:Nat):St:=⟨[(0,.sz va9 (ts.map eStr)),(3,.a (.int .i64 i))],[],0⟩
theorem vw1 {d:Nat} (ts:List ByteArray) (hl:ts.length≤1048576) (hs:∀s∈ts,s.size≤1048576):
  va4 (T (d+2)) vab [0,3] vjs (S25 ts 0)=some (if ts.all okType=true then (.ext 0,⟨[(0,.sz va9 (ts.map eStr)),(3,.a (.int .i64 ts.length)),(11,.a (.bool false))],[],400⟩) else (.ret,⟨[(2,.a (.bool false))],[],1100⟩)):=by
 refine ve1 (S25 ts) _ (fun i=>∀j b,j<i→ts[j]? =some b→okType b=true) (m:=ts.length) (vaw zo) (fun j b h=>by omega) (by split<;>simp) (fun i hi hp=> ?_)
 by_cases hi':i<ts.length
 ·obtain ⟨b,hb⟩:∃b,ts[i]? =some b:=⟨_,List.getElem?_eq_getElem hi'⟩
  have hc:=vzx (d:=d) b (hs b (List.mem_of_getElem? hb))
  have hw:=var i zo
  unfold round S25 vjs
  by_cases ho:okType b=true
  ·rw [ho] at hc
   refine .inl ⟨hi',?_,fun j y hj hy=> ?_⟩
   ·simp (implicitDefEqProofs:=false) (disch:=first|exact zd|fail) only [go_sem,Nat.reduceAdd,Nat.reduceBEq,hb,hc,hw]
    rfl
   ·by_cases hji:j=i
    ·subst hji;rw [hb] at hy;cases hy;exact ho
    ·exact hp j y zo hy
  ·rw [show okType b=false from by simpa using ho] at hc
   right
   rw [if_neg (fun hall=>ho (List.all_eq_true.1 hall b (List.mem_of_getElem? hb)))]
   simp (implicitDefEqProofs:=false) (disch:=first|exact zd|fail) only [go_sem,Nat.reduceAdd,Nat.reduceBEq,hb,hc,hw]
 ·obtain rfl:i=ts.length:=by omega
  right
  rw [if_pos (List.all_eq_true.2 fun b hb=>by
   obtain ⟨j,hj,rfl⟩:=List.mem_iff_getElem.1 hb
   exact hp j _ hj (List.getElem?_eq_getElem hj))]
  unfold round S25 vjs
  simp (implicitDefEqProofs:=false) (disch:=first|exact zd|fail) only [go_sem,Nat.reduceAdd,Nat.reduceBEq]
theorem qs0 (ts:List ByteArray):decide (1≤(ts.length:Int)∧(ts.length:Int)≤12)=decide (1≤ts.length∧ts.length≤12):=by
 congr 1;exact propext ⟨fun h=>by omega,fun h=>by omega⟩
theorem vnb {d:Nat} (ts:List ByteArray) (hl:ts.length≤1048576) (hs:∀s∈ts,s.size≤1048576):vaf (T (d+2)) vab vfg [.sl true va9 (ts.map eStr)]=some ([.a (.bool (vg6 ts))],[]):=by
 have key:=vw1 (d:=d) ts hl hs
 unfold S25 at key
 rw [vag rfl]
 unfold vg6
 have hd:=qs0 ts
 cases hb:decide (1≤ts.length∧ts.length≤12)
 ·rw [hb] at hd
  simp (implicitDefEqProofs:=false) (disch:=first|exact zd|fail) only [go_sem,Nat.reduceAdd,Nat.reduceBEq,vfg,vll,hd]
 ·rw [hb] at hd
  by_cases ha:ts.all okType=true
  ·rw [if_pos ha] at key
   rw [ha]
   simp (implicitDefEqProofs:=false) (disch:=first|exact zd|fail) only [go_sem,Nat.reduceAdd,Nat.reduceBEq,vfg,vll,hd,van key]
  ·rw [if_neg ha] at key
   rw [show ts.all okType=false from by simpa using ha]
   simp (implicitDefEqProofs:=false) (disch:=first|exact zd|fail) only [go_sem,Nat.reduceAdd,Nat.reduceBEq,vfg,vll,hd,vgu key]
theorem vvt {α:Type} {q:α→Bool} {l:List α} {i:Nat} {x:α} (hx:l[i]? =some x) (hq:q x=true) (hp:∀(j:Nat) (y:α),j<i→l[j]? =some y→q y=false):l.findIdx? q=some i:=by
 rw [List.findIdx?_eq_some_iff_getElem]
 obtain ⟨hi,rfl⟩:=List.getElem?_eq_some_iff.1 hx
 refine ⟨hi,hq,fun j hj=> ?_⟩
 have:=hp j _ hj (List.getElem?_eq_getElem (Nat.lt_trans hj hi))
 simp [this]
theorem vvd {α:Type} {q:α→Bool} {l:List α} (hp:∀(j:Nat) (y:α),l[j]? =some y→q y=false):l.findIdx? q=none:=by
 rw [List.findIdx?_eq_none_iff]
 intro x hx
 obtain ⟨j,hj,rfl⟩:=List.mem_iff_getElem.1 hx
 exact hp j _ (List.getElem?_eq_getElem hj)
def idxOf {α:Type} (q:α→Bool) (l:List α):Int:=match l.findIdx? q with|some i=>i|none=> -1
structure Obj' where
 ty:Int
 vals:List Int
structure Gr where
 roots:List Int
 nodes:List Obj'
def eObj (o:Obj'):PV:= .st [vap o.ty,.sl vam (o.vals.map vap)]
theorem qhw (o:Obj'):eObj o= .st [.a (.int .i64 o.ty),.sl vam (o.vals.map vap)]:=rfl
attribute [go_sem] qhw
theorem zd7 (l:List Obj'):nfzL (l.map eObj)=true:=vpo (fun o=>by show (true&&(nfzL (o.vals.map vap)&&true))=true;rw [qe3];rfl) l
attribute [go_sem] zd7
abbrev cObj (z:Bool) (o:Obj'):CV:= .st [.a (.int .i64 o.ty),.sl z vam (o.vals.map vap)]
abbrev cGr (z:Bool) (g:Gr):CV:= .st [.sl z vam (g.roots.map vap),.sl z vav (g.nodes.map eObj)]
def isN (n:Nat) (v:Int):Bool:=decide (0≤v∧v≤(n:Int))
def refAt (s:ByteArray) (k:Nat):Bool:=match (ch s)[k]? with|some b=>decide ((b.toNat:Int)=114)|none=>false
def badV (s:ByteArray) (n k:Nat) (v:Int):Bool:=refAt s k&& !isN n v
def okVals (s:ByteArray) (n:Nat):Nat→List Int→Bool
 |_,[]=>true
 |k,v::l=> !badV s n k v&&okVals s n (k+1) l
theorem vtr {s:ByteArray} {n:Nat}:∀{l:List Int} {k:Nat},okVals s n k l=true↔∀(j:Nat) v,l[j]? =some v→badV s n (k+j) v=false
 | [],k=>by simp [okVals]
 |w::l,k=>by
  rw [okVals,Bool.and_eq_true,vtr,Bool.not_eq_true']
  constructor
  ·rintro ⟨h1,h2⟩ j v hj
   cases j with
   |zero=>cases hj;exact h1
   |succ j=>rw [show k+(j+1)=k+1+j by omega];exact h2 j v (by simpa using hj)
  ·intro h
   exact ⟨h 0 w rfl,fun j v hj=>by have:=h (j+1) v (by simpa using hj);rwa [show k+(j+1)=k+1+j by omega] at this⟩
def objOk (ts:List ByteArray) (n:Nat) (o:Obj'):Bool:=match ts[o.ty.toNat]? with
 |some s=>decide (0≤o.ty)&&(decide (o.vals.length=s.size)&&okVals s n 0 o.vals)
 |none=>false
def graphOk (ts:List ByteArray) (g:Gr):Bool:=vg6 ts&&(decide (g.roots.length≤40)&&(decide (g.nodes.length≤400)&&(g.roots.all (isN g.nodes.length)&&g.nodes.all (objOk ts g.nodes.length))))
structure Small (ts:List ByteArray) (g:Gr):Prop where
 tl:ts.length≤1048576
 sz:∀s∈ts,s.size≤1048576
 roots:g.roots.length≤1048576
 nodes:g.nodes.length≤1048576
 vals:∀o∈g.nodes,o.vals.length≤1048576
end Go.Proofs.YtkidnhclcbcglaaGreat.VM


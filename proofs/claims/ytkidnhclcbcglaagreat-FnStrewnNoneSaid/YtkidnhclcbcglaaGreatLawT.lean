/- Numbers, texts and bytes as data of the interpreter. Types of objects: what the program and the reference take for one. Types of objects: the program's side. Graphs that are right: the program's test. Graphs that are right: the reference's test. -/
import Derived.Test.YtkidnhclcbcglaaGreatVmSlc
import Derived.Test.YtkidnhclcbcglaaGreatVmLst
import Derived.Test.YtkidnhclcbcglaaGreatVmSt
import Derived.Test.YtkidnhclcbcglaaGreatCode
open Nat renaming reduceAdd->Aa,reduceBEq->Ab
open List renaming getElem?_eq_getElem->Ac,getElem?_eq_some_iff->Ad,all_eq_true->Ae,mem_of_getElem?->Af,mem_iff_getElem->Ag
namespace Go.Proofs.YtkidnhclcbcglaaGreat.VM
open Go Sy
def vap (x:Int):PV:= .a (.int .i64 x)
theorem qsc (x:Int):vap x= .a (.int .i64 x):=rfl
attribute [go_sem] qsc
def eStr (s:ByteArray):PV:= .a (.string s)
theorem zb8:nfzL []=true:=rfl
theorem qlh {c:PV} {cs:List PV}:nfzL (c::cs)=(nfz c&&nfzL cs):=rfl
theorem zku {v:Value}:nfz (.a v)=true:=rfl
theorem zi0 {cs:List PV}:nfz (.st cs)=nfzL cs:=rfl
theorem zko {e:Nat} {es:List PV}:nfz (.sl e es)=nfzL es:=rfl
theorem zin:(true&&true)=true:=rfl
theorem qn6:∀{a b:List PV},nfzL (a++b)=(nfzL a&&nfzL b)
 | [],b=>by simp [nfzL]
 |x::a,b=>by simp [nfzL,qn6 (a:=a),Bool.and_assoc]
theorem vpc {α:Type} {f:α→PV} (h:∀x,nfz (f x)=true):∀l:List α,nfzL (l.map f)=true
 | []=>rfl
 |x::l=>by rw [List.map_cons,qlh,h,vpc h l];rfl
theorem qff (l:List Int):nfzL (l.map vap)=true:=vpc (fun _=>rfl) l
theorem ze1 (l:List ByteArray):nfzL (l.map eStr)=true:=vpc (fun _=>rfl) l
theorem qt2 (s:ByteArray):eStr s= .a (.string s):=rfl
attribute [go_sem] zb8 qlh zku zi0 zko zin qn6 qff ze1
attribute [go_sem] qt2
abbrev ch (s:ByteArray):List UInt8:=s.data.toList
theorem ved (s:ByteArray):s.size=(ch s).length:=by show s.data.size=_;simp [ch]
theorem qj8 {s:ByteArray} {i:Nat} {b:UInt8} (h:(ch s)[i]? =some b):byteAt s (i:Int)=some (.int .u8 b.toNat):=by
 have hi:i<s.data.size:=by have:=(Ad.1 h).1;simpa [ch] using this
 have hb:s[i]? =some b:=by
  have h1:s[i]? =some (s[i]'hi):=getElem?_pos s i hi;rw [h1];congr 1;have h2:s.data[i]=b:=by
   have:=h;simp only [ch,Array.getElem?_toList,Array.getElem?_eq_getElem hi,Option.some.injEq] at this;exact this
  exact h2
 unfold byteAt;rw [if_pos (Int.natCast_nonneg i),Int.toNat_natCast,hb];rfl
theorem vn2 {s:ByteArray} {i:Nat} {b:UInt8} (h:(ch s)[i]? =some b):ixT (.a (.string s)) (.a (.int .i64 (i:Nat)))=some (.a (.int .u8 b.toNat)):=by
 simp only [ixT,qj8 h,Option.map_some]
section
variable {α:Type}
end
section
variable {α:Type}
variable {m:Int→α→PV} {w:α→Nat}
end
end Go.Proofs.YtkidnhclcbcglaaGreat.VM
namespace Go.Proofs.YtkidnhclcbcglaaGreat.VM
open Go Sy
variable {Φ:Nat→Option Callee} {N:Nat}
set_option maxRecDepth 100000
set_option maxHeartbeats 8000000
def okC (b:UInt8):Bool:=decide ((b.toNat:Int)=105)||decide ((b.toNat:Int)=114)
def okType (s:ByteArray):Bool:=decide (1≤s.size∧s.size≤23)&&(ch s).all okC
def vg0 (ts:List ByteArray):Bool:=decide (1≤ts.length∧ts.length≤12)&&ts.all okType
theorem vd0 {n lo hi:Int}:vaf Φ N vh6 [.a (.int .i64 n),.a (.int .i64 lo),.a (.int .i64 hi)]=some ([.a (.bool (decide (lo≤n∧n≤hi)))],[]):=by
 rw [vag rfl];by_cases h1:lo≤n
 ·by_cases h2:n≤hi
  ·have:lo≤n∧n≤hi:=⟨h1,h2⟩
   simp -implicitDefEqProofs (disch:=first|exact zd|fail) only [go_sem,Aa,Ab,vh6,vpm]
  ·have:¬(lo≤n∧n≤hi):=fun h=>h2 h.2;simp -implicitDefEqProofs (disch:=first|exact zd|fail) only [go_sem,Aa,Ab,vh6,vpm]
 ·have:¬(lo≤n∧n≤hi):=fun h=>h1 h.1;simp -implicitDefEqProofs (disch:=first|exact zd|fail) only [go_sem,Aa,Ab,vh6,vpm]
attribute [go_sem] vd0
theorem qx7 {a b c:Int}:vaf Φ N vdb [.a (.int .i64 a),.a (.int .i64 b),.a (.int .i64 c)]=some ([.a (.bool (decide (b≤a∧a≤c)))],[]):=by
 rw [vag rfl];by_cases h1:b≤a
 ·by_cases h2:a≤c
  ·have:b≤a∧a≤c:=⟨h1,h2⟩
   simp -implicitDefEqProofs (disch:=first|exact zd|fail) only [go_sem,Aa,Ab,vdb,vhp]
  ·have:¬(b≤a∧a≤c):=fun h=>h2 h.2;simp -implicitDefEqProofs (disch:=first|exact zd|fail) only [go_sem,Aa,Ab,vdb,vhp]
 ·have:¬(b≤a∧a≤c):=fun h=>h1 h.1;simp -implicitDefEqProofs (disch:=first|exact zd|fail) only [go_sem,Aa,Ab,vdb,vhp]
attribute [go_sem] qx7
def S44 (s:ByteArray) (i:Nat):St:=⟨[(0,.a (.string s)),(3,.a (.int .i64 i))],[],0⟩
theorem qfi {s:ByteArray} (hs:s.size≤1048576) {i:Nat} {b:UInt8} (hb:(ch s)[i]? =some b):
  round Φ N [0,3] vin (S44 s i)=some (if okC b=true then (.nrm,S44 s (i+1)) else (.ret,⟨[(2,.a (.bool false))],[],1500⟩)):=by
 have hi:i<s.size:=by rw [ved];exact (Ad.1 hb).1
 have hx:=vn2 hb;have hw:=vat i zo;unfold round S44 vin okC;by_cases c1:(b.toNat:Int)=105
 ·rw [if_pos (by simp [c1])];simp -implicitDefEqProofs (disch:=first|exact zd|fail) only [go_sem,Aa,Ab,hx,hw]
  (show some _=some _;kernel_rfl)
 ·by_cases c2:(b.toNat:Int)=114
  ·rw [if_pos (by simp [c2])];simp -implicitDefEqProofs (disch:=first|exact zd|fail) only [go_sem,Aa,Ab,hx,hw]
   (show some _=some _;kernel_rfl)
  ·rw [if_neg (by simp [c1,c2])];simp -implicitDefEqProofs (disch:=first|exact zd|fail) only [go_sem,Aa,Ab,hx,hw]
theorem qgl (s:ByteArray) (hs:s.size≤1048576) (hN:s.size<N):
  va7 Φ N [0,3] vin (S44 s 0)=some (if (ch s).all okC=true then (.ext 0,⟨[(0,.a (.string s)),(3,.a (.int .i64 s.size)),(7,.a (.bool false))],[],400⟩) else (.ret,⟨[(2,.a (.bool false))],[],1500⟩)):=by
 refine vfh (S44 s) _ (fun i=>∀j b,j<i→(ch s)[j]? =some b→okC b=true) (m:=s.size) hN (fun j b h=>by omega) (by split<;>simp) (fun i hi hp=> ?_);by_cases hi':i<s.size
 ·obtain ⟨b,hb⟩:∃b,(ch s)[i]? =some b:=⟨_,Ac (by rw [←ved];exact hi')⟩
  rw [qfi hs hb];by_cases ho:okC b=true
  ·rw [if_pos ho];refine .inl ⟨hi',rfl,fun j y hj hy=> ?_⟩;by_cases hji:j=i
   ·subst hji;rw [hb] at hy;cases hy;exact ho
   ·exact hp j y zo hy
  ·rw [if_neg ho,if_neg]
   ·exact .inr rfl
   ·intro hall;exact ho (Ae.1 hall b (Af hb))
 ·obtain rfl:i=s.size:=by omega
  right
  rw [if_pos (Ae.2 fun b hb=>by
   obtain ⟨j,hj,rfl⟩:=Ag.1 hb
   exact hp j _ (by rw [ved];exact hj) (Ac hj))]
  unfold round S44 vin;simp -implicitDefEqProofs (disch:=first|exact zd|fail) only [go_sem,Aa,Ab]
theorem vyz {d:Nat} (s:ByteArray) (hs:s.size≤1048576):vaf (T (d+1)) vad vhm [.a (.string s)]=some ([.a (.bool (okType s))],[]):=by
 have key:=qgl (Φ:=T (d+1)) (N:=vad) s hs (vay zo);unfold S44 at key;rw [vag rfl];unfold okType;by_cases ha:(ch s).all okC=true
 ·rw [if_pos ha] at key;rw [ha,Bool.and_true];have:decide (1≤(s.size:Int)∧(s.size:Int)≤23)=decide (1≤s.size∧s.size≤23):=by
   congr 1;exact propext ⟨fun h=>by omega,fun h=>by omega⟩
  simp -implicitDefEqProofs (disch:=first|exact zd|fail) only [go_sem,Aa,Ab,vhm,vp0,vao key,this]
 ·rw [if_neg ha] at key;rw [show (ch s).all okC=false from by simpa using ha,Bool.and_false];simp -implicitDefEqProofs (disch:=first|exact zd|fail) only [go_sem,Aa,Ab,vhm,vp0,vhc key]
def S25 (ts:List ByteArray) (i:Nat):St:=⟨[(0,.sz va9 (ts.map eStr)),(3,.a (.int .i64 i))],[],0⟩
theorem vwk {d:Nat} (ts:List ByteArray) (hl:ts.length≤1048576) (hs:∀s∈ts,s.size≤1048576):
  va7 (T (d+2)) vad [0,3] vjn (S25 ts 0)=some (if ts.all okType=true then (.ext 0,⟨[(0,.sz va9 (ts.map eStr)),(3,.a (.int .i64 ts.length)),(11,.a (.bool false))],[],400⟩) else (.ret,⟨[(2,.a (.bool false))],[],1100⟩)):=by
 refine vfh (S25 ts) _ (fun i=>∀j b,j<i→ts[j]? =some b→okType b=true) (m:=ts.length) (vay zo) (fun j b h=>by omega) (by split<;>simp) (fun i hi hp=> ?_);by_cases hi':i<ts.length
 ·obtain ⟨b,hb⟩:∃b,ts[i]? =some b:=⟨_,Ac hi'⟩
  have hc:=vyz (d:=d) b (hs b (Af hb));have hw:=vat i zo;unfold round S25 vjn;by_cases ho:okType b=true
  ·rw [ho] at hc;refine .inl ⟨hi',?_,fun j y hj hy=> ?_⟩
   ·simp -implicitDefEqProofs (disch:=first|exact zd|fail) only [go_sem,Aa,Ab,hb,hc,hw];rfl
   ·by_cases hji:j=i
    ·subst hji;rw [hb] at hy;cases hy;exact ho
    ·exact hp j y zo hy
  ·rw [show okType b=false from by simpa using ho] at hc;right;rw [if_neg (fun hall=>ho (Ae.1 hall b (Af hb)))];simp -implicitDefEqProofs (disch:=first|exact zd|fail) only [go_sem,Aa,Ab,hb,hc,hw]
 ·obtain rfl:i=ts.length:=by omega
  right
  rw [if_pos (Ae.2 fun b hb=>by
   obtain ⟨j,hj,rfl⟩:=Ag.1 hb
   exact hp j _ hj (Ac hj))]
  unfold round S25 vjn;simp -implicitDefEqProofs (disch:=first|exact zd|fail) only [go_sem,Aa,Ab]
theorem qs6 (ts:List ByteArray):decide (1≤(ts.length:Int)∧(ts.length:Int)≤12)=decide (1≤ts.length∧ts.length≤12):=by
 congr 1;exact propext ⟨fun h=>by omega,fun h=>by omega⟩
theorem vm3 {d:Nat} (ts:List ByteArray) (hl:ts.length≤1048576) (hs:∀s∈ts,s.size≤1048576):vaf (T (d+2)) vad ve9 [.sl true va9 (ts.map eStr)]=some ([.a (.bool (vg0 ts))],[]):=by
 have key:=vwk (d:=d) ts hl hs;unfold S25 at key;rw [vag rfl];unfold vg0;have hd:=qs6 ts;cases hb:decide (1≤ts.length∧ts.length≤12)
 ·rw [hb] at hd;simp -implicitDefEqProofs (disch:=first|exact zd|fail) only [go_sem,Aa,Ab,ve9,vlb,hd]
 ·rw [hb] at hd;by_cases ha:ts.all okType=true
  ·rw [if_pos ha] at key;rw [ha];simp -implicitDefEqProofs (disch:=first|exact zd|fail) only [go_sem,Aa,Ab,ve9,vlb,hd,vao key]
  ·rw [if_neg ha] at key;rw [show ts.all okType=false from by simpa using ha];simp -implicitDefEqProofs (disch:=first|exact zd|fail) only [go_sem,Aa,Ab,ve9,vlb,hd,vhc key]
theorem vvm {α:Type} {q:α→Bool} {l:List α} {i:Nat} {x:α} (hx:l[i]? =some x) (hq:q x=true) (hp:∀(j:Nat) (y:α),j<i→l[j]? =some y→q y=false):l.findIdx? q=some i:=by
 rw [List.findIdx?_eq_some_iff_getElem];obtain ⟨hi,rfl⟩:=Ad.1 hx;refine ⟨hi,hq,fun j hj=> ?_⟩;have:=hp j _ hj (Ac (Nat.lt_trans hj hi));simp [this]
theorem vvj {α:Type} {q:α→Bool} {l:List α} (hp:∀(j:Nat) (y:α),l[j]? =some y→q y=false):l.findIdx? q=none:=by
 rw [List.findIdx?_eq_none_iff];intro x hx;obtain ⟨j,hj,rfl⟩:=Ag.1 hx;exact hp j _ (Ac hj)
def idxOf {α:Type} (q:α→Bool) (l:List α):Int:=match l.findIdx? q with|some i=>i|none=> -1
structure Obj' where
 ty:Int
 vals:List Int
structure Gr where
 roots:List Int
 nodes:List Obj'
def eObj (o:Obj'):PV:= .st [vap o.ty,.sl vam (o.vals.map vap)]
theorem qg2 (o:Obj'):eObj o= .st [.a (.int .i64 o.ty),.sl vam (o.vals.map vap)]:=rfl
attribute [go_sem] qg2
theorem zch (l:List Obj'):nfzL (l.map eObj)=true:=vpc (fun o=>by show (true&&(nfzL (o.vals.map vap)&&true))=true;rw [qff];rfl) l
attribute [go_sem] zch
abbrev cObj (z:Bool) (o:Obj'):CV:= .st [.a (.int .i64 o.ty),.sl z vam (o.vals.map vap)]
abbrev cGr (z:Bool) (g:Gr):CV:= .st [.sl z vam (g.roots.map vap),.sl z vau (g.nodes.map eObj)]
def isN (n:Nat) (v:Int):Bool:=decide (0≤v∧v≤(n:Int))
def refAt (s:ByteArray) (k:Nat):Bool:=match (ch s)[k]? with|some b=>decide ((b.toNat:Int)=114)|none=>false
def badV (s:ByteArray) (n k:Nat) (v:Int):Bool:=refAt s k&& !isN n v
def okVals (s:ByteArray) (n:Nat):Nat→List Int→Bool
 |_,[]=>true
 |k,v::l=> !badV s n k v&&okVals s n (k+1) l
theorem vtm {s:ByteArray} {n:Nat}:∀{l:List Int} {k:Nat},okVals s n k l=true↔∀(j:Nat) v,l[j]? =some v→badV s n (k+j) v=false
 | [],k=>by simp [okVals]
 |w::l,k=>by
  rw [okVals,Bool.and_eq_true,vtm,Bool.not_eq_true'];constructor
  ·rintro ⟨h1,h2⟩ j v hj
   cases j with
   |zero=>cases hj;exact h1
   |succ j=>rw [show k+(j+1)=k+1+j by omega];exact h2 j v (by simpa using hj)
  ·intro h;exact ⟨h 0 w rfl,fun j v hj=>by have:=h (j+1) v (by simpa using hj);rwa [show k+(j+1)=k+1+j by omega] at this⟩
def objOk (ts:List ByteArray) (n:Nat) (o:Obj'):Bool:=match ts[o.ty.toNat]? with
 |some s=>decide (0≤o.ty)&&(decide (o.vals.length=s.size)&&okVals s n 0 o.vals)
 |none=>false
def graphOk (ts:List ByteArray) (g:Gr):Bool:=vg0 ts&&(decide (g.roots.length≤40)&&(decide (g.nodes.length≤400)&&(g.roots.all (isN g.nodes.length)&&g.nodes.all (objOk ts g.nodes.length))))
structure Small (ts:List ByteArray) (g:Gr):Prop where
 tl:ts.length≤1048576
 sz:∀s∈ts,s.size≤1048576
 roots:g.roots.length≤1048576
 nodes:g.nodes.length≤1048576
 vals:∀o∈g.nodes,o.vals.length≤1048576

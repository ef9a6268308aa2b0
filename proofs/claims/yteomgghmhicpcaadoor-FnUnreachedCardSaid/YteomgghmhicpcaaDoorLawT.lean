/- Numbers, texts and bytes as data of the interpreter. Types of objects: what the program and the reference take for one. Types of objects: the program's side. Graphs that are right: the program's test. Graphs that are right: the reference's test. -/
import Derived.Test.YteomgghmhicpcaaDoorVmSlc
import Derived.Test.YteomgghmhicpcaaDoorVmLst
import Derived.Test.YteomgghmhicpcaaDoorVmSt
import Derived.Test.YteomgghmhicpcaaDoorCode
namespace Go.Proofs.YteomgghmhicpcaaDoor.VM
open Go Sy
def eInt (x:Int):PV:= .a (.int .i64 x)
theorem vyj (x:Int):eInt x= .a (.int .i64 x):=rfl
attribute [go_sem] vyj
def eStr (s:ByteArray):PV:= .a (.string s)
theorem vx6 (s:ByteArray):eStr s= .a (.string s):=rfl
attribute [go_sem] vx6
abbrev ch (s:ByteArray):List UInt8:=s.data.toList
theorem vck (s:ByteArray):s.size=(ch s).length:=by show s.data.size=_;simp [ch]
theorem vtm {s:ByteArray} {i:Nat} {b:UInt8} (h:(ch s)[i]? =some b):byteAt s (i:Int)=some (.int .u8 b.toNat):=by
 have hi:i<s.data.size:=by have:=(List.getElem?_eq_some_iff.1 h).1;simpa [ch] using this
 have hb:s[i]? =some b:=by
  have h1:s[i]? =some (s[i]'hi):=getElem?_pos s i hi
  rw [h1]
  congr 1
  have h2:s.data[i]=b:=by
   have:=h
   simp only [ch,Array.getElem?_toList,Array.getElem?_eq_getElem hi,Option.some.injEq] at this
   exact this
  exact h2
 unfold byteAt
 rw [if_pos (Int.natCast_nonneg i),Int.toNat_natCast,hb]
 rfl
theorem vd1 {s:ByteArray} {i:Nat} {b:UInt8} (h:(ch s)[i]? =some b):ixT (.a (.string s)) (.a (.int .i64 (i:Nat)))=some (.a (.int .u8 b.toNat)):=by
 simp only [ixT,vtm h,Option.map_some]
section
variable {α:Type}
def mix (M l:List α) (i:Nat):List α:=M.take i++l.drop i
theorem qir {M l:List α}:mix M l 0=l:=by simp [mix]
theorem qlt {M l:List α} {n:Nat} (h:M.length=l.length) (hn:n=l.length):mix M l n=M:=by subst hn;simp [mix,←h]
theorem qda {M l:List α} {i:Nat} (h:M.length=l.length):(mix M l i).length=l.length:=by simp [mix];omega
theorem qm4 {M l:List α} {i:Nat} {x:α} (h:M.length=l.length) (hx:l[i]? =some x):(mix M l i)[i]? =some x:=by
 have hi:=(List.getElem?_eq_some_iff.1 hx).1
 have:(M.take i).length=i:=by rw [List.length_take];omega
 rw [mix,List.getElem?_append_right (by omega),this,Nat.sub_self,List.getElem?_drop]
 simpa using hx
theorem qmr {M l:List α} {i:Nat} {y:α} (h:M.length=l.length) (hy:M[i]? =some y):(mix M l i).set i y=mix M l (i+1):=by
 have hi:=(List.getElem?_eq_some_iff.1 hy).1
 have h1:(M.take i).length=i:=by rw [List.length_take];omega
 unfold mix
 rw [List.set_append_right _ _ (by omega),h1,Nat.sub_self,List.take_add_one,hy,List.append_assoc]
 congr 1
 rw [List.drop_eq_getElem_cons (by omega)]
 rfl
end
section
variable {α:Type}
def marksOf (m:Int→α→PV) (w:α→Nat):Int→List α→List PV
 |_,[]=> []
 |k,x::l=>m k x::marksOf m w (k+w x) l
def wsum (w:α→Nat):List α→Nat
 | []=>0
 |x::l=>w x+wsum w l
variable {m:Int→α→PV} {w:α→Nat}
theorem vix (l l':List α):wsum w (l++l')=wsum w l+wsum w l':=by
 induction l with
 |nil=>simp [wsum]
 |cons x l ih=>simp [wsum,ih];omega
theorem vtl {l:List α} {i:Nat} {x:α} (h:l[i]? =some x):wsum w (l.take (i+1))=wsum w (l.take i)+w x:=by
 rw [List.take_add_one,h,vix];simp [wsum]
theorem qm5 {l:List α} {i:Nat} {x:α} (h:l[i]? =some x):wsum w (l.take i)+w x≤wsum w l:=by
 rw [←vtl h]
 conv=>rhs;rw [←List.take_append_drop (i+1) l]
 rw [vix];omega
theorem vx2 {k:Int} {l:List α}:(marksOf m w k l).length=l.length:=by
 induction l generalizing k with
 |nil=>rfl
 |cons x l ih=>simp [marksOf,ih]
theorem qc0 {k:Int} {l:List α} {i:Nat} {x:α} (h:l[i]? =some x):(marksOf m w k l)[i]? =some (m (k+wsum w (l.take i)) x):=by
 induction l generalizing k i with
 |nil=>cases h
 |cons y l ih=>
  cases i with
  |zero=>cases h;simp [marksOf,wsum]
  |succ i=>
   rw [List.getElem?_cons_succ] at h
   simp only [marksOf,List.getElem?_cons_succ,ih h,List.take_succ_cons,wsum]
   congr 2
   omega
end
end Go.Proofs.YteomgghmhicpcaaDoor.VM
namespace Go.Proofs.YteomgghmhicpcaaDoor.VM
open Go Sy
variable {Φ:Nat→Option Callee} {N:Nat}
def okC (b:UInt8):Bool:=decide ((b.toNat:Int)=105)||decide ((b.toNat:Int)=114)
def okType (s:ByteArray):Bool:=decide (1≤s.size∧s.size≤23)&&(ch s).all okC
def typesOk (ts:List ByteArray):Bool:=decide (1≤ts.length∧ts.length≤12)&&ts.all okType
@[go_sem] theorem vi8 {n lo hi:Int}:runFn Φ N f_spec_l1In [.a (.int .i64 n),.a (.int .i64 lo),.a (.int .i64 hi)]=some ([.a (.bool (decide (lo≤n∧n≤hi)))],[]):=by
 rw [vae rfl]
 by_cases h1:lo≤n
 ·by_cases h2:n≤hi
  ·have:lo≤n∧n≤hi:=⟨h1,h2⟩
   simp (maxSteps:=3000000) (implicitDefEqProofs:=false) (disch:=first|assumption|(refine ofR ?_;show norm _ _=_;kernel_rfl)|(refine ofR ?_;show okD _ _ _ _=true;kernel_rfl)|exact ofR (by with_unfolding_all rfl)|exact ofB (by with_unfolding_all rfl)|omega|(simp only [go_sem,vab];omega)) only [go_sem,Nat.reduceAdd,Nat.reduceBEq,f_spec_l1In,c_spec_l1In]
  ·have:¬(lo≤n∧n≤hi):=fun h=>h2 h.2
   simp (maxSteps:=3000000) (implicitDefEqProofs:=false) (disch:=first|assumption|(refine ofR ?_;show norm _ _=_;kernel_rfl)|(refine ofR ?_;show okD _ _ _ _=true;kernel_rfl)|exact ofR (by with_unfolding_all rfl)|exact ofB (by with_unfolding_all rfl)|omega|(simp only [go_sem,vab];omega)) only [go_sem,Nat.reduceAdd,Nat.reduceBEq,f_spec_l1In,c_spec_l1In]
 ·have:¬(lo≤n∧n≤hi):=fun h=>h1 h.1
  simp (maxSteps:=3000000) (implicitDefEqProofs:=false) (disch:=first|assumption|(refine ofR ?_;show norm _ _=_;kernel_rfl)|(refine ofR ?_;show okD _ _ _ _=true;kernel_rfl)|exact ofR (by with_unfolding_all rfl)|exact ofB (by with_unfolding_all rfl)|omega|(simp only [go_sem,vab];omega)) only [go_sem,Nat.reduceAdd,Nat.reduceBEq,f_spec_l1In,c_spec_l1In]
@[go_sem] theorem qep {a b c:Int}:runFn Φ N f_impl_within [.a (.int .i64 a),.a (.int .i64 b),.a (.int .i64 c)]=some ([.a (.bool (decide (b≤a∧a≤c)))],[]):=by
 rw [vae rfl]
 by_cases h1:b≤a
 ·by_cases h2:a≤c
  ·have:b≤a∧a≤c:=⟨h1,h2⟩
   simp (maxSteps:=3000000) (implicitDefEqProofs:=false) (disch:=first|assumption|(refine ofR ?_;show norm _ _=_;kernel_rfl)|(refine ofR ?_;show okD _ _ _ _=true;kernel_rfl)|exact ofR (by with_unfolding_all rfl)|exact ofB (by with_unfolding_all rfl)|omega|(simp only [go_sem,vab];omega)) only [go_sem,Nat.reduceAdd,Nat.reduceBEq,f_impl_within,c_impl_within]
  ·have:¬(b≤a∧a≤c):=fun h=>h2 h.2
   simp (maxSteps:=3000000) (implicitDefEqProofs:=false) (disch:=first|assumption|(refine ofR ?_;show norm _ _=_;kernel_rfl)|(refine ofR ?_;show okD _ _ _ _=true;kernel_rfl)|exact ofR (by with_unfolding_all rfl)|exact ofB (by with_unfolding_all rfl)|omega|(simp only [go_sem,vab];omega)) only [go_sem,Nat.reduceAdd,Nat.reduceBEq,f_impl_within,c_impl_within]
 ·have:¬(b≤a∧a≤c):=fun h=>h1 h.1
  simp (maxSteps:=3000000) (implicitDefEqProofs:=false) (disch:=first|assumption|(refine ofR ?_;show norm _ _=_;kernel_rfl)|(refine ofR ?_;show okD _ _ _ _=true;kernel_rfl)|exact ofR (by with_unfolding_all rfl)|exact ofB (by with_unfolding_all rfl)|omega|(simp only [go_sem,vab];omega)) only [go_sem,Nat.reduceAdd,Nat.reduceBEq,f_impl_within,c_impl_within]
@[go_sem] theorem qck {e:Nat} {es:List PV}:runFn Φ N f_impl_size_string [.sl true e es]=some ([.a (.int .i64 es.length)],[]):=by
 rw [vae rfl]
 simp (maxSteps:=3000000) (implicitDefEqProofs:=false) (disch:=first|assumption|(refine ofR ?_;show norm _ _=_;kernel_rfl)|(refine ofR ?_;show okD _ _ _ _=true;kernel_rfl)|exact ofR (by with_unfolding_all rfl)|exact ofB (by with_unfolding_all rfl)|omega|(simp only [go_sem,vab];omega)) only [go_sem,Nat.reduceAdd,Nat.reduceBEq,f_impl_size_string,c_impl_size_string]
@[go_sem] theorem qcn {e:Nat} {es:List PV}:runFn Φ N f_impl_size_impl_Obj [.sl true e es]=some ([.a (.int .i64 es.length)],[]):=by
 rw [vae rfl]
 simp (maxSteps:=3000000) (implicitDefEqProofs:=false) (disch:=first|assumption|(refine ofR ?_;show norm _ _=_;kernel_rfl)|(refine ofR ?_;show okD _ _ _ _=true;kernel_rfl)|exact ofR (by with_unfolding_all rfl)|exact ofB (by with_unfolding_all rfl)|omega|(simp only [go_sem,vab];omega)) only [go_sem,Nat.reduceAdd,Nat.reduceBEq,f_impl_size_impl_Obj,c_impl_size_impl_Obj]
def S44 (s:ByteArray) (i:Nat):St:=⟨[(0,.a (.string s)),(3,.a (.int .i64 i))],[],0⟩
theorem vpe {s:ByteArray} (hs:s.size≤1048576) {i:Nat} {b:UInt8} (hb:(ch s)[i]? =some b):
  round Φ N [0,3] c_spec_l3Type_L0 (S44 s i)=some (if okC b=true then (.nrm,S44 s (i+1)) else (.ret,⟨[(2,.a (.bool false))],[],1500⟩)):=by
 have hi:i<s.size:=by rw [vck];exact (List.getElem?_eq_some_iff.1 hb).1
 have hx:=vd1 hb
 have hw:=vag i (by omega)
 unfold round S44 c_spec_l3Type_L0 okC
 by_cases c1:(b.toNat:Int)=105
 ·rw [if_pos (by simp [c1])]
  simp (maxSteps:=3000000) (implicitDefEqProofs:=false) (disch:=first|assumption|(refine ofR ?_;show norm _ _=_;kernel_rfl)|(refine ofR ?_;show okD _ _ _ _=true;kernel_rfl)|exact ofR (by with_unfolding_all rfl)|exact ofB (by with_unfolding_all rfl)|omega|(simp only [go_sem,vab];omega)) only [go_sem,Nat.reduceAdd,Nat.reduceBEq,hx,hw]
  (show some _=some _;kernel_rfl)
 ·by_cases c2:(b.toNat:Int)=114
  ·rw [if_pos (by simp [c2])]
   simp (maxSteps:=3000000) (implicitDefEqProofs:=false) (disch:=first|assumption|(refine ofR ?_;show norm _ _=_;kernel_rfl)|(refine ofR ?_;show okD _ _ _ _=true;kernel_rfl)|exact ofR (by with_unfolding_all rfl)|exact ofB (by with_unfolding_all rfl)|omega|(simp only [go_sem,vab];omega)) only [go_sem,Nat.reduceAdd,Nat.reduceBEq,hx,hw]
   (show some _=some _;kernel_rfl)
  ·rw [if_neg (by simp [c1,c2])]
   simp (maxSteps:=3000000) (implicitDefEqProofs:=false) (disch:=first|assumption|(refine ofR ?_;show norm _ _=_;kernel_rfl)|(refine ofR ?_;show okD _ _ _ _=true;kernel_rfl)|exact ofR (by with_unfolding_all rfl)|exact ofB (by with_unfolding_all rfl)|omega|(simp only [go_sem,vab];omega)) only [go_sem,Nat.reduceAdd,Nat.reduceBEq,hx,hw]
theorem vp6 (s:ByteArray) (hs:s.size≤1048576) (hN:s.size<N):
  loopE Φ N [0,3] c_spec_l3Type_L0 (S44 s 0)=some (if (ch s).all okC=true then (.ext 0,⟨[(0,.a (.string s)),(3,.a (.int .i64 s.size)),(7,.a (.bool false))],[],400⟩) else (.ret,⟨[(2,.a (.bool false))],[],1500⟩)):=by
 refine vbf (S44 s) _ (fun i=>∀j b,j<i→(ch s)[j]? =some b→okC b=true) (m:=s.size) hN (fun j b h=>by omega) (by split<;>simp) (fun i hi hp=> ?_)
 by_cases hi':i<s.size
 ·obtain ⟨b,hb⟩:∃b,(ch s)[i]? =some b:=⟨_,List.getElem?_eq_getElem (by rw [←vck];exact hi')⟩
  rw [vpe hs hb]
  by_cases ho:okC b=true
  ·rw [if_pos ho]
   refine .inl ⟨hi',rfl,fun j y hj hy=> ?_⟩
   by_cases hji:j=i
   ·subst hji;rw [hb] at hy;cases hy;exact ho
   ·exact hp j y (by omega) hy
  ·rw [if_neg ho,if_neg]
   ·exact .inr rfl
   ·intro hall
    exact ho (List.all_eq_true.1 hall b (List.mem_of_getElem? hb))
 ·obtain rfl:i=s.size:=by omega
  right
  rw [if_pos (List.all_eq_true.2 fun b hb=>by
   obtain ⟨j,hj,rfl⟩:=List.mem_iff_getElem.1 hb
   exact hp j _ (by rw [vck];exact hj) (List.getElem?_eq_getElem hj))]
  unfold round S44 c_spec_l3Type_L0
  simp (maxSteps:=3000000) (implicitDefEqProofs:=false) (disch:=first|assumption|(refine ofR ?_;show norm _ _=_;kernel_rfl)|(refine ofR ?_;show okD _ _ _ _=true;kernel_rfl)|exact ofR (by with_unfolding_all rfl)|exact ofB (by with_unfolding_all rfl)|omega|(simp only [go_sem,vab];omega)) only [go_sem,Nat.reduceAdd,Nat.reduceBEq]
theorem vk8 {d:Nat} (s:ByteArray) (hs:s.size≤1048576):runFn (T (d+1)) fuel f_spec_l3Type [.a (.string s)]=some ([.a (.bool (okType s))],[]):=by
 have key:=vp6 (Φ:=T (d+1)) (N:=fuel) s hs (vas (by omega))
 unfold S44 at key
 rw [vae rfl]
 unfold okType
 by_cases ha:(ch s).all okC=true
 ·rw [if_pos ha] at key
  rw [ha,Bool.and_true]
  have:decide (1≤(s.size:Int)∧(s.size:Int)≤23)=decide (1≤s.size∧s.size≤23):=by
   congr 1;exact propext ⟨fun h=>by omega,fun h=>by omega⟩
  simp (maxSteps:=3000000) (implicitDefEqProofs:=false) (disch:=first|assumption|(refine ofR ?_;show norm _ _=_;kernel_rfl)|(refine ofR ?_;show okD _ _ _ _=true;kernel_rfl)|exact ofR (by with_unfolding_all rfl)|exact ofB (by with_unfolding_all rfl)|omega|(simp only [go_sem,vab];omega)) only [go_sem,Nat.reduceAdd,Nat.reduceBEq,f_spec_l3Type,c_spec_l3Type,vah key,this]
 ·rw [if_neg ha] at key
  rw [show (ch s).all okC=false from by simpa using ha,Bool.and_false]
  simp (maxSteps:=3000000) (implicitDefEqProofs:=false) (disch:=first|assumption|(refine ofR ?_;show norm _ _=_;kernel_rfl)|(refine ofR ?_;show okD _ _ _ _=true;kernel_rfl)|exact ofR (by with_unfolding_all rfl)|exact ofB (by with_unfolding_all rfl)|omega|(simp only [go_sem,vab];omega)) only [go_sem,Nat.reduceAdd,Nat.reduceBEq,f_spec_l3Type,c_spec_l3Type,vbo key]
def S25 (ts:List ByteArray) (i:Nat):St:=⟨[(0,.sz t_string (ts.map eStr)),(3,.a (.int .i64 i))],[],0⟩
theorem vii {d:Nat} (ts:List ByteArray) (hl:ts.length≤1048576) (hs:∀s∈ts,s.size≤1048576):
  loopE (T (d+2)) fuel [0,3] c_spec_TypesOk_L0 (S25 ts 0)=some (if ts.all okType=true then (.ext 0,⟨[(0,.sz t_string (ts.map eStr)),(3,.a (.int .i64 ts.length)),(11,.a (.bool false))],[],400⟩) else (.ret,⟨[(2,.a (.bool false))],[],1100⟩)):=by
 refine vbf (S25 ts) _ (fun i=>∀j b,j<i→ts[j]? =some b→okType b=true) (m:=ts.length) (vas (by omega)) (fun j b h=>by omega) (by split<;>simp) (fun i hi hp=> ?_)
 by_cases hi':i<ts.length
 ·obtain ⟨b,hb⟩:∃b,ts[i]? =some b:=⟨_,List.getElem?_eq_getElem hi'⟩
  have hc:=vk8 (d:=d) b (hs b (List.mem_of_getElem? hb))
  have hw:=vag i (by omega)
  unfold round S25 c_spec_TypesOk_L0
  by_cases ho:okType b=true
  ·rw [ho] at hc
   refine .inl ⟨hi',?_,fun j y hj hy=> ?_⟩
   ·simp (maxSteps:=3000000) (implicitDefEqProofs:=false) (disch:=first|assumption|(refine ofR ?_;show norm _ _=_;kernel_rfl)|(refine ofR ?_;show okD _ _ _ _=true;kernel_rfl)|exact ofR (by with_unfolding_all rfl)|exact ofB (by with_unfolding_all rfl)|omega|(simp only [go_sem,vab];omega)) only [go_sem,Nat.reduceAdd,Nat.reduceBEq,hb,hc,hw]
    rfl
   ·by_cases hji:j=i
    ·subst hji;rw [hb] at hy;cases hy;exact ho
    ·exact hp j y (by omega) hy
  ·rw [show okType b=false from by simpa using ho] at hc
   right
   rw [if_neg (fun hall=>ho (List.all_eq_true.1 hall b (List.mem_of_getElem? hb)))]
   simp (maxSteps:=3000000) (implicitDefEqProofs:=false) (disch:=first|assumption|(refine ofR ?_;show norm _ _=_;kernel_rfl)|(refine ofR ?_;show okD _ _ _ _=true;kernel_rfl)|exact ofR (by with_unfolding_all rfl)|exact ofB (by with_unfolding_all rfl)|omega|(simp only [go_sem,vab];omega)) only [go_sem,Nat.reduceAdd,Nat.reduceBEq,hb,hc,hw]
 ·obtain rfl:i=ts.length:=by omega
  right
  rw [if_pos (List.all_eq_true.2 fun b hb=>by
   obtain ⟨j,hj,rfl⟩:=List.mem_iff_getElem.1 hb
   exact hp j _ hj (List.getElem?_eq_getElem hj))]
  unfold round S25 c_spec_TypesOk_L0
  simp (maxSteps:=3000000) (implicitDefEqProofs:=false) (disch:=first|assumption|(refine ofR ?_;show norm _ _=_;kernel_rfl)|(refine ofR ?_;show okD _ _ _ _=true;kernel_rfl)|exact ofR (by with_unfolding_all rfl)|exact ofB (by with_unfolding_all rfl)|omega|(simp only [go_sem,vab];omega)) only [go_sem,Nat.reduceAdd,Nat.reduceBEq]
theorem vrg (ts:List ByteArray):decide (1≤(ts.length:Int)∧(ts.length:Int)≤12)=decide (1≤ts.length∧ts.length≤12):=by
 congr 1;exact propext ⟨fun h=>by omega,fun h=>by omega⟩
theorem vjh {d:Nat} (ts:List ByteArray) (hl:ts.length≤1048576) (hs:∀s∈ts,s.size≤1048576):runFn (T (d+2)) fuel f_spec_TypesOk [.sl true t_string (ts.map eStr)]=some ([.a (.bool (typesOk ts))],[]):=by
 have key:=vii (d:=d) ts hl hs
 unfold S25 at key
 rw [vae rfl]
 unfold typesOk
 have hd:=vrg ts
 cases hb:decide (1≤ts.length∧ts.length≤12)
 ·rw [hb] at hd
  simp (maxSteps:=3000000) (implicitDefEqProofs:=false) (disch:=first|assumption|(refine ofR ?_;show norm _ _=_;kernel_rfl)|(refine ofR ?_;show okD _ _ _ _=true;kernel_rfl)|exact ofR (by with_unfolding_all rfl)|exact ofB (by with_unfolding_all rfl)|omega|(simp only [go_sem,vab];omega)) only [go_sem,Nat.reduceAdd,Nat.reduceBEq,f_spec_TypesOk,c_spec_TypesOk,hd]
 ·rw [hb] at hd
  by_cases ha:ts.all okType=true
  ·rw [if_pos ha] at key
   rw [ha]
   simp (maxSteps:=3000000) (implicitDefEqProofs:=false) (disch:=first|assumption|(refine ofR ?_;show norm _ _=_;kernel_rfl)|(refine ofR ?_;show okD _ _ _ _=true;kernel_rfl)|exact ofR (by with_unfolding_all rfl)|exact ofB (by with_unfolding_all rfl)|omega|(simp only [go_sem,vab];omega)) only [go_sem,Nat.reduceAdd,Nat.reduceBEq,f_spec_TypesOk,c_spec_TypesOk,hd,vah key]
  ·rw [if_neg ha] at key
   rw [show ts.all okType=false from by simpa using ha]
   simp (maxSteps:=3000000) (implicitDefEqProofs:=false) (disch:=first|assumption|(refine ofR ?_;show norm _ _=_;kernel_rfl)|(refine ofR ?_;show okD _ _ _ _=true;kernel_rfl)|exact ofR (by with_unfolding_all rfl)|exact ofB (by with_unfolding_all rfl)|omega|(simp only [go_sem,vab];omega)) only [go_sem,Nat.reduceAdd,Nat.reduceBEq,f_spec_TypesOk,c_spec_TypesOk,hd,vbo key]
end Go.Proofs.YteomgghmhicpcaaDoor.VM
namespace Go.Proofs.YteomgghmhicpcaaDoor.VM
open Go Sy
variable {Φ:Nat→Option Callee} {N:Nat}
theorem vdi {α:Type} {q:α→Bool} {l:List α} {i:Nat} {x:α} (hx:l[i]? =some x) (hq:q x=true) (hp:∀(j:Nat) (y:α),j<i→l[j]? =some y→q y=false):l.findIdx? q=some i:=by
 rw [List.findIdx?_eq_some_iff_getElem]
 obtain ⟨hi,rfl⟩:=List.getElem?_eq_some_iff.1 hx
 refine ⟨hi,hq,fun j hj=> ?_⟩
 have:=hp j _ hj (List.getElem?_eq_getElem (Nat.lt_trans hj hi))
 simp [this]
theorem vde {α:Type} {q:α→Bool} {l:List α} (hp:∀(j:Nat) (y:α),l[j]? =some y→q y=false):l.findIdx? q=none:=by
 rw [List.findIdx?_eq_none_iff]
 intro x hx
 obtain ⟨j,hj,rfl⟩:=List.mem_iff_getElem.1 hx
 exact hp j _ (List.getElem?_eq_getElem hj)
def idxOf {α:Type} (q:α→Bool) (l:List α):Int:=match l.findIdx? q with|some i=>i|none=> -1
theorem vg8 {α:Type} (q:α→Bool) (l:List α):decide (0≤idxOf q l)=l.any q:=by
 unfold idxOf
 cases h:l.findIdx? q with
 |some i=>
  obtain ⟨hi,h1,_⟩:=List.findIdx?_eq_some_iff_getElem.1 h
  rw [show l.any q=true from List.any_eq_true.2 ⟨_,List.getElem_mem hi,h1⟩]
  simp
 |none=>
  rw [List.findIdx?_eq_none_iff] at h
  rw [show l.any q=false from by rw [List.any_eq_false];intro x hx;simp [h x hx]]
  simp
theorem vq2 {b:UInt8} {n:Nat} (hn:n<256):((b.toNat:Int)=(n:Int))↔b=UInt8.ofNat n:=by
 constructor
 ·intro h
  apply UInt8.toNat_inj.1
  rw [UInt8.toNat_ofNat',Nat.mod_eq_of_lt hn]
  exact_mod_cast h
 ·rintro rfl
  rw [UInt8.toNat_ofNat',Nat.mod_eq_of_lt hn]
theorem vzd (b:UInt8):okC b= [(105:UInt8),114].contains b:=by
 have h1:((b.toNat:Int)=105)↔b=105:=vq2 (b:=b) (n:=105) (by omega)
 have h2:((b.toNat:Int)=114)↔b=114:=vq2 (b:=b) (n:=114) (by omega)
 unfold okC
 rw [decide_eq_decide.2 h1,decide_eq_decide.2 h2]
 simp only [List.contains_cons,List.contains_nil,Bool.or_false]
 rfl
theorem vc1 {α:Type} (p:α→Bool):∀(l:List α),l.dropWhile p= []↔l.all p=true
 | []=>by simp
 |a::l=>by
  simp only [List.dropWhile,List.all_cons]
  cases h:p a
  ·simp
  ·simpa using vc1 p l
theorem vvp (l:List UInt8):Lib.trimS l [105,114]= []↔l.all okC=true:=by
 have e:okC=fun b=> [(105:UInt8),114].contains b:=funext vzd
 rw [e]
 unfold Lib.trimS Lib.trimLeftS Lib.trimRightS
 rw [vc1]
 constructor
 ·intro h
  have h2:(l.reverse.dropWhile ([(105:UInt8),114].contains ·)).all ([(105:UInt8),114].contains ·)=true:=by simpa using h
  cases hd:l.reverse.dropWhile ([(105:UInt8),114].contains ·) with
  |nil=>
   have:=(vc1 _ _).1 hd
   simpa using this
  |cons a r=>
   have h3:=List.head?_dropWhile_not ([(105:UInt8),114].contains ·) l.reverse
   rw [hd] at h3 h2
   simp only [List.head?_cons,List.all_cons,Bool.and_eq_true] at h3 h2
   rw [h2.1] at h3
   cases h3
 ·intro h
  rw [(vc1 _ _).2 (by simpa using h)]
  rfl
theorem vsk {d:Nat} (s:ByteArray) (hs:s.size≤1048576):runFn (T (d+1)) fuel f_impl_isType [.a (.string s)]=some ([.a (.bool (okType s))],[]):=by
 have ht:trimGo [.a (.string s),.a (.string ⟨#[105,114]⟩)]=some ([.a (.string ⟨(Lib.trimS (ch s) [105,114]).toArray⟩)],[]):=by
  simp only [trimGo]
  rw [if_pos ⟨by omega,by decide,by decide⟩]
 have hd:decide ((⟨(Lib.trimS (ch s) [105,114]).toArray⟩:ByteArray)=⟨#[]⟩)=(ch s).all okC:=by
  rw [Bool.eq_iff_iff,decide_eq_true_eq,←vvp]
  constructor
  ·intro h
   have:=congrArg (fun b:ByteArray=>b.data.toList) h
   simpa using this
  ·intro h;rw [h]
 have hz:decide (1≤(s.size:Int)∧(s.size:Int)≤23)=decide (1≤s.size∧s.size≤23):=by
  congr 1;exact propext ⟨fun h=>by omega,fun h=>by omega⟩
 rw [vae rfl]
 unfold okType
 cases hb:decide (1≤s.size∧s.size≤23)
 ·rw [hb] at hz
  simp (maxSteps:=3000000) (implicitDefEqProofs:=false) (disch:=first|assumption|(refine ofR ?_;show norm _ _=_;kernel_rfl)|(refine ofR ?_;show okD _ _ _ _=true;kernel_rfl)|exact ofR (by with_unfolding_all rfl)|exact ofB (by with_unfolding_all rfl)|omega|(simp only [go_sem,vab];omega)) only [go_sem,Nat.reduceAdd,Nat.reduceBEq,f_impl_isType,c_impl_isType,hz]
 ·rw [hb] at hz
  rw [Bool.true_and]
  simp (maxSteps:=3000000) (implicitDefEqProofs:=false) (disch:=first|assumption|(refine ofR ?_;show norm _ _=_;kernel_rfl)|(refine ofR ?_;show okD _ _ _ _=true;kernel_rfl)|exact ofR (by with_unfolding_all rfl)|exact ofB (by with_unfolding_all rfl)|omega|(simp only [go_sem,vab];omega)) only [go_sem,Nat.reduceAdd,Nat.reduceBEq,f_impl_isType,c_impl_isType,hz,ht,hd]
theorem vne {d:Nat} (s:ByteArray) (hs:s.size≤1048576):runFn (T (d+2)) fuel f_impl_TypesOk_1 [.a (.string s)]=some ([.a (.bool (!okType s))],[]):=by
 have h:=vsk (d:=d) s hs
 rw [vae rfl]
 simp (maxSteps:=3000000) (implicitDefEqProofs:=false) (disch:=first|assumption|(refine ofR ?_;show norm _ _=_;kernel_rfl)|(refine ofR ?_;show okD _ _ _ _=true;kernel_rfl)|exact ofR (by with_unfolding_all rfl)|exact ofB (by with_unfolding_all rfl)|omega|(simp only [go_sem,vab];omega)) only [go_sem,Nat.reduceAdd,Nat.reduceBEq,f_impl_TypesOk_1,c_impl_TypesOk_1,h]
def S70 (ts:List ByteArray) (i:Nat):St:=⟨[(0,.sz t_string (ts.map eStr)),(1,.fn n_impl_TypesOk_1 [] []),(7,.a (.int .i64 ts.length)),(8,.a (.int .i64 i))],[],0⟩
theorem vnz {d:Nat} (ts:List ByteArray) (hl:ts.length≤1048576) (hs:∀s∈ts,s.size≤1048576):
  loopE (T (d+3)) fuel [0,1,7,8] c_slices_IndexFunc_string_string_L0 (S70 ts 0)=
  some (match ts.findIdx? (fun s=> !okType s) with|some i=>(.ret,⟨[(4,.a (.int .i64 (i:Nat)))],[],1100⟩)|none=>(.ext 0,⟨[(0,.sz t_string (ts.map eStr)),(1,.fn n_impl_TypesOk_1 [] []),(7,.a (.int .i64 ts.length)),(8,.a (.int .i64 ts.length)),(9,.a (.bool false))],[],100⟩)):=by
 refine vbf (S70 ts) _ (fun i=>∀j b,j<i→ts[j]? =some b→(!okType b)=false) (m:=ts.length) (vas (by omega)) (fun j b h=>by omega) (by split<;>simp) (fun i hi hp=> ?_)
 by_cases hi':i<ts.length
 ·obtain ⟨b,hb⟩:∃b,ts[i]? =some b:=⟨_,List.getElem?_eq_getElem hi'⟩
  have hc:=vne (d:=d) b (hs b (List.mem_of_getElem? hb))
  have hw:=vag i (by omega)
  unfold round S70 c_slices_IndexFunc_string_string_L0
  cases ho:okType b
  ·rw [ho] at hc
   right
   rw [vdi (q:=fun s=> !okType s) hb (by simp [ho]) hp]
   simp (maxSteps:=3000000) (implicitDefEqProofs:=false) (disch:=first|assumption|(refine ofR ?_;show norm _ _=_;kernel_rfl)|(refine ofR ?_;show okD _ _ _ _=true;kernel_rfl)|exact ofR (by with_unfolding_all rfl)|exact ofB (by with_unfolding_all rfl)|omega|(simp only [go_sem,vab];omega)) only [go_sem,Nat.reduceAdd,Nat.reduceBEq,hb,hc,hw]
  ·rw [ho] at hc
   refine .inl ⟨hi',?_,fun j y hj hy=> ?_⟩
   ·simp (maxSteps:=3000000) (implicitDefEqProofs:=false) (disch:=first|assumption|(refine ofR ?_;show norm _ _=_;kernel_rfl)|(refine ofR ?_;show okD _ _ _ _=true;kernel_rfl)|exact ofR (by with_unfolding_all rfl)|exact ofB (by with_unfolding_all rfl)|omega|(simp only [go_sem,vab];omega)) only [go_sem,Nat.reduceAdd,Nat.reduceBEq,hb,hc,hw]
    rfl
   ·by_cases hji:j=i
    ·subst hji;rw [hb] at hy;cases hy;simp [ho]
    ·exact hp j y (by omega) hy
 ·obtain rfl:i=ts.length:=by omega
  right
  rw [vde fun j y hy=>hp j y (by have:=(List.getElem?_eq_some_iff.1 hy).1;omega) hy]
  unfold round S70 c_slices_IndexFunc_string_string_L0
  simp (maxSteps:=3000000) (implicitDefEqProofs:=false) (disch:=first|assumption|(refine ofR ?_;show norm _ _=_;kernel_rfl)|(refine ofR ?_;show okD _ _ _ _=true;kernel_rfl)|exact ofR (by with_unfolding_all rfl)|exact ofB (by with_unfolding_all rfl)|omega|(simp only [go_sem,vab];omega)) only [go_sem,Nat.reduceAdd,Nat.reduceBEq]
theorem voy {d:Nat} (ts:List ByteArray) (hl:ts.length≤1048576) (hs:∀s∈ts,s.size≤1048576):
  runFn (T (d+3)) fuel f_slices_IndexFunc_string_string [.sl true t_string (ts.map eStr),.fn n_impl_TypesOk_1 [] []]=some ([.a (.int .i64 (idxOf (fun s=> !okType s) ts))],[]):=by
 have key:=vnz (d:=d) ts hl hs
 unfold S70 at key
 rw [vae rfl]
 unfold idxOf
 cases h:ts.findIdx? (fun s=> !okType s) with
 |some i=>
  rw [h] at key
  simp (maxSteps:=3000000) (implicitDefEqProofs:=false) (disch:=first|assumption|(refine ofR ?_;show norm _ _=_;kernel_rfl)|(refine ofR ?_;show okD _ _ _ _=true;kernel_rfl)|exact ofR (by with_unfolding_all rfl)|exact ofB (by with_unfolding_all rfl)|omega|(simp only [go_sem,vab];omega)) only [go_sem,Nat.reduceAdd,Nat.reduceBEq,f_slices_IndexFunc_string_string,c_slices_IndexFunc_string_string,vbo key]
 |none=>
  rw [h] at key
  simp (maxSteps:=3000000) (implicitDefEqProofs:=false) (disch:=first|assumption|(refine ofR ?_;show norm _ _=_;kernel_rfl)|(refine ofR ?_;show okD _ _ _ _=true;kernel_rfl)|exact ofR (by with_unfolding_all rfl)|exact ofB (by with_unfolding_all rfl)|omega|(simp only [go_sem,vab];omega)) only [go_sem,Nat.reduceAdd,Nat.reduceBEq,f_slices_IndexFunc_string_string,c_slices_IndexFunc_string_string,vah key]
theorem vk0 {d:Nat} (ts:List ByteArray) (hl:ts.length≤1048576) (hs:∀s∈ts,s.size≤1048576):
  runFn (T (d+4)) fuel f_slices_ContainsFunc_string_string [.sl true t_string (ts.map eStr),.fn n_impl_TypesOk_1 [] []]=some ([.a (.bool (ts.any fun s=> !okType s))],[]):=by
 have h:=voy (d:=d) ts hl hs
 have hd:=vg8 (fun s=> !okType s) ts
 generalize idxOf (fun s=> !okType s) ts=n at *
 rw [vae rfl]
 simp (maxSteps:=3000000) (implicitDefEqProofs:=false) (disch:=first|assumption|(refine ofR ?_;show norm _ _=_;kernel_rfl)|(refine ofR ?_;show okD _ _ _ _=true;kernel_rfl)|exact ofR (by with_unfolding_all rfl)|exact ofB (by with_unfolding_all rfl)|omega|(simp only [go_sem,vab];omega)) only [go_sem,Nat.reduceAdd,Nat.reduceBEq,f_slices_ContainsFunc_string_string,c_slices_ContainsFunc_string_string,h,hd]
theorem vjp {d:Nat} (ts:List ByteArray) (hl:ts.length≤1048576) (hs:∀s∈ts,s.size≤1048576):runFn (T (d+5)) fuel f_impl_TypesOk [.sl true t_string (ts.map eStr)]=some ([.a (.bool (typesOk ts))],[]):=by
 have h:=vk0 (d:=d) ts hl hs
 have hall:(!ts.any fun s=> !okType s)=ts.all okType:=by
  rw [List.not_any_eq_all_not];simp
 have hd:=vrg ts
 rw [vae rfl]
 unfold typesOk
 rw [←hall]
 generalize (ts.any fun s=> !okType s)=b at *
 cases hb:decide (1≤ts.length∧ts.length≤12)
 ·rw [hb] at hd
  simp (maxSteps:=3000000) (implicitDefEqProofs:=false) (disch:=first|assumption|(refine ofR ?_;show norm _ _=_;kernel_rfl)|(refine ofR ?_;show okD _ _ _ _=true;kernel_rfl)|exact ofR (by with_unfolding_all rfl)|exact ofB (by with_unfolding_all rfl)|omega|(simp only [go_sem,vab];omega)) only [go_sem,Nat.reduceAdd,Nat.reduceBEq,f_impl_TypesOk,c_impl_TypesOk,hd]
 ·rw [hb] at hd
  rw [Bool.true_and]
  simp (maxSteps:=3000000) (implicitDefEqProofs:=false) (disch:=first|assumption|(refine ofR ?_;show norm _ _=_;kernel_rfl)|(refine ofR ?_;show okD _ _ _ _=true;kernel_rfl)|exact ofR (by with_unfolding_all rfl)|exact ofB (by with_unfolding_all rfl)|omega|(simp only [go_sem,vab];omega)) only [go_sem,Nat.reduceAdd,Nat.reduceBEq,f_impl_TypesOk,c_impl_TypesOk,hd,h]
end Go.Proofs.YteomgghmhicpcaaDoor.VM
namespace Go.Proofs.YteomgghmhicpcaaDoor.VM
open Go Sy
variable {Φ:Nat→Option Callee} {N:Nat}
structure Obj' where
 ty:Int
 vals:List Int
structure Gr where
 roots:List Int
 nodes:List Obj'
def eObj (o:Obj'):PV:= .st [eInt o.ty,.sl t_i64 (o.vals.map eInt)]
theorem vh8 (o:Obj'):eObj o= .st [.a (.int .i64 o.ty),.sl t_i64 (o.vals.map eInt)]:=rfl
attribute [go_sem] vh8
abbrev cObj (z:Bool) (o:Obj'):CV:= .st [.a (.int .i64 o.ty),.sl z t_i64 (o.vals.map eInt)]
abbrev cGr (z:Bool) (g:Gr):CV:= .st [.sl z t_i64 (g.roots.map eInt),.sl z t_impl_Obj (g.nodes.map eObj)]
abbrev tGr (g:Gr):TV:= .st [.sz t_i64 (g.roots.map eInt),.sz t_impl_Obj (g.nodes.map eObj)]
def isN (n:Nat) (v:Int):Bool:=decide (0≤v∧v≤(n:Int))
def refAt (s:ByteArray) (k:Nat):Bool:=match (ch s)[k]? with|some b=>decide ((b.toNat:Int)=114)|none=>false
def badV (s:ByteArray) (n k:Nat) (v:Int):Bool:=refAt s k&& !isN n v
def okVals (s:ByteArray) (n:Nat):Nat→List Int→Bool
 |_,[]=>true
 |k,v::l=> !badV s n k v&&okVals s n (k+1) l
theorem vby {s:ByteArray} {n:Nat}:∀{l:List Int} {k:Nat},okVals s n k l=true↔∀(j:Nat) v,l[j]? =some v→badV s n (k+j) v=false
 | [],k=>by simp [okVals]
 |w::l,k=>by
  rw [okVals,Bool.and_eq_true,vby,Bool.not_eq_true']
  constructor
  ·rintro ⟨h1,h2⟩ j v hj
   cases j with
   |zero=>cases hj;exact h1
   |succ j=>rw [show k+(j+1)=k+1+j by omega];exact h2 j v (by simpa using hj)
  ·intro h
   exact ⟨h 0 w rfl,fun j v hj=>by have:=h (j+1) v (by simpa using hj);rwa [show k+(j+1)=k+1+j by omega] at this⟩
def objOk (ts:List ByteArray) (n:Nat) (o:Obj'):Bool:=match ts[o.ty.toNat]? with
 |some s=>decide (0≤o.ty)&&(decide (o.vals.length=s.size)&&okVals s n 0 o.vals)
 |none=>false
def graphOk (ts:List ByteArray) (g:Gr):Bool:=typesOk ts&&(decide (g.roots.length≤40)&&(decide (g.nodes.length≤400)&&(g.roots.all (isN g.nodes.length)&&g.nodes.all (objOk ts g.nodes.length))))
theorem vla {d:Nat} (g:Gr) (v:Int):runFn (T (d+1)) fuel f_impl_Graph_isNode [cGr true g,.a (.int .i64 v)]=some ([.a (.bool (isN g.nodes.length v))],[]):=by
 rw [vae rfl]
 unfold isN
 simp (maxSteps:=3000000) (implicitDefEqProofs:=false) (disch:=first|assumption|(refine ofR ?_;show norm _ _=_;kernel_rfl)|(refine ofR ?_;show okD _ _ _ _=true;kernel_rfl)|exact ofR (by with_unfolding_all rfl)|exact ofB (by with_unfolding_all rfl)|omega|(simp only [go_sem,vab];omega)) only [go_sem,Nat.reduceAdd,Nat.reduceBEq,f_impl_Graph_isNode,c_impl_Graph_isNode]
def S37 (ts:List ByteArray) (g:Gr) (o:Obj') (i:Nat):St:=⟨[(0,.sz t_string (ts.map eStr)),(2,.fn n_impl_Graph_isNode [tGr g] []),(4,.rf 0),(29,.sz t_i64 (o.vals.map eInt)),(30,.a (.int .i64 o.vals.length)),(31,.a (.int .i64 i))],[(0,some (.bx false [.a (.int .i64 o.ty),.sz t_i64 (o.vals.map eInt)]))],1⟩
theorem vnx {d:Nat} (ts:List ByteArray) (g:Gr) (o:Obj') (hl:o.vals.length≤1048576) {s:ByteArray} {t:Nat} (ht:o.ty=(t:Int)) (hs:ts[t]? =some s) (hz:o.vals.length=s.size):
  loopE (T (d+2)) fuel [0,2,4,29,30,31] c_impl_isObject_L0 (S37 ts g o 0)=some (if okVals s g.nodes.length 0 o.vals=true then
   (.ext 0,⟨[(0,.sz t_string (ts.map eStr)),(2,.fn n_impl_Graph_isNode [tGr g] []),(4,.rf 0),(29,.sz t_i64 (o.vals.map eInt)),(30,.a (.int .i64 o.vals.length)),(31,.a (.int .i64 o.vals.length)),(32,.a (.bool false))],[(0,some (.bx false [.a (.int .i64 o.ty),.sz t_i64 (o.vals.map eInt)]))],101⟩)
   else (.ret,⟨[(6,.a (.bool false))],[(0,some (.bx false [.a (.int .i64 o.ty),.sz t_i64 (o.vals.map eInt)]))],2101⟩)):=by
 have htl:t<ts.length:=(List.getElem?_eq_some_iff.1 hs).1
 refine vbf (S37 ts g o) _ (fun i=>∀(j:Nat) v,j<i→o.vals[j]? =some v→badV s g.nodes.length j v=false) (m:=o.vals.length) (vas (by omega)) (fun j b h=>by omega) (by split<;>simp) (fun i hi hp=> ?_)
 by_cases hi':i<o.vals.length
 ·obtain ⟨v,hv⟩:∃v,o.vals[i]? =some v:=⟨_,List.getElem?_eq_getElem hi'⟩
  obtain ⟨b,hb⟩:∃b,(ch s)[i]? =some b:=⟨_,List.getElem?_eq_getElem (by rw [←vck];omega)⟩
  have hx:=vd1 hb
  have hc:=vla (d:=d) g v
  have hw:=vag i (by omega)
  have hr:refAt s i=decide ((b.toNat:Int)=114):=by simp only [refAt,hb]
  have next (hbad:badV s g.nodes.length i v=false):∀(j:Nat) y,j<i+1→o.vals[j]? =some y→badV s g.nodes.length j y=false:=fun j y hj hy=>by
   by_cases hji:j=i
   ·subst hji;rw [hv] at hy;cases hy;exact hbad
   ·exact hp j y (by omega) hy
  unfold round S37 c_impl_isObject_L0
  rw [ht]
  by_cases c1:(b.toNat:Int)=114
  ·cases hn:isN g.nodes.length v
   ·right
    rw [hn] at hc
    rw [if_neg (fun hok=>by
     have:=(vby.1 hok) i v hv
     rw [Nat.zero_add,badV,hr,hn,decide_eq_true c1] at this
     cases this)]
    simp (maxSteps:=3000000) (implicitDefEqProofs:=false) (disch:=first|assumption|(refine ofR ?_;show norm _ _=_;kernel_rfl)|(refine ofR ?_;show okD _ _ _ _=true;kernel_rfl)|exact ofR (by with_unfolding_all rfl)|exact ofB (by with_unfolding_all rfl)|omega|(simp only [go_sem,vab];omega)) only [go_sem,Nat.reduceAdd,Nat.reduceBEq,hv,hx,hs,hc,hw]
   ·rw [hn] at hc
    refine .inl ⟨hi',?_,next (by rw [badV,hn];simp)⟩
    simp (maxSteps:=3000000) (implicitDefEqProofs:=false) (disch:=first|assumption|(refine ofR ?_;show norm _ _=_;kernel_rfl)|(refine ofR ?_;show okD _ _ _ _=true;kernel_rfl)|exact ofR (by with_unfolding_all rfl)|exact ofB (by with_unfolding_all rfl)|omega|(simp only [go_sem,vab];omega)) only [go_sem,Nat.reduceAdd,Nat.reduceBEq,hv,hx,hs,hc,hw]
    (show some _=some _;kernel_rfl)
  ·refine .inl ⟨hi',?_,next (by rw [badV,hr,decide_eq_false c1];rfl)⟩
   simp (maxSteps:=3000000) (implicitDefEqProofs:=false) (disch:=first|assumption|(refine ofR ?_;show norm _ _=_;kernel_rfl)|(refine ofR ?_;show okD _ _ _ _=true;kernel_rfl)|exact ofR (by with_unfolding_all rfl)|exact ofB (by with_unfolding_all rfl)|omega|(simp only [go_sem,vab];omega)) only [go_sem,Nat.reduceAdd,Nat.reduceBEq,hv,hx,hs,hw]
   (show some _=some _;kernel_rfl)
 ·obtain rfl:i=o.vals.length:=by omega
  right
  rw [if_pos (vby.2 fun j v hj=>by rw [Nat.zero_add];exact hp j v (by have:=(List.getElem?_eq_some_iff.1 hj).1;omega) hj)]
  unfold round S37 c_impl_isObject_L0
  simp (maxSteps:=3000000) (implicitDefEqProofs:=false) (disch:=first|assumption|(refine ofR ?_;show norm _ _=_;kernel_rfl)|(refine ofR ?_;show okD _ _ _ _=true;kernel_rfl)|exact ofR (by with_unfolding_all rfl)|exact ofB (by with_unfolding_all rfl)|omega|(simp only [go_sem,vab];omega)) only [go_sem,Nat.reduceAdd,Nat.reduceBEq]
theorem vod {d:Nat} (ts:List ByteArray) (g:Gr) (o:Obj') (htl:ts.length≤1048576) (hl:o.vals.length≤1048576) (hsz:∀s∈ts,s.size≤1048576):
  runFn (T (d+2)) fuel f_impl_isObject [.sl true t_string (ts.map eStr),cObj true o,.fn n_impl_Graph_isNode [cGr true g] []]=some ([.a (.bool (objOk ts g.nodes.length o))],[]):=by
 have hw:IntKind.i64.wrap ((ts.length:Int)-1)=ts.length-1:=by rw [van]<;>omega
 rw [vae rfl]
 obtain ⟨ty,vals⟩:=o
 dsimp only at *
 by_cases c1:0≤ty∧ty≤(ts.length:Int)-1
 ·obtain ⟨t,ht⟩:∃t:Nat,ty=(t:Int):=⟨ty.toNat,by omega⟩
  subst ht
  obtain ⟨s,hs⟩:∃s,ts[t]? =some s:=⟨_,List.getElem?_eq_getElem (by omega)⟩
  have hob:objOk ts g.nodes.length ⟨(t:Int),vals⟩=(decide (vals.length=s.size)&&okVals s g.nodes.length 0 vals):=by
   unfold objOk
   rw [show (⟨(t:Int),vals⟩:Obj').ty.toNat=t from Int.toNat_natCast t,hs]
   simp only [show decide (0≤(t:Int))=true from decide_eq_true c1.1,Bool.true_and]
  rw [hob]
  have hss:=hsz s (List.mem_of_getElem? hs)
  by_cases hz:vals.length=s.size
  ·have key:=vnx (d:=d) ts g ⟨(t:Int),vals⟩ hl rfl hs hz
   unfold S37 at key
   dsimp only at key
   rw [decide_eq_true hz,Bool.true_and]
   cases hv:okVals s g.nodes.length 0 vals
   ·rw [if_neg (by rw [hv];simp)] at key
    simp (maxSteps:=3000000) (implicitDefEqProofs:=false) (disch:=first|assumption|(refine ofR ?_;show norm _ _=_;kernel_rfl)|(refine ofR ?_;show okD _ _ _ _=true;kernel_rfl)|exact ofR (by with_unfolding_all rfl)|exact ofB (by with_unfolding_all rfl)|omega|(simp only [go_sem,vab];omega)) only [go_sem,Nat.reduceAdd,Nat.reduceBEq,f_impl_isObject,c_impl_isObject,hw,hs,vbo key]
   ·rw [if_pos hv] at key
    simp (maxSteps:=3000000) (implicitDefEqProofs:=false) (disch:=first|assumption|(refine ofR ?_;show norm _ _=_;kernel_rfl)|(refine ofR ?_;show okD _ _ _ _=true;kernel_rfl)|exact ofR (by with_unfolding_all rfl)|exact ofB (by with_unfolding_all rfl)|omega|(simp only [go_sem,vab];omega)) only [go_sem,Nat.reduceAdd,Nat.reduceBEq,f_impl_isObject,c_impl_isObject,hw,hs,vah key]
  ·rw [decide_eq_false hz,Bool.false_and]
   have hz':¬((vals.length:Int)=(s.size:Int)):=by omega
   simp (maxSteps:=3000000) (implicitDefEqProofs:=false) (disch:=first|assumption|(refine ofR ?_;show norm _ _=_;kernel_rfl)|(refine ofR ?_;show okD _ _ _ _=true;kernel_rfl)|exact ofR (by with_unfolding_all rfl)|exact ofB (by with_unfolding_all rfl)|omega|(simp only [go_sem,vab];omega)) only [go_sem,Nat.reduceAdd,Nat.reduceBEq,f_impl_isObject,c_impl_isObject,hw,hs]
 ·have hob:objOk ts g.nodes.length ⟨ty,vals⟩=false:=by
   unfold objOk
   dsimp only
   by_cases h0:0≤ty
   ·rw [List.getElem?_eq_none (by omega)]
   ·rw [show decide (0≤ty)=false from decide_eq_false h0]
    split<;>rfl
  rw [hob]
  simp (maxSteps:=3000000) (implicitDefEqProofs:=false) (disch:=first|assumption|(refine ofR ?_;show norm _ _=_;kernel_rfl)|(refine ofR ?_;show okD _ _ _ _=true;kernel_rfl)|exact ofR (by with_unfolding_all rfl)|exact ofB (by with_unfolding_all rfl)|omega|(simp only [go_sem,vab];omega)) only [go_sem,Nat.reduceAdd,Nat.reduceBEq,f_impl_isObject,c_impl_isObject,hw]
abbrev bGr (g:Gr):List CV:= [.sl true t_i64 (g.roots.map eInt),.sl true t_impl_Obj (g.nodes.map eObj)]
abbrev uGr (g:Gr):List TV:= [.sz t_i64 (g.roots.map eInt),.sz t_impl_Obj (g.nodes.map eObj)]
theorem vng {d:Nat} (g:Gr) (v:Int):runFn (T (d+2)) fuel f_impl_GraphOk_1 [.a (.int .i64 v),.bx true (bGr g)]=some ([.a (.bool (!isN g.nodes.length v))],[]):=by
 have h:=vla (d:=d) g v
 rw [vae rfl]
 simp (maxSteps:=3000000) (implicitDefEqProofs:=false) (disch:=first|assumption|(refine ofR ?_;show norm _ _=_;kernel_rfl)|(refine ofR ?_;show okD _ _ _ _=true;kernel_rfl)|exact ofR (by with_unfolding_all rfl)|exact ofB (by with_unfolding_all rfl)|omega|(simp only [go_sem,vab];omega)) only [go_sem,Nat.reduceAdd,Nat.reduceBEq,f_impl_GraphOk_1,c_impl_GraphOk_1,h]
theorem vnm {d:Nat} (ts:List ByteArray) (g:Gr) (o:Obj') (htl:ts.length≤1048576) (hl:o.vals.length≤1048576) (hsz:∀s∈ts,s.size≤1048576):
  runFn (T (d+3)) fuel f_impl_GraphOk_2 [cObj true o,.bx true [.sl true t_string (ts.map eStr)],.bx true (bGr g)]=some ([.a (.bool (!objOk ts g.nodes.length o))],[]):=by
 have h:=vod (d:=d) ts g o htl hl hsz
 rw [vae rfl]
 simp (maxSteps:=3000000) (implicitDefEqProofs:=false) (disch:=first|assumption|(refine ofR ?_;show norm _ _=_;kernel_rfl)|(refine ofR ?_;show okD _ _ _ _=true;kernel_rfl)|exact ofR (by with_unfolding_all rfl)|exact ofB (by with_unfolding_all rfl)|omega|(simp only [go_sem,vab];omega)) only [go_sem,Nat.reduceAdd,Nat.reduceBEq,f_impl_GraphOk_2,c_impl_GraphOk_2,h]
def S51 (l:List Int) (g:Gr) (i:Nat):St:=⟨[(0,.sz t_i64 (l.map eInt)),(1,.fn n_impl_GraphOk_1 [] [.rf 0]),(7,.a (.int .i64 l.length)),(8,.a (.int .i64 i))],[(0,some (.bx true (uGr g)))],1⟩
theorem vnh {d:Nat} (l:List Int) (g:Gr) (hl:l.length≤1048576):
  loopE (T (d+3)) fuel [0,1,7,8] c_slices_IndexFunc_int64_int64_L0 (S51 l g 0)=
  some (match l.findIdx? (fun v=> !isN g.nodes.length v) with|some i=>(.ret,⟨[(4,.a (.int .i64 (i:Nat)))],[(0,some (.bx true (uGr g)))],1101⟩)|none=>(.ext 0,⟨[(0,.sz t_i64 (l.map eInt)),(1,.fn n_impl_GraphOk_1 [] [.rf 0]),(7,.a (.int .i64 l.length)),(8,.a (.int .i64 l.length)),(9,.a (.bool false))],[(0,some (.bx true (uGr g)))],101⟩)):=by
 refine vbf (S51 l g) _ (fun i=>∀(j:Nat) b,j<i→l[j]? =some b→(!isN g.nodes.length b)=false) (m:=l.length) (vas (by omega)) (fun j b h=>by omega) (by split<;>simp) (fun i hi hp=> ?_)
 by_cases hi':i<l.length
 ·obtain ⟨b,hb⟩:∃b,l[i]? =some b:=⟨_,List.getElem?_eq_getElem hi'⟩
  have hc:=vng (d:=d) g b
  have hw:=vag i (by omega)
  unfold round S51 c_slices_IndexFunc_int64_int64_L0
  cases ho:isN g.nodes.length b
  ·rw [ho] at hc
   right
   rw [vdi (q:=fun v=> !isN g.nodes.length v) hb (by simp [ho]) hp]
   simp (maxSteps:=3000000) (implicitDefEqProofs:=false) (disch:=first|assumption|(refine ofR ?_;show norm _ _=_;kernel_rfl)|(refine ofR ?_;show okD _ _ _ _=true;kernel_rfl)|exact ofR (by with_unfolding_all rfl)|exact ofB (by with_unfolding_all rfl)|omega|(simp only [go_sem,vab];omega)) only [go_sem,Nat.reduceAdd,Nat.reduceBEq,hb,hc,hw]
  ·rw [ho] at hc
   refine .inl ⟨hi',?_,fun j y hj hy=> ?_⟩
   ·simp (maxSteps:=3000000) (implicitDefEqProofs:=false) (disch:=first|assumption|(refine ofR ?_;show norm _ _=_;kernel_rfl)|(refine ofR ?_;show okD _ _ _ _=true;kernel_rfl)|exact ofR (by with_unfolding_all rfl)|exact ofB (by with_unfolding_all rfl)|omega|(simp only [go_sem,vab];omega)) only [go_sem,Nat.reduceAdd,Nat.reduceBEq,hb,hc,hw]
    rfl
   ·by_cases hji:j=i
    ·subst hji;rw [hb] at hy;cases hy;simp [ho]
    ·exact hp j y (by omega) hy
 ·obtain rfl:i=l.length:=by omega
  right
  rw [vde fun j y hy=>hp j y (by have:=(List.getElem?_eq_some_iff.1 hy).1;omega) hy]
  unfold round S51 c_slices_IndexFunc_int64_int64_L0
  simp (maxSteps:=3000000) (implicitDefEqProofs:=false) (disch:=first|assumption|(refine ofR ?_;show norm _ _=_;kernel_rfl)|(refine ofR ?_;show okD _ _ _ _=true;kernel_rfl)|exact ofR (by with_unfolding_all rfl)|exact ofB (by with_unfolding_all rfl)|omega|(simp only [go_sem,vab];omega)) only [go_sem,Nat.reduceAdd,Nat.reduceBEq]
theorem vor {d:Nat} (l:List Int) (g:Gr) (hl:l.length≤1048576):
  runFn (T (d+3)) fuel f_slices_IndexFunc_int64_int64 [.sl true t_i64 (l.map eInt),.fn n_impl_GraphOk_1 [] [.bx true (bGr g)]]=some ([.a (.int .i64 (idxOf (fun v=> !isN g.nodes.length v) l))],[]):=by
 have key:=vnh (d:=d) l g hl
 unfold S51 at key
 rw [vae rfl]
 unfold idxOf
 cases h:l.findIdx? (fun v=> !isN g.nodes.length v) with
 |some i=>
  rw [h] at key
  simp (maxSteps:=3000000) (implicitDefEqProofs:=false) (disch:=first|assumption|(refine ofR ?_;show norm _ _=_;kernel_rfl)|(refine ofR ?_;show okD _ _ _ _=true;kernel_rfl)|exact ofR (by with_unfolding_all rfl)|exact ofB (by with_unfolding_all rfl)|omega|(simp only [go_sem,vab];omega)) only [go_sem,Nat.reduceAdd,Nat.reduceBEq,f_slices_IndexFunc_int64_int64,c_slices_IndexFunc_int64_int64,vbo key]
 |none=>
  rw [h] at key
  simp (maxSteps:=3000000) (implicitDefEqProofs:=false) (disch:=first|assumption|(refine ofR ?_;show norm _ _=_;kernel_rfl)|(refine ofR ?_;show okD _ _ _ _=true;kernel_rfl)|exact ofR (by with_unfolding_all rfl)|exact ofB (by with_unfolding_all rfl)|omega|(simp only [go_sem,vab];omega)) only [go_sem,Nat.reduceAdd,Nat.reduceBEq,f_slices_IndexFunc_int64_int64,c_slices_IndexFunc_int64_int64,vah key]
theorem vlb {d:Nat} (l:List Int) (g:Gr) (hl:l.length≤1048576):
  runFn (T (d+4)) fuel f_slices_ContainsFunc_int64_int64 [.sl true t_i64 (l.map eInt),.fn n_impl_GraphOk_1 [] [.bx true (bGr g)]]=some ([.a (.bool (l.any fun v=> !isN g.nodes.length v))],[]):=by
 have h:=vor (d:=d) l g hl
 have hd:=vg8 (fun v=> !isN g.nodes.length v) l
 generalize idxOf (fun v=> !isN g.nodes.length v) l=n at *
 rw [vae rfl]
 simp (maxSteps:=3000000) (implicitDefEqProofs:=false) (disch:=first|assumption|(refine ofR ?_;show norm _ _=_;kernel_rfl)|(refine ofR ?_;show okD _ _ _ _=true;kernel_rfl)|exact ofR (by with_unfolding_all rfl)|exact ofB (by with_unfolding_all rfl)|omega|(simp only [go_sem,vab];omega)) only [go_sem,Nat.reduceAdd,Nat.reduceBEq,f_slices_ContainsFunc_int64_int64,c_slices_ContainsFunc_int64_int64,h,hd]
def S52 (l:List Obj') (ts:List ByteArray) (g:Gr) (i:Nat):St:=⟨[(0,.sz t_impl_Obj (l.map eObj)),(1,.fn n_impl_GraphOk_2 [] [.rf 0,.rf 1]),(7,.a (.int .i64 l.length)),(8,.a (.int .i64 i))],[(0,some (.bx true [.sz t_string (ts.map eStr)])),(1,some (.bx true (uGr g)))],2⟩
theorem vnd {d:Nat} (l:List Obj') (ts:List ByteArray) (g:Gr) (hl:l.length≤1048576) (htl:ts.length≤1048576) (hv:∀o∈l,o.vals.length≤1048576) (hsz:∀s∈ts,s.size≤1048576):
  loopE (T (d+4)) fuel [0,1,7,8] c_slices_IndexFunc_impl_Obj_impl_Obj_L0 (S52 l ts g 0)=
  some (match l.findIdx? (fun o=> !objOk ts g.nodes.length o) with|some i=>(.ret,⟨[(4,.a (.int .i64 (i:Nat)))],[(0,some (.bx true [.sz t_string (ts.map eStr)])),(1,some (.bx true (uGr g)))],1102⟩)|none=>(.ext 0,⟨[(0,.sz t_impl_Obj (l.map eObj)),(1,.fn n_impl_GraphOk_2 [] [.rf 0,.rf 1]),(7,.a (.int .i64 l.length)),(8,.a (.int .i64 l.length)),(9,.a (.bool false))],[(0,some (.bx true [.sz t_string (ts.map eStr)])),(1,some (.bx true (uGr g)))],102⟩)):=by
 refine vbf (S52 l ts g) _ (fun i=>∀(j:Nat) b,j<i→l[j]? =some b→(!objOk ts g.nodes.length b)=false) (m:=l.length) (vas (by omega)) (fun j b h=>by omega) (by split<;>simp) (fun i hi hp=> ?_)
 by_cases hi':i<l.length
 ·obtain ⟨b,hb⟩:∃b,l[i]? =some b:=⟨_,List.getElem?_eq_getElem hi'⟩
  have hc:=vnm (d:=d) ts g b htl (hv b (List.mem_of_getElem? hb)) hsz
  have hw:=vag i (by omega)
  unfold round S52 c_slices_IndexFunc_impl_Obj_impl_Obj_L0
  cases ho:objOk ts g.nodes.length b
  ·rw [ho] at hc
   right
   rw [vdi (q:=fun o=> !objOk ts g.nodes.length o) hb (by simp [ho]) hp]
   simp (maxSteps:=3000000) (implicitDefEqProofs:=false) (disch:=first|assumption|(refine ofR ?_;show norm _ _=_;kernel_rfl)|(refine ofR ?_;show okD _ _ _ _=true;kernel_rfl)|exact ofR (by with_unfolding_all rfl)|exact ofB (by with_unfolding_all rfl)|omega|(simp only [go_sem,vab];omega)) only [go_sem,Nat.reduceAdd,Nat.reduceBEq,hb,hc,hw]
  ·rw [ho] at hc
   refine .inl ⟨hi',?_,fun j y hj hy=> ?_⟩
   ·simp (maxSteps:=3000000) (implicitDefEqProofs:=false) (disch:=first|assumption|(refine ofR ?_;show norm _ _=_;kernel_rfl)|(refine ofR ?_;show okD _ _ _ _=true;kernel_rfl)|exact ofR (by with_unfolding_all rfl)|exact ofB (by with_unfolding_all rfl)|omega|(simp only [go_sem,vab];omega)) only [go_sem,Nat.reduceAdd,Nat.reduceBEq,hb,hc,hw]
    rfl
   ·by_cases hji:j=i
    ·subst hji;rw [hb] at hy;cases hy;simp [ho]
    ·exact hp j y (by omega) hy
 ·obtain rfl:i=l.length:=by omega
  right
  rw [vde fun j y hy=>hp j y (by have:=(List.getElem?_eq_some_iff.1 hy).1;omega) hy]
  unfold round S52 c_slices_IndexFunc_impl_Obj_impl_Obj_L0
  simp (maxSteps:=3000000) (implicitDefEqProofs:=false) (disch:=first|assumption|(refine ofR ?_;show norm _ _=_;kernel_rfl)|(refine ofR ?_;show okD _ _ _ _=true;kernel_rfl)|exact ofR (by with_unfolding_all rfl)|exact ofB (by with_unfolding_all rfl)|omega|(simp only [go_sem,vab];omega)) only [go_sem,Nat.reduceAdd,Nat.reduceBEq]
theorem vpa {d:Nat} (l:List Obj') (ts:List ByteArray) (g:Gr) (hl:l.length≤1048576) (htl:ts.length≤1048576) (hv:∀o∈l,o.vals.length≤1048576) (hsz:∀s∈ts,s.size≤1048576):
  runFn (T (d+4)) fuel f_slices_IndexFunc_impl_Obj_impl_Obj [.sl true t_impl_Obj (l.map eObj),.fn n_impl_GraphOk_2 [] [.bx true [.sl true t_string (ts.map eStr)],.bx true (bGr g)]]=some ([.a (.int .i64 (idxOf (fun o=> !objOk ts g.nodes.length o) l))],[]):=by
 have key:=vnd (d:=d) l ts g hl htl hv hsz
 unfold S52 at key
 rw [vae rfl]
 unfold idxOf
 cases h:l.findIdx? (fun o=> !objOk ts g.nodes.length o) with
 |some i=>
  rw [h] at key
  simp (maxSteps:=3000000) (implicitDefEqProofs:=false) (disch:=first|assumption|(refine ofR ?_;show norm _ _=_;kernel_rfl)|(refine ofR ?_;show okD _ _ _ _=true;kernel_rfl)|exact ofR (by with_unfolding_all rfl)|exact ofB (by with_unfolding_all rfl)|omega|(simp only [go_sem,vab];omega)) only [go_sem,Nat.reduceAdd,Nat.reduceBEq,f_slices_IndexFunc_impl_Obj_impl_Obj,c_slices_IndexFunc_impl_Obj_impl_Obj,vbo key]
 |none=>
  rw [h] at key
  simp (maxSteps:=3000000) (implicitDefEqProofs:=false) (disch:=first|assumption|(refine ofR ?_;show norm _ _=_;kernel_rfl)|(refine ofR ?_;show okD _ _ _ _=true;kernel_rfl)|exact ofR (by with_unfolding_all rfl)|exact ofB (by with_unfolding_all rfl)|omega|(simp only [go_sem,vab];omega)) only [go_sem,Nat.reduceAdd,Nat.reduceBEq,f_slices_IndexFunc_impl_Obj_impl_Obj,c_slices_IndexFunc_impl_Obj_impl_Obj,vah key]
theorem vka {d:Nat} (l:List Obj') (ts:List ByteArray) (g:Gr) (hl:l.length≤1048576) (htl:ts.length≤1048576) (hv:∀o∈l,o.vals.length≤1048576) (hsz:∀s∈ts,s.size≤1048576):
  runFn (T (d+5)) fuel f_slices_ContainsFunc_impl_Obj_impl_Obj [.sl true t_impl_Obj (l.map eObj),.fn n_impl_GraphOk_2 [] [.bx true [.sl true t_string (ts.map eStr)],.bx true (bGr g)]]=some ([.a (.bool (l.any fun o=> !objOk ts g.nodes.length o))],[]):=by
 have h:=vpa (d:=d) l ts g hl htl hv hsz
 have hd:=vg8 (fun o=> !objOk ts g.nodes.length o) l
 generalize idxOf (fun o=> !objOk ts g.nodes.length o) l=n at *
 rw [vae rfl]
 simp (maxSteps:=3000000) (implicitDefEqProofs:=false) (disch:=first|assumption|(refine ofR ?_;show norm _ _=_;kernel_rfl)|(refine ofR ?_;show okD _ _ _ _=true;kernel_rfl)|exact ofR (by with_unfolding_all rfl)|exact ofB (by with_unfolding_all rfl)|omega|(simp only [go_sem,vab];omega)) only [go_sem,Nat.reduceAdd,Nat.reduceBEq,f_slices_ContainsFunc_impl_Obj_impl_Obj,c_slices_ContainsFunc_impl_Obj_impl_Obj,h,hd]
structure Small (ts:List ByteArray) (g:Gr):Prop where
 tl:ts.length≤1048576
 sz:∀s∈ts,s.size≤1048576
 roots:g.roots.length≤1048576
 nodes:g.nodes.length≤1048576
 vals:∀o∈g.nodes,o.vals.length≤1048576
theorem vcj {d:Nat} {ts:List ByteArray} {g:Gr} (h:Small ts g):runFn (T (d+6)) fuel f_impl_GraphOk [.sl true t_string (ts.map eStr),cGr true g]=some ([.a (.bool (graphOk ts g))],[]):=by
 have h1:=vjp (d:=d) ts h.tl h.sz
 have h2:=vlb (d:=d+1) g.roots g h.roots
 have h3:=vka (d:=d) g.nodes ts g h.nodes h.tl h.vals h.sz
 have a1:(!g.roots.any fun v=> !isN g.nodes.length v)=g.roots.all (isN g.nodes.length):=by rw [List.not_any_eq_all_not];simp
 have a2:(!g.nodes.any fun o=> !objOk ts g.nodes.length o)=g.nodes.all (objOk ts g.nodes.length):=by rw [List.not_any_eq_all_not];simp
 rw [vae rfl]
 unfold graphOk
 rw [←a1,←a2]
 generalize (g.roots.any fun v=> !isN g.nodes.length v)=b1 at *
 generalize (g.nodes.any fun o=> !objOk ts g.nodes.length o)=b2 at *
 clear a1 a2
 cases ht:typesOk ts
 ·rw [ht] at h1
  simp (maxSteps:=3000000) (implicitDefEqProofs:=false) (disch:=first|assumption|(refine ofR ?_;show norm _ _=_;kernel_rfl)|(refine ofR ?_;show okD _ _ _ _=true;kernel_rfl)|exact ofR (by with_unfolding_all rfl)|exact ofB (by with_unfolding_all rfl)|omega|(simp only [go_sem,vab];omega)) only [go_sem,Nat.reduceAdd,Nat.reduceBEq,f_impl_GraphOk,c_impl_GraphOk,h1]
 ·rw [ht] at h1
  have hr:=h.roots
  have hn:=h.nodes
  by_cases c1:g.roots.length≤40
  ·rw [decide_eq_true c1]
   by_cases c2:g.nodes.length≤400
   ·rw [decide_eq_true c2]
    cases b1
    ·simp (maxSteps:=3000000) (implicitDefEqProofs:=false) (disch:=first|assumption|(refine ofR ?_;show norm _ _=_;kernel_rfl)|(refine ofR ?_;show okD _ _ _ _=true;kernel_rfl)|exact ofR (by with_unfolding_all rfl)|exact ofB (by with_unfolding_all rfl)|omega|(simp only [go_sem,vab];omega)) only [go_sem,Nat.reduceAdd,Nat.reduceBEq,f_impl_GraphOk,c_impl_GraphOk,h1,h2,h3]
    ·simp (maxSteps:=3000000) (implicitDefEqProofs:=false) (disch:=first|assumption|(refine ofR ?_;show norm _ _=_;kernel_rfl)|(refine ofR ?_;show okD _ _ _ _=true;kernel_rfl)|exact ofR (by with_unfolding_all rfl)|exact ofB (by with_unfolding_all rfl)|omega|(simp only [go_sem,vab];omega)) only [go_sem,Nat.reduceAdd,Nat.reduceBEq,f_impl_GraphOk,c_impl_GraphOk,h1,h2,h3]
   ·rw [decide_eq_false c2]
    simp (maxSteps:=3000000) (implicitDefEqProofs:=false) (disch:=first|assumption|(refine ofR ?_;show norm _ _=_;kernel_rfl)|(refine ofR ?_;show okD _ _ _ _=true;kernel_rfl)|exact ofR (by with_unfolding_all rfl)|exact ofB (by with_unfolding_all rfl)|omega|(simp only [go_sem,vab];omega)) only [go_sem,Nat.reduceAdd,Nat.reduceBEq,f_impl_GraphOk,c_impl_GraphOk,h1]
  ·rw [decide_eq_false c1]
   simp (maxSteps:=3000000) (implicitDefEqProofs:=false) (disch:=first|assumption|(refine ofR ?_;show norm _ _=_;kernel_rfl)|(refine ofR ?_;show okD _ _ _ _=true;kernel_rfl)|exact ofR (by with_unfolding_all rfl)|exact ofB (by with_unfolding_all rfl)|omega|(simp only [go_sem,vab];omega)) only [go_sem,Nat.reduceAdd,Nat.reduceBEq,f_impl_GraphOk,c_impl_GraphOk,h1]
end Go.Proofs.YteomgghmhicpcaaDoor.VM
namespace Go.Proofs.YteomgghmhicpcaaDoor.VM
open Go Sy
variable {Φ:Nat→Option Callee} {N:Nat}
theorem vpd {live:List Nat} {b:VC} (S:Nat→St) (E:Out→St→Prop) (P:Nat→Prop) {m:Nat} (hN:m<N) (h0:P 0)
  (step:∀i,i≤m→P i→(i<m∧round Φ N live b (S i)=some (.nrm,S (i+1))∧P (i+1))∨∃o e,o≠ .nrm∧round Φ N live b (S i)=some (o,e)∧E o e):∃o e,E o e∧loopE Φ N live b (S 0)=some (o,e):=by
 obtain ⟨o,e,h1,_,h2⟩:=vf9 (Φ:=Φ) (N:=N) (live:=live) (b:=b) (r:= []) (fun j s=>∃i,i+j=m∧P i∧s=S i) E hN (s:=S 0) ⟨0,by omega,h0,rfl⟩ (by
  rintro j s hj ⟨i,hi,hp,rfl⟩
  rcases step i (by omega) hp with ⟨h1,h2,h3⟩|⟨o,e,h1,h2,h3⟩
  ·exact .inl ⟨j-1,_,by omega,h2,i+1,by omega,h3,rfl⟩
  ·exact .inr ⟨o,e,h1,h2,h3⟩)
 exact ⟨o,e,h1,h2⟩
def S60 (ts:List ByteArray) (g:Gr) (i:Nat):St:=⟨[(0,.sz t_string (ts.map eStr)),(3,.rf 0),(5,.a (.int .i64 g.nodes.length)),(6,.a (.int .i64 i))],[(0,some (.bx false (uGr g)))],1⟩
theorem vr0 {d:Nat} (ts:List ByteArray) (g:Gr) (hr:g.roots.length≤1048576):
  loopE (T (d+1)) fuel [0,3,5,6] c_spec_GraphOk_L0 (S60 ts g 0)=some (if g.roots.all (isN g.nodes.length)=true then (.ext 0,⟨[(0,.sz t_string (ts.map eStr)),(3,.rf 0),(5,.a (.int .i64 g.nodes.length)),(6,.a (.int .i64 g.roots.length)),(32,.a (.bool false))],[(0,some (.bx false (uGr g)))],501⟩) else (.ret,⟨[(4,.a (.bool false))],[(0,some (.bx false (uGr g)))],1401⟩)):=by
 refine vbf (S60 ts g) _ (fun i=>∀(j:Nat) b,j<i→g.roots[j]? =some b→isN g.nodes.length b=true) (m:=g.roots.length) (vas (by omega)) (fun j b h=>by omega) (by split<;>simp) (fun i hi hp=> ?_)
 by_cases hi':i<g.roots.length
 ·obtain ⟨b,hb⟩:∃b,g.roots[i]? =some b:=⟨_,List.getElem?_eq_getElem hi'⟩
  have hc:=vi8 (Φ:=T d) (N:=fuel) (n:=b) (lo:=0) (hi:=g.nodes.length)
  have hw:=vag i (by omega)
  unfold round S60 c_spec_GraphOk_L0
  cases ho:isN g.nodes.length b
  ·rw [show decide (0≤b∧b≤(g.nodes.length:Int))=false from ho] at hc
   right
   rw [if_neg (fun hall=>by have:=List.all_eq_true.1 hall b (List.mem_of_getElem? hb);rw [ho] at this;cases this)]
   simp (maxSteps:=3000000) (implicitDefEqProofs:=false) (disch:=first|assumption|(refine ofR ?_;show norm _ _=_;kernel_rfl)|(refine ofR ?_;show okD _ _ _ _=true;kernel_rfl)|exact ofR (by with_unfolding_all rfl)|exact ofB (by with_unfolding_all rfl)|omega|(simp only [go_sem,vab];omega)) only [go_sem,Nat.reduceAdd,Nat.reduceBEq,hb,hc,hw]
  ·rw [show decide (0≤b∧b≤(g.nodes.length:Int))=true from ho] at hc
   refine .inl ⟨hi',?_,fun j y hj hy=> ?_⟩
   ·simp (maxSteps:=3000000) (implicitDefEqProofs:=false) (disch:=first|assumption|(refine ofR ?_;show norm _ _=_;kernel_rfl)|(refine ofR ?_;show okD _ _ _ _=true;kernel_rfl)|exact ofR (by with_unfolding_all rfl)|exact ofB (by with_unfolding_all rfl)|omega|(simp only [go_sem,vab];omega)) only [go_sem,Nat.reduceAdd,Nat.reduceBEq,hb,hc,hw]
    rfl
   ·by_cases hji:j=i
    ·subst hji;rw [hb] at hy;cases hy;exact ho
    ·exact hp j y (by omega) hy
 ·obtain rfl:i=g.roots.length:=by omega
  right
  rw [if_pos (List.all_eq_true.2 fun b hb=>by
   obtain ⟨j,hj,rfl⟩:=List.mem_iff_getElem.1 hb
   exact hp j _ hj (List.getElem?_eq_getElem hj))]
  unfold round S60 c_spec_GraphOk_L0
  simp (maxSteps:=3000000) (implicitDefEqProofs:=false) (disch:=first|assumption|(refine ofR ?_;show norm _ _=_;kernel_rfl)|(refine ofR ?_;show okD _ _ _ _=true;kernel_rfl)|exact ofR (by with_unfolding_all rfl)|exact ofB (by with_unfolding_all rfl)|omega|(simp only [go_sem,vab];omega)) only [go_sem,Nat.reduceAdd,Nat.reduceBEq]
def S62 (ts:List ByteArray) (g:Gr) (q:Nat) (t:Nat) (vals:List Int) (k:Nat):St:=⟨[(0,.sz t_string (ts.map eStr)),(3,.rf 0),(5,.a (.int .i64 g.nodes.length)),(7,.a (.int .i64 q)),(8,.rf 1),(9,.a (.int .i64 k))],[(0,some (.bx false (uGr g))),(1,some (.bx false [.a (.int .i64 t),.sz t_i64 (vals.map eInt)]))],2⟩
theorem vrp {d:Nat} (ts:List ByteArray) (g:Gr) (q:Nat) {t:Nat} {vals:List Int} (hl:vals.length≤1048576) {s:ByteArray} (hs:ts[t]? =some s) (hz:vals.length=s.size):
  loopE (T (d+1)) fuel [0,3,5,7,8,9] c_spec_GraphOk_L2 (S62 ts g q t vals 0)=some (if okVals s g.nodes.length 0 vals=true then
   (.ext 4,⟨[(0,.sz t_string (ts.map eStr)),(3,.rf 0),(5,.a (.int .i64 g.nodes.length)),(7,.a (.int .i64 q)),(8,.rf 1),(9,.a (.int .i64 vals.length)),(78,.a (.bool false))],[(0,some (.bx false (uGr g))),(1,some (.bx false [.a (.int .i64 t),.sz t_i64 (vals.map eInt)]))],502⟩)
   else (.ret,⟨[(4,.a (.bool false))],[(0,some (.bx false (uGr g))),(1,some (.bx false [.a (.int .i64 t),.sz t_i64 (vals.map eInt)]))],2402⟩)):=by
 have htl:t<ts.length:=(List.getElem?_eq_some_iff.1 hs).1
 refine vbf (S62 ts g q t vals) _ (fun i=>∀(j:Nat) v,j<i→vals[j]? =some v→badV s g.nodes.length j v=false) (m:=vals.length) (vas (by omega)) (fun j b h=>by omega) (by split<;>simp) (fun i hi hp=> ?_)
 by_cases hi':i<vals.length
 ·obtain ⟨v,hv⟩:∃v,vals[i]? =some v:=⟨_,List.getElem?_eq_getElem hi'⟩
  obtain ⟨b,hb⟩:∃b,(ch s)[i]? =some b:=⟨_,List.getElem?_eq_getElem (by rw [←vck];omega)⟩
  have hx:=vd1 hb
  have hc:=vi8 (Φ:=T d) (N:=fuel) (n:=v) (lo:=0) (hi:=g.nodes.length)
  have hw:=vag i (by omega)
  have hr:refAt s i=decide ((b.toNat:Int)=114):=by simp only [refAt,hb]
  have next (hbad:badV s g.nodes.length i v=false):∀(j:Nat) y,j<i+1→vals[j]? =some y→badV s g.nodes.length j y=false:=fun j y hj hy=>by
   by_cases hji:j=i
   ·subst hji;rw [hv] at hy;cases hy;exact hbad
   ·exact hp j y (by omega) hy
  unfold round S62 c_spec_GraphOk_L2
  by_cases c1:(b.toNat:Int)=114
  ·cases hn:isN g.nodes.length v
   ·right
    rw [show decide (0≤v∧v≤(g.nodes.length:Int))=false from hn] at hc
    rw [if_neg (fun hok=>by
     have:=(vby.1 hok) i v hv
     rw [Nat.zero_add,badV,hr,hn,decide_eq_true c1] at this
     cases this)]
    simp (maxSteps:=3000000) (implicitDefEqProofs:=false) (disch:=first|assumption|(refine ofR ?_;show norm _ _=_;kernel_rfl)|(refine ofR ?_;show okD _ _ _ _=true;kernel_rfl)|exact ofR (by with_unfolding_all rfl)|exact ofB (by with_unfolding_all rfl)|omega|(simp only [go_sem,vab];omega)) only [go_sem,Nat.reduceAdd,Nat.reduceBEq,hv,hx,hs,hc,hw]
   ·rw [show decide (0≤v∧v≤(g.nodes.length:Int))=true from hn] at hc
    refine .inl ⟨hi',?_,next (by rw [badV,hn];simp)⟩
    simp (maxSteps:=3000000) (implicitDefEqProofs:=false) (disch:=first|assumption|(refine ofR ?_;show norm _ _=_;kernel_rfl)|(refine ofR ?_;show okD _ _ _ _=true;kernel_rfl)|exact ofR (by with_unfolding_all rfl)|exact ofB (by with_unfolding_all rfl)|omega|(simp only [go_sem,vab];omega)) only [go_sem,Nat.reduceAdd,Nat.reduceBEq,hv,hx,hs,hc,hw]
    (show some _=some _;kernel_rfl)
  ·refine .inl ⟨hi',?_,next (by rw [badV,hr,decide_eq_false c1];rfl)⟩
   simp (maxSteps:=3000000) (implicitDefEqProofs:=false) (disch:=first|assumption|(refine ofR ?_;show norm _ _=_;kernel_rfl)|(refine ofR ?_;show okD _ _ _ _=true;kernel_rfl)|exact ofR (by with_unfolding_all rfl)|exact ofB (by with_unfolding_all rfl)|omega|(simp only [go_sem,vab];omega)) only [go_sem,Nat.reduceAdd,Nat.reduceBEq,hv,hx,hs,hw]
   (show some _=some _;kernel_rfl)
 ·obtain rfl:i=vals.length:=by omega
  right
  rw [if_pos (vby.2 fun j v hj=>by rw [Nat.zero_add];exact hp j v (by have:=(List.getElem?_eq_some_iff.1 hj).1;omega) hj)]
  unfold round S62 c_spec_GraphOk_L2
  simp (maxSteps:=3000000) (implicitDefEqProofs:=false) (disch:=first|assumption|(refine ofR ?_;show norm _ _=_;kernel_rfl)|(refine ofR ?_;show okD _ _ _ _=true;kernel_rfl)|exact ofR (by with_unfolding_all rfl)|exact ofB (by with_unfolding_all rfl)|omega|(simp only [go_sem,vab];omega)) only [go_sem,Nat.reduceAdd,Nat.reduceBEq]
def S61 (ts:List ByteArray) (g:Gr) (i:Nat):St:=⟨[(0,.sz t_string (ts.map eStr)),(3,.rf 0),(5,.a (.int .i64 g.nodes.length)),(7,.a (.int .i64 i))],[(0,some (.bx false (uGr g)))],1⟩
def isRetF (o:Out) (e:St):Prop:=o= .ret∧∃nd nx,e=⟨[(4,.a (.bool false))],nd,nx⟩
theorem vrk {d:Nat} {ts:List ByteArray} {g:Gr} (h:Small ts g):
  ∃o e,(if g.nodes.all (objOk ts g.nodes.length)=true then o= .ext 2∧∃nd nx sl,e=⟨sl,nd,nx⟩ else isRetF o e)∧loopE (T (d+1)) fuel [0,3,5,7] c_spec_GraphOk_L1 (S61 ts g 0)=some (o,e):=by
 have hn:=h.nodes
 have htl:=h.tl
 have hww:IntKind.i64.wrap ((ts.length:Int)-1)=ts.length-1:=by rw [van]<;>omega
 refine vpd (S61 ts g) _ (fun i=>∀(j:Nat) b,j<i→g.nodes[j]? =some b→objOk ts g.nodes.length b=true) (m:=g.nodes.length) (vas (by omega)) (fun j b h=>by omega) (fun i hi hp=> ?_)
 by_cases hi':i<g.nodes.length
 ·obtain ⟨o,hb⟩:∃b,g.nodes[i]? =some b:=⟨_,List.getElem?_eq_getElem hi'⟩
  have hvl:=h.vals o (List.mem_of_getElem? hb)
  have bad (hf:objOk ts g.nodes.length o=false) {o' e':_} (he:isRetF o' e'):(if g.nodes.all (objOk ts g.nodes.length)=true then o'= .ext 2∧∃nd nx sl,e'=⟨sl,nd,nx⟩ else isRetF o' e'):=by
   rw [if_neg (fun hall=>by have:=List.all_eq_true.1 hall o (List.mem_of_getElem? hb);rw [hf] at this;cases this)]
   exact he
  have next (hbad:objOk ts g.nodes.length o=true):∀(j:Nat) y,j<i+1→g.nodes[j]? =some y→objOk ts g.nodes.length y=true:=fun j y hj hy=>by
   by_cases hji:j=i
   ·subst hji;rw [hb] at hy;cases hy;exact hbad
   ·exact hp j y (by omega) hy
  have hw:=vag i (by omega)
  obtain ⟨ty,vals⟩:=o
  dsimp only at *
  have hc:=vi8 (Φ:=T d) (N:=fuel) (n:=ty) (lo:=0) (hi:=(ts.length:Int)-1)
  by_cases c1:0≤ty∧ty≤(ts.length:Int)-1
  ·rw [decide_eq_true c1] at hc
   obtain ⟨t,rfl⟩:∃t:Nat,ty=(t:Int):=⟨ty.toNat,by omega⟩
   obtain ⟨s,hs⟩:∃s,ts[t]? =some s:=⟨_,List.getElem?_eq_getElem (by omega)⟩
   have hss:=h.sz s (List.mem_of_getElem? hs)
   have hob:objOk ts g.nodes.length ⟨(t:Int),vals⟩=(decide (vals.length=s.size)&&okVals s g.nodes.length 0 vals):=by
    unfold objOk
    rw [show (⟨(t:Int),vals⟩:Obj').ty.toNat=t from Int.toNat_natCast t,hs]
    simp only [show decide (0≤(t:Int))=true from decide_eq_true c1.1,Bool.true_and]
   by_cases hz:vals.length=s.size
   ·have key:=vrp (d:=d) ts g i hvl hs hz
    unfold S62 at key
    rw [decide_eq_true hz,Bool.true_and] at hob
    cases hv:okVals s g.nodes.length 0 vals
    ·rw [hv] at hob
     rw [if_neg (by rw [hv];simp)] at key
     have hrd:∃nd nx,round (T (d+1)) fuel [0,3,5,7] c_spec_GraphOk_L1 (S61 ts g i)=some (.ret,⟨[(4,.a (.bool false))],nd,nx⟩):=by
      unfold round S61 c_spec_GraphOk_L1
      exact ⟨_,_,by
       simp (maxSteps:=3000000) (implicitDefEqProofs:=false) (disch:=first|assumption|(refine ofR ?_;show norm _ _=_;kernel_rfl)|(refine ofR ?_;show okD _ _ _ _=true;kernel_rfl)|exact ofR (by with_unfolding_all rfl)|exact ofB (by with_unfolding_all rfl)|omega|(simp only [go_sem,vab];omega)) only [go_sem,Nat.reduceAdd,Nat.reduceBEq,hb,hc,hw,hww,hs,vbo key]
       rfl⟩
     obtain ⟨nd,nx,hrd⟩:=hrd
     exact .inr ⟨_,_,by simp,hrd,bad hob ⟨rfl,nd,nx,rfl⟩⟩
    ·rw [hv] at hob
     rw [if_pos hv] at key
     refine .inl ⟨hi',?_,next hob⟩
     unfold round S61 c_spec_GraphOk_L1
     simp (maxSteps:=3000000) (implicitDefEqProofs:=false) (disch:=first|assumption|(refine ofR ?_;show norm _ _=_;kernel_rfl)|(refine ofR ?_;show okD _ _ _ _=true;kernel_rfl)|exact ofR (by with_unfolding_all rfl)|exact ofB (by with_unfolding_all rfl)|omega|(simp only [go_sem,vab];omega)) only [go_sem,Nat.reduceAdd,Nat.reduceBEq,hb,hc,hw,hww,hs,vah key]
     (show some _=some _;kernel_rfl)
   ·rw [decide_eq_false hz,Bool.false_and] at hob
    have hz':¬((vals.length:Int)=(s.size:Int)):=by omega
    have hrd:∃nd nx,round (T (d+1)) fuel [0,3,5,7] c_spec_GraphOk_L1 (S61 ts g i)=some (.ret,⟨[(4,.a (.bool false))],nd,nx⟩):=by
     unfold round S61 c_spec_GraphOk_L1
     exact ⟨_,_,by
      simp (maxSteps:=3000000) (implicitDefEqProofs:=false) (disch:=first|assumption|(refine ofR ?_;show norm _ _=_;kernel_rfl)|(refine ofR ?_;show okD _ _ _ _=true;kernel_rfl)|exact ofR (by with_unfolding_all rfl)|exact ofB (by with_unfolding_all rfl)|omega|(simp only [go_sem,vab];omega)) only [go_sem,Nat.reduceAdd,Nat.reduceBEq,hb,hc,hw,hww,hs]
      rfl⟩
    obtain ⟨nd,nx,hrd⟩:=hrd
    exact .inr ⟨_,_,by simp,hrd,bad hob ⟨rfl,nd,nx,rfl⟩⟩
  ·rw [decide_eq_false c1] at hc
   have hob:objOk ts g.nodes.length ⟨ty,vals⟩=false:=by
    unfold objOk
    dsimp only
    by_cases h0:0≤ty
    ·rw [List.getElem?_eq_none (by omega)]
    ·rw [show decide (0≤ty)=false from decide_eq_false h0]
     split<;>rfl
   have hrd:∃nd nx,round (T (d+1)) fuel [0,3,5,7] c_spec_GraphOk_L1 (S61 ts g i)=some (.ret,⟨[(4,.a (.bool false))],nd,nx⟩):=by
    unfold round S61 c_spec_GraphOk_L1
    exact ⟨_,_,by
     simp (maxSteps:=3000000) (implicitDefEqProofs:=false) (disch:=first|assumption|(refine ofR ?_;show norm _ _=_;kernel_rfl)|(refine ofR ?_;show okD _ _ _ _=true;kernel_rfl)|exact ofR (by with_unfolding_all rfl)|exact ofB (by with_unfolding_all rfl)|omega|(simp only [go_sem,vab];omega)) only [go_sem,Nat.reduceAdd,Nat.reduceBEq,hb,hc,hw,hww]
     rfl⟩
   obtain ⟨nd,nx,hrd⟩:=hrd
   exact .inr ⟨_,_,by simp,hrd,bad hob ⟨rfl,nd,nx,rfl⟩⟩
 ·obtain rfl:i=g.nodes.length:=by omega
  right
  have hall:g.nodes.all (objOk ts g.nodes.length)=true:=List.all_eq_true.2 fun b hb=>by
   obtain ⟨j,hj,rfl⟩:=List.mem_iff_getElem.1 hb
   exact hp j _ hj (List.getElem?_eq_getElem hj)
  have hrd:∃nd nx sl,round (T (d+1)) fuel [0,3,5,7] c_spec_GraphOk_L1 (S61 ts g g.nodes.length)=some (.ext 2,⟨sl,nd,nx⟩):=by
   unfold round S61 c_spec_GraphOk_L1
   exact ⟨_,_,_,by
    simp (maxSteps:=3000000) (implicitDefEqProofs:=false) (disch:=first|assumption|(refine ofR ?_;show norm _ _=_;kernel_rfl)|(refine ofR ?_;show okD _ _ _ _=true;kernel_rfl)|exact ofR (by with_unfolding_all rfl)|exact ofB (by with_unfolding_all rfl)|omega|(simp only [go_sem,vab];omega)) only [go_sem,Nat.reduceAdd,Nat.reduceBEq]
    rfl⟩
  obtain ⟨nd,nx,sl,hrd⟩:=hrd
  exact ⟨_,_,by simp,hrd,by rw [if_pos hall];exact ⟨rfl,nd,nx,sl,rfl⟩⟩
theorem vb1 {d:Nat} {ts:List ByteArray} {g:Gr} (h:Small ts g):runFn (T (d+3)) fuel f_spec_GraphOk [.sl true t_string (ts.map eStr),cGr true g]=some ([.a (.bool (graphOk ts g))],[]):=by
 have h1:=vjh (d:=d) ts h.tl h.sz
 have h2:=vr0 (d:=d+2) ts g h.roots
 obtain ⟨o,e,h4,h3⟩:=vrk (d:=d+2) h
 unfold S60 at h2
 unfold S61 at h3
 rw [vae rfl]
 unfold graphOk
 have hr:=h.roots
 have hn:=h.nodes
 cases ht:typesOk ts
 ·rw [ht] at h1
  simp (maxSteps:=3000000) (implicitDefEqProofs:=false) (disch:=first|assumption|(refine ofR ?_;show norm _ _=_;kernel_rfl)|(refine ofR ?_;show okD _ _ _ _=true;kernel_rfl)|exact ofR (by with_unfolding_all rfl)|exact ofB (by with_unfolding_all rfl)|omega|(simp only [go_sem,vab];omega)) only [go_sem,Nat.reduceAdd,Nat.reduceBEq,f_spec_GraphOk,c_spec_GraphOk,h1]
 ·rw [ht] at h1
  by_cases c1:g.roots.length≤40
  ·rw [decide_eq_true c1]
   by_cases c2:g.nodes.length≤400
   ·rw [decide_eq_true c2]
    cases c3:g.roots.all (isN g.nodes.length)
    ·rw [if_neg (by rw [c3];simp)] at h2
     simp (maxSteps:=3000000) (implicitDefEqProofs:=false) (disch:=first|assumption|(refine ofR ?_;show norm _ _=_;kernel_rfl)|(refine ofR ?_;show okD _ _ _ _=true;kernel_rfl)|exact ofR (by with_unfolding_all rfl)|exact ofB (by with_unfolding_all rfl)|omega|(simp only [go_sem,vab];omega)) only [go_sem,Nat.reduceAdd,Nat.reduceBEq,f_spec_GraphOk,c_spec_GraphOk,h1,vbo h2]
    ·rw [if_pos c3] at h2
     cases c4:g.nodes.all (objOk ts g.nodes.length)
     ·rw [if_neg (by rw [c4];simp)] at h4
      obtain ⟨rfl,nd,nx,rfl⟩:=h4
      simp (maxSteps:=3000000) (implicitDefEqProofs:=false) (disch:=first|assumption|(refine ofR ?_;show norm _ _=_;kernel_rfl)|(refine ofR ?_;show okD _ _ _ _=true;kernel_rfl)|exact ofR (by with_unfolding_all rfl)|exact ofB (by with_unfolding_all rfl)|omega|(simp only [go_sem,vab];omega)) only [go_sem,Nat.reduceAdd,Nat.reduceBEq,f_spec_GraphOk,c_spec_GraphOk,h1,vah h2,vbo h3]
     ·rw [if_pos c4] at h4
      obtain ⟨rfl,nd,nx,sl,rfl⟩:=h4
      simp (maxSteps:=3000000) (implicitDefEqProofs:=false) (disch:=first|assumption|(refine ofR ?_;show norm _ _=_;kernel_rfl)|(refine ofR ?_;show okD _ _ _ _=true;kernel_rfl)|exact ofR (by with_unfolding_all rfl)|exact ofB (by with_unfolding_all rfl)|omega|(simp only [go_sem,vab];omega)) only [go_sem,Nat.reduceAdd,Nat.reduceBEq,f_spec_GraphOk,c_spec_GraphOk,h1,vah h2,vah h3]
   ·rw [decide_eq_false c2]
    simp (maxSteps:=3000000) (implicitDefEqProofs:=false) (disch:=first|assumption|(refine ofR ?_;show norm _ _=_;kernel_rfl)|(refine ofR ?_;show okD _ _ _ _=true;kernel_rfl)|exact ofR (by with_unfolding_all rfl)|exact ofB (by with_unfolding_all rfl)|omega|(simp only [go_sem,vab];omega)) only [go_sem,Nat.reduceAdd,Nat.reduceBEq,f_spec_GraphOk,c_spec_GraphOk,h1]
  ·rw [decide_eq_false c1]
   simp (maxSteps:=3000000) (implicitDefEqProofs:=false) (disch:=first|assumption|(refine ofR ?_;show norm _ _=_;kernel_rfl)|(refine ofR ?_;show okD _ _ _ _=true;kernel_rfl)|exact ofR (by with_unfolding_all rfl)|exact ofB (by with_unfolding_all rfl)|omega|(simp only [go_sem,vab];omega)) only [go_sem,Nat.reduceAdd,Nat.reduceBEq,f_spec_GraphOk,c_spec_GraphOk,h1]
end Go.Proofs.YteomgghmhicpcaaDoor.VM

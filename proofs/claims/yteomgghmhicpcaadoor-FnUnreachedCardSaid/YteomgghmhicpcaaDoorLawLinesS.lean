/- How many lines a graph needs: the reference's; drawn graphs under their other names. -/
import Derived.Test.YteomgghmhicpcaaDoorLawLines
import Derived.Test.YteomgghmhicpcaaDoorLawD
namespace Go.Proofs.YteomgghmhicpcaaDoor.VM
open Go Sy
variable {Φ:Nat→Option Callee} {N:Nat}
theorem vut {d:Nat} (s:ByteArray) (h0:okType s=true) (hs:s.size≤1000):runFn (T (d+2)) fuel f_spec_RunOf [.a (.string s)]=some ([.a (.int .i64 (((s.size+8)/8:Nat):Int))],[]):=by
 have h1:=vk8 (d:=d) s (by omega)
 rw [h0] at h1
 have e0:IntKind.i64.wrap (1+(s.size:Int))=((s.size+1:Nat):Int):=by rw [van]<;>omega
 have e1:IntKind.i64.wrap (((s.size+1:Nat):Int)+7)=((s.size+8:Nat):Int):=by rw [van]<;>omega
 have e2:Int.tdiv ((s.size+8:Nat):Int) 8=(((s.size+8)/8:Nat):Int):=(Int.ofNat_tdiv _ 8).symm
 have e3:IntKind.i64.wrap (((s.size+8)/8:Nat):Int)=(((s.size+8)/8:Nat):Int):=by rw [van]<;>omega
 have e4:IntKind.i64.wrap ((s.size+8:Nat):Int)=((s.size+8:Nat):Int):=by rw [van]<;>omega
 rw [vae rfl]
 simp (maxSteps:=3000000) (implicitDefEqProofs:=false) (disch:=first|assumption|(refine ofR ?_;show norm _ _=_;kernel_rfl)|(refine ofR ?_;show okD _ _ _ _=true;kernel_rfl)|exact ofR (by with_unfolding_all rfl)|exact ofB (by with_unfolding_all rfl)|omega|(simp only [go_sem,vab];omega)) only [go_sem,Nat.reduceAdd,Nat.reduceBEq,f_spec_RunOf,c_spec_RunOf,h1,e0,e1,e2,e3,e4]
theorem vog {d:Nat} {ts:List ByteArray} {g:Gr} (h:Right ts g) (hok:∀s∈ts,okType s=true) {F:List Nat} (hF:∀k∈F,k<g.nodes.length) (hl:F.length≤400):
  loopE (T (d+3)) fuel [0,3,5,6,7] c_spec_LinesFor_L0 ⟨[(0,.sz t_string (ts.map eStr)),(3,.rf 0),(5,.rf 1),(6,.a (.int .i64 (0:Nat))),(7,.a (.int .i64 (0:Nat)))],[(0,some (.bx false (uGr g))),(1,some (.sl false 0 t_i64 (F.map eNat)))],2⟩=
   some (.ext 0,⟨[(0,.sz t_string (ts.map eStr)),(3,.rf 0),(5,.rf 1),(6,.a (.int .i64 (F.foldl (fun n k=>n+lnK ts g k) 0:Nat))),(7,.a (.int .i64 F.length)),(18,.a (.bool false))],[(0,some (.bx false (uGr g))),(1,some (.sl false 0 t_i64 (F.map eNat)))],402⟩):=by
 refine (vkc F (fun i n=>⟨[(0,.sz t_string (ts.map eStr)),(3,.rf 0),(5,.rf 1),(6,.a (.int .i64 (n:Nat))),(7,.a (.int .i64 (i:Nat)))],[(0,some (.bx false (uGr g))),(1,some (.sl false 0 t_i64 (F.map eNat)))],2⟩) (fun i n=>n≤i * 4) (fun n k=>n+lnK ts g k)
  (fun n=>⟨[(0,.sz t_string (ts.map eStr)),(3,.rf 0),(5,.rf 1),(6,.a (.int .i64 (n:Nat))),(7,.a (.int .i64 F.length)),(18,.a (.bool false))],[(0,some (.bx false (uGr g))),(1,some (.sl false 0 t_i64 (F.map eNat)))],402⟩) (vas (by omega)) (by omega) (fun i k n hk hn=> ?_) fun n hn=> ?_).1
 ·have hkn:=hF k (List.mem_of_getElem? hk)
  have hil:i<F.length:=(List.getElem?_eq_some_iff.1 hk).1
  obtain ⟨o,ho⟩:∃o,g.nodes[k]? =some o:=⟨_,List.getElem?_eq_getElem hkn⟩
  obtain ⟨t,s,t1,t2,t3,t4,t5,_⟩:=h.obj o (List.mem_of_getElem? ho)
  have htl:t<ts.length:=(List.getElem?_eq_some_iff.1 t2).1
  have hc:=vut (d:=d) s (hok s (List.mem_of_getElem? t2)) (by omega)
  have e0:lnK ts g k=(s.size+8)/8:=by
   unfold lnK lnO
   rw [ho]
   simp only [t1,Int.toNat_natCast,t2]
  have hw:=vag i (by omega)
  have e1:IntKind.i64.wrap ((n:Int)+(((s.size+8)/8:Nat):Int))=((n+(s.size+8)/8:Nat):Int):=by rw [van]<;>omega
  rw [e0]
  refine ⟨?_,by omega⟩
  unfold round c_spec_LinesFor_L0
  simp (maxSteps:=3000000) (implicitDefEqProofs:=false) (disch:=first|assumption|(refine ofR ?_;show norm _ _=_;kernel_rfl)|(refine ofR ?_;show okD _ _ _ _=true;kernel_rfl)|exact ofR (by with_unfolding_all rfl)|exact ofB (by with_unfolding_all rfl)|omega|(simp only [go_sem,vab];omega)) only [go_sem,Nat.reduceAdd,Nat.reduceBEq,hk,ho,t1,t2,hc,hw,e1]
  (show some _=some _;kernel_rfl)
 ·unfold round c_spec_LinesFor_L0
  simp (maxSteps:=3000000) (implicitDefEqProofs:=false) (disch:=first|assumption|(refine ofR ?_;show norm _ _=_;kernel_rfl)|(refine ofR ?_;show okD _ _ _ _=true;kernel_rfl)|exact ofR (by with_unfolding_all rfl)|exact ofB (by with_unfolding_all rfl)|omega|(simp only [go_sem,vab];omega)) only [go_sem,Nat.reduceAdd,Nat.reduceBEq]
theorem vid {d:Nat} {ts:List ByteArray} {g:Gr} (hg:Small ts g):runFn (T (d+4)) fuel f_spec_LinesFor [.sl true t_string (ts.map eStr),cGr true g]=some ([.a (.int .i64 (linesFor ts g))],[]):=by
 have h1:=vb1 (d:=d) hg
 rw [vae rfl]
 unfold linesFor
 cases c1:graphOk ts g
 ·rw [c1] at h1
  simp (maxSteps:=3000000) (implicitDefEqProofs:=false) (disch:=first|assumption|(refine ofR ?_;show norm _ _=_;kernel_rfl)|(refine ofR ?_;show okD _ _ _ _=true;kernel_rfl)|exact ofR (by with_unfolding_all rfl)|exact ofB (by with_unfolding_all rfl)|omega|(simp only [go_sem,vab];omega)) only [go_sem,Nat.reduceAdd,Nat.reduceBEq,f_spec_LinesFor,c_spec_LinesFor,h1]
 ·rw [c1] at h1
  have r:=Right.of hg c1
  have hok:∀s∈ts,okType s=true:=by
   unfold graphOk typesOk at c1
   simp only [Bool.and_eq_true,List.all_eq_true] at c1
   exact c1.1.2
  have hd:=vi0 (Φ:=T (d+3)) r
  have hI:=vau ts g g.nodes.length
  have hF:∀k∈found ts g,k<g.nodes.length:=hI.low
  have hle:(found ts g).length≤g.nodes.length:=hI.le
  have hn:=r.n
  have key:=vog (d:=d+1) r hok hF (by omega)
  unfold linesG
  generalize (found ts g).foldl (fun n k=>n+lnK ts g k) 0=S at *
  generalize found ts g=F at *
  simp (maxSteps:=3000000) (implicitDefEqProofs:=false) (disch:=first|assumption|(refine ofR ?_;show norm _ _=_;kernel_rfl)|(refine ofR ?_;show okD _ _ _ _=true;kernel_rfl)|exact ofR (by with_unfolding_all rfl)|exact ofB (by with_unfolding_all rfl)|omega|(simp only [go_sem,vab];omega)) only [go_sem,Nat.reduceAdd,Nat.reduceBEq,f_spec_LinesFor,c_spec_LinesFor,h1,hd,vah key]
end Go.Proofs.YteomgghmhicpcaaDoor.VM

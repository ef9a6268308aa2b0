/- Drawn graphs under another name: for LinesFor. -/
import Derived.Test.YteomgghmhicpcaaDoorLawDraw3
namespace Go.Proofs.YteomgghmhicpcaaDoor.VM
open Go Sy
theorem vjc {d:Nat} {bs:List Nat} (hb:Bs bs):∃(ts:List ByteArray) (g:Gr),Small ts g∧ts.length≤30∧g.roots.length≤50∧g.nodes.length≤14∧(∀o∈g.nodes,o.vals.length≤24)∧
  runFn (T (d+6)) fuel f_spec_DrawLinesFor [.sl true t_u8 (bs.map eU8)]=some ([.sl false t_string (ts.map eStr),cGr false g],[]):=by
 obtain ⟨ts,g,h1,h2,h3,h4,h5,he⟩:=vj4 (d:=d) hb
 refine ⟨ts,g,h1,h2,h3,h4,h5,?_⟩
 rw [vae rfl]
 simp (maxSteps:=3000000) (implicitDefEqProofs:=false) (disch:=first|assumption|(refine ofR ?_;show norm _ _=_;kernel_rfl)|(refine ofR ?_;show okD _ _ _ _=true;kernel_rfl)|exact ofR (by with_unfolding_all rfl)|exact ofB (by with_unfolding_all rfl)|omega|(simp only [go_sem,vab];omega)) only [go_sem,Nat.reduceAdd,Nat.reduceBEq,f_spec_DrawLinesFor,c_spec_DrawLinesFor,he]
end Go.Proofs.YteomgghmhicpcaaDoor.VM

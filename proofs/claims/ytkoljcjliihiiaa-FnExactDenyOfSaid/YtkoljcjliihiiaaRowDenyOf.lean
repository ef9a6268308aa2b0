/- FnExactDenyOf: for all answers the program's DenyOf returns what the reference's returns, leaves its argument alone, and shares no memory. No condition. -/
import Derived.Test.YtkoljcjliihiiaaForm
import Derived.Test.YtkoljcjliihiiaaVmRow
import Derived.Test.YtkoljcjliihiiaaLawDeny
import Derived.Test.YtkoljcjliihiiaaRows
namespace Go.Proofs.Ytkoljcjliihiiaa.DenyOf
open Go Go.Proofs.Ytkoljcjliihiiaa.VM Go.Proofs.Ytkoljcjliihiiaa.VM.Sy
theorem own : ownKnob Try.prog.godebug = none := by kernel_rfl
theorem laidOut : laidOutB Try.prog = true := by kernel_rfl
theorem good (d : Nat) : Go.Proofs.Ytkoljcjliihiiaa.VM.Good Try.prog writes (T d) := tower_good (by kernel_rfl) tab_ok (by rfl) (fun f c h => (by cases h)) d

theorem shape {css : List (List PV)} (h : TyAll Try.prog 8 Try.f4.params.toList css) : ∃ l : List Ans, argCVs Try.prog Try.f4.params.toList css = [.sl true t_laws_Answer (l.map eAns)] ∧ l.length < 9223372036854000000 := by
  rw [Try.params4] at h ⊢
  obtain ⟨c, cs, rfl, h1, h2⟩ := tyall_cons h
  cases tyall_nil h2
  obtain ⟨es, rfl, h3, h4⟩ := tyd_slice Try.underlying30 h1
  obtain ⟨l, rfl⟩ := all_map (f := eAns) (l := es) fun y hy => by
    obtain ⟨c, rfl, h5⟩ := h4 y hy
    obtain ⟨c1, c2, rfl, h6, h7⟩ := tyfs_cons (tyd_struct Try.underlying64 h5)
    obtain ⟨c3, c4, rfl, h8, h9⟩ := tyfs_cons h7
    cases tyfs_nil h9
    obtain ⟨n1, rfl, _⟩ := tyd_int Try.underlying2 h6
    obtain ⟨n2, rfl, _⟩ := tyd_int Try.underlying2 h8
    exact ⟨⟨n1, n2⟩, rfl⟩
  refine ⟨l, rfl, ?_⟩
  rw [List.length_map, show Try.prog.bytesOf 64 = 16 from by kernel_rfl] at h3
  omega

set_option maxRecDepth 100000 in
theorem lifted (os : Os) (started : os.Started) (H : Type) (enc : TypeId × Value → H) :
    ReturnsInHanded {} Try.checked os 4 .any (Rows.fnExactDenyOfSpec.pre6 enc Try.prog Try.f4 Rows.fnExactDenyOfRow.domain false) (Rows.fnExactDenyOfSpec.post enc Try.prog Try.f4 false true false false) := by
  refine returnsInHanded_of_change_sized (C := Try.checked) own started (by kernel_rfl) Try.func4
    (ChangeSpec.witness6 (enc := enc) (C := Try.checked) false ⟨#[], #[.slice none 0 0], []⟩ 8 (by kernel_rfl) (by kernel_rfl) (by kernel_rfl) (by kernel_rfl)) ?_
  intro W base args ds gs before hval hW hcnd hsz _
  refine law_contract (k := 8) (cal := ⟨[.ro 0], false, true, runFn (T 2) fuel f_laws_FnExactDenyOf⟩) laidOut Try.func4 (by kernel_rfl) rfl (by rfl) Try.underlying4 rfl ?_ (by rw [Try.params4]; decide +kernel) (by rw [Try.params4]; decide +kernel) ((good 3).sound n_laws_FnExactDenyOf _ T_laws_FnExactDenyOf) (fun vs => by cases vs <;> rfl) ?_ hval hW hsz
  · intro ds hl
    match ds, hl with
    | [d], _ => rfl
  · intro css h
    obtain ⟨l, h1, h2⟩ := shape h
    rw [h1]
    exact law_DenyOf l h2

theorem over : Rows.fnExactDenyOfRow.holds Try.pinned (OpenSpec.ofChange Rows.fnExactDenyOfSpec) :=
  OpenClaim.holds_of_wide 4 Try.f4 rfl rfl rfl rfl rfl rfl rfl ⟨rfl, rfl, rfl, rfl, rfl⟩ rfl rfl rfl rfl rfl (by kernel_rfl) Try.func4 (by kernel_rfl)
    (of_decide_eq_true (by kernel_rfl)) (by unfold Func.isWrapper; first | (rw [if_pos (by decide +kernel)]; kernel_rfl) | (rw [if_neg (by decide +kernel)]; exact ⟨rfl, rfl⟩))
    (fun os started H enc _ => lifted os started H enc)
end Go.Proofs.Ytkoljcjliihiiaa.DenyOf
namespace Go.Proofs.Ytkoljcjliihiiaa
theorem denyOf_holds : Rows.FnExactDenyOfSaid := DenyOf.over
end Go.Proofs.Ytkoljcjliihiiaa

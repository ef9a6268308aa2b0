/- FnExactStripped: for all acts the program's Stripped returns what the reference's returns, leaves its argument alone, and shares no memory. No condition. -/
import Derived.Test.YtkoljcjliihiiaaRowActs
import Derived.Test.YtkoljcjliihiiaaRows
namespace Go.Proofs.Ytkoljcjliihiiaa.Stripped
open Go Go.Proofs.Ytkoljcjliihiiaa.VM Go.Proofs.Ytkoljcjliihiiaa.VM.Sy
theorem own : ownKnob Try.prog.godebug = none := by kernel_rfl
theorem laidOut : laidOutB Try.prog = true := by kernel_rfl
theorem good (d : Nat) : Go.Proofs.Ytkoljcjliihiiaa.VM.Good Try.prog writes (T d) := tower_good (by kernel_rfl) tab_ok (by rfl) ext_ok.look d

theorem shape {css : List (List PV)} (h : TyAll Try.prog 8 Try.f5.params.toList css) : ∃ l : List Act', argCVs Try.prog Try.f5.params.toList css = [.sl true t_laws_Act (l.map eAct)] ∧ l.length < 9223372036854000000 ∧ ∀ x ∈ l, x.keep.length < 9223372036854000000 := by
  rw [Try.params5] at h ⊢
  obtain ⟨c, cs, rfl, h1, h2⟩ := tyall_cons h
  cases tyall_nil h2
  obtain ⟨l, rfl, h3, h4⟩ := acts_shape h1
  exact ⟨l, rfl, h3, h4⟩

set_option maxRecDepth 100000 in
theorem lifted (os : Os) (started : os.Started) (H : Type) (enc : TypeId × Value → H) :
    ReturnsInHanded {} Try.checked os 5 .any (Rows.fnExactStrippedSpec.pre6 enc Try.prog Try.f5 Rows.fnExactStrippedRow.domain false) (Rows.fnExactStrippedSpec.post enc Try.prog Try.f5 false true false false) := by
  refine returnsInHanded_of_change_sized (C := Try.checked) own started (by kernel_rfl) Try.func5
    (ChangeSpec.witness6 (enc := enc) (C := Try.checked) false ⟨#[], #[.slice none 0 0], []⟩ 8 (by kernel_rfl) (by kernel_rfl) (by kernel_rfl) (by kernel_rfl)) ?_
  intro W base args ds gs before hval hW hcnd hsz _
  refine law_contract (k := 8) (cal := ⟨[.ro 0], false, true, runFn (T 3) fuel f_laws_FnExactStripped⟩) laidOut Try.func5 (by kernel_rfl) rfl (by rfl) Try.underlying4 rfl ?_ (by rw [Try.params5]; decide +kernel) (by rw [Try.params5]; decide +kernel) ((good 4).sound n_laws_FnExactStripped _ T_laws_FnExactStripped) (fun vs => by cases vs <;> rfl) ?_ hval hW hsz
  · intro ds hl
    match ds, hl with
    | [d], _ => rfl
  · intro css h
    obtain ⟨l, h1, h2, h3⟩ := shape h
    rw [h1]
    exact law_Stripped l h2 h3

theorem over : Rows.fnExactStrippedRow.holds Try.pinned (OpenSpec.ofChange Rows.fnExactStrippedSpec) :=
  OpenClaim.holds_of_wide 5 Try.f5 rfl rfl rfl rfl rfl rfl rfl ⟨rfl, rfl, rfl, rfl, rfl⟩ rfl rfl rfl rfl rfl (by kernel_rfl) Try.func5 (by kernel_rfl)
    (of_decide_eq_true (by kernel_rfl)) (by unfold Func.isWrapper; first | (rw [if_pos (by decide +kernel)]; kernel_rfl) | (rw [if_neg (by decide +kernel)]; exact ⟨rfl, rfl⟩))
    (fun os started H enc _ => lifted os started H enc)
end Go.Proofs.Ytkoljcjliihiiaa.Stripped
namespace Go.Proofs.Ytkoljcjliihiiaa
theorem stripped_holds : Rows.FnExactStrippedSaid := Stripped.over
end Go.Proofs.Ytkoljcjliihiiaa

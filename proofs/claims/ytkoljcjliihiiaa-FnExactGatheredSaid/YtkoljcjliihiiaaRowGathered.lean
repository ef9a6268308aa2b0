/- FnExactGathered: for all acts and answers the program's Gathered returns what the reference's returns, leaves its arguments alone, and shares no memory. No condition. -/
import Derived.Test.YtkoljcjliihiiaaRowActs
import Derived.Test.YtkoljcjliihiiaaLawGather
import Derived.Test.YtkoljcjliihiiaaRows
namespace Go.Proofs.Ytkoljcjliihiiaa.Gathered
open Go Go.Proofs.Ytkoljcjliihiiaa.VM Go.Proofs.Ytkoljcjliihiiaa.VM.Sy
theorem own : ownKnob Try.prog.godebug = none := by kernel_rfl
theorem laidOut : laidOutB Try.prog = true := by kernel_rfl
theorem good (d : Nat) : Go.Proofs.Ytkoljcjliihiiaa.VM.Good Try.prog writes (T d) := tower_good (by kernel_rfl) tab_ok (by rfl) ext_ok.look d

theorem shape {css : List (List PV)} (h : TyAll Try.prog 8 Try.f6.params.toList css) : ∃ (l0 : List Act') (a1 : List Ans), argCVs Try.prog Try.f6.params.toList css = [.sl true t_laws_Act (l0.map eAct), .sl true t_laws_Answer (a1.map eAns)] ∧ (l0.length < 9223372036854000000) ∧ (∀ x ∈ l0, x.keep.length < 9223372036854000000) ∧ (a1.length < 9223372036854000000) := by
  rw [Try.params6] at h ⊢
  obtain ⟨c0, h⟩ := tyall_cons h
  obtain ⟨cs0, rfl, h0, h⟩ := h
  obtain ⟨c1, h⟩ := tyall_cons h
  obtain ⟨cs1, rfl, h1, h⟩ := h
  cases tyall_nil h
  obtain ⟨l0, rfl, g00, g01⟩ := acts_shape h0
  obtain ⟨a1, rfl, g10⟩ := answers_shape h1
  exact ⟨l0, a1, rfl, g00, g01, g10⟩

set_option maxRecDepth 100000 in
theorem lifted (os : Os) (started : os.Started) (H : Type) (enc : TypeId × Value → H) :
    ReturnsInHanded {} Try.checked os 6 .any (Rows.fnExactGatheredSpec.pre6 enc Try.prog Try.f6 Rows.fnExactGatheredRow.domain false) (Rows.fnExactGatheredSpec.post enc Try.prog Try.f6 false true false false) := by
  refine returnsInHanded_of_change_sized (C := Try.checked) own started (by kernel_rfl) Try.func6
    (ChangeSpec.witness6 (enc := enc) (C := Try.checked) false ⟨#[], #[.slice none 0 0, .slice none 0 0], []⟩ 8 (by kernel_rfl) (by kernel_rfl) (by kernel_rfl) (by kernel_rfl)) ?_
  intro W base args ds gs before hval hW hcnd hsz _
  refine law_contract (k := 8) (cal := ⟨[.ro 0, .ro 0], false, true, runFn (T 3) fuel f_laws_FnExactGathered⟩) laidOut Try.func6 (by kernel_rfl) rfl (by rfl) Try.underlying4 rfl ?_ (by rw [Try.params6]; decide +kernel) (by rw [Try.params6]; decide +kernel) ((good 4).sound n_laws_FnExactGathered _ T_laws_FnExactGathered) ?_ ?_ hval hW hsz
  · intro ds hl
    match ds, hl with
    | [d0, d1], _ => rfl
  · intro vs
    rcases vs with _ | ⟨_, _ | ⟨_, _⟩⟩ <;> rfl
  · intro css h
    obtain ⟨l0, a1, h0, h1, h2, h3⟩ := shape h
    rw [h0]
    exact law_Gathered l0 a1 h1 h2 h3

theorem over : Rows.fnExactGatheredRow.holds Try.pinned (OpenSpec.ofChange Rows.fnExactGatheredSpec) :=
  OpenClaim.holds_of_wide 6 Try.f6 rfl rfl rfl rfl rfl rfl rfl ⟨rfl, rfl, rfl, rfl, rfl⟩ rfl rfl rfl rfl rfl (by kernel_rfl) Try.func6 (by kernel_rfl)
    (of_decide_eq_true (by kernel_rfl)) (by unfold Func.isWrapper; first | (rw [if_pos (by decide +kernel)]; kernel_rfl) | (rw [if_neg (by decide +kernel)]; exact ⟨rfl, rfl⟩))
    (fun os started H enc _ => lifted os started H enc)
end Go.Proofs.Ytkoljcjliihiiaa.Gathered
namespace Go.Proofs.Ytkoljcjliihiiaa
theorem gathered_holds : Rows.FnExactGatheredSaid := Gathered.over
end Go.Proofs.Ytkoljcjliihiiaa

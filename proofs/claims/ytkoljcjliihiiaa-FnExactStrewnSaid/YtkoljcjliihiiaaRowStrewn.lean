/- FnExactStrewn: for all acts and places the program's Strewn returns what the reference's returns, leaves its arguments alone, and shares no memory. No condition. -/
import Derived.Test.YtkoljcjliihiiaaRowStrews
import Derived.Test.YtkoljcjliihiiaaRows
namespace Go.Proofs.Ytkoljcjliihiiaa.Strewn
open Go Go.Proofs.Ytkoljcjliihiiaa.VM Go.Proofs.Ytkoljcjliihiiaa.VM.Sy
theorem own : ownKnob Try.prog.godebug = none := by kernel_rfl
theorem laidOut : laidOutB Try.prog = true := by kernel_rfl
theorem good (d : Nat) : Go.Proofs.Ytkoljcjliihiiaa.VM.Good Try.prog writes (T d) := tower_good (by kernel_rfl) tab_ok (by rfl) ext_ok.look d

theorem shape {css : List (List PV)} (h : TyAll Try.prog 8 Try.f7.params.toList css) : ∃ (l0 : List Act') (p1 : List Strew), argCVs Try.prog Try.f7.params.toList css = [.sl true t_laws_Act (l0.map eAct), .sl true t_laws_Strew (p1.map eStrew)] ∧ (l0.length < 9223372036854000000) ∧ (∀ x ∈ l0, x.keep.length < 9223372036854000000) ∧ (p1.length < 9223372036854000000) := by
  rw [Try.params7] at h ⊢
  obtain ⟨c0, h⟩ := tyall_cons h
  obtain ⟨cs0, rfl, h0, h⟩ := h
  obtain ⟨c1, h⟩ := tyall_cons h
  obtain ⟨cs1, rfl, h1, h⟩ := h
  cases tyall_nil h
  obtain ⟨l0, rfl, g00, g01⟩ := acts_shape h0
  obtain ⟨p1, rfl, g10⟩ := strews_shape h1
  exact ⟨l0, p1, rfl, g00, g01, g10⟩

set_option maxRecDepth 100000 in
theorem lifted (os : Os) (started : os.Started) (H : Type) (enc : TypeId × Value → H) :
    ReturnsInHanded {} Try.checked os 7 .any (Rows.fnExactStrewnSpec.pre6 enc Try.prog Try.f7 Rows.fnExactStrewnRow.domain false) (Rows.fnExactStrewnSpec.post enc Try.prog Try.f7 false true false false) := by
  refine returnsInHanded_of_change_sized (C := Try.checked) own started (by kernel_rfl) Try.func7
    (ChangeSpec.witness6 (enc := enc) (C := Try.checked) false ⟨#[], #[.slice none 0 0, .slice none 0 0], []⟩ 8 (by kernel_rfl) (by kernel_rfl) (by kernel_rfl) (by kernel_rfl)) ?_
  intro W base args ds gs before hval hW hcnd hsz _
  refine law_contract (k := 8) (cal := ⟨[.ro 0, .ro 0], false, true, runFn (T 3) fuel f_laws_FnExactStrewn⟩) laidOut Try.func7 (by kernel_rfl) rfl (by rfl) Try.underlying4 rfl ?_ (by rw [Try.params7]; decide +kernel) (by rw [Try.params7]; decide +kernel) ((good 4).sound n_laws_FnExactStrewn _ T_laws_FnExactStrewn) ?_ ?_ hval hW hsz
  · intro ds hl
    match ds, hl with
    | [d0, d1], _ => rfl
  · intro vs
    rcases vs with _ | ⟨_, _ | ⟨_, _⟩⟩ <;> rfl
  · intro css h
    obtain ⟨l0, p1, h0, h1, h2, h3⟩ := shape h
    rw [h0]
    exact law_Strewn l0 p1 h1 h2 h3

theorem over : Rows.fnExactStrewnRow.holds Try.pinned (OpenSpec.ofChange Rows.fnExactStrewnSpec) :=
  OpenClaim.holds_of_wide 7 Try.f7 rfl rfl rfl rfl rfl rfl rfl ⟨rfl, rfl, rfl, rfl, rfl⟩ rfl rfl rfl rfl rfl (by kernel_rfl) Try.func7 (by kernel_rfl)
    (of_decide_eq_true (by kernel_rfl)) (by unfold Func.isWrapper; first | (rw [if_pos (by decide +kernel)]; kernel_rfl) | (rw [if_neg (by decide +kernel)]; exact ⟨rfl, rfl⟩))
    (fun os started H enc _ => lifted os started H enc)
end Go.Proofs.Ytkoljcjliihiiaa.Strewn
namespace Go.Proofs.Ytkoljcjliihiiaa
theorem strewn_holds : Rows.FnExactStrewnSaid := Strewn.over
end Go.Proofs.Ytkoljcjliihiiaa

/- FnDenies: of all drawn answers those are denied that the document says. No condition. -/
import Derived.Test.YtkoljcjliihiiaaForm
import Derived.Test.YtkoljcjliihiiaaVmRow
import Derived.Test.YtkoljcjliihiiaaLawDenies
import Derived.Test.YtkoljcjliihiiaaRows
namespace Go.Proofs.Ytkoljcjliihiiaa.Denies
open Go Go.Proofs.Ytkoljcjliihiiaa.VM Go.Proofs.Ytkoljcjliihiiaa.VM.Sy
theorem own : ownKnob Try.prog.godebug = none := by kernel_rfl
theorem laidOut : laidOutB Try.prog = true := by kernel_rfl
theorem good (d : Nat) : Go.Proofs.Ytkoljcjliihiiaa.VM.Good Try.prog writes (T d) := tower_good (by kernel_rfl) tab_ok (by rfl) (fun f c h => (by cases h)) d

theorem shape {css : List (List PV)} (h : TyAll Try.prog 8 Try.f3.params.toList css) : ∃ l : List Nat, argCVs Try.prog Try.f3.params.toList css = [.sl true t_u8 (l.map eU8)] ∧ (∀ x ∈ l, x < 256) ∧ l.length ≤ 9223372036854775807 := by
  rw [Try.params3] at h ⊢
  obtain ⟨c, cs, rfl, h1, h2⟩ := tyall_cons h
  cases tyall_nil h2
  obtain ⟨es, rfl, h3, h4⟩ := tyd_slice Try.underlying22 h1
  obtain ⟨l, hl1, hl2⟩ := all_mapP (f := eU8) (p := fun x => x < 256) (l := es) fun y hy => by
    obtain ⟨c, rfl, h5⟩ := h4 y hy
    obtain ⟨n, rfl, hn0, hn1⟩ := tyd_int Try.underlying5 h5
    refine ⟨n.toNat, ?_, ?_⟩
    · have : ((n.toNat : Nat) : Int) = n := Int.toNat_of_nonneg hn0
      simp only [eU8, this]; rfl
    · have : n ≤ 255 := hn1
      omega
  subst hl1
  refine ⟨l, rfl, hl2, ?_⟩
  rw [List.length_map, show Try.prog.bytesOf 5 = 1 from by kernel_rfl] at h3
  omega

set_option maxRecDepth 100000 in
theorem lifted (os : Os) (started : os.Started) (H : Type) (enc : TypeId × Value → H) :
    ReturnsInHanded {} Try.checked os 3 .any (Rows.fnDeniesSpec.pre6 enc Try.prog Try.f3 Rows.fnDeniesRow.domain false) (Rows.fnDeniesSpec.post enc Try.prog Try.f3 false true false false) := by
  refine returnsInHanded_of_change_sized (C := Try.checked) own started (by kernel_rfl) Try.func3
    (ChangeSpec.witness6 (enc := enc) (C := Try.checked) false ⟨#[], #[.slice none 0 0], []⟩ 8 (by kernel_rfl) (by kernel_rfl) (by kernel_rfl) (by kernel_rfl)) ?_
  intro W base args ds gs before hval hW hcnd hsz _
  refine law_contract (k := 8) (cal := ⟨[.ro 0], false, true, runFn (T 5) fuel f_laws_FnDenies⟩) laidOut Try.func3 (by kernel_rfl) rfl (by rfl) Try.underlying4 rfl ?_ (by rw [Try.params3]; decide +kernel) (by rw [Try.params3]; decide +kernel) ((good 6).sound n_laws_FnDenies _ T_laws_FnDenies) (fun vs => by cases vs <;> rfl) ?_ hval hW hsz
  · intro ds hl
    match ds, hl with
    | [d], _ => rfl
  · intro css h
    obtain ⟨l, h1, h2, h3⟩ := shape h
    rw [h1]
    exact law_Denies l h2 h3

theorem over : Rows.fnDeniesRow.holds Try.pinned (OpenSpec.ofChange Rows.fnDeniesSpec) :=
  OpenClaim.holds_of_wide 3 Try.f3 rfl rfl rfl rfl rfl rfl rfl ⟨rfl, rfl, rfl, rfl, rfl⟩ rfl rfl rfl rfl rfl (by kernel_rfl) Try.func3 (by kernel_rfl)
    (of_decide_eq_true (by kernel_rfl)) (by unfold Func.isWrapper; first | (rw [if_pos (by decide +kernel)]; kernel_rfl) | (rw [if_neg (by decide +kernel)]; exact ⟨rfl, rfl⟩))
    (fun os started H enc _ => lifted os started H enc)
end Go.Proofs.Ytkoljcjliihiiaa.Denies
namespace Go.Proofs.Ytkoljcjliihiiaa
theorem denies_holds : Rows.FnDeniesSaid := Denies.over
end Go.Proofs.Ytkoljcjliihiiaa

/- FnExactAlike: for all kinds and graphs the program's Alike returns what the reference's returns, and leaves its arguments alone. No condition. -/
import Derived.Test.YtkoljcjliihiiaaDoorRowGr
import Derived.Test.YtkoljcjliihiiaaDoorRows
import Derived.Test.YtkoljcjliihiiaaDoorCards
import Derived.Test.YtkoljcjliihiiaaDoorTie
import Derived.Lay
import Derived.LaidMore
import Derived.SevenTiedAt
namespace Go.Proofs.YtkoljcjliihiiaaDoor.Alike
open Go Go.Proofs.YtkoljcjliihiiaaDoor.VM Go.Proofs.YtkoljcjliihiiaaDoor.VM.Sy
theorem own : ownKnob Tryd.prog.godebug = none := by kernel_rfl
theorem laidOut : laidOutB Tryd.prog = true := by kernel_rfl
theorem good (d : Nat) : Go.Proofs.YtkoljcjliihiiaaDoor.VM.Good Tryd.prog writes (T d) := tower_good (by kernel_rfl) tab_ok (by rfl) ext_ok.look d
abbrev laidL : List (String × DataW Unit) := Rows.fnExactAlikeRow.laid

theorem shape {css : List (List PV)} (h : TyAll Tryd.prog 8 Tryd.f3.params.toList css) : ∃ (ts : List ByteArray) (g k : Gr), argCVs Tryd.prog Tryd.f3.params.toList css = [.sl true t_string (ts.map eStr), cGrL g, cGrL k] ∧ (ts.length < 9223372036854000000) ∧ (∀ s ∈ ts, s.size < 9223372036854000000) ∧ (g.roots.length < 9223372036854000000 ∧ g.nodes.length < 9223372036854000000 ∧ ∀ x ∈ g.nodes, x.vals.length < 9223372036854000000) ∧ (k.roots.length < 9223372036854000000 ∧ k.nodes.length < 9223372036854000000 ∧ ∀ x ∈ k.nodes, x.vals.length < 9223372036854000000) := by
  rw [Tryd.params3] at h ⊢
  obtain ⟨c0, h⟩ := tyall_cons h
  obtain ⟨cs0, rfl, h0, h⟩ := h
  obtain ⟨c1, h⟩ := tyall_cons h
  obtain ⟨cs1, rfl, h1, h⟩ := h
  obtain ⟨c2, h⟩ := tyall_cons h
  obtain ⟨cs2, rfl, h2, h⟩ := h
  cases tyall_nil h
  obtain ⟨ts, rfl, g0, g1⟩ := strings_shape h0
  obtain ⟨g, rfl, g2⟩ := graph_shape h1
  obtain ⟨k, rfl, g3⟩ := graph_shape h2
  exact ⟨ts, g, k, rfl, g0, g1, g2, g3⟩

set_option maxRecDepth 100000 in
theorem met (os : Os) (args : Array Value) : laidMetH Tryd.prog laidL ((World.laidAll Tryd.prog os laidL).forCall (fun _ _ => 0) ⟨#[], args, []⟩).memory :=
  laidMet_laidAll args (by kernel_rfl) (by kernel_rfl)

set_option maxRecDepth 100000 in
theorem lifted (os : Os) (started : os.Started) (H : Type) (enc : TypeId × Value → H) :
    ReturnsInHanded {} Tryd.checked os 3 .any (fun w args => (Rows.fnExactAlikeSpec.pre enc Tryd.prog Tryd.f3 [] false w args ∧ laidMetH Tryd.prog laidL w) ∧ sizedMet enc Tryd.prog Tryd.f3 (OpenSpec.ofChange Rows.fnExactAlikeSpec) false w args) (Rows.fnExactAlikeSpec.post enc Tryd.prog Tryd.f3 false true false false) := by
  refine returnsInHanded_of_change_and (C := Tryd.checked) (X := fun w _ => laidMetH Tryd.prog laidL w) (fun _ _ _ hh h => h.of_heap hh) own started (by kernel_rfl) Tryd.func3
    (ChangeSpec.witness_shaped (enc := enc) (C := Tryd.checked) (os := os) (X := fun w _ => laidMetH Tryd.prog laidL w) false (World.laidAll Tryd.prog os laidL) #[.slice none 0 0, .agg #[.slice none 0 0, .slice none 0 0], .agg #[.slice none 0 0, .slice none 0 0]] 8 (World.laidAll_os _ _ _) (World.shaped_of_ZipB (by kernel_rfl) (by kernel_rfl)) (by kernel_rfl) (by kernel_rfl) (by kernel_rfl) (met os _)) ?_
  intro W base args ds gs before hval hW _ hsz _ _
  refine law_contract (k := 8) (cal := ⟨[.ro 0, .ro 0, .ro 0], false, true, runFn (T 8) fuel f_laws_FnExactAlike⟩) laidOut Tryd.func3 (by kernel_rfl) rfl (by rfl) Tryd.underlying4 rfl ?_ (by rw [Tryd.params3]; decide +kernel) (by rw [Tryd.params3]; decide +kernel) ((good 9).sound n_laws_FnExactAlike _ T_laws_FnExactAlike) ?_ ?_ hval hW hsz
  · intro ds hl
    match ds, hl with
    | [d0, d1, d2], _ => rfl
  · intro vs
    rcases vs with _ | ⟨_, _ | ⟨_, _ | ⟨_, _⟩⟩⟩ <;> rfl
  · intro css h
    obtain ⟨ts, g, k, h0, h1, h2, ⟨h3, h4, h5⟩, h6, h7, h8⟩ := shape h
    rw [h0]
    exact law_Alike ts g k h1 h2 h3 h4 h5 h6 h7 h8

theorem over : Rows.FnExactAlikeSaid :=
  OpenClaim.holds_of_wide 3 Tryd.f3 rfl rfl rfl rfl rfl rfl rfl ⟨rfl, rfl, rfl, rfl, rfl⟩ rfl rfl rfl rfl rfl (by kernel_rfl) Tryd.func3 (by kernel_rfl)
    (of_decide_eq_true (by kernel_rfl)) (by unfold Func.isWrapper; first | (rw [if_pos (by decide +kernel)]; kernel_rfl) | (rw [if_neg (by decide +kernel)]; exact ⟨rfl, rfl⟩))
    (fun os started H enc _ => lifted os started H enc)
end Go.Proofs.YtkoljcjliihiiaaDoor.Alike
namespace Go.Proofs.YtkoljcjliihiiaaDoor
theorem alike_holds : Rows.FnExactAlikeCardSaid :=
  Claim7.holds_tied_plain_at .later [] [.data, .pinned] true (true, "56edf10bdfcbb95126428954eb21f1a0e8ccbfac65b997105c78b82e966cd770") false
    Alike.over (fun _ h => by cases h) (by kernel_rfl) (fun _ h => by cases h) fnExactAlike_row_tie rfl ⟨rfl, rfl⟩ (by kernel_rfl) rfl
    (fun f fn hf hfn => by
      obtain rfl : f = 3 := Option.some.inj ((show Tryd.prog.funcNamed "loop.example/g00648/laws.FnExactAlike" = some 3 by kernel_rfl).symm.trans hf) |>.symm
      obtain rfl : fn = Tryd.f3 := (Option.some.inj (Tryd.func3.symm.trans hfn)).symm
      exact ⟨by kernel_rfl, fun j t ht => by
        rw [Tryd.params3] at ht
        have hm : t ∈ [22, 26] := by
          have := Array.mem_of_getElem? ht
          simp only [List.mem_toArray, List.mem_cons, List.mem_nil_iff, or_false] at this ⊢
          rcases this with h | h | h
          · exact .inl h
          · exact .inr h
          · exact .inr h
        have hall : ([22, 26].all fun u => !Tryd.prog.wantsStandIn u) = true := by kernel_rfl
        exact (show Tryd.prog.wantsStandIn t = false by simpa using List.all_eq_true.1 hall t hm)⟩)
    (by kernel_rfl)
end Go.Proofs.YtkoljcjliihiiaaDoor

/- FnExactAlike: what it computes. -/
import Derived.Test.YtkoljcjliihiiaaDoorLawGr
namespace Go.Proofs.YtkoljcjliihiiaaDoor.VM
open Go Sy
variable {Φ : Nat → Option Callee} {N : Nat}
def alike (ts : List ByteArray) (g h : Gr) : Bool := graphOk ts g && (graphOk ts h && sameG (plainG ts g) (plainG ts h))
theorem plainN_len {ts : List ByteArray} {g : Gr} (h : Right ts g) {k : Nat} {F : List Nat} : (plainN ts F g k).vals.length ≤ 23 := by
  unfold plainN
  split
  · rename_i o ho
    obtain ⟨t, s, o1, o2, o3, o4, o5, _⟩ := h.obj o (List.mem_of_getElem? ho)
    unfold plainO
    rw [o1, Int.toNat_natCast, o2]
    simp only
    rw [nmK_length]; omega
  · simp
theorem plainG_small {ts : List ByteArray} {g : Gr} (h : Right ts g) : (plainG ts g).roots.length ≤ 40 ∧ (plainG ts g).nodes.length ≤ 400 ∧ ∀ o ∈ (plainG ts g).nodes, o.vals.length ≤ 23 := by
  have hle : (found ts g).length ≤ g.nodes.length := (inv_search ts g g.nodes.length).le
  have hn := h.n
  have hr := h.r
  unfold plainG
  refine ⟨by simpa using hr, by simp; omega, fun o ho => ?_⟩
  obtain ⟨k, _, rfl⟩ := List.mem_map.1 ho
  exact plainN_len h
theorem run_impl_Alike {d : Nat} {ts : List ByteArray} {g h : Gr} (hg : Small ts g) (hh : Small ts h) : runFn (T (d + 7)) fuel f_impl_Alike [.sl true t_string (ts.map eStr), cGr true g, cGr true h] = some ([.a (.bool (alike ts g h))], []) := by
  have h1 := run_impl_GraphOk (d := d) hg
  have h2 := run_impl_GraphOk (d := d) hh
  rw [fn_run rfl]
  unfold alike
  cases c1 : graphOk ts g
  · rw [c1] at h1
    simp (maxSteps := 3000000) (implicitDefEqProofs := false) (disch := first | assumption | (refine ofR ?_; show norm _ _ = _; kernel_rfl) | exact ofR (by with_unfolding_all rfl) | exact ofB (by with_unfolding_all rfl) | omega | (simp only [go_sem, maxLen_eq]; omega)) only [go_sem, Nat.reduceAdd, Nat.reduceBEq, f_impl_Alike, c_impl_Alike, h1]
  · rw [c1] at h1
    cases c2 : graphOk ts h
    · rw [c2] at h2
      simp (maxSteps := 3000000) (implicitDefEqProofs := false) (disch := first | assumption | (refine ofR ?_; show norm _ _ = _; kernel_rfl) | exact ofR (by with_unfolding_all rfl) | exact ofB (by with_unfolding_all rfl) | omega | (simp only [go_sem, maxLen_eq]; omega)) only [go_sem, Nat.reduceAdd, Nat.reduceBEq, f_impl_Alike, c_impl_Alike, h1, h2]
    · rw [c2] at h2
      have r1 := Right.of hg c1
      have r2 := Right.of hh c2
      have h3 := run_plain (d := d + 4) r1
      have h4 := run_plain (d := d + 4) r2
      obtain ⟨s1, s2, s3⟩ := plainG_small r1
      have h5 := run_sameGraph (d := d + 3) (plainG ts g) (plainG ts h) (by omega) (by omega) (fun o ho => by have := s3 o ho; omega)
      generalize plainG ts g = P1 at *
      generalize plainG ts h = P2 at *
      simp (maxSteps := 3000000) (implicitDefEqProofs := false) (disch := first | assumption | (refine ofR ?_; show norm _ _ = _; kernel_rfl) | exact ofR (by with_unfolding_all rfl) | exact ofB (by with_unfolding_all rfl) | omega | (simp only [go_sem, maxLen_eq]; omega)) only [go_sem, Nat.reduceAdd, Nat.reduceBEq, f_impl_Alike, c_impl_Alike, h1, h2, h3, h4, h5]
theorem run_spec_Alike {d : Nat} {ts : List ByteArray} {g h : Gr} (hg : Small ts g) (hh : Small ts h) : runFn (T (d + 4)) fuel f_spec_Alike [.sl true t_string (ts.map eStr), cGr true g, cGr true h] = some ([.a (.bool (alike ts g h))], []) := by
  have h1 := run_spec_GraphOk (d := d) hg
  have h2 := run_spec_GraphOk (d := d) hh
  rw [fn_run rfl]
  unfold alike
  cases c1 : graphOk ts g
  · rw [c1] at h1
    simp (maxSteps := 3000000) (implicitDefEqProofs := false) (disch := first | assumption | (refine ofR ?_; show norm _ _ = _; kernel_rfl) | exact ofR (by with_unfolding_all rfl) | exact ofB (by with_unfolding_all rfl) | omega | (simp only [go_sem, maxLen_eq]; omega)) only [go_sem, Nat.reduceAdd, Nat.reduceBEq, f_spec_Alike, c_spec_Alike, h1]
  · rw [c1] at h1
    cases c2 : graphOk ts h
    · rw [c2] at h2
      simp (maxSteps := 3000000) (implicitDefEqProofs := false) (disch := first | assumption | (refine ofR ?_; show norm _ _ = _; kernel_rfl) | exact ofR (by with_unfolding_all rfl) | exact ofB (by with_unfolding_all rfl) | omega | (simp only [go_sem, maxLen_eq]; omega)) only [go_sem, Nat.reduceAdd, Nat.reduceBEq, f_spec_Alike, c_spec_Alike, h1, h2]
    · rw [c2] at h2
      have r1 := Right.of hg c1
      have r2 := Right.of hh c2
      have h3 := run_l7Plain (d := d + 1) r1
      have h4 := run_l7Plain (d := d + 1) r2
      obtain ⟨s1, s2, s3⟩ := plainG_small r1
      have h5 := run_l7Same (d := d + 2) (plainG ts g) (plainG ts h) (by omega) (by omega) (fun o ho => by have := s3 o ho; omega)
      generalize plainG ts g = P1 at *
      generalize plainG ts h = P2 at *
      simp (maxSteps := 3000000) (implicitDefEqProofs := false) (disch := first | assumption | (refine ofR ?_; show norm _ _ = _; kernel_rfl) | exact ofR (by with_unfolding_all rfl) | exact ofB (by with_unfolding_all rfl) | omega | (simp only [go_sem, maxLen_eq]; omega)) only [go_sem, Nat.reduceAdd, Nat.reduceBEq, f_spec_Alike, c_spec_Alike, h1, h2, h3, h4, h5]

theorem law_Alike {d : Nat} (ts : List ByteArray) (g h : Gr) (ht : ts.length < 9223372036854000000) (hts : ∀ s ∈ ts, s.size < 9223372036854000000) (gr : g.roots.length < 9223372036854000000) (gn : g.nodes.length < 9223372036854000000) (gv : ∀ o ∈ g.nodes, o.vals.length < 9223372036854000000) (hr : h.roots.length < 9223372036854000000) (hn : h.nodes.length < 9223372036854000000) (hv : ∀ o ∈ h.nodes, o.vals.length < 9223372036854000000) :
    runFn (T (d + 8)) fuel f_laws_FnExactAlike [.sl true t_string (ts.map eStr), cGrL g, cGrL h] = some ([.a (.bool true)], []) := by
  have s1 := run_szStringS (Φ := T (d + 7)) ts 1048576 (by omega) (by omega) ht hts
  rw [fn_run rfl]
  by_cases c1 : (1048576 : Int) - ts.length - tsum ts < 0
  · rw [if_pos c1] at s1
    simp (maxSteps := 3000000) (implicitDefEqProofs := false) (disch := first | assumption | (refine ofR ?_; show norm _ _ = _; kernel_rfl) | exact ofR (by with_unfolding_all rfl) | exact ofB (by with_unfolding_all rfl) | omega | (simp only [go_sem, maxLen_eq]; omega)) only [go_sem, Nat.reduceAdd, Nat.reduceBEq, f_laws_FnExactAlike, c_laws_FnExactAlike, s1]
  · rw [if_neg c1] at s1
    have s2 := run_szGraph (d := d + 4) g (1048576 - ts.length - tsum ts) (by omega) (by omega) gr gn gv
    by_cases c2 : (1048576 : Int) - ts.length - tsum ts - gsum g < 0
    · rw [if_pos c2] at s2
      simp (maxSteps := 3000000) (implicitDefEqProofs := false) (disch := first | assumption | (refine ofR ?_; show norm _ _ = _; kernel_rfl) | exact ofR (by with_unfolding_all rfl) | exact ofB (by with_unfolding_all rfl) | omega | (simp only [go_sem, maxLen_eq]; omega)) only [go_sem, Nat.reduceAdd, Nat.reduceBEq, f_laws_FnExactAlike, c_laws_FnExactAlike, s1, s2]
    · rw [if_neg c2] at s2
      have s3 := run_szGraph (d := d + 4) h (1048576 - ts.length - tsum ts - gsum g) (by omega) (by omega) hr hn hv
      by_cases c3 : (1048576 : Int) - ts.length - tsum ts - gsum g - gsum h < 0
      · rw [if_pos c3] at s3
        simp (maxSteps := 3000000) (implicitDefEqProofs := false) (disch := first | assumption | (refine ofR ?_; show norm _ _ = _; kernel_rfl) | exact ofR (by with_unfolding_all rfl) | exact ofB (by with_unfolding_all rfl) | omega | (simp only [go_sem, maxLen_eq]; omega)) only [go_sem, Nat.reduceAdd, Nat.reduceBEq, f_laws_FnExactAlike, c_laws_FnExactAlike, s1, s2, s3]
      · rw [if_neg c3] at s3
        have eg : gsum g = g.roots.length + g.nodes.length + vsum g.nodes := rfl
        have eh : gsum h = h.roots.length + h.nodes.length + vsum h.nodes := rfl
        have hg : Small ts g := ⟨by omega, fun s hs => by have := size_le hs; omega, by omega, by omega, fun o ho => by have := vals_le ho; omega⟩
        have hh : Small ts h := ⟨by omega, fun s hs => by have := size_le hs; omega, by omega, by omega, fun o ho => by have := vals_le ho; omega⟩
        have t1 := run_toStringS (Φ := T (d + 7)) ts hg.tl
        have t2 := run_toGraph (d := d + 4) g hg.roots hg.nodes hg.vals
        have t3 := run_toGraph (d := d + 4) h hh.roots hh.nodes hh.vals
        have a1 := run_spec_Alike (d := d + 3) hg hh
        have a2 := run_impl_Alike (d := d) hg hh
        have e1 := run_eqStringS (Φ := T (d + 7)) ts hg.tl
        have e2 := run_eqGraph (d := d + 4) g hg.roots hg.nodes hg.vals
        have e3 := run_eqGraph (d := d + 4) h hh.roots hh.nodes hh.vals
        generalize alike ts g h = b at *
        generalize (1048576 : Int) - ts.length - tsum ts - gsum g - gsum h = z3 at *
        generalize (1048576 : Int) - ts.length - tsum ts - gsum g = z2 at *
        generalize (1048576 : Int) - ts.length - tsum ts = z1 at *
        have hb : (b != b) = false := by cases b <;> rfl
        simp (maxSteps := 3000000) (implicitDefEqProofs := false) (disch := first | assumption | (refine ofR ?_; show norm _ _ = _; kernel_rfl) | exact ofR (by with_unfolding_all rfl) | exact ofB (by with_unfolding_all rfl) | omega | (simp only [go_sem, maxLen_eq]; omega)) only [go_sem, Nat.reduceAdd, Nat.reduceBEq, f_laws_FnExactAlike, c_laws_FnExactAlike, s1, s2, s3, t1, t2, t3, a1, a2, e1, e2, e3, hb]
end Go.Proofs.YtkoljcjliihiiaaDoor.VM

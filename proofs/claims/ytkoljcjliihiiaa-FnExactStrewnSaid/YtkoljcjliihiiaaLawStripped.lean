/- FnExactStripped: the law that compares what the program and the reference strip. -/
import Derived.Test.YtkoljcjliihiiaaLawMark
namespace Go.Proofs.Ytkoljcjliihiiaa.VM
open Go Sy
theorem ksum_filter (p : Act' → Bool) (l : List Act') : ksum (l.filter p) ≤ ksum l := by
  induction l with
  | nil => simp [ksum]
  | cons x l ih =>
    rw [List.filter_cons]
    split
    · simp only [ksum]; omega
    · simp only [ksum]; omega
theorem strip_len (l : List Act') : (strip l).length ≤ 60 := by
  unfold strip
  split
  · have := List.length_filter_le loud l
    omega
  · simp
theorem strip_ksum (l : List Act') : ksum (strip l) ≤ ksum l := by
  unfold strip
  split
  · exact ksum_filter _ _
  · simp [ksum]

theorem law_Stripped {d : Nat} (l : List Act') (hl : l.length < 9223372036854000000) (hk : ∀ x ∈ l, x.keep.length < 9223372036854000000) : runFn (T (d + 3)) fuel f_laws_FnExactStripped [.sl true t_laws_Act (l.map eAct)] = some ([.a (.bool true)], []) := by
  have hsz := run_szActS (d := d) l 1048576 (by omega) (by omega) hl hk
  rw [fn_run rfl]
  by_cases h : (1048576 : Int) - l.length - ksum l < 0
  · rw [if_pos h] at hsz
    simp (maxSteps := 3000000) (implicitDefEqProofs := false) (disch := first | assumption | exact ofR (by with_unfolding_all rfl) | exact ofB (by with_unfolding_all rfl) | omega | (simp only [go_sem, maxLen_eq]; omega)) only [go_sem, Nat.reduceAdd, Nat.reduceBEq, f_laws_FnExactStripped, c_laws_FnExactStripped, hsz]
  · rw [if_neg h] at hsz
    have hl' : l.length ≤ 1048576 := by omega
    have hk' : ∀ x ∈ l, x.keep.length ≤ 1048576 := fun x hx => by have := keep_le hx; omega
    have h1 := run_toActS (d := d) l hl' hk'
    have h2 := run_spec_Stripped (d := d) l hl' hk'
    have h3 := run_impl_Stripped (d := d) l hl' hk'
    have hd := strip_len l
    have hs := strip_ksum l
    have hk2 : ∀ x ∈ strip l, x.keep.length ≤ 1048576 := fun x hx => by have := keep_le hx; omega
    have h4 := run_eqActS (d := d) (strip l) (by omega) hk2
    have h5 := run_eqActS (d := d) l hl' hk'
    have w1 := wsum_keeps l
    have w2 := wsum_keeps (strip l)
    have h6 := run_markActS (d := d + 1) l 1 (by omega) (by omega) hl' hk'
    have h7 := run_markActS (d := d + 1) (strip l) 1 (by omega) (by omega) (by omega) hk2
    have h8 := run_heldActS (d := d + 1) (keeps (strip l)) 1 (by omega) (by omega) (by rw [keeps_length]; omega) (fun n hn => by
      obtain ⟨x, hx, rfl⟩ := List.mem_map.1 hn
      exact hk2 x hx)
    generalize strip l = D at *
    simp (maxSteps := 3000000) (implicitDefEqProofs := false) (disch := first | assumption | exact ofR (by with_unfolding_all rfl) | exact ofB (by with_unfolding_all rfl) | omega | (simp only [go_sem, maxLen_eq]; omega)) only [go_sem, Nat.reduceAdd, Nat.reduceBEq, f_laws_FnExactStripped, c_laws_FnExactStripped, hsz, h1, h2, h3, h4, h5, h6, h7, h8]
end Go.Proofs.Ytkoljcjliihiiaa.VM

/- Gathered: what the program and the reference gather of answers; and the law that compares them. -/
import Derived.Test.YtkoljcjliihiiaaLawStripped
namespace Go.Proofs.Ytkoljcjliihiiaa.VM
open Go Sy
variable {Φ : Nat → Option Callee} {N : Nat}
def gather (l : List Act') (a : List Ans) : List Ans := if l.length ≤ 60 ∧ a.length = l.length then ((l.zip a).filter fun p => loud p.1).map (·.2) else []
/-- What is gathered of the first i. -/
def gatO (l : List Act') (a : List Ans) (i : Nat) : List PV := (((l.zip a).take i).filter fun p => loud p.1).map fun p => eAns p.2
theorem gatO_length (l : List Act') (a : List Ans) (i : Nat) : (gatO l a i).length ≤ i := by
  have := List.length_filter_le (fun p : Act' × Ans => loud p.1) ((l.zip a).take i)
  rw [gatO, List.length_map]
  rw [List.length_take] at this
  omega
theorem gatO_loud {l : List Act'} {a : List Ans} {i : Nat} {x : Act'} {y : Ans} (h : l[i]? = some x) (h2 : a[i]? = some y) (hx : loud x = true) : gatO l a (i + 1) = gatO l a i ++ [eAns y] := by
  have hz : (l.zip a)[i]? = some (x, y) := by simp [List.getElem?_zip_eq_some, h, h2]
  unfold gatO
  rw [List.take_add_one, hz, List.filter_append, List.map_append]
  simp [hx]
theorem gatO_quiet {l : List Act'} {a : List Ans} {i : Nat} {x : Act'} {y : Ans} (h : l[i]? = some x) (h2 : a[i]? = some y) (hx : loud x = false) : gatO l a (i + 1) = gatO l a i := by
  have hz : (l.zip a)[i]? = some (x, y) := by simp [List.getElem?_zip_eq_some, h, h2]
  unfold gatO
  rw [List.take_add_one, hz, List.filter_append, List.map_append]
  simp [hx]
theorem gatO_all {l : List Act'} {a : List Ans} (h : a.length = l.length) : gatO l a l.length = (((l.zip a).filter fun p => loud p.1).map (·.2)).map eAns := by
  rw [gatO, List.take_of_length_le (by simp; omega), List.map_map]; rfl

theorem impl_Gathered_loop {d : Nat} (l : List Act') (a : List Ans) (hl : l.length ≤ 60) (ha : a.length = l.length) :
    loopE (T (d + 1)) fuel [1,5,19,20,21] c_impl_Gathered_L0 ⟨[(1, .sz t_impl_Answer (a.map eAns)), (5, .rf 0), (19, .sz t_impl_Act (l.map eAct)), (20, .a (.int .i64 l.length)), (21, .a (.int .i64 0))], [(0, some (.sl false 0 t_impl_Answer []))], 1⟩ =
    some (.ext 0, ⟨[(1, .sz t_impl_Answer (a.map eAns)), (5, .rf 0), (19, .sz t_impl_Act (l.map eAct)), (20, .a (.int .i64 l.length)), (21, .a (.int .i64 l.length)), (22, .a (.bool false))], [(0, some (.sl false 0 t_impl_Answer (gatO l a l.length)))], 101⟩) := by
  refine loopE_all (fun i => ⟨[(1, .sz t_impl_Answer (a.map eAns)), (5, .rf 0), (19, .sz t_impl_Act (l.map eAct)), (20, .a (.int .i64 l.length)), (21, .a (.int .i64 (i : Nat)))], [(0, some (.sl false 0 t_impl_Answer (gatO l a i)))], 1⟩) _ (m := l.length) (lt_fuel (by omega)) (fun i hi => ?_) ?_
  · obtain ⟨x, hx⟩ : ∃ a, l[i]? = some a := ⟨_, List.getElem?_eq_getElem hi⟩
    obtain ⟨y, hy⟩ : ∃ y, a[i]? = some y := ⟨_, List.getElem?_eq_getElem (by omega)⟩
    have he := run_isExtra (Φ := T d) (N := fuel) x.kind
    have hO := gatO_length l a i
    have hw := wrap_succ i (by omega)
    unfold round c_impl_Gathered_L0
    cases hq : loud x
    · rw [gatO_quiet hx hy hq]
      rw [show decide (15 ≤ x.kind ∧ x.kind ≤ 17) = true from by rw [loud, Bool.not_eq_false'] at hq; exact hq] at he
      simp (maxSteps := 3000000) (implicitDefEqProofs := false) (disch := first | assumption | exact ofR (by with_unfolding_all rfl) | exact ofB (by with_unfolding_all rfl) | omega | (simp only [go_sem, maxLen_eq]; omega)) only [go_sem, Nat.reduceAdd, Nat.reduceBEq, hx, hy, he, hw]
      rfl
    · rw [gatO_loud hx hy hq, eAns_eq]
      rw [show decide (15 ≤ x.kind ∧ x.kind ≤ 17) = false from by rw [loud, Bool.not_eq_true'] at hq; exact hq] at he
      generalize gatO l a i = O at *
      simp (maxSteps := 3000000) (implicitDefEqProofs := false) (disch := first | assumption | exact ofR (by with_unfolding_all rfl) | exact ofB (by with_unfolding_all rfl) | omega | (simp only [go_sem, maxLen_eq]; omega)) only [go_sem, Nat.reduceAdd, Nat.reduceBEq, hx, hy, he, hw]
      rfl
  · unfold round c_impl_Gathered_L0
    simp (maxSteps := 3000000) (implicitDefEqProofs := false) (disch := first | assumption | exact ofR (by with_unfolding_all rfl) | exact ofB (by with_unfolding_all rfl) | omega | (simp only [go_sem, maxLen_eq]; omega)) only [go_sem, Nat.reduceAdd, Nat.reduceBEq]

theorem spec_Gathered_loop {d : Nat} (l : List Act') (a : List Ans) (hl : l.length ≤ 60) (ha : a.length = l.length) :
    loopE (T (d + 2)) fuel [0,1,5,6] c_spec_Gathered_L0 ⟨[(0, .sz t_impl_Act (l.map eAct)), (1, .sz t_impl_Answer (a.map eAns)), (5, .rf 0), (6, .a (.int .i64 0))], [(0, some (.sl false 0 t_impl_Answer []))], 1⟩ =
    some (.ext 0, ⟨[(0, .sz t_impl_Act (l.map eAct)), (1, .sz t_impl_Answer (a.map eAns)), (5, .rf 0), (6, .a (.int .i64 l.length)), (23, .a (.bool false))], [(0, some (.sl false 0 t_impl_Answer (gatO l a l.length)))], 1601⟩) := by
  refine loopE_all (fun i => ⟨[(0, .sz t_impl_Act (l.map eAct)), (1, .sz t_impl_Answer (a.map eAns)), (5, .rf 0), (6, .a (.int .i64 (i : Nat)))], [(0, some (.sl false 0 t_impl_Answer (gatO l a i)))], 1⟩) _ (m := l.length) (lt_fuel (by omega)) (fun i hi => ?_) ?_
  · obtain ⟨x, hx⟩ : ∃ a, l[i]? = some a := ⟨_, List.getElem?_eq_getElem hi⟩
    obtain ⟨y, hy⟩ : ∃ y, a[i]? = some y := ⟨_, List.getElem?_eq_getElem (by omega)⟩
    have he := run_l15Quiet (d := d) x.kind
    have hO := gatO_length l a i
    have hw := wrap_succ i (by omega)
    unfold round c_spec_Gathered_L0
    cases hq : loud x
    · rw [gatO_quiet hx hy hq]
      rw [show decide (15 ≤ x.kind ∧ x.kind ≤ 17) = true from by rw [loud, Bool.not_eq_false'] at hq; exact hq] at he
      simp (maxSteps := 3000000) (implicitDefEqProofs := false) (disch := first | assumption | exact ofR (by with_unfolding_all rfl) | exact ofB (by with_unfolding_all rfl) | omega | (simp only [go_sem, maxLen_eq]; omega)) only [go_sem, Nat.reduceAdd, Nat.reduceBEq, hx, hy, he, hw]
      rfl
    · rw [gatO_loud hx hy hq, eAns_eq]
      rw [show decide (15 ≤ x.kind ∧ x.kind ≤ 17) = false from by rw [loud, Bool.not_eq_true'] at hq; exact hq] at he
      generalize gatO l a i = O at *
      simp (maxSteps := 3000000) (implicitDefEqProofs := false) (disch := first | assumption | exact ofR (by with_unfolding_all rfl) | exact ofB (by with_unfolding_all rfl) | omega | (simp only [go_sem, maxLen_eq]; omega)) only [go_sem, Nat.reduceAdd, Nat.reduceBEq, hx, hy, he, hw]
      rfl
  · unfold round c_spec_Gathered_L0
    simp (maxSteps := 3000000) (implicitDefEqProofs := false) (disch := first | assumption | exact ofR (by with_unfolding_all rfl) | exact ofB (by with_unfolding_all rfl) | omega | (simp only [go_sem, maxLen_eq]; omega)) only [go_sem, Nat.reduceAdd, Nat.reduceBEq]

theorem run_impl_Gathered {d : Nat} (l : List Act') (a : List Ans) (h1 : l.length ≤ 1048576) (h2 : a.length ≤ 1048576) : runFn (T (d + 1)) fuel f_impl_Gathered [.sl true t_impl_Act (l.map eAct), .sl true t_impl_Answer (a.map eAns)] = some ([.sl false t_impl_Answer ((gather l a).map eAns)], []) := by
  rw [fn_run rfl]
  unfold gather
  by_cases hl : l.length ≤ 60
  · by_cases ha : a.length = l.length
    · have key := impl_Gathered_loop (d := d) l a hl ha
      rw [if_pos ⟨hl, ha⟩]
      rw [gatO_all ha] at key
      simp (maxSteps := 3000000) (implicitDefEqProofs := false) (disch := first | assumption | exact ofR (by with_unfolding_all rfl) | exact ofB (by with_unfolding_all rfl) | omega | (simp only [go_sem, maxLen_eq]; omega)) only [go_sem, Nat.reduceAdd, Nat.reduceBEq, f_impl_Gathered, c_impl_Gathered, loop_at key]
    · rw [if_neg (fun h => ha h.2)]
      simp (maxSteps := 3000000) (implicitDefEqProofs := false) (disch := first | assumption | exact ofR (by with_unfolding_all rfl) | exact ofB (by with_unfolding_all rfl) | omega | (simp only [go_sem, maxLen_eq]; omega)) only [go_sem, Nat.reduceAdd, Nat.reduceBEq, f_impl_Gathered, c_impl_Gathered]
  · rw [if_neg (fun h => hl h.1)]
    simp (maxSteps := 3000000) (implicitDefEqProofs := false) (disch := first | assumption | exact ofR (by with_unfolding_all rfl) | exact ofB (by with_unfolding_all rfl) | omega | (simp only [go_sem, maxLen_eq]; omega)) only [go_sem, Nat.reduceAdd, Nat.reduceBEq, f_impl_Gathered, c_impl_Gathered]

theorem run_spec_Gathered {d : Nat} (l : List Act') (a : List Ans) (h1 : l.length ≤ 1048576) (h2 : a.length ≤ 1048576) : runFn (T (d + 2)) fuel f_spec_Gathered [.sl true t_impl_Act (l.map eAct), .sl true t_impl_Answer (a.map eAns)] = some ([.sl false t_impl_Answer ((gather l a).map eAns)], []) := by
  rw [fn_run rfl]
  unfold gather
  have out (h : ¬ (0 < l.length ∧ l.length ≤ 60 ∧ a.length = l.length)) : loopE (T (d + 2)) fuel [0,1,5,6] c_spec_Gathered_L0 ⟨[(0, .sz t_impl_Act (l.map eAct)), (1, .sz t_impl_Answer (a.map eAns)), (5, .rf 0), (6, .a (.int .i64 0))], [(0, some (.sl false 0 t_impl_Answer []))], 1⟩ =
      some (.ext 0, ⟨[(0, .sz t_impl_Act (l.map eAct)), (1, .sz t_impl_Answer (a.map eAns)), (5, .rf 0), (6, .a (.int .i64 0)), (23, .a (.bool false))], [(0, some (.sl false 0 t_impl_Answer []))], 1601⟩) := by
    refine loopE_while (fun _ => ⟨[(0, .sz t_impl_Act (l.map eAct)), (1, .sz t_impl_Answer (a.map eAns)), (5, .rf 0), (6, .a (.int .i64 0))], [(0, some (.sl false 0 t_impl_Answer []))], 1⟩) _ (fun _ => True) (m := 1) (lt_fuel (by omega)) trivial (by simp) (fun i _ _ => .inr ?_)
    unfold round c_spec_Gathered_L0
    by_cases c1 : 0 < l.length
    · by_cases c2 : l.length ≤ 60
      · have c3 : ¬ a.length = l.length := fun h' => h ⟨c1, c2, h'⟩
        simp (maxSteps := 3000000) (implicitDefEqProofs := false) (disch := first | assumption | exact ofR (by with_unfolding_all rfl) | exact ofB (by with_unfolding_all rfl) | omega | (simp only [go_sem, maxLen_eq]; omega)) only [go_sem, Nat.reduceAdd, Nat.reduceBEq]
      · simp (maxSteps := 3000000) (implicitDefEqProofs := false) (disch := first | assumption | exact ofR (by with_unfolding_all rfl) | exact ofB (by with_unfolding_all rfl) | omega | (simp only [go_sem, maxLen_eq]; omega)) only [go_sem, Nat.reduceAdd, Nat.reduceBEq]
    · simp (maxSteps := 3000000) (implicitDefEqProofs := false) (disch := first | assumption | exact ofR (by with_unfolding_all rfl) | exact ofB (by with_unfolding_all rfl) | omega | (simp only [go_sem, maxLen_eq]; omega)) only [go_sem, Nat.reduceAdd, Nat.reduceBEq]
  by_cases hl : l.length ≤ 60
  · by_cases ha : a.length = l.length
    · have key := spec_Gathered_loop (d := d) l a hl ha
      rw [if_pos ⟨hl, ha⟩]
      rw [gatO_all ha] at key
      simp (maxSteps := 3000000) (implicitDefEqProofs := false) (disch := first | assumption | exact ofR (by with_unfolding_all rfl) | exact ofB (by with_unfolding_all rfl) | omega | (simp only [go_sem, maxLen_eq]; omega)) only [go_sem, Nat.reduceAdd, Nat.reduceBEq, f_spec_Gathered, c_spec_Gathered, loop_at key]
    · have key := out fun h => ha h.2.2
      rw [if_neg (fun h => ha h.2)]
      simp (maxSteps := 3000000) (implicitDefEqProofs := false) (disch := first | assumption | exact ofR (by with_unfolding_all rfl) | exact ofB (by with_unfolding_all rfl) | omega | (simp only [go_sem, maxLen_eq]; omega)) only [go_sem, Nat.reduceAdd, Nat.reduceBEq, f_spec_Gathered, c_spec_Gathered, loop_at key]
  · have key := out fun h => hl h.2.1
    rw [if_neg (fun h => hl h.1)]
    simp (maxSteps := 3000000) (implicitDefEqProofs := false) (disch := first | assumption | exact ofR (by with_unfolding_all rfl) | exact ofB (by with_unfolding_all rfl) | omega | (simp only [go_sem, maxLen_eq]; omega)) only [go_sem, Nat.reduceAdd, Nat.reduceBEq, f_spec_Gathered, c_spec_Gathered, loop_at key]

theorem heldAnswerS_loop (n : Nat) (k : Int) (h0 : 0 ≤ k) (hk : k + 2 * n ≤ 9223372036854775000) (hN : n < N) :
    loopE Φ N [0,1,5] c_laws_heldAnswerS_L0 ⟨[(0, .sz t_impl_Answer ((List.range n).map (mA k))), (1, .a (.int .i64 k)), (5, .a (.int .i64 0))], [], 0⟩ =
    some (.ext 0, ⟨[(0, .sz t_impl_Answer ((List.range n).map (mA k))), (1, .a (.int .i64 (k + 2 * n))), (5, .a (.int .i64 n)), (9, .a (.bool false))], [], 400⟩) := by
  have := loopE_all (Φ := Φ) (N := N) (live := [0,1,5]) (b := c_laws_heldAnswerS_L0) (id := 0) (m := n) (fun i => ⟨[(0, .sz t_impl_Answer ((List.range n).map (mA k))), (1, .a (.int .i64 (k + 2 * (i : Nat)))), (5, .a (.int .i64 (i : Nat)))], [], 0⟩)
    ⟨[(0, .sz t_impl_Answer ((List.range n).map (mA k))), (1, .a (.int .i64 (k + 2 * n))), (5, .a (.int .i64 n)), (9, .a (.bool false))], [], 400⟩ hN (fun i hi => ?_) ?_
  · simpa using this
  · have ha : ((List.range n).map (mA k))[i]? = some (mA k i) := by simp [hi]
    have hl : ((List.range n).map (mA k)).length = n := by simp
    rw [mA] at ha
    generalize (List.range n).map (mA k) = Z at *
    have hw := wrap_succ i (by omega)
    have hk1 : IntKind.i64.wrap (k + 2 * (i : Int) + 1) = k + 2 * (i : Int) + 1 := by rw [wrap_i64] <;> omega
    have hk2 : IntKind.i64.wrap (k + 2 * (i : Int) + 1 + 1) = k + 2 * ((i + 1 : Nat) : Int) := by rw [wrap_i64] <;> omega
    unfold round c_laws_heldAnswerS_L0
    simp (maxSteps := 3000000) (implicitDefEqProofs := false) (disch := first | assumption | exact ofR (by with_unfolding_all rfl) | exact ofB (by with_unfolding_all rfl) | omega | (simp only [go_sem, maxLen_eq]; omega)) only [go_sem, Nat.reduceAdd, Nat.reduceBEq, ha, hl, hw, hk1, hk2]
    rfl
  · have hl : ((List.range n).map (mA k)).length = n := by simp
    generalize (List.range n).map (mA k) = Z at *
    unfold round c_laws_heldAnswerS_L0
    simp (maxSteps := 3000000) (implicitDefEqProofs := false) (disch := first | assumption | exact ofR (by with_unfolding_all rfl) | exact ofB (by with_unfolding_all rfl) | omega | (simp only [go_sem, maxLen_eq]; omega)) only [go_sem, Nat.reduceAdd, Nat.reduceBEq, hl]

theorem run_heldAnswerS (n : Nat) (k : Int) (h0 : 0 ≤ k) (hk : k + 2 * n ≤ 9223372036854775000) (hN : n < N) :
    runFn Φ N f_laws_heldAnswerS [.sl true t_impl_Answer ((List.range n).map (mA k)), .a (.int .i64 k)] = some ([.a (.int .i64 (k + 2 * n))], []) := by
  have key := heldAnswerS_loop (Φ := Φ) n k h0 hk hN
  generalize (List.range n).map (mA k) = Z at *
  rw [fn_run rfl]
  simp (maxSteps := 3000000) (implicitDefEqProofs := false) (disch := first | assumption | exact ofR (by with_unfolding_all rfl) | exact ofB (by with_unfolding_all rfl) | omega | (simp only [go_sem, maxLen_eq]; omega)) only [go_sem, Nat.reduceAdd, Nat.reduceBEq, f_laws_heldAnswerS, c_laws_heldAnswerS, loop_at key]

theorem gather_len (l : List Act') (a : List Ans) : (gather l a).length ≤ 60 := by
  unfold gather
  split
  · rename_i h
    have := List.length_filter_le (fun p : Act' × Ans => loud p.1) (l.zip a)
    simp only [List.length_map]
    simp only [List.length_zip] at this
    omega
  · simp

theorem law_Gathered {d : Nat} (l : List Act') (a : List Ans) (hl : l.length < 9223372036854000000) (hk : ∀ x ∈ l, x.keep.length < 9223372036854000000) (hla : a.length < 9223372036854000000) :
    runFn (T (d + 3)) fuel f_laws_FnExactGathered [.sl true t_laws_Act (l.map eAct), .sl true t_laws_Answer (a.map eAns)] = some ([.a (.bool true)], []) := by
  have hsz := run_szActS (d := d) l 1048576 (by omega) (by omega) hl hk
  rw [fn_run rfl]
  by_cases h : (1048576 : Int) - l.length - ksum l < 0
  · rw [if_pos h] at hsz
    simp (maxSteps := 3000000) (implicitDefEqProofs := false) (disch := first | assumption | exact ofR (by with_unfolding_all rfl) | exact ofB (by with_unfolding_all rfl) | omega | (simp only [go_sem, maxLen_eq]; omega)) only [go_sem, Nat.reduceAdd, Nat.reduceBEq, f_laws_FnExactGathered, c_laws_FnExactGathered, hsz]
  · rw [if_neg h] at hsz
    have hsa := run_szAnswerS (Φ := T (d + 2)) (N := fuel) a (1048576 - l.length - ksum l) (by omega) (by omega) hla
    by_cases ha : (1048576 : Int) - l.length - ksum l - a.length < 0
    · rw [if_pos ha] at hsa
      simp (maxSteps := 3000000) (implicitDefEqProofs := false) (disch := first | assumption | exact ofR (by with_unfolding_all rfl) | exact ofB (by with_unfolding_all rfl) | omega | (simp only [go_sem, maxLen_eq]; omega)) only [go_sem, Nat.reduceAdd, Nat.reduceBEq, f_laws_FnExactGathered, c_laws_FnExactGathered, hsz, hsa]
    · rw [if_neg ha] at hsa
      have hl' : l.length ≤ 1048576 := by omega
      have ha' : a.length ≤ 1048576 := by omega
      have hk' : ∀ x ∈ l, x.keep.length ≤ 1048576 := fun x hx => by have := keep_le hx; omega
      have h1 := run_toActS (d := d) l hl' hk'
      have h1a := run_toAnswerS (d := d + 1) a ha'
      have h2 := run_spec_Gathered (d := d) l a hl' ha'
      have h3 := run_impl_Gathered (d := d + 1) l a hl' ha'
      have hd := gather_len l a
      have h4 := run_eqAnswerS (d := d + 1) (gather l a) (by omega)
      have h5 := run_eqActS (d := d) l hl' hk'
      have h5a := run_eqAnswerS (d := d + 1) a ha'
      have w1 := wsum_keeps l
      have h6 := run_markActS (d := d + 1) l 1 (by omega) (by omega) hl' hk'
      have h6a := run_markAnswerS (Φ := T (d + 2)) (N := fuel) a (1 + wsum wAct (keeps l)) (by omega) (by omega) (lt_fuel (by omega))
      have h7 := run_markAnswerS (Φ := T (d + 2)) (N := fuel) (gather l a) 1 (by omega) (by omega) (lt_fuel (by omega))
      have h8 := run_heldAnswerS (Φ := T (d + 2)) (N := fuel) (gather l a).length 1 (by omega) (by omega) (lt_fuel (by omega))
      generalize gather l a = D at *
      generalize (List.range D.length).map (mA 1) = Z at *
      simp (maxSteps := 3000000) (implicitDefEqProofs := false) (disch := first | assumption | exact ofR (by with_unfolding_all rfl) | exact ofB (by with_unfolding_all rfl) | omega | (simp only [go_sem, maxLen_eq]; omega)) only [go_sem, Nat.reduceAdd, Nat.reduceBEq, f_laws_FnExactGathered, c_laws_FnExactGathered, hsz, hsa, h1, h1a, h2, h3, h4, h5, h5a, h6, h6a, h7, h8]
end Go.Proofs.Ytkoljcjliihiiaa.VM

/- Stripped: what the program and the reference make of acts. -/
import Derived.Test.YtkoljcjliihiiaaLawActs
namespace Go.Proofs.Ytkoljcjliihiiaa.VM
open Go Sy
variable {Φ : Nat → Option Callee} {N : Nat}

theorem run_l15Copy (x : Act') (hl : x.keep.length ≤ 1048576) : runFn Φ N f_spec_l15Copy [cAct true x] = some ([cAct false x], []) := by
  rw [fn_run rfl]
  simp (maxSteps := 3000000) (implicitDefEqProofs := false) (disch := first | assumption | exact ofR (by with_unfolding_all rfl) | exact ofB (by with_unfolding_all rfl) | omega | (simp only [go_sem, maxLen_eq]; omega)) only [go_sem, Nat.reduceAdd, Nat.reduceBEq, f_spec_l15Copy, c_spec_l15Copy, cpy_ints]

theorem run_ownAct {d : Nat} (x : Act') (hl : x.keep.length ≤ 1048576) : runFn (T (d + 1)) fuel f_impl_ownAct [cAct true x] = some ([cAct false x], []) := by
  rw [fn_run rfl]
  simp (maxSteps := 3000000) (implicitDefEqProofs := false) (disch := first | assumption | exact ofR (by with_unfolding_all rfl) | exact ofB (by with_unfolding_all rfl) | omega | (simp only [go_sem, maxLen_eq]; omega)) only [go_sem, Nat.reduceAdd, Nat.reduceBEq, f_impl_ownAct, c_impl_ownAct, cpy_ints]

theorem run_isExtra (k : Int) : runFn Φ N f_impl_isExtra [.a (.int .i64 k)] = some ([.a (.bool (decide (15 ≤ k ∧ k ≤ 17)))], []) := by
  rw [fn_run rfl]
  by_cases h1 : k = 15
  · rw [decide_eq_true (by omega)]
    simp (maxSteps := 3000000) (implicitDefEqProofs := false) (disch := first | assumption | exact ofR (by with_unfolding_all rfl) | exact ofB (by with_unfolding_all rfl) | omega | (simp only [go_sem, maxLen_eq]; omega)) only [go_sem, Nat.reduceAdd, Nat.reduceBEq, f_impl_isExtra, c_impl_isExtra]
  · by_cases h2 : k = 16
    · rw [decide_eq_true (by omega)]
      simp (maxSteps := 3000000) (implicitDefEqProofs := false) (disch := first | assumption | exact ofR (by with_unfolding_all rfl) | exact ofB (by with_unfolding_all rfl) | omega | (simp only [go_sem, maxLen_eq]; omega)) only [go_sem, Nat.reduceAdd, Nat.reduceBEq, f_impl_isExtra, c_impl_isExtra]
    · by_cases h3 : k = 17
      · rw [decide_eq_true (by omega)]
        simp (maxSteps := 3000000) (implicitDefEqProofs := false) (disch := first | assumption | exact ofR (by with_unfolding_all rfl) | exact ofB (by with_unfolding_all rfl) | omega | (simp only [go_sem, maxLen_eq]; omega)) only [go_sem, Nat.reduceAdd, Nat.reduceBEq, f_impl_isExtra, c_impl_isExtra]
      · rw [decide_eq_false (by omega)]
        simp (maxSteps := 3000000) (implicitDefEqProofs := false) (disch := first | assumption | exact ofR (by with_unfolding_all rfl) | exact ofB (by with_unfolding_all rfl) | omega | (simp only [go_sem, maxLen_eq]; omega)) only [go_sem, Nat.reduceAdd, Nat.reduceBEq, f_impl_isExtra, c_impl_isExtra]
theorem run_l15Quiet {d : Nat} (k : Int) : runFn (T (d + 1)) fuel f_spec_l15Quiet [.a (.int .i64 k)] = some ([.a (.bool (decide (15 ≤ k ∧ k ≤ 17)))], []) := by
  have h := run_l1In (Φ := T d) (N := fuel) (n := k) (lo := 15) (hi := 17)
  generalize decide (15 ≤ k ∧ k ≤ 17) = b at *
  rw [fn_run rfl]
  simp (maxSteps := 3000000) (implicitDefEqProofs := false) (disch := first | assumption | exact ofR (by with_unfolding_all rfl) | exact ofB (by with_unfolding_all rfl) | omega | (simp only [go_sem, maxLen_eq]; omega)) only [go_sem, Nat.reduceAdd, Nat.reduceBEq, f_spec_l15Quiet, c_spec_l15Quiet, h]

/-- An act that belongs to the acts themselves. -/
def loud (x : Act') : Bool := !decide (15 ≤ x.kind ∧ x.kind ≤ 17)
def strip (l : List Act') : List Act' := if l.length ≤ 60 then l.filter loud else []
/-- What is stripped of the first i. -/
def stripO (l : List Act') (i : Nat) : List PV := ((l.take i).filter loud).map eAct
theorem stripO_length (l : List Act') (i : Nat) : (stripO l i).length ≤ i := by
  have := List.length_filter_le loud (l.take i)
  rw [stripO, List.length_map]
  rw [List.length_take] at this
  omega
theorem stripO_loud {l : List Act'} {i : Nat} {x : Act'} (h : l[i]? = some x) (hx : loud x = true) : stripO l (i + 1) = stripO l i ++ [eAct x] := by
  unfold stripO
  rw [List.take_add_one, h, List.filter_append, List.map_append]
  simp [hx]
theorem stripO_quiet {l : List Act'} {i : Nat} {x : Act'} (h : l[i]? = some x) (hx : loud x = false) : stripO l (i + 1) = stripO l i := by
  unfold stripO
  rw [List.take_add_one, h, List.filter_append, List.map_append]
  simp [hx]
theorem stripO_all (l : List Act') : stripO l l.length = (l.filter loud).map eAct := by rw [stripO, List.take_length]

theorem impl_Stripped_loop {d : Nat} (l : List Act') (hl : l.length ≤ 60) (hk : ∀ x ∈ l, x.keep.length ≤ 1048576) :
    loopE (T (d + 2)) fuel [3,10,11,12] c_impl_Stripped_L0 ⟨[(3, .rf 0), (10, .sz t_impl_Act (l.map eAct)), (11, .a (.int .i64 l.length)), (12, .a (.int .i64 0))], [(0, some (.sl false 0 t_impl_Act []))], 1⟩ =
    some (.ext 0, ⟨[(3, .rf 0), (10, .sz t_impl_Act (l.map eAct)), (11, .a (.int .i64 l.length)), (12, .a (.int .i64 l.length)), (13, .a (.bool false))], [(0, some (.sl false 0 t_impl_Act ((l.filter loud).map eAct)))], 101⟩) := by
  rw [← stripO_all]
  refine loopE_all (fun i => ⟨[(3, .rf 0), (10, .sz t_impl_Act (l.map eAct)), (11, .a (.int .i64 l.length)), (12, .a (.int .i64 (i : Nat)))], [(0, some (.sl false 0 t_impl_Act (stripO l i)))], 1⟩) _ (m := l.length) (lt_fuel (by omega)) (fun i hi => ?_) ?_
  · obtain ⟨x, hx⟩ : ∃ a, l[i]? = some a := ⟨_, List.getElem?_eq_getElem hi⟩
    have hc := run_ownAct (d := d) x (hk x (List.mem_of_getElem? hx))
    have he := run_isExtra (Φ := T (d + 1)) (N := fuel) x.kind
    have hO := stripO_length l i
    have hw := wrap_succ i (by omega)
    unfold round c_impl_Stripped_L0
    cases hq : loud x
    · rw [stripO_quiet hx hq]
      rw [show decide (15 ≤ x.kind ∧ x.kind ≤ 17) = true from by rw [loud, Bool.not_eq_false'] at hq; exact hq] at he
      simp (maxSteps := 3000000) (implicitDefEqProofs := false) (disch := first | assumption | exact ofR (by with_unfolding_all rfl) | exact ofB (by with_unfolding_all rfl) | omega | (simp only [go_sem, maxLen_eq]; omega)) only [go_sem, Nat.reduceAdd, Nat.reduceBEq, hx, hc, he, hw]
      rfl
    · rw [stripO_loud hx hq, eAct_eq]
      rw [show decide (15 ≤ x.kind ∧ x.kind ≤ 17) = false from by rw [loud, Bool.not_eq_true'] at hq; exact hq] at he
      generalize stripO l i = O at *
      simp (maxSteps := 3000000) (implicitDefEqProofs := false) (disch := first | assumption | exact ofR (by with_unfolding_all rfl) | exact ofB (by with_unfolding_all rfl) | omega | (simp only [go_sem, maxLen_eq]; omega)) only [go_sem, Nat.reduceAdd, Nat.reduceBEq, hx, hc, he, hw]
      rfl
  · unfold round c_impl_Stripped_L0
    simp (maxSteps := 3000000) (implicitDefEqProofs := false) (disch := first | assumption | exact ofR (by with_unfolding_all rfl) | exact ofB (by with_unfolding_all rfl) | omega | (simp only [go_sem, maxLen_eq]; omega)) only [go_sem, Nat.reduceAdd, Nat.reduceBEq]

theorem spec_Stripped_loop {d : Nat} (l : List Act') (hl : l.length ≤ 60) (hk : ∀ x ∈ l, x.keep.length ≤ 1048576) :
    loopE (T (d + 2)) fuel [0,3,4] c_spec_Stripped_L0 ⟨[(0, .sz t_impl_Act (l.map eAct)), (3, .rf 0), (4, .a (.int .i64 0))], [(0, some (.sl false 0 t_impl_Act []))], 1⟩ =
    some (.ext 0, ⟨[(0, .sz t_impl_Act (l.map eAct)), (3, .rf 0), (4, .a (.int .i64 l.length)), (14, .a (.bool false))], [(0, some (.sl false 0 t_impl_Act ((l.filter loud).map eAct)))], 901⟩) := by
  rw [← stripO_all]
  refine loopE_all (fun i => ⟨[(0, .sz t_impl_Act (l.map eAct)), (3, .rf 0), (4, .a (.int .i64 (i : Nat)))], [(0, some (.sl false 0 t_impl_Act (stripO l i)))], 1⟩) _ (m := l.length) (lt_fuel (by omega)) (fun i hi => ?_) ?_
  · obtain ⟨x, hx⟩ : ∃ a, l[i]? = some a := ⟨_, List.getElem?_eq_getElem hi⟩
    have hc := run_l15Copy (Φ := T (d + 1)) (N := fuel) x (hk x (List.mem_of_getElem? hx))
    have he := run_l15Quiet (d := d) x.kind
    have hO := stripO_length l i
    have hw := wrap_succ i (by omega)
    unfold round c_spec_Stripped_L0
    cases hq : loud x
    · rw [stripO_quiet hx hq]
      rw [show decide (15 ≤ x.kind ∧ x.kind ≤ 17) = true from by rw [loud, Bool.not_eq_false'] at hq; exact hq] at he
      simp (maxSteps := 3000000) (implicitDefEqProofs := false) (disch := first | assumption | exact ofR (by with_unfolding_all rfl) | exact ofB (by with_unfolding_all rfl) | omega | (simp only [go_sem, maxLen_eq]; omega)) only [go_sem, Nat.reduceAdd, Nat.reduceBEq, hx, hc, he, hw]
      rfl
    · rw [stripO_loud hx hq, eAct_eq]
      rw [show decide (15 ≤ x.kind ∧ x.kind ≤ 17) = false from by rw [loud, Bool.not_eq_true'] at hq; exact hq] at he
      generalize stripO l i = O at *
      simp (maxSteps := 3000000) (implicitDefEqProofs := false) (disch := first | assumption | exact ofR (by with_unfolding_all rfl) | exact ofB (by with_unfolding_all rfl) | omega | (simp only [go_sem, maxLen_eq]; omega)) only [go_sem, Nat.reduceAdd, Nat.reduceBEq, hx, hc, he, hw]
      rfl
  · unfold round c_spec_Stripped_L0
    simp (maxSteps := 3000000) (implicitDefEqProofs := false) (disch := first | assumption | exact ofR (by with_unfolding_all rfl) | exact ofB (by with_unfolding_all rfl) | omega | (simp only [go_sem, maxLen_eq]; omega)) only [go_sem, Nat.reduceAdd, Nat.reduceBEq]

theorem run_impl_Stripped {d : Nat} (l : List Act') (h63 : l.length ≤ 1048576) (hk : ∀ x ∈ l, x.keep.length ≤ 1048576) : runFn (T (d + 2)) fuel f_impl_Stripped [.sl true t_impl_Act (l.map eAct)] = some ([.sl false t_impl_Act ((strip l).map eAct)], []) := by
  rw [fn_run rfl]
  unfold strip
  by_cases hl : l.length ≤ 60
  · have key := impl_Stripped_loop (d := d) l hl hk
    rw [if_pos hl]
    simp (maxSteps := 3000000) (implicitDefEqProofs := false) (disch := first | assumption | exact ofR (by with_unfolding_all rfl) | exact ofB (by with_unfolding_all rfl) | omega | (simp only [go_sem, maxLen_eq]; omega)) only [go_sem, Nat.reduceAdd, Nat.reduceBEq, f_impl_Stripped, c_impl_Stripped, loop_at key]
  · rw [if_neg hl]
    simp (maxSteps := 3000000) (implicitDefEqProofs := false) (disch := first | assumption | exact ofR (by with_unfolding_all rfl) | exact ofB (by with_unfolding_all rfl) | omega | (simp only [go_sem, maxLen_eq]; omega)) only [go_sem, Nat.reduceAdd, Nat.reduceBEq, f_impl_Stripped, c_impl_Stripped]

theorem run_spec_Stripped {d : Nat} (l : List Act') (h63 : l.length ≤ 1048576) (hk : ∀ x ∈ l, x.keep.length ≤ 1048576) : runFn (T (d + 2)) fuel f_spec_Stripped [.sl true t_impl_Act (l.map eAct)] = some ([.sl false t_impl_Act ((strip l).map eAct)], []) := by
  rw [fn_run rfl]
  unfold strip
  by_cases hl : l.length ≤ 60
  · have key := spec_Stripped_loop (d := d) l hl hk
    rw [if_pos hl]
    simp (maxSteps := 3000000) (implicitDefEqProofs := false) (disch := first | assumption | exact ofR (by with_unfolding_all rfl) | exact ofB (by with_unfolding_all rfl) | omega | (simp only [go_sem, maxLen_eq]; omega)) only [go_sem, Nat.reduceAdd, Nat.reduceBEq, f_spec_Stripped, c_spec_Stripped, loop_at key]
  · rw [if_neg hl]
    have key : loopE (T (d + 2)) fuel [0,3,4] c_spec_Stripped_L0 ⟨[(0, .sz t_impl_Act (l.map eAct)), (3, .rf 0), (4, .a (.int .i64 0))], [(0, some (.sl false 0 t_impl_Act []))], 1⟩ =
      some (.ext 0, ⟨[(0, .sz t_impl_Act (l.map eAct)), (3, .rf 0), (4, .a (.int .i64 0)), (14, .a (.bool false))], [(0, some (.sl false 0 t_impl_Act []))], 901⟩) := by
      refine loopE_while (fun _ => ⟨[(0, .sz t_impl_Act (l.map eAct)), (3, .rf 0), (4, .a (.int .i64 0))], [(0, some (.sl false 0 t_impl_Act []))], 1⟩) _ (fun _ => True) (m := 1) (lt_fuel (by omega)) trivial (by simp) (fun i _ _ => .inr ?_)
      unfold round c_spec_Stripped_L0
      simp (maxSteps := 3000000) (implicitDefEqProofs := false) (disch := first | assumption | exact ofR (by with_unfolding_all rfl) | exact ofB (by with_unfolding_all rfl) | omega | (simp only [go_sem, maxLen_eq]; omega)) only [go_sem, Nat.reduceAdd, Nat.reduceBEq]
    simp (maxSteps := 3000000) (implicitDefEqProofs := false) (disch := first | assumption | exact ofR (by with_unfolding_all rfl) | exact ofB (by with_unfolding_all rfl) | omega | (simp only [go_sem, maxLen_eq]; omega)) only [go_sem, Nat.reduceAdd, Nat.reduceBEq, f_spec_Stripped, c_spec_Stripped, loop_at key]
end Go.Proofs.Ytkoljcjliihiiaa.VM

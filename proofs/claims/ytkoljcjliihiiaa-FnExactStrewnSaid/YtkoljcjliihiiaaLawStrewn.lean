/- Strewn: what the program and the reference make of acts and places. -/
import Derived.Test.YtkoljcjliihiiaaStrewLaw
import Derived.Test.YtkoljcjliihiiaaVmSlc
namespace Go.Proofs.Ytkoljcjliihiiaa.VM
open Go Sy
variable {Φ : Nat → Option Callee} {N : Nat}
theorem eAct_sact (s : Strew) : eAct (sact s) = .st [.a (.int .i64 s.kind), .a (.int .i64 s.a), .a (.int .i64 0), .a (.int .i64 0), .a (.int .i64 (-1)), .sl t_i64 []] := rfl

/-! ### the reference's -/
def S30 (l : List Act') (ws : List Strew) (i : Nat) : St := ⟨[(0, .sz t_impl_Act (l.map eAct)), (1, .sz t_impl_Strew (ws.map eStrew)), (6, .a (.int .i64 i))], [], 0⟩
theorem spec_L0_round {d : Nat} (l : List Act') (ws : List Strew) (hl : l.length ≤ 1048576) (hw : ws.length ≤ 1048576) {i : Nat} {s : Strew} (hi : ws[i]? = some s) (hp : ∀ j y, j < i → ws[j]? = some y → okS l.length (prevS 0 ws j) y = true) :
    round (T (d + 2)) fuel [0,1,6] c_spec_Strewn_L0 (S30 l ws i) = some (if okS l.length (prevS 0 ws i) s = true then (.nrm, S30 l ws (i + 1)) else (.ret, ⟨[(4, .nl t_impl_Act), (5, .a (.bool false))], [], 4200⟩)) := by
  have hil : i < ws.length := (List.getElem?_eq_some_iff.1 hi).1
  have hsi := wrap_succ i (by omega)
  have hq := run_l15Quiet (d := d) s.kind
  unfold round S30 c_spec_Strewn_L0
  by_cases c1 : 0 ≤ s.at_ ∧ s.at_ ≤ (l.length : Int)
  · by_cases c3 : 15 ≤ s.kind ∧ s.kind ≤ 17
    · rw [decide_eq_true c3] at hq
      cases i with
      | zero =>
        rw [if_pos (by rw [okS, decide_eq_true_eq]; exact ⟨c1.1, c1.2, c3.1, c3.2⟩)]
        simp (maxSteps := 3000000) (implicitDefEqProofs := false) (disch := first | assumption | exact ofR (by with_unfolding_all rfl) | exact ofB (by with_unfolding_all rfl) | omega | (simp only [go_sem, maxLen_eq]; omega)) only [go_sem, Nat.reduceAdd, Nat.reduceBEq, hi, hq, hsi]
        rfl
      | succ j =>
        obtain ⟨y, hy⟩ : ∃ y, ws[j]? = some y := ⟨_, List.getElem?_eq_getElem (by omega)⟩
        have hy0 := hp j y (by omega) hy
        simp only [okS, decide_eq_true_eq] at hy0
        have hprev : prevS 0 ws (j + 1) = y.at_.toNat := by simp [prevS, hy]
        have hj : IntKind.i64.wrap (((j + 1 : Nat) : Int) - 1) = (j : Int) := by rw [wrap_i64] <;> omega
        by_cases c2 : s.at_ < y.at_
        · rw [if_neg (by simp only [okS, hprev, decide_eq_true_eq]; omega)]
          simp (maxSteps := 3000000) (implicitDefEqProofs := false) (disch := first | assumption | exact ofR (by with_unfolding_all rfl) | exact ofB (by with_unfolding_all rfl) | omega | (simp only [go_sem, maxLen_eq]; omega)) only [go_sem, Nat.reduceAdd, Nat.reduceBEq, hi, hy, hq, hsi, hj]
        · rw [if_pos (by simp only [okS, hprev, decide_eq_true_eq]; omega)]
          simp (maxSteps := 3000000) (implicitDefEqProofs := false) (disch := first | assumption | exact ofR (by with_unfolding_all rfl) | exact ofB (by with_unfolding_all rfl) | omega | (simp only [go_sem, maxLen_eq]; omega)) only [go_sem, Nat.reduceAdd, Nat.reduceBEq, hi, hy, hq, hsi, hj]
          rfl
    · rw [decide_eq_false c3] at hq
      rw [if_neg (by simp only [okS, decide_eq_true_eq]; omega)]
      cases i with
      | zero => simp (maxSteps := 3000000) (implicitDefEqProofs := false) (disch := first | assumption | exact ofR (by with_unfolding_all rfl) | exact ofB (by with_unfolding_all rfl) | omega | (simp only [go_sem, maxLen_eq]; omega)) only [go_sem, Nat.reduceAdd, Nat.reduceBEq, hi, hq, hsi]
      | succ j =>
        obtain ⟨y, hy⟩ : ∃ y, ws[j]? = some y := ⟨_, List.getElem?_eq_getElem (by omega)⟩
        have hj : IntKind.i64.wrap (((j + 1 : Nat) : Int) - 1) = (j : Int) := by rw [wrap_i64] <;> omega
        by_cases c2 : s.at_ < y.at_
        · simp (maxSteps := 3000000) (implicitDefEqProofs := false) (disch := first | assumption | exact ofR (by with_unfolding_all rfl) | exact ofB (by with_unfolding_all rfl) | omega | (simp only [go_sem, maxLen_eq]; omega)) only [go_sem, Nat.reduceAdd, Nat.reduceBEq, hi, hy, hq, hsi, hj]
        · simp (maxSteps := 3000000) (implicitDefEqProofs := false) (disch := first | assumption | exact ofR (by with_unfolding_all rfl) | exact ofB (by with_unfolding_all rfl) | omega | (simp only [go_sem, maxLen_eq]; omega)) only [go_sem, Nat.reduceAdd, Nat.reduceBEq, hi, hy, hq, hsi, hj]
  · rw [if_neg (by simp only [okS, decide_eq_true_eq]; omega)]
    simp (maxSteps := 3000000) (implicitDefEqProofs := false) (disch := first | assumption | exact ofR (by with_unfolding_all rfl) | exact ofB (by with_unfolding_all rfl) | omega | (simp only [go_sem, maxLen_eq]; omega)) only [go_sem, Nat.reduceAdd, Nat.reduceBEq, hi, hsi]

theorem spec_L0_ok {d : Nat} (l : List Act') (ws : List Strew) (hl : l.length ≤ 1048576) (hw : ws.length ≤ 1048576) (hv : validS l.length 0 ws = true) :
    loopE (T (d + 2)) fuel [0,1,6] c_spec_Strewn_L0 (S30 l ws 0) = some (.ext 0, ⟨[(0, .sz t_impl_Act (l.map eAct)), (1, .sz t_impl_Strew (ws.map eStrew)), (6, .a (.int .i64 ws.length)), (13, .a (.bool false))], [], 400⟩) := by
  have hv' := (valid_iff _ _ _).1 hv
  refine loopE_all (S30 l ws) _ (m := ws.length) (lt_fuel (by omega)) (fun i hi => ?_) ?_
  · obtain ⟨s, hs⟩ : ∃ s, ws[i]? = some s := ⟨_, List.getElem?_eq_getElem hi⟩
    rw [spec_L0_round l ws hl hw hs fun j y _ hy => hv' j y hy, if_pos (hv' i s hs)]
  · unfold round S30 c_spec_Strewn_L0
    simp (maxSteps := 3000000) (implicitDefEqProofs := false) (disch := first | assumption | exact ofR (by with_unfolding_all rfl) | exact ofB (by with_unfolding_all rfl) | omega | (simp only [go_sem, maxLen_eq]; omega)) only [go_sem, Nat.reduceAdd, Nat.reduceBEq]
theorem spec_L0_bad {d : Nat} (l : List Act') (ws : List Strew) (hl : l.length ≤ 1048576) (hw : ws.length ≤ 1048576) (hv : ¬ validS l.length 0 ws = true) :
    loopE (T (d + 2)) fuel [0,1,6] c_spec_Strewn_L0 (S30 l ws 0) = some (.ret, ⟨[(4, .nl t_impl_Act), (5, .a (.bool false))], [], 4200⟩) := by
  refine loopE_while (S30 l ws) _ (fun i => ∀ j y, j < i → ws[j]? = some y → okS l.length (prevS 0 ws j) y = true) (m := ws.length) (lt_fuel (by omega)) (fun j y h => by omega) (by simp) (fun i hi hp => ?_)
  by_cases hi' : i < ws.length
  · obtain ⟨s, hs⟩ : ∃ s, ws[i]? = some s := ⟨_, List.getElem?_eq_getElem hi'⟩
    rw [spec_L0_round l ws hl hw hs hp]
    by_cases ho : okS l.length (prevS 0 ws i) s = true
    · rw [if_pos ho]
      refine .inl ⟨hi', rfl, fun j y hj hy => ?_⟩
      by_cases hji : j = i
      · subst hji
        rw [hs] at hy
        cases hy
        exact ho
      · exact hp j y (by omega) hy
    · rw [if_neg ho]
      exact .inr rfl
  · exact absurd ((valid_iff _ _ _).2 fun j y hy => hp j y (by have := (List.getElem?_eq_some_iff.1 hy).1; omega) hy) hv

/-- What is strewn at a place, of the first k. -/
def gwO (ws : List Strew) (i k : Nat) : List PV := (gw (ws.take k) i).map eAct
theorem gwO_in {ws : List Strew} {i k : Nat} {s : Strew} (h : ws[k]? = some s) (hs : s.at_ = (i : Int)) : gwO ws i (k + 1) = gwO ws i k ++ [eAct (sact s)] := by
  unfold gwO gw
  rw [List.take_add_one, h, List.filter_append, List.map_append, List.map_append]
  simp [hs]
theorem gwO_out {ws : List Strew} {i k : Nat} {s : Strew} (h : ws[k]? = some s) (hs : s.at_ ≠ (i : Int)) : gwO ws i (k + 1) = gwO ws i k := by
  unfold gwO gw
  rw [List.take_add_one, h, List.filter_append, List.map_append, List.map_append]
  simp [hs]
theorem gwO_length (ws : List Strew) (i k : Nat) : (gwO ws i k).length ≤ k := by
  unfold gwO gw
  have := List.length_filter_le (fun s : Strew => decide (s.at_ = (i : Int))) (ws.take k)
  rw [List.length_map, List.length_map]
  rw [List.length_take] at this
  omega
theorem gw_length (ws : List Strew) (i : Nat) : (gw ws i).length ≤ ws.length := by
  unfold gw
  rw [List.length_map]
  exact List.length_filter_le _ _
theorem gwO_all (ws : List Strew) (i : Nat) : gwO ws i ws.length = (gw ws i).map eAct := by rw [gwO, List.take_length]
theorem aS_length (l : List Act') (ws : List Strew) (hw : ws.length ≤ 60) : ∀ i, (aS l ws i).length ≤ i * 61
  | 0 => by simp [aS]
  | i + 1 => by
    have h1 := aS_length l ws hw i
    have h2 := gw_length ws i
    have h3 : l[i]?.toList.length ≤ 1 := by cases l[i]? <;> simp
    simp only [aS, List.length_append]
    omega

theorem spec_L2 {d : Nat} (l : List Act') (ws : List Strew) (hw : ws.length ≤ 60) (i : Nat) (hi : i ≤ 61) (O : List PV) (hO : O.length ≤ 10000) :
    loopE (T (d + 2)) fuel [0,1,7,8,9] c_spec_Strewn_L2 ⟨[(0, .sz t_impl_Act (l.map eAct)), (1, .sz t_impl_Strew (ws.map eStrew)), (7, .rf 0), (8, .a (.int .i64 i)), (9, .a (.int .i64 0))], [(0, some (.sl false 0 t_impl_Act O))], 1⟩ =
    some (.ext 4, ⟨[(0, .sz t_impl_Act (l.map eAct)), (1, .sz t_impl_Strew (ws.map eStrew)), (7, .rf 0), (8, .a (.int .i64 i)), (9, .a (.int .i64 ws.length)), (68, .a (.bool false))], [(0, some (.sl false 0 t_impl_Act (O ++ (gw ws i).map eAct)))], 401⟩) := by
  have := loopE_all (Φ := T (d + 2)) (N := fuel) (live := [0,1,7,8,9]) (b := c_spec_Strewn_L2) (id := 4) (fun k => ⟨[(0, .sz t_impl_Act (l.map eAct)), (1, .sz t_impl_Strew (ws.map eStrew)), (7, .rf 0), (8, .a (.int .i64 i)), (9, .a (.int .i64 (k : Nat)))], [(0, some (.sl false 0 t_impl_Act (O ++ gwO ws i k)))], 1⟩)
    ⟨[(0, .sz t_impl_Act (l.map eAct)), (1, .sz t_impl_Strew (ws.map eStrew)), (7, .rf 0), (8, .a (.int .i64 i)), (9, .a (.int .i64 ws.length)), (68, .a (.bool false))], [(0, some (.sl false 0 t_impl_Act (O ++ (gw ws i).map eAct)))], 401⟩ (m := ws.length) (lt_fuel (by omega)) (fun k hk => ?_) ?_
  · simpa [gwO, gw] using this
  · obtain ⟨s, hs⟩ : ∃ s, ws[k]? = some s := ⟨_, List.getElem?_eq_getElem hk⟩
    have hsk := wrap_succ k (by omega)
    have hg := gwO_length ws i k
    unfold round c_spec_Strewn_L2
    by_cases c : s.at_ = (i : Int)
    · rw [gwO_in hs c, eAct_sact, ← List.append_assoc]
      have hle : (O ++ gwO ws i k).length ≤ 20000 := by rw [List.length_append]; omega
      generalize O ++ gwO ws i k = O' at *
      simp (maxSteps := 3000000) (implicitDefEqProofs := false) (disch := first | assumption | exact ofR (by with_unfolding_all rfl) | exact ofB (by with_unfolding_all rfl) | omega | (simp only [go_sem, maxLen_eq]; omega)) only [go_sem, Nat.reduceAdd, Nat.reduceBEq, hs, hsk, c]
      rfl
    · rw [gwO_out hs c]
      generalize O ++ gwO ws i k = O' at *
      simp (maxSteps := 3000000) (implicitDefEqProofs := false) (disch := first | assumption | exact ofR (by with_unfolding_all rfl) | exact ofB (by with_unfolding_all rfl) | omega | (simp only [go_sem, maxLen_eq]; omega)) only [go_sem, Nat.reduceAdd, Nat.reduceBEq, hs, hsk, c]
      rfl
  · rw [gwO_all]
    unfold round c_spec_Strewn_L2
    simp (maxSteps := 3000000) (implicitDefEqProofs := false) (disch := first | assumption | exact ofR (by with_unfolding_all rfl) | exact ofB (by with_unfolding_all rfl) | omega | (simp only [go_sem, maxLen_eq]; omega)) only [go_sem, Nat.reduceAdd, Nat.reduceBEq]

theorem spec_L1 {d : Nat} (l : List Act') (ws : List Strew) (hl : l.length ≤ 60) (hw : ws.length ≤ 60) (hk : ∀ x ∈ l, x.keep.length ≤ 1048576) :
    loopE (T (d + 2)) fuel [0,1,7,8] c_spec_Strewn_L1 ⟨[(0, .sz t_impl_Act (l.map eAct)), (1, .sz t_impl_Strew (ws.map eStrew)), (7, .rf 0), (8, .a (.int .i64 0))], [(0, some (.sl false 0 t_impl_Act []))], 1⟩ =
    some (.ext 2, ⟨[(0, .sz t_impl_Act (l.map eAct)), (1, .sz t_impl_Strew (ws.map eStrew)), (7, .rf 0), (8, .a (.int .i64 (l.length + 1 : Nat))), (62, .a (.bool false))], [(0, some (.sl false 0 t_impl_Act ((aS l ws (l.length + 1)).map eAct)))], 401⟩) := by
  refine loopE_all (fun i => ⟨[(0, .sz t_impl_Act (l.map eAct)), (1, .sz t_impl_Strew (ws.map eStrew)), (7, .rf 0), (8, .a (.int .i64 (i : Nat)))], [(0, some (.sl false 0 t_impl_Act ((aS l ws i).map eAct)))], 1⟩) _ (m := l.length + 1) (lt_fuel (by omega)) (fun i hi => ?_) ?_
  · have hsi := wrap_succ i (by omega)
    have hal := aS_length l ws hw i
    have hgl := gw_length ws i
    have key := spec_L2 (d := d) l ws hw i (by omega) ((aS l ws i).map eAct) (by rw [List.length_map]; omega)
    unfold round c_spec_Strewn_L1
    by_cases c : i < l.length
    · obtain ⟨x, hx⟩ : ∃ x, l[i]? = some x := ⟨_, List.getElem?_eq_getElem c⟩
      have hc := run_l15Copy (Φ := T (d + 1)) (N := fuel) x (hk x (List.mem_of_getElem? hx))
      rw [show (aS l ws (i + 1)).map eAct = (aS l ws i).map eAct ++ (gw ws i).map eAct ++ [eAct x] from by rw [aS, hx]; simp, eAct_eq]
      have hle : ((aS l ws i).map eAct ++ (gw ws i).map eAct).length ≤ 20000 := by rw [List.length_append, List.length_map, List.length_map]; omega
      generalize hO : (aS l ws i).map eAct ++ (gw ws i).map eAct = O at *
      simp (maxSteps := 3000000) (implicitDefEqProofs := false) (disch := first | assumption | exact ofR (by with_unfolding_all rfl) | exact ofB (by with_unfolding_all rfl) | omega | (simp only [go_sem, maxLen_eq]; omega)) only [go_sem, Nat.reduceAdd, Nat.reduceBEq, loop_at key, hO, hx, hsi, hc]
      rfl
    · obtain rfl : i = l.length := by omega
      rw [show (aS l ws (l.length + 1)).map eAct = (aS l ws l.length).map eAct ++ (gw ws l.length).map eAct from by rw [aS, List.getElem?_eq_none (Nat.le_refl _)]; simp]
      generalize hO : (aS l ws l.length).map eAct ++ (gw ws l.length).map eAct = O at *
      simp (maxSteps := 3000000) (implicitDefEqProofs := false) (disch := first | assumption | exact ofR (by with_unfolding_all rfl) | exact ofB (by with_unfolding_all rfl) | omega | (simp only [go_sem, maxLen_eq]; omega)) only [go_sem, Nat.reduceAdd, Nat.reduceBEq, loop_at key, hO, hsi]
      rfl
  · unfold round c_spec_Strewn_L1
    simp (maxSteps := 3000000) (implicitDefEqProofs := false) (disch := first | assumption | exact ofR (by with_unfolding_all rfl) | exact ofB (by with_unfolding_all rfl) | omega | (simp only [go_sem, maxLen_eq]; omega)) only [go_sem, Nat.reduceAdd, Nat.reduceBEq]

theorem run_spec_Strewn {d : Nat} (l : List Act') (ws : List Strew) (hl : l.length ≤ 1048576) (hw : ws.length ≤ 1048576) (hk : ∀ x ∈ l, x.keep.length ≤ 1048576) :
    runFn (T (d + 2)) fuel f_spec_Strewn [.sl true t_impl_Act (l.map eAct), .sl true t_impl_Strew (ws.map eStrew)] = some ([.sl false t_impl_Act ((strewn l ws).1.map eAct), .a (.bool (strewn l ws).2)], []) := by
  have hs : IntKind.i64.wrap ((l.length : Int) + ws.length) = l.length + ws.length := by rw [wrap_i64] <;> omega
  unfold strewn
  rw [fn_run rfl]
  by_cases hv : validS l.length 0 ws = true
  · have key := spec_L0_ok (d := d) l ws hl hw hv
    unfold S30 at key
    by_cases hn : l.length + ws.length ≤ 60
    · have key1 := spec_L1 (d := d) l ws (by omega) (by omega) hk
      rw [if_pos ⟨hv, hn⟩]
      simp (maxSteps := 3000000) (implicitDefEqProofs := false) (disch := first | assumption | exact ofR (by with_unfolding_all rfl) | exact ofB (by with_unfolding_all rfl) | omega | (simp only [go_sem, maxLen_eq]; omega)) only [go_sem, Nat.reduceAdd, Nat.reduceBEq, f_spec_Strewn, c_spec_Strewn, loop_at key, loop_at key1, hs]
    · rw [if_neg (fun h => hn h.2)]
      simp (maxSteps := 3000000) (implicitDefEqProofs := false) (disch := first | assumption | exact ofR (by with_unfolding_all rfl) | exact ofB (by with_unfolding_all rfl) | omega | (simp only [go_sem, maxLen_eq]; omega)) only [go_sem, Nat.reduceAdd, Nat.reduceBEq, f_spec_Strewn, c_spec_Strewn, loop_at key, hs]
  · have key := spec_L0_bad (d := d) l ws hl hw hv
    unfold S30 at key
    rw [if_neg (fun h => hv h.1)]
    simp (maxSteps := 3000000) (implicitDefEqProofs := false) (disch := first | assumption | exact ofR (by with_unfolding_all rfl) | exact ofB (by with_unfolding_all rfl) | omega | (simp only [go_sem, maxLen_eq]; omega)) only [go_sem, Nat.reduceAdd, Nat.reduceBEq, f_spec_Strewn, c_spec_Strewn, loop_rt key, hs]
end Go.Proofs.Ytkoljcjliihiiaa.VM

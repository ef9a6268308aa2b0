/- The laws' own functions over places where acts are strewn. -/
import Derived.Test.YtkoljcjliihiiaaLawGather
namespace Go.Proofs.Ytkoljcjliihiiaa.VM
open Go Sy
variable {Φ : Nat → Option Callee} {N : Nat}
structure Strew where
  at_ : Int
  kind : Int
  a : Int
def eStrew (s : Strew) : PV := .st [eInt s.at_, eInt s.kind, eInt s.a]
theorem eStrew_eq (s : Strew) : eStrew s = .st [.a (.int .i64 s.at_), .a (.int .i64 s.kind), .a (.int .i64 s.a)] := rfl
attribute [go_sem] eStrew_eq
abbrev cStrew (s : Strew) : CV := .st [.a (.int .i64 s.at_), .a (.int .i64 s.kind), .a (.int .i64 s.a)]
abbrev zStrew : PV := .st [zI, zI, zI]

theorem run_szStrewS (l : List Strew) (k : Int) (h0 : 0 ≤ k) (h1 : k ≤ 1048576) (hl : l.length < 9223372036854000000) : runFn Φ N f_laws_szStrewS [.sl true t_laws_Strew (l.map eStrew), .a (.int .i64 k)] = some ([.a (.int .i64 (if k - l.length < 0 then -1 else k - l.length))], []) := by
  have hw : IntKind.i64.wrap (k - (l.length : Int)) = k - l.length := by rw [wrap_i64] <;> omega
  rw [fn_run rfl]
  by_cases h : k - (l.length : Int) < 0
  · simp (maxSteps := 3000000) (implicitDefEqProofs := false) (disch := first | assumption | exact ofR (by with_unfolding_all rfl) | exact ofB (by with_unfolding_all rfl) | omega | (simp only [go_sem, maxLen_eq]; omega)) only [go_sem, Nat.reduceAdd, Nat.reduceBEq, f_laws_szStrewS, c_laws_szStrewS, hw, h]
  · simp (maxSteps := 3000000) (implicitDefEqProofs := false) (disch := first | assumption | exact ofR (by with_unfolding_all rfl) | exact ofB (by with_unfolding_all rfl) | omega | (simp only [go_sem, maxLen_eq]; omega)) only [go_sem, Nat.reduceAdd, Nat.reduceBEq, f_laws_szStrewS, c_laws_szStrewS, hw, h]

theorem run_toStrew (s : Strew) : runFn Φ N f_laws_toStrew [cStrew s] = some ([cStrew s], []) := by
  rw [fn_run rfl]
  simp (maxSteps := 3000000) (implicitDefEqProofs := false) (disch := first | assumption | exact ofR (by with_unfolding_all rfl) | exact ofB (by with_unfolding_all rfl) | omega | (simp only [go_sem, maxLen_eq]; omega)) only [go_sem, Nat.reduceAdd, Nat.reduceBEq, f_laws_toStrew, c_laws_toStrew]
theorem run_eqStrew (s : Strew) : runFn Φ N f_laws_eqStrew [cStrew s, cStrew s] = some ([.a (.bool true)], []) := by
  rw [fn_run rfl]
  simp (maxSteps := 3000000) (implicitDefEqProofs := false) (disch := first | assumption | exact ofR (by with_unfolding_all rfl) | exact ofB (by with_unfolding_all rfl) | omega | (simp only [go_sem, maxLen_eq]; omega)) only [go_sem, Nat.reduceAdd, Nat.reduceBEq, f_laws_eqStrew, c_laws_eqStrew]

theorem toStrewS_loop {d : Nat} (l : List Strew) (hl : l.length ≤ 1048576) :
    loopE (T (d + 1)) fuel [0,3,4] c_laws_toStrewS_L0 ⟨[(0, .sz t_laws_Strew (l.map eStrew)), (3, .rf 0), (4, .a (.int .i64 0))], [(0, some (.sl false 0 t_impl_Strew (List.replicate l.length zStrew)))], 1⟩ =
    some (.ext 0, ⟨[(0, .sz t_laws_Strew (l.map eStrew)), (3, .rf 0), (4, .a (.int .i64 l.length)), (11, .a (.bool false))], [(0, some (.sl false 0 t_impl_Strew (l.map eStrew)))], 401⟩) := by
  rw [← updR_zero (g := eStrew)]
  refine loopE_all (fun i => ⟨[(0, .sz t_laws_Strew (l.map eStrew)), (3, .rf 0), (4, .a (.int .i64 (i : Nat)))], [(0, some (.sl false 0 t_impl_Strew (updR zStrew eStrew i l)))], 1⟩) _ (m := l.length) (lt_fuel (by omega)) (fun i hi => ?_) ?_
  · obtain ⟨a, ha⟩ : ∃ a, l[i]? = some a := ⟨_, List.getElem?_eq_getElem hi⟩
    have hg := updR_get (z := zStrew) (g := eStrew) ha
    have hs := updR_set (z := zStrew) (g := eStrew) ha
    rw [eStrew_eq] at hs
    have hc := run_toStrew (Φ := T d) (N := fuel) a
    have hw := wrap_succ i (by omega)
    unfold round c_laws_toStrewS_L0
    simp (maxSteps := 3000000) (implicitDefEqProofs := false) (disch := first | assumption | exact ofR (by with_unfolding_all rfl) | exact ofB (by with_unfolding_all rfl) | omega | (simp only [go_sem, maxLen_eq]; omega)) only [go_sem, Nat.reduceAdd, Nat.reduceBEq, ha, hg, hs, hw, hc]
    rfl
  · unfold round c_laws_toStrewS_L0
    simp (maxSteps := 3000000) (implicitDefEqProofs := false) (disch := first | assumption | exact ofR (by with_unfolding_all rfl) | exact ofB (by with_unfolding_all rfl) | omega | (simp only [go_sem, maxLen_eq]; omega)) only [go_sem, Nat.reduceAdd, Nat.reduceBEq, updR_all]
theorem run_toStrewS {d : Nat} (l : List Strew) (hl : l.length ≤ 1048576) : runFn (T (d + 1)) fuel f_laws_toStrewS [.sl true t_laws_Strew (l.map eStrew)] = some ([.sl false t_impl_Strew (l.map eStrew)], []) := by
  have key := toStrewS_loop (d := d) l hl
  rw [fn_run rfl]
  simp (maxSteps := 3000000) (implicitDefEqProofs := false) (disch := first | assumption | exact ofR (by with_unfolding_all rfl) | exact ofB (by with_unfolding_all rfl) | omega | (simp only [go_sem, maxLen_eq]; omega)) only [go_sem, Nat.reduceAdd, Nat.reduceBEq, f_laws_toStrewS, c_laws_toStrewS, loop_at key]

theorem eqStrewS_loop {d : Nat} (l : List Strew) (hl : l.length ≤ 1048576) :
    loopE (T (d + 1)) fuel [0,1,5] c_laws_eqStrewS_L0 ⟨[(0, .sz t_impl_Strew (l.map eStrew)), (1, .sz t_impl_Strew (l.map eStrew)), (5, .a (.int .i64 0))], [], 0⟩ =
    some (.ext 0, ⟨[(0, .sz t_impl_Strew (l.map eStrew)), (1, .sz t_impl_Strew (l.map eStrew)), (5, .a (.int .i64 l.length)), (14, .a (.bool false))], [], 400⟩) := by
  refine loopE_all (fun i => ⟨[(0, .sz t_impl_Strew (l.map eStrew)), (1, .sz t_impl_Strew (l.map eStrew)), (5, .a (.int .i64 (i : Nat)))], [], 0⟩) _ (m := l.length) (lt_fuel (by omega)) (fun i hi => ?_) ?_
  · obtain ⟨a, ha⟩ : ∃ a, l[i]? = some a := ⟨_, List.getElem?_eq_getElem hi⟩
    have hc := run_eqStrew (Φ := T d) (N := fuel) a
    have hw := wrap_succ i (by omega)
    unfold round c_laws_eqStrewS_L0
    simp (maxSteps := 3000000) (implicitDefEqProofs := false) (disch := first | assumption | exact ofR (by with_unfolding_all rfl) | exact ofB (by with_unfolding_all rfl) | omega | (simp only [go_sem, maxLen_eq]; omega)) only [go_sem, Nat.reduceAdd, Nat.reduceBEq, ha, hc, hw]
    rfl
  · unfold round c_laws_eqStrewS_L0
    simp (maxSteps := 3000000) (implicitDefEqProofs := false) (disch := first | assumption | exact ofR (by with_unfolding_all rfl) | exact ofB (by with_unfolding_all rfl) | omega | (simp only [go_sem, maxLen_eq]; omega)) only [go_sem, Nat.reduceAdd, Nat.reduceBEq]
theorem run_eqStrewS {d : Nat} (l : List Strew) (hl : l.length ≤ 1048576) : runFn (T (d + 1)) fuel f_laws_eqStrewS [.sl true t_impl_Strew (l.map eStrew), .sl true t_impl_Strew (l.map eStrew)] = some ([.a (.bool true)], []) := by
  have key := eqStrewS_loop (d := d) l hl
  rw [fn_run rfl]
  simp (maxSteps := 3000000) (implicitDefEqProofs := false) (disch := first | assumption | exact ofR (by with_unfolding_all rfl) | exact ofB (by with_unfolding_all rfl) | omega | (simp only [go_sem, maxLen_eq]; omega)) only [go_sem, Nat.reduceAdd, Nat.reduceBEq, f_laws_eqStrewS, c_laws_eqStrewS, loop_at key]

/-- A place that is marked. -/
def mS (k : Int) (j : Nat) : PV := .st [.a (.int .i64 (k + 3 * j)), .a (.int .i64 (k + 3 * j + 1)), .a (.int .i64 (k + 3 * j + 1 + 1))]
theorem markStrewS_loop (l : List Strew) (k : Int) (h0 : 0 ≤ k) (hk : k + 3 * l.length ≤ 9223372036854775000) (hN : l.length < N) :
    loopE Φ N [0,1,5,10000] c_laws_markStrewS_L0 ⟨[(0, .rf 0), (1, .a (.int .i64 k)), (5, .a (.int .i64 0)), (10000, .rf 0)], [(0, some (.sl false 0 t_impl_Strew (l.map eStrew)))], 1⟩ =
    some (.ext 0, ⟨[(0, .rf 0), (1, .a (.int .i64 (k + 3 * l.length))), (5, .a (.int .i64 l.length)), (9, .a (.bool false)), (10000, .rf 0)], [(0, some (.sl false 0 t_impl_Strew ((List.range l.length).map (mS k))))], 401⟩) := by
  rw [← updI_zero (f := eStrew) (h := mS k), ← updI_all (f := eStrew) (h := mS k)]
  have := loopE_all (Φ := Φ) (N := N) (live := [0,1,5,10000]) (b := c_laws_markStrewS_L0) (id := 0) (fun i => ⟨[(0, .rf 0), (1, .a (.int .i64 (k + 3 * (i : Nat)))), (5, .a (.int .i64 (i : Nat))), (10000, .rf 0)], [(0, some (.sl false 0 t_impl_Strew (updI eStrew (mS k) i l)))], 1⟩)
    ⟨[(0, .rf 0), (1, .a (.int .i64 (k + 3 * l.length))), (5, .a (.int .i64 l.length)), (9, .a (.bool false)), (10000, .rf 0)], [(0, some (.sl false 0 t_impl_Strew (updI eStrew (mS k) l.length l)))], 401⟩ (m := l.length) hN (fun i hi => ?_) ?_
  · simpa using this
  · obtain ⟨a, ha⟩ : ∃ a, l[i]? = some a := ⟨_, List.getElem?_eq_getElem hi⟩
    have hw := wrap_succ i (by omega)
    have hk1 : IntKind.i64.wrap (k + 3 * (i : Int) + 1) = k + 3 * (i : Int) + 1 := by rw [wrap_i64] <;> omega
    have hk2 : IntKind.i64.wrap (k + 3 * (i : Int) + 1 + 1) = k + 3 * (i : Int) + 1 + 1 := by rw [wrap_i64] <;> omega
    have hk3 : IntKind.i64.wrap (k + 3 * (i : Int) + 1 + 1 + 1) = k + 3 * ((i + 1 : Nat) : Int) := by rw [wrap_i64] <;> omega
    have hlt : i < (updI eStrew (mS k) i l).length := by rw [updI_length]; exact hi
    have hg := updI_get (f := eStrew) (h := mS k) ha
    have hs := updI_set (f := eStrew) (h := mS k) ha
    simp only [eStrew_eq, mS] at hg hs
    unfold round c_laws_markStrewS_L0
    simp (maxSteps := 3000000) (implicitDefEqProofs := false) (disch := first | assumption | exact ofR (by with_unfolding_all rfl) | exact ofB (by with_unfolding_all rfl) | omega | (simp only [go_sem, maxLen_eq]; omega)) only [go_sem, Nat.reduceAdd, Nat.reduceBEq, hg, hs, hw, hk1, hk2, hk3, List.getElem?_set_self hlt, List.set_set, mS]
    rfl
  · unfold round c_laws_markStrewS_L0
    simp (maxSteps := 3000000) (implicitDefEqProofs := false) (disch := first | assumption | exact ofR (by with_unfolding_all rfl) | exact ofB (by with_unfolding_all rfl) | omega | (simp only [go_sem, maxLen_eq]; omega)) only [go_sem, Nat.reduceAdd, Nat.reduceBEq]
theorem run_markStrewS (l : List Strew) (k : Int) (h0 : 0 ≤ k) (hk : k + 3 * l.length ≤ 9223372036854775000) (hN : l.length < N) :
    runFn Φ N f_laws_markStrewS [.sl false t_impl_Strew (l.map eStrew), .a (.int .i64 k)] = some ([.a (.int .i64 (k + 3 * l.length))], [.sl false t_impl_Strew ((List.range l.length).map (mS k))]) := by
  have key := markStrewS_loop (Φ := Φ) l k h0 hk hN
  generalize (List.range l.length).map (mS k) = Z at *
  rw [fn_run rfl]
  simp (maxSteps := 3000000) (implicitDefEqProofs := false) (disch := first | assumption | exact ofR (by with_unfolding_all rfl) | exact ofB (by with_unfolding_all rfl) | omega | (simp only [go_sem, maxLen_eq]; omega)) only [go_sem, Nat.reduceAdd, Nat.reduceBEq, f_laws_markStrewS, c_laws_markStrewS, loop_at key]
end Go.Proofs.Ytkoljcjliihiiaa.VM

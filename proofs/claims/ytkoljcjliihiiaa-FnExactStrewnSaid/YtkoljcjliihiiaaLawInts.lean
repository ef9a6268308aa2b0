/- The laws' own functions over numbers: copies, likeness, marks. -/
import Derived.Test.YtkoljcjliihiiaaVmLst
import Derived.Test.YtkoljcjliihiiaaCode
namespace Go.Proofs.Ytkoljcjliihiiaa.VM
open Go Sy
def eInt (x : Int) : PV := .a (.int .i64 x)
theorem eInt_eq (x : Int) : eInt x = .a (.int .i64 x) := rfl
attribute [go_sem] eInt_eq
variable {Φ : Nat → Option Callee} {N : Nat}

theorem eqInt64S_loop (l : List Int) (hl : l.length < 9223372036854775807) (hN : l.length < N) (r : List It) :
    goP Φ N [0,1,5] c_laws_eqInt64S_L0 r ⟨[(0, .sz t_i64 (l.map eInt)), (1, .sz t_i64 (l.map eInt)), (5, .a (.int .i64 0))], [], 0⟩ =
    goE Φ N r 0 [(0, .sz t_i64 (l.map eInt)), (1, .sz t_i64 (l.map eInt)), (5, .a (.int .i64 l.length)), (14, .a (.bool false))] [] 400 := by
  refine loop_all (fun i => ⟨[(0, .sz t_i64 (l.map eInt)), (1, .sz t_i64 (l.map eInt)), (5, .a (.int .i64 (i : Nat)))], [], 0⟩) ⟨_, _, _⟩ hN (fun i hi => ?_) ?_
  · obtain ⟨a, ha⟩ : ∃ a, l[i]? = some a := ⟨_, List.getElem?_eq_getElem hi⟩
    have hw := wrap_succ i (by omega)
    unfold round c_laws_eqInt64S_L0
    simp (maxSteps := 3000000) (implicitDefEqProofs := false) (disch := first | assumption | exact ofR (by with_unfolding_all rfl) | exact ofB (by with_unfolding_all rfl) | omega | (simp only [go_sem, maxLen_eq]; omega)) only [go_sem, Nat.reduceAdd, Nat.reduceBEq, ha, hw]
    rfl
  · unfold round c_laws_eqInt64S_L0
    simp (maxSteps := 3000000) (implicitDefEqProofs := false) (disch := first | assumption | exact ofR (by with_unfolding_all rfl) | exact ofB (by with_unfolding_all rfl) | omega | (simp only [go_sem, maxLen_eq]; omega)) only [go_sem, Nat.reduceAdd, Nat.reduceBEq]

theorem run_eqInt64S (l : List Int) (hl : l.length < 9223372036854775807) (hN : l.length < N) : runFn Φ N f_laws_eqInt64S [.sl true t_i64 (l.map eInt), .sl true t_i64 (l.map eInt)] = some ([.a (.bool true)], []) := by
  rw [fn_run rfl]
  simp (maxSteps := 3000000) (implicitDefEqProofs := false) (disch := first | assumption | exact ofR (by with_unfolding_all rfl) | exact ofB (by with_unfolding_all rfl) | omega | (simp only [go_sem, maxLen_eq]; omega)) only [go_sem, Nat.reduceAdd, Nat.reduceBEq, f_laws_eqInt64S, c_laws_eqInt64S]
  rw [show norm _ _ = (⟨[(0, .sz t_i64 (l.map eInt)), (1, .sz t_i64 (l.map eInt)), (5, .a (.int .i64 0))], [], 0⟩ : St) from rfl, eqInt64S_loop l hl hN]
  simp (maxSteps := 3000000) (implicitDefEqProofs := false) (disch := first | assumption | exact ofR (by with_unfolding_all rfl) | exact ofB (by with_unfolding_all rfl) | omega | (simp only [go_sem, maxLen_eq]; omega)) only [go_sem, Nat.reduceAdd, Nat.reduceBEq]

/-- Marks: k, k + 1, .. -/
def marks (k : Int) (n : Nat) : List Int := (List.range n).map fun (i : Nat) => k + i

theorem markInt64S_loop (l : List Int) (k : Int) (h0 : 0 ≤ k) (hk : k + l.length ≤ 9223372036854775000) (hN : l.length < N) (r : List It) :
    goP Φ N [0,1,5,10000] c_laws_markInt64S_L0 r ⟨[(0, .rf 0), (1, .a (.int .i64 k)), (5, .a (.int .i64 0)), (10000, .rf 0)], [(0, some (.sl false 0 t_i64 (l.map eInt)))], 1⟩ =
    goE Φ N r 0 [(0, .rf 0), (1, .a (.int .i64 (k + l.length))), (5, .a (.int .i64 l.length)), (9, .a (.bool false)), (10000, .rf 0)] [(0, some (.sl false 0 t_i64 ((marks k l.length).map eInt)))] 401 := by
  have e0 : l.map eInt = updL (fun _ x => eInt x) (fun j _ => eInt (k + (j : Nat))) 0 l := by rw [updL_zero, mapIdx_const]
  have e1 : (marks k l.length).map eInt = updL (fun _ x => eInt x) (fun j _ => eInt (k + (j : Nat))) l.length l := by
    rw [updL_all]
    apply List.ext_getElem?
    intro j
    simp only [marks, List.map_map, List.getElem?_map, List.getElem?_mapIdx]
    by_cases h : j < l.length
    · simp [h]
    · simp [h]
  rw [e0, e1]
  have := loop_all (Φ := Φ) (N := N) (r := r) (live := [0,1,5,10000]) (b := c_laws_markInt64S_L0) (id := 0) (fun i => ⟨[(0, .rf 0), (1, .a (.int .i64 (k + (i : Nat)))), (5, .a (.int .i64 (i : Nat))), (10000, .rf 0)], [(0, some (.sl false 0 t_i64 (updL (fun _ x => eInt x) (fun j _ => eInt (k + (j : Nat))) i l)))], 1⟩)
    ⟨[(0, .rf 0), (1, .a (.int .i64 (k + l.length))), (5, .a (.int .i64 l.length)), (9, .a (.bool false)), (10000, .rf 0)], [(0, some (.sl false 0 t_i64 (updL (fun _ x => eInt x) (fun j _ => eInt (k + (j : Nat))) l.length l)))], 401⟩ hN (fun i hi => ?_) ?_
  · simpa using this
  · obtain ⟨a, ha⟩ : ∃ a, l[i]? = some a := ⟨_, List.getElem?_eq_getElem hi⟩
    have hw := wrap_succ i (by omega)
    have hk1 : IntKind.i64.wrap (k + (i : Int) + 1) = k + ((i + 1 : Nat) : Int) := by rw [wrap_i64] <;> omega
    have hg := updL_get (f := fun _ x => eInt x) (g := fun j _ => eInt (k + (j : Nat))) ha
    have hs := updL_set (f := fun _ x => eInt x) (g := fun j _ => eInt (k + (j : Nat))) ha
    simp only [eInt_eq] at hg hs
    unfold round c_laws_markInt64S_L0
    simp (maxSteps := 3000000) (implicitDefEqProofs := false) (disch := first | assumption | exact ofR (by with_unfolding_all rfl) | exact ofB (by with_unfolding_all rfl) | omega | (simp only [go_sem, maxLen_eq]; omega)) only [go_sem, Nat.reduceAdd, Nat.reduceBEq, hg, hs, hw, hk1]
    rfl
  · unfold round c_laws_markInt64S_L0
    simp (maxSteps := 3000000) (implicitDefEqProofs := false) (disch := first | assumption | exact ofR (by with_unfolding_all rfl) | exact ofB (by with_unfolding_all rfl) | omega | (simp only [go_sem, maxLen_eq]; omega)) only [go_sem, Nat.reduceAdd, Nat.reduceBEq]

theorem run_markInt64S (l : List Int) (k : Int) (h0 : 0 ≤ k) (hk : k + l.length ≤ 9223372036854775000) (hN : l.length < N) :
    runFn Φ N f_laws_markInt64S [.sl false t_i64 (l.map eInt), .a (.int .i64 k)] = some ([.a (.int .i64 (k + l.length))], [.sl false t_i64 ((marks k l.length).map eInt)]) := by
  rw [fn_run rfl]
  simp (maxSteps := 3000000) (implicitDefEqProofs := false) (disch := first | assumption | exact ofR (by with_unfolding_all rfl) | exact ofB (by with_unfolding_all rfl) | omega | (simp only [go_sem, maxLen_eq]; omega)) only [go_sem, Nat.reduceAdd, Nat.reduceBEq, f_laws_markInt64S, c_laws_markInt64S]
  rw [show norm _ _ = (⟨[(0, .rf 0), (1, .a (.int .i64 k)), (5, .a (.int .i64 0)), (10000, .rf 0)], [(0, some (.sl false 0 t_i64 (l.map eInt)))], 1⟩ : St) from rfl, markInt64S_loop l k h0 hk hN]
  simp (maxSteps := 3000000) (implicitDefEqProofs := false) (disch := first | assumption | exact ofR (by with_unfolding_all rfl) | exact ofB (by with_unfolding_all rfl) | omega | (simp only [go_sem, maxLen_eq]; omega)) only [go_sem, Nat.reduceAdd, Nat.reduceBEq]

theorem heldInt64S_loop (n : Nat) (k : Int) (h0 : 0 ≤ k) (hk : k + n ≤ 9223372036854775000) (hN : n < N) (r : List It) :
    goP Φ N [0,1,5] c_laws_heldInt64S_L0 r ⟨[(0, .sz t_i64 ((marks k n).map eInt)), (1, .a (.int .i64 k)), (5, .a (.int .i64 0))], [], 0⟩ =
    goE Φ N r 0 [(0, .sz t_i64 ((marks k n).map eInt)), (1, .a (.int .i64 (k + n))), (5, .a (.int .i64 n)), (9, .a (.bool false))] [] 400 := by
  have := loop_all (Φ := Φ) (N := N) (r := r) (live := [0,1,5]) (b := c_laws_heldInt64S_L0) (id := 0) (m := n) (fun i => ⟨[(0, .sz t_i64 ((marks k n).map eInt)), (1, .a (.int .i64 (k + (i : Nat)))), (5, .a (.int .i64 (i : Nat)))], [], 0⟩)
    ⟨[(0, .sz t_i64 ((marks k n).map eInt)), (1, .a (.int .i64 (k + n))), (5, .a (.int .i64 n)), (9, .a (.bool false))], [], 400⟩ hN (fun i hi => ?_) ?_
  · simpa using this
  · have ha : (marks k n)[i]? = some (k + i) := by simp [marks, hi]
    have hl : (marks k n).length = n := by simp [marks]
    have hw := wrap_succ i (by omega)
    have hk1 : IntKind.i64.wrap (k + (i : Int) + 1) = k + ((i + 1 : Nat) : Int) := by rw [wrap_i64] <;> omega
    unfold round c_laws_heldInt64S_L0
    simp (maxSteps := 3000000) (implicitDefEqProofs := false) (disch := first | assumption | exact ofR (by with_unfolding_all rfl) | exact ofB (by with_unfolding_all rfl) | omega | (simp only [go_sem, maxLen_eq]; omega)) only [go_sem, Nat.reduceAdd, Nat.reduceBEq, ha, hl, hw, hk1]
    rfl
  · have hl : (marks k n).length = n := by simp [marks]
    unfold round c_laws_heldInt64S_L0
    simp (maxSteps := 3000000) (implicitDefEqProofs := false) (disch := first | assumption | exact ofR (by with_unfolding_all rfl) | exact ofB (by with_unfolding_all rfl) | omega | (simp only [go_sem, maxLen_eq]; omega)) only [go_sem, Nat.reduceAdd, Nat.reduceBEq, hl]

theorem run_heldInt64S (n : Nat) (k : Int) (h0 : 0 ≤ k) (hk : k + n ≤ 9223372036854775000) (hN : n < N) :
    runFn Φ N f_laws_heldInt64S [.sl true t_i64 ((marks k n).map eInt), .a (.int .i64 k)] = some ([.a (.int .i64 (k + n))], []) := by
  rw [fn_run rfl]
  simp (maxSteps := 3000000) (implicitDefEqProofs := false) (disch := first | assumption | exact ofR (by with_unfolding_all rfl) | exact ofB (by with_unfolding_all rfl) | omega | (simp only [go_sem, maxLen_eq]; omega)) only [go_sem, Nat.reduceAdd, Nat.reduceBEq, f_laws_heldInt64S, c_laws_heldInt64S]
  rw [show norm _ _ = (⟨[(0, .sz t_i64 ((marks k n).map eInt)), (1, .a (.int .i64 k)), (5, .a (.int .i64 0))], [], 0⟩ : St) from rfl, heldInt64S_loop n k h0 hk hN]
  simp (maxSteps := 3000000) (implicitDefEqProofs := false) (disch := first | assumption | exact ofR (by with_unfolding_all rfl) | exact ofB (by with_unfolding_all rfl) | omega | (simp only [go_sem, maxLen_eq]; omega)) only [go_sem, Nat.reduceAdd, Nat.reduceBEq]
end Go.Proofs.Ytkoljcjliihiiaa.VM

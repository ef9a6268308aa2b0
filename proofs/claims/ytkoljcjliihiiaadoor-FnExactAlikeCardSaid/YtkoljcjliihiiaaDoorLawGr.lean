/- The laws' own functions over kinds and graphs: copies, sizes, likeness. -/
import Derived.Test.YtkoljcjliihiiaaDoorEqLaw
namespace Go.Proofs.YtkoljcjliihiiaaDoor.VM
open Go Sy
variable {Φ : Nat → Option Callee} {N : Nat}
abbrev zI : PV := .a (.int .i64 0)
abbrev zS : PV := .a (.string ⟨#[]⟩)
abbrev zObj : PV := .st [zI, .sl t_i64 []]

/-! ### copies -/
theorem toInt64S_loop (l : List Int) (hl : l.length ≤ 1048576) :
    loopE Φ fuel [0,3,4] c_laws_toInt64S_L0 ⟨[(0, .sz t_i64 (l.map eInt)), (3, .rf 0), (4, .a (.int .i64 0))], [(0, some (.sl false 0 t_i64 (List.replicate l.length zI)))], 1⟩ =
    some (.ext 0, ⟨[(0, .sz t_i64 (l.map eInt)), (3, .rf 0), (4, .a (.int .i64 l.length)), (11, .a (.bool false))], [(0, some (.sl false 0 t_i64 (l.map eInt)))], 401⟩) := by
  rw [← updR_zero (g := eInt)]
  refine loopE_all (fun i => ⟨[(0, .sz t_i64 (l.map eInt)), (3, .rf 0), (4, .a (.int .i64 (i : Nat)))], [(0, some (.sl false 0 t_i64 (updR zI eInt i l)))], 1⟩) _ (m := l.length) (lt_fuel (by omega)) (fun i hi => ?_) ?_
  · obtain ⟨a, ha⟩ : ∃ a, l[i]? = some a := ⟨_, List.getElem?_eq_getElem hi⟩
    have hg := updR_get (z := zI) (g := eInt) ha
    have hs := updR_set (z := zI) (g := eInt) ha
    have hw := wrap_succ i (by omega)
    rw [eInt_eq] at hs
    unfold round c_laws_toInt64S_L0
    simp (maxSteps := 3000000) (implicitDefEqProofs := false) (disch := first | assumption | (refine ofR ?_; show norm _ _ = _; kernel_rfl) | exact ofR (by with_unfolding_all rfl) | exact ofB (by with_unfolding_all rfl) | omega | (simp only [go_sem, maxLen_eq]; omega)) only [go_sem, Nat.reduceAdd, Nat.reduceBEq, ha, hg, hs, hw]
    rfl
  · unfold round c_laws_toInt64S_L0
    simp (maxSteps := 3000000) (implicitDefEqProofs := false) (disch := first | assumption | (refine ofR ?_; show norm _ _ = _; kernel_rfl) | exact ofR (by with_unfolding_all rfl) | exact ofB (by with_unfolding_all rfl) | omega | (simp only [go_sem, maxLen_eq]; omega)) only [go_sem, Nat.reduceAdd, Nat.reduceBEq, updR_all]
theorem run_toInt64S (l : List Int) (hl : l.length ≤ 1048576) : runFn Φ fuel f_laws_toInt64S [.sl true t_i64 (l.map eInt)] = some ([.sl false t_i64 (l.map eInt)], []) := by
  have key := toInt64S_loop (Φ := Φ) l hl
  rw [fn_run rfl]
  simp (maxSteps := 3000000) (implicitDefEqProofs := false) (disch := first | assumption | (refine ofR ?_; show norm _ _ = _; kernel_rfl) | exact ofR (by with_unfolding_all rfl) | exact ofB (by with_unfolding_all rfl) | omega | (simp only [go_sem, maxLen_eq]; omega)) only [go_sem, Nat.reduceAdd, Nat.reduceBEq, f_laws_toInt64S, c_laws_toInt64S, loop_at key]
theorem toStringS_loop (l : List ByteArray) (hl : l.length ≤ 1048576) :
    loopE Φ fuel [0,3,4] c_laws_toStringS_L0 ⟨[(0, .sz t_string (l.map eStr)), (3, .rf 0), (4, .a (.int .i64 0))], [(0, some (.sl false 0 t_string (List.replicate l.length zS)))], 1⟩ =
    some (.ext 0, ⟨[(0, .sz t_string (l.map eStr)), (3, .rf 0), (4, .a (.int .i64 l.length)), (11, .a (.bool false))], [(0, some (.sl false 0 t_string (l.map eStr)))], 401⟩) := by
  rw [← updR_zero (g := eStr)]
  refine loopE_all (fun i => ⟨[(0, .sz t_string (l.map eStr)), (3, .rf 0), (4, .a (.int .i64 (i : Nat)))], [(0, some (.sl false 0 t_string (updR zS eStr i l)))], 1⟩) _ (m := l.length) (lt_fuel (by omega)) (fun i hi => ?_) ?_
  · obtain ⟨a, ha⟩ : ∃ a, l[i]? = some a := ⟨_, List.getElem?_eq_getElem hi⟩
    have hg := updR_get (z := zS) (g := eStr) ha
    have hs := updR_set (z := zS) (g := eStr) ha
    have hw := wrap_succ i (by omega)
    rw [eStr_eq] at hs
    unfold round c_laws_toStringS_L0
    simp (maxSteps := 3000000) (implicitDefEqProofs := false) (disch := first | assumption | (refine ofR ?_; show norm _ _ = _; kernel_rfl) | exact ofR (by with_unfolding_all rfl) | exact ofB (by with_unfolding_all rfl) | omega | (simp only [go_sem, maxLen_eq]; omega)) only [go_sem, Nat.reduceAdd, Nat.reduceBEq, ha, hg, hs, hw]
    rfl
  · unfold round c_laws_toStringS_L0
    simp (maxSteps := 3000000) (implicitDefEqProofs := false) (disch := first | assumption | (refine ofR ?_; show norm _ _ = _; kernel_rfl) | exact ofR (by with_unfolding_all rfl) | exact ofB (by with_unfolding_all rfl) | omega | (simp only [go_sem, maxLen_eq]; omega)) only [go_sem, Nat.reduceAdd, Nat.reduceBEq, updR_all]
theorem run_toStringS (l : List ByteArray) (hl : l.length ≤ 1048576) : runFn Φ fuel f_laws_toStringS [.sl true t_string (l.map eStr)] = some ([.sl false t_string (l.map eStr)], []) := by
  have key := toStringS_loop (Φ := Φ) l hl
  rw [fn_run rfl]
  simp (maxSteps := 3000000) (implicitDefEqProofs := false) (disch := first | assumption | (refine ofR ?_; show norm _ _ = _; kernel_rfl) | exact ofR (by with_unfolding_all rfl) | exact ofB (by with_unfolding_all rfl) | omega | (simp only [go_sem, maxLen_eq]; omega)) only [go_sem, Nat.reduceAdd, Nat.reduceBEq, f_laws_toStringS, c_laws_toStringS, loop_at key]
theorem run_toObj {d : Nat} (o : Obj') (hl : o.vals.length ≤ 1048576) : runFn (T (d + 1)) fuel f_laws_toObj [cObj true o] = some ([cObj false o], []) := by
  have h := run_toInt64S (Φ := T d) o.vals hl
  rw [fn_run rfl]
  simp (maxSteps := 3000000) (implicitDefEqProofs := false) (disch := first | assumption | (refine ofR ?_; show norm _ _ = _; kernel_rfl) | exact ofR (by with_unfolding_all rfl) | exact ofB (by with_unfolding_all rfl) | omega | (simp only [go_sem, maxLen_eq]; omega)) only [go_sem, Nat.reduceAdd, Nat.reduceBEq, f_laws_toObj, c_laws_toObj, h]
theorem toObjS_loop {d : Nat} (l : List Obj') (hl : l.length ≤ 1048576) (hk : ∀ x ∈ l, x.vals.length ≤ 1048576) :
    loopE (T (d + 2)) fuel [0,3,4] c_laws_toObjS_L0 ⟨[(0, .sz t_laws_Obj (l.map eObj)), (3, .rf 0), (4, .a (.int .i64 0))], [(0, some (.sl false 0 t_impl_Obj (List.replicate l.length zObj)))], 1⟩ =
    some (.ext 0, ⟨[(0, .sz t_laws_Obj (l.map eObj)), (3, .rf 0), (4, .a (.int .i64 l.length)), (11, .a (.bool false))], [(0, some (.sl false 0 t_impl_Obj (l.map eObj)))], 401⟩) := by
  rw [← updR_zero (g := eObj)]
  refine loopE_all (fun i => ⟨[(0, .sz t_laws_Obj (l.map eObj)), (3, .rf 0), (4, .a (.int .i64 (i : Nat)))], [(0, some (.sl false 0 t_impl_Obj (updR zObj eObj i l)))], 1⟩) _ (m := l.length) (lt_fuel (by omega)) (fun i hi => ?_) ?_
  · obtain ⟨a, ha⟩ : ∃ a, l[i]? = some a := ⟨_, List.getElem?_eq_getElem hi⟩
    have hg := updR_get (z := zObj) (g := eObj) ha
    have hs := updR_set (z := zObj) (g := eObj) ha
    rw [eObj_eq] at hs
    have hc := run_toObj (d := d) a (hk a (List.mem_of_getElem? ha))
    have hw := wrap_succ i (by omega)
    unfold round c_laws_toObjS_L0
    simp (maxSteps := 3000000) (implicitDefEqProofs := false) (disch := first | assumption | (refine ofR ?_; show norm _ _ = _; kernel_rfl) | exact ofR (by with_unfolding_all rfl) | exact ofB (by with_unfolding_all rfl) | omega | (simp only [go_sem, maxLen_eq]; omega)) only [go_sem, Nat.reduceAdd, Nat.reduceBEq, ha, hg, hs, hw, hc]
    rfl
  · unfold round c_laws_toObjS_L0
    simp (maxSteps := 3000000) (implicitDefEqProofs := false) (disch := first | assumption | (refine ofR ?_; show norm _ _ = _; kernel_rfl) | exact ofR (by with_unfolding_all rfl) | exact ofB (by with_unfolding_all rfl) | omega | (simp only [go_sem, maxLen_eq]; omega)) only [go_sem, Nat.reduceAdd, Nat.reduceBEq, updR_all]
theorem run_toObjS {d : Nat} (l : List Obj') (hl : l.length ≤ 1048576) (hk : ∀ x ∈ l, x.vals.length ≤ 1048576) : runFn (T (d + 2)) fuel f_laws_toObjS [.sl true t_laws_Obj (l.map eObj)] = some ([.sl false t_impl_Obj (l.map eObj)], []) := by
  have key := toObjS_loop (d := d) l hl hk
  rw [fn_run rfl]
  simp (maxSteps := 3000000) (implicitDefEqProofs := false) (disch := first | assumption | (refine ofR ?_; show norm _ _ = _; kernel_rfl) | exact ofR (by with_unfolding_all rfl) | exact ofB (by with_unfolding_all rfl) | omega | (simp only [go_sem, maxLen_eq]; omega)) only [go_sem, Nat.reduceAdd, Nat.reduceBEq, f_laws_toObjS, c_laws_toObjS, loop_at key]
/-- A graph as the statements hand it over. -/
abbrev cGrL (g : Gr) : CV := .st [.sl true t_i64 (g.roots.map eInt), .sl true t_laws_Obj (g.nodes.map eObj)]
theorem run_toGraph {d : Nat} (g : Gr) (hr : g.roots.length ≤ 1048576) (hn : g.nodes.length ≤ 1048576) (hv : ∀ o ∈ g.nodes, o.vals.length ≤ 1048576) : runFn (T (d + 3)) fuel f_laws_toGraph [cGrL g] = some ([cGr false g], []) := by
  have h1 := run_toInt64S (Φ := T (d + 2)) g.roots hr
  have h2 := run_toObjS (d := d) g.nodes hn hv
  rw [fn_run rfl]
  simp (maxSteps := 3000000) (implicitDefEqProofs := false) (disch := first | assumption | (refine ofR ?_; show norm _ _ = _; kernel_rfl) | exact ofR (by with_unfolding_all rfl) | exact ofB (by with_unfolding_all rfl) | omega | (simp only [go_sem, maxLen_eq]; omega)) only [go_sem, Nat.reduceAdd, Nat.reduceBEq, f_laws_toGraph, c_laws_toGraph, h1, h2]

/-! ### sizes -/
def tsum : List ByteArray → Nat
  | [] => 0
  | s :: l => s.size + tsum l
theorem tsum_append (l m : List ByteArray) : tsum (l ++ m) = tsum l + tsum m := by
  induction l with
  | nil => simp [tsum]
  | cons x l ih => simp [tsum, ih]; omega
theorem tsum_take {l : List ByteArray} {i : Nat} {x : ByteArray} (h : l[i]? = some x) : tsum (l.take (i + 1)) = tsum (l.take i) + x.size := by
  rw [List.take_add_one, h, tsum_append]; simp [tsum]
theorem tsum_le {l : List ByteArray} {i : Nat} {x : ByteArray} (h : l[i]? = some x) : tsum (l.take i) + x.size ≤ tsum l := by
  rw [← tsum_take h]
  conv => rhs; rw [← List.take_append_drop (i + 1) l]
  rw [tsum_append]; omega
theorem size_le {l : List ByteArray} {x : ByteArray} (h : x ∈ l) : x.size ≤ tsum l := by
  obtain ⟨i, hi, rfl⟩ := List.mem_iff_getElem.1 h
  have := tsum_le (List.getElem?_eq_getElem hi)
  omega
def vsum : List Obj' → Nat
  | [] => 0
  | x :: l => x.vals.length + vsum l
theorem vsum_append (l m : List Obj') : vsum (l ++ m) = vsum l + vsum m := by
  induction l with
  | nil => simp [vsum]
  | cons x l ih => simp [vsum, ih]; omega
theorem vsum_take {l : List Obj'} {i : Nat} {x : Obj'} (h : l[i]? = some x) : vsum (l.take (i + 1)) = vsum (l.take i) + x.vals.length := by
  rw [List.take_add_one, h, vsum_append]; simp [vsum]
theorem vsum_le {l : List Obj'} {i : Nat} {x : Obj'} (h : l[i]? = some x) : vsum (l.take i) + x.vals.length ≤ vsum l := by
  rw [← vsum_take h]
  conv => rhs; rw [← List.take_append_drop (i + 1) l]
  rw [vsum_append]; omega
theorem vals_le {l : List Obj'} {x : Obj'} (h : x ∈ l) : x.vals.length ≤ vsum l := by
  obtain ⟨i, hi, rfl⟩ := List.mem_iff_getElem.1 h
  have := vsum_le (List.getElem?_eq_getElem hi)
  omega
theorem szStringS_loop (l : List ByteArray) (k : Int) (h0 : 0 ≤ k) (h1 : k ≤ 1048576) (hl : l.length ≤ 1048576) (hk : ∀ x ∈ l, x.size < 9223372036854000000) :
    loopE Φ fuel [0,1,5] c_laws_szStringS_L0 ⟨[(0, .sz t_string (l.map eStr)), (1, .a (.int .i64 k)), (5, .a (.int .i64 0))], [], 0⟩ =
    some (if k - tsum l < 0 then (.ret, ⟨[(4, .a (.int .i64 (-1)))], [], 1500⟩) else (.ext 0, ⟨[(0, .sz t_string (l.map eStr)), (1, .a (.int .i64 (k - tsum l))), (5, .a (.int .i64 l.length)), (15, .a (.bool false))], [], 400⟩)) := by
  have := loopE_while (Φ := Φ) (N := fuel) (live := [0,1,5]) (b := c_laws_szStringS_L0) (fun i => ⟨[(0, .sz t_string (l.map eStr)), (1, .a (.int .i64 (k - (tsum (l.take i) : Nat)))), (5, .a (.int .i64 (i : Nat)))], [], 0⟩)
    (if k - tsum l < 0 then (.ret, ⟨[(4, .a (.int .i64 (-1)))], [], 1500⟩) else (.ext 0, ⟨[(0, .sz t_string (l.map eStr)), (1, .a (.int .i64 (k - tsum l))), (5, .a (.int .i64 l.length)), (15, .a (.bool false))], [], 400⟩))
    (fun i => 0 ≤ k - (tsum (l.take i) : Nat)) (m := l.length) (lt_fuel (by omega)) (by simp [tsum]; exact h0) (by split <;> simp) (fun i hi hp => ?_)
  · simpa [tsum] using this
  by_cases hi' : i < l.length
  · obtain ⟨x, hx⟩ : ∃ a, l[i]? = some a := ⟨_, List.getElem?_eq_getElem hi'⟩
    have ht := tsum_take hx
    have hle := tsum_le hx
    have hw := wrap_succ i (by omega)
    have hxs := hk x (List.mem_of_getElem? hx)
    have he : k - (tsum (l.take i) : Nat) - (x.size : Nat) = k - (tsum (l.take (i + 1)) : Nat) := by rw [ht]; omega
    have hww : IntKind.i64.wrap (k - (tsum (l.take i) : Nat) - (x.size : Nat)) = k - (tsum (l.take (i + 1)) : Nat) := by rw [← he, wrap_i64] <;> omega
    clear he
    by_cases hn : k - (tsum (l.take (i + 1)) : Nat) < 0
    · right
      rw [if_pos (by omega)]
      unfold round c_laws_szStringS_L0
      simp (maxSteps := 3000000) (implicitDefEqProofs := false) (disch := first | assumption | (refine ofR ?_; show norm _ _ = _; kernel_rfl) | exact ofR (by with_unfolding_all rfl) | exact ofB (by with_unfolding_all rfl) | omega | (simp only [go_sem, maxLen_eq]; omega)) only [go_sem, Nat.reduceAdd, Nat.reduceBEq, hx, hww, hw, hn]
    · left
      refine ⟨hi', ?_, by omega⟩
      unfold round c_laws_szStringS_L0
      simp (maxSteps := 3000000) (implicitDefEqProofs := false) (disch := first | assumption | (refine ofR ?_; show norm _ _ = _; kernel_rfl) | exact ofR (by with_unfolding_all rfl) | exact ofB (by with_unfolding_all rfl) | omega | (simp only [go_sem, maxLen_eq]; omega)) only [go_sem, Nat.reduceAdd, Nat.reduceBEq, hx, hww, hw, hn]
      rfl
  · right
    obtain rfl : i = l.length := by omega
    rw [List.take_length] at hp ⊢
    rw [if_neg (by omega)]
    unfold round c_laws_szStringS_L0
    simp (maxSteps := 3000000) (implicitDefEqProofs := false) (disch := first | assumption | (refine ofR ?_; show norm _ _ = _; kernel_rfl) | exact ofR (by with_unfolding_all rfl) | exact ofB (by with_unfolding_all rfl) | omega | (simp only [go_sem, maxLen_eq]; omega)) only [go_sem, Nat.reduceAdd, Nat.reduceBEq]
theorem run_szStringS (l : List ByteArray) (k : Int) (h0 : 0 ≤ k) (h1 : k ≤ 1048576) (hl : l.length < 9223372036854000000) (hk : ∀ x ∈ l, x.size < 9223372036854000000) :
    runFn Φ fuel f_laws_szStringS [.sl true t_string (l.map eStr), .a (.int .i64 k)] = some ([.a (.int .i64 (if k - l.length - tsum l < 0 then -1 else k - l.length - tsum l))], []) := by
  have hw : IntKind.i64.wrap (k - (l.length : Int)) = k - l.length := by rw [wrap_i64] <;> omega
  rw [fn_run rfl]
  by_cases hn : k - (l.length : Int) < 0
  · have hn' : k - (l.length : Int) - tsum l < 0 := by omega
    rw [if_pos hn']
    simp (maxSteps := 3000000) (implicitDefEqProofs := false) (disch := first | assumption | (refine ofR ?_; show norm _ _ = _; kernel_rfl) | exact ofR (by with_unfolding_all rfl) | exact ofB (by with_unfolding_all rfl) | omega | (simp only [go_sem, maxLen_eq]; omega)) only [go_sem, Nat.reduceAdd, Nat.reduceBEq, f_laws_szStringS, c_laws_szStringS, hw]
  · have key := szStringS_loop (Φ := Φ) l (k - l.length) (by omega) (by omega) (by omega) hk
    by_cases hn' : k - (l.length : Int) - tsum l < 0
    · rw [if_pos hn'] at key ⊢
      simp (maxSteps := 3000000) (implicitDefEqProofs := false) (disch := first | assumption | (refine ofR ?_; show norm _ _ = _; kernel_rfl) | exact ofR (by with_unfolding_all rfl) | exact ofB (by with_unfolding_all rfl) | omega | (simp only [go_sem, maxLen_eq]; omega)) only [go_sem, Nat.reduceAdd, Nat.reduceBEq, f_laws_szStringS, c_laws_szStringS, hw, loop_rt key]
    · rw [if_neg hn'] at key ⊢
      simp (maxSteps := 3000000) (implicitDefEqProofs := false) (disch := first | assumption | (refine ofR ?_; show norm _ _ = _; kernel_rfl) | exact ofR (by with_unfolding_all rfl) | exact ofB (by with_unfolding_all rfl) | omega | (simp only [go_sem, maxLen_eq]; omega)) only [go_sem, Nat.reduceAdd, Nat.reduceBEq, f_laws_szStringS, c_laws_szStringS, hw, loop_at key]
theorem run_szInt64S (l : List Int) (k : Int) (h0 : 0 ≤ k) (h1 : k ≤ 1048576) (hl : l.length < 9223372036854000000) : runFn Φ N f_laws_szInt64S [.sl true t_i64 (l.map eInt), .a (.int .i64 k)] = some ([.a (.int .i64 (if k - l.length < 0 then -1 else k - l.length))], []) := by
  have hw : IntKind.i64.wrap (k - (l.length : Int)) = k - l.length := by rw [wrap_i64] <;> omega
  rw [fn_run rfl]
  by_cases h : k - (l.length : Int) < 0
  · simp (maxSteps := 3000000) (implicitDefEqProofs := false) (disch := first | assumption | (refine ofR ?_; show norm _ _ = _; kernel_rfl) | exact ofR (by with_unfolding_all rfl) | exact ofB (by with_unfolding_all rfl) | omega | (simp only [go_sem, maxLen_eq]; omega)) only [go_sem, Nat.reduceAdd, Nat.reduceBEq, f_laws_szInt64S, c_laws_szInt64S, hw, h]
  · simp (maxSteps := 3000000) (implicitDefEqProofs := false) (disch := first | assumption | (refine ofR ?_; show norm _ _ = _; kernel_rfl) | exact ofR (by with_unfolding_all rfl) | exact ofB (by with_unfolding_all rfl) | omega | (simp only [go_sem, maxLen_eq]; omega)) only [go_sem, Nat.reduceAdd, Nat.reduceBEq, f_laws_szInt64S, c_laws_szInt64S, hw, h]
theorem run_szObj {d : Nat} (x : Obj') (k : Int) (h0 : 0 ≤ k) (h1 : k ≤ 1048576) (hl : x.vals.length < 9223372036854000000) : runFn (T (d + 1)) fuel f_laws_szObj [cObj true x, .a (.int .i64 k)] =
    some ([.a (.int .i64 (if k - x.vals.length < 0 then -1 else k - x.vals.length))], []) := by
  have h := run_szInt64S (Φ := T d) (N := fuel) x.vals k h0 h1 hl
  rw [fn_run rfl]
  by_cases hk : k - (x.vals.length : Int) < 0
  · rw [if_pos hk] at h ⊢
    simp (maxSteps := 3000000) (implicitDefEqProofs := false) (disch := first | assumption | (refine ofR ?_; show norm _ _ = _; kernel_rfl) | exact ofR (by with_unfolding_all rfl) | exact ofB (by with_unfolding_all rfl) | omega | (simp only [go_sem, maxLen_eq]; omega)) only [go_sem, Nat.reduceAdd, Nat.reduceBEq, f_laws_szObj, c_laws_szObj, h]
  · rw [if_neg hk] at h ⊢
    simp (maxSteps := 3000000) (implicitDefEqProofs := false) (disch := first | assumption | (refine ofR ?_; show norm _ _ = _; kernel_rfl) | exact ofR (by with_unfolding_all rfl) | exact ofB (by with_unfolding_all rfl) | omega | (simp only [go_sem, maxLen_eq]; omega)) only [go_sem, Nat.reduceAdd, Nat.reduceBEq, f_laws_szObj, c_laws_szObj, h]
theorem szObjS_loop {d : Nat} (l : List Obj') (k : Int) (h0 : 0 ≤ k) (h1 : k ≤ 1048576) (hl : l.length ≤ 1048576) (hk : ∀ x ∈ l, x.vals.length < 9223372036854000000) :
    loopE (T (d + 2)) fuel [0,1,5] c_laws_szObjS_L0 ⟨[(0, .sz t_laws_Obj (l.map eObj)), (1, .a (.int .i64 k)), (5, .a (.int .i64 0))], [], 0⟩ =
    some (if k - vsum l < 0 then (.ret, ⟨[(4, .a (.int .i64 (-1)))], [], 1400⟩) else (.ext 0, ⟨[(0, .sz t_laws_Obj (l.map eObj)), (1, .a (.int .i64 (k - vsum l))), (5, .a (.int .i64 l.length)), (15, .a (.bool false))], [], 400⟩)) := by
  have := loopE_while (Φ := T (d + 2)) (N := fuel) (live := [0,1,5]) (b := c_laws_szObjS_L0) (fun i => ⟨[(0, .sz t_laws_Obj (l.map eObj)), (1, .a (.int .i64 (k - (vsum (l.take i) : Nat)))), (5, .a (.int .i64 (i : Nat)))], [], 0⟩)
    (if k - vsum l < 0 then (.ret, ⟨[(4, .a (.int .i64 (-1)))], [], 1400⟩) else (.ext 0, ⟨[(0, .sz t_laws_Obj (l.map eObj)), (1, .a (.int .i64 (k - vsum l))), (5, .a (.int .i64 l.length)), (15, .a (.bool false))], [], 400⟩))
    (fun i => 0 ≤ k - (vsum (l.take i) : Nat)) (m := l.length) (lt_fuel (by omega)) (by simp [vsum]; exact h0) (by split <;> simp) (fun i hi hp => ?_)
  · simpa [vsum] using this
  by_cases hi' : i < l.length
  · obtain ⟨x, hx⟩ : ∃ a, l[i]? = some a := ⟨_, List.getElem?_eq_getElem hi'⟩
    have ht := vsum_take hx
    have hle := vsum_le hx
    have hw := wrap_succ i (by omega)
    have hc := run_szObj (d := d) x (k - (vsum (l.take i) : Nat)) hp (by omega) (hk x (List.mem_of_getElem? hx))
    have he : k - (vsum (l.take i) : Nat) - (x.vals.length : Nat) = k - (vsum (l.take (i + 1)) : Nat) := by rw [ht]; omega
    rw [he] at hc
    by_cases hn : k - (vsum (l.take (i + 1)) : Nat) < 0
    · right
      rw [if_pos hn] at hc
      rw [if_pos (by omega)]
      unfold round c_laws_szObjS_L0
      simp (maxSteps := 3000000) (implicitDefEqProofs := false) (disch := first | assumption | (refine ofR ?_; show norm _ _ = _; kernel_rfl) | exact ofR (by with_unfolding_all rfl) | exact ofB (by with_unfolding_all rfl) | omega | (simp only [go_sem, maxLen_eq]; omega)) only [go_sem, Nat.reduceAdd, Nat.reduceBEq, hx, hc, hw]
    · left
      rw [if_neg hn] at hc
      refine ⟨hi', ?_, by omega⟩
      unfold round c_laws_szObjS_L0
      simp (maxSteps := 3000000) (implicitDefEqProofs := false) (disch := first | assumption | (refine ofR ?_; show norm _ _ = _; kernel_rfl) | exact ofR (by with_unfolding_all rfl) | exact ofB (by with_unfolding_all rfl) | omega | (simp only [go_sem, maxLen_eq]; omega)) only [go_sem, Nat.reduceAdd, Nat.reduceBEq, hx, hc, hw]
      rfl
  · right
    obtain rfl : i = l.length := by omega
    rw [List.take_length] at hp ⊢
    rw [if_neg (by omega)]
    unfold round c_laws_szObjS_L0
    simp (maxSteps := 3000000) (implicitDefEqProofs := false) (disch := first | assumption | (refine ofR ?_; show norm _ _ = _; kernel_rfl) | exact ofR (by with_unfolding_all rfl) | exact ofB (by with_unfolding_all rfl) | omega | (simp only [go_sem, maxLen_eq]; omega)) only [go_sem, Nat.reduceAdd, Nat.reduceBEq]
theorem run_szObjS {d : Nat} (l : List Obj') (k : Int) (h0 : 0 ≤ k) (h1 : k ≤ 1048576) (hl : l.length < 9223372036854000000) (hk : ∀ x ∈ l, x.vals.length < 9223372036854000000) :
    runFn (T (d + 2)) fuel f_laws_szObjS [.sl true t_laws_Obj (l.map eObj), .a (.int .i64 k)] = some ([.a (.int .i64 (if k - l.length - vsum l < 0 then -1 else k - l.length - vsum l))], []) := by
  have hw : IntKind.i64.wrap (k - (l.length : Int)) = k - l.length := by rw [wrap_i64] <;> omega
  rw [fn_run rfl]
  by_cases hn : k - (l.length : Int) < 0
  · have hn' : k - (l.length : Int) - vsum l < 0 := by omega
    rw [if_pos hn']
    simp (maxSteps := 3000000) (implicitDefEqProofs := false) (disch := first | assumption | (refine ofR ?_; show norm _ _ = _; kernel_rfl) | exact ofR (by with_unfolding_all rfl) | exact ofB (by with_unfolding_all rfl) | omega | (simp only [go_sem, maxLen_eq]; omega)) only [go_sem, Nat.reduceAdd, Nat.reduceBEq, f_laws_szObjS, c_laws_szObjS, hw]
  · have key := szObjS_loop (d := d) l (k - l.length) (by omega) (by omega) (by omega) hk
    by_cases hn' : k - (l.length : Int) - vsum l < 0
    · rw [if_pos hn'] at key ⊢
      simp (maxSteps := 3000000) (implicitDefEqProofs := false) (disch := first | assumption | (refine ofR ?_; show norm _ _ = _; kernel_rfl) | exact ofR (by with_unfolding_all rfl) | exact ofB (by with_unfolding_all rfl) | omega | (simp only [go_sem, maxLen_eq]; omega)) only [go_sem, Nat.reduceAdd, Nat.reduceBEq, f_laws_szObjS, c_laws_szObjS, hw, loop_rt key]
    · rw [if_neg hn'] at key ⊢
      simp (maxSteps := 3000000) (implicitDefEqProofs := false) (disch := first | assumption | (refine ofR ?_; show norm _ _ = _; kernel_rfl) | exact ofR (by with_unfolding_all rfl) | exact ofB (by with_unfolding_all rfl) | omega | (simp only [go_sem, maxLen_eq]; omega)) only [go_sem, Nat.reduceAdd, Nat.reduceBEq, f_laws_szObjS, c_laws_szObjS, hw, loop_at key]
/-- The size of a graph. -/
def gsum (g : Gr) : Nat := g.roots.length + g.nodes.length + vsum g.nodes
theorem run_szGraph {d : Nat} (g : Gr) (k : Int) (h0 : 0 ≤ k) (h1 : k ≤ 1048576) (hr : g.roots.length < 9223372036854000000) (hl : g.nodes.length < 9223372036854000000) (hk : ∀ x ∈ g.nodes, x.vals.length < 9223372036854000000) :
    runFn (T (d + 3)) fuel f_laws_szGraph [cGrL g, .a (.int .i64 k)] = some ([.a (.int .i64 (if k - gsum g < 0 then -1 else k - gsum g))], []) := by
  have g1 := run_szInt64S (Φ := T (d + 2)) (N := fuel) g.roots k h0 h1 hr
  rw [fn_run rfl]
  unfold gsum
  by_cases c1 : k - (g.roots.length : Int) < 0
  · rw [if_pos c1] at g1
    rw [if_pos (by omega)]
    simp (maxSteps := 3000000) (implicitDefEqProofs := false) (disch := first | assumption | (refine ofR ?_; show norm _ _ = _; kernel_rfl) | exact ofR (by with_unfolding_all rfl) | exact ofB (by with_unfolding_all rfl) | omega | (simp only [go_sem, maxLen_eq]; omega)) only [go_sem, Nat.reduceAdd, Nat.reduceBEq, f_laws_szGraph, c_laws_szGraph, g1]
  · rw [if_neg c1] at g1
    have g2 := run_szObjS (d := d) g.nodes (k - g.roots.length) (by omega) (by omega) hl hk
    have e : k - ((g.roots.length + g.nodes.length + vsum g.nodes : Nat) : Int) = k - g.roots.length - g.nodes.length - vsum g.nodes := by omega
    rw [e]
    by_cases c2 : k - (g.roots.length : Int) - g.nodes.length - vsum g.nodes < 0
    · rw [if_pos c2] at g2 ⊢
      simp (maxSteps := 3000000) (implicitDefEqProofs := false) (disch := first | assumption | (refine ofR ?_; show norm _ _ = _; kernel_rfl) | exact ofR (by with_unfolding_all rfl) | exact ofB (by with_unfolding_all rfl) | omega | (simp only [go_sem, maxLen_eq]; omega)) only [go_sem, Nat.reduceAdd, Nat.reduceBEq, f_laws_szGraph, c_laws_szGraph, g1, g2]
    · rw [if_neg c2] at g2 ⊢
      simp (maxSteps := 3000000) (implicitDefEqProofs := false) (disch := first | assumption | (refine ofR ?_; show norm _ _ = _; kernel_rfl) | exact ofR (by with_unfolding_all rfl) | exact ofB (by with_unfolding_all rfl) | omega | (simp only [go_sem, maxLen_eq]; omega)) only [go_sem, Nat.reduceAdd, Nat.reduceBEq, f_laws_szGraph, c_laws_szGraph, g1, g2]

/-! ### likeness -/
theorem eqInt64S_loop (l : List Int) (hl : l.length ≤ 1048576) :
    loopE Φ fuel [0,1,5] c_laws_eqInt64S_L0 ⟨[(0, .sz t_i64 (l.map eInt)), (1, .sz t_i64 (l.map eInt)), (5, .a (.int .i64 0))], [], 0⟩ =
    some (.ext 0, ⟨[(0, .sz t_i64 (l.map eInt)), (1, .sz t_i64 (l.map eInt)), (5, .a (.int .i64 l.length)), (14, .a (.bool false))], [], 400⟩) := by
  refine loopE_all (fun i => ⟨[(0, .sz t_i64 (l.map eInt)), (1, .sz t_i64 (l.map eInt)), (5, .a (.int .i64 (i : Nat)))], [], 0⟩) _ (m := l.length) (lt_fuel (by omega)) (fun i hi => ?_) ?_
  · obtain ⟨a, ha⟩ : ∃ a, l[i]? = some a := ⟨_, List.getElem?_eq_getElem hi⟩
    have hw := wrap_succ i (by omega)
    unfold round c_laws_eqInt64S_L0
    simp (maxSteps := 3000000) (implicitDefEqProofs := false) (disch := first | assumption | (refine ofR ?_; show norm _ _ = _; kernel_rfl) | exact ofR (by with_unfolding_all rfl) | exact ofB (by with_unfolding_all rfl) | omega | (simp only [go_sem, maxLen_eq]; omega)) only [go_sem, Nat.reduceAdd, Nat.reduceBEq, ha, hw]
    rfl
  · unfold round c_laws_eqInt64S_L0
    simp (maxSteps := 3000000) (implicitDefEqProofs := false) (disch := first | assumption | (refine ofR ?_; show norm _ _ = _; kernel_rfl) | exact ofR (by with_unfolding_all rfl) | exact ofB (by with_unfolding_all rfl) | omega | (simp only [go_sem, maxLen_eq]; omega)) only [go_sem, Nat.reduceAdd, Nat.reduceBEq]
theorem run_eqInt64S (l : List Int) (hl : l.length ≤ 1048576) : runFn Φ fuel f_laws_eqInt64S [.sl true t_i64 (l.map eInt), .sl true t_i64 (l.map eInt)] = some ([.a (.bool true)], []) := by
  have key := eqInt64S_loop (Φ := Φ) l hl
  rw [fn_run rfl]
  simp (maxSteps := 3000000) (implicitDefEqProofs := false) (disch := first | assumption | (refine ofR ?_; show norm _ _ = _; kernel_rfl) | exact ofR (by with_unfolding_all rfl) | exact ofB (by with_unfolding_all rfl) | omega | (simp only [go_sem, maxLen_eq]; omega)) only [go_sem, Nat.reduceAdd, Nat.reduceBEq, f_laws_eqInt64S, c_laws_eqInt64S, loop_at key]
theorem eqStringS_loop (l : List ByteArray) (hl : l.length ≤ 1048576) :
    loopE Φ fuel [0,1,5] c_laws_eqStringS_L0 ⟨[(0, .sz t_string (l.map eStr)), (1, .sz t_string (l.map eStr)), (5, .a (.int .i64 0))], [], 0⟩ =
    some (.ext 0, ⟨[(0, .sz t_string (l.map eStr)), (1, .sz t_string (l.map eStr)), (5, .a (.int .i64 l.length)), (14, .a (.bool false))], [], 400⟩) := by
  refine loopE_all (fun i => ⟨[(0, .sz t_string (l.map eStr)), (1, .sz t_string (l.map eStr)), (5, .a (.int .i64 (i : Nat)))], [], 0⟩) _ (m := l.length) (lt_fuel (by omega)) (fun i hi => ?_) ?_
  · obtain ⟨a, ha⟩ : ∃ a, l[i]? = some a := ⟨_, List.getElem?_eq_getElem hi⟩
    have hw := wrap_succ i (by omega)
    unfold round c_laws_eqStringS_L0
    have hne : decide (a ≠ a) = false := decide_eq_false fun h => h rfl
    simp (maxSteps := 3000000) (implicitDefEqProofs := false) (disch := first | assumption | (refine ofR ?_; show norm _ _ = _; kernel_rfl) | exact ofR (by with_unfolding_all rfl) | exact ofB (by with_unfolding_all rfl) | omega | (simp only [go_sem, maxLen_eq]; omega)) only [go_sem, Nat.reduceAdd, Nat.reduceBEq, ha, hw, hne]
    rfl
  · unfold round c_laws_eqStringS_L0
    simp (maxSteps := 3000000) (implicitDefEqProofs := false) (disch := first | assumption | (refine ofR ?_; show norm _ _ = _; kernel_rfl) | exact ofR (by with_unfolding_all rfl) | exact ofB (by with_unfolding_all rfl) | omega | (simp only [go_sem, maxLen_eq]; omega)) only [go_sem, Nat.reduceAdd, Nat.reduceBEq]
theorem run_eqStringS (l : List ByteArray) (hl : l.length ≤ 1048576) : runFn Φ fuel f_laws_eqStringS [.sl true t_string (l.map eStr), .sl true t_string (l.map eStr)] = some ([.a (.bool true)], []) := by
  have key := eqStringS_loop (Φ := Φ) l hl
  rw [fn_run rfl]
  simp (maxSteps := 3000000) (implicitDefEqProofs := false) (disch := first | assumption | (refine ofR ?_; show norm _ _ = _; kernel_rfl) | exact ofR (by with_unfolding_all rfl) | exact ofB (by with_unfolding_all rfl) | omega | (simp only [go_sem, maxLen_eq]; omega)) only [go_sem, Nat.reduceAdd, Nat.reduceBEq, f_laws_eqStringS, c_laws_eqStringS, loop_at key]
theorem run_eqObj {d : Nat} (x : Obj') (hl : x.vals.length ≤ 1048576) : runFn (T (d + 1)) fuel f_laws_eqObj [cObj true x, cObj true x] = some ([.a (.bool true)], []) := by
  have h := run_eqInt64S (Φ := T d) x.vals hl
  rw [fn_run rfl]
  simp (maxSteps := 3000000) (implicitDefEqProofs := false) (disch := first | assumption | (refine ofR ?_; show norm _ _ = _; kernel_rfl) | exact ofR (by with_unfolding_all rfl) | exact ofB (by with_unfolding_all rfl) | omega | (simp only [go_sem, maxLen_eq]; omega)) only [go_sem, Nat.reduceAdd, Nat.reduceBEq, f_laws_eqObj, c_laws_eqObj, h]
theorem eqObjS_loop {d : Nat} (l : List Obj') (hl : l.length ≤ 1048576) (hk : ∀ x ∈ l, x.vals.length ≤ 1048576) :
    loopE (T (d + 2)) fuel [0,1,5] c_laws_eqObjS_L0 ⟨[(0, .sz t_impl_Obj (l.map eObj)), (1, .sz t_impl_Obj (l.map eObj)), (5, .a (.int .i64 0))], [], 0⟩ =
    some (.ext 0, ⟨[(0, .sz t_impl_Obj (l.map eObj)), (1, .sz t_impl_Obj (l.map eObj)), (5, .a (.int .i64 l.length)), (14, .a (.bool false))], [], 400⟩) := by
  refine loopE_all (fun i => ⟨[(0, .sz t_impl_Obj (l.map eObj)), (1, .sz t_impl_Obj (l.map eObj)), (5, .a (.int .i64 (i : Nat)))], [], 0⟩) _ (m := l.length) (lt_fuel (by omega)) (fun i hi => ?_) ?_
  · obtain ⟨a, ha⟩ : ∃ a, l[i]? = some a := ⟨_, List.getElem?_eq_getElem hi⟩
    have hc := run_eqObj (d := d) a (hk a (List.mem_of_getElem? ha))
    have hw := wrap_succ i (by omega)
    unfold round c_laws_eqObjS_L0
    simp (maxSteps := 3000000) (implicitDefEqProofs := false) (disch := first | assumption | (refine ofR ?_; show norm _ _ = _; kernel_rfl) | exact ofR (by with_unfolding_all rfl) | exact ofB (by with_unfolding_all rfl) | omega | (simp only [go_sem, maxLen_eq]; omega)) only [go_sem, Nat.reduceAdd, Nat.reduceBEq, ha, hc, hw]
    rfl
  · unfold round c_laws_eqObjS_L0
    simp (maxSteps := 3000000) (implicitDefEqProofs := false) (disch := first | assumption | (refine ofR ?_; show norm _ _ = _; kernel_rfl) | exact ofR (by with_unfolding_all rfl) | exact ofB (by with_unfolding_all rfl) | omega | (simp only [go_sem, maxLen_eq]; omega)) only [go_sem, Nat.reduceAdd, Nat.reduceBEq]
theorem run_eqObjS {d : Nat} (l : List Obj') (hl : l.length ≤ 1048576) (hk : ∀ x ∈ l, x.vals.length ≤ 1048576) : runFn (T (d + 2)) fuel f_laws_eqObjS [.sl true t_impl_Obj (l.map eObj), .sl true t_impl_Obj (l.map eObj)] = some ([.a (.bool true)], []) := by
  have key := eqObjS_loop (d := d) l hl hk
  rw [fn_run rfl]
  simp (maxSteps := 3000000) (implicitDefEqProofs := false) (disch := first | assumption | (refine ofR ?_; show norm _ _ = _; kernel_rfl) | exact ofR (by with_unfolding_all rfl) | exact ofB (by with_unfolding_all rfl) | omega | (simp only [go_sem, maxLen_eq]; omega)) only [go_sem, Nat.reduceAdd, Nat.reduceBEq, f_laws_eqObjS, c_laws_eqObjS, loop_at key]
theorem run_eqGraph {d : Nat} (g : Gr) (hr : g.roots.length ≤ 1048576) (hn : g.nodes.length ≤ 1048576) (hv : ∀ o ∈ g.nodes, o.vals.length ≤ 1048576) : runFn (T (d + 3)) fuel f_laws_eqGraph [cGr true g, cGr true g] = some ([.a (.bool true)], []) := by
  have h1 := run_eqInt64S (Φ := T (d + 2)) g.roots hr
  have h2 := run_eqObjS (d := d) g.nodes hn hv
  rw [fn_run rfl]
  simp (maxSteps := 3000000) (implicitDefEqProofs := false) (disch := first | assumption | (refine ofR ?_; show norm _ _ = _; kernel_rfl) | exact ofR (by with_unfolding_all rfl) | exact ofB (by with_unfolding_all rfl) | omega | (simp only [go_sem, maxLen_eq]; omega)) only [go_sem, Nat.reduceAdd, Nat.reduceBEq, f_laws_eqGraph, c_laws_eqGraph, h1, h2]
end Go.Proofs.YtkoljcjliihiiaaDoor.VM

/- The laws' own functions over acts: copies, sizes, likeness. -/
import Derived.Test.YtkoljcjliihiiaaLawDeny
namespace Go.Proofs.Ytkoljcjliihiiaa.VM
open Go Sy
variable {Φ : Nat → Option Callee} {N : Nat}

/-! ### lists that are changed from their beginning on -/
section
variable {α : Type}
def mix (M l : List α) (i : Nat) : List α := M.take i ++ l.drop i
theorem mix_zero {M l : List α} : mix M l 0 = l := by simp [mix]
theorem mix_all {M l : List α} {n : Nat} (h : M.length = l.length) (hn : n = l.length) : mix M l n = M := by subst hn; simp [mix, ← h]
theorem mix_length {M l : List α} {i : Nat} (h : M.length = l.length) : (mix M l i).length = l.length := by simp [mix]; omega
theorem mix_get {M l : List α} {i : Nat} {x : α} (h : M.length = l.length) (hx : l[i]? = some x) : (mix M l i)[i]? = some x := by
  have hi := (List.getElem?_eq_some_iff.1 hx).1
  have : (M.take i).length = i := by rw [List.length_take]; omega
  rw [mix, List.getElem?_append_right (by omega), this, Nat.sub_self, List.getElem?_drop]
  simpa using hx
theorem mix_set {M l : List α} {i : Nat} {y : α} (h : M.length = l.length) (hy : M[i]? = some y) : (mix M l i).set i y = mix M l (i + 1) := by
  have hi := (List.getElem?_eq_some_iff.1 hy).1
  have h1 : (M.take i).length = i := by rw [List.length_take]; omega
  unfold mix
  rw [List.set_append_right _ _ (by omega), h1, Nat.sub_self, List.take_add_one, hy, List.append_assoc]
  congr 1
  rw [List.drop_eq_getElem_cons (by omega)]
  rfl
end

/-! ### whole numbers -/
theorem cpy_ints (l : List Int) : (l.map eInt).map PV.cpy = l.map eInt := by rw [List.map_map]; rfl
abbrev zI : PV := .a (.int .i64 0)
theorem toInt64S_loop (l : List Int) (hl : l.length ≤ 1048576) (hN : l.length < N) :
    loopE Φ N [0,3,4] c_laws_toInt64S_L0 ⟨[(0, .sz t_i64 (l.map eInt)), (3, .rf 0), (4, .a (.int .i64 0))], [(0, some (.sl false 0 t_i64 (List.replicate l.length zI)))], 1⟩ =
    some (.ext 0, ⟨[(0, .sz t_i64 (l.map eInt)), (3, .rf 0), (4, .a (.int .i64 l.length)), (11, .a (.bool false))], [(0, some (.sl false 0 t_i64 (l.map eInt)))], 401⟩) := by
  rw [← updR_zero (g := eInt)]
  refine loopE_all (fun i => ⟨[(0, .sz t_i64 (l.map eInt)), (3, .rf 0), (4, .a (.int .i64 (i : Nat)))], [(0, some (.sl false 0 t_i64 (updR zI eInt i l)))], 1⟩) _ (m := l.length) hN (fun i hi => ?_) ?_
  · obtain ⟨a, ha⟩ : ∃ a, l[i]? = some a := ⟨_, List.getElem?_eq_getElem hi⟩
    have hg := updR_get (z := zI) (g := eInt) ha
    have hs := updR_set (z := zI) (g := eInt) ha
    have hw := wrap_succ i (by omega)
    rw [eInt_eq] at hs
    unfold round c_laws_toInt64S_L0
    simp (maxSteps := 3000000) (implicitDefEqProofs := false) (disch := first | assumption | exact ofR (by with_unfolding_all rfl) | exact ofB (by with_unfolding_all rfl) | omega | (simp only [go_sem, maxLen_eq]; omega)) only [go_sem, Nat.reduceAdd, Nat.reduceBEq, ha, hg, hs, hw]
    rfl
  · unfold round c_laws_toInt64S_L0
    simp (maxSteps := 3000000) (implicitDefEqProofs := false) (disch := first | assumption | exact ofR (by with_unfolding_all rfl) | exact ofB (by with_unfolding_all rfl) | omega | (simp only [go_sem, maxLen_eq]; omega)) only [go_sem, Nat.reduceAdd, Nat.reduceBEq, updR_all]

theorem run_toInt64S (l : List Int) (hl : l.length ≤ 1048576) (hN : l.length < N) : runFn Φ N f_laws_toInt64S [.sl true t_i64 (l.map eInt)] = some ([.sl false t_i64 (l.map eInt)], []) := by
  have key := toInt64S_loop (Φ := Φ) l hl hN
  rw [fn_run rfl]
  simp (maxSteps := 3000000) (implicitDefEqProofs := false) (disch := first | assumption | exact ofR (by with_unfolding_all rfl) | exact ofB (by with_unfolding_all rfl) | omega | (simp only [go_sem, maxLen_eq]; omega)) only [go_sem, Nat.reduceAdd, Nat.reduceBEq, f_laws_toInt64S, c_laws_toInt64S, loop_at key]

theorem run_szInt64S (l : List Int) (k : Int) (h0 : 0 ≤ k) (h1 : k ≤ 1048576) (hl : l.length < 9223372036854000000) : runFn Φ N f_laws_szInt64S [.sl true t_i64 (l.map eInt), .a (.int .i64 k)] = some ([.a (.int .i64 (if k - l.length < 0 then -1 else k - l.length))], []) := by
  have hw : IntKind.i64.wrap (k - (l.length : Int)) = k - l.length := by rw [wrap_i64] <;> omega
  rw [fn_run rfl]
  by_cases h : k - (l.length : Int) < 0
  · simp (maxSteps := 3000000) (implicitDefEqProofs := false) (disch := first | assumption | exact ofR (by with_unfolding_all rfl) | exact ofB (by with_unfolding_all rfl) | omega | (simp only [go_sem, maxLen_eq]; omega)) only [go_sem, Nat.reduceAdd, Nat.reduceBEq, f_laws_szInt64S, c_laws_szInt64S, hw, h]
  · simp (maxSteps := 3000000) (implicitDefEqProofs := false) (disch := first | assumption | exact ofR (by with_unfolding_all rfl) | exact ofB (by with_unfolding_all rfl) | omega | (simp only [go_sem, maxLen_eq]; omega)) only [go_sem, Nat.reduceAdd, Nat.reduceBEq, f_laws_szInt64S, c_laws_szInt64S, hw, h]

/-! ### acts -/
structure Act' where
  kind : Int
  a : Int
  b : Int
  c : Int
  power : Int
  keep : List Int
def eAct (x : Act') : PV := .st [eInt x.kind, eInt x.a, eInt x.b, eInt x.c, eInt x.power, .sl t_i64 (x.keep.map eInt)]
theorem eAct_eq (x : Act') : eAct x = .st [.a (.int .i64 x.kind), .a (.int .i64 x.a), .a (.int .i64 x.b), .a (.int .i64 x.c), .a (.int .i64 x.power), .sl t_i64 (x.keep.map eInt)] := rfl
attribute [go_sem] eAct_eq
abbrev zAct : PV := .st [zI, zI, zI, zI, zI, .sl t_i64 []]
/-- An act as it is handed over. -/
abbrev cAct (z : Bool) (x : Act') : CV := .st [.a (.int .i64 x.kind), .a (.int .i64 x.a), .a (.int .i64 x.b), .a (.int .i64 x.c), .a (.int .i64 x.power), .sl z t_i64 (x.keep.map eInt)]
/-- How many numbers are kept. -/
def ksum : List Act' → Nat
  | [] => 0
  | x :: l => x.keep.length + ksum l
theorem ksum_append (l m : List Act') : ksum (l ++ m) = ksum l + ksum m := by
  induction l with
  | nil => simp [ksum]
  | cons x l ih => simp [ksum, ih]; omega
theorem ksum_take {l : List Act'} {i : Nat} {x : Act'} (h : l[i]? = some x) : ksum (l.take (i + 1)) = ksum (l.take i) + x.keep.length := by
  rw [List.take_add_one, h, ksum_append]; simp [ksum]
theorem ksum_le {l : List Act'} {i : Nat} {x : Act'} (h : l[i]? = some x) : ksum (l.take i) + x.keep.length ≤ ksum l := by
  rw [← ksum_take h]
  conv => rhs; rw [← List.take_append_drop (i + 1) l]
  rw [ksum_append]; omega
theorem keep_le {l : List Act'} {x : Act'} (h : x ∈ l) : x.keep.length ≤ ksum l := by
  obtain ⟨i, hi, rfl⟩ := List.mem_iff_getElem.1 h
  have := ksum_le (List.getElem?_eq_getElem hi)
  omega

theorem run_toAct {d : Nat} (x : Act') (hl : x.keep.length ≤ 1048576) : runFn (T (d + 1)) fuel f_laws_toAct [cAct true x] = some ([cAct false x], []) := by
  have h := run_toInt64S (Φ := T d) (N := fuel) x.keep hl (lt_fuel (by omega))
  rw [fn_run rfl]
  simp (maxSteps := 3000000) (implicitDefEqProofs := false) (disch := first | assumption | exact ofR (by with_unfolding_all rfl) | exact ofB (by with_unfolding_all rfl) | omega | (simp only [go_sem, maxLen_eq]; omega)) only [go_sem, Nat.reduceAdd, Nat.reduceBEq, f_laws_toAct, c_laws_toAct, h]

theorem toActS_loop {d : Nat} (l : List Act') (hl : l.length ≤ 1048576) (hk : ∀ x ∈ l, x.keep.length ≤ 1048576) :
    loopE (T (d + 2)) fuel [0,3,4] c_laws_toActS_L0 ⟨[(0, .sz t_laws_Act (l.map eAct)), (3, .rf 0), (4, .a (.int .i64 0))], [(0, some (.sl false 0 t_impl_Act (List.replicate l.length zAct)))], 1⟩ =
    some (.ext 0, ⟨[(0, .sz t_laws_Act (l.map eAct)), (3, .rf 0), (4, .a (.int .i64 l.length)), (11, .a (.bool false))], [(0, some (.sl false 0 t_impl_Act (l.map eAct)))], 401⟩) := by
  rw [← updR_zero (g := eAct)]
  refine loopE_all (fun i => ⟨[(0, .sz t_laws_Act (l.map eAct)), (3, .rf 0), (4, .a (.int .i64 (i : Nat)))], [(0, some (.sl false 0 t_impl_Act (updR zAct eAct i l)))], 1⟩) _ (m := l.length) (lt_fuel (by omega)) (fun i hi => ?_) ?_
  · obtain ⟨a, ha⟩ : ∃ a, l[i]? = some a := ⟨_, List.getElem?_eq_getElem hi⟩
    have hg := updR_get (z := zAct) (g := eAct) ha
    have hs := updR_set (z := zAct) (g := eAct) ha
    rw [eAct_eq] at hs
    have hc := run_toAct (d := d) a (hk a (List.mem_of_getElem? ha))
    have hw := wrap_succ i (by omega)
    unfold round c_laws_toActS_L0
    simp (maxSteps := 3000000) (implicitDefEqProofs := false) (disch := first | assumption | exact ofR (by with_unfolding_all rfl) | exact ofB (by with_unfolding_all rfl) | omega | (simp only [go_sem, maxLen_eq]; omega)) only [go_sem, Nat.reduceAdd, Nat.reduceBEq, ha, hg, hs, hw, hc]
    rfl
  · unfold round c_laws_toActS_L0
    simp (maxSteps := 3000000) (implicitDefEqProofs := false) (disch := first | assumption | exact ofR (by with_unfolding_all rfl) | exact ofB (by with_unfolding_all rfl) | omega | (simp only [go_sem, maxLen_eq]; omega)) only [go_sem, Nat.reduceAdd, Nat.reduceBEq, updR_all]

theorem run_toActS {d : Nat} (l : List Act') (hl : l.length ≤ 1048576) (hk : ∀ x ∈ l, x.keep.length ≤ 1048576) : runFn (T (d + 2)) fuel f_laws_toActS [.sl true t_laws_Act (l.map eAct)] = some ([.sl false t_impl_Act (l.map eAct)], []) := by
  have key := toActS_loop (d := d) l hl hk
  rw [fn_run rfl]
  simp (maxSteps := 3000000) (implicitDefEqProofs := false) (disch := first | assumption | exact ofR (by with_unfolding_all rfl) | exact ofB (by with_unfolding_all rfl) | omega | (simp only [go_sem, maxLen_eq]; omega)) only [go_sem, Nat.reduceAdd, Nat.reduceBEq, f_laws_toActS, c_laws_toActS, loop_at key]

theorem run_szAct {d : Nat} (x : Act') (k : Int) (h0 : 0 ≤ k) (h1 : k ≤ 1048576) (hl : x.keep.length < 9223372036854000000) : runFn (T (d + 1)) fuel f_laws_szAct [cAct true x, .a (.int .i64 k)] =
    some ([.a (.int .i64 (if k - x.keep.length < 0 then -1 else k - x.keep.length))], []) := by
  have h := run_szInt64S (Φ := T d) (N := fuel) x.keep k h0 h1 hl
  rw [fn_run rfl]
  by_cases hk : k - (x.keep.length : Int) < 0
  · rw [if_pos hk] at h ⊢
    simp (maxSteps := 3000000) (implicitDefEqProofs := false) (disch := first | assumption | exact ofR (by with_unfolding_all rfl) | exact ofB (by with_unfolding_all rfl) | omega | (simp only [go_sem, maxLen_eq]; omega)) only [go_sem, Nat.reduceAdd, Nat.reduceBEq, f_laws_szAct, c_laws_szAct, h]
  · rw [if_neg hk] at h ⊢
    simp (maxSteps := 3000000) (implicitDefEqProofs := false) (disch := first | assumption | exact ofR (by with_unfolding_all rfl) | exact ofB (by with_unfolding_all rfl) | omega | (simp only [go_sem, maxLen_eq]; omega)) only [go_sem, Nat.reduceAdd, Nat.reduceBEq, f_laws_szAct, c_laws_szAct, h]

theorem szActS_loop {d : Nat} (l : List Act') (k : Int) (h0 : 0 ≤ k) (h1 : k ≤ 1048576) (hl : l.length ≤ 1048576) (hk : ∀ x ∈ l, x.keep.length < 9223372036854000000) :
    loopE (T (d + 2)) fuel [0,1,5] c_laws_szActS_L0 ⟨[(0, .sz t_laws_Act (l.map eAct)), (1, .a (.int .i64 k)), (5, .a (.int .i64 0))], [], 0⟩ =
    some (if k - ksum l < 0 then (.ret, ⟨[(4, .a (.int .i64 (-1)))], [], 1400⟩) else (.ext 0, ⟨[(0, .sz t_laws_Act (l.map eAct)), (1, .a (.int .i64 (k - ksum l))), (5, .a (.int .i64 l.length)), (15, .a (.bool false))], [], 400⟩)) := by
  have := loopE_while (Φ := T (d + 2)) (N := fuel) (live := [0,1,5]) (b := c_laws_szActS_L0) (fun i => ⟨[(0, .sz t_laws_Act (l.map eAct)), (1, .a (.int .i64 (k - (ksum (l.take i) : Nat)))), (5, .a (.int .i64 (i : Nat)))], [], 0⟩)
    (if k - ksum l < 0 then (.ret, ⟨[(4, .a (.int .i64 (-1)))], [], 1400⟩) else (.ext 0, ⟨[(0, .sz t_laws_Act (l.map eAct)), (1, .a (.int .i64 (k - ksum l))), (5, .a (.int .i64 l.length)), (15, .a (.bool false))], [], 400⟩))
    (fun i => 0 ≤ k - (ksum (l.take i) : Nat)) (m := l.length) (lt_fuel (by omega)) (by simp [ksum]; exact h0) (by split <;> simp) (fun i hi hp => ?_)
  · simpa [ksum] using this
  by_cases hi' : i < l.length
  · obtain ⟨x, hx⟩ : ∃ a, l[i]? = some a := ⟨_, List.getElem?_eq_getElem hi'⟩
    have ht := ksum_take hx
    have hle := ksum_le hx
    have hw := wrap_succ i (by omega)
    have hc := run_szAct (d := d) x (k - (ksum (l.take i) : Nat)) hp (by omega) (hk x (List.mem_of_getElem? hx))
    have he : k - (ksum (l.take i) : Nat) - (x.keep.length : Nat) = k - (ksum (l.take (i + 1)) : Nat) := by rw [ht]; omega
    rw [he] at hc
    by_cases hn : k - (ksum (l.take (i + 1)) : Nat) < 0
    · right
      rw [if_pos hn] at hc
      rw [if_pos (by omega)]
      unfold round c_laws_szActS_L0
      simp (maxSteps := 3000000) (implicitDefEqProofs := false) (disch := first | assumption | exact ofR (by with_unfolding_all rfl) | exact ofB (by with_unfolding_all rfl) | omega | (simp only [go_sem, maxLen_eq]; omega)) only [go_sem, Nat.reduceAdd, Nat.reduceBEq, hx, hc, hw]
    · left
      rw [if_neg hn] at hc
      refine ⟨hi', ?_, by omega⟩
      unfold round c_laws_szActS_L0
      simp (maxSteps := 3000000) (implicitDefEqProofs := false) (disch := first | assumption | exact ofR (by with_unfolding_all rfl) | exact ofB (by with_unfolding_all rfl) | omega | (simp only [go_sem, maxLen_eq]; omega)) only [go_sem, Nat.reduceAdd, Nat.reduceBEq, hx, hc, hw]
      rfl
  · right
    obtain rfl : i = l.length := by omega
    rw [List.take_length] at hp ⊢
    rw [if_neg (by omega)]
    unfold round c_laws_szActS_L0
    simp (maxSteps := 3000000) (implicitDefEqProofs := false) (disch := first | assumption | exact ofR (by with_unfolding_all rfl) | exact ofB (by with_unfolding_all rfl) | omega | (simp only [go_sem, maxLen_eq]; omega)) only [go_sem, Nat.reduceAdd, Nat.reduceBEq]

theorem run_szActS {d : Nat} (l : List Act') (k : Int) (h0 : 0 ≤ k) (h1 : k ≤ 1048576) (hl : l.length < 9223372036854000000) (hk : ∀ x ∈ l, x.keep.length < 9223372036854000000) :
    runFn (T (d + 2)) fuel f_laws_szActS [.sl true t_laws_Act (l.map eAct), .a (.int .i64 k)] = some ([.a (.int .i64 (if k - l.length - ksum l < 0 then -1 else k - l.length - ksum l))], []) := by
  have hw : IntKind.i64.wrap (k - (l.length : Int)) = k - l.length := by rw [wrap_i64] <;> omega
  rw [fn_run rfl]
  by_cases hn : k - (l.length : Int) < 0
  · have hn' : k - (l.length : Int) - ksum l < 0 := by omega
    rw [if_pos hn']
    simp (maxSteps := 3000000) (implicitDefEqProofs := false) (disch := first | assumption | exact ofR (by with_unfolding_all rfl) | exact ofB (by with_unfolding_all rfl) | omega | (simp only [go_sem, maxLen_eq]; omega)) only [go_sem, Nat.reduceAdd, Nat.reduceBEq, f_laws_szActS, c_laws_szActS, hw]
  · have key := szActS_loop (d := d) l (k - l.length) (by omega) (by omega) (by omega) hk
    by_cases hn' : k - (l.length : Int) - ksum l < 0
    · rw [if_pos hn'] at key ⊢
      simp (maxSteps := 3000000) (implicitDefEqProofs := false) (disch := first | assumption | exact ofR (by with_unfolding_all rfl) | exact ofB (by with_unfolding_all rfl) | omega | (simp only [go_sem, maxLen_eq]; omega)) only [go_sem, Nat.reduceAdd, Nat.reduceBEq, f_laws_szActS, c_laws_szActS, hw, loop_rt key]
    · rw [if_neg hn'] at key ⊢
      simp (maxSteps := 3000000) (implicitDefEqProofs := false) (disch := first | assumption | exact ofR (by with_unfolding_all rfl) | exact ofB (by with_unfolding_all rfl) | omega | (simp only [go_sem, maxLen_eq]; omega)) only [go_sem, Nat.reduceAdd, Nat.reduceBEq, f_laws_szActS, c_laws_szActS, hw, loop_at key]

theorem run_eqAct {d : Nat} (x : Act') (hl : x.keep.length ≤ 1048576) : runFn (T (d + 1)) fuel f_laws_eqAct [cAct true x, cAct true x] = some ([.a (.bool true)], []) := by
  have h := run_eqInt64S (Φ := T d) (N := fuel) x.keep (by omega) (lt_fuel (by omega))
  rw [fn_run rfl]
  simp (maxSteps := 3000000) (implicitDefEqProofs := false) (disch := first | assumption | exact ofR (by with_unfolding_all rfl) | exact ofB (by with_unfolding_all rfl) | omega | (simp only [go_sem, maxLen_eq]; omega)) only [go_sem, Nat.reduceAdd, Nat.reduceBEq, f_laws_eqAct, c_laws_eqAct, h]

theorem eqActS_loop {d : Nat} (l : List Act') (hl : l.length ≤ 1048576) (hk : ∀ x ∈ l, x.keep.length ≤ 1048576) :
    loopE (T (d + 2)) fuel [0,1,5] c_laws_eqActS_L0 ⟨[(0, .sz t_impl_Act (l.map eAct)), (1, .sz t_impl_Act (l.map eAct)), (5, .a (.int .i64 0))], [], 0⟩ =
    some (.ext 0, ⟨[(0, .sz t_impl_Act (l.map eAct)), (1, .sz t_impl_Act (l.map eAct)), (5, .a (.int .i64 l.length)), (14, .a (.bool false))], [], 400⟩) := by
  refine loopE_all (fun i => ⟨[(0, .sz t_impl_Act (l.map eAct)), (1, .sz t_impl_Act (l.map eAct)), (5, .a (.int .i64 (i : Nat)))], [], 0⟩) _ (m := l.length) (lt_fuel (by omega)) (fun i hi => ?_) ?_
  · obtain ⟨a, ha⟩ : ∃ a, l[i]? = some a := ⟨_, List.getElem?_eq_getElem hi⟩
    have hc := run_eqAct (d := d) a (hk a (List.mem_of_getElem? ha))
    have hw := wrap_succ i (by omega)
    unfold round c_laws_eqActS_L0
    simp (maxSteps := 3000000) (implicitDefEqProofs := false) (disch := first | assumption | exact ofR (by with_unfolding_all rfl) | exact ofB (by with_unfolding_all rfl) | omega | (simp only [go_sem, maxLen_eq]; omega)) only [go_sem, Nat.reduceAdd, Nat.reduceBEq, ha, hc, hw]
    rfl
  · unfold round c_laws_eqActS_L0
    simp (maxSteps := 3000000) (implicitDefEqProofs := false) (disch := first | assumption | exact ofR (by with_unfolding_all rfl) | exact ofB (by with_unfolding_all rfl) | omega | (simp only [go_sem, maxLen_eq]; omega)) only [go_sem, Nat.reduceAdd, Nat.reduceBEq]

theorem run_eqActS {d : Nat} (l : List Act') (hl : l.length ≤ 1048576) (hk : ∀ x ∈ l, x.keep.length ≤ 1048576) : runFn (T (d + 2)) fuel f_laws_eqActS [.sl true t_impl_Act (l.map eAct), .sl true t_impl_Act (l.map eAct)] = some ([.a (.bool true)], []) := by
  have key := eqActS_loop (d := d) l hl hk
  rw [fn_run rfl]
  simp (maxSteps := 3000000) (implicitDefEqProofs := false) (disch := first | assumption | exact ofR (by with_unfolding_all rfl) | exact ofB (by with_unfolding_all rfl) | omega | (simp only [go_sem, maxLen_eq]; omega)) only [go_sem, Nat.reduceAdd, Nat.reduceBEq, f_laws_eqActS, c_laws_eqActS, loop_at key]
end Go.Proofs.Ytkoljcjliihiiaa.VM

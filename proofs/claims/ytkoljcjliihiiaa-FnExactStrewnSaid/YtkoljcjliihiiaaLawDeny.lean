/- DenyOf: what the program and the reference make of answers; and the law that compares them. -/
import Derived.Test.YtkoljcjliihiiaaLawInts
namespace Go.Proofs.Ytkoljcjliihiiaa.VM
open Go Sy
structure Ans where
  code : Int
  n : Int
def eAns (a : Ans) : PV := .st [eInt a.code, eInt a.n]
theorem eAns_eq (a : Ans) : eAns a = .st [.a (.int .i64 a.code), .a (.int .i64 a.n)] := rfl
attribute [go_sem] eAns_eq
variable {Φ : Nat → Option Callee} {N : Nat}

/-! the program's -/
def deny (a : Ans) : Int := if a.code = 10 then 10 else if a.code = 11 then 11 else if a.code = 12 then 12 else 0
def S10 (l : List Ans) (out : Nat → List Int) (i : Nat) : St := ⟨[(3, .rf 0), (11, .sz t_impl_Answer (l.map eAns)), (12, .a (.int .i64 l.length)), (13, .a (.int .i64 i))], [(0, some (.sl false 0 t_i64 ((out i).map eInt)))], 1⟩

theorem DenyOf_loop (l : List Ans) (hl : l.length ≤ 60) (hN : 60 < N) (r : List It) : goP Φ N [3,11,12,13] c_impl_DenyOf_L0 r (S10 l (fun i => (l.take i).map deny) 0) =
    goE Φ N r 0 [(3, .rf 0), (11, .sz t_impl_Answer (l.map eAns)), (12, .a (.int .i64 l.length)), (13, .a (.int .i64 l.length)), (14, .a (.bool false))] [(0, some (.sl false 0 t_i64 ((l.map deny).map eInt)))] 101 := by
  refine loop_all (S10 l fun i => (l.take i).map deny) ⟨_, _, _⟩ (m := l.length) (by omega) (fun i hi => ?_) ?_
  · obtain ⟨a, ha⟩ : ∃ a, l[i]? = some a := ⟨_, List.getElem?_eq_getElem hi⟩
    have e1 : (l.take (i + 1)).map deny = (l.take i).map deny ++ [deny a] := by rw [List.take_add_one, ha]; simp
    have hw := wrap_succ i (by omega)
    have hle : ((l.take i).map deny).length ≤ 60 := by simp; omega
    unfold round S10
    simp only [e1]
    generalize (l.take i).map deny = out at *
    clear e1
    unfold c_impl_DenyOf_L0
    by_cases c1 : a.code = 10
    · simp (maxSteps := 3000000) (implicitDefEqProofs := false) (disch := first | assumption | exact ofR (by with_unfolding_all rfl) | exact ofB (by with_unfolding_all rfl) | omega | (simp only [go_sem, maxLen_eq]; omega)) only [go_sem, Nat.reduceAdd, Nat.reduceBEq, ha, hw, c1, deny]
      rfl
    · by_cases c2 : a.code = 11
      · simp (maxSteps := 3000000) (implicitDefEqProofs := false) (disch := first | assumption | exact ofR (by with_unfolding_all rfl) | exact ofB (by with_unfolding_all rfl) | omega | (simp only [go_sem, maxLen_eq]; omega)) only [go_sem, Nat.reduceAdd, Nat.reduceBEq, ha, hw, c2, deny]
        rfl
      · by_cases c3 : a.code = 12
        · simp (maxSteps := 3000000) (implicitDefEqProofs := false) (disch := first | assumption | exact ofR (by with_unfolding_all rfl) | exact ofB (by with_unfolding_all rfl) | omega | (simp only [go_sem, maxLen_eq]; omega)) only [go_sem, Nat.reduceAdd, Nat.reduceBEq, ha, hw, c3, deny]
          rfl
        · simp (maxSteps := 3000000) (implicitDefEqProofs := false) (disch := first | assumption | exact ofR (by with_unfolding_all rfl) | exact ofB (by with_unfolding_all rfl) | omega | (simp only [go_sem, maxLen_eq]; omega)) only [go_sem, Nat.reduceAdd, Nat.reduceBEq, ha, hw, c1, c2, c3, deny]
          rfl
  · unfold round S10 c_impl_DenyOf_L0
    simp (maxSteps := 3000000) (implicitDefEqProofs := false) (disch := first | assumption | exact ofR (by with_unfolding_all rfl) | exact ofB (by with_unfolding_all rfl) | omega | (simp only [go_sem, maxLen_eq]; omega)) only [go_sem, Nat.reduceAdd, Nat.reduceBEq, List.take_length]

theorem run_impl_DenyOf (l : List Ans) (hN : 60 < N) : runFn Φ N f_impl_DenyOf [.sl true t_impl_Answer (l.map eAns)] = some ([.sl false t_i64 (if l.length ≤ 60 then (l.map deny).map eInt else [])], []) := by
  rw [fn_run rfl]
  by_cases h : l.length ≤ 60
  · have h' : ¬ (60 : Int) < l.length := by omega
    simp (maxSteps := 3000000) (implicitDefEqProofs := false) (disch := first | assumption | exact ofR (by with_unfolding_all rfl) | exact ofB (by with_unfolding_all rfl) | omega | (simp only [go_sem, maxLen_eq]; omega)) only [go_sem, Nat.reduceAdd, Nat.reduceBEq, f_impl_DenyOf, c_impl_DenyOf, h, h']
    rw [show norm _ _ = S10 l (fun i => (l.take i).map deny) 0 from rfl, DenyOf_loop l h hN]
    simp (maxSteps := 3000000) (implicitDefEqProofs := false) (disch := first | assumption | exact ofR (by with_unfolding_all rfl) | exact ofB (by with_unfolding_all rfl) | omega | (simp only [go_sem, maxLen_eq]; omega)) only [go_sem, Nat.reduceAdd, Nat.reduceBEq]
  · have h' : (60 : Int) < l.length := by omega
    simp (maxSteps := 3000000) (implicitDefEqProofs := false) (disch := first | assumption | exact ofR (by with_unfolding_all rfl) | exact ofB (by with_unfolding_all rfl) | omega | (simp only [go_sem, maxLen_eq]; omega)) only [go_sem, Nat.reduceAdd, Nat.reduceBEq, f_impl_DenyOf, c_impl_DenyOf, h, h']

/-! the reference's -/
@[go_sem] theorem run_l1In {n lo hi : Int} : runFn Φ N f_spec_l1In [.a (.int .i64 n), .a (.int .i64 lo), .a (.int .i64 hi)] = some ([.a (.bool (decide (lo ≤ n ∧ n ≤ hi)))], []) := by
  rw [fn_run rfl]
  by_cases h1 : lo ≤ n
  · by_cases h2 : n ≤ hi
    · have : lo ≤ n ∧ n ≤ hi := ⟨h1, h2⟩
      simp (maxSteps := 3000000) (implicitDefEqProofs := false) (disch := first | assumption | exact ofR (by with_unfolding_all rfl) | exact ofB (by with_unfolding_all rfl) | omega | (simp only [go_sem, maxLen_eq]; omega)) only [go_sem, Nat.reduceAdd, Nat.reduceBEq, f_spec_l1In, c_spec_l1In]
    · have : ¬ (lo ≤ n ∧ n ≤ hi) := fun h => h2 h.2
      simp (maxSteps := 3000000) (implicitDefEqProofs := false) (disch := first | assumption | exact ofR (by with_unfolding_all rfl) | exact ofB (by with_unfolding_all rfl) | omega | (simp only [go_sem, maxLen_eq]; omega)) only [go_sem, Nat.reduceAdd, Nat.reduceBEq, f_spec_l1In, c_spec_l1In]
  · have : ¬ (lo ≤ n ∧ n ≤ hi) := fun h => h1 h.1
    simp (maxSteps := 3000000) (implicitDefEqProofs := false) (disch := first | assumption | exact ofR (by with_unfolding_all rfl) | exact ofB (by with_unfolding_all rfl) | omega | (simp only [go_sem, maxLen_eq]; omega)) only [go_sem, Nat.reduceAdd, Nat.reduceBEq, f_spec_l1In, c_spec_l1In]

def S12 (l : List Ans) (out : Nat → List Int) (i : Nat) : St := ⟨[(0, .sz t_impl_Answer (l.map eAns)), (3, .rf 0), (4, .a (.int .i64 i))], [(0, some (.sl false 0 t_i64 ((out i).map eInt)))], 1⟩

theorem spec_DenyOf_loop {d : Nat} (l : List Ans) (hl : l.length ≤ 60) (r : List It) : goP (T (d + 1)) fuel [0,3,4] c_spec_DenyOf_L0 r (S12 l (fun i => (l.take i).map deny) 0) =
    goE (T (d + 1)) fuel r 0 [(0, .sz t_impl_Answer (l.map eAns)), (3, .rf 0), (4, .a (.int .i64 l.length)), (13, .a (.bool false))] [(0, some (.sl false 0 t_i64 ((l.map deny).map eInt)))] 401 := by
  refine loop_all (S12 l fun i => (l.take i).map deny) ⟨_, _, _⟩ (m := l.length) (lt_fuel (by omega)) (fun i hi => ?_) ?_
  · obtain ⟨a, ha⟩ : ∃ a, l[i]? = some a := ⟨_, List.getElem?_eq_getElem hi⟩
    have e1 : (l.take (i + 1)).map deny = (l.take i).map deny ++ [deny a] := by rw [List.take_add_one, ha]; simp
    have hw := wrap_succ i (by omega)
    have hle : ((l.take i).map deny).length ≤ 60 := by simp; omega
    unfold round S12
    simp only [e1]
    generalize (l.take i).map deny = out at *
    clear e1
    unfold c_spec_DenyOf_L0
    by_cases h : 10 ≤ a.code ∧ a.code ≤ 12
    · have hd : deny a = a.code := by
        unfold deny
        split
        · omega
        · split
          · omega
          · split <;> omega
      rw [hd]
      simp (maxSteps := 3000000) (implicitDefEqProofs := false) (disch := first | assumption | exact ofR (by with_unfolding_all rfl) | exact ofB (by with_unfolding_all rfl) | omega | (simp only [go_sem, maxLen_eq]; omega)) only [go_sem, Nat.reduceAdd, Nat.reduceBEq, ha, hw]
      rfl
    · have hd : deny a = 0 := by
        unfold deny
        rw [if_neg (by omega), if_neg (by omega), if_neg (by omega)]
      rw [hd]
      simp (maxSteps := 3000000) (implicitDefEqProofs := false) (disch := first | assumption | exact ofR (by with_unfolding_all rfl) | exact ofB (by with_unfolding_all rfl) | omega | (simp only [go_sem, maxLen_eq]; omega)) only [go_sem, Nat.reduceAdd, Nat.reduceBEq, ha, hw]
      rfl
  · unfold round S12 c_spec_DenyOf_L0
    simp (maxSteps := 3000000) (implicitDefEqProofs := false) (disch := first | assumption | exact ofR (by with_unfolding_all rfl) | exact ofB (by with_unfolding_all rfl) | omega | (simp only [go_sem, maxLen_eq]; omega)) only [go_sem, Nat.reduceAdd, Nat.reduceBEq, List.take_length]

theorem run_spec_DenyOf {d : Nat} (l : List Ans) : runFn (T (d + 1)) fuel f_spec_DenyOf [.sl true t_impl_Answer (l.map eAns)] = some ([.sl false t_i64 (if l.length ≤ 60 then (l.map deny).map eInt else [])], []) := by
  rw [fn_run rfl]
  by_cases h : l.length ≤ 60
  · have h' : ¬ (60 : Int) < l.length := by omega
    simp (maxSteps := 3000000) (implicitDefEqProofs := false) (disch := first | assumption | exact ofR (by with_unfolding_all rfl) | exact ofB (by with_unfolding_all rfl) | omega | (simp only [go_sem, maxLen_eq]; omega)) only [go_sem, Nat.reduceAdd, Nat.reduceBEq, f_spec_DenyOf, c_spec_DenyOf, h, h']
    rw [show norm _ _ = S12 l (fun i => (l.take i).map deny) 0 from rfl, spec_DenyOf_loop l h]
    simp (maxSteps := 3000000) (implicitDefEqProofs := false) (disch := first | assumption | exact ofR (by with_unfolding_all rfl) | exact ofB (by with_unfolding_all rfl) | omega | (simp only [go_sem, maxLen_eq]; omega)) only [go_sem, Nat.reduceAdd, Nat.reduceBEq]
  · have h' : (60 : Int) < l.length := by omega
    simp (maxSteps := 3000000) (implicitDefEqProofs := false) (disch := first | assumption | exact ofR (by with_unfolding_all rfl) | exact ofB (by with_unfolding_all rfl) | omega | (simp only [go_sem, maxLen_eq]; omega)) only [go_sem, Nat.reduceAdd, Nat.reduceBEq, f_spec_DenyOf, c_spec_DenyOf, h, h']

/-! the law's own functions over answers -/
theorem run_szAnswerS (l : List Ans) (k : Int) (h0 : 0 ≤ k) (h1 : k ≤ 1048576) (hl : l.length < 9223372036854000000) : runFn Φ N f_laws_szAnswerS [.sl true t_laws_Answer (l.map eAns), .a (.int .i64 k)] = some ([.a (.int .i64 (if k - l.length < 0 then -1 else k - l.length))], []) := by
  have hw : IntKind.i64.wrap (k - (l.length : Int)) = k - l.length := by rw [wrap_i64] <;> omega
  rw [fn_run rfl]
  by_cases h : k - (l.length : Int) < 0
  · simp (maxSteps := 3000000) (implicitDefEqProofs := false) (disch := first | assumption | exact ofR (by with_unfolding_all rfl) | exact ofB (by with_unfolding_all rfl) | omega | (simp only [go_sem, maxLen_eq]; omega)) only [go_sem, Nat.reduceAdd, Nat.reduceBEq, f_laws_szAnswerS, c_laws_szAnswerS, hw, h]
  · simp (maxSteps := 3000000) (implicitDefEqProofs := false) (disch := first | assumption | exact ofR (by with_unfolding_all rfl) | exact ofB (by with_unfolding_all rfl) | omega | (simp only [go_sem, maxLen_eq]; omega)) only [go_sem, Nat.reduceAdd, Nat.reduceBEq, f_laws_szAnswerS, c_laws_szAnswerS, hw, h]

@[go_sem] theorem run_toAnswer (x y : Int) : runFn Φ N f_laws_toAnswer [.st [.a (.int .i64 x), .a (.int .i64 y)]] = some ([.st [.a (.int .i64 x), .a (.int .i64 y)]], []) := by
  rw [fn_run rfl]
  simp (maxSteps := 3000000) (implicitDefEqProofs := false) (disch := first | assumption | exact ofR (by with_unfolding_all rfl) | exact ofB (by with_unfolding_all rfl) | omega | (simp only [go_sem, maxLen_eq]; omega)) only [go_sem, Nat.reduceAdd, Nat.reduceBEq, f_laws_toAnswer, c_laws_toAnswer]

@[go_sem] theorem run_eqAnswer (x y : Int) : runFn Φ N f_laws_eqAnswer [.st [.a (.int .i64 x), .a (.int .i64 y)], .st [.a (.int .i64 x), .a (.int .i64 y)]] = some ([.a (.bool true)], []) := by
  rw [fn_run rfl]
  simp (maxSteps := 3000000) (implicitDefEqProofs := false) (disch := first | assumption | exact ofR (by with_unfolding_all rfl) | exact ofB (by with_unfolding_all rfl) | omega | (simp only [go_sem, maxLen_eq]; omega)) only [go_sem, Nat.reduceAdd, Nat.reduceBEq, f_laws_eqAnswer, c_laws_eqAnswer]

def z2 : PV := .st [.a (.int .i64 0), .a (.int .i64 0)]
theorem toAnswerS_loop {d : Nat} (l : List Ans) (hl : l.length ≤ 1048576) (r : List It) :
    goP (T (d + 1)) fuel [0,3,4] c_laws_toAnswerS_L0 r ⟨[(0, .sz t_laws_Answer (l.map eAns)), (3, .rf 0), (4, .a (.int .i64 0))], [(0, some (.sl false 0 t_impl_Answer (List.replicate l.length z2)))], 1⟩ =
    goE (T (d + 1)) fuel r 0 [(0, .sz t_laws_Answer (l.map eAns)), (3, .rf 0), (4, .a (.int .i64 l.length)), (11, .a (.bool false))] [(0, some (.sl false 0 t_impl_Answer (l.map eAns)))] 401 := by
  conv => rhs; arg 6; rw [← updR_all (z := z2) (g := eAns)]
  rw [← updR_zero (g := eAns)]
  refine loop_all (fun i => ⟨[(0, .sz t_laws_Answer (l.map eAns)), (3, .rf 0), (4, .a (.int .i64 (i : Nat)))], [(0, some (.sl false 0 t_impl_Answer (updR z2 eAns i l)))], 1⟩) ⟨_, _, _⟩ (m := l.length) (lt_fuel (by omega)) (fun i hi => ?_) ?_
  · obtain ⟨a, ha⟩ : ∃ a, l[i]? = some a := ⟨_, List.getElem?_eq_getElem hi⟩
    have hw := wrap_succ i (by omega)
    have hg : (updR z2 eAns i l)[i]? = some (.st [.a (.int .i64 0), .a (.int .i64 0)]) := updR_get ha
    have hs := updR_set (z := z2) (g := eAns) ha
    simp only [eAns_eq] at hs
    unfold round c_laws_toAnswerS_L0
    simp (maxSteps := 3000000) (implicitDefEqProofs := false) (disch := first | assumption | exact ofR (by with_unfolding_all rfl) | exact ofB (by with_unfolding_all rfl) | omega | (simp only [go_sem, maxLen_eq]; omega)) only [go_sem, Nat.reduceAdd, Nat.reduceBEq, ha, hg, hs, hw]
    rfl
  · unfold round c_laws_toAnswerS_L0
    simp (maxSteps := 3000000) (implicitDefEqProofs := false) (disch := first | assumption | exact ofR (by with_unfolding_all rfl) | exact ofB (by with_unfolding_all rfl) | omega | (simp only [go_sem, maxLen_eq]; omega)) only [go_sem, Nat.reduceAdd, Nat.reduceBEq]

theorem run_toAnswerS {d : Nat} (l : List Ans) (hl : l.length ≤ 1048576) : runFn (T (d + 1)) fuel f_laws_toAnswerS [.sl true t_laws_Answer (l.map eAns)] = some ([.sl false t_impl_Answer (l.map eAns)], []) := by
  rw [fn_run rfl]
  simp (maxSteps := 3000000) (implicitDefEqProofs := false) (disch := first | assumption | exact ofR (by with_unfolding_all rfl) | exact ofB (by with_unfolding_all rfl) | omega | (simp only [go_sem, maxLen_eq]; omega)) only [go_sem, Nat.reduceAdd, Nat.reduceBEq, f_laws_toAnswerS, c_laws_toAnswerS]
  rw [show norm _ _ = (⟨[(0, .sz t_laws_Answer (l.map eAns)), (3, .rf 0), (4, .a (.int .i64 0))], [(0, some (.sl false 0 t_impl_Answer (List.replicate l.length z2)))], 1⟩ : St) from rfl, toAnswerS_loop l hl]
  simp (maxSteps := 3000000) (implicitDefEqProofs := false) (disch := first | assumption | exact ofR (by with_unfolding_all rfl) | exact ofB (by with_unfolding_all rfl) | omega | (simp only [go_sem, maxLen_eq]; omega)) only [go_sem, Nat.reduceAdd, Nat.reduceBEq]

theorem eqAnswerS_loop {d : Nat} (l : List Ans) (hl : l.length ≤ 1048576) (r : List It) :
    goP (T (d + 1)) fuel [0,1,5] c_laws_eqAnswerS_L0 r ⟨[(0, .sz t_impl_Answer (l.map eAns)), (1, .sz t_impl_Answer (l.map eAns)), (5, .a (.int .i64 0))], [], 0⟩ =
    goE (T (d + 1)) fuel r 0 [(0, .sz t_impl_Answer (l.map eAns)), (1, .sz t_impl_Answer (l.map eAns)), (5, .a (.int .i64 l.length)), (14, .a (.bool false))] [] 400 := by
  refine loop_all (fun i => ⟨[(0, .sz t_impl_Answer (l.map eAns)), (1, .sz t_impl_Answer (l.map eAns)), (5, .a (.int .i64 (i : Nat)))], [], 0⟩) ⟨_, _, _⟩ (m := l.length) (lt_fuel (by omega)) (fun i hi => ?_) ?_
  · obtain ⟨a, ha⟩ : ∃ a, l[i]? = some a := ⟨_, List.getElem?_eq_getElem hi⟩
    have hw := wrap_succ i (by omega)
    unfold round c_laws_eqAnswerS_L0
    simp (maxSteps := 3000000) (implicitDefEqProofs := false) (disch := first | assumption | exact ofR (by with_unfolding_all rfl) | exact ofB (by with_unfolding_all rfl) | omega | (simp only [go_sem, maxLen_eq]; omega)) only [go_sem, Nat.reduceAdd, Nat.reduceBEq, ha, hw]
    rfl
  · unfold round c_laws_eqAnswerS_L0
    simp (maxSteps := 3000000) (implicitDefEqProofs := false) (disch := first | assumption | exact ofR (by with_unfolding_all rfl) | exact ofB (by with_unfolding_all rfl) | omega | (simp only [go_sem, maxLen_eq]; omega)) only [go_sem, Nat.reduceAdd, Nat.reduceBEq]

theorem run_eqAnswerS {d : Nat} (l : List Ans) (hl : l.length ≤ 1048576) : runFn (T (d + 1)) fuel f_laws_eqAnswerS [.sl true t_impl_Answer (l.map eAns), .sl true t_impl_Answer (l.map eAns)] = some ([.a (.bool true)], []) := by
  rw [fn_run rfl]
  simp (maxSteps := 3000000) (implicitDefEqProofs := false) (disch := first | assumption | exact ofR (by with_unfolding_all rfl) | exact ofB (by with_unfolding_all rfl) | omega | (simp only [go_sem, maxLen_eq]; omega)) only [go_sem, Nat.reduceAdd, Nat.reduceBEq, f_laws_eqAnswerS, c_laws_eqAnswerS]
  rw [show norm _ _ = (⟨[(0, .sz t_impl_Answer (l.map eAns)), (1, .sz t_impl_Answer (l.map eAns)), (5, .a (.int .i64 0))], [], 0⟩ : St) from rfl, eqAnswerS_loop l hl]
  simp (maxSteps := 3000000) (implicitDefEqProofs := false) (disch := first | assumption | exact ofR (by with_unfolding_all rfl) | exact ofB (by with_unfolding_all rfl) | omega | (simp only [go_sem, maxLen_eq]; omega)) only [go_sem, Nat.reduceAdd, Nat.reduceBEq]

/-- An answer that is marked. -/
def mA (k : Int) (j : Nat) : PV := .st [.a (.int .i64 (k + 2 * j)), .a (.int .i64 (k + 2 * j + 1))]
theorem markAnswerS_loop (l : List Ans) (k : Int) (h0 : 0 ≤ k) (hk : k + 2 * l.length ≤ 9223372036854775000) (hN : l.length < N) (r : List It) :
    goP Φ N [0,1,5,10000] c_laws_markAnswerS_L0 r ⟨[(0, .rf 0), (1, .a (.int .i64 k)), (5, .a (.int .i64 0)), (10000, .rf 0)], [(0, some (.sl false 0 t_impl_Answer (l.map eAns)))], 1⟩ =
    goE Φ N r 0 [(0, .rf 0), (1, .a (.int .i64 (k + 2 * l.length))), (5, .a (.int .i64 l.length)), (9, .a (.bool false)), (10000, .rf 0)] [(0, some (.sl false 0 t_impl_Answer ((List.range l.length).map (mA k))))] 401 := by
  rw [← updI_zero (f := eAns) (h := mA k), ← updI_all (f := eAns) (h := mA k)]
  have := loop_all (Φ := Φ) (N := N) (r := r) (live := [0,1,5,10000]) (b := c_laws_markAnswerS_L0) (id := 0) (fun i => ⟨[(0, .rf 0), (1, .a (.int .i64 (k + 2 * (i : Nat)))), (5, .a (.int .i64 (i : Nat))), (10000, .rf 0)], [(0, some (.sl false 0 t_impl_Answer (updI eAns (mA k) i l)))], 1⟩)
    ⟨[(0, .rf 0), (1, .a (.int .i64 (k + 2 * l.length))), (5, .a (.int .i64 l.length)), (9, .a (.bool false)), (10000, .rf 0)], [(0, some (.sl false 0 t_impl_Answer (updI eAns (mA k) l.length l)))], 401⟩ hN (fun i hi => ?_) ?_
  · simpa using this
  · obtain ⟨a, ha⟩ : ∃ a, l[i]? = some a := ⟨_, List.getElem?_eq_getElem hi⟩
    have hw := wrap_succ i (by omega)
    have hk1 : IntKind.i64.wrap (k + 2 * (i : Int) + 1) = k + 2 * (i : Int) + 1 := by rw [wrap_i64] <;> omega
    have hk2 : IntKind.i64.wrap (k + 2 * (i : Int) + 1 + 1) = k + 2 * ((i + 1 : Nat) : Int) := by rw [wrap_i64] <;> omega
    have hlt : i < (updI eAns (mA k) i l).length := by rw [updI_length]; exact hi
    have hg := updI_get (f := eAns) (h := mA k) ha
    have hs := updI_set (f := eAns) (h := mA k) ha
    simp only [eAns_eq, mA] at hg hs
    unfold round c_laws_markAnswerS_L0
    simp (maxSteps := 3000000) (implicitDefEqProofs := false) (disch := first | assumption | exact ofR (by with_unfolding_all rfl) | exact ofB (by with_unfolding_all rfl) | omega | (simp only [go_sem, maxLen_eq]; omega)) only [go_sem, Nat.reduceAdd, Nat.reduceBEq, hg, hs, hw, hk1, hk2, List.getElem?_set_self hlt, List.set_set, mA]
    rfl
  · unfold round c_laws_markAnswerS_L0
    simp (maxSteps := 3000000) (implicitDefEqProofs := false) (disch := first | assumption | exact ofR (by with_unfolding_all rfl) | exact ofB (by with_unfolding_all rfl) | omega | (simp only [go_sem, maxLen_eq]; omega)) only [go_sem, Nat.reduceAdd, Nat.reduceBEq]

theorem run_markAnswerS (l : List Ans) (k : Int) (h0 : 0 ≤ k) (hk : k + 2 * l.length ≤ 9223372036854775000) (hN : l.length < N) :
    runFn Φ N f_laws_markAnswerS [.sl false t_impl_Answer (l.map eAns), .a (.int .i64 k)] = some ([.a (.int .i64 (k + 2 * l.length))], [.sl false t_impl_Answer ((List.range l.length).map (mA k))]) := by
  rw [fn_run rfl]
  simp (maxSteps := 3000000) (implicitDefEqProofs := false) (disch := first | assumption | exact ofR (by with_unfolding_all rfl) | exact ofB (by with_unfolding_all rfl) | omega | (simp only [go_sem, maxLen_eq]; omega)) only [go_sem, Nat.reduceAdd, Nat.reduceBEq, f_laws_markAnswerS, c_laws_markAnswerS]
  rw [show norm _ _ = (⟨[(0, .rf 0), (1, .a (.int .i64 k)), (5, .a (.int .i64 0)), (10000, .rf 0)], [(0, some (.sl false 0 t_impl_Answer (l.map eAns)))], 1⟩ : St) from rfl, markAnswerS_loop l k h0 hk hN]
  simp (maxSteps := 3000000) (implicitDefEqProofs := false) (disch := first | assumption | exact ofR (by with_unfolding_all rfl) | exact ofB (by with_unfolding_all rfl) | omega | (simp only [go_sem, maxLen_eq]; omega)) only [go_sem, Nat.reduceAdd, Nat.reduceBEq]

/-! the law -/
def denies (l : List Ans) : List Int := if l.length ≤ 60 then l.map deny else []
theorem denies_eq (l : List Ans) : (if l.length ≤ 60 then (l.map deny).map eInt else []) = (denies l).map eInt := by
  unfold denies
  split <;> rfl
theorem denies_len (l : List Ans) : (denies l).length ≤ 60 := by
  unfold denies
  split
  · rw [List.length_map]; assumption
  · simp

theorem law_DenyOf {d : Nat} (l : List Ans) (hl : l.length < 9223372036854000000) : runFn (T (d + 2)) fuel f_laws_FnExactDenyOf [.sl true t_laws_Answer (l.map eAns)] = some ([.a (.bool true)], []) := by
  have hsz := run_szAnswerS (Φ := T (d + 1)) (N := fuel) l 1048576 (by omega) (by omega) hl
  rw [fn_run rfl]
  by_cases h : (1048576 : Int) - l.length < 0
  · rw [if_pos h] at hsz
    simp (maxSteps := 3000000) (implicitDefEqProofs := false) (disch := first | assumption | exact ofR (by with_unfolding_all rfl) | exact ofB (by with_unfolding_all rfl) | omega | (simp only [go_sem, maxLen_eq]; omega)) only [go_sem, Nat.reduceAdd, Nat.reduceBEq, f_laws_FnExactDenyOf, c_laws_FnExactDenyOf, hsz]
  · rw [if_neg h] at hsz
    have hl' : l.length ≤ 1048576 := by omega
    have h1 := run_toAnswerS (d := d) l hl'
    have h2 := run_spec_DenyOf (d := d) l
    have h3 := run_impl_DenyOf (Φ := T (d + 1)) (N := fuel) l (lt_fuel (by omega))
    rw [denies_eq] at h2 h3
    have hd := denies_len l
    have h4 := run_eqInt64S (Φ := T (d + 1)) (N := fuel) (denies l) (by omega) (lt_fuel (by omega))
    have h5 := run_eqAnswerS (d := d) l hl'
    have h6 := run_markAnswerS (Φ := T (d + 1)) (N := fuel) l 1 (by omega) (by omega) (lt_fuel (by omega))
    have h7 := run_markInt64S (Φ := T (d + 1)) (N := fuel) (denies l) 1 (by omega) (by omega) (lt_fuel (by omega))
    have h8 := run_heldInt64S (Φ := T (d + 1)) (N := fuel) (denies l).length 1 (by omega) (by omega) (lt_fuel (by omega))
    generalize denies l = D at *
    simp (maxSteps := 3000000) (implicitDefEqProofs := false) (disch := first | assumption | exact ofR (by with_unfolding_all rfl) | exact ofB (by with_unfolding_all rfl) | omega | (simp only [go_sem, maxLen_eq]; omega)) only [go_sem, Nat.reduceAdd, Nat.reduceBEq, f_laws_FnExactDenyOf, c_laws_FnExactDenyOf, hsz, h1, h2, h3, h4, h5, h6, h7, h8]
end Go.Proofs.Ytkoljcjliihiiaa.VM

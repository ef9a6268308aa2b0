/- Acts that are marked, and marks that are held. -/
import Derived.Test.YtkoljcjliihiiaaLawStrip
namespace Go.Proofs.Ytkoljcjliihiiaa.VM
open Go Sy
variable {Φ : Nat → Option Callee} {N : Nat}

/-! ### marks of lists -/
section
variable {α : Type}
/-- Each element takes as many marks as w says. -/
def marksOf (m : Int → α → PV) (w : α → Nat) : Int → List α → List PV
  | _, [] => []
  | k, x :: l => m k x :: marksOf m w (k + w x) l
def wsum (w : α → Nat) : List α → Nat
  | [] => 0
  | x :: l => w x + wsum w l
variable {m : Int → α → PV} {w : α → Nat}
theorem wsum_append (l l' : List α) : wsum w (l ++ l') = wsum w l + wsum w l' := by
  induction l with
  | nil => simp [wsum]
  | cons x l ih => simp [wsum, ih]; omega
theorem wsum_take {l : List α} {i : Nat} {x : α} (h : l[i]? = some x) : wsum w (l.take (i + 1)) = wsum w (l.take i) + w x := by
  rw [List.take_add_one, h, wsum_append]; simp [wsum]
theorem wsum_le {l : List α} {i : Nat} {x : α} (h : l[i]? = some x) : wsum w (l.take i) + w x ≤ wsum w l := by
  rw [← wsum_take h]
  conv => rhs; rw [← List.take_append_drop (i + 1) l]
  rw [wsum_append]; omega
theorem marksOf_length {k : Int} {l : List α} : (marksOf m w k l).length = l.length := by
  induction l generalizing k with
  | nil => rfl
  | cons x l ih => simp [marksOf, ih]
theorem marksOf_get {k : Int} {l : List α} {i : Nat} {x : α} (h : l[i]? = some x) : (marksOf m w k l)[i]? = some (m (k + wsum w (l.take i)) x) := by
  induction l generalizing k i with
  | nil => cases h
  | cons y l ih =>
    cases i with
    | zero => cases h; simp [marksOf, wsum]
    | succ i =>
      rw [List.getElem?_cons_succ] at h
      simp only [marksOf, List.getElem?_cons_succ, ih h, List.take_succ_cons, wsum]
      congr 2
      omega
end

/-- An act that is marked; n: how many numbers it keeps. -/
def mAct (k : Int) (n : Nat) : PV := .st [eInt k, eInt (k + 1), eInt (k + 1 + 1), eInt (k + 1 + 1 + 1), eInt (k + 1 + 1 + 1 + 1), .sl t_i64 ((marks (k + 1 + 1 + 1 + 1 + 1) n).map eInt)]
theorem mAct_eq (k : Int) (n : Nat) : mAct k n = .st [.a (.int .i64 k), .a (.int .i64 (k + 1)), .a (.int .i64 (k + 1 + 1)), .a (.int .i64 (k + 1 + 1 + 1)), .a (.int .i64 (k + 1 + 1 + 1 + 1)), .sl t_i64 ((marks (k + 1 + 1 + 1 + 1 + 1) n).map eInt)] := rfl
def wAct (n : Nat) : Nat := 5 + n
def keeps (l : List Act') : List Nat := l.map fun x => x.keep.length
theorem keeps_get {l : List Act'} {i : Nat} {x : Act'} (h : l[i]? = some x) : (keeps l)[i]? = some x.keep.length := by rw [keeps, List.getElem?_map, h]; rfl
theorem keeps_length (l : List Act') : (keeps l).length = l.length := List.length_map _
theorem wsum_keeps (l : List Act') : wsum wAct (keeps l) = 5 * l.length + ksum l := by
  induction l with
  | nil => rfl
  | cons x l ih =>
    show wAct x.keep.length + wsum wAct (keeps l) = _
    rw [ih, ksum, List.length_cons, wAct]
    omega

theorem markActS_loop {d : Nat} (l : List Act') (k : Int) (h0 : 0 ≤ k) (hk : k + wsum wAct (keeps l) ≤ 9223372036854775000) (hl : l.length ≤ 1048576) (hx : ∀ x ∈ l, x.keep.length ≤ 1048576) :
    loopE (T (d + 1)) fuel [0,1,5,10000] c_laws_markActS_L0 ⟨[(0, .rf 0), (1, .a (.int .i64 k)), (5, .a (.int .i64 0)), (10000, .rf 0)], [(0, some (.sl false 0 t_impl_Act (l.map eAct)))], 1⟩ =
    some (.ext 0, ⟨[(0, .rf 0), (1, .a (.int .i64 (k + wsum wAct (keeps l)))), (5, .a (.int .i64 l.length)), (9, .a (.bool false)), (10000, .rf 0)], [(0, some (.sl false 0 t_impl_Act (marksOf mAct wAct k (keeps l))))], 401⟩) := by
  have hM : (marksOf mAct wAct k (keeps l)).length = (l.map eAct).length := by rw [marksOf_length, keeps_length, List.length_map]
  have := loopE_all (Φ := T (d + 1)) (N := fuel) (live := [0,1,5,10000]) (b := c_laws_markActS_L0) (id := 0) (fun i => ⟨[(0, .rf 0), (1, .a (.int .i64 (k + (wsum wAct ((keeps l).take i) : Nat)))), (5, .a (.int .i64 (i : Nat))), (10000, .rf 0)], [(0, some (.sl false 0 t_impl_Act (mix (marksOf mAct wAct k (keeps l)) (l.map eAct) i)))], 1⟩)
    ⟨[(0, .rf 0), (1, .a (.int .i64 (k + wsum wAct (keeps l)))), (5, .a (.int .i64 l.length)), (9, .a (.bool false)), (10000, .rf 0)], [(0, some (.sl false 0 t_impl_Act (marksOf mAct wAct k (keeps l))))], 401⟩ (m := l.length) (lt_fuel (by omega)) (fun i hi => ?_) ?_
  · simpa [mix_zero, wsum] using this
  · obtain ⟨x, hx'⟩ : ∃ a, l[i]? = some a := ⟨_, List.getElem?_eq_getElem hi⟩
    have hkx := keeps_get hx'
    have hle := wsum_le (w := wAct) hkx
    have ht := wsum_take (w := wAct) hkx
    have hkeep := hx x (List.mem_of_getElem? hx')
    have hw : wAct x.keep.length = 5 + x.keep.length := rfl
    have hg : (mix (marksOf mAct wAct k (keeps l)) (l.map eAct) i)[i]? = some (eAct x) := mix_get hM (by rw [List.getElem?_map, hx']; rfl)
    have hs := mix_set (i := i) hM (marksOf_get (m := mAct) (w := wAct) (k := k) hkx)
    have hlen : (mix (marksOf mAct wAct k (keeps l)) (l.map eAct) i).length = l.length := by rw [mix_length hM, List.length_map]
    have hlt : i < (mix (marksOf mAct wAct k (keeps l)) (l.map eAct) i).length := by rw [hlen]; exact hi
    have e1 : k + (wsum wAct ((keeps l).take (i + 1)) : Nat) = k + (wsum wAct ((keeps l).take i) : Nat) + 1 + 1 + 1 + 1 + 1 + (x.keep.length : Nat) := by rw [ht, hw]; omega
    have hK : k + (wsum wAct ((keeps l).take i) : Nat) + 5 + x.keep.length ≤ 9223372036854775000 := by omega
    have hK0 : 0 ≤ k + (wsum wAct ((keeps l).take i) : Nat) := by omega
    rw [← hs, e1, mAct_eq]
    clear e1 hs hle ht hw
    rw [eAct_eq] at hg
    generalize k + (wsum wAct ((keeps l).take i) : Nat) = K at *
    generalize mix (marksOf mAct wAct k (keeps l)) (l.map eAct) i = Z at *
    have hw := wrap_succ i (by omega)
    have w1 : IntKind.i64.wrap (K + 1) = K + 1 := wrap_i64 _ (by omega) (by omega)
    have w2 : IntKind.i64.wrap (K + 1 + 1) = K + 1 + 1 := wrap_i64 _ (by omega) (by omega)
    have w3 : IntKind.i64.wrap (K + 1 + 1 + 1) = K + 1 + 1 + 1 := wrap_i64 _ (by omega) (by omega)
    have w4 : IntKind.i64.wrap (K + 1 + 1 + 1 + 1) = K + 1 + 1 + 1 + 1 := wrap_i64 _ (by omega) (by omega)
    have w5 : IntKind.i64.wrap (K + 1 + 1 + 1 + 1 + 1) = K + 1 + 1 + 1 + 1 + 1 := wrap_i64 _ (by omega) (by omega)
    have hc := run_markInt64S (Φ := T d) (N := fuel) x.keep (K + 1 + 1 + 1 + 1 + 1) (by omega) (by omega) (lt_fuel (by omega))
    unfold round c_laws_markActS_L0
    simp (maxSteps := 3000000) (implicitDefEqProofs := false) (disch := first | assumption | exact ofR (by with_unfolding_all rfl) | exact ofB (by with_unfolding_all rfl) | omega | (simp only [go_sem, maxLen_eq]; omega)) only [go_sem, Nat.reduceAdd, Nat.reduceBEq, hg, hw, w1, w2, w3, w4, w5, hc, hlen, List.getElem?_set_self hlt, List.set_set, List.getElem?_set_self]
    rfl
  · rw [show (keeps l).take l.length = keeps l from by rw [List.take_of_length_le]; rw [keeps_length]; omega, mix_all hM (by rw [List.length_map])]
    have hl' : (marksOf mAct wAct k (keeps l)).length = l.length := by rw [hM, List.length_map]
    unfold round c_laws_markActS_L0
    simp (maxSteps := 3000000) (implicitDefEqProofs := false) (disch := first | assumption | exact ofR (by with_unfolding_all rfl) | exact ofB (by with_unfolding_all rfl) | omega | (simp only [go_sem, maxLen_eq]; omega)) only [go_sem, Nat.reduceAdd, Nat.reduceBEq, hl']

theorem run_markActS {d : Nat} (l : List Act') (k : Int) (h0 : 0 ≤ k) (hk : k + wsum wAct (keeps l) ≤ 9223372036854775000) (hl : l.length ≤ 1048576) (hx : ∀ x ∈ l, x.keep.length ≤ 1048576) :
    runFn (T (d + 1)) fuel f_laws_markActS [.sl false t_impl_Act (l.map eAct), .a (.int .i64 k)] = some ([.a (.int .i64 (k + wsum wAct (keeps l)))], [.sl false t_impl_Act (marksOf mAct wAct k (keeps l))]) := by
  have key := markActS_loop (d := d) l k h0 hk hl hx
  rw [fn_run rfl]
  simp (maxSteps := 3000000) (implicitDefEqProofs := false) (disch := first | assumption | exact ofR (by with_unfolding_all rfl) | exact ofB (by with_unfolding_all rfl) | omega | (simp only [go_sem, maxLen_eq]; omega)) only [go_sem, Nat.reduceAdd, Nat.reduceBEq, f_laws_markActS, c_laws_markActS, loop_at key]

theorem heldActS_loop {d : Nat} (ns : List Nat) (k : Int) (h0 : 0 ≤ k) (hk : k + wsum wAct ns ≤ 9223372036854775000) (hl : ns.length ≤ 1048576) (hx : ∀ n ∈ ns, n ≤ 1048576) :
    loopE (T (d + 1)) fuel [0,1,5] c_laws_heldActS_L0 ⟨[(0, .sz t_impl_Act (marksOf mAct wAct k ns)), (1, .a (.int .i64 k)), (5, .a (.int .i64 0))], [], 0⟩ =
    some (.ext 0, ⟨[(0, .sz t_impl_Act (marksOf mAct wAct k ns)), (1, .a (.int .i64 (k + wsum wAct ns))), (5, .a (.int .i64 ns.length)), (9, .a (.bool false))], [], 400⟩) := by
  have hM : (marksOf mAct wAct k ns).length = ns.length := marksOf_length
  have := loopE_all (Φ := T (d + 1)) (N := fuel) (live := [0,1,5]) (b := c_laws_heldActS_L0) (id := 0) (fun i => ⟨[(0, .sz t_impl_Act (marksOf mAct wAct k ns)), (1, .a (.int .i64 (k + (wsum wAct (ns.take i) : Nat)))), (5, .a (.int .i64 (i : Nat)))], [], 0⟩)
    ⟨[(0, .sz t_impl_Act (marksOf mAct wAct k ns)), (1, .a (.int .i64 (k + wsum wAct ns))), (5, .a (.int .i64 ns.length)), (9, .a (.bool false))], [], 400⟩ (m := ns.length) (lt_fuel (by omega)) (fun i hi => ?_) ?_
  · simpa [wsum] using this
  · obtain ⟨n, hn⟩ : ∃ a, ns[i]? = some a := ⟨_, List.getElem?_eq_getElem hi⟩
    have hle := wsum_le (w := wAct) hn
    have ht := wsum_take (w := wAct) hn
    have hw : wAct n = 5 + n := rfl
    have hn' := hx n (List.mem_of_getElem? hn)
    have hg := marksOf_get (m := mAct) (w := wAct) (k := k) hn
    have e1 : k + (wsum wAct (ns.take (i + 1)) : Nat) = k + (wsum wAct (ns.take i) : Nat) + 1 + 1 + 1 + 1 + 1 + (n : Nat) := by rw [ht, hw]; omega
    have hK : k + (wsum wAct (ns.take i) : Nat) + 5 + n ≤ 9223372036854775000 := by omega
    have hK0 : 0 ≤ k + (wsum wAct (ns.take i) : Nat) := by omega
    rw [e1]
    clear e1 hle ht hw
    rw [mAct_eq] at hg
    generalize k + (wsum wAct (ns.take i) : Nat) = K at *
    generalize marksOf mAct wAct k ns = Z at *
    have hw := wrap_succ i (by omega)
    have w1 : IntKind.i64.wrap (K + 1) = K + 1 := wrap_i64 _ (by omega) (by omega)
    have w2 : IntKind.i64.wrap (K + 1 + 1) = K + 1 + 1 := wrap_i64 _ (by omega) (by omega)
    have w3 : IntKind.i64.wrap (K + 1 + 1 + 1) = K + 1 + 1 + 1 := wrap_i64 _ (by omega) (by omega)
    have w4 : IntKind.i64.wrap (K + 1 + 1 + 1 + 1) = K + 1 + 1 + 1 + 1 := wrap_i64 _ (by omega) (by omega)
    have w5 : IntKind.i64.wrap (K + 1 + 1 + 1 + 1 + 1) = K + 1 + 1 + 1 + 1 + 1 := wrap_i64 _ (by omega) (by omega)
    have hc := run_heldInt64S (Φ := T d) (N := fuel) n (K + 1 + 1 + 1 + 1 + 1) (by omega) (by omega) (lt_fuel (by omega))
    unfold round c_laws_heldActS_L0
    simp (maxSteps := 3000000) (implicitDefEqProofs := false) (disch := first | assumption | exact ofR (by with_unfolding_all rfl) | exact ofB (by with_unfolding_all rfl) | omega | (simp only [go_sem, maxLen_eq]; omega)) only [go_sem, Nat.reduceAdd, Nat.reduceBEq, hg, hw, w1, w2, w3, w4, w5, hc, hM]
    rfl
  · rw [show ns.take ns.length = ns from List.take_length]
    unfold round c_laws_heldActS_L0
    simp (maxSteps := 3000000) (implicitDefEqProofs := false) (disch := first | assumption | exact ofR (by with_unfolding_all rfl) | exact ofB (by with_unfolding_all rfl) | omega | (simp only [go_sem, maxLen_eq]; omega)) only [go_sem, Nat.reduceAdd, Nat.reduceBEq, hM]

theorem run_heldActS {d : Nat} (ns : List Nat) (k : Int) (h0 : 0 ≤ k) (hk : k + wsum wAct ns ≤ 9223372036854775000) (hl : ns.length ≤ 1048576) (hx : ∀ n ∈ ns, n ≤ 1048576) :
    runFn (T (d + 1)) fuel f_laws_heldActS [.sl true t_impl_Act (marksOf mAct wAct k ns), .a (.int .i64 k)] = some ([.a (.int .i64 (k + wsum wAct ns))], []) := by
  have key := heldActS_loop (d := d) ns k h0 hk hl hx
  rw [fn_run rfl]
  simp (maxSteps := 3000000) (implicitDefEqProofs := false) (disch := first | assumption | exact ofR (by with_unfolding_all rfl) | exact ofB (by with_unfolding_all rfl) | omega | (simp only [go_sem, maxLen_eq]; omega)) only [go_sem, Nat.reduceAdd, Nat.reduceBEq, f_laws_heldActS, c_laws_heldActS, loop_at key]
end Go.Proofs.Ytkoljcjliihiiaa.VM

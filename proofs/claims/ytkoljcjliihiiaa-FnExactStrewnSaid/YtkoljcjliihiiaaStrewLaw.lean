/- Strewn, in plain words: acts strewn one place after the other, and act after act. No program in sight. -/
import Derived.Test.YtkoljcjliihiiaaLawStrewS
namespace Go.Proofs.Ytkoljcjliihiiaa.VM
def sact (s : Strew) : Act' := ⟨s.kind, s.a, 0, 0, -1, []⟩
/-- A place and a kind that are allowed, behind place j among n acts. -/
def okS (n j : Nat) (s : Strew) : Bool := decide ((j : Int) ≤ s.at_ ∧ s.at_ ≤ n ∧ 15 ≤ s.kind ∧ s.kind ≤ 17)
def validS (n : Nat) : Nat → List Strew → Bool
  | _, [] => true
  | j, s :: ws => okS n j s && validS n s.at_.toNat ws
/-- What is strewn at place i. -/
def gw (ws : List Strew) (i : Nat) : List Act' := (ws.filter fun s => decide (s.at_ = (i : Int))).map sact
/-- From place i on, n places. -/
def gS (l : List Act') (ws : List Strew) : Nat → Nat → List Act'
  | _, 0 => []
  | i, n + 1 => gw ws i ++ l[i]?.toList ++ gS l ws (i + 1) n
def stepS (l : List Act') (p : Nat × List Act') (s : Strew) : Option (Nat × List Act') :=
  if okS l.length p.1 s = true then some (s.at_.toNat, p.2 ++ (l.drop p.1).take (s.at_.toNat - p.1) ++ [sact s]) else none

theorem drop_get {α : Type} (l : List α) (j : Nat) : l.drop j = l[j]?.toList ++ l.drop (j + 1) := by
  by_cases h : j < l.length
  · rw [List.drop_eq_getElem_cons h, List.getElem?_eq_getElem h]; rfl
  · rw [List.drop_eq_nil_of_le (by omega), List.getElem?_eq_none (by omega), List.drop_eq_nil_of_le (by omega)]; rfl
theorem G_nil (l : List Act') : ∀ (n j : Nat), j + n = l.length + 1 → gS l [] j n = l.drop j
  | 0, j, h => by rw [gS, List.drop_eq_nil_of_le (by omega)]
  | n + 1, j, h => by rw [gS, G_nil l n (j + 1) (by omega), drop_get l j]; rfl

theorem valid_ge {n : Nat} : ∀ {ws : List Strew} {j : Nat}, validS n j ws = true → ∀ s ∈ ws, (j : Int) ≤ s.at_
  | [], _, _, _, h => by cases h
  | w :: ws, j, h, s, hs => by
    simp only [validS, okS, Bool.and_eq_true, decide_eq_true_eq] at h
    rcases List.mem_cons.1 hs with rfl | hs
    · exact h.1.1
    · have := valid_ge h.2 s hs
      omega
theorem gw_none {ws : List Strew} {i : Nat} (h : ∀ s ∈ ws, s.at_ ≠ (i : Int)) : gw ws i = [] := by
  unfold gw
  rw [List.filter_eq_nil_iff.2 (fun s hs => by simpa using h s hs)]
  rfl
theorem gw_cons_ne {s : Strew} {ws : List Strew} {i : Nat} (h : s.at_ ≠ (i : Int)) : gw (s :: ws) i = gw ws i := by
  unfold gw
  rw [List.filter_cons_of_neg (by simpa using h)]
theorem gw_cons_eq {s : Strew} {ws : List Strew} {i : Nat} (h : s.at_ = (i : Int)) : gw (s :: ws) i = sact s :: gw ws i := by
  unfold gw
  rw [List.filter_cons_of_pos (by simpa using h)]; rfl
theorem G_congr {l : List Act'} {ws ws' : List Strew} : ∀ {n j : Nat}, (∀ i, j ≤ i → gw ws i = gw ws' i) → gS l ws j n = gS l ws' j n
  | 0, _, _ => rfl
  | n + 1, j, h => by rw [gS, gS, h j (Nat.le_refl _), G_congr fun i hi => h i (by omega)]
theorem G_skip {l : List Act'} {ws : List Strew} : ∀ {k j n : Nat}, k ≤ n → j + k ≤ l.length → (∀ i, j ≤ i → i < j + k → gw ws i = []) → gS l ws j n = (l.drop j).take k ++ gS l ws (j + k) (n - k)
  | 0, j, n, _, _, _ => by simp
  | k + 1, j, n, hk, hj, h => by
    obtain ⟨n, rfl⟩ : ∃ n', n = n' + 1 := ⟨n - 1, by omega⟩
    rw [gS, h j (Nat.le_refl _) (by omega), G_skip (k := k) (j := j + 1) (n := n) (by omega) (by omega) fun i h1 h2 => h i (by omega) (by omega)]
    rw [List.drop_eq_getElem_cons (show j < l.length by omega), List.getElem?_eq_getElem (show j < l.length by omega)]
    simp only [Option.toList_some, List.take_succ_cons, List.nil_append, List.cons_append, List.cons.injEq, true_and]
    rw [show j + 1 + k = j + (k + 1) by omega, show n + 1 - (k + 1) = n - k by omega]

theorem fold_eq (l : List Act') : ∀ (ws : List Strew) (j : Nat) (out : List Act'), j ≤ l.length →
    (ws.foldlM (stepS l) (j, out)).map (fun p => p.2 ++ l.drop p.1) = if validS l.length j ws = true then some (out ++ gS l ws j (l.length + 1 - j)) else none
  | [], j, out, hj => by
    rw [G_nil l _ j (by omega)]; simp [validS]
  | s :: ws, j, out, hj => by
    rw [List.foldlM_cons, validS]
    by_cases h : okS l.length j s = true
    · rw [show stepS l (j, out) s = some (s.at_.toNat, out ++ (l.drop j).take (s.at_.toNat - j) ++ [sact s]) from if_pos h]
      have h' := h
      simp only [okS, decide_eq_true_eq] at h'
      obtain ⟨a, ha⟩ : ∃ a : Nat, s.at_ = (a : Int) := ⟨s.at_.toNat, by omega⟩
      have e : s.at_.toNat = a := by omega
      rw [e] at *
      show ((ws.foldlM (stepS l) (a, _)).map _) = _
      rw [fold_eq l ws a _ (by omega), h, Bool.true_and]
      by_cases hv : validS l.length a ws = true
      · rw [if_pos hv, if_pos hv]
        have hge := valid_ge hv
        rw [G_skip (l := l) (ws := s :: ws) (k := a - j) (j := j) (n := l.length + 1 - j) (by omega) (by omega) fun i h1 h2 => gw_none fun w hw => by
          rcases List.mem_cons.1 hw with rfl | hw
          · omega
          · have := hge w hw; omega]
        rw [show j + (a - j) = a by omega, show l.length + 1 - j - (a - j) = l.length - a + 1 by omega, show l.length + 1 - a = l.length - a + 1 by omega]
        rw [gS, gS, gw_cons_eq ha, G_congr (ws := s :: ws) (ws' := ws) fun i hi => gw_cons_ne (by omega)]
        simp
      · rw [if_neg hv, if_neg hv]
    · rw [show stepS l (j, out) s = none from if_neg h]
      have h0 : okS l.length j s = false := by simpa using h
      rw [h0, Bool.false_and]
      rfl

/-- What stands ahead of place i. -/
def aS (l : List Act') (ws : List Strew) : Nat → List Act'
  | 0 => []
  | i + 1 => aS l ws i ++ gw ws i ++ l[i]?.toList
theorem A_G (l : List Act') (ws : List Strew) : ∀ (n j : Nat), aS l ws (j + n) = aS l ws j ++ gS l ws j n
  | 0, j => by simp [gS]
  | n + 1, j => by
    rw [show j + (n + 1) = (j + 1) + n by omega, A_G l ws n (j + 1), aS, gS]
    simp
theorem A_all (l : List Act') (ws : List Strew) : aS l ws (l.length + 1) = gS l ws 0 (l.length + 1) := by
  have := A_G l ws (l.length + 1) 0
  rw [Nat.zero_add] at this
  rw [this]; rfl

/-- What Strewn returns. -/
def strewn (l : List Act') (ws : List Strew) : List Act' × Bool := if validS l.length 0 ws = true ∧ l.length + ws.length ≤ 60 then (aS l ws (l.length + 1), true) else ([], false)

/-! validity, one after the other -/
def prevS (j : Nat) (ws : List Strew) : Nat → Nat
  | 0 => j
  | i + 1 => ((ws[i]?).map fun s => s.at_.toNat).getD j
theorem valid_iff (n : Nat) : ∀ (ws : List Strew) (j : Nat), validS n j ws = true ↔ ∀ i s, ws[i]? = some s → okS n (prevS j ws i) s = true
  | [], j => by simp [validS]
  | w :: ws, j => by
    rw [validS, Bool.and_eq_true, valid_iff n ws w.at_.toNat]
    constructor
    · rintro ⟨h1, h2⟩ i s hs
      cases i with
      | zero => cases hs; exact h1
      | succ i =>
        rw [List.getElem?_cons_succ] at hs
        have := h2 i s hs
        cases i with
        | zero => exact this
        | succ i =>
          have hi : i < ws.length := by have := (List.getElem?_eq_some_iff.1 hs).1; omega
          simp only [prevS, List.getElem?_cons_succ, List.getElem?_eq_getElem hi, Option.map_some, Option.getD_some] at this ⊢
          exact this
    · intro h
      refine ⟨h 0 w rfl, fun i s hs => ?_⟩
      have := h (i + 1) s (by rw [List.getElem?_cons_succ]; exact hs)
      cases i with
      | zero => exact this
      | succ i =>
        have hi : i < ws.length := by have := (List.getElem?_eq_some_iff.1 hs).1; omega
        simp only [prevS, List.getElem?_cons_succ, List.getElem?_eq_getElem hi, Option.map_some, Option.getD_some] at this ⊢
        exact this
/-- The program's steps, after i places. -/
def foldS (l : List Act') (ws : List Strew) (i : Nat) : Option (Nat × List Act') := (ws.take i).foldlM (stepS l) (0, [])
theorem foldS_succ {l : List Act'} {ws : List Strew} {i : Nat} {s : Strew} (h : ws[i]? = some s) : foldS l ws (i + 1) = (foldS l ws i).bind fun p => stepS l p s := by
  unfold foldS
  rw [List.take_add_one, h, List.foldlM_append]
  show ((List.take i ws).foldlM (stepS l) (0, [])).bind _ = _
  congr 1
  funext p
  show (stepS l p s).bind _ = _
  cases stepS l p s <;> rfl
theorem foldS_none {l : List Act'} {ws : List Strew} {i : Nat} (h : foldS l ws i = none) : foldS l ws ws.length = none := by
  unfold foldS at *
  rw [List.take_length]
  conv => lhs; rw [← List.take_append_drop i ws]
  rw [List.foldlM_append, h]
  rfl
theorem foldS_all (l : List Act') (ws : List Strew) : (foldS l ws ws.length).map (fun p => p.2 ++ l.drop p.1) = if validS l.length 0 ws = true then some (aS l ws (l.length + 1)) else none := by
  unfold foldS
  rw [List.take_length, fold_eq l ws 0 [] (by omega), A_all]
  rfl
end Go.Proofs.Ytkoljcjliihiiaa.VM

/- The interpreter 'VM': the tower of calls: each function over those that it calls, to any depth. -/
import Derived.Test.YtkoljcjliihiiaaVmRun
namespace Go.Proofs.Ytkoljcjliihiiaa.VM
open Go

/-- How many rounds a loop may take. -/
def fuel : Nat := 2 ^ 62
theorem fuel_eq : fuel = 4611686018427387904 := rfl
theorem lt_fuel {n : Nat} (h : n < 4611686018427387904) : n < fuel := h

def calF (Φ : Nat → Option Callee) (N : Nat) (v : Fn) : Callee := { modes := v.modes, keeps := v.keeps, scalar := v.scalar, go := runFn Φ N v }

/-- The functions of the program (tab) and those of a library whose contract is given (ext), calls to depth d. -/
def tower (tab : List (Nat × Fn)) (ext : Nat → Option Callee) (N : Nat) : Nat → Nat → Option Callee
  | 0, _ => none
  | d + 1, f => match ext f with
    | some c => some c
    | none => match look tab f with
      | some v => some (calF (tower tab ext N d) N v)
      | none => none

theorem tower_tab {tab : List (Nat × Fn)} {ext : Nat → Option Callee} {N d f : Nat} {v : Fn} (h : ext f = none) (ht : look tab f = some v) : tower tab ext N (d + 1) f = some (calF (tower tab ext N d) N v) := by
  simp only [tower, h, ht]
theorem tower_ext {tab : List (Nat × Fn)} {ext : Nat → Option Callee} {N d f : Nat} {c : Callee} (h : ext f = some c) : tower tab ext N (d + 1) f = some c := by
  simp only [tower, h]

/-- Side conditions, as they are asked. -/
theorem ofR {p : Prop} (h : p) : p := h
theorem ofB {m n : Nat} (h : Nat.ble m n = true) : m ≤ n := Nat.le_of_ble_eq_true h

/-! ### loops -/
namespace Sy
def after (live : List Nat) : Option (Out × St) → Option (Out × St)
  | some (.nrm, s) => some (.nrm, norm live s)
  | r => r
@[go_sem] theorem after_nrm {live : List Nat} {s : St} : after live (some (.nrm, s)) = some (.nrm, norm live s) := rfl
@[go_sem] theorem after_ext {live : List Nat} {s : St} {id : Nat} : after live (some (.ext id, s)) = some (.ext id, s) := rfl
@[go_sem] theorem after_ret {live : List Nat} {s : St} : after live (some (.ret, s)) = some (.ret, s) := rfl

/-- One round of a loop: the frame behind it is brought into its form. -/
def round (Φ : Nat → Option Callee) (N : Nat) (live : List Nat) (b : VC) (s : St) : Option (Out × St) := after live (goN Φ N [.c b] s.slots s.nodes s.next)

section
variable {Φ : Nat → Option Callee} {N : Nat} {live : List Nat} {b : VC} {r : List It}

theorem round_run (s : St) : round Φ N live b s = after live (run Φ N b s) := rfl

theorem after_nn {live : List Nat} {x : Option (Out × St)} {o : Out} {s : St} (h : after live x = some (o, s)) (ho : o ≠ .nrm) : x = some (o, s) := by
  cases x with
  | none => cases h
  | some p =>
    obtain ⟨o', s'⟩ := p
    cases o' <;> simp only [after, Option.some.injEq, Prod.mk.injEq] at h
    · exact absurd h.1.symm ho
    · obtain ⟨rfl, rfl⟩ := h; rfl
    · obtain ⟨rfl, rfl⟩ := h; rfl

/-- A loop whose frames S i are known, and what comes out from the i-th on. -/
theorem loop_gen (S : Nat → St) (R : Nat → Out × St) {m : Nat} (hN : m < N) (hr : ∀ i, i ≤ m → (R i).1 ≠ .nrm)
    (step : ∀ i, i ≤ m → (i < m ∧ round Φ N live b (S i) = some (.nrm, S (i + 1)) ∧ R i = R (i + 1)) ∨ round Φ N live b (S i) = some (R i)) :
    goP Φ N live b r (S 0) = goL Φ N r (some (R 0)) := by
  have key : ∀ (k i n : Nat), i + k = m → k < n → roundsN (run Φ N b) live n (S i) = some (R i) := by
    intro k
    induction k with
    | zero =>
      intro i n hi hn
      obtain ⟨n, rfl⟩ : ∃ n', n = n' + 1 := ⟨n - 1, by omega⟩
      rcases step i (by omega) with ⟨h1, _⟩ | h
      · omega
      · have := after_nn (x := run Φ N b (S i)) (live := live) (o := (R i).1) (s := (R i).2) h (hr i (by omega))
        simp only [roundsN, this]
        have hne := hr i (by omega)
        generalize hR : R i = p at hne ⊢
        obtain ⟨o, s⟩ := p
        cases o <;> first | rfl | exact absurd rfl hne
    | succ k ih =>
      intro i n hi hn
      obtain ⟨n, rfl⟩ : ∃ n', n = n' + 1 := ⟨n - 1, by omega⟩
      rcases step i (by omega) with ⟨h1, h2, h3⟩ | h
      · rw [round_run] at h2
        simp only [roundsN]
        cases hx : run Φ N b (S i) with
        | none => rw [hx] at h2; cases h2
        | some p =>
          obtain ⟨o, s⟩ := p
          rw [hx] at h2
          cases o with
          | nrm =>
            simp only [after, Option.some.injEq, Prod.mk.injEq, true_and] at h2
            simp only [h2, h3]
            exact ih (i + 1) n (by omega) (by omega)
          | ext id => simp [after] at h2
          | ret => simp [after] at h2
      · have := after_nn (x := run Φ N b (S i)) (live := live) (o := (R i).1) (s := (R i).2) h (hr i (by omega))
        simp only [roundsN, this]
        have hne := hr i (by omega)
        generalize hR : R i = p at hne ⊢
        obtain ⟨o, s⟩ := p
        cases o <;> first | rfl | exact absurd rfl hne
  unfold goP
  rw [key m 0 N (by omega) hN]

/-- A loop whose frames are known by a property alone; k: a bound of the rounds that are still to come. -/
theorem loop_inv (I : Nat → St → Prop) (E : Out → St → Prop) {m : Nat} (hN : m < N) {s : St} (h0 : I m s)
    (step : ∀ k s, k ≤ m → I k s → (∃ k' s', k = k' + 1 ∧ round Φ N live b s = some (.nrm, s') ∧ I k' s') ∨ ∃ o s', o ≠ .nrm ∧ round Φ N live b s = some (o, s') ∧ E o s') :
    ∃ o e, E o e ∧ o ≠ .nrm ∧ goP Φ N live b r s = goL Φ N r (some (o, e)) := by
  have key : ∀ (k n : Nat) (s : St), k ≤ m → k < n → I k s → ∃ o e, E o e ∧ o ≠ .nrm ∧ roundsN (run Φ N b) live n s = some (o, e) := by
    intro k
    induction k with
    | zero =>
      intro n s hk hn hs
      obtain ⟨n, rfl⟩ : ∃ n', n = n' + 1 := ⟨n - 1, by omega⟩
      rcases step 0 s hk hs with ⟨k', _, h, _⟩ | ⟨o, s', ho, h, he⟩
      · omega
      · have := after_nn (x := run Φ N b s) (live := live) h ho
        refine ⟨o, s', he, ho, ?_⟩
        simp only [roundsN, this]
        cases o <;> first | rfl | exact absurd rfl ho
    | succ k ih =>
      intro n s hk hn hs
      obtain ⟨n, rfl⟩ : ∃ n', n = n' + 1 := ⟨n - 1, by omega⟩
      rcases step (k + 1) s hk hs with ⟨k', s', h1, h2, h3⟩ | ⟨o, s', ho, h, he⟩
      · obtain rfl : k = k' := by omega
        rw [round_run] at h2
        cases hx : run Φ N b s with
        | none => rw [hx] at h2; cases h2
        | some p =>
          obtain ⟨o, s1⟩ := p
          rw [hx] at h2
          cases o with
          | nrm =>
            simp only [after, Option.some.injEq, Prod.mk.injEq, true_and] at h2
            obtain ⟨o, e, he, ho, hr⟩ := ih n s' (by omega) (by omega) h3
            refine ⟨o, e, he, ho, ?_⟩
            simp only [roundsN, hx, h2]
            exact hr
          | ext id => simp [after] at h2
          | ret => simp [after] at h2
      · have := after_nn (x := run Φ N b s) (live := live) h ho
        refine ⟨o, s', he, ho, ?_⟩
        simp only [roundsN, this]
        cases o <;> first | rfl | exact absurd rfl ho
  obtain ⟨o, e, he, ho, hr⟩ := key m N s (Nat.le_refl _) hN h0
  refine ⟨o, e, he, ho, ?_⟩
  unfold goP
  rw [hr]

/-- A loop that always comes to its end. -/
theorem loop_all (S : Nat → St) (e : St) {m id : Nat} (hN : m < N) (step : ∀ i, i < m → round Φ N live b (S i) = some (.nrm, S (i + 1))) (last : round Φ N live b (S m) = some (.ext id, e)) :
    goP Φ N live b r (S 0) = goE Φ N r id e.slots e.nodes e.next := by
  rw [loop_gen S (fun _ => (.ext id, e)) hN (fun _ _ => by simp) fun i hi => ?_]
  · rfl
  · by_cases h : i < m
    · exact .inl ⟨h, step i h, rfl⟩
    · have : i = m := by omega
      subst this
      exact .inr last
end
/-- A loop from its head on; its frame is in its form. -/
def loopE (Φ : Nat → Option Callee) (N : Nat) (live : List Nat) (b : VC) (s : St) : Option (Out × St) := roundsN (run Φ N b) live N s
theorem loopE_all {Φ : Nat → Option Callee} {N : Nat} {live : List Nat} {b : VC} (S : Nat → St) (e : St) {m id : Nat} (hN : m < N) (step : ∀ i, i < m → round Φ N live b (S i) = some (.nrm, S (i + 1))) (last : round Φ N live b (S m) = some (.ext id, e)) :
    loopE Φ N live b (S 0) = some (.ext id, e) := loop_all (r := []) S e hN step last
theorem loopE_gen {Φ : Nat → Option Callee} {N : Nat} {live : List Nat} {b : VC} (S : Nat → St) (R : Nat → Out × St) {m : Nat} (hN : m < N) (hr : ∀ i, i ≤ m → (R i).1 ≠ .nrm)
    (step : ∀ i, i ≤ m → (i < m ∧ round Φ N live b (S i) = some (.nrm, S (i + 1)) ∧ R i = R (i + 1)) ∨ round Φ N live b (S i) = some (R i)) : loopE Φ N live b (S 0) = some (R 0) := loop_gen (r := []) S R hN hr step
/-- A loop that comes out with R, while P holds of the rounds' numbers. -/
theorem loopE_while {Φ : Nat → Option Callee} {N : Nat} {live : List Nat} {b : VC} (S : Nat → St) (R : Out × St) (P : Nat → Prop) {m : Nat} (hN : m < N) (h0 : P 0) (hr : R.1 ≠ .nrm)
    (step : ∀ i, i ≤ m → P i → (i < m ∧ round Φ N live b (S i) = some (.nrm, S (i + 1)) ∧ P (i + 1)) ∨ round Φ N live b (S i) = some R) : loopE Φ N live b (S 0) = some R := by
  obtain ⟨o, e, ⟨rfl, rfl⟩, _, h⟩ := loop_inv (Φ := Φ) (N := N) (live := live) (b := b) (r := []) (fun j s => ∃ i, i + j = m ∧ P i ∧ s = S i) (fun o e => o = R.1 ∧ e = R.2) hN (s := S 0) ⟨0, by omega, h0, rfl⟩ (by
    rintro j s hj ⟨i, hi, hp, rfl⟩
    rcases step i (by omega) hp with ⟨h1, h2, h3⟩ | h1
    · exact .inl ⟨j - 1, _, by omega, h2, i + 1, by omega, h3, rfl⟩
    · exact .inr ⟨R.1, R.2, hr, h1, rfl, rfl⟩)
  exact h
/-- A loop whose answer is known, where it stands. -/
theorem loop_at {Φ : Nat → Option Callee} {N : Nat} {live : List Nat} {b : VC} {r : List It} {s S0 e : St} {id : Nat} (h : loopE Φ N live b S0 = some (.ext id, e)) (hs : norm live s = S0) :
    goP Φ N live b r (norm live s) = goE Φ N r id e.slots e.nodes e.next := by
  rw [hs]; unfold goP; rw [show roundsN (run Φ N b) live N S0 = some (.ext id, e) from h]; rfl
theorem loop_rt {Φ : Nat → Option Callee} {N : Nat} {live : List Nat} {b : VC} {r : List It} {s S0 e : St} (h : loopE Φ N live b S0 = some (.ret, e)) (hs : norm live s = S0) :
    goP Φ N live b r (norm live s) = some (.ret, e) := by
  rw [hs]; unfold goP; rw [show roundsN (run Φ N b) live N S0 = some (.ret, e) from h]; exact goL_ret Φ N e r
end Sy

section
variable {Φ : Nat → Option Callee} {N : Nat} {v : Fn}
@[go_sem] theorem cal_modes : (calF Φ N v).modes = v.modes := rfl
@[go_sem] theorem cal_keeps : (calF Φ N v).keeps = v.keeps := rfl
@[go_sem] theorem cal_scalar : (calF Φ N v).scalar = v.scalar := rfl
@[go_sem] theorem cal_go : (calF Φ N v).go = runFn Φ N v := rfl
end

attribute [go_sem] Bool.false_and Bool.true_and Bool.and_true Bool.true_or Bool.false_or Bool.or_true Bool.and_self Option.isNone_some Option.isSome_some decide_true decide_false decide_eq_true decide_eq_false List.length_map List.length_append List.length_replicate List.length_set List.map_append List.replicate_succ List.replicate_zero List.set_cons_zero List.set_cons_succ List.map_cons List.map_nil List.length_cons List.length_nil List.getElem?_cons_zero List.getElem?_cons_succ List.drop_zero List.drop_succ_cons List.drop_nil List.take_succ_cons List.take_zero List.nil_append List.cons_append List.append_nil Option.map_some Option.getD_some Option.isNone_none List.getElem?_map Int.toNat_natCast
  if_true if_false Bool.false_eq_true Bool.or_false Bool.or_self Bool.and_false Bool.not_true Bool.not_false reduceCtorEq true_and and_true and_self Nat.zero_add Nat.add_zero
theorem wrap_i64 (x : Int) (h0 : -9223372036854775808 ≤ x) (h1 : x ≤ 9223372036854775807) : IntKind.i64.wrap x = x := by
  unfold IntKind.wrap
  simp [IntKind.bits, IntKind.signed]
  omega
theorem wrap_succ (i : Nat) (h : i < 9223372036854775807) : IntKind.i64.wrap ((i : Int) + 1) = ((i + 1 : Nat) : Int) := by
  rw [wrap_i64] <;> omega
theorem map_snoc {α β : Type} (f : α → β) (l : List α) (x : α) : (l ++ [x]).map f = l.map f ++ [f x] := by simp
end Go.Proofs.Ytkoljcjliihiiaa.VM

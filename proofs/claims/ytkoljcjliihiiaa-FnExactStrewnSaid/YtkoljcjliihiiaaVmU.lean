/- The interpreter 'VM': each operation, by the compiler's cases. -/
import Derived.Test.YtkoljcjliihiiaaVmT
namespace Go.Proofs.Ytkoljcjliihiiaa.VM
open Go

variable {cx : Cx} {U : Nat → Prop} {X : Cells} {ρ : Nat → Value} {F : Nat → Cells} {st : St} {sh : Shape} {V : Nat} {a : Act} {w : World}

theorem q_given {b : Nat} {Φ : Nat → Option Callee} (hq : Qok st) : ∀ f c (xs : List TV), Φ f = some c → c.keeps = false → ∀ ps cs s1 s2, (lendA c.keeps (b + 100) c.modes xs).run st = some (ps, s1) → (show_ c.keeps c.modes xs ps).run s1 = some (cs, s2) → cnofzL cs := by
  intro f c xs _ hk ps cs s1 s2 h1 h2
  obtain ⟨q1, r1⟩ := q_lendA c.keeps (b + 100) c.modes xs st ps s1 h1 hq
  exact (q_show c.keeps c.modes xs ps r1 s1 cs s2 h2 q1).2 hk

theorem sameOpd_eq {x y : Operand} (h : sameOpd x y = true) : x = y := by
  unfold sameOpd at h
  split at h
  · rw [beq_iff_eq] at h; subst h; rfl
  · rw [beq_iff_eq] at h; subst h; rfl
  · cases h

theorem isTmp_eq {x : Operand} {n : Nat} (h : isTmp x = some n) : x = .tmp n := by
  cases x <;> simp [isTmp] at h
  rw [h]

theorem op_any {Φ : Nat → Option Callee} (hS : ∀ f c, Φ f = some c → Sound cx.P f c) (h : G cx U (fun _ _ => False) ρ F st a w) (hq : Qok st) {b : Nat} (hb : ∀ i, b ≤ i → i < b + 100 → ¬ U i) {ops : Array Oper} {o : Oper} {v : VOp} (hc : cOp cx.P ops o = some v)
    (hd : ∀ d, o.dst = some d → d < cx.n) {s1 : St} (hr : (exec Φ b v).run st = some ((), s1)) : Now cx U b o s1 a w := by
  unfold cOp at hc
  split at hc
  · rename_i hop hdst
    obtain ⟨y, hy, rfl⟩ := Option.map_eq_some_iff.1 hc
    exact op_mov h hdst (hd _ hdst) (.inl hop) hy hr
  · rename_i hop hdst
    obtain ⟨y, hy, rfl⟩ := Option.map_eq_some_iff.1 hc
    exact op_mov h hdst (hd _ hdst) (.inr hop) hy hr
  · rename_i hop hdst
    split at hc
    · rename_i h1 h2 h3
      cases hc
      exact op_pick h hdst (hd _ hdst) hop h1 h2 h3 hr
    · cases hc
  · rename_i hop hdst
    obtain ⟨y, hy, rfl⟩ := Option.map_eq_some_iff.1 hc
    exact op_alloc h hb hdst (hd _ hdst) hop hy hr
  · rename_i hop hdst
    split at hc
    · obtain ⟨y, hy, rfl⟩ := Option.map_eq_some_iff.1 hc
      exact op_box h hb hdst (hd _ hdst) hop hy hr
    · cases hc
  · rename_i hop hdst
    split at hc
    · rename_i h1 h2 h3
      split at hc
      · rename_i h4
        cases hc
        exact op_build h hdst (hd _ hdst) hop h1 h2 h3 h4 hr
      · cases hc
    · cases hc
  · rename_i hop hdst
    split at hc
    · rename_i h0
      split at hc
      · rename_i h1 h2 h3
        split at hc
        · rename_i h4
          cases hc
          exact op_bsl h hb hdst (hd _ hdst) hop h0 h1 h2 h3 h4 hr
        · cases hc
      · cases hc
    · cases hc
  · rename_i hop hdst
    split at hc
    · rename_i h1 h2
      cases hc
      exact op_load h hdst (hd _ hdst) hop h1 h2 hr
    · cases hc
  · rename_i hop hdst
    split at hc
    · rename_i h1 h2 h3 h4
      cases hc
      exact op_store h hb hdst hop h2 h3 h4 hr
    · cases hc
  · rename_i hop hdst
    obtain ⟨y, hy, rfl⟩ := Option.map_eq_some_iff.1 hc
    exact op_nilck h hdst (hd _ hdst) hop hy hr
  · rename_i hop hdst
    split at hc
    · split at hc
      · rename_i h1 h2
        cases hc
        exact op_bin h hdst (hd _ hdst) hop h1 h2 hr
      · cases hc
    · split at hc
      · rename_i hbt
        split at hc
        · rename_i h1 h2 h3
          cases hc
          exact op_beq h hdst (hd _ hdst) hop h1 h2 hbt h3 hr
        · cases hc
      · cases hc
  · rename_i hop hdst
    obtain ⟨y, hy, rfl⟩ := Option.map_eq_some_iff.1 hc
    exact op_un h (t' := 0) hdst (hd _ hdst) hop hy hr
  · rename_i hop hdst
    split at hc
    · rename_i h1 h2 h3
      cases hc
      exact op_cvi h hdst (hd _ hdst) hop h1 h2 h3 hr
    · rename_i h1 h2 h3
      cases hc
      exact op_cvs h hdst (hd _ hdst) hop h1 h2 h3 hr
    · split at hc
      · cases hc
        exact (run_fail hr).elim
      · cases hc
    · split at hc
      · cases hc
        exact (run_fail hr).elim
      · cases hc
    · cases hc
  · rename_i hop hdst
    split at hc
    · rename_i h1 h2
      cases hc
      exact op_mkf h hdst (hd _ hdst) hop h1 h2 hr
    · cases hc
  · rename_i hop hdst
    split at hc
    · rename_i hcon
      obtain ⟨y, hy, rfl⟩ := Option.map_eq_some_iff.1 hc
      exact op_mki h hdst (hd _ hdst) hop (fun v => run_makeInterface w _ v hcon) hy hr
    · cases hc
  · rename_i hop hdst
    split at hc
    · rename_i h0
      split at hc
      · rename_i h2 h3 h4
        split at hc
        · rename_i hcond
          cases hc
          rw [← sameOpd_eq hcond] at hop
          exact op_mks h hb hdst (hd _ hdst) hop h0 h2 h3 h4 hr
        · cases hc
      · cases hc
    · cases hc
  · rename_i hop hdst
    split at hc
    · rename_i h1 h2 h3 h4
      cases hc
      exact op_sslc h hdst (hd _ hdst) hop h1 h2 h3 h4 hr
    · rename_i h1 h2 h3 h4
      split at hc
      · rename_i hs
        cases hc
        obtain ⟨m, hm⟩ := Option.isSome_iff_exists.1 hs
        exact op_slc h hdst (hd _ hdst) hop h1 hm h2 h3 h4 hr
      · cases hc
    · cases hc
  · rename_i hop hdst
    split at hc
    · rename_i h1 h2
      split at hc
      · rename_i hcond
        cases hc
        obtain ⟨m, hm⟩ := Option.isSome_iff_exists.1 hcond.2.2
        exact op_slc0 h hb hdst (hd _ hdst) hop h1 hm h2 hcond.1 hcond.2.1 hr
      · cases hc
    · cases hc
  · rename_i hop hdst
    split at hc
    · rename_i h1 h2
      split at hc
      · rename_i h3
        cases hc
        exact op_fad h hdst (hd _ hdst) hop h1 h3 h2 hr
      · cases hc
    · cases hc
  · rename_i hop hdst
    split at hc
    · rename_i h1
      split at hc
      · rename_i h2 h3
        cases hc
        exact op_fld h hdst (hd _ hdst) hop h1 h2 h3 hr
      · cases hc
    · cases hc
  · rename_i hop hdst
    split at hc
    · rename_i h0
      split at hc
      · rename_i h1 h2 h3
        split at hc
        · cases hc
          exact op_iad h hdst (hd _ hdst) hop h0 h1 h2 h3 hr
        · cases hc
      · cases hc
    · cases hc
  · rename_i hop hdst
    split at hc
    · rename_i h0
      split at hc
      · rename_i h1 h2
        cases hc
        exact op_ix h hdst (hd _ hdst) hop h0 h1 h2 hr
      · cases hc
    · cases hc
  · rename_i hop hdst
    obtain ⟨y, hy, rfl⟩ := Option.map_eq_some_iff.1 hc
    exact op_ext h hdst (hd _ hdst) hop hy hr
  · rename_i hop hdst
    split at hc
    · rename_i ha ht
      have ha' := Array.toList_inj.1 (ha.trans (List.toList_toArray).symm)
      have ht' := Array.toList_inj.1 (ht.trans (List.toList_toArray).symm)
      split at hc
      · rename_i h0
        obtain ⟨y, hy, rfl⟩ := Option.map_eq_some_iff.1 hc
        exact op_slen h hdst (hd _ hdst) hop rfl ha' ht' h0 hy hr
      · rename_i h0
        obtain ⟨y, hy, rfl⟩ := Option.map_eq_some_iff.1 hc
        exact op_len h hdst (hd _ hdst) hop rfl ha' ht' h0 hy hr
      · cases hc
    · cases hc
  · rename_i hop hdst
    split at hc
    · rename_i ha ht
      have ha' := Array.toList_inj.1 (ha.trans (List.toList_toArray).symm)
      have ht' := Array.toList_inj.1 (ht.trans (List.toList_toArray).symm)
      split at hc
      · rename_i h0 _
        split at hc
        · rename_i hcond
          obtain ⟨rfl, rfl⟩ := hcond
          split at hc
          · rename_i h1 h2 h3 h4 h5
            split at hc
            · rename_i hpos
              cases hc
              exact op_app h hb hdst (hd _ hdst) hop rfl ha' ht' h0 h1 h2 h3 hpos.1 h4 h5 hr
            · cases hc
          · cases hc
        · cases hc
      · cases hc
    · cases hc
  · rename_i hop hdst
    split at hc
    · rename_i hcond
      simp only [Bool.and_eq_true, decide_eq_true_eq] at hcond
      obtain ⟨y, hy, rfl⟩ := Option.map_eq_some_iff.1 hc
      exact op_mmx h hdst (hd _ hdst) (isMax := true) hop rfl hcond.1 hy hr
    · cases hc
  · rename_i hop hdst
    split at hc
    · rename_i hcond
      simp only [Bool.and_eq_true, decide_eq_true_eq] at hcond
      obtain ⟨y, hy, rfl⟩ := Option.map_eq_some_iff.1 hc
      exact op_mmx h hdst (hd _ hdst) (isMax := false) hop rfl hcond.1 hy hr
    · cases hc
  · rename_i hop
    split at hc
    · cases hc
    · rename_i hsz
      obtain ⟨y, hy, rfl⟩ := Option.map_eq_some_iff.1 hc
      exact op_call h hb rfl hd hop rfl (Decidable.of_not_not hsz) hy (hS _) (fun c xs => q_given hq _ c xs) hr
  · rename_i hop
    split at hc
    · cases hc
    · rename_i hsz
      obtain ⟨y, hy, rfl⟩ := Option.map_eq_some_iff.1 hc
      have hn := Nat.lt_of_not_le fun h => hsz (.inr h)
      have hsz' := Decidable.of_not_not fun h => hsz (.inl h)
      exact op_calv h hb rfl hd hop hn rfl hsz' hy hS (fun f c xs => q_given hq f c xs) hr
  · cases hc
end Go.Proofs.Ytkoljcjliihiiaa.VM

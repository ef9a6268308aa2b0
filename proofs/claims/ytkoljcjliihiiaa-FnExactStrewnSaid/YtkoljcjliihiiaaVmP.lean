/- The interpreter 'VM': code: what the interpreter says of a function's body, Go comes to. -/
import Derived.Test.YtkoljcjliihiiaaVmG
namespace Go.Proofs.Ytkoljcjliihiiaa.VM
open Go

variable {cx : Cx} {U : Nat → Prop} {ρ : Nat → Value} {F : Nat → Cells} {st : St} {a : Act} {w : World} {Φ : Nat → Option Callee}

/-- The frame stands for the world; its nodes' numbers are below 'next'. -/
def Inv (cx : Cx) (st : St) (a : Act) (w : World) : Prop := (∃ U, (∀ k, U k → k < st.next) ∧ Rel cx U st a w) ∧ Qok st

def Out.exit : Out → Exit
  | .nrm => .normal
  | .ext id => .exit id
  | .ret => .ret

theorem slot_keep (live : List Nat) (s : St) (ns : List (Nat × Option Node)) (n t : Nat) : (({ slots := keep live s, nodes := ns, next := n } : St).slot t = s.slot t) ∨ (({ slots := keep live s, nodes := ns, next := n } : St).slot t = .un) := by
  simp only [St.slot, keep]
  cases hl : look (live.map fun t => (t, (look s.slots t).getD .un)) t with
  | none => exact .inr rfl
  | some v =>
    left
    obtain ⟨t', h1, h2⟩ := List.mem_map.1 (look_mem hl)
    cases h2
    rfl

theorem G.keep (h : G cx U (fun _ _ => False) ρ F st a w) (live : List Nat) (n : Nat) : G cx U (fun _ _ => False) ρ F { slots := VM.keep live st, nodes := st.nodes, next := n } a w where
  slots := fun t => by
    rcases slot_keep live st st.nodes n t with e | e
    · rw [e]; exact h.slots t
    · rw [e]; exact .un _
  ids := fun t => by
    rcases slot_keep live st st.nodes n t with e | e
    · rw [e]; exact h.ids t
    · rw [e]; trivial
  nodes := h.nodes
  used := h.used
  apart := h.apart
  apartX := h.apartX
  mine := h.mine
  mineX := h.mineX
  one := h.one
  kept := h.kept
  zold := h.zold
  size := h.size
  small := h.small
  defers := h.defers

theorem least {p : Nat → Prop} (h : ∃ n, p n) : ∃ n, p n ∧ ∀ m, p m → n ≤ m := by
  classical
  obtain ⟨n, hn⟩ := h
  induction n using Nat.strongRecOn with
  | _ n ih =>
    by_cases hx : ∃ m, m < n ∧ p m
    · obtain ⟨m, h1, h2⟩ := hx
      exact ih m h1 h2
    · exact ⟨n, hn, fun m hm => Nat.le_of_not_lt fun hlt => hx ⟨m, hlt, hm⟩⟩

theorem wp_loop_fuel {P : Program} {Q : Exit → Act → World → Prop} {a : Act} {w : World} {c : Code} (I : Nat → Act → World → Prop) (h0 : ∃ n, I n a w)
    (round : ∀ n a w, I n a w → c.wp P (Exit.then (fun a' w' => ∃ m, m < n ∧ I m a' w') Q) a w) : (Code.loop c).wp P Q a w := by
  classical
  refine wp_loop (fun a w => ∃ n, I n a w) (fun a w => if h : ∃ n, I n a w then Classical.choose (least h) else 0) h0 fun a w hI => ?_
  have hI' := Classical.choose_spec (least hI)
  refine wp_mono (round _ a w hI'.1) fun e a' w' hq => ?_
  cases e <;> simp only [Exit.then] at hq ⊢ <;> try exact hq
  obtain ⟨m, hm, h2⟩ := hq
  refine ⟨⟨m, h2⟩, ?_⟩
  rw [dif_pos hI, dif_pos (⟨m, h2⟩ : ∃ n, I n a' w')]
  exact Nat.lt_of_le_of_lt ((Classical.choose_spec (least ⟨m, h2⟩)).2 m h2) hm

theorem run_cond_t {N n : Nat} {x y : VC} {r : Out × St} (h : run Φ N (.cond (.t n) x y) st = some r) : ∃ t, st.slot n = .a (.bool t) ∧ (if t = true then run Φ N x st else run Φ N y st) = some r := by
  cases hs : st.slot n with
  | a v =>
    cases v with
    | bool t => exact ⟨t, rfl, by simpa [run, hs] using h⟩
    | _ => simp [run, hs] at h
  | _ => simp [run, hs] at h

theorem run_cond_c {N : Nat} {v : Value} {x y : VC} {r : Out × St} (h : run Φ N (.cond (.c v) x y) st = some r) : ∃ t, v = .bool t ∧ (if t = true then run Φ N x st else run Φ N y st) = some r := by
  cases v with
  | bool t => exact ⟨t, rfl, by simpa [run] using h⟩
  | _ => simp [run] at h

theorem run_ok {writes : Nat → Bool} (hΦ : Good cx.P writes Φ) (hm : cx.P.follows .mixedOrders = true) (N : Nat) : ∀ (c : Code) (h h' : List (List Nat)) (vc : VC), comp cx.P cx.n writes c h = some (vc, h') →
    ∀ (st : St) (a : Act) (w : World) (out : Out) (st' : St) (Q : Exit → Act → World → Prop), Inv cx st a w → run Φ N vc st = some (out, st') → (∀ a w, Inv cx st' a w → Q out.exit a w) → c.wp cx.P Q a w := by
  intro c
  induction c with
  | skip =>
    intro h h' vc hc st a w out st' Q hI hr hQ
    simp only [comp, Option.some.injEq, Prod.mk.injEq] at hc
    obtain ⟨rfl, _⟩ := hc
    simp only [run, Option.some.injEq, Prod.mk.injEq] at hr
    obtain ⟨rfl, rfl⟩ := hr
    exact wp_skip (hQ a w hI)
  | region id ops draw =>
    intro h h' vc hc st a w out st' Q hI hr hQ
    cases h with
    | nil => simp [comp] at hc
    | cons l h =>
      simp only [comp] at hc
      split at hc
      · rename_i vs hvs
        split at hc
        · rename_i hcond
          simp only [Option.some.injEq, Prod.mk.injEq] at hc
          obtain ⟨rfl, _⟩ := hc
          simp only [Bool.and_eq_true, List.all_eq_true, Bool.or_eq_true, Bool.not_eq_true', Option.all_eq_true, decide_eq_true_eq] at hcond
          obtain ⟨h1, h2⟩ := hcond
          simp only [run] at hr
          split at hr
          · rename_i s1 hx
            simp only [Option.some.injEq, Prod.mk.injEq] at hr
            obtain ⟨rfl, rfl⟩ := hr
            obtain ⟨⟨U, hU, hrel⟩, hq⟩ := hI
            refine region_ok hΦ hm ⟨hvs, h1⟩ (fun hd => h2.resolve_left (by rw [hd]; simp)) hx hrel hq hU ?_
            intro s'' a' w' U' hs hU' hrel' hq'
            refine hQ a' w' ⟨⟨U', hU', ?_⟩, ?_⟩
            · obtain ⟨ρ', F', hG⟩ := hrel'
              exact ⟨ρ', F', (hG.same hs).keep l _⟩
            · exact fun id ver e es hn => (hq'.same hs) id ver e es hn
          · cases hr
        · cases hc
      · cases hc
  | seq x y ihx ihy =>
    intro h h' vc hc st a w out st' Q hI hr hQ
    simp only [comp] at hc
    split at hc
    · rename_i vx h1 hx
      split at hc
      · rename_i vy h2 hy
        simp only [Option.some.injEq, Prod.mk.injEq] at hc
        obtain ⟨rfl, _⟩ := hc
        simp only [run] at hr
        split at hr
        · rename_i s1 hr1
          exact wp_seq (ihx h h1 vx hx st a w .nrm s1 _ hI hr1 fun a' w' hI' => ihy h1 h2 vy hy s1 a' w' out st' Q hI' hr hQ)
        · rename_i hne
          refine wp_seq (ihx h h1 vx hx st a w out st' _ hI hr fun a' w' hI' => ?_)
          have := hQ a' w' hI'
          cases out with
          | nrm => exact (hne st' hr).elim
          | ext id => exact this
          | ret => exact this
      · cases hc
    · cases hc
  | cond c x y ihx ihy =>
    intro h h' vc hc st a w out st' Q hI hr hQ
    simp only [comp] at hc
    split at hc
    · rename_i c' hcc
      split at hc
      · rename_i vx h1 hx
        split at hc
        · rename_i vy h2 hy
          simp only [Option.some.injEq, Prod.mk.injEq] at hc
          obtain ⟨rfl, _⟩ := hc
          have key : ∀ t, a.eval c = .bool t → (if t then run Φ N vx st else run Φ N vy st) = some (out, st') → (Code.cond c x y).wp cx.P Q a w := by
            intro t ht hr
            refine wp_cond ht ?_
            cases t with
            | true => exact ihx h h1 vx hx st a w out st' Q hI hr hQ
            | false => exact ihy h1 h2 vy hy st a w out st' Q hI hr hQ
          obtain ⟨⟨U, hU, ρ, F, hG⟩, hq⟩ := id hI
          cases c' with
          | t n =>
            obtain ⟨t, hs, hr⟩ := run_cond_t hr
            have hcn : c = .tmp n ∧ n < 10000 := by
              unfold cOpd at hcc
              split at hcc
              · split at hcc
                · cases hcc; exact ⟨rfl, by assumption⟩
                · cases hcc
              · cases hcc
              · cases hcc
              · split at hcc
                · split at hcc <;> cases hcc
                · cases hcc
              · split at hcc <;> cases hcc
            obtain ⟨rfl, hn⟩ := hcn
            exact key t (tmp_bool hn hG hs) hr
          | c v =>
            obtain ⟨t, rfl, hr⟩ := run_cond_c hr
            have hcv : c = .const (.bool t) := by
              unfold cOpd at hcc
              split at hcc
              · split at hcc <;> cases hcc
              · cases hcc
              · cases hcc
              · split at hcc
                · split at hcc <;> cases hcc
                · cases hcc
              · split at hcc <;> cases hcc
                rfl
            subst hcv
            exact key t rfl hr
          | nl e => simp [run] at hr
          | f g => simp [run] at hr
        · cases hc
      · cases hc
    · cases hc
  | block id b ih =>
    intro h h' vc hc st a w out st' Q hI hr hQ
    simp only [comp] at hc
    split at hc
    · rename_i vx h1 hx
      simp only [Option.some.injEq, Prod.mk.injEq] at hc
      obtain ⟨rfl, _⟩ := hc
      simp only [run] at hr
      split at hr
      · rename_i j s1 hr1
        split at hr
        · rename_i hj
          simp only [Option.some.injEq, Prod.mk.injEq] at hr
          obtain ⟨rfl, rfl⟩ := hr
          refine wp_block (ih h h1 vx hx st a w (.ext j) s1 _ hI hr1 fun a' w' hI' => ?_)
          simp only [Out.exit, Exit.inBlock, hj, if_true]
          exact hQ a' w' hI'
        · rename_i hj
          simp only [Option.some.injEq, Prod.mk.injEq] at hr
          obtain ⟨rfl, rfl⟩ := hr
          refine wp_block (ih h h1 vx hx st a w (.ext j) s1 _ hI hr1 fun a' w' hI' => ?_)
          simp only [Out.exit, Exit.inBlock, hj, if_false]
          exact hQ a' w' hI'
      · rename_i hne
        refine wp_block (ih h h1 vx hx st a w out st' _ hI hr fun a' w' hI' => ?_)
        have := hQ a' w' hI'
        cases out with
        | nrm => exact this
        | ext id => exact (hne id st' hr).elim
        | ret => exact this
    · cases hc
  | loop b ih =>
    intro h h' vc hc st a w out st' Q hI hr hQ
    cases h with
    | nil => simp [comp] at hc
    | cons l h =>
      simp only [comp] at hc
      split at hc
      · rename_i vx h1 hx
        simp only [Option.some.injEq, Prod.mk.injEq] at hc
        obtain ⟨rfl, _⟩ := hc
        simp only [run] at hr
        refine wp_loop_fuel (fun n a w => ∃ s, Inv cx s a w ∧ rounds (run Φ N vx) l n s = some (out, st')) ⟨N, st, hI, hr⟩ ?_
        rintro n a w ⟨s, hI, hr⟩
        cases n with
        | zero => simp [rounds] at hr
        | succ n =>
          simp only [rounds] at hr
          have hIn : Inv cx (norm l s) a w := by
            obtain ⟨⟨U, hU, ρ, F, hG⟩, hq⟩ := hI
            obtain ⟨⟨ρ', F', h1⟩, h2⟩ := norm_ok hG hq l
            exact ⟨⟨_, fun k hk => hk, ρ', F', h1⟩, h2⟩
          split at hr
          · rename_i s1 hr1
            exact ih h h1 vx hx _ a w .nrm s1 _ hIn hr1 fun a' w' hI' => ⟨n, Nat.lt_succ_self n, s1, hI', hr⟩
          · rename_i hne
            refine ih h h1 vx hx _ a w out st' _ hIn hr fun a' w' hI' => ?_
            have := hQ a' w' hI'
            cases out with
            | nrm => exact (hne st' hr).elim
            | ext id => exact this
            | ret => exact this
      · cases hc
  | exit id =>
    intro h h' vc hc st a w out st' Q hI hr hQ
    simp only [comp, Option.some.injEq, Prod.mk.injEq] at hc
    obtain ⟨rfl, _⟩ := hc
    simp only [run, Option.some.injEq, Prod.mk.injEq] at hr
    obtain ⟨rfl, rfl⟩ := hr
    exact wp_exit (hQ a w hI)
  | ret =>
    intro h h' vc hc st a w out st' Q hI hr hQ
    simp only [comp, Option.some.injEq, Prod.mk.injEq] at hc
    obtain ⟨rfl, _⟩ := hc
    simp only [run, Option.some.injEq, Prod.mk.injEq] at hr
    obtain ⟨rfl, rfl⟩ := hr
    exact wp_ret (hQ a w hI)
  | _ =>
    intros
    rename_i hc _ _ _ _ _ _ _ _ _
    simp [comp] at hc
end Go.Proofs.Ytkoljcjliihiiaa.VM

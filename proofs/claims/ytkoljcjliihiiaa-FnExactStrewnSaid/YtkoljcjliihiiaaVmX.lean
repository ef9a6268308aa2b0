/- The interpreter 'VM': regions: operations in the order of the text, and in every order that Go leaves open. -/
import Derived.Test.YtkoljcjliihiiaaVmW
namespace Go.Proofs.Ytkoljcjliihiiaa.VM
open Go

variable {cx : Cx} {U : Nat → Prop} {ρ : Nat → Value} {F : Nat → Cells} {st : St} {a : Act} {w : World} {Φ : Nat → Option Callee}

theorem Same.refl (st : St) : Same st st := ⟨fun _ => rfl, fun _ => rfl⟩
theorem Same.symm {s s' : St} (h : Same s s') : Same s' s := ⟨fun t => (h.slot t).symm, fun i => (h.node i).symm⟩
theorem Same.trans {s s1 s2 : St} (h : Same s s1) (h' : Same s1 s2) : Same s s2 := ⟨fun t => (h.slot t).trans (h'.slot t), fun i => (h.node i).trans (h'.node i)⟩

theorem same_run {α : Type} : ∀ (m : M α) {s s' : St} (_ : Same s s') {x : α} {r : St}, m.run s = some (x, r) → ∃ r', m.run s' = some (x, r') ∧ Same r r'
  | .pure y, s, s', h, x, r, hr => by
    cases run_pure hr
    exact ⟨s', rfl, h⟩
  | .fail, s, s', h, x, r, hr => (run_fail hr).elim
  | .getS t k, s, s', h, x, r, hr => by
    simp only [M.run] at hr ⊢
    rw [← h.slot t]
    exact same_run (k _) h hr
  | .setS t v k, s, s', h, x, r, hr => by
    simp only [M.run] at hr ⊢
    exact same_run k (s := { s with slots := (t, v) :: s.slots }) (s' := { s' with slots := (t, v) :: s'.slots }) ⟨fun t' => by rw [slot_set, slot_set, h.slot], h.node⟩ hr
  | .getN id k, s, s', h, x, r, hr => by
    simp only [M.run] at hr ⊢
    rw [← h.node id]
    exact same_run (k _) h hr
  | .setN id n k, s, s', h, x, r, hr => by
    simp only [M.run] at hr ⊢
    exact same_run k (s := { s with nodes := (id, n) :: s.nodes }) (s' := { s' with nodes := (id, n) :: s'.nodes }) ⟨h.slot, fun i => by rw [node_set, node_set, h.node]⟩ hr

theorem Same.shape {s s' : St} (h : Same s s') : shapeOf s = shapeOf s' := by
  funext id
  simp only [shapeOf, h.node id]

theorem G.same {X : Cells} {s s' : St} (h : G cx U X ρ F s a w) (e : Same s s') : G cx U X ρ F s' a w where
  slots := fun t => by have := h.slots t; rwa [e.slot t, e.shape] at this
  ids := fun t => by have := h.ids t; rwa [e.slot t] at this
  nodes := fun id n hn => by have := h.nodes id n (by rw [e.node id]; exact hn); rwa [e.shape] at this
  used := fun id n hn => h.used id n (by rw [e.node id]; exact hn)
  apart := fun i j hij h1 h2 => h.apart i j hij (by rw [e.node i]; exact h1) (by rw [e.node j]; exact h2)
  apartX := fun i h1 => h.apartX i (by rw [e.node i]; exact h1)
  mine := fun i h1 => h.mine i (by rw [e.node i]; exact h1)
  mineX := h.mineX
  one := h.one
  kept := h.kept
  zold := h.zold
  size := h.size
  small := h.small
  defers := h.defers

theorem Qok.same {s s' : St} (h : Qok s) (e : Same s s') : Qok s' := fun id ver ee es hn => h id ver ee es (by rw [e.node id]; exact hn)

/-! ### one operation -/
/-- All functions of the table keep what they say. -/
structure Good (P : Program) (writes : Nat → Bool) (Φ : Nat → Option Callee) : Prop where
  sound : ∀ f c, Φ f = some c → Sound P f c
  still : ∀ f c, Φ f = some c → writes f = false → Still c

theorem Good.nofz {P : Program} {writes : Nat → Bool} (h : Good P writes Φ) : ∀ f, Nofz (Φ f) := by
  intro f c hc hk
  exact (h.sound f c hc).nofz hk

theorem cOp_dst {P : Program} {ops : Array Oper} {o : Oper} {v : VOp} (h : cOp P ops o = some v) : v.dst = o.dst := by
  unfold cOp at h
  repeat' split at h
  all_goals first
    | (cases h; done)
    | (obtain ⟨_, _, rfl⟩ := Option.map_eq_some_iff.1 h; simp only [VOp.dst]; first | rfl | (symm; assumption) | done)
    | (cases h; simp only [VOp.dst]; first | rfl | (symm; assumption))

theorem cOper_spec {P : Program} {ops : Array Oper} {o : Oper} {v : VOper} (h : cOper P ops o = some v) :
    cOp P ops o = some v.op ∧ ((o.guard = none ∧ v.guard = none) ∨ ∃ j b t, o.guard = some (j, b) ∧ (ops[j]?).bind (·.dst) = some t ∧ v.guard = some (t, b) ∧ v.dst = o.dst) := by
  unfold cOper at h
  split at h
  · cases h
  · rename_i x hx
    split at h
    · cases h
      rename_i hg
      exact ⟨hx, .inl ⟨hg, rfl⟩⟩
    · rename_i j b hg
      split at h
      · rename_i t ht
        cases h
        exact ⟨hx, .inr ⟨j, b, t, hg, ht, rfl, rfl⟩⟩
      · cases h

theorem tmp_bool {t : Nat} (ht : t < 10000) (h : G cx U (fun _ _ => False) ρ F st a w) {v : Value} (hs : st.slot t = .a v) : a.tmps.getD t undef = v := by
  have := slot_tr h ht
  rw [hs] at this
  cases this
  rfl

theorem op_step {writes : Nat → Bool} (hΦ : Good cx.P writes Φ) (h : G cx U (fun _ _ => False) ρ F st a w) (hq : Qok st) {b : Nat} (hb : ∀ i, b ≤ i → i < b + 100 → ¬ U i) {ops : Array Oper} {i : Nat} {o : Oper} {v : VOper}
    (hi : ops[i]? = some o) (hc : cOper cx.P ops o = some v) (hd : ∀ d, o.dst = some d → d < cx.n) (hg : ∀ t b, v.guard = some (t, b) → t < cx.n) {s1 : St} (hr : (execG Φ b v).run st = some ((), s1))
    {Q : Exit → Act → World → Prop} {K : Act → World → Prop} (hK : ∀ a w, Rel cx (Win U b) s1 a w → K a w) : wpOp cx.P ops Q i K a w := by
  unfold wpOp
  rw [hi]
  simp only
  obtain ⟨hop, hgd⟩ := cOper_spec hc
  rcases hgd with ⟨g1, g2⟩ | ⟨j, want, t, g1, g2, g3, g4⟩
  · rw [if_pos (by simp [Region.wanted, g1])]
    refine .inl ?_
    unfold execG at hr
    rw [g2] at hr
    exact (op_any hΦ.sound h hq hb hop hd hr).wp hK
  · have htn : t < cx.n := hg t want g3
    have ht : t < 10000 := Nat.lt_of_lt_of_le htn h.small
    unfold execG at hr
    rw [g3] at hr
    simp only at hr
    obtain ⟨u, s2, h1, h2⟩ := run_bind_some hr
    cases run_getS h1
    have htm : ∀ v, st.slot t = .a v → a.tmps[t]? = some v := by
      intro v hv
      have := tmp_bool ht h hv
      rw [Array.getD_eq_getD_getElem?] at this
      have hlt : t < a.tmps.size := by rw [h.size]; exact htn
      rw [Array.getElem?_eq_getElem hlt] at this ⊢
      simpa using this
    have hw : Region.wanted o (yielded ops a.tmps) = (yielded ops a.tmps j == some want) := by simp [Region.wanted, g1]
    have skip : (putO v.dst TV.none).run st = some ((), s1) → K (a.put o.dst undef) w := by
      intro hp
      rw [g4] at hp
      refine hK _ _ ?_
      cases hdst : o.dst with
      | none =>
        rw [hdst] at hp
        cases run_pure hp
        exact ⟨ρ, F, h.more fun _ h => .inl h⟩
      | some d =>
        rw [hdst] at hp
        cases run_setS hp
        exact (h.rel_put (hd d hdst) (.a _) trivial).more fun _ h => .inl h
    split at h2
    · rename_i g hs
      have hy : yielded ops a.tmps j = some g := by simp [yielded, g2, htm _ hs]
      split at h2
      · rename_i hgw
        subst hgw
        rw [if_pos (by rw [hw, hy]; simp)]
        exact .inl ((op_any hΦ.sound h hq hb hop hd h2).wp hK)
      · rename_i hgw
        rw [if_neg (by rw [hw, hy]; simpa using hgw)]
        exact skip h2
    · rename_i g hs
      have hy : yielded ops a.tmps j = none := by simp [yielded, g2, htm _ hs]
      rw [if_neg (by rw [hw, hy]; simp)]
      exact skip h2
    · exact (run_fail h2).elim

/-! ### a list of operations, each with its nodes' first number -/
def runL (Φ : Nat → Option Callee) : List (Nat × VOper) → St → Option St
  | [], s => some s
  | (b, o) :: r, s => match (execG Φ b o).run s with
    | some (_, s') => runL Φ r s'
    | none => none

def numbered : Nat → List VOper → List (Nat × VOper)
  | _, [] => []
  | b, o :: os => (b, o) :: numbered (b + 100) os

theorem execs_eq : ∀ (os : List VOper) (b : Nat) (s : St), execs Φ b os s = runL Φ (numbered b os) s
  | [], b, s => rfl
  | o :: os, b, s => by
    simp only [execs, numbered, runL]
    cases (execG Φ b o).run s with
    | none => rfl
    | some r => exact execs_eq os _ _

theorem runL_same : ∀ (l : List (Nat × VOper)) {s s' : St} (_ : Same s s') {r : St}, runL Φ l s = some r → ∃ r', runL Φ l s' = some r' ∧ Same r r'
  | [], s, s', h, r, hr => by cases hr; exact ⟨s', rfl, h⟩
  | (b, o) :: l, s, s', h, r, hr => by
    simp only [runL] at hr ⊢
    split at hr
    · rename_i u s1 h1
      obtain ⟨s1', h2, h3⟩ := same_run _ h h1
      rw [h2]
      exact runL_same l h3 hr
    · cases hr

theorem apart_swap {writes : Nat → Bool} {P : Program} (hΦ : Good P writes Φ) {x y : VOper} (hdx : x.guard = none ∨ x.op.dst = x.dst) (hdy : y.guard = none ∨ y.op.dst = y.dst) (h : apartOps writes x y = true) {bx bY : Nat} {s s1 s2 : St}
    (h1 : (execG Φ bx x).run s = some ((), s1)) (h2 : (execG Φ bY y).run s1 = some ((), s2)) : ∃ s1' s2', (execG Φ bY y).run s = some ((), s1') ∧ (execG Φ bx x).run s1' = some ((), s2') ∧ Same s2' s2 := by
  simp only [apartOps, Bool.and_eq_true, List.all_eq_true, Bool.not_eq_true', Bool.and_eq_false_iff, Option.mem_toList, List.contains_eq_mem, decide_eq_false_iff_not, beq_eq_false_iff_ne, bne_eq_false_iff_eq] at h
  obtain ⟨⟨⟨h3, h4⟩, h5⟩, h6⟩ := h
  refine loc_comm (l_execG hΦ.still bx x hdx) (l_execG hΦ.still bY y hdy) (fun t ht => ?_) (fun t ht hr => ?_) (fun hw => ?_) (fun hw hr => ?_) h1 h2
  · obtain ⟨k1, k2⟩ := h3 t ht
    exact ⟨k1, fun hh => k2 hh⟩
  · exact h4 t ht hr
  · rcases h5 with h5 | h5
    · exact absurd hw h5
    · rw [h5]; exact ⟨by omega, by omega⟩
  · rcases h6 with h6 | h6
    · exact absurd hw h6
    · rw [h6] at hr; omega

theorem pull_front {writes : Nat → Bool} {P : Program} (hΦ : Good P writes Φ) {y : Nat × VOper} (hdy : y.2.guard = none ∨ y.2.op.dst = y.2.dst) {post : List (Nat × VOper)} : ∀ (pre : List (Nat × VOper)), (∀ x ∈ pre, apartOps writes x.2 y.2 = true ∧ (x.2.guard = none ∨ x.2.op.dst = x.2.dst)) →
    ∀ {s r : St}, runL Φ (pre ++ y :: post) s = some r → ∃ r', runL Φ (y :: (pre ++ post)) s = some r' ∧ Same r r'
  | [], _, s, r, h => ⟨r, h, .refl r⟩
  | (bx, x) :: pre, hp, s, r, h => by
    simp only [List.cons_append, runL] at h
    split at h
    · rename_i u s1 h1
      obtain ⟨r', h2, h3⟩ := pull_front hΦ hdy pre (fun x hx => hp x (by simp [hx])) h
      obtain ⟨bY, y⟩ := y
      simp only [runL] at h2
      split at h2
      · rename_i u' s2 h4
        obtain ⟨s1', s2', k1, k2, k3⟩ := apart_swap hΦ (hp (bx, x) (by simp)).2 hdy (hp (bx, x) (by simp)).1 h1 h4
        obtain ⟨r'', k4, k5⟩ := runL_same _ k3.symm h2
        refine ⟨r'', ?_, h3.trans k5⟩
        simp only [List.cons_append, runL, k1, k2]
        exact k4
      · cases h2
    · cases h

/-! ### what comes before -/
theorem before_inner (acc : Array Nat) (i : Nat) : ∀ (es : List Edge) (s : Nat), (es.foldl (fun s e => if Region.binds .any e then s ||| 2 ^ e.on ||| acc.getD e.on 0 else s) s).testBit i = true →
    s.testBit i = true ∨ ∃ e ∈ es, Region.binds .any e = true ∧ (e.on = i ∨ (acc.getD e.on 0).testBit i = true)
  | [], s, h => .inl h
  | e :: es, s, h => by
    simp only [List.foldl_cons] at h
    rcases before_inner acc i es _ h with h | ⟨e', h1, h2⟩
    · split at h
      · rename_i hb
        simp only [Nat.testBit_or, Bool.or_eq_true, Nat.testBit_two_pow, decide_eq_true_eq] at h
        rcases h with (h | h) | h
        · exact .inl h
        · exact .inr ⟨e, by simp, hb, .inl h⟩
        · exact .inr ⟨e, by simp, hb, .inr h⟩
      · exact .inl h
    · exact .inr ⟨e', by simp [h1], h2⟩

theorem before_spec (ops : Array Oper) : (Region.before ops).size = ops.size ∧ ∀ (j i : Nat) (o : Oper), ops[j]? = some o → ((Region.before ops).getD j 0).testBit i = true →
    ∃ e ∈ o.after, Region.binds .any e = true ∧ (e.on = i ∨ (e.on < j ∧ ((Region.before ops).getD e.on 0).testBit i = true)) := by
  have key : ∀ (l : List Oper) (acc : Array Nat) (done : List Oper), acc.size = done.length → (∀ (j i : Nat) (o : Oper), done[j]? = some o → (acc.getD j 0).testBit i = true →
      ∃ e ∈ o.after, Region.binds .any e = true ∧ (e.on = i ∨ (e.on < j ∧ (acc.getD e.on 0).testBit i = true))) →
      let r := l.foldl (fun acc (o : Oper) => acc.push (o.after.foldl (fun s e => if Region.binds .any e then s ||| 2 ^ e.on ||| acc.getD e.on 0 else s) 0)) acc
      r.size = (done ++ l).length ∧ ∀ (j i : Nat) (o : Oper), (done ++ l)[j]? = some o → (r.getD j 0).testBit i = true →
      ∃ e ∈ o.after, Region.binds .any e = true ∧ (e.on = i ∨ (e.on < j ∧ (r.getD e.on 0).testBit i = true)) := by
    intro l
    induction l with
    | nil =>
      intro acc done hs hacc
      simp only [List.foldl_nil, List.append_nil]
      exact ⟨hs, hacc⟩
    | cons o l ih =>
      intro acc done hs hacc
      simp only [List.foldl_cons]
      have hpush : ∀ (x k : Nat), k < done.length → (acc.push x).getD k 0 = acc.getD k 0 := by
        intro x k hk
        simp only [Array.getD_eq_getD_getElem?]
        rw [Array.getElem?_push_lt (by omega)]
        rw [Array.getElem?_eq_getElem (by omega)]
      have := ih (acc.push (o.after.foldl (fun s e => if Region.binds .any e then s ||| 2 ^ e.on ||| acc.getD e.on 0 else s) 0)) (done ++ [o]) (by simp [hs]) ?_
      · simpa using this
      · intro j i o' hj hb
        rcases Nat.lt_trichotomy j done.length with hlt | heq | hgt
        · rw [List.getElem?_append_left hlt] at hj
          rw [hpush _ _ hlt] at hb
          obtain ⟨e, h1, h2, h3⟩ := hacc j i o' hj hb
          refine ⟨e, h1, h2, h3.imp id fun h => ⟨h.1, ?_⟩⟩
          rw [hpush _ _ (by omega)]; exact h.2
        · subst heq
          simp only [List.getElem?_concat_length, Option.some.injEq] at hj
          subst hj
          rw [Array.getD_eq_getD_getElem?, ← hs, Array.getElem?_push_size, Option.getD_some, ← Array.foldl_toList] at hb
          rcases before_inner acc i _ 0 hb with h | ⟨e, h1, h2, h3⟩
          · simp at h
          · refine ⟨e, by simpa using h1, h2, h3.imp id fun h => ?_⟩
            have hlt : e.on < done.length := by
              apply Nat.lt_of_not_le
              intro hle
              rw [Array.getD_eq_getD_getElem?, Array.getElem?_eq_none (by omega)] at h
              simp at h
            rw [hpush _ _ hlt]
            exact ⟨hlt, h⟩
        · rw [List.getElem?_eq_none (by simp; omega)] at hj
          cases hj
  have := key ops.toList #[] [] rfl (by simp)
  simp only [List.nil_append] at this
  unfold Region.before
  rw [← Array.foldl_toList]
  exact ⟨by rw [this.1]; simp, fun j i o hj => this.2 j i o (by simpa using hj)⟩

/-- What is listed has all before it listed. -/
def Closed (ops : Array Oper) (listed : Array Bool) : Prop := ∀ (j : Nat) (o : Oper), ops[j]? = some o → listed.getD j false = true → ∀ e ∈ o.after, Region.binds .any e = true → listed.getD e.on false = true

theorem before_listed {ops : Array Oper} {listed : Array Bool} (hcl : Closed ops listed) : ∀ (j : Nat) (o : Oper), ops[j]? = some o → (∀ e ∈ o.after, Region.binds .any e = true → listed.getD e.on false = true) →
    ∀ i, ((Region.before ops).getD j 0).testBit i = true → listed.getD i false = true := by
  intro j
  induction j using Nat.strongRecOn with
  | _ j ih =>
    intro o ho hall i hb
    obtain ⟨e, h1, h2, h3⟩ := (before_spec ops).2 j i o ho hb
    rcases h3 with rfl | ⟨hlt, h4⟩
    · exact hall e h1 h2
    · have hl := hall e h1 h2
      cases he : ops[e.on]? with
      | none =>
        have : ops.size ≤ e.on := by simpa using he
        rw [Array.getD_eq_getD_getElem?, Array.getElem?_eq_none (by rw [(before_spec ops).1]; exact this)] at h4
        simp at h4
      | some o' => exact ih e.on hlt o' he (hcl e.on o' he hl) i h4
end Go.Proofs.Ytkoljcjliihiiaa.VM

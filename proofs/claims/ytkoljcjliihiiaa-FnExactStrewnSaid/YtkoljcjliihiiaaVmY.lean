/- The interpreter 'VM': a region's operations, in whatever order Go leaves open, come to what the interpreter says. -/
import Derived.Test.YtkoljcjliihiiaaVmX
namespace Go.Proofs.Ytkoljcjliihiiaa.VM
open Go

variable {cx : Cx} {U : Nat → Prop} {ρ : Nat → Value} {F : Nat → Cells} {st : St} {a : Act} {w : World} {Φ : Nat → Option Callee}

theorem cOpers_get {P : Program} {ops : Array Oper} : ∀ {l : List Oper} {vs : List VOper}, cOpers P ops l = some vs → vs.length = l.length ∧ ∀ (i : Nat) o, l[i]? = some o → ∃ v, vs[i]? = some v ∧ cOper P ops o = some v
  | [], vs, h => by cases h; simp
  | o :: l, vs, h => by
    simp only [cOpers] at h
    split at h
    · rename_i v vs' h1 h2
      cases h
      obtain ⟨k1, k2⟩ := cOpers_get h2
      refine ⟨by simp [k1], fun i o' hi => ?_⟩
      cases i with
      | zero => simp only [List.getElem?_cons_zero, Option.some.injEq] at hi; subst hi; exact ⟨v, by simp, h1⟩
      | succ i => simpa using k2 i o' (by simpa using hi)
    · cases h

/-- What is asked of a region's operations. -/
structure RegOk (cx : Cx) (ops : Array Oper) (vs : List VOper) : Prop where
  code : cOpers cx.P ops ops.toList = some vs
  dsts : ∀ v ∈ vs, (∀ d, v.op.dst = some d → d < cx.n) ∧ ∀ d, v.dst = some d → d < cx.n

theorem RegOk.get {ops : Array Oper} {vs : List VOper} (h : RegOk cx ops vs) {i : Nat} {o : Oper} (hi : ops[i]? = some o) : ∃ v, vs[i]? = some v ∧ cOper cx.P ops o = some v ∧ (∀ d, o.dst = some d → d < cx.n) ∧
    (∀ t b, v.guard = some (t, b) → t < cx.n) ∧ (v.guard = none ∨ v.op.dst = v.dst) := by
  obtain ⟨v, h1, h2⟩ := (cOpers_get h.code).2 i o (by simpa using hi)
  have hdst : ∀ (k : Nat) (o' : Oper) d, ops[k]? = some o' → o'.dst = some d → d < cx.n := by
    intro k o' d hk hd
    obtain ⟨v', k1, k2⟩ := (cOpers_get h.code).2 k o' (by simpa using hk)
    refine (h.dsts v' (List.mem_of_getElem? k1)).1 d ?_
    rw [cOp_dst (cOper_spec k2).1, hd]
  refine ⟨v, h1, h2, fun d hd => hdst i o d hi hd, ?_, ?_⟩
  · intro t b hg
    rcases (cOper_spec h2).2 with ⟨_, g2⟩ | ⟨j, b', t', g1, g2, g3, g4⟩
    · rw [g2] at hg; cases hg
    · rw [g3] at hg
      cases hg
      cases hj : ops[j]? with
      | none => rw [hj] at g2; cases g2
      | some o' =>
        rw [hj] at g2
        exact hdst j o' t hj (by simpa using g2)
  · rcases (cOper_spec h2).2 with ⟨_, g2⟩ | ⟨j, b', t', g1, g2, g3, g4⟩
    · exact .inl g2
    · exact .inr ((cOp_dst (cOper_spec h2).1).trans g4.symm)

def item (vs : List VOper) (b0 i : Nat) : Nat × VOper := (b0 + 100 * i, vs.getD i default)

theorem numbered_items (vs : List VOper) (b0 : Nat) : numbered b0 vs = (List.range vs.length).map (item vs b0) := by
  have key : ∀ (l : List VOper) (pre : List VOper), numbered (b0 + 100 * pre.length) l = (List.range' pre.length l.length).map (item (pre ++ l) b0) := by
    intro l
    induction l with
    | nil => intro pre; rfl
    | cons v l ih =>
      intro pre
      simp only [numbered, List.length_cons, List.range'_succ, List.map_cons]
      have := ih (pre ++ [v])
      simp only [List.length_append, List.length_singleton, List.append_assoc, List.singleton_append] at this
      rw [show b0 + 100 * pre.length + 100 = b0 + 100 * (pre.length + 1) by omega, this]
      congr 1
      simp [item]
  have := key vs []
  simpa [List.range_eq_range'] using this

theorem mem_item {vs : List VOper} {b0 i : Nat} {v : VOper} (h : vs[i]? = some v) : item vs b0 i = (b0 + 100 * i, v) := by simp [item, h]

/-! ### in the order of the text -/
theorem text_ok {writes : Nat → Bool} (hΦ : Good cx.P writes Φ) {ops : Array Oper} {vs : List VOper} (hR : RegOk cx ops vs) {b0 : Nat} {Q : Exit → Act → World → Prop} {s' : St}
    (hQ : ∀ a w U, (∀ k, U k → k < b0 + 100 * ops.size) → Rel cx U s' a w → Qok s' → Q .normal a w) :
    ∀ (n i : Nat) (st : St) (a : Act) (w : World) (U : Nat → Prop), i + n = ops.size → Rel cx U st a w → Qok st → (∀ k, U k → k < b0 + 100 * i) → runL Φ ((List.range' i n).map (item vs b0)) st = some s' → wpOps cx.P ops Q (List.range' i n) a w
  | 0, i, st, a, w, U, hin, h, hq, hU, hr => by
    cases hr
    exact hQ a w U (fun k hk => Nat.lt_of_lt_of_le (hU k hk) (by omega)) h hq
  | n + 1, i, st, a, w, U, hin, h, hq, hU, hr => by
    have hlt : i < ops.size := by omega
    obtain ⟨v, h1, h2, h3, h4, h5⟩ := hR.get (Array.getElem?_eq_getElem hlt)
    simp only [List.range'_succ, List.map_cons, mem_item h1, runL] at hr
    split at hr
    · rename_i u s1 hx
      obtain ⟨ρ, F, hG⟩ := h
      rw [List.range'_succ, wpOps_cons]
      refine op_step hΦ hG hq (fun k hk _ hu => ?_) (Array.getElem?_eq_getElem hlt) h2 h3 h4 hx ?_
      · exact absurd (hU k hu) (by omega)
      · intro a w hrel
        refine text_ok hΦ hR hQ n (i + 1) s1 a w _ (by omega) hrel (q_execG hΦ.nofz _ _ _ _ _ hx hq).1 ?_ hr
        rintro k (hk | hk)
        · exact Nat.lt_of_lt_of_le (hU k hk) (by omega)
        · omega
    · cases hr

/-! ### in any order -/
theorem drawOk_spec {writes : Nat → Bool} {before : List Nat} {vs : List VOper} (h : drawOk writes before vs = true) {i j : Nat} (hij : i < j) {x y : VOper} (hx : vs[i]? = some x) (hy : vs[j]? = some y) (hl : before.length = vs.length) :
    (before.getD j 0).testBit i = true ∨ apartOps writes x y = true := by
  have mem : ∀ (k : Nat) (z : VOper), vs[k]? = some z → ((z, k), before.getD k 0) ∈ vs.zipIdx.zip before := by
    intro k z hz
    have hk : k < vs.length := (List.getElem?_eq_some_iff.1 hz).1
    have hb : k < before.length := by omega
    apply List.mem_of_getElem? (i := k)
    rw [List.getElem?_zip_eq_some]
    refine ⟨?_, ?_⟩
    · rw [List.getElem?_zipIdx, hz]; simp
    · rw [List.getD_eq_getElem?_getD, List.getElem?_eq_getElem hb]; rfl
  unfold drawOk at h
  simp only [List.all_eq_true] at h
  have := h _ (mem j y hy) _ (mem i x hx)
  simpa [hij] using this

theorem backOk_spec {ops : Array Oper} (h : backOk ops = true) {i : Nat} {o : Oper} (hi : ops[i]? = some o) : ∀ e ∈ o.after, Region.binds .any e = true → e.on < i := by
  intro e he hb
  unfold backOk at h
  simp only [List.all_eq_true] at h
  have := h (o, i) (List.mem_of_getElem? (i := i) (by rw [List.getElem?_zipIdx]; simp [hi]))
  simp only [Array.all_eq_true_iff_forall_mem] at this
  have := this e he
  simpa [hb] using this

theorem any_ok {writes : Nat → Bool} (hΦ : Good cx.P writes Φ) {ops : Array Oper} {vs : List VOper} (hR : RegOk cx ops vs) (hD : drawOk writes (Region.before ops).toList vs = true) (hB : backOk ops = true) {b0 : Nat} {Q : Exit → Act → World → Prop} {s' : St}
    (hQ : ∀ s'' a w U, Same s'' s' → (∀ k, U k → k < b0 + 100 * ops.size) → Rel cx U s'' a w → Qok s'' → Q .normal a w) :
    ∀ (n : Nat) (rem : List Nat) (listed : Array Bool) (st : St) (a : Act) (w : World) (U : Nat → Prop), rem.length = n → rem.Pairwise (· < ·) → (∀ i, i ∈ rem ↔ i < ops.size ∧ listed.getD i true = false) → listed.size = ops.size → Closed ops listed →
      Rel cx U st a w → Qok st → (∀ k, U k → k < b0 + 100 * ops.size) → (∀ i ∈ rem, ∀ k, b0 + 100 * i ≤ k → k < b0 + 100 * i + 100 → ¬ U k) → ∀ s1, runL Φ (rem.map (item vs b0)) st = some s1 → Same s1 s' → wpAny cx.P .any ops Q n listed a w := by
  intro n
  induction n with
  | zero =>
    intro rem listed st a w U hlen hasc hmem hsz hcl h hq hU hfr s1 hr hs
    have hrem : rem = [] := List.length_eq_zero_iff.1 hlen
    subst hrem
    refine ⟨?_, ?_⟩
    · rw [List.eq_nil_iff_forall_not_mem]
      intro j hj
      obtain ⟨h1, o, h2, _⟩ := mem_ready.1 hj
      have := (hmem j).2 ⟨(Array.getElem?_eq_some_iff.1 h2).1, h1⟩
      cases this
    · cases hr
      exact hQ _ a w U hs hU h hq
  | succ n ih =>
    intro rem listed st a w U hlen hasc hmem hsz hcl h hq hU hfr s1 hr hs
    have hgt : ∀ i, i < ops.size → i ∉ rem → listed.getD i false = true := by
      intro i hi hn
      have hlt : i < listed.size := by omega
      have := mt (hmem i).2 hn
      simp only [Array.getD_eq_getD_getElem?, Array.getElem?_eq_getElem hlt, Option.getD_some] at this ⊢
      simpa [hi] using this
    refine ⟨?_, ?_⟩
    · intro hnil
      cases hrem : rem with
      | nil => rw [hrem] at hlen; cases hlen
      | cons i0 rest =>
        exfalso
        obtain ⟨k1, k2⟩ := (hmem i0).1 (by simp [hrem])
        have : i0 ∈ Region.ready .any ops listed := by
          rw [mem_ready]
          refine ⟨k2, _, Array.getElem?_eq_getElem k1, fun e he hb => ?_⟩
          have hlt := backOk_spec hB (Array.getElem?_eq_getElem k1) e he hb
          refine hgt e.on (by omega) fun hin => ?_
          rw [hrem] at hin hasc
          rcases List.mem_cons.1 hin with rfl | hin
          · omega
          · have := (List.pairwise_cons.1 hasc).1 _ hin
            omega
        rw [hnil] at this
        cases this
    · intro i hi
      obtain ⟨k1, o, k2, k3⟩ := mem_ready.1 hi
      have hin : i ∈ rem := (hmem i).2 ⟨(Array.getElem?_eq_some_iff.1 k2).1, k1⟩
      obtain ⟨pre, post, rfl⟩ := List.append_of_mem hin
      obtain ⟨v, h1, h2, h3, h4, h5⟩ := hR.get k2
      rw [List.map_append, List.map_cons] at hr
      have hpre : ∀ x ∈ pre.map (item vs b0), apartOps writes x.2 (item vs b0 i).2 = true ∧ (x.2.guard = none ∨ x.2.op.dst = x.2.dst) := by
        intro x hx
        obtain ⟨j, hj, rfl⟩ := List.mem_map.1 hx
        have hji : j < i := (List.pairwise_append.1 hasc).2.2 j hj i (by simp)
        have hjs := (hmem j).1 (by simp [hj])
        obtain ⟨vj, m1, m2, m3, m4, m5⟩ := hR.get (Array.getElem?_eq_getElem hjs.1)
        rw [mem_item m1, mem_item h1]
        refine ⟨?_, m5⟩
        rcases drawOk_spec hD hji m1 h1 (by rw [(cOpers_get hR.code).1, Array.length_toList, Array.length_toList, (before_spec ops).1]) with hb | hap
        · have : listed.getD j false = true := before_listed hcl i o k2 k3 j (by simpa [List.getD_eq_getElem?_getD, Array.getD_eq_getD_getElem?] using hb)
          have hlt : j < listed.size := by omega
          simp only [Array.getD_eq_getD_getElem?, Array.getElem?_eq_getElem hlt, Option.getD_some] at this hjs
          rw [this] at hjs
          cases hjs.2
        · exact hap
      obtain ⟨s2, hr2, hs2⟩ := pull_front hΦ (y := item vs b0 i) (by rw [mem_item h1]; exact h5) _ hpre hr
      rw [mem_item h1] at hr2
      simp only [runL] at hr2
      split at hr2
      · rename_i u st1 hx
        obtain ⟨ρ, F, hG⟩ := h
        refine op_step hΦ hG hq (hfr i hin) k2 h2 h3 h4 hx fun a' w' hrel => ?_
        rw [← List.map_append] at hr2
        have hni : ∀ j ∈ pre ++ post, j ≠ i := by
          intro j hj he
          subst he
          rcases List.mem_append.1 hj with hj | hj
          · exact Nat.lt_irrefl _ ((List.pairwise_append.1 hasc).2.2 j hj j (by simp))
          · exact Nat.lt_irrefl _ ((List.pairwise_cons.1 (List.pairwise_append.1 hasc).2.1).1 j hj)
        have hilt : i < ops.size := (Array.getElem?_eq_some_iff.1 k2).1
        refine ih (pre ++ post) _ st1 a' w' _ ?_ ?_ ?_ ?_ ?_ hrel (q_execG hΦ.nofz _ _ _ _ _ hx hq).1 ?_ ?_ s2 hr2 (hs2.symm.trans hs)
        · simp only [List.length_append, List.length_cons] at hlen ⊢; omega
        · exact hasc.sublist (List.Sublist.append (List.Sublist.refl _) (List.sublist_cons_self _ _))
        · intro j
          by_cases hji : j = i
          · subst hji
            simp only [Array.getD_eq_getD_getElem?, Array.getElem?_setIfInBounds_self]
            constructor
            · intro hj; exact absurd rfl (hni j hj)
            · rintro ⟨_, hj⟩; simp [hsz, hilt] at hj
          · rw [getD_set_ne true (Ne.symm hji), ← hmem j]
            simp [hji]
        · simpa using hsz
        · intro j oj hj hl e he hb
          by_cases hji : j = i
          · subst hji
            rw [k2] at hj
            cases hj
            exact getD_set_true (k3 e he hb)
          · rw [getD_set_ne false (Ne.symm hji)] at hl
            exact getD_set_true (hcl j oj hj hl e he hb)
        · rintro k (hk | hk)
          · exact hU k hk
          · omega
        · rintro j hj k hk1 hk2 (hk | hk)
          · refine hfr j ?_ k hk1 hk2 hk
            rcases List.mem_append.1 hj with h | h
            · simp [h]
            · simp [h]
          · have := hni j hj
            omega
      · cases hr2

/-! ### a region -/
theorem region_ok {writes : Nat → Bool} (hΦ : Good cx.P writes Φ) (hm : cx.P.follows .mixedOrders = true) {ops : Array Oper} {vs : List VOper} (hR : RegOk cx ops vs) {draw : Bool} (hD : draw = true → backOk ops = true ∧ drawOk writes (Region.before ops).toList vs = true)
    {id : Nat} {Q : Exit → Act → World → Prop} {s' : St} {n : Nat} (hr : execs Φ n vs st = some s') (h : Rel cx U st a w) (hq : Qok st) (hU : ∀ k, U k → k < n)
    (hQ : ∀ s'' a w U, Same s'' s' → (∀ k, U k → k < n + 100 * vs.length) → Rel cx U s'' a w → Qok s'' → Q .normal a w) : (Code.region id ops draw).wp cx.P Q a w := by
  have hlen : vs.length = ops.size := by rw [(cOpers_get hR.code).1, Array.length_toList]
  rw [execs_eq, numbered_items, hlen] at hr
  rw [hlen] at hQ
  cases draw with
  | false =>
    refine wp_region ?_
    rw [List.range_eq_range'] at hr ⊢
    exact text_ok hΦ hR (fun a w U hU h hq => hQ s' a w U (.refl _) hU h hq) ops.size 0 st a w U (by omega) h hq (by simpa using hU) hr
  | true =>
    obtain ⟨hB, hD⟩ := hD rfl
    refine wp_region_any hm ?_
    obtain ⟨ρ, F, hG⟩ := h
    have hG' : G cx U (fun _ _ => False) ρ F st a { w with drawn := w.drawn + 1 } := hG.drew
    refine any_ok hΦ hR hD hB hQ ops.size (List.range ops.size) _ st a _ U (by simp) (List.pairwise_lt_range) ?_ (by simp) ?_ ⟨ρ, F, hG'⟩ hq ?_ ?_ s' hr (.refl _)
    · intro i
      simp only [List.mem_range, Array.getD_eq_getD_getElem?, Array.getElem?_replicate]
      constructor
      · intro hi; simp [hi]
      · exact fun h => h.1
    · intro j o hj hl
      have hlt : j < ops.size := (Array.getElem?_eq_some_iff.1 hj).1
      simp [Array.getD_eq_getD_getElem?, Array.getElem?_replicate, hlt] at hl
    · intro k hk
      exact Nat.lt_of_lt_of_le (hU k hk) (by omega)
    · intro i _ k hk _ hu
      exact absurd (hU k hu) (by omega)
end Go.Proofs.Ytkoljcjliihiiaa.VM

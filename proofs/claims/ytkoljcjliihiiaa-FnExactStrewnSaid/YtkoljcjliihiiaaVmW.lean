/- The interpreter 'VM': what an operation of a region reads and writes, and that such ones commute. -/
import Derived.Test.YtkoljcjliihiiaaVmU
namespace Go.Proofs.Ytkoljcjliihiiaa.VM
open Go

/-- Slots that may be read and written; may nodes be read, be written? -/
def Loc {α : Type} (R W : Nat → Prop) (rn wn : Prop) : M α → Prop
  | .pure _ => True
  | .fail => True
  | .getS t k => R t ∧ ∀ v, Loc R W rn wn (k v)
  | .setS t _ k => W t ∧ Loc R W rn wn k
  | .getN _ k => rn ∧ ∀ n, Loc R W rn wn (k n)
  | .setN _ _ k => wn ∧ Loc R W rn wn k

theorem Loc.bind {α β : Type} {R W : Nat → Prop} {rn wn : Prop} {m : M α} (h : Loc R W rn wn m) {k : α → M β} (hk : ∀ x, Loc R W rn wn (k x)) : Loc R W rn wn (m.bind k) := by
  induction m with
  | pure x => exact hk x
  | fail => exact trivial
  | getS t k' ih => exact ⟨h.1, fun v => ih v (h.2 v)⟩
  | setS t v k' ih => exact ⟨h.1, ih h.2⟩
  | getN id k' ih => exact ⟨h.1, fun v => ih v (h.2 v)⟩
  | setN id n k' ih => exact ⟨h.1, ih h.2⟩

theorem Loc.mono {α : Type} {R W R' W' : Nat → Prop} {rn wn rn' wn' : Prop} (hR : ∀ t, R t → R' t) (hW : ∀ t, W t → W' t) (hr : rn → rn') (hw : wn → wn') : ∀ {m : M α}, Loc R W rn wn m → Loc R' W' rn' wn' m
  | .pure _, _ => trivial
  | .fail, _ => trivial
  | .getS _ _, h => ⟨hR _ h.1, fun v => Loc.mono hR hW hr hw (h.2 v)⟩
  | .setS _ _ _, h => ⟨hW _ h.1, Loc.mono hR hW hr hw h.2⟩
  | .getN _ _, h => ⟨hr h.1, fun v => Loc.mono hR hW hr hw (h.2 v)⟩
  | .setN _ _ _, h => ⟨hw h.1, Loc.mono hR hW hr hw h.2⟩

theorem look_append {α : Type} : ∀ (l r : List (Nat × α)) (k : Nat), look (l ++ r) k = (look l k).or (look r k)
  | [], r, k => by simp [look]
  | (j, v) :: l, r, k => by
    simp only [List.cons_append, look]
    split
    · rfl
    · exact look_append l r k

theorem look_none {α : Type} : ∀ {l : List (Nat × α)} {k : Nat}, (∀ x ∈ l, x.1 ≠ k) → look l k = none
  | [], _, _ => rfl
  | (j, v) :: l, k, h => by
    simp only [look]
    rw [if_neg (h (j, v) (by simp))]
    exact look_none fun x hx => h x (by simp [hx])

/-- Two frames that are alike. -/
structure Same (s s' : St) : Prop where
  slot : ∀ t, s.slot t = s'.slot t
  node : ∀ id, s.node id = s'.node id

/-- What a computation does is the same in frames that agree on what it reads. -/
theorem loc_run {α : Type} {R W : Nat → Prop} {rn wn : Prop} : ∀ {m : M α}, Loc R W rn wn m → ∀ {st : St} {r : α} {s : St}, m.run st = some (r, s) →
    ∃ ds dn, s = ⟨ds ++ st.slots, dn ++ st.nodes, st.next⟩ ∧ (∀ x ∈ ds, W x.1) ∧ (¬ wn → dn = []) ∧
      ∀ st' : St, (∀ t, R t → st'.slot t = st.slot t) → (rn → ∀ id, st'.node id = st.node id) → m.run st' = some (r, ⟨ds ++ st'.slots, dn ++ st'.nodes, st'.next⟩)
  | .pure x, _, st, r, s, h => by
    cases run_pure h
    exact ⟨[], [], rfl, by simp, fun _ => rfl, fun st' _ _ => rfl⟩
  | .fail, _, st, r, s, h => (run_fail h).elim
  | .getS t k, hl, st, r, s, h => by
    obtain ⟨ds, dn, e, h1, h2, h3⟩ := loc_run (hl.2 (st.slot t)) h
    refine ⟨ds, dn, e, h1, h2, fun st' ha hb => ?_⟩
    simp only [M.run]
    rw [ha t hl.1]
    exact h3 st' ha hb
  | .setS t v k, hl, st, r, s, h => by
    obtain ⟨ds, dn, e, h1, h2, h3⟩ := loc_run hl.2 h
    refine ⟨ds ++ [(t, v)], dn, by simpa using e, fun x hx => ?_, h2, fun st' ha hb => ?_⟩
    · rcases List.mem_append.1 hx with hx | hx
      · exact h1 x hx
      · simp only [List.mem_singleton] at hx; subst hx; exact hl.1
    · have := h3 { st' with slots := (t, v) :: st'.slots } (fun t' ht => by rw [slot_set, slot_set, ha t' ht]) hb
      simpa [M.run] using this
  | .getN id k, hl, st, r, s, h => by
    obtain ⟨ds, dn, e, h1, h2, h3⟩ := loc_run (hl.2 (st.node id)) h
    refine ⟨ds, dn, e, h1, h2, fun st' ha hb => ?_⟩
    simp only [M.run]
    rw [hb hl.1 id]
    exact h3 st' ha hb
  | .setN id n k, hl, st, r, s, h => by
    obtain ⟨ds, dn, e, h1, h2, h3⟩ := loc_run hl.2 h
    refine ⟨ds, dn ++ [(id, n)], by simpa using e, h1, fun hw => absurd hl.1 hw, fun st' ha hb => ?_⟩
    have := h3 { st' with nodes := (id, n) :: st'.nodes } ha (fun hr id' => by rw [node_set, node_set, hb hr id'])
    simpa [M.run] using this

theorem slot_app {ds : List (Nat × TV)} {st : St} {dn : List (Nat × Option Node)} {t : Nat} : ({ slots := ds ++ st.slots, nodes := dn ++ st.nodes, next := st.next } : St).slot t = ((look ds t).or (look st.slots t)).getD .un := by
  simp [St.slot, look_append]
theorem node_app {ds : List (Nat × TV)} {st : St} {dn : List (Nat × Option Node)} {id : Nat} : ({ slots := ds ++ st.slots, nodes := dn ++ st.nodes, next := st.next } : St).node id = ((look dn id).or (look st.nodes id)).getD none := by
  simp [St.node, look_append]

/-- Computations that do not touch one another commute. -/
theorem loc_comm {α β : Type} {R1 W1 R2 W2 : Nat → Prop} {rn1 wn1 rn2 wn2 : Prop} {m1 : M α} {m2 : M β} (h1 : Loc R1 W1 rn1 wn1 m1) (h2 : Loc R2 W2 rn2 wn2 m2) (hs1 : ∀ t, W1 t → ¬ R2 t ∧ ¬ W2 t) (hs2 : ∀ t, W2 t → ¬ R1 t)
    (hn1 : wn1 → ¬ rn2 ∧ ¬ wn2) (hn2 : wn2 → ¬ rn1) {st s1 s2 : St} {x : α} {y : β} (hr1 : m1.run st = some (x, s1)) (hr2 : m2.run s1 = some (y, s2)) :
    ∃ s1' s2', m2.run st = some (y, s1') ∧ m1.run s1' = some (x, s2') ∧ Same s2' s2 := by
  obtain ⟨ds1, dn1, rfl, w1, n1, k1⟩ := loc_run h1 hr1
  obtain ⟨ds2, dn2, rfl, w2, n2, k2⟩ := loc_run h2 hr2
  have no1 : ∀ t, R2 t → look ds1 t = none := fun t ht => look_none fun z hz e => (hs1 z.1 (w1 z hz)).1 (e ▸ ht)
  have no2 : ∀ t, R1 t → look ds2 t = none := fun t ht => look_none fun z hz e => hs2 z.1 (w2 z hz) (e ▸ ht)
  have e1 : m2.run st = some (y, ⟨ds2 ++ st.slots, dn2 ++ st.nodes, st.next⟩) := by
    refine k2 st (fun t ht => ?_) fun hr id => ?_
    · rw [slot_app, no1 t ht]; simp [St.slot]
    · have : dn1 = [] := n1 fun hw => (hn1 hw).1 hr
      subst this
      rw [node_app]; simp [look, St.node]
  have e2 := k1 ⟨ds2 ++ st.slots, dn2 ++ st.nodes, st.next⟩ (fun t ht => by rw [slot_app, no2 t ht]; simp [St.slot]) (fun hr id => by
    have : dn2 = [] := n2 fun hw => hn2 hw hr
    subst this
    rw [node_app]; simp [look, St.node])
  refine ⟨_, _, e1, e2, fun t => ?_, fun id => ?_⟩
  · simp only [St.slot, look_append]
    by_cases hw : W1 t
    · have : look ds2 t = none := look_none fun z hz e => (hs1 t hw).2 (e ▸ w2 z hz)
      rw [this]; simp
    · have : look ds1 t = none := look_none fun z hz e => hw (e ▸ w1 z hz)
      rw [this]; simp
  · simp only [St.node, look_append]
    by_cases hw : wn1
    · have : dn2 = [] := n2 (hn1 hw).2
      subst this
      simp [look]
    · have := n1 hw
      subst this
      simp [look]

/-! ### the operations' footprints -/
section
variable {R W : Nat → Prop} {rn wn : Prop}

theorem l_pure {α : Type} (x : α) : Loc R W rn wn (M.pure x) := trivial
theorem l_fail {α : Type} : Loc R W rn wn (M.fail : M α) := trivial
theorem l_getS {t : Nat} (h : R t) : Loc R W rn wn (getS t) := ⟨h, fun _ => trivial⟩
theorem l_setS {t : Nat} (h : W t) (v : TV) : Loc R W rn wn (setS t v) := ⟨h, trivial⟩
theorem l_getN {id : Nat} (h : rn) : Loc R W rn wn (getN id) := ⟨h, fun _ => trivial⟩
theorem l_setN {id : Nat} (h : wn) (n : Option Node) : Loc R W rn wn (setN id n) := ⟨h, trivial⟩
theorem l_liftO {α : Type} (x : Option α) : Loc R W rn wn (liftO x) := by cases x <;> trivial

theorem l_opd {x : Opd} (h : ∀ t ∈ x.used, R t) : Loc R W rn wn (opd x) := by
  cases x with
  | t n => exact l_getS (h n (by simp [Opd.used]))
  | _ => trivial

theorem l_opds : ∀ {xs : List Opd} (_ : ∀ t ∈ xs.flatMap Opd.used, R t), Loc R W rn wn (opds xs)
  | [], _ => trivial
  | x :: xs, h => (l_opd fun t ht => h t (by simp [ht])).bind fun _ => (l_opds fun t ht => h t (by
      simp only [List.flatMap_cons, List.mem_append]; exact .inr ht)).bind fun _ => l_pure _

theorem l_bound {x : Option Opd} (h : ∀ t ∈ (x.map Opd.used).getD [], R t) : Loc R W rn wn (bound x) := by
  cases x with
  | none => trivial
  | some y =>
    refine (l_opd h).bind fun u => ?_
    split <;> trivial


theorem l_loadAt (h : rn) (w : Option Nat) (v : TV) : Loc R W rn wn (loadAt w v) := by unfold loadAt; (repeat' (first | exact l_pure _ | exact l_fail | exact l_liftO _ | (refine Loc.bind (l_liftO _) (fun _ => ?_)) | (refine Loc.bind (l_getN (by assumption)) (fun _ => ?_)) | (refine Loc.bind (l_setN (by assumption) _) (fun _ => ?_)) | exact l_setN (by assumption) _ | split))
theorem l_elems (h : rn) (v : TV) : Loc R W rn wn (elems v) := by unfold elems; (repeat' (first | exact l_pure _ | exact l_fail | exact l_liftO _ | (refine Loc.bind (l_liftO _) (fun _ => ?_)) | (refine Loc.bind (l_getN (by assumption)) (fun _ => ?_)) | (refine Loc.bind (l_setN (by assumption) _) (fun _ => ?_)) | exact l_setN (by assumption) _ | split))
theorem l_sliceAt (h : rn) (e : Nat) (v : TV) (lo hi : Option Int) : Loc R W rn wn (sliceAt e v lo hi) := by unfold sliceAt; (repeat' (first | exact l_pure _ | exact l_fail | exact l_liftO _ | (refine Loc.bind (l_liftO _) (fun _ => ?_)) | (refine Loc.bind (l_getN (by assumption)) (fun _ => ?_)) | (refine Loc.bind (l_setN (by assumption) _) (fun _ => ?_)) | exact l_setN (by assumption) _ | split))
theorem l_strAt (v : TV) (lo hi : Option Int) : Loc R W rn wn (strAt v lo hi) := by unfold strAt; (repeat' (first | exact l_pure _ | exact l_fail | exact l_liftO _ | (refine Loc.bind (l_liftO _) (fun _ => ?_)) | (refine Loc.bind (l_getN (by assumption)) (fun _ => ?_)) | (refine Loc.bind (l_setN (by assumption) _) (fun _ => ?_)) | exact l_setN (by assumption) _ | split))
theorem l_fieldAt (h : rn) (o : Nat) (v : TV) : Loc R W rn wn (fieldAt o v) := by unfold fieldAt; (repeat' (first | exact l_pure _ | exact l_fail | exact l_liftO _ | (refine Loc.bind (l_liftO _) (fun _ => ?_)) | (refine Loc.bind (l_getN (by assumption)) (fun _ => ?_)) | (refine Loc.bind (l_setN (by assumption) _) (fun _ => ?_)) | exact l_setN (by assumption) _ | split))
theorem l_indexAt (h : rn) (e m : Nat) (v : TV) (i : Int) : Loc R W rn wn (indexAt e m v i) := by
  unfold indexAt
  refine (l_elems h _).bind fun _ => ?_
  (repeat' (first | exact l_pure _ | exact l_fail | exact l_liftO _ | (refine Loc.bind (l_liftO _) (fun _ => ?_)) | (refine Loc.bind (l_getN (by assumption)) (fun _ => ?_)) | (refine Loc.bind (l_setN (by assumption) _) (fun _ => ?_)) | exact l_setN (by assumption) _ | split))

theorem l_toPV (h : rn) (h2 : wn) (x : TV) : Loc R W rn wn (toPV x) := by unfold toPV; (repeat' (first | exact l_pure _ | exact l_fail | exact l_liftO _ | (refine Loc.bind (l_liftO _) (fun _ => ?_)) | (refine Loc.bind (l_getN (by assumption)) (fun _ => ?_)) | (refine Loc.bind (l_setN (by assumption) _) (fun _ => ?_)) | exact l_setN (by assumption) _ | split))
theorem l_toPVs (h : rn) (h2 : wn) : ∀ (xs : List TV), Loc R W rn wn (toPVs xs)
  | [] => trivial
  | x :: xs => (l_toPV h h2 x).bind fun _ => (l_toPVs h h2 xs).bind fun _ => l_pure _
theorem l_toEl (h : rn) (h2 : wn) (fl : Bool) (x : TV) : Loc R W rn wn (toEl fl x) := by
  unfold toEl
  split
  · split
    · exact (l_liftO _).bind fun _ => l_pure _
    · exact (l_toPVs h h2 _).bind fun _ => l_pure _
  · split
    · exact (l_liftO _).bind fun _ => l_pure _
    · exact l_toPV h h2 _
theorem l_bslM (h : rn) (h2 : wn) (fl : Bool) (m : Nat) : ∀ (ps : List (Nat × Opd)) (_ : ∀ t ∈ ps.flatMap (·.2.used), R t) (q : Bool) (es : List PV), Loc R W rn wn (bslM fl m ps q es)
  | [], _, q, es => trivial
  | (i, x) :: ps, hR, q, es => by
    unfold bslM
    refine (l_opd fun t ht => hR t (by simp [ht])).bind fun v => (l_toEl h h2 fl v).bind fun y => ?_
    split
    · exact l_bslM h h2 fl m ps (fun t ht => hR t (by simp only [List.flatMap_cons, List.mem_append]; exact .inr ht)) _ _
    · trivial
theorem l_buildM : ∀ (ps : List (Nat × Nat × Opd)) (_ : ∀ t ∈ ps.flatMap (·.2.2.used), R t) (cs : List TV), Loc R W rn wn (buildM ps cs)
  | [], _, cs => trivial
  | (o, w, x) :: ps, hR, cs => by
    unfold buildM
    refine (l_opd fun t ht => hR t (by simp [ht])).bind fun v => ?_
    split
    · exact l_buildM ps (fun t ht => hR t (by simp only [List.flatMap_cons, List.mem_append]; exact .inr ht)) _
    · trivial
theorem l_storeAt (h : rn) (h2 : wn) (b w : Nat) (x y : TV) : Loc R W rn wn (storeAt b w x y) := by
  unfold storeAt
  split
  · unfold storeBox; (repeat' (first | exact l_pure _ | exact l_fail | exact l_liftO _ | (refine Loc.bind (l_liftO _) (fun _ => ?_)) | (refine Loc.bind (l_getN (by assumption)) (fun _ => ?_)) | (refine Loc.bind (l_setN (by assumption) _) (fun _ => ?_)) | exact l_setN (by assumption) _ | split))
  · unfold storeBox; (repeat' (first | exact l_pure _ | exact l_fail | exact l_liftO _ | (refine Loc.bind (l_liftO _) (fun _ => ?_)) | (refine Loc.bind (l_getN (by assumption)) (fun _ => ?_)) | (refine Loc.bind (l_setN (by assumption) _) (fun _ => ?_)) | exact l_setN (by assumption) _ | split))
  · refine (l_toPVs h h2 _).bind fun _ => ?_
    (repeat' (first | exact l_pure _ | exact l_fail | exact l_liftO _ | (refine Loc.bind (l_liftO _) (fun _ => ?_)) | (refine Loc.bind (l_getN (by assumption)) (fun _ => ?_)) | (refine Loc.bind (l_setN (by assumption) _) (fun _ => ?_)) | exact l_setN (by assumption) _ | split))
  · trivial
theorem l_appendM (h : rn) (h2 : wn) (b e bytes : Nat) (mv : Bool) (x y : TV) : Loc R W rn wn (appendM b e bytes mv x y) := by
  unfold appendM
  have h1 : Loc R W rn wn (appTo e x) := by unfold appTo; (repeat' (first | exact l_pure _ | exact l_fail | exact l_liftO _ | (refine Loc.bind (l_liftO _) (fun _ => ?_)) | (refine Loc.bind (l_getN (by assumption)) (fun _ => ?_)) | (refine Loc.bind (l_setN (by assumption) _) (fun _ => ?_)) | exact l_setN (by assumption) _ | split))
  have h3 : Loc R W rn wn (appOf e mv y) := by
    unfold appOf
    split
    · (repeat' (first | exact l_pure _ | exact l_fail | exact l_liftO _ | (refine Loc.bind (l_liftO _) (fun _ => ?_)) | (refine Loc.bind (l_getN (by assumption)) (fun _ => ?_)) | (refine Loc.bind (l_setN (by assumption) _) (fun _ => ?_)) | exact l_setN (by assumption) _ | split))
    · refine (l_elems h _).bind fun _ => ?_
      (repeat' (first | exact l_pure _ | exact l_fail | exact l_liftO _ | (refine Loc.bind (l_liftO _) (fun _ => ?_)) | (refine Loc.bind (l_getN (by assumption)) (fun _ => ?_)) | (refine Loc.bind (l_setN (by assumption) _) (fun _ => ?_)) | exact l_setN (by assumption) _ | split))
  refine h1.bind fun _ => h3.bind fun _ => ?_
  (repeat' (first | exact l_pure _ | exact l_fail | exact l_liftO _ | (refine Loc.bind (l_liftO _) (fun _ => ?_)) | (refine Loc.bind (l_getN (by assumption)) (fun _ => ?_)) | (refine Loc.bind (l_setN (by assumption) _) (fun _ => ?_)) | exact l_setN (by assumption) _ | split))

mutual
theorem l_freeze (h : rn) (z : Bool) : ∀ (k n : Nat) (x : TV), Loc R W rn wn (freeze z k n x)
  | 0, n, x => by unfold freeze; trivial
  | k + 1, n, x => by
    unfold freeze
    split
    · trivial
    · trivial
    · trivial
    · exact (l_freezeL h z k _).bind fun _ => l_pure _
    · exact (l_freezeL h z k _).bind fun _ => (l_freezeL h z k _).bind fun _ => l_pure _
    · exact (l_freeze h z k _ _).bind fun _ => l_pure _
    · trivial
    · split
      · trivial
      · refine (l_getN h).bind fun _ => ?_
        split
        · trivial
        · exact (l_freezeL h z k _).bind fun _ => l_pure _
        · trivial
    · (repeat' (first | exact l_pure _ | exact l_fail | exact l_liftO _ | (refine Loc.bind (l_liftO _) (fun _ => ?_)) | (refine Loc.bind (l_getN (by assumption)) (fun _ => ?_)) | (refine Loc.bind (l_setN (by assumption) _) (fun _ => ?_)) | exact l_setN (by assumption) _ | split))
    · (repeat' (first | exact l_pure _ | exact l_fail | exact l_liftO _ | (refine Loc.bind (l_liftO _) (fun _ => ?_)) | (refine Loc.bind (l_getN (by assumption)) (fun _ => ?_)) | (refine Loc.bind (l_setN (by assumption) _) (fun _ => ?_)) | exact l_setN (by assumption) _ | split))
    · split
      · trivial
      · refine (l_getN h).bind fun _ => ?_
        split
        · split
          · exact (l_freezeL h z k _).bind fun _ => l_pure _
          · trivial
        · trivial
    · trivial
theorem l_freezeL (h : rn) (z : Bool) : ∀ (k : Nat) (xs : List TV), Loc R W rn wn (freezeL z k xs)
  | 0, xs => by unfold freezeL; trivial
  | k + 1, [] => by unfold freezeL; trivial
  | k + 1, x :: xs => by
    unfold freezeL
    exact (l_freeze h z k 0 x).bind fun _ => (l_freezeL h z k xs).bind fun _ => l_pure _
end

mutual
theorem l_pack (h : rn) (h2 : wn) (z : Bool) : ∀ (k : Nat) (x : TV), Loc R W rn wn (pack z k x)
  | 0, x => by unfold pack; trivial
  | k + 1, x => by
    unfold pack
    split
    · trivial
    · trivial
    · split <;> trivial
    · exact (l_packL h h2 z k _).bind fun _ => l_pure _
    · exact (l_packL h h2 z k _).bind fun _ => (l_packL h h2 z k _).bind fun _ => l_pure _
    · exact (l_pack h h2 z k _).bind fun _ => l_pure _
    · refine (l_getN h).bind fun _ => ?_
      split
      · split
        · trivial
        · exact (l_setN h2 _).bind fun _ => l_pure _
      · split
        · trivial
        · exact (l_setN h2 _).bind fun _ => (l_packL h h2 z k _).bind fun _ => l_pure _
      · trivial
    · trivial
    · trivial
theorem l_packL (h : rn) (h2 : wn) (z : Bool) : ∀ (k : Nat) (xs : List TV), Loc R W rn wn (packL z k xs)
  | 0, xs => by unfold packL; trivial
  | k + 1, [] => by unfold packL; trivial
  | k + 1, x :: xs => by
    unfold packL
    exact (l_pack h h2 z k x).bind fun _ => (l_packL h h2 z k xs).bind fun _ => l_pure _
end

mutual
theorem l_unpack (h2 : wn) (q : Bool) : ∀ (c : CV) (b : Nat), Loc R W rn wn (unpack q b c)
  | .a _, b => by unfold unpack; trivial
  | .sl z e es, b => by
    unfold unpack
    split
    · trivial
    · exact (l_setN h2 _).bind fun _ => l_pure _
  | .bx z cs, b => by unfold unpack; exact (l_unpackL h2 q cs _).bind fun _ => (l_setN h2 _).bind fun _ => l_pure _
  | .st cs, b => by unfold unpack; exact (l_unpackL h2 q cs _).bind fun _ => l_pure _
  | .tp cs, b => by unfold unpack; exact (l_unpackL h2 q cs _).bind fun _ => l_pure _
  | .fn f fs cs, b => by unfold unpack; exact (l_unpackL h2 q fs _).bind fun _ => (l_unpackL h2 q cs _).bind fun _ => l_pure _
  | .ic t c, b => by unfold unpack; exact (l_unpack h2 q c _).bind fun _ => l_pure _
  | .un, b => by unfold unpack; trivial
theorem l_unpackL (h2 : wn) (q : Bool) : ∀ (cs : List CV) (b : Nat), Loc R W rn wn (unpackL q b cs)
  | [], b => by unfold unpackL; trivial
  | c :: cs, b => by unfold unpackL; exact (l_unpack h2 q c _).bind fun _ => (l_unpackL h2 q cs _).bind fun _ => l_pure _
end

mutual
theorem l_restore (h : rn) (h2 : wn) (q : Bool) (V : Nat) : ∀ (x : TV) (c0 y : CV) (b : Nat), Loc R W rn wn (restore q V b x c0 y)
  | .rf id, c0, y, b => by
    cases c0 with
    | sl z0 e0 es0 =>
      cases y with
      | sl z e es =>
        cases z0 <;> cases z <;> simp only [restore]
        · (repeat' (first | exact l_pure _ | exact l_fail | exact l_liftO _ | (refine Loc.bind (l_liftO _) (fun _ => ?_)) | (refine Loc.bind (l_getN (by assumption)) (fun _ => ?_)) | (refine Loc.bind (l_setN (by assumption) _) (fun _ => ?_)) | exact l_setN (by assumption) _ | split))
        all_goals trivial
      | _ => simp only [restore]; trivial
    | bx z0 cs0 =>
      cases y with
      | bx z cs =>
        cases z0 <;> cases z <;> simp only [restore]
        · refine (l_getN h).bind fun _ => ?_
          split
          · exact (l_unpackL h2 q cs _).bind fun _ => (l_setN h2 _).bind fun _ => l_pure _
          · trivial
        all_goals trivial
      | _ => simp only [restore]; trivial
    | _ => simp only [restore]; trivial
  | .fn f fs cs, c0, y, b => by
    cases c0 with
    | fn f0 fs0 cs0 =>
      cases y with
      | fn f1 fs1 cs1 => simp only [restore]; exact (l_restoreL h h2 q V fs fs0 fs1 b).bind fun _ => l_restoreL h h2 q V cs cs0 cs1 _
      | _ => simp only [restore]; trivial
    | _ => simp only [restore]; trivial
  | .st cs, c0, y, b => by
    cases c0 with
    | st cs0 =>
      cases y with
      | st cs1 => simp only [restore]; exact l_restoreL h h2 q V cs cs0 cs1 b
      | _ => simp only [restore]; trivial
    | _ => simp only [restore]; trivial
  | .ic t x, c0, y, b => by
    cases c0 with
    | ic t0 x0 =>
      cases y with
      | ic t1 x1 => simp only [restore]; exact l_restore h h2 q V x x0 x1 b
      | _ => simp only [restore]; trivial
    | _ => simp only [restore]; trivial
  | .a _, c0, y, b => by simp only [restore]; trivial
  | .nl _, c0, y, b => by simp only [restore]; trivial
  | .ri _ _ _, c0, y, b => by simp only [restore]; trivial
  | .sb _ _ _, c0, y, b => by simp only [restore]; trivial
  | .ad _ _, c0, y, b => by simp only [restore]; trivial
  | .ea _ _ _ _, c0, y, b => by simp only [restore]; trivial
  | .ei _ _ _ _ _ _, c0, y, b => by simp only [restore]; trivial
  | .sz _ _, c0, y, b => by simp only [restore]; trivial
  | .ez _ _, c0, y, b => by simp only [restore]; trivial
  | .tp _, c0, y, b => by simp only [restore]; trivial
  | .un, c0, y, b => by simp only [restore]; trivial
theorem l_restoreL (h : rn) (h2 : wn) (q : Bool) (V : Nat) : ∀ (xs : List TV) (cs0 ys : List CV) (b : Nat), Loc R W rn wn (restoreL q V b xs cs0 ys)
  | [], cs0, ys, b => by simp only [restoreL]; trivial
  | x :: xs, [], ys, b => by simp only [restoreL]; trivial
  | x :: xs, c0 :: cs0, [], b => by simp only [restoreL]; trivial
  | x :: xs, c0 :: cs0, y :: ys, b => by simp only [restoreL]; exact (l_restore h h2 q V x c0 y b).bind fun _ => l_restoreL h h2 q V xs cs0 ys _
end

theorem l_show (h : rn) (keeps : Bool) : ∀ (ms : List Md) (xs : List TV) (ys : List CV), Loc R W rn wn (show_ keeps ms xs ys)
  | [], [], [] => by unfold show_; trivial
  | .ro n :: ms, x :: xs, y :: ys => by unfold show_; exact (l_freeze h keeps depth n x).bind fun _ => (l_show h keeps ms xs ys).bind fun _ => l_pure _
  | .mut _ :: ms, _ :: xs, y :: ys => by unfold show_; exact (l_show h keeps ms xs ys).bind fun _ => l_pure _
  | [], [], _ :: _ => by unfold show_; trivial
  | [], _ :: _, _ => by unfold show_; trivial
  | .ro _ :: _, [], _ => by unfold show_; trivial
  | .ro _ :: _, _ :: _, [] => by unfold show_; trivial
  | .mut _ :: _, [], _ => by unfold show_; trivial
  | .mut _ :: _, _ :: _, [] => by unfold show_; trivial

theorem l_lend (h : rn) (h2 : wn) (keeps : Bool) : ∀ (ms : List Md) (xs : List TV), Loc R W rn wn (lend keeps ms xs)
  | [], [] => by unfold lend; trivial
  | .ro n :: ms, x :: xs => by unfold lend; exact (l_lend h h2 keeps ms xs).bind fun _ => l_pure _
  | .mut n :: ms, x :: xs => by
    have h0 : Loc R W rn wn (lend0 keeps x) := by
      unfold lend0
      split
      · exact l_pure _
      · exact l_pack h h2 keeps depth x
    unfold lend
    exact h0.bind fun _ => (l_lend h h2 keeps ms xs).bind fun _ => l_pure _
  | [], _ :: _ => by unfold lend; trivial
  | .ro _ :: _, [] => by unfold lend; trivial
  | .mut _ :: _, [] => by unfold lend; trivial

theorem l_lendI (h : rn) (h2 : wn) (keeps : Bool) (v : Nat) : ∀ (ms : List Md) (xs : List TV) (ys : List CV), Loc R W rn wn (lendI keeps v ms xs ys)
  | [], [], [] => by unfold lendI; trivial
  | .ro n :: ms, x :: xs, y :: ys => by unfold lendI; exact (l_lendI h h2 keeps v ms xs ys).bind fun _ => l_pure _
  | .mut n :: ms, x :: xs, y :: ys => by
    unfold lendI
    refine (?_ : Loc R W rn wn (lend1 keeps v x y)).bind fun _ => (l_lendI h h2 keeps v ms xs ys).bind fun _ => l_pure _
    unfold lend1
    split
    · refine (l_getN h).bind fun _ => ?_
      split
      · split
        · trivial
        · split
          · exact (l_setN h2 _).bind fun _ => l_pure _
          · trivial
      · trivial
    · exact l_pure _
  | [], [], _ :: _ => by unfold lendI; trivial
  | [], _ :: _, _ => by unfold lendI; trivial
  | .ro _ :: _, [], _ => by unfold lendI; trivial
  | .ro _ :: _, _ :: _, [] => by unfold lendI; trivial
  | .mut _ :: _, [], _ => by unfold lendI; trivial
  | .mut _ :: _, _ :: _, [] => by unfold lendI; trivial

theorem l_back1 (h : rn) (h2 : wn) (q : Bool) (V b : Nat) (x : TV) (c f : CV) : Loc R W rn wn (back1 q V b x c f) := by
  unfold back1
  split
  · split
    · refine (l_getN h).bind fun _ => ?_
      split
      · split
        · exact (l_setN h2 _).bind fun _ => l_pure _
        · trivial
      · trivial
    · trivial
  · exact l_restore h h2 q V x c f b

theorem l_takeBack (h : rn) (h2 : wn) (q : Bool) (V : Nat) : ∀ (ms : List Md) (xs : List TV) (cs fs : List CV) (b : Nat), Loc R W rn wn (takeBack q V b ms xs cs fs)
  | [], [], [], [], b => by simp only [takeBack]; trivial
  | .ro _ :: ms, x :: xs, c :: cs, fs, b => by simp only [takeBack]; exact l_takeBack h h2 q V ms xs cs fs b
  | .mut _ :: ms, x :: xs, c :: cs, f :: fs, b => by simp only [takeBack]; exact (l_back1 h h2 q V b x c f).bind fun _ => l_takeBack h h2 q V ms xs cs fs _
  | [], _ :: _, _, _, b => by simp only [takeBack]; trivial
  | [], [], _ :: _, _, b => by simp only [takeBack]; trivial
  | [], [], [], _ :: _, b => by simp only [takeBack]; trivial
  | .ro _ :: _, [], _, _, b => by simp only [takeBack]; trivial
  | .ro _ :: _, _ :: _, [], _, b => by simp only [takeBack]; trivial
  | .mut _ :: _, [], _, _, b => by simp only [takeBack]; trivial
  | .mut _ :: _, _ :: _, [], _, b => by simp only [takeBack]; trivial
  | .mut _ :: _, _ :: _, _ :: _, [], b => by simp only [takeBack]; trivial

/-- A function that is only read, and whose results need no nodes. -/
def Still (c : Callee) : Prop := (∀ m ∈ c.modes, ∃ n, m = .ro n) ∧ c.scalar = true

theorem l_lend_ro (keeps : Bool) : ∀ (ms : List Md) (xs : List TV), (∀ m ∈ ms, ∃ n, m = .ro n) → Loc R W rn wn (lend keeps ms xs)
  | [], [], _ => by unfold lend; trivial
  | [], _ :: _, _ => by unfold lend; trivial
  | m :: ms, xs, h => by
    obtain ⟨n, rfl⟩ := h m (by simp)
    cases xs with
    | nil => unfold lend; trivial
    | cons x xs => unfold lend; exact (l_lend_ro keeps ms xs fun m hm => h m (by simp [hm])).bind fun _ => l_pure _

theorem l_lendI_ro (keeps : Bool) (v : Nat) : ∀ (ms : List Md) (xs : List TV) (ys : List CV), (∀ m ∈ ms, ∃ n, m = .ro n) → Loc R W rn wn (lendI keeps v ms xs ys)
  | [], [], [], _ => by unfold lendI; trivial
  | [], [], _ :: _, _ => by unfold lendI; trivial
  | [], _ :: _, _, _ => by unfold lendI; trivial
  | m :: ms, xs, ys, h => by
    obtain ⟨n, rfl⟩ := h m (by simp)
    cases xs with
    | nil => unfold lendI; trivial
    | cons x xs =>
      cases ys with
      | nil => unfold lendI; trivial
      | cons y ys => unfold lendI; exact (l_lendI_ro keeps v ms xs ys fun m hm => h m (by simp [hm])).bind fun _ => l_pure _

theorem l_takeBack_ro (q : Bool) (V : Nat) : ∀ (ms : List Md) (xs : List TV) (cs fs : List CV) (b : Nat), (∀ m ∈ ms, ∃ n, m = .ro n) → Loc R W rn wn (takeBack q V b ms xs cs fs)
  | [], [], [], [], b, _ => by simp only [takeBack]; trivial
  | [], _ :: _, _, _, b, _ => by simp only [takeBack]; trivial
  | [], [], _ :: _, _, b, _ => by simp only [takeBack]; trivial
  | [], [], [], _ :: _, b, _ => by simp only [takeBack]; trivial
  | m :: ms, xs, cs, fs, b, h => by
    obtain ⟨n, rfl⟩ := h m (by simp)
    cases xs with
    | nil => simp only [takeBack]; trivial
    | cons x xs =>
      cases cs with
      | nil => simp only [takeBack]; trivial
      | cons c cs => simp only [takeBack]; exact l_takeBack_ro q V ms xs cs fs b fun m hm => h m (by simp [hm])

theorem l_callM (h : rn) (c : Option Callee) (hc : ∀ c', c = some c' → wn ∨ Still c') (b : Nat) (xs : List TV) : Loc R W rn wn (callM c b xs) := by
  cases c with
  | none => trivial
  | some c =>
    unfold callM
    rcases hc c rfl with h2 | ⟨h2, h3⟩
    · refine ((l_lend h h2 _ _ _).bind fun ps => l_lendI h h2 _ _ _ _ _ : Loc R W rn wn (lendA _ _ _ _)).bind fun ps => (l_show h _ _ _ _).bind fun cs => ?_
      split
      · trivial
      · refine (l_takeBack h h2 _ _ _ _ _ _ _).bind fun b' => ?_
        split
        · split
          · exact (l_liftO _).bind fun _ => l_pure _
          · trivial
        · unfold resultTV
          refine (l_unpackL h2 _ _ _).bind fun r => ?_
          split <;> trivial
    · refine ((l_lend_ro _ _ _ h2).bind fun ps => l_lendI_ro _ _ _ _ _ h2 : Loc R W rn wn (lendA _ _ _ _)).bind fun ps => (l_show h _ _ _ _).bind fun cs => ?_
      split
      · trivial
      · refine (l_takeBack_ro _ _ _ _ _ _ _ h2).bind fun b' => ?_
        rw [if_pos h3]
        split
        · exact (l_liftO _).bind fun _ => l_pure _
        · trivial

end

theorem l_exec {Φ : Nat → Option Callee} {writes : Nat → Bool} (hΦ : ∀ f c, Φ f = some c → writes f = false → Still c) (b : Nat) (op : VOp) {R W : Nat → Prop} (hR : ∀ t ∈ op.uses, R t) (hW : ∀ t, op.dst = some t → W t) :
    Loc R W (1 ≤ op.rank writes) (op.rank writes = 2) (exec Φ b op) := by
  have puts : ∀ {rn wn : Prop} (d : Option Nat) (v : TV), (∀ t, d = some t → W t) → Loc R W rn wn (putO d v) := by
    intro rn wn d v h
    cases d with
    | none => trivial
    | some d => exact l_setS (h d rfl) v
  cases op with
  | mov d x => exact (l_opd hR).bind fun _ => l_setS (hW d rfl) _
  | pick d c x y =>
    simp only [VOp.uses, List.mem_append] at hR
    simp only [exec]
    refine (l_opd fun t ht => hR t (.inl (.inl ht))).bind fun u => ?_
    split
    · split
      · exact (l_opd fun t ht => hR t (.inl (.inr ht))).bind fun _ => l_setS (hW d rfl) _
      · exact (l_opd fun t ht => hR t (.inr ht)).bind fun _ => l_setS (hW d rfl) _
    · trivial
  | alloc d zs =>
    simp only [exec]
    split
    · trivial
    · exact (l_setN rfl _).bind fun _ => l_setS (hW d rfl) _
  | box d x =>
    simp only [exec]
    refine (l_opd hR).bind fun v => (l_liftO _).bind fun cs => ?_
    split
    · trivial
    · exact (l_setN rfl _).bind fun _ => l_setS (hW d rfl) _
  | build d zs ps => exact (l_buildM ps hR _).bind fun _ => l_setS (hW d rfl) _
  | bsl d e m zs n ps => exact (l_bslM (by simp [VOp.rank]) rfl _ _ _ hR _ _).bind fun _ => (l_setN rfl _).bind fun _ => l_setS (hW d rfl) _
  | load d w x => exact (l_opd hR).bind fun v => (l_loadAt (by simp [VOp.rank]) _ _).bind fun _ => l_setS (hW d rfl) _
  | store w x y =>
    simp only [VOp.uses, List.mem_append] at hR
    exact (l_opd fun t ht => hR t (.inl ht)).bind fun _ => (l_opd fun t ht => hR t (.inr ht)).bind fun _ => l_storeAt (by simp [VOp.rank]) rfl _ _ _ _
  | nilck d x =>
    have hrn : 1 ≤ (VOp.nilck d x).rank writes := by simp [VOp.rank]
    have hd := hW d rfl
    simp only [exec]
    refine (l_opd hR).bind fun v => ?_
    split <;> first
      | exact l_setS hd _
      | trivial
      | (refine (l_getN hrn).bind fun _ => ?_
         split <;> first | exact l_setS hd _ | trivial)
  | bin d op x y =>
    simp only [VOp.uses, List.mem_append] at hR
    simp only [exec]
    refine (l_opd fun t ht => hR t (.inl ht)).bind fun _ => (l_opd fun t ht => hR t (.inr ht)).bind fun _ => ?_
    split
    · exact (l_liftO _).bind fun _ => l_setS (hW d rfl) _
    · trivial
  | beq d ne x y =>
    simp only [VOp.uses, List.mem_append] at hR
    simp only [exec]
    refine (l_opd fun t ht => hR t (.inl ht)).bind fun _ => (l_opd fun t ht => hR t (.inr ht)).bind fun _ => ?_
    split
    · exact l_setS (hW d rfl) _
    · trivial
  | un d op x =>
    simp only [exec]
    refine (l_opd hR).bind fun _ => ?_
    split
    · exact (l_liftO _).bind fun _ => l_setS (hW d rfl) _
    · trivial
  | cvi d k x =>
    simp only [exec]
    refine (l_opd hR).bind fun _ => ?_
    split
    · exact l_setS (hW d rfl) _
    · trivial
  | cvs d x =>
    simp only [exec]
    refine (l_opd hR).bind fun _ => ?_
    split
    · exact l_setS (hW d rfl) _
    · trivial
  | s2b d e x => trivial
  | b2s d e x => trivial
  | mkf d f fs cs =>
    simp only [VOp.uses, List.mem_append] at hR
    exact (l_opds fun t ht => hR t (.inl ht)).bind fun _ => (l_opds fun t ht => hR t (.inr ht)).bind fun _ => l_setS (hW d rfl) _
  | mki d t x => exact (l_opd hR).bind fun _ => l_setS (hW d rfl) _
  | mks d e bytes zs x =>
    simp only [exec]
    refine (l_opd hR).bind fun _ => ?_
    split
    · split
      · exact (l_setN rfl _).bind fun _ => l_setS (hW d rfl) _
      · trivial
    · trivial
  | slc0 d e x =>
    simp only [exec]
    refine (l_opd hR).bind fun _ => (l_elems (by simp [VOp.rank]) _).bind fun _ => ?_
    split
    · exact (l_setN rfl _).bind fun _ => l_setS (hW d rfl) _
    · trivial
  | slc d e x lo hi =>
    simp only [VOp.uses, List.mem_append] at hR
    exact (l_opd fun t ht => hR t (.inl (.inl ht))).bind fun _ => (l_bound fun t ht => hR t (.inl (.inr ht))).bind fun _ => (l_bound fun t ht => hR t (.inr ht)).bind fun _ => (l_sliceAt (by simp [VOp.rank]) _ _ _ _).bind fun _ => l_setS (hW d rfl) _
  | sslc d x lo hi =>
    simp only [VOp.uses, List.mem_append] at hR
    exact (l_opd fun t ht => hR t (.inl (.inl ht))).bind fun _ => (l_bound fun t ht => hR t (.inl (.inr ht))).bind fun _ => (l_bound fun t ht => hR t (.inr ht)).bind fun _ => (l_strAt _ _ _).bind fun _ => l_setS (hW d rfl) _
  | fad d x off => exact (l_opd hR).bind fun v => (l_fieldAt (by simp [VOp.rank]) _ _).bind fun _ => l_setS (hW d rfl) _
  | fld d x off w =>
    simp only [exec]
    refine (l_opd hR).bind fun _ => ?_
    split
    · exact (l_liftO _).bind fun _ => l_setS (hW d rfl) _
    · trivial
  | iad d e m x i =>
    simp only [VOp.uses, List.mem_append] at hR
    simp only [exec]
    refine (l_opd fun t ht => hR t (.inl ht)).bind fun _ => (l_opd fun t ht => hR t (.inr ht)).bind fun _ => ?_
    split
    · exact (l_indexAt (by simp [VOp.rank]) _ _ _ _).bind fun _ => l_setS (hW d rfl) _
    · trivial
  | ix d x i =>
    simp only [VOp.uses, List.mem_append] at hR
    simp only [exec]
    refine (l_opd fun t ht => hR t (.inl ht)).bind fun _ => (l_opd fun t ht => hR t (.inr ht)).bind fun _ => ?_
    split
    · exact (l_liftO _).bind fun _ => l_setS (hW d rfl) _
    · trivial
  | len d x => exact (l_opd hR).bind fun v => (l_elems (by simp [VOp.rank]) _).bind fun _ => l_setS (hW d rfl) _
  | slen d x =>
    simp only [exec]
    refine (l_opd hR).bind fun _ => ?_
    split
    · exact l_setS (hW d rfl) _
    · trivial
  | mmx d isMax xs =>
    simp only [exec]
    refine (l_opds hR).bind fun _ => ?_
    split
    · exact (l_liftO _).bind fun _ => l_setS (hW d rfl) _
    · trivial
  | app d e bytes mv x y =>
    simp only [VOp.uses, List.mem_append] at hR
    exact (l_opd fun t ht => hR t (.inl ht)).bind fun _ => (l_opd fun t ht => hR t (.inr ht)).bind fun _ => (l_appendM (by simp [VOp.rank]) rfl _ _ _ _ _ _).bind fun _ => l_setS (hW d rfl) _
  | ext d x i =>
    simp only [exec]
    refine (l_opd hR).bind fun _ => ?_
    split
    · exact (l_liftO _).bind fun _ => l_setS (hW d rfl) _
    · trivial
  | call d f xs =>
    refine (l_opds hR).bind fun vs => (l_callM (by simp only [VOp.rank]; split <;> omega) _ (fun c hc => ?_) _ _).bind fun _ => puts _ _ hW
    simp only [VOp.rank]
    by_cases hw : writes f = true
    · rw [if_pos hw]; exact .inl rfl
    · exact .inr (hΦ f c hc (by simpa using hw))
  | calv d f xs =>
    simp only [VOp.uses, List.mem_append] at hR
    simp only [exec]
    refine (l_opd fun t ht => hR t (.inl ht)).bind fun g => ?_
    split
    · exact (l_opds fun t ht => hR t (.inr ht)).bind fun vs => (l_callM (by simp [VOp.rank]) _ (fun c hc => .inl rfl) _ _).bind fun _ => puts _ _ hW
    · trivial

def VOper.reads (o : VOper) : List Nat := (o.guard.map (·.1)).toList ++ o.op.uses

theorem l_execG {Φ : Nat → Option Callee} {writes : Nat → Bool} (hΦ : ∀ f c, Φ f = some c → writes f = false → Still c) (b : Nat) (o : VOper) (hd : o.guard = none ∨ o.op.dst = o.dst) :
    Loc (fun t => t ∈ o.reads) (fun t => o.op.dst = some t) (1 ≤ o.op.rank writes) (o.op.rank writes = 2) (execG Φ b o) := by
  have hx := l_exec hΦ b o.op (R := fun t => t ∈ o.reads) (W := fun t => o.op.dst = some t) (fun t ht => by unfold VOper.reads; exact List.mem_append.2 (.inr ht)) fun t ht => ht
  have puts : ∀ (v : TV), o.op.dst = o.dst → Loc (fun t => t ∈ o.reads) (fun t => o.op.dst = some t) (1 ≤ o.op.rank writes) (o.op.rank writes = 2) (putO o.dst v) := by
    intro v e
    rw [← e]
    cases hdd : o.op.dst with
    | none => trivial
    | some d => exact ⟨rfl, trivial⟩
  unfold execG
  split
  · exact hx
  · rename_i t want hg
    have hd' : o.op.dst = o.dst := hd.resolve_left (by rw [hg]; simp)
    refine (l_getS (by unfold VOper.reads; rw [hg]; simp)).bind fun u => ?_
    split
    · split
      · exact hx
      · exact puts _ hd'
    · exact puts _ hd'
    · trivial

end Go.Proofs.Ytkoljcjliihiiaa.VM

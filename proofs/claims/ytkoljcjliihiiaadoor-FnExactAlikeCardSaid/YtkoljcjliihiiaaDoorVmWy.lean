/- The interpreter 'VM': what an operation of a region reads and writes, and that such ones commute. The interpreter 'VM': operations that write nodes of their own alone commute with one another. The interpreter 'VM': regions: operations in the order of the text, and in every order that Go leaves open. The interpreter 'VM': a region's operations, in whatever order Go leaves open, come to what the interpreter says. -/
import Derived.Test.YtkoljcjliihiiaaDoorVmTu
namespace Go.Proofs.YtkoljcjliihiiaaDoor.VM
open Go

/-- Slots that may be read and written; may nodes be read, be written? -/
def Loc {α : Type} (R W : Nat → Prop) (rn wn : Prop) : M α → Prop
  | .pure _ => True
  | .fail => True
  | .getS t k => R t ∧ ∀ v, Loc R W rn wn (k v)
  | .setS t _ k => W t ∧ Loc R W rn wn k
  | .getN _ k => rn ∧ ∀ n, Loc R W rn wn (k n)
  | .setN _ _ k => wn ∧ Loc R W rn wn k

theorem Loc.bind {α β : Type} {R W : Nat → Prop} {rn wn : Prop} {m : M α} (h : Loc R W rn wn m) {k : α → M β} (hk : ∀ x, Loc R W rn wn (k x)) : Loc R W rn wn (m.bind k) := by
  induction m with
  | pure x => exact hk x
  | fail => exact trivial
  | getS t k' ih => exact ⟨h.1, fun v => ih v (h.2 v)⟩
  | setS t v k' ih => exact ⟨h.1, ih h.2⟩
  | getN id k' ih => exact ⟨h.1, fun v => ih v (h.2 v)⟩
  | setN id n k' ih => exact ⟨h.1, ih h.2⟩

theorem Loc.mono {α : Type} {R W R' W' : Nat → Prop} {rn wn rn' wn' : Prop} (hR : ∀ t, R t → R' t) (hW : ∀ t, W t → W' t) (hr : rn → rn') (hw : wn → wn') : ∀ {m : M α}, Loc R W rn wn m → Loc R' W' rn' wn' m
  | .pure _, _ => trivial
  | .fail, _ => trivial
  | .getS _ _, h => ⟨hR _ h.1, fun v => Loc.mono hR hW hr hw (h.2 v)⟩
  | .setS _ _ _, h => ⟨hW _ h.1, Loc.mono hR hW hr hw h.2⟩
  | .getN _ _, h => ⟨hr h.1, fun v => Loc.mono hR hW hr hw (h.2 v)⟩
  | .setN _ _ _, h => ⟨hw h.1, Loc.mono hR hW hr hw h.2⟩

theorem look_append {α : Type} : ∀ (l r : List (Nat × α)) (k : Nat), look (l ++ r) k = (look l k).or (look r k)
  | [], r, k => by simp [look]
  | (j, v) :: l, r, k => by
    simp only [List.cons_append, look]
    split
    · rfl
    · exact look_append l r k

theorem look_none {α : Type} : ∀ {l : List (Nat × α)} {k : Nat}, (∀ x ∈ l, x.1 ≠ k) → look l k = none
  | [], _, _ => rfl
  | (j, v) :: l, k, h => by
    simp only [look]
    rw [if_neg (h (j, v) (by simp))]
    exact look_none fun x hx => h x (by simp [hx])

/-- Two frames that are alike. -/
structure Same (s s' : St) : Prop where
  slot : ∀ t, s.slot t = s'.slot t
  node : ∀ id, s.node id = s'.node id

/-- What a computation does is the same in frames that agree on what it reads. -/
theorem loc_run {α : Type} {R W : Nat → Prop} {rn wn : Prop} : ∀ {m : M α}, Loc R W rn wn m → ∀ {st : St} {r : α} {s : St}, m.run st = some (r, s) →
    ∃ ds dn, s = ⟨ds ++ st.slots, dn ++ st.nodes, st.next⟩ ∧ (∀ x ∈ ds, W x.1) ∧ (¬ wn → dn = []) ∧
      ∀ st' : St, (∀ t, R t → st'.slot t = st.slot t) → (rn → ∀ id, st'.node id = st.node id) → m.run st' = some (r, ⟨ds ++ st'.slots, dn ++ st'.nodes, st'.next⟩)
  | .pure x, _, st, r, s, h => by
    cases run_pure h
    exact ⟨[], [], rfl, by simp, fun _ => rfl, fun st' _ _ => rfl⟩
  | .fail, _, st, r, s, h => (run_fail h).elim
  | .getS t k, hl, st, r, s, h => by
    obtain ⟨ds, dn, e, h1, h2, h3⟩ := loc_run (hl.2 (st.slot t)) h
    refine ⟨ds, dn, e, h1, h2, fun st' ha hb => ?_⟩
    simp only [M.run]
    rw [ha t hl.1]
    exact h3 st' ha hb
  | .setS t v k, hl, st, r, s, h => by
    obtain ⟨ds, dn, e, h1, h2, h3⟩ := loc_run hl.2 h
    refine ⟨ds ++ [(t, v)], dn, by simpa using e, fun x hx => ?_, h2, fun st' ha hb => ?_⟩
    · rcases List.mem_append.1 hx with hx | hx
      · exact h1 x hx
      · simp only [List.mem_singleton] at hx; subst hx; exact hl.1
    · have := h3 { st' with slots := (t, v) :: st'.slots } (fun t' ht => by rw [slot_set, slot_set, ha t' ht]) hb
      simpa [M.run] using this
  | .getN id k, hl, st, r, s, h => by
    obtain ⟨ds, dn, e, h1, h2, h3⟩ := loc_run (hl.2 (st.node id)) h
    refine ⟨ds, dn, e, h1, h2, fun st' ha hb => ?_⟩
    simp only [M.run]
    rw [hb hl.1 id]
    exact h3 st' ha hb
  | .setN id n k, hl, st, r, s, h => by
    obtain ⟨ds, dn, e, h1, h2, h3⟩ := loc_run hl.2 h
    refine ⟨ds, dn ++ [(id, n)], by simpa using e, h1, fun hw => absurd hl.1 hw, fun st' ha hb => ?_⟩
    have := h3 { st' with nodes := (id, n) :: st'.nodes } ha (fun hr id' => by rw [node_set, node_set, hb hr id'])
    simpa [M.run] using this

theorem slot_app {ds : List (Nat × TV)} {st : St} {dn : List (Nat × Option Node)} {t : Nat} : ({ slots := ds ++ st.slots, nodes := dn ++ st.nodes, next := st.next } : St).slot t = ((look ds t).or (look st.slots t)).getD .un := by
  simp [St.slot, look_append]
theorem node_app {ds : List (Nat × TV)} {st : St} {dn : List (Nat × Option Node)} {id : Nat} : ({ slots := ds ++ st.slots, nodes := dn ++ st.nodes, next := st.next } : St).node id = ((look dn id).or (look st.nodes id)).getD none := by
  simp [St.node, look_append]

/-- Computations that do not touch one another commute. -/
theorem loc_comm {α β : Type} {R1 W1 R2 W2 : Nat → Prop} {rn1 wn1 rn2 wn2 : Prop} {m1 : M α} {m2 : M β} (h1 : Loc R1 W1 rn1 wn1 m1) (h2 : Loc R2 W2 rn2 wn2 m2) (hs1 : ∀ t, W1 t → ¬ R2 t ∧ ¬ W2 t) (hs2 : ∀ t, W2 t → ¬ R1 t)
    (hn1 : wn1 → ¬ rn2 ∧ ¬ wn2) (hn2 : wn2 → ¬ rn1) {st s1 s2 : St} {x : α} {y : β} (hr1 : m1.run st = some (x, s1)) (hr2 : m2.run s1 = some (y, s2)) :
    ∃ s1' s2', m2.run st = some (y, s1') ∧ m1.run s1' = some (x, s2') ∧ Same s2' s2 := by
  obtain ⟨ds1, dn1, rfl, w1, n1, k1⟩ := loc_run h1 hr1
  obtain ⟨ds2, dn2, rfl, w2, n2, k2⟩ := loc_run h2 hr2
  have no1 : ∀ t, R2 t → look ds1 t = none := fun t ht => look_none fun z hz e => (hs1 z.1 (w1 z hz)).1 (e ▸ ht)
  have no2 : ∀ t, R1 t → look ds2 t = none := fun t ht => look_none fun z hz e => hs2 z.1 (w2 z hz) (e ▸ ht)
  have e1 : m2.run st = some (y, ⟨ds2 ++ st.slots, dn2 ++ st.nodes, st.next⟩) := by
    refine k2 st (fun t ht => ?_) fun hr id => ?_
    · rw [slot_app, no1 t ht]; simp [St.slot]
    · have : dn1 = [] := n1 fun hw => (hn1 hw).1 hr
      subst this
      rw [node_app]; simp [look, St.node]
  have e2 := k1 ⟨ds2 ++ st.slots, dn2 ++ st.nodes, st.next⟩ (fun t ht => by rw [slot_app, no2 t ht]; simp [St.slot]) (fun hr id => by
    have : dn2 = [] := n2 fun hw => hn2 hw hr
    subst this
    rw [node_app]; simp [look, St.node])
  refine ⟨_, _, e1, e2, fun t => ?_, fun id => ?_⟩
  · simp only [St.slot, look_append]
    by_cases hw : W1 t
    · have : look ds2 t = none := look_none fun z hz e => (hs1 t hw).2 (e ▸ w2 z hz)
      rw [this]; simp
    · have : look ds1 t = none := look_none fun z hz e => hw (e ▸ w1 z hz)
      rw [this]; simp
  · simp only [St.node, look_append]
    by_cases hw : wn1
    · have : dn2 = [] := n2 (hn1 hw).2
      subst this
      simp [look]
    · have := n1 hw
      subst this
      simp [look]

/-! ### the operations' footprints -/
section
variable {R W : Nat → Prop} {rn wn : Prop}

theorem l_pure {α : Type} (x : α) : Loc R W rn wn (M.pure x) := trivial
theorem l_fail {α : Type} : Loc R W rn wn (M.fail : M α) := trivial
theorem l_getS {t : Nat} (h : R t) : Loc R W rn wn (getS t) := ⟨h, fun _ => trivial⟩
theorem l_setS {t : Nat} (h : W t) (v : TV) : Loc R W rn wn (setS t v) := ⟨h, trivial⟩
theorem l_getN {id : Nat} (h : rn) : Loc R W rn wn (getN id) := ⟨h, fun _ => trivial⟩
theorem l_setN {id : Nat} (h : wn) (n : Option Node) : Loc R W rn wn (setN id n) := ⟨h, trivial⟩
theorem l_liftO {α : Type} (x : Option α) : Loc R W rn wn (liftO x) := by cases x <;> trivial

theorem l_opd {x : Opd} (h : ∀ t ∈ x.used, R t) : Loc R W rn wn (opd x) := by
  cases x with
  | t n => exact l_getS (h n (by simp [Opd.used]))
  | _ => trivial

theorem l_opds : ∀ {xs : List Opd} (_ : ∀ t ∈ xs.flatMap Opd.used, R t), Loc R W rn wn (opds xs)
  | [], _ => trivial
  | x :: xs, h => (l_opd fun t ht => h t (by simp [ht])).bind fun _ => (l_opds fun t ht => h t (by
      simp only [List.flatMap_cons, List.mem_append]; exact .inr ht)).bind fun _ => l_pure _

theorem l_bound {x : Option Opd} (h : ∀ t ∈ (x.map Opd.used).getD [], R t) : Loc R W rn wn (bound x) := by
  cases x with
  | none => trivial
  | some y =>
    refine (l_opd h).bind fun u => ?_
    split <;> trivial


theorem l_loadAt (h : rn) (w : Option Nat) (v : TV) : Loc R W rn wn (loadAt w v) := by unfold loadAt; (repeat' (first | exact l_pure _ | exact l_fail | exact l_liftO _ | (refine Loc.bind (l_liftO _) (fun _ => ?_)) | (refine Loc.bind (l_getN (by assumption)) (fun _ => ?_)) | (refine Loc.bind (l_setN (by assumption) _) (fun _ => ?_)) | exact l_setN (by assumption) _ | split))
theorem l_elems (h : rn) (v : TV) : Loc R W rn wn (elems v) := by unfold elems; (repeat' (first | exact l_pure _ | exact l_fail | exact l_liftO _ | (refine Loc.bind (l_liftO _) (fun _ => ?_)) | (refine Loc.bind (l_getN (by assumption)) (fun _ => ?_)) | (refine Loc.bind (l_setN (by assumption) _) (fun _ => ?_)) | exact l_setN (by assumption) _ | split))
theorem l_sliceAt (h : rn) (e : Nat) (v : TV) (lo hi : Option Int) : Loc R W rn wn (sliceAt e v lo hi) := by unfold sliceAt; (repeat' (first | exact l_pure _ | exact l_fail | exact l_liftO _ | (refine Loc.bind (l_liftO _) (fun _ => ?_)) | (refine Loc.bind (l_getN (by assumption)) (fun _ => ?_)) | (refine Loc.bind (l_setN (by assumption) _) (fun _ => ?_)) | exact l_setN (by assumption) _ | split))
theorem l_strAt (v : TV) (lo hi : Option Int) : Loc R W rn wn (strAt v lo hi) := by unfold strAt; (repeat' (first | exact l_pure _ | exact l_fail | exact l_liftO _ | (refine Loc.bind (l_liftO _) (fun _ => ?_)) | (refine Loc.bind (l_getN (by assumption)) (fun _ => ?_)) | (refine Loc.bind (l_setN (by assumption) _) (fun _ => ?_)) | exact l_setN (by assumption) _ | split))
theorem l_fieldAt (h : rn) (o : Nat) (v : TV) : Loc R W rn wn (fieldAt o v) := by unfold fieldAt; (repeat' (first | exact l_pure _ | exact l_fail | exact l_liftO _ | (refine Loc.bind (l_liftO _) (fun _ => ?_)) | (refine Loc.bind (l_getN (by assumption)) (fun _ => ?_)) | (refine Loc.bind (l_setN (by assumption) _) (fun _ => ?_)) | exact l_setN (by assumption) _ | split))
theorem l_indexAt (h : rn) (e m : Nat) (v : TV) (i : Int) : Loc R W rn wn (indexAt e m v i) := by
  unfold indexAt
  refine (l_elems h _).bind fun _ => ?_
  (repeat' (first | exact l_pure _ | exact l_fail | exact l_liftO _ | (refine Loc.bind (l_liftO _) (fun _ => ?_)) | (refine Loc.bind (l_getN (by assumption)) (fun _ => ?_)) | (refine Loc.bind (l_setN (by assumption) _) (fun _ => ?_)) | exact l_setN (by assumption) _ | split))

theorem l_toPV (h : rn) (h2 : wn) (x : TV) : Loc R W rn wn (toPV x) := by unfold toPV; (repeat' (first | exact l_pure _ | exact l_fail | exact l_liftO _ | (refine Loc.bind (l_liftO _) (fun _ => ?_)) | (refine Loc.bind (l_getN (by assumption)) (fun _ => ?_)) | (refine Loc.bind (l_setN (by assumption) _) (fun _ => ?_)) | exact l_setN (by assumption) _ | split))
theorem l_toPVs (h : rn) (h2 : wn) : ∀ (xs : List TV), Loc R W rn wn (toPVs xs)
  | [] => trivial
  | x :: xs => (l_toPV h h2 x).bind fun _ => (l_toPVs h h2 xs).bind fun _ => l_pure _
theorem l_toEl (h : rn) (h2 : wn) (fl : Bool) (x : TV) : Loc R W rn wn (toEl fl x) := by
  unfold toEl
  split
  · split
    · exact (l_liftO _).bind fun _ => l_pure _
    · exact (l_toPVs h h2 _).bind fun _ => l_pure _
  · split
    · exact (l_liftO _).bind fun _ => l_pure _
    · exact l_toPV h h2 _
theorem l_bslM (h : rn) (h2 : wn) (fl : Bool) (m : Nat) : ∀ (ps : List (Nat × Opd)) (_ : ∀ t ∈ ps.flatMap (·.2.used), R t) (q : Bool) (es : List PV), Loc R W rn wn (bslM fl m ps q es)
  | [], _, q, es => trivial
  | (i, x) :: ps, hR, q, es => by
    unfold bslM
    refine (l_opd fun t ht => hR t (by simp [ht])).bind fun v => (l_toEl h h2 fl v).bind fun y => ?_
    split
    · exact l_bslM h h2 fl m ps (fun t ht => hR t (by simp only [List.flatMap_cons, List.mem_append]; exact .inr ht)) _ _
    · trivial
theorem l_buildM : ∀ (ps : List (Nat × Nat × Opd)) (_ : ∀ t ∈ ps.flatMap (·.2.2.used), R t) (cs : List TV), Loc R W rn wn (buildM ps cs)
  | [], _, cs => trivial
  | (o, w, x) :: ps, hR, cs => by
    unfold buildM
    refine (l_opd fun t ht => hR t (by simp [ht])).bind fun v => ?_
    split
    · exact l_buildM ps (fun t ht => hR t (by simp only [List.flatMap_cons, List.mem_append]; exact .inr ht)) _
    · trivial
theorem l_storeAt (h : rn) (h2 : wn) (b w : Nat) (x y : TV) : Loc R W rn wn (storeAt b w x y) := by
  unfold storeAt
  split
  · unfold storeBox; (repeat' (first | exact l_pure _ | exact l_fail | exact l_liftO _ | (refine Loc.bind (l_liftO _) (fun _ => ?_)) | (refine Loc.bind (l_getN (by assumption)) (fun _ => ?_)) | (refine Loc.bind (l_setN (by assumption) _) (fun _ => ?_)) | exact l_setN (by assumption) _ | split))
  · unfold storeBox; (repeat' (first | exact l_pure _ | exact l_fail | exact l_liftO _ | (refine Loc.bind (l_liftO _) (fun _ => ?_)) | (refine Loc.bind (l_getN (by assumption)) (fun _ => ?_)) | (refine Loc.bind (l_setN (by assumption) _) (fun _ => ?_)) | exact l_setN (by assumption) _ | split))
  · refine (l_toPVs h h2 _).bind fun _ => ?_
    (repeat' (first | exact l_pure _ | exact l_fail | exact l_liftO _ | (refine Loc.bind (l_liftO _) (fun _ => ?_)) | (refine Loc.bind (l_getN (by assumption)) (fun _ => ?_)) | (refine Loc.bind (l_setN (by assumption) _) (fun _ => ?_)) | exact l_setN (by assumption) _ | split))
  · trivial
theorem l_appendM (h : rn) (h2 : wn) (b e bytes : Nat) (mv : Bool) (x y : TV) : Loc R W rn wn (appendM b e bytes mv x y) := by
  unfold appendM
  have h1 : Loc R W rn wn (appTo e x) := by unfold appTo; (repeat' (first | exact l_pure _ | exact l_fail | exact l_liftO _ | (refine Loc.bind (l_liftO _) (fun _ => ?_)) | (refine Loc.bind (l_getN (by assumption)) (fun _ => ?_)) | (refine Loc.bind (l_setN (by assumption) _) (fun _ => ?_)) | exact l_setN (by assumption) _ | split))
  have h3 : Loc R W rn wn (appOf e mv y) := by
    unfold appOf
    split
    · (repeat' (first | exact l_pure _ | exact l_fail | exact l_liftO _ | (refine Loc.bind (l_liftO _) (fun _ => ?_)) | (refine Loc.bind (l_getN (by assumption)) (fun _ => ?_)) | (refine Loc.bind (l_setN (by assumption) _) (fun _ => ?_)) | exact l_setN (by assumption) _ | split))
    · refine (l_elems h _).bind fun _ => ?_
      (repeat' (first | exact l_pure _ | exact l_fail | exact l_liftO _ | (refine Loc.bind (l_liftO _) (fun _ => ?_)) | (refine Loc.bind (l_getN (by assumption)) (fun _ => ?_)) | (refine Loc.bind (l_setN (by assumption) _) (fun _ => ?_)) | exact l_setN (by assumption) _ | split))
  refine h1.bind fun _ => h3.bind fun _ => ?_
  (repeat' (first | exact l_pure _ | exact l_fail | exact l_liftO _ | (refine Loc.bind (l_liftO _) (fun _ => ?_)) | (refine Loc.bind (l_getN (by assumption)) (fun _ => ?_)) | (refine Loc.bind (l_setN (by assumption) _) (fun _ => ?_)) | exact l_setN (by assumption) _ | split))

mutual
theorem l_freeze (h : rn) (z : Bool) : ∀ (k n : Nat) (x : TV), Loc R W rn wn (freeze z k n x)
  | 0, n, x => by unfold freeze; trivial
  | k + 1, n, x => by
    unfold freeze
    split
    · trivial
    · trivial
    · trivial
    · exact (l_freezeL h z k _).bind fun _ => l_pure _
    · exact (l_freezeL h z k _).bind fun _ => (l_freezeL h z k _).bind fun _ => l_pure _
    · exact (l_freeze h z k _ _).bind fun _ => l_pure _
    · trivial
    · split
      · trivial
      · refine (l_getN h).bind fun _ => ?_
        split
        · trivial
        · exact (l_freezeL h z k _).bind fun _ => l_pure _
        · trivial
    · (repeat' (first | exact l_pure _ | exact l_fail | exact l_liftO _ | (refine Loc.bind (l_liftO _) (fun _ => ?_)) | (refine Loc.bind (l_getN (by assumption)) (fun _ => ?_)) | (refine Loc.bind (l_setN (by assumption) _) (fun _ => ?_)) | exact l_setN (by assumption) _ | split))
    · (repeat' (first | exact l_pure _ | exact l_fail | exact l_liftO _ | (refine Loc.bind (l_liftO _) (fun _ => ?_)) | (refine Loc.bind (l_getN (by assumption)) (fun _ => ?_)) | (refine Loc.bind (l_setN (by assumption) _) (fun _ => ?_)) | exact l_setN (by assumption) _ | split))
    · split
      · trivial
      · refine (l_getN h).bind fun _ => ?_
        split
        · split
          · exact (l_freezeL h z k _).bind fun _ => l_pure _
          · trivial
        · trivial
    · trivial
theorem l_freezeL (h : rn) (z : Bool) : ∀ (k : Nat) (xs : List TV), Loc R W rn wn (freezeL z k xs)
  | 0, xs => by unfold freezeL; trivial
  | k + 1, [] => by unfold freezeL; trivial
  | k + 1, x :: xs => by
    unfold freezeL
    exact (l_freeze h z k 0 x).bind fun _ => (l_freezeL h z k xs).bind fun _ => l_pure _
end

mutual
theorem l_pack (h : rn) (h2 : wn) (z : Bool) : ∀ (k : Nat) (x : TV), Loc R W rn wn (pack z k x)
  | 0, x => by unfold pack; trivial
  | k + 1, x => by
    unfold pack
    split
    · trivial
    · trivial
    · split <;> trivial
    · exact (l_packL h h2 z k _).bind fun _ => l_pure _
    · exact (l_packL h h2 z k _).bind fun _ => (l_packL h h2 z k _).bind fun _ => l_pure _
    · exact (l_pack h h2 z k _).bind fun _ => l_pure _
    · refine (l_getN h).bind fun _ => ?_
      split
      · split
        · trivial
        · exact (l_setN h2 _).bind fun _ => l_pure _
      · split
        · trivial
        · exact (l_setN h2 _).bind fun _ => (l_packL h h2 z k _).bind fun _ => l_pure _
      · trivial
    · trivial
    · trivial
theorem l_packL (h : rn) (h2 : wn) (z : Bool) : ∀ (k : Nat) (xs : List TV), Loc R W rn wn (packL z k xs)
  | 0, xs => by unfold packL; trivial
  | k + 1, [] => by unfold packL; trivial
  | k + 1, x :: xs => by
    unfold packL
    exact (l_pack h h2 z k x).bind fun _ => (l_packL h h2 z k xs).bind fun _ => l_pure _
end

mutual
theorem l_unpack (h2 : wn) (q : Bool) : ∀ (c : CV) (b : Nat), Loc R W rn wn (unpack q b c)
  | .a _, b => by unfold unpack; trivial
  | .sl z e es, b => by
    unfold unpack
    split
    · trivial
    · exact (l_setN h2 _).bind fun _ => l_pure _
  | .bx z cs, b => by unfold unpack; exact (l_unpackL h2 q cs _).bind fun _ => (l_setN h2 _).bind fun _ => l_pure _
  | .st cs, b => by unfold unpack; exact (l_unpackL h2 q cs _).bind fun _ => l_pure _
  | .tp cs, b => by unfold unpack; exact (l_unpackL h2 q cs _).bind fun _ => l_pure _
  | .fn f fs cs, b => by unfold unpack; exact (l_unpackL h2 q fs _).bind fun _ => (l_unpackL h2 q cs _).bind fun _ => l_pure _
  | .ic t c, b => by unfold unpack; exact (l_unpack h2 q c _).bind fun _ => l_pure _
  | .un, b => by unfold unpack; trivial
theorem l_unpackL (h2 : wn) (q : Bool) : ∀ (cs : List CV) (b : Nat), Loc R W rn wn (unpackL q b cs)
  | [], b => by unfold unpackL; trivial
  | c :: cs, b => by unfold unpackL; exact (l_unpack h2 q c _).bind fun _ => (l_unpackL h2 q cs _).bind fun _ => l_pure _
end

mutual
theorem l_restore (h : rn) (h2 : wn) (q : Bool) (V : Nat) : ∀ (x : TV) (c0 y : CV) (b : Nat), Loc R W rn wn (restore q V b x c0 y)
  | .rf id, c0, y, b => by
    cases c0 with
    | sl z0 e0 es0 =>
      cases y with
      | sl z e es =>
        cases z0 <;> cases z <;> simp only [restore]
        · (repeat' (first | exact l_pure _ | exact l_fail | exact l_liftO _ | (refine Loc.bind (l_liftO _) (fun _ => ?_)) | (refine Loc.bind (l_getN (by assumption)) (fun _ => ?_)) | (refine Loc.bind (l_setN (by assumption) _) (fun _ => ?_)) | exact l_setN (by assumption) _ | split))
        all_goals trivial
      | _ => simp only [restore]; trivial
    | bx z0 cs0 =>
      cases y with
      | bx z cs =>
        cases z0 <;> cases z <;> simp only [restore]
        · refine (l_getN h).bind fun _ => ?_
          split
          · exact (l_unpackL h2 q cs _).bind fun _ => (l_setN h2 _).bind fun _ => l_pure _
          · trivial
        all_goals trivial
      | _ => simp only [restore]; trivial
    | _ => simp only [restore]; trivial
  | .fn f fs cs, c0, y, b => by
    cases c0 with
    | fn f0 fs0 cs0 =>
      cases y with
      | fn f1 fs1 cs1 => simp only [restore]; exact (l_restoreL h h2 q V fs fs0 fs1 b).bind fun _ => l_restoreL h h2 q V cs cs0 cs1 _
      | _ => simp only [restore]; trivial
    | _ => simp only [restore]; trivial
  | .st cs, c0, y, b => by
    cases c0 with
    | st cs0 =>
      cases y with
      | st cs1 => simp only [restore]; exact l_restoreL h h2 q V cs cs0 cs1 b
      | _ => simp only [restore]; trivial
    | _ => simp only [restore]; trivial
  | .ic t x, c0, y, b => by
    cases c0 with
    | ic t0 x0 =>
      cases y with
      | ic t1 x1 => simp only [restore]; exact l_restore h h2 q V x x0 x1 b
      | _ => simp only [restore]; trivial
    | _ => simp only [restore]; trivial
  | .a _, c0, y, b => by simp only [restore]; trivial
  | .nl _, c0, y, b => by simp only [restore]; trivial
  | .ri _ _ _, c0, y, b => by simp only [restore]; trivial
  | .sb _ _ _, c0, y, b => by simp only [restore]; trivial
  | .ad _ _, c0, y, b => by simp only [restore]; trivial
  | .ea _ _ _ _, c0, y, b => by simp only [restore]; trivial
  | .ei _ _ _ _ _ _, c0, y, b => by simp only [restore]; trivial
  | .sz _ _, c0, y, b => by simp only [restore]; trivial
  | .ez _ _, c0, y, b => by simp only [restore]; trivial
  | .tp _, c0, y, b => by simp only [restore]; trivial
  | .un, c0, y, b => by simp only [restore]; trivial
theorem l_restoreL (h : rn) (h2 : wn) (q : Bool) (V : Nat) : ∀ (xs : List TV) (cs0 ys : List CV) (b : Nat), Loc R W rn wn (restoreL q V b xs cs0 ys)
  | [], cs0, ys, b => by simp only [restoreL]; trivial
  | x :: xs, [], ys, b => by simp only [restoreL]; trivial
  | x :: xs, c0 :: cs0, [], b => by simp only [restoreL]; trivial
  | x :: xs, c0 :: cs0, y :: ys, b => by simp only [restoreL]; exact (l_restore h h2 q V x c0 y b).bind fun _ => l_restoreL h h2 q V xs cs0 ys _
end

theorem l_show (h : rn) (keeps : Bool) : ∀ (ms : List Md) (xs : List TV) (ys : List CV), Loc R W rn wn (show_ keeps ms xs ys)
  | [], [], [] => by unfold show_; trivial
  | .ro n :: ms, x :: xs, y :: ys => by unfold show_; exact (l_freeze h keeps depth n x).bind fun _ => (l_show h keeps ms xs ys).bind fun _ => l_pure _
  | .mut _ :: ms, _ :: xs, y :: ys => by unfold show_; exact (l_show h keeps ms xs ys).bind fun _ => l_pure _
  | [], [], _ :: _ => by unfold show_; trivial
  | [], _ :: _, _ => by unfold show_; trivial
  | .ro _ :: _, [], _ => by unfold show_; trivial
  | .ro _ :: _, _ :: _, [] => by unfold show_; trivial
  | .mut _ :: _, [], _ => by unfold show_; trivial
  | .mut _ :: _, _ :: _, [] => by unfold show_; trivial

theorem l_lend (h : rn) (h2 : wn) (keeps : Bool) : ∀ (ms : List Md) (xs : List TV), Loc R W rn wn (lend keeps ms xs)
  | [], [] => by unfold lend; trivial
  | .ro n :: ms, x :: xs => by unfold lend; exact (l_lend h h2 keeps ms xs).bind fun _ => l_pure _
  | .mut n :: ms, x :: xs => by
    have h0 : Loc R W rn wn (lend0 keeps x) := by
      unfold lend0
      split
      · exact l_pure _
      · exact l_pack h h2 keeps depth x
    unfold lend
    exact h0.bind fun _ => (l_lend h h2 keeps ms xs).bind fun _ => l_pure _
  | [], _ :: _ => by unfold lend; trivial
  | .ro _ :: _, [] => by unfold lend; trivial
  | .mut _ :: _, [] => by unfold lend; trivial

theorem l_lendI (h : rn) (h2 : wn) (keeps : Bool) (v : Nat) : ∀ (ms : List Md) (xs : List TV) (ys : List CV), Loc R W rn wn (lendI keeps v ms xs ys)
  | [], [], [] => by unfold lendI; trivial
  | .ro n :: ms, x :: xs, y :: ys => by unfold lendI; exact (l_lendI h h2 keeps v ms xs ys).bind fun _ => l_pure _
  | .mut n :: ms, x :: xs, y :: ys => by
    unfold lendI
    refine (?_ : Loc R W rn wn (lend1 keeps v x y)).bind fun _ => (l_lendI h h2 keeps v ms xs ys).bind fun _ => l_pure _
    unfold lend1
    split
    · refine (l_getN h).bind fun _ => ?_
      split
      · split
        · trivial
        · split
          · exact (l_setN h2 _).bind fun _ => l_pure _
          · trivial
      · trivial
    · exact l_pure _
  | [], [], _ :: _ => by unfold lendI; trivial
  | [], _ :: _, _ => by unfold lendI; trivial
  | .ro _ :: _, [], _ => by unfold lendI; trivial
  | .ro _ :: _, _ :: _, [] => by unfold lendI; trivial
  | .mut _ :: _, [], _ => by unfold lendI; trivial
  | .mut _ :: _, _ :: _, [] => by unfold lendI; trivial

theorem l_back1 (h : rn) (h2 : wn) (q : Bool) (V b : Nat) (x : TV) (c f : CV) : Loc R W rn wn (back1 q V b x c f) := by
  unfold back1
  split
  · split
    · refine (l_getN h).bind fun _ => ?_
      split
      · split
        · exact (l_setN h2 _).bind fun _ => l_pure _
        · trivial
      · trivial
    · trivial
  · exact l_restore h h2 q V x c f b

theorem l_takeBack (h : rn) (h2 : wn) (q : Bool) (V : Nat) : ∀ (ms : List Md) (xs : List TV) (cs fs : List CV) (b : Nat), Loc R W rn wn (takeBack q V b ms xs cs fs)
  | [], [], [], [], b => by simp only [takeBack]; trivial
  | .ro _ :: ms, x :: xs, c :: cs, fs, b => by simp only [takeBack]; exact l_takeBack h h2 q V ms xs cs fs b
  | .mut _ :: ms, x :: xs, c :: cs, f :: fs, b => by simp only [takeBack]; exact (l_back1 h h2 q V b x c f).bind fun _ => l_takeBack h h2 q V ms xs cs fs _
  | [], _ :: _, _, _, b => by simp only [takeBack]; trivial
  | [], [], _ :: _, _, b => by simp only [takeBack]; trivial
  | [], [], [], _ :: _, b => by simp only [takeBack]; trivial
  | .ro _ :: _, [], _, _, b => by simp only [takeBack]; trivial
  | .ro _ :: _, _ :: _, [], _, b => by simp only [takeBack]; trivial
  | .mut _ :: _, [], _, _, b => by simp only [takeBack]; trivial
  | .mut _ :: _, _ :: _, [], _, b => by simp only [takeBack]; trivial
  | .mut _ :: _, _ :: _, _ :: _, [], b => by simp only [takeBack]; trivial

/-- A function that is only read, and whose results need no nodes. -/
def Still (c : Callee) : Prop := (∀ m ∈ c.modes, ∃ n, m = .ro n) ∧ c.scalar = true

theorem l_lend_ro (keeps : Bool) : ∀ (ms : List Md) (xs : List TV), (∀ m ∈ ms, ∃ n, m = .ro n) → Loc R W rn wn (lend keeps ms xs)
  | [], [], _ => by unfold lend; trivial
  | [], _ :: _, _ => by unfold lend; trivial
  | m :: ms, xs, h => by
    obtain ⟨n, rfl⟩ := h m (by simp)
    cases xs with
    | nil => unfold lend; trivial
    | cons x xs => unfold lend; exact (l_lend_ro keeps ms xs fun m hm => h m (by simp [hm])).bind fun _ => l_pure _

theorem l_lendI_ro (keeps : Bool) (v : Nat) : ∀ (ms : List Md) (xs : List TV) (ys : List CV), (∀ m ∈ ms, ∃ n, m = .ro n) → Loc R W rn wn (lendI keeps v ms xs ys)
  | [], [], [], _ => by unfold lendI; trivial
  | [], [], _ :: _, _ => by unfold lendI; trivial
  | [], _ :: _, _, _ => by unfold lendI; trivial
  | m :: ms, xs, ys, h => by
    obtain ⟨n, rfl⟩ := h m (by simp)
    cases xs with
    | nil => unfold lendI; trivial
    | cons x xs =>
      cases ys with
      | nil => unfold lendI; trivial
      | cons y ys => unfold lendI; exact (l_lendI_ro keeps v ms xs ys fun m hm => h m (by simp [hm])).bind fun _ => l_pure _

theorem l_takeBack_ro (q : Bool) (V : Nat) : ∀ (ms : List Md) (xs : List TV) (cs fs : List CV) (b : Nat), (∀ m ∈ ms, ∃ n, m = .ro n) → Loc R W rn wn (takeBack q V b ms xs cs fs)
  | [], [], [], [], b, _ => by simp only [takeBack]; trivial
  | [], _ :: _, _, _, b, _ => by simp only [takeBack]; trivial
  | [], [], _ :: _, _, b, _ => by simp only [takeBack]; trivial
  | [], [], [], _ :: _, b, _ => by simp only [takeBack]; trivial
  | m :: ms, xs, cs, fs, b, h => by
    obtain ⟨n, rfl⟩ := h m (by simp)
    cases xs with
    | nil => simp only [takeBack]; trivial
    | cons x xs =>
      cases cs with
      | nil => simp only [takeBack]; trivial
      | cons c cs => simp only [takeBack]; exact l_takeBack_ro q V ms xs cs fs b fun m hm => h m (by simp [hm])

theorem l_callM (h : rn) (c : Option Callee) (hc : ∀ c', c = some c' → wn ∨ Still c') (b : Nat) (xs : List TV) : Loc R W rn wn (callM c b xs) := by
  cases c with
  | none => trivial
  | some c =>
    unfold callM
    rcases hc c rfl with h2 | ⟨h2, h3⟩
    · refine ((l_lend h h2 _ _ _).bind fun ps => l_lendI h h2 _ _ _ _ _ : Loc R W rn wn (lendA _ _ _ _)).bind fun ps => (l_show h _ _ _ _).bind fun cs => ?_
      split
      · trivial
      · refine (l_takeBack h h2 _ _ _ _ _ _ _).bind fun b' => ?_
        split
        · split
          · exact (l_liftO _).bind fun _ => l_pure _
          · trivial
        · unfold resultTV
          refine (l_unpackL h2 _ _ _).bind fun r => ?_
          split <;> trivial
    · refine ((l_lend_ro _ _ _ h2).bind fun ps => l_lendI_ro _ _ _ _ _ h2 : Loc R W rn wn (lendA _ _ _ _)).bind fun ps => (l_show h _ _ _ _).bind fun cs => ?_
      split
      · trivial
      · refine (l_takeBack_ro _ _ _ _ _ _ _ h2).bind fun b' => ?_
        rw [if_pos h3]
        split
        · exact (l_liftO _).bind fun _ => l_pure _
        · trivial

end

theorem l_exec {Φ : Nat → Option Callee} {writes : Nat → Bool} (hΦ : ∀ f c, Φ f = some c → writes f = false → Still c) (b : Nat) (op : VOp) {R W : Nat → Prop} (hR : ∀ t ∈ op.uses, R t) (hW : ∀ t, op.dst = some t → W t) :
    Loc R W (1 ≤ op.rank writes) (op.rank writes = 2) (exec Φ b op) := by
  have puts : ∀ {rn wn : Prop} (d : Option Nat) (v : TV), (∀ t, d = some t → W t) → Loc R W rn wn (putO d v) := by
    intro rn wn d v h
    cases d with
    | none => trivial
    | some d => exact l_setS (h d rfl) v
  cases op with
  | mov d x => exact (l_opd hR).bind fun _ => l_setS (hW d rfl) _
  | pick d c x y =>
    simp only [VOp.uses, List.mem_append] at hR
    simp only [exec]
    refine (l_opd fun t ht => hR t (.inl (.inl ht))).bind fun u => ?_
    split
    · split
      · exact (l_opd fun t ht => hR t (.inl (.inr ht))).bind fun _ => l_setS (hW d rfl) _
      · exact (l_opd fun t ht => hR t (.inr ht)).bind fun _ => l_setS (hW d rfl) _
    · trivial
  | alloc d zs =>
    simp only [exec]
    split
    · trivial
    · exact (l_setN rfl _).bind fun _ => l_setS (hW d rfl) _
  | box d x =>
    simp only [exec]
    refine (l_opd hR).bind fun v => (l_liftO _).bind fun cs => ?_
    split
    · trivial
    · exact (l_setN rfl _).bind fun _ => l_setS (hW d rfl) _
  | build d zs ps => exact (l_buildM ps hR _).bind fun _ => l_setS (hW d rfl) _
  | bsl d e m zs n ps => exact (l_bslM (by simp [VOp.rank]) rfl _ _ _ hR _ _).bind fun _ => (l_setN rfl _).bind fun _ => l_setS (hW d rfl) _
  | load d w x => exact (l_opd hR).bind fun v => (l_loadAt (by simp [VOp.rank]) _ _).bind fun _ => l_setS (hW d rfl) _
  | store w x y =>
    simp only [VOp.uses, List.mem_append] at hR
    exact (l_opd fun t ht => hR t (.inl ht)).bind fun _ => (l_opd fun t ht => hR t (.inr ht)).bind fun _ => l_storeAt (by simp [VOp.rank]) rfl _ _ _ _
  | nilck d x =>
    have hrn : 1 ≤ (VOp.nilck d x).rank writes := by simp [VOp.rank]
    have hd := hW d rfl
    simp only [exec]
    refine (l_opd hR).bind fun v => ?_
    split <;> first
      | exact l_setS hd _
      | trivial
      | (refine (l_getN hrn).bind fun _ => ?_
         split <;> first | exact l_setS hd _ | trivial)
  | bin d op x y =>
    simp only [VOp.uses, List.mem_append] at hR
    simp only [exec]
    refine (l_opd fun t ht => hR t (.inl ht)).bind fun _ => (l_opd fun t ht => hR t (.inr ht)).bind fun _ => ?_
    split
    · exact (l_liftO _).bind fun _ => l_setS (hW d rfl) _
    · trivial
  | beq d ne x y =>
    simp only [VOp.uses, List.mem_append] at hR
    simp only [exec]
    refine (l_opd fun t ht => hR t (.inl ht)).bind fun _ => (l_opd fun t ht => hR t (.inr ht)).bind fun _ => ?_
    split
    · exact l_setS (hW d rfl) _
    · trivial
  | un d op x =>
    simp only [exec]
    refine (l_opd hR).bind fun _ => ?_
    split
    · exact (l_liftO _).bind fun _ => l_setS (hW d rfl) _
    · trivial
  | cvi d k x =>
    simp only [exec]
    refine (l_opd hR).bind fun _ => ?_
    split
    · exact l_setS (hW d rfl) _
    · trivial
  | cvs d x =>
    simp only [exec]
    refine (l_opd hR).bind fun _ => ?_
    split
    · exact l_setS (hW d rfl) _
    · trivial
  | s2b d e x => trivial
  | b2s d e x => trivial
  | mkf d f fs cs =>
    simp only [VOp.uses, List.mem_append] at hR
    exact (l_opds fun t ht => hR t (.inl ht)).bind fun _ => (l_opds fun t ht => hR t (.inr ht)).bind fun _ => l_setS (hW d rfl) _
  | mki d t x => exact (l_opd hR).bind fun _ => l_setS (hW d rfl) _
  | mks d e bytes zs x =>
    simp only [exec]
    refine (l_opd hR).bind fun _ => ?_
    split
    · split
      · exact (l_setN rfl _).bind fun _ => l_setS (hW d rfl) _
      · trivial
    · trivial
  | slc0 d e x =>
    simp only [exec]
    refine (l_opd hR).bind fun _ => (l_elems (by simp [VOp.rank]) _).bind fun _ => ?_
    split
    · exact (l_setN rfl _).bind fun _ => l_setS (hW d rfl) _
    · trivial
  | slc d e x lo hi =>
    simp only [VOp.uses, List.mem_append] at hR
    exact (l_opd fun t ht => hR t (.inl (.inl ht))).bind fun _ => (l_bound fun t ht => hR t (.inl (.inr ht))).bind fun _ => (l_bound fun t ht => hR t (.inr ht)).bind fun _ => (l_sliceAt (by simp [VOp.rank]) _ _ _ _).bind fun _ => l_setS (hW d rfl) _
  | sslc d x lo hi =>
    simp only [VOp.uses, List.mem_append] at hR
    exact (l_opd fun t ht => hR t (.inl (.inl ht))).bind fun _ => (l_bound fun t ht => hR t (.inl (.inr ht))).bind fun _ => (l_bound fun t ht => hR t (.inr ht)).bind fun _ => (l_strAt _ _ _).bind fun _ => l_setS (hW d rfl) _
  | fad d x off => exact (l_opd hR).bind fun v => (l_fieldAt (by simp [VOp.rank]) _ _).bind fun _ => l_setS (hW d rfl) _
  | fld d x off w =>
    simp only [exec]
    refine (l_opd hR).bind fun _ => ?_
    split
    · exact (l_liftO _).bind fun _ => l_setS (hW d rfl) _
    · trivial
  | iad d e m x i =>
    simp only [VOp.uses, List.mem_append] at hR
    simp only [exec]
    refine (l_opd fun t ht => hR t (.inl ht)).bind fun _ => (l_opd fun t ht => hR t (.inr ht)).bind fun _ => ?_
    split
    · exact (l_indexAt (by simp [VOp.rank]) _ _ _ _).bind fun _ => l_setS (hW d rfl) _
    · trivial
  | ix d x i =>
    simp only [VOp.uses, List.mem_append] at hR
    simp only [exec]
    refine (l_opd fun t ht => hR t (.inl ht)).bind fun _ => (l_opd fun t ht => hR t (.inr ht)).bind fun _ => ?_
    split
    · exact (l_liftO _).bind fun _ => l_setS (hW d rfl) _
    · trivial
  | len d x => exact (l_opd hR).bind fun v => (l_elems (by simp [VOp.rank]) _).bind fun _ => l_setS (hW d rfl) _
  | slen d x =>
    simp only [exec]
    refine (l_opd hR).bind fun _ => ?_
    split
    · exact l_setS (hW d rfl) _
    · trivial
  | mmx d isMax xs =>
    simp only [exec]
    refine (l_opds hR).bind fun _ => ?_
    split
    · exact (l_liftO _).bind fun _ => l_setS (hW d rfl) _
    · trivial
  | app d e bytes mv x y =>
    simp only [VOp.uses, List.mem_append] at hR
    exact (l_opd fun t ht => hR t (.inl ht)).bind fun _ => (l_opd fun t ht => hR t (.inr ht)).bind fun _ => (l_appendM (by simp [VOp.rank]) rfl _ _ _ _ _ _).bind fun _ => l_setS (hW d rfl) _
  | ext d x i =>
    simp only [exec]
    refine (l_opd hR).bind fun _ => ?_
    split
    · exact (l_liftO _).bind fun _ => l_setS (hW d rfl) _
    · trivial
  | call d f xs =>
    refine (l_opds hR).bind fun vs => (l_callM (by simp only [VOp.rank]; split <;> omega) _ (fun c hc => ?_) _ _).bind fun _ => puts _ _ hW
    simp only [VOp.rank]
    by_cases hw : writes f = true
    · rw [if_pos hw]; exact .inl rfl
    · exact .inr (hΦ f c hc (by simpa using hw))
  | calv d f xs =>
    simp only [VOp.uses, List.mem_append] at hR
    simp only [exec]
    refine (l_opd fun t ht => hR t (.inl ht)).bind fun g => ?_
    split
    · exact (l_opds fun t ht => hR t (.inr ht)).bind fun vs => (l_callM (by simp [VOp.rank]) _ (fun c hc => .inl rfl) _ _).bind fun _ => puts _ _ hW
    · trivial

def VOper.reads (o : VOper) : List Nat := (o.guard.map (·.1)).toList ++ o.op.uses

theorem l_execG {Φ : Nat → Option Callee} {writes : Nat → Bool} (hΦ : ∀ f c, Φ f = some c → writes f = false → Still c) (b : Nat) (o : VOper) (hd : o.guard = none ∨ o.op.dst = o.dst) :
    Loc (fun t => t ∈ o.reads) (fun t => o.op.dst = some t) (1 ≤ o.op.rank writes) (o.op.rank writes = 2) (execG Φ b o) := by
  have hx := l_exec hΦ b o.op (R := fun t => t ∈ o.reads) (W := fun t => o.op.dst = some t) (fun t ht => by unfold VOper.reads; exact List.mem_append.2 (.inr ht)) fun t ht => ht
  have puts : ∀ (v : TV), o.op.dst = o.dst → Loc (fun t => t ∈ o.reads) (fun t => o.op.dst = some t) (1 ≤ o.op.rank writes) (o.op.rank writes = 2) (putO o.dst v) := by
    intro v e
    rw [← e]
    cases hdd : o.op.dst with
    | none => trivial
    | some d => exact ⟨rfl, trivial⟩
  unfold execG
  split
  · exact hx
  · rename_i t want hg
    have hd' : o.op.dst = o.dst := hd.resolve_left (by rw [hg]; simp)
    refine (l_getS (by unfold VOper.reads; rw [hg]; simp)).bind fun u => ?_
    split
    · split
      · exact hx
      · exact puts _ hd'
    · exact puts _ hd'
    · trivial

end Go.Proofs.YtkoljcjliihiiaaDoor.VM
namespace Go.Proofs.YtkoljcjliihiiaaDoor.VM
open Go

theorem bind_runW {α β : Type} (x : M α) {f : α → M β} {s : St} : (x.bind f).run s = (match x.run s with | some (a, s') => (f a).run s' | none => none) := by
  induction x generalizing s with
  | pure x => rfl
  | fail => rfl
  | getS t k ih => exact ih _
  | setS t v k ih => exact ih
  | getN id k ih => exact ih _
  | setN id n k ih => exact ih

/-! ### what is read, what is written -/
/-- Reads alone: slots of R, nodes of U. -/
def RdK {α : Type} (R U : Nat → Prop) (post : α → Prop) : M α → Prop
  | .pure x => post x
  | .fail => True
  | .getS t k => R t ∧ ∀ v, idsIn U v → RdK R U post (k v)
  | .getN id k => U id ∧ ∀ n, (∀ m, n = some m → m.idsIn U) → RdK R U post (k n)
  | .setS _ _ _ => False
  | .setN _ _ _ => False
/-- Writes alone. -/
def WrK {α : Type} (W B : Nat → Prop) : M α → Prop
  | .pure _ => True
  | .fail => True
  | .getS _ _ => False
  | .getN _ _ => False
  | .setS t _ k => W t ∧ WrK W B k
  | .setN id _ k => B id ∧ WrK W B k

abbrev any {α : Type} : α → Prop := fun _ => True
section
variable {R W U B : Nat → Prop}
theorem RdK.bind {α β : Type} {post : α → Prop} {post' : β → Prop} {m : M α} {k : α → M β} (h : RdK R U post m) (hk : ∀ x, post x → RdK R U post' (k x)) : RdK R U post' (m.bind k) := by
  induction m with
  | pure x => exact hk x h
  | fail => exact trivial
  | getS t k' ih => exact ⟨h.1, fun v hv => ih v (h.2 v hv)⟩
  | getN id k' ih => exact ⟨h.1, fun n hn => ih n (h.2 n hn)⟩
  | setS t v k' ih => exact h.elim
  | setN id n k' ih => exact h.elim
theorem RdK.bindA {α β : Type} {post : α → Prop} {m : M α} {k : α → M β} (h : RdK R U post m) (hk : ∀ x, post x → RdK R U any (k x)) : RdK R U any (m.bind k) := h.bind hk
theorem RdK.mono {α : Type} {post post' : α → Prop} {m : M α} (h : RdK R U post m) (hp : ∀ x, post x → post' x) : RdK R U post' m := by
  induction m with
  | pure x => exact hp x h
  | fail => exact trivial
  | getS t k' ih => exact ⟨h.1, fun v hv => ih v (h.2 v hv)⟩
  | getN id k' ih => exact ⟨h.1, fun n hn => ih n (h.2 n hn)⟩
  | setS t v k' ih => exact h.elim
  | setN id n k' ih => exact h.elim
theorem WrK.bind {α β : Type} {m : M α} {k : α → M β} (h : WrK W B m) (hk : ∀ x, WrK W B (k x)) : WrK W B (m.bind k) := by
  induction m with
  | pure x => exact hk x
  | fail => exact trivial
  | getS t k' ih => exact h.elim
  | getN id k' ih => exact h.elim
  | setS t v k' ih => exact ⟨h.1, ih h.2⟩
  | setN id n k' ih => exact ⟨h.1, ih h.2⟩

/-- A frame whose slots of R and nodes of U name ids of U alone. -/
structure Clean (R U : Nat → Prop) (st : St) : Prop where
  slots : ∀ t, R t → idsIn U (st.slot t)
  nodes : ∀ id n, U id → st.node id = some n → n.idsIn U

theorem rdk_run {α : Type} {post : α → Prop} {st : St} (hc : Clean R U st) : ∀ {m : M α}, RdK R U post m → ∀ {r : α} {s : St}, m.run st = some (r, s) → s = st ∧ post r ∧
    ∀ st' : St, (∀ t, R t → st'.slot t = st.slot t) → (∀ id, U id → st'.node id = st.node id) → m.run st' = some (r, st')
  | .pure x, h, r, s, hr => by
    cases run_pure hr
    exact ⟨rfl, h, fun _ _ _ => rfl⟩
  | .fail, _, r, s, hr => (run_fail hr).elim
  | .getS t k, h, r, s, hr => by
    obtain ⟨h1, h2, h3⟩ := rdk_run hc (h.2 _ (hc.slots t h.1)) hr
    refine ⟨h1, h2, fun st' ha hb => ?_⟩
    simp only [M.run]
    rw [ha t h.1]
    exact h3 st' ha hb
  | .getN id k, h, r, s, hr => by
    obtain ⟨h1, h2, h3⟩ := rdk_run hc (h.2 (st.node id) fun m hm => hc.nodes id m h.1 hm) hr
    refine ⟨h1, h2, fun st' ha hb => ?_⟩
    simp only [M.run]
    rw [hb id h.1]
    exact h3 st' ha hb
  | .setS _ _ _, h, _, _, _ => h.elim
  | .setN _ _ _, h, _, _, _ => h.elim

theorem wrk_run {α : Type} : ∀ {m : M α}, WrK W B m → ∀ {st : St} {r : α} {s : St}, m.run st = some (r, s) → ∃ ds dn, s = ⟨ds ++ st.slots, dn ++ st.nodes, st.next⟩ ∧ (∀ x ∈ ds, W x.1) ∧ (∀ x ∈ dn, B x.1) ∧
    ∀ st' : St, m.run st' = some (r, ⟨ds ++ st'.slots, dn ++ st'.nodes, st'.next⟩)
  | .pure x, _, st, r, s, hr => by
    cases run_pure hr
    exact ⟨[], [], rfl, by simp, by simp, fun _ => rfl⟩
  | .fail, _, st, r, s, hr => (run_fail hr).elim
  | .getS _ _, h, _, _, _, _ => h.elim
  | .getN _ _, h, _, _, _, _ => h.elim
  | .setS t v k, h, st, r, s, hr => by
    obtain ⟨ds, dn, e, h1, h2, h3⟩ := wrk_run h.2 hr
    refine ⟨ds ++ [(t, v)], dn, by simpa using e, fun x hx => ?_, h2, fun st' => ?_⟩
    · rcases List.mem_append.1 hx with hx | hx
      · exact h1 x hx
      · simp only [List.mem_singleton] at hx; subst hx; exact h.1
    · have := h3 { st' with slots := (t, v) :: st'.slots }
      simpa [M.run] using this
  | .setN id n k, h, st, r, s, hr => by
    obtain ⟨ds, dn, e, h1, h2, h3⟩ := wrk_run h.2 hr
    refine ⟨ds, dn ++ [(id, n)], by simpa using e, h1, fun x hx => ?_, fun st' => ?_⟩
    · rcases List.mem_append.1 hx with hx | hx
      · exact h2 x hx
      · simp only [List.mem_singleton] at hx; subst hx; exact h.1
    · have := h3 { st' with nodes := (id, n) :: st'.nodes }
      simpa [M.run] using this

/-- What a computation does, by what it reads of a clean frame and what it writes. -/
def FootK {α : Type} (R W U B : Nat → Prop) (m : M α) : Prop := ∀ st, Clean R U st → ∀ {r : α} {s : St}, m.run st = some (r, s) → ∃ ds dn, s = ⟨ds ++ st.slots, dn ++ st.nodes, st.next⟩ ∧ (∀ x ∈ ds, W x.1) ∧ (∀ x ∈ dn, B x.1) ∧
    ∀ st' : St, (∀ t, R t → st'.slot t = st.slot t) → (∀ id, U id → st'.node id = st.node id) → m.run st' = some (r, ⟨ds ++ st'.slots, dn ++ st'.nodes, st'.next⟩)

theorem WrK.foot {α : Type} {m : M α} (h : WrK W B m) : FootK R W U B m := by
  intro st _ r s hr
  obtain ⟨ds, dn, h1, h2, h3, h4⟩ := wrk_run h hr
  exact ⟨ds, dn, h1, h2, h3, fun st' _ _ => h4 st'⟩
theorem RdK.foot {α β : Type} {post : α → Prop} {m : M α} {k : α → M β} (h : RdK R U post m) (hk : ∀ x, post x → FootK R W U B (k x)) : FootK R W U B (m.bind k) := by
  intro st hc r s hr
  obtain ⟨x, s1, h1, h2⟩ := run_bind_some hr
  obtain ⟨rfl, hp, h3⟩ := rdk_run hc h h1
  obtain ⟨ds, dn, k1, k2, k3, k4⟩ := hk x hp _ hc h2
  refine ⟨ds, dn, k1, k2, k3, fun st' ha hb => ?_⟩
  rw [bind_runW, h3 st' ha hb]
  exact k4 st' ha hb
theorem foot_fail {α : Type} : FootK R W U B (M.fail : M α) := WrK.foot trivial

theorem foot_comm {α β : Type} {R1 W1 B1 R2 W2 B2 : Nat → Prop} {m1 : M α} {m2 : M β} (h1 : FootK R1 W1 U B1 m1) (h2 : FootK R2 W2 U B2 m2) (hs1 : ∀ t, W1 t → ¬ R2 t ∧ ¬ W2 t) (hs2 : ∀ t, W2 t → ¬ R1 t)
    (hb1 : ∀ i, B1 i → ¬ U i) (hb2 : ∀ i, B2 i → ¬ U i) (hbb : ∀ i, B1 i → ¬ B2 i) {st s1 s2 : St} (hc1 : Clean R1 U st) (hc2 : Clean R2 U st) {x : α} {y : β} (hr1 : m1.run st = some (x, s1)) (hr2 : m2.run s1 = some (y, s2)) :
    ∃ s1' s2', m2.run st = some (y, s1') ∧ m1.run s1' = some (x, s2') ∧ Same s2' s2 := by
  obtain ⟨ds1, dn1, rfl, w1, n1, k1⟩ := h1 st hc1 hr1
  have no1 : ∀ t, R2 t → look ds1 t = none := fun t ht => look_none fun z hz e => (hs1 z.1 (w1 z hz)).1 (e ▸ ht)
  have nn1 : ∀ i, U i → look dn1 i = none := fun i hi => look_none fun z hz e => hb1 z.1 (n1 z hz) (e ▸ hi)
  have es : ∀ t, R2 t → ({ slots := ds1 ++ st.slots, nodes := dn1 ++ st.nodes, next := st.next } : St).slot t = st.slot t := fun t ht => by rw [slot_app, no1 t ht]; simp [St.slot]
  have en : ∀ i, U i → ({ slots := ds1 ++ st.slots, nodes := dn1 ++ st.nodes, next := st.next } : St).node i = st.node i := fun i hi => by rw [node_app, nn1 i hi]; simp [St.node]
  obtain ⟨ds2, dn2, rfl, w2, n2, k2⟩ := h2 _ ⟨fun t ht => by rw [es t ht]; exact hc2.slots t ht, fun i n hi hn => hc2.nodes i n hi (by rw [← en i hi]; exact hn)⟩ hr2
  have no2 : ∀ t, R1 t → look ds2 t = none := fun t ht => look_none fun z hz e => hs2 z.1 (w2 z hz) (e ▸ ht)
  have nn2 : ∀ i, U i → look dn2 i = none := fun i hi => look_none fun z hz e => hb2 z.1 (n2 z hz) (e ▸ hi)
  have e1 : m2.run st = some (y, ⟨ds2 ++ st.slots, dn2 ++ st.nodes, st.next⟩) := k2 st (fun t ht => (es t ht).symm) fun i hi => (en i hi).symm
  have e2 := k1 ⟨ds2 ++ st.slots, dn2 ++ st.nodes, st.next⟩ (fun t ht => by rw [slot_app, no2 t ht]; simp [St.slot]) (fun i hi => by rw [node_app, nn2 i hi]; simp [St.node])
  refine ⟨_, _, e1, e2, fun t => ?_, fun i => ?_⟩
  · simp only [St.slot, look_append]
    by_cases hw : W1 t
    · have : look ds2 t = none := look_none fun z hz e => (hs1 t hw).2 (e ▸ w2 z hz)
      rw [this]; simp
    · have : look ds1 t = none := look_none fun z hz e => hw (e ▸ w1 z hz)
      rw [this]; simp
  · simp only [St.node, look_append]
    by_cases hw : B1 i
    · have : look dn2 i = none := look_none fun z hz e => hbb i hw (e ▸ n2 z hz)
      rw [this]; simp
    · have : look dn1 i = none := look_none fun z hz e => hw (e ▸ n1 z hz)
      rw [this]; simp

/-! ### the parts -/
theorem k_liftO {α : Type} (o : Option α) : RdK R U any (liftO o) := by cases o <;> trivial
theorem k_getN {id : Nat} (h : U id) : RdK R U (fun n => ∀ m, n = some m → m.idsIn U) (getN id) := ⟨h, fun _ hn => hn⟩
theorem k_opd {x : Opd} (h : ∀ t ∈ x.used, R t) : RdK R U (idsIn U) (opd x) := by
  cases x with
  | t n => exact ⟨h n (by simp [Opd.used]), fun v hv => hv⟩
  | c v => trivial
  | nl e => trivial
  | f g => exact ⟨trivial, trivial⟩
theorem k_opds : ∀ {xs : List Opd}, (∀ t ∈ xs.flatMap (·.used), R t) → RdK R U (idsInL U) (opds xs)
  | [], _ => trivial
  | x :: xs, h => (k_opd fun t ht => h t (by simp [ht])).bind fun v hv => (k_opds fun t ht => h t (by
      simp only [List.flatMap_cons, List.mem_append]; exact .inr ht)).bind fun vs hvs => ⟨hv, hvs⟩
theorem k_bound {y : Option Opd} (h : ∀ t ∈ (y.map (·.used)).getD [], R t) : RdK R U any (bound y) := by
  cases y with
  | none => trivial
  | some y =>
    refine (k_opd h).bind fun u _ => ?_
    split <;> trivial
theorem k_elems {v : TV} (h : idsIn U v) : RdK R U any (elems v) := by
  cases v <;> first
    | trivial
    | (refine (k_getN (by first | exact h | exact h.1)).bind fun n _ => ?_
       repeat' split
       all_goals trivial)
theorem k_loadAt {w : Option Nat} {v : TV} (h : idsIn U v) : RdK R U any (loadAt w v) := by
  cases v <;> first
    | trivial
    | exact k_liftO _
    | (refine (k_getN (by first | exact h | exact h.1)).bind fun n _ => ?_
       repeat' split
       all_goals first | trivial | exact k_liftO _)
theorem k_fieldAt {o : Nat} {v : TV} (h : idsIn U v) : RdK R U any (fieldAt o v) := by
  cases v <;> first
    | trivial
    | (refine (k_getN (by first | exact h | exact h.1)).bind fun n _ => ?_
       repeat' split
       all_goals trivial)
theorem k_sliceAt {e : Nat} {v : TV} {lo hi : Option Int} (h : idsIn U v) : RdK R U any (sliceAt e v lo hi) := by
  unfold sliceAt
  split
  · split <;> trivial
  · split <;> trivial
  · refine (k_getN h).bindA fun n _ => ?_
    repeat' split
    all_goals trivial
  · refine (k_getN h).bindA fun n _ => ?_
    repeat' split
    all_goals trivial
  · trivial
theorem k_indexAt {e m : Nat} {v : TV} {i : Int} (h : idsIn U v) : RdK R U any (indexAt e m v i) := by
  unfold indexAt
  refine (k_elems h).bind fun r _ => ?_
  repeat' split
  all_goals trivial

mutual
theorem k_freeze (z : Bool) : ∀ (k n : Nat) {x : TV}, idsIn U x → RdK R U any (freeze z k n x)
  | 0, n, x, _ => by unfold freeze; trivial
  | k + 1, n, x, h => by
    unfold freeze
    split
    · trivial
    · trivial
    · trivial
    · exact RdK.bindA (k_freezeL z k h) fun _ _ => (trivial : RdK R U any (M.pure _))
    · exact (k_freezeL z k h.1).bindA fun _ _ => RdK.bindA (k_freezeL z k h.2) fun _ _ => (trivial : RdK R U any (M.pure _))
    · exact RdK.bindA (k_freeze z k _ h) fun _ _ => (trivial : RdK R U any (M.pure _))
    · trivial
    · split
      · trivial
      · refine (k_getN h).bindA fun n hn => ?_
        split
        · trivial
        · exact RdK.bindA (k_freezeL z k (hn _ rfl)) fun _ _ => (trivial : RdK R U any (M.pure _))
        · trivial
    · split
      · trivial
      · refine (k_getN h).bindA fun n hn => ?_
        repeat' split
        all_goals trivial
    · split
      · trivial
      · refine (k_getN h.1).bindA fun n hn => ?_
        repeat' split
        all_goals trivial
    · split
      · trivial
      · refine (k_getN h).bindA fun n hn => ?_
        split
        · split
          · refine RdK.bind (post := any) (k_freezeL z k ?_) fun _ _ => (trivial : RdK R U any (M.pure _))
            have := hn _ rfl
            exact idsInL_of fun c hc => idsInL_mem this c (List.mem_of_mem_drop (List.mem_of_mem_take hc))
          · trivial
        · trivial
    · trivial
theorem k_freezeL (z : Bool) : ∀ (k : Nat) {xs : List TV}, idsInL U xs → RdK R U any (freezeL z k xs)
  | 0, xs, _ => by unfold freezeL; trivial
  | k + 1, [], _ => by unfold freezeL; trivial
  | k + 1, x :: xs, h => by
    unfold freezeL
    exact (k_freeze z k 0 h.1).bindA fun _ _ => RdK.bindA (k_freezeL z k h.2) fun _ _ => (trivial : RdK R U any (M.pure _))
end
theorem k_show (keeps : Bool) : ∀ (ms : List Md) {xs : List TV} (ys : List CV), idsInL U xs → RdK R U any (show_ keeps ms xs ys)
  | [], [], [], _ => by unfold show_; trivial
  | .ro n :: ms, x :: xs, y :: ys, h => by unfold show_; exact (k_freeze keeps depth n h.1).bindA fun _ _ => RdK.bindA (k_show keeps ms ys h.2) fun _ _ => (trivial : RdK R U any (M.pure _))
  | .mut _ :: ms, _ :: xs, y :: ys, h => by unfold show_; exact (k_show keeps ms ys h.2).bindA fun _ _ => (trivial : RdK R U any (M.pure _))
  | [], [], _ :: _, _ => by unfold show_; trivial
  | [], _ :: _, _, _ => by unfold show_; trivial
  | .ro _ :: _, [], _, _ => by unfold show_; trivial
  | .ro _ :: _, _ :: _, [], _ => by unfold show_; trivial
  | .mut _ :: _, [], _, _ => by unfold show_; trivial
  | .mut _ :: _, _ :: _, [], _ => by unfold show_; trivial
/-- Nothing is lent. -/
def AllRo (ms : List Md) : Prop := ∀ m ∈ ms, ∃ n, m = .ro n
theorem k_lend (keeps : Bool) : ∀ (ms : List Md) (xs : List TV), AllRo ms → RdK R U any (lend keeps ms xs)
  | [], [], _ => by unfold lend; trivial
  | [], _ :: _, _ => by unfold lend; trivial
  | m :: ms, xs, h => by
    obtain ⟨n, rfl⟩ := h m (by simp)
    cases xs with
    | nil => unfold lend; trivial
    | cons x xs => unfold lend; exact (k_lend keeps ms xs fun m hm => h m (by simp [hm])).bind fun _ _ => trivial
theorem k_lendI (keeps : Bool) (v : Nat) : ∀ (ms : List Md) (xs : List TV) (ys : List CV), AllRo ms → RdK R U any (lendI keeps v ms xs ys)
  | [], [], [], _ => by unfold lendI; trivial
  | [], [], _ :: _, _ => by unfold lendI; trivial
  | [], _ :: _, _, _ => by unfold lendI; trivial
  | m :: ms, xs, ys, h => by
    obtain ⟨n, rfl⟩ := h m (by simp)
    cases xs with
    | nil => unfold lendI; trivial
    | cons x xs =>
      cases ys with
      | nil => unfold lendI; trivial
      | cons y ys => unfold lendI; exact (k_lendI keeps v ms xs ys fun m hm => h m (by simp [hm])).bind fun _ _ => trivial
theorem k_takeBack (q : Bool) (V : Nat) : ∀ (ms : List Md) (xs : List TV) (cs fs : List CV) (b : Nat), AllRo ms → RdK R U (fun b' => b' = b) (takeBack q V b ms xs cs fs)
  | [], [], [], [], b, _ => by simp only [takeBack]; exact rfl
  | [], _ :: _, _, _, b, _ => by simp only [takeBack]; trivial
  | [], [], _ :: _, _, b, _ => by simp only [takeBack]; trivial
  | [], [], [], _ :: _, b, _ => by simp only [takeBack]; trivial
  | m :: ms, xs, cs, fs, b, h => by
    obtain ⟨n, rfl⟩ := h m (by simp)
    cases xs with
    | nil => simp only [takeBack]; trivial
    | cons x xs =>
      cases cs with
      | nil => simp only [takeBack]; trivial
      | cons c cs => simp only [takeBack]; exact k_takeBack q V ms xs cs fs b fun m hm => h m (by simp [hm])

/-! what comes in is written behind a number, and is not read -/
def Grows (b : Nat) {α : Type} (m : M (α × Nat)) : Prop := ∀ (st : St) (r : α × Nat) (s : St), m.run st = some (r, s) → b ≤ r.2 ∧ ∃ dn, s = ⟨st.slots, dn ++ st.nodes, st.next⟩ ∧ (∀ y ∈ dn, b ≤ y.1 ∧ y.1 < r.2) ∧
    ∀ st' : St, m.run st' = some (r, ⟨st'.slots, dn ++ st'.nodes, st'.next⟩)
theorem grows_pure {α : Type} (x : α) (b : Nat) : Grows b (M.pure (x, b)) := by
  intro st r s hr
  cases run_pure hr
  exact ⟨Nat.le_refl _, [], rfl, by simp, fun _ => rfl⟩
theorem grows_bind {α β : Type} {m : M (α × Nat)} {k : α × Nat → M (β × Nat)} {b : Nat} (h : Grows b m) (hk : ∀ x : α × Nat, b ≤ x.2 → Grows x.2 (k x)) : Grows b (m.bind k) := by
  intro st r s hr
  obtain ⟨x, s1, h1, h2⟩ := run_bind_some hr
  obtain ⟨g1, dn, rfl, g3, g4⟩ := h _ _ _ h1
  obtain ⟨k1, dn', rfl, k3, k4⟩ := hk x g1 _ _ _ h2
  refine ⟨Nat.le_trans g1 k1, dn' ++ dn, by simp, fun y hy => ?_, fun st' => ?_⟩
  · rcases List.mem_append.1 hy with hy | hy
    · have := k3 y hy; omega
    · have := g3 y hy; omega
  · rw [bind_runW, g4 st']
    have := k4 ⟨st'.slots, dn ++ st'.nodes, st'.next⟩
    simpa using this
theorem grows_map {α β : Type} {m : M (α × Nat)} {f : α → β} {b : Nat} (h : Grows b m) : Grows b (m.bind fun r => .pure (f r.1, r.2)) :=
  grows_bind h fun x _ => grows_pure _ _
mutual
theorem g_unpack (q : Bool) : ∀ (c : CV) (b : Nat), Grows b (unpack q b c)
  | .a v, b => by unfold unpack; exact grows_pure _ _
  | .sl z e es, b => by
    unfold unpack
    split
    · exact grows_pure _ _
    · intro st r s hr
      obtain ⟨u, s1, h1, h2⟩ := run_bind_some hr
      cases run_setN h1
      cases run_pure h2
      exact ⟨Nat.le_succ _, [(b, some (.sl q 0 e es))], rfl, fun y hy => by simp only [List.mem_singleton] at hy; subst hy; exact ⟨Nat.le_refl _, Nat.lt_succ_self _⟩, fun _ => rfl⟩
  | .bx z cs, b => by
    unfold unpack
    intro st r s hr
    obtain ⟨x, s1, h1, h2⟩ := run_bind_some hr
    obtain ⟨g1, dn, rfl, g3, g4⟩ := g_unpackL q cs (b + 1) _ _ _ h1
    obtain ⟨u, s2, h3, h4⟩ := run_bind_some h2
    cases run_setN h3
    cases run_pure h4
    dsimp only
    refine ⟨by omega, (b, some (.bx z x.1)) :: dn, rfl, fun y hy => ?_, fun st' => ?_⟩
    · rcases List.mem_cons.1 hy with rfl | hy
      · dsimp only; omega
      · have := g3 y hy; omega
    · rw [bind_runW, g4 st']
      rfl
  | .st cs, b => by unfold unpack; exact grows_map (g_unpackL q cs b)
  | .tp cs, b => by unfold unpack; exact grows_map (g_unpackL q cs b)
  | .fn f fs cs, b => by
    unfold unpack
    exact grows_bind (g_unpackL q fs b) fun p _ => grows_map (f := fun r => TV.fn f p.1 r) (g_unpackL q cs p.2)
  | .ic t v, b => by unfold unpack; exact grows_map (g_unpack q v b)
  | .un, b => by unfold unpack; exact grows_pure _ _
theorem g_unpackL (q : Bool) : ∀ (cs : List CV) (b : Nat), Grows b (unpackL q b cs)
  | [], b => by unfold unpackL; exact grows_pure _ _
  | c :: cs, b => by
    unfold unpackL
    exact grows_bind (g_unpack q c b) fun r _ => grows_map (f := fun p => r.1 :: p) (g_unpackL q cs r.2)
end

/-- The nodes of an operation's own. -/
def ownR (b : Nat) : Nat → Prop := fun i => b ≤ i ∧ i < b + 100
theorem foot_result {q : Bool} {b : Nat} {rs : List CV} {d : Option Nat} (hW : ∀ t, d = some t → W t) : FootK R W U (ownR b) ((resultTV q (b + 99) b rs).bind (putO d)) := by
  intro st hc r s hr
  obtain ⟨v, s1, h1, h2⟩ := run_bind_some hr
  unfold resultTV at h1
  obtain ⟨x, s2, h3, h4⟩ := run_bind_some h1
  obtain ⟨g1, dn, rfl, g3, g4⟩ := g_unpackL q rs b _ _ _ h3
  split at h4
  · rename_i hle
    cases run_pure h4
    have hput : ∃ ds, (∀ y ∈ ds, W y.1) ∧ ∀ st' : St, (putO d (oneOf x.1)).run st' = some ((), ⟨ds ++ st'.slots, st'.nodes, st'.next⟩) := by
      cases d with
      | none => exact ⟨[], by simp, fun _ => rfl⟩
      | some t => exact ⟨[(t, oneOf x.1)], fun y hy => by simp only [List.mem_singleton] at hy; subst hy; exact hW t rfl, fun _ => rfl⟩
    obtain ⟨ds, e1, e2⟩ := hput
    rw [e2] at h2
    cases h2
    refine ⟨ds, dn, rfl, e1, fun y hy => ?_, fun st' _ _ => ?_⟩
    · have := g3 y hy
      exact ⟨this.1, by omega⟩
    · rw [bind_runW]
      unfold resultTV
      rw [bind_runW, g4 st']
      simp only [if_pos hle]
      exact e2 _
  · exact (run_fail h4).elim

theorem foot_put {d : Option Nat} (hW : ∀ t, d = some t → W t) (v : TV) : WrK W B (putO d v) := by
  cases d with
  | none => trivial
  | some t => exact ⟨hW t rfl, trivial⟩
theorem foot_call {c : Callee} (hc : AllRo c.modes) {b : Nat} {xs : List TV} (hx : idsInL U xs) {d : Option Nat} (hW : ∀ t, d = some t → W t) : FootK R W U (ownR b) ((callM (some c) b xs).bind (putO d)) := by
  have assoc : ∀ {α β γ : Type} (m : M α) (f : α → M β) (g : β → M γ), (m.bind f).bind g = m.bind fun x => (f x).bind g := by
    intro α β γ m f g
    induction m with
    | pure x => rfl
    | fail => rfl
    | getS t k ih => exact congrArg (M.getS t) (funext ih)
    | setS t v k ih => exact congrArg (M.setS t v) ih
    | getN id k ih => exact congrArg (M.getN id) (funext ih)
    | setN id n k ih => exact congrArg (M.setN id n) ih
  unfold callM lendA
  rw [assoc, assoc]
  refine (k_lend _ _ _ hc).foot fun ps _ => ?_
  refine (k_lendI _ _ _ _ _ hc).foot fun ps _ => ?_
  rw [assoc]
  refine (k_show _ _ _ hx).foot fun cs _ => ?_
  split
  · exact foot_fail
  · rw [assoc]
    refine (k_takeBack _ _ _ _ _ _ _ hc).foot fun b' hb => ?_
    subst hb
    split
    · rw [if_pos (by omega), assoc]
      exact (k_liftO _).foot fun ts _ => WrK.foot (foot_put hW _)
    · exact foot_result hW
end

/-! ### an operation -/
theorem foot_exec {Φ : Nat → Option Callee} {writes : Nat → Bool} (hΦ : ∀ f c, Φ f = some c → writes (f + 1000000) = false → AllRo c.modes) {R W U : Nat → Prop} (b : Nat) (op : VOp) (ho : op.own writes = true) (hR : ∀ t ∈ op.uses, R t) (hW : ∀ t, op.dst = some t → W t) :
    FootK R W U (ownR b) (exec Φ b op) := by
  have wS : ∀ {d : Nat} {v : TV}, W d → FootK R W U (ownR b) (setS d v) := fun h => WrK.foot ⟨h, trivial⟩
  have own : ownR b b := ⟨Nat.le_refl _, by omega⟩
  have wN : ∀ {d : Nat} {v : TV} {n : Option Node}, W d → FootK R W U (ownR b) ((setN b n).bind fun _ => setS d v) := fun h => WrK.foot ⟨own, h, trivial⟩
  cases op with
  | load d w x => exact (k_opd hR).foot fun v hv => (k_loadAt hv).foot fun _ _ => wS (hW d rfl)
  | slc d e x lo hi =>
    simp only [VOp.uses, List.mem_append] at hR
    exact (k_opd fun t ht => hR t (.inl (.inl ht))).foot fun v hv => (k_bound fun t ht => hR t (.inl (.inr ht))).foot fun _ _ => (k_bound fun t ht => hR t (.inr ht)).foot fun _ _ => (k_sliceAt hv).foot fun _ _ => wS (hW d rfl)
  | iad d e m x i =>
    simp only [VOp.uses, List.mem_append] at hR
    refine (k_opd fun t ht => hR t (.inl ht)).foot fun v hv => (k_opd fun t ht => hR t (.inr ht)).foot fun u _ => ?_
    split
    · exact (k_indexAt hv).foot fun _ _ => wS (hW d rfl)
    · exact foot_fail
  | len d x => exact (k_opd hR).foot fun v hv => (k_elems hv).foot fun _ _ => wS (hW d rfl)
  | fad d x off => exact (k_opd hR).foot fun v hv => (k_fieldAt hv).foot fun _ _ => wS (hW d rfl)
  | nilck d x =>
    refine (k_opd hR).foot fun v hv => ?_
    split
    · refine (k_getN hv).foot fun n _ => ?_
      split
      · exact wS (hW d rfl)
      · exact foot_fail
    · exact wS (hW d rfl)
    · refine (k_getN hv).foot fun n _ => ?_
      split
      · exact wS (hW d rfl)
      · exact foot_fail
    · exact wS (hW d rfl)
    · exact wS (hW d rfl)
    · exact wS (hW d rfl)
    · exact foot_fail
  | alloc d zs =>
    simp only [exec]
    split
    · exact foot_fail
    · exact wN (hW d rfl)
  | box d x =>
    refine (k_opd hR).foot fun v hv => (k_liftO _).foot fun cs _ => ?_
    split
    · exact foot_fail
    · exact wN (hW d rfl)
  | mks d e bytes zs x =>
    refine (k_opd hR).foot fun v hv => ?_
    split
    · split
      · exact wN (hW d rfl)
      · exact foot_fail
    · exact foot_fail
  | slc0 d e x =>
    refine (k_opd hR).foot fun v hv => (k_elems hv).foot fun _ _ => ?_
    split
    · exact wN (hW d rfl)
    · exact foot_fail
  | bsl d e m zs n ps =>
    simp only [VOp.own] at ho
    have key : ∀ (ps : List (Nat × Opd)) (q : Bool) (es : List PV), (∀ t ∈ ps.flatMap (·.2.used), R t) → RdK R U any (bslM true m ps q es) := by
      intro ps
      induction ps with
      | nil => intro q es _; trivial
      | cons p ps ih =>
        obtain ⟨i, x⟩ := p
        intro q es hR
        unfold bslM
        refine (k_opd fun t ht => hR t (by simp [ht])).bind fun v _ => ?_
        refine RdK.bind (post := any) ?_ fun y _ => ?_
        · unfold toEl
          split
          · exact (k_liftO _).bind fun _ _ => trivial
          · exact (k_liftO _).bind fun _ _ => trivial
        · split
          · exact ih _ _ fun t ht => hR t (by simp only [List.flatMap_cons, List.mem_append]; exact .inr ht)
          · trivial
    simp only [exec, ho]
    exact (key ps false _ fun t ht => hR t (by simpa [VOp.uses] using ht)).foot fun es _ => wN (hW d rfl)
  | call d f xs =>
    simp only [VOp.own, Bool.not_eq_true'] at ho
    refine (k_opds hR).foot fun vs hvs => ?_
    cases hc : Φ f with
    | none => exact foot_fail
    | some c => exact foot_call (hΦ f c hc ho) hvs hW
  | _ => cases ho

theorem foot_execG {Φ : Nat → Option Callee} {writes : Nat → Bool} (hΦ : ∀ f c, Φ f = some c → writes (f + 1000000) = false → AllRo c.modes) {U : Nat → Prop} (b : Nat) (o : VOper) (ho : o.op.own writes = true) (hd : o.guard = none ∨ o.op.dst = o.dst) :
    FootK (fun t => t ∈ o.reads) (fun t => o.op.dst = some t) U (ownR b) (execG Φ b o) := by
  have hx := foot_exec hΦ (R := fun t => t ∈ o.reads) (W := fun t => o.op.dst = some t) (U := U) b o.op ho (fun t ht => by unfold VOper.reads; exact List.mem_append.2 (.inr ht)) fun t ht => ht
  unfold execG
  split
  · exact hx
  · rename_i t want hg
    have hd' : o.op.dst = o.dst := hd.resolve_left (by rw [hg]; simp)
    have puts : ∀ (v : TV), FootK (fun t => t ∈ o.reads) (fun t => o.op.dst = some t) U (ownR b) (putO o.dst v) := fun v => WrK.foot (foot_put (fun t ht => by rw [hd']; exact ht) v)
    refine RdK.foot (post := any) ⟨by unfold VOper.reads; rw [hg]; simp, fun v _ => trivial⟩ fun u _ => ?_
    split
    · split
      · exact hx
      · exact puts _
    · exact puts _
    · exact foot_fail
end Go.Proofs.YtkoljcjliihiiaaDoor.VM
namespace Go.Proofs.YtkoljcjliihiiaaDoor.VM
open Go

variable {cx : Cx} {U : Nat → Prop} {ρ : Nat → Value} {F : Nat → Cells} {st : St} {a : Act} {w : World} {Φ : Nat → Option Callee}

theorem Same.refl (st : St) : Same st st := ⟨fun _ => rfl, fun _ => rfl⟩
theorem Same.symm {s s' : St} (h : Same s s') : Same s' s := ⟨fun t => (h.slot t).symm, fun i => (h.node i).symm⟩
theorem Same.trans {s s1 s2 : St} (h : Same s s1) (h' : Same s1 s2) : Same s s2 := ⟨fun t => (h.slot t).trans (h'.slot t), fun i => (h.node i).trans (h'.node i)⟩

theorem same_run {α : Type} : ∀ (m : M α) {s s' : St} (_ : Same s s') {x : α} {r : St}, m.run s = some (x, r) → ∃ r', m.run s' = some (x, r') ∧ Same r r'
  | .pure y, s, s', h, x, r, hr => by
    cases run_pure hr
    exact ⟨s', rfl, h⟩
  | .fail, s, s', h, x, r, hr => (run_fail hr).elim
  | .getS t k, s, s', h, x, r, hr => by
    simp only [M.run] at hr ⊢
    rw [← h.slot t]
    exact same_run (k _) h hr
  | .setS t v k, s, s', h, x, r, hr => by
    simp only [M.run] at hr ⊢
    exact same_run k (s := { s with slots := (t, v) :: s.slots }) (s' := { s' with slots := (t, v) :: s'.slots }) ⟨fun t' => by rw [slot_set, slot_set, h.slot], h.node⟩ hr
  | .getN id k, s, s', h, x, r, hr => by
    simp only [M.run] at hr ⊢
    rw [← h.node id]
    exact same_run (k _) h hr
  | .setN id n k, s, s', h, x, r, hr => by
    simp only [M.run] at hr ⊢
    exact same_run k (s := { s with nodes := (id, n) :: s.nodes }) (s' := { s' with nodes := (id, n) :: s'.nodes }) ⟨h.slot, fun i => by rw [node_set, node_set, h.node]⟩ hr

theorem Same.shape {s s' : St} (h : Same s s') : shapeOf s = shapeOf s' := by
  funext id
  simp only [shapeOf, h.node id]

theorem G.same {X : Cells} {s s' : St} (h : G cx U X ρ F s a w) (e : Same s s') : G cx U X ρ F s' a w where
  slots := fun t => by have := h.slots t; rwa [e.slot t, e.shape] at this
  ids := fun t => by have := h.ids t; rwa [e.slot t] at this
  nodes := fun id n hn => by have := h.nodes id n (by rw [e.node id]; exact hn); rwa [e.shape] at this
  used := fun id n hn => h.used id n (by rw [e.node id]; exact hn)
  apart := fun i j hij h1 h2 => h.apart i j hij (by rw [e.node i]; exact h1) (by rw [e.node j]; exact h2)
  apartX := fun i h1 => h.apartX i (by rw [e.node i]; exact h1)
  mine := fun i h1 => h.mine i (by rw [e.node i]; exact h1)
  mineX := h.mineX
  one := h.one
  kept := h.kept
  zold := h.zold
  size := h.size
  small := h.small
  defers := h.defers

theorem Qok.same {s s' : St} (h : Qok s) (e : Same s s') : Qok s' := fun id ver ee es hn => h id ver ee es (by rw [e.node id]; exact hn)

/-! ### one operation -/
/-- All functions of the table keep what they say. -/
structure Good (P : Program) (writes : Nat → Bool) (Φ : Nat → Option Callee) : Prop where
  sound : ∀ f c, Φ f = some c → Sound P f c
  still : ∀ f c, Φ f = some c → writes f = false → Still c
  fresh : ∀ f c, Φ f = some c → writes (f + 1000000) = false → AllRo c.modes

theorem Good.nofz {P : Program} {writes : Nat → Bool} (h : Good P writes Φ) : ∀ f, Nofz (Φ f) := by
  intro f c hc hk
  exact (h.sound f c hc).nofz hk

theorem cOp_dst {P : Program} {ops : Array Oper} {o : Oper} {v : VOp} (h : cOp P ops o = some v) : v.dst = o.dst := by
  unfold cOp at h
  repeat' split at h
  all_goals first
    | (cases h; done)
    | (obtain ⟨_, _, rfl⟩ := Option.map_eq_some_iff.1 h; simp only [VOp.dst]; first | rfl | (symm; assumption) | done)
    | (cases h; simp only [VOp.dst]; first | rfl | (symm; assumption))

theorem cOper_spec {P : Program} {ops : Array Oper} {o : Oper} {v : VOper} (h : cOper P ops o = some v) :
    cOp P ops o = some v.op ∧ ((o.guard = none ∧ v.guard = none) ∨ ∃ j b t, o.guard = some (j, b) ∧ (ops[j]?).bind (·.dst) = some t ∧ v.guard = some (t, b) ∧ v.dst = o.dst) := by
  unfold cOper at h
  split at h
  · cases h
  · rename_i x hx
    split at h
    · cases h
      rename_i hg
      exact ⟨hx, .inl ⟨hg, rfl⟩⟩
    · rename_i j b hg
      split at h
      · rename_i t ht
        cases h
        exact ⟨hx, .inr ⟨j, b, t, hg, ht, rfl, rfl⟩⟩
      · cases h

theorem tmp_bool {t : Nat} (ht : t < 10000) (h : G cx U (fun _ _ => False) ρ F st a w) {v : Value} (hs : st.slot t = .a v) : a.tmps.getD t undef = v := by
  have := slot_tr h ht
  rw [hs] at this
  cases this
  rfl

theorem op_step {writes : Nat → Bool} (hΦ : Good cx.P writes Φ) (h : G cx U (fun _ _ => False) ρ F st a w) (hq : Qok st) {b : Nat} (hb : ∀ i, b ≤ i → i < b + 100 → ¬ U i) {ops : Array Oper} {i : Nat} {o : Oper} {v : VOper}
    (hi : ops[i]? = some o) (hc : cOper cx.P ops o = some v) (hd : ∀ d, o.dst = some d → d < cx.n) (hg : ∀ t b, v.guard = some (t, b) → t < cx.n) {s1 : St} (hr : (execG Φ b v).run st = some ((), s1))
    {Q : Exit → Act → World → Prop} {K : Act → World → Prop} (hK : ∀ a w, Rel cx (Win U b) s1 a w → K a w) : wpOp cx.P ops Q i K a w := by
  unfold wpOp
  rw [hi]
  simp only
  obtain ⟨hop, hgd⟩ := cOper_spec hc
  rcases hgd with ⟨g1, g2⟩ | ⟨j, want, t, g1, g2, g3, g4⟩
  · rw [if_pos (by simp [Region.wanted, g1])]
    refine .inl ?_
    unfold execG at hr
    rw [g2] at hr
    exact (op_any hΦ.sound h hq hb hop hd hr).wp hK
  · have htn : t < cx.n := hg t want g3
    have ht : t < 10000 := Nat.lt_of_lt_of_le htn h.small
    unfold execG at hr
    rw [g3] at hr
    simp only at hr
    obtain ⟨u, s2, h1, h2⟩ := run_bind_some hr
    cases run_getS h1
    have htm : ∀ v, st.slot t = .a v → a.tmps[t]? = some v := by
      intro v hv
      have := tmp_bool ht h hv
      rw [Array.getD_eq_getD_getElem?] at this
      have hlt : t < a.tmps.size := by rw [h.size]; exact htn
      rw [Array.getElem?_eq_getElem hlt] at this ⊢
      simpa using this
    have hw : Region.wanted o (yielded ops a.tmps) = (yielded ops a.tmps j == some want) := by simp [Region.wanted, g1]
    have skip : (putO v.dst TV.none).run st = some ((), s1) → K (a.put o.dst undef) w := by
      intro hp
      rw [g4] at hp
      refine hK _ _ ?_
      cases hdst : o.dst with
      | none =>
        rw [hdst] at hp
        cases run_pure hp
        exact ⟨ρ, F, h.more fun _ h => .inl h⟩
      | some d =>
        rw [hdst] at hp
        cases run_setS hp
        exact (h.rel_put (hd d hdst) (.a _) trivial).more fun _ h => .inl h
    split at h2
    · rename_i g hs
      have hy : yielded ops a.tmps j = some g := by simp [yielded, g2, htm _ hs]
      split at h2
      · rename_i hgw
        subst hgw
        rw [if_pos (by rw [hw, hy]; simp)]
        exact .inl ((op_any hΦ.sound h hq hb hop hd h2).wp hK)
      · rename_i hgw
        rw [if_neg (by rw [hw, hy]; simpa using hgw)]
        exact skip h2
    · rename_i g hs
      have hy : yielded ops a.tmps j = none := by simp [yielded, g2, htm _ hs]
      rw [if_neg (by rw [hw, hy]; simp)]
      exact skip h2
    · exact (run_fail h2).elim

/-! ### a list of operations, each with its nodes' first number -/
def runL (Φ : Nat → Option Callee) : List (Nat × VOper) → St → Option St
  | [], s => some s
  | (b, o) :: r, s => match (execG Φ b o).run s with
    | some (_, s') => runL Φ r s'
    | none => none

def numbered : Nat → List VOper → List (Nat × VOper)
  | _, [] => []
  | b, o :: os => (b, o) :: numbered (b + 100) os

theorem execs_eq : ∀ (os : List VOper) (b : Nat) (s : St), execs Φ b os s = runL Φ (numbered b os) s
  | [], b, s => rfl
  | o :: os, b, s => by
    simp only [execs, numbered, runL]
    cases (execG Φ b o).run s with
    | none => rfl
    | some r => exact execs_eq os _ _

theorem runL_same : ∀ (l : List (Nat × VOper)) {s s' : St} (_ : Same s s') {r : St}, runL Φ l s = some r → ∃ r', runL Φ l s' = some r' ∧ Same r r'
  | [], s, s', h, r, hr => by cases hr; exact ⟨s', rfl, h⟩
  | (b, o) :: l, s, s', h, r, hr => by
    simp only [runL] at hr ⊢
    split at hr
    · rename_i u s1 h1
      obtain ⟨s1', h2, h3⟩ := same_run _ h h1
      rw [h2]
      exact runL_same l h3 hr
    · cases hr

theorem apart_swap {writes : Nat → Bool} {P : Program} (hΦ : Good P writes Φ) {x y : VOper} (hdx : x.guard = none ∨ x.op.dst = x.dst) (hdy : y.guard = none ∨ y.op.dst = y.dst) (h : apartOps writes x y = true) {bx bY : Nat} {s s1 s2 : St}
    (hU : Clean (fun _ => True) U s) (hbx : ∀ i, ownR bx i → ¬ U i) (hbY : ∀ i, ownR bY i → ¬ U i) (hbb : ∀ i, ownR bx i → ¬ ownR bY i)
    (h1 : (execG Φ bx x).run s = some ((), s1)) (h2 : (execG Φ bY y).run s1 = some ((), s2)) : ∃ s1' s2', (execG Φ bY y).run s = some ((), s1') ∧ (execG Φ bx x).run s1' = some ((), s2') ∧ Same s2' s2 := by
  simp only [apartOps, Bool.and_eq_true, Bool.or_eq_true, List.all_eq_true, Bool.not_eq_true', Bool.and_eq_false_iff, Option.mem_toList, List.contains_eq_mem, decide_eq_false_iff_not, beq_eq_false_iff_ne, bne_eq_false_iff_eq] at h
  obtain ⟨⟨h3, h4⟩, h5⟩ := h
  have a1 : ∀ t, x.op.dst = some t → ¬ t ∈ y.reads ∧ ¬ y.op.dst = some t := fun t ht => by
    obtain ⟨k1, k2⟩ := h3 t ht
    exact ⟨k1, fun hh => k2 hh⟩
  have a2 : ∀ t, y.op.dst = some t → ¬ t ∈ x.reads := fun t ht hr => h4 t ht hr
  rcases h5 with ⟨h5, h6⟩ | ⟨hx, hy⟩
  · refine loc_comm (l_execG hΦ.still bx x hdx) (l_execG hΦ.still bY y hdy) a1 a2 (fun hw => ?_) (fun hw hr => ?_) h1 h2
    · rcases h5 with h5 | h5
      · exact absurd hw h5
      · rw [h5]; exact ⟨by omega, by omega⟩
    · rcases h6 with h6 | h6
      · exact absurd hw h6
      · rw [h6] at hr; omega
  · exact foot_comm (foot_execG hΦ.fresh bx x hx hdx) (foot_execG hΦ.fresh bY y hy hdy) a1 a2 hbx hbY hbb ⟨fun t _ => hU.slots t trivial, hU.nodes⟩ ⟨fun t _ => hU.slots t trivial, hU.nodes⟩ h1 h2

theorem wpOp_ex {P : Program} {ops : Array Oper} {i : Nat} {o : Oper} (hi : ops[i]? = some o) {K : Act → World → Prop} {a : Act} {w : World} (h : wpOp P ops (fun _ _ _ => False) i K a w) : ∃ a' w', K a' w' := by
  unfold wpOp at h
  rw [hi] at h
  simp only at h
  split at h
  · rcases h with h | ⟨_, _, _, h⟩
    · unfold Oper.wp at h
      generalize (execOp a.eval o).run P w = r at h
      cases r with
      | ok n w' =>
        cases n with
        | value v => exact ⟨_, _, h⟩
        | skip => exact ⟨_, _, h⟩
        | defer d => exact ⟨_, _, h⟩
        | enter f args =>
          obtain ⟨e, w'', fr, hR, _⟩ := h []
          cases e with
          | returned v => exact ⟨_, _, hR⟩
          | panicked c => exact hR.elim
          | outgrown => obtain ⟨_, _, hh⟩ := hR; exact hh.elim
        | row r args =>
          obtain ⟨v, w'', hR, _⟩ := h (Frame.enter P 0 #[] .normal) []
          exact ⟨_, _, hR⟩
        | _ => exact False.elim h
      | halt s w' => cases s <;> exact False.elim h
    · exact h.elim
  · exact ⟨_, _, h⟩

theorem op_step_ex {writes : Nat → Bool} (hΦ : Good cx.P writes Φ) (h : Rel cx U st a w) (hq : Qok st) {b : Nat} (hb : ∀ i, b ≤ i → i < b + 100 → ¬ U i) {ops : Array Oper} {i : Nat} {o : Oper} {v : VOper}
    (hi : ops[i]? = some o) (hc : cOper cx.P ops o = some v) (hd : ∀ d, o.dst = some d → d < cx.n) (hg : ∀ t b, v.guard = some (t, b) → t < cx.n) {s1 : St} (hr : (execG Φ b v).run st = some ((), s1)) : ∃ a' w', Rel cx (Win U b) s1 a' w' := by
  obtain ⟨ρ, F, hG⟩ := h
  exact wpOp_ex hi (op_step (K := Rel cx (Win U b) s1) (Q := fun _ _ _ => False) hΦ hG hq hb hi hc hd hg hr fun a w h => h)

theorem Rel.clean {R : Nat → Prop} (h : Rel cx U st a w) : Clean R U st := by
  obtain ⟨ρ, F, hG⟩ := h
  exact ⟨fun t _ => hG.ids t, fun id n _ hn => (hG.used id n hn).2⟩

/-! ### what comes before -/
theorem before_inner (acc : Array Nat) (i : Nat) : ∀ (es : List Edge) (s : Nat), (es.foldl (fun s e => if Region.binds .any e then s ||| 2 ^ e.on ||| acc.getD e.on 0 else s) s).testBit i = true →
    s.testBit i = true ∨ ∃ e ∈ es, Region.binds .any e = true ∧ (e.on = i ∨ (acc.getD e.on 0).testBit i = true)
  | [], s, h => .inl h
  | e :: es, s, h => by
    simp only [List.foldl_cons] at h
    rcases before_inner acc i es _ h with h | ⟨e', h1, h2⟩
    · split at h
      · rename_i hb
        simp only [Nat.testBit_or, Bool.or_eq_true, Nat.testBit_two_pow, decide_eq_true_eq] at h
        rcases h with (h | h) | h
        · exact .inl h
        · exact .inr ⟨e, by simp, hb, .inl h⟩
        · exact .inr ⟨e, by simp, hb, .inr h⟩
      · exact .inl h
    · exact .inr ⟨e', by simp [h1], h2⟩

theorem before_spec (ops : Array Oper) : (Region.before ops).size = ops.size ∧ ∀ (j i : Nat) (o : Oper), ops[j]? = some o → ((Region.before ops).getD j 0).testBit i = true →
    ∃ e ∈ o.after, Region.binds .any e = true ∧ (e.on = i ∨ (e.on < j ∧ ((Region.before ops).getD e.on 0).testBit i = true)) := by
  have key : ∀ (l : List Oper) (acc : Array Nat) (done : List Oper), acc.size = done.length → (∀ (j i : Nat) (o : Oper), done[j]? = some o → (acc.getD j 0).testBit i = true →
      ∃ e ∈ o.after, Region.binds .any e = true ∧ (e.on = i ∨ (e.on < j ∧ (acc.getD e.on 0).testBit i = true))) →
      let r := l.foldl (fun acc (o : Oper) => acc.push (o.after.foldl (fun s e => if Region.binds .any e then s ||| 2 ^ e.on ||| acc.getD e.on 0 else s) 0)) acc
      r.size = (done ++ l).length ∧ ∀ (j i : Nat) (o : Oper), (done ++ l)[j]? = some o → (r.getD j 0).testBit i = true →
      ∃ e ∈ o.after, Region.binds .any e = true ∧ (e.on = i ∨ (e.on < j ∧ (r.getD e.on 0).testBit i = true)) := by
    intro l
    induction l with
    | nil =>
      intro acc done hs hacc
      simp only [List.foldl_nil, List.append_nil]
      exact ⟨hs, hacc⟩
    | cons o l ih =>
      intro acc done hs hacc
      simp only [List.foldl_cons]
      have hpush : ∀ (x k : Nat), k < done.length → (acc.push x).getD k 0 = acc.getD k 0 := by
        intro x k hk
        simp only [Array.getD_eq_getD_getElem?]
        rw [Array.getElem?_push_lt (by omega)]
        rw [Array.getElem?_eq_getElem (by omega)]
      have := ih (acc.push (o.after.foldl (fun s e => if Region.binds .any e then s ||| 2 ^ e.on ||| acc.getD e.on 0 else s) 0)) (done ++ [o]) (by simp [hs]) ?_
      · simpa using this
      · intro j i o' hj hb
        rcases Nat.lt_trichotomy j done.length with hlt | heq | hgt
        · rw [List.getElem?_append_left hlt] at hj
          rw [hpush _ _ hlt] at hb
          obtain ⟨e, h1, h2, h3⟩ := hacc j i o' hj hb
          refine ⟨e, h1, h2, h3.imp id fun h => ⟨h.1, ?_⟩⟩
          rw [hpush _ _ (by omega)]; exact h.2
        · subst heq
          simp only [List.getElem?_concat_length, Option.some.injEq] at hj
          subst hj
          rw [Array.getD_eq_getD_getElem?, ← hs, Array.getElem?_push_size, Option.getD_some, ← Array.foldl_toList] at hb
          rcases before_inner acc i _ 0 hb with h | ⟨e, h1, h2, h3⟩
          · simp at h
          · refine ⟨e, by simpa using h1, h2, h3.imp id fun h => ?_⟩
            have hlt : e.on < done.length := by
              apply Nat.lt_of_not_le
              intro hle
              rw [Array.getD_eq_getD_getElem?, Array.getElem?_eq_none (by omega)] at h
              simp at h
            rw [hpush _ _ hlt]
            exact ⟨hlt, h⟩
        · rw [List.getElem?_eq_none (by simp; omega)] at hj
          cases hj
  have := key ops.toList #[] [] rfl (by simp)
  simp only [List.nil_append] at this
  unfold Region.before
  rw [← Array.foldl_toList]
  exact ⟨by rw [this.1]; simp, fun j i o hj => this.2 j i o (by simpa using hj)⟩

/-- What is listed has all before it listed. -/
def Closed (ops : Array Oper) (listed : Array Bool) : Prop := ∀ (j : Nat) (o : Oper), ops[j]? = some o → listed.getD j false = true → ∀ e ∈ o.after, Region.binds .any e = true → listed.getD e.on false = true

theorem before_listed {ops : Array Oper} {listed : Array Bool} (hcl : Closed ops listed) : ∀ (j : Nat) (o : Oper), ops[j]? = some o → (∀ e ∈ o.after, Region.binds .any e = true → listed.getD e.on false = true) →
    ∀ i, ((Region.before ops).getD j 0).testBit i = true → listed.getD i false = true := by
  intro j
  induction j using Nat.strongRecOn with
  | _ j ih =>
    intro o ho hall i hb
    obtain ⟨e, h1, h2, h3⟩ := (before_spec ops).2 j i o ho hb
    rcases h3 with rfl | ⟨hlt, h4⟩
    · exact hall e h1 h2
    · have hl := hall e h1 h2
      cases he : ops[e.on]? with
      | none =>
        have : ops.size ≤ e.on := by simpa using he
        rw [Array.getD_eq_getD_getElem?, Array.getElem?_eq_none (by rw [(before_spec ops).1]; exact this)] at h4
        simp at h4
      | some o' => exact ih e.on hlt o' he (hcl e.on o' he hl) i h4
end Go.Proofs.YtkoljcjliihiiaaDoor.VM
namespace Go.Proofs.YtkoljcjliihiiaaDoor.VM
open Go

variable {cx : Cx} {U : Nat → Prop} {ρ : Nat → Value} {F : Nat → Cells} {st : St} {a : Act} {w : World} {Φ : Nat → Option Callee}

theorem cOpers_get {P : Program} {ops : Array Oper} : ∀ {l : List Oper} {vs : List VOper}, cOpers P ops l = some vs → vs.length = l.length ∧ ∀ (i : Nat) o, l[i]? = some o → ∃ v, vs[i]? = some v ∧ cOper P ops o = some v
  | [], vs, h => by cases h; simp
  | o :: l, vs, h => by
    simp only [cOpers] at h
    split at h
    · rename_i v vs' h1 h2
      cases h
      obtain ⟨k1, k2⟩ := cOpers_get h2
      refine ⟨by simp [k1], fun i o' hi => ?_⟩
      cases i with
      | zero => simp only [List.getElem?_cons_zero, Option.some.injEq] at hi; subst hi; exact ⟨v, by simp, h1⟩
      | succ i => simpa using k2 i o' (by simpa using hi)
    · cases h

/-- What is asked of a region's operations. -/
structure RegOk (cx : Cx) (ops : Array Oper) (vs : List VOper) : Prop where
  code : cOpers cx.P ops ops.toList = some vs
  dsts : ∀ v ∈ vs, (∀ d, v.op.dst = some d → d < cx.n) ∧ ∀ d, v.dst = some d → d < cx.n

theorem RegOk.get {ops : Array Oper} {vs : List VOper} (h : RegOk cx ops vs) {i : Nat} {o : Oper} (hi : ops[i]? = some o) : ∃ v, vs[i]? = some v ∧ cOper cx.P ops o = some v ∧ (∀ d, o.dst = some d → d < cx.n) ∧
    (∀ t b, v.guard = some (t, b) → t < cx.n) ∧ (v.guard = none ∨ v.op.dst = v.dst) := by
  obtain ⟨v, h1, h2⟩ := (cOpers_get h.code).2 i o (by simpa using hi)
  have hdst : ∀ (k : Nat) (o' : Oper) d, ops[k]? = some o' → o'.dst = some d → d < cx.n := by
    intro k o' d hk hd
    obtain ⟨v', k1, k2⟩ := (cOpers_get h.code).2 k o' (by simpa using hk)
    refine (h.dsts v' (List.mem_of_getElem? k1)).1 d ?_
    rw [cOp_dst (cOper_spec k2).1, hd]
  refine ⟨v, h1, h2, fun d hd => hdst i o d hi hd, ?_, ?_⟩
  · intro t b hg
    rcases (cOper_spec h2).2 with ⟨_, g2⟩ | ⟨j, b', t', g1, g2, g3, g4⟩
    · rw [g2] at hg; cases hg
    · rw [g3] at hg
      cases hg
      cases hj : ops[j]? with
      | none => rw [hj] at g2; cases g2
      | some o' =>
        rw [hj] at g2
        exact hdst j o' t hj (by simpa using g2)
  · rcases (cOper_spec h2).2 with ⟨_, g2⟩ | ⟨j, b', t', g1, g2, g3, g4⟩
    · exact .inl g2
    · exact .inr ((cOp_dst (cOper_spec h2).1).trans g4.symm)

def item (vs : List VOper) (b0 i : Nat) : Nat × VOper := (b0 + 100 * i, vs.getD i default)

theorem numbered_items (vs : List VOper) (b0 : Nat) : numbered b0 vs = (List.range vs.length).map (item vs b0) := by
  have key : ∀ (l : List VOper) (pre : List VOper), numbered (b0 + 100 * pre.length) l = (List.range' pre.length l.length).map (item (pre ++ l) b0) := by
    intro l
    induction l with
    | nil => intro pre; rfl
    | cons v l ih =>
      intro pre
      simp only [numbered, List.length_cons, List.range'_succ, List.map_cons]
      have := ih (pre ++ [v])
      simp only [List.length_append, List.length_singleton, List.append_assoc, List.singleton_append] at this
      rw [show b0 + 100 * pre.length + 100 = b0 + 100 * (pre.length + 1) by omega, this]
      congr 1
      simp [item]
  have := key vs []
  simpa [List.range_eq_range'] using this

theorem mem_item {vs : List VOper} {b0 i : Nat} {v : VOper} (h : vs[i]? = some v) : item vs b0 i = (b0 + 100 * i, v) := by simp [item, h]

/-! ### in the order of the text -/
theorem text_ok {writes : Nat → Bool} (hΦ : Good cx.P writes Φ) {ops : Array Oper} {vs : List VOper} (hR : RegOk cx ops vs) {b0 : Nat} {Q : Exit → Act → World → Prop} {s' : St}
    (hQ : ∀ a w U, (∀ k, U k → k < b0 + 100 * ops.size) → Rel cx U s' a w → Qok s' → Q .normal a w) :
    ∀ (n i : Nat) (st : St) (a : Act) (w : World) (U : Nat → Prop), i + n = ops.size → Rel cx U st a w → Qok st → (∀ k, U k → k < b0 + 100 * i) → runL Φ ((List.range' i n).map (item vs b0)) st = some s' → wpOps cx.P ops Q (List.range' i n) a w
  | 0, i, st, a, w, U, hin, h, hq, hU, hr => by
    cases hr
    exact hQ a w U (fun k hk => Nat.lt_of_lt_of_le (hU k hk) (by omega)) h hq
  | n + 1, i, st, a, w, U, hin, h, hq, hU, hr => by
    have hlt : i < ops.size := by omega
    obtain ⟨v, h1, h2, h3, h4, h5⟩ := hR.get (Array.getElem?_eq_getElem hlt)
    simp only [List.range'_succ, List.map_cons, mem_item h1, runL] at hr
    split at hr
    · rename_i u s1 hx
      obtain ⟨ρ, F, hG⟩ := h
      rw [List.range'_succ, wpOps_cons]
      refine op_step hΦ hG hq (fun k hk _ hu => ?_) (Array.getElem?_eq_getElem hlt) h2 h3 h4 hx ?_
      · exact absurd (hU k hu) (by omega)
      · intro a w hrel
        refine text_ok hΦ hR hQ n (i + 1) s1 a w _ (by omega) hrel (q_execG hΦ.nofz _ _ _ _ _ hx hq).1 ?_ hr
        rintro k (hk | hk)
        · exact Nat.lt_of_lt_of_le (hU k hk) (by omega)
        · omega
    · cases hr

/-! ### in any order -/
theorem drawOk_spec {writes : Nat → Bool} {before : List Nat} {vs : List VOper} (h : drawOk writes before vs = true) {i j : Nat} (hij : i < j) {x y : VOper} (hx : vs[i]? = some x) (hy : vs[j]? = some y) (hl : before.length = vs.length) :
    (before.getD j 0).testBit i = true ∨ apartOps writes x y = true := by
  have mem : ∀ (k : Nat) (z : VOper), vs[k]? = some z → ((z, k), before.getD k 0) ∈ vs.zipIdx.zip before := by
    intro k z hz
    have hk : k < vs.length := (List.getElem?_eq_some_iff.1 hz).1
    have hb : k < before.length := by omega
    apply List.mem_of_getElem? (i := k)
    rw [List.getElem?_zip_eq_some]
    refine ⟨?_, ?_⟩
    · rw [List.getElem?_zipIdx, hz]; simp
    · rw [List.getD_eq_getElem?_getD, List.getElem?_eq_getElem hb]; rfl
  unfold drawOk at h
  simp only [List.all_eq_true] at h
  have := h _ (mem j y hy) _ (mem i x hx)
  simpa [hij] using this

theorem backOk_spec {ops : Array Oper} (h : backOk ops = true) {i : Nat} {o : Oper} (hi : ops[i]? = some o) : ∀ e ∈ o.after, Region.binds .any e = true → e.on < i := by
  intro e he hb
  unfold backOk at h
  simp only [List.all_eq_true] at h
  have := h (o, i) (List.mem_of_getElem? (i := i) (by rw [List.getElem?_zipIdx]; simp [hi]))
  simp only [Array.all_eq_true_iff_forall_mem] at this
  have := this e he
  simpa [hb] using this

theorem pull_front {writes : Nat → Bool} (hΦ : Good cx.P writes Φ) {ops : Array Oper} {vs : List VOper} (hR : RegOk cx ops vs) {b0 i : Nat} (hi : i < ops.size) {post : List (Nat × VOper)} : ∀ (pre : List Nat) {U : Nat → Prop} {s r : St} {a : Act} {w : World},
    (∀ j ∈ pre, j < i ∧ apartOps writes (item vs b0 j).2 (item vs b0 i).2 = true) → pre.Pairwise (· < ·) → Rel cx U s a w → Qok s → (∀ j ∈ pre, ∀ k, ownR (b0 + 100 * j) k → ¬ U k) → (∀ k, ownR (b0 + 100 * i) k → ¬ U k) →
    runL Φ (pre.map (item vs b0) ++ item vs b0 i :: post) s = some r → ∃ r', runL Φ (item vs b0 i :: (pre.map (item vs b0) ++ post)) s = some r' ∧ Same r r'
  | [], U, s, r, a, w, _, _, _, _, _, _, h => ⟨r, h, .refl r⟩
  | j :: pre, U, s, r, a, w, hp, hasc, hrel, hq, hfr, hfi, h => by
    obtain ⟨hji, hap⟩ := hp j (by simp)
    have hjs : j < ops.size := by omega
    obtain ⟨vj, h1, h2, h3, h4, h5⟩ := hR.get (Array.getElem?_eq_getElem hjs)
    obtain ⟨vi, g1, g2, g3, g4, g5⟩ := hR.get (Array.getElem?_eq_getElem hi)
    simp only [List.map_cons, List.cons_append, mem_item h1, mem_item g1, runL] at h
    rw [mem_item h1, mem_item g1] at hap
    split at h
    · rename_i u s1 hx
      obtain ⟨a', w', hrel'⟩ := op_step_ex hΦ hrel hq (fun k k1 k2 => hfr j (by simp) k ⟨k1, k2⟩) (Array.getElem?_eq_getElem hjs) h2 h3 h4 hx
      have hlt := (List.pairwise_cons.1 hasc).1
      obtain ⟨r', hr2, hr3⟩ := pull_front hΦ hR hi pre (U := Win U (b0 + 100 * j)) (fun k hk => hp k (by simp [hk])) (List.pairwise_cons.1 hasc).2 hrel' (q_execG hΦ.nofz _ _ _ _ _ hx hq).1
        (fun k hk m hm => by
          rintro (hu | hu)
          · exact hfr k (by simp [hk]) m hm hu
          · have := hlt k hk; unfold ownR at hm; omega)
        (fun m hm => by
          rintro (hu | hu)
          · exact hfi m hm hu
          · unfold ownR at hm; omega) (by rw [mem_item g1]; exact h)
      rw [mem_item g1] at hr2
      simp only [runL] at hr2
      split at hr2
      · rename_i u' s2 hy
        obtain ⟨s1', s2', k1, k2, k3⟩ := apart_swap hΦ h5 g5 hap hrel.clean (fun m hm => hfr j (by simp) m hm) hfi (fun m hm hm' => by unfold ownR at hm hm'; omega) hx hy
        obtain ⟨r'', k4, k5⟩ := runL_same _ k3.symm hr2
        refine ⟨r'', ?_, hr3.trans k5⟩
        simp only [List.map_cons, List.cons_append, mem_item h1, mem_item g1, runL, k1, k2]
        exact k4
      · cases hr2
    · cases h

theorem any_ok {writes : Nat → Bool} (hΦ : Good cx.P writes Φ) {ops : Array Oper} {vs : List VOper} (hR : RegOk cx ops vs) (hD : drawOk writes (Region.before ops).toList vs = true) (hB : backOk ops = true) {b0 : Nat} {Q : Exit → Act → World → Prop} {s' : St}
    (hQ : ∀ s'' a w U, Same s'' s' → (∀ k, U k → k < b0 + 100 * ops.size) → Rel cx U s'' a w → Qok s'' → Q .normal a w) :
    ∀ (n : Nat) (rem : List Nat) (listed : Array Bool) (st : St) (a : Act) (w : World) (U : Nat → Prop), rem.length = n → rem.Pairwise (· < ·) → (∀ i, i ∈ rem ↔ i < ops.size ∧ listed.getD i true = false) → listed.size = ops.size → Closed ops listed →
      Rel cx U st a w → Qok st → (∀ k, U k → k < b0 + 100 * ops.size) → (∀ i ∈ rem, ∀ k, b0 + 100 * i ≤ k → k < b0 + 100 * i + 100 → ¬ U k) → ∀ s1, runL Φ (rem.map (item vs b0)) st = some s1 → Same s1 s' → wpAny cx.P .any ops Q n listed a w := by
  intro n
  induction n with
  | zero =>
    intro rem listed st a w U hlen hasc hmem hsz hcl h hq hU hfr s1 hr hs
    have hrem : rem = [] := List.length_eq_zero_iff.1 hlen
    subst hrem
    refine ⟨?_, ?_⟩
    · rw [List.eq_nil_iff_forall_not_mem]
      intro j hj
      obtain ⟨h1, o, h2, _⟩ := mem_ready.1 hj
      have := (hmem j).2 ⟨(Array.getElem?_eq_some_iff.1 h2).1, h1⟩
      cases this
    · cases hr
      exact hQ _ a w U hs hU h hq
  | succ n ih =>
    intro rem listed st a w U hlen hasc hmem hsz hcl h hq hU hfr s1 hr hs
    have hgt : ∀ i, i < ops.size → i ∉ rem → listed.getD i false = true := by
      intro i hi hn
      have hlt : i < listed.size := by omega
      have := mt (hmem i).2 hn
      simp only [Array.getD_eq_getD_getElem?, Array.getElem?_eq_getElem hlt, Option.getD_some] at this ⊢
      simpa [hi] using this
    refine ⟨?_, ?_⟩
    · intro hnil
      cases hrem : rem with
      | nil => rw [hrem] at hlen; cases hlen
      | cons i0 rest =>
        exfalso
        obtain ⟨k1, k2⟩ := (hmem i0).1 (by simp [hrem])
        have : i0 ∈ Region.ready .any ops listed := by
          rw [mem_ready]
          refine ⟨k2, _, Array.getElem?_eq_getElem k1, fun e he hb => ?_⟩
          have hlt := backOk_spec hB (Array.getElem?_eq_getElem k1) e he hb
          refine hgt e.on (by omega) fun hin => ?_
          rw [hrem] at hin hasc
          rcases List.mem_cons.1 hin with rfl | hin
          · omega
          · have := (List.pairwise_cons.1 hasc).1 _ hin
            omega
        rw [hnil] at this
        cases this
    · intro i hi
      obtain ⟨k1, o, k2, k3⟩ := mem_ready.1 hi
      have hin : i ∈ rem := (hmem i).2 ⟨(Array.getElem?_eq_some_iff.1 k2).1, k1⟩
      obtain ⟨pre, post, rfl⟩ := List.append_of_mem hin
      obtain ⟨v, h1, h2, h3, h4, h5⟩ := hR.get k2
      rw [List.map_append, List.map_cons] at hr
      have hpre : ∀ j ∈ pre, j < i ∧ apartOps writes (item vs b0 j).2 (item vs b0 i).2 = true := by
        intro j hj
        have hji : j < i := (List.pairwise_append.1 hasc).2.2 j hj i (by simp)
        have hjs := (hmem j).1 (by simp [hj])
        obtain ⟨vj, m1, m2, m3, m4, m5⟩ := hR.get (Array.getElem?_eq_getElem hjs.1)
        rw [mem_item m1, mem_item h1]
        refine ⟨hji, ?_⟩
        rcases drawOk_spec hD hji m1 h1 (by rw [(cOpers_get hR.code).1, Array.length_toList, Array.length_toList, (before_spec ops).1]) with hb | hap
        · have : listed.getD j false = true := before_listed hcl i o k2 k3 j (by simpa [List.getD_eq_getElem?_getD, Array.getD_eq_getD_getElem?] using hb)
          have hlt : j < listed.size := by omega
          simp only [Array.getD_eq_getD_getElem?, Array.getElem?_eq_getElem hlt, Option.getD_some] at this hjs
          rw [this] at hjs
          cases hjs.2
        · exact hap
      obtain ⟨s2, hr2, hs2⟩ := pull_front hΦ hR (Array.getElem?_eq_some_iff.1 k2).1 pre hpre (List.pairwise_append.1 hasc).1 h hq (fun j hj k hk => hfr j (by simp [hj]) k hk.1 hk.2) (fun k hk => hfr i hin k hk.1 hk.2) hr
      rw [mem_item h1] at hr2
      simp only [runL] at hr2
      split at hr2
      · rename_i u st1 hx
        obtain ⟨ρ, F, hG⟩ := h
        refine op_step hΦ hG hq (hfr i hin) k2 h2 h3 h4 hx fun a' w' hrel => ?_
        rw [← List.map_append] at hr2
        have hni : ∀ j ∈ pre ++ post, j ≠ i := by
          intro j hj he
          subst he
          rcases List.mem_append.1 hj with hj | hj
          · exact Nat.lt_irrefl _ ((List.pairwise_append.1 hasc).2.2 j hj j (by simp))
          · exact Nat.lt_irrefl _ ((List.pairwise_cons.1 (List.pairwise_append.1 hasc).2.1).1 j hj)
        have hilt : i < ops.size := (Array.getElem?_eq_some_iff.1 k2).1
        refine ih (pre ++ post) _ st1 a' w' _ ?_ ?_ ?_ ?_ ?_ hrel (q_execG hΦ.nofz _ _ _ _ _ hx hq).1 ?_ ?_ s2 hr2 (hs2.symm.trans hs)
        · simp only [List.length_append, List.length_cons] at hlen ⊢; omega
        · exact hasc.sublist (List.Sublist.append (List.Sublist.refl _) (List.sublist_cons_self _ _))
        · intro j
          by_cases hji : j = i
          · subst hji
            simp only [Array.getD_eq_getD_getElem?, Array.getElem?_setIfInBounds_self]
            constructor
            · intro hj; exact absurd rfl (hni j hj)
            · rintro ⟨_, hj⟩; simp [hsz, hilt] at hj
          · rw [getD_set_ne true (Ne.symm hji), ← hmem j]
            simp [hji]
        · simpa using hsz
        · intro j oj hj hl e he hb
          by_cases hji : j = i
          · subst hji
            rw [k2] at hj
            cases hj
            exact getD_set_true (k3 e he hb)
          · rw [getD_set_ne false (Ne.symm hji)] at hl
            exact getD_set_true (hcl j oj hj hl e he hb)
        · rintro k (hk | hk)
          · exact hU k hk
          · omega
        · rintro j hj k hk1 hk2 (hk | hk)
          · refine hfr j ?_ k hk1 hk2 hk
            rcases List.mem_append.1 hj with h | h
            · simp [h]
            · simp [h]
          · have := hni j hj
            omega
      · cases hr2

/-! ### a region -/
theorem region_ok {writes : Nat → Bool} (hΦ : Good cx.P writes Φ) (hm : cx.P.follows .mixedOrders = true) {ops : Array Oper} {vs : List VOper} (hR : RegOk cx ops vs) {draw : Bool} (hD : draw = true → backOk ops = true ∧ drawOk writes (Region.before ops).toList vs = true)
    {id : Nat} {Q : Exit → Act → World → Prop} {s' : St} {n : Nat} (hr : execs Φ n vs st = some s') (h : Rel cx U st a w) (hq : Qok st) (hU : ∀ k, U k → k < n)
    (hQ : ∀ s'' a w U, Same s'' s' → (∀ k, U k → k < n + 100 * vs.length) → Rel cx U s'' a w → Qok s'' → Q .normal a w) : (Code.region id ops draw).wp cx.P Q a w := by
  have hlen : vs.length = ops.size := by rw [(cOpers_get hR.code).1, Array.length_toList]
  rw [execs_eq, numbered_items, hlen] at hr
  rw [hlen] at hQ
  cases draw with
  | false =>
    refine wp_region ?_
    rw [List.range_eq_range'] at hr ⊢
    exact text_ok hΦ hR (fun a w U hU h hq => hQ s' a w U (.refl _) hU h hq) ops.size 0 st a w U (by omega) h hq (by simpa using hU) hr
  | true =>
    obtain ⟨hB, hD⟩ := hD rfl
    refine wp_region_any hm ?_
    obtain ⟨ρ, F, hG⟩ := h
    have hG' : G cx U (fun _ _ => False) ρ F st a { w with drawn := w.drawn + 1 } := hG.drew
    refine any_ok hΦ hR hD hB hQ ops.size (List.range ops.size) _ st a _ U (by simp) (List.pairwise_lt_range) ?_ (by simp) ?_ ⟨ρ, F, hG'⟩ hq ?_ ?_ s' hr (.refl _)
    · intro i
      simp only [List.mem_range, Array.getD_eq_getD_getElem?, Array.getElem?_replicate]
      constructor
      · intro hi; simp [hi]
      · exact fun h => h.1
    · intro j o hj hl
      have hlt : j < ops.size := (Array.getElem?_eq_some_iff.1 hj).1
      simp [Array.getD_eq_getD_getElem?, Array.getElem?_replicate, hlt] at hl
    · intro k hk
      exact Nat.lt_of_lt_of_le (hU k hk) (by omega)
    · intro i _ k hk _ hu
      exact absurd (hU k hu) (by omega)
end Go.Proofs.YtkoljcjliihiiaaDoor.VM

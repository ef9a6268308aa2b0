/- The interpreter 'VM': how single changes of a frame and of the world keep the relation between them. -/
import Derived.Test.YtkoljcjliihiiaaVmB
namespace Go.Proofs.Ytkoljcjliihiiaa.VM
open Go

/-! ### runs -/
theorem run_bind {α β : Type} (x : M α) (f : α → M β) (s : St) : (x.bind f).run s = (x.run s).bind fun r => (f r.1).run r.2 := by
  induction x generalizing s with
  | pure x => rfl
  | fail => rfl
  | getS t k ih => exact ih _ _
  | setS t v k ih => exact ih _
  | getN id k ih => exact ih _ _
  | setN id n k ih => exact ih _

theorem run_bind_some {α β : Type} {x : M α} {f : α → M β} {s : St} {r : β × St} (h : (x.bind f).run s = some r) : ∃ a s1, x.run s = some (a, s1) ∧ (f a).run s1 = some r := by
  rw [run_bind] at h
  cases hx : x.run s with
  | none => rw [hx] at h; cases h
  | some q => rw [hx] at h; exact ⟨q.1, q.2, rfl, h⟩

theorem run_pure {α : Type} {x : α} {s : St} {r : α × St} (h : (M.pure x).run s = some r) : r = (x, s) := by
  simp only [M.run, Option.some.injEq] at h; exact h.symm
theorem run_getS {t : Nat} {s : St} {r : TV × St} (h : (getS t).run s = some r) : r = (s.slot t, s) := by
  simp only [getS, M.run, Option.some.injEq] at h; exact h.symm
theorem run_getN {id : Nat} {s : St} {r : Option Node × St} (h : (getN id).run s = some r) : r = (s.node id, s) := by
  simp only [getN, M.run, Option.some.injEq] at h; exact h.symm
theorem run_setS {t : Nat} {v : TV} {s : St} {r : Unit × St} (h : (setS t v).run s = some r) : r = ((), { s with slots := (t, v) :: s.slots }) := by
  simp only [setS, M.run, Option.some.injEq] at h; exact h.symm
theorem run_setN {id : Nat} {n : Option Node} {s : St} {r : Unit × St} (h : (setN id n).run s = some r) : r = ((), { s with nodes := (id, n) :: s.nodes }) := by
  simp only [setN, M.run, Option.some.injEq] at h; exact h.symm
theorem run_liftO {α : Type} {o : Option α} {s : St} {r : α × St} (h : (liftO o).run s = some r) : o = some r.1 ∧ r.2 = s := by
  cases o with
  | none => simp [liftO, M.run] at h
  | some x => simp only [liftO, M.run, Option.some.injEq] at h; subst h; exact ⟨rfl, rfl⟩
theorem run_fail {α : Type} {s : St} {r : α × St} (h : (M.fail : M α).run s = some r) : False := by cases h

theorem slot_set (s : St) (t t' : Nat) (v : TV) : ({ s with slots := (t, v) :: s.slots } : St).slot t' = if t = t' then v else s.slot t' := by
  simp only [St.slot, look]; split <;> rfl
theorem node_set (s : St) (id id' : Nat) (n : Option Node) : ({ s with nodes := (id, n) :: s.nodes } : St).node id' = if id = id' then n else s.node id' := by
  simp only [St.node, look]; split <;> rfl
theorem node_slots (s : St) (l : List (Nat × TV)) (id : Nat) : ({ s with slots := l } : St).node id = s.node id := rfl
theorem slot_nodes (s : St) (l : List (Nat × Option Node)) (t : Nat) : ({ s with nodes := l } : St).slot t = s.slot t := rfl

/-! ### names -/
theorem idsInL_get {U : Nat → Prop} : ∀ {cs : List TV} {i : Nat} {c : TV}, idsInL U cs → cs[i]? = some c → idsIn U c
  | [], _, _, _, h => by simp at h
  | c :: cs, 0, _, hU, h => by simp at h; subst h; exact hU.1
  | c :: cs, i + 1, _, hU, h => idsInL_get (cs := cs) (i := i) hU.2 (by simpa using h)

theorem idsInL_of {U : Nat → Prop} : ∀ {cs : List TV}, (∀ c ∈ cs, idsIn U c) → idsInL U cs
  | [], _ => trivial
  | c :: cs, h => ⟨h c (by simp), idsInL_of fun x hx => h x (by simp [hx])⟩

theorem idsInL_mem {U : Nat → Prop} {cs : List TV} (h : idsInL U cs) : ∀ c ∈ cs, idsIn U c := by
  intro c hc
  obtain ⟨i, hi⟩ := List.getElem?_of_mem hc
  exact idsInL_get h hi

mutual
theorem idsIn.mono {U U' : Nat → Prop} (h : ∀ i, U i → U' i) : ∀ {c : TV}, idsIn U c → idsIn U' c
  | .a _, _ => trivial
  | .nl _, _ => trivial
  | .rf _, hc => h _ hc
  | .ri _ _ _, hc => ⟨h _ hc.1, hc.2.imp id (h _)⟩
  | .sb _ _ _, hc => h _ hc
  | .ad _ _, hc => h _ hc
  | .ea _ _ _ _, hc => h _ hc
  | .ei _ _ _ _ _ _, hc => ⟨h _ hc.1, hc.2.imp id (h _)⟩
  | .sz _ _, _ => trivial
  | .ez _ _, _ => trivial
  | .st cs, hc => idsInL.mono h (cs := cs) hc
  | .tp cs, hc => idsInL.mono h (cs := cs) hc
  | .fn _ fs cs, hc => ⟨idsInL.mono h (cs := fs) hc.1, idsInL.mono h (cs := cs) hc.2⟩
  | .ic _ c, hc => idsIn.mono h (c := c) hc
  | .un, _ => trivial
theorem idsInL.mono {U U' : Nat → Prop} (h : ∀ i, U i → U' i) : ∀ {cs : List TV}, idsInL U cs → idsInL U' cs
  | [], _ => trivial
  | c :: cs, hc => ⟨idsIn.mono h (c := c) hc.1, idsInL.mono h (cs := cs) hc.2⟩
end

theorem Node.idsIn_mono {U U' : Nat → Prop} (h : ∀ i, U i → U' i) {n : Node} (hn : n.idsIn U) : n.idsIn U' := by
  cases n with
  | bx z cs => exact idsInL.mono h hn
  | sl => exact hn.imp id (h _)

/-! ### what stands for a value stays so -/
/-- The nodes' shapes: what is left of them is as it was, but for versions that nobody knows. -/
def ShapeKept (U : Nat → Prop) (sh sh' : Shape) : Prop :=
  ∀ id, U id → ∀ ver e l, sh' id = some (ver, e, l) → ∃ ver0, sh id = some (ver0, e, l) ∧ ((ver = 0 ∨ U (ver - 1)) → ver0 = ver)

theorem ShapeKept.refl (U : Nat → Prop) (sh : Shape) : ShapeKept U sh sh := fun _ _ ver _ _ h => ⟨ver, h, fun _ => rfl⟩

theorem TR.mono {P : Program} {w w' : World} {Z : Cells} {ρ ρ' : Nat → Value} {F F' : Nat → Cells} {sh sh' : Shape} {U : Nat → Prop} {c : TV} {v : Value}
    (h : TR P w Z ρ F sh c v) (hU : idsIn U c) (hz : ∀ b o, Z b o → SameAt w w' b o) (hρ : ∀ id, U id → ρ' id = ρ id) (hsh : ShapeKept U sh sh')
    (hn : ∀ id, U id → ∀ ver e l, sh' id = some (ver, e, l) → (ver = 0 ∨ U (ver - 1)) → NavKept P w w' (F id) (F' id) (ρ id)) : TR P w' Z ρ' F' sh' c v := by
  induction h with
  | a v => exact .a v
  | nl e m hm => exact .nl e m hm
  | rf id => rw [← hρ id hU]; exact .rf id
  | ri id ver p v h1 h =>
    refine .ri id ver p v h1 fun e l hs => ?_
    obtain ⟨ver0, h0, hv⟩ := hsh id hU.1 ver e l hs
    rw [hρ id hU.1]
    rw [hv hU.2] at h0
    exact hn id hU.1 ver e l hs hU.2 p v (h e l h0)
  | sb id lo n v h1 h =>
    refine .sb id lo n v h1 fun ver e l hs => ?_
    obtain ⟨ver0, h0, _⟩ := hsh id hU ver e l hs
    rw [hρ id hU]
    exact h ver0 e l h0
  | ad id o b off h => exact .ad id o b off (by rw [hρ id hU]; exact h)
  | ea id i m o v h1 h =>
    refine .ea id i m o v h1 fun ver e l hs => ?_
    obtain ⟨ver0, h0, _⟩ := hsh id hU ver e l hs
    rw [hρ id hU]
    exact h ver0 e l h0
  | ei id ver p i m o v h1 h =>
    refine .ei id ver p i m o v h1 fun e l hs => ?_
    obtain ⟨ver0, h0, hv⟩ := hsh id hU.1 ver e l hs
    rw [hρ id hU.1]
    rw [hv hU.2] at h0
    obtain ⟨g, l', c', hnv, hval⟩ := h e l h0
    exact ⟨g, l', c', hn id hU.1 ver e l hs hU.2 p _ hnv, hval⟩
  | sz e es v h => exact .sz e es v (h.mono hz fun _ _ h => h)
  | ez cs o x hx vs hc =>
    refine .ez cs o x hx vs fun j c hj => ?_
    obtain ⟨h1, h2, h3⟩ := hc j c hj
    exact ⟨(hz _ _ h2).cell h1, h2, h3.mono hz fun _ _ h => h⟩
  | st cs us hl h ih => exact .st cs us hl fun i c u hi hu => ih i c u hi hu (idsInL_get hU hi)
  | tp cs us hl h ih => exact .tp cs us hl fun i c u hi hu => ih i c u hi hu (idsInL_get hU hi)
  | fn f fs cs xs us hx hl hf h ihf ih => exact .fn f fs cs xs us hx hl (fun i c u hi hu => ihf i c u hi hu (idsInL_get hU.1 hi)) fun i c u hi hu => ih i c u hi hu (idsInL_get hU.2 hi)
  | ic t c u h ih => exact .ic t c u (ih hU)
  | un v => exact .un v

theorem NR.mono {P : Program} {w w' : World} {Z : Cells} {ρ ρ' : Nat → Value} {F F' : Nat → Cells} {sh sh' : Shape} {U : Nat → Prop} {id : Nat} {n : Node}
    (h : NR P w Z ρ F sh id n) (hU : U id) (hUn : n.idsIn U) (hz : ∀ b o, Z b o → SameAt w w' b o) (hρ : ∀ id, U id → ρ' id = ρ id) (hsh : ShapeKept U sh sh')
    (hn : ∀ id, U id → ∀ ver e l, sh' id = some (ver, e, l) → (ver = 0 ∨ U (ver - 1)) → NavKept P w w' (F id) (F' id) (ρ id))
    (hF : ∀ b o, F' id b o ↔ F id b o) (hs : ∀ b o, F id b o → SameAt w w' b o) : NR P w' Z ρ' F' sh' id n := by
  cases h with
  | bx z cs b off cur t hr hb hsz hne hc hFi hzz =>
    have hsame : ∀ i, i < cs.length → SameAt w w' b (off + i) := by
      intro i hi
      cases z with
      | false => exact hs b _ ((hFi b _).2 ⟨rfl, rfl, by omega, by omega⟩)
      | true => exact hz b _ (hzz rfl i hi)
    have h0 : 0 < cs.length := List.length_pos_iff.2 hne
    obtain ⟨cur', h1, h2, _⟩ := hsame 0 h0 cur t (0, 0) hb
    have hcell : ∀ i, i < cs.length → cur'[off + i]? = cur[off + i]? := by
      intro i hi
      obtain ⟨c2, k1, _, k3⟩ := hsame i hi cur t (0, 0) hb
      rw [h1] at k1
      injection k1 with k1
      injection k1 with k1 _ _
      rw [k1]; exact k3
    refine .bx z cs b off cur' t ((hρ id hU).trans hr) h1 (by omega) hne ?_ (fun b' o' => (hF b' o').trans (hFi b' o')) hzz
    intro i c hi u hu
    rw [hcell i (List.getElem?_eq_some_iff.1 hi).1] at hu
    exact (hc i c hi u hu).mono (idsInL_get hUn hi) hz hρ hsh hn
  | sl q ver e es h =>
    refine .sl q ver e es ?_
    rw [hρ id hU]
    exact (h.mono hs hz fun _ _ h => h).congr hF

/-! ### the frame -/
theorem Cx.val_put (cx : Cx) (a : Act) (d : Nat) (v : Value) (t : Nat) (hd : d < a.tmps.size) (hs : a.tmps.size ≤ 10000) :
    cx.val (a.put (some d) v).tmps t = if d = t then v else cx.val a.tmps t := by
  unfold Cx.val Act.put
  by_cases h : t < 10000
  · simp only [h, if_true]
    by_cases e : d = t
    · subst e; simp [Array.getD_eq_getD_getElem?, hd]
    · simp [Array.getD_eq_getD_getElem?, e]
  · simp only [h, if_false]
    rw [if_neg (by omega)]

variable {cx : Cx} {U : Nat → Prop} {X : Cells} {ρ : Nat → Value} {F : Nat → Cells} {st : St} {a : Act} {w : World}

/-- A slot is written. -/
theorem G.put (h : G cx U X ρ F st a w) {d : Nat} {c : TV} {v : Value} (hd : d < cx.n) (hc : TR cx.P w cx.Z ρ F (shapeOf st) c v) (hi : idsIn U c) :
    G cx U X ρ F { st with slots := (d, c) :: st.slots } (a.put (some d) v) w := by
  refine ⟨?_, ?_, h.nodes, h.used, h.apart, h.apartX, h.mine, h.mineX, h.one, h.kept, h.zold, ?_, h.small, h.defers⟩
  · intro t
    rw [slot_set, Cx.val_put cx a d v t (by rw [h.size]; exact hd) (by rw [h.size]; exact h.small)]
    split
    · exact hc
    · exact h.slots t
  · intro t
    rw [slot_set]
    split
    · exact hi
    · exact h.ids t
  · simp [Act.put, h.size]

theorem zsame (cx : Cx) {w w' : World} {M : Cells} (hk : Kept w w' M) (hM : ∀ b o, M b o → ¬ cx.Z b o) : ∀ b o, cx.Z b o → SameAt w w' b o :=
  fun b o hz => hk.same fun hm => hM b o hm hz

/-- The world changes, but nothing that the frame holds does. -/
theorem G.world (h : G cx U X ρ F st a w) {w' : World} {M : Cells} (hk : Kept w w' M) (hz : ∀ b o, M b o → ¬ cx.Z b o) (hm : ∀ b o, M b o → b < cx.w0.heap.size → cx.M0 b o)
    (ha : ∀ i, (st.node i).isSome = true → Apart (F i) M) : G cx U X ρ F st a w' := by
  have hzs := zsame cx hk hz
  have hkey : ∀ id, U id → ∀ ver e l, shapeOf st id = some (ver, e, l) → (ver = 0 ∨ U (ver - 1)) → NavKept cx.P w w' (F id) (F id) (ρ id) := by
    intro id _ ver e l hs _
    refine .of hk.ty fun b o hf => ?_
    refine ⟨hf, fun y hy _ => (hk.same (ha id ?_ b o hf)).cell hy⟩
    unfold shapeOf at hs
    cases hn : st.node id with
    | none => rw [hn] at hs; cases hs
    | some n => rfl
  refine ⟨fun t => (h.slots t).mono (h.ids t) hzs (fun _ _ => rfl) (.refl _ _) hkey, h.ids, fun id n hn => ?_, h.used, h.apart, h.apartX, h.mine, ?_, h.one, h.kept.trans hk hm, h.zold, h.size, h.small, h.defers⟩
  · exact (h.nodes id n hn).mono (h.used id n hn).1 (h.used id n hn).2 hzs (fun _ _ => rfl) (.refl _ _) hkey (fun _ _ => Iff.rfl)
      fun b o hf => hk.same (ha id (by rw [hn]; rfl) b o hf)
  · intro b o hx
    obtain ⟨h1, h2, h3⟩ := h.mineX b o hx
    exact ⟨h1, h2, Nat.lt_of_lt_of_le h3 hk.size⟩

def upd {α : Type} (f : Nat → α) (i : Nat) (x : α) (j : Nat) : α := if j = i then x else f j
theorem upd_same {α : Type} (f : Nat → α) (i : Nat) (x : α) : upd f i x i = x := by simp [upd]
theorem upd_ne {α : Type} (f : Nat → α) {i j : Nat} (x : α) (h : j ≠ i) : upd f i x j = f j := by simp [upd, h]

def St.setNode (st : St) (id : Nat) (n : Option Node) : St := { st with nodes := (id, n) :: st.nodes }
theorem St.setNode_node (st : St) (id j : Nat) (n : Option Node) : (st.setNode id n).node j = if id = j then n else st.node j := node_set st id j n
theorem St.setNode_slot (st : St) (id t : Nat) (n : Option Node) : (st.setNode id n).slot t = st.slot t := rfl

theorem shape_set_ne (st : St) {id j : Nat} (n : Option Node) (h : j ≠ id) : shapeOf (st.setNode id n) j = shapeOf st j := by
  unfold shapeOf; rw [St.setNode_node, if_neg (fun e => h e.symm)]

theorem isSome_of_shape {st : St} {id : Nat} (h : shapeOf st id ≠ none) : (st.node id).isSome = true := by
  unfold shapeOf at h
  cases hn : st.node id with
  | none => rw [hn] at h; exact absurd rfl h
  | some n => rfl

/-- One node is made, changed or taken away, and the world changes with it. -/
theorem G.update (h : G cx U X ρ F st a w) {U' : Nat → Prop} {id : Nat} {o : Option Node} {v' : Value} {Fn X' M : Cells} {w' : World}
    (hU' : ∀ i, U i → U' i) (hk : Kept w w' M) (hMz : ∀ b o, M b o → ¬ cx.Z b o) (hMm : ∀ b o, M b o → b < cx.w0.heap.size → cx.M0 b o)
    (hMa : ∀ i, i ≠ id → (st.node i).isSome = true → Apart (F i) M) (hv : U id → v' = ρ id) (hv1 : one1 v' = true)
    (hsh : ShapeKept U (shapeOf st) (shapeOf (st.setNode id o)))
    (hnav : U id → ∀ ver e l, shapeOf (st.setNode id o) id = some (ver, e, l) → (ver = 0 ∨ U (ver - 1)) → ∀ b o, F id b o → Fn b o ∧ ∀ y, w.cell? ⟨b, o, none⟩ = some y → isSliceV y = true → w'.cell? ⟨b, o, none⟩ = some y)
    (hn : ∀ n, o = some n → NR cx.P w' cx.Z (upd ρ id v') (upd F id Fn) (shapeOf (st.setNode id o)) id n ∧ U' id ∧ n.idsIn U')
    (hf : o ≠ none → (∀ b o, Fn b o → ¬ cx.Z b o ∧ (cx.M0 b o ∨ cx.w0.heap.size ≤ b)) ∧ (∀ i, i ≠ id → (st.node i).isSome = true → Apart (F i) Fn) ∧ Apart Fn X')
    (hX : ∀ b o, X' b o → ¬ cx.Z b o ∧ (cx.M0 b o ∨ cx.w0.heap.size ≤ b) ∧ b < w'.heap.size) (hXa : ∀ i, i ≠ id → (st.node i).isSome = true → Apart (F i) X') :
    G cx U' X' (upd ρ id v') (upd F id Fn) (st.setNode id o) a w' := by
  have hzs := zsame cx hk hMz
  have hρ : ∀ j, U j → upd ρ id v' j = ρ j := by
    intro j hj
    by_cases e : j = id
    · subst e; rw [upd_same]; exact hv hj
    · exact upd_ne _ _ e
  have hkey : ∀ j, U j → ∀ ver e l, shapeOf (st.setNode id o) j = some (ver, e, l) → (ver = 0 ∨ U (ver - 1)) → NavKept cx.P w w' (F j) (upd F id Fn j) (ρ j) := by
    intro j hj ver el l hs hver
    refine .of hk.ty fun b q hfj => ?_
    by_cases e : j = id
    · subst e; rw [upd_same]; exact hnav hj ver el l hs hver b q hfj
    · rw [upd_ne _ _ e]
      rw [shape_set_ne st o e] at hs
      exact ⟨hfj, fun y hy _ => (hk.same (hMa j e (isSome_of_shape (by rw [hs]; simp)) b q hfj)).cell hy⟩
  have hsome : ∀ j, j ≠ id → ((st.setNode id o).node j).isSome = true → (st.node j).isSome = true := by
    intro j e hj; rwa [St.setNode_node, if_neg (fun x => e x.symm)] at hj
  have hid : ((st.setNode id o).node id).isSome = true → o ≠ none := by
    intro hj e; rw [St.setNode_node, if_pos rfl, e] at hj; cases hj
  refine ⟨fun t => (h.slots t).mono (h.ids t) hzs hρ hsh hkey, fun t => (h.ids t).mono hU', ?_, ?_, ?_, ?_, ?_, hX, ?_, h.kept.trans hk hMm, h.zold, h.size, h.small, h.defers⟩
  · intro j n hj
    rw [St.setNode_node] at hj
    by_cases e : id = j
    · subst e; rw [if_pos rfl] at hj; exact (hn n hj).1
    · rw [if_neg e] at hj
      have hUj := (h.used j n hj).1
      exact (h.nodes j n hj).mono hUj (h.used j n hj).2 hzs hρ hsh hkey (fun b o => by rw [upd_ne _ _ (fun x => e x.symm)])
        fun b o hf => hk.same (hMa j (fun x => e x.symm) (by rw [hj]; rfl) b o hf)
  · intro j n hj
    rw [St.setNode_node] at hj
    by_cases e : id = j
    · subst e; rw [if_pos rfl] at hj; exact (hn n hj).2
    · rw [if_neg e] at hj
      exact ⟨hU' j (h.used j n hj).1, Node.idsIn_mono hU' (h.used j n hj).2⟩
  · intro i j hij hi hj
    by_cases ei : i = id
    · subst ei
      rw [upd_same, upd_ne _ _ (fun x => hij x.symm)]
      exact ((hf (hid hi)).2.1 j (fun x => hij x.symm) (hsome j (fun x => hij x.symm) hj)).symm
    · by_cases ej : j = id
      · subst ej
        rw [upd_same, upd_ne _ _ ei]
        exact (hf (hid hj)).2.1 i ei (hsome i ei hi)
      · rw [upd_ne _ _ ei, upd_ne _ _ ej]
        exact h.apart i j hij (hsome i ei hi) (hsome j ej hj)
  · intro i hi
    by_cases ei : i = id
    · subst ei; rw [upd_same]; exact (hf (hid hi)).2.2
    · rw [upd_ne _ _ ei]; exact hXa i ei (hsome i ei hi)
  · intro i hi b o hb
    by_cases ei : i = id
    · subst ei; rw [upd_same] at hb; exact (hf (hid hi)).1 b o hb
    · rw [upd_ne _ _ ei] at hb; exact h.mine i (hsome i ei hi) b o hb
  · intro i
    by_cases ei : i = id
    · subst ei; rw [upd_same]; exact hv1
    · rw [upd_ne _ _ ei]; exact h.one i

theorem upd_self {α : Type} (f : Nat → α) (i : Nat) : upd f i (f i) = f := by
  funext j; unfold upd; split
  · next h => rw [h]
  · rfl

/-- A node is taken out of the frame; its memory is held beside. -/
theorem G.drop (h : G cx U X ρ F st a w) {id : Nat} {n : Node} (hn : st.node id = some n) (hin : ∀ b o, F id b o → b < w.heap.size) :
    G cx U (fun b o => X b o ∨ F id b o) ρ F (st.setNode id none) a w := by
  have hs : (st.node id).isSome = true := by rw [hn]; rfl
  have := h.update (U' := U) (id := id) (o := none) (v' := ρ id) (Fn := F id) (X' := fun b o => X b o ∨ F id b o) (M := fun _ _ => False) (w' := w)
    (fun _ h => h) (Kept.refl _ _) (fun _ _ h => h.elim) (fun _ _ h => h.elim) (fun _ _ _ _ _ _ h => h) (fun _ => rfl) (h.one id)
    (by
      intro j _ ver e l hj
      by_cases ej : j = id
      · subst ej; unfold shapeOf at hj; rw [St.setNode_node, if_pos rfl] at hj; cases hj
      · rw [shape_set_ne st none ej] at hj; exact ⟨ver, hj, fun _ => rfl⟩)
    (fun _ ver e l hs => by unfold shapeOf at hs; rw [St.setNode_node, if_pos rfl] at hs; cases hs) (fun n hn => by cases hn) (fun hne => absurd rfl hne)
    (by
      intro b o hx
      rcases hx with hx | hx
      · exact h.mineX b o hx
      · exact ⟨(h.mine id hs b o hx).1, (h.mine id hs b o hx).2, hin b o hx⟩)
    (by
      intro i hi his b o hf hx
      rcases hx with hx | hx
      · exact h.apartX i his b o hf hx
      · exact h.apart i id hi his hs b o hf hx)
  rw [upd_self, upd_self] at this
  exact this

/-- Less is held beside. -/
theorem G.less (h : G cx U X ρ F st a w) {X' : Cells} (hx : ∀ b o, X' b o → X b o) : G cx U X' ρ F st a w :=
  ⟨h.slots, h.ids, h.nodes, h.used, h.apart, fun i hi b o hf hb => h.apartX i hi b o hf (hx b o hb), h.mine, fun b o hb => h.mineX b o (hx b o hb), h.one, h.kept, h.zold, h.size, h.small, h.defers⟩

theorem G.more (h : G cx U X ρ F st a w) {U' : Nat → Prop} (hu : ∀ i, U i → U' i) : G cx U' X ρ F st a w :=
  ⟨h.slots, fun t => (h.ids t).mono hu, h.nodes, fun i n hn => ⟨hu i (h.used i n hn).1, Node.idsIn_mono hu (h.used i n hn).2⟩, h.apart, h.apartX, h.mine, h.mineX, h.one, h.kept, h.zold, h.size, h.small, h.defers⟩

theorem shapeKept_new (st : St) {b : Nat} (hb : ¬ U b) (n : Node) : ShapeKept U (shapeOf st) (shapeOf (st.setNode b (some n))) := by
  intro j hj ver e l hs
  rw [shape_set_ne st _ (by rintro rfl; exact hb hj)] at hs
  exact ⟨ver, hs, fun _ => rfl⟩

/-- What stood for a value before a node was made stands for it behind. -/
theorem G.tr_new (_h : G cx U X ρ F st a w) {b : Nat} (hb : ¬ U b) (n : Node) (v : Value) (Fn : Cells) {c : TV} {u : Value} (hc : TR cx.P w cx.Z ρ F (shapeOf st) c u) (hi : idsIn U c) :
    TR cx.P w cx.Z (upd ρ b v) (upd F b Fn) (shapeOf (st.setNode b (some n))) c u :=
  hc.mono hi (fun _ _ _ cur _ _ h => ⟨cur, h, rfl, rfl⟩) (fun _ hj => upd_ne _ _ (by rintro rfl; exact hb hj)) (shapeKept_new st hb n)
    (fun _ hj _ _ _ _ _ => .of (.refl _) fun _ _ hf => ⟨by rw [upd_ne _ _ (by rintro rfl; exact hb hj)]; exact hf, fun _ hy _ => hy⟩)

/-- A node is made of memory that was held beside. -/
theorem G.add (h : G cx U X ρ F st a w) {b : Nat} (hb : ¬ U b) {n : Node} {v : Value} {Fn X' : Cells} (hv : one1 v = true) (hFn : ∀ b o, Fn b o → X b o) (hX' : ∀ b o, X' b o → X b o) (hap : Apart Fn X')
    (hn : NR cx.P w cx.Z (upd ρ b v) (upd F b Fn) (shapeOf (st.setNode b (some n))) b n) (hi : n.idsIn fun i => U i ∨ i = b) :
    G cx (fun i => U i ∨ i = b) X' (upd ρ b v) (upd F b Fn) (st.setNode b (some n)) a w :=
  h.update (M := fun _ _ => False) (fun _ h => .inl h) (Kept.refl _ _) (fun _ _ h => h.elim) (fun _ _ h => h.elim) (fun _ _ _ _ _ _ h => h) (fun hu => absurd hu hb) hv (shapeKept_new st hb n)
    (fun hu => absurd hu hb) (fun n' hn' => by cases hn'; exact ⟨hn, .inr rfl, hi⟩)
    (fun _ => ⟨fun b o hf => ⟨(h.mineX b o (hFn b o hf)).1, (h.mineX b o (hFn b o hf)).2.1⟩, fun i _ his b o hf hfn => h.apartX i his b o hf (hFn b o hfn), hap⟩)
    (fun b o hx => h.mineX b o (hX' b o hx)) (fun i _ his b o hf hx => h.apartX i his b o hf (hX' b o hx))

/-- New memory is held beside. -/
theorem G.alloc (h : G cx U X ρ F st a w) (x : Obj) : G cx U (fun b o => X b o ∨ b = w.heap.size) ρ F st a (w.alloc x) := by
  have hw := h.world (Kept.alloc w x fun _ _ => False) (fun _ _ h => h.elim) (fun _ _ h => h.elim) (fun _ _ _ _ _ h => h)
  have hold : ∀ i, (st.node i).isSome = true → ∀ b o, F i b o → b < w.heap.size := by
    intro i hi b o hf
    cases hn : st.node i with
    | none => rw [hn] at hi; cases hi
    | some n =>
      have hN := h.nodes i n hn
      cases hN with
      | bx z cs b' off cur t hr hb hsz hne hc hFi hzz => obtain ⟨_, rfl, _⟩ := (hFi b o).1 hf; exact (Array.getElem?_eq_some_iff.1 hb).1
      | sl q ver e es hd => exact hd.inside b o hf
  refine ⟨hw.slots, hw.ids, hw.nodes, hw.used, hw.apart, ?_, hw.mine, ?_, hw.one, hw.kept, hw.zold, hw.size, hw.small, hw.defers⟩
  · intro i hi b o hf hx
    rcases hx with hx | rfl
    · exact h.apartX i hi b o hf hx
    · exact absurd (hold i hi _ o hf) (Nat.lt_irrefl _)
  · intro b o hx
    rcases hx with hx | rfl
    · exact hw.mineX b o hx
    · refine ⟨fun hz => ?_, .inr h.kept.size, by simp⟩
      have := (h.zold _ _ hz).1
      have := h.kept.size
      omega

theorem G.inside (h : G cx U X ρ F st a w) {i : Nat} (hi : (st.node i).isSome = true) : ∀ b o, F i b o → b < w.heap.size := by
  intro b o hf
  cases hn : st.node i with
  | none => rw [hn] at hi; cases hi
  | some n =>
    have hN := h.nodes i n hn
    cases hN with
    | bx z cs b' off cur t hr hb hsz hne hc hFi hzz => obtain ⟨_, rfl, _⟩ := (hFi b o).1 hf; exact (Array.getElem?_eq_some_iff.1 hb).1
    | sl q ver e es hd => exact hd.inside b o hf

theorem G.drew (h : G cx U X ρ F st a w) : G cx U X ρ F st a w.drew :=
  h.world (Kept.drew w fun _ _ => False) (fun _ _ h => h.elim) (fun _ _ h => h.elim) (fun _ _ _ _ _ h => h)

end Go.Proofs.Ytkoljcjliihiiaa.VM

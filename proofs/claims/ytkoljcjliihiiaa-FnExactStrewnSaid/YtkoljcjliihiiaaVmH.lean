/- The interpreter 'VM': stores: what is written in a frame is written in the world. -/
import Derived.Test.YtkoljcjliihiiaaVmF
namespace Go.Proofs.Ytkoljcjliihiiaa.VM
open Go

variable {cx : Cx} {U : Nat → Prop} {X : Cells} {ρ : Nat → Value} {F : Nat → Cells} {st : St} {a : Act} {w : World}

theorem Kept.setRow {w : World} {g : Nat} {cur cur' : Array Value} {t : TypeId} (hg : w.heap[g]? = some (.cells cur t (0, 0))) (hs : cur'.size = cur.size) {M : Cells} (hM : ∀ k, ¬ M g k → cur'[k]? = cur[k]?) :
    Kept w (w.setRow g cur') M := by
  refine ⟨rfl, rfl, rfl, by simp, ?_, ?_⟩
  · intro b c e fr hb
    by_cases e0 : b = g
    · subst e0
      rw [hg] at hb
      cases hb
      exact ⟨cur', setRow_heap w b _ cur' _ _ hg, hs, hM⟩
    · exact ⟨c, (setRow_other w g b cur' e0).trans hb, rfl, fun _ _ => rfl⟩
  · intro b x hb hx
    by_cases e0 : b = g
    · subst e0
      rw [hg] at hb
      cases hb
      exact absurd rfl (hx _ _ _)
    · exact (setRow_other w g b cur' e0).trans hb

theorem TR.one {P : Program} {Z : Cells} {sh : Shape} {c : TV} {v : Value} (h : TR P w Z ρ F sh c v) (hone : ∀ i, one1 (ρ i) = true) (hc : c.one = true) : one1 v = true := by
  cases h with
  | a v => exact hc
  | rf id => exact hone id
  | ri _ _ _ _ h1 => exact h1
  | sb _ _ _ _ h1 => exact h1
  | ea _ _ _ _ _ h1 => exact h1
  | ei _ _ _ _ _ _ _ h1 => exact h1
  | sz _ _ _ h => exact h.one
  | st => cases hc
  | tp => cases hc
  | un => cases hc
  | _ => rfl

theorem TRL.all_one {P : Program} {Z : Cells} {sh : Shape} {cs : List TV} {vs : List Value} (h : TRL P w Z ρ F sh cs vs) (hone : ∀ i, one1 (ρ i) = true) (hc : cs.all TV.one = true) : ∀ v ∈ vs, v.oneCell' = true := by
  induction h with
  | nil => intro v hv; cases hv
  | cons h hs ih =>
    simp only [List.all_cons, Bool.and_eq_true] at hc
    intro v hv
    cases hv with
    | head => rw [← one1_eq]; exact h.one hone hc.1
    | tail _ hv => exact ih hc.2 v hv

/-- A store of cells into a block of the frame's own. -/
theorem store_run {P : Program} {t n : Nat} (hn : sizeT P t = some n) {g o : Nat} {cur : Array Value} {e : TypeId} (hg : w.heap[g]? = some (.cells cur e (0, 0))) {v : Value} (hl : v.cells.size = n) (hfit : o + n ≤ cur.size)
    (h1 : ∀ u ∈ v.cells.toList, u.oneCell' = true) :
    (Instr.storeAt t (.pointer (some ⟨g, o, none⟩)) v).run P w = .ok () (w.setRow g (cur.toList.take o ++ v.cells.toList ++ cur.toList.drop (o + v.cells.toList.length)).toArray) := by
  have := run_storeCells_at P g o e v.cells.toList 0 cur w hg (by simp only [Array.length_toList]; omega) h1
  simp only [Nat.add_zero] at this
  simp only [Instr.storeAt, Instr.sureAddr, storeVar, Sem.run_bind, Sem.run_pure, Result.andThen_ok, sizeOf_run hn w, Sem.run_ite]
  rw [if_neg (by omega)]
  exact this

theorem seg_kept {g o : Nat} {cur : Array Value} {e : TypeId} (hg : w.heap[g]? = some (.cells cur e (0, 0))) {vs : List Value} (hfit : o + vs.length ≤ cur.size) :
    Kept w (w.setRow g (cur.toList.take o ++ vs ++ cur.toList.drop (o + vs.length)).toArray) (fun b k => b = g ∧ o ≤ k ∧ k < o + vs.length) := by
  refine Kept.setRow hg (by simp; omega) fun k hk => ?_
  have := seg_get cur.toList vs o k (by simpa using hfit)
  rw [if_neg (fun h => hk ⟨rfl, h.1, h.2⟩)] at this
  simpa using this

theorem shape_box {st : St} {id : Nat} {z z' : Bool} {cs cs' : List TV} (hn : st.node id = some (.bx z cs)) : shapeOf (st.setNode id (some (.bx z' cs'))) = shapeOf st := by
  funext j
  by_cases e : j = id
  · subst e; unfold shapeOf; rw [St.setNode_node, if_pos rfl, hn]
  · exact shape_set_ne st _ e

/-- Cells of a box are written. -/
theorem G.setBox (h : G cx U X ρ F st a w) {id : Nat} {cs ys : List TV} (hn : st.node id = some (.bx false cs)) {o : Nat} {vs : List Value} (hy : TRL cx.P w cx.Z ρ F (shapeOf st) ys vs) (hi : idsInL U ys) (hfit : o + ys.length ≤ cs.length) :
    ∃ b off cur t, ρ id = .pointer (some ⟨b, off, none⟩) ∧ w.heap[b]? = some (.cells cur t (0, 0)) ∧ off + o + vs.length ≤ cur.size ∧
      G cx U X ρ F (st.setNode id (some (.bx false (cs.take o ++ ys ++ cs.drop (o + ys.length))))) a (w.setRow b (cur.toList.take (off + o) ++ vs ++ cur.toList.drop (off + o + vs.length)).toArray) := by
  have hs : (st.node id).isSome = true := by rw [hn]; rfl
  obtain ⟨b, off, cur, t, hr, hb, hsz, htr, hii, hF, _⟩ := bx_row h hn
  have hvl := hy.length
  have hfit' : off + o + vs.length ≤ cur.size := by omega
  refine ⟨b, off, cur, t, hr, hb, hfit', ?_⟩
  have hk := seg_kept (o := off + o) (vs := vs) hb hfit'
  have hMF : ∀ b' k, (b' = b ∧ off + o ≤ k ∧ k < off + o + vs.length) → F id b' k := fun b' k hk => (hF b' k).2 ⟨rfl, hk.1, by omega, by omega⟩
  have hzs := zsame cx hk fun b' k hm => (h.mine id hs b' k (hMF b' k hm)).1
  have hapart : ∀ j, j ≠ id → (st.node j).isSome = true → Apart (F j) (fun b' k => b' = b ∧ off + o ≤ k ∧ k < off + o + vs.length) :=
    fun j hj hjs b' k hf hm => h.apart j id hj hjs hs b' k hf (hMF b' k hm)
  have htrs : ∀ {c : TV} {v : Value}, TR cx.P w cx.Z ρ F (shapeOf st) c v → idsIn U c → TR cx.P (w.setRow b (cur.toList.take (off + o) ++ vs ++ cur.toList.drop (off + o + vs.length)).toArray) cx.Z ρ F (shapeOf st) c v := by
    intro c v hc hu
    refine hc.mono hu hzs (fun _ _ => rfl) (.refl _ _) fun j _ ver e l hsh _ => .of hk.ty fun b' k hf => ⟨hf, fun y hy _ => ?_⟩
    have hj : j ≠ id := by
      rintro rfl
      unfold shapeOf at hsh; rw [hn] at hsh; cases hsh
    exact (hk.same (hapart j hj (isSome_of_shape (by rw [hsh]; simp)) b' k hf)).cell hy
  have := h.update (U' := U) (id := id) (o := some (.bx false (cs.take o ++ ys ++ cs.drop (o + ys.length)))) (v' := ρ id) (Fn := F id) (X' := X)
    (fun _ h => h) hk (fun b' k hm => (h.mine id hs b' k (hMF b' k hm)).1) (fun b' k hm hlt => ((h.mine id hs b' k (hMF b' k hm)).2).resolve_right (by omega)) hapart (fun _ => rfl) (h.one id)
    (by rw [shape_box hn]; exact .refl _ _) (fun _ ver e l hsh => by rw [shape_box hn] at hsh; unfold shapeOf at hsh; rw [hn] at hsh; cases hsh)
    (by
      intro n hnn
      cases hnn
      refine ⟨?_, (h.used id _ hn).1, idsInL_seg hii hi _ _⟩
      rw [upd_self, upd_self, shape_box hn]
      have hlen : (cs.take o ++ ys ++ cs.drop (o + ys.length)).length = cs.length := by simp; omega
      refine .bx false _ b off _ t hr (setRow_heap w b _ _ _ _ hb) (by rw [hlen]; simp; omega) ?_ ?_ (fun b' k => by rw [hlen]; exact hF b' k) (by simp)
      · intro e; rw [e] at hlen; have := hsz; simp at hlen
        have hNR := h.nodes id _ hn
        cases hNR with
        | bx _ _ _ _ _ _ _ _ _ hne => exact hne (List.eq_nil_of_length_eq_zero hlen.symm)
      · intro i c hc u hu
        rw [seg_get _ _ _ _ hfit] at hc
        have hu' : (cur.toList.take (off + o) ++ vs ++ cur.toList.drop (off + o + vs.length))[off + i]? = some u := by simpa using hu
        rw [seg_get _ _ _ _ (by simpa using hfit')] at hu'
        split at hc
        · rename_i hin
          rw [if_pos (by omega)] at hu'
          have e : off + i - (off + o) = i - o := by omega
          rw [e] at hu'
          exact htrs (hy.get _ c u hc hu') (idsInL_get hi hc)
        · rename_i hin
          rw [if_neg (by omega)] at hu'
          refine htrs (htr.get i c u hc ?_) (idsInL_get hii hc)
          have hlt := (List.getElem?_eq_some_iff.1 hc).1
          rw [List.getElem?_take, if_pos hlt, List.getElem?_drop]
          exact hu')
    (fun _ => ⟨h.mine id hs, fun j hj hjs => h.apart j id hj hjs hs, h.apartX id hs⟩)
    (fun b' k hx => by
      obtain ⟨h1, h2, h3⟩ := h.mineX b' k hx
      exact ⟨h1, h2, Nat.lt_of_lt_of_le h3 hk.size⟩)
    (fun j _ hjs => h.apartX j hjs)
  rw [upd_self, upd_self] at this
  exact this

theorem cells_row {P : Program} {Z : Cells} {sh : Shape} {c : TV} {v : Value} (h : TR P w Z ρ F sh c v) (hone : ∀ i, one1 (ρ i) = true) (hc : c.cells.all TV.one = true) : TRL P w Z ρ F sh c.cells v.cells.toList := by
  cases hr : c.row with
  | some cs =>
    obtain ⟨h1, h2⟩ := h.row hone hr
    rw [h2]; exact h1
  | none =>
    cases c with
    | a u =>
      simp only [TV.cells, List.all_cons, TV.one, List.all_nil, Bool.and_true] at hc
      simp [TV.row, hc] at hr
    | tp cs => simp [TV.cells, TV.one] at hc
    | un => simp [TV.cells, TV.one] at hc
    | _ => cases hr

theorem storeBox_ok (h : G cx U X ρ F st a w) {n t : Nat} (hn : sizeT cx.P t = some n) {id o : Nat} {c : TV} {v p : Value} (hc : TR cx.P w cx.Z ρ F (shapeOf st) c v) (hi : idsIn U c)
    (hp : ∀ b off, ρ id = .pointer (some ⟨b, off, none⟩) → p = .pointer (some ⟨b, off + o, none⟩)) {s1 : St} (hr : (storeBox n id o c).run st = some ((), s1)) :
    ∃ w', (Instr.storeAt t p v).run cx.P w = .ok () w' ∧ G cx U X ρ F s1 a w' := by
  obtain ⟨nd, s2, h1, h2⟩ := run_bind_some hr
  cases run_getN h1
  split at h2
  · rename_i cs hnd
    split at h2
    · rename_i hcond
      obtain ⟨hlen, hfit, hall⟩ := hcond
      cases run_setN h2
      have htr := cells_row hc h.one hall
      obtain ⟨b, off, cur, t', hr0, hb, hsz, hG⟩ := h.setBox hnd htr (idsIn_cells hi) (o := o) (by omega)
      have hvl : v.cells.size = n := by rw [← Array.length_toList, htr.length, hlen]
      rw [hp b off hr0]
      refine ⟨_, store_run hn hb hvl (by simp only [Array.length_toList] at hsz; omega) (htr.all_one h.one hall), ?_⟩
      rw [hlen] at hG
      exact hG
    · exact (run_fail h2).elim
  · exact (run_fail h2).elim

/-! ### what is stored in a slice -/
def Or (X : Cells) (n : Nat) (Gk : Nat → Cells) : Cells := fun b o => X b o ∨ ∃ j, j < n ∧ Gk j b o

theorem shapeKept_drop (st : St) (id : Nat) : ShapeKept U (shapeOf st) (shapeOf (st.setNode id none)) := by
  intro j _ ver e l hj
  by_cases ej : j = id
  · subst ej; unfold shapeOf at hj; rw [St.setNode_node, if_pos rfl] at hj; cases hj
  · rw [shape_set_ne st none ej] at hj; exact ⟨ver, hj, fun _ => rfl⟩

theorem ShapeKept.trans {s1 s2 s3 : Shape} (h : ShapeKept U s1 s2) (h' : ShapeKept U s2 s3) : ShapeKept U s1 s3 := by
  intro id hu ver e l hs
  obtain ⟨v2, h2, k2⟩ := h' id hu ver e l hs
  obtain ⟨v1, h1, k1⟩ := h id hu v2 e l h2
  exact ⟨v1, h1, fun hv => by have := k2 hv; subst this; exact k1 hv⟩

theorem TR.shape {P : Program} {Z : Cells} {sh sh' : Shape} {c : TV} {v : Value} (h : TR P w Z ρ F sh c v) (hi : idsIn U c) (hs : ShapeKept U sh sh') : TR P w Z ρ F sh' c v :=
  h.mono hi (fun _ _ _ cur _ _ h => ⟨cur, h, rfl, rfl⟩) (fun _ _ => rfl) hs fun _ _ _ _ _ _ _ _ _ h => h

theorem toPV_ok (h : G cx U X ρ F st a w) {c : TV} {v : Value} (hc : TR cx.P w cx.Z ρ F (shapeOf st) c v) {r : PV × Bool} {s1 : St} (hr : (toPV c).run st = some (r, s1)) :
    ∃ Fp, DC cx.P w cx.Z r.1 v Fp ∧ r.1.cells = [r.1] ∧ G cx U (fun b o => X b o ∨ Fp b o) ρ F s1 a w ∧ Apart Fp X ∧ ShapeKept U (shapeOf st) (shapeOf s1) := by
  have noX : G cx U (fun b o => X b o ∨ (fun _ _ => False : Cells) b o) ρ F st a w := h.less fun b o hx => hx.resolve_right id
  cases c with
  | a u =>
    simp only [toPV] at hr
    split at hr
    · rename_i h1
      cases run_pure hr
      cases hc
      exact ⟨fun _ _ => False, .a _ _ h1 (fun _ _ h => h), rfl, noX, fun _ _ h => h.elim, .refl _ _⟩
    · exact (run_fail hr).elim
  | nl e =>
    cases run_pure hr
    cases hc with
    | nl _ m hm => exact ⟨fun _ _ => False, .nil _ m _ hm (fun _ _ h => h), rfl, noX, fun _ _ h => h.elim, .refl _ _⟩
  | sz e es =>
    cases run_pure hr
    cases hc with
    | sz _ _ _ hrc => exact ⟨fun _ _ => False, .fz _ _ _ _ hrc (fun _ _ h => h), rfl, noX, fun _ _ h => h.elim, .refl _ _⟩
  | rf id =>
    obtain ⟨nd, s2, h1, h2⟩ := run_bind_some hr
    cases run_getN h1
    split at h2
    · rename_i q ver e es hn
      obtain ⟨_, s3, h3, h4⟩ := run_bind_some h2
      cases run_setN h3
      cases run_pure h4
      obtain ⟨hd, _⟩ := sl_node h hn
      have hv : v = ρ id := by cases hc; rfl
      rw [hv]
      exact ⟨F id, hd, rfl, h.drop hn hd.inside, h.apartX id (by rw [hn]; rfl), shapeKept_drop st id⟩
    · exact (run_fail h2).elim
  | _ => exact (run_fail hr).elim

/-- Pieces of own data, each with its memory. -/
structure Parts (cx : Cx) (w : World) (X : Cells) (ys : List PV) (us : List Value) (Gk : Nat → Cells) : Prop where
  len : us.length = ys.length
  dc : ∀ (j : Nat) c u, ys[j]? = some c → us[j]? = some u → DC cx.P w cx.Z c u (Gk j)
  cells : ∀ y ∈ ys, y.cells = [y]
  apart : ∀ j k, j < ys.length → k < ys.length → j ≠ k → Apart (Gk j) (Gk k)
  apartX : ∀ j, j < ys.length → Apart (Gk j) X

theorem toPVs_ok {cs : List TV} : ∀ {X : Cells} {st : St} {vs : List Value} {r : List PV × Bool} {s1 : St}, G cx U X ρ F st a w → TRL cx.P w cx.Z ρ F (shapeOf st) cs vs → idsInL U cs → (toPVs cs).run st = some (r, s1) →
    ∃ Gk, Parts cx w X r.1 vs Gk ∧ G cx U (Or X r.1.length Gk) ρ F s1 a w ∧ ShapeKept U (shapeOf st) (shapeOf s1) := by
  induction cs with
  | nil =>
    intro X st vs r s1 h hc hi hr
    cases run_pure hr
    cases hc
    exact ⟨fun _ _ _ => False, ⟨rfl, by simp, by simp, by simp, by simp⟩, h.less fun b o hx => hx.resolve_right (by simp), .refl _ _⟩
  | cons c cs ih =>
    intro X st vs r s1 h hc hi hr
    cases hc with
    | @cons _ v _ vs' h1 hs =>
      obtain ⟨y, s2, h2, h3⟩ := run_bind_some hr
      obtain ⟨ys, s3, h4, h5⟩ := run_bind_some h3
      cases run_pure h5
      obtain ⟨Fp, d1, d2, d3, d4, d5⟩ := toPV_ok h h1 h2
      have hs' : TRL cx.P w cx.Z ρ F (shapeOf s2) cs vs' := .of hs.length fun i c u hci hu => (hs.get i c u hci hu).shape (idsInL_get hi.2 hci) d5
      obtain ⟨Gk, p, g, k⟩ := ih d3 hs' hi.2 h4
      refine ⟨fun j => match j with | 0 => Fp | j + 1 => Gk j, ⟨by simp [p.len], ?_, ?_, ?_, ?_⟩, ?_, d5.trans k⟩
      · intro j c u hj hu
        cases j with
        | zero => simp at hj hu; subst hj hu; exact d1
        | succ j => exact p.dc j c u (by simpa using hj) (by simpa using hu)
      · intro y' hy
        cases hy with
        | head => exact d2
        | tail _ hy => exact p.cells y' hy
      · intro j k hj hk hjk
        cases j with
        | zero =>
          cases k with
          | zero => exact absurd rfl hjk
          | succ k => exact fun b o hf hg => p.apartX k (by simpa using hk) b o hg (.inr hf)
        | succ j =>
          cases k with
          | zero => exact fun b o hf hg => p.apartX j (by simpa using hj) b o hf (.inr hg)
          | succ k => exact p.apart j k (by simpa using hj) (by simpa using hk) (by omega)
      · intro j hj
        cases j with
        | zero => exact d4
        | succ j => exact fun b o hf hx => p.apartX j (by simpa using hj) b o hf (.inl hx)
      · refine g.less fun b o hx => ?_
        rcases hx with hx | ⟨j, hj, hx⟩
        · exact .inl (.inl hx)
        · cases j with
          | zero => exact .inl (.inr hx)
          | succ j => exact .inr ⟨j, by simpa using hj, hx⟩

theorem setCells_cells {x : PV} {o : Nat} {ys : List PV} (hfit : o + ys.length ≤ x.cells.length) (hy : ∀ y ∈ ys, y.cells = [y]) : (setCells x o ys).cells = x.cells.take o ++ ys ++ x.cells.drop (o + ys.length) := by
  cases x with
  | st cs => rfl
  | _ =>
    simp only [PV.cells, List.length_singleton] at hfit ⊢
    match o, ys, hfit, hy with
    | 0, [], _, _ => rfl
    | 0, [y], _, hy => exact hy y (by simp)
    | 0, _ :: _ :: _, hfit, _ => simp at hfit
    | 1, [], _, _ => rfl
    | 1, _ :: _, hfit, _ => simp at hfit; omega
    | o + 2, ys, hfit, _ => omega

theorem flat_set {m : Nat} {x : PV} {o : Nat} {ys : List PV} (hfit : o + ys.length ≤ x.cells.length) (hy : ∀ y ∈ ys, y.cells = [y]) : ∀ {es : List PV} (_ : ∀ y ∈ es, y.cells.length = m) {i : Nat} (_ : es[i]? = some x) (k : Nat),
    (flat (es.set i (setCells x o ys)))[k]? = if i * m + o ≤ k ∧ k < i * m + o + ys.length then ys[k - (i * m + o)]? else (flat es)[k]?
  | z :: es, hw, 0, hx, k => by
    simp at hx
    subst hx
    have hm : z.cells.length = m := hw _ (by simp)
    have hseg := fun k => seg_get z.cells ys o k hfit
    simp only [List.set_cons_zero, flat, List.flatMap_cons, Nat.zero_mul, Nat.zero_add]
    rw [setCells_cells hfit hy]
    by_cases hk : k < m
    · rw [List.getElem?_append_left (by simp; omega), hseg k]
      rw [List.getElem?_append_left (by omega)]
    · rw [if_neg (by omega), List.getElem?_append_right (by simp; omega), List.getElem?_append_right (by omega)]
      congr 1
      simp; omega
  | z :: es, hw, i + 1, hx, k => by
    have hm : z.cells.length = m := hw _ (by simp)
    have ih := flat_set hfit hy (es := es) (fun y hy => hw y (by simp [hy])) (i := i) (by simpa using hx)
    simp only [List.set_cons_succ, flat, List.flatMap_cons] at ih ⊢
    have e : (i + 1) * m = i * m + m := by rw [Nat.add_mul]; omega
    by_cases hk : k < m
    · rw [if_neg (by omega), List.getElem?_append_left (by omega), List.getElem?_append_left (by omega)]
    · rw [List.getElem?_append_right (by omega), List.getElem?_append_right (by omega), ih (k - z.cells.length)]
      by_cases h2 : i * m + o ≤ k - z.cells.length ∧ k - z.cells.length < i * m + o + ys.length
      · rw [if_pos h2, if_pos (by omega)]
        congr 1
        omega
      · rw [if_neg h2, if_neg (by omega)]
  | [], _, i, hx, k => by simp at hx

/-- Cells of an element of own data are written. -/
theorem DC.write {X : Cells} {e : Nat} {es : List PV} {v : Value} {Fd : Cells} (hd : DC cx.P w cx.Z (.sl e es) v Fd) (hZ : Apart Fd cx.Z) {i o : Nat} {x : PV} (hx : es[i]? = some x) {ys : List PV} {us : List Value} {Gk : Nat → Cells}
    (hp : Parts cx w X ys us Gk) (hfit : o + ys.length ≤ x.cells.length) (hg1 : ∀ j, j < ys.length → Apart (Gk j) Fd) :
    ∃ g len cap cur m, v = .slice (some ⟨g, 0, none⟩) len cap ∧ w.heap[g]? = some (.cells cur e (0, 0)) ∧ sizeT cx.P e = some m ∧ x.cells.length = m ∧ i * m + o + us.length ≤ cur.size ∧ (∀ k, Fd g k) ∧
      (((x.cells.drop o).take ys.length).all isAtom = true → ∀ k, i * m + o ≤ k → k < i * m + o + us.length → ∀ u, cur[k]? = some u → isSliceV u = false) ∧
      ∃ F', DC cx.P (w.setRow g (cur.toList.take (i * m + o) ++ us ++ cur.toList.drop (i * m + o + us.length)).toArray) cx.Z (.sl e (es.set i (setCells x o ys))) v F' ∧ (∀ b k, F' b k → Fd b k ∨ ∃ j, j < ys.length ∧ Gk j b k) ∧
        (((x.cells.drop o).take ys.length).all isAtom = true → ∀ b k, Fd b k → F' b k) := by
  cases hd with
  | nil => simp at hx
  | sl _ _ g len cap m cur vs Fk _ hl hm hw hg hlc hcm hsz hc hr hFd hdd hd0 =>
    have hxm : x.cells.length = m := hw x (List.mem_of_getElem? hx)
    have hi : i < es.length := (List.getElem?_eq_some_iff.1 hx).1
    have hul := hp.len
    have hbase : i * m + m ≤ es.length * m := by rw [← Nat.succ_mul]; exact Nat.mul_le_mul_right _ hi
    have hfl := flat_length hw
    have hcur : i * m + o + us.length ≤ cur.size := by
      have : es.length * m ≤ cap * m := Nat.mul_le_mul_right _ (by omega)
      omega
    have hflat := flat_set (o := o) (ys := ys) hfit hp.cells hw hx
    have hwx : (setCells x o ys).cells.length = m := by rw [setCells_cells hfit hp.cells]; simp; omega
    have hfl' : (flat (es.set i (setCells x o ys))).length = (flat es).length := by
      rw [flat_length (m := m), hfl, List.length_set]
      intro y hy
      rcases List.mem_or_eq_of_mem_set hy with hy | rfl
      · exact hw y hy
      · exact hwx
    have oldAt : ∀ k, i * m + o ≤ k → k < i * m + o + ys.length → (flat es)[k]? = x.cells[k - i * m]? := by
      intro k h1 h2
      have := flat_get hw hx (j := k - i * m) (by omega)
      rw [← this]; congr 1; omega
    refine ⟨g, len, cap, cur, m, rfl, hg, hm, hxm, hcur, fun k => (hFd g k).2 (.inl rfl), ?_, ?_⟩
    · intro hat k h1 h2 u hu
      have hk := oldAt k h1 (by omega)
      have hlt : k - i * m < x.cells.length := by omega
      rw [List.getElem?_eq_getElem hlt] at hk
      have h3 := hc k _ hk
      rw [hu] at h3
      cases h3
      have hmem : x.cells[k - i * m] ∈ (x.cells.drop o).take ys.length := by
        apply List.mem_of_getElem? (i := k - i * m - o)
        rw [List.getElem?_take, if_pos (by omega), List.getElem?_drop, ← List.getElem?_eq_getElem hlt]
        congr 1; omega
      have hia := List.all_eq_true.1 hat _ hmem
      have hdc := hr k _ hk
      generalize hcc : x.cells[k - i * m] = cc at hia hdc
      cases cc with
      | a u' => cases hdc; simpa [isAtom] using hia
      | _ => cases hia
    · have hk := seg_kept (o := i * m + o) (vs := us) hg hcur
      let inSeg : Nat → Prop := fun k => i * m + o ≤ k ∧ k < i * m + o + ys.length
      have hFg : ∀ k, k < (flat es).length → ∀ b k', Fk k b k' → Fd b k' := fun k hk b k' hf => (hFd b k').2 (.inr ⟨k, hk, hf⟩)
      have hsegget := fun k => seg_get cur.toList us (i * m + o) k (by simpa using hcur)
      refine ⟨fun b k => b = g ∨ ∃ j, j < (flat (es.set i (setCells x o ys))).length ∧ (if i * m + o ≤ j ∧ j < i * m + o + ys.length then Gk (j - (i * m + o)) else Fk j) b k, ?_, ?_, ?_⟩
      · refine .sl e _ g len cap m _ (fun k => if i * m + o ≤ k ∧ k < i * m + o + ys.length then us.getD (k - (i * m + o)) undef else vs k) (fun j => if i * m + o ≤ j ∧ j < i * m + o + ys.length then Gk (j - (i * m + o)) else Fk j) _ (by rw [List.length_set]; exact hl) hm ?_ (setRow_heap w g _ _ _ _ hg) hlc hcm (by simp; omega) ?_ ?_ (fun b k => Iff.rfl) ?_ ?_
        · intro y hy
          rcases List.mem_or_eq_of_mem_set hy with hy | rfl
          · exact hw y hy
          · exact hwx
        · intro k c hk'
          rw [hflat k] at hk'
          have hg' := hsegget k
          simp only [List.getElem?_toArray]
          rw [hg']
          by_cases hin : i * m + o ≤ k ∧ k < i * m + o + ys.length
          · rw [if_pos hin] at hk'
            rw [if_pos (by omega), if_pos hin]
            have hlt : k - (i * m + o) < us.length := by omega
            rw [List.getD_eq_getElem?_getD, List.getElem?_eq_getElem hlt]; rfl
          · rw [if_neg hin] at hk'
            rw [if_neg (by omega), if_neg hin, Array.getElem?_toList]
            exact hc k c hk'
        · intro k c hk'
          rw [hflat k] at hk'
          by_cases hin : i * m + o ≤ k ∧ k < i * m + o + ys.length
          · rw [if_pos hin] at hk'
            simp only [if_pos hin]
            have hlt : k - (i * m + o) < us.length := by omega
            have hdc := hp.dc (k - (i * m + o)) c _ hk' (List.getElem?_eq_getElem hlt)
            rw [List.getD_eq_getElem?_getD, List.getElem?_eq_getElem hlt]
            refine hdc.mono (fun b k' hf => hk.same fun hM => ?_) (fun b k' hz => hk.same fun hM => ?_) fun _ _ h => h
            · obtain ⟨rfl, _⟩ := hM; exact hg1 _ (by omega) b k' hf ((hFd _ _).2 (.inl rfl))
            · exact hZ b k' ((hFd _ _).2 (.inl hM.1)) hz
          · rw [if_neg hin] at hk'
            simp only [if_neg hin]
            have hlt := (List.getElem?_eq_some_iff.1 hk').1
            refine (hr k c hk').mono (fun b k' hf => hk.same fun hM => ?_) (fun b k' hz => hk.same fun hM => ?_) fun _ _ h => h
            · obtain ⟨rfl, _⟩ := hM; exact hd0 k hlt k' hf
            · exact hZ b k' ((hFd _ _).2 (.inl hM.1)) hz
        · intro k l hk' hl' hkl
          rw [hfl'] at hk' hl'
          by_cases h1 : i * m + o ≤ k ∧ k < i * m + o + ys.length
          · by_cases h2 : i * m + o ≤ l ∧ l < i * m + o + ys.length
            · simp only [if_pos h1, if_pos h2]; exact hp.apart _ _ (by omega) (by omega) (by omega)
            · simp only [if_pos h1, if_neg h2]; exact fun b q hf hg' => hg1 _ (by omega) b q hf (hFg l hl' b q hg')
          · by_cases h2 : i * m + o ≤ l ∧ l < i * m + o + ys.length
            · simp only [if_neg h1, if_pos h2]; exact fun b q hf hg' => hg1 _ (by omega) b q hg' (hFg k hk' b q hf)
            · simp only [if_neg h1, if_neg h2]; exact hdd k l hk' hl' hkl
        · intro k hk' q hf
          rw [hfl'] at hk'
          by_cases h1 : i * m + o ≤ k ∧ k < i * m + o + ys.length
          · simp only [if_pos h1] at hf; exact hg1 _ (by omega) g q hf ((hFd _ _).2 (.inl rfl))
          · simp only [if_neg h1] at hf; exact hd0 k hk' q hf
      · intro b k hf
        rcases hf with rfl | ⟨j, hj, hf⟩
        · exact .inl ((hFd _ _).2 (.inl rfl))
        · rw [hfl'] at hj
          split at hf
          · exact .inr ⟨_, by omega, hf⟩
          · exact .inl (hFg j hj b k hf)
      · intro hat b k hf
        rcases (hFd b k).1 hf with rfl | ⟨j, hj, hf⟩
        · exact .inl rfl
        · refine .inr ⟨j, by rw [hfl']; exact hj, ?_⟩
          split
          · rename_i hin
            have hk' := oldAt j hin.1 hin.2
            have hlt : j - i * m < x.cells.length := by omega
            rw [List.getElem?_eq_getElem hlt] at hk'
            have hmem : x.cells[j - i * m] ∈ (x.cells.drop o).take ys.length := by
              apply List.mem_of_getElem? (i := j - i * m - o)
              rw [List.getElem?_take, if_pos (by omega), List.getElem?_drop, ← List.getElem?_eq_getElem hlt]
              congr 1; omega
            have hia := List.all_eq_true.1 hat _ hmem
            have hdc := hr j _ hk'
            generalize x.cells[j - i * m] = cc at hia hdc
            cases cc with
            | a u' => cases hdc with | a _ _ _ hF => exact absurd hf (hF b k)
            | _ => cases hia
          · exact hf

theorem isSome_less {st st' : St} (h : ∀ id, st'.node id = st.node id ∨ st'.node id = none) {id : Nat} (hs : (st'.node id).isSome = true) : (st.node id).isSome = true := by
  rcases h id with e | e
  · rwa [e] at hs
  · rw [e] at hs; cases hs

/-- Cells of an element of a slice are written. -/
theorem storeEa_ok (h : G cx U X ρ F st a w) {n t : Nat} (hn : sizeT cx.P t = some n) {b id i m o : Nat} (hb : ¬ U b) {c : TV} {v p : Value} (hc : TR cx.P w cx.Z ρ F (shapeOf st) c v) (hi : idsIn U c)
    (hp : TR cx.P w cx.Z ρ F (shapeOf st) (.ea id i m o) p) (hid : U id) {s1 : St} (hr : (storeAt b n (.ea id i m o) c).run st = some ((), s1)) :
    ∃ w' F', (Instr.storeAt t p v).run cx.P w = .ok () w' ∧ G cx (Win U b) X ρ F' s1 a w' := by
  obtain ⟨ys, s2, h1, h2⟩ := run_bind_some hr
  obtain ⟨nd, s3, h3, h4⟩ := run_bind_some h2
  cases run_getN h3
  split at h4
  · rename_i q ver e es hnd
    split at h4
    · rename_i x hx
      split at h4
      · rename_i hcond
        obtain ⟨hlen, hfit⟩ := hcond
        have e1 := run_setN h4
        have e2 : s1 = s2.setNode id _ := congrArg Prod.snd e1
        clear e1 h4
        subst e2
        have hs : TRL cx.P w cx.Z ρ F (shapeOf st) c.cells v.cells.toList := by
          cases hrow : c.row with
          | some cs => obtain ⟨k1, k2⟩ := hc.row h.one hrow; rw [k2]; exact k1
          | none =>
            cases c with
            | a u =>
              simp only [TV.cells, toPVs, toPV] at h1
              simp only [TV.row] at hrow
              split at hrow
              · cases hrow
              · rename_i hone
                rw [if_neg hone] at h1
                exact (run_fail h1).elim
            | tp cs => exact (run_fail h1).elim
            | un => exact (run_fail h1).elim
            | _ => cases hrow
        obtain ⟨Gk, hparts, hG, hsk⟩ := toPVs_ok h hs (idsIn_cells hi) h1
        obtain ⟨hd, hsh⟩ := sl_node hG hnd
        have hsome : (s2.node id).isSome = true := by rw [hnd]; rfl
        have hZ : Apart (F id) cx.Z := fun b' k hf => (hG.mine id hsome b' k hf).1
        have hgF : ∀ j, j < ys.1.length → Apart (Gk j) (F id) := fun j hj b' k hg hf => hG.apartX id hsome b' k hf (.inr ⟨j, hj, hg⟩)
        obtain ⟨g, len, cap, cur, m', hv, hg, hm, hxm, hcur, hFg, hslice, F', hd', hsub, hsup⟩ := hd.write (o := o) hZ hx hparts (by omega) hgF
        have hul := hparts.len
        have hpaddr : p = .pointer (some ⟨g, i * m' + o, none⟩) := by
          cases hp with
          | ea _ _ _ _ _ _ hcl =>
            obtain ⟨ver0, hs0, _⟩ := hsk id hid ver e _ hsh
            obtain ⟨g0, l0, c0, hr0, hsz, rfl⟩ := hcl ver0 e _ hs0
            rw [hr0] at hv
            cases hv
            rw [hm] at hsz
            cases hsz
            rfl
        subst hpaddr
        have hvl : v.cells.size = n := by rw [← Array.length_toList, hul, hlen]
        have hone : ∀ u ∈ v.cells.toList, u.oneCell' = true := by
          intro u hu
          obtain ⟨j, hj⟩ := List.getElem?_of_mem hu
          have hlt : j < ys.1.length := by rw [← hul]; exact (List.getElem?_eq_some_iff.1 hj).1
          rw [← one1_eq]
          exact (hparts.dc j _ u (List.getElem?_eq_getElem hlt) hj).one
        have hrun := store_run (o := i * m' + o) hn hg hvl (by simp only [Array.length_toList] at hcur; omega) hone
        have hk := seg_kept (o := i * m' + o) (vs := v.cells.toList) hg hcur
        have hMF : ∀ b' k, (b' = g ∧ i * m' + o ≤ k ∧ k < i * m' + o + v.cells.toList.length) → F id b' k := fun b' k hM => hM.1 ▸ hFg k
        let ver' := if allAtoms ys.1 x o n then ver else b + 1
        have hF'mine : ∀ b' k, F' b' k → ¬ cx.Z b' k ∧ (cx.M0 b' k ∨ cx.w0.heap.size ≤ b') := by
          intro b' k hf
          rcases hsub b' k hf with hf | ⟨j, hj, hf⟩
          · exact hG.mine id hsome b' k hf
          · exact ⟨(hG.mineX b' k (.inr ⟨j, hj, hf⟩)).1, (hG.mineX b' k (.inr ⟨j, hj, hf⟩)).2.1⟩
        have hshape : ∀ ver1 e1 l, shapeOf (s2.setNode id (some (.sl (q || ys.2) ver' e (es.set i (setCells x o ys.1))))) id = some (ver1, e1, l) → ver1 = ver' ∧ e1 = e ∧ l = es.length := by
          intro ver1 e1 l hs1
          unfold shapeOf at hs1
          rw [St.setNode_node, if_pos rfl] at hs1
          simp only [List.length_set] at hs1
          cases hs1; exact ⟨rfl, rfl, rfl⟩
        have hup := hG.update (U' := Win U b) (id := id) (o := some (.sl (q || ys.2) ver' e (es.set i (setCells x o ys.1)))) (v' := ρ id) (Fn := F') (X' := X)
          (fun _ h => .inl h) hk (fun b' k hM => (hG.mine id hsome b' k (hMF b' k hM)).1)
          (fun b' k hM hlt => ((hG.mine id hsome b' k (hMF b' k hM)).2).resolve_right (by omega))
          (fun j hj hjs b' k hf hM => hG.apart j id hj hjs hsome b' k hf (hMF b' k hM)) (fun _ => rfl) (hG.one id)
          (by
            intro j hj ver1 e1 l hs1
            by_cases ej : j = id
            · subst ej
              obtain ⟨rfl, rfl, rfl⟩ := hshape ver1 e1 l hs1
              refine ⟨ver, hsh, fun hver => ?_⟩
              show ver = ver'
              by_cases hat : allAtoms ys.1 x o n = true
              · simp only [ver', hat, if_true]
              · simp only [ver', hat, if_false, Bool.false_eq_true] at hver
                rcases hver with hver | hver
                · omega
                · exact absurd (by simpa using hver) hb
            · rw [shape_set_ne s2 _ ej] at hs1; exact ⟨ver1, hs1, fun _ => rfl⟩)
          (by
            intro _ ver1 e1 l hs1 hver b' k hf
            obtain ⟨rfl, rfl, rfl⟩ := hshape ver1 e1 l hs1
            have hat : allAtoms ys.1 x o n = true := by
              cases hat : allAtoms ys.1 x o n with
              | true => rfl
              | false =>
                simp only [ver', hat, Bool.false_eq_true, if_false] at hver
                rcases hver with hver | hver
                · omega
                · exact absurd (by simpa using hver) hb
            have hold : ((x.cells.drop o).take ys.1.length).all isAtom = true := by
              unfold allAtoms at hat
              rw [hlen]
              exact (Bool.and_eq_true _ _ ▸ hat : _ ∧ _).2
            refine ⟨hsup hold b' k hf, fun y hy hys => ?_⟩
            by_cases hM : b' = g ∧ i * m' + o ≤ k ∧ k < i * m' + o + v.cells.toList.length
            · obtain ⟨rfl, h5, h6⟩ := hM
              rw [cell_of_heap hg] at hy
              rw [hslice hold k h5 h6 y hy] at hys
              cases hys
            · exact (hk.same hM).cell hy)
          (by
            intro nd hnd'
            cases hnd'
            refine ⟨?_, .inl hid, ?_⟩
            · refine .sl _ _ e _ ?_
              rw [upd_same, upd_same]
              exact hd'
            · show ver' = 0 ∨ Win U b (ver' - 1)
              by_cases hat : allAtoms ys.1 x o n = true
              · simp only [ver', hat, if_true]
                exact ((hG.used id _ hnd).2).imp (fun h => h) .inl
              · simp only [ver', hat, if_false, Bool.false_eq_true]
                exact .inr (.inr ⟨by omega, by omega⟩))
          (fun _ => ⟨hF'mine, fun j hj hjs b' k hf hf' => by
            rcases hsub b' k hf' with hf' | ⟨l, hl, hf'⟩
            · exact hG.apart j id hj hjs hsome b' k hf hf'
            · exact hG.apartX j hjs b' k hf (.inr ⟨l, hl, hf'⟩), fun b' k hf hx => by
            rcases hsub b' k hf with hf | ⟨l, hl, hf⟩
            · exact hG.apartX id hsome b' k hf (.inl hx)
            · exact hparts.apartX l hl b' k hf hx⟩)
          (fun b' k hx => by
            obtain ⟨k1, k2, k3⟩ := hG.mineX b' k (.inl hx)
            exact ⟨k1, k2, Nat.lt_of_lt_of_le k3 hk.size⟩)
          (fun j _ hjs b' k hf hx => hG.apartX j hjs b' k hf (.inl hx))
        rw [upd_self] at hup
        exact ⟨_, _, hrun, hup⟩
      · exact (run_fail h4).elim
    · exact (run_fail h4).elim
  · exact (run_fail h4).elim

theorem ad_ptr {Z : Cells} {sh : Shape} {id o : Nat} {v : Value} {P : Program} (h : TR P w Z ρ F sh (.ad id o) v) : ∃ b off, ρ id = .pointer (some ⟨b, off, none⟩) ∧ v = .pointer (some ⟨b, off + o, none⟩) := by
  cases h with
  | ad _ _ b off hr => exact ⟨b, off, hr, rfl⟩

theorem storeAt_ok (h : G cx U X ρ F st a w) {n t : Nat} (hn : sizeT cx.P t = some n) {b : Nat} (hb : ¬ U b) {c d : TV} {v p : Value} (hc : TR cx.P w cx.Z ρ F (shapeOf st) c v) (hi : idsIn U c)
    (hp : TR cx.P w cx.Z ρ F (shapeOf st) d p) (hid : idsIn U d) {s1 : St} (hr : (storeAt b n d c).run st = some ((), s1)) :
    ∃ w' F', (Instr.storeAt t p v).run cx.P w = .ok () w' ∧ G cx (Win U b) X ρ F' s1 a w' := by
  cases d with
  | rf id =>
    have hv : p = ρ id := by cases hp; rfl
    obtain ⟨w', h1, h2⟩ := storeBox_ok h hn (p := p) hc hi (fun b off e => by rw [hv, e]; rfl) hr
    exact ⟨w', F, h1, h2.more fun _ h => .inl h⟩
  | ad id o =>
    obtain ⟨b', off', hr', rfl⟩ := ad_ptr hp
    obtain ⟨w', h1, h2⟩ := storeBox_ok h hn (p := .pointer (some ⟨b', off' + o, none⟩)) hc hi (fun b off e => by rw [hr'] at e; cases e; rfl) hr
    exact ⟨w', F, h1, h2.more fun _ h => .inl h⟩
  | ea id i m o => exact storeEa_ok h hn hb hc hi hp hid hr
  | _ => exact (run_fail hr).elim

theorem op_store (h : G cx U (fun _ _ => False) ρ F st a w) {b : Nat} (hb : ∀ i, b ≤ i → i < b + 100 → ¬ U i) {o : Oper} (ho : o.dst = none) {t t' n : TypeId} {x y : Operand} {x' y' : Opd} (hop : o.op = .store t x y)
    (hn : sizeT cx.P t = some n) (hx : cOpd cx.P t' x = some x') (hy : cOpd cx.P t y = some y') {s1 : St} (hr : ((opd x').bind fun u => (opd y').bind fun v => storeAt b n u v).run st = some ((), s1)) : Now cx U b o s1 a w := by
  obtain ⟨c, s2, h1, h2⟩ := run_bind_some hr
  obtain ⟨rfl, g1, i1⟩ := opd_ok h hx h1
  obtain ⟨c', s3, h3, h4⟩ := run_bind_some h2
  obtain ⟨rfl, g2, i2⟩ := opd_ok h hy h3
  obtain ⟨w', F', hrun, hG⟩ := storeAt_ok h hn (hb b (Nat.le_refl _) (by omega)) g2 i2 g1 i1 h4
  refine .skip w' ?_ ?_
  · unfold execOp; rw [hop]
    simp only [Sem.run_bind, hrun, Result.andThen_ok, Sem.run_pure]
  · rw [ho]
    exact ⟨ρ, F', hG⟩

end Go.Proofs.Ytkoljcjliihiiaa.VM

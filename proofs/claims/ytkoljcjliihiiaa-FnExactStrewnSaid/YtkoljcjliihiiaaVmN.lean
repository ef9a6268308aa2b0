/- The interpreter 'VM': what is lent and shown at a call, and what comes back. -/
import Derived.Test.YtkoljcjliihiiaaVmM
namespace Go.Proofs.Ytkoljcjliihiiaa.VM
open Go

variable {cx : Cx} {U : Nat → Prop} {X : Cells} {ρ : Nat → Value} {F : Nat → Cells} {st : St} {sh : Shape} {V : Nat} {a : Act} {w : World}

/-! ### shown -/
def th1 : PV → PV
  | .fz e es => .sl e es
  | c => c

theorem thaw_cells (x : PV) : x.thaw.cells = x.cells.map th1 := by
  cases x <;> rfl

theorem flat_thaw (es : List PV) : flat (es.map PV.thaw) = (flat es).map th1 := by
  induction es with
  | nil => rfl
  | cons y es ih =>
    have e1 : flat (y :: es) = y.cells ++ flat es := by simp [flat]
    have e2 : flat ((y :: es).map PV.thaw) = y.thaw.cells ++ flat (es.map PV.thaw) := by simp [flat]
    rw [e1, e2, ih, thaw_cells, List.map_append]

theorem RC.th1 {P : Program} {Z : Cells} {c : PV} {v : Value} (h : RC P w Z c v) : RC P w Z (th1 c) v := by
  cases c with
  | fz e es => exact h.ofFz
  | _ => exact h

theorem RC.thaw {P : Program} {Z : Cells} {e : Nat} {es : List PV} {v : Value} (h : RC P w Z (.sl e es) v) : RC P w Z (.sl e (es.map PV.thaw)) v := by
  cases h with
  | sl _ _ x len cap m vs hl hm hw hx hn hc hr =>
    refine .sl e _ x len cap m vs (by rw [List.length_map]; exact hl) hm ?_ (fun y hy hne => hx y hy fun h0 => hne (by rw [h0]; rfl)) hn ?_ ?_
    · intro y hy
      obtain ⟨z, hz, rfl⟩ := List.mem_map.1 hy
      rw [thaw_cells, List.length_map]
      exact hw z hz
    · intro k c hk
      rw [flat_thaw, List.getElem?_map] at hk
      obtain ⟨c0, hc0, rfl⟩ := Option.map_eq_some_iff.1 hk
      exact hc k c0 hc0
    · intro k c hk
      rw [flat_thaw, List.getElem?_map] at hk
      obtain ⟨c0, hc0, rfl⟩ := Option.map_eq_some_iff.1 hk
      exact (hr k c0 hc0).th1

theorem RC.thawIf {P : Program} {Z : Cells} {e : Nat} {es : List PV} {v : Value} (q : Bool) (h : RC P w Z (.sl e es) v) : RC P w Z (.sl e (if q then es.map PV.thaw else es)) v := by
  cases q
  · exact h
  · exact h.thaw

/-- What may be shown: all that is read only; and, unless z, all that the frame has. -/
def ZR (z : Bool) (cx : Cx) (F : Nat → Cells) (st : St) : Cells := fun b o => cx.Z b o ∨ (z = false ∧ ∃ i, (st.node i).isSome = true ∧ F i b o)

theorem rc_zr (z : Bool) {c : PV} {v : Value} (h : RC cx.P w cx.Z c v) : RC cx.P w (ZR z cx F st) c v := h.mono (fun _ _ _ cur _ _ hb => ⟨cur, hb, rfl, rfl⟩) fun _ _ h => .inl h
theorem rc_zs {c : PV} {v : Value} (h : RC cx.P w (ZS cx F st) c v) : RC cx.P w (ZR false cx F st) c v := h.mono (fun _ _ _ cur _ _ hb => ⟨cur, hb, rfl, rfl⟩) fun _ _ h => h.imp (fun h => h) fun h => ⟨rfl, h⟩

abbrev Nil : Cells := fun _ _ => False

theorem crl_cons {P : Program} {Z : Cells} {c : CV} {cs : List CV} {v : Value} {vs : List Value} (h : CR P w Z c v Nil) (hs : CRL P w Z cs vs Nil) : CRL P w Z (c :: cs) (v :: vs) Nil := by
  simp only [CRL]
  exact ⟨v, vs, Nil, Nil, rfl, h, hs, fun _ _ h => h.elim, fun b o => ⟨fun h => h.elim, fun h => h.elim (fun h => h) fun h => h⟩⟩

theorem crl_nil {P : Program} {Z : Cells} : CRL P w Z [] [] Nil := by
  simp only [CRL]
  exact ⟨trivial, fun _ _ h => h⟩

theorem run_ite_fail {α : Type} {p : Bool} {m : M α} {st : St} {r : α × St} (h : (if p = true then M.fail else m).run st = some r) : p = false ∧ m.run st = some r := by
  cases p with
  | true => exact (run_fail h).elim
  | false => exact ⟨rfl, h⟩

theorem elems_node {id : Nat} {q : Bool} {ver e : Nat} {es : List PV} (hn : st.node id = some (.sl q ver e es)) : (elems (.rf id)).run st = some ((e, es), st) := by simp [elems, getN, M.bind, M.run, hn]
theorem elems_sb {id lo k : Nat} {q : Bool} {ver e : Nat} {es : List PV} (hn : st.node id = some (.sl q ver e es)) : (elems (.sb id lo k)).run st = some ((e, (es.drop lo).take k), st) := by simp [elems, getN, M.bind, M.run, hn]
theorem elems_ri {id ver : Nat} {p : List (Nat × Nat × Nat)} {q : Bool} {e : Nat} {es : List PV} (hn : st.node id = some (.sl q ver e es)) {r : Nat × List PV} (hg : dget es p = some r) : (elems (.ri id ver p)).run st = some (r, st) := by simp [elems, getN, M.bind, M.run, hn, hg]

/-- A box is shown. -/
theorem bx_cr (h : G cx U X ρ F st a w) {id : Nat} {z0 : Bool} {cs : List TV} (hn : st.node id = some (.bx z0 cs)) {o n : Nat} (hn0 : 0 < n) (hfit : o + n ≤ cs.length) {cs' : List CV} (hl : cs'.length = n)
    (hcs : ∀ us, TRL cx.P w cx.Z ρ F (shapeOf st) ((cs.drop o).take n) us → CRL cx.P w (ZR false cx F st) cs' us Nil) {v : Value} (hv : ∃ b off, ρ id = .pointer (some ⟨b, off, none⟩) ∧ v = .pointer (some ⟨b, off + o, none⟩)) :
    CR cx.P w (ZR false cx F st) (.bx true cs') v Nil := by
  obtain ⟨b, off, cur, t, hr, hb, hsz, htr, hi, hF, hz⟩ := bx_row h hn
  obtain ⟨b', off', hr', rfl⟩ := hv
  rw [hr] at hr'
  injection hr' with hr'
  injection hr' with hr'
  injection hr' with e1 e2
  subst e1 e2
  simp only [CR]
  have hd := htr.drop o
  have ht : TRL cx.P w cx.Z ρ F (shapeOf st) ((cs.drop o).take n) ((cur.toList.drop (off + o)).take n) := by
    refine .of (by simp; omega) fun i c u hc hu => ?_
    rw [List.getElem?_take] at hc hu
    split at hc
    · rename_i hin
      rw [if_pos hin, List.getElem?_drop] at hu
      refine hd.get i c u hc ?_
      rw [List.getElem?_drop, List.getElem?_take, if_pos (by omega), List.getElem?_drop]
      rw [← hu]; congr 1; omega
    · cases hc
  refine ⟨b, off + o, cur, t, Nil, rfl, hb, by omega, by intro e; rw [e] at hl; simp at hl; omega, by rw [hl]; exact hcs _ ht, fun _ => ⟨fun _ _ h => h, fun i hi => ?_⟩, fun e => (by cases e), fun b' o' => ⟨fun h => h.elim, fun h => h.elim (fun h => by cases h.1) fun h => h⟩⟩
  cases z0 with
  | true => rw [Nat.add_assoc]; exact .inl (hz rfl (o + i) (by omega))
  | false => exact .inr ⟨rfl, id, by rw [hn]; rfl, (hF _ _).2 ⟨rfl, rfl, by omega, by omega⟩⟩

theorem TRL.take {P : Program} {Z : Cells} {cs : List TV} {us : List Value} (h : TRL P w Z ρ F sh cs us) (n : Nat) : TRL P w Z ρ F sh (cs.take n) (us.take n) :=
  .of (by have := h.length; simp; omega) fun i c u k1 k2 => by
    rw [List.getElem?_take] at k1 k2
    split at k1
    · rename_i hin; rw [if_pos hin] at k2; exact h.get i c u k1 k2
    · cases k1

mutual
theorem freeze_ok (h : G cx U X ρ F st a w) {z : Bool} : ∀ (k : Nat) {n : Nat} {c : TV} {v : Value} {y : CV} {st' : St}, TR cx.P w cx.Z ρ F (shapeOf st) c v → idsIn U c → (freeze z k n c).run st = some (y, st') →
    st' = st ∧ CR cx.P w (ZR z cx F st) y v Nil
  | 0, n, c, v, y, st', hc, hi, hr => by simp only [freeze] at hr; exact (run_fail hr).elim
  | k + 1, n, c, v, y, st', hc, hi, hr => by
    cases c with
    | a u =>
      simp only [freeze] at hr
      cases run_pure hr
      exact ⟨rfl, by simp only [CR]; exact ⟨tr_a hc, fun _ _ h => h⟩⟩
    | nl e =>
      simp only [freeze] at hr
      cases run_pure hr
      cases hc with
      | nl _ m hm => exact ⟨rfl, by simp only [CR, if_true]; exact ⟨.empty hm, fun _ _ h => h⟩⟩
    | sz e es =>
      simp only [freeze] at hr
      cases run_pure hr
      cases hc with
      | sz _ _ _ hrc => exact ⟨rfl, by simp only [CR, if_true]; exact ⟨rc_zr z hrc, fun _ _ h => h⟩⟩
    | st cs =>
      simp only [freeze] at hr
      obtain ⟨ys, s1, h1, h2⟩ := run_bind_some hr
      cases run_pure h2
      cases hc with
      | st _ us hl hcc =>
        obtain ⟨e1, hcr⟩ := freezeL_ok h k (.of (by rw [Array.length_toList]; exact hl) fun i c u k1 k2 => hcc i c u k1 (by simpa using k2)) hi h1
        have e1' := e1.symm
        subst e1'
        exact ⟨rfl, by simp only [CR]; exact ⟨us, rfl, hcr⟩⟩
    | fn f fs cs =>
      simp only [freeze] at hr
      obtain ⟨ys, s1, h1, h2⟩ := run_bind_some hr
      obtain ⟨zs, s2, h3, h4⟩ := run_bind_some h2
      cases run_pure h4
      cases hc with
      | fn _ _ _ xs us hx hl hf hcc =>
        obtain ⟨e1, hcr1⟩ := freezeL_ok h k (.of (by rw [Array.length_toList]; exact hx) fun i c u k1 k2 => hf i c u k1 (by simpa using k2)) hi.1 h1
        have e1' := e1.symm
        subst e1'
        obtain ⟨e1, hcr2⟩ := freezeL_ok h k (.of (by rw [Array.length_toList]; exact hl) fun i c u k1 k2 => hcc i c u k1 (by simpa using k2)) hi.2 h3
        have e1' := e1.symm
        subst e1'
        exact ⟨rfl, by simp only [CR]; exact ⟨xs, us, Nil, Nil, rfl, hcr1, hcr2, fun _ _ h => h.elim, fun _ _ => ⟨fun h => h.elim, fun h => h.elim (fun h => h) fun h => h⟩⟩⟩
    | ic t x =>
      simp only [freeze] at hr
      obtain ⟨y', s1, h1, h2⟩ := run_bind_some hr
      cases run_pure h2
      cases hc with
      | ic _ _ u hx =>
        obtain ⟨e1, hcr⟩ := freeze_ok h k hx hi h1
        have e1' := e1.symm
        subst e1'
        exact ⟨rfl, by simp only [CR]; exact ⟨u, rfl, hcr⟩⟩
    | un =>
      simp only [freeze] at hr
      cases run_pure hr
      exact ⟨rfl, by simp only [CR]; exact fun _ _ h => h⟩
    | rf id =>
      simp only [freeze] at hr
      obtain ⟨hz, hr⟩ := run_ite_fail hr
      subst hz
      obtain ⟨nd, s1, h1, h2⟩ := run_bind_some hr
      cases run_getN h1
      split at h2
      · rename_i q ver e es hn
        cases run_pure h2
        obtain ⟨_, hrc⟩ := elems_okS h hc (elems_node hn)
        exact ⟨rfl, by simp only [CR, if_true]; exact ⟨(rc_zs hrc).thawIf q, fun _ _ h => h⟩⟩
      · rename_i z0 cs hn
        obtain ⟨ys, s2, h3, h4⟩ := run_bind_some h2
        cases run_pure h4
        obtain ⟨b, off, cur, t, hr0, hb, hsz, htr, hib, hF, hz⟩ := bx_row h hn
        obtain ⟨e1, hcr⟩ := freezeL_ok h k htr hib h3
        have e1' := e1.symm
        subst e1'
        have hN := h.nodes id _ hn
        have hne : cs ≠ [] := by cases hN with | bx _ _ _ _ _ _ _ _ _ hne _ _ _ => exact hne
        have hv : v = ρ id := by cases hc; rfl
        refine ⟨rfl, bx_cr h hn (o := 0) (n := cs.length) (List.length_pos_iff.2 hne) (by omega) (by rw [← hcr.length]; simp; omega) (fun us htu => ?_) ⟨b, off, hr0, by rw [hv, hr0]; rfl⟩⟩
        rw [List.drop_zero, List.take_length] at htu
        exact (freezeL_ok h k htu hib h3).2
      · exact (run_fail h2).elim
    | sb id lo j =>
      simp only [freeze] at hr
      obtain ⟨hz, hr⟩ := run_ite_fail hr
      subst hz
      obtain ⟨nd, s1, h1, h2⟩ := run_bind_some hr
      cases run_getN h1
      split at h2
      · rename_i q ver e es hn
        cases run_pure h2
        obtain ⟨_, hrc⟩ := elems_okS h hc (elems_sb hn)
        exact ⟨rfl, by simp only [CR, if_true]; exact ⟨(rc_zs hrc).thawIf q, fun _ _ h => h⟩⟩
      · exact (run_fail h2).elim
    | ri id ver p =>
      simp only [freeze] at hr
      obtain ⟨hz, hr⟩ := run_ite_fail hr
      subst hz
      obtain ⟨nd, s1, h1, h2⟩ := run_bind_some hr
      cases run_getN h1
      split at h2
      · rename_i q ver' e es hn
        split at h2
        · rename_i hver
          subst hver
          split at h2
          · rename_i e' es' hg
            cases run_pure h2
            obtain ⟨_, hrc⟩ := elems_okS h hc (elems_ri hn hg)
            exact ⟨rfl, by simp only [CR, if_true]; exact ⟨(rc_zs hrc).thawIf q, fun _ _ h => h⟩⟩
          · exact (run_fail h2).elim
        · exact (run_fail h2).elim
      · exact (run_fail h2).elim
    | ad id o =>
      simp only [freeze] at hr
      obtain ⟨hz, hr⟩ := run_ite_fail hr
      subst hz
      obtain ⟨nd, s1, h1, h2⟩ := run_bind_some hr
      cases run_getN h1
      split at h2
      · rename_i z0 cs hn
        split at h2
        · rename_i hcond
          obtain ⟨hn0, hfit⟩ := hcond
          obtain ⟨ys, s2, h3, h4⟩ := run_bind_some h2
          cases run_pure h4
          obtain ⟨b, off, hr0, rfl⟩ := ad_ptr hc
          obtain ⟨_, _, _, _, _, _, _, htr, hib, _, _⟩ := bx_row h hn
          have hib' : idsInL U ((cs.drop o).take n) := idsInL_of fun c hc => idsInL_mem hib c (List.mem_of_mem_drop (List.mem_of_mem_take hc))
          have hd2 := (htr.drop o).take n
          obtain ⟨e1, hcr⟩ := freezeL_ok h k hd2 hib' h3
          have e1' := e1.symm
          subst e1'
          refine ⟨rfl, bx_cr h hn hn0 hfit (by rw [← hcr.length, hd2.length]; simp; omega) (fun us htu => (freezeL_ok h k htu hib' h3).2) ⟨b, off, hr0, rfl⟩⟩
        · exact (run_fail h2).elim
      · exact (run_fail h2).elim
    | tp cs => simp only [freeze] at hr; exact (run_fail hr).elim
    | ea id i m o => simp only [freeze] at hr; exact (run_fail hr).elim
    | ei id ver p i m o => simp only [freeze] at hr; exact (run_fail hr).elim
    | ez cs o => simp only [freeze] at hr; exact (run_fail hr).elim
theorem freezeL_ok (h : G cx U X ρ F st a w) {z : Bool} : ∀ (k : Nat) {cs : List TV} {vs : List Value} {ys : List CV} {st' : St}, TRL cx.P w cx.Z ρ F (shapeOf st) cs vs → idsInL U cs → (freezeL z k cs).run st = some (ys, st') →
    st' = st ∧ CRL cx.P w (ZR z cx F st) ys vs Nil
  | 0, cs, vs, ys, st', hc, hi, hr => by simp only [freezeL] at hr; exact (run_fail hr).elim
  | k + 1, cs, vs, ys, st', hc, hi, hr => by
    cases hc with
    | nil =>
      simp only [freezeL] at hr
      cases run_pure hr
      exact ⟨rfl, crl_nil⟩
    | cons hx hs =>
      simp only [freezeL] at hr
      obtain ⟨y, s1, h1, h2⟩ := run_bind_some hr
      obtain ⟨ys', s2, h3, h4⟩ := run_bind_some h2
      cases run_pure h4
      obtain ⟨e1, k1⟩ := freeze_ok h k hx hi.1 h1
      have e1' := e1.symm
      subst e1'
      obtain ⟨e1, k2⟩ := freezeL_ok h k hs hi.2 h3
      have e1' := e1.symm
      subst e1'
      exact ⟨rfl, crl_cons k1 k2⟩
end

/-! ### holes -/
/-- A cell of own data: what is its own, and that it may be exchanged. -/
theorem DC.cellAt {P : Program} {Z : Cells} {e : Nat} {es : List PV} {v : Value} {Fd : Cells} (hd : DC P w Z (.sl e es) v Fd) {i m o : Nat} {x c : PV} (hx : es[i]? = some x) (hm : x.cells.length = m) (ho : x.cells[o]? = some c) :
    ∃ g len cap u Fr Fk, v = .slice (some ⟨g, 0, none⟩) len cap ∧ w.cell? ⟨g, i * m + o, none⟩ = some u ∧ DC P w Z c u Fk ∧ (∀ b k, Fd b k ↔ (Fr b k ∨ Fk b k)) ∧ Apart Fr Fk ∧ Fr g (i * m + o) ∧
      (∀ c1 e1 f1 m1, w.heap[g]? = some (.cells c1 e1 f1) → sizeT P e1 = some m1 → i * m + o < len * m1) ∧
      ∀ c' Fk', c'.cells = [c'] → DC P w Z c' u Fk' → Apart Fr Fk' → DC P w Z (.sl e (es.set i (setCells x o [c']))) v (fun b k => Fr b k ∨ Fk' b k) := by
  cases hd with
  | nil => simp at hx
  | sl _ _ g len cap m' cur vs Fk _ hl hm' hw hg hlc hcm hsz hc hr hFd hdd hd0 =>
    have hmm : m' = m := by rw [← hm]; exact (hw x (List.mem_of_getElem? hx)).symm
    subst hmm
    have hlt : o < m' := by have := (List.getElem?_eq_some_iff.1 ho).1; omega
    have hf : (flat es)[i * m' + o]? = some c := by rw [flat_get hw hx hlt]; exact ho
    have hk := (List.getElem?_eq_some_iff.1 hf).1
    have hfl := flat_length hw
    refine ⟨g, len, cap, vs (i * m' + o), fun b k => b = g ∨ ∃ j, j < (flat es).length ∧ j ≠ i * m' + o ∧ Fk j b k, Fk (i * m' + o), rfl, by rw [cell_of_heap hg]; exact hc _ _ hf, hr _ _ hf, fun b k => ?_, ?_, .inl rfl, ?_, ?_⟩
    · rw [hFd b k]
      constructor
      · rintro (h | ⟨j, hj, h⟩)
        · exact .inl (.inl h)
        · by_cases e : j = i * m' + o
          · subst e; exact .inr h
          · exact .inl (.inr ⟨j, hj, e, h⟩)
      · rintro ((h | ⟨j, hj, _, h⟩) | h)
        · exact .inl h
        · exact .inr ⟨j, hj, h⟩
        · exact .inr ⟨_, hk, h⟩
    · rintro b k (rfl | ⟨j, hj, hne, h⟩) h2
      · exact hd0 _ hk k h2
      · exact hdd j _ hj hk hne b k h h2
    · intro c1 e1 f1 m1 hb1 hm1
      rw [hg] at hb1; cases hb1
      rw [hm'] at hm1; cases hm1
      rw [hfl] at hk
      rw [hl]; exact hk
    · intro c' Fk' hc1 hD hap
      have hfit : o + [c'].length ≤ x.cells.length := by simp; omega
      have hflat := flat_set (o := o) (ys := [c']) hfit (by simpa using hc1) hw hx
      have hwx : (setCells x o [c']).cells.length = m' := by rw [setCells_cells hfit (by simpa using hc1)]; simp; omega
      have hw' : ∀ y ∈ es.set i (setCells x o [c']), y.cells.length = m' := by
        intro y hy
        rcases List.mem_or_eq_of_mem_set hy with hy | rfl
        · exact hw y hy
        · exact hwx
      have hfl' : (flat (es.set i (setCells x o [c']))).length = (flat es).length := by rw [flat_length hw', hfl, List.length_set]
      refine .sl e _ g len cap m' cur vs (fun j => if j = i * m' + o then Fk' else Fk j) _ (by rw [List.length_set]; exact hl) hm' hw' hg hlc hcm hsz ?_ ?_ ?_ ?_ ?_
      · intro k d hd
        rw [hflat] at hd
        split at hd
        · rename_i hin
          have : k = i * m' + o := by simp at hin; omega
          subst this
          exact hc _ _ hf
        · exact hc k d hd
      · intro k d hd
        rw [hflat] at hd
        split at hd
        · rename_i hin
          have e : k = i * m' + o := by simp at hin; omega
          subst e
          rw [Nat.sub_self] at hd
          cases hd
          rw [if_pos rfl]; exact hD
        · rename_i hin
          have e : k ≠ i * m' + o := by intro e; apply hin; simp; omega
          rw [if_neg e]; exact hr k d hd
      · intro b k
        rw [hfl']
        constructor
        · rintro ((h | ⟨j, hj, hne, h⟩) | h)
          · exact .inl h
          · exact .inr ⟨j, hj, by rw [if_neg hne]; exact h⟩
          · exact .inr ⟨_, hk, by rw [if_pos rfl]; exact h⟩
        · rintro (h | ⟨j, hj, h⟩)
          · exact .inl (.inl h)
          · by_cases e : j = i * m' + o
            · rw [if_pos e] at h; exact .inr h
            · rw [if_neg e] at h; exact .inl (.inr ⟨j, hj, e, h⟩)
      · rw [hfl']
        intro j l hj hl' hne b k h1 h2
        by_cases e1 : j = i * m' + o
        · rw [if_pos e1] at h1
          rw [if_neg (by omega)] at h2
          exact hap b k (.inr ⟨l, hl', by omega, h2⟩) h1
        · rw [if_neg e1] at h1
          by_cases e2 : l = i * m' + o
          · rw [if_pos e2] at h2
            exact hap b k (.inr ⟨j, hj, e1, h1⟩) h2
          · rw [if_neg e2] at h2
            exact hdd j l hj hl' hne b k h1 h2
      · rw [hfl']
        intro j hj k h
        by_cases e : j = i * m' + o
        · rw [if_pos e] at h; exact hap g k (.inl rfl) h
        · rw [if_neg e] at h; exact hd0 j hj k h

/-- A slice in own data is taken out, and a hole is left. -/
theorem DC.carve {P : Program} {Z S : Cells} : ∀ (p : List (Nat × Nat × Nat)) {e : Nat} {es : List PV} {v v' : Value} {Fd : Cells} {r : Nat × List PV} {es1 : List PV}, DC P w Z (.sl e es) v Fd → dget es p = some r → dput es p .un = some es1 → Nav P w S v p v' →
    ∃ F1 F2, DC P w Z (.sl e es1) v F1 ∧ DC P w Z (.sl r.1 r.2) v' F2 ∧ (∀ b o, Fd b o ↔ (F1 b o ∨ F2 b o)) ∧ Apart F1 F2 ∧ Nav P w F1 v p v' ∧ es1.length = es.length
  | [], e, es, v, v', Fd, r, es1, h, hg, hp, hn => by simp [dget] at hg
  | (i, m, o) :: p, e, es, v, v', Fd, r, es1, h, hg, hp, hn => by
    simp only [dget] at hg
    simp only [dput] at hp
    split at hg
    · cases hg
    · rename_i x hx
      rw [hx] at hp
      simp only at hp
      split at hg
      · rename_i hm
        rw [if_pos hm] at hp
        split at hg
        · rename_i e1 es1' hxo
          rw [hxo] at hp
          simp only at hp
          obtain ⟨g, len, cap, u, Fr, Fk, rfl, k2, k3, k4, k5, k6, k7, k8⟩ := h.cellAt hx hm hxo
          cases hn with
          | cons _ _ _ _ _ _ u' _ _ hcu hk hu hS hrest =>
            rw [k2] at hcu
            cases hcu
            split at hg
            · cases hg
              cases hp
              have e0 := hrest.nil_eq rfl
              subst e0
              exact ⟨_, Fk, k8 .un Nil rfl (.un _ _ k3.one fun _ _ h => h) (fun _ _ _ h => h), k3, fun b o => by rw [k4 b o]; simp [Nil], fun b o h1 h2 => k5 b o (h1.resolve_right fun h => h) h2,
                .cons _ _ _ _ _ _ _ _ _ k2 k7 hu (.inl k6) (.nil _), by simp⟩
            · simp only at hp
              split at hp
              · rename_i in' hin
                cases hp
                obtain ⟨F1, F2, m1, m2, m3, m4, m5, _⟩ := DC.carve _ k3 hg hin hrest
                have ap1 : Apart Fr F1 := fun b o h1 h2 => k5 b o h1 ((m3 b o).2 (.inl h2))
                refine ⟨_, F2, k8 _ F1 rfl m1 ap1, m2, fun b o => by rw [k4 b o, m3 b o, or_assoc], ?_, .cons _ _ _ _ _ _ _ _ _ k2 k7 hu (.inl k6) ?_, by simp⟩
                · rintro b o (h1 | h1) h2
                  · exact k5 b o h1 ((m3 b o).2 (.inr h2))
                  · exact m4 b o h1 h2
                · exact NavKept.of (.refl _) (fun b o h => ⟨.inr h, fun _ hy _ => hy⟩) _ _ m5
              · cases hp
        · cases hg
      · cases hg

set_option maxRecDepth 10000 in
/-- A hole is filled. -/
theorem DC.fill {P : Program} {Z S Fc : Cells} {c : PV} {v' : Value} (hcc : c.cells = [c]) (hc : DC P w Z c v' Fc) : ∀ (p : List (Nat × Nat × Nat)) {e : Nat} {es : List PV} {v : Value} {Fd : Cells} {es1 : List PV}, DC P w Z (.sl e es) v Fd → dat es p = some .un → dput es p c = some es1 → Nav P w S v p v' →
    Apart Fd Fc → DC P w Z (.sl e es1) v (fun b o => Fd b o ∨ Fc b o) ∧ es1.length = es.length
  | [], e, es, v, Fd, es1, h, hg, hp, hn, ha => by simp [dat] at hg
  | (i, m, o) :: p, e, es, v, Fd, es1, h, hg, hp, hn, ha => by
    simp only [dat] at hg
    simp only [dput] at hp
    split at hg
    · cases hg
    · rename_i x hx
      rw [hx] at hp
      simp only at hp
      split at hg
      · rename_i hm
        rw [if_pos hm] at hp
        split at hg
        · cases hg
        · rename_i c0 hxo
          rw [hxo] at hp
          simp only at hp
          obtain ⟨g, len, cap, u, Fr, Fk, rfl, k2, k3, k4, k5, k6, k7, k8⟩ := h.cellAt hx hm hxo
          have apr : Apart Fr Fc := fun b o h1 h2 => ha b o ((k4 b o).2 (.inl h1)) h2
          cases hn with
          | cons _ _ _ _ _ _ u' _ _ hcu hk hu hS hrest =>
            rw [k2] at hcu
            cases hcu
            split at hg
            · cases hg
              cases hp
              have e0 := hrest.nil_eq rfl
              subst e0
              refine ⟨(k8 c Fc hcc hc apr).congr fun b o => ?_, by simp⟩
              rw [k4 b o]
              cases k3 with
              | un _ _ _ hF =>
                constructor
                · rintro ((h | h) | h)
                  · exact .inl h
                  · exact absurd h (hF b o)
                  · exact .inr h
                · rintro (h | h)
                  · exact .inl (.inl h)
                  · exact .inr h
            · split at hg
              · rename_i e0 es0
                simp only at hp
                split at hp
                · rename_i in' hin
                  cases hp
                  obtain ⟨m1, _⟩ := DC.fill hcc hc _ k3 hg hin hrest fun b o h1 h2 => ha b o ((k4 b o).2 (.inr h1)) h2
                  refine ⟨(k8 _ _ rfl m1 ?_).congr fun b o => by rw [k4 b o, or_assoc], by simp⟩
                  rintro b o h1 (h2 | h2)
                  · exact k5 b o h1 h2
                  · exact apr b o h1 h2
                · cases hp
              · cases hg
      · cases hg

end Go.Proofs.Ytkoljcjliihiiaa.VM

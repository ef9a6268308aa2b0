/- The interpreter 'VM': closed values come into a frame. -/
import Derived.Test.YtkoljcjliihiiaaVmL
namespace Go.Proofs.Ytkoljcjliihiiaa.VM
open Go

variable {cx : Cx} {U : Nat → Prop} {X : Cells} {ρ : Nat → Value} {F : Nat → Cells} {st : St} {sh : Shape} {V : Nat} {a : Act} {w : World}

mutual
theorem unpack_le {q : Bool} : ∀ {c : CV} {b : Nat} {st : St} {tv : TV} {b' : Nat} {st' : St}, (unpack q b c).run st = some ((tv, b'), st') → b ≤ b'
  | .a _, b, st, tv, b', st', h => by simp only [unpack] at h; cases run_pure h; exact Nat.le_refl _
  | .sl z e es, b, st, tv, b', st', h => by
    simp only [unpack] at h
    split at h
    · cases run_pure h; exact Nat.le_refl _
    · obtain ⟨_, s1, h1, h2⟩ := run_bind_some h
      cases run_pure h2; omega
  | .bx z cs, b, st, tv, b', st', h => by
    simp only [unpack] at h
    obtain ⟨r, s1, h1, h2⟩ := run_bind_some h
    obtain ⟨_, s2, h3, h4⟩ := run_bind_some h2
    cases run_pure h4
    have := unpackL_le h1
    omega
  | .st cs, b, st, tv, b', st', h => by
    simp only [unpack] at h
    obtain ⟨r, s1, h1, h2⟩ := run_bind_some h
    cases run_pure h2
    exact unpackL_le h1
  | .tp cs, b, st, tv, b', st', h => by
    simp only [unpack] at h
    obtain ⟨r, s1, h1, h2⟩ := run_bind_some h
    cases run_pure h2
    exact unpackL_le h1
  | .fn f fs cs, b, st, tv, b', st', h => by
    simp only [unpack] at h
    obtain ⟨r, s1, h1, h2⟩ := run_bind_some h
    obtain ⟨r2, s2, h3, h4⟩ := run_bind_some h2
    cases run_pure h4
    exact Nat.le_trans (unpackL_le h1) (unpackL_le h3)
  | .ic t c, b, st, tv, b', st', h => by
    simp only [unpack] at h
    obtain ⟨r, s1, h1, h2⟩ := run_bind_some h
    cases run_pure h2
    exact unpack_le h1
  | .un, b, st, tv, b', st', h => by simp only [unpack] at h; cases run_pure h; exact Nat.le_refl _
theorem unpackL_le {q : Bool} : ∀ {cs : List CV} {b : Nat} {st : St} {r : List TV × Nat} {st' : St}, (unpackL q b cs).run st = some (r, st') → b ≤ r.2
  | [], b, st, r, st', h => by simp only [unpackL] at h; cases run_pure h; exact Nat.le_refl _
  | c :: cs, b, st, r, st', h => by
    simp only [unpackL] at h
    obtain ⟨r1, s1, h1, h2⟩ := run_bind_some h
    obtain ⟨r2, s2, h3, h4⟩ := run_bind_some h2
    cases run_pure h4
    exact Nat.le_trans (unpack_le (tv := r1.1) (b' := r1.2) h1) (unpackL_le (r := r2) h3)
end

/-- What was in the frame is there still. -/
structure Old (U : Nat → Prop) (ρ ρ' : Nat → Value) (F F' : Nat → Cells) (sh sh' : Shape) (st st' : St) : Prop where
  rho : ∀ i, U i → ρ' i = ρ i
  f : ∀ i, U i → F' i = F i
  shape : ∀ i, U i → sh' i = sh i
  node : ∀ i, U i → st'.node i = st.node i
  slots : st'.slots = st.slots

theorem Old.refl (U : Nat → Prop) (ρ : Nat → Value) (F : Nat → Cells) (sh : Shape) (st : St) : Old U ρ ρ F F sh sh st st := ⟨fun _ _ => rfl, fun _ _ => rfl, fun _ _ => rfl, fun _ _ => rfl, rfl⟩

theorem Old.trans {U U' : Nat → Prop} {ρ ρ1 ρ2 : Nat → Value} {F F1 F2 : Nat → Cells} {sh sh1 sh2 : Shape} {st st1 st2 : St} (h : Old U ρ ρ1 F F1 sh sh1 st st1) (h' : Old U' ρ1 ρ2 F1 F2 sh1 sh2 st1 st2) (hu : ∀ i, U i → U' i) :
    Old U ρ ρ2 F F2 sh sh2 st st2 :=
  ⟨fun i hi => (h'.rho i (hu i hi)).trans (h.rho i hi), fun i hi => (h'.f i (hu i hi)).trans (h.f i hi), fun i hi => (h'.shape i (hu i hi)).trans (h.shape i hi), fun i hi => (h'.node i (hu i hi)).trans (h.node i hi), h'.slots.trans h.slots⟩

theorem Old.tr {U : Nat → Prop} {ρ ρ' : Nat → Value} {F F' : Nat → Cells} {sh sh' : Shape} {st st' : St} (h : Old U ρ ρ' F F' sh sh' st st') {P : Program} {Z : Cells} {c : TV} {v : Value} (hc : TR P w Z ρ F sh c v) (hi : idsIn U c) : TR P w Z ρ' F' sh' c v :=
  hc.mono hi (fun _ _ _ cur _ _ hb => ⟨cur, hb, rfl, rfl⟩) h.rho (fun id hu ver e l hs => by rw [h.shape id hu] at hs; exact ⟨ver, hs, fun _ => rfl⟩) fun id hu _ _ _ _ _ => by rw [h.f id hu]; exact fun _ _ h => h

theorem Old.trl {U : Nat → Prop} {ρ ρ' : Nat → Value} {F F' : Nat → Cells} {sh sh' : Shape} {st st' : St} (h : Old U ρ ρ' F F' sh sh' st st') {P : Program} {Z : Cells} {cs : List TV} {vs : List Value} (hc : TRL P w Z ρ F sh cs vs) (hi : idsInL U cs) : TRL P w Z ρ' F' sh' cs vs :=
  .of hc.length fun i c u h1 h2 => h.tr (hc.get i c u h1 h2) (idsInL_get hi h1)

theorem GS.more (h : GS cx U X ρ F st sh V a w) {U' : Nat → Prop} (hu : ∀ i, U i → U' i) (hfr : ¬ U' (V - 1)) : GS cx U' X ρ F st sh V a w :=
  ⟨h.slots, fun t => (h.ids t).mono hu, h.nodes, fun i n hn => ⟨hu i (h.used i n hn).1, Node.idsOk_mono hu (h.used i n hn).2⟩, h.apart, h.apartX, h.mine, h.mineX, h.one, h.kept, h.zold, h.size, h.small, h.defers, h.agree, h.dead, h.fresh.1, hfr⟩

abbrev To (U : Nat → Prop) (b b' : Nat) : Nat → Prop := fun i => U i ∨ (b ≤ i ∧ i < b')

theorem to_fresh {b b' : Nat} (hfr : ¬ U (V - 1)) (hb : b' ≤ V - 1) : ¬ To U b b' (V - 1) := by
  rintro (h | ⟨_, h⟩)
  · exact hfr h
  · omega

mutual
theorem unpack_ok {q : Bool} : ∀ {c : CV} {U : Nat → Prop} {X : Cells} {ρ : Nat → Value} {F : Nat → Cells} {st : St} {sh : Shape} {b b' : Nat} {v : Value} {Fc : Cells} {tv : TV} {st' : St}, GS cx U X ρ F st sh V a w → (∀ i, b ≤ i → i < V → ¬ U i) →
    CR cx.P w cx.Z c v Fc → (∀ b o, Fc b o → X b o) → (unpack q b c).run st = some ((tv, b'), st') → b' ≤ V - 1 →
    ∃ ρ' F' sh', GS cx (To U b b') (fun b o => X b o ∧ ¬ Fc b o) ρ' F' st' sh' V a w ∧ TR cx.P w cx.Z ρ' F' sh' tv v ∧ idsIn (To U b b') tv ∧ Old U ρ ρ' F F' sh sh' st st'
  | .a u, U, X, ρ, F, st, sh, b, b', v, Fc, tv, st', h, hb, hc, hF, hr, hle => by
    simp only [unpack] at hr
    simp only [CR] at hc
    cases run_pure hr
    obtain ⟨rfl, he⟩ := hc
    exact ⟨ρ, F, sh, (h.less fun _ _ hx => hx.1).more (fun _ hi => .inl hi) (to_fresh h.fresh.2 hle), .a _, trivial, .refl _ _ _ _ _⟩
  | .sl z e es, U, X, ρ, F, st, sh, b, b', v, Fc, tv, st', h, hb, hc, hF, hr, hle => by
    simp only [unpack] at hr
    simp only [CR] at hc
    split at hr
    · rename_i hz
      rw [if_pos hz] at hc
      cases run_pure hr
      exact ⟨ρ, F, sh, (h.less fun _ _ hx => hx.1).more (fun _ hi => .inl hi) (to_fresh h.fresh.2 hle), .sz _ _ _ hc.1, trivial, .refl _ _ _ _ _⟩
    · rename_i hz
      rw [if_neg hz] at hc
      obtain ⟨_, s1, h1, h2⟩ := run_bind_some hr
      cases run_setN h1
      cases run_pure h2
      have hbU : ¬ U b := hb b (Nat.le_refl _) (by omega)
      have hnone : st.node b = none := by
        cases hn : st.node b with
        | none => rfl
        | some n => exact absurd (h.used b n hn).1 hbU
      have hne : ∀ i, U i → i ≠ b := fun i hi e => hbU (e ▸ hi)
      have hp := h.place (id := b) (n := .sl q 0 e es) (v' := v) (Fn := Fc) (X' := fun b o => X b o ∧ ¬ Fc b o) (sh' := fun j => if j = b then some (0, e, es.length) else sh j) hnone (by omega) (fun hu => absurd hu hbU) hc.one
        (by unfold shapeOf; rw [St.setNode_node, if_pos rfl, if_pos rfl]) (fun j hj => if_neg hj) (fun hu => absurd hu hbU) hF (fun _ _ hx => hx.1) (fun b o hf hx => hx.2 hf) (.sl q 0 e es (by rw [upd_same, upd_same]; exact hc)) (.inl rfl)
      refine ⟨_, _, _, hp.more (fun i hi => hi.imp (fun h => h) fun e => by subst e; omega) (to_fresh h.fresh.2 hle), ?_, .inr ⟨Nat.le_refl _, by omega⟩, fun i hi => upd_ne _ _ (hne i hi), fun i hi => upd_ne _ _ (hne i hi), fun i hi => if_neg (hne i hi), fun i hi => ?_, rfl⟩
      · have := TR.rf (P := cx.P) (w := w) (Z := cx.Z) (ρ := upd ρ b v) (F := upd F b Fc) (sh := fun j => if j = b then some (0, e, es.length) else sh j) b
        rwa [upd_same] at this
      · exact (St.setNode_node st b i _).trans (if_neg fun e => hne i hi e.symm)
  | .bx z cs, U, X, ρ, F, st, sh, b, b', v, Fc, tv, st', h, hb, hc, hF, hr, hle => by
    simp only [unpack] at hr
    simp only [CR] at hc
    obtain ⟨b0, off, cur, t, Fi, rfl, h2, h3, h4, h5, h6, h7, h8⟩ := hc
    obtain ⟨r, s1, hr1, hr2⟩ := run_bind_some hr
    obtain ⟨_, s2, hr3, hr4⟩ := run_bind_some hr2
    cases run_setN hr3
    cases run_pure hr4
    have hle1 := unpackL_le hr1
    have hbU : ¬ U b := hb b (Nat.le_refl _) (by omega)
    obtain ⟨ρ1, F1, sh1, g1, t1, i1, o1⟩ := unpackL_ok h (b := b + 1) (fun i hi hi2 => hb i (by omega) hi2) h5 (fun b' o' hf => hF b' o' ((h8 b' o').2 (.inr hf))) hr1 hle
    have hbU1 : ¬ To U (b + 1) r.2 b := by
      rintro (h | ⟨h, _⟩)
      · exact hbU h
      · omega
    have hnone : s1.node b = none := by
      cases hn : s1.node b with
      | none => rfl
      | some n => exact absurd (g1.used b n hn).1 hbU1
    have hne : ∀ i, To U (b + 1) r.2 i → i ≠ b := fun i hi e => hbU1 (e ▸ hi)
    let Fn : Cells := fun b' o' => z = false ∧ b' = b0 ∧ off ≤ o' ∧ o' < off + cs.length
    have hFn : ∀ b' o', Fn b' o' → X b' o' ∧ ¬ Fi b' o' := by
      rintro b' o' ⟨hz, rfl, ho1, ho2⟩
      exact ⟨hF _ _ ((h8 _ _).2 (.inl ⟨hz, rfl, ho1, ho2⟩)), h7 hz o' ho1 ho2⟩
    have hlen : r.1.length = cs.length := by rw [← t1.length]; simp; omega
    have hX : ∀ b' o', (X b' o' ∧ ¬ Fc b' o') → (X b' o' ∧ ¬ Fi b' o') := fun b' o' hx => ⟨hx.1, fun hf => hx.2 ((h8 b' o').2 (.inr hf))⟩
    have hp := g1.place (id := b) (n := .bx z r.1) (v' := .pointer (some ⟨b0, off, none⟩)) (Fn := Fn) (X' := fun b o => X b o ∧ ¬ Fc b o) (sh' := fun j => if j = b then none else sh1 j) hnone (by omega) (fun hu => absurd hu hbU1) rfl
      (by unfold shapeOf; rw [St.setNode_node, if_pos rfl, if_pos rfl]) (fun j hj => if_neg hj) (fun hu => absurd hu hbU1) hFn hX (fun b' o' hf hx => hx.2 ((h8 b' o').2 (.inl hf)))
      (.bx z r.1 b0 off cur t (upd_same _ _ _) h2 (by omega) (by intro e; rw [e] at hlen; exact h4 (List.eq_nil_of_length_eq_zero hlen.symm))
        (fun i c hi u hu => by
          have := t1.get i c u hi (by
            rw [List.getElem?_take, if_pos (by rw [← hlen]; exact (List.getElem?_eq_some_iff.1 hi).1), List.getElem?_drop, Array.getElem?_toList]
            exact hu)
          exact this.mono (idsInL_get i1 hi) (fun _ _ _ cur _ _ hb => ⟨cur, hb, rfl, rfl⟩) (fun j hj => upd_ne _ _ (hne j hj)) (fun j hj ver e l hs => by
            rw [if_neg (hne j hj)] at hs; exact ⟨ver, hs, fun _ => rfl⟩) fun j hj _ _ _ _ _ => by rw [upd_ne _ _ (hne j hj)]; exact fun _ _ h => h)
        (fun b' o' => by rw [upd_same, hlen]) (fun hz i hi => (h6 hz).2 i (by omega)))
      (idsInL.mono (fun i hi => .inl hi) i1)
    refine ⟨_, _, _, hp.more (fun i hi => ?_) (to_fresh h.fresh.2 hle), ?_, .inr ⟨Nat.le_refl _, by omega⟩, ?_⟩
    · rcases hi with (hi | hi) | rfl
      · exact .inl hi
      · exact .inr ⟨by omega, hi.2⟩
      · exact .inr ⟨Nat.le_refl _, by omega⟩
    · have := TR.rf (P := cx.P) (w := w) (Z := cx.Z) (ρ := upd ρ1 b (.pointer (some ⟨b0, off, none⟩))) (F := upd F1 b Fn) (sh := fun j => if j = b then none else sh1 j) b
      rwa [upd_same] at this
    · refine o1.trans (U' := To U (b + 1) r.2) ⟨fun i hi => upd_ne _ _ (hne i hi), fun i hi => upd_ne _ _ (hne i hi), fun i hi => if_neg (hne i hi), fun i hi => ?_, rfl⟩ fun i hi => .inl hi
      exact (St.setNode_node s1 b i _).trans (if_neg fun e => hne i hi e.symm)
  | .st cs, U, X, ρ, F, st, sh, b, b', v, Fc, tv, st', h, hb, hc, hF, hr, hle => by
    simp only [unpack] at hr
    simp only [CR] at hc
    obtain ⟨us, rfl, h2⟩ := hc
    obtain ⟨r, s1, hr1, hr2⟩ := run_bind_some hr
    cases run_pure hr2
    obtain ⟨ρ1, F1, sh1, g1, t1, i1, o1⟩ := unpackL_ok h hb h2 hF hr1 hle
    exact ⟨ρ1, F1, sh1, g1, .st _ us (by rw [← Array.length_toList]; exact t1.length) fun i c u k1 k2 => t1.get i c u k1 (by simpa using k2), i1, o1⟩
  | .tp cs, U, X, ρ, F, st, sh, b, b', v, Fc, tv, st', h, hb, hc, hF, hr, hle => by
    simp only [unpack] at hr
    simp only [CR] at hc
    obtain ⟨us, rfl, h2⟩ := hc
    obtain ⟨r, s1, hr1, hr2⟩ := run_bind_some hr
    cases run_pure hr2
    obtain ⟨ρ1, F1, sh1, g1, t1, i1, o1⟩ := unpackL_ok h hb h2 hF hr1 hle
    exact ⟨ρ1, F1, sh1, g1, .tp _ us (by rw [← Array.length_toList]; exact t1.length) fun i c u k1 k2 => t1.get i c u k1 (by simpa using k2), i1, o1⟩
  | .fn f fs cs, U, X, ρ, F, st, sh, b, b', v, Fc, tv, st', h, hb, hc, hF, hr, hle => by
    simp only [unpack] at hr
    simp only [CR] at hc
    obtain ⟨xs, us, G1, G2, rfl, h2, h3, h4, h5⟩ := hc
    obtain ⟨p, s1, hr1, hr2⟩ := run_bind_some hr
    obtain ⟨r, s2, hr3, hr4⟩ := run_bind_some hr2
    cases run_pure hr4
    have hle1 := unpackL_le hr1
    have hle2 := unpackL_le hr3
    obtain ⟨ρ1, F1, sh1, g1, t1, i1, o1⟩ := unpackL_ok h hb h2 (fun b o hf => hF b o ((h5 b o).2 (.inl hf))) hr1 (by omega)
    obtain ⟨ρ2, F2, sh2, g2, t2, i2, o2⟩ := unpackL_ok g1 (fun i hi hi2 => by
      rintro (hu | hu)
      · exact hb i (by omega) hi2 hu
      · omega) h3 (fun b o hf => ⟨hF b o ((h5 b o).2 (.inr hf)), fun hg => h4 b o hg hf⟩) hr3 hle
    have hsub : ∀ i, To (To U b p.2) p.2 r.2 i → To U b r.2 i := by
      rintro i ((hi | hi) | hi)
      · exact .inl hi
      · exact .inr ⟨hi.1, by omega⟩
      · exact .inr ⟨by omega, hi.2⟩
    refine ⟨ρ2, F2, sh2, (g2.less fun b o hx => ⟨⟨hx.1, fun hg => hx.2 ((h5 b o).2 (.inl hg))⟩, fun hg => hx.2 ((h5 b o).2 (.inr hg))⟩).more hsub (to_fresh h.fresh.2 hle), ?_, ⟨idsInL.mono (fun i hi => hsub i (.inl hi)) i1, idsInL.mono hsub i2⟩, o1.trans o2 fun i hi => .inl hi⟩
    have t1' := o2.trl t1 i1
    exact .fn f p.1 r.1 xs us (by rw [← Array.length_toList]; exact t1'.length) (by rw [← Array.length_toList]; exact t2.length) (fun i c u k1 k2 => t1'.get i c u k1 (by simpa using k2)) fun i c u k1 k2 => t2.get i c u k1 (by simpa using k2)
  | .ic t c, U, X, ρ, F, st, sh, b, b', v, Fc, tv, st', h, hb, hc, hF, hr, hle => by
    simp only [unpack] at hr
    simp only [CR] at hc
    obtain ⟨u, rfl, h2⟩ := hc
    obtain ⟨r, s1, hr1, hr2⟩ := run_bind_some hr
    cases run_pure hr2
    obtain ⟨ρ1, F1, sh1, g1, t1, i1, o1⟩ := unpack_ok h hb h2 hF hr1 hle
    exact ⟨ρ1, F1, sh1, g1, .ic t _ u t1, i1, o1⟩
  | .un, U, X, ρ, F, st, sh, b, b', v, Fc, tv, st', h, hb, hc, hF, hr, hle => by
    simp only [unpack] at hr
    cases run_pure hr
    exact ⟨ρ, F, sh, (h.less fun _ _ hx => hx.1).more (fun _ hi => .inl hi) (to_fresh h.fresh.2 hle), .un _, trivial, .refl _ _ _ _ _⟩
theorem unpackL_ok {q : Bool} : ∀ {cs : List CV} {U : Nat → Prop} {X : Cells} {ρ : Nat → Value} {F : Nat → Cells} {st : St} {sh : Shape} {b : Nat} {vs : List Value} {Fc : Cells} {r : List TV × Nat} {st' : St}, GS cx U X ρ F st sh V a w → (∀ i, b ≤ i → i < V → ¬ U i) →
    CRL cx.P w cx.Z cs vs Fc → (∀ b o, Fc b o → X b o) → (unpackL q b cs).run st = some (r, st') → r.2 ≤ V - 1 →
    ∃ ρ' F' sh', GS cx (To U b r.2) (fun b o => X b o ∧ ¬ Fc b o) ρ' F' st' sh' V a w ∧ TRL cx.P w cx.Z ρ' F' sh' r.1 vs ∧ idsInL (To U b r.2) r.1 ∧ Old U ρ ρ' F F' sh sh' st st'
  | [], U, X, ρ, F, st, sh, b, vs, Fc, r, st', h, hb, hc, hF, hr, hle => by
    simp only [unpackL] at hr
    simp only [CRL] at hc
    cases run_pure hr
    obtain ⟨rfl, _⟩ := hc
    exact ⟨ρ, F, sh, (h.less fun _ _ hx => hx.1).more (fun _ hi => .inl hi) (to_fresh h.fresh.2 hle), .nil, trivial, .refl _ _ _ _ _⟩
  | c :: cs, U, X, ρ, F, st, sh, b, vs, Fc, r, st', h, hb, hc, hF, hr, hle => by
    simp only [unpackL] at hr
    simp only [CRL] at hc
    obtain ⟨v, vs', G1, G2, rfl, h2, h3, h4, h5⟩ := hc
    obtain ⟨p, s1, hr1, hr2⟩ := run_bind_some hr
    obtain ⟨r2, s2, hr3, hr4⟩ := run_bind_some hr2
    cases run_pure hr4
    have hle1 := unpack_le (tv := p.1) (b' := p.2) hr1
    have hle2 := unpackL_le hr3
    obtain ⟨ρ1, F1, sh1, g1, t1, i1, o1⟩ := unpack_ok (tv := p.1) (b' := p.2) h hb h2 (fun b o hf => hF b o ((h5 b o).2 (.inl hf))) hr1 (by simp only at hle; omega)
    obtain ⟨ρ2, F2, sh2, g2, t2, i2, o2⟩ := unpackL_ok g1 (fun i hi hi2 => by
      rintro (hu | hu)
      · exact hb i (by omega) hi2 hu
      · omega) h3 (fun b o hf => ⟨hF b o ((h5 b o).2 (.inr hf)), fun hg => h4 b o hg hf⟩) hr3 hle
    have hsub : ∀ i, To (To U b p.2) p.2 r2.2 i → To U b r2.2 i := by
      rintro i ((hi | hi) | hi)
      · exact .inl hi
      · exact .inr ⟨hi.1, by omega⟩
      · exact .inr ⟨by omega, hi.2⟩
    exact ⟨ρ2, F2, sh2, (g2.less fun b o hx => ⟨⟨hx.1, fun hg => hx.2 ((h5 b o).2 (.inl hg))⟩, fun hg => hx.2 ((h5 b o).2 (.inr hg))⟩).more hsub (to_fresh h.fresh.2 hle), .cons (o2.tr t1 i1) t2, ⟨idsIn.mono (fun i hi => hsub i (.inl hi)) i1, idsInL.mono hsub i2⟩, o1.trans o2 fun i hi => .inl hi⟩
end

end Go.Proofs.Ytkoljcjliihiiaa.VM

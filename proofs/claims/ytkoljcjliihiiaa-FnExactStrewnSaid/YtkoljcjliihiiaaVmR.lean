/- The interpreter 'VM': calls. -/
import Derived.Test.YtkoljcjliihiiaaVmQ
namespace Go.Proofs.Ytkoljcjliihiiaa.VM
open Go

variable {cx : Cx} {U : Nat → Prop} {X : Cells} {ρ : Nat → Value} {F : Nat → Cells} {st : St} {sh : Shape} {V : Nat} {a : Act} {w : World}

/-! ### arguments -/
def PkM (R : Nat → Nat → Nat → Prop) : List Md → List TV → List CV → Prop
  | .ro _ :: ms, _ :: xs, _ :: cs => PkM R ms xs cs
  | .mut _ :: ms, x :: xs, c :: cs => Pk R x c ∧ PkM R ms xs cs
  | _, _, _ => True

theorem PkM.mono {R R' : Nat → Nat → Nat → Prop} (hR : ∀ id e l, R id e l → R' id e l) : ∀ {ms : List Md} {xs : List TV} {ys : List CV}, PkM R ms xs ys → PkM R' ms xs ys
  | [], xs, ys, h => by cases xs <;> cases ys <;> simp only [PkM]
  | m :: ms, [], ys, h => by cases m <;> cases ys <;> simp only [PkM]
  | m :: ms, x :: xs, [], h => by cases m <;> simp only [PkM]
  | .ro _ :: ms, x :: xs, y :: ys, h => by simp only [PkM] at h ⊢; exact PkM.mono hR h
  | .mut _ :: ms, x :: xs, y :: ys, h => by simp only [PkM] at h ⊢; exact ⟨Pk.mono hR h.1, PkM.mono hR h.2⟩

theorem lend0_ok {keeps : Bool} {X : Cells} {st : St} {sh : Shape} {c : TV} {v : Value} {y : CV} {st' : St} (h : GS cx U X ρ F st sh V a w) (hc : TR cx.P w cx.Z ρ F sh c v) (hi : idsIn U c) (hr : (lend0 keeps c).run st = some (y, st')) :
    ∃ Fc sh', CR cx.P w cx.Z y v Fc ∧ GS cx U (fun b o => X b o ∨ Fc b o) ρ F st' sh' V a w ∧ Apart Fc X ∧ Away U V sh sh' st st' ∧ Pk (Rl U ρ sh' V) c y := by
  unfold lend0 at hr
  split at hr
  · rename_i hri
    cases run_pure hr
    refine ⟨Nil, sh, by simp only [CR]; exact fun _ _ h => h, h.less fun _ _ hx => hx.elim (fun h => h) fun h => h.elim, fun _ _ h => h.elim, .refl _ _ _ _, ?_⟩
    cases c <;> first | (cases hri; done) | (unfold Pk; trivial)
  · exact pack_ok depth h hc hi hr

theorem lend_ok {keeps : Bool} : ∀ (ms : List Md) {X : Cells} {st : St} {sh : Shape} {xs : List TV} {vs : List Value} {ys : List CV} {st' : St}, GS cx U X ρ F st sh V a w → TRL cx.P w cx.Z ρ F sh xs vs → idsInL U xs → (lend keeps ms xs).run st = some (ys, st') →
    ∃ Fc sh', CRL cx.P w cx.Z ys vs Fc ∧ GS cx U (fun b o => X b o ∨ Fc b o) ρ F st' sh' V a w ∧ Apart Fc X ∧ Away U V sh sh' st st' ∧ PkM (Rl U ρ sh' V) ms xs ys
  | [], X, st, sh, xs, vs, ys, st', h, hx, hi, hr => by
    cases hx with
    | nil =>
      simp only [lend] at hr
      cases run_pure hr
      exact ⟨Nil, sh, crl_nil, h.less fun _ _ hx => hx.elim (fun h => h) fun h => h.elim, fun _ _ h => h.elim, .refl _ _ _ _, by simp only [PkM]⟩
    | cons => simp only [lend] at hr; exact (run_fail hr).elim
  | .ro n :: ms, X, st, sh, xs, vs, ys, st', h, hx, hi, hr => by
    cases hx with
    | nil => simp only [lend] at hr; exact (run_fail hr).elim
    | @cons c v cs vs h1 hs =>
      simp only [lend] at hr
      obtain ⟨ys', s2, h3, h4⟩ := run_bind_some hr
      cases run_pure h4
      obtain ⟨F2, sh2, l1, l2, l3, l4, l5⟩ := lend_ok ms h hs hi.2 h3
      refine ⟨F2, sh2, ?_, l2, l3, l4, by simp only [PkM]; exact l5⟩
      simp only [CRL, CR]
      exact ⟨v, vs, Nil, F2, rfl, fun _ _ h => h, l1, fun _ _ h => h.elim, fun b o => ⟨.inr, fun h => h.elim (fun h => h.elim) fun h => h⟩⟩
  | .mut n :: ms, X, st, sh, xs, vs, ys, st', h, hx, hi, hr => by
    cases hx with
    | nil => simp only [lend] at hr; exact (run_fail hr).elim
    | @cons c v cs vs h1 hs =>
      simp only [lend] at hr
      obtain ⟨y, s1, k1, k2⟩ := run_bind_some hr
      obtain ⟨ys', s2, h3, h4⟩ := run_bind_some k2
      cases run_pure h4
      obtain ⟨F1, sh1, k1, k2, k3, k4, k5⟩ := lend0_ok h h1 hi.1 k1
      have hs' : TRL cx.P w cx.Z ρ F sh1 cs vs := .of hs.length fun i c u k1 k2 => (hs.get i c u k1 k2).shape (idsInL_get hi.2 k1) k4.shape
      obtain ⟨F2, sh2, l1, l2, l3, l4, l5⟩ := lend_ok ms k2 hs' hi.2 h3
      refine ⟨fun b o => F1 b o ∨ F2 b o, sh2, ?_, l2.less fun b o hx => hx.elim (fun h => .inl (.inl h)) fun h => h.elim (fun h => .inl (.inr h)) .inr, ?_, k4.trans l4, ?_⟩
      · simp only [CRL]
        exact ⟨v, vs, F1, F2, rfl, k1, l1, fun b o h1 h2 => l3 b o h2 (.inr h1), fun _ _ => Iff.rfl⟩
      · rintro b o (hf | hf) hx
        · exact k3 b o hf hx
        · exact l3 b o hf (.inl hx)
      · simp only [PkM]
        exact ⟨Pk.mono l4.rl k5, l5⟩

/-! ### slices in slices are lent -/
/-- What is told of a slice in a slice that is lent, from the lending on; and once what comes back comes back. -/
def Hl (P : Program) (w : World) (ρ : Nat → Value) (F : Nat → Cells) (st : St) (V : Nat) (id : Nat) (p : List (Nat × Nat × Nat)) (v : Value) : Prop := (∃ q e es, st.node id = some (.sl q V e es)) ∧ Nav P w (F id) (ρ id) p v
def Hd (P : Program) (w : World) (U : Nat → Prop) (ρ : Nat → Value) (F : Nat → Cells) (st : St) (id : Nat) (p : List (Nat × Nat × Nat)) (v : Value) : Prop := U id ∧ (st.node id).isSome = true ∧ Nav P w (F id) (ρ id) p v
def HkM (H : Nat → List (Nat × Nat × Nat) → Value → Prop) : List Md → List TV → List Value → Prop
  | .ro _ :: ms, _ :: xs, _ :: vs => HkM H ms xs vs
  | .mut _ :: ms, x :: xs, v :: vs => (∀ id ver p, x = .ri id ver p → H id p v) ∧ HkM H ms xs vs
  | _, _, _ => True
theorem HkM.mono {H H' : Nat → List (Nat × Nat × Nat) → Value → Prop} (hH : ∀ id p v, H id p v → H' id p v) : ∀ {ms : List Md} {xs : List TV} {vs : List Value}, HkM H ms xs vs → HkM H' ms xs vs
  | [], xs, vs, h => by cases xs <;> cases vs <;> simp only [HkM]
  | m :: ms, [], vs, h => by cases m <;> cases vs <;> simp only [HkM]
  | m :: ms, x :: xs, [], h => by cases m <;> simp only [HkM]
  | .ro _ :: ms, x :: xs, v :: vs, h => by simp only [HkM] at h ⊢; exact HkM.mono hH h
  | .mut _ :: ms, x :: xs, v :: vs, h => by simp only [HkM] at h ⊢; exact ⟨fun id ver p e => hH _ _ _ (h.1 id ver p e), HkM.mono hH h.2⟩

structure Carved (U : Nat → Prop) (V : Nat) (F F' : Nat → Cells) (sh sh' : Shape) (st st' : St) : Prop where
  shape : ShapeKept U sh sh'
  keep : ∀ j ver e l, sh' j = some (ver, e, l) → ver ≠ V → sh j = sh' j ∧ F' j = F j
  dead : ∀ j e l, sh j = some (V, e, l) → sh' j = some (V, e, l)
  same : ∀ j q e es, st.node j = some (.sl q V e es) → st'.node j = st.node j ∧ F' j = F j
  slots : st'.slots = st.slots

theorem Carved.refl (U : Nat → Prop) (V : Nat) (F : Nat → Cells) (sh : Shape) (st : St) : Carved U V F F sh sh st st := ⟨.refl _ _, fun _ _ _ _ _ _ => ⟨rfl, rfl⟩, fun _ _ _ h => h, fun _ _ _ _ _ => ⟨rfl, rfl⟩, rfl⟩
theorem Carved.trans {F1 F2 : Nat → Cells} {sh1 sh2 : Shape} {st1 st2 : St} (h : Carved U V F F1 sh sh1 st st1) (h' : Carved U V F1 F2 sh1 sh2 st1 st2) : Carved U V F F2 sh sh2 st st2 := by
  refine ⟨h.shape.trans h'.shape, fun j ver e l k1 k2 => ?_, fun j e l k => h'.dead j e l (h.dead j e l k), fun j q e es k => ?_, h'.slots.trans h.slots⟩
  · obtain ⟨m1, m2⟩ := h'.keep j ver e l k1 k2
    obtain ⟨m3, m4⟩ := h.keep j ver e l (m1.trans k1) k2
    exact ⟨m3.trans m1, m2.trans m4⟩
  · obtain ⟨k1, k2⟩ := h.same j q e es k
    obtain ⟨k3, k4⟩ := h'.same j q e es (k1.trans k)
    exact ⟨k3.trans k1, k4.trans k2⟩
theorem Carved.tr {F' : Nat → Cells} {sh' : Shape} {st' : St} (h : Carved U V F F' sh sh' st st') (hV : V ≠ 0 ∧ ¬ U (V - 1)) {P : Program} {Z : Cells} {c : TV} {v : Value} (hc : TR P w Z ρ F sh c v) (hi : idsIn U c) : TR P w Z ρ F' sh' c v :=
  hc.mono hi (fun _ _ _ cur _ _ hb => ⟨cur, hb, rfl, rfl⟩) (fun _ _ => rfl) h.shape fun id _ ver e l hs hv => by
    rw [(h.keep id ver e l hs fun e => by subst e; exact hv.elim hV.1 hV.2).2]; exact fun _ _ h => h
theorem Carved.trl {F' : Nat → Cells} {sh' : Shape} {st' : St} (h : Carved U V F F' sh sh' st st') (hV : V ≠ 0 ∧ ¬ U (V - 1)) {P : Program} {Z : Cells} {cs : List TV} {vs : List Value} (hc : TRL P w Z ρ F sh cs vs) (hi : idsInL U cs) : TRL P w Z ρ F' sh' cs vs :=
  .of hc.length fun i c u h1 h2 => h.tr hV (hc.get i c u h1 h2) (idsInL_get hi h1)
theorem Carved.hl {F' : Nat → Cells} {sh' : Shape} {st' : St} (h : Carved U V F F' sh sh' st st') {P : Program} {id : Nat} {p : List (Nat × Nat × Nat)} {v : Value} (hh : Hl P w ρ F st V id p v) : Hl P w ρ F' st' V id p v := by
  obtain ⟨⟨q, e, es, k⟩, hn⟩ := hh
  obtain ⟨k1, k2⟩ := h.same id q e es k
  exact ⟨⟨q, e, es, k1.trans k⟩, by rw [k2]; exact hn⟩
theorem Carved.rl {F' : Nat → Cells} {sh' : Shape} {st' : St} (h : Carved U V F F' sh sh' st st') : ∀ id e l, Rl U ρ sh V id e l → Rl U ρ sh' V id e l := fun id e l hr => ⟨hr.1, h.dead id e l hr.2.1, hr.2.2⟩

theorem lend1_ok {keeps : Bool} {st : St} {sh : Shape} {x : TV} {v : Value} {y y' : CV} {F1 : Cells} {st' : St} (h : GS cx U X ρ F st sh V a w) (hx : TR cx.P w cx.Z ρ F sh x v) (hi : idsIn U x) (hy : CR cx.P w cx.Z y v F1) (hF1 : ∀ b o, F1 b o → X b o) (hr : (lend1 keeps V x y).run st = some (y', st')) :
    ∃ X' G1 F' sh', GS cx U X' ρ F' st' sh' V a w ∧ CR cx.P w cx.Z y' v G1 ∧ (∀ b o, G1 b o → X' b o) ∧ (∀ b o, X b o → X' b o) ∧ (∀ b o, G1 b o → F1 b o ∨ ¬ X b o) ∧ Carved U V F F' sh sh' st st' ∧
      (∀ id ver p, x = .ri id ver p → Hl cx.P w ρ F' st' V id p v) ∧ ∀ R, Pk R x y → Pk R x y' := by
  have triv : (∀ id ver p, x ≠ .ri id ver p) → (M.pure y).run st = some (y', st') → ∃ X' G1 F' sh', GS cx U X' ρ F' st' sh' V a w ∧ CR cx.P w cx.Z y' v G1 ∧ (∀ b o, G1 b o → X' b o) ∧ (∀ b o, X b o → X' b o) ∧ (∀ b o, G1 b o → F1 b o ∨ ¬ X b o) ∧ Carved U V F F' sh sh' st st' ∧
      (∀ id ver p, x = .ri id ver p → Hl cx.P w ρ F' st' V id p v) ∧ ∀ R, Pk R x y → Pk R x y' := by
    intro hne hr
    cases run_pure hr
    exact ⟨X, F1, F, sh, h, hy, hF1, fun _ _ h => h, fun _ _ h => .inl h, .refl _ _ _ _ _, fun id ver p e => absurd e (hne id ver p), fun _ h => h⟩
  cases x with
  | ri id ver p =>
    simp only [lend1] at hr
    obtain ⟨nd, s1, h1, h2⟩ := run_bind_some hr
    cases run_getN h1
    split at h2
    · rename_i q ver' e es hn
      split at h2
      · exact (run_fail h2).elim
      · rename_i hcond
        have hver : ver' = ver := by
          by_cases e : ver' = ver
          · exact e
          · exact absurd (.inr e) hcond
        subst hver
        split at h2
        · rename_i r es1 hg hp
          obtain ⟨_, s2, h3, h4⟩ := run_bind_some h2
          cases run_setN h3
          cases run_pure h4
          have hN := h.nodes id _ hn
          have hsh : sh id = some (ver', e, es.length) := by rw [h.agree id _ hn]; unfold shapeOf; rw [hn]
          have hsome : (st.node id).isSome = true := by rw [hn]; rfl
          have hkn : ver' ≠ V := by
            rintro rfl
            exact hi.2.elim h.fresh.1 h.fresh.2
          cases hN with
          | sl _ _ _ _ hd =>
            cases hx with
            | ri _ _ _ _ _ hnav =>
              obtain ⟨G0, G1, k1, k2, k3, k4, k5, k6⟩ := hd.carve p hg hp (hnav e _ hsh)
              have hsub0 : ∀ b o, G0 b o → F id b o := fun b o hg => (k3 b o).2 (.inl hg)
              have hsub1 : ∀ b o, G1 b o → F id b o := fun b o hg => (k3 b o).2 (.inr hg)
              have hsh' : dropSh sh V id id = some (V, e, es.length) := by unfold dropSh; rw [if_pos rfl, hsh]; rfl
              have hch := h.change (U' := U) (id := id) (o := some (.sl q V e es1)) (v' := ρ id) (Fn := G0) (X' := fun b o => X b o ∨ G1 b o) (sh' := dropSh sh V id) (fun _ h => h) h.fresh.2 (fun _ => rfl) (h.one id) (dropSh_kept h.fresh id)
                (fun _ ver1 e1 l1 hs1 hv1 => by
                  rw [hsh'] at hs1; cases hs1
                  exact (hv1.elim h.fresh.1 h.fresh.2).elim)
                (fun n hn' => by
                  cases hn'
                  refine ⟨?_, (h.used id _ hn).1, .inr (.inr rfl)⟩
                  refine .sl q V e es1 ?_
                  rw [upd_same, upd_same]; exact k1)
                (fun _ => ⟨fun b o hg => h.mine id hsome b o (hsub0 b o hg), fun i hi' his b o hf hg => h.apart i id hi' his hsome b o hf (hsub0 b o hg), fun b o hg hx => hx.elim (fun hx => h.apartX id hsome b o (hsub0 b o hg) hx) fun hx => k4 b o hg hx⟩)
                (fun b o hx => hx.elim (h.mineX b o) fun hx => ⟨(h.mine id hsome b o (hsub1 b o hx)).1, (h.mine id hsome b o (hsub1 b o hx)).2, h.inside hsome b o (hsub1 b o hx)⟩)
                (fun i hi' his b o hf hx => hx.elim (fun hx => h.apartX i his b o hf hx) fun hx => h.apart i id hi' his hsome b o hf (hsub1 b o hx))
                (fun n hn' => by cases hn'; rw [hsh']; unfold shapeOf; rw [St.setNode_node, if_pos rfl]; simp only [k6])
                (fun j hj => by unfold dropSh; rw [if_neg hj]) (fun hh => by cases hh)
              rw [upd_self] at hch
              refine ⟨_, G1, _, _, hch, by simp only [CR]; exact k2, fun b o hg => .inr hg, fun b o hx => .inl hx, fun b o hg => .inr fun hx => h.apartX id hsome b o (hsub1 b o hg) hx, ?_, ?_, fun R _ => by simp only [Pk]⟩
              · refine ⟨dropSh_kept h.fresh id, fun j ver1 e1 l1 hs hv => ?_, fun j e1 l1 hs => ?_, fun j q1 e1 es2 hs => ?_, rfl⟩
                · by_cases ej : j = id
                  · subst ej; rw [hsh'] at hs; cases hs; exact absurd rfl hv
                  · exact ⟨by unfold dropSh; rw [if_neg ej], upd_ne _ _ ej⟩
                · by_cases ej : j = id
                  · subst ej; rw [hsh] at hs; cases hs; exact absurd rfl hkn
                  · unfold dropSh; rw [if_neg ej]; exact hs
                · by_cases ej : j = id
                  · subst ej; rw [hn] at hs; cases hs; exact absurd rfl hkn
                  · exact ⟨by rw [node_set, if_neg (fun e => ej e.symm)], upd_ne _ _ ej⟩
              · rintro id' ver1 p' e1
                cases e1
                exact ⟨⟨q, e, es1, by rw [node_set, if_pos rfl]⟩, by rw [upd_same]; exact k5⟩
        · exact (run_fail h2).elim
    · exact (run_fail h2).elim
  | _ => simp only [lend1] at hr; exact triv (by intro id ver p e; cases e) hr

theorem lendI_ok {keeps : Bool} : ∀ (ms : List Md) {X : Cells} {F : Nat → Cells} {st : St} {sh : Shape} {xs : List TV} {vs : List Value} {ys ys' : List CV} {Fc : Cells} {st' : St}, GS cx U X ρ F st sh V a w → TRL cx.P w cx.Z ρ F sh xs vs → idsInL U xs → CRL cx.P w cx.Z ys vs Fc → (∀ b o, Fc b o → X b o) →
    PkM (Rl U ρ sh V) ms xs ys → (lendI keeps V ms xs ys).run st = some (ys', st') →
    ∃ X' Fc' F' sh', GS cx U X' ρ F' st' sh' V a w ∧ CRL cx.P w cx.Z ys' vs Fc' ∧ (∀ b o, Fc' b o → X' b o) ∧ (∀ b o, X b o → X' b o) ∧ (∀ b o, Fc' b o → Fc b o ∨ ¬ X b o) ∧ Carved U V F F' sh sh' st st' ∧ HkM (Hl cx.P w ρ F' st' V) ms xs vs ∧ PkM (Rl U ρ sh' V) ms xs ys'
  | [], X, F, st, sh, xs, vs, ys, ys', Fc, st', h, hx, hi, hy, hF, hp, hr => by
    cases hx with
    | nil =>
      cases ys with
      | nil => simp only [lendI] at hr; cases run_pure hr; exact ⟨X, Fc, F, sh, h, hy, hF, fun _ _ h => h, fun _ _ h => .inl h, .refl _ _ _ _ _, by simp only [HkM], by simp only [PkM]⟩
      | cons => simp only [lendI] at hr; exact (run_fail hr).elim
    | cons => simp only [lendI] at hr; exact (run_fail hr).elim
  | m :: ms, X, F, st, sh, xs, vs, ys, ys', Fc, st', h, hx, hi, hy, hF, hp, hr => by
    cases hx with
    | nil => cases m <;> simp only [lendI] at hr <;> exact (run_fail hr).elim
    | @cons c v cs vs h1 hs =>
      cases ys with
      | nil => cases m <;> simp only [lendI] at hr <;> exact (run_fail hr).elim
      | cons y ys =>
        simp only [CRL] at hy
        obtain ⟨v0, vs0, G1, G2, e0, j1, j2, j3, j4⟩ := hy
        cases e0
        have key : ∃ y1 s1 ys1, (∃ X' G1' F' sh', GS cx U X' ρ F' s1 sh' V a w ∧ CR cx.P w cx.Z y1 v G1' ∧ (∀ b o, G1' b o → X' b o) ∧ (∀ b o, X b o → X' b o) ∧ (∀ b o, G1' b o → G1 b o ∨ ¬ X b o) ∧ Carved U V F F' sh sh' st s1 ∧
            (∀ n, m = .mut n → ∀ id ver p, c = .ri id ver p → Hl cx.P w ρ F' s1 V id p v) ∧ (∀ n, m = .mut n → Pk (Rl U ρ sh V) c y → Pk (Rl U ρ sh V) c y1)) ∧ (lendI keeps V ms cs ys).run s1 = some (ys1, st') ∧ ys' = y1 :: ys1 := by
          cases m with
          | ro n =>
            simp only [lendI] at hr
            obtain ⟨ys1, s2, h3, h4⟩ := run_bind_some hr
            cases run_pure h4
            exact ⟨y, st, ys1, ⟨X, G1, F, sh, h, j1, fun b o hg => hF b o ((j4 b o).2 (.inl hg)), fun _ _ h => h, fun _ _ h => .inl h, .refl _ _ _ _ _, fun n hm => (by cases hm), fun n hm => (by cases hm)⟩, h3, rfl⟩
          | «mut» n =>
            simp only [lendI] at hr
            obtain ⟨y1, s1, k1, k2⟩ := run_bind_some hr
            obtain ⟨ys1, s2, h3, h4⟩ := run_bind_some k2
            cases run_pure h4
            obtain ⟨X', G1', F', sh', l1, l2, l3, l4, l5, l6, l7, l8⟩ := lend1_ok h h1 hi.1 j1 (fun b o hg => hF b o ((j4 b o).2 (.inl hg))) k1
            exact ⟨y1, s1, ys1, ⟨X', G1', F', sh', l1, l2, l3, l4, l5, l6, fun _ _ => l7, fun _ _ hp => l8 _ hp⟩, h3, rfl⟩
        obtain ⟨y1, s1, ys1, ⟨X1, G1', F1, sh1, l1, l2, l3, l4, l5, l6, l7, l8⟩, hrest, rfl⟩ := key
        have hp2 : PkM (Rl U ρ sh1 V) ms cs ys := by
          cases m <;> simp only [PkM] at hp
          · exact PkM.mono l6.rl hp
          · exact PkM.mono l6.rl hp.2
        obtain ⟨X2, G2', F2, sh2, m1, m2, m3, m4, m5, m6, m7, m8⟩ := lendI_ok ms l1 (l6.trl h.fresh hs hi.2) hi.2 j2 (fun b o hg => l4 b o (hF b o ((j4 b o).2 (.inr hg)))) hp2 hrest
        refine ⟨X2, fun b o => G1' b o ∨ G2' b o, F2, sh2, m1, ?_, ?_, fun b o hx => m4 b o (l4 b o hx), ?_, l6.trans m6, ?_, ?_⟩
        · simp only [CRL]
          refine ⟨v, vs, G1', G2', rfl, l2, m2, fun b o h1 h2 => ?_, fun _ _ => Iff.rfl⟩
          rcases m5 b o h2 with h2 | h2
          · rcases l5 b o h1 with h1 | h1
            · exact j3 b o h1 h2
            · exact h1 (hF b o ((j4 b o).2 (.inr h2)))
          · exact h2 (l3 b o h1)
        · rintro b o (h1 | h1)
          · exact m4 b o (l3 b o h1)
          · exact m3 b o h1
        · rintro b o (h1 | h1)
          · exact (l5 b o h1).imp (fun h => (j4 b o).2 (.inl h)) fun h => h
          · exact (m5 b o h1).imp (fun h => (j4 b o).2 (.inr h)) fun h hx => h (l4 b o hx)
        · cases m with
          | ro n => simp only [HkM]; exact m7
          | «mut» n => simp only [HkM]; exact ⟨fun id ver p e => m6.hl (l7 n rfl id ver p e), m7⟩
        · cases m with
          | ro n => simp only [PkM]; exact m8
          | «mut» n =>
            simp only [PkM] at hp ⊢
            exact ⟨Pk.mono m6.rl (Pk.mono l6.rl (l8 n rfl hp.1)), m8⟩

/-! ### what comes back -/
theorem Old2.hd {U U' : Nat → Prop} {ρ ρ' : Nat → Value} {F F' : Nat → Cells} {sh sh' : Shape} {st st' : St} (h : Old2 U V ρ ρ' F F' sh sh' st st') (hu : ∀ i, U i → U' i) {P : Program} : ∀ id p v, Hd P w U ρ F st id p v → Hd P w U' ρ' F' st' id p v := by
  rintro id p v ⟨h1, h2, h3⟩
  obtain ⟨k1, k2⟩ := h.live id h1 h2
  rw [← h.rho id h1] at h3
  exact ⟨hu id h1, k1, NavKept.of (.refl _) (fun b o hf => ⟨k2 b o hf, fun _ hy _ => hy⟩) _ _ h3⟩

theorem back1_le {q : Bool} {x : TV} {c f : CV} {b : Nat} {st : St} {b' : Nat} {st' : St} (h : (back1 q V b x c f).run st = some (b', st')) : b ≤ b' := by
  unfold back1 at h
  split at h
  · split at h
    · obtain ⟨nd, s1, h1, h2⟩ := run_bind_some h
      split at h2
      · split at h2
        · obtain ⟨_, s2, h3, h4⟩ := run_bind_some h2
          cases run_pure h4; exact Nat.le_refl _
        · exact (run_fail h2).elim
      · exact (run_fail h2).elim
    · exact (run_fail h).elim
  · exact restore_le h

theorem back1_ok {q : Bool} {x : TV} {c0 y : CV} {U : Nat → Prop} {X : Cells} {ρ : Nat → Value} {F : Nat → Cells} {st : St} {sh : Shape} {b b' : Nat} {v : Value} {Fc : Cells} {st' : St} (h : GS cx U X ρ F st sh V a w) (hb : ∀ i, b ≤ i → i < V → ¬ U i)
    (hx : TR cx.P w cx.Z ρ F sh x v) (hi : idsIn U x) (hp : Pk (Rd U ρ sh V st) x c0) (hh : ∀ id ver p, x = .ri id ver p → Hd cx.P w U ρ F st id p v) (hy : CR cx.P w cx.Z y v Fc) (hF : ∀ b o, Fc b o → X b o) (hr : (back1 q V b x c0 y).run st = some (b', st')) (hle : b' ≤ V - 1) :
    ∃ ρ' F' sh', GS cx (To U b b') (fun b o => X b o ∧ ¬ Fc b o) ρ' F' st' sh' V a w ∧ Old2 U V ρ ρ' F F' sh sh' st st' := by
  unfold back1 at hr
  split at hr
  · rename_i id ver p
    split at hr
    · rename_i e' es'
      obtain ⟨nd, s1, h1, h2⟩ := run_bind_some hr
      cases run_getN h1
      split at h2
      · rename_i q0 ver' e es hn
        split at h2
        · rename_i es1 hat hput
          obtain ⟨_, s2, h3, h4⟩ := run_bind_some h2
          cases run_setN h3
          cases run_pure h4
          obtain ⟨_, _, hnav⟩ := hh id ver p rfl
          have hN := h.nodes id _ hn
          have hsome : (st.node id).isSome = true := by rw [hn]; rfl
          have hsh : sh id = some (ver', e, es.length) := by rw [h.agree id _ hn]; unfold shapeOf; rw [hn]
          simp only [CR, Bool.false_eq_true, if_false] at hy
          cases hN with
          | sl _ _ _ _ hd =>
            obtain ⟨k1, k2⟩ := DC.fill (c := .sl e' es') rfl hy p hd hat hput hnav fun b o hf hc => h.apartX id hsome b o hf (hF b o hc)
            have hch := h.change (U' := U) (id := id) (o := some (.sl (q0 || q) ver' e es1)) (v' := ρ id) (Fn := fun b o => F id b o ∨ Fc b o) (X' := fun b o => X b o ∧ ¬ Fc b o) (sh' := sh) (fun _ h => h) h.fresh.2 (fun _ => rfl) (h.one id) (.refl _ _)
              (fun _ _ _ _ _ _ => .of (.refl _) fun b o hf => ⟨.inl hf, fun _ hy _ => hy⟩)
              (fun n hn' => by
                cases hn'
                have hu := (h.used id _ hn)
                refine ⟨?_, hu.1, hu.2⟩
                refine .sl _ ver' e es1 ?_
                rw [upd_same, upd_same]; exact k1)
              (fun _ => ⟨fun b o hg => hg.elim (h.mine id hsome b o) fun hc => ⟨(h.mineX b o (hF b o hc)).1, (h.mineX b o (hF b o hc)).2.1⟩,
                fun i hi' his b o hf hg => hg.elim (fun hg => h.apart i id hi' his hsome b o hf hg) fun hc => h.apartX i his b o hf (hF b o hc), fun b o hg hx => hg.elim (fun hg => h.apartX id hsome b o hg hx.1) fun hc => hx.2 hc⟩)
              (fun b o hx => h.mineX b o hx.1) (fun i _ his b o hf hx => h.apartX i his b o hf hx.1)
              (fun n hn' => by cases hn'; rw [hsh]; unfold shapeOf; rw [St.setNode_node, if_pos rfl]; simp only [k2]) (fun _ _ => rfl) (fun hh => by cases hh)
            rw [upd_self] at hch
            refine ⟨ρ, _, sh, hch.more (fun _ hi => .inl hi) (to_fresh h.fresh.2 hle), fun _ _ => rfl, fun _ _ => .inl rfl, fun i _ _ _ _ _ _ b o hf => ?_, fun i _ hs => ⟨?_, fun b o hf => ?_⟩, fun i _ hn' => ⟨?_, rfl⟩, rfl⟩
            · by_cases ei : i = id
              · subst ei; rw [upd_same]; exact .inl hf
              · rw [upd_ne _ _ ei]; exact hf
            · rw [node_set]
              split
              · rfl
              · exact hs
            · by_cases ei : i = id
              · subst ei; rw [upd_same]; exact .inl hf
              · rw [upd_ne _ _ ei]; exact hf
            · rw [node_set] at hn'
              split at hn'
              · cases hn'
              · exact hn'
        · exact (run_fail h2).elim
      · exact (run_fail h2).elim
    · exact (run_fail hr).elim
  · exact restore_ok h hb hx hi hp hy hF hr hle

theorem cr_zr (z : Bool) {c : CV} {v : Value} {Fc : Cells} (h : CR cx.P w cx.Z c v Fc) : CR cx.P w (ZR z cx F st) c v Fc :=
  CR.mono (fun _ _ _ cur _ _ hb => ⟨cur, hb, rfl, rfl⟩) (fun _ _ h => .inl h) h fun _ _ _ cur _ _ hb => ⟨cur, hb, rfl, rfl⟩

theorem show_ok {keeps : Bool} (h : G cx U X ρ F st a w) {R : Nat → Nat → Nat → Prop} : ∀ (ms : List Md) {xs : List TV} {vs : List Value} {ys cs : List CV} {Fc : Cells} {st' : St}, TRL cx.P w cx.Z ρ F (shapeOf st) xs vs → idsInL U xs → CRL cx.P w cx.Z ys vs Fc → PkM R ms xs ys →
    (show_ keeps ms xs ys).run st = some (cs, st') → st' = st ∧ (∃ Fd, CRL cx.P w (ZR keeps cx F st) cs vs Fd ∧ ∀ b o, Fd b o → Fc b o) ∧ PkM R ms xs cs
  | [], xs, vs, ys, cs, Fc, st', hx, hi, hy, hp, hr => by
    cases hx with
    | nil =>
      cases ys with
      | nil =>
        simp only [show_] at hr
        cases run_pure hr
        refine ⟨rfl, ⟨Fc, ?_, fun _ _ h => h⟩, by simp only [PkM]⟩
        simp only [CRL] at hy ⊢
        exact hy
      | cons => simp only [show_] at hr; exact (run_fail hr).elim
    | cons => simp only [show_] at hr; exact (run_fail hr).elim
  | .ro n :: ms, xs, vs, ys, cs, Fc, st', hx, hi, hy, hp, hr => by
    cases hx with
    | nil => simp only [show_] at hr; exact (run_fail hr).elim
    | @cons c v cs' vs h1 hs =>
      cases ys with
      | nil => simp only [show_] at hr; exact (run_fail hr).elim
      | cons y ys =>
        simp only [show_] at hr
        obtain ⟨y', s1, k1, k2⟩ := run_bind_some hr
        obtain ⟨ys', s2, k3, k4⟩ := run_bind_some k2
        cases run_pure k4
        obtain ⟨e1, m1⟩ := freeze_ok h depth h1 hi.1 k1
        have e1' := e1.symm
        subst e1'
        simp only [CRL] at hy ⊢
        obtain ⟨v0, vs0, F1, F2, e0, j1, j2, j3, j4⟩ := hy
        cases e0
        simp only [PkM] at hp ⊢
        obtain ⟨e2, ⟨Fd, m2, m4⟩, m3⟩ := show_ok h ms hs hi.2 j2 hp k3
        exact ⟨e2, ⟨Fd, ⟨v, vs, Nil, Fd, rfl, m1, m2, fun _ _ h => h.elim, fun _ _ => ⟨.inr, fun h => h.elim (fun h => h.elim) fun h => h⟩⟩, fun b o hf => (j4 b o).2 (.inr (m4 b o hf))⟩, m3⟩
  | .mut n :: ms, xs, vs, ys, cs, Fc, st', hx, hi, hy, hp, hr => by
    cases hx with
    | nil => simp only [show_] at hr; exact (run_fail hr).elim
    | @cons c v cs' vs h1 hs =>
      cases ys with
      | nil => simp only [show_] at hr; exact (run_fail hr).elim
      | cons y ys =>
        simp only [show_] at hr
        obtain ⟨ys', s2, k3, k4⟩ := run_bind_some hr
        cases run_pure k4
        simp only [CRL] at hy ⊢
        obtain ⟨v0, vs0, F1, F2, e0, j1, j2, j3, j4⟩ := hy
        cases e0
        simp only [PkM] at hp ⊢
        obtain ⟨e2, ⟨Fd, m2, m4⟩, m3⟩ := show_ok h ms hs hi.2 j2 hp.2 k3
        exact ⟨e2, ⟨fun b o => F1 b o ∨ Fd b o, ⟨v, vs, F1, Fd, rfl, cr_zr keeps j1, m2, fun b o h1 h2 => j3 b o h1 (m4 b o h2), fun _ _ => Iff.rfl⟩, fun b o hf => (j4 b o).2 (hf.imp (fun h => h) (m4 b o))⟩, hp.1, m3⟩

/-! ### results -/
def muts : List Md → List Value → List Value
  | .ro _ :: ms, _ :: vs => muts ms vs
  | .mut _ :: ms, v :: vs => v :: muts ms vs
  | _, _ => []

theorem takeBack_le {q : Bool} : ∀ {ms : List Md} {xs : List TV} {cs fs : List CV} {b : Nat} {st : St} {b' : Nat} {st' : St}, (takeBack q V b ms xs cs fs).run st = some (b', st') → b ≤ b'
  | [], [], [], [], b, st, b', st', h => by simp only [takeBack] at h; cases run_pure h; exact Nat.le_refl _
  | .ro _ :: ms, x :: xs, c :: cs, fs, b, st, b', st', h => by simp only [takeBack] at h; exact takeBack_le h
  | .mut _ :: ms, x :: xs, c :: cs, f :: fs, b, st, b', st', h => by
    simp only [takeBack] at h
    obtain ⟨b1, s1, h1, h2⟩ := run_bind_some h
    exact Nat.le_trans (back1_le h1) (takeBack_le h2)
  | [], _ :: _, _, _, b, st, b', st', h => by simp only [takeBack] at h; exact (run_fail h).elim
  | [], [], _ :: _, _, b, st, b', st', h => by simp only [takeBack] at h; exact (run_fail h).elim
  | [], [], [], _ :: _, b, st, b', st', h => by simp only [takeBack] at h; exact (run_fail h).elim
  | .ro _ :: _, [], _, _, b, st, b', st', h => by simp only [takeBack] at h; exact (run_fail h).elim
  | .ro _ :: _, _ :: _, [], _, b, st, b', st', h => by simp only [takeBack] at h; exact (run_fail h).elim
  | .mut _ :: _, [], _, _, b, st, b', st', h => by simp only [takeBack] at h; exact (run_fail h).elim
  | .mut _ :: _, _ :: _, [], _, b, st, b', st', h => by simp only [takeBack] at h; exact (run_fail h).elim
  | .mut _ :: _, _ :: _, _ :: _, [], b, st, b', st', h => by simp only [takeBack] at h; exact (run_fail h).elim

theorem takeBack_ok {q : Bool} : ∀ {ms : List Md} {xs : List TV} {cs fs : List CV} {U : Nat → Prop} {X : Cells} {ρ : Nat → Value} {F : Nat → Cells} {st : St} {sh : Shape} {b b' : Nat} {vs : List Value} {Fc : Cells} {st' : St}, GS cx U X ρ F st sh V a w →
    (∀ i, b ≤ i → i < V → ¬ U i) → TRL cx.P w cx.Z ρ F sh xs vs → idsInL U xs → PkM (Rd U ρ sh V st) ms xs cs → HkM (Hd cx.P w U ρ F st) ms xs vs → CRL cx.P w cx.Z fs (muts ms vs) Fc → (∀ b o, Fc b o → X b o) → (takeBack q V b ms xs cs fs).run st = some (b', st') → b' ≤ V - 1 →
    ∃ ρ' F' sh', GS cx (To U b b') (fun b o => X b o ∧ ¬ Fc b o) ρ' F' st' sh' V a w ∧ Old2 U V ρ ρ' F F' sh sh' st st'
  | [], [], [], [], U, X, ρ, F, st, sh, b, b', vs, Fc, st', h, hb, hx, hi, hp, hk, hy, hF, hr, hle => by
    simp only [takeBack] at hr
    cases run_pure hr
    exact ⟨ρ, F, sh, (h.less fun _ _ hx => hx.1).more (fun _ hi => .inl hi) (to_fresh h.fresh.2 hle), .refl _ _ _ _ _ _⟩
  | .ro _ :: ms, x :: xs, c :: cs, fs, U, X, ρ, F, st, sh, b, b', vs, Fc, st', h, hb, hx, hi, hp, hk, hy, hF, hr, hle => by
    simp only [takeBack] at hr
    cases hx with
    | cons t1 t2 =>
      simp only [muts] at hy
      simp only [PkM] at hp
      simp only [HkM] at hk
      exact takeBack_ok h hb t2 hi.2 hp hk hy hF hr hle
  | .mut _ :: ms, x :: xs, c :: cs, f :: fs, U, X, ρ, F, st, sh, b, b', vs, Fc, st', h, hb, hx, hi, hp, hk, hy, hF, hr, hle => by
    simp only [takeBack] at hr
    obtain ⟨b1, s1, h1, h2⟩ := run_bind_some hr
    have le1 := back1_le h1
    have le2 := takeBack_le h2
    cases hx with
    | cons t1 t2 =>
      simp only [muts, CRL] at hy
      simp only [PkM] at hp
      simp only [HkM] at hk
      obtain ⟨v, vs', G1, G2, e0, k2, k3, k4, k5⟩ := hy
      cases e0
      obtain ⟨ρ1, F1, sh1, g1, o1⟩ := back1_ok h hb t1 hi.1 hp.1 hk.1 k2 (fun b o hf => hF b o ((k5 b o).2 (.inl hf))) h1 (by omega)
      obtain ⟨ρ2, F2, sh2, g2, o2⟩ := takeBack_ok g1 (fun i hi hi2 => by
        rintro (hu | hu)
        · exact hb i (by omega) hi2 hu
        · omega) (o1.trl h.fresh t2 hi.2) (idsInL.mono (fun i hi => .inl hi) hi.2) (PkM.mono (o1.rd fun i hi => .inl hi) hp.2) (HkM.mono (o1.hd fun i hi => .inl hi) hk.2) k3 (fun b o hf => ⟨hF b o ((k5 b o).2 (.inr hf)), fun hg => k4 b o hg hf⟩) h2 hle
      have hsub : ∀ i, To (To U b b1) b1 b' i → To U b b' i := by
        rintro i ((hi | hi) | hi)
        · exact .inl hi
        · exact .inr ⟨hi.1, by omega⟩
        · exact .inr ⟨by omega, hi.2⟩
      exact ⟨ρ2, F2, sh2, (g2.less fun b o hx => ⟨⟨hx.1, fun hg => hx.2 ((k5 b o).2 (.inl hg))⟩, fun hg => hx.2 ((k5 b o).2 (.inr hg))⟩).more hsub (to_fresh h.fresh.2 hle), o1.trans o2 fun i hi => .inl hi⟩
  | [], _ :: _, _, _, U, X, ρ, F, st, sh, b, b', vs, Fc, st', h, hb, hx, hi, hp, hk, hy, hF, hr, hle => by simp only [takeBack] at hr; exact (run_fail hr).elim
  | [], [], _ :: _, _, U, X, ρ, F, st, sh, b, b', vs, Fc, st', h, hb, hx, hi, hp, hk, hy, hF, hr, hle => by simp only [takeBack] at hr; exact (run_fail hr).elim
  | [], [], [], _ :: _, U, X, ρ, F, st, sh, b, b', vs, Fc, st', h, hb, hx, hi, hp, hk, hy, hF, hr, hle => by simp only [takeBack] at hr; exact (run_fail hr).elim
  | .ro _ :: _, [], _, _, U, X, ρ, F, st, sh, b, b', vs, Fc, st', h, hb, hx, hi, hp, hk, hy, hF, hr, hle => by simp only [takeBack] at hr; exact (run_fail hr).elim
  | .ro _ :: _, _ :: _, [], _, U, X, ρ, F, st, sh, b, b', vs, Fc, st', h, hb, hx, hi, hp, hk, hy, hF, hr, hle => by simp only [takeBack] at hr; exact (run_fail hr).elim
  | .mut _ :: _, [], _, _, U, X, ρ, F, st, sh, b, b', vs, Fc, st', h, hb, hx, hi, hp, hk, hy, hF, hr, hle => by simp only [takeBack] at hr; exact (run_fail hr).elim
  | .mut _ :: _, _ :: _, [], _, U, X, ρ, F, st, sh, b, b', vs, Fc, st', h, hb, hx, hi, hp, hk, hy, hF, hr, hle => by simp only [takeBack] at hr; exact (run_fail hr).elim
  | .mut _ :: _, _ :: _, _ :: _, [], U, X, ρ, F, st, sh, b, b', vs, Fc, st', h, hb, hx, hi, hp, hk, hy, hF, hr, hle => by simp only [takeBack] at hr; exact (run_fail hr).elim

theorem CRL.split {P : Program} {Z : Cells} : ∀ {cs ds : List CV} {L : List Value} {Fc : Cells}, CRL P w Z (cs ++ ds) L Fc → ∃ L1 L2 F1 F2, L = L1 ++ L2 ∧ L1.length = cs.length ∧ CRL P w Z cs L1 F1 ∧ CRL P w Z ds L2 F2 ∧ Apart F1 F2 ∧ ∀ b o, Fc b o ↔ (F1 b o ∨ F2 b o)
  | [], ds, L, Fc, h => ⟨[], L, Nil, Fc, rfl, rfl, crl_nil, h, fun _ _ h => h.elim, fun _ _ => ⟨.inr, fun h => h.elim (fun h => h.elim) fun h => h⟩⟩
  | c :: cs, ds, L, Fc, h => by
    simp only [List.cons_append, CRL] at h
    obtain ⟨v, vs', G1, G2, rfl, k2, k3, k4, k5⟩ := h
    obtain ⟨L1, L2, F1, F2, rfl, m1, m2, m3, m4, m5⟩ := CRL.split k3
    refine ⟨v :: L1, L2, fun b o => G1 b o ∨ F1 b o, F2, rfl, by simp [m1], ?_, m3, ?_, fun b o => ?_⟩
    · simp only [CRL]
      exact ⟨v, L1, G1, F1, rfl, k2, m2, fun b o h1 h2 => k4 b o h1 ((m5 b o).2 (.inl h2)), fun _ _ => Iff.rfl⟩
    · rintro b o (h1 | h1) h2
      · exact k4 b o h1 ((m5 b o).2 (.inr h2))
      · exact m4 b o h1 h2
    · rw [k5 b o, m5 b o, or_assoc]

end Go.Proofs.Ytkoljcjliihiiaa.VM

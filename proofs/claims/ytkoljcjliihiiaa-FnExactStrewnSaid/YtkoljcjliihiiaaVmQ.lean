/- The interpreter 'VM': what was lent comes back. -/
import Derived.Test.YtkoljcjliihiiaaVmO
namespace Go.Proofs.Ytkoljcjliihiiaa.VM
open Go

variable {cx : Cx} {U : Nat → Prop} {X : Cells} {ρ : Nat → Value} {F : Nat → Cells} {st : St} {sh : Shape} {V : Nat} {a : Act} {w : World}

mutual
theorem restore_le {q : Bool} : ∀ {x : TV} {c0 y : CV} {b : Nat} {st : St} {b' : Nat} {st' : St}, (restore q V b x c0 y).run st = some (b', st') → b ≤ b'
  | .rf id, c0, y, b, st, b', st', h => by
    have triv : (M.pure b).run st = some (b', st') → b ≤ b' := fun h => by cases run_pure h; exact Nat.le_refl _
    cases c0 with
    | sl z0 e0 es0 =>
      cases y with
      | sl z e es =>
        cases z0 <;> cases z <;> simp only [restore] at h
        · obtain ⟨nd, s1, h1, h2⟩ := run_bind_some h
          split at h2
          · obtain ⟨_, s2, h3, h4⟩ := run_bind_some h2
            cases run_pure h4; exact Nat.le_refl _
          · exact (run_fail h2).elim
        all_goals exact triv h
      | _ => simp only [restore] at h; exact triv h
    | bx z0 cs0 =>
      cases y with
      | bx z cs =>
        cases z0 <;> cases z <;> simp only [restore] at h
        · obtain ⟨nd, s1, h1, h2⟩ := run_bind_some h
          split at h2
          · obtain ⟨r, s2, h3, h4⟩ := run_bind_some h2
            obtain ⟨_, s3, h5, h6⟩ := run_bind_some h4
            cases run_pure h6; exact unpackL_le h3
          · exact (run_fail h2).elim
        all_goals exact triv h
      | _ => simp only [restore] at h; exact triv h
    | _ => simp only [restore] at h; exact triv h
  | .fn f fs cs, c0, y, b, st, b', st', h => by
    have triv : (M.pure b).run st = some (b', st') → b ≤ b' := fun h => by cases run_pure h; exact Nat.le_refl _
    cases c0 with
    | fn f0 fs0 cs0 =>
      cases y with
      | fn f1 fs1 cs1 =>
        simp only [restore] at h
        obtain ⟨b1, s1, h1, h2⟩ := run_bind_some h
        exact Nat.le_trans (restoreL_le h1) (restoreL_le h2)
      | _ => simp only [restore] at h; exact triv h
    | _ => simp only [restore] at h; exact triv h
  | .st cs, c0, y, b, st, b', st', h => by
    have triv : (M.pure b).run st = some (b', st') → b ≤ b' := fun h => by cases run_pure h; exact Nat.le_refl _
    cases c0 with
    | st cs0 =>
      cases y with
      | st cs1 => simp only [restore] at h; exact restoreL_le h
      | _ => simp only [restore] at h; exact triv h
    | _ => simp only [restore] at h; exact triv h
  | .ic t x, c0, y, b, st, b', st', h => by
    have triv : (M.pure b).run st = some (b', st') → b ≤ b' := fun h => by cases run_pure h; exact Nat.le_refl _
    cases c0 with
    | ic t0 x0 =>
      cases y with
      | ic t1 x1 => simp only [restore] at h; exact restore_le h
      | _ => simp only [restore] at h; exact triv h
    | _ => simp only [restore] at h; exact triv h
  | .a _, c0, y, b, st, b', st', h => by simp only [restore] at h; cases run_pure h; exact Nat.le_refl _
  | .nl _, c0, y, b, st, b', st', h => by simp only [restore] at h; cases run_pure h; exact Nat.le_refl _
  | .ri _ _ _, c0, y, b, st, b', st', h => by simp only [restore] at h; cases run_pure h; exact Nat.le_refl _
  | .sb _ _ _, c0, y, b, st, b', st', h => by simp only [restore] at h; cases run_pure h; exact Nat.le_refl _
  | .ad _ _, c0, y, b, st, b', st', h => by simp only [restore] at h; cases run_pure h; exact Nat.le_refl _
  | .ea _ _ _ _, c0, y, b, st, b', st', h => by simp only [restore] at h; cases run_pure h; exact Nat.le_refl _
  | .ei _ _ _ _ _ _, c0, y, b, st, b', st', h => by simp only [restore] at h; cases run_pure h; exact Nat.le_refl _
  | .sz _ _, c0, y, b, st, b', st', h => by simp only [restore] at h; cases run_pure h; exact Nat.le_refl _
  | .ez _ _, c0, y, b, st, b', st', h => by simp only [restore] at h; cases run_pure h; exact Nat.le_refl _
  | .tp _, c0, y, b, st, b', st', h => by simp only [restore] at h; cases run_pure h; exact Nat.le_refl _
  | .un, c0, y, b, st, b', st', h => by simp only [restore] at h; cases run_pure h; exact Nat.le_refl _
theorem restoreL_le {q : Bool} : ∀ {xs : List TV} {cs0 ys : List CV} {b : Nat} {st : St} {b' : Nat} {st' : St}, (restoreL q V b xs cs0 ys).run st = some (b', st') → b ≤ b'
  | [], cs0, ys, b, st, b', st', h => by simp only [restoreL] at h; cases run_pure h; exact Nat.le_refl _
  | x :: xs, [], ys, b, st, b', st', h => by simp only [restoreL] at h; cases run_pure h; exact Nat.le_refl _
  | x :: xs, c0 :: cs0, [], b, st, b', st', h => by simp only [restoreL] at h; cases run_pure h; exact Nat.le_refl _
  | x :: xs, c0 :: cs0, y :: ys, b, st, b', st', h => by
    simp only [restoreL] at h
    obtain ⟨b1, s1, h1, h2⟩ := run_bind_some h
    exact Nat.le_trans (restore_le h1) (restoreL_le h2)
end

/-- What was in the frame is there still, but for what comes back. -/
structure Old2 (U : Nat → Prop) (V : Nat) (ρ ρ' : Nat → Value) (F F' : Nat → Cells) (sh sh' : Shape) (st st' : St) : Prop where
  rho : ∀ i, U i → ρ' i = ρ i
  shape : ∀ i, U i → sh' i = sh i ∨ sh' i = none
  f : ∀ i, U i → ∀ ver e l, sh' i = some (ver, e, l) → ver ≠ V → ∀ b o, F i b o → F' i b o
  live : ∀ i, U i → (st.node i).isSome = true → (st'.node i).isSome = true ∧ ∀ b o, F i b o → F' i b o
  dead : ∀ i, U i → st'.node i = none → st.node i = none ∧ sh' i = sh i
  slots : st'.slots = st.slots

theorem Old2.refl (U : Nat → Prop) (V : Nat) (ρ : Nat → Value) (F : Nat → Cells) (sh : Shape) (st : St) : Old2 U V ρ ρ F F sh sh st st := ⟨fun _ _ => rfl, fun _ _ => .inl rfl, fun _ _ _ _ _ _ _ _ _ h => h, fun _ _ h => ⟨h, fun _ _ h => h⟩, fun _ _ h => ⟨h, rfl⟩, rfl⟩

theorem Old.to2 {U : Nat → Prop} {ρ ρ' : Nat → Value} {F F' : Nat → Cells} {sh sh' : Shape} {st st' : St} (h : Old U ρ ρ' F F' sh sh' st st') : Old2 U V ρ ρ' F F' sh sh' st st' :=
  ⟨h.rho, fun i hi => .inl (h.shape i hi), fun i hi _ _ _ _ _ => by rw [h.f i hi]; exact fun _ _ h => h, fun i hi hs => ⟨by rw [h.node i hi]; exact hs, by rw [h.f i hi]; exact fun _ _ h => h⟩, fun i hi hn => ⟨by rw [← h.node i hi]; exact hn, h.shape i hi⟩, h.slots⟩

theorem Old2.trans {U U' : Nat → Prop} {ρ ρ1 ρ2 : Nat → Value} {F F1 F2 : Nat → Cells} {sh sh1 sh2 : Shape} {st st1 st2 : St} (h : Old2 U V ρ ρ1 F F1 sh sh1 st st1) (h' : Old2 U' V ρ1 ρ2 F1 F2 sh1 sh2 st1 st2) (hu : ∀ i, U i → U' i) :
    Old2 U V ρ ρ2 F F2 sh sh2 st st2 := by
  refine ⟨fun i hi => (h'.rho i (hu i hi)).trans (h.rho i hi), fun i hi => ?_, fun i hi ver e l hs hv => ?_, fun i hi hs => ?_, fun i hi hn => ?_, h'.slots.trans h.slots⟩
  · rcases h'.shape i (hu i hi) with e | e
    · rw [e]; exact h.shape i hi
    · exact .inr e
  · rcases h'.shape i (hu i hi) with e1 | e1
    · exact fun b o hf => h'.f i (hu i hi) ver e l hs hv b o (h.f i hi ver e l (by rw [← e1]; exact hs) hv b o hf)
    · rw [e1] at hs; cases hs
  · obtain ⟨k1, k2⟩ := h.live i hi hs
    obtain ⟨k3, k4⟩ := h'.live i (hu i hi) k1
    exact ⟨k3, fun b o hf => k4 b o (k2 b o hf)⟩
  · obtain ⟨k1, k2⟩ := h'.dead i (hu i hi) hn
    obtain ⟨k3, k4⟩ := h.dead i hi k1
    exact ⟨k3, k2.trans k4⟩

theorem Old2.tr {U : Nat → Prop} {ρ ρ' : Nat → Value} {F F' : Nat → Cells} {sh sh' : Shape} {st st' : St} (h : Old2 U V ρ ρ' F F' sh sh' st st') (hV : V ≠ 0 ∧ ¬ U (V - 1)) {P : Program} {Z : Cells} {c : TV} {v : Value} (hc : TR P w Z ρ F sh c v) (hi : idsIn U c) :
    TR P w Z ρ' F' sh' c v :=
  hc.mono hi (fun _ _ _ cur _ _ hb => ⟨cur, hb, rfl, rfl⟩) h.rho (fun id hu ver e l hs => by
    rcases h.shape id hu with e1 | e1
    · rw [e1] at hs; exact ⟨ver, hs, fun _ => rfl⟩
    · rw [e1] at hs; cases hs) fun id hu ver e l hs hv => .of (.refl _) fun b o hf => ⟨h.f id hu ver e l hs (fun e => by subst e; exact hv.elim hV.1 hV.2) b o hf, fun _ hy _ => hy⟩

theorem Old2.trl {U : Nat → Prop} {ρ ρ' : Nat → Value} {F F' : Nat → Cells} {sh sh' : Shape} {st st' : St} (h : Old2 U V ρ ρ' F F' sh sh' st st') (hV : V ≠ 0 ∧ ¬ U (V - 1)) {P : Program} {Z : Cells} {cs : List TV} {vs : List Value} (hc : TRL P w Z ρ F sh cs vs) (hi : idsInL U cs) :
    TRL P w Z ρ' F' sh' cs vs := .of hc.length fun i c u h1 h2 => h.tr hV (hc.get i c u h1 h2) (idsInL_get hi h1)

def Rd (U : Nat → Prop) (ρ : Nat → Value) (sh : Shape) (V : Nat) (st : St) : Nat → Nat → Nat → Prop := fun id e l => U id ∧ (st.node id = none → sh id = some (V, e, l) ∧ ∃ x cap, ρ id = .slice x l cap)

theorem Rl.rd {id e l : Nat} (h : Rl U ρ sh V id e l) : Rd U ρ sh V st id e l := ⟨h.1, fun _ => h.2⟩

theorem Old2.rd {U U' : Nat → Prop} {ρ ρ' : Nat → Value} {F F' : Nat → Cells} {sh sh' : Shape} {st st' : St} (h : Old2 U V ρ ρ' F F' sh sh' st st') (hu : ∀ i, U i → U' i) : ∀ id e l, Rd U ρ sh V st id e l → Rd U' ρ' sh' V st' id e l := by
  rintro id e l ⟨h1, h2⟩
  refine ⟨hu id h1, fun hn => ?_⟩
  obtain ⟨k1, k2⟩ := h.dead id h1 hn
  obtain ⟨k3, k4⟩ := h2 k1
  exact ⟨k2.trans k3, by rw [h.rho id h1]; exact k4⟩

mutual
theorem restore_ok {q : Bool} : ∀ {x : TV} {c0 y : CV} {U : Nat → Prop} {X : Cells} {ρ : Nat → Value} {F : Nat → Cells} {st : St} {sh : Shape} {b b' : Nat} {v : Value} {Fc : Cells} {st' : St}, GS cx U X ρ F st sh V a w → (∀ i, b ≤ i → i < V → ¬ U i) →
    TR cx.P w cx.Z ρ F sh x v → idsIn U x → Pk (Rd U ρ sh V st) x c0 → CR cx.P w cx.Z y v Fc → (∀ b o, Fc b o → X b o) → (restore q V b x c0 y).run st = some (b', st') → b' ≤ V - 1 →
    ∃ ρ' F' sh', GS cx (To U b b') (fun b o => X b o ∧ ¬ Fc b o) ρ' F' st' sh' V a w ∧ Old2 U V ρ ρ' F F' sh sh' st st'
  | .rf id, c0, y, U, X, ρ, F, st, sh, b, b', v, Fc, st', h, hb, hx, hi, hp, hy, hF, hr, hle => by
    have triv : (M.pure b).run st = some (b', st') → ∃ ρ' F' sh', GS cx (To U b b') (fun b o => X b o ∧ ¬ Fc b o) ρ' F' st' sh' V a w ∧ Old2 U V ρ ρ' F F' sh sh' st st' := fun hr => by
      cases run_pure hr
      exact ⟨ρ, F, sh, (h.less fun _ _ hx => hx.1).more (fun _ hi => .inl hi) (to_fresh h.fresh.2 hle), .refl _ _ _ _ _ _⟩
    have hv : v = ρ id := by cases hx; rfl
    have hidV : id ≠ V - 1 := fun e => h.fresh.2 (e ▸ hi)
    cases c0 with
    | sl z0 e0 es0 =>
      cases y with
      | sl z e es =>
        cases z0 <;> cases z <;> simp only [restore] at hr
        · obtain ⟨nd, s1, h1, h2⟩ := run_bind_some hr
          cases run_getN h1
          split at h2
          · rename_i hcond
            obtain ⟨hnone, rfl⟩ := hcond
            rw [Option.isNone_iff_eq_none] at hnone
            obtain ⟨_, s2, h3, h4⟩ := run_bind_some h2
            cases run_setN h3
            cases run_pure h4
            simp only [CR] at hy
            simp only [Pk] at hp
            obtain ⟨_, hp2⟩ := hp
            obtain ⟨hsh, x0, cap0, hs0⟩ := hp2 hnone
            have hy' : DC cx.P w cx.Z (.sl e0 es) (ρ id) Fc := by rw [← hv]; exact hy
            obtain ⟨x1, cap1, hs1, _⟩ := hy'.rd.slice
            rw [hs0] at hs1
            injection hs1 with _ hlen _
            have hpl := h.place (id := id) (n := .sl q V e0 es) (v' := ρ id) (Fn := Fc) (X' := fun b o => X b o ∧ ¬ Fc b o) (sh' := sh) hnone hidV (fun _ => rfl) (h.one id)
              (by unfold shapeOf; rw [St.setNode_node, if_pos rfl, hsh, hlen]) (fun _ _ => rfl) (fun _ => .inl rfl) hF (fun _ _ hx => hx.1) (fun b o hf hx => hx.2 hf) (.sl q V e0 es (by rw [upd_same, upd_same]; exact hy')) (.inr (.inr rfl))
            rw [upd_self] at hpl
            refine ⟨ρ, _, sh, hpl.more (fun i hi' => hi'.elim .inl fun e => .inl (e ▸ hi)) (to_fresh h.fresh.2 hle), fun _ _ => rfl, fun _ _ => .inl rfl, fun i _ ver e l hs hv => ?_, fun i _ hs => ?_, fun i _ hn => ?_, rfl⟩
            · by_cases ei : i = id
              · subst ei; rw [hsh] at hs; cases hs; exact absurd rfl hv
              · rw [upd_ne _ _ ei]; exact fun _ _ h => h
            · have ei : i ≠ id := by rintro rfl; rw [hnone] at hs; cases hs
              refine ⟨?_, by rw [upd_ne _ _ ei]; exact fun _ _ h => h⟩
              rw [node_set, if_neg (fun e => ei e.symm)]; exact hs
            · refine ⟨?_, rfl⟩
              rw [node_set] at hn
              split at hn
              · cases hn
              · exact hn
          · exact (run_fail h2).elim
        all_goals exact triv hr
      | _ => simp only [restore] at hr; exact triv hr
    | bx z0 cs0 =>
      cases y with
      | bx z cs =>
        cases z0 <;> cases z <;> simp only [restore] at hr
        · obtain ⟨nd, s1, h1, h2⟩ := run_bind_some hr
          cases run_getN h1
          split at h2
          · rename_i hnone
            rw [Option.isNone_iff_eq_none] at hnone
            obtain ⟨r, s2, h3, h4⟩ := run_bind_some h2
            obtain ⟨_, s3, h5, h6⟩ := run_bind_some h4
            cases run_setN h5
            cases run_pure h6
            simp only [CR] at hy
            obtain ⟨b0, off, cur, t, Fi, hval, k2, k3, k4, k5, k6, k7, k8⟩ := hy
            obtain ⟨ρ1, F1, sh1, g1, t1, i1, o1⟩ := unpackL_ok h hb k5 (fun b' o' hf => hF b' o' ((k8 b' o').2 (.inr hf))) h3 hle
            have hlen : r.1.length = cs.length := by rw [← t1.length]; simp; omega
            have hnone1 : s2.node id = none := by rw [o1.node id hi]; exact hnone
            let Fn : Cells := fun b' o' => b' = b0 ∧ off ≤ o' ∧ o' < off + cs.length
            have hFn : ∀ b' o', Fn b' o' → X b' o' ∧ ¬ Fi b' o' := by
              rintro b' o' ⟨rfl, ho1, ho2⟩
              exact ⟨hF _ _ ((k8 _ _).2 (.inl ⟨trivial, rfl, ho1, ho2⟩)), k7 trivial o' ho1 ho2⟩
            have hX : ∀ b' o', (X b' o' ∧ ¬ Fc b' o') → (X b' o' ∧ ¬ Fi b' o') := fun b' o' hx => ⟨hx.1, fun hf => hx.2 ((k8 b' o').2 (.inr hf))⟩
            have hρ : ρ1 id = .pointer (some ⟨b0, off, none⟩) := by rw [o1.rho id hi, ← hv]; exact hval
            have hshk : ∀ j, To U b r.2 j → ∀ ver e l, (if j = id then none else sh1 j) = some (ver, e, l) → ∃ ver0, sh1 j = some (ver0, e, l) ∧ ((ver = 0 ∨ To U b r.2 (ver - 1)) → ver0 = ver) := by
              intro j _ ver e l hs
              split at hs
              · cases hs
              · exact ⟨ver, hs, fun _ => rfl⟩
            have hpl := g1.place (id := id) (n := .bx false r.1) (v' := ρ1 id) (Fn := Fn) (X' := fun b o => X b o ∧ ¬ Fc b o) (sh' := fun j => if j = id then none else sh1 j) hnone1 hidV (fun _ => rfl) (g1.one id)
              (by unfold shapeOf; rw [St.setNode_node, if_pos rfl, if_pos rfl]) (fun j hj => if_neg hj) (fun _ => .inr (if_pos rfl)) hFn hX (fun b' o' hf hx => hx.2 ((k8 b' o').2 (.inl ⟨trivial, hf⟩)))
              (.bx false r.1 b0 off cur t (by rw [upd_same]; exact hρ) k2 (by omega) (by intro e; rw [e] at hlen; exact k4 (List.eq_nil_of_length_eq_zero hlen.symm))
                (fun i c hic u hu => by
                  have := t1.get i c u hic (by
                    rw [List.getElem?_take, if_pos (by rw [← hlen]; exact (List.getElem?_eq_some_iff.1 hic).1), List.getElem?_drop, Array.getElem?_toList]
                    exact hu)
                  rw [upd_self]
                  exact this.mono (idsInL_get i1 hic) (fun _ _ _ cur _ _ hb => ⟨cur, hb, rfl, rfl⟩) (fun _ _ => rfl) hshk fun j hj ver e l hs hkn => by
                    by_cases ej : j = id
                    · rw [if_pos ej] at hs; cases hs
                    · rw [upd_ne _ _ ej]; exact fun _ _ h => h)
                (fun b' o' => by rw [upd_same, hlen]; simp only [Fn, true_and]) (fun hz => by cases hz))
              (idsInL.mono (fun i hi => .inl hi) i1)
            rw [upd_self] at hpl
            have o2 : Old2 (To U b r.2) V ρ1 ρ1 F1 (upd F1 id Fn) sh1 (fun j => if j = id then none else sh1 j) s2 (s2.setNode id (some (.bx false r.1))) := by
              refine ⟨fun _ _ => rfl, fun j _ => ?_, fun i _ ver e l hs _ => ?_, fun i _ hs => ?_, fun i _ hn => ?_, rfl⟩
              · by_cases ej : j = id
                · exact .inr (if_pos ej)
                · exact .inl (if_neg ej)
              · by_cases ei : i = id
                · rw [if_pos ei] at hs; cases hs
                · rw [upd_ne _ _ ei]; exact fun _ _ h => h
              · have ei : i ≠ id := by rintro rfl; rw [hnone1] at hs; cases hs
                refine ⟨?_, by rw [upd_ne _ _ ei]; exact fun _ _ h => h⟩
                rw [St.setNode_node, if_neg (fun e => ei e.symm)]; exact hs
              · rw [St.setNode_node] at hn
                split at hn
                · cases hn
                · rename_i hne
                  exact ⟨hn, if_neg fun e => hne e.symm⟩
            exact ⟨ρ1, _, _, hpl.more (fun i hi' => hi'.elim (fun h => h) fun e => .inl (e ▸ hi)) (to_fresh h.fresh.2 hle), o1.to2.trans o2 fun i hi => .inl hi⟩
          · exact (run_fail h2).elim
        all_goals exact triv hr
      | _ => simp only [restore] at hr; exact triv hr
    | _ => simp only [restore] at hr; exact triv hr
  | .fn f fs cs, c0, y, U, X, ρ, F, st, sh, b, b', v, Fc, st', h, hb, hx, hi, hp, hy, hF, hr, hle => by
    have triv : (M.pure b).run st = some (b', st') → ∃ ρ' F' sh', GS cx (To U b b') (fun b o => X b o ∧ ¬ Fc b o) ρ' F' st' sh' V a w ∧ Old2 U V ρ ρ' F F' sh sh' st st' := fun hr => by
      cases run_pure hr
      exact ⟨ρ, F, sh, (h.less fun _ _ hx => hx.1).more (fun _ hi => .inl hi) (to_fresh h.fresh.2 hle), .refl _ _ _ _ _ _⟩
    cases c0 with
    | fn f0 fs0 cs0 =>
      cases y with
      | fn f1 fs1 cs1 =>
        simp only [restore] at hr
        obtain ⟨b1, s1, h1, h2⟩ := run_bind_some hr
        have le1 := restoreL_le h1
        have le2 := restoreL_le h2
        simp only [CR] at hy
        simp only [Pk] at hp
        obtain ⟨xs, us, G1, G2, rfl, k2, k3, k4, k5⟩ := hy
        cases hx with
        | fn _ _ _ _ _ hxl hul hxs hus =>
          have t1 : TRL cx.P w cx.Z ρ F sh fs xs.toList := .of (by rw [Array.length_toList]; exact hxl) fun i c u k1 k2 => hxs i c u k1 (by simpa using k2)
          have t2 : TRL cx.P w cx.Z ρ F sh cs us.toList := .of (by rw [Array.length_toList]; exact hul) fun i c u k1 k2 => hus i c u k1 (by simpa using k2)
          obtain ⟨ρ1, F1, sh1, g1, o1⟩ := restoreL_ok h hb t1 hi.1 hp.1 k2 (fun b o hf => hF b o ((k5 b o).2 (.inl hf))) h1 (by omega)
          obtain ⟨ρ2, F2, sh2, g2, o2⟩ := restoreL_ok g1 (fun i hi hi2 => by
            rintro (hu | hu)
            · exact hb i (by omega) hi2 hu
            · omega) (o1.trl h.fresh t2 hi.2) (idsInL.mono (fun i hi => .inl hi) hi.2) (PkL.mono (o1.rd fun i hi => .inl hi) hp.2) k3 (fun b o hf => ⟨hF b o ((k5 b o).2 (.inr hf)), fun hg => k4 b o hg hf⟩) h2 hle
          have hsub : ∀ i, To (To U b b1) b1 b' i → To U b b' i := by
            rintro i ((hi | hi) | hi)
            · exact .inl hi
            · exact .inr ⟨hi.1, by omega⟩
            · exact .inr ⟨by omega, hi.2⟩
          exact ⟨ρ2, F2, sh2, (g2.less fun b o hx => ⟨⟨hx.1, fun hg => hx.2 ((k5 b o).2 (.inl hg))⟩, fun hg => hx.2 ((k5 b o).2 (.inr hg))⟩).more hsub (to_fresh h.fresh.2 hle), o1.trans o2 fun i hi => .inl hi⟩
      | _ => simp only [restore] at hr; exact triv hr
    | _ => simp only [restore] at hr; exact triv hr
  | .st cs, c0, y, U, X, ρ, F, st, sh, b, b', v, Fc, st', h, hb, hx, hi, hp, hy, hF, hr, hle => by
    have triv : (M.pure b).run st = some (b', st') → ∃ ρ' F' sh', GS cx (To U b b') (fun b o => X b o ∧ ¬ Fc b o) ρ' F' st' sh' V a w ∧ Old2 U V ρ ρ' F F' sh sh' st st' := fun hr => by
      cases run_pure hr
      exact ⟨ρ, F, sh, (h.less fun _ _ hx => hx.1).more (fun _ hi => .inl hi) (to_fresh h.fresh.2 hle), .refl _ _ _ _ _ _⟩
    cases c0 with
    | st cs0 =>
      cases y with
      | st cs1 =>
        simp only [restore] at hr
        simp only [CR] at hy
        simp only [Pk] at hp
        obtain ⟨us, rfl, k2⟩ := hy
        exact restoreL_ok h hb (st_tr hx) hi hp k2 hF hr hle
      | _ => simp only [restore] at hr; exact triv hr
    | _ => simp only [restore] at hr; exact triv hr
  | .ic t x, c0, y, U, X, ρ, F, st, sh, b, b', v, Fc, st', h, hb, hx, hi, hp, hy, hF, hr, hle => by
    have triv : (M.pure b).run st = some (b', st') → ∃ ρ' F' sh', GS cx (To U b b') (fun b o => X b o ∧ ¬ Fc b o) ρ' F' st' sh' V a w ∧ Old2 U V ρ ρ' F F' sh sh' st st' := fun hr => by
      cases run_pure hr
      exact ⟨ρ, F, sh, (h.less fun _ _ hx => hx.1).more (fun _ hi => .inl hi) (to_fresh h.fresh.2 hle), .refl _ _ _ _ _ _⟩
    cases c0 with
    | ic t0 x0 =>
      cases y with
      | ic t1 x1 =>
        simp only [restore] at hr
        simp only [CR] at hy
        simp only [Pk] at hp
        obtain ⟨u, rfl, k2⟩ := hy
        cases hx with
        | ic _ _ _ hx => exact restore_ok h hb hx hi hp k2 hF hr hle
      | _ => simp only [restore] at hr; exact triv hr
    | _ => simp only [restore] at hr; exact triv hr
  | .a _, c0, y, U, X, ρ, F, st, sh, b, b', v, Fc, st', h, _, _, _, _, _, _, hr, hle => by
    simp only [restore] at hr; cases run_pure hr
    exact ⟨ρ, F, sh, (h.less fun _ _ hx => hx.1).more (fun _ hi => .inl hi) (to_fresh h.fresh.2 hle), .refl _ _ _ _ _ _⟩
  | .nl _, c0, y, U, X, ρ, F, st, sh, b, b', v, Fc, st', h, _, _, _, _, _, _, hr, hle => by
    simp only [restore] at hr; cases run_pure hr
    exact ⟨ρ, F, sh, (h.less fun _ _ hx => hx.1).more (fun _ hi => .inl hi) (to_fresh h.fresh.2 hle), .refl _ _ _ _ _ _⟩
  | .ri _ _ _, c0, y, U, X, ρ, F, st, sh, b, b', v, Fc, st', h, _, _, _, _, _, _, hr, hle => by
    simp only [restore] at hr; cases run_pure hr
    exact ⟨ρ, F, sh, (h.less fun _ _ hx => hx.1).more (fun _ hi => .inl hi) (to_fresh h.fresh.2 hle), .refl _ _ _ _ _ _⟩
  | .sb _ _ _, c0, y, U, X, ρ, F, st, sh, b, b', v, Fc, st', h, _, _, _, _, _, _, hr, hle => by
    simp only [restore] at hr; cases run_pure hr
    exact ⟨ρ, F, sh, (h.less fun _ _ hx => hx.1).more (fun _ hi => .inl hi) (to_fresh h.fresh.2 hle), .refl _ _ _ _ _ _⟩
  | .ad _ _, c0, y, U, X, ρ, F, st, sh, b, b', v, Fc, st', h, _, _, _, _, _, _, hr, hle => by
    simp only [restore] at hr; cases run_pure hr
    exact ⟨ρ, F, sh, (h.less fun _ _ hx => hx.1).more (fun _ hi => .inl hi) (to_fresh h.fresh.2 hle), .refl _ _ _ _ _ _⟩
  | .ea _ _ _ _, c0, y, U, X, ρ, F, st, sh, b, b', v, Fc, st', h, _, _, _, _, _, _, hr, hle => by
    simp only [restore] at hr; cases run_pure hr
    exact ⟨ρ, F, sh, (h.less fun _ _ hx => hx.1).more (fun _ hi => .inl hi) (to_fresh h.fresh.2 hle), .refl _ _ _ _ _ _⟩
  | .ei _ _ _ _ _ _, c0, y, U, X, ρ, F, st, sh, b, b', v, Fc, st', h, _, _, _, _, _, _, hr, hle => by
    simp only [restore] at hr; cases run_pure hr
    exact ⟨ρ, F, sh, (h.less fun _ _ hx => hx.1).more (fun _ hi => .inl hi) (to_fresh h.fresh.2 hle), .refl _ _ _ _ _ _⟩
  | .sz _ _, c0, y, U, X, ρ, F, st, sh, b, b', v, Fc, st', h, _, _, _, _, _, _, hr, hle => by
    simp only [restore] at hr; cases run_pure hr
    exact ⟨ρ, F, sh, (h.less fun _ _ hx => hx.1).more (fun _ hi => .inl hi) (to_fresh h.fresh.2 hle), .refl _ _ _ _ _ _⟩
  | .ez _ _, c0, y, U, X, ρ, F, st, sh, b, b', v, Fc, st', h, _, _, _, _, _, _, hr, hle => by
    simp only [restore] at hr; cases run_pure hr
    exact ⟨ρ, F, sh, (h.less fun _ _ hx => hx.1).more (fun _ hi => .inl hi) (to_fresh h.fresh.2 hle), .refl _ _ _ _ _ _⟩
  | .tp _, c0, y, U, X, ρ, F, st, sh, b, b', v, Fc, st', h, _, _, _, _, _, _, hr, hle => by
    simp only [restore] at hr; cases run_pure hr
    exact ⟨ρ, F, sh, (h.less fun _ _ hx => hx.1).more (fun _ hi => .inl hi) (to_fresh h.fresh.2 hle), .refl _ _ _ _ _ _⟩
  | .un, c0, y, U, X, ρ, F, st, sh, b, b', v, Fc, st', h, _, _, _, _, _, _, hr, hle => by
    simp only [restore] at hr; cases run_pure hr
    exact ⟨ρ, F, sh, (h.less fun _ _ hx => hx.1).more (fun _ hi => .inl hi) (to_fresh h.fresh.2 hle), .refl _ _ _ _ _ _⟩
theorem restoreL_ok {q : Bool} : ∀ {xs : List TV} {cs0 ys : List CV} {U : Nat → Prop} {X : Cells} {ρ : Nat → Value} {F : Nat → Cells} {st : St} {sh : Shape} {b b' : Nat} {vs : List Value} {Fc : Cells} {st' : St}, GS cx U X ρ F st sh V a w → (∀ i, b ≤ i → i < V → ¬ U i) →
    TRL cx.P w cx.Z ρ F sh xs vs → idsInL U xs → PkL (Rd U ρ sh V st) xs cs0 → CRL cx.P w cx.Z ys vs Fc → (∀ b o, Fc b o → X b o) → (restoreL q V b xs cs0 ys).run st = some (b', st') → b' ≤ V - 1 →
    ∃ ρ' F' sh', GS cx (To U b b') (fun b o => X b o ∧ ¬ Fc b o) ρ' F' st' sh' V a w ∧ Old2 U V ρ ρ' F F' sh sh' st st'
  | [], cs0, ys, U, X, ρ, F, st, sh, b, b', vs, Fc, st', h, _, _, _, _, _, _, hr, hle => by
    simp only [restoreL] at hr; cases run_pure hr
    exact ⟨ρ, F, sh, (h.less fun _ _ hx => hx.1).more (fun _ hi => .inl hi) (to_fresh h.fresh.2 hle), .refl _ _ _ _ _ _⟩
  | x :: xs, [], ys, U, X, ρ, F, st, sh, b, b', vs, Fc, st', h, _, _, _, _, _, _, hr, hle => by
    simp only [restoreL] at hr; cases run_pure hr
    exact ⟨ρ, F, sh, (h.less fun _ _ hx => hx.1).more (fun _ hi => .inl hi) (to_fresh h.fresh.2 hle), .refl _ _ _ _ _ _⟩
  | x :: xs, c0 :: cs0, [], U, X, ρ, F, st, sh, b, b', vs, Fc, st', h, _, _, _, _, _, _, hr, hle => by
    simp only [restoreL] at hr; cases run_pure hr
    exact ⟨ρ, F, sh, (h.less fun _ _ hx => hx.1).more (fun _ hi => .inl hi) (to_fresh h.fresh.2 hle), .refl _ _ _ _ _ _⟩
  | x :: xs, c0 :: cs0, y :: ys, U, X, ρ, F, st, sh, b, b', vs, Fc, st', h, hb, hx, hi, hp, hy, hF, hr, hle => by
    simp only [restoreL] at hr
    obtain ⟨b1, s1, h1, h2⟩ := run_bind_some hr
    have le1 := restore_le h1
    have le2 := restoreL_le h2
    simp only [CRL] at hy
    simp only [PkL] at hp
    obtain ⟨v, vs', G1, G2, rfl, k2, k3, k4, k5⟩ := hy
    cases hx with
    | cons t1 t2 =>
      obtain ⟨ρ1, F1, sh1, g1, o1⟩ := restore_ok h hb t1 hi.1 hp.1 k2 (fun b o hf => hF b o ((k5 b o).2 (.inl hf))) h1 (by omega)
      obtain ⟨ρ2, F2, sh2, g2, o2⟩ := restoreL_ok g1 (fun i hi hi2 => by
        rintro (hu | hu)
        · exact hb i (by omega) hi2 hu
        · omega) (o1.trl h.fresh t2 hi.2) (idsInL.mono (fun i hi => .inl hi) hi.2) (PkL.mono (o1.rd fun i hi => .inl hi) hp.2) k3 (fun b o hf => ⟨hF b o ((k5 b o).2 (.inr hf)), fun hg => k4 b o hg hf⟩) h2 hle
      have hsub : ∀ i, To (To U b b1) b1 b' i → To U b b' i := by
        rintro i ((hi | hi) | hi)
        · exact .inl hi
        · exact .inr ⟨hi.1, by omega⟩
        · exact .inr ⟨by omega, hi.2⟩
      exact ⟨ρ2, F2, sh2, (g2.less fun b o hx => ⟨⟨hx.1, fun hg => hx.2 ((k5 b o).2 (.inl hg))⟩, fun hg => hx.2 ((k5 b o).2 (.inr hg))⟩).more hsub (to_fresh h.fresh.2 hle), o1.trans o2 fun i hi => .inl hi⟩
end

end Go.Proofs.Ytkoljcjliihiiaa.VM

/- The interpreter 'VM': what is lent at a call, and what comes back. -/
import Derived.Test.YtkoljcjliihiiaaVmN
namespace Go.Proofs.Ytkoljcjliihiiaa.VM
open Go

variable {cx : Cx} {U : Nat → Prop} {X : Cells} {ρ : Nat → Value} {F : Nat → Cells} {st : St} {sh : Shape} {V : Nat} {a : Act} {w : World}

/-! ### lent -/
structure Away (U : Nat → Prop) (V : Nat) (sh sh' : Shape) (st st' : St) : Prop where
  node : ∀ j, st'.node j = st.node j ∨ st'.node j = none
  shape : ShapeKept U sh sh'
  dead : ∀ j e l, sh j = some (V, e, l) → sh' j = some (V, e, l)
  slots : st'.slots = st.slots

theorem Away.refl (U : Nat → Prop) (V : Nat) (sh : Shape) (st : St) : Away U V sh sh st st := ⟨fun _ => .inl rfl, .refl _ _, fun _ _ _ h => h, rfl⟩

theorem Away.trans {sh1 sh2 sh3 : Shape} {st1 st2 st3 : St} (h : Away U V sh1 sh2 st1 st2) (h' : Away U V sh2 sh3 st2 st3) : Away U V sh1 sh3 st1 st3 :=
  ⟨fun j => (h'.node j).elim (fun e => e ▸ h.node j) .inr, h.shape.trans h'.shape, fun j e l hs => h'.dead j e l (h.dead j e l hs), h'.slots.trans h.slots⟩

theorem Away.drop (h : GS cx U X ρ F st sh V a w) (id : Nat) : Away U V sh (dropSh sh V id) st (st.setNode id none) := by
  refine ⟨fun j => ?_, dropSh_kept h.fresh id, fun j e l hs => ?_, rfl⟩
  · rw [St.setNode_node]
    split
    · exact .inr rfl
    · exact .inl rfl
  · unfold dropSh
    split
    · rw [hs]; rfl
    · exact hs

mutual
/-- What is told of the slices that are handed over. -/
def Pk (R : Nat → Nat → Nat → Prop) : TV → CV → Prop
  | .rf id, .sl false e es => R id e es.length
  | .fn _ fs cs, .fn _ fs0 cs0 => PkL R fs fs0 ∧ PkL R cs cs0
  | .st cs, .st cs0 => PkL R cs cs0
  | .ic _ x, .ic _ x0 => Pk R x x0
  | _, _ => True
def PkL (R : Nat → Nat → Nat → Prop) : List TV → List CV → Prop
  | x :: xs, y :: ys => Pk R x y ∧ PkL R xs ys
  | _, _ => True
end

mutual
theorem Pk.mono {R R' : Nat → Nat → Nat → Prop} (hR : ∀ id e l, R id e l → R' id e l) : ∀ {x : TV} {y : CV}, Pk R x y → Pk R' x y
  | .rf id, y, h => by
    cases y with
    | sl z e es =>
      cases z with
      | false => simp only [Pk] at h ⊢; exact hR _ _ _ h
      | true => simp only [Pk]
    | _ => simp only [Pk]
  | .fn f fs cs, y, h => by
    cases y with
    | fn g fs0 cs0 => simp only [Pk] at h ⊢; exact ⟨PkL.mono hR h.1, PkL.mono hR h.2⟩
    | _ => simp only [Pk]
  | .st cs, y, h => by
    cases y with
    | st cs0 => simp only [Pk] at h ⊢; exact PkL.mono hR h
    | _ => simp only [Pk]
  | .ic t x, y, h => by
    cases y with
    | ic t0 x0 => simp only [Pk] at h ⊢; exact Pk.mono hR h
    | _ => simp only [Pk]
  | .a _, y, h => by simp only [Pk]
  | .nl _, y, h => by simp only [Pk]
  | .ri _ _ _, y, h => by simp only [Pk]
  | .sb _ _ _, y, h => by simp only [Pk]
  | .ad _ _, y, h => by simp only [Pk]
  | .ea _ _ _ _, y, h => by simp only [Pk]
  | .ei _ _ _ _ _ _, y, h => by simp only [Pk]
  | .sz _ _, y, h => by simp only [Pk]
  | .ez _ _, y, h => by simp only [Pk]
  | .tp _, y, h => by simp only [Pk]
  | .un, y, h => by simp only [Pk]
theorem PkL.mono {R R' : Nat → Nat → Nat → Prop} (hR : ∀ id e l, R id e l → R' id e l) : ∀ {xs : List TV} {ys : List CV}, PkL R xs ys → PkL R' xs ys
  | [], ys, h => by simp only [PkL]
  | x :: xs, [], h => by simp only [PkL]
  | x :: xs, y :: ys, h => by simp only [PkL] at h ⊢; exact ⟨Pk.mono hR h.1, PkL.mono hR h.2⟩
end

def Rl (U : Nat → Prop) (ρ : Nat → Value) (sh : Shape) (V : Nat) : Nat → Nat → Nat → Prop := fun id e l => U id ∧ sh id = some (V, e, l) ∧ ∃ x cap, ρ id = .slice x l cap

theorem Away.rl {sh1 sh2 : Shape} {st1 st2 : St} (h : Away U V sh1 sh2 st1 st2) : ∀ id e l, Rl U ρ sh1 V id e l → Rl U ρ sh2 V id e l := fun id e l hr => ⟨hr.1, h.dead id e l hr.2.1, hr.2.2⟩

mutual
theorem pack_ok {fz : Bool} : ∀ (k : Nat) {X : Cells} {st : St} {sh : Shape} {c : TV} {v : Value} {y : CV} {st' : St}, GS cx U X ρ F st sh V a w → TR cx.P w cx.Z ρ F sh c v → idsIn U c → (pack fz k c).run st = some (y, st') →
    ∃ Fc sh', CR cx.P w cx.Z y v Fc ∧ GS cx U (fun b o => X b o ∨ Fc b o) ρ F st' sh' V a w ∧ Apart Fc X ∧ Away U V sh sh' st st' ∧ Pk (Rl U ρ sh' V) c y
  | 0, X, st, sh, c, v, y, st', h, hc, hi, hr => by simp only [pack] at hr; exact (run_fail hr).elim
  | k + 1, X, st, sh, c, v, y, st', h, hc, hi, hr => by
    have none_ : GS cx U (fun b o => X b o ∨ Nil b o) ρ F st sh V a w := h.less fun _ _ hx => hx.elim (fun h => h) fun h => h.elim
    cases c with
    | a u =>
      simp only [pack] at hr
      cases run_pure hr
      exact ⟨Nil, sh, by simp only [CR]; exact ⟨tr_a hc, fun _ _ h => h⟩, none_, fun _ _ h => h.elim, .refl _ _ _ _, by simp only [Pk]⟩
    | nl e =>
      simp only [pack] at hr
      cases run_pure hr
      cases hc with
      | nl _ m hm => exact ⟨Nil, sh, by simp only [CR]; exact .nil e m _ hm fun _ _ h => h, none_, fun _ _ h => h.elim, .refl _ _ _ _, by simp only [Pk]⟩
    | sz e es =>
      simp only [pack] at hr
      split at hr
      · cases run_pure hr
        cases hc with
        | sz _ _ _ hrc => exact ⟨Nil, sh, by simp only [CR, if_true]; exact ⟨hrc, fun _ _ h => h⟩, none_, fun _ _ h => h.elim, .refl _ _ _ _, by simp only [Pk]⟩
      · exact (run_fail hr).elim
    | st cs =>
      simp only [pack] at hr
      obtain ⟨ys, s1, h1, h2⟩ := run_bind_some hr
      cases run_pure h2
      cases hc with
      | st _ us hl hcc =>
        obtain ⟨Fc, sh', k1, k2, k3, k4, k5⟩ := packL_ok k h (.of (by rw [Array.length_toList]; exact hl) fun i c u k1 k2 => hcc i c u k1 (by simpa using k2)) hi h1
        exact ⟨Fc, sh', by simp only [CR]; exact ⟨us, rfl, k1⟩, k2, k3, k4, by simp only [Pk]; exact k5⟩
    | fn f fs cs =>
      simp only [pack] at hr
      obtain ⟨ys, s1, h1, h2⟩ := run_bind_some hr
      obtain ⟨zs, s2, h3, h4⟩ := run_bind_some h2
      cases run_pure h4
      cases hc with
      | fn _ _ _ xs us hx hl hf hcc =>
        obtain ⟨F1, sh1, k1, k2, k3, k4, k5⟩ := packL_ok k h (.of (by rw [Array.length_toList]; exact hx) fun i c u k1 k2 => hf i c u k1 (by simpa using k2)) hi.1 h1
        obtain ⟨F2, sh2, l1, l2, l3, l4, l5⟩ := packL_ok k k2 (.of (by rw [Array.length_toList]; exact hl) fun i c u k1 k2 => (hcc i c u k1 (by simpa using k2)).shape (idsInL_get hi.2 k1) k4.shape) hi.2 h3
        refine ⟨fun b o => F1 b o ∨ F2 b o, sh2, ?_, l2.less fun b o hx => hx.elim (fun h => .inl (.inl h)) fun h => h.elim (fun h => .inl (.inr h)) .inr, ?_, k4.trans l4, ?_⟩
        · simp only [CR]
          exact ⟨xs, us, F1, F2, rfl, k1, l1, fun b o h1 h2 => l3 b o h2 (.inr h1), fun _ _ => Iff.rfl⟩
        · rintro b o (hf | hf) hx
          · exact k3 b o hf hx
          · exact l3 b o hf (.inl hx)
        · simp only [Pk]
          exact ⟨PkL.mono l4.rl k5, l5⟩
    | ic t x =>
      simp only [pack] at hr
      obtain ⟨y', s1, h1, h2⟩ := run_bind_some hr
      cases run_pure h2
      cases hc with
      | ic _ _ u hx =>
        obtain ⟨Fc, sh', k1, k2, k3, k4, k5⟩ := pack_ok k h hx hi h1
        exact ⟨Fc, sh', by simp only [CR]; exact ⟨u, rfl, k1⟩, k2, k3, k4, by simp only [Pk]; exact k5⟩
    | un =>
      simp only [pack] at hr
      cases run_pure hr
      exact ⟨Nil, sh, by simp only [CR]; exact fun _ _ h => h, none_, fun _ _ h => h.elim, .refl _ _ _ _, by simp only [Pk]⟩
    | rf id =>
      simp only [pack] at hr
      obtain ⟨nd, s1, h1, h2⟩ := run_bind_some hr
      cases run_getN h1
      have hv : v = ρ id := by cases hc; rfl
      split at h2
      · rename_i q ver e es hn
        split at h2
        · exact (run_fail h2).elim
        · obtain ⟨_, s2, h3, h4⟩ := run_bind_some h2
          cases run_setN h3
          cases run_pure h4
          have hN := h.nodes id _ hn
          cases hN with
          | sl _ _ _ _ hd =>
            refine ⟨F id, _, ?_, h.drop hn, h.apartX id (by rw [hn]; rfl), Away.drop h id, ?_⟩
            · simp only [CR]
              rw [hv]; exact hd
            · simp only [Pk]
              obtain ⟨x, cap, hs, _⟩ := hd.rd.slice
              refine ⟨hi, ?_, x, cap, hs⟩
              unfold dropSh
              rw [if_pos rfl, h.agree id _ hn]
              unfold shapeOf
              rw [hn]
              rfl
      · rename_i z cs hn
        split at h2
        · exact (run_fail h2).elim
        · rename_i hz
          have hz' : z = false := by cases z with | false => rfl | true => exact absurd rfl hz
          subst hz'
          obtain ⟨_, s2, h3, h4⟩ := run_bind_some h2
          cases run_setN h3
          obtain ⟨ys, s3, h5, h6⟩ := run_bind_some h4
          cases run_pure h6
          have hN := h.nodes id _ hn
          have hus := (h.used id _ hn).2
          cases hN with
          | bx _ _ b off cur t hr0 hb hsz hne hcc hF hzz =>
            have htr : TRL cx.P w cx.Z ρ F (dropSh sh V id) cs ((cur.toList.drop off).take cs.length) := by
              refine .of (by simp; omega) fun i c u k1 k2 => (hcc i c k1 u ?_).shape (idsInL_get hus k1) (dropSh_kept h.fresh id)
              rw [List.getElem?_take] at k2
              split at k2
              · simpa using k2
              · cases k2
            obtain ⟨Fi, sh', k1, k2, k3, k4, _⟩ := packL_ok k (h.drop hn) htr hus h5
            have hlen : ys.length = cs.length := by rw [← k1.length]; simp; omega
            refine ⟨fun b o => F id b o ∨ Fi b o, sh', ?_, k2.less fun b o hx => hx.elim (fun h => .inl (.inl h)) fun h => h.elim (fun h => .inl (.inr h)) .inr, ?_, (Away.drop h id).trans k4, by simp only [Pk]⟩
            · simp only [CR]
              refine ⟨b, off, cur, t, Fi, hv.trans hr0, hb, by omega, by intro e; rw [e] at hlen; exact hne (List.eq_nil_of_length_eq_zero hlen.symm), by rw [hlen]; exact k1, (fun e => by cases e), fun _ o h1 h2 hf => ?_, fun b' o' => ?_⟩
              · exact k3 b o hf (.inr ((hF b o).2 ⟨rfl, rfl, h1, by omega⟩))
              · simp only [hF b' o', hlen, true_and]
            · rintro b o (hf | hf) hx
              · exact h.apartX id (by rw [hn]; rfl) b o hf hx
              · exact k3 b o hf (.inl hx)
      · cases run_pure h2
        exact ⟨Nil, sh, by simp only [CR]; exact fun _ _ h => h, none_, fun _ _ h => h.elim, .refl _ _ _ _, by simp only [Pk]⟩
    | ri id ver p => simp only [pack] at hr; exact (run_fail hr).elim
    | sb id lo n => simp only [pack] at hr; exact (run_fail hr).elim
    | ad id o => simp only [pack] at hr; exact (run_fail hr).elim
    | tp cs => simp only [pack] at hr; exact (run_fail hr).elim
    | ea id i m o => simp only [pack] at hr; exact (run_fail hr).elim
    | ei id ver p i m o => simp only [pack] at hr; exact (run_fail hr).elim
    | ez cs o => simp only [pack] at hr; exact (run_fail hr).elim
theorem packL_ok {fz : Bool} : ∀ (k : Nat) {X : Cells} {st : St} {sh : Shape} {cs : List TV} {vs : List Value} {ys : List CV} {st' : St}, GS cx U X ρ F st sh V a w → TRL cx.P w cx.Z ρ F sh cs vs → idsInL U cs → (packL fz k cs).run st = some (ys, st') →
    ∃ Fc sh', CRL cx.P w cx.Z ys vs Fc ∧ GS cx U (fun b o => X b o ∨ Fc b o) ρ F st' sh' V a w ∧ Apart Fc X ∧ Away U V sh sh' st st' ∧ PkL (Rl U ρ sh' V) cs ys
  | 0, X, st, sh, cs, vs, ys, st', h, hc, hi, hr => by simp only [packL] at hr; exact (run_fail hr).elim
  | k + 1, X, st, sh, cs, vs, ys, st', h, hc, hi, hr => by
    cases hc with
    | nil =>
      simp only [packL] at hr
      cases run_pure hr
      exact ⟨Nil, sh, crl_nil, h.less fun _ _ hx => hx.elim (fun h => h) fun h => h.elim, fun _ _ h => h.elim, .refl _ _ _ _, by simp only [PkL]⟩
    | @cons c v cs vs hx hs =>
      simp only [packL] at hr
      obtain ⟨y, s1, h1, h2⟩ := run_bind_some hr
      obtain ⟨ys', s2, h3, h4⟩ := run_bind_some h2
      cases run_pure h4
      obtain ⟨F1, sh1, k1, k2, k3, k4, k5⟩ := pack_ok k h hx hi.1 h1
      have hs' : TRL cx.P w cx.Z ρ F sh1 cs vs := .of hs.length fun i c u k1 k2 => (hs.get i c u k1 k2).shape (idsInL_get hi.2 k1) k4.shape
      obtain ⟨F2, sh2, l1, l2, l3, l4, l5⟩ := packL_ok k k2 hs' hi.2 h3
      refine ⟨fun b o => F1 b o ∨ F2 b o, sh2, ?_, l2.less fun b o hx => hx.elim (fun h => .inl (.inl h)) fun h => h.elim (fun h => .inl (.inr h)) .inr, ?_, k4.trans l4, ?_⟩
      · simp only [CRL]
        exact ⟨v, vs, F1, F2, rfl, k1, l1, fun b o h1 h2 => l3 b o h2 (.inr h1), fun _ _ => Iff.rfl⟩
      · rintro b o (hf | hf) hx
        · exact k3 b o hf hx
        · exact l3 b o hf (.inl hx)
      · simp only [PkL]
        exact ⟨Pk.mono l4.rl k5, l5⟩
end

end Go.Proofs.Ytkoljcjliihiiaa.VM

/- The interpreter 'VM': calls. -/
import Derived.Test.YtkoljcjliihiiaaVmQ
namespace Go.Proofs.Ytkoljcjliihiiaa.VM
open Go

variable {cx : Cx} {U : Nat → Prop} {X : Cells} {ρ : Nat → Value} {F : Nat → Cells} {st : St} {sh : Shape} {V : Nat} {a : Act} {w : World}

/-! ### arguments -/
def PkM (R : Nat → Nat → Nat → Prop) : List Md → List TV → List CV → Prop
  | .ro _ :: ms, _ :: xs, _ :: cs => PkM R ms xs cs
  | .mut _ :: ms, x :: xs, c :: cs => Pk R x c ∧ PkM R ms xs cs
  | _, _, _ => True

theorem PkM.mono {R R' : Nat → Nat → Nat → Prop} (hR : ∀ id e l, R id e l → R' id e l) : ∀ {ms : List Md} {xs : List TV} {ys : List CV}, PkM R ms xs ys → PkM R' ms xs ys
  | [], xs, ys, h => by cases xs <;> cases ys <;> simp only [PkM]
  | m :: ms, [], ys, h => by cases m <;> cases ys <;> simp only [PkM]
  | m :: ms, x :: xs, [], h => by cases m <;> simp only [PkM]
  | .ro _ :: ms, x :: xs, y :: ys, h => by simp only [PkM] at h ⊢; exact PkM.mono hR h
  | .mut _ :: ms, x :: xs, y :: ys, h => by simp only [PkM] at h ⊢; exact ⟨Pk.mono hR h.1, PkM.mono hR h.2⟩

theorem lend_ok {keeps : Bool} : ∀ (ms : List Md) {X : Cells} {st : St} {sh : Shape} {xs : List TV} {vs : List Value} {ys : List CV} {st' : St}, GS cx U X ρ F st sh V a w → TRL cx.P w cx.Z ρ F sh xs vs → idsInL U xs → (lend keeps ms xs).run st = some (ys, st') →
    ∃ Fc sh', CRL cx.P w cx.Z ys vs Fc ∧ GS cx U (fun b o => X b o ∨ Fc b o) ρ F st' sh' V a w ∧ Apart Fc X ∧ Away U V sh sh' st st' ∧ PkM (Rl U ρ sh' V) ms xs ys
  | [], X, st, sh, xs, vs, ys, st', h, hx, hi, hr => by
    cases hx with
    | nil =>
      simp only [lend] at hr
      cases run_pure hr
      exact ⟨Nil, sh, crl_nil, h.less fun _ _ hx => hx.elim (fun h => h) fun h => h.elim, fun _ _ h => h.elim, .refl _ _ _ _, by simp only [PkM]⟩
    | cons => simp only [lend] at hr; exact (run_fail hr).elim
  | .ro n :: ms, X, st, sh, xs, vs, ys, st', h, hx, hi, hr => by
    cases hx with
    | nil => simp only [lend] at hr; exact (run_fail hr).elim
    | @cons c v cs vs h1 hs =>
      simp only [lend] at hr
      obtain ⟨ys', s2, h3, h4⟩ := run_bind_some hr
      cases run_pure h4
      obtain ⟨F2, sh2, l1, l2, l3, l4, l5⟩ := lend_ok ms h hs hi.2 h3
      refine ⟨F2, sh2, ?_, l2, l3, l4, by simp only [PkM]; exact l5⟩
      simp only [CRL, CR]
      exact ⟨v, vs, Nil, F2, rfl, fun _ _ h => h, l1, fun _ _ h => h.elim, fun b o => ⟨.inr, fun h => h.elim (fun h => h.elim) fun h => h⟩⟩
  | .mut n :: ms, X, st, sh, xs, vs, ys, st', h, hx, hi, hr => by
    cases hx with
    | nil => simp only [lend] at hr; exact (run_fail hr).elim
    | @cons c v cs vs h1 hs =>
      simp only [lend] at hr
      obtain ⟨y, s1, k1, k2⟩ := run_bind_some hr
      obtain ⟨ys', s2, h3, h4⟩ := run_bind_some k2
      cases run_pure h4
      obtain ⟨F1, sh1, k1, k2, k3, k4, k5⟩ := pack_ok depth h h1 hi.1 k1
      have hs' : TRL cx.P w cx.Z ρ F sh1 cs vs := .of hs.length fun i c u k1 k2 => (hs.get i c u k1 k2).shape (idsInL_get hi.2 k1) k4.shape
      obtain ⟨F2, sh2, l1, l2, l3, l4, l5⟩ := lend_ok ms k2 hs' hi.2 h3
      refine ⟨fun b o => F1 b o ∨ F2 b o, sh2, ?_, l2.less fun b o hx => hx.elim (fun h => .inl (.inl h)) fun h => h.elim (fun h => .inl (.inr h)) .inr, ?_, k4.trans l4, ?_⟩
      · simp only [CRL]
        exact ⟨v, vs, F1, F2, rfl, k1, l1, fun b o h1 h2 => l3 b o h2 (.inr h1), fun _ _ => Iff.rfl⟩
      · rintro b o (hf | hf) hx
        · exact k3 b o hf hx
        · exact l3 b o hf (.inl hx)
      · simp only [PkM]
        exact ⟨Pk.mono l4.rl k5, l5⟩

theorem cr_zr (z : Bool) {c : CV} {v : Value} {Fc : Cells} (h : CR cx.P w cx.Z c v Fc) : CR cx.P w (ZR z cx F st) c v Fc :=
  CR.mono (fun _ _ _ cur _ _ hb => ⟨cur, hb, rfl, rfl⟩) (fun _ _ h => .inl h) h fun _ _ _ cur _ _ hb => ⟨cur, hb, rfl, rfl⟩

theorem show_ok {keeps : Bool} (h : G cx U X ρ F st a w) {R : Nat → Nat → Nat → Prop} : ∀ (ms : List Md) {xs : List TV} {vs : List Value} {ys cs : List CV} {Fc : Cells} {st' : St}, TRL cx.P w cx.Z ρ F (shapeOf st) xs vs → idsInL U xs → CRL cx.P w cx.Z ys vs Fc → PkM R ms xs ys →
    (show_ keeps ms xs ys).run st = some (cs, st') → st' = st ∧ (∃ Fd, CRL cx.P w (ZR keeps cx F st) cs vs Fd ∧ ∀ b o, Fd b o → Fc b o) ∧ PkM R ms xs cs
  | [], xs, vs, ys, cs, Fc, st', hx, hi, hy, hp, hr => by
    cases hx with
    | nil =>
      cases ys with
      | nil =>
        simp only [show_] at hr
        cases run_pure hr
        refine ⟨rfl, ⟨Fc, ?_, fun _ _ h => h⟩, by simp only [PkM]⟩
        simp only [CRL] at hy ⊢
        exact hy
      | cons => simp only [show_] at hr; exact (run_fail hr).elim
    | cons => simp only [show_] at hr; exact (run_fail hr).elim
  | .ro n :: ms, xs, vs, ys, cs, Fc, st', hx, hi, hy, hp, hr => by
    cases hx with
    | nil => simp only [show_] at hr; exact (run_fail hr).elim
    | @cons c v cs' vs h1 hs =>
      cases ys with
      | nil => simp only [show_] at hr; exact (run_fail hr).elim
      | cons y ys =>
        simp only [show_] at hr
        obtain ⟨y', s1, k1, k2⟩ := run_bind_some hr
        obtain ⟨ys', s2, k3, k4⟩ := run_bind_some k2
        cases run_pure k4
        obtain ⟨e1, m1⟩ := freeze_ok h depth h1 hi.1 k1
        have e1' := e1.symm
        subst e1'
        simp only [CRL] at hy ⊢
        obtain ⟨v0, vs0, F1, F2, e0, j1, j2, j3, j4⟩ := hy
        cases e0
        simp only [PkM] at hp ⊢
        obtain ⟨e2, ⟨Fd, m2, m4⟩, m3⟩ := show_ok h ms hs hi.2 j2 hp k3
        exact ⟨e2, ⟨Fd, ⟨v, vs, Nil, Fd, rfl, m1, m2, fun _ _ h => h.elim, fun _ _ => ⟨.inr, fun h => h.elim (fun h => h.elim) fun h => h⟩⟩, fun b o hf => (j4 b o).2 (.inr (m4 b o hf))⟩, m3⟩
  | .mut n :: ms, xs, vs, ys, cs, Fc, st', hx, hi, hy, hp, hr => by
    cases hx with
    | nil => simp only [show_] at hr; exact (run_fail hr).elim
    | @cons c v cs' vs h1 hs =>
      cases ys with
      | nil => simp only [show_] at hr; exact (run_fail hr).elim
      | cons y ys =>
        simp only [show_] at hr
        obtain ⟨ys', s2, k3, k4⟩ := run_bind_some hr
        cases run_pure k4
        simp only [CRL] at hy ⊢
        obtain ⟨v0, vs0, F1, F2, e0, j1, j2, j3, j4⟩ := hy
        cases e0
        simp only [PkM] at hp ⊢
        obtain ⟨e2, ⟨Fd, m2, m4⟩, m3⟩ := show_ok h ms hs hi.2 j2 hp.2 k3
        exact ⟨e2, ⟨fun b o => F1 b o ∨ Fd b o, ⟨v, vs, F1, Fd, rfl, cr_zr keeps j1, m2, fun b o h1 h2 => j3 b o h1 (m4 b o h2), fun _ _ => Iff.rfl⟩, fun b o hf => (j4 b o).2 (hf.imp (fun h => h) (m4 b o))⟩, hp.1, m3⟩

/-! ### results -/
def muts : List Md → List Value → List Value
  | .ro _ :: ms, _ :: vs => muts ms vs
  | .mut _ :: ms, v :: vs => v :: muts ms vs
  | _, _ => []

theorem takeBack_le {q : Bool} : ∀ {ms : List Md} {xs : List TV} {cs fs : List CV} {b : Nat} {st : St} {b' : Nat} {st' : St}, (takeBack q V b ms xs cs fs).run st = some (b', st') → b ≤ b'
  | [], [], [], [], b, st, b', st', h => by simp only [takeBack] at h; cases run_pure h; exact Nat.le_refl _
  | .ro _ :: ms, x :: xs, c :: cs, fs, b, st, b', st', h => by simp only [takeBack] at h; exact takeBack_le h
  | .mut _ :: ms, x :: xs, c :: cs, f :: fs, b, st, b', st', h => by
    simp only [takeBack] at h
    obtain ⟨b1, s1, h1, h2⟩ := run_bind_some h
    exact Nat.le_trans (restore_le h1) (takeBack_le h2)
  | [], _ :: _, _, _, b, st, b', st', h => by simp only [takeBack] at h; exact (run_fail h).elim
  | [], [], _ :: _, _, b, st, b', st', h => by simp only [takeBack] at h; exact (run_fail h).elim
  | [], [], [], _ :: _, b, st, b', st', h => by simp only [takeBack] at h; exact (run_fail h).elim
  | .ro _ :: _, [], _, _, b, st, b', st', h => by simp only [takeBack] at h; exact (run_fail h).elim
  | .ro _ :: _, _ :: _, [], _, b, st, b', st', h => by simp only [takeBack] at h; exact (run_fail h).elim
  | .mut _ :: _, [], _, _, b, st, b', st', h => by simp only [takeBack] at h; exact (run_fail h).elim
  | .mut _ :: _, _ :: _, [], _, b, st, b', st', h => by simp only [takeBack] at h; exact (run_fail h).elim
  | .mut _ :: _, _ :: _, _ :: _, [], b, st, b', st', h => by simp only [takeBack] at h; exact (run_fail h).elim

theorem takeBack_ok {q : Bool} : ∀ {ms : List Md} {xs : List TV} {cs fs : List CV} {U : Nat → Prop} {X : Cells} {ρ : Nat → Value} {F : Nat → Cells} {st : St} {sh : Shape} {b b' : Nat} {vs : List Value} {Fc : Cells} {st' : St}, GS cx U X ρ F st sh V a w →
    (∀ i, b ≤ i → i < V → ¬ U i) → TRL cx.P w cx.Z ρ F sh xs vs → idsInL U xs → PkM (Rd U ρ sh V st) ms xs cs → CRL cx.P w cx.Z fs (muts ms vs) Fc → (∀ b o, Fc b o → X b o) → (takeBack q V b ms xs cs fs).run st = some (b', st') → b' ≤ V - 1 →
    ∃ ρ' F' sh', GS cx (To U b b') (fun b o => X b o ∧ ¬ Fc b o) ρ' F' st' sh' V a w ∧ Old2 U V ρ ρ' F F' sh sh' st st'
  | [], [], [], [], U, X, ρ, F, st, sh, b, b', vs, Fc, st', h, hb, hx, hi, hp, hy, hF, hr, hle => by
    simp only [takeBack] at hr
    cases run_pure hr
    exact ⟨ρ, F, sh, (h.less fun _ _ hx => hx.1).more (fun _ hi => .inl hi) (to_fresh h.fresh.2 hle), .refl _ _ _ _ _ _⟩
  | .ro _ :: ms, x :: xs, c :: cs, fs, U, X, ρ, F, st, sh, b, b', vs, Fc, st', h, hb, hx, hi, hp, hy, hF, hr, hle => by
    simp only [takeBack] at hr
    cases hx with
    | cons t1 t2 =>
      simp only [muts] at hy
      simp only [PkM] at hp
      exact takeBack_ok h hb t2 hi.2 hp hy hF hr hle
  | .mut _ :: ms, x :: xs, c :: cs, f :: fs, U, X, ρ, F, st, sh, b, b', vs, Fc, st', h, hb, hx, hi, hp, hy, hF, hr, hle => by
    simp only [takeBack] at hr
    obtain ⟨b1, s1, h1, h2⟩ := run_bind_some hr
    have le1 := restore_le h1
    have le2 := takeBack_le h2
    cases hx with
    | cons t1 t2 =>
      simp only [muts, CRL] at hy
      simp only [PkM] at hp
      obtain ⟨v, vs', G1, G2, e0, k2, k3, k4, k5⟩ := hy
      cases e0
      obtain ⟨ρ1, F1, sh1, g1, o1⟩ := restore_ok h hb t1 hi.1 hp.1 k2 (fun b o hf => hF b o ((k5 b o).2 (.inl hf))) h1 (by omega)
      obtain ⟨ρ2, F2, sh2, g2, o2⟩ := takeBack_ok g1 (fun i hi hi2 => by
        rintro (hu | hu)
        · exact hb i (by omega) hi2 hu
        · omega) (o1.trl h.fresh t2 hi.2) (idsInL.mono (fun i hi => .inl hi) hi.2) (PkM.mono (o1.rd fun i hi => .inl hi) hp.2) k3 (fun b o hf => ⟨hF b o ((k5 b o).2 (.inr hf)), fun hg => k4 b o hg hf⟩) h2 hle
      have hsub : ∀ i, To (To U b b1) b1 b' i → To U b b' i := by
        rintro i ((hi | hi) | hi)
        · exact .inl hi
        · exact .inr ⟨hi.1, by omega⟩
        · exact .inr ⟨by omega, hi.2⟩
      exact ⟨ρ2, F2, sh2, (g2.less fun b o hx => ⟨⟨hx.1, fun hg => hx.2 ((k5 b o).2 (.inl hg))⟩, fun hg => hx.2 ((k5 b o).2 (.inr hg))⟩).more hsub (to_fresh h.fresh.2 hle), o1.trans o2 fun i hi => .inl hi⟩
  | [], _ :: _, _, _, U, X, ρ, F, st, sh, b, b', vs, Fc, st', h, hb, hx, hi, hp, hy, hF, hr, hle => by simp only [takeBack] at hr; exact (run_fail hr).elim
  | [], [], _ :: _, _, U, X, ρ, F, st, sh, b, b', vs, Fc, st', h, hb, hx, hi, hp, hy, hF, hr, hle => by simp only [takeBack] at hr; exact (run_fail hr).elim
  | [], [], [], _ :: _, U, X, ρ, F, st, sh, b, b', vs, Fc, st', h, hb, hx, hi, hp, hy, hF, hr, hle => by simp only [takeBack] at hr; exact (run_fail hr).elim
  | .ro _ :: _, [], _, _, U, X, ρ, F, st, sh, b, b', vs, Fc, st', h, hb, hx, hi, hp, hy, hF, hr, hle => by simp only [takeBack] at hr; exact (run_fail hr).elim
  | .ro _ :: _, _ :: _, [], _, U, X, ρ, F, st, sh, b, b', vs, Fc, st', h, hb, hx, hi, hp, hy, hF, hr, hle => by simp only [takeBack] at hr; exact (run_fail hr).elim
  | .mut _ :: _, [], _, _, U, X, ρ, F, st, sh, b, b', vs, Fc, st', h, hb, hx, hi, hp, hy, hF, hr, hle => by simp only [takeBack] at hr; exact (run_fail hr).elim
  | .mut _ :: _, _ :: _, [], _, U, X, ρ, F, st, sh, b, b', vs, Fc, st', h, hb, hx, hi, hp, hy, hF, hr, hle => by simp only [takeBack] at hr; exact (run_fail hr).elim
  | .mut _ :: _, _ :: _, _ :: _, [], U, X, ρ, F, st, sh, b, b', vs, Fc, st', h, hb, hx, hi, hp, hy, hF, hr, hle => by simp only [takeBack] at hr; exact (run_fail hr).elim

theorem CRL.split {P : Program} {Z : Cells} : ∀ {cs ds : List CV} {L : List Value} {Fc : Cells}, CRL P w Z (cs ++ ds) L Fc → ∃ L1 L2 F1 F2, L = L1 ++ L2 ∧ L1.length = cs.length ∧ CRL P w Z cs L1 F1 ∧ CRL P w Z ds L2 F2 ∧ Apart F1 F2 ∧ ∀ b o, Fc b o ↔ (F1 b o ∨ F2 b o)
  | [], ds, L, Fc, h => ⟨[], L, Nil, Fc, rfl, rfl, crl_nil, h, fun _ _ h => h.elim, fun _ _ => ⟨.inr, fun h => h.elim (fun h => h.elim) fun h => h⟩⟩
  | c :: cs, ds, L, Fc, h => by
    simp only [List.cons_append, CRL] at h
    obtain ⟨v, vs', G1, G2, rfl, k2, k3, k4, k5⟩ := h
    obtain ⟨L1, L2, F1, F2, rfl, m1, m2, m3, m4, m5⟩ := CRL.split k3
    refine ⟨v :: L1, L2, fun b o => G1 b o ∨ F1 b o, F2, rfl, by simp [m1], ?_, m3, ?_, fun b o => ?_⟩
    · simp only [CRL]
      exact ⟨v, L1, G1, F1, rfl, k2, m2, fun b o h1 h2 => k4 b o h1 ((m5 b o).2 (.inl h2)), fun _ _ => Iff.rfl⟩
    · rintro b o (h1 | h1) h2
      · exact k4 b o h1 ((m5 b o).2 (.inr h2))
      · exact m4 b o h1 h2
    · rw [k5 b o, m5 b o, or_assoc]

end Go.Proofs.Ytkoljcjliihiiaa.VM

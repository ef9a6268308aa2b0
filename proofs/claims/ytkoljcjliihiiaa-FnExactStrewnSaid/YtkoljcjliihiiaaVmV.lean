/- The interpreter 'VM': a function of the program keeps the contract that the interpreter computes for it. -/
import Derived.Test.YtkoljcjliihiiaaVmP
namespace Go.Proofs.Ytkoljcjliihiiaa.VM
open Go

variable {cx : Cx} {U : Nat → Prop} {X : Cells} {ρ : Nat → Value} {F : Nat → Cells} {st : St} {sh : Shape} {V : Nat} {a : Act} {w : World} {Φ : Nat → Option Callee}

/-! ### nothing frozen in what is given away -/
mutual
def cown : CV → Prop
  | .a _ => True
  | .sl z _ es => z = false ∧ nofzL es
  | .bx z cs => z = false ∧ cownL cs
  | .st cs => cownL cs
  | .tp cs => cownL cs
  | .fn _ fs cs => cownL fs ∧ cownL cs
  | .ic _ c => cown c
  | .un => True
def cownL : List CV → Prop
  | [] => True
  | c :: cs => cown c ∧ cownL cs
end

mutual
theorem cown.nofz : ∀ {c : CV}, cown c → cnofz c
  | .a _, _ => by simp only [cnofz]
  | .sl z _ es, h => by simp only [cown] at h; simp only [cnofz]; exact fun _ => h.2
  | .bx z cs, h => by simp only [cown] at h; simp only [cnofz]; exact cownL.nofz h.2
  | .st cs, h => by simp only [cown] at h; simp only [cnofz]; exact cownL.nofz h
  | .tp cs, h => by simp only [cown] at h; simp only [cnofz]; exact cownL.nofz h
  | .fn _ fs cs, h => by simp only [cown] at h; simp only [cnofz]; exact ⟨cownL.nofz h.1, cownL.nofz h.2⟩
  | .ic _ c, h => by simp only [cown] at h; simp only [cnofz]; exact cown.nofz h
  | .un, _ => by simp only [cnofz]
theorem cownL.nofz : ∀ {cs : List CV}, cownL cs → cnofzL cs
  | [], _ => by simp only [cnofzL]
  | c :: cs, h => by simp only [cownL] at h; simp only [cnofzL]; exact ⟨cown.nofz h.1, cownL.nofz h.2⟩
end

theorem DC.noz {P : Program} {Z Z' : Cells} {c : PV} {v : Value} {G : Cells} (h : DC P w Z c v G) : nofz c → DC P w Z' c v G := by
  induction h with
  | a v F h hF => exact fun _ => .a v F h hF
  | un v F h hF => exact fun _ => .un v F h hF
  | fz e es v F h hF => intro hn; simp [nofz] at hn
  | nil e m F hm hF => exact fun _ => .nil e m F hm hF
  | sl e es g len cap m cur vs Fk F hl hm hw hg hlc hcm hsz hc hr hF hd hd0 ih =>
    intro hn
    simp only [nofz] at hn
    refine .sl e es g len cap m cur vs Fk F hl hm hw hg hlc hcm hsz hc (fun k c hk => ih k c hk ?_) hF hd hd0
    obtain ⟨y, hy, hcy⟩ := List.mem_flatMap.1 (List.mem_of_getElem? hk)
    exact nofz_cells ((nofzL_mem).1 hn y hy) c hcy

mutual
theorem CR.noz {P : Program} {Z Z' : Cells} : ∀ {c : CV} {v : Value} {G : Cells}, CR P w Z c v G → cown c → CR P w Z' c v G
  | .a u, v, G, h, _ => by simp only [CR] at h ⊢; exact h
  | .sl z e es, v, G, h, ho => by
    simp only [cown] at ho
    obtain ⟨rfl, ho⟩ := ho
    simp only [CR, Bool.false_eq_true, if_false] at h ⊢
    exact h.noz (by simp only [nofz]; exact ho)
  | .bx z cs, v, G, h, ho => by
    simp only [cown] at ho
    obtain ⟨rfl, ho⟩ := ho
    unfold CR at h ⊢
    obtain ⟨b, off, cur, t, Fc, h1, h2, h3, h4, h5, h6, h7, h8⟩ := h
    exact ⟨b, off, cur, t, Fc, h1, h2, h3, h4, CRL.noz h5 ho, fun hz => (by cases hz), h7, h8⟩
  | .st cs, v, G, h, ho => by
    simp only [cown] at ho
    simp only [CR] at h ⊢
    obtain ⟨us, h1, h2⟩ := h
    exact ⟨us, h1, CRL.noz h2 ho⟩
  | .tp cs, v, G, h, ho => by
    simp only [cown] at ho
    simp only [CR] at h ⊢
    obtain ⟨us, h1, h2⟩ := h
    exact ⟨us, h1, CRL.noz h2 ho⟩
  | .fn f fs cs, v, G, h, ho => by
    simp only [cown] at ho
    simp only [CR] at h ⊢
    obtain ⟨xs, us, F1, F2, h1, h2, h3, h4, h5⟩ := h
    exact ⟨xs, us, F1, F2, h1, CRL.noz h2 ho.1, CRL.noz h3 ho.2, h4, h5⟩
  | .ic t c, v, G, h, ho => by
    simp only [cown] at ho
    simp only [CR] at h ⊢
    obtain ⟨u, h1, h2⟩ := h
    exact ⟨u, h1, CR.noz h2 ho⟩
  | .un, v, G, h, _ => by simp only [CR] at h ⊢; exact h
theorem CRL.noz {P : Program} {Z Z' : Cells} : ∀ {cs : List CV} {vs : List Value} {G : Cells}, CRL P w Z cs vs G → cownL cs → CRL P w Z' cs vs G
  | [], vs, G, h, _ => by simp only [CRL] at h ⊢; exact h
  | c :: cs, vs, G, h, ho => by
    simp only [cownL] at ho
    simp only [CRL] at h ⊢
    obtain ⟨v, vs', F1, F2, h1, h2, h3, h4, h5⟩ := h
    exact ⟨v, vs', F1, F2, h1, CR.noz h2 ho.1, CRL.noz h3 ho.2, h4, h5⟩
end

theorem cownL_append : ∀ {cs ds : List CV}, cownL cs → cownL ds → cownL (cs ++ ds)
  | [], ds, _, h => h
  | c :: cs, ds, h, h' => by
    simp only [cownL, List.cons_append] at h ⊢
    exact ⟨h.1, cownL_append h.2 h'⟩

mutual
theorem o_pack : ∀ (k : Nat) (x : TV), Qm (pack false k x) cown
  | 0, x => by unfold pack; exact Qm.fail
  | k + 1, x => by
    unfold pack
    split
    · exact Qm.pure (by simp [cown])
    · exact Qm.pure (by simp [cown, nofzL])
    · exact Qm.fail
    · exact (o_packL k _).bind fun ys h => Qm.pure (by simp only [cown]; exact h)
    · exact (o_packL k _).bind fun xs h => (o_packL k _).bind fun ys h' => Qm.pure (by simp only [cown]; exact ⟨h, h'⟩)
    · exact (o_pack k _).bind fun y h => Qm.pure (by simp only [cown]; exact h)
    · refine (Qm.getN _).bind fun n hn => ?_
      split
      · rename_i q ver e es
        cases q with
        | true => exact Qm.fail
        | false => exact Qt.bind (Qm.setN _ _ fun _ _ _ h => by cases h) fun _ => Qm.pure (by simp only [cown]; exact ⟨trivial, hn _ _ _ rfl⟩)
      · split
        · exact Qm.fail
        · exact Qt.bind (Qm.setN _ _ fun _ _ _ h => by cases h) fun _ => (o_packL k _).bind fun ys h => Qm.pure (by simp only [cown]; exact ⟨trivial, h⟩)
      · exact Qm.pure (by simp [cown])
    · exact Qm.pure (by simp [cown])
    · exact Qm.fail
theorem o_packL : ∀ (k : Nat) (xs : List TV), Qm (packL false k xs) cownL
  | 0, xs => by unfold packL; exact Qm.fail
  | k + 1, [] => by unfold packL; exact Qm.pure (by simp [cownL])
  | k + 1, x :: xs => by
    unfold packL
    exact (o_pack k x).bind fun y h => (o_packL k xs).bind fun ys h' => Qm.pure (by simp only [cownL]; exact ⟨h, h'⟩)
end

theorem o_packAll : ∀ (xs : List TV), Qm (packAll false xs) cownL
  | [] => by unfold packAll; exact Qm.pure (by simp [cownL])
  | x :: xs => by
    unfold packAll
    exact (o_pack depth x).bind fun y h => (o_packAll xs).bind fun ys h' => Qm.pure (by simp only [cownL]; exact ⟨h, h'⟩)

theorem q_packAll (fz : Bool) : ∀ (xs : List TV), Qt (packAll fz xs)
  | [] => by unfold packAll; exact Qm.pure trivial
  | x :: xs => by
    unfold packAll
    exact Qt.bind (q_packT fz depth x) fun y => Qt.bind (q_packAll fz xs) fun ys => Qm.pure trivial

theorem packAll_ok {fz : Bool} : ∀ {X : Cells} {st : St} {sh : Shape} {xs : List TV} {vs : List Value} {ys : List CV} {st' : St}, GS cx U X ρ F st sh V a w → TRL cx.P w cx.Z ρ F sh xs vs → idsInL U xs → (packAll fz xs).run st = some (ys, st') →
    ∃ Fc sh', CRL cx.P w cx.Z ys vs Fc ∧ GS cx U (fun b o => X b o ∨ Fc b o) ρ F st' sh' V a w ∧ Apart Fc X ∧ Away U V sh sh' st st'
  | X, st, sh, [], vs, ys, st', h, hx, hi, hr => by
    cases hx
    simp only [packAll] at hr
    cases run_pure hr
    exact ⟨Nil, sh, crl_nil, h.less fun _ _ hx => hx.elim (fun h => h) fun h => h.elim, fun _ _ h => h.elim, .refl _ _ _ _⟩
  | X, st, sh, x :: xs, vs, ys, st', h, hx, hi, hr => by
    cases hx with
    | @cons c v cs vs h1 hs =>
      simp only [packAll] at hr
      obtain ⟨y, s1, k1, k2⟩ := run_bind_some hr
      obtain ⟨ys', s2, h3, h4⟩ := run_bind_some k2
      cases run_pure h4
      obtain ⟨F1, sh1, k1, k2, k3, k4, k5⟩ := pack_ok depth h h1 hi.1 k1
      have hs' : TRL cx.P w cx.Z ρ F sh1 xs vs := .of hs.length fun i c u k1 k2 => (hs.get i c u k1 k2).shape (idsInL_get hi.2 k1) k4.shape
      obtain ⟨F2, sh2, l1, l2, l3, l4⟩ := packAll_ok k2 hs' hi.2 h3
      refine ⟨fun b o => F1 b o ∨ F2 b o, sh2, ?_, l2.less fun b o hx => hx.elim (fun h => .inl (.inl h)) fun h => h.elim (fun h => .inl (.inr h)) .inr, ?_, k4.trans l4⟩
      · simp only [CRL]
        exact ⟨v, vs, F1, F2, rfl, k1, l1, fun b o h1 h2 => l3 b o h2 (.inr h1), fun _ _ => Iff.rfl⟩
      · rintro b o (hf | hf) hx
        · exact k3 b o hf hx
        · exact l3 b o hf (.inl hx)

/-! ### results -/
def resStep (tmps : Array Value) : ResultVar → Sem Value
  | .tmp t => pure (tmps.getD t undef)
  | .cell a t => do loadVar t (← asAddr (tmps.getD a undef))

theorem loadAt_addr {P : Program} {t : TypeId} {v u : Value} {w w' : World} (h : (Instr.loadAt t v).run P w = .ok u w') : (do loadVar t (← asAddr v) : Sem Value).run P w = .ok u w' := by
  unfold Instr.loadAt at h
  unfold asAddr
  unfold Instr.sureAddr at h
  split at h
  · exact h
  all_goals (simp only [Sem.run_bind] at h; cases h)

theorem resTVs_ok (h : G cx U X ρ F st a w) : ∀ {rs : List ResultVar} {rv : List RV} {ts : List TV} {s1 : St}, cRes cx.P rs = some rv → (∀ r ∈ rs, ∀ t, (r = .tmp t ∨ ∃ x, r = .cell t x) → t < 10000) → (resTVs rv).run st = some (ts, s1) →
    s1 = st ∧ ∃ vs, TRL cx.P w cx.Z ρ F (shapeOf st) ts vs ∧ idsInL U ts ∧ (rs.mapM (resStep a.tmps)).run cx.P w = .ok vs w
  | [], rv, ts, s1, hc, hlt, hr => by
    simp only [cRes, Option.some.injEq] at hc
    subst hc
    simp only [resTVs] at hr
    cases run_pure hr
    exact ⟨rfl, [], .nil, trivial, by simp [Sem.run_pure]⟩
  | .tmp t :: rs, rv, ts, s1, hc, hlt, hr => by
    simp only [cRes] at hc
    obtain ⟨rv', h1, rfl⟩ := Option.map_eq_some_iff.1 hc
    simp only [resTVs] at hr
    obtain ⟨c, s2, h2, h3⟩ := run_bind_some hr
    cases run_getS h2
    obtain ⟨cs, s3, h4, h5⟩ := run_bind_some h3
    cases run_pure h5
    obtain ⟨rfl, vs, h6, h7, h8⟩ := resTVs_ok h h1 (fun r hr => hlt r (by simp [hr])) h4
    refine ⟨rfl, _ :: vs, .cons (slot_tr h (hlt _ (by simp) t (.inl rfl))) h6, ⟨h.ids t, h7⟩, ?_⟩
    simp only [List.mapM_cons, resStep, Sem.run_bind, Sem.run_pure, Result.andThen_ok, h8]
  | .cell x t :: rs, rv, ts, s1, hc, hlt, hr => by
    simp only [cRes] at hc
    split at hc
    · rename_i wd rv' hw h1
      cases hc
      simp only [resTVs] at hr
      obtain ⟨c, s2, h2, h3⟩ := run_bind_some hr
      cases run_getS h2
      obtain ⟨c', s3, h4, h5⟩ := run_bind_some h3
      obtain ⟨e1, u, k1, k2, k3⟩ := load_ok h hw (slot_tr h (hlt _ (by simp) x (.inr ⟨t, rfl⟩))) (h.ids x) h4
      have e1 := e1.symm
      subst e1
      obtain ⟨cs, s4, h6, h7⟩ := run_bind_some h5
      cases run_pure h7
      obtain ⟨rfl, vs, h8, h9, h10⟩ := resTVs_ok h h1 (fun r hr => hlt r (by simp [hr])) h6
      refine ⟨rfl, u :: vs, .cons k2 h8, ⟨k3, h9⟩, ?_⟩
      rw [List.mapM_cons]
      have := loadAt_addr k1
      simp only [resStep, Sem.run_bind, Sem.run_pure] at this ⊢
      rw [this]
      simp only [Result.andThen_ok, h10]
    · cases hc

theorem lent_ok {ms : List Md} : ∀ {j : Nat} {us : List TV} {s1 : St} (_ : GS cx U X ρ F st sh V a w) (_ : (lent j ms).run st = some (us, s1)) {vs : List Value} (_ : vs.length = ms.length) (_ : ∀ (i : Nat) v, vs[i]? = some v → cx.args.getD (j + i) undef = v),
    s1 = st ∧ TRL cx.P w cx.Z ρ F sh us (muts ms vs) ∧ idsInL U us := by
  induction ms with
  | nil =>
    intro j us s1 h hr vs hl hv
    simp only [lent] at hr
    cases run_pure hr
    refine ⟨rfl, ?_, trivial⟩
    unfold muts
    exact .nil
  | cons m ms ih =>
    intro j us s1 h hr vs hl hv
    cases vs with
    | nil => cases hl
    | cons v vs =>
      have hv' : ∀ (i : Nat) u, vs[i]? = some u → cx.args.getD (j + 1 + i) undef = u := fun i u hu => by
        rw [show j + 1 + i = j + (i + 1) by omega]
        exact hv (i + 1) u (by simpa using hu)
      cases m with
      | ro n =>
        simp only [lent] at hr
        simp only [muts]
        exact ih h hr (by simpa using hl) hv'
      | «mut» n =>
        simp only [lent] at hr
        obtain ⟨c, s2, h2, h3⟩ := run_bind_some hr
        cases run_getS h2
        obtain ⟨cs, s3, h4, h5⟩ := run_bind_some h3
        cases run_pure h5
        obtain ⟨rfl, h6, h7⟩ := ih h h4 (by simpa using hl) hv'
        simp only [muts]
        refine ⟨trivial, .cons ?_ h6, ⟨h.ids _, h7⟩⟩
        have := h.slots (10000 + j)
        unfold Cx.val at this
        rw [if_neg (by omega), show 10000 + j - 10000 = j by omega] at this
        have hv0 := hv 0 v rfl
        rw [Nat.add_zero] at hv0
        rwa [hv0] at this

/-! ### the frame at the beginning -/
theorem roots_mem : ∀ {ms : List Md} {xs : List TV} {j t : Nat} {c : TV}, (t, c) ∈ rootsOf j ms xs → ∃ i, t = 10000 + (j + i) ∧ xs[i]? = some c
  | [], xs, j, t, c, h => by simp [rootsOf] at h
  | m :: ms, [], j, t, c, h => by cases m <;> simp [rootsOf] at h
  | .ro n :: ms, x :: xs, j, t, c, h => by
    simp only [rootsOf] at h
    obtain ⟨i, h1, h2⟩ := roots_mem h
    exact ⟨i + 1, by omega, by simpa using h2⟩
  | .mut n :: ms, x :: xs, j, t, c, h => by
    simp only [rootsOf, List.mem_cons, Prod.mk.injEq] at h
    rcases h with ⟨rfl, rfl⟩ | h
    · exact ⟨0, by omega, rfl⟩
    · obtain ⟨i, h1, h2⟩ := roots_mem h
      exact ⟨i + 1, by omega, by simpa using h2⟩

theorem q_norm (hq : Qok st) (live : List Nat) : Qok (norm live st) := by
  intro id ver e es hn
  simp only [norm, St.node] at hn
  generalize hl : reach st 200 0 (addNew [] (refsL (live.map st.slot))) = l at hn
  generalize hs : (live.map fun t => ren l (st.slot t)) = slots at hn
  generalize hns : (l.zipIdx.map fun (x : Nat × Nat) => (x.2, (st.node x.1).map (renN l))) = nodes at hn
  have hn' : look ((ownNilsN (ownNils l.length slots).2.2 nodes).1 ++ (ownNils l.length slots).2.1) id = some (some (.sl false ver e es)) := by
    subst hns
    cases hlk : look ((ownNilsN (ownNils l.length slots).2.2 _).1 ++ (ownNils l.length slots).2.1) id with
    | none => simp only [St.node] at hlk; rw [hlk] at hn; cases hn
    | some o => simp only [St.node] at hlk; rw [hlk] at hn; simp only [Option.getD_some] at hn; rw [hn]
  obtain ⟨x1, x2, x3, x4⟩ := ownNils_spec slots l.length
  obtain ⟨y1, y2⟩ := ownNilsN_spec nodes (ownNils l.length slots).2.2
  rcases List.mem_append.1 (look_mem hn') with hm | hm
  · rcases y2 _ hm with ⟨o, m1, m2⟩ | ⟨_, _, e', m3, _⟩
    · rw [← hns] at m1
      obtain ⟨z, hz, he⟩ := List.mem_map.1 m1
      simp only [Prod.mk.injEq] at he
      obtain ⟨_, rfl⟩ := he
      rcases m2 with m2 | ⟨_, _, _, m2, _⟩
      · cases hz2 : st.node z.1 with
        | none => rw [hz2] at m2; cases m2
        | some n0 =>
          rw [hz2] at m2
          cases n0 with
          | bx _ _ => simp [renN] at m2
          | sl q v0 e0 es0 =>
            simp only [Option.map_some, renN, Option.some.injEq, Node.sl.injEq] at m2
            obtain ⟨rfl, rfl, rfl, rfl⟩ := m2
            exact hq _ _ _ _ hz2
      · cases m2
    · simp only [Option.some.injEq, Node.sl.injEq] at m3
      obtain ⟨_, _, _, rfl⟩ := m3
      trivial
  · obtain ⟨_, _, e', m3, _⟩ := x3 _ hm
    simp only [Option.some.injEq, Node.sl.injEq] at m3
    obtain ⟨_, _, _, rfl⟩ := m3
    trivial

theorem q_run (hΦ : ∀ f, Nofz (Φ f)) (N : Nat) : ∀ (c : VC) (st : St) (out : Out) (st' : St), run Φ N c st = some (out, st') → Qok st → Qok st' := by
  intro c
  induction c with
  | skip => intro st out st' h hq; simp only [run, Option.some.injEq, Prod.mk.injEq] at h; rw [← h.2]; exact hq
  | reg ops live =>
    intro st out st' h hq
    simp only [run] at h
    split at h
    · rename_i s1 h1
      simp only [Option.some.injEq, Prod.mk.injEq] at h
      rw [← h.2]
      exact fun id ver e es hn => q_execs hΦ ops st.next st s1 h1 hq id ver e es hn
    · cases h
  | seq a b iha ihb =>
    intro st out st' h hq
    simp only [run] at h
    split at h
    · rename_i s1 h1
      exact ihb s1 out st' h (iha st _ s1 h1 hq)
    · exact iha st out st' h hq
  | cond c a b iha ihb =>
    intro st out st' h hq
    cases c with
    | t n =>
      obtain ⟨t, _, h⟩ := run_cond_t h
      cases t with
      | true => exact iha st out st' h hq
      | false => exact ihb st out st' h hq
    | c v =>
      obtain ⟨t, _, h⟩ := run_cond_c h
      cases t with
      | true => exact iha st out st' h hq
      | false => exact ihb st out st' h hq
    | nl e => simp [run] at h
    | f g => simp [run] at h
  | block id b ih =>
    intro st out st' h hq
    simp only [run] at h
    split at h
    · rename_i j s1 h1
      split at h <;> simp only [Option.some.injEq, Prod.mk.injEq] at h <;> rw [← h.2] <;> exact ih st _ s1 h1 hq
    · exact ih st out st' h hq
  | loop live b ih =>
    intro st out st' h hq
    simp only [run] at h
    have key : ∀ (n : Nat) (s : St), rounds (run Φ N b) live n s = some (out, st') → Qok s → Qok st' := by
      intro n
      induction n with
      | zero => intro s h _; cases h
      | succ n ihn =>
        intro s h hq
        simp only [rounds] at h
        split at h
        · rename_i s1 h1
          exact ihn s1 h (ih _ _ s1 h1 (q_norm hq live))
        · exact ih _ out st' h (q_norm hq live)
    exact key N st h hq
  | exit id => intro st out st' h hq; simp only [run, Option.some.injEq, Prod.mk.injEq] at h; rw [← h.2]; exact hq
  | ret => intro st out st' h hq; simp only [run, Option.some.injEq, Prod.mk.injEq] at h; rw [← h.2]; exact hq

theorem q_resTVs : ∀ (rs : List RV), Qt (resTVs rs)
  | [] => by unfold resTVs; exact Qm.pure trivial
  | .t n :: rs => by unfold resTVs; exact Qt.bind (Qm.getS _) fun _ => Qt.bind (q_resTVs rs) fun _ => Qm.pure trivial
  | .cell n wd :: rs => by unfold resTVs; exact Qt.bind (Qm.getS _) fun _ => Qt.bind (q_loadAt _ _) fun _ => Qt.bind (q_resTVs rs) fun _ => Qm.pure trivial

theorem q_lent : ∀ (ms : List Md) (j : Nat), Qt (lent j ms)
  | [], j => by unfold lent; exact Qm.pure trivial
  | .ro _ :: ms, j => by unfold lent; exact q_lent ms _
  | .mut _ :: ms, j => by unfold lent; exact Qt.bind (Qm.getS _) fun _ => Qt.bind (q_lent ms _) fun _ => Qm.pure trivial
end Go.Proofs.Ytkoljcjliihiiaa.VM

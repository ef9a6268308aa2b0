/- The interpreter 'VM': a function's contract, and the operation that calls. -/
import Derived.Test.YtkoljcjliihiiaaVmR
namespace Go.Proofs.Ytkoljcjliihiiaa.VM
open Go

variable {cx : Cx} {U : Nat → Prop} {X : Cells} {ρ : Nat → Value} {F : Nat → Cells} {st : St} {sh : Shape} {V : Nat} {a : Act} {w : World}

/-! ### no frozen parts -/
mutual
def nofz : PV → Prop
  | .a _ => True
  | .sl _ es => nofzL es
  | .fz _ _ => False
  | .st cs => nofzL cs
  | .un => True
def nofzL : List PV → Prop
  | [] => True
  | c :: cs => nofz c ∧ nofzL cs
end

mutual
/-- In what is handed over as its own there are no frozen parts. -/
def cnofz : CV → Prop
  | .a _ => True
  | .sl z _ es => z = false → nofzL es
  | .bx _ cs => cnofzL cs
  | .st cs => cnofzL cs
  | .tp cs => cnofzL cs
  | .fn _ fs cs => cnofzL fs ∧ cnofzL cs
  | .ic _ c => cnofz c
  | .un => True
def cnofzL : List CV → Prop
  | [] => True
  | c :: cs => cnofz c ∧ cnofzL cs
end

/-- A slice that is not marked has no frozen parts. -/
def Qok (st : St) : Prop := ∀ id ver e es, st.node id = some (.sl false ver e es) → nofzL es

/-! ### a function's contract -/
def resV : List Value → Value
  | [v] => v
  | vs => .tuple vs.toArray

/-- A call ends, and R is told of its value. -/
def Answers (P : Program) (f : FuncId) (args : Array Value) (w : World) (R : Value → World → Prop) : Prop :=
  ∀ (o : Oper) (a : Act) (K : Act → World → Prop) (Q : Exit → Act → World → Prop), (∀ v w', R v w' → K (a.put o.dst v) w') → o.upon P a K Q ((callFunc f args).run P w)

theorem Answers.mono {P : Program} {f : FuncId} {args : Array Value} {R R' : Value → World → Prop} (h : Answers P f args w R) (hr : ∀ v w', R v w' → R' v w') : Answers P f args w R' :=
  fun o a K Q hk => h o a K Q fun v w' r => hk v w' (hr v w' r)

def outs (keeps : Bool) (Z : Cells) : Cells := fun b o => keeps = true ∧ Z b o

structure Sound (P : Program) (f : FuncId) (c : Callee) : Prop where
  ans : ∀ (w : World) (Z : Cells) (cs : List CV) (args : List Value) (F : Cells) (rs fs : List CV), CRL P w Z cs args F → (∀ b o, Z b o → b < w.heap.size ∧ ¬ F b o) → (∀ b o, F b o → b < w.heap.size) → (c.keeps = false → cnofzL cs) → c.go cs = some (rs, fs) →
    Answers P f args.toArray w fun v w' => ∃ vs Fr, v = resV vs ∧ vs.length = rs.length ∧ Kept w w' F ∧ CRL P w' (outs c.keeps Z) (rs ++ fs) (vs ++ muts c.modes args) Fr ∧
      ∀ b o, Fr b o → (F b o ∨ w.heap.size ≤ b) ∧ b < w'.heap.size
  nofz : c.keeps = false → ∀ cs rs fs, cnofzL cs → c.go cs = some (rs, fs) → cnofzL (rs ++ fs)

mutual
theorem plain_run {q : Bool} : ∀ {c : CV} {tv : TV}, plain c = some tv → ∀ b, unpack q b c = .pure (tv, b)
  | .a v, tv, h, b => by simp only [plain, Option.some.injEq] at h; subst h; simp only [unpack]
  | .sl z e es, tv, h, b => by
    simp only [plain] at h
    split at h
    · rename_i hz; cases h; simp only [unpack, hz, if_true]
    · cases h
  | .st cs, tv, h, b => by
    simp only [plain] at h
    obtain ⟨ts, hts, rfl⟩ := Option.map_eq_some_iff.1 h
    simp only [unpack, plainL_run hts b, M.bind]
  | .un, tv, h, b => by simp only [plain, Option.some.injEq] at h; subst h; simp only [unpack]
  | .bx _ _, tv, h, b => by simp [plain] at h
  | .tp _, tv, h, b => by simp [plain] at h
  | .fn _ _ _, tv, h, b => by simp [plain] at h
  | .ic _ _, tv, h, b => by simp [plain] at h
theorem plainL_run {q : Bool} : ∀ {cs : List CV} {ts : List TV}, plainL cs = some ts → ∀ b, unpackL q b cs = .pure (ts, b)
  | [], ts, h, b => by simp only [plainL, Option.some.injEq] at h; subst h; simp only [unpackL]
  | c :: cs, ts, h, b => by
    simp only [plainL] at h
    split at h
    · rename_i y ys h1 h2
      cases h
      simp only [unpackL, plain_run h1 b, plainL_run h2 b, M.bind]
    · cases h
end

/-- A plain result is as any result. -/
theorem scalar_run {sc : Bool} {q : Bool} {top b : Nat} {rs : List CV} {st : St} {r : TV × St} (h : (if sc then (if b ≤ top then (liftO (plainL rs)).bind fun ts => M.pure (oneOf ts) else .fail) else resultTV q top b rs).run st = some r) :
    (resultTV q top b rs).run st = some r := by
  split at h
  · split at h
    · rename_i hle
      obtain ⟨ts, s1, h1, h2⟩ := run_bind_some h
      obtain ⟨h3, h4⟩ := run_liftO h1
      simp only at h3 h4
      subst h4
      simp only [resultTV, plainL_run h3 b, M.bind, hle, if_true]
      exact h2
    · exact (run_fail h).elim
  · exact h

theorem callM_ok (h : G cx U (fun _ _ => False) ρ F st a w) {b : Nat} (hb : ∀ i, b ≤ i → i < b + 100 → ¬ U i) {f : FuncId} {c : Callee} (hS : Sound cx.P f c) {xs : List TV} {vs : List Value} (hx : TRL cx.P w cx.Z ρ F (shapeOf st) xs vs) (hi : idsInL U xs)
    (hq : c.keeps = false → ∀ ps cs s1 s2, (lendA c.keeps (b + 100) c.modes xs).run st = some (ps, s1) → (show_ c.keeps c.modes xs ps).run s1 = some (cs, s2) → cnofzL cs) {tv : TV} {st' : St} (hr : (callM (some c) b xs).run st = some (tv, st')) :
    Answers cx.P f vs.toArray w fun v w' => ∃ ρ' F', G cx (Win U b) (fun _ _ => False) ρ' F' st' a w' ∧ TR cx.P w' cx.Z ρ' F' (shapeOf st') tv v ∧ idsIn (Win U b) tv := by
  simp only [callM] at hr
  obtain ⟨ps, s1, h1, h2⟩ := run_bind_some hr
  obtain ⟨cs, s2, h3, h4⟩ := run_bind_some h2
  cases hgo : c.go cs with
  | none => rw [hgo] at h4; exact (run_fail h4).elim
  | some rf =>
    obtain ⟨rs, fs⟩ := rf
    rw [hgo] at h4
    simp only at h4
    obtain ⟨b', s3, h5, h6⟩ := run_bind_some h4
    have h6 := scalar_run h6
    simp only [resultTV] at h6
    obtain ⟨r, s4, h7, h8⟩ := run_bind_some h6
    have hV : b + 100 ≠ 0 ∧ ¬ U (b + 100 - 1) := ⟨by omega, hb _ (by omega) (by omega)⟩
    have hg0 := h.toGS hV
    obtain ⟨ps0, s0, h1a, h1b⟩ := run_bind_some h1
    obtain ⟨Fc0, sh0, k1a, k2a, k3a, k4, k5a⟩ := lend_ok c.modes hg0 hx hi h1a
    have hx0 : TRL cx.P w cx.Z ρ F sh0 xs vs := .of hx.length fun i c u k h => (hx.get i c u k h).shape (idsInL_get hi k) k4.shape
    obtain ⟨X1, Fc, F1, sh1, k2, k1, hFX, _, _, k6, k7, k5⟩ := lendI_ok c.modes k2a hx0 hi k1a (fun b o hf => .inr hf) k5a h1b
    have hlow : ∀ b o, Fc b o → b < w.heap.size := fun b o hf => (k2.mineX b o (hFX b o hf)).2.2
    have hG1 := (k2.toG (U' := Win U b) (fun _ h => .inl h) (.inr ⟨by omega, by omega⟩))
    have hx1 : TRL cx.P w cx.Z ρ F1 sh1 xs vs := k6.trl hV hx0 hi
    have hx2 : TRL cx.P w cx.Z ρ F1 (shapeOf s1) xs vs := .of hx.length fun i c u k h => (hx1.get i c u k h).shape (idsInL_get hi k) k2.shape
    obtain ⟨e2, ⟨Fd, m1, m2⟩, m3⟩ := show_ok hG1 c.modes hx2 (idsInL.mono (fun _ h => .inl h) hi) k1 k5 h3
    have hcs := fun hk => hq hk ps cs s1 s2 h1 h3
    subst e2
    have hZ : ∀ b o, ZR c.keeps cx F1 s2 b o → b < w.heap.size ∧ ¬ Fd b o := by
      rintro b o (hz | ⟨_, i, hi, hz⟩)
      · exact ⟨Nat.lt_of_lt_of_le (h.zold b o hz).1 h.kept.size, fun hf => (k2.mineX b o (hFX b o (m2 b o hf))).1 hz⟩
      · exact ⟨k2.inside hi b o hz, fun hf => k2.apartX i hi b o hz (hFX b o (m2 b o hf))⟩
    refine (hS.ans w (ZR c.keeps cx F1 s2) cs vs Fd rs fs m1 hZ (fun b o hf => hlow b o (m2 b o hf)) hcs hgo).mono ?_
    rintro v w' ⟨rvs, Fr, rfl, hrl, hkept, hcr, hFr⟩
    have hMX : ∀ b o, Fd b o → ¬ cx.Z b o ∧ (cx.M0 b o ∨ cx.w0.heap.size ≤ b) ∧ b < w.heap.size := fun b o hf => k2.mineX b o (hFX b o (m2 b o hf))
    have hG2 := k2.world (X' := Fr) hkept (fun b o hf => (hMX b o hf).1) (fun b o hf hlt => (hMX b o hf).2.1.resolve_right (by omega)) (fun i hi b o hf hd => k2.apartX i hi b o hf (hFX b o (m2 b o hd)))
      (fun b o hf => (hFr b o hf).1.elim (fun hd => .inl (hFX b o (m2 b o hd))) fun hge => .inr ⟨hge, (hFr b o hf).2⟩)
    have hzs := zsame cx hkept fun b o hf => (hMX b o hf).1
    have hcr' : CRL cx.P w' cx.Z (rs ++ fs) (rvs ++ muts c.modes vs) Fr := CRL.mono (fun _ _ _ cur _ _ hb => ⟨cur, hb, rfl, rfl⟩) (fun b o hz => by
      obtain ⟨hk, hz⟩ := hz
      exact hz.resolve_right fun hh => by rw [hk] at hh; cases hh.1) hcr fun _ _ _ cur _ _ hb => ⟨cur, hb, rfl, rfl⟩
    obtain ⟨L1, L2, F3, F2, eL, el, n1, n2, n3, n4⟩ := CRL.split hcr'
    obtain ⟨rfl, rfl⟩ := List.append_inj eL (by rw [hrl, el])
    have hx3 : TRL cx.P w' cx.Z ρ F1 sh1 xs vs := .of hx1.length fun i c u k hu => (hx1.get i c u k hu).mono (idsInL_get hi k) hzs (fun _ _ => rfl) (.refl _ _) fun id hid ver e l hs hv => .of hkept.ty fun b o hf => ⟨hf, fun y hy _ =>
      (hkept.same fun hd => k2.apartX id (k2.known hs hv) b o hf (hFX b o (m2 b o hd))).cell hy⟩
    have hle : r.2 ≤ b + 99 ∧ (M.pure (oneOf r.1)).run s4 = some (tv, st') := by
      split at h8
      · rename_i hle; exact ⟨hle, h8⟩
      · exact (run_fail h8).elim
    have hk3 : HkM (Hd cx.P w' U ρ F1 s2) c.modes xs vs := by
      have key : ∀ (ms : List Md) (xs : List TV) (vs : List Value), idsInL U xs → HkM (Hl cx.P w ρ F1 s2 (b + 100)) ms xs vs → HkM (Hd cx.P w' U ρ F1 s2) ms xs vs := by
        intro ms
        induction ms with
        | nil => intro xs vs _ _; cases xs <;> cases vs <;> simp only [HkM]
        | cons m ms ih =>
          intro xs vs hi hk
          cases xs with
          | nil => cases m <;> cases vs <;> simp only [HkM]
          | cons x xs =>
            cases vs with
            | nil => cases m <;> simp only [HkM]
            | cons v vs =>
              cases m with
              | ro n => simp only [HkM] at hk ⊢; exact ih xs vs hi.2 hk
              | «mut» n =>
                simp only [HkM] at hk ⊢
                refine ⟨fun id ver p e => ?_, ih xs vs hi.2 hk.2⟩
                obtain ⟨⟨q, e1, es1, hn⟩, hnav⟩ := hk.1 id ver p e
                subst e
                have hs : (s2.node id).isSome = true := by rw [hn]; rfl
                exact ⟨hi.1.1, hs, NavKept.of hkept.ty (fun b o hf => ⟨hf, fun y hy _ => (hkept.same fun hd => k2.apartX id hs b o hf (hFX b o (m2 b o hd))).cell hy⟩) _ _ hnav⟩
      exact key c.modes xs vs hi k7
    have le1 := takeBack_le h5
    have le2 := unpackL_le h7
    obtain ⟨ρ1, F1', sh2, g1, o1⟩ := takeBack_ok hG2 (fun i h1 h2 => hb i h1 h2) hx3 hi (PkM.mono (fun _ _ _ h => h.rd) m3) hk3 n2 (fun b o hf => (n4 b o).2 (.inr hf)) h5 (by omega)
    obtain ⟨ρ2, F2', sh3, g2, t2, i2, o2⟩ := unpackL_ok g1 (fun i hi hi2 => by
      rintro (hu | hu)
      · exact hb i (by omega) hi2 hu
      · omega) n1 (fun b o hf => ⟨(n4 b o).2 (.inl hf), fun hg => n3 b o hf hg⟩) h7 (by omega)
    have hsub : ∀ i, To (To U b b') b' r.2 i → Win U b i := by
      rintro i ((hi | hi) | hi)
      · exact .inl hi
      · exact .inr ⟨hi.1, by omega⟩
      · exact .inr ⟨by omega, by omega⟩
    have hG3 := (g2.toG hsub (.inr ⟨by omega, by omega⟩)).less (X' := fun _ _ => False) fun _ _ h => h.elim
    have t3 : TRL cx.P w' cx.Z ρ2 F2' (shapeOf s4) r.1 rvs := .of t2.length fun i c u k1 k2 => (t2.get i c u k1 k2).shape (idsInL_get i2 k1) g2.shape
    obtain ⟨hle3, h9⟩ := hle
    have i3 := idsInL.mono hsub i2
    generalize hr1 : r.1 = ts at h9 t3 i3
    cases run_pure h9
    refine ⟨ρ2, F2', hG3, ?_, ?_⟩
    · cases t3 with
      | nil => exact .tp [] #[] rfl (by simp)
      | cons hc hs =>
        cases hs with
        | nil => exact hc
        | cons hc' hs' =>
          refine .tp _ _ (by simp [hs'.length]) fun i c u k1 k2 => ?_
          exact (TRL.cons hc (TRL.cons hc' hs')).get i c u k1 (by simpa using k2)
    · cases ts with
      | nil => trivial
      | cons t ts' =>
        cases ts' with
        | nil => exact i3.1
        | cons t' ts'' => exact i3

theorem run_called {P : Program} {o : Oper} {c : Call} {x : Operand} (hop : o.op = .call c) (hcal : c.callee = .value x) {f : FuncId} {xs us : Array Value} (hv : a.eval x = .func (.func f) xs us) :
    (execOp a.eval o).run P w = (callFunc f (xs ++ c.args.map a.eval ++ us)).run P w := by
  unfold execOp
  rw [hop]
  simp only [resolve, hcal, hv, Deferred.ofValue, Sem.run_bind, Sem.run_pure, Result.andThen_ok, invoke]

theorem now_call {o : Oper} {d : Option Nat} (ho : o.dst = d) (hd : ∀ t, d = some t → t < cx.n) {f : FuncId} {args : Array Value} {b : Nat} {tv : TV} {st' s1 : St} (hrun : (execOp a.eval o).run cx.P w = (callFunc f args).run cx.P w)
    (hA : Answers cx.P f args w fun v w' => ∃ ρ' F', G cx (Win U b) (fun _ _ => False) ρ' F' st' a w' ∧ TR cx.P w' cx.Z ρ' F' (shapeOf st') tv v ∧ idsIn (Win U b) tv) (hr : (putO d tv).run st' = some ((), s1)) : Now cx U b o s1 a w := by
  refine .call fun K Q hK => ?_
  unfold Oper.wp
  rw [hrun]
  refine hA o a K Q ?_
  rintro v w' ⟨ρ', F', hG, htr, hi⟩
  refine hK _ _ ?_
  subst ho
  cases hdst : o.dst with
  | none =>
    rw [hdst] at hr
    cases run_pure hr
    exact ⟨ρ', F', hG⟩
  | some t =>
    rw [hdst] at hr
    cases run_setS hr
    exact hG.rel_put (hd t hdst) htr hi

theorem op_call (h : G cx U (fun _ _ => False) ρ F st a w) {b : Nat} (hb : ∀ i, b ≤ i → i < b + 100 → ¬ U i) {o : Oper} {d : Option Nat} (ho : o.dst = d) (hd : ∀ t, d = some t → t < cx.n) {f : FuncId} {c : Call} (hop : o.op = .call c)
    (hcal : c.callee = .value (.func f)) (hsz : c.args.size = c.argTypes.size) {xs' : List Opd} (hx : cOpds cx.P (c.argTypes.toList.zip c.args.toList) = some xs') {g : Option Callee} (hS : ∀ c, g = some c → Sound cx.P f c)
    (hq : ∀ c xs, g = some c → c.keeps = false → ∀ ps cs s1 s2, (lendA c.keeps (b + 100) c.modes xs).run st = some (ps, s1) → (show_ c.keeps c.modes xs ps).run s1 = some (cs, s2) → cnofzL cs) {s1 : St}
    (hr : ((opds xs').bind fun vs => (callM g b vs).bind (putO d)).run st = some ((), s1)) : Now cx U b o s1 a w := by
  obtain ⟨cs, s2, h1, h2⟩ := run_bind_some hr
  obtain ⟨rfl, g1, i1⟩ := opds_ok h _ hx h1
  rw [zip_eval a.eval (by simpa using hsz)] at g1
  obtain ⟨tv, s3, h3, h4⟩ := run_bind_some h2
  cases g with
  | none => exact (run_fail h3).elim
  | some c0 =>
    have hA := callM_ok h hb (hS c0 rfl) g1 i1 (hq c0 cs rfl) h3
    refine now_call ho hd (f := f) (args := (c.args.toList.map a.eval).toArray) ?_ hA h4
    rw [run_called hop hcal (f := f) (xs := #[]) (us := #[]) rfl]
    congr 2
    apply Array.ext'
    simp

theorem op_calv (h : G cx U (fun _ _ => False) ρ F st a w) {b : Nat} (hb : ∀ i, b ≤ i → i < b + 100 → ¬ U i) {o : Oper} {d : Option Nat} (ho : o.dst = d) (hd : ∀ t, d = some t → t < cx.n) {n : Nat} {c : Call} (hop : o.op = .call c) (hn : n < 10000)
    (hcal : c.callee = .value (.tmp n)) (hsz : c.args.size = c.argTypes.size) {xs' : List Opd} (hx : cOpds cx.P (c.argTypes.toList.zip c.args.toList) = some xs') {Φ : Nat → Option Callee} (hS : ∀ f c, Φ f = some c → Sound cx.P f c)
    (hq : ∀ f c xs, Φ f = some c → c.keeps = false → ∀ ps cs s1 s2, (lendA c.keeps (b + 100) c.modes xs).run st = some (ps, s1) → (show_ c.keeps c.modes xs ps).run s1 = some (cs, s2) → cnofzL cs) {s1 : St}
    (hr : ((opd (.t n)).bind fun g => match g with
      | .fn g fs cs => (opds xs').bind fun vs => (callM (Φ g) b (fs ++ vs ++ cs)).bind (putO d)
      | _ => .fail).run st = some ((), s1)) : Now cx U b o s1 a w := by
  obtain ⟨fv, s2, h1, h2⟩ := run_bind_some hr
  obtain ⟨rfl, g0, i0⟩ := opd_ok h (t := 0) (x := .tmp n) (y := .t n) (by simp [cOpd, hn]) h1
  split at h2
  · rename_i f fs cs
    obtain ⟨vs, s2', h3, h4⟩ := run_bind_some h2
    obtain ⟨rfl, g1, i1⟩ := opds_ok h _ hx h3
    rw [zip_eval a.eval (by simpa using hsz)] at g1
    obtain ⟨tv, s3, h5, h6⟩ := run_bind_some h4
    cases hg : Φ f with
    | none => rw [hg] at h5; exact (run_fail h5).elim
    | some c0 =>
      rw [hg] at h5
      generalize hfv : a.eval (.tmp n) = fval at g0
      cases g0 with
      | fn _ _ _ us ws hl1 hl2 hf hc =>
        have t1 : TRL cx.P w cx.Z ρ F (shapeOf s2') fs us.toList := .of (by rw [Array.length_toList]; exact hl1) fun i c u k1 k2 => hf i c u k1 (by simpa using k2)
        have t2 : TRL cx.P w cx.Z ρ F (shapeOf s2') cs ws.toList := .of (by rw [Array.length_toList]; exact hl2) fun i c u k1 k2 => hc i c u k1 (by simpa using k2)
        have app : ∀ {as bs : List TV} {us vs : List Value}, TRL cx.P w cx.Z ρ F (shapeOf s2') as us → TRL cx.P w cx.Z ρ F (shapeOf s2') bs vs → TRL cx.P w cx.Z ρ F (shapeOf s2') (as ++ bs) (us ++ vs) := by
          intro as bs us vs h1 h2
          induction h1 with
          | nil => exact h2
          | cons h hs ih => exact .cons h ih
        have hall := app (app t1 g1) t2
        have hids : idsInL U (fs ++ vs ++ cs) := idsInL_of fun x hx => by
          simp only [List.mem_append] at hx
          rcases hx with (hx | hx) | hx
          · exact idsInL_mem i0.1 x hx
          · exact idsInL_mem i1 x hx
          · exact idsInL_mem i0.2 x hx
        have hA := callM_ok h hb (hS f c0 hg) hall hids (hq f c0 _ hg) h5
        refine now_call ho hd (f := f) (args := (us.toList ++ c.args.toList.map a.eval ++ ws.toList).toArray) ?_ hA h6
        rw [run_called hop hcal hfv]
        congr 2
        apply Array.ext'
        simp
  · exact (run_fail h2).elim

end Go.Proofs.Ytkoljcjliihiiaa.VM

/- The interpreter 'VM': what one operation does to a frame, Go's operation does to the world: operands, plain operations, new boxes. -/
import Derived.Test.YtkoljcjliihiiaaVmD
import Derived.Laws.Sem
namespace Go.Proofs.Ytkoljcjliihiiaa.VM
open Go

variable {cx : Cx} {U : Nat → Prop} {X : Cells} {ρ : Nat → Value} {F : Nat → Cells} {st : St} {a : Act} {w : World}

/-- Go's operation ends, and leaves what is asked. -/
inductive Does (P : Program) (o : Oper) (a : Act) (w : World) (R : Act → World → Prop) : Prop
  | value (v : Value) (w' : World) (h : (execOp a.eval o).run P w = .ok (.value v) w') (hr : R (a.put o.dst v) w')
  | skip (w' : World) (h : (execOp a.eval o).run P w = .ok .skip w') (hr : R (a.put o.dst undef) w')
  | call (h : ∀ (K : Act → World → Prop) (Q : Exit → Act → World → Prop), (∀ a w, R a w → K a w) → o.wp P a w K Q)

theorem Does.wp {P : Program} {o : Oper} {a : Act} {w : World} {R : Act → World → Prop} (h : Does P o a w R) {K : Act → World → Prop} {Q : Exit → Act → World → Prop} (hk : ∀ a w, R a w → K a w) :
    o.wp P a w K Q := by
  cases h with
  | value v w' h hr => unfold Oper.wp; rw [h]; exact hk _ _ hr
  | skip w' h hr => unfold Oper.wp; rw [h]; exact hk _ _ hr
  | call h => exact h K Q hk

/-- The relation between a frame and the world, nothing held beside. -/
def Rel (cx : Cx) (U : Nat → Prop) (st : St) (a : Act) (w : World) : Prop := ∃ ρ F, G cx U (fun _ _ => False) ρ F st a w

theorem slot_tr (h : G cx U X ρ F st a w) {t : Nat} (ht : t < 10000) : TR cx.P w cx.Z ρ F (shapeOf st) (st.slot t) (a.tmps.getD t undef) := by
  have := h.slots t
  unfold Cx.val at this
  rwa [if_pos ht] at this

theorem opd_ok (h : G cx U X ρ F st a w) {t : Nat} {x : Operand} {y : Opd} (hc : cOpd cx.P t x = some y) {c : TV} {s1 : St} (hr : (opd y).run st = some (c, s1)) :
    s1 = st ∧ TR cx.P w cx.Z ρ F (shapeOf st) c (a.eval x) ∧ idsIn U c := by
  cases x with
  | tmp n =>
    simp only [cOpd] at hc
    split at hc
    · rename_i hn
      cases hc
      have := run_getS hr
      cases this
      exact ⟨rfl, slot_tr h hn, h.ids n⟩
    · cases hc
  | func f =>
    simp only [cOpd, Option.some.injEq] at hc
    subst hc
    simp only [opd, M.run, Option.some.injEq, Prod.mk.injEq] at hr
    obtain ⟨rfl, rfl⟩ := hr
    exact ⟨rfl, .fn f [] [] #[] #[] rfl rfl (by simp) (by simp), ⟨trivial, trivial⟩⟩
  | «global» g => simp [cOpd] at hc
  | const v =>
    have key : ∀ v, cOpd cx.P t (.const v) = some y → (∃ e m, v = .slice none 0 0 ∧ y = .nl e ∧ sizeT cx.P e = some m) ∨ y = .c v := by
      intro v hc
      unfold cOpd at hc
      split at hc
      · rename_i h1; cases h1
      · rename_i h1; cases h1
      · rename_i h1; cases h1
      · rename_i h1
        cases h1
        split at hc
        · split at hc
          · rename_i hs
            cases hc
            obtain ⟨m, hm⟩ := Option.isSome_iff_exists.1 hs
            exact .inl ⟨_, m, rfl, rfl, hm⟩
          · cases hc
        · cases hc
      · rename_i h1
        cases h1
        split at hc
        · cases hc; exact .inr rfl
        · cases hc
    rcases key v hc with ⟨e, m, rfl, rfl, hm⟩ | rfl
    · simp only [opd, M.run, Option.some.injEq, Prod.mk.injEq] at hr
      obtain ⟨rfl, rfl⟩ := hr
      exact ⟨rfl, .nl e m hm, trivial⟩
    · simp only [opd, M.run, Option.some.injEq, Prod.mk.injEq] at hr
      obtain ⟨rfl, rfl⟩ := hr
      exact ⟨rfl, .a v, trivial⟩

/-- Lists of operands. -/
inductive TRL (P : Program) (w : World) (Z : Cells) (ρ : Nat → Value) (F : Nat → Cells) (sh : Shape) : List TV → List Value → Prop
  | nil : TRL P w Z ρ F sh [] []
  | cons {c : TV} {v : Value} {cs : List TV} {vs : List Value} (h : TR P w Z ρ F sh c v) (hs : TRL P w Z ρ F sh cs vs) : TRL P w Z ρ F sh (c :: cs) (v :: vs)

theorem TRL.length {P : Program} {w : World} {Z : Cells} {sh : Shape} {cs : List TV} {vs : List Value} (h : TRL P w Z ρ F sh cs vs) : vs.length = cs.length := by
  induction h with
  | nil => rfl
  | cons _ _ ih => simp [ih]

theorem TRL.get {P : Program} {w : World} {Z : Cells} {sh : Shape} {cs : List TV} {vs : List Value} (h : TRL P w Z ρ F sh cs vs) : ∀ (i : Nat) c u, cs[i]? = some c → vs[i]? = some u → TR P w Z ρ F sh c u := by
  induction h with
  | nil => intro i c u h; simp at h
  | cons h hs ih =>
    intro i c u hc hu
    cases i with
    | zero => simp at hc hu; subst hc hu; exact h
    | succ i => exact ih i c u (by simpa using hc) (by simpa using hu)

theorem TRL.of {P : Program} {w : World} {Z : Cells} {sh : Shape} : ∀ {cs : List TV} {vs : List Value}, vs.length = cs.length → (∀ (i : Nat) c u, cs[i]? = some c → vs[i]? = some u → TR P w Z ρ F sh c u) → TRL P w Z ρ F sh cs vs
  | [], [], _, _ => .nil
  | c :: cs, v :: vs, hl, h => .cons (h 0 c v rfl rfl) (TRL.of (by simpa using hl) fun i c u hc hu => h (i + 1) c u (by simpa using hc) (by simpa using hu))
  | [], _ :: _, hl, _ => by simp at hl
  | _ :: _, [], hl, _ => by simp at hl

theorem opds_ok (h : G cx U X ρ F st a w) (xs : List (Nat × Operand)) : ∀ {ys : List Opd} {cs : List TV} {s1 : St}, cOpds cx.P xs = some ys → (opds ys).run st = some (cs, s1) →
    s1 = st ∧ TRL cx.P w cx.Z ρ F (shapeOf st) cs (xs.map fun x => a.eval x.2) ∧ idsInL U cs := by
  induction xs with
  | nil =>
    intro ys cs s1 hc hr
    simp only [cOpds, Option.some.injEq] at hc
    subst hc
    simp only [opds, M.run, Option.some.injEq, Prod.mk.injEq] at hr
    obtain ⟨rfl, rfl⟩ := hr
    exact ⟨rfl, .nil, trivial⟩
  | cons tx xs ih =>
    intro ys cs s1 hc hr
    obtain ⟨t, x⟩ := tx
    simp only [cOpds] at hc
    split at hc
    · rename_i y ys' hy hys
      cases hc
      obtain ⟨c, s2, h1, h2⟩ := run_bind_some hr
      obtain ⟨cs', s3, h3, h4⟩ := run_bind_some h2
      cases run_pure h4
      obtain ⟨rfl, g1, g2⟩ := opd_ok h hy h1
      obtain ⟨rfl, g3, g4⟩ := ih hys h3
      exact ⟨rfl, .cons g1 g3, g2, g4⟩
    · cases hc

theorem put_none (a : Act) (v : Value) : a.put none v = a := rfl

/-- A value for the slot that the operation writes. -/
theorem G.rel_put (h : G cx U X ρ F st a w) {d : Nat} {c : TV} {v : Value} (hd : d < cx.n) (hc : TR cx.P w cx.Z ρ F (shapeOf st) c v) (hi : idsIn U c) :
    Rel cx U { st with slots := (d, c) :: st.slots } (a.put (some d) v) w :=
  ⟨ρ, F, (h.less (X' := fun _ _ => False) fun _ _ h => h.elim).put hd hc hi⟩

theorem Rel.more {U' : Nat → Prop} (h : Rel cx U st a w) (hu : ∀ i, U i → U' i) : Rel cx U' st a w := by
  obtain ⟨ρ, F, h⟩ := h
  exact ⟨ρ, F, h.more hu⟩

theorem heap_new (w : World) (x : Obj) : (w.alloc x).heap[w.heap.size]? = some x := heap_alloc_new w x

/-- A new box. -/
theorem G.newBox (h : G cx U X ρ F st a w) {b : Nat} (hb : ¬ U b) {cs : List TV} {us : Array Value} (hne : cs ≠ []) (hl : us.size = cs.length)
    (hc : ∀ (i : Nat) c u, cs[i]? = some c → us[i]? = some u → TR cx.P w cx.Z ρ F (shapeOf st) c u) (hi : idsInL U cs) (t : TypeId) :
    ∃ ρ' F', G cx (fun i => U i ∨ i = b) X ρ' F' (st.setNode b (some (.bx false cs))) a (w.alloc (.cells us t)) ∧ ρ' b = .pointer (some ⟨w.heap.size, 0, none⟩) := by
  have h1 := h.alloc (.cells us t)
  have hX : ∀ b o, X b o → b < w.heap.size := fun b o hx => (h.mineX b o hx).2.2
  refine ⟨_, _, h1.add (b := b) hb (n := .bx false cs) (v := .pointer (some ⟨w.heap.size, 0, none⟩)) (Fn := fun b o => b = w.heap.size ∧ 0 ≤ o ∧ o < 0 + cs.length) (X' := X) rfl
    (fun b o hf => .inr hf.1) (fun b o hx => .inl hx) (fun b o hf hx => by have := hX b o hx; have := hf.1; omega) ?_ (idsInL.mono (fun _ h => .inl h) hi), upd_same _ _ _⟩
  refine .bx false cs w.heap.size 0 us t (upd_same _ _ _) (heap_new w _) (by omega) hne ?_ (fun b' o' => by rw [upd_same]; simp) (by simp)
  intro i c hci u hu
  rw [Nat.zero_add] at hu
  have hold := hc i c u hci hu
  refine h1.tr_new hb _ _ _ ?_ (idsInL_get hi hci)
  exact hold.mono (idsInL_get hi hci) (zsame cx (Kept.alloc w _ fun _ _ => False) (fun _ _ h => h.elim)) (fun _ _ => rfl) (.refl _ _)
    fun id _ _ _ _ hs _ => .of (Kept.ty (Kept.alloc w _ fun _ _ => False)) fun b o hf => ⟨hf, fun y hy _ => by
      rw [World.cell?_alloc_lt w _ _ (h.inside (isSome_of_shape (by rw [hs]; simp)) b o hf)]; exact hy⟩

theorem one_cells {v : Value} (h : one1 v = true) : v.cells = #[v] := by
  cases v <;> first | rfl | cases h

/-- The values that row of cells holds. -/
theorem TR.row {P : Program} {w : World} {Z : Cells} {sh : Shape} {c : TV} {v : Value} (h : TR P w Z ρ F sh c v) (hone : ∀ i, one1 (ρ i) = true) {cs : List TV} (hr : c.row = some cs) :
    TRL P w Z ρ F sh cs v.cells.toList ∧ (c.cells = cs) := by
  have single : ∀ {c : TV} {v : Value}, TR P w Z ρ F sh c v → one1 v = true → TRL P w Z ρ F sh [c] v.cells.toList := by
    intro c v h hv
    rw [one_cells hv]
    exact .cons h .nil
  cases h with
  | a v =>
    simp only [TV.row] at hr
    split at hr
    · rename_i hv; cases hr; exact ⟨single (.a v) hv, rfl⟩
    · cases hr
  | nl e m hm => cases hr; exact ⟨single (.nl e m hm) rfl, rfl⟩
  | rf id => cases hr; exact ⟨single (.rf id) (hone id), rfl⟩
  | ri id ver p v h1 h => cases hr; exact ⟨single (.ri id ver p v h1 h) h1, rfl⟩
  | sb id lo n v h1 h => cases hr; exact ⟨single (.sb id lo n v h1 h) h1, rfl⟩
  | ad id o b off h => cases hr; exact ⟨single (.ad id o b off h) rfl, rfl⟩
  | ea id i m o v h1 h => cases hr; exact ⟨single (.ea id i m o v h1 h) h1, rfl⟩
  | ei id ver p i m o v h1 h => cases hr; exact ⟨single (.ei id ver p i m o v h1 h) h1, rfl⟩
  | sz e es v h => cases hr; exact ⟨single (.sz e es v h) h.one, rfl⟩
  | ez cs o x hx vs hc => cases hr; exact ⟨single (.ez cs o x hx vs hc) rfl, rfl⟩
  | st cs us hl h => cases hr; exact ⟨.of (by simpa [Value.cells] using hl) fun i c u hc hu => h i c u hc (by simpa [Value.cells] using hu), rfl⟩
  | tp cs us hl h => cases hr
  | fn f fs cs xs us hx hl hf h => cases hr; exact ⟨single (.fn f fs cs xs us hx hl hf h) rfl, rfl⟩
  | ic t c u h => cases hr; exact ⟨single (.ic t c u h) rfl, rfl⟩
  | un v => cases hr

theorem idsIn_cells {U : Nat → Prop} {c : TV} (h : idsIn U c) : idsInL U c.cells := by
  cases c with
  | st cs => exact h
  | _ => exact ⟨h, trivial⟩

/-! ### plain operations -/
theorem intBin_ok {op : BinOp} {k : IntKind} {x y : Int} {v : Value} (h : intBin op k x y = some v) (hs : isShift op = false) (t : TypeId) : binOp op t (.int k x) (.int k y) = Sem.pure v := by
  cases op <;> simp only [intBin, isShift, Option.some.injEq, reduceCtorEq] at h hs <;>
    first
    | (subst h; simp only [binOp, ne_eq, not_true_eq_false, if_false]; rfl)
    | (split at h
       · cases h
       · rename_i hb
         cases h
         simp only [binOp, ne_eq, not_true_eq_false, if_false, Op.intDiv, hb]
         rfl)

theorem shift_ok {op : BinOp} {k k' : IntKind} {x y : Int} {v : Value} (h : intBin op k x y = some v) (hs : isShift op = true) (t : TypeId) : binOp op t (.int k x) (.int k' y) = Sem.pure v := by
  cases op <;> simp only [intBin, isShift, Option.some.injEq, reduceCtorEq] at h hs <;>
    (split at h
     · cases h
     · rename_i hb
       cases h
       simp only [binOp, Op.shift, hb, if_false]
       rfl)

theorem strBin_ok {op : BinOp} {x y : ByteArray} {v : Value} (h : strBin op x y = some v) (t : TypeId) : binOp op t (.string x) (.string y) = Sem.pure v := by
  cases op <;> simp only [strBin, Option.some.injEq, reduceCtorEq] at h <;>
    first
    | (subst h; rfl)
    | (split at h
       · rename_i hb
         cases h
         simp only [binOp, Op.stringOp]
         rw [if_neg (by have h63 : IntKind.i64.max = 9223372036854775807 := by decide
                        rw [h63]; omega)]
         rfl
       · cases h)

theorem eqGuard_plain {op : BinOp} {t : TypeId} {x y : Operand} {u v : Value} (h : ∀ w, u ≠ .nilIface ∧ u ≠ .agg w) : eqGuard op t x y u v = Sem.pure () := by
  unfold eqGuard
  cases op <;> cases u <;> first | rfl | exact absurd rfl (h default).1 | exact absurd rfl (h _).2

theorem run_eql_bool {P : Program} {w : World} {t : TypeId} (ht : P.underlying t = some .bool) (x y : Bool) : (Op.equal t (.bool x) (.bool y)).run P w = .ok (x == y) w := by
  unfold Op.equal Op.maxDepth
  rw [show (10000 : Nat) = 9999 + 1 from rfl, Op.equalIn]
  simp only [underlying, Sem.run_bind, run_program, Result.andThen_ok, ht, Sem.run_pure]

theorem bin_ok {P : Program} {w : World} {op : BinOp} {t : TypeId} {x y : Operand} {u v r : Value} (h : binA op u v = some r) :
    (do eqGuard op t x y u v; binOp op t u v : Sem Value).run P w = .ok r w := by
  have guard : eqGuard op t x y u v = Sem.pure () := by
    apply eqGuard_plain
    intro w
    cases u <;> first | (cases h; done) | exact ⟨by simp, by simp⟩
  rw [guard]
  simp only [Sem.run_bind, Sem.run_pure', Result.andThen_ok]
  unfold binA at h
  split at h
  · rename_i k a k' b
    by_cases hs : isShift op = true
    · simp only [hs, Bool.true_or, if_true] at h
      rw [shift_ok h hs]; rfl
    · simp only [hs, Bool.false_or] at h
      split at h
      · rename_i hk
        have hk : k = k' := by simpa using hk
        subst hk
        rw [intBin_ok h (by simpa using hs)]; rfl
      · cases h
  · rw [strBin_ok h]; rfl
  · cases h

theorem boolT_eq {P : Program} {t : TypeId} (h : boolT P t = true) : P.underlying t = some .bool := by
  unfold boolT und at h
  split at h
  · assumption
  · cases h

theorem beq_ok {P : Program} {w : World} {op : BinOp} {t : TypeId} {x y : Operand} {u v : Bool} {ne : Bool} (ht : boolT P t = true) (h : eqSign op = some ne) :
    (do eqGuard op t x y (.bool u) (.bool v); binOp op t (.bool u) (.bool v) : Sem Value).run P w = .ok (.bool (if ne then u != v else u == v)) w := by
  rw [eqGuard_plain (u := .bool u) (fun _ => ⟨by simp, by simp⟩)]
  simp only [Sem.run_bind, Sem.run_pure', Result.andThen_ok]
  cases op <;> cases h
  · simp only [binOp, Sem.run_bind, run_eql_bool (boolT_eq ht), Result.andThen_ok, Sem.run_pure]; rfl
  · simp only [binOp, Sem.run_bind, run_eql_bool (boolT_eq ht), Result.andThen_ok, Sem.run_pure]; rfl

theorem un_ok {op : UnOp} {u v : Value} (h : unA op u = some v) : Op.unary op u = Sem.pure v := by
  unfold unA at h
  split at h
  · cases op <;> cases h; rfl
  · cases op <;> cases h <;> rfl
  · cases h

/-- The nodes' numbers behind an operation that may make nodes b .. b + 99. -/
def Win (U : Nat → Prop) (b : Nat) : Nat → Prop := fun i => U i ∨ (b ≤ i ∧ i < b + 100)

def Now (cx : Cx) (U : Nat → Prop) (b : Nat) (o : Oper) (st' : St) (a : Act) (w : World) : Prop := Does cx.P o a w (Rel cx (Win U b) st')

theorem now_value (h : G cx U X ρ F st a w) {b : Nat} {o : Oper} {d : Nat} (ho : o.dst = some d) (hd : d < cx.n) {c : TV} {v : Value} (hrun : (execOp a.eval o).run cx.P w = .ok (.value v) w)
    (hc : TR cx.P w cx.Z ρ F (shapeOf st) c v) (hi : idsIn U c) : Now cx U b o { st with slots := (d, c) :: st.slots } a w := by
  refine .value v w hrun ?_
  rw [ho]
  exact (h.rel_put hd hc hi).more fun _ h => .inl h

theorem op_mov (h : G cx U X ρ F st a w) {b : Nat} {o : Oper} {d : Nat} (ho : o.dst = some d) (hd : d < cx.n) {x : Operand} {t : Nat} {y : Opd} (hop : o.op = .move x ∨ o.op = .assign x)
    (hc : cOpd cx.P t x = some y) {s1 : St} (hr : ((opd y).bind (setS d)).run st = some ((), s1)) : Now cx U b o s1 a w := by
  obtain ⟨c, s2, h1, h2⟩ := run_bind_some hr
  obtain ⟨rfl, g1, g2⟩ := opd_ok h hc h1
  cases run_setS h2
  refine now_value h ho hd (v := a.eval x) ?_ g1 g2
  rcases hop with e | e <;> · unfold execOp; rw [e]; rfl

theorem op_pick (h : G cx U X ρ F st a w) {b : Nat} {o : Oper} {d : Nat} (ho : o.dst = some d) (hd : d < cx.n) {x y z : Operand} {t1 t2 t3 : Nat} {x' y' z' : Opd} (hop : o.op = .pick x y z)
    (hx : cOpd cx.P t1 x = some x') (hy : cOpd cx.P t2 y = some y') (hz : cOpd cx.P t3 z = some z') {s1 : St}
    (hr : ((opd x').bind fun u => match u with | .a (.bool t) => (if t then opd y' else opd z').bind (setS d) | _ => .fail).run st = some ((), s1)) : Now cx U b o s1 a w := by
  obtain ⟨c, s2, h1, h2⟩ := run_bind_some hr
  obtain ⟨rfl, g1, g2⟩ := opd_ok h hx h1
  split at h2
  · rename_i t
    obtain ⟨c', s3, h3, h4⟩ := run_bind_some h2
    have hv : a.eval x = .bool t := by
      generalize hu : a.eval x = u at g1
      cases g1; rfl
    cases t with
    | true =>
      obtain ⟨rfl, g3, g4⟩ := opd_ok h hy h3
      cases run_setS h4
      refine now_value h ho hd (v := a.eval y) ?_ g3 g4
      unfold execOp; rw [hop]; simp only [hv, asBool, Sem.run_bind, Sem.run_pure, Result.andThen_ok, if_true]
    | false =>
      obtain ⟨rfl, g3, g4⟩ := opd_ok h hz h3
      cases run_setS h4
      refine now_value h ho hd (v := a.eval z) ?_ g3 g4
      unfold execOp; rw [hop]; simp only [hv, asBool, Sem.run_bind, Sem.run_pure, Result.andThen_ok, Bool.false_eq_true, if_false]
  · exact (run_fail h2).elim

theorem tr_a {P : Program} {Z : Cells} {sh : Shape} {u v : Value} (h : TR P w Z ρ F sh (.a u) v) : v = u := by cases h; rfl

theorem op_bin (h : G cx U X ρ F st a w) {b : Nat} {o : Oper} {d : Nat} (ho : o.dst = some d) (hd : d < cx.n) {op : BinOp} {t t' : TypeId} {x y : Operand} {x' y' : Opd} (hop : o.op = .binOp op t x y t')
    (hx : cOpd cx.P t x = some x') (hy : cOpd cx.P t y = some y') {s1 : St}
    (hr : ((opd x').bind fun u => (opd y').bind fun v => match u, v with | .a u, .a v => (liftO (binA op u v)).bind fun r => setS d (.a r) | _, _ => .fail).run st = some ((), s1)) : Now cx U b o s1 a w := by
  obtain ⟨c, s2, h1, h2⟩ := run_bind_some hr
  obtain ⟨rfl, g1, _⟩ := opd_ok h hx h1
  obtain ⟨c', s3, h3, h4⟩ := run_bind_some h2
  obtain ⟨rfl, g3, _⟩ := opd_ok h hy h3
  split at h4
  · rename_i u v
    obtain ⟨r, s4, h5, h6⟩ := run_bind_some h4
    obtain ⟨h7, rfl⟩ := run_liftO h5
    cases run_setS h6
    refine now_value h ho hd (v := r) ?_ (.a r) trivial
    unfold execOp; rw [hop]
    have e1 := tr_a g1
    have e2 := tr_a g3
    simp only [e1, e2]
    have := bin_ok (P := cx.P) (w := w) (t := t) (x := x) (y := y) h7
    simp only [Sem.run_bind] at this ⊢
    rw [this]; rfl
  · exact (run_fail h4).elim

theorem op_beq (h : G cx U X ρ F st a w) {b : Nat} {o : Oper} {d : Nat} (ho : o.dst = some d) (hd : d < cx.n) {op : BinOp} {t t' : TypeId} {x y : Operand} {x' y' : Opd} {ne : Bool} (hop : o.op = .binOp op t x y t')
    (hx : cOpd cx.P t x = some x') (hy : cOpd cx.P t y = some y') (ht : boolT cx.P t = true) (hs : eqSign op = some ne) {s1 : St}
    (hr : ((opd x').bind fun u => (opd y').bind fun v => match u, v with | .a (.bool u), .a (.bool v) => setS d (.a (.bool (if ne then u != v else u == v))) | _, _ => .fail).run st = some ((), s1)) : Now cx U b o s1 a w := by
  obtain ⟨c, s2, h1, h2⟩ := run_bind_some hr
  obtain ⟨rfl, g1, i1⟩ := opd_ok h hx h1
  obtain ⟨c', s3, h3, h4⟩ := run_bind_some h2
  obtain ⟨rfl, g3, i3⟩ := opd_ok h hy h3
  split at h4
  · rename_i u v
    cases run_setS h4
    refine now_value h ho hd ?_ (.a _) trivial
    unfold execOp; rw [hop]
    have e1 := tr_a g1
    have e2 := tr_a g3
    simp only [e1, e2]
    have := beq_ok (P := cx.P) (w := w) (t := t) (x := x) (y := y) (u := u) (v := v) ht hs
    simp only [Sem.run_bind] at this ⊢
    rw [this]; rfl
  · exact (run_fail h4).elim

theorem op_un (h : G cx U X ρ F st a w) {b : Nat} {o : Oper} {d : Nat} (ho : o.dst = some d) (hd : d < cx.n) {op : UnOp} {t t' : TypeId} {x : Operand} {x' : Opd} (hop : o.op = .unOp op t x)
    (hx : cOpd cx.P t' x = some x') {s1 : St}
    (hr : ((opd x').bind fun u => match u with | .a u => (liftO (unA op u)).bind fun r => setS d (.a r) | _ => .fail).run st = some ((), s1)) : Now cx U b o s1 a w := by
  obtain ⟨c, s2, h1, h2⟩ := run_bind_some hr
  obtain ⟨rfl, g1, _⟩ := opd_ok h hx h1
  split at h2
  · rename_i u
    obtain ⟨r, s4, h5, h6⟩ := run_bind_some h2
    obtain ⟨h7, rfl⟩ := run_liftO h5
    cases run_setS h6
    refine now_value h ho hd (v := r) ?_ (.a r) trivial
    unfold execOp; rw [hop]
    simp only [tr_a g1, un_ok h7]
    rfl
  · exact (run_fail h2).elim

theorem op_cvi (h : G cx U X ρ F st a w) {b : Nat} {o : Oper} {d : Nat} (ho : o.dst = some d) (hd : d < cx.n) {s t : TypeId} {k k0 : IntKind} {x : Operand} {x' : Opd} (hop : o.op = .convert s t x)
    (hs : cx.P.underlying s = some (.int k0)) (ht : cx.P.underlying t = some (.int k)) (hx : cOpd cx.P s x = some x') {s1 : St}
    (hr : ((opd x').bind fun u => match u with | .a (.int _ n) => setS d (.a (.int k (k.wrap n))) | _ => .fail).run st = some ((), s1)) : Now cx U b o s1 a w := by
  obtain ⟨c, s2, h1, h2⟩ := run_bind_some hr
  obtain ⟨rfl, g1, _⟩ := opd_ok h hx h1
  split at h2
  · cases run_setS h2
    refine now_value h ho hd ?_ (.a _) trivial
    unfold execOp; rw [hop]
    simp only [tr_a g1, convert, underlying, Sem.run_bind, run_program, Result.andThen_ok, hs, ht, Sem.run_pure]
    rfl
  · exact (run_fail h2).elim

theorem op_cvs (h : G cx U X ρ F st a w) {b : Nat} {o : Oper} {d : Nat} (ho : o.dst = some d) (hd : d < cx.n) {s t : TypeId} {x : Operand} {x' : Opd} (hop : o.op = .convert s t x)
    (hs : cx.P.underlying s = some .string) (ht : cx.P.underlying t = some .string) (hx : cOpd cx.P s x = some x') {s1 : St}
    (hr : ((opd x').bind fun u => match u with | .a (.string s) => setS d (.a (.string s)) | _ => .fail).run st = some ((), s1)) : Now cx U b o s1 a w := by
  obtain ⟨c, s2, h1, h2⟩ := run_bind_some hr
  obtain ⟨rfl, g1, _⟩ := opd_ok h hx h1
  split at h2
  · cases run_setS h2
    refine now_value h ho hd ?_ (.a _) trivial
    unfold execOp; rw [hop]
    simp only [tr_a g1, convert, underlying, Sem.run_bind, run_program, Result.andThen_ok, hs, ht, Sem.run_pure]
  · exact (run_fail h2).elim

theorem trl_array {P : Program} {Z : Cells} {sh : Shape} {cs : List TV} {xs : List (Nat × Operand)} (h : TRL P w Z ρ F sh cs (xs.map fun x => a.eval x.2)) {ys : Array Operand} (hy : xs.map (·.2) = ys.toList) :
    (ys.map a.eval).size = cs.length ∧ ∀ (i : Nat) c u, cs[i]? = some c → (ys.map a.eval)[i]? = some u → TR P w Z ρ F sh c u := by
  have e : (ys.map a.eval).toList = xs.map fun x => a.eval x.2 := by
    rw [Array.toList_map, ← hy, List.map_map]; rfl
  constructor
  · rw [← h.length, ← e, Array.length_toList]
  · intro i c u hc hu
    refine h.get i c u hc ?_
    rw [← e, Array.getElem?_toList]; exact hu

theorem op_mkf (h : G cx U X ρ F st a w) {b : Nat} {o : Oper} {d : Nat} (ho : o.dst = some d) (hd : d < cx.n) {f : FuncId} {fs cs : Array Operand} {fs' cs' : List Opd} (hop : o.op = .makeFunc (.func f) fs cs)
    (hf : cOpds cx.P (fs.toList.map fun x => (0, x)) = some fs') (hc : cOpds cx.P (cs.toList.map fun x => (0, x)) = some cs') {s1 : St}
    (hr : ((opds fs').bind fun us => (opds cs').bind fun vs => setS d (.fn f us vs)).run st = some ((), s1)) : Now cx U b o s1 a w := by
  obtain ⟨us, s2, h1, h2⟩ := run_bind_some hr
  obtain ⟨rfl, g1, i1⟩ := opds_ok h _ hf h1
  obtain ⟨vs, s3, h3, h4⟩ := run_bind_some h2
  obtain ⟨rfl, g2, i2⟩ := opds_ok h _ hc h3
  cases run_setS h4
  obtain ⟨k1, k2⟩ := trl_array (ys := fs) g1 (by simp [List.map_map, Function.comp_def])
  obtain ⟨k3, k4⟩ := trl_array (ys := cs) g2 (by simp [List.map_map, Function.comp_def])
  refine now_value h ho hd (v := .func (.func f) (fs.map a.eval) (cs.map a.eval)) ?_ (.fn f us vs _ _ k1 k3 k2 k4) ⟨i1, i2⟩
  unfold execOp; rw [hop]; rfl

theorem op_mki (h : G cx U X ρ F st a w) {b : Nat} {o : Oper} {d : Nat} (ho : o.dst = some d) (hd : d < cx.n) {t : TypeId} {x : Operand} {x' : Opd} (hop : o.op = .makeInterface t x)
    (hm : ∀ v : Value, (Instr.makeInterface t v).run cx.P w = .ok (.iface t v) w) (hx : cOpd cx.P t x = some x') {s1 : St}
    (hr : ((opd x').bind fun v => setS d (.ic t v)).run st = some ((), s1)) : Now cx U b o s1 a w := by
  obtain ⟨c, s2, h1, h2⟩ := run_bind_some hr
  obtain ⟨rfl, g1, i1⟩ := opd_ok h hx h1
  cases run_setS h2
  refine now_value h ho hd ?_ (.ic t c _ g1) i1
  unfold execOp; rw [hop]
  simp only [Sem.run_bind, hm, Result.andThen_ok, Sem.run_pure]

theorem op_ext (h : G cx U X ρ F st a w) {b : Nat} {o : Oper} {d : Nat} (ho : o.dst = some d) (hd : d < cx.n) {x : Operand} {i t : Nat} {x' : Opd} (hop : o.op = .extract x i)
    (hx : cOpd cx.P t x = some x') {s1 : St}
    (hr : ((opd x').bind fun v => match v with | .tp cs => (liftO cs[i]?).bind (setS d) | _ => .fail).run st = some ((), s1)) : Now cx U b o s1 a w := by
  obtain ⟨c, s2, h1, h2⟩ := run_bind_some hr
  obtain ⟨rfl, g1, i1⟩ := opd_ok h hx h1
  split at h2
  · rename_i cs
    obtain ⟨c', s4, h5, h6⟩ := run_bind_some h2
    obtain ⟨h7, rfl⟩ := run_liftO h5
    cases run_setS h6
    generalize hu : a.eval x = u at g1
    cases g1 with
    | tp _ us hl hg =>
      have hlt : i < us.size := by rw [hl]; exact (List.getElem?_eq_some_iff.1 h7).1
      refine now_value h ho hd (v := us[i]) ?_ (hg i _ _ h7 (Array.getElem?_eq_getElem hlt)) (idsInL_get i1 h7)
      unfold execOp; rw [hop]
      simp only [hu, Instr.extract, Sem.run_bind, Array.getElem?_eq_getElem hlt, Sem.run_pure, Result.andThen_ok]
  · exact (run_fail h2).elim

theorem pickCells_ok {P : Program} {Z : Cells} {sh : Shape} {cs : List TV} {us : List Value} (h : ∀ (i : Nat) c u, cs[i]? = some c → us[i]? = some u → TR P w Z ρ F sh c u) (hl : cs.length ≤ us.length) (hi : idsInL U cs)
    {o : Nat} {wd : Option Nat} {c : TV} (hp : pickCells cs o wd = some c) :
    (∀ n, wd = some n → o + n ≤ us.length ∧ TR P w Z ρ F sh c (.agg ((us.drop o).take n).toArray)) ∧ (wd = none → ∃ u, us[o]? = some u ∧ TR P w Z ρ F sh c u) ∧ idsIn U c := by
  cases wd with
  | none =>
    simp only [pickCells] at hp
    have hlt := (List.getElem?_eq_some_iff.1 hp).1
    refine ⟨(fun n hn => by cases hn), fun _ => ⟨us[o], List.getElem?_eq_getElem (by omega), h o c _ hp (List.getElem?_eq_getElem (by omega))⟩, idsInL_get hi hp⟩
  | some n =>
    simp only [pickCells] at hp
    split at hp
    · rename_i hlen
      cases hp
      refine ⟨fun m hm => ?_, (fun hn => by cases hn), ?_⟩
      · cases hm
        refine ⟨by omega, .st _ _ (by simp; omega) ?_⟩
        intro i c u hc hu
        rw [List.getElem?_take] at hc
        split at hc
        · rename_i hin
          rw [List.getElem?_drop] at hc
          refine h (o + i) c u hc ?_
          simpa [List.getElem?_take, hin] using hu
        · cases hc
      · exact idsInL_of fun c hc => idsInL_mem hi c (List.mem_of_mem_drop (List.mem_of_mem_take hc))
    · cases hp

end Go.Proofs.Ytkoljcjliihiiaa.VM

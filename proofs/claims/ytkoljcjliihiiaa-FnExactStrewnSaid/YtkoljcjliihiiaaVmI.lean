/- The interpreter 'VM': slices and strings that are read, measured and cut in a frame are so in the world. -/
import Derived.Test.YtkoljcjliihiiaaVmH
import Derived.Laws.OwnMore
import Derived.Laws.Slices
import Derived.Laws.Strings
namespace Go.Proofs.Ytkoljcjliihiiaa.VM
open Go

variable {cx : Cx} {U : Nat → Prop} {X : Cells} {ρ : Nat → Value} {F : Nat → Cells} {st : St} {a : Act} {w : World}

theorem flat_drop {m : Nat} : ∀ {es : List PV} (_ : ∀ y ∈ es, y.cells.length = m) (lo : Nat), flat (es.drop lo) = (flat es).drop (lo * m)
  | [], _, lo => by simp [flat]
  | y :: es, _, 0 => by simp
  | y :: es, hw, lo + 1 => by
    have hy : y.cells.length = m := hw y (by simp)
    have ih := flat_drop (es := es) (fun z hz => hw z (by simp [hz])) lo
    have e1 : flat (y :: es) = y.cells ++ flat es := by simp [flat]
    rw [List.drop_succ_cons, ih, e1, List.drop_append, hy, show y.cells.drop ((lo + 1) * m) = [] from List.drop_eq_nil_of_le (by rw [hy, Nat.add_mul]; omega), List.nil_append]
    congr 1
    rw [Nat.add_mul]; omega

theorem flat_take {m : Nat} : ∀ {es : List PV} (_ : ∀ y ∈ es, y.cells.length = m) (n : Nat), flat (es.take n) = (flat es).take (n * m)
  | [], _, n => by simp [flat]
  | y :: es, _, 0 => by simp [flat]
  | y :: es, hw, n + 1 => by
    have hy : y.cells.length = m := hw y (by simp)
    have ih := flat_take (es := es) (fun z hz => hw z (by simp [hz])) n
    have e1 : flat (y :: es) = y.cells ++ flat es := by simp [flat]
    have e2 : flat (y :: es.take n) = y.cells ++ flat (es.take n) := by simp [flat]
    rw [List.take_succ_cons, e2, ih, e1, List.take_append, hy, show y.cells.take ((n + 1) * m) = y.cells from List.take_of_length_le (by rw [hy, Nat.add_mul]; omega)]
    congr 2
    rw [Nat.add_mul]; omega

theorem RC.empty {P : Program} {Z : Cells} {e m : Nat} (hm : sizeT P e = some m) {x : Option Addr} {cap : Nat} : RC P w Z (.sl e []) (.slice x 0 cap) :=
  .sl e [] x 0 cap m (fun _ => .bool false) ⟨rfl, Nat.zero_le _⟩ hm (by simp) (fun _ _ h => absurd rfl h) (fun _ => rfl) (by simp [flat]) (by simp [flat])

theorem RC.sub {P : Program} {Z : Cells} {e len cap m : Nat} {es : List PV} {x : Addr} (h : RC P w Z (.sl e es) (.slice (some x) len cap)) (hm : sizeT P e = some m) {lo n cap' : Nat} (hle : lo + n ≤ es.length) (hc' : n ≤ cap') :
    RC P w Z (.sl e ((es.drop lo).take n)) (.slice (some ⟨x.block, x.off + lo * m, none⟩) n cap') := by
  cases h with
  | sl _ _ _ _ _ m' vs hl hm' hw hx hn hc hr =>
    rw [hm] at hm'
    cases hm'
    have hsub : ∀ (k : Nat) c, (flat ((es.drop lo).take n))[k]? = some c → (flat es)[lo * m + k]? = some c := by
      intro k c hk
      rw [flat_take (m := m) (fun y hy => hw y (List.mem_of_mem_drop hy)), flat_drop hw, List.getElem?_take] at hk
      split at hk
      · rwa [List.getElem?_drop] at hk
      · cases hk
    refine .sl e _ _ n cap' m (fun k => vs (lo * m + k)) ⟨by simp; omega, hc'⟩ hm (fun y hy => hw y (List.mem_of_mem_drop (List.mem_of_mem_take hy))) (fun y hy _ => by cases hy; rfl) (by simp) ?_ ?_
    · intro k c hk y hy
      cases hy
      have := hc _ c (hsub k c hk) x rfl
      simp only [Nat.add_assoc]
      exact this
    · exact fun k c hk => hr _ c (hsub k c hk)

theorem DC.esize {P : Program} {Z Fd : Cells} {e : Nat} {es : List PV} {v : Value} (h : DC P w Z (.sl e es) v Fd) : ∃ m, sizeT P e = some m := by
  cases h with
  | nil _ m _ hm => exact ⟨m, hm⟩
  | sl _ _ g len cap m cur vs Fk _ hl hm => exact ⟨m, hm⟩

/-- All that may be read. -/
def All : Cells := fun _ _ => True

theorem DC.rd {P : Program} {Z Fd : Cells} {c : PV} {v : Value} (h : DC P w Z c v Fd) : RC P w All c v := h.read All (fun _ _ _ => trivial) (fun _ _ _ => trivial)
theorem RC.rd {P : Program} {Z : Cells} {c : PV} {v : Value} (h : RC P w Z c v) : RC P w All c v := h.mono (fun _ _ _ cur _ _ hb => ⟨cur, hb, rfl, rfl⟩) fun _ _ _ => trivial

/-- All that the frame may read. -/
def ZS (cx : Cx) (F : Nat → Cells) (st : St) : Cells := fun b o => cx.Z b o ∨ ∃ i, (st.node i).isSome = true ∧ F i b o

theorem elems_okS (h : G cx U X ρ F st a w) {c : TV} {v : Value} (hc : TR cx.P w cx.Z ρ F (shapeOf st) c v) {r : Nat × List PV} {s1 : St} (hr : (elems c).run st = some (r, s1)) :
    s1 = st ∧ RC cx.P w (ZS cx F st) (.sl r.1 r.2) v := by
  cases c with
  | nl e =>
    cases run_pure hr
    cases hc with
    | nl _ m hm => exact ⟨rfl, .empty hm⟩
  | sz e es =>
    cases run_pure hr
    cases hc with
    | sz _ _ _ hrc => exact ⟨rfl, hrc.mono (fun _ _ _ cur _ _ hb => ⟨cur, hb, rfl, rfl⟩) fun _ _ h => .inl h⟩
  | rf id =>
    obtain ⟨nd, s2, h1, h2⟩ := run_bind_some hr
    cases run_getN h1
    split at h2
    · rename_i q ver e es hn
      cases run_pure h2
      obtain ⟨hd, _⟩ := sl_node h hn
      have hv : v = ρ id := by cases hc; rfl
      rw [hv]
      exact ⟨rfl, hd.read _ (fun _ _ hf => .inr ⟨id, by rw [hn]; rfl, hf⟩) fun _ _ h => .inl h⟩
    · exact (run_fail h2).elim
  | sb id lo k =>
    obtain ⟨nd, s2, h1, h2⟩ := run_bind_some hr
    cases run_getN h1
    split at h2
    · rename_i q ver e es hn
      cases run_pure h2
      obtain ⟨hd, hsh⟩ := sl_node h hn
      obtain ⟨m, hm⟩ := hd.esize
      cases hc with
      | sb _ _ _ _ _ hcl =>
        obtain ⟨x, cap, rfl, hcap, hle, hnz⟩ := hcl _ _ _ hsh
        refine ⟨rfl, ?_⟩
        by_cases hk : k = 0
        · subst hk
          exact .empty hm
        · obtain ⟨g, l', c', m', hr0, hm', rfl⟩ := hnz hk
          rw [hm] at hm'
          cases hm'
          have := hd.read (ZS cx F st) (fun _ _ hf => .inr ⟨id, by rw [hn]; rfl, hf⟩) fun _ _ h => .inl h
          rw [hr0] at this
          have := this.sub hm hle hcap
          simpa using this
    · exact (run_fail h2).elim
  | ri id ver p =>
    obtain ⟨nd, s2, h1, h2⟩ := run_bind_some hr
    cases run_getN h1
    split at h2
    · rename_i q ver' e es hn
      split at h2
      · rename_i hver
        subst hver
        split at h2
        · rename_i r' hget
          cases run_pure h2
          obtain ⟨hd, hsh⟩ := sl_node h hn
          cases hc with
          | ri _ _ _ _ _ hnav =>
            obtain ⟨F', hd', hsub⟩ := hd.at p (e' := r.1) (es' := r.2) hget (hnav _ _ hsh)
            exact ⟨rfl, hd'.read _ (fun _ _ hf => .inr ⟨id, by rw [hn]; rfl, hsub _ _ hf⟩) fun _ _ h => .inl h⟩
        · exact (run_fail h2).elim
      · exact (run_fail h2).elim
    · exact (run_fail h2).elim
  | _ => exact (run_fail hr).elim

theorem elems_ok (h : G cx U X ρ F st a w) {c : TV} {v : Value} (hc : TR cx.P w cx.Z ρ F (shapeOf st) c v) {r : Nat × List PV} {s1 : St} (hr : (elems c).run st = some (r, s1)) :
    s1 = st ∧ RC cx.P w All (.sl r.1 r.2) v :=
  let ⟨h1, h2⟩ := elems_okS h hc hr
  ⟨h1, h2.rd⟩

theorem RC.slice {P : Program} {Z : Cells} {e : Nat} {es : List PV} {v : Value} (h : RC P w Z (.sl e es) v) : ∃ x cap, v = .slice x es.length cap ∧ es.length ≤ cap ∧ (∀ y, x = some y → es ≠ [] → y.spot = none) ∧ (x = none → es = []) := by
  cases h with
  | sl _ _ x len cap m vs hl hm hw hx hn hc hr => exact ⟨x, cap, by rw [hl.1], by omega, hx, fun h => List.eq_nil_of_length_eq_zero (by have := hn h; omega)⟩

theorem run_builtin {P : Program} {o : Oper} {c : Call} {k : Builtin} (hop : o.op = .call c) (hcal : c.callee = .builtin k) :
    (execOp a.eval o).run P w = (builtin k c.argTypes o.type (c.args.map fun | .const _ => true | _ => false) (c.args.map a.eval)).run P w := by
  unfold execOp
  rw [hop]
  simp only [resolve, hcal, Sem.run_bind, Sem.run_pure, Result.andThen_ok, invoke]
  rfl

theorem op_len (h : G cx U X ρ F st a w) {b : Nat} {o : Oper} {d : Nat} (ho : o.dst = some d) (hd : d < cx.n) {t e : TypeId} {x : Operand} {x' : Opd} {c : Call} (hop : o.op = .call c) (hcal : c.callee = .builtin .len)
    (hargs : c.args = #[x]) (hts : c.argTypes = #[t]) (ht : cx.P.underlying t = some (.slice e)) (hx : cOpd cx.P t x = some x') {s1 : St}
    (hr : ((opd x').bind fun v => (elems v).bind fun r => setS d (.a (.int .i64 r.2.length))).run st = some ((), s1)) : Now cx U b o s1 a w := by
  obtain ⟨c', s2, h1, h2⟩ := run_bind_some hr
  obtain ⟨rfl, g1, i1⟩ := opd_ok h hx h1
  obtain ⟨r, s3, h3, h4⟩ := run_bind_some h2
  obtain ⟨rfl, hrc⟩ := elems_ok h g1 h3
  cases run_setS h4
  obtain ⟨y, cap, hv, _⟩ := hrc.slice
  refine now_value h ho hd ?_ (.a _) trivial
  rw [run_builtin hop hcal, hargs, hts]
  simp [builtin, Builtin.len_, run_underlying ht, hv, goInt]

theorem op_slen (h : G cx U X ρ F st a w) {b : Nat} {o : Oper} {d : Nat} (ho : o.dst = some d) (hd : d < cx.n) {t : TypeId} {x : Operand} {x' : Opd} {c : Call} (hop : o.op = .call c) (hcal : c.callee = .builtin .len)
    (hargs : c.args = #[x]) (hts : c.argTypes = #[t]) (ht : cx.P.underlying t = some .string) (hx : cOpd cx.P t x = some x') {s1 : St}
    (hr : ((opd x').bind fun v => match v with | .a (.string s) => setS d (.a (.int .i64 s.size)) | _ => .fail).run st = some ((), s1)) : Now cx U b o s1 a w := by
  obtain ⟨c', s2, h1, h2⟩ := run_bind_some hr
  obtain ⟨rfl, g1, i1⟩ := opd_ok h hx h1
  split at h2
  · rename_i s
    cases run_setS h2
    have hv : a.eval x = .string s := tr_a g1
    refine now_value h ho hd ?_ (.a _) trivial
    rw [run_builtin hop hcal, hargs, hts]
    simp [builtin, Builtin.len_, run_underlying ht, hv, goInt]
  · exact (run_fail h2).elim

/-- Bounds of a cut. -/
def OptI (v : Option Value) (n : Option Int) : Prop := (v = none ∧ n = none) ∨ ∃ k i, v = some (.int k i) ∧ n = some i

theorem bounds_run {P : Program} {isSlice : Bool} {len cap : Nat} {lo hi : Option Value} {l r : Option Int} (hlo : OptI lo l) (hhi : OptI hi r) (hc : cut (l.getD 0) (r.getD len) len) (hcap : len ≤ cap) :
    (Instr.sliceBounds isSlice len cap lo hi none).run P w = .ok ((l.getD 0).toNat, (r.getD len).toNat, cap) w := by
  obtain ⟨c1, c2, c3⟩ := hc
  rcases hhi with ⟨rfl, rfl⟩ | ⟨k, i, rfl, rfl⟩
  · simp only [Option.getD_none] at c2 c3
    rcases hlo with ⟨rfl, rfl⟩ | ⟨k', j, rfl, rfl⟩
    · simp [Instr.sliceBounds]
    · simp only [Option.getD_some] at c1 c2
      simp [Instr.sliceBounds, run_sliceBound w k' j len .sliceB c1 c2]
  · simp only [Option.getD_some] at c2 c3
    have hi0 : 0 ≤ i := by omega
    have e1 : (i.toNat : Int) = i := Int.toNat_of_nonneg hi0
    have hb : (Instr.sliceBound (.int k i) cap (if isSlice then .sliceAcap else .sliceAlen)).run P w = .ok i.toNat w := run_sliceBound w k i cap _ hi0 (by omega)
    rcases hlo with ⟨rfl, rfl⟩ | ⟨k', j, rfl, rfl⟩
    · simp [Instr.sliceBounds, hb]
    · simp only [Option.getD_some] at c1 c2
      simp [Instr.sliceBounds, hb, run_sliceBound w k' j i.toNat .sliceB c1 (by omega)]

theorem bound_ok (h : G cx U X ρ F st a w) {t : TypeId} {x : Option Operand} {y : Option Opd} (hx : optOpd cx.P t x = some y) {r : Option Int} {s1 : St} (hr : (bound y).run st = some (r, s1)) : s1 = st ∧ OptI (x.map a.eval) r := by
  cases x with
  | none =>
    cases hx
    cases run_pure hr
    exact ⟨rfl, .inl ⟨rfl, rfl⟩⟩
  | some x =>
    simp only [optOpd] at hx
    obtain ⟨y', hy, rfl⟩ := Option.map_eq_some_iff.1 hx
    obtain ⟨c, s2, h1, h2⟩ := run_bind_some hr
    obtain ⟨rfl, g1, _⟩ := opd_ok h hy h1
    split at h2
    · rename_i n hn
      cases run_pure h2
      unfold asI at hn
      split at hn
      · cases hn
        exact ⟨rfl, .inr ⟨_, n, by rw [Option.map_some, tr_a g1], rfl⟩⟩
      · cases hn
    · exact (run_fail h2).elim

theorem op_sslc (h : G cx U X ρ F st a w) {b : Nat} {o : Oper} {d : Nat} (ho : o.dst = some d) (hd : d < cx.n) {t : TypeId} {x : Operand} {x' : Opd} {lo hi : Option Operand} {lo' hi' : Option Opd} {t3 : TypeId} (hop : o.op = .slice t x lo hi none)
    (ht : cx.P.underlying t = some .string) (hx : cOpd cx.P t x = some x') (hlo : optOpd cx.P t3 lo = some lo') (hhi : optOpd cx.P t3 hi = some hi') {s1 : St}
    (hr : ((opd x').bind fun v => (bound lo').bind fun l => (bound hi').bind fun h => (strAt v l h).bind (setS d)).run st = some ((), s1)) : Now cx U b o s1 a w := by
  obtain ⟨c', s2, h1, h2⟩ := run_bind_some hr
  obtain ⟨rfl, g1, i1⟩ := opd_ok h hx h1
  obtain ⟨l, s3, h3, h4⟩ := run_bind_some h2
  obtain ⟨rfl, b1⟩ := bound_ok h hlo h3
  obtain ⟨r, s4, h5, h6⟩ := run_bind_some h4
  obtain ⟨rfl, b2⟩ := bound_ok h hhi h5
  obtain ⟨c2, s5, h7, h8⟩ := run_bind_some h6
  unfold strAt at h7
  split at h7
  · rename_i s
    split at h7
    · rename_i hcut
      cases run_pure h7
      cases run_setS h8
      have hv : a.eval x = .string s := tr_a g1
      refine now_value h ho hd ?_ (.a _) trivial
      unfold execOp
      rw [hop]
      simp [Instr.sliceAt, Instr.slice, run_underlying ht, hv, bounds_run b1 b2 hcut (Nat.le_refl _)]
    · exact (run_fail h7).elim
  · exact (run_fail h7).elim

theorem slice_run {P : Program} {t e m : TypeId} (ht : P.underlying t = some (.slice e)) (hm : sizeT P e = some m) {x : Option Addr} {len cap : Nat} {lo hi : Option Value} {l r : Option Int} (hlo : OptI lo l) (hhi : OptI hi r)
    (hc : cut (l.getD 0) (r.getD len) len) (hcap : len ≤ cap) :
    (Instr.sliceAt t (.slice x len cap) lo hi none).run P w =
      .ok (.slice (if cap = (l.getD 0).toNat then x else x.map (·.add ((l.getD 0).toNat * m))) ((r.getD len).toNat - (l.getD 0).toNat) (cap - (l.getD 0).toNat)) w := by
  simp [Instr.sliceAt, Instr.slice, run_underlying ht, bounds_run hlo hhi hc hcap, sizeOf_run hm]

theorem cut_spec {l r : Option Int} {n : Nat} (hc : cut (l.getD 0) (r.getD n) n) :
    (l.getD 0).toNat ≤ (r.getD n).toNat ∧ (r.getD n).toNat ≤ n ∧ (r.getD n - l.getD 0).toNat = (r.getD n).toNat - (l.getD 0).toNat := by
  obtain ⟨c1, c2, c3⟩ := hc
  omega

theorem take_drop {α : Type} (es : List α) (l r : Nat) : (es.take r).drop l = (es.drop l).take (r - l) := by
  rw [List.drop_take]

theorem RC.cutAt {P : Program} {Z : Cells} {e m len cap : Nat} {es : List PV} {x : Option Addr} (h : RC P w Z (.sl e es) (.slice x len cap)) (hm : sizeT P e = some m) {l r : Nat} (hlr : l ≤ r) (hr : r ≤ es.length) :
    RC P w Z (.sl e ((es.take r).drop l)) (.slice (if cap = l then x else x.map (·.add (l * m))) (r - l) (cap - l)) := by
  rw [take_drop]
  obtain ⟨x', cap', e1, hcap, hx, hn⟩ := h.slice
  cases e1
  have hemp : r - l = 0 → RC P w Z (.sl e ((es.drop l).take (r - l))) (.slice (if cap = l then x else x.map (·.add (l * m))) (r - l) (cap - l)) := by
    intro h0
    rw [h0, List.take_zero]
    exact .empty hm
  by_cases h0 : r - l = 0
  · exact hemp h0
  · cases x with
    | none => have := hn rfl; subst this; simp at hr; omega
    | some y =>
      rw [if_neg (by omega)]
      have := h.sub hm (lo := l) (n := r - l) (cap' := cap - l) (by omega) (by omega)
      simp only [Option.map_some, add_none (hx y rfl (by rintro rfl; simp only [List.length_nil] at *; omega))]
      exact this

theorem sliceAt_ok (h : G cx U X ρ F st a w) {t e m : TypeId} (ht : cx.P.underlying t = some (.slice e)) (hm : sizeT cx.P e = some m) {c : TV} {v : Value} (hc : TR cx.P w cx.Z ρ F (shapeOf st) c v) (hi : idsIn U c) {lo hi' : Option Value} {l r : Option Int} (hlo : OptI lo l) (hhi : OptI hi' r)
    {c' : TV} {s1 : St} (hr : (sliceAt e c l r).run st = some (c', s1)) : s1 = st ∧ ∃ u, (Instr.sliceAt t v lo hi' none).run cx.P w = .ok u w ∧ TR cx.P w cx.Z ρ F (shapeOf st) c' u ∧ idsIn U c' := by
  cases c with
  | nl e' =>
    simp only [sliceAt] at hr
    split at hr
    · rename_i hcond
      obtain ⟨rfl, h1, h2⟩ := hcond
      cases run_pure hr
      cases hc with
      | nl _ m' hm' =>
        have hcut : cut (l.getD 0) (r.getD (0 : Nat)) (0 : Nat) := by simp only [cut]; simp at h2 ⊢; omega
        refine ⟨rfl, _, slice_run ht hm hlo hhi hcut (Nat.le_refl _), ?_, trivial⟩
        have h2' : r.getD (0 : Nat) = 0 := by simpa using h2
        simp only [h1, h2', Int.toNat_zero, if_true, Nat.sub_self]
        exact .nl _ m' hm'
    · exact (run_fail hr).elim
  | sz e' es =>
    simp only [sliceAt] at hr
    split at hr
    · rename_i hcond
      obtain ⟨rfl, hcut⟩ := hcond
      cases run_pure hr
      cases hc with
      | sz _ _ _ hrc =>
        obtain ⟨x, cap, rfl, hcap, hx, hn⟩ := hrc.slice
        obtain ⟨k1, k2, k3⟩ := cut_spec hcut
        exact ⟨rfl, _, slice_run ht hm hlo hhi hcut hcap, .sz _ _ _ (hrc.cutAt hm k1 k2), trivial⟩
    · exact (run_fail hr).elim
  | rf id =>
    obtain ⟨nd, s2, h1, h2⟩ := run_bind_some hr
    cases run_getN h1
    split at h2
    · rename_i q ver e' es hn
      split at h2
      · rename_i hcond
        obtain ⟨rfl, hcut⟩ := hcond
        cases run_pure h2
        obtain ⟨hd, hsh⟩ := sl_node h hn
        obtain ⟨k1, k2, k3⟩ := cut_spec hcut
        have hv : v = ρ id := by cases hc; rfl
        obtain ⟨x, cap, hv', hcap, _, hnn⟩ := hd.rd.slice
        rw [hv, hv']
        refine ⟨rfl, _, slice_run ht hm hlo hhi hcut hcap, ?_, hi⟩
        rw [k3]
        refine .sb _ _ _ _ rfl fun ver1 e1 l1 hs1 => ?_
        rw [hsh] at hs1
        cases hs1
        refine ⟨_, _, rfl, by omega, by omega, fun hne => ?_⟩
        · have hes : es ≠ [] := by rintro rfl; simp only [List.length_nil] at *; omega
          rw [hv'] at hd
          cases hd with
          | nil => exact absurd rfl hes
          | sl _ _ g len cap' m' cur vs Fk _ hl hm' hw hg hlc hcm hsz hcc hrr hF hdd hd0 =>
            refine ⟨g, _, _, m, hv', hm, ?_⟩
            rw [if_neg (by omega)]
            simp [add_none]
      · exact (run_fail h2).elim
    · exact (run_fail h2).elim
  | sb id lo0 k =>
    obtain ⟨nd, s2, h1, h2⟩ := run_bind_some hr
    cases run_getN h1
    split at h2
    · rename_i q ver e' es hn
      split at h2
      · rename_i hcond
        obtain ⟨rfl, hcut⟩ := hcond
        cases run_pure h2
        obtain ⟨hd, hsh⟩ := sl_node h hn
        obtain ⟨k1, k2, k3⟩ := cut_spec hcut
        cases hc with
        | sb _ _ _ _ _ hcl =>
          obtain ⟨x, cap, rfl, hcap, hle, hnz⟩ := hcl _ _ _ hsh
          refine ⟨rfl, _, slice_run ht hm hlo hhi hcut hcap, ?_, hi⟩
          rw [k3]
          refine .sb _ _ _ _ rfl fun ver1 e1 l1 hs1 => ?_
          rw [hsh] at hs1
          cases hs1
          refine ⟨_, _, rfl, by omega, by omega, fun hne => ?_⟩
          · obtain ⟨g, l', c', m', hr0, hm', rfl⟩ := hnz (by omega)
            rw [hm] at hm'
            cases hm'
            refine ⟨g, _, _, m, hr0, hm, ?_⟩
            rw [if_neg (by omega)]
            simp [add_none, Nat.add_mul]
      · exact (run_fail h2).elim
    · exact (run_fail h2).elim
  | _ => exact (run_fail hr).elim

theorem op_slc (h : G cx U X ρ F st a w) {b : Nat} {o : Oper} {d : Nat} (ho : o.dst = some d) (hd : d < cx.n) {t e m : TypeId} {x : Operand} {x' : Opd} {lo hi : Option Operand} {lo' hi' : Option Opd} {t3 : TypeId} (hop : o.op = .slice t x lo hi none)
    (ht : cx.P.underlying t = some (.slice e)) (hm : sizeT cx.P e = some m) (hx : cOpd cx.P t x = some x') (hlo : optOpd cx.P t3 lo = some lo') (hhi : optOpd cx.P t3 hi = some hi') {s1 : St}
    (hr : ((opd x').bind fun v => (bound lo').bind fun l => (bound hi').bind fun h => (sliceAt e v l h).bind (setS d)).run st = some ((), s1)) : Now cx U b o s1 a w := by
  obtain ⟨c', s2, h1, h2⟩ := run_bind_some hr
  obtain ⟨rfl, g1, i1⟩ := opd_ok h hx h1
  obtain ⟨l, s3, h3, h4⟩ := run_bind_some h2
  obtain ⟨rfl, b1⟩ := bound_ok h hlo h3
  obtain ⟨r, s4, h5, h6⟩ := run_bind_some h4
  obtain ⟨rfl, b2⟩ := bound_ok h hhi h5
  obtain ⟨c2, s5, h7, h8⟩ := run_bind_some h6
  obtain ⟨rfl, u, hrun, htr, hi⟩ := sliceAt_ok h ht hm g1 i1 b1 b2 h7
  cases run_setS h8
  refine now_value h ho hd ?_ htr hi
  unfold execOp
  rw [hop]
  simp [hrun]

theorem index_run {P : Program} {t e m : TypeId} (ht : P.underlying t = some (.slice e)) (hm : sizeT P e = some m) {y : Addr} (hy : y.spot = none) {len cap : Nat} {k : IntKind} {n : Int} (h0 : 0 ≤ n) (h1 : n < len) :
    (Instr.indexAt t (.slice (some y) len cap) (.int k n)).run P w = .ok (.pointer (some ⟨y.block, y.off + n.toNat * m, none⟩)) w := by
  simp [Instr.indexAt, asIntOf, run_underlying ht, h0, h1, sizeOf_run hm, add_none hy]

theorem indexAt_ok (h : G cx U X ρ F st a w) {t e m : TypeId} (ht : cx.P.underlying t = some (.slice e)) (hm : sizeT cx.P e = some m) {c : TV} {v : Value} (hc : TR cx.P w cx.Z ρ F (shapeOf st) c v) (hi : idsIn U c)
    {k : IntKind} {n : Int} {c' : TV} {s1 : St} (hr : (indexAt e m c n).run st = some (c', s1)) : s1 = st ∧ ∃ u, (Instr.indexAt t v (.int k n)).run cx.P w = .ok u w ∧ TR cx.P w cx.Z ρ F (shapeOf st) c' u ∧ idsIn U c' := by
  obtain ⟨r, s2, h1, h2⟩ := run_bind_some hr
  obtain ⟨rfl, hrc⟩ := elems_ok h hc h1
  rw [ite2] at h2
  split at h2
  · rename_i hcond
    obtain ⟨he, hn0, hn1⟩ := hcond
    obtain ⟨x, cap, hv, hcap, hx, hnn⟩ := hrc.slice
    have hne : r.2 ≠ [] := by intro e0; rw [e0] at hn1; simp at hn1; omega
    cases x with
    | none => exact absurd (hnn rfl) hne
    | some y =>
      have hrun := index_run (w := w) (cap := cap) ht hm (hx y rfl hne) (k := k) hn0 hn1
      have fin : ∀ {c2 : TV}, c' = c2 → TR cx.P w cx.Z ρ F (shapeOf s2) c2 (.pointer (some ⟨y.block, y.off + n.toNat * m, none⟩)) → idsIn U c2 → s1 = s2 →
          s1 = s2 ∧ ∃ u, (Instr.indexAt t v (.int k n)).run cx.P w = .ok u w ∧ TR cx.P w cx.Z ρ F (shapeOf s2) c' u ∧ idsIn U c' := by
        rintro c2 rfl h1 h2 h3
        exact ⟨h3, _, by rw [hv]; exact hrun, h1, h2⟩
      cases c with
      | rf id =>
        have e1 := run_pure h2
        refine fin (congrArg Prod.fst e1) ?_ hi (congrArg Prod.snd e1)
        obtain ⟨nd, s3, k1, k2⟩ := run_bind_some h1
        cases run_getN k1
        split at k2
        · rename_i q ver e' es hn
          obtain ⟨hd, hsh⟩ := sl_node h hn
          cases run_pure k2
          have hv' : v = ρ id := by cases hc; rfl
          simp only at he
          subst he
          refine .ea _ _ _ _ _ rfl fun ver1 e1 l1 hs1 => ?_
          rw [hsh] at hs1
          cases hs1
          rw [← hv', hv] at hd
          generalize hes : es = es2 at hd hne
          cases hd with
          | nil => exact absurd rfl hne
          | sl _ _ g len cap' m' cur vs Fk _ hl hm' hw hg hlc hcm hsz hcc hrr hF hdd hd0 => exact ⟨g, _, _, by rw [← hv', hv], hm, by simp⟩
        · exact (run_fail k2).elim
      | sb id lo k =>
        have e1 := run_pure h2
        refine fin (congrArg Prod.fst e1) ?_ hi (congrArg Prod.snd e1)
        obtain ⟨nd, s3, k1, k2⟩ := run_bind_some h1
        cases run_getN k1
        split at k2
        · rename_i q ver e' es hn
          obtain ⟨hd, hsh⟩ := sl_node h hn
          cases run_pure k2
          simp only at he
          subst he
          refine .ea _ _ _ _ _ rfl fun ver1 e1 l1 hs1 => ?_
          rw [hsh] at hs1
          cases hs1
          cases hc with
          | sb _ _ _ _ _ hcl =>
            obtain ⟨x, cap', hv2, hcap', hle, hnz⟩ := hcl _ _ _ hsh
            obtain ⟨g, l', c', m', hr0, hm', hx2⟩ := hnz (by rintro rfl; simp at hne)
            rw [hm] at hm'
            cases hm'
            rw [hv] at hv2
            injection hv2 with e1 _ _
            rw [hx2] at e1
            injection e1 with e1
            subst e1
            exact ⟨g, _, _, hr0, hm, by simp [Nat.add_mul]⟩
        · exact (run_fail k2).elim
      | ri id ver p =>
        have e1 := run_pure h2
        refine fin (congrArg Prod.fst e1) ?_ hi (congrArg Prod.snd e1)
        obtain ⟨nd, s3, k1, k2⟩ := run_bind_some h1
        cases run_getN k1
        split at k2
        · rename_i q ver' e' es hn
          obtain ⟨hd, hsh⟩ := sl_node h hn
          split at k2
          · rename_i hver
            subst hver
            split at k2
            · rename_i r' hget
              cases run_pure k2
              refine .ei _ _ _ _ _ _ _ rfl fun e1 l1 hs1 => ?_
              rw [hsh] at hs1
              cases hs1
              cases hc with
              | ri _ _ _ _ _ hnav =>
                have hnv := hnav _ _ hsh
                obtain ⟨F', hd', _⟩ := hd.at p (e' := r.1) (es' := r.2) hget hnv
                rw [hv] at hd' hnv
                generalize hes : r.2 = es2 at hd' hne
                cases hd' with
                | nil => exact absurd rfl hne
                | sl _ _ g len cap' m' cur vs Fk _ hl hm' hw hg hlc hcm hsz hcc hrr hF hdd hd0 => exact ⟨g, _, _, hnv, by simp⟩
            · exact (run_fail k2).elim
          · exact (run_fail k2).elim
        · exact (run_fail k2).elim
      | sz e' es =>
        simp only at h2
        split at h2
        · rename_i x0 hx0
          have e1 := run_pure h2
          refine fin (congrArg Prod.fst e1) ?_ trivial (congrArg Prod.snd e1)
          cases run_pure h1
          cases hc with
          | sz _ _ _ hrc0 =>
            rw [hv] at hrc0
            cases hrc0 with
            | sl _ _ _ _ _ m' vs hl hm' hw hx' hn' hcc hrr =>
              simp only at he hx0
              subst he
              rw [hm] at hm'
              cases hm'
              refine .ez _ _ _ rfl (fun j => vs (n.toNat * m + j)) fun j c hj => ?_
              rw [Nat.zero_add] at hj
              have hjm : j < m := by rw [← hw x0 (List.mem_of_getElem? hx0)]; exact (List.getElem?_eq_some_iff.1 hj).1
              have hf : (flat es)[n.toNat * m + j]? = some c := by rw [flat_get hw hx0 hjm]; exact hj
              have := hcc _ c hf y rfl
              simp only [Nat.add_assoc]
              exact ⟨this.1, this.2, hrr _ c hf⟩
        · exact (run_fail h2).elim
      | _ => exact (run_fail h2).elim
  · exact (run_fail h2).elim

theorem asI_some {u : TV} {n : Int} (h : asI u = some n) : ∃ k, u = .a (.int k n) := by
  unfold asI at h
  split at h
  · cases h; exact ⟨_, rfl⟩
  · cases h

theorem op_iad (h : G cx U X ρ F st a w) {b : Nat} {o : Oper} {d : Nat} (ho : o.dst = some d) (hd : d < cx.n) {t e m : TypeId} {x i : Operand} {x' i' : Opd} {t3 : TypeId} (hop : o.op = .indexAddr t x i)
    (ht : cx.P.underlying t = some (.slice e)) (hm : sizeT cx.P e = some m) (hx : cOpd cx.P t x = some x') (hi : cOpd cx.P t3 i = some i') {s1 : St}
    (hr : ((opd x').bind fun v => (opd i').bind fun u => match asI u with
      | some n => (indexAt e m v n).bind (setS d)
      | none => .fail).run st = some ((), s1)) : Now cx U b o s1 a w := by
  obtain ⟨c', s2, h1, h2⟩ := run_bind_some hr
  obtain ⟨rfl, g1, i1⟩ := opd_ok h hx h1
  obtain ⟨u, s3, h3, h4⟩ := run_bind_some h2
  obtain ⟨rfl, g2, i2⟩ := opd_ok h hi h3
  split at h4
  · rename_i n hn
    obtain ⟨k, rfl⟩ := asI_some hn
    obtain ⟨c2, s5, h7, h8⟩ := run_bind_some h4
    obtain ⟨rfl, u', hrun, htr, hid⟩ := indexAt_ok h ht hm g1 i1 (k := k) h7
    cases run_setS h8
    refine now_value h ho hd ?_ htr hid
    unfold execOp
    rw [hop]
    have := tr_a g2
    simp [this, hrun]
  · exact (run_fail h4).elim

theorem op_ix (h : G cx U X ρ F st a w) {b : Nat} {o : Oper} {d : Nat} (ho : o.dst = some d) (hd : d < cx.n) {t : TypeId} {x i : Operand} {x' i' : Opd} {t3 : TypeId} (hop : o.op = .index t x i)
    (ht : cx.P.underlying t = some .string) (hx : cOpd cx.P t x = some x') (hi : cOpd cx.P t3 i = some i') {s1 : St}
    (hr : ((opd x').bind fun v => (opd i').bind fun u => match v, asI u with
      | .a (.string s), some n => (liftO (byteAt s n)).bind fun r => setS d (.a r)
      | _, _ => .fail).run st = some ((), s1)) : Now cx U b o s1 a w := by
  obtain ⟨c', s2, h1, h2⟩ := run_bind_some hr
  obtain ⟨rfl, g1, i1⟩ := opd_ok h hx h1
  obtain ⟨u, s3, h3, h4⟩ := run_bind_some h2
  obtain ⟨rfl, g2, i2⟩ := opd_ok h hi h3
  split at h4
  · rename_i s n hn
    obtain ⟨k, rfl⟩ := asI_some hn
    obtain ⟨r, s5, h7, h8⟩ := run_bind_some h4
    obtain ⟨hb, e5⟩ := run_liftO h7
    simp only at hb e5
    subst e5
    cases run_setS h8
    refine now_value h ho hd ?_ (.a _) trivial
    unfold execOp
    rw [hop]
    unfold byteAt at hb
    split at hb
    · rename_i h0
      obtain ⟨bb, hbb, rfl⟩ := Option.map_eq_some_iff.1 hb
      have e1 := tr_a g1
      have e2 := tr_a g2
      have hlt : n.toNat < s.size := by
        by_cases hh : n.toNat < s.size
        · exact hh
        · rw [ByteArray.getElem?_ge' s _ hh] at hbb; cases hbb
      have hbe : s[n.toNat] = bb := by rw [ByteArray.getElem?_lt' s _ hlt] at hbb; exact Option.some.inj hbb
      have := run_index_string (P := cx.P) w t s k n ht
      rw [dif_pos ⟨h0, by omega⟩] at this
      simp [e1, e2, this, hbe]
    · cases hb
  · exact (run_fail h4).elim

theorem max_run {P : Program} {Z : Cells} {sh : Shape} : ∀ {cs : List TV} {vs : List Value} {k : IntKind} {n r : Int}, TRL P w Z ρ F sh cs vs → extreme true cs n = some r → (vs.foldlM Builtin.max2 (.int k n)).run P w = .ok (.int k r) w := by
  intro cs
  induction cs with
  | nil =>
    intro vs k n r h hr
    cases h
    cases hr
    rfl
  | cons c cs ih =>
    intro vs k n r h hr
    cases h with
    | @cons _ v _ vs' h1 hs =>
      unfold extreme at hr
      split at hr
      · rename_i e; cases e
      · rename_i k' y vs2 e
        cases e
        have e1 := tr_a h1
        subst e1
        simp only [List.foldlM_cons, Sem.run_bind, Builtin.max2, Sem.run_pure, Result.andThen_ok]
        exact ih hs hr
      · cases hr

theorem min_run {P : Program} {Z : Cells} {sh : Shape} : ∀ {cs : List TV} {vs : List Value} {k : IntKind} {n r : Int}, TRL P w Z ρ F sh cs vs → extreme false cs n = some r → (vs.foldlM Builtin.min2 (.int k n)).run P w = .ok (.int k r) w := by
  intro cs
  induction cs with
  | nil =>
    intro vs k n r h hr
    cases h
    cases hr
    rfl
  | cons c cs ih =>
    intro vs k n r h hr
    cases h with
    | @cons _ v _ vs' h1 hs =>
      unfold extreme at hr
      split at hr
      · rename_i e; cases e
      · rename_i k' y vs2 e
        cases e
        have e1 := tr_a h1
        subst e1
        simp only [List.foldlM_cons, Sem.run_bind, Builtin.min2, Sem.run_pure, Result.andThen_ok]
        exact ih hs hr
      · cases hr

theorem zip_eval {ts : List TypeId} {xs : List Operand} (f : Operand → Value) (h : xs.length = ts.length) : (ts.zip xs).map (fun x => f x.2) = xs.map f := by
  have : (ts.zip xs).map Prod.snd = xs := by rw [List.map_snd_zip]; omega
  rw [show (fun x : TypeId × Operand => f x.2) = f ∘ Prod.snd from rfl, ← List.map_map, this]

theorem op_mmx (h : G cx U X ρ F st a w) {b : Nat} {o : Oper} {d : Nat} (ho : o.dst = some d) (hd : d < cx.n) {isMax : Bool} {xs' : List Opd} {c : Call} (hop : o.op = .call c) (hcal : c.callee = .builtin (if isMax then .max else .min))
    (hsz : c.args.size = c.argTypes.size) (hx : cOpds cx.P (c.argTypes.toList.zip c.args.toList) = some xs') {s1 : St}
    (hr : ((opds xs').bind fun vs => match vs with
      | .a (.int k x) :: vs => (liftO (extreme isMax vs x)).bind fun r => setS d (.a (.int k r))
      | _ => .fail).run st = some ((), s1)) : Now cx U b o s1 a w := by
  obtain ⟨cs, s2, h1, h2⟩ := run_bind_some hr
  obtain ⟨rfl, g1, i1⟩ := opds_ok h _ hx h1
  rw [zip_eval a.eval (by simpa using hsz)] at g1
  split at h2
  · rename_i k x vs
    obtain ⟨r, s3, h3, h4⟩ := run_bind_some h2
    obtain ⟨h5, h6⟩ := run_liftO h3
    simp only at h5 h6
    subst h6
    cases run_setS h4
    refine now_value h ho hd ?_ (.a _) trivial
    rw [run_builtin hop hcal]
    generalize hargs : c.args.toList.map a.eval = us at g1
    have hargs' : c.args.map a.eval = us.toArray := by rw [← hargs, ← Array.toList_map, Array.toArray_toList]
    rw [hargs']
    cases g1 with
    | @cons _ v _ vs' k1 ks =>
      have e1 := tr_a k1
      subst e1
      cases isMax with
      | true => simp [builtin, Builtin.max_, max_run ks h5]
      | false => simp [builtin, Builtin.min_, min_run ks h5]
  · exact (run_fail h2).elim

end Go.Proofs.Ytkoljcjliihiiaa.VM

/- The interpreter 'VM': boxes and structs: what is made, read and written in a frame is so in the world. -/
import Derived.Test.YtkoljcjliihiiaaVmE
import Derived.Laws.CopyRow
import Derived.Laws.Build
namespace Go.Proofs.Ytkoljcjliihiiaa.VM
open Go

variable {cx : Cx} {U : Nat → Prop} {X : Cells} {ρ : Nat → Value} {F : Nat → Cells} {st : St} {a : Act} {w : World}

theorem sameV_eq {x v : Value} (h : sameV x v = true) : v = x := by
  unfold sameV at h
  split at h <;> simp_all

theorem zs_trl {P : Program} {Z : Cells} {sh : Shape} : ∀ {zs : List ZC} {vs : List Value}, zsFit P zs vs = true → TRL P w Z ρ F sh (zs.map ZC.tv) vs
  | [], [], _ => .nil
  | z :: zs, v :: vs, h => by
    simp only [zsFit, Bool.and_eq_true] at h
    refine .cons ?_ (zs_trl h.2)
    cases z with
    | v x => have := sameV_eq h.1; subst this; exact .a _
    | nl e =>
      have h1 := h.1
      simp only [zcFits, Bool.and_eq_true] at h1
      obtain ⟨h1, h2⟩ := h1
      split at h1
      · obtain ⟨m, hm⟩ := Option.isSome_iff_exists.1 h2
        exact .nl e m hm
      · cases h1
  | [], _ :: _, h => by cases h
  | _ :: _, [], h => by cases h

theorem zs_ids {U : Nat → Prop} (zs : List ZC) : idsInL U (zs.map ZC.tv) := by
  apply idsInL_of
  intro c hc
  obtain ⟨z, _, rfl⟩ := List.mem_map.1 hc
  cases z <;> trivial

theorem zeros_spec {P : Program} {t : Nat} {zs : List ZC} (h : zeros P t = some zs) : ∃ i z, P.info? t = some i ∧ i.zero = some z ∧ i.size = zs.length ∧ zsFit P zs z.cells.toList = true := by
  unfold zeros at h
  obtain ⟨zs', _, h⟩ := Option.bind_eq_some_iff.1 h
  unfold zeroT sizeT at h
  cases hi : P.info? t with
  | none => simp [hi] at h
  | some i =>
    cases hz : i.zero with
    | none => simp [hi, hz] at h
    | some z =>
      simp only [hi, hz, Option.bind_some, Option.map_some] at h
      split at h
      · rename_i hc
        cases h
        exact ⟨i, z, rfl, hz, by simpa using hc.1, hc.2⟩
      · cases h

theorem widthT_spec {P : Program} {t : Nat} {wd : Option Nat} (h : widthT P t = some wd) (w : World) :
    (∀ n, wd = some n → (isAgg t).run P w = .ok true w ∧ sizeT P t = some n) ∧ (wd = none → (isAgg t).run P w = .ok false w) := by
  unfold widthT und at h
  cases hu : P.underlying t with
  | none => rw [hu] at h; cases h
  | some d =>
    rw [hu] at h
    cases d with
    | struct fs =>
      simp only at h
      cases hs : sizeT P t with
      | none => simp [hs] at h
      | some n =>
        simp only [hs, Option.map_some, Option.some.injEq] at h
        subst h
        refine ⟨fun m hm => ?_, fun hn => by cases hn⟩
        cases hm
        exact ⟨by simp [isAgg, underlying, hu], rfl⟩
    | array l e => cases h
    | _ =>
      cases h
      refine ⟨fun m hm => (by cases hm), fun _ => ?_⟩
      simp only [isAgg, underlying, Sem.run_bind, run_program, Result.andThen_ok, hu, Sem.run_pure]

theorem sizeOf_run {P : Program} {t n : Nat} (h : sizeT P t = some n) (w : World) : (sizeOf t).run P w = .ok n w := by
  unfold sizeT at h
  cases hi : P.info? t with
  | none => simp [hi] at h
  | some i =>
    simp only [hi, Option.map_some, Option.some.injEq] at h
    simp [sizeOf, typeInfo, hi, h]

/-- A new box is put into a slot. -/
theorem now_box (h : G cx U X ρ F st a w) {b : Nat} (hb : ∀ i, b ≤ i → i < b + 100 → ¬ U i) {o : Oper} {d : Nat} (ho : o.dst = some d) (hd : d < cx.n) {cs : List TV} {us : Array Value} {t : TypeId} (hne : cs ≠ [])
    (hc : TRL cx.P w cx.Z ρ F (shapeOf st) cs us.toList) (hi : idsInL U cs) (hrun : (execOp a.eval o).run cx.P w = .ok (.value (.pointer (some ⟨w.heap.size, 0, none⟩))) (w.alloc (.cells us t))) :
    Now cx U b o { st.setNode b (some (.bx false cs)) with slots := (d, .rf b) :: st.slots } a w := by
  obtain ⟨ρ', F', h2, hρ⟩ := h.newBox (b := b) (hb b (Nat.le_refl _) (by omega)) hne (us := us) (by rw [← hc.length, Array.length_toList]) (fun i c u h1 h2 => hc.get i c u h1 (by simpa using h2)) hi t
  refine .value _ _ hrun ?_
  rw [ho, ← hρ]
  exact (h2.rel_put hd (.rf b) (.inr rfl)).more fun i hi => hi.imp id fun e => by subst e; omega

theorem op_alloc (h : G cx U X ρ F st a w) {b : Nat} (hb : ∀ i, b ≤ i → i < b + 100 → ¬ U i) {o : Oper} {d : Nat} (ho : o.dst = some d) (hd : d < cx.n) {t : TypeId} {zs : List ZC} (hop : o.op = .alloc t)
    (hz : zeros cx.P t = some zs) {s1 : St} (hr : (if zs.isEmpty then M.fail else (setN b (some (.bx false (zs.map ZC.tv)))).bind fun _ => setS d (.rf b)).run st = some ((), s1)) : Now cx U b o s1 a w := by
  split at hr
  · exact (run_fail hr).elim
  · rename_i hne
    obtain ⟨_, s2, h1, h2⟩ := run_bind_some hr
    cases run_setN h1
    cases run_setS h2
    obtain ⟨i, z, hi, hz0, hsz, hfit⟩ := zeros_spec hz
    refine now_box h hb ho hd (us := z.cells) (t := t) (by intro e; rw [List.map_eq_nil_iff] at e; subst e; exact hne rfl) (zs_trl hfit) (zs_ids zs) ?_
    unfold execOp; rw [hop]
    simp [Instr.alloc, zeroValue, typeInfo, hi, hz0, newVar, newRow]

theorem op_box (h : G cx U X ρ F st a w) {b : Nat} (hb : ∀ i, b ≤ i → i < b + 100 → ¬ U i) {o : Oper} {d : Nat} (ho : o.dst = some d) (hd : d < cx.n) {t : TypeId} {x : Operand} {x' : Opd} (hop : o.op = .box t x)
    (hx : cOpd cx.P t x = some x') {s1 : St} (hr : ((opd x').bind fun v => (liftO v.row).bind fun cs => if cs.isEmpty then .fail else (setN b (some (.bx false cs))).bind fun _ => setS d (.rf b)).run st = some ((), s1)) : Now cx U b o s1 a w := by
  obtain ⟨c, s2, h1, h2⟩ := run_bind_some hr
  obtain ⟨rfl, g1, i1⟩ := opd_ok h hx h1
  obtain ⟨cs, s3, h3, h4⟩ := run_bind_some h2
  obtain ⟨hrow, rfl⟩ := run_liftO h3
  simp only at hrow h4
  split at h4
  · exact (run_fail h4).elim
  · rename_i hne
    obtain ⟨_, s2, h5, h6⟩ := run_bind_some h4
    cases run_setN h5
    cases run_setS h6
    obtain ⟨k1, k2⟩ := g1.row h.one hrow
    refine now_box h hb ho hd (us := (a.eval x).cells) (t := t) (by intro e; subst e; exact hne rfl) k1 (by rw [← k2]; exact idsIn_cells i1) ?_
    unfold execOp; rw [hop]
    simp [Instr.box, newVar, newRow]

/-! ### structs -/
theorem seg_get {α : Type} (cs vs : List α) (o : Nat) (k : Nat) (h : o + vs.length ≤ cs.length) : (cs.take o ++ vs ++ cs.drop (o + vs.length))[k]? = if o ≤ k ∧ k < o + vs.length then vs[k - o]? else cs[k]? := by
  have e1 : (cs.take o).length = o := by simp; omega
  by_cases h1 : k < o
  · rw [if_neg (by omega), List.append_assoc, List.getElem?_append_left (by omega), List.getElem?_take, if_pos h1]
  · by_cases h2 : k < o + vs.length
    · rw [if_pos ⟨by omega, h2⟩, List.getElem?_append_left (by simp [e1]; omega), List.getElem?_append_right (by omega), e1]
    · rw [if_neg (by omega), List.getElem?_append_right (by simp [e1]; omega), List.length_append, e1, List.getElem?_drop]
      congr 1
      omega

theorem foldl_seg (o : Nat) : ∀ (vs : List Value) (j : Nat) (cs : Array Value) (k : Nat), o + j + vs.length ≤ cs.size →
    ((vs.zipIdx j).foldl (fun cs (x : Value × Nat) => cs.setIfInBounds (o + x.2) x.1) cs)[k]? = (if o + j ≤ k ∧ k < o + j + vs.length then vs[k - (o + j)]? else cs[k]?)
  | [], j, cs, k, h => by simp; omega
  | v :: vs, j, cs, k, h => by
    simp only [List.zipIdx_cons, List.foldl_cons]
    rw [foldl_seg o vs (j + 1) _ k (by simp at h ⊢; omega)]
    simp only [List.length_cons] at h ⊢
    by_cases h1 : o + (j + 1) ≤ k ∧ k < o + (j + 1) + vs.length
    · rw [if_pos h1, if_pos (by omega)]
      have : k - (o + j) = (k - (o + (j + 1))) + 1 := by omega
      rw [this, List.getElem?_cons_succ]
    · rw [if_neg h1, Array.getElem?_setIfInBounds]
      by_cases h2 : o + j = k
      · subst h2
        rw [if_pos rfl, if_pos (by omega), if_pos (by omega)]
        simp
      · rw [if_neg h2, if_neg (by omega)]

theorem foldl_seg_size (o : Nat) : ∀ (vs : List (Value × Nat)) (cs : Array Value), (vs.foldl (fun cs (x : Value × Nat) => cs.setIfInBounds (o + x.2) x.1) cs).size = cs.size
  | [], _ => rfl
  | v :: vs, cs => by simp only [List.foldl_cons]; rw [foldl_seg_size o vs]; simp

theorem seg_array (o : Nat) (v : Value) (cs : Array Value) (h : o + v.cells.size ≤ cs.size) :
    (v.cells.zipIdx.foldl (fun cs (x : Value × Nat) => cs.setIfInBounds (o + x.2) x.1) cs).toList = cs.toList.take o ++ v.cells.toList ++ cs.toList.drop (o + v.cells.toList.length) := by
  apply List.ext_getElem?
  intro k
  rw [seg_get _ _ _ _ (by simpa using h), Array.getElem?_toList, ← Array.foldl_toList, Array.toList_zipIdx, foldl_seg o v.cells.toList 0 cs k (by simpa using h)]
  simp

theorem seg_trl {P : Program} {Z : Cells} {sh : Shape} {cs ys : List TV} {us vs : List Value} (h : TRL P w Z ρ F sh cs us) (h2 : TRL P w Z ρ F sh ys vs) (o : Nat) (ho : o + ys.length ≤ cs.length) :
    TRL P w Z ρ F sh (cs.take o ++ ys ++ cs.drop (o + ys.length)) (us.take o ++ vs ++ us.drop (o + vs.length)) := by
  have l1 := h.length
  have l2 := h2.length
  refine .of (by simp; omega) fun i c u hc hu => ?_
  rw [seg_get _ _ _ _ ho] at hc
  rw [seg_get _ _ _ _ (by omega), l2] at hu
  split at hc
  · rename_i hin; rw [if_pos hin] at hu; exact h2.get _ c u hc hu
  · rename_i hin; rw [if_neg hin] at hu; exact h.get _ c u hc hu

theorem idsInL_seg {U : Nat → Prop} {cs ys : List TV} (h : idsInL U cs) (h2 : idsInL U ys) (o n : Nat) : idsInL U (cs.take o ++ ys ++ cs.drop n) := by
  apply idsInL_of
  intro c hc
  simp only [List.mem_append] at hc
  rcases hc with (hc | hc) | hc
  · exact idsInL_mem h c (List.mem_of_mem_take hc)
  · exact idsInL_mem h2 c hc
  · exact idsInL_mem h c (List.mem_of_mem_drop hc)

theorem places_get {P : Program} : ∀ {fs : List Field} {places : List (Nat × Nat)}, fs.mapM (fun f => (P.info? f.type).map fun i => (f.offset, i.size)) = some places →
    ∀ (i : Nat) f, fs[i]? = some f → ∀ n, sizeT P f.type = some n → places[i]? = some (f.offset, n)
  | [], places, h, i, f, hf, n, hn => by simp at hf
  | g :: fs, places, h, i, f, hf, n, hn => by
    simp only [List.mapM_cons, Option.bind_eq_bind, Option.pure_def] at h
    obtain ⟨x, hx, h⟩ := Option.bind_eq_some_iff.1 h
    obtain ⟨rest, hr, h⟩ := Option.bind_eq_some_iff.1 h
    cases h
    cases i with
    | zero =>
      simp at hf
      subst hf
      unfold sizeT at hn
      cases hi : P.info? g.type with
      | none => simp [hi] at hn
      | some i => simp [hi] at hn hx; subst hn hx; rfl
    | succ i => exact places_get hr i f (by simpa using hf) n hn

theorem build_ok (h : G cx U X ρ F st a w) {t : Nat} {fields : Array Field} (hu : cx.P.underlying t = some (.struct fields)) {places : List (Nat × Nat)}
    (hp : fields.toList.mapM (fun f => (cx.P.info? f.type).map fun i => (f.offset, i.size)) = some places) (ps : List (Nat × Operand)) :
    ∀ {qs : List (Nat × Nat × Opd)} {cs : List TV} {us : Array Value} {cs' : List TV} {s1 : St}, cParts cx.P t ps = some qs → TRL cx.P w cx.Z ρ F (shapeOf st) cs us.toList → idsInL U cs → (buildM qs cs).run st = some (cs', s1) →
      s1 = st ∧ ∃ us', Instr.fill (places.toArray[·]?) us (ps.map fun x => (x.1, a.eval x.2)) = some us' ∧ TRL cx.P w cx.Z ρ F (shapeOf st) cs' us'.toList ∧ idsInL U cs' := by
  induction ps with
  | nil =>
    intro qs cs us cs' s1 hq hc hi hr
    simp only [cParts, Option.some.injEq] at hq
    subst hq
    simp only [buildM, M.run, Option.some.injEq, Prod.mk.injEq] at hr
    obtain ⟨rfl, rfl⟩ := hr
    exact ⟨rfl, us, rfl, hc, hi⟩
  | cons ix ps ih =>
    intro qs cs us cs' s1 hq hc hi hr
    obtain ⟨i, x⟩ := ix
    simp only [cParts] at hq
    split at hq
    · cases hq
    · rename_i f hf
      split at hq
      · rename_i n y ys hn hy hys
        cases hq
        simp only [buildM] at hr
        obtain ⟨c, s2, h1, h2⟩ := run_bind_some hr
        obtain ⟨rfl, g1, i1⟩ := opd_ok h hy h1
        split at h2
        · rename_i hcond
          obtain ⟨hlen, hfit, hsome⟩ := hcond
          obtain ⟨row, hrow⟩ := Option.isSome_iff_exists.1 hsome
          obtain ⟨k1, k2⟩ := g1.row h.one hrow
          have hvl : (a.eval x).cells.size = n := by rw [← Array.length_toList, k1.length, ← k2, hlen]
          have hul : us.size = cs.length := by rw [← Array.length_toList, hc.length]
          have hf' : fields.toList[i]? = some f := by
            unfold fieldT und at hf
            rw [hu] at hf
            simpa using hf
          have hpl := places_get hp i f hf' n hn
          have hseg := seg_array f.offset (a.eval x) us (by omega)
          have hcells : c.cells.length = (a.eval x).cells.toList.length := by simp [hvl, hlen]
          have htr := seg_trl hc (by rw [← k2] at k1; exact k1) f.offset (by omega)
          rw [← hseg] at htr
          have e : f.offset + n = f.offset + c.cells.length := by omega
          rw [e] at h2
          obtain ⟨rfl, us', f1, f2, f3⟩ := ih hys htr (idsInL_seg hi (idsIn_cells i1) _ _) h2
          refine ⟨rfl, us', ?_, f2, f3⟩
          simp only [List.map_cons, Instr.fill]
          have hpl' : (places.toArray[i]? : Option (Nat × Nat)) = some (f.offset, n) := by simpa using hpl
          rw [hpl']
          simp only
          rw [if_neg (by simp [hvl]; omega)]
          exact f1
        · exact (run_fail h2).elim
      · cases hq

theorem op_build (h : G cx U X ρ F st a w) {b : Nat} {o : Oper} {d : Nat} (ho : o.dst = some d) (hd : d < cx.n) {t : TypeId} {ps : Array (Nat × Operand)} {fields : Array Field} {zs : List ZC} {qs : List (Nat × Nat × Opd)} (hop : o.op = .build t ps)
    (hu : cx.P.underlying t = some (.struct fields)) (hz : zeros cx.P t = some zs) (hq : cParts cx.P t ps.toList = some qs)
    (hf : (fields.toList.mapM (fun f => (cx.P.info? f.type).map fun i => (f.offset, i.size))).isSome = true) {s1 : St}
    (hr : ((buildM qs (zs.map ZC.tv)).bind fun cs => setS d (.st cs)).run st = some ((), s1)) : Now cx U b o s1 a w := by
  obtain ⟨cs, s2, h1, h2⟩ := run_bind_some hr
  obtain ⟨i, z, hi, hz0, hsz, hfit⟩ := zeros_spec hz
  obtain ⟨places, hp⟩ := Option.isSome_iff_exists.1 hf
  obtain ⟨rfl, us', f1, f2, f3⟩ := build_ok h hu hp ps.toList (us := z.cells) hq (zs_trl hfit) (zs_ids zs) h1
  cases run_setS h2
  refine now_value h ho hd (v := .agg us') ?_ (.st cs us' (by rw [← Array.length_toList, f2.length]) fun i c u hc hu => f2.get i c u hc (by simpa using hu)) f3
  unfold execOp; rw [hop]
  have hb : cx.P.built t (ps.map fun (i, x) => (i, a.eval x)).toList = some us' := by
    unfold Program.built
    simp only [hi, hu, hz0, hp]
    rw [← f1]; simp
  simp only [Sem.run_bind, run_build w t _ us' hb, Result.andThen_ok, Sem.run_pure]

/-! ### loads -/
theorem load_run {P : Program} {t : Nat} {wd : Option Nat} (hw : widthT P t = some wd) {x : Addr} (hx : x.spot = none) {us : List Value} {w : World}
    (hc : ∀ (j : Nat) u, us[j]? = some u → w.cell? ⟨x.block, x.off + j, none⟩ = some u) :
    (∀ n, wd = some n → us.length = n → (loadVar t x).run P w = .ok (.agg us.toArray) w) ∧ (wd = none → ∀ u, us[0]? = some u → (loadVar t x).run P w = .ok u w) := by
  obtain ⟨h1, h2⟩ := widthT_spec hw w
  constructor
  · intro n hn hl
    obtain ⟨h3, h4⟩ := h1 n hn
    have := run_loadCells_list (P := P) w x us fun j v hj => by rw [add_none hx]; exact hc j v hj
    rw [hl] at this
    simp only [loadVar, Sem.run_bind, h3, Result.andThen_ok, if_true, sizeOf_run h4 w, this, Sem.run_pure]
  · intro hn u hu
    have hx0 : w.cell? x = some u := by
      have := hc 0 u hu
      rw [Nat.add_zero] at this
      have e : (⟨x.block, x.off, none⟩ : Addr) = x := by cases x; simp only at hx; subst hx; rfl
      rwa [e] at this
    simp only [loadVar, Sem.run_bind, h2 hn, Result.andThen_ok, Bool.false_eq_true, if_false, run_load, hx0]

theorem pickCells_drop {cs : List TV} {o : Nat} {wd : Option Nat} {c : TV} (h : pickCells cs o wd = some c) : pickCells (cs.drop o) 0 wd = some c := by
  cases wd with
  | none => simpa [pickCells] using h
  | some n =>
    simp only [pickCells] at h ⊢
    split at h
    · cases h
      rw [if_pos (by simp; omega)]
      simp
    · cases h

/-- Cells of the memory from an address on, and what stands for them. -/
structure Row (cx : Cx) (U : Nat → Prop) (ρ : Nat → Value) (F : Nat → Cells) (st : St) (w : World) (v : Value) (cs : List TV) : Prop where
  get : ∃ (x : Addr) (us : List Value), v = .pointer (some x) ∧ x.spot = none ∧ TRL cx.P w cx.Z ρ F (shapeOf st) cs us ∧
    ∀ (j : Nat) u, us[j]? = some u → w.cell? ⟨x.block, x.off + j, none⟩ = some u
  ids : idsInL U cs

theorem row_load {wd : Option Nat} {v : Value} {cs : List TV} (hR : Row cx U ρ F st w v cs) {t : Nat} (hw : widthT cx.P t = some wd) {c : TV} (hp : pickCells cs 0 wd = some c) :
    ∃ u, (Instr.loadAt t v).run cx.P w = .ok u w ∧ TR cx.P w cx.Z ρ F (shapeOf st) c u ∧ idsIn U c := by
  obtain ⟨x, us, rfl, hx, htr, hcell⟩ := hR.get
  obtain ⟨p1, p2, p3⟩ := pickCells_ok (us := us) htr.get (by have := htr.length; omega) hR.ids hp
  cases wd with
  | none =>
    obtain ⟨u, hu, htu⟩ := p2 rfl
    refine ⟨u, ?_, htu, p3⟩
    have := (load_run (us := us) hw hx hcell).2 rfl u hu
    simpa [Instr.loadAt, Instr.sureAddr] using this
  | some n =>
    obtain ⟨hlen, htu⟩ := p1 n rfl
    refine ⟨_, ?_, htu, p3⟩
    have := (load_run (us := (us.drop 0).take n) hw hx fun j u hj => by
      rw [List.getElem?_take] at hj
      split at hj
      · exact hcell j u (by simpa using hj)
      · cases hj).1 n rfl (by simp; omega)
    simpa [Instr.loadAt, Instr.sureAddr] using this

theorem bx_row (h : G cx U X ρ F st a w) {id : Nat} {z : Bool} {cs : List TV} (hn : st.node id = some (.bx z cs)) :
    ∃ b off cur t, ρ id = .pointer (some ⟨b, off, none⟩) ∧ w.heap[b]? = some (.cells cur t (0, 0)) ∧ off + cs.length ≤ cur.size ∧ TRL cx.P w cx.Z ρ F (shapeOf st) cs ((cur.toList.drop off).take cs.length) ∧ idsInL U cs ∧
      (∀ b' o', F id b' o' ↔ (z = false ∧ b' = b ∧ off ≤ o' ∧ o' < off + cs.length)) ∧ (z = true → ∀ i, i < cs.length → cx.Z b (off + i)) := by
  have hN := h.nodes id _ hn
  cases hN with
  | bx _ _ b off cur t hr hb hsz hne hc hF hz =>
    refine ⟨b, off, cur, t, hr, hb, hsz, ?_, (h.used id _ hn).2, hF, hz⟩
    refine .of (by simp; omega) fun i c u hi hu => hc i c hi u ?_
    rw [List.getElem?_take] at hu
    split at hu
    · simpa using hu
    · cases hu

theorem TRL.drop {P : Program} {Z : Cells} {sh : Shape} {cs : List TV} {us : List Value} (h : TRL P w Z ρ F sh cs us) (o : Nat) : TRL P w Z ρ F sh (cs.drop o) (us.drop o) :=
  .of (by have := h.length; simp; omega) fun i c u hc hu => h.get (o + i) c u (by simpa using hc) (by simpa using hu)

theorem idsInL_drop {U : Nat → Prop} {cs : List TV} (h : idsInL U cs) (o : Nat) : idsInL U (cs.drop o) := idsInL_of fun c hc => idsInL_mem h c (List.mem_of_mem_drop hc)

theorem bx_Row (h : G cx U X ρ F st a w) {id : Nat} {z : Bool} {cs : List TV} (hn : st.node id = some (.bx z cs)) (o : Nat) {v : Value}
    (hv : ∃ b off, ρ id = .pointer (some ⟨b, off, none⟩) ∧ v = .pointer (some ⟨b, off + o, none⟩)) : Row cx U ρ F st w v (cs.drop o) := by
  obtain ⟨b, off, cur, t, hr, hb, hsz, htr, hi, _, _⟩ := bx_row h hn
  obtain ⟨b', off', hr', rfl⟩ := hv
  rw [hr] at hr'
  injection hr' with hr'
  injection hr' with hr'
  injection hr' with e1 e2
  subst e1 e2
  refine ⟨⟨_, _, rfl, rfl, htr.drop o, ?_⟩, idsInL_drop hi o⟩
  intro j u hu
  rw [cell_of_heap hb]
  rw [List.getElem?_drop, List.getElem?_take] at hu
  split at hu
  · rw [List.getElem?_drop] at hu
    simpa [Nat.add_assoc] using hu
  · cases hu

theorem flat_get {m : Nat} : ∀ {es : List PV} (_ : ∀ y ∈ es, y.cells.length = m) {i : Nat} {x : PV} (_ : es[i]? = some x) {j : Nat} (_ : j < m), (flat es)[i * m + j]? = x.cells[j]?
  | y :: es, hw, 0, x, hx, j, hj => by
    simp at hx
    subst hx
    simp only [flat, List.flatMap_cons, Nat.zero_mul, Nat.zero_add]
    rw [List.getElem?_append_left (by rw [hw _ (by simp)]; exact hj)]
  | y :: es, hw, i + 1, x, hx, j, hj => by
    have ih := flat_get (es := es) (fun z hz => hw z (by simp [hz])) (i := i) (x := x) (by simpa using hx) hj
    simp only [flat, List.flatMap_cons] at ih ⊢
    have hy : y.cells.length = m := hw y (by simp)
    rw [List.getElem?_append_right (by rw [hy, Nat.add_mul]; omega), hy, ← ih]
    congr 1
    rw [Nat.add_mul]; omega
  | [], _, i, x, hx, j, hj => by simp at hx

theorem flat_length {m : Nat} {es : List PV} (h : ∀ y ∈ es, y.cells.length = m) : (flat es).length = es.length * m := by
  induction es with
  | nil => simp [flat]
  | cons y es ih =>
    have := ih fun z hz => h z (by simp [hz])
    simp only [flat, List.flatMap_cons, List.length_append, List.length_cons] at this ⊢
    rw [this, h y (by simp), Nat.add_mul]; omega

theorem Row.drop {v : Value} {x : Addr} {cs : List TV} (h : Row cx U ρ F st w (.pointer (some x)) cs) (o : Nat) (hv : v = .pointer (some ⟨x.block, x.off + o, none⟩)) : Row cx U ρ F st w v (cs.drop o) := by
  obtain ⟨x', us, e, hx, htr, hc⟩ := h.get
  injection e with e
  injection e with e
  subst e
  refine ⟨⟨_, us.drop o, hv, rfl, htr.drop o, fun j u hu => ?_⟩, idsInL_drop h.ids o⟩
  rw [List.getElem?_drop] at hu
  simpa [Nat.add_assoc] using hc _ u hu

theorem Nav.append {P : Program} {S : Cells} {v u t : Value} {p q : List (Nat × Nat × Nat)} (h : Nav P w S v p u) (h2 : Nav P w S u q t) : Nav P w S v (p ++ q) t := by
  induction h with
  | nil v => exact h2
  | cons g len cap i m o u v p hc hk hu hs _ ih => exact .cons g len cap i m o u _ _ hc hk hu hs (ih h2)

theorem Nav.nil_eq {P : Program} {S : Cells} {v u : Value} {p : List (Nat × Nat × Nat)} (h : Nav P w S v p u) (hp : p = []) : u = v := by
  cases h with
  | nil => rfl
  | cons => cases hp

theorem DC.slice {P : Program} {Z : Cells} {e : Nat} {es : List PV} {v : Value} {Fd : Cells} (h : DC P w Z (.sl e es) v Fd) : isSliceV v = true := by
  cases h <;> rfl

/-- The cells of an element of own data. -/
theorem own_row {P : Program} {Z S : Cells} {sh : Shape} {e : Nat} {es : List PV} {v : Value} {Fd : Cells} (hd : DC P w Z (.sl e es) v Fd) (hS : ∀ b o, Fd b o → S b o) {id ver : Nat} {p : List (Nat × Nat × Nat)} (hF : F id = S)
    (hnav : ∀ e l, sh id = some (ver, e, l) → Nav P w (F id) (ρ id) p v) {i m : Nat} {x : PV} (hx : es[i]? = some x) (hm : x.cells.length = m) :
    ∃ g l c us, v = .slice (some ⟨g, 0, none⟩) l c ∧ TRL P w Z ρ F sh (ownCells id ver p i m x) us ∧ (∀ (j : Nat) u, us[j]? = some u → w.cell? ⟨g, i * m + j, none⟩ = some u) := by
  cases hd with
  | nil => simp at hx
  | sl _ _ g len cap m' cur vs Fk _ hl hm' hw hg hlc hcm hsz hc hr hFd hd hd0 =>
    have hmm : m' = m := by rw [← hm]; exact (hw x (List.mem_of_getElem? hx)).symm
    subst hmm
    have hcell : ∀ j, j < m' → ∀ c, x.cells[j]? = some c → cur[i * m' + j]? = some (vs (i * m' + j)) ∧ DC P w Z c (vs (i * m' + j)) (Fk (i * m' + j)) ∧ i * m' + j < (flat es).length := by
      intro j hj c hcj
      have hf : (flat es)[i * m' + j]? = some c := by rw [flat_get hw hx hj]; exact hcj
      exact ⟨hc _ _ hf, hr _ _ hf, (List.getElem?_eq_some_iff.1 hf).1⟩
    refine ⟨g, len, cap, (List.range m').map fun j => vs (i * m' + j), rfl, .of (by simp [ownCells, hm]) ?_, ?_⟩
    · intro j c u hcj hu
      simp only [List.getElem?_map] at hu
      simp only [ownCells, List.getElem?_map, List.getElem?_zipIdx, Option.map_map] at hcj
      cases hxc : x.cells[j]? with
      | none => simp [hxc] at hcj
      | some y =>
        have hj : j < m' := by have := (List.getElem?_eq_some_iff.1 hxc).1; omega
        simp only [hxc, Option.map_some, Function.comp_apply, Option.some.injEq, Nat.zero_add] at hcj
        simp only [List.getElem?_range hj, Option.map_some, Option.some.injEq] at hu
        subst hcj hu
        obtain ⟨h1, h2, h3⟩ := hcell j hj y hxc
        cases y with
        | a v => cases h2; exact .a _
        | sl e' es' =>
          refine .ri id ver _ _ h2.one fun e l hsh => ?_
          have hn := hnav e l hsh
          have hsl : isSliceV (vs (i * m' + j)) = true := h2.slice
          have step : Nav P w (F id) (.slice (some ⟨g, 0, none⟩) len cap) [(i, m', j)] (vs (i * m' + j)) :=
            .cons _ _ _ _ _ _ _ _ _ (by rw [cell_of_heap hg]; exact h1)
              (fun c1 e1 f1 m1 hb1 hm1 => by
                rw [hg] at hb1; cases hb1
                rw [hm'] at hm1; cases hm1
                rw [flat_length hw] at h3
                rw [hl]; exact h3) hsl (by rw [hF]; exact hS _ _ ((hFd _ _).2 (.inl rfl))) (.nil _)
          exact hn.append step
        | fz e' es' => cases h2 with | fz _ _ _ _ hrc _ => exact .sz _ _ _ hrc
        | st cs => exact .un _
        | un => exact .un _
    · intro j u hu
      simp only [List.getElem?_map] at hu
      cases hj : (List.range m')[j]? with
      | none => simp [hj] at hu
      | some q =>
        have hlt : j < m' := by have := (List.getElem?_eq_some_iff.1 hj).1; simpa using this
        rw [List.getElem?_range hlt] at hj
        cases hj
        simp only [List.getElem?_range hlt, Option.map_some, Option.some.injEq] at hu
        subst hu
        have hxj : x.cells[j]? = some x.cells[j] := List.getElem?_eq_getElem (by omega)
        rw [cell_of_heap hg]
        exact (hcell j hlt _ hxj).1

theorem DC.width {P : Program} {Z : Cells} {e : Nat} {es : List PV} {v : Value} {Fd : Cells} (h : DC P w Z (.sl e es) v Fd) {x : PV} (hx : x ∈ es) : sizeT P e = some x.cells.length := by
  cases h with
  | nil => cases hx
  | sl _ _ g len cap m' cur vs Fk _ hl hm' hw hg hlc hcm hsz hc hr hFd hd hd0 => rw [hm', hw x hx]

/-- Own data at a path. -/
theorem DC.at {P : Program} {Z S : Cells} : ∀ (p : List (Nat × Nat × Nat)) {e : Nat} {es : List PV} {v v' : Value} {Fd : Cells} {e' : Nat} {es' : List PV}, DC P w Z (.sl e es) v Fd → dget es p = some (e', es') → Nav P w S v p v' →
    ∃ F', DC P w Z (.sl e' es') v' F' ∧ ∀ b o, F' b o → Fd b o
  | [], e, es, v, v', Fd, e', es', h, hg, hn => by simp [dget] at hg
  | (i, m, o) :: p, e, es, v, v', Fd, e', es', h, hg, hn => by
    simp only [dget] at hg
    split at hg
    · cases hg
    · rename_i x hx
      split at hg
      · rename_i hm
        split at hg
        · rename_i e1 es1 hxo
          cases h with
          | nil => simp at hx
          | sl _ _ g len cap m' cur vs Fk _ hl hm' hw hgc hlc hcm hsz hc hr hFd hd hd0 =>
            have hmm : m' = m := by rw [← hm]; exact (hw x (List.mem_of_getElem? hx)).symm
            subst hmm
            have ho : o < m' := by have := (List.getElem?_eq_some_iff.1 hxo).1; omega
            have hf : (flat es)[i * m' + o]? = some (.sl e1 es1) := by rw [flat_get hw hx ho]; exact hxo
            have hlt := (List.getElem?_eq_some_iff.1 hf).1
            cases hn with
            | cons _ _ _ _ _ _ u _ _ hcu hk hu hS hrest =>
              rw [cell_of_heap hgc, hc _ _ hf] at hcu
              cases hcu
              have hD := hr _ _ hf
              split at hg
              · cases hg
                have e0 := hrest.nil_eq rfl
                subst e0
                exact ⟨_, hD, fun b o hb => (hFd b o).2 (.inr ⟨_, hlt, hb⟩)⟩
              · obtain ⟨F', h1, h2⟩ := DC.at _ hD hg hrest
                exact ⟨F', h1, fun b o hb => (hFd b o).2 (.inr ⟨_, hlt, h2 b o hb⟩)⟩
        · cases hg
      · cases hg

theorem sl_node (h : G cx U X ρ F st a w) {id : Nat} {q : Bool} {ver e : Nat} {es : List PV} (hn : st.node id = some (.sl q ver e es)) :
    DC cx.P w cx.Z (.sl e es) (ρ id) (F id) ∧ shapeOf st id = some (ver, e, es.length) := by
  have hN := h.nodes id _ hn
  cases hN with
  | sl _ _ _ _ hd => exact ⟨hd, by unfold shapeOf; rw [hn]⟩

theorem own_ids {id ver i m : Nat} {p : List (Nat × Nat × Nat)} {x : PV} (hU : U id) (hv : ver = 0 ∨ U (ver - 1)) : idsInL U (ownCells id ver p i m x) := by
  apply idsInL_of
  intro c hc
  simp only [ownCells, List.mem_map] at hc
  obtain ⟨y, _, rfl⟩ := hc
  cases y.1 <;> first | trivial | exact ⟨hU, hv⟩

theorem load_ok (h : G cx U X ρ F st a w) {wd : Option Nat} {t : Nat} (hw : widthT cx.P t = some wd) {c c' : TV} {v : Value} (hc : TR cx.P w cx.Z ρ F (shapeOf st) c v) (hi : idsIn U c) {s1 : St}
    (hr : (loadAt wd c).run st = some (c', s1)) : s1 = st ∧ ∃ u, (Instr.loadAt t v).run cx.P w = .ok u w ∧ TR cx.P w cx.Z ρ F (shapeOf st) c' u ∧ idsIn U c' := by
  cases c with
  | rf id =>
    obtain ⟨n, s2, h1, h2⟩ := run_bind_some hr
    cases run_getN h1
    split at h2
    · rename_i z cs hn
      obtain ⟨h3, h4⟩ := run_liftO h2
      simp only at h3 h4
      subst h4
      obtain ⟨b, off, _, _, hr0, _⟩ := bx_row h hn
      have hv : v = ρ id := by cases hc; rfl
      exact ⟨rfl, row_load (bx_Row h hn 0 ⟨b, off, hr0, hv.trans hr0⟩) hw (pickCells_drop h3)⟩
    · exact (run_fail h2).elim
  | ad id o =>
    obtain ⟨n, s2, h1, h2⟩ := run_bind_some hr
    cases run_getN h1
    split at h2
    · rename_i z cs hn
      obtain ⟨h3, h4⟩ := run_liftO h2
      simp only at h3 h4
      subst h4
      cases hc with
      | ad _ _ b off hr0 => exact ⟨rfl, row_load (bx_Row h hn o ⟨b, off, hr0, rfl⟩) hw (pickCells_drop h3)⟩
    · exact (run_fail h2).elim
  | ea id i m o =>
    obtain ⟨n, s2, h1, h2⟩ := run_bind_some hr
    cases run_getN h1
    split at h2
    · rename_i q ver e es hn
      split at h2
      · rename_i x hx
        obtain ⟨h3, h4⟩ := run_liftO h2
        simp only at h3 h4
        subst h4
        obtain ⟨hd, hsh⟩ := sl_node h hn
        cases hc with
        | ea _ _ _ _ _ h1 hcl =>
          obtain ⟨g0, l', c0, hr0, hsz, rfl⟩ := hcl ver e _ hsh
          have hm : x.cells.length = m := by
            have := hd.width (List.mem_of_getElem? hx)
            rw [hsz] at this; exact (Option.some.inj this).symm
          obtain ⟨g, l, c1, us, hv, htr, hcell⟩ := own_row (ρ := ρ) (F := F) (sh := shapeOf s1) hd (fun _ _ h => h) (id := id) (ver := ver) (p := []) rfl (fun _ _ _ => .nil _) hx hm
          rw [hr0] at hv
          injection hv with hv _ _
          injection hv with hv
          injection hv with e1 _ _
          subst e1
          have hR : Row cx U ρ F s1 w (.pointer (some ⟨g0, i * m, none⟩)) (ownCells id ver [] i m x) := ⟨⟨_, us, rfl, rfl, htr, hcell⟩, own_ids hi (h.used id _ hn).2⟩
          exact ⟨rfl, row_load (hR.drop o rfl) hw (pickCells_drop h3)⟩
      · exact (run_fail h2).elim
    · exact (run_fail h2).elim
  | ei id ver p i m o =>
    obtain ⟨n, s2, h1, h2⟩ := run_bind_some hr
    cases run_getN h1
    split at h2
    · rename_i q ver' e es hn
      split at h2
      · rename_i hver
        subst hver
        split at h2
        · rename_i e' es' hget
          split at h2
          · rename_i x hx
            split at h2
            · rename_i hm
              obtain ⟨h3, h4⟩ := run_liftO h2
              simp only at h3 h4
              subst h4
              obtain ⟨hd, hsh⟩ := sl_node h hn
              cases hc with
              | ei _ _ _ _ _ _ _ h1 hcl =>
                obtain ⟨g0, l', c0, hnav, rfl⟩ := hcl e _ hsh
                obtain ⟨F', hd', hsub⟩ := hd.at p hget hnav
                obtain ⟨g, l, c1, us, hv, htr, hcell⟩ := own_row (ρ := ρ) (F := F) (sh := shapeOf s1) hd' hsub (id := id) (ver := ver') (p := p) rfl
                  (fun e1 l1 hs => by rw [hsh] at hs; cases hs; exact hnav) hx hm
                injection hv with hv _ _
                injection hv with hv
                injection hv with e1 _ _
                subst e1
                have hR : Row cx U ρ F s1 w (.pointer (some ⟨g0, i * m, none⟩)) (ownCells id ver' p i m x) := ⟨⟨_, us, rfl, rfl, htr, hcell⟩, own_ids hi.1 hi.2⟩
                exact ⟨rfl, row_load (hR.drop o rfl) hw (pickCells_drop h3)⟩
            · exact (run_fail h2).elim
          · exact (run_fail h2).elim
        · exact (run_fail h2).elim
      · exact (run_fail h2).elim
    · exact (run_fail h2).elim
  | ez cs o =>
    obtain ⟨h3, h4⟩ := run_liftO hr
    simp only at h3 h4
    subst h4
    cases hc with
    | ez _ _ x hx vs hcl =>
      have hget : ∀ j c, (cs.drop o)[j]? = some c → cs[o + j]? = some c := fun j c hj => by rwa [List.getElem?_drop] at hj
      refine ⟨rfl, row_load (cs := (cs.map ofFrozen).drop o) ⟨⟨x, (List.range (cs.drop o).length).map vs, rfl, hx, .of (by simp) ?_, ?_⟩, ?_⟩ hw (pickCells_drop h3)⟩
      · intro j c u hj hu
        rw [List.getElem?_drop, List.getElem?_map] at hj
        cases hcj : cs[o + j]? with
        | none => simp [hcj] at hj
        | some y =>
          have hlt : j < (cs.drop o).length := by have := (List.getElem?_eq_some_iff.1 hcj).1; simp; omega
          simp only [List.getElem?_map, List.getElem?_range hlt, Option.map_some, Option.some.injEq] at hu
          simp only [hcj, Option.map_some, Option.some.injEq] at hj
          subst hj hu
          obtain ⟨_, _, hrc⟩ := hcl j y hcj
          cases y with
          | a u => cases hrc; exact .a _
          | sl e es => exact .sz e es _ hrc
          | fz e es => exact .sz e es _ hrc.ofFz
          | st cs => exact .un _
          | un => exact .un _
      · intro j u hu
        simp only [List.getElem?_map] at hu
        cases hj : (List.range (cs.drop o).length)[j]? with
        | none => simp only [hj, Option.map_none] at hu; cases hu
        | some q =>
          have hlt : j < (cs.drop o).length := by have := (List.getElem?_eq_some_iff.1 hj).1; simpa using this
          rw [List.getElem?_range hlt] at hj
          cases hj
          simp only [List.getElem?_range hlt, Option.map_some, Option.some.injEq] at hu
          subst hu
          exact (hcl j _ (hget j _ (List.getElem?_eq_getElem hlt))).1
      · apply idsInL_of
        intro c hc
        obtain ⟨y, _, rfl⟩ := List.mem_map.1 (List.mem_of_mem_drop hc)
        cases y <;> trivial
  | _ => exact (run_fail hr).elim

theorem op_load (h : G cx U X ρ F st a w) {b : Nat} {o : Oper} {d : Nat} (ho : o.dst = some d) (hd : d < cx.n) {t t' : TypeId} {x : Operand} {x' : Opd} {wd : Option Nat} (hop : o.op = .load t x)
    (hw : widthT cx.P t = some wd) (hx : cOpd cx.P t' x = some x') {s1 : St} (hr : ((opd x').bind fun v => (loadAt wd v).bind (setS d)).run st = some ((), s1)) : Now cx U b o s1 a w := by
  obtain ⟨c, s2, h1, h2⟩ := run_bind_some hr
  obtain ⟨rfl, g1, i1⟩ := opd_ok h hx h1
  obtain ⟨c', s3, h3, h4⟩ := run_bind_some h2
  obtain ⟨rfl, u, hrun, htr, hi⟩ := load_ok h hw g1 i1 h3
  cases run_setS h4
  refine now_value h ho hd ?_ htr hi
  unfold execOp; rw [hop]
  simp only [Sem.run_bind, hrun, Result.andThen_ok, Sem.run_pure]

theorem ptr_of (h : G cx U X ρ F st a w) {c : TV} {v : Value} (hc : TR cx.P w cx.Z ρ F (shapeOf st) c v) :
    (∀ id z cs, c = .rf id → st.node id = some (.bx z cs) → ∃ x, v = .pointer (some x) ∧ x.spot = none) := by
  rintro id z cs rfl hn
  obtain ⟨b, off, _, _, hr0, _⟩ := bx_row h hn
  have hv : v = ρ id := by cases hc; rfl
  exact ⟨_, hv.trans hr0, rfl⟩

theorem op_nilck (h : G cx U X ρ F st a w) {b : Nat} {o : Oper} {d : Nat} (ho : o.dst = some d) (hd : d < cx.n) {t : Nat} {x : Operand} {x' : Opd} (hop : o.op = .nilCheck x)
    (hx : cOpd cx.P t x = some x') {s1 : St}
    (hr : ((opd x').bind fun v => match v with
      | .rf id => (getN id).bind fun n => match n with
        | some (.bx _ _) => setS d v
        | _ => .fail
      | .ad _ _ => setS d v
      | .ea id _ _ _ => (getN id).bind fun n => match n with
        | some (.sl _ _ _ _) => setS d v
        | _ => .fail
      | .ez _ _ => setS d v
      | .fn _ _ _ => setS d v
      | .ic _ _ => setS d v
      | _ => .fail).run st = some ((), s1)) : Now cx U b o s1 a w := by
  obtain ⟨c, s2, h1, h2⟩ := run_bind_some hr
  obtain ⟨rfl, g1, i1⟩ := opd_ok h hx h1
  have go : ∀ v, a.eval x = v → (execOp a.eval o).run cx.P w = (match v with
      | .pointer none | .nilIface | .nilFunc => runtimePanic .nilDeref
      | .func (.method name) first captured =>
        match (first[0]? : Option Value) with
        | some .nilIface => runtimePanic .nilDeref
        | some (.iface t w) => do
          if (← nilAhead ((← program).types.size + Made.depth) t w name) != some false then
            unsupported (.noEntry "op/nilCheck.the method's receiver behind this interface value is a nil pointer, or cannot be seen to be none, and the arguments act or may panic (ledger 612)")
          pure (.value (.func (.method name) first captured))
        | _ => pure (.value (.func (.method name) first captured))
      | x => pure (.value x) : Sem Next).run cx.P w := by
    intro v hv; subst hv; unfold execOp; rw [hop]; rfl
  have plain : ∀ v, a.eval x = v → (∃ y, v = .pointer (some y)) → (execOp a.eval o).run cx.P w = .ok (.value v) w := by
    rintro v hv ⟨y, rfl⟩; rw [go _ hv]; rfl
  generalize hu : a.eval x = v at g1
  split at h2
  · rename_i id
    obtain ⟨n, s3, h3, h4⟩ := run_bind_some h2
    cases run_getN h3
    split at h4
    · rename_i z cs hn
      cases run_setS h4
      obtain ⟨y, hy, _⟩ := ptr_of h g1 id z cs rfl hn
      exact now_value h ho hd (plain v hu ⟨y, hy⟩) g1 i1
    · exact (run_fail h4).elim
  · cases run_setS h2
    refine now_value h ho hd (plain v hu ?_) g1 i1
    cases g1; exact ⟨_, rfl⟩
  · rename_i id _ _ _
    obtain ⟨n, s3, h3, h4⟩ := run_bind_some h2
    cases run_getN h3
    split at h4
    · rename_i q ver e es hn
      cases run_setS h4
      refine now_value h ho hd (plain v hu ?_) g1 i1
      cases g1 with
      | ea _ _ _ _ _ h1 hcl =>
        obtain ⟨g0, _, _, _, _, rfl⟩ := hcl ver e _ (sl_node h hn).2
        exact ⟨_, rfl⟩
    · exact (run_fail h4).elim
  · cases run_setS h2
    refine now_value h ho hd (plain v hu ?_) g1 i1
    cases g1; exact ⟨_, rfl⟩
  · cases run_setS h2
    cases g1 with
    | fn f fs cs xs us hx hl hf hc => exact now_value h ho hd (by rw [go _ hu]; rfl) (.fn _ _ _ xs us hx hl hf hc) i1
  · cases run_setS h2
    cases g1 with
    | ic t c u hc => exact now_value h ho hd (by rw [go _ hu]; rfl) (.ic _ _ _ hc) i1
  · exact (run_fail h2).elim

theorem field_run {P : Program} {s f : Nat} {fd : Field} (h : fieldT P s f = some fd) (h0 : (sizeT P fd.type).any (0 < ·) = true) {x : Addr} (hx : x.spot = none) (w : World) :
    (Instr.fieldAt s (.pointer (some x)) f).run P w = .ok (.pointer (some ⟨x.block, x.off + fd.offset, none⟩)) w := by
  unfold fieldT und at h
  split at h
  · rename_i fs hu
    cases hs : sizeT P fd.type with
    | none => rw [hs] at h0; cases h0
    | some n =>
      rw [hs] at h0
      have hn : n ≠ 0 := by simp at h0; omega
      simp only [Instr.fieldAt, underlying, Sem.run_bind, run_program, Result.andThen_ok, hu, Sem.run_pure, h, Instr.sureAddr, fieldPlace, sizeOf_run hs w, hn, if_false, add_none hx]
  · cases h

theorem op_fad (h : G cx U X ρ F st a w) {b : Nat} {o : Oper} {d : Nat} (ho : o.dst = some d) (hd : d < cx.n) {s f t : Nat} {x : Operand} {x' : Opd} {fd : Field} (hop : o.op = .fieldAddr s x f)
    (hf : fieldT cx.P s f = some fd) (h0 : (sizeT cx.P fd.type).any (0 < ·) = true) (hx : cOpd cx.P t x = some x') {s1 : St}
    (hr : ((opd x').bind fun v => (fieldAt fd.offset v).bind (setS d)).run st = some ((), s1)) : Now cx U b o s1 a w := by
  obtain ⟨c, s2, h1, h2⟩ := run_bind_some hr
  obtain ⟨rfl, g1, i1⟩ := opd_ok h hx h1
  obtain ⟨c', s3, h3, h4⟩ := run_bind_some h2
  have go : ∀ {y : Addr}, a.eval x = .pointer (some y) → y.spot = none → (execOp a.eval o).run cx.P w = .ok (.value (.pointer (some ⟨y.block, y.off + fd.offset, none⟩))) w := by
    intro y hy hs
    unfold execOp; rw [hop]
    simp only [hy, Sem.run_bind, field_run hf h0 hs w, Result.andThen_ok, Sem.run_pure]
  generalize hu : a.eval x = v at g1
  cases c with
  | rf id =>
    obtain ⟨n, s4, h5, h6⟩ := run_bind_some h3
    cases run_getN h5
    split at h6
    · rename_i z cs hn
      cases run_pure h6
      cases run_setS h4
      obtain ⟨b', off, _, _, hr0, _⟩ := bx_row h hn
      have hv : v = ρ id := by cases g1; rfl
      exact now_value h ho hd (go (hu.trans (hv.trans hr0)) rfl) (.ad id fd.offset b' off hr0) i1
    · exact (run_fail h6).elim
  | ad id q =>
    cases run_pure h3
    cases run_setS h4
    cases g1 with
    | ad _ _ b' off hr0 =>
      refine now_value h ho hd (go hu rfl) (c := .ad id (q + fd.offset)) ?_ i1
      simp only [Nat.add_assoc]
      exact .ad id (q + fd.offset) b' off hr0
  | ea id i m q =>
    obtain ⟨n, s4, h5, h6⟩ := run_bind_some h3
    cases run_getN h5
    split at h6
    · rename_i qq ver e es hn
      cases run_pure h6
      cases run_setS h4
      cases g1 with
      | ea _ _ _ _ _ h1 hcl =>
        obtain ⟨g0, l', c0, hr0, hsz, rfl⟩ := hcl ver e _ (sl_node h hn).2
        refine now_value h ho hd (go hu rfl) (.ea id i m (q + fd.offset) _ rfl fun ver' e' l hs => ?_) i1
        obtain ⟨g1, l1, c1, hr1, hsz1, he⟩ := hcl ver' e' l hs
        rw [hr0] at hr1
        cases hr1
        exact ⟨g0, l', c0, hr0, hsz1, by rw [Nat.add_assoc]⟩
    · exact (run_fail h6).elim
  | ei id ver p i m q =>
    obtain ⟨n, s4, h5, h6⟩ := run_bind_some h3
    cases run_getN h5
    split at h6
    · rename_i qq ver' e es hn
      split at h6
      · rename_i hver
        subst hver
        cases run_pure h6
        cases run_setS h4
        cases g1 with
        | ei _ _ _ _ _ _ _ h1 hcl =>
          obtain ⟨g0, l', c0, hnav, rfl⟩ := hcl e _ (sl_node h hn).2
          refine now_value h ho hd (go hu rfl) (.ei id _ p i m (q + fd.offset) _ rfl fun e' l hs => ?_) i1
          rw [(sl_node h hn).2] at hs
          cases hs
          exact ⟨g0, l', c0, hnav, by rw [Nat.add_assoc]⟩
      · exact (run_fail h6).elim
    · exact (run_fail h6).elim
  | ez cs q =>
    cases run_pure h3
    cases run_setS h4
    cases g1 with
    | ez _ _ y hy vs hcl =>
      refine now_value h ho hd (go hu hy) (.ez cs (q + fd.offset) _ rfl (fun j => vs (fd.offset + j)) fun j c hj => ?_) i1
      have := hcl (fd.offset + j) c (by rw [← Nat.add_assoc]; exact hj)
      rw [← Nat.add_assoc] at this
      exact this
  | _ => exact (run_fail h3).elim

theorem op_fld (h : G cx U X ρ F st a w) {b : Nat} {o : Oper} {d : Nat} (ho : o.dst = some d) (hd : d < cx.n) {s f t : Nat} {x : Operand} {x' : Opd} {fd : Field} {wd : Option Nat} (hop : o.op = .field s x f)
    (hf : fieldT cx.P s f = some fd) (hw : widthT cx.P fd.type = some wd) (hx : cOpd cx.P t x = some x') {s1 : St}
    (hr : ((opd x').bind fun v => match v with | .st cs => (liftO (pickCells cs fd.offset wd)).bind (setS d) | _ => .fail).run st = some ((), s1)) : Now cx U b o s1 a w := by
  obtain ⟨c, s2, h1, h2⟩ := run_bind_some hr
  obtain ⟨rfl, g1, i1⟩ := opd_ok h hx h1
  split at h2
  · rename_i cs
    obtain ⟨c', s3, h3, h4⟩ := run_bind_some h2
    obtain ⟨hp, rfl⟩ := run_liftO h3
    simp only at hp h4
    cases run_setS h4
    generalize hu : a.eval x = v at g1
    cases g1 with
    | st _ us hl hc =>
      obtain ⟨p1, p2, p3⟩ := pickCells_ok (us := us.toList) (fun i c u h1 h2 => hc i c u h1 (by simpa using h2)) (by simp [hl]) i1 hp
      have run0 : ∀ u, (part fd.type us fd.offset).run cx.P w = .ok u w → (execOp a.eval o).run cx.P w = .ok (.value u) w := by
        intro u hu'
        unfold fieldT und at hf
        split at hf
        · rename_i fs hus
          unfold execOp; rw [hop]
          simp only [hu, Instr.field, underlying, Sem.run_bind, run_program, Result.andThen_ok, hus, Sem.run_pure, hf, asAgg, hu']
        · cases hf
      obtain ⟨k1, k2⟩ := widthT_spec hw w
      cases wd with
      | none =>
        obtain ⟨u, hu1, htu⟩ := p2 rfl
        refine now_value h ho hd (run0 u ?_) htu p3
        have : us[fd.offset]? = some u := by simpa using hu1
        simp only [part, Sem.run_bind, k2 rfl, Result.andThen_ok, Bool.false_eq_true, if_false, this, Sem.run_pure]
      | some n =>
        obtain ⟨hlen, htu⟩ := p1 n rfl
        obtain ⟨k3, k4⟩ := k1 n rfl
        refine now_value h ho hd (run0 _ ?_) htu p3
        simp only [part, Sem.run_bind, k3, Result.andThen_ok, if_true, sizeOf_run k4 w, Sem.run_pure]
        congr 2
        apply Array.ext'
        simp [Array.toList_extract]
  · exact (run_fail h2).elim

end Go.Proofs.Ytkoljcjliihiiaa.VM

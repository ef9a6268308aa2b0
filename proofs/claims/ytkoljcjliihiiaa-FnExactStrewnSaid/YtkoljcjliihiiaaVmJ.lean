/- The interpreter 'VM': slices that are made and grown in a frame are so in the world. -/
import Derived.Test.YtkoljcjliihiiaaVmI
import Derived.Laws.MakeOwn
namespace Go.Proofs.Ytkoljcjliihiiaa.VM
open Go

variable {cx : Cx} {U : Nat → Prop} {X : Cells} {ρ : Nat → Value} {F : Nat → Cells} {st : St} {a : Act} {w : World}

theorem DC.cells1 {P : Program} {Z Fd : Cells} {c : PV} {v : Value} (h : DC P w Z c v Fd) : c.cells = [c] := by cases h <;> rfl

theorem DC.alloc {P : Program} {Z Fd : Cells} {c : PV} {v : Value} (h : DC P w Z c v Fd) (x : Obj) : DC P (w.alloc x) Z c v Fd :=
  h.mono (fun _ _ _ => (Kept.alloc w x fun _ _ => False).same id) (fun _ _ _ => (Kept.alloc w x fun _ _ => False).same id) fun _ _ h => h

/-- A new slice of pieces that were held beside. -/
theorem G.newSl (h : G cx U X ρ F st a w) {b : Nat} (hb : ¬ U b) {q : Bool} {e m len cap : Nat} {es : List PV} {cur : Array Value} {us : List Value} {Gk : Nat → Cells} {X' : Cells} (hl : len = es.length) (hm : sizeT cx.P e = some m)
    (hw : ∀ y ∈ es, y.cells.length = m) (hlc : len ≤ cap) (hcm : cap ≤ maxLen) (hsz : cur.size = cap * m) (hp : Parts cx w X' (flat es) us Gk) (hX : ∀ b o, Or X' (flat es).length Gk b o → X b o)
    (hc : ∀ (k : Nat) u, us[k]? = some u → cur[k]? = some u) :
    ∃ ρ' F', G cx (Win U b) X' ρ' F' (st.setNode b (some (.sl q 0 e es))) a (w.alloc (.cells cur e)) ∧ ρ' b = .slice (some ⟨w.heap.size, 0, none⟩) len cap := by
  have h1 := (h.less hX).alloc (.cells cur e)
  have hin : ∀ k, k < (flat es).length → ∀ b o, Gk k b o → b < w.heap.size := fun k hk b o hg => (h.mineX b o (hX b o (.inr ⟨k, hk, hg⟩))).2.2
  have hX'in : ∀ b o, X' b o → b < w.heap.size := fun b o hx => (h.mineX b o (hX b o (.inl hx))).2.2
  let Fn : Cells := fun b o => b = w.heap.size ∨ ∃ k, k < (flat es).length ∧ Gk k b o
  have hd : DC cx.P (w.alloc (.cells cur e)) cx.Z (.sl e es) (.slice (some ⟨w.heap.size, 0, none⟩) len cap) Fn := by
    have get : ∀ (k : Nat) c, (flat es)[k]? = some c → us[k]? = some (us.getD k undef) := by
      intro k c hk
      have hlt : k < us.length := by rw [hp.len]; exact (List.getElem?_eq_some_iff.1 hk).1
      rw [List.getD_eq_getElem?_getD, List.getElem?_eq_getElem hlt]; rfl
    refine .sl e es w.heap.size len cap m cur (fun k => us.getD k undef) Gk Fn hl hm hw (heap_alloc_new w _) hlc hcm hsz (fun k c hk => hc k _ (get k c hk)) (fun k c hk => (hp.dc k c _ hk (get k c hk)).alloc _)
      (fun b o => Iff.rfl) hp.apart fun k hk o hg => absurd (hin k hk _ o hg) (Nat.lt_irrefl _)
  have hrho : one1 (.slice (some ⟨w.heap.size, 0, none⟩) len cap) = true := rfl
  refine ⟨_, _, (h1.add hb (n := .sl q 0 e es) (v := .slice (some ⟨w.heap.size, 0, none⟩) len cap) (Fn := Fn) (X' := X') hrho ?_ (fun b o hx => .inl (.inl hx)) ?_ ?_ (.inl rfl)).more ?_, upd_same _ _ _⟩
  · intro b o hf
    rcases hf with hf | ⟨k, hk, hf⟩
    · exact .inr hf
    · exact .inl (.inr ⟨k, hk, hf⟩)
  · intro b o hf hx
    rcases hf with rfl | ⟨k, hk, hf⟩
    · exact absurd (hX'in _ o hx) (Nat.lt_irrefl _)
    · exact hp.apartX k hk b o hf hx
  · refine .sl q 0 e es ?_
    rw [upd_same, upd_same]
    exact hd
  · intro i hi
    exact hi.imp id fun e => by subst e; omega

theorem now_slice (h : G cx U X ρ F st a w) {b : Nat} (hb : ¬ U b) {q : Bool} {e m len cap : Nat} {es : List PV} {cur : Array Value} {us : List Value} {Gk : Nat → Cells} (hl : len = es.length) (hm : sizeT cx.P e = some m)
    (hw : ∀ y ∈ es, y.cells.length = m) (hlc : len ≤ cap) (hcm : cap ≤ maxLen) (hsz : cur.size = cap * m) (hp : Parts cx w (fun _ _ => False) (flat es) us Gk) (hX : ∀ b o, Or (fun _ _ => False) (flat es).length Gk b o → X b o)
    (hc : ∀ (k : Nat) u, us[k]? = some u → cur[k]? = some u) {o : Oper} {d : Nat} (ho : o.dst = some d) (hd : d < cx.n) {w0 : World} (hrun : (execOp a.eval o).run cx.P w0 = .ok (.value (.slice (some ⟨w.heap.size, 0, none⟩) len cap)) (w.alloc (.cells cur e))) :
    Now cx U b o { st.setNode b (some (.sl q 0 e es)) with slots := (d, .rf b) :: st.slots } a w0 := by
  obtain ⟨ρ', F', h2, hρ⟩ := h.newSl hb (q := q) hl hm hw hlc hcm hsz hp hX hc
  refine .value _ _ hrun ?_
  rw [ho, ← hρ]
  exact h2.rel_put hd (.rf b) (.inr ⟨Nat.le_refl _, by omega⟩)

/-! ### pieces -/
theorem ZC.pv_dc {cx : Cx} {z : ZC} {v : Value} (h : zcFits cx.P z v = true) : DC cx.P w cx.Z z.pv v (fun _ _ => False) := by
  cases z with
  | v x =>
    have e := sameV_eq h
    subst e
    refine .a _ _ ?_ (fun _ _ h => h)
    simp only [zcFits] at h
    cases v <;> first | rfl | (simp [sameV] at h)
  | nl e =>
    simp only [zcFits, Bool.and_eq_true] at h
    obtain ⟨h1, h2⟩ := h
    split at h1
    · obtain ⟨m, hm⟩ := Option.isSome_iff_exists.1 h2
      exact .nil e m _ hm (fun _ _ h => h)
    · cases h1

theorem zs_dc {cx : Cx} : ∀ {zs : List ZC} {vs : List Value}, zsFit cx.P zs vs = true → vs.length = zs.length ∧ ∀ (k : Nat) c u, (zs.map ZC.pv)[k]? = some c → vs[k]? = some u → DC cx.P w cx.Z c u (fun _ _ => False)
  | [], [], _ => ⟨rfl, by simp⟩
  | z :: zs, v :: vs, h => by
    simp only [zsFit, Bool.and_eq_true] at h
    obtain ⟨k1, k2⟩ := zs_dc h.2
    refine ⟨by simp [k1], fun k c u hc hu => ?_⟩
    cases k with
    | zero => simp at hc hu; subst hc hu; exact ZC.pv_dc h.1
    | succ k => exact k2 k c u (by simpa using hc) (by simpa using hu)
  | [], _ :: _, h => by cases h
  | _ :: _, [], h => by cases h

theorem pv_cells1 (z : ZC) : z.pv.cells = [z.pv] := by cases z <;> rfl

theorem zeroEl_cells {m : Nat} {zs : List ZC} (h : zs.length = m) : (zeroEl m zs).cells = zs.map ZC.pv := by
  unfold zeroEl
  split
  · rename_i h1
    subst h1
    cases zs with
    | nil => simp at h
    | cons z zs =>
      cases zs with
      | nil => simp [pv_cells1]
      | cons _ _ => simp at h
  · rfl

theorem div_mod_split {k n m : Nat} (hk : k < n * m) : k / m < n ∧ k % m < m ∧ k = k / m * m + k % m := by
  have hm : 0 < m := by
    rcases Nat.eq_zero_or_pos m with rfl | h
    · simp at hk
    · exact h
  refine ⟨Nat.div_lt_of_lt_mul (by rwa [Nat.mul_comm] at hk), Nat.mod_lt _ hm, ?_⟩
  have := Nat.div_add_mod k m
  rw [Nat.mul_comm] at this
  omega

theorem zero_parts {zs : List ZC} {z : Value} (hfit : zsFit cx.P zs z.cells.toList = true) (n : Nat) (X' : Cells) :
    Parts cx w X' (flat (List.replicate n (zeroEl zs.length zs))) (madeCells z.cells (n * zs.length)).toList (fun _ _ _ => False) := by
  obtain ⟨k1, k2⟩ := zs_dc (cx := cx) (w := w) hfit
  have hcl := zeroEl_cells (m := zs.length) (zs := zs) rfl
  have hw : ∀ y ∈ List.replicate n (zeroEl zs.length zs), y.cells.length = zs.length := by
    intro y hy
    rw [(List.mem_replicate.1 hy).2, hcl, List.length_map]
  have hzs : z.cells.size = zs.length := by rw [← Array.length_toList, k1]
  have hfl := flat_length hw
  rw [List.length_replicate] at hfl
  have at_ : ∀ (j : Nat) c, (flat (List.replicate n (zeroEl zs.length zs)))[j]? = some c → j < n * zs.length ∧ (zs.map ZC.pv)[j % zs.length]? = some c := by
    intro j c hj
    have hlt : j < n * zs.length := by rw [← hfl]; exact (List.getElem?_eq_some_iff.1 hj).1
    obtain ⟨d1, d2, d3⟩ := div_mod_split hlt
    refine ⟨hlt, ?_⟩
    rw [d3, flat_get hw (i := j / zs.length) (x := zeroEl zs.length zs) (by rw [List.getElem?_replicate, if_pos d1]) d2, hcl] at hj
    exact hj
  refine ⟨by simp [size_madeCells, hfl], fun j c u hj hu => ?_, ?_, fun _ _ _ _ _ _ _ h => h.elim, fun _ _ _ _ h => h.elim⟩
  · obtain ⟨hlt, hc⟩ := at_ j c hj
    refine k2 _ c u hc ?_
    have hmod : j % zs.length < z.cells.size := by rw [hzs]; exact (div_mod_split hlt).2.1
    simp only [madeCells, Array.toList_map, List.getElem?_map] at hu
    rw [Array.getElem?_toList] at hu
    simp only [Array.getElem?_range] at hu
    rw [if_pos hlt] at hu
    simp only [Option.map_some, Option.some.injEq] at hu
    rw [hzs] at hu
    rw [Array.getElem?_toList, ← hu, getElem!_pos z.cells _ hmod]
    exact Array.getElem?_eq_getElem hmod
  · intro y hy
    obtain ⟨j, hj⟩ := List.getElem?_of_mem hy
    obtain ⟨_, hc⟩ := at_ j y hj
    obtain ⟨zz, _, rfl⟩ := List.mem_map.1 (List.mem_of_getElem? hc)
    exact pv_cells1 zz

theorem op_mks (h : G cx U (fun _ _ => False) ρ F st a w) {b : Nat} (hb : ∀ i, b ≤ i → i < b + 100 → ¬ U i) {o : Oper} {d : Nat} (ho : o.dst = some d) (hd : d < cx.n) {t e by_ : Nat} {zs : List ZC} {x : Operand} {x' : Opd} {t3 : Nat} (hop : o.op = .makeSlice t x x)
    (ht : cx.P.underlying t = some (.slice e)) (hby : bytesT cx.P e = some by_) (hz : zeros cx.P e = some zs) (hx : cOpd cx.P t3 x = some x') {s1 : St}
    (hr : ((opd x').bind fun u => match u with
      | .a (.int .i64 n) =>
        if 0 ≤ n ∧ n * by_ ≤ 140737488355328 ∧ n ≤ 9223372036854775807 then
          (setN b (some (.sl false 0 e (List.replicate n.toNat (zeroEl zs.length zs))))).bind fun _ => setS d (.rf b)
        else .fail
      | _ => .fail).run st = some ((), s1)) : Now cx U b o s1 a w := by
  obtain ⟨c, s2, h1, h2⟩ := run_bind_some hr
  obtain ⟨rfl, g1, i1⟩ := opd_ok h hx h1
  split at h2
  · rename_i n
    split at h2
    · rename_i hcond
      obtain ⟨h0, hbyt, h63⟩ := hcond
      obtain ⟨_, s3, h3, h4⟩ := run_bind_some h2
      cases run_setN h3
      cases run_setS h4
      obtain ⟨i, z, hi, hz0, hsz, hfit⟩ := zeros_spec hz
      have hm : sizeT cx.P e = some zs.length := by unfold sizeT; rw [hi]; simp only [Option.map_some, hsz]
      have hbb : i.bytes = by_ := by unfold bytesT at hby; rw [hi] at hby; simpa using hby
      have hv : a.eval x = .int .i64 n := tr_a g1
      have h63' : n ≤ 9223372036854775807 := by simpa [maxLen] using h63
      have hrun := run_make (P := cx.P) w t e i z ht hi hz0 .i64 .i64 n n h0 (Int.le_refl _) (by rw [hbb, Int.mul_comm]; omega) h63'
      rw [hsz] at hrun
      refine now_slice h (hb b (Nat.le_refl _) (by omega)) (len := n.toNat) (cap := n.toNat) (by simp) hm ?_ (Nat.le_refl _) ?_ (size_madeCells _ _) (zero_parts hfit _ _) ?_ (fun k u hu => by rwa [Array.getElem?_toList] at hu) ho hd ?_
      · intro y hy
        rw [(List.mem_replicate.1 hy).2, zeroEl_cells rfl, List.length_map]
      · simp only [maxLen] at *; omega
      · rintro b o (h | ⟨_, _, h⟩) <;> exact h
      · unfold execOp; rw [hop]
        simp only [hv, Sem.run_bind, hrun, Result.andThen_ok, Sem.run_pure]
    · exact (run_fail h2).elim
  · exact (run_fail h2).elim

theorem getElem?_replace {α : Type} {l ys : List α} {o : Nat} (h : o + ys.length ≤ l.length) (k : Nat) : (l.take o ++ ys ++ l.drop (o + ys.length))[k]? = if o ≤ k ∧ k < o + ys.length then ys[k - o]? else l[k]? := seg_get l ys o k h

/-- Some pieces are exchanged. -/
theorem Parts.seg {X0 : Cells} {l ys : List PV} {us vs : List Value} {Gk Hk : Nat → Cells} (h : Parts cx w X0 l us Gk) (h2 : Parts cx w (Or X0 l.length Gk) ys vs Hk) {o : Nat} (ho : o + ys.length ≤ l.length) :
    Parts cx w X0 (l.take o ++ ys ++ l.drop (o + ys.length)) (us.take o ++ vs ++ us.drop (o + vs.length)) (fun k => if o ≤ k ∧ k < o + ys.length then Hk (k - o) else Gk k) := by
  have l1 := h.len
  have l2 := h2.len
  have hlen : (l.take o ++ ys ++ l.drop (o + ys.length)).length = l.length := by simp; omega
  refine ⟨by simp; omega, fun j c u hc hu => ?_, fun y hy => ?_, fun j k hj hk hjk => ?_, fun j hj => ?_⟩
  · rw [seg_get _ _ _ _ ho] at hc
    rw [seg_get _ _ _ _ (by omega), l2] at hu
    split at hc
    · rename_i hin; rw [if_pos hin] at hu; rw [if_pos hin]; exact h2.dc _ c u hc hu
    · rename_i hin; rw [if_neg hin] at hu; rw [if_neg hin]; exact h.dc _ c u hc hu
  · simp only [List.mem_append] at hy
    rcases hy with (hy | hy) | hy
    · exact h.cells y (List.mem_of_mem_take hy)
    · exact h2.cells y hy
    · exact h.cells y (List.mem_of_mem_drop hy)
  · rw [hlen] at hj hk
    split
    · rename_i h3
      split
      · rename_i h4; exact h2.apart _ _ (by omega) (by omega) (by omega)
      · exact fun b q hf hg => h2.apartX (j - o) (by omega) b q hf (.inr ⟨k, hk, hg⟩)
    · split
      · rename_i h4; exact fun b q hf hg => h2.apartX (k - o) (by omega) b q hg (.inr ⟨j, hj, hf⟩)
      · exact h.apart j k hj hk hjk
  · rw [hlen] at hj
    split
    · exact fun b q hf hx => h2.apartX (j - o) (by omega) b q hf (.inl hx)
    · exact h.apartX j hj

theorem Or.seg {X0 : Cells} {l ys : List PV} {Gk Hk : Nat → Cells} {o : Nat} (ho : o + ys.length ≤ l.length) :
    ∀ b q, Or X0 (l.take o ++ ys ++ l.drop (o + ys.length)).length (fun k => if o ≤ k ∧ k < o + ys.length then Hk (k - o) else Gk k) b q → Or (Or X0 l.length Gk) ys.length Hk b q := by
  have hlen : (l.take o ++ ys ++ l.drop (o + ys.length)).length = l.length := by simp; omega
  rintro b q (hx | ⟨k, hk, hx⟩)
  · exact .inl (.inl hx)
  · rw [hlen] at hk
    split at hx
    · exact .inr ⟨k - o, by omega, hx⟩
    · exact .inl (.inr ⟨k, hk, hx⟩)

/-- Pieces behind pieces. -/
theorem Parts.app {X0 : Cells} {l ys : List PV} {us vs : List Value} {Gk Hk : Nat → Cells} (h : Parts cx w X0 l us Gk) (h2 : Parts cx w (Or X0 l.length Gk) ys vs Hk) :
    Parts cx w X0 (l ++ ys) (us ++ vs) (fun k => if k < l.length then Gk k else Hk (k - l.length)) := by
  have l1 := h.len
  have l2 := h2.len
  refine ⟨by simp [l1, l2], fun j c u hc hu => ?_, fun y hy => ?_, fun j k hj hk hjk => ?_, fun j hj => ?_⟩
  · split
    · rename_i hlt
      rw [List.getElem?_append_left hlt] at hc
      rw [List.getElem?_append_left (by omega)] at hu
      exact h.dc j c u hc hu
    · rename_i hge
      rw [List.getElem?_append_right (by omega)] at hc
      rw [List.getElem?_append_right (by omega), l1] at hu
      exact h2.dc _ c u hc hu
  · simp only [List.mem_append] at hy
    rcases hy with hy | hy
    · exact h.cells y hy
    · exact h2.cells y hy
  · rw [List.length_append] at hj hk
    split
    · split
      · exact h.apart j k (by assumption) (by assumption) hjk
      · exact fun b q hf hg => h2.apartX (k - l.length) (by omega) b q hg (.inr ⟨j, by assumption, hf⟩)
    · split
      · exact fun b q hf hg => h2.apartX (j - l.length) (by omega) b q hf (.inr ⟨k, by assumption, hg⟩)
      · exact h2.apart _ _ (by omega) (by omega) (by omega)
  · rw [List.length_append] at hj
    split
    · exact h.apartX j (by assumption)
    · exact fun b q hf hx => h2.apartX (j - l.length) (by omega) b q hf (.inl hx)

theorem Or.app {X0 : Cells} {l ys : List PV} {Gk Hk : Nat → Cells} :
    ∀ b q, Or X0 (l ++ ys).length (fun k => if k < l.length then Gk k else Hk (k - l.length)) b q → Or (Or X0 l.length Gk) ys.length Hk b q := by
  rintro b q (hx | ⟨k, hk, hx⟩)
  · exact .inl (.inl hx)
  · rw [List.length_append] at hk
    split at hx
    · exact .inl (.inr ⟨k, by assumption, hx⟩)
    · exact .inr ⟨k - l.length, by omega, hx⟩

theorem atomPV_ok {P : Program} {Z Z' : Cells} {sh : Shape} {c : TV} {v : Value} {y : PV} (h : TR P w Z ρ F sh c v) (ha : atomPV c = some y) : DC P w Z' y v (fun _ _ => False) := by
  unfold atomPV at ha
  split at ha
  · split at ha
    · rename_i h1
      cases ha
      rw [tr_a h]
      exact .a _ _ h1 fun _ _ h => h
    · cases ha
  · cases ha

theorem atomPVs_ok {P : Program} {Z Z' : Cells} {sh : Shape} : ∀ {cs : List TV} {vs : List Value} {ys : List PV}, TRL P w Z ρ F sh cs vs → atomPVs cs = some ys →
    vs.length = ys.length ∧ ∀ (k : Nat) c u, ys[k]? = some c → vs[k]? = some u → DC P w Z' c u (fun _ _ => False)
  | [], vs, ys, h, ha => by cases h; cases ha; exact ⟨rfl, by simp⟩
  | c :: cs, vs, ys, h, ha => by
    cases h with
    | @cons _ v _ vs' h1 hs =>
      simp only [atomPVs] at ha
      split at ha
      · rename_i y ys' hy hys
        cases ha
        obtain ⟨k1, k2⟩ := atomPVs_ok (Z' := Z') hs hys
        refine ⟨by simp [k1], fun k c u hc hu => ?_⟩
        cases k with
        | zero => simp at hc hu; subst hc hu; exact atomPV_ok h1 hy
        | succ k => exact k2 k c u (by simpa using hc) (by simpa using hu)
      · cases ha

theorem parts_none {X0 : Cells} {ys : List PV} {us : List Value} (hl : us.length = ys.length) (h : ∀ (k : Nat) c u, ys[k]? = some c → us[k]? = some u → DC cx.P w cx.Z c u (fun _ _ => False)) : Parts cx w X0 ys us (fun _ _ _ => False) := by
  refine ⟨hl, h, fun y hy => ?_, fun _ _ _ _ _ _ _ h => h.elim, fun _ _ _ _ h => h.elim⟩
  obtain ⟨j, hj⟩ := List.getElem?_of_mem hy
  have hlt : j < us.length := by rw [hl]; exact (List.getElem?_eq_some_iff.1 hj).1
  exact (h j y _ hj (List.getElem?_eq_getElem hlt)).cells1

theorem or_none {X0 : Cells} {n : Nat} : ∀ b q, Or X0 n (fun _ _ _ => False) b q → X0 b q := by
  rintro b q (h | ⟨_, _, h⟩)
  · exact h
  · exact h.elim

theorem st_tr {P : Program} {Z : Cells} {sh : Shape} {cs : List TV} {v : Value} (h : TR P w Z ρ F sh (.st cs) v) : TRL P w Z ρ F sh cs v.cells.toList := by
  cases h with
  | st _ us hl hc => exact .of (by simpa [Value.cells] using hl) fun i c u h1 h2 => hc i c u h1 (by simpa [Value.cells] using h2)

theorem toEl_ok (h : G cx U X ρ F st a w) {flat : Bool} {c : TV} {v : Value} (hc : TR cx.P w cx.Z ρ F (shapeOf st) c v) (hi : idsIn U c) {r : PV × Bool} {s1 : St} (hr : (toEl flat c).run st = some (r, s1)) :
    ∃ Hk, Parts cx w X r.1.cells v.cells.toList Hk ∧ G cx U (Or X r.1.cells.length Hk) ρ F s1 a w ∧ ShapeKept U (shapeOf st) (shapeOf s1) := by
  have oneCase : ∀ {c : TV}, TR cx.P w cx.Z ρ F (shapeOf st) c v → idsIn U c → (toPV c).run st = some (r, s1) → ∃ Hk, Parts cx w X r.1.cells v.cells.toList Hk ∧ G cx U (Or X r.1.cells.length Hk) ρ F s1 a w ∧ ShapeKept U (shapeOf st) (shapeOf s1) := by
    intro c hc hi hr
    obtain ⟨Fp, d1, d2, d3, d4, d5⟩ := toPV_ok h hc hr
    have hv : v.cells.toList = [v] := by
      have := d1.one
      cases v <;> first | rfl | (cases this)
    rw [d2, hv]
    refine ⟨fun _ => Fp, ⟨rfl, fun j c u hj hu => ?_, fun y hy => ?_, fun j k hj hk hjk => ?_, fun j hj => d4⟩, d3.less ?_, d5⟩
    · cases j with
      | zero => simp at hj hu; subst hj hu; exact d1
      | succ j => simp at hj
    · simp at hy; subst hy; exact d2
    · simp at hj hk; omega
    · rintro b q (hx | ⟨_, _, hx⟩)
      · exact .inl hx
      · exact .inr hx
  have flatCase : ∀ {c : TV} {y : PV}, TR cx.P w cx.Z ρ F (shapeOf st) c v → atomPV c = some y → ∃ Hk, Parts cx w X y.cells v.cells.toList Hk ∧ G cx U (Or X y.cells.length Hk) ρ F st a w ∧ ShapeKept U (shapeOf st) (shapeOf st) := by
    intro c y hc ha
    have hd := atomPV_ok (Z' := cx.Z) hc ha
    have hv : v.cells.toList = [v] := by
      have := hd.one
      cases v <;> first | rfl | (cases this)
    rw [hd.cells1, hv]
    refine ⟨_, parts_none rfl fun k c u hc hu => ?_, h.less or_none, .refl _ _⟩
    cases k with
    | zero => simp at hc hu; subst hc hu; exact hd
    | succ k => simp at hc
  unfold toEl at hr
  split at hr
  · rename_i cs
    have hcs := st_tr hc
    split at hr
    · obtain ⟨ys, s2, h1, h2⟩ := run_bind_some hr
      obtain ⟨h3, h4⟩ := run_liftO h1
      simp only at h3 h4
      subst h4
      cases run_pure h2
      obtain ⟨k1, k2⟩ := atomPVs_ok (Z' := cx.Z) hcs h3
      exact ⟨_, parts_none k1 k2, h.less or_none, .refl _ _⟩
    · obtain ⟨ys, s2, h1, h2⟩ := run_bind_some hr
      cases run_pure h2
      exact toPVs_ok h hcs hi h1
  · split at hr
    · obtain ⟨ys, s2, h1, h2⟩ := run_bind_some hr
      obtain ⟨h3, h4⟩ := run_liftO h1
      simp only at h3 h4
      subst h4
      cases run_pure h2
      exact flatCase hc h3
    · exact oneCase hc hi hr

/-! ### slice literals -/
theorem flat_set_el {m : Nat} {es : List PV} {y : PV} {i : Nat} (hw : ∀ y ∈ es, y.cells.length = m) (hy : y.cells.length = m) (hi : i < es.length) :
    flat (es.set i y) = (flat es).take (i * m) ++ y.cells ++ (flat es).drop (i * m + y.cells.length) := by
  have e1 : es.set i y = es.take i ++ [y] ++ es.drop (i + 1) := by rw [List.set_eq_take_append_cons_drop, if_pos hi]; simp
  rw [e1]
  have e2 : flat (es.take i ++ [y] ++ es.drop (i + 1)) = flat (es.take i) ++ y.cells ++ flat (es.drop (i + 1)) := by simp [flat]
  rw [e2, flat_take hw, flat_drop hw, hy, Nat.add_mul, Nat.one_mul]

theorem bsl_ok {e m : Nat} {fl : Bool} (ps : List (Nat × Operand)) : ∀ {st : St} {qs : List (Nat × Opd)} {es : List PV} {us : Array Value} {Gk : Nat → Cells} {q : Bool} {r : List PV × Bool} {s1 : St},
    G cx U (Or (fun _ _ => False) (flat es).length Gk) ρ F st a w → cElems cx.P e ps = some qs → (∀ y ∈ es, y.cells.length = m) → Parts cx w (fun _ _ => False) (flat es) us.toList Gk → (bslM fl m qs q es).run st = some (r, s1) →
      ∃ us' Gk', Instr.fill (fun i => some (i * m, m)) us (ps.map fun x => (x.1, a.eval x.2)) = some us' ∧ G cx U (Or (fun _ _ => False) (flat r.1).length Gk') ρ F s1 a w ∧ Parts cx w (fun _ _ => False) (flat r.1) us'.toList Gk' ∧
        (∀ y ∈ r.1, y.cells.length = m) ∧ r.1.length = es.length := by
  induction ps with
  | nil =>
    intro st qs es us Gk q r s1 h hq hw hp hr
    simp only [cElems, Option.some.injEq] at hq
    subst hq
    cases run_pure hr
    exact ⟨us, Gk, rfl, h, hp, hw, rfl⟩
  | cons ix ps ih =>
    intro st qs es us Gk q r s1 h hq hw hp hr
    obtain ⟨i, x⟩ := ix
    simp only [cElems] at hq
    split at hq
    · rename_i y ys hy hys
      cases hq
      simp only [bslM] at hr
      obtain ⟨c, s2, h1, h2⟩ := run_bind_some hr
      obtain ⟨rfl, g1, i1⟩ := opd_ok h hy h1
      obtain ⟨y', s3, h3, h4⟩ := run_bind_some h2
      obtain ⟨Hk, k1, k2, k3⟩ := toEl_ok h g1 i1 h3
      split at h4
      · rename_i hcond
        obtain ⟨hlen, hil⟩ := hcond
        have hfl := flat_length hw
        have hfit : i * m + y'.1.cells.length ≤ (flat es).length := by
          rw [hfl, hlen]
          have : (i + 1) * m ≤ es.length * m := Nat.mul_le_mul_right _ hil
          rw [Nat.add_mul] at this
          omega
        have hset := flat_set_el hw hlen hil
        have hp' := hp.seg k1 hfit
        have hus : us.size = (flat es).length := by rw [← Array.length_toList, hp.len]
        have hvl : (a.eval x).cells.size = m := by rw [← Array.length_toList, k1.len, hlen]
        have hseg := seg_array (i * m) (a.eval x) us (by omega)
        rw [← hset, ← hseg] at hp'
        have hG : G cx U (Or (fun _ _ => False) (flat (es.set i y'.1)).length (fun k => if i * m ≤ k ∧ k < i * m + y'.1.cells.length then Hk (k - i * m) else Gk k)) ρ F s3 a w := by
          rw [hset]
          exact k2.less (Or.seg hfit)
        obtain ⟨us', Gk', f1, f2, f3, f4, f5⟩ := ih hG hys (by
          intro z hz
          rcases List.mem_or_eq_of_mem_set hz with hz | rfl
          · exact hw z hz
          · exact hlen) hp' h4
        refine ⟨us', Gk', ?_, f2, f3, f4, by rw [f5, List.length_set]⟩
        simp only [List.map_cons, Instr.fill]
        rw [if_neg (by simp [hvl]; omega)]
        exact f1
      · exact (run_fail h4).elim
    · cases hq

theorem op_bsl (h : G cx U (fun _ _ => False) ρ F st a w) {b : Nat} (hb : ∀ i, b ≤ i → i < b + 100 → ¬ U i) {o : Oper} {d : Nat} (ho : o.dst = some d) (hd : d < cx.n) {t e m n : Nat} {zs : List ZC} {ps : Array (Nat × Operand)} {qs : List (Nat × Opd)} (hop : o.op = .buildSlice t n ps)
    (ht : cx.P.underlying t = some (.slice e)) (hm : sizeT cx.P e = some m) (hz : zeros cx.P e = some zs) (hq : cElems cx.P e ps.toList = some qs) (hbig : 0 < m ∧ n * m ≤ 16777216) {s1 : St}
    (hr : ((bslM (flatZ zs) m qs false (List.replicate n (zeroEl m zs))).bind fun es => (setN b (some (.sl es.2 0 e es.1))).bind fun _ => setS d (.rf b)).run st = some ((), s1)) : Now cx U b o s1 a w := by
  obtain ⟨es, s2, h1, h2⟩ := run_bind_some hr
  obtain ⟨_, s3, h3, h4⟩ := run_bind_some h2
  cases run_setN h3
  cases run_setS h4
  obtain ⟨i, z, hi, hz0, hsz, hfit⟩ := zeros_spec hz
  have hmz : m = zs.length := by unfold sizeT at hm; rw [hi] at hm; simp only [Option.map_some, Option.some.injEq] at hm; omega
  subst hmz
  have hp0 := zero_parts (cx := cx) (w := w) hfit n (fun _ _ => False)
  have hw0 : ∀ y ∈ List.replicate n (zeroEl zs.length zs), y.cells.length = zs.length := by
    intro y hy
    rw [(List.mem_replicate.1 hy).2, zeroEl_cells rfl, List.length_map]
  obtain ⟨us', Gk', f1, f2, f3, f4, f5⟩ := bsl_ok ps.toList (h.less or_none) hq hw0 hp0 h1
  have hfl := flat_length f4
  rw [f5, List.length_replicate] at hfl
  have hlen : us'.size = n * zs.length := by rw [← Array.length_toList, f3.len, hfl]
  have hn63 : n ≤ maxLen := by
    have h1 : n * 1 ≤ n * zs.length := Nat.mul_le_mul_left _ hbig.1
    simp only [maxLen]
    omega
  refine now_slice f2 (hb b (Nat.le_refl _) (by omega)) (len := n) (cap := n) (cur := us') (us := us'.toList) (by rw [f5, List.length_replicate]) hm f4 (Nat.le_refl _) hn63 hlen f3 (fun _ _ h => h) (fun k u hu => by rwa [Array.getElem?_toList] at hu) ho hd ?_
  unfold execOp; rw [hop]
  have hb2 : (Instr.buildSlice t n (ps.map fun (i, x) => (i, a.eval x))).run cx.P w = .ok (.slice (some ⟨w.heap.size, 0, none⟩) n n) (w.alloc (.cells us' e)) := by
    have hps : (ps.map fun (i, x) => (i, a.eval x)).toList = ps.toList.map fun x => (x.1, a.eval x.2) := by rw [Array.toList_map]
    have hbig2 : ¬ (16777216 < n * zs.length) := by omega
    by_cases hn : n = 0
    · subst hn
      simp only [madeCells, Nat.zero_mul] at f1
      simp [Instr.buildSlice, run_underlying ht, sizeOf_run hm, newRow, Array.range_zero']
      have e0 : (Array.map (fun x => z.cells[x % z.cells.size]!) (Array.range 0)) = #[] := by simp
      rw [e0] at f1
      simp [f1]
    · have hnz : ¬ (n * zs.length = 0) := by
        have := Nat.mul_pos (Nat.pos_of_ne_zero hn) hbig.1
        omega
      simp only [Instr.buildSlice, Sem.run_bind, run_underlying ht, Result.andThen_ok, sizeOf_run hm, hps]
      have hzv : (zeroValue e).run cx.P w = .ok z w := by simp [zeroValue, typeInfo, hi, hz0]
      simp [hbig2, hnz, hzv, newRow]
      simp only [madeCells] at f1
      simp [f1]
  simp only [Sem.run_bind, hb2, Result.andThen_ok, Sem.run_pure]

end Go.Proofs.Ytkoljcjliihiiaa.VM

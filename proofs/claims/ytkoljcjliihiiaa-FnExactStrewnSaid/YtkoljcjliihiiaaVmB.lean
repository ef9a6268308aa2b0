/- The interpreter 'VM': how its values stand for Go's memory: relations between a frame of the interpreter and the model's world, and how they are kept while the world changes. -/
import Derived.Test.YtkoljcjliihiiaaVmC
import Derived.Calls
import Derived.Orders
import Derived.Laws.AppendOwn
import Derived.KernelRfl
namespace Go.Proofs.Ytkoljcjliihiiaa.VM
open Go

abbrev Cells := Nat → Nat → Prop

theorem one1_eq (v : Value) : one1 v = v.oneCell' := by cases v <;> rfl

theorem add_none {x : Addr} (h : x.spot = none) (k : Nat) : x.add k = ⟨x.block, x.off + k, none⟩ := by
  cases x with
  | mk b o s => simp only at h; subst h; unfold Addr.add; split <;> simp_all

/-! ### worlds -/
/-- What stands at a cell, and the row about it, is as it was. -/
def SameAt (w w' : World) (b o : Nat) : Prop :=
  ∀ cur e fr, w.heap[b]? = some (.cells cur e fr) → ∃ cur', w'.heap[b]? = some (.cells cur' e fr) ∧ cur'.size = cur.size ∧ cur'[o]? = cur[o]?

structure Kept (w w' : World) (M : Cells) : Prop where
  os : w'.os = w.os
  tape : w'.tape = w.tape
  output : w'.output = w.output
  size : w.heap.size ≤ w'.heap.size
  cells : ∀ b cur e fr, w.heap[b]? = some (.cells cur e fr) → ∃ cur', w'.heap[b]? = some (.cells cur' e fr) ∧ cur'.size = cur.size ∧ ∀ o, ¬ M b o → cur'[o]? = cur[o]?
  other : ∀ (b : Nat) x, w.heap[b]? = some x → (∀ cur e fr, x ≠ .cells cur e fr) → w'.heap[b]? = some x

theorem Kept.refl (w : World) (M : Cells) : Kept w w M :=
  ⟨rfl, rfl, rfl, Nat.le_refl _, fun _ cur _ _ h => ⟨cur, h, rfl, fun _ _ => rfl⟩, fun _ _ h _ => h⟩

theorem Kept.trans {w w1 w2 : World} {M M1 : Cells} (h : Kept w w1 M) (h' : Kept w1 w2 M1) (hm : ∀ b o, M1 b o → b < w.heap.size → M b o) : Kept w w2 M := by
  refine ⟨h'.os.trans h.os, h'.tape.trans h.tape, h'.output.trans h.output, Nat.le_trans h.size h'.size, ?_, ?_⟩
  · intro b cur e fr hb
    obtain ⟨c1, h1, s1, e1⟩ := h.cells b cur e fr hb
    obtain ⟨c2, h2, s2, e2⟩ := h'.cells b c1 e fr h1
    have hlt : b < w.heap.size := (Array.getElem?_eq_some_iff.1 hb).1
    exact ⟨c2, h2, s2.trans s1, fun o ho => (e2 o fun hh => ho (hm b o hh hlt)).trans (e1 o ho)⟩
  · intro b x hb hx
    exact h'.other b x (h.other b x hb hx) hx

theorem Kept.mono {w w' : World} {M M' : Cells} (h : Kept w w' M) (hm : ∀ b o, M b o → M' b o) : Kept w w' M' :=
  ⟨h.os, h.tape, h.output, h.size, fun b cur e fr hb => by
    obtain ⟨c, h1, h2, h3⟩ := h.cells b cur e fr hb
    exact ⟨c, h1, h2, fun o ho => h3 o fun hh => ho (hm b o hh)⟩, h.other⟩

theorem Kept.same {w w' : World} {M : Cells} (h : Kept w w' M) {b o : Nat} (ho : ¬ M b o) : SameAt w w' b o := by
  intro cur e fr hb
  obtain ⟨c, h1, h2, h3⟩ := h.cells b cur e fr hb
  exact ⟨c, h1, h2, h3 o ho⟩

theorem Kept.alloc (w : World) (x : Obj) (M : Cells) : Kept w (w.alloc x) M := by
  refine ⟨rfl, rfl, rfl, by simp, ?_, ?_⟩
  · intro b cur e fr hb
    refine ⟨cur, ?_, rfl, fun _ _ => rfl⟩
    rw [heap_alloc_old w x b (Array.getElem?_eq_some_iff.1 hb).1]; exact hb
  · intro b y hb _
    rw [heap_alloc_old w x b (Array.getElem?_eq_some_iff.1 hb).1]; exact hb

theorem Kept.drew (w : World) (M : Cells) : Kept w w.drew M :=
  ⟨rfl, rfl, rfl, Nat.le_refl _, fun _ cur _ _ h => ⟨cur, h, rfl, fun _ _ => rfl⟩, fun _ _ h _ => h⟩

theorem heap_setCell (w : World) (b o : Nat) (v : Value) (k : Nat) : (w.setCell ⟨b, o, none⟩ v).heap[k]? =
    if b = k then (w.heap[k]?).map (fun x => match x with | .cells c e fr => .cells (c.setIfInBounds o v) e fr | x => x) else w.heap[k]? := by
  unfold World.setCell
  simp only [Array.getElem?_modify, Option.isSome_none, Bool.false_eq_true, if_false]
  rfl

theorem Kept.setCell (w : World) (b o : Nat) (v : Value) {M : Cells} (hM : M b o) : Kept w (w.setCell ⟨b, o, none⟩ v) M := by
  refine ⟨rfl, rfl, rfl, by simp, ?_, ?_⟩
  · intro k cur e fr hk
    rw [heap_setCell]
    by_cases hb : b = k
    · subst hb
      simp only [if_true, hk, Option.map_some]
      refine ⟨_, rfl, by simp, fun j hj => ?_⟩
      have : o ≠ j := fun h => hj (h ▸ hM)
      simp [this]
    · simp only [hb, if_false]
      exact ⟨cur, hk, rfl, fun _ _ => rfl⟩
  · intro k x hk hx
    rw [heap_setCell]
    by_cases hb : b = k
    · subst hb
      cases x <;> first | (exact absurd rfl (hx _ _ _)) | simp only [if_true, hk, Option.map_some]
    · simp only [hb, if_false]; exact hk

theorem SameAt.cell {w w' : World} {b o : Nat} (h : SameAt w w' b o) {v : Value} (hc : w.cell? ⟨b, o, none⟩ = some v) : w'.cell? ⟨b, o, none⟩ = some v := by
  unfold World.cell? at hc ⊢
  simp only at hc ⊢
  cases hb : w.heap[b]? with
  | none => rw [hb] at hc; cases hc
  | some x =>
    rw [hb] at hc
    cases x with
    | cells cur e fr =>
      obtain ⟨c, h1, _, h3⟩ := h cur e fr hb
      simp only [Option.isSome_none, Bool.false_eq_true, if_false] at hc ⊢
      rw [h1]; simp only; rw [h3]; exact hc
    | _ => cases hc

theorem cell_of_heap {w : World} {b o : Nat} {cur : Array Value} {e : TypeId} {fr : Nat × Nat} (h : w.heap[b]? = some (.cells cur e fr)) : w.cell? ⟨b, o, none⟩ = cur[o]? := by
  simp [World.cell?, h]

/-! ### data -/
def flat (es : List PV) : List PV := es.flatMap PV.cells

/-- Data that is only read: its cells lie in Z. -/
inductive RC (P : Program) (w : World) (Z : Cells) : PV → Value → Prop
  | a (v : Value) (h : one1 v = true) : RC P w Z (.a v) v
  | un (v : Value) (h : one1 v = true) : RC P w Z .un v
  | sl (e : Nat) (es : List PV) (x : Option Addr) (len cap m : Nat) (vs : Nat → Value) (hl : len = es.length ∧ len ≤ cap) (hm : sizeT P e = some m) (hw : ∀ y ∈ es, y.cells.length = m)
      (hx : ∀ y, x = some y → es ≠ [] → y.spot = none) (hn : x = none → len = 0)
      (hc : ∀ k c, (flat es)[k]? = some c → ∀ y, x = some y → w.cell? ⟨y.block, y.off + k, none⟩ = some (vs k) ∧ Z y.block (y.off + k))
      (hr : ∀ k c, (flat es)[k]? = some c → RC P w Z c (vs k)) : RC P w Z (.sl e es) (.slice x len cap)
  | fz (e : Nat) (es : List PV) (x : Option Addr) (len cap m : Nat) (vs : Nat → Value) (hl : len = es.length ∧ len ≤ cap) (hm : sizeT P e = some m) (hw : ∀ y ∈ es, y.cells.length = m)
      (hx : ∀ y, x = some y → es ≠ [] → y.spot = none) (hn : x = none → len = 0)
      (hc : ∀ k c, (flat es)[k]? = some c → ∀ y, x = some y → w.cell? ⟨y.block, y.off + k, none⟩ = some (vs k) ∧ Z y.block (y.off + k))
      (hr : ∀ k c, (flat es)[k]? = some c → RC P w Z c (vs k)) : RC P w Z (.fz e es) (.slice x len cap)

theorem RC.mono {P : Program} {w w' : World} {Z Z' : Cells} {c : PV} {v : Value} (h : RC P w Z c v) (hs : ∀ b o, Z b o → SameAt w w' b o) (hz : ∀ b o, Z b o → Z' b o) : RC P w' Z' c v := by
  induction h with
  | a v h => exact .a v h
  | un v h => exact .un v h
  | sl e es x len cap m vs hl hm hw hx hn hc hr ih =>
    exact .sl e es x len cap m vs hl hm hw hx hn (fun k c hk y hy => let ⟨h1, h2⟩ := hc k c hk y hy; ⟨(hs _ _ h2).cell h1, hz _ _ h2⟩) ih
  | fz e es x len cap m vs hl hm hw hx hn hc hr ih =>
    exact .fz e es x len cap m vs hl hm hw hx hn (fun k c hk y hy => let ⟨h1, h2⟩ := hc k c hk y hy; ⟨(hs _ _ h2).cell h1, hz _ _ h2⟩) ih

theorem RC.one {P : Program} {w : World} {Z : Cells} {c : PV} {v : Value} (h : RC P w Z c v) : one1 v = true := by
  cases h <;> first | assumption | rfl

theorem RC.ofFz {P : Program} {w : World} {Z : Cells} {e : Nat} {es : List PV} {v : Value} (h : RC P w Z (.fz e es) v) : RC P w Z (.sl e es) v := by
  cases h with
  | fz _ _ x len cap m vs hl hm hw hx hn hc hr => exact .sl e es x len cap m vs hl hm hw hx hn hc hr

theorem RC.toFz {P : Program} {w : World} {Z : Cells} {e : Nat} {es : List PV} {v : Value} (h : RC P w Z (.sl e es) v) : RC P w Z (.fz e es) v := by
  cases h with
  | sl _ _ x len cap m vs hl hm hw hx hn hc hr => exact .fz e es x len cap m vs hl hm hw hx hn hc hr

def Apart (F G : Cells) : Prop := ∀ b o, F b o → ¬ G b o

theorem Apart.symm {F G : Cells} (h : Apart F G) : Apart G F := fun b o hg hf => h b o hf hg

/-- Data of the frame's own: F is all the memory that it takes. -/
inductive DC (P : Program) (w : World) (Z : Cells) : PV → Value → Cells → Prop
  | a (v : Value) (F : Cells) (h : one1 v = true) (hF : ∀ b o, ¬ F b o) : DC P w Z (.a v) v F
  | un (v : Value) (F : Cells) (h : one1 v = true) (hF : ∀ b o, ¬ F b o) : DC P w Z .un v F
  | fz (e : Nat) (es : List PV) (v : Value) (F : Cells) (h : RC P w Z (.sl e es) v) (hF : ∀ b o, ¬ F b o) : DC P w Z (.fz e es) v F
  | nil (e m : Nat) {x : Option Addr} (F : Cells) (hm : sizeT P e = some m) (hF : ∀ b o, ¬ F b o) : DC P w Z (.sl e []) (.slice x 0 0) F
  | sl (e : Nat) (es : List PV) (g len cap m : Nat) (cur : Array Value) (vs : Nat → Value) (Fk : Nat → Cells) (F : Cells) (hl : len = es.length) (hm : sizeT P e = some m)
      (hw : ∀ y ∈ es, y.cells.length = m) (hg : w.heap[g]? = some (.cells cur e (0, 0))) (hlc : len ≤ cap) (hcm : cap ≤ maxLen) (hsz : cur.size = cap * m)
      (hc : ∀ k c, (flat es)[k]? = some c → cur[k]? = some (vs k))
      (hr : ∀ k c, (flat es)[k]? = some c → DC P w Z c (vs k) (Fk k))
      (hF : ∀ b o, F b o ↔ (b = g ∨ ∃ k, k < (flat es).length ∧ Fk k b o))
      (hd : ∀ k l, k < (flat es).length → l < (flat es).length → k ≠ l → Apart (Fk k) (Fk l))
      (hd0 : ∀ k, k < (flat es).length → ∀ o, ¬ Fk k g o) : DC P w Z (.sl e es) (.slice (some ⟨g, 0, none⟩) len cap) F

theorem SameAt.block {w w' : World} {b : Nat} (h : ∀ o, SameAt w w' b o) {cur : Array Value} {e : TypeId} {fr : Nat × Nat} (hb : w.heap[b]? = some (.cells cur e fr)) :
    w'.heap[b]? = some (.cells cur e fr) := by
  obtain ⟨c, h1, h2, _⟩ := h 0 cur e fr hb
  have : c = cur := by
    apply Array.ext h2
    intro i hi hj
    obtain ⟨c', h1', _, h3⟩ := h i cur e fr hb
    rw [h1] at h1'
    injection h1' with h1'
    injection h1' with h1' _ _
    subst h1'
    rw [Array.getElem?_eq_getElem hi, Array.getElem?_eq_getElem hj] at h3
    exact Option.some.inj h3
  rw [h1, this]

theorem DC.mono {P : Program} {w w' : World} {Z Z' : Cells} {c : PV} {v : Value} {F : Cells} (h : DC P w Z c v F) (hs : ∀ b o, F b o → SameAt w w' b o) (hz : ∀ b o, Z b o → SameAt w w' b o)
    (hzz : ∀ b o, Z b o → Z' b o) : DC P w' Z' c v F := by
  induction h with
  | a v F h hF => exact .a v F h hF
  | un v F h hF => exact .un v F h hF
  | fz e es v F h hF => exact .fz e es v F (h.mono hz hzz) hF
  | nil e m F hm hF => exact .nil e m F hm hF
  | sl e es g len cap m cur vs Fk F hl hm hw hg hlc hcm hsz hc hr hF hd hd0 ih =>
    refine .sl e es g len cap m cur vs Fk F hl hm hw (SameAt.block (fun o => hs g o ((hF g o).2 (.inl rfl))) hg) hlc hcm hsz hc ?_ hF hd hd0
    intro k c hk
    exact ih k c hk fun b o hb => hs b o ((hF b o).2 (.inr ⟨k, (List.getElem?_eq_some_iff.1 hk).1, hb⟩))

theorem DC.one {P : Program} {w : World} {Z : Cells} {c : PV} {v : Value} {F : Cells} (h : DC P w Z c v F) : one1 v = true := by
  cases h with
  | a v F h hF => exact h
  | un v F h hF => exact h
  | fz e es v F h hF => exact h.one
  | nil => rfl
  | sl => rfl

theorem DC.congr {P : Program} {w : World} {Z : Cells} {c : PV} {v : Value} {F F' : Cells} (h : DC P w Z c v F) (hf : ∀ b o, F' b o ↔ F b o) : DC P w Z c v F' := by
  cases h with
  | a _ _ h hF => exact .a v F' h fun b o hb => hF b o ((hf b o).1 hb)
  | un _ _ h hF => exact .un v F' h fun b o hb => hF b o ((hf b o).1 hb)
  | fz e es _ _ h hF => exact .fz e es v F' h fun b o hb => hF b o ((hf b o).1 hb)
  | nil e m _ hm hF => exact .nil e m F' hm fun b o hb => hF b o ((hf b o).1 hb)
  | sl e es g len cap m cur vs Fk _ hl hm hw hg hlc hcm hsz hc hr hF hd hd0 => exact .sl e es g len cap m cur vs Fk F' hl hm hw hg hlc hcm hsz hc hr (fun b o => (hf b o).trans (hF b o)) hd hd0

/-- The memory of data lies in the world. -/
theorem DC.inside {P : Program} {w : World} {Z : Cells} {c : PV} {v : Value} {F : Cells} (h : DC P w Z c v F) : ∀ b o, F b o → b < w.heap.size := by
  induction h with
  | a v F h hF => exact fun b o hb => absurd hb (hF b o)
  | un v F h hF => exact fun b o hb => absurd hb (hF b o)
  | fz e es v F h hF => exact fun b o hb => absurd hb (hF b o)
  | nil e m F hm hF => exact fun b o hb => absurd hb (hF b o)
  | sl e es g len cap m cur vs Fk F hl hm hw hg hlc hcm hsz hc hr hF hd hd0 ih =>
    intro b o hb
    rcases (hF b o).1 hb with rfl | ⟨k, hk, hb⟩
    · exact (Array.getElem?_eq_some_iff.1 hg).1
    · exact ih k _ (List.getElem?_eq_getElem hk) b o hb

/-- Own data may be read. -/
theorem DC.read {P : Program} {w : World} {Z : Cells} {c : PV} {v : Value} {F : Cells} (h : DC P w Z c v F) : ∀ (Z' : Cells), (∀ b o, F b o → Z' b o) → (∀ b o, Z b o → Z' b o) → RC P w Z' c v := by
  induction h with
  | a v F h hF => exact fun _ _ _ => .a v h
  | un v F h hF => exact fun _ _ _ => .un v h
  | fz e es v F h hF => exact fun Z' _ hz => (h.mono (fun b o _ cur e fr hb => ⟨cur, hb, rfl, rfl⟩) hz).toFz
  | nil e m F hm hF =>
    intro Z' _ _
    exact .sl e [] _ 0 0 m (fun _ => .bool false) ⟨rfl, Nat.le_refl _⟩ hm (by simp) (fun _ _ h => absurd rfl h) (fun _ => rfl) (by simp [flat]) (by simp [flat])
  | sl e es g len cap m cur vs Fk F hl hm hw hg hlc hcm hsz hc hr hF hd hd0 ih =>
    intro Z' hf hz
    refine .sl e es _ len cap m vs ⟨hl, hlc⟩ hm hw (fun y hy _ => by cases hy; rfl) (by simp) ?_ ?_
    · intro k c hk y hy
      cases hy
      simp only [Nat.zero_add]
      exact ⟨(cell_of_heap hg).trans (hc k c hk), hf _ _ ((hF _ _).2 (.inl rfl))⟩
    · intro k c hk
      exact ih k c hk Z' (fun b o hb => hf b o ((hF b o).2 (.inr ⟨k, (List.getElem?_eq_some_iff.1 hk).1, hb⟩))) hz

/-! ### slots and nodes -/
/-- From a slice's head down a path to an inner slice's head; all that is passed lies in S, and in the slices' use. -/
inductive Nav (P : Program) (w : World) (S : Cells) : Value → List (Nat × Nat × Nat) → Value → Prop
  | nil (v : Value) : Nav P w S v [] v
  | cons (g len cap i m o : Nat) (u v : Value) (p : List (Nat × Nat × Nat)) (hc : w.cell? ⟨g, i * m + o, none⟩ = some u)
      (hk : ∀ cur e fr m0, w.heap[g]? = some (.cells cur e fr) → sizeT P e = some m0 → i * m + o < len * m0)
      (hu : isSliceV u = true) (hs : S g (i * m + o)) (h : Nav P w S u p v) : Nav P w S (.slice (some ⟨g, 0, none⟩) len cap) ((i, m, o) :: p) v

/-- The blocks' types stay. -/
def SameTy (w w' : World) : Prop := ∀ b cur e fr, w'.heap[b]? = some (.cells cur e fr) → b < w.heap.size → ∃ cur0, w.heap[b]? = some (.cells cur0 e fr)
theorem SameTy.refl (w : World) : SameTy w w := fun _ cur _ _ h _ => ⟨cur, h⟩
theorem Kept.ty {w w' : World} {M : Cells} (h : Kept w w' M) : SameTy w w' := by
  intro b cur e fr hb hlt
  have h0 : w.heap[b]? = some w.heap[b] := Array.getElem?_eq_getElem hlt
  generalize w.heap[b] = x at h0
  cases x with
  | cells c0 e0 fr0 =>
    obtain ⟨c1, h1, _⟩ := h.cells b c0 e0 fr0 h0
    rw [hb] at h1
    cases h1
    exact ⟨c0, h0⟩
  | _ =>
    have := h.other b _ h0 (by intros; simp)
    rw [hb] at this
    cases this

theorem lt_of_cell {w : World} {b o : Nat} {v : Value} (h : w.cell? ⟨b, o, none⟩ = some v) : b < w.heap.size := by
  unfold World.cell? at h
  simp only at h
  cases hb : w.heap[b]? with
  | none => rw [hb] at h; cases h
  | some x => exact (Array.getElem?_eq_some_iff.1 hb).1

/-- What can be reached in S can be reached in S' behind. -/
def NavKept (P : Program) (w w' : World) (S S' : Cells) (r : Value) : Prop := ∀ p v, Nav P w S r p v → Nav P w' S' r p v
theorem NavKept.of {P : Program} {w w' : World} {S S' : Cells} {r : Value} (ht : SameTy w w')
    (hs : ∀ b o, S b o → S' b o ∧ ∀ y, w.cell? ⟨b, o, none⟩ = some y → isSliceV y = true → w'.cell? ⟨b, o, none⟩ = some y) : NavKept P w w' S S' r := by
  intro p v h
  induction h with
  | nil v => exact .nil v
  | cons g len cap i m o u v p hc hk hu hS _ ih =>
    refine .cons g len cap i m o u v p ((hs _ _ hS).2 _ hc hu) (fun cur e fr m0 hb hm => ?_) hu (hs _ _ hS).1 ih
    obtain ⟨cur0, h0⟩ := ht g cur e fr hb (lt_of_cell hc)
    exact hk cur0 e fr m0 h0 hm

/-- What is known of a slice node: its version, its elements' type, its length. -/
abbrev Shape := Nat → Option (Nat × Nat × Nat)

inductive TR (P : Program) (w : World) (Z : Cells) (ρ : Nat → Value) (F : Nat → Cells) (sh : Shape) : TV → Value → Prop
  | a (v : Value) : TR P w Z ρ F sh (.a v) v
  | nl (e m : Nat) (hm : sizeT P e = some m) : TR P w Z ρ F sh (.nl e) (.slice none 0 0)
  | rf (id : Nat) : TR P w Z ρ F sh (.rf id) (ρ id)
  | ri (id ver : Nat) (p : List (Nat × Nat × Nat)) (v : Value) (h1 : one1 v = true) (h : ∀ e l, sh id = some (ver, e, l) → Nav P w (F id) (ρ id) p v) : TR P w Z ρ F sh (.ri id ver p) v
  | sb (id lo n : Nat) (v : Value) (h1 : one1 v = true) (h : ∀ ver e l, sh id = some (ver, e, l) → ∃ x cap, v = .slice x n cap ∧ n ≤ cap ∧ lo + n ≤ l ∧ (n ≠ 0 → ∃ g l' c' m, ρ id = .slice (some ⟨g, 0, none⟩) l' c' ∧ sizeT P e = some m ∧ x = some ⟨g, lo * m, none⟩)) :
      TR P w Z ρ F sh (.sb id lo n) v
  | ad (id o b off : Nat) (h : ρ id = .pointer (some ⟨b, off, none⟩)) : TR P w Z ρ F sh (.ad id o) (.pointer (some ⟨b, off + o, none⟩))
  | ea (id i m o : Nat) (v : Value) (h1 : one1 v = true) (h : ∀ ver e l, sh id = some (ver, e, l) → ∃ g l' c', ρ id = .slice (some ⟨g, 0, none⟩) l' c' ∧ sizeT P e = some m ∧ v = .pointer (some ⟨g, i * m + o, none⟩)) :
      TR P w Z ρ F sh (.ea id i m o) v
  | ei (id ver : Nat) (p : List (Nat × Nat × Nat)) (i m o : Nat) (v : Value) (h1 : one1 v = true) (h : ∀ e l, sh id = some (ver, e, l) → ∃ g l' c', Nav P w (F id) (ρ id) p (.slice (some ⟨g, 0, none⟩) l' c') ∧ v = .pointer (some ⟨g, i * m + o, none⟩)) :
      TR P w Z ρ F sh (.ei id ver p i m o) v
  | sz (e : Nat) (es : List PV) (v : Value) (h : RC P w Z (.sl e es) v) : TR P w Z ρ F sh (.sz e es) v
  | ez (cs : List PV) (o : Nat) (x : Addr) (hx : x.spot = none) (vs : Nat → Value) (hc : ∀ (j : Nat) c, cs[o + j]? = some c → w.cell? ⟨x.block, x.off + j, none⟩ = some (vs j) ∧ Z x.block (x.off + j) ∧ RC P w Z c (vs j)) :
      TR P w Z ρ F sh (.ez cs o) (.pointer (some x))
  | st (cs : List TV) (us : Array Value) (hl : us.size = cs.length) (h : ∀ (i : Nat) c u, cs[i]? = some c → us[i]? = some u → TR P w Z ρ F sh c u) : TR P w Z ρ F sh (.st cs) (.agg us)
  | tp (cs : List TV) (us : Array Value) (hl : us.size = cs.length) (h : ∀ (i : Nat) c u, cs[i]? = some c → us[i]? = some u → TR P w Z ρ F sh c u) : TR P w Z ρ F sh (.tp cs) (.tuple us)
  | fn (f : Nat) (fs cs : List TV) (xs us : Array Value) (hx : xs.size = fs.length) (hl : us.size = cs.length) (hf : ∀ (i : Nat) c u, fs[i]? = some c → xs[i]? = some u → TR P w Z ρ F sh c u)
      (h : ∀ (i : Nat) c u, cs[i]? = some c → us[i]? = some u → TR P w Z ρ F sh c u) : TR P w Z ρ F sh (.fn f fs cs) (.func (.func f) xs us)
  | ic (t : Nat) (c : TV) (u : Value) (h : TR P w Z ρ F sh c u) : TR P w Z ρ F sh (.ic t c) (.iface t u)
  | un (v : Value) : TR P w Z ρ F sh .un v

inductive NR (P : Program) (w : World) (Z : Cells) (ρ : Nat → Value) (F : Nat → Cells) (sh : Shape) (id : Nat) : Node → Prop
  | bx (z : Bool) (cs : List TV) (b off : Nat) (cur : Array Value) (t : TypeId) (hρ : ρ id = .pointer (some ⟨b, off, none⟩)) (hb : w.heap[b]? = some (.cells cur t (0, 0))) (hsz : off + cs.length ≤ cur.size) (hne : cs ≠ [])
      (hc : ∀ (i : Nat) c, cs[i]? = some c → ∀ u, cur[off + i]? = some u → TR P w Z ρ F sh c u)
      (hF : ∀ b' o', F id b' o' ↔ (z = false ∧ b' = b ∧ off ≤ o' ∧ o' < off + cs.length))
      (hz : z = true → ∀ i, i < cs.length → Z b (off + i)) : NR P w Z ρ F sh id (.bx z cs)
  | sl (q : Bool) (ver e : Nat) (es : List PV) (h : DC P w Z (.sl e es) (ρ id) (F id)) : NR P w Z ρ F sh id (.sl q ver e es)

def shapeOf (st : St) : Shape := fun id => match st.node id with
  | some (.sl _ ver e es) => some (ver, e, es.length)
  | _ => none

mutual
/-- All nodes that are named belong to U. -/
def idsIn (U : Nat → Prop) : TV → Prop
  | .rf id => U id
  | .ri id ver _ => U id ∧ (ver = 0 ∨ U (ver - 1))
  | .sb id _ _ => U id
  | .ad id _ => U id
  | .ea id _ _ _ => U id
  | .ei id ver _ _ _ _ => U id ∧ (ver = 0 ∨ U (ver - 1))
  | .st cs => idsInL U cs
  | .tp cs => idsInL U cs
  | .fn _ fs cs => idsInL U fs ∧ idsInL U cs
  | .ic _ c => idsIn U c
  | _ => True
def idsInL (U : Nat → Prop) : List TV → Prop
  | [] => True
  | c :: cs => idsIn U c ∧ idsInL U cs
end

def Node.idsIn (U : Nat → Prop) : Node → Prop
  | .bx _ cs => idsInL U cs
  | .sl _ ver _ _ => ver = 0 ∨ U (ver - 1)

/-- What a call may lean on: the world in which it began, the memory that it may write, what it may read, what was handed over. -/
structure Cx where
  P : Program
  w0 : World
  M0 : Cells
  Z : Cells
  n : Nat
  args : Array Value

def Cx.val (cx : Cx) (tmps : Array Value) (t : Nat) : Value := if t < 10000 then tmps.getD t undef else cx.args.getD (t - 10000) undef

/-- The frame stands for the world. U: the nodes' numbers that are used; X: memory of the frame's own that no node holds. -/
structure G (cx : Cx) (U : Nat → Prop) (X : Cells) (ρ : Nat → Value) (F : Nat → Cells) (st : St) (a : Act) (w : World) : Prop where
  slots : ∀ t, TR cx.P w cx.Z ρ F (shapeOf st) (st.slot t) (cx.val a.tmps t)
  ids : ∀ t, idsIn U (st.slot t)
  nodes : ∀ id n, st.node id = some n → NR cx.P w cx.Z ρ F (shapeOf st) id n
  used : ∀ id n, st.node id = some n → U id ∧ n.idsIn U
  apart : ∀ i j, i ≠ j → (st.node i).isSome = true → (st.node j).isSome = true → Apart (F i) (F j)
  apartX : ∀ i, (st.node i).isSome = true → Apart (F i) X
  mine : ∀ i, (st.node i).isSome = true → ∀ b o, F i b o → ¬ cx.Z b o ∧ (cx.M0 b o ∨ cx.w0.heap.size ≤ b)
  mineX : ∀ b o, X b o → ¬ cx.Z b o ∧ (cx.M0 b o ∨ cx.w0.heap.size ≤ b) ∧ b < w.heap.size
  one : ∀ i, one1 (ρ i) = true
  kept : Kept cx.w0 w cx.M0
  zold : ∀ b o, cx.Z b o → b < cx.w0.heap.size ∧ ¬ cx.M0 b o
  size : a.tmps.size = cx.n
  small : cx.n ≤ 10000
  defers : a.defers = []
end Go.Proofs.Ytkoljcjliihiiaa.VM

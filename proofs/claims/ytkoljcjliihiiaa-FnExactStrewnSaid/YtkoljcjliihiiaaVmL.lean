/- The interpreter 'VM': what is handed over at a call, and the frame in the middle of a call. -/
import Derived.Test.YtkoljcjliihiiaaVmK
namespace Go.Proofs.Ytkoljcjliihiiaa.VM
open Go

variable {cx : Cx} {U : Nat → Prop} {X : Cells} {ρ : Nat → Value} {F : Nat → Cells} {st : St} {sh : Shape} {V : Nat} {a : Act} {w : World}

def Emp (F : Cells) : Prop := ∀ b o, ¬ F b o

mutual
/-- A closed value stands for a value; F: the memory of its own. -/
def CR (P : Program) (w : World) (Z : Cells) : CV → Value → Cells → Prop
  | .a u, v, F => v = u ∧ Emp F
  | .sl z e es, v, F => if z then RC P w Z (.sl e es) v ∧ Emp F else DC P w Z (.sl e es) v F
  | .bx z cs, v, F => ∃ b off cur t Fc, v = .pointer (some ⟨b, off, none⟩) ∧ w.heap[b]? = some (.cells cur t (0, 0)) ∧ off + cs.length ≤ cur.size ∧ cs ≠ [] ∧ CRL P w Z cs ((cur.toList.drop off).take cs.length) Fc ∧
      (z = true → Emp Fc ∧ ∀ i, i < cs.length → Z b (off + i)) ∧ (z = false → ∀ o, off ≤ o → o < off + cs.length → ¬ Fc b o) ∧ ∀ b' o', F b' o' ↔ ((z = false ∧ b' = b ∧ off ≤ o' ∧ o' < off + cs.length) ∨ Fc b' o')
  | .st cs, v, F => ∃ us : Array Value, v = .agg us ∧ CRL P w Z cs us.toList F
  | .tp cs, v, F => ∃ us : Array Value, v = .tuple us ∧ CRL P w Z cs us.toList F
  | .fn f fs cs, v, F => ∃ (xs us : Array Value) (F1 F2 : Cells), v = .func (.func f) xs us ∧ CRL P w Z fs xs.toList F1 ∧ CRL P w Z cs us.toList F2 ∧ Apart F1 F2 ∧ ∀ b o, F b o ↔ (F1 b o ∨ F2 b o)
  | .ic t c, v, F => ∃ u, v = .iface t u ∧ CR P w Z c u F
  | .un, _, F => Emp F
def CRL (P : Program) (w : World) (Z : Cells) : List CV → List Value → Cells → Prop
  | [], vs, F => vs = [] ∧ Emp F
  | c :: cs, vs, F => ∃ v vs' F1 F2, vs = v :: vs' ∧ CR P w Z c v F1 ∧ CRL P w Z cs vs' F2 ∧ Apart F1 F2 ∧ ∀ b o, F b o ↔ (F1 b o ∨ F2 b o)
end

mutual
theorem CR.congr {P : Program} {Z F F' : Cells} (hf : ∀ b o, F' b o ↔ F b o) : ∀ {c : CV} {v : Value}, CR P w Z c v F → CR P w Z c v F'
  | .a u, v, h => by
    simp only [CR] at h ⊢
    exact ⟨h.1, fun b o hb => h.2 b o ((hf b o).1 hb)⟩
  | .sl z e es, v, h => by
    simp only [CR] at h ⊢
    split
    · rename_i hz; rw [if_pos hz] at h; exact ⟨h.1, fun b o hb => h.2 b o ((hf b o).1 hb)⟩
    · rename_i hz; rw [if_neg hz] at h; exact h.congr hf
  | .bx z cs, v, h => by
    simp only [CR] at h ⊢
    obtain ⟨b, off, cur, t, Fc, h1, h2, h3, h4, h5, h6, h7, h8⟩ := h
    exact ⟨b, off, cur, t, Fc, h1, h2, h3, h4, h5, h6, h7, fun b' o' => (hf b' o').trans (h8 b' o')⟩
  | .st cs, v, h => by
    simp only [CR] at h ⊢
    obtain ⟨us, h1, h2⟩ := h
    exact ⟨us, h1, CRL.congr hf h2⟩
  | .tp cs, v, h => by
    simp only [CR] at h ⊢
    obtain ⟨us, h1, h2⟩ := h
    exact ⟨us, h1, CRL.congr hf h2⟩
  | .fn f fs cs, v, h => by
    simp only [CR] at h ⊢
    obtain ⟨xs, us, F1, F2, h1, h2, h3, h4, h5⟩ := h
    exact ⟨xs, us, F1, F2, h1, h2, h3, h4, fun b o => (hf b o).trans (h5 b o)⟩
  | .ic t c, v, h => by
    simp only [CR] at h ⊢
    obtain ⟨u, h1, h2⟩ := h
    exact ⟨u, h1, CR.congr hf h2⟩
  | .un, v, h => by
    simp only [CR] at h ⊢
    exact fun b o hb => h b o ((hf b o).1 hb)
theorem CRL.congr {P : Program} {Z F F' : Cells} (hf : ∀ b o, F' b o ↔ F b o) : ∀ {cs : List CV} {vs : List Value}, CRL P w Z cs vs F → CRL P w Z cs vs F'
  | [], vs, h => by
    simp only [CRL] at h ⊢
    exact ⟨h.1, fun b o hb => h.2 b o ((hf b o).1 hb)⟩
  | c :: cs, vs, h => by
    simp only [CRL] at h ⊢
    obtain ⟨v, vs', F1, F2, h1, h2, h3, h4, h5⟩ := h
    exact ⟨v, vs', F1, F2, h1, h2, h3, h4, fun b o => (hf b o).trans (h5 b o)⟩
end

/-- A row of memory whose cells stay. -/
theorem row_same {w w' : World} {b off n : Nat} {cur : Array Value} {t : TypeId} (hb : w.heap[b]? = some (.cells cur t (0, 0))) (hn : 0 < n) (hs : ∀ i, i < n → SameAt w w' b (off + i)) :
    ∃ cur', w'.heap[b]? = some (.cells cur' t (0, 0)) ∧ cur'.size = cur.size ∧ (cur'.toList.drop off).take n = (cur.toList.drop off).take n := by
  obtain ⟨cur', h1, h2, _⟩ := hs 0 hn cur t (0, 0) hb
  refine ⟨cur', h1, h2, ?_⟩
  apply List.ext_getElem?
  intro j
  simp only [List.getElem?_take, List.getElem?_drop]
  split
  · rename_i hj
    obtain ⟨c2, k1, _, k3⟩ := hs j hj cur t (0, 0) hb
    rw [h1] at k1
    injection k1 with k1
    injection k1 with k1 _ _
    rw [k1]
    simpa using k3
  · rfl

mutual
theorem CR.mono {P : Program} {w w' : World} {Z Z' : Cells} (hz : ∀ b o, Z b o → SameAt w w' b o) (hzz : ∀ b o, Z b o → Z' b o) : ∀ {c : CV} {v : Value} {F : Cells}, CR P w Z c v F → (∀ b o, F b o → SameAt w w' b o) → CR P w' Z' c v F
  | .a u, v, F, h, _ => by
    simp only [CR] at h ⊢
    exact h
  | .sl z e es, v, F, h, hs => by
    simp only [CR] at h ⊢
    split
    · rename_i hzt; rw [if_pos hzt] at h; exact ⟨h.1.mono hz hzz, h.2⟩
    · rename_i hzt; rw [if_neg hzt] at h; exact h.mono hs hz hzz
  | .bx z cs, v, F, h, hs => by
    simp only [CR] at h ⊢
    obtain ⟨b, off, cur, t, Fc, h1, h2, h3, h4, h5, h6, h7, h8⟩ := h
    obtain ⟨cur', k1, k2, k3⟩ := row_same h2 (List.length_pos_iff.2 h4) (fun i hi => by
      cases z with
      | true => exact hz _ _ ((h6 rfl).2 i hi)
      | false => exact hs _ _ ((h8 _ _).2 (.inl ⟨rfl, rfl, by omega, by omega⟩)))
    refine ⟨b, off, cur', t, Fc, h1, k1, by omega, h4, ?_, fun hzt => ⟨(h6 hzt).1, fun i hi => hzz _ _ ((h6 hzt).2 i hi)⟩, h7, h8⟩
    rw [k3]
    exact CRL.mono hz hzz h5 fun b o hf => hs b o ((h8 b o).2 (.inr hf))
  | .st cs, v, F, h, hs => by
    simp only [CR] at h ⊢
    obtain ⟨us, h1, h2⟩ := h
    exact ⟨us, h1, CRL.mono hz hzz h2 hs⟩
  | .tp cs, v, F, h, hs => by
    simp only [CR] at h ⊢
    obtain ⟨us, h1, h2⟩ := h
    exact ⟨us, h1, CRL.mono hz hzz h2 hs⟩
  | .fn f fs cs, v, F, h, hs => by
    simp only [CR] at h ⊢
    obtain ⟨xs, us, F1, F2, h1, h2, h3, h4, h5⟩ := h
    exact ⟨xs, us, F1, F2, h1, CRL.mono hz hzz h2 fun b o hf => hs b o ((h5 b o).2 (.inl hf)), CRL.mono hz hzz h3 fun b o hf => hs b o ((h5 b o).2 (.inr hf)), h4, h5⟩
  | .ic t c, v, F, h, hs => by
    simp only [CR] at h ⊢
    obtain ⟨u, h1, h2⟩ := h
    exact ⟨u, h1, CR.mono hz hzz h2 hs⟩
  | .un, v, F, h, _ => by
    simp only [CR] at h ⊢
    exact h
theorem CRL.mono {P : Program} {w w' : World} {Z Z' : Cells} (hz : ∀ b o, Z b o → SameAt w w' b o) (hzz : ∀ b o, Z b o → Z' b o) : ∀ {cs : List CV} {vs : List Value} {F : Cells}, CRL P w Z cs vs F → (∀ b o, F b o → SameAt w w' b o) → CRL P w' Z' cs vs F
  | [], vs, F, h, _ => by
    simp only [CRL] at h ⊢
    exact h
  | c :: cs, vs, F, h, hs => by
    simp only [CRL] at h ⊢
    obtain ⟨v, vs', F1, F2, h1, h2, h3, h4, h5⟩ := h
    exact ⟨v, vs', F1, F2, h1, CR.mono hz hzz h2 fun b o hf => hs b o ((h5 b o).2 (.inl hf)), CRL.mono hz hzz h3 fun b o hf => hs b o ((h5 b o).2 (.inr hf)), h4, h5⟩
end

theorem CRL.length {P : Program} {Z : Cells} : ∀ {cs : List CV} {vs : List Value} {F : Cells}, CRL P w Z cs vs F → vs.length = cs.length
  | [], vs, F, h => by simp only [CRL] at h; simp [h.1]
  | c :: cs, vs, F, h => by
    simp only [CRL] at h
    obtain ⟨v, vs', F1, F2, rfl, _, h3, _, _⟩ := h
    simp [CRL.length h3]

theorem CRL.append {P : Program} {Z : Cells} : ∀ {cs ds : List CV} {vs us : List Value} {F G : Cells}, CRL P w Z cs vs F → CRL P w Z ds us G → Apart F G → CRL P w Z (cs ++ ds) (vs ++ us) (fun b o => F b o ∨ G b o)
  | [], ds, vs, us, F, G, h, h', _ => by
    simp only [CRL] at h
    obtain ⟨rfl, he⟩ := h
    exact CRL.congr (fun b o => ⟨fun h => h.resolve_left (he b o), .inr⟩) h'
  | c :: cs, ds, vs, us, F, G, h, h', ha => by
    simp only [CRL] at h
    obtain ⟨v, vs', F1, F2, rfl, h2, h3, h4, h5⟩ := h
    have ih := CRL.append h3 h' fun b o hf => ha b o ((h5 b o).2 (.inr hf))
    simp only [List.cons_append, CRL]
    refine ⟨v, vs' ++ us, F1, _, rfl, h2, ih, fun b o hf hg => ?_, fun b o => ?_⟩
    · rcases hg with hg | hg
      · exact h4 b o hf hg
      · exact ha b o ((h5 b o).2 (.inl hf)) hg
    · rw [h5 b o, or_assoc]

/-! ### the frame in the middle of a call -/
def Node.idsOk (U : Nat → Prop) (V : Nat) : Node → Prop
  | .bx _ cs => idsInL U cs
  | .sl _ ver _ _ => ver = 0 ∨ U (ver - 1) ∨ ver = V

/-- As G, but the slices' shapes are told apart from the nodes: of a slice that was handed over the shape is still known, and its version is V, which nobody knows. -/
structure GS (cx : Cx) (U : Nat → Prop) (X : Cells) (ρ : Nat → Value) (F : Nat → Cells) (st : St) (sh : Shape) (V : Nat) (a : Act) (w : World) : Prop where
  slots : ∀ t, TR cx.P w cx.Z ρ F sh (st.slot t) (cx.val a.tmps t)
  ids : ∀ t, idsIn U (st.slot t)
  nodes : ∀ id n, st.node id = some n → NR cx.P w cx.Z ρ F sh id n
  used : ∀ id n, st.node id = some n → U id ∧ n.idsOk U V
  apart : ∀ i j, i ≠ j → (st.node i).isSome = true → (st.node j).isSome = true → Apart (F i) (F j)
  apartX : ∀ i, (st.node i).isSome = true → Apart (F i) X
  mine : ∀ i, (st.node i).isSome = true → ∀ b o, F i b o → ¬ cx.Z b o ∧ (cx.M0 b o ∨ cx.w0.heap.size ≤ b)
  mineX : ∀ b o, X b o → ¬ cx.Z b o ∧ (cx.M0 b o ∨ cx.w0.heap.size ≤ b) ∧ b < w.heap.size
  one : ∀ i, one1 (ρ i) = true
  kept : Kept cx.w0 w cx.M0
  zold : ∀ b o, cx.Z b o → b < cx.w0.heap.size ∧ ¬ cx.M0 b o
  size : a.tmps.size = cx.n
  small : cx.n ≤ 10000
  defers : a.defers = []
  agree : ∀ id n, st.node id = some n → sh id = shapeOf st id
  dead : ∀ id, st.node id = none → ∀ ver e l, sh id = some (ver, e, l) → ver = V
  fresh : V ≠ 0 ∧ ¬ U (V - 1)

theorem Node.idsOk_mono {U U' : Nat → Prop} (h : ∀ i, U i → U' i) {n : Node} (hn : n.idsOk U V) : n.idsOk U' V := by
  cases n with
  | bx z cs => exact idsInL.mono h hn
  | sl => exact hn.imp id (Or.imp (h _) id)

/-- Of a node whose version is known nothing is lost. -/
theorem NR.mono' {P : Program} {w w' : World} {Z : Cells} {ρ ρ' : Nat → Value} {F F' : Nat → Cells} {sh sh' : Shape} {U : Nat → Prop} {id : Nat} {n : Node}
    (h : NR P w Z ρ F sh id n) (hU : U id) (hUn : n.idsOk U V) (hz : ∀ b o, Z b o → SameAt w w' b o) (hρ : ∀ id, U id → ρ' id = ρ id) (hsh : ShapeKept U sh sh')
    (hn : ∀ id, U id → ∀ ver e l, sh' id = some (ver, e, l) → (ver = 0 ∨ U (ver - 1)) → NavKept P w w' (F id) (F' id) (ρ id))
    (hF : ∀ b o, F' id b o ↔ F id b o) (hs : ∀ b o, F id b o → SameAt w w' b o) : NR P w' Z ρ' F' sh' id n := by
  cases n with
  | bx z cs => exact h.mono hU hUn hz hρ hsh hn hF hs
  | sl q ver e es =>
    cases h with
    | sl _ _ _ _ h =>
      refine .sl q ver e es ?_
      rw [hρ id hU]
      exact (h.mono hs hz fun _ _ h => h).congr hF

theorem GS.inside (h : GS cx U X ρ F st sh V a w) {i : Nat} (hi : (st.node i).isSome = true) : ∀ b o, F i b o → b < w.heap.size := by
  intro b o hf
  cases hn : st.node i with
  | none => rw [hn] at hi; cases hi
  | some n =>
    have hN := h.nodes i n hn
    cases hN with
    | bx z cs b' off cur t hr hb hsz hne hc hFi hzz => obtain ⟨_, rfl, _⟩ := (hFi b o).1 hf; exact (Array.getElem?_eq_some_iff.1 hb).1
    | sl q ver e es hd => exact hd.inside b o hf

theorem GS.known (h : GS cx U X ρ F st sh V a w) {id ver e l : Nat} (hs : sh id = some (ver, e, l)) (hv : ver = 0 ∨ U (ver - 1)) : (st.node id).isSome = true := by
  cases hn : st.node id with
  | some n => rfl
  | none =>
    have := h.dead id hn ver e l hs
    subst this
    rcases hv with hv | hv
    · exact absurd hv h.fresh.1
    · exact absurd hv h.fresh.2

theorem GS.world (h : GS cx U X ρ F st sh V a w) {w' : World} {M X' : Cells} (hk : Kept w w' M) (hz : ∀ b o, M b o → ¬ cx.Z b o) (hm : ∀ b o, M b o → b < cx.w0.heap.size → cx.M0 b o)
    (ha : ∀ i, (st.node i).isSome = true → Apart (F i) M) (hX : ∀ b o, X' b o → X b o ∨ (w.heap.size ≤ b ∧ b < w'.heap.size)) : GS cx U X' ρ F st sh V a w' := by
  have hzs := zsame cx hk hz
  have hkey : ∀ id, U id → ∀ ver e l, sh id = some (ver, e, l) → (ver = 0 ∨ U (ver - 1)) → NavKept cx.P w w' (F id) (F id) (ρ id) :=
    fun id _ ver e l hs hv => .of hk.ty fun b o hf => ⟨hf, fun y hy _ => (hk.same (ha id (h.known hs hv) b o hf)).cell hy⟩
  refine ⟨fun t => (h.slots t).mono (h.ids t) hzs (fun _ _ => rfl) (.refl _ _) hkey, h.ids, fun id n hn => ?_, h.used, h.apart, ?_, h.mine, ?_, h.one, h.kept.trans hk hm, h.zold, h.size, h.small, h.defers, h.agree, h.dead, h.fresh⟩
  · exact (h.nodes id n hn).mono' (h.used id n hn).1 (h.used id n hn).2 hzs (fun _ _ => rfl) (.refl _ _) hkey (fun _ _ => Iff.rfl)
      fun b o hf => hk.same (ha id (by rw [hn]; rfl) b o hf)
  · intro i hi b o hf hx
    rcases hX b o hx with hx | hx
    · exact h.apartX i hi b o hf hx
    · exact absurd (h.inside hi b o hf) (by omega)
  · intro b o hx
    rcases hX b o hx with hx | hx
    · obtain ⟨h1, h2, h3⟩ := h.mineX b o hx
      exact ⟨h1, h2, Nat.lt_of_lt_of_le h3 hk.size⟩
    · have := h.kept.size
      exact ⟨fun hzz => by have := (h.zold b o hzz).1; omega, .inr (by omega), hx.2⟩

/-- One node is made, changed or taken away. -/
theorem GS.change (h : GS cx U X ρ F st sh V a w) {U' : Nat → Prop} {id : Nat} {o : Option Node} {v' : Value} {Fn X' : Cells} {sh' : Shape}
    (hU' : ∀ i, U i → U' i) (hfr : ¬ U' (V - 1)) (hv : U id → v' = ρ id) (hv1 : one1 v' = true) (hsh : ShapeKept U sh sh')
    (hnav : U id → ∀ ver e l, sh' id = some (ver, e, l) → (ver = 0 ∨ U (ver - 1)) → NavKept cx.P w w (F id) Fn (ρ id))
    (hn : ∀ n, o = some n → NR cx.P w cx.Z (upd ρ id v') (upd F id Fn) sh' id n ∧ U' id ∧ n.idsOk U' V)
    (hf : o ≠ none → (∀ b o, Fn b o → ¬ cx.Z b o ∧ (cx.M0 b o ∨ cx.w0.heap.size ≤ b)) ∧ (∀ i, i ≠ id → (st.node i).isSome = true → Apart (F i) Fn) ∧ Apart Fn X')
    (hX : ∀ b o, X' b o → ¬ cx.Z b o ∧ (cx.M0 b o ∨ cx.w0.heap.size ≤ b) ∧ b < w.heap.size) (hXa : ∀ i, i ≠ id → (st.node i).isSome = true → Apart (F i) X')
    (hag : ∀ n, o = some n → sh' id = shapeOf (st.setNode id o) id) (hag' : ∀ j, j ≠ id → sh' j = sh j) (hdead : o = none → ∀ ver e l, sh' id = some (ver, e, l) → ver = V) :
    GS cx U' X' (upd ρ id v') (upd F id Fn) (st.setNode id o) sh' V a w := by
  have hzs : ∀ b o, cx.Z b o → SameAt w w b o := fun b o _ cur _ _ hb => ⟨cur, hb, rfl, rfl⟩
  have hρ : ∀ j, U j → upd ρ id v' j = ρ j := by
    intro j hj
    by_cases e : j = id
    · subst e; rw [upd_same]; exact hv hj
    · exact upd_ne _ _ e
  have hkey : ∀ j, U j → ∀ ver e l, sh' j = some (ver, e, l) → (ver = 0 ∨ U (ver - 1)) → NavKept cx.P w w (F j) (upd F id Fn j) (ρ j) := by
    intro j hj ver el l hs hver
    by_cases e : j = id
    · subst e; rw [upd_same]; exact hnav hj ver el l hs hver
    · rw [upd_ne _ _ e]; exact fun _ _ h => h
  have hsome : ∀ j, j ≠ id → ((st.setNode id o).node j).isSome = true → (st.node j).isSome = true := by
    intro j e hj; rwa [St.setNode_node, if_neg (fun x => e x.symm)] at hj
  have hid : ((st.setNode id o).node id).isSome = true → o ≠ none := by
    intro hj e; rw [St.setNode_node, if_pos rfl, e] at hj; cases hj
  refine ⟨fun t => (h.slots t).mono (h.ids t) hzs hρ hsh hkey, fun t => (h.ids t).mono hU', ?_, ?_, ?_, ?_, ?_, hX, ?_, h.kept, h.zold, h.size, h.small, h.defers, ?_, ?_, h.fresh.1, hfr⟩
  · intro j n hj
    rw [St.setNode_node] at hj
    by_cases e : id = j
    · subst e; rw [if_pos rfl] at hj; exact (hn n hj).1
    · rw [if_neg e] at hj
      have hUj := (h.used j n hj).1
      exact (h.nodes j n hj).mono' hUj (h.used j n hj).2 hzs hρ hsh hkey (fun b o => by rw [upd_ne _ _ (fun x => e x.symm)])
        fun b o hf cur _ _ hb => ⟨cur, hb, rfl, rfl⟩
  · intro j n hj
    rw [St.setNode_node] at hj
    by_cases e : id = j
    · subst e; rw [if_pos rfl] at hj; exact (hn n hj).2
    · rw [if_neg e] at hj
      exact ⟨hU' j (h.used j n hj).1, Node.idsOk_mono hU' (h.used j n hj).2⟩
  · intro i j hij hi hj
    by_cases ei : i = id
    · subst ei
      rw [upd_same, upd_ne _ _ (fun x => hij x.symm)]
      exact ((hf (hid hi)).2.1 j (fun x => hij x.symm) (hsome j (fun x => hij x.symm) hj)).symm
    · by_cases ej : j = id
      · subst ej
        rw [upd_same, upd_ne _ _ ei]
        exact (hf (hid hj)).2.1 i ei (hsome i ei hi)
      · rw [upd_ne _ _ ei, upd_ne _ _ ej]
        exact h.apart i j hij (hsome i ei hi) (hsome j ej hj)
  · intro i hi
    by_cases ei : i = id
    · subst ei; rw [upd_same]; exact (hf (hid hi)).2.2
    · rw [upd_ne _ _ ei]; exact hXa i ei (hsome i ei hi)
  · intro i hi b o hb
    by_cases ei : i = id
    · subst ei; rw [upd_same] at hb; exact (hf (hid hi)).1 b o hb
    · rw [upd_ne _ _ ei] at hb; exact h.mine i (hsome i ei hi) b o hb
  · intro i
    by_cases ei : i = id
    · subst ei; rw [upd_same]; exact hv1
    · rw [upd_ne _ _ ei]; exact h.one i
  · intro j n hj
    by_cases e : j = id
    · subst e
      rw [St.setNode_node, if_pos rfl] at hj
      exact hag n hj
    · rw [hag' j e, shape_set_ne st o e]
      rw [St.setNode_node, if_neg (fun x => e x.symm)] at hj
      exact h.agree j n hj
  · intro j hj ver el l hs
    by_cases e : j = id
    · subst e
      rw [St.setNode_node, if_pos rfl] at hj
      exact hdead hj ver el l hs
    · rw [hag' j e] at hs
      rw [St.setNode_node, if_neg (fun x => e x.symm)] at hj
      exact h.dead j hj ver el l hs

def dropSh (sh : Shape) (V id : Nat) : Shape := fun j => if j = id then (sh j).map fun x => (V, x.2) else sh j

theorem dropSh_kept (hfr : V ≠ 0 ∧ ¬ U (V - 1)) (id : Nat) : ShapeKept U sh (dropSh sh V id) := by
  intro j _ ver e l hs
  unfold dropSh at hs
  split at hs
  · obtain ⟨⟨v0, e0, l0⟩, h1, h2⟩ := Option.map_eq_some_iff.1 hs
    cases h2
    refine ⟨v0, h1, fun hv => ?_⟩
    rcases hv with hv | hv
    · exact absurd hv hfr.1
    · exact absurd hv hfr.2
  · exact ⟨ver, hs, fun _ => rfl⟩

/-- A node is handed over. -/
theorem GS.drop (h : GS cx U X ρ F st sh V a w) {id : Nat} {n : Node} (hn : st.node id = some n) :
    GS cx U (fun b o => X b o ∨ F id b o) ρ F (st.setNode id none) (dropSh sh V id) V a w := by
  have hs : (st.node id).isSome = true := by rw [hn]; rfl
  have := h.change (U' := U) (id := id) (o := none) (v' := ρ id) (Fn := F id) (X' := fun b o => X b o ∨ F id b o) (sh' := dropSh sh V id) (fun _ h => h) h.fresh.2 (fun _ => rfl) (h.one id) (dropSh_kept h.fresh id)
    (fun _ _ _ _ _ _ _ _ hf => hf) (fun n hn => by cases hn) (fun hne => absurd rfl hne)
    (by
      intro b o hx
      rcases hx with hx | hx
      · exact h.mineX b o hx
      · exact ⟨(h.mine id hs b o hx).1, (h.mine id hs b o hx).2, h.inside hs b o hx⟩)
    (by
      intro i hi his b o hf hx
      rcases hx with hx | hx
      · exact h.apartX i his b o hf hx
      · exact h.apart i id hi his hs b o hf hx)
    (fun n hn => by cases hn) (fun j hj => by unfold dropSh; rw [if_neg hj])
    (by
      intro _ ver e l hs
      unfold dropSh at hs
      rw [if_pos rfl] at hs
      obtain ⟨⟨v0, e0, l0⟩, _, h2⟩ := Option.map_eq_some_iff.1 hs
      cases h2; rfl)
  rw [upd_self, upd_self] at this
  exact this

theorem GS.less (h : GS cx U X ρ F st sh V a w) {X' : Cells} (hx : ∀ b o, X' b o → X b o) : GS cx U X' ρ F st sh V a w :=
  ⟨h.slots, h.ids, h.nodes, h.used, h.apart, fun i hi b o hf hb => h.apartX i hi b o hf (hx b o hb), h.mine, fun b o hb => h.mineX b o (hx b o hb), h.one, h.kept, h.zold, h.size, h.small, h.defers, h.agree, h.dead, h.fresh⟩

/-- A node is made of memory that is held beside: a new one, or one that was handed over. -/
theorem GS.place (h : GS cx U X ρ F st sh V a w) {id : Nat} {n : Node} {v' : Value} {Fn X' : Cells} {sh' : Shape} (hnone : st.node id = none) (hidV : id ≠ V - 1) (hv : U id → v' = ρ id) (hv1 : one1 v' = true)
    (hag : sh' id = shapeOf (st.setNode id (some n)) id) (hag' : ∀ j, j ≠ id → sh' j = sh j) (hold : U id → sh' id = sh id ∨ sh' id = none)
    (hFn : ∀ b o, Fn b o → X b o) (hX' : ∀ b o, X' b o → X b o) (hap : Apart Fn X') (hN : NR cx.P w cx.Z (upd ρ id v') (upd F id Fn) sh' id n) (hi : n.idsOk (fun i => U i ∨ i = id) V) :
    GS cx (fun i => U i ∨ i = id) X' (upd ρ id v') (upd F id Fn) (st.setNode id (some n)) sh' V a w := by
  refine h.change (fun _ h => .inl h) (fun hu => hu.elim h.fresh.2 fun e => hidV e.symm) hv hv1 ?_ ?_ (fun n' hn' => by cases hn'; exact ⟨hN, .inr rfl, hi⟩)
    (fun _ => ⟨fun b o hf => ⟨(h.mineX b o (hFn b o hf)).1, (h.mineX b o (hFn b o hf)).2.1⟩, fun i _ his b o hf hfn => h.apartX i his b o hf (hFn b o hfn), hap⟩)
    (fun b o hx => h.mineX b o (hX' b o hx)) (fun i _ his b o hf hx => h.apartX i his b o hf (hX' b o hx)) (fun n' hn' => by cases hn'; exact hag) hag' (fun hh => by cases hh)
  · intro j hj ver e l hs
    by_cases ej : j = id
    · subst ej
      rcases hold hj with hh | hh
      · exact ⟨ver, hh ▸ hs, fun _ => rfl⟩
      · rw [hh] at hs; cases hs
    · rw [hag' j ej] at hs; exact ⟨ver, hs, fun _ => rfl⟩
  · intro hu ver e l hs hver
    rcases hold hu with hh | hh
    · rw [hh] at hs
      have := h.known hs hver
      rw [hnone] at this; cases this
    · rw [hh] at hs; cases hs

theorem G.toGS (h : G cx U X ρ F st a w) (hV : V ≠ 0 ∧ ¬ U (V - 1)) : GS cx U X ρ F st (shapeOf st) V a w :=
  ⟨h.slots, h.ids, h.nodes, fun id n hn => ⟨(h.used id n hn).1, by
    have := (h.used id n hn).2
    cases n with
    | bx => exact this
    | sl => exact this.imp (fun h => h) .inl⟩, h.apart, h.apartX, h.mine, h.mineX, h.one, h.kept, h.zold, h.size, h.small, h.defers, fun _ _ _ => rfl,
    fun id hn ver e l hs => (by unfold shapeOf at hs; rw [hn] at hs; cases hs), hV⟩

theorem GS.shape (h : GS cx U X ρ F st sh V a w) : ShapeKept U sh (shapeOf st) := by
  intro j _ ver e l hs
  cases hn : st.node j with
  | none => unfold shapeOf at hs; rw [hn] at hs; cases hs
  | some n => rw [← h.agree j n hn] at hs; exact ⟨ver, hs, fun _ => rfl⟩

theorem GS.toG (h : GS cx U X ρ F st sh V a w) {U' : Nat → Prop} (hU : ∀ i, U i → U' i) (hV : U' (V - 1)) : G cx U' X ρ F st a w := by
  have same : ∀ b o, cx.Z b o → SameAt w w b o := fun b o _ cur _ _ hb => ⟨cur, hb, rfl, rfl⟩
  have hk : ∀ j, U j → ∀ ver e l, shapeOf st j = some (ver, e, l) → (ver = 0 ∨ U (ver - 1)) → NavKept cx.P w w (F j) (F j) (ρ j) :=
    fun _ _ _ _ _ _ _ _ _ h => h
  refine ⟨fun t => (h.slots t).mono (h.ids t) same (fun _ _ => rfl) h.shape hk, fun t => (h.ids t).mono hU, fun id n hn => ?_, fun id n hn => ⟨hU id (h.used id n hn).1, ?_⟩, h.apart, h.apartX, h.mine, h.mineX, h.one, h.kept, h.zold, h.size, h.small, h.defers⟩
  · exact (h.nodes id n hn).mono' (h.used id n hn).1 (h.used id n hn).2 same (fun _ _ => rfl) h.shape hk (fun _ _ => Iff.rfl) fun b o _ cur _ _ hb => ⟨cur, hb, rfl, rfl⟩
  · have := (h.used id n hn).2
    cases n with
    | bx z cs => exact idsInL.mono hU this
    | sl q ver e es =>
      rcases this with h1 | h1 | h1
      · exact .inl h1
      · exact .inr (hU _ h1)
      · exact .inr (h1 ▸ hV)

end Go.Proofs.Ytkoljcjliihiiaa.VM

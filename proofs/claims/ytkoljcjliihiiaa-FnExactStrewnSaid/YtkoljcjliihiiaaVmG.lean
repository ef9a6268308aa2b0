/- The interpreter 'VM': a loop's head: the frame in one form stands for the same world. -/
import Derived.Test.YtkoljcjliihiiaaVmY
namespace Go.Proofs.Ytkoljcjliihiiaa.VM
open Go

variable {cx : Cx} {U : Nat → Prop} {ρ ρ' : Nat → Value} {F F' : Nat → Cells} {st : St} {sh sh' : Shape} {a : Act} {w : World}

theorem look_mem {α : Type} : ∀ {l : List (Nat × α)} {k : Nat} {v : α}, look l k = some v → (k, v) ∈ l
  | [], _, _, h => by cases h
  | (j, x) :: l, k, v, h => by
    simp only [look] at h
    split at h
    · rename_i hj; cases h; subst hj; simp
    · exact List.mem_cons_of_mem _ (look_mem h)

theorem addNew_nodup : ∀ (xs acc : List Nat), acc.Nodup → (addNew acc xs).Nodup
  | [], acc, h => h
  | x :: xs, acc, h => by
    simp only [addNew]
    split
    · exact addNew_nodup xs acc h
    · rename_i hx
      refine addNew_nodup xs _ ?_
      rw [List.nodup_append]
      refine ⟨h, by simp, ?_⟩
      intro y hy z hz
      simp only [List.mem_singleton] at hz
      subst hz
      rintro rfl
      exact hx (by simpa using hy)

theorem reach_nodup (s : St) : ∀ (k i : Nat) (acc : List Nat), acc.Nodup → (reach s k i acc).Nodup
  | 0, i, acc, h => h
  | k + 1, i, acc, h => by
    simp only [reach]
    split
    · exact h
    · split
      · exact reach_nodup s k _ _ (addNew_nodup _ _ h)
      · exact reach_nodup s k _ _ h

theorem place_get : ∀ {l : List Nat} {x k : Nat}, place l x = some k → l[k]? = some x
  | [], x, k, h => by cases h
  | y :: r, x, k, h => by
    simp only [place] at h
    split at h
    · rename_i hy; cases h; simp [hy]
    · obtain ⟨j, h1, rfl⟩ := Option.map_eq_some_iff.1 h
      simpa using place_get h1

theorem renL_eq (l : List Nat) : ∀ (cs : List TV), renL l cs = cs.map (ren l)
  | [] => rfl
  | c :: cs => by simp [renL, renL_eq l cs]

theorem tr_ren {P : Program} {Z : Cells} {l : List Nat} (hρ : ∀ k id, l[k]? = some id → ρ' k = ρ id) (hsh : ∀ k id ver e n, l[k]? = some id → sh' k = some (ver, e, n) → ∃ ver0, sh id = some (ver0, e, n)) {c : TV} {v : Value}
    (h : TR P w Z ρ F sh c v) : TR P w Z ρ' F' sh' (ren l c) v := by
  induction h with
  | a v => exact .a v
  | nl e m hm => exact .nl e m hm
  | rf id =>
    simp only [ren]
    split
    · rename_i k hk
      rw [← hρ k id (place_get hk)]
      exact .rf k
    · exact .un _
  | ri id ver p v h1 h => exact .un _
  | sb id lo n v h1 h =>
    simp only [ren]
    split
    · rename_i k hk
      refine .sb k lo n v h1 fun ver e len hs => ?_
      obtain ⟨ver0, hs0⟩ := hsh k id ver e len (place_get hk) hs
      rw [hρ k id (place_get hk)]
      exact h ver0 e len hs0
    · exact .un _
  | ad id o b off h =>
    simp only [ren]
    split
    · rename_i k hk
      exact .ad k o b off (by rw [hρ k id (place_get hk)]; exact h)
    · exact .un _
  | ea id i m o v h1 h =>
    simp only [ren]
    split
    · rename_i k hk
      refine .ea k i m o v h1 fun ver e len hs => ?_
      obtain ⟨ver0, hs0⟩ := hsh k id ver e len (place_get hk) hs
      rw [hρ k id (place_get hk)]
      exact h ver0 e len hs0
    · exact .un _
  | ei id ver p i m o v h1 h => exact .un _
  | sz e es v h => exact .sz e es v h
  | ez cs o x hx vs hc => exact .ez cs o x hx vs hc
  | st cs us hl h ih =>
    simp only [ren, renL_eq]
    refine .st _ us (by simpa using hl) fun i c u hi hu => ?_
    rw [List.getElem?_map] at hi
    obtain ⟨c0, h1, rfl⟩ := Option.map_eq_some_iff.1 hi
    exact ih i c0 u h1 hu
  | tp cs us hl h ih =>
    simp only [ren, renL_eq]
    refine .tp _ us (by simpa using hl) fun i c u hi hu => ?_
    rw [List.getElem?_map] at hi
    obtain ⟨c0, h1, rfl⟩ := Option.map_eq_some_iff.1 hi
    exact ih i c0 u h1 hu
  | fn f fs cs xs us hx hl hf h ihf ih =>
    simp only [ren, renL_eq]
    refine .fn f _ _ xs us (by simpa using hx) (by simpa using hl) (fun i c u hi hu => ?_) fun i c u hi hu => ?_
    · rw [List.getElem?_map] at hi
      obtain ⟨c0, h1, rfl⟩ := Option.map_eq_some_iff.1 hi
      exact ihf i c0 u h1 hu
    · rw [List.getElem?_map] at hi
      obtain ⟨c0, h1, rfl⟩ := Option.map_eq_some_iff.1 hi
      exact ih i c0 u h1 hu
  | ic t c u h ih => exact .ic t _ u ih
  | un v => exact .un v

theorem ids_place {l : List Nat} {n : Nat} (hn : l.length ≤ n) {id k : Nat} (hk : place l id = some k) : k < n :=
  Nat.lt_of_lt_of_le (List.getElem?_eq_some_iff.1 (place_get hk)).1 hn

mutual
theorem ids_ren {l : List Nat} {n : Nat} (hn : l.length ≤ n) : ∀ (c : TV), idsIn (fun k => k < n) (ren l c)
  | .a _ => trivial
  | .nl _ => trivial
  | .rf id => by
    simp only [ren]
    split
    · rename_i k hk; exact ids_place hn hk
    · trivial
  | .ri _ _ _ => trivial
  | .sb id _ _ => by
    simp only [ren]
    split
    · rename_i k hk; exact ids_place hn hk
    · trivial
  | .ad id _ => by
    simp only [ren]
    split
    · rename_i k hk; exact ids_place hn hk
    · trivial
  | .ea id _ _ _ => by
    simp only [ren]
    split
    · rename_i k hk; exact ids_place hn hk
    · trivial
  | .ei _ _ _ _ _ _ => trivial
  | .sz _ _ => trivial
  | .ez _ _ => trivial
  | .st cs => ids_renL hn cs
  | .tp cs => ids_renL hn cs
  | .fn _ fs cs => ⟨ids_renL hn fs, ids_renL hn cs⟩
  | .ic _ c => ids_ren hn c
  | .un => trivial
theorem ids_renL {l : List Nat} {n : Nat} (hn : l.length ≤ n) : ∀ (cs : List TV), idsInL (fun k => k < n) (renL l cs)
  | [] => trivial
  | c :: cs => ⟨ids_ren hn c, ids_renL hn cs⟩
end

theorem ren_nl {l : List Nat} {c : TV} {e : Nat} (h : ren l c = .nl e) : c = .nl e := by
  cases c <;> simp only [ren] at h <;> first | exact h | (split at h <;> cases h) | cases h

/-- A value, or an empty slice of the frame's own in the place of 'nil'. -/
def NilOr (lo hi : Nat) (c c' : TV) : Prop := c' = c ∨ ∃ e id, c = .nl e ∧ c' = .rf id ∧ lo ≤ id ∧ id < hi

theorem NilOr.mono {lo hi lo' hi' : Nat} (h1 : lo' ≤ lo) (h2 : hi ≤ hi') {c c' : TV} (h : NilOr lo hi c c') : NilOr lo' hi' c c' := by
  rcases h with h | ⟨e, id, h3, h4, h5, h6⟩
  · exact .inl h
  · exact .inr ⟨e, id, h3, h4, by omega, by omega⟩

theorem ownNils_spec : ∀ (xs : List TV) (b : Nat), (ownNils b xs).1.length = xs.length ∧ b ≤ (ownNils b xs).2.2 ∧ (∀ y ∈ (ownNils b xs).2.1, b ≤ y.1 ∧ y.1 < (ownNils b xs).2.2 ∧ ∃ e, y.2 = some (.sl false 0 e []) ∧ TV.nl e ∈ xs) ∧
    ∀ (i : Nat) c', (ownNils b xs).1[i]? = some c' → ∃ c, xs[i]? = some c ∧ NilOr b (ownNils b xs).2.2 c c'
  | [], b => by simp [ownNils]
  | x :: xs, b => by
    have other : ∀ (_ : ∀ e, x ≠ .nl e), ownNils b (x :: xs) = (x :: (ownNils b xs).1, (ownNils b xs).2.1, (ownNils b xs).2.2) := by
      intro hx
      cases x <;> first | rfl | exact absurd rfl (hx _)
    by_cases hx : ∃ e, x = .nl e
    · obtain ⟨e, rfl⟩ := hx
      obtain ⟨h1, h2, h3, h4⟩ := ownNils_spec xs (b + 1)
      simp only [ownNils]
      refine ⟨by simp [h1], by omega, ?_, ?_⟩
      · intro y hy
        rcases List.mem_cons.1 hy with rfl | hy
        · exact ⟨Nat.le_refl _, by omega, e, rfl, by simp⟩
        · obtain ⟨k1, k2, e', k3, k4⟩ := h3 y hy
          exact ⟨by omega, k2, e', k3, by simp [k4]⟩
      · intro i c' hi
        cases i with
        | zero => simp only [List.getElem?_cons_zero, Option.some.injEq] at hi; subst hi; exact ⟨.nl e, by simp, .inr ⟨e, b, rfl, rfl, Nat.le_refl _, by omega⟩⟩
        | succ i =>
          obtain ⟨c, k1, k2⟩ := h4 i c' (by simpa using hi)
          exact ⟨c, by simpa using k1, k2.mono (by omega) (Nat.le_refl _)⟩
    · have hx' : ∀ e, x ≠ .nl e := fun e he => hx ⟨e, he⟩
      obtain ⟨h1, h2, h3, h4⟩ := ownNils_spec xs b
      rw [other hx']
      refine ⟨by simp [h1], h2, ?_, ?_⟩
      · intro y hy
        obtain ⟨k1, k2, e', k3, k4⟩ := h3 y hy
        exact ⟨k1, k2, e', k3, by simp [k4]⟩
      · intro i c' hi
        cases i with
        | zero => simp only [List.getElem?_cons_zero, Option.some.injEq] at hi; subst hi; exact ⟨x, by simp, .inl rfl⟩
        | succ i =>
          obtain ⟨c, k1, k2⟩ := h4 i c' (by simpa using hi)
          exact ⟨c, by simpa using k1, k2⟩

def NodeNil (lo hi : Nat) (o o' : Option Node) : Prop := o' = o ∨ ∃ cs cs', o = some (.bx false cs) ∧ o' = some (.bx false cs') ∧ cs'.length = cs.length ∧ ∀ (i : Nat) c', cs'[i]? = some c' → ∃ c, cs[i]? = some c ∧ NilOr lo hi c c'

theorem NodeNil.mono {lo hi lo' hi' : Nat} (h1 : lo' ≤ lo) (h2 : hi ≤ hi') {o o' : Option Node} (h : NodeNil lo hi o o') : NodeNil lo' hi' o o' := by
  rcases h with h | ⟨cs, cs', h3, h4, h5, h6⟩
  · exact .inl h
  · exact .inr ⟨cs, cs', h3, h4, h5, fun i c' hi => let ⟨c, k1, k2⟩ := h6 i c' hi; ⟨c, k1, k2.mono h1 h2⟩⟩

theorem ownNilsN_spec : ∀ (xs : List (Nat × Option Node)) (b : Nat), b ≤ (ownNilsN b xs).2 ∧ ∀ y ∈ (ownNilsN b xs).1, (∃ o, (y.1, o) ∈ xs ∧ NodeNil b (ownNilsN b xs).2 o y.2) ∨
    (b ≤ y.1 ∧ y.1 < (ownNilsN b xs).2 ∧ ∃ e, y.2 = some (.sl false 0 e []) ∧ ∃ id cs, (id, some (Node.bx false cs)) ∈ xs ∧ TV.nl e ∈ cs)
  | [], b => by simp [ownNilsN]
  | (id, o) :: xs, b => by
    have other : ∀ (_ : ∀ cs, o ≠ some (.bx false cs)), ownNilsN b ((id, o) :: xs) = ((id, o) :: (ownNilsN b xs).1, (ownNilsN b xs).2) := by
      intro hx
      cases o with
      | none => rfl
      | some n =>
        cases n with
        | bx z cs => cases z <;> first | rfl | exact absurd rfl (hx _)
        | sl _ _ _ _ => rfl
    by_cases hx : ∃ cs, o = some (.bx false cs)
    · obtain ⟨cs, rfl⟩ := hx
      obtain ⟨h1, h2, h3, h4⟩ := ownNils_spec cs b
      obtain ⟨k1, k2⟩ := ownNilsN_spec xs (ownNils b cs).2.2
      simp only [ownNilsN]
      refine ⟨by omega, ?_⟩
      intro y hy
      simp only [List.cons_append, List.mem_cons, List.mem_append] at hy
      rcases hy with rfl | hy | hy
      · exact .inl ⟨some (.bx false cs), by simp, .inr ⟨cs, _, rfl, rfl, h1, fun i c' hi => let ⟨c, m1, m2⟩ := h4 i c' hi; ⟨c, m1, m2.mono (Nat.le_refl _) k1⟩⟩⟩
      · obtain ⟨m1, m2, e, m3, m4⟩ := h3 y hy
        exact .inr ⟨m1, by omega, e, m3, id, cs, by simp, m4⟩
      · rcases k2 y hy with ⟨o, m1, m2⟩ | ⟨m1, m2, e, m3, id', cs', m4, m5⟩
        · exact .inl ⟨o, by simp [m1], m2.mono h2 (Nat.le_refl _)⟩
        · exact .inr ⟨by omega, m2, e, m3, id', cs', by simp [m4], m5⟩
    · have hx' : ∀ cs, o ≠ some (.bx false cs) := fun cs hc => hx ⟨cs, hc⟩
      obtain ⟨k1, k2⟩ := ownNilsN_spec xs b
      rw [other hx']
      refine ⟨k1, ?_⟩
      intro y hy
      rcases List.mem_cons.1 hy with rfl | hy
      · exact .inl ⟨o, by simp, .inl rfl⟩
      · rcases k2 y hy with ⟨o', m1, m2⟩ | ⟨m1, m2, e, m3, id', cs', m4, m5⟩
        · exact .inl ⟨o', by simp [m1], m2⟩
        · exact .inr ⟨m1, m2, e, m3, id', cs', by simp [m4], m5⟩

theorem look_zip {α : Type} : ∀ {ks : List Nat} {vs : List α} {t : Nat} {v : α}, look (ks.zip vs) t = some v → ∃ i : Nat, ks[i]? = some t ∧ vs[i]? = some v
  | [], vs, t, v, h => by simp [look] at h
  | k :: ks, [], t, v, h => by simp [look] at h
  | k :: ks, x :: vs, t, v, h => by
    simp only [List.zip_cons_cons, look] at h
    split at h
    · rename_i hk; cases h; subst hk; exact ⟨0, by simp, by simp⟩
    · obtain ⟨i, h1, h2⟩ := look_zip h
      exact ⟨i + 1, by simpa using h1, by simpa using h2⟩

theorem tr_nl {P : Program} {Z : Cells} {e : Nat} {v : Value} (h : TR P w Z ρ F sh (.nl e) v) : ∃ m, sizeT P e = some m := by
  cases h with
  | nl _ m hm => exact ⟨m, hm⟩

theorem norm_ok (h : G cx U (fun _ _ => False) ρ F st a w) (hq : Qok st) (live : List Nat) :
    (∃ ρ' F', G cx (fun k => k < (norm live st).next) (fun _ _ => False) ρ' F' (norm live st) a w) ∧ Qok (norm live st) := by
  let l := reach st 200 0 (addNew [] (refsL (live.map st.slot)))
  let slots := live.map fun t => ren l (st.slot t)
  let nodes := l.zipIdx.map fun (id, k) => (k, (st.node id).map (renN l))
  let x := ownNils l.length slots
  let y := ownNilsN x.2.2 nodes
  have hnd : l.Nodup := reach_nodup _ _ _ _ (addNew_nodup _ _ (by simp))
  have hnorm : norm live st = { slots := live.zip x.1, nodes := y.1 ++ x.2.1, next := y.2 } := rfl
  obtain ⟨x1, x2, x3, x4⟩ := ownNils_spec slots l.length
  obtain ⟨y1, y2⟩ := ownNilsN_spec nodes x.2.2
  change l.length ≤ x.2.2 at x2
  change x.2.2 ≤ y.2 at y1
  have nodes_mem : ∀ k o, (k, o) ∈ nodes → ∃ id, l[k]? = some id ∧ o = (st.node id).map (renN l) := by
    intro k o hm
    obtain ⟨z, hz, he⟩ := List.mem_map.1 hm
    obtain ⟨id, k'⟩ := z
    simp only [Prod.mk.injEq] at he
    obtain ⟨rfl, rfl⟩ := he
    exact ⟨id, List.mem_zipIdx_iff_getElem?.1 hz, rfl⟩
  have nl_box : ∀ id cs (e : Nat), st.node id = some (.bx false cs) → TV.nl e ∈ cs → ∃ m, sizeT cx.P e = some m := by
    intro id cs e hn he
    obtain ⟨i, hi⟩ := List.mem_iff_getElem?.1 he
    cases h.nodes id _ hn with
    | bx z _ b off cur t hρ hb hsz hne hc hF hz =>
      have hlt : i < cs.length := (List.getElem?_eq_some_iff.1 hi).1
      exact tr_nl (hc i _ hi _ (Array.getElem?_eq_getElem (by omega)))
  have bx_mem : ∀ k cs, (k, some (Node.bx false cs)) ∈ nodes → ∃ id cs0, l[k]? = some id ∧ st.node id = some (.bx false cs0) ∧ cs = renL l cs0 := by
    intro k cs hm
    obtain ⟨id, h1, h2⟩ := nodes_mem k _ hm
    cases hn : st.node id with
    | none => rw [hn] at h2; cases h2
    | some n =>
      rw [hn] at h2
      cases n with
      | sl _ _ _ _ => simp [renN] at h2
      | bx z cs0 =>
        simp only [Option.map_some, renN, Option.some.injEq, Node.bx.injEq] at h2
        obtain ⟨rfl, rfl⟩ := h2
        exact ⟨id, cs0, h1, hn, rfl⟩
  -- what the new frame's nodes are
  have newN : ∀ k n, (norm live st).node k = some n → (k < l.length ∧ ∃ id n0, l[k]? = some id ∧ st.node id = some n0 ∧ NodeNil l.length y.2 (some (renN l n0)) (some n)) ∨
      (l.length ≤ k ∧ k < y.2 ∧ ∃ e m, n = .sl false 0 e [] ∧ sizeT cx.P e = some m) := by
    intro k n hn
    rw [hnorm] at hn
    simp only [St.node] at hn
    cases hl : look (y.1 ++ x.2.1) k with
    | none => rw [hl] at hn; cases hn
    | some o =>
      rw [hl] at hn
      simp only [Option.getD_some] at hn
      subst hn
      rcases List.mem_append.1 (look_mem hl) with hm | hm
      · rcases y2 _ hm with ⟨o, m1, m2⟩ | ⟨m1, m2, e, m3, id', cs', m4, m5⟩
        · obtain ⟨id, k1, k2⟩ := nodes_mem _ _ m1
          have hkl : k < l.length := (List.getElem?_eq_some_iff.1 k1).1
          cases hn0 : st.node id with
          | none =>
            rw [hn0] at k2
            simp only [Option.map_none] at k2
            subst k2
            rcases m2 with m2 | ⟨_, _, m2, _⟩ <;> cases m2
          | some n0 =>
            rw [hn0] at k2
            simp only [Option.map_some] at k2
            subst k2
            exact .inl ⟨hkl, id, n0, k1, hn0, m2.mono x2 (Nat.le_refl _)⟩
        · simp only [Option.some.injEq] at m3
          obtain ⟨id, cs0, k1, k2, rfl⟩ := bx_mem _ _ m4
          rw [renL_eq, List.mem_map] at m5
          obtain ⟨c, k3, k4⟩ := m5
          obtain ⟨m, hm⟩ := nl_box id cs0 e k2 (ren_nl k4 ▸ k3)
          exact .inr ⟨by simp only at m1; omega, m2, e, m, m3, hm⟩
      · obtain ⟨m1, m2, e, m3, m4⟩ := x3 _ hm
        simp only [Option.some.injEq] at m3
        obtain ⟨t, k1, k2⟩ := List.mem_map.1 m4
        have := h.slots t
        rw [ren_nl k2] at this
        obtain ⟨m, hm⟩ := tr_nl this
        exact .inr ⟨m1, Nat.lt_of_lt_of_le m2 y1, e, m, m3, hm⟩
  -- what the new frame's slots are
  have newS : ∀ t, (norm live st).slot t = .un ∨ NilOr l.length y.2 (ren l (st.slot t)) ((norm live st).slot t) := by
    intro t
    rw [hnorm]
    simp only [St.slot]
    cases hl : look (live.zip x.1) t with
    | none => exact .inl rfl
    | some c' =>
      right
      obtain ⟨i, h1, h2⟩ := look_zip hl
      obtain ⟨c, h3, h4⟩ := x4 i c' h2
      simp only [slots, List.getElem?_map, h1, Option.map_some, Option.some.injEq] at h3
      subst h3
      exact h4.mono (Nat.le_refl _) y1
  let ρ' : Nat → Value := fun k => match l[k]? with | some id => ρ id | none => .slice none 0 0
  let F' : Nat → Cells := fun k => match l[k]? with | some id => F id | none => fun _ _ => False
  have hρ : ∀ k id, l[k]? = some id → ρ' k = ρ id := fun k id hk => by simp only [ρ', hk]
  have hF : ∀ k id, l[k]? = some id → F' k = F id := fun k id hk => by simp only [F', hk]
  have hρ2 : ∀ k, l.length ≤ k → ρ' k = .slice none 0 0 := fun k hk => by simp only [ρ', List.getElem?_eq_none hk]
  have hF2 : ∀ k, l.length ≤ k → ∀ b o, ¬ F' k b o := fun k hk b o => by simp only [F', List.getElem?_eq_none hk]; exact id
  have hsh : ∀ k id ver e n, l[k]? = some id → shapeOf (norm live st) k = some (ver, e, n) → ver = 0 ∧ ∃ ver0, shapeOf st id = some (ver0, e, n) := by
    intro k id ver e n hk hs
    unfold shapeOf at hs
    split at hs
    · rename_i q v' e' es hn
      cases hs
      rcases newN k _ hn with ⟨_, id', n0, k1, k2, k3⟩ | ⟨k1, _⟩
      · rw [hk] at k1
        cases k1
        cases n0 with
        | bx z cs => rcases k3 with k3 | ⟨_, _, _, k3, _⟩ <;> simp [renN] at k3
        | sl q0 ver0 e0 es0 =>
          rcases k3 with k3 | ⟨_, _, k3, _⟩
          · simp only [renN, Option.some.injEq, Node.sl.injEq] at k3
            obtain ⟨rfl, rfl, rfl, rfl⟩ := k3
            exact ⟨rfl, ver0, by simp [shapeOf, k2]⟩
          · simp [renN] at k3
      · have := (List.getElem?_eq_some_iff.1 hk).1
        omega
    · cases hs
  have tr : ∀ {c : TV} {v : Value}, TR cx.P w cx.Z ρ F (shapeOf st) c v → TR cx.P w cx.Z ρ' F' (shapeOf (norm live st)) (ren l c) v :=
    fun hc => tr_ren hρ (fun k id ver e n hk hs => (hsh k id ver e n hk hs).2) hc
  have trN : ∀ {c c' : TV} {v : Value}, TR cx.P w cx.Z ρ F (shapeOf st) c v → NilOr l.length y.2 (ren l c) c' → TR cx.P w cx.Z ρ' F' (shapeOf (norm live st)) c' v := by
    intro c c' v hc hn
    rcases hn with rfl | ⟨e, id, h1, rfl, h3, h4⟩
    · exact tr hc
    · have := ren_nl h1
      subst this
      cases hc
      rw [← hρ2 id h3]
      exact .rf id
  have idsN : ∀ {c c' : TV}, NilOr l.length y.2 (ren l c) c' → idsIn (fun k => k < y.2) c' := by
    intro c c' hn
    rcases hn with rfl | ⟨e, id, h1, rfl, h3, h4⟩
    · exact ids_ren (by omega) c
    · exact h4
  refine ⟨⟨ρ', F', ?_⟩, ?_⟩
  · constructor
    case slots =>
      intro t
      rcases newS t with hu | hn
      · rw [hu]; exact .un _
      · exact trN (h.slots t) hn
    case ids =>
      intro t
      rcases newS t with hu | hn
      · rw [hu]; trivial
      · exact idsN hn
    case nodes =>
      intro k n hn
      rcases newN k n hn with ⟨_, id, n0, k1, k2, k3⟩ | ⟨k1, k2, e, m, rfl, hm⟩
      · cases h.nodes id n0 k2 with
        | bx z cs b off cur t hρ0 hb hsz hne hc hF0 hz =>
          rcases k3 with k3 | ⟨cs1, cs2, k3, k4, k5, k6⟩
          · simp only [Option.some.injEq] at k3
            subst k3
            simp only [renN]
            refine .bx z _ b off cur t (by rw [hρ k id k1]; exact hρ0) hb (by rw [renL_eq]; simpa using hsz) (by rw [renL_eq]; simpa using hne) ?_ ?_ ?_
            · intro i c hi u hu
              rw [renL_eq, List.getElem?_map] at hi
              obtain ⟨c0, h1, rfl⟩ := Option.map_eq_some_iff.1 hi
              exact tr (hc i c0 h1 u hu)
            · intro b' o'; rw [hF k id k1, renL_eq]; simpa using hF0 b' o'
            · intro hzt i hi; rw [renL_eq] at hi; exact hz hzt i (by simpa using hi)
          · simp only [renN, Option.some.injEq, Node.bx.injEq] at k3
            obtain ⟨rfl, rfl⟩ := k3
            simp only [Option.some.injEq] at k4
            subst k4
            rw [renL_eq] at k5 k6
            simp only [List.length_map] at k5
            refine .bx false _ b off cur t (by rw [hρ k id k1]; exact hρ0) hb (by omega) (fun hnil => hne (List.length_eq_zero_iff.1 (by rw [← k5, hnil]; rfl))) ?_ ?_ ?_
            · intro i c' hi u hu
              obtain ⟨c1, m1, m2⟩ := k6 i c' hi
              rw [List.getElem?_map] at m1
              obtain ⟨c0, m3, rfl⟩ := Option.map_eq_some_iff.1 m1
              exact trN (hc i c0 m3 u hu) m2
            · intro b' o'; rw [hF k id k1, k5]; exact hF0 b' o'
            · intro hzt; cases hzt
        | sl q ver e es hdc =>
          rcases k3 with k3 | ⟨_, _, k3, _⟩
          · simp only [Option.some.injEq] at k3
            subst k3
            simp only [renN]
            refine .sl q 0 e es ?_
            rw [hρ k id k1, hF k id k1]
            exact hdc
          · simp [renN] at k3
      · refine .sl false 0 e [] ?_
        rw [hρ2 k k1]
        exact .nil e m _ hm (hF2 k k1)
    case used =>
      intro k n hn
      rw [hnorm]
      simp only
      rcases newN k n hn with ⟨k0, id, n0, k1, k2, k3⟩ | ⟨k1, k2, e, m, rfl, hm⟩
      · refine ⟨by omega, ?_⟩
        rcases k3 with k3 | ⟨cs1, cs2, k3, k4, k5, k6⟩
        · simp only [Option.some.injEq] at k3
          subst k3
          cases n0 with
          | bx z cs => exact ids_renL (by omega) cs
          | sl q ver e es => exact .inl rfl
        · simp only [Option.some.injEq] at k4
          subst k4
          cases n0 with
          | sl q ver e es => simp [renN] at k3
          | bx z cs =>
            simp only [renN, Option.some.injEq, Node.bx.injEq] at k3
            obtain ⟨_, rfl⟩ := k3
            refine idsInL_of fun c' hc' => ?_
            obtain ⟨i, hi⟩ := List.mem_iff_getElem?.1 hc'
            obtain ⟨c1, m1, m2⟩ := k6 i c' hi
            rw [renL_eq, List.getElem?_map] at m1
            obtain ⟨c0, m3, rfl⟩ := Option.map_eq_some_iff.1 m1
            exact idsN m2
      · exact ⟨k2, .inl rfl⟩
    case apart =>
      intro i j hij hi hj
      obtain ⟨ni, hi⟩ := Option.isSome_iff_exists.1 hi
      obtain ⟨nj, hj⟩ := Option.isSome_iff_exists.1 hj
      rcases newN i ni hi with ⟨_, id, n0, k1, k2, _⟩ | ⟨k1, _⟩
      · rcases newN j nj hj with ⟨_, jd, n1, m1, m2, _⟩ | ⟨m1, _⟩
        · rw [hF i id k1, hF j jd m1]
          refine h.apart id jd ?_ (by rw [k2]; rfl) (by rw [m2]; rfl)
          rintro rfl
          exact hij ((List.getElem?_inj (List.getElem?_eq_some_iff.1 k1).1 hnd).1 (k1.trans m1.symm))
        · intro b o _ hb; exact hF2 j m1 b o hb
      · intro b o hb; exact absurd hb (hF2 i k1 b o)
    case apartX => intro i _ b o _ hx; exact hx
    case mine =>
      intro i hi b o hb
      obtain ⟨ni, hi⟩ := Option.isSome_iff_exists.1 hi
      rcases newN i ni hi with ⟨_, id, n0, k1, k2, _⟩ | ⟨k1, _⟩
      · rw [hF i id k1] at hb
        exact h.mine id (by rw [k2]; rfl) b o hb
      · exact absurd hb (hF2 i k1 b o)
    case mineX => intro b o hx; exact hx.elim
    case one =>
      intro k
      simp only [ρ']
      split
      · exact h.one _
      · rfl
    case kept => exact h.kept
    case zold => exact h.zold
    case size => exact h.size
    case small => exact h.small
    case defers => exact h.defers
  · intro k ver e es hn
    rcases newN k _ hn with ⟨_, id, n0, k1, k2, k3⟩ | ⟨k1, k2, e', m, k3, hm⟩
    · cases n0 with
      | bx z cs => rcases k3 with k3 | ⟨_, _, _, k3, _⟩ <;> simp [renN] at k3
      | sl q0 ver0 e0 es0 =>
        rcases k3 with k3 | ⟨_, _, k3, _⟩
        · simp only [renN, Option.some.injEq, Node.sl.injEq] at k3
          obtain ⟨rfl, rfl, rfl, rfl⟩ := k3
          exact hq id ver0 e es k2
        · simp [renN] at k3
    · simp only [Node.sl.injEq] at k3
      obtain ⟨_, _, _, rfl⟩ := k3
      trivial
end Go.Proofs.Ytkoljcjliihiiaa.VM

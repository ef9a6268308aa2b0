/- Strewn: what the program makes of acts and places; and the law that compares it with the reference. -/
import Derived.Test.YtkoljcjliihiiaaLawStrewn
namespace Go.Proofs.Ytkoljcjliihiiaa.VM
open Go Sy
variable {Φ : Nat → Option Callee} {N : Nat}
theorem run_within (a b c : Int) : runFn Φ N f_impl_within [.a (.int .i64 a), .a (.int .i64 b), .a (.int .i64 c)] = some ([.a (.bool (decide (b ≤ a ∧ a ≤ c)))], []) := by
  rw [fn_run rfl]
  by_cases h1 : b ≤ a
  · by_cases h2 : a ≤ c
    · rw [decide_eq_true ⟨h1, h2⟩]
      simp (maxSteps := 3000000) (implicitDefEqProofs := false) (disch := first | assumption | exact ofR (by with_unfolding_all rfl) | exact ofB (by with_unfolding_all rfl) | omega | (simp only [go_sem, maxLen_eq]; omega)) only [go_sem, Nat.reduceAdd, Nat.reduceBEq, f_impl_within, c_impl_within]
    · rw [decide_eq_false (fun h => h2 h.2)]
      simp (maxSteps := 3000000) (implicitDefEqProofs := false) (disch := first | assumption | exact ofR (by with_unfolding_all rfl) | exact ofB (by with_unfolding_all rfl) | omega | (simp only [go_sem, maxLen_eq]; omega)) only [go_sem, Nat.reduceAdd, Nat.reduceBEq, f_impl_within, c_impl_within]
  · rw [decide_eq_false (fun h => h1 h.1)]
    simp (maxSteps := 3000000) (implicitDefEqProofs := false) (disch := first | assumption | exact ofR (by with_unfolding_all rfl) | exact ofB (by with_unfolding_all rfl) | omega | (simp only [go_sem, maxLen_eq]; omega)) only [go_sem, Nat.reduceAdd, Nat.reduceBEq, f_impl_within, c_impl_within]
theorem run_sizeAct (l : List Act') : runFn Φ N f_impl_size_impl_Act [.sl true t_impl_Act (l.map eAct)] = some ([.a (.int .i64 l.length)], []) := by
  rw [fn_run rfl]
  simp (maxSteps := 3000000) (implicitDefEqProofs := false) (disch := first | assumption | exact ofR (by with_unfolding_all rfl) | exact ofB (by with_unfolding_all rfl) | omega | (simp only [go_sem, maxLen_eq]; omega)) only [go_sem, Nat.reduceAdd, Nat.reduceBEq, f_impl_size_impl_Act, c_impl_size_impl_Act]

theorem impl_L1 {d : Nat} (l : List Act') (ws : List Strew) (n : Nat) (s : Strew) (hl : l.length ≤ 60) (hk : ∀ x ∈ l, x.keep.length ≤ 1048576) (j a : Nat) (ha : s.at_ = (a : Int)) (hja : j ≤ a) (hal : a ≤ l.length) (O : List PV) (hO : O.length ≤ 10000) :
    loopE (T (d + 2)) fuel [0,6,7,9,19,20,21] c_impl_Strewn_L1 ⟨[(0, .sz t_impl_Act (l.map eAct)), (6, .rf 0), (7, .a (.int .i64 j)), (9, .rf 1), (19, .sz t_impl_Strew (ws.map eStrew)), (20, .a (.int .i64 ws.length)), (21, .a (.int .i64 n))], [(0, some (.sl false 0 t_impl_Act O)), (1, some (.bx false [.a (.int .i64 s.at_), .a (.int .i64 s.kind), .a (.int .i64 s.a)]))], 2⟩ =
    some (.ext 2, ⟨[(0, .sz t_impl_Act (l.map eAct)), (6, .rf 0), (7, .a (.int .i64 a)), (9, .rf 1), (19, .sz t_impl_Strew (ws.map eStrew)), (20, .a (.int .i64 ws.length)), (21, .a (.int .i64 n)), (41, .a (.bool false))], [(0, some (.sl false 0 t_impl_Act (O ++ ((l.drop j).take (a - j)).map eAct))), (1, some (.bx false [.a (.int .i64 s.at_), .a (.int .i64 s.kind), .a (.int .i64 s.a)]))], 402⟩) := by
  have := loopE_all (Φ := T (d + 2)) (N := fuel) (live := [0,6,7,9,19,20,21]) (b := c_impl_Strewn_L1) (id := 2) (fun k => ⟨[(0, .sz t_impl_Act (l.map eAct)), (6, .rf 0), (7, .a (.int .i64 (j + k : Nat))), (9, .rf 1), (19, .sz t_impl_Strew (ws.map eStrew)), (20, .a (.int .i64 ws.length)), (21, .a (.int .i64 n))], [(0, some (.sl false 0 t_impl_Act (O ++ ((l.drop j).take k).map eAct))), (1, some (.bx false [.a (.int .i64 s.at_), .a (.int .i64 s.kind), .a (.int .i64 s.a)]))], 2⟩)
    ⟨[(0, .sz t_impl_Act (l.map eAct)), (6, .rf 0), (7, .a (.int .i64 a)), (9, .rf 1), (19, .sz t_impl_Strew (ws.map eStrew)), (20, .a (.int .i64 ws.length)), (21, .a (.int .i64 n)), (41, .a (.bool false))], [(0, some (.sl false 0 t_impl_Act (O ++ ((l.drop j).take (a - j)).map eAct))), (1, some (.bx false [.a (.int .i64 s.at_), .a (.int .i64 s.kind), .a (.int .i64 s.a)]))], 402⟩ (m := a - j) (lt_fuel (by omega)) (fun k hk' => ?_) ?_
  · simpa using this
  · obtain ⟨x, hx⟩ : ∃ x, l[j + k]? = some x := ⟨_, List.getElem?_eq_getElem (by omega)⟩
    have hc := run_ownAct (d := d) x (hk x (List.mem_of_getElem? hx))
    have hw : IntKind.i64.wrap (((j + k : Nat) : Int) + 1) = ((j + (k + 1) : Nat) : Int) := by rw [wrap_i64] <;> omega
    have hlt : ((j + k : Nat) : Int) < s.at_ := by omega
    have hlen : ((j + k : Nat) : Int) < l.length := by omega
    have hle : (O ++ ((l.drop j).take k).map eAct).length ≤ 20000 := by
      rw [List.length_append, List.length_map, List.length_take, List.length_drop]; omega
    rw [show O ++ ((l.drop j).take (k + 1)).map eAct = O ++ ((l.drop j).take k).map eAct ++ [eAct x] from by
      rw [List.take_add_one, List.getElem?_drop, hx, List.map_append, List.append_assoc]; rfl, eAct_eq]
    generalize O ++ ((l.drop j).take k).map eAct = O' at *
    generalize hm : j + k = m at *
    unfold round c_impl_Strewn_L1
    simp (maxSteps := 3000000) (implicitDefEqProofs := false) (disch := first | assumption | exact ofR (by with_unfolding_all rfl) | exact ofB (by with_unfolding_all rfl) | omega | (simp only [go_sem, maxLen_eq]; omega)) only [go_sem, Nat.reduceAdd, Nat.reduceBEq, hx, hc, hw]
    rfl
  · have hlt : ¬ ((j + (a - j) : Nat) : Int) < s.at_ := by omega
    have he : ((j + (a - j) : Nat) : Int) = a := by omega
    rw [he] at hlt ⊢
    unfold round c_impl_Strewn_L1
    simp (maxSteps := 3000000) (implicitDefEqProofs := false) (disch := first | assumption | exact ofR (by with_unfolding_all rfl) | exact ofB (by with_unfolding_all rfl) | omega | (simp only [go_sem, maxLen_eq]; omega)) only [go_sem, Nat.reduceAdd, Nat.reduceBEq]

abbrev zcs : List TV := [.a (.int .i64 0), .a (.int .i64 0), .a (.int .i64 0)]
def S31 (l : List Act') (ws : List Strew) (i : Nat) (p : Nat × List Act') : St := ⟨[(0, .sz t_impl_Act (l.map eAct)), (6, .rf 0), (7, .a (.int .i64 p.1)), (19, .sz t_impl_Strew (ws.map eStrew)), (20, .a (.int .i64 ws.length)), (21, .a (.int .i64 i))], [(0, some (.sl false 0 t_impl_Act (p.2.map eAct)))], 1⟩
theorem impl_L0_round {d : Nat} (l : List Act') (ws : List Strew) (hl : l.length ≤ 60) (hw : ws.length ≤ 60) (hk : ∀ x ∈ l, x.keep.length ≤ 1048576) {i : Nat} {s : Strew} (hi : ws[i]? = some s) (p : Nat × List Act') (hp : p.1 ≤ l.length) (hO : p.2.length ≤ 1000) :
    round (T (d + 2)) fuel [0,6,7,19,20,21] c_impl_Strewn_L0 (S31 l ws i p) = some (match stepS l p s with | some p' => (.nrm, S31 l ws (i + 1) p') | none => (.ret, ⟨[(4, .nl t_impl_Act), (5, .a (.bool false))], [(301, some (.bx false [.a (.int .i64 s.at_), .a (.int .i64 s.kind), .a (.int .i64 s.a)])), (301, some (.bx false zcs)), (0, some (.sl false 0 t_impl_Act (p.2.map eAct)))], 2001⟩)) := by
  obtain ⟨j, out⟩ := p
  dsimp only at hp hO
  have hil : i < ws.length := (List.getElem?_eq_some_iff.1 hi).1
  have hsi := wrap_succ i (by omega)
  have hin := run_within (Φ := T (d + 1)) (N := fuel) s.at_ j l.length
  have hsz := run_sizeAct (Φ := T (d + 1)) (N := fuel) l
  have hex := run_isExtra (Φ := T (d + 1)) (N := fuel) s.kind
  unfold stepS
  by_cases c1 : (j : Int) ≤ s.at_ ∧ s.at_ ≤ (l.length : Int)
  · rw [decide_eq_true c1] at hin
    by_cases c3 : 15 ≤ s.kind ∧ s.kind ≤ 17
    · rw [decide_eq_true c3] at hex
      rw [if_pos (by rw [okS, decide_eq_true_eq]; exact ⟨c1.1, c1.2, c3.1, c3.2⟩)]
      obtain ⟨a, ha⟩ : ∃ a : Nat, s.at_ = (a : Int) := ⟨s.at_.toNat, by omega⟩
      have e : s.at_.toNat = a := by omega
      rw [e]
      have key := impl_L1 (d := d) l ws i s hl hk j a ha (by omega) (by omega) (out.map eAct) (by rw [List.length_map]; omega)
      have hle : (out.map eAct ++ ((l.drop j).take (a - j)).map eAct).length ≤ 20000 := by
        rw [List.length_append, List.length_map, List.length_map, List.length_take, List.length_drop]; omega
      have hz : (out ++ (l.drop j).take (a - j) ++ [sact s]).map eAct = out.map eAct ++ ((l.drop j).take (a - j)).map eAct ++ [eAct (sact s)] := by simp
      rw [eAct_sact] at hz
      unfold round S31 c_impl_Strewn_L0
      generalize hO' : out.map eAct ++ ((l.drop j).take (a - j)).map eAct = O' at *
      simp (maxSteps := 3000000) (implicitDefEqProofs := false) (disch := first | assumption | exact ofR (by with_unfolding_all rfl) | exact ofB (by with_unfolding_all rfl) | omega | (simp only [go_sem, maxLen_eq]; omega)) only [go_sem, Nat.reduceAdd, Nat.reduceBEq, hi, hin, hsz, hex, hsi, loop_at key, hz, hO']
      rfl
    · rw [decide_eq_false c3] at hex
      rw [if_neg (by rw [okS, decide_eq_true_eq]; exact fun h => c3 ⟨h.2.2.1, h.2.2.2⟩)]
      unfold round S31 c_impl_Strewn_L0
      simp (maxSteps := 3000000) (implicitDefEqProofs := false) (disch := first | assumption | exact ofR (by with_unfolding_all rfl) | exact ofB (by with_unfolding_all rfl) | omega | (simp only [go_sem, maxLen_eq]; omega)) only [go_sem, Nat.reduceAdd, Nat.reduceBEq, hi, hin, hsz, hex, hsi]
  · rw [decide_eq_false c1] at hin
    rw [if_neg (by rw [okS, decide_eq_true_eq]; exact fun h => c1 ⟨h.1, h.2.1⟩)]
    unfold round S31 c_impl_Strewn_L0
    simp (maxSteps := 3000000) (implicitDefEqProofs := false) (disch := first | assumption | exact ofR (by with_unfolding_all rfl) | exact ofB (by with_unfolding_all rfl) | omega | (simp only [go_sem, maxLen_eq]; omega)) only [go_sem, Nat.reduceAdd, Nat.reduceBEq, hi, hin, hsz, hex, hsi]

theorem stepS_le {l : List Act'} {p p' : Nat × List Act'} {s : Strew} (h : stepS l p s = some p') : p'.1 ≤ l.length ∧ p.1 ≤ p'.1 ∧ p'.2.length ≤ p.2.length + (p'.1 - p.1) + 1 := by
  unfold stepS at h
  split at h
  · rename_i ho
    rw [okS, decide_eq_true_eq] at ho
    cases h
    simp only [List.length_append, List.length_take, List.length_cons, List.length_nil]
    omega
  · cases h

theorem impl_L0 {d : Nat} (l : List Act') (ws : List Strew) (hl : l.length ≤ 60) (hw : ws.length ≤ 60) (hk : ∀ x ∈ l, x.keep.length ≤ 1048576) :
    (∃ p, foldS l ws ws.length = some p ∧ p.1 ≤ l.length ∧ p.2.length ≤ p.1 + ws.length ∧ loopE (T (d + 2)) fuel [0,6,7,19,20,21] c_impl_Strewn_L0 (S31 l ws 0 (0, [])) =
      some (.ext 0, ⟨[(0, .sz t_impl_Act (l.map eAct)), (6, .rf 0), (7, .a (.int .i64 p.1)), (19, .sz t_impl_Strew (ws.map eStrew)), (20, .a (.int .i64 ws.length)), (21, .a (.int .i64 ws.length)), (22, .a (.bool false))], [(0, some (.sl false 0 t_impl_Act (p.2.map eAct)))], 101⟩)) ∨
    (foldS l ws ws.length = none ∧ ∃ nd nx, loopE (T (d + 2)) fuel [0,6,7,19,20,21] c_impl_Strewn_L0 (S31 l ws 0 (0, [])) = some (.ret, ⟨[(4, .nl t_impl_Act), (5, .a (.bool false))], nd, nx⟩)) := by
  obtain ⟨o, e, he, _, h⟩ := loop_inv (Φ := T (d + 2)) (N := fuel) (live := [0,6,7,19,20,21]) (b := c_impl_Strewn_L0) (r := [])
    (fun k s => ∃ i p, i + k = ws.length ∧ foldS l ws i = some p ∧ p.1 ≤ l.length ∧ p.2.length ≤ p.1 + i ∧ s = S31 l ws i p)
    (fun o e => (∃ p, foldS l ws ws.length = some p ∧ p.1 ≤ l.length ∧ p.2.length ≤ p.1 + ws.length ∧ o = .ext 0 ∧ e = ⟨[(0, .sz t_impl_Act (l.map eAct)), (6, .rf 0), (7, .a (.int .i64 p.1)), (19, .sz t_impl_Strew (ws.map eStrew)), (20, .a (.int .i64 ws.length)), (21, .a (.int .i64 ws.length)), (22, .a (.bool false))], [(0, some (.sl false 0 t_impl_Act (p.2.map eAct)))], 101⟩) ∨
      (foldS l ws ws.length = none ∧ o = .ret ∧ ∃ nd nx, e = ⟨[(4, .nl t_impl_Act), (5, .a (.bool false))], nd, nx⟩))
    (m := ws.length) (lt_fuel (by omega)) (s := S31 l ws 0 (0, [])) ⟨0, (0, []), by omega, rfl, by simp, by simp, rfl⟩ (by
      rintro k s hkm ⟨i, p, hik, hf, hp1, hp2, rfl⟩
      by_cases hi : i < ws.length
      · obtain ⟨y, hy⟩ : ∃ y, ws[i]? = some y := ⟨_, List.getElem?_eq_getElem hi⟩
        have hr := impl_L0_round (d := d) l ws hl hw hk hy p hp1 (by omega)
        have hfs := foldS_succ (l := l) hy
        rw [hf] at hfs
        change foldS l ws (i + 1) = stepS l p y at hfs
        cases hst : stepS l p y with
        | none =>
          rw [hst] at hr hfs
          exact .inr ⟨.ret, _, by simp, hr, .inr ⟨foldS_none hfs, rfl, _, _, rfl⟩⟩
        | some p' =>
          rw [hst] at hr hfs
          obtain ⟨q1, q2, q3⟩ := stepS_le hst
          exact .inl ⟨k - 1, _, by omega, hr, i + 1, p', by omega, hfs, q1, by omega, rfl⟩
      · obtain rfl : i = ws.length := by omega
        refine .inr ⟨.ext 0, _, by simp, ?_, .inl ⟨p, hf, hp1, hp2, rfl, rfl⟩⟩
        unfold round S31 c_impl_Strewn_L0
        simp (maxSteps := 3000000) (implicitDefEqProofs := false) (disch := first | assumption | exact ofR (by with_unfolding_all rfl) | exact ofB (by with_unfolding_all rfl) | omega | (simp only [go_sem, maxLen_eq]; omega)) only [go_sem, Nat.reduceAdd, Nat.reduceBEq])
  rcases he with ⟨p, h1, h2, h3, rfl, rfl⟩ | ⟨h1, rfl, nd, nx, rfl⟩
  · exact .inl ⟨p, h1, h2, h3, h⟩
  · exact .inr ⟨h1, nd, nx, h⟩

theorem impl_L2 {d : Nat} (l : List Act') (hl : l.length ≤ 60) (hk : ∀ x ∈ l, x.keep.length ≤ 1048576) (O : List PV) (hO : O.length ≤ 10000) :
    loopE (T (d + 2)) fuel [6,63,64,65] c_impl_Strewn_L2 ⟨[(6, .rf 0), (63, .sz t_impl_Act (l.map eAct)), (64, .a (.int .i64 l.length)), (65, .a (.int .i64 0))], [(0, some (.sl false 0 t_impl_Act O))], 1⟩ =
    some (.ext 4, ⟨[(6, .rf 0), (63, .sz t_impl_Act (l.map eAct)), (64, .a (.int .i64 l.length)), (65, .a (.int .i64 l.length)), (66, .a (.bool false))], [(0, some (.sl false 0 t_impl_Act (O ++ l.map eAct)))], 101⟩) := by
  have := loopE_all (Φ := T (d + 2)) (N := fuel) (live := [6,63,64,65]) (b := c_impl_Strewn_L2) (id := 4) (fun i => ⟨[(6, .rf 0), (63, .sz t_impl_Act (l.map eAct)), (64, .a (.int .i64 l.length)), (65, .a (.int .i64 (i : Nat)))], [(0, some (.sl false 0 t_impl_Act (O ++ (l.take i).map eAct)))], 1⟩)
    ⟨[(6, .rf 0), (63, .sz t_impl_Act (l.map eAct)), (64, .a (.int .i64 l.length)), (65, .a (.int .i64 l.length)), (66, .a (.bool false))], [(0, some (.sl false 0 t_impl_Act (O ++ l.map eAct)))], 101⟩ (m := l.length) (lt_fuel (by omega)) (fun i hi => ?_) ?_
  · simpa using this
  · obtain ⟨x, hx⟩ : ∃ x, l[i]? = some x := ⟨_, List.getElem?_eq_getElem hi⟩
    have hc := run_ownAct (d := d) x (hk x (List.mem_of_getElem? hx))
    have hw := wrap_succ i (by omega)
    have hle : (O ++ (l.take i).map eAct).length ≤ 20000 := by
      rw [List.length_append, List.length_map, List.length_take]; omega
    rw [show O ++ (l.take (i + 1)).map eAct = O ++ (l.take i).map eAct ++ [eAct x] from by rw [List.take_add_one, hx, List.map_append, List.append_assoc]; rfl, eAct_eq]
    generalize O ++ (l.take i).map eAct = O' at *
    unfold round c_impl_Strewn_L2
    simp (maxSteps := 3000000) (implicitDefEqProofs := false) (disch := first | assumption | exact ofR (by with_unfolding_all rfl) | exact ofB (by with_unfolding_all rfl) | omega | (simp only [go_sem, maxLen_eq]; omega)) only [go_sem, Nat.reduceAdd, Nat.reduceBEq, hx, hc, hw]
    rfl
  · rw [List.take_length]
    unfold round c_impl_Strewn_L2
    simp (maxSteps := 3000000) (implicitDefEqProofs := false) (disch := first | assumption | exact ofR (by with_unfolding_all rfl) | exact ofB (by with_unfolding_all rfl) | omega | (simp only [go_sem, maxLen_eq]; omega)) only [go_sem, Nat.reduceAdd, Nat.reduceBEq]

theorem run_impl_Strewn {d : Nat} (l : List Act') (ws : List Strew) (hl : l.length ≤ 1048576) (hw : ws.length ≤ 1048576) (hk : ∀ x ∈ l, x.keep.length ≤ 1048576) :
    runFn (T (d + 2)) fuel f_impl_Strewn [.sl true t_impl_Act (l.map eAct), .sl true t_impl_Strew (ws.map eStrew)] = some ([.sl false t_impl_Act ((strewn l ws).1.map eAct), .a (.bool (strewn l ws).2)], []) := by
  have hs : IntKind.i64.wrap ((l.length : Int) + ws.length) = l.length + ws.length := by rw [wrap_i64] <;> omega
  unfold strewn
  rw [fn_run rfl]
  by_cases hn : l.length + ws.length ≤ 60
  · have hall := foldS_all l ws
    rcases impl_L0 (d := d) l ws (by omega) (by omega) hk with ⟨p, h1, h2, h3, key⟩ | ⟨h1, nd, nx, key⟩
    · rw [h1] at hall
      by_cases hv : validS l.length 0 ws = true
      · rw [if_pos hv] at hall
        rw [if_pos ⟨hv, hn⟩, ← Option.some.inj hall]
        have key2 := impl_L2 (d := d) (l.drop p.1) (by rw [List.length_drop]; omega) (fun x hx => hk x (List.mem_of_mem_drop hx)) (p.2.map eAct) (by rw [List.length_map]; omega)
        unfold S31 at key
        have e1 : (l.map eAct).drop p.1 = (l.drop p.1).map eAct := (List.map_drop ..).symm
        have e2 : (p.2 ++ l.drop p.1).map eAct = p.2.map eAct ++ (l.drop p.1).map eAct := List.map_append ..
        simp (maxSteps := 3000000) (implicitDefEqProofs := false) (disch := first | assumption | exact ofR (by with_unfolding_all rfl) | exact ofB (by with_unfolding_all rfl) | omega | (simp only [go_sem, maxLen_eq]; omega)) only [go_sem, Nat.reduceAdd, Nat.reduceBEq, f_impl_Strewn, c_impl_Strewn, loop_at key, hs, e1, loop_at key2, e2]
      · rw [if_neg hv] at hall
        cases hall
    · rw [h1] at hall
      by_cases hv : validS l.length 0 ws = true
      · rw [if_pos hv] at hall
        cases hall
      · rw [if_neg (fun h => hv h.1)]
        unfold S31 at key
        simp (maxSteps := 3000000) (implicitDefEqProofs := false) (disch := first | assumption | exact ofR (by with_unfolding_all rfl) | exact ofB (by with_unfolding_all rfl) | omega | (simp only [go_sem, maxLen_eq]; omega)) only [go_sem, Nat.reduceAdd, Nat.reduceBEq, f_impl_Strewn, c_impl_Strewn, loop_rt key, hs]
  · rw [if_neg (fun h => hn h.2)]
    simp (maxSteps := 3000000) (implicitDefEqProofs := false) (disch := first | assumption | exact ofR (by with_unfolding_all rfl) | exact ofB (by with_unfolding_all rfl) | omega | (simp only [go_sem, maxLen_eq]; omega)) only [go_sem, Nat.reduceAdd, Nat.reduceBEq, f_impl_Strewn, c_impl_Strewn, hs]

/-! ### the law -/
theorem gS_bounds {l : List Act'} {ws : List Strew} : ∀ {n j : Nat}, (gS l ws j n).length ≤ n * (ws.length + 1) ∧ ksum (gS l ws j n) ≤ ksum (l.drop j)
  | 0, j => by simp [gS, ksum]
  | n + 1, j => by
    obtain ⟨h1, h2⟩ := gS_bounds (l := l) (ws := ws) (n := n) (j := j + 1)
    have hg := gw_length ws j
    have hk : ksum (gw ws j) = 0 := by
      unfold gw
      generalize ws.filter _ = w
      induction w with
      | nil => rfl
      | cons s w ih => simp only [List.map_cons, ksum, ih]; rfl
    have ho : l[j]?.toList.length ≤ 1 := by cases l[j]? <;> simp
    constructor
    · simp only [gS, List.length_append, Nat.add_mul, Nat.one_mul]
      omega
    · rw [gS, ksum_append, ksum_append, hk, drop_get l j, ksum_append]
      omega
theorem strewn_len (l : List Act') (ws : List Strew) : (strewn l ws).1.length ≤ 10000 ∧ ksum (strewn l ws).1 ≤ ksum l := by
  unfold strewn
  split
  · rename_i h
    dsimp only
    have h1 := aS_length l ws (by omega) (l.length + 1)
    have h2 := (gS_bounds (l := l) (ws := ws) (n := l.length + 1) (j := 0)).2
    rw [← A_all, List.drop_zero] at h2
    exact ⟨by omega, h2⟩
  · simp [ksum]

theorem law_Strewn {d : Nat} (l : List Act') (ws : List Strew) (hl : l.length < 9223372036854000000) (hk : ∀ x ∈ l, x.keep.length < 9223372036854000000) (hlw : ws.length < 9223372036854000000) :
    runFn (T (d + 3)) fuel f_laws_FnExactStrewn [.sl true t_laws_Act (l.map eAct), .sl true t_laws_Strew (ws.map eStrew)] = some ([.a (.bool true)], []) := by
  have hsz := run_szActS (d := d) l 1048576 (by omega) (by omega) hl hk
  rw [fn_run rfl]
  by_cases h : (1048576 : Int) - l.length - ksum l < 0
  · rw [if_pos h] at hsz
    simp (maxSteps := 3000000) (implicitDefEqProofs := false) (disch := first | assumption | exact ofR (by with_unfolding_all rfl) | exact ofB (by with_unfolding_all rfl) | omega | (simp only [go_sem, maxLen_eq]; omega)) only [go_sem, Nat.reduceAdd, Nat.reduceBEq, f_laws_FnExactStrewn, c_laws_FnExactStrewn, hsz]
  · rw [if_neg h] at hsz
    have hsa := run_szStrewS (Φ := T (d + 2)) (N := fuel) ws (1048576 - l.length - ksum l) (by omega) (by omega) hlw
    by_cases ha : (1048576 : Int) - l.length - ksum l - ws.length < 0
    · rw [if_pos ha] at hsa
      simp (maxSteps := 3000000) (implicitDefEqProofs := false) (disch := first | assumption | exact ofR (by with_unfolding_all rfl) | exact ofB (by with_unfolding_all rfl) | omega | (simp only [go_sem, maxLen_eq]; omega)) only [go_sem, Nat.reduceAdd, Nat.reduceBEq, f_laws_FnExactStrewn, c_laws_FnExactStrewn, hsz, hsa]
    · rw [if_neg ha] at hsa
      have hl' : l.length ≤ 1048576 := by omega
      have hw' : ws.length ≤ 1048576 := by omega
      have hk' : ∀ x ∈ l, x.keep.length ≤ 1048576 := fun x hx => by have := keep_le hx; omega
      have h1 := run_toActS (d := d) l hl' hk'
      have h1a := run_toStrewS (d := d + 1) ws hw'
      have h2 := run_spec_Strewn (d := d) l ws hl' hw' hk'
      have h3 := run_impl_Strewn (d := d) l ws hl' hw' hk'
      obtain ⟨hd, hs⟩ := strewn_len l ws
      have hk2 : ∀ x ∈ (strewn l ws).1, x.keep.length ≤ 1048576 := fun x hx => by have := keep_le hx; omega
      have h4 := run_eqActS (d := d) (strewn l ws).1 (by omega) hk2
      have h5 := run_eqActS (d := d) l hl' hk'
      have h5a := run_eqStrewS (d := d + 1) ws hw'
      have w1 := wsum_keeps l
      have w2 := wsum_keeps (strewn l ws).1
      have h6 := run_markActS (d := d + 1) l 1 (by omega) (by omega) hl' hk'
      have h6a := run_markStrewS (Φ := T (d + 2)) (N := fuel) ws (1 + wsum wAct (keeps l)) (by omega) (by omega) (lt_fuel (by omega))
      have h7 := run_markActS (d := d + 1) (strewn l ws).1 1 (by omega) (by omega) (by omega) hk2
      have h8 := run_heldActS (d := d + 1) (keeps (strewn l ws).1) 1 (by omega) (by omega) (by rw [keeps_length]; omega) (fun n hn => by
        obtain ⟨x, hx, rfl⟩ := List.mem_map.1 hn
        exact hk2 x hx)
      generalize (strewn l ws).1 = D at *
      generalize (strewn l ws).2 = b at *
      cases b
      · simp (maxSteps := 3000000) (implicitDefEqProofs := false) (disch := first | assumption | exact ofR (by with_unfolding_all rfl) | exact ofB (by with_unfolding_all rfl) | omega | (simp only [go_sem, maxLen_eq]; omega)) only [go_sem, Nat.reduceAdd, Nat.reduceBEq, f_laws_FnExactStrewn, c_laws_FnExactStrewn, bne_self_eq_false, hsz, hsa, h1, h1a, h2, h3, h4, h5, h5a, h6, h6a, h7, h8]
      · simp (maxSteps := 3000000) (implicitDefEqProofs := false) (disch := first | assumption | exact ofR (by with_unfolding_all rfl) | exact ofB (by with_unfolding_all rfl) | omega | (simp only [go_sem, maxLen_eq]; omega)) only [go_sem, Nat.reduceAdd, Nat.reduceBEq, f_laws_FnExactStrewn, c_laws_FnExactStrewn, bne_self_eq_false, hsz, hsa, h1, h1a, h2, h3, h4, h5, h5a, h6, h6a, h7, h8]
end Go.Proofs.Ytkoljcjliihiiaa.VM

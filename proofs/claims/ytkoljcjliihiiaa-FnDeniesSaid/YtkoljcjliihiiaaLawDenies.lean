/- FnDenies: what drawn answers are denied. -/
import Derived.Test.YtkoljcjliihiiaaLawDeny
import Derived.Test.YtkoljcjliihiiaaLawRead
namespace Go.Proofs.Ytkoljcjliihiiaa.VM
open Go Sy
variable {Φ : Nat → Option Callee} {N : Nat}

theorem run_big (l : List PV) (h : l.length ≤ 9223372036854775807) : runFn Φ N f_laws_big [.sl true t_u8 l] = some ([.a (.bool (decide (1048576 < (l.length : Int))))], []) := by
  rw [fn_run rfl]
  simp (disch := first | assumption | exact ofR (by with_unfolding_all rfl) | exact ofB (by with_unfolding_all rfl) | omega | (simp only [go_sem, maxLen_eq]; omega)) only [go_sem, Nat.reduceAdd, f_laws_big, c_laws_big]

theorem run_l1Open (l : List PV) : runFn Φ N f_spec_l1Open [.sl true t_u8 l] = some ([.bx false [.sl true t_u8 l, .a (.int .i64 0)]], []) := by
  rw [fn_run rfl]
  simp (disch := first | assumption | exact ofR (by with_unfolding_all rfl) | exact ofB (by with_unfolding_all rfl) | omega | (simp only [go_sem, maxLen_eq]; omega)) only [go_sem, Nat.reduceAdd, f_spec_l1Open, c_spec_l1Open]

theorem DrawDenyOf_loop {d : Nat} {bs : List Nat} (hb : Bs bs) {p : Nat} (hp : p ≤ bs.length) {n : Nat} (hn : n ≤ 20) (r : List It) : ∃ (l : List Ans) (q : Nat), l.length ≤ 20 ∧ q ≤ bs.length ∧
    goP (T (d + 4)) fuel [3,4,5] c_spec_DrawDenyOf_L0 r ⟨[(3, .rf 0), (4, .rf 1), (5, .a (.int .i64 n))], [(0, some (.bx false [.sz t_u8 (bs.map eU8), .a (.int .i64 p)])), (1, some (.sl false 0 t_impl_Answer []))], 2⟩ =
    goE (T (d + 4)) fuel r 0 [(3, .rf 0), (4, .rf 1), (5, .a (.int .i64 0)), (12, .a (.bool false))] [(0, some (.bx false [.sz t_u8 (bs.map eU8), .a (.int .i64 q)])), (1, some (.sl false 0 t_impl_Answer (l.map eAns)))] 202 := by
  refine (loop_inv (Φ := T (d + 4)) (N := fuel) (live := [3,4,5]) (b := c_spec_DrawDenyOf_L0) (r := r) (m := n)
    (fun k s => ∃ (l : List Ans) (q : Nat), l.length + k ≤ 20 ∧ q ≤ bs.length ∧ s = ⟨[(3, .rf 0), (4, .rf 1), (5, .a (.int .i64 k))], [(0, some (.bx false [.sz t_u8 (bs.map eU8), .a (.int .i64 q)])), (1, some (.sl false 0 t_impl_Answer (l.map eAns)))], 2⟩)
    (fun o e => ∃ (l : List Ans) (q : Nat), l.length ≤ 20 ∧ q ≤ bs.length ∧ o = .ext 0 ∧ e = ⟨[(3, .rf 0), (4, .rf 1), (5, .a (.int .i64 0)), (12, .a (.bool false))], [(0, some (.bx false [.sz t_u8 (bs.map eU8), .a (.int .i64 q)])), (1, some (.sl false 0 t_impl_Answer (l.map eAns)))], 202⟩)
    (lt_fuel (by omega)) ⟨[], p, by simpa using hn, hp, rfl⟩ ?_).elim fun o ⟨e, he, ho, hr⟩ => ?_
  · rintro k s hk ⟨l, q, hl, hq, rfl⟩
    cases k with
    | zero =>
      right
      refine ⟨.ext 0, _, by simp, ?_, l, q, hl, hq, rfl, rfl⟩
      unfold round c_spec_DrawDenyOf_L0
      simp (disch := first | assumption | exact ofR (by with_unfolding_all rfl) | exact ofB (by with_unfolding_all rfl) | omega | (simp only [go_sem, maxLen_eq]; omega)) only [go_sem, Nat.reduceAdd, Int.ofNat_zero]
    | succ k =>
      left
      obtain ⟨c, q1, hc1, hc2, hq1, he1⟩ := run_off (d := d) hb hq 0 14 (by omega) (by omega) (by omega)
      obtain ⟨m, q2, hm, hq2, he2⟩ := run_below (d := d + 2) hb hq1 3 (by omega) (by omega)
      have hw : IntKind.i64.wrap (((k + 1 : Nat) : Int) - 1) = k := by rw [wrap_i64] <;> omega
      have hpos : (0 : Int) < ((k + 1 : Nat) : Int) := by omega
      refine ⟨k, ⟨[(3, .rf 0), (4, .rf 1), (5, .a (.int .i64 k))], [(0, some (.bx false [.sz t_u8 (bs.map eU8), .a (.int .i64 q2)])), (1, some (.sl false 0 t_impl_Answer ((l ++ [(⟨c, m⟩ : Ans)]).map eAns)))], 2⟩, rfl, ?_, l ++ [(⟨c, m⟩ : Ans)], q2, by simp; omega, hq2, rfl⟩
      rw [map_snoc]
      unfold round c_spec_DrawDenyOf_L0
      simp (disch := first | assumption | exact ofR (by with_unfolding_all rfl) | exact ofB (by with_unfolding_all rfl) | omega | (simp only [go_sem, maxLen_eq]; omega)) only [go_sem, Nat.reduceAdd, he1, he2, hw, hpos]
      rfl
  · obtain ⟨l, q, h1, h2, rfl, rfl⟩ := he
    exact ⟨l, q, h1, h2, hr⟩

theorem run_DrawDenyOf {d : Nat} {bs : List Nat} (hb : Bs bs) : ∃ l : List Ans, l.length ≤ 61 ∧ runFn (T (d + 4)) fuel f_spec_DrawDenyOf [.sl true t_u8 (bs.map eU8)] = some ([.sl false t_impl_Answer (l.map eAns)], []) := by
  have h1 := run_l1Open (Φ := T (d + 3)) (N := fuel) (bs.map eU8)
  obtain ⟨v, q, hv, hq, he⟩ := run_below (d := d + 2) hb (Nat.zero_le _) 20 (by omega) (by omega)
  rw [show ((0 : Nat) : Int) = 0 from rfl] at he
  rw [fn_run rfl]
  simp (disch := first | assumption | exact ofR (by with_unfolding_all rfl) | exact ofB (by with_unfolding_all rfl) | omega | (simp only [go_sem, maxLen_eq]; omega)) only [go_sem, Nat.reduceAdd, f_spec_DrawDenyOf, c_spec_DrawDenyOf, h1, he]
  rw [show norm _ _ = (⟨[(3, .rf 0), (4, .rf 1), (5, .a (.int .i64 v))], [(0, some (.bx false [.sz t_u8 (bs.map eU8), .a (.int .i64 q)])), (1, some (.sl false 0 t_impl_Answer []))], 2⟩ : St) from rfl]
  obtain ⟨l, q1, hl, hq1, he1⟩ := DrawDenyOf_loop (d := d) hb hq (n := v) (by omega) _
  rw [he1]
  obtain ⟨b, q2, hq2, he2⟩ := run_once (d := d + 1) hb hq1 30 (by omega) (by omega)
  cases b with
  | false =>
    refine ⟨l, by omega, ?_⟩
    simp (disch := first | assumption | exact ofR (by with_unfolding_all rfl) | exact ofB (by with_unfolding_all rfl) | omega | (simp only [go_sem, maxLen_eq]; omega)) only [go_sem, Nat.reduceAdd, he2]
  | true =>
    obtain ⟨u, q3, hu, hq3, he3⟩ := run_below (d := d + 2) hb hq2 2 (by omega) (by omega)
    have hw : IntKind.i64.wrap (60 + (u : Int)) = ((60 + u : Nat) : Int) := by rw [wrap_i64] <;> omega
    refine ⟨List.replicate (60 + u) ⟨0, 0⟩, by simp; omega, ?_⟩
    rw [List.map_replicate]
    simp (disch := first | assumption | exact ofR (by with_unfolding_all rfl) | exact ofB (by with_unfolding_all rfl) | omega | (simp only [go_sem, maxLen_eq]; omega)) only [go_sem, Nat.reduceAdd, he2, he3, hw]
theorem Denies_loop (l : List Ans) (hl : l.length ≤ 60) (hN : 60 < N) (r : List It) :
    goP Φ N [3,4,5] c_laws_FnDenies_L0 r ⟨[(3, .rf 0), (4, .rf 1), (5, .a (.int .i64 0))], [(0, some (.sl false 0 t_impl_Answer (l.map eAns))), (1, some (.sl false 0 t_i64 ((l.map deny).map eInt)))], 2⟩ =
    goE Φ N r 0 [(3, .rf 0), (4, .rf 1), (5, .a (.int .i64 l.length)), (23, .a (.bool false))] [(0, some (.sl false 0 t_impl_Answer (l.map eAns))), (1, some (.sl false 0 t_i64 ((l.map deny).map eInt)))] 402 := by
  refine loop_all (fun i => ⟨[(3, .rf 0), (4, .rf 1), (5, .a (.int .i64 (i : Nat)))], [(0, some (.sl false 0 t_impl_Answer (l.map eAns))), (1, some (.sl false 0 t_i64 ((l.map deny).map eInt)))], 2⟩) ⟨_, _, _⟩ (m := l.length) (by omega) (fun i hi => ?_) ?_
  · obtain ⟨a, ha⟩ : ∃ a, l[i]? = some a := ⟨_, List.getElem?_eq_getElem hi⟩
    have hw := wrap_succ i (by omega)
    have hD : (l.map deny)[i]? = some (deny a) := by rw [List.getElem?_map, ha]; rfl
    have hL : (l.map deny).length = l.length := by simp
    generalize l.map deny = D at *
    unfold round c_laws_FnDenies_L0
    by_cases c1 : a.code = 10
    · simp (disch := first | assumption | exact ofR (by with_unfolding_all rfl) | exact ofB (by with_unfolding_all rfl) | omega | (simp only [go_sem, maxLen_eq]; omega)) only [go_sem, Nat.reduceAdd, ha, hD, hL, hw, c1, deny]
      rfl
    · by_cases c2 : a.code = 11
      · simp (disch := first | assumption | exact ofR (by with_unfolding_all rfl) | exact ofB (by with_unfolding_all rfl) | omega | (simp only [go_sem, maxLen_eq]; omega)) only [go_sem, Nat.reduceAdd, ha, hD, hL, hw, c2, deny]
        rfl
      · by_cases c3 : a.code = 12
        · simp (disch := first | assumption | exact ofR (by with_unfolding_all rfl) | exact ofB (by with_unfolding_all rfl) | omega | (simp only [go_sem, maxLen_eq]; omega)) only [go_sem, Nat.reduceAdd, ha, hD, hL, hw, c3, deny]
          rfl
        · simp (disch := first | assumption | exact ofR (by with_unfolding_all rfl) | exact ofB (by with_unfolding_all rfl) | omega | (simp only [go_sem, maxLen_eq]; omega)) only [go_sem, Nat.reduceAdd, ha, hD, hL, hw, c1, c2, c3, deny]
          rfl
  · have hL : (l.map deny).length = l.length := by simp
    generalize l.map deny = D at *
    unfold round c_laws_FnDenies_L0
    simp (disch := first | assumption | exact ofR (by with_unfolding_all rfl) | exact ofB (by with_unfolding_all rfl) | omega | (simp only [go_sem, maxLen_eq]; omega)) only [go_sem, Nat.reduceAdd, hL]

theorem law_Denies {d : Nat} (bs : List Nat) (hb : ∀ x ∈ bs, x < 256) (hl : bs.length ≤ 9223372036854775807) : runFn (T (d + 5)) fuel f_laws_FnDenies [.sl true t_u8 (bs.map eU8)] = some ([.a (.bool true)], []) := by
  have hbig := run_big (Φ := T (d + 4)) (N := fuel) (bs.map eU8) (by simpa using hl)
  rw [List.length_map] at hbig
  rw [fn_run rfl]
  by_cases h : (1048576 : Int) < bs.length
  · simp (disch := first | assumption | exact ofR (by with_unfolding_all rfl) | exact ofB (by with_unfolding_all rfl) | omega | (simp only [go_sem, maxLen_eq]; omega)) only [go_sem, Nat.reduceAdd, f_laws_FnDenies, c_laws_FnDenies, hbig, h]
  · obtain ⟨l, hl1, h1⟩ := run_DrawDenyOf (d := d) ⟨by omega, hb⟩
    have h2 := run_impl_DenyOf (Φ := T (d + 4)) (N := fuel) l (lt_fuel (by omega))
    by_cases h60 : l.length ≤ 60
    · have h60' : ¬ (60 : Int) < l.length := by omega
      have hL : (l.map deny).length = l.length := by simp
      rw [if_pos h60] at h2
      have key := fun r => Denies_loop (Φ := T (d + 5)) (N := fuel) l h60 (lt_fuel (by omega)) r
      generalize l.map deny = D at *
      simp (disch := first | assumption | exact ofR (by with_unfolding_all rfl) | exact ofB (by with_unfolding_all rfl) | omega | (simp only [go_sem, maxLen_eq]; omega)) only [go_sem, Nat.reduceAdd, f_laws_FnDenies, c_laws_FnDenies, hbig, h, h1, h2, h60, h60']
      rw [show norm _ _ = (⟨[(3, .rf 0), (4, .rf 1), (5, .a (.int .i64 0))], [(0, some (.sl false 0 t_impl_Answer (l.map eAns))), (1, some (.sl false 0 t_i64 (D.map eInt)))], 2⟩ : St) from rfl, key]
      simp (disch := first | assumption | exact ofR (by with_unfolding_all rfl) | exact ofB (by with_unfolding_all rfl) | omega | (simp only [go_sem, maxLen_eq]; omega)) only [go_sem, Nat.reduceAdd, hL]
    · have h60' : (60 : Int) < l.length := by omega
      rw [if_neg h60] at h2
      simp (disch := first | assumption | exact ofR (by with_unfolding_all rfl) | exact ofB (by with_unfolding_all rfl) | omega | (simp only [go_sem, maxLen_eq]; omega)) only [go_sem, Nat.reduceAdd, f_laws_FnDenies, c_laws_FnDenies, hbig, h, h1, h2, h60, h60']
end Go.Proofs.Ytkoljcjliihiiaa.VM

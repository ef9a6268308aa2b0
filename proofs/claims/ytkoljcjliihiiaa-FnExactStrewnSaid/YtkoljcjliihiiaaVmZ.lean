/- The interpreter 'VM': a function of the program keeps the contract that the interpreter computes for it (the theorem). -/
import Derived.Test.YtkoljcjliihiiaaVmV
namespace Go.Proofs.Ytkoljcjliihiiaa.VM
open Go

theorem resLow_spec : ∀ {rs : List ResultVar}, resLow rs = true → ∀ r ∈ rs, ∀ t, (r = .tmp t ∨ ∃ x, r = .cell t x) → t < 10000
  | [], _, r, hr, _, _ => by cases hr
  | .tmp t :: rs, h, r, hr, t', ht => by
    simp only [resLow, Bool.and_eq_true, decide_eq_true_eq] at h
    rcases List.mem_cons.1 hr with rfl | hr
    · rcases ht with ht | ⟨x, ht⟩
      · cases ht; exact h.1
      · cases ht
    · exact resLow_spec h.2 r hr t' ht
  | .cell t x :: rs, h, r, hr, t', ht => by
    simp only [resLow, Bool.and_eq_true, decide_eq_true_eq] at h
    rcases List.mem_cons.1 hr with rfl | hr
    · rcases ht with ht | ⟨x, ht⟩
      · cases ht
      · cases ht; exact h.1
    · exact resLow_spec h.2 r hr t' ht

theorem results_run {P : Program} {fn : Func} {tmps : Array Value} {vs : List Value} {w : World} (h : (fn.results.toList.mapM (resStep tmps)).run P w = .ok vs w) : (results fn tmps).run P w = .ok (resV vs) w := by
  have e : results fn tmps = (do let vs ← fn.results.mapM (resStep tmps); pure (if h : vs.size = 1 then vs[0] else .tuple vs)) := by
    unfold results
    congr 1
  rw [e, Array.mapM_eq_mapM_toList]
  simp only [map_eq_pure_bind, Sem.run_bind, h, Result.andThen_ok, Sem.run_pure]
  cases vs with
  | nil => rfl
  | cons v vs =>
    cases vs with
    | nil => rfl
    | cons u vs => rfl

/-- What the code makes of a frame if the interpreter makes 'vc' of it: from one beginning. -/
def Sim0 (cx : Cx) (Φ : Nat → Option Callee) (N : Nat) (a0 : Act) (w : World) (c : Code) (vc : VC) : Prop :=
  ∀ (st : St) (out : Out) (st' : St) (Q : Exit → Act → World → Prop), Inv cx st a0 w → run Φ N vc st = some (out, st') → (∀ a w, Inv cx st' a w → Q out.exit a w) → c.wp cx.P Q a0 w

theorem fn_runs0 {P : Program} {Φ : Nat → Option Callee} {f : FuncId} {fn : Func} {v : Fn} (hf : P.funcs[f]? = some fn) (hname : (fn.name == "runtime.NumGoroutine") = false)
    {c : Code} (hbody : fn.body = some c) (hres : cRes P fn.results.toList = some v.results) (hml : v.modes.length ≤ fn.ntmps) (hsm : fn.ntmps ≤ 10000) (hlow : resLow fn.results.toList = true)
    {N : Nat} {w : World} {Z : Cells} {cs : List CV} {args : List Value} {F : Cells} {rs fs : List CV}
    (hsim : ∀ (cx : Cx) (a0 : Act), cx.P = P → cx.n = fn.ntmps → a0.tmps = args.toArray ++ Array.replicate (fn.ntmps - args.toArray.size) undef → Sim0 cx Φ N a0 w c v.body) (hc : CRL P w Z cs args F) (hZ : ∀ b o, Z b o → b < w.heap.size ∧ ¬ F b o) (hF : ∀ b o, F b o → b < w.heap.size)
    (hk : v.keeps = false → cnofzL cs) (hgo : runFn Φ N v cs = some (rs, fs)) :
    Answers P f args.toArray w fun u w' => ∃ vs Fr, u = resV vs ∧ vs.length = rs.length ∧ Kept w w' F ∧ CRL P w' (outs v.keeps Z) (rs ++ fs) (vs ++ muts v.modes args) Fr ∧
      ∀ b o, Fr b o → (F b o ∨ w.heap.size ≤ b) ∧ b < w'.heap.size := by
  unfold runFn at hgo
  split at hgo
  · rename_i hlen
    split at hgo
    · rename_i tvs b s hun
      split at hgo
      · cases hgo
      · rename_i out st' hnext hrun
        obtain ⟨r, hto, hrf⟩ := Option.map_eq_some_iff.1 hgo
        obtain ⟨rf, s9⟩ := r
        simp only at hrf
        subst hrf
        have hal : args.length = cs.length := hc.length
        -- the frame at the beginning
        let cx : Cx := { P := P, w0 := w, M0 := F, Z := Z, n := fn.ntmps, args := args.toArray }
        let a0 : Act := { tmps := args.toArray ++ Array.replicate (fn.ntmps - args.toArray.size) undef, defers := [] }
        have hg0 : G cx (fun _ => False) F (fun _ => .bool false) (fun _ => Nil) { slots := [], nodes := [], next := 0 } a0 w := by
          constructor
          case slots => intro t; exact .un _
          case ids => intro t; trivial
          case nodes => intro id n hn; cases hn
          case used => intro id n hn; cases hn
          case apart => intro i j _ hi; cases hi
          case apartX => intro i hi; cases hi
          case mine => intro i hi; cases hi
          case mineX => intro b o hb; exact ⟨fun hz => (hZ b o hz).2 hb, .inl hb, hF b o hb⟩
          case one => intro i; rfl
          case kept => exact Kept.refl _ _
          case zold => exact hZ
          case size => simp [a0, cx]; omega
          case small => exact hsm
          case defers => rfl
        have hgs0 := hg0.toGS (V := b + 1) ⟨by omega, fun h => h⟩
        obtain ⟨ρ1, F1, sh1, hg1, ht1, hi1, _⟩ := unpackL_ok hgs0 (fun _ _ _ h => h) hc (fun _ _ h => h) hun (by simp)
        have hG1 : G cx (fun k => k < b + 1) (fun _ _ => False) ρ1 F1 s a0 w := (hg1.toG (U' := fun k => k < b + 1) (fun k hk => by
          rcases hk with hk | hk
          · exact hk.elim
          · have := hk.2; omega) (by show b + 1 - 1 < b + 1; omega)).less fun _ _ h => h.elim
        have ht1' : TRL P w Z ρ1 F1 (shapeOf s) tvs args := .of ht1.length fun i c u k1 k2 => (ht1.get i c u k1 k2).shape (idsInL_get hi1 k1) hg1.shape
        have hi1' : idsInL (fun k => k < b + 1) tvs := idsInL.mono (fun k hk => by
          rcases hk with hk | hk
          · exact hk.elim
          · have := hk.2; omega) hi1
        have htl : tvs.length = args.length := ht1.length.symm
        have hq1 : Qok s := ((if hkk : v.keeps = false then (q_unpackL v.keeps cs 0 fun _ => hk hkk) else q_unpackL v.keeps cs 0 fun h => absurd h hkk) _ _ _ hun (fun id ver e es hn => by cases hn)).1
        -- the body runs
        have hI : Inv cx { slots := (List.range tvs.length).zip tvs ++ rootsOf 0 v.modes tvs, nodes := s.nodes, next := b + 1 } a0 w := by
          refine ⟨⟨fun k => k < b + 1, fun _ h => h, ρ1, F1, ?_⟩, hq1⟩
          have hslot : ∀ t, (({ slots := (List.range tvs.length).zip tvs ++ rootsOf 0 v.modes tvs, nodes := s.nodes, next := b + 1 } : St).slot t = .un) ∨
              ∃ i c, (t = i ∨ t = 10000 + i) ∧ tvs[i]? = some c ∧ ({ slots := (List.range tvs.length).zip tvs ++ rootsOf 0 v.modes tvs, nodes := s.nodes, next := b + 1 } : St).slot t = c := by
            intro t
            simp only [St.slot]
            cases hl : look ((List.range tvs.length).zip tvs ++ rootsOf 0 v.modes tvs) t with
            | none => exact .inl rfl
            | some c =>
              right
              rcases List.mem_append.1 (look_mem hl) with hm | hm
              · obtain ⟨i, hi⟩ := List.mem_iff_getElem?.1 hm
                rw [List.getElem?_zip_eq_some] at hi
                obtain ⟨h1, h2⟩ := hi
                have : i = t := by
                  have hlt := (List.getElem?_eq_some_iff.1 h1).1
                  simp only [List.length_range] at hlt
                  rw [List.getElem?_range hlt] at h1
                  exact Option.some.inj h1
                exact ⟨i, c, .inl this.symm, h2, rfl⟩
              · obtain ⟨i, h1, h2⟩ := roots_mem hm
                exact ⟨i, c, .inr (by omega), h2, rfl⟩
          constructor
          case slots =>
            intro t
            rcases hslot t with hu | ⟨i, c, hti, hc', hs⟩
            · rw [hu]; exact .un _
            · rw [hs]
              have hil : i < args.length := by rw [← htl]; exact (List.getElem?_eq_some_iff.1 hc').1
              have hval : cx.val a0.tmps t = args[i] := by
                unfold Cx.val
                rcases hti with rfl | rfl
                · rw [if_pos (by omega)]
                  simp only [a0, Array.getD_eq_getD_getElem?, Array.getElem?_append, List.size_toArray, hil, if_true]
                  simp [hil]
                · rw [if_neg (by omega)]
                  simp [cx, hil]
              rw [hval]
              exact ht1'.get i c _ hc' (List.getElem?_eq_getElem hil)
          case ids =>
            intro t
            rcases hslot t with hu | ⟨i, c, hti, hc', hs⟩
            · rw [hu]; trivial
            · rw [hs]; exact idsInL_get hi1' hc'
          case nodes => exact hG1.nodes
          case used => exact hG1.used
          case apart => exact hG1.apart
          case apartX => exact hG1.apartX
          case mine => exact hG1.mine
          case mineX => exact hG1.mineX
          case one => exact hG1.one
          case kept => exact hG1.kept
          case zold => exact hG1.zold
          case size => exact hG1.size
          case small => exact hG1.small
          case defers => exact hG1.defers
        intro o a K Q hK
        have hcall : (callFunc f args.toArray).run P w = .ok (.enter f args.toArray) w := by
          unfold callFunc
          simp only [Sem.run_bind, run_program, Result.andThen_ok, hf, hname, Bool.false_eq_true, if_false, hbody, Option.isNone_some, Sem.run_pure]
        rw [hcall, Oper.upon_enter]
        refine calls_of_wp hf hbody ?_
        refine hsim cx a0 rfl rfl rfl _ out st' _ hI hrun fun a' w' hIn => ?_
        -- what comes out
        have hpost : a'.defers = [] ∧ ∃ u, (results fn a'.tmps).run P w' = .ok u w' ∧ K (a.put o.dst u) w' := by
          obtain ⟨⟨U, hU, ρ, F', hG⟩, hq⟩ := hIn
          refine ⟨hG.defers, ?_⟩
          unfold takeOut at hto
          obtain ⟨ts, s2, h1, h2⟩ := run_bind_some hto
          obtain ⟨rs', s3, h3, h4⟩ := run_bind_some h2
          obtain ⟨us, s4, h5, h6⟩ := run_bind_some h4
          obtain ⟨fs', s5, h7, h8⟩ := run_bind_some h6
          cases run_pure h8
          obtain ⟨e1, vs, k1, k2, k3⟩ := resTVs_ok hG hres (resLow_spec hlow) h1
          have e1 := e1.symm
          subst e1
          have hgs := hG.toGS (V := st'.next + 1) ⟨by omega, fun h => absurd (hU _ h) (by omega)⟩
          obtain ⟨Fa, sha, m1, m2, m3, m4⟩ := packAll_ok hgs k1 k2 h3
          obtain ⟨e2, n1, n2⟩ := lent_ok (vs := args) m2 h5 (by omega) (fun i u hu => by simp [cx, Array.getD_eq_getD_getElem?, hu])
          have e2 := e2.symm
          subst e2
          obtain ⟨Fb, shb, p1, p2, p3, p4⟩ := packAll_ok m2 n1 n2 h7
          refine ⟨resV vs, results_run k3, hK _ _ ⟨vs, fun b o => Fa b o ∨ Fb b o, rfl, m1.length, p2.kept, ?_, ?_⟩⟩
          · have hall := CRL.append m1 p1 fun b o ha hb => p3 b o hb (.inr ha)
            unfold outs
            cases hkk : v.keeps with
            | true =>
              exact CRL.mono (fun _ _ _ cur _ _ hb => ⟨cur, hb, rfl, rfl⟩) (fun b o hz => ⟨rfl, hz⟩) hall fun _ _ _ cur _ _ hb => ⟨cur, hb, rfl, rfl⟩
            | false =>
              rw [hkk] at h3 h7
              obtain ⟨q1, q2⟩ := o_packAll ts _ _ _ h3 hq
              obtain ⟨q3, q4⟩ := o_packAll us _ _ _ h7 q1
              exact CRL.noz hall (cownL_append q2 q4)
          · intro b o hb
            have := p2.mineX b o (hb.elim (fun h => .inl (.inr h)) .inr)
            exact ⟨this.2.1, this.2.2⟩
        cases out with
        | nrm => exact hpost
        | ret => exact hpost
        | ext id => exact (hnext id rfl).elim
      · cases hgo
    · cases hgo
  · cases hgo

theorem fn_runs {P : Program} {writes : Nat → Bool} {Φ : Nat → Option Callee} (hΦ : Good P writes Φ) (hm : P.follows .mixedOrders = true) {f : FuncId} {fn : Func} {v : Fn} (hf : P.funcs[f]? = some fn) (hname : (fn.name == "runtime.NumGoroutine") = false)
    (hv : isForm P writes fn v) {N : Nat} {w : World} {Z : Cells} {cs : List CV} {args : List Value} {F : Cells} {rs fs : List CV} (hc : CRL P w Z cs args F) (hZ : ∀ b o, Z b o → b < w.heap.size ∧ ¬ F b o) (hF : ∀ b o, F b o → b < w.heap.size)
    (hk : v.keeps = false → cnofzL cs) (hgo : runFn Φ N v cs = some (rs, fs)) :
    Answers P f args.toArray w fun u w' => ∃ vs Fr, u = resV vs ∧ vs.length = rs.length ∧ Kept w w' F ∧ CRL P w' (outs v.keeps Z) (rs ++ fs) (vs ++ muts v.modes args) Fr ∧
      ∀ b o, Fr b o → (F b o ∨ w.heap.size ≤ b) ∧ b < w'.heap.size := by
  obtain ⟨c, hbody, hcomp, hres, hml, hsm, hlow⟩ := hv
  refine fn_runs0 hf hname hbody hres hml hsm hlow (fun cx a0 hP hn _ => ?_) hc hZ hF hk hgo
  subst hP
  intro st out st' Q hI hr hQ
  rw [← hn] at hcomp
  exact run_ok hΦ hm N c _ _ _ hcomp st a0 w out st' Q hI hr hQ

theorem fn_nofz {Φ : Nat → Option Callee} (hΦ : ∀ f, Nofz (Φ f)) {v : Fn} (hk : v.keeps = false) {N : Nat} {cs rs fs : List CV} (hc : cnofzL cs) (hgo : runFn Φ N v cs = some (rs, fs)) : cnofzL (rs ++ fs) := by
  unfold runFn at hgo
  split at hgo
  · split at hgo
    · rename_i tvs b s hun
      split at hgo
      · cases hgo
      · rename_i out st' hnext hrun
        obtain ⟨r, hto, hrf⟩ := Option.map_eq_some_iff.1 hgo
        obtain ⟨rf, s9⟩ := r
        simp only at hrf
        subst hrf
        have hq1 : Qok s := (q_unpackL v.keeps cs 0 (fun _ => hc) _ _ _ hun (fun id ver e es hn => by cases hn)).1
        have hq := q_run hΦ N _ _ _ _ hrun (fun id ver e es hn => hq1 id ver e es hn)
        unfold takeOut at hto
        obtain ⟨ts, s2, h1, h2⟩ := run_bind_some hto
        obtain ⟨rs', s3, h3, h4⟩ := run_bind_some h2
        obtain ⟨us, s4, h5, h6⟩ := run_bind_some h4
        obtain ⟨fs', s5, h7, h8⟩ := run_bind_some h6
        cases run_pure h8
        rw [hk] at h3 h7
        obtain ⟨q1, q2⟩ := o_packAll ts _ _ _ h3 (q_resTVs _ _ _ _ h1 hq).1
        obtain ⟨q3, q4⟩ := o_packAll us _ _ _ h7 (q_lent _ _ _ _ _ h5 q1).1
        exact cownL.nofz (cownL_append q2 q4)
      · cases hgo
    · cases hgo
  · cases hgo

/-- What a function of the program makes of its arguments, as far as 'go' tells it. -/
theorem fn_sound {P : Program} {writes : Nat → Bool} {Φ : Nat → Option Callee} (hΦ : Good P writes Φ) (hm : P.follows .mixedOrders = true) {f : FuncId} {fn : Func} {v : Fn} (hf : P.funcs[f]? = some fn) (hname : (fn.name == "runtime.NumGoroutine") = false)
    (hv : isForm P writes fn v) {go : List CV → Option (List CV × List CV)} (hgo : ∀ cs r, go cs = some r → ∃ N, runFn Φ N v cs = some r) : Sound P f { modes := v.modes, keeps := v.keeps, scalar := v.scalar, go := go } where
  ans := by
    intro w Z cs args F rs fs hc hZ hF hk h
    obtain ⟨N, hN⟩ := hgo cs (rs, fs) h
    exact fn_runs hΦ hm hf hname hv hc hZ hF hk hN
  nofz := by
    intro hk cs rs fs hc h
    obtain ⟨N, hN⟩ := hgo cs (rs, fs) h
    exact fn_nofz hΦ.nofz hk hc hN
end Go.Proofs.Ytkoljcjliihiiaa.VM

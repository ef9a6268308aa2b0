/- The interpreter 'VM': rules for steps that are run: they are tried before the step's parts are looked at. (Printed by runlem.py, out of YtkoljcjliihiiaaVmSym.) -/
import Derived.Test.YtkoljcjliihiiaaVmSym
namespace Go.Proofs.Ytkoljcjliihiiaa.VM.Sy
open Go
section
variable {Φ : Nat → Option Callee} {N : Nat} {r : List It} {sl : Slots} {nd : Nodes} {nx : Nat}
variable {z fz q : Bool} {k n b V : Nat}
@[go_sem ↓] theorem mks_in_r {b d e by_ : Nat} {zs : List ZC} {n : Int} (h0 : 0 ≤ n) (h1 : n * by_ ≤ 140737488355328) (h2 : n ≤ 9223372036854775807) {s : St} : M.run (mksM b d e by_ zs (.a (.int .i64 n))) s = M.run ((setN b (some (.sl false 0 e (List.replicate n.toNat (zeroEl zs.length zs))))).bind fun _ => setS d (.rf b)) s := by rw [mks_in h0 h1 h2] <;> rfl
@[go_sem ↓] theorem bsl_nil_r {flat q : Bool} {m : Nat} {es : List PV} {s : St} : M.run (bslM flat m [] q es) s = M.run (.pure (es, q)) s := by rw [bsl_nil] <;> rfl
@[go_sem ↓] theorem bsl_cons_r {flat q : Bool} {m i : Nat} {x : Opd} {ps : List (Nat × Opd)} {es : List PV} {s : St} : M.run (bslM flat m ((i, x) :: ps) q es) s = M.run ((opd x).bind fun v => (toEl flat v).bind fun y => bslK flat q m i y ps es) s := by rw [bsl_cons] <;> rfl
@[go_sem ↓] theorem bsl_in_r {flat q : Bool} {m i : Nat} {y : PV × Bool} {ps : List (Nat × Opd)} {es : List PV} (h1 : y.1.cells.length = m) (h2 : i < es.length) {s : St} : M.run (bslK flat q m i y ps es) s = M.run (bslM flat m ps (q || y.2) (es.set i y.1)) s := by rw [bsl_in h1 h2] <;> rfl
@[go_sem ↓] theorem nilB_bx_r {d : Nat} {v : TV} {z : Bool} {cs : List TV} {s : St} : M.run (nilB d v (some (.bx z cs))) s = M.run (setS d v) s := by rw [nilB_bx] <;> rfl
@[go_sem ↓] theorem nilE_sl_r {d : Nat} {v : TV} {q : Bool} {ver e : Nat} {es : List PV} {s : St} : M.run (nilE d v (some (.sl q ver e es))) s = M.run (setS d v) s := by rw [nilE_sl] <;> rfl
@[go_sem ↓] theorem nil_rf_r {d id : Nat} {s : St} : M.run (nilM d (.rf id)) s = M.run ((getN id).bind (nilB d (.rf id))) s := by rw [nil_rf] <;> rfl
@[go_sem ↓] theorem nil_ad_r {d id o : Nat} {s : St} : M.run (nilM d (.ad id o)) s = M.run (setS d (.ad id o)) s := by rw [nil_ad] <;> rfl
@[go_sem ↓] theorem nil_ea_r {d id i m o : Nat} {s : St} : M.run (nilM d (.ea id i m o)) s = M.run ((getN id).bind (nilE d (.ea id i m o))) s := by rw [nil_ea] <;> rfl
@[go_sem ↓] theorem nil_ez_r {d o : Nat} {cs : List PV} {s : St} : M.run (nilM d (.ez cs o)) s = M.run (setS d (.ez cs o)) s := by rw [nil_ez] <;> rfl
@[go_sem ↓] theorem nil_fn_r {d f : Nat} {fs cs : List TV} {s : St} : M.run (nilM d (.fn f fs cs)) s = M.run (setS d (.fn f fs cs)) s := by rw [nil_fn] <;> rfl
@[go_sem ↓] theorem nil_ic_r {d t : Nat} {v : TV} {s : St} : M.run (nilM d (.ic t v)) s = M.run (setS d (.ic t v)) s := by rw [nil_ic] <;> rfl
@[go_sem ↓] theorem resS_in_r {top b : Nat} {rs : List CV} (h : b ≤ top) {s : St} : M.run (resS top b rs) s = M.run ((liftO (plainL rs)).bind fun ts => M.pure (oneOf ts)) s := by rw [resS_in h] <;> rfl
@[go_sem ↓] theorem resT_in_r {top : Nat} {r : List TV × Nat} (h : r.2 ≤ top) {s : St} : M.run (resT top r) s = M.run (.pure (oneOf r.1)) s := by rw [resT_in h] <;> rfl
@[go_sem ↓] theorem resultTV_eq_r {q : Bool} {top b : Nat} {rs : List CV} {s : St} : M.run (resultTV q top b rs) s = M.run ((unpackL q b rs).bind (resT top)) s := by rw [resultTV_eq] <;> rfl
@[go_sem ↓] theorem putO_some_r {d : Nat} {v : TV} {s : St} : M.run (putO (some d) v) s = M.run (setS d v) s := by rw [putO_some] <;> rfl
@[go_sem ↓] theorem putO_none_r {v : TV} {s : St} : M.run (putO none v) s = M.run (.pure ()) s := by rw [putO_none] <;> rfl
@[go_sem ↓] theorem stoX_some_r {x : PV} {q : Bool} {ver e : Nat} {es : List PV} {ys : List PV × Bool} {b w id i o : Nat} (h1 : ys.1.length = w) (h2 : o + w ≤ x.cells.length) {s : St} : M.run (stoX (some x) q ver e es ys b w id i o) s = M.run (setN id (some (.sl (q || ys.2) (if allAtoms ys.1 x o w then ver else b + 1) e (es.set i (setCells x o ys.1))))) s := by rw [stoX_some h1 h2] <;> rfl
@[go_sem ↓] theorem stoE_sl_r {q : Bool} {ver e : Nat} {es : List PV} {ys : List PV × Bool} {b w id i o : Nat} {s : St} : M.run (stoE (some (.sl q ver e es)) ys b w id i o) s = M.run (stoX es[i]? q ver e es ys b w id i o) s := by rw [stoE_sl] <;> rfl
@[go_sem ↓] theorem sto_ea_r {b w id i m o : Nat} {y : TV} {s : St} : M.run (storeAt b w (.ea id i m o) y) s = M.run ((toPVs y.cells).bind fun ys => (getN id).bind fun n => stoE n ys b w id i o) s := by rw [sto_ea] <;> rfl
@[go_sem ↓] theorem topvs_nil_r {s : St} : M.run (toPVs []) s = M.run (.pure ([], false)) s := by rw [topvs_nil] <;> rfl
@[go_sem ↓] theorem topvs_cons_r {x : TV} {xs : List TV} {s : St} : M.run (toPVs (x :: xs)) s = M.run ((toPV x).bind fun y => (toPVs xs).bind fun ys => .pure (y.1 :: ys.1, y.2 || ys.2)) s := by rw [topvs_cons] <;> rfl
@[go_sem ↓] theorem topv_a_r {v : Value} (h : one1 v = true) {s : St} : M.run (toPV (.a v)) s = M.run (.pure (.a v, false)) s := by rw [topv_a h] <;> rfl
@[go_sem ↓] theorem topv_nl_r {e : Nat} {s : St} : M.run (toPV (.nl e)) s = M.run (.pure (.sl e [], false)) s := by rw [topv_nl] <;> rfl
@[go_sem ↓] theorem topv_sz_r {e : Nat} {es : List PV} {s : St} : M.run (toPV (.sz e es)) s = M.run (.pure (.fz e es, true)) s := by rw [topv_sz] <;> rfl
@[go_sem ↓] theorem toel_f_a_r {v : Value} (h : one1 v = true) {s : St} : M.run (toEl true (.a v)) s = M.run (.pure (.a v, false)) s := by rw [toel_f_a h] <;> rfl
@[go_sem ↓] theorem toel_f_st_r {cs : List TV} {s : St} : M.run (toEl true (.st cs)) s = M.run ((liftO (atomPVs cs)).bind fun ys => .pure (.st ys, false)) s := by rw [toel_f_st] <;> rfl
@[go_sem ↓] theorem toel_s_st_r {cs : List TV} {s : St} : M.run (toEl false (.st cs)) s = M.run ((toPVs cs).bind fun ys => .pure (.st ys.1, ys.2)) s := by rw [toel_s_st] <;> rfl
@[go_sem ↓] theorem toel_s_a_r {v : Value} {s : St} : M.run (toEl false (.a v)) s = M.run (toPV (.a v)) s := by rw [toel_s_a] <;> rfl
@[go_sem ↓] theorem toel_s_nl_r {e : Nat} {s : St} : M.run (toEl false (.nl e)) s = M.run (toPV (.nl e)) s := by rw [toel_s_nl] <;> rfl
@[go_sem ↓] theorem toel_s_rf_r {i : Nat} {s : St} : M.run (toEl false (.rf i)) s = M.run (toPV (.rf i)) s := by rw [toel_s_rf] <;> rfl
@[go_sem ↓] theorem toel_s_sz_r {e : Nat} {es : List PV} {s : St} : M.run (toEl false (.sz e es)) s = M.run (toPV (.sz e es)) s := by rw [toel_s_sz] <;> rfl
@[go_sem ↓] theorem frz_a_r {v : Value} {s : St} : M.run (freeze z (k + 1) n (.a v)) s = M.run (.pure (.a v)) s := by rw [frz_a] <;> rfl
@[go_sem ↓] theorem frz_nl_r {e : Nat} {s : St} : M.run (freeze z (k + 1) n (.nl e)) s = M.run (.pure (.sl true e [])) s := by rw [frz_nl] <;> rfl
@[go_sem ↓] theorem frz_sz_r {e : Nat} {es : List PV} {s : St} : M.run (freeze z (k + 1) n (.sz e es)) s = M.run (.pure (.sl true e es)) s := by rw [frz_sz] <;> rfl
@[go_sem ↓] theorem frz_st_r {cs : List TV} {s : St} : M.run (freeze z (k + 1) n (.st cs)) s = M.run ((freezeL z k cs).bind fun cs' => .pure (.st cs')) s := by rw [frz_st] <;> rfl
@[go_sem ↓] theorem frz_fn_r {f : Nat} {fs cs : List TV} {s : St} : M.run (freeze z (k + 1) n (.fn f fs cs)) s = M.run ((freezeL z k fs).bind fun fs' => (freezeL z k cs).bind fun cs' => .pure (.fn f fs' cs')) s := by rw [frz_fn] <;> rfl
@[go_sem ↓] theorem frz_ic_r {t : Nat} {v : TV} {s : St} : M.run (freeze z (k + 1) n (.ic t v)) s = M.run ((freeze z k n v).bind fun v' => .pure (.ic t v')) s := by rw [frz_ic] <;> rfl
@[go_sem ↓] theorem frz_un_r {s : St} : M.run (freeze z (k + 1) n .un) s = M.run (.pure .un) s := by rw [frz_un] <;> rfl
@[go_sem ↓] theorem frzl_nil_r {s : St} : M.run (freezeL z (k + 1) []) s = M.run (.pure []) s := by rw [frzl_nil] <;> rfl
@[go_sem ↓] theorem frzl_cons_r {x : TV} {xs : List TV} {s : St} : M.run (freezeL z (k + 1) (x :: xs)) s = M.run ((freeze z k 0 x).bind fun y => (freezeL z k xs).bind fun ys => .pure (y :: ys)) s := by rw [frzl_cons] <;> rfl
@[go_sem ↓] theorem pk_a_r {v : Value} {s : St} : M.run (pack fz (k + 1) (.a v)) s = M.run (.pure (.a v)) s := by rw [pk_a] <;> rfl
@[go_sem ↓] theorem pk_nl_r {e : Nat} {s : St} : M.run (pack fz (k + 1) (.nl e)) s = M.run (.pure (.sl false e [])) s := by rw [pk_nl] <;> rfl
@[go_sem ↓] theorem pk_sz_r {e : Nat} {es : List PV} {s : St} : M.run (pack true (k + 1) (.sz e es)) s = M.run (.pure (.sl true e es)) s := by rw [pk_sz] <;> rfl
@[go_sem ↓] theorem pk_st_r {cs : List TV} {s : St} : M.run (pack fz (k + 1) (.st cs)) s = M.run ((packL fz k cs).bind fun cs' => .pure (.st cs')) s := by rw [pk_st] <;> rfl
@[go_sem ↓] theorem pk_fn_r {f : Nat} {fs cs : List TV} {s : St} : M.run (pack fz (k + 1) (.fn f fs cs)) s = M.run ((packL fz k fs).bind fun fs' => (packL fz k cs).bind fun cs' => .pure (.fn f fs' cs')) s := by rw [pk_fn] <;> rfl
@[go_sem ↓] theorem pk_ic_r {t : Nat} {v : TV} {s : St} : M.run (pack fz (k + 1) (.ic t v)) s = M.run ((pack fz k v).bind fun v' => .pure (.ic t v')) s := by rw [pk_ic] <;> rfl
@[go_sem ↓] theorem pk_un_r {s : St} : M.run (pack fz (k + 1) .un) s = M.run (.pure .un) s := by rw [pk_un] <;> rfl
@[go_sem ↓] theorem pkl_nil_r {s : St} : M.run (packL fz (k + 1) []) s = M.run (.pure []) s := by rw [pkl_nil] <;> rfl
@[go_sem ↓] theorem pkl_cons_r {x : TV} {xs : List TV} {s : St} : M.run (packL fz (k + 1) (x :: xs)) s = M.run ((pack fz k x).bind fun y => (packL fz k xs).bind fun ys => .pure (y :: ys)) s := by rw [pkl_cons] <;> rfl
@[go_sem ↓] theorem unp_a_r {v : Value} {s : St} : M.run (unpack q b (.a v)) s = M.run (.pure (.a v, b)) s := by rw [unp_a] <;> rfl
@[go_sem ↓] theorem unp_t_r {e : Nat} {es : List PV} {s : St} : M.run (unpack q b (.sl true e es)) s = M.run (.pure (.sz e es, b)) s := by rw [unp_t] <;> rfl
@[go_sem ↓] theorem unp_f_r {e : Nat} {es : List PV} {s : St} : M.run (unpack q b (.sl false e es)) s = M.run ((setN b (some (.sl q 0 e es))).bind fun _ => .pure (.rf b, b + 1)) s := by rw [unp_f] <;> rfl
@[go_sem ↓] theorem unp_bx_r {cs : List CV} {s : St} : M.run (unpack q b (.bx z cs)) s = M.run ((unpackL q (b + 1) cs).bind fun r => (setN b (some (.bx z r.1))).bind fun _ => .pure (.rf b, r.2)) s := by rw [unp_bx] <;> rfl
@[go_sem ↓] theorem unp_st_r {cs : List CV} {s : St} : M.run (unpack q b (.st cs)) s = M.run ((unpackL q b cs).bind fun r => .pure (.st r.1, r.2)) s := by rw [unp_st] <;> rfl
@[go_sem ↓] theorem unp_tp_r {cs : List CV} {s : St} : M.run (unpack q b (.tp cs)) s = M.run ((unpackL q b cs).bind fun r => .pure (.tp r.1, r.2)) s := by rw [unp_tp] <;> rfl
@[go_sem ↓] theorem unp_fn_r {f : Nat} {fs cs : List CV} {s : St} : M.run (unpack q b (.fn f fs cs)) s = M.run ((unpackL q b fs).bind fun p => (unpackL q p.2 cs).bind fun r => .pure (.fn f p.1 r.1, r.2)) s := by rw [unp_fn] <;> rfl
@[go_sem ↓] theorem unp_ic_r {t : Nat} {v : CV} {s : St} : M.run (unpack q b (.ic t v)) s = M.run ((unpack q b v).bind fun r => .pure (.ic t r.1, r.2)) s := by rw [unp_ic] <;> rfl
@[go_sem ↓] theorem unp_un_r {s : St} : M.run (unpack q b .un) s = M.run (.pure (.un, b)) s := by rw [unp_un] <;> rfl
@[go_sem ↓] theorem rst_sl_r {id e0 e : Nat} {es0 es : List PV} {s : St} : M.run (restore q V b (.rf id) (.sl false e0 es0) (.sl false e es)) s = M.run ((getN id).bind fun m => if m.isNone ∧ e0 = e then (setN id (some (.sl q V e es))).bind fun _ => .pure b else .fail) s := by rw [rst_sl] <;> rfl
@[go_sem ↓] theorem rst_bx_r {id : Nat} {cs0 cs : List CV} {s : St} : M.run (restore q V b (.rf id) (.bx false cs0) (.bx false cs)) s = M.run ((getN id).bind fun m => if m.isNone then (unpackL q b cs).bind fun r => (setN id (some (.bx false r.1))).bind fun _ => .pure r.2 else .fail) s := by rw [rst_bx] <;> rfl
@[go_sem ↓] theorem rst_fn_r {f f0 f1 : Nat} {fs cs : List TV} {fs0 cs0 fs1 cs1 : List CV} {s : St} : M.run (restore q V b (.fn f fs cs) (.fn f0 fs0 cs0) (.fn f1 fs1 cs1)) s = M.run ((restoreL q V b fs fs0 fs1).bind fun b' => restoreL q V b' cs cs0 cs1) s := by rw [rst_fn] <;> rfl
@[go_sem ↓] theorem rst_st_r {cs : List TV} {cs0 cs1 : List CV} {s : St} : M.run (restore q V b (.st cs) (.st cs0) (.st cs1)) s = M.run (restoreL q V b cs cs0 cs1) s := by rw [rst_st] <;> rfl
@[go_sem ↓] theorem rst_ic_r {t t0 t1 : Nat} {x : TV} {x0 x1 : CV} {s : St} : M.run (restore q V b (.ic t x) (.ic t0 x0) (.ic t1 x1)) s = M.run (restore q V b x x0 x1) s := by rw [rst_ic] <;> rfl
@[go_sem ↓] theorem rst_a_r {v : Value} {c0 c : CV} {s : St} : M.run (restore q V b (.a v) c0 c) s = M.run (.pure b) s := by rw [rst_a] <;> rfl
@[go_sem ↓] theorem rst_nl_r {e : Nat} {c0 c : CV} {s : St} : M.run (restore q V b (.nl e) c0 c) s = M.run (.pure b) s := by rw [rst_nl] <;> rfl
@[go_sem ↓] theorem rst_sz_r {e : Nat} {es : List PV} {c0 c : CV} {s : St} : M.run (restore q V b (.sz e es) c0 c) s = M.run (.pure b) s := by rw [rst_sz] <;> rfl
@[go_sem ↓] theorem rst_un_r {c0 c : CV} {s : St} : M.run (restore q V b .un c0 c) s = M.run (.pure b) s := by rw [rst_un] <;> rfl
@[go_sem ↓] theorem ld0_a_r {v : Value} {s : St} : M.run (lend0 q (.a v)) s = M.run (pack q 40 (.a v)) s := by rw [ld0_a] <;> rfl
@[go_sem ↓] theorem ld0_nl_r {e : Nat} {s : St} : M.run (lend0 q (.nl e)) s = M.run (pack q 40 (.nl e)) s := by rw [ld0_nl] <;> rfl
@[go_sem ↓] theorem ld0_rf_r {id : Nat} {s : St} : M.run (lend0 q (.rf id)) s = M.run (pack q 40 (.rf id)) s := by rw [ld0_rf] <;> rfl
@[go_sem ↓] theorem ld0_ri_r {id ver : Nat} {p : List (Nat × Nat × Nat)} {s : St} : M.run (lend0 q (.ri id ver p)) s = M.run (.pure .un) s := by rw [ld0_ri] <;> rfl
@[go_sem ↓] theorem ld0_sz_r {e : Nat} {es : List PV} {s : St} : M.run (lend0 q (.sz e es)) s = M.run (pack q 40 (.sz e es)) s := by rw [ld0_sz] <;> rfl
@[go_sem ↓] theorem ld0_st_r {cs : List TV} {s : St} : M.run (lend0 q (.st cs)) s = M.run (pack q 40 (.st cs)) s := by rw [ld0_st] <;> rfl
@[go_sem ↓] theorem ld0_fn_r {f : Nat} {fs cs : List TV} {s : St} : M.run (lend0 q (.fn f fs cs)) s = M.run (pack q 40 (.fn f fs cs)) s := by rw [ld0_fn] <;> rfl
@[go_sem ↓] theorem ld0_ic_r {t : Nat} {v : TV} {s : St} : M.run (lend0 q (.ic t v)) s = M.run (pack q 40 (.ic t v)) s := by rw [ld0_ic] <;> rfl
@[go_sem ↓] theorem ld0_un_r {s : St} : M.run (lend0 q .un) s = M.run (pack q 40 .un) s := by rw [ld0_un] <;> rfl
@[go_sem ↓] theorem ld1_a_r {v : Value} {y : CV} {s : St} : M.run (lend1 q V (.a v) y) s = M.run (.pure y) s := by rw [ld1_a] <;> rfl
@[go_sem ↓] theorem ld1_nl_r {e : Nat} {y : CV} {s : St} : M.run (lend1 q V (.nl e) y) s = M.run (.pure y) s := by rw [ld1_nl] <;> rfl
@[go_sem ↓] theorem ld1_rf_r {id : Nat} {y : CV} {s : St} : M.run (lend1 q V (.rf id) y) s = M.run (.pure y) s := by rw [ld1_rf] <;> rfl
@[go_sem ↓] theorem ld1_sz_r {e : Nat} {es : List PV} {y : CV} {s : St} : M.run (lend1 q V (.sz e es) y) s = M.run (.pure y) s := by rw [ld1_sz] <;> rfl
@[go_sem ↓] theorem ld1_st_r {cs : List TV} {y : CV} {s : St} : M.run (lend1 q V (.st cs) y) s = M.run (.pure y) s := by rw [ld1_st] <;> rfl
@[go_sem ↓] theorem ld1_fn_r {f : Nat} {fs cs : List TV} {y : CV} {s : St} : M.run (lend1 q V (.fn f fs cs) y) s = M.run (.pure y) s := by rw [ld1_fn] <;> rfl
@[go_sem ↓] theorem ld1_ic_r {t : Nat} {v : TV} {y : CV} {s : St} : M.run (lend1 q V (.ic t v) y) s = M.run (.pure y) s := by rw [ld1_ic] <;> rfl
@[go_sem ↓] theorem ld1_un_r {y : CV} {s : St} : M.run (lend1 q V .un y) s = M.run (.pure y) s := by rw [ld1_un] <;> rfl
@[go_sem ↓] theorem carve_in_r {id e e' : Nat} {es' es1 : List PV} {s : St} : M.run (carveK id V e q (some (e', es')) (some es1)) s = M.run ((setN id (some (.sl q V e es1))).bind fun _ => .pure (.sl false e' es')) s := by rw [carve_in] <;> rfl
@[go_sem ↓] theorem ld1B_f_r {keeps : Bool} {id ver e : Nat} {p : List (Nat × Nat × Nat)} {es : List PV} {s : St} : M.run (ld1B keeps V id ver p (some (.sl false ver e es))) s = M.run (carveK id V e false (dget es p) (dput es p .un)) s := by rw [ld1B_f] <;> rfl
@[go_sem ↓] theorem ld1B_t_r {id ver e : Nat} {p : List (Nat × Nat × Nat)} {es : List PV} {s : St} : M.run (ld1B true V id ver p (some (.sl q ver e es))) s = M.run (carveK id V e q (dget es p) (dput es p .un)) s := by rw [ld1B_t] <;> rfl
@[go_sem ↓] theorem ld1_ri_r {id ver : Nat} {p : List (Nat × Nat × Nat)} {y : CV} {s : St} : M.run (lend1 q V (.ri id ver p) y) s = M.run ((getN id).bind (ld1B q V id ver p)) s := by rw [ld1_ri] <;> rfl
@[go_sem ↓] theorem bk_a_r {v : Value} {c f : CV} {s : St} : M.run (back1 q V b (.a v) c f) s = M.run (restore q V b (.a v) c f) s := by rw [bk_a] <;> rfl
@[go_sem ↓] theorem bk_nl_r {e : Nat} {c f : CV} {s : St} : M.run (back1 q V b (.nl e) c f) s = M.run (restore q V b (.nl e) c f) s := by rw [bk_nl] <;> rfl
@[go_sem ↓] theorem bk_rf_r {id : Nat} {c f : CV} {s : St} : M.run (back1 q V b (.rf id) c f) s = M.run (restore q V b (.rf id) c f) s := by rw [bk_rf] <;> rfl
@[go_sem ↓] theorem bk_sz_r {e : Nat} {es : List PV} {c f : CV} {s : St} : M.run (back1 q V b (.sz e es) c f) s = M.run (restore q V b (.sz e es) c f) s := by rw [bk_sz] <;> rfl
@[go_sem ↓] theorem bk_st_r {cs : List TV} {c f : CV} {s : St} : M.run (back1 q V b (.st cs) c f) s = M.run (restore q V b (.st cs) c f) s := by rw [bk_st] <;> rfl
@[go_sem ↓] theorem bk_fn_r {g : Nat} {fs cs : List TV} {c f : CV} {s : St} : M.run (back1 q V b (.fn g fs cs) c f) s = M.run (restore q V b (.fn g fs cs) c f) s := by rw [bk_fn] <;> rfl
@[go_sem ↓] theorem bk_ic_r {t : Nat} {v : TV} {c f : CV} {s : St} : M.run (back1 q V b (.ic t v) c f) s = M.run (restore q V b (.ic t v) c f) s := by rw [bk_ic] <;> rfl
@[go_sem ↓] theorem bk_un_r {c f : CV} {s : St} : M.run (back1 q V b .un c f) s = M.run (restore q V b .un c f) s := by rw [bk_un] <;> rfl
@[go_sem ↓] theorem fill_in_r {id ver e : Nat} {es1 : List PV} {s : St} : M.run (fillK id ver e b q (some .un) (some es1)) s = M.run ((setN id (some (.sl q ver e es1))).bind fun _ => .pure b) s := by rw [fill_in] <;> rfl
@[go_sem ↓] theorem bkB_sl_r {q0 : Bool} {id ver e e' : Nat} {p : List (Nat × Nat × Nat)} {es es' : List PV} {s : St} : M.run (bkB q b id p e' es' (some (.sl q0 ver e es))) s = M.run (fillK id ver e b (q0 || q) (dat es p) (dput es p (.sl e' es'))) s := by rw [bkB_sl] <;> rfl
@[go_sem ↓] theorem bk_ri_r {id ver e' : Nat} {p : List (Nat × Nat × Nat)} {es' : List PV} {c : CV} {s : St} : M.run (back1 q V b (.ri id ver p) c (.sl false e' es')) s = M.run ((getN id).bind (bkB q b id p e' es')) s := by rw [bk_ri] <;> rfl
end

/-! by hand -/
section
variable {keeps z fz q : Bool} {k n b V j : Nat} {s : St} {ms : List Md} {xs : List TV} {x : TV} {cs fs : List CV} {c f : CV} {y : CV} {ys : List CV}
@[go_sem ↓] theorem upl_nil_r : M.run (unpackL q b []) s = M.run (.pure ([], b)) s := rfl
@[go_sem ↓] theorem upl_cons_r {xs : List CV} {x : CV} : M.run (unpackL q b (x :: xs)) s = M.run ((unpack q b x).bind fun r => (unpackL q r.2 xs).bind fun p => .pure (r.1 :: p.1, p.2)) s := rfl
@[go_sem ↓] theorem lnd_nil_r : M.run (lend keeps [] []) s = M.run (.pure []) s := rfl
@[go_sem ↓] theorem lnd_ro_r : M.run (lend keeps (.ro n :: ms) (x :: xs)) s = M.run ((lend keeps ms xs).bind fun ys => .pure (.un :: ys)) s := rfl
@[go_sem ↓] theorem lnd_mut_r : M.run (lend keeps (.mut n :: ms) (x :: xs)) s = M.run ((lend0 keeps x).bind fun y => (lend keeps ms xs).bind fun ys => .pure (y :: ys)) s := rfl
@[go_sem ↓] theorem lndA_r : M.run (lendA keeps V ms xs) s = M.run ((lend keeps ms xs).bind fun ps => lendI keeps V ms xs ps) s := rfl
@[go_sem ↓] theorem lndI_nil_r : M.run (lendI keeps V [] [] []) s = M.run (.pure []) s := rfl
@[go_sem ↓] theorem lndI_ro_r : M.run (lendI keeps V (.ro n :: ms) (x :: xs) (y :: ys)) s = M.run ((lendI keeps V ms xs ys).bind fun ys => .pure (y :: ys)) s := rfl
@[go_sem ↓] theorem lndI_mut_r : M.run (lendI keeps V (.mut n :: ms) (x :: xs) (y :: ys)) s = M.run ((lend1 keeps V x y).bind fun y => (lendI keeps V ms xs ys).bind fun ys => .pure (y :: ys)) s := rfl
@[go_sem ↓] theorem shw_nil_r : M.run (show_ keeps [] [] []) s = M.run (.pure []) s := rfl
@[go_sem ↓] theorem shw_ro_r : M.run (show_ keeps (.ro n :: ms) (x :: xs) (y :: ys)) s = M.run ((freeze keeps 40 n x).bind fun y => (show_ keeps ms xs ys).bind fun ys => .pure (y :: ys)) s := rfl
@[go_sem ↓] theorem shw_mut_r : M.run (show_ keeps (.mut n :: ms) (x :: xs) (y :: ys)) s = M.run ((show_ keeps ms xs ys).bind fun ys => .pure (y :: ys)) s := rfl
@[go_sem ↓] theorem tkb_nil_r : M.run (takeBack q V b [] [] [] []) s = M.run (.pure b) s := rfl
@[go_sem ↓] theorem tkb_ro_r : M.run (takeBack q V b (.ro n :: ms) (x :: xs) (c :: cs) fs) s = M.run (takeBack q V b ms xs cs fs) s := rfl
@[go_sem ↓] theorem tkb_mut_r : M.run (takeBack q V b (.mut n :: ms) (x :: xs) (c :: cs) (f :: fs)) s = M.run ((back1 q V b x c f).bind fun b' => takeBack q V b' ms xs cs fs) s := rfl
@[go_sem ↓] theorem rtv_nil_r : M.run (resTVs []) s = M.run (.pure []) s := rfl
@[go_sem ↓] theorem rtv_t_r {rs : List RV} : M.run (resTVs (.t n :: rs)) s = M.run ((getS n).bind fun v => (resTVs rs).bind fun vs => .pure (v :: vs)) s := rfl
@[go_sem ↓] theorem rtv_c_r {rs : List RV} {w : Option Nat} : M.run (resTVs (.cell n w :: rs)) s = M.run ((getS n).bind fun u => (loadAt w u).bind fun v => (resTVs rs).bind fun vs => .pure (v :: vs)) s := rfl
@[go_sem ↓] theorem pka_nil_r : M.run (packAll fz []) s = M.run (.pure []) s := rfl
@[go_sem ↓] theorem pka_cons_r : M.run (packAll fz (x :: xs)) s = M.run ((pack fz 40 x).bind fun y => (packAll fz xs).bind fun ys => .pure (y :: ys)) s := rfl
@[go_sem ↓] theorem lnt_nil_r : M.run (lent j []) s = M.run (.pure []) s := rfl
@[go_sem ↓] theorem lnt_ro_r : M.run (lent j (.ro n :: ms)) s = M.run (lent (j + 1) ms) s := rfl
@[go_sem ↓] theorem lnt_mut_r : M.run (lent j (.mut n :: ms)) s = M.run ((getS (10000 + j)).bind fun v => (lent (j + 1) ms).bind fun vs => .pure (v :: vs)) s := rfl
@[go_sem ↓] theorem rsl_cons_r {ys0 : List CV} {y0 : CV} : M.run (restoreL q V b (x :: xs) (y0 :: ys0) (y :: ys)) s = M.run ((restore q V b x y0 y).bind fun b' => restoreL q V b' xs ys0 ys) s := rfl
@[go_sem ↓] theorem rsl_nil_r {ys0 : List CV} : M.run (restoreL q V b [] ys0 ys) s = M.run (.pure b) s := by cases ys0 <;> cases ys <;> rfl
@[go_sem ↓] theorem tko_r {f : Fn} : M.run (takeOut f) s = M.run ((resTVs f.results).bind fun ts => (packAll f.keeps ts).bind fun rs => (lent 0 f.modes).bind fun us => (packAll f.keeps us).bind fun fs => .pure (rs, fs)) s := rfl

def frzB (k : Nat) : Option Node → M CV
  | some (.sl q _ e es) => .pure (.sl true e (if q then es.map PV.thaw else es))
  | some (.bx _ cs) => (freezeL false k cs).bind fun cs' => .pure (.bx true cs')
  | none => .fail
theorem frz_rf' {id : Nat} : freeze false (k + 1) n (.rf id) = (getN id).bind (frzB k) := by
  rw [frz_rf]; congr 1
@[go_sem ↓] theorem frz_rf_r {id : Nat} : M.run (freeze false (k + 1) n (.rf id)) s = M.run ((getN id).bind (frzB k)) s := by rw [frz_rf']
@[go_sem ↓] theorem frzB_sl_r {ver e : Nat} {es : List PV} : M.run (frzB k (some (.sl q ver e es))) s = M.run (.pure (.sl true e (if q then es.map PV.thaw else es))) s := rfl
@[go_sem ↓] theorem frzB_bx_r {cs : List TV} : M.run (frzB k (some (.bx z cs))) s = M.run ((freezeL false k cs).bind fun cs' => .pure (.bx true cs')) s := rfl
def frzS (lo j : Nat) : Option Node → M CV
  | some (.sl q _ e es) => .pure (.sl true e (if q then ((es.drop lo).take j).map PV.thaw else (es.drop lo).take j))
  | _ => .fail
@[go_sem ↓] theorem frz_sb_r {id lo : Nat} : M.run (freeze false (k + 1) n (.sb id lo j)) s = M.run ((getN id).bind (frzS lo j)) s := by
  rw [frz_sb]; congr 1
@[go_sem ↓] theorem frzS_sl_r {lo ver e : Nat} {es : List PV} : M.run (frzS lo j (some (.sl q ver e es))) s = M.run (.pure (.sl true e (if q then ((es.drop lo).take j).map PV.thaw else (es.drop lo).take j))) s := rfl
def frzD (q : Bool) : Option (Nat × List PV) → M CV
  | some (e, es) => .pure (.sl true e (if q then es.map PV.thaw else es))
  | none => .fail
def frzI (ver : Nat) (p : List (Nat × Nat × Nat)) : Option Node → M CV
  | some (.sl q ver' _ es) => if ver' = ver then frzD q (dget es p) else .fail
  | _ => .fail
@[go_sem ↓] theorem frz_ri_r {id ver : Nat} {p : List (Nat × Nat × Nat)} : M.run (freeze false (k + 1) n (.ri id ver p)) s = M.run ((getN id).bind (frzI ver p)) s := by
  rw [frz_ri]; congr 1
@[go_sem ↓] theorem frzI_sl_r {ver ver' e : Nat} {es : List PV} {p : List (Nat × Nat × Nat)} : M.run (frzI ver p (some (.sl q ver' e es))) s = M.run (if ver' = ver then frzD q (dget es p) else .fail) s := rfl
@[go_sem] theorem frzD_some_r {e : Nat} {es : List PV} : M.run (frzD q (some (e, es))) s = M.run (.pure (.sl true e (if q then es.map PV.thaw else es))) s := rfl
def frzA (k n o : Nat) : Option Node → M CV
  | some (.bx _ cs) => if 0 < n ∧ o + n ≤ cs.length then (freezeL false k ((cs.drop o).take n)).bind fun cs' => .pure (.bx true cs') else .fail
  | _ => .fail
@[go_sem ↓] theorem frz_ad_r {id o : Nat} : M.run (freeze false (k + 1) n (.ad id o)) s = M.run ((getN id).bind (frzA k n o)) s := by
  rw [frz_ad]; congr 1
@[go_sem ↓] theorem frzA_bx_r {o : Nat} {cs : List TV} : M.run (frzA k n o (some (.bx z cs))) s = M.run (if 0 < n ∧ o + n ≤ cs.length then (freezeL false k ((cs.drop o).take n)).bind fun cs' => .pure (.bx true cs') else .fail) s := rfl
def pkB (fz : Bool) (k id : Nat) : Option Node → M CV
  | some (.sl q _ e es) => if q && !fz then .fail else (setN id none).bind fun _ => .pure (.sl false e es)
  | some (.bx z cs) => if z then .fail else (setN id none).bind fun _ => (packL fz k cs).bind fun cs' => .pure (.bx false cs')
  | none => .pure .un
@[go_sem ↓] theorem pk_rf_r {id : Nat} : M.run (pack fz (k + 1) (.rf id)) s = M.run ((getN id).bind (pkB fz k id)) s := by
  rw [pk_rf]; congr 1
@[go_sem ↓] theorem pkB_sl_r {id ver e : Nat} {es : List PV} : M.run (pkB fz k id (some (.sl q ver e es))) s = M.run (if q && !fz then .fail else (setN id none).bind fun _ => .pure (.sl false e es)) s := rfl
@[go_sem ↓] theorem pkB_bx_r {id : Nat} {cs : List TV} : M.run (pkB fz k id (some (.bx z cs))) s = M.run (if z then .fail else (setN id none).bind fun _ => (packL fz k cs).bind fun cs' => .pure (.bx false cs')) s := rfl
@[go_sem ↓] theorem pkB_none_r {id : Nat} : M.run (pkB fz k id none) s = M.run (.pure .un) s := rfl
def topvB (id : Nat) : Option Node → M (PV × Bool)
  | some (.sl q _ e es) => (setN id none).bind fun _ => .pure (.sl e es, q)
  | _ => .fail
@[go_sem ↓] theorem topv_rf_r {id : Nat} : M.run (toPV (.rf id)) s = M.run ((getN id).bind (topvB id)) s := by
  rw [topv_rf]; congr 1
@[go_sem ↓] theorem topvB_sl_r {id ver e : Nat} {es : List PV} : M.run (topvB id (some (.sl q ver e es))) s = M.run ((setN id none).bind fun _ => .pure (.sl e es, q)) s := rfl
end
end Go.Proofs.Ytkoljcjliihiiaa.VM.Sy

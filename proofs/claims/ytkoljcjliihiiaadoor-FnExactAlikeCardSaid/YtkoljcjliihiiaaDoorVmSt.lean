/- The interpreter 'VM': rules by which it is run over symbols: a list of what is still to be done, a frame, and an equation for each kind of step. The interpreter 'VM': rules for steps that are run: they are tried before the step's parts are looked at. (Printed by runlem.py, out of YtkoljcjliihiiaaDoorVmSym.) The interpreter 'VM': the tower of calls: each function over those that it calls, to any depth. -/
import Derived.Test.YtkoljcjliihiiaaDoorVmA
import Derived.Attr
import Derived.Laws.Strings
namespace Go.Proofs.YtkoljcjliihiiaaDoor.VM.Sy
open Go

/-- What is still to be done: code, the end of a block, a region's operations. -/
inductive It where
  | c (v : VC)
  | blk (id : Nat)
  | ops (b : Nat) (os : List VOper) (live : List Nat)

abbrev Slots := List (Nat × TV)
abbrev Nodes := List (Nat × Option Node)

section
variable (Φ : Nat → Option Callee) (N : Nat)

def stepI (it : It) (o : Option (Out × St)) : Option (Out × St) :=
  match it, o with
  | .c v, some (.nrm, s) => run Φ N v s
  | .blk id, some (.ext j, s) => if j = id then some (.nrm, s) else some (.ext j, s)
  | .ops b os live, some (.nrm, s) => (execs Φ b os s).map fun s' => (.nrm, { slots := keep live s', nodes := s'.nodes, next := b + 100 * os.length })
  | _, x => x

def goL : List It → Option (Out × St) → Option (Out × St)
  | [], x => x
  | it :: r, x => goL r (stepI Φ N it x)

def goN (r : List It) (sl : Slots) (nd : Nodes) (nx : Nat) : Option (Out × St) := goL Φ N r (some (.nrm, ⟨sl, nd, nx⟩))
def goE (r : List It) (id : Nat) (sl : Slots) (nd : Nodes) (nx : Nat) : Option (Out × St) := goL Φ N r (some (.ext id, ⟨sl, nd, nx⟩))

/-- A loop whose frame is in its form already. -/
def roundsN (f : St → Option (Out × St)) (live : List Nat) : Nat → St → Option (Out × St)
  | 0, _ => none
  | n + 1, s => match f s with
    | some (.nrm, s') => roundsN f live n (norm live s')
    | r => r

def goP (live : List Nat) (b : VC) (r : List It) (s : St) : Option (Out × St) := goL Φ N r (roundsN (run Φ N b) live N s)

theorem rounds_eq (f : St → Option (Out × St)) (live : List Nat) : ∀ (n : Nat) (s : St), rounds f live n s = roundsN f live n (norm live s)
  | 0, _ => rfl
  | n + 1, s => by
    simp only [rounds, roundsN]
    cases f (norm live s) with
    | none => rfl
    | some p =>
      obtain ⟨o, s'⟩ := p
      cases o with
      | nrm => exact rounds_eq f live n _
      | _ => rfl

theorem goL_none : ∀ (r : List It), goL Φ N r none = none
  | [] => rfl
  | it :: r => by
    simp only [goL]
    rw [show stepI Φ N it none = none from by cases it <;> rfl]
    exact goL_none r

theorem goL_ret (s : St) : ∀ (r : List It), goL Φ N r (some (.ret, s)) = some (.ret, s)
  | [] => rfl
  | it :: r => by
    simp only [goL]
    rw [show stepI Φ N it (some (.ret, s)) = some (.ret, s) from by cases it <;> rfl]
    exact goL_ret s r

/-! ### code -/
variable {Φ : Nat → Option Callee} {N : Nat} {r : List It} {sl : Slots} {nd : Nodes} {nx : Nat}

theorem go_run (v : VC) (s : St) : run Φ N v s = goN Φ N [.c v] s.slots s.nodes s.next := rfl

@[go_sem] theorem go_nil : goN Φ N [] sl nd nx = some (.nrm, ⟨sl, nd, nx⟩) := rfl
@[go_sem] theorem go_skip : goN Φ N (.c .skip :: r) sl nd nx = goN Φ N r sl nd nx := rfl
@[go_sem] theorem go_ret : goN Φ N (.c .ret :: r) sl nd nx = some (.ret, ⟨sl, nd, nx⟩) := goL_ret Φ N _ r
@[go_sem] theorem go_exit {id : Nat} : goN Φ N (.c (.exit id) :: r) sl nd nx = goE Φ N r id sl nd nx := rfl
@[go_sem] theorem go_blk {id : Nat} : goN Φ N (.blk id :: r) sl nd nx = goN Φ N r sl nd nx := rfl
@[go_sem] theorem goE_nil {id : Nat} : goE Φ N [] id sl nd nx = some (.ext id, ⟨sl, nd, nx⟩) := rfl
@[go_sem] theorem goE_c {id : Nat} {v : VC} : goE Φ N (.c v :: r) id sl nd nx = goE Φ N r id sl nd nx := rfl
@[go_sem] theorem goE_ops {id b : Nat} {os : List VOper} {live : List Nat} : goE Φ N (.ops b os live :: r) id sl nd nx = goE Φ N r id sl nd nx := rfl
@[go_sem] theorem goE_blk {id j : Nat} : goE Φ N (.blk j :: r) id sl nd nx = if id = j then goN Φ N r sl nd nx else goE Φ N r id sl nd nx := by
  simp only [goE, goL, stepI, goN]
  split <;> rfl
@[go_sem] theorem go_seq {a b : VC} : goN Φ N (.c (.seq a b) :: r) sl nd nx = goN Φ N (.c a :: .c b :: r) sl nd nx := by
  simp only [goN, goL, stepI, run]
  cases run Φ N a ⟨sl, nd, nx⟩ with
  | none => rfl
  | some p =>
    obtain ⟨o, s⟩ := p
    cases o <;> rfl
@[go_sem] theorem go_block {id : Nat} {b : VC} : goN Φ N (.c (.block id b) :: r) sl nd nx = goN Φ N (.c b :: .blk id :: r) sl nd nx := by
  simp only [goN, goL, stepI, run]
  cases run Φ N b ⟨sl, nd, nx⟩ with
  | none => rfl
  | some p =>
    obtain ⟨o, s⟩ := p
    cases o <;> rfl
@[go_sem] theorem go_loop {live : List Nat} {b : VC} : goN Φ N (.c (.loop live b) :: r) sl nd nx = goP Φ N live b r (norm live ⟨sl, nd, nx⟩) := by
  simp only [goN, goL, stepI, run, goP, rounds_eq]
@[go_sem] theorem go_reg {os : List VOper} {live : List Nat} : goN Φ N (.c (.reg os live) :: r) sl nd nx = goN Φ N (.ops nx os live :: r) sl nd nx := by
  simp only [goN, goL, stepI, run]
  cases execs Φ nx os ⟨sl, nd, nx⟩ <;> rfl

def slotL (sl : Slots) (n : Nat) : TV := (look sl n).getD .un
def selS (b : Bool) (v : TV) (sl : Slots) (n : Nat) : TV := match b with | true => v | false => slotL sl n
@[go_sem] theorem selS_t {v : TV} {n : Nat} : selS true v sl n = v := rfl
@[go_sem] theorem selS_f {v : TV} {n : Nat} : selS false v sl n = slotL sl n := rfl
@[go_sem] theorem slot_cons {n m : Nat} {v : TV} : slotL ((m, v) :: sl) n = selS (m == n) v sl n := by
  by_cases h : m = n
  · subst h; simp [slotL, look, selS]
  · have : (m == n) = false := by simpa using h
    rw [this]; simp [slotL, look, h, selS]
def keepL (sl : Slots) : List Nat → Slots
  | [] => []
  | t :: ts => (t, slotL sl t) :: keepL sl ts
@[go_sem] theorem keep_nil : keepL sl [] = [] := rfl
@[go_sem] theorem keep_cons {t : Nat} {ts : List Nat} : keepL sl (t :: ts) = (t, slotL sl t) :: keepL sl ts := rfl
theorem keep_eq (s : St) : ∀ (live : List Nat), keep live s = keepL s.slots live
  | [] => rfl
  | t :: ts => by simp [keep, keepL, ← keep_eq s ts, St.slot, slotL]

@[go_sem] theorem go_fin {b : Nat} {live : List Nat} : goN Φ N (.ops b [] live :: r) sl nd nx = goN Φ N r (keepL sl live) nd b := by
  simp only [goN, goL, stepI, execs, Option.map_some, keep_eq, List.length_nil, Nat.mul_zero, Nat.add_zero]

def nodeL (nd : Nodes) (id : Nat) : Option Node := (look nd id).getD none
def selN (b : Bool) (v : Option Node) (nd : Nodes) (n : Nat) : Option Node := match b with | true => v | false => nodeL nd n
@[go_sem] theorem selN_t {v : Option Node} {n : Nat} : selN true v nd n = v := rfl
@[go_sem] theorem selN_f {v : Option Node} {n : Nat} : selN false v nd n = nodeL nd n := rfl
@[go_sem] theorem node_cons {n m : Nat} {v : Option Node} : nodeL ((m, v) :: nd) n = selN (m == n) v nd n := by
  by_cases h : m = n
  · subst h; simp [nodeL, look, selN]
  · have : (m == n) = false := by simpa using h
    rw [this]; simp [nodeL, look, h, selN]
theorem node_nil {n : Nat} : nodeL [] n = none := rfl

/-! ### conditions -/
def ov (sl : Slots) : Opd → TV
  | .t n => slotL sl n
  | .c v => .a v
  | .nl e => .nl e
  | .f g => .fn g [] []
@[go_sem] theorem ov_t {n : Nat} : ov sl (.t n) = slotL sl n := rfl
@[go_sem] theorem ov_c {v : Value} : ov sl (.c v) = .a v := rfl
@[go_sem] theorem ov_nl {e : Nat} : ov sl (.nl e) = .nl e := rfl
@[go_sem] theorem ov_f {g : Nat} : ov sl (.f g) = .fn g [] [] := rfl
theorem opd_run (x : Opd) (s : St) : (opd x).run s = some (ov s.slots x, s) := by cases x <;> rfl

def condK (Φ : Nat → Option Callee) (N : Nat) (v : TV) (a b : VC) (r : List It) (sl : Slots) (nd : Nodes) (nx : Nat) : Option (Out × St) :=
  match v with
  | .a (.bool t) => if t = true then goN Φ N (.c a :: r) sl nd nx else goN Φ N (.c b :: r) sl nd nx
  | _ => none
@[go_sem] theorem go_cond {n : Nat} {a b : VC} : goN Φ N (.c (.cond (.t n) a b) :: r) sl nd nx = condK Φ N (slotL sl n) a b r sl nd nx := by
  simp only [goN, goL, stepI, run, condK, St.slot, slotL]
  cases (look sl n).getD TV.un with
  | a v =>
    cases v with
    | bool t => cases t <;> rfl
    | _ => exact goL_none Φ N r
  | _ => exact goL_none Φ N r
@[go_sem] theorem cond_true {a b : VC} : condK Φ N (.a (.bool true)) a b r sl nd nx = goN Φ N (.c a :: r) sl nd nx := rfl
@[go_sem] theorem cond_false {a b : VC} : condK Φ N (.a (.bool false)) a b r sl nd nx = goN Φ N (.c b :: r) sl nd nx := rfl
theorem cond_if {t : Bool} {a b : VC} : condK Φ N (.a (.bool t)) a b r sl nd nx = if t = true then goN Φ N (.c a :: r) sl nd nx else goN Φ N (.c b :: r) sl nd nx := rfl
theorem cond_dec {p : Prop} [Decidable p] {a b : VC} : condK Φ N (.a (.bool (decide p))) a b r sl nd nx = if p then goN Φ N (.c a :: r) sl nd nx else goN Φ N (.c b :: r) sl nd nx := by
  simp [condK]
/-- A condition that is known. -/
theorem cond_t {p : Prop} [Decidable p] {a b : VC} (h : p) : condK Φ N (.a (.bool (decide p))) a b r sl nd nx = goN Φ N (.c a :: r) sl nd nx := by simp [condK, h]
theorem cond_f {p : Prop} [Decidable p] {a b : VC} (h : ¬ p) : condK Φ N (.a (.bool (decide p))) a b r sl nd nx = goN Φ N (.c b :: r) sl nd nx := by simp [condK, h]

/-! ### an operation -/
def putK (Φ : Nat → Option Callee) (N : Nat) (d : Nat) (o : Option TV) (r : List It) (sl : Slots) (nd : Nodes) (nx : Nat) : Option (Out × St) :=
  match o with
  | some v => goN Φ N r ((d, v) :: sl) nd nx
  | none => none
@[go_sem] theorem put_some {d : Nat} {v : TV} : putK Φ N d (some v) r sl nd nx = goN Φ N r ((d, v) :: sl) nd nx := rfl

/-- Behind a step of the frame. -/
def aftK (Φ : Nat → Option Callee) (N : Nat) {α : Type} (o : Option (α × St)) (r : List It) : Option (Out × St) :=
  match o with
  | some (_, s) => goN Φ N r s.slots s.nodes s.next
  | none => none
@[go_sem] theorem aft_some {α : Type} {x : α} {s : St} : aftK Φ N (some (x, s)) r = goN Φ N r s.slots s.nodes s.next := rfl

theorem ops_cons {b : Nat} {o : VOper} {os : List VOper} {live : List Nat} : goN Φ N (.ops b (o :: os) live :: r) sl nd nx = aftK Φ N ((execG Φ b o).run ⟨sl, nd, nx⟩) (.ops (b + 100) os live :: r) := by
  simp only [goN, goL, stepI, execs]
  cases (execG Φ b o).run ⟨sl, nd, nx⟩ with
  | none => exact goL_none Φ N r
  | some p =>
    simp only [aftK, goN, goL, stepI, List.length_cons, show b + 100 * (os.length + 1) = b + 100 + 100 * os.length by omega]

theorem bind_run {α β : Type} (x : M α) (f : α → M β) (s : St) : (x.bind f).run s = (match x.run s with | some (a, s') => (f a).run s' | none => none) := by
  induction x generalizing s with
  | pure x => rfl
  | fail => rfl
  | getS t k ih => exact ih _ _
  | setS t v k ih => exact ih _
  | getN id k ih => exact ih _ _
  | setN id n k ih => exact ih _

/-- One step behind another one: only the first is looked at. -/
def bindR {α β : Type} (o : Option (α × St)) (f : α → M β) : Option (β × St) :=
  match o with
  | some (a, s) => (f a).run s
  | none => none
@[congr] theorem bindR_congr {α β : Type} {o o' : Option (α × St)} {f : α → M β} (h : o = o') : bindR o f = bindR o' f := by rw [h]
@[go_sem ↓] theorem bindR_some {α β : Type} {a : α} {s : St} {f : α → M β} : bindR (some (a, s)) f = (f a).run s := rfl
theorem run_bindR {α β : Type} (x : M α) (f : α → M β) (s : St) : (x.bind f).run s = bindR (x.run s) f := bind_run x f s
@[go_sem ↓] theorem run_bindR' {α β : Type} (x : M α) (f : α → M β) (s : St) : (x.bind f).run s = bindR (x.run s) f := bind_run x f s
/-- A choice, its branches not looked at. -/
def ifM {α : Type} (c : Prop) [Decidable c] (x y : M α) (s : St) : Option (α × St) := (if c then x else y).run s
@[congr] theorem ifM_congr {α : Type} {c c' : Prop} [Decidable c] [Decidable c'] {x y : M α} {s : St} (h : c = c') : ifM c x y s = ifM c' x y s := by
  subst h
  unfold ifM
  congr
@[go_sem ↓] theorem ifM_t {α : Type} {x y : M α} {s : St} [Decidable True] : ifM True x y s = x.run s := by simp [ifM]
@[go_sem ↓] theorem ifM_f {α : Type} {x y : M α} {s : St} [Decidable False] : ifM False x y s = y.run s := by simp [ifM]
@[go_sem ↓] theorem run_ifM {α : Type} {c : Prop} [Decidable c] {x y : M α} {s : St} : (if c then x else y).run s = ifM c x y s := rfl
@[go_sem] theorem run_pureR {α : Type} {x : α} {s : St} : (M.pure x).run s = some (x, s) := rfl
@[go_sem] theorem run_getSR {t : Nat} {s : St} : (getS t).run s = some (slotL s.slots t, s) := rfl
@[go_sem] theorem run_setSR {t : Nat} {v : TV} {sl : Slots} {nd : Nodes} {nx : Nat} : (setS t v).run ⟨sl, nd, nx⟩ = some ((), ⟨(t, v) :: sl, nd, nx⟩) := rfl
@[go_sem] theorem run_getNR {id : Nat} {s : St} : (getN id).run s = some (nodeL s.nodes id, s) := rfl
@[go_sem] theorem run_setNR {id : Nat} {n : Option Node} {sl : Slots} {nd : Nodes} {nx : Nat} : (setN id n).run ⟨sl, nd, nx⟩ = some ((), ⟨sl, (id, n) :: nd, nx⟩) := rfl
@[go_sem] theorem run_liftOR {α : Type} {x : α} {s : St} : (liftO (some x)).run s = some (x, s) := rfl
@[go_sem] theorem run_opdR {x : Opd} {s : St} : (opd x).run s = some (ov s.slots x, s) := opd_run x s
@[go_sem] theorem run_failR {α : Type} {s : St} : (M.fail : M α).run s = none := rfl

section
variable {b : Nat} {os : List VOper} {live : List Nat} {g : Option Nat}

/-- The rest of a region. -/
abbrev rest (b : Nat) (os : List VOper) (live : List Nat) (r : List It) : List It := .ops (b + 100) os live :: r

theorem op_gen {op : VOp} : goN Φ N (.ops b (⟨op, none, g⟩ :: os) live :: r) sl nd nx = aftK Φ N ((exec Φ b op).run ⟨sl, nd, nx⟩) (.ops (b + 100) os live :: r) := by
  rw [ops_cons]; rfl

@[go_sem] theorem op_mov {d : Nat} {x : Opd} : goN Φ N (.ops b (⟨.mov d x, none, g⟩ :: os) live :: r) sl nd nx = goN Φ N (.ops (b + 100) os live :: r) ((d, ov sl x) :: sl) nd nx := by
  rw [op_gen]
  simp only [exec, bind_run, opd_run]
  rfl

def pickT (c x y : TV) : Option TV :=
  match c with
  | .a (.bool t) => some (if t = true then x else y)
  | _ => none
@[go_sem] theorem pick_t {x y : TV} : pickT (.a (.bool true)) x y = some x := rfl
@[go_sem] theorem pick_f {x y : TV} : pickT (.a (.bool false)) x y = some y := rfl
@[go_sem] theorem op_pick {d : Nat} {c x y : Opd} : goN Φ N (.ops b (⟨.pick d c x y, none, g⟩ :: os) live :: r) sl nd nx = putK Φ N d (pickT (ov sl c) (ov sl x) (ov sl y)) (.ops (b + 100) os live :: r) sl nd nx := by
  rw [op_gen]
  simp only [exec, bind_run, opd_run]
  cases ov sl c with
  | a v =>
    cases v with
    | bool t => cases t <;> simp only [bind_run, opd_run, if_true, pickT, Bool.false_eq_true, if_false] <;> rfl
    | _ => rfl
  | _ => rfl

@[go_sem] theorem op_alloc {d : Nat} {z : ZC} {zs : List ZC} : goN Φ N (.ops b (⟨.alloc d (z :: zs), none, g⟩ :: os) live :: r) sl nd nx =
    goN Φ N (.ops (b + 100) os live :: r) ((d, .rf b) :: sl) ((b, some (.bx false (z.tv :: zs.map ZC.tv))) :: nd) nx := by
  rw [op_gen]; rfl
@[go_sem] theorem zc_v {v : Value} : (ZC.v v).tv = .a v := rfl
@[go_sem] theorem zc_nl {e : Nat} : (ZC.nl e).tv = .nl e := rfl

/-! boxes -/
def boxK (Φ : Nat → Option Callee) (N : Nat) (d b : Nat) (o : Option (List TV)) (r : List It) (sl : Slots) (nd : Nodes) (nx : Nat) : Option (Out × St) :=
  match o with
  | some (c :: cs) => goN Φ N r ((d, .rf b) :: sl) ((b, some (.bx false (c :: cs))) :: nd) nx
  | _ => none
@[go_sem] theorem box_some {d b : Nat} {c : TV} {cs : List TV} : boxK Φ N d b (some (c :: cs)) r sl nd nx = goN Φ N r ((d, .rf b) :: sl) ((b, some (.bx false (c :: cs))) :: nd) nx := rfl
@[go_sem] theorem op_box {d : Nat} {x : Opd} : goN Φ N (.ops b (⟨.box d x, none, g⟩ :: os) live :: r) sl nd nx = boxK Φ N d b (ov sl x).row (.ops (b + 100) os live :: r) sl nd nx := by
  rw [op_gen]
  simp only [exec, bind_run, opd_run]
  cases (ov sl x).row with
  | none => rfl
  | some cs => cases cs <;> rfl
@[go_sem] theorem row_st {cs : List TV} : (TV.st cs).row = some cs := rfl
@[go_sem] theorem row_int {k : IntKind} {n : Int} : (TV.a (.int k n)).row = some [.a (.int k n)] := rfl
@[go_sem] theorem row_bool {t : Bool} : (TV.a (.bool t)).row = some [.a (.bool t)] := rfl
@[go_sem] theorem row_str {s : ByteArray} : (TV.a (.string s)).row = some [.a (.string s)] := rfl
@[go_sem] theorem row_nl {e : Nat} : (TV.nl e).row = some [.nl e] := rfl
@[go_sem] theorem row_rf {i : Nat} : (TV.rf i).row = some [.rf i] := rfl
@[go_sem] theorem row_sz {e : Nat} {es : List PV} : (TV.sz e es).row = some [.sz e es] := rfl
@[go_sem] theorem row_fn {f : Nat} {fs cs : List TV} : (TV.fn f fs cs).row = some [.fn f fs cs] := rfl
@[go_sem] theorem row_sb {i j k : Nat} : (TV.sb i j k).row = some [.sb i j k] := rfl
@[go_sem] theorem row_ri {i j : Nat} {p : List (Nat × Nat × Nat)} : (TV.ri i j p).row = some [.ri i j p] := rfl
@[go_sem] theorem row_ad {i j : Nat} : (TV.ad i j).row = some [.ad i j] := rfl
@[go_sem] theorem cells_st {cs : List TV} : (TV.st cs).cells = cs := rfl
@[go_sem] theorem cells_a {v : Value} : (TV.a v).cells = [.a v] := rfl
@[go_sem] theorem cells_nl {e : Nat} : (TV.nl e).cells = [.nl e] := rfl
@[go_sem] theorem cells_rf {i : Nat} : (TV.rf i).cells = [.rf i] := rfl
@[go_sem] theorem cells_sz {e : Nat} {es : List PV} : (TV.sz e es).cells = [.sz e es] := rfl
@[go_sem] theorem cells_fn {f : Nat} {fs cs : List TV} : (TV.fn f fs cs).cells = [.fn f fs cs] := rfl
@[go_sem] theorem cells_sb {i j k : Nat} : (TV.sb i j k).cells = [.sb i j k] := rfl
@[go_sem] theorem cells_ri {i j : Nat} {p : List (Nat × Nat × Nat)} : (TV.ri i j p).cells = [.ri i j p] := rfl
@[go_sem] theorem cells_ad {i j : Nat} : (TV.ad i j).cells = [.ad i j] := rfl
@[go_sem] theorem cells_ic {t : Nat} {v : TV} : (TV.ic t v).cells = [.ic t v] := rfl
@[go_sem] theorem pcells_st {cs : List PV} : (PV.st cs).cells = cs := rfl
@[go_sem] theorem pcells_a {v : Value} : (PV.a v).cells = [.a v] := rfl
@[go_sem] theorem pcells_sl {e : Nat} {es : List PV} : (PV.sl e es).cells = [.sl e es] := rfl
@[go_sem] theorem pcells_fz {e : Nat} {es : List PV} : (PV.fz e es).cells = [.fz e es] := rfl

/-! structs -/
def buildP (sl : Slots) : List (Nat × Nat × Opd) → List TV → Option (List TV)
  | [], cs => some cs
  | (o, w, x) :: ps, cs => if (ov sl x).cells.length = w ∧ o + w ≤ cs.length ∧ (ov sl x).row.isSome = true then buildP sl ps (cs.take o ++ (ov sl x).cells ++ cs.drop (o + w)) else none
theorem build_run (s : St) : ∀ (ps : List (Nat × Nat × Opd)) (cs : List TV), (buildM ps cs).run s = (buildP s.slots ps cs).map (·, s)
  | [], cs => rfl
  | (o, w, x) :: ps, cs => by
    simp only [buildM, bind_run, opd_run, buildP]
    split
    · exact build_run s ps _
    · rfl
@[go_sem] theorem build_nil {cs : List TV} : buildP sl [] cs = some cs := rfl
def buildK (sl : Slots) (v : TV) (o w : Nat) (ps : List (Nat × Nat × Opd)) (cs : List TV) : Option (List TV) :=
  if v.cells.length = w ∧ o + w ≤ cs.length ∧ v.row.isSome = true then buildP sl ps (cs.take o ++ v.cells ++ cs.drop (o + w)) else none
@[go_sem] theorem build_cons {o w : Nat} {x : Opd} {ps : List (Nat × Nat × Opd)} {cs : List TV} : buildP sl ((o, w, x) :: ps) cs = buildK sl (ov sl x) o w ps cs := rfl
@[go_sem] theorem build_in {v : TV} {o w : Nat} {ps : List (Nat × Nat × Opd)} {cs : List TV} (h1 : v.cells.length = w) (h2 : o + w ≤ cs.length) (h3 : v.row.isSome = true) : buildK sl v o w ps cs = buildP sl ps (cs.take o ++ v.cells ++ cs.drop (o + w)) := by
  simp [buildK, h1, h2, h3]
def stO (o : Option (List TV)) : Option TV := o.map .st
@[go_sem] theorem sto_some {cs : List TV} : stO (some cs) = some (.st cs) := rfl
@[go_sem] theorem op_build {d : Nat} {zs : List ZC} {ps : List (Nat × Nat × Opd)} : goN Φ N (.ops b (⟨.build d zs ps, none, g⟩ :: os) live :: r) sl nd nx =
    putK Φ N d (stO (buildP sl ps (zs.map ZC.tv))) (.ops (b + 100) os live :: r) sl nd nx := by
  rw [op_gen]
  simp only [exec, bind_run, build_run]
  cases buildP sl ps (zs.map ZC.tv) <;> rfl

@[go_sem] theorem pick_none {cs : List TV} {o : Nat} : pickCells cs o none = cs[o]? := rfl
@[go_sem] theorem pick_row {cs : List TV} {o w : Nat} (h : o + w ≤ cs.length) : pickCells cs o (some w) = some (.st ((cs.drop o).take w)) := by simp [pickCells, h]

/-! loads -/
def loadN (n : Option Node) (o : Nat) (w : Option Nat) : Option TV :=
  match n with
  | some (.bx _ cs) => pickCells cs o w
  | _ => none
@[go_sem] theorem loadN_bx {z : Bool} {cs : List TV} {o : Nat} {w : Option Nat} : loadN (some (.bx z cs)) o w = pickCells cs o w := rfl
def ownC (id ver : Nat) (p : List (Nat × Nat × Nat)) (i m : Nat) : Nat → List PV → List TV
  | _, [] => []
  | k, c :: cs => ofOwn id ver (p ++ [(i, m, k)]) c :: ownC id ver p i m (k + 1) cs
theorem ownC_eq (id ver : Nat) (p : List (Nat × Nat × Nat)) (i m : Nat) (x : PV) : ownCells id ver p i m x = ownC id ver p i m 0 x.cells := by
  have key : ∀ (cs : List PV) (k : Nat), ((cs.zipIdx k).map fun (c, o) => ofOwn id ver (p ++ [(i, m, o)]) c) = ownC id ver p i m k cs := by
    intro cs
    induction cs with
    | nil => intro k; rfl
    | cons c cs ih => intro k; simp only [List.zipIdx_cons, List.map_cons, ownC, ih]
  exact key x.cells 0
@[go_sem] theorem ownC_nil {id ver : Nat} {p : List (Nat × Nat × Nat)} {i m k : Nat} : ownC id ver p i m k [] = [] := rfl
@[go_sem] theorem ownC_cons {id ver : Nat} {p : List (Nat × Nat × Nat)} {i m k : Nat} {c : PV} {cs : List PV} : ownC id ver p i m k (c :: cs) = ofOwn id ver (p ++ [(i, m, k)]) c :: ownC id ver p i m (k + 1) cs := rfl
@[go_sem] theorem own_a {id ver : Nat} {p : List (Nat × Nat × Nat)} {v : Value} : ofOwn id ver p (.a v) = .a v := rfl
@[go_sem] theorem own_sl {id ver : Nat} {p : List (Nat × Nat × Nat)} {e : Nat} {es : List PV} : ofOwn id ver p (.sl e es) = .ri id ver p := rfl
@[go_sem] theorem own_fz {id ver : Nat} {p : List (Nat × Nat × Nat)} {e : Nat} {es : List PV} : ofOwn id ver p (.fz e es) = .sz e es := rfl
@[go_sem] theorem fz_a {v : Value} : ofFrozen (.a v) = .a v := rfl
@[go_sem] theorem fz_sl {e : Nat} {es : List PV} : ofFrozen (.sl e es) = .sz e es := rfl
@[go_sem] theorem fz_fz {e : Nat} {es : List PV} : ofFrozen (.fz e es) = .sz e es := rfl

def loadE (x : Option PV) (id ver : Nat) (p : List (Nat × Nat × Nat)) (i m o : Nat) (w : Option Nat) : Option TV :=
  match x with
  | some x => pickCells (ownC id ver p i m 0 x.cells) o w
  | none => none
@[go_sem] theorem loadE_some {x : PV} {id ver : Nat} {p : List (Nat × Nat × Nat)} {i m o : Nat} {w : Option Nat} : loadE (some x) id ver p i m o w = pickCells (ownC id ver p i m 0 x.cells) o w := rfl
def loadS (n : Option Node) (id i m o : Nat) (w : Option Nat) : Option TV :=
  match n with
  | some (.sl _ ver _ es) => loadE es[i]? id ver [] i m o w
  | _ => none
@[go_sem] theorem loadS_sl {q : Bool} {ver e : Nat} {es : List PV} {id i m o : Nat} {w : Option Nat} : loadS (some (.sl q ver e es)) id i m o w = loadE es[i]? id ver [] i m o w := rfl

def loadP (nd : Nodes) (w : Option Nat) : TV → Option TV
  | .rf id => loadN (nodeL nd id) 0 w
  | .ad id o => loadN (nodeL nd id) o w
  | .ea id i m o => loadS (nodeL nd id) id i m o w
  | .ez cs o => pickCells (cs.map ofFrozen) o w
  | v => ((loadAt w v).run ⟨[], nd, 0⟩).map (·.1)
@[go_sem] theorem loadP_rf {w : Option Nat} {id : Nat} : loadP nd w (.rf id) = loadN (nodeL nd id) 0 w := rfl
@[go_sem] theorem loadP_ad {w : Option Nat} {id o : Nat} : loadP nd w (.ad id o) = loadN (nodeL nd id) o w := rfl
@[go_sem] theorem loadP_ea {w : Option Nat} {id i m o : Nat} : loadP nd w (.ea id i m o) = loadS (nodeL nd id) id i m o w := rfl
@[go_sem] theorem loadP_ez {w : Option Nat} {cs : List PV} {o : Nat} : loadP nd w (.ez cs o) = pickCells (cs.map ofFrozen) o w := rfl

/-- A step that reads nodes only. -/
def Reads {α : Type} (m : M α) : Prop := ∀ s : St, m.run s = (m.run ⟨[], s.nodes, 0⟩).map fun p => (p.1, s)
theorem Reads.pure {α : Type} (x : α) : Reads (M.pure x) := fun _ => rfl
theorem Reads.fail {α : Type} : Reads (M.fail : M α) := fun _ => rfl
theorem Reads.getN {α : Type} {id : Nat} {k : Option Node → M α} (h : ∀ n, Reads (k n)) : Reads ((VM.getN id).bind k) := by
  intro s
  simp only [bind_run]
  exact h _ s
theorem Reads.liftO {α : Type} (x : Option α) : Reads (VM.liftO x) := by cases x; exact Reads.fail; exact Reads.pure _

theorem reads_load (w : Option Nat) (v : TV) : Reads (loadAt w v) := by
  unfold loadAt
  split <;> first
    | exact Reads.fail
    | exact Reads.liftO _
    | (refine Reads.getN fun n => ?_
       repeat' split
       all_goals first
         | exact Reads.fail
         | exact Reads.liftO _)

theorem load_run (w : Option Nat) (v : TV) (s : St) : (loadAt w v).run s = (loadP s.nodes w v).map (·, s) := by
  cases v with
  | rf id =>
    simp only [loadAt, bind_run, loadP, loadN, nodeL]
    simp only [VM.getN, M.run, St.node]
    cases (look s.nodes id).getD none with
    | none => rfl
    | some n =>
      cases n with
      | bx z cs => simp only; cases pickCells cs 0 w <;> rfl
      | sl _ _ _ _ => rfl
  | ad id o =>
    simp only [loadAt, bind_run, loadP, loadN, nodeL]
    simp only [VM.getN, M.run, St.node]
    cases (look s.nodes id).getD none with
    | none => rfl
    | some n =>
      cases n with
      | bx z cs => simp only; cases pickCells cs o w <;> rfl
      | sl _ _ _ _ => rfl
  | ea id i m o =>
    simp only [loadAt, bind_run, loadP, loadS, nodeL]
    simp only [VM.getN, M.run, St.node]
    cases (look s.nodes id).getD none with
    | none => rfl
    | some n =>
      cases n with
      | bx z cs => rfl
      | sl q ver e es =>
        simp only [loadE]
        cases es[i]? with
        | none => rfl
        | some x => simp only [ownC_eq]; cases pickCells (ownC id ver [] i m 0 x.cells) o w <;> rfl
  | ez cs o =>
    simp only [loadAt, loadP]
    cases pickCells (cs.map ofFrozen) o w <;> rfl
  | _ =>
    rw [reads_load]
    simp only [loadP, Option.map_map]
    congr 1

def pairS (o : Option TV) (s : St) : Option (TV × St) := o.map (·, s)
@[go_sem] theorem pairS_some {v : TV} {s : St} : pairS (some v) s = some (v, s) := rfl
@[go_sem] theorem load_runR {w : Option Nat} {v : TV} {s : St} : (loadAt w v).run s = pairS (loadP s.nodes w v) s := load_run w v s

@[go_sem] theorem op_load {d : Nat} {w : Option Nat} {x : Opd} : goN Φ N (.ops b (⟨.load d w x, none, g⟩ :: os) live :: r) sl nd nx = putK Φ N d (loadP nd w (ov sl x)) (.ops (b + 100) os live :: r) sl nd nx := by
  rw [op_gen]
  simp only [exec, bind_run, opd_run, load_run]
  cases loadP nd w (ov sl x) <;> rfl

/-! addresses -/
def fadP (nd : Nodes) (off : Nat) : TV → Option TV
  | .rf id => match nodeL nd id with | some (.bx _ _) => some (.ad id off) | _ => none
  | .ad id o => some (.ad id (o + off))
  | .ea id i m o => match nodeL nd id with | some (.sl _ _ _ _) => some (.ea id i m (o + off)) | _ => none
  | .ez cs o => some (.ez cs (o + off))
  | v => ((fieldAt off v).run ⟨[], nd, 0⟩).map (·.1)
def fadN (n : Option Node) (id off : Nat) : Option TV :=
  match n with
  | some (.bx _ _) => some (.ad id off)
  | _ => none
def fadS (n : Option Node) (id i m o : Nat) : Option TV :=
  match n with
  | some (.sl _ _ _ _) => some (.ea id i m o)
  | _ => none
@[go_sem] theorem fad_rf {id off : Nat} : fadP nd off (.rf id) = fadN (nodeL nd id) id off := rfl
@[go_sem] theorem fadN_bx {z : Bool} {cs : List TV} {id off : Nat} : fadN (some (.bx z cs)) id off = some (.ad id off) := rfl
@[go_sem] theorem fad_ad {id o off : Nat} : fadP nd off (.ad id o) = some (.ad id (o + off)) := rfl
@[go_sem] theorem fad_ea {id i m o off : Nat} : fadP nd off (.ea id i m o) = fadS (nodeL nd id) id i m (o + off) := rfl
@[go_sem] theorem fadS_sl {q : Bool} {ver e : Nat} {es : List PV} {id i m o : Nat} : fadS (some (.sl q ver e es)) id i m o = some (.ea id i m o) := rfl
@[go_sem] theorem fad_ez {cs : List PV} {o off : Nat} : fadP nd off (.ez cs o) = some (.ez cs (o + off)) := rfl
theorem reads_field (off : Nat) (v : TV) : Reads (fieldAt off v) := by
  unfold fieldAt
  split <;> first
    | exact Reads.fail
    | exact Reads.pure _
    | (refine Reads.getN fun n => ?_
       repeat' split
       all_goals first
         | exact Reads.fail
         | exact Reads.pure _)
theorem field_run (off : Nat) (v : TV) (s : St) : (fieldAt off v).run s = (fadP s.nodes off v).map (·, s) := by
  cases v with
  | rf id =>
    simp only [fieldAt, bind_run, fadP, nodeL]
    simp only [VM.getN, M.run, St.node]
    cases (look s.nodes id).getD none with
    | none => rfl
    | some n => cases n <;> rfl
  | ea id i m o =>
    simp only [fieldAt, bind_run, fadP, nodeL]
    simp only [VM.getN, M.run, St.node]
    cases (look s.nodes id).getD none with
    | none => rfl
    | some n => cases n <;> rfl
  | _ =>
    rw [reads_field]
    simp only [fadP]
    first
      | rfl
      | (simp only [Option.map_map]; congr 1)
@[go_sem] theorem op_fad {d off : Nat} {x : Opd} : goN Φ N (.ops b (⟨.fad d x off, none, g⟩ :: os) live :: r) sl nd nx = putK Φ N d (fadP nd off (ov sl x)) (.ops (b + 100) os live :: r) sl nd nx := by
  rw [op_gen]
  simp only [exec, bind_run, opd_run, field_run]
  cases fadP nd off (ov sl x) <;> rfl

def fldT (off : Nat) (w : Option Nat) : TV → Option TV
  | .st cs => pickCells cs off w
  | _ => none
@[go_sem] theorem fld_st {off : Nat} {w : Option Nat} {cs : List TV} : fldT off w (.st cs) = pickCells cs off w := rfl
@[go_sem] theorem op_fld {d off : Nat} {w : Option Nat} {x : Opd} : goN Φ N (.ops b (⟨.fld d x off w, none, g⟩ :: os) live :: r) sl nd nx = putK Φ N d (fldT off w (ov sl x)) (.ops (b + 100) os live :: r) sl nd nx := by
  rw [op_gen]
  simp only [exec, bind_run, opd_run]
  cases ov sl x with
  | st cs => simp only [bind_run, fldT]; cases pickCells cs off w <;> rfl
  | _ => rfl

/-! slices -/
def elemsN (n : Option Node) : Option (Nat × List PV) :=
  match n with
  | some (.sl _ _ e es) => some (e, es)
  | _ => none
@[go_sem] theorem elemsN_sl {q : Bool} {ver e : Nat} {es : List PV} : elemsN (some (.sl q ver e es)) = some (e, es) := rfl
def elemsB (n : Option Node) (lo k : Nat) : Option (Nat × List PV) :=
  match n with
  | some (.sl _ _ e es) => some (e, (es.drop lo).take k)
  | _ => none
@[go_sem] theorem elemsB_sl {q : Bool} {ver e lo k : Nat} {es : List PV} : elemsB (some (.sl q ver e es)) lo k = some (e, (es.drop lo).take k) := rfl
def elemsI (n : Option Node) (ver : Nat) (p : List (Nat × Nat × Nat)) : Option (Nat × List PV) :=
  match n with
  | some (.sl _ ver' _ es) => if ver' = ver then dget es p else none
  | _ => none
@[go_sem] theorem elemsI_sl {q : Bool} {ver ver' e : Nat} {es : List PV} {p : List (Nat × Nat × Nat)} : elemsI (some (.sl q ver' e es)) ver p = if ver' = ver then dget es p else none := rfl
def elemsP (nd : Nodes) : TV → Option (Nat × List PV)
  | .nl e => some (e, [])
  | .sz e es => some (e, es)
  | .rf id => elemsN (nodeL nd id)
  | .sb id lo k => elemsB (nodeL nd id) lo k
  | .ri id ver p => elemsI (nodeL nd id) ver p
  | _ => none
@[go_sem] theorem elems_nl {e : Nat} : elemsP nd (.nl e) = some (e, []) := rfl
@[go_sem] theorem elems_sz {e : Nat} {es : List PV} : elemsP nd (.sz e es) = some (e, es) := rfl
@[go_sem] theorem elems_rf {id : Nat} : elemsP nd (.rf id) = elemsN (nodeL nd id) := rfl
@[go_sem] theorem elems_sb {id lo k : Nat} : elemsP nd (.sb id lo k) = elemsB (nodeL nd id) lo k := rfl
@[go_sem] theorem elems_ri {id ver : Nat} {p : List (Nat × Nat × Nat)} : elemsP nd (.ri id ver p) = elemsI (nodeL nd id) ver p := rfl
theorem elems_run (v : TV) (s : St) : (elems v).run s = (elemsP s.nodes v).map (·, s) := by
  cases v with
  | rf id =>
    simp only [elems, bind_run, elemsP, elemsN, nodeL]
    simp only [VM.getN, M.run, St.node]
    cases (look s.nodes id).getD none with
    | none => rfl
    | some n => cases n <;> rfl
  | sb id lo k =>
    simp only [elems, bind_run, elemsP, elemsB, nodeL]
    simp only [VM.getN, M.run, St.node]
    cases (look s.nodes id).getD none with
    | none => rfl
    | some n => cases n <;> rfl
  | ri id ver p =>
    simp only [elems, bind_run, elemsP, elemsI, nodeL]
    simp only [VM.getN, M.run, St.node]
    cases (look s.nodes id).getD none with
    | none => rfl
    | some n =>
      cases n with
      | bx _ _ => rfl
      | sl q ver' e es =>
        simp only
        split
        · cases dget es p <;> rfl
        · rfl
  | _ => rfl
def lenO (o : Option (Nat × List PV)) : Option TV := o.map fun r => .a (.int .i64 r.2.length)
@[go_sem] theorem len_some {e : Nat} {es : List PV} : lenO (some (e, es)) = some (.a (.int .i64 es.length)) := rfl
@[go_sem] theorem op_len {d : Nat} {x : Opd} : goN Φ N (.ops b (⟨.len d x, none, g⟩ :: os) live :: r) sl nd nx = putK Φ N d (lenO (elemsP nd (ov sl x))) (.ops (b + 100) os live :: r) sl nd nx := by
  rw [op_gen]
  simp only [exec, bind_run, opd_run, elems_run]
  cases elemsP nd (ov sl x) <;> rfl
def slenT : TV → Option TV
  | .a (.string s) => some (.a (.int .i64 s.size))
  | _ => none
@[go_sem] theorem slen_s {s : ByteArray} : slenT (.a (.string s)) = some (.a (.int .i64 s.size)) := rfl
@[go_sem] theorem op_slen {d : Nat} {x : Opd} : goN Φ N (.ops b (⟨.slen d x, none, g⟩ :: os) live :: r) sl nd nx = putK Φ N d (slenT (ov sl x)) (.ops (b + 100) os live :: r) sl nd nx := by
  rw [op_gen]
  simp only [exec, bind_run, opd_run]
  cases ov sl x with
  | a v => cases v <;> rfl
  | _ => rfl

/-- The place of an element: the slice, its elements, the index. -/
def iadP (m : Nat) (x : TV) (es : List PV) (i : Nat) : Option TV :=
  match x with
  | .rf id => some (.ea id i m 0)
  | .sb id lo _ => some (.ea id (lo + i) m 0)
  | .ri id ver p => some (.ei id ver p i m 0)
  | .sz _ _ => some (.ez (es[i]?.getD .un).cells 0)
  | _ => none
@[go_sem] theorem iadP_rf {m id i : Nat} {es : List PV} : iadP m (.rf id) es i = some (.ea id i m 0) := rfl
@[go_sem] theorem iadP_sb {m id lo k i : Nat} {es : List PV} : iadP m (.sb id lo k) es i = some (.ea id (lo + i) m 0) := rfl
@[go_sem] theorem iadP_ri {m id ver i : Nat} {p : List (Nat × Nat × Nat)} {es : List PV} : iadP m (.ri id ver p) es i = some (.ei id ver p i m 0) := rfl
@[go_sem] theorem iadP_sz {m e i : Nat} {es es' : List PV} : iadP m (.sz e es') es i = some (.ez (es[i]?.getD .un).cells 0) := rfl
def iadO (e m : Nat) (x : TV) (o : Option (Nat × List PV)) (i : TV) : Option TV :=
  match o, i with
  | some (e', es), .a (.int _ n) => if e' = e ∧ 0 ≤ n ∧ n < es.length then iadP m x es n.toNat else none
  | _, _ => none
/-- An index within its bounds. -/
@[go_sem] theorem iad_in {e m : Nat} {x : TV} {es : List PV} {k : IntKind} {n : Int} (h0 : 0 ≤ n) (h1 : n < es.length) : iadO e m x (some (e, es)) (.a (.int k n)) = iadP m x es n.toNat := by
  simp [iadO, h0, h1]
theorem index_run (e m : Nat) (x : TV) (i : Int) (s : St) : (indexAt e m x i).run s = (iadO e m x (elemsP s.nodes x) (.a (.int .i64 i))).map (·, s) := by
  simp only [indexAt, bind_run, elems_run]
  cases ho : elemsP s.nodes x with
  | none => rfl
  | some p =>
    obtain ⟨e', es⟩ := p
    simp only [Option.map_some, iadO]
    rw [ite2]
    split
    · rename_i hcond
      have hget : es[i.toNat]? = some (es[i.toNat]'(by omega)) := List.getElem?_eq_getElem (by omega)
      cases x with
      | sz e0 es0 =>
        simp only [elemsP, Option.some.injEq, Prod.mk.injEq] at ho
        obtain ⟨_, rfl⟩ := ho
        simp only [iadP, hget]
        rfl
      | _ => rfl
    · rfl
@[go_sem] theorem op_iad {d e m : Nat} {x i : Opd} : goN Φ N (.ops b (⟨.iad d e m x i, none, g⟩ :: os) live :: r) sl nd nx = putK Φ N d (iadO e m (ov sl x) (elemsP nd (ov sl x)) (ov sl i)) (.ops (b + 100) os live :: r) sl nd nx := by
  rw [op_gen]
  simp only [exec, bind_run, opd_run]
  cases hi : ov sl i with
  | a v =>
    cases v with
    | int k n =>
      simp only [asI, bind_run, index_run]
      have : iadO e m (ov sl x) (elemsP nd (ov sl x)) (.a (.int .i64 n)) = iadO e m (ov sl x) (elemsP nd (ov sl x)) (.a (.int k n)) := by
        cases elemsP nd (ov sl x) <;> rfl
      rw [this]
      cases iadO e m (ov sl x) (elemsP nd (ov sl x)) (.a (.int k n)) <;> rfl
    | _ => cases elemsP nd (ov sl x) <;> rfl
  | _ => cases elemsP nd (ov sl x) <;> rfl

def ixT (x i : TV) : Option TV :=
  match x, i with
  | .a (.string s), .a (.int _ n) => (byteAt s n).map .a
  | _, _ => none
@[go_sem] theorem op_ix {d : Nat} {x i : Opd} : goN Φ N (.ops b (⟨.ix d x i, none, g⟩ :: os) live :: r) sl nd nx = putK Φ N d (ixT (ov sl x) (ov sl i)) (.ops (b + 100) os live :: r) sl nd nx := by
  rw [op_gen]
  simp only [exec, bind_run, opd_run]
  cases ov sl x with
  | a v =>
    cases v with
    | string s =>
      cases ov sl i with
      | a u =>
        cases u with
        | int k n => simp only [asI, bind_run, ixT]; cases byteAt s n <;> rfl
        | _ => rfl
      | _ => rfl
    | _ => cases asI (ov sl i) <;> cases ov sl i <;> rfl
  | _ => cases asI (ov sl i) <;> cases ov sl i <;> rfl

/-! numbers -/
def binT (op : BinOp) (x y : TV) : Option TV :=
  match x, y with
  | .a u, .a v => (binA op u v).map .a
  | _, _ => none
@[go_sem] theorem op_bin {d : Nat} {op : BinOp} {x y : Opd} : goN Φ N (.ops b (⟨.bin d op x y, none, g⟩ :: os) live :: r) sl nd nx = putK Φ N d (binT op (ov sl x) (ov sl y)) (.ops (b + 100) os live :: r) sl nd nx := by
  rw [op_gen]
  simp only [exec, bind_run, opd_run]
  cases ov sl x with
  | a u =>
    cases ov sl y with
    | a v => simp only [bind_run, binT]; cases binA op u v <;> rfl
    | _ => rfl
  | _ => cases ov sl y <;> rfl
section
variable {k k' : IntKind} {x y : Int}
theorem kk (k : IntKind) : (k == k) = true := by cases k <;> rfl
@[go_sem] theorem bin_add : binT .add (.a (.int k x)) (.a (.int k y)) = some (.a (.int k (k.wrap (x + y)))) := by simp [binT, binA, isShift, intBin]
@[go_sem] theorem bin_sub : binT .sub (.a (.int k x)) (.a (.int k y)) = some (.a (.int k (k.wrap (x - y)))) := by simp [binT, binA, isShift, intBin]
@[go_sem] theorem bin_mul : binT .mul (.a (.int k x)) (.a (.int k y)) = some (.a (.int k (k.wrap (x * y)))) := by simp [binT, binA, isShift, intBin]
@[go_sem] theorem bin_quo (h : y ≠ 0) : binT .quo (.a (.int k x)) (.a (.int k y)) = some (.a (.int k (k.wrap (x.tdiv y)))) := by simp [binT, binA, isShift, intBin, h]
@[go_sem] theorem bin_rem (h : y ≠ 0) : binT .rem (.a (.int k x)) (.a (.int k y)) = some (.a (.int k (x.tmod y))) := by simp [binT, binA, isShift, intBin, h]
@[go_sem] theorem bin_shl (h : 0 ≤ y) : binT .shl (.a (.int k x)) (.a (.int k' y)) = some (.a (.int k (k.wrap (x * 2 ^ (min y.toNat k.bits))))) := by
  have : ¬ y < 0 := by omega
  simp [binT, binA, isShift, intBin, this]
@[go_sem] theorem bin_shr (h : 0 ≤ y) : binT .shr (.a (.int k x)) (.a (.int k' y)) = some (.a (.int k (x.fdiv (2 ^ (min y.toNat k.bits))))) := by
  have : ¬ y < 0 := by omega
  simp [binT, binA, isShift, intBin, this]
@[go_sem] theorem bin_eql : binT .eql (.a (.int k x)) (.a (.int k y)) = some (.a (.bool (decide (x = y)))) := by
  simp [binT, binA, isShift, intBin]; rfl
@[go_sem] theorem bin_neq : binT .neq (.a (.int k x)) (.a (.int k y)) = some (.a (.bool (decide (x ≠ y)))) := by
  simp [binT, binA, isShift, intBin, bne]; rfl
def iAnd (k : IntKind) (x y : Int) : Int := k.wrap (BitVec.ofInt k.bits x &&& BitVec.ofInt k.bits y).toNat
def iOr (k : IntKind) (x y : Int) : Int := k.wrap (BitVec.ofInt k.bits x ||| BitVec.ofInt k.bits y).toNat
def iXor (k : IntKind) (x y : Int) : Int := k.wrap (BitVec.ofInt k.bits x ^^^ BitVec.ofInt k.bits y).toNat
def iAndNot (k : IntKind) (x y : Int) : Int := k.wrap (BitVec.ofInt k.bits x &&& ~~~(BitVec.ofInt k.bits y)).toNat
@[go_sem] theorem bin_and : binT .and (.a (.int k x)) (.a (.int k y)) = some (.a (.int k (iAnd k x y))) := by simp [binT, binA, isShift, intBin, iAnd]
@[go_sem] theorem bin_or : binT .or (.a (.int k x)) (.a (.int k y)) = some (.a (.int k (iOr k x y))) := by simp [binT, binA, isShift, intBin, iOr]
@[go_sem] theorem bin_xor : binT .xor (.a (.int k x)) (.a (.int k y)) = some (.a (.int k (iXor k x y))) := by simp [binT, binA, isShift, intBin, iXor]
@[go_sem] theorem bin_andNot : binT .andNot (.a (.int k x)) (.a (.int k y)) = some (.a (.int k (iAndNot k x y))) := by simp [binT, binA, isShift, intBin, iAndNot]
@[go_sem] theorem bin_lss : binT .lss (.a (.int k x)) (.a (.int k y)) = some (.a (.bool (decide (x < y)))) := by simp [binT, binA, isShift, intBin]
@[go_sem] theorem bin_leq : binT .leq (.a (.int k x)) (.a (.int k y)) = some (.a (.bool (decide (x ≤ y)))) := by simp [binT, binA, isShift, intBin]
@[go_sem] theorem bin_gtr : binT .gtr (.a (.int k x)) (.a (.int k y)) = some (.a (.bool (decide (y < x)))) := by simp [binT, binA, isShift, intBin]
@[go_sem] theorem bin_geq : binT .geq (.a (.int k x)) (.a (.int k y)) = some (.a (.bool (decide (y ≤ x)))) := by simp [binT, binA, isShift, intBin]
end
@[go_sem] theorem bin_sadd {x y : ByteArray} (h : x.size + y.size ≤ 140737488351232) : binT .add (.a (.string x)) (.a (.string y)) = some (.a (.string (x ++ y))) := by simp [binT, binA, strBin, h]
theorem toList_inj {x y : ByteArray} : x.toList = y.toList ↔ x = y := by
  rw [ByteArray.toList_eq, ByteArray.toList_eq]
  constructor
  · intro h; exact ByteArray.ext (Array.toList_inj.1 h)
  · rintro rfl; rfl
theorem toList_beq (x y : ByteArray) : (x.toList == y.toList) = decide (x = y) := by
  by_cases h : x = y
  · subst h; simp
  · have : x.toList ≠ y.toList := fun e => h (toList_inj.1 e)
    simp [h, this]
@[go_sem] theorem bin_seql {x y : ByteArray} : binT .eql (.a (.string x)) (.a (.string y)) = some (.a (.bool (decide (x = y)))) := by
  simp only [binT, binA, strBin, toList_beq, Option.map_some]
@[go_sem] theorem bin_sneq {x y : ByteArray} : binT .neq (.a (.string x)) (.a (.string y)) = some (.a (.bool (decide (x ≠ y)))) := by
  simp only [binT, binA, strBin, toList_beq, Option.map_some, decide_not]

def beqT (ne : Bool) (x y : TV) : Option TV :=
  match x, y with
  | .a (.bool u), .a (.bool v) => some (.a (.bool (if ne then u != v else u == v)))
  | _, _ => none
@[go_sem] theorem beq_f {u v : Bool} : beqT false (.a (.bool u)) (.a (.bool v)) = some (.a (.bool (u == v))) := rfl
@[go_sem] theorem beq_t {u v : Bool} : beqT true (.a (.bool u)) (.a (.bool v)) = some (.a (.bool (u != v))) := rfl
@[go_sem] theorem op_beq {d : Nat} {ne : Bool} {x y : Opd} : goN Φ N (.ops b (⟨.beq d ne x y, none, g⟩ :: os) live :: r) sl nd nx = putK Φ N d (beqT ne (ov sl x) (ov sl y)) (.ops (b + 100) os live :: r) sl nd nx := by
  rw [op_gen]
  simp only [exec, bind_run, opd_run]
  cases ov sl x with
  | a u =>
    cases u with
    | bool u =>
      cases ov sl y with
      | a v => cases v <;> rfl
      | _ => rfl
    | _ => cases ov sl y with
      | a v => cases v <;> rfl
      | _ => rfl
  | _ => cases ov sl y <;> rfl
def unT (op : UnOp) (x : TV) : Option TV :=
  match x with
  | .a u => (unA op u).map .a
  | _ => none
@[go_sem] theorem un_not {t : Bool} : unT .not (.a (.bool t)) = some (.a (.bool (!t))) := rfl
@[go_sem] theorem un_neg {k : IntKind} {n : Int} : unT .neg (.a (.int k n)) = some (.a (.int k (k.wrap (0 - n)))) := rfl
@[go_sem] theorem op_un {d : Nat} {op : UnOp} {x : Opd} : goN Φ N (.ops b (⟨.un d op x, none, g⟩ :: os) live :: r) sl nd nx = putK Φ N d (unT op (ov sl x)) (.ops (b + 100) os live :: r) sl nd nx := by
  rw [op_gen]
  simp only [exec, bind_run, opd_run]
  cases ov sl x with
  | a u => simp only [bind_run, unT]; cases unA op u <;> rfl
  | _ => rfl
def cviT (k : IntKind) (x : TV) : Option TV :=
  match x with
  | .a (.int _ n) => some (.a (.int k (k.wrap n)))
  | _ => none
@[go_sem] theorem cvi_i {k k' : IntKind} {n : Int} : cviT k (.a (.int k' n)) = some (.a (.int k (k.wrap n))) := rfl
@[go_sem] theorem op_cvi {d : Nat} {k : IntKind} {x : Opd} : goN Φ N (.ops b (⟨.cvi d k x, none, g⟩ :: os) live :: r) sl nd nx = putK Φ N d (cviT k (ov sl x)) (.ops (b + 100) os live :: r) sl nd nx := by
  rw [op_gen]
  simp only [exec, bind_run, opd_run]
  cases ov sl x with
  | a v => cases v <;> rfl
  | _ => rfl

def extT (i : Nat) (x : TV) : Option TV :=
  match x with
  | .tp cs => cs[i]?
  | _ => none
@[go_sem] theorem ext_tp {i : Nat} {cs : List TV} : extT i (.tp cs) = cs[i]? := rfl
@[go_sem] theorem op_ext {d i : Nat} {x : Opd} : goN Φ N (.ops b (⟨.ext d x i, none, g⟩ :: os) live :: r) sl nd nx = putK Φ N d (extT i (ov sl x)) (.ops (b + 100) os live :: r) sl nd nx := by
  rw [op_gen]
  simp only [exec, bind_run, opd_run]
  cases ov sl x with
  | tp cs => simp only [bind_run, extT]; cases cs[i]? <;> rfl
  | _ => rfl

/-! guards -/
def gK (Φ : Nat → Option Callee) (N : Nat) (u : TV) (want : Bool) (b : Nat) (op : VOp) (dst : Option Nat) (os : List VOper) (live : List Nat) (r : List It) (sl : Slots) (nd : Nodes) (nx : Nat) : Option (Out × St) :=
  match u with
  | .a (.bool t) => if t = want then goN Φ N (.ops b (⟨op, none, dst⟩ :: os) live :: r) sl nd nx else aftK Φ N ((putO dst TV.none).run ⟨sl, nd, nx⟩) (.ops (b + 100) os live :: r)
  | .a (.tuple _) => aftK Φ N ((putO dst TV.none).run ⟨sl, nd, nx⟩) (.ops (b + 100) os live :: r)
  | _ => none
theorem op_guard {op : VOp} {t : Nat} {want : Bool} {dst : Option Nat} : goN Φ N (.ops b (⟨op, some (t, want), dst⟩ :: os) live :: r) sl nd nx = gK Φ N (slotL sl t) want b op dst os live r sl nd nx := by
  rw [ops_cons]
  simp only [execG, bind_run]
  simp only [VM.getS, M.run, St.slot, gK, slotL]
  cases (look sl t).getD TV.un with
  | a v =>
    cases v with
    | bool u =>
      simp only
      split
      · rw [op_gen]
      · rfl
    | _ => rfl
  | _ => rfl
attribute [go_sem] op_guard
@[go_sem] theorem g_tt {op : VOp} {dst : Option Nat} : gK Φ N (.a (.bool true)) true b op dst os live r sl nd nx = goN Φ N (.ops b (⟨op, none, dst⟩ :: os) live :: r) sl nd nx := rfl
@[go_sem] theorem g_ff {op : VOp} {dst : Option Nat} : gK Φ N (.a (.bool false)) false b op dst os live r sl nd nx = goN Φ N (.ops b (⟨op, none, dst⟩ :: os) live :: r) sl nd nx := rfl
@[go_sem] theorem g_tf {op : VOp} {d : Nat} : gK Φ N (.a (.bool true)) false b op (some d) os live r sl nd nx = goN Φ N (.ops (b + 100) os live :: r) ((d, TV.none) :: sl) nd nx := rfl
@[go_sem] theorem g_ft {op : VOp} {d : Nat} : gK Φ N (.a (.bool false)) true b op (some d) os live r sl nd nx = goN Φ N (.ops (b + 100) os live :: r) ((d, TV.none) :: sl) nd nx := rfl
@[go_sem] theorem g_tf0 {op : VOp} : gK Φ N (.a (.bool true)) false b op none os live r sl nd nx = goN Φ N (.ops (b + 100) os live :: r) sl nd nx := rfl
@[go_sem] theorem g_ft0 {op : VOp} : gK Φ N (.a (.bool false)) true b op none os live r sl nd nx = goN Φ N (.ops (b + 100) os live :: r) sl nd nx := rfl
@[go_sem] theorem g_none {op : VOp} {want : Bool} {d : Nat} : gK Φ N TV.none want b op (some d) os live r sl nd nx = goN Φ N (.ops (b + 100) os live :: r) ((d, TV.none) :: sl) nd nx := rfl
@[go_sem] theorem g_none0 {op : VOp} {want : Bool} : gK Φ N TV.none want b op none os live r sl nd nx = goN Φ N (.ops (b + 100) os live :: r) sl nd nx := rfl
theorem g_if {op : VOp} {t want : Bool} {dst : Option Nat} : gK Φ N (.a (.bool t)) want b op dst os live r sl nd nx = if t = true then gK Φ N (.a (.bool true)) want b op dst os live r sl nd nx else gK Φ N (.a (.bool false)) want b op dst os live r sl nd nx := by
  cases t <;> rfl

/-! the rest, by the steps that they are made of -/
def mksM (b d e by_ : Nat) (zs : List ZC) (x : TV) : M Unit :=
  match x with
  | .a (.int .i64 n) =>
    if 0 ≤ n ∧ n * by_ ≤ 140737488355328 ∧ n ≤ 9223372036854775807 then
      (setN b (some (.sl false 0 e (List.replicate n.toNat (zeroEl zs.length zs))))).bind fun _ => setS d (.rf b)
    else .fail
  | _ => .fail
theorem mks_in {b d e by_ : Nat} {zs : List ZC} {n : Int} (h0 : 0 ≤ n) (h1 : n * by_ ≤ 140737488355328) (h2 : n ≤ 9223372036854775807) : mksM b d e by_ zs (.a (.int .i64 n)) =
    (setN b (some (.sl false 0 e (List.replicate n.toNat (zeroEl zs.length zs))))).bind fun _ => setS d (.rf b) := by
  simp [mksM, h0, h1, h2]
@[go_sem] theorem op_bsl {d e m n : Nat} {zs : List ZC} {ps : List (Nat × Opd)} : goN Φ N (.ops b (⟨.bsl d e m zs n ps, none, g⟩ :: os) live :: r) sl nd nx =
    aftK Φ N (((bslM (flatZ zs) m ps false (List.replicate n (zeroEl m zs))).bind fun es => (setN b (some (.sl es.2 0 e es.1))).bind fun _ => setS d (.rf b)).run ⟨sl, nd, nx⟩) (.ops (b + 100) os live :: r) := op_gen
theorem bsl_nil {flat q : Bool} {m : Nat} {es : List PV} : bslM flat m [] q es = .pure (es, q) := rfl
def bslK (flat q : Bool) (m i : Nat) (y : PV × Bool) (ps : List (Nat × Opd)) (es : List PV) : M (List PV × Bool) := if y.1.cells.length = m ∧ i < es.length then bslM flat m ps (q || y.2) (es.set i y.1) else .fail
theorem bsl_cons {flat q : Bool} {m i : Nat} {x : Opd} {ps : List (Nat × Opd)} {es : List PV} : bslM flat m ((i, x) :: ps) q es =
    (opd x).bind fun v => (toEl flat v).bind fun y => bslK flat q m i y ps es := rfl
theorem bsl_in {flat q : Bool} {m i : Nat} {y : PV × Bool} {ps : List (Nat × Opd)} {es : List PV} (h1 : y.1.cells.length = m) (h2 : i < es.length) : bslK flat q m i y ps es = bslM flat m ps (q || y.2) (es.set i y.1) := by
  simp [bslK, h1, h2]
@[go_sem] theorem op_app {d e by_ : Nat} {mv : Bool} {x y : Opd} : goN Φ N (.ops b (⟨.app d e by_ mv x y, none, g⟩ :: os) live :: r) sl nd nx =
    aftK Φ N (((appendM b e by_ mv (ov sl x) (ov sl y)).bind (setS d)).run ⟨sl, nd, nx⟩) (.ops (b + 100) os live :: r) := by
  rw [op_gen]
  simp only [exec, bind_run, opd_run]
@[go_sem] theorem op_store {w : Nat} {x y : Opd} : goN Φ N (.ops b (⟨.store w x y, none, g⟩ :: os) live :: r) sl nd nx =
    aftK Φ N ((storeAt b w (ov sl x) (ov sl y)).run ⟨sl, nd, nx⟩) (.ops (b + 100) os live :: r) := by
  rw [op_gen]
  simp only [exec, bind_run, opd_run]
def nilB (d : Nat) (v : TV) : Option Node → M Unit
  | some (.bx _ _) => setS d v
  | _ => .fail
def nilE (d : Nat) (v : TV) : Option Node → M Unit
  | some (.sl _ _ _ _) => setS d v
  | _ => .fail
def nilM (d : Nat) : TV → M Unit
  | .rf id => (getN id).bind (nilB d (.rf id))
  | .ad id o => setS d (.ad id o)
  | .ea id i m o => (getN id).bind (nilE d (.ea id i m o))
  | .ez cs o => setS d (.ez cs o)
  | .fn f fs cs => setS d (.fn f fs cs)
  | .ic t v => setS d (.ic t v)
  | _ => .fail
theorem nilB_bx {d : Nat} {v : TV} {z : Bool} {cs : List TV} : nilB d v (some (.bx z cs)) = setS d v := rfl
theorem nilE_sl {d : Nat} {v : TV} {q : Bool} {ver e : Nat} {es : List PV} : nilE d v (some (.sl q ver e es)) = setS d v := rfl
theorem nil_rf {d id : Nat} : nilM d (.rf id) = (getN id).bind (nilB d (.rf id)) := rfl
theorem nil_ad {d id o : Nat} : nilM d (.ad id o) = setS d (.ad id o) := rfl
theorem nil_ea {d id i m o : Nat} : nilM d (.ea id i m o) = (getN id).bind (nilE d (.ea id i m o)) := rfl
theorem nil_ez {d o : Nat} {cs : List PV} : nilM d (.ez cs o) = setS d (.ez cs o) := rfl
theorem nil_fn {d f : Nat} {fs cs : List TV} : nilM d (.fn f fs cs) = setS d (.fn f fs cs) := rfl
theorem nil_ic {d t : Nat} {v : TV} : nilM d (.ic t v) = setS d (.ic t v) := rfl
@[go_sem] theorem op_nilck {d : Nat} {x : Opd} : goN Φ N (.ops b (⟨.nilck d x, none, g⟩ :: os) live :: r) sl nd nx =
    aftK Φ N ((nilM d (ov sl x)).run ⟨sl, nd, nx⟩) (.ops (b + 100) os live :: r) := by
  rw [op_gen]
  simp only [exec, bind_run, opd_run]
  cases ov sl x with
  | rf id =>
    simp only [nilM, bind_run]
    congr 1
  | ea id i m o =>
    simp only [nilM, bind_run]
    congr 1
  | _ => rfl
@[go_sem] theorem op_mkf {d f : Nat} {fs cs : List Opd} : goN Φ N (.ops b (⟨.mkf d f fs cs, none, g⟩ :: os) live :: r) sl nd nx =
    goN Φ N (.ops (b + 100) os live :: r) ((d, .fn f (fs.map (ov sl)) (cs.map (ov sl))) :: sl) nd nx := by
  have key : ∀ (xs : List Opd) (s : St), (opds xs).run s = some (xs.map (ov s.slots), s) := by
    intro xs
    induction xs with
    | nil => intro s; rfl
    | cons x xs ih => intro s; simp only [opds, bind_run, opd_run, ih]; rfl
  rw [op_gen]
  simp only [exec, bind_run, key]
  rfl
theorem opds_run : ∀ (xs : List Opd) (s : St), (opds xs).run s = some (xs.map (ov s.slots), s)
  | [], s => rfl
  | x :: xs, s => by simp only [opds, bind_run, opd_run, opds_run xs]; rfl
@[go_sem] theorem op_mki {d t : Nat} {x : Opd} : goN Φ N (.ops b (⟨.mki d t x, none, g⟩ :: os) live :: r) sl nd nx = goN Φ N (.ops (b + 100) os live :: r) ((d, .ic t (ov sl x)) :: sl) nd nx := by
  rw [op_gen]
  simp only [exec, bind_run, opd_run]
  rfl
@[go_sem] theorem op_mks {d e by_ : Nat} {zs : List ZC} {x : Opd} : goN Φ N (.ops b (⟨.mks d e by_ zs x, none, g⟩ :: os) live :: r) sl nd nx =
    aftK Φ N ((mksM b d e by_ zs (ov sl x)).run ⟨sl, nd, nx⟩) (.ops (b + 100) os live :: r) := by
  rw [op_gen]
  simp only [exec, bind_run, opd_run, mksM]
  rfl
@[go_sem] theorem op_cvs {d : Nat} {x : Opd} : goN Φ N (.ops b (⟨.cvs d x, none, g⟩ :: os) live :: r) sl nd nx =
    aftK Φ N ((exec Φ b (.cvs d x)).run ⟨sl, nd, nx⟩) (.ops (b + 100) os live :: r) := op_gen
def boundO (sl : Slots) : Option Opd → Option (Option Int)
  | none => some none
  | some y => (asI (ov sl y)).map some
theorem bound_run (y : Option Opd) (s : St) : (bound y).run s = (boundO s.slots y).map (·, s) := by
  cases y with
  | none => rfl
  | some y =>
    simp only [bound, bind_run, opd_run, boundO]
    cases asI (ov s.slots y) <;> rfl
@[go_sem] theorem bound_none : boundO sl none = some none := rfl
@[go_sem] theorem bound_some {y : Opd} : boundO sl (some y) = (asI (ov sl y)).map some := rfl
@[go_sem] theorem asI_int {k : IntKind} {n : Int} : asI (.a (.int k n)) = some n := rfl
def cutK (Φ : Nat → Option Callee) (N : Nat) (d : Nat) (lo hi : Option (Option Int)) (f : Option Int → Option Int → M TV) (r : List It) (s : St) : Option (Out × St) :=
  match lo, hi with
  | some l, some h => aftK Φ N (((f l h).bind (setS d)).run s) r
  | _, _ => none
@[go_sem] theorem cut_some {d : Nat} {l h : Option Int} {f : Option Int → Option Int → M TV} {s : St} : cutK Φ N d (some l) (some h) f r s = aftK Φ N (((f l h).bind (setS d)).run s) r := rfl
@[go_sem] theorem op_slc {d e : Nat} {x : Opd} {lo hi : Option Opd} : goN Φ N (.ops b (⟨.slc d e x lo hi, none, g⟩ :: os) live :: r) sl nd nx =
    cutK Φ N d (boundO sl lo) (boundO sl hi) (sliceAt e (ov sl x)) (.ops (b + 100) os live :: r) ⟨sl, nd, nx⟩ := by
  rw [op_gen]
  simp only [exec, bind_run, opd_run, bound_run]
  cases hlo : boundO sl lo with
  | none => cases boundO sl hi <;> rfl
  | some l =>
    cases hhi : boundO sl hi with
    | none => simp only [Option.map_some, Option.map_none, hhi]; rfl
    | some h => simp only [Option.map_some, hhi, bind_run, cutK]
@[go_sem] theorem op_sslc {d : Nat} {x : Opd} {lo hi : Option Opd} : goN Φ N (.ops b (⟨.sslc d x lo hi, none, g⟩ :: os) live :: r) sl nd nx =
    cutK Φ N d (boundO sl lo) (boundO sl hi) (strAt (ov sl x)) (.ops (b + 100) os live :: r) ⟨sl, nd, nx⟩ := by
  rw [op_gen]
  simp only [exec, bind_run, opd_run, bound_run]
  cases hlo : boundO sl lo with
  | none => cases boundO sl hi <;> rfl
  | some l =>
    cases hhi : boundO sl hi with
    | none => simp only [Option.map_some, Option.map_none, hhi]; rfl
    | some h => simp only [Option.map_some, hhi, bind_run, cutK]
@[go_sem] theorem op_mmx {d : Nat} {t : Bool} {xs : List Opd} : goN Φ N (.ops b (⟨.mmx d t xs, none, g⟩ :: os) live :: r) sl nd nx =
    aftK Φ N ((exec Φ b (.mmx d t xs)).run ⟨sl, nd, nx⟩) (.ops (b + 100) os live :: r) := op_gen

def slc0K (Φ : Nat → Option Callee) (N : Nat) (d b e : Nat) (o : Option (Nat × List PV)) (r : List It) (sl : Slots) (nd : Nodes) (nx : Nat) : Option (Out × St) :=
  match o with
  | some (e', _) => if e' = e then goN Φ N r ((d, .rf b) :: sl) ((b, some (.sl false 0 e [])) :: nd) nx else none
  | none => none
@[go_sem] theorem slc0_some {d b e : Nat} {es : List PV} : slc0K Φ N d b e (some (e, es)) r sl nd nx = goN Φ N r ((d, .rf b) :: sl) ((b, some (.sl false 0 e [])) :: nd) nx := by simp [slc0K]
@[go_sem] theorem op_slc0 {d e : Nat} {x : Opd} : goN Φ N (.ops b (⟨.slc0 d e x, none, g⟩ :: os) live :: r) sl nd nx = slc0K Φ N d b e (elemsP nd (ov sl x)) (.ops (b + 100) os live :: r) sl nd nx := by
  rw [op_gen]
  simp only [exec, bind_run, opd_run, elems_run]
  cases elemsP nd (ov sl x) with
  | none => rfl
  | some p =>
    obtain ⟨e', es⟩ := p
    simp only [Option.map_some, slc0K]
    split <;> rfl

/-! calls -/
/-- What a callee gets; what it makes of it; what comes back. -/
def callK (Φ : Nat → Option Callee) (N : Nat) (c : Option Callee) (b : Nat) (d : Option Nat) (xs : List TV) (r : List It) (s : St) : Option (Out × St) :=
  match c with
  | none => none
  | some c => aftK Φ N (((callM (some c) b xs).bind (putO d)).run s) r
@[go_sem] theorem op_call {d : Option Nat} {f : Nat} {xs : List Opd} : goN Φ N (.ops b (⟨.call d f xs, none, g⟩ :: os) live :: r) sl nd nx =
    callK Φ N (Φ f) b d (xs.map (ov sl)) (.ops (b + 100) os live :: r) ⟨sl, nd, nx⟩ := by
  rw [op_gen]
  simp only [exec, bind_run, opds_run, callK]
  cases Φ f with
  | none => rfl
  | some c => simp only [bind_run]
def calvK (Φ : Nat → Option Callee) (N : Nat) (f : TV) (b : Nat) (d : Option Nat) (xs : List TV) (r : List It) (s : St) : Option (Out × St) :=
  match f with
  | .fn g fs cs => callK Φ N (Φ g) b d (fs ++ xs ++ cs) r s
  | _ => none
@[go_sem] theorem calv_fn {g : Nat} {fs cs xs : List TV} {b : Nat} {d : Option Nat} {s : St} : calvK Φ N (.fn g fs cs) b d xs r s = callK Φ N (Φ g) b d (fs ++ xs ++ cs) r s := rfl
@[go_sem] theorem op_calv {d : Option Nat} {f : Opd} {xs : List Opd} : goN Φ N (.ops b (⟨.calv d f xs, none, g⟩ :: os) live :: r) sl nd nx =
    calvK Φ N (ov sl f) b d (xs.map (ov sl)) (.ops (b + 100) os live :: r) ⟨sl, nd, nx⟩ := by
  rw [op_gen]
  simp only [exec, bind_run, opd_run]
  cases ov sl f with
  | fn g fs cs =>
    simp only [bind_run, opds_run, calvK, callK]
    cases Φ g with
    | none => rfl
    | some c => simp only [bind_run]
  | _ => rfl
/-- The callee's answer, then what comes back. -/
def backK (Φ : Nat → Option Callee) (N : Nat) (keeps scalar : Bool) (ms : List Md) (b : Nat) (d : Option Nat) (xs : List TV) (cs : List CV) (o : Option (List CV × List CV)) (r : List It) (s : St) : Option (Out × St) :=
  match o with
  | none => none
  | some (rs, fs) => aftK Φ N (((takeBack keeps (b + 100) b ms xs cs fs).bind fun b' => (if scalar then (if b' ≤ b + 99 then (liftO (plainL rs)).bind fun ts => M.pure (oneOf ts) else .fail) else resultTV keeps (b + 99) b' rs).bind (putO d)).run s) r
def resS (top b : Nat) (rs : List CV) : M TV := if b ≤ top then (liftO (plainL rs)).bind fun ts => M.pure (oneOf ts) else .fail
def resT (top : Nat) (r : List TV × Nat) : M TV := if r.2 ≤ top then .pure (oneOf r.1) else .fail
theorem resS_in {top b : Nat} {rs : List CV} (h : b ≤ top) : resS top b rs = (liftO (plainL rs)).bind fun ts => M.pure (oneOf ts) := by simp [resS, h]
theorem resT_in {top : Nat} {r : List TV × Nat} (h : r.2 ≤ top) : resT top r = .pure (oneOf r.1) := by simp [resT, h]
theorem resultTV_eq {q : Bool} {top b : Nat} {rs : List CV} : resultTV q top b rs = (unpackL q b rs).bind (resT top) := rfl
@[go_sem] theorem one_1 {v : TV} : oneOf [v] = v := rfl
@[go_sem] theorem one_0 : oneOf [] = .tp [] := rfl
@[go_sem] theorem one_n {v u : TV} {l : List TV} : oneOf (v :: u :: l) = .tp (v :: u :: l) := rfl
@[go_sem] theorem plain_a {v : Value} : plain (.a v) = some (.a v) := rfl
@[go_sem] theorem plain_sl {e : Nat} {es : List PV} : plain (.sl true e es) = some (.sz e es) := rfl
@[go_sem] theorem plain_st {cs : List CV} : plain (.st cs) = (plainL cs).map .st := rfl
@[go_sem] theorem plainL_nil : plainL [] = some [] := rfl
def plC (a : Option TV) (o : Option (List TV)) : Option (List TV) := match a, o with | some y, some ys => some (y :: ys) | _, _ => none
@[go_sem] theorem plC_some {y : TV} {ys : List TV} : plC (some y) (some ys) = some (y :: ys) := rfl
@[go_sem] theorem plainL_cons {x : CV} {xs : List CV} : plainL (x :: xs) = plC (plain x) (plainL xs) := rfl
theorem putO_some {d : Nat} {v : TV} : putO (some d) v = setS d v := rfl
theorem putO_none {v : TV} : putO none v = .pure () := rfl
@[go_sem] theorem back_s {keeps : Bool} {ms : List Md} {b : Nat} {d : Option Nat} {xs : List TV} {cs rs fs : List CV} {s : St} : backK Φ N keeps true ms b d xs cs (some (rs, fs)) r s =
    aftK Φ N (((takeBack keeps (b + 100) b ms xs cs fs).bind fun b' => (resS (b + 99) b' rs).bind (putO d)).run s) r := rfl
@[go_sem] theorem back_n {keeps : Bool} {ms : List Md} {b : Nat} {d : Option Nat} {xs : List TV} {cs rs fs : List CV} {s : St} : backK Φ N keeps false ms b d xs cs (some (rs, fs)) r s =
    aftK Φ N (((takeBack keeps (b + 100) b ms xs cs fs).bind fun b' => (resultTV keeps (b + 99) b' rs).bind (putO d)).run s) r := rfl
def goK (Φ : Nat → Option Callee) (N : Nat) (c : Callee) (b : Nat) (d : Option Nat) (xs : List TV) (o : Option (List CV × St)) (r : List It) : Option (Out × St) :=
  match o with
  | none => none
  | some (cs, s) => backK Φ N c.keeps c.scalar c.modes b d xs cs (c.go cs) r s
@[go_sem] theorem goK_some {c : Callee} {b : Nat} {d : Option Nat} {xs : List TV} {cs : List CV} {s : St} : goK Φ N c b d xs (some (cs, s)) r = backK Φ N c.keeps c.scalar c.modes b d xs cs (c.go cs) r s := rfl
@[go_sem] theorem call_some {c : Callee} {b : Nat} {d : Option Nat} {xs : List TV} {s : St} : callK Φ N (some c) b d xs r s =
    goK Φ N c b d xs (((lendA c.keeps (b + 100) c.modes xs).bind fun ps => show_ c.keeps c.modes xs ps).run s) r := by
  simp only [callK, callM, bind_run, goK]
  cases (lendA c.keeps (b + 100) c.modes xs).run s with
  | none => rfl
  | some p =>
    obtain ⟨ps, s1⟩ := p
    simp only
    cases (show_ c.keeps c.modes xs ps).run s1 with
    | none => rfl
    | some q =>
      obtain ⟨cs, s2⟩ := q
      simp only [backK]
      cases c.go cs with
      | none => rfl
      | some x =>
        obtain ⟨rs, fs⟩ := x
        simp only [bind_run]
        cases (takeBack c.keeps (b + 100) b c.modes xs cs fs).run s2 with
        | none => rfl
        | some y => simp only [bind_run]
end

/-! ### a function -/
/-- Behind the body: results and what was lent. -/
def outK (f : Fn) (o : Option (Out × St)) : Option (List CV × List CV) :=
  match o with
  | some (.ext _, _) => none
  | some (_, s) => ((takeOut f).run s).map (·.1)
  | none => none
@[go_sem] theorem out_ret {f : Fn} {s : St} : outK f (some (.ret, s)) = ((takeOut f).run s).map (·.1) := rfl
@[go_sem] theorem out_nrm {f : Fn} {s : St} : outK f (some (.nrm, s)) = ((takeOut f).run s).map (·.1) := rfl
def inK (Φ : Nat → Option Callee) (N : Nat) (f : Fn) (o : Option ((List TV × Nat) × St)) : Option (List CV × List CV) :=
  match o with
  | some ((vs, b), s) => outK f (goN Φ N [.c f.body] ((List.range vs.length).zip vs ++ rootsOf 0 f.modes vs) s.nodes (b + 1))
  | none => none
/-- Numbered slots. -/
def enumS : Nat → List TV → Slots
  | _, [] => []
  | k, v :: vs => (k, v) :: enumS (k + 1) vs
@[go_sem] theorem enum_nil {k : Nat} : enumS k [] = [] := rfl
@[go_sem] theorem enum_cons {k : Nat} {v : TV} {vs : List TV} : enumS k (v :: vs) = (k, v) :: enumS (k + 1) vs := rfl
theorem enum_eq : ∀ (vs : List TV) (k : Nat), (List.range' k vs.length).zip vs = enumS k vs
  | [], k => rfl
  | v :: vs, k => by simp only [List.length_cons, List.range'_succ, List.zip_cons_cons, enumS, enum_eq vs]
@[go_sem] theorem in_some {f : Fn} {vs : List TV} {b : Nat} {s : St} : inK Φ N f (some ((vs, b), s)) = outK f (goN Φ N [.c f.body] (enumS 0 vs ++ rootsOf 0 f.modes vs) s.nodes (b + 1)) := by
  simp only [inK, List.range_eq_range', enum_eq]
theorem fn_run {f : Fn} {args : List CV} (h : args.length = f.modes.length) : runFn Φ N f args = inK Φ N f ((unpackL f.keeps 0 args).run ⟨[], [], 0⟩) := by
  unfold runFn inK
  rw [if_pos h]
  cases (unpackL f.keeps 0 args).run ⟨[], [], 0⟩ with
  | none => rfl
  | some p =>
    obtain ⟨⟨vs, b⟩, s⟩ := p
    rfl

/-! stores -/
def stoN (n : Option Node) (w id o : Nat) (y : TV) (sl : Slots) (nd : Nodes) (nx : Nat) : Option (Unit × St) :=
  match n with
  | some (.bx false cs) => if y.cells.length = w ∧ o + w ≤ cs.length ∧ y.cells.all TV.one = true then some ((), ⟨sl, (id, some (.bx false (cs.take o ++ y.cells ++ cs.drop (o + w)))) :: nd, nx⟩) else none
  | _ => none
theorem storeBox_run {w id o : Nat} {y : TV} : (storeBox w id o y).run ⟨sl, nd, nx⟩ = stoN (nodeL nd id) w id o y sl nd nx := by
  simp only [storeBox, bind_run, stoN, nodeL]
  simp only [VM.getN, M.run, St.node]
  cases (look nd id).getD none with
  | none => rfl
  | some n =>
    cases n with
    | sl _ _ _ _ => rfl
    | bx z cs =>
      cases z with
      | true => rfl
      | false => simp only; split <;> rfl
@[go_sem] theorem sto_rf {b w id : Nat} {y : TV} : (storeAt b w (.rf id) y).run ⟨sl, nd, nx⟩ = stoN (nodeL nd id) w id 0 y sl nd nx := storeBox_run
@[go_sem] theorem sto_ad {b w id o : Nat} {y : TV} : (storeAt b w (.ad id o) y).run ⟨sl, nd, nx⟩ = stoN (nodeL nd id) w id o y sl nd nx := storeBox_run
@[go_sem] theorem stoN_bx {cs : List TV} {w id o : Nat} {y : TV} (h1 : y.cells.length = w) (h2 : o + w ≤ cs.length) (h3 : y.cells.all TV.one = true) : stoN (some (.bx false cs)) w id o y sl nd nx =
    some ((), ⟨sl, (id, some (.bx false (cs.take o ++ y.cells ++ cs.drop (o + w)))) :: nd, nx⟩) := by
  simp [stoN, h1, h2, h3]
def stoX (x : Option PV) (q : Bool) (ver e : Nat) (es : List PV) (ys : List PV × Bool) (b w id i o : Nat) : M Unit :=
  match x with
  | some x => if ys.1.length = w ∧ o + w ≤ x.cells.length then
      setN id (some (.sl (q || ys.2) (if allAtoms ys.1 x o w then ver else b + 1) e (es.set i (setCells x o ys.1))))
    else .fail
  | none => .fail
def stoE (n : Option Node) (ys : List PV × Bool) (b w id i o : Nat) : M Unit :=
  match n with
  | some (.sl q ver e es) => stoX es[i]? q ver e es ys b w id i o
  | _ => .fail
theorem stoX_some {x : PV} {q : Bool} {ver e : Nat} {es : List PV} {ys : List PV × Bool} {b w id i o : Nat} (h1 : ys.1.length = w) (h2 : o + w ≤ x.cells.length) : stoX (some x) q ver e es ys b w id i o =
    setN id (some (.sl (q || ys.2) (if allAtoms ys.1 x o w then ver else b + 1) e (es.set i (setCells x o ys.1)))) := by simp [stoX, h1, h2]
theorem stoE_sl {q : Bool} {ver e : Nat} {es : List PV} {ys : List PV × Bool} {b w id i o : Nat} : stoE (some (.sl q ver e es)) ys b w id i o = stoX es[i]? q ver e es ys b w id i o := rfl
@[go_sem] theorem atoms_if {ys : List PV} {x : PV} {o w a c : Nat} (h : allAtoms ys x o w = true) : (if allAtoms ys x o w = true then a else c) = a := by simp [h]
theorem atoms_else {ys : List PV} {x : PV} {o w a c : Nat} (h : allAtoms ys x o w = false) : (if allAtoms ys x o w = true then a else c) = c := by simp [h]
@[go_sem] theorem set_a {v : Value} {y : PV} : setCells (.a v) 0 [y] = y := rfl
@[go_sem] theorem set_sl {e : Nat} {es : List PV} {y : PV} : setCells (.sl e es) 0 [y] = y := rfl
@[go_sem] theorem set_fz {e : Nat} {es : List PV} {y : PV} : setCells (.fz e es) 0 [y] = y := rfl
@[go_sem] theorem set_st {cs ys : List PV} {o : Nat} : setCells (.st cs) o ys = .st (cs.take o ++ ys ++ cs.drop (o + ys.length)) := rfl
theorem sto_ea {b w id i m o : Nat} {y : TV} : storeAt b w (.ea id i m o) y = (toPVs y.cells).bind fun ys => (getN id).bind fun n => stoE n ys b w id i o := by
  rfl
theorem topvs_nil : toPVs [] = .pure ([], false) := rfl
theorem topvs_cons {x : TV} {xs : List TV} : toPVs (x :: xs) = (toPV x).bind fun y => (toPVs xs).bind fun ys => .pure (y.1 :: ys.1, y.2 || ys.2) := rfl
theorem topv_a {v : Value} (h : one1 v = true) : toPV (.a v) = .pure (.a v, false) := by simp [toPV, h]
theorem topv_nl {e : Nat} : toPV (.nl e) = .pure (.sl e [], false) := rfl
theorem topv_sz {e : Nat} {es : List PV} : toPV (.sz e es) = .pure (.fz e es, true) := rfl
theorem topv_rf {id : Nat} : toPV (.rf id) = (getN id).bind fun n => match n with
    | some (.sl q _ e es) => (setN id none).bind fun _ => .pure (.sl e es, q)
    | _ => .fail := rfl
@[go_sem] theorem atom_a {v : Value} (h : one1 v = true) : atomPV (.a v) = some (.a v) := by simp [atomPV, h]
@[go_sem] theorem atoms_nil : atomPVs [] = some [] := rfl
@[go_sem] theorem atoms_cons {v : Value} {xs : List TV} (h : one1 v = true) : atomPVs (.a v :: xs) = (atomPVs xs).map (.a v :: ·) := by
  simp only [atomPVs, atomPV, h, if_true]
  cases atomPVs xs <;> rfl
theorem toel_f_a {v : Value} (h : one1 v = true) : toEl true (.a v) = .pure (.a v, false) := by simp only [toEl, if_true, atomPV, h]; rfl
theorem toel_f_st {cs : List TV} : toEl true (.st cs) = (liftO (atomPVs cs)).bind fun ys => .pure (.st ys, false) := rfl
theorem toel_s_st {cs : List TV} : toEl false (.st cs) = (toPVs cs).bind fun ys => .pure (.st ys.1, ys.2) := rfl
theorem toel_s_a {v : Value} : toEl false (.a v) = toPV (.a v) := rfl
theorem toel_s_nl {e : Nat} : toEl false (.nl e) = toPV (.nl e) := rfl
theorem toel_s_rf {i : Nat} : toEl false (.rf i) = toPV (.rf i) := rfl
theorem toel_s_sz {e : Nat} {es : List PV} : toEl false (.sz e es) = toPV (.sz e es) := rfl
@[go_sem] theorem flatz_nil : flatZ [] = true := rfl
@[go_sem] theorem flatz_v {v : Value} {zs : List ZC} : flatZ (.v v :: zs) = flatZ zs := rfl
@[go_sem] theorem flatz_nl {e : Nat} {zs : List ZC} : flatZ (.nl e :: zs) = false := rfl
@[go_sem] theorem zeroel_1 {z : ZC} : zeroEl 1 [z] = z.pv := rfl
@[go_sem] theorem zeroel_2 {z z' : ZC} {zs : List ZC} {m : Nat} : zeroEl (m + 2) (z :: z' :: zs) = .st (z.pv :: z'.pv :: zs.map ZC.pv) := rfl
@[go_sem] theorem zpv_v {v : Value} : (ZC.v v).pv = .a v := rfl
@[go_sem] theorem zpv_nl {e : Nat} : (ZC.nl e).pv = .sl e [] := rfl

/-! appends -/
def apto (n : Option Node) (e id : Nat) (sl : Slots) (nd : Nodes) (nx : Nat) : Option ((List PV × Bool) × St) :=
  match n with
  | some (.sl q _ e' es) => if e' = e then some ((es, q), ⟨sl, (id, none) :: nd, nx⟩) else none
  | _ => none
@[go_sem] theorem apto_sl {q : Bool} {ver e id : Nat} {es : List PV} : apto (some (.sl q ver e es)) e id sl nd nx = some ((es, q), ⟨sl, (id, none) :: nd, nx⟩) := by simp [apto]
@[go_sem] theorem appto_nl {e : Nat} {s : St} : (appTo e (.nl e)).run s = some (([], false), s) := by simp [appTo, M.run]
@[go_sem] theorem appto_rf {e id : Nat} : (appTo e (.rf id)).run ⟨sl, nd, nx⟩ = apto (nodeL nd id) e id sl nd nx := by
  simp only [appTo, bind_run, apto, nodeL]
  simp only [VM.getN, M.run, St.node]
  cases (look nd id).getD none with
  | none => rfl
  | some n =>
    cases n with
    | bx _ _ => rfl
    | sl q ver e' es => simp only; split <;> rfl
def apof (n : Option Node) (e id : Nat) (sl : Slots) (nd : Nodes) (nx : Nat) : Option ((List PV × Bool) × St) :=
  match n with
  | some (.sl _ _ e' es) => if e' = e then some ((es.map PV.cpy, false), ⟨sl, nd, nx⟩) else none
  | _ => none
@[go_sem] theorem apof_sl {q : Bool} {ver e id : Nat} {es : List PV} : apof (some (.sl q ver e es)) e id sl nd nx = some ((es.map PV.cpy, false), ⟨sl, nd, nx⟩) := by simp [apof]
@[go_sem] theorem appof_mv {e id : Nat} : (appOf e true (.rf id)).run ⟨sl, nd, nx⟩ = apto (nodeL nd id) e id sl nd nx := by
  simp only [appOf, bind_run, apto, nodeL]
  simp only [VM.getN, M.run, St.node]
  cases (look nd id).getD none with
  | none => rfl
  | some n =>
    cases n with
    | bx _ _ => rfl
    | sl q ver e' es => simp only [if_true]; split <;> rfl
@[go_sem] theorem appof_rf {e id : Nat} : (appOf e false (.rf id)).run ⟨sl, nd, nx⟩ = apof (nodeL nd id) e id sl nd nx := by
  simp only [appOf, bind_run, apof, nodeL]
  simp only [VM.getN, M.run, St.node]
  cases (look nd id).getD none with
  | none => rfl
  | some n =>
    cases n with
    | bx _ _ => rfl
    | sl q ver e' es => simp only [Bool.false_eq_true, if_false]; split <;> rfl
def apel (o : Option (Nat × List PV)) (e : Nat) (s : St) : Option ((List PV × Bool) × St) :=
  match o with
  | some (e', es) => if e' = e then some ((es.map PV.cpy, false), s) else none
  | none => none
@[go_sem] theorem apel_some {e : Nat} {es : List PV} {s : St} : apel (some (e, es)) e s = some ((es.map PV.cpy, false), s) := by simp [apel]
theorem appof_el {e : Nat} {mv : Bool} {y : TV} {s : St} (h : ∀ id, y ≠ .rf id) : (appOf e mv y).run s = apel (elemsP s.nodes y) e s := by
  have : appOf e mv y = (elems y).bind fun r => if r.1 = e then .pure (r.2.map PV.cpy, false) else .fail := by
    cases y <;> first | rfl | exact absurd rfl (h _)
  rw [this]
  simp only [bind_run, elems_run]
  cases elemsP s.nodes y with
  | none => rfl
  | some p =>
    obtain ⟨e', es⟩ := p
    simp only [Option.map_some, apel]
    split <;> rfl
@[go_sem] theorem appof_nl {e e' : Nat} {mv : Bool} {s : St} : (appOf e mv (.nl e')).run s = apel (some (e', [])) e s := appof_el (by simp)
@[go_sem] theorem appof_sz {e e' : Nat} {es : List PV} {mv : Bool} {s : St} : (appOf e mv (.sz e' es)).run s = apel (some (e', es)) e s := appof_el (by simp)
@[go_sem] theorem appof_sb {e i j k : Nat} {mv : Bool} {s : St} : (appOf e mv (.sb i j k)).run s = apel (elemsB (nodeL s.nodes i) j k) e s := appof_el (by simp)
@[go_sem] theorem appof_ri {e i j : Nat} {p : List (Nat × Nat × Nat)} {mv : Bool} {s : St} : (appOf e mv (.ri i j p)).run s = apel (elemsI (nodeL s.nodes i) j p) e s := appof_el (by simp)
def app2 (b e by_ : Nat) (xs : List PV × Bool) (o : Option ((List PV × Bool) × St)) : Option (TV × St) :=
  match o with
  | some (ys, s) => if capOk (xs.1.length + ys.1.length) by_ = true then some (.rf b, ⟨s.slots, (b, some (.sl (xs.2 || ys.2) 0 e (xs.1 ++ ys.1))) :: s.nodes, s.next⟩) else none
  | none => none
def app1 (b e by_ : Nat) (mv : Bool) (y : TV) (o : Option ((List PV × Bool) × St)) : Option (TV × St) :=
  match o with
  | some (xs, s) => app2 b e by_ xs ((appOf e mv y).run s)
  | none => none
@[go_sem] theorem app1_some {b e by_ : Nat} {mv : Bool} {y : TV} {xs : List PV × Bool} {s : St} : app1 b e by_ mv y (some (xs, s)) = app2 b e by_ xs ((appOf e mv y).run s) := rfl
@[go_sem] theorem app2_in {b e by_ : Nat} {q q' : Bool} {xs ys : List PV} {s : St} (h1 : xs.length + ys.length ≤ 9223372036854775807) (h2 : (xs.length + ys.length) * by_ ≤ 140737488355328) : app2 b e by_ (xs, q) (some ((ys, q'), s)) =
    some (.rf b, ⟨s.slots, (b, some (.sl (q || q') 0 e (xs ++ ys))) :: s.nodes, s.next⟩) := by simp [app2, capOk, h1, h2]
@[go_sem] theorem append_run {b e by_ : Nat} {mv : Bool} {x y : TV} {s : St} : (appendM b e by_ mv x y).run s = app1 b e by_ mv y ((appTo e x).run s) := by
  simp only [appendM, bind_run, app1]
  cases (appTo e x).run s with
  | none => rfl
  | some p =>
    obtain ⟨xs, s1⟩ := p
    simp only [app2]
    cases (appOf e mv y).run s1 with
    | none => rfl
    | some p2 =>
      obtain ⟨ys, s2⟩ := p2
      simp only
      split
      · simp only [bind_run]; rfl
      · rfl
@[go_sem] theorem cpy_a {v : Value} : (PV.a v).cpy = .a v := rfl
@[go_sem] theorem cpys_nil : List.map PV.cpy [] = [] := rfl
theorem maxLen_eq : maxLen = 9223372036854775807 := rfl

/-! what goes in and out of a call -/
@[go_sem] theorem depth_eq : depth = 40 := rfl
attribute [go_sem] rootsOf
section
variable {z fz q : Bool} {k n b V : Nat}
theorem frz_a {v : Value} : freeze z (k + 1) n (.a v) = .pure (.a v) := rfl
theorem frz_nl {e : Nat} : freeze z (k + 1) n (.nl e) = .pure (.sl true e []) := rfl
theorem frz_sz {e : Nat} {es : List PV} : freeze z (k + 1) n (.sz e es) = .pure (.sl true e es) := rfl
theorem frz_st {cs : List TV} : freeze z (k + 1) n (.st cs) = (freezeL z k cs).bind fun cs' => .pure (.st cs') := rfl
theorem frz_fn {f : Nat} {fs cs : List TV} : freeze z (k + 1) n (.fn f fs cs) = (freezeL z k fs).bind fun fs' => (freezeL z k cs).bind fun cs' => .pure (.fn f fs' cs') := rfl
theorem frz_ic {t : Nat} {v : TV} : freeze z (k + 1) n (.ic t v) = (freeze z k n v).bind fun v' => .pure (.ic t v') := rfl
theorem frz_un : freeze z (k + 1) n .un = .pure .un := rfl
theorem frz_rf {id : Nat} : freeze false (k + 1) n (.rf id) = (getN id).bind fun m => match m with
      | some (.sl q _ e es) => .pure (.sl true e (if q then es.map PV.thaw else es))
      | some (.bx _ cs) => (freezeL false k cs).bind fun cs' => .pure (.bx true cs')
      | none => .fail := rfl
theorem frz_sb {id lo j : Nat} : freeze false (k + 1) n (.sb id lo j) = (getN id).bind fun m => match m with
      | some (.sl q _ e es) => .pure (.sl true e (if q then ((es.drop lo).take j).map PV.thaw else (es.drop lo).take j))
      | _ => .fail := rfl
theorem frz_ri {id ver : Nat} {p : List (Nat × Nat × Nat)} : freeze false (k + 1) n (.ri id ver p) = (getN id).bind fun m => match m with
      | some (.sl q ver' _ es) => if ver' = ver then match dget es p with
        | some (e, es') => .pure (.sl true e (if q then es'.map PV.thaw else es'))
        | none => .fail else .fail
      | _ => .fail := rfl
theorem frz_ad {id o : Nat} : freeze false (k + 1) n (.ad id o) = (getN id).bind fun m => match m with
      | some (.bx _ cs) => if 0 < n ∧ o + n ≤ cs.length then (freezeL false k ((cs.drop o).take n)).bind fun cs' => .pure (.bx true cs') else .fail
      | _ => .fail := rfl
theorem frzl_nil : freezeL z (k + 1) [] = .pure [] := rfl
theorem frzl_cons {x : TV} {xs : List TV} : freezeL z (k + 1) (x :: xs) = (freeze z k 0 x).bind fun y => (freezeL z k xs).bind fun ys => .pure (y :: ys) := rfl
theorem pk_a {v : Value} : pack fz (k + 1) (.a v) = .pure (.a v) := rfl
theorem pk_nl {e : Nat} : pack fz (k + 1) (.nl e) = .pure (.sl false e []) := rfl
theorem pk_sz {e : Nat} {es : List PV} : pack true (k + 1) (.sz e es) = .pure (.sl true e es) := rfl
theorem pk_st {cs : List TV} : pack fz (k + 1) (.st cs) = (packL fz k cs).bind fun cs' => .pure (.st cs') := rfl
theorem pk_fn {f : Nat} {fs cs : List TV} : pack fz (k + 1) (.fn f fs cs) = (packL fz k fs).bind fun fs' => (packL fz k cs).bind fun cs' => .pure (.fn f fs' cs') := rfl
theorem pk_ic {t : Nat} {v : TV} : pack fz (k + 1) (.ic t v) = (pack fz k v).bind fun v' => .pure (.ic t v') := rfl
theorem pk_rf {id : Nat} : pack fz (k + 1) (.rf id) = (getN id).bind fun m => match m with
      | some (.sl q _ e es) => if q && !fz then .fail else (setN id none).bind fun _ => .pure (.sl false e es)
      | some (.bx z cs) => if z then .fail else (setN id none).bind fun _ => (packL fz k cs).bind fun cs' => .pure (.bx false cs')
      | none => .pure .un := rfl
theorem pk_un : pack fz (k + 1) .un = .pure .un := rfl
theorem pkl_nil : packL fz (k + 1) [] = .pure [] := rfl
theorem pkl_cons {x : TV} {xs : List TV} : packL fz (k + 1) (x :: xs) = (pack fz k x).bind fun y => (packL fz k xs).bind fun ys => .pure (y :: ys) := rfl
theorem unp_a {v : Value} : unpack q b (.a v) = .pure (.a v, b) := rfl
theorem unp_t {e : Nat} {es : List PV} : unpack q b (.sl true e es) = .pure (.sz e es, b) := rfl
theorem unp_f {e : Nat} {es : List PV} : unpack q b (.sl false e es) = (setN b (some (.sl q 0 e es))).bind fun _ => .pure (.rf b, b + 1) := rfl
theorem unp_bx {cs : List CV} : unpack q b (.bx z cs) = (unpackL q (b + 1) cs).bind fun r => (setN b (some (.bx z r.1))).bind fun _ => .pure (.rf b, r.2) := rfl
theorem unp_st {cs : List CV} : unpack q b (.st cs) = (unpackL q b cs).bind fun r => .pure (.st r.1, r.2) := rfl
theorem unp_tp {cs : List CV} : unpack q b (.tp cs) = (unpackL q b cs).bind fun r => .pure (.tp r.1, r.2) := rfl
theorem unp_fn {f : Nat} {fs cs : List CV} : unpack q b (.fn f fs cs) = (unpackL q b fs).bind fun p => (unpackL q p.2 cs).bind fun r => .pure (.fn f p.1 r.1, r.2) := rfl
theorem unp_ic {t : Nat} {v : CV} : unpack q b (.ic t v) = (unpack q b v).bind fun r => .pure (.ic t r.1, r.2) := rfl
theorem unp_un : unpack q b .un = .pure (.un, b) := rfl
theorem rst_sl {id e0 e : Nat} {es0 es : List PV} : restore q V b (.rf id) (.sl false e0 es0) (.sl false e es) = (getN id).bind fun m => if m.isNone ∧ e0 = e then (setN id (some (.sl q V e es))).bind fun _ => .pure b else .fail := rfl
theorem rst_bx {id : Nat} {cs0 cs : List CV} : restore q V b (.rf id) (.bx false cs0) (.bx false cs) = (getN id).bind fun m => if m.isNone then (unpackL q b cs).bind fun r => (setN id (some (.bx false r.1))).bind fun _ => .pure r.2 else .fail := rfl
theorem rst_fn {f f0 f1 : Nat} {fs cs : List TV} {fs0 cs0 fs1 cs1 : List CV} : restore q V b (.fn f fs cs) (.fn f0 fs0 cs0) (.fn f1 fs1 cs1) = (restoreL q V b fs fs0 fs1).bind fun b' => restoreL q V b' cs cs0 cs1 := rfl
theorem rst_st {cs : List TV} {cs0 cs1 : List CV} : restore q V b (.st cs) (.st cs0) (.st cs1) = restoreL q V b cs cs0 cs1 := rfl
theorem rst_ic {t t0 t1 : Nat} {x : TV} {x0 x1 : CV} : restore q V b (.ic t x) (.ic t0 x0) (.ic t1 x1) = restore q V b x x0 x1 := rfl
theorem rst_a {v : Value} {c0 c : CV} : restore q V b (.a v) c0 c = .pure b := by simp only [restore]
theorem rst_nl {e : Nat} {c0 c : CV} : restore q V b (.nl e) c0 c = .pure b := by simp only [restore]
theorem rst_sz {e : Nat} {es : List PV} {c0 c : CV} : restore q V b (.sz e es) c0 c = .pure b := by simp only [restore]
theorem rst_un {c0 c : CV} : restore q V b .un c0 c = .pure b := by simp only [restore]
/-! slices in slices -/
theorem ld0_a {v : Value} : lend0 q (.a v) = pack q depth (.a v) := rfl
theorem ld0_nl {e : Nat} : lend0 q (.nl e) = pack q depth (.nl e) := rfl
theorem ld0_rf {id : Nat} : lend0 q (.rf id) = pack q depth (.rf id) := rfl
theorem ld0_ri {id ver : Nat} {p : List (Nat × Nat × Nat)} : lend0 q (.ri id ver p) = .pure .un := rfl
theorem ld0_sz {e : Nat} {es : List PV} : lend0 q (.sz e es) = pack q depth (.sz e es) := rfl
theorem ld0_st {cs : List TV} : lend0 q (.st cs) = pack q depth (.st cs) := rfl
theorem ld0_fn {f : Nat} {fs cs : List TV} : lend0 q (.fn f fs cs) = pack q depth (.fn f fs cs) := rfl
theorem ld0_ic {t : Nat} {v : TV} : lend0 q (.ic t v) = pack q depth (.ic t v) := rfl
theorem ld0_un : lend0 q .un = pack q depth .un := rfl
theorem ld1_a {v : Value} {y : CV} : lend1 q V (.a v) y = .pure y := rfl
theorem ld1_nl {e : Nat} {y : CV} : lend1 q V (.nl e) y = .pure y := rfl
theorem ld1_rf {id : Nat} {y : CV} : lend1 q V (.rf id) y = .pure y := rfl
theorem ld1_sz {e : Nat} {es : List PV} {y : CV} : lend1 q V (.sz e es) y = .pure y := rfl
theorem ld1_st {cs : List TV} {y : CV} : lend1 q V (.st cs) y = .pure y := rfl
theorem ld1_fn {f : Nat} {fs cs : List TV} {y : CV} : lend1 q V (.fn f fs cs) y = .pure y := rfl
theorem ld1_ic {t : Nat} {v : TV} {y : CV} : lend1 q V (.ic t v) y = .pure y := rfl
theorem ld1_un {y : CV} : lend1 q V .un y = .pure y := rfl
def carveK (id V e : Nat) (q : Bool) (r : Option (Nat × List PV)) (es1 : Option (List PV)) : M CV :=
  match r, es1 with
  | some r, some es1 => (setN id (some (.sl q V e es1))).bind fun _ => .pure (.sl false r.1 r.2)
  | _, _ => .fail
theorem carve_in {id e e' : Nat} {es' es1 : List PV} : carveK id V e q (some (e', es')) (some es1) = (setN id (some (.sl q V e es1))).bind fun _ => .pure (.sl false e' es') := rfl
def ld1B (keeps : Bool) (V id ver : Nat) (p : List (Nat × Nat × Nat)) : Option Node → M CV
  | some (.sl q ver' e es) => if (q && !keeps) = true ∨ ver' ≠ ver then .fail else carveK id V e q (dget es p) (dput es p .un)
  | _ => .fail
theorem ld1B_f {keeps : Bool} {id ver e : Nat} {p : List (Nat × Nat × Nat)} {es : List PV} : ld1B keeps V id ver p (some (.sl false ver e es)) = carveK id V e false (dget es p) (dput es p .un) := by simp [ld1B]
theorem ld1B_t {id ver e : Nat} {p : List (Nat × Nat × Nat)} {es : List PV} : ld1B true V id ver p (some (.sl q ver e es)) = carveK id V e q (dget es p) (dput es p .un) := by simp [ld1B]
theorem ld1_ri {id ver : Nat} {p : List (Nat × Nat × Nat)} {y : CV} : lend1 q V (.ri id ver p) y = (getN id).bind (ld1B q V id ver p) := by
  simp only [lend1]
  congr 1
theorem bk_a {v : Value} {c f : CV} : back1 q V b (.a v) c f = restore q V b (.a v) c f := rfl
theorem bk_nl {e : Nat} {c f : CV} : back1 q V b (.nl e) c f = restore q V b (.nl e) c f := rfl
theorem bk_rf {id : Nat} {c f : CV} : back1 q V b (.rf id) c f = restore q V b (.rf id) c f := rfl
theorem bk_sz {e : Nat} {es : List PV} {c f : CV} : back1 q V b (.sz e es) c f = restore q V b (.sz e es) c f := rfl
theorem bk_st {cs : List TV} {c f : CV} : back1 q V b (.st cs) c f = restore q V b (.st cs) c f := rfl
theorem bk_fn {g : Nat} {fs cs : List TV} {c f : CV} : back1 q V b (.fn g fs cs) c f = restore q V b (.fn g fs cs) c f := rfl
theorem bk_ic {t : Nat} {v : TV} {c f : CV} : back1 q V b (.ic t v) c f = restore q V b (.ic t v) c f := rfl
theorem bk_un {c f : CV} : back1 q V b .un c f = restore q V b .un c f := rfl
def fillK (id ver e b : Nat) (q : Bool) (c : Option PV) (es1 : Option (List PV)) : M Nat :=
  match c, es1 with
  | some .un, some es1 => (setN id (some (.sl q ver e es1))).bind fun _ => .pure b
  | _, _ => .fail
theorem fill_in {id ver e : Nat} {es1 : List PV} : fillK id ver e b q (some .un) (some es1) = (setN id (some (.sl q ver e es1))).bind fun _ => .pure b := rfl
def bkB (q : Bool) (b id : Nat) (p : List (Nat × Nat × Nat)) (e' : Nat) (es' : List PV) : Option Node → M Nat
  | some (.sl q0 ver e es) => fillK id ver e b (q0 || q) (dat es p) (dput es p (.sl e' es'))
  | _ => .fail
theorem bkB_sl {q0 : Bool} {id ver e e' : Nat} {p : List (Nat × Nat × Nat)} {es es' : List PV} : bkB q b id p e' es' (some (.sl q0 ver e es)) = fillK id ver e b (q0 || q) (dat es p) (dput es p (.sl e' es')) := rfl
theorem bk_ri {id ver e' : Nat} {p : List (Nat × Nat × Nat)} {es' : List PV} {c : CV} : back1 q V b (.ri id ver p) c (.sl false e' es') = (getN id).bind (bkB q b id p e' es') := by
  simp only [back1]
  congr 1
def dgC : Option PV → Option (Nat × List PV)
  | some (.sl e es) => some (e, es)
  | _ => none
def dgK (m o : Nat) : Option PV → Option (Nat × List PV)
  | some x => if x.cells.length = m then dgC x.cells[o]? else none
  | none => none
def dgN (p : List (Nat × Nat × Nat)) : Option (Nat × List PV) → Option (Nat × List PV)
  | some (_, es) => dget es p
  | none => none
@[go_sem] theorem dgC_sl {e : Nat} {es : List PV} : dgC (some (.sl e es)) = some (e, es) := rfl
@[go_sem] theorem dgK_some {m o : Nat} {x : PV} (h : x.cells.length = m) : dgK m o (some x) = dgC x.cells[o]? := by simp [dgK, h]
@[go_sem] theorem dgN_some {p : List (Nat × Nat × Nat)} {e : Nat} {es : List PV} : dgN p (some (e, es)) = dget es p := rfl
@[go_sem] theorem dget_1 {es : List PV} {i m o : Nat} : dget es [(i, m, o)] = dgK m o es[i]? := by
  simp only [dget]
  cases es[i]? with
  | none => rfl
  | some x =>
    simp only [dgK]
    split
    · cases x.cells[o]? with
      | none => rfl
      | some c => cases c <;> rfl
    · rfl
@[go_sem] theorem dget_2 {es : List PV} {i m o : Nat} {q : Nat × Nat × Nat} {p : List (Nat × Nat × Nat)} : dget es ((i, m, o) :: q :: p) = dgN (q :: p) (dgK m o es[i]?) := by
  rw [dget]
  cases es[i]? with
  | none => rfl
  | some x =>
    simp only [dgK]
    split
    · cases x.cells[o]? with
      | none => rfl
      | some c => cases c <;> rfl
    · rfl
def dpK (es : List PV) (i m o : Nat) (c : PV) : Option PV → Option (List PV)
  | some x => if x.cells.length = m ∧ o < m then some (es.set i (setCells x o [c])) else none
  | none => none
@[go_sem] theorem dpK_some {es : List PV} {i m o : Nat} {c x : PV} (h : x.cells.length = m) (ho : o < m) : dpK es i m o c (some x) = some (es.set i (setCells x o [c])) := by simp [dpK, h, ho]
@[go_sem] theorem dput_1 {es : List PV} {i m o : Nat} {c : PV} : dput es [(i, m, o)] c = dpK es i m o c es[i]? := by
  simp only [dput]
  cases es[i]? with
  | none => rfl
  | some x =>
    simp only [dpK]
    by_cases h : x.cells.length = m
    · rw [if_pos h]
      by_cases ho : o < m
      · rw [List.getElem?_eq_getElem (h ▸ ho), if_pos ⟨h, ho⟩]
      · rw [List.getElem?_eq_none (by omega), if_neg (fun x => ho x.2)]
    · rw [if_neg h, if_neg (fun x => h x.1)]
def daK (m o : Nat) : Option PV → Option PV
  | some x => if x.cells.length = m then x.cells[o]? else none
  | none => none
@[go_sem] theorem daK_some {m o : Nat} {x : PV} (h : x.cells.length = m) : daK m o (some x) = x.cells[o]? := by simp [daK, h]
@[go_sem] theorem dat_1 {es : List PV} {i m o : Nat} : dat es [(i, m, o)] = daK m o es[i]? := by
  simp only [dat]
  cases es[i]? with
  | none => rfl
  | some x =>
    simp only [daK]
    split
    · cases x.cells[o]? <;> rfl
    · rfl
end
end
end Go.Proofs.YtkoljcjliihiiaaDoor.VM.Sy
namespace Go.Proofs.YtkoljcjliihiiaaDoor.VM.Sy
open Go
section
variable {Φ : Nat → Option Callee} {N : Nat} {r : List It} {sl : Slots} {nd : Nodes} {nx : Nat}
variable {z fz q : Bool} {k n b V : Nat}
@[go_sem ↓] theorem mks_in_r {b d e by_ : Nat} {zs : List ZC} {n : Int} (h0 : 0 ≤ n) (h1 : n * by_ ≤ 140737488355328) (h2 : n ≤ 9223372036854775807) {s : St} : M.run (mksM b d e by_ zs (.a (.int .i64 n))) s = M.run ((setN b (some (.sl false 0 e (List.replicate n.toNat (zeroEl zs.length zs))))).bind fun _ => setS d (.rf b)) s := by rw [mks_in h0 h1 h2] <;> rfl
@[go_sem ↓] theorem bsl_nil_r {flat q : Bool} {m : Nat} {es : List PV} {s : St} : M.run (bslM flat m [] q es) s = M.run (.pure (es, q)) s := by rw [bsl_nil] <;> rfl
@[go_sem ↓] theorem bsl_cons_r {flat q : Bool} {m i : Nat} {x : Opd} {ps : List (Nat × Opd)} {es : List PV} {s : St} : M.run (bslM flat m ((i, x) :: ps) q es) s = M.run ((opd x).bind fun v => (toEl flat v).bind fun y => bslK flat q m i y ps es) s := by rw [bsl_cons] <;> rfl
@[go_sem ↓] theorem bsl_in_r {flat q : Bool} {m i : Nat} {y : PV × Bool} {ps : List (Nat × Opd)} {es : List PV} (h1 : y.1.cells.length = m) (h2 : i < es.length) {s : St} : M.run (bslK flat q m i y ps es) s = M.run (bslM flat m ps (q || y.2) (es.set i y.1)) s := by rw [bsl_in h1 h2] <;> rfl
@[go_sem ↓] theorem nilB_bx_r {d : Nat} {v : TV} {z : Bool} {cs : List TV} {s : St} : M.run (nilB d v (some (.bx z cs))) s = M.run (setS d v) s := by rw [nilB_bx] <;> rfl
@[go_sem ↓] theorem nilE_sl_r {d : Nat} {v : TV} {q : Bool} {ver e : Nat} {es : List PV} {s : St} : M.run (nilE d v (some (.sl q ver e es))) s = M.run (setS d v) s := by rw [nilE_sl] <;> rfl
@[go_sem ↓] theorem nil_rf_r {d id : Nat} {s : St} : M.run (nilM d (.rf id)) s = M.run ((getN id).bind (nilB d (.rf id))) s := by rw [nil_rf] <;> rfl
@[go_sem ↓] theorem nil_ad_r {d id o : Nat} {s : St} : M.run (nilM d (.ad id o)) s = M.run (setS d (.ad id o)) s := by rw [nil_ad] <;> rfl
@[go_sem ↓] theorem nil_ea_r {d id i m o : Nat} {s : St} : M.run (nilM d (.ea id i m o)) s = M.run ((getN id).bind (nilE d (.ea id i m o))) s := by rw [nil_ea] <;> rfl
@[go_sem ↓] theorem nil_ez_r {d o : Nat} {cs : List PV} {s : St} : M.run (nilM d (.ez cs o)) s = M.run (setS d (.ez cs o)) s := by rw [nil_ez] <;> rfl
@[go_sem ↓] theorem nil_fn_r {d f : Nat} {fs cs : List TV} {s : St} : M.run (nilM d (.fn f fs cs)) s = M.run (setS d (.fn f fs cs)) s := by rw [nil_fn] <;> rfl
@[go_sem ↓] theorem nil_ic_r {d t : Nat} {v : TV} {s : St} : M.run (nilM d (.ic t v)) s = M.run (setS d (.ic t v)) s := by rw [nil_ic] <;> rfl
@[go_sem ↓] theorem resS_in_r {top b : Nat} {rs : List CV} (h : b ≤ top) {s : St} : M.run (resS top b rs) s = M.run ((liftO (plainL rs)).bind fun ts => M.pure (oneOf ts)) s := by rw [resS_in h] <;> rfl
@[go_sem ↓] theorem resT_in_r {top : Nat} {r : List TV × Nat} (h : r.2 ≤ top) {s : St} : M.run (resT top r) s = M.run (.pure (oneOf r.1)) s := by rw [resT_in h] <;> rfl
@[go_sem ↓] theorem resultTV_eq_r {q : Bool} {top b : Nat} {rs : List CV} {s : St} : M.run (resultTV q top b rs) s = M.run ((unpackL q b rs).bind (resT top)) s := by rw [resultTV_eq] <;> rfl
@[go_sem ↓] theorem putO_some_r {d : Nat} {v : TV} {s : St} : M.run (putO (some d) v) s = M.run (setS d v) s := by rw [putO_some] <;> rfl
@[go_sem ↓] theorem putO_none_r {v : TV} {s : St} : M.run (putO none v) s = M.run (.pure ()) s := by rw [putO_none] <;> rfl
@[go_sem ↓] theorem stoX_some_r {x : PV} {q : Bool} {ver e : Nat} {es : List PV} {ys : List PV × Bool} {b w id i o : Nat} (h1 : ys.1.length = w) (h2 : o + w ≤ x.cells.length) {s : St} : M.run (stoX (some x) q ver e es ys b w id i o) s = M.run (setN id (some (.sl (q || ys.2) (if allAtoms ys.1 x o w then ver else b + 1) e (es.set i (setCells x o ys.1))))) s := by rw [stoX_some h1 h2] <;> rfl
@[go_sem ↓] theorem stoE_sl_r {q : Bool} {ver e : Nat} {es : List PV} {ys : List PV × Bool} {b w id i o : Nat} {s : St} : M.run (stoE (some (.sl q ver e es)) ys b w id i o) s = M.run (stoX es[i]? q ver e es ys b w id i o) s := by rw [stoE_sl] <;> rfl
@[go_sem ↓] theorem sto_ea_r {b w id i m o : Nat} {y : TV} {s : St} : M.run (storeAt b w (.ea id i m o) y) s = M.run ((toPVs y.cells).bind fun ys => (getN id).bind fun n => stoE n ys b w id i o) s := by rw [sto_ea] <;> rfl
@[go_sem ↓] theorem topvs_nil_r {s : St} : M.run (toPVs []) s = M.run (.pure ([], false)) s := by rw [topvs_nil] <;> rfl
@[go_sem ↓] theorem topvs_cons_r {x : TV} {xs : List TV} {s : St} : M.run (toPVs (x :: xs)) s = M.run ((toPV x).bind fun y => (toPVs xs).bind fun ys => .pure (y.1 :: ys.1, y.2 || ys.2)) s := by rw [topvs_cons] <;> rfl
@[go_sem ↓] theorem topv_a_r {v : Value} (h : one1 v = true) {s : St} : M.run (toPV (.a v)) s = M.run (.pure (.a v, false)) s := by rw [topv_a h] <;> rfl
@[go_sem ↓] theorem topv_nl_r {e : Nat} {s : St} : M.run (toPV (.nl e)) s = M.run (.pure (.sl e [], false)) s := by rw [topv_nl] <;> rfl
@[go_sem ↓] theorem topv_sz_r {e : Nat} {es : List PV} {s : St} : M.run (toPV (.sz e es)) s = M.run (.pure (.fz e es, true)) s := by rw [topv_sz] <;> rfl
@[go_sem ↓] theorem toel_f_a_r {v : Value} (h : one1 v = true) {s : St} : M.run (toEl true (.a v)) s = M.run (.pure (.a v, false)) s := by rw [toel_f_a h] <;> rfl
@[go_sem ↓] theorem toel_f_st_r {cs : List TV} {s : St} : M.run (toEl true (.st cs)) s = M.run ((liftO (atomPVs cs)).bind fun ys => .pure (.st ys, false)) s := by rw [toel_f_st] <;> rfl
@[go_sem ↓] theorem toel_s_st_r {cs : List TV} {s : St} : M.run (toEl false (.st cs)) s = M.run ((toPVs cs).bind fun ys => .pure (.st ys.1, ys.2)) s := by rw [toel_s_st] <;> rfl
@[go_sem ↓] theorem toel_s_a_r {v : Value} {s : St} : M.run (toEl false (.a v)) s = M.run (toPV (.a v)) s := by rw [toel_s_a] <;> rfl
@[go_sem ↓] theorem toel_s_nl_r {e : Nat} {s : St} : M.run (toEl false (.nl e)) s = M.run (toPV (.nl e)) s := by rw [toel_s_nl] <;> rfl
@[go_sem ↓] theorem toel_s_rf_r {i : Nat} {s : St} : M.run (toEl false (.rf i)) s = M.run (toPV (.rf i)) s := by rw [toel_s_rf] <;> rfl
@[go_sem ↓] theorem toel_s_sz_r {e : Nat} {es : List PV} {s : St} : M.run (toEl false (.sz e es)) s = M.run (toPV (.sz e es)) s := by rw [toel_s_sz] <;> rfl
@[go_sem ↓] theorem frz_a_r {v : Value} {s : St} : M.run (freeze z (k + 1) n (.a v)) s = M.run (.pure (.a v)) s := by rw [frz_a] <;> rfl
@[go_sem ↓] theorem frz_nl_r {e : Nat} {s : St} : M.run (freeze z (k + 1) n (.nl e)) s = M.run (.pure (.sl true e [])) s := by rw [frz_nl] <;> rfl
@[go_sem ↓] theorem frz_sz_r {e : Nat} {es : List PV} {s : St} : M.run (freeze z (k + 1) n (.sz e es)) s = M.run (.pure (.sl true e es)) s := by rw [frz_sz] <;> rfl
@[go_sem ↓] theorem frz_st_r {cs : List TV} {s : St} : M.run (freeze z (k + 1) n (.st cs)) s = M.run ((freezeL z k cs).bind fun cs' => .pure (.st cs')) s := by rw [frz_st] <;> rfl
@[go_sem ↓] theorem frz_fn_r {f : Nat} {fs cs : List TV} {s : St} : M.run (freeze z (k + 1) n (.fn f fs cs)) s = M.run ((freezeL z k fs).bind fun fs' => (freezeL z k cs).bind fun cs' => .pure (.fn f fs' cs')) s := by rw [frz_fn] <;> rfl
@[go_sem ↓] theorem frz_ic_r {t : Nat} {v : TV} {s : St} : M.run (freeze z (k + 1) n (.ic t v)) s = M.run ((freeze z k n v).bind fun v' => .pure (.ic t v')) s := by rw [frz_ic] <;> rfl
@[go_sem ↓] theorem frz_un_r {s : St} : M.run (freeze z (k + 1) n .un) s = M.run (.pure .un) s := by rw [frz_un] <;> rfl
@[go_sem ↓] theorem frzl_nil_r {s : St} : M.run (freezeL z (k + 1) []) s = M.run (.pure []) s := by rw [frzl_nil] <;> rfl
@[go_sem ↓] theorem frzl_cons_r {x : TV} {xs : List TV} {s : St} : M.run (freezeL z (k + 1) (x :: xs)) s = M.run ((freeze z k 0 x).bind fun y => (freezeL z k xs).bind fun ys => .pure (y :: ys)) s := by rw [frzl_cons] <;> rfl
@[go_sem ↓] theorem pk_a_r {v : Value} {s : St} : M.run (pack fz (k + 1) (.a v)) s = M.run (.pure (.a v)) s := by rw [pk_a] <;> rfl
@[go_sem ↓] theorem pk_nl_r {e : Nat} {s : St} : M.run (pack fz (k + 1) (.nl e)) s = M.run (.pure (.sl false e [])) s := by rw [pk_nl] <;> rfl
@[go_sem ↓] theorem pk_sz_r {e : Nat} {es : List PV} {s : St} : M.run (pack true (k + 1) (.sz e es)) s = M.run (.pure (.sl true e es)) s := by rw [pk_sz] <;> rfl
@[go_sem ↓] theorem pk_st_r {cs : List TV} {s : St} : M.run (pack fz (k + 1) (.st cs)) s = M.run ((packL fz k cs).bind fun cs' => .pure (.st cs')) s := by rw [pk_st] <;> rfl
@[go_sem ↓] theorem pk_fn_r {f : Nat} {fs cs : List TV} {s : St} : M.run (pack fz (k + 1) (.fn f fs cs)) s = M.run ((packL fz k fs).bind fun fs' => (packL fz k cs).bind fun cs' => .pure (.fn f fs' cs')) s := by rw [pk_fn] <;> rfl
@[go_sem ↓] theorem pk_ic_r {t : Nat} {v : TV} {s : St} : M.run (pack fz (k + 1) (.ic t v)) s = M.run ((pack fz k v).bind fun v' => .pure (.ic t v')) s := by rw [pk_ic] <;> rfl
@[go_sem ↓] theorem pk_un_r {s : St} : M.run (pack fz (k + 1) .un) s = M.run (.pure .un) s := by rw [pk_un] <;> rfl
@[go_sem ↓] theorem pkl_nil_r {s : St} : M.run (packL fz (k + 1) []) s = M.run (.pure []) s := by rw [pkl_nil] <;> rfl
@[go_sem ↓] theorem pkl_cons_r {x : TV} {xs : List TV} {s : St} : M.run (packL fz (k + 1) (x :: xs)) s = M.run ((pack fz k x).bind fun y => (packL fz k xs).bind fun ys => .pure (y :: ys)) s := by rw [pkl_cons] <;> rfl
@[go_sem ↓] theorem unp_a_r {v : Value} {s : St} : M.run (unpack q b (.a v)) s = M.run (.pure (.a v, b)) s := by rw [unp_a] <;> rfl
@[go_sem ↓] theorem unp_t_r {e : Nat} {es : List PV} {s : St} : M.run (unpack q b (.sl true e es)) s = M.run (.pure (.sz e es, b)) s := by rw [unp_t] <;> rfl
@[go_sem ↓] theorem unp_f_r {e : Nat} {es : List PV} {s : St} : M.run (unpack q b (.sl false e es)) s = M.run ((setN b (some (.sl q 0 e es))).bind fun _ => .pure (.rf b, b + 1)) s := by rw [unp_f] <;> rfl
@[go_sem ↓] theorem unp_bx_r {cs : List CV} {s : St} : M.run (unpack q b (.bx z cs)) s = M.run ((unpackL q (b + 1) cs).bind fun r => (setN b (some (.bx z r.1))).bind fun _ => .pure (.rf b, r.2)) s := by rw [unp_bx] <;> rfl
@[go_sem ↓] theorem unp_st_r {cs : List CV} {s : St} : M.run (unpack q b (.st cs)) s = M.run ((unpackL q b cs).bind fun r => .pure (.st r.1, r.2)) s := by rw [unp_st] <;> rfl
@[go_sem ↓] theorem unp_tp_r {cs : List CV} {s : St} : M.run (unpack q b (.tp cs)) s = M.run ((unpackL q b cs).bind fun r => .pure (.tp r.1, r.2)) s := by rw [unp_tp] <;> rfl
@[go_sem ↓] theorem unp_fn_r {f : Nat} {fs cs : List CV} {s : St} : M.run (unpack q b (.fn f fs cs)) s = M.run ((unpackL q b fs).bind fun p => (unpackL q p.2 cs).bind fun r => .pure (.fn f p.1 r.1, r.2)) s := by rw [unp_fn] <;> rfl
@[go_sem ↓] theorem unp_ic_r {t : Nat} {v : CV} {s : St} : M.run (unpack q b (.ic t v)) s = M.run ((unpack q b v).bind fun r => .pure (.ic t r.1, r.2)) s := by rw [unp_ic] <;> rfl
@[go_sem ↓] theorem unp_un_r {s : St} : M.run (unpack q b .un) s = M.run (.pure (.un, b)) s := by rw [unp_un] <;> rfl
@[go_sem ↓] theorem rst_sl_r {id e0 e : Nat} {es0 es : List PV} {s : St} : M.run (restore q V b (.rf id) (.sl false e0 es0) (.sl false e es)) s = M.run ((getN id).bind fun m => if m.isNone ∧ e0 = e then (setN id (some (.sl q V e es))).bind fun _ => .pure b else .fail) s := by rw [rst_sl] <;> rfl
@[go_sem ↓] theorem rst_bx_r {id : Nat} {cs0 cs : List CV} {s : St} : M.run (restore q V b (.rf id) (.bx false cs0) (.bx false cs)) s = M.run ((getN id).bind fun m => if m.isNone then (unpackL q b cs).bind fun r => (setN id (some (.bx false r.1))).bind fun _ => .pure r.2 else .fail) s := by rw [rst_bx] <;> rfl
@[go_sem ↓] theorem rst_fn_r {f f0 f1 : Nat} {fs cs : List TV} {fs0 cs0 fs1 cs1 : List CV} {s : St} : M.run (restore q V b (.fn f fs cs) (.fn f0 fs0 cs0) (.fn f1 fs1 cs1)) s = M.run ((restoreL q V b fs fs0 fs1).bind fun b' => restoreL q V b' cs cs0 cs1) s := by rw [rst_fn] <;> rfl
@[go_sem ↓] theorem rst_st_r {cs : List TV} {cs0 cs1 : List CV} {s : St} : M.run (restore q V b (.st cs) (.st cs0) (.st cs1)) s = M.run (restoreL q V b cs cs0 cs1) s := by rw [rst_st] <;> rfl
@[go_sem ↓] theorem rst_ic_r {t t0 t1 : Nat} {x : TV} {x0 x1 : CV} {s : St} : M.run (restore q V b (.ic t x) (.ic t0 x0) (.ic t1 x1)) s = M.run (restore q V b x x0 x1) s := by rw [rst_ic] <;> rfl
@[go_sem ↓] theorem rst_a_r {v : Value} {c0 c : CV} {s : St} : M.run (restore q V b (.a v) c0 c) s = M.run (.pure b) s := by rw [rst_a] <;> rfl
@[go_sem ↓] theorem rst_nl_r {e : Nat} {c0 c : CV} {s : St} : M.run (restore q V b (.nl e) c0 c) s = M.run (.pure b) s := by rw [rst_nl] <;> rfl
@[go_sem ↓] theorem rst_sz_r {e : Nat} {es : List PV} {c0 c : CV} {s : St} : M.run (restore q V b (.sz e es) c0 c) s = M.run (.pure b) s := by rw [rst_sz] <;> rfl
@[go_sem ↓] theorem rst_un_r {c0 c : CV} {s : St} : M.run (restore q V b .un c0 c) s = M.run (.pure b) s := by rw [rst_un] <;> rfl
@[go_sem ↓] theorem ld0_a_r {v : Value} {s : St} : M.run (lend0 q (.a v)) s = M.run (pack q 40 (.a v)) s := by rw [ld0_a] <;> rfl
@[go_sem ↓] theorem ld0_nl_r {e : Nat} {s : St} : M.run (lend0 q (.nl e)) s = M.run (pack q 40 (.nl e)) s := by rw [ld0_nl] <;> rfl
@[go_sem ↓] theorem ld0_rf_r {id : Nat} {s : St} : M.run (lend0 q (.rf id)) s = M.run (pack q 40 (.rf id)) s := by rw [ld0_rf] <;> rfl
@[go_sem ↓] theorem ld0_ri_r {id ver : Nat} {p : List (Nat × Nat × Nat)} {s : St} : M.run (lend0 q (.ri id ver p)) s = M.run (.pure .un) s := by rw [ld0_ri] <;> rfl
@[go_sem ↓] theorem ld0_sz_r {e : Nat} {es : List PV} {s : St} : M.run (lend0 q (.sz e es)) s = M.run (pack q 40 (.sz e es)) s := by rw [ld0_sz] <;> rfl
@[go_sem ↓] theorem ld0_st_r {cs : List TV} {s : St} : M.run (lend0 q (.st cs)) s = M.run (pack q 40 (.st cs)) s := by rw [ld0_st] <;> rfl
@[go_sem ↓] theorem ld0_fn_r {f : Nat} {fs cs : List TV} {s : St} : M.run (lend0 q (.fn f fs cs)) s = M.run (pack q 40 (.fn f fs cs)) s := by rw [ld0_fn] <;> rfl
@[go_sem ↓] theorem ld0_ic_r {t : Nat} {v : TV} {s : St} : M.run (lend0 q (.ic t v)) s = M.run (pack q 40 (.ic t v)) s := by rw [ld0_ic] <;> rfl
@[go_sem ↓] theorem ld0_un_r {s : St} : M.run (lend0 q .un) s = M.run (pack q 40 .un) s := by rw [ld0_un] <;> rfl
@[go_sem ↓] theorem ld1_a_r {v : Value} {y : CV} {s : St} : M.run (lend1 q V (.a v) y) s = M.run (.pure y) s := by rw [ld1_a] <;> rfl
@[go_sem ↓] theorem ld1_nl_r {e : Nat} {y : CV} {s : St} : M.run (lend1 q V (.nl e) y) s = M.run (.pure y) s := by rw [ld1_nl] <;> rfl
@[go_sem ↓] theorem ld1_rf_r {id : Nat} {y : CV} {s : St} : M.run (lend1 q V (.rf id) y) s = M.run (.pure y) s := by rw [ld1_rf] <;> rfl
@[go_sem ↓] theorem ld1_sz_r {e : Nat} {es : List PV} {y : CV} {s : St} : M.run (lend1 q V (.sz e es) y) s = M.run (.pure y) s := by rw [ld1_sz] <;> rfl
@[go_sem ↓] theorem ld1_st_r {cs : List TV} {y : CV} {s : St} : M.run (lend1 q V (.st cs) y) s = M.run (.pure y) s := by rw [ld1_st] <;> rfl
@[go_sem ↓] theorem ld1_fn_r {f : Nat} {fs cs : List TV} {y : CV} {s : St} : M.run (lend1 q V (.fn f fs cs) y) s = M.run (.pure y) s := by rw [ld1_fn] <;> rfl
@[go_sem ↓] theorem ld1_ic_r {t : Nat} {v : TV} {y : CV} {s : St} : M.run (lend1 q V (.ic t v) y) s = M.run (.pure y) s := by rw [ld1_ic] <;> rfl
@[go_sem ↓] theorem ld1_un_r {y : CV} {s : St} : M.run (lend1 q V .un y) s = M.run (.pure y) s := by rw [ld1_un] <;> rfl
@[go_sem ↓] theorem carve_in_r {id e e' : Nat} {es' es1 : List PV} {s : St} : M.run (carveK id V e q (some (e', es')) (some es1)) s = M.run ((setN id (some (.sl q V e es1))).bind fun _ => .pure (.sl false e' es')) s := by rw [carve_in] <;> rfl
@[go_sem ↓] theorem ld1B_f_r {keeps : Bool} {id ver e : Nat} {p : List (Nat × Nat × Nat)} {es : List PV} {s : St} : M.run (ld1B keeps V id ver p (some (.sl false ver e es))) s = M.run (carveK id V e false (dget es p) (dput es p .un)) s := by rw [ld1B_f] <;> rfl
@[go_sem ↓] theorem ld1B_t_r {id ver e : Nat} {p : List (Nat × Nat × Nat)} {es : List PV} {s : St} : M.run (ld1B true V id ver p (some (.sl q ver e es))) s = M.run (carveK id V e q (dget es p) (dput es p .un)) s := by rw [ld1B_t] <;> rfl
@[go_sem ↓] theorem ld1_ri_r {id ver : Nat} {p : List (Nat × Nat × Nat)} {y : CV} {s : St} : M.run (lend1 q V (.ri id ver p) y) s = M.run ((getN id).bind (ld1B q V id ver p)) s := by rw [ld1_ri] <;> rfl
@[go_sem ↓] theorem bk_a_r {v : Value} {c f : CV} {s : St} : M.run (back1 q V b (.a v) c f) s = M.run (restore q V b (.a v) c f) s := by rw [bk_a] <;> rfl
@[go_sem ↓] theorem bk_nl_r {e : Nat} {c f : CV} {s : St} : M.run (back1 q V b (.nl e) c f) s = M.run (restore q V b (.nl e) c f) s := by rw [bk_nl] <;> rfl
@[go_sem ↓] theorem bk_rf_r {id : Nat} {c f : CV} {s : St} : M.run (back1 q V b (.rf id) c f) s = M.run (restore q V b (.rf id) c f) s := by rw [bk_rf] <;> rfl
@[go_sem ↓] theorem bk_sz_r {e : Nat} {es : List PV} {c f : CV} {s : St} : M.run (back1 q V b (.sz e es) c f) s = M.run (restore q V b (.sz e es) c f) s := by rw [bk_sz] <;> rfl
@[go_sem ↓] theorem bk_st_r {cs : List TV} {c f : CV} {s : St} : M.run (back1 q V b (.st cs) c f) s = M.run (restore q V b (.st cs) c f) s := by rw [bk_st] <;> rfl
@[go_sem ↓] theorem bk_fn_r {g : Nat} {fs cs : List TV} {c f : CV} {s : St} : M.run (back1 q V b (.fn g fs cs) c f) s = M.run (restore q V b (.fn g fs cs) c f) s := by rw [bk_fn] <;> rfl
@[go_sem ↓] theorem bk_ic_r {t : Nat} {v : TV} {c f : CV} {s : St} : M.run (back1 q V b (.ic t v) c f) s = M.run (restore q V b (.ic t v) c f) s := by rw [bk_ic] <;> rfl
@[go_sem ↓] theorem bk_un_r {c f : CV} {s : St} : M.run (back1 q V b .un c f) s = M.run (restore q V b .un c f) s := by rw [bk_un] <;> rfl
@[go_sem ↓] theorem fill_in_r {id ver e : Nat} {es1 : List PV} {s : St} : M.run (fillK id ver e b q (some .un) (some es1)) s = M.run ((setN id (some (.sl q ver e es1))).bind fun _ => .pure b) s := by rw [fill_in] <;> rfl
@[go_sem ↓] theorem bkB_sl_r {q0 : Bool} {id ver e e' : Nat} {p : List (Nat × Nat × Nat)} {es es' : List PV} {s : St} : M.run (bkB q b id p e' es' (some (.sl q0 ver e es))) s = M.run (fillK id ver e b (q0 || q) (dat es p) (dput es p (.sl e' es'))) s := by rw [bkB_sl] <;> rfl
@[go_sem ↓] theorem bk_ri_r {id ver e' : Nat} {p : List (Nat × Nat × Nat)} {es' : List PV} {c : CV} {s : St} : M.run (back1 q V b (.ri id ver p) c (.sl false e' es')) s = M.run ((getN id).bind (bkB q b id p e' es')) s := by rw [bk_ri] <;> rfl
end

/-! by hand -/
section
variable {keeps z fz q : Bool} {k n b V j : Nat} {s : St} {ms : List Md} {xs : List TV} {x : TV} {cs fs : List CV} {c f : CV} {y : CV} {ys : List CV}
@[go_sem ↓] theorem upl_nil_r : M.run (unpackL q b []) s = M.run (.pure ([], b)) s := rfl
@[go_sem ↓] theorem upl_cons_r {xs : List CV} {x : CV} : M.run (unpackL q b (x :: xs)) s = M.run ((unpack q b x).bind fun r => (unpackL q r.2 xs).bind fun p => .pure (r.1 :: p.1, p.2)) s := rfl
@[go_sem ↓] theorem lnd_nil_r : M.run (lend keeps [] []) s = M.run (.pure []) s := rfl
@[go_sem ↓] theorem lnd_ro_r : M.run (lend keeps (.ro n :: ms) (x :: xs)) s = M.run ((lend keeps ms xs).bind fun ys => .pure (.un :: ys)) s := rfl
@[go_sem ↓] theorem lnd_mut_r : M.run (lend keeps (.mut n :: ms) (x :: xs)) s = M.run ((lend0 keeps x).bind fun y => (lend keeps ms xs).bind fun ys => .pure (y :: ys)) s := rfl
@[go_sem ↓] theorem lndA_r : M.run (lendA keeps V ms xs) s = M.run ((lend keeps ms xs).bind fun ps => lendI keeps V ms xs ps) s := rfl
@[go_sem ↓] theorem lndI_nil_r : M.run (lendI keeps V [] [] []) s = M.run (.pure []) s := rfl
@[go_sem ↓] theorem lndI_ro_r : M.run (lendI keeps V (.ro n :: ms) (x :: xs) (y :: ys)) s = M.run ((lendI keeps V ms xs ys).bind fun ys => .pure (y :: ys)) s := rfl
@[go_sem ↓] theorem lndI_mut_r : M.run (lendI keeps V (.mut n :: ms) (x :: xs) (y :: ys)) s = M.run ((lend1 keeps V x y).bind fun y => (lendI keeps V ms xs ys).bind fun ys => .pure (y :: ys)) s := rfl
@[go_sem ↓] theorem shw_nil_r : M.run (show_ keeps [] [] []) s = M.run (.pure []) s := rfl
@[go_sem ↓] theorem shw_ro_r : M.run (show_ keeps (.ro n :: ms) (x :: xs) (y :: ys)) s = M.run ((freeze keeps 40 n x).bind fun y => (show_ keeps ms xs ys).bind fun ys => .pure (y :: ys)) s := rfl
@[go_sem ↓] theorem shw_mut_r : M.run (show_ keeps (.mut n :: ms) (x :: xs) (y :: ys)) s = M.run ((show_ keeps ms xs ys).bind fun ys => .pure (y :: ys)) s := rfl
@[go_sem ↓] theorem tkb_nil_r : M.run (takeBack q V b [] [] [] []) s = M.run (.pure b) s := rfl
@[go_sem ↓] theorem tkb_ro_r : M.run (takeBack q V b (.ro n :: ms) (x :: xs) (c :: cs) fs) s = M.run (takeBack q V b ms xs cs fs) s := rfl
@[go_sem ↓] theorem tkb_mut_r : M.run (takeBack q V b (.mut n :: ms) (x :: xs) (c :: cs) (f :: fs)) s = M.run ((back1 q V b x c f).bind fun b' => takeBack q V b' ms xs cs fs) s := rfl
@[go_sem ↓] theorem rtv_nil_r : M.run (resTVs []) s = M.run (.pure []) s := rfl
@[go_sem ↓] theorem rtv_t_r {rs : List RV} : M.run (resTVs (.t n :: rs)) s = M.run ((getS n).bind fun v => (resTVs rs).bind fun vs => .pure (v :: vs)) s := rfl
@[go_sem ↓] theorem rtv_c_r {rs : List RV} {w : Option Nat} : M.run (resTVs (.cell n w :: rs)) s = M.run ((getS n).bind fun u => (loadAt w u).bind fun v => (resTVs rs).bind fun vs => .pure (v :: vs)) s := rfl
@[go_sem ↓] theorem pka_nil_r : M.run (packAll fz []) s = M.run (.pure []) s := rfl
@[go_sem ↓] theorem pka_cons_r : M.run (packAll fz (x :: xs)) s = M.run ((pack fz 40 x).bind fun y => (packAll fz xs).bind fun ys => .pure (y :: ys)) s := rfl
@[go_sem ↓] theorem lnt_nil_r : M.run (lent j []) s = M.run (.pure []) s := rfl
@[go_sem ↓] theorem lnt_ro_r : M.run (lent j (.ro n :: ms)) s = M.run (lent (j + 1) ms) s := rfl
@[go_sem ↓] theorem lnt_mut_r : M.run (lent j (.mut n :: ms)) s = M.run ((getS (10000 + j)).bind fun v => (lent (j + 1) ms).bind fun vs => .pure (v :: vs)) s := rfl
@[go_sem ↓] theorem rsl_cons_r {ys0 : List CV} {y0 : CV} : M.run (restoreL q V b (x :: xs) (y0 :: ys0) (y :: ys)) s = M.run ((restore q V b x y0 y).bind fun b' => restoreL q V b' xs ys0 ys) s := rfl
@[go_sem ↓] theorem rsl_nil_r {ys0 : List CV} : M.run (restoreL q V b [] ys0 ys) s = M.run (.pure b) s := by cases ys0 <;> cases ys <;> rfl
@[go_sem ↓] theorem tko_r {f : Fn} : M.run (takeOut f) s = M.run ((resTVs f.results).bind fun ts => (packAll f.keeps ts).bind fun rs => (lent 0 f.modes).bind fun us => (packAll f.keeps us).bind fun fs => .pure (rs, fs)) s := rfl

def frzB (k : Nat) : Option Node → M CV
  | some (.sl q _ e es) => .pure (.sl true e (if q then es.map PV.thaw else es))
  | some (.bx _ cs) => (freezeL false k cs).bind fun cs' => .pure (.bx true cs')
  | none => .fail
theorem frz_rf' {id : Nat} : freeze false (k + 1) n (.rf id) = (getN id).bind (frzB k) := by
  rw [frz_rf]; congr 1
@[go_sem ↓] theorem frz_rf_r {id : Nat} : M.run (freeze false (k + 1) n (.rf id)) s = M.run ((getN id).bind (frzB k)) s := by rw [frz_rf']
@[go_sem ↓] theorem frzB_sl_r {ver e : Nat} {es : List PV} : M.run (frzB k (some (.sl q ver e es))) s = M.run (.pure (.sl true e (if q then es.map PV.thaw else es))) s := rfl
@[go_sem ↓] theorem frzB_bx_r {cs : List TV} : M.run (frzB k (some (.bx z cs))) s = M.run ((freezeL false k cs).bind fun cs' => .pure (.bx true cs')) s := rfl
def frzS (lo j : Nat) : Option Node → M CV
  | some (.sl q _ e es) => .pure (.sl true e (if q then ((es.drop lo).take j).map PV.thaw else (es.drop lo).take j))
  | _ => .fail
@[go_sem ↓] theorem frz_sb_r {id lo : Nat} : M.run (freeze false (k + 1) n (.sb id lo j)) s = M.run ((getN id).bind (frzS lo j)) s := by
  rw [frz_sb]; congr 1
@[go_sem ↓] theorem frzS_sl_r {lo ver e : Nat} {es : List PV} : M.run (frzS lo j (some (.sl q ver e es))) s = M.run (.pure (.sl true e (if q then ((es.drop lo).take j).map PV.thaw else (es.drop lo).take j))) s := rfl
def frzD (q : Bool) : Option (Nat × List PV) → M CV
  | some (e, es) => .pure (.sl true e (if q then es.map PV.thaw else es))
  | none => .fail
def frzI (ver : Nat) (p : List (Nat × Nat × Nat)) : Option Node → M CV
  | some (.sl q ver' _ es) => if ver' = ver then frzD q (dget es p) else .fail
  | _ => .fail
@[go_sem ↓] theorem frz_ri_r {id ver : Nat} {p : List (Nat × Nat × Nat)} : M.run (freeze false (k + 1) n (.ri id ver p)) s = M.run ((getN id).bind (frzI ver p)) s := by
  rw [frz_ri]; congr 1
@[go_sem ↓] theorem frzI_sl_r {ver ver' e : Nat} {es : List PV} {p : List (Nat × Nat × Nat)} : M.run (frzI ver p (some (.sl q ver' e es))) s = M.run (if ver' = ver then frzD q (dget es p) else .fail) s := rfl
@[go_sem] theorem frzD_some_r {e : Nat} {es : List PV} : M.run (frzD q (some (e, es))) s = M.run (.pure (.sl true e (if q then es.map PV.thaw else es))) s := rfl
def frzA (k n o : Nat) : Option Node → M CV
  | some (.bx _ cs) => if 0 < n ∧ o + n ≤ cs.length then (freezeL false k ((cs.drop o).take n)).bind fun cs' => .pure (.bx true cs') else .fail
  | _ => .fail
@[go_sem ↓] theorem frz_ad_r {id o : Nat} : M.run (freeze false (k + 1) n (.ad id o)) s = M.run ((getN id).bind (frzA k n o)) s := by
  rw [frz_ad]; congr 1
@[go_sem ↓] theorem frzA_bx_r {o : Nat} {cs : List TV} : M.run (frzA k n o (some (.bx z cs))) s = M.run (if 0 < n ∧ o + n ≤ cs.length then (freezeL false k ((cs.drop o).take n)).bind fun cs' => .pure (.bx true cs') else .fail) s := rfl
def pkB (fz : Bool) (k id : Nat) : Option Node → M CV
  | some (.sl q _ e es) => if q && !fz then .fail else (setN id none).bind fun _ => .pure (.sl false e es)
  | some (.bx z cs) => if z then .fail else (setN id none).bind fun _ => (packL fz k cs).bind fun cs' => .pure (.bx false cs')
  | none => .pure .un
@[go_sem ↓] theorem pk_rf_r {id : Nat} : M.run (pack fz (k + 1) (.rf id)) s = M.run ((getN id).bind (pkB fz k id)) s := by
  rw [pk_rf]; congr 1
@[go_sem ↓] theorem pkB_sl_r {id ver e : Nat} {es : List PV} : M.run (pkB fz k id (some (.sl q ver e es))) s = M.run (if q && !fz then .fail else (setN id none).bind fun _ => .pure (.sl false e es)) s := rfl
@[go_sem ↓] theorem pkB_bx_r {id : Nat} {cs : List TV} : M.run (pkB fz k id (some (.bx z cs))) s = M.run (if z then .fail else (setN id none).bind fun _ => (packL fz k cs).bind fun cs' => .pure (.bx false cs')) s := rfl
@[go_sem ↓] theorem pkB_none_r {id : Nat} : M.run (pkB fz k id none) s = M.run (.pure .un) s := rfl
def topvB (id : Nat) : Option Node → M (PV × Bool)
  | some (.sl q _ e es) => (setN id none).bind fun _ => .pure (.sl e es, q)
  | _ => .fail
@[go_sem ↓] theorem topv_rf_r {id : Nat} : M.run (toPV (.rf id)) s = M.run ((getN id).bind (topvB id)) s := by
  rw [topv_rf]; congr 1
@[go_sem ↓] theorem topvB_sl_r {id ver e : Nat} {es : List PV} : M.run (topvB id (some (.sl q ver e es))) s = M.run ((setN id none).bind fun _ => .pure (.sl e es, q)) s := rfl
end
end Go.Proofs.YtkoljcjliihiiaaDoor.VM.Sy
namespace Go.Proofs.YtkoljcjliihiiaaDoor.VM
open Go

/-- How many rounds a loop may take. -/
def fuel : Nat := 2 ^ 62
theorem fuel_eq : fuel = 4611686018427387904 := rfl
theorem lt_fuel {n : Nat} (h : n < 4611686018427387904) : n < fuel := h

def calF (Φ : Nat → Option Callee) (N : Nat) (v : Fn) : Callee := { modes := v.modes, keeps := v.keeps, scalar := v.scalar, go := runFn Φ N v }

/-- The functions of the program (tab) and those of a library whose contract is given (ext), calls to depth d. -/
def tower (tab : List (Nat × Fn)) (ext : Nat → Option Callee) (N : Nat) : Nat → Nat → Option Callee
  | 0, _ => none
  | d + 1, f => match ext f with
    | some c => some c
    | none => match look tab f with
      | some v => some (calF (tower tab ext N d) N v)
      | none => none

theorem tower_tab {tab : List (Nat × Fn)} {ext : Nat → Option Callee} {N d f : Nat} {v : Fn} (h : ext f = none) (ht : look tab f = some v) : tower tab ext N (d + 1) f = some (calF (tower tab ext N d) N v) := by
  simp only [tower, h, ht]
theorem tower_ext {tab : List (Nat × Fn)} {ext : Nat → Option Callee} {N d f : Nat} {c : Callee} (h : ext f = some c) : tower tab ext N (d + 1) f = some c := by
  simp only [tower, h]

/-- Side conditions, as they are asked. -/
theorem ofR {p : Prop} (h : p) : p := h
theorem ofB {m n : Nat} (h : Nat.ble m n = true) : m ≤ n := Nat.le_of_ble_eq_true h

/-! ### loops -/
namespace Sy
def after (live : List Nat) : Option (Out × St) → Option (Out × St)
  | some (.nrm, s) => some (.nrm, norm live s)
  | r => r
@[go_sem] theorem after_nrm {live : List Nat} {s : St} : after live (some (.nrm, s)) = some (.nrm, norm live s) := rfl
@[go_sem] theorem after_ext {live : List Nat} {s : St} {id : Nat} : after live (some (.ext id, s)) = some (.ext id, s) := rfl
@[go_sem] theorem after_ret {live : List Nat} {s : St} : after live (some (.ret, s)) = some (.ret, s) := rfl

/-- One round of a loop: the frame behind it is brought into its form. -/
def round (Φ : Nat → Option Callee) (N : Nat) (live : List Nat) (b : VC) (s : St) : Option (Out × St) := after live (goN Φ N [.c b] s.slots s.nodes s.next)

section
variable {Φ : Nat → Option Callee} {N : Nat} {live : List Nat} {b : VC} {r : List It}

theorem round_run (s : St) : round Φ N live b s = after live (run Φ N b s) := rfl

theorem after_nn {live : List Nat} {x : Option (Out × St)} {o : Out} {s : St} (h : after live x = some (o, s)) (ho : o ≠ .nrm) : x = some (o, s) := by
  cases x with
  | none => cases h
  | some p =>
    obtain ⟨o', s'⟩ := p
    cases o' <;> simp only [after, Option.some.injEq, Prod.mk.injEq] at h
    · exact absurd h.1.symm ho
    · obtain ⟨rfl, rfl⟩ := h; rfl
    · obtain ⟨rfl, rfl⟩ := h; rfl

/-- A loop whose frames S i are known, and what comes out from the i-th on. -/
theorem loop_gen (S : Nat → St) (R : Nat → Out × St) {m : Nat} (hN : m < N) (hr : ∀ i, i ≤ m → (R i).1 ≠ .nrm)
    (step : ∀ i, i ≤ m → (i < m ∧ round Φ N live b (S i) = some (.nrm, S (i + 1)) ∧ R i = R (i + 1)) ∨ round Φ N live b (S i) = some (R i)) :
    goP Φ N live b r (S 0) = goL Φ N r (some (R 0)) := by
  have key : ∀ (k i n : Nat), i + k = m → k < n → roundsN (run Φ N b) live n (S i) = some (R i) := by
    intro k
    induction k with
    | zero =>
      intro i n hi hn
      obtain ⟨n, rfl⟩ : ∃ n', n = n' + 1 := ⟨n - 1, by omega⟩
      rcases step i (by omega) with ⟨h1, _⟩ | h
      · omega
      · have := after_nn (x := run Φ N b (S i)) (live := live) (o := (R i).1) (s := (R i).2) h (hr i (by omega))
        simp only [roundsN, this]
        have hne := hr i (by omega)
        generalize hR : R i = p at hne ⊢
        obtain ⟨o, s⟩ := p
        cases o <;> first | rfl | exact absurd rfl hne
    | succ k ih =>
      intro i n hi hn
      obtain ⟨n, rfl⟩ : ∃ n', n = n' + 1 := ⟨n - 1, by omega⟩
      rcases step i (by omega) with ⟨h1, h2, h3⟩ | h
      · rw [round_run] at h2
        simp only [roundsN]
        cases hx : run Φ N b (S i) with
        | none => rw [hx] at h2; cases h2
        | some p =>
          obtain ⟨o, s⟩ := p
          rw [hx] at h2
          cases o with
          | nrm =>
            simp only [after, Option.some.injEq, Prod.mk.injEq, true_and] at h2
            simp only [h2, h3]
            exact ih (i + 1) n (by omega) (by omega)
          | ext id => simp [after] at h2
          | ret => simp [after] at h2
      · have := after_nn (x := run Φ N b (S i)) (live := live) (o := (R i).1) (s := (R i).2) h (hr i (by omega))
        simp only [roundsN, this]
        have hne := hr i (by omega)
        generalize hR : R i = p at hne ⊢
        obtain ⟨o, s⟩ := p
        cases o <;> first | rfl | exact absurd rfl hne
  unfold goP
  rw [key m 0 N (by omega) hN]

/-- A loop whose frames are known by a property alone; k: a bound of the rounds that are still to come. -/
theorem loop_inv (I : Nat → St → Prop) (E : Out → St → Prop) {m : Nat} (hN : m < N) {s : St} (h0 : I m s)
    (step : ∀ k s, k ≤ m → I k s → (∃ k' s', k = k' + 1 ∧ round Φ N live b s = some (.nrm, s') ∧ I k' s') ∨ ∃ o s', o ≠ .nrm ∧ round Φ N live b s = some (o, s') ∧ E o s') :
    ∃ o e, E o e ∧ o ≠ .nrm ∧ goP Φ N live b r s = goL Φ N r (some (o, e)) := by
  have key : ∀ (k n : Nat) (s : St), k ≤ m → k < n → I k s → ∃ o e, E o e ∧ o ≠ .nrm ∧ roundsN (run Φ N b) live n s = some (o, e) := by
    intro k
    induction k with
    | zero =>
      intro n s hk hn hs
      obtain ⟨n, rfl⟩ : ∃ n', n = n' + 1 := ⟨n - 1, by omega⟩
      rcases step 0 s hk hs with ⟨k', _, h, _⟩ | ⟨o, s', ho, h, he⟩
      · omega
      · have := after_nn (x := run Φ N b s) (live := live) h ho
        refine ⟨o, s', he, ho, ?_⟩
        simp only [roundsN, this]
        cases o <;> first | rfl | exact absurd rfl ho
    | succ k ih =>
      intro n s hk hn hs
      obtain ⟨n, rfl⟩ : ∃ n', n = n' + 1 := ⟨n - 1, by omega⟩
      rcases step (k + 1) s hk hs with ⟨k', s', h1, h2, h3⟩ | ⟨o, s', ho, h, he⟩
      · obtain rfl : k = k' := by omega
        rw [round_run] at h2
        cases hx : run Φ N b s with
        | none => rw [hx] at h2; cases h2
        | some p =>
          obtain ⟨o, s1⟩ := p
          rw [hx] at h2
          cases o with
          | nrm =>
            simp only [after, Option.some.injEq, Prod.mk.injEq, true_and] at h2
            obtain ⟨o, e, he, ho, hr⟩ := ih n s' (by omega) (by omega) h3
            refine ⟨o, e, he, ho, ?_⟩
            simp only [roundsN, hx, h2]
            exact hr
          | ext id => simp [after] at h2
          | ret => simp [after] at h2
      · have := after_nn (x := run Φ N b s) (live := live) h ho
        refine ⟨o, s', he, ho, ?_⟩
        simp only [roundsN, this]
        cases o <;> first | rfl | exact absurd rfl ho
  obtain ⟨o, e, he, ho, hr⟩ := key m N s (Nat.le_refl _) hN h0
  refine ⟨o, e, he, ho, ?_⟩
  unfold goP
  rw [hr]

/-- A loop that always comes to its end. -/
theorem loop_all (S : Nat → St) (e : St) {m id : Nat} (hN : m < N) (step : ∀ i, i < m → round Φ N live b (S i) = some (.nrm, S (i + 1))) (last : round Φ N live b (S m) = some (.ext id, e)) :
    goP Φ N live b r (S 0) = goE Φ N r id e.slots e.nodes e.next := by
  rw [loop_gen S (fun _ => (.ext id, e)) hN (fun _ _ => by simp) fun i hi => ?_]
  · rfl
  · by_cases h : i < m
    · exact .inl ⟨h, step i h, rfl⟩
    · have : i = m := by omega
      subst this
      exact .inr last
end
/-- A loop from its head on; its frame is in its form. -/
def loopE (Φ : Nat → Option Callee) (N : Nat) (live : List Nat) (b : VC) (s : St) : Option (Out × St) := roundsN (run Φ N b) live N s
theorem loopE_all {Φ : Nat → Option Callee} {N : Nat} {live : List Nat} {b : VC} (S : Nat → St) (e : St) {m id : Nat} (hN : m < N) (step : ∀ i, i < m → round Φ N live b (S i) = some (.nrm, S (i + 1))) (last : round Φ N live b (S m) = some (.ext id, e)) :
    loopE Φ N live b (S 0) = some (.ext id, e) := loop_all (r := []) S e hN step last
theorem loopE_gen {Φ : Nat → Option Callee} {N : Nat} {live : List Nat} {b : VC} (S : Nat → St) (R : Nat → Out × St) {m : Nat} (hN : m < N) (hr : ∀ i, i ≤ m → (R i).1 ≠ .nrm)
    (step : ∀ i, i ≤ m → (i < m ∧ round Φ N live b (S i) = some (.nrm, S (i + 1)) ∧ R i = R (i + 1)) ∨ round Φ N live b (S i) = some (R i)) : loopE Φ N live b (S 0) = some (R 0) := loop_gen (r := []) S R hN hr step
/-- A loop that comes out with R, while P holds of the rounds' numbers. -/
theorem loopE_while {Φ : Nat → Option Callee} {N : Nat} {live : List Nat} {b : VC} (S : Nat → St) (R : Out × St) (P : Nat → Prop) {m : Nat} (hN : m < N) (h0 : P 0) (hr : R.1 ≠ .nrm)
    (step : ∀ i, i ≤ m → P i → (i < m ∧ round Φ N live b (S i) = some (.nrm, S (i + 1)) ∧ P (i + 1)) ∨ round Φ N live b (S i) = some R) : loopE Φ N live b (S 0) = some R := by
  obtain ⟨o, e, ⟨rfl, rfl⟩, _, h⟩ := loop_inv (Φ := Φ) (N := N) (live := live) (b := b) (r := []) (fun j s => ∃ i, i + j = m ∧ P i ∧ s = S i) (fun o e => o = R.1 ∧ e = R.2) hN (s := S 0) ⟨0, by omega, h0, rfl⟩ (by
    rintro j s hj ⟨i, hi, hp, rfl⟩
    rcases step i (by omega) hp with ⟨h1, h2, h3⟩ | h1
    · exact .inl ⟨j - 1, _, by omega, h2, i + 1, by omega, h3, rfl⟩
    · exact .inr ⟨R.1, R.2, hr, h1, rfl, rfl⟩)
  exact h
/-- A loop whose answer is known, where it stands. -/
theorem loop_at {Φ : Nat → Option Callee} {N : Nat} {live : List Nat} {b : VC} {r : List It} {s S0 e : St} {id : Nat} (h : loopE Φ N live b S0 = some (.ext id, e)) (hs : norm live s = S0) :
    goP Φ N live b r (norm live s) = goE Φ N r id e.slots e.nodes e.next := by
  rw [hs]; unfold goP; rw [show roundsN (run Φ N b) live N S0 = some (.ext id, e) from h]; rfl
theorem loop_rt {Φ : Nat → Option Callee} {N : Nat} {live : List Nat} {b : VC} {r : List It} {s S0 e : St} (h : loopE Φ N live b S0 = some (.ret, e)) (hs : norm live s = S0) :
    goP Φ N live b r (norm live s) = some (.ret, e) := by
  rw [hs]; unfold goP; rw [show roundsN (run Φ N b) live N S0 = some (.ret, e) from h]; exact goL_ret Φ N e r
end Sy

section
variable {Φ : Nat → Option Callee} {N : Nat} {v : Fn}
@[go_sem] theorem cal_modes : (calF Φ N v).modes = v.modes := rfl
@[go_sem] theorem cal_keeps : (calF Φ N v).keeps = v.keeps := rfl
@[go_sem] theorem cal_scalar : (calF Φ N v).scalar = v.scalar := rfl
@[go_sem] theorem cal_go : (calF Φ N v).go = runFn Φ N v := rfl
end

attribute [go_sem] Bool.false_and Bool.true_and Bool.and_true Bool.true_or Bool.false_or Bool.or_true Bool.and_self Option.isNone_some Option.isSome_some decide_true decide_false decide_eq_true decide_eq_false List.length_map List.length_append List.length_replicate List.length_set List.map_append List.replicate_succ List.replicate_zero List.set_cons_zero List.set_cons_succ List.map_cons List.map_nil List.length_cons List.length_nil List.getElem?_cons_zero List.getElem?_cons_succ List.drop_zero List.drop_succ_cons List.drop_nil List.take_succ_cons List.take_zero List.nil_append List.cons_append List.append_nil Option.map_some Option.getD_some Option.isNone_none List.getElem?_map Int.toNat_natCast
  if_true if_false Bool.false_eq_true Bool.or_false Bool.or_self Bool.and_false Bool.not_true Bool.not_false reduceCtorEq true_and and_true and_self Nat.zero_add Nat.add_zero
theorem wrap_i64 (x : Int) (h0 : -9223372036854775808 ≤ x) (h1 : x ≤ 9223372036854775807) : IntKind.i64.wrap x = x := by
  unfold IntKind.wrap
  simp [IntKind.bits, IntKind.signed]
  omega
theorem wrap_succ (i : Nat) (h : i < 9223372036854775807) : IntKind.i64.wrap ((i : Int) + 1) = ((i + 1 : Nat) : Int) := by
  rw [wrap_i64] <;> omega
theorem map_snoc {α β : Type} (f : α → β) (l : List α) (x : α) : (l ++ [x]).map f = l.map f ++ [f x] := by simp
end Go.Proofs.YtkoljcjliihiiaaDoor.VM

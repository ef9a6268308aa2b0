/- The interpreter 'VM': rules by which it is run over symbols: a list of what is still to be done, a frame, and an equation for each kind of step. The interpreter 'VM': rules for steps that are run: they are tried before the step's parts are looked at. (Printed by runlem.py, out of YtjdcidigbbbckaaDoorVmSym.) The interpreter 'VM': the wxd of calls: each function over those that it calls, to any depth. The interpreter 'VM': loops whose frames are known by a property, and loops over lists. -/
import Derived.Test.YtjdcidigbbbckaaDoorVmA
import Derived.Attr
import Derived.Laws.Strings
namespace Go.Proofs.YtjdcidigbbbckaaDoor.VM.Sy
open Go
inductive It where
 |c (v:VC)
 |blk (id:Nat)
 |ops (b:Nat) (os:List VOper) (live:List Nat)
abbrev eqc:=List (Nat×TV)
abbrev hjc:=List (Nat×Option Node)
section
variable (Φ:Nat→Option Callee) (N:Nat)
def fze (it:It) (o:Option (Out×St)):Option (Out×St):=
 match it,o with
 | .c v,some (.nrm,s)=>run Φ N v s
 | .blk id,some (.ext j,s)=>if j=id then some (.nrm,s) else some (.ext j,s)
 | .ops b os live,some (.nrm,s)=>(tkd Φ b os s).map fun s'=>(.nrm,{slots:=keep live s',nodes:=s'.nodes,next:=b+100*os.length})
 |_,x=>x
def goL:List It→Option (Out×St)→Option (Out×St)
 | [],x=>x
 |it::r,x=>goL r (fze Φ N it x)
def goN (r:List It) (sl:eqc) (nd:hjc) (nx:Nat):Option (Out×St):=goL Φ N r (some (.nrm,⟨sl,nd,nx⟩))
def goE (r:List It) (id:Nat) (sl:eqc) (nd:hjc) (nx:Nat):Option (Out×St):=goL Φ N r (some (.ext id,⟨sl,nd,nx⟩))
def tzc (f:St→Option (Out×St)) (live:List Nat):Nat→St→Option (Out×St)
 |0,_=>none
 |n+1,s=>match f s with
  |some (.nrm,s')=>tzc f live n (norm live s')
  |r=>r
def goP (live:List Nat) (b:VC) (r:List It) (s:St):Option (Out×St):=goL Φ N r (tzc (run Φ N b) live N s)
theorem zkf (f:St→Option (Out×St)) (live:List Nat): ∀(n:Nat) (s:St),ekd f live n s=tzc f live n (norm live s)
 |0,_=>rfl
 |n+1,s=>by
  simp only [ekd,tzc]
  cases f (norm live s) with
  |none=>rfl
  |some p=>
   obtain ⟨o,s'⟩:=p
   cases o with
   |nrm=>exact zkf f live n _
   |_=>rfl
theorem nqe: ∀(r:List It),goL Φ N r none=none
 | []=>rfl
 |it::r=>by
  simp only [goL]
  rw [show fze Φ N it none=none from by cases it<;>rfl]
  exact nqe r
theorem qqg (s:St): ∀(r:List It),goL Φ N r (some (.ret,s))=some (.ret,s)
 | []=>rfl
 |it::r=>by
  simp only [goL]
  rw [show fze Φ N it (some (.ret,s))=some (.ret,s) from by cases it<;>rfl]
  exact qqg s r
variable {Φ:Nat→Option Callee} {N:Nat} {r:List It} {sl:eqc} {nd:hjc} {nx:Nat}
theorem go_run (v:VC) (s:St):run Φ N v s=goN Φ N [.c v] s.slots s.nodes s.next:=rfl
@[go_sem] theorem go_nil:goN Φ N [] sl nd nx=some (.nrm,⟨sl,nd,nx⟩):=rfl
@[go_sem] theorem go_skip:goN Φ N (.c .skip::r) sl nd nx=goN Φ N r sl nd nx:=rfl
@[go_sem] theorem go_ret:goN Φ N (.c .ret::r) sl nd nx=some (.ret,⟨sl,nd,nx⟩):=qqg Φ N _ r
@[go_sem] theorem go_exit {id:Nat}:goN Φ N (.c (.exit id)::r) sl nd nx=goE Φ N r id sl nd nx:=rfl
@[go_sem] theorem go_blk {id:Nat}:goN Φ N (.blk id::r) sl nd nx=goN Φ N r sl nd nx:=rfl
@[go_sem] theorem goE_nil {id:Nat}:goE Φ N [] id sl nd nx=some (.ext id,⟨sl,nd,nx⟩):=rfl
@[go_sem] theorem goE_c {id:Nat} {v:VC}:goE Φ N (.c v::r) id sl nd nx=goE Φ N r id sl nd nx:=rfl
@[go_sem] theorem goE_ops {id b:Nat} {os:List VOper} {live:List Nat}:goE Φ N (.ops b os live::r) id sl nd nx=goE Φ N r id sl nd nx:=rfl
@[go_sem] theorem goE_blk {id j:Nat}:goE Φ N (.blk j::r) id sl nd nx=if id=j then goN Φ N r sl nd nx else goE Φ N r id sl nd nx:=by
  simp only [goE,goL,fze,goN]
  split<;>rfl
@[go_sem] theorem go_seq {a b:VC}:goN Φ N (.c (.seq a b)::r) sl nd nx=goN Φ N (.c a:: .c b::r) sl nd nx:=by
  simp only [goN,goL,fze,run]
  cases run Φ N a ⟨sl,nd,nx⟩ with
  |none=>rfl
  |some p=>
   obtain ⟨o,s⟩:=p
   cases o<;>rfl
@[go_sem] theorem fqm {id:Nat} {b:VC}:goN Φ N (.c (.block id b)::r) sl nd nx=goN Φ N (.c b:: .blk id::r) sl nd nx:=by
  simp only [goN,goL,fze,run]
  cases run Φ N b ⟨sl,nd,nx⟩ with
  |none=>rfl
  |some p=>
   obtain ⟨o,s⟩:=p
   cases o<;>rfl
@[go_sem] theorem go_loop {live:List Nat} {b:VC}:goN Φ N (.c (.loop live b)::r) sl nd nx=goP Φ N live b r (norm live ⟨sl,nd,nx⟩):=by
  simp only [goN,goL,fze,run,goP,zkf]
@[go_sem] theorem go_reg {os:List VOper} {live:List Nat}:goN Φ N (.c (.reg os live)::r) sl nd nx=goN Φ N (.ops nx os live::r) sl nd nx:=by
  simp only [goN,goL,fze,run]
  cases tkd Φ nx os ⟨sl,nd,nx⟩<;>rfl
theorem mkj {os:List VOper} {live:List Nat} {ps:List (Nat×Nat)} (h:okD Φ ps os ⟨sl,nd,nx⟩=true):goN Φ N (.c (.regD os live ps)::r) sl nd nx=goN Φ N (.ops nx os live::r) sl nd nx:=by
 simp only [goN,goL,fze,run,h,if_true]
 cases tkd Φ nx os ⟨sl,nd,nx⟩<;>rfl
attribute [go_sem] mkj
def hxd (sl:eqc) (n:Nat):TV:=(look sl n).getD .un
def selS (b:Bool) (v:TV) (sl:eqc) (n:Nat):TV:=match b with|true=>v|false=>hxd sl n
@[go_sem] theorem selS_t {v:TV} {n:Nat}:selS true v sl n=v:=rfl
@[go_sem] theorem selS_f {v:TV} {n:Nat}:selS false v sl n=hxd sl n:=rfl
@[go_sem] theorem ixk {n m:Nat} {v:TV}:hxd ((m,v)::sl) n=selS (m==n) v sl n:=by
  by_cases h:m=n
  ·subst h;simp [hxd,look,selS]
  ·have:(m==n)=false:=by simpa using h
   rw [this];simp [hxd,look,h,selS]
def mqg (sl:eqc):List Nat→eqc
 | []=> []
 |t::ts=>(t,hxd sl t)::mqg sl ts
@[go_sem] theorem dqm:mqg sl []= []:=rfl
@[go_sem] theorem pjl {t:Nat} {ts:List Nat}:mqg sl (t::ts)=(t,hxd sl t)::mqg sl ts:=rfl
theorem qzi (s:St): ∀(live:List Nat),keep live s=mqg s.slots live
 | []=>rfl
 |t::ts=>by simp [keep,mqg,←qzi s ts,St.slot,hxd]
@[go_sem] theorem go_fin {b:Nat} {live:List Nat}:goN Φ N (.ops b [] live::r) sl nd nx=goN Φ N r (mqg sl live) nd b:=by
  simp only [goN,goL,fze,tkd,Option.map_some,qzi,List.length_nil,Nat.mul_zero,Nat.add_zero]
def bjb (nd:hjc) (id:Nat):Option Node:=(look nd id).getD none
def selN (b:Bool) (v:Option Node) (nd:hjc) (n:Nat):Option Node:=match b with|true=>v|false=>bjb nd n
@[go_sem] theorem selN_t {v:Option Node} {n:Nat}:selN true v nd n=v:=rfl
@[go_sem] theorem selN_f {v:Option Node} {n:Nat}:selN false v nd n=bjb nd n:=rfl
@[go_sem] theorem bzl {n m:Nat} {v:Option Node}:bjb ((m,v)::nd) n=selN (m==n) v nd n:=by
  by_cases h:m=n
  ·subst h;simp [bjb,look,selN]
  ·have:(m==n)=false:=by simpa using h
   rw [this];simp [bjb,look,h,selN]
theorem rzm {n:Nat}:bjb [] n=none:=rfl
def ov (sl:eqc):Opd→TV
 | .t n=>hxd sl n
 | .c v=> .a v
 | .nl e=> .nl e
 | .f g=> .fn g [] []
@[go_sem] theorem ov_t {n:Nat}:ov sl (.t n)=hxd sl n:=rfl
@[go_sem] theorem ov_c {v:Value}:ov sl (.c v)= .a v:=rfl
@[go_sem] theorem ov_nl {e:Nat}:ov sl (.nl e)= .nl e:=rfl
@[go_sem] theorem ov_f {g:Nat}:ov sl (.f g)= .fn g [] []:=rfl
theorem ak (x:Opd) (s:St):(opd x).run s=some (ov s.slots x,s):=by cases x<;>rfl
def zke (Φ:Nat→Option Callee) (N:Nat) (v:TV) (a b:VC) (r:List It) (sl:eqc) (nd:hjc) (nx:Nat):Option (Out×St):=
 match v with
 | .a (.bool t)=>if t=true then goN Φ N (.c a::r) sl nd nx else goN Φ N (.c b::r) sl nd nx
 |_=>none
@[go_sem] theorem go_cond {n:Nat} {a b:VC}:goN Φ N (.c (.cond (.t n) a b)::r) sl nd nx=zke Φ N (hxd sl n) a b r sl nd nx:=by
  simp only [goN,goL,fze,run,zke,St.slot,hxd]
  cases (look sl n).getD TV.un with
  |a v=>
   cases v with
   |bool t=>cases t<;>rfl
   |_=>exact nqe Φ N r
  |_=>exact nqe Φ N r
@[go_sem] theorem tql {a b:VC}:zke Φ N (.a (.bool true)) a b r sl nd nx=goN Φ N (.c a::r) sl nd nx:=rfl
@[go_sem] theorem mjk {a b:VC}:zke Φ N (.a (.bool false)) a b r sl nd nx=goN Φ N (.c b::r) sl nd nx:=rfl
theorem cond_if {t:Bool} {a b:VC}:zke Φ N (.a (.bool t)) a b r sl nd nx=if t=true then goN Φ N (.c a::r) sl nd nx else goN Φ N (.c b::r) sl nd nx:=rfl
theorem fxm {p:Prop} [Decidable p] {a b:VC}:zke Φ N (.a (.bool (decide p))) a b r sl nd nx=if p then goN Φ N (.c a::r) sl nd nx else goN Φ N (.c b::r) sl nd nx:=by
 simp [zke]
theorem cond_t {p:Prop} [Decidable p] {a b:VC} (h:p):zke Φ N (.a (.bool (decide p))) a b r sl nd nx=goN Φ N (.c a::r) sl nd nx:=by simp [zke,h]
theorem cond_f {p:Prop} [Decidable p] {a b:VC} (h: ¬p):zke Φ N (.a (.bool (decide p))) a b r sl nd nx=goN Φ N (.c b::r) sl nd nx:=by simp [zke,h]
def putK (Φ:Nat→Option Callee) (N:Nat) (d:Nat) (o:Option TV) (r:List It) (sl:eqc) (nd:hjc) (nx:Nat):Option (Out×St):=
 match o with
 |some v=>goN Φ N r ((d,v)::sl) nd nx
 |none=>none
@[go_sem] theorem hzm {d:Nat} {v:TV}:putK Φ N d (some v) r sl nd nx=goN Φ N r ((d,v)::sl) nd nx:=rfl
def aftK (Φ:Nat→Option Callee) (N:Nat) {α:Type} (o:Option (α×St)) (r:List It):Option (Out×St):=
 match o with
 |some (_,s)=>goN Φ N r s.slots s.nodes s.next
 |none=>none
@[go_sem] theorem ikm {α:Type} {x:α} {s:St}:aftK Φ N (some (x,s)) r=goN Φ N r s.slots s.nodes s.next:=rfl
theorem wxg {b:Nat} {o:VOper} {os:List VOper} {live:List Nat}:goN Φ N (.ops b (o::os) live::r) sl nd nx=aftK Φ N ((qjc Φ b o).run ⟨sl,nd,nx⟩) (.ops (b+100) os live::r):=by
 simp only [goN,goL,fze,tkd]
 cases (qjc Φ b o).run ⟨sl,nd,nx⟩ with
 |none=>exact nqe Φ N r
 |some p=>
  simp only [aftK,goN,goL,fze,List.length_cons,show b+100*(os.length+1)=b+100+100*os.length by omega]
theorem qz {α β:Type} (x:M α) (f:α→M β) (s:St):(x.bind f).run s=(match x.run s with|some (a,s')=>(f a).run s'|none=>none):=by
 induction x generalizing s with
 |pure x=>rfl
 |fail=>rfl
 |getS t k ih=>exact ih _ _
 |setS t v k ih=>exact ih _
 |getN id k ih=>exact ih _ _
 |setN id n k ih=>exact ih _
def eqi {α β:Type} (o:Option (α×St)) (f:α→M β):Option (β×St):=
 match o with
 |some (a,s)=>(f a).run s
 |none=>none
@[congr] theorem gzk {α β:Type} {o o':Option (α×St)} {f:α→M β} (h:o=o'):eqi o f=eqi o' f:=by rw [h]
@[go_sem ↓] theorem ujk {α β:Type} {a:α} {s:St} {f:α→M β}:eqi (some (a,s)) f=(f a).run s:=rfl
theorem xxk {α β:Type} (x:M α) (f:α→M β) (s:St):(x.bind f).run s=eqi (x.run s) f:=qz x f s
@[go_sem ↓] theorem wzk {α β:Type} (x:M α) (f:α→M β) (s:St):(x.bind f).run s=eqi (x.run s) f:=qz x f s
def ifM {α:Type} (c:Prop) [Decidable c] (x y:M α) (s:St):Option (α×St):=(if c then x else y).run s
@[congr] theorem rjl {α:Type} {c c':Prop} [Decidable c] [Decidable c'] {x y:M α} {s:St} (h:c=c'):ifM c x y s=ifM c' x y s:=by
  subst h
  unfold ifM
  congr
@[go_sem ↓] theorem ifM_t {α:Type} {x y:M α} {s:St} [Decidable True]:ifM True x y s=x.run s:=by simp [ifM]
@[go_sem ↓] theorem ifM_f {α:Type} {x y:M α} {s:St} [Decidable False]:ifM False x y s=y.run s:=by simp [ifM]
@[go_sem ↓] theorem run_ifM {α:Type} {c:Prop} [Decidable c] {x y:M α} {s:St}:(if c then x else y).run s=ifM c x y s:=rfl
@[go_sem] theorem txk {α:Type} {x:α} {s:St}:(M.pure x).run s=some (x,s):=rfl
@[go_sem] theorem uxk {t:Nat} {s:St}:(getS t).run s=some (hxd s.slots t,s):=rfl
@[go_sem] theorem rxk {t:Nat} {v:TV} {sl:eqc} {nd:hjc} {nx:Nat}:(setS t v).run ⟨sl,nd,nx⟩=some ((),⟨(t,v)::sl,nd,nx⟩):=rfl
@[go_sem] theorem vxk {id:Nat} {s:St}:(getN id).run s=some (bjb s.nodes id,s):=rfl
@[go_sem] theorem sxk {id:Nat} {n:Option Node} {sl:eqc} {nd:hjc} {nx:Nat}:(setN id n).run ⟨sl,nd,nx⟩=some ((),⟨sl,(id,n)::nd,nx⟩):=rfl
@[go_sem] theorem vzk {α:Type} {x:α} {s:St}:(liftO (some x)).run s=some (x,s):=rfl
@[go_sem] theorem wkl {x:Opd} {s:St}:(opd x).run s=some (ov s.slots x,s):=ak x s
@[go_sem] theorem wxk {α:Type} {s:St}:(M.fail:M α).run s=none:=rfl
section
variable {b:Nat} {os:List VOper} {live:List Nat} {g:Option Nat}
abbrev rest (b:Nat) (os:List VOper) (live:List Nat) (r:List It):List It:= .ops (b+100) os live::r
theorem mzb {op:VOp}:goN Φ N (.ops b (⟨op,none,g⟩::os) live::r) sl nd nx=aftK Φ N ((exec Φ b op).run ⟨sl,nd,nx⟩) (.ops (b+100) os live::r):=by
 rw [wxg];rfl
@[go_sem] theorem mkh {d:Nat} {x:Opd}:goN Φ N (.ops b (⟨.mov d x,none,g⟩::os) live::r) sl nd nx=goN Φ N (.ops (b+100) os live::r) ((d,ov sl x)::sl) nd nx:=by
  rw [mzb]
  simp only [exec,qz,ak]
  rfl
def rxi (c x y:TV):Option TV:=
 match c with
 | .a (.bool t)=>some (if t=true then x else y)
 |_=>none
@[go_sem] theorem pick_t {x y:TV}:rxi (.a (.bool true)) x y=some x:=rfl
@[go_sem] theorem pick_f {x y:TV}:rxi (.a (.bool false)) x y=some y:=rfl
@[go_sem] theorem lkh {d:Nat} {c x y:Opd}:goN Φ N (.ops b (⟨.pick d c x y,none,g⟩::os) live::r) sl nd nx=putK Φ N d (rxi (ov sl c) (ov sl x) (ov sl y)) (.ops (b+100) os live::r) sl nd nx:=by
  rw [mzb]
  simp only [exec,qz,ak]
  cases ov sl c with
  |a v=>
   cases v with
   |bool t=>cases t<;>simp only [qz,ak,if_true,rxi,Bool.false_eq_true,if_false]<;>rfl
   |_=>rfl
  |_=>rfl
@[go_sem] theorem akg {d:Nat} {z:ZC} {zs:List ZC}:goN Φ N (.ops b (⟨.alloc d (z::zs),none,g⟩::os) live::r) sl nd nx=
 goN Φ N (.ops (b+100) os live::r) ((d,.rf b)::sl) ((b,some (.bx false (z.tv::zs.map ZC.tv)))::nd) nx:=by
  rw [mzb];rfl
@[go_sem] theorem zc_v {v:Value}:(ZC.v v).tv= .a v:=rfl
@[go_sem] theorem zc_nl {e:Nat}:(ZC.nl e).tv= .nl e:=rfl
def boxK (Φ:Nat→Option Callee) (N:Nat) (d b:Nat) (o:Option (List TV)) (r:List It) (sl:eqc) (nd:hjc) (nx:Nat):Option (Out×St):=
 match o with
 |some (c::cs)=>goN Φ N r ((d,.rf b)::sl) ((b,some (.bx false (c::cs)))::nd) nx
 |_=>none
@[go_sem] theorem txm {d b:Nat} {c:TV} {cs:List TV}:boxK Φ N d b (some (c::cs)) r sl nd nx=goN Φ N r ((d,.rf b)::sl) ((b,some (.bx false (c::cs)))::nd) nx:=rfl
@[go_sem] theorem ljj {d:Nat} {x:Opd}:goN Φ N (.ops b (⟨.box d x,none,g⟩::os) live::r) sl nd nx=boxK Φ N d b (ov sl x).row (.ops (b+100) os live::r) sl nd nx:=by
  rw [mzb]
  simp only [exec,qz,ak]
  cases (ov sl x).row with
  |none=>rfl
  |some cs=>cases cs<;>rfl
@[go_sem] theorem row_st {cs:List TV}:(TV.st cs).row=some cs:=rfl
@[go_sem] theorem row_int {k:IntKind} {n:Int}:(TV.a (.int k n)).row=some [.a (.int k n)]:=rfl
@[go_sem] theorem gzm {t:Bool}:(TV.a (.bool t)).row=some [.a (.bool t)]:=rfl
@[go_sem] theorem row_str {s:ByteArray}:(TV.a (.string s)).row=some [.a (.string s)]:=rfl
@[go_sem] theorem row_nl {e:Nat}:(TV.nl e).row=some [.nl e]:=rfl
@[go_sem] theorem row_rf {i:Nat}:(TV.rf i).row=some [.rf i]:=rfl
@[go_sem] theorem row_sz {e:Nat} {es:List PV}:(TV.sz e es).row=some [.sz e es]:=rfl
@[go_sem] theorem row_fn {f:Nat} {fs cs:List TV}:(TV.fn f fs cs).row=some [.fn f fs cs]:=rfl
@[go_sem] theorem row_sb {i j k:Nat}:(TV.sb i j k).row=some [.sb i j k]:=rfl
@[go_sem] theorem row_ri {i j:Nat} {p:List (Nat×Nat×Nat)}:(TV.ri i j p).row=some [.ri i j p]:=rfl
@[go_sem] theorem row_ad {i j:Nat}:(TV.ad i j).row=some [.ad i j]:=rfl
@[go_sem] theorem ixm {cs:List TV}:(TV.st cs).cells=cs:=rfl
@[go_sem] theorem cells_a {v:Value}:(TV.a v).cells= [.a v]:=rfl
@[go_sem] theorem mxm {e:Nat}:(TV.nl e).cells= [.nl e]:=rfl
@[go_sem] theorem lxm {i:Nat}:(TV.rf i).cells= [.rf i]:=rfl
@[go_sem] theorem gxm {e:Nat} {es:List PV}:(TV.sz e es).cells= [.sz e es]:=rfl
@[go_sem] theorem oxm {f:Nat} {fs cs:List TV}:(TV.fn f fs cs).cells= [.fn f fs cs]:=rfl
@[go_sem] theorem jxm {i j k:Nat}:(TV.sb i j k).cells= [.sb i j k]:=rfl
@[go_sem] theorem kxm {i j:Nat} {p:List (Nat×Nat×Nat)}:(TV.ri i j p).cells= [.ri i j p]:=rfl
@[go_sem] theorem pxm {i j:Nat}:(TV.ad i j).cells= [.ad i j]:=rfl
@[go_sem] theorem nxm {t:Nat} {v:TV}:(TV.ic t v).cells= [.ic t v]:=rfl
@[go_sem] theorem ukk {cs:List PV}:(PV.st cs).cells=cs:=rfl
@[go_sem] theorem pzm {v:Value}:(PV.a v).cells= [.a v]:=rfl
@[go_sem] theorem vkk {e:Nat} {es:List PV}:(PV.sl e es).cells= [.sl e es]:=rfl
@[go_sem] theorem wkk {e:Nat} {es:List PV}:(PV.fz e es).cells= [.fz e es]:=rfl
def zkd (sl:eqc):List (Nat×Nat×Opd)→List TV→Option (List TV)
 | [],cs=>some cs
 |(o,w,x)::ps,cs=>if (ov sl x).cells.length=w∧o+w≤cs.length∧(ov sl x).row.isSome=true then zkd sl ps (cs.take o++(ov sl x).cells++cs.drop (o+w)) else none
theorem ajg (s:St): ∀(ps:List (Nat×Nat×Opd)) (cs:List TV),(okc ps cs).run s=(zkd s.slots ps cs).map (·,s)
 | [],cs=>rfl
 |(o,w,x)::ps,cs=>by
  simp only [okc,qz,ak,zkd]
  split
  ·exact ajg s ps _
  ·rfl
@[go_sem] theorem yql {cs:List TV}:zkd sl [] cs=some cs:=rfl
def cqi (sl:eqc) (v:TV) (o w:Nat) (ps:List (Nat×Nat×Opd)) (cs:List TV):Option (List TV):=
 if v.cells.length=w∧o+w≤cs.length∧v.row.isSome=true then zkd sl ps (cs.take o++v.cells++cs.drop (o+w)) else none
@[go_sem] theorem qjk {o w:Nat} {x:Opd} {ps:List (Nat×Nat×Opd)} {cs:List TV}:zkd sl ((o,w,x)::ps) cs=cqi sl (ov sl x) o w ps cs:=rfl
@[go_sem] theorem rxm {v:TV} {o w:Nat} {ps:List (Nat×Nat×Opd)} {cs:List TV} (h1:v.cells.length=w) (h2:o+w≤cs.length) (h3:v.row.isSome=true):cqi sl v o w ps cs=zkd sl ps (cs.take o++v.cells++cs.drop (o+w)):=by
  simp [cqi,h1,h2,h3]
def stO (o:Option (List TV)):Option TV:=o.map .st
@[go_sem] theorem qkl {cs:List TV}:stO (some cs)=some (.st cs):=rfl
@[go_sem] theorem zxg {d:Nat} {zs:List ZC} {ps:List (Nat×Nat×Opd)}:goN Φ N (.ops b (⟨.build d zs ps,none,g⟩::os) live::r) sl nd nx=
 putK Φ N d (stO (zkd sl ps (zs.map ZC.tv))) (.ops (b+100) os live::r) sl nd nx:=by
  rw [mzb]
  simp only [exec,qz,ajg]
  cases zkd sl ps (zs.map ZC.tv)<;>rfl
@[go_sem] theorem tkk {cs:List TV} {o:Nat}:ij cs o none=cs[o]? :=rfl
@[go_sem] theorem ozm {cs:List TV} {o w:Nat} (h:o+w≤cs.length):ij cs o (some w)=some (.st ((cs.drop o).take w)):=by simp [ij,h]
def fqg (n:Option Node) (o:Nat) (w:Option Nat):Option TV:=
 match n with
 |some (.bx _ cs)=>ij cs o w
 |_=>none
@[go_sem] theorem gjm {z:Bool} {cs:List TV} {o:Nat} {w:Option Nat}:fqg (some (.bx z cs)) o w=ij cs o w:=rfl
def ownC (id ver:Nat) (p:List (Nat×Nat×Nat)) (i m:Nat):Nat→List PV→List TV
 |_,[]=> []
 |k,c::cs=>cqg id ver (p++ [(i,m,k)]) c::ownC id ver p i m (k+1) cs
theorem hkh (id ver:Nat) (p:List (Nat×Nat×Nat)) (i m:Nat) (x:PV):kzc id ver p i m x=ownC id ver p i m 0 x.cells:=by
 have key: ∀(cs:List PV) (k:Nat),((cs.zipIdx k).map fun (c,o)=>cqg id ver (p++ [(i,m,o)]) c)=ownC id ver p i m k cs:=by
  intro cs
  induction cs with
  |nil=>intro k;rfl
  |cons c cs ih=>intro k;simp only [List.zipIdx_cons,List.map_cons,ownC,ih]
 exact key x.cells 0
@[go_sem] theorem qzm {id ver:Nat} {p:List (Nat×Nat×Nat)} {i m k:Nat}:ownC id ver p i m k []= []:=rfl
@[go_sem] theorem ykk {id ver:Nat} {p:List (Nat×Nat×Nat)} {i m k:Nat} {c:PV} {cs:List PV}:ownC id ver p i m k (c::cs)=cqg id ver (p++ [(i,m,k)]) c::ownC id ver p i m (k+1) cs:=rfl
@[go_sem] theorem own_a {id ver:Nat} {p:List (Nat×Nat×Nat)} {v:Value}:cqg id ver p (.a v)= .a v:=rfl
@[go_sem] theorem own_sl {id ver:Nat} {p:List (Nat×Nat×Nat)} {e:Nat} {es:List PV}:cqg id ver p (.sl e es)= .ri id ver p:=rfl
@[go_sem] theorem own_fz {id ver:Nat} {p:List (Nat×Nat×Nat)} {e:Nat} {es:List PV}:cqg id ver p (.fz e es)= .sz e es:=rfl
@[go_sem] theorem fz_a {v:Value}:fxc (.a v)= .a v:=rfl
@[go_sem] theorem fz_sl {e:Nat} {es:List PV}:fxc (.sl e es)= .sz e es:=rfl
@[go_sem] theorem fz_fz {e:Nat} {es:List PV}:fxc (.fz e es)= .sz e es:=rfl
def bki (x:Option PV) (id ver:Nat) (p:List (Nat×Nat×Nat)) (i m o:Nat) (w:Option Nat):Option TV:=
 match x with
 |some x=>ij (ownC id ver p i m 0 x.cells) o w
 |none=>none
@[go_sem] theorem ijk {x:PV} {id ver:Nat} {p:List (Nat×Nat×Nat)} {i m o:Nat} {w:Option Nat}:bki (some x) id ver p i m o w=ij (ownC id ver p i m 0 x.cells) o w:=rfl
def aki (n:Option Node) (id i m o:Nat) (w:Option Nat):Option TV:=
 match n with
 |some (.sl _ ver _ es)=>bki es[i]? id ver [] i m o w
 |_=>none
@[go_sem] theorem ajm {q:Bool} {ver e:Nat} {es:List PV} {id i m o:Nat} {w:Option Nat}:aki (some (.sl q ver e es)) id i m o w=bki es[i]? id ver [] i m o w:=rfl
def mxd (nd:hjc) (w:Option Nat):TV→Option TV
 | .rf id=>fqg (bjb nd id) 0 w
 | .ad id o=>fqg (bjb nd id) o w
 | .ea id i m o=>aki (bjb nd id) id i m o w
 | .ez cs o=>ij (cs.map fxc) o w
 |v=>((loadAt w v).run ⟨[],nd,0⟩).map (·.1)
@[go_sem] theorem bjm {w:Option Nat} {id:Nat}:mxd nd w (.rf id)=fqg (bjb nd id) 0 w:=rfl
@[go_sem] theorem fjm {w:Option Nat} {id o:Nat}:mxd nd w (.ad id o)=fqg (bjb nd id) o w:=rfl
@[go_sem] theorem ejm {w:Option Nat} {id i m o:Nat}:mxd nd w (.ea id i m o)=aki (bjb nd id) id i m o w:=rfl
@[go_sem] theorem cjm {w:Option Nat} {cs:List PV} {o:Nat}:mxd nd w (.ez cs o)=ij (cs.map fxc) o w:=rfl
def bkc {α:Type} (m:M α):Prop:= ∀s:St,m.run s=(m.run ⟨[],s.nodes,0⟩).map fun p=>(p.1,s)
theorem bkc.pure {α:Type} (x:α):bkc (M.pure x):=fun _=>rfl
theorem bkc.fail {α:Type}:bkc (M.fail:M α):=fun _=>rfl
theorem bkc.getN {α:Type} {id:Nat} {k:Option Node→M α} (h: ∀n,bkc (k n)):bkc ((VM.getN id).bind k):=by
 intro s
 simp only [qz]
 exact h _ s
theorem bkc.liftO {α:Type} (x:Option α):bkc (VM.liftO x):=by cases x;exact bkc.fail;exact bkc.pure _
theorem uzh (w:Option Nat) (v:TV):bkc (loadAt w v):=by
 unfold loadAt
 split<;>first
  |exact bkc.fail
  |exact bkc.liftO _
  |(refine bkc.getN fun n=> ?_
    repeat' split
    all_goals first
     |exact bkc.fail
     |exact bkc.liftO _)
theorem nkd (w:Option Nat) (v:TV) (s:St):(loadAt w v).run s=(mxd s.nodes w v).map (·,s):=by
 cases v with
 |rf id=>
  simp only [loadAt,qz,mxd,fqg,bjb]
  simp only [VM.getN,M.run,St.node]
  cases (look s.nodes id).getD none with
  |none=>rfl
  |some n=>
   cases n with
   |bx z cs=>simp only;cases ij cs 0 w<;>rfl
   |sl _ _ _ _=>rfl
 |ad id o=>
  simp only [loadAt,qz,mxd,fqg,bjb]
  simp only [VM.getN,M.run,St.node]
  cases (look s.nodes id).getD none with
  |none=>rfl
  |some n=>
   cases n with
   |bx z cs=>simp only;cases ij cs o w<;>rfl
   |sl _ _ _ _=>rfl
 |ea id i m o=>
  simp only [loadAt,qz,mxd,aki,bjb]
  simp only [VM.getN,M.run,St.node]
  cases (look s.nodes id).getD none with
  |none=>rfl
  |some n=>
   cases n with
   |bx z cs=>rfl
   |sl q ver e es=>
    simp only [bki]
    cases es[i]? with
    |none=>rfl
    |some x=>simp only [hkh];cases ij (ownC id ver [] i m 0 x.cells) o w<;>rfl
 |ez cs o=>
  simp only [loadAt,mxd]
  cases ij (cs.map fxc) o w<;>rfl
 |_=>
  rw [uzh]
  simp only [mxd,Option.map_map]
  congr 1
def xkk (o:Option TV) (s:St):Option (TV×St):=o.map (·,s)
@[go_sem] theorem cjk {v:TV} {s:St}:xkk (some v) s=some (v,s):=rfl
@[go_sem] theorem nzl {w:Option Nat} {v:TV} {s:St}:(loadAt w v).run s=xkk (mxd s.nodes w v) s:=nkd w v s
@[go_sem] theorem okh {d:Nat} {w:Option Nat} {x:Opd}:goN Φ N (.ops b (⟨.load d w x,none,g⟩::os) live::r) sl nd nx=putK Φ N d (mxd nd w (ov sl x)) (.ops (b+100) os live::r) sl nd nx:=by
  rw [mzb]
  simp only [exec,qz,ak,nkd]
  cases mxd nd w (ov sl x)<;>rfl
def fadP (nd:hjc) (off:Nat):TV→Option TV
 | .rf id=>match bjb nd id with|some (.bx _ _)=>some (.ad id off)|_=>none
 | .ad id o=>some (.ad id (o+off))
 | .ea id i m o=>match bjb nd id with|some (.sl _ _ _ _)=>some (.ea id i m (o+off))|_=>none
 | .ez cs o=>some (.ez cs (o+off))
 |v=>((fieldAt off v).run ⟨[],nd,0⟩).map (·.1)
def fadN (n:Option Node) (id off:Nat):Option TV:=
 match n with
 |some (.bx _ _)=>some (.ad id off)
 |_=>none
def fadS (n:Option Node) (id i m o:Nat):Option TV:=
 match n with
 |some (.sl _ _ _ _)=>some (.ea id i m o)
 |_=>none
@[go_sem] theorem fad_rf {id off:Nat}:fadP nd off (.rf id)=fadN (bjb nd id) id off:=rfl
@[go_sem] theorem fadN_bx {z:Bool} {cs:List TV} {id off:Nat}:fadN (some (.bx z cs)) id off=some (.ad id off):=rfl
@[go_sem] theorem fad_ad {id o off:Nat}:fadP nd off (.ad id o)=some (.ad id (o+off)):=rfl
@[go_sem] theorem fad_ea {id i m o off:Nat}:fadP nd off (.ea id i m o)=fadS (bjb nd id) id i m (o+off):=rfl
@[go_sem] theorem fadS_sl {q:Bool} {ver e:Nat} {es:List PV} {id i m o:Nat}:fadS (some (.sl q ver e es)) id i m o=some (.ea id i m o):=rfl
@[go_sem] theorem fad_ez {cs:List PV} {o off:Nat}:fadP nd off (.ez cs o)=some (.ez cs (o+off)):=rfl
theorem ujg (off:Nat) (v:TV):bkc (fieldAt off v):=by
 unfold fieldAt
 split<;>first
  |exact bkc.fail
  |exact bkc.pure _
  |(refine bkc.getN fun n=> ?_
    repeat' split
    all_goals first
     |exact bkc.fail
     |exact bkc.pure _)
theorem wke (off:Nat) (v:TV) (s:St):(fieldAt off v).run s=(fadP s.nodes off v).map (·,s):=by
 cases v with
 |rf id=>
  simp only [fieldAt,qz,fadP,bjb]
  simp only [VM.getN,M.run,St.node]
  cases (look s.nodes id).getD none with
  |none=>rfl
  |some n=>cases n<;>rfl
 |ea id i m o=>
  simp only [fieldAt,qz,fadP,bjb]
  simp only [VM.getN,M.run,St.node]
  cases (look s.nodes id).getD none with
  |none=>rfl
  |some n=>cases n<;>rfl
 |_=>
  rw [ujg]
  simp only [fadP]
  first
   |rfl
   |(simp only [Option.map_map];congr 1)
@[go_sem] theorem gjj {d off:Nat} {x:Opd}:goN Φ N (.ops b (⟨.fad d x off,none,g⟩::os) live::r) sl nd nx=putK Φ N d (fadP nd off (ov sl x)) (.ops (b+100) os live::r) sl nd nx:=by
  rw [mzb]
  simp only [exec,qz,ak,wke]
  cases fadP nd off (ov sl x)<;>rfl
def fldT (off:Nat) (w:Option Nat):TV→Option TV
 | .st cs=>ij cs off w
 |_=>none
@[go_sem] theorem fld_st {off:Nat} {w:Option Nat} {cs:List TV}:fldT off w (.st cs)=ij cs off w:=rfl
@[go_sem] theorem fjj {d off:Nat} {w:Option Nat} {x:Opd}:goN Φ N (.ops b (⟨.fld d x off w,none,g⟩::os) live::r) sl nd nx=putK Φ N d (fldT off w (ov sl x)) (.ops (b+100) os live::r) sl nd nx:=by
  rw [mzb]
  simp only [exec,qz,ak]
  cases ov sl x with
  |st cs=>simp only [qz,fldT];cases ij cs off w<;>rfl
  |_=>rfl
def ukg (n:Option Node):Option (Nat×List PV):=
 match n with
 |some (.sl _ _ e es)=>some (e,es)
 |_=>none
@[go_sem] theorem oql {q:Bool} {ver e:Nat} {es:List PV}:ukg (some (.sl q ver e es))=some (e,es):=rfl
def szg (n:Option Node) (lo k:Nat):Option (Nat×List PV):=
 match n with
 |some (.sl _ _ e es)=>some (e,(es.drop lo).take k)
 |_=>none
@[go_sem] theorem qql {q:Bool} {ver e lo k:Nat} {es:List PV}:szg (some (.sl q ver e es)) lo k=some (e,(es.drop lo).take k):=rfl
def xke (n:Option Node) (ver:Nat) (p:List (Nat×Nat×Nat)):Option (Nat×List PV):=
 match n with
 |some (.sl _ ver' _ es)=>if ver'=ver then dget es p else none
 |_=>none
@[go_sem] theorem pql {q:Bool} {ver ver' e:Nat} {es:List PV} {p:List (Nat×Nat×Nat)}:xke (some (.sl q ver' e es)) ver p=if ver'=ver then dget es p else none:=rfl
def tqb (nd:hjc):TV→Option (Nat×List PV)
 | .nl e=>some (e,[])
 | .sz e es=>some (e,es)
 | .rf id=>ukg (bjb nd id)
 | .sb id lo k=>szg (bjb nd id) lo k
 | .ri id ver p=>xke (bjb nd id) ver p
 |_=>none
@[go_sem] theorem xqm {e:Nat}:tqb nd (.nl e)=some (e,[]):=rfl
@[go_sem] theorem vqm {e:Nat} {es:List PV}:tqb nd (.sz e es)=some (e,es):=rfl
@[go_sem] theorem wqm {id:Nat}:tqb nd (.rf id)=ukg (bjb nd id):=rfl
@[go_sem] theorem skg {id lo k:Nat}:tqb nd (.sb id lo k)=szg (bjb nd id) lo k:=rfl
@[go_sem] theorem tkg {id ver:Nat} {p:List (Nat×Nat×Nat)}:tqb nd (.ri id ver p)=xke (bjb nd id) ver p:=rfl
theorem yjd (v:TV) (s:St):(oxb v).run s=(tqb s.nodes v).map (·,s):=by
 cases v with
 |rf id=>
  simp only [oxb,qz,tqb,ukg,bjb]
  simp only [VM.getN,M.run,St.node]
  cases (look s.nodes id).getD none with
  |none=>rfl
  |some n=>cases n<;>rfl
 |sb id lo k=>
  simp only [oxb,qz,tqb,szg,bjb]
  simp only [VM.getN,M.run,St.node]
  cases (look s.nodes id).getD none with
  |none=>rfl
  |some n=>cases n<;>rfl
 |ri id ver p=>
  simp only [oxb,qz,tqb,xke,bjb]
  simp only [VM.getN,M.run,St.node]
  cases (look s.nodes id).getD none with
  |none=>rfl
  |some n=>
   cases n with
   |bx _ _=>rfl
   |sl q ver' e es=>
    simp only
    split
    ·cases dget es p<;>rfl
    ·rfl
 |_=>rfl
def lenO (o:Option (Nat×List PV)):Option TV:=o.map fun r=> .a (.int .i64 r.2.length)
@[go_sem] theorem kjm {e:Nat} {es:List PV}:lenO (some (e,es))=some (.a (.int .i64 es.length)):=rfl
@[go_sem] theorem djj {d:Nat} {x:Opd}:goN Φ N (.ops b (⟨.len d x,none,g⟩::os) live::r) sl nd nx=putK Φ N d (lenO (tqb nd (ov sl x))) (.ops (b+100) os live::r) sl nd nx:=by
  rw [mzb]
  simp only [exec,qz,ak,yjd]
  cases tqb nd (ov sl x)<;>rfl
def b2sU:Option (List UInt8)→Option TV
 |some bs=>some (.a (.string ⟨bs.toArray⟩))
 |none=>none
@[go_sem] theorem fxl {bs:List UInt8}:b2sU (some bs)=some (.a (.string ⟨bs.toArray⟩)):=rfl
def b2sO (e:Nat) (o:Option (Nat×List PV)):Option TV:=
 match o with
 |some (e',es)=>if e'=e then b2sU (u8of es) else none
 |none=>none
@[go_sem] theorem gxl {e:Nat} {es:List PV}:b2sO e (some (e,es))=b2sU (u8of es):=by simp [b2sO]
@[go_sem] theorem kkl:u8of []=some []:=rfl
def u8c (b:UInt8):Option (List UInt8)→Option (List UInt8)
 |some bs=>some (b::bs)
 |none=>none
@[go_sem] theorem lkl {b:UInt8} {bs:List UInt8}:u8c b (some bs)=some (b::bs):=rfl
@[go_sem] theorem mqk {n:Int} {es:List PV}:u8of (.a (.int .u8 n)::es)=u8c (UInt8.ofNat n.toNat) (u8of es):=by
  simp only [u8of]
  cases u8of es<;>rfl
@[go_sem] theorem ojj {d e:Nat} {x:Opd}:goN Φ N (.ops b (⟨.b2s d e x,none,g⟩::os) live::r) sl nd nx=putK Φ N d (b2sO e (tqb nd (ov sl x))) (.ops (b+100) os live::r) sl nd nx:=by
  rw [mzb]
  simp only [exec,qz,ak,yjd]
  cases tqb nd (ov sl x) with
  |none=>rfl
  |some p=>
   obtain ⟨e',es⟩:=p
   simp only [b2sO,Option.map_some]
   split
   ·cases u8of es<;>rfl
   ·rfl
def jxk:TV→Option TV
 | .a (.string s)=>some (.a (.int .i64 s.size))
 |_=>none
@[go_sem] theorem slen_s {s:ByteArray}:jxk (.a (.string s))=some (.a (.int .i64 s.size)):=rfl
@[go_sem] theorem jkh {d:Nat} {x:Opd}:goN Φ N (.ops b (⟨.slen d x,none,g⟩::os) live::r) sl nd nx=putK Φ N d (jxk (ov sl x)) (.ops (b+100) os live::r) sl nd nx:=by
  rw [mzb]
  simp only [exec,qz,ak]
  cases ov sl x with
  |a v=>cases v<;>rfl
  |_=>rfl
def iadP (m:Nat) (x:TV) (es:List PV) (i:Nat):Option TV:=
 match x with
 | .rf id=>some (.ea id i m 0)
 | .sb id lo _=>some (.ea id (lo+i) m 0)
 | .ri id ver p=>some (.ei id ver p i m 0)
 | .sz _ _=>some (.ez (es[i]?.getD .un).cells 0)
 |_=>none
@[go_sem] theorem iadP_rf {m id i:Nat} {es:List PV}:iadP m (.rf id) es i=some (.ea id i m 0):=rfl
@[go_sem] theorem iadP_sb {m id lo k i:Nat} {es:List PV}:iadP m (.sb id lo k) es i=some (.ea id (lo+i) m 0):=rfl
@[go_sem] theorem iadP_ri {m id ver i:Nat} {p:List (Nat×Nat×Nat)} {es:List PV}:iadP m (.ri id ver p) es i=some (.ei id ver p i m 0):=rfl
@[go_sem] theorem iadP_sz {m e i:Nat} {es es':List PV}:iadP m (.sz e es') es i=some (.ez (es[i]?.getD .un).cells 0):=rfl
def iadO (e m:Nat) (x:TV) (o:Option (Nat×List PV)) (i:TV):Option TV:=
 match o,i with
 |some (e',es),.a (.int _ n)=>if e'=e∧0≤n∧n<es.length then iadP m x es n.toNat else none
 |_,_=>none
@[go_sem] theorem iad_in {e m:Nat} {x:TV} {es:List PV} {k:IntKind} {n:Int} (h0:0≤n) (h1:n<es.length):iadO e m x (some (e,es)) (.a (.int k n))=iadP m x es n.toNat:=by
  simp [iadO,h0,h1]
theorem oke (e m:Nat) (x:TV) (i:Int) (s:St):(indexAt e m x i).run s=(iadO e m x (tqb s.nodes x) (.a (.int .i64 i))).map (·,s):=by
 simp only [indexAt,qz,yjd]
 cases ho:tqb s.nodes x with
 |none=>rfl
 |some p=>
  obtain ⟨e',es⟩:=p
  simp only [Option.map_some,iadO]
  rw [ite2]
  split
  ·rename_i hcond
   have hget:es[i.toNat]? =some (es[i.toNat]'(by omega)):=List.getElem?_eq_getElem (by omega)
   cases x with
   |sz e0 es0=>
    simp only [tqb,Option.some.injEq,Prod.mk.injEq] at ho
    obtain ⟨_,rfl⟩:=ho
    simp only [iadP,hget]
    rfl
   |_=>rfl
  ·rfl
@[go_sem] theorem ejj {d e m:Nat} {x i:Opd}:goN Φ N (.ops b (⟨.iad d e m x i,none,g⟩::os) live::r) sl nd nx=putK Φ N d (iadO e m (ov sl x) (tqb nd (ov sl x)) (ov sl i)) (.ops (b+100) os live::r) sl nd nx:=by
  rw [mzb]
  simp only [exec,qz,ak]
  cases hi:ov sl i with
  |a v=>
   cases v with
   |int k n=>
    simp only [asI,qz,oke]
    have:iadO e m (ov sl x) (tqb nd (ov sl x)) (.a (.int .i64 n))=iadO e m (ov sl x) (tqb nd (ov sl x)) (.a (.int k n)):=by
     cases tqb nd (ov sl x)<;>rfl
    rw [this]
    cases iadO e m (ov sl x) (tqb nd (ov sl x)) (.a (.int k n))<;>rfl
   |_=>cases tqb nd (ov sl x)<;>rfl
  |_=>cases tqb nd (ov sl x)<;>rfl
def ixT (x i:TV):Option TV:=
 match x,i with
 | .a (.string s),.a (.int _ n)=>(czf s n).map .a
 |_,_=>none
@[go_sem] theorem azl {d:Nat} {x i:Opd}:goN Φ N (.ops b (⟨.ix d x i,none,g⟩::os) live::r) sl nd nx=putK Φ N d (ixT (ov sl x) (ov sl i)) (.ops (b+100) os live::r) sl nd nx:=by
  rw [mzb]
  simp only [exec,qz,ak]
  cases ov sl x with
  |a v=>
   cases v with
   |string s=>
    cases ov sl i with
    |a u=>
     cases u with
     |int k n=>simp only [asI,qz,ixT];cases czf s n<;>rfl
     |_=>rfl
    |_=>rfl
   |_=>cases asI (ov sl i)<;>cases ov sl i<;>rfl
  |_=>cases asI (ov sl i)<;>cases ov sl i<;>rfl
def binT (op:BinOp) (x y:TV):Option TV:=
 match x,y with
 | .a u,.a v=>(binA op u v).map .a
 |_,_=>none
@[go_sem] theorem mjj {d:Nat} {op:BinOp} {x y:Opd}:goN Φ N (.ops b (⟨.bin d op x y,none,g⟩::os) live::r) sl nd nx=putK Φ N d (binT op (ov sl x) (ov sl y)) (.ops (b+100) os live::r) sl nd nx:=by
  rw [mzb]
  simp only [exec,qz,ak]
  cases ov sl x with
  |a u=>
   cases ov sl y with
   |a v=>simp only [qz,binT];cases binA op u v<;>rfl
   |_=>rfl
  |_=>cases ov sl y<;>rfl
section
variable {k k':IntKind} {x y:Int}
theorem kk (k:IntKind):(k==k)=true:=by cases k<;>rfl
@[go_sem] theorem bin_add:binT .add (.a (.int k x)) (.a (.int k y))=some (.a (.int k (k.wrap (x+y)))):=by simp [binT,binA,fjb,bzc]
@[go_sem] theorem bin_sub:binT .sub (.a (.int k x)) (.a (.int k y))=some (.a (.int k (k.wrap (x - y)))):=by simp [binT,binA,fjb,bzc]
@[go_sem] theorem bin_mul:binT .mul (.a (.int k x)) (.a (.int k y))=some (.a (.int k (k.wrap (x*y)))):=by simp [binT,binA,fjb,bzc]
@[go_sem] theorem bin_quo (h:y≠0):binT .quo (.a (.int k x)) (.a (.int k y))=some (.a (.int k (k.wrap (x.tdiv y)))):=by simp [binT,binA,fjb,bzc,h]
@[go_sem] theorem bin_rem (h:y≠0):binT .rem (.a (.int k x)) (.a (.int k y))=some (.a (.int k (x.tmod y))):=by simp [binT,binA,fjb,bzc,h]
@[go_sem] theorem bin_shl (h:0≤y):binT .shl (.a (.int k x)) (.a (.int k' y))=some (.a (.int k (k.wrap (x*2^(min y.toNat k.bits))))):=by
  have: ¬y<0:=by omega
  simp [binT,binA,fjb,bzc,this]
@[go_sem] theorem bin_shr (h:0≤y):binT .shr (.a (.int k x)) (.a (.int k' y))=some (.a (.int k (x.fdiv (2^(min y.toNat k.bits))))):=by
  have: ¬y<0:=by omega
  simp [binT,binA,fjb,bzc,this]
@[go_sem] theorem bin_eql:binT .eql (.a (.int k x)) (.a (.int k y))=some (.a (.bool (decide (x=y)))):=by
  simp [binT,binA,fjb,bzc];rfl
@[go_sem] theorem bin_neq:binT .neq (.a (.int k x)) (.a (.int k y))=some (.a (.bool (decide (x≠y)))):=by
  simp [binT,binA,fjb,bzc,bne];rfl
def iAnd (k:IntKind) (x y:Int):Int:=k.wrap (BitVec.ofInt k.bits x&&&BitVec.ofInt k.bits y).toNat
def iOr (k:IntKind) (x y:Int):Int:=k.wrap (BitVec.ofInt k.bits x|||BitVec.ofInt k.bits y).toNat
def iXor (k:IntKind) (x y:Int):Int:=k.wrap (BitVec.ofInt k.bits x^^^BitVec.ofInt k.bits y).toNat
def dji (k:IntKind) (x y:Int):Int:=k.wrap (BitVec.ofInt k.bits x&&& ~~~(BitVec.ofInt k.bits y)).toNat
@[go_sem] theorem bin_and:binT .and (.a (.int k x)) (.a (.int k y))=some (.a (.int k (iAnd k x y))):=by simp [binT,binA,fjb,bzc,iAnd]
@[go_sem] theorem bin_or:binT .or (.a (.int k x)) (.a (.int k y))=some (.a (.int k (iOr k x y))):=by simp [binT,binA,fjb,bzc,iOr]
@[go_sem] theorem bin_xor:binT .xor (.a (.int k x)) (.a (.int k y))=some (.a (.int k (iXor k x y))):=by simp [binT,binA,fjb,bzc,iXor]
@[go_sem] theorem vjk:binT .andNot (.a (.int k x)) (.a (.int k y))=some (.a (.int k (dji k x y))):=by simp [binT,binA,fjb,bzc,dji]
@[go_sem] theorem bin_lss:binT .lss (.a (.int k x)) (.a (.int k y))=some (.a (.bool (decide (x<y)))):=by simp [binT,binA,fjb,bzc]
@[go_sem] theorem bin_leq:binT .leq (.a (.int k x)) (.a (.int k y))=some (.a (.bool (decide (x≤y)))):=by simp [binT,binA,fjb,bzc]
@[go_sem] theorem bin_gtr:binT .gtr (.a (.int k x)) (.a (.int k y))=some (.a (.bool (decide (y<x)))):=by simp [binT,binA,fjb,bzc]
@[go_sem] theorem bin_geq:binT .geq (.a (.int k x)) (.a (.int k y))=some (.a (.bool (decide (y≤x)))):=by simp [binT,binA,fjb,bzc]
end
@[go_sem] theorem xxm {x y:ByteArray} (h:x.size+y.size≤140737488351232):binT .add (.a (.string x)) (.a (.string y))=some (.a (.string (x++y))):=by simp [binT,binA,ejf,h]
theorem toList_inj {x y:ByteArray}:x.toList=y.toList↔x=y:=by
 rw [ByteArray.toList_eq,ByteArray.toList_eq]
 constructor
 ·intro h;exact ByteArray.ext (Array.toList_inj.1 h)
 ·rintro rfl;rfl
theorem cjf (x y:ByteArray):(x.toList==y.toList)=decide (x=y):=by
 by_cases h:x=y
 ·subst h;simp
 ·have:x.toList≠y.toList:=fun e=>h (toList_inj.1 e)
  simp [h,this]
@[go_sem] theorem wxm {x y:ByteArray}:binT .eql (.a (.string x)) (.a (.string y))=some (.a (.bool (decide (x=y)))):=by
  simp only [binT,binA,ejf,cjf,Option.map_some]
@[go_sem] theorem vxm {x y:ByteArray}:binT .neq (.a (.string x)) (.a (.string y))=some (.a (.bool (decide (x≠y)))):=by
  simp only [binT,binA,ejf,cjf,Option.map_some,decide_not]
def beqT (ne:Bool) (x y:TV):Option TV:=
 match x,y with
 | .a (.bool u),.a (.bool v)=>some (.a (.bool (if ne then u !=v else u==v)))
 |_,_=>none
@[go_sem] theorem beq_f {u v:Bool}:beqT false (.a (.bool u)) (.a (.bool v))=some (.a (.bool (u==v))):=rfl
@[go_sem] theorem beq_t {u v:Bool}:beqT true (.a (.bool u)) (.a (.bool v))=some (.a (.bool (u !=v))):=rfl
@[go_sem] theorem njj {d:Nat} {ne:Bool} {x y:Opd}:goN Φ N (.ops b (⟨.beq d ne x y,none,g⟩::os) live::r) sl nd nx=putK Φ N d (beqT ne (ov sl x) (ov sl y)) (.ops (b+100) os live::r) sl nd nx:=by
  rw [mzb]
  simp only [exec,qz,ak]
  cases ov sl x with
  |a u=>
   cases u with
   |bool u=>
    cases ov sl y with
    |a v=>cases v<;>rfl
    |_=>rfl
   |_=>cases ov sl y with
    |a v=>cases v<;>rfl
    |_=>rfl
  |_=>cases ov sl y<;>rfl
def unT (op:UnOp) (x:TV):Option TV:=
 match x with
 | .a u=>(unA op u).map .a
 |_=>none
@[go_sem] theorem un_not {t:Bool}:unT .not (.a (.bool t))=some (.a (.bool (!t))):=rfl
@[go_sem] theorem un_neg {k:IntKind} {n:Int}:unT .neg (.a (.int k n))=some (.a (.int k (k.wrap (0 - n)))):=rfl
@[go_sem] theorem zkk {d:Nat} {op:UnOp} {x:Opd}:goN Φ N (.ops b (⟨.un d op x,none,g⟩::os) live::r) sl nd nx=putK Φ N d (unT op (ov sl x)) (.ops (b+100) os live::r) sl nd nx:=by
  rw [mzb]
  simp only [exec,qz,ak]
  cases ov sl x with
  |a u=>simp only [qz,unT];cases unA op u<;>rfl
  |_=>rfl
def cviT (k:IntKind) (x:TV):Option TV:=
 match x with
 | .a (.int _ n)=>some (.a (.int k (k.wrap n)))
 |_=>none
@[go_sem] theorem cvi_i {k k':IntKind} {n:Int}:cviT k (.a (.int k' n))=some (.a (.int k (k.wrap n))):=rfl
@[go_sem] theorem jjj {d:Nat} {k:IntKind} {x:Opd}:goN Φ N (.ops b (⟨.cvi d k x,none,g⟩::os) live::r) sl nd nx=putK Φ N d (cviT k (ov sl x)) (.ops (b+100) os live::r) sl nd nx:=by
  rw [mzb]
  simp only [exec,qz,ak]
  cases ov sl x with
  |a v=>cases v<;>rfl
  |_=>rfl
def extT (i:Nat) (x:TV):Option TV:=
 match x with
 | .tp cs=>cs[i]?
 |_=>none
@[go_sem] theorem ext_tp {i:Nat} {cs:List TV}:extT i (.tp cs)=cs[i]? :=rfl
@[go_sem] theorem hjj {d i:Nat} {x:Opd}:goN Φ N (.ops b (⟨.ext d x i,none,g⟩::os) live::r) sl nd nx=putK Φ N d (extT i (ov sl x)) (.ops (b+100) os live::r) sl nd nx:=by
  rw [mzb]
  simp only [exec,qz,ak]
  cases ov sl x with
  |tp cs=>simp only [qz,extT];cases cs[i]? <;>rfl
  |_=>rfl
def gK (Φ:Nat→Option Callee) (N:Nat) (u:TV) (want:Bool) (b:Nat) (op:VOp) (dst:Option Nat) (os:List VOper) (live:List Nat) (r:List It) (sl:eqc) (nd:hjc) (nx:Nat):Option (Out×St):=
 match u with
 | .a (.bool t)=>if t=want then goN Φ N (.ops b (⟨op,none,dst⟩::os) live::r) sl nd nx else aftK Φ N ((putO dst TV.none).run ⟨sl,nd,nx⟩) (.ops (b+100) os live::r)
 | .a (.tuple _)=>aftK Φ N ((putO dst TV.none).run ⟨sl,nd,nx⟩) (.ops (b+100) os live::r)
 |_=>none
theorem sxi {op:VOp} {t:Nat} {want:Bool} {dst:Option Nat}:goN Φ N (.ops b (⟨op,some (t,want),dst⟩::os) live::r) sl nd nx=gK Φ N (hxd sl t) want b op dst os live r sl nd nx:=by
 rw [wxg]
 simp only [qjc,qz]
 simp only [VM.getS,M.run,St.slot,gK,hxd]
 cases (look sl t).getD TV.un with
 |a v=>
  cases v with
  |bool u=>
   simp only
   split
   ·rw [mzb]
   ·rfl
  |_=>rfl
 |_=>rfl
attribute [go_sem] sxi
@[go_sem] theorem g_tt {op:VOp} {dst:Option Nat}:gK Φ N (.a (.bool true)) true b op dst os live r sl nd nx=goN Φ N (.ops b (⟨op,none,dst⟩::os) live::r) sl nd nx:=rfl
@[go_sem] theorem g_ff {op:VOp} {dst:Option Nat}:gK Φ N (.a (.bool false)) false b op dst os live r sl nd nx=goN Φ N (.ops b (⟨op,none,dst⟩::os) live::r) sl nd nx:=rfl
@[go_sem] theorem g_tf {op:VOp} {d:Nat}:gK Φ N (.a (.bool true)) false b op (some d) os live r sl nd nx=goN Φ N (.ops (b+100) os live::r) ((d,TV.none)::sl) nd nx:=rfl
@[go_sem] theorem g_ft {op:VOp} {d:Nat}:gK Φ N (.a (.bool false)) true b op (some d) os live r sl nd nx=goN Φ N (.ops (b+100) os live::r) ((d,TV.none)::sl) nd nx:=rfl
@[go_sem] theorem g_tf0 {op:VOp}:gK Φ N (.a (.bool true)) false b op none os live r sl nd nx=goN Φ N (.ops (b+100) os live::r) sl nd nx:=rfl
@[go_sem] theorem g_ft0 {op:VOp}:gK Φ N (.a (.bool false)) true b op none os live r sl nd nx=goN Φ N (.ops (b+100) os live::r) sl nd nx:=rfl
@[go_sem] theorem g_none {op:VOp} {want:Bool} {d:Nat}:gK Φ N TV.none want b op (some d) os live r sl nd nx=goN Φ N (.ops (b+100) os live::r) ((d,TV.none)::sl) nd nx:=rfl
@[go_sem] theorem g_none0 {op:VOp} {want:Bool}:gK Φ N TV.none want b op none os live r sl nd nx=goN Φ N (.ops (b+100) os live::r) sl nd nx:=rfl
theorem g_if {op:VOp} {t want:Bool} {dst:Option Nat}:gK Φ N (.a (.bool t)) want b op dst os live r sl nd nx=if t=true then gK Φ N (.a (.bool true)) want b op dst os live r sl nd nx else gK Φ N (.a (.bool false)) want b op dst os live r sl nd nx:=by
 cases t<;>rfl
def mksM (b d e by_:Nat) (zs:List ZC) (x:TV):M Unit:=
 match x with
 | .a (.int .i64 n)=>
   if 0≤n∧n*by_≤140737488355328∧n≤9223372036854775807 then
    (setN b (some (.sl false 0 e (List.replicate n.toNat (ijc zs.length zs))))).bind fun _=>setS d (.rf b)
   else .fail
 |_=> .fail
theorem kzl {b d e by_:Nat} {zs:List ZC} {n:Int} (h0:0≤n) (h1:n*by_≤140737488355328) (h2:n≤9223372036854775807):mksM b d e by_ zs (.a (.int .i64 n))=
 (setN b (some (.sl false 0 e (List.replicate n.toNat (ijc zs.length zs))))).bind fun _=>setS d (.rf b):=by
 simp [mksM,h0,h1,h2]
@[go_sem] theorem kjj {d e m n:Nat} {zs:List ZC} {ps:List (Nat×Opd)}:goN Φ N (.ops b (⟨.bsl d e m zs n ps,none,g⟩::os) live::r) sl nd nx=
 aftK Φ N (((bslM (xzf zs) m ps false (List.replicate n (ijc m zs))).bind fun es=>(setN b (some (.sl es.2 0 e es.1))).bind fun _=>setS d (.rf b)).run ⟨sl,nd,nx⟩) (.ops (b+100) os live::r):=mzb
theorem fzk {flat q:Bool} {m:Nat} {es:List PV}:bslM flat m [] q es= .pure (es,q):=rfl
def bslK (flat q:Bool) (m i:Nat) (y:PV×Bool) (ps:List (Nat×Opd)) (es:List PV):M (List PV×Bool):=if y.1.cells.length=m∧i<es.length then bslM flat m ps (q||y.2) (es.set i y.1) else .fail
theorem yki {flat q:Bool} {m i:Nat} {x:Opd} {ps:List (Nat×Opd)} {es:List PV}:bslM flat m ((i,x)::ps) q es=
 (opd x).bind fun v=>(toEl flat v).bind fun y=>bslK flat q m i y ps es:=rfl
theorem bxl {flat q:Bool} {m i:Nat} {y:PV×Bool} {ps:List (Nat×Opd)} {es:List PV} (h1:y.1.cells.length=m) (h2:i<es.length):bslK flat q m i y ps es=bslM flat m ps (q||y.2) (es.set i y.1):=by
 simp [bslK,h1,h2]
@[go_sem] theorem pjj {d e by_:Nat} {mv:Bool} {x y:Opd}:goN Φ N (.ops b (⟨.app d e by_ mv x y,none,g⟩::os) live::r) sl nd nx=
 aftK Φ N (((zqc b e by_ mv (ov sl x) (ov sl y)).bind (setS d)).run ⟨sl,nd,nx⟩) (.ops (b+100) os live::r):=by
  rw [mzb]
  simp only [exec,qz,ak]
@[go_sem] theorem xxg {w:Nat} {x y:Opd}:goN Φ N (.ops b (⟨.store w x y,none,g⟩::os) live::r) sl nd nx=
 aftK Φ N ((storeAt b w (ov sl x) (ov sl y)).run ⟨sl,nd,nx⟩) (.ops (b+100) os live::r):=by
  rw [mzb]
  simp only [exec,qz,ak]
def nilB (d:Nat) (v:TV):Option Node→M Unit
 |some (.bx _ _)=>setS d v
 |_=> .fail
def nilE (d:Nat) (v:TV):Option Node→M Unit
 |some (.sl _ _ _ _)=>setS d v
 |_=> .fail
def nilM (d:Nat):TV→M Unit
 | .rf id=>(getN id).bind (nilB d (.rf id))
 | .ad id o=>setS d (.ad id o)
 | .ea id i m o=>(getN id).bind (nilE d (.ea id i m o))
 | .ez cs o=>setS d (.ez cs o)
 | .fn f fs cs=>setS d (.fn f fs cs)
 | .ic t v=>setS d (.ic t v)
 |_=> .fail
theorem yxj {d:Nat} {v:TV} {z:Bool} {cs:List TV}:nilB d v (some (.bx z cs))=setS d v:=rfl
theorem xxj {d:Nat} {v:TV} {q:Bool} {ver e:Nat} {es:List PV}:nilE d v (some (.sl q ver e es))=setS d v:=rfl
theorem czl {d id:Nat}:nilM d (.rf id)=(getN id).bind (nilB d (.rf id)):=rfl
theorem hzl {d id o:Nat}:nilM d (.ad id o)=setS d (.ad id o):=rfl
theorem gzl {d id i m o:Nat}:nilM d (.ea id i m o)=(getN id).bind (nilE d (.ea id i m o)):=rfl
theorem fzl {d o:Nat} {cs:List PV}:nilM d (.ez cs o)=setS d (.ez cs o):=rfl
theorem ezl {d f:Nat} {fs cs:List TV}:nilM d (.fn f fs cs)=setS d (.fn f fs cs):=rfl
theorem dzl {d t:Nat} {v:TV}:nilM d (.ic t v)=setS d (.ic t v):=rfl
@[go_sem] theorem yxg {d:Nat} {x:Opd}:goN Φ N (.ops b (⟨.nilck d x,none,g⟩::os) live::r) sl nd nx=
 aftK Φ N ((nilM d (ov sl x)).run ⟨sl,nd,nx⟩) (.ops (b+100) os live::r):=by
  rw [mzb]
  simp only [exec,qz,ak]
  cases ov sl x with
  |rf id=>
   simp only [nilM,qz]
   congr 1
  |ea id i m o=>
   simp only [nilM,qz]
   congr 1
  |_=>rfl
@[go_sem] theorem cjj {d f:Nat} {fs cs:List Opd}:goN Φ N (.ops b (⟨.mkf d f fs cs,none,g⟩::os) live::r) sl nd nx=
 goN Φ N (.ops (b+100) os live::r) ((d,.fn f (fs.map (ov sl)) (cs.map (ov sl)))::sl) nd nx:=by
  have key: ∀(xs:List Opd) (s:St),(opds xs).run s=some (xs.map (ov s.slots),s):=by
   intro xs
   induction xs with
   |nil=>intro s;rfl
   |cons x xs ih=>intro s;simp only [opds,qz,ak,ih];rfl
  rw [mzb]
  simp only [exec,qz,key]
  rfl
theorem lqe: ∀(xs:List Opd) (s:St),(opds xs).run s=some (xs.map (ov s.slots),s)
 | [],s=>rfl
 |x::xs,s=>by simp only [opds,qz,ak,lqe xs];rfl
@[go_sem] theorem bjj {d t:Nat} {x:Opd}:goN Φ N (.ops b (⟨.mki d t x,none,g⟩::os) live::r) sl nd nx=goN Φ N (.ops (b+100) os live::r) ((d,.ic t (ov sl x))::sl) nd nx:=by
  rw [mzb]
  simp only [exec,qz,ak]
  rfl
@[go_sem] theorem ajj {d e by_:Nat} {zs:List ZC} {x:Opd}:goN Φ N (.ops b (⟨.mks d e by_ zs x,none,g⟩::os) live::r) sl nd nx=
 aftK Φ N ((mksM b d e by_ zs (ov sl x)).run ⟨sl,nd,nx⟩) (.ops (b+100) os live::r):=by
  rw [mzb]
  simp only [exec,qz,ak,mksM]
  rfl
@[go_sem] theorem ijj {d:Nat} {x:Opd}:goN Φ N (.ops b (⟨.cvs d x,none,g⟩::os) live::r) sl nd nx=
 aftK Φ N ((exec Φ b (.cvs d x)).run ⟨sl,nd,nx⟩) (.ops (b+100) os live::r):=mzb
def pkc (sl:eqc):Option Opd→Option (Option Int)
 |none=>some none
 |some y=>(asI (ov sl y)).map some
theorem bjg (y:Option Opd) (s:St):(sxd y).run s=(pkc s.slots y).map (·,s):=by
 cases y with
 |none=>rfl
 |some y=>
  simp only [sxd,qz,ak,pkc]
  cases asI (ov s.slots y)<;>rfl
@[go_sem] theorem tjk:pkc sl none=some none:=rfl
@[go_sem] theorem sjk {y:Opd}:pkc sl (some y)=(asI (ov sl y)).map some:=rfl
@[go_sem] theorem asI_int {k:IntKind} {n:Int}:asI (.a (.int k n))=some n:=rfl
def cutK (Φ:Nat→Option Callee) (N:Nat) (d:Nat) (lo hi:Option (Option Int)) (f:Option Int→Option Int→M TV) (r:List It) (s:St):Option (Out×St):=
 match lo,hi with
 |some l,some h=>aftK Φ N (((f l h).bind (setS d)).run s) r
 |_,_=>none
@[go_sem] theorem dxm {d:Nat} {l h:Option Int} {f:Option Int→Option Int→M TV} {s:St}:cutK Φ N d (some l) (some h) f r s=aftK Φ N (((f l h).bind (setS d)).run s) r:=rfl
@[go_sem] theorem zzj {d e:Nat} {x:Opd} {lo hi:Option Opd}:goN Φ N (.ops b (⟨.slc d e x lo hi,none,g⟩::os) live::r) sl nd nx=
 cutK Φ N d (pkc sl lo) (pkc sl hi) (sliceAt e (ov sl x)) (.ops (b+100) os live::r) ⟨sl,nd,nx⟩:=by
  rw [mzb]
  simp only [exec,qz,ak,bjg]
  cases hlo:pkc sl lo with
  |none=>cases pkc sl hi<;>rfl
  |some l=>
   cases hhi:pkc sl hi with
   |none=>simp only [Option.map_some,Option.map_none,hhi];rfl
   |some h=>simp only [Option.map_some,hhi,qz,cutK]
@[go_sem] theorem ikh {d:Nat} {x:Opd} {lo hi:Option Opd}:goN Φ N (.ops b (⟨.sslc d x lo hi,none,g⟩::os) live::r) sl nd nx=
 cutK Φ N d (pkc sl lo) (pkc sl hi) (kzf (ov sl x)) (.ops (b+100) os live::r) ⟨sl,nd,nx⟩:=by
  rw [mzb]
  simp only [exec,qz,ak,bjg]
  cases hlo:pkc sl lo with
  |none=>cases pkc sl hi<;>rfl
  |some l=>
   cases hhi:pkc sl hi with
   |none=>simp only [Option.map_some,Option.map_none,hhi];rfl
   |some h=>simp only [Option.map_some,hhi,qz,cutK]
def ext2 (t:Bool) (x y:Int):Int:=if t then (if y>x then y else x) else (if y<x then y else x)
theorem tqm (x y:Int):ext2 true x y=max x y:=by simp only [ext2,if_true];split<;>omega
theorem sqm (x y:Int):ext2 false x y=min x y:=by simp only [ext2,Bool.false_eq_true,if_false];split<;>omega
def mmT (t:Bool):TV→TV→Option TV
 | .a (.int k x),.a (.int _ y)=>some (.a (.int k (ext2 t x y)))
 |_,_=>none
@[go_sem] theorem mmT_a {t:Bool} {k k':IntKind} {x y:Int}:mmT t (.a (.int k x)) (.a (.int k' y))=some (.a (.int k (ext2 t x y))):=rfl
@[go_sem] theorem nkh {d:Nat} {t:Bool} {x y:Opd}:goN Φ N (.ops b (⟨.mmx d t [x,y],none,g⟩::os) live::r) sl nd nx=
 putK Φ N d (mmT t (ov sl x) (ov sl y)) (.ops (b+100) os live::r) sl nd nx:=by
  rw [mzb]
  simp only [exec,qz,lqe,List.map]
  cases ov sl x with
  |a u=>
   cases u with
   |int k n=>
    simp only [qz]
    cases ov sl y with
    |a v=>cases v<;>first|rfl|(cases t<;>rfl)
    |_=>rfl
   |_=>rfl
  |_=>rfl
def dxi (Φ:Nat→Option Callee) (N:Nat) (d b e:Nat) (o:Option (Nat×List PV)) (r:List It) (sl:eqc) (nd:hjc) (nx:Nat):Option (Out×St):=
 match o with
 |some (e',_)=>if e'=e then goN Φ N r ((d,.rf b)::sl) ((b,some (.sl false 0 e []))::nd) nx else none
 |none=>none
@[go_sem] theorem oxk {d b e:Nat} {es:List PV}:dxi Φ N d b e (some (e,es)) r sl nd nx=goN Φ N r ((d,.rf b)::sl) ((b,some (.sl false 0 e []))::nd) nx:=by simp [dxi]
@[go_sem] theorem kkh {d e:Nat} {x:Opd}:goN Φ N (.ops b (⟨.slc0 d e x,none,g⟩::os) live::r) sl nd nx=dxi Φ N d b e (tqb nd (ov sl x)) (.ops (b+100) os live::r) sl nd nx:=by
  rw [mzb]
  simp only [exec,qz,ak,yjd]
  cases tqb nd (ov sl x) with
  |none=>rfl
  |some p=>
   obtain ⟨e',es⟩:=p
   simp only [Option.map_some,dxi]
   split<;>rfl
def bxg (Φ:Nat→Option Callee) (N:Nat) (c:Option Callee) (b:Nat) (d:Option Nat) (xs:List TV) (r:List It) (s:St):Option (Out×St):=
 match c with
 |none=>none
 |some c=>aftK Φ N (((tqd (some c) b xs).bind (putO d)).run s) r
@[go_sem] theorem qkh {d:Option Nat} {f:Nat} {xs:List Opd}:goN Φ N (.ops b (⟨.call d f xs,none,g⟩::os) live::r) sl nd nx=
 bxg Φ N (Φ f) b d (xs.map (ov sl)) (.ops (b+100) os live::r) ⟨sl,nd,nx⟩:=by
  rw [mzb]
  simp only [exec,qz,lqe,bxg]
  cases Φ f with
  |none=>rfl
  |some c=>simp only [qz]
def ezk (Φ:Nat→Option Callee) (N:Nat) (f:TV) (b:Nat) (d:Option Nat) (xs:List TV) (r:List It) (s:St):Option (Out×St):=
 match f with
 | .fn g fs cs=>bxg Φ N (Φ g) b d (fs++xs++cs) r s
 |_=>none
@[go_sem] theorem calv_fn {g:Nat} {fs cs xs:List TV} {b:Nat} {d:Option Nat} {s:St}:ezk Φ N (.fn g fs cs) b d xs r s=bxg Φ N (Φ g) b d (fs++xs++cs) r s:=rfl
@[go_sem] theorem pkh {d:Option Nat} {f:Opd} {xs:List Opd}:goN Φ N (.ops b (⟨.calv d f xs,none,g⟩::os) live::r) sl nd nx=
 ezk Φ N (ov sl f) b d (xs.map (ov sl)) (.ops (b+100) os live::r) ⟨sl,nd,nx⟩:=by
  rw [mzb]
  simp only [exec,qz,ak]
  cases ov sl f with
  |fn g fs cs=>
   simp only [qz,lqe,ezk,bxg]
   cases Φ g with
   |none=>rfl
   |some c=>simp only [qz]
  |_=>rfl
def fqi (Φ:Nat→Option Callee) (N:Nat) (keeps scalar:Bool) (ms:List Md) (b:Nat) (d:Option Nat) (xs:List TV) (cs:List CV) (o:Option (List CV×List CV)) (r:List It) (s:St):Option (Out×St):=
 match o with
 |none=>none
 |some (rs,fs)=>aftK Φ N (((lz keeps (b+100) b ms xs cs fs).bind fun b'=>(if scalar then (if b'≤b+99 then (liftO (kjc rs)).bind fun ts=>M.pure (uzd ts) else .fail) else jqb keeps (b+99) b' rs).bind (putO d)).run s) r
def resS (top b:Nat) (rs:List CV):M TV:=if b≤top then (liftO (kjc rs)).bind fun ts=>M.pure (uzd ts) else .fail
def resT (top:Nat) (r:List TV×Nat):M TV:=if r.2≤top then .pure (uzd r.1) else .fail
theorem fxj {top b:Nat} {rs:List CV} (h:b≤top):resS top b rs=(liftO (kjc rs)).bind fun ts=>M.pure (uzd ts):=by simp [resS,h]
theorem exj {top:Nat} {r:List TV×Nat} (h:r.2≤top):resT top r= .pure (uzd r.1):=by simp [resT,h]
theorem tjg {q:Bool} {top b:Nat} {rs:List CV}:jqb q top b rs=(yj q b rs).bind (resT top):=rfl
@[go_sem] theorem one_1 {v:TV}:uzd [v]=v:=rfl
@[go_sem] theorem one_0:uzd []= .tp []:=rfl
@[go_sem] theorem one_n {v u:TV} {l:List TV}:uzd (v::u::l)= .tp (v::u::l):=rfl
@[go_sem] theorem plain_a {v:Value}:plain (.a v)=some (.a v):=rfl
@[go_sem] theorem kzm {e:Nat} {es:List PV}:plain (.sl true e es)=some (.sz e es):=rfl
@[go_sem] theorem jzm {cs:List CV}:plain (.st cs)=(kjc cs).map .st:=rfl
@[go_sem] theorem yzk:kjc []=some []:=rfl
def plC (a:Option TV) (o:Option (List TV)):Option (List TV):=match a,o with|some y,some ys=>some (y::ys)|_,_=>none
@[go_sem] theorem lzm {y:TV} {ys:List TV}:plC (some y) (some ys)=some (y::ys):=rfl
@[go_sem] theorem qxj {x:CV} {xs:List CV}:kjc (x::xs)=plC (plain x) (kjc xs):=rfl
theorem akh {d:Nat} {v:TV}:putO (some d) v=setS d v:=rfl
theorem bkh {v:TV}:putO none v= .pure ():=rfl
@[go_sem] theorem back_s {keeps:Bool} {ms:List Md} {b:Nat} {d:Option Nat} {xs:List TV} {cs rs fs:List CV} {s:St}:fqi Φ N keeps true ms b d xs cs (some (rs,fs)) r s=
 aftK Φ N (((lz keeps (b+100) b ms xs cs fs).bind fun b'=>(resS (b+99) b' rs).bind (putO d)).run s) r:=rfl
@[go_sem] theorem back_n {keeps:Bool} {ms:List Md} {b:Nat} {d:Option Nat} {xs:List TV} {cs rs fs:List CV} {s:St}:fqi Φ N keeps false ms b d xs cs (some (rs,fs)) r s=
 aftK Φ N (((lz keeps (b+100) b ms xs cs fs).bind fun b'=>(jqb keeps (b+99) b' rs).bind (putO d)).run s) r:=rfl
def goK (Φ:Nat→Option Callee) (N:Nat) (c:Callee) (b:Nat) (d:Option Nat) (xs:List TV) (o:Option (List CV×St)) (r:List It):Option (Out×St):=
 match o with
 |none=>none
 |some (cs,s)=>fqi Φ N c.keeps c.scalar c.modes b d xs cs (c.go cs) r s
@[go_sem] theorem gqm {c:Callee} {b:Nat} {d:Option Nat} {xs:List TV} {cs:List CV} {s:St}:goK Φ N c b d xs (some (cs,s)) r=fqi Φ N c.keeps c.scalar c.modes b d xs cs (c.go cs) r s:=rfl
@[go_sem] theorem uql {c:Callee} {b:Nat} {d:Option Nat} {xs:List TV} {s:St}:bxg Φ N (some c) b d xs r s=
 goK Φ N c b d xs (((bje c.keeps (b+100) c.modes xs).bind fun ps=>yx c.keeps c.modes xs ps).run s) r:=by
  simp only [bxg,tqd,qz,goK]
  cases (bje c.keeps (b+100) c.modes xs).run s with
  |none=>rfl
  |some p=>
   obtain ⟨ps,s1⟩:=p
   simp only
   cases (yx c.keeps c.modes xs ps).run s1 with
   |none=>rfl
   |some q=>
    obtain ⟨cs,s2⟩:=q
    simp only [fqi]
    cases c.go cs with
    |none=>rfl
    |some x=>
     obtain ⟨rs,fs⟩:=x
     simp only [qz]
     cases (lz c.keeps (b+100) b c.modes xs cs fs).run s2 with
     |none=>rfl
     |some y=>simp only [qz]
end
def outK (f:Fn) (o:Option (Out×St)):Option (List CV×List CV):=
 match o with
 |some (.ext _,_)=>none
 |some (_,s)=>((exd f).run s).map (·.1)
 |none=>none
@[go_sem] theorem out_ret {f:Fn} {s:St}:outK f (some (.ret,s))=((exd f).run s).map (·.1):=rfl
@[go_sem] theorem out_nrm {f:Fn} {s:St}:outK f (some (.nrm,s))=((exd f).run s).map (·.1):=rfl
def inK (Φ:Nat→Option Callee) (N:Nat) (f:Fn) (o:Option ((List TV×Nat)×St)):Option (List CV×List CV):=
 match o with
 |some ((vs,b),s)=>outK f (goN Φ N [.c f.body] ((List.range vs.length).zip vs++uzc 0 f.modes vs) s.nodes (b+1))
 |none=>none
def zqg:Nat→List TV→eqc
 |_,[]=> []
 |k,v::vs=>(k,v)::zqg (k+1) vs
@[go_sem] theorem uqm {k:Nat}:zqg k []= []:=rfl
@[go_sem] theorem nql {k:Nat} {v:TV} {vs:List TV}:zqg k (v::vs)=(k,v)::zqg (k+1) vs:=rfl
theorem tji: ∀(vs:List TV) (k:Nat),(List.range' k vs.length).zip vs=zqg k vs
 | [],k=>rfl
 |v::vs,k=>by simp only [List.length_cons,List.range'_succ,List.zip_cons_cons,zqg,tji vs]
@[go_sem] theorem in_some {f:Fn} {vs:List TV} {b:Nat} {s:St}:inK Φ N f (some ((vs,b),s))=outK f (goN Φ N [.c f.body] (zqg 0 vs++uzc 0 f.modes vs) s.nodes (b+1)):=by
  simp only [inK,List.range_eq_range',tji]
theorem sj {f:Fn} {args:List CV} (h:args.length=f.modes.length):fj Φ N f args=inK Φ N f ((yj f.keeps 0 args).run ⟨[],[],0⟩):=by
 unfold fj inK
 rw [if_pos h]
 cases (yj f.keeps 0 args).run ⟨[],[],0⟩ with
 |none=>rfl
 |some p=>
  obtain ⟨⟨vs,b⟩,s⟩:=p
  rfl
def stoN (n:Option Node) (w id o:Nat) (y:TV) (sl:eqc) (nd:hjc) (nx:Nat):Option (Unit×St):=
 match n with
 |some (.bx false cs)=>if y.cells.length=w∧o+w≤cs.length∧y.cells.all TV.one=true then some ((),⟨sl,(id,some (.bx false (cs.take o++y.cells++cs.drop (o+w))))::nd,nx⟩) else none
 |_=>none
theorem nje {w id o:Nat} {y:TV}:(jjc w id o y).run ⟨sl,nd,nx⟩=stoN (bjb nd id) w id o y sl nd nx:=by
 simp only [jjc,qz,stoN,bjb]
 simp only [VM.getN,M.run,St.node]
 cases (look nd id).getD none with
 |none=>rfl
 |some n=>
  cases n with
  |sl _ _ _ _=>rfl
  |bx z cs=>
   cases z with
   |true=>rfl
   |false=>simp only;split<;>rfl
@[go_sem] theorem sto_rf {b w id:Nat} {y:TV}:(storeAt b w (.rf id) y).run ⟨sl,nd,nx⟩=stoN (bjb nd id) w id 0 y sl nd nx:=nje
@[go_sem] theorem sto_ad {b w id o:Nat} {y:TV}:(storeAt b w (.ad id o) y).run ⟨sl,nd,nx⟩=stoN (bjb nd id) w id o y sl nd nx:=nje
@[go_sem] theorem stoN_bx {cs:List TV} {w id o:Nat} {y:TV} (h1:y.cells.length=w) (h2:o+w≤cs.length) (h3:y.cells.all TV.one=true):stoN (some (.bx false cs)) w id o y sl nd nx=
 some ((),⟨sl,(id,some (.bx false (cs.take o++y.cells++cs.drop (o+w))))::nd,nx⟩):=by
  simp [stoN,h1,h2,h3]
def stoX (x:Option PV) (q:Bool) (ver e:Nat) (es:List PV) (ys:List PV×Bool) (b w id i o:Nat):M Unit:=
 match x with
 |some x=>if ys.1.length=w∧o+w≤x.cells.length then
  setN id (some (.sl (q||ys.2) (if ljb ys.1 x o w then ver else b+1) e (es.set i (bq x o ys.1))))
  else .fail
 |none=> .fail
def stoE (n:Option Node) (ys:List PV×Bool) (b w id i o:Nat):M Unit:=
 match n with
 |some (.sl q ver e es)=>stoX es[i]? q ver e es ys b w id i o
 |_=> .fail
theorem cxh {x:PV} {q:Bool} {ver e:Nat} {es:List PV} {ys:List PV×Bool} {b w id i o:Nat} (h1:ys.1.length=w) (h2:o+w≤x.cells.length):stoX (some x) q ver e es ys b w id i o=
 setN id (some (.sl (q||ys.2) (if ljb ys.1 x o w then ver else b+1) e (es.set i (bq x o ys.1)))):=by simp [stoX,h1,h2]
theorem xqj {q:Bool} {ver e:Nat} {es:List PV} {ys:List PV×Bool} {b w id i o:Nat}:stoE (some (.sl q ver e es)) ys b w id i o=stoX es[i]? q ver e es ys b w id i o:=rfl
@[go_sem] theorem yxm {ys:List PV} {x:PV} {o w a c:Nat} (h:ljb ys x o w=true):(if ljb ys x o w=true then a else c)=a:=by simp [h]
theorem wjk {ys:List PV} {x:PV} {o w a c:Nat} (h:ljb ys x o w=false):(if ljb ys x o w=true then a else c)=c:=by simp [h]
@[go_sem] theorem set_a {v:Value} {y:PV}:bq (.a v) 0 [y]=y:=rfl
@[go_sem] theorem set_sl {e:Nat} {es:List PV} {y:PV}:bq (.sl e es) 0 [y]=y:=rfl
@[go_sem] theorem set_fz {e:Nat} {es:List PV} {y:PV}:bq (.fz e es) 0 [y]=y:=rfl
@[go_sem] theorem set_st {cs ys:List PV} {o:Nat}:bq (.st cs) o ys= .st (cs.take o++ys++cs.drop (o+ys.length)):=rfl
theorem cxk {b w id i m o:Nat} {y:TV}:storeAt b w (.ea id i m o) y=(pzd y.cells).bind fun ys=>(getN id).bind fun n=>stoE n ys b w id i o:=by
 rfl
def stiK (id:Nat) (q:Bool) (ver e:Nat):Option (List PV)→M Unit
 |some es1=>setN id (some (.sl q ver e es1))
 |none=> .fail
def stiX (w id:Nat) (q:Bool) (ver e:Nat) (es:List PV) (p:List (Nat×Nat×Nat)) (i m o e':Nat) (es' ys:List PV):Option PV→M Unit
 |some x=>if x.cells.length=m∧ys.length=w∧o+w≤x.cells.length∧ljb ys x o w=true then stiK id q ver e (dput es p (.sl e' (es'.set i (bq x o ys)))) else .fail
 |none=> .fail
def stiD (w id:Nat) (q:Bool) (ver e:Nat) (es:List PV) (p:List (Nat×Nat×Nat)) (i m o:Nat) (ys:List PV):Option (Nat×List PV)→M Unit
 |some (e',es')=>stiX w id q ver e es p i m o e' es' ys es'[i]?
 |none=> .fail
def stiN (w id ver:Nat) (p:List (Nat×Nat×Nat)) (i m o:Nat) (ys:Option (List PV)):Option Node→M Unit
 |some (.sl q ver' e es)=>if ver'=ver then gxd w id q ver e es p i m o (dget es p) ys else .fail
 |_=> .fail
@[go_sem ↓] theorem sto_ei {b w id ver i m o:Nat} {p:List (Nat×Nat×Nat)} {y:TV} {s:St}:M.run (storeAt b w (.ei id ver p i m o) y) s=M.run ((getN id).bind (stiN w id ver p i m o (hxb y.cells))) s:=rfl
@[go_sem ↓] theorem stiN_sl {w id ver e i m o:Nat} {q:Bool} {es ys:List PV} {p:List (Nat×Nat×Nat)} {s:St}:M.run (stiN w id ver p i m o (some ys) (some (.sl q ver e es))) s=M.run (stiD w id q ver e es p i m o ys (dget es p)) s:=by
  simp only [stiN,if_true,gxd]
  cases dget es p with
  |none=>rfl
  |some r=>
   obtain ⟨e',es'⟩:=r
   simp only [stiD]
   cases es'[i]? with
   |none=>rfl
   |some x=>
    simp only [stiX]
    split
    ·cases dput es p _<;>rfl
    ·rfl
@[go_sem ↓] theorem gxk {w id ver e i m o e':Nat} {q:Bool} {es es' ys:List PV} {p:List (Nat×Nat×Nat)} {s:St}:M.run (stiD w id q ver e es p i m o ys (some (e',es'))) s=M.run (stiX w id q ver e es p i m o e' es' ys es'[i]?) s:=rfl
@[go_sem ↓] theorem exk {w id ver e i m o e':Nat} {q:Bool} {es es' ys:List PV} {p:List (Nat×Nat×Nat)} {x:PV} {s:St} (h1:x.cells.length=m) (h2:ys.length=w) (h3:o+w≤x.cells.length) (h4:ljb ys x o w=true):
 M.run (stiX w id q ver e es p i m o e' es' ys (some x)) s=M.run (stiK id q ver e (dput es p (.sl e' (es'.set i (bq x o ys))))) s:=by simp [stiX,h1,h2,h4,h1▸h3]
@[go_sem ↓] theorem fxk {id ver e:Nat} {q:Bool} {es1:List PV} {s:St}:M.run (stiK id q ver e (some es1)) s=M.run (setN id (some (.sl q ver e es1))) s:=rfl
theorem qqh:pzd []= .pure ([],false):=rfl
theorem izh {x:TV} {xs:List TV}:pzd (x::xs)=(toPV x).bind fun y=>(pzd xs).bind fun ys=> .pure (y.1::ys.1,y.2||ys.2):=rfl
theorem tqk {v:Value} (h:one1 v=true):toPV (.a v)= .pure (.a v,false):=by simp [toPV,h]
theorem oqj {e:Nat}:toPV (.nl e)= .pure (.sl e [],false):=rfl
theorem mqj {e:Nat} {es:List PV}:toPV (.sz e es)= .pure (.fz e es,true):=rfl
theorem nqj {id:Nat}:toPV (.rf id)=(getN id).bind fun n=>match n with
 |some (.sl q _ e es)=>(setN id none).bind fun _=> .pure (.sl e es,q)
 |_=> .fail:=rfl
@[go_sem] theorem atom_a {v:Value} (h:one1 v=true):qkc (.a v)=some (.a v):=by simp [qkc,h]
@[go_sem] theorem ixl:hxb []=some []:=rfl
@[go_sem] theorem xjk {v:Value} {xs:List TV} (h:one1 v=true):hxb (.a v::xs)=(hxb xs).map (.a v:: ·):=by
  simp only [hxb,qkc,h,if_true]
  cases hxb xs<;>rfl
theorem bxi {v:Value} (h:one1 v=true):toEl true (.a v)= .pure (.a v,false):=by simp only [toEl,if_true,qkc,h];rfl
theorem vqh {cs:List TV}:toEl true (.st cs)=(liftO (hxb cs)).bind fun ys=> .pure (.st ys,false):=rfl
theorem sqh {cs:List TV}:toEl false (.st cs)=(pzd cs).bind fun ys=> .pure (.st ys.1,ys.2):=rfl
theorem axi {v:Value}:toEl false (.a v)=toPV (.a v):=rfl
theorem uqh {e:Nat}:toEl false (.nl e)=toPV (.nl e):=rfl
theorem tqh {i:Nat}:toEl false (.rf i)=toPV (.rf i):=rfl
theorem rqh {e:Nat} {es:List PV}:toEl false (.sz e es)=toPV (.sz e es):=rfl
@[go_sem] theorem kql:xzf []=true:=rfl
@[go_sem] theorem flatz_v {v:Value} {zs:List ZC}:xzf (.v v::zs)=xzf zs:=rfl
@[go_sem] theorem rqm {e:Nat} {zs:List ZC}:xzf (.nl e::zs)=false:=rfl
@[go_sem] theorem txl {z:ZC}:ijc 1 [z]=z.pv:=rfl
@[go_sem] theorem sxl {z z':ZC} {zs:List ZC} {m:Nat}:ijc (m+2) (z::z'::zs)= .st (z.pv::z'.pv::zs.map ZC.pv):=rfl
@[go_sem] theorem zpv_v {v:Value}:(ZC.v v).pv= .a v:=rfl
@[go_sem] theorem zpv_nl {e:Nat}:(ZC.nl e).pv= .sl e []:=rfl
def apto (n:Option Node) (e id:Nat) (sl:eqc) (nd:hjc) (nx:Nat):Option ((List PV×Bool)×St):=
 match n with
 |some (.sl q _ e' es)=>if e'=e then some ((es,q),⟨sl,(id,none)::nd,nx⟩) else none
 |_=>none
@[go_sem] theorem apto_sl {q:Bool} {ver e id:Nat} {es:List PV}:apto (some (.sl q ver e es)) e id sl nd nx=some ((es,q),⟨sl,(id,none)::nd,nx⟩):=by simp [apto]
@[go_sem] theorem bkm {b e:Nat} {s:St}:(uqd b e (.nl e)).run s=some (([],false),s):=by simp [uqd,M.run]
@[go_sem] theorem akm {b e id:Nat}:(uqd b e (.rf id)).run ⟨sl,nd,nx⟩=apto (bjb nd id) e id sl nd nx:=by
  simp only [uqd,qz,apto,bjb]
  simp only [VM.getN,M.run,St.node]
  cases (look nd id).getD none with
  |none=>rfl
  |some n=>
   cases n with
   |bx _ _=>rfl
   |sl q ver e' es=>simp only;split<;>rfl
def aptI (b e id ver:Nat) (p:List (Nat×Nat×Nat)):Option Node→M (List PV×Bool)
 |some (.sl q ver' e' es)=>if ver'=ver then xxd b e id q e' (dget es p) (dput es p .un) else .fail
 |_=> .fail
@[go_sem] theorem zxm {b e id ver:Nat} {p:List (Nat×Nat×Nat)} {s:St}:(uqd b e (.ri id ver p)).run s=((getN id).bind (aptI b e id ver p)).run s:=rfl
@[go_sem] theorem aptI_sl {b e id ver e':Nat} {q:Bool} {es:List PV} {p:List (Nat×Nat×Nat)} {s:St}:M.run (aptI b e id ver p (some (.sl q ver e' es))) s=M.run (xxd b e id q e' (dget es p) (dput es p .un)) s:=by simp [aptI]
@[go_sem] theorem vqj {b e id e':Nat} {q:Bool} {es es1:List PV} {s:St}:M.run (xxd b e id q e' (some (e,es)) (some es1)) s=some ((es,q),⟨s.slots,(id,some (.sl q (b+51) e' es1))::s.nodes,s.next⟩):=by
  simp only [xxd,if_true]
  rfl
def apof (n:Option Node) (e id:Nat) (sl:eqc) (nd:hjc) (nx:Nat):Option ((List PV×Bool)×St):=
 match n with
 |some (.sl _ _ e' es)=>if e'=e then some ((es.map PV.cpy,false),⟨sl,nd,nx⟩) else none
 |_=>none
@[go_sem] theorem apof_sl {q:Bool} {ver e id:Nat} {es:List PV}:apof (some (.sl q ver e es)) e id sl nd nx=some ((es.map PV.cpy,false),⟨sl,nd,nx⟩):=by simp [apof]
@[go_sem] theorem hkm {e id:Nat}:(ckc e true (.rf id)).run ⟨sl,nd,nx⟩=apto (bjb nd id) e id sl nd nx:=by
  simp only [ckc,qz,apto,bjb]
  simp only [VM.getN,M.run,St.node]
  cases (look nd id).getD none with
  |none=>rfl
  |some n=>
   cases n with
   |bx _ _=>rfl
   |sl q ver e' es=>simp only [if_true];split<;>rfl
@[go_sem] theorem fkm {e id:Nat}:(ckc e false (.rf id)).run ⟨sl,nd,nx⟩=apof (bjb nd id) e id sl nd nx:=by
  simp only [ckc,qz,apof,bjb]
  simp only [VM.getN,M.run,St.node]
  cases (look nd id).getD none with
  |none=>rfl
  |some n=>
   cases n with
   |bx _ _=>rfl
   |sl q ver e' es=>simp only [Bool.false_eq_true,if_false];split<;>rfl
def apel (o:Option (Nat×List PV)) (e:Nat) (s:St):Option ((List PV×Bool)×St):=
 match o with
 |some (e',es)=>if e'=e then some ((es.map PV.cpy,false),s) else none
 |none=>none
@[go_sem] theorem mxl {e:Nat} {es:List PV} {s:St}:apel (some (e,es)) e s=some ((es.map PV.cpy,false),s):=by simp [apel]
theorem sqe {e:Nat} {mv:Bool} {y:TV} {s:St} (h: ∀id,y≠ .rf id):(ckc e mv y).run s=apel (tqb s.nodes y) e s:=by
 have:ckc e mv y=(oxb y).bind fun r=>if r.1=e then .pure (r.2.map PV.cpy,false) else .fail:=by
  cases y<;>first|rfl|exact absurd rfl (h _)
 rw [this]
 simp only [qz,yjd]
 cases tqb s.nodes y with
 |none=>rfl
 |some p=>
  obtain ⟨e',es⟩:=p
  simp only [Option.map_some,apel]
  split<;>rfl
@[go_sem] theorem gkm {e e':Nat} {mv:Bool} {s:St}:(ckc e mv (.nl e')).run s=apel (some (e',[])) e s:=sqe (by simp)
@[go_sem] theorem ckm {e e':Nat} {es:List PV} {mv:Bool} {s:St}:(ckc e mv (.sz e' es)).run s=apel (some (e',es)) e s:=sqe (by simp)
@[go_sem] theorem dkm {e i j k:Nat} {mv:Bool} {s:St}:(ckc e mv (.sb i j k)).run s=apel (szg (bjb s.nodes i) j k) e s:=sqe (by simp)
@[go_sem] theorem ekm {e i j:Nat} {p:List (Nat×Nat×Nat)} {mv:Bool} {s:St}:(ckc e mv (.ri i j p)).run s=apel (xke (bjb s.nodes i) j p) e s:=sqe (by simp)
def app2 (b e by_:Nat) (xs:List PV×Bool) (o:Option ((List PV×Bool)×St)):Option (TV×St):=
 match o with
 |some (ys,s)=>if ojh (xs.1.length+ys.1.length) by_=true then some (.rf b,⟨s.slots,(b,some (.sl (xs.2||ys.2) 0 e (xs.1++ys.1)))::s.nodes,s.next⟩) else none
 |none=>none
def app1 (b e by_:Nat) (mv:Bool) (y:TV) (o:Option ((List PV×Bool)×St)):Option (TV×St):=
 match o with
 |some (xs,s)=>app2 b e by_ xs ((ckc e mv y).run s)
 |none=>none
@[go_sem] theorem lxl {b e by_:Nat} {mv:Bool} {y:TV} {xs:List PV×Bool} {s:St}:app1 b e by_ mv y (some (xs,s))=app2 b e by_ xs ((ckc e mv y).run s):=rfl
@[go_sem] theorem app2_in {b e by_:Nat} {q q':Bool} {xs ys:List PV} {s:St} (h1:xs.length+ys.length≤9223372036854775807) (h2:(xs.length+ys.length)*by_≤140737488355328):app2 b e by_ (xs,q) (some ((ys,q'),s))=
 some (.rf b,⟨s.slots,(b,some (.sl (q||q') 0 e (xs++ys)))::s.nodes,s.next⟩):=by simp [app2,ojh,h1,h2]
@[go_sem] theorem yjk {b e by_:Nat} {mv:Bool} {x y:TV} {s:St}:(zqc b e by_ mv x y).run s=app1 b e by_ mv y ((uqd b e x).run s):=by
  simp only [zqc,qz,app1]
  cases (uqd b e x).run s with
  |none=>rfl
  |some p=>
   obtain ⟨xs,s1⟩:=p
   simp only [app2]
   cases (ckc e mv y).run s1 with
   |none=>rfl
   |some p2=>
    obtain ⟨ys,s2⟩:=p2
    simp only
    split
    ·simp only [qz];rfl
    ·rfl
@[go_sem] theorem cpy_a {v:Value}:(PV.a v).cpy= .a v:=rfl
@[go_sem] theorem exm:List.map PV.cpy []= []:=rfl
theorem bz:maxLen=9223372036854775807:=rfl
@[go_sem] theorem bxm:depth=40:=rfl
attribute [go_sem] uzc
section
variable {z fz q:Bool} {k n b V:Nat}
theorem frz_a {v:Value}:dq z (k+1) n (.a v)= .pure (.a v):=rfl
theorem yjl {e:Nat}:dq z (k+1) n (.nl e)= .pure (.sl true e []):=rfl
theorem tjl {e:Nat} {es:List PV}:dq z (k+1) n (.sz e es)= .pure (.sl true e es):=rfl
theorem ujl {cs:List TV}:dq z (k+1) n (.st cs)=(gq z k cs).bind fun cs'=> .pure (.st cs'):=rfl
theorem aql {f:Nat} {fs cs:List TV}:dq z (k+1) n (.fn f fs cs)=(gq z k fs).bind fun fs'=>(gq z k cs).bind fun cs'=> .pure (.fn f fs' cs'):=rfl
theorem zjl {t:Nat} {v:TV}:dq z (k+1) n (.ic t v)=(dq z k n v).bind fun v'=> .pure (.ic t v'):=rfl
theorem sjl:dq z (k+1) n .un= .pure .un:=rfl
theorem xjl {id:Nat}:dq false (k+1) n (.rf id)=(getN id).bind fun m=>match m with
 |some (.sl q _ e es)=> .pure (.sl true e (if q then es.map PV.thaw else es))
 |some (.bx _ cs)=>(gq false k cs).bind fun cs'=> .pure (.bx true cs')
 |none=> .fail:=rfl
theorem vjl {id lo j:Nat}:dq false (k+1) n (.sb id lo j)=(getN id).bind fun m=>match m with
 |some (.sl q _ e es)=> .pure (.sl true e (if q then ((es.drop lo).take j).map PV.thaw else (es.drop lo).take j))
 |_=> .fail:=rfl
theorem wjl {id ver:Nat} {p:List (Nat×Nat×Nat)}:dq false (k+1) n (.ri id ver p)=(getN id).bind fun m=>match m with
 |some (.sl q ver' _ es)=>if ver'=ver then match dget es p with
  |some (e,es')=> .pure (.sl true e (if q then es'.map PV.thaw else es'))
  |none=> .fail else .fail
 |_=> .fail:=rfl
theorem bql {id o:Nat}:dq false (k+1) n (.ad id o)=(getN id).bind fun m=>match m with
 |some (.bx _ cs)=>if 0<n∧o+n≤cs.length then (gq false k ((cs.drop o).take n)).bind fun cs'=> .pure (.bx true cs') else .fail
 |_=> .fail:=rfl
theorem kki:gq z (k+1) []= .pure []:=rfl
theorem fji {x:TV} {xs:List TV}:gq z (k+1) (x::xs)=(dq z k 0 x).bind fun y=>(gq z k xs).bind fun ys=> .pure (y::ys):=rfl
theorem pk_a {v:Value}:pack fz (k+1) (.a v)= .pure (.a v):=rfl
theorem pk_nl {e:Nat}:pack fz (k+1) (.nl e)= .pure (.sl false e []):=rfl
theorem pk_sz {e:Nat} {es:List PV}:pack true (k+1) (.sz e es)= .pure (.sl true e es):=rfl
theorem pk_st {cs:List TV}:pack fz (k+1) (.st cs)=(wjb fz k cs).bind fun cs'=> .pure (.st cs'):=rfl
theorem pk_fn {f:Nat} {fs cs:List TV}:pack fz (k+1) (.fn f fs cs)=(wjb fz k fs).bind fun fs'=>(wjb fz k cs).bind fun cs'=> .pure (.fn f fs' cs'):=rfl
theorem pk_ic {t:Nat} {v:TV}:pack fz (k+1) (.ic t v)=(pack fz k v).bind fun v'=> .pure (.ic t v'):=rfl
theorem pk_rf {id:Nat}:pack fz (k+1) (.rf id)=(getN id).bind fun m=>match m with
 |some (.sl q _ e es)=>if q&& !fz then .fail else (setN id none).bind fun _=> .pure (.sl false e es)
 |some (.bx z cs)=>if z then .fail else (setN id none).bind fun _=>(wjb fz k cs).bind fun cs'=> .pure (.bx false cs')
 |none=> .pure .un:=rfl
theorem pk_un:pack fz (k+1) .un= .pure .un:=rfl
theorem rxj:wjb fz (k+1) []= .pure []:=rfl
theorem qxi {x:TV} {xs:List TV}:wjb fz (k+1) (x::xs)=(pack fz k x).bind fun y=>(wjb fz k xs).bind fun ys=> .pure (y::ys):=rfl
theorem unp_a {v:Value}:xz q b (.a v)= .pure (.a v,b):=rfl
theorem unp_t {e:Nat} {es:List PV}:xz q b (.sl true e es)= .pure (.sz e es,b):=rfl
theorem unp_f {e:Nat} {es:List PV}:xz q b (.sl false e es)=(setN b (some (.sl q 0 e es))).bind fun _=> .pure (.rf b,b+1):=rfl
theorem lqk {cs:List CV}:xz q b (.bx z cs)=(yj q (b+1) cs).bind fun r=>(setN b (some (.bx z r.1))).bind fun _=> .pure (.rf b,r.2):=rfl
theorem iqk {cs:List CV}:xz q b (.st cs)=(yj q b cs).bind fun r=> .pure (.st r.1,r.2):=rfl
theorem hqk {cs:List CV}:xz q b (.tp cs)=(yj q b cs).bind fun r=> .pure (.tp r.1,r.2):=rfl
theorem kqk {f:Nat} {fs cs:List CV}:xz q b (.fn f fs cs)=(yj q b fs).bind fun p=>(yj q p.2 cs).bind fun r=> .pure (.fn f p.1 r.1,r.2):=rfl
theorem jqk {t:Nat} {v:CV}:xz q b (.ic t v)=(xz q b v).bind fun r=> .pure (.ic t r.1,r.2):=rfl
theorem gqk:xz q b .un= .pure (.un,b):=rfl
theorem dkk {id e0 e:Nat} {es0 es:List PV}:dz q V b (.rf id) (.sl false e0 es0) (.sl false e es)=(getN id).bind fun m=>if m.isNone∧e0=e then (setN id (some (.sl q V e es))).bind fun _=> .pure b else .fail:=rfl
theorem ikk {id:Nat} {cs0 cs:List CV}:dz q V b (.rf id) (.bx false cs0) (.bx false cs)=(getN id).bind fun m=>if m.isNone then (yj q b cs).bind fun r=>(setN id (some (.bx false r.1))).bind fun _=> .pure r.2 else .fail:=rfl
theorem gkk {f f0 f1:Nat} {fs cs:List TV} {fs0 cs0 fs1 cs1:List CV}:dz q V b (.fn f fs cs) (.fn f0 fs0 cs0) (.fn f1 fs1 cs1)=(qj q V b fs fs0 fs1).bind fun b'=>qj q V b' cs cs0 cs1:=rfl
theorem ckk {cs:List TV} {cs0 cs1:List CV}:dz q V b (.st cs) (.st cs0) (.st cs1)=qj q V b cs cs0 cs1:=rfl
theorem fkk {t t0 t1:Nat} {x:TV} {x0 x1:CV}:dz q V b (.ic t x) (.ic t0 x0) (.ic t1 x1)=dz q V b x x0 x1:=rfl
theorem rst_a {v:Value} {c0 c:CV}:dz q V b (.a v) c0 c= .pure b:=by simp only [dz]
theorem ekk {e:Nat} {c0 c:CV}:dz q V b (.nl e) c0 c= .pure b:=by simp only [dz]
theorem bkk {e:Nat} {es:List PV} {c0 c:CV}:dz q V b (.sz e es) c0 c= .pure b:=by simp only [dz]
theorem akk {c0 c:CV}:dz q V b .un c0 c= .pure b:=by simp only [dz]
theorem ld0_a {v:Value}:xjc q (.a v)=pack q depth (.a v):=rfl
theorem kjl {e:Nat}:xjc q (.nl e)=pack q depth (.nl e):=rfl
theorem jjl {id:Nat}:xjc q (.rf id)=pack q depth (.rf id):=rfl
theorem ijl {id ver:Nat} {p:List (Nat×Nat×Nat)}:xjc q (.ri id ver p)= .pure .un:=rfl
theorem fjl {e:Nat} {es:List PV}:xjc q (.sz e es)=pack q depth (.sz e es):=rfl
theorem gjl {cs:List TV}:xjc q (.st cs)=pack q depth (.st cs):=rfl
theorem mjl {f:Nat} {fs cs:List TV}:xjc q (.fn f fs cs)=pack q depth (.fn f fs cs):=rfl
theorem ljl {t:Nat} {v:TV}:xjc q (.ic t v)=pack q depth (.ic t v):=rfl
theorem ejl:xjc q .un=pack q depth .un:=rfl
theorem ld1_a {v:Value} {y:CV}:gjc q V (.a v) y= .pure y:=rfl
theorem zzl {e:Nat} {y:CV}:gjc q V (.nl e) y= .pure y:=rfl
theorem yzl {id:Nat} {y:CV}:gjc q V (.rf id) y= .pure y:=rfl
theorem vzl {e:Nat} {es:List PV} {y:CV}:gjc q V (.sz e es) y= .pure y:=rfl
theorem wzl {cs:List TV} {y:CV}:gjc q V (.st cs) y= .pure y:=rfl
theorem bjl {f:Nat} {fs cs:List TV} {y:CV}:gjc q V (.fn f fs cs) y= .pure y:=rfl
theorem ajl {t:Nat} {v:TV} {y:CV}:gjc q V (.ic t v) y= .pure y:=rfl
theorem uzl {y:CV}:gjc q V .un y= .pure y:=rfl
def azf (id V e:Nat) (q:Bool) (r:Option (Nat×List PV)) (es1:Option (List PV)):M CV:=
 match r,es1 with
 |some r,some es1=>(setN id (some (.sl q V e es1))).bind fun _=> .pure (.sl false r.1 r.2)
 |_,_=> .fail
theorem vki {id e e':Nat} {es' es1:List PV}:azf id V e q (some (e',es')) (some es1)=(setN id (some (.sl q V e es1))).bind fun _=> .pure (.sl false e' es'):=rfl
def ld1B (keeps:Bool) (V id ver:Nat) (p:List (Nat×Nat×Nat)):Option Node→M CV
 |some (.sl q ver' e es)=>if (q&& !keeps)=true∨ver'≠ver then .fail else azf id V e q (dget es p) (dput es p .un)
 |_=> .fail
theorem djl {keeps:Bool} {id ver e:Nat} {p:List (Nat×Nat×Nat)} {es:List PV}:ld1B keeps V id ver p (some (.sl false ver e es))=azf id V e false (dget es p) (dput es p .un):=by simp [ld1B]
theorem cjl {id ver e:Nat} {p:List (Nat×Nat×Nat)} {es:List PV}:ld1B true V id ver p (some (.sl q ver e es))=azf id V e q (dget es p) (dput es p .un):=by simp [ld1B]
theorem xzl {id ver:Nat} {p:List (Nat×Nat×Nat)} {y:CV}:gjc q V (.ri id ver p) y=(getN id).bind (ld1B q V id ver p):=by
 simp only [gjc]
 congr 1
theorem bk_a {v:Value} {c f:CV}:dzc q V b (.a v) c f=dz q V b (.a v) c f:=rfl
theorem bk_nl {e:Nat} {c f:CV}:dzc q V b (.nl e) c f=dz q V b (.nl e) c f:=rfl
theorem bk_rf {id:Nat} {c f:CV}:dzc q V b (.rf id) c f=dz q V b (.rf id) c f:=rfl
theorem bk_sz {e:Nat} {es:List PV} {c f:CV}:dzc q V b (.sz e es) c f=dz q V b (.sz e es) c f:=rfl
theorem bk_st {cs:List TV} {c f:CV}:dzc q V b (.st cs) c f=dz q V b (.st cs) c f:=rfl
theorem bk_fn {g:Nat} {fs cs:List TV} {c f:CV}:dzc q V b (.fn g fs cs) c f=dz q V b (.fn g fs cs) c f:=rfl
theorem bk_ic {t:Nat} {v:TV} {c f:CV}:dzc q V b (.ic t v) c f=dz q V b (.ic t v) c f:=rfl
theorem bk_un {c f:CV}:dzc q V b .un c f=dz q V b .un c f:=rfl
def qji (id ver e b:Nat) (q:Bool) (c:Option PV) (es1:Option (List PV)):M Nat:=
 match c,es1 with
 |some .un,some es1=>(setN id (some (.sl q ver e es1))).bind fun _=> .pure b
 |_,_=> .fail
theorem wkj {id ver e:Nat} {es1:List PV}:qji id ver e b q (some .un) (some es1)=(setN id (some (.sl q ver e es1))).bind fun _=> .pure b:=rfl
def bkB (q:Bool) (b id:Nat) (p:List (Nat×Nat×Nat)) (e':Nat) (es':List PV):Option Node→M Nat
 |some (.sl q0 ver e es)=>qji id ver e b (q0||q) (dat es p) (dput es p (.sl e' es'))
 |_=> .fail
theorem cxl {q0:Bool} {id ver e e':Nat} {p:List (Nat×Nat×Nat)} {es es':List PV}:bkB q b id p e' es' (some (.sl q0 ver e es))=qji id ver e b (q0||q) (dat es p) (dput es p (.sl e' es')):=rfl
theorem bk_ri {id ver e':Nat} {p:List (Nat×Nat×Nat)} {es':List PV} {c:CV}:dzc q V b (.ri id ver p) c (.sl false e' es')=(getN id).bind (bkB q b id p e' es'):=by
 simp only [dzc]
 congr 1
def dgC:Option PV→Option (Nat×List PV)
 |some (.sl e es)=>some (e,es)
 |_=>none
def dgK (m o:Nat):Option PV→Option (Nat×List PV)
 |some x=>if x.cells.length=m then dgC x.cells[o]? else none
 |none=>none
def dgN (p:List (Nat×Nat×Nat)):Option (Nat×List PV)→Option (Nat×List PV)
 |some (_,es)=>dget es p
 |none=>none
@[go_sem] theorem dgC_sl {e:Nat} {es:List PV}:dgC (some (.sl e es))=some (e,es):=rfl
@[go_sem] theorem axm {m o:Nat} {x:PV} (h:x.cells.length=m):dgK m o (some x)=dgC x.cells[o]? :=by simp [dgK,h]
@[go_sem] theorem zqm {p:List (Nat×Nat×Nat)} {e:Nat} {es:List PV}:dgN p (some (e,es))=dget es p:=rfl
@[go_sem] theorem dget_1 {es:List PV} {i m o:Nat}:dget es [(i,m,o)]=dgK m o es[i]? :=by
  simp only [dget]
  cases es[i]? with
  |none=>rfl
  |some x=>
   simp only [dgK]
   split
   ·cases x.cells[o]? with
    |none=>rfl
    |some c=>cases c<;>rfl
   ·rfl
@[go_sem] theorem dget_2 {es:List PV} {i m o:Nat} {q:Nat×Nat×Nat} {p:List (Nat×Nat×Nat)}:dget es ((i,m,o)::q::p)=dgN (q::p) (dgK m o es[i]?):=by
  rw [dget]
  cases es[i]? with
  |none=>rfl
  |some x=>
   simp only [dgK]
   split
   ·cases x.cells[o]? with
    |none=>rfl
    |some c=>cases c<;>rfl
   ·rfl
def dpK (es:List PV) (i m o:Nat) (c:PV):Option PV→Option (List PV)
 |some x=>if x.cells.length=m∧o<m then some (es.set i (bq x o [c])) else none
 |none=>none
@[go_sem] theorem yqm {es:List PV} {i m o:Nat} {c x:PV} (h:x.cells.length=m) (ho:o<m):dpK es i m o c (some x)=some (es.set i (bq x o [c])):=by simp [dpK,h,ho]
@[go_sem] theorem dput_1 {es:List PV} {i m o:Nat} {c:PV}:dput es [(i,m,o)] c=dpK es i m o c es[i]? :=by
  simp only [dput]
  cases es[i]? with
  |none=>rfl
  |some x=>
   simp only [dpK]
   by_cases h:x.cells.length=m
   ·rw [if_pos h]
    by_cases ho:o<m
    ·rw [List.getElem?_eq_getElem (h▸ho),if_pos ⟨h,ho⟩]
    ·rw [List.getElem?_eq_none (by omega),if_neg (fun x=>ho x.2)]
   ·rw [if_neg h,if_neg (fun x=>h x.1)]
def daK (m o:Nat):Option PV→Option PV
 |some x=>if x.cells.length=m then x.cells[o]? else none
 |none=>none
@[go_sem] theorem cxm {m o:Nat} {x:PV} (h:x.cells.length=m):daK m o (some x)=x.cells[o]? :=by simp [daK,h]
@[go_sem] theorem dat_1 {es:List PV} {i m o:Nat}:dat es [(i,m,o)]=daK m o es[i]? :=by
  simp only [dat]
  cases es[i]? with
  |none=>rfl
  |some x=>
   simp only [daK]
   split
   ·cases x.cells[o]? <;>rfl
   ·rfl
end
end
end Go.Proofs.YtjdcidigbbbckaaDoor.VM.Sy
namespace Go.Proofs.YtjdcidigbbbckaaDoor.VM.Sy
open Go
section
variable {Φ:Nat→Option Callee} {N:Nat} {r:List It} {sl:eqc} {nd:hjc} {nx:Nat}
variable {z fz q:Bool} {k n b V:Nat}
@[go_sem ↓] theorem yzm {b d e by_:Nat} {zs:List ZC} {n:Int} (h0:0≤n) (h1:n*by_≤140737488355328) (h2:n≤9223372036854775807) {s:St}:M.run (mksM b d e by_ zs (.a (.int .i64 n))) s=M.run ((setN b (some (.sl false 0 e (List.replicate n.toNat (ijc zs.length zs))))).bind fun _=>setS d (.rf b)) s:=by rw [kzl h0 h1 h2]<;>rfl
@[go_sem ↓] theorem axl {flat q:Bool} {m:Nat} {es:List PV} {s:St}:M.run (bslM flat m [] q es) s=M.run (.pure (es,q)) s:=by rw [fzk]<;>rfl
@[go_sem ↓] theorem rjk {flat q:Bool} {m i:Nat} {x:Opd} {ps:List (Nat×Opd)} {es:List PV} {s:St}:M.run (bslM flat m ((i,x)::ps) q es) s=M.run ((opd x).bind fun v=>(toEl flat v).bind fun y=>bslK flat q m i y ps es) s:=by rw [yki]<;>rfl
@[go_sem ↓] theorem sxm {flat q:Bool} {m i:Nat} {y:PV×Bool} {ps:List (Nat×Opd)} {es:List PV} (h1:y.1.cells.length=m) (h2:i<es.length) {s:St}:M.run (bslK flat q m i y ps es) s=M.run (bslM flat m ps (q||y.2) (es.set i y.1)) s:=by rw [bxl h1 h2]<;>rfl
@[go_sem ↓] theorem jzl {d:Nat} {v:TV} {z:Bool} {cs:List TV} {s:St}:M.run (nilB d v (some (.bx z cs))) s=M.run (setS d v) s:=by rw [yxj]<;>rfl
@[go_sem ↓] theorem izl {d:Nat} {v:TV} {q:Bool} {ver e:Nat} {es:List PV} {s:St}:M.run (nilE d v (some (.sl q ver e es))) s=M.run (setS d v) s:=by rw [xxj]<;>rfl
@[go_sem ↓] theorem szm {d id:Nat} {s:St}:M.run (nilM d (.rf id)) s=M.run ((getN id).bind (nilB d (.rf id))) s:=by rw [czl]<;>rfl
@[go_sem ↓] theorem xzm {d id o:Nat} {s:St}:M.run (nilM d (.ad id o)) s=M.run (setS d (.ad id o)) s:=by rw [hzl]<;>rfl
@[go_sem ↓] theorem wzm {d id i m o:Nat} {s:St}:M.run (nilM d (.ea id i m o)) s=M.run ((getN id).bind (nilE d (.ea id i m o))) s:=by rw [gzl]<;>rfl
@[go_sem ↓] theorem vzm {d o:Nat} {cs:List PV} {s:St}:M.run (nilM d (.ez cs o)) s=M.run (setS d (.ez cs o)) s:=by rw [fzl]<;>rfl
@[go_sem ↓] theorem uzm {d f:Nat} {fs cs:List TV} {s:St}:M.run (nilM d (.fn f fs cs)) s=M.run (setS d (.fn f fs cs)) s:=by rw [ezl]<;>rfl
@[go_sem ↓] theorem tzm {d t:Nat} {v:TV} {s:St}:M.run (nilM d (.ic t v)) s=M.run (setS d (.ic t v)) s:=by rw [dzl]<;>rfl
@[go_sem ↓] theorem lkk {top b:Nat} {rs:List CV} (h:b≤top) {s:St}:M.run (resS top b rs) s=M.run ((liftO (kjc rs)).bind fun ts=>M.pure (uzd ts)) s:=by rw [fxj h]<;>rfl
@[go_sem ↓] theorem kkk {top:Nat} {r:List TV×Nat} (h:r.2≤top) {s:St}:M.run (resT top r) s=M.run (.pure (uzd r.1)) s:=by rw [exj h]<;>rfl
@[go_sem ↓] theorem lxi {q:Bool} {top b:Nat} {rs:List CV} {s:St}:M.run (jqb q top b rs) s=M.run ((yj q b rs).bind (resT top)) s:=by rw [tjg]<;>rfl
@[go_sem ↓] theorem oxj {d:Nat} {v:TV} {s:St}:M.run (putO (some d) v) s=M.run (setS d v) s:=by rw [akh]<;>rfl
@[go_sem ↓] theorem pxj {v:TV} {s:St}:M.run (putO none v) s=M.run (.pure ()) s:=by rw [bkh]<;>rfl
@[go_sem ↓] theorem wqj {x:PV} {q:Bool} {ver e:Nat} {es:List PV} {ys:List PV×Bool} {b w id i o:Nat} (h1:ys.1.length=w) (h2:o+w≤x.cells.length) {s:St}:M.run (stoX (some x) q ver e es ys b w id i o) s=M.run (setN id (some (.sl (q||ys.2) (if ljb ys.1 x o w then ver else b+1) e (es.set i (bq x o ys.1))))) s:=by rw [cxh h1 h2]<;>rfl
@[go_sem ↓] theorem dxk {q:Bool} {ver e:Nat} {es:List PV} {ys:List PV×Bool} {b w id i o:Nat} {s:St}:M.run (stoE (some (.sl q ver e es)) ys b w id i o) s=M.run (stoX es[i]? q ver e es ys b w id i o) s:=by rw [xqj]<;>rfl
@[go_sem ↓] theorem rkl {b w id i m o:Nat} {y:TV} {s:St}:M.run (storeAt b w (.ea id i m o) y) s=M.run ((pzd y.cells).bind fun ys=>(getN id).bind fun n=>stoE n ys b w id i o) s:=by rw [cxk]<;>rfl
@[go_sem ↓] theorem lqj {s:St}:M.run (pzd []) s=M.run (.pure ([],false)) s:=by rw [qqh]<;>rfl
@[go_sem ↓] theorem szj {x:TV} {xs:List TV} {s:St}:M.run (pzd (x::xs)) s=M.run ((toPV x).bind fun y=>(pzd xs).bind fun ys=> .pure (y.1::ys.1,y.2||ys.2)) s:=by rw [izh]<;>rfl
@[go_sem ↓] theorem okl {v:Value} (h:one1 v=true) {s:St}:M.run (toPV (.a v)) s=M.run (.pure (.a v,false)) s:=by rw [tqk h]<;>rfl
@[go_sem ↓] theorem sqk {e:Nat} {s:St}:M.run (toPV (.nl e)) s=M.run (.pure (.sl e [],false)) s:=by rw [oqj]<;>rfl
@[go_sem ↓] theorem qqk {e:Nat} {es:List PV} {s:St}:M.run (toPV (.sz e es)) s=M.run (.pure (.fz e es,true)) s:=by rw [mqj]<;>rfl
@[go_sem ↓] theorem szk {v:Value} (h:one1 v=true) {s:St}:M.run (toEl true (.a v)) s=M.run (.pure (.a v,false)) s:=by rw [bxi h]<;>rfl
@[go_sem ↓] theorem tqj {cs:List TV} {s:St}:M.run (toEl true (.st cs)) s=M.run ((liftO (hxb cs)).bind fun ys=> .pure (.st ys,false)) s:=by rw [vqh]<;>rfl
@[go_sem ↓] theorem qqj {cs:List TV} {s:St}:M.run (toEl false (.st cs)) s=M.run ((pzd cs).bind fun ys=> .pure (.st ys.1,ys.2)) s:=by rw [sqh]<;>rfl
@[go_sem ↓] theorem rzk {v:Value} {s:St}:M.run (toEl false (.a v)) s=M.run (toPV (.a v)) s:=by rw [axi]<;>rfl
@[go_sem ↓] theorem sqj {e:Nat} {s:St}:M.run (toEl false (.nl e)) s=M.run (toPV (.nl e)) s:=by rw [uqh]<;>rfl
@[go_sem ↓] theorem rqj {i:Nat} {s:St}:M.run (toEl false (.rf i)) s=M.run (toPV (.rf i)) s:=by rw [tqh]<;>rfl
@[go_sem ↓] theorem pqj {e:Nat} {es:List PV} {s:St}:M.run (toEl false (.sz e es)) s=M.run (toPV (.sz e es)) s:=by rw [rqh]<;>rfl
@[go_sem ↓] theorem frz_a_r {v:Value} {s:St}:M.run (dq z (k+1) n (.a v)) s=M.run (.pure (.a v)) s:=by rw [frz_a]<;>rfl
@[go_sem ↓] theorem nqm {e:Nat} {s:St}:M.run (dq z (k+1) n (.nl e)) s=M.run (.pure (.sl true e [])) s:=by rw [yjl]<;>rfl
@[go_sem ↓] theorem iqm {e:Nat} {es:List PV} {s:St}:M.run (dq z (k+1) n (.sz e es)) s=M.run (.pure (.sl true e es)) s:=by rw [tjl]<;>rfl
@[go_sem ↓] theorem jqm {cs:List TV} {s:St}:M.run (dq z (k+1) n (.st cs)) s=M.run ((gq z k cs).bind fun cs'=> .pure (.st cs')) s:=by rw [ujl]<;>rfl
@[go_sem ↓] theorem pqm {f:Nat} {fs cs:List TV} {s:St}:M.run (dq z (k+1) n (.fn f fs cs)) s=M.run ((gq z k fs).bind fun fs'=>(gq z k cs).bind fun cs'=> .pure (.fn f fs' cs')) s:=by rw [aql]<;>rfl
@[go_sem ↓] theorem oqm {t:Nat} {v:TV} {s:St}:M.run (dq z (k+1) n (.ic t v)) s=M.run ((dq z k n v).bind fun v'=> .pure (.ic t v')) s:=by rw [zjl]<;>rfl
@[go_sem ↓] theorem hqm {s:St}:M.run (dq z (k+1) n .un) s=M.run (.pure .un) s:=by rw [sjl]<;>rfl
@[go_sem ↓] theorem ljk {s:St}:M.run (gq z (k+1) []) s=M.run (.pure []) s:=by rw [kki]<;>rfl
@[go_sem ↓] theorem nkj {x:TV} {xs:List TV} {s:St}:M.run (gq z (k+1) (x::xs)) s=M.run ((dq z k 0 x).bind fun y=>(gq z k xs).bind fun ys=> .pure (y::ys)) s:=by rw [fji]<;>rfl
@[go_sem ↓] theorem pk_a_r {v:Value} {s:St}:M.run (pack fz (k+1) (.a v)) s=M.run (.pure (.a v)) s:=by rw [pk_a]<;>rfl
@[go_sem ↓] theorem pk_nl_r {e:Nat} {s:St}:M.run (pack fz (k+1) (.nl e)) s=M.run (.pure (.sl false e [])) s:=by rw [pk_nl]<;>rfl
@[go_sem ↓] theorem pk_sz_r {e:Nat} {es:List PV} {s:St}:M.run (pack true (k+1) (.sz e es)) s=M.run (.pure (.sl true e es)) s:=by rw [pk_sz]<;>rfl
@[go_sem ↓] theorem pk_st_r {cs:List TV} {s:St}:M.run (pack fz (k+1) (.st cs)) s=M.run ((wjb fz k cs).bind fun cs'=> .pure (.st cs')) s:=by rw [pk_st]<;>rfl
@[go_sem ↓] theorem pk_fn_r {f:Nat} {fs cs:List TV} {s:St}:M.run (pack fz (k+1) (.fn f fs cs)) s=M.run ((wjb fz k fs).bind fun fs'=>(wjb fz k cs).bind fun cs'=> .pure (.fn f fs' cs')) s:=by rw [pk_fn]<;>rfl
@[go_sem ↓] theorem pk_ic_r {t:Nat} {v:TV} {s:St}:M.run (pack fz (k+1) (.ic t v)) s=M.run ((pack fz k v).bind fun v'=> .pure (.ic t v')) s:=by rw [pk_ic]<;>rfl
@[go_sem ↓] theorem pk_un_r {s:St}:M.run (pack fz (k+1) .un) s=M.run (.pure .un) s:=by rw [pk_un]<;>rfl
@[go_sem ↓] theorem rkk {s:St}:M.run (wjb fz (k+1) []) s=M.run (.pure []) s:=by rw [rxj]<;>rfl
@[go_sem ↓] theorem zzk {x:TV} {xs:List TV} {s:St}:M.run (wjb fz (k+1) (x::xs)) s=M.run ((pack fz k x).bind fun y=>(wjb fz k xs).bind fun ys=> .pure (y::ys)) s:=by rw [qxi]<;>rfl
@[go_sem ↓] theorem unp_a_r {v:Value} {s:St}:M.run (xz q b (.a v)) s=M.run (.pure (.a v,b)) s:=by rw [unp_a]<;>rfl
@[go_sem ↓] theorem unp_t_r {e:Nat} {es:List PV} {s:St}:M.run (xz q b (.sl true e es)) s=M.run (.pure (.sz e es,b)) s:=by rw [unp_t]<;>rfl
@[go_sem ↓] theorem unp_f_r {e:Nat} {es:List PV} {s:St}:M.run (xz q b (.sl false e es)) s=M.run ((setN b (some (.sl q 0 e es))).bind fun _=> .pure (.rf b,b+1)) s:=by rw [unp_f]<;>rfl
@[go_sem ↓] theorem jkl {cs:List CV} {s:St}:M.run (xz q b (.bx z cs)) s=M.run ((yj q (b+1) cs).bind fun r=>(setN b (some (.bx z r.1))).bind fun _=> .pure (.rf b,r.2)) s:=by rw [lqk]<;>rfl
@[go_sem ↓] theorem fkl {cs:List CV} {s:St}:M.run (xz q b (.st cs)) s=M.run ((yj q b cs).bind fun r=> .pure (.st r.1,r.2)) s:=by rw [iqk]<;>rfl
@[go_sem ↓] theorem ekl {cs:List CV} {s:St}:M.run (xz q b (.tp cs)) s=M.run ((yj q b cs).bind fun r=> .pure (.tp r.1,r.2)) s:=by rw [hqk]<;>rfl
@[go_sem ↓] theorem ikl {f:Nat} {fs cs:List CV} {s:St}:M.run (xz q b (.fn f fs cs)) s=M.run ((yj q b fs).bind fun p=>(yj q p.2 cs).bind fun r=> .pure (.fn f p.1 r.1,r.2)) s:=by rw [kqk]<;>rfl
@[go_sem ↓] theorem gkl {t:Nat} {v:CV} {s:St}:M.run (xz q b (.ic t v)) s=M.run ((xz q b v).bind fun r=> .pure (.ic t r.1,r.2)) s:=by rw [jqk]<;>rfl
@[go_sem ↓] theorem dkl {s:St}:M.run (xz q b .un) s=M.run (.pure (.un,b)) s:=by rw [gqk]<;>rfl
@[go_sem ↓] theorem azm {id e0 e:Nat} {es0 es:List PV} {s:St}:M.run (dz q V b (.rf id) (.sl false e0 es0) (.sl false e es)) s=M.run ((getN id).bind fun m=>if m.isNone∧e0=e then (setN id (some (.sl q V e es))).bind fun _=> .pure b else .fail) s:=by rw [dkk]<;>rfl
@[go_sem ↓] theorem fzm {id:Nat} {cs0 cs:List CV} {s:St}:M.run (dz q V b (.rf id) (.bx false cs0) (.bx false cs)) s=M.run ((getN id).bind fun m=>if m.isNone then (yj q b cs).bind fun r=>(setN id (some (.bx false r.1))).bind fun _=> .pure r.2 else .fail) s:=by rw [ikk]<;>rfl
@[go_sem ↓] theorem ezm {f f0 f1:Nat} {fs cs:List TV} {fs0 cs0 fs1 cs1:List CV} {s:St}:M.run (dz q V b (.fn f fs cs) (.fn f0 fs0 cs0) (.fn f1 fs1 cs1)) s=M.run ((qj q V b fs fs0 fs1).bind fun b'=>qj q V b' cs cs0 cs1) s:=by rw [gkk]<;>rfl
@[go_sem ↓] theorem zkl {cs:List TV} {cs0 cs1:List CV} {s:St}:M.run (dz q V b (.st cs) (.st cs0) (.st cs1)) s=M.run (qj q V b cs cs0 cs1) s:=by rw [ckk]<;>rfl
@[go_sem ↓] theorem czm {t t0 t1:Nat} {x:TV} {x0 x1:CV} {s:St}:M.run (dz q V b (.ic t x) (.ic t0 x0) (.ic t1 x1)) s=M.run (dz q V b x x0 x1) s:=by rw [fkk]<;>rfl
@[go_sem ↓] theorem rst_a_r {v:Value} {c0 c:CV} {s:St}:M.run (dz q V b (.a v) c0 c) s=M.run (.pure b) s:=by rw [rst_a]<;>rfl
@[go_sem ↓] theorem bzm {e:Nat} {c0 c:CV} {s:St}:M.run (dz q V b (.nl e) c0 c) s=M.run (.pure b) s:=by rw [ekk]<;>rfl
@[go_sem ↓] theorem ykl {e:Nat} {es:List PV} {c0 c:CV} {s:St}:M.run (dz q V b (.sz e es) c0 c) s=M.run (.pure b) s:=by rw [bkk]<;>rfl
@[go_sem ↓] theorem xkl {c0 c:CV} {s:St}:M.run (dz q V b .un c0 c) s=M.run (.pure b) s:=by rw [akk]<;>rfl
@[go_sem ↓] theorem ld0_a_r {v:Value} {s:St}:M.run (xjc q (.a v)) s=M.run (pack q 40 (.a v)) s:=by rw [ld0_a]<;>rfl
@[go_sem ↓] theorem aqm {e:Nat} {s:St}:M.run (xjc q (.nl e)) s=M.run (pack q 40 (.nl e)) s:=by rw [kjl]<;>rfl
@[go_sem ↓] theorem zjm {id:Nat} {s:St}:M.run (xjc q (.rf id)) s=M.run (pack q 40 (.rf id)) s:=by rw [jjl]<;>rfl
@[go_sem ↓] theorem yjm {id ver:Nat} {p:List (Nat×Nat×Nat)} {s:St}:M.run (xjc q (.ri id ver p)) s=M.run (.pure .un) s:=by rw [ijl]<;>rfl
@[go_sem ↓] theorem wjm {e:Nat} {es:List PV} {s:St}:M.run (xjc q (.sz e es)) s=M.run (pack q 40 (.sz e es)) s:=by rw [fjl]<;>rfl
@[go_sem ↓] theorem xjm {cs:List TV} {s:St}:M.run (xjc q (.st cs)) s=M.run (pack q 40 (.st cs)) s:=by rw [gjl]<;>rfl
@[go_sem ↓] theorem cqm {f:Nat} {fs cs:List TV} {s:St}:M.run (xjc q (.fn f fs cs)) s=M.run (pack q 40 (.fn f fs cs)) s:=by rw [mjl]<;>rfl
@[go_sem ↓] theorem bqm {t:Nat} {v:TV} {s:St}:M.run (xjc q (.ic t v)) s=M.run (pack q 40 (.ic t v)) s:=by rw [ljl]<;>rfl
@[go_sem ↓] theorem vjm {s:St}:M.run (xjc q .un) s=M.run (pack q 40 .un) s:=by rw [ejl]<;>rfl
@[go_sem ↓] theorem ld1_a_r {v:Value} {y:CV} {s:St}:M.run (gjc q V (.a v) y) s=M.run (.pure y) s:=by rw [ld1_a]<;>rfl
@[go_sem ↓] theorem qjm {e:Nat} {y:CV} {s:St}:M.run (gjc q V (.nl e) y) s=M.run (.pure y) s:=by rw [zzl]<;>rfl
@[go_sem ↓] theorem pjm {id:Nat} {y:CV} {s:St}:M.run (gjc q V (.rf id) y) s=M.run (.pure y) s:=by rw [yzl]<;>rfl
@[go_sem ↓] theorem mjm {e:Nat} {es:List PV} {y:CV} {s:St}:M.run (gjc q V (.sz e es) y) s=M.run (.pure y) s:=by rw [vzl]<;>rfl
@[go_sem ↓] theorem njm {cs:List TV} {y:CV} {s:St}:M.run (gjc q V (.st cs) y) s=M.run (.pure y) s:=by rw [wzl]<;>rfl
@[go_sem ↓] theorem sjm {f:Nat} {fs cs:List TV} {y:CV} {s:St}:M.run (gjc q V (.fn f fs cs) y) s=M.run (.pure y) s:=by rw [bjl]<;>rfl
@[go_sem ↓] theorem rjm {t:Nat} {v:TV} {y:CV} {s:St}:M.run (gjc q V (.ic t v) y) s=M.run (.pure y) s:=by rw [ajl]<;>rfl
@[go_sem ↓] theorem ljm {y:CV} {s:St}:M.run (gjc q V .un y) s=M.run (.pure y) s:=by rw [uzl]<;>rfl
@[go_sem ↓] theorem ojk {id e e':Nat} {es' es1:List PV} {s:St}:M.run (azf id V e q (some (e',es')) (some es1)) s=M.run ((setN id (some (.sl q V e es1))).bind fun _=> .pure (.sl false e' es')) s:=by rw [vki]<;>rfl
@[go_sem ↓] theorem ujm {keeps:Bool} {id ver e:Nat} {p:List (Nat×Nat×Nat)} {es:List PV} {s:St}:M.run (ld1B keeps V id ver p (some (.sl false ver e es))) s=M.run (azf id V e false (dget es p) (dput es p .un)) s:=by rw [djl]<;>rfl
@[go_sem ↓] theorem tjm {id ver e:Nat} {p:List (Nat×Nat×Nat)} {es:List PV} {s:St}:M.run (ld1B true V id ver p (some (.sl q ver e es))) s=M.run (azf id V e q (dget es p) (dput es p .un)) s:=by rw [cjl]<;>rfl
@[go_sem ↓] theorem ojm {id ver:Nat} {p:List (Nat×Nat×Nat)} {y:CV} {s:St}:M.run (gjc q V (.ri id ver p) y) s=M.run ((getN id).bind (ld1B q V id ver p)) s:=by rw [xzl]<;>rfl
@[go_sem ↓] theorem bk_a_r {v:Value} {c f:CV} {s:St}:M.run (dzc q V b (.a v) c f) s=M.run (dz q V b (.a v) c f) s:=by rw [bk_a]<;>rfl
@[go_sem ↓] theorem bk_nl_r {e:Nat} {c f:CV} {s:St}:M.run (dzc q V b (.nl e) c f) s=M.run (dz q V b (.nl e) c f) s:=by rw [bk_nl]<;>rfl
@[go_sem ↓] theorem bk_rf_r {id:Nat} {c f:CV} {s:St}:M.run (dzc q V b (.rf id) c f) s=M.run (dz q V b (.rf id) c f) s:=by rw [bk_rf]<;>rfl
@[go_sem ↓] theorem bk_sz_r {e:Nat} {es:List PV} {c f:CV} {s:St}:M.run (dzc q V b (.sz e es) c f) s=M.run (dz q V b (.sz e es) c f) s:=by rw [bk_sz]<;>rfl
@[go_sem ↓] theorem bk_st_r {cs:List TV} {c f:CV} {s:St}:M.run (dzc q V b (.st cs) c f) s=M.run (dz q V b (.st cs) c f) s:=by rw [bk_st]<;>rfl
@[go_sem ↓] theorem bk_fn_r {g:Nat} {fs cs:List TV} {c f:CV} {s:St}:M.run (dzc q V b (.fn g fs cs) c f) s=M.run (dz q V b (.fn g fs cs) c f) s:=by rw [bk_fn]<;>rfl
@[go_sem ↓] theorem bk_ic_r {t:Nat} {v:TV} {c f:CV} {s:St}:M.run (dzc q V b (.ic t v) c f) s=M.run (dz q V b (.ic t v) c f) s:=by rw [bk_ic]<;>rfl
@[go_sem ↓] theorem bk_un_r {c f:CV} {s:St}:M.run (dzc q V b .un c f) s=M.run (dz q V b .un c f) s:=by rw [bk_un]<;>rfl
@[go_sem ↓] theorem lql {id ver e:Nat} {es1:List PV} {s:St}:M.run (qji id ver e b q (some .un) (some es1)) s=M.run ((setN id (some (.sl q ver e es1))).bind fun _=> .pure b) s:=by rw [wkj]<;>rfl
@[go_sem ↓] theorem uxm {q0:Bool} {id ver e e':Nat} {p:List (Nat×Nat×Nat)} {es es':List PV} {s:St}:M.run (bkB q b id p e' es' (some (.sl q0 ver e es))) s=M.run (qji id ver e b (q0||q) (dat es p) (dput es p (.sl e' es'))) s:=by rw [cxl]<;>rfl
@[go_sem ↓] theorem bk_ri_r {id ver e':Nat} {p:List (Nat×Nat×Nat)} {es':List PV} {c:CV} {s:St}:M.run (dzc q V b (.ri id ver p) c (.sl false e' es')) s=M.run ((getN id).bind (bkB q b id p e' es')) s:=by rw [bk_ri]<;>rfl
end
section
variable {keeps z fz q:Bool} {k n b V j:Nat} {s:St} {ms:List Md} {xs:List TV} {x:TV} {cs fs:List CV} {c f:CV} {y:CV} {ys:List CV}
@[go_sem ↓] theorem cqk:M.run (yj q b []) s=M.run (.pure ([],b)) s:=rfl
@[go_sem ↓] theorem nzk {xs:List CV} {x:CV}:M.run (yj q b (x::xs)) s=M.run ((xz q b x).bind fun r=>(yj q r.2 xs).bind fun p=> .pure (r.1::p.1,p.2)) s:=rfl
@[go_sem ↓] theorem qzl:M.run (lend keeps [] []) s=M.run (.pure []) s:=rfl
@[go_sem ↓] theorem jjm:M.run (lend keeps (.ro n::ms) (x::xs)) s=M.run ((lend keeps ms xs).bind fun ys=> .pure (.un::ys)) s:=rfl
@[go_sem ↓] theorem rzl:M.run (lend keeps (.mut n::ms) (x::xs)) s=M.run ((xjc keeps x).bind fun y=>(lend keeps ms xs).bind fun ys=> .pure (y::ys)) s:=rfl
@[go_sem ↓] theorem lndA_r:M.run (bje keeps V ms xs) s=M.run ((lend keeps ms xs).bind fun ps=>bk keeps V ms xs ps) s:=rfl
@[go_sem ↓] theorem jjk:M.run (bk keeps V [] [] []) s=M.run (.pure []) s:=rfl
@[go_sem ↓] theorem szl:M.run (bk keeps V (.ro n::ms) (x::xs) (y::ys)) s=M.run ((bk keeps V ms xs ys).bind fun ys=> .pure (y::ys)) s:=rfl
@[go_sem ↓] theorem kjk:M.run (bk keeps V (.mut n::ms) (x::xs) (y::ys)) s=M.run ((gjc keeps V x y).bind fun y=>(bk keeps V ms xs ys).bind fun ys=> .pure (y::ys)) s:=rfl
@[go_sem ↓] theorem pxk:M.run (yx keeps [] [] []) s=M.run (.pure []) s:=rfl
@[go_sem ↓] theorem vkl:M.run (yx keeps (.ro n::ms) (x::xs) (y::ys)) s=M.run ((dq keeps 40 n x).bind fun y=>(yx keeps ms xs ys).bind fun ys=> .pure (y::ys)) s:=rfl
@[go_sem ↓] theorem qxk:M.run (yx keeps (.mut n::ms) (x::xs) (y::ys)) s=M.run ((yx keeps ms xs ys).bind fun ys=> .pure (y::ys)) s:=rfl
@[go_sem ↓] theorem vqk:M.run (lz q V b [] [] [] []) s=M.run (.pure b) s:=rfl
@[go_sem ↓] theorem pkl:M.run (lz q V b (.ro n::ms) (x::xs) (c::cs) fs) s=M.run (lz q V b ms xs cs fs) s:=rfl
@[go_sem ↓] theorem wqk:M.run (lz q V b (.mut n::ms) (x::xs) (c::cs) (f::fs)) s=M.run ((dzc q V b x c f).bind fun b'=>lz q V b' ms xs cs fs) s:=rfl
@[go_sem ↓] theorem zxk:M.run (mqc []) s=M.run (.pure []) s:=rfl
@[go_sem ↓] theorem rtv_t_r {rs:List RV}:M.run (mqc (.t n::rs)) s=M.run ((getS n).bind fun v=>(mqc rs).bind fun vs=> .pure (v::vs)) s:=rfl
@[go_sem ↓] theorem rtv_c_r {rs:List RV} {w:Option Nat}:M.run (mqc (.cell n w::rs)) s=M.run ((getS n).bind fun u=>(loadAt w u).bind fun v=>(mqc rs).bind fun vs=> .pure (v::vs)) s:=rfl
@[go_sem ↓] theorem skk:M.run (bkb fz []) s=M.run (.pure []) s:=rfl
@[go_sem ↓] theorem ajk:M.run (bkb fz (x::xs)) s=M.run ((pack fz 40 x).bind fun y=>(bkb fz xs).bind fun ys=> .pure (y::ys)) s:=rfl
@[go_sem ↓] theorem ozl:M.run (lent j []) s=M.run (.pure []) s:=rfl
@[go_sem ↓] theorem ijm:M.run (lent j (.ro n::ms)) s=M.run (lent (j+1) ms) s:=rfl
@[go_sem ↓] theorem pzl:M.run (lent j (.mut n::ms)) s=M.run ((getS (10000+j)).bind fun v=>(lent (j+1) ms).bind fun vs=> .pure (v::vs)) s:=rfl
@[go_sem ↓] theorem xzk {ys0:List CV} {y0:CV}:M.run (qj q V b (x::xs) (y0::ys0) (y::ys)) s=M.run ((dz q V b x y0 y).bind fun b'=>qj q V b' xs ys0 ys) s:=rfl
@[go_sem ↓] theorem jkk {ys0:List CV}:M.run (qj q V b [] ys0 ys) s=M.run (.pure b) s:=by cases ys0<;>cases ys<;>rfl
@[go_sem ↓] theorem tko_r {f:Fn}:M.run (exd f) s=M.run ((mqc f.results).bind fun ts=>(bkb f.keeps ts).bind fun rs=>(lent 0 f.modes).bind fun us=>(bkb f.keeps us).bind fun fs=> .pure (rs,fs)) s:=rfl
def frzB (k:Nat):Option Node→M CV
 |some (.sl q _ e es)=> .pure (.sl true e (if q then es.map PV.thaw else es))
 |some (.bx _ cs)=>(gq false k cs).bind fun cs'=> .pure (.bx true cs')
 |none=> .fail
theorem okj {id:Nat}:dq false (k+1) n (.rf id)=(getN id).bind (frzB k):=by
 rw [xjl];congr 1
@[go_sem ↓] theorem mqm {id:Nat}:M.run (dq false (k+1) n (.rf id)) s=M.run ((getN id).bind (frzB k)) s:=by rw [okj]
@[go_sem ↓] theorem eql {ver e:Nat} {es:List PV}:M.run (frzB k (some (.sl q ver e es))) s=M.run (.pure (.sl true e (if q then es.map PV.thaw else es))) s:=rfl
@[go_sem ↓] theorem fql {cs:List TV}:M.run (frzB k (some (.bx z cs))) s=M.run ((gq false k cs).bind fun cs'=> .pure (.bx true cs')) s:=rfl
def frzS (lo j:Nat):Option Node→M CV
 |some (.sl q _ e es)=> .pure (.sl true e (if q then ((es.drop lo).take j).map PV.thaw else (es.drop lo).take j))
 |_=> .fail
@[go_sem ↓] theorem kqm {id lo:Nat}:M.run (dq false (k+1) n (.sb id lo j)) s=M.run ((getN id).bind (frzS lo j)) s:=by
  rw [vjl];congr 1
@[go_sem ↓] theorem cql {lo ver e:Nat} {es:List PV}:M.run (frzS lo j (some (.sl q ver e es))) s=M.run (.pure (.sl true e (if q then ((es.drop lo).take j).map PV.thaw else (es.drop lo).take j))) s:=rfl
def frzD (q:Bool):Option (Nat×List PV)→M CV
 |some (e,es)=> .pure (.sl true e (if q then es.map PV.thaw else es))
 |none=> .fail
def frzI (ver:Nat) (p:List (Nat×Nat×Nat)):Option Node→M CV
 |some (.sl q ver' _ es)=>if ver'=ver then frzD q (dget es p) else .fail
 |_=> .fail
@[go_sem ↓] theorem lqm {id ver:Nat} {p:List (Nat×Nat×Nat)}:M.run (dq false (k+1) n (.ri id ver p)) s=M.run ((getN id).bind (frzI ver p)) s:=by
  rw [wjl];congr 1
@[go_sem ↓] theorem dql {ver ver' e:Nat} {es:List PV} {p:List (Nat×Nat×Nat)}:M.run (frzI ver p (some (.sl q ver' e es))) s=M.run (if ver'=ver then frzD q (dget es p) else .fail) s:=rfl
@[go_sem] theorem pkj {e:Nat} {es:List PV}:M.run (frzD q (some (e,es))) s=M.run (.pure (.sl true e (if q then es.map PV.thaw else es))) s:=rfl
def frzA (k n o:Nat):Option Node→M CV
 |some (.bx _ cs)=>if 0<n∧o+n≤cs.length then (gq false k ((cs.drop o).take n)).bind fun cs'=> .pure (.bx true cs') else .fail
 |_=> .fail
@[go_sem ↓] theorem qqm {id o:Nat}:M.run (dq false (k+1) n (.ad id o)) s=M.run ((getN id).bind (frzA k n o)) s:=by
  rw [bql];congr 1
@[go_sem ↓] theorem gql {o:Nat} {cs:List TV}:M.run (frzA k n o (some (.bx z cs))) s=M.run (if 0<n∧o+n≤cs.length then (gq false k ((cs.drop o).take n)).bind fun cs'=> .pure (.bx true cs') else .fail) s:=rfl
def pkB (fz:Bool) (k id:Nat):Option Node→M CV
 |some (.sl q _ e es)=>if q&& !fz then .fail else (setN id none).bind fun _=> .pure (.sl false e es)
 |some (.bx z cs)=>if z then .fail else (setN id none).bind fun _=>(wjb fz k cs).bind fun cs'=> .pure (.bx false cs')
 |none=> .pure .un
@[go_sem ↓] theorem pk_rf_r {id:Nat}:M.run (pack fz (k+1) (.rf id)) s=M.run ((getN id).bind (pkB fz k id)) s:=by
  rw [pk_rf];congr 1
@[go_sem ↓] theorem mzm {id ver e:Nat} {es:List PV}:M.run (pkB fz k id (some (.sl q ver e es))) s=M.run (if q&& !fz then .fail else (setN id none).bind fun _=> .pure (.sl false e es)) s:=rfl
@[go_sem ↓] theorem nzm {id:Nat} {cs:List TV}:M.run (pkB fz k id (some (.bx z cs))) s=M.run (if z then .fail else (setN id none).bind fun _=>(wjb fz k cs).bind fun cs'=> .pure (.bx false cs')) s:=rfl
@[go_sem ↓] theorem bjk {id:Nat}:M.run (pkB fz k id none) s=M.run (.pure .un) s:=rfl
def uqk (id:Nat):Option Node→M (PV×Bool)
 |some (.sl q _ e es)=>(setN id none).bind fun _=> .pure (.sl e es,q)
 |_=> .fail
@[go_sem ↓] theorem rqk {id:Nat}:M.run (toPV (.rf id)) s=M.run ((getN id).bind (uqk id)) s:=by
  rw [nqj];congr 1
@[go_sem ↓] theorem qzk {id ver e:Nat} {es:List PV}:M.run (uqk id (some (.sl q ver e es))) s=M.run ((setN id none).bind fun _=> .pure (.sl e es,q)) s:=rfl
end
end Go.Proofs.YtjdcidigbbbckaaDoor.VM.Sy
namespace Go.Proofs.YtjdcidigbbbckaaDoor.VM
open Go
def fuel:Nat:=2^62
theorem fuel_eq:fuel=4611686018427387904:=rfl
theorem sq {n:Nat} (h:n<4611686018427387904):n<fuel:=h
def calF (Φ:Nat→Option Callee) (N:Nat) (v:Fn):Callee:={modes:=v.modes,keeps:=v.keeps,scalar:=v.scalar,go:=fj Φ N v}
def wxd (tab:List (Nat×Fn)) (ext:Nat→Option Callee) (N:Nat):Nat→Nat→Option Callee
 |0,_=>none
 |d+1,f=>match ext f with
  |some c=>some c
  |none=>match look tab f with
   |some v=>some (calF (wxd tab ext N d) N v)
   |none=>none
theorem pqh {tab:List (Nat×Fn)} {ext:Nat→Option Callee} {N d f:Nat} {v:Fn} (h:ext f=none) (ht:look tab f=some v):wxd tab ext N (d+1) f=some (calF (wxd tab ext N d) N v):=by
 simp only [wxd,h,ht]
theorem jkf {tab:List (Nat×Fn)} {ext:Nat→Option Callee} {N d f:Nat} {c:Callee} (h:ext f=some c):wxd tab ext N (d+1) f=some c:=by
 simp only [wxd,h]
theorem ofR {p:Prop} (h:p):p:=h
theorem ofB {m n:Nat} (h:Nat.ble m n=true):m≤n:=Nat.le_of_ble_eq_true h
namespace Sy
def after (live:List Nat):Option (Out×St)→Option (Out×St)
 |some (.nrm,s)=>some (.nrm,norm live s)
 |r=>r
@[go_sem] theorem pxl {live:List Nat} {s:St}:after live (some (.nrm,s))=some (.nrm,norm live s):=rfl
@[go_sem] theorem qxl {live:List Nat} {s:St} {id:Nat}:after live (some (.ext id,s))=some (.ext id,s):=rfl
@[go_sem] theorem oxl {live:List Nat} {s:St}:after live (some (.ret,s))=some (.ret,s):=rfl
def yz (Φ:Nat→Option Callee) (N:Nat) (live:List Nat) (b:VC) (s:St):Option (Out×St):=after live (goN Φ N [.c b] s.slots s.nodes s.next)
section
variable {Φ:Nat→Option Callee} {N:Nat} {live:List Nat} {b:VC} {r:List It}
theorem azg (s:St):yz Φ N live b s=after live (run Φ N b s):=rfl
theorem tqe {live:List Nat} {x:Option (Out×St)} {o:Out} {s:St} (h:after live x=some (o,s)) (ho:o≠ .nrm):x=some (o,s):=by
 cases x with
 |none=>cases h
 |some p=>
  obtain ⟨o',s'⟩:=p
  cases o'<;>simp only [after,Option.some.injEq,Prod.mk.injEq] at h
  ·exact absurd h.1.symm ho
  ·obtain ⟨rfl,rfl⟩:=h;rfl
  ·obtain ⟨rfl,rfl⟩:=h;rfl
theorem fkg (S:Nat→St) (R:Nat→Out×St) {m:Nat} (hN:m<N) (hr: ∀i,i≤m→(R i).1≠ .nrm)
 (step: ∀i,i≤m→(i<m∧yz Φ N live b (S i)=some (.nrm,S (i+1))∧R i=R (i+1))∨yz Φ N live b (S i)=some (R i)):
 goP Φ N live b r (S 0)=goL Φ N r (some (R 0)):=by
 have key: ∀(k i n:Nat),i+k=m→k<n→tzc (run Φ N b) live n (S i)=some (R i):=by
  intro k
  induction k with
  |zero=>
   intro i n hi hn
   obtain ⟨n,rfl⟩: ∃n',n=n'+1:=⟨n - 1,by omega⟩
   rcases step i (by omega) with ⟨h1,_⟩|h
   ·omega
   ·have:=tqe (x:=run Φ N b (S i)) (live:=live) (o:=(R i).1) (s:=(R i).2) h (hr i (by omega))
    simp only [tzc,this]
    have hne:=hr i (by omega)
    generalize hR:R i=p at hne ⊢
    obtain ⟨o,s⟩:=p
    cases o<;>first|rfl|exact absurd rfl hne
  |succ k ih=>
   intro i n hi hn
   obtain ⟨n,rfl⟩: ∃n',n=n'+1:=⟨n - 1,by omega⟩
   rcases step i (by omega) with ⟨h1,h2,h3⟩|h
   ·rw [azg] at h2
    simp only [tzc]
    cases hx:run Φ N b (S i) with
    |none=>rw [hx] at h2;cases h2
    |some p=>
     obtain ⟨o,s⟩:=p
     rw [hx] at h2
     cases o with
     |nrm=>
      simp only [after,Option.some.injEq,Prod.mk.injEq,true_and] at h2
      simp only [h2,h3]
      exact ih (i+1) n (by omega) (by omega)
     |ext id=>simp [after] at h2
     |ret=>simp [after] at h2
   ·have:=tqe (x:=run Φ N b (S i)) (live:=live) (o:=(R i).1) (s:=(R i).2) h (hr i (by omega))
    simp only [tzc,this]
    have hne:=hr i (by omega)
    generalize hR:R i=p at hne ⊢
    obtain ⟨o,s⟩:=p
    cases o<;>first|rfl|exact absurd rfl hne
 unfold goP
 rw [key m 0 N (by omega) hN]
theorem mqe (I:Nat→St→Prop) (E:Out→St→Prop) {m:Nat} (hN:m<N) {s:St} (h0:I m s)
 (step: ∀k s,k≤m→I k s→(∃k' s',k=k'+1∧yz Φ N live b s=some (.nrm,s')∧I k' s')∨ ∃o s',o≠ .nrm∧yz Φ N live b s=some (o,s')∧E o s'):
 ∃o e,E o e∧o≠ .nrm∧goP Φ N live b r s=goL Φ N r (some (o,e)):=by
 have key: ∀(k n:Nat) (s:St),k≤m→k<n→I k s→ ∃o e,E o e∧o≠ .nrm∧tzc (run Φ N b) live n s=some (o,e):=by
  intro k
  induction k with
  |zero=>
   intro n s hk hn hs
   obtain ⟨n,rfl⟩: ∃n',n=n'+1:=⟨n - 1,by omega⟩
   rcases step 0 s hk hs with ⟨k',_,h,_⟩|⟨o,s',ho,h,he⟩
   ·omega
   ·have:=tqe (x:=run Φ N b s) (live:=live) h ho
    refine ⟨o,s',he,ho,?_⟩
    simp only [tzc,this]
    cases o<;>first|rfl|exact absurd rfl ho
  |succ k ih=>
   intro n s hk hn hs
   obtain ⟨n,rfl⟩: ∃n',n=n'+1:=⟨n - 1,by omega⟩
   rcases step (k+1) s hk hs with ⟨k',s',h1,h2,h3⟩|⟨o,s',ho,h,he⟩
   ·obtain rfl:k=k':=by omega
    rw [azg] at h2
    cases hx:run Φ N b s with
    |none=>rw [hx] at h2;cases h2
    |some p=>
     obtain ⟨o,s1⟩:=p
     rw [hx] at h2
     cases o with
     |nrm=>
      simp only [after,Option.some.injEq,Prod.mk.injEq,true_and] at h2
      obtain ⟨o,e,he,ho,hr⟩:=ih n s' (by omega) (by omega) h3
      refine ⟨o,e,he,ho,?_⟩
      simp only [tzc,hx,h2]
      exact hr
     |ext id=>simp [after] at h2
     |ret=>simp [after] at h2
   ·have:=tqe (x:=run Φ N b s) (live:=live) h ho
    refine ⟨o,s',he,ho,?_⟩
    simp only [tzc,this]
    cases o<;>first|rfl|exact absurd rfl ho
 obtain ⟨o,e,he,ho,hr⟩:=key m N s (Nat.le_refl _) hN h0
 refine ⟨o,e,he,ho,?_⟩
 unfold goP
 rw [hr]
theorem yxi (S:Nat→St) (e:St) {m id:Nat} (hN:m<N) (step: ∀i,i<m→yz Φ N live b (S i)=some (.nrm,S (i+1))) (last:yz Φ N live b (S m)=some (.ext id,e)):
 goP Φ N live b r (S 0)=goE Φ N r id e.slots e.nodes e.next:=by
 rw [fkg S (fun _=>(.ext id,e)) hN (fun _ _=>by simp) fun i hi=> ?_]
 ·rfl
 ·by_cases h:i<m
  ·exact .inl ⟨h,step i h,rfl⟩
  ·have:i=m:=by omega
   subst this
   exact .inr last
end
def tzb (Φ:Nat→Option Callee) (N:Nat) (live:List Nat) (b:VC) (s:St):Option (Out×St):=tzc (run Φ N b) live N s
theorem jxb {Φ:Nat→Option Callee} {N:Nat} {live:List Nat} {b:VC} (S:Nat→St) (e:St) {m id:Nat} (hN:m<N) (step: ∀i,i<m→yz Φ N live b (S i)=some (.nrm,S (i+1))) (last:yz Φ N live b (S m)=some (.ext id,e)):
 tzb Φ N live b (S 0)=some (.ext id,e):=yxi (r:= []) S e hN step last
theorem mzl {Φ:Nat→Option Callee} {N:Nat} {live:List Nat} {b:VC} (S:Nat→St) (R:Nat→Out×St) {m:Nat} (hN:m<N) (hr: ∀i,i≤m→(R i).1≠ .nrm)
 (step: ∀i,i≤m→(i<m∧yz Φ N live b (S i)=some (.nrm,S (i+1))∧R i=R (i+1))∨yz Φ N live b (S i)=some (R i)):tzb Φ N live b (S 0)=some (R 0):=fkg (r:= []) S R hN hr step
theorem hzb {Φ:Nat→Option Callee} {N:Nat} {live:List Nat} {b:VC} (S:Nat→St) (R:Out×St) (P:Nat→Prop) {m:Nat} (hN:m<N) (h0:P 0) (hr:R.1≠ .nrm)
 (step: ∀i,i≤m→P i→(i<m∧yz Φ N live b (S i)=some (.nrm,S (i+1))∧P (i+1))∨yz Φ N live b (S i)=some R):tzb Φ N live b (S 0)=some R:=by
 obtain ⟨o,e,⟨rfl,rfl⟩,_,h⟩:=mqe (Φ:=Φ) (N:=N) (live:=live) (b:=b) (r:= []) (fun j s=> ∃i,i+j=m∧P i∧s=S i) (fun o e=>o=R.1∧e=R.2) hN (s:=S 0) ⟨0,by omega,h0,rfl⟩ (by
  rintro j s hj ⟨i,hi,hp,rfl⟩
  rcases step i (by omega) hp with ⟨h1,h2,h3⟩|h1
  ·exact .inl ⟨j - 1,_,by omega,h2,i+1,by omega,h3,rfl⟩
  ·exact .inr ⟨R.1,R.2,hr,h1,rfl,rfl⟩)
 exact h
theorem wj {Φ:Nat→Option Callee} {N:Nat} {live:List Nat} {b:VC} {r:List It} {s S0 e:St} {id:Nat} (h:tzb Φ N live b S0=some (.ext id,e)) (hs:norm live s=S0):
 goP Φ N live b r (norm live s)=goE Φ N r id e.slots e.nodes e.next:=by
 rw [hs];unfold goP;rw [show tzc (run Φ N b) live N S0=some (.ext id,e) from h];rfl
theorem pjc {Φ:Nat→Option Callee} {N:Nat} {live:List Nat} {b:VC} {r:List It} {s S0 e:St} (h:tzb Φ N live b S0=some (.ret,e)) (hs:norm live s=S0):
 goP Φ N live b r (norm live s)=some (.ret,e):=by
 rw [hs];unfold goP;rw [show tzc (run Φ N b) live N S0=some (.ret,e) from h];exact qqg Φ N e r
end Sy
section
variable {Φ:Nat→Option Callee} {N:Nat} {v:Fn}
@[go_sem] theorem vql:(calF Φ N v).modes=v.modes:=rfl
@[go_sem] theorem wql:(calF Φ N v).keeps=v.keeps:=rfl
@[go_sem] theorem pjk:(calF Φ N v).scalar=v.scalar:=rfl
@[go_sem] theorem cal_go:(calF Φ N v).go=fj Φ N v:=rfl
end
attribute [go_sem] Bool.false_and Bool.true_and Bool.and_true Bool.true_or Bool.false_or Bool.or_true Bool.and_self Option.isNone_some Option.isSome_some decide_true decide_false decide_eq_true decide_eq_false List.length_map List.length_append List.length_replicate List.length_set List.map_append List.replicate_succ List.replicate_zero List.set_cons_zero List.set_cons_succ List.map_cons List.map_nil List.length_cons List.length_nil List.getElem?_cons_zero List.getElem?_cons_succ List.drop_zero List.drop_succ_cons List.drop_nil List.take_succ_cons List.take_zero List.nil_append List.cons_append List.append_nil Option.map_some Option.getD_some Option.isNone_none List.getElem?_map Int.toNat_natCast
 if_true if_false Bool.false_eq_true Bool.or_false Bool.or_self Bool.and_false Bool.not_true Bool.not_false reduceCtorEq true_and and_true and_self Nat.zero_add Nat.add_zero
theorem aq (x:Int) (h0: -9223372036854775808≤x) (h1:x≤9223372036854775807):IntKind.i64.wrap x=x:=by
 unfold IntKind.wrap
 simp [IntKind.bits,IntKind.signed]
 omega
theorem gj (i:Nat) (h:i<9223372036854775807):IntKind.i64.wrap ((i:Int)+1)=((i+1:Nat):Int):=by
 rw [aq]<;>omega
theorem zqb {α β:Type} (f:α→β) (l:List α) (x:α):(l++ [x]).map f=l.map f++ [f x]:=by simp
end Go.Proofs.YtjdcidigbbbckaaDoor.VM
namespace Go.Proofs.YtjdcidigbbbckaaDoor.VM.Sy
open Go
variable {Φ:Nat→Option Callee} {N:Nat} {live:List Nat} {b:VC}
attribute [go_sem] List.size_toArray
@[go_sem] theorem ukl {x y:ByteArray}:(x++y).size=x.size+y.size:=ByteArray.size_append
@[go_sem ↓] theorem dzm {q:Bool} {v b id:Nat} {c0:CV} {s:St}:M.run (dz q v b (.rf id) c0 .un) s=some (b,s):=by
  cases c0<;>first|rfl|(simp only [dz];rfl)
def dzi (x:Option PV) (id ver:Nat) (p:List (Nat×Nat×Nat)) (i m o:Nat) (w:Option Nat):Option TV:=
 match x with
 |some x=>if x.cells.length=m then ij (ownC id ver p i m 0 x.cells) o w else none
 |none=>none
@[go_sem] theorem fjk {x:PV} {id ver:Nat} {p:List (Nat×Nat×Nat)} {i m o:Nat} {w:Option Nat} (h:x.cells.length=m):dzi (some x) id ver p i m o w=ij (ownC id ver p i m 0 x.cells) o w:=by simp [dzi,h]
def dkj (r:Option (Nat×List PV)) (id ver:Nat) (p:List (Nat×Nat×Nat)) (i m o:Nat) (w:Option Nat):Option TV:=
 match r with
 |some (_,es)=>dzi es[i]? id ver p i m o w
 |none=>none
@[go_sem] theorem gjk {e:Nat} {es:List PV} {id ver:Nat} {p:List (Nat×Nat×Nat)} {i m o:Nat} {w:Option Nat}:dkj (some (e,es)) id ver p i m o w=dzi es[i]? id ver p i m o w:=rfl
@[go_sem] theorem djm {nd:hjc} {w:Option Nat} {id ver:Nat} {p:List (Nat×Nat×Nat)} {i m o:Nat}:mxd nd w (.ei id ver p i m o)=dkj (xke (bjb nd id) ver p) id ver p i m o w:=by
  simp only [mxd,loadAt,qz,bjb]
  simp only [VM.getN,M.run,St.node]
  cases (look nd id).getD none with
  |none=>rfl
  |some n=>
   cases n with
   |bx z cs=>rfl
   |sl q ver' e es=>
    simp only [xke]
    split
    ·cases dget es p with
     |none=>rfl
     |some r=>
      simp only [dkj]
      cases r.2[i]? with
      |none=>rfl
      |some x=>
       simp only [dzi,hkh]
       split
       ·cases ij (ownC id ver p i m 0 x.cells) o w<;>rfl
       ·rfl
    ·rfl
def fadI (n:Option Node) (id ver:Nat) (p:List (Nat×Nat×Nat)) (i m o:Nat):Option TV:=
 match n with
 |some (.sl _ ver' _ _)=>if ver'=ver then some (.ei id ver p i m o) else none
 |_=>none
@[go_sem] theorem fadI_sl {q:Bool} {e:Nat} {es:List PV} {id ver:Nat} {p:List (Nat×Nat×Nat)} {i m o:Nat}:fadI (some (.sl q ver e es)) id ver p i m o=some (.ei id ver p i m o):=by simp [fadI]
@[go_sem] theorem fad_ei {nd:hjc} {id ver:Nat} {p:List (Nat×Nat×Nat)} {i m o off:Nat}:fadP nd off (.ei id ver p i m o)=fadI (bjb nd id) id ver p i m (o+off):=by
  simp only [fadP,fieldAt,qz,bjb,fadI]
  simp only [VM.getN,M.run,St.node]
  cases (look nd id).getD none with
  |none=>rfl
  |some n=>
   cases n with
   |bx z cs=>rfl
   |sl q ver' e es=>
    simp only
    split<;>rfl
theorem mxc (I:Nat→St→Prop) (id:Nat) (E:St→Prop) {m:Nat} (hN:m<N) {s:St} (h0:I m s)
 (step: ∀k s,k≤m→I k s→(0<k∧ ∃s',yz Φ N live b s=some (.nrm,s')∧I (k - 1) s')∨ ∃e,yz Φ N live b s=some (.ext id,e)∧E e):
 ∃e,E e∧tzb Φ N live b s=some (.ext id,e):=by
 obtain ⟨o,e,⟨rfl,h1⟩,_,h2⟩:=mqe (Φ:=Φ) (N:=N) (live:=live) (b:=b) (r:= []) I (fun o e=>o= .ext id∧E e) hN h0 fun k s hk hi=>by
  rcases step k s hk hi with ⟨h1,s',h2,h3⟩|⟨e,h1,h2⟩
  ·exact .inl ⟨k - 1,s',by omega,h2,h3⟩
  ·exact .inr ⟨.ext id,e,by simp,h1,rfl,h2⟩
 exact ⟨e,h1,h2⟩
theorem bjh {α β:Type} (l:List α) (S:Nat→β→St) (I:Nat→β→Prop) (f:β→α→β) (E:β→St) {id:Nat} (hN:l.length<N) {a0:β} (h0:I 0 a0)
 (step: ∀i x acc,l[i]? =some x→I i acc→yz Φ N live b (S i acc)=some (.nrm,S (i+1) (f acc x))∧I (i+1) (f acc x))
 (last: ∀acc,I l.length acc→yz Φ N live b (S l.length acc)=some (.ext id,E acc)):
 tzb Φ N live b (S 0 a0)=some (.ext id,E (l.foldl f a0))∧I l.length (l.foldl f a0):=by
 have hI: ∀i,i≤l.length→I i ((l.take i).foldl f a0):=by
  intro i
  induction i with
  |zero=>intro _;simpa using h0
  |succ i ih=>
   intro hi
   obtain ⟨x,hx⟩: ∃x,l[i]? =some x:=⟨_,List.getElem?_eq_getElem (by omega)⟩
   rw [List.take_add_one,hx,List.foldl_append]
   exact (step i x _ hx (ih (by omega))).2
 have key:=jxb (Φ:=Φ) (N:=N) (live:=live) (b:=b) (fun i=>S i ((l.take i).foldl f a0)) (E (l.foldl f a0)) (m:=l.length) (id:=id) hN (fun i hi=>by
  obtain ⟨x,hx⟩: ∃x,l[i]? =some x:=⟨_,List.getElem?_eq_getElem hi⟩
  have:=(step i x _ hx (hI i (by omega))).1
  rw [this,List.take_add_one,hx,List.foldl_append]
  rfl) (by
  have:=last _ (hI l.length (Nat.le_refl _))
  rw [List.take_length] at this ⊢
  exact this)
 refine ⟨by simpa using key,?_⟩
 have:=hI l.length (Nat.le_refl _)
 rwa [List.take_length] at this
end Go.Proofs.YtjdcidigbbbckaaDoor.VM.Sy

/- The interpreter 'VM': rules by which it is run over symbols: a list of what is still to be done, a frame, and an equation for each kind of step. The interpreter 'VM': rules for steps that are run: they are tried before the step's parts are looked at. (Printed by runlem.py, out of YteomgghmhicpcaaDoorVmSym.) The interpreter 'VM': the tower of calls: each function over those that it calls, to any depth. The interpreter 'VM': loops whose frames are known by a property, and loops over lists. -/
import Derived.Test.YteomgghmhicpcaaDoorVmA
import Derived.Attr
import Derived.Laws.Strings
namespace Go.Proofs.YteomgghmhicpcaaDoor.VM.Sy
open Go
inductive It where
 |c (v:VC)
 |blk (id:Nat)
 |ops (b:Nat) (os:List VOper) (live:List Nat)
abbrev Slots:=List (Nat×TV)
abbrev Nodes:=List (Nat×Option Node)
section
variable (Φ:Nat→Option Callee) (N:Nat)
def stepI (it:It) (o:Option (Out×St)):Option (Out×St):=
 match it,o with
 | .c v,some (.nrm,s)=>run Φ N v s
 | .blk id,some (.ext j,s)=>if j=id then some (.nrm,s) else some (.ext j,s)
 | .ops b os live,some (.nrm,s)=>(execs Φ b os s).map fun s'=>(.nrm,{slots:=keep live s',nodes:=s'.nodes,next:=b+100 * os.length})
 |_,x=>x
def goL:List It→Option (Out×St)→Option (Out×St)
 | [],x=>x
 |it::r,x=>goL r (stepI Φ N it x)
def goN (r:List It) (sl:Slots) (nd:Nodes) (nx:Nat):Option (Out×St):=goL Φ N r (some (.nrm,⟨sl,nd,nx⟩))
def goE (r:List It) (id:Nat) (sl:Slots) (nd:Nodes) (nx:Nat):Option (Out×St):=goL Φ N r (some (.ext id,⟨sl,nd,nx⟩))
def roundsN (f:St→Option (Out×St)) (live:List Nat):Nat→St→Option (Out×St)
 |0,_=>none
 |n+1,s=>match f s with
  |some (.nrm,s')=>roundsN f live n (norm live s')
  |r=>r
def goP (live:List Nat) (b:VC) (r:List It) (s:St):Option (Out×St):=goL Φ N r (roundsN (run Φ N b) live N s)
theorem vm8 (f:St→Option (Out×St)) (live:List Nat):∀(n:Nat) (s:St),rounds f live n s=roundsN f live n (norm live s)
 |0,_=>rfl
 |n+1,s=>by
  simp only [rounds,roundsN]
  cases f (norm live s) with
  |none=>rfl
  |some p=>
   obtain ⟨o,s'⟩:=p
   cases o with
   |nrm=>exact vm8 f live n _
   |_=>rfl
theorem vf1:∀(r:List It),goL Φ N r none=none
 | []=>rfl
 |it::r=>by
  simp only [goL]
  rw [show stepI Φ N it none=none from by cases it<;>rfl]
  exact vf1 r
theorem vlk (s:St):∀(r:List It),goL Φ N r (some (.ret,s))=some (.ret,s)
 | []=>rfl
 |it::r=>by
  simp only [goL]
  rw [show stepI Φ N it (some (.ret,s))=some (.ret,s) from by cases it<;>rfl]
  exact vlk s r
variable {Φ:Nat→Option Callee} {N:Nat} {r:List It} {sl:Slots} {nd:Nodes} {nx:Nat}
theorem qps (v:VC) (s:St):run Φ N v s=goN Φ N [.c v] s.slots s.nodes s.next:=rfl
@[go_sem] theorem qob:goN Φ N [] sl nd nx=some (.nrm,⟨sl,nd,nx⟩):=rfl
@[go_sem] theorem qng:goN Φ N (.c .skip::r) sl nd nx=goN Φ N r sl nd nx:=rfl
@[go_sem] theorem qoq:goN Φ N (.c .ret::r) sl nd nx=some (.ret,⟨sl,nd,nx⟩):=vlk Φ N _ r
@[go_sem] theorem qmg {id:Nat}:goN Φ N (.c (.exit id)::r) sl nd nx=goE Φ N r id sl nd nx:=rfl
@[go_sem] theorem qpn {id:Nat}:goN Φ N (.blk id::r) sl nd nx=goN Φ N r sl nd nx:=rfl
@[go_sem] theorem qmm {id:Nat}:goE Φ N [] id sl nd nx=some (.ext id,⟨sl,nd,nx⟩):=rfl
@[go_sem] theorem qp6 {id:Nat} {v:VC}:goE Φ N (.c v::r) id sl nd nx=goE Φ N r id sl nd nx:=rfl
@[go_sem] theorem qn4 {id b:Nat} {os:List VOper} {live:List Nat}:goE Φ N (.ops b os live::r) id sl nd nx=goE Φ N r id sl nd nx:=rfl
@[go_sem] theorem qml {id j:Nat}:goE Φ N (.blk j::r) id sl nd nx=if id=j then goN Φ N r sl nd nx else goE Φ N r id sl nd nx:=by
 simp only [goE,goL,stepI,goN]
 split<;>rfl
@[go_sem] theorem qpi {a b:VC}:goN Φ N (.c (.seq a b)::r) sl nd nx=goN Φ N (.c a:: .c b::r) sl nd nx:=by
 simp only [goN,goL,stepI,run]
 cases run Φ N a ⟨sl,nd,nx⟩ with
 |none=>rfl
 |some p=>
  obtain ⟨o,s⟩:=p
  cases o<;>rfl
@[go_sem] theorem qlb {id:Nat} {b:VC}:goN Φ N (.c (.block id b)::r) sl nd nx=goN Φ N (.c b:: .blk id::r) sl nd nx:=by
 simp only [goN,goL,stepI,run]
 cases run Φ N b ⟨sl,nd,nx⟩ with
 |none=>rfl
 |some p=>
  obtain ⟨o,s⟩:=p
  cases o<;>rfl
@[go_sem] theorem qnv {live:List Nat} {b:VC}:goN Φ N (.c (.loop live b)::r) sl nd nx=goP Φ N live b r (norm live ⟨sl,nd,nx⟩):=by
 simp only [goN,goL,stepI,run,goP,vm8]
@[go_sem] theorem qpq {os:List VOper} {live:List Nat}:goN Φ N (.c (.reg os live)::r) sl nd nx=goN Φ N (.ops nx os live::r) sl nd nx:=by
 simp only [goN,goL,stepI,run]
 cases execs Φ nx os ⟨sl,nd,nx⟩<;>rfl
theorem vyx {os:List VOper} {live:List Nat} {ps:List (Nat×Nat)} (h:okD Φ ps os ⟨sl,nd,nx⟩=true):goN Φ N (.c (.regD os live ps)::r) sl nd nx=goN Φ N (.ops nx os live::r) sl nd nx:=by
 simp only [goN,goL,stepI,run,h,if_true]
 cases execs Φ nx os ⟨sl,nd,nx⟩<;>rfl
attribute [go_sem] vyx
def slotL (sl:Slots) (n:Nat):TV:=(look sl n).getD .un
def selS (b:Bool) (v:TV) (sl:Slots) (n:Nat):TV:=match b with|true=>v|false=>slotL sl n
@[go_sem] theorem qpc {v:TV} {n:Nat}:selS true v sl n=v:=rfl
@[go_sem] theorem qn8 {v:TV} {n:Nat}:selS false v sl n=slotL sl n:=rfl
@[go_sem] theorem qe7 {n m:Nat} {v:TV}:slotL ((m,v)::sl) n=selS (m==n) v sl n:=by
 by_cases h:m=n
 ·subst h;simp [slotL,look,selS]
 ·have:(m==n)=false:=by simpa using h
  rw [this];simp [slotL,look,h,selS]
def keepL (sl:Slots):List Nat→Slots
 | []=> []
 |t::ts=>(t,slotL sl t)::keepL sl ts
@[go_sem] theorem qkm:keepL sl []= []:=rfl
@[go_sem] theorem qg8 {t:Nat} {ts:List Nat}:keepL sl (t::ts)=(t,slotL sl t)::keepL sl ts:=rfl
theorem vqs (s:St):∀(live:List Nat),keep live s=keepL s.slots live
 | []=>rfl
 |t::ts=>by simp [keep,keepL,←vqs s ts,St.slot,slotL]
@[go_sem] theorem qpj {b:Nat} {live:List Nat}:goN Φ N (.ops b [] live::r) sl nd nx=goN Φ N r (keepL sl live) nd b:=by
 simp only [goN,goL,stepI,execs,Option.map_some,vqs,List.length_nil,Nat.mul_zero,Nat.add_zero]
def nodeL (nd:Nodes) (id:Nat):Option Node:=(look nd id).getD none
def selN (b:Bool) (v:Option Node) (nd:Nodes) (n:Nat):Option Node:=match b with|true=>v|false=>nodeL nd n
@[go_sem] theorem qol {v:Option Node} {n:Nat}:selN true v nd n=v:=rfl
@[go_sem] theorem qof {v:Option Node} {n:Nat}:selN false v nd n=nodeL nd n:=rfl
@[go_sem] theorem qgx {n m:Nat} {v:Option Node}:nodeL ((m,v)::nd) n=selN (m==n) v nd n:=by
 by_cases h:m=n
 ·subst h;simp [nodeL,look,selN]
 ·have:(m==n)=false:=by simpa using h
  rw [this];simp [nodeL,look,h,selN]
theorem qli {n:Nat}:nodeL [] n=none:=rfl
@[go_sem] theorem qmn {b:VC}:goN Φ N (.c (.frz b)::r) sl nd nx=goN Φ N (.c b::r) (frzSl (nodeL nd) sl) (frzNd (nodeL nd) nd) nx:=rfl
def frzK (n:Option Node) (id:Nat):TV:=match n with
 |some (.sl _ _ e es)=> .sz e es
 |_=> .rf id
@[go_sem] theorem qn3 {q:Bool} {v e id:Nat} {es:List PV}:frzK (some (.sl q v e es)) id= .sz e es:=rfl
@[go_sem] theorem qms {z:Bool} {cs:List TV} {id:Nat}:frzK (some (.bx z cs)) id= .rf id:=rfl
@[go_sem] theorem qgo {f:Nat→Option Node}:frzSl f []= []:=rfl
@[go_sem] theorem qev {f:Nat→Option Node} {t:Nat} {v:TV} {l:Slots}:frzSl f ((t,v)::l)=(t,frzT f v)::frzSl f l:=rfl
@[go_sem] theorem qf3 {f:Nat→Option Node}:frzNd f []= []:=rfl
@[go_sem] theorem qes {id:Nat} {n:Option Node} {l:Nodes}:frzNd (nodeL nd) ((id,n)::l)=(id,frzN (nodeL nd) (nodeL nd id))::frzNd (nodeL nd) l:=rfl
@[go_sem] theorem qn1 {f:Nat→Option Node} {z:Bool} {cs:List TV}:frzN f (some (.bx z cs))=some (.bx z (frzTs f cs)):=rfl
@[go_sem] theorem qmt {f:Nat→Option Node} {q:Bool} {v e:Nat} {es:List PV}:frzN f (some (.sl q v e es))=none:=rfl
@[go_sem] theorem qmp {f:Nat→Option Node}:frzN f none=none:=rfl
@[go_sem] theorem qf9 {f:Nat→Option Node}:frzTs f []= []:=rfl
@[go_sem] theorem qdb {f:Nat→Option Node} {c:TV} {cs:List TV}:frzTs f (c::cs)=frzT f c::frzTs f cs:=rfl
@[go_sem] theorem qpr {f:Nat→Option Node} {v:Value}:frzT f (.a v)= .a v:=rfl
@[go_sem] theorem ql4 {f:Nat→Option Node} {e:Nat}:frzT f (.nl e)= .nl e:=rfl
@[go_sem] theorem qls {id:Nat}:frzT (nodeL nd) (.rf id)=frzK (nodeL nd id) id:=by
 unfold frzT frzK
 split<;>simp_all
@[go_sem] theorem qma {f:Nat→Option Node} {e:Nat} {es:List PV}:frzT f (.sz e es)= .sz e es:=rfl
@[go_sem] theorem ql3 {f:Nat→Option Node} {cs:List TV}:frzT f (.st cs)= .st (frzTs f cs):=rfl
@[go_sem] theorem ql0 {f:Nat→Option Node} {cs:List TV}:frzT f (.tp cs)= .tp (frzTs f cs):=rfl
@[go_sem] theorem qns {f:Nat→Option Node}:frzT f .un= .un:=rfl
def ov (sl:Slots):Opd→TV
 | .t n=>slotL sl n
 | .c v=> .a v
 | .nl e=> .nl e
 | .f g=> .fn g [] []
@[go_sem] theorem qqf {n:Nat}:ov sl (.t n)=slotL sl n:=rfl
@[go_sem] theorem qqo {v:Value}:ov sl (.c v)= .a v:=rfl
@[go_sem] theorem qpu {e:Nat}:ov sl (.nl e)= .nl e:=rfl
@[go_sem] theorem qqk {g:Nat}:ov sl (.f g)= .fn g [] []:=rfl
theorem vay (x:Opd) (s:St):(opd x).run s=some (ov s.slots x,s):=by cases x<;>rfl
def condK (Φ:Nat→Option Callee) (N:Nat) (v:TV) (a b:VC) (r:List It) (sl:Slots) (nd:Nodes) (nx:Nat):Option (Out×St):=
 match v with
 | .a (.bool t)=>if t=true then goN Φ N (.c a::r) sl nd nx else goN Φ N (.c b::r) sl nd nx
 |_=>none
@[go_sem] theorem qmz {n:Nat} {a b:VC}:goN Φ N (.c (.cond (.t n) a b)::r) sl nd nx=condK Φ N (slotL sl n) a b r sl nd nx:=by
 simp only [goN,goL,stepI,run,condK,St.slot,slotL]
 cases (look sl n).getD TV.un with
 |a v=>
  cases v with
  |bool t=>cases t<;>rfl
  |_=>exact vf1 Φ N r
 |_=>exact vf1 Φ N r
@[go_sem] theorem qf6 {a b:VC}:condK Φ N (.a (.bool true)) a b r sl nd nx=goN Φ N (.c a::r) sl nd nx:=rfl
@[go_sem] theorem qdq {a b:VC}:condK Φ N (.a (.bool false)) a b r sl nd nx=goN Φ N (.c b::r) sl nd nx:=rfl
theorem ql1 {t:Bool} {a b:VC}:condK Φ N (.a (.bool t)) a b r sl nd nx=if t=true then goN Φ N (.c a::r) sl nd nx else goN Φ N (.c b::r) sl nd nx:=rfl
theorem qig {p:Prop} [Decidable p] {a b:VC}:condK Φ N (.a (.bool (decide p))) a b r sl nd nx=if p then goN Φ N (.c a::r) sl nd nx else goN Φ N (.c b::r) sl nd nx:=by
 simp [condK]
theorem qo2 {p:Prop} [Decidable p] {a b:VC} (h:p):condK Φ N (.a (.bool (decide p))) a b r sl nd nx=goN Φ N (.c a::r) sl nd nx:=by simp [condK,h]
theorem qos {p:Prop} [Decidable p] {a b:VC} (h:¬p):condK Φ N (.a (.bool (decide p))) a b r sl nd nx=goN Φ N (.c b::r) sl nd nx:=by simp [condK,h]
def putK (Φ:Nat→Option Callee) (N:Nat) (d:Nat) (o:Option TV) (r:List It) (sl:Slots) (nd:Nodes) (nx:Nat):Option (Out×St):=
 match o with
 |some v=>goN Φ N r ((d,v)::sl) nd nx
 |none=>none
@[go_sem] theorem qib {d:Nat} {v:TV}:putK Φ N d (some v) r sl nd nx=goN Φ N r ((d,v)::sl) nd nx:=rfl
def aftK (Φ:Nat→Option Callee) (N:Nat) {α:Type} (o:Option (α×St)) (r:List It):Option (Out×St):=
 match o with
 |some (_,s)=>goN Φ N r s.slots s.nodes s.next
 |none=>none
@[go_sem] theorem qih {α:Type} {x:α} {s:St}:aftK Φ N (some (x,s)) r=goN Φ N r s.slots s.nodes s.next:=rfl
theorem voq {b:Nat} {o:VOper} {os:List VOper} {live:List Nat}:goN Φ N (.ops b (o::os) live::r) sl nd nx=aftK Φ N ((execG Φ b o).run ⟨sl,nd,nx⟩) (.ops (b+100) os live::r):=by
 simp only [goN,goL,stepI,execs]
 cases (execG Φ b o).run ⟨sl,nd,nx⟩ with
 |none=>exact vf1 Φ N r
 |some p=>
  simp only [aftK,goN,goL,stepI,List.length_cons,show b+100 * (os.length+1)=b+100+100 * os.length by omega]
theorem vad {α β:Type} (x:M α) (f:α→M β) (s:St):(x.bind f).run s=(match x.run s with|some (a,s')=>(f a).run s'|none=>none):=by
 induction x generalizing s with
 |pure x=>rfl
 |fail=>rfl
 |getS t k ih=>exact ih _ _
 |setS t v k ih=>exact ih _
 |getN id k ih=>exact ih _ _
 |setN id n k ih=>exact ih _
def bindR {α β:Type} (o:Option (α×St)) (f:α→M β):Option (β×St):=
 match o with
 |some (a,s)=>(f a).run s
 |none=>none
@[congr] theorem qcx {α β:Type} {o o':Option (α×St)} {f:α→M β} (h:o=o'):bindR o f=bindR o' f:=by rw [h]
@[go_sem ↓] theorem qey {α β:Type} {a:α} {s:St} {f:α→M β}:bindR (some (a,s)) f=(f a).run s:=rfl
theorem qgu {α β:Type} (x:M α) (f:α→M β) (s:St):(x.bind f).run s=bindR (x.run s) f:=vad x f s
@[go_sem ↓] theorem qds {α β:Type} (x:M α) (f:α→M β) (s:St):(x.bind f).run s=bindR (x.run s) f:=vad x f s
def ifM {α:Type} (c:Prop) [Decidable c] (x y:M α) (s:St):Option (α×St):=(if c then x else y).run s
@[congr] theorem qg0 {α:Type} {c c':Prop} [Decidable c] [Decidable c'] {x y:M α} {s:St} (h:c=c'):ifM c x y s=ifM c' x y s:=by
 subst h
 unfold ifM
 congr
@[go_sem ↓] theorem qp0 {α:Type} {x y:M α} {s:St} [Decidable True]:ifM True x y s=x.run s:=by simp [ifM]
@[go_sem ↓] theorem qqe {α:Type} {x y:M α} {s:St} [Decidable False]:ifM False x y s=y.run s:=by simp [ifM]
@[go_sem ↓] theorem qm2 {α:Type} {c:Prop} [Decidable c] {x y:M α} {s:St}:(if c then x else y).run s=ifM c x y s:=rfl
@[go_sem] theorem qfo {α:Type} {x:α} {s:St}:(M.pure x).run s=some (x,s):=rfl
@[go_sem] theorem qgj {t:Nat} {s:St}:(getS t).run s=some (slotL s.slots t,s):=rfl
@[go_sem] theorem qf1 {t:Nat} {v:TV} {sl:Slots} {nd:Nodes} {nx:Nat}:(setS t v).run ⟨sl,nd,nx⟩=some ((),⟨(t,v)::sl,nd,nx⟩):=rfl
@[go_sem] theorem qgn {id:Nat} {s:St}:(getN id).run s=some (nodeL s.nodes id,s):=rfl
@[go_sem] theorem qfp {id:Nat} {n:Option Node} {sl:Slots} {nd:Nodes} {nx:Nat}:(setN id n).run ⟨sl,nd,nx⟩=some ((),⟨sl,(id,n)::nd,nx⟩):=rfl
@[go_sem] theorem qc1 {α:Type} {x:α} {s:St}:(liftO (some x)).run s=some (x,s):=rfl
@[go_sem] theorem qi3 {x:Opd} {s:St}:(opd x).run s=some (ov s.slots x,s):=vay x s
@[go_sem] theorem qfg {α:Type} {s:St}:(M.fail:M α).run s=none:=rfl
section
variable {b:Nat} {os:List VOper} {live:List Nat} {g:Option Nat}
abbrev rest (b:Nat) (os:List VOper) (live:List Nat) (r:List It):List It:= .ops (b+100) os live::r
theorem va4 {op:VOp}:goN Φ N (.ops b (⟨op,none,g⟩::os) live::r) sl nd nx=aftK Φ N ((exec Φ b op).run ⟨sl,nd,nx⟩) (.ops (b+100) os live::r):=by
 rw [voq];rfl
@[go_sem] theorem vox {d:Nat} {x:Opd}:goN Φ N (.ops b (⟨.mov d x,none,g⟩::os) live::r) sl nd nx=goN Φ N (.ops (b+100) os live::r) ((d,ov sl x)::sl) nd nx:=by
 rw [va4]
 simp only [exec,vad,vay]
 rfl
def pickT (c x y:TV):Option TV:=
 match c with
 | .a (.bool t)=>some (if t=true then x else y)
 |_=>none
@[go_sem] theorem qo4 {x y:TV}:pickT (.a (.bool true)) x y=some x:=rfl
@[go_sem] theorem qor {x y:TV}:pickT (.a (.bool false)) x y=some y:=rfl
@[go_sem] theorem vqq {d:Nat} {c x y:Opd}:goN Φ N (.ops b (⟨.pick d c x y,none,g⟩::os) live::r) sl nd nx=putK Φ N d (pickT (ov sl c) (ov sl x) (ov sl y)) (.ops (b+100) os live::r) sl nd nx:=by
 rw [va4]
 simp only [exec,vad,vay]
 cases ov sl c with
 |a v=>
  cases v with
  |bool t=>cases t<;>simp only [vad,vay,if_true,pickT,Bool.false_eq_true,if_false]<;>rfl
  |_=>rfl
 |_=>rfl
@[go_sem] theorem vpt {d:Nat} {z:ZC} {zs:List ZC}:goN Φ N (.ops b (⟨.alloc d (z::zs),none,g⟩::os) live::r) sl nd nx=
  goN Φ N (.ops (b+100) os live::r) ((d,.rf b)::sl) ((b,some (.bx false (z.tv::zs.map ZC.tv)))::nd) nx:=by
 rw [va4];rfl
@[go_sem] theorem qqi {v:Value}:(ZC.v v).tv= .a v:=rfl
@[go_sem] theorem qp5 {e:Nat}:(ZC.nl e).tv= .nl e:=rfl
def boxK (Φ:Nat→Option Callee) (N:Nat) (d b:Nat) (o:Option (List TV)) (r:List It) (sl:Slots) (nd:Nodes) (nx:Nat):Option (Out×St):=
 match o with
 |some (c::cs)=>goN Φ N r ((d,.rf b)::sl) ((b,some (.bx false (c::cs)))::nd) nx
 |_=>none
@[go_sem] theorem qin {d b:Nat} {c:TV} {cs:List TV}:boxK Φ N d b (some (c::cs)) r sl nd nx=goN Φ N r ((d,.rf b)::sl) ((b,some (.bx false (c::cs)))::nd) nx:=rfl
@[go_sem] theorem vtf {d:Nat} {x:Opd}:goN Φ N (.ops b (⟨.box d x,none,g⟩::os) live::r) sl nd nx=boxK Φ N d b (ov sl x).row (.ops (b+100) os live::r) sl nd nx:=by
 rw [va4]
 simp only [exec,vad,vay]
 cases (ov sl x).row with
 |none=>rfl
 |some cs=>cases cs<;>rfl
@[go_sem] theorem qov {cs:List TV}:(TV.st cs).row=some cs:=rfl
@[go_sem] theorem qlv {k:IntKind} {n:Int}:(TV.a (.int k n)).row=some [.a (.int k n)]:=rfl
@[go_sem] theorem qkb {t:Bool}:(TV.a (.bool t)).row=some [.a (.bool t)]:=rfl
@[go_sem] theorem qmf {s:ByteArray}:(TV.a (.string s)).row=some [.a (.string s)]:=rfl
@[go_sem] theorem qpe {e:Nat}:(TV.nl e).row=some [.nl e]:=rfl
@[go_sem] theorem qpd {i:Nat}:(TV.rf i).row=some [.rf i]:=rfl
@[go_sem] theorem qpf {e:Nat} {es:List PV}:(TV.sz e es).row=some [.sz e es]:=rfl
@[go_sem] theorem qoj {f:Nat} {fs cs:List TV}:(TV.fn f fs cs).row=some [.fn f fs cs]:=rfl
@[go_sem] theorem qok {i j k:Nat}:(TV.sb i j k).row=some [.sb i j k]:=rfl
@[go_sem] theorem qog {i j:Nat} {p:List (Nat×Nat×Nat)}:(TV.ri i j p).row=some [.ri i j p]:=rfl
@[go_sem] theorem qot {i j:Nat}:(TV.ad i j).row=some [.ad i j]:=rfl
@[go_sem] theorem qj8 {cs:List TV}:(TV.st cs).cells=cs:=rfl
@[go_sem] theorem qm6 {v:Value}:(TV.a v).cells= [.a v]:=rfl
@[go_sem] theorem qlj {e:Nat}:(TV.nl e).cells= [.nl e]:=rfl
@[go_sem] theorem qjb {i:Nat}:(TV.rf i).cells= [.rf i]:=rfl
@[go_sem] theorem qkw {e:Nat} {es:List PV}:(TV.sz e es).cells= [.sz e es]:=rfl
@[go_sem] theorem qjd {f:Nat} {fs cs:List TV}:(TV.fn f fs cs).cells= [.fn f fs cs]:=rfl
@[go_sem] theorem qiz {i j k:Nat}:(TV.sb i j k).cells= [.sb i j k]:=rfl
@[go_sem] theorem qjn {i j:Nat} {p:List (Nat×Nat×Nat)}:(TV.ri i j p).cells= [.ri i j p]:=rfl
@[go_sem] theorem qkk {i j:Nat}:(TV.ad i j).cells= [.ad i j]:=rfl
@[go_sem] theorem qjf {t:Nat} {v:TV}:(TV.ic t v).cells= [.ic t v]:=rfl
@[go_sem] theorem qfw {cs:List PV}:(PV.st cs).cells=cs:=rfl
@[go_sem] theorem qk9 {v:Value}:(PV.a v).cells= [.a v]:=rfl
@[go_sem] theorem qe2 {e:Nat} {es:List PV}:(PV.sl e es).cells= [.sl e es]:=rfl
@[go_sem] theorem qfd {e:Nat} {es:List PV}:(PV.fz e es).cells= [.fz e es]:=rfl
def buildP (sl:Slots):List (Nat×Nat×Opd)→List TV→Option (List TV)
 | [],cs=>some cs
 |(o,w,x)::ps,cs=>if (ov sl x).cells.length=w∧o+w≤cs.length∧(ov sl x).row.isSome=true then buildP sl ps (cs.take o++(ov sl x).cells++cs.drop (o+w)) else none
theorem vms (s:St):∀(ps:List (Nat×Nat×Opd)) (cs:List TV),(buildM ps cs).run s=(buildP s.slots ps cs).map (·,s)
 | [],cs=>rfl
 |(o,w,x)::ps,cs=>by
  simp only [buildM,vad,vay,buildP]
  split
  ·exact vms s ps _
  ·rfl
@[go_sem] theorem qgt {cs:List TV}:buildP sl [] cs=some cs:=rfl
def buildK (sl:Slots) (v:TV) (o w:Nat) (ps:List (Nat×Nat×Opd)) (cs:List TV):Option (List TV):=
 if v.cells.length=w∧o+w≤cs.length∧v.row.isSome=true then buildP sl ps (cs.take o++v.cells++cs.drop (o+w)) else none
@[go_sem] theorem qc4 {o w:Nat} {x:Opd} {ps:List (Nat×Nat×Opd)} {cs:List TV}:buildP sl ((o,w,x)::ps) cs=buildK sl (ov sl x) o w ps cs:=rfl
@[go_sem] theorem qlf {v:TV} {o w:Nat} {ps:List (Nat×Nat×Opd)} {cs:List TV} (h1:v.cells.length=w) (h2:o+w≤cs.length) (h3:v.row.isSome=true):buildK sl v o w ps cs=buildP sl ps (cs.take o++v.cells++cs.drop (o+w)):=by
 simp [buildK,h1,h2,h3]
def stO (o:Option (List TV)):Option TV:=o.map .st
@[go_sem] theorem qhf {cs:List TV}:stO (some cs)=some (.st cs):=rfl
@[go_sem] theorem vov {d:Nat} {zs:List ZC} {ps:List (Nat×Nat×Opd)}:goN Φ N (.ops b (⟨.build d zs ps,none,g⟩::os) live::r) sl nd nx=
  putK Φ N d (stO (buildP sl ps (zs.map ZC.tv))) (.ops (b+100) os live::r) sl nd nx:=by
 rw [va4]
 simp only [exec,vad,vms]
 cases buildP sl ps (zs.map ZC.tv)<;>rfl
@[go_sem] theorem qg1 {cs:List TV} {o:Nat}:pickCells cs o none=cs[o]? :=rfl
@[go_sem] theorem qj2 {cs:List TV} {o w:Nat} (h:o+w≤cs.length):pickCells cs o (some w)=some (.st ((cs.drop o).take w)):=by simp [pickCells,h]
def loadN (n:Option Node) (o:Nat) (w:Option Nat):Option TV:=
 match n with
 |some (.bx _ cs)=>pickCells cs o w
 |_=>none
@[go_sem] theorem qhu {z:Bool} {cs:List TV} {o:Nat} {w:Option Nat}:loadN (some (.bx z cs)) o w=pickCells cs o w:=rfl
def ownC (id ver:Nat) (p:List (Nat×Nat×Nat)) (i m:Nat):Nat→List PV→List TV
 |_,[]=> []
 |k,c::cs=>ofOwn id ver (p++ [(i,m,k)]) c::ownC id ver p i m (k+1) cs
theorem vre (id ver:Nat) (p:List (Nat×Nat×Nat)) (i m:Nat) (x:PV):ownCells id ver p i m x=ownC id ver p i m 0 x.cells:=by
 have key:∀(cs:List PV) (k:Nat),((cs.zipIdx k).map fun (c,o)=>ofOwn id ver (p++ [(i,m,o)]) c)=ownC id ver p i m k cs:=by
  intro cs
  induction cs with
  |nil=>intro k;rfl
  |cons c cs ih=>intro k;simp only [List.zipIdx_cons,List.map_cons,ownC,ih]
 exact key x.cells 0
@[go_sem] theorem qij {id ver:Nat} {p:List (Nat×Nat×Nat)} {i m k:Nat}:ownC id ver p i m k []= []:=rfl
@[go_sem] theorem qfv {id ver:Nat} {p:List (Nat×Nat×Nat)} {i m k:Nat} {c:PV} {cs:List PV}:ownC id ver p i m k (c::cs)=ofOwn id ver (p++ [(i,m,k)]) c::ownC id ver p i m (k+1) cs:=rfl
@[go_sem] theorem qpw {id ver:Nat} {p:List (Nat×Nat×Nat)} {v:Value}:ofOwn id ver p (.a v)= .a v:=rfl
@[go_sem] theorem qoe {id ver:Nat} {p:List (Nat×Nat×Nat)} {e:Nat} {es:List PV}:ofOwn id ver p (.sl e es)= .ri id ver p:=rfl
@[go_sem] theorem qoa {id ver:Nat} {p:List (Nat×Nat×Nat)} {e:Nat} {es:List PV}:ofOwn id ver p (.fz e es)= .sz e es:=rfl
@[go_sem] theorem qqj {v:Value}:ofFrozen (.a v)= .a v:=rfl
@[go_sem] theorem qp7 {e:Nat} {es:List PV}:ofFrozen (.sl e es)= .sz e es:=rfl
@[go_sem] theorem qpv {e:Nat} {es:List PV}:ofFrozen (.fz e es)= .sz e es:=rfl
def loadE (x:Option PV) (id ver:Nat) (p:List (Nat×Nat×Nat)) (i m o:Nat) (w:Option Nat):Option TV:=
 match x with
 |some x=>pickCells (ownC id ver p i m 0 x.cells) o w
 |none=>none
@[go_sem] theorem qdm {x:PV} {id ver:Nat} {p:List (Nat×Nat×Nat)} {i m o:Nat} {w:Option Nat}:loadE (some x) id ver p i m o w=pickCells (ownC id ver p i m 0 x.cells) o w:=rfl
def loadS (n:Option Node) (id i m o:Nat) (w:Option Nat):Option TV:=
 match n with
 |some (.sl _ ver _ es)=>loadE es[i]? id ver [] i m o w
 |_=>none
@[go_sem] theorem qlk {q:Bool} {ver e:Nat} {es:List PV} {id i m o:Nat} {w:Option Nat}:loadS (some (.sl q ver e es)) id i m o w=loadE es[i]? id ver [] i m o w:=rfl
def loadP (nd:Nodes) (w:Option Nat):TV→Option TV
 | .rf id=>loadN (nodeL nd id) 0 w
 | .ad id o=>loadN (nodeL nd id) o w
 | .ea id i m o=>loadS (nodeL nd id) id i m o w
 | .ez cs o=>pickCells (cs.map ofFrozen) o w
 |v=>((loadAt w v).run ⟨[],nd,0⟩).map (·.1)
@[go_sem] theorem qi6 {w:Option Nat} {id:Nat}:loadP nd w (.rf id)=loadN (nodeL nd id) 0 w:=rfl
@[go_sem] theorem qio {w:Option Nat} {id o:Nat}:loadP nd w (.ad id o)=loadN (nodeL nd id) o w:=rfl
@[go_sem] theorem qjs {w:Option Nat} {id i m o:Nat}:loadP nd w (.ea id i m o)=loadS (nodeL nd id) id i m o w:=rfl
@[go_sem] theorem qjg {w:Option Nat} {cs:List PV} {o:Nat}:loadP nd w (.ez cs o)=pickCells (cs.map ofFrozen) o w:=rfl
def Reads {α:Type} (m:M α):Prop:=∀s:St,m.run s=(m.run ⟨[],s.nodes,0⟩).map fun p=>(p.1,s)
theorem Reads.pure {α:Type} (x:α):Reads (M.pure x):=fun _=>rfl
theorem Reads.fail {α:Type}:Reads (M.fail:M α):=fun _=>rfl
theorem Reads.getN {α:Type} {id:Nat} {k:Option Node→M α} (h:∀n,Reads (k n)):Reads ((VM.getN id).bind k):=by
 intro s
 simp only [vad]
 exact h _ s
theorem Reads.liftO {α:Type} (x:Option α):Reads (VM.liftO x):=by cases x;exact Reads.fail;exact Reads.pure _
theorem vrt (w : Option Nat) (v : TV) : Reads (loadAt w v) := by
  unfold loadAt
  split <;> first
    | exact Reads.fail
    | exact Reads.liftO _
    | (refine Reads.getN fun n => ?_
       repeat' split
       all_goals first
         | exact Reads.fail
         | exact Reads.liftO _)
theorem ve4 (w:Option Nat) (v:TV) (s:St):(loadAt w v).run s=(loadP s.nodes w v).map (·,s):=by
 cases v with
 |rf id=>
  simp only [loadAt,vad,loadP,loadN,nodeL]
  simp only [VM.getN,M.run,St.node]
  cases (look s.nodes id).getD none with
  |none=>rfl
  |some n=>
   cases n with
   |bx z cs=>simp only;cases pickCells cs 0 w<;>rfl
   |sl _ _ _ _=>rfl
 |ad id o=>
  simp only [loadAt,vad,loadP,loadN,nodeL]
  simp only [VM.getN,M.run,St.node]
  cases (look s.nodes id).getD none with
  |none=>rfl
  |some n=>
   cases n with
   |bx z cs=>simp only;cases pickCells cs o w<;>rfl
   |sl _ _ _ _=>rfl
 |ea id i m o=>
  simp only [loadAt,vad,loadP,loadS,nodeL]
  simp only [VM.getN,M.run,St.node]
  cases (look s.nodes id).getD none with
  |none=>rfl
  |some n=>
   cases n with
   |bx z cs=>rfl
   |sl q ver e es=>
    simp only [loadE]
    cases es[i]? with
    |none=>rfl
    |some x=>simp only [vre];cases pickCells (ownC id ver [] i m 0 x.cells) o w<;>rfl
 |ez cs o=>
  simp only [loadAt,loadP]
  cases pickCells (cs.map ofFrozen) o w<;>rfl
 |_=>
  rw [vrt]
  simp only [loadP,Option.map_map]
  congr 1
def pairS (o:Option TV) (s:St):Option (TV×St):=o.map (·,s)
@[go_sem] theorem qdw {v:TV} {s:St}:pairS (some v) s=some (v,s):=rfl
@[go_sem] theorem qe6 {w:Option Nat} {v:TV} {s:St}:(loadAt w v).run s=pairS (loadP s.nodes w v) s:=ve4 w v s
@[go_sem] theorem vqo {d:Nat} {w:Option Nat} {x:Opd}:goN Φ N (.ops b (⟨.load d w x,none,g⟩::os) live::r) sl nd nx=putK Φ N d (loadP nd w (ov sl x)) (.ops (b+100) os live::r) sl nd nx:=by
 rw [va4]
 simp only [exec,vad,vay,ve4]
 cases loadP nd w (ov sl x)<;>rfl
def fadP (nd:Nodes) (off:Nat):TV→Option TV
 | .rf id=>match nodeL nd id with|some (.bx _ _)=>some (.ad id off)|_=>none
 | .ad id o=>some (.ad id (o+off))
 | .ea id i m o=>match nodeL nd id with|some (.sl _ _ _ _)=>some (.ea id i m (o+off))|_=>none
 | .ez cs o=>some (.ez cs (o+off))
 |v=>((fieldAt off v).run ⟨[],nd,0⟩).map (·.1)
def fadN (n:Option Node) (id off:Nat):Option TV:=
 match n with
 |some (.bx _ _)=>some (.ad id off)
 |_=>none
def fadS (n:Option Node) (id i m o:Nat):Option TV:=
 match n with
 |some (.sl _ _ _ _)=>some (.ea id i m o)
 |_=>none
@[go_sem] theorem qn9 {id off:Nat}:fadP nd off (.rf id)=fadN (nodeL nd id) id off:=rfl
@[go_sem] theorem qmb {z:Bool} {cs:List TV} {id off:Nat}:fadN (some (.bx z cs)) id off=some (.ad id off):=rfl
@[go_sem] theorem qod {id o off:Nat}:fadP nd off (.ad id o)=some (.ad id (o+off)):=rfl
@[go_sem] theorem qo7 {id i m o off:Nat}:fadP nd off (.ea id i m o)=fadS (nodeL nd id) id i m (o+off):=rfl
@[go_sem] theorem qlq {q:Bool} {ver e:Nat} {es:List PV} {id i m o:Nat}:fadS (some (.sl q ver e es)) id i m o=some (.ea id i m o):=rfl
@[go_sem] theorem qpg {cs:List PV} {o off:Nat}:fadP nd off (.ez cs o)=some (.ez cs (o+off)):=rfl
theorem vpy (off : Nat) (v : TV) : Reads (fieldAt off v) := by
  unfold fieldAt
  split <;> first
    | exact Reads.fail
    | exact Reads.pure _
    | (refine Reads.getN fun n => ?_
       repeat' split
       all_goals first
         | exact Reads.fail
         | exact Reads.pure _)
theorem vg4 (off:Nat) (v:TV) (s:St):(fieldAt off v).run s=(fadP s.nodes off v).map (·,s):=by
 cases v with
 |rf id=>
  simp only [fieldAt,vad,fadP,nodeL]
  simp only [VM.getN,M.run,St.node]
  cases (look s.nodes id).getD none with
  |none=>rfl
  |some n=>cases n<;>rfl
 |ea id i m o=>
  simp only [fieldAt,vad,fadP,nodeL]
  simp only [VM.getN,M.run,St.node]
  cases (look s.nodes id).getD none with
  |none=>rfl
  |some n=>cases n<;>rfl
 |_=>
  rw [vpy]
  simp only [fadP]
  first
   |rfl
   |(simp only [Option.map_map];congr 1)
@[go_sem] theorem vtc {d off:Nat} {x:Opd}:goN Φ N (.ops b (⟨.fad d x off,none,g⟩::os) live::r) sl nd nx=putK Φ N d (fadP nd off (ov sl x)) (.ops (b+100) os live::r) sl nd nx:=by
 rw [va4]
 simp only [exec,vad,vay,vg4]
 cases fadP nd off (ov sl x)<;>rfl
def fldT (off:Nat) (w:Option Nat):TV→Option TV
 | .st cs=>pickCells cs off w
 |_=>none
@[go_sem] theorem qoh {off:Nat} {w:Option Nat} {cs:List TV}:fldT off w (.st cs)=pickCells cs off w:=rfl
@[go_sem] theorem vug {d off:Nat} {w:Option Nat} {x:Opd}:goN Φ N (.ops b (⟨.fld d x off w,none,g⟩::os) live::r) sl nd nx=putK Φ N d (fldT off w (ov sl x)) (.ops (b+100) os live::r) sl nd nx:=by
 rw [va4]
 simp only [exec,vad,vay]
 cases ov sl x with
 |st cs=>simp only [vad,fldT];cases pickCells cs off w<;>rfl
 |_=>rfl
def elemsN (n:Option Node):Option (Nat×List PV):=
 match n with
 |some (.sl _ _ e es)=>some (e,es)
 |_=>none
@[go_sem] theorem qe3 {q:Bool} {ver e:Nat} {es:List PV}:elemsN (some (.sl q ver e es))=some (e,es):=rfl
def elemsB (n:Option Node) (lo k:Nat):Option (Nat×List PV):=
 match n with
 |some (.sl _ _ e es)=>some (e,(es.drop lo).take k)
 |_=>none
@[go_sem] theorem qfb {q:Bool} {ver e lo k:Nat} {es:List PV}:elemsB (some (.sl q ver e es)) lo k=some (e,(es.drop lo).take k):=rfl
def elemsI (n:Option Node) (ver:Nat) (p:List (Nat×Nat×Nat)):Option (Nat×List PV):=
 match n with
 |some (.sl _ ver' _ es)=>if ver'=ver then dget es p else none
 |_=>none
@[go_sem] theorem qff {q:Bool} {ver ver' e:Nat} {es:List PV} {p:List (Nat×Nat×Nat)}:elemsI (some (.sl q ver' e es)) ver p=if ver'=ver then dget es p else none:=rfl
def elemsP (nd:Nodes):TV→Option (Nat×List PV)
 | .nl e=>some (e,[])
 | .sz e es=>some (e,es)
 | .rf id=>elemsN (nodeL nd id)
 | .sb id lo k=>elemsB (nodeL nd id) lo k
 | .ri id ver p=>elemsI (nodeL nd id) ver p
 |_=>none
@[go_sem] theorem qj0 {e:Nat}:elemsP nd (.nl e)=some (e,[]):=rfl
@[go_sem] theorem qki {e:Nat} {es:List PV}:elemsP nd (.sz e es)=some (e,es):=rfl
@[go_sem] theorem qjy {id:Nat}:elemsP nd (.rf id)=elemsN (nodeL nd id):=rfl
@[go_sem] theorem vn1 {id lo k:Nat}:elemsP nd (.sb id lo k)=elemsB (nodeL nd id) lo k:=rfl
@[go_sem] theorem vpq {id ver:Nat} {p:List (Nat×Nat×Nat)}:elemsP nd (.ri id ver p)=elemsI (nodeL nd id) ver p:=rfl
theorem vd5 (v:TV) (s:St):(elems v).run s=(elemsP s.nodes v).map (·,s):=by
 cases v with
 |rf id=>
  simp only [elems,vad,elemsP,elemsN,nodeL]
  simp only [VM.getN,M.run,St.node]
  cases (look s.nodes id).getD none with
  |none=>rfl
  |some n=>cases n<;>rfl
 |sb id lo k=>
  simp only [elems,vad,elemsP,elemsB,nodeL]
  simp only [VM.getN,M.run,St.node]
  cases (look s.nodes id).getD none with
  |none=>rfl
  |some n=>cases n<;>rfl
 |ri id ver p=>
  simp only [elems,vad,elemsP,elemsI,nodeL]
  simp only [VM.getN,M.run,St.node]
  cases (look s.nodes id).getD none with
  |none=>rfl
  |some n=>
   cases n with
   |bx _ _=>rfl
   |sl q ver' e es=>
    simp only
    split
    ·cases dget es p<;>rfl
    ·rfl
 |_=>rfl
def lenO (o:Option (Nat×List PV)):Option TV:=o.map fun r=> .a (.int .i64 r.2.length)
@[go_sem] theorem qh0 {e:Nat} {es:List PV}:lenO (some (e,es))=some (.a (.int .i64 es.length)):=rfl
@[go_sem] theorem vul {d:Nat} {x:Opd}:goN Φ N (.ops b (⟨.len d x,none,g⟩::os) live::r) sl nd nx=putK Φ N d (lenO (elemsP nd (ov sl x))) (.ops (b+100) os live::r) sl nd nx:=by
 rw [va4]
 simp only [exec,vad,vay,vd5]
 cases elemsP nd (ov sl x)<;>rfl
def b2sU:Option (List UInt8)→Option TV
 |some bs=>some (.a (.string ⟨bs.toArray⟩))
 |none=>none
@[go_sem] theorem qf0 {bs:List UInt8}:b2sU (some bs)=some (.a (.string ⟨bs.toArray⟩)):=rfl
def b2sO (e:Nat) (o:Option (Nat×List PV)):Option TV:=
 match o with
 |some (e',es)=>if e'=e then b2sU (u8of es) else none
 |none=>none
@[go_sem] theorem qe5 {e:Nat} {es:List PV}:b2sO e (some (e,es))=b2sU (u8of es):=by simp [b2sO]
@[go_sem] theorem qhq:u8of []=some []:=rfl
def u8c (b:UInt8):Option (List UInt8)→Option (List UInt8)
 |some bs=>some (b::bs)
 |none=>none
@[go_sem] theorem qix {b:UInt8} {bs:List UInt8}:u8c b (some bs)=some (b::bs):=rfl
@[go_sem] theorem qga {n:Int} {es:List PV}:u8of (.a (.int .u8 n)::es)=u8c (UInt8.ofNat n.toNat) (u8of es):=by
 simp only [u8of]
 cases u8of es<;>rfl
@[go_sem] theorem vu2 {d e:Nat} {x:Opd}:goN Φ N (.ops b (⟨.b2s d e x,none,g⟩::os) live::r) sl nd nx=putK Φ N d (b2sO e (elemsP nd (ov sl x))) (.ops (b+100) os live::r) sl nd nx:=by
 rw [va4]
 simp only [exec,vad,vay,vd5]
 cases elemsP nd (ov sl x) with
 |none=>rfl
 |some p=>
  obtain ⟨e',es⟩:=p
  simp only [b2sO,Option.map_some]
  split
  ·cases u8of es<;>rfl
  ·rfl
def slenT:TV→Option TV
 | .a (.string s)=>some (.a (.int .i64 s.size))
 |_=>none
@[go_sem] theorem qox {s:ByteArray}:slenT (.a (.string s))=some (.a (.int .i64 s.size)):=rfl
@[go_sem] theorem vq8 {d:Nat} {x:Opd}:goN Φ N (.ops b (⟨.slen d x,none,g⟩::os) live::r) sl nd nx=putK Φ N d (slenT (ov sl x)) (.ops (b+100) os live::r) sl nd nx:=by
 rw [va4]
 simp only [exec,vad,vay]
 cases ov sl x with
 |a v=>cases v<;>rfl
 |_=>rfl
def iadP (m:Nat) (x:TV) (es:List PV) (i:Nat):Option TV:=
 match x with
 | .rf id=>some (.ea id i m 0)
 | .sb id lo _=>some (.ea id (lo+i) m 0)
 | .ri id ver p=>some (.ei id ver p i m 0)
 | .sz _ _=>some (.ez (es[i]?.getD .un).cells 0)
 |_=>none
@[go_sem] theorem qlz {m id i:Nat} {es:List PV}:iadP m (.rf id) es i=some (.ea id i m 0):=rfl
@[go_sem] theorem qnu {m id lo k i:Nat} {es:List PV}:iadP m (.sb id lo k) es i=some (.ea id (lo+i) m 0):=rfl
@[go_sem] theorem qny {m id ver i:Nat} {p:List (Nat×Nat×Nat)} {es:List PV}:iadP m (.ri id ver p) es i=some (.ei id ver p i m 0):=rfl
@[go_sem] theorem qlp {m e i:Nat} {es es':List PV}:iadP m (.sz e es') es i=some (.ez (es[i]?.getD .un).cells 0):=rfl
def iadO (e m:Nat) (x:TV) (o:Option (Nat×List PV)) (i:TV):Option TV:=
 match o,i with
 |some (e',es),.a (.int _ n)=>if e'=e∧0≤n∧n<es.length then iadP m x es n.toNat else none
 |_,_=>none
@[go_sem] theorem qom {e m:Nat} {x:TV} {es:List PV} {k:IntKind} {n:Int} (h0:0≤n) (h1:n<es.length):iadO e m x (some (e,es)) (.a (.int k n))=iadP m x es n.toNat:=by
 simp [iadO,h0,h1]
theorem vhd (e m:Nat) (x:TV) (i:Int) (s:St):(indexAt e m x i).run s=(iadO e m x (elemsP s.nodes x) (.a (.int .i64 i))).map (·,s):=by
 simp only [indexAt,vad,vd5]
 cases ho:elemsP s.nodes x with
 |none=>rfl
 |some p=>
  obtain ⟨e',es⟩:=p
  simp only [Option.map_some,iadO]
  rw [qam]
  split
  ·rename_i hcond
   have hget:es[i.toNat]? =some (es[i.toNat]'(by omega)):=List.getElem?_eq_getElem (by omega)
   cases x with
   |sz e0 es0=>
    simp only [elemsP,Option.some.injEq,Prod.mk.injEq] at ho
    obtain ⟨_,rfl⟩:=ho
    simp only [iadP,hget]
    rfl
   |_=>rfl
  ·rfl
@[go_sem] theorem vtu {d e m:Nat} {x i:Opd}:goN Φ N (.ops b (⟨.iad d e m x i,none,g⟩::os) live::r) sl nd nx=putK Φ N d (iadO e m (ov sl x) (elemsP nd (ov sl x)) (ov sl i)) (.ops (b+100) os live::r) sl nd nx:=by
 rw [va4]
 simp only [exec,vad,vay]
 cases hi:ov sl i with
 |a v=>
  cases v with
  |int k n=>
   simp only [asI,vad,vhd]
   have:iadO e m (ov sl x) (elemsP nd (ov sl x)) (.a (.int .i64 n))=iadO e m (ov sl x) (elemsP nd (ov sl x)) (.a (.int k n)):=by
    cases elemsP nd (ov sl x)<;>rfl
   rw [this]
   cases iadO e m (ov sl x) (elemsP nd (ov sl x)) (.a (.int k n))<;>rfl
  |_=>cases elemsP nd (ov sl x)<;>rfl
 |_=>cases elemsP nd (ov sl x)<;>rfl
def ixT (x i:TV):Option TV:=
 match x,i with
 | .a (.string s),.a (.int _ n)=>(byteAt s n).map .a
 |_,_=>none
@[go_sem] theorem vxh {d:Nat} {x i:Opd}:goN Φ N (.ops b (⟨.ix d x i,none,g⟩::os) live::r) sl nd nx=putK Φ N d (ixT (ov sl x) (ov sl i)) (.ops (b+100) os live::r) sl nd nx:=by
 rw [va4]
 simp only [exec,vad,vay]
 cases ov sl x with
 |a v=>
  cases v with
  |string s=>
   cases ov sl i with
   |a u=>
    cases u with
    |int k n=>simp only [asI,vad,ixT];cases byteAt s n<;>rfl
    |_=>rfl
   |_=>rfl
  |_=>cases asI (ov sl i)<;>cases ov sl i<;>rfl
 |_=>cases asI (ov sl i)<;>cases ov sl i<;>rfl
def binT (op:BinOp) (x y:TV):Option TV:=
 match x,y with
 | .a u,.a v=>(binA op u v).map .a
 |_,_=>none
@[go_sem] theorem vud {d:Nat} {op:BinOp} {x y:Opd}:goN Φ N (.ops b (⟨.bin d op x y,none,g⟩::os) live::r) sl nd nx=putK Φ N d (binT op (ov sl x) (ov sl y)) (.ops (b+100) os live::r) sl nd nx:=by
 rw [va4]
 simp only [exec,vad,vay]
 cases ov sl x with
 |a u=>
  cases ov sl y with
  |a v=>simp only [vad,binT];cases binA op u v<;>rfl
  |_=>rfl
 |_=>cases ov sl y<;>rfl
section
variable {k k':IntKind} {x y:Int}
theorem kk (k:IntKind):(k==k)=true:=by cases k<;>rfl
@[go_sem] theorem qmd:binT .add (.a (.int k x)) (.a (.int k y))=some (.a (.int k (k.wrap (x+y)))):=by simp [binT,binA,isShift,intBin]
@[go_sem] theorem qnl:binT .sub (.a (.int k x)) (.a (.int k y))=some (.a (.int k (k.wrap (x-y)))):=by simp [binT,binA,isShift,intBin]
@[go_sem] theorem qly:binT .mul (.a (.int k x)) (.a (.int k y))=some (.a (.int k (k.wrap (x * y)))):=by simp [binT,binA,isShift,intBin]
@[go_sem] theorem qn0 (h:y≠0):binT .quo (.a (.int k x)) (.a (.int k y))=some (.a (.int k (k.wrap (x.tdiv y)))):=by simp [binT,binA,isShift,intBin,h]
@[go_sem] theorem qmw (h:y≠0):binT .rem (.a (.int k x)) (.a (.int k y))=some (.a (.int k (x.tmod y))):=by simp [binT,binA,isShift,intBin,h]
@[go_sem] theorem ql2 (h:0≤y):binT .shl (.a (.int k x)) (.a (.int k' y))=some (.a (.int k (k.wrap (x * 2^(min y.toNat k.bits))))):=by
 have:¬y<0:=by omega
 simp [binT,binA,isShift,intBin,this]
@[go_sem] theorem qnt (h:0≤y):binT .shr (.a (.int k x)) (.a (.int k' y))=some (.a (.int k (x.fdiv (2^(min y.toNat k.bits))))):=by
 have:¬y<0:=by omega
 simp [binT,binA,isShift,intBin,this]
@[go_sem] theorem qni:binT .eql (.a (.int k x)) (.a (.int k y))=some (.a (.bool (decide (x=y)))):=by
 simp [binT,binA,isShift,intBin];rfl
@[go_sem] theorem qnr:binT .neq (.a (.int k x)) (.a (.int k y))=some (.a (.bool (decide (x≠y)))):=by
 simp [binT,binA,isShift,intBin,bne];rfl
def iAnd (k:IntKind) (x y:Int):Int:=k.wrap (BitVec.ofInt k.bits x&&&BitVec.ofInt k.bits y).toNat
def iOr (k:IntKind) (x y:Int):Int:=k.wrap (BitVec.ofInt k.bits x|||BitVec.ofInt k.bits y).toNat
def iXor (k:IntKind) (x y:Int):Int:=k.wrap (BitVec.ofInt k.bits x^^^BitVec.ofInt k.bits y).toNat
def iAndNot (k:IntKind) (x y:Int):Int:=k.wrap (BitVec.ofInt k.bits x&&& ~~~(BitVec.ofInt k.bits y)).toNat
@[go_sem] theorem qnk:binT .and (.a (.int k x)) (.a (.int k y))=some (.a (.int k (iAnd k x y))):=by simp [binT,binA,isShift,intBin,iAnd]
@[go_sem] theorem qpo:binT .or (.a (.int k x)) (.a (.int k y))=some (.a (.int k (iOr k x y))):=by simp [binT,binA,isShift,intBin,iOr]
@[go_sem] theorem qn5:binT .xor (.a (.int k x)) (.a (.int k y))=some (.a (.int k (iXor k x y))):=by simp [binT,binA,isShift,intBin,iXor]
@[go_sem] theorem qdo:binT .andNot (.a (.int k x)) (.a (.int k y))=some (.a (.int k (iAndNot k x y))):=by simp [binT,binA,isShift,intBin,iAndNot]
@[go_sem] theorem qnd:binT .lss (.a (.int k x)) (.a (.int k y))=some (.a (.bool (decide (x<y)))):=by simp [binT,binA,isShift,intBin]
@[go_sem] theorem qmk:binT .leq (.a (.int k x)) (.a (.int k y))=some (.a (.bool (decide (x≤y)))):=by simp [binT,binA,isShift,intBin]
@[go_sem] theorem qnc:binT .gtr (.a (.int k x)) (.a (.int k y))=some (.a (.bool (decide (y<x)))):=by simp [binT,binA,isShift,intBin]
@[go_sem] theorem qnh:binT .geq (.a (.int k x)) (.a (.int k y))=some (.a (.bool (decide (y≤x)))):=by simp [binT,binA,isShift,intBin]
end
@[go_sem] theorem qie {x y:ByteArray} (h:x.size+y.size≤140737488351232):binT .add (.a (.string x)) (.a (.string y))=some (.a (.string (x++y))):=by simp [binT,binA,strBin,h]
theorem toList_inj {x y:ByteArray}:x.toList=y.toList↔x=y:=by
 rw [ByteArray.toList_eq,ByteArray.toList_eq]
 constructor
 ·intro h;exact ByteArray.ext (Array.toList_inj.1 h)
 ·rintro rfl;rfl
theorem vk3 (x y:ByteArray):(x.toList==y.toList)=decide (x=y):=by
 by_cases h:x=y
 ·subst h;simp
 ·have:x.toList≠y.toList:=fun e=>h (toList_inj.1 e)
  simp [h,this]
@[go_sem] theorem qii {x y:ByteArray}:binT .eql (.a (.string x)) (.a (.string y))=some (.a (.bool (decide (x=y)))):=by
 simp only [binT,binA,strBin,vk3,Option.map_some]
@[go_sem] theorem qho {x y:ByteArray}:binT .neq (.a (.string x)) (.a (.string y))=some (.a (.bool (decide (x≠y)))):=by
 simp only [binT,binA,strBin,vk3,Option.map_some,decide_not]
def beqT (ne:Bool) (x y:TV):Option TV:=
 match x,y with
 | .a (.bool u),.a (.bool v)=>some (.a (.bool (if ne then u !=v else u==v)))
 |_,_=>none
@[go_sem] theorem qp2 {u v:Bool}:beqT false (.a (.bool u)) (.a (.bool v))=some (.a (.bool (u==v))):=rfl
@[go_sem] theorem qpy {u v:Bool}:beqT true (.a (.bool u)) (.a (.bool v))=some (.a (.bool (u !=v))):=rfl
@[go_sem] theorem vtt {d:Nat} {ne:Bool} {x y:Opd}:goN Φ N (.ops b (⟨.beq d ne x y,none,g⟩::os) live::r) sl nd nx=putK Φ N d (beqT ne (ov sl x) (ov sl y)) (.ops (b+100) os live::r) sl nd nx:=by
 rw [va4]
 simp only [exec,vad,vay]
 cases ov sl x with
 |a u=>
  cases u with
  |bool u=>
   cases ov sl y with
   |a v=>cases v<;>rfl
   |_=>rfl
  |_=>cases ov sl y with
   |a v=>cases v<;>rfl
   |_=>rfl
 |_=>cases ov sl y<;>rfl
def unT (op:UnOp) (x:TV):Option TV:=
 match x with
 | .a u=>(unA op u).map .a
 |_=>none
@[go_sem] theorem qo8 {t:Bool}:unT .not (.a (.bool t))=some (.a (.bool (!t))):=rfl
@[go_sem] theorem qpm {k:IntKind} {n:Int}:unT .neg (.a (.int k n))=some (.a (.int k (k.wrap (0-n)))):=rfl
@[go_sem] theorem vxo {d:Nat} {op:UnOp} {x:Opd}:goN Φ N (.ops b (⟨.un d op x,none,g⟩::os) live::r) sl nd nx=putK Φ N d (unT op (ov sl x)) (.ops (b+100) os live::r) sl nd nx:=by
 rw [va4]
 simp only [exec,vad,vay]
 cases ov sl x with
 |a u=>simp only [vad,unT];cases unA op u<;>rfl
 |_=>rfl
def cviT (k:IntKind) (x:TV):Option TV:=
 match x with
 | .a (.int _ n)=>some (.a (.int k (k.wrap n)))
 |_=>none
@[go_sem] theorem qqa {k k':IntKind} {n:Int}:cviT k (.a (.int k' n))=some (.a (.int k (k.wrap n))):=rfl
@[go_sem] theorem vsx {d:Nat} {k:IntKind} {x:Opd}:goN Φ N (.ops b (⟨.cvi d k x,none,g⟩::os) live::r) sl nd nx=putK Φ N d (cviT k (ov sl x)) (.ops (b+100) os live::r) sl nd nx:=by
 rw [va4]
 simp only [exec,vad,vay]
 cases ov sl x with
 |a v=>cases v<;>rfl
 |_=>rfl
def extT (i:Nat) (x:TV):Option TV:=
 match x with
 | .tp cs=>cs[i]?
 |_=>none
@[go_sem] theorem qph {i:Nat} {cs:List TV}:extT i (.tp cs)=cs[i]? :=rfl
@[go_sem] theorem vt4 {d i:Nat} {x:Opd}:goN Φ N (.ops b (⟨.ext d x i,none,g⟩::os) live::r) sl nd nx=putK Φ N d (extT i (ov sl x)) (.ops (b+100) os live::r) sl nd nx:=by
 rw [va4]
 simp only [exec,vad,vay]
 cases ov sl x with
 |tp cs=>simp only [vad,extT];cases cs[i]? <;>rfl
 |_=>rfl
def gK (Φ:Nat→Option Callee) (N:Nat) (u:TV) (want:Bool) (b:Nat) (op:VOp) (dst:Option Nat) (os:List VOper) (live:List Nat) (r:List It) (sl:Slots) (nd:Nodes) (nx:Nat):Option (Out×St):=
 match u with
 | .a (.bool t)=>if t=want then goN Φ N (.ops b (⟨op,none,dst⟩::os) live::r) sl nd nx else aftK Φ N ((putO dst TV.none).run ⟨sl,nd,nx⟩) (.ops (b+100) os live::r)
 | .a (.tuple _)=>aftK Φ N ((putO dst TV.none).run ⟨sl,nd,nx⟩) (.ops (b+100) os live::r)
 |_=>none
theorem vw9 {op:VOp} {t:Nat} {want:Bool} {dst:Option Nat}:goN Φ N (.ops b (⟨op,some (t,want),dst⟩::os) live::r) sl nd nx=gK Φ N (slotL sl t) want b op dst os live r sl nd nx:=by
 rw [voq]
 simp only [execG,vad]
 simp only [VM.getS,M.run,St.slot,gK,slotL]
 cases (look sl t).getD TV.un with
 |a v=>
  cases v with
  |bool u=>
   simp only
   split
   ·rw [va4]
   ·rfl
  |_=>rfl
 |_=>rfl
attribute [go_sem] vw9
@[go_sem] theorem qqg {op:VOp} {dst:Option Nat}:gK Φ N (.a (.bool true)) true b op dst os live r sl nd nx=goN Φ N (.ops b (⟨op,none,dst⟩::os) live::r) sl nd nx:=rfl
@[go_sem] theorem qql {op:VOp} {dst:Option Nat}:gK Φ N (.a (.bool false)) false b op dst os live r sl nd nx=goN Φ N (.ops b (⟨op,none,dst⟩::os) live::r) sl nd nx:=rfl
@[go_sem] theorem qqn {op:VOp} {d:Nat}:gK Φ N (.a (.bool true)) false b op (some d) os live r sl nd nx=goN Φ N (.ops (b+100) os live::r) ((d,TV.none)::sl) nd nx:=rfl
@[go_sem] theorem qqh {op:VOp} {d:Nat}:gK Φ N (.a (.bool false)) true b op (some d) os live r sl nd nx=goN Φ N (.ops (b+100) os live::r) ((d,TV.none)::sl) nd nx:=rfl
@[go_sem] theorem qp3 {op:VOp}:gK Φ N (.a (.bool true)) false b op none os live r sl nd nx=goN Φ N (.ops (b+100) os live::r) sl nd nx:=rfl
@[go_sem] theorem qqc {op:VOp}:gK Φ N (.a (.bool false)) true b op none os live r sl nd nx=goN Φ N (.ops (b+100) os live::r) sl nd nx:=rfl
@[go_sem] theorem qoo {op:VOp} {want:Bool} {d:Nat}:gK Φ N TV.none want b op (some d) os live r sl nd nx=goN Φ N (.ops (b+100) os live::r) ((d,TV.none)::sl) nd nx:=rfl
@[go_sem] theorem qna {op:VOp} {want:Bool}:gK Φ N TV.none want b op none os live r sl nd nx=goN Φ N (.ops (b+100) os live::r) sl nd nx:=rfl
theorem qqm {op:VOp} {t want:Bool} {dst:Option Nat}:gK Φ N (.a (.bool t)) want b op dst os live r sl nd nx=if t=true then gK Φ N (.a (.bool true)) want b op dst os live r sl nd nx else gK Φ N (.a (.bool false)) want b op dst os live r sl nd nx:=by
 cases t<;>rfl
def mksM (b d e by_:Nat) (zs:List ZC) (x:TV):M Unit:=
 match x with
 | .a (.int .i64 n)=>
  if 0≤n∧n * by_≤140737488355328∧n≤9223372036854775807 then
   (setN b (some (.sl false 0 e (List.replicate n.toNat (zeroEl zs.length zs))))).bind fun _=>setS d (.rf b)
  else .fail
 |_=> .fail
theorem vz0 {b d e by_:Nat} {zs:List ZC} {n:Int} (h0:0≤n) (h1:n * by_≤140737488355328) (h2:n≤9223372036854775807):mksM b d e by_ zs (.a (.int .i64 n))=
  (setN b (some (.sl false 0 e (List.replicate n.toNat (zeroEl zs.length zs))))).bind fun _=>setS d (.rf b):=by
 simp [mksM,h0,h1,h2]
@[go_sem] theorem vuj {d e m n:Nat} {zs:List ZC} {ps:List (Nat×Opd)}:goN Φ N (.ops b (⟨.bsl d e m zs n ps,none,g⟩::os) live::r) sl nd nx=
  aftK Φ N (((bslM (flatZ zs) m ps false (List.replicate n (zeroEl m zs))).bind fun es=>(setN b (some (.sl es.2 0 e es.1))).bind fun _=>setS d (.rf b)).run ⟨sl,nd,nx⟩) (.ops (b+100) os live::r):=va4
theorem vzh {flat q:Bool} {m:Nat} {es:List PV}:bslM flat m [] q es= .pure (es,q):=rfl
def bslK (flat q:Bool) (m i:Nat) (y:PV×Bool) (ps:List (Nat×Opd)) (es:List PV):M (List PV×Bool):=if y.1.cells.length=m∧i<es.length then bslM flat m ps (q||y.2) (es.set i y.1) else .fail
theorem vvr {flat q:Bool} {m i:Nat} {x:Opd} {ps:List (Nat×Opd)} {es:List PV}:bslM flat m ((i,x)::ps) q es=
  (opd x).bind fun v=>(toEl flat v).bind fun y=>bslK flat q m i y ps es:=rfl
theorem qal {flat q:Bool} {m i:Nat} {y:PV×Bool} {ps:List (Nat×Opd)} {es:List PV} (h1:y.1.cells.length=m) (h2:i<es.length):bslK flat q m i y ps es=bslM flat m ps (q||y.2) (es.set i y.1):=by
 simp [bslK,h1,h2]
@[go_sem] theorem vum {d e by_:Nat} {mv:Bool} {x y:Opd}:goN Φ N (.ops b (⟨.app d e by_ mv x y,none,g⟩::os) live::r) sl nd nx=
  aftK Φ N (((appendM b e by_ mv (ov sl x) (ov sl y)).bind (setS d)).run ⟨sl,nd,nx⟩) (.ops (b+100) os live::r):=by
 rw [va4]
 simp only [exec,vad,vay]
@[go_sem] theorem voo {w:Nat} {x y:Opd}:goN Φ N (.ops b (⟨.store w x y,none,g⟩::os) live::r) sl nd nx=
  aftK Φ N ((storeAt b w (ov sl x) (ov sl y)).run ⟨sl,nd,nx⟩) (.ops (b+100) os live::r):=by
 rw [va4]
 simp only [exec,vad,vay]
def nilB (d:Nat) (v:TV):Option Node→M Unit
 |some (.bx _ _)=>setS d v
 |_=> .fail
def nilE (d:Nat) (v:TV):Option Node→M Unit
 |some (.sl _ _ _ _)=>setS d v
 |_=> .fail
def nilM (d:Nat):TV→M Unit
 | .rf id=>(getN id).bind (nilB d (.rf id))
 | .ad id o=>setS d (.ad id o)
 | .ea id i m o=>(getN id).bind (nilE d (.ea id i m o))
 | .ez cs o=>setS d (.ez cs o)
 | .fn f fs cs=>setS d (.fn f fs cs)
 | .ic t v=>setS d (.ic t v)
 |_=> .fail
theorem vy7 {d:Nat} {v:TV} {z:Bool} {cs:List TV}:nilB d v (some (.bx z cs))=setS d v:=rfl
theorem vxw {d:Nat} {v:TV} {q:Bool} {ver e:Nat} {es:List PV}:nilE d v (some (.sl q ver e es))=setS d v:=rfl
theorem qau {d id:Nat}:nilM d (.rf id)=(getN id).bind (nilB d (.rf id)):=rfl
theorem qbn {d id o:Nat}:nilM d (.ad id o)=setS d (.ad id o):=rfl
theorem qbz {d id i m o:Nat}:nilM d (.ea id i m o)=(getN id).bind (nilE d (.ea id i m o)):=rfl
theorem qab {d o:Nat} {cs:List PV}:nilM d (.ez cs o)=setS d (.ez cs o):=rfl
theorem qaf {d f:Nat} {fs cs:List TV}:nilM d (.fn f fs cs)=setS d (.fn f fs cs):=rfl
theorem qaa {d t:Nat} {v:TV}:nilM d (.ic t v)=setS d (.ic t v):=rfl
@[go_sem] theorem vop {d:Nat} {x:Opd}:goN Φ N (.ops b (⟨.nilck d x,none,g⟩::os) live::r) sl nd nx=
  aftK Φ N ((nilM d (ov sl x)).run ⟨sl,nd,nx⟩) (.ops (b+100) os live::r):=by
 rw [va4]
 simp only [exec,vad,vay]
 cases ov sl x with
 |rf id=>
  simp only [nilM,vad]
  congr 1
 |ea id i m o=>
  simp only [nilM,vad]
  congr 1
 |_=>rfl
@[go_sem] theorem vu9 {d f:Nat} {fs cs:List Opd}:goN Φ N (.ops b (⟨.mkf d f fs cs,none,g⟩::os) live::r) sl nd nx=
  goN Φ N (.ops (b+100) os live::r) ((d,.fn f (fs.map (ov sl)) (cs.map (ov sl)))::sl) nd nx:=by
 have key:∀(xs:List Opd) (s:St),(opds xs).run s=some (xs.map (ov s.slots),s):=by
  intro xs
  induction xs with
  |nil=>intro s;rfl
  |cons x xs ih=>intro s;simp only [opds,vad,vay,ih];rfl
 rw [va4]
 simp only [exec,vad,key]
 rfl
theorem vga:∀(xs:List Opd) (s:St),(opds xs).run s=some (xs.map (ov s.slots),s)
 | [],s=>rfl
 |x::xs,s=>by simp only [opds,vad,vay,vga xs];rfl
@[go_sem] theorem vti {d t:Nat} {x:Opd}:goN Φ N (.ops b (⟨.mki d t x,none,g⟩::os) live::r) sl nd nx=goN Φ N (.ops (b+100) os live::r) ((d,.ic t (ov sl x))::sl) nd nx:=by
 rw [va4]
 simp only [exec,vad,vay]
 rfl
@[go_sem] theorem vs6 {d e by_:Nat} {zs:List ZC} {x:Opd}:goN Φ N (.ops b (⟨.mks d e by_ zs x,none,g⟩::os) live::r) sl nd nx=
  aftK Φ N ((mksM b d e by_ zs (ov sl x)).run ⟨sl,nd,nx⟩) (.ops (b+100) os live::r):=by
 rw [va4]
 simp only [exec,vad,vay,mksM]
 rfl
@[go_sem] theorem vvg {d:Nat} {x:Opd}:goN Φ N (.ops b (⟨.cvs d x,none,g⟩::os) live::r) sl nd nx=
  aftK Φ N ((exec Φ b (.cvs d x)).run ⟨sl,nd,nx⟩) (.ops (b+100) os live::r):=va4
def boundO (sl:Slots):Option Opd→Option (Option Int)
 |none=>some none
 |some y=>(asI (ov sl y)).map some
theorem vmu (y:Option Opd) (s:St):(bound y).run s=(boundO s.slots y).map (·,s):=by
 cases y with
 |none=>rfl
 |some y=>
  simp only [bound,vad,vay,boundO]
  cases asI (ov s.slots y)<;>rfl
@[go_sem] theorem qec:boundO sl none=some none:=rfl
@[go_sem] theorem qdy {y:Opd}:boundO sl (some y)=(asI (ov sl y)).map some:=rfl
@[go_sem] theorem qlr {k:IntKind} {n:Int}:asI (.a (.int k n))=some n:=rfl
def cutK (Φ:Nat→Option Callee) (N:Nat) (d:Nat) (lo hi:Option (Option Int)) (f:Option Int→Option Int→M TV) (r:List It) (s:St):Option (Out×St):=
 match lo,hi with
 |some l,some h=>aftK Φ N (((f l h).bind (setS d)).run s) r
 |_,_=>none
@[go_sem] theorem qip {d:Nat} {l h:Option Int} {f:Option Int→Option Int→M TV} {s:St}:cutK Φ N d (some l) (some h) f r s=aftK Φ N (((f l h).bind (setS d)).run s) r:=rfl
@[go_sem] theorem vtr {d e:Nat} {x:Opd} {lo hi:Option Opd}:goN Φ N (.ops b (⟨.slc d e x lo hi,none,g⟩::os) live::r) sl nd nx=
  cutK Φ N d (boundO sl lo) (boundO sl hi) (sliceAt e (ov sl x)) (.ops (b+100) os live::r) ⟨sl,nd,nx⟩:=by
 rw [va4]
 simp only [exec,vad,vay,vmu]
 cases hlo:boundO sl lo with
 |none=>cases boundO sl hi<;>rfl
 |some l=>
  cases hhi:boundO sl hi with
  |none=>simp only [Option.map_some,Option.map_none,hhi];rfl
  |some h=>simp only [Option.map_some,hhi,vad,cutK]
@[go_sem] theorem vqy {d:Nat} {x:Opd} {lo hi:Option Opd}:goN Φ N (.ops b (⟨.sslc d x lo hi,none,g⟩::os) live::r) sl nd nx=
  cutK Φ N d (boundO sl lo) (boundO sl hi) (strAt (ov sl x)) (.ops (b+100) os live::r) ⟨sl,nd,nx⟩:=by
 rw [va4]
 simp only [exec,vad,vay,vmu]
 cases hlo:boundO sl lo with
 |none=>cases boundO sl hi<;>rfl
 |some l=>
  cases hhi:boundO sl hi with
  |none=>simp only [Option.map_some,Option.map_none,hhi];rfl
  |some h=>simp only [Option.map_some,hhi,vad,cutK]
def ext2 (t:Bool) (x y:Int):Int:=if t then (if y>x then y else x) else (if y<x then y else x)
theorem qka (x y:Int):ext2 true x y=max x y:=by simp only [ext2,if_true];split<;>omega
theorem qh3 (x y:Int):ext2 false x y=min x y:=by simp only [ext2,Bool.false_eq_true,if_false];split<;>omega
def mmT (t:Bool):TV→TV→Option TV
 | .a (.int k x),.a (.int _ y)=>some (.a (.int k (ext2 t x y)))
 |_,_=>none
@[go_sem] theorem qpz {t:Bool} {k k':IntKind} {x y:Int}:mmT t (.a (.int k x)) (.a (.int k' y))=some (.a (.int k (ext2 t x y))):=rfl
@[go_sem] theorem vpi {d:Nat} {t:Bool} {x y:Opd}:goN Φ N (.ops b (⟨.mmx d t [x,y],none,g⟩::os) live::r) sl nd nx=
  putK Φ N d (mmT t (ov sl x) (ov sl y)) (.ops (b+100) os live::r) sl nd nx:=by
 rw [va4]
 simp only [exec,vad,vga,List.map]
 cases ov sl x with
 |a u=>
  cases u with
  |int k n=>
   simp only [vad]
   cases ov sl y with
   |a v=>cases v<;>first|rfl|(cases t<;>rfl)
   |_=>rfl
  |_=>rfl
 |_=>rfl
def slc0K (Φ:Nat→Option Callee) (N:Nat) (d b e:Nat) (o:Option (Nat×List PV)) (r:List It) (sl:Slots) (nd:Nodes) (nx:Nat):Option (Out×St):=
 match o with
 |some (e',_)=>if e'=e then goN Φ N r ((d,.rf b)::sl) ((b,some (.sl false 0 e []))::nd) nx else none
 |none=>none
@[go_sem] theorem qfs {d b e:Nat} {es:List PV}:slc0K Φ N d b e (some (e,es)) r sl nd nx=goN Φ N r ((d,.rf b)::sl) ((b,some (.sl false 0 e []))::nd) nx:=by simp [slc0K]
@[go_sem] theorem vqw {d e:Nat} {x:Opd}:goN Φ N (.ops b (⟨.slc0 d e x,none,g⟩::os) live::r) sl nd nx=slc0K Φ N d b e (elemsP nd (ov sl x)) (.ops (b+100) os live::r) sl nd nx:=by
 rw [va4]
 simp only [exec,vad,vay,vd5]
 cases elemsP nd (ov sl x) with
 |none=>rfl
 |some p=>
  obtain ⟨e',es⟩:=p
  simp only [Option.map_some,slc0K]
  split<;>rfl
def callK (Φ:Nat→Option Callee) (N:Nat) (c:Option Callee) (b:Nat) (d:Option Nat) (xs:List TV) (r:List It) (s:St):Option (Out×St):=
 match c with
 |none=>none
 |some c=>aftK Φ N (((callM (some c) b xs).bind (putO d)).run s) r
@[go_sem] theorem vqt {d:Option Nat} {f:Nat} {xs:List Opd}:goN Φ N (.ops b (⟨.call d f xs,none,g⟩::os) live::r) sl nd nx=
  callK Φ N (Φ f) b d (xs.map (ov sl)) (.ops (b+100) os live::r) ⟨sl,nd,nx⟩:=by
 rw [va4]
 simp only [exec,vad,vga,callK]
 cases Φ f with
 |none=>rfl
 |some c=>simp only [vad]
def calvK (Φ:Nat→Option Callee) (N:Nat) (f:TV) (b:Nat) (d:Option Nat) (xs:List TV) (r:List It) (s:St):Option (Out×St):=
 match f with
 | .fn g fs cs=>callK Φ N (Φ g) b d (fs++xs++cs) r s
 |_=>none
@[go_sem] theorem qlw {g:Nat} {fs cs xs:List TV} {b:Nat} {d:Option Nat} {s:St}:calvK Φ N (.fn g fs cs) b d xs r s=callK Φ N (Φ g) b d (fs++xs++cs) r s:=rfl
@[go_sem] theorem vri {d:Option Nat} {f:Opd} {xs:List Opd}:goN Φ N (.ops b (⟨.calv d f xs,none,g⟩::os) live::r) sl nd nx=
  calvK Φ N (ov sl f) b d (xs.map (ov sl)) (.ops (b+100) os live::r) ⟨sl,nd,nx⟩:=by
 rw [va4]
 simp only [exec,vad,vay]
 cases ov sl f with
 |fn g fs cs=>
  simp only [vad,vga,calvK,callK]
  cases Φ g with
  |none=>rfl
  |some c=>simp only [vad]
 |_=>rfl
def backK (Φ:Nat→Option Callee) (N:Nat) (keeps scalar:Bool) (ms:List Md) (b:Nat) (d:Option Nat) (xs:List TV) (cs:List CV) (o:Option (List CV×List CV)) (r:List It) (s:St):Option (Out×St):=
 match o with
 |none=>none
 |some (rs,fs)=>aftK Φ N (((takeBack keeps (b+100) b ms xs cs fs).bind fun b'=>(if scalar then (if b'≤b+99 then (liftO (plainL rs)).bind fun ts=>M.pure (oneOf ts) else .fail) else resultTV keeps (b+99) b' rs).bind (putO d)).run s) r
def resS (top b:Nat) (rs:List CV):M TV:=if b≤top then (liftO (plainL rs)).bind fun ts=>M.pure (oneOf ts) else .fail
def resT (top:Nat) (r:List TV×Nat):M TV:=if r.2≤top then .pure (oneOf r.1) else .fail
theorem vyn {top b:Nat} {rs:List CV} (h:b≤top):resS top b rs=(liftO (plainL rs)).bind fun ts=>M.pure (oneOf ts):=by simp [resS,h]
theorem vza {top:Nat} {r:List TV×Nat} (h:r.2≤top):resT top r= .pure (oneOf r.1):=by simp [resT,h]
theorem vpz {q:Bool} {top b:Nat} {rs:List CV}:resultTV q top b rs=(unpackL q b rs).bind (resT top):=rfl
@[go_sem] theorem qpt {v:TV}:oneOf [v]=v:=rfl
@[go_sem] theorem qp1:oneOf []= .tp []:=rfl
@[go_sem] theorem qp8 {v u:TV} {l:List TV}:oneOf (v::u::l)= .tp (v::u::l):=rfl
@[go_sem] theorem qmv {v:Value}:plain (.a v)=some (.a v):=rfl
@[go_sem] theorem qhx {e:Nat} {es:List PV}:plain (.sl true e es)=some (.sz e es):=rfl
@[go_sem] theorem qi2 {cs:List CV}:plain (.st cs)=(plainL cs).map .st:=rfl
@[go_sem] theorem qdc:plainL []=some []:=rfl
def plC (a:Option TV) (o:Option (List TV)):Option (List TV):=match a,o with|some y,some ys=>some (y::ys)|_,_=>none
@[go_sem] theorem qj3 {y:TV} {ys:List TV}:plC (some y) (some ys)=some (y::ys):=rfl
@[go_sem] theorem qch {x:CV} {xs:List CV}:plainL (x::xs)=plC (plain x) (plainL xs):=rfl
theorem vus {d:Nat} {v:TV}:putO (some d) v=setS d v:=rfl
theorem vvh {v:TV}:putO none v= .pure ():=rfl
@[go_sem] theorem qoz {keeps:Bool} {ms:List Md} {b:Nat} {d:Option Nat} {xs:List TV} {cs rs fs:List CV} {s:St}:backK Φ N keeps true ms b d xs cs (some (rs,fs)) r s=
  aftK Φ N (((takeBack keeps (b+100) b ms xs cs fs).bind fun b'=>(resS (b+99) b' rs).bind (putO d)).run s) r:=rfl
@[go_sem] theorem qo1 {keeps:Bool} {ms:List Md} {b:Nat} {d:Option Nat} {xs:List TV} {cs rs fs:List CV} {s:St}:backK Φ N keeps false ms b d xs cs (some (rs,fs)) r s=
  aftK Φ N (((takeBack keeps (b+100) b ms xs cs fs).bind fun b'=>(resultTV keeps (b+99) b' rs).bind (putO d)).run s) r:=rfl
def goK (Φ:Nat→Option Callee) (N:Nat) (c:Callee) (b:Nat) (d:Option Nat) (xs:List TV) (o:Option (List CV×St)) (r:List It):Option (Out×St):=
 match o with
 |none=>none
 |some (cs,s)=>backK Φ N c.keeps c.scalar c.modes b d xs cs (c.go cs) r s
@[go_sem] theorem qhv {c:Callee} {b:Nat} {d:Option Nat} {xs:List TV} {cs:List CV} {s:St}:goK Φ N c b d xs (some (cs,s)) r=backK Φ N c.keeps c.scalar c.modes b d xs cs (c.go cs) r s:=rfl
@[go_sem] theorem qfn {c:Callee} {b:Nat} {d:Option Nat} {xs:List TV} {s:St}:callK Φ N (some c) b d xs r s=
  goK Φ N c b d xs (((lendA c.keeps (b+100) c.modes xs).bind fun ps=>show_ c.keeps c.modes xs ps).run s) r:=by
 simp only [callK,callM,vad,goK]
 cases (lendA c.keeps (b+100) c.modes xs).run s with
 |none=>rfl
 |some p=>
  obtain ⟨ps,s1⟩:=p
  simp only
  cases (show_ c.keeps c.modes xs ps).run s1 with
  |none=>rfl
  |some q=>
   obtain ⟨cs,s2⟩:=q
   simp only [backK]
   cases c.go cs with
   |none=>rfl
   |some x=>
    obtain ⟨rs,fs⟩:=x
    simp only [vad]
    cases (takeBack c.keeps (b+100) b c.modes xs cs fs).run s2 with
    |none=>rfl
    |some y=>simp only [vad]
end
def outK (f:Fn) (o:Option (Out×St)):Option (List CV×List CV):=
 match o with
 |some (.ext _,_)=>none
 |some (_,s)=>((takeOut f).run s).map (·.1)
 |none=>none
@[go_sem] theorem qm1 {f:Fn} {s:St}:outK f (some (.ret,s))=((takeOut f).run s).map (·.1):=rfl
@[go_sem] theorem qm0 {f:Fn} {s:St}:outK f (some (.nrm,s))=((takeOut f).run s).map (·.1):=rfl
def inK (Φ:Nat→Option Callee) (N:Nat) (f:Fn) (o:Option ((List TV×Nat)×St)):Option (List CV×List CV):=
 match o with
 |some ((vs,b),s)=>outK f (goN Φ N [.c f.body] ((List.range vs.length).zip vs++rootsOf 0 f.modes vs) s.nodes (b+1))
 |none=>none
def enumS:Nat→List TV→Slots
 |_,[]=> []
 |k,v::vs=>(k,v)::enumS (k+1) vs
@[go_sem] theorem qk4 {k:Nat}:enumS k []= []:=rfl
@[go_sem] theorem qhc {k:Nat} {v:TV} {vs:List TV}:enumS k (v::vs)=(k,v)::enumS (k+1) vs:=rfl
theorem vq3:∀(vs:List TV) (k:Nat),(List.range' k vs.length).zip vs=enumS k vs
 | [],k=>rfl
 |v::vs,k=>by simp only [List.length_cons,List.range'_succ,List.zip_cons_cons,enumS,vq3 vs]
@[go_sem] theorem ql5 {f:Fn} {vs:List TV} {b:Nat} {s:St}:inK Φ N f (some ((vs,b),s))=outK f (goN Φ N [.c f.body] (enumS 0 vs++rootsOf 0 f.modes vs) s.nodes (b+1)):=by
 simp only [inK,List.range_eq_range',vq3]
theorem vae {f:Fn} {args:List CV} (h:args.length=f.modes.length):runFn Φ N f args=inK Φ N f ((unpackL f.keeps 0 args).run ⟨[],[],0⟩):=by
 unfold runFn inK
 rw [if_pos h]
 cases (unpackL f.keeps 0 args).run ⟨[],[],0⟩ with
 |none=>rfl
 |some p=>
  obtain ⟨⟨vs,b⟩,s⟩:=p
  rfl
def stoN (n:Option Node) (w id o:Nat) (y:TV) (sl:Slots) (nd:Nodes) (nx:Nat):Option (Unit×St):=
 match n with
 |some (.bx false cs)=>if y.cells.length=w∧o+w≤cs.length∧y.cells.all TV.one=true then some ((),⟨sl,(id,some (.bx false (cs.take o++y.cells++cs.drop (o+w))))::nd,nx⟩) else none
 |_=>none
theorem vg5 {w id o:Nat} {y:TV}:(storeBox w id o y).run ⟨sl,nd,nx⟩=stoN (nodeL nd id) w id o y sl nd nx:=by
 simp only [storeBox,vad,stoN,nodeL]
 simp only [VM.getN,M.run,St.node]
 cases (look nd id).getD none with
 |none=>rfl
 |some n=>
  cases n with
  |sl _ _ _ _=>rfl
  |bx z cs=>
   cases z with
   |true=>rfl
   |false=>simp only;split<;>rfl
@[go_sem] theorem qoc {b w id:Nat} {y:TV}:(storeAt b w (.rf id) y).run ⟨sl,nd,nx⟩=stoN (nodeL nd id) w id 0 y sl nd nx:=vg5
@[go_sem] theorem qpl {b w id o:Nat} {y:TV}:(storeAt b w (.ad id o) y).run ⟨sl,nd,nx⟩=stoN (nodeL nd id) w id o y sl nd nx:=vg5
@[go_sem] theorem qmh {cs:List TV} {w id o:Nat} {y:TV} (h1:y.cells.length=w) (h2:o+w≤cs.length) (h3:y.cells.all TV.one=true):stoN (some (.bx false cs)) w id o y sl nd nx=
  some ((),⟨sl,(id,some (.bx false (cs.take o++y.cells++cs.drop (o+w))))::nd,nx⟩):=by
 simp [stoN,h1,h2,h3]
def stoX (x:Option PV) (q:Bool) (ver e:Nat) (es:List PV) (ys:List PV×Bool) (b w id i o:Nat):M Unit:=
 match x with
 |some x=>if ys.1.length=w∧o+w≤x.cells.length then
   setN id (some (.sl (q||ys.2) (if allAtoms ys.1 x o w then ver else b+1) e (es.set i (setCells x o ys.1))))
  else .fail
 |none=> .fail
def stoE (n:Option Node) (ys:List PV×Bool) (b w id i o:Nat):M Unit:=
 match n with
 |some (.sl q ver e es)=>stoX es[i]? q ver e es ys b w id i o
 |_=> .fail
theorem vsu {x:PV} {q:Bool} {ver e:Nat} {es:List PV} {ys:List PV×Bool} {b w id i o:Nat} (h1:ys.1.length=w) (h2:o+w≤x.cells.length):stoX (some x) q ver e es ys b w id i o=
  setN id (some (.sl (q||ys.2) (if allAtoms ys.1 x o w then ver else b+1) e (es.set i (setCells x o ys.1)))):=by simp [stoX,h1,h2]
theorem vyw {q:Bool} {ver e:Nat} {es:List PV} {ys:List PV×Bool} {b w id i o:Nat}:stoE (some (.sl q ver e es)) ys b w id i o=stoX es[i]? q ver e es ys b w id i o:=rfl
@[go_sem] theorem qlg {ys:List PV} {x:PV} {o w a c:Nat} (h:allAtoms ys x o w=true):(if allAtoms ys x o w=true then a else c)=a:=by simp [h]
theorem qdn {ys:List PV} {x:PV} {o w a c:Nat} (h:allAtoms ys x o w=false):(if allAtoms ys x o w=true then a else c)=c:=by simp [h]
@[go_sem] theorem qqb {v:Value} {y:PV}:setCells (.a v) 0 [y]=y:=rfl
@[go_sem] theorem qoi {e:Nat} {es:List PV} {y:PV}:setCells (.sl e es) 0 [y]=y:=rfl
@[go_sem] theorem qo9 {e:Nat} {es:List PV} {y:PV}:setCells (.fz e es) 0 [y]=y:=rfl
@[go_sem] theorem qou {cs ys:List PV} {o:Nat}:setCells (.st cs) o ys= .st (cs.take o++ys++cs.drop (o+ys.length)):=rfl
theorem qba {b w id i m o:Nat} {y:TV}:storeAt b w (.ea id i m o) y=(toPVs y.cells).bind fun ys=>(getN id).bind fun n=>stoE n ys b w id i o:=by
 rfl
def stiK (id:Nat) (q:Bool) (ver e:Nat):Option (List PV)→M Unit
 |some es1=>setN id (some (.sl q ver e es1))
 |none=> .fail
def stiX (w id:Nat) (q:Bool) (ver e:Nat) (es:List PV) (p:List (Nat×Nat×Nat)) (i m o e':Nat) (es' ys:List PV):Option PV→M Unit
 |some x=>if x.cells.length=m∧ys.length=w∧o+w≤x.cells.length∧allAtoms ys x o w=true then stiK id q ver e (dput es p (.sl e' (es'.set i (setCells x o ys)))) else .fail
 |none=> .fail
def stiD (w id:Nat) (q:Bool) (ver e:Nat) (es:List PV) (p:List (Nat×Nat×Nat)) (i m o:Nat) (ys:List PV):Option (Nat×List PV)→M Unit
 |some (e',es')=>stiX w id q ver e es p i m o e' es' ys es'[i]?
 |none=> .fail
def stiN (w id ver:Nat) (p:List (Nat×Nat×Nat)) (i m o:Nat) (ys:Option (List PV)):Option Node→M Unit
 |some (.sl q ver' e es)=>if ver'=ver then storeIn w id q ver e es p i m o (dget es p) ys else .fail
 |_=> .fail
@[go_sem ↓] theorem qow {b w id ver i m o:Nat} {p:List (Nat×Nat×Nat)} {y:TV} {s:St}:M.run (storeAt b w (.ei id ver p i m o) y) s=M.run ((getN id).bind (stiN w id ver p i m o (atomPVs y.cells))) s:=rfl
@[go_sem ↓] theorem qn7 {w id ver e i m o:Nat} {q:Bool} {es ys:List PV} {p:List (Nat×Nat×Nat)} {s:St}:M.run (stiN w id ver p i m o (some ys) (some (.sl q ver e es))) s=M.run (stiD w id q ver e es p i m o ys (dget es p)) s:=by
 simp only [stiN,if_true,storeIn]
 cases dget es p with
 |none=>rfl
 |some r=>
  obtain ⟨e',es'⟩:=r
  simp only [stiD]
  cases es'[i]? with
  |none=>rfl
  |some x=>
   simp only [stiX]
   split
   ·cases dput es p _<;>rfl
   ·rfl
@[go_sem ↓] theorem qfq {w id ver e i m o e':Nat} {q:Bool} {es es' ys:List PV} {p:List (Nat×Nat×Nat)} {s:St}:M.run (stiD w id q ver e es p i m o ys (some (e',es'))) s=M.run (stiX w id q ver e es p i m o e' es' ys es'[i]?) s:=rfl
@[go_sem ↓] theorem qgy {w id ver e i m o e':Nat} {q:Bool} {es es' ys:List PV} {p:List (Nat×Nat×Nat)} {x:PV} {s:St} (h1:x.cells.length=m) (h2:ys.length=w) (h3:o+w≤x.cells.length) (h4:allAtoms ys x o w=true):
  M.run (stiX w id q ver e es p i m o e' es' ys (some x)) s=M.run (stiK id q ver e (dput es p (.sl e' (es'.set i (setCells x o ys))))) s:=by simp [stiX,h1,h2,h4,h1▸h3]
@[go_sem ↓] theorem qg5 {id ver e:Nat} {q:Bool} {es1:List PV} {s:St}:M.run (stiK id q ver e (some es1)) s=M.run (setN id (some (.sl q ver e es1))) s:=rfl
theorem vtb:toPVs []= .pure ([],false):=rfl
theorem vrz {x:TV} {xs:List TV}:toPVs (x::xs)=(toPV x).bind fun y=>(toPVs xs).bind fun ys=> .pure (y.1::ys.1,y.2||ys.2):=rfl
theorem qbu {v:Value} (h:one1 v=true):toPV (.a v)= .pure (.a v,false):=by simp [toPV,h]
theorem vzj {e:Nat}:toPV (.nl e)= .pure (.sl e [],false):=rfl
theorem vy6 {e:Nat} {es:List PV}:toPV (.sz e es)= .pure (.fz e es,true):=rfl
theorem vzn {id:Nat}:toPV (.rf id)=(getN id).bind fun n=>match n with
  |some (.sl q _ e es)=>(setN id none).bind fun _=> .pure (.sl e es,q)
  |_=> .fail:=rfl
@[go_sem] theorem qo0 {v:Value} (h:one1 v=true):atomPV (.a v)=some (.a v):=by simp [atomPV,h]
@[go_sem] theorem qe4:atomPVs []=some []:=rfl
@[go_sem] theorem qel {v:Value} {xs:List TV} (h:one1 v=true):atomPVs (.a v::xs)=(atomPVs xs).map (.a v::·):=by
 simp only [atomPVs,atomPV,h,if_true]
 cases atomPVs xs<;>rfl
theorem vwr {v:Value} (h:one1 v=true):toEl true (.a v)= .pure (.a v,false):=by simp only [toEl,if_true,atomPV,h];rfl
theorem vt1 {cs:List TV}:toEl true (.st cs)=(liftO (atomPVs cs)).bind fun ys=> .pure (.st ys,false):=rfl
theorem vs7 {cs:List TV}:toEl false (.st cs)=(toPVs cs).bind fun ys=> .pure (.st ys.1,ys.2):=rfl
theorem vwy {v:Value}:toEl false (.a v)=toPV (.a v):=rfl
theorem vuc {e:Nat}:toEl false (.nl e)=toPV (.nl e):=rfl
theorem vur {i:Nat}:toEl false (.rf i)=toPV (.rf i):=rfl
theorem vt3 {e:Nat} {es:List PV}:toEl false (.sz e es)=toPV (.sz e es):=rfl
@[go_sem] theorem qfc:flatZ []=true:=rfl
@[go_sem] theorem qnx {v:Value} {zs:List ZC}:flatZ (.v v::zs)=flatZ zs:=rfl
@[go_sem] theorem qi0 {e:Nat} {zs:List ZC}:flatZ (.nl e::zs)=false:=rfl
@[go_sem] theorem qil {z:ZC}:zeroEl 1 [z]=z.pv:=rfl
@[go_sem] theorem qkl {z z':ZC} {zs:List ZC} {m:Nat}:zeroEl (m+2) (z::z'::zs)= .st (z.pv::z'.pv::zs.map ZC.pv):=rfl
@[go_sem] theorem qp4 {v:Value}:(ZC.v v).pv= .a v:=rfl
@[go_sem] theorem qon {e:Nat}:(ZC.nl e).pv= .sl e []:=rfl
def apto (n:Option Node) (e id:Nat) (sl:Slots) (nd:Nodes) (nx:Nat):Option ((List PV×Bool)×St):=
 match n with
 |some (.sl q _ e' es)=>if e'=e then some ((es,q),⟨sl,(id,none)::nd,nx⟩) else none
 |_=>none
@[go_sem] theorem qnm {q:Bool} {ver e id:Nat} {es:List PV}:apto (some (.sl q ver e es)) e id sl nd nx=some ((es,q),⟨sl,(id,none)::nd,nx⟩):=by simp [apto]
@[go_sem] theorem qjo {b e:Nat} {s:St}:(appTo b e (.nl e)).run s=some (([],false),s):=by simp [appTo,M.run]
@[go_sem] theorem qic {b e id:Nat}:(appTo b e (.rf id)).run ⟨sl,nd,nx⟩=apto (nodeL nd id) e id sl nd nx:=by
 simp only [appTo,vad,apto,nodeL]
 simp only [VM.getN,M.run,St.node]
 cases (look nd id).getD none with
 |none=>rfl
 |some n=>
  cases n with
  |bx _ _=>rfl
  |sl q ver e' es=>simp only;split<;>rfl
def aptI (b e id ver:Nat) (p:List (Nat×Nat×Nat)):Option Node→M (List PV×Bool)
 |some (.sl q ver' e' es)=>if ver'=ver then takeIn b e id q e' (dget es p) (dput es p .un) else .fail
 |_=> .fail
@[go_sem] theorem qjx {b e id ver:Nat} {p:List (Nat×Nat×Nat)} {s:St}:(appTo b e (.ri id ver p)).run s=((getN id).bind (aptI b e id ver p)).run s:=rfl
@[go_sem] theorem qmx {b e id ver e':Nat} {q:Bool} {es:List PV} {p:List (Nat×Nat×Nat)} {s:St}:M.run (aptI b e id ver p (some (.sl q ver e' es))) s=M.run (takeIn b e id q e' (dget es p) (dput es p .un)) s:=by simp [aptI]
@[go_sem] theorem qcf {b e id e':Nat} {q:Bool} {es es1:List PV} {s:St}:M.run (takeIn b e id q e' (some (e,es)) (some es1)) s=some ((es,q),⟨s.slots,(id,some (.sl q (b+51) e' es1))::s.nodes,s.next⟩):=by
 simp only [takeIn,if_true]
 rfl
def apof (n:Option Node) (e id:Nat) (sl:Slots) (nd:Nodes) (nx:Nat):Option ((List PV×Bool)×St):=
 match n with
 |some (.sl _ _ e' es)=>if e'=e then some ((es.map PV.cpy,false),⟨sl,nd,nx⟩) else none
 |_=>none
@[go_sem] theorem qmy {q:Bool} {ver e id:Nat} {es:List PV}:apof (some (.sl q ver e es)) e id sl nd nx=some ((es.map PV.cpy,false),⟨sl,nd,nx⟩):=by simp [apof]
@[go_sem] theorem qjt {e id:Nat}:(appOf e true (.rf id)).run ⟨sl,nd,nx⟩=apto (nodeL nd id) e id sl nd nx:=by
 simp only [appOf,vad,apto,nodeL]
 simp only [VM.getN,M.run,St.node]
 cases (look nd id).getD none with
 |none=>rfl
 |some n=>
  cases n with
  |bx _ _=>rfl
  |sl q ver e' es=>simp only [if_true];split<;>rfl
@[go_sem] theorem qi4 {e id:Nat}:(appOf e false (.rf id)).run ⟨sl,nd,nx⟩=apof (nodeL nd id) e id sl nd nx:=by
 simp only [appOf,vad,apof,nodeL]
 simp only [VM.getN,M.run,St.node]
 cases (look nd id).getD none with
 |none=>rfl
 |some n=>
  cases n with
  |bx _ _=>rfl
  |sl q ver e' es=>simp only [Bool.false_eq_true,if_false];split<;>rfl
def apel (o:Option (Nat×List PV)) (e:Nat) (s:St):Option ((List PV×Bool)×St):=
 match o with
 |some (e',es)=>if e'=e then some ((es.map PV.cpy,false),s) else none
 |none=>none
@[go_sem] theorem qhb {e:Nat} {es:List PV} {s:St}:apel (some (e,es)) e s=some ((es.map PV.cpy,false),s):=by simp [apel]
theorem vgc {e:Nat} {mv:Bool} {y:TV} {s:St} (h:∀id,y≠ .rf id) (hz:mv=false∨∀e es,y≠ .sz e es):(appOf e mv y).run s=apel (elemsP s.nodes y) e s:=by
 have:appOf e mv y=(elems y).bind fun r=>if r.1=e then .pure (r.2.map PV.cpy,false) else .fail:=by
  have hc:∀es,cpyOf mv y es=(es.map PV.cpy,false):=fun es=>by
   unfold cpyOf
   split
   ·rcases hz with hz|hz
    ·cases hz
    ·exact absurd rfl (hz _ _)
   ·rfl
  cases y<;>first|exact absurd rfl (h _)|(simp only [appOf,hc])
 rw [this]
 simp only [vad,vd5]
 cases elemsP s.nodes y with
 |none=>rfl
 |some p=>
  obtain ⟨e',es⟩:=p
  simp only [Option.map_some,apel]
  split<;>rfl
@[go_sem] theorem qh4 {e e':Nat} {mv:Bool} {s:St}:(appOf e mv (.nl e')).run s=apel (some (e',[])) e s:=vgc (by simp) (.inr (by simp))
@[go_sem] theorem qkd {e e':Nat} {es:List PV} {s:St}:(appOf e false (.sz e' es)).run s=apel (some (e',es)) e s:=vgc (by simp) (.inl rfl)
@[go_sem] theorem qju {e:Nat} {es:List PV} {s:St}:(appOf e true (.sz e es)).run s=some ((es.map PV.fzc,true),s):=by
 simp [appOf,elems,M.bind,M.run,cpyOf]
@[go_sem] theorem qk5 {e i j k:Nat} {mv:Bool} {s:St}:(appOf e mv (.sb i j k)).run s=apel (elemsB (nodeL s.nodes i) j k) e s:=vgc (by simp) (.inr (by simp))
@[go_sem] theorem qla {e i j:Nat} {p:List (Nat×Nat×Nat)} {mv:Bool} {s:St}:(appOf e mv (.ri i j p)).run s=apel (elemsI (nodeL s.nodes i) j p) e s:=vgc (by simp) (.inr (by simp))
def app2 (b e by_:Nat) (xs:List PV×Bool) (o:Option ((List PV×Bool)×St)):Option (TV×St):=
 match o with
 |some (ys,s)=>if capOk (xs.1.length+ys.1.length) by_=true then some (.rf b,⟨s.slots,(b,some (.sl (xs.2||ys.2) 0 e (xs.1++ys.1)))::s.nodes,s.next⟩) else none
 |none=>none
def app1 (b e by_:Nat) (mv:Bool) (y:TV) (o:Option ((List PV×Bool)×St)):Option (TV×St):=
 match o with
 |some (xs,s)=>app2 b e by_ xs ((appOf e mv y).run s)
 |none=>none
@[go_sem] theorem qf8 {b e by_:Nat} {mv:Bool} {y:TV} {xs:List PV×Bool} {s:St}:app1 b e by_ mv y (some (xs,s))=app2 b e by_ xs ((appOf e mv y).run s):=rfl
@[go_sem] theorem qnf {b e by_:Nat} {q q':Bool} {xs ys:List PV} {s:St} (h1:xs.length+ys.length≤9223372036854775807) (h2:(xs.length+ys.length) * by_≤140737488355328):app2 b e by_ (xs,q) (some ((ys,q'),s))=
  some (.rf b,⟨s.slots,(b,some (.sl (q||q') 0 e (xs++ys)))::s.nodes,s.next⟩):=by simp [app2,capOk,h1,h2]
@[go_sem] theorem qe1 {b e by_:Nat} {mv:Bool} {x y:TV} {s:St}:(appendM b e by_ mv x y).run s=app1 b e by_ mv y ((appTo b e x).run s):=by
 simp only [appendM,vad,app1]
 cases (appTo b e x).run s with
 |none=>rfl
 |some p=>
  obtain ⟨xs,s1⟩:=p
  simp only [app2]
  cases (appOf e mv y).run s1 with
  |none=>rfl
  |some p2=>
   obtain ⟨ys,s2⟩:=p2
   simp only
   split
   ·simp only [vad];rfl
   ·rfl
@[go_sem] theorem qqd {v:Value}:(PV.a v).cpy= .a v:=rfl
@[go_sem] theorem qlc:List.map PV.cpy []= []:=rfl
theorem vab:maxLen=9223372036854775807:=rfl
@[go_sem] theorem qhs:depth=40:=rfl
attribute [go_sem] rootsOf
section
variable {z fz q:Bool} {k n b V:Nat}
theorem qd6 {v:Value}:freeze z (k+1) n (.a v)= .pure (.a v):=rfl
theorem qag {e:Nat}:freeze z (k+1) n (.nl e)= .pure (.sl true e []):=rfl
theorem qb4 {e:Nat} {es:List PV}:freeze z (k+1) n (.sz e es)= .pure (.sl true e es):=rfl
theorem qbs {cs:List TV}:freeze z (k+1) n (.st cs)=(freezeL z k cs).bind fun cs'=> .pure (.st cs'):=rfl
theorem qar {f:Nat} {fs cs:List TV}:freeze z (k+1) n (.fn f fs cs)=(freezeL z k fs).bind fun fs'=>(freezeL z k cs).bind fun cs'=> .pure (.fn f fs' cs'):=rfl
theorem qah {t:Nat} {v:TV}:freeze z (k+1) n (.ic t v)=(freeze z k n v).bind fun v'=> .pure (.ic t v'):=rfl
theorem qcb:freeze z (k+1) n .un= .pure .un:=rfl
theorem vz3 {id:Nat}:freeze false (k+1) n (.rf id)=(getN id).bind fun m=>match m with
   |some (.sl q _ e es)=> .pure (.sl true e (if q then es.map PV.thaw else es))
   |some (.bx _ cs)=>(freezeL false k cs).bind fun cs'=> .pure (.bx true cs')
   |none=> .fail:=rfl
theorem qb9 {id lo j:Nat}:freeze false (k+1) n (.sb id lo j)=(getN id).bind fun m=>match m with
   |some (.sl q _ e es)=> .pure (.sl true e (if q then ((es.drop lo).take j).map PV.thaw else (es.drop lo).take j))
   |_=> .fail:=rfl
theorem vz4 {id ver:Nat} {p:List (Nat×Nat×Nat)}:freeze false (k+1) n (.ri id ver p)=(getN id).bind fun m=>match m with
   |some (.sl q ver' _ es)=>if ver'=ver then match dget es p with
    |some (e,es')=> .pure (.sl true e (if q then es'.map PV.thaw else es'))
    |none=> .fail else .fail
   |_=> .fail:=rfl
theorem qbj {id o:Nat}:freeze false (k+1) n (.ad id o)=(getN id).bind fun m=>match m with
   |some (.bx _ cs)=>if 0<n∧o+n≤cs.length then (freezeL false k ((cs.drop o).take n)).bind fun cs'=> .pure (.bx true cs') else .fail
   |_=> .fail:=rfl
theorem vw2:freezeL z (k+1) []= .pure []:=rfl
theorem vtj {x:TV} {xs:List TV}:freezeL z (k+1) (x::xs)=(freeze z k 0 x).bind fun y=>(freezeL z k xs).bind fun ys=> .pure (y::ys):=rfl
theorem qia {v:Value}:pack fz (k+1) (.a v)= .pure (.a v):=rfl
theorem qet {e:Nat}:pack fz (k+1) (.nl e)= .pure (.sl false e []):=rfl
theorem qd1 {e:Nat} {es:List PV}:pack true (k+1) (.sz e es)= .pure (.sl true e es):=rfl
theorem qe0 {cs:List TV}:pack fz (k+1) (.st cs)=(packL fz k cs).bind fun cs'=> .pure (.st cs'):=rfl
theorem qdl {f:Nat} {fs cs:List TV}:pack fz (k+1) (.fn f fs cs)=(packL fz k fs).bind fun fs'=>(packL fz k cs).bind fun cs'=> .pure (.fn f fs' cs'):=rfl
theorem qea {t:Nat} {v:TV}:pack fz (k+1) (.ic t v)=(pack fz k v).bind fun v'=> .pure (.ic t v'):=rfl
theorem qdf {id:Nat}:pack fz (k+1) (.rf id)=(getN id).bind fun m=>match m with
   |some (.sl q _ e es)=>if q&& !fz then .fail else (setN id none).bind fun _=> .pure (.sl false e es)
   |some (.bx z cs)=>if z then .fail else (setN id none).bind fun _=>(packL fz k cs).bind fun cs'=> .pure (.bx false cs')
   |none=> .pure .un:=rfl
theorem qc7:pack fz (k+1) .un= .pure .un:=rfl
theorem vxy:packL fz (k+1) []= .pure []:=rfl
theorem vwl {x:TV} {xs:List TV}:packL fz (k+1) (x::xs)=(pack fz k x).bind fun y=>(packL fz k xs).bind fun ys=> .pure (y::ys):=rfl
theorem qdi {v:Value}:unpack q b (.a v)= .pure (.a v,b):=rfl
theorem qdu {e:Nat} {es:List PV}:unpack q b (.sl true e es)= .pure (.sz e es,b):=rfl
theorem qew {e:Nat} {es:List PV}:unpack q b (.sl false e es)=(setN b (some (.sl q 0 e es))).bind fun _=> .pure (.rf b,b+1):=rfl
theorem qav {cs:List CV}:unpack q b (.bx z cs)=(unpackL q (b+1) cs).bind fun r=>(setN b (some (.bx z r.1))).bind fun _=> .pure (.rf b,r.2):=rfl
theorem qbh {cs:List CV}:unpack q b (.st cs)=(unpackL q b cs).bind fun r=> .pure (.st r.1,r.2):=rfl
theorem qay {cs:List CV}:unpack q b (.tp cs)=(unpackL q b cs).bind fun r=> .pure (.tp r.1,r.2):=rfl
theorem qai {f:Nat} {fs cs:List CV}:unpack q b (.fn f fs cs)=(unpackL q b fs).bind fun p=>(unpackL q p.2 cs).bind fun r=> .pure (.fn f p.1 r.1,r.2):=rfl
theorem vz1 {t:Nat} {v:CV}:unpack q b (.ic t v)=(unpack q b v).bind fun r=> .pure (.ic t r.1,r.2):=rfl
theorem vz2:unpack q b .un= .pure (.un,b):=rfl
theorem vzy {id e0 e:Nat} {es0 es:List PV}:restore q V b (.rf id) (.sl false e0 es0) (.sl false e es)=(getN id).bind fun m=>if m.isNone∧e0=e then (setN id (some (.sl q V e es))).bind fun _=> .pure b else .fail:=rfl
theorem vz5 {id:Nat} {cs0 cs:List CV}:restore q V b (.rf id) (.bx false cs0) (.bx false cs)=(getN id).bind fun m=>if m.isNone then (unpackL q b cs).bind fun r=>(setN id (some (.bx false r.1))).bind fun _=> .pure r.2 else .fail:=rfl
theorem qa3 {f f0 f1:Nat} {fs cs:List TV} {fs0 cs0 fs1 cs1:List CV}:restore q V b (.fn f fs cs) (.fn f0 fs0 cs0) (.fn f1 fs1 cs1)=(restoreL q V b fs fs0 fs1).bind fun b'=>restoreL q V b' cs cs0 cs1:=rfl
theorem qbw {cs:List TV} {cs0 cs1:List CV}:restore q V b (.st cs) (.st cs0) (.st cs1)=restoreL q V b cs cs0 cs1:=rfl
theorem qad {t t0 t1:Nat} {x:TV} {x0 x1:CV}:restore q V b (.ic t x) (.ic t0 x0) (.ic t1 x1)=restore q V b x x0 x1:=rfl
theorem qed {v:Value} {c0 c:CV}:restore q V b (.a v) c0 c= .pure b:=by simp only [restore]
theorem qan {e:Nat} {c0 c:CV}:restore q V b (.nl e) c0 c= .pure b:=by simp only [restore]
theorem qa8 {e:Nat} {es:List PV} {c0 c:CV}:restore q V b (.sz e es) c0 c= .pure b:=by simp only [restore]
theorem qbf {c0 c:CV}:restore q V b .un c0 c= .pure b:=by simp only [restore]
theorem qen {v:Value}:lend0 q (.a v)=pack q depth (.a v):=rfl
theorem qa2 {e:Nat}:lend0 q (.nl e)=pack q depth (.nl e):=rfl
theorem qa4 {id:Nat}:lend0 q (.rf id)=pack q depth (.rf id):=rfl
theorem qa0 {id ver:Nat} {p:List (Nat×Nat×Nat)}:lend0 q (.ri id ver p)= .pure .un:=rfl
theorem qac {e:Nat} {es:List PV}:lend0 q (.sz e es)=pack q depth (.sz e es):=rfl
theorem qak {cs:List TV}:lend0 q (.st cs)=pack q depth (.st cs):=rfl
theorem qbk {f:Nat} {fs cs:List TV}:lend0 q (.fn f fs cs)=pack q depth (.fn f fs cs):=rfl
theorem vz8 {t:Nat} {v:TV}:lend0 q (.ic t v)=pack q depth (.ic t v):=rfl
theorem qbb:lend0 q .un=pack q depth .un:=rfl
theorem qei {v:Value} {y:CV}:lend1 q V (.a v) y= .pure y:=rfl
theorem qca {e:Nat} {y:CV}:lend1 q V (.nl e) y= .pure y:=rfl
theorem qb3 {id:Nat} {y:CV}:lend1 q V (.rf id) y= .pure y:=rfl
theorem qbc {e:Nat} {es:List PV} {y:CV}:lend1 q V (.sz e es) y= .pure y:=rfl
theorem qbg {cs:List TV} {y:CV}:lend1 q V (.st cs) y= .pure y:=rfl
theorem qbd {f:Nat} {fs cs:List TV} {y:CV}:lend1 q V (.fn f fs cs) y= .pure y:=rfl
theorem qax {t:Nat} {v:TV} {y:CV}:lend1 q V (.ic t v) y= .pure y:=rfl
theorem qa7 {y:CV}:lend1 q V .un y= .pure y:=rfl
def carveK (id V e:Nat) (q:Bool) (r:Option (Nat×List PV)) (es1:Option (List PV)):M CV:=
 match r,es1 with
 |some r,some es1=>(setN id (some (.sl q V e es1))).bind fun _=> .pure (.sl false r.1 r.2)
 |_,_=> .fail
theorem vv9 {id e e':Nat} {es' es1:List PV}:carveK id V e q (some (e',es')) (some es1)=(setN id (some (.sl q V e es1))).bind fun _=> .pure (.sl false e' es'):=rfl
def ld1B (keeps:Bool) (V id ver:Nat) (p:List (Nat×Nat×Nat)):Option Node→M CV
 |some (.sl q ver' e es)=>if (q&& !keeps)=true∨ver'≠ver then .fail else carveK id V e q (dget es p) (dput es p .un)
 |_=> .fail
theorem vz9 {keeps:Bool} {id ver e:Nat} {p:List (Nat×Nat×Nat)} {es:List PV}:ld1B keeps V id ver p (some (.sl false ver e es))=carveK id V e false (dget es p) (dput es p .un):=by simp [ld1B]
theorem qa5 {id ver e:Nat} {p:List (Nat×Nat×Nat)} {es:List PV}:ld1B true V id ver p (some (.sl q ver e es))=carveK id V e q (dget es p) (dput es p .un):=by simp [ld1B]
theorem qa1 {id ver:Nat} {p:List (Nat×Nat×Nat)} {y:CV}:lend1 q V (.ri id ver p) y=(getN id).bind (ld1B q V id ver p):=by
 simp only [lend1]
 congr 1
theorem qks {v:Value} {c f:CV}:back1 q V b (.a v) c f=restore q V b (.a v) c f:=rfl
theorem qc6 {e:Nat} {c f:CV}:back1 q V b (.nl e) c f=restore q V b (.nl e) c f:=rfl
theorem qd8 {id:Nat} {c f:CV}:back1 q V b (.rf id) c f=restore q V b (.rf id) c f:=rfl
theorem qdv {e:Nat} {es:List PV} {c f:CV}:back1 q V b (.sz e es) c f=restore q V b (.sz e es) c f:=rfl
theorem qdr {cs:List TV} {c f:CV}:back1 q V b (.st cs) c f=restore q V b (.st cs) c f:=rfl
theorem qex {g:Nat} {fs cs:List TV} {c f:CV}:back1 q V b (.fn g fs cs) c f=restore q V b (.fn g fs cs) c f:=rfl
theorem qd3 {t:Nat} {v:TV} {c f:CV}:back1 q V b (.ic t v) c f=restore q V b (.ic t v) c f:=rfl
theorem qdz {c f:CV}:back1 q V b .un c f=restore q V b .un c f:=rfl
def fillK (id ver e b:Nat) (q:Bool) (c:Option PV) (es1:Option (List PV)):M Nat:=
 match c,es1 with
 |some .un,some es1=>(setN id (some (.sl q ver e es1))).bind fun _=> .pure b
 |_,_=> .fail
theorem vy4 {id ver e:Nat} {es1:List PV}:fillK id ver e b q (some .un) (some es1)=(setN id (some (.sl q ver e es1))).bind fun _=> .pure b:=rfl
def bkB (q:Bool) (b id:Nat) (p:List (Nat×Nat×Nat)) (e':Nat) (es':List PV):Option Node→M Nat
 |some (.sl q0 ver e es)=>fillK id ver e b (q0||q) (dat es p) (dput es p (.sl e' es'))
 |_=> .fail
theorem qbx {q0:Bool} {id ver e e':Nat} {p:List (Nat×Nat×Nat)} {es es':List PV}:bkB q b id p e' es' (some (.sl q0 ver e es))=fillK id ver e b (q0||q) (dat es p) (dput es p (.sl e' es')):=rfl
theorem qem {id ver e':Nat} {p:List (Nat×Nat×Nat)} {es':List PV} {c:CV}:back1 q V b (.ri id ver p) c (.sl false e' es')=(getN id).bind (bkB q b id p e' es'):=by
 simp only [back1]
 congr 1
def dgC:Option PV→Option (Nat×List PV)
 |some (.sl e es)=>some (e,es)
 |_=>none
def dgK (m o:Nat):Option PV→Option (Nat×List PV)
 |some x=>if x.cells.length=m then dgC x.cells[o]? else none
 |none=>none
def dgN (p:List (Nat×Nat×Nat)):Option (Nat×List PV)→Option (Nat×List PV)
 |some (_,es)=>dget es p
 |none=>none
@[go_sem] theorem qo3 {e:Nat} {es:List PV}:dgC (some (.sl e es))=some (e,es):=rfl
@[go_sem] theorem qk7 {m o:Nat} {x:PV} (h:x.cells.length=m):dgK m o (some x)=dgC x.cells[o]? :=by simp [dgK,h]
@[go_sem] theorem qhm {p:List (Nat×Nat×Nat)} {e:Nat} {es:List PV}:dgN p (some (e,es))=dget es p:=rfl
@[go_sem] theorem qpp {es:List PV} {i m o:Nat}:dget es [(i,m,o)]=dgK m o es[i]? :=by
 simp only [dget]
 cases es[i]? with
 |none=>rfl
 |some x=>
  simp only [dgK]
  split
  ·cases x.cells[o]? with
   |none=>rfl
   |some c=>cases c<;>rfl
  ·rfl
@[go_sem] theorem qpa {es:List PV} {i m o:Nat} {q:Nat×Nat×Nat} {p:List (Nat×Nat×Nat)}:dget es ((i,m,o)::q::p)=dgN (q::p) (dgK m o es[i]?):=by
 rw [dget]
 cases es[i]? with
 |none=>rfl
 |some x=>
  simp only [dgK]
  split
  ·cases x.cells[o]? with
   |none=>rfl
   |some c=>cases c<;>rfl
  ·rfl
def dpK (es:List PV) (i m o:Nat) (c:PV):Option PV→Option (List PV)
 |some x=>if x.cells.length=m∧o<m then some (es.set i (setCells x o [c])) else none
 |none=>none
@[go_sem] theorem qkh {es:List PV} {i m o:Nat} {c x:PV} (h:x.cells.length=m) (ho:o<m):dpK es i m o c (some x)=some (es.set i (setCells x o [c])):=by simp [dpK,h,ho]
@[go_sem] theorem qop {es:List PV} {i m o:Nat} {c:PV}:dput es [(i,m,o)] c=dpK es i m o c es[i]? :=by
 simp only [dput]
 cases es[i]? with
 |none=>rfl
 |some x=>
  simp only [dpK]
  by_cases h:x.cells.length=m
  ·rw [if_pos h]
   by_cases ho:o<m
   ·rw [List.getElem?_eq_getElem (h▸ho),if_pos ⟨h,ho⟩]
   ·rw [List.getElem?_eq_none (by omega),if_neg (fun x=>ho x.2)]
  ·rw [if_neg h,if_neg (fun x=>h x.1)]
def daK (m o:Nat):Option PV→Option PV
 |some x=>if x.cells.length=m then x.cells[o]? else none
 |none=>none
@[go_sem] theorem qh2 {m o:Nat} {x:PV} (h:x.cells.length=m):daK m o (some x)=x.cells[o]? :=by simp [daK,h]
@[go_sem] theorem qpx {es:List PV} {i m o:Nat}:dat es [(i,m,o)]=daK m o es[i]? :=by
 simp only [dat]
 cases es[i]? with
 |none=>rfl
 |some x=>
  simp only [daK]
  split
  ·cases x.cells[o]? <;>rfl
  ·rfl
end
end
end Go.Proofs.YteomgghmhicpcaaDoor.VM.Sy
namespace Go.Proofs.YteomgghmhicpcaaDoor.VM.Sy
open Go
section
variable {Φ:Nat→Option Callee} {N:Nat} {r:List It} {sl:Slots} {nd:Nodes} {nx:Nat}
variable {z fz q:Bool} {k n b V:Nat}
@[go_sem ↓] theorem qi5 {b d e by_:Nat} {zs:List ZC} {n:Int} (h0:0≤n) (h1:n * by_≤140737488355328) (h2:n≤9223372036854775807) {s:St}:M.run (mksM b d e by_ zs (.a (.int .i64 n))) s=M.run ((setN b (some (.sl false 0 e (List.replicate n.toNat (zeroEl zs.length zs))))).bind fun _=>setS d (.rf b)) s:=by rw [vz0 h0 h1 h2]<;>rfl
@[go_sem ↓] theorem qfy {flat q:Bool} {m:Nat} {es:List PV} {s:St}:M.run (bslM flat m [] q es) s=M.run (.pure (es,q)) s:=by rw [vzh]<;>rfl
@[go_sem ↓] theorem qd9 {flat q:Bool} {m i:Nat} {x:Opd} {ps:List (Nat×Opd)} {es:List PV} {s:St}:M.run (bslM flat m ((i,x)::ps) q es) s=M.run ((opd x).bind fun v=>(toEl flat v).bind fun y=>bslK flat q m i y ps es) s:=by rw [vvr]<;>rfl
@[go_sem ↓] theorem qkn {flat q:Bool} {m i:Nat} {y:PV×Bool} {ps:List (Nat×Opd)} {es:List PV} (h1:y.1.cells.length=m) (h2:i<es.length) {s:St}:M.run (bslK flat q m i y ps es) s=M.run (bslM flat m ps (q||y.2) (es.set i y.1)) s:=by rw [qal h1 h2]<;>rfl
@[go_sem ↓] theorem qgi {d:Nat} {v:TV} {z:Bool} {cs:List TV} {s:St}:M.run (nilB d v (some (.bx z cs))) s=M.run (setS d v) s:=by rw [vy7]<;>rfl
@[go_sem ↓] theorem qgl {d:Nat} {v:TV} {q:Bool} {ver e:Nat} {es:List PV} {s:St}:M.run (nilE d v (some (.sl q ver e es))) s=M.run (setS d v) s:=by rw [vxw]<;>rfl
@[go_sem ↓] theorem qht {d id:Nat} {s:St}:M.run (nilM d (.rf id)) s=M.run ((getN id).bind (nilB d (.rf id))) s:=by rw [qau]<;>rfl
@[go_sem ↓] theorem qh5 {d id o:Nat} {s:St}:M.run (nilM d (.ad id o)) s=M.run (setS d (.ad id o)) s:=by rw [qbn]<;>rfl
@[go_sem ↓] theorem qkc {d id i m o:Nat} {s:St}:M.run (nilM d (.ea id i m o)) s=M.run ((getN id).bind (nilE d (.ea id i m o))) s:=by rw [qbz]<;>rfl
@[go_sem ↓] theorem qi1 {d o:Nat} {cs:List PV} {s:St}:M.run (nilM d (.ez cs o)) s=M.run (setS d (.ez cs o)) s:=by rw [qab]<;>rfl
@[go_sem ↓] theorem qhg {d f:Nat} {fs cs:List TV} {s:St}:M.run (nilM d (.fn f fs cs)) s=M.run (setS d (.fn f fs cs)) s:=by rw [qaf]<;>rfl
@[go_sem ↓] theorem qik {d t:Nat} {v:TV} {s:St}:M.run (nilM d (.ic t v)) s=M.run (setS d (.ic t v)) s:=by rw [qaa]<;>rfl
@[go_sem ↓] theorem qgs {top b:Nat} {rs:List CV} (h:b≤top) {s:St}:M.run (resS top b rs) s=M.run ((liftO (plainL rs)).bind fun ts=>M.pure (oneOf ts)) s:=by rw [vyn h]<;>rfl
@[go_sem ↓] theorem qfx {top:Nat} {r:List TV×Nat} (h:r.2≤top) {s:St}:M.run (resT top r) s=M.run (.pure (oneOf r.1)) s:=by rw [vza h]<;>rfl
@[go_sem ↓] theorem vzt {q:Bool} {top b:Nat} {rs:List CV} {s:St}:M.run (resultTV q top b rs) s=M.run ((unpackL q b rs).bind (resT top)) s:=by rw [vpz]<;>rfl
@[go_sem ↓] theorem qcd {d:Nat} {v:TV} {s:St}:M.run (putO (some d) v) s=M.run (setS d v) s:=by rw [vus]<;>rfl
@[go_sem ↓] theorem qce {v:TV} {s:St}:M.run (putO none v) s=M.run (.pure ()) s:=by rw [vvh]<;>rfl
@[go_sem ↓] theorem qcy {x:PV} {q:Bool} {ver e:Nat} {es:List PV} {ys:List PV×Bool} {b w id i o:Nat} (h1:ys.1.length=w) (h2:o+w≤x.cells.length) {s:St}:M.run (stoX (some x) q ver e es ys b w id i o) s=M.run (setN id (some (.sl (q||ys.2) (if allAtoms ys.1 x o w then ver else b+1) e (es.set i (setCells x o ys.1))))) s:=by rw [vsu h1 h2]<;>rfl
@[go_sem ↓] theorem qft {q:Bool} {ver e:Nat} {es:List PV} {ys:List PV×Bool} {b w id i o:Nat} {s:St}:M.run (stoE (some (.sl q ver e es)) ys b w id i o) s=M.run (stoX es[i]? q ver e es ys b w id i o) s:=by rw [vyw]<;>rfl
@[go_sem ↓] theorem qja {b w id i m o:Nat} {y:TV} {s:St}:M.run (storeAt b w (.ea id i m o) y) s=M.run ((toPVs y.cells).bind fun ys=>(getN id).bind fun n=>stoE n ys b w id i o) s:=by rw [qba]<;>rfl
@[go_sem ↓] theorem qcp {s:St}:M.run (toPVs []) s=M.run (.pure ([],false)) s:=by rw [vtb]<;>rfl
@[go_sem ↓] theorem qb0 {x:TV} {xs:List TV} {s:St}:M.run (toPVs (x::xs)) s=M.run ((toPV x).bind fun y=>(toPVs xs).bind fun ys=> .pure (y.1::ys.1,y.2||ys.2)) s:=by rw [vrz]<;>rfl
@[go_sem ↓] theorem qid {v:Value} (h:one1 v=true) {s:St}:M.run (toPV (.a v)) s=M.run (.pure (.a v,false)) s:=by rw [qbu h]<;>rfl
@[go_sem ↓] theorem qg4 {e:Nat} {s:St}:M.run (toPV (.nl e)) s=M.run (.pure (.sl e [],false)) s:=by rw [vzj]<;>rfl
@[go_sem ↓] theorem qge {e:Nat} {es:List PV} {s:St}:M.run (toPV (.sz e es)) s=M.run (.pure (.fz e es,true)) s:=by rw [vy6]<;>rfl
@[go_sem ↓] theorem qef {v:Value} (h:one1 v=true) {s:St}:M.run (toEl true (.a v)) s=M.run (.pure (.a v,false)) s:=by rw [vwr h]<;>rfl
@[go_sem ↓] theorem qcg {cs:List TV} {s:St}:M.run (toEl true (.st cs)) s=M.run ((liftO (atomPVs cs)).bind fun ys=> .pure (.st ys,false)) s:=by rw [vt1]<;>rfl
@[go_sem ↓] theorem qcs {cs:List TV} {s:St}:M.run (toEl false (.st cs)) s=M.run ((toPVs cs).bind fun ys=> .pure (.st ys.1,ys.2)) s:=by rw [vs7]<;>rfl
@[go_sem ↓] theorem qd2 {v:Value} {s:St}:M.run (toEl false (.a v)) s=M.run (toPV (.a v)) s:=by rw [vwy]<;>rfl
@[go_sem ↓] theorem qcz {e:Nat} {s:St}:M.run (toEl false (.nl e)) s=M.run (toPV (.nl e)) s:=by rw [vuc]<;>rfl
@[go_sem ↓] theorem qcu {i:Nat} {s:St}:M.run (toEl false (.rf i)) s=M.run (toPV (.rf i)) s:=by rw [vur]<;>rfl
@[go_sem ↓] theorem qcl {e:Nat} {es:List PV} {s:St}:M.run (toEl false (.sz e es)) s=M.run (toPV (.sz e es)) s:=by rw [vt3]<;>rfl
@[go_sem ↓] theorem qnp {v:Value} {s:St}:M.run (freeze z (k+1) n (.a v)) s=M.run (.pure (.a v)) s:=by rw [qd6]<;>rfl
@[go_sem ↓] theorem qkz {e:Nat} {s:St}:M.run (freeze z (k+1) n (.nl e)) s=M.run (.pure (.sl true e [])) s:=by rw [qag]<;>rfl
@[go_sem ↓] theorem qiq {e:Nat} {es:List PV} {s:St}:M.run (freeze z (k+1) n (.sz e es)) s=M.run (.pure (.sl true e es)) s:=by rw [qb4]<;>rfl
@[go_sem ↓] theorem qle {cs:List TV} {s:St}:M.run (freeze z (k+1) n (.st cs)) s=M.run ((freezeL z k cs).bind fun cs'=> .pure (.st cs')) s:=by rw [qbs]<;>rfl
@[go_sem ↓] theorem qjw {f:Nat} {fs cs:List TV} {s:St}:M.run (freeze z (k+1) n (.fn f fs cs)) s=M.run ((freezeL z k fs).bind fun fs'=>(freezeL z k cs).bind fun cs'=> .pure (.fn f fs' cs')) s:=by rw [qar]<;>rfl
@[go_sem ↓] theorem qkr {t:Nat} {v:TV} {s:St}:M.run (freeze z (k+1) n (.ic t v)) s=M.run ((freeze z k n v).bind fun v'=> .pure (.ic t v')) s:=by rw [qah]<;>rfl
@[go_sem ↓] theorem qhw {s:St}:M.run (freeze z (k+1) n .un) s=M.run (.pure .un) s:=by rw [qcb]<;>rfl
@[go_sem ↓] theorem qdh {s:St}:M.run (freezeL z (k+1) []) s=M.run (.pure []) s:=by rw [vw2]<;>rfl
@[go_sem ↓] theorem qci {x:TV} {xs:List TV} {s:St}:M.run (freezeL z (k+1) (x::xs)) s=M.run ((freeze z k 0 x).bind fun y=>(freezeL z k xs).bind fun ys=> .pure (y::ys)) s:=by rw [vtj]<;>rfl
@[go_sem ↓] theorem qo6 {v:Value} {s:St}:M.run (pack fz (k+1) (.a v)) s=M.run (.pure (.a v)) s:=by rw [qia]<;>rfl
@[go_sem ↓] theorem qnn {e:Nat} {s:St}:M.run (pack fz (k+1) (.nl e)) s=M.run (.pure (.sl false e [])) s:=by rw [qet]<;>rfl
@[go_sem ↓] theorem qmq {e:Nat} {es:List PV} {s:St}:M.run (pack true (k+1) (.sz e es)) s=M.run (.pure (.sl true e es)) s:=by rw [qd1]<;>rfl
@[go_sem ↓] theorem qn6 {cs:List TV} {s:St}:M.run (pack fz (k+1) (.st cs)) s=M.run ((packL fz k cs).bind fun cs'=> .pure (.st cs')) s:=by rw [qe0]<;>rfl
@[go_sem ↓] theorem qlo {f:Nat} {fs cs:List TV} {s:St}:M.run (pack fz (k+1) (.fn f fs cs)) s=M.run ((packL fz k fs).bind fun fs'=>(packL fz k cs).bind fun cs'=> .pure (.fn f fs' cs')) s:=by rw [qdl]<;>rfl
@[go_sem ↓] theorem qmc {t:Nat} {v:TV} {s:St}:M.run (pack fz (k+1) (.ic t v)) s=M.run ((pack fz k v).bind fun v'=> .pure (.ic t v')) s:=by rw [qea]<;>rfl
@[go_sem ↓] theorem qno {s:St}:M.run (pack fz (k+1) .un) s=M.run (.pure .un) s:=by rw [qc7]<;>rfl
@[go_sem ↓] theorem qha {s:St}:M.run (packL fz (k+1) []) s=M.run (.pure []) s:=by rw [vxy]<;>rfl
@[go_sem ↓] theorem qc3 {x:TV} {xs:List TV} {s:St}:M.run (packL fz (k+1) (x::xs)) s=M.run ((pack fz k x).bind fun y=>(packL fz k xs).bind fun ys=> .pure (y::ys)) s:=by rw [vwl]<;>rfl
@[go_sem ↓] theorem ql9 {v:Value} {s:St}:M.run (unpack q b (.a v)) s=M.run (.pure (.a v,b)) s:=by rw [qdi]<;>rfl
@[go_sem ↓] theorem qm9 {e:Nat} {es:List PV} {s:St}:M.run (unpack q b (.sl true e es)) s=M.run (.pure (.sz e es,b)) s:=by rw [qdu]<;>rfl
@[go_sem ↓] theorem qnb {e:Nat} {es:List PV} {s:St}:M.run (unpack q b (.sl false e es)) s=M.run ((setN b (some (.sl q 0 e es))).bind fun _=> .pure (.rf b,b+1)) s:=by rw [qew]<;>rfl
@[go_sem ↓] theorem qhn {cs:List CV} {s:St}:M.run (unpack q b (.bx z cs)) s=M.run ((unpackL q (b+1) cs).bind fun r=>(setN b (some (.bx z r.1))).bind fun _=> .pure (.rf b,r.2)) s:=by rw [qav]<;>rfl
@[go_sem ↓] theorem qh1 {cs:List CV} {s:St}:M.run (unpack q b (.st cs)) s=M.run ((unpackL q b cs).bind fun r=> .pure (.st r.1,r.2)) s:=by rw [qbh]<;>rfl
@[go_sem ↓] theorem qjj {cs:List CV} {s:St}:M.run (unpack q b (.tp cs)) s=M.run ((unpackL q b cs).bind fun r=> .pure (.tp r.1,r.2)) s:=by rw [qay]<;>rfl
@[go_sem ↓] theorem qk2 {f:Nat} {fs cs:List CV} {s:St}:M.run (unpack q b (.fn f fs cs)) s=M.run ((unpackL q b fs).bind fun p=>(unpackL q p.2 cs).bind fun r=> .pure (.fn f p.1 r.1,r.2)) s:=by rw [qai]<;>rfl
@[go_sem ↓] theorem qji {t:Nat} {v:CV} {s:St}:M.run (unpack q b (.ic t v)) s=M.run ((unpack q b v).bind fun r=> .pure (.ic t r.1,r.2)) s:=by rw [vz1]<;>rfl
@[go_sem ↓] theorem qkp {s:St}:M.run (unpack q b .un) s=M.run (.pure (.un,b)) s:=by rw [vz2]<;>rfl
@[go_sem ↓] theorem qhl {id e0 e:Nat} {es0 es:List PV} {s:St}:M.run (restore q V b (.rf id) (.sl false e0 es0) (.sl false e es)) s=M.run ((getN id).bind fun m=>if m.isNone∧e0=e then (setN id (some (.sl q V e es))).bind fun _=> .pure b else .fail) s:=by rw [vzy]<;>rfl
@[go_sem ↓] theorem qkq {id:Nat} {cs0 cs:List CV} {s:St}:M.run (restore q V b (.rf id) (.bx false cs0) (.bx false cs)) s=M.run ((getN id).bind fun m=>if m.isNone then (unpackL q b cs).bind fun r=>(setN id (some (.bx false r.1))).bind fun _=> .pure r.2 else .fail) s:=by rw [vz5]<;>rfl
@[go_sem ↓] theorem qiv {f f0 f1:Nat} {fs cs:List TV} {fs0 cs0 fs1 cs1:List CV} {s:St}:M.run (restore q V b (.fn f fs cs) (.fn f0 fs0 cs0) (.fn f1 fs1 cs1)) s=M.run ((restoreL q V b fs fs0 fs1).bind fun b'=>restoreL q V b' cs cs0 cs1) s:=by rw [qa3]<;>rfl
@[go_sem ↓] theorem qhz {cs:List TV} {cs0 cs1:List CV} {s:St}:M.run (restore q V b (.st cs) (.st cs0) (.st cs1)) s=M.run (restoreL q V b cs cs0 cs1) s:=by rw [qbw]<;>rfl
@[go_sem ↓] theorem qkt {t t0 t1:Nat} {x:TV} {x0 x1:CV} {s:St}:M.run (restore q V b (.ic t x) (.ic t0 x0) (.ic t1 x1)) s=M.run (restore q V b x x0 x1) s:=by rw [qad]<;>rfl
@[go_sem ↓] theorem ql8 {v:Value} {c0 c:CV} {s:St}:M.run (restore q V b (.a v) c0 c) s=M.run (.pure b) s:=by rw [qed]<;>rfl
@[go_sem ↓] theorem qj9 {e:Nat} {c0 c:CV} {s:St}:M.run (restore q V b (.nl e) c0 c) s=M.run (.pure b) s:=by rw [qan]<;>rfl
@[go_sem ↓] theorem qj6 {e:Nat} {es:List PV} {c0 c:CV} {s:St}:M.run (restore q V b (.sz e es) c0 c) s=M.run (.pure b) s:=by rw [qa8]<;>rfl
@[go_sem ↓] theorem qiu {c0 c:CV} {s:St}:M.run (restore q V b .un c0 c) s=M.run (.pure b) s:=by rw [qbf]<;>rfl
@[go_sem ↓] theorem qnj {v:Value} {s:St}:M.run (lend0 q (.a v)) s=M.run (pack q 40 (.a v)) s:=by rw [qen]<;>rfl
@[go_sem ↓] theorem qje {e:Nat} {s:St}:M.run (lend0 q (.nl e)) s=M.run (pack q 40 (.nl e)) s:=by rw [qa2]<;>rfl
@[go_sem ↓] theorem qhj {id:Nat} {s:St}:M.run (lend0 q (.rf id)) s=M.run (pack q 40 (.rf id)) s:=by rw [qa4]<;>rfl
@[go_sem ↓] theorem qhi {id ver:Nat} {p:List (Nat×Nat×Nat)} {s:St}:M.run (lend0 q (.ri id ver p)) s=M.run (.pure .un) s:=by rw [qa0]<;>rfl
@[go_sem ↓] theorem qk6 {e:Nat} {es:List PV} {s:St}:M.run (lend0 q (.sz e es)) s=M.run (pack q 40 (.sz e es)) s:=by rw [qac]<;>rfl
@[go_sem ↓] theorem qkf {cs:List TV} {s:St}:M.run (lend0 q (.st cs)) s=M.run (pack q 40 (.st cs)) s:=by rw [qak]<;>rfl
@[go_sem ↓] theorem qk0 {f:Nat} {fs cs:List TV} {s:St}:M.run (lend0 q (.fn f fs cs)) s=M.run (pack q 40 (.fn f fs cs)) s:=by rw [qbk]<;>rfl
@[go_sem ↓] theorem qll {t:Nat} {v:TV} {s:St}:M.run (lend0 q (.ic t v)) s=M.run (pack q 40 (.ic t v)) s:=by rw [vz8]<;>rfl
@[go_sem ↓] theorem qkj {s:St}:M.run (lend0 q .un) s=M.run (pack q 40 .un) s:=by rw [qbb]<;>rfl
@[go_sem ↓] theorem ql6 {v:Value} {y:CV} {s:St}:M.run (lend1 q V (.a v) y) s=M.run (.pure y) s:=by rw [qei]<;>rfl
@[go_sem ↓] theorem qjv {e:Nat} {y:CV} {s:St}:M.run (lend1 q V (.nl e) y) s=M.run (.pure y) s:=by rw [qca]<;>rfl
@[go_sem ↓] theorem qke {id:Nat} {y:CV} {s:St}:M.run (lend1 q V (.rf id) y) s=M.run (.pure y) s:=by rw [qb3]<;>rfl
@[go_sem ↓] theorem qhh {e:Nat} {es:List PV} {y:CV} {s:St}:M.run (lend1 q V (.sz e es) y) s=M.run (.pure y) s:=by rw [qbc]<;>rfl
@[go_sem ↓] theorem qlm {cs:List TV} {y:CV} {s:St}:M.run (lend1 q V (.st cs) y) s=M.run (.pure y) s:=by rw [qbg]<;>rfl
@[go_sem ↓] theorem qjk {f:Nat} {fs cs:List TV} {y:CV} {s:St}:M.run (lend1 q V (.fn f fs cs) y) s=M.run (.pure y) s:=by rw [qbd]<;>rfl
@[go_sem ↓] theorem qjp {t:Nat} {v:TV} {y:CV} {s:St}:M.run (lend1 q V (.ic t v) y) s=M.run (.pure y) s:=by rw [qax]<;>rfl
@[go_sem ↓] theorem qhk {y:CV} {s:St}:M.run (lend1 q V .un y) s=M.run (.pure y) s:=by rw [qa7]<;>rfl
@[go_sem ↓] theorem qd5 {id e e':Nat} {es' es1:List PV} {s:St}:M.run (carveK id V e q (some (e',es')) (some es1)) s=M.run ((setN id (some (.sl q V e es1))).bind fun _=> .pure (.sl false e' es')) s:=by rw [vv9]<;>rfl
@[go_sem ↓] theorem qjl {keeps:Bool} {id ver e:Nat} {p:List (Nat×Nat×Nat)} {es:List PV} {s:St}:M.run (ld1B keeps V id ver p (some (.sl false ver e es))) s=M.run (carveK id V e false (dget es p) (dput es p .un)) s:=by rw [vz9]<;>rfl
@[go_sem ↓] theorem qjq {id ver e:Nat} {p:List (Nat×Nat×Nat)} {es:List PV} {s:St}:M.run (ld1B true V id ver p (some (.sl q ver e es))) s=M.run (carveK id V e q (dget es p) (dput es p .un)) s:=by rw [qa5]<;>rfl
@[go_sem ↓] theorem qj7 {id ver:Nat} {p:List (Nat×Nat×Nat)} {y:CV} {s:St}:M.run (lend1 q V (.ri id ver p) y) s=M.run ((getN id).bind (ld1B q V id ver p)) s:=by rw [qa1]<;>rfl
@[go_sem ↓] theorem qoy {v:Value} {c f:CV} {s:St}:M.run (back1 q V b (.a v) c f) s=M.run (restore q V b (.a v) c f) s:=by rw [qks]<;>rfl
@[go_sem ↓] theorem qmu {e:Nat} {c f:CV} {s:St}:M.run (back1 q V b (.nl e) c f) s=M.run (restore q V b (.nl e) c f) s:=by rw [qc6]<;>rfl
@[go_sem ↓] theorem qnq {id:Nat} {c f:CV} {s:St}:M.run (back1 q V b (.rf id) c f) s=M.run (restore q V b (.rf id) c f) s:=by rw [qd8]<;>rfl
@[go_sem ↓] theorem qn2 {e:Nat} {es:List PV} {c f:CV} {s:St}:M.run (back1 q V b (.sz e es) c f) s=M.run (restore q V b (.sz e es) c f) s:=by rw [qdv]<;>rfl
@[go_sem ↓] theorem qmj {cs:List TV} {c f:CV} {s:St}:M.run (back1 q V b (.st cs) c f) s=M.run (restore q V b (.st cs) c f) s:=by rw [qdr]<;>rfl
@[go_sem ↓] theorem qm3 {g:Nat} {fs cs:List TV} {c f:CV} {s:St}:M.run (back1 q V b (.fn g fs cs) c f) s=M.run (restore q V b (.fn g fs cs) c f) s:=by rw [qex]<;>rfl
@[go_sem ↓] theorem qm8 {t:Nat} {v:TV} {c f:CV} {s:St}:M.run (back1 q V b (.ic t v) c f) s=M.run (restore q V b (.ic t v) c f) s:=by rw [qd3]<;>rfl
@[go_sem ↓] theorem qne {c f:CV} {s:St}:M.run (back1 q V b .un c f) s=M.run (restore q V b .un c f) s:=by rw [qdz]<;>rfl
@[go_sem ↓] theorem qgr {id ver e:Nat} {es1:List PV} {s:St}:M.run (fillK id ver e b q (some .un) (some es1)) s=M.run ((setN id (some (.sl q ver e es1))).bind fun _=> .pure b) s:=by rw [vy4]<;>rfl
@[go_sem ↓] theorem qhr {q0:Bool} {id ver e e':Nat} {p:List (Nat×Nat×Nat)} {es es':List PV} {s:St}:M.run (bkB q b id p e' es' (some (.sl q0 ver e es))) s=M.run (fillK id ver e b (q0||q) (dat es p) (dput es p (.sl e' es'))) s:=by rw [qbx]<;>rfl
@[go_sem ↓] theorem qlx {id ver e':Nat} {p:List (Nat×Nat×Nat)} {es':List PV} {c:CV} {s:St}:M.run (back1 q V b (.ri id ver p) c (.sl false e' es')) s=M.run ((getN id).bind (bkB q b id p e' es')) s:=by rw [qem]<;>rfl
end
section
variable {keeps z fz q:Bool} {k n b V j:Nat} {s:St} {ms:List Md} {xs:List TV} {x:TV} {cs fs:List CV} {c f:CV} {y:CV} {ys:List CV}
@[go_sem ↓] theorem qe9:M.run (unpackL q b []) s=M.run (.pure ([],b)) s:=rfl
@[go_sem ↓] theorem qdj {xs:List CV} {x:CV}:M.run (unpackL q b (x::xs)) s=M.run ((unpack q b x).bind fun r=>(unpackL q r.2 xs).bind fun p=> .pure (r.1::p.1,p.2)) s:=rfl
@[go_sem ↓] theorem qfa:M.run (lend keeps [] []) s=M.run (.pure []) s:=rfl
@[go_sem ↓] theorem qku:M.run (lend keeps (.ro n::ms) (x::xs)) s=M.run ((lend keeps ms xs).bind fun ys=> .pure (.un::ys)) s:=rfl
@[go_sem ↓] theorem qfl:M.run (lend keeps (.mut n::ms) (x::xs)) s=M.run ((lend0 keeps x).bind fun y=>(lend keeps ms xs).bind fun ys=> .pure (y::ys)) s:=rfl
@[go_sem ↓] theorem qpb:M.run (lendA keeps V ms xs) s=M.run ((lend keeps ms xs).bind fun ps=>lendI keeps V ms xs ps) s:=rfl
@[go_sem ↓] theorem qde:M.run (lendI keeps V [] [] []) s=M.run (.pure []) s:=rfl
@[go_sem ↓] theorem qgh:M.run (lendI keeps V (.ro n::ms) (x::xs) (y::ys)) s=M.run ((lendI keeps V ms xs ys).bind fun ys=> .pure (y::ys)) s:=rfl
@[go_sem ↓] theorem qeq:M.run (lendI keeps V (.mut n::ms) (x::xs) (y::ys)) s=M.run ((lend1 keeps V x y).bind fun y=>(lendI keeps V ms xs ys).bind fun ys=> .pure (y::ys)) s:=rfl
@[go_sem ↓] theorem qgk:M.run (show_ keeps [] [] []) s=M.run (.pure []) s:=rfl
@[go_sem ↓] theorem qjz:M.run (show_ keeps (.ro n::ms) (x::xs) (y::ys)) s=M.run ((freeze keeps 40 n x).bind fun y=>(show_ keeps ms xs ys).bind fun ys=> .pure (y::ys)) s:=rfl
@[go_sem ↓] theorem qgz:M.run (show_ keeps (.mut n::ms) (x::xs) (y::ys)) s=M.run ((show_ keeps ms xs ys).bind fun ys=> .pure (y::ys)) s:=rfl
@[go_sem ↓] theorem qgw:M.run (takeBack q V b [] [] [] []) s=M.run (.pure b) s:=rfl
@[go_sem ↓] theorem qkg:M.run (takeBack q V b (.ro n::ms) (x::xs) (c::cs) fs) s=M.run (takeBack q V b ms xs cs fs) s:=rfl
@[go_sem ↓] theorem qfk:M.run (takeBack q V b (.mut n::ms) (x::xs) (c::cs) (f::fs)) s=M.run ((back1 q V b x c f).bind fun b'=>takeBack q V b' ms xs cs fs) s:=rfl
@[go_sem ↓] theorem qfj:M.run (resTVs []) s=M.run (.pure []) s:=rfl
@[go_sem ↓] theorem qln {rs:List RV}:M.run (resTVs (.t n::rs)) s=M.run ((getS n).bind fun v=>(resTVs rs).bind fun vs=> .pure (v::vs)) s:=rfl
@[go_sem ↓] theorem qme {rs:List RV} {w:Option Nat}:M.run (resTVs (.cell n w::rs)) s=M.run ((getS n).bind fun u=>(loadAt w u).bind fun v=>(resTVs rs).bind fun vs=> .pure (v::vs)) s:=rfl
@[go_sem ↓] theorem qf7:M.run (packAll fz []) s=M.run (.pure []) s:=rfl
@[go_sem ↓] theorem qez:M.run (packAll fz (x::xs)) s=M.run ((pack fz 40 x).bind fun y=>(packAll fz xs).bind fun ys=> .pure (y::ys)) s:=rfl
@[go_sem ↓] theorem qhd:M.run (lent j []) s=M.run (.pure []) s:=rfl
@[go_sem ↓] theorem qj1:M.run (lent j (.ro n::ms)) s=M.run (lent (j+1) ms) s:=rfl
@[go_sem ↓] theorem qgm:M.run (lent j (.mut n::ms)) s=M.run ((getS (10000+j)).bind fun v=>(lent (j+1) ms).bind fun vs=> .pure (v::vs)) s:=rfl
@[go_sem ↓] theorem qer {ys0:List CV} {y0:CV}:M.run (restoreL q V b (x::xs) (y0::ys0) (y::ys)) s=M.run ((restore q V b x y0 y).bind fun b'=>restoreL q V b' xs ys0 ys) s:=rfl
@[go_sem ↓] theorem qgg {ys0:List CV}:M.run (restoreL q V b [] ys0 ys) s=M.run (.pure b) s:=by cases ys0<;>cases ys<;>rfl
@[go_sem ↓] theorem qp9 {f:Fn}:M.run (takeOut f) s=M.run ((resTVs f.results).bind fun ts=>(packAll f.keeps ts).bind fun rs=>(lent 0 f.modes).bind fun us=>(packAll f.keeps us).bind fun fs=> .pure (rs,fs)) s:=rfl
def frzB (k:Nat):Option Node→M CV
 |some (.sl q _ e es)=> .pure (.sl true e (if q then es.map PV.thaw else es))
 |some (.bx _ cs)=>(freezeL false k cs).bind fun cs'=> .pure (.bx true cs')
 |none=> .fail
theorem vyh {id:Nat}:freeze false (k+1) n (.rf id)=(getN id).bind (frzB k):=by
 rw [vz3];congr 1
@[go_sem ↓] theorem qjr {id:Nat}:M.run (freeze false (k+1) n (.rf id)) s=M.run ((getN id).bind (frzB k)) s:=by rw [vyh]
@[go_sem ↓] theorem qfr {ver e:Nat} {es:List PV}:M.run (frzB k (some (.sl q ver e es))) s=M.run (.pure (.sl true e (if q then es.map PV.thaw else es))) s:=rfl
@[go_sem ↓] theorem qe8 {cs:List TV}:M.run (frzB k (some (.bx z cs))) s=M.run ((freezeL false k cs).bind fun cs'=> .pure (.bx true cs')) s:=rfl
def frzS (lo j:Nat):Option Node→M CV
 |some (.sl q _ e es)=> .pure (.sl true e (if q then ((es.drop lo).take j).map PV.thaw else (es.drop lo).take j))
 |_=> .fail
@[go_sem ↓] theorem qk8 {id lo:Nat}:M.run (freeze false (k+1) n (.sb id lo j)) s=M.run ((getN id).bind (frzS lo j)) s:=by
 rw [qb9];congr 1
@[go_sem ↓] theorem qgc {lo ver e:Nat} {es:List PV}:M.run (frzS lo j (some (.sl q ver e es))) s=M.run (.pure (.sl true e (if q then ((es.drop lo).take j).map PV.thaw else (es.drop lo).take j))) s:=rfl
def frzD (q:Bool):Option (Nat×List PV)→M CV
 |some (e,es)=> .pure (.sl true e (if q then es.map PV.thaw else es))
 |none=> .fail
def frzI (ver:Nat) (p:List (Nat×Nat×Nat)):Option Node→M CV
 |some (.sl q ver' _ es)=>if ver'=ver then frzD q (dget es p) else .fail
 |_=> .fail
@[go_sem ↓] theorem qit {id ver:Nat} {p:List (Nat×Nat×Nat)}:M.run (freeze false (k+1) n (.ri id ver p)) s=M.run ((getN id).bind (frzI ver p)) s:=by
 rw [vz4];congr 1
@[go_sem ↓] theorem qgd {ver ver' e:Nat} {es:List PV} {p:List (Nat×Nat×Nat)}:M.run (frzI ver p (some (.sl q ver' e es))) s=M.run (if ver'=ver then frzD q (dget es p) else .fail) s:=rfl
@[go_sem] theorem qcc {e:Nat} {es:List PV}:M.run (frzD q (some (e,es))) s=M.run (.pure (.sl true e (if q then es.map PV.thaw else es))) s:=rfl
def frzA (k n o:Nat):Option Node→M CV
 |some (.bx _ cs)=>if 0<n∧o+n≤cs.length then (freezeL false k ((cs.drop o).take n)).bind fun cs'=> .pure (.bx true cs') else .fail
 |_=> .fail
@[go_sem ↓] theorem qko {id o:Nat}:M.run (freeze false (k+1) n (.ad id o)) s=M.run ((getN id).bind (frzA k n o)) s:=by
 rw [qbj];congr 1
@[go_sem ↓] theorem qf4 {o:Nat} {cs:List TV}:M.run (frzA k n o (some (.bx z cs))) s=M.run (if 0<n∧o+n≤cs.length then (freezeL false k ((cs.drop o).take n)).bind fun cs'=> .pure (.bx true cs') else .fail) s:=rfl
def pkB (fz:Bool) (k id:Nat):Option Node→M CV
 |some (.sl q _ e es)=>if q&& !fz then .fail else (setN id none).bind fun _=> .pure (.sl false e es)
 |some (.bx z cs)=>if z then .fail else (setN id none).bind fun _=>(packL fz k cs).bind fun cs'=> .pure (.bx false cs')
 |none=> .pure .un
@[go_sem ↓] theorem qnw {id:Nat}:M.run (pack fz (k+1) (.rf id)) s=M.run ((getN id).bind (pkB fz k id)) s:=by
 rw [qdf];congr 1
@[go_sem ↓] theorem qky {id ver e:Nat} {es:List PV}:M.run (pkB fz k id (some (.sl q ver e es))) s=M.run (if q&& !fz then .fail else (setN id none).bind fun _=> .pure (.sl false e es)) s:=rfl
@[go_sem ↓] theorem qh6 {id:Nat} {cs:List TV}:M.run (pkB fz k id (some (.bx z cs))) s=M.run (if z then .fail else (setN id none).bind fun _=>(packL fz k cs).bind fun cs'=> .pure (.bx false cs')) s:=rfl
@[go_sem ↓] theorem qd0 {id:Nat}:M.run (pkB fz k id none) s=M.run (.pure .un) s:=rfl
def topvB (id:Nat):Option Node→M (PV×Bool)
 |some (.sl q _ e es)=>(setN id none).bind fun _=> .pure (.sl e es,q)
 |_=> .fail
@[go_sem ↓] theorem qg2 {id:Nat}:M.run (toPV (.rf id)) s=M.run ((getN id).bind (topvB id)) s:=by
 rw [vzn];congr 1
@[go_sem ↓] theorem qdt {id ver e:Nat} {es:List PV}:M.run (topvB id (some (.sl q ver e es))) s=M.run ((setN id none).bind fun _=> .pure (.sl e es,q)) s:=rfl
end
end Go.Proofs.YteomgghmhicpcaaDoor.VM.Sy
namespace Go.Proofs.YteomgghmhicpcaaDoor.VM
open Go
def fuel:Nat:=2^62
theorem qmi:fuel=4611686018427387904:=rfl
theorem vas {n:Nat} (h:n<4611686018427387904):n<fuel:=h
def calF (Φ:Nat→Option Callee) (N:Nat) (v:Fn):Callee:={modes:=v.modes,keeps:=v.keeps,scalar:=v.scalar,go:=runFn Φ N v}
def tower (tab:List (Nat×Fn)) (ext:Nat→Option Callee) (N:Nat):Nat→Nat→Option Callee
 |0,_=>none
 |d+1,f=>match ext f with
  |some c=>some c
  |none=>match look tab f with
   |some v=>some (calF (tower tab ext N d) N v)
   |none=>none
theorem vts {tab:List (Nat×Fn)} {ext:Nat→Option Callee} {N d f:Nat} {v:Fn} (h:ext f=none) (ht:look tab f=some v):tower tab ext N (d+1) f=some (calF (tower tab ext N d) N v):=by
 simp only [tower,h,ht]
theorem vmx {tab:List (Nat×Fn)} {ext:Nat→Option Callee} {N d f:Nat} {c:Callee} (h:ext f=some c):tower tab ext N (d+1) f=some c:=by
 simp only [tower,h]
theorem ofR {p:Prop} (h:p):p:=h
theorem ofB {m n:Nat} (h:Nat.ble m n=true):m≤n:=Nat.le_of_ble_eq_true h
namespace Sy
def after (live:List Nat):Option (Out×St)→Option (Out×St)
 |some (.nrm,s)=>some (.nrm,norm live s)
 |r=>r
@[go_sem] theorem qg3 {live:List Nat} {s:St}:after live (some (.nrm,s))=some (.nrm,norm live s):=rfl
@[go_sem] theorem qf2 {live:List Nat} {s:St} {id:Nat}:after live (some (.ext id,s))=some (.ext id,s):=rfl
@[go_sem] theorem qfh {live:List Nat} {s:St}:after live (some (.ret,s))=some (.ret,s):=rfl
def round (Φ:Nat→Option Callee) (N:Nat) (live:List Nat) (b:VC) (s:St):Option (Out×St):=after live (goN Φ N [.c b] s.slots s.nodes s.next)
section
variable {Φ:Nat→Option Callee} {N:Nat} {live:List Nat} {b:VC} {r:List It}
theorem vmj (s:St):round Φ N live b s=after live (run Φ N b s):=rfl
theorem vgn {live:List Nat} {x:Option (Out×St)} {o:Out} {s:St} (h:after live x=some (o,s)) (ho:o≠ .nrm):x=some (o,s):=by
 cases x with
 |none=>cases h
 |some p=>
  obtain ⟨o',s'⟩:=p
  cases o'<;>simp only [after,Option.some.injEq,Prod.mk.injEq] at h
  ·exact absurd h.1.symm ho
  ·obtain ⟨rfl,rfl⟩:=h;rfl
  ·obtain ⟨rfl,rfl⟩:=h;rfl
theorem vok (S:Nat→St) (R:Nat→Out×St) {m:Nat} (hN:m<N) (hr:∀i,i≤m→(R i).1≠ .nrm)
  (step:∀i,i≤m→(i<m∧round Φ N live b (S i)=some (.nrm,S (i+1))∧R i=R (i+1))∨round Φ N live b (S i)=some (R i)):
  goP Φ N live b r (S 0)=goL Φ N r (some (R 0)):=by
 have key:∀(k i n:Nat),i+k=m→k<n→roundsN (run Φ N b) live n (S i)=some (R i):=by
  intro k
  induction k with
  |zero=>
   intro i n hi hn
   obtain ⟨n,rfl⟩:∃n',n=n'+1:=⟨n-1,by omega⟩
   rcases step i (by omega) with ⟨h1,_⟩|h
   ·omega
   ·have:=vgn (x:=run Φ N b (S i)) (live:=live) (o:=(R i).1) (s:=(R i).2) h (hr i (by omega))
    simp only [roundsN,this]
    have hne:=hr i (by omega)
    generalize hR:R i=p at hne⊢
    obtain ⟨o,s⟩:=p
    cases o<;>first|rfl|exact absurd rfl hne
  |succ k ih=>
   intro i n hi hn
   obtain ⟨n,rfl⟩:∃n',n=n'+1:=⟨n-1,by omega⟩
   rcases step i (by omega) with ⟨h1,h2,h3⟩|h
   ·rw [vmj] at h2
    simp only [roundsN]
    cases hx:run Φ N b (S i) with
    |none=>rw [hx] at h2;cases h2
    |some p=>
     obtain ⟨o,s⟩:=p
     rw [hx] at h2
     cases o with
     |nrm=>
      simp only [after,Option.some.injEq,Prod.mk.injEq,true_and] at h2
      simp only [h2,h3]
      exact ih (i+1) n (by omega) (by omega)
     |ext id=>simp [after] at h2
     |ret=>simp [after] at h2
   ·have:=vgn (x:=run Φ N b (S i)) (live:=live) (o:=(R i).1) (s:=(R i).2) h (hr i (by omega))
    simp only [roundsN,this]
    have hne:=hr i (by omega)
    generalize hR:R i=p at hne⊢
    obtain ⟨o,s⟩:=p
    cases o<;>first|rfl|exact absurd rfl hne
 unfold goP
 rw [key m 0 N (by omega) hN]
theorem vf9 (I:Nat→St→Prop) (E:Out→St→Prop) {m:Nat} (hN:m<N) {s:St} (h0:I m s)
  (step:∀k s,k≤m→I k s→(∃k' s',k=k'+1∧round Φ N live b s=some (.nrm,s')∧I k' s')∨∃o s',o≠ .nrm∧round Φ N live b s=some (o,s')∧E o s'):
  ∃o e,E o e∧o≠ .nrm∧goP Φ N live b r s=goL Φ N r (some (o,e)):=by
 have key:∀(k n:Nat) (s:St),k≤m→k<n→I k s→∃o e,E o e∧o≠ .nrm∧roundsN (run Φ N b) live n s=some (o,e):=by
  intro k
  induction k with
  |zero=>
   intro n s hk hn hs
   obtain ⟨n,rfl⟩:∃n',n=n'+1:=⟨n-1,by omega⟩
   rcases step 0 s hk hs with ⟨k',_,h,_⟩|⟨o,s',ho,h,he⟩
   ·omega
   ·have:=vgn (x:=run Φ N b s) (live:=live) h ho
    refine ⟨o,s',he,ho,?_⟩
    simp only [roundsN,this]
    cases o<;>first|rfl|exact absurd rfl ho
  |succ k ih=>
   intro n s hk hn hs
   obtain ⟨n,rfl⟩:∃n',n=n'+1:=⟨n-1,by omega⟩
   rcases step (k+1) s hk hs with ⟨k',s',h1,h2,h3⟩|⟨o,s',ho,h,he⟩
   ·obtain rfl:k=k':=by omega
    rw [vmj] at h2
    cases hx:run Φ N b s with
    |none=>rw [hx] at h2;cases h2
    |some p=>
     obtain ⟨o,s1⟩:=p
     rw [hx] at h2
     cases o with
     |nrm=>
      simp only [after,Option.some.injEq,Prod.mk.injEq,true_and] at h2
      obtain ⟨o,e,he,ho,hr⟩:=ih n s' (by omega) (by omega) h3
      refine ⟨o,e,he,ho,?_⟩
      simp only [roundsN,hx,h2]
      exact hr
     |ext id=>simp [after] at h2
     |ret=>simp [after] at h2
   ·have:=vgn (x:=run Φ N b s) (live:=live) h ho
    refine ⟨o,s',he,ho,?_⟩
    simp only [roundsN,this]
    cases o<;>first|rfl|exact absurd rfl ho
 obtain ⟨o,e,he,ho,hr⟩:=key m N s (Nat.le_refl _) hN h0
 refine ⟨o,e,he,ho,?_⟩
 unfold goP
 rw [hr]
theorem vwh (S:Nat→St) (e:St) {m id:Nat} (hN:m<N) (step:∀i,i<m→round Φ N live b (S i)=some (.nrm,S (i+1))) (last:round Φ N live b (S m)=some (.ext id,e)):
  goP Φ N live b r (S 0)=goE Φ N r id e.slots e.nodes e.next:=by
 rw [vok S (fun _=>(.ext id,e)) hN (fun _ _=>by simp) fun i hi=> ?_]
 ·rfl
 ·by_cases h:i<m
  ·exact .inl ⟨h,step i h,rfl⟩
  ·have:i=m:=by omega
   subst this
   exact .inr last
end
def loopE (Φ:Nat→Option Callee) (N:Nat) (live:List Nat) (b:VC) (s:St):Option (Out×St):=roundsN (run Φ N b) live N s
theorem vbq {Φ:Nat→Option Callee} {N:Nat} {live:List Nat} {b:VC} (S:Nat→St) (e:St) {m id:Nat} (hN:m<N) (step:∀i,i<m→round Φ N live b (S i)=some (.nrm,S (i+1))) (last:round Φ N live b (S m)=some (.ext id,e)):
  loopE Φ N live b (S 0)=some (.ext id,e):=vwh (r:= []) S e hN step last
theorem qg6 {Φ:Nat→Option Callee} {N:Nat} {live:List Nat} {b:VC} (S:Nat→St) (R:Nat→Out×St) {m:Nat} (hN:m<N) (hr:∀i,i≤m→(R i).1≠ .nrm)
  (step:∀i,i≤m→(i<m∧round Φ N live b (S i)=some (.nrm,S (i+1))∧R i=R (i+1))∨round Φ N live b (S i)=some (R i)):loopE Φ N live b (S 0)=some (R 0):=vok (r:= []) S R hN hr step
theorem vbf {Φ:Nat→Option Callee} {N:Nat} {live:List Nat} {b:VC} (S:Nat→St) (R:Out×St) (P:Nat→Prop) {m:Nat} (hN:m<N) (h0:P 0) (hr:R.1≠ .nrm)
  (step:∀i,i≤m→P i→(i<m∧round Φ N live b (S i)=some (.nrm,S (i+1))∧P (i+1))∨round Φ N live b (S i)=some R):loopE Φ N live b (S 0)=some R:=by
 obtain ⟨o,e,⟨rfl,rfl⟩,_,h⟩:=vf9 (Φ:=Φ) (N:=N) (live:=live) (b:=b) (r:= []) (fun j s=>∃i,i+j=m∧P i∧s=S i) (fun o e=>o=R.1∧e=R.2) hN (s:=S 0) ⟨0,by omega,h0,rfl⟩ (by
  rintro j s hj ⟨i,hi,hp,rfl⟩
  rcases step i (by omega) hp with ⟨h1,h2,h3⟩|h1
  ·exact .inl ⟨j-1,_,by omega,h2,i+1,by omega,h3,rfl⟩
  ·exact .inr ⟨R.1,R.2,hr,h1,rfl,rfl⟩)
 exact h
theorem vah {Φ:Nat→Option Callee} {N:Nat} {live:List Nat} {b:VC} {r:List It} {s S0 e:St} {id:Nat} (h:loopE Φ N live b S0=some (.ext id,e)) (hs:norm live s=S0):
  goP Φ N live b r (norm live s)=goE Φ N r id e.slots e.nodes e.next:=by
 rw [hs];unfold goP;rw [show roundsN (run Φ N b) live N S0=some (.ext id,e) from h];rfl
theorem vbo {Φ:Nat→Option Callee} {N:Nat} {live:List Nat} {b:VC} {r:List It} {s S0 e:St} (h:loopE Φ N live b S0=some (.ret,e)) (hs:norm live s=S0):
  goP Φ N live b r (norm live s)=some (.ret,e):=by
 rw [hs];unfold goP;rw [show roundsN (run Φ N b) live N S0=some (.ret,e) from h];exact vlk Φ N e r
end Sy
section
variable {Φ:Nat→Option Callee} {N:Nat} {v:Fn}
@[go_sem] theorem qf5:(calF Φ N v).modes=v.modes:=rfl
@[go_sem] theorem qfu:(calF Φ N v).keeps=v.keeps:=rfl
@[go_sem] theorem qc5:(calF Φ N v).scalar=v.scalar:=rfl
@[go_sem] theorem qo5:(calF Φ N v).go=runFn Φ N v:=rfl
end
attribute [go_sem] Bool.false_and Bool.true_and Bool.and_true Bool.true_or Bool.false_or Bool.or_true Bool.and_self Option.isNone_some Option.isSome_some decide_true decide_false decide_eq_true decide_eq_false List.length_map List.length_append List.length_replicate List.length_set List.map_append List.replicate_succ List.replicate_zero List.set_cons_zero List.set_cons_succ List.map_cons List.map_nil List.length_cons List.length_nil List.getElem?_cons_zero List.getElem?_cons_succ List.drop_zero List.drop_succ_cons List.drop_nil List.take_succ_cons List.take_zero List.nil_append List.cons_append List.append_nil Option.map_some Option.getD_some Option.isNone_none List.getElem?_map Int.toNat_natCast
 if_true if_false Bool.false_eq_true Bool.or_false Bool.or_self Bool.and_false Bool.not_true Bool.not_false reduceCtorEq true_and and_true and_self Nat.zero_add Nat.add_zero
theorem van (x:Int) (h0: -9223372036854775808≤x) (h1:x≤9223372036854775807):IntKind.i64.wrap x=x:=by
 unfold IntKind.wrap
 simp [IntKind.bits,IntKind.signed]
 omega
theorem vag (i:Nat) (h:i<9223372036854775807):IntKind.i64.wrap ((i:Int)+1)=((i+1:Nat):Int):=by
 rw [van]<;>omega
theorem vbt {α β:Type} (f:α→β) (l:List α) (x:α):(l++ [x]).map f=l.map f++ [f x]:=by simp
end Go.Proofs.YteomgghmhicpcaaDoor.VM
namespace Go.Proofs.YteomgghmhicpcaaDoor.VM.Sy
open Go
variable {Φ:Nat→Option Callee} {N:Nat} {live:List Nat} {b:VC}
attribute [go_sem] List.size_toArray
@[go_sem] theorem qif {x y:ByteArray}:(x++y).size=x.size+y.size:=ByteArray.size_append
@[go_sem ↓] theorem qjh {q:Bool} {v b id:Nat} {c0:CV} {s:St}:M.run (restore q v b (.rf id) c0 .un) s=some (b,s):=by
 cases c0<;>first|rfl|(simp only [restore];rfl)
def loadJ (x:Option PV) (id ver:Nat) (p:List (Nat×Nat×Nat)) (i m o:Nat) (w:Option Nat):Option TV:=
 match x with
 |some x=>if x.cells.length=m then pickCells (ownC id ver p i m 0 x.cells) o w else none
 |none=>none
@[go_sem] theorem qc9 {x:PV} {id ver:Nat} {p:List (Nat×Nat×Nat)} {i m o:Nat} {w:Option Nat} (h:x.cells.length=m):loadJ (some x) id ver p i m o w=pickCells (ownC id ver p i m 0 x.cells) o w:=by simp [loadJ,h]
def loadI (r:Option (Nat×List PV)) (id ver:Nat) (p:List (Nat×Nat×Nat)) (i m o:Nat) (w:Option Nat):Option TV:=
 match r with
 |some (_,es)=>loadJ es[i]? id ver p i m o w
 |none=>none
@[go_sem] theorem qdg {e:Nat} {es:List PV} {id ver:Nat} {p:List (Nat×Nat×Nat)} {i m o:Nat} {w:Option Nat}:loadI (some (e,es)) id ver p i m o w=loadJ es[i]? id ver p i m o w:=rfl
@[go_sem] theorem qkv {nd:Nodes} {w:Option Nat} {id ver:Nat} {p:List (Nat×Nat×Nat)} {i m o:Nat}:loadP nd w (.ei id ver p i m o)=loadI (elemsI (nodeL nd id) ver p) id ver p i m o w:=by
 simp only [loadP,loadAt,vad,nodeL]
 simp only [VM.getN,M.run,St.node]
 cases (look nd id).getD none with
 |none=>rfl
 |some n=>
  cases n with
  |bx z cs=>rfl
  |sl q ver' e es=>
   simp only [elemsI]
   split
   ·cases dget es p with
    |none=>rfl
    |some r=>
     simp only [loadI]
     cases r.2[i]? with
     |none=>rfl
     |some x=>
      simp only [loadJ,vre]
      split
      ·cases pickCells (ownC id ver p i m 0 x.cells) o w<;>rfl
      ·rfl
   ·rfl
def fadI (n:Option Node) (id ver:Nat) (p:List (Nat×Nat×Nat)) (i m o:Nat):Option TV:=
 match n with
 |some (.sl _ ver' _ _)=>if ver'=ver then some (.ei id ver p i m o) else none
 |_=>none
@[go_sem] theorem qnz {q:Bool} {e:Nat} {es:List PV} {id ver:Nat} {p:List (Nat×Nat×Nat)} {i m o:Nat}:fadI (some (.sl q ver e es)) id ver p i m o=some (.ei id ver p i m o):=by simp [fadI]
@[go_sem] theorem qpk {nd:Nodes} {id ver:Nat} {p:List (Nat×Nat×Nat)} {i m o off:Nat}:fadP nd off (.ei id ver p i m o)=fadI (nodeL nd id) id ver p i m (o+off):=by
 simp only [fadP,fieldAt,vad,nodeL,fadI]
 simp only [VM.getN,M.run,St.node]
 cases (look nd id).getD none with
 |none=>rfl
 |some n=>
  cases n with
  |bx z cs=>rfl
  |sl q ver' e es=>
   simp only
   split<;>rfl
theorem vc4 (I:Nat→St→Prop) (id:Nat) (E:St→Prop) {m:Nat} (hN:m<N) {s:St} (h0:I m s)
  (step:∀k s,k≤m→I k s→(0<k∧∃s',round Φ N live b s=some (.nrm,s')∧I (k-1) s')∨∃e,round Φ N live b s=some (.ext id,e)∧E e):
  ∃e,E e∧loopE Φ N live b s=some (.ext id,e):=by
 obtain ⟨o,e,⟨rfl,h1⟩,_,h2⟩:=vf9 (Φ:=Φ) (N:=N) (live:=live) (b:=b) (r:= []) I (fun o e=>o= .ext id∧E e) hN h0 fun k s hk hi=>by
  rcases step k s hk hi with ⟨h1,s',h2,h3⟩|⟨e,h1,h2⟩
  ·exact .inl ⟨k-1,s',by omega,h2,h3⟩
  ·exact .inr ⟨.ext id,e,by simp,h1,rfl,h2⟩
 exact ⟨e,h1,h2⟩
theorem vkc {α β:Type} (l:List α) (S:Nat→β→St) (I:Nat→β→Prop) (f:β→α→β) (E:β→St) {id:Nat} (hN:l.length<N) {a0:β} (h0:I 0 a0)
  (step:∀i x acc,l[i]? =some x→I i acc→round Φ N live b (S i acc)=some (.nrm,S (i+1) (f acc x))∧I (i+1) (f acc x))
  (last:∀acc,I l.length acc→round Φ N live b (S l.length acc)=some (.ext id,E acc)):
  loopE Φ N live b (S 0 a0)=some (.ext id,E (l.foldl f a0))∧I l.length (l.foldl f a0):=by
 have hI:∀i,i≤l.length→I i ((l.take i).foldl f a0):=by
  intro i
  induction i with
  |zero=>intro _;simpa using h0
  |succ i ih=>
   intro hi
   obtain ⟨x,hx⟩:∃x,l[i]? =some x:=⟨_,List.getElem?_eq_getElem (by omega)⟩
   rw [List.take_add_one,hx,List.foldl_append]
   exact (step i x _ hx (ih (by omega))).2
 have key:=vbq (Φ:=Φ) (N:=N) (live:=live) (b:=b) (fun i=>S i ((l.take i).foldl f a0)) (E (l.foldl f a0)) (m:=l.length) (id:=id) hN (fun i hi=>by
  obtain ⟨x,hx⟩:∃x,l[i]? =some x:=⟨_,List.getElem?_eq_getElem hi⟩
  have:=(step i x _ hx (hI i (by omega))).1
  rw [this,List.take_add_one,hx,List.foldl_append]
  rfl) (by
  have:=last _ (hI l.length (Nat.le_refl _))
  rw [List.take_length] at this⊢
  exact this)
 refine ⟨by simpa using key,?_⟩
 have:=hI l.length (Nat.le_refl _)
 rwa [List.take_length] at this
end Go.Proofs.YteomgghmhicpcaaDoor.VM.Sy

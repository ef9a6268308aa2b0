/- The interpreter 'VM': rules by which it is run over symbols: a list of what is still to be done, a frame, and an equation for each kind of step. The interpreter 'VM': rules for steps that are run: they are tried before the step's parts are looked at. (Printed by runlem.py, out of YtpnnhokaehghfaaDoorVmSym.) The interpreter 'VM': the tower of calls: each function over those that it calls, to any depth. The interpreter 'VM': loops whose frames are known by a property, and loops over lists. -/
import Derived.Test.YtpnnhokaehghfaaDoorVmA
import Derived.Attr
import Derived.Laws.Strings
import Derived.KernelRfl
open Option renaming map_some->Aa,map_none->Ai,map_map->Aj
open List renaming replicate->Ab,length_cons->Af,getElem?_eq_getElem->Ag,length_nil->Ah,map_cons->Ak
open Bool renaming false_eq_true->Ac
open Option.some renaming injEq->Ad
open Prod.mk renaming injEq->Ae
namespace Go.Proofs.YtpnnhokaehghfaaDoor.VM.Sy
open Go
inductive It where
 |c (v:VC)
 |blk (id:Nat)
 |ops (b:Nat) (os:List VOper) (live:List Nat)
abbrev vbx:=List (Nat×TV)
abbrev vcj:=List (Nat×Option Node)
section
variable (Φ:Nat→Option Callee) (N:Nat)
def stepI (it:It) (o:Option (Out×St)):Option (Out×St):=
 match it,o with
 | .c v,some (.nrm,s)=>run Φ N v s
 | .blk id,some (.ext j,s)=>if j=id then some (.nrm,s) else some (.ext j,s)
 | .ops b os live,some (.nrm,s)=>(execs Φ b os s).map fun s'=>(.nrm,{slots:=keep live s',nodes:=s'.nodes,next:=b+100 * os.length})
 |_,x=>x
def goL:List It→Option (Out×St)→Option (Out×St)
 | [],x=>x
 |it::r,x=>goL r (stepI Φ N it x)
def goN (r:List It) (sl:vbx) (nd:vcj) (nx:Nat):Option (Out×St):=goL Φ N r (some (.nrm,⟨sl,nd,nx⟩))
def goE (r:List It) (id:Nat) (sl:vbx) (nd:vcj) (nx:Nat):Option (Out×St):=goL Φ N r (some (.ext id,⟨sl,nd,nx⟩))
def vdj (f:St→Option (Out×St)) (live:List Nat):Nat→St→Option (Out×St)
 |0,_=>none
 |n+1,s=>match f s with
  |some (.nrm,s')=>vdj f live n (norm live s')
  |r=>r
def goP (live:List Nat) (b:VC) (r:List It) (s:St):Option (Out×St):=goL Φ N r (vdj (run Φ N b) live N s)
theorem vse (f:St→Option (Out×St)) (live:List Nat):∀(n:Nat) (s:St),rounds f live n s=vdj f live n (norm live s)
 |0,_=>rfl
 |n+1,s=>by
  simp only [rounds,vdj];cases f (norm live s) with
  |none=>rfl
  |some p=>
   obtain ⟨o,s'⟩:=p;cases o with
   |nrm=>exact vse f live n _
   |_=>rfl
theorem vh9:∀(r:List It),goL Φ N r none=none
 | []=>rfl
 |it::r=>by
  simp only [goL];rw [show stepI Φ N it none=none from by cases it<;>rfl];exact vh9 r
theorem vu9 (s:St):∀(r:List It),goL Φ N r (some (.ret,s))=some (.ret,s)
 | []=>rfl
 |it::r=>by
  simp only [goL];rw [show stepI Φ N it (some (.ret,s))=some (.ret,s) from by cases it<;>rfl];exact vu9 s r
variable {Φ:Nat→Option Callee} {N:Nat} {r:List It} {sl:vbx} {nd:vcj} {nx:Nat}
theorem qtb:goN Φ N [] sl nd nx=some (.nrm,⟨sl,nd,nx⟩):=rfl
theorem qqv:goN Φ N (.c .skip::r) sl nd nx=goN Φ N r sl nd nx:=rfl
theorem qtn:goN Φ N (.c .ret::r) sl nd nx=some (.ret,⟨sl,nd,nx⟩):=vu9 Φ N _ r
theorem qrd {id:Nat}:goN Φ N (.c (.exit id)::r) sl nd nx=goE Φ N r id sl nd nx:=rfl
theorem qt8 {id:Nat}:goN Φ N (.blk id::r) sl nd nx=goN Φ N r sl nd nx:=rfl
theorem qoj {id:Nat}:goE Φ N [] id sl nd nx=some (.ext id,⟨sl,nd,nx⟩):=rfl
theorem quf {id:Nat} {v:VC}:goE Φ N (.c v::r) id sl nd nx=goE Φ N r id sl nd nx:=rfl
theorem qpm {id b:Nat} {os:List VOper} {live:List Nat}:goE Φ N (.ops b os live::r) id sl nd nx=goE Φ N r id sl nd nx:=rfl
theorem qpa {id j:Nat}:goE Φ N (.blk j::r) id sl nd nx=if id=j then goN Φ N r sl nd nx else goE Φ N r id sl nd nx:=by
 simp only [goE,goL,stepI,goN];split<;>rfl
theorem qro {a b:VC}:goN Φ N (.c (.seq a b)::r) sl nd nx=goN Φ N (.c a:: .c b::r) sl nd nx:=by
 simp only [goN,goL,stepI,run];cases run Φ N a ⟨sl,nd,nx⟩ with
 |none=>rfl
 |some p=>
  obtain ⟨o,s⟩:=p;cases o<;>rfl
theorem qnm {id:Nat} {b:VC}:goN Φ N (.c (.block id b)::r) sl nd nx=goN Φ N (.c b:: .blk id::r) sl nd nx:=by
 simp only [goN,goL,stepI,run];cases run Φ N b ⟨sl,nd,nx⟩ with
 |none=>rfl
 |some p=>
  obtain ⟨o,s⟩:=p;cases o<;>rfl
theorem qox {live:List Nat} {b:VC}:goN Φ N (.c (.loop live b)::r) sl nd nx=goP Φ N live b r (norm live ⟨sl,nd,nx⟩):=by
 simp only [goN,goL,stepI,run,goP,vse]
theorem qrz {os:List VOper} {live:List Nat}:goN Φ N (.c (.reg os live)::r) sl nd nx=goN Φ N (.ops nx os live::r) sl nd nx:=by
 simp only [goN,goL,stepI,run];cases execs Φ nx os ⟨sl,nd,nx⟩<;>rfl
theorem qcy {os:List VOper} {live:List Nat} {ps:List (Nat×Nat)} (h:okD Φ ps os ⟨sl,nd,nx⟩=true):goN Φ N (.c (.regD os live ps)::r) sl nd nx=goN Φ N (.ops nx os live::r) sl nd nx:=by
 simp only [goN,goL,stepI,run,h,if_true];cases execs Φ nx os ⟨sl,nd,nx⟩<;>rfl
attribute [go_sem] qtb qqv qtn qrd qt8 qoj quf qpm qpa qro qnm qox qrz
attribute [go_sem] qcy
def vdc (sl:vbx) (n:Nat):TV:=(look sl n).getD .un
def selS (b:Bool) (v:TV) (sl:vbx) (n:Nat):TV:=match b with|true=>v|false=>vdc sl n
theorem qs8 {v:TV} {n:Nat}:selS true v sl n=v:=rfl
theorem qsc {v:TV} {n:Nat}:selS false v sl n=vdc sl n:=rfl
theorem qip {n m:Nat} {v:TV}:vdc ((m,v)::sl) n=selS (m==n) v sl n:=by
 by_cases h:m=n
 ·subst h;simp [vdc,look,selS]
 ·have:(m==n)=false:=by simpa using h
  rw [this];simp [vdc,look,h,selS]
attribute [go_sem] qs8 qsc qip
def vlj (sl:vbx):List Nat→vbx
 | []=> []
 |t::ts=>(t,vdc sl t)::vlj sl ts
theorem qku:vlj sl []= []:=rfl
theorem qin {t:Nat} {ts:List Nat}:vlj sl (t::ts)=(t,vdc sl t)::vlj sl ts:=rfl
theorem vvm (s:St):∀(live:List Nat),keep live s=vlj s.slots live
 | []=>rfl
 |t::ts=>by simp [keep,vlj,←vvm s ts,St.slot,vdc]
theorem qtm {b:Nat} {live:List Nat}:goN Φ N (.ops b [] live::r) sl nd nx=goN Φ N r (vlj sl live) nd b:=by
 simp only [goN,goL,stepI,execs,Aa,vvm,Ah,Nat.mul_zero,Nat.add_zero]
attribute [go_sem] qku qin qtm
def va2 (nd:vcj) (id:Nat):Option Node:=(look nd id).getD none
def selN (b:Bool) (v:Option Node) (nd:vcj) (n:Nat):Option Node:=match b with|true=>v|false=>va2 nd n
theorem qtr {v:Option Node} {n:Nat}:selN true v nd n=v:=rfl
theorem qtc {v:Option Node} {n:Nat}:selN false v nd n=va2 nd n:=rfl
theorem qir {n m:Nat} {v:Option Node}:va2 ((m,v)::nd) n=selN (m==n) v nd n:=by
 by_cases h:m=n
 ·subst h;simp [va2,look,selN]
 ·have:(m==n)=false:=by simpa using h
  rw [this];simp [va2,look,h,selN]
theorem qps {b:VC}:goN Φ N (.c (.frz b)::r) sl nd nx=goN Φ N (.c b::r) (frzSl (va2 nd) sl) (frzNd (va2 nd) nd) nx:=rfl
attribute [go_sem] qtr qtc qir qps
def frzK (n:Option Node) (id:Nat):TV:=match n with
 |some (.sl _ _ e es)=> .sz e es
 |_=> .rf id
theorem qpe {q:Bool} {v e id:Nat} {es:List PV}:frzK (some (.sl q v e es)) id= .sz e es:=rfl
theorem qo5 {z:Bool} {cs:List TV} {id:Nat}:frzK (some (.bx z cs)) id= .rf id:=rfl
theorem qj2 {f:Nat→Option Node}:frzSl f []= []:=rfl
theorem qgz {f:Nat→Option Node} {t:Nat} {v:TV} {l:vbx}:frzSl f ((t,v)::l)=(t,frzT f v)::frzSl f l:=rfl
theorem qig {f:Nat→Option Node}:frzNd f []= []:=rfl
theorem qg9 {id:Nat} {n:Option Node} {l:vcj}:frzNd (va2 nd) ((id,n)::l)=(id,frzN (va2 nd) (va2 nd id))::frzNd (va2 nd) l:=rfl
theorem qph {f:Nat→Option Node} {z:Bool} {cs:List TV}:frzN f (some (.bx z cs))=some (.bx z (frzTs f cs)):=rfl
theorem qpf {f:Nat→Option Node} {q:Bool} {v e:Nat} {es:List PV}:frzN f (some (.sl q v e es))=none:=rfl
theorem qq1 {f:Nat→Option Node}:frzN f none=none:=rfl
theorem qia {f:Nat→Option Node}:frzTs f []= []:=rfl
theorem qh8 {f:Nat→Option Node} {c:TV} {cs:List TV}:frzTs f (c::cs)=frzT f c::frzTs f cs:=rfl
theorem qrv {f:Nat→Option Node} {v:Value}:frzT f (.a v)= .a v:=rfl
theorem qp3 {f:Nat→Option Node} {e:Nat}:frzT f (.nl e)= .nl e:=rfl
theorem qpg {id:Nat}:frzT (va2 nd) (.rf id)=frzK (va2 nd id) id:=by
 unfold frzT frzK;split<;>simp_all
theorem qqp {f:Nat→Option Node} {e:Nat} {es:List PV}:frzT f (.sz e es)= .sz e es:=rfl
theorem qp5 {f:Nat→Option Node} {cs:List TV}:frzT f (.st cs)= .st (frzTs f cs):=rfl
theorem qqh {f:Nat→Option Node} {cs:List TV}:frzT f (.tp cs)= .tp (frzTs f cs):=rfl
theorem qqg {f:Nat→Option Node}:frzT f .un= .un:=rfl
theorem qrf {f:Nat→Option Node} {id o:Nat}:frzT f (.ad id o)= .ad id o:=rfl
theorem qq3 {f:Nat→Option Node} {cs:List PV} {o:Nat}:frzT f (.ez cs o)= .ez cs o:=rfl
theorem qon {f:Nat→Option Node} {id v:Nat} {p:List (Nat×Nat×Nat)}:frzT f (.ri id v p)= .un:=rfl
theorem qp1 {f:Nat→Option Node} {id lo n:Nat}:frzT f (.sb id lo n)= .un:=rfl
theorem qpt {f:Nat→Option Node} {id i m o:Nat}:frzT f (.ea id i m o)= .un:=rfl
theorem qpv {f:Nat→Option Node} {id v i m o:Nat} {p:List (Nat×Nat×Nat)}:frzT f (.ei id v p i m o)= .un:=rfl
attribute [go_sem] qpe qo5 qj2 qgz qig qg9 qph qpf qq1 qia qh8 qrv qp3 qpg qqp qp5 qqh qqg qrf qq3 qon qp1 qpt qpv
def roA (Φ:Nat→Option Callee) (N:Nat) (l:List Nat) (r:List It) (sl:vbx) (nd:vcj) (nx:Nat):Option (Out×St)→Option (Out×St)
 |some (.nrm,s')=>goN Φ N r (roBs ⟨sl,nd,nx⟩ s' l) nd s'.next
 |_=>none
def roSvL (sl:vbx) (nd:vcj):List Nat→vbx→vbx
 | [],acc=>acc
 |t::r,acc=>if t<10000 then (20000+t,frzT (va2 nd) (vdc sl t))::roSvL sl nd r acc else roSvL sl nd r acc
theorem qi9 {acc:vbx}:roSvL sl nd [] acc=acc:=rfl
theorem qg8 {t:Nat} {l:List Nat} {acc:vbx}:roSvL sl nd (t::l) acc=if t<10000 then (20000+t,frzT (va2 nd) (vdc sl t))::roSvL sl nd l acc else roSvL sl nd l acc:=rfl
theorem vo2 (acc:vbx):∀(l:List Nat),roSvL sl nd l acc=roSv ⟨sl,nd,nx⟩ l++acc
 | []=>rfl
 |t::l=>by
  simp only [roSvL,roSv];split
  ·rw [vo2 acc l];rfl
  ·exact vo2 acc l
theorem qne {f:Nat→Option Node}:roSl f []= []:=rfl
theorem qi0 {f:Nat→Option Node} {t:Nat} {v:TV} {l:vbx}:roSl f ((t,v)::l)=if t<20000 then (t,frzT f v)::roSl f l else roSl f l:=rfl
theorem qm5 {f:Nat→Option Node}:roNd f []= []:=rfl
theorem qjt {id:Nat} {n:Option Node} {l:vcj}:roNd (va2 nd) ((id,n)::l)=(id,roN (va2 nd) (va2 nd id))::roNd (va2 nd) l:=rfl
theorem qt4 {f:Nat→Option Node} {z:Bool} {cs:List TV}:roN f (some (.bx z cs))=some (.bx true (frzTs f cs)):=rfl
theorem qrx {f:Nat→Option Node} {q:Bool} {v e:Nat} {es:List PV}:roN f (some (.sl q v e es))=none:=rfl
theorem qsv {f:Nat→Option Node}:roN f none=none:=rfl
theorem qk4 {s s':St}:roBs s s' []= []:=rfl
theorem qkk {sl':vbx} {nd':vcj} {n n' t:Nat} {l:List Nat}:roBs ⟨sl,nd,n⟩ ⟨sl',nd',n'⟩ (t::l)=if t<20000 then (t,if t<10000 then roK (vdc sl t) (vdc sl' t) (vdc sl' (20000+t)) else vdc sl t)::roBs ⟨sl,nd,n⟩ ⟨sl',nd',n'⟩ l else roBs ⟨sl,nd,n⟩ ⟨sl',nd',n'⟩ l:=rfl
theorem qup {o y:TV} {v:Value}:roK o (.a v) y= .a v:=rfl
theorem qtz {o:TV} {i j:Nat}:roK o (.rf i) (.rf j)=if j=i then o else .un:=rfl
theorem qs2 {o y:TV} {e:Nat} {es:List PV}:roK o (.sz e es) y= .un:=rfl
theorem qtu {o y:TV} {cs:List TV}:roK o (.st cs) y= .un:=rfl
theorem qs6 {o y:TV}:roK o .un y= .un:=rfl
theorem qsf {o y:TV} {e:Nat}:roK o (.nl e) y= .un:=rfl
theorem qt9 {l:List Nat} {b:VC}:goN Φ N (.c (.ro l b)::r) sl nd nx=roA Φ N l r sl nd nx (goN Φ N [.c b] (roSvL sl nd l (roSl (va2 nd) sl)) (roNd (va2 nd) nd) nx):=by
 show goL Φ N r (stepI Φ N (.c (.ro l b)) (some (.nrm,⟨sl,nd,nx⟩)))=_;rw [vo2 (nx:=nx) (roSl (va2 nd) sl) l];show goL Φ N r (run Φ N (.ro l b) ⟨sl,nd,nx⟩)=roA Φ N l r sl nd nx (run Φ N b (roS l ⟨sl,nd,nx⟩));simp only [run];cases run Φ N b (roS l ⟨sl,nd,nx⟩) with
 |none=>exact vh9 Φ N r
 |some p=>
  obtain ⟨o,s'⟩:=p;cases o with
  |nrm=>rfl
  |_=>exact vh9 Φ N r
theorem qqe {l:List Nat} {s':St}:roA Φ N l r sl nd nx (some (.nrm,s'))=goN Φ N r (roBs ⟨sl,nd,nx⟩ s' l) nd s'.next:=rfl
attribute [go_sem] qi9 qg8 qne qi0 qm5 qjt qt4 qrx qsv qk4 qkk qup qtz qs2 qtu qs6 qsf qt9 qqe
def ov (sl:vbx):Opd→TV
 | .t n=>vdc sl n
 | .c v=> .a v
 | .nl e=> .nl e
 | .f g=> .fn g [] []
theorem qu7 {n:Nat}:ov sl (.t n)=vdc sl n:=rfl
theorem qu6 {v:Value}:ov sl (.c v)= .a v:=rfl
theorem qus {e:Nat}:ov sl (.nl e)= .nl e:=rfl
theorem vbc (x:Opd) (s:St):(opd x).run s=some (ov s.slots x,s):=by cases x<;>rfl
attribute [go_sem] qu7 qu6 qus
def condK (Φ:Nat→Option Callee) (N:Nat) (v:TV) (a b:VC) (r:List It) (sl:vbx) (nd:vcj) (nx:Nat):Option (Out×St):=
 match v with
 | .a (.bool t)=>if t=true then goN Φ N (.c a::r) sl nd nx else goN Φ N (.c b::r) sl nd nx
 |_=>none
theorem qpn {n:Nat} {a b:VC}:goN Φ N (.c (.cond (.t n) a b)::r) sl nd nx=condK Φ N (vdc sl n) a b r sl nd nx:=by
 simp only [goN,goL,stepI,run,condK,St.slot,vdc];cases (look sl n).getD TV.un with
 |a v=>
  cases v with
  |bool t=>cases t<;>rfl
  |_=>exact vh9 Φ N r
 |_=>exact vh9 Φ N r
theorem qjw {a b:VC}:condK Φ N (.a (.bool true)) a b r sl nd nx=goN Φ N (.c a::r) sl nd nx:=rfl
theorem qg2 {a b:VC}:condK Φ N (.a (.bool false)) a b r sl nd nx=goN Φ N (.c b::r) sl nd nx:=rfl
attribute [go_sem] qpn qjw qg2
def putK (Φ:Nat→Option Callee) (N:Nat) (d:Nat) (o:Option TV) (r:List It) (sl:vbx) (nd:vcj) (nx:Nat):Option (Out×St):=
 match o with
 |some v=>goN Φ N r ((d,v)::sl) nd nx
 |none=>none
theorem qk5 {d:Nat} {v:TV}:putK Φ N d (some v) r sl nd nx=goN Φ N r ((d,v)::sl) nd nx:=rfl
attribute [go_sem] qk5
def aftK (Φ:Nat→Option Callee) (N:Nat) {α:Type} (o:Option (α×St)) (r:List It):Option (Out×St):=
 match o with
 |some (_,s)=>goN Φ N r s.slots s.nodes s.next
 |none=>none
theorem qnk {α:Type} {x:α} {s:St}:aftK Φ N (some (x,s)) r=goN Φ N r s.slots s.nodes s.next:=rfl
theorem vpc {b:Nat} {o:VOper} {os:List VOper} {live:List Nat}:goN Φ N (.ops b (o::os) live::r) sl nd nx=aftK Φ N ((execG Φ b o).run ⟨sl,nd,nx⟩) (.ops (b+100) os live::r):=by
 simp only [goN,goL,stepI,execs];cases (execG Φ b o).run ⟨sl,nd,nx⟩ with
 |none=>exact vh9 Φ N r
 |some p=>
  simp only [aftK,goN,goL,stepI,Af,show b+100 * (os.length+1)=b+100+100 * os.length by omega]
theorem vah {α β:Type} (x:M α) (f:α→M β) (s:St):(x.bind f).run s=(match x.run s with|some (a,s')=>(f a).run s'|none=>none):=by
 induction x generalizing s with
 |pure x=>rfl
 |fail=>rfl
 |getS t k ih=>exact ih _ _
 |setS t v k ih=>exact ih _
 |getN id k ih=>exact ih _ _
 |setN id n k ih=>exact ih _
attribute [go_sem] qnk
def bindR {α β:Type} (o:Option (α×St)) (f:α→M β):Option (β×St):=
 match o with
 |some (a,s)=>(f a).run s
 |none=>none
@[congr] theorem qf5 {α β:Type} {o o':Option (α×St)} {f:α→M β} (h:o=o'):bindR o f=bindR o' f:=by rw [h]
theorem qgv {α β:Type} {a:α} {s:St} {f:α→M β}:bindR (some (a,s)) f=(f a).run s:=rfl
theorem qgd {α β:Type} (x:M α) (f:α→M β) (s:St):(x.bind f).run s=bindR (x.run s) f:=vah x f s
attribute [go_sem ↓] qgv qgd
def ifM {α:Type} (c:Prop) [Decidable c] (x y:M α) (s:St):Option (α×St):=(if c then x else y).run s
@[congr] theorem qiv {α:Type} {c c':Prop} [Decidable c] [Decidable c'] {x y:M α} {s:St} (h:c=c'):ifM c x y s=ifM c' x y s:=by
 subst h;unfold ifM;congr
theorem qua {α:Type} {x y:M α} {s:St} [Decidable True]:ifM True x y s=x.run s:=by simp [ifM]
theorem quz {α:Type} {x y:M α} {s:St} [Decidable False]:ifM False x y s=y.run s:=by simp [ifM]
theorem qpk {α:Type} {c:Prop} [Decidable c] {x y:M α} {s:St}:(if c then x else y).run s=ifM c x y s:=rfl
attribute [go_sem ↓] qua quz qpk
theorem qjq {α:Type} {x:α} {s:St}:(M.pure x).run s=some (x,s):=rfl
theorem qj9 {t:Nat} {s:St}:(getS t).run s=some (vdc s.slots t,s):=rfl
theorem qjg {t:Nat} {v:TV} {sl:vbx} {nd:vcj} {nx:Nat}:(setS t v).run ⟨sl,nd,nx⟩=some ((),⟨(t,v)::sl,nd,nx⟩):=rfl
theorem qj0 {id:Nat} {s:St}:(getN id).run s=some (va2 s.nodes id,s):=rfl
theorem qje {id:Nat} {n:Option Node} {sl:vbx} {nd:vcj} {nx:Nat}:(setN id n).run ⟨sl,nd,nx⟩=some ((),⟨sl,(id,n)::nd,nx⟩):=rfl
theorem qh4 {α:Type} {x:α} {s:St}:(liftO (some x)).run s=some (x,s):=rfl
theorem qkz {x:Opd} {s:St}:(opd x).run s=some (ov s.slots x,s):=vbc x s
theorem qjo {α:Type} {s:St}:(M.fail:M α).run s=none:=rfl
attribute [go_sem] qjq qj9 qjg qj0 qje qh4 qkz qjo
section
variable {b:Nat} {os:List VOper} {live:List Nat} {g:Option Nat}
abbrev rest (b:Nat) (os:List VOper) (live:List Nat) (r:List It):List It:= .ops (b+100) os live::r
theorem vbh {op:VOp}:goN Φ N (.ops b (⟨op,none,g⟩::os) live::r) sl nd nx=aftK Φ N ((exec Φ b op).run ⟨sl,nd,nx⟩) (.ops (b+100) os live::r):=by
 rw [vpc];rfl
theorem vt1 {d:Nat} {x:Opd}:goN Φ N (.ops b (⟨.mov d x,none,g⟩::os) live::r) sl nd nx=goN Φ N (.ops (b+100) os live::r) ((d,ov sl x)::sl) nd nx:=by
 rw [vbh];simp only [exec,vah,vbc];rfl
attribute [go_sem] vt1
def pickT (c x y:TV):Option TV:=
 match c with
 | .a (.bool t)=>some (if t=true then x else y)
 |_=>none
theorem qs7 {x y:TV}:pickT (.a (.bool true)) x y=some x:=rfl
theorem qr8 {x y:TV}:pickT (.a (.bool false)) x y=some y:=rfl
theorem vvx {d:Nat} {c x y:Opd}:goN Φ N (.ops b (⟨.pick d c x y,none,g⟩::os) live::r) sl nd nx=putK Φ N d (pickT (ov sl c) (ov sl x) (ov sl y)) (.ops (b+100) os live::r) sl nd nx:=by
 rw [vbh];simp only [exec,vah,vbc];cases ov sl c with
 |a v=>
  cases v with
  |bool t=>cases t<;>simp only [vah,vbc,if_true,pickT,Ac,if_false]<;>rfl
  |_=>rfl
 |_=>rfl
theorem vsw {d:Nat} {z:ZC} {zs:List ZC}:goN Φ N (.ops b (⟨.alloc d (z::zs),none,g⟩::os) live::r) sl nd nx=
  goN Φ N (.ops (b+100) os live::r) ((d,.rf b)::sl) ((b,some (.bx false (z.tv::zs.map ZC.tv)))::nd) nx:=by
 rw [vbh];rfl
theorem qvd {v:Value}:(ZC.v v).tv= .a v:=rfl
theorem quw {e:Nat}:(ZC.nl e).tv= .nl e:=rfl
attribute [go_sem] qs7 qr8 vvx vsw qvd quw
def boxK (Φ:Nat→Option Callee) (N:Nat) (d b:Nat) (o:Option (List TV)) (r:List It) (sl:vbx) (nd:vcj) (nx:Nat):Option (Out×St):=
 match o with
 |some (c::cs)=>goN Φ N r ((d,.rf b)::sl) ((b,some (.bx false (c::cs)))::nd) nx
 |_=>none
theorem qma {d b:Nat} {c:TV} {cs:List TV}:boxK Φ N d b (some (c::cs)) r sl nd nx=goN Φ N r ((d,.rf b)::sl) ((b,some (.bx false (c::cs)))::nd) nx:=rfl
theorem vyk {d:Nat} {x:Opd}:goN Φ N (.ops b (⟨.box d x,none,g⟩::os) live::r) sl nd nx=boxK Φ N d b (ov sl x).row (.ops (b+100) os live::r) sl nd nx:=by
 rw [vbh];simp only [exec,vah,vbc];cases (ov sl x).row with
 |none=>rfl
 |some cs=>cases cs<;>rfl
theorem qs0 {cs:List TV}:(TV.st cs).row=some cs:=rfl
theorem qre {k:IntKind} {n:Int}:(TV.a (.int k n)).row=some [.a (.int k n)]:=rfl
theorem ql8 {t:Bool}:(TV.a (.bool t)).row=some [.a (.bool t)]:=rfl
theorem qq6 {s:ByteArray}:(TV.a (.string s)).row=some [.a (.string s)]:=rfl
theorem qti {e:Nat}:(TV.nl e).row=some [.nl e]:=rfl
theorem qte {i:Nat}:(TV.rf i).row=some [.rf i]:=rfl
theorem qtf {e:Nat} {es:List PV}:(TV.sz e es).row=some [.sz e es]:=rfl
theorem qrp {i j k:Nat}:(TV.sb i j k).row=some [.sb i j k]:=rfl
theorem qr2 {i j:Nat} {p:List (Nat×Nat×Nat)}:(TV.ri i j p).row=some [.ri i j p]:=rfl
theorem qt7 {i j:Nat}:(TV.ad i j).row=some [.ad i j]:=rfl
theorem qlq {cs:List TV}:(TV.st cs).cells=cs:=rfl
theorem qq2 {v:Value}:(TV.a v).cells= [.a v]:=rfl
theorem qob {e:Nat}:(TV.nl e).cells= [.nl e]:=rfl
theorem qlg {i:Nat}:(TV.rf i).cells= [.rf i]:=rfl
theorem qmt {e:Nat} {es:List PV}:(TV.sz e es).cells= [.sz e es]:=rfl
theorem qnt {i j k:Nat}:(TV.sb i j k).cells= [.sb i j k]:=rfl
theorem qmh {i j:Nat} {p:List (Nat×Nat×Nat)}:(TV.ri i j p).cells= [.ri i j p]:=rfl
theorem qmf {i j:Nat}:(TV.ad i j).cells= [.ad i j]:=rfl
theorem qkb {cs:List PV}:(PV.st cs).cells=cs:=rfl
theorem ql0 {v:Value}:(PV.a v).cells= [.a v]:=rfl
theorem qif {e:Nat} {es:List PV}:(PV.sl e es).cells= [.sl e es]:=rfl
theorem qki {e:Nat} {es:List PV}:(PV.fz e es).cells= [.fz e es]:=rfl
attribute [go_sem] qma vyk qs0 qre ql8 qq6 qti qte qtf qrp qr2 qt7 qlq qq2 qob qlg qmt qnt qmh qmf qkb ql0 qif qki
def buildP (sl:vbx):List (Nat×Nat×Opd)→List TV→Option (List TV)
 | [],cs=>some cs
 |(o,w,x)::ps,cs=>if (ov sl x).cells.length=w∧o+w≤cs.length∧(ov sl x).row.isSome=true then buildP sl ps (cs.take o++(ov sl x).cells++cs.drop (o+w)) else none
theorem vrw (s:St):∀(ps:List (Nat×Nat×Opd)) (cs:List TV),(buildM ps cs).run s=(buildP s.slots ps cs).map (·,s)
 | [],cs=>rfl
 |(o,w,x)::ps,cs=>by
  simp only [buildM,vah,vbc,buildP];split
  ·exact vrw s ps _
  ·rfl
theorem qjr {cs:List TV}:buildP sl [] cs=some cs:=rfl
attribute [go_sem] qjr
def buildK (sl:vbx) (v:TV) (o w:Nat) (ps:List (Nat×Nat×Opd)) (cs:List TV):Option (List TV):=
 if v.cells.length=w∧o+w≤cs.length∧v.row.isSome=true then buildP sl ps (cs.take o++v.cells++cs.drop (o+w)) else none
theorem qhm {o w:Nat} {x:Opd} {ps:List (Nat×Nat×Opd)} {cs:List TV}:buildP sl ((o,w,x)::ps) cs=buildK sl (ov sl x) o w ps cs:=rfl
theorem qli {v:TV} {o w:Nat} {ps:List (Nat×Nat×Opd)} {cs:List TV} (h1:v.cells.length=w) (h2:o+w≤cs.length) (h3:v.row.isSome=true):buildK sl v o w ps cs=buildP sl ps (cs.take o++v.cells++cs.drop (o+w)):=by
 simp [buildK,h1,h2,h3]
attribute [go_sem] qhm qli
def stO (o:Option (List TV)):Option TV:=o.map .st
theorem qnw {cs:List TV}:stO (some cs)=some (.st cs):=rfl
theorem vt9 {d:Nat} {zs:List ZC} {ps:List (Nat×Nat×Opd)}:goN Φ N (.ops b (⟨.build d zs ps,none,g⟩::os) live::r) sl nd nx=
  putK Φ N d (stO (buildP sl ps (zs.map ZC.tv))) (.ops (b+100) os live::r) sl nd nx:=by
 rw [vbh];simp only [exec,vah,vrw];cases buildP sl ps (zs.map ZC.tv)<;>rfl
theorem qjv {cs:List TV} {o:Nat}:vau cs o none=cs[o]? :=rfl
theorem ql1 {cs:List TV} {o w:Nat} (h:o+w≤cs.length):vau cs o (some w)=some (.st ((cs.drop o).take w)):=by simp [vau,h]
attribute [go_sem] qnw vt9 qjv ql1
def loadN (n:Option Node) (o:Nat) (w:Option Nat):Option TV:=
 match n with
 |some (.bx _ cs)=>vau cs o w
 |_=>none
theorem qlp {z:Bool} {cs:List TV} {o:Nat} {w:Option Nat}:loadN (some (.bx z cs)) o w=vau cs o w:=rfl
attribute [go_sem] qlp
def ownC (id ver:Nat) (p:List (Nat×Nat×Nat)) (i m:Nat):Nat→List PV→List TV
 |_,[]=> []
 |k,c::cs=>ofOwn id ver (p++ [(i,m,k)]) c::ownC id ver p i m (k+1) cs
theorem vvq (id ver:Nat) (p:List (Nat×Nat×Nat)) (i m:Nat) (x:PV):vdo id ver p i m x=ownC id ver p i m 0 x.cells:=by
 have key:∀(cs:List PV) (k:Nat),((cs.zipIdx k).map fun (c,o)=>ofOwn id ver (p++ [(i,m,o)]) c)=ownC id ver p i m k cs:=by
  intro cs;induction cs with
  |nil=>intro k;rfl
  |cons c cs ih=>intro k;simp only [List.zipIdx_cons,Ak,ownC,ih]
 exact key x.cells 0
theorem ql5 {id ver:Nat} {p:List (Nat×Nat×Nat)} {i m k:Nat}:ownC id ver p i m k []= []:=rfl
theorem qjk {id ver:Nat} {p:List (Nat×Nat×Nat)} {i m k:Nat} {c:PV} {cs:List PV}:ownC id ver p i m k (c::cs)=ofOwn id ver (p++ [(i,m,k)]) c::ownC id ver p i m (k+1) cs:=rfl
theorem qu1 {id ver:Nat} {p:List (Nat×Nat×Nat)} {v:Value}:ofOwn id ver p (.a v)= .a v:=rfl
theorem qtl {id ver:Nat} {p:List (Nat×Nat×Nat)} {e:Nat} {es:List PV}:ofOwn id ver p (.sl e es)= .ri id ver p:=rfl
theorem qsx {id ver:Nat} {p:List (Nat×Nat×Nat)} {e:Nat} {es:List PV}:ofOwn id ver p (.fz e es)= .sz e es:=rfl
theorem qu8 {v:Value}:ofFrozen (.a v)= .a v:=rfl
theorem qub {e:Nat} {es:List PV}:ofFrozen (.sl e es)= .sz e es:=rfl
theorem qui {e:Nat} {es:List PV}:ofFrozen (.fz e es)= .sz e es:=rfl
attribute [go_sem] ql5 qjk qu1 qtl qsx qu8 qub qui
def loadE (x:Option PV) (id ver:Nat) (p:List (Nat×Nat×Nat)) (i m o:Nat) (w:Option Nat):Option TV:=
 match x with
 |some x=>vau (ownC id ver p i m 0 x.cells) o w
 |none=>none
theorem qh6 {x:PV} {id ver:Nat} {p:List (Nat×Nat×Nat)} {i m o:Nat} {w:Option Nat}:loadE (some x) id ver p i m o w=vau (ownC id ver p i m 0 x.cells) o w:=rfl
attribute [go_sem] qh6
def loadS (n:Option Node) (id i m o:Nat) (w:Option Nat):Option TV:=
 match n with
 |some (.sl _ ver _ es)=>loadE es[i]? id ver [] i m o w
 |_=>none
theorem qnp {q:Bool} {ver e:Nat} {es:List PV} {id i m o:Nat} {w:Option Nat}:loadS (some (.sl q ver e es)) id i m o w=loadE es[i]? id ver [] i m o w:=rfl
attribute [go_sem] qnp
def loadP (nd:vcj) (w:Option Nat):TV→Option TV
 | .rf id=>loadN (va2 nd id) 0 w
 | .ad id o=>loadN (va2 nd id) o w
 | .ea id i m o=>loadS (va2 nd id) id i m o w
 | .ez cs o=>vau (cs.map ofFrozen) o w
 |v=>((loadAt w v).run ⟨[],nd,0⟩).map (·.1)
theorem qnv {w:Option Nat} {id:Nat}:loadP nd w (.rf id)=loadN (va2 nd id) 0 w:=rfl
theorem qmm {w:Option Nat} {id o:Nat}:loadP nd w (.ad id o)=loadN (va2 nd id) o w:=rfl
theorem qk9 {w:Option Nat} {id i m o:Nat}:loadP nd w (.ea id i m o)=loadS (va2 nd id) id i m o w:=rfl
theorem qnx {w:Option Nat} {cs:List PV} {o:Nat}:loadP nd w (.ez cs o)=vau (cs.map ofFrozen) o w:=rfl
attribute [go_sem] qnv qmm qk9 qnx
def Reads {α:Type} (m:M α):Prop:=∀s:St,m.run s=(m.run ⟨[],s.nodes,0⟩).map fun p=>(p.1,s)
theorem Reads.pure {α:Type} (x:α):Reads (M.pure x):=fun _=>rfl
theorem Reads.fail {α:Type}:Reads (M.fail:M α):=fun _=>rfl
theorem Reads.getN {α:Type} {id:Nat} {k:Option Node→M α} (h:∀n,Reads (k n)):Reads ((VM.getN id).bind k):=by
 intro s;simp only [vah];exact h _ s
theorem Reads.liftO {α:Type} (x:Option α):Reads (VM.liftO x):=by cases x;exact Reads.fail;exact Reads.pure _
theorem vw1 (w : Option Nat) (v : TV) : Reads (loadAt w v) := by
  unfold loadAt;split <;> first
    | exact Reads.fail
    | exact Reads.liftO _
    | (refine Reads.getN fun n => ?_
       repeat' split
       all_goals first
         | exact Reads.fail
         | exact Reads.liftO _)
theorem vh3 (w:Option Nat) (v:TV) (s:St):(loadAt w v).run s=(loadP s.nodes w v).map (·,s):=by
 cases v with
 |rf id=>
  simp only [loadAt,vah,loadP,loadN,va2];simp only [VM.getN,M.run,St.node];cases (look s.nodes id).getD none with
  |none=>rfl
  |some n=>
   cases n with
   |bx z cs=>simp only;cases vau cs 0 w<;>rfl
   |sl _ _ _ _=>rfl
 |ad id o=>
  simp only [loadAt,vah,loadP,loadN,va2];simp only [VM.getN,M.run,St.node];cases (look s.nodes id).getD none with
  |none=>rfl
  |some n=>
   cases n with
   |bx z cs=>simp only;cases vau cs o w<;>rfl
   |sl _ _ _ _=>rfl
 |ea id i m o=>
  simp only [loadAt,vah,loadP,loadS,va2];simp only [VM.getN,M.run,St.node];cases (look s.nodes id).getD none with
  |none=>rfl
  |some n=>
   cases n with
   |bx z cs=>rfl
   |sl q ver e es=>
    simp only [loadE];cases es[i]? with
    |none=>rfl
    |some x=>simp only [vvq];cases vau (ownC id ver [] i m 0 x.cells) o w<;>rfl
 |ez cs o=>
  simp only [loadAt,loadP];cases vau (cs.map ofFrozen) o w<;>rfl
 |_=>
  rw [vw1];simp only [loadP,Aj];congr 1
def pairS (o:Option TV) (s:St):Option (TV×St):=o.map (·,s)
theorem qgm {v:TV} {s:St}:pairS (some v) s=some (v,s):=rfl
theorem qi6 {w:Option Nat} {v:TV} {s:St}:(loadAt w v).run s=pairS (loadP s.nodes w v) s:=vh3 w v s
theorem vvw {d:Nat} {w:Option Nat} {x:Opd}:goN Φ N (.ops b (⟨.load d w x,none,g⟩::os) live::r) sl nd nx=putK Φ N d (loadP nd w (ov sl x)) (.ops (b+100) os live::r) sl nd nx:=by
 rw [vbh];simp only [exec,vah,vbc,vh3];cases loadP nd w (ov sl x)<;>rfl
attribute [go_sem] qgm qi6 vvw
def atomO:Option TV→Option TV
 |some (.a c)=>some (.a c)
 |_=>none
theorem qoy {c:Value}:atomO (some (.a c))=some (.a c):=rfl
theorem vxp {d:Nat} {x:Opd}:goN Φ N (.ops b (⟨.lda d x,none,g⟩::os) live::r) sl nd nx=putK Φ N d (atomO (loadP nd none (ov sl x))) (.ops (b+100) os live::r) sl nd nx:=by
 rw [vbh];simp only [exec,vah,vbc,vh3];cases loadP nd none (ov sl x) with
 |none=>rfl
 |some v=>cases v<;>rfl
attribute [go_sem] qoy vxp
def fadP (nd:vcj) (off:Nat):TV→Option TV
 | .rf id=>match va2 nd id with|some (.bx _ _)=>some (.ad id off)|_=>none
 | .ad id o=>some (.ad id (o+off))
 | .ea id i m o=>match va2 nd id with|some (.sl _ _ _ _)=>some (.ea id i m (o+off))|_=>none
 | .ez cs o=>some (.ez cs (o+off))
 |v=>((fieldAt off v).run ⟨[],nd,0⟩).map (·.1)
def fadN (n:Option Node) (id off:Nat):Option TV:=
 match n with
 |some (.bx _ _)=>some (.ad id off)
 |_=>none
def fadS (n:Option Node) (id i m o:Nat):Option TV:=
 match n with
 |some (.sl _ _ _ _)=>some (.ea id i m o)
 |_=>none
theorem qt3 {id off:Nat}:fadP nd off (.rf id)=fadN (va2 nd id) id off:=rfl
theorem qrh {z:Bool} {cs:List TV} {id off:Nat}:fadN (some (.bx z cs)) id off=some (.ad id off):=rfl
theorem qrt {id o off:Nat}:fadP nd off (.ad id o)=some (.ad id (o+off)):=rfl
theorem qs3 {id i m o off:Nat}:fadP nd off (.ea id i m o)=fadS (va2 nd id) id i m (o+off):=rfl
theorem qo9 {q:Bool} {ver e:Nat} {es:List PV} {id i m o:Nat}:fadS (some (.sl q ver e es)) id i m o=some (.ea id i m o):=rfl
theorem qso {cs:List PV} {o off:Nat}:fadP nd off (.ez cs o)=some (.ez cs (o+off)):=rfl
theorem vuq (off : Nat) (v : TV) : Reads (fieldAt off v) := by
  unfold fieldAt;split <;> first
    | exact Reads.fail
    | exact Reads.pure _
    | (refine Reads.getN fun n => ?_
       repeat' split
       all_goals first
         | exact Reads.fail
         | exact Reads.pure _)
theorem vm0 (off:Nat) (v:TV) (s:St):(fieldAt off v).run s=(fadP s.nodes off v).map (·,s):=by
 cases v with
 |rf id=>
  simp only [fieldAt,vah,fadP,va2];simp only [VM.getN,M.run,St.node];cases (look s.nodes id).getD none with
  |none=>rfl
  |some n=>cases n<;>rfl
 |ea id i m o=>
  simp only [fieldAt,vah,fadP,va2];simp only [VM.getN,M.run,St.node];cases (look s.nodes id).getD none with
  |none=>rfl
  |some n=>cases n<;>rfl
 |_=>
  rw [vuq];simp only [fadP]
  first
   |rfl
   |(simp only [Aj];congr 1)
theorem vx0 {d off:Nat} {x:Opd}:goN Φ N (.ops b (⟨.fad d x off,none,g⟩::os) live::r) sl nd nx=putK Φ N d (fadP nd off (ov sl x)) (.ops (b+100) os live::r) sl nd nx:=by
 rw [vbh];simp only [exec,vah,vbc,vm0];cases fadP nd off (ov sl x)<;>rfl
attribute [go_sem] qt3 qrh qrt qs3 qo9 qso vx0
def fldT (off:Nat) (w:Option Nat):TV→Option TV
 | .st cs=>vau cs off w
 |_=>none
theorem qta {off:Nat} {w:Option Nat} {cs:List TV}:fldT off w (.st cs)=vau cs off w:=rfl
theorem vzm {d off:Nat} {w:Option Nat} {x:Opd}:goN Φ N (.ops b (⟨.fld d x off w,none,g⟩::os) live::r) sl nd nx=putK Φ N d (fldT off w (ov sl x)) (.ops (b+100) os live::r) sl nd nx:=by
 rw [vbh];simp only [exec,vah,vbc];cases ov sl x with
 |st cs=>simp only [vah,fldT];cases vau cs off w<;>rfl
 |_=>rfl
attribute [go_sem] qta vzm
def elemsN (n:Option Node):Option (Nat×List PV):=
 match n with
 |some (.sl _ _ e es)=>some (e,es)
 |_=>none
theorem qih {q:Bool} {ver e:Nat} {es:List PV}:elemsN (some (.sl q ver e es))=some (e,es):=rfl
attribute [go_sem] qih
def elemsB (n:Option Node) (lo k:Nat):Option (Nat×List PV):=
 match n with
 |some (.sl _ _ e es)=>some (e,(es.drop lo).take k)
 |_=>none
theorem qj3 {q:Bool} {ver e lo k:Nat} {es:List PV}:elemsB (some (.sl q ver e es)) lo k=some (e,(es.drop lo).take k):=rfl
attribute [go_sem] qj3
def elemsI (n:Option Node) (ver:Nat) (p:List (Nat×Nat×Nat)):Option (Nat×List PV):=
 match n with
 |some (.sl _ ver' _ es)=>if ver'=ver then dget es p else none
 |_=>none
theorem qjd {q:Bool} {ver ver' e:Nat} {es:List PV} {p:List (Nat×Nat×Nat)}:elemsI (some (.sl q ver' e es)) ver p=if ver'=ver then dget es p else none:=rfl
attribute [go_sem] qjd
def vb2 (nd:vcj):TV→Option (Nat×List PV)
 | .nl e=>some (e,[])
 | .sz e es=>some (e,es)
 | .rf id=>elemsN (va2 nd id)
 | .sb id lo k=>elemsB (va2 nd id) lo k
 | .ri id ver p=>elemsI (va2 nd id) ver p
 |_=>none
theorem qn8 {e:Nat}:vb2 nd (.nl e)=some (e,[]):=rfl
theorem qmk {e:Nat} {es:List PV}:vb2 nd (.sz e es)=some (e,es):=rfl
theorem qnf {id:Nat}:vb2 nd (.rf id)=elemsN (va2 nd id):=rfl
theorem vtq {id lo k:Nat}:vb2 nd (.sb id lo k)=elemsB (va2 nd id) lo k:=rfl
theorem vsx {id ver:Nat} {p:List (Nat×Nat×Nat)}:vb2 nd (.ri id ver p)=elemsI (va2 nd id) ver p:=rfl
theorem viq (v:TV) (s:St):(elems v).run s=(vb2 s.nodes v).map (·,s):=by
 cases v with
 |rf id=>
  simp only [elems,vah,vb2,elemsN,va2];simp only [VM.getN,M.run,St.node];cases (look s.nodes id).getD none with
  |none=>rfl
  |some n=>cases n<;>rfl
 |sb id lo k=>
  simp only [elems,vah,vb2,elemsB,va2];simp only [VM.getN,M.run,St.node];cases (look s.nodes id).getD none with
  |none=>rfl
  |some n=>cases n<;>rfl
 |ri id ver p=>
  simp only [elems,vah,vb2,elemsI,va2];simp only [VM.getN,M.run,St.node];cases (look s.nodes id).getD none with
  |none=>rfl
  |some n=>
   cases n with
   |bx _ _=>rfl
   |sl q ver' e es=>
    simp only;split
    ·cases dget es p<;>rfl
    ·rfl
 |_=>rfl
attribute [go_sem] qn8 qmk qnf vtq vsx
def lenO (o:Option (Nat×List PV)):Option TV:=o.map fun r=> .a (.int .i64 r.2.length)
theorem qmy {e:Nat} {es:List PV}:lenO (some (e,es))=some (.a (.int .i64 es.length)):=rfl
theorem vyb {d:Nat} {x:Opd}:goN Φ N (.ops b (⟨.len d x,none,g⟩::os) live::r) sl nd nx=putK Φ N d (lenO (vb2 nd (ov sl x))) (.ops (b+100) os live::r) sl nd nx:=by
 rw [vbh];simp only [exec,vah,vbc,viq];cases vb2 nd (ov sl x)<;>rfl
attribute [go_sem] qmy vyb
def s2bM (b d e:Nat) (x:TV):M Unit:=
 match x with
 | .a (.string s)=>if s.size≤9223372036854775807 then (setN b (some (.sl false 0 e (bytesPV s)))).bind fun _=>setS d (.rf b) else .fail
 |_=> .fail
theorem qsh {b d e:Nat} {s:ByteArray} (h:s.size≤9223372036854775807):(s2bM b d e (.a (.string s))).run ⟨sl,nd,nx⟩=some ((),⟨(d,.rf b)::sl,(b,some (.sl false 0 e (bytesPV s)))::nd,nx⟩):=by
 simp only [s2bM,h,if_true];rfl
theorem vyo {d e:Nat} {x:Opd}:goN Φ N (.ops b (⟨.s2b d e x,none,g⟩::os) live::r) sl nd nx=aftK Φ N ((s2bM b d e (ov sl x)).run ⟨sl,nd,nx⟩) (.ops (b+100) os live::r):=by
 rw [vpc];simp only [execG,exec,vah,vbc,s2bM];rfl
attribute [go_sem] qsh vyo
def b2sU:Option (List UInt8)→Option TV
 |some bs=>some (.a (.string ⟨bs.toArray⟩))
 |none=>none
theorem qkj {bs:List UInt8}:b2sU (some bs)=some (.a (.string ⟨bs.toArray⟩)):=rfl
attribute [go_sem] qkj
def b2sO (e:Nat) (o:Option (Nat×List PV)):Option TV:=
 match o with
 |some (e',es)=>if e'=e then b2sU (u8of es) else none
 |none=>none
theorem qh9 {e:Nat} {es:List PV}:b2sO e (some (e,es))=b2sU (u8of es):=by simp [b2sO]
theorem qng:u8of []=some []:=rfl
attribute [go_sem] qh9 qng
def u8c (b:UInt8):Option (List UInt8)→Option (List UInt8)
 |some bs=>some (b::bs)
 |none=>none
theorem qnu {b:UInt8} {bs:List UInt8}:u8c b (some bs)=some (b::bs):=rfl
theorem qjn {n:Int} {es:List PV}:u8of (.a (.int .u8 n)::es)=u8c (UInt8.ofNat n.toNat) (u8of es):=by
 simp only [u8of];cases u8of es<;>rfl
theorem vxs {d e:Nat} {x:Opd}:goN Φ N (.ops b (⟨.b2s d e x,none,g⟩::os) live::r) sl nd nx=putK Φ N d (b2sO e (vb2 nd (ov sl x))) (.ops (b+100) os live::r) sl nd nx:=by
 rw [vbh];simp only [exec,vah,vbc,viq];cases vb2 nd (ov sl x) with
 |none=>rfl
 |some p=>
  obtain ⟨e',es⟩:=p;simp only [b2sO,Aa];split
  ·cases u8of es<;>rfl
  ·rfl
attribute [go_sem] qnu qjn vxs
def slenT:TV→Option TV
 | .a (.string s)=>some (.a (.int .i64 s.size))
 |_=>none
theorem qrm {s:ByteArray}:slenT (.a (.string s))=some (.a (.int .i64 s.size)):=rfl
theorem vva {d:Nat} {x:Opd}:goN Φ N (.ops b (⟨.slen d x,none,g⟩::os) live::r) sl nd nx=putK Φ N d (slenT (ov sl x)) (.ops (b+100) os live::r) sl nd nx:=by
 rw [vbh];simp only [exec,vah,vbc];cases ov sl x with
 |a v=>cases v<;>rfl
 |_=>rfl
attribute [go_sem] qrm vva
def iadP (m:Nat) (x:TV) (es:List PV) (i:Nat):Option TV:=
 match x with
 | .rf id=>some (.ea id i m 0)
 | .sb id lo _=>some (.ea id (lo+i) m 0)
 | .ri id ver p=>some (.ei id ver p i m 0)
 | .sz _ _=>some (.ez (es[i]?.getD .un).cells 0)
 |_=>none
theorem qqz {m id i:Nat} {es:List PV}:iadP m (.rf id) es i=some (.ea id i m 0):=rfl
theorem qoo {m id lo k i:Nat} {es:List PV}:iadP m (.sb id lo k) es i=some (.ea id (lo+i) m 0):=rfl
theorem qpx {m id ver i:Nat} {p:List (Nat×Nat×Nat)} {es:List PV}:iadP m (.ri id ver p) es i=some (.ei id ver p i m 0):=rfl
theorem qqd {m e i:Nat} {es es':List PV}:iadP m (.sz e es') es i=some (.ez (es[i]?.getD .un).cells 0):=rfl
attribute [go_sem] qqz qoo qpx qqd
def iadO (e m:Nat) (x:TV) (o:Option (Nat×List PV)) (i:TV):Option TV:=
 match o,i with
 |some (e',es),.a (.int _ n)=>if e'=e∧0≤n∧n<es.length then iadP m x es n.toNat else none
 |_,_=>none
theorem qtx {e m:Nat} {x:TV} {es:List PV} {k:IntKind} {n:Int} (h0:0≤n) (h1:n<es.length):iadO e m x (some (e,es)) (.a (.int k n))=iadP m x es n.toNat:=by
 simp [iadO,h0,h1]
theorem vnk (e m:Nat) (x:TV) (i:Int) (s:St):(indexAt e m x i).run s=(iadO e m x (vb2 s.nodes x) (.a (.int .i64 i))).map (·,s):=by
 simp only [indexAt,vah,viq];cases ho:vb2 s.nodes x with
 |none=>rfl
 |some p=>
  obtain ⟨e',es⟩:=p;simp only [Aa,iadO];rw [qe9];split
  ·rename_i hcond;have hget:es[i.toNat]? =some (es[i.toNat]'zo):=Ag zo;cases x with
   |sz e0 es0=>
    simp only [vb2,Ad,Ae] at ho;obtain ⟨_,rfl⟩:=ho;simp only [iadP,hget];rfl
   |_=>rfl
  ·rfl
theorem vxj {d e m:Nat} {x i:Opd}:goN Φ N (.ops b (⟨.iad d e m x i,none,g⟩::os) live::r) sl nd nx=putK Φ N d (iadO e m (ov sl x) (vb2 nd (ov sl x)) (ov sl i)) (.ops (b+100) os live::r) sl nd nx:=by
 rw [vbh];simp only [exec,vah,vbc];cases hi:ov sl i with
 |a v=>
  cases v with
  |int k n=>
   simp only [asI,vah,vnk];have:iadO e m (ov sl x) (vb2 nd (ov sl x)) (.a (.int .i64 n))=iadO e m (ov sl x) (vb2 nd (ov sl x)) (.a (.int k n)):=by
    cases vb2 nd (ov sl x)<;>rfl
   rw [this];cases iadO e m (ov sl x) (vb2 nd (ov sl x)) (.a (.int k n))<;>rfl
  |_=>cases vb2 nd (ov sl x)<;>rfl
 |_=>cases vb2 nd (ov sl x)<;>rfl
attribute [go_sem] qtx vxj
def ixT (x i:TV):Option TV:=
 match x,i with
 | .a (.string s),.a (.int _ n)=>(byteAt s n).map .a
 |_,_=>none
theorem qbl {d:Nat} {x i:Opd}:goN Φ N (.ops b (⟨.ix d x i,none,g⟩::os) live::r) sl nd nx=putK Φ N d (ixT (ov sl x) (ov sl i)) (.ops (b+100) os live::r) sl nd nx:=by
 rw [vbh];simp only [exec,vah,vbc];cases ov sl x with
 |a v=>
  cases v with
  |string s=>
   cases ov sl i with
   |a u=>
    cases u with
    |int k n=>simp only [asI,vah,ixT];cases byteAt s n<;>rfl
    |_=>rfl
   |_=>rfl
  |_=>cases asI (ov sl i)<;>cases ov sl i<;>rfl
 |_=>cases asI (ov sl i)<;>cases ov sl i<;>rfl
attribute [go_sem] qbl
def binT (op:BinOp) (x y:TV):Option TV:=
 match x,y with
 | .a u,.a v=>(binA op u v).map .a
 |_,_=>none
theorem vy6 {d:Nat} {op:BinOp} {x y:Opd}:goN Φ N (.ops b (⟨.bin d op x y,none,g⟩::os) live::r) sl nd nx=putK Φ N d (binT op (ov sl x) (ov sl y)) (.ops (b+100) os live::r) sl nd nx:=by
 rw [vbh];simp only [exec,vah,vbc];cases ov sl x with
 |a u=>
  cases ov sl y with
  |a v=>simp only [vah,binT];cases binA op u v<;>rfl
  |_=>rfl
 |_=>cases ov sl y<;>rfl
attribute [go_sem] vy6
section
variable {k k':IntKind} {x y:Int}
theorem qo8:binT .add (.a (.int k x)) (.a (.int k y))=some (.a (.int k (k.wrap (x+y)))):=by simp [binT,binA,vb1,vcm]
theorem qrb:binT .sub (.a (.int k x)) (.a (.int k y))=some (.a (.int k (k.wrap (x-y)))):=by simp [binT,binA,vb1,vcm]
theorem qok:binT .mul (.a (.int k x)) (.a (.int k y))=some (.a (.int k (k.wrap (x * y)))):=by simp [binT,binA,vb1,vcm]
theorem qqa (h:y≠0):binT .quo (.a (.int k x)) (.a (.int k y))=some (.a (.int k (k.wrap (x.tdiv y)))):=by simp [binT,binA,vb1,vcm,h]
theorem qpj (h:y≠0):binT .rem (.a (.int k x)) (.a (.int k y))=some (.a (.int k (x.tmod y))):=by simp [binT,binA,vb1,vcm,h]
theorem qpl (h:0≤y):binT .shl (.a (.int k x)) (.a (.int k' y))=some (.a (.int k (k.wrap (x * 2^(min y.toNat k.bits))))):=by
 have:¬y<0:=by omega
 simp [binT,binA,vb1,vcm,this]
theorem qow (h:0≤y):binT .shr (.a (.int k x)) (.a (.int k' y))=some (.a (.int k (x.fdiv (2^(min y.toNat k.bits))))):=by
 have:¬y<0:=by omega
 simp [binT,binA,vb1,vcm,this]
theorem qra:binT .eql (.a (.int k x)) (.a (.int k y))=some (.a (.bool (decide (x=y)))):=by
 simp [binT,binA,vb1,vcm];rfl
theorem qq8:binT .neq (.a (.int k x)) (.a (.int k y))=some (.a (.bool (decide (x≠y)))):=by
 simp [binT,binA,vb1,vcm,bne];rfl
attribute [go_sem] qo8 qrb qok qqa qpj qpl qow qra qq8
def iAnd (k:IntKind) (x y:Int):Int:=k.wrap (BitVec.ofInt k.bits x&&&BitVec.ofInt k.bits y).toNat
def iOr (k:IntKind) (x y:Int):Int:=k.wrap (BitVec.ofInt k.bits x|||BitVec.ofInt k.bits y).toNat
def iXor (k:IntKind) (x y:Int):Int:=k.wrap (BitVec.ofInt k.bits x^^^BitVec.ofInt k.bits y).toNat
def iAndNot (k:IntKind) (x y:Int):Int:=k.wrap (BitVec.ofInt k.bits x&&& ~~~(BitVec.ofInt k.bits y)).toNat
theorem qp8:binT .and (.a (.int k x)) (.a (.int k y))=some (.a (.int k (iAnd k x y))):=by simp [binT,binA,vb1,vcm,iAnd]
theorem qrw:binT .or (.a (.int k x)) (.a (.int k y))=some (.a (.int k (iOr k x y))):=by simp [binT,binA,vb1,vcm,iOr]
theorem qqr:binT .xor (.a (.int k x)) (.a (.int k y))=some (.a (.int k (iXor k x y))):=by simp [binT,binA,vb1,vcm,iXor]
theorem qhj:binT .andNot (.a (.int k x)) (.a (.int k y))=some (.a (.int k (iAndNot k x y))):=by simp [binT,binA,vb1,vcm,iAndNot]
theorem qqt:binT .lss (.a (.int k x)) (.a (.int k y))=some (.a (.bool (decide (x<y)))):=by simp [binT,binA,vb1,vcm]
theorem qpu:binT .leq (.a (.int k x)) (.a (.int k y))=some (.a (.bool (decide (x≤y)))):=by simp [binT,binA,vb1,vcm]
theorem qov:binT .gtr (.a (.int k x)) (.a (.int k y))=some (.a (.bool (decide (y<x)))):=by simp [binT,binA,vb1,vcm]
theorem qpw:binT .geq (.a (.int k x)) (.a (.int k y))=some (.a (.bool (decide (y≤x)))):=by simp [binT,binA,vb1,vcm]
attribute [go_sem] qp8 qrw qqr qhj qqt qpu qov qpw
end
theorem qoc {x y:ByteArray} (h:x.size+y.size≤140737488351232):binT .add (.a (.string x)) (.a (.string y))=some (.a (.string (x++y))):=by simp [binT,binA,strBin,h]
theorem toList_inj {x y:ByteArray}:x.toList=y.toList↔x=y:=by
 rw [ByteArray.toList_eq,ByteArray.toList_eq];constructor
 ·intro h;exact ByteArray.ext (Array.toList_inj.1 h)
 ·rintro rfl;rfl
theorem vpu (x y:ByteArray):(x.toList==y.toList)=decide (x=y):=by
 by_cases h:x=y
 ·subst h;simp
 ·have:x.toList≠y.toList:=fun e=>h (toList_inj.1 e);simp [h,this]
theorem qn6 {x y:ByteArray}:binT .eql (.a (.string x)) (.a (.string y))=some (.a (.bool (decide (x=y)))):=by
 simp only [binT,binA,strBin,vpu,Aa]
theorem qkp {x y:ByteArray}:binT .neq (.a (.string x)) (.a (.string y))=some (.a (.bool (decide (x≠y)))):=by
 simp only [binT,binA,strBin,vpu,Aa,decide_not]
attribute [go_sem] qoc qn6 qkp
def beqT (ne:Bool) (n:Nat) (x y:TV):Option TV:=
 match n,x,y with
 |0,.a (.bool u),.a (.bool v)=>some (.a (.bool (if ne then u !=v else u==v)))
 |m+1,.st us,.st vs=>(if us.length=m+1 then rowEq us vs else none).map fun r=> .a (.bool (if ne then !r else r))
 |_,_,_=>none
theorem quh {u v:Bool}:beqT false 0 (.a (.bool u)) (.a (.bool v))=some (.a (.bool (u==v))):=rfl
theorem qu3 {u v:Bool}:beqT true 0 (.a (.bool u)) (.a (.bool v))=some (.a (.bool (u !=v))):=rfl
theorem qsd {ne:Bool} {k k':IntKind} {x y x' y':Int}:beqT ne 2 (.st [.a (.int k x),.a (.int k' y)]) (.st [.a (.int k x'),.a (.int k' y')])=some (.a (.bool (if ne then !(decide (x=x')&&decide (y=y')) else (decide (x=x')&&decide (y=y'))))):=by
 simp [beqT,rowEq]
theorem vxt {d:Nat} {ne:Bool} {n:Nat} {x y:Opd}:goN Φ N (.ops b (⟨.beq d ne n x y,none,g⟩::os) live::r) sl nd nx=putK Φ N d (beqT ne n (ov sl x) (ov sl y)) (.ops (b+100) os live::r) sl nd nx:=by
 rw [vbh];simp only [exec,vah,vbc];cases n with
 |zero=>
  cases ov sl x with
  |a u=>
   cases u with
   |bool u=>
    cases ov sl y with
    |a v=>cases v<;>rfl
    |_=>rfl
   |_=>cases ov sl y with
    |a v=>cases v<;>rfl
    |_=>rfl
  |_=>cases ov sl y<;>rfl
 |succ m=>
  cases ov sl x with
  |st us=>
   cases ov sl y with
   |st vs=>
    simp only [bindR,beqT,vah];cases (if us.length=m+1 then rowEq us vs else none)<;>rfl
   |_=>rfl
  |_=>cases ov sl y<;>rfl
attribute [go_sem] quh qu3 qsd vxt
def unT (op:UnOp) (x:TV):Option TV:=
 match x with
 | .a u=>(unA op u).map .a
 |_=>none
theorem qsi {t:Bool}:unT .not (.a (.bool t))=some (.a (.bool (!t))):=rfl
theorem qr0 {k:IntKind} {n:Int}:unT .neg (.a (.int k n))=some (.a (.int k (k.wrap (0-n)))):=rfl
theorem qbo {d:Nat} {op:UnOp} {x:Opd}:goN Φ N (.ops b (⟨.un d op x,none,g⟩::os) live::r) sl nd nx=putK Φ N d (unT op (ov sl x)) (.ops (b+100) os live::r) sl nd nx:=by
 rw [vbh];simp only [exec,vah,vbc];cases ov sl x with
 |a u=>simp only [vah,unT];cases unA op u<;>rfl
 |_=>rfl
attribute [go_sem] qsi qr0 qbo
def cviT (k:IntKind) (x:TV):Option TV:=
 match x with
 | .a (.int _ n)=>some (.a (.int k (k.wrap n)))
 |_=>none
theorem qud {k k':IntKind} {n:Int}:cviT k (.a (.int k' n))=some (.a (.int k (k.wrap n))):=rfl
theorem vy7 {d:Nat} {k:IntKind} {x:Opd}:goN Φ N (.ops b (⟨.cvi d k x,none,g⟩::os) live::r) sl nd nx=putK Φ N d (cviT k (ov sl x)) (.ops (b+100) os live::r) sl nd nx:=by
 rw [vbh];simp only [exec,vah,vbc];cases ov sl x with
 |a v=>cases v<;>rfl
 |_=>rfl
attribute [go_sem] qud vy7
def extT (i:Nat) (x:TV):Option TV:=
 match x with
 | .tp cs=>cs[i]?
 |_=>none
theorem qse {i:Nat} {cs:List TV}:extT i (.tp cs)=cs[i]? :=rfl
theorem vzp {d i:Nat} {x:Opd}:goN Φ N (.ops b (⟨.ext d x i,none,g⟩::os) live::r) sl nd nx=putK Φ N d (extT i (ov sl x)) (.ops (b+100) os live::r) sl nd nx:=by
 rw [vbh];simp only [exec,vah,vbc];cases ov sl x with
 |tp cs=>simp only [vah,extT];cases cs[i]? <;>rfl
 |_=>rfl
attribute [go_sem] qse vzp
def gK (Φ:Nat→Option Callee) (N:Nat) (u:TV) (want:Bool) (b:Nat) (op:VOp) (dst:Option Nat) (os:List VOper) (live:List Nat) (r:List It) (sl:vbx) (nd:vcj) (nx:Nat):Option (Out×St):=
 match u with
 | .a (.bool t)=>if t=want then goN Φ N (.ops b (⟨op,none,dst⟩::os) live::r) sl nd nx else aftK Φ N ((putO dst TV.none).run ⟨sl,nd,nx⟩) (.ops (b+100) os live::r)
 | .a (.tuple _)=>aftK Φ N ((putO dst TV.none).run ⟨sl,nd,nx⟩) (.ops (b+100) os live::r)
 |_=>none
theorem qa7 {op:VOp} {t:Nat} {want:Bool} {dst:Option Nat}:goN Φ N (.ops b (⟨op,some (t,want),dst⟩::os) live::r) sl nd nx=gK Φ N (vdc sl t) want b op dst os live r sl nd nx:=by
 rw [vpc];simp only [execG,vah];simp only [VM.getS,M.run,St.slot,gK,vdc];cases (look sl t).getD TV.un with
 |a v=>
  cases v with
  |bool u=>
   simp only;split
   ·rw [vbh]
   ·rfl
  |_=>rfl
 |_=>rfl
attribute [go_sem] qa7
theorem qvc {op:VOp} {dst:Option Nat}:gK Φ N (.a (.bool true)) true b op dst os live r sl nd nx=goN Φ N (.ops b (⟨op,none,dst⟩::os) live::r) sl nd nx:=rfl
theorem qva {op:VOp} {dst:Option Nat}:gK Φ N (.a (.bool false)) false b op dst os live r sl nd nx=goN Φ N (.ops b (⟨op,none,dst⟩::os) live::r) sl nd nx:=rfl
theorem qvb {op:VOp} {d:Nat}:gK Φ N (.a (.bool true)) false b op (some d) os live r sl nd nx=goN Φ N (.ops (b+100) os live::r) ((d,TV.none)::sl) nd nx:=rfl
theorem qu9 {op:VOp} {d:Nat}:gK Φ N (.a (.bool false)) true b op (some d) os live r sl nd nx=goN Φ N (.ops (b+100) os live::r) ((d,TV.none)::sl) nd nx:=rfl
theorem qu2 {op:VOp}:gK Φ N (.a (.bool true)) false b op none os live r sl nd nx=goN Φ N (.ops (b+100) os live::r) sl nd nx:=rfl
theorem qul {op:VOp}:gK Φ N (.a (.bool false)) true b op none os live r sl nd nx=goN Φ N (.ops (b+100) os live::r) sl nd nx:=rfl
theorem qsl {op:VOp} {want:Bool} {d:Nat}:gK Φ N TV.none want b op (some d) os live r sl nd nx=goN Φ N (.ops (b+100) os live::r) ((d,TV.none)::sl) nd nx:=rfl
theorem qol {op:VOp} {want:Bool}:gK Φ N TV.none want b op none os live r sl nd nx=goN Φ N (.ops (b+100) os live::r) sl nd nx:=rfl
attribute [go_sem] qvc qva qvb qu9 qu2 qul qsl qol
def mksM (b d e by_:Nat) (zs:List ZC) (x:TV):M Unit:=
 match x with
 | .a (.int .i64 n)=>
  if 0≤n∧n * by_≤140737488355328∧n≤9223372036854775807 then
   (setN b (some (.sl false 0 e (Ab n.toNat (zeroEl zs.length zs))))).bind fun _=>setS d (.rf b)
  else .fail
 |_=> .fail
theorem qec {b d e by_:Nat} {zs:List ZC} {n:Int} (h0:0≤n) (h1:n * by_≤140737488355328) (h2:n≤9223372036854775807):mksM b d e by_ zs (.a (.int .i64 n))=
  (setN b (some (.sl false 0 e (Ab n.toNat (zeroEl zs.length zs))))).bind fun _=>setS d (.rf b):=by
 simp [mksM,h0,h1,h2]
theorem vzs {d e m n:Nat} {zs:List ZC} {ps:List (Nat×Opd)}:goN Φ N (.ops b (⟨.bsl d e m zs n ps,none,g⟩::os) live::r) sl nd nx=
  aftK Φ N (((bslQ b (flatZ zs) m ps (Ab n (zeroEl m zs))).bind fun es=>(setN b (some (.sl es.2 0 e es.1))).bind fun _=>setS d (.rf b)).run ⟨sl,nd,nx⟩) (.ops (b+100) os live::r):=vbh
theorem qdf {flat q:Bool} {m:Nat} {es:List PV}:bslM flat m [] q es= .pure (es,q):=rfl
attribute [go_sem] vzs
def bslK (flat q:Bool) (m i:Nat) (y:PV×Bool) (ps:List (Nat×Opd)) (es:List PV):M (List PV×Bool):=if y.1.cells.length=m∧i<es.length then bslM flat m ps (q||y.2) (es.set i y.1) else .fail
theorem qaa {flat q:Bool} {m i:Nat} {x:Opd} {ps:List (Nat×Opd)} {es:List PV}:bslM flat m ((i,x)::ps) q es=
  (opd x).bind fun v=>(toEl flat v).bind fun y=>bslK flat q m i y ps es:=rfl
theorem qei {flat q:Bool} {m i:Nat} {y:PV×Bool} {ps:List (Nat×Opd)} {es:List PV} (h1:y.1.cells.length=m) (h2:i<es.length):bslK flat q m i y ps es=bslM flat m ps (q||y.2) (es.set i y.1):=by
 simp [bslK,h1,h2]
theorem qsz {m:Nat} {ps:List (Nat×Opd)} {es:List PV} {s:St}:M.run (bslQ b true m ps es) s=M.run (bslM true m ps false es) s:=rfl
theorem ql2 {flat:Bool} {m:Nat} {es:List PV} {s:St}:M.run (bslQ b flat m [] es) s=M.run (bslM flat m [] false es) s:=by cases flat<;>rfl
theorem qmp {m i j:Nat} {x y:Opd} {ps:List (Nat×Opd)} {es:List PV} {s:St}:M.run (bslQ b false m ((i,x)::(j,y)::ps) es) s=M.run (bslM false m ((i,x)::(j,y)::ps) false es) s:=rfl
theorem qml {m i:Nat} {x:Opd} {es:List PV} {s:St}:M.run (bslQ b false m [(i,x)] es) s=M.run ((opd x).bind fun v=>(pullTo b (.ea 0 0 0 0) v).bind fun v=>(toEl false v).bind fun y=>bslK false false m i y [] es) s:=rfl
attribute [go_sem ↓] qsz ql2 qmp qml
theorem vx5 {d e by_:Nat} {mv:Bool} {x y:Opd}:goN Φ N (.ops b (⟨.app d e by_ mv x y,none,g⟩::os) live::r) sl nd nx=
  aftK Φ N (((appendM b e by_ mv (ov sl x) (ov sl y)).bind (setS d)).run ⟨sl,nd,nx⟩) (.ops (b+100) os live::r):=by
 rw [vbh];simp only [exec,vah,vbc]
theorem vtd {w:Nat} {x y:Opd}:goN Φ N (.ops b (⟨.store w x y,none,g⟩::os) live::r) sl nd nx=
  aftK Φ N (((pullTo b (ov sl x) (ov sl y)).bind (storeAt b w (ov sl x))).run ⟨sl,nd,nx⟩) (.ops (b+100) os live::r):=by
 rw [vbh];simp only [exec,vah,vbc]
attribute [go_sem] vx5 vtd
theorem qom {b id:Nat} {v:TV} {s:St}:M.run (pullTo b (.rf id) v) s=M.run (.pure v) s:=rfl
theorem qot {b id o:Nat} {v:TV} {s:St}:M.run (pullTo b (.ad id o) v) s=M.run (.pure v) s:=rfl
theorem qqj {b id ver i m o:Nat} {p:List (Nat×Nat×Nat)} {v:TV} {s:St}:M.run (pullTo b (.ei id ver p i m o) v) s=M.run (.pure v) s:=rfl
theorem qj8 {b id i m o:Nat} {v:Value} {s:St}:M.run (pullTo b (.ea id i m o) (.a v)) s=M.run (.pure (.a v)) s:=rfl
theorem qgh {b id i m o e:Nat} {s:St}:M.run (pullTo b (.ea id i m o) (.nl e)) s=M.run (.pure (.nl e)) s:=rfl
theorem qg3 {b id i m o k:Nat} {s:St}:M.run (pullTo b (.ea id i m o) (.rf k)) s=M.run (.pure (.rf k)) s:=rfl
theorem qh1 {b id i m o e:Nat} {es:List PV} {s:St}:M.run (pullTo b (.ea id i m o) (.sz e es)) s=M.run (.pure (.sz e es)) s:=rfl
theorem qha {b id i m o:Nat} {cs:List TV} {s:St}:M.run (pullTo b (.ea id i m o) (.st cs)) s=M.run ((pullL b cs).bind fun cs'=> .pure (.st cs')) s:=rfl
theorem qka {b:Nat} {s:St}:M.run (pullL b []) s=M.run (.pure []) s:=rfl
theorem qqy {b:Nat} {v:Value} {xs:List TV} {s:St}:M.run (pullL b (.a v::xs)) s=M.run ((pullL b xs).bind fun ys=> .pure (.a v::ys)) s:=rfl
theorem qkt {b e:Nat} {xs:List TV} {s:St}:M.run (pullL b (.nl e::xs)) s=M.run ((pullL b xs).bind fun ys=> .pure (.nl e::ys)) s:=rfl
theorem qmj {b k:Nat} {xs:List TV} {s:St}:M.run (pullL b (.rf k::xs)) s=M.run ((pullL b xs).bind fun ys=> .pure (.rf k::ys)) s:=rfl
theorem qn0 {b e:Nat} {es:List PV} {xs:List TV} {s:St}:M.run (pullL b (.sz e es::xs)) s=M.run ((pullL b xs).bind fun ys=> .pure (.sz e es::ys)) s:=rfl
attribute [go_sem ↓] qom qot qqj qj8 qgh qg3 qh1 qha qka qqy qkt qmj qn0
def pullN (b id ver:Nat) (p:List (Nat×Nat×Nat)):Option Node→M TV
 |some (.sl q ver' e' es)=>if ver'=ver then pullK b id q e' (dget es p) (dput es p .un) else .fail
 |_=> .fail
theorem qmq {b id ver:Nat} {p:List (Nat×Nat×Nat)} {xs:List TV} {s:St}:M.run (pullL b (.ri id ver p::xs)) s=M.run (((getN id).bind (pullN b id ver p)).bind fun y=> .pure (y::xs)) s:=rfl
theorem qod {b id ver e:Nat} {p:List (Nat×Nat×Nat)} {q:Bool} {es:List PV} {s:St}:M.run (pullN b id ver p (some (.sl q ver e es))) s=M.run (pullK b id q e (dget es p) (dput es p .un)) s:=by simp only [pullN,if_true]
theorem qgo {b id e e2:Nat} {q:Bool} {es es1:List PV} {s:St}:M.run (pullK b id q e2 (some (e,es)) (some es1)) s=M.run ((setN id (some (.sl q (b+51) e2 es1))).bind fun _=>(setN (b+60) (some (.sl q 0 e es))).bind fun _=> .pure (.rf (b+60))) s:=by
 simp only [pullK,takeIn,if_true];rfl
attribute [go_sem ↓] qmq qod qgo
def nilB (d:Nat) (v:TV):Option Node→M Unit
 |some (.bx _ _)=>setS d v
 |_=> .fail
def nilE (d:Nat) (v:TV):Option Node→M Unit
 |some (.sl _ _ _ _)=>setS d v
 |_=> .fail
def nilM (d:Nat):TV→M Unit
 | .rf id=>(getN id).bind (nilB d (.rf id))
 | .ad id o=>setS d (.ad id o)
 | .ea id i m o=>(getN id).bind (nilE d (.ea id i m o))
 | .ez cs o=>setS d (.ez cs o)
 | .fn f fs cs=>setS d (.fn f fs cs)
 | .ic t v=>setS d (.ic t v)
 |_=> .fail
theorem qb8 {d:Nat} {v:TV} {z:Bool} {cs:List TV}:nilB d v (some (.bx z cs))=setS d v:=rfl
theorem qdm {d:Nat} {v:TV} {q:Bool} {ver e:Nat} {es:List PV}:nilE d v (some (.sl q ver e es))=setS d v:=rfl
theorem qeh {d id:Nat}:nilM d (.rf id)=(getN id).bind (nilB d (.rf id)):=rfl
theorem qfa {d id o:Nat}:nilM d (.ad id o)=setS d (.ad id o):=rfl
theorem qd3 {d id i m o:Nat}:nilM d (.ea id i m o)=(getN id).bind (nilE d (.ea id i m o)):=rfl
theorem qeb {d o:Nat} {cs:List PV}:nilM d (.ez cs o)=setS d (.ez cs o):=rfl
theorem qsy {d f:Nat} {fs cs:List TV}:nilM d (.fn f fs cs)=setS d (.fn f fs cs):=rfl
theorem qrq {d t:Nat} {v:TV}:nilM d (.ic t v)=setS d (.ic t v):=rfl
theorem vt5 {d:Nat} {x:Opd}:goN Φ N (.ops b (⟨.nilck d x,none,g⟩::os) live::r) sl nd nx=
  aftK Φ N ((nilM d (ov sl x)).run ⟨sl,nd,nx⟩) (.ops (b+100) os live::r):=by
 rw [vbh];simp only [exec,vah,vbc];cases ov sl x with
 |rf id=>
  simp only [nilM,vah];congr 1
 |ea id i m o=>
  simp only [nilM,vah];congr 1
 |_=>rfl
theorem vz0 {d f:Nat} {fs cs:List Opd}:goN Φ N (.ops b (⟨.mkf d f fs cs,none,g⟩::os) live::r) sl nd nx=
  goN Φ N (.ops (b+100) os live::r) ((d,.fn f (fs.map (ov sl)) (cs.map (ov sl)))::sl) nd nx:=by
 have key:∀(xs:List Opd) (s:St),(opds xs).run s=some (xs.map (ov s.slots),s):=by
  intro xs;induction xs with
  |nil=>intro s;rfl
  |cons x xs ih=>intro s;simp only [opds,vah,vbc,ih];rfl
 rw [vbh];simp only [exec,vah,key];rfl
theorem vh2:∀(xs:List Opd) (s:St),(opds xs).run s=some (xs.map (ov s.slots),s)
 | [],s=>rfl
 |x::xs,s=>by simp only [opds,vah,vbc,vh2 xs];rfl
theorem vyr {d t:Nat} {x:Opd}:goN Φ N (.ops b (⟨.mki d t x,none,g⟩::os) live::r) sl nd nx=goN Φ N (.ops (b+100) os live::r) ((d,.ic t (ov sl x))::sl) nd nx:=by
 rw [vbh];simp only [exec,vah,vbc];rfl
theorem vzr {d e by_:Nat} {zs:List ZC} {x:Opd}:goN Φ N (.ops b (⟨.mks d e by_ zs x,none,g⟩::os) live::r) sl nd nx=
  aftK Φ N ((mksM b d e by_ zs (ov sl x)).run ⟨sl,nd,nx⟩) (.ops (b+100) os live::r):=by
 rw [vbh];simp only [exec,vah,vbc,mksM];rfl
theorem vxe {d:Nat} {x:Opd}:goN Φ N (.ops b (⟨.cvs d x,none,g⟩::os) live::r) sl nd nx=
  aftK Φ N ((exec Φ b (.cvs d x)).run ⟨sl,nd,nx⟩) (.ops (b+100) os live::r):=vbh
attribute [go_sem] vt5 vz0 vyr vzr vxe
def boundO (sl:vbx):Option Opd→Option (Option Int)
 |none=>some none
 |some y=>(asI (ov sl y)).map some
theorem vrr (y:Option Opd) (s:St):(bound y).run s=(boundO s.slots y).map (·,s):=by
 cases y with
 |none=>rfl
 |some y=>
  simp only [bound,vah,vbc,boundO];cases asI (ov s.slots y)<;>rfl
theorem qh7:boundO sl none=some none:=rfl
theorem qgu {y:Opd}:boundO sl (some y)=(asI (ov sl y)).map some:=rfl
theorem qo7 {k:IntKind} {n:Int}:asI (.a (.int k n))=some n:=rfl
attribute [go_sem] qh7 qgu qo7
def cutK (Φ:Nat→Option Callee) (N:Nat) (d:Nat) (lo hi:Option (Option Int)) (f:Option Int→Option Int→M TV) (r:List It) (s:St):Option (Out×St):=
 match lo,hi with
 |some l,some h=>aftK Φ N (((f l h).bind (setS d)).run s) r
 |_,_=>none
theorem qn1 {d:Nat} {l h:Option Int} {f:Option Int→Option Int→M TV} {s:St}:cutK Φ N d (some l) (some h) f r s=aftK Φ N (((f l h).bind (setS d)).run s) r:=rfl
theorem vzu {d e:Nat} {x:Opd} {lo hi:Option Opd}:goN Φ N (.ops b (⟨.slc d e x lo hi,none,g⟩::os) live::r) sl nd nx=
  cutK Φ N d (boundO sl lo) (boundO sl hi) (sliceAt e (ov sl x)) (.ops (b+100) os live::r) ⟨sl,nd,nx⟩:=by
 rw [vbh];simp only [exec,vah,vbc,vrr];cases hlo:boundO sl lo with
 |none=>cases boundO sl hi<;>rfl
 |some l=>
  cases hhi:boundO sl hi with
  |none=>simp only [Aa,Ai,hhi];rfl
  |some h=>simp only [Aa,hhi,vah,cutK]
theorem vu7 {d:Nat} {x:Opd} {lo hi:Option Opd}:goN Φ N (.ops b (⟨.sslc d x lo hi,none,g⟩::os) live::r) sl nd nx=
  cutK Φ N d (boundO sl lo) (boundO sl hi) (strAt (ov sl x)) (.ops (b+100) os live::r) ⟨sl,nd,nx⟩:=by
 rw [vbh];simp only [exec,vah,vbc,vrr];cases hlo:boundO sl lo with
 |none=>cases boundO sl hi<;>rfl
 |some l=>
  cases hhi:boundO sl hi with
  |none=>simp only [Aa,Ai,hhi];rfl
  |some h=>simp only [Aa,hhi,vah,cutK]
attribute [go_sem] qn1 vzu vu7
def ext2 (t:Bool) (x y:Int):Int:=if t then (if y>x then y else x) else (if y<x then y else x)
def mmT (t:Bool):TV→TV→Option TV
 | .a (.int k x),.a (.int _ y)=>some (.a (.int k (ext2 t x y)))
 |_,_=>none
theorem quy {t:Bool} {k k':IntKind} {x y:Int}:mmT t (.a (.int k x)) (.a (.int k' y))=some (.a (.int k (ext2 t x y))):=rfl
theorem vtw {d:Nat} {t:Bool} {x y:Opd}:goN Φ N (.ops b (⟨.mmx d t [x,y],none,g⟩::os) live::r) sl nd nx=
  putK Φ N d (mmT t (ov sl x) (ov sl y)) (.ops (b+100) os live::r) sl nd nx:=by
 rw [vbh];simp only [exec,vah,vh2,List.map];cases ov sl x with
 |a u=>
  cases u with
  |int k n=>
   simp only [vah];cases ov sl y with
   |a v=>cases v<;>first|rfl|(cases t<;>rfl)
   |_=>rfl
  |_=>rfl
 |_=>rfl
attribute [go_sem] quy vtw
def slc0K (Φ:Nat→Option Callee) (N:Nat) (d b e:Nat) (o:Option (Nat×List PV)) (r:List It) (sl:vbx) (nd:vcj) (nx:Nat):Option (Out×St):=
 match o with
 |some (e',_)=>if e'=e then goN Φ N r ((d,.rf b)::sl) ((b,some (.sl false 0 e []))::nd) nx else none
 |none=>none
theorem qj6 {d b e:Nat} {es:List PV}:slc0K Φ N d b e (some (e,es)) r sl nd nx=goN Φ N r ((d,.rf b)::sl) ((b,some (.sl false 0 e []))::nd) nx:=by simp [slc0K]
theorem vvh {d e:Nat} {x:Opd}:goN Φ N (.ops b (⟨.slc0 d e x,none,g⟩::os) live::r) sl nd nx=slc0K Φ N d b e (vb2 nd (ov sl x)) (.ops (b+100) os live::r) sl nd nx:=by
 rw [vbh];simp only [exec,vah,vbc,viq];cases vb2 nd (ov sl x) with
 |none=>rfl
 |some p=>
  obtain ⟨e',es⟩:=p;simp only [Aa,slc0K];split<;>rfl
attribute [go_sem] qj6 vvh
def callK (Φ:Nat→Option Callee) (N:Nat) (c:Option Callee) (b:Nat) (d:Option Nat) (xs:List TV) (r:List It) (s:St):Option (Out×St):=
 match c with
 |none=>none
 |some c=>aftK Φ N (((callM (some c) b xs).bind (putO d)).run s) r
theorem vqy {d:Option Nat} {f:Nat} {xs:List Opd}:goN Φ N (.ops b (⟨.call d f xs,none,g⟩::os) live::r) sl nd nx=
  callK Φ N (Φ f) b d (xs.map (ov sl)) (.ops (b+100) os live::r) ⟨sl,nd,nx⟩:=by
 rw [vbh];simp only [exec,vah,vh2,callK];cases Φ f with
 |none=>rfl
 |some c=>simp only [vah]
attribute [go_sem] vqy
def calvK (Φ:Nat→Option Callee) (N:Nat) (f:TV) (b:Nat) (d:Option Nat) (xs:List TV) (r:List It) (s:St):Option (Out×St):=
 match f with
 | .fn g fs cs=>callK Φ N (Φ g) b d (fs++xs++cs) r s
 |_=>none
theorem vvn {d:Option Nat} {f:Opd} {xs:List Opd}:goN Φ N (.ops b (⟨.calv d f xs,none,g⟩::os) live::r) sl nd nx=
  calvK Φ N (ov sl f) b d (xs.map (ov sl)) (.ops (b+100) os live::r) ⟨sl,nd,nx⟩:=by
 rw [vbh];simp only [exec,vah,vbc];cases ov sl f with
 |fn g fs cs=>
  simp only [vah,vh2,calvK,callK];cases Φ g with
  |none=>rfl
  |some c=>simp only [vah]
 |_=>rfl
attribute [go_sem] vvn
def caliK (Φ:Nat→Option Callee) (N:Nat) (v:TV) (t f b:Nat) (d:Option Nat) (xs:List TV) (r:List It) (s:St):Option (Out×St):=
 match v with
 | .ic t' v=>if t'=t then callK Φ N (Φ f) b d (v::xs) r s else none
 |_=>none
theorem vv2 {d:Option Nat} {t f:Nat} {x:Opd} {xs:List Opd}:goN Φ N (.ops b (⟨.cali d t f x xs,none,g⟩::os) live::r) sl nd nx=
  caliK Φ N (ov sl x) t f b d (xs.map (ov sl)) (.ops (b+100) os live::r) ⟨sl,nd,nx⟩:=by
 rw [vbh];simp only [exec,vah,vbc];cases ov sl x with
 |ic t' v=>
  simp only [caliK];by_cases h:t'=t
  ·rw [if_pos h,if_pos h];simp only [vah,vh2,callK];cases Φ f with
   |none=>rfl
   |some c=>simp only [vah]
  ·rw [if_neg h,if_neg h];rfl
 |_=>rfl
theorem vxq {e:Nat} {z:Value} {x:Opd}:goN Φ N (.ops b (⟨.clr e z x,none,g⟩::os) live::r) sl nd nx=aftK Φ N ((clrAt e z (ov sl x)).run ⟨sl,nd,nx⟩) (.ops (b+100) os live::r):=by
 rw [vbh];simp only [exec,vah,vbc]
attribute [go_sem] vv2 vxq
def clrN (e:Nat) (z:Value) (id:Nat):Option Node→M Unit
 |some (.sl q ver e' es)=>if e'=e∧clrOk es=true then setN id (some (.sl q ver e (Ab es.length (.a z)))) else .fail
 |_=> .fail
theorem qt5 {e id:Nat} {z:Value} {s:St}:M.run (clrAt e z (.rf id)) s=M.run ((getN id).bind (clrN e z id)) s:=rfl
theorem qqc {e id ver:Nat} {z:Value} {q:Bool} {es:List PV} {s:St} (h:clrOk es=true):M.run (clrN e z id (some (.sl q ver e es))) s=M.run (setN id (some (.sl q ver e (Ab es.length (.a z))))) s:=by
 simp only [clrN,h,and_self,if_true]
attribute [go_sem ↓] qt5 qqc
theorem qg6:List.all [] isAtom=true:=rfl
theorem qiw {k:IntKind} {n:Int} {es:List PV}:List.all (.a (.int k n)::es) isAtom=es.all isAtom:=rfl
theorem qil {k:IntKind} {n:Int} {es:List PV}:clrOk (.a (.int k n)::es)=es.all isAtom:=rfl
attribute [go_sem] qg6 qiw qil
def backK (Φ:Nat→Option Callee) (N:Nat) (keeps scalar:Bool) (ms:List Md) (b:Nat) (d:Option Nat) (xs:List TV) (cs:List CV) (o:Option (List CV×List CV)) (r:List It) (s:St):Option (Out×St):=
 match o with
 |none=>none
 |some (rs,fs)=>aftK Φ N (((vaf keeps (b+100) b ms xs cs fs).bind fun b'=>(if scalar then (if b'≤b+99 then (liftO (plainL rs)).bind fun ts=>M.pure (oneOf ts) else .fail) else vcc keeps (b+99) b' rs).bind (putO d)).run s) r
def resS (top b:Nat) (rs:List CV):M TV:=if b≤top then (liftO (plainL rs)).bind fun ts=>M.pure (oneOf ts) else .fail
def resT (top:Nat) (r:List TV×Nat):M TV:=if r.2≤top then .pure (oneOf r.1) else .fail
theorem qc7 {top b:Nat} {rs:List CV} (h:b≤top):resS top b rs=(liftO (plainL rs)).bind fun ts=>M.pure (oneOf ts):=by simp [resS,h]
theorem qcr {top:Nat} {r:List TV×Nat} (h:r.2≤top):resT top r= .pure (oneOf r.1):=by simp [resT,h]
theorem vu2 {q:Bool} {top b:Nat} {rs:List CV}:vcc q top b rs=(vav q b rs).bind (resT top):=rfl
theorem qu4 {v:TV}:oneOf [v]=v:=rfl
theorem quj:oneOf []= .tp []:=rfl
theorem quk {v u:TV} {l:List TV}:oneOf (v::u::l)= .tp (v::u::l):=rfl
theorem qpb {v:Value}:plain (.a v)=some (.a v):=rfl
theorem qn5 {e:Nat} {es:List PV}:plain (.sl true e es)=some (.sz e es):=rfl
theorem qlu {cs:List CV}:plain (.st cs)=(plainL cs).map .st:=rfl
theorem qhp:plainL []=some []:=rfl
attribute [go_sem] qu4 quj quk qpb qn5 qlu qhp
def plC (a:Option TV) (o:Option (List TV)):Option (List TV):=match a,o with|some y,some ys=>some (y::ys)|_,_=>none
theorem qn9 {y:TV} {ys:List TV}:plC (some y) (some ys)=some (y::ys):=rfl
theorem qfu {x:CV} {xs:List CV}:plainL (x::xs)=plC (plain x) (plainL xs):=rfl
theorem vza {d:Nat} {v:TV}:putO (some d) v=setS d v:=rfl
theorem vyh {v:TV}:putO none v= .pure ():=rfl
theorem qsj {keeps:Bool} {ms:List Md} {b:Nat} {d:Option Nat} {xs:List TV} {cs rs fs:List CV} {s:St}:backK Φ N keeps true ms b d xs cs (some (rs,fs)) r s=
  aftK Φ N (((vaf keeps (b+100) b ms xs cs fs).bind fun b'=>(resS (b+99) b' rs).bind (putO d)).run s) r:=rfl
theorem qt2 {keeps:Bool} {ms:List Md} {b:Nat} {d:Option Nat} {xs:List TV} {cs rs fs:List CV} {s:St}:backK Φ N keeps false ms b d xs cs (some (rs,fs)) r s=
  aftK Φ N (((vaf keeps (b+100) b ms xs cs fs).bind fun b'=>(vcc keeps (b+99) b' rs).bind (putO d)).run s) r:=rfl
attribute [go_sem] qn9 qfu qsj qt2
def goK (Φ:Nat→Option Callee) (N:Nat) (c:Callee) (b:Nat) (d:Option Nat) (xs:List TV) (o:Option (List CV×St)) (r:List It):Option (Out×St):=
 match o with
 |none=>none
 |some (cs,s)=>backK Φ N c.keeps c.scalar c.modes b d xs cs (c.go cs) r s
theorem qnn {c:Callee} {b:Nat} {d:Option Nat} {xs:List TV} {cs:List CV} {s:St}:goK Φ N c b d xs (some (cs,s)) r=backK Φ N c.keeps c.scalar c.modes b d xs cs (c.go cs) r s:=rfl
theorem qji {c:Callee} {b:Nat} {d:Option Nat} {xs:List TV} {s:St}:callK Φ N (some c) b d xs r s=
  goK Φ N c b d xs (((lendA c.keeps (b+100) c.modes xs).bind fun ps=>show_ c.keeps c.modes xs ps).run s) r:=by
 simp only [callK,callM,vah,goK];cases (lendA c.keeps (b+100) c.modes xs).run s with
 |none=>rfl
 |some p=>
  obtain ⟨ps,s1⟩:=p;simp only;cases (show_ c.keeps c.modes xs ps).run s1 with
  |none=>rfl
  |some q=>
   obtain ⟨cs,s2⟩:=q;simp only [backK];cases c.go cs with
   |none=>rfl
   |some x=>
    obtain ⟨rs,fs⟩:=x;simp only [vah];cases (vaf c.keeps (b+100) b c.modes xs cs fs).run s2 with
    |none=>rfl
    |some y=>simp only [vah]
attribute [go_sem] qnn qji
def goM {α:Type} (o:Option (List CV×List CV)) (k:List CV→List CV→M α):M α:=match o with|none=> .fail|some (rs,fs)=>k rs fs
theorem qmn {α:Type} {rs fs:List CV} {k:List CV→List CV→M α}:goM (some (rs,fs)) k=k rs fs:=rfl
attribute [go_sem] qmn
def calaM (c:Callee) (b:Nat) (d:Option Nat) (xs:List TV):M Unit:=(lendA c.keeps (b+100) c.modes xs).bind fun ps=>(show_ c.keeps c.modes xs ps).bind fun cs=>goM (c.go cs) fun rs fs=>(vaf c.keeps (b+100) b c.modes xs cs fs).bind fun b'=>(vcc c.keeps (b+99) b' rs).bind fun tv=>(alsIn2 (some c) xs tv).bind fun _=>putO d tv
def calaK (Φ:Nat→Option Callee) (N:Nat) (c:Option Callee) (b:Nat) (d:Option Nat) (xs:List TV) (r:List It) (s:St):Option (Out×St):=
 match c with
 |none=>none
 |some c=>aftK Φ N (((callM (some c) b xs).bind fun tv=>(alsIn2 (some c) xs tv).bind fun _=>putO d tv).run s) r
theorem vvu {d:Option Nat} {f:Nat} {xs:List Opd}:goN Φ N (.ops b (⟨.cala d f xs,none,g⟩::os) live::r) sl nd nx=
  calaK Φ N (Φ f) b d (xs.map (ov sl)) (.ops (b+100) os live::r) ⟨sl,nd,nx⟩:=by
 rw [vbh];simp only [exec,vah,vh2,calaK];cases Φ f with
 |none=>rfl
 |some c=>simp only [vah]
theorem qjl {ms:List Md} {kp:Bool} {go:List CV→Option (List CV×List CV)} {b:Nat} {d:Option Nat} {xs:List TV} {s:St}:calaK Φ N (some ⟨ms,kp,false,go⟩) b d xs r s=aftK Φ N ((calaM ⟨ms,kp,false,go⟩ b d xs).run s) r:=by
 simp only [calaK,calaM,callM,vah];congr 1;cases (lendA kp (b+100) ms xs).run s with
 |none=>rfl
 |some p=>
  obtain ⟨ps,s1⟩:=p;simp only;cases (show_ kp ms xs ps).run s1 with
  |none=>rfl
  |some q=>
   obtain ⟨cs,s2⟩:=q;simp only;cases go cs with
   |none=>rfl
   |some x=>
    obtain ⟨rs,fs⟩:=x;simp only [goM,vah,Ac,if_false];cases (vaf kp (b+100) b ms xs cs fs).run s2 with
    |none=>rfl
    |some y=>simp only
attribute [go_sem] vvu qjl
end
def outK (f:Fn) (o:Option (Out×St)):Option (List CV×List CV):=
 match o with
 |some (.ext _,_)=>none
 |some (_,s)=>((takeOut f).run s).map (·.1)
 |none=>none
theorem qo6 {f:Fn} {s:St}:outK f (some (.ret,s))=((takeOut f).run s).map (·.1):=rfl
theorem qq0 {f:Fn} {s:St}:outK f (some (.nrm,s))=((takeOut f).run s).map (·.1):=rfl
attribute [go_sem] qo6 qq0
def inK (Φ:Nat→Option Callee) (N:Nat) (f:Fn) (o:Option ((List TV×Nat)×St)):Option (List CV×List CV):=
 match o with
 |some ((vs,b),s)=>outK f (goN Φ N [.c f.body] ((List.range vs.length).zip vs++vc7 0 f.modes vs) s.nodes (b+1))
 |none=>none
def enumS:Nat→List TV→vbx
 |_,[]=> []
 |k,v::vs=>(k,v)::enumS (k+1) vs
theorem qm0 {k:Nat}:enumS k []= []:=rfl
theorem qju {k:Nat} {v:TV} {vs:List TV}:enumS k (v::vs)=(k,v)::enumS (k+1) vs:=rfl
theorem vv3:∀(vs:List TV) (k:Nat),(List.range' k vs.length).zip vs=enumS k vs
 | [],k=>rfl
 |v::vs,k=>by simp only [Af,List.range'_succ,List.zip_cons_cons,enumS,vv3 vs]
theorem qrc {f:Fn} {vs:List TV} {b:Nat} {s:St}:inK Φ N f (some ((vs,b),s))=outK f (goN Φ N [.c f.body] (enumS 0 vs++vc7 0 f.modes vs) s.nodes (b+1)):=by
 simp only [inK,List.range_eq_range',vv3]
theorem vb8 {f:Fn} {args:List CV} (h:args.length=f.modes.length):vak Φ N f args=inK Φ N f ((vav f.keeps 0 args).run ⟨[],[],0⟩):=by
 unfold vak inK;rw [if_pos h];cases (vav f.keeps 0 args).run ⟨[],[],0⟩ with
 |none=>rfl
 |some p=>
  obtain ⟨⟨vs,b⟩,s⟩:=p;rfl
attribute [go_sem] qm0 qju qrc
def stoN (n:Option Node) (w id o:Nat) (y:TV) (sl:vbx) (nd:vcj) (nx:Nat):Option (Unit×St):=
 match n with
 |some (.bx false cs)=>if y.cells.length=w∧o+w≤cs.length∧y.cells.all TV.one=true then some ((),⟨sl,(id,some (.bx false (cs.take o++y.cells++cs.drop (o+w))))::nd,nx⟩) else none
 |_=>none
theorem vna {w id o:Nat} {y:TV}:(storeBox w id o y).run ⟨sl,nd,nx⟩=stoN (va2 nd id) w id o y sl nd nx:=by
 simp only [storeBox,vah,stoN,va2];simp only [VM.getN,M.run,St.node];cases (look nd id).getD none with
 |none=>rfl
 |some n=>
  cases n with
  |sl _ _ _ _=>rfl
  |bx z cs=>
   cases z with
   |true=>rfl
   |false=>simp only;split<;>rfl
theorem qto {b w id:Nat} {y:TV}:(storeAt b w (.rf id) y).run ⟨sl,nd,nx⟩=stoN (va2 nd id) w id 0 y sl nd nx:=vna
theorem qsn {b w id o:Nat} {y:TV}:(storeAt b w (.ad id o) y).run ⟨sl,nd,nx⟩=stoN (va2 nd id) w id o y sl nd nx:=vna
theorem qqb {cs:List TV} {w id o:Nat} {y:TV} (h1:y.cells.length=w) (h2:o+w≤cs.length) (h3:y.cells.all TV.one=true):stoN (some (.bx false cs)) w id o y sl nd nx=
  some ((),⟨sl,(id,some (.bx false (cs.take o++y.cells++cs.drop (o+w))))::nd,nx⟩):=by
 simp [stoN,h1,h2,h3]
attribute [go_sem] qto qsn qqb
def stoX (x:Option PV) (q:Bool) (ver e:Nat) (es:List PV) (ys:List PV×Bool) (b w id i o:Nat):M Unit:=
 match x with
 |some x=>if ys.1.length=w∧o+w≤x.cells.length then
   setN id (some (.sl (q||ys.2) (if vco ys.1 x o w then ver else b+1) e (es.set i (va6 x o ys.1))))
  else .fail
 |none=> .fail
def stoE (n:Option Node) (ys:List PV×Bool) (b w id i o:Nat):M Unit:=
 match n with
 |some (.sl q ver e es)=>stoX es[i]? q ver e es ys b w id i o
 |_=> .fail
theorem vzz {x:PV} {q:Bool} {ver e:Nat} {es:List PV} {ys:List PV×Bool} {b w id i o:Nat} (h1:ys.1.length=w) (h2:o+w≤x.cells.length):stoX (some x) q ver e es ys b w id i o=
  setN id (some (.sl (q||ys.2) (if vco ys.1 x o w then ver else b+1) e (es.set i (va6 x o ys.1)))):=by simp [stoX,h1,h2]
theorem qc4 {q:Bool} {ver e:Nat} {es:List PV} {ys:List PV×Bool} {b w id i o:Nat}:stoE (some (.sl q ver e es)) ys b w id i o=stoX es[i]? q ver e es ys b w id i o:=rfl
theorem qm1 {ys:List PV} {x:PV} {o w a c:Nat} (h:vco ys x o w=true):(if vco ys x o w=true then a else c)=a:=by simp [h]
theorem qut {v:Value} {y:PV}:va6 (.a v) 0 [y]=y:=rfl
theorem qsp {e:Nat} {es:List PV} {y:PV}:va6 (.sl e es) 0 [y]=y:=rfl
theorem qsu {e:Nat} {es:List PV} {y:PV}:va6 (.fz e es) 0 [y]=y:=rfl
theorem qtq {cs ys:List PV} {o:Nat}:va6 (.st cs) o ys= .st (cs.take o++ys++cs.drop (o+ys.length)):=rfl
theorem qee {b w id i m o:Nat} {y:TV}:storeAt b w (.ea id i m o) y=(toPVs y.cells).bind fun ys=>(getN id).bind fun n=>stoE n ys b w id i o:=by
 rfl
attribute [go_sem] qm1 qut qsp qsu qtq
def stiK (id:Nat) (q:Bool) (ver e:Nat):Option (List PV)→M Unit
 |some es1=>setN id (some (.sl q ver e es1))
 |none=> .fail
def stiX (w id:Nat) (q:Bool) (ver e:Nat) (es:List PV) (p:List (Nat×Nat×Nat)) (i m o e':Nat) (es' ys:List PV):Option PV→M Unit
 |some x=>if x.cells.length=m∧ys.length=w∧o+w≤x.cells.length∧vco ys x o w=true then stiK id q ver e (dput es p (.sl e' (es'.set i (va6 x o ys)))) else .fail
 |none=> .fail
def stiD (w id:Nat) (q:Bool) (ver e:Nat) (es:List PV) (p:List (Nat×Nat×Nat)) (i m o:Nat) (ys:List PV):Option (Nat×List PV)→M Unit
 |some (e',es')=>stiX w id q ver e es p i m o e' es' ys es'[i]?
 |none=> .fail
def stiN (w id ver:Nat) (p:List (Nat×Nat×Nat)) (i m o:Nat) (ys:Option (List PV)):Option Node→M Unit
 |some (.sl q ver' e es)=>if ver'=ver then vh8 w id q ver e es p i m o (dget es p) ys else .fail
 |_=> .fail
theorem qsq {b w id ver i m o:Nat} {p:List (Nat×Nat×Nat)} {y:TV} {s:St}:M.run (storeAt b w (.ei id ver p i m o) y) s=M.run ((getN id).bind (stiN w id ver p i m o (vck y.cells))) s:=rfl
theorem qq7 {w id ver e i m o:Nat} {q:Bool} {es ys:List PV} {p:List (Nat×Nat×Nat)} {s:St}:M.run (stiN w id ver p i m o (some ys) (some (.sl q ver e es))) s=M.run (stiD w id q ver e es p i m o ys (dget es p)) s:=by
 simp only [stiN,if_true,vh8];cases dget es p with
 |none=>rfl
 |some r=>
  obtain ⟨e',es'⟩:=r;simp only [stiD];cases es'[i]? with
  |none=>rfl
  |some x=>
   simp only [stiX];split
   ·cases dput es p _<;>rfl
   ·rfl
theorem qix {w id ver e i m o e':Nat} {q:Bool} {es es' ys:List PV} {p:List (Nat×Nat×Nat)} {s:St}:M.run (stiD w id q ver e es p i m o ys (some (e',es'))) s=M.run (stiX w id q ver e es p i m o e' es' ys es'[i]?) s:=rfl
theorem qj4 {w id ver e i m o e':Nat} {q:Bool} {es es' ys:List PV} {p:List (Nat×Nat×Nat)} {x:PV} {s:St} (h1:x.cells.length=m) (h2:ys.length=w) (h3:o+w≤x.cells.length) (h4:vco ys x o w=true):
  M.run (stiX w id q ver e es p i m o e' es' ys (some x)) s=M.run (stiK id q ver e (dput es p (.sl e' (es'.set i (va6 x o ys))))) s:=by simp [stiX,h1,h2,h4,h1▸h3]
theorem qi1 {id ver e:Nat} {q:Bool} {es1:List PV} {s:St}:M.run (stiK id q ver e (some es1)) s=M.run (setN id (some (.sl q ver e es1))) s:=rfl
theorem vyn:toPVs []= .pure ([],false):=rfl
theorem vwy {x:TV} {xs:List TV}:toPVs (x::xs)=(toPV x).bind fun y=>(toPVs xs).bind fun ys=> .pure (y.1::ys.1,y.2||ys.2):=rfl
theorem qeu {v:Value} (h:one1 v=true):toPV (.a v)= .pure (.a v,false):=by simp [toPV,h]
theorem qcp {e:Nat}:toPV (.nl e)= .pure (.sl e [],false):=rfl
theorem qcb {e:Nat} {es:List PV}:toPV (.sz e es)= .pure (.fz e es,true):=rfl
theorem qdi {id:Nat}:toPV (.rf id)=(getN id).bind fun n=>match n with
  |some (.sl q _ e es)=>(setN id none).bind fun _=> .pure (.sl e es,q)
  |_=> .fail:=rfl
attribute [go_sem ↓] qsq qq7 qix qj4 qi1
theorem qr4 {v:Value} (h:one1 v=true):atomPV (.a v)=some (.a v):=by simp [atomPV,h]
theorem qi4:vck []=some []:=rfl
theorem qhz {v:Value} {xs:List TV} (h:one1 v=true):vck (.a v::xs)=(vck xs).map (.a v::·):=by
 simp only [vck,atomPV,h,if_true];cases vck xs<;>rfl
theorem vz6 {v:Value} (h:one1 v=true):toEl true (.a v)= .pure (.a v,false):=by simp only [toEl,if_true,atomPV,h];rfl
theorem vzt {cs:List TV}:toEl true (.st cs)=(liftO (vck cs)).bind fun ys=> .pure (.st ys,false):=rfl
theorem vx1 {cs:List TV}:toEl false (.st cs)=(toPVs cs).bind fun ys=> .pure (.st ys.1,ys.2):=rfl
theorem qa9 {v:Value}:toEl false (.a v)=toPV (.a v):=rfl
theorem vy8 {e:Nat}:toEl false (.nl e)=toPV (.nl e):=rfl
theorem vy3 {i:Nat}:toEl false (.rf i)=toPV (.rf i):=rfl
theorem vya {e:Nat} {es:List PV}:toEl false (.sz e es)=toPV (.sz e es):=rfl
theorem qie:flatZ []=true:=rfl
theorem qqq {v:Value} {zs:List ZC}:flatZ (.v v::zs)=flatZ zs:=rfl
theorem qky {e:Nat} {zs:List ZC}:flatZ (.nl e::zs)=false:=rfl
theorem qn7 {z:ZC}:zeroEl 1 [z]=z.pv:=rfl
theorem qnq {z z':ZC} {zs:List ZC} {m:Nat}:zeroEl (m+2) (z::z'::zs)= .st (z.pv::z'.pv::zs.map ZC.pv):=rfl
theorem que {v:Value}:(ZC.v v).pv= .a v:=rfl
theorem qrl {e:Nat}:(ZC.nl e).pv= .sl e []:=rfl
attribute [go_sem] qr4 qi4 qhz qie qqq qky qn7 qnq que qrl
def apto (n:Option Node) (e id:Nat) (sl:vbx) (nd:vcj) (nx:Nat):Option ((List PV×Bool)×St):=
 match n with
 |some (.sl q _ e' es)=>if e'=e then some ((es,q),⟨sl,(id,none)::nd,nx⟩) else none
 |_=>none
theorem qos {q:Bool} {ver e id:Nat} {es:List PV}:apto (some (.sl q ver e es)) e id sl nd nx=some ((es,q),⟨sl,(id,none)::nd,nx⟩):=by simp [apto]
theorem qmo {b e:Nat} {s:St}:(appTo b e (.nl e)).run s=some (([],false),s):=by simp [appTo,M.run]
theorem qof {b e id:Nat}:(appTo b e (.rf id)).run ⟨sl,nd,nx⟩=apto (va2 nd id) e id sl nd nx:=by
 simp only [appTo,vah,apto,va2];simp only [VM.getN,M.run,St.node];cases (look nd id).getD none with
 |none=>rfl
 |some n=>
  cases n with
  |bx _ _=>rfl
  |sl q ver e' es=>simp only;split<;>rfl
attribute [go_sem] qos qmo qof
def aptI (b e id ver:Nat) (p:List (Nat×Nat×Nat)):Option Node→M (List PV×Bool)
 |some (.sl q ver' e' es)=>if ver'=ver then takeIn b e id q e' (dget es p) (dput es p .un) else .fail
 |_=> .fail
def aptS (n:Option Node) (e id lo k:Nat) (sl:vbx) (nd:vcj) (nx:Nat):Option ((List PV×Bool)×St):=
 match n with
 |some (.sl q _ e' es)=>if e'=e then if lo+k=es.length then some ((es.drop lo,q),⟨sl,(id,none)::nd,nx⟩) else none else none
 |_=>none
theorem qql {q:Bool} {ver e id lo k:Nat} {es:List PV} (h:lo+k=es.length):aptS (some (.sl q ver e es)) e id lo k sl nd nx=some ((es.drop lo,q),⟨sl,(id,none)::nd,nx⟩):=by simp [aptS,h]
theorem qlr {b e id lo k:Nat}:(appTo b e (.sb id lo k)).run ⟨sl,nd,nx⟩=aptS (va2 nd id) e id lo k sl nd nx:=by
 simp only [appTo,vah,aptS,va2];simp only [VM.getN,M.run,St.node];cases (look nd id).getD none with
 |none=>rfl
 |some n=>
  cases n with
  |bx _ _=>rfl
  |sl q ver e' es=>simp only;split<;>(try split)<;>rfl
theorem qnj {b e id ver:Nat} {p:List (Nat×Nat×Nat)} {s:St}:(appTo b e (.ri id ver p)).run s=((getN id).bind (aptI b e id ver p)).run s:=rfl
theorem qp6 {b e id ver e':Nat} {q:Bool} {es:List PV} {p:List (Nat×Nat×Nat)} {s:St}:M.run (aptI b e id ver p (some (.sl q ver e' es))) s=M.run (takeIn b e id q e' (dget es p) (dput es p .un)) s:=by simp [aptI]
theorem qfx {b e id e':Nat} {q:Bool} {es es1:List PV} {s:St}:M.run (takeIn b e id q e' (some (e,es)) (some es1)) s=some ((es,q),⟨s.slots,(id,some (.sl q (b+51) e' es1))::s.nodes,s.next⟩):=by
 simp only [takeIn,if_true];rfl
attribute [go_sem] qql qlr qnj qp6 qfx
def apof (n:Option Node) (e id:Nat) (sl:vbx) (nd:vcj) (nx:Nat):Option ((List PV×Bool)×St):=
 match n with
 |some (.sl _ _ e' es)=>if e'=e then some ((es.map PV.cpy,false),⟨sl,nd,nx⟩) else none
 |_=>none
theorem qop {q:Bool} {ver e id:Nat} {es:List PV}:apof (some (.sl q ver e es)) e id sl nd nx=some ((es.map PV.cpy,false),⟨sl,nd,nx⟩):=by simp [apof]
theorem qkr {e id:Nat}:(appOf e true (.rf id)).run ⟨sl,nd,nx⟩=apto (va2 nd id) e id sl nd nx:=by
 simp only [appOf,vah,apto,va2];simp only [VM.getN,M.run,St.node];cases (look nd id).getD none with
 |none=>rfl
 |some n=>
  cases n with
  |bx _ _=>rfl
  |sl q ver e' es=>simp only [if_true];split<;>rfl
theorem qld {e id:Nat}:(appOf e false (.rf id)).run ⟨sl,nd,nx⟩=apof (va2 nd id) e id sl nd nx:=by
 simp only [appOf,vah,apof,va2];simp only [VM.getN,M.run,St.node];cases (look nd id).getD none with
 |none=>rfl
 |some n=>
  cases n with
  |bx _ _=>rfl
  |sl q ver e' es=>simp only [Ac,if_false];split<;>rfl
attribute [go_sem] qop qkr qld
def apel (o:Option (Nat×List PV)) (e:Nat) (s:St):Option ((List PV×Bool)×St):=
 match o with
 |some (e',es)=>if e'=e then some ((es.map PV.cpy,false),s) else none
 |none=>none
theorem qj5 {e:Nat} {es:List PV} {s:St}:apel (some (e,es)) e s=some ((es.map PV.cpy,false),s):=by simp [apel]
theorem vlt {e:Nat} {mv:Bool} {y:TV} {s:St} (h:∀id,y≠ .rf id) (hz:mv=false∨∀e es,y≠ .sz e es):(appOf e mv y).run s=apel (vb2 s.nodes y) e s:=by
 have:appOf e mv y=(elems y).bind fun r=>if r.1=e then .pure (r.2.map PV.cpy,false) else .fail:=by
  have hc:∀es,cpyOf mv y es=(es.map PV.cpy,false):=fun es=>by
   unfold cpyOf;split
   ·rcases hz with hz|hz
    ·cases hz
    ·exact absurd rfl (hz _ _)
   ·rfl
  cases y<;>first|exact absurd rfl (h _)|(simp only [appOf,hc])
 rw [this];simp only [vah,viq];cases vb2 s.nodes y with
 |none=>rfl
 |some p=>
  obtain ⟨e',es⟩:=p;simp only [Aa,apel];split<;>rfl
theorem qmg {e e':Nat} {mv:Bool} {s:St}:(appOf e mv (.nl e')).run s=apel (some (e',[])) e s:=vlt (by simp) (.inr (by simp))
theorem qlo {e e':Nat} {es:List PV} {s:St}:(appOf e false (.sz e' es)).run s=apel (some (e',es)) e s:=vlt (by simp) (.inl rfl)
theorem qoe {e:Nat} {es:List PV} {s:St}:(appOf e true (.sz e es)).run s=some ((es.map PV.fzc,true),s):=by
 simp [appOf,elems,M.bind,M.run,cpyOf]
theorem qlw {e i j k:Nat} {mv:Bool} {s:St}:(appOf e mv (.sb i j k)).run s=apel (elemsB (va2 s.nodes i) j k) e s:=vlt (by simp) (.inr (by simp))
theorem ql6 {e i j:Nat} {p:List (Nat×Nat×Nat)} {mv:Bool} {s:St}:(appOf e mv (.ri i j p)).run s=apel (elemsI (va2 s.nodes i) j p) e s:=vlt (by simp) (.inr (by simp))
attribute [go_sem] qj5 qmg qlo qoe qlw ql6
def app2 (b e by_:Nat) (xs:List PV×Bool) (o:Option ((List PV×Bool)×St)):Option (TV×St):=
 match o with
 |some (ys,s)=>if capOk (xs.1.length+ys.1.length) by_=true then some (.rf b,⟨s.slots,(b,some (.sl (xs.2||ys.2) 0 e (xs.1++ys.1)))::s.nodes,s.next⟩) else none
 |none=>none
def app1 (b e by_:Nat) (mv:Bool) (y:TV) (o:Option ((List PV×Bool)×St)):Option (TV×St):=
 match o with
 |some (xs,s)=>app2 b e by_ xs ((appOf e mv y).run s)
 |none=>none
theorem qjf {b e by_:Nat} {mv:Bool} {y:TV} {xs:List PV×Bool} {s:St}:app1 b e by_ mv y (some (xs,s))=app2 b e by_ xs ((appOf e mv y).run s):=rfl
theorem qp2 {b e by_:Nat} {q q':Bool} {xs ys:List PV} {s:St} (h1:xs.length+ys.length≤9223372036854775807) (h2:(xs.length+ys.length) * by_≤140737488355328):app2 b e by_ (xs,q) (some ((ys,q'),s))=
  some (.rf b,⟨s.slots,(b,some (.sl (q||q') 0 e (xs++ys)))::s.nodes,s.next⟩):=by simp [app2,capOk,h1,h2]
theorem qf8 {b e by_:Nat} {mv:Bool} {x y:TV} {s:St}:(appendM b e by_ mv x y).run s=app1 b e by_ mv y ((appTo b e x).run s):=by
 simp only [appendM,vah,app1];cases (appTo b e x).run s with
 |none=>rfl
 |some p=>
  obtain ⟨xs,s1⟩:=p;simp only [app2];cases (appOf e mv y).run s1 with
  |none=>rfl
  |some p2=>
   obtain ⟨ys,s2⟩:=p2;simp only;split
   ·simp only [vah];rfl
   ·rfl
theorem qux {v:Value}:(PV.a v).cpy= .a v:=rfl
theorem qlx:List.map PV.cpy []= []:=rfl
theorem vm2:maxLen=9223372036854775807:=rfl
theorem qn4:depth=40:=rfl
attribute [go_sem] qjf qp2 qf8 qux qlx qn4
attribute [go_sem] vc7
section
variable {z fz q:Bool} {k n b V:Nat}
theorem qhy {v:Value}:vat z (k+1) n (.a v)= .pure (.a v):=rfl
theorem qey {e:Nat}:vat z (k+1) n (.nl e)= .pure (.sl true e []):=rfl
theorem qez {e:Nat} {es:List PV}:vat z (k+1) n (.sz e es)= .pure (.sl true e es):=rfl
theorem qd9 {cs:List TV}:vat z (k+1) n (.st cs)=(va3 z k cs).bind fun cs'=> .pure (.st cs'):=rfl
theorem qss {f:Nat} {fs cs:List TV}:vat z (k+1) n (.fn f fs cs)=(va3 z k fs).bind fun fs'=>(va3 z k cs).bind fun cs'=> .pure (.fn f fs' cs'):=rfl
theorem qts {t:Nat} {v:TV}:vat z (k+1) n (.ic t v)=(vat z k n v).bind fun v'=> .pure (.ic t v'):=rfl
theorem qfl:vat z (k+1) n .un= .pure .un:=rfl
theorem qd8 {id:Nat}:vat false (k+1) n (.rf id)=(getN id).bind fun m=>match m with
   |some (.sl q _ e es)=> .pure (.sl true e (if q then es.map PV.thaw else es))
   |some (.bx _ cs)=>(va3 false k cs).bind fun cs'=> .pure (.bx true cs')
   |none=> .fail:=by
 unfold vat;congr 1
theorem qej {id lo j:Nat}:vat false (k+1) n (.sb id lo j)=(getN id).bind fun m=>match m with
   |some (.sl q _ e es)=> .pure (.sl true e (if q then ((es.drop lo).take j).map PV.thaw else (es.drop lo).take j))
   |_=> .fail:=rfl
theorem qff {id ver:Nat} {p:List (Nat×Nat×Nat)}:vat false (k+1) n (.ri id ver p)=(getN id).bind fun m=>match m with
   |some (.sl q ver' _ es)=>if ver'=ver then match dget es p with
    |some (e,es')=> .pure (.sl true e (if q then es'.map PV.thaw else es'))
    |none=> .fail else .fail
   |_=> .fail:=rfl
theorem qfc {id o:Nat}:vat false (k+1) n (.ad id o)=(getN id).bind fun m=>match m with
   |some (.bx _ cs)=>if 0<n∧o+n≤cs.length then (va3 false k ((cs.drop o).take n)).bind fun cs'=> .pure (.bx true cs') else .fail
   |_=> .fail:=rfl
theorem qak:va3 z (k+1) []= .pure []:=rfl
theorem vye {x:TV} {xs:List TV}:va3 z (k+1) (x::xs)=(vat z k 0 x).bind fun y=>(va3 z k xs).bind fun ys=> .pure (y::ys):=rfl
theorem qlt {v:Value}:pack fz (k+1) (.a v)= .pure (.a v):=rfl
theorem qhd {e:Nat}:pack fz (k+1) (.nl e)= .pure (.sl false e []):=rfl
theorem qge {e:Nat} {es:List PV}:pack true (k+1) (.sz e es)= .pure (.sl true e es):=rfl
theorem qgj {cs:List TV}:pack fz (k+1) (.st cs)=(vbm fz k cs).bind fun cs'=> .pure (.st cs'):=rfl
theorem qum {f:Nat} {fs cs:List TV}:pack fz (k+1) (.fn f fs cs)=(vbm fz k fs).bind fun fs'=>(vbm fz k cs).bind fun cs'=> .pure (.fn f fs' cs'):=rfl
theorem qug {t:Nat} {v:TV}:pack fz (k+1) (.ic t v)=(pack fz k v).bind fun v'=> .pure (.ic t v'):=rfl
theorem qhh {id:Nat}:pack fz (k+1) (.rf id)=(getN id).bind fun m=>match m with
   |some (.sl q _ e es)=>if badFz q fz es then .fail else (setN id none).bind fun _=> .pure (.sl false e es)
   |some (.bx z cs)=>if z then .fail else (setN id none).bind fun _=>(vbm fz k cs).bind fun cs'=> .pure (.bx false cs')
   |none=> .pure .un:=rfl
theorem qgf:pack fz (k+1) .un= .pure .un:=rfl
theorem qh5 {id lo n:Nat}:pack fz (k+1) (.sb id lo n)=(getN id).bind fun m=>match m with
 |some (.sl q _ e es)=>if (q&& !fz)=true∨es.length<lo+n then .fail else (setN id none).bind fun _=> .pure (.sl false e ((es.drop lo).take n))
 |_=> .fail:=rfl
theorem qcg:vbm fz (k+1) []= .pure []:=rfl
theorem qav {x:TV} {xs:List TV}:vbm fz (k+1) (x::xs)=(pack fz k x).bind fun y=>(vbm fz k xs).bind fun ys=> .pure (y::ys):=rfl
theorem qf9 {v:Value}:vai q b (.a v)= .pure (.a v,b):=rfl
theorem qgp {e:Nat} {es:List PV}:vai q b (.sl true e es)= .pure (.sz e es,b):=rfl
theorem qgb {e:Nat} {es:List PV}:vai q b (.sl false e es)=(setN b (some (.sl q 0 e es))).bind fun _=> .pure (.rf b,b+1):=rfl
theorem qfn {cs:List CV}:vai q b (.bx z cs)=(vav q (b+1) cs).bind fun r=>(setN b (some (.bx z r.1))).bind fun _=> .pure (.rf b,r.2):=rfl
theorem qd1 {cs:List CV}:vai q b (.st cs)=(vav q b cs).bind fun r=> .pure (.st r.1,r.2):=rfl
theorem qdu {cs:List CV}:vai q b (.tp cs)=(vav q b cs).bind fun r=> .pure (.tp r.1,r.2):=rfl
theorem qr7 {f:Nat} {fs cs:List CV}:vai q b (.fn f fs cs)=(vav q b fs).bind fun p=>(vav q p.2 cs).bind fun r=> .pure (.fn f p.1 r.1,r.2):=rfl
theorem qru {t:Nat} {v:CV}:vai q b (.ic t v)=(vai q b v).bind fun r=> .pure (.ic t r.1,r.2):=rfl
theorem qd7:vai q b .un= .pure (.un,b):=rfl
theorem qem {id e0 e:Nat} {es0 es:List PV}:vad q V b (.rf id) (.sl false e0 es0) (.sl false e es)=(getN id).bind fun m=>if m.isNone∧e0=e then (setN id (some (.sl q V e es))).bind fun _=> .pure b else .fail:=rfl
theorem qdx {id:Nat} {cs0 cs:List CV}:vad q V b (.rf id) (.bx false cs0) (.bx false cs)=(getN id).bind fun m=>if m.isNone then (vav q b cs).bind fun r=>(setN id (some (.bx false r.1))).bind fun _=> .pure r.2 else .fail:=rfl
theorem qt1 {f f0 f1:Nat} {fs cs:List TV} {fs0 cs0 fs1 cs1:List CV}:vad q V b (.fn f fs cs) (.fn f0 fs0 cs0) (.fn f1 fs1 cs1)=(vaz q V b fs fs0 fs1).bind fun b'=>vaz q V b' cs cs0 cs1:=rfl
theorem qfj {cs:List TV} {cs0 cs1:List CV}:vad q V b (.st cs) (.st cs0) (.st cs1)=vaz q V b cs cs0 cs1:=rfl
theorem qty {t t0 t1:Nat} {x:TV} {x0 x1:CV}:vad q V b (.ic t x) (.ic t0 x0) (.ic t1 x1)=vad q V b x x0 x1:=rfl
theorem qgw {v:Value} {c0 c:CV}:vad q V b (.a v) c0 c= .pure b:=by simp only [vad]
theorem qe1 {e:Nat} {c0 c:CV}:vad q V b (.nl e) c0 c= .pure b:=by simp only [vad]
theorem qd2 {e:Nat} {es:List PV} {c0 c:CV}:vad q V b (.sz e es) c0 c= .pure b:=by simp only [vad]
theorem qen {c0 c:CV}:vad q V b .un c0 c= .pure b:=by simp only [vad]
theorem qh3 {v:Value}:lend0 q (.a v)=pack q depth (.a v):=rfl
theorem qd4 {e:Nat}:lend0 q (.nl e)=pack q depth (.nl e):=rfl
theorem qfe {id:Nat}:lend0 q (.rf id)=pack q depth (.rf id):=rfl
theorem qfd {id ver:Nat} {p:List (Nat×Nat×Nat)}:lend0 q (.ri id ver p)= .pure .un:=rfl
theorem qfi {e:Nat} {es:List PV}:lend0 q (.sz e es)=pack q depth (.sz e es):=rfl
theorem qea {cs:List TV}:lend0 q (.st cs)=pack q depth (.st cs):=rfl
theorem qtj {f:Nat} {fs cs:List TV}:lend0 q (.fn f fs cs)=pack q depth (.fn f fs cs):=rfl
theorem qr9 {t:Nat} {v:TV}:lend0 q (.ic t v)=pack q depth (.ic t v):=rfl
theorem qe0:lend0 q .un=pack q depth .un:=rfl
theorem qhf {v:Value} {y:CV}:lend1 q V (.a v) y= .pure y:=rfl
theorem qe7 {e:Nat} {y:CV}:lend1 q V (.nl e) y= .pure y:=rfl
theorem qdt {id:Nat} {y:CV}:lend1 q V (.rf id) y= .pure y:=rfl
theorem qex {e:Nat} {es:List PV} {y:CV}:lend1 q V (.sz e es) y= .pure y:=rfl
theorem qe2 {cs:List TV} {y:CV}:lend1 q V (.st cs) y= .pure y:=rfl
theorem qtd {f:Nat} {fs cs:List TV} {y:CV}:lend1 q V (.fn f fs cs) y= .pure y:=rfl
theorem qsm {t:Nat} {v:TV} {y:CV}:lend1 q V (.ic t v) y= .pure y:=rfl
theorem qe4 {y:CV}:lend1 q V .un y= .pure y:=rfl
def carveK (id V e:Nat) (q:Bool) (r:Option (Nat×List PV)) (es1:Option (List PV)):M CV:=
 match r,es1 with
 |some r,some es1=>(setN id (some (.sl q V e es1))).bind fun _=> .pure (.sl false r.1 r.2)
 |_,_=> .fail
theorem qay {id e e':Nat} {es' es1:List PV}:carveK id V e q (some (e',es')) (some es1)=(setN id (some (.sl q V e es1))).bind fun _=> .pure (.sl false e' es'):=rfl
def ld1B (keeps:Bool) (V id ver:Nat) (p:List (Nat×Nat×Nat)):Option Node→M CV
 |some (.sl q ver' e es)=>if (q&& !keeps)=true∨ver'≠ver then .fail else carveK id V e q (dget es p) (dput es p .un)
 |_=> .fail
theorem qe3 {keeps:Bool} {id ver e:Nat} {p:List (Nat×Nat×Nat)} {es:List PV}:ld1B keeps V id ver p (some (.sl false ver e es))=carveK id V e false (dget es p) (dput es p .un):=by simp [ld1B]
theorem qdy {id ver e:Nat} {p:List (Nat×Nat×Nat)} {es:List PV}:ld1B true V id ver p (some (.sl q ver e es))=carveK id V e q (dget es p) (dput es p .un):=by simp [ld1B]
theorem qef {id ver:Nat} {p:List (Nat×Nat×Nat)} {y:CV}:lend1 q V (.ri id ver p) y=(getN id).bind (ld1B q V id ver p):=by
 simp only [lend1];congr 1
theorem qny {v:Value} {c f:CV}:back1 q V b (.a v) c f=vad q V b (.a v) c f:=rfl
theorem qhr {e:Nat} {c f:CV}:back1 q V b (.nl e) c f=vad q V b (.nl e) c f:=rfl
theorem qhl {id:Nat} {c f:CV}:back1 q V b (.rf id) c f=vad q V b (.rf id) c f:=rfl
theorem qgl {e:Nat} {es:List PV} {c f:CV}:back1 q V b (.sz e es) c f=vad q V b (.sz e es) c f:=rfl
theorem qgx {cs:List TV} {c f:CV}:back1 q V b (.st cs) c f=vad q V b (.st cs) c f:=rfl
theorem quv {g:Nat} {fs cs:List TV} {c f:CV}:back1 q V b (.fn g fs cs) c f=vad q V b (.fn g fs cs) c f:=rfl
theorem quc {t:Nat} {v:TV} {c f:CV}:back1 q V b (.ic t v) c f=vad q V b (.ic t v) c f:=rfl
theorem qgy {c f:CV}:back1 q V b .un c f=vad q V b .un c f:=rfl
def fillK (id ver e b:Nat) (q:Bool) (c:Option PV) (es1:Option (List PV)):M Nat:=
 match c,es1 with
 |some .un,some es1=>(setN id (some (.sl q ver e es1))).bind fun _=> .pure b
 |_,_=> .fail
theorem qcw {id ver e:Nat} {es1:List PV}:fillK id ver e b q (some .un) (some es1)=(setN id (some (.sl q ver e es1))).bind fun _=> .pure b:=rfl
def bkB (q:Bool) (b id:Nat) (p:List (Nat×Nat×Nat)) (e':Nat) (es':List PV):Option Node→M Nat
 |some (.sl q0 ver e es)=>fillK id ver e b (q0||q) (dat es p) (dput es p (.sl e' es'))
 |_=> .fail
theorem qd0 {q0:Bool} {id ver e e':Nat} {p:List (Nat×Nat×Nat)} {es es':List PV}:bkB q b id p e' es' (some (.sl q0 ver e es))=fillK id ver e b (q0||q) (dat es p) (dput es p (.sl e' es')):=rfl
theorem qgt {id ver e':Nat} {p:List (Nat×Nat×Nat)} {es':List PV} {c:CV}:back1 q V b (.ri id ver p) c (.sl false e' es')=(getN id).bind (bkB q b id p e' es'):=by
 simp only [back1];congr 1
def dgC:Option PV→Option (Nat×List PV)
 |some (.sl e es)=>some (e,es)
 |_=>none
def dgK (m o:Nat):Option PV→Option (Nat×List PV)
 |some x=>if x.cells.length=m then dgC x.cells[o]? else none
 |none=>none
def dgN (p:List (Nat×Nat×Nat)):Option (Nat×List PV)→Option (Nat×List PV)
 |some (_,es)=>dget es p
 |none=>none
theorem qr1 {e:Nat} {es:List PV}:dgC (some (.sl e es))=some (e,es):=rfl
theorem qmx {m o:Nat} {x:PV} (h:x.cells.length=m):dgK m o (some x)=dgC x.cells[o]? :=by simp [dgK,h]
theorem qlk {p:List (Nat×Nat×Nat)} {e:Nat} {es:List PV}:dgN p (some (e,es))=dget es p:=rfl
theorem qsr {es:List PV} {i m o:Nat}:dget es [(i,m,o)]=dgK m o es[i]? :=by
 simp only [dget];cases es[i]? with
 |none=>rfl
 |some x=>
  simp only [dgK];split
  ·cases x.cells[o]? with
   |none=>rfl
   |some c=>cases c<;>rfl
  ·rfl
theorem qrr {es:List PV} {i m o:Nat} {q:Nat×Nat×Nat} {p:List (Nat×Nat×Nat)}:dget es ((i,m,o)::q::p)=dgN (q::p) (dgK m o es[i]?):=by
 rw [dget];cases es[i]? with
 |none=>rfl
 |some x=>
  simp only [dgK];split
  ·cases x.cells[o]? with
   |none=>rfl
   |some c=>cases c<;>rfl
  ·rfl
attribute [go_sem] qr1 qmx qlk qsr qrr
def dpK (es:List PV) (i m o:Nat) (c:PV):Option PV→Option (List PV)
 |some x=>if x.cells.length=m∧o<m then some (es.set i (va6 x o [c])) else none
 |none=>none
theorem ql9 {es:List PV} {i m o:Nat} {c x:PV} (h:x.cells.length=m) (ho:o<m):dpK es i m o c (some x)=some (es.set i (va6 x o [c])):=by simp [dpK,h,ho]
theorem qs9 {es:List PV} {i m o:Nat} {c:PV}:dput es [(i,m,o)] c=dpK es i m o c es[i]? :=by
 simp only [dput];cases es[i]? with
 |none=>rfl
 |some x=>
  simp only [dpK];by_cases h:x.cells.length=m
  ·rw [if_pos h];by_cases ho:o<m
   ·rw [Ag (h▸ho),if_pos ⟨h,ho⟩]
   ·rw [List.getElem?_eq_none zo,if_neg (fun x=>ho x.2)]
  ·rw [if_neg h,if_neg (fun x=>h x.1)]
attribute [go_sem] ql9 qs9
def daK (m o:Nat):Option PV→Option PV
 |some x=>if x.cells.length=m then x.cells[o]? else none
 |none=>none
theorem qms {m o:Nat} {x:PV} (h:x.cells.length=m):daK m o (some x)=x.cells[o]? :=by simp [daK,h]
theorem qu0 {es:List PV} {i m o:Nat}:dat es [(i,m,o)]=daK m o es[i]? :=by
 simp only [dat];cases es[i]? with
 |none=>rfl
 |some x=>
  simp only [daK];split
  ·cases x.cells[o]? <;>rfl
  ·rfl
attribute [go_sem] qms qu0
end
end
end Go.Proofs.YtpnnhokaehghfaaDoor.VM.Sy
namespace Go.Proofs.YtpnnhokaehghfaaDoor.VM.Sy
open Go
section
variable {Φ:Nat→Option Callee} {N:Nat} {r:List It} {sl:vbx} {nd:vcj} {nx:Nat}
variable {z fz q:Bool} {k n b V:Nat}
theorem qk6 {b d e by_:Nat} {zs:List ZC} {n:Int} (h0:0≤n) (h1:n * by_≤140737488355328) (h2:n≤9223372036854775807) {s:St}:M.run (mksM b d e by_ zs (.a (.int .i64 n))) s=M.run ((setN b (some (.sl false 0 e (Ab n.toNat (zeroEl zs.length zs))))).bind fun _=>setS d (.rf b)) s:=by rw [qec h0 h1 h2]<;>rfl
theorem qik {flat q:Bool} {m:Nat} {es:List PV} {s:St}:M.run (bslM flat m [] q es) s=M.run (.pure (es,q)) s:=by rw [qdf]<;>rfl
theorem qhc {flat q:Bool} {m i:Nat} {x:Opd} {ps:List (Nat×Opd)} {es:List PV} {s:St}:M.run (bslM flat m ((i,x)::ps) q es) s=M.run ((opd x).bind fun v=>(toEl flat v).bind fun y=>bslK flat q m i y ps es) s:=by rw [qaa]<;>rfl
theorem ql4 {flat q:Bool} {m i:Nat} {y:PV×Bool} {ps:List (Nat×Opd)} {es:List PV} (h1:y.1.cells.length=m) (h2:i<es.length) {s:St}:M.run (bslK flat q m i y ps es) s=M.run (bslM flat m ps (q||y.2) (es.set i y.1)) s:=by rw [qei h1 h2]<;>rfl
theorem qj7 {d:Nat} {v:TV} {z:Bool} {cs:List TV} {s:St}:M.run (nilB d v (some (.bx z cs))) s=M.run (setS d v) s:=by rw [qb8]<;>rfl
theorem qib {d:Nat} {v:TV} {q:Bool} {ver e:Nat} {es:List PV} {s:St}:M.run (nilE d v (some (.sl q ver e es))) s=M.run (setS d v) s:=by rw [qdm]<;>rfl
theorem qm7 {d id:Nat} {s:St}:M.run (nilM d (.rf id)) s=M.run ((getN id).bind (nilB d (.rf id))) s:=by rw [qeh]<;>rfl
theorem qn3 {d id o:Nat} {s:St}:M.run (nilM d (.ad id o)) s=M.run (setS d (.ad id o)) s:=by rw [qfa]<;>rfl
theorem qm8 {d id i m o:Nat} {s:St}:M.run (nilM d (.ea id i m o)) s=M.run ((getN id).bind (nilE d (.ea id i m o))) s:=by rw [qd3]<;>rfl
theorem qmr {d o:Nat} {cs:List PV} {s:St}:M.run (nilM d (.ez cs o)) s=M.run (setS d (.ez cs o)) s:=by rw [qeb]<;>rfl
theorem qi3 {top b:Nat} {rs:List CV} (h:b≤top) {s:St}:M.run (resS top b rs) s=M.run ((liftO (plainL rs)).bind fun ts=>M.pure (oneOf ts)) s:=by rw [qc7 h]<;>rfl
theorem qkm {top:Nat} {r:List TV×Nat} (h:r.2≤top) {s:St}:M.run (resT top r) s=M.run (.pure (oneOf r.1)) s:=by rw [qcr h]<;>rfl
theorem qdr {q:Bool} {top b:Nat} {rs:List CV} {s:St}:M.run (vcc q top b rs) s=M.run ((vav q b rs).bind (resT top)) s:=by rw [vu2]<;>rfl
theorem qf2 {d:Nat} {v:TV} {s:St}:M.run (putO (some d) v) s=M.run (setS d v) s:=by rw [vza]<;>rfl
theorem qf1 {v:TV} {s:St}:M.run (putO none v) s=M.run (.pure ()) s:=by rw [vyh]<;>rfl
theorem qfq {x:PV} {q:Bool} {ver e:Nat} {es:List PV} {ys:List PV×Bool} {b w id i o:Nat} (h1:ys.1.length=w) (h2:o+w≤x.cells.length) {s:St}:M.run (stoX (some x) q ver e es ys b w id i o) s=M.run (setN id (some (.sl (q||ys.2) (if vco ys.1 x o w then ver else b+1) e (es.set i (va6 x o ys.1))))) s:=by rw [vzz h1 h2]<;>rfl
theorem qis {q:Bool} {ver e:Nat} {es:List PV} {ys:List PV×Bool} {b w id i o:Nat} {s:St}:M.run (stoE (some (.sl q ver e es)) ys b w id i o) s=M.run (stoX es[i]? q ver e es ys b w id i o) s:=by rw [qc4]<;>rfl
theorem ql7 {b w id i m o:Nat} {y:TV} {s:St}:M.run (storeAt b w (.ea id i m o) y) s=M.run ((toPVs y.cells).bind fun ys=>(getN id).bind fun n=>stoE n ys b w id i o) s:=by rw [qee]<;>rfl
theorem qf0 {s:St}:M.run (toPVs []) s=M.run (.pure ([],false)) s:=by rw [vyn]<;>rfl
theorem qeo {x:TV} {xs:List TV} {s:St}:M.run (toPVs (x::xs)) s=M.run ((toPV x).bind fun y=>(toPVs xs).bind fun ys=> .pure (y.1::ys.1,y.2||ys.2)) s:=by rw [vwy]<;>rfl
theorem qkq {v:Value} (h:one1 v=true) {s:St}:M.run (toPV (.a v)) s=M.run (.pure (.a v,false)) s:=by rw [qeu h]<;>rfl
theorem qiy {e:Nat} {s:St}:M.run (toPV (.nl e)) s=M.run (.pure (.sl e [],false)) s:=by rw [qcp]<;>rfl
theorem qi5 {e:Nat} {es:List PV} {s:St}:M.run (toPV (.sz e es)) s=M.run (.pure (.fz e es,true)) s:=by rw [qcb]<;>rfl
theorem qg5 {v:Value} (h:one1 v=true) {s:St}:M.run (toEl true (.a v)) s=M.run (.pure (.a v,false)) s:=by rw [vz6 h]<;>rfl
theorem qfy {cs:List TV} {s:St}:M.run (toEl true (.st cs)) s=M.run ((liftO (vck cs)).bind fun ys=> .pure (.st ys,false)) s:=by rw [vzt]<;>rfl
theorem qf6 {cs:List TV} {s:St}:M.run (toEl false (.st cs)) s=M.run ((toPVs cs).bind fun ys=> .pure (.st ys.1,ys.2)) s:=by rw [vx1]<;>rfl
theorem qhu {v:Value} {s:St}:M.run (toEl false (.a v)) s=M.run (toPV (.a v)) s:=by rw [qa9]<;>rfl
theorem qfv {e:Nat} {s:St}:M.run (toEl false (.nl e)) s=M.run (toPV (.nl e)) s:=by rw [vy8]<;>rfl
theorem qfw {i:Nat} {s:St}:M.run (toEl false (.rf i)) s=M.run (toPV (.rf i)) s:=by rw [vy3]<;>rfl
theorem qfp {e:Nat} {es:List PV} {s:St}:M.run (toEl false (.sz e es)) s=M.run (toPV (.sz e es)) s:=by rw [vya]<;>rfl
theorem qqu {v:Value} {s:St}:M.run (vat z (k+1) n (.a v)) s=M.run (.pure (.a v)) s:=by rw [qhy]<;>rfl
theorem qnh {e:Nat} {s:St}:M.run (vat z (k+1) n (.nl e)) s=M.run (.pure (.sl true e [])) s:=by rw [qey]<;>rfl
theorem qlz {e:Nat} {es:List PV} {s:St}:M.run (vat z (k+1) n (.sz e es)) s=M.run (.pure (.sl true e es)) s:=by rw [qez]<;>rfl
theorem qlv {cs:List TV} {s:St}:M.run (vat z (k+1) n (.st cs)) s=M.run ((va3 z k cs).bind fun cs'=> .pure (.st cs')) s:=by rw [qd9]<;>rfl
theorem qk3 {s:St}:M.run (vat z (k+1) n .un) s=M.run (.pure .un) s:=by rw [qfl]<;>rfl
theorem qg1 {s:St}:M.run (va3 z (k+1) []) s=M.run (.pure []) s:=by rw [qak]<;>rfl
theorem qf3 {x:TV} {xs:List TV} {s:St}:M.run (va3 z (k+1) (x::xs)) s=M.run ((vat z k 0 x).bind fun y=>(va3 z k xs).bind fun ys=> .pure (y::ys)) s:=by rw [vye]<;>rfl
theorem qsa {v:Value} {s:St}:M.run (pack fz (k+1) (.a v)) s=M.run (.pure (.a v)) s:=by rw [qlt]<;>rfl
theorem qp4 {e:Nat} {s:St}:M.run (pack fz (k+1) (.nl e)) s=M.run (.pure (.sl false e [])) s:=by rw [qhd]<;>rfl
theorem qq9 {e:Nat} {es:List PV} {s:St}:M.run (pack true (k+1) (.sz e es)) s=M.run (.pure (.sl true e es)) s:=by rw [qge]<;>rfl
theorem qoq {cs:List TV} {s:St}:M.run (pack fz (k+1) (.st cs)) s=M.run ((vbm fz k cs).bind fun cs'=> .pure (.st cs')) s:=by rw [qgj]<;>rfl
theorem qo4 {s:St}:M.run (pack fz (k+1) .un) s=M.run (.pure .un) s:=by rw [qgf]<;>rfl
theorem qi2 {s:St}:M.run (vbm fz (k+1) []) s=M.run (.pure []) s:=by rw [qcg]<;>rfl
theorem qgk {x:TV} {xs:List TV} {s:St}:M.run (vbm fz (k+1) (x::xs)) s=M.run ((pack fz k x).bind fun y=>(vbm fz k xs).bind fun ys=> .pure (y::ys)) s:=by rw [qav]<;>rfl
theorem qo1 {v:Value} {s:St}:M.run (vai q b (.a v)) s=M.run (.pure (.a v,b)) s:=by rw [qf9]<;>rfl
theorem qq5 {e:Nat} {es:List PV} {s:St}:M.run (vai q b (.sl true e es)) s=M.run (.pure (.sz e es,b)) s:=by rw [qgp]<;>rfl
theorem qou {e:Nat} {es:List PV} {s:St}:M.run (vai q b (.sl false e es)) s=M.run ((setN b (some (.sl q 0 e es))).bind fun _=> .pure (.rf b,b+1)) s:=by rw [qgb]<;>rfl
theorem qm6 {cs:List CV} {s:St}:M.run (vai q b (.bx z cs)) s=M.run ((vav q (b+1) cs).bind fun r=>(setN b (some (.bx z r.1))).bind fun _=> .pure (.rf b,r.2)) s:=by rw [qfn]<;>rfl
theorem qns {cs:List CV} {s:St}:M.run (vai q b (.st cs)) s=M.run ((vav q b cs).bind fun r=> .pure (.st r.1,r.2)) s:=by rw [qd1]<;>rfl
theorem qnr {cs:List CV} {s:St}:M.run (vai q b (.tp cs)) s=M.run ((vav q b cs).bind fun r=> .pure (.tp r.1,r.2)) s:=by rw [qdu]<;>rfl
theorem qkw {s:St}:M.run (vai q b .un) s=M.run (.pure (.un,b)) s:=by rw [qd7]<;>rfl
theorem qna {id e0 e:Nat} {es0 es:List PV} {s:St}:M.run (vad q V b (.rf id) (.sl false e0 es0) (.sl false e es)) s=M.run ((getN id).bind fun m=>if m.isNone∧e0=e then (setN id (some (.sl q V e es))).bind fun _=> .pure b else .fail) s:=by rw [qem]<;>rfl
theorem qlh {id:Nat} {cs0 cs:List CV} {s:St}:M.run (vad q V b (.rf id) (.bx false cs0) (.bx false cs)) s=M.run ((getN id).bind fun m=>if m.isNone then (vav q b cs).bind fun r=>(setN id (some (.bx false r.1))).bind fun _=> .pure r.2 else .fail) s:=by rw [qdx]<;>rfl
theorem qmc {cs:List TV} {cs0 cs1:List CV} {s:St}:M.run (vad q V b (.st cs) (.st cs0) (.st cs1)) s=M.run (vaz q V b cs cs0 cs1) s:=by rw [qfj]<;>rfl
theorem qqn {v:Value} {c0 c:CV} {s:St}:M.run (vad q V b (.a v) c0 c) s=M.run (.pure b) s:=by rw [qgw]<;>rfl
theorem qn2 {e:Nat} {c0 c:CV} {s:St}:M.run (vad q V b (.nl e) c0 c) s=M.run (.pure b) s:=by rw [qe1]<;>rfl
theorem qni {e:Nat} {es:List PV} {c0 c:CV} {s:St}:M.run (vad q V b (.sz e es) c0 c) s=M.run (.pure b) s:=by rw [qd2]<;>rfl
theorem qk8 {c0 c:CV} {s:St}:M.run (vad q V b .un c0 c) s=M.run (.pure b) s:=by rw [qen]<;>rfl
theorem qpz {v:Value} {s:St}:M.run (lend0 q (.a v)) s=M.run (pack q 40 (.a v)) s:=by rw [qh3]<;>rfl
theorem qmi {e:Nat} {s:St}:M.run (lend0 q (.nl e)) s=M.run (pack q 40 (.nl e)) s:=by rw [qd4]<;>rfl
theorem qlf {id:Nat} {s:St}:M.run (lend0 q (.rf id)) s=M.run (pack q 40 (.rf id)) s:=by rw [qfe]<;>rfl
theorem qk1 {id ver:Nat} {p:List (Nat×Nat×Nat)} {s:St}:M.run (lend0 q (.ri id ver p)) s=M.run (.pure .un) s:=by rw [qfd]<;>rfl
theorem qln {e:Nat} {es:List PV} {s:St}:M.run (lend0 q (.sz e es)) s=M.run (pack q 40 (.sz e es)) s:=by rw [qfi]<;>rfl
theorem qls {cs:List TV} {s:St}:M.run (lend0 q (.st cs)) s=M.run (pack q 40 (.st cs)) s:=by rw [qea]<;>rfl
theorem qk7 {s:St}:M.run (lend0 q .un) s=M.run (pack q 40 .un) s:=by rw [qe0]<;>rfl
theorem qpy {v:Value} {y:CV} {s:St}:M.run (lend1 q V (.a v) y) s=M.run (.pure y) s:=by rw [qhf]<;>rfl
theorem qkn {e:Nat} {y:CV} {s:St}:M.run (lend1 q V (.nl e) y) s=M.run (.pure y) s:=by rw [qe7]<;>rfl
theorem qlb {id:Nat} {y:CV} {s:St}:M.run (lend1 q V (.rf id) y) s=M.run (.pure y) s:=by rw [qdt]<;>rfl
theorem qlc {e:Nat} {es:List PV} {y:CV} {s:St}:M.run (lend1 q V (.sz e es) y) s=M.run (.pure y) s:=by rw [qex]<;>rfl
theorem qko {cs:List TV} {y:CV} {s:St}:M.run (lend1 q V (.st cs) y) s=M.run (.pure y) s:=by rw [qe2]<;>rfl
theorem ql3 {y:CV} {s:St}:M.run (lend1 q V .un y) s=M.run (.pure y) s:=by rw [qe4]<;>rfl
theorem qgn {id e e':Nat} {es' es1:List PV} {s:St}:M.run (carveK id V e q (some (e',es')) (some es1)) s=M.run ((setN id (some (.sl q V e es1))).bind fun _=> .pure (.sl false e' es')) s:=by rw [qay]<;>rfl
theorem qno {keeps:Bool} {id ver e:Nat} {p:List (Nat×Nat×Nat)} {es:List PV} {s:St}:M.run (ld1B keeps V id ver p (some (.sl false ver e es))) s=M.run (carveK id V e false (dget es p) (dput es p .un)) s:=by rw [qe3]<;>rfl
theorem qly {id ver e:Nat} {p:List (Nat×Nat×Nat)} {es:List PV} {s:St}:M.run (ld1B true V id ver p (some (.sl q ver e es))) s=M.run (carveK id V e q (dget es p) (dput es p .un)) s:=by rw [qdy]<;>rfl
theorem qll {id ver:Nat} {p:List (Nat×Nat×Nat)} {y:CV} {s:St}:M.run (lend1 q V (.ri id ver p) y) s=M.run ((getN id).bind (ld1B q V id ver p)) s:=by rw [qef]<;>rfl
theorem qtt {v:Value} {c f:CV} {s:St}:M.run (back1 q V b (.a v) c f) s=M.run (vad q V b (.a v) c f) s:=by rw [qny]<;>rfl
theorem qp7 {e:Nat} {c f:CV} {s:St}:M.run (back1 q V b (.nl e) c f) s=M.run (vad q V b (.nl e) c f) s:=by rw [qhr]<;>rfl
theorem qo0 {id:Nat} {c f:CV} {s:St}:M.run (back1 q V b (.rf id) c f) s=M.run (vad q V b (.rf id) c f) s:=by rw [qhl]<;>rfl
theorem qqs {e:Nat} {es:List PV} {c f:CV} {s:St}:M.run (back1 q V b (.sz e es) c f) s=M.run (vad q V b (.sz e es) c f) s:=by rw [qgl]<;>rfl
theorem qqw {cs:List TV} {c f:CV} {s:St}:M.run (back1 q V b (.st cs) c f) s=M.run (vad q V b (.st cs) c f) s:=by rw [qgx]<;>rfl
theorem qpp {c f:CV} {s:St}:M.run (back1 q V b .un c f) s=M.run (vad q V b .un c f) s:=by rw [qgy]<;>rfl
theorem qj1 {id ver e:Nat} {es1:List PV} {s:St}:M.run (fillK id ver e b q (some .un) (some es1)) s=M.run ((setN id (some (.sl q ver e es1))).bind fun _=> .pure b) s:=by rw [qcw]<;>rfl
theorem qkx {q0:Bool} {id ver e e':Nat} {p:List (Nat×Nat×Nat)} {es es':List PV} {s:St}:M.run (bkB q b id p e' es' (some (.sl q0 ver e es))) s=M.run (fillK id ver e b (q0||q) (dat es p) (dput es p (.sl e' es'))) s:=by rw [qd0]<;>rfl
theorem qqm {id ver e':Nat} {p:List (Nat×Nat×Nat)} {es':List PV} {c:CV} {s:St}:M.run (back1 q V b (.ri id ver p) c (.sl false e' es')) s=M.run ((getN id).bind (bkB q b id p e' es')) s:=by rw [qgt]<;>rfl
attribute [go_sem ↓] qk6 qik qhc ql4 qj7 qib qm7 qn3 qm8 qmr qi3 qkm qdr qf2 qf1 qfq qis ql7 qf0 qeo qkq qiy qi5 qg5 qfy qf6 qhu qfv qfw qfp qqu qnh qlz qlv qk3 qg1 qf3 qsa qp4 qq9 qoq qo4 qi2 qgk qo1 qq5 qou qm6 qns qnr qkw qna qlh qmc qqn qn2 qni qk8 qpz qmi qlf qk1 qln qls qk7 qpy qkn qlb qlc qko ql3 qgn qno qly qll qtt qp7 qo0 qqs qqw qpp qj1 qkx qqm
end
section
variable {keeps z fz q:Bool} {k n b V j:Nat} {s:St} {ms:List Md} {xs:List TV} {x:TV} {cs fs:List CV} {c f:CV} {y:CV} {ys:List CV}
theorem qii:M.run (vav q b []) s=M.run (.pure ([],b)) s:=rfl
theorem qga {xs:List CV} {x:CV}:M.run (vav q b (x::xs)) s=M.run ((vai q b x).bind fun r=>(vav q r.2 xs).bind fun p=> .pure (r.1::p.1,p.2)) s:=rfl
theorem qjp:M.run (lend keeps [] []) s=M.run (.pure []) s:=rfl
theorem qlj:M.run (lend keeps (.ro n::ms) (x::xs)) s=M.run ((lend keeps ms xs).bind fun ys=> .pure (.un::ys)) s:=rfl
theorem qkd:M.run (lend keeps (.mut n::ms) (x::xs)) s=M.run ((lend0 keeps x).bind fun y=>(lend keeps ms xs).bind fun ys=> .pure (y::ys)) s:=rfl
theorem qtv:M.run (lendA keeps V ms xs) s=M.run ((lend keeps ms xs).bind fun ps=>va4 keeps V ms xs ps) s:=rfl
theorem qh2:M.run (va4 keeps V [] [] []) s=M.run (.pure []) s:=rfl
theorem qiu:M.run (va4 keeps V (.ro n::ms) (x::xs) (y::ys)) s=M.run ((va4 keeps V ms xs ys).bind fun ys=> .pure (y::ys)) s:=rfl
theorem qhv:M.run (va4 keeps V (.mut n::ms) (x::xs) (y::ys)) s=M.run ((lend1 keeps V x y).bind fun y=>(va4 keeps V ms xs ys).bind fun ys=> .pure (y::ys)) s:=rfl
theorem qkh:M.run (show_ keeps [] [] []) s=M.run (.pure []) s:=rfl
theorem qnz:M.run (show_ keeps (.ro n::ms) (x::xs) (y::ys)) s=M.run ((vat keeps 40 n x).bind fun y=>(show_ keeps ms xs ys).bind fun ys=> .pure (y::ys)) s:=rfl
theorem qi7:M.run (show_ keeps (.mut n::ms) (x::xs) (y::ys)) s=M.run ((show_ keeps ms xs ys).bind fun ys=> .pure (y::ys)) s:=rfl
theorem qit:M.run (vaf q V b [] [] [] []) s=M.run (.pure b) s:=rfl
theorem qmb:M.run (vaf q V b (.ro n::ms) (x::xs) (c::cs) fs) s=M.run (vaf q V b ms xs cs fs) s:=rfl
theorem qij:M.run (vaf q V b (.mut n::ms) (x::xs) (c::cs) (f::fs)) s=M.run ((back1 q V b x c f).bind fun b'=>vaf q V b' ms xs cs fs) s:=rfl
theorem qiz:M.run (resTVs []) s=M.run (.pure []) s:=rfl
theorem qpc {rs:List RV}:M.run (resTVs (.t n::rs)) s=M.run ((getS n).bind fun v=>(resTVs rs).bind fun vs=> .pure (v::vs)) s:=rfl
theorem qoi {rs:List RV} {w:Option Nat}:M.run (resTVs (.cell n w::rs)) s=M.run ((getS n).bind fun u=>(loadAt w u).bind fun v=>(resTVs rs).bind fun vs=> .pure (v::vs)) s:=rfl
theorem qiq:M.run (packAll fz []) s=M.run (.pure []) s:=rfl
theorem qhg:M.run (packAll fz (x::xs)) s=M.run ((pack fz 40 x).bind fun y=>(packAll fz xs).bind fun ys=> .pure (y::ys)) s:=rfl
theorem qja:M.run (lent j []) s=M.run (.pure []) s:=rfl
theorem qm2:M.run (lent j (.ro n::ms)) s=M.run (lent (j+1) ms) s:=rfl
theorem qkg:M.run (lent j (.mut n::ms)) s=M.run ((getS (10000+j)).bind fun v=>(lent (j+1) ms).bind fun vs=> .pure (v::vs)) s:=rfl
theorem qg7 {ys0:List CV} {y0:CV}:M.run (vaz q V b (x::xs) (y0::ys0) (y::ys)) s=M.run ((vad q V b x y0 y).bind fun b'=>vaz q V b' xs ys0 ys) s:=rfl
theorem qjh {ys0:List CV}:M.run (vaz q V b [] ys0 ys) s=M.run (.pure b) s:=by cases ys0<;>cases ys<;>rfl
theorem quq {f:Fn}:M.run (takeOut f) s=M.run ((resTVs f.results).bind fun ts=>(alsOut (isAls f.modes) ts).bind fun _=>(packAll f.keeps ts).bind fun rs=>(lent 0 f.modes).bind fun us=>(packAll f.keeps us).bind fun fs=> .pure (rs,fs)) s:=rfl
attribute [go_sem ↓] qii qga qjp qlj qkd qtv qh2 qiu qhv qkh qnz qi7 qit qmb qij qiz qpc qoi qiq qhg qja qm2 qkg qg7 qjh quq
theorem qtk:isAls (.ro n::ms)=false:=rfl
theorem qpd:isAls []=false:=rfl
theorem qrn:isAls (.mut 0::ms)=false:=rfl
theorem qs4:isAls (.mut 1::ms)=false:=rfl
theorem qth:isAls (.mut 2::ms)=false:=rfl
theorem qrs:isAls (.mut 3::ms)=false:=rfl
theorem qt0:isAls (.mut 4::ms)=false:=rfl
theorem qsk:isAls (.mut 5::ms)=false:=rfl
theorem qtw:isAls (.mut 6::ms)=false:=rfl
theorem qry:isAls (.mut 7::ms)=false:=rfl
theorem qtp:isAls (.mut 8::ms)=false:=rfl
theorem qsb:isAls (.mut 9::ms)=false:=rfl
theorem qqk:isAls (.mut 10::ms)=false:=rfl
theorem qpi:isAls (.mut 11::ms)=false:=rfl
theorem qo3:isAls (.mut 12::ms)=false:=rfl
theorem qk2:isAls (.mut 100::ms)=true:=rfl
attribute [go_sem] qtk qpd qrn qs4 qth qrs qt0 qsk qtw qry qtp qsb qqk qpi qo3 qk2
theorem qpr {ts:List TV}:M.run (alsOut false ts) s=M.run (.pure ()) s:=rfl
attribute [go_sem ↓] qpr
def aloA (id k:Nat) (cs:List TV):TV→M Unit
 | .rf j=>if j=k then setN id (some (.bx false (.un::cs))) else .fail
 |_=> .fail
theorem qtg {id k:Nat} {cs:List TV}:M.run (aloA id k cs (.rf k)) s=M.run (setN id (some (.bx false (.un::cs)))) s:=by simp [aloA]
attribute [go_sem ↓] qtg
def aloB (id:Nat):Option Node→M Unit
 |some (.bx false (.rf k::cs))=>(getS 10000).bind (aloA id k cs)
 |_=> .fail
theorem qr6 {id k:Nat} {cs:List TV}:M.run (aloB id (some (.bx false (.rf k::cs)))) s=M.run ((getS 10000).bind (aloA id k cs)) s:=rfl
theorem qoz {id:Nat}:M.run (alsOut true [.rf id]) s=M.run ((getN id).bind (aloB id)) s:=by
 unfold alsOut;rw [if_pos rfl];congr 2
attribute [go_sem ↓] qr6 qoz
def aliB (k id:Nat):Option Node→M Unit
 |some (.bx false (.un::cs))=>setN id (some (.bx false (.rf k::cs)))
 |_=> .fail
theorem qrk {id k:Nat} {cs:List TV}:M.run (aliB k id (some (.bx false (.un::cs)))) s=M.run (setN id (some (.bx false (.rf k::cs)))) s:=rfl
theorem quu {id k:Nat} {ms:List Md} {kp sc:Bool} {go:List CV→Option (List CV×List CV)} {xs:List TV}:M.run (alsIn (some ⟨.mut 100::ms,kp,sc,go⟩) (.rf k::xs) (.rf id)) s=M.run ((getN id).bind (aliB k id)) s:=by
 unfold alsIn;dsimp only;rw [if_pos (show isAls (.mut 100::ms)=true from rfl)];congr 2
theorem qt6 {ms:List Md} {kp:Bool} {go:List CV→Option (List CV×List CV)} {b:Nat} {d:Option Nat} {xs:List TV}:M.run (calaM ⟨ms,kp,false,go⟩ b d xs) s=M.run ((lendA kp (b+100) ms xs).bind fun ps=>(show_ kp ms xs ps).bind fun cs=>goM (go cs) fun rs fs=>(vaf kp (b+100) b ms xs cs fs).bind fun b'=>(vcc kp (b+99) b' rs).bind fun tv=>(alsIn2 (some ⟨ms,kp,false,go⟩) xs tv).bind fun _=>putO d tv) s:=rfl
theorem qr5 {tv:TV} {ms:List Md} {kp sc:Bool} {go:List CV→Option (List CV×List CV)} {xs:List TV}:M.run (alsIn2 (some ⟨.mut 100::ms,kp,sc,go⟩) xs tv) s=M.run (alsIn (some ⟨.mut 100::ms,kp,sc,go⟩) xs tv) s:=by
 unfold alsIn2;rw [if_pos (show alsC (some ⟨.mut 100::ms,kp,sc,go⟩)=true from rfl)]
theorem qsw {n:Nat} {tv:TV} {ms:List Md} {kp sc:Bool} {go:List CV→Option (List CV×List CV)} {xs:List TV}:M.run (alsIn2 (some ⟨.ro n::ms,kp,sc,go⟩) xs tv) s=M.run (.pure ()) s:=rfl
attribute [go_sem ↓] qrk quu qt6 qr5 qsw
def frzB (k:Nat):Option Node→M CV
 |some (.sl q _ e es)=> .pure (.sl true e (if q then es.map PV.thaw else es))
 |some (.bx _ cs)=>(va3 false k cs).bind fun cs'=> .pure (.bx true cs')
 |none=> .fail
theorem qcq {id:Nat}:vat false (k+1) n (.rf id)=(getN id).bind (frzB k):=by
 rw [qd8];congr 1
theorem qk0 {id:Nat}:M.run (vat false (k+1) n (.rf id)) s=M.run ((getN id).bind (frzB k)) s:=by rw [qcq]
theorem qio {ver e:Nat} {es:List PV}:M.run (frzB k (some (.sl q ver e es))) s=M.run (.pure (.sl true e (if q then es.map PV.thaw else es))) s:=rfl
theorem qjs {cs:List TV}:M.run (frzB k (some (.bx z cs))) s=M.run ((va3 false k cs).bind fun cs'=> .pure (.bx true cs')) s:=rfl
attribute [go_sem ↓] qk0 qio qjs
def frzBt (k:Nat):Option Node→M CV
 |some (.bx true cs)=>(va3 true k cs).bind fun cs'=> .pure (.bx true cs')
 |_=> .fail
theorem qc6 {id:Nat}:vat true (k+1) n (.rf id)=(getN id).bind (frzBt k):=by
 unfold vat;show (getN id).bind _=_;congr 1;funext m;cases m with
 |none=>rfl
 |some m=>cases m with
  |bx z cs=>cases z<;>rfl
  |sl q v e es=>rfl
theorem qi8 {id:Nat}:M.run (vat true (k+1) n (.rf id)) s=M.run ((getN id).bind (frzBt k)) s:=by rw [qc6]
theorem qgc {cs:List TV}:M.run (frzBt k (some (.bx true cs))) s=M.run ((va3 true k cs).bind fun cs'=> .pure (.bx true cs')) s:=rfl
attribute [go_sem ↓] qi8 qgc
def frzS (lo j:Nat):Option Node→M CV
 |some (.sl q _ e es)=> .pure (.sl true e (if q then ((es.drop lo).take j).map PV.thaw else (es.drop lo).take j))
 |_=> .fail
theorem qoa {id lo:Nat}:M.run (vat false (k+1) n (.sb id lo j)) s=M.run ((getN id).bind (frzS lo j)) s:=by
 rw [qej];congr 1
theorem qkl {lo ver e:Nat} {es:List PV}:M.run (frzS lo j (some (.sl q ver e es))) s=M.run (.pure (.sl true e (if q then ((es.drop lo).take j).map PV.thaw else (es.drop lo).take j))) s:=rfl
attribute [go_sem ↓] qoa qkl
def frzD (q:Bool):Option (Nat×List PV)→M CV
 |some (e,es)=> .pure (.sl true e (if q then es.map PV.thaw else es))
 |none=> .fail
def frzI (ver:Nat) (p:List (Nat×Nat×Nat)):Option Node→M CV
 |some (.sl q ver' _ es)=>if ver'=ver then frzD q (dget es p) else .fail
 |_=> .fail
theorem qme {id ver:Nat} {p:List (Nat×Nat×Nat)}:M.run (vat false (k+1) n (.ri id ver p)) s=M.run ((getN id).bind (frzI ver p)) s:=by
 rw [qff];congr 1
theorem qjx {ver ver' e:Nat} {es:List PV} {p:List (Nat×Nat×Nat)}:M.run (frzI ver p (some (.sl q ver' e es))) s=M.run (if ver'=ver then frzD q (dget es p) else .fail) s:=rfl
attribute [go_sem ↓] qme qjx
theorem qf7 {e:Nat} {es:List PV}:M.run (frzD q (some (e,es))) s=M.run (.pure (.sl true e (if q then es.map PV.thaw else es))) s:=rfl
attribute [go_sem] qf7
def frzA (k n o:Nat):Option Node→M CV
 |some (.bx _ cs)=>if 0<n∧o+n≤cs.length then (va3 false k ((cs.drop o).take n)).bind fun cs'=> .pure (.bx true cs') else .fail
 |_=> .fail
theorem qog {id o:Nat}:M.run (vat false (k+1) n (.ad id o)) s=M.run ((getN id).bind (frzA k n o)) s:=by
 rw [qfc];congr 1
theorem qke {o:Nat} {cs:List TV}:M.run (frzA k n o (some (.bx z cs))) s=M.run (if 0<n∧o+n≤cs.length then (va3 false k ((cs.drop o).take n)).bind fun cs'=> .pure (.bx true cs') else .fail) s:=rfl
attribute [go_sem ↓] qog qke
def pkC (fz:Bool) (id lo n:Nat):Option Node→M CV
 |some (.sl q _ e es)=>if (q&& !fz)=true∨es.length<lo+n then .fail else (setN id none).bind fun _=> .pure (.sl false e ((es.drop lo).take n))
 |_=> .fail
theorem qrg {id lo n:Nat}:M.run (pack fz (k+1) (.sb id lo n)) s=M.run ((getN id).bind (pkC fz id lo n)) s:=by
 rw [qh5];congr 1
theorem qq4 {id lo n ver e:Nat} {es:List PV} (h:lo+n≤es.length):M.run (pkC true id lo n (some (.sl q ver e es))) s=M.run ((setN id none).bind fun _=> .pure (.sl false e ((es.drop lo).take n))) s:=by
 unfold pkC;dsimp only;rw [if_neg (by simp;omega)]
theorem qqf {id lo n ver e:Nat} {es:List PV} (h:lo+n≤es.length):M.run (pkC fz id lo n (some (.sl false ver e es))) s=M.run ((setN id none).bind fun _=> .pure (.sl false e ((es.drop lo).take n))) s:=by
 unfold pkC;dsimp only;rw [if_neg (by simp;omega)]
theorem qnb {id lo n:Nat}:M.run (lend0 q (.sb id lo n)) s=M.run (pack q 40 (.sb id lo n)) s:=rfl
attribute [go_sem ↓] qrg qq4 qqf qnb
def pkB (fz:Bool) (k id:Nat):Option Node→M CV
 |some (.sl q _ e es)=>if badFz q fz es then .fail else (setN id none).bind fun _=> .pure (.sl false e es)
 |some (.bx z cs)=>if z then .fail else (setN id none).bind fun _=>(vbm fz k cs).bind fun cs'=> .pure (.bx false cs')
 |none=> .pure .un
theorem qpq {id:Nat}:M.run (pack fz (k+1) (.rf id)) s=M.run ((getN id).bind (pkB fz k id)) s:=by
 rw [qhh];congr 1
theorem qp9 {id ver e:Nat} {es:List PV}:M.run (pkB true k id (some (.sl q ver e es))) s=M.run ((setN id none).bind fun _=> .pure (.sl false e es)) s:=by
 cases q<;>rfl
theorem qqi {id ver e:Nat} {es:List PV}:M.run (pkB fz k id (some (.sl false ver e es))) s=M.run ((setN id none).bind fun _=> .pure (.sl false e es)) s:=rfl
attribute [go_sem ↓] qpq qp9 qqi
def pkF (id e:Nat) (es:List PV) (b:Bool):M CV:=if b=true then (setN id none).bind fun _=> .pure (.sl false e es) else .fail
theorem qqo {id ver e:Nat} {es:List PV}:M.run (pkB false k id (some (.sl true ver e es))) s=M.run (pkF id e es (nfzL es)) s:=by
 show M.run (if badFz true false es then M.fail else (setN id none).bind fun _=>M.pure (CV.sl false e es)) s=_;unfold badFz pkF;cases nfzL es<;>rfl
attribute [go_sem ↓] qqo
theorem qur {id e:Nat} {es:List PV}:pkF id e es true=(setN id none).bind fun _=> .pure (.sl false e es):=rfl
attribute [go_sem] qur
theorem qks {id:Nat} {cs:List TV}:M.run (pkB fz k id (some (.bx z cs))) s=M.run (if z then .fail else (setN id none).bind fun _=>(vbm fz k cs).bind fun cs'=> .pure (.bx false cs')) s:=rfl
theorem qhw {id:Nat}:M.run (pkB fz k id none) s=M.run (.pure .un) s:=rfl
attribute [go_sem ↓] qks qhw
def topvB (id:Nat):Option Node→M (PV×Bool)
 |some (.sl q _ e es)=>(setN id none).bind fun _=> .pure (.sl e es,q)
 |_=> .fail
theorem qkf {id:Nat}:M.run (toPV (.rf id)) s=M.run ((getN id).bind (topvB id)) s:=by
 rw [qdi];congr 1
theorem qgq {id ver e:Nat} {es:List PV}:M.run (topvB id (some (.sl q ver e es))) s=M.run ((setN id none).bind fun _=> .pure (.sl e es,q)) s:=rfl
attribute [go_sem ↓] qkf qgq
end
end Go.Proofs.YtpnnhokaehghfaaDoor.VM.Sy
namespace Go.Proofs.YtpnnhokaehghfaaDoor.VM
open Go
def var:Nat:=2^62
theorem vnm {n:Nat} (h:n<4611686018427387904):n<var:=h
def calF (Φ:Nat→Option Callee) (N:Nat) (v:Fn):Callee:={modes:=v.modes,keeps:=v.keeps,scalar:=v.scalar,go:=vak Φ N v}
def tower (tab:List (Nat×Fn)) (ext:Nat→Option Callee) (N:Nat):Nat→Nat→Option Callee
 |0,_=>none
 |d+1,f=>match ext f with
  |some c=>some c
  |none=>match look tab f with
   |some v=>some (calF (tower tab ext N d) N v)
   |none=>none
theorem vyq {tab:List (Nat×Fn)} {ext:Nat→Option Callee} {N d f:Nat} {v:Fn} (h:ext f=none) (ht:look tab f=some v):tower tab ext N (d+1) f=some (calF (tower tab ext N d) N v):=by
 simp only [tower,h,ht]
theorem vmx {tab:List (Nat×Fn)} {ext:Nat→Option Callee} {N d f:Nat} {c:Callee} (h:ext f=some c):tower tab ext N (d+1) f=some c:=by
 simp only [tower,h]
theorem ofR {p:Prop} (h:p):p:=h
theorem ofB {m n:Nat} (h:Nat.ble m n=true):m≤n:=Nat.le_of_ble_eq_true h
theorem zd {p:Prop} (h:p:=by first|assumption|(refine ofR ?_;show norm _ _=_;kernel_rfl)|(refine ofR ?_;show okD _ _ _ _=true;kernel_rfl)|exact ofR (by with_unfolding_all rfl)|exact ofB (by with_unfolding_all rfl)|omega|(simp only [go_sem,vm2];omega)):p:=h
namespace Sy
def after (live:List Nat):Option (Out×St)→Option (Out×St)
 |some (.nrm,s)=>some (.nrm,norm live s)
 |r=>r
theorem qjz {live:List Nat} {s:St}:after live (some (.nrm,s))=some (.nrm,norm live s):=rfl
theorem qkc {live:List Nat} {s:St} {id:Nat}:after live (some (.ext id,s))=some (.ext id,s):=rfl
theorem qjj {live:List Nat} {s:St}:after live (some (.ret,s))=some (.ret,s):=rfl
attribute [go_sem] qjz qkc qjj
def round (Φ:Nat→Option Callee) (N:Nat) (live:List Nat) (b:VC) (s:St):Option (Out×St):=after live (goN Φ N [.c b] s.slots s.nodes s.next)
section
variable {Φ:Nat→Option Callee} {N:Nat} {live:List Nat} {b:VC} {r:List It}
theorem vro (s:St):round Φ N live b s=after live (run Φ N b s):=rfl
theorem vlq {live:List Nat} {x:Option (Out×St)} {o:Out} {s:St} (h:after live x=some (o,s)) (ho:o≠ .nrm):x=some (o,s):=by
 cases x with
 |none=>cases h
 |some p=>
  obtain ⟨o',s'⟩:=p;cases o'<;>simp only [after,Ad,Ae] at h
  ·exact absurd h.1.symm ho
  ·obtain ⟨rfl,rfl⟩:=h;rfl
  ·obtain ⟨rfl,rfl⟩:=h;rfl
theorem qaw (S:Nat→St) (R:Nat→Out×St) {m:Nat} (hN:m<N) (hr:∀i,i≤m→(R i).1≠ .nrm)
  (step:∀i,i≤m→(i<m∧round Φ N live b (S i)=some (.nrm,S (i+1))∧R i=R (i+1))∨round Φ N live b (S i)=some (R i)):
  goP Φ N live b r (S 0)=goL Φ N r (some (R 0)):=by
 have key:∀(k i n:Nat),i+k=m→k<n→vdj (run Φ N b) live n (S i)=some (R i):=by
  intro k;induction k with
  |zero=>
   intro i n hi hn;obtain ⟨n,rfl⟩:∃n',n=n'+1:=⟨n-1,by omega⟩
   rcases step i zo with ⟨h1,_⟩|h
   ·omega
   ·have:=vlq (x:=run Φ N b (S i)) (live:=live) (o:=(R i).1) (s:=(R i).2) h (hr i zo);simp only [vdj,this];have hne:=hr i zo;generalize hR:R i=p at hne⊢;obtain ⟨o,s⟩:=p;cases o<;>first|rfl|exact absurd rfl hne
  |succ k ih=>
   intro i n hi hn;obtain ⟨n,rfl⟩:∃n',n=n'+1:=⟨n-1,by omega⟩
   rcases step i zo with ⟨h1,h2,h3⟩|h
   ·rw [vro] at h2;simp only [vdj];cases hx:run Φ N b (S i) with
    |none=>rw [hx] at h2;cases h2
    |some p=>
     obtain ⟨o,s⟩:=p;rw [hx] at h2;cases o with
     |nrm=>
      simp only [after,Ad,Ae,true_and] at h2;simp only [h2,h3];exact ih (i+1) n zo zo
     |ext id=>simp [after] at h2
     |ret=>simp [after] at h2
   ·have:=vlq (x:=run Φ N b (S i)) (live:=live) (o:=(R i).1) (s:=(R i).2) h (hr i zo);simp only [vdj,this];have hne:=hr i zo;generalize hR:R i=p at hne⊢;obtain ⟨o,s⟩:=p;cases o<;>first|rfl|exact absurd rfl hne
 unfold goP;rw [key m 0 N zo hN]
theorem qbk (I:Nat→St→Prop) (E:Out→St→Prop) {m:Nat} (hN:m<N) {s:St} (h0:I m s)
  (step:∀k s,k≤m→I k s→(∃k' s',k=k'+1∧round Φ N live b s=some (.nrm,s')∧I k' s')∨∃o s',o≠ .nrm∧round Φ N live b s=some (o,s')∧E o s'):
  ∃o e,E o e∧o≠ .nrm∧goP Φ N live b r s=goL Φ N r (some (o,e)):=by
 have key:∀(k n:Nat) (s:St),k≤m→k<n→I k s→∃o e,E o e∧o≠ .nrm∧vdj (run Φ N b) live n s=some (o,e):=by
  intro k;induction k with
  |zero=>
   intro n s hk hn hs;obtain ⟨n,rfl⟩:∃n',n=n'+1:=⟨n-1,by omega⟩
   rcases step 0 s hk hs with ⟨k',_,h,_⟩|⟨o,s',ho,h,he⟩
   ·omega
   ·have:=vlq (x:=run Φ N b s) (live:=live) h ho;refine ⟨o,s',he,ho,?_⟩;simp only [vdj,this];cases o<;>first|rfl|exact absurd rfl ho
  |succ k ih=>
   intro n s hk hn hs;obtain ⟨n,rfl⟩:∃n',n=n'+1:=⟨n-1,by omega⟩
   rcases step (k+1) s hk hs with ⟨k',s',h1,h2,h3⟩|⟨o,s',ho,h,he⟩
   ·obtain rfl:k=k':=by omega
    rw [vro] at h2;cases hx:run Φ N b s with
    |none=>rw [hx] at h2;cases h2
    |some p=>
     obtain ⟨o,s1⟩:=p;rw [hx] at h2;cases o with
     |nrm=>
      simp only [after,Ad,Ae,true_and] at h2;obtain ⟨o,e,he,ho,hr⟩:=ih n s' zo zo h3;refine ⟨o,e,he,ho,?_⟩;simp only [vdj,hx,h2];exact hr
     |ext id=>simp [after] at h2
     |ret=>simp [after] at h2
   ·have:=vlq (x:=run Φ N b s) (live:=live) h ho;refine ⟨o,s',he,ho,?_⟩;simp only [vdj,this];cases o<;>first|rfl|exact absurd rfl ho
 obtain ⟨o,e,he,ho,hr⟩:=key m N s (Nat.le_refl _) hN h0;refine ⟨o,e,he,ho,?_⟩;unfold goP;rw [hr]
theorem qai (S:Nat→St) (e:St) {m id:Nat} (hN:m<N) (step:∀i,i<m→round Φ N live b (S i)=some (.nrm,S (i+1))) (last:round Φ N live b (S m)=some (.ext id,e)):
  goP Φ N live b r (S 0)=goE Φ N r id e.slots e.nodes e.next:=by
 rw [qaw S (fun _=>(.ext id,e)) hN (fun _ _=>by simp) fun i hi=> ?_]
 ·rfl
 ·by_cases h:i<m
  ·exact .inl ⟨h,step i h,rfl⟩
  ·have:i=m:=by omega
   subst this;exact .inr last
end
def vp3 (Φ:Nat→Option Callee) (N:Nat) (live:List Nat) (b:VC) (s:St):Option (Out×St):=vdj (run Φ N b) live N s
theorem vm4 {Φ:Nat→Option Callee} {N:Nat} {live:List Nat} {b:VC} (S:Nat→St) (e:St) {m id:Nat} (hN:m<N) (step:∀i,i<m→round Φ N live b (S i)=some (.nrm,S (i+1))) (last:round Φ N live b (S m)=some (.ext id,e)):
  vp3 Φ N live b (S 0)=some (.ext id,e):=qai (r:= []) S e hN step last
theorem vrd {Φ:Nat→Option Callee} {N:Nat} {live:List Nat} {b:VC} {r:List It} {s S0 e:St} {id:Nat} (h:vp3 Φ N live b S0=some (.ext id,e)) (hs:norm live s=S0):
  goP Φ N live b r (norm live s)=goE Φ N r id e.slots e.nodes e.next:=by
 rw [hs];unfold goP;rw [show vdj (run Φ N b) live N S0=some (.ext id,e) from h];rfl
end Sy
section
variable {Φ:Nat→Option Callee} {N:Nat} {v:Fn}
theorem qjy:(calF Φ N v).modes=v.modes:=rfl
theorem qjm:(calF Φ N v).keeps=v.keeps:=rfl
theorem qhk:(calF Φ N v).scalar=v.scalar:=rfl
theorem qs5:(calF Φ N v).go=vak Φ N v:=rfl
attribute [go_sem] qjy qjm qhk qs5
end
attribute [go_sem] Bool.false_and Bool.true_and Bool.and_true Bool.true_or Bool.false_or Bool.or_true Bool.and_self Option.isNone_some Option.isSome_some decide_true decide_false decide_eq_true decide_eq_false List.length_map List.length_append List.length_replicate List.length_set List.map_append List.replicate_succ List.replicate_zero List.set_cons_zero List.set_cons_succ Ak List.map_nil Af Ah List.getElem?_cons_zero List.getElem?_cons_succ List.drop_zero List.drop_succ_cons List.drop_nil List.take_succ_cons List.take_zero List.nil_append List.cons_append List.append_nil Aa Option.getD_some Option.isNone_none List.getElem?_map Int.toNat_natCast
 if_true if_false Ac Bool.or_false Bool.or_self Bool.and_false Bool.not_true Bool.not_false reduceCtorEq true_and and_true and_self Nat.zero_add Nat.add_zero
theorem vif (x:Int) (h0: -9223372036854775808≤x) (h1:x≤9223372036854775807):IntKind.i64.wrap x=x:=by
 unfold IntKind.wrap;simp [IntKind.bits,IntKind.signed];omega
theorem vjz (i:Nat) (h:i<9223372036854775807):IntKind.i64.wrap ((i:Int)+1)=((i+1:Nat):Int):=by
 rw [vif]<;>omega
end Go.Proofs.YtpnnhokaehghfaaDoor.VM
namespace Go.Proofs.YtpnnhokaehghfaaDoor.VM.Sy
open Go
variable {Φ:Nat→Option Callee} {N:Nat} {live:List Nat} {b:VC}
attribute [go_sem] List.size_toArray
theorem qm4 {x y:ByteArray}:(x++y).size=x.size+y.size:=ByteArray.size_append
attribute [go_sem] qm4
theorem qm9 {q:Bool} {v b id:Nat} {c0:CV} {s:St}:M.run (vad q v b (.rf id) c0 .un) s=some (b,s):=by
 cases c0<;>first|rfl|(simp only [vad];rfl)
attribute [go_sem ↓] qm9
def loadJ (x:Option PV) (id ver:Nat) (p:List (Nat×Nat×Nat)) (i m o:Nat) (w:Option Nat):Option TV:=
 match x with
 |some x=>if x.cells.length=m then vau (ownC id ver p i m 0 x.cells) o w else none
 |none=>none
theorem qg4 {x:PV} {id ver:Nat} {p:List (Nat×Nat×Nat)} {i m o:Nat} {w:Option Nat} (h:x.cells.length=m):loadJ (some x) id ver p i m o w=vau (ownC id ver p i m 0 x.cells) o w:=by simp [loadJ,h]
attribute [go_sem] qg4
def loadI (r:Option (Nat×List PV)) (id ver:Nat) (p:List (Nat×Nat×Nat)) (i m o:Nat) (w:Option Nat):Option TV:=
 match r with
 |some (_,es)=>loadJ es[i]? id ver p i m o w
 |none=>none
theorem qgs {e:Nat} {es:List PV} {id ver:Nat} {p:List (Nat×Nat×Nat)} {i m o:Nat} {w:Option Nat}:loadI (some (e,es)) id ver p i m o w=loadJ es[i]? id ver p i m o w:=rfl
theorem qlm {nd:vcj} {w:Option Nat} {id ver:Nat} {p:List (Nat×Nat×Nat)} {i m o:Nat}:loadP nd w (.ei id ver p i m o)=loadI (elemsI (va2 nd id) ver p) id ver p i m o w:=by
 simp only [loadP,loadAt,vah,va2];simp only [VM.getN,M.run,St.node];cases (look nd id).getD none with
 |none=>rfl
 |some n=>
  cases n with
  |bx z cs=>rfl
  |sl q ver' e es=>
   simp only [elemsI];split
   ·cases dget es p with
    |none=>rfl
    |some r=>
     simp only [loadI];cases r.2[i]? with
     |none=>rfl
     |some x=>
      simp only [loadJ,vvq];split
      ·cases vau (ownC id ver p i m 0 x.cells) o w<;>rfl
      ·rfl
   ·rfl
attribute [go_sem] qgs qlm
def fadI (n:Option Node) (id ver:Nat) (p:List (Nat×Nat×Nat)) (i m o:Nat):Option TV:=
 match n with
 |some (.sl _ ver' _ _)=>if ver'=ver then some (.ei id ver p i m o) else none
 |_=>none
theorem qo2 {q:Bool} {e:Nat} {es:List PV} {id ver:Nat} {p:List (Nat×Nat×Nat)} {i m o:Nat}:fadI (some (.sl q ver e es)) id ver p i m o=some (.ei id ver p i m o):=by simp [fadI]
theorem qs1 {nd:vcj} {id ver:Nat} {p:List (Nat×Nat×Nat)} {i m o off:Nat}:fadP nd off (.ei id ver p i m o)=fadI (va2 nd id) id ver p i m (o+off):=by
 simp only [fadP,fieldAt,vah,va2,fadI];simp only [VM.getN,M.run,St.node];cases (look nd id).getD none with
 |none=>rfl
 |some n=>
  cases n with
  |bx z cs=>rfl
  |sl q ver' e es=>
   simp only;split<;>rfl
attribute [go_sem] qo2 qs1

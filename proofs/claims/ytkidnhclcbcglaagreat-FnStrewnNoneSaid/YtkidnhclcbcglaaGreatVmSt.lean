/- The interpreter 'VM': rules by which it is run over symbols: a list of what is still to be done, a frame, and an equation for each kind of step. The interpreter 'VM': rules for steps that are run: they are tried before the step's parts are looked at. (Printed by runlem.py, out of YtkidnhclcbcglaaGreatVmSym.) The interpreter 'VM': the tower of calls: each function over those that it calls, to any depth. The interpreter 'VM': loops whose frames are known by a property, and loops over lists. -/
import Derived.Test.YtkidnhclcbcglaaGreatVmA
import Derived.Attr
import Derived.Laws.Strings
import Derived.KernelRfl
open Option renaming map_some->Aa,map_none->Al,map_map->Am
open List renaming getElem?_eq_getElem->Ab,replicate->Ae,length_cons->Ag,take_add_one->Ah,foldl_append->Ai,take_length->Aj,length_nil->Ak,map_cons->An
open Bool renaming false_eq_true->Ac
open Option.some renaming injEq->Ad
open Prod.mk renaming injEq->Af
namespace Go.Proofs.YtkidnhclcbcglaaGreat.VM.Sy
open Go
inductive It where
 |c (v:VC)
 |blk (id:Nat)
 |ops (b:Nat) (os:List VOper) (live:List Nat)
abbrev vb8:=List (Nat×TV)
abbrev vb5:=List (Nat×Option Node)
section
variable (Φ:Nat→Option Callee) (N:Nat)
def stepI (it:It) (o:Option (Out×St)):Option (Out×St):=
 match it,o with
 | .c v,some (.nrm,s)=>run Φ N v s
 | .blk id,some (.ext j,s)=>if j=id then some (.nrm,s) else some (.ext j,s)
 | .ops b os live,some (.nrm,s)=>(execs Φ b os s).map fun s'=>(.nrm,{slots:=keep live s',nodes:=s'.nodes,next:=b+100 * os.length})
 |_,x=>x
def goL:List It→Option (Out×St)→Option (Out×St)
 | [],x=>x
 |it::r,x=>goL r (stepI Φ N it x)
def goN (r:List It) (sl:vb8) (nd:vb5) (nx:Nat):Option (Out×St):=goL Φ N r (some (.nrm,⟨sl,nd,nx⟩))
def goE (r:List It) (id:Nat) (sl:vb8) (nd:vb5) (nx:Nat):Option (Out×St):=goL Φ N r (some (.ext id,⟨sl,nd,nx⟩))
def vfz (f:St→Option (Out×St)) (live:List Nat):Nat→St→Option (Out×St)
 |0,_=>none
 |n+1,s=>match f s with
  |some (.nrm,s')=>vfz f live n (norm live s')
  |r=>r
def goP (live:List Nat) (b:VC) (r:List It) (s:St):Option (Out×St):=goL Φ N r (vfz (run Φ N b) live N s)
theorem qb2 (f:St→Option (Out×St)) (live:List Nat):∀(n:Nat) (s:St),rounds f live n s=vfz f live n (norm live s)
 |0,_=>rfl
 |n+1,s=>by
  simp only [rounds,vfz];cases f (norm live s) with
  |none=>rfl
  |some p=>
   obtain ⟨o,s'⟩:=p;cases o with
   |nrm=>exact qb2 f live n _
   |_=>rfl
theorem vtg:∀(r:List It),goL Φ N r none=none
 | []=>rfl
 |it::r=>by
  simp only [goL];rw [show stepI Φ N it none=none from by cases it<;>rfl];exact vtg r
theorem qau (s:St):∀(r:List It),goL Φ N r (some (.ret,s))=some (.ret,s)
 | []=>rfl
 |it::r=>by
  simp only [goL];rw [show stepI Φ N it (some (.ret,s))=some (.ret,s) from by cases it<;>rfl];exact qau s r
variable {Φ:Nat→Option Callee} {N:Nat} {r:List It} {sl:vb8} {nd:vb5} {nx:Nat}
theorem zik:goN Φ N [] sl nd nx=some (.nrm,⟨sl,nd,nx⟩):=rfl
theorem zhj:goN Φ N (.c .skip::r) sl nd nx=goN Φ N r sl nd nx:=rfl
theorem zim:goN Φ N (.c .ret::r) sl nd nx=some (.ret,⟨sl,nd,nx⟩):=qau Φ N _ r
theorem zhh {id:Nat}:goN Φ N (.c (.exit id)::r) sl nd nx=goE Φ N r id sl nd nx:=rfl
theorem zkn {id:Nat}:goN Φ N (.blk id::r) sl nd nx=goN Φ N r sl nd nx:=rfl
theorem zhz {id:Nat}:goE Φ N [] id sl nd nx=some (.ext id,⟨sl,nd,nx⟩):=rfl
theorem zk0 {id:Nat} {v:VC}:goE Φ N (.c v::r) id sl nd nx=goE Φ N r id sl nd nx:=rfl
theorem zfh {id b:Nat} {os:List VOper} {live:List Nat}:goE Φ N (.ops b os live::r) id sl nd nx=goE Φ N r id sl nd nx:=rfl
theorem zgq {id j:Nat}:goE Φ N (.blk j::r) id sl nd nx=if id=j then goN Φ N r sl nd nx else goE Φ N r id sl nd nx:=by
 simp only [goE,goL,stepI,goN];split<;>rfl
theorem zjm {a b:VC}:goN Φ N (.c (.seq a b)::r) sl nd nx=goN Φ N (.c a:: .c b::r) sl nd nx:=by
 simp only [goN,goL,stepI,run];cases run Φ N a ⟨sl,nd,nx⟩ with
 |none=>rfl
 |some p=>
  obtain ⟨o,s⟩:=p;cases o<;>rfl
theorem zb3 {id:Nat} {b:VC}:goN Φ N (.c (.block id b)::r) sl nd nx=goN Φ N (.c b:: .blk id::r) sl nd nx:=by
 simp only [goN,goL,stepI,run];cases run Φ N b ⟨sl,nd,nx⟩ with
 |none=>rfl
 |some p=>
  obtain ⟨o,s⟩:=p;cases o<;>rfl
theorem zgf {live:List Nat} {b:VC}:goN Φ N (.c (.loop live b)::r) sl nd nx=goP Φ N live b r (norm live ⟨sl,nd,nx⟩):=by
 simp only [goN,goL,stepI,run,goP,qb2]
theorem zjs {os:List VOper} {live:List Nat}:goN Φ N (.c (.reg os live)::r) sl nd nx=goN Φ N (.ops nx os live::r) sl nd nx:=by
 simp only [goN,goL,stepI,run];cases execs Φ nx os ⟨sl,nd,nx⟩<;>rfl
theorem qso {os:List VOper} {live:List Nat} {ps:List (Nat×Nat)} (h:okD Φ ps os ⟨sl,nd,nx⟩=true):goN Φ N (.c (.regD os live ps)::r) sl nd nx=goN Φ N (.ops nx os live::r) sl nd nx:=by
 simp only [goN,goL,stepI,run,h,if_true];cases execs Φ nx os ⟨sl,nd,nx⟩<;>rfl
attribute [go_sem] zik zhj zim zhh zkn zhz zk0 zfh zgq zjm zb3 zgf zjs
attribute [go_sem] qso
def vj4 (sl:vb8) (n:Nat):TV:=(look sl n).getD .un
def selS (b:Bool) (v:TV) (sl:vb8) (n:Nat):TV:=match b with|true=>v|false=>vj4 sl n
theorem zjg {v:TV} {n:Nat}:selS true v sl n=v:=rfl
theorem zjd {v:TV} {n:Nat}:selS false v sl n=vj4 sl n:=rfl
theorem qz2 {n m:Nat} {v:TV}:vj4 ((m,v)::sl) n=selS (m==n) v sl n:=by
 by_cases h:m=n
 ·subst h;simp [vj4,look,selS]
 ·have:(m==n)=false:=by simpa using h
  rw [this];simp [vj4,look,h,selS]
attribute [go_sem] zjg zjd qz2
def vta (sl:vb8):List Nat→vb8
 | []=> []
 |t::ts=>(t,vj4 sl t)::vta sl ts
theorem zeq:vta sl []= []:=rfl
theorem zax {t:Nat} {ts:List Nat}:vta sl (t::ts)=(t,vj4 sl t)::vta sl ts:=rfl
theorem qg5 (s:St):∀(live:List Nat),keep live s=vta s.slots live
 | []=>rfl
 |t::ts=>by simp [keep,vta,←qg5 s ts,St.slot,vj4]
theorem ziz {b:Nat} {live:List Nat}:goN Φ N (.ops b [] live::r) sl nd nx=goN Φ N r (vta sl live) nd b:=by
 simp only [goN,goL,stepI,execs,Aa,qg5,Ak,Nat.mul_zero,Nat.add_zero]
attribute [go_sem] zeq zax ziz
def vbw (nd:vb5) (id:Nat):Option Node:=(look nd id).getD none
def selN (b:Bool) (v:Option Node) (nd:vb5) (n:Nat):Option Node:=match b with|true=>v|false=>vbw nd n
theorem zic {v:Option Node} {n:Nat}:selN true v nd n=v:=rfl
theorem zjw {v:Option Node} {n:Nat}:selN false v nd n=vbw nd n:=rfl
theorem qzp {n m:Nat} {v:Option Node}:vbw ((m,v)::nd) n=selN (m==n) v nd n:=by
 by_cases h:m=n
 ·subst h;simp [vbw,look,selN]
 ·have:(m==n)=false:=by simpa using h
  rw [this];simp [vbw,look,h,selN]
theorem zfx {b:VC}:goN Φ N (.c (.frz b)::r) sl nd nx=goN Φ N (.c b::r) (frzSl (vbw nd) sl) (frzNd (vbw nd) nd) nx:=rfl
attribute [go_sem] zic zjw qzp zfx
def frzK (n:Option Node) (id:Nat):TV:=match n with
 |some (.sl _ _ e es)=> .sz e es
 |_=> .rf id
theorem zgo {q:Bool} {v e id:Nat} {es:List PV}:frzK (some (.sl q v e es)) id= .sz e es:=rfl
theorem zh1 {z:Bool} {cs:List TV} {id:Nat}:frzK (some (.bx z cs)) id= .rf id:=rfl
theorem qze {f:Nat→Option Node}:frzSl f []= []:=rfl
theorem qxk {f:Nat→Option Node} {t:Nat} {v:TV} {l:vb8}:frzSl f ((t,v)::l)=(t,frzT f v)::frzSl f l:=rfl
theorem zaf {f:Nat→Option Node}:frzNd f []= []:=rfl
theorem qxn {id:Nat} {n:Option Node} {l:vb5}:frzNd (vbw nd) ((id,n)::l)=(id,frzN (vbw nd) (vbw nd id))::frzNd (vbw nd) l:=rfl
theorem zfq {f:Nat→Option Node} {z:Bool} {cs:List TV}:frzN f (some (.bx z cs))=some (.bx z (frzTs f cs)):=rfl
theorem zgd {f:Nat→Option Node} {q:Bool} {v e:Nat} {es:List PV}:frzN f (some (.sl q v e es))=none:=rfl
theorem zfo {f:Nat→Option Node}:frzN f none=none:=rfl
theorem zbb {f:Nat→Option Node}:frzTs f []= []:=rfl
theorem qyl {f:Nat→Option Node} {c:TV} {cs:List TV}:frzTs f (c::cs)=frzT f c::frzTs f cs:=rfl
theorem zio {f:Nat→Option Node} {v:Value}:frzT f (.a v)= .a v:=rfl
theorem zg0 {f:Nat→Option Node} {e:Nat}:frzT f (.nl e)= .nl e:=rfl
theorem zgm {id:Nat}:frzT (vbw nd) (.rf id)=frzK (vbw nd id) id:=by
 unfold frzT frzK;split<;>simp_all
theorem zg8 {f:Nat→Option Node} {e:Nat} {es:List PV}:frzT f (.sz e es)= .sz e es:=rfl
theorem zgr {f:Nat→Option Node} {cs:List TV}:frzT f (.st cs)= .st (frzTs f cs):=rfl
theorem zhd {f:Nat→Option Node} {cs:List TV}:frzT f (.tp cs)= .tp (frzTs f cs):=rfl
theorem zf5 {f:Nat→Option Node}:frzT f .un= .un:=rfl
attribute [go_sem] zgo zh1 qze qxk zaf qxn zfq zgd zfo zbb qyl zio zg0 zgm zg8 zgr zhd zf5
def ov (sl:vb8):Opd→TV
 | .t n=>vj4 sl n
 | .c v=> .a v
 | .nl e=> .nl e
 | .f g=> .fn g [] []
theorem zll {n:Nat}:ov sl (.t n)=vj4 sl n:=rfl
theorem zlo {v:Value}:ov sl (.c v)= .a v:=rfl
theorem zk8 {e:Nat}:ov sl (.nl e)= .nl e:=rfl
theorem vcc (x:Opd) (s:St):(opd x).run s=some (ov s.slots x,s):=by cases x<;>rfl
attribute [go_sem] zll zlo zk8
def condK (Φ:Nat→Option Callee) (N:Nat) (v:TV) (a b:VC) (r:List It) (sl:vb8) (nd:vb5) (nx:Nat):Option (Out×St):=
 match v with
 | .a (.bool t)=>if t=true then goN Φ N (.c a::r) sl nd nx else goN Φ N (.c b::r) sl nd nx
 |_=>none
theorem zg3 {n:Nat} {a b:VC}:goN Φ N (.c (.cond (.t n) a b)::r) sl nd nx=condK Φ N (vj4 sl n) a b r sl nd nx:=by
 simp only [goN,goL,stepI,run,condK,St.slot,vj4];cases (look sl n).getD TV.un with
 |a v=>
  cases v with
  |bool t=>cases t<;>rfl
  |_=>exact vtg Φ N r
 |_=>exact vtg Φ N r
theorem qzg {a b:VC}:condK Φ N (.a (.bool true)) a b r sl nd nx=goN Φ N (.c a::r) sl nd nx:=rfl
theorem qyx {a b:VC}:condK Φ N (.a (.bool false)) a b r sl nd nx=goN Φ N (.c b::r) sl nd nx:=rfl
attribute [go_sem] zg3 qzg qyx
def putK (Φ:Nat→Option Callee) (N:Nat) (d:Nat) (o:Option TV) (r:List It) (sl:vb8) (nd:vb5) (nx:Nat):Option (Out×St):=
 match o with
 |some v=>goN Φ N r ((d,v)::sl) nd nx
 |none=>none
theorem zca {d:Nat} {v:TV}:putK Φ N d (some v) r sl nd nx=goN Φ N r ((d,v)::sl) nd nx:=rfl
attribute [go_sem] zca
def aftK (Φ:Nat→Option Callee) (N:Nat) {α:Type} (o:Option (α×St)) (r:List It):Option (Out×St):=
 match o with
 |some (_,s)=>goN Φ N r s.slots s.nodes s.next
 |none=>none
theorem zc1 {α:Type} {x:α} {s:St}:aftK Φ N (some (x,s)) r=goN Φ N r s.slots s.nodes s.next:=rfl
theorem vyp {b:Nat} {o:VOper} {os:List VOper} {live:List Nat}:goN Φ N (.ops b (o::os) live::r) sl nd nx=aftK Φ N ((execG Φ b o).run ⟨sl,nd,nx⟩) (.ops (b+100) os live::r):=by
 simp only [goN,goL,stepI,execs];cases (execG Φ b o).run ⟨sl,nd,nx⟩ with
 |none=>exact vtg Φ N r
 |some p=>
  simp only [aftK,goN,goL,stepI,Ag,show b+100 * (os.length+1)=b+100+100 * os.length by omega]
theorem vaq {α β:Type} (x:M α) (f:α→M β) (s:St):(x.bind f).run s=(match x.run s with|some (a,s')=>(f a).run s'|none=>none):=by
 induction x generalizing s with
 |pure x=>rfl
 |fail=>rfl
 |getS t k ih=>exact ih _ _
 |setS t v k ih=>exact ih _
 |getN id k ih=>exact ih _ _
 |setN id n k ih=>exact ih _
attribute [go_sem] zc1
def bindR {α β:Type} (o:Option (α×St)) (f:α→M β):Option (β×St):=
 match o with
 |some (a,s)=>(f a).run s
 |none=>none
@[congr] theorem qww {α β:Type} {o o':Option (α×St)} {f:α→M β} (h:o=o'):bindR o f=bindR o' f:=by rw [h]
theorem qxt {α β:Type} {a:α} {s:St} {f:α→M β}:bindR (some (a,s)) f=(f a).run s:=rfl
theorem qyr {α β:Type} (x:M α) (f:α→M β) (s:St):(x.bind f).run s=bindR (x.run s) f:=vaq x f s
attribute [go_sem ↓] qxt qyr
def ifM {α:Type} (c:Prop) [Decidable c] (x y:M α) (s:St):Option (α×St):=(if c then x else y).run s
@[congr] theorem za4 {α:Type} {c c':Prop} [Decidable c] [Decidable c'] {x y:M α} {s:St} (h:c=c'):ifM c x y s=ifM c' x y s:=by
 subst h;unfold ifM;congr
theorem zkw {α:Type} {x y:M α} {s:St} [Decidable True]:ifM True x y s=x.run s:=by simp [ifM]
theorem zkq {α:Type} {x y:M α} {s:St} [Decidable False]:ifM False x y s=y.run s:=by simp [ifM]
theorem zf8 {α:Type} {c:Prop} [Decidable c] {x y:M α} {s:St}:(if c then x else y).run s=ifM c x y s:=rfl
attribute [go_sem ↓] zkw zkq zf8
theorem zac {α:Type} {x:α} {s:St}:(M.pure x).run s=some (x,s):=rfl
theorem zao {t:Nat} {s:St}:(getS t).run s=some (vj4 s.slots t,s):=rfl
theorem qzq {t:Nat} {v:TV} {sl:vb8} {nd:vb5} {nx:Nat}:(setS t v).run ⟨sl,nd,nx⟩=some ((),⟨(t,v)::sl,nd,nx⟩):=rfl
theorem zan {id:Nat} {s:St}:(getN id).run s=some (vbw s.nodes id,s):=rfl
theorem qzr {id:Nat} {n:Option Node} {sl:vb8} {nd:vb5} {nx:Nat}:(setN id n).run ⟨sl,nd,nx⟩=some ((),⟨sl,(id,n)::nd,nx⟩):=rfl
theorem qxj {α:Type} {x:α} {s:St}:(liftO (some x)).run s=some (x,s):=rfl
theorem zdf {x:Opd} {s:St}:(opd x).run s=some (ov s.slots x,s):=vcc x s
theorem za7 {α:Type} {s:St}:(M.fail:M α).run s=none:=rfl
attribute [go_sem] zac zao qzq zan qzr qxj zdf za7
section
variable {b:Nat} {os:List VOper} {live:List Nat} {g:Option Nat}
abbrev rest (b:Nat) (os:List VOper) (live:List Nat) (r:List It):List It:= .ops (b+100) os live::r
theorem vcl {op:VOp}:goN Φ N (.ops b (⟨op,none,g⟩::os) live::r) sl nd nx=aftK Φ N ((exec Φ b op).run ⟨sl,nd,nx⟩) (.ops (b+100) os live::r):=by
 rw [vyp];rfl
theorem qfj {d:Nat} {x:Opd}:goN Φ N (.ops b (⟨.mov d x,none,g⟩::os) live::r) sl nd nx=goN Φ N (.ops (b+100) os live::r) ((d,ov sl x)::sl) nd nx:=by
 rw [vcl];simp only [exec,vaq,vcc];rfl
attribute [go_sem] qfj
def pickT (c x y:TV):Option TV:=
 match c with
 | .a (.bool t)=>some (if t=true then x else y)
 |_=>none
theorem zja {x y:TV}:pickT (.a (.bool true)) x y=some x:=rfl
theorem zjy {x y:TV}:pickT (.a (.bool false)) x y=some y:=rfl
theorem qhj {d:Nat} {c x y:Opd}:goN Φ N (.ops b (⟨.pick d c x y,none,g⟩::os) live::r) sl nd nx=putK Φ N d (pickT (ov sl c) (ov sl x) (ov sl y)) (.ops (b+100) os live::r) sl nd nx:=by
 rw [vcl];simp only [exec,vaq,vcc];cases ov sl c with
 |a v=>
  cases v with
  |bool t=>cases t<;>simp only [vaq,vcc,if_true,pickT,Ac,if_false]<;>rfl
  |_=>rfl
 |_=>rfl
theorem qd5 {d:Nat} {z:ZC} {zs:List ZC}:goN Φ N (.ops b (⟨.alloc d (z::zs),none,g⟩::os) live::r) sl nd nx=
  goN Φ N (.ops (b+100) os live::r) ((d,.rf b)::sl) ((b,some (.bx false (z.tv::zs.map ZC.tv)))::nd) nx:=by
 rw [vcl];rfl
theorem zlk {v:Value}:(ZC.v v).tv= .a v:=rfl
theorem zlc {e:Nat}:(ZC.nl e).tv= .nl e:=rfl
attribute [go_sem] zja zjy qhj qd5 zlk zlc
def boxK (Φ:Nat→Option Callee) (N:Nat) (d b:Nat) (o:Option (List TV)) (r:List It) (sl:vb8) (nd:vb5) (nx:Nat):Option (Out×St):=
 match o with
 |some (c::cs)=>goN Φ N r ((d,.rf b)::sl) ((b,some (.bx false (c::cs)))::nd) nx
 |_=>none
theorem zck {d b:Nat} {c:TV} {cs:List TV}:boxK Φ N d b (some (c::cs)) r sl nd nx=goN Φ N r ((d,.rf b)::sl) ((b,some (.bx false (c::cs)))::nd) nx:=rfl
theorem qll {d:Nat} {x:Opd}:goN Φ N (.ops b (⟨.box d x,none,g⟩::os) live::r) sl nd nx=boxK Φ N d b (ov sl x).row (.ops (b+100) os live::r) sl nd nx:=by
 rw [vcl];simp only [exec,vaq,vcc];cases (ov sl x).row with
 |none=>rfl
 |some cs=>cases cs<;>rfl
theorem zif {cs:List TV}:(TV.st cs).row=some cs:=rfl
theorem zfm {k:IntKind} {n:Int}:(TV.a (.int k n)).row=some [.a (.int k n)]:=rfl
theorem zd5 {t:Bool}:(TV.a (.bool t)).row=some [.a (.bool t)]:=rfl
theorem zgy {s:ByteArray}:(TV.a (.string s)).row=some [.a (.string s)]:=rfl
theorem ziq {e:Nat}:(TV.nl e).row=some [.nl e]:=rfl
theorem zkb {i:Nat}:(TV.rf i).row=some [.rf i]:=rfl
theorem zkk {e:Nat} {es:List PV}:(TV.sz e es).row=some [.sz e es]:=rfl
theorem zj6 {i j k:Nat}:(TV.sb i j k).row=some [.sb i j k]:=rfl
theorem zka {i j:Nat} {p:List (Nat×Nat×Nat)}:(TV.ri i j p).row=some [.ri i j p]:=rfl
theorem zi9 {i j:Nat}:(TV.ad i j).row=some [.ad i j]:=rfl
theorem zby {cs:List TV}:(TV.st cs).cells=cs:=rfl
theorem zgb {v:Value}:(TV.a v).cells= [.a v]:=rfl
theorem zc7 {e:Nat}:(TV.nl e).cells= [.nl e]:=rfl
theorem zco {i:Nat}:(TV.rf i).cells= [.rf i]:=rfl
theorem zc3 {e:Nat} {es:List PV}:(TV.sz e es).cells= [.sz e es]:=rfl
theorem zb0 {i j k:Nat}:(TV.sb i j k).cells= [.sb i j k]:=rfl
theorem zee {i j:Nat} {p:List (Nat×Nat×Nat)}:(TV.ri i j p).cells= [.ri i j p]:=rfl
theorem zdq {i j:Nat}:(TV.ad i j).cells= [.ad i j]:=rfl
theorem qz7 {cs:List PV}:(PV.st cs).cells=cs:=rfl
theorem zeo {v:Value}:(PV.a v).cells= [.a v]:=rfl
theorem zal {e:Nat} {es:List PV}:(PV.sl e es).cells= [.sl e es]:=rfl
theorem qz3 {e:Nat} {es:List PV}:(PV.fz e es).cells= [.fz e es]:=rfl
attribute [go_sem] zck qll zif zfm zd5 zgy ziq zkb zkk zj6 zka zi9 zby zgb zc7 zco zc3 zb0 zee zdq qz7 zeo zal qz3
def buildP (sl:vb8):List (Nat×Nat×Opd)→List TV→Option (List TV)
 | [],cs=>some cs
 |(o,w,x)::ps,cs=>if (ov sl x).cells.length=w∧o+w≤cs.length∧(ov sl x).row.isSome=true then buildP sl ps (cs.take o++(ov sl x).cells++cs.drop (o+w)) else none
theorem qcr (s:St):∀(ps:List (Nat×Nat×Opd)) (cs:List TV),(buildM ps cs).run s=(buildP s.slots ps cs).map (·,s)
 | [],cs=>rfl
 |(o,w,x)::ps,cs=>by
  simp only [buildM,vaq,vcc,buildP];split
  ·exact qcr s ps _
  ·rfl
theorem qzi {cs:List TV}:buildP sl [] cs=some cs:=rfl
attribute [go_sem] qzi
def buildK (sl:vb8) (v:TV) (o w:Nat) (ps:List (Nat×Nat×Opd)) (cs:List TV):Option (List TV):=
 if v.cells.length=w∧o+w≤cs.length∧v.row.isSome=true then buildP sl ps (cs.take o++v.cells++cs.drop (o+w)) else none
theorem qyo {o w:Nat} {x:Opd} {ps:List (Nat×Nat×Opd)} {cs:List TV}:buildP sl ((o,w,x)::ps) cs=buildK sl (ov sl x) o w ps cs:=rfl
theorem zdy {v:TV} {o w:Nat} {ps:List (Nat×Nat×Opd)} {cs:List TV} (h1:v.cells.length=w) (h2:o+w≤cs.length) (h3:v.row.isSome=true):buildK sl v o w ps cs=buildP sl ps (cs.take o++v.cells++cs.drop (o+w)):=by
 simp [buildK,h1,h2,h3]
attribute [go_sem] qyo zdy
def stO (o:Option (List TV)):Option TV:=o.map .st
theorem zdo {cs:List TV}:stO (some cs)=some (.st cs):=rfl
theorem qeo {d:Nat} {zs:List ZC} {ps:List (Nat×Nat×Opd)}:goN Φ N (.ops b (⟨.build d zs ps,none,g⟩::os) live::r) sl nd nx=
  putK Φ N d (stO (buildP sl ps (zs.map ZC.tv))) (.ops (b+100) os live::r) sl nd nx:=by
 rw [vcl];simp only [exec,vaq,qcr];cases buildP sl ps (zs.map ZC.tv)<;>rfl
theorem za5 {cs:List TV} {o:Nat}:vbd cs o none=cs[o]? :=rfl
theorem zd4 {cs:List TV} {o w:Nat} (h:o+w≤cs.length):vbd cs o (some w)=some (.st ((cs.drop o).take w)):=by simp [vbd,h]
attribute [go_sem] zdo qeo za5 zd4
def loadN (n:Option Node) (o:Nat) (w:Option Nat):Option TV:=
 match n with
 |some (.bx _ cs)=>vbd cs o w
 |_=>none
theorem zbf {z:Bool} {cs:List TV} {o:Nat} {w:Option Nat}:loadN (some (.bx z cs)) o w=vbd cs o w:=rfl
attribute [go_sem] zbf
def ownC (id ver:Nat) (p:List (Nat×Nat×Nat)) (i m:Nat):Nat→List PV→List TV
 |_,[]=> []
 |k,c::cs=>ofOwn id ver (p++ [(i,m,k)]) c::ownC id ver p i m (k+1) cs
theorem qgy (id ver:Nat) (p:List (Nat×Nat×Nat)) (i m:Nat) (x:PV):vhk id ver p i m x=ownC id ver p i m 0 x.cells:=by
 have key:∀(cs:List PV) (k:Nat),((cs.zipIdx k).map fun (c,o)=>ofOwn id ver (p++ [(i,m,o)]) c)=ownC id ver p i m k cs:=by
  intro cs;induction cs with
  |nil=>intro k;rfl
  |cons c cs ih=>intro k;simp only [List.zipIdx_cons,An,ownC,ih]
 exact key x.cells 0
theorem zc2 {id ver:Nat} {p:List (Nat×Nat×Nat)} {i m k:Nat}:ownC id ver p i m k []= []:=rfl
theorem za9 {id ver:Nat} {p:List (Nat×Nat×Nat)} {i m k:Nat} {c:PV} {cs:List PV}:ownC id ver p i m k (c::cs)=ofOwn id ver (p++ [(i,m,k)]) c::ownC id ver p i m (k+1) cs:=rfl
theorem zlb {id ver:Nat} {p:List (Nat×Nat×Nat)} {v:Value}:ofOwn id ver p (.a v)= .a v:=rfl
theorem zkj {id ver:Nat} {p:List (Nat×Nat×Nat)} {e:Nat} {es:List PV}:ofOwn id ver p (.sl e es)= .ri id ver p:=rfl
theorem zje {id ver:Nat} {p:List (Nat×Nat×Nat)} {e:Nat} {es:List PV}:ofOwn id ver p (.fz e es)= .sz e es:=rfl
theorem zls {v:Value}:ofFrozen (.a v)= .a v:=rfl
theorem zk2 {e:Nat} {es:List PV}:ofFrozen (.sl e es)= .sz e es:=rfl
theorem zle {e:Nat} {es:List PV}:ofFrozen (.fz e es)= .sz e es:=rfl
attribute [go_sem] zc2 za9 zlb zkj zje zls zk2 zle
def loadE (x:Option PV) (id ver:Nat) (p:List (Nat×Nat×Nat)) (i m o:Nat) (w:Option Nat):Option TV:=
 match x with
 |some x=>vbd (ownC id ver p i m 0 x.cells) o w
 |none=>none
theorem qy2 {x:PV} {id ver:Nat} {p:List (Nat×Nat×Nat)} {i m o:Nat} {w:Option Nat}:loadE (some x) id ver p i m o w=vbd (ownC id ver p i m 0 x.cells) o w:=rfl
attribute [go_sem] qy2
def loadS (n:Option Node) (id i m o:Nat) (w:Option Nat):Option TV:=
 match n with
 |some (.sl _ ver _ es)=>loadE es[i]? id ver [] i m o w
 |_=>none
theorem zdl {q:Bool} {ver e:Nat} {es:List PV} {id i m o:Nat} {w:Option Nat}:loadS (some (.sl q ver e es)) id i m o w=loadE es[i]? id ver [] i m o w:=rfl
attribute [go_sem] zdl
def loadP (nd:vb5) (w:Option Nat):TV→Option TV
 | .rf id=>loadN (vbw nd id) 0 w
 | .ad id o=>loadN (vbw nd id) o w
 | .ea id i m o=>loadS (vbw nd id) id i m o w
 | .ez cs o=>vbd (cs.map ofFrozen) o w
 |v=>((loadAt w v).run ⟨[],nd,0⟩).map (·.1)
theorem zep {w:Option Nat} {id:Nat}:loadP nd w (.rf id)=loadN (vbw nd id) 0 w:=rfl
theorem zev {w:Option Nat} {id o:Nat}:loadP nd w (.ad id o)=loadN (vbw nd id) o w:=rfl
theorem zd0 {w:Option Nat} {id i m o:Nat}:loadP nd w (.ea id i m o)=loadS (vbw nd id) id i m o w:=rfl
theorem zct {w:Option Nat} {cs:List PV} {o:Nat}:loadP nd w (.ez cs o)=vbd (cs.map ofFrozen) o w:=rfl
attribute [go_sem] zep zev zd0 zct
def Reads {α:Type} (m:M α):Prop:=∀s:St,m.run s=(m.run ⟨[],s.nodes,0⟩).map fun p=>(p.1,s)
theorem Reads.pure {α:Type} (x:α):Reads (M.pure x):=fun _=>rfl
theorem Reads.fail {α:Type}:Reads (M.fail:M α):=fun _=>rfl
theorem Reads.getN {α:Type} {id:Nat} {k:Option Node→M α} (h:∀n,Reads (k n)):Reads ((VM.getN id).bind k):=by
 intro s;simp only [vaq];exact h _ s
theorem Reads.liftO {α:Type} (x:Option α):Reads (VM.liftO x):=by cases x;exact Reads.fail;exact Reads.pure _
theorem qhz (w : Option Nat) (v : TV) : Reads (loadAt w v) := by
  unfold loadAt;split <;> first
    | exact Reads.fail
    | exact Reads.liftO _
    | (refine Reads.getN fun n => ?_
       repeat' split
       all_goals first
         | exact Reads.fail
         | exact Reads.liftO _)
theorem vre (w:Option Nat) (v:TV) (s:St):(loadAt w v).run s=(loadP s.nodes w v).map (·,s):=by
 cases v with
 |rf id=>
  simp only [loadAt,vaq,loadP,loadN,vbw];simp only [VM.getN,M.run,St.node];cases (look s.nodes id).getD none with
  |none=>rfl
  |some n=>
   cases n with
   |bx z cs=>simp only;cases vbd cs 0 w<;>rfl
   |sl _ _ _ _=>rfl
 |ad id o=>
  simp only [loadAt,vaq,loadP,loadN,vbw];simp only [VM.getN,M.run,St.node];cases (look s.nodes id).getD none with
  |none=>rfl
  |some n=>
   cases n with
   |bx z cs=>simp only;cases vbd cs o w<;>rfl
   |sl _ _ _ _=>rfl
 |ea id i m o=>
  simp only [loadAt,vaq,loadP,loadS,vbw];simp only [VM.getN,M.run,St.node];cases (look s.nodes id).getD none with
  |none=>rfl
  |some n=>
   cases n with
   |bx z cs=>rfl
   |sl q ver e es=>
    simp only [loadE];cases es[i]? with
    |none=>rfl
    |some x=>simp only [qgy];cases vbd (ownC id ver [] i m 0 x.cells) o w<;>rfl
 |ez cs o=>
  simp only [loadAt,loadP];cases vbd (cs.map ofFrozen) o w<;>rfl
 |_=>
  rw [qhz];simp only [loadP,Am];congr 1
def pairS (o:Option TV) (s:St):Option (TV×St):=o.map (·,s)
theorem qyp {v:TV} {s:St}:pairS (some v) s=some (v,s):=rfl
theorem zas {w:Option Nat} {v:TV} {s:St}:(loadAt w v).run s=pairS (loadP s.nodes w v) s:=vre w v s
theorem qhq {d:Nat} {w:Option Nat} {x:Opd}:goN Φ N (.ops b (⟨.load d w x,none,g⟩::os) live::r) sl nd nx=putK Φ N d (loadP nd w (ov sl x)) (.ops (b+100) os live::r) sl nd nx:=by
 rw [vcl];simp only [exec,vaq,vcc,vre];cases loadP nd w (ov sl x)<;>rfl
attribute [go_sem] qyp zas qhq
def fadP (nd:vb5) (off:Nat):TV→Option TV
 | .rf id=>match vbw nd id with|some (.bx _ _)=>some (.ad id off)|_=>none
 | .ad id o=>some (.ad id (o+off))
 | .ea id i m o=>match vbw nd id with|some (.sl _ _ _ _)=>some (.ea id i m (o+off))|_=>none
 | .ez cs o=>some (.ez cs (o+off))
 |v=>((fieldAt off v).run ⟨[],nd,0⟩).map (·.1)
def fadN (n:Option Node) (id off:Nat):Option TV:=
 match n with
 |some (.bx _ _)=>some (.ad id off)
 |_=>none
def fadS (n:Option Node) (id i m o:Nat):Option TV:=
 match n with
 |some (.sl _ _ _ _)=>some (.ea id i m o)
 |_=>none
theorem zjc {id off:Nat}:fadP nd off (.rf id)=fadN (vbw nd id) id off:=rfl
theorem zge {z:Bool} {cs:List TV} {id off:Nat}:fadN (some (.bx z cs)) id off=some (.ad id off):=rfl
theorem zjt {id o off:Nat}:fadP nd off (.ad id o)=some (.ad id (o+off)):=rfl
theorem zjx {id i m o off:Nat}:fadP nd off (.ea id i m o)=fadS (vbw nd id) id i m (o+off):=rfl
theorem zh5 {q:Bool} {ver e:Nat} {es:List PV} {id i m o:Nat}:fadS (some (.sl q ver e es)) id i m o=some (.ea id i m o):=rfl
theorem zjz {cs:List PV} {o off:Nat}:fadP nd off (.ez cs o)=some (.ez cs (o+off)):=rfl
theorem qfw (off : Nat) (v : TV) : Reads (fieldAt off v) := by
  unfold fieldAt;split <;> first
    | exact Reads.fail
    | exact Reads.pure _
    | (refine Reads.getN fun n => ?_
       repeat' split
       all_goals first
         | exact Reads.fail
         | exact Reads.pure _)
theorem vvl (off:Nat) (v:TV) (s:St):(fieldAt off v).run s=(fadP s.nodes off v).map (·,s):=by
 cases v with
 |rf id=>
  simp only [fieldAt,vaq,fadP,vbw];simp only [VM.getN,M.run,St.node];cases (look s.nodes id).getD none with
  |none=>rfl
  |some n=>cases n<;>rfl
 |ea id i m o=>
  simp only [fieldAt,vaq,fadP,vbw];simp only [VM.getN,M.run,St.node];cases (look s.nodes id).getD none with
  |none=>rfl
  |some n=>cases n<;>rfl
 |_=>
  rw [qfw];simp only [fadP]
  first
   |rfl
   |(simp only [Am];congr 1)
theorem qkw {d off:Nat} {x:Opd}:goN Φ N (.ops b (⟨.fad d x off,none,g⟩::os) live::r) sl nd nx=putK Φ N d (fadP nd off (ov sl x)) (.ops (b+100) os live::r) sl nd nx:=by
 rw [vcl];simp only [exec,vaq,vcc,vvl];cases fadP nd off (ov sl x)<;>rfl
attribute [go_sem] zjc zge zjt zjx zh5 zjz qkw
def fldT (off:Nat) (w:Option Nat):TV→Option TV
 | .st cs=>vbd cs off w
 |_=>none
theorem zii {off:Nat} {w:Option Nat} {cs:List TV}:fldT off w (.st cs)=vbd cs off w:=rfl
theorem qkg {d off:Nat} {w:Option Nat} {x:Opd}:goN Φ N (.ops b (⟨.fld d x off w,none,g⟩::os) live::r) sl nd nx=putK Φ N d (fldT off w (ov sl x)) (.ops (b+100) os live::r) sl nd nx:=by
 rw [vcl];simp only [exec,vaq,vcc];cases ov sl x with
 |st cs=>simp only [vaq,fldT];cases vbd cs off w<;>rfl
 |_=>rfl
attribute [go_sem] zii qkg
def elemsN (n:Option Node):Option (Nat×List PV):=
 match n with
 |some (.sl _ _ e es)=>some (e,es)
 |_=>none
theorem qz4 {q:Bool} {ver e:Nat} {es:List PV}:elemsN (some (.sl q ver e es))=some (e,es):=rfl
attribute [go_sem] qz4
def elemsB (n:Option Node) (lo k:Nat):Option (Nat×List PV):=
 match n with
 |some (.sl _ _ e es)=>some (e,(es.drop lo).take k)
 |_=>none
theorem zak {q:Bool} {ver e lo k:Nat} {es:List PV}:elemsB (some (.sl q ver e es)) lo k=some (e,(es.drop lo).take k):=rfl
attribute [go_sem] zak
def elemsI (n:Option Node) (ver:Nat) (p:List (Nat×Nat×Nat)):Option (Nat×List PV):=
 match n with
 |some (.sl _ ver' _ es)=>if ver'=ver then dget es p else none
 |_=>none
theorem qzo {q:Bool} {ver ver' e:Nat} {es:List PV} {p:List (Nat×Nat×Nat)}:elemsI (some (.sl q ver' e es)) ver p=if ver'=ver then dget es p else none:=rfl
attribute [go_sem] qzo
def vdf (nd:vb5):TV→Option (Nat×List PV)
 | .nl e=>some (e,[])
 | .sz e es=>some (e,es)
 | .rf id=>elemsN (vbw nd id)
 | .sb id lo k=>elemsB (vbw nd id) lo k
 | .ri id ver p=>elemsI (vbw nd id) ver p
 |_=>none
theorem zci {e:Nat}:vdf nd (.nl e)=some (e,[]):=rfl
theorem zdd {e:Nat} {es:List PV}:vdf nd (.sz e es)=some (e,es):=rfl
theorem zbv {id:Nat}:vdf nd (.rf id)=elemsN (vbw nd id):=rfl
theorem qfb {id lo k:Nat}:vdf nd (.sb id lo k)=elemsB (vbw nd id) lo k:=rfl
theorem qe0 {id ver:Nat} {p:List (Nat×Nat×Nat)}:vdf nd (.ri id ver p)=elemsI (vbw nd id) ver p:=rfl
theorem vpt (v:TV) (s:St):(elems v).run s=(vdf s.nodes v).map (·,s):=by
 cases v with
 |rf id=>
  simp only [elems,vaq,vdf,elemsN,vbw];simp only [VM.getN,M.run,St.node];cases (look s.nodes id).getD none with
  |none=>rfl
  |some n=>cases n<;>rfl
 |sb id lo k=>
  simp only [elems,vaq,vdf,elemsB,vbw];simp only [VM.getN,M.run,St.node];cases (look s.nodes id).getD none with
  |none=>rfl
  |some n=>cases n<;>rfl
 |ri id ver p=>
  simp only [elems,vaq,vdf,elemsI,vbw];simp only [VM.getN,M.run,St.node];cases (look s.nodes id).getD none with
  |none=>rfl
  |some n=>
   cases n with
   |bx _ _=>rfl
   |sl q ver' e es=>
    simp only;split
    ·cases dget es p<;>rfl
    ·rfl
 |_=>rfl
attribute [go_sem] zci zdd zbv qfb qe0
def lenO (o:Option (Nat×List PV)):Option TV:=o.map fun r=> .a (.int .i64 r.2.length)
theorem ze9 {e:Nat} {es:List PV}:lenO (some (e,es))=some (.a (.int .i64 es.length)):=rfl
theorem qmt {d:Nat} {x:Opd}:goN Φ N (.ops b (⟨.len d x,none,g⟩::os) live::r) sl nd nx=putK Φ N d (lenO (vdf nd (ov sl x))) (.ops (b+100) os live::r) sl nd nx:=by
 rw [vcl];simp only [exec,vaq,vcc,vpt];cases vdf nd (ov sl x)<;>rfl
attribute [go_sem] ze9 qmt
def s2bM (b d e:Nat) (x:TV):M Unit:=
 match x with
 | .a (.string s)=>if s.size≤9223372036854775807 then (setN b (some (.sl false 0 e (bytesPV s)))).bind fun _=>setS d (.rf b) else .fail
 |_=> .fail
theorem zi4 {b d e:Nat} {s:ByteArray} (h:s.size≤9223372036854775807):(s2bM b d e (.a (.string s))).run ⟨sl,nd,nx⟩=some ((),⟨(d,.rf b)::sl,(b,some (.sl false 0 e (bytesPV s)))::nd,nx⟩):=by
 simp only [s2bM,h,if_true];rfl
theorem qj5 {d e:Nat} {x:Opd}:goN Φ N (.ops b (⟨.s2b d e x,none,g⟩::os) live::r) sl nd nx=aftK Φ N ((s2bM b d e (ov sl x)).run ⟨sl,nd,nx⟩) (.ops (b+100) os live::r):=by
 rw [vyp];simp only [execG,exec,vaq,vcc,s2bM];rfl
attribute [go_sem] zi4 qj5
def b2sU:Option (List UInt8)→Option TV
 |some bs=>some (.a (.string ⟨bs.toArray⟩))
 |none=>none
theorem qz6 {bs:List UInt8}:b2sU (some bs)=some (.a (.string ⟨bs.toArray⟩)):=rfl
attribute [go_sem] qz6
def b2sO (e:Nat) (o:Option (Nat×List PV)):Option TV:=
 match o with
 |some (e',es)=>if e'=e then b2sU (u8of es) else none
 |none=>none
theorem qza {e:Nat} {es:List PV}:b2sO e (some (e,es))=b2sU (u8of es):=by simp [b2sO]
theorem zeh:u8of []=some []:=rfl
attribute [go_sem] qza zeh
def u8c (b:UInt8):Option (List UInt8)→Option (List UInt8)
 |some bs=>some (b::bs)
 |none=>none
theorem zbh {b:UInt8} {bs:List UInt8}:u8c b (some bs)=some (b::bs):=rfl
theorem qlv {n:Int} {es:List PV}:u8of (.a (.int .u8 n)::es)=u8c (UInt8.ofNat n.toNat) (u8of es):=by
 simp only [u8of];cases u8of es<;>rfl
theorem qmg {d e:Nat} {x:Opd}:goN Φ N (.ops b (⟨.b2s d e x,none,g⟩::os) live::r) sl nd nx=putK Φ N d (b2sO e (vdf nd (ov sl x))) (.ops (b+100) os live::r) sl nd nx:=by
 rw [vcl];simp only [exec,vaq,vcc,vpt];cases vdf nd (ov sl x) with
 |none=>rfl
 |some p=>
  obtain ⟨e',es⟩:=p;simp only [b2sO,Aa];split
  ·cases u8of es<;>rfl
  ·rfl
attribute [go_sem] zbh qlv qmg
def slenT:TV→Option TV
 | .a (.string s)=>some (.a (.int .i64 s.size))
 |_=>none
theorem zir {s:ByteArray}:slenT (.a (.string s))=some (.a (.int .i64 s.size)):=rfl
theorem qgt {d:Nat} {x:Opd}:goN Φ N (.ops b (⟨.slen d x,none,g⟩::os) live::r) sl nd nx=putK Φ N d (slenT (ov sl x)) (.ops (b+100) os live::r) sl nd nx:=by
 rw [vcl];simp only [exec,vaq,vcc];cases ov sl x with
 |a v=>cases v<;>rfl
 |_=>rfl
attribute [go_sem] zir qgt
def iadP (m:Nat) (x:TV) (es:List PV) (i:Nat):Option TV:=
 match x with
 | .rf id=>some (.ea id i m 0)
 | .sb id lo _=>some (.ea id (lo+i) m 0)
 | .ri id ver p=>some (.ei id ver p i m 0)
 | .sz _ _=>some (.ez (es[i]?.getD .un).cells 0)
 |_=>none
theorem zf6 {m id i:Nat} {es:List PV}:iadP m (.rf id) es i=some (.ea id i m 0):=rfl
theorem zgt {m id lo k i:Nat} {es:List PV}:iadP m (.sb id lo k) es i=some (.ea id (lo+i) m 0):=rfl
theorem zg9 {m id ver i:Nat} {p:List (Nat×Nat×Nat)} {es:List PV}:iadP m (.ri id ver p) es i=some (.ei id ver p i m 0):=rfl
theorem zfr {m e i:Nat} {es es':List PV}:iadP m (.sz e es') es i=some (.ez (es[i]?.getD .un).cells 0):=rfl
attribute [go_sem] zf6 zgt zg9 zfr
def iadO (e m:Nat) (x:TV) (o:Option (Nat×List PV)) (i:TV):Option TV:=
 match o,i with
 |some (e',es),.a (.int _ n)=>if e'=e∧0≤n∧n<es.length then iadP m x es n.toNat else none
 |_,_=>none
theorem zi1 {e m:Nat} {x:TV} {es:List PV} {k:IntKind} {n:Int} (h0:0≤n) (h1:n<es.length):iadO e m x (some (e,es)) (.a (.int k n))=iadP m x es n.toNat:=by
 simp [iadO,h0,h1]
theorem vve (e m:Nat) (x:TV) (i:Int) (s:St):(indexAt e m x i).run s=(iadO e m x (vdf s.nodes x) (.a (.int .i64 i))).map (·,s):=by
 simp only [indexAt,vaq,vpt];cases ho:vdf s.nodes x with
 |none=>rfl
 |some p=>
  obtain ⟨e',es⟩:=p;simp only [Aa,iadO];rw [qv1];split
  ·rename_i hcond;have hget:es[i.toNat]? =some (es[i.toNat]'zo):=Ab zo;cases x with
   |sz e0 es0=>
    simp only [vdf,Ad,Af] at ho;obtain ⟨_,rfl⟩:=ho;simp only [iadP,hget];rfl
   |_=>rfl
  ·rfl
theorem qmq {d e m:Nat} {x i:Opd}:goN Φ N (.ops b (⟨.iad d e m x i,none,g⟩::os) live::r) sl nd nx=putK Φ N d (iadO e m (ov sl x) (vdf nd (ov sl x)) (ov sl i)) (.ops (b+100) os live::r) sl nd nx:=by
 rw [vcl];simp only [exec,vaq,vcc];cases hi:ov sl i with
 |a v=>
  cases v with
  |int k n=>
   simp only [asI,vaq,vve];have:iadO e m (ov sl x) (vdf nd (ov sl x)) (.a (.int .i64 n))=iadO e m (ov sl x) (vdf nd (ov sl x)) (.a (.int k n)):=by
    cases vdf nd (ov sl x)<;>rfl
   rw [this];cases iadO e m (ov sl x) (vdf nd (ov sl x)) (.a (.int k n))<;>rfl
  |_=>cases vdf nd (ov sl x)<;>rfl
 |_=>cases vdf nd (ov sl x)<;>rfl
attribute [go_sem] zi1 qmq
def ixT (x i:TV):Option TV:=
 match x,i with
 | .a (.string s),.a (.int _ n)=>(byteAt s n).map .a
 |_,_=>none
theorem qqk {d:Nat} {x i:Opd}:goN Φ N (.ops b (⟨.ix d x i,none,g⟩::os) live::r) sl nd nx=putK Φ N d (ixT (ov sl x) (ov sl i)) (.ops (b+100) os live::r) sl nd nx:=by
 rw [vcl];simp only [exec,vaq,vcc];cases ov sl x with
 |a v=>
  cases v with
  |string s=>
   cases ov sl i with
   |a u=>
    cases u with
    |int k n=>simp only [asI,vaq,ixT];cases byteAt s n<;>rfl
    |_=>rfl
   |_=>rfl
  |_=>cases asI (ov sl i)<;>cases ov sl i<;>rfl
 |_=>cases asI (ov sl i)<;>cases ov sl i<;>rfl
attribute [go_sem] qqk
def binT (op:BinOp) (x y:TV):Option TV:=
 match x,y with
 | .a u,.a v=>(binA op u v).map .a
 |_,_=>none
theorem ql7 {d:Nat} {op:BinOp} {x y:Opd}:goN Φ N (.ops b (⟨.bin d op x y,none,g⟩::os) live::r) sl nd nx=putK Φ N d (binT op (ov sl x) (ov sl y)) (.ops (b+100) os live::r) sl nd nx:=by
 rw [vcl];simp only [exec,vaq,vcc];cases ov sl x with
 |a u=>
  cases ov sl y with
  |a v=>simp only [vaq,binT];cases binA op u v<;>rfl
  |_=>rfl
 |_=>cases ov sl y<;>rfl
attribute [go_sem] ql7
section
variable {k k':IntKind} {x y:Int}
theorem kk (k:IntKind):(k==k)=true:=by cases k<;>rfl
theorem zft:binT .add (.a (.int k x)) (.a (.int k y))=some (.a (.int k (k.wrap (x+y)))):=by simp [binT,binA,vdd,vei]
theorem zgn:binT .sub (.a (.int k x)) (.a (.int k y))=some (.a (.int k (k.wrap (x-y)))):=by simp [binT,binA,vdd,vei]
theorem zhv:binT .mul (.a (.int k x)) (.a (.int k y))=some (.a (.int k (k.wrap (x * y)))):=by simp [binT,binA,vdd,vei]
theorem zgu (h:y≠0):binT .quo (.a (.int k x)) (.a (.int k y))=some (.a (.int k (k.wrap (x.tdiv y)))):=by simp [binT,binA,vdd,vei,h]
theorem zfy (h:y≠0):binT .rem (.a (.int k x)) (.a (.int k y))=some (.a (.int k (x.tmod y))):=by simp [binT,binA,vdd,vei,h]
theorem zfz (h:0≤y):binT .shl (.a (.int k x)) (.a (.int k' y))=some (.a (.int k (k.wrap (x * 2^(min y.toNat k.bits))))):=by
 have:¬y<0:=by omega
 simp [binT,binA,vdd,vei,this]
theorem zh2 (h:0≤y):binT .shr (.a (.int k x)) (.a (.int k' y))=some (.a (.int k (x.fdiv (2^(min y.toNat k.bits))))):=by
 have:¬y<0:=by omega
 simp [binT,binA,vdd,vei,this]
theorem zhu:binT .eql (.a (.int k x)) (.a (.int k y))=some (.a (.bool (decide (x=y)))):=by
 simp [binT,binA,vdd,vei];rfl
theorem zg2:binT .neq (.a (.int k x)) (.a (.int k y))=some (.a (.bool (decide (x≠y)))):=by
 simp [binT,binA,vdd,vei,bne];rfl
attribute [go_sem] zft zgn zhv zgu zfy zfz zh2 zhu zg2
def iAnd (k:IntKind) (x y:Int):Int:=k.wrap (BitVec.ofInt k.bits x&&&BitVec.ofInt k.bits y).toNat
def iOr (k:IntKind) (x y:Int):Int:=k.wrap (BitVec.ofInt k.bits x|||BitVec.ofInt k.bits y).toNat
def iXor (k:IntKind) (x y:Int):Int:=k.wrap (BitVec.ofInt k.bits x^^^BitVec.ofInt k.bits y).toNat
def iAndNot (k:IntKind) (x y:Int):Int:=k.wrap (BitVec.ofInt k.bits x&&& ~~~(BitVec.ofInt k.bits y)).toNat
theorem zga:binT .and (.a (.int k x)) (.a (.int k y))=some (.a (.int k (iAnd k x y))):=by simp [binT,binA,vdd,vei,iAnd]
theorem zjp:binT .or (.a (.int k x)) (.a (.int k y))=some (.a (.int k (iOr k x y))):=by simp [binT,binA,vdd,vei,iOr]
theorem zho:binT .xor (.a (.int k x)) (.a (.int k y))=some (.a (.int k (iXor k x y))):=by simp [binT,binA,vdd,vei,iXor]
theorem qyd:binT .andNot (.a (.int k x)) (.a (.int k y))=some (.a (.int k (iAndNot k x y))):=by simp [binT,binA,vdd,vei,iAndNot]
theorem zhl:binT .lss (.a (.int k x)) (.a (.int k y))=some (.a (.bool (decide (x<y)))):=by simp [binT,binA,vdd,vei]
theorem zfe:binT .leq (.a (.int k x)) (.a (.int k y))=some (.a (.bool (decide (x≤y)))):=by simp [binT,binA,vdd,vei]
theorem zf0:binT .gtr (.a (.int k x)) (.a (.int k y))=some (.a (.bool (decide (y<x)))):=by simp [binT,binA,vdd,vei]
theorem zhx:binT .geq (.a (.int k x)) (.a (.int k y))=some (.a (.bool (decide (y≤x)))):=by simp [binT,binA,vdd,vei]
attribute [go_sem] zga zjp zho qyd zhl zfe zf0 zhx
end
theorem zbq {x y:ByteArray} (h:x.size+y.size≤140737488351232):binT .add (.a (.string x)) (.a (.string y))=some (.a (.string (x++y))):=by simp [binT,binA,strBin,h]
theorem toList_inj {x y:ByteArray}:x.toList=y.toList↔x=y:=by
 rw [ByteArray.toList_eq,ByteArray.toList_eq];constructor
 ·intro h;exact ByteArray.ext (Array.toList_inj.1 h)
 ·rintro rfl;rfl
theorem vy7 (x y:ByteArray):(x.toList==y.toList)=decide (x=y):=by
 by_cases h:x=y
 ·subst h;simp
 ·have:x.toList≠y.toList:=fun e=>h (toList_inj.1 e);simp [h,this]
theorem zcq {x y:ByteArray}:binT .eql (.a (.string x)) (.a (.string y))=some (.a (.bool (decide (x=y)))):=by
 simp only [binT,binA,strBin,vy7,Aa]
theorem zdn {x y:ByteArray}:binT .neq (.a (.string x)) (.a (.string y))=some (.a (.bool (decide (x≠y)))):=by
 simp only [binT,binA,strBin,vy7,Aa,decide_not]
attribute [go_sem] zbq zcq zdn
def beqT (ne:Bool) (n:Nat) (x y:TV):Option TV:=
 match n,x,y with
 |0,.a (.bool u),.a (.bool v)=>some (.a (.bool (if ne then u !=v else u==v)))
 |m+1,.st us,.st vs=>(if us.length=m+1 then rowEq us vs else none).map fun r=> .a (.bool (if ne then !r else r))
 |_,_,_=>none
theorem zlf {u v:Bool}:beqT false 0 (.a (.bool u)) (.a (.bool v))=some (.a (.bool (u==v))):=rfl
theorem zkr {u v:Bool}:beqT true 0 (.a (.bool u)) (.a (.bool v))=some (.a (.bool (u !=v))):=rfl
theorem zju {ne:Bool} {k k':IntKind} {x y x' y':Int}:beqT ne 2 (.st [.a (.int k x),.a (.int k' y)]) (.st [.a (.int k x'),.a (.int k' y')])=some (.a (.bool (if ne then !(decide (x=x')&&decide (y=y')) else (decide (x=x')&&decide (y=y'))))):=by
 simp [beqT,rowEq]
theorem qky {d:Nat} {ne:Bool} {n:Nat} {x y:Opd}:goN Φ N (.ops b (⟨.beq d ne n x y,none,g⟩::os) live::r) sl nd nx=putK Φ N d (beqT ne n (ov sl x) (ov sl y)) (.ops (b+100) os live::r) sl nd nx:=by
 rw [vcl];simp only [exec,vaq,vcc];cases n with
 |zero=>
  cases ov sl x with
  |a u=>
   cases u with
   |bool u=>
    cases ov sl y with
    |a v=>cases v<;>rfl
    |_=>rfl
   |_=>cases ov sl y with
    |a v=>cases v<;>rfl
    |_=>rfl
  |_=>cases ov sl y<;>rfl
 |succ m=>
  cases ov sl x with
  |st us=>
   cases ov sl y with
   |st vs=>
    simp only [bindR,beqT,vaq];cases (if us.length=m+1 then rowEq us vs else none)<;>rfl
   |_=>rfl
  |_=>cases ov sl y<;>rfl
attribute [go_sem] zlf zkr zju qky
def unT (op:UnOp) (x:TV):Option TV:=
 match x with
 | .a u=>(unA op u).map .a
 |_=>none
theorem zi8 {t:Bool}:unT .not (.a (.bool t))=some (.a (.bool (!t))):=rfl
theorem zjh {k:IntKind} {n:Int}:unT .neg (.a (.int k n))=some (.a (.int k (k.wrap (0-n)))):=rfl
theorem qqv {d:Nat} {op:UnOp} {x:Opd}:goN Φ N (.ops b (⟨.un d op x,none,g⟩::os) live::r) sl nd nx=putK Φ N d (unT op (ov sl x)) (.ops (b+100) os live::r) sl nd nx:=by
 rw [vcl];simp only [exec,vaq,vcc];cases ov sl x with
 |a u=>simp only [vaq,unT];cases unA op u<;>rfl
 |_=>rfl
attribute [go_sem] zi8 zjh qqv
def cviT (k:IntKind) (x:TV):Option TV:=
 match x with
 | .a (.int _ n)=>some (.a (.int k (k.wrap n)))
 |_=>none
theorem zkt {k k':IntKind} {n:Int}:cviT k (.a (.int k' n))=some (.a (.int k (k.wrap n))):=rfl
theorem qkj {d:Nat} {k:IntKind} {x:Opd}:goN Φ N (.ops b (⟨.cvi d k x,none,g⟩::os) live::r) sl nd nx=putK Φ N d (cviT k (ov sl x)) (.ops (b+100) os live::r) sl nd nx:=by
 rw [vcl];simp only [exec,vaq,vcc];cases ov sl x with
 |a v=>cases v<;>rfl
 |_=>rfl
attribute [go_sem] zkt qkj
def extT (i:Nat) (x:TV):Option TV:=
 match x with
 | .tp cs=>cs[i]?
 |_=>none
theorem zkh {i:Nat} {cs:List TV}:extT i (.tp cs)=cs[i]? :=rfl
theorem qk0 {d i:Nat} {x:Opd}:goN Φ N (.ops b (⟨.ext d x i,none,g⟩::os) live::r) sl nd nx=putK Φ N d (extT i (ov sl x)) (.ops (b+100) os live::r) sl nd nx:=by
 rw [vcl];simp only [exec,vaq,vcc];cases ov sl x with
 |tp cs=>simp only [vaq,extT];cases cs[i]? <;>rfl
 |_=>rfl
attribute [go_sem] zkh qk0
def gK (Φ:Nat→Option Callee) (N:Nat) (u:TV) (want:Bool) (b:Nat) (op:VOp) (dst:Option Nat) (os:List VOper) (live:List Nat) (r:List It) (sl:vb8) (nd:vb5) (nx:Nat):Option (Out×St):=
 match u with
 | .a (.bool t)=>if t=want then goN Φ N (.ops b (⟨op,none,dst⟩::os) live::r) sl nd nx else aftK Φ N ((putO dst TV.none).run ⟨sl,nd,nx⟩) (.ops (b+100) os live::r)
 | .a (.tuple _)=>aftK Φ N ((putO dst TV.none).run ⟨sl,nd,nx⟩) (.ops (b+100) os live::r)
 |_=>none
theorem qpp {op:VOp} {t:Nat} {want:Bool} {dst:Option Nat}:goN Φ N (.ops b (⟨op,some (t,want),dst⟩::os) live::r) sl nd nx=gK Φ N (vj4 sl t) want b op dst os live r sl nd nx:=by
 rw [vyp];simp only [execG,vaq];simp only [VM.getS,M.run,St.slot,gK,vj4];cases (look sl t).getD TV.un with
 |a v=>
  cases v with
  |bool u=>
   simp only;split
   ·rw [vcl]
   ·rfl
  |_=>rfl
 |_=>rfl
attribute [go_sem] qpp
theorem zln {op:VOp} {dst:Option Nat}:gK Φ N (.a (.bool true)) true b op dst os live r sl nd nx=goN Φ N (.ops b (⟨op,none,dst⟩::os) live::r) sl nd nx:=rfl
theorem zlq {op:VOp} {dst:Option Nat}:gK Φ N (.a (.bool false)) false b op dst os live r sl nd nx=goN Φ N (.ops b (⟨op,none,dst⟩::os) live::r) sl nd nx:=rfl
theorem zlp {op:VOp} {d:Nat}:gK Φ N (.a (.bool true)) false b op (some d) os live r sl nd nx=goN Φ N (.ops (b+100) os live::r) ((d,TV.none)::sl) nd nx:=rfl
theorem zlm {op:VOp} {d:Nat}:gK Φ N (.a (.bool false)) true b op (some d) os live r sl nd nx=goN Φ N (.ops (b+100) os live::r) ((d,TV.none)::sl) nd nx:=rfl
theorem zkv {op:VOp}:gK Φ N (.a (.bool true)) false b op none os live r sl nd nx=goN Φ N (.ops (b+100) os live::r) sl nd nx:=rfl
theorem zkz {op:VOp}:gK Φ N (.a (.bool false)) true b op none os live r sl nd nx=goN Φ N (.ops (b+100) os live::r) sl nd nx:=rfl
theorem zjv {op:VOp} {want:Bool} {d:Nat}:gK Φ N TV.none want b op (some d) os live r sl nd nx=goN Φ N (.ops (b+100) os live::r) ((d,TV.none)::sl) nd nx:=rfl
theorem zg1 {op:VOp} {want:Bool}:gK Φ N TV.none want b op none os live r sl nd nx=goN Φ N (.ops (b+100) os live::r) sl nd nx:=rfl
attribute [go_sem] zln zlq zlp zlm zkv zkz zjv zg1
def mksM (b d e by_:Nat) (zs:List ZC) (x:TV):M Unit:=
 match x with
 | .a (.int .i64 n)=>
  if 0≤n∧n * by_≤140737488355328∧n≤9223372036854775807 then
   (setN b (some (.sl false 0 e (Ae n.toNat (zeroEl zs.length zs))))).bind fun _=>setS d (.rf b)
  else .fail
 |_=> .fail
theorem qu8 {b d e by_:Nat} {zs:List ZC} {n:Int} (h0:0≤n) (h1:n * by_≤140737488355328) (h2:n≤9223372036854775807):mksM b d e by_ zs (.a (.int .i64 n))=
  (setN b (some (.sl false 0 e (Ae n.toNat (zeroEl zs.length zs))))).bind fun _=>setS d (.rf b):=by
 simp [mksM,h0,h1,h2]
theorem qkt {d e m n:Nat} {zs:List ZC} {ps:List (Nat×Opd)}:goN Φ N (.ops b (⟨.bsl d e m zs n ps,none,g⟩::os) live::r) sl nd nx=
  aftK Φ N (((bslQ b (flatZ zs) m ps (Ae n (zeroEl m zs))).bind fun es=>(setN b (some (.sl es.2 0 e es.1))).bind fun _=>setS d (.rf b)).run ⟨sl,nd,nx⟩) (.ops (b+100) os live::r):=vcl
theorem qtt {flat q:Bool} {m:Nat} {es:List PV}:bslM flat m [] q es= .pure (es,q):=rfl
attribute [go_sem] qkt
def bslK (flat q:Bool) (m i:Nat) (y:PV×Bool) (ps:List (Nat×Opd)) (es:List PV):M (List PV×Bool):=if y.1.cells.length=m∧i<es.length then bslM flat m ps (q||y.2) (es.set i y.1) else .fail
theorem qp8 {flat q:Bool} {m i:Nat} {x:Opd} {ps:List (Nat×Opd)} {es:List PV}:bslM flat m ((i,x)::ps) q es=
  (opd x).bind fun v=>(toEl flat v).bind fun y=>bslK flat q m i y ps es:=rfl
theorem qvn {flat q:Bool} {m i:Nat} {y:PV×Bool} {ps:List (Nat×Opd)} {es:List PV} (h1:y.1.cells.length=m) (h2:i<es.length):bslK flat q m i y ps es=bslM flat m ps (q||y.2) (es.set i y.1):=by
 simp [bslK,h1,h2]
theorem zkd {m:Nat} {ps:List (Nat×Opd)} {es:List PV} {s:St}:M.run (bslQ b true m ps es) s=M.run (bslM true m ps false es) s:=rfl
theorem zeu {flat:Bool} {m:Nat} {es:List PV} {s:St}:M.run (bslQ b flat m [] es) s=M.run (bslM flat m [] false es) s:=by cases flat<;>rfl
theorem zd3 {m i j:Nat} {x y:Opd} {ps:List (Nat×Opd)} {es:List PV} {s:St}:M.run (bslQ b false m ((i,x)::(j,y)::ps) es) s=M.run (bslM false m ((i,x)::(j,y)::ps) false es) s:=rfl
theorem zcf {m i:Nat} {x:Opd} {es:List PV} {s:St}:M.run (bslQ b false m [(i,x)] es) s=M.run ((opd x).bind fun v=>(pullTo b (.ea 0 0 0 0) v).bind fun v=>(toEl false v).bind fun y=>bslK false false m i y [] es) s:=rfl
attribute [go_sem ↓] zkd zeu zd3 zcf
theorem qng {d e by_:Nat} {mv:Bool} {x y:Opd}:goN Φ N (.ops b (⟨.app d e by_ mv x y,none,g⟩::os) live::r) sl nd nx=
  aftK Φ N (((appendM b e by_ mv (ov sl x) (ov sl y)).bind (setS d)).run ⟨sl,nd,nx⟩) (.ops (b+100) os live::r):=by
 rw [vcl];simp only [exec,vaq,vcc]
theorem qdq {w:Nat} {x y:Opd}:goN Φ N (.ops b (⟨.store w x y,none,g⟩::os) live::r) sl nd nx=
  aftK Φ N (((pullTo b (ov sl x) (ov sl y)).bind (storeAt b w (ov sl x))).run ⟨sl,nd,nx⟩) (.ops (b+100) os live::r):=by
 rw [vcl];simp only [exec,vaq,vcc]
attribute [go_sem] qng qdq
theorem zhw {b id:Nat} {v:TV} {s:St}:M.run (pullTo b (.rf id) v) s=M.run (.pure v) s:=rfl
theorem zf9 {b id o:Nat} {v:TV} {s:St}:M.run (pullTo b (.ad id o) v) s=M.run (.pure v) s:=rfl
theorem zg4 {b id ver i m o:Nat} {p:List (Nat×Nat×Nat)} {v:TV} {s:St}:M.run (pullTo b (.ei id ver p i m o) v) s=M.run (.pure v) s:=rfl
theorem za8 {b id i m o:Nat} {v:Value} {s:St}:M.run (pullTo b (.ea id i m o) (.a v)) s=M.run (.pure (.a v)) s:=rfl
theorem qxh {b id i m o e:Nat} {s:St}:M.run (pullTo b (.ea id i m o) (.nl e)) s=M.run (.pure (.nl e)) s:=rfl
theorem qxe {b id i m o k:Nat} {s:St}:M.run (pullTo b (.ea id i m o) (.rf k)) s=M.run (.pure (.rf k)) s:=rfl
theorem qx1 {b id i m o e:Nat} {es:List PV} {s:St}:M.run (pullTo b (.ea id i m o) (.sz e es)) s=M.run (.pure (.sz e es)) s:=rfl
theorem qxz {b id i m o:Nat} {cs:List TV} {s:St}:M.run (pullTo b (.ea id i m o) (.st cs)) s=M.run ((pullL b cs).bind fun cs'=> .pure (.st cs')) s:=rfl
theorem qzx {b:Nat} {s:St}:M.run (pullL b []) s=M.run (.pure []) s:=rfl
theorem zgl {b:Nat} {v:Value} {xs:List TV} {s:St}:M.run (pullL b (.a v::xs)) s=M.run ((pullL b xs).bind fun ys=> .pure (.a v::ys)) s:=rfl
theorem zcd {b e:Nat} {xs:List TV} {s:St}:M.run (pullL b (.nl e::xs)) s=M.run ((pullL b xs).bind fun ys=> .pure (.nl e::ys)) s:=rfl
theorem ze6 {b k:Nat} {xs:List TV} {s:St}:M.run (pullL b (.rf k::xs)) s=M.run ((pullL b xs).bind fun ys=> .pure (.rf k::ys)) s:=rfl
theorem zec {b e:Nat} {es:List PV} {xs:List TV} {s:St}:M.run (pullL b (.sz e es::xs)) s=M.run ((pullL b xs).bind fun ys=> .pure (.sz e es::ys)) s:=rfl
attribute [go_sem ↓] zhw zf9 zg4 za8 qxh qxe qx1 qxz qzx zgl zcd ze6 zec
def pullN (b id ver:Nat) (p:List (Nat×Nat×Nat)):Option Node→M TV
 |some (.sl q ver' e' es)=>if ver'=ver then pullK b id q e' (dget es p) (dput es p .un) else .fail
 |_=> .fail
theorem zbz {b id ver:Nat} {p:List (Nat×Nat×Nat)} {xs:List TV} {s:St}:M.run (pullL b (.ri id ver p::xs)) s=M.run (((getN id).bind (pullN b id ver p)).bind fun y=> .pure (y::xs)) s:=rfl
theorem zcl {b id ver e:Nat} {p:List (Nat×Nat×Nat)} {q:Bool} {es:List PV} {s:St}:M.run (pullN b id ver p (some (.sl q ver e es))) s=M.run (pullK b id q e (dget es p) (dput es p .un)) s:=by simp only [pullN,if_true]
theorem qye {b id e e2:Nat} {q:Bool} {es es1:List PV} {s:St}:M.run (pullK b id q e2 (some (e,es)) (some es1)) s=M.run ((setN id (some (.sl q (b+51) e2 es1))).bind fun _=>(setN (b+60) (some (.sl q 0 e es))).bind fun _=> .pure (.rf (b+60))) s:=by
 simp only [pullK,takeIn,if_true];rfl
attribute [go_sem ↓] zbz zcl qye
def nilB (d:Nat) (v:TV):Option Node→M Unit
 |some (.bx _ _)=>setS d v
 |_=> .fail
def nilE (d:Nat) (v:TV):Option Node→M Unit
 |some (.sl _ _ _ _)=>setS d v
 |_=> .fail
def nilM (d:Nat):TV→M Unit
 | .rf id=>(getN id).bind (nilB d (.rf id))
 | .ad id o=>setS d (.ad id o)
 | .ea id i m o=>(getN id).bind (nilE d (.ea id i m o))
 | .ez cs o=>setS d (.ez cs o)
 | .fn f fs cs=>setS d (.fn f fs cs)
 | .ic t v=>setS d (.ic t v)
 |_=> .fail
theorem qre {d:Nat} {v:TV} {z:Bool} {cs:List TV}:nilB d v (some (.bx z cs))=setS d v:=rfl
theorem qs0 {d:Nat} {v:TV} {q:Bool} {ver e:Nat} {es:List PV}:nilE d v (some (.sl q ver e es))=setS d v:=rfl
theorem qu2 {d id:Nat}:nilM d (.rf id)=(getN id).bind (nilB d (.rf id)):=rfl
theorem qvq {d id o:Nat}:nilM d (.ad id o)=setS d (.ad id o):=rfl
theorem qut {d id i m o:Nat}:nilM d (.ea id i m o)=(getN id).bind (nilE d (.ea id i m o)):=rfl
theorem qv6 {d o:Nat} {cs:List PV}:nilM d (.ez cs o)=setS d (.ez cs o):=rfl
theorem zj4 {d f:Nat} {fs cs:List TV}:nilM d (.fn f fs cs)=setS d (.fn f fs cs):=rfl
theorem zi5 {d t:Nat} {v:TV}:nilM d (.ic t v)=setS d (.ic t v):=rfl
theorem qef {d:Nat} {x:Opd}:goN Φ N (.ops b (⟨.nilck d x,none,g⟩::os) live::r) sl nd nx=
  aftK Φ N ((nilM d (ov sl x)).run ⟨sl,nd,nx⟩) (.ops (b+100) os live::r):=by
 rw [vcl];simp only [exec,vaq,vcc];cases ov sl x with
 |rf id=>
  simp only [nilM,vaq];congr 1
 |ea id i m o=>
  simp only [nilM,vaq];congr 1
 |_=>rfl
theorem qle {d f:Nat} {fs cs:List Opd}:goN Φ N (.ops b (⟨.mkf d f fs cs,none,g⟩::os) live::r) sl nd nx=
  goN Φ N (.ops (b+100) os live::r) ((d,.fn f (fs.map (ov sl)) (cs.map (ov sl)))::sl) nd nx:=by
 have key:∀(xs:List Opd) (s:St),(opds xs).run s=some (xs.map (ov s.slots),s):=by
  intro xs;induction xs with
  |nil=>intro s;rfl
  |cons x xs ih=>intro s;simp only [opds,vaq,vcc,ih];rfl
 rw [vcl];simp only [exec,vaq,key];rfl
theorem vr4:∀(xs:List Opd) (s:St),(opds xs).run s=some (xs.map (ov s.slots),s)
 | [],s=>rfl
 |x::xs,s=>by simp only [opds,vaq,vcc,vr4 xs];rfl
theorem qm6 {d t:Nat} {x:Opd}:goN Φ N (.ops b (⟨.mki d t x,none,g⟩::os) live::r) sl nd nx=goN Φ N (.ops (b+100) os live::r) ((d,.ic t (ov sl x))::sl) nd nx:=by
 rw [vcl];simp only [exec,vaq,vcc];rfl
theorem qk5 {d e by_:Nat} {zs:List ZC} {x:Opd}:goN Φ N (.ops b (⟨.mks d e by_ zs x,none,g⟩::os) live::r) sl nd nx=
  aftK Φ N ((mksM b d e by_ zs (ov sl x)).run ⟨sl,nd,nx⟩) (.ops (b+100) os live::r):=by
 rw [vcl];simp only [exec,vaq,vcc,mksM];rfl
theorem ql3 {d:Nat} {x:Opd}:goN Φ N (.ops b (⟨.cvs d x,none,g⟩::os) live::r) sl nd nx=
  aftK Φ N ((exec Φ b (.cvs d x)).run ⟨sl,nd,nx⟩) (.ops (b+100) os live::r):=vcl
attribute [go_sem] qef qle qm6 qk5 ql3
def boundO (sl:vb8):Option Opd→Option (Option Int)
 |none=>some none
 |some y=>(asI (ov sl y)).map some
theorem qcf (y:Option Opd) (s:St):(bound y).run s=(boundO s.slots y).map (·,s):=by
 cases y with
 |none=>rfl
 |some y=>
  simp only [bound,vaq,vcc,boundO];cases asI (ov s.slots y)<;>rfl
theorem qxi:boundO sl none=some none:=rfl
theorem qy4 {y:Opd}:boundO sl (some y)=(asI (ov sl y)).map some:=rfl
theorem zg6 {k:IntKind} {n:Int}:asI (.a (.int k n))=some n:=rfl
attribute [go_sem] qxi qy4 zg6
def cutK (Φ:Nat→Option Callee) (N:Nat) (d:Nat) (lo hi:Option (Option Int)) (f:Option Int→Option Int→M TV) (r:List It) (s:St):Option (Out×St):=
 match lo,hi with
 |some l,some h=>aftK Φ N (((f l h).bind (setS d)).run s) r
 |_,_=>none
theorem zbt {d:Nat} {l h:Option Int} {f:Option Int→Option Int→M TV} {s:St}:cutK Φ N d (some l) (some h) f r s=aftK Φ N (((f l h).bind (setS d)).run s) r:=rfl
theorem qmx {d e:Nat} {x:Opd} {lo hi:Option Opd}:goN Φ N (.ops b (⟨.slc d e x lo hi,none,g⟩::os) live::r) sl nd nx=
  cutK Φ N d (boundO sl lo) (boundO sl hi) (sliceAt e (ov sl x)) (.ops (b+100) os live::r) ⟨sl,nd,nx⟩:=by
 rw [vcl];simp only [exec,vaq,vcc,qcf];cases hlo:boundO sl lo with
 |none=>cases boundO sl hi<;>rfl
 |some l=>
  cases hhi:boundO sl hi with
  |none=>simp only [Aa,Al,hhi];rfl
  |some h=>simp only [Aa,hhi,vaq,cutK]
theorem qg0 {d:Nat} {x:Opd} {lo hi:Option Opd}:goN Φ N (.ops b (⟨.sslc d x lo hi,none,g⟩::os) live::r) sl nd nx=
  cutK Φ N d (boundO sl lo) (boundO sl hi) (strAt (ov sl x)) (.ops (b+100) os live::r) ⟨sl,nd,nx⟩:=by
 rw [vcl];simp only [exec,vaq,vcc,qcf];cases hlo:boundO sl lo with
 |none=>cases boundO sl hi<;>rfl
 |some l=>
  cases hhi:boundO sl hi with
  |none=>simp only [Aa,Al,hhi];rfl
  |some h=>simp only [Aa,hhi,vaq,cutK]
attribute [go_sem] zbt qmx qg0
def ext2 (t:Bool) (x y:Int):Int:=if t then (if y>x then y else x) else (if y<x then y else x)
def mmT (t:Bool):TV→TV→Option TV
 | .a (.int k x),.a (.int _ y)=>some (.a (.int k (ext2 t x y)))
 |_,_=>none
theorem zky {t:Bool} {k k':IntKind} {x y:Int}:mmT t (.a (.int k x)) (.a (.int k' y))=some (.a (.int k (ext2 t x y))):=rfl
theorem qd0 {d:Nat} {t:Bool} {x y:Opd}:goN Φ N (.ops b (⟨.mmx d t [x,y],none,g⟩::os) live::r) sl nd nx=
  putK Φ N d (mmT t (ov sl x) (ov sl y)) (.ops (b+100) os live::r) sl nd nx:=by
 rw [vcl];simp only [exec,vaq,vr4,List.map];cases ov sl x with
 |a u=>
  cases u with
  |int k n=>
   simp only [vaq];cases ov sl y with
   |a v=>cases v<;>first|rfl|(cases t<;>rfl)
   |_=>rfl
  |_=>rfl
 |_=>rfl
attribute [go_sem] zky qd0
def slc0K (Φ:Nat→Option Callee) (N:Nat) (d b e:Nat) (o:Option (Nat×List PV)) (r:List It) (sl:vb8) (nd:vb5) (nx:Nat):Option (Out×St):=
 match o with
 |some (e',_)=>if e'=e then goN Φ N r ((d,.rf b)::sl) ((b,some (.sl false 0 e []))::nd) nx else none
 |none=>none
theorem zap {d b e:Nat} {es:List PV}:slc0K Φ N d b e (some (e,es)) r sl nd nx=goN Φ N r ((d,.rf b)::sl) ((b,some (.sl false 0 e []))::nd) nx:=by simp [slc0K]
theorem qhw {d e:Nat} {x:Opd}:goN Φ N (.ops b (⟨.slc0 d e x,none,g⟩::os) live::r) sl nd nx=slc0K Φ N d b e (vdf nd (ov sl x)) (.ops (b+100) os live::r) sl nd nx:=by
 rw [vcl];simp only [exec,vaq,vcc,vpt];cases vdf nd (ov sl x) with
 |none=>rfl
 |some p=>
  obtain ⟨e',es⟩:=p;simp only [Aa,slc0K];split<;>rfl
attribute [go_sem] zap qhw
def callK (Φ:Nat→Option Callee) (N:Nat) (c:Option Callee) (b:Nat) (d:Option Nat) (xs:List TV) (r:List It) (s:St):Option (Out×St):=
 match c with
 |none=>none
 |some c=>aftK Φ N (((callM (some c) b xs).bind (putO d)).run s) r
theorem qgq {d:Option Nat} {f:Nat} {xs:List Opd}:goN Φ N (.ops b (⟨.call d f xs,none,g⟩::os) live::r) sl nd nx=
  callK Φ N (Φ f) b d (xs.map (ov sl)) (.ops (b+100) os live::r) ⟨sl,nd,nx⟩:=by
 rw [vcl];simp only [exec,vaq,vr4,callK];cases Φ f with
 |none=>rfl
 |some c=>simp only [vaq]
attribute [go_sem] qgq
def calvK (Φ:Nat→Option Callee) (N:Nat) (f:TV) (b:Nat) (d:Option Nat) (xs:List TV) (r:List It) (s:St):Option (Out×St):=
 match f with
 | .fn g fs cs=>callK Φ N (Φ g) b d (fs++xs++cs) r s
 |_=>none
theorem qhh {d:Option Nat} {f:Opd} {xs:List Opd}:goN Φ N (.ops b (⟨.calv d f xs,none,g⟩::os) live::r) sl nd nx=
  calvK Φ N (ov sl f) b d (xs.map (ov sl)) (.ops (b+100) os live::r) ⟨sl,nd,nx⟩:=by
 rw [vcl];simp only [exec,vaq,vcc];cases ov sl f with
 |fn g fs cs=>
  simp only [vaq,vr4,calvK,callK];cases Φ g with
  |none=>rfl
  |some c=>simp only [vaq]
 |_=>rfl
attribute [go_sem] qhh
def backK (Φ:Nat→Option Callee) (N:Nat) (keeps scalar:Bool) (ms:List Md) (b:Nat) (d:Option Nat) (xs:List TV) (cs:List CV) (o:Option (List CV×List CV)) (r:List It) (s:St):Option (Out×St):=
 match o with
 |none=>none
 |some (rs,fs)=>aftK Φ N (((vaj keeps (b+100) b ms xs cs fs).bind fun b'=>(if scalar then (if b'≤b+99 then (liftO (plainL rs)).bind fun ts=>M.pure (oneOf ts) else .fail) else vdv keeps (b+99) b' rs).bind (putO d)).run s) r
def resS (top b:Nat) (rs:List CV):M TV:=if b≤top then (liftO (plainL rs)).bind fun ts=>M.pure (oneOf ts) else .fail
def resT (top:Nat) (r:List TV×Nat):M TV:=if r.2≤top then .pure (oneOf r.1) else .fail
theorem qs3 {top b:Nat} {rs:List CV} (h:b≤top):resS top b rs=(liftO (plainL rs)).bind fun ts=>M.pure (oneOf ts):=by simp [resS,h]
theorem qq6 {top:Nat} {r:List TV×Nat} (h:r.2≤top):resT top r= .pure (oneOf r.1):=by simp [resT,h]
theorem qf7 {q:Bool} {top b:Nat} {rs:List CV}:vdv q top b rs=(vbe q b rs).bind (resT top):=rfl
theorem zkp {v:TV}:oneOf [v]=v:=rfl
theorem zks:oneOf []= .tp []:=rfl
theorem zla {v u:TV} {l:List TV}:oneOf (v::u::l)= .tp (v::u::l):=rfl
theorem zhc {v:Value}:plain (.a v)=some (.a v):=rfl
theorem zcp {e:Nat} {es:List PV}:plain (.sl true e es)=some (.sz e es):=rfl
theorem ze5 {cs:List CV}:plain (.st cs)=(plainL cs).map .st:=rfl
theorem qyy:plainL []=some []:=rfl
attribute [go_sem] zkp zks zla zhc zcp ze5 qyy
def plC (a:Option TV) (o:Option (List TV)):Option (List TV):=match a,o with|some y,some ys=>some (y::ys)|_,_=>none
theorem zcr {y:TV} {ys:List TV}:plC (some y) (some ys)=some (y::ys):=rfl
theorem qws {x:CV} {xs:List CV}:plainL (x::xs)=plC (plain x) (plainL xs):=rfl
theorem qmv {d:Nat} {v:TV}:putO (some d) v=setS d v:=rfl
theorem qkx {v:TV}:putO none v= .pure ():=rfl
theorem zkg {keeps:Bool} {ms:List Md} {b:Nat} {d:Option Nat} {xs:List TV} {cs rs fs:List CV} {s:St}:backK Φ N keeps true ms b d xs cs (some (rs,fs)) r s=
  aftK Φ N (((vaj keeps (b+100) b ms xs cs fs).bind fun b'=>(resS (b+99) b' rs).bind (putO d)).run s) r:=rfl
theorem zjf {keeps:Bool} {ms:List Md} {b:Nat} {d:Option Nat} {xs:List TV} {cs rs fs:List CV} {s:St}:backK Φ N keeps false ms b d xs cs (some (rs,fs)) r s=
  aftK Φ N (((vaj keeps (b+100) b ms xs cs fs).bind fun b'=>(vdv keeps (b+99) b' rs).bind (putO d)).run s) r:=rfl
attribute [go_sem] zcr qws zkg zjf
def goK (Φ:Nat→Option Callee) (N:Nat) (c:Callee) (b:Nat) (d:Option Nat) (xs:List TV) (o:Option (List CV×St)) (r:List It):Option (Out×St):=
 match o with
 |none=>none
 |some (cs,s)=>backK Φ N c.keeps c.scalar c.modes b d xs cs (c.go cs) r s
theorem zb5 {c:Callee} {b:Nat} {d:Option Nat} {xs:List TV} {cs:List CV} {s:St}:goK Φ N c b d xs (some (cs,s)) r=backK Φ N c.keeps c.scalar c.modes b d xs cs (c.go cs) r s:=rfl
theorem qzw {c:Callee} {b:Nat} {d:Option Nat} {xs:List TV} {s:St}:callK Φ N (some c) b d xs r s=
  goK Φ N c b d xs (((lendA c.keeps (b+100) c.modes xs).bind fun ps=>show_ c.keeps c.modes xs ps).run s) r:=by
 simp only [callK,callM,vaq,goK];cases (lendA c.keeps (b+100) c.modes xs).run s with
 |none=>rfl
 |some p=>
  obtain ⟨ps,s1⟩:=p;simp only;cases (show_ c.keeps c.modes xs ps).run s1 with
  |none=>rfl
  |some q=>
   obtain ⟨cs,s2⟩:=q;simp only [backK];cases c.go cs with
   |none=>rfl
   |some x=>
    obtain ⟨rs,fs⟩:=x;simp only [vaq];cases (vaj c.keeps (b+100) b c.modes xs cs fs).run s2 with
    |none=>rfl
    |some y=>simp only [vaq]
attribute [go_sem] zb5 qzw
def goM {α:Type} (o:Option (List CV×List CV)) (k:List CV→List CV→M α):M α:=match o with|none=> .fail|some (rs,fs)=>k rs fs
theorem ze8 {α:Type} {rs fs:List CV} {k:List CV→List CV→M α}:goM (some (rs,fs)) k=k rs fs:=rfl
attribute [go_sem] ze8
def calaM (c:Callee) (b:Nat) (d:Option Nat) (xs:List TV):M Unit:=(lendA c.keeps (b+100) c.modes xs).bind fun ps=>(show_ c.keeps c.modes xs ps).bind fun cs=>goM (c.go cs) fun rs fs=>(vaj c.keeps (b+100) b c.modes xs cs fs).bind fun b'=>(vdv c.keeps (b+99) b' rs).bind fun tv=>(alsIn (some c) xs tv).bind fun _=>putO d tv
def calaK (Φ:Nat→Option Callee) (N:Nat) (c:Option Callee) (b:Nat) (d:Option Nat) (xs:List TV) (r:List It) (s:St):Option (Out×St):=
 match c with
 |none=>none
 |some c=>aftK Φ N (((callM (some c) b xs).bind fun tv=>(alsIn (some c) xs tv).bind fun _=>putO d tv).run s) r
theorem qhk {d:Option Nat} {f:Nat} {xs:List Opd}:goN Φ N (.ops b (⟨.cala d f xs,none,g⟩::os) live::r) sl nd nx=
  calaK Φ N (Φ f) b d (xs.map (ov sl)) (.ops (b+100) os live::r) ⟨sl,nd,nx⟩:=by
 rw [vcl];simp only [exec,vaq,vr4,calaK];cases Φ f with
 |none=>rfl
 |some c=>simp only [vaq]
theorem qz8 {ms:List Md} {kp:Bool} {go:List CV→Option (List CV×List CV)} {b:Nat} {d:Option Nat} {xs:List TV} {s:St}:calaK Φ N (some ⟨ms,kp,false,go⟩) b d xs r s=aftK Φ N ((calaM ⟨ms,kp,false,go⟩ b d xs).run s) r:=by
 simp only [calaK,calaM,callM,vaq];congr 1;cases (lendA kp (b+100) ms xs).run s with
 |none=>rfl
 |some p=>
  obtain ⟨ps,s1⟩:=p;simp only;cases (show_ kp ms xs ps).run s1 with
  |none=>rfl
  |some q=>
   obtain ⟨cs,s2⟩:=q;simp only;cases go cs with
   |none=>rfl
   |some x=>
    obtain ⟨rs,fs⟩:=x;simp only [goM,vaq,Ac,if_false];cases (vaj kp (b+100) b ms xs cs fs).run s2 with
    |none=>rfl
    |some y=>simp only
attribute [go_sem] qhk qz8
end
def outK (f:Fn) (o:Option (Out×St)):Option (List CV×List CV):=
 match o with
 |some (.ext _,_)=>none
 |some (_,s)=>((takeOut f).run s).map (·.1)
 |none=>none
theorem zhe {f:Fn} {s:St}:outK f (some (.ret,s))=((takeOut f).run s).map (·.1):=rfl
theorem zfw {f:Fn} {s:St}:outK f (some (.nrm,s))=((takeOut f).run s).map (·.1):=rfl
attribute [go_sem] zhe zfw
def inK (Φ:Nat→Option Callee) (N:Nat) (f:Fn) (o:Option ((List TV×Nat)×St)):Option (List CV×List CV):=
 match o with
 |some ((vs,b),s)=>outK f (goN Φ N [.c f.body] ((List.range vs.length).zip vs++vgx 0 f.modes vs) s.nodes (b+1))
 |none=>none
def enumS:Nat→List TV→vb8
 |_,[]=> []
 |k,v::vs=>(k,v)::enumS (k+1) vs
theorem zb4 {k:Nat}:enumS k []= []:=rfl
theorem qy9 {k:Nat} {v:TV} {vs:List TV}:enumS k (v::vs)=(k,v)::enumS (k+1) vs:=rfl
theorem qhg:∀(vs:List TV) (k:Nat),(List.range' k vs.length).zip vs=enumS k vs
 | [],k=>rfl
 |v::vs,k=>by simp only [Ag,List.range'_succ,List.zip_cons_cons,enumS,qhg vs]
theorem zfn {f:Fn} {vs:List TV} {b:Nat} {s:St}:inK Φ N f (some ((vs,b),s))=outK f (goN Φ N [.c f.body] (enumS 0 vs++vgx 0 f.modes vs) s.nodes (b+1)):=by
 simp only [inK,List.range_eq_range',qhg]
theorem vag {f:Fn} {args:List CV} (h:args.length=f.modes.length):vaf Φ N f args=inK Φ N f ((vbe f.keeps 0 args).run ⟨[],[],0⟩):=by
 unfold vaf inK;rw [if_pos h];cases (vbe f.keeps 0 args).run ⟨[],[],0⟩ with
 |none=>rfl
 |some p=>
  obtain ⟨⟨vs,b⟩,s⟩:=p;rfl
attribute [go_sem] zb4 qy9 zfn
def stoN (n:Option Node) (w id o:Nat) (y:TV) (sl:vb8) (nd:vb5) (nx:Nat):Option (Unit×St):=
 match n with
 |some (.bx false cs)=>if y.cells.length=w∧o+w≤cs.length∧y.cells.all TV.one=true then some ((),⟨sl,(id,some (.bx false (cs.take o++y.cells++cs.drop (o+w))))::nd,nx⟩) else none
 |_=>none
theorem vux {w id o:Nat} {y:TV}:(storeBox w id o y).run ⟨sl,nd,nx⟩=stoN (vbw nd id) w id o y sl nd nx:=by
 simp only [storeBox,vaq,stoN,vbw];simp only [VM.getN,M.run,St.node];cases (look nd id).getD none with
 |none=>rfl
 |some n=>
  cases n with
  |sl _ _ _ _=>rfl
  |bx z cs=>
   cases z with
   |true=>rfl
   |false=>simp only;split<;>rfl
theorem zkm {b w id:Nat} {y:TV}:(storeAt b w (.rf id) y).run ⟨sl,nd,nx⟩=stoN (vbw nd id) w id 0 y sl nd nx:=vux
theorem zji {b w id o:Nat} {y:TV}:(storeAt b w (.ad id o) y).run ⟨sl,nd,nx⟩=stoN (vbw nd id) w id o y sl nd nx:=vux
theorem zh7 {cs:List TV} {w id o:Nat} {y:TV} (h1:y.cells.length=w) (h2:o+w≤cs.length) (h3:y.cells.all TV.one=true):stoN (some (.bx false cs)) w id o y sl nd nx=
  some ((),⟨sl,(id,some (.bx false (cs.take o++y.cells++cs.drop (o+w))))::nd,nx⟩):=by
 simp [stoN,h1,h2,h3]
attribute [go_sem] zkm zji zh7
def stoX (x:Option PV) (q:Bool) (ver e:Nat) (es:List PV) (ys:List PV×Bool) (b w id i o:Nat):M Unit:=
 match x with
 |some x=>if ys.1.length=w∧o+w≤x.cells.length then
   setN id (some (.sl (q||ys.2) (if vep ys.1 x o w then ver else b+1) e (es.set i (vbp x o ys.1))))
  else .fail
 |none=> .fail
def stoE (n:Option Node) (ys:List PV×Bool) (b w id i o:Nat):M Unit:=
 match n with
 |some (.sl q ver e es)=>stoX es[i]? q ver e es ys b w id i o
 |_=> .fail
theorem qmp {x:PV} {q:Bool} {ver e:Nat} {es:List PV} {ys:List PV×Bool} {b w id i o:Nat} (h1:ys.1.length=w) (h2:o+w≤x.cells.length):stoX (some x) q ver e es ys b w id i o=
  setN id (some (.sl (q||ys.2) (if vep ys.1 x o w then ver else b+1) e (es.set i (vbp x o ys.1)))):=by simp [stoX,h1,h2]
theorem qs9 {q:Bool} {ver e:Nat} {es:List PV} {ys:List PV×Bool} {b w id i o:Nat}:stoE (some (.sl q ver e es)) ys b w id i o=stoX es[i]? q ver e es ys b w id i o:=rfl
theorem zc6 {ys:List PV} {x:PV} {o w a c:Nat} (h:vep ys x o w=true):(if vep ys x o w=true then a else c)=a:=by simp [h]
theorem zlh {v:Value} {y:PV}:vbp (.a v) 0 [y]=y:=rfl
theorem zi2 {e:Nat} {es:List PV} {y:PV}:vbp (.sl e es) 0 [y]=y:=rfl
theorem zig {e:Nat} {es:List PV} {y:PV}:vbp (.fz e es) 0 [y]=y:=rfl
theorem zke {cs ys:List PV} {o:Nat}:vbp (.st cs) o ys= .st (cs.take o++ys++cs.drop (o+ys.length)):=rfl
theorem qwf {b w id i m o:Nat} {y:TV}:storeAt b w (.ea id i m o) y=(toPVs y.cells).bind fun ys=>(getN id).bind fun n=>stoE n ys b w id i o:=by
 rfl
attribute [go_sem] zc6 zlh zi2 zig zke
def stiK (id:Nat) (q:Bool) (ver e:Nat):Option (List PV)→M Unit
 |some es1=>setN id (some (.sl q ver e es1))
 |none=> .fail
def stiX (w id:Nat) (q:Bool) (ver e:Nat) (es:List PV) (p:List (Nat×Nat×Nat)) (i m o e':Nat) (es' ys:List PV):Option PV→M Unit
 |some x=>if x.cells.length=m∧ys.length=w∧o+w≤x.cells.length∧vep ys x o w=true then stiK id q ver e (dput es p (.sl e' (es'.set i (vbp x o ys)))) else .fail
 |none=> .fail
def stiD (w id:Nat) (q:Bool) (ver e:Nat) (es:List PV) (p:List (Nat×Nat×Nat)) (i m o:Nat) (ys:List PV):Option (Nat×List PV)→M Unit
 |some (e',es')=>stiX w id q ver e es p i m o e' es' ys es'[i]?
 |none=> .fail
def stiN (w id ver:Nat) (p:List (Nat×Nat×Nat)) (i m o:Nat) (ys:Option (List PV)):Option Node→M Unit
 |some (.sl q ver' e es)=>if ver'=ver then vpi w id q ver e es p i m o (dget es p) ys else .fail
 |_=> .fail
theorem zjr {b w id ver i m o:Nat} {p:List (Nat×Nat×Nat)} {y:TV} {s:St}:M.run (storeAt b w (.ei id ver p i m o) y) s=M.run ((getN id).bind (stiN w id ver p i m o (veh y.cells))) s:=rfl
theorem zhm {w id ver e i m o:Nat} {q:Bool} {es ys:List PV} {p:List (Nat×Nat×Nat)} {s:St}:M.run (stiN w id ver p i m o (some ys) (some (.sl q ver e es))) s=M.run (stiD w id q ver e es p i m o ys (dget es p)) s:=by
 simp only [stiN,if_true,vpi];cases dget es p with
 |none=>rfl
 |some r=>
  obtain ⟨e',es'⟩:=r;simp only [stiD];cases es'[i]? with
  |none=>rfl
  |some x=>
   simp only [stiX];split
   ·cases dput es p _<;>rfl
   ·rfl
theorem qzj {w id ver e i m o e':Nat} {q:Bool} {es es' ys:List PV} {p:List (Nat×Nat×Nat)} {s:St}:M.run (stiD w id q ver e es p i m o ys (some (e',es'))) s=M.run (stiX w id q ver e es p i m o e' es' ys es'[i]?) s:=rfl
theorem qzf {w id ver e i m o e':Nat} {q:Bool} {es es' ys:List PV} {p:List (Nat×Nat×Nat)} {x:PV} {s:St} (h1:x.cells.length=m) (h2:ys.length=w) (h3:o+w≤x.cells.length) (h4:vep ys x o w=true):
  M.run (stiX w id q ver e es p i m o e' es' ys (some x)) s=M.run (stiK id q ver e (dput es p (.sl e' (es'.set i (vbp x o ys))))) s:=by simp [stiX,h1,h2,h4,h1▸h3]
theorem zaq {id ver e:Nat} {q:Bool} {es1:List PV} {s:St}:M.run (stiK id q ver e (some es1)) s=M.run (setN id (some (.sl q ver e es1))) s:=rfl
theorem qka:toPVs []= .pure ([],false):=rfl
theorem qjh {x:TV} {xs:List TV}:toPVs (x::xs)=(toPV x).bind fun y=>(toPVs xs).bind fun ys=> .pure (y.1::ys.1,y.2||ys.2):=rfl
theorem qwk {v:Value} (h:one1 v=true):toPV (.a v)= .pure (.a v,false):=by simp [toPV,h]
theorem qsp {e:Nat}:toPV (.nl e)= .pure (.sl e [],false):=rfl
theorem qse {e:Nat} {es:List PV}:toPV (.sz e es)= .pure (.fz e es,true):=rfl
theorem qrc {id:Nat}:toPV (.rf id)=(getN id).bind fun n=>match n with
  |some (.sl q _ e es)=>(setN id none).bind fun _=> .pure (.sl e es,q)
  |_=> .fail:=rfl
attribute [go_sem ↓] zjr zhm qzj qzf zaq
theorem zki {v:Value} (h:one1 v=true):atomPV (.a v)=some (.a v):=by simp [atomPV,h]
theorem qzz:veh []=some []:=rfl
theorem qx4 {v:Value} {xs:List TV} (h:one1 v=true):veh (.a v::xs)=(veh xs).map (.a v::·):=by
 simp only [veh,atomPV,h,if_true];cases veh xs<;>rfl
theorem qom {v:Value} (h:one1 v=true):toEl true (.a v)= .pure (.a v,false):=by simp only [toEl,if_true,atomPV,h];rfl
theorem qj3 {cs:List TV}:toEl true (.st cs)=(liftO (veh cs)).bind fun ys=> .pure (.st ys,false):=rfl
theorem qkv {cs:List TV}:toEl false (.st cs)=(toPVs cs).bind fun ys=> .pure (.st ys.1,ys.2):=rfl
theorem qpx {v:Value}:toEl false (.a v)=toPV (.a v):=rfl
theorem qkh {e:Nat}:toEl false (.nl e)=toPV (.nl e):=rfl
theorem qj9 {i:Nat}:toEl false (.rf i)=toPV (.rf i):=rfl
theorem qm0 {e:Nat} {es:List PV}:toEl false (.sz e es)=toPV (.sz e es):=rfl
theorem za0:flatZ []=true:=rfl
theorem zhb {v:Value} {zs:List ZC}:flatZ (.v v::zs)=flatZ zs:=rfl
theorem zbs {e:Nat} {zs:List ZC}:flatZ (.nl e::zs)=false:=rfl
theorem zdt {z:ZC}:zeroEl 1 [z]=z.pv:=rfl
theorem zc5 {z z':ZC} {zs:List ZC} {m:Nat}:zeroEl (m+2) (z::z'::zs)= .st (z.pv::z'.pv::zs.map ZC.pv):=rfl
theorem zk7 {v:Value}:(ZC.v v).pv= .a v:=rfl
theorem zit {e:Nat}:(ZC.nl e).pv= .sl e []:=rfl
attribute [go_sem] zki qzz qx4 za0 zhb zbs zdt zc5 zk7 zit
def apto (n:Option Node) (e id:Nat) (sl:vb8) (nd:vb5) (nx:Nat):Option ((List PV×Bool)×St):=
 match n with
 |some (.sl q _ e' es)=>if e'=e then some ((es,q),⟨sl,(id,none)::nd,nx⟩) else none
 |_=>none
theorem zgw {q:Bool} {ver e id:Nat} {es:List PV}:apto (some (.sl q ver e es)) e id sl nd nx=some ((es,q),⟨sl,(id,none)::nd,nx⟩):=by simp [apto]
theorem zbm {b e:Nat} {s:St}:(appTo b e (.nl e)).run s=some (([],false),s):=by simp [appTo,M.run]
theorem zd8 {b e id:Nat}:(appTo b e (.rf id)).run ⟨sl,nd,nx⟩=apto (vbw nd id) e id sl nd nx:=by
 simp only [appTo,vaq,apto,vbw];simp only [VM.getN,M.run,St.node];cases (look nd id).getD none with
 |none=>rfl
 |some n=>
  cases n with
  |bx _ _=>rfl
  |sl q ver e' es=>simp only;split<;>rfl
attribute [go_sem] zgw zbm zd8
def aptI (b e id ver:Nat) (p:List (Nat×Nat×Nat)):Option Node→M (List PV×Bool)
 |some (.sl q ver' e' es)=>if ver'=ver then takeIn b e id q e' (dget es p) (dput es p .un) else .fail
 |_=> .fail
def aptS (n:Option Node) (e id lo k:Nat) (sl:vb8) (nd:vb5) (nx:Nat):Option ((List PV×Bool)×St):=
 match n with
 |some (.sl q _ e' es)=>if e'=e then if lo+k=es.length then some ((es.drop lo,q),⟨sl,(id,none)::nd,nx⟩) else none else none
 |_=>none
theorem zff {q:Bool} {ver e id lo k:Nat} {es:List PV} (h:lo+k=es.length):aptS (some (.sl q ver e es)) e id lo k sl nd nx=some ((es.drop lo,q),⟨sl,(id,none)::nd,nx⟩):=by simp [aptS,h]
theorem zdi {b e id lo k:Nat}:(appTo b e (.sb id lo k)).run ⟨sl,nd,nx⟩=aptS (vbw nd id) e id lo k sl nd nx:=by
 simp only [appTo,vaq,aptS,vbw];simp only [VM.getN,M.run,St.node];cases (look nd id).getD none with
 |none=>rfl
 |some n=>
  cases n with
  |bx _ _=>rfl
  |sl q ver e' es=>simp only;split<;>(try split)<;>rfl
theorem zdu {b e id ver:Nat} {p:List (Nat×Nat×Nat)} {s:St}:(appTo b e (.ri id ver p)).run s=((getN id).bind (aptI b e id ver p)).run s:=rfl
theorem zha {b e id ver e':Nat} {q:Bool} {es:List PV} {p:List (Nat×Nat×Nat)} {s:St}:M.run (aptI b e id ver p (some (.sl q ver e' es))) s=M.run (takeIn b e id q e' (dget es p) (dput es p .un)) s:=by simp [aptI]
theorem qwt {b e id e':Nat} {q:Bool} {es es1:List PV} {s:St}:M.run (takeIn b e id q e' (some (e,es)) (some es1)) s=some ((es,q),⟨s.slots,(id,some (.sl q (b+51) e' es1))::s.nodes,s.next⟩):=by
 simp only [takeIn,if_true];rfl
attribute [go_sem] zff zdi zdu zha qwt
def apof (n:Option Node) (e id:Nat) (sl:vb8) (nd:vb5) (nx:Nat):Option ((List PV×Bool)×St):=
 match n with
 |some (.sl _ _ e' es)=>if e'=e then some ((es.map PV.cpy,false),⟨sl,nd,nx⟩) else none
 |_=>none
theorem zfp {q:Bool} {ver e id:Nat} {es:List PV}:apof (some (.sl q ver e es)) e id sl nd nx=some ((es.map PV.cpy,false),⟨sl,nd,nx⟩):=by simp [apof]
theorem zcv {e id:Nat}:(appOf e true (.rf id)).run ⟨sl,nd,nx⟩=apto (vbw nd id) e id sl nd nx:=by
 simp only [appOf,vaq,apto,vbw];simp only [VM.getN,M.run,St.node];cases (look nd id).getD none with
 |none=>rfl
 |some n=>
  cases n with
  |bx _ _=>rfl
  |sl q ver e' es=>simp only [if_true];split<;>rfl
theorem zdz {e id:Nat}:(appOf e false (.rf id)).run ⟨sl,nd,nx⟩=apof (vbw nd id) e id sl nd nx:=by
 simp only [appOf,vaq,apof,vbw];simp only [VM.getN,M.run,St.node];cases (look nd id).getD none with
 |none=>rfl
 |some n=>
  cases n with
  |bx _ _=>rfl
  |sl q ver e' es=>simp only [Ac,if_false];split<;>rfl
attribute [go_sem] zfp zcv zdz
def apel (o:Option (Nat×List PV)) (e:Nat) (s:St):Option ((List PV×Bool)×St):=
 match o with
 |some (e',es)=>if e'=e then some ((es.map PV.cpy,false),s) else none
 |none=>none
theorem za6 {e:Nat} {es:List PV} {s:St}:apel (some (e,es)) e s=some ((es.map PV.cpy,false),s):=by simp [apel]
theorem vti {e:Nat} {mv:Bool} {y:TV} {s:St} (h:∀id,y≠ .rf id) (hz:mv=false∨∀e es,y≠ .sz e es):(appOf e mv y).run s=apel (vdf s.nodes y) e s:=by
 have:appOf e mv y=(elems y).bind fun r=>if r.1=e then .pure (r.2.map PV.cpy,false) else .fail:=by
  have hc:∀es,cpyOf mv y es=(es.map PV.cpy,false):=fun es=>by
   unfold cpyOf;split
   ·rcases hz with hz|hz
    ·cases hz
    ·exact absurd rfl (hz _ _)
   ·rfl
  cases y<;>first|exact absurd rfl (h _)|(simp only [appOf,hc])
 rw [this];simp only [vaq,vpt];cases vdf s.nodes y with
 |none=>rfl
 |some p=>
  obtain ⟨e',es⟩:=p;simp only [Aa,apel];split<;>rfl
theorem zeb {e e':Nat} {mv:Bool} {s:St}:(appOf e mv (.nl e')).run s=apel (some (e',[])) e s:=vti (by simp) (.inr (by simp))
theorem zc9 {e e':Nat} {es:List PV} {s:St}:(appOf e false (.sz e' es)).run s=apel (some (e',es)) e s:=vti (by simp) (.inl rfl)
theorem zdg {e:Nat} {es:List PV} {s:St}:(appOf e true (.sz e es)).run s=some ((es.map PV.fzc,true),s):=by
 simp [appOf,elems,M.bind,M.run,cpyOf]
theorem zbi {e i j k:Nat} {mv:Bool} {s:St}:(appOf e mv (.sb i j k)).run s=apel (elemsB (vbw s.nodes i) j k) e s:=vti (by simp) (.inr (by simp))
theorem zdm {e i j:Nat} {p:List (Nat×Nat×Nat)} {mv:Bool} {s:St}:(appOf e mv (.ri i j p)).run s=apel (elemsI (vbw s.nodes i) j p) e s:=vti (by simp) (.inr (by simp))
attribute [go_sem] za6 zeb zc9 zdg zbi zdm
def app2 (b e by_:Nat) (xs:List PV×Bool) (o:Option ((List PV×Bool)×St)):Option (TV×St):=
 match o with
 |some (ys,s)=>if capOk (xs.1.length+ys.1.length) by_=true then some (.rf b,⟨s.slots,(b,some (.sl (xs.2||ys.2) 0 e (xs.1++ys.1)))::s.nodes,s.next⟩) else none
 |none=>none
def app1 (b e by_:Nat) (mv:Bool) (y:TV) (o:Option ((List PV×Bool)×St)):Option (TV×St):=
 match o with
 |some (xs,s)=>app2 b e by_ xs ((appOf e mv y).run s)
 |none=>none
theorem za3 {b e by_:Nat} {mv:Bool} {y:TV} {xs:List PV×Bool} {s:St}:app1 b e by_ mv y (some (xs,s))=app2 b e by_ xs ((appOf e mv y).run s):=rfl
theorem zgp {b e by_:Nat} {q q':Bool} {xs ys:List PV} {s:St} (h1:xs.length+ys.length≤9223372036854775807) (h2:(xs.length+ys.length) * by_≤140737488355328):app2 b e by_ (xs,q) (some ((ys,q'),s))=
  some (.rf b,⟨s.slots,(b,some (.sl (q||q') 0 e (xs++ys)))::s.nodes,s.next⟩):=by simp [app2,capOk,h1,h2]
theorem qyf {b e by_:Nat} {mv:Bool} {x y:TV} {s:St}:(appendM b e by_ mv x y).run s=app1 b e by_ mv y ((appTo b e x).run s):=by
 simp only [appendM,vaq,app1];cases (appTo b e x).run s with
 |none=>rfl
 |some p=>
  obtain ⟨xs,s1⟩:=p;simp only [app2];cases (appOf e mv y).run s1 with
  |none=>rfl
  |some p2=>
   obtain ⟨ys,s2⟩:=p2;simp only;split
   ·simp only [vaq];rfl
   ·rfl
theorem zk1 {v:Value}:(PV.a v).cpy= .a v:=rfl
theorem zez:List.map PV.cpy []= []:=rfl
theorem qcn:maxLen=9223372036854775807:=rfl
theorem zbo:depth=40:=rfl
attribute [go_sem] za3 zgp qyf zk1 zez zbo
attribute [go_sem] vgx
section
variable {z fz q:Bool} {k n b V:Nat}
theorem qxg {v:Value}:vbf z (k+1) n (.a v)= .pure (.a v):=rfl
theorem qvw {e:Nat}:vbf z (k+1) n (.nl e)= .pure (.sl true e []):=rfl
theorem qvp {e:Nat} {es:List PV}:vbf z (k+1) n (.sz e es)= .pure (.sl true e es):=rfl
theorem qu1 {cs:List TV}:vbf z (k+1) n (.st cs)=(vbr z k cs).bind fun cs'=> .pure (.st cs'):=rfl
theorem zj9 {f:Nat} {fs cs:List TV}:vbf z (k+1) n (.fn f fs cs)=(vbr z k fs).bind fun fs'=>(vbr z k cs).bind fun cs'=> .pure (.fn f fs' cs'):=rfl
theorem zia {t:Nat} {v:TV}:vbf z (k+1) n (.ic t v)=(vbf z k n v).bind fun v'=> .pure (.ic t v'):=rfl
theorem qus:vbf z (k+1) n .un= .pure .un:=rfl
theorem qwp {id:Nat}:vbf false (k+1) n (.rf id)=(getN id).bind fun m=>match m with
   |some (.sl q _ e es)=> .pure (.sl true e (if q then es.map PV.thaw else es))
   |some (.bx _ cs)=>(vbr false k cs).bind fun cs'=> .pure (.bx true cs')
   |none=> .fail:=rfl
theorem qwc {id lo j:Nat}:vbf false (k+1) n (.sb id lo j)=(getN id).bind fun m=>match m with
   |some (.sl q _ e es)=> .pure (.sl true e (if q then ((es.drop lo).take j).map PV.thaw else (es.drop lo).take j))
   |_=> .fail:=rfl
theorem qwn {id ver:Nat} {p:List (Nat×Nat×Nat)}:vbf false (k+1) n (.ri id ver p)=(getN id).bind fun m=>match m with
   |some (.sl q ver' _ es)=>if ver'=ver then match dget es p with
    |some (e,es')=> .pure (.sl true e (if q then es'.map PV.thaw else es'))
    |none=> .fail else .fail
   |_=> .fail:=rfl
theorem qvx {id o:Nat}:vbf false (k+1) n (.ad id o)=(getN id).bind fun m=>match m with
   |some (.bx _ cs)=>if 0<n∧o+n≤cs.length then (vbr false k ((cs.drop o).take n)).bind fun cs'=> .pure (.bx true cs') else .fail
   |_=> .fail:=rfl
theorem qpy:vbr z (k+1) []= .pure []:=rfl
theorem qkn {x:TV} {xs:List TV}:vbr z (k+1) (x::xs)=(vbf z k 0 x).bind fun y=>(vbr z k xs).bind fun ys=> .pure (y::ys):=rfl
theorem zc0 {v:Value}:pack fz (k+1) (.a v)= .pure (.a v):=rfl
theorem qyg {e:Nat}:pack fz (k+1) (.nl e)= .pure (.sl false e []):=rfl
theorem qx6 {e:Nat} {es:List PV}:pack true (k+1) (.sz e es)= .pure (.sl true e es):=rfl
theorem qxv {cs:List TV}:pack fz (k+1) (.st cs)=(vci fz k cs).bind fun cs'=> .pure (.st cs'):=rfl
theorem zli {f:Nat} {fs cs:List TV}:pack fz (k+1) (.fn f fs cs)=(vci fz k fs).bind fun fs'=>(vci fz k cs).bind fun cs'=> .pure (.fn f fs' cs'):=rfl
theorem zld {t:Nat} {v:TV}:pack fz (k+1) (.ic t v)=(pack fz k v).bind fun v'=> .pure (.ic t v'):=rfl
theorem qxr {id:Nat}:pack fz (k+1) (.rf id)=(getN id).bind fun m=>match m with
   |some (.sl q _ e es)=>if badFz q fz es then .fail else (setN id none).bind fun _=> .pure (.sl false e es)
   |some (.bx z cs)=>if z then .fail else (setN id none).bind fun _=>(vci fz k cs).bind fun cs'=> .pure (.bx false cs')
   |none=> .pure .un:=rfl
theorem qxo:pack fz (k+1) .un= .pure .un:=rfl
theorem qxd {id lo n:Nat}:pack fz (k+1) (.sb id lo n)=(getN id).bind fun m=>match m with
 |some (.sl q _ e es)=>if (q&& !fz)=true∨es.length<lo+n then .fail else (setN id none).bind fun _=> .pure (.sl false e ((es.drop lo).take n))
 |_=> .fail:=rfl
theorem qsw:vci fz (k+1) []= .pure []:=rfl
theorem qo6 {x:TV} {xs:List TV}:vci fz (k+1) (x::xs)=(pack fz k x).bind fun y=>(vci fz k xs).bind fun ys=> .pure (y::ys):=rfl
theorem qyz {v:Value}:vaw q b (.a v)= .pure (.a v,b):=rfl
theorem qyb {e:Nat} {es:List PV}:vaw q b (.sl true e es)= .pure (.sz e es,b):=rfl
theorem qy1 {e:Nat} {es:List PV}:vaw q b (.sl false e es)=(setN b (some (.sl q 0 e es))).bind fun _=> .pure (.rf b,b+1):=rfl
theorem qu3 {cs:List CV}:vaw q b (.bx z cs)=(vbe q (b+1) cs).bind fun r=>(setN b (some (.bx z r.1))).bind fun _=> .pure (.rf b,r.2):=rfl
theorem qvi {cs:List CV}:vaw q b (.st cs)=(vbe q b cs).bind fun r=> .pure (.st r.1,r.2):=rfl
theorem qwm {cs:List CV}:vaw q b (.tp cs)=(vbe q b cs).bind fun r=> .pure (.tp r.1,r.2):=rfl
theorem zjn {f:Nat} {fs cs:List CV}:vaw q b (.fn f fs cs)=(vbe q b fs).bind fun p=>(vbe q p.2 cs).bind fun r=> .pure (.fn f p.1 r.1,r.2):=rfl
theorem zi3 {t:Nat} {v:CV}:vaw q b (.ic t v)=(vaw q b v).bind fun r=> .pure (.ic t r.1,r.2):=rfl
theorem qvy:vaw q b .un= .pure (.un,b):=rfl
theorem quy {id e0 e:Nat} {es0 es:List PV}:vae q V b (.rf id) (.sl false e0 es0) (.sl false e es)=(getN id).bind fun m=>if m.isNone∧e0=e then (setN id (some (.sl q V e es))).bind fun _=> .pure b else .fail:=rfl
theorem qvt {id:Nat} {cs0 cs:List CV}:vae q V b (.rf id) (.bx false cs0) (.bx false cs)=(getN id).bind fun m=>if m.isNone then (vbe q b cs).bind fun r=>(setN id (some (.bx false r.1))).bind fun _=> .pure r.2 else .fail:=rfl
theorem zil {f f0 f1:Nat} {fs cs:List TV} {fs0 cs0 fs1 cs1:List CV}:vae q V b (.fn f fs cs) (.fn f0 fs0 cs0) (.fn f1 fs1 cs1)=(vbi q V b fs fs0 fs1).bind fun b'=>vbi q V b' cs cs0 cs1:=rfl
theorem qvj {cs:List TV} {cs0 cs1:List CV}:vae q V b (.st cs) (.st cs0) (.st cs1)=vbi q V b cs cs0 cs1:=rfl
theorem ziw {t t0 t1:Nat} {x:TV} {x0 x1:CV}:vae q V b (.ic t x) (.ic t0 x0) (.ic t1 x1)=vae q V b x x0 x1:=rfl
theorem qy5 {v:Value} {c0 c:CV}:vae q V b (.a v) c0 c= .pure b:=by simp only [vae]
theorem qv9 {e:Nat} {c0 c:CV}:vae q V b (.nl e) c0 c= .pure b:=by simp only [vae]
theorem qv3 {e:Nat} {es:List PV} {c0 c:CV}:vae q V b (.sz e es) c0 c= .pure b:=by simp only [vae]
theorem quz {c0 c:CV}:vae q V b .un c0 c= .pure b:=by simp only [vae]
theorem qy3 {v:Value}:lend0 q (.a v)=pack q depth (.a v):=rfl
theorem qwl {e:Nat}:lend0 q (.nl e)=pack q depth (.nl e):=rfl
theorem qwg {id:Nat}:lend0 q (.rf id)=pack q depth (.rf id):=rfl
theorem qv2 {id ver:Nat} {p:List (Nat×Nat×Nat)}:lend0 q (.ri id ver p)= .pure .un:=rfl
theorem qu9 {e:Nat} {es:List PV}:lend0 q (.sz e es)=pack q depth (.sz e es):=rfl
theorem qvf {cs:List TV}:lend0 q (.st cs)=pack q depth (.st cs):=rfl
theorem zh9 {f:Nat} {fs cs:List TV}:lend0 q (.fn f fs cs)=pack q depth (.fn f fs cs):=rfl
theorem zij {t:Nat} {v:TV}:lend0 q (.ic t v)=pack q depth (.ic t v):=rfl
theorem qvk:lend0 q .un=pack q depth .un:=rfl
theorem qyu {v:Value} {y:CV}:lend1 q V (.a v) y= .pure y:=rfl
theorem qvo {e:Nat} {y:CV}:lend1 q V (.nl e) y= .pure y:=rfl
theorem qwi {id:Nat} {y:CV}:lend1 q V (.rf id) y= .pure y:=rfl
theorem qu7 {e:Nat} {es:List PV} {y:CV}:lend1 q V (.sz e es) y= .pure y:=rfl
theorem qv7 {cs:List TV} {y:CV}:lend1 q V (.st cs) y= .pure y:=rfl
theorem zj1 {f:Nat} {fs cs:List TV} {y:CV}:lend1 q V (.fn f fs cs) y= .pure y:=rfl
theorem zj7 {t:Nat} {v:TV} {y:CV}:lend1 q V (.ic t v) y= .pure y:=rfl
theorem qvl {y:CV}:lend1 q V .un y= .pure y:=rfl
def carveK (id V e:Nat) (q:Bool) (r:Option (Nat×List PV)) (es1:Option (List PV)):M CV:=
 match r,es1 with
 |some r,some es1=>(setN id (some (.sl q V e es1))).bind fun _=> .pure (.sl false r.1 r.2)
 |_,_=> .fail
theorem qo7 {id e e':Nat} {es' es1:List PV}:carveK id V e q (some (e',es')) (some es1)=(setN id (some (.sl q V e es1))).bind fun _=> .pure (.sl false e' es'):=rfl
def ld1B (keeps:Bool) (V id ver:Nat) (p:List (Nat×Nat×Nat)):Option Node→M CV
 |some (.sl q ver' e es)=>if (q&& !keeps)=true∨ver'≠ver then .fail else carveK id V e q (dget es p) (dput es p .un)
 |_=> .fail
theorem qwd {keeps:Bool} {id ver e:Nat} {p:List (Nat×Nat×Nat)} {es:List PV}:ld1B keeps V id ver p (some (.sl false ver e es))=carveK id V e false (dget es p) (dput es p .un):=by simp [ld1B]
theorem qup {id ver e:Nat} {p:List (Nat×Nat×Nat)} {es:List PV}:ld1B true V id ver p (some (.sl q ver e es))=carveK id V e q (dget es p) (dput es p .un):=by simp [ld1B]
theorem qvh {id ver:Nat} {p:List (Nat×Nat×Nat)} {y:CV}:lend1 q V (.ri id ver p) y=(getN id).bind (ld1B q V id ver p):=by
 simp only [lend1];congr 1
theorem zd9 {v:Value} {c f:CV}:back1 q V b (.a v) c f=vae q V b (.a v) c f:=rfl
theorem qxu {e:Nat} {c f:CV}:back1 q V b (.nl e) c f=vae q V b (.nl e) c f:=rfl
theorem qxq {id:Nat} {c f:CV}:back1 q V b (.rf id) c f=vae q V b (.rf id) c f:=rfl
theorem qw9 {e:Nat} {es:List PV} {c f:CV}:back1 q V b (.sz e es) c f=vae q V b (.sz e es) c f:=rfl
theorem qx2 {cs:List TV} {c f:CV}:back1 q V b (.st cs) c f=vae q V b (.st cs) c f:=rfl
theorem zk3 {g:Nat} {fs cs:List TV} {c f:CV}:back1 q V b (.fn g fs cs) c f=vae q V b (.fn g fs cs) c f:=rfl
theorem zkx {t:Nat} {v:TV} {c f:CV}:back1 q V b (.ic t v) c f=vae q V b (.ic t v) c f:=rfl
theorem qys {c f:CV}:back1 q V b .un c f=vae q V b .un c f:=rfl
def fillK (id ver e b:Nat) (q:Bool) (c:Option PV) (es1:Option (List PV)):M Nat:=
 match c,es1 with
 |some .un,some es1=>(setN id (some (.sl q ver e es1))).bind fun _=> .pure b
 |_,_=> .fail
theorem qtc {id ver e:Nat} {es1:List PV}:fillK id ver e b q (some .un) (some es1)=(setN id (some (.sl q ver e es1))).bind fun _=> .pure b:=rfl
def bkB (q:Bool) (b id:Nat) (p:List (Nat×Nat×Nat)) (e':Nat) (es':List PV):Option Node→M Nat
 |some (.sl q0 ver e es)=>fillK id ver e b (q0||q) (dat es p) (dput es p (.sl e' es'))
 |_=> .fail
theorem qu6 {q0:Bool} {id ver e e':Nat} {p:List (Nat×Nat×Nat)} {es es':List PV}:bkB q b id p e' es' (some (.sl q0 ver e es))=fillK id ver e b (q0||q) (dat es p) (dput es p (.sl e' es')):=rfl
theorem qxy {id ver e':Nat} {p:List (Nat×Nat×Nat)} {es':List PV} {c:CV}:back1 q V b (.ri id ver p) c (.sl false e' es')=(getN id).bind (bkB q b id p e' es'):=by
 simp only [back1];congr 1
def dgC:Option PV→Option (Nat×List PV)
 |some (.sl e es)=>some (e,es)
 |_=>none
def dgK (m o:Nat):Option PV→Option (Nat×List PV)
 |some x=>if x.cells.length=m then dgC x.cells[o]? else none
 |none=>none
def dgN (p:List (Nat×Nat×Nat)):Option (Nat×List PV)→Option (Nat×List PV)
 |some (_,es)=>dget es p
 |none=>none
theorem ziy {e:Nat} {es:List PV}:dgC (some (.sl e es))=some (e,es):=rfl
theorem zbl {m o:Nat} {x:PV} (h:x.cells.length=m):dgK m o (some x)=dgC x.cells[o]? :=by simp [dgK,h]
theorem zew {p:List (Nat×Nat×Nat)} {e:Nat} {es:List PV}:dgN p (some (e,es))=dget es p:=rfl
theorem zj3 {es:List PV} {i m o:Nat}:dget es [(i,m,o)]=dgK m o es[i]? :=by
 simp only [dget];cases es[i]? with
 |none=>rfl
 |some x=>
  simp only [dgK];split
  ·cases x.cells[o]? with
   |none=>rfl
   |some c=>cases c<;>rfl
  ·rfl
theorem zkc {es:List PV} {i m o:Nat} {q:Nat×Nat×Nat} {p:List (Nat×Nat×Nat)}:dget es ((i,m,o)::q::p)=dgN (q::p) (dgK m o es[i]?):=by
 rw [dget];cases es[i]? with
 |none=>rfl
 |some x=>
  simp only [dgK];split
  ·cases x.cells[o]? with
   |none=>rfl
   |some c=>cases c<;>rfl
  ·rfl
attribute [go_sem] ziy zbl zew zj3 zkc
def dpK (es:List PV) (i m o:Nat) (c:PV):Option PV→Option (List PV)
 |some x=>if x.cells.length=m∧o<m then some (es.set i (vbp x o [c])) else none
 |none=>none
theorem zdx {es:List PV} {i m o:Nat} {c x:PV} (h:x.cells.length=m) (ho:o<m):dpK es i m o c (some x)=some (es.set i (vbp x o [c])):=by simp [dpK,h,ho]
theorem ziu {es:List PV} {i m o:Nat} {c:PV}:dput es [(i,m,o)] c=dpK es i m o c es[i]? :=by
 simp only [dput];cases es[i]? with
 |none=>rfl
 |some x=>
  simp only [dpK];by_cases h:x.cells.length=m
  ·rw [if_pos h];by_cases ho:o<m
   ·rw [Ab (h▸ho),if_pos ⟨h,ho⟩]
   ·rw [List.getElem?_eq_none zo,if_neg (fun x=>ho x.2)]
  ·rw [if_neg h,if_neg (fun x=>h x.1)]
attribute [go_sem] zdx ziu
def daK (m o:Nat):Option PV→Option PV
 |some x=>if x.cells.length=m then x.cells[o]? else none
 |none=>none
theorem zda {m o:Nat} {x:PV} (h:x.cells.length=m):daK m o (some x)=x.cells[o]? :=by simp [daK,h]
theorem zk4 {es:List PV} {i m o:Nat}:dat es [(i,m,o)]=daK m o es[i]? :=by
 simp only [dat];cases es[i]? with
 |none=>rfl
 |some x=>
  simp only [daK];split
  ·cases x.cells[o]? <;>rfl
  ·rfl
attribute [go_sem] zda zk4
end
end
end Go.Proofs.YtkidnhclcbcglaaGreat.VM.Sy
namespace Go.Proofs.YtkidnhclcbcglaaGreat.VM.Sy
open Go
section
variable {Φ:Nat→Option Callee} {N:Nat} {r:List It} {sl:vb8} {nd:vb5} {nx:Nat}
variable {z fz q:Bool} {k n b V:Nat}
theorem zb7 {b d e by_:Nat} {zs:List ZC} {n:Int} (h0:0≤n) (h1:n * by_≤140737488355328) (h2:n≤9223372036854775807) {s:St}:M.run (mksM b d e by_ zs (.a (.int .i64 n))) s=M.run ((setN b (some (.sl false 0 e (Ae n.toNat (zeroEl zs.length zs))))).bind fun _=>setS d (.rf b)) s:=by rw [qu8 h0 h1 h2]<;>rfl
theorem zay {flat q:Bool} {m:Nat} {es:List PV} {s:St}:M.run (bslM flat m [] q es) s=M.run (.pure (es,q)) s:=by rw [qtt]<;>rfl
theorem qya {flat q:Bool} {m i:Nat} {x:Opd} {ps:List (Nat×Opd)} {es:List PV} {s:St}:M.run (bslM flat m ((i,x)::ps) q es) s=M.run ((opd x).bind fun v=>(toEl flat v).bind fun y=>bslK flat q m i y ps es) s:=by rw [qp8]<;>rfl
theorem zed {flat q:Bool} {m i:Nat} {y:PV×Bool} {ps:List (Nat×Opd)} {es:List PV} (h1:y.1.cells.length=m) (h2:i<es.length) {s:St}:M.run (bslK flat q m i y ps es) s=M.run (bslM flat m ps (q||y.2) (es.set i y.1)) s:=by rw [qvn h1 h2]<;>rfl
theorem zag {d:Nat} {v:TV} {z:Bool} {cs:List TV} {s:St}:M.run (nilB d v (some (.bx z cs))) s=M.run (setS d v) s:=by rw [qre]<;>rfl
theorem qzb {d:Nat} {v:TV} {q:Bool} {ver e:Nat} {es:List PV} {s:St}:M.run (nilE d v (some (.sl q ver e es))) s=M.run (setS d v) s:=by rw [qs0]<;>rfl
theorem zbd {d id:Nat} {s:St}:M.run (nilM d (.rf id)) s=M.run ((getN id).bind (nilB d (.rf id))) s:=by rw [qu2]<;>rfl
theorem zbw {d id o:Nat} {s:St}:M.run (nilM d (.ad id o)) s=M.run (setS d (.ad id o)) s:=by rw [qvq]<;>rfl
theorem zb2 {d id i m o:Nat} {s:St}:M.run (nilM d (.ea id i m o)) s=M.run ((getN id).bind (nilE d (.ea id i m o))) s:=by rw [qut]<;>rfl
theorem zes {d o:Nat} {cs:List PV} {s:St}:M.run (nilM d (.ez cs o)) s=M.run (setS d (.ez cs o)) s:=by rw [qv6]<;>rfl
theorem zad {top b:Nat} {rs:List CV} (h:b≤top) {s:St}:M.run (resS top b rs) s=M.run ((liftO (plainL rs)).bind fun ts=>M.pure (oneOf ts)) s:=by rw [qs3 h]<;>rfl
theorem za1 {top:Nat} {r:List TV×Nat} (h:r.2≤top) {s:St}:M.run (resT top r) s=M.run (.pure (oneOf r.1)) s:=by rw [qq6 h]<;>rfl
theorem qt3 {q:Bool} {top b:Nat} {rs:List CV} {s:St}:M.run (vdv q top b rs) s=M.run ((vbe q b rs).bind (resT top)) s:=by rw [qf7]<;>rfl
theorem qw7 {d:Nat} {v:TV} {s:St}:M.run (putO (some d) v) s=M.run (setS d v) s:=by rw [qmv]<;>rfl
theorem qwx {v:TV} {s:St}:M.run (putO none v) s=M.run (.pure ()) s:=by rw [qkx]<;>rfl
theorem qw5 {x:PV} {q:Bool} {ver e:Nat} {es:List PV} {ys:List PV×Bool} {b w id i o:Nat} (h1:ys.1.length=w) (h2:o+w≤x.cells.length) {s:St}:M.run (stoX (some x) q ver e es ys b w id i o) s=M.run (setN id (some (.sl (q||ys.2) (if vep ys.1 x o w then ver else b+1) e (es.set i (vbp x o ys.1))))) s:=by rw [qmp h1 h2]<;>rfl
theorem za2 {q:Bool} {ver e:Nat} {es:List PV} {ys:List PV×Bool} {b w id i o:Nat} {s:St}:M.run (stoE (some (.sl q ver e es)) ys b w id i o) s=M.run (stoX es[i]? q ver e es ys b w id i o) s:=by rw [qs9]<;>rfl
theorem zej {b w id i m o:Nat} {y:TV} {s:St}:M.run (storeAt b w (.ea id i m o) y) s=M.run ((toPVs y.cells).bind fun ys=>(getN id).bind fun n=>stoE n ys b w id i o) s:=by rw [qwf]<;>rfl
theorem qw1 {s:St}:M.run (toPVs []) s=M.run (.pure ([],false)) s:=by rw [qka]<;>rfl
theorem qvz {x:TV} {xs:List TV} {s:St}:M.run (toPVs (x::xs)) s=M.run ((toPV x).bind fun y=>(toPVs xs).bind fun ys=> .pure (y.1::ys.1,y.2||ys.2)) s:=by rw [qjh]<;>rfl
theorem zdw {v:Value} (h:one1 v=true) {s:St}:M.run (toPV (.a v)) s=M.run (.pure (.a v,false)) s:=by rw [qwk h]<;>rfl
theorem zar {e:Nat} {s:St}:M.run (toPV (.nl e)) s=M.run (.pure (.sl e [],false)) s:=by rw [qsp]<;>rfl
theorem zba {e:Nat} {es:List PV} {s:St}:M.run (toPV (.sz e es)) s=M.run (.pure (.fz e es,true)) s:=by rw [qse]<;>rfl
theorem qxw {v:Value} (h:one1 v=true) {s:St}:M.run (toEl true (.a v)) s=M.run (.pure (.a v,false)) s:=by rw [qom h]<;>rfl
theorem qw0 {cs:List TV} {s:St}:M.run (toEl true (.st cs)) s=M.run ((liftO (veh cs)).bind fun ys=> .pure (.st ys,false)) s:=by rw [qj3]<;>rfl
theorem qwu {cs:List TV} {s:St}:M.run (toEl false (.st cs)) s=M.run ((toPVs cs).bind fun ys=> .pure (.st ys.1,ys.2)) s:=by rw [qkv]<;>rfl
theorem qx8 {v:Value} {s:St}:M.run (toEl false (.a v)) s=M.run (toPV (.a v)) s:=by rw [qpx]<;>rfl
theorem qw4 {e:Nat} {s:St}:M.run (toEl false (.nl e)) s=M.run (toPV (.nl e)) s:=by rw [qkh]<;>rfl
theorem qwz {i:Nat} {s:St}:M.run (toEl false (.rf i)) s=M.run (toPV (.rf i)) s:=by rw [qj9]<;>rfl
theorem qwy {e:Nat} {es:List PV} {s:St}:M.run (toEl false (.sz e es)) s=M.run (toPV (.sz e es)) s:=by rw [qm0]<;>rfl
theorem zfi {v:Value} {s:St}:M.run (vbf z (k+1) n (.a v)) s=M.run (.pure (.a v)) s:=by rw [qxg]<;>rfl
theorem zei {e:Nat} {s:St}:M.run (vbf z (k+1) n (.nl e)) s=M.run (.pure (.sl true e [])) s:=by rw [qvw]<;>rfl
theorem zcu {e:Nat} {es:List PV} {s:St}:M.run (vbf z (k+1) n (.sz e es)) s=M.run (.pure (.sl true e es)) s:=by rw [qvp]<;>rfl
theorem zbx {cs:List TV} {s:St}:M.run (vbf z (k+1) n (.st cs)) s=M.run ((vbr z k cs).bind fun cs'=> .pure (.st cs')) s:=by rw [qu1]<;>rfl
theorem zfd {s:St}:M.run (vbf z (k+1) n .un) s=M.run (.pure .un) s:=by rw [qus]<;>rfl
theorem qyw {s:St}:M.run (vbr z (k+1) []) s=M.run (.pure []) s:=by rw [qpy]<;>rfl
theorem qw8 {x:TV} {xs:List TV} {s:St}:M.run (vbr z (k+1) (x::xs)) s=M.run ((vbf z k 0 x).bind fun y=>(vbr z k xs).bind fun ys=> .pure (y::ys)) s:=by rw [qkn]<;>rfl
theorem zjo {v:Value} {s:St}:M.run (pack fz (k+1) (.a v)) s=M.run (.pure (.a v)) s:=by rw [zc0]<;>rfl
theorem zf7 {e:Nat} {s:St}:M.run (pack fz (k+1) (.nl e)) s=M.run (.pure (.sl false e [])) s:=by rw [qyg]<;>rfl
theorem zfu {e:Nat} {es:List PV} {s:St}:M.run (pack true (k+1) (.sz e es)) s=M.run (.pure (.sl true e es)) s:=by rw [qx6]<;>rfl
theorem zh3 {cs:List TV} {s:St}:M.run (pack fz (k+1) (.st cs)) s=M.run ((vci fz k cs).bind fun cs'=> .pure (.st cs')) s:=by rw [qxv]<;>rfl
theorem zfs {s:St}:M.run (pack fz (k+1) .un) s=M.run (.pure .un) s:=by rw [qxo]<;>rfl
theorem qz9 {s:St}:M.run (vci fz (k+1) []) s=M.run (.pure []) s:=by rw [qsw]<;>rfl
theorem qyh {x:TV} {xs:List TV} {s:St}:M.run (vci fz (k+1) (x::xs)) s=M.run ((pack fz k x).bind fun y=>(vci fz k xs).bind fun ys=> .pure (y::ys)) s:=by rw [qo6]<;>rfl
theorem zgg {v:Value} {s:St}:M.run (vaw q b (.a v)) s=M.run (.pure (.a v,b)) s:=by rw [qyz]<;>rfl
theorem zgz {e:Nat} {es:List PV} {s:St}:M.run (vaw q b (.sl true e es)) s=M.run (.pure (.sz e es,b)) s:=by rw [qyb]<;>rfl
theorem zfv {e:Nat} {es:List PV} {s:St}:M.run (vaw q b (.sl false e es)) s=M.run ((setN b (some (.sl q 0 e es))).bind fun _=> .pure (.rf b,b+1)) s:=by rw [qy1]<;>rfl
theorem zen {cs:List CV} {s:St}:M.run (vaw q b (.bx z cs)) s=M.run ((vbe q (b+1) cs).bind fun r=>(setN b (some (.bx z r.1))).bind fun _=> .pure (.rf b,r.2)) s:=by rw [qu3]<;>rfl
theorem ze7 {cs:List CV} {s:St}:M.run (vaw q b (.st cs)) s=M.run ((vbe q b cs).bind fun r=> .pure (.st r.1,r.2)) s:=by rw [qvi]<;>rfl
theorem zef {cs:List CV} {s:St}:M.run (vaw q b (.tp cs)) s=M.run ((vbe q b cs).bind fun r=> .pure (.tp r.1,r.2)) s:=by rw [qwm]<;>rfl
theorem zce {s:St}:M.run (vaw q b .un) s=M.run (.pure (.un,b)) s:=by rw [qvy]<;>rfl
theorem ze3 {id e0 e:Nat} {es0 es:List PV} {s:St}:M.run (vae q V b (.rf id) (.sl false e0 es0) (.sl false e es)) s=M.run ((getN id).bind fun m=>if m.isNone∧e0=e then (setN id (some (.sl q V e es))).bind fun _=> .pure b else .fail) s:=by rw [quy]<;>rfl
theorem zcy {id:Nat} {cs0 cs:List CV} {s:St}:M.run (vae q V b (.rf id) (.bx false cs0) (.bx false cs)) s=M.run ((getN id).bind fun m=>if m.isNone then (vbe q b cs).bind fun r=>(setN id (some (.bx false r.1))).bind fun _=> .pure r.2 else .fail) s:=by rw [qvt]<;>rfl
theorem zbe {cs:List TV} {cs0 cs1:List CV} {s:St}:M.run (vae q V b (.st cs) (.st cs0) (.st cs1)) s=M.run (vbi q V b cs cs0 cs1) s:=by rw [qvj]<;>rfl
theorem zgv {v:Value} {c0 c:CV} {s:St}:M.run (vae q V b (.a v) c0 c) s=M.run (.pure b) s:=by rw [qy5]<;>rfl
theorem zeg {e:Nat} {c0 c:CV} {s:St}:M.run (vae q V b (.nl e) c0 c) s=M.run (.pure b) s:=by rw [qv9]<;>rfl
theorem zb6 {e:Nat} {es:List PV} {c0 c:CV} {s:St}:M.run (vae q V b (.sz e es) c0 c) s=M.run (.pure b) s:=by rw [qv3]<;>rfl
theorem zcg {c0 c:CV} {s:St}:M.run (vae q V b .un c0 c) s=M.run (.pure b) s:=by rw [quz]<;>rfl
theorem zht {v:Value} {s:St}:M.run (lend0 q (.a v)) s=M.run (pack q 40 (.a v)) s:=by rw [qy3]<;>rfl
theorem zfa {e:Nat} {s:St}:M.run (lend0 q (.nl e)) s=M.run (pack q 40 (.nl e)) s:=by rw [qwl]<;>rfl
theorem zcm {id:Nat} {s:St}:M.run (lend0 q (.rf id)) s=M.run (pack q 40 (.rf id)) s:=by rw [qwg]<;>rfl
theorem zex {id ver:Nat} {p:List (Nat×Nat×Nat)} {s:St}:M.run (lend0 q (.ri id ver p)) s=M.run (.pure .un) s:=by rw [qv2]<;>rfl
theorem ze0 {e:Nat} {es:List PV} {s:St}:M.run (lend0 q (.sz e es)) s=M.run (pack q 40 (.sz e es)) s:=by rw [qu9]<;>rfl
theorem zem {cs:List TV} {s:St}:M.run (lend0 q (.st cs)) s=M.run (pack q 40 (.st cs)) s:=by rw [qvf]<;>rfl
theorem ze2 {s:St}:M.run (lend0 q .un) s=M.run (pack q 40 .un) s:=by rw [qvk]<;>rfl
theorem zgx {v:Value} {y:CV} {s:St}:M.run (lend1 q V (.a v) y) s=M.run (.pure y) s:=by rw [qyu]<;>rfl
theorem zcn {e:Nat} {y:CV} {s:St}:M.run (lend1 q V (.nl e) y) s=M.run (.pure y) s:=by rw [qvo]<;>rfl
theorem zey {id:Nat} {y:CV} {s:St}:M.run (lend1 q V (.rf id) y) s=M.run (.pure y) s:=by rw [qwi]<;>rfl
theorem zcx {e:Nat} {es:List PV} {y:CV} {s:St}:M.run (lend1 q V (.sz e es) y) s=M.run (.pure y) s:=by rw [qu7]<;>rfl
theorem zel {cs:List TV} {y:CV} {s:St}:M.run (lend1 q V (.st cs) y) s=M.run (.pure y) s:=by rw [qv7]<;>rfl
theorem zd7 {y:CV} {s:St}:M.run (lend1 q V .un y) s=M.run (.pure y) s:=by rw [qvl]<;>rfl
theorem qx5 {id e e':Nat} {es' es1:List PV} {s:St}:M.run (carveK id V e q (some (e',es')) (some es1)) s=M.run ((setN id (some (.sl q V e es1))).bind fun _=> .pure (.sl false e' es')) s:=by rw [qo7]<;>rfl
theorem zcb {keeps:Bool} {id ver e:Nat} {p:List (Nat×Nat×Nat)} {es:List PV} {s:St}:M.run (ld1B keeps V id ver p (some (.sl false ver e es))) s=M.run (carveK id V e false (dget es p) (dput es p .un)) s:=by rw [qwd]<;>rfl
theorem zb9 {id ver e:Nat} {p:List (Nat×Nat×Nat)} {es:List PV} {s:St}:M.run (ld1B true V id ver p (some (.sl q ver e es))) s=M.run (carveK id V e q (dget es p) (dput es p .un)) s:=by rw [qup]<;>rfl
theorem zcw {id ver:Nat} {p:List (Nat×Nat×Nat)} {y:CV} {s:St}:M.run (lend1 q V (.ri id ver p) y) s=M.run ((getN id).bind (ld1B q V id ver p)) s:=by rw [qvh]<;>rfl
theorem zi7 {v:Value} {c f:CV} {s:St}:M.run (back1 q V b (.a v) c f) s=M.run (vae q V b (.a v) c f) s:=by rw [zd9]<;>rfl
theorem zgj {e:Nat} {c f:CV} {s:St}:M.run (back1 q V b (.nl e) c f) s=M.run (vae q V b (.nl e) c f) s:=by rw [qxu]<;>rfl
theorem zf2 {id:Nat} {c f:CV} {s:St}:M.run (back1 q V b (.rf id) c f) s=M.run (vae q V b (.rf id) c f) s:=by rw [qxq]<;>rfl
theorem zhr {e:Nat} {es:List PV} {c f:CV} {s:St}:M.run (back1 q V b (.sz e es) c f) s=M.run (vae q V b (.sz e es) c f) s:=by rw [qw9]<;>rfl
theorem zgh {cs:List TV} {c f:CV} {s:St}:M.run (back1 q V b (.st cs) c f) s=M.run (vae q V b (.st cs) c f) s:=by rw [qx2]<;>rfl
theorem zhp {c f:CV} {s:St}:M.run (back1 q V b .un c f) s=M.run (vae q V b .un c f) s:=by rw [qys]<;>rfl
theorem qzy {id ver e:Nat} {es1:List PV} {s:St}:M.run (fillK id ver e b q (some .un) (some es1)) s=M.run ((setN id (some (.sl q ver e es1))).bind fun _=> .pure b) s:=by rw [qtc]<;>rfl
theorem zdh {q0:Bool} {id ver e e':Nat} {p:List (Nat×Nat×Nat)} {es es':List PV} {s:St}:M.run (bkB q b id p e' es' (some (.sl q0 ver e es))) s=M.run (fillK id ver e b (q0||q) (dat es p) (dput es p (.sl e' es'))) s:=by rw [qu6]<;>rfl
theorem zh4 {id ver e':Nat} {p:List (Nat×Nat×Nat)} {es':List PV} {c:CV} {s:St}:M.run (back1 q V b (.ri id ver p) c (.sl false e' es')) s=M.run ((getN id).bind (bkB q b id p e' es')) s:=by rw [qxy]<;>rfl
attribute [go_sem ↓] zb7 zay qya zed zag qzb zbd zbw zb2 zes zad za1 qt3 qw7 qwx qw5 za2 zej qw1 qvz zdw zar zba qxw qw0 qwu qx8 qw4 qwz qwy zfi zei zcu zbx zfd qyw qw8 zjo zf7 zfu zh3 zfs qz9 qyh zgg zgz zfv zen ze7 zef zce ze3 zcy zbe zgv zeg zb6 zcg zht zfa zcm zex ze0 zem ze2 zgx zcn zey zcx zel zd7 qx5 zcb zb9 zcw zi7 zgj zf2 zhr zgh zhp qzy zdh zh4
end
section
variable {keeps z fz q:Bool} {k n b V j:Nat} {s:St} {ms:List Md} {xs:List TV} {x:TV} {cs fs:List CV} {c f:CV} {y:CV} {ys:List CV}
theorem qzv:M.run (vbe q b []) s=M.run (.pure ([],b)) s:=rfl
theorem qxb {xs:List CV} {x:CV}:M.run (vbe q b (x::xs)) s=M.run ((vaw q b x).bind fun r=>(vbe q r.2 xs).bind fun p=> .pure (r.1::p.1,p.2)) s:=rfl
theorem zai:M.run (lend keeps [] []) s=M.run (.pure []) s:=rfl
theorem zb1:M.run (lend keeps (.ro n::ms) (x::xs)) s=M.run ((lend keeps ms xs).bind fun ys=> .pure (.un::ys)) s:=rfl
theorem qzm:M.run (lend keeps (.mut n::ms) (x::xs)) s=M.run ((lend0 keeps x).bind fun y=>(lend keeps ms xs).bind fun ys=> .pure (y::ys)) s:=rfl
theorem zj5:M.run (lendA keeps V ms xs) s=M.run ((lend keeps ms xs).bind fun ps=>vbo keeps V ms xs ps) s:=rfl
theorem qx9:M.run (vbo keeps V [] [] []) s=M.run (.pure []) s:=rfl
theorem qzh:M.run (vbo keeps V (.ro n::ms) (x::xs) (y::ys)) s=M.run ((vbo keeps V ms xs ys).bind fun ys=> .pure (y::ys)) s:=rfl
theorem qxl:M.run (vbo keeps V (.mut n::ms) (x::xs) (y::ys)) s=M.run ((lend1 keeps V x y).bind fun y=>(vbo keeps V ms xs ys).bind fun ys=> .pure (y::ys)) s:=rfl
theorem zam:M.run (show_ keeps [] [] []) s=M.run (.pure []) s:=rfl
theorem zdp:M.run (show_ keeps (.ro n::ms) (x::xs) (y::ys)) s=M.run ((vbf keeps 40 n x).bind fun y=>(show_ keeps ms xs ys).bind fun ys=> .pure (y::ys)) s:=rfl
theorem zab:M.run (show_ keeps (.mut n::ms) (x::xs) (y::ys)) s=M.run ((show_ keeps ms xs ys).bind fun ys=> .pure (y::ys)) s:=rfl
theorem zau:M.run (vaj q V b [] [] [] []) s=M.run (.pure b) s:=rfl
theorem zer:M.run (vaj q V b (.ro n::ms) (x::xs) (c::cs) fs) s=M.run (vaj q V b ms xs cs fs) s:=rfl
theorem zaj:M.run (vaj q V b (.mut n::ms) (x::xs) (c::cs) (f::fs)) s=M.run ((back1 q V b x c f).bind fun b'=>vaj q V b' ms xs cs fs) s:=rfl
theorem qzd:M.run (resTVs []) s=M.run (.pure []) s:=rfl
theorem zfg {rs:List RV}:M.run (resTVs (.t n::rs)) s=M.run ((getS n).bind fun v=>(resTVs rs).bind fun vs=> .pure (v::vs)) s:=rfl
theorem zhi {rs:List RV} {w:Option Nat}:M.run (resTVs (.cell n w::rs)) s=M.run ((getS n).bind fun u=>(loadAt w u).bind fun v=>(resTVs rs).bind fun vs=> .pure (v::vs)) s:=rfl
theorem qz5:M.run (packAll fz []) s=M.run (.pure []) s:=rfl
theorem qyj:M.run (packAll fz (x::xs)) s=M.run ((pack fz 40 x).bind fun y=>(packAll fz xs).bind fun ys=> .pure (y::ys)) s:=rfl
theorem qy6:M.run (lent j []) s=M.run (.pure []) s:=rfl
theorem zcc:M.run (lent j (.ro n::ms)) s=M.run (lent (j+1) ms) s:=rfl
theorem qzc:M.run (lent j (.mut n::ms)) s=M.run ((getS (10000+j)).bind fun v=>(lent (j+1) ms).bind fun vs=> .pure (v::vs)) s:=rfl
theorem qxx {ys0:List CV} {y0:CV}:M.run (vbi q V b (x::xs) (y0::ys0) (y::ys)) s=M.run ((vae q V b x y0 y).bind fun b'=>vbi q V b' xs ys0 ys) s:=rfl
theorem qz1 {ys0:List CV}:M.run (vbi q V b [] ys0 ys) s=M.run (.pure b) s:=by cases ys0<;>cases ys<;>rfl
theorem zlg {f:Fn}:M.run (takeOut f) s=M.run ((resTVs f.results).bind fun ts=>(alsOut (isAls f.modes) ts).bind fun _=>(packAll f.keeps ts).bind fun rs=>(lent 0 f.modes).bind fun us=>(packAll f.keeps us).bind fun fs=> .pure (rs,fs)) s:=rfl
attribute [go_sem ↓] qzv qxb zai zb1 qzm zj5 qx9 qzh qxl zam zdp zab zau zer zaj qzd zfg zhi qz5 qyj qy6 zcc qzc qxx qz1 zlg
theorem ziv:isAls (.ro n::ms)=false:=rfl
theorem zhk:isAls []=false:=rfl
theorem zjj:isAls (.mut 0::ms)=false:=rfl
theorem zid:isAls (.mut 1::ms)=false:=rfl
theorem zis:isAls (.mut 2::ms)=false:=rfl
theorem zj2:isAls (.mut 3::ms)=false:=rfl
theorem zie:isAls (.mut 4::ms)=false:=rfl
theorem zkl:isAls (.mut 5::ms)=false:=rfl
theorem zjb:isAls (.mut 6::ms)=false:=rfl
theorem zjl:isAls (.mut 7::ms)=false:=rfl
theorem zj0:isAls (.mut 8::ms)=false:=rfl
theorem zih:isAls (.mut 9::ms)=false:=rfl
theorem zhf:isAls (.mut 10::ms)=false:=rfl
theorem zfk:isAls (.mut 11::ms)=false:=rfl
theorem zgs:isAls (.mut 12::ms)=false:=rfl
theorem zdr:isAls (.mut 100::ms)=true:=rfl
attribute [go_sem] ziv zhk zjj zid zis zj2 zie zkl zjb zjl zj0 zih zhf zfk zgs zdr
theorem zgc {ts:List TV}:M.run (alsOut false ts) s=M.run (.pure ()) s:=rfl
attribute [go_sem ↓] zgc
def aloA (id k:Nat) (cs:List TV):TV→M Unit
 | .rf j=>if j=k then setN id (some (.bx false (.un::cs))) else .fail
 |_=> .fail
theorem zjq {id k:Nat} {cs:List TV}:M.run (aloA id k cs (.rf k)) s=M.run (setN id (some (.bx false (.un::cs)))) s:=by simp [aloA]
attribute [go_sem ↓] zjq
def aloB (id:Nat):Option Node→M Unit
 |some (.bx false (.rf k::cs))=>(getS 10000).bind (aloA id k cs)
 |_=> .fail
theorem zkf {id k:Nat} {cs:List TV}:M.run (aloB id (some (.bx false (.rf k::cs)))) s=M.run ((getS 10000).bind (aloA id k cs)) s:=rfl
theorem zgk {id:Nat}:M.run (alsOut true [.rf id]) s=M.run ((getN id).bind (aloB id)) s:=by
 unfold alsOut;rw [if_pos rfl];congr 2
attribute [go_sem ↓] zkf zgk
def aliB (k id:Nat):Option Node→M Unit
 |some (.bx false (.un::cs))=>setN id (some (.bx false (.rf k::cs)))
 |_=> .fail
theorem zj8 {id k:Nat} {cs:List TV}:M.run (aliB k id (some (.bx false (.un::cs)))) s=M.run (setN id (some (.bx false (.rf k::cs)))) s:=rfl
theorem zk6 {id k:Nat} {ms:List Md} {kp sc:Bool} {go:List CV→Option (List CV×List CV)} {xs:List TV}:M.run (alsIn (some ⟨.mut 100::ms,kp,sc,go⟩) (.rf k::xs) (.rf id)) s=M.run ((getN id).bind (aliB k id)) s:=by
 unfold alsIn;dsimp only;rw [if_pos (show isAls (.mut 100::ms)=true from rfl)];congr 2
theorem zix {ms:List Md} {kp:Bool} {go:List CV→Option (List CV×List CV)} {b:Nat} {d:Option Nat} {xs:List TV}:M.run (calaM ⟨ms,kp,false,go⟩ b d xs) s=M.run ((lendA kp (b+100) ms xs).bind fun ps=>(show_ kp ms xs ps).bind fun cs=>goM (go cs) fun rs fs=>(vaj kp (b+100) b ms xs cs fs).bind fun b'=>(vdv kp (b+99) b' rs).bind fun tv=>(alsIn (some ⟨ms,kp,false,go⟩) xs tv).bind fun _=>putO d tv) s:=rfl
attribute [go_sem ↓] zj8 zk6 zix
def frzB (k:Nat):Option Node→M CV
 |some (.sl q _ e es)=> .pure (.sl true e (if q then es.map PV.thaw else es))
 |some (.bx _ cs)=>(vbr false k cs).bind fun cs'=> .pure (.bx true cs')
 |none=> .fail
theorem qti {id:Nat}:vbf false (k+1) n (.rf id)=(getN id).bind (frzB k):=by
 rw [qwp];congr 1
theorem zds {id:Nat}:M.run (vbf false (k+1) n (.rf id)) s=M.run ((getN id).bind (frzB k)) s:=by rw [qti]
theorem zae {ver e:Nat} {es:List PV}:M.run (frzB k (some (.sl q ver e es))) s=M.run (.pure (.sl true e (if q then es.map PV.thaw else es))) s:=rfl
theorem zah {cs:List TV}:M.run (frzB k (some (.bx z cs))) s=M.run ((vbr false k cs).bind fun cs'=> .pure (.bx true cs')) s:=rfl
attribute [go_sem ↓] zds zae zah
def frzS (lo j:Nat):Option Node→M CV
 |some (.sl q _ e es)=> .pure (.sl true e (if q then ((es.drop lo).take j).map PV.thaw else (es.drop lo).take j))
 |_=> .fail
theorem zea {id lo:Nat}:M.run (vbf false (k+1) n (.sb id lo j)) s=M.run ((getN id).bind (frzS lo j)) s:=by
 rw [qwc];congr 1
theorem qzk {lo ver e:Nat} {es:List PV}:M.run (frzS lo j (some (.sl q ver e es))) s=M.run (.pure (.sl true e (if q then ((es.drop lo).take j).map PV.thaw else (es.drop lo).take j))) s:=rfl
attribute [go_sem ↓] zea qzk
def frzD (q:Bool):Option (Nat×List PV)→M CV
 |some (e,es)=> .pure (.sl true e (if q then es.map PV.thaw else es))
 |none=> .fail
def frzI (ver:Nat) (p:List (Nat×Nat×Nat)):Option Node→M CV
 |some (.sl q ver' _ es)=>if ver'=ver then frzD q (dget es p) else .fail
 |_=> .fail
theorem zek {id ver:Nat} {p:List (Nat×Nat×Nat)}:M.run (vbf false (k+1) n (.ri id ver p)) s=M.run ((getN id).bind (frzI ver p)) s:=by
 rw [qwn];congr 1
theorem qz0 {ver ver' e:Nat} {es:List PV} {p:List (Nat×Nat×Nat)}:M.run (frzI ver p (some (.sl q ver' e es))) s=M.run (if ver'=ver then frzD q (dget es p) else .fail) s:=rfl
attribute [go_sem ↓] zek qz0
theorem qw3 {e:Nat} {es:List PV}:M.run (frzD q (some (e,es))) s=M.run (.pure (.sl true e (if q then es.map PV.thaw else es))) s:=rfl
attribute [go_sem] qw3
def frzA (k n o:Nat):Option Node→M CV
 |some (.bx _ cs)=>if 0<n∧o+n≤cs.length then (vbr false k ((cs.drop o).take n)).bind fun cs'=> .pure (.bx true cs') else .fail
 |_=> .fail
theorem zbk {id o:Nat}:M.run (vbf false (k+1) n (.ad id o)) s=M.run ((getN id).bind (frzA k n o)) s:=by
 rw [qvx];congr 1
theorem qzt {o:Nat} {cs:List TV}:M.run (frzA k n o (some (.bx z cs))) s=M.run (if 0<n∧o+n≤cs.length then (vbr false k ((cs.drop o).take n)).bind fun cs'=> .pure (.bx true cs') else .fail) s:=rfl
attribute [go_sem ↓] zbk qzt
def pkC (fz:Bool) (id lo n:Nat):Option Node→M CV
 |some (.sl q _ e es)=>if (q&& !fz)=true∨es.length<lo+n then .fail else (setN id none).bind fun _=> .pure (.sl false e ((es.drop lo).take n))
 |_=> .fail
theorem zhq {id lo n:Nat}:M.run (pack fz (k+1) (.sb id lo n)) s=M.run ((getN id).bind (pkC fz id lo n)) s:=by
 rw [qxd];congr 1
theorem zhs {id lo n ver e:Nat} {es:List PV} (h:lo+n≤es.length):M.run (pkC true id lo n (some (.sl q ver e es))) s=M.run ((setN id none).bind fun _=> .pure (.sl false e ((es.drop lo).take n))) s:=by
 unfold pkC;dsimp only;rw [if_neg (by simp;omega)]
theorem zhg {id lo n ver e:Nat} {es:List PV} (h:lo+n≤es.length):M.run (pkC fz id lo n (some (.sl false ver e es))) s=M.run ((setN id none).bind fun _=> .pure (.sl false e ((es.drop lo).take n))) s:=by
 unfold pkC;dsimp only;rw [if_neg (by simp;omega)]
theorem zfb {id lo n:Nat}:M.run (lend0 q (.sb id lo n)) s=M.run (pack q 40 (.sb id lo n)) s:=rfl
attribute [go_sem ↓] zhq zhs zhg zfb
def pkB (fz:Bool) (k id:Nat):Option Node→M CV
 |some (.sl q _ e es)=>if badFz q fz es then .fail else (setN id none).bind fun _=> .pure (.sl false e es)
 |some (.bx z cs)=>if z then .fail else (setN id none).bind fun _=>(vci fz k cs).bind fun cs'=> .pure (.bx false cs')
 |none=> .pure .un
theorem zhy {id:Nat}:M.run (pack fz (k+1) (.rf id)) s=M.run ((getN id).bind (pkB fz k id)) s:=by
 rw [qxr];congr 1
theorem zfj {id ver e:Nat} {es:List PV}:M.run (pkB true k id (some (.sl q ver e es))) s=M.run ((setN id none).bind fun _=> .pure (.sl false e es)) s:=by
 cases q<;>rfl
theorem zg7 {id ver e:Nat} {es:List PV}:M.run (pkB fz k id (some (.sl false ver e es))) s=M.run ((setN id none).bind fun _=> .pure (.sl false e es)) s:=rfl
attribute [go_sem ↓] zhy zfj zg7
def pkF (id e:Nat) (es:List PV) (b:Bool):M CV:=if b=true then (setN id none).bind fun _=> .pure (.sl false e es) else .fail
theorem zhn {id ver e:Nat} {es:List PV}:M.run (pkB false k id (some (.sl true ver e es))) s=M.run (pkF id e es (nfzL es)) s:=by
 show M.run (if badFz true false es then M.fail else (setN id none).bind fun _=>M.pure (CV.sl false e es)) s=_;unfold badFz pkF;cases nfzL es<;>rfl
attribute [go_sem ↓] zhn
theorem zk9 {id e:Nat} {es:List PV}:pkF id e es true=(setN id none).bind fun _=> .pure (.sl false e es):=rfl
attribute [go_sem] zk9
theorem zcz {id:Nat} {cs:List TV}:M.run (pkB fz k id (some (.bx z cs))) s=M.run (if z then .fail else (setN id none).bind fun _=>(vci fz k cs).bind fun cs'=> .pure (.bx false cs')) s:=rfl
theorem qx3 {id:Nat}:M.run (pkB fz k id none) s=M.run (.pure .un) s:=rfl
attribute [go_sem ↓] zcz qx3
def topvB (id:Nat):Option Node→M (PV×Bool)
 |some (.sl q _ e es)=>(setN id none).bind fun _=> .pure (.sl e es,q)
 |_=> .fail
theorem zaz {id:Nat}:M.run (toPV (.rf id)) s=M.run ((getN id).bind (topvB id)) s:=by
 rw [qrc];congr 1
theorem qyt {id ver e:Nat} {es:List PV}:M.run (topvB id (some (.sl q ver e es))) s=M.run ((setN id none).bind fun _=> .pure (.sl e es,q)) s:=rfl
attribute [go_sem ↓] zaz qyt
end
end Go.Proofs.YtkidnhclcbcglaaGreat.VM.Sy
namespace Go.Proofs.YtkidnhclcbcglaaGreat.VM
open Go
def vad:Nat:=2^62
theorem vay {n:Nat} (h:n<4611686018427387904):n<vad:=h
def calF (Φ:Nat→Option Callee) (N:Nat) (v:Fn):Callee:={modes:=v.modes,keeps:=v.keeps,scalar:=v.scalar,go:=vaf Φ N v}
def tower (tab:List (Nat×Fn)) (ext:Nat→Option Callee) (N:Nat):Nat→Nat→Option Callee
 |0,_=>none
 |d+1,f=>match ext f with
  |some c=>some c
  |none=>match look tab f with
   |some v=>some (calF (tower tab ext N d) N v)
   |none=>none
theorem qjz {tab:List (Nat×Fn)} {ext:Nat→Option Callee} {N d f:Nat} {v:Fn} (h:ext f=none) (ht:look tab f=some v):tower tab ext N (d+1) f=some (calF (tower tab ext N d) N v):=by
 simp only [tower,h,ht]
theorem qke {tab:List (Nat×Fn)} {ext:Nat→Option Callee} {N d f:Nat} {c:Callee} (h:ext f=some c):tower tab ext N (d+1) f=some c:=by
 simp only [tower,h]
theorem ofR {p:Prop} (h:p):p:=h
theorem ofB {m n:Nat} (h:Nat.ble m n=true):m≤n:=Nat.le_of_ble_eq_true h
theorem zd {p:Prop} (h:p:=by first|assumption|(refine ofR ?_;show norm _ _=_;kernel_rfl)|(refine ofR ?_;show okD _ _ _ _=true;kernel_rfl)|exact ofR (by with_unfolding_all rfl)|exact ofB (by with_unfolding_all rfl)|omega|(simp only [go_sem,qcn];omega)):p:=h
namespace Sy
def after (live:List Nat):Option (Out×St)→Option (Out×St)
 |some (.nrm,s)=>some (.nrm,norm live s)
 |r=>r
theorem zav {live:List Nat} {s:St}:after live (some (.nrm,s))=some (.nrm,norm live s):=rfl
theorem qzn {live:List Nat} {s:St} {id:Nat}:after live (some (.ext id,s))=some (.ext id,s):=rfl
theorem qy7 {live:List Nat} {s:St}:after live (some (.ret,s))=some (.ret,s):=rfl
attribute [go_sem] zav qzn qy7
def round (Φ:Nat→Option Callee) (N:Nat) (live:List Nat) (b:VC) (s:St):Option (Out×St):=after live (goN Φ N [.c b] s.slots s.nodes s.next)
section
variable {Φ:Nat→Option Callee} {N:Nat} {live:List Nat} {b:VC} {r:List It}
theorem qb6 (s:St):round Φ N live b s=after live (run Φ N b s):=rfl
theorem vtw {live:List Nat} {x:Option (Out×St)} {o:Out} {s:St} (h:after live x=some (o,s)) (ho:o≠ .nrm):x=some (o,s):=by
 cases x with
 |none=>cases h
 |some p=>
  obtain ⟨o',s'⟩:=p;cases o'<;>simp only [after,Ad,Af] at h
  ·exact absurd h.1.symm ho
  ·obtain ⟨rfl,rfl⟩:=h;rfl
  ·obtain ⟨rfl,rfl⟩:=h;rfl
theorem qpw (S:Nat→St) (R:Nat→Out×St) {m:Nat} (hN:m<N) (hr:∀i,i≤m→(R i).1≠ .nrm)
  (step:∀i,i≤m→(i<m∧round Φ N live b (S i)=some (.nrm,S (i+1))∧R i=R (i+1))∨round Φ N live b (S i)=some (R i)):
  goP Φ N live b r (S 0)=goL Φ N r (some (R 0)):=by
 have key:∀(k i n:Nat),i+k=m→k<n→vfz (run Φ N b) live n (S i)=some (R i):=by
  intro k;induction k with
  |zero=>
   intro i n hi hn;obtain ⟨n,rfl⟩:∃n',n=n'+1:=⟨n-1,by omega⟩
   rcases step i zo with ⟨h1,_⟩|h
   ·omega
   ·have:=vtw (x:=run Φ N b (S i)) (live:=live) (o:=(R i).1) (s:=(R i).2) h (hr i zo);simp only [vfz,this];have hne:=hr i zo;generalize hR:R i=p at hne⊢;obtain ⟨o,s⟩:=p;cases o<;>first|rfl|exact absurd rfl hne
  |succ k ih=>
   intro i n hi hn;obtain ⟨n,rfl⟩:∃n',n=n'+1:=⟨n-1,by omega⟩
   rcases step i zo with ⟨h1,h2,h3⟩|h
   ·rw [qb6] at h2;simp only [vfz];cases hx:run Φ N b (S i) with
    |none=>rw [hx] at h2;cases h2
    |some p=>
     obtain ⟨o,s⟩:=p;rw [hx] at h2;cases o with
     |nrm=>
      simp only [after,Ad,Af,true_and] at h2;simp only [h2,h3];exact ih (i+1) n zo zo
     |ext id=>simp [after] at h2
     |ret=>simp [after] at h2
   ·have:=vtw (x:=run Φ N b (S i)) (live:=live) (o:=(R i).1) (s:=(R i).2) h (hr i zo);simp only [vfz,this];have hne:=hr i zo;generalize hR:R i=p at hne⊢;obtain ⟨o,s⟩:=p;cases o<;>first|rfl|exact absurd rfl hne
 unfold goP;rw [key m 0 N zo hN]
theorem vq9 (I:Nat→St→Prop) (E:Out→St→Prop) {m:Nat} (hN:m<N) {s:St} (h0:I m s)
  (step:∀k s,k≤m→I k s→(∃k' s',k=k'+1∧round Φ N live b s=some (.nrm,s')∧I k' s')∨∃o s',o≠ .nrm∧round Φ N live b s=some (o,s')∧E o s'):
  ∃o e,E o e∧o≠ .nrm∧goP Φ N live b r s=goL Φ N r (some (o,e)):=by
 have key:∀(k n:Nat) (s:St),k≤m→k<n→I k s→∃o e,E o e∧o≠ .nrm∧vfz (run Φ N b) live n s=some (o,e):=by
  intro k;induction k with
  |zero=>
   intro n s hk hn hs;obtain ⟨n,rfl⟩:∃n',n=n'+1:=⟨n-1,by omega⟩
   rcases step 0 s hk hs with ⟨k',_,h,_⟩|⟨o,s',ho,h,he⟩
   ·omega
   ·have:=vtw (x:=run Φ N b s) (live:=live) h ho;refine ⟨o,s',he,ho,?_⟩;simp only [vfz,this];cases o<;>first|rfl|exact absurd rfl ho
  |succ k ih=>
   intro n s hk hn hs;obtain ⟨n,rfl⟩:∃n',n=n'+1:=⟨n-1,by omega⟩
   rcases step (k+1) s hk hs with ⟨k',s',h1,h2,h3⟩|⟨o,s',ho,h,he⟩
   ·obtain rfl:k=k':=by omega
    rw [qb6] at h2;cases hx:run Φ N b s with
    |none=>rw [hx] at h2;cases h2
    |some p=>
     obtain ⟨o,s1⟩:=p;rw [hx] at h2;cases o with
     |nrm=>
      simp only [after,Ad,Af,true_and] at h2;obtain ⟨o,e,he,ho,hr⟩:=ih n s' zo zo h3;refine ⟨o,e,he,ho,?_⟩;simp only [vfz,hx,h2];exact hr
     |ext id=>simp [after] at h2
     |ret=>simp [after] at h2
   ·have:=vtw (x:=run Φ N b s) (live:=live) h ho;refine ⟨o,s',he,ho,?_⟩;simp only [vfz,this];cases o<;>first|rfl|exact absurd rfl ho
 obtain ⟨o,e,he,ho,hr⟩:=key m N s (Nat.le_refl _) hN h0;refine ⟨o,e,he,ho,?_⟩;unfold goP;rw [hr]
theorem qqc (S:Nat→St) (e:St) {m id:Nat} (hN:m<N) (step:∀i,i<m→round Φ N live b (S i)=some (.nrm,S (i+1))) (last:round Φ N live b (S m)=some (.ext id,e)):
  goP Φ N live b r (S 0)=goE Φ N r id e.slots e.nodes e.next:=by
 rw [qpw S (fun _=>(.ext id,e)) hN (fun _ _=>by simp) fun i hi=> ?_]
 ·rfl
 ·by_cases h:i<m
  ·exact .inl ⟨h,step i h,rfl⟩
  ·have:i=m:=by omega
   subst this;exact .inr last
end
def va7 (Φ:Nat→Option Callee) (N:Nat) (live:List Nat) (b:VC) (s:St):Option (Out×St):=vfz (run Φ N b) live N s
theorem vc5 {Φ:Nat→Option Callee} {N:Nat} {live:List Nat} {b:VC} (S:Nat→St) (e:St) {m id:Nat} (hN:m<N) (step:∀i,i<m→round Φ N live b (S i)=some (.nrm,S (i+1))) (last:round Φ N live b (S m)=some (.ext id,e)):
  va7 Φ N live b (S 0)=some (.ext id,e):=qqc (r:= []) S e hN step last
theorem vfh {Φ:Nat→Option Callee} {N:Nat} {live:List Nat} {b:VC} (S:Nat→St) (R:Out×St) (P:Nat→Prop) {m:Nat} (hN:m<N) (h0:P 0) (hr:R.1≠ .nrm)
  (step:∀i,i≤m→P i→(i<m∧round Φ N live b (S i)=some (.nrm,S (i+1))∧P (i+1))∨round Φ N live b (S i)=some R):va7 Φ N live b (S 0)=some R:=by
 obtain ⟨o,e,⟨rfl,rfl⟩,_,h⟩:=vq9 (Φ:=Φ) (N:=N) (live:=live) (b:=b) (r:= []) (fun j s=>∃i,i+j=m∧P i∧s=S i) (fun o e=>o=R.1∧e=R.2) hN (s:=S 0) ⟨0,by omega,h0,rfl⟩ (by
  rintro j s hj ⟨i,hi,hp,rfl⟩
  rcases step i zo hp with ⟨h1,h2,h3⟩|h1
  ·exact .inl ⟨j-1,_,by omega,h2,i+1,by omega,h3,rfl⟩
  ·exact .inr ⟨R.1,R.2,hr,h1,rfl,rfl⟩)
 exact h
theorem vao {Φ:Nat→Option Callee} {N:Nat} {live:List Nat} {b:VC} {r:List It} {s S0 e:St} {id:Nat} (h:va7 Φ N live b S0=some (.ext id,e)) (hs:norm live s=S0):
  goP Φ N live b r (norm live s)=goE Φ N r id e.slots e.nodes e.next:=by
 rw [hs];unfold goP;rw [show vfz (run Φ N b) live N S0=some (.ext id,e) from h];rfl
theorem vhc {Φ:Nat→Option Callee} {N:Nat} {live:List Nat} {b:VC} {r:List It} {s S0 e:St} (h:va7 Φ N live b S0=some (.ret,e)) (hs:norm live s=S0):
  goP Φ N live b r (norm live s)=some (.ret,e):=by
 rw [hs];unfold goP;rw [show vfz (run Φ N b) live N S0=some (.ret,e) from h];exact qau Φ N e r
end Sy
section
variable {Φ:Nat→Option Callee} {N:Nat} {v:Fn}
theorem zaw:(calF Φ N v).modes=v.modes:=rfl
theorem zbc:(calF Φ N v).keeps=v.keeps:=rfl
theorem qyv:(calF Φ N v).scalar=v.scalar:=rfl
theorem zh8:(calF Φ N v).go=vaf Φ N v:=rfl
attribute [go_sem] zaw zbc qyv zh8
end
attribute [go_sem] Bool.false_and Bool.true_and Bool.and_true Bool.true_or Bool.false_or Bool.or_true Bool.and_self Option.isNone_some Option.isSome_some decide_true decide_false decide_eq_true decide_eq_false List.length_map List.length_append List.length_replicate List.length_set List.map_append List.replicate_succ List.replicate_zero List.set_cons_zero List.set_cons_succ An List.map_nil Ag Ak List.getElem?_cons_zero List.getElem?_cons_succ List.drop_zero List.drop_succ_cons List.drop_nil List.take_succ_cons List.take_zero List.nil_append List.cons_append List.append_nil Aa Option.getD_some Option.isNone_none List.getElem?_map Int.toNat_natCast
 if_true if_false Ac Bool.or_false Bool.or_self Bool.and_false Bool.not_true Bool.not_false reduceCtorEq true_and and_true and_self Nat.zero_add Nat.add_zero
theorem vai (x:Int) (h0: -9223372036854775808≤x) (h1:x≤9223372036854775807):IntKind.i64.wrap x=x:=by
 unfold IntKind.wrap;simp [IntKind.bits,IntKind.signed];omega
theorem vat (i:Nat) (h:i<9223372036854775807):IntKind.i64.wrap ((i:Int)+1)=((i+1:Nat):Int):=by
 rw [vai]<;>omega
theorem vbt {α β:Type} (f:α→β) (l:List α) (x:α):(l++ [x]).map f=l.map f++ [f x]:=by simp
end Go.Proofs.YtkidnhclcbcglaaGreat.VM
namespace Go.Proofs.YtkidnhclcbcglaaGreat.VM.Sy
open Go
variable {Φ:Nat→Option Callee} {N:Nat} {live:List Nat} {b:VC}
attribute [go_sem] List.size_toArray
theorem zet {x y:ByteArray}:(x++y).size=x.size+y.size:=ByteArray.size_append
attribute [go_sem] zet
theorem ze4 {q:Bool} {v b id:Nat} {c0:CV} {s:St}:M.run (vae q v b (.rf id) c0 .un) s=some (b,s):=by
 cases c0<;>first|rfl|(simp only [vae];rfl)
attribute [go_sem ↓] ze4
def loadJ (x:Option PV) (id ver:Nat) (p:List (Nat×Nat×Nat)) (i m o:Nat) (w:Option Nat):Option TV:=
 match x with
 |some x=>if x.cells.length=m then vbd (ownC id ver p i m 0 x.cells) o w else none
 |none=>none
theorem qxc {x:PV} {id ver:Nat} {p:List (Nat×Nat×Nat)} {i m o:Nat} {w:Option Nat} (h:x.cells.length=m):loadJ (some x) id ver p i m o w=vbd (ownC id ver p i m 0 x.cells) o w:=by simp [loadJ,h]
attribute [go_sem] qxc
def loadI (r:Option (Nat×List PV)) (id ver:Nat) (p:List (Nat×Nat×Nat)) (i m o:Nat) (w:Option Nat):Option TV:=
 match r with
 |some (_,es)=>loadJ es[i]? id ver p i m o w
 |none=>none
theorem qxp {e:Nat} {es:List PV} {id ver:Nat} {p:List (Nat×Nat×Nat)} {i m o:Nat} {w:Option Nat}:loadI (some (e,es)) id ver p i m o w=loadJ es[i]? id ver p i m o w:=rfl
theorem zdc {nd:vb5} {w:Option Nat} {id ver:Nat} {p:List (Nat×Nat×Nat)} {i m o:Nat}:loadP nd w (.ei id ver p i m o)=loadI (elemsI (vbw nd id) ver p) id ver p i m o w:=by
 simp only [loadP,loadAt,vaq,vbw];simp only [VM.getN,M.run,St.node];cases (look nd id).getD none with
 |none=>rfl
 |some n=>
  cases n with
  |bx z cs=>rfl
  |sl q ver' e es=>
   simp only [elemsI];split
   ·cases dget es p with
    |none=>rfl
    |some r=>
     simp only [loadI];cases r.2[i]? with
     |none=>rfl
     |some x=>
      simp only [loadJ,qgy];split
      ·cases vbd (ownC id ver p i m 0 x.cells) o w<;>rfl
      ·rfl
   ·rfl
attribute [go_sem] qxp zdc
def fadI (n:Option Node) (id ver:Nat) (p:List (Nat×Nat×Nat)) (i m o:Nat):Option TV:=
 match n with
 |some (.sl _ ver' _ _)=>if ver'=ver then some (.ei id ver p i m o) else none
 |_=>none
theorem zf1 {q:Bool} {e:Nat} {es:List PV} {id ver:Nat} {p:List (Nat×Nat×Nat)} {i m o:Nat}:fadI (some (.sl q ver e es)) id ver p i m o=some (.ei id ver p i m o):=by simp [fadI]
theorem zi6 {nd:vb5} {id ver:Nat} {p:List (Nat×Nat×Nat)} {i m o off:Nat}:fadP nd off (.ei id ver p i m o)=fadI (vbw nd id) id ver p i m (o+off):=by
 simp only [fadP,fieldAt,vaq,vbw,fadI];simp only [VM.getN,M.run,St.node];cases (look nd id).getD none with
 |none=>rfl
 |some n=>
  cases n with
  |bx z cs=>rfl
  |sl q ver' e es=>
   simp only;split<;>rfl
theorem vdk (I:Nat→St→Prop) (id:Nat) (E:St→Prop) {m:Nat} (hN:m<N) {s:St} (h0:I m s)
  (step:∀k s,k≤m→I k s→(0<k∧∃s',round Φ N live b s=some (.nrm,s')∧I (k-1) s')∨∃e,round Φ N live b s=some (.ext id,e)∧E e):
  ∃e,E e∧va7 Φ N live b s=some (.ext id,e):=by
 obtain ⟨o,e,⟨rfl,h1⟩,_,h2⟩:=vq9 (Φ:=Φ) (N:=N) (live:=live) (b:=b) (r:= []) I (fun o e=>o= .ext id∧E e) hN h0 fun k s hk hi=>by
  rcases step k s hk hi with ⟨h1,s',h2,h3⟩|⟨e,h1,h2⟩
  ·exact .inl ⟨k-1,s',by omega,h2,h3⟩
  ·exact .inr ⟨.ext id,e,by simp,h1,rfl,h2⟩
 exact ⟨e,h1,h2⟩
theorem vee {α β:Type} (l:List α) (S:Nat→β→St) (I:Nat→β→Prop) (f:β→α→β) (E:β→St) {id:Nat} (hN:l.length<N) {a0:β} (h0:I 0 a0)
  (step:∀i x acc,l[i]? =some x→I i acc→round Φ N live b (S i acc)=some (.nrm,S (i+1) (f acc x))∧I (i+1) (f acc x))
  (last:∀acc,I l.length acc→round Φ N live b (S l.length acc)=some (.ext id,E acc)):
  va7 Φ N live b (S 0 a0)=some (.ext id,E (l.foldl f a0))∧I l.length (l.foldl f a0):=by
 have hI:∀i,i≤l.length→I i ((l.take i).foldl f a0):=by
  intro i;induction i with
  |zero=>intro _;simpa using h0
  |succ i ih=>
   intro hi;obtain ⟨x,hx⟩:∃x,l[i]? =some x:=⟨_,Ab zo⟩
   rw [Ah,hx,Ai];exact (step i x _ hx (ih zo)).2
 have key:=vc5 (Φ:=Φ) (N:=N) (live:=live) (b:=b) (fun i=>S i ((l.take i).foldl f a0)) (E (l.foldl f a0)) (m:=l.length) (id:=id) hN (fun i hi=>by
  obtain ⟨x,hx⟩:∃x,l[i]? =some x:=⟨_,Ab hi⟩
  have:=(step i x _ hx (hI i zo)).1;rw [this,Ah,hx,Ai]
  rfl) (by
  have:=last _ (hI l.length (Nat.le_refl _));rw [Aj] at this⊢
  exact this)
 refine ⟨by simpa using key,?_⟩;have:=hI l.length (Nat.le_refl _)
 rwa [Aj] at this
attribute [go_sem] zf1 zi6

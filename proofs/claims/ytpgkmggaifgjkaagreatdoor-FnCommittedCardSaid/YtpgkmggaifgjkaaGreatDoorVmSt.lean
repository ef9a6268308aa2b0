/- The interpreter 'VM'. -/
import Derived.Test.YtpgkmggaifgjkaaGreatDoorVmA
import Derived.Attr
import Derived.Laws.Strings
import Derived.KernelRfl
open Option renaming map_some->Aa,map_none->Ai,map_map->Aj
open List renaming replicate->Ab,length_cons->Af,getElem?_eq_getElem->Ag,length_nil->Ah,map_cons->Ak
open Bool renaming false_eq_true->Ac
open Option.some renaming injEq->Ad
open Prod.mk renaming injEq->Ae
set_option linter.all false
namespace Go.Proofs.YtpgkmggaifgjkaaGreatDoor.VM.Sy
open Go
inductive It where
 |c (v:VC)
 |blk (id:Nat)
 |ops (b:Nat) (os:List VOper) (live:List Nat)
abbrev vcv:=List (Nat×TV)
abbrev vcb:=List (Nat×Option Node)
section
variable (Φ:Nat->Option Callee) (N:Nat)
def stepI (it:It) (o:Option (Out×St)):Option (Out×St):=
 match it,o with
 | .c v,some (.nrm,s)=>run Φ N v s
 | .blk id,some (.ext j,s)=>if j=id then some (.nrm,s) else some (.ext j,s)
 | .ops b os live,some (.nrm,s)=>(execs Φ b os s).map λs'=>(.nrm,{slots:=keep live s',nodes:=s'.nodes,next:=b+100 * os.length})
 |_,x=>x
def goL:List It->Option (Out×St)->Option (Out×St)
 | [],x=>x
 |it::r,x=>goL r (stepI Φ N it x)
def goN (r:List It) (sl:vcv) (nd:vcb) (nx:Nat):Option (Out×St):=goL Φ N r (some (.nrm,⟨sl,nd,nx⟩))
def goE (r:List It) (id:Nat) (sl:vcv) (nd:vcb) (nx:Nat):Option (Out×St):=goL Φ N r (some (.ext id,⟨sl,nd,nx⟩))
def vgf (f:St->Option (Out×St)) (live:List Nat):Nat->St->Option (Out×St)
 |0,_=>none
 |n+1,s=>match f s with
  |some (.nrm,s')=>vgf f live n (norm live s')
  |r=>r
def goP (live:List Nat) (b:VC) (r:List It) (s:St):Option (Out×St):=goL Φ N r (vgf (run Φ N b) live N s)
theorem vyh (f:St->Option (Out×St)) (live:List Nat):∀(n:Nat) (s:St),rounds f live n s=vgf f live n (norm live s)
 |0,_=>rfl
 |n+1,s=>by
  simp only [rounds,vgf];cases f (norm live s) with
  |none=>rfl
  |some p=>
   obtain ⟨o,s'⟩:=p;cases o with
   |nrm=>exact vyh f live n _
   |_=>rfl
theorem vm5:∀(r:List It),goL Φ N r none=none
 | []=>rfl
 |it::r=>by
  simp only [goL];rw [show stepI Φ N it none=none from by cases it<;>rfl];exact vm5 r
theorem vxu (s:St):∀(r:List It),goL Φ N r (some (.ret,s))=some (.ret,s)
 | []=>rfl
 |it::r=>by
  simp only [goL];rw [show stepI Φ N it (some (.ret,s))=some (.ret,s) from by cases it<;>rfl];exact vxu s r
variable {Φ:Nat->Option Callee} {N:Nat} {r:List It} {sl:vcv} {nd:vcb} {nx:Nat}
theorem zly:goN Φ N [] sl nd nx=some (.nrm,⟨sl,nd,nx⟩):=rfl
theorem zga:goN Φ N (.c .skip::r) sl nd nx=goN Φ N r sl nd nx:=rfl
theorem zlk:goN Φ N (.c .ret::r) sl nd nx=some (.ret,⟨sl,nd,nx⟩):=vxu Φ N _ r
theorem zhx {id:Nat}:goN Φ N (.c (.exit id)::r) sl nd nx=goE Φ N r id sl nd nx:=rfl
theorem zjg {id:Nat}:goN Φ N (.blk id::r) sl nd nx=goN Φ N r sl nd nx:=rfl
theorem ziq {id:Nat}:goE Φ N [] id sl nd nx=some (.ext id,⟨sl,nd,nx⟩):=rfl
theorem zm4 {id:Nat} {v:VC}:goE Φ N (.c v::r) id sl nd nx=goE Φ N r id sl nd nx:=rfl
theorem zgr {id b:Nat} {os:List VOper} {live:List Nat}:goE Φ N (.ops b os live::r) id sl nd nx=goE Φ N r id sl nd nx:=rfl
theorem zh1 {id j:Nat}:goE Φ N (.blk j::r) id sl nd nx=if id=j then goN Φ N r sl nd nx else goE Φ N r id sl nd nx:=by
 simp only [goE,goL,stepI,goN];split<;>rfl
theorem zln {a b:VC}:goN Φ N (.c (.seq a b)::r) sl nd nx=goN Φ N (.c a:: .c b::r) sl nd nx:=by
 simp only [goN,goL,stepI,run];cases run Φ N a ⟨sl,nd,nx⟩ with
 |none=>rfl
 |some p=>
  obtain ⟨o,s⟩:=p;cases o<;>rfl
theorem zbz {id:Nat} {b:VC}:goN Φ N (.c (.block id b)::r) sl nd nx=goN Φ N (.c b:: .blk id::r) sl nd nx:=by
 simp only [goN,goL,stepI,run];cases run Φ N b ⟨sl,nd,nx⟩ with
 |none=>rfl
 |some p=>
  obtain ⟨o,s⟩:=p;cases o<;>rfl
theorem zge {live:List Nat} {b:VC}:goN Φ N (.c (.loop live b)::r) sl nd nx=goP Φ N live b r (norm live ⟨sl,nd,nx⟩):=by
 simp only [goN,goL,stepI,run,goP,vyh]
theorem zjs {os:List VOper} {live:List Nat}:goN Φ N (.c (.reg os live)::r) sl nd nx=goN Φ N (.ops nx os live::r) sl nd nx:=by
 simp only [goN,goL,stepI,run];cases execs Φ nx os ⟨sl,nd,nx⟩<;>rfl
theorem qr5 {os:List VOper} {live:List Nat} {ps:List (Nat×Nat)} (h:okD Φ ps os ⟨sl,nd,nx⟩=true):goN Φ N (.c (.regD os live ps)::r) sl nd nx=goN Φ N (.ops nx os live::r) sl nd nx:=by
 simp only [goN,goL,stepI,run,h,if_true];cases execs Φ nx os ⟨sl,nd,nx⟩<;>rfl
attribute [go_sem] zly zga zlk zhx zjg ziq zm4 zgr zh1 zln zbz zge zjs
attribute [go_sem] qr5
def vgk (sl:vcv) (n:Nat):TV:=(look sl n).getD .un
def selS (b:Bool) (v:TV) (sl:vcv) (n:Nat):TV:=match b with|true=>v|false=>vgk sl n
theorem zjr {v:TV} {n:Nat}:selS true v sl n=v:=rfl
theorem zkf {v:TV} {n:Nat}:selS false v sl n=vgk sl n:=rfl
theorem qyk {n m:Nat} {v:TV}:vgk ((m,v)::sl) n=selS (m==n) v sl n:=by
 by_cases h:m=n
 ·subst h;simp [vgk,look,selS]
 ·have:(m==n)=false:=by simpa using h
  rw [this];simp [vgk,look,h,selS]
attribute [go_sem] zjr zkf qyk
def vsu (sl:vcv):List Nat->vcv
 | []=> []
 |t::ts=>(t,vgk sl t)::vsu sl ts
theorem zey:vsu sl []= []:=rfl
theorem qz1 {t:Nat} {ts:List Nat}:vsu sl (t::ts)=(t,vgk sl t)::vsu sl ts:=rfl
theorem qdt (s:St):∀(live:List Nat),keep live s=vsu s.slots live
 | []=>rfl
 |t::ts=>by simp [keep,vsu,<-qdt s ts,St.slot,vgk]
theorem zja {b:Nat} {live:List Nat}:goN Φ N (.ops b [] live::r) sl nd nx=goN Φ N r (vsu sl live) nd b:=by
 simp only [goN,goL,stepI,execs,Aa,qdt,Ah,Nat.mul_zero,Nat.add_zero]
attribute [go_sem] zey qz1 zja
def vbr (nd:vcb) (id:Nat):Option Node:=(look nd id).getD none
def selN (b:Bool) (v:Option Node) (nd:vcb) (n:Nat):Option Node:=match b with|true=>v|false=>vbr nd n
theorem zki {v:Option Node} {n:Nat}:selN true v nd n=v:=rfl
theorem zjn {v:Option Node} {n:Nat}:selN false v nd n=vbr nd n:=rfl
theorem qyt {n m:Nat} {v:Option Node}:vbr ((m,v)::nd) n=selN (m==n) v nd n:=by
 by_cases h:m=n
 ·subst h;simp [vbr,look,selN]
 ·have:(m==n)=false:=by simpa using h
  rw [this];simp [vbr,look,h,selN]
theorem zh2 {b:VC}:goN Φ N (.c (.frz b)::r) sl nd nx=goN Φ N (.c b::r) (frzSl (vbr nd) sl) (frzNd (vbr nd) nd) nx:=rfl
attribute [go_sem] zki zjn qyt zh2
def frzK (n:Option Node) (id:Nat):TV:=match n with
 |some (.sl _ _ e es)=> .sz e es
 |_=> .rf id
theorem zgw {q:Bool} {v e id:Nat} {es:List PV}:frzK (some (.sl q v e es)) id= .sz e es:=rfl
theorem zhi {z:Bool} {cs:List TV} {id:Nat}:frzK (some (.bx z cs)) id= .rf id:=rfl
theorem zaa {f:Nat->Option Node}:frzSl f []= []:=rfl
theorem qxv {f:Nat->Option Node} {t:Nat} {v:TV} {l:vcv}:frzSl f ((t,v)::l)=(t,frzT f v)::frzSl f l:=rfl
theorem qys {f:Nat->Option Node}:frzNd f []= []:=rfl
theorem qxx {id:Nat} {n:Option Node} {l:vcb}:frzNd (vbr nd) ((id,n)::l)=(id,frzN (vbr nd) (vbr nd id))::frzNd (vbr nd) l:=rfl
theorem zg7 {f:Nat->Option Node} {z:Bool} {cs:List TV}:frzN f (some (.bx z cs))=some (.bx z (frzTs f cs)):=rfl
theorem zi1 {f:Nat->Option Node} {q:Bool} {v e:Nat} {es:List PV}:frzN f (some (.sl q v e es))=none:=rfl
theorem zh9 {f:Nat->Option Node}:frzN f none=none:=rfl
theorem zat {f:Nat->Option Node}:frzTs f []= []:=rfl
theorem qxc {f:Nat->Option Node} {c:TV} {cs:List TV}:frzTs f (c::cs)=frzT f c::frzTs f cs:=rfl
theorem zlj {f:Nat->Option Node} {v:Value}:frzT f (.a v)= .a v:=rfl
theorem zhd {f:Nat->Option Node} {e:Nat}:frzT f (.nl e)= .nl e:=rfl
theorem ziu {id:Nat}:frzT (vbr nd) (.rf id)=frzK (vbr nd id) id:=by
 unfold frzT frzK;split<;>simp_all
theorem zh6 {f:Nat->Option Node} {e:Nat} {es:List PV}:frzT f (.sz e es)= .sz e es:=rfl
theorem ziz {f:Nat->Option Node} {cs:List TV}:frzT f (.st cs)= .st (frzTs f cs):=rfl
theorem zgk {f:Nat->Option Node} {cs:List TV}:frzT f (.tp cs)= .tp (frzTs f cs):=rfl
theorem zgi {f:Nat->Option Node}:frzT f .un= .un:=rfl
theorem zhz {f:Nat->Option Node} {t:Nat} {v:TV}:frzT f (.ic t v)= .ic t (frzT f v):=rfl
theorem zfp {f:Nat->Option Node} {g:Nat} {fs cs:List TV}:frzT f (.fn g fs cs)= .fn g (frzTs f fs) (frzTs f cs):=rfl
theorem zgu {f:Nat->Option Node} {id o:Nat}:frzT f (.ad id o)= .ad id o:=rfl
theorem zit {f:Nat->Option Node} {cs:List PV} {o:Nat}:frzT f (.ez cs o)= .ez cs o:=rfl
theorem zig {f:Nat->Option Node} {id v:Nat} {p:List (Nat×Nat×Nat)}:frzT f (.ri id v p)= .un:=rfl
theorem zia {f:Nat->Option Node} {id lo n:Nat}:frzT f (.sb id lo n)= .un:=rfl
theorem zii {f:Nat->Option Node} {id i m o:Nat}:frzT f (.ea id i m o)= .un:=rfl
theorem zgt {f:Nat->Option Node} {id v i m o:Nat} {p:List (Nat×Nat×Nat)}:frzT f (.ei id v p i m o)= .un:=rfl
attribute [go_sem] zgw zhi zaa qxv qys qxx zg7 zi1 zh9 zat qxc zlj zhd ziu zh6 ziz zgk zgi zhz zfp zgu zit zig zia zii zgt
def roA (Φ:Nat->Option Callee) (N:Nat) (l:List Nat) (r:List It) (sl:vcv) (nd:vcb) (nx:Nat):Option (Out×St)->Option (Out×St)
 |some (.nrm,s')=>goN Φ N r (roBs ⟨sl,nd,nx⟩ s' l) nd s'.next
 |_=>none
def roSvL (sl:vcv) (nd:vcb):List Nat->vcv->vcv
 | [],acc=>acc
 |t::r,acc=>if t<10000 then (20000+t,frzT (vbr nd) (vgk sl t))::roSvL sl nd r acc else roSvL sl nd r acc
theorem zaf {acc:vcv}:roSvL sl nd [] acc=acc:=rfl
theorem qxz {t:Nat} {l:List Nat} {acc:vcv}:roSvL sl nd (t::l) acc=if t<10000 then (20000+t,frzT (vbr nd) (vgk sl t))::roSvL sl nd l acc else roSvL sl nd l acc:=rfl
theorem vvt (acc:vcv):∀(l:List Nat),roSvL sl nd l acc=roSv ⟨sl,nd,nx⟩ l++acc
 | []=>rfl
 |t::l=>by
  simp only [roSvL,roSv];split
  ·rw [vvt acc l];rfl
  ·exact vvt acc l
theorem zea {f:Nat->Option Node}:roSl f []= []:=rfl
theorem zay {f:Nat->Option Node} {t:Nat} {v:TV} {l:vcv}:roSl f ((t,v)::l)=if t<20000 then (t,frzT f v)::roSl f l else roSl f l:=rfl
theorem zbo {f:Nat->Option Node}:roNd f []= []:=rfl
theorem qy8 {id:Nat} {n:Option Node} {l:vcb}:roNd (vbr nd) ((id,n)::l)=(id,roN (vbr nd) (vbr nd id))::roNd (vbr nd) l:=rfl
theorem zj7 {f:Nat->Option Node} {z:Bool} {cs:List TV}:roN f (some (.bx z cs))=some (.bx true (frzTs f cs)):=rfl
theorem zjh {f:Nat->Option Node} {q:Bool} {v e:Nat} {es:List PV}:roN f (some (.sl q v e es))=none:=rfl
theorem zji {f:Nat->Option Node}:roN f none=none:=rfl
theorem zdw {s s':St}:roBs s s' []= []:=rfl
theorem qz4 {sl':vcv} {nd':vcb} {n n' t:Nat} {l:List Nat}:roBs ⟨sl,nd,n⟩ ⟨sl',nd',n'⟩ (t::l)=if t<20000 then (t,if t<10000 then roK (vgk sl t) (vgk sl' t) (vgk sl' (20000+t)) else vgk sl t)::roBs ⟨sl,nd,n⟩ ⟨sl',nd',n'⟩ l else roBs ⟨sl,nd,n⟩ ⟨sl',nd',n'⟩ l:=rfl
theorem zl7 {o y:TV} {v:Value}:roK o (.a v) y= .a v:=rfl
theorem zjk {o:TV} {i j:Nat}:roK o (.rf i) (.rf j)=if j=i then o else .un:=rfl
theorem zjc {o y:TV} {e:Nat} {es:List PV}:roK o (.sz e es) y= .un:=rfl
theorem zju {o y:TV} {cs:List TV}:roK o (.st cs) y= .un:=rfl
theorem zkm {o y c:TV} {t:Nat}:roK o (.ic t c) y= .un:=rfl
theorem zjx {o y:TV}:roK o .un y= .un:=rfl
theorem zj0 {o y:TV} {e:Nat}:roK o (.nl e) y= .un:=rfl
theorem zl9 {l:List Nat} {b:VC}:goN Φ N (.c (.ro l b)::r) sl nd nx=roA Φ N l r sl nd nx (goN Φ N [.c b] (roSvL sl nd l (roSl (vbr nd) sl)) (roNd (vbr nd) nd) nx):=by
 show goL Φ N r (stepI Φ N (.c (.ro l b)) (some (.nrm,⟨sl,nd,nx⟩)))=_;rw [vvt (nx:=nx) (roSl (vbr nd) sl) l];show goL Φ N r (run Φ N (.ro l b) ⟨sl,nd,nx⟩)=roA Φ N l r sl nd nx (run Φ N b (roS l ⟨sl,nd,nx⟩));simp only [run];cases run Φ N b (roS l ⟨sl,nd,nx⟩) with
 |none=>exact vm5 Φ N r
 |some p=>
  obtain ⟨o,s'⟩:=p;cases o with
  |nrm=>rfl
  |_=>exact vm5 Φ N r
theorem zif {l:List Nat} {s':St}:roA Φ N l r sl nd nx (some (.nrm,s'))=goN Φ N r (roBs ⟨sl,nd,nx⟩ s' l) nd s'.next:=rfl
attribute [go_sem] zaf qxz zea zay zbo qy8 zj7 zjh zji zdw qz4 zl7 zjk zjc zju zkm zjx zj0 zl9 zif
def ov (sl:vcv):Opd->TV
 | .t n=>vgk sl n
 | .c v=> .a v
 | .nl e=> .nl e
 | .f g=> .fn g [] []
theorem znf {n:Nat}:ov sl (.t n)=vgk sl n:=rfl
theorem znk {v:Value}:ov sl (.c v)= .a v:=rfl
theorem zm1 {e:Nat}:ov sl (.nl e)= .nl e:=rfl
theorem znm {g:Nat}:ov sl (.f g)= .fn g [] []:=rfl
theorem vb6 (x:Opd) (s:St):(opd x).run s=some (ov s.slots x,s):=by cases x<;>rfl
attribute [go_sem] znf znk zm1 znm
def condK (Φ:Nat->Option Callee) (N:Nat) (v:TV) (a b:VC) (r:List It) (sl:vcv) (nd:vcb) (nx:Nat):Option (Out×St):=
 match v with
 | .a (.bool t)=>if t=true then goN Φ N (.c a::r) sl nd nx else goN Φ N (.c b::r) sl nd nx
 |_=>none
theorem zhn {n:Nat} {a b:VC}:goN Φ N (.c (.cond (.t n) a b)::r) sl nd nx=condK Φ N (vgk sl n) a b r sl nd nx:=by
 simp only [goN,goL,stepI,run,condK,St.slot,vgk];cases (look sl n).getD TV.un with
 |a v=>
  cases v with
  |bool t=>cases t<;>rfl
  |_=>exact vm5 Φ N r
 |_=>exact vm5 Φ N r
theorem zap {a b:VC}:condK Φ N (.a (.bool true)) a b r sl nd nx=goN Φ N (.c a::r) sl nd nx:=rfl
theorem qxf {a b:VC}:condK Φ N (.a (.bool false)) a b r sl nd nx=goN Φ N (.c b::r) sl nd nx:=rfl
attribute [go_sem] zhn zap qxf
def putK (Φ:Nat->Option Callee) (N:Nat) (d:Nat) (o:Option TV) (r:List It) (sl:vcv) (nd:vcb) (nx:Nat):Option (Out×St):=
 match o with
 |some v=>goN Φ N r ((d,v)::sl) nd nx
 |none=>none
theorem zc5 {d:Nat} {v:TV}:putK Φ N d (some v) r sl nd nx=goN Φ N r ((d,v)::sl) nd nx:=rfl
attribute [go_sem] zc5
def aftK (Φ:Nat->Option Callee) (N:Nat) {α:Type} (o:Option (α×St)) (r:List It):Option (Out×St):=
 match o with
 |some (_,s)=>goN Φ N r s.slots s.nodes s.next
 |none=>none
theorem zcu {α:Type} {x:α} {s:St}:aftK Φ N (some (x,s)) r=goN Φ N r s.slots s.nodes s.next:=rfl
theorem vvu {b:Nat} {o:VOper} {os:List VOper} {live:List Nat}:goN Φ N (.ops b (o::os) live::r) sl nd nx=aftK Φ N ((execG Φ b o).run ⟨sl,nd,nx⟩) (.ops (b+100) os live::r):=by
 simp only [goN,goL,stepI,execs];cases (execG Φ b o).run ⟨sl,nd,nx⟩ with
 |none=>exact vm5 Φ N r
 |some p=>
  simp only [aftK,goN,goL,stepI,Af,show b+100 * (os.length+1)=b+100+100 * os.length by omega]
theorem var {α β:Type} (x:M α) (f:α->M β) (s:St):(x.bind f).run s=(match x.run s with|some (a,s')=>(f a).run s'|none=>none):=by
 induction x generalizing s with
 |pure x=>rfl
 |fail=>rfl
 |getS t k ih=>exact ih _ _
 |setS t v k ih=>exact ih _
 |getN id k ih=>exact ih _ _
 |setN id n k ih=>exact ih _
attribute [go_sem] zcu
def bindR {α β:Type} (o:Option (α×St)) (f:α->M β):Option (β×St):=
 match o with
 |some (a,s)=>(f a).run s
 |none=>none
@[congr] theorem qv4 {α β:Type} {o o':Option (α×St)} {f:α->M β} (h:o=o'):bindR o f=bindR o' f:=by rw [h]
theorem qx1 {α β:Type} {a:α} {s:St} {f:α->M β}:bindR (some (a,s)) f=(f a).run s:=rfl
theorem qyg {α β:Type} (x:M α) (f:α->M β) (s:St):(x.bind f).run s=bindR (x.run s) f:=var x f s
attribute [go_sem ↓] qx1 qyg
def ifM {α:Type} (c:Prop) [Decidable c] (x y:M α) (s:St):Option (α×St):=(if c then x else y).run s
@[congr] theorem qzi {α:Type} {c c':Prop} [Decidable c] [Decidable c'] {x y:M α} {s:St} (h:c=c'):ifM c x y s=ifM c' x y s:=by
 subst h;unfold ifM;congr
theorem zmp {α:Type} {x y:M α} {s:St} [Decidable True]:ifM True x y s=x.run s:=by simp [ifM]
theorem zna {α:Type} {x y:M α} {s:St} [Decidable False]:ifM False x y s=y.run s:=by simp [ifM]
theorem zft {α:Type} {c:Prop} [Decidable c] {x y:M α} {s:St}:(if c then x else y).run s=ifM c x y s:=rfl
attribute [go_sem ↓] zmp zna zft
theorem qym {α:Type} {x:α} {s:St}:(M.pure x).run s=some (x,s):=rfl
theorem qzr {t:Nat} {s:St}:(getS t).run s=some (vgk s.slots t,s):=rfl
theorem qyo {t:Nat} {v:TV} {sl:vcv} {nd:vcb} {nx:Nat}:(setS t v).run ⟨sl,nd,nx⟩=some ((),⟨(t,v)::sl,nd,nx⟩):=rfl
theorem qy6 {id:Nat} {s:St}:(getN id).run s=some (vbr s.nodes id,s):=rfl
theorem zar {id:Nat} {n:Option Node} {sl:vcv} {nd:vcb} {nx:Nat}:(setN id n).run ⟨sl,nd,nx⟩=some ((),⟨sl,(id,n)::nd,nx⟩):=rfl
theorem qwo {α:Type} {x:α} {s:St}:(liftO (some x)).run s=some (x,s):=rfl
theorem ze7 {x:Opd} {s:St}:(opd x).run s=some (ov s.slots x,s):=vb6 x s
theorem zan {α:Type} {s:St}:(M.fail:M α).run s=none:=rfl
attribute [go_sem] qym qzr qyo qy6 zar qwo ze7 zan
section
variable {b:Nat} {os:List VOper} {live:List Nat} {g:Option Nat}
abbrev rest (b:Nat) (os:List VOper) (live:List Nat) (r:List It):List It:= .ops (b+100) os live::r
theorem vch {op:VOp}:goN Φ N (.ops b (⟨op,none,g⟩::os) live::r) sl nd nx=aftK Φ N ((exec Φ b op).run ⟨sl,nd,nx⟩) (.ops (b+100) os live::r):=by
 rw [vvu];rfl
theorem qay {d:Nat} {x:Opd}:goN Φ N (.ops b (⟨.mov d x,none,g⟩::os) live::r) sl nd nx=goN Φ N (.ops (b+100) os live::r) ((d,ov sl x)::sl) nd nx:=by
 rw [vch];simp only [exec,var,vb6];rfl
attribute [go_sem] qay
def pickT (c x y:TV):Option TV:=
 match c with
 | .a (.bool t)=>some (if t=true then x else y)
 |_=>none
theorem zlw {x y:TV}:pickT (.a (.bool true)) x y=some x:=rfl
theorem zko {x y:TV}:pickT (.a (.bool false)) x y=some y:=rfl
theorem qef {d:Nat} {c x y:Opd}:goN Φ N (.ops b (⟨.pick d c x y,none,g⟩::os) live::r) sl nd nx=putK Φ N d (pickT (ov sl c) (ov sl x) (ov sl y)) (.ops (b+100) os live::r) sl nd nx:=by
 rw [vch];simp only [exec,var,vb6];cases ov sl c with
 |a v=>
  cases v with
  |bool t=>cases t<;>simp only [var,vb6,if_true,pickT,Ac,if_false]<;>rfl
  |_=>rfl
 |_=>rfl
theorem qb5 {d:Nat} {z:ZC} {zs:List ZC}:goN Φ N (.ops b (⟨.alloc d (z::zs),none,g⟩::os) live::r) sl nd nx=
  goN Φ N (.ops (b+100) os live::r) ((d,.rf b)::sl) ((b,some (.bx false (z.tv::zs.map ZC.tv)))::nd) nx:=by
 rw [vch];rfl
theorem zni {v:Value}:(ZC.v v).tv= .a v:=rfl
theorem zmf {e:Nat}:(ZC.nl e).tv= .nl e:=rfl
attribute [go_sem] zlw zko qef qb5 zni zmf
def boxK (Φ:Nat->Option Callee) (N:Nat) (d b:Nat) (o:Option (List TV)) (r:List It) (sl:vcv) (nd:vcb) (nx:Nat):Option (Out×St):=
 match o with
 |some (c::cs)=>goN Φ N r ((d,.rf b)::sl) ((b,some (.bx false (c::cs)))::nd) nx
 |_=>none
theorem zc3 {d b:Nat} {c:TV} {cs:List TV}:boxK Φ N d b (some (c::cs)) r sl nd nx=goN Φ N r ((d,.rf b)::sl) ((b,some (.bx false (c::cs)))::nd) nx:=rfl
theorem qhv {d:Nat} {x:Opd}:goN Φ N (.ops b (⟨.box d x,none,g⟩::os) live::r) sl nd nx=boxK Φ N d b (ov sl x).row (.ops (b+100) os live::r) sl nd nx:=by
 rw [vch];simp only [exec,var,vb6];cases (ov sl x).row with
 |none=>rfl
 |some cs=>cases cs<;>rfl
theorem zlm {cs:List TV}:(TV.st cs).row=some cs:=rfl
theorem zic {k:IntKind} {n:Int}:(TV.a (.int k n)).row=some [.a (.int k n)]:=rfl
theorem zeg {t:Bool}:(TV.a (.bool t)).row=some [.a (.bool t)]:=rfl
theorem zfs {s:ByteArray}:(TV.a (.string s)).row=some [.a (.string s)]:=rfl
theorem zj1 {e:Nat}:(TV.nl e).row=some [.nl e]:=rfl
theorem zlr {i:Nat}:(TV.rf i).row=some [.rf i]:=rfl
theorem zkx {e:Nat} {es:List PV}:(TV.sz e es).row=some [.sz e es]:=rfl
theorem zlb {f:Nat} {fs cs:List TV}:(TV.fn f fs cs).row=some [.fn f fs cs]:=rfl
theorem zjv {i j k:Nat}:(TV.sb i j k).row=some [.sb i j k]:=rfl
theorem zjy {i j:Nat} {p:List (Nat×Nat×Nat)}:(TV.ri i j p).row=some [.ri i j p]:=rfl
theorem zk7 {i j:Nat}:(TV.ad i j).row=some [.ad i j]:=rfl
theorem zbg {cs:List TV}:(TV.st cs).cells=cs:=rfl
theorem zf9 {v:Value}:(TV.a v).cells= [.a v]:=rfl
theorem zby {e:Nat}:(TV.nl e).cells= [.nl e]:=rfl
theorem zc6 {i:Nat}:(TV.rf i).cells= [.rf i]:=rfl
theorem zc0 {e:Nat} {es:List PV}:(TV.sz e es).cells= [.sz e es]:=rfl
theorem zbp {f:Nat} {fs cs:List TV}:(TV.fn f fs cs).cells= [.fn f fs cs]:=rfl
theorem ze4 {i j k:Nat}:(TV.sb i j k).cells= [.sb i j k]:=rfl
theorem zek {i j:Nat} {p:List (Nat×Nat×Nat)}:(TV.ri i j p).cells= [.ri i j p]:=rfl
theorem zdo {i j:Nat}:(TV.ad i j).cells= [.ad i j]:=rfl
theorem zdp {t:Nat} {v:TV}:(TV.ic t v).cells= [.ic t v]:=rfl
theorem qz2 {cs:List PV}:(PV.st cs).cells=cs:=rfl
theorem zec {v:Value}:(PV.a v).cells= [.a v]:=rfl
theorem qyp {e:Nat} {es:List PV}:(PV.sl e es).cells= [.sl e es]:=rfl
theorem qyx {e:Nat} {es:List PV}:(PV.fz e es).cells= [.fz e es]:=rfl
attribute [go_sem] zc3 qhv zlm zic zeg zfs zj1 zlr zkx zlb zjv zjy zk7 zbg zf9 zby zc6 zc0 zbp ze4 zek zdo zdp qz2 zec qyp qyx
def buildP (sl:vcv):List (Nat×Nat×Opd)->List TV->Option (List TV)
 | [],cs=>some cs
 |(o,w,x)::ps,cs=>if (ov sl x).cells.length=w/\o+w<=cs.length/\(ov sl x).row.isSome=true then buildP sl ps (cs.take o++(ov sl x).cells++cs.drop (o+w)) else none
theorem vys (s:St):∀(ps:List (Nat×Nat×Opd)) (cs:List TV),(buildM ps cs).run s=(buildP s.slots ps cs).map (·,s)
 | [],cs=>rfl
 |(o,w,x)::ps,cs=>by
  simp only [buildM,var,vb6,buildP];split
  ·exact vys s ps _
  ·rfl
theorem za3 {cs:List TV}:buildP sl [] cs=some cs:=rfl
attribute [go_sem] za3
def buildK (sl:vcv) (v:TV) (o w:Nat) (ps:List (Nat×Nat×Opd)) (cs:List TV):Option (List TV):=
 if v.cells.length=w/\o+w<=cs.length/\v.row.isSome=true then buildP sl ps (cs.take o++v.cells++cs.drop (o+w)) else none
theorem qx0 {o w:Nat} {x:Opd} {ps:List (Nat×Nat×Opd)} {cs:List TV}:buildP sl ((o,w,x)::ps) cs=buildK sl (ov sl x) o w ps cs:=rfl
theorem zbd {v:TV} {o w:Nat} {ps:List (Nat×Nat×Opd)} {cs:List TV} (h1:v.cells.length=w) (h2:o+w<=cs.length) (h3:v.row.isSome=true):buildK sl v o w ps cs=buildP sl ps (cs.take o++v.cells++cs.drop (o+w)):=by
 simp [buildK,h1,h2,h3]
attribute [go_sem] qx0 zbd
def stO (o:Option (List TV)):Option TV:=o.map .st
theorem zer {cs:List TV}:stO (some cs)=some (.st cs):=rfl
theorem qan {d:Nat} {zs:List ZC} {ps:List (Nat×Nat×Opd)}:goN Φ N (.ops b (⟨.build d zs ps,none,g⟩::os) live::r) sl nd nx=
  putK Φ N d (stO (buildP sl ps (zs.map ZC.tv))) (.ops (b+100) os live::r) sl nd nx:=by
 rw [vch];simp only [exec,var,vys];cases buildP sl ps (zs.map ZC.tv)<;>rfl
theorem qzf {cs:List TV} {o:Nat}:vbi cs o none=cs[o]? :=rfl
theorem zcv {cs:List TV} {o w:Nat} (h:o+w<=cs.length):vbi cs o (some w)=some (.st ((cs.drop o).take w)):=by simp [vbi,h]
attribute [go_sem] zer qan qzf zcv
def loadN (n:Option Node) (o:Nat) (w:Option Nat):Option TV:=
 match n with
 |some (.bx _ cs)=>vbi cs o w
 |_=>none
theorem zbe {z:Bool} {cs:List TV} {o:Nat} {w:Option Nat}:loadN (some (.bx z cs)) o w=vbi cs o w:=rfl
attribute [go_sem] zbe
def ownC (id ver:Nat) (p:List (Nat×Nat×Nat)) (i m:Nat):Nat->List PV->List TV
 |_,[]=> []
 |k,c::cs=>ofOwn id ver (p++ [(i,m,k)]) c::ownC id ver p i m (k+1) cs
theorem qev (id ver:Nat) (p:List (Nat×Nat×Nat)) (i m:Nat) (x:PV):vg2 id ver p i m x=ownC id ver p i m 0 x.cells:=by
 have key:∀(cs:List PV) (k:Nat),((cs.zipIdx k).map λ(c,o)=>ofOwn id ver (p++ [(i,m,o)]) c)=ownC id ver p i m k cs:=by
  intro cs;induction cs with
  |nil=>intro k;rfl
  |cons c cs ih=>intro k;simp only [List.zipIdx_cons,Ak,ownC,ih]
 exact key x.cells 0
theorem zdi {id ver:Nat} {p:List (Nat×Nat×Nat)} {i m k:Nat}:ownC id ver p i m k []= []:=rfl
theorem qyv {id ver:Nat} {p:List (Nat×Nat×Nat)} {i m k:Nat} {c:PV} {cs:List PV}:ownC id ver p i m k (c::cs)=ofOwn id ver (p++ [(i,m,k)]) c::ownC id ver p i m (k+1) cs:=rfl
theorem zmj {id ver:Nat} {p:List (Nat×Nat×Nat)} {v:Value}:ofOwn id ver p (.a v)= .a v:=rfl
theorem zi9 {id ver:Nat} {p:List (Nat×Nat×Nat)} {e:Nat} {es:List PV}:ofOwn id ver p (.sl e es)= .ri id ver p:=rfl
theorem zk1 {id ver:Nat} {p:List (Nat×Nat×Nat)} {e:Nat} {es:List PV}:ofOwn id ver p (.fz e es)= .sz e es:=rfl
theorem zng {v:Value}:ofFrozen (.a v)= .a v:=rfl
theorem zm2 {e:Nat} {es:List PV}:ofFrozen (.sl e es)= .sz e es:=rfl
theorem zmg {e:Nat} {es:List PV}:ofFrozen (.fz e es)= .sz e es:=rfl
attribute [go_sem] zdi qyv zmj zi9 zk1 zng zm2 zmg
def loadE (x:Option PV) (id ver:Nat) (p:List (Nat×Nat×Nat)) (i m o:Nat) (w:Option Nat):Option TV:=
 match x with
 |some x=>vbi (ownC id ver p i m 0 x.cells) o w
 |none=>none
theorem qx7 {x:PV} {id ver:Nat} {p:List (Nat×Nat×Nat)} {i m o:Nat} {w:Option Nat}:loadE (some x) id ver p i m o w=vbi (ownC id ver p i m 0 x.cells) o w:=rfl
attribute [go_sem] qx7
def loadS (n:Option Node) (id i m o:Nat) (w:Option Nat):Option TV:=
 match n with
 |some (.sl _ ver _ es)=>loadE es[i]? id ver [] i m o w
 |_=>none
theorem zce {q:Bool} {ver e:Nat} {es:List PV} {id i m o:Nat} {w:Option Nat}:loadS (some (.sl q ver e es)) id i m o w=loadE es[i]? id ver [] i m o w:=rfl
attribute [go_sem] zce
def loadP (nd:vcb) (w:Option Nat):TV->Option TV
 | .rf id=>loadN (vbr nd id) 0 w
 | .ad id o=>loadN (vbr nd id) o w
 | .ea id i m o=>loadS (vbr nd id) id i m o w
 | .ez cs o=>vbi (cs.map ofFrozen) o w
 |v=>((loadAt w v).run ⟨[],nd,0⟩).map (·.1)
theorem zff {w:Option Nat} {id:Nat}:loadP nd w (.rf id)=loadN (vbr nd id) 0 w:=rfl
theorem zet {w:Option Nat} {id o:Nat}:loadP nd w (.ad id o)=loadN (vbr nd id) o w:=rfl
theorem zcs {w:Option Nat} {id i m o:Nat}:loadP nd w (.ea id i m o)=loadS (vbr nd id) id i m o w:=rfl
theorem zc2 {w:Option Nat} {cs:List PV} {o:Nat}:loadP nd w (.ez cs o)=vbi (cs.map ofFrozen) o w:=rfl
attribute [go_sem] zff zet zcs zc2
def Reads {α:Type} (m:M α):Prop:=∀s:St,m.run s=(m.run ⟨[],s.nodes,0⟩).map λp=>(p.1,s)
theorem Reads.pure {α:Type} (x:α):Reads (M.pure x):=λ_=>rfl
theorem Reads.fail {α:Type}:Reads (M.fail:M α):=λ_=>rfl
theorem Reads.getN {α:Type} {id:Nat} {k:Option Node->M α} (h:∀n,Reads (k n)):Reads ((VM.getN id).bind k):=by
 intro s;simp only [var];exact h _ s
theorem Reads.liftO {α:Type} (x:Option α):Reads (VM.liftO x):=by cases x;exact Reads.fail;exact Reads.pure _
theorem qe4 (w : Option Nat) (v : TV) : Reads (loadAt w v) := by
  unfold loadAt;split <;> first
    | exact Reads.fail
    | exact Reads.liftO _
    | (refine Reads.getN λn => ?_
       repeat' split
       all_goals first
         | exact Reads.fail
         | exact Reads.liftO _)
theorem vmv (w:Option Nat) (v:TV) (s:St):(loadAt w v).run s=(loadP s.nodes w v).map (·,s):=by
 cases v with
 |rf id=>
  simp only [loadAt,var,loadP,loadN,vbr];simp only [VM.getN,M.run,St.node];cases (look s.nodes id).getD none with
  |none=>rfl
  |some n=>
   cases n with
   |bx z cs=>simp only;cases vbi cs 0 w<;>rfl
   |sl _ _ _ _=>rfl
 |ad id o=>
  simp only [loadAt,var,loadP,loadN,vbr];simp only [VM.getN,M.run,St.node];cases (look s.nodes id).getD none with
  |none=>rfl
  |some n=>
   cases n with
   |bx z cs=>simp only;cases vbi cs o w<;>rfl
   |sl _ _ _ _=>rfl
 |ea id i m o=>
  simp only [loadAt,var,loadP,loadS,vbr];simp only [VM.getN,M.run,St.node];cases (look s.nodes id).getD none with
  |none=>rfl
  |some n=>
   cases n with
   |bx z cs=>rfl
   |sl q ver e es=>
    simp only [loadE];cases es[i]? with
    |none=>rfl
    |some x=>simp only [qev];cases vbi (ownC id ver [] i m 0 x.cells) o w<;>rfl
 |ez cs o=>
  simp only [loadAt,loadP];cases vbi (cs.map ofFrozen) o w<;>rfl
 |_=>
  rw [qe4];simp only [loadP,Aj];congr 1
def pairS (o:Option TV) (s:St):Option (TV×St):=o.map (·,s)
theorem qwn {v:TV} {s:St}:pairS (some v) s=some (v,s):=rfl
theorem zag {w:Option Nat} {v:TV} {s:St}:(loadAt w v).run s=pairS (loadP s.nodes w v) s:=vmv w v s
theorem qd7 {d:Nat} {w:Option Nat} {x:Opd}:goN Φ N (.ops b (⟨.load d w x,none,g⟩::os) live::r) sl nd nx=putK Φ N d (loadP nd w (ov sl x)) (.ops (b+100) os live::r) sl nd nx:=by
 rw [vch];simp only [exec,var,vb6,vmv];cases loadP nd w (ov sl x)<;>rfl
attribute [go_sem] qwn zag qd7
def atomO:Option TV->Option TV
 |some (.a c)=>some (.a c)
 |_=>none
theorem zio {c:Value}:atomO (some (.a c))=some (.a c):=rfl
theorem qir {d:Nat} {x:Opd}:goN Φ N (.ops b (⟨.lda d x,none,g⟩::os) live::r) sl nd nx=putK Φ N d (atomO (loadP nd none (ov sl x))) (.ops (b+100) os live::r) sl nd nx:=by
 rw [vch];simp only [exec,var,vb6,vmv];cases loadP nd none (ov sl x) with
 |none=>rfl
 |some v=>cases v<;>rfl
attribute [go_sem] zio qir
def fadP (nd:vcb) (off:Nat):TV->Option TV
 | .rf id=>match vbr nd id with|some (.bx _ _)=>some (.ad id off)|_=>none
 | .ad id o=>some (.ad id (o+off))
 | .ea id i m o=>match vbr nd id with|some (.sl _ _ _ _)=>some (.ea id i m (o+off))|_=>none
 | .ez cs o=>some (.ez cs (o+off))
 |v=>((fieldAt off v).run ⟨[],nd,0⟩).map (·.1)
def fadN (n:Option Node) (id off:Nat):Option TV:=
 match n with
 |some (.bx _ _)=>some (.ad id off)
 |_=>none
def fadS (n:Option Node) (id i m o:Nat):Option TV:=
 match n with
 |some (.sl _ _ _ _)=>some (.ea id i m o)
 |_=>none
theorem zl0 {id off:Nat}:fadP nd off (.rf id)=fadN (vbr nd id) id off:=rfl
theorem zib {z:Bool} {cs:List TV} {id off:Nat}:fadN (some (.bx z cs)) id off=some (.ad id off):=rfl
theorem zjq {id o off:Nat}:fadP nd off (.ad id o)=some (.ad id (o+off)):=rfl
theorem zks {id i m o off:Nat}:fadP nd off (.ea id i m o)=fadS (vbr nd id) id i m (o+off):=rfl
theorem zix {q:Bool} {ver e:Nat} {es:List PV} {id i m o:Nat}:fadS (some (.sl q ver e es)) id i m o=some (.ea id i m o):=rfl
theorem zjj {cs:List PV} {o off:Nat}:fadP nd off (.ez cs o)=some (.ez cs (o+off)):=rfl
theorem qdb (off : Nat) (v : TV) : Reads (fieldAt off v) := by
  unfold fieldAt;split <;> first
    | exact Reads.fail
    | exact Reads.pure _
    | (refine Reads.getN λn => ?_
       repeat' split
       all_goals first
         | exact Reads.fail
         | exact Reads.pure _)
theorem vtv (off:Nat) (v:TV) (s:St):(fieldAt off v).run s=(fadP s.nodes off v).map (·,s):=by
 cases v with
 |rf id=>
  simp only [fieldAt,var,fadP,vbr];simp only [VM.getN,M.run,St.node];cases (look s.nodes id).getD none with
  |none=>rfl
  |some n=>cases n<;>rfl
 |ea id i m o=>
  simp only [fieldAt,var,fadP,vbr];simp only [VM.getN,M.run,St.node];cases (look s.nodes id).getD none with
  |none=>rfl
  |some n=>cases n<;>rfl
 |_=>
  rw [qdb];simp only [fadP]
  first
   |rfl
   |(simp only [Aj];congr 1)
theorem qjg {d off:Nat} {x:Opd}:goN Φ N (.ops b (⟨.fad d x off,none,g⟩::os) live::r) sl nd nx=putK Φ N d (fadP nd off (ov sl x)) (.ops (b+100) os live::r) sl nd nx:=by
 rw [vch];simp only [exec,var,vb6,vtv];cases fadP nd off (ov sl x)<;>rfl
attribute [go_sem] zl0 zib zjq zks zix zjj qjg
def fldT (off:Nat) (w:Option Nat):TV->Option TV
 | .st cs=>vbi cs off w
 |_=>none
theorem zjf {off:Nat} {w:Option Nat} {cs:List TV}:fldT off w (.st cs)=vbi cs off w:=rfl
theorem qjt {d off:Nat} {w:Option Nat} {x:Opd}:goN Φ N (.ops b (⟨.fld d x off w,none,g⟩::os) live::r) sl nd nx=putK Φ N d (fldT off w (ov sl x)) (.ops (b+100) os live::r) sl nd nx:=by
 rw [vch];simp only [exec,var,vb6];cases ov sl x with
 |st cs=>simp only [var,fldT];cases vbi cs off w<;>rfl
 |_=>rfl
attribute [go_sem] zjf qjt
def elemsN (n:Option Node):Option (Nat×List PV):=
 match n with
 |some (.sl _ _ e es)=>some (e,es)
 |_=>none
theorem qzc {q:Bool} {ver e:Nat} {es:List PV}:elemsN (some (.sl q ver e es))=some (e,es):=rfl
attribute [go_sem] qzc
def elemsB (n:Option Node) (lo k:Nat):Option (Nat×List PV):=
 match n with
 |some (.sl _ _ e es)=>some (e,(es.drop lo).take k)
 |_=>none
theorem qzg {q:Bool} {ver e lo k:Nat} {es:List PV}:elemsB (some (.sl q ver e es)) lo k=some (e,(es.drop lo).take k):=rfl
attribute [go_sem] qzg
def elemsI (n:Option Node) (ver:Nat) (p:List (Nat×Nat×Nat)):Option (Nat×List PV):=
 match n with
 |some (.sl _ ver' _ es)=>if ver'=ver then dget es p else none
 |_=>none
theorem qza {q:Bool} {ver ver' e:Nat} {es:List PV} {p:List (Nat×Nat×Nat)}:elemsI (some (.sl q ver' e es)) ver p=if ver'=ver then dget es p else none:=rfl
attribute [go_sem] qza
def vdr (nd:vcb):TV->Option (Nat×List PV)
 | .nl e=>some (e,[])
 | .sz e es=>some (e,es)
 | .rf id=>elemsN (vbr nd id)
 | .sb id lo k=>elemsB (vbr nd id) lo k
 | .ri id ver p=>elemsI (vbr nd id) ver p
 |_=>none
theorem zdm {e:Nat}:vdr nd (.nl e)=some (e,[]):=rfl
theorem zco {e:Nat} {es:List PV}:vdr nd (.sz e es)=some (e,es):=rfl
theorem zcw {id:Nat}:vdr nd (.rf id)=elemsN (vbr nd id):=rfl
theorem qag {id lo k:Nat}:vdr nd (.sb id lo k)=elemsB (vbr nd id) lo k:=rfl
theorem qco {id ver:Nat} {p:List (Nat×Nat×Nat)}:vdr nd (.ri id ver p)=elemsI (vbr nd id) ver p:=rfl
theorem vnl (v:TV) (s:St):(elems v).run s=(vdr s.nodes v).map (·,s):=by
 cases v with
 |rf id=>
  simp only [elems,var,vdr,elemsN,vbr];simp only [VM.getN,M.run,St.node];cases (look s.nodes id).getD none with
  |none=>rfl
  |some n=>cases n<;>rfl
 |sb id lo k=>
  simp only [elems,var,vdr,elemsB,vbr];simp only [VM.getN,M.run,St.node];cases (look s.nodes id).getD none with
  |none=>rfl
  |some n=>cases n<;>rfl
 |ri id ver p=>
  simp only [elems,var,vdr,elemsI,vbr];simp only [VM.getN,M.run,St.node];cases (look s.nodes id).getD none with
  |none=>rfl
  |some n=>
   cases n with
   |bx _ _=>rfl
   |sl q ver' e es=>
    simp only;split
    ·cases dget es p<;>rfl
    ·rfl
 |_=>rfl
attribute [go_sem] zdm zco zcw qag qco
def lenO (o:Option (Nat×List PV)):Option TV:=o.map λr=> .a (.int .i64 r.2.length)
theorem zeq {e:Nat} {es:List PV}:lenO (some (e,es))=some (.a (.int .i64 es.length)):=rfl
theorem qhq {d:Nat} {x:Opd}:goN Φ N (.ops b (⟨.len d x,none,g⟩::os) live::r) sl nd nx=putK Φ N d (lenO (vdr nd (ov sl x))) (.ops (b+100) os live::r) sl nd nx:=by
 rw [vch];simp only [exec,var,vb6,vnl];cases vdr nd (ov sl x)<;>rfl
attribute [go_sem] zeq qhq
def s2bM (b d e:Nat) (x:TV):M Unit:=
 match x with
 | .a (.string s)=>if s.size<=9223372036854775807 then (setN b (some (.sl false 0 e (bytesPV s)))).bind λ_=>setS d (.rf b) else .fail
 |_=> .fail
theorem zj2 {b d e:Nat} {s:ByteArray} (h:s.size<=9223372036854775807):(s2bM b d e (.a (.string s))).run ⟨sl,nd,nx⟩=some ((),⟨(d,.rf b)::sl,(b,some (.sl false 0 e (bytesPV s)))::nd,nx⟩):=by
 simp only [s2bM,h,if_true];rfl
theorem qg7 {d e:Nat} {x:Opd}:goN Φ N (.ops b (⟨.s2b d e x,none,g⟩::os) live::r) sl nd nx=aftK Φ N ((s2bM b d e (ov sl x)).run ⟨sl,nd,nx⟩) (.ops (b+100) os live::r):=by
 rw [vvu];simp only [execG,exec,var,vb6,s2bM];rfl
attribute [go_sem] zj2 qg7
def b2sU:Option (List UInt8)->Option TV
 |some bs=>some (.a (.string ⟨bs.toArray⟩))
 |none=>none
theorem qzl {bs:List UInt8}:b2sU (some bs)=some (.a (.string ⟨bs.toArray⟩)):=rfl
attribute [go_sem] qzl
def b2sO (e:Nat) (o:Option (Nat×List PV)):Option TV:=
 match o with
 |some (e',es)=>if e'=e then b2sU (u8of es) else none
 |none=>none
theorem zaz {e:Nat} {es:List PV}:b2sO e (some (e,es))=b2sU (u8of es):=by simp [b2sO]
theorem zd3:u8of []=some []:=rfl
attribute [go_sem] zaz zd3
def u8c (b:UInt8):Option (List UInt8)->Option (List UInt8)
 |some bs=>some (b::bs)
 |none=>none
theorem zdx {b:UInt8} {bs:List UInt8}:u8c b (some bs)=some (b::bs):=rfl
theorem qy2 {n:Int} {es:List PV}:u8of (.a (.int .u8 n)::es)=u8c (UInt8.ofNat n.toNat) (u8of es):=by
 simp only [u8of];cases u8of es<;>rfl
theorem qhp {d e:Nat} {x:Opd}:goN Φ N (.ops b (⟨.b2s d e x,none,g⟩::os) live::r) sl nd nx=putK Φ N d (b2sO e (vdr nd (ov sl x))) (.ops (b+100) os live::r) sl nd nx:=by
 rw [vch];simp only [exec,var,vb6,vnl];cases vdr nd (ov sl x) with
 |none=>rfl
 |some p=>
  obtain ⟨e',es⟩:=p;simp only [b2sO,Aa];split
  ·cases u8of es<;>rfl
  ·rfl
attribute [go_sem] zdx qy2 qhp
def slenT:TV->Option TV
 | .a (.string s)=>some (.a (.int .i64 s.size))
 |_=>none
theorem zj8 {s:ByteArray}:slenT (.a (.string s))=some (.a (.int .i64 s.size)):=rfl
theorem qer {d:Nat} {x:Opd}:goN Φ N (.ops b (⟨.slen d x,none,g⟩::os) live::r) sl nd nx=putK Φ N d (slenT (ov sl x)) (.ops (b+100) os live::r) sl nd nx:=by
 rw [vch];simp only [exec,var,vb6];cases ov sl x with
 |a v=>cases v<;>rfl
 |_=>rfl
attribute [go_sem] zj8 qer
def iadP (m:Nat) (x:TV) (es:List PV) (i:Nat):Option TV:=
 match x with
 | .rf id=>some (.ea id i m 0)
 | .sb id lo _=>some (.ea id (lo+i) m 0)
 | .ri id ver p=>some (.ei id ver p i m 0)
 | .sz _ _=>some (.ez (es[i]?.getD .un).cells 0)
 |_=>none
theorem zgd {m id i:Nat} {es:List PV}:iadP m (.rf id) es i=some (.ea id i m 0):=rfl
theorem zgx {m id lo k i:Nat} {es:List PV}:iadP m (.sb id lo k) es i=some (.ea id (lo+i) m 0):=rfl
theorem zf5 {m id ver i:Nat} {p:List (Nat×Nat×Nat)} {es:List PV}:iadP m (.ri id ver p) es i=some (.ei id ver p i m 0):=rfl
theorem ziy {m e i:Nat} {es es':List PV}:iadP m (.sz e es') es i=some (.ez (es[i]?.getD .un).cells 0):=rfl
attribute [go_sem] zgd zgx zf5 ziy
def iadO (e m:Nat) (x:TV) (o:Option (Nat×List PV)) (i:TV):Option TV:=
 match o,i with
 |some (e',es),.a (.int _ n)=>if e'=e/\0<=n/\n<es.length then iadP m x es n.toNat else none
 |_,_=>none
theorem zky {e m:Nat} {x:TV} {es:List PV} {k:IntKind} {n:Int} (h0:0<=n) (h1:n<es.length):iadO e m x (some (e,es)) (.a (.int k n))=iadP m x es n.toNat:=by
 simp [iadO,h0,h1]
theorem vuc (e m:Nat) (x:TV) (i:Int) (s:St):(indexAt e m x i).run s=(iadO e m x (vdr s.nodes x) (.a (.int .i64 i))).map (·,s):=by
 simp only [indexAt,var,vnl];cases ho:vdr s.nodes x with
 |none=>rfl
 |some p=>
  obtain ⟨e',es⟩:=p;simp only [Aa,iadO];rw [qu4];split
  ·rename_i hcond;have hget:es[i.toNat]? =some (es[i.toNat]'zo):=Ag zo;cases x with
   |sz e0 es0=>
    simp only [vdr,Ad,Ae] at ho;obtain ⟨_,rfl⟩:=ho;simp only [iadP,hget];rfl
   |_=>rfl
  ·rfl
theorem qkl {d e m:Nat} {x i:Opd}:goN Φ N (.ops b (⟨.iad d e m x i,none,g⟩::os) live::r) sl nd nx=putK Φ N d (iadO e m (ov sl x) (vdr nd (ov sl x)) (ov sl i)) (.ops (b+100) os live::r) sl nd nx:=by
 rw [vch];simp only [exec,var,vb6];cases hi:ov sl i with
 |a v=>
  cases v with
  |int k n=>
   simp only [asI,var,vuc];have:iadO e m (ov sl x) (vdr nd (ov sl x)) (.a (.int .i64 n))=iadO e m (ov sl x) (vdr nd (ov sl x)) (.a (.int k n)):=by
    cases vdr nd (ov sl x)<;>rfl
   rw [this];cases iadO e m (ov sl x) (vdr nd (ov sl x)) (.a (.int k n))<;>rfl
  |_=>cases vdr nd (ov sl x)<;>rfl
 |_=>cases vdr nd (ov sl x)<;>rfl
attribute [go_sem] zky qkl
def ixT (x i:TV):Option TV:=
 match x,i with
 | .a (.string s),.a (.int _ n)=>(byteAt s n).map .a
 |_,_=>none
theorem qpa {d:Nat} {x i:Opd}:goN Φ N (.ops b (⟨.ix d x i,none,g⟩::os) live::r) sl nd nx=putK Φ N d (ixT (ov sl x) (ov sl i)) (.ops (b+100) os live::r) sl nd nx:=by
 rw [vch];simp only [exec,var,vb6];cases ov sl x with
 |a v=>
  cases v with
  |string s=>
   cases ov sl i with
   |a u=>
    cases u with
    |int k n=>simp only [asI,var,ixT];cases byteAt s n<;>rfl
    |_=>rfl
   |_=>rfl
  |_=>cases asI (ov sl i)<;>cases ov sl i<;>rfl
 |_=>cases asI (ov sl i)<;>cases ov sl i<;>rfl
attribute [go_sem] qpa
def binT (op:BinOp) (x y:TV):Option TV:=
 match x,y with
 | .a u,.a v=>(binA op u v).map .a
 |_,_=>none
theorem qid {d:Nat} {op:BinOp} {x y:Opd}:goN Φ N (.ops b (⟨.bin d op x y,none,g⟩::os) live::r) sl nd nx=putK Φ N d (binT op (ov sl x) (ov sl y)) (.ops (b+100) os live::r) sl nd nx:=by
 rw [vch];simp only [exec,var,vb6];cases ov sl x with
 |a u=>
  cases ov sl y with
  |a v=>simp only [var,binT];cases binA op u v<;>rfl
  |_=>rfl
 |_=>cases ov sl y<;>rfl
attribute [go_sem] qid
section
variable {k k':IntKind} {x y:Int}
theorem zhb:binT .add (.a (.int k x)) (.a (.int k y))=some (.a (.int k (k.wrap (x+y)))):=by simp [binT,binA,vdp,vep]
theorem zh5:binT .sub (.a (.int k x)) (.a (.int k y))=some (.a (.int k (k.wrap (x-y)))):=by simp [binT,binA,vdp,vep]
theorem zim:binT .mul (.a (.int k x)) (.a (.int k y))=some (.a (.int k (k.wrap (x * y)))):=by simp [binT,binA,vdp,vep]
theorem zi2 (h:y≠0):binT .quo (.a (.int k x)) (.a (.int k y))=some (.a (.int k (k.wrap (x.tdiv y)))):=by simp [binT,binA,vdp,vep,h]
theorem zh0 (h:y≠0):binT .rem (.a (.int k x)) (.a (.int k y))=some (.a (.int k (x.tmod y))):=by simp [binT,binA,vdp,vep,h]
theorem zhh (h:0<=y):binT .shl (.a (.int k x)) (.a (.int k' y))=some (.a (.int k (k.wrap (x * 2^(min y.toNat k.bits))))):=by
 have:¬y<0:=zo
 simp [binT,binA,vdp,vep,this]
theorem zfx (h:0<=y):binT .shr (.a (.int k x)) (.a (.int k' y))=some (.a (.int k (x.fdiv (2^(min y.toNat k.bits))))):=by
 have:¬y<0:=zo
 simp [binT,binA,vdp,vep,this]
theorem zgj:binT .eql (.a (.int k x)) (.a (.int k y))=some (.a (.bool (decide (x=y)))):=by
 simp [binT,binA,vdp,vep];rfl
theorem zgy:binT .neq (.a (.int k x)) (.a (.int k y))=some (.a (.bool (decide (x≠y)))):=by
 simp [binT,binA,vdp,vep,bne];rfl
attribute [go_sem] zhb zh5 zim zi2 zh0 zhh zfx zgj zgy
def iAnd (k:IntKind) (x y:Int):Int:=k.wrap (BitVec.ofInt k.bits x&&&BitVec.ofInt k.bits y).toNat
def iOr (k:IntKind) (x y:Int):Int:=k.wrap (BitVec.ofInt k.bits x|||BitVec.ofInt k.bits y).toNat
def iXor (k:IntKind) (x y:Int):Int:=k.wrap (BitVec.ofInt k.bits x^^^BitVec.ofInt k.bits y).toNat
def iAndNot (k:IntKind) (x y:Int):Int:=k.wrap (BitVec.ofInt k.bits x&&& ~~~(BitVec.ofInt k.bits y)).toNat
theorem zi7:binT .and (.a (.int k x)) (.a (.int k y))=some (.a (.int k (iAnd k x y))):=by simp [binT,binA,vdp,vep,iAnd]
theorem zjl:binT .or (.a (.int k x)) (.a (.int k y))=some (.a (.int k (iOr k x y))):=by simp [binT,binA,vdp,vep,iOr]
theorem zi5:binT .xor (.a (.int k x)) (.a (.int k y))=some (.a (.int k (iXor k x y))):=by simp [binT,binA,vdp,vep,iXor]
theorem qxd:binT .andNot (.a (.int k x)) (.a (.int k y))=some (.a (.int k (iAndNot k x y))):=by simp [binT,binA,vdp,vep,iAndNot]
theorem zhc:binT .lss (.a (.int k x)) (.a (.int k y))=some (.a (.bool (decide (x<y)))):=by simp [binT,binA,vdp,vep]
theorem zhq:binT .leq (.a (.int k x)) (.a (.int k y))=some (.a (.bool (decide (x<=y)))):=by simp [binT,binA,vdp,vep]
theorem zgv:binT .gtr (.a (.int k x)) (.a (.int k y))=some (.a (.bool (decide (y<x)))):=by simp [binT,binA,vdp,vep]
theorem zh8:binT .geq (.a (.int k x)) (.a (.int k y))=some (.a (.bool (decide (y<=x)))):=by simp [binT,binA,vdp,vep]
attribute [go_sem] zi7 zjl zi5 qxd zhc zhq zgv zh8
end
theorem zfl {x y:ByteArray} (h:x.size+y.size<=140737488351232):binT .add (.a (.string x)) (.a (.string y))=some (.a (.string (x++y))):=by simp [binT,binA,strBin,h]
theorem toList_inj {x y:ByteArray}:x.toList=y.toList↔x=y:=by
 rw [ByteArray.toList_eq,ByteArray.toList_eq];constructor
 ·intro h;exact ByteArray.ext (Array.toList_inj.1 h)
 ·rintro rfl;rfl
theorem vw2 (x y:ByteArray):(x.toList==y.toList)=decide (x=y):=by
 by_cases h:x=y
 ·subst h;simp
 ·have:x.toList≠y.toList:=λe=>h (toList_inj.1 e);simp [h,this]
theorem zbi {x y:ByteArray}:binT .eql (.a (.string x)) (.a (.string y))=some (.a (.bool (decide (x=y)))):=by
 simp only [binT,binA,strBin,vw2,Aa]
theorem zb0 {x y:ByteArray}:binT .neq (.a (.string x)) (.a (.string y))=some (.a (.bool (decide (x≠y)))):=by
 simp only [binT,binA,strBin,vw2,Aa,decide_not]
attribute [go_sem] zfl zbi zb0
def beqT (ne:Bool) (n:Nat) (x y:TV):Option TV:=
 match n,x,y with
 |0,.a (.bool u),.a (.bool v)=>some (.a (.bool (if ne then u !=v else u==v)))
 |m+1,.st us,.st vs=>(if us.length=m+1 then rowEq us vs else none).map λr=> .a (.bool (if ne then !r else r))
 |_,_,_=>none
theorem zms {u v:Bool}:beqT false 0 (.a (.bool u)) (.a (.bool v))=some (.a (.bool (u==v))):=rfl
theorem zmb {u v:Bool}:beqT true 0 (.a (.bool u)) (.a (.bool v))=some (.a (.bool (u !=v))):=rfl
theorem zk5 {ne:Bool} {k k':IntKind} {x y x' y':Int}:beqT ne 2 (.st [.a (.int k x),.a (.int k' y)]) (.st [.a (.int k x'),.a (.int k' y')])=some (.a (.bool (if ne then !(decide (x=x')&&decide (y=y')) else (decide (x=x')&&decide (y=y'))))):=by
 simp [beqT,rowEq]
theorem qgx {d:Nat} {ne:Bool} {n:Nat} {x y:Opd}:goN Φ N (.ops b (⟨.beq d ne n x y,none,g⟩::os) live::r) sl nd nx=putK Φ N d (beqT ne n (ov sl x) (ov sl y)) (.ops (b+100) os live::r) sl nd nx:=by
 rw [vch];simp only [exec,var,vb6];cases n with
 |zero=>
  cases ov sl x with
  |a u=>
   cases u with
   |bool u=>
    cases ov sl y with
    |a v=>cases v<;>rfl
    |_=>rfl
   |_=>cases ov sl y with
    |a v=>cases v<;>rfl
    |_=>rfl
  |_=>cases ov sl y<;>rfl
 |succ m=>
  cases ov sl x with
  |st us=>
   cases ov sl y with
   |st vs=>
    simp only [bindR,beqT,var];cases (if us.length=m+1 then rowEq us vs else none)<;>rfl
   |_=>rfl
  |_=>cases ov sl y<;>rfl
attribute [go_sem] zms zmb zk5 qgx
def unT (op:UnOp) (x:TV):Option TV:=
 match x with
 | .a u=>(unA op u).map .a
 |_=>none
theorem zj6 {t:Bool}:unT .not (.a (.bool t))=some (.a (.bool (!t))):=rfl
theorem zla {k:IntKind} {n:Int}:unT .neg (.a (.int k n))=some (.a (.int k (k.wrap (0-n)))):=rfl
theorem qo1 {d:Nat} {op:UnOp} {x:Opd}:goN Φ N (.ops b (⟨.un d op x,none,g⟩::os) live::r) sl nd nx=putK Φ N d (unT op (ov sl x)) (.ops (b+100) os live::r) sl nd nx:=by
 rw [vch];simp only [exec,var,vb6];cases ov sl x with
 |a u=>simp only [var,unT];cases unA op u<;>rfl
 |_=>rfl
attribute [go_sem] zj6 zla qo1
def cviT (k:IntKind) (x:TV):Option TV:=
 match x with
 | .a (.int _ n)=>some (.a (.int k (k.wrap n)))
 |_=>none
theorem zmh {k k':IntKind} {n:Int}:cviT k (.a (.int k' n))=some (.a (.int k (k.wrap n))):=rfl
theorem qj1 {d:Nat} {k:IntKind} {x:Opd}:goN Φ N (.ops b (⟨.cvi d k x,none,g⟩::os) live::r) sl nd nx=putK Φ N d (cviT k (ov sl x)) (.ops (b+100) os live::r) sl nd nx:=by
 rw [vch];simp only [exec,var,vb6];cases ov sl x with
 |a v=>cases v<;>rfl
 |_=>rfl
attribute [go_sem] zmh qj1
def extT (i:Nat) (x:TV):Option TV:=
 match x with
 | .tp cs=>cs[i]?
 |_=>none
theorem zld {i:Nat} {cs:List TV}:extT i (.tp cs)=cs[i]? :=rfl
theorem qjv {d i:Nat} {x:Opd}:goN Φ N (.ops b (⟨.ext d x i,none,g⟩::os) live::r) sl nd nx=putK Φ N d (extT i (ov sl x)) (.ops (b+100) os live::r) sl nd nx:=by
 rw [vch];simp only [exec,var,vb6];cases ov sl x with
 |tp cs=>simp only [var,extT];cases cs[i]? <;>rfl
 |_=>rfl
attribute [go_sem] zld qjv
def gK (Φ:Nat->Option Callee) (N:Nat) (u:TV) (want:Bool) (b:Nat) (op:VOp) (dst:Option Nat) (os:List VOper) (live:List Nat) (r:List It) (sl:vcv) (nd:vcb) (nx:Nat):Option (Out×St):=
 match u with
 | .a (.bool t)=>if t=want then goN Φ N (.ops b (⟨op,none,dst⟩::os) live::r) sl nd nx else aftK Φ N ((putO dst TV.none).run ⟨sl,nd,nx⟩) (.ops (b+100) os live::r)
 | .a (.tuple _)=>aftK Φ N ((putO dst TV.none).run ⟨sl,nd,nx⟩) (.ops (b+100) os live::r)
 |_=>none
theorem qml {op:VOp} {t:Nat} {want:Bool} {dst:Option Nat}:goN Φ N (.ops b (⟨op,some (t,want),dst⟩::os) live::r) sl nd nx=gK Φ N (vgk sl t) want b op dst os live r sl nd nx:=by
 rw [vvu];simp only [execG,var];simp only [VM.getS,M.run,St.slot,gK,vgk];cases (look sl t).getD TV.un with
 |a v=>
  cases v with
  |bool u=>
   simp only;split
   ·rw [vch]
   ·rfl
  |_=>rfl
 |_=>rfl
attribute [go_sem] qml
theorem znn {op:VOp} {dst:Option Nat}:gK Φ N (.a (.bool true)) true b op dst os live r sl nd nx=goN Φ N (.ops b (⟨op,none,dst⟩::os) live::r) sl nd nx:=rfl
theorem znl {op:VOp} {dst:Option Nat}:gK Φ N (.a (.bool false)) false b op dst os live r sl nd nx=goN Φ N (.ops b (⟨op,none,dst⟩::os) live::r) sl nd nx:=rfl
theorem zne {op:VOp} {d:Nat}:gK Φ N (.a (.bool true)) false b op (some d) os live r sl nd nx=goN Φ N (.ops (b+100) os live::r) ((d,TV.none)::sl) nd nx:=rfl
theorem znh {op:VOp} {d:Nat}:gK Φ N (.a (.bool false)) true b op (some d) os live r sl nd nx=goN Φ N (.ops (b+100) os live::r) ((d,TV.none)::sl) nd nx:=rfl
theorem zmr {op:VOp}:gK Φ N (.a (.bool true)) false b op none os live r sl nd nx=goN Φ N (.ops (b+100) os live::r) sl nd nx:=rfl
theorem zmd {op:VOp}:gK Φ N (.a (.bool false)) true b op none os live r sl nd nx=goN Φ N (.ops (b+100) os live::r) sl nd nx:=rfl
theorem zk6 {op:VOp} {want:Bool} {d:Nat}:gK Φ N TV.none want b op (some d) os live r sl nd nx=goN Φ N (.ops (b+100) os live::r) ((d,TV.none)::sl) nd nx:=rfl
theorem zfu {op:VOp} {want:Bool}:gK Φ N TV.none want b op none os live r sl nd nx=goN Φ N (.ops (b+100) os live::r) sl nd nx:=rfl
attribute [go_sem] znn znl zne znh zmr zmd zk6 zfu
def mksM (b d e by_:Nat) (zs:List ZC) (x:TV):M Unit:=
 match x with
 | .a (.int .i64 n)=>
  if 0<=n/\n * by_<=140737488355328/\n<=9223372036854775807 then
   (setN b (some (.sl false 0 e (Ab n.toNat (zeroEl zs.length zs))))).bind λ_=>setS d (.rf b)
  else .fail
 |_=> .fail
theorem qu0 {b d e by_:Nat} {zs:List ZC} {n:Int} (h0:0<=n) (h1:n * by_<=140737488355328) (h2:n<=9223372036854775807):mksM b d e by_ zs (.a (.int .i64 n))=
  (setN b (some (.sl false 0 e (Ab n.toNat (zeroEl zs.length zs))))).bind λ_=>setS d (.rf b):=by
 simp [mksM,h0,h1,h2]
theorem qi2 {d e m n:Nat} {zs:List ZC} {ps:List (Nat×Opd)}:goN Φ N (.ops b (⟨.bsl d e m zs n ps,none,g⟩::os) live::r) sl nd nx=
  aftK Φ N (((bslQ b (flatZ zs) m ps (Ab n (zeroEl m zs))).bind λes=>(setN b (some (.sl es.2 0 e es.1))).bind λ_=>setS d (.rf b)).run ⟨sl,nd,nx⟩) (.ops (b+100) os live::r):=vch
theorem qp2 {flat q:Bool} {m:Nat} {es:List PV}:bslM flat m [] q es= .pure (es,q):=rfl
attribute [go_sem] qi2
def bslK (flat q:Bool) (m i:Nat) (y:PV×Bool) (ps:List (Nat×Opd)) (es:List PV):M (List PV×Bool):=if y.1.cells.length=m/\i<es.length then bslM flat m ps (q||y.2) (es.set i y.1) else .fail
theorem ql4 {flat q:Bool} {m i:Nat} {x:Opd} {ps:List (Nat×Opd)} {es:List PV}:bslM flat m ((i,x)::ps) q es=
  (opd x).bind λv=>(toEl flat v).bind λy=>bslK flat q m i y ps es:=rfl
theorem qte {flat q:Bool} {m i:Nat} {y:PV×Bool} {ps:List (Nat×Opd)} {es:List PV} (h1:y.1.cells.length=m) (h2:i<es.length):bslK flat q m i y ps es=bslM flat m ps (q||y.2) (es.set i y.1):=by
 simp [bslK,h1,h2]
theorem zkr {m:Nat} {ps:List (Nat×Opd)} {es:List PV} {s:St}:M.run (bslQ b true m ps es) s=M.run (bslM true m ps false es) s:=rfl
theorem zcn {flat:Bool} {m:Nat} {es:List PV} {s:St}:M.run (bslQ b flat m [] es) s=M.run (bslM flat m [] false es) s:=by cases flat<;>rfl
theorem zex {m i j:Nat} {x y:Opd} {ps:List (Nat×Opd)} {es:List PV} {s:St}:M.run (bslQ b false m ((i,x)::(j,y)::ps) es) s=M.run (bslM false m ((i,x)::(j,y)::ps) false es) s:=rfl
theorem zd5 {m i:Nat} {x:Opd} {es:List PV} {s:St}:M.run (bslQ b false m [(i,x)] es) s=M.run ((opd x).bind λv=>(pullTo b (.ea 0 0 0 0) v).bind λv=>(toEl false v).bind λy=>bslK false false m i y [] es) s:=rfl
attribute [go_sem ↓] zkr zcn zex zd5
theorem qg2 {d e by_:Nat} {mv:Bool} {x y:Opd}:goN Φ N (.ops b (⟨.app d e by_ mv x y,none,g⟩::os) live::r) sl nd nx=
  aftK Φ N (((appendM b e by_ mv (ov sl x) (ov sl y)).bind (setS d)).run ⟨sl,nd,nx⟩) (.ops (b+100) os live::r):=by
 rw [vch];simp only [exec,var,vb6]
theorem qct {w:Nat} {x y:Opd}:goN Φ N (.ops b (⟨.store w x y,none,g⟩::os) live::r) sl nd nx=
  aftK Φ N (((pullTo b (ov sl x) (ov sl y)).bind (storeAt b w (ov sl x))).run ⟨sl,nd,nx⟩) (.ops (b+100) os live::r):=by
 rw [vch];simp only [exec,var,vb6]
attribute [go_sem] qg2 qct
theorem zid {b id:Nat} {v:TV} {s:St}:M.run (pullTo b (.rf id) v) s=M.run (.pure v) s:=rfl
theorem zgz {b id o:Nat} {v:TV} {s:St}:M.run (pullTo b (.ad id o) v) s=M.run (.pure v) s:=rfl
theorem zg6 {b id ver i m o:Nat} {p:List (Nat×Nat×Nat)} {v:TV} {s:St}:M.run (pullTo b (.ei id ver p i m o) v) s=M.run (.pure v) s:=rfl
theorem qzs {b id i m o:Nat} {v:Value} {s:St}:M.run (pullTo b (.ea id i m o) (.a v)) s=M.run (.pure (.a v)) s:=rfl
theorem qxe {b id i m o e:Nat} {s:St}:M.run (pullTo b (.ea id i m o) (.nl e)) s=M.run (.pure (.nl e)) s:=rfl
theorem qyd {b id i m o k:Nat} {s:St}:M.run (pullTo b (.ea id i m o) (.rf k)) s=M.run (.pure (.rf k)) s:=rfl
theorem qw8 {b id i m o e:Nat} {es:List PV} {s:St}:M.run (pullTo b (.ea id i m o) (.sz e es)) s=M.run (.pure (.sz e es)) s:=rfl
theorem qw3 {b id i m o:Nat} {cs:List TV} {s:St}:M.run (pullTo b (.ea id i m o) (.st cs)) s=M.run ((pullL b cs).bind λcs'=> .pure (.st cs')) s:=rfl
theorem qzd {b:Nat} {s:St}:M.run (pullL b []) s=M.run (.pure []) s:=rfl
theorem zin {b:Nat} {v:Value} {xs:List TV} {s:St}:M.run (pullL b (.a v::xs)) s=M.run ((pullL b xs).bind λys=> .pure (.a v::ys)) s:=rfl
theorem zb4 {b e:Nat} {xs:List TV} {s:St}:M.run (pullL b (.nl e::xs)) s=M.run ((pullL b xs).bind λys=> .pure (.nl e::ys)) s:=rfl
theorem zew {b k:Nat} {xs:List TV} {s:St}:M.run (pullL b (.rf k::xs)) s=M.run ((pullL b xs).bind λys=> .pure (.rf k::ys)) s:=rfl
theorem zeb {b e:Nat} {es:List PV} {xs:List TV} {s:St}:M.run (pullL b (.sz e es::xs)) s=M.run ((pullL b xs).bind λys=> .pure (.sz e es::ys)) s:=rfl
attribute [go_sem ↓] zid zgz zg6 qzs qxe qyd qw8 qw3 qzd zin zb4 zew zeb
def pullN (b id ver:Nat) (p:List (Nat×Nat×Nat)):Option Node->M TV
 |some (.sl q ver' e' es)=>if ver'=ver then pullK b id q e' (dget es p) (dput es p .un) else .fail
 |_=> .fail
theorem zei {b id ver:Nat} {p:List (Nat×Nat×Nat)} {xs:List TV} {s:St}:M.run (pullL b (.ri id ver p::xs)) s=M.run (((getN id).bind (pullN b id ver p)).bind λy=> .pure (y::xs)) s:=rfl
theorem zbr {b id ver e:Nat} {p:List (Nat×Nat×Nat)} {q:Bool} {es:List PV} {s:St}:M.run (pullN b id ver p (some (.sl q ver e es))) s=M.run (pullK b id q e (dget es p) (dput es p .un)) s:=by simp only [pullN,if_true]
theorem qw9 {b id e e2:Nat} {q:Bool} {es es1:List PV} {s:St}:M.run (pullK b id q e2 (some (e,es)) (some es1)) s=M.run ((setN id (some (.sl q (b+51) e2 es1))).bind λ_=>(setN (b+60) (some (.sl q 0 e es))).bind λ_=> .pure (.rf (b+60))) s:=by
 simp only [pullK,takeIn,if_true];rfl
attribute [go_sem ↓] zei zbr qw9
def nilB (d:Nat) (v:TV):Option Node->M Unit
 |some (.bx _ _)=>setS d v
 |_=> .fail
def nilE (d:Nat) (v:TV):Option Node->M Unit
 |some (.sl _ _ _ _)=>setS d v
 |_=> .fail
def nilM (d:Nat):TV->M Unit
 | .rf id=>(getN id).bind (nilB d (.rf id))
 | .ad id o=>setS d (.ad id o)
 | .ea id i m o=>(getN id).bind (nilE d (.ea id i m o))
 | .ez cs o=>setS d (.ez cs o)
 | .fn f fs cs=>setS d (.fn f fs cs)
 | .ic t v=>setS d (.ic t v)
 |_=> .fail
theorem qpk {d:Nat} {v:TV} {z:Bool} {cs:List TV}:nilB d v (some (.bx z cs))=setS d v:=rfl
theorem qpp {d:Nat} {v:TV} {q:Bool} {ver e:Nat} {es:List PV}:nilE d v (some (.sl q ver e es))=setS d v:=rfl
theorem qtz {d id:Nat}:nilM d (.rf id)=(getN id).bind (nilB d (.rf id)):=rfl
theorem qvb {d id o:Nat}:nilM d (.ad id o)=setS d (.ad id o):=rfl
theorem qsp {d id i m o:Nat}:nilM d (.ea id i m o)=(getN id).bind (nilE d (.ea id i m o)):=rfl
theorem qs5 {d o:Nat} {cs:List PV}:nilM d (.ez cs o)=setS d (.ez cs o):=rfl
theorem qum {d f:Nat} {fs cs:List TV}:nilM d (.fn f fs cs)=setS d (.fn f fs cs):=rfl
theorem que {d t:Nat} {v:TV}:nilM d (.ic t v)=setS d (.ic t v):=rfl
theorem qbh {d:Nat} {x:Opd}:goN Φ N (.ops b (⟨.nilck d x,none,g⟩::os) live::r) sl nd nx=
  aftK Φ N ((nilM d (ov sl x)).run ⟨sl,nd,nx⟩) (.ops (b+100) os live::r):=by
 rw [vch];simp only [exec,var,vb6];cases ov sl x with
 |rf id=>
  simp only [nilM,var];congr 1
 |ea id i m o=>
  simp only [nilM,var];congr 1
 |_=>rfl
theorem qh0 {d f:Nat} {fs cs:List Opd}:goN Φ N (.ops b (⟨.mkf d f fs cs,none,g⟩::os) live::r) sl nd nx=
  goN Φ N (.ops (b+100) os live::r) ((d,.fn f (fs.map (ov sl)) (cs.map (ov sl)))::sl) nd nx:=by
 have key:∀(xs:List Opd) (s:St),(opds xs).run s=some (xs.map (ov s.slots),s):=by
  intro xs;induction xs with
  |nil=>intro s;rfl
  |cons x xs ih=>intro s;simp only [opds,var,vb6,ih];rfl
 rw [vch];simp only [exec,var,key];rfl
theorem vm0:∀(xs:List Opd) (s:St),(opds xs).run s=some (xs.map (ov s.slots),s)
 | [],s=>rfl
 |x::xs,s=>by simp only [opds,var,vb6,vm0 xs];rfl
theorem qik {d t:Nat} {x:Opd}:goN Φ N (.ops b (⟨.mki d t x,none,g⟩::os) live::r) sl nd nx=goN Φ N (.ops (b+100) os live::r) ((d,.ic t (ov sl x))::sl) nd nx:=by
 rw [vch];simp only [exec,var,vb6];rfl
theorem qkd {d e by_:Nat} {zs:List ZC} {x:Opd}:goN Φ N (.ops b (⟨.mks d e by_ zs x,none,g⟩::os) live::r) sl nd nx=
  aftK Φ N ((mksM b d e by_ zs (ov sl x)).run ⟨sl,nd,nx⟩) (.ops (b+100) os live::r):=by
 rw [vch];simp only [exec,var,vb6,mksM];rfl
theorem qkf {d:Nat} {x:Opd}:goN Φ N (.ops b (⟨.cvs d x,none,g⟩::os) live::r) sl nd nx=
  aftK Φ N ((exec Φ b (.cvs d x)).run ⟨sl,nd,nx⟩) (.ops (b+100) os live::r):=vch
attribute [go_sem] qbh qh0 qik qkd qkf
def boundO (sl:vcv):Option Opd->Option (Option Int)
 |none=>some none
 |some y=>(asI (ov sl y)).map some
theorem vyp (y:Option Opd) (s:St):(bound y).run s=(boundO s.slots y).map (·,s):=by
 cases y with
 |none=>rfl
 |some y=>
  simp only [bound,var,vb6,boundO];cases asI (ov s.slots y)<;>rfl
theorem qxr:boundO sl none=some none:=rfl
theorem qw2 {y:Opd}:boundO sl (some y)=(asI (ov sl y)).map some:=rfl
theorem zgq {k:IntKind} {n:Int}:asI (.a (.int k n))=some n:=rfl
attribute [go_sem] qxr qw2 zgq
def cutK (Φ:Nat->Option Callee) (N:Nat) (d:Nat) (lo hi:Option (Option Int)) (f:Option Int->Option Int->M TV) (r:List It) (s:St):Option (Out×St):=
 match lo,hi with
 |some l,some h=>aftK Φ N (((f l h).bind (setS d)).run s) r
 |_,_=>none
theorem zcp {d:Nat} {l h:Option Int} {f:Option Int->Option Int->M TV} {s:St}:cutK Φ N d (some l) (some h) f r s=aftK Φ N (((f l h).bind (setS d)).run s) r:=rfl
theorem qi7 {d e:Nat} {x:Opd} {lo hi:Option Opd}:goN Φ N (.ops b (⟨.slc d e x lo hi,none,g⟩::os) live::r) sl nd nx=
  cutK Φ N d (boundO sl lo) (boundO sl hi) (sliceAt e (ov sl x)) (.ops (b+100) os live::r) ⟨sl,nd,nx⟩:=by
 rw [vch];simp only [exec,var,vb6,vyp];cases hlo:boundO sl lo with
 |none=>cases boundO sl hi<;>rfl
 |some l=>
  cases hhi:boundO sl hi with
  |none=>simp only [Aa,Ai,hhi];rfl
  |some h=>simp only [Aa,hhi,var,cutK]
theorem qen {d:Nat} {x:Opd} {lo hi:Option Opd}:goN Φ N (.ops b (⟨.sslc d x lo hi,none,g⟩::os) live::r) sl nd nx=
  cutK Φ N d (boundO sl lo) (boundO sl hi) (strAt (ov sl x)) (.ops (b+100) os live::r) ⟨sl,nd,nx⟩:=by
 rw [vch];simp only [exec,var,vb6,vyp];cases hlo:boundO sl lo with
 |none=>cases boundO sl hi<;>rfl
 |some l=>
  cases hhi:boundO sl hi with
  |none=>simp only [Aa,Ai,hhi];rfl
  |some h=>simp only [Aa,hhi,var,cutK]
attribute [go_sem] zcp qi7 qen
def ext2 (t:Bool) (x y:Int):Int:=if t then (if y>x then y else x) else (if y<x then y else x)
def mmT (t:Bool):TV->TV->Option TV
 | .a (.int k x),.a (.int _ y)=>some (.a (.int k (ext2 t x y)))
 |_,_=>none
theorem zmy {t:Bool} {k k':IntKind} {x y:Int}:mmT t (.a (.int k x)) (.a (.int k' y))=some (.a (.int k (ext2 t x y))):=rfl
theorem qaj {d:Nat} {t:Bool} {x y:Opd}:goN Φ N (.ops b (⟨.mmx d t [x,y],none,g⟩::os) live::r) sl nd nx=
  putK Φ N d (mmT t (ov sl x) (ov sl y)) (.ops (b+100) os live::r) sl nd nx:=by
 rw [vch];simp only [exec,var,vm0,List.map];cases ov sl x with
 |a u=>
  cases u with
  |int k n=>
   simp only [var];cases ov sl y with
   |a v=>cases v<;>first|rfl|(cases t<;>rfl)
   |_=>rfl
  |_=>rfl
 |_=>rfl
attribute [go_sem] zmy qaj
def slc0K (Φ:Nat->Option Callee) (N:Nat) (d b e:Nat) (o:Option (Nat×List PV)) (r:List It) (sl:vcv) (nd:vcb) (nx:Nat):Option (Out×St):=
 match o with
 |some (e',_)=>if e'=e then goN Φ N r ((d,.rf b)::sl) ((b,some (.sl false 0 e []))::nd) nx else none
 |none=>none
theorem zah {d b e:Nat} {es:List PV}:slc0K Φ N d b e (some (e,es)) r sl nd nx=goN Φ N r ((d,.rf b)::sl) ((b,some (.sl false 0 e []))::nd) nx:=by simp [slc0K]
theorem qd6 {d e:Nat} {x:Opd}:goN Φ N (.ops b (⟨.slc0 d e x,none,g⟩::os) live::r) sl nd nx=slc0K Φ N d b e (vdr nd (ov sl x)) (.ops (b+100) os live::r) sl nd nx:=by
 rw [vch];simp only [exec,var,vb6,vnl];cases vdr nd (ov sl x) with
 |none=>rfl
 |some p=>
  obtain ⟨e',es⟩:=p;simp only [Aa,slc0K];split<;>rfl
attribute [go_sem] zah qd6
def callK (Φ:Nat->Option Callee) (N:Nat) (c:Option Callee) (b:Nat) (d:Option Nat) (xs:List TV) (r:List It) (s:St):Option (Out×St):=
 match c with
 |none=>none
 |some c=>aftK Φ N (((callM (some c) b xs).bind (putO d)).run s) r
theorem vxj {d:Option Nat} {f:Nat} {xs:List Opd}:goN Φ N (.ops b (⟨.call d f xs,none,g⟩::os) live::r) sl nd nx=
  callK Φ N (Φ f) b d (xs.map (ov sl)) (.ops (b+100) os live::r) ⟨sl,nd,nx⟩:=by
 rw [vch];simp only [exec,var,vm0,callK];cases Φ f with
 |none=>rfl
 |some c=>simp only [var]
attribute [go_sem] vxj
def calvK (Φ:Nat->Option Callee) (N:Nat) (f:TV) (b:Nat) (d:Option Nat) (xs:List TV) (r:List It) (s:St):Option (Out×St):=
 match f with
 | .fn g fs cs=>callK Φ N (Φ g) b d (fs++xs++cs) r s
 |_=>none
theorem zis {g:Nat} {fs cs xs:List TV} {b:Nat} {d:Option Nat} {s:St}:calvK Φ N (.fn g fs cs) b d xs r s=callK Φ N (Φ g) b d (fs++xs++cs) r s:=rfl
theorem qel {d:Option Nat} {f:Opd} {xs:List Opd}:goN Φ N (.ops b (⟨.calv d f xs,none,g⟩::os) live::r) sl nd nx=
  calvK Φ N (ov sl f) b d (xs.map (ov sl)) (.ops (b+100) os live::r) ⟨sl,nd,nx⟩:=by
 rw [vch];simp only [exec,var,vb6];cases ov sl f with
 |fn g fs cs=>
  simp only [var,vm0,calvK,callK];cases Φ g with
  |none=>rfl
  |some c=>simp only [var]
 |_=>rfl
attribute [go_sem] zis qel
def caliK (Φ:Nat->Option Callee) (N:Nat) (v:TV) (t f b:Nat) (d:Option Nat) (xs:List TV) (r:List It) (s:St):Option (Out×St):=
 match v with
 | .ic t' v=>if t'=t then callK Φ N (Φ f) b d (v::xs) r s else none
 |_=>none
theorem zfo {t f b:Nat} {v:TV} {xs:List TV} {d:Option Nat} {s:St}:caliK Φ N (.ic t v) t f b d xs r s=callK Φ N (Φ f) b d (v::xs) r s:=if_pos rfl
theorem qeu {d:Option Nat} {t f:Nat} {x:Opd} {xs:List Opd}:goN Φ N (.ops b (⟨.cali d t f x xs,none,g⟩::os) live::r) sl nd nx=
  caliK Φ N (ov sl x) t f b d (xs.map (ov sl)) (.ops (b+100) os live::r) ⟨sl,nd,nx⟩:=by
 rw [vch];simp only [exec,var,vb6];cases ov sl x with
 |ic t' v=>
  simp only [caliK];by_cases h:t'=t
  ·rw [if_pos h,if_pos h];simp only [var,vm0,callK];cases Φ f with
   |none=>rfl
   |some c=>simp only [var]
  ·rw [if_neg h,if_neg h];rfl
 |_=>rfl
theorem qi3 {e:Nat} {z:Value} {x:Opd}:goN Φ N (.ops b (⟨.clr e z x,none,g⟩::os) live::r) sl nd nx=aftK Φ N ((clrAt e z (ov sl x)).run ⟨sl,nd,nx⟩) (.ops (b+100) os live::r):=by
 rw [vch];simp only [exec,var,vb6]
attribute [go_sem] zfo qeu qi3
def clrN (e:Nat) (z:Value) (id:Nat):Option Node->M Unit
 |some (.sl q ver e' es)=>if e'=e/\clrOk es=true then setN id (some (.sl q ver e (Ab es.length (.a z)))) else .fail
 |_=> .fail
theorem zlv {e id:Nat} {z:Value} {s:St}:M.run (clrAt e z (.rf id)) s=M.run ((getN id).bind (clrN e z id)) s:=rfl
theorem zi3 {e id ver:Nat} {z:Value} {q:Bool} {es:List PV} {s:St} (h:clrOk es=true):M.run (clrN e z id (some (.sl q ver e es))) s=M.run (setN id (some (.sl q ver e (Ab es.length (.a z))))) s:=by
 simp only [clrN,h,and_self,if_true]
theorem qnq {es:List PV} (h:es≠[]) (ha:es.all isAtom=true):clrOk es=true:=by
 cases es with
 |nil=>exact absurd rfl h
 |cons x xs=>simpa [clrOk] using ha
attribute [go_sem ↓] zlv zi3
theorem qxp:List.all [] isAtom=true:=rfl
theorem qyw {k:IntKind} {n:Int} {es:List PV}:List.all (.a (.int k n)::es) isAtom=es.all isAtom:=rfl
theorem qzn {k:IntKind} {n:Int} {es:List PV}:clrOk (.a (.int k n)::es)=es.all isAtom:=rfl
attribute [go_sem] qxp qyw qzn
def backK (Φ:Nat->Option Callee) (N:Nat) (keeps scalar:Bool) (ms:List Md) (b:Nat) (d:Option Nat) (xs:List TV) (cs:List CV) (o:Option (List CV×List CV)) (r:List It) (s:St):Option (Out×St):=
 match o with
 |none=>none
 |some (rs,fs)=>aftK Φ N (((van keeps (b+100) b ms xs cs fs).bind λb'=>(if scalar then (if b'<=b+99 then (liftO (plainL rs)).bind λts=>M.pure (oneOf ts) else .fail) else vd5 keeps (b+99) b' rs).bind (putO d)).run s) r
def resS (top b:Nat) (rs:List CV):M TV:=if b<=top then (liftO (plainL rs)).bind λts=>M.pure (oneOf ts) else .fail
def resT (top:Nat) (r:List TV×Nat):M TV:=if r.2<=top then .pure (oneOf r.1) else .fail
theorem qqe {top b:Nat} {rs:List CV} (h:b<=top):resS top b rs=(liftO (plainL rs)).bind λts=>M.pure (oneOf ts):=by simp [resS,h]
theorem qrb {top:Nat} {r:List TV×Nat} (h:r.2<=top):resT top r= .pure (oneOf r.1):=by simp [resT,h]
theorem qc4 {q:Bool} {top b:Nat} {rs:List CV}:vd5 q top b rs=(vbg q b rs).bind (resT top):=rfl
theorem zmz {v:TV}:oneOf [v]=v:=rfl
theorem zmq:oneOf []= .tp []:=rfl
theorem zmo {v u:TV} {l:List TV}:oneOf (v::u::l)= .tp (v::u::l):=rfl
theorem zgo {v:Value}:plain (.a v)=some (.a v):=rfl
theorem ze5 {e:Nat} {es:List PV}:plain (.sl true e es)=some (.sz e es):=rfl
theorem zfc {cs:List CV}:plain (.st cs)=(plainL cs).map .st:=rfl
theorem qwf:plainL []=some []:=rfl
attribute [go_sem] zmz zmq zmo zgo ze5 zfc qwf
def plC (a:Option TV) (o:Option (List TV)):Option (List TV):=match a,o with|some y,some ys=>some (y::ys)|_,_=>none
theorem zcy {y:TV} {ys:List TV}:plC (some y) (some ys)=some (y::ys):=rfl
theorem qvz {x:CV} {xs:List CV}:plainL (x::xs)=plC (plain x) (plainL xs):=rfl
theorem qjf {d:Nat} {v:TV}:putO (some d) v=setS d v:=rfl
theorem qg8 {v:TV}:putO none v= .pure ():=rfl
theorem zjo {keeps:Bool} {ms:List Md} {b:Nat} {d:Option Nat} {xs:List TV} {cs rs fs:List CV} {s:St}:backK Φ N keeps true ms b d xs cs (some (rs,fs)) r s=
  aftK Φ N (((van keeps (b+100) b ms xs cs fs).bind λb'=>(resS (b+99) b' rs).bind (putO d)).run s) r:=rfl
theorem zkz {keeps:Bool} {ms:List Md} {b:Nat} {d:Option Nat} {xs:List TV} {cs rs fs:List CV} {s:St}:backK Φ N keeps false ms b d xs cs (some (rs,fs)) r s=
  aftK Φ N (((van keeps (b+100) b ms xs cs fs).bind λb'=>(vd5 keeps (b+99) b' rs).bind (putO d)).run s) r:=rfl
attribute [go_sem] zcy qvz zjo zkz
def goK (Φ:Nat->Option Callee) (N:Nat) (c:Callee) (b:Nat) (d:Option Nat) (xs:List TV) (o:Option (List CV×St)) (r:List It):Option (Out×St):=
 match o with
 |none=>none
 |some (cs,s)=>backK Φ N c.keeps c.scalar c.modes b d xs cs (c.go cs) r s
theorem ze1 {c:Callee} {b:Nat} {d:Option Nat} {xs:List TV} {cs:List CV} {s:St}:goK Φ N c b d xs (some (cs,s)) r=backK Φ N c.keeps c.scalar c.modes b d xs cs (c.go cs) r s:=rfl
theorem qyq {c:Callee} {b:Nat} {d:Option Nat} {xs:List TV} {s:St}:callK Φ N (some c) b d xs r s=
  goK Φ N c b d xs (((lendA c.keeps (b+100) c.modes xs).bind λps=>show_ c.keeps c.modes xs ps).run s) r:=by
 simp only [callK,callM,var,goK];cases (lendA c.keeps (b+100) c.modes xs).run s with
 |none=>rfl
 |some p=>
  obtain ⟨ps,s1⟩:=p;simp only;cases (show_ c.keeps c.modes xs ps).run s1 with
  |none=>rfl
  |some q=>
   obtain ⟨cs,s2⟩:=q;simp only [backK];cases c.go cs with
   |none=>rfl
   |some x=>
    obtain ⟨rs,fs⟩:=x;simp only [var];cases (van c.keeps (b+100) b c.modes xs cs fs).run s2 with
    |none=>rfl
    |some y=>simp only [var]
attribute [go_sem] ze1 qyq
def goM {α:Type} (o:Option (List CV×List CV)) (k:List CV->List CV->M α):M α:=match o with|none=> .fail|some (rs,fs)=>k rs fs
theorem ze6 {α:Type} {rs fs:List CV} {k:List CV->List CV->M α}:goM (some (rs,fs)) k=k rs fs:=rfl
attribute [go_sem] ze6
def calaM (c:Callee) (b:Nat) (d:Option Nat) (xs:List TV):M Unit:=(lendA c.keeps (b+100) c.modes xs).bind λps=>(show_ c.keeps c.modes xs ps).bind λcs=>goM (c.go cs) λrs fs=>(van c.keeps (b+100) b c.modes xs cs fs).bind λb'=>(vd5 c.keeps (b+99) b' rs).bind λtv=>(alsIn2 (some c) xs tv).bind λ_=>putO d tv
def calaK (Φ:Nat->Option Callee) (N:Nat) (c:Option Callee) (b:Nat) (d:Option Nat) (xs:List TV) (r:List It) (s:St):Option (Out×St):=
 match c with
 |none=>none
 |some c=>aftK Φ N (((callM (some c) b xs).bind λtv=>(alsIn2 (some c) xs tv).bind λ_=>putO d tv).run s) r
theorem qeo {d:Option Nat} {f:Nat} {xs:List Opd}:goN Φ N (.ops b (⟨.cala d f xs,none,g⟩::os) live::r) sl nd nx=
  calaK Φ N (Φ f) b d (xs.map (ov sl)) (.ops (b+100) os live::r) ⟨sl,nd,nx⟩:=by
 rw [vch];simp only [exec,var,vm0,calaK];cases Φ f with
 |none=>rfl
 |some c=>simp only [var]
theorem qzp {ms:List Md} {kp:Bool} {go:List CV->Option (List CV×List CV)} {b:Nat} {d:Option Nat} {xs:List TV} {s:St}:calaK Φ N (some ⟨ms,kp,false,go⟩) b d xs r s=aftK Φ N ((calaM ⟨ms,kp,false,go⟩ b d xs).run s) r:=by
 simp only [calaK,calaM,callM,var];congr 1;cases (lendA kp (b+100) ms xs).run s with
 |none=>rfl
 |some p=>
  obtain ⟨ps,s1⟩:=p;simp only;cases (show_ kp ms xs ps).run s1 with
  |none=>rfl
  |some q=>
   obtain ⟨cs,s2⟩:=q;simp only;cases go cs with
   |none=>rfl
   |some x=>
    obtain ⟨rs,fs⟩:=x;simp only [goM,var,Ac,if_false];cases (van kp (b+100) b ms xs cs fs).run s2 with
    |none=>rfl
    |some y=>simp only
attribute [go_sem] qeo qzp
end
def outK (f:Fn) (o:Option (Out×St)):Option (List CV×List CV):=
 match o with
 |some (.ext _,_)=>none
 |some (_,s)=>((takeOut f).run s).map (·.1)
 |none=>none
theorem zie {f:Fn} {s:St}:outK f (some (.ret,s))=((takeOut f).run s).map (·.1):=rfl
theorem zfr {f:Fn} {s:St}:outK f (some (.nrm,s))=((takeOut f).run s).map (·.1):=rfl
attribute [go_sem] zie zfr
def inK (Φ:Nat->Option Callee) (N:Nat) (f:Fn) (o:Option ((List TV×Nat)×St)):Option (List CV×List CV):=
 match o with
 |some ((vs,b),s)=>outK f (goN Φ N [.c f.body] ((List.range vs.length).zip vs++vf9 0 f.modes vs) s.nodes (b+1))
 |none=>none
def enumS:Nat->List TV->vcv
 |_,[]=> []
 |k,v::vs=>(k,v)::enumS (k+1) vs
theorem zdj {k:Nat}:enumS k []= []:=rfl
theorem qy4 {k:Nat} {v:TV} {vs:List TV}:enumS k (v::vs)=(k,v)::enumS (k+1) vs:=rfl
theorem qdx:∀(vs:List TV) (k:Nat),(List.range' k vs.length).zip vs=enumS k vs
 | [],k=>rfl
 |v::vs,k=>by simp only [Af,List.range'_succ,List.zip_cons_cons,enumS,qdx vs]
theorem ziw {f:Fn} {vs:List TV} {b:Nat} {s:St}:inK Φ N f (some ((vs,b),s))=outK f (goN Φ N [.c f.body] (enumS 0 vs++vf9 0 f.modes vs) s.nodes (b+1)):=by
 simp only [inK,List.range_eq_range',qdx]
theorem vab {f:Fn} {args:List CV} (h:args.length=f.modes.length):vag Φ N f args=inK Φ N f ((vbg f.keeps 0 args).run ⟨[],[],0⟩):=by
 unfold vag inK;rw [if_pos h];cases (vbg f.keeps 0 args).run ⟨[],[],0⟩ with
 |none=>rfl
 |some p=>
  obtain ⟨⟨vs,b⟩,s⟩:=p;rfl
attribute [go_sem] zdj qy4 ziw
def stoN (n:Option Node) (w id o:Nat) (y:TV) (sl:vcv) (nd:vcb) (nx:Nat):Option (Unit×St):=
 match n with
 |some (.bx false cs)=>if y.cells.length=w/\o+w<=cs.length/\y.cells.all TV.one=true then some ((),⟨sl,(id,some (.bx false (cs.take o++y.cells++cs.drop (o+w))))::nd,nx⟩) else none
 |_=>none
theorem vty {w id o:Nat} {y:TV}:(storeBox w id o y).run ⟨sl,nd,nx⟩=stoN (vbr nd id) w id o y sl nd nx:=by
 simp only [storeBox,var,stoN,vbr];simp only [VM.getN,M.run,St.node];cases (look nd id).getD none with
 |none=>rfl
 |some n=>
  cases n with
  |sl _ _ _ _=>rfl
  |bx z cs=>
   cases z with
   |true=>rfl
   |false=>simp only;split<;>rfl
theorem zi8 {b w id:Nat} {y:TV}:(storeAt b w (.rf id) y).run ⟨sl,nd,nx⟩=stoN (vbr nd id) w id 0 y sl nd nx:=vty
theorem zj4 {b w id o:Nat} {y:TV}:(storeAt b w (.ad id o) y).run ⟨sl,nd,nx⟩=stoN (vbr nd id) w id o y sl nd nx:=vty
theorem zh7 {cs:List TV} {w id o:Nat} {y:TV} (h1:y.cells.length=w) (h2:o+w<=cs.length) (h3:y.cells.all TV.one=true):stoN (some (.bx false cs)) w id o y sl nd nx=
  some ((),⟨sl,(id,some (.bx false (cs.take o++y.cells++cs.drop (o+w))))::nd,nx⟩):=by
 simp [stoN,h1,h2,h3]
attribute [go_sem] zi8 zj4 zh7
def stoX (x:Option PV) (q:Bool) (ver e:Nat) (es:List PV) (ys:List PV×Bool) (b w id i o:Nat):M Unit:=
 match x with
 |some x=>if ys.1.length=w/\o+w<=x.cells.length then
   setN id (some (.sl (q||ys.2) (if vet ys.1 x o w then ver else b+1) e (es.set i (vbu x o ys.1))))
  else .fail
 |none=> .fail
def stoE (n:Option Node) (ys:List PV×Bool) (b w id i o:Nat):M Unit:=
 match n with
 |some (.sl q ver e es)=>stoX es[i]? q ver e es ys b w id i o
 |_=> .fail
theorem qj2 {x:PV} {q:Bool} {ver e:Nat} {es:List PV} {ys:List PV×Bool} {b w id i o:Nat} (h1:ys.1.length=w) (h2:o+w<=x.cells.length):stoX (some x) q ver e es ys b w id i o=
  setN id (some (.sl (q||ys.2) (if vet ys.1 x o w then ver else b+1) e (es.set i (vbu x o ys.1)))):=by simp [stoX,h1,h2]
theorem qqk {q:Bool} {ver e:Nat} {es:List PV} {ys:List PV×Bool} {b w id i o:Nat}:stoE (some (.sl q ver e es)) ys b w id i o=stoX es[i]? q ver e es ys b w id i o:=rfl
theorem zbx {ys:List PV} {x:PV} {o w a c:Nat} (h:vet ys x o w=true):(if vet ys x o w=true then a else c)=a:=by simp [h]
theorem znb {v:Value} {y:PV}:vbu (.a v) 0 [y]=y:=rfl
theorem zj5 {e:Nat} {es:List PV} {y:PV}:vbu (.sl e es) 0 [y]=y:=rfl
theorem zj9 {e:Nat} {es:List PV} {y:PV}:vbu (.fz e es) 0 [y]=y:=rfl
theorem zjw {cs ys:List PV} {o:Nat}:vbu (.st cs) o ys= .st (cs.take o++ys++cs.drop (o+ys.length)):=rfl
theorem qtj {b w id i m o:Nat} {y:TV}:storeAt b w (.ea id i m o) y=(toPVs y.cells).bind λys=>(getN id).bind λn=>stoE n ys b w id i o:=by
 rfl
attribute [go_sem] zbx znb zj5 zj9 zjw
def stiK (id:Nat) (q:Bool) (ver e:Nat):Option (List PV)->M Unit
 |some es1=>setN id (some (.sl q ver e es1))
 |none=> .fail
def stiX (w id:Nat) (q:Bool) (ver e:Nat) (es:List PV) (p:List (Nat×Nat×Nat)) (i m o e':Nat) (es' ys:List PV):Option PV->M Unit
 |some x=>if x.cells.length=m/\ys.length=w/\o+w<=x.cells.length/\vet ys x o w=true then stiK id q ver e (dput es p (.sl e' (es'.set i (vbu x o ys)))) else .fail
 |none=> .fail
def stiD (w id:Nat) (q:Bool) (ver e:Nat) (es:List PV) (p:List (Nat×Nat×Nat)) (i m o:Nat) (ys:List PV):Option (Nat×List PV)->M Unit
 |some (e',es')=>stiX w id q ver e es p i m o e' es' ys es'[i]?
 |none=> .fail
def stiN (w id ver:Nat) (p:List (Nat×Nat×Nat)) (i m o:Nat) (ys:Option (List PV)):Option Node->M Unit
 |some (.sl q ver' e es)=>if ver'=ver then vm1 w id q ver e es p i m o (dget es p) ys else .fail
 |_=> .fail
theorem zkw {b w id ver i m o:Nat} {p:List (Nat×Nat×Nat)} {y:TV} {s:St}:M.run (storeAt b w (.ei id ver p i m o) y) s=M.run ((getN id).bind (stiN w id ver p i m o (vej y.cells))) s:=rfl
theorem zf1 {w id ver e i m o:Nat} {q:Bool} {es ys:List PV} {p:List (Nat×Nat×Nat)} {s:St}:M.run (stiN w id ver p i m o (some ys) (some (.sl q ver e es))) s=M.run (stiD w id q ver e es p i m o ys (dget es p)) s:=by
 simp only [stiN,if_true,vm1];cases dget es p with
 |none=>rfl
 |some r=>
  obtain ⟨e',es'⟩:=r;simp only [stiD];cases es'[i]? with
  |none=>rfl
  |some x=>
   simp only [stiX];split
   ·cases dput es p _<;>rfl
   ·rfl
theorem qze {w id ver e i m o e':Nat} {q:Bool} {es es' ys:List PV} {p:List (Nat×Nat×Nat)} {s:St}:M.run (stiD w id q ver e es p i m o ys (some (e',es'))) s=M.run (stiX w id q ver e es p i m o e' es' ys es'[i]?) s:=rfl
theorem zad {w id ver e i m o e':Nat} {q:Bool} {es es' ys:List PV} {p:List (Nat×Nat×Nat)} {x:PV} {s:St} (h1:x.cells.length=m) (h2:ys.length=w) (h3:o+w<=x.cells.length) (h4:vet ys x o w=true):
  M.run (stiX w id q ver e es p i m o e' es' ys (some x)) s=M.run (stiK id q ver e (dput es p (.sl e' (es'.set i (vbu x o ys))))) s:=by simp [stiX,h1,h2,h4,h1▸h3]
theorem qzh {id ver e:Nat} {q:Bool} {es1:List PV} {s:St}:M.run (stiK id q ver e (some es1)) s=M.run (setN id (some (.sl q ver e es1))) s:=rfl
theorem qgw:toPVs []= .pure ([],false):=rfl
theorem qgg {x:TV} {xs:List TV}:toPVs (x::xs)=(toPV x).bind λy=>(toPVs xs).bind λys=> .pure (y.1::ys.1,y.2||ys.2):=rfl
theorem qs1 {v:Value} (h:one1 v=true):toPV (.a v)= .pure (.a v,false):=by simp [toPV,h]
theorem qrj {e:Nat}:toPV (.nl e)= .pure (.sl e [],false):=rfl
theorem qrc {e:Nat} {es:List PV}:toPV (.sz e es)= .pure (.fz e es,true):=rfl
theorem qqi {id:Nat}:toPV (.rf id)=(getN id).bind λn=>match n with
  |some (.sl q _ e es)=>(setN id none).bind λ_=> .pure (.sl e es,q)
  |_=> .fail:=rfl
attribute [go_sem ↓] zkw zf1 qze zad qzh
theorem zll {v:Value} (h:one1 v=true):atomPV (.a v)=some (.a v):=by simp [atomPV,h]
theorem qz9:vej []=some []:=rfl
theorem qyb {v:Value} {xs:List TV} (h:one1 v=true):vej (.a v::xs)=(vej xs).map (.a v::·):=by
 simp only [vej,atomPV,h,if_true];cases vej xs<;>rfl
theorem qop {v:Value} (h:one1 v=true):toEl true (.a v)= .pure (.a v,false):=by simp only [toEl,if_true,atomPV,h];rfl
theorem qi1 {cs:List TV}:toEl true (.st cs)=(liftO (vej cs)).bind λys=> .pure (.st ys,false):=rfl
theorem qjw {cs:List TV}:toEl false (.st cs)=(toPVs cs).bind λys=> .pure (.st ys.1,ys.2):=rfl
theorem qms {v:Value}:toEl false (.a v)=toPV (.a v):=rfl
theorem qib {e:Nat}:toEl false (.nl e)=toPV (.nl e):=rfl
theorem qj9 {i:Nat}:toEl false (.rf i)=toPV (.rf i):=rfl
theorem qg1 {e:Nat} {es:List PV}:toEl false (.sz e es)=toPV (.sz e es):=rfl
theorem zax:flatZ []=true:=rfl
theorem zfy {v:Value} {zs:List ZC}:flatZ (.v v::zs)=flatZ zs:=rfl
theorem zch {e:Nat} {zs:List ZC}:flatZ (.nl e::zs)=false:=rfl
theorem za6 {z:ZC}:zeroEl 1 [z]=z.pv:=rfl
theorem zdv {z z':ZC} {zs:List ZC} {m:Nat}:zeroEl (m+2) (z::z'::zs)= .st (z.pv::z'.pv::zs.map ZC.pv):=rfl
theorem zmi {v:Value}:(ZC.v v).pv= .a v:=rfl
theorem zkn {e:Nat}:(ZC.nl e).pv= .sl e []:=rfl
attribute [go_sem] zll qz9 qyb zax zfy zch za6 zdv zmi zkn
def apto (n:Option Node) (e id:Nat) (sl:vcv) (nd:vcb) (nx:Nat):Option ((List PV×Bool)×St):=
 match n with
 |some (.sl q _ e' es)=>if e'=e then some ((es,q),⟨sl,(id,none)::nd,nx⟩) else none
 |_=>none
theorem zfq {q:Bool} {ver e id:Nat} {es:List PV}:apto (some (.sl q ver e es)) e id sl nd nx=some ((es,q),⟨sl,(id,none)::nd,nx⟩):=by simp [apto]
theorem zd8 {b e:Nat} {s:St}:(appTo b e (.nl e)).run s=some (([],false),s):=by simp [appTo,M.run]
theorem zcc {b e id:Nat}:(appTo b e (.rf id)).run ⟨sl,nd,nx⟩=apto (vbr nd id) e id sl nd nx:=by
 simp only [appTo,var,apto,vbr];simp only [VM.getN,M.run,St.node];cases (look nd id).getD none with
 |none=>rfl
 |some n=>
  cases n with
  |bx _ _=>rfl
  |sl q ver e' es=>simp only;split<;>rfl
attribute [go_sem] zfq zd8 zcc
def aptI (b e id ver:Nat) (p:List (Nat×Nat×Nat)):Option Node->M (List PV×Bool)
 |some (.sl q ver' e' es)=>if ver'=ver then takeIn b e id q e' (dget es p) (dput es p .un) else .fail
 |_=> .fail
def aptS (n:Option Node) (e id lo k:Nat) (sl:vcv) (nd:vcb) (nx:Nat):Option ((List PV×Bool)×St):=
 match n with
 |some (.sl q _ e' es)=>if e'=e then if lo+k=es.length then some ((es.drop lo,q),⟨sl,(id,none)::nd,nx⟩) else none else none
 |_=>none
theorem zg8 {q:Bool} {ver e id lo k:Nat} {es:List PV} (h:lo+k=es.length):aptS (some (.sl q ver e es)) e id lo k sl nd nx=some ((es.drop lo,q),⟨sl,(id,none)::nd,nx⟩):=by simp [aptS,h]
theorem zc1 {b e id lo k:Nat}:(appTo b e (.sb id lo k)).run ⟨sl,nd,nx⟩=aptS (vbr nd id) e id lo k sl nd nx:=by
 simp only [appTo,var,aptS,vbr];simp only [VM.getN,M.run,St.node];cases (look nd id).getD none with
 |none=>rfl
 |some n=>
  cases n with
  |bx _ _=>rfl
  |sl q ver e' es=>simp only;split<;>(try split)<;>rfl
theorem zdz {b e id ver:Nat} {p:List (Nat×Nat×Nat)} {s:St}:(appTo b e (.ri id ver p)).run s=((getN id).bind (aptI b e id ver p)).run s:=rfl
theorem zgg {b e id ver e':Nat} {q:Bool} {es:List PV} {p:List (Nat×Nat×Nat)} {s:St}:M.run (aptI b e id ver p (some (.sl q ver e' es))) s=M.run (takeIn b e id q e' (dget es p) (dput es p .un)) s:=by simp [aptI]
theorem qvy {b e id e':Nat} {q:Bool} {es es1:List PV} {s:St}:M.run (takeIn b e id q e' (some (e,es)) (some es1)) s=some ((es,q),⟨s.slots,(id,some (.sl q (b+51) e' es1))::s.nodes,s.next⟩):=by
 simp only [takeIn,if_true];rfl
attribute [go_sem] zg8 zc1 zdz zgg qvy
def apof (n:Option Node) (e id:Nat) (sl:vcv) (nd:vcb) (nx:Nat):Option ((List PV×Bool)×St):=
 match n with
 |some (.sl _ _ e' es)=>if e'=e then some ((es.map PV.cpy,false),⟨sl,nd,nx⟩) else none
 |_=>none
theorem zgh {q:Bool} {ver e id:Nat} {es:List PV}:apof (some (.sl q ver e es)) e id sl nd nx=some ((es.map PV.cpy,false),⟨sl,nd,nx⟩):=by simp [apof]
theorem zd9 {e id:Nat}:(appOf e true (.rf id)).run ⟨sl,nd,nx⟩=apto (vbr nd id) e id sl nd nx:=by
 simp only [appOf,var,apto,vbr];simp only [VM.getN,M.run,St.node];cases (look nd id).getD none with
 |none=>rfl
 |some n=>
  cases n with
  |bx _ _=>rfl
  |sl q ver e' es=>simp only [if_true];split<;>rfl
theorem zd7 {e id:Nat}:(appOf e false (.rf id)).run ⟨sl,nd,nx⟩=apof (vbr nd id) e id sl nd nx:=by
 simp only [appOf,var,apof,vbr];simp only [VM.getN,M.run,St.node];cases (look nd id).getD none with
 |none=>rfl
 |some n=>
  cases n with
  |bx _ _=>rfl
  |sl q ver e' es=>simp only [Ac,if_false];split<;>rfl
attribute [go_sem] zgh zd9 zd7
def apel (o:Option (Nat×List PV)) (e:Nat) (s:St):Option ((List PV×Bool)×St):=
 match o with
 |some (e',es)=>if e'=e then some ((es.map PV.cpy,false),s) else none
 |none=>none
theorem qzk {e:Nat} {es:List PV} {s:St}:apel (some (e,es)) e s=some ((es.map PV.cpy,false),s):=by simp [apel]
theorem vsc {e:Nat} {mv:Bool} {y:TV} {s:St} (h:∀id,y≠ .rf id) (hz:mv=false\/∀e es,y≠ .sz e es):(appOf e mv y).run s=apel (vdr s.nodes y) e s:=by
 have:appOf e mv y=(elems y).bind λr=>if r.1=e then .pure (r.2.map PV.cpy,false) else .fail:=by
  have hc:∀es,cpyOf mv y es=(es.map PV.cpy,false):=λes=>by
   unfold cpyOf;split
   ·rcases hz with hz|hz
    ·cases hz
    ·exact absurd rfl (hz _ _)
   ·rfl
  cases y<;>first|exact absurd rfl (h _)|(simp only [appOf,hc])
 rw [this];simp only [var,vnl];cases vdr s.nodes y with
 |none=>rfl
 |some p=>
  obtain ⟨e',es⟩:=p;simp only [Aa,apel];split<;>rfl
theorem zfj {e e':Nat} {mv:Bool} {s:St}:(appOf e mv (.nl e')).run s=apel (some (e',[])) e s:=vsc (by simp) (.inr (by simp))
theorem zcb {e e':Nat} {es:List PV} {s:St}:(appOf e false (.sz e' es)).run s=apel (some (e',es)) e s:=vsc (by simp) (.inl rfl)
theorem zct {e:Nat} {es:List PV} {s:St}:(appOf e true (.sz e es)).run s=some ((es.map PV.fzc,true),s):=by
 simp [appOf,elems,M.bind,M.run,cpyOf]
theorem zen {e i j k:Nat} {mv:Bool} {s:St}:(appOf e mv (.sb i j k)).run s=apel (elemsB (vbr s.nodes i) j k) e s:=vsc (by simp) (.inr (by simp))
theorem zbt {e i j:Nat} {p:List (Nat×Nat×Nat)} {mv:Bool} {s:St}:(appOf e mv (.ri i j p)).run s=apel (elemsI (vbr s.nodes i) j p) e s:=vsc (by simp) (.inr (by simp))
attribute [go_sem] qzk zfj zcb zct zen zbt
def app2 (b e by_:Nat) (xs:List PV×Bool) (o:Option ((List PV×Bool)×St)):Option (TV×St):=
 match o with
 |some (ys,s)=>if capOk (xs.1.length+ys.1.length) by_=true then some (.rf b,⟨s.slots,(b,some (.sl (xs.2||ys.2) 0 e (xs.1++ys.1)))::s.nodes,s.next⟩) else none
 |none=>none
def app1 (b e by_:Nat) (mv:Bool) (y:TV) (o:Option ((List PV×Bool)×St)):Option (TV×St):=
 match o with
 |some (xs,s)=>app2 b e by_ xs ((appOf e mv y).run s)
 |none=>none
theorem zak {b e by_:Nat} {mv:Bool} {y:TV} {xs:List PV×Bool} {s:St}:app1 b e by_ mv y (some (xs,s))=app2 b e by_ xs ((appOf e mv y).run s):=rfl
theorem zf8 {b e by_:Nat} {q q':Bool} {xs ys:List PV} {s:St} (h1:xs.length+ys.length<=9223372036854775807) (h2:(xs.length+ys.length) * by_<=140737488355328):app2 b e by_ (xs,q) (some ((ys,q'),s))=
  some (.rf b,⟨s.slots,(b,some (.sl (q||q') 0 e (xs++ys)))::s.nodes,s.next⟩):=by simp [app2,capOk,h1,h2]
theorem qxy {b e by_:Nat} {mv:Bool} {x y:TV} {s:St}:(appendM b e by_ mv x y).run s=app1 b e by_ mv y ((appTo b e x).run s):=by
 simp only [appendM,var,app1];cases (appTo b e x).run s with
 |none=>rfl
 |some p=>
  obtain ⟨xs,s1⟩:=p;simp only [app2];cases (appOf e mv y).run s1 with
  |none=>rfl
  |some p2=>
   obtain ⟨ys,s2⟩:=p2;simp only;split
   ·simp only [var];rfl
   ·rfl
theorem zmk {v:Value}:(PV.a v).cpy= .a v:=rfl
theorem zev:List.map PV.cpy []= []:=rfl
theorem vtr:maxLen=9223372036854775807:=rfl
theorem za4:depth=40:=rfl
attribute [go_sem] zak zf8 qxy zmk zev za4
attribute [go_sem] vf9
section
variable {z fz q:Bool} {k n b V:Nat}
theorem qxj {v:Value}:vba z (k+1) n (.a v)= .pure (.a v):=rfl
theorem qtx {e:Nat}:vba z (k+1) n (.nl e)= .pure (.sl true e []):=rfl
theorem qux {e:Nat} {es:List PV}:vba z (k+1) n (.sz e es)= .pure (.sl true e es):=rfl
theorem qve {cs:List TV}:vba z (k+1) n (.st cs)=(vbo z k cs).bind λcs'=> .pure (.st cs'):=rfl
theorem qtr {f:Nat} {fs cs:List TV}:vba z (k+1) n (.fn f fs cs)=(vbo z k fs).bind λfs'=>(vbo z k cs).bind λcs'=> .pure (.fn f fs' cs'):=rfl
theorem qtv {t:Nat} {v:TV}:vba z (k+1) n (.ic t v)=(vba z k n v).bind λv'=> .pure (.ic t v'):=rfl
theorem quu:vba z (k+1) n .un= .pure .un:=rfl
theorem qt8 {id:Nat}:vba false (k+1) n (.rf id)=(getN id).bind λm=>match m with
   |some (.sl q _ e es)=> .pure (.sl true e (if q then es.map PV.thaw else es))
   |some (.bx _ cs)=>(vbo false k cs).bind λcs'=> .pure (.bx true cs')
   |none=> .fail:=by
 unfold vba;congr 1
theorem qut {id lo j:Nat}:vba false (k+1) n (.sb id lo j)=(getN id).bind λm=>match m with
   |some (.sl q _ e es)=> .pure (.sl true e (if q then ((es.drop lo).take j).map PV.thaw else (es.drop lo).take j))
   |_=> .fail:=rfl
theorem qus {id ver:Nat} {p:List (Nat×Nat×Nat)}:vba false (k+1) n (.ri id ver p)=(getN id).bind λm=>match m with
   |some (.sl q ver' _ es)=>if ver'=ver then match dget es p with
    |some (e,es')=> .pure (.sl true e (if q then es'.map PV.thaw else es'))
    |none=> .fail else .fail
   |_=> .fail:=rfl
theorem quk {id o:Nat}:vba false (k+1) n (.ad id o)=(getN id).bind λm=>match m with
   |some (.bx _ cs)=>if 0<n/\o+n<=cs.length then (vbo false k ((cs.drop o).take n)).bind λcs'=> .pure (.bx true cs') else .fail
   |_=> .fail:=rfl
theorem qnk:vbo z (k+1) []= .pure []:=rfl
theorem qg9 {x:TV} {xs:List TV}:vbo z (k+1) (x::xs)=(vba z k 0 x).bind λy=>(vbo z k xs).bind λys=> .pure (y::ys):=rfl
theorem zcm {v:Value}:pack fz (k+1) (.a v)= .pure (.a v):=rfl
theorem qye {e:Nat}:pack fz (k+1) (.nl e)= .pure (.sl false e []):=rfl
theorem qwh {e:Nat} {es:List PV}:pack true (k+1) (.sz e es)= .pure (.sl true e es):=rfl
theorem qxh {cs:List TV}:pack fz (k+1) (.st cs)=(vck fz k cs).bind λcs'=> .pure (.st cs'):=rfl
theorem qxa {f:Nat} {fs cs:List TV}:pack fz (k+1) (.fn f fs cs)=(vck fz k fs).bind λfs'=>(vck fz k cs).bind λcs'=> .pure (.fn f fs' cs'):=rfl
theorem qwm {t:Nat} {v:TV}:pack fz (k+1) (.ic t v)=(pack fz k v).bind λv'=> .pure (.ic t v'):=rfl
theorem qxt {id:Nat}:pack fz (k+1) (.rf id)=(getN id).bind λm=>match m with
   |some (.sl q _ e es)=>if badFz q fz es then .fail else (setN id none).bind λ_=> .pure (.sl false e es)
   |some (.bx z cs)=>if z then .fail else (setN id none).bind λ_=>(vck fz k cs).bind λcs'=> .pure (.bx false cs')
   |none=> .pure .un:=rfl
theorem qwi:pack fz (k+1) .un= .pure .un:=rfl
theorem qwz {id lo n:Nat}:pack fz (k+1) (.sb id lo n)=(getN id).bind λm=>match m with
 |some (.sl q _ e es)=>if (q&& !fz)=true\/es.length<lo+n then .fail else (setN id none).bind λ_=> .pure (.sl false e ((es.drop lo).take n))
 |_=> .fail:=rfl
theorem qr6:vck fz (k+1) []= .pure []:=rfl
theorem ql1 {x:TV} {xs:List TV}:vck fz (k+1) (x::xs)=(pack fz k x).bind λy=>(vck fz k xs).bind λys=> .pure (y::ys):=rfl
theorem qx8 {v:Value}:vay q b (.a v)= .pure (.a v,b):=rfl
theorem qx3 {e:Nat} {es:List PV}:vay q b (.sl true e es)= .pure (.sz e es,b):=rfl
theorem qxl {e:Nat} {es:List PV}:vay q b (.sl false e es)=(setN b (some (.sl q 0 e es))).bind λ_=> .pure (.rf b,b+1):=rfl
theorem quq {cs:List CV}:vay q b (.bx z cs)=(vbg q (b+1) cs).bind λr=>(setN b (some (.bx z r.1))).bind λ_=> .pure (.rf b,r.2):=rfl
theorem qst {cs:List CV}:vay q b (.st cs)=(vbg q b cs).bind λr=> .pure (.st r.1,r.2):=rfl
theorem qs9 {cs:List CV}:vay q b (.tp cs)=(vbg q b cs).bind λr=> .pure (.tp r.1,r.2):=rfl
theorem quc {f:Nat} {fs cs:List CV}:vay q b (.fn f fs cs)=(vbg q b fs).bind λp=>(vbg q p.2 cs).bind λr=> .pure (.fn f p.1 r.1,r.2):=rfl
theorem qss {t:Nat} {v:CV}:vay q b (.ic t v)=(vay q b v).bind λr=> .pure (.ic t r.1,r.2):=rfl
theorem qtl:vay q b .un= .pure (.un,b):=rfl
theorem qsx {id e0 e:Nat} {es0 es:List PV}:vaf q V b (.rf id) (.sl false e0 es0) (.sl false e es)=(getN id).bind λm=>if m.isNone/\e0=e then (setN id (some (.sl q V e es))).bind λ_=> .pure b else .fail:=rfl
theorem qvf {id:Nat} {cs0 cs:List CV}:vaf q V b (.rf id) (.bx false cs0) (.bx false cs)=(getN id).bind λm=>if m.isNone then (vbg q b cs).bind λr=>(setN id (some (.bx false r.1))).bind λ_=> .pure r.2 else .fail:=rfl
theorem qt1 {f f0 f1:Nat} {fs cs:List TV} {fs0 cs0 fs1 cs1:List CV}:vaf q V b (.fn f fs cs) (.fn f0 fs0 cs0) (.fn f1 fs1 cs1)=(vbh q V b fs fs0 fs1).bind λb'=>vbh q V b' cs cs0 cs1:=rfl
theorem qud {cs:List TV} {cs0 cs1:List CV}:vaf q V b (.st cs) (.st cs0) (.st cs1)=vbh q V b cs cs0 cs1:=rfl
theorem qu5 {t t0 t1:Nat} {x:TV} {x0 x1:CV}:vaf q V b (.ic t x) (.ic t0 x0) (.ic t1 x1)=vaf q V b x x0 x1:=rfl
theorem qxm {v:Value} {c0 c:CV}:vaf q V b (.a v) c0 c= .pure b:=by simp only [vaf]
theorem qs8 {e:Nat} {c0 c:CV}:vaf q V b (.nl e) c0 c= .pure b:=by simp only [vaf]
theorem qul {e:Nat} {es:List PV} {c0 c:CV}:vaf q V b (.sz e es) c0 c= .pure b:=by simp only [vaf]
theorem quf {c0 c:CV}:vaf q V b .un c0 c= .pure b:=by simp only [vaf]
theorem qw4 {v:Value}:lend0 q (.a v)=pack q depth (.a v):=rfl
theorem qur {e:Nat}:lend0 q (.nl e)=pack q depth (.nl e):=rfl
theorem qtc {id:Nat}:lend0 q (.rf id)=pack q depth (.rf id):=rfl
theorem qtg {id ver:Nat} {p:List (Nat×Nat×Nat)}:lend0 q (.ri id ver p)= .pure .un:=rfl
theorem quh {e:Nat} {es:List PV}:lend0 q (.sz e es)=pack q depth (.sz e es):=rfl
theorem qtf {cs:List TV}:lend0 q (.st cs)=pack q depth (.st cs):=rfl
theorem qtu {f:Nat} {fs cs:List TV}:lend0 q (.fn f fs cs)=pack q depth (.fn f fs cs):=rfl
theorem qtt {t:Nat} {v:TV}:lend0 q (.ic t v)=pack q depth (.ic t v):=rfl
theorem qt4:lend0 q .un=pack q depth .un:=rfl
theorem qyh {v:Value} {y:CV}:lend1 q V (.a v) y= .pure y:=rfl
theorem qsn {e:Nat} {y:CV}:lend1 q V (.nl e) y= .pure y:=rfl
theorem qtn {id:Nat} {y:CV}:lend1 q V (.rf id) y= .pure y:=rfl
theorem qu1 {e:Nat} {es:List PV} {y:CV}:lend1 q V (.sz e es) y= .pure y:=rfl
theorem qvj {cs:List TV} {y:CV}:lend1 q V (.st cs) y= .pure y:=rfl
theorem qvg {f:Nat} {fs cs:List TV} {y:CV}:lend1 q V (.fn f fs cs) y= .pure y:=rfl
theorem qsy {t:Nat} {v:TV} {y:CV}:lend1 q V (.ic t v) y= .pure y:=rfl
theorem qvk {y:CV}:lend1 q V .un y= .pure y:=rfl
def carveK (id V e:Nat) (q:Bool) (r:Option (Nat×List PV)) (es1:Option (List PV)):M CV:=
 match r,es1 with
 |some r,some es1=>(setN id (some (.sl q V e es1))).bind λ_=> .pure (.sl false r.1 r.2)
 |_,_=> .fail
theorem qk7 {id e e':Nat} {es' es1:List PV}:carveK id V e q (some (e',es')) (some es1)=(setN id (some (.sl q V e es1))).bind λ_=> .pure (.sl false e' es'):=rfl
def ld1B (keeps:Bool) (V id ver:Nat) (p:List (Nat×Nat×Nat)):Option Node->M CV
 |some (.sl q ver' e es)=>if (q&& !keeps)=true\/ver'≠ver then .fail else carveK id V e q (dget es p) (dput es p .un)
 |_=> .fail
theorem qtq {keeps:Bool} {id ver e:Nat} {p:List (Nat×Nat×Nat)} {es:List PV}:ld1B keeps V id ver p (some (.sl false ver e es))=carveK id V e false (dget es p) (dput es p .un):=by simp [ld1B]
theorem qsu {id ver e:Nat} {p:List (Nat×Nat×Nat)} {es:List PV}:ld1B true V id ver p (some (.sl q ver e es))=carveK id V e q (dget es p) (dput es p .un):=by simp [ld1B]
theorem qtp {id ver:Nat} {p:List (Nat×Nat×Nat)} {y:CV}:lend1 q V (.ri id ver p) y=(getN id).bind (ld1B q V id ver p):=by
 simp only [lend1];congr 1
theorem za8 {v:Value} {c f:CV}:back1 q V b (.a v) c f=vaf q V b (.a v) c f:=rfl
theorem qxg {e:Nat} {c f:CV}:back1 q V b (.nl e) c f=vaf q V b (.nl e) c f:=rfl
theorem qxi {id:Nat} {c f:CV}:back1 q V b (.rf id) c f=vaf q V b (.rf id) c f:=rfl
theorem qxn {e:Nat} {es:List PV} {c f:CV}:back1 q V b (.sz e es) c f=vaf q V b (.sz e es) c f:=rfl
theorem qw1 {cs:List TV} {c f:CV}:back1 q V b (.st cs) c f=vaf q V b (.st cs) c f:=rfl
theorem qwb {g:Nat} {fs cs:List TV} {c f:CV}:back1 q V b (.fn g fs cs) c f=vaf q V b (.fn g fs cs) c f:=rfl
theorem qwc {t:Nat} {v:TV} {c f:CV}:back1 q V b (.ic t v) c f=vaf q V b (.ic t v) c f:=rfl
theorem qwe {c f:CV}:back1 q V b .un c f=vaf q V b .un c f:=rfl
def fillK (id ver e b:Nat) (q:Bool) (c:Option PV) (es1:Option (List PV)):M Nat:=
 match c,es1 with
 |some .un,some es1=>(setN id (some (.sl q ver e es1))).bind λ_=> .pure b
 |_,_=> .fail
theorem qrr {id ver e:Nat} {es1:List PV}:fillK id ver e b q (some .un) (some es1)=(setN id (some (.sl q ver e es1))).bind λ_=> .pure b:=rfl
def bkB (q:Bool) (b id:Nat) (p:List (Nat×Nat×Nat)) (e':Nat) (es':List PV):Option Node->M Nat
 |some (.sl q0 ver e es)=>fillK id ver e b (q0||q) (dat es p) (dput es p (.sl e' es'))
 |_=> .fail
theorem qt2 {q0:Bool} {id ver e e':Nat} {p:List (Nat×Nat×Nat)} {es es':List PV}:bkB q b id p e' es' (some (.sl q0 ver e es))=fillK id ver e b (q0||q) (dat es p) (dput es p (.sl e' es')):=rfl
theorem qyf {id ver e':Nat} {p:List (Nat×Nat×Nat)} {es':List PV} {c:CV}:back1 q V b (.ri id ver p) c (.sl false e' es')=(getN id).bind (bkB q b id p e' es'):=by
 simp only [back1];congr 1
def dgC:Option PV->Option (Nat×List PV)
 |some (.sl e es)=>some (e,es)
 |_=>none
def dgK (m o:Nat):Option PV->Option (Nat×List PV)
 |some x=>if x.cells.length=m then dgC x.cells[o]? else none
 |none=>none
def dgN (p:List (Nat×Nat×Nat)):Option (Nat×List PV)->Option (Nat×List PV)
 |some (_,es)=>dget es p
 |none=>none
theorem zl2 {e:Nat} {es:List PV}:dgC (some (.sl e es))=some (e,es):=rfl
theorem zd2 {m o:Nat} {x:PV} (h:x.cells.length=m):dgK m o (some x)=dgC x.cells[o]? :=by simp [dgK,h]
theorem zdn {p:List (Nat×Nat×Nat)} {e:Nat} {es:List PV}:dgN p (some (e,es))=dget es p:=rfl
theorem zku {es:List PV} {i m o:Nat}:dget es [(i,m,o)]=dgK m o es[i]? :=by
 simp only [dget];cases es[i]? with
 |none=>rfl
 |some x=>
  simp only [dgK];split
  ·cases x.cells[o]? with
   |none=>rfl
   |some c=>cases c<;>rfl
  ·rfl
theorem zkl {es:List PV} {i m o:Nat} {q:Nat×Nat×Nat} {p:List (Nat×Nat×Nat)}:dget es ((i,m,o)::q::p)=dgN (q::p) (dgK m o es[i]?):=by
 rw [dget];cases es[i]? with
 |none=>rfl
 |some x=>
  simp only [dgK];split
  ·cases x.cells[o]? with
   |none=>rfl
   |some c=>cases c<;>rfl
  ·rfl
attribute [go_sem] zl2 zd2 zdn zku zkl
def dpK (es:List PV) (i m o:Nat) (c:PV):Option PV->Option (List PV)
 |some x=>if x.cells.length=m/\o<m then some (es.set i (vbu x o [c])) else none
 |none=>none
theorem zfg {es:List PV} {i m o:Nat} {c x:PV} (h:x.cells.length=m) (ho:o<m):dpK es i m o c (some x)=some (es.set i (vbu x o [c])):=by simp [dpK,h,ho]
theorem zlo {es:List PV} {i m o:Nat} {c:PV}:dput es [(i,m,o)] c=dpK es i m o c es[i]? :=by
 simp only [dput];cases es[i]? with
 |none=>rfl
 |some x=>
  simp only [dpK];by_cases h:x.cells.length=m
  ·rw [if_pos h];by_cases ho:o<m
   ·rw [Ag (h▸ho),if_pos ⟨h,ho⟩]
   ·rw [List.getElem?_eq_none zo,if_neg (λx=>ho x.2)]
  ·rw [if_neg h,if_neg (λx=>h x.1)]
attribute [go_sem] zfg zlo
def daK (m o:Nat):Option PV->Option PV
 |some x=>if x.cells.length=m then x.cells[o]? else none
 |none=>none
theorem zbv {m o:Nat} {x:PV} (h:x.cells.length=m):daK m o (some x)=x.cells[o]? :=by simp [daK,h]
theorem zm0 {es:List PV} {i m o:Nat}:dat es [(i,m,o)]=daK m o es[i]? :=by
 simp only [dat];cases es[i]? with
 |none=>rfl
 |some x=>
  simp only [daK];split
  ·cases x.cells[o]? <;>rfl
  ·rfl
attribute [go_sem] zbv zm0
end
end
section
variable {Φ:Nat->Option Callee} {N:Nat} {r:List It} {sl:vcv} {nd:vcb} {nx:Nat}
variable {z fz q:Bool} {k n b V:Nat}
theorem ze0 {b d e by_:Nat} {zs:List ZC} {n:Int} (h0:0<=n) (h1:n * by_<=140737488355328) (h2:n<=9223372036854775807) {s:St}:M.run (mksM b d e by_ zs (.a (.int .i64 n))) s=M.run ((setN b (some (.sl false 0 e (Ab n.toNat (zeroEl zs.length zs))))).bind λ_=>setS d (.rf b)) s:=by rw [qu0 h0 h1 h2]<;>rfl
theorem zab {flat q:Bool} {m:Nat} {es:List PV} {s:St}:M.run (bslM flat m [] q es) s=M.run (.pure (es,q)) s:=by rw [qp2]<;>rfl
theorem qxw {flat q:Bool} {m i:Nat} {x:Opd} {ps:List (Nat×Opd)} {es:List PV} {s:St}:M.run (bslM flat m ((i,x)::ps) q es) s=M.run ((opd x).bind λv=>(toEl flat v).bind λy=>bslK flat q m i y ps es) s:=by rw [ql4]<;>rfl
theorem zbc {flat q:Bool} {m i:Nat} {y:PV×Bool} {ps:List (Nat×Opd)} {es:List PV} (h1:y.1.cells.length=m) (h2:i<es.length) {s:St}:M.run (bslK flat q m i y ps es) s=M.run (bslM flat m ps (q||y.2) (es.set i y.1)) s:=by rw [qte h1 h2]<;>rfl
theorem qzq {d:Nat} {v:TV} {z:Bool} {cs:List TV} {s:St}:M.run (nilB d v (some (.bx z cs))) s=M.run (setS d v) s:=by rw [qpk]<;>rfl
theorem qy1 {d:Nat} {v:TV} {q:Bool} {ver e:Nat} {es:List PV} {s:St}:M.run (nilE d v (some (.sl q ver e es))) s=M.run (setS d v) s:=by rw [qpp]<;>rfl
theorem zbk {d id:Nat} {s:St}:M.run (nilM d (.rf id)) s=M.run ((getN id).bind (nilB d (.rf id))) s:=by rw [qtz]<;>rfl
theorem zcg {d id o:Nat} {s:St}:M.run (nilM d (.ad id o)) s=M.run (setS d (.ad id o)) s:=by rw [qvb]<;>rfl
theorem zel {d id i m o:Nat} {s:St}:M.run (nilM d (.ea id i m o)) s=M.run ((getN id).bind (nilE d (.ea id i m o))) s:=by rw [qsp]<;>rfl
theorem zcf {d o:Nat} {cs:List PV} {s:St}:M.run (nilM d (.ez cs o)) s=M.run (setS d (.ez cs o)) s:=by rw [qs5]<;>rfl
theorem zbh {d f:Nat} {fs cs:List TV} {s:St}:M.run (nilM d (.fn f fs cs)) s=M.run (setS d (.fn f fs cs)) s:=by rw [qum]<;>rfl
theorem zdh {d t:Nat} {v:TV} {s:St}:M.run (nilM d (.ic t v)) s=M.run (setS d (.ic t v)) s:=by rw [que]<;>rfl
theorem qyl {top b:Nat} {rs:List CV} (h:b<=top) {s:St}:M.run (resS top b rs) s=M.run ((liftO (plainL rs)).bind λts=>M.pure (oneOf ts)) s:=by rw [qqe h]<;>rfl
theorem qzw {top:Nat} {r:List TV×Nat} (h:r.2<=top) {s:St}:M.run (resT top r) s=M.run (.pure (oneOf r.1)) s:=by rw [qrb h]<;>rfl
theorem qsm {q:Bool} {top b:Nat} {rs:List CV} {s:St}:M.run (vd5 q top b rs) s=M.run ((vbg q b rs).bind (resT top)) s:=by rw [qc4]<;>rfl
theorem qvr {d:Nat} {v:TV} {s:St}:M.run (putO (some d) v) s=M.run (setS d v) s:=by rw [qjf]<;>rfl
theorem qv5 {v:TV} {s:St}:M.run (putO none v) s=M.run (.pure ()) s:=by rw [qg8]<;>rfl
theorem qvv {x:PV} {q:Bool} {ver e:Nat} {es:List PV} {ys:List PV×Bool} {b w id i o:Nat} (h1:ys.1.length=w) (h2:o+w<=x.cells.length) {s:St}:M.run (stoX (some x) q ver e es ys b w id i o) s=M.run (setN id (some (.sl (q||ys.2) (if vet ys.1 x o w then ver else b+1) e (es.set i (vbu x o ys.1))))) s:=by rw [qj2 h1 h2]<;>rfl
theorem zau {q:Bool} {ver e:Nat} {es:List PV} {ys:List PV×Bool} {b w id i o:Nat} {s:St}:M.run (stoE (some (.sl q ver e es)) ys b w id i o) s=M.run (stoX es[i]? q ver e es ys b w id i o) s:=by rw [qqk]<;>rfl
theorem zdl {b w id i m o:Nat} {y:TV} {s:St}:M.run (storeAt b w (.ea id i m o) y) s=M.run ((toPVs y.cells).bind λys=>(getN id).bind λn=>stoE n ys b w id i o) s:=by rw [qtj]<;>rfl
theorem qv8 {s:St}:M.run (toPVs []) s=M.run (.pure ([],false)) s:=by rw [qgw]<;>rfl
theorem qvm {x:TV} {xs:List TV} {s:St}:M.run (toPVs (x::xs)) s=M.run ((toPV x).bind λy=>(toPVs xs).bind λys=> .pure (y.1::ys.1,y.2||ys.2)) s:=by rw [qgg]<;>rfl
theorem zb7 {v:Value} (h:one1 v=true) {s:St}:M.run (toPV (.a v)) s=M.run (.pure (.a v,false)) s:=by rw [qs1 h]<;>rfl
theorem qzy {e:Nat} {s:St}:M.run (toPV (.nl e)) s=M.run (.pure (.sl e [],false)) s:=by rw [qrj]<;>rfl
theorem qzb {e:Nat} {es:List PV} {s:St}:M.run (toPV (.sz e es)) s=M.run (.pure (.fz e es,true)) s:=by rw [qrc]<;>rfl
theorem qwr {v:Value} (h:one1 v=true) {s:St}:M.run (toEl true (.a v)) s=M.run (.pure (.a v,false)) s:=by rw [qop h]<;>rfl
theorem qv0 {cs:List TV} {s:St}:M.run (toEl true (.st cs)) s=M.run ((liftO (vej cs)).bind λys=> .pure (.st ys,false)) s:=by rw [qi1]<;>rfl
theorem qvo {cs:List TV} {s:St}:M.run (toEl false (.st cs)) s=M.run ((toPVs cs).bind λys=> .pure (.st ys.1,ys.2)) s:=by rw [qjw]<;>rfl
theorem qw0 {v:Value} {s:St}:M.run (toEl false (.a v)) s=M.run (toPV (.a v)) s:=by rw [qms]<;>rfl
theorem qvq {e:Nat} {s:St}:M.run (toEl false (.nl e)) s=M.run (toPV (.nl e)) s:=by rw [qib]<;>rfl
theorem qvx {i:Nat} {s:St}:M.run (toEl false (.rf i)) s=M.run (toPV (.rf i)) s:=by rw [qj9]<;>rfl
theorem qvp {e:Nat} {es:List PV} {s:St}:M.run (toEl false (.sz e es)) s=M.run (toPV (.sz e es)) s:=by rw [qg1]<;>rfl
theorem zhk {v:Value} {s:St}:M.run (vba z (k+1) n (.a v)) s=M.run (.pure (.a v)) s:=by rw [qxj]<;>rfl
theorem zc4 {e:Nat} {s:St}:M.run (vba z (k+1) n (.nl e)) s=M.run (.pure (.sl true e [])) s:=by rw [qtx]<;>rfl
theorem zee {e:Nat} {es:List PV} {s:St}:M.run (vba z (k+1) n (.sz e es)) s=M.run (.pure (.sl true e es)) s:=by rw [qux]<;>rfl
theorem zfi {cs:List TV} {s:St}:M.run (vba z (k+1) n (.st cs)) s=M.run ((vbo z k cs).bind λcs'=> .pure (.st cs')) s:=by rw [qve]<;>rfl
theorem zb8 {f:Nat} {fs cs:List TV} {s:St}:M.run (vba z (k+1) n (.fn f fs cs)) s=M.run ((vbo z k fs).bind λfs'=>(vbo z k cs).bind λcs'=> .pure (.fn f fs' cs')) s:=by rw [qtr]<;>rfl
theorem zcz {t:Nat} {v:TV} {s:St}:M.run (vba z (k+1) n (.ic t v)) s=M.run ((vba z k n v).bind λv'=> .pure (.ic t v')) s:=by rw [qtv]<;>rfl
theorem zfk {s:St}:M.run (vba z (k+1) n .un) s=M.run (.pure .un) s:=by rw [quu]<;>rfl
theorem qxb {s:St}:M.run (vbo z (k+1) []) s=M.run (.pure []) s:=by rw [qnk]<;>rfl
theorem qvw {x:TV} {xs:List TV} {s:St}:M.run (vbo z (k+1) (x::xs)) s=M.run ((vba z k 0 x).bind λy=>(vbo z k xs).bind λys=> .pure (y::ys)) s:=by rw [qg9]<;>rfl
theorem zli {v:Value} {s:St}:M.run (pack fz (k+1) (.a v)) s=M.run (.pure (.a v)) s:=by rw [zcm]<;>rfl
theorem zhg {e:Nat} {s:St}:M.run (pack fz (k+1) (.nl e)) s=M.run (.pure (.sl false e [])) s:=by rw [qye]<;>rfl
theorem zi4 {e:Nat} {es:List PV} {s:St}:M.run (pack true (k+1) (.sz e es)) s=M.run (.pure (.sl true e es)) s:=by rw [qwh]<;>rfl
theorem zg2 {cs:List TV} {s:St}:M.run (pack fz (k+1) (.st cs)) s=M.run ((vck fz k cs).bind λcs'=> .pure (.st cs')) s:=by rw [qxh]<;>rfl
theorem zht {f:Nat} {fs cs:List TV} {s:St}:M.run (pack fz (k+1) (.fn f fs cs)) s=M.run ((vck fz k fs).bind λfs'=>(vck fz k cs).bind λcs'=> .pure (.fn f fs' cs')) s:=by rw [qxa]<;>rfl
theorem zhy {t:Nat} {v:TV} {s:St}:M.run (pack fz (k+1) (.ic t v)) s=M.run ((pack fz k v).bind λv'=> .pure (.ic t v')) s:=by rw [qwm]<;>rfl
theorem zg0 {s:St}:M.run (pack fz (k+1) .un) s=M.run (.pure .un) s:=by rw [qwi]<;>rfl
theorem qz3 {s:St}:M.run (vck fz (k+1) []) s=M.run (.pure []) s:=by rw [qr6]<;>rfl
theorem qyi {x:TV} {xs:List TV} {s:St}:M.run (vck fz (k+1) (x::xs)) s=M.run ((pack fz k x).bind λy=>(vck fz k xs).bind λys=> .pure (y::ys)) s:=by rw [ql1]<;>rfl
theorem zi6 {v:Value} {s:St}:M.run (vay q b (.a v)) s=M.run (.pure (.a v,b)) s:=by rw [qx8]<;>rfl
theorem zir {e:Nat} {es:List PV} {s:St}:M.run (vay q b (.sl true e es)) s=M.run (.pure (.sz e es,b)) s:=by rw [qx3]<;>rfl
theorem zhp {e:Nat} {es:List PV} {s:St}:M.run (vay q b (.sl false e es)) s=M.run ((setN b (some (.sl q 0 e es))).bind λ_=> .pure (.rf b,b+1)) s:=by rw [qxl]<;>rfl
theorem zd1 {cs:List CV} {s:St}:M.run (vay q b (.bx z cs)) s=M.run ((vbg q (b+1) cs).bind λr=>(setN b (some (.bx z r.1))).bind λ_=> .pure (.rf b,r.2)) s:=by rw [quq]<;>rfl
theorem zep {cs:List CV} {s:St}:M.run (vay q b (.st cs)) s=M.run ((vbg q b cs).bind λr=> .pure (.st r.1,r.2)) s:=by rw [qst]<;>rfl
theorem za7 {cs:List CV} {s:St}:M.run (vay q b (.tp cs)) s=M.run ((vbg q b cs).bind λr=> .pure (.tp r.1,r.2)) s:=by rw [qs9]<;>rfl
theorem zeo {f:Nat} {fs cs:List CV} {s:St}:M.run (vay q b (.fn f fs cs)) s=M.run ((vbg q b fs).bind λp=>(vbg q p.2 cs).bind λr=> .pure (.fn f p.1 r.1,r.2)) s:=by rw [quc]<;>rfl
theorem zci {t:Nat} {v:CV} {s:St}:M.run (vay q b (.ic t v)) s=M.run ((vay q b v).bind λr=> .pure (.ic t r.1,r.2)) s:=by rw [qss]<;>rfl
theorem zbb {s:St}:M.run (vay q b .un) s=M.run (.pure (.un,b)) s:=by rw [qtl]<;>rfl
theorem zc9 {id e0 e:Nat} {es0 es:List PV} {s:St}:M.run (vaf q V b (.rf id) (.sl false e0 es0) (.sl false e es)) s=M.run ((getN id).bind λm=>if m.isNone/\e0=e then (setN id (some (.sl q V e es))).bind λ_=> .pure b else .fail) s:=by rw [qsx]<;>rfl
theorem zbw {id:Nat} {cs0 cs:List CV} {s:St}:M.run (vaf q V b (.rf id) (.bx false cs0) (.bx false cs)) s=M.run ((getN id).bind λm=>if m.isNone then (vbg q b cs).bind λr=>(setN id (some (.bx false r.1))).bind λ_=> .pure r.2 else .fail) s:=by rw [qvf]<;>rfl
theorem zdf {f f0 f1:Nat} {fs cs:List TV} {fs0 cs0 fs1 cs1:List CV} {s:St}:M.run (vaf q V b (.fn f fs cs) (.fn f0 fs0 cs0) (.fn f1 fs1 cs1)) s=M.run ((vbh q V b fs fs0 fs1).bind λb'=>vbh q V b' cs cs0 cs1) s:=by rw [qt1]<;>rfl
theorem zb3 {cs:List TV} {cs0 cs1:List CV} {s:St}:M.run (vaf q V b (.st cs) (.st cs0) (.st cs1)) s=M.run (vbh q V b cs cs0 cs1) s:=by rw [qud]<;>rfl
theorem zdr {t t0 t1:Nat} {x:TV} {x0 x1:CV} {s:St}:M.run (vaf q V b (.ic t x) (.ic t0 x0) (.ic t1 x1)) s=M.run (vaf q V b x x0 x1) s:=by rw [qu5]<;>rfl
theorem zgf {v:Value} {c0 c:CV} {s:St}:M.run (vaf q V b (.a v) c0 c) s=M.run (.pure b) s:=by rw [qxm]<;>rfl
theorem zca {e:Nat} {c0 c:CV} {s:St}:M.run (vaf q V b (.nl e) c0 c) s=M.run (.pure b) s:=by rw [qs8]<;>rfl
theorem zbq {e:Nat} {es:List PV} {c0 c:CV} {s:St}:M.run (vaf q V b (.sz e es) c0 c) s=M.run (.pure b) s:=by rw [qul]<;>rfl
theorem zdc {c0 c:CV} {s:St}:M.run (vaf q V b .un c0 c) s=M.run (.pure b) s:=by rw [quf]<;>rfl
theorem zgl {v:Value} {s:St}:M.run (lend0 q (.a v)) s=M.run (pack q 40 (.a v)) s:=by rw [qw4]<;>rfl
theorem zbm {e:Nat} {s:St}:M.run (lend0 q (.nl e)) s=M.run (pack q 40 (.nl e)) s:=by rw [qur]<;>rfl
theorem zfb {id:Nat} {s:St}:M.run (lend0 q (.rf id)) s=M.run (pack q 40 (.rf id)) s:=by rw [qtc]<;>rfl
theorem zd6 {id ver:Nat} {p:List (Nat×Nat×Nat)} {s:St}:M.run (lend0 q (.ri id ver p)) s=M.run (.pure .un) s:=by rw [qtg]<;>rfl
theorem zda {e:Nat} {es:List PV} {s:St}:M.run (lend0 q (.sz e es)) s=M.run (pack q 40 (.sz e es)) s:=by rw [quh]<;>rfl
theorem zb5 {cs:List TV} {s:St}:M.run (lend0 q (.st cs)) s=M.run (pack q 40 (.st cs)) s:=by rw [qtf]<;>rfl
theorem zed {f:Nat} {fs cs:List TV} {s:St}:M.run (lend0 q (.fn f fs cs)) s=M.run (pack q 40 (.fn f fs cs)) s:=by rw [qtu]<;>rfl
theorem ze8 {t:Nat} {v:TV} {s:St}:M.run (lend0 q (.ic t v)) s=M.run (pack q 40 (.ic t v)) s:=by rw [qtt]<;>rfl
theorem zcr {s:St}:M.run (lend0 q .un) s=M.run (pack q 40 .un) s:=by rw [qt4]<;>rfl
theorem zfw {v:Value} {y:CV} {s:St}:M.run (lend1 q V (.a v) y) s=M.run (.pure y) s:=by rw [qyh]<;>rfl
theorem zbf {e:Nat} {y:CV} {s:St}:M.run (lend1 q V (.nl e) y) s=M.run (.pure y) s:=by rw [qsn]<;>rfl
theorem zef {id:Nat} {y:CV} {s:St}:M.run (lend1 q V (.rf id) y) s=M.run (.pure y) s:=by rw [qtn]<;>rfl
theorem zcd {e:Nat} {es:List PV} {y:CV} {s:St}:M.run (lend1 q V (.sz e es) y) s=M.run (.pure y) s:=by rw [qu1]<;>rfl
theorem zb2 {cs:List TV} {y:CV} {s:St}:M.run (lend1 q V (.st cs) y) s=M.run (.pure y) s:=by rw [qvj]<;>rfl
theorem zc8 {f:Nat} {fs cs:List TV} {y:CV} {s:St}:M.run (lend1 q V (.fn f fs cs) y) s=M.run (.pure y) s:=by rw [qvg]<;>rfl
theorem zdd {t:Nat} {v:TV} {y:CV} {s:St}:M.run (lend1 q V (.ic t v) y) s=M.run (.pure y) s:=by rw [qsy]<;>rfl
theorem zej {y:CV} {s:St}:M.run (lend1 q V .un y) s=M.run (.pure y) s:=by rw [qvk]<;>rfl
theorem qwt {id e e':Nat} {es' es1:List PV} {s:St}:M.run (carveK id V e q (some (e',es')) (some es1)) s=M.run ((setN id (some (.sl q V e es1))).bind λ_=> .pure (.sl false e' es')) s:=by rw [qk7]<;>rfl
theorem zba {keeps:Bool} {id ver e:Nat} {p:List (Nat×Nat×Nat)} {es:List PV} {s:St}:M.run (ld1B keeps V id ver p (some (.sl false ver e es))) s=M.run (carveK id V e false (dget es p) (dput es p .un)) s:=by rw [qtq]<;>rfl
theorem zfh {id ver e:Nat} {p:List (Nat×Nat×Nat)} {es:List PV} {s:St}:M.run (ld1B true V id ver p (some (.sl q ver e es))) s=M.run (carveK id V e q (dget es p) (dput es p .un)) s:=by rw [qsu]<;>rfl
theorem zds {id ver:Nat} {p:List (Nat×Nat×Nat)} {y:CV} {s:St}:M.run (lend1 q V (.ri id ver p) y) s=M.run ((getN id).bind (ld1B q V id ver p)) s:=by rw [qtp]<;>rfl
theorem zlg {v:Value} {c f:CV} {s:St}:M.run (back1 q V b (.a v) c f) s=M.run (vaf q V b (.a v) c f) s:=by rw [za8]<;>rfl
theorem zf4 {e:Nat} {c f:CV} {s:St}:M.run (back1 q V b (.nl e) c f) s=M.run (vaf q V b (.nl e) c f) s:=by rw [qxg]<;>rfl
theorem zh4 {id:Nat} {c f:CV} {s:St}:M.run (back1 q V b (.rf id) c f) s=M.run (vaf q V b (.rf id) c f) s:=by rw [qxi]<;>rfl
theorem ziv {e:Nat} {es:List PV} {c f:CV} {s:St}:M.run (back1 q V b (.sz e es) c f) s=M.run (vaf q V b (.sz e es) c f) s:=by rw [qxn]<;>rfl
theorem zih {cs:List TV} {c f:CV} {s:St}:M.run (back1 q V b (.st cs) c f) s=M.run (vaf q V b (.st cs) c f) s:=by rw [qw1]<;>rfl
theorem zhs {g:Nat} {fs cs:List TV} {c f:CV} {s:St}:M.run (back1 q V b (.fn g fs cs) c f) s=M.run (vaf q V b (.fn g fs cs) c f) s:=by rw [qwb]<;>rfl
theorem zg9 {t:Nat} {v:TV} {c f:CV} {s:St}:M.run (back1 q V b (.ic t v) c f) s=M.run (vaf q V b (.ic t v) c f) s:=by rw [qwc]<;>rfl
theorem zgb {c f:CV} {s:St}:M.run (back1 q V b .un c f) s=M.run (vaf q V b .un c f) s:=by rw [qwe]<;>rfl
theorem za0 {id ver e:Nat} {es1:List PV} {s:St}:M.run (fillK id ver e b q (some .un) (some es1)) s=M.run ((setN id (some (.sl q ver e es1))).bind λ_=> .pure b) s:=by rw [qrr]<;>rfl
theorem zdk {q0:Bool} {id ver e e':Nat} {p:List (Nat×Nat×Nat)} {es es':List PV} {s:St}:M.run (bkB q b id p e' es' (some (.sl q0 ver e es))) s=M.run (fillK id ver e b (q0||q) (dat es p) (dput es p (.sl e' es'))) s:=by rw [qt2]<;>rfl
theorem zhj {id ver e':Nat} {p:List (Nat×Nat×Nat)} {es':List PV} {c:CV} {s:St}:M.run (back1 q V b (.ri id ver p) c (.sl false e' es')) s=M.run ((getN id).bind (bkB q b id p e' es')) s:=by rw [qyf]<;>rfl
attribute [go_sem ↓] ze0 zab qxw zbc qzq qy1 zbk zcg zel zcf zbh zdh qyl qzw qsm qvr qv5 qvv zau zdl qv8 qvm zb7 qzy qzb qwr qv0 qvo qw0 qvq qvx qvp zhk zc4 zee zfi zb8 zcz zfk qxb qvw zli zhg zi4 zg2 zht zhy zg0 qz3 qyi zi6 zir zhp zd1 zep za7 zeo zci zbb zc9 zbw zdf zb3 zdr zgf zca zbq zdc zgl zbm zfb zd6 zda zb5 zed ze8 zcr zfw zbf zef zcd zb2 zc8 zdd zej qwt zba zfh zds zlg zf4 zh4 ziv zih zhs zg9 zgb za0 zdk zhj
end
section
variable {keeps z fz q:Bool} {k n b V j:Nat} {s:St} {ms:List Md} {xs:List TV} {x:TV} {cs fs:List CV} {c f:CV} {y:CV} {ys:List CV}
theorem zae:M.run (vbg q b []) s=M.run (.pure ([],b)) s:=rfl
theorem qwp {xs:List CV} {x:CV}:M.run (vbg q b (x::xs)) s=M.run ((vay q b x).bind λr=>(vbg q r.2 xs).bind λp=> .pure (r.1::p.1,p.2)) s:=rfl
theorem qy9:M.run (lend keeps [] []) s=M.run (.pure []) s:=rfl
theorem zb1:M.run (lend keeps (.ro n::ms) (x::xs)) s=M.run ((lend keeps ms xs).bind λys=> .pure (.un::ys)) s:=rfl
theorem qy0:M.run (lend keeps (.mut n::ms) (x::xs)) s=M.run ((lend0 keeps x).bind λy=>(lend keeps ms xs).bind λys=> .pure (y::ys)) s:=rfl
theorem zl3:M.run (lendA keeps V ms xs) s=M.run ((lend keeps ms xs).bind λps=>vbs keeps V ms xs ps) s:=rfl
theorem qw6:M.run (vbs keeps V [] [] []) s=M.run (.pure []) s:=rfl
theorem qzt:M.run (vbs keeps V (.ro n::ms) (x::xs) (y::ys)) s=M.run ((vbs keeps V ms xs ys).bind λys=> .pure (y::ys)) s:=rfl
theorem qya:M.run (vbs keeps V (.mut n::ms) (x::xs) (y::ys)) s=M.run ((lend1 keeps V x y).bind λy=>(vbs keeps V ms xs ys).bind λys=> .pure (y::ys)) s:=rfl
theorem qzz:M.run (show_ keeps [] [] []) s=M.run (.pure []) s:=rfl
theorem qyz:M.run (show_ keeps (.ro 0::ms) (x::xs) (y::ys)) s=M.run ((vba keeps 40 0 x).bind λy=>(show_ keeps ms xs ys).bind λys=> .pure (y::ys)) s:=rfl
theorem zaw:M.run (show_ keeps (.ro 8::ms) (x::xs) (y::ys)) s=M.run ((vba keeps 40 8 x).bind λy=>(show_ keeps ms xs ys).bind λys=> .pure (y::ys)) s:=rfl
theorem qz6:M.run (show_ keeps (.ro 9::ms) (x::xs) (y::ys)) s=M.run ((vba keeps 40 9 x).bind λy=>(show_ keeps ms xs ys).bind λys=> .pure (y::ys)) s:=rfl
theorem zao:M.run (show_ keeps (.mut n::ms) (x::xs) (y::ys)) s=M.run ((show_ keeps ms xs ys).bind λys=> .pure (y::ys)) s:=rfl
theorem qzj:M.run (van q V b [] [] [] []) s=M.run (.pure b) s:=rfl
theorem zb9:M.run (van q V b (.ro n::ms) (x::xs) (c::cs) fs) s=M.run (van q V b ms xs cs fs) s:=rfl
theorem za2:M.run (van q V b (.mut n::ms) (x::xs) (c::cs) (f::fs)) s=M.run ((back1 q V b x c f).bind λb'=>van q V b' ms xs cs fs) s:=rfl
theorem qyn:M.run (resTVs []) s=M.run (.pure []) s:=rfl
theorem zhv {rs:List RV}:M.run (resTVs (.t n::rs)) s=M.run ((getS n).bind λv=>(resTVs rs).bind λvs=> .pure (v::vs)) s:=rfl
theorem zf2 {rs:List RV} {w:Option Nat}:M.run (resTVs (.cell n w::rs)) s=M.run ((getS n).bind λu=>(loadAt w u).bind λv=>(resTVs rs).bind λvs=> .pure (v::vs)) s:=rfl
theorem qzx:M.run (packAll fz []) s=M.run (.pure []) s:=rfl
theorem qx6:M.run (packAll fz (x::xs)) s=M.run ((pack fz 40 x).bind λy=>(packAll fz xs).bind λys=> .pure (y::ys)) s:=rfl
theorem qz0:M.run (lent j []) s=M.run (.pure []) s:=rfl
theorem zdy:M.run (lent j (.ro n::ms)) s=M.run (lent (j+1) ms) s:=rfl
theorem qz5:M.run (lent j (.mut n::ms)) s=M.run ((getS (10000+j)).bind λv=>(lent (j+1) ms).bind λvs=> .pure (v::vs)) s:=rfl
theorem qwg {ys0:List CV} {y0:CV}:M.run (vbh q V b (x::xs) (y0::ys0) (y::ys)) s=M.run ((vaf q V b x y0 y).bind λb'=>vbh q V b' xs ys0 ys) s:=rfl
theorem qz8 {ys0:List CV}:M.run (vbh q V b [] ys0 ys) s=M.run (.pure b) s:=by cases ys0<;>cases ys<;>rfl
theorem zmx {f:Fn}:M.run (takeOut f) s=M.run ((resTVs f.results).bind λts=>(alsOut (isAls f.modes) ts).bind λ_=>(packAll f.keeps ts).bind λrs=>(lent 0 f.modes).bind λus=>(packAll f.keeps us).bind λfs=>ckO (onlyOf f.modes) f.modes rs fs) s:=rfl
theorem zme {rs:List CV}:M.run (ckO none ms rs fs) s=M.run (.pure (rs,fs)) s:=rfl
attribute [go_sem ↓] zae qwp qy9 zb1 qy0 zl3 qw6 qzt qya qzz qyz zaw qz6 zao qzj zb9 za2 qyn zhv zf2 qzx qx6 qz0 zdy qz5 qwg qz8 zmx zme
theorem zhf:onlyOf []=none:=rfl
theorem zhu:onlyOf (.mut n::ms)=onlyOf ms:=rfl
theorem zg3:onlyOf (.ro 0::ms)=onlyOf ms:=rfl
theorem zhl:onlyOf (.ro 8::ms)=onlyOf ms:=rfl
theorem zhr:onlyOf (.ro 9::ms)=onlyOf ms:=rfl
theorem zje:isAls (.ro n::ms)=false:=rfl
theorem zha:isAls []=false:=rfl
theorem zlx:isAls (.mut 0::ms)=false:=rfl
theorem zk8:isAls (.mut 1::ms)=false:=rfl
theorem zjp:isAls (.mut 2::ms)=false:=rfl
theorem zlq:isAls (.mut 3::ms)=false:=rfl
theorem zls:isAls (.mut 4::ms)=false:=rfl
theorem zkj:isAls (.mut 5::ms)=false:=rfl
theorem zjd:isAls (.mut 6::ms)=false:=rfl
theorem zl1:isAls (.mut 7::ms)=false:=rfl
theorem zk0:isAls (.mut 8::ms)=false:=rfl
theorem zjb:isAls (.mut 9::ms)=false:=rfl
theorem zf0:isAls (.mut 10::ms)=false:=rfl
theorem zho:isAls (.mut 11::ms)=false:=rfl
theorem zgm:isAls (.mut 12::ms)=false:=rfl
theorem zb6:isAls (.mut 100::ms)=true:=rfl
attribute [go_sem] zhf zhu zg3 zhl zhr zje zha zlx zk8 zjp zlq zls zkj zjd zl1 zk0 zjb zf0 zho zgm zb6
theorem zgc {ts:List TV}:M.run (alsOut false ts) s=M.run (.pure ()) s:=rfl
attribute [go_sem ↓] zgc
def aloA (id k:Nat) (cs:List TV):TV->M Unit
 | .rf j=>if j=k then setN id (some (.bx false (.un::cs))) else .fail
 |_=> .fail
theorem zkq {id k:Nat} {cs:List TV}:M.run (aloA id k cs (.rf k)) s=M.run (setN id (some (.bx false (.un::cs)))) s:=by simp [aloA]
attribute [go_sem ↓] zkq
def aloB (id:Nat):Option Node->M Unit
 |some (.bx false (.rf k::cs))=>(getS 10000).bind (aloA id k cs)
 |_=> .fail
theorem zk2 {id k:Nat} {cs:List TV}:M.run (aloB id (some (.bx false (.rf k::cs)))) s=M.run ((getS 10000).bind (aloA id k cs)) s:=rfl
theorem zg4 {id:Nat}:M.run (alsOut true [.rf id]) s=M.run ((getN id).bind (aloB id)) s:=by
 unfold alsOut;rw [if_pos rfl];congr 2
attribute [go_sem ↓] zk2 zg4
def aliB (k id:Nat):Option Node->M Unit
 |some (.bx false (.un::cs))=>setN id (some (.bx false (.rf k::cs)))
 |_=> .fail
theorem zlh {id k:Nat} {cs:List TV}:M.run (aliB k id (some (.bx false (.un::cs)))) s=M.run (setN id (some (.bx false (.rf k::cs)))) s:=rfl
theorem zm6 {id k:Nat} {ms:List Md} {kp sc:Bool} {go:List CV->Option (List CV×List CV)} {xs:List TV}:M.run (alsIn (some ⟨.mut 100::ms,kp,sc,go⟩) (.rf k::xs) (.rf id)) s=M.run ((getN id).bind (aliB k id)) s:=by
 unfold alsIn;dsimp only;rw [if_pos (show isAls (.mut 100::ms)=true from rfl)];congr 2
theorem zka {ms:List Md} {kp:Bool} {go:List CV->Option (List CV×List CV)} {b:Nat} {d:Option Nat} {xs:List TV}:M.run (calaM ⟨ms,kp,false,go⟩ b d xs) s=M.run ((lendA kp (b+100) ms xs).bind λps=>(show_ kp ms xs ps).bind λcs=>goM (go cs) λrs fs=>(van kp (b+100) b ms xs cs fs).bind λb'=>(vd5 kp (b+99) b' rs).bind λtv=>(alsIn2 (some ⟨ms,kp,false,go⟩) xs tv).bind λ_=>putO d tv) s:=rfl
theorem zk9 {tv:TV} {ms:List Md} {kp sc:Bool} {go:List CV->Option (List CV×List CV)} {xs:List TV}:M.run (alsIn2 (some ⟨.mut 100::ms,kp,sc,go⟩) xs tv) s=M.run (alsIn (some ⟨.mut 100::ms,kp,sc,go⟩) xs tv) s:=by
 unfold alsIn2;rw [if_pos (show alsC (some ⟨.mut 100::ms,kp,sc,go⟩)=true from rfl)]
theorem zkg {n:Nat} {tv:TV} {ms:List Md} {kp sc:Bool} {go:List CV->Option (List CV×List CV)} {xs:List TV}:M.run (alsIn2 (some ⟨.ro n::ms,kp,sc,go⟩) xs tv) s=M.run (.pure ()) s:=rfl
attribute [go_sem ↓] zlh zm6 zka zk9 zkg
def frzB (k:Nat):Option Node->M CV
 |some (.sl q _ e es)=> .pure (.sl true e (if q then es.map PV.thaw else es))
 |some (.bx _ cs)=>(vbo false k cs).bind λcs'=> .pure (.bx true cs')
 |none=> .fail
theorem qqp {id:Nat}:vba false (k+1) n (.rf id)=(getN id).bind (frzB k):=by
 rw [qt8];congr 1
theorem zes {id:Nat}:M.run (vba false (k+1) n (.rf id)) s=M.run ((getN id).bind (frzB k)) s:=by rw [qqp]
theorem zal {ver e:Nat} {es:List PV}:M.run (frzB k (some (.sl q ver e es))) s=M.run (.pure (.sl true e (if q then es.map PV.thaw else es))) s:=rfl
theorem qzo {cs:List TV}:M.run (frzB k (some (.bx z cs))) s=M.run ((vbo false k cs).bind λcs'=> .pure (.bx true cs')) s:=rfl
attribute [go_sem ↓] zes zal qzo
def frzBt (k:Nat):Option Node->M CV
 |some (.bx true cs)=>(vbo true k cs).bind λcs'=> .pure (.bx true cs')
 |some (.sl _ _ e [])=> .pure (.sl true e [])
 |_=> .fail
theorem qqr {id:Nat}:vba true (k+1) n (.rf id)=(getN id).bind (frzBt k):=by
 unfold vba;show (getN id).bind _=_;congr 1;funext m;cases m with
 |none=>rfl
 |some m=>cases m with
  |bx z cs=>cases z<;>rfl
  |sl q v e es=>cases es<;>cases q<;>rfl
theorem qvt {ver e:Nat}:M.run (frzBt k (some (.sl q ver e []))) s=M.run (.pure (.sl true e [])) s:=rfl
theorem qyy {id:Nat}:M.run (vba true (k+1) n (.rf id)) s=M.run ((getN id).bind (frzBt k)) s:=by rw [qqr]
theorem qww {cs:List TV}:M.run (frzBt k (some (.bx true cs))) s=M.run ((vbo true k cs).bind λcs'=> .pure (.bx true cs')) s:=rfl
attribute [go_sem ↓] qvt qyy qww
def frzS (lo j:Nat):Option Node->M CV
 |some (.sl q _ e es)=> .pure (.sl true e (if q then ((es.drop lo).take j).map PV.thaw else (es.drop lo).take j))
 |_=> .fail
theorem ze2 {id lo:Nat}:M.run (vba false (k+1) n (.sb id lo j)) s=M.run ((getN id).bind (frzS lo j)) s:=by
 rw [qut];congr 1
theorem za1 {lo ver e:Nat} {es:List PV}:M.run (frzS lo j (some (.sl q ver e es))) s=M.run (.pure (.sl true e (if q then ((es.drop lo).take j).map PV.thaw else (es.drop lo).take j))) s:=rfl
attribute [go_sem ↓] ze2 za1
def frzD (q:Bool):Option (Nat×List PV)->M CV
 |some (e,es)=> .pure (.sl true e (if q then es.map PV.thaw else es))
 |none=> .fail
def frzI (ver:Nat) (p:List (Nat×Nat×Nat)):Option Node->M CV
 |some (.sl q ver' _ es)=>if ver'=ver then frzD q (dget es p) else .fail
 |_=> .fail
theorem zeh {id ver:Nat} {p:List (Nat×Nat×Nat)}:M.run (vba false (k+1) n (.ri id ver p)) s=M.run ((getN id).bind (frzI ver p)) s:=by
 rw [qus];congr 1
theorem qy7 {ver ver' e:Nat} {es:List PV} {p:List (Nat×Nat×Nat)}:M.run (frzI ver p (some (.sl q ver' e es))) s=M.run (if ver'=ver then frzD q (dget es p) else .fail) s:=rfl
attribute [go_sem ↓] zeh qy7
theorem qvs {e:Nat} {es:List PV}:M.run (frzD q (some (e,es))) s=M.run (.pure (.sl true e (if q then es.map PV.thaw else es))) s:=rfl
attribute [go_sem] qvs
def frzA (k n o:Nat):Option Node->M CV
 |some (.bx _ cs)=>if 0<n/\o+n<=cs.length then (vbo false k ((cs.drop o).take n)).bind λcs'=> .pure (.bx true cs') else .fail
 |_=> .fail
theorem zd0 {id o:Nat}:M.run (vba false (k+1) n (.ad id o)) s=M.run ((getN id).bind (frzA k n o)) s:=by
 rw [quk];congr 1
theorem zas {o:Nat} {cs:List TV}:M.run (frzA k n o (some (.bx z cs))) s=M.run (if 0<n/\o+n<=cs.length then (vbo false k ((cs.drop o).take n)).bind λcs'=> .pure (.bx true cs') else .fail) s:=rfl
attribute [go_sem ↓] zd0 zas
def pkC (fz:Bool) (id lo n:Nat):Option Node->M CV
 |some (.sl q _ e es)=>if (q&& !fz)=true\/es.length<lo+n then .fail else (setN id none).bind λ_=> .pure (.sl false e ((es.drop lo).take n))
 |_=> .fail
theorem zik {id lo n:Nat}:M.run (pack fz (k+1) (.sb id lo n)) s=M.run ((getN id).bind (pkC fz id lo n)) s:=by
 rw [qwz];congr 1
theorem zhe {id lo n ver e:Nat} {es:List PV} (h:lo+n<=es.length):M.run (pkC true id lo n (some (.sl q ver e es))) s=M.run ((setN id none).bind λ_=> .pure (.sl false e ((es.drop lo).take n))) s:=by
 unfold pkC;dsimp only;rw [if_neg (by simp;omega)]
theorem zf7 {id lo n ver e:Nat} {es:List PV} (h:lo+n<=es.length):M.run (pkC fz id lo n (some (.sl false ver e es))) s=M.run ((setN id none).bind λ_=> .pure (.sl false e ((es.drop lo).take n))) s:=by
 unfold pkC;dsimp only;rw [if_neg (by simp;omega)]
theorem za9 {id lo n:Nat}:M.run (lend0 q (.sb id lo n)) s=M.run (pack q 40 (.sb id lo n)) s:=rfl
attribute [go_sem ↓] zik zhe zf7 za9
def pkB (fz:Bool) (k id:Nat):Option Node->M CV
 |some (.sl q _ e es)=>if badFz q fz es then .fail else (setN id none).bind λ_=> .pure (.sl false e es)
 |some (.bx z cs)=>if z then .fail else (setN id none).bind λ_=>(vck fz k cs).bind λcs'=> .pure (.bx false cs')
 |none=> .pure .un
theorem zf3 {id:Nat}:M.run (pack fz (k+1) (.rf id)) s=M.run ((getN id).bind (pkB fz k id)) s:=by
 rw [qxt];congr 1
theorem zgp {id ver e:Nat} {es:List PV}:M.run (pkB true k id (some (.sl q ver e es))) s=M.run ((setN id none).bind λ_=> .pure (.sl false e es)) s:=by
 cases q<;>rfl
theorem zh3 {id ver e:Nat} {es:List PV}:M.run (pkB fz k id (some (.sl false ver e es))) s=M.run ((setN id none).bind λ_=> .pure (.sl false e es)) s:=rfl
attribute [go_sem ↓] zf3 zgp zh3
def pkF (id e:Nat) (es:List PV) (b:Bool):M CV:=if b=true then (setN id none).bind λ_=> .pure (.sl false e es) else .fail
theorem zf6 {id ver e:Nat} {es:List PV}:M.run (pkB false k id (some (.sl true ver e es))) s=M.run (pkF id e es (nfzL es)) s:=by
 show M.run (if badFz true false es then M.fail else (setN id none).bind λ_=>M.pure (CV.sl false e es)) s=_;unfold badFz pkF;cases nfzL es<;>rfl
attribute [go_sem ↓] zf6
theorem zml {id e:Nat} {es:List PV}:pkF id e es true=(setN id none).bind λ_=> .pure (.sl false e es):=rfl
attribute [go_sem] zml
theorem zbl {id:Nat} {cs:List TV}:M.run (pkB fz k id (some (.bx z cs))) s=M.run (if z then .fail else (setN id none).bind λ_=>(vck fz k cs).bind λcs'=> .pure (.bx false cs')) s:=rfl
theorem qwv {id:Nat}:M.run (pkB fz k id none) s=M.run (.pure .un) s:=rfl
attribute [go_sem ↓] zbl qwv
def topvB (id:Nat):Option Node->M (PV×Bool)
 |some (.sl q _ e es)=>(setN id none).bind λ_=> .pure (.sl e es,q)
 |_=> .fail
theorem qzu {id:Nat}:M.run (toPV (.rf id)) s=M.run ((getN id).bind (topvB id)) s:=by
 rw [qqi];congr 1
theorem qx4 {id ver e:Nat} {es:List PV}:M.run (topvB id (some (.sl q ver e es))) s=M.run ((setN id none).bind λ_=> .pure (.sl e es,q)) s:=rfl
attribute [go_sem ↓] qzu qx4
end
end Go.Proofs.YtpgkmggaifgjkaaGreatDoor.VM.Sy
namespace Go.Proofs.YtpgkmggaifgjkaaGreatDoor.VM
open Go
def vad:Nat:=2^62
theorem vbc {n:Nat} (h:n<4611686018427387904):n<vad:=h
def calF (Φ:Nat->Option Callee) (N:Nat) (v:Fn):Callee:={modes:=v.modes,keeps:=v.keeps,scalar:=v.scalar,go:=vag Φ N v}
def tower (tab:List (Nat×Fn)) (ext:Nat->Option Callee) (N:Nat):Nat->Nat->Option Callee
 |0,_=>none
 |d+1,f=>match ext f with
  |some c=>some c
  |none=>match look tab f with
   |some v=>some (calF (tower tab ext N d) N v)
   |none=>none
theorem qh7 {tab:List (Nat×Fn)} {ext:Nat->Option Callee} {N d f:Nat} {v:Fn} (h:ext f=none) (ht:look tab f=some v):tower tab ext N (d+1) f=some (calF (tower tab ext N d) N v):=by
 simp only [tower,h,ht]
theorem vts {tab:List (Nat×Fn)} {ext:Nat->Option Callee} {N d f:Nat} {c:Callee} (h:ext f=some c):tower tab ext N (d+1) f=some c:=by
 simp only [tower,h]
theorem ofR {p:Prop} (h:p):p:=h
theorem ofB {m n:Nat} (h:Nat.ble m n=true):m<=n:=Nat.le_of_ble_eq_true h
theorem zd {p:Prop} (h:p:=by first|assumption|(refine ofR ?_;show norm _ _=_;kernel_rfl)|(refine ofR ?_;show okD _ _ _ _=true;kernel_rfl)|exact ofR (by with_unfolding_all rfl)|exact ofB (by with_unfolding_all rfl)|omega|(simp only [go_sem,vtr];omega)):p:=h
namespace Sy
def after (live:List Nat):Option (Out×St)->Option (Out×St)
 |some (.nrm,s)=>some (.nrm,norm live s)
 |r=>r
theorem zac {live:List Nat} {s:St}:after live (some (.nrm,s))=some (.nrm,norm live s):=rfl
theorem zav {live:List Nat} {s:St} {id:Nat}:after live (some (.ext id,s))=some (.ext id,s):=rfl
theorem zaj {live:List Nat} {s:St}:after live (some (.ret,s))=some (.ret,s):=rfl
attribute [go_sem] zac zav zaj
def round (Φ:Nat->Option Callee) (N:Nat) (live:List Nat) (b:VC) (s:St):Option (Out×St):=after live (goN Φ N [.c b] s.slots s.nodes s.next)
section
variable {Φ:Nat->Option Callee} {N:Nat} {live:List Nat} {b:VC} {r:List It}
theorem vyu (s:St):round Φ N live b s=after live (run Φ N b s):=rfl
theorem vsv {live:List Nat} {x:Option (Out×St)} {o:Out} {s:St} (h:after live x=some (o,s)) (ho:o≠ .nrm):x=some (o,s):=by
 cases x with
 |none=>cases h
 |some p=>
  obtain ⟨o',s'⟩:=p;cases o'<;>simp only [after,Ad,Ae] at h
  ·exact absurd h.1.symm ho
  ·obtain ⟨rfl,rfl⟩:=h;rfl
  ·obtain ⟨rfl,rfl⟩:=h;rfl
theorem qns (S:Nat->St) (R:Nat->Out×St) {m:Nat} (hN:m<N) (hr:∀i,i<=m->(R i).1≠ .nrm)
  (step:∀i,i<=m->(i<m/\round Φ N live b (S i)=some (.nrm,S (i+1))/\R i=R (i+1))\/round Φ N live b (S i)=some (R i)):
  goP Φ N live b r (S 0)=goL Φ N r (some (R 0)):=by
 have key:∀(k i n:Nat),i+k=m->k<n->vgf (run Φ N b) live n (S i)=some (R i):=by
  intro k;induction k with
  |zero=>
   intro i n hi hn;obtain ⟨n,rfl⟩:∃n',n=n'+1:=⟨n-1,zo⟩
   rcases step i zo with ⟨h1,_⟩|h
   ·omega
   ·have:=vsv (x:=run Φ N b (S i)) (live:=live) (o:=(R i).1) (s:=(R i).2) h (hr i zo);simp only [vgf,this];have hne:=hr i zo;generalize hR:R i=p at hne⊢;obtain ⟨o,s⟩:=p;cases o<;>first|rfl|exact absurd rfl hne
  |succ k ih=>
   intro i n hi hn;obtain ⟨n,rfl⟩:∃n',n=n'+1:=⟨n-1,zo⟩
   rcases step i zo with ⟨h1,h2,h3⟩|h
   ·rw [vyu] at h2;simp only [vgf];cases hx:run Φ N b (S i) with
    |none=>rw [hx] at h2;cases h2
    |some p=>
     obtain ⟨o,s⟩:=p;rw [hx] at h2;cases o with
     |nrm=>
      simp only [after,Ad,Ae,true_and] at h2;simp only [h2,h3];exact ih (i+1) n zo zo
     |ext id=>simp [after] at h2
     |ret=>simp [after] at h2
   ·have:=vsv (x:=run Φ N b (S i)) (live:=live) (o:=(R i).1) (s:=(R i).2) h (hr i zo);simp only [vgf,this];have hne:=hr i zo;generalize hR:R i=p at hne⊢;obtain ⟨o,s⟩:=p;cases o<;>first|rfl|exact absurd rfl hne
 unfold goP;rw [key m 0 N zo hN]
theorem vsk (I:Nat->St->Prop) (E:Out->St->Prop) {m:Nat} (hN:m<N) {s:St} (h0:I m s)
  (step:∀k s,k<=m->I k s->(∃k' s',k=k'+1/\round Φ N live b s=some (.nrm,s')/\I k' s')\/∃o s',o≠ .nrm/\round Φ N live b s=some (o,s')/\E o s'):
  ∃o e,E o e/\o≠ .nrm/\goP Φ N live b r s=goL Φ N r (some (o,e)):=by
 have key:∀(k n:Nat) (s:St),k<=m->k<n->I k s->∃o e,E o e/\o≠ .nrm/\vgf (run Φ N b) live n s=some (o,e):=by
  intro k;induction k with
  |zero=>
   intro n s hk hn hs;obtain ⟨n,rfl⟩:∃n',n=n'+1:=⟨n-1,zo⟩
   rcases step 0 s hk hs with ⟨k',_,h,_⟩|⟨o,s',ho,h,he⟩
   ·omega
   ·have:=vsv (x:=run Φ N b s) (live:=live) h ho;refine ⟨o,s',he,ho,?_⟩;simp only [vgf,this];cases o<;>first|rfl|exact absurd rfl ho
  |succ k ih=>
   intro n s hk hn hs;obtain ⟨n,rfl⟩:∃n',n=n'+1:=⟨n-1,zo⟩
   rcases step (k+1) s hk hs with ⟨k',s',h1,h2,h3⟩|⟨o,s',ho,h,he⟩
   ·obtain rfl:k=k':=zo
    rw [vyu] at h2;cases hx:run Φ N b s with
    |none=>rw [hx] at h2;cases h2
    |some p=>
     obtain ⟨o,s1⟩:=p;rw [hx] at h2;cases o with
     |nrm=>
      simp only [after,Ad,Ae,true_and] at h2;obtain ⟨o,e,he,ho,hr⟩:=ih n s' zo zo h3;refine ⟨o,e,he,ho,?_⟩;simp only [vgf,hx,h2];exact hr
     |ext id=>simp [after] at h2
     |ret=>simp [after] at h2
   ·have:=vsv (x:=run Φ N b s) (live:=live) h ho;refine ⟨o,s',he,ho,?_⟩;simp only [vgf,this];cases o<;>first|rfl|exact absurd rfl ho
 obtain ⟨o,e,he,ho,hr⟩:=key m N s (Nat.le_refl _) hN h0;refine ⟨o,e,he,ho,?_⟩;unfold goP;rw [hr]
theorem qny (S:Nat->St) (e:St) {m id:Nat} (hN:m<N) (step:∀i,i<m->round Φ N live b (S i)=some (.nrm,S (i+1))) (last:round Φ N live b (S m)=some (.ext id,e)):
  goP Φ N live b r (S 0)=goE Φ N r id e.slots e.nodes e.next:=by
 rw [qns S (λ_=>(.ext id,e)) hN (λ_ _=>by simp) λi hi=> ?_]
 ·rfl
 ·by_cases h:i<m
  ·exact .inl ⟨h,step i h,rfl⟩
  ·have:i=m:=zo
   subst this;exact .inr last
end
def vbt (Φ:Nat->Option Callee) (N:Nat) (live:List Nat) (b:VC) (s:St):Option (Out×St):=vgf (run Φ N b) live N s
theorem vcj {Φ:Nat->Option Callee} {N:Nat} {live:List Nat} {b:VC} (S:Nat->St) (e:St) {m id:Nat} (hN:m<N) (step:∀i,i<m->round Φ N live b (S i)=some (.nrm,S (i+1))) (last:round Φ N live b (S m)=some (.ext id,e)):
  vbt Φ N live b (S 0)=some (.ext id,e):=qny (r:= []) S e hN step last
theorem vd2 {Φ:Nat->Option Callee} {N:Nat} {live:List Nat} {b:VC} (S:Nat->St) (R:Out×St) (P:Nat->Prop) {m:Nat} (hN:m<N) (h0:P 0) (hr:R.1≠ .nrm)
  (step:∀i,i<=m->P i->(i<m/\round Φ N live b (S i)=some (.nrm,S (i+1))/\P (i+1))\/round Φ N live b (S i)=some R):vbt Φ N live b (S 0)=some R:=by
 obtain ⟨o,e,⟨rfl,rfl⟩,_,h⟩:=vsk (Φ:=Φ) (N:=N) (live:=live) (b:=b) (r:= []) (λj s=>∃i,i+j=m/\P i/\s=S i) (λo e=>o=R.1/\e=R.2) hN (s:=S 0) ⟨0,zo,h0,rfl⟩ (by
  rintro j s hj ⟨i,hi,hp,rfl⟩
  rcases step i zo hp with ⟨h1,h2,h3⟩|h1
  ·exact .inl ⟨j-1,_,zo,h2,i+1,zo,h3,rfl⟩
  ·exact .inr ⟨R.1,R.2,hr,h1,rfl,rfl⟩)
 exact h
theorem vaw {Φ:Nat->Option Callee} {N:Nat} {live:List Nat} {b:VC} {r:List It} {s S0 e:St} {id:Nat} (h:vbt Φ N live b S0=some (.ext id,e)) (hs:norm live s=S0):
  goP Φ N live b r (norm live s)=goE Φ N r id e.slots e.nodes e.next:=by
 rw [hs];unfold goP;rw [show vgf (run Φ N b) live N S0=some (.ext id,e) from h];rfl
theorem vih {Φ:Nat->Option Callee} {N:Nat} {live:List Nat} {b:VC} {r:List It} {s S0 e:St} (h:vbt Φ N live b S0=some (.ret,e)) (hs:norm live s=S0):
  goP Φ N live b r (norm live s)=some (.ret,e):=by
 rw [hs];unfold goP;rw [show vgf (run Φ N b) live N S0=some (.ret,e) from h];exact vxu Φ N e r
end Sy
section
variable {Φ:Nat->Option Callee} {N:Nat} {v:Fn}
theorem qzm:(calF Φ N v).modes=v.modes:=rfl
theorem qyu:(calF Φ N v).keeps=v.keeps:=rfl
theorem qxq:(calF Φ N v).scalar=v.scalar:=rfl
theorem zlc:(calF Φ N v).go=vag Φ N v:=rfl
attribute [go_sem] qzm qyu qxq zlc
end
attribute [go_sem] Bool.false_and Bool.true_and Bool.and_true Bool.true_or Bool.false_or Bool.or_true Bool.and_self Option.isNone_some Option.isSome_some decide_true decide_false decide_eq_true decide_eq_false List.length_map List.length_append List.length_replicate List.length_set List.map_append List.replicate_succ List.replicate_zero List.set_cons_zero List.set_cons_succ Ak List.map_nil Af Ah List.getElem?_cons_zero List.getElem?_cons_succ List.drop_zero List.drop_succ_cons List.drop_nil List.take_succ_cons List.take_zero List.nil_append List.cons_append List.append_nil Aa Option.getD_some Option.isNone_none List.getElem?_map Int.toNat_natCast
 if_true if_false Ac Bool.or_false Bool.or_self Bool.and_false Bool.not_true Bool.not_false reduceCtorEq true_and and_true and_self Nat.zero_add Nat.add_zero
theorem vau (x:Int) (h0: -9223372036854775808<=x) (h1:x<=9223372036854775807):IntKind.i64.wrap x=x:=by
 unfold IntKind.wrap;simp [IntKind.bits,IntKind.signed];omega
theorem va0 (i:Nat) (h:i<9223372036854775807):IntKind.i64.wrap ((i:Int)+1)=((i+1:Nat):Int):=by
 rw [vau]<;>omega
theorem vb5 {α β:Type} (f:α->β) (l:List α) (x:α):(l++ [x]).map f=l.map f++ [f x]:=by simp
end Go.Proofs.YtpgkmggaifgjkaaGreatDoor.VM
namespace Go.Proofs.YtpgkmggaifgjkaaGreatDoor.VM.Sy
open Go
variable {Φ:Nat->Option Callee} {N:Nat} {live:List Nat} {b:VC}
attribute [go_sem] List.size_toArray
theorem zdg {x y:ByteArray}:(x++y).size=x.size+y.size:=ByteArray.size_append
attribute [go_sem] zdg
theorem zde {q:Bool} {v b id:Nat} {c0:CV} {s:St}:M.run (vaf q v b (.rf id) c0 .un) s=some (b,s):=by
 cases c0<;>first|rfl|(simp only [vaf];rfl)
attribute [go_sem ↓] zde
def loadJ (x:Option PV) (id ver:Nat) (p:List (Nat×Nat×Nat)) (i m o:Nat) (w:Option Nat):Option TV:=
 match x with
 |some x=>if x.cells.length=m then vbi (ownC id ver p i m 0 x.cells) o w else none
 |none=>none
theorem qwa {x:PV} {id ver:Nat} {p:List (Nat×Nat×Nat)} {i m o:Nat} {w:Option Nat} (h:x.cells.length=m):loadJ (some x) id ver p i m o w=vbi (ownC id ver p i m 0 x.cells) o w:=by simp [loadJ,h]
attribute [go_sem] qwa
def loadI (r:Option (Nat×List PV)) (id ver:Nat) (p:List (Nat×Nat×Nat)) (i m o:Nat) (w:Option Nat):Option TV:=
 match r with
 |some (_,es)=>loadJ es[i]? id ver p i m o w
 |none=>none
theorem qxk {e:Nat} {es:List PV} {id ver:Nat} {p:List (Nat×Nat×Nat)} {i m o:Nat} {w:Option Nat}:loadI (some (e,es)) id ver p i m o w=loadJ es[i]? id ver p i m o w:=rfl
theorem zdb {nd:vcb} {w:Option Nat} {id ver:Nat} {p:List (Nat×Nat×Nat)} {i m o:Nat}:loadP nd w (.ei id ver p i m o)=loadI (elemsI (vbr nd id) ver p) id ver p i m o w:=by
 simp only [loadP,loadAt,var,vbr];simp only [VM.getN,M.run,St.node];cases (look nd id).getD none with
 |none=>rfl
 |some n=>
  cases n with
  |bx z cs=>rfl
  |sl q ver' e es=>
   simp only [elemsI];split
   ·cases dget es p with
    |none=>rfl
    |some r=>
     simp only [loadI];cases r.2[i]? with
     |none=>rfl
     |some x=>
      simp only [loadJ,qev];split
      ·cases vbi (ownC id ver p i m 0 x.cells) o w<;>rfl
      ·rfl
   ·rfl
attribute [go_sem] qxk zdb
def fadI (n:Option Node) (id ver:Nat) (p:List (Nat×Nat×Nat)) (i m o:Nat):Option TV:=
 match n with
 |some (.sl _ ver' _ _)=>if ver'=ver then some (.ei id ver p i m o) else none
 |_=>none
theorem zhm {q:Bool} {e:Nat} {es:List PV} {id ver:Nat} {p:List (Nat×Nat×Nat)} {i m o:Nat}:fadI (some (.sl q ver e es)) id ver p i m o=some (.ei id ver p i m o):=by simp [fadI]
theorem zkp {nd:vcb} {id ver:Nat} {p:List (Nat×Nat×Nat)} {i m o off:Nat}:fadP nd off (.ei id ver p i m o)=fadI (vbr nd id) id ver p i m (o+off):=by
 simp only [fadP,fieldAt,var,vbr,fadI];simp only [VM.getN,M.run,St.node];cases (look nd id).getD none with
 |none=>rfl
 |some n=>
  cases n with
  |bx z cs=>rfl
  |sl q ver' e es=>
   simp only;split<;>rfl
theorem ve5 (I:Nat->St->Prop) (id:Nat) (E:St->Prop) {m:Nat} (hN:m<N) {s:St} (h0:I m s)
  (step:∀k s,k<=m->I k s->(0<k/\∃s',round Φ N live b s=some (.nrm,s')/\I (k-1) s')\/∃e,round Φ N live b s=some (.ext id,e)/\E e):
  ∃e,E e/\vbt Φ N live b s=some (.ext id,e):=by
 obtain ⟨o,e,⟨rfl,h1⟩,_,h2⟩:=vsk (Φ:=Φ) (N:=N) (live:=live) (b:=b) (r:= []) I (λo e=>o= .ext id/\E e) hN h0 λk s hk hi=>by
  rcases step k s hk hi with ⟨h1,s',h2,h3⟩|⟨e,h1,h2⟩
  ·exact .inl ⟨k-1,s',zo,h2,h3⟩
  ·exact .inr ⟨.ext id,e,by simp,h1,rfl,h2⟩
 exact ⟨e,h1,h2⟩
attribute [go_sem] zhm zkp

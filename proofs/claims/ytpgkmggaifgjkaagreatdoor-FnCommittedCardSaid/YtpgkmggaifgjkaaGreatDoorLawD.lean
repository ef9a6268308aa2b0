/- vcb that are discovered. -/
import Derived.Test.YtpgkmggaifgjkaaGreatDoorLawT
open Nat renaming reduceAdd->Aa,reduceBEq->Ab,le_refl->Ag,zero_add->Ap,le_trans->Aq,zero_le->At
open List renaming getElem?_eq_getElem->Ac,replicate->Ad,mem_of_getElem?->Ae,getElem?_eq_some_iff->Af,mem_singleton->Ai,map_replicate->Aj,take_add_one->Ak,length_cons->Al,all_eq_true->Am,take_length->An,mem_append->Ao,map_nil->Ar
open Bool renaming and_eq_true->Ah
set_option linter.all false
namespace Go.Proofs.YtpgkmggaifgjkaaGreatDoor.VM
open Go Sy
variable {Φ:Nat->Option Callee} {N:Nat}
def eNat (x:Nat):PV:= .a (.int .i64 x)
theorem qq9 (x:Nat):eNat x= .a (.int .i64 x):=rfl
def eB (b:Bool):PV:= .a (.bool b)
theorem qxo (b:Bool):eB b= .a (.bool b):=rfl
attribute [go_sem] qq9 qxo
structure Fd where
 out:List Nat
 seen:List Bool
def see1 (st:Fd) (v:Int):Fd:=if 0<v/\st.seen[(v-1).toNat]? =some false then ⟨st.out++ [(v-1).toNat],st.seen.set (v-1).toNat true⟩ else st
def unseen:List Bool->Nat
 | []=>0
 |b::l=>(if b then 0 else 1)+unseen l
theorem vwh:∀{l:List Bool} {i:Nat},l[i]? =some false->unseen (l.set i true)+1=unseen l
 | [],i,h=>by cases h
 |b::l,0,h=>by
  simp only [List.getElem?_cons_zero,Option.some.injEq] at h;subst h;simp [unseen];omega
 |b::l,i+1,h=>by
  rw [List.getElem?_cons_succ] at h;have:=vwh h;simp only [List.set_cons_succ,unseen];omega
theorem qf3 (n:Nat):unseen (Ad n false)=n:=by
 induction n with
 |zero=>rfl
 |succ n ih=>rw [List.replicate_succ,unseen,ih];simp;omega
structure InvF (n:Nat) (st:Fd):Prop where
 len:st.seen.length=n
 cnt:st.out.length+unseen st.seen=n
 low:∀x∈st.out,x<n
 nod:st.out.Nodup
 mem:∀x,x∈st.out->st.seen[x]? =some true
theorem InvF.le {n:Nat} {st:Fd} (h:InvF n st):st.out.length<=n:=by have:=h.cnt;omega
theorem InvF.see {n:Nat} {st:Fd} (h:InvF n st) (v:Int):InvF n (see1 st v):=by
 unfold see1;split
 ·rename_i hc;obtain ⟨hi,hb⟩:=Af.1 hc.2;have hnew:(v-1).toNat∉st.out:=λhm=>by have:=h.mem _ hm;rw [hc.2] at this;cases this
  refine ⟨by rw [List.length_set];exact h.len,?_,?_,?_,?_⟩
  ·have:=vwh hc.2;have h1:=h.cnt;simp only [List.length_append,Al,List.length_nil];omega
  ·intro x hx;rcases Ao.1 hx with hx|hx
   ·exact h.low x hx
   ·simp only [Ai] at hx;subst hx;rw [<-h.len];exact hi
  ·rw [List.nodup_append];refine ⟨h.nod,by simp,λa ha b hb e=> ?_⟩;simp only [Ai] at hb;subst hb;subst e;exact hnew ha
  ·intro x hx;rw [List.getElem?_set];rcases Ao.1 hx with hx|hx
   ·by_cases he:(v-1).toNat=x
    ·subst he;exact absurd hx hnew
    ·rw [if_neg he];exact h.mem x hx
   ·simp only [Ai] at hx;subst hx;rw [if_pos rfl,if_pos hi]
 ·exact h
def seeAll (st:Fd) (l:List Int):Fd:=l.foldl see1 st
theorem InvF.all {n:Nat}:∀{l:List Int} {st:Fd},InvF n st->InvF n (seeAll st l)
 | [],_,h=>h
 |v::l,_,h=>InvF.all (l:=l) (h.see v)
theorem vu4 {st:Fd} {l:List Int} {i:Nat} {v:Int} (h:l[i]? =some v):seeAll st (l.take (i+1))=see1 (seeAll st (l.take i)) v:=by
 unfold seeAll;rw [Ak,h,List.foldl_append];rfl
def seeK (s:ByteArray) (st:Fd):Nat->List Int->Fd
 |_,[]=>st
 |k,v::l=>seeK s (if refAt s k then see1 st v else st) (k+1) l
def seeT (s:ByteArray) (st:Fd) (vals:List Int) (i:Nat):Fd:=seeK s st 0 (vals.take i)
theorem vvc {s:ByteArray}:∀{l l':List Int} {k:Nat} {st:Fd},seeK s st k (l++l')=seeK s (seeK s st k l) (k+l.length) l'
 | [],l',k,st=>rfl
 |v::l,l',k,st=>by
  rw [List.cons_append,seeK,seeK,vvc,Al,show k+1+l.length=k+(l.length+1) by omega]
theorem vyz {s:ByteArray} {st:Fd} {vals:List Int} {i:Nat} {v:Int} (h:vals[i]? =some v):seeT s st vals (i+1)=if refAt s i then see1 (seeT s st vals i) v else seeT s st vals i:=by
 unfold seeT;have hi:i<vals.length:=(Af.1 h).1;rw [Ak,h,vvc];simp only [Option.toList_some,seeK,List.length_take,Ap,Nat.min_eq_left (Nat.le_of_lt hi)]
theorem InvF.seeK {n:Nat} {s:ByteArray}:∀{l:List Int} {k:Nat} {st:Fd},InvF n st->InvF n (seeK s st k l)
 | [],_,_,h=>h
 |v::l,k,st,h=>by
  rw [VM.seeK];refine InvF.seeK (l:=l) ?_;split
  ·exact h.see v
  ·exact h
def seeO (ts:List ByteArray) (st:Fd) (o:Obj'):Fd:=match ts[o.ty.toNat]? with
 |some s=>seeT s st o.vals o.vals.length
 |none=>st
def seeN (ts:List ByteArray) (g:Gr) (st:Fd) (i:Nat):Fd:=match st.out[i]? with
 |some k=>(match g.nodes[k]? with
  |some o=>seeO ts st o
  |none=>st)
 |none=>st
def search (ts:List ByteArray) (g:Gr):Nat->Fd
 |0=>seeAll ⟨[],Ad g.nodes.length false⟩ g.roots
 |i+1=>seeN ts g (search ts g i) i
theorem vz5 (n:Nat):InvF n ⟨[],Ad n false⟩:=⟨by simp,by simp [qf3],by simp,by simp,by simp⟩
theorem InvF.seeO {n:Nat} {ts:List ByteArray} {st:Fd} (h:InvF n st) (o:Obj'):InvF n (seeO ts st o):=by
 unfold VM.seeO;split
 ·exact InvF.seeK h
 ·exact h
theorem vcw (ts:List ByteArray) (g:Gr):∀i,InvF g.nodes.length (search ts g i)
 |0=>InvF.all (vz5 _)
 |i+1=>by
  rw [search];unfold seeN;split
  ·split
   ·exact (vcw ts g i).seeO _
   ·exact vcw ts g i
  ·exact vcw ts g i
theorem vhi {ts:List ByteArray} {g:Gr} {i:Nat} (h:(search ts g i).out.length<=i):∀j,search ts g (i+j)=search ts g i
 |0=>rfl
 |j+1=>by
  rw [show i+(j+1)=(i+j)+1 by omega,search,vhi h j];unfold seeN;rw [List.getElem?_eq_none zo]
def found (ts:List ByteArray) (g:Gr):List Nat:=(search ts g g.nodes.length).out
theorem vr4 (l:List Bool) (i:Nat):(l.map eB).set i (.a (.bool true))=(l.set i true).map eB:=by rw [List.map_set];rfl
theorem qea {n:Nat} {st:Fd} (h:InvF n st) (hn:n<=1048576) {v:Int} (hv:v<=(n:Int)) (hlo: -9223372036854775807<=v):
  vag Φ N vd7 [.a (.int .i64 v),.bx false [.sl false vb3 (st.seen.map eB)],.bx false [.sl false vae (st.out.map eNat)]]=
  some ([],[.bx false [.sl false vb3 ((see1 st v).seen.map eB)],.bx false [.sl false vae ((see1 st v).out.map eNat)]]):=by
 have hle:=h.le;have hlen:=h.len;rw [vab rfl];unfold see1;by_cases c1:0<v
 ·obtain ⟨k,rfl⟩:∃k:Nat,v=(k:Int)+1:=⟨(v-1).toNat,zo⟩
  have e1:((k:Int)+1-1).toNat=k:=zo
  have e2:IntKind.i64.wrap ((k:Int)+1-1)=k:=by rw [vau]<;>omega
  obtain ⟨b,hb⟩:∃b,st.seen[k]? =some b:=⟨_,Ac zo⟩
  rw [e1,hb];cases b with
  |true=>
   rw [if_neg (by simp)];simp -implicitDefEqProofs (disch:=try exact zd) only [go_sem,Aa,Ab,vd7,vh9,e2,hb]
  |false=>
   rw [if_pos ⟨c1,rfl⟩];simp -implicitDefEqProofs (disch:=try exact zd) only [go_sem,Aa,Ab,vd7,vh9,e2,hb,vr4]
 ·rw [if_neg (λh=>c1 h.1)];simp -implicitDefEqProofs (disch:=try exact zd) only [go_sem,Aa,Ab,vd7,vh9]
structure Right (ts:List ByteArray) (g:Gr):Prop where
 small:Small ts g
 n:g.nodes.length<=400
 r:g.roots.length<=1000
 roots:∀v∈g.roots,0<=v/\v<=(g.nodes.length:Int)
 obj:∀o∈g.nodes,∃(t:Nat) (s:ByteArray),o.ty=(t:Int)/\ts[t]? =some s/\o.vals.length=s.size/\1<=s.size/\s.size<=23/\∀(j:Nat) v,o.vals[j]? =some v->refAt s j=true->0<=v/\v<=(g.nodes.length:Int)
 ty:ts.length<=12
theorem Right.of {ts:List ByteArray} {g:Gr} (hs:Small ts g) (h:graphOk ts g=true):Right ts g:=by
 unfold graphOk at h;simp only [Ah,decide_eq_true_eq,Am] at h;obtain ⟨h1,h2,h3,h4,h5⟩:=h;unfold vgx at h1;simp only [Ah,decide_eq_true_eq,Am] at h1;refine ⟨hs,h3,Aq h2 (by decide),λv hv=> ?_,λo ho=> ?_,h1.1.2⟩
 ·have:=h4 v hv
  rwa [isN,decide_eq_true_eq] at this
 ·have:=h5 o ho;unfold objOk at this;split at this
  ·rename_i s hs';simp only [Ah,decide_eq_true_eq] at this;obtain ⟨k1,k2,k3⟩:=this;have hsz:=h1.2 s (Ae hs');unfold okType at hsz;simp only [Ah,decide_eq_true_eq] at hsz;refine ⟨o.ty.toNat,s,zo,hs',k2,hsz.1.1,hsz.1.2,λj v hv hr=> ?_⟩;have hb:=vjv.1 k3 j v hv;rw [Ap,badV,hr] at hb;simp only [Bool.true_and,Bool.not_eq_false'] at hb
   rwa [isN,decide_eq_true_eq] at hb
  ·cases this
theorem qly (st:Fd) (v:Int):st.out.length<=(see1 st v).out.length:=by
 unfold see1;split
 ·simp
 ·exact Ag _
theorem qcf {s:ByteArray}:∀{l:List Int} {k:Nat} {st:Fd},st.out.length<=(seeK s st k l).out.length
 | [],_,_=>Ag _
 |v::l,k,st=>by
  rw [seeK];refine Aq ?_ qcf;split
  ·exact qly _ _
  ·exact Ag _
theorem vwb (ts:List ByteArray) (g:Gr) (i:Nat):(search ts g i).out.length<=(search ts g (i+1)).out.length:=by
 rw [search];unfold seeN;split
 ·split
  ·unfold seeO;split
   ·exact qcf
   ·exact Ag _
  ·exact Ag _
 ·exact Ag _
abbrev fSee:TV:= .fn via [] [.rf 2,.rf 1]
abbrev nSee (g:Gr) (st:Fd):List (Nat×Option Node):= [(0,some (.bx false (uGr g))),(1,some (.bx false [.rf 3])),(2,some (.bx false [.rf 4])),(3,some (.sl false 0 vae (st.out.map eNat))),(4,some (.sl false 0 vb3 (st.seen.map eB)))]
def S80 (ts:List ByteArray) (g:Gr) (i:Nat):St:=⟨[(0,.sz vam (ts.map eStr)),(3,.rf 0),(5,.rf 1),(7,fSee),(21,.sz vae (g.roots.map vak)),(22,.a (.int .i64 g.roots.length)),(23,.a (.int .i64 i))],nSee g (seeAll ⟨[],Ad g.nodes.length false⟩ (g.roots.take i)),5⟩
theorem qrl {d:Nat} {ts:List ByteArray} {g:Gr} (h:Right ts g):
  vbt (T (d+1)) vad [0,3,5,7,21,22,23] vfx (S80 ts g 0)=some (.ext 0,⟨[(0,.sz vam (ts.map eStr)),(3,.rf 0),(5,.rf 1),(7,fSee),(21,.sz vae (g.roots.map vak)),(22,.a (.int .i64 g.roots.length)),(23,.a (.int .i64 g.roots.length)),(24,.a (.bool false))],nSee g (search ts g 0),105⟩):=by
 have hr:=h.r;have hn:=h.n;have:=vcj (Φ:=T (d+1)) (N:=vad) (live:= [0,3,5,7,21,22,23]) (b:=vfx) (id:=0) (S80 ts g) ⟨[(0,.sz vam (ts.map eStr)),(3,.rf 0),(5,.rf 1),(7,fSee),(21,.sz vae (g.roots.map vak)),(22,.a (.int .i64 g.roots.length)),(23,.a (.int .i64 g.roots.length)),(24,.a (.bool false))],nSee g (search ts g 0),105⟩ (m:=g.roots.length) (vbc zo) (λi hi=> ?_) ?_
 ·exact this
 ·obtain ⟨v,hv⟩:∃v,g.roots[i]? =some v:=⟨_,Ac hi⟩
  obtain ⟨v0,v1⟩:=h.roots v (Ae hv);have hI:InvF g.nodes.length (seeAll ⟨[],Ad g.nodes.length false⟩ (g.roots.take i)):=InvF.all (vz5 _);have hc:=qea (Φ:=T d) (N:=vad) hI zo v1 zo;have hw:=va0 i zo;unfold round S80 vfx nSee fSee;rw [vu4 hv];generalize seeAll ⟨[],Ad g.nodes.length false⟩ (g.roots.take i)=st at *;generalize see1 st v=st' at *;simp -implicitDefEqProofs (disch:=try exact zd) only [go_sem,Aa,Ab,hv,hc,hw]
  cbv
 ·unfold round S80 vfx nSee fSee;rw [An];simp -implicitDefEqProofs (disch:=try exact zd) only [go_sem,Aa,Ab,search]
abbrev nSee2 (g:Gr) (o:Obj') (st:Fd):List (Nat×Option Node):= [(0,some (.bx false (uGr g))),(1,some (.bx false [.rf 4])),(2,some (.bx false [.rf 5])),(3,some (.bx false [.a (.int .i64 o.ty),.sz vae (o.vals.map vak)])),(4,some (.sl false 0 vae (st.out.map eNat))),(5,some (.sl false 0 vb3 (st.seen.map eB)))]
def S82 (ts:List ByteArray) (g:Gr) (o:Obj') (q:Nat) (s:ByteArray) (st:Fd) (i:Nat):St:=⟨[(0,.sz vam (ts.map eStr)),(3,.rf 0),(5,.rf 1),(7,fSee),(10,.a (.int .i64 q)),(11,.rf 3),(46,.sz vae (o.vals.map vak)),(47,.a (.int .i64 o.vals.length)),(48,.a (.int .i64 i))],nSee2 g o (seeT s st o.vals i),6⟩
theorem qqf {d:Nat} {ts:List ByteArray} {g:Gr} (h:Right ts g) {o:Obj'} (q:Nat) {t:Nat} {s:ByteArray} (ht:o.ty=(t:Int)) (hs:ts[t]? =some s) (hz:o.vals.length=s.size) (hss:s.size<=23) (hv:∀(j:Nat) v,o.vals[j]? =some v->refAt s j=true->0<=v/\v<=(g.nodes.length:Int)) {st:Fd} (hI:InvF g.nodes.length st):
  vbt (T (d+1)) vad [0,3,5,7,10,11,46,47,48] vhd (S82 ts g o q s st 0)=some (.ext 4,⟨[(0,.sz vam (ts.map eStr)),(3,.rf 0),(5,.rf 1),(7,fSee),(10,.a (.int .i64 q)),(11,.rf 3),(46,.sz vae (o.vals.map vak)),(47,.a (.int .i64 o.vals.length)),(48,.a (.int .i64 o.vals.length)),(49,.a (.bool false))],nSee2 g o (seeT s st o.vals o.vals.length),106⟩):=by
 have htl:t<ts.length:=(Af.1 hs).1;have hn:=h.n;refine vcj (S82 ts g o q s st) _ (m:=o.vals.length) (vbc zo) (λi hi=> ?_) ?_
 ·obtain ⟨v,hv'⟩:∃v,o.vals[i]? =some v:=⟨_,Ac hi⟩
  obtain ⟨b,hb⟩:∃b,(ch s)[i]? =some b:=⟨_,Ac (by rw [<-vho];omega)⟩
  have hx:=vmc hb;have hw:=va0 i zo;have hr:refAt s i=decide ((b.toNat:Int)=114):=by simp only [refAt,hb]
  have hI':InvF g.nodes.length (seeT s st o.vals i):=InvF.seeK hI;unfold round S82 vhd nSee2 fSee;rw [vyz hv',hr,ht];by_cases c1:(b.toNat:Int)=114
  ·obtain ⟨v0,v1⟩:=hv i v hv' (by rw [hr];exact decide_eq_true c1);have hc:=qea (Φ:=T d) (N:=vad) hI' zo v1 zo;rw [decide_eq_true c1,if_pos rfl];generalize seeT s st o.vals i=st1 at *;generalize see1 st1 v=st' at *;simp -implicitDefEqProofs (disch:=try exact zd) only [go_sem,Aa,Ab,hv',hx,hs,hc,hw,c1]
   cbv
  ·rw [decide_eq_false c1,if_neg (by simp)];generalize seeT s st o.vals i=st1 at *;simp -implicitDefEqProofs (disch:=try exact zd) only [go_sem,Aa,Ab,hv',hx,hs,hw]
   cbv
 ·unfold round S82 vhd;simp -implicitDefEqProofs (disch:=try exact zd) only [go_sem,Aa,Ab]
def S81 (ts:List ByteArray) (g:Gr) (i:Nat):St:=⟨[(0,.sz vam (ts.map eStr)),(3,.rf 0),(5,.rf 1),(7,fSee),(10,.a (.int .i64 i))],nSee g (search ts g i),5⟩
theorem qrk {d:Nat} {ts:List ByteArray} {g:Gr} (h:Right ts g):
  vbt (T (d+1)) vad [0,3,5,7,10] vhb (S81 ts g 0)=some (.ext 2,⟨[(0,.sz vam (ts.map eStr)),(3,.rf 0),(5,.rf 1),(7,fSee),(10,.a (.int .i64 (found ts g).length)),(34,.a (.bool false))],nSee g (search ts g g.nodes.length),405⟩):=by
 have hn:=h.n;refine vd2 (S81 ts g) _ (λi=>i<=(search ts g i).out.length) (m:=g.nodes.length) (vbc zo) (At _) (by simp) (λi hi hp=> ?_);have hI:=vcw ts g i;have hle:=hI.le;have hw:=va0 i zo;by_cases hi':i<(search ts g i).out.length
 ·obtain ⟨k,hk⟩:∃k,(search ts g i).out[i]? =some k:=⟨_,Ac hi'⟩
  have hkn:=hI.low k (Ae hk);obtain ⟨o,ho⟩:∃o,g.nodes[k]? =some o:=⟨_,Ac hkn⟩
  obtain ⟨t,s,o1,o2,o3,o4,o5,o6⟩:=h.obj o (Ae ho);have key:=qqf (d:=d) h i o1 o2 o3 o5 o6 hI;have e:search ts g (i+1)=seeT s (search ts g i) o.vals o.vals.length:=by
   rw [search];unfold seeN;rw [hk];simp only;rw [ho];simp only;unfold seeO;rw [o1,Int.toNat_natCast,o2]
  have hgrow:=vwb ts g i;unfold S82 nSee2 fSee at key;rw [show seeT s (search ts g i) o.vals 0=search ts g i from rfl] at key;refine .inl ⟨zo,?_,zo⟩;unfold round S81 vhb nSee fSee;rw [e];generalize seeT s (search ts g i) o.vals o.vals.length=st' at *;generalize search ts g i=st at *;simp -implicitDefEqProofs (disch:=try exact zd) only [go_sem,Aa,Ab,hk,ho,hw];rw [vaw key (by cbv)];simp -implicitDefEqProofs (disch:=try exact zd) only [go_sem,Aa,Ab,hw]
  cbv
 ·have hlen:(search ts g i).out.length=i:=zo
  have hst:=vhi (ts:=ts) (g:=g) (i:=i) zo (g.nodes.length-i);rw [show i+(g.nodes.length-i)=g.nodes.length by omega] at hst;right;have hf:(found ts g).length=i:=by unfold found;rw [hst];exact hlen
  rw [hf,hst];unfold round S81 vhb nSee fSee;generalize search ts g i=st at *;simp -implicitDefEqProofs (disch:=try exact zd) only [go_sem,Aa,Ab]
theorem vr0 {d:Nat} {ts:List ByteArray} {g:Gr} (h:Right ts g):vag (T (d+1)) vad vg3 [.sl true vam (ts.map eStr),cGr true g]=some ([.sl false vae ((found ts g).map eNat)],[]):=by
 have k0:=qrl (d:=d) h;have k1:=qrk (d:=d) h;have hn:=h.n;unfold S80 nSee fSee at k0;unfold S81 nSee fSee at k1;rw [show seeAll ⟨[],Ad g.nodes.length false⟩ (g.roots.take 0)=⟨[],Ad g.nodes.length false⟩ from rfl] at k0;rw [vab rfl];unfold found;have e:List.map eB (Ad g.nodes.length false)=Ad g.nodes.length (.a (.bool false)):=by rw [Aj];rfl
 simp only [e,Ar] at k0;simp -implicitDefEqProofs (disch:=try exact zd) only [go_sem,Aa,Ab,vg3,vn9];rw [vaw k0 (by cbv)];simp -implicitDefEqProofs (disch:=try exact zd) only [go_sem,Aa,Ab];generalize search ts g 0=s0 at *;rw [vaw k1 (by cbv)];simp -implicitDefEqProofs (disch:=try exact zd) only [go_sem,Aa,Ab]
abbrev nFnd (g:Gr) (st:Fd):List (Nat×Option Node):= [(0,some (.bx false (uGr g))),(1,some (.sl false 0 vae (st.out.map eNat))),(2,some (.sl false 0 vb3 (st.seen.map eB)))]
def S90 (ts:List ByteArray) (g:Gr) (i:Nat):St:=⟨[(0,.sz vam (ts.map eStr)),(3,.rf 0),(5,.rf 1),(6,.rf 2),(7,.a (.int .i64 i))],nFnd g (seeAll ⟨[],Ad g.nodes.length false⟩ (g.roots.take i)),3⟩
theorem qdz (k:Nat) (h:k<=1048576):IntKind.i64.wrap ((k:Int)+1-1)=k:=by rw [vau]<;>omega
theorem qoy:IntKind.i64.wrap ((0:Int)-1)= -1:=by decide
theorem qs4 {ts:List ByteArray} {g:Gr} (h:Right ts g):
  vbt Φ vad [0,3,5,6,7] vi4 (S90 ts g 0)=some (.ext 0,⟨[(0,.sz vam (ts.map eStr)),(3,.rf 0),(5,.rf 1),(6,.rf 2),(7,.a (.int .i64 g.roots.length)),(22,.a (.bool false))],nFnd g (search ts g 0),503⟩):=by
 have hr:=h.r;have hn:=h.n;refine vcj (S90 ts g) _ (m:=g.roots.length) (vbc zo) (λi hi=> ?_) ?_
 ·obtain ⟨v,hv⟩:∃v,g.roots[i]? =some v:=⟨_,Ac hi⟩
  obtain ⟨v0,v1⟩:=h.roots v (Ae hv);have hI:InvF g.nodes.length (seeAll ⟨[],Ad g.nodes.length false⟩ (g.roots.take i)):=InvF.all (vz5 _);have hw:=va0 i zo;unfold round S90 vi4 nFnd;rw [vu4 hv];generalize seeAll ⟨[],Ad g.nodes.length false⟩ (g.roots.take i)=st at *;have hle:=hI.le;have hlen:=hI.len;unfold see1;by_cases c1:0<v
  ·obtain ⟨k,rfl⟩:∃k:Nat,v=(k:Int)+1:=⟨(v-1).toNat,zo⟩
   have e1:((k:Int)+1-1).toNat=k:=zo
   have e2:=qdz k zo;obtain ⟨b,hb⟩:∃b,st.seen[k]? =some b:=⟨_,Ac zo⟩
   rw [e1,hb];cases b with
   |true=>
    rw [if_neg (by simp)];simp -implicitDefEqProofs (disch:=try exact zd) only [go_sem,Aa,Ab,hv,hw,e2,hb]
    cbv
   |false=>
    rw [if_pos ⟨c1,rfl⟩];simp -implicitDefEqProofs (disch:=try exact zd) only [go_sem,Aa,Ab,hv,hw,e2,hb,vr4]
    cbv
  ·obtain rfl:v=0:=zo
   rw [if_neg (λh=>c1 h.1)];simp -implicitDefEqProofs (disch:=try exact zd) only [go_sem,Aa,Ab,hv,hw,qoy]
   cbv
 ·unfold round S90 vi4 nFnd;rw [An];simp -implicitDefEqProofs (disch:=try exact zd) only [go_sem,Aa,Ab,search]
abbrev nFnd2 (g:Gr) (o:Obj') (st:Fd):List (Nat×Option Node):= [(0,some (.bx false (uGr g))),(1,some (.sl false 0 vae (st.out.map eNat))),(2,some (.sl false 0 vb3 (st.seen.map eB))),(3,some (.bx false [.a (.int .i64 o.ty),.sz vae (o.vals.map vak)]))]
def S92 (ts:List ByteArray) (g:Gr) (o:Obj') (q:Nat) (s:ByteArray) (st:Fd) (i:Nat):St:=⟨[(0,.sz vam (ts.map eStr)),(3,.rf 0),(5,.rf 1),(6,.rf 2),(9,.a (.int .i64 q)),(10,.rf 3),(11,.a (.int .i64 i))],nFnd2 g o (seeT s st o.vals i),4⟩
theorem qva {ts:List ByteArray} {g:Gr} (h:Right ts g) {o:Obj'} (q:Nat) {t:Nat} {s:ByteArray} (ht:o.ty=(t:Int)) (hs:ts[t]? =some s) (hz:o.vals.length=s.size) (hss:s.size<=23) (hv:∀(j:Nat) v,o.vals[j]? =some v->refAt s j=true->0<=v/\v<=(g.nodes.length:Int)) {st:Fd} (hI:InvF g.nodes.length st):
  vbt Φ vad [0,3,5,6,9,10,11] vjb (S92 ts g o q s st 0)=some (.ext 4,⟨[(0,.sz vam (ts.map eStr)),(3,.rf 0),(5,.rf 1),(6,.rf 2),(9,.a (.int .i64 q)),(10,.rf 3),(11,.a (.int .i64 o.vals.length)),(65,.a (.bool false))],nFnd2 g o (seeT s st o.vals o.vals.length),504⟩):=by
 have htl:t<ts.length:=(Af.1 hs).1;have hn:=h.n;refine vcj (S92 ts g o q s st) _ (m:=o.vals.length) (vbc zo) (λi hi=> ?_) ?_
 ·obtain ⟨v,hv'⟩:∃v,o.vals[i]? =some v:=⟨_,Ac hi⟩
  obtain ⟨b,hb⟩:∃b,(ch s)[i]? =some b:=⟨_,Ac (by rw [<-vho];omega)⟩
  have hx:=vmc hb;have hw:=va0 i zo;have hr:refAt s i=decide ((b.toNat:Int)=114):=by simp only [refAt,hb]
  have hI':InvF g.nodes.length (seeT s st o.vals i):=InvF.seeK hI;unfold round S92 vjb nFnd2;rw [vyz hv',hr,ht];by_cases c1:(b.toNat:Int)=114
  ·obtain ⟨v0,v1⟩:=hv i v hv' (by rw [hr];exact decide_eq_true c1);rw [decide_eq_true c1,if_pos rfl];generalize seeT s st o.vals i=st1 at *;have hle:=hI'.le;have hlen:=hI'.len;unfold see1;by_cases c2:0<v
   ·obtain ⟨k,rfl⟩:∃k:Nat,v=(k:Int)+1:=⟨(v-1).toNat,zo⟩
    have e1:((k:Int)+1-1).toNat=k:=zo
    have e2:=qdz k zo;obtain ⟨b',hb'⟩:∃b,st1.seen[k]? =some b:=⟨_,Ac zo⟩
    rw [e1,hb'];cases b' with
    |true=>
     rw [if_neg (by simp)];simp -implicitDefEqProofs (disch:=try exact zd) only [go_sem,Aa,Ab,hv',hx,hs,hw,c1,e2,hb']
     cbv
    |false=>
     rw [if_pos ⟨c2,rfl⟩];simp -implicitDefEqProofs (disch:=try exact zd) only [go_sem,Aa,Ab,hv',hx,hs,hw,c1,e2,hb',vr4]
     cbv
   ·obtain rfl:v=0:=zo
    rw [if_neg (λh=>c2 h.1)];simp -implicitDefEqProofs (disch:=try exact zd) only [go_sem,Aa,Ab,hv',hx,hs,hw,c1,qoy]
    cbv
  ·rw [decide_eq_false c1,if_neg (by simp)];generalize seeT s st o.vals i=st1 at *;simp -implicitDefEqProofs (disch:=try exact zd) only [go_sem,Aa,Ab,hv',hx,hs,hw]
   cbv
 ·unfold round S92 vjb nFnd2;simp -implicitDefEqProofs (disch:=try exact zd) only [go_sem,Aa,Ab]
def S91 (ts:List ByteArray) (g:Gr) (i:Nat):St:=⟨[(0,.sz vam (ts.map eStr)),(3,.rf 0),(5,.rf 1),(6,.rf 2),(9,.a (.int .i64 i))],nFnd g (search ts g i),3⟩
theorem qtw {ts:List ByteArray} {g:Gr} (h:Right ts g):
  vbt Φ vad [0,3,5,6,9] vi6 (S91 ts g 0)=some (.ext 2,⟨[(0,.sz vam (ts.map eStr)),(3,.rf 0),(5,.rf 1),(6,.rf 2),(9,.a (.int .i64 (found ts g).length)),(50,.a (.bool false))],nFnd g (search ts g g.nodes.length),403⟩):=by
 have hn:=h.n;refine vd2 (S91 ts g) _ (λi=>i<=(search ts g i).out.length) (m:=g.nodes.length) (vbc zo) (At _) (by simp) (λi hi hp=> ?_);have hI:=vcw ts g i;have hle:=hI.le;have hw:=va0 i zo;by_cases hi':i<(search ts g i).out.length
 ·obtain ⟨k,hk⟩:∃k,(search ts g i).out[i]? =some k:=⟨_,Ac hi'⟩
  have hkn:=hI.low k (Ae hk);obtain ⟨o,ho⟩:∃o,g.nodes[k]? =some o:=⟨_,Ac hkn⟩
  obtain ⟨t,s,o1,o2,o3,o4,o5,o6⟩:=h.obj o (Ae ho);have key:=qva (Φ:=Φ) h i o1 o2 o3 o5 o6 hI;have e:search ts g (i+1)=seeT s (search ts g i) o.vals o.vals.length:=by
   rw [search];unfold seeN;rw [hk];simp only;rw [ho];simp only;unfold seeO;rw [o1,Int.toNat_natCast,o2]
  have hgrow:=vwb ts g i;unfold S92 nFnd2 at key;rw [show seeT s (search ts g i) o.vals 0=search ts g i from rfl] at key;refine .inl ⟨zo,?_,zo⟩;unfold round S91 vi6 nFnd;rw [e];generalize seeT s (search ts g i) o.vals o.vals.length=st' at *;generalize search ts g i=st at *;simp -implicitDefEqProofs (disch:=try exact zd) only [go_sem,Aa,Ab,hk,ho,hw];rw [vaw key (by cbv)];simp -implicitDefEqProofs (disch:=try exact zd) only [go_sem,Aa,Ab,hw]
  cbv
 ·have hlen:(search ts g i).out.length=i:=zo
  have hst:=vhi (ts:=ts) (g:=g) (i:=i) zo (g.nodes.length-i);rw [show i+(g.nodes.length-i)=g.nodes.length by omega] at hst;right;have hf:(found ts g).length=i:=by unfold found;rw [hst];exact hlen
  rw [hf,hst];unfold round S91 vi6 nFnd;generalize search ts g i=st at *;simp -implicitDefEqProofs (disch:=try exact zd) only [go_sem,Aa,Ab]
theorem qcw {ts:List ByteArray} {g:Gr} (h:Right ts g):vag Φ vad vjd [.sl true vam (ts.map eStr),cGr true g]=some ([.sl false vae ((found ts g).map eNat)],[]):=by
 have k0:=qs4 (Φ:=Φ) h;have k1:=qtw (Φ:=Φ) h;have hn:=h.n;unfold S90 nFnd at k0;unfold S91 nFnd at k1;rw [show seeAll ⟨[],Ad g.nodes.length false⟩ (g.roots.take 0)=⟨[],Ad g.nodes.length false⟩ from rfl] at k0;rw [vab rfl];unfold found;have e:List.map eB (Ad g.nodes.length false)=Ad g.nodes.length (.a (.bool false)):=by rw [Aj];rfl
 simp only [e,Ar] at k0;simp -implicitDefEqProofs (disch:=try exact zd) only [go_sem,Aa,Ab,vjd,vrb];rw [vaw k0 (by cbv)];simp -implicitDefEqProofs (disch:=try exact zd) only [go_sem,Aa,Ab];generalize search ts g 0=s0 at *;rw [vaw k1 (by cbv)];simp -implicitDefEqProofs (disch:=try exact zd) only [go_sem,Aa,Ab]

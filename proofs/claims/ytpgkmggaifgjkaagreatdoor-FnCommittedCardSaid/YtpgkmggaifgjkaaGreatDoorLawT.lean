/- Numbers. -/
import Derived.Test.YtpgkmggaifgjkaaGreatDoorVmLs
import Derived.Test.YtpgkmggaifgjkaaGreatDoorVmSt
import Derived.Test.YtpgkmggaifgjkaaGreatDoorCode
open Nat renaming reduceAdd->Aa,reduceBEq->Ab,zero_add->Am,mod_eq_of_lt->Ap
open List renaming getElem?_eq_getElem->Ac,getElem?_eq_some_iff->Ad,mem_of_getElem?->Ae,all_eq_true->Af,mem_iff_getElem->Ah,not_any_eq_all_not->Ai,findIdx?_eq_some_iff_getElem->Aj,findIdx?_eq_none_iff->Al,getElem?_eq_none->An,map_cons->Ao,all_cons->At
open Bool renaming true_and->Ag,and_eq_true->Aq,false_and->Ar,and_self->Au
open Int renaming toNat_natCast->Ak
set_option linter.all false
namespace Go.Proofs.YtpgkmggaifgjkaaGreatDoor.VM
open Go Sy
def vak (x:Int):PV:= .a (.int .i64 x)
theorem qri (x:Int):vak x= .a (.int .i64 x):=rfl
attribute [go_sem] qri
def eStr (s:ByteArray):PV:= .a (.string s)
theorem zdu:nfzL []=true:=rfl
theorem qg6 {c:PV} {cs:List PV}:nfzL (c::cs)=(nfz c&&nfzL cs):=rfl
theorem zmc {v:Value}:nfz (.a v)=true:=rfl
theorem zjt {cs:List PV}:nfz (.st cs)=nfzL cs:=rfl
theorem zkt {e:Nat} {es:List PV}:nfz (.sl e es)=nfzL es:=rfl
theorem zj3:(true&&true)=true:=rfl
theorem qll:∀{a b:List PV},nfzL (a++b)=(nfzL a&&nfzL b)
 | [],b=>by simp [nfzL]
 |x::a,b=>by simp [nfzL,qll (a:=a),Bool.and_assoc]
theorem vom {α:Type} {f:α->PV} (h:∀x,nfz (f x)=true):∀l:List α,nfzL (l.map f)=true
 | []=>rfl
 |x::l=>by rw [Ao,qg6,h,vom h l];rfl
theorem qar (l:List Int):nfzL (l.map vak)=true:=vom (λ_=>rfl) l
theorem zez (l:List ByteArray):nfzL (l.map eStr)=true:=vom (λ_=>rfl) l
theorem qph (s:ByteArray):eStr s= .a (.string s):=rfl
attribute [go_sem] zdu qg6 zmc zjt zkt zj3 qll qar zez
attribute [go_sem] qph
abbrev ch (s:ByteArray):List UInt8:=s.data.toList
theorem vho (s:ByteArray):s.size=(ch s).length:=by show s.data.size=_;simp [ch]
theorem qkj {s:ByteArray} {i:Nat} {b:UInt8} (h:(ch s)[i]? =some b):byteAt s (i:Int)=some (.int .u8 b.toNat):=by
 have hi:i<s.data.size:=by have:=(Ad.1 h).1;simpa [ch] using this
 have hb:s[i]? =some b:=by
  have h1:s[i]? =some (s[i]'hi):=getElem?_pos s i hi;rw [h1];congr 1;have h2:s.data[i]=b:=by
   have:=h;simp only [ch,Array.getElem?_toList,Array.getElem?_eq_getElem hi,Option.some.injEq] at this;exact this
  exact h2
 unfold byteAt;rw [if_pos (Int.natCast_nonneg i),Ak,hb];rfl
theorem vmc {s:ByteArray} {i:Nat} {b:UInt8} (h:(ch s)[i]? =some b):ixT (.a (.string s)) (.a (.int .i64 (i:Nat)))=some (.a (.int .u8 b.toNat)):=by
 simp only [ixT,qkj h,Option.map_some]
section
variable {α:Type}
end
section
variable {α:Type}
variable {m:Int->α->PV} {w:α->Nat}
end
variable {Φ:Nat->Option Callee} {N:Nat}
set_option maxRecDepth 100000
set_option maxHeartbeats 8000000
def okC (b:UInt8):Bool:=decide ((b.toNat:Int)=105)||decide ((b.toNat:Int)=114)
def okType (s:ByteArray):Bool:=decide (1<=s.size/\s.size<=23)&&(ch s).all okC
def vgx (ts:List ByteArray):Bool:=decide (1<=ts.length/\ts.length<=12)&&ts.all okType
theorem vcy {n lo hi:Int}:vag Φ N vgl [.a (.int .i64 n),.a (.int .i64 lo),.a (.int .i64 hi)]=some ([.a (.bool (decide (lo<=n/\n<=hi)))],[]):=by
 rw [vab rfl];by_cases h1:lo<=n
 ·by_cases h2:n<=hi
  ·have:lo<=n/\n<=hi:=⟨h1,h2⟩
   simp -implicitDefEqProofs (disch:=try exact zd) only [go_sem,Aa,Ab,vgl,vm7]
  ·have:¬(lo<=n/\n<=hi):=λh=>h2 h.2;simp -implicitDefEqProofs (disch:=try exact zd) only [go_sem,Aa,Ab,vgl,vm7]
 ·have:¬(lo<=n/\n<=hi):=λh=>h1 h.1;simp -implicitDefEqProofs (disch:=try exact zd) only [go_sem,Aa,Ab,vgl,vm7]
attribute [go_sem] vcy
theorem vha {a b c:Int}:vag Φ N vg1 [.a (.int .i64 a),.a (.int .i64 b),.a (.int .i64 c)]=some ([.a (.bool (decide (b<=a/\a<=c)))],[]):=by
 rw [vab rfl];by_cases h1:b<=a
 ·by_cases h2:a<=c
  ·have:b<=a/\a<=c:=⟨h1,h2⟩
   simp -implicitDefEqProofs (disch:=try exact zd) only [go_sem,Aa,Ab,vg1,vlg]
  ·have:¬(b<=a/\a<=c):=λh=>h2 h.2;simp -implicitDefEqProofs (disch:=try exact zd) only [go_sem,Aa,Ab,vg1,vlg]
 ·have:¬(b<=a/\a<=c):=λh=>h1 h.1;simp -implicitDefEqProofs (disch:=try exact zd) only [go_sem,Aa,Ab,vg1,vlg]
attribute [go_sem] vha
theorem qv2 {e:Nat} {es:List PV}:vag Φ N veh [.sl true e es]=some ([.a (.int .i64 es.length)],[]):=by
 rw [vab rfl];simp -implicitDefEqProofs (disch:=try exact zd) only [go_sem,Aa,Ab,veh,vko]
attribute [go_sem] qv2
theorem qvu {e:Nat} {es:List PV}:vag Φ N vdx [.sl true e es]=some ([.a (.int .i64 es.length)],[]):=by
 rw [vab rfl];simp -implicitDefEqProofs (disch:=try exact zd) only [go_sem,Aa,Ab,vdx,vj4]
attribute [go_sem] qvu
def S44 (s:ByteArray) (i:Nat):St:=⟨[(0,.a (.string s)),(3,.a (.int .i64 i))],[],0⟩
theorem qbp {s:ByteArray} (hs:s.size<=1048576) {i:Nat} {b:UInt8} (hb:(ch s)[i]? =some b):
  round Φ N [0,3] vh4 (S44 s i)=some (if okC b=true then (.nrm,S44 s (i+1)) else (.ret,⟨[(2,.a (.bool false))],[],1500⟩)):=by
 have hi:i<s.size:=by rw [vho];exact (Ad.1 hb).1
 have hx:=vmc hb;have hw:=va0 i zo;unfold round S44 vh4 okC;by_cases c1:(b.toNat:Int)=105
 ·rw [if_pos (by simp [c1])];simp -implicitDefEqProofs (disch:=try exact zd) only [go_sem,Aa,Ab,hx,hw]
  (show some _=some _;kernel_rfl)
 ·by_cases c2:(b.toNat:Int)=114
  ·rw [if_pos (by simp [c2])];simp -implicitDefEqProofs (disch:=try exact zd) only [go_sem,Aa,Ab,hx,hw]
   (show some _=some _;kernel_rfl)
  ·rw [if_neg (by simp [c1,c2])];simp -implicitDefEqProofs (disch:=try exact zd) only [go_sem,Aa,Ab,hx,hw]
theorem qde (s:ByteArray) (hs:s.size<=1048576) (hN:s.size<N):
  vbt Φ N [0,3] vh4 (S44 s 0)=some (if (ch s).all okC=true then (.ext 0,⟨[(0,.a (.string s)),(3,.a (.int .i64 s.size)),(7,.a (.bool false))],[],400⟩) else (.ret,⟨[(2,.a (.bool false))],[],1500⟩)):=by
 refine vd2 (S44 s) _ (λi=>∀j b,j<i->(ch s)[j]? =some b->okC b=true) (m:=s.size) hN (λj b h=>zo) (by split<;>simp) (λi hi hp=> ?_);by_cases hi':i<s.size
 ·obtain ⟨b,hb⟩:∃b,(ch s)[i]? =some b:=⟨_,Ac (by rw [<-vho];exact hi')⟩
  rw [qbp hs hb];by_cases ho:okC b=true
  ·rw [if_pos ho];refine .inl ⟨hi',rfl,λj y hj hy=> ?_⟩;by_cases hji:j=i
   ·subst hji;rw [hb] at hy;cases hy;exact ho
   ·exact hp j y zo hy
  ·rw [if_neg ho,if_neg]
   ·exact .inr rfl
   ·intro hall;exact ho (Af.1 hall b (Ae hb))
 ·obtain rfl:i=s.size:=zo
  right
  rw [if_pos (Af.2 λb hb=>by
   obtain ⟨j,hj,rfl⟩:=Ah.1 hb
   exact hp j _ (by rw [vho];exact hj) (Ac hj))]
  unfold round S44 vh4;simp -implicitDefEqProofs (disch:=try exact zd) only [go_sem,Aa,Ab]
theorem qf4 {d:Nat} (s:ByteArray) (hs:s.size<=1048576):vag (T (d+1)) vad vif [.a (.string s)]=some ([.a (.bool (okType s))],[]):=by
 have key:=qde (Φ:=T (d+1)) (N:=vad) s hs (vbc zo);unfold S44 at key;rw [vab rfl];unfold okType;by_cases ha:(ch s).all okC=true
 ·rw [if_pos ha] at key;rw [ha,Bool.and_true];have:decide (1<=(s.size:Int)/\(s.size:Int)<=23)=decide (1<=s.size/\s.size<=23):=by
   congr 1;exact propext ⟨λh=>zo,λh=>zo⟩
  simp -implicitDefEqProofs (disch:=try exact zd) only [go_sem,Aa,Ab,vif,vnt,vaw key,this]
 ·rw [if_neg ha] at key;rw [show (ch s).all okC=false from by simpa using ha,Bool.and_false];simp -implicitDefEqProofs (disch:=try exact zd) only [go_sem,Aa,Ab,vif,vnt,vih key]
def S25 (ts:List ByteArray) (i:Nat):St:=⟨[(0,.sz vam (ts.map eStr)),(3,.a (.int .i64 i))],[],0⟩
theorem vu2 {d:Nat} (ts:List ByteArray) (hl:ts.length<=1048576) (hs:∀s∈ts,s.size<=1048576):
  vbt (T (d+2)) vad [0,3] vja (S25 ts 0)=some (if ts.all okType=true then (.ext 0,⟨[(0,.sz vam (ts.map eStr)),(3,.a (.int .i64 ts.length)),(11,.a (.bool false))],[],400⟩) else (.ret,⟨[(2,.a (.bool false))],[],1100⟩)):=by
 refine vd2 (S25 ts) _ (λi=>∀j b,j<i->ts[j]? =some b->okType b=true) (m:=ts.length) (vbc zo) (λj b h=>zo) (by split<;>simp) (λi hi hp=> ?_);by_cases hi':i<ts.length
 ·obtain ⟨b,hb⟩:∃b,ts[i]? =some b:=⟨_,Ac hi'⟩
  have hc:=qf4 (d:=d) b (hs b (Ae hb));have hw:=va0 i zo;unfold round S25 vja;by_cases ho:okType b=true
  ·rw [ho] at hc;refine .inl ⟨hi',?_,λj y hj hy=> ?_⟩
   ·simp -implicitDefEqProofs (disch:=try exact zd) only [go_sem,Aa,Ab,hb,hc,hw];rfl
   ·by_cases hji:j=i
    ·subst hji;rw [hb] at hy;cases hy;exact ho
    ·exact hp j y zo hy
  ·rw [show okType b=false from by simpa using ho] at hc;right;rw [if_neg (λhall=>ho (Af.1 hall b (Ae hb)))];simp -implicitDefEqProofs (disch:=try exact zd) only [go_sem,Aa,Ab,hb,hc,hw]
 ·obtain rfl:i=ts.length:=zo
  right
  rw [if_pos (Af.2 λb hb=>by
   obtain ⟨j,hj,rfl⟩:=Ah.1 hb
   exact hp j _ hj (Ac hj))]
  unfold round S25 vja;simp -implicitDefEqProofs (disch:=try exact zd) only [go_sem,Aa,Ab]
theorem qdn (ts:List ByteArray):decide (1<=(ts.length:Int)/\(ts.length:Int)<=12)=decide (1<=ts.length/\ts.length<=12):=by
 congr 1;exact propext ⟨λh=>zo,λh=>zo⟩
theorem vv5 {d:Nat} (ts:List ByteArray) (hl:ts.length<=1048576) (hs:∀s∈ts,s.size<=1048576):vag (T (d+2)) vad vgg [.sl true vam (ts.map eStr)]=some ([.a (.bool (vgx ts))],[]):=by
 have key:=vu2 (d:=d) ts hl hs;unfold S25 at key;rw [vab rfl];unfold vgx;have hd:=qdn ts;cases hb:decide (1<=ts.length/\ts.length<=12)
 ·rw [hb] at hd;simp -implicitDefEqProofs (disch:=try exact zd) only [go_sem,Aa,Ab,vgg,vk2,hd]
 ·rw [hb] at hd;by_cases ha:ts.all okType=true
  ·rw [if_pos ha] at key;rw [ha];simp -implicitDefEqProofs (disch:=try exact zd) only [go_sem,Aa,Ab,vgg,vk2,hd,vaw key]
  ·rw [if_neg ha] at key;rw [show ts.all okType=false from by simpa using ha];simp -implicitDefEqProofs (disch:=try exact zd) only [go_sem,Aa,Ab,vgg,vk2,hd,vih key]
theorem vjn {α:Type} {q:α->Bool} {l:List α} {i:Nat} {x:α} (hx:l[i]? =some x) (hq:q x=true) (hp:∀(j:Nat) (y:α),j<i->l[j]? =some y->q y=false):l.findIdx? q=some i:=by
 rw [Aj];obtain ⟨hi,rfl⟩:=Ad.1 hx;refine ⟨hi,hq,λj hj=> ?_⟩;have:=hp j _ hj (Ac (Nat.lt_trans hj hi));simp [this]
theorem vjh {α:Type} {q:α->Bool} {l:List α} (hp:∀(j:Nat) (y:α),l[j]? =some y->q y=false):l.findIdx? q=none:=by
 rw [Al];intro x hx;obtain ⟨j,hj,rfl⟩:=Ah.1 hx;exact hp j _ (Ac hj)
def idxOf {α:Type} (q:α->Bool) (l:List α):Int:=match l.findIdx? q with|some i=>i|none=> -1
theorem vuj {α:Type} (q:α->Bool) (l:List α):decide (0<=idxOf q l)=l.any q:=by
 unfold idxOf;cases h:l.findIdx? q with
 |some i=>
  obtain ⟨hi,h1,_⟩:=Aj.1 h;rw [show l.any q=true from List.any_eq_true.2 ⟨_,List.getElem_mem hi,h1⟩];simp
 |none=>
  rw [Al] at h;rw [show l.any q=false from by rw [List.any_eq_false];intro x hx;simp [h x hx]];simp
theorem qet {b:UInt8} {n:Nat} (hn:n<256):((b.toNat:Int)=(n:Int))↔b=UInt8.ofNat n:=by
 constructor
 ·intro h;apply UInt8.toNat_inj.1;rw [UInt8.toNat_ofNat',Ap hn]
  exact_mod_cast h
 ·rintro rfl
  rw [UInt8.toNat_ofNat',Ap hn]
theorem qpb (b:UInt8):okC b= [(105:UInt8),114].contains b:=by
 have h1:((b.toNat:Int)=105)↔b=105:=qet (b:=b) (n:=105) zo;have h2:((b.toNat:Int)=114)↔b=114:=qet (b:=b) (n:=114) zo;unfold okC;rw [decide_eq_decide.2 h1,decide_eq_decide.2 h2];simp only [List.contains_cons,List.contains_nil,Bool.or_false];rfl
theorem vlf {α:Type} (p:α->Bool):∀(l:List α),l.dropWhile p= []↔l.all p=true
 | []=>by simp
 |a::l=>by
  simp only [List.dropWhile,At];cases h:p a
  ·simp
  ·simpa using vlf p l
theorem qon (l:List UInt8):Lib.trimS l [105,114]= []↔l.all okC=true:=by
 have e:okC=λb=> [(105:UInt8),114].contains b:=funext qpb;rw [e];unfold Lib.trimS Lib.trimLeftS Lib.trimRightS;rw [vlf];constructor
 ·intro h;have h2:(l.reverse.dropWhile ([(105:UInt8),114].contains ·)).all ([(105:UInt8),114].contains ·)=true:=by simpa using h
  cases hd:l.reverse.dropWhile ([(105:UInt8),114].contains ·) with
  |nil=>
   have:=(vlf _ _).1 hd;simpa using this
  |cons a r=>
   have h3:=List.head?_dropWhile_not ([(105:UInt8),114].contains ·) l.reverse;rw [hd] at h3 h2;simp only [List.head?_cons,At,Aq] at h3 h2;rw [h2.1] at h3;cases h3
 ·intro h;rw [(vlf _ _).2 (by simpa using h)];rfl
theorem qf0 {d:Nat} (s:ByteArray) (hs:s.size<=1048576):vag (T (d+1)) vad vig [.a (.string s)]=some ([.a (.bool (okType s))],[]):=by
 have ht:trimGo [.a (.string s),.a (.string ⟨#[105,114]⟩)]=some ([.a (.string ⟨(Lib.trimS (ch s) [105,114]).toArray⟩)],[]):=by
  simp only [trimGo];rw [if_pos ⟨zo,by decide,by decide⟩]
 have hd:decide ((⟨(Lib.trimS (ch s) [105,114]).toArray⟩:ByteArray)=⟨#[]⟩)=(ch s).all okC:=by
  rw [Bool.eq_iff_iff,decide_eq_true_eq,<-qon];constructor
  ·intro h;have:=congrArg (λb:ByteArray=>b.data.toList) h;simpa using this
  ·intro h;rw [h]
 have hz:decide (1<=(s.size:Int)/\(s.size:Int)<=23)=decide (1<=s.size/\s.size<=23):=by
  congr 1;exact propext ⟨λh=>zo,λh=>zo⟩
 rw [vab rfl];unfold okType;cases hb:decide (1<=s.size/\s.size<=23)
 ·rw [hb] at hz;simp -implicitDefEqProofs (disch:=try exact zd) only [go_sem,Aa,Ab,vig,vnw,hz]
 ·rw [hb] at hz;rw [Ag];simp -implicitDefEqProofs (disch:=try exact zd) only [go_sem,Aa,Ab,vig,vnw,hz,ht,hd]
theorem vz3 {d:Nat} (s:ByteArray) (hs:s.size<=1048576):vag (T (d+2)) vad vh0 [.a (.string s)]=some ([.a (.bool (!okType s))],[]):=by
 have h:=qf0 (d:=d) s hs;rw [vab rfl];simp -implicitDefEqProofs (disch:=try exact zd) only [go_sem,Aa,Ab,vh0,vpu,h]
def S70 (ts:List ByteArray) (i:Nat):St:=⟨[(0,.sz vam (ts.map eStr)),(1,.fn vfb [] []),(7,.a (.int .i64 ts.length)),(8,.a (.int .i64 i))],[],0⟩
theorem vzl {d:Nat} (ts:List ByteArray) (hl:ts.length<=1048576) (hs:∀s∈ts,s.size<=1048576):
  vbt (T (d+3)) vad [0,1,7,8] vdj (S70 ts 0)=
  some (match ts.findIdx? (λs=> !okType s) with|some i=>(.ret,⟨[(4,.a (.int .i64 (i:Nat)))],[],1100⟩)|none=>(.ext 0,⟨[(0,.sz vam (ts.map eStr)),(1,.fn vfb [] []),(7,.a (.int .i64 ts.length)),(8,.a (.int .i64 ts.length)),(9,.a (.bool false))],[],100⟩)):=by
 refine vd2 (S70 ts) _ (λi=>∀j b,j<i->ts[j]? =some b->(!okType b)=false) (m:=ts.length) (vbc zo) (λj b h=>zo) (by split<;>simp) (λi hi hp=> ?_);by_cases hi':i<ts.length
 ·obtain ⟨b,hb⟩:∃b,ts[i]? =some b:=⟨_,Ac hi'⟩
  have hc:=vz3 (d:=d) b (hs b (Ae hb));have hw:=va0 i zo;unfold round S70 vdj;cases ho:okType b
  ·rw [ho] at hc;right;rw [vjn (q:=λs=> !okType s) hb (by simp [ho]) hp];simp -implicitDefEqProofs (disch:=try exact zd) only [go_sem,Aa,Ab,hb,hc,hw]
  ·rw [ho] at hc;refine .inl ⟨hi',?_,λj y hj hy=> ?_⟩
   ·simp -implicitDefEqProofs (disch:=try exact zd) only [go_sem,Aa,Ab,hb,hc,hw];rfl
   ·by_cases hji:j=i
    ·subst hji;rw [hb] at hy;cases hy;simp [ho]
    ·exact hp j y zo hy
 ·obtain rfl:i=ts.length:=zo
  right;rw [vjh λj y hy=>hp j y (by have:=(Ad.1 hy).1;omega) hy];unfold round S70 vdj;simp -implicitDefEqProofs (disch:=try exact zd) only [go_sem,Aa,Ab]
theorem qb0 {d:Nat} (ts:List ByteArray) (hl:ts.length<=1048576) (hs:∀s∈ts,s.size<=1048576):
  vag (T (d+3)) vad vcm [.sl true vam (ts.map eStr),.fn vfb [] []]=some ([.a (.int .i64 (idxOf (λs=> !okType s) ts))],[]):=by
 have key:=vzl (d:=d) ts hl hs;unfold S70 at key;rw [vab rfl];unfold idxOf;cases h:ts.findIdx? (λs=> !okType s) with
 |some i=>
  rw [h] at key;simp -implicitDefEqProofs (disch:=try exact zd) only [go_sem,Aa,Ab,vcm,vfe,vih key]
 |none=>
  rw [h] at key;simp -implicitDefEqProofs (disch:=try exact zd) only [go_sem,Aa,Ab,vcm,vfe,vaw key]
theorem vwg {d:Nat} (ts:List ByteArray) (hl:ts.length<=1048576) (hs:∀s∈ts,s.size<=1048576):
  vag (T (d+4)) vad vct [.sl true vam (ts.map eStr),.fn vfb [] []]=some ([.a (.bool (ts.any λs=> !okType s))],[]):=by
 have h:=qb0 (d:=d) ts hl hs;have hd:=vuj (λs=> !okType s) ts;generalize idxOf (λs=> !okType s) ts=n at *;rw [vab rfl];simp -implicitDefEqProofs (disch:=try exact zd) only [go_sem,Aa,Ab,vct,vgw,h,hd]
theorem vv0 {d:Nat} (ts:List ByteArray) (hl:ts.length<=1048576) (hs:∀s∈ts,s.size<=1048576):vag (T (d+5)) vad vhp [.sl true vam (ts.map eStr)]=some ([.a (.bool (vgx ts))],[]):=by
 have h:=vwg (d:=d) ts hl hs;have hall:(!ts.any λs=> !okType s)=ts.all okType:=by
  rw [Ai];simp
 have hd:=qdn ts;rw [vab rfl];unfold vgx;rw [<-hall];generalize (ts.any λs=> !okType s)=b at *;cases hb:decide (1<=ts.length/\ts.length<=12)
 ·rw [hb] at hd;simp -implicitDefEqProofs (disch:=try exact zd) only [go_sem,Aa,Ab,vhp,vmx,hd]
 ·rw [hb] at hd;rw [Ag];simp -implicitDefEqProofs (disch:=try exact zd) only [go_sem,Aa,Ab,vhp,vmx,hd,h]
structure Obj' where
 ty:Int
 vals:List Int
structure Gr where
 roots:List Int
 nodes:List Obj'
def eObj (o:Obj'):PV:= .st [vak o.ty,.sl vae (o.vals.map vak)]
theorem vkc (o:Obj'):eObj o= .st [.a (.int .i64 o.ty),.sl vae (o.vals.map vak)]:=rfl
attribute [go_sem] vkc
theorem zbn (l:List Obj'):nfzL (l.map eObj)=true:=vom (λo=>by show (true&&(nfzL (o.vals.map vak)&&true))=true;rw [qar];rfl) l
attribute [go_sem] zbn
abbrev cObj (z:Bool) (o:Obj'):CV:= .st [.a (.int .i64 o.ty),.sl z vae (o.vals.map vak)]
abbrev cGr (z:Bool) (g:Gr):CV:= .st [.sl z vae (g.roots.map vak),.sl z vai (g.nodes.map eObj)]
abbrev tGr (g:Gr):TV:= .st [.sz vae (g.roots.map vak),.sz vai (g.nodes.map eObj)]
def isN (n:Nat) (v:Int):Bool:=decide (0<=v/\v<=(n:Int))
def refAt (s:ByteArray) (k:Nat):Bool:=match (ch s)[k]? with|some b=>decide ((b.toNat:Int)=114)|none=>false
def badV (s:ByteArray) (n k:Nat) (v:Int):Bool:=refAt s k&& !isN n v
def okVals (s:ByteArray) (n:Nat):Nat->List Int->Bool
 |_,[]=>true
 |k,v::l=> !badV s n k v&&okVals s n (k+1) l
theorem vjv {s:ByteArray} {n:Nat}:∀{l:List Int} {k:Nat},okVals s n k l=true↔∀(j:Nat) v,l[j]? =some v->badV s n (k+j) v=false
 | [],k=>by simp [okVals]
 |w::l,k=>by
  rw [okVals,Aq,vjv,Bool.not_eq_true'];constructor
  ·rintro ⟨h1,h2⟩ j v hj
   cases j with
   |zero=>cases hj;exact h1
   |succ j=>rw [show k+(j+1)=k+1+j by omega];exact h2 j v (by simpa using hj)
  ·intro h;exact ⟨h 0 w rfl,λj v hj=>by have:=h (j+1) v (by simpa using hj);rwa [show k+(j+1)=k+1+j by omega] at this⟩
def objOk (ts:List ByteArray) (n:Nat) (o:Obj'):Bool:=match ts[o.ty.toNat]? with
 |some s=>decide (0<=o.ty)&&(decide (o.vals.length=s.size)&&okVals s n 0 o.vals)
 |none=>false
def graphOk (ts:List ByteArray) (g:Gr):Bool:=vgx ts&&(decide (g.roots.length<=40)&&(decide (g.nodes.length<=400)&&(g.roots.all (isN g.nodes.length)&&g.nodes.all (objOk ts g.nodes.length))))
theorem vwz {d:Nat} (g:Gr) (v:Int):vag (T (d+1)) vad vf4 [cGr true g,.a (.int .i64 v)]=some ([.a (.bool (isN g.nodes.length v))],[]):=by
 rw [vab rfl];unfold isN;simp -implicitDefEqProofs (disch:=try exact zd) only [go_sem,Aa,Ab,vf4,vmm]
def S37 (ts:List ByteArray) (g:Gr) (o:Obj') (i:Nat):St:=⟨[(0,.sz vam (ts.map eStr)),(2,.fn vey [tGr g] []),(4,.rf 0),(29,.sz vae (o.vals.map vak)),(30,.a (.int .i64 o.vals.length)),(31,.a (.int .i64 i))],[(0,some (.bx false [.a (.int .i64 o.ty),.sz vae (o.vals.map vak)]))],1⟩
theorem vz2 {d:Nat} (ts:List ByteArray) (g:Gr) (o:Obj') (hl:o.vals.length<=1048576) {s:ByteArray} {t:Nat} (ht:o.ty=(t:Int)) (hs:ts[t]? =some s) (hz:o.vals.length=s.size):
  vbt (T (d+2)) vad [0,2,4,29,30,31] viu (S37 ts g o 0)=some (if okVals s g.nodes.length 0 o.vals=true then
   (.ext 0,⟨[(0,.sz vam (ts.map eStr)),(2,.fn vey [tGr g] []),(4,.rf 0),(29,.sz vae (o.vals.map vak)),(30,.a (.int .i64 o.vals.length)),(31,.a (.int .i64 o.vals.length)),(32,.a (.bool false))],[(0,some (.bx false [.a (.int .i64 o.ty),.sz vae (o.vals.map vak)]))],101⟩)
   else (.ret,⟨[(6,.a (.bool false))],[(0,some (.bx false [.a (.int .i64 o.ty),.sz vae (o.vals.map vak)]))],2101⟩)):=by
 have htl:t<ts.length:=(Ad.1 hs).1;refine vd2 (S37 ts g o) _ (λi=>∀(j:Nat) v,j<i->o.vals[j]? =some v->badV s g.nodes.length j v=false) (m:=o.vals.length) (vbc zo) (λj b h=>zo) (by split<;>simp) (λi hi hp=> ?_);by_cases hi':i<o.vals.length
 ·obtain ⟨v,hv⟩:∃v,o.vals[i]? =some v:=⟨_,Ac hi'⟩
  obtain ⟨b,hb⟩:∃b,(ch s)[i]? =some b:=⟨_,Ac (by rw [<-vho];omega)⟩
  have hx:=vmc hb;have hc:=vwz (d:=d) g v;have hw:=va0 i zo;have hr:refAt s i=decide ((b.toNat:Int)=114):=by simp only [refAt,hb]
  have next (hbad:badV s g.nodes.length i v=false):∀(j:Nat) y,j<i+1->o.vals[j]? =some y->badV s g.nodes.length j y=false:=λj y hj hy=>by
   by_cases hji:j=i
   ·subst hji;rw [hv] at hy;cases hy;exact hbad
   ·exact hp j y zo hy
  unfold round S37 viu;rw [ht];by_cases c1:(b.toNat:Int)=114
  ·cases hn:isN g.nodes.length v
   ·right;rw [hn] at hc
    rw [if_neg (λhok=>by
     have:=(vjv.1 hok) i v hv;rw [Am,badV,hr,hn,decide_eq_true c1] at this
     cases this)]
    simp -implicitDefEqProofs (disch:=try exact zd) only [go_sem,Aa,Ab,hv,hx,hs,hc,hw]
   ·rw [hn] at hc;refine .inl ⟨hi',?_,next (by rw [badV,hn];simp)⟩;simp -implicitDefEqProofs (disch:=try exact zd) only [go_sem,Aa,Ab,hv,hx,hs,hc,hw]
    (show some _=some _;kernel_rfl)
  ·refine .inl ⟨hi',?_,next (by rw [badV,hr,decide_eq_false c1];rfl)⟩;simp -implicitDefEqProofs (disch:=try exact zd) only [go_sem,Aa,Ab,hv,hx,hs,hw]
   (show some _=some _;kernel_rfl)
 ·obtain rfl:i=o.vals.length:=zo
  right;rw [if_pos (vjv.2 λj v hj=>by rw [Am];exact hp j v (by have:=(Ad.1 hj).1;omega) hj)];unfold round S37 viu;simp -implicitDefEqProofs (disch:=try exact zd) only [go_sem,Aa,Ab]
theorem qas {d:Nat} (ts:List ByteArray) (g:Gr) (o:Obj') (htl:ts.length<=1048576) (hl:o.vals.length<=1048576) (hsz:∀s∈ts,s.size<=1048576):
  vag (T (d+2)) vad vex [.sl true vam (ts.map eStr),cObj true o,.fn vey [cGr true g] []]=some ([.a (.bool (objOk ts g.nodes.length o))],[]):=by
 have hw:IntKind.i64.wrap ((ts.length:Int)-1)=ts.length-1:=by rw [vau]<;>omega
 rw [vab rfl];obtain ⟨ty,vals⟩:=o;dsimp only at *;by_cases c1:0<=ty/\ty<=(ts.length:Int)-1
 ·obtain ⟨t,ht⟩:∃t:Nat,ty=(t:Int):=⟨ty.toNat,zo⟩
  subst ht;obtain ⟨s,hs⟩:∃s,ts[t]? =some s:=⟨_,Ac zo⟩
  have hob:objOk ts g.nodes.length ⟨(t:Int),vals⟩=(decide (vals.length=s.size)&&okVals s g.nodes.length 0 vals):=by
   unfold objOk;rw [show (⟨(t:Int),vals⟩:Obj').ty.toNat=t from Ak t,hs];simp only [show decide (0<=(t:Int))=true from decide_eq_true c1.1,Ag]
  rw [hob];have hss:=hsz s (Ae hs);by_cases hz:vals.length=s.size
  ·have key:=vz2 (d:=d) ts g ⟨(t:Int),vals⟩ hl rfl hs hz;unfold S37 at key;dsimp only at key;rw [decide_eq_true hz,Ag];cases hv:okVals s g.nodes.length 0 vals
   ·rw [if_neg (by rw [hv];simp)] at key;simp -implicitDefEqProofs (disch:=try exact zd) only [go_sem,Aa,Ab,vex,vip,hw,hs,vih key]
   ·rw [if_pos hv] at key;simp -implicitDefEqProofs (disch:=try exact zd) only [go_sem,Aa,Ab,vex,vip,hw,hs,vaw key]
  ·rw [decide_eq_false hz,Ar];have hz':¬((vals.length:Int)=(s.size:Int)):=zo
   simp -implicitDefEqProofs (disch:=try exact zd) only [go_sem,Aa,Ab,vex,vip,hw,hs]
 ·have hob:objOk ts g.nodes.length ⟨ty,vals⟩=false:=by
   unfold objOk;dsimp only;by_cases h0:0<=ty
   ·rw [An zo]
   ·rw [show decide (0<=ty)=false from decide_eq_false h0];split<;>rfl
  rw [hob];simp -implicitDefEqProofs (disch:=try exact zd) only [go_sem,Aa,Ab,vex,vip,hw]
abbrev bGr (g:Gr):List CV:= [.sl true vae (g.roots.map vak),.sl true vai (g.nodes.map eObj)]
abbrev uGr (g:Gr):List TV:= [.sz vae (g.roots.map vak),.sz vai (g.nodes.map eObj)]
theorem vzp {d:Nat} (g:Gr) (v:Int):vag (T (d+2)) vad vh1 [.a (.int .i64 v),.bx true (bGr g)]=some ([.a (.bool (!isN g.nodes.length v))],[]):=by
 have h:=vwz (d:=d) g v;rw [vab rfl];simp -implicitDefEqProofs (disch:=try exact zd) only [go_sem,Aa,Ab,vh1,vpr,h]
theorem vzs {d:Nat} (ts:List ByteArray) (g:Gr) (o:Obj') (htl:ts.length<=1048576) (hl:o.vals.length<=1048576) (hsz:∀s∈ts,s.size<=1048576):
  vag (T (d+3)) vad vhw [cObj true o,.bx true [.sl true vam (ts.map eStr)],.bx true (bGr g)]=some ([.a (.bool (!objOk ts g.nodes.length o))],[]):=by
 have h:=qas (d:=d) ts g o htl hl hsz;rw [vab rfl];simp -implicitDefEqProofs (disch:=try exact zd) only [go_sem,Aa,Ab,vhw,vpb,h]
def S51 (l:List Int) (g:Gr) (i:Nat):St:=⟨[(0,.sz vae (l.map vak)),(1,.fn ve7 [] [.rf 0]),(7,.a (.int .i64 l.length)),(8,.a (.int .i64 i))],[(0,some (.bx true (uGr g)))],1⟩
theorem vzw {d:Nat} (l:List Int) (g:Gr) (hl:l.length<=1048576):
  vbt (T (d+3)) vad [0,1,7,8] vds (S51 l g 0)=
  some (match l.findIdx? (λv=> !isN g.nodes.length v) with|some i=>(.ret,⟨[(4,.a (.int .i64 (i:Nat)))],[(0,some (.bx true (uGr g)))],1101⟩)|none=>(.ext 0,⟨[(0,.sz vae (l.map vak)),(1,.fn ve7 [] [.rf 0]),(7,.a (.int .i64 l.length)),(8,.a (.int .i64 l.length)),(9,.a (.bool false))],[(0,some (.bx true (uGr g)))],101⟩)):=by
 refine vd2 (S51 l g) _ (λi=>∀(j:Nat) b,j<i->l[j]? =some b->(!isN g.nodes.length b)=false) (m:=l.length) (vbc zo) (λj b h=>zo) (by split<;>simp) (λi hi hp=> ?_);by_cases hi':i<l.length
 ·obtain ⟨b,hb⟩:∃b,l[i]? =some b:=⟨_,Ac hi'⟩
  have hc:=vzp (d:=d) g b;have hw:=va0 i zo;unfold round S51 vds;cases ho:isN g.nodes.length b
  ·rw [ho] at hc;right;rw [vjn (q:=λv=> !isN g.nodes.length v) hb (by simp [ho]) hp];simp -implicitDefEqProofs (disch:=try exact zd) only [go_sem,Aa,Ab,hb,hc,hw]
  ·rw [ho] at hc;refine .inl ⟨hi',?_,λj y hj hy=> ?_⟩
   ·simp -implicitDefEqProofs (disch:=try exact zd) only [go_sem,Aa,Ab,hb,hc,hw];rfl
   ·by_cases hji:j=i
    ·subst hji;rw [hb] at hy;cases hy;simp [ho]
    ·exact hp j y zo hy
 ·obtain rfl:i=l.length:=zo
  right;rw [vjh λj y hy=>hp j y (by have:=(Ad.1 hy).1;omega) hy];unfold round S51 vds;simp -implicitDefEqProofs (disch:=try exact zd) only [go_sem,Aa,Ab]
theorem qcl {d:Nat} (l:List Int) (g:Gr) (hl:l.length<=1048576):
  vag (T (d+3)) vad vcx [.sl true vae (l.map vak),.fn ve7 [] [.bx true (bGr g)]]=some ([.a (.int .i64 (idxOf (λv=> !isN g.nodes.length v) l))],[]):=by
 have key:=vzw (d:=d) l g hl;unfold S51 at key;rw [vab rfl];unfold idxOf;cases h:l.findIdx? (λv=> !isN g.nodes.length v) with
 |some i=>
  rw [h] at key;simp -implicitDefEqProofs (disch:=try exact zd) only [go_sem,Aa,Ab,vcx,vfp,vih key]
 |none=>
  rw [h] at key;simp -implicitDefEqProofs (disch:=try exact zd) only [go_sem,Aa,Ab,vcx,vfp,vaw key]
theorem vxd {d:Nat} (l:List Int) (g:Gr) (hl:l.length<=1048576):
  vag (T (d+4)) vad vc1 [.sl true vae (l.map vak),.fn ve7 [] [.bx true (bGr g)]]=some ([.a (.bool (l.any λv=> !isN g.nodes.length v))],[]):=by
 have h:=qcl (d:=d) l g hl;have hd:=vuj (λv=> !isN g.nodes.length v) l;generalize idxOf (λv=> !isN g.nodes.length v) l=n at *;rw [vab rfl];simp -implicitDefEqProofs (disch:=try exact zd) only [go_sem,Aa,Ab,vc1,vhk,h,hd]
def S52 (l:List Obj') (ts:List ByteArray) (g:Gr) (i:Nat):St:=⟨[(0,.sz vai (l.map eObj)),(1,.fn vfc [] [.rf 0,.rf 1]),(7,.a (.int .i64 l.length)),(8,.a (.int .i64 i))],[(0,some (.bx true [.sz vam (ts.map eStr)])),(1,some (.bx true (uGr g)))],2⟩
theorem vzn {d:Nat} (l:List Obj') (ts:List ByteArray) (g:Gr) (hl:l.length<=1048576) (htl:ts.length<=1048576) (hv:∀o∈l,o.vals.length<=1048576) (hsz:∀s∈ts,s.size<=1048576):
  vbt (T (d+4)) vad [0,1,7,8] vc4 (S52 l ts g 0)=
  some (match l.findIdx? (λo=> !objOk ts g.nodes.length o) with|some i=>(.ret,⟨[(4,.a (.int .i64 (i:Nat)))],[(0,some (.bx true [.sz vam (ts.map eStr)])),(1,some (.bx true (uGr g)))],1102⟩)|none=>(.ext 0,⟨[(0,.sz vai (l.map eObj)),(1,.fn vfc [] [.rf 0,.rf 1]),(7,.a (.int .i64 l.length)),(8,.a (.int .i64 l.length)),(9,.a (.bool false))],[(0,some (.bx true [.sz vam (ts.map eStr)])),(1,some (.bx true (uGr g)))],102⟩)):=by
 refine vd2 (S52 l ts g) _ (λi=>∀(j:Nat) b,j<i->l[j]? =some b->(!objOk ts g.nodes.length b)=false) (m:=l.length) (vbc zo) (λj b h=>zo) (by split<;>simp) (λi hi hp=> ?_);by_cases hi':i<l.length
 ·obtain ⟨b,hb⟩:∃b,l[i]? =some b:=⟨_,Ac hi'⟩
  have hc:=vzs (d:=d) ts g b htl (hv b (Ae hb)) hsz;have hw:=va0 i zo;unfold round S52 vc4;cases ho:objOk ts g.nodes.length b
  ·rw [ho] at hc;right;rw [vjn (q:=λo=> !objOk ts g.nodes.length o) hb (by simp [ho]) hp];simp -implicitDefEqProofs (disch:=try exact zd) only [go_sem,Aa,Ab,hb,hc,hw]
  ·rw [ho] at hc;refine .inl ⟨hi',?_,λj y hj hy=> ?_⟩
   ·simp -implicitDefEqProofs (disch:=try exact zd) only [go_sem,Aa,Ab,hb,hc,hw];rfl
   ·by_cases hji:j=i
    ·subst hji;rw [hb] at hy;cases hy;simp [ho]
    ·exact hp j y zo hy
 ·obtain rfl:i=l.length:=zo
  right;rw [vjh λj y hy=>hp j y (by have:=(Ad.1 hy).1;omega) hy];unfold round S52 vc4;simp -implicitDefEqProofs (disch:=try exact zd) only [go_sem,Aa,Ab]
theorem qca {d:Nat} (l:List Obj') (ts:List ByteArray) (g:Gr) (hl:l.length<=1048576) (htl:ts.length<=1048576) (hv:∀o∈l,o.vals.length<=1048576) (hsz:∀s∈ts,s.size<=1048576):
  vag (T (d+4)) vad vb7 [.sl true vai (l.map eObj),.fn vfc [] [.bx true [.sl true vam (ts.map eStr)],.bx true (bGr g)]]=some ([.a (.int .i64 (idxOf (λo=> !objOk ts g.nodes.length o) l))],[]):=by
 have key:=vzn (d:=d) l ts g hl htl hv hsz;unfold S52 at key;rw [vab rfl];unfold idxOf;cases h:l.findIdx? (λo=> !objOk ts g.nodes.length o) with
 |some i=>
  rw [h] at key;simp -implicitDefEqProofs (disch:=try exact zd) only [go_sem,Aa,Ab,vb7,veg,vih key]
 |none=>
  rw [h] at key;simp -implicitDefEqProofs (disch:=try exact zd) only [go_sem,Aa,Ab,vb7,veg,vaw key]
theorem vw5 {d:Nat} (l:List Obj') (ts:List ByteArray) (g:Gr) (hl:l.length<=1048576) (htl:ts.length<=1048576) (hv:∀o∈l,o.vals.length<=1048576) (hsz:∀s∈ts,s.size<=1048576):
  vag (T (d+5)) vad vcf [.sl true vai (l.map eObj),.fn vfc [] [.bx true [.sl true vam (ts.map eStr)],.bx true (bGr g)]]=some ([.a (.bool (l.any λo=> !objOk ts g.nodes.length o))],[]):=by
 have h:=qca (d:=d) l ts g hl htl hv hsz;have hd:=vuj (λo=> !objOk ts g.nodes.length o) l;generalize idxOf (λo=> !objOk ts g.nodes.length o) l=n at *;rw [vab rfl];simp -implicitDefEqProofs (disch:=try exact zd) only [go_sem,Aa,Ab,vcf,vfz,h,hd]
structure Small (ts:List ByteArray) (g:Gr):Prop where
 tl:ts.length<=1048576
 sz:∀s∈ts,s.size<=1048576
 roots:g.roots.length<=1048576
 nodes:g.nodes.length<=1048576
 vals:∀o∈g.nodes,o.vals.length<=1048576
theorem vor {d:Nat} {ts:List ByteArray} {g:Gr} (h:Small ts g):vag (T (d+6)) vad vei [.sl true vam (ts.map eStr),cGr true g]=some ([.a (.bool (graphOk ts g))],[]):=by
 have h1:=vv0 (d:=d) ts h.tl h.sz;have h2:=vxd (d:=d+1) g.roots g h.roots;have h3:=vw5 (d:=d) g.nodes ts g h.nodes h.tl h.vals h.sz;have a1:(!g.roots.any λv=> !isN g.nodes.length v)=g.roots.all (isN g.nodes.length):=by rw [Ai];simp
 have a2:(!g.nodes.any λo=> !objOk ts g.nodes.length o)=g.nodes.all (objOk ts g.nodes.length):=by rw [Ai];simp
 rw [vab rfl];unfold graphOk;rw [<-a1,<-a2];generalize (g.roots.any λv=> !isN g.nodes.length v)=b1 at *;generalize (g.nodes.any λo=> !objOk ts g.nodes.length o)=b2 at *;clear a1 a2;cases ht:vgx ts
 ·rw [ht] at h1;simp -implicitDefEqProofs (disch:=try exact zd) only [go_sem,Aa,Ab,vei,vhl,h1]
 ·rw [ht] at h1;have hr:=h.roots;have hn:=h.nodes;by_cases c1:g.roots.length<=40
  ·rw [decide_eq_true c1];by_cases c2:g.nodes.length<=400
   ·rw [decide_eq_true c2];cases b1
    ·simp -implicitDefEqProofs (disch:=try exact zd) only [go_sem,Aa,Ab,vei,vhl,h1,h2,h3]
    ·simp -implicitDefEqProofs (disch:=try exact zd) only [go_sem,Aa,Ab,vei,vhl,h1,h2,h3]
   ·rw [decide_eq_false c2];simp -implicitDefEqProofs (disch:=try exact zd) only [go_sem,Aa,Ab,vei,vhl,h1]
  ·rw [decide_eq_false c1];simp -implicitDefEqProofs (disch:=try exact zd) only [go_sem,Aa,Ab,vei,vhl,h1]
theorem qld {live:List Nat} {b:VC} (S:Nat->St) (E:Out->St->Prop) (P:Nat->Prop) {m:Nat} (hN:m<N) (h0:P 0)
  (step:∀i,i<=m->P i->(i<m/\round Φ N live b (S i)=some (.nrm,S (i+1))/\P (i+1))\/∃o e,o≠ .nrm/\round Φ N live b (S i)=some (o,e)/\E o e):∃o e,E o e/\vbt Φ N live b (S 0)=some (o,e):=by
 obtain ⟨o,e,h1,_,h2⟩:=vsk (Φ:=Φ) (N:=N) (live:=live) (b:=b) (r:= []) (λj s=>∃i,i+j=m/\P i/\s=S i) E hN (s:=S 0) ⟨0,zo,h0,rfl⟩ (by
  rintro j s hj ⟨i,hi,hp,rfl⟩
  rcases step i zo hp with ⟨h1,h2,h3⟩|⟨o,e,h1,h2,h3⟩
  ·exact .inl ⟨j-1,_,zo,h2,i+1,zo,h3,rfl⟩
  ·exact .inr ⟨o,e,h1,h2,h3⟩)
 exact ⟨o,e,h1,h2⟩
def S60 (ts:List ByteArray) (g:Gr) (i:Nat):St:=⟨[(0,.sz vam (ts.map eStr)),(3,.rf 0),(5,.a (.int .i64 g.nodes.length)),(6,.a (.int .i64 i))],[(0,some (.bx false (uGr g)))],1⟩
theorem qez {d:Nat} (ts:List ByteArray) (g:Gr) (hr:g.roots.length<=1048576):
  vbt (T (d+1)) vad [0,3,5,6] vi1 (S60 ts g 0)=some (if g.roots.all (isN g.nodes.length)=true then (.ext 0,⟨[(0,.sz vam (ts.map eStr)),(3,.rf 0),(5,.a (.int .i64 g.nodes.length)),(6,.a (.int .i64 g.roots.length)),(32,.a (.bool false))],[(0,some (.bx false (uGr g)))],501⟩) else (.ret,⟨[(4,.a (.bool false))],[(0,some (.bx false (uGr g)))],1401⟩)):=by
 refine vd2 (S60 ts g) _ (λi=>∀(j:Nat) b,j<i->g.roots[j]? =some b->isN g.nodes.length b=true) (m:=g.roots.length) (vbc zo) (λj b h=>zo) (by split<;>simp) (λi hi hp=> ?_);by_cases hi':i<g.roots.length
 ·obtain ⟨b,hb⟩:∃b,g.roots[i]? =some b:=⟨_,Ac hi'⟩
  have hc:=vcy (Φ:=T d) (N:=vad) (n:=b) (lo:=0) (hi:=g.nodes.length);have hw:=va0 i zo;unfold round S60 vi1;cases ho:isN g.nodes.length b
  ·rw [show decide (0<=b/\b<=(g.nodes.length:Int))=false from ho] at hc;right;rw [if_neg (λhall=>by have:=Af.1 hall b (Ae hb);rw [ho] at this;cases this)];simp -implicitDefEqProofs (disch:=try exact zd) only [go_sem,Aa,Ab,hb,hc,hw]
  ·rw [show decide (0<=b/\b<=(g.nodes.length:Int))=true from ho] at hc;refine .inl ⟨hi',?_,λj y hj hy=> ?_⟩
   ·simp -implicitDefEqProofs (disch:=try exact zd) only [go_sem,Aa,Ab,hb,hc,hw];rfl
   ·by_cases hji:j=i
    ·subst hji;rw [hb] at hy;cases hy;exact ho
    ·exact hp j y zo hy
 ·obtain rfl:i=g.roots.length:=zo
  right
  rw [if_pos (Af.2 λb hb=>by
   obtain ⟨j,hj,rfl⟩:=Ah.1 hb
   exact hp j _ hj (Ac hj))]
  unfold round S60 vi1;simp -implicitDefEqProofs (disch:=try exact zd) only [go_sem,Aa,Ab]
def S62 (ts:List ByteArray) (g:Gr) (q:Nat) (t:Nat) (vals:List Int) (k:Nat):St:=⟨[(0,.sz vam (ts.map eStr)),(3,.rf 0),(5,.a (.int .i64 g.nodes.length)),(7,.a (.int .i64 q)),(8,.rf 1),(9,.a (.int .i64 k))],[(0,some (.bx false (uGr g))),(1,some (.bx false [.a (.int .i64 t),.sz vae (vals.map vak)]))],2⟩
theorem qe7 {d:Nat} (ts:List ByteArray) (g:Gr) (q:Nat) {t:Nat} {vals:List Int} (hl:vals.length<=1048576) {s:ByteArray} (hs:ts[t]? =some s) (hz:vals.length=s.size):
  vbt (T (d+1)) vad [0,3,5,7,8,9] vi7 (S62 ts g q t vals 0)=some (if okVals s g.nodes.length 0 vals=true then
   (.ext 4,⟨[(0,.sz vam (ts.map eStr)),(3,.rf 0),(5,.a (.int .i64 g.nodes.length)),(7,.a (.int .i64 q)),(8,.rf 1),(9,.a (.int .i64 vals.length)),(78,.a (.bool false))],[(0,some (.bx false (uGr g))),(1,some (.bx false [.a (.int .i64 t),.sz vae (vals.map vak)]))],502⟩)
   else (.ret,⟨[(4,.a (.bool false))],[(0,some (.bx false (uGr g))),(1,some (.bx false [.a (.int .i64 t),.sz vae (vals.map vak)]))],2402⟩)):=by
 have htl:t<ts.length:=(Ad.1 hs).1;refine vd2 (S62 ts g q t vals) _ (λi=>∀(j:Nat) v,j<i->vals[j]? =some v->badV s g.nodes.length j v=false) (m:=vals.length) (vbc zo) (λj b h=>zo) (by split<;>simp) (λi hi hp=> ?_);by_cases hi':i<vals.length
 ·obtain ⟨v,hv⟩:∃v,vals[i]? =some v:=⟨_,Ac hi'⟩
  obtain ⟨b,hb⟩:∃b,(ch s)[i]? =some b:=⟨_,Ac (by rw [<-vho];omega)⟩
  have hx:=vmc hb;have hc:=vcy (Φ:=T d) (N:=vad) (n:=v) (lo:=0) (hi:=g.nodes.length);have hw:=va0 i zo;have hr:refAt s i=decide ((b.toNat:Int)=114):=by simp only [refAt,hb]
  have next (hbad:badV s g.nodes.length i v=false):∀(j:Nat) y,j<i+1->vals[j]? =some y->badV s g.nodes.length j y=false:=λj y hj hy=>by
   by_cases hji:j=i
   ·subst hji;rw [hv] at hy;cases hy;exact hbad
   ·exact hp j y zo hy
  unfold round S62 vi7;by_cases c1:(b.toNat:Int)=114
  ·cases hn:isN g.nodes.length v
   ·right;rw [show decide (0<=v/\v<=(g.nodes.length:Int))=false from hn] at hc
    rw [if_neg (λhok=>by
     have:=(vjv.1 hok) i v hv;rw [Am,badV,hr,hn,decide_eq_true c1] at this
     cases this)]
    simp -implicitDefEqProofs (disch:=try exact zd) only [go_sem,Aa,Ab,hv,hx,hs,hc,hw]
   ·rw [show decide (0<=v/\v<=(g.nodes.length:Int))=true from hn] at hc;refine .inl ⟨hi',?_,next (by rw [badV,hn];simp)⟩;simp -implicitDefEqProofs (disch:=try exact zd) only [go_sem,Aa,Ab,hv,hx,hs,hc,hw]
    (show some _=some _;kernel_rfl)
  ·refine .inl ⟨hi',?_,next (by rw [badV,hr,decide_eq_false c1];rfl)⟩;simp -implicitDefEqProofs (disch:=try exact zd) only [go_sem,Aa,Ab,hv,hx,hs,hw]
   (show some _=some _;kernel_rfl)
 ·obtain rfl:i=vals.length:=zo
  right;rw [if_pos (vjv.2 λj v hj=>by rw [Am];exact hp j v (by have:=(Ad.1 hj).1;omega) hj)];unfold round S62 vi7;simp -implicitDefEqProofs (disch:=try exact zd) only [go_sem,Aa,Ab]
def S61 (ts:List ByteArray) (g:Gr) (i:Nat):St:=⟨[(0,.sz vam (ts.map eStr)),(3,.rf 0),(5,.a (.int .i64 g.nodes.length)),(7,.a (.int .i64 i))],[(0,some (.bx false (uGr g)))],1⟩
def isRetF (o:Out) (e:St):Prop:=o= .ret/\∃nd nx,e=⟨[(4,.a (.bool false))],nd,nx⟩
theorem qfz {d:Nat} {ts:List ByteArray} {g:Gr} (h:Small ts g):
  ∃o e,(if g.nodes.all (objOk ts g.nodes.length)=true then o= .ext 2/\∃nd nx sl,e=⟨sl,nd,nx⟩ else isRetF o e)/\vbt (T (d+1)) vad [0,3,5,7] vcz (S61 ts g 0)=some (o,e):=by
 have hn:=h.nodes;have htl:=h.tl;have hww:IntKind.i64.wrap ((ts.length:Int)-1)=ts.length-1:=by rw [vau]<;>omega
 refine qld (S61 ts g) _ (λi=>∀(j:Nat) b,j<i->g.nodes[j]? =some b->objOk ts g.nodes.length b=true) (m:=g.nodes.length) (vbc zo) (λj b h=>zo) (λi hi hp=> ?_);by_cases hi':i<g.nodes.length
 ·obtain ⟨o,hb⟩:∃b,g.nodes[i]? =some b:=⟨_,Ac hi'⟩
  have hvl:=h.vals o (Ae hb);have bad (hf:objOk ts g.nodes.length o=false) {o' e':_} (he:isRetF o' e'):(if g.nodes.all (objOk ts g.nodes.length)=true then o'= .ext 2/\∃nd nx sl,e'=⟨sl,nd,nx⟩ else isRetF o' e'):=by
   rw [if_neg (λhall=>by have:=Af.1 hall o (Ae hb);rw [hf] at this;cases this)];exact he
  have next (hbad:objOk ts g.nodes.length o=true):∀(j:Nat) y,j<i+1->g.nodes[j]? =some y->objOk ts g.nodes.length y=true:=λj y hj hy=>by
   by_cases hji:j=i
   ·subst hji;rw [hb] at hy;cases hy;exact hbad
   ·exact hp j y zo hy
  have hw:=va0 i zo;obtain ⟨ty,vals⟩:=o;dsimp only at *;have hc:=vcy (Φ:=T d) (N:=vad) (n:=ty) (lo:=0) (hi:=(ts.length:Int)-1);by_cases c1:0<=ty/\ty<=(ts.length:Int)-1
  ·rw [decide_eq_true c1] at hc;obtain ⟨t,rfl⟩:∃t:Nat,ty=(t:Int):=⟨ty.toNat,zo⟩
   obtain ⟨s,hs⟩:∃s,ts[t]? =some s:=⟨_,Ac zo⟩
   have hss:=h.sz s (Ae hs);have hob:objOk ts g.nodes.length ⟨(t:Int),vals⟩=(decide (vals.length=s.size)&&okVals s g.nodes.length 0 vals):=by
    unfold objOk;rw [show (⟨(t:Int),vals⟩:Obj').ty.toNat=t from Ak t,hs];simp only [show decide (0<=(t:Int))=true from decide_eq_true c1.1,Ag]
   by_cases hz:vals.length=s.size
   ·have key:=qe7 (d:=d) ts g i hvl hs hz;unfold S62 at key;rw [decide_eq_true hz,Ag] at hob;cases hv:okVals s g.nodes.length 0 vals
    ·rw [hv] at hob;rw [if_neg (by rw [hv];simp)] at key;have hrd:∃nd nx,round (T (d+1)) vad [0,3,5,7] vcz (S61 ts g i)=some (.ret,⟨[(4,.a (.bool false))],nd,nx⟩):=by
      unfold round S61 vcz
      exact ⟨_,_,by
       simp -implicitDefEqProofs (disch:=try exact zd) only [go_sem,Aa,Ab,hb,hc,hw,hww,hs,vih key]
       rfl⟩
     obtain ⟨nd,nx,hrd⟩:=hrd;exact .inr ⟨_,_,by simp,hrd,bad hob ⟨rfl,nd,nx,rfl⟩⟩
    ·rw [hv] at hob;rw [if_pos hv] at key;refine .inl ⟨hi',?_,next hob⟩;unfold round S61 vcz;simp -implicitDefEqProofs (disch:=try exact zd) only [go_sem,Aa,Ab,hb,hc,hw,hww,hs,vaw key]
     (show some _=some _;kernel_rfl)
   ·rw [decide_eq_false hz,Ar] at hob;have hz':¬((vals.length:Int)=(s.size:Int)):=zo
    have hrd:∃nd nx,round (T (d+1)) vad [0,3,5,7] vcz (S61 ts g i)=some (.ret,⟨[(4,.a (.bool false))],nd,nx⟩):=by
     unfold round S61 vcz
     exact ⟨_,_,by
      simp -implicitDefEqProofs (disch:=try exact zd) only [go_sem,Aa,Ab,hb,hc,hw,hww,hs]
      rfl⟩
    obtain ⟨nd,nx,hrd⟩:=hrd;exact .inr ⟨_,_,by simp,hrd,bad hob ⟨rfl,nd,nx,rfl⟩⟩
  ·rw [decide_eq_false c1] at hc;have hob:objOk ts g.nodes.length ⟨ty,vals⟩=false:=by
    unfold objOk;dsimp only;by_cases h0:0<=ty
    ·rw [An zo]
    ·rw [show decide (0<=ty)=false from decide_eq_false h0];split<;>rfl
   have hrd:∃nd nx,round (T (d+1)) vad [0,3,5,7] vcz (S61 ts g i)=some (.ret,⟨[(4,.a (.bool false))],nd,nx⟩):=by
    unfold round S61 vcz
    exact ⟨_,_,by
     simp -implicitDefEqProofs (disch:=try exact zd) only [go_sem,Aa,Ab,hb,hc,hw,hww]
     rfl⟩
   obtain ⟨nd,nx,hrd⟩:=hrd;exact .inr ⟨_,_,by simp,hrd,bad hob ⟨rfl,nd,nx,rfl⟩⟩
 ·obtain rfl:i=g.nodes.length:=zo
  right;have hall:g.nodes.all (objOk ts g.nodes.length)=true:=Af.2 λb hb=>by
   obtain ⟨j,hj,rfl⟩:=Ah.1 hb;exact hp j _ hj (Ac hj)
  have hrd:∃nd nx sl,round (T (d+1)) vad [0,3,5,7] vcz (S61 ts g g.nodes.length)=some (.ext 2,⟨sl,nd,nx⟩):=by
   unfold round S61 vcz
   exact ⟨_,_,_,by
    simp -implicitDefEqProofs (disch:=try exact zd) only [go_sem,Aa,Ab]
    rfl⟩
  obtain ⟨nd,nx,sl,hrd⟩:=hrd;exact ⟨_,_,by simp,hrd,by rw [if_pos hall];exact ⟨rfl,nd,nx,sl,rfl⟩⟩
theorem vv3 {d:Nat} {ts:List ByteArray} {g:Gr} (h:Small ts g):vag (T (d+3)) vad vd1 [.sl true vam (ts.map eStr),cGr true g]=some ([.a (.bool (graphOk ts g))],[]):=by
 have h1:=vv5 (d:=d) ts h.tl h.sz;have h2:=qez (d:=d+2) ts g h.roots;obtain ⟨o,e,h4,h3⟩:=qfz (d:=d+2) h;unfold S60 at h2;unfold S61 at h3;rw [vab rfl];unfold graphOk;have hr:=h.roots;have hn:=h.nodes;cases ht:vgx ts
 ·rw [ht] at h1;simp -implicitDefEqProofs (disch:=try exact zd) only [go_sem,Aa,Ab,vd1,vf8,h1]
 ·rw [ht] at h1;by_cases c1:g.roots.length<=40
  ·rw [decide_eq_true c1];by_cases c2:g.nodes.length<=400
   ·rw [decide_eq_true c2];cases c3:g.roots.all (isN g.nodes.length)
    ·rw [if_neg (by rw [c3];simp)] at h2;simp -implicitDefEqProofs (disch:=try exact zd) only [go_sem,Aa,Ab,vd1,vf8,h1,vih h2]
    ·rw [if_pos c3] at h2;cases c4:g.nodes.all (objOk ts g.nodes.length)
     ·rw [if_neg (by rw [c4];simp)] at h4;obtain ⟨rfl,nd,nx,rfl⟩:=h4;simp -implicitDefEqProofs (disch:=try exact zd) only [go_sem,Aa,Ab,vd1,vf8,h1,vaw h2,vih h3]
     ·rw [if_pos c4] at h4;obtain ⟨rfl,nd,nx,sl,rfl⟩:=h4;simp -implicitDefEqProofs (disch:=try exact zd) only [go_sem,Aa,Ab,vd1,vf8,h1,vaw h2,vaw h3]
   ·rw [decide_eq_false c2];simp -implicitDefEqProofs (disch:=try exact zd) only [go_sem,Aa,Ab,vd1,vf8,h1]
  ·rw [decide_eq_false c1];simp -implicitDefEqProofs (disch:=try exact zd) only [go_sem,Aa,Ab,vd1,vf8,h1]
variable {keeps:Bool} {s:St} {ms:List Md} {xs:List TV} {x:TV} {ys:List CV} {y:CV} {rs fs:List CV} {t e:Nat} {es:List PV}
theorem qx9:M.run (show_ keeps (.ro 1009::ms) (x::xs) (y::ys)) s=M.run ((frz1 keeps 1009 x).bind λy=>(show_ keeps ms xs ys).bind λys=> .pure (y::ys)) s:=rfl
theorem qwx:M.run (show_ keeps (.ro 1005::ms) (x::xs) (y::ys)) s=M.run ((frz1 keeps 1005 x).bind λy=>(show_ keeps ms xs ys).bind λys=> .pure (y::ys)) s:=rfl
attribute [go_sem ↓] qx9 qwx
def frzO (y:CV):Bool->M CV
 |true=> .pure y
 |false=> .fail
theorem zlt:M.run (frzO y true) s=M.run (.pure y) s:=rfl
theorem qdq (t:Nat) (y:CV):(if okShow t y=true then M.pure y else M.fail)=frzO y (okShow t y):=by cases okShow t y<;>rfl
theorem zcx:M.run (frz1 keeps 1009 x) s=M.run ((vba false 40 0 x).bind λy=>frzO y (okShow vam y)) s:=by
 unfold frz1;rw [if_pos (by decide)];simp only [qdq];rfl
theorem zfe:M.run (frz1 keeps 1005 x) s=M.run ((vba false 40 0 x).bind λy=>frzO y (okShow vdg y)) s:=by
 unfold frz1;rw [if_pos (by decide)];simp only [qdq];rfl
attribute [go_sem ↓] zlt zcx zfe
theorem zl4:onlyOf (.ro 1009::ms)=some vam:=rfl
theorem zm9:onlyOf (.ro 1005::ms)=some vdg:=rfl
attribute [go_sem] zl4 zm9
def ckB (rs fs:List CV):Bool->M (List CV×List CV)
 |true=> .pure (rs,fs)
 |false=> .fail
theorem zl5:M.run (ckB rs fs true) s=M.run (.pure (rs,fs)) s:=rfl
theorem zmu:M.run (ckO (some t) ms rs fs) s=M.run (ckB rs fs (msOk t ms&&onlyCL t (rs++fs))) s:=by
 show M.run (if (msOk t ms&&onlyCL t (rs++fs))=true then .pure (rs,fs) else .fail) s=_;cases msOk t ms&&onlyCL t (rs++fs)<;>rfl
attribute [go_sem ↓] zl5 zmu
theorem zk3:msOk vam [.mut 9,.ro 1009,.ro 0]=true:=rfl
theorem zkb:msOk vdg [.mut 2,.ro 1005,.ro 1005,.ro 0]=true:=rfl
theorem zm5 {v:Value}:okShow t (.a v)=true:=rfl
theorem zkv {cs:List CV}:okShow t (.st cs)=okShowL t cs:=by simp only [okShow]
theorem zkd:okShow t (.sl true e es)=(e !=t&&tyNL t es):=by simp only [okShow,Ag]
theorem zfn:okShowL t []=true:=rfl
theorem zfd:okShowL t (y::ys)=(okShow t y&&okShowL t ys):=by simp only [okShowL]
theorem zmt {v:Value}:onlyC t (.a v)=true:=rfl
theorem zlu:onlyC t .un=true:=rfl
theorem zkk {cs:List CV}:onlyC t (.st cs)=onlyCL t cs:=by simp only [onlyC]
theorem zlp {cs:List CV}:onlyC t (.bx false cs)=onlyCL t cs:=by simp only [onlyC,Bool.not_false,Ag]
theorem zm7:onlyC t (.sl true e es)=(e==t&&atmL es):=by simp only [onlyC,if_true]
theorem zmv:onlyC t (.sl false e es)=nfzL es:=by simp only [onlyC,Bool.false_eq_true,if_false]
theorem zgs:onlyCL t []=true:=rfl
theorem zbu:onlyCL t (y::ys)=(onlyC t y&&onlyCL t ys):=by simp only [onlyCL]
theorem zfv:tyNL t []=true:=rfl
theorem zfz:atmL []=true:=rfl
theorem vu0 {α:Type} {f:α->PV} (h:∀a,tyN t (f a)=true):∀l:List α,tyNL t (l.map f)=true
 | []=>rfl
 |a::l=>by simp only [Ao,tyNL,h a,vu0 h l,Au]
theorem vxo {α:Type} {f:α->PV} (h:∀a,atm (f a)=true):∀l:List α,atmL (l.map f)=true
 | []=>rfl
 |a::l=>by simp only [Ao,atmL,h a,vxo h l,Au]
theorem qnn (l:List Int):tyNL t (l.map vak)=true:=vu0 (λ_=>rfl) l
theorem zdq (l:List ByteArray):tyNL t (l.map eStr)=true:=vu0 (λ_=>rfl) l
theorem zeu (l:List Obj'):tyNL vdg (l.map eObj)=true:=vu0 (λo=>by show (true&&((vae !=vdg&&tyNL vdg (o.vals.map vak))&&true))=true;rw [qnn];rfl) l
theorem zck (l:List ByteArray):atmL (l.map eStr)=true:=vxo (λ_=>rfl) l
theorem zmw:(vae !=vam)=true:=rfl
theorem zmn:(vae !=vdg)=true:=rfl
theorem zl8:(vam !=vdg)=true:=rfl
theorem zm3:(vai !=vdg)=true:=rfl
theorem zlf:(vam==vam)=true:=rfl
theorem zkc:(vdg==vdg)=true:=rfl
attribute [go_sem] zk3 zkb zm5 zkv zkd zfn zfd zmt zlu zkk zlp zm7 zmv zgs zbu zfv zfz qnn zdq zeu zck zmw zmn zl8 zm3 zlf zkc

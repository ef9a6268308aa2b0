/- Numbers, texts and bytes as data of the interpreter. Types of objects: what the program and the reference take for one. Types of objects: the program's side. Graphs that are right: the program's test. Graphs that are right: the reference's test. -/
import Derived.Test.YtlhpnpknjggcpaaGreatDoorVmSlc
import Derived.Test.YtlhpnpknjggcpaaGreatDoorVmLst
import Derived.Test.YtlhpnpknjggcpaaGreatDoorVmSt
import Derived.Test.YtlhpnpknjggcpaaGreatDoorCode
open Nat renaming reduceAdd->Aa,reduceBEq->Ab,zero_add->Am,mod_eq_of_lt->Ar,sub_self->Aw
open List renaming getElem?_eq_getElem->Ac,getElem?_eq_some_iff->Ad,mem_of_getElem?->Ae,all_eq_true->Af,mem_iff_getElem->Ag,not_any_eq_all_not->Ai,findIdx?_eq_some_iff_getElem->Aj,findIdx?_eq_none_iff->Al,getElem?_cons_succ->An,getElem?_eq_none->Ao,take_add_one->Ap,length_take->Aq,all_cons->Av
open Bool renaming true_and->Ah,and_eq_true->At,false_and->Au
open Int renaming toNat_natCast->Ak
namespace Go.Proofs.YtlhpnpknjggcpaaGreatDoor.VM
open Go Sy
def vak (x:Int):PV:= .a (.int .i64 x)
theorem qce (x:Int):vak x= .a (.int .i64 x):=rfl
attribute [go_sem] qce
def eStr (s:ByteArray):PV:= .a (.string s)
theorem zii:nfzL []=true:=rfl
theorem qol {c:PV} {cs:List PV}:nfzL (c::cs)=(nfz c&&nfzL cs):=rfl
theorem zr8 {v:Value}:nfz (.a v)=true:=rfl
theorem zre {cs:List PV}:nfz (.st cs)=nfzL cs:=rfl
theorem zp3 {e:Nat} {es:List PV}:nfz (.sl e es)=nfzL es:=rfl
theorem zo9:(true&&true)=true:=rfl
theorem qtk:∀{a b:List PV},nfzL (a++b)=(nfzL a&&nfzL b)
 | [],b=>by simp [nfzL]
 |x::a,b=>by simp [nfzL,qtk (a:=a),Bool.and_assoc]
theorem vxq {α:Type} {f:α→PV} (h:∀x,nfz (f x)=true):∀l:List α,nfzL (l.map f)=true
 | []=>rfl
 |x::l=>by rw [List.map_cons,qol,h,vxq h l];rfl
theorem quy (l:List Int):nfzL (l.map vak)=true:=vxq (fun _=>rfl) l
theorem zkn (l:List ByteArray):nfzL (l.map eStr)=true:=vxq (fun _=>rfl) l
theorem qkb (s:ByteArray):eStr s= .a (.string s):=rfl
attribute [go_sem] zii qol zr8 zre zp3 zo9 qtk quy zkn
attribute [go_sem] qkb
abbrev ch (s:ByteArray):List UInt8:=s.data.toList
theorem vjv (s:ByteArray):s.size=(ch s).length:=by show s.data.size=_;simp [ch]
theorem qnr {s:ByteArray} {i:Nat} {b:UInt8} (h:(ch s)[i]? =some b):byteAt s (i:Int)=some (.int .u8 b.toNat):=by
 have hi:i<s.data.size:=by have:=(Ad.1 h).1;simpa [ch] using this
 have hb:s[i]? =some b:=by
  have h1:s[i]? =some (s[i]'hi):=getElem?_pos s i hi;rw [h1];congr 1;have h2:s.data[i]=b:=by
   have:=h;simp only [ch,Array.getElem?_toList,Array.getElem?_eq_getElem hi,Option.some.injEq] at this;exact this
  exact h2
 unfold byteAt;rw [if_pos (Int.natCast_nonneg i),Ak,hb];rfl
theorem vp3 {s:ByteArray} {i:Nat} {b:UInt8} (h:(ch s)[i]? =some b):ixT (.a (.string s)) (.a (.int .i64 (i:Nat)))=some (.a (.int .u8 b.toNat)):=by
 simp only [ixT,qnr h,Option.map_some]
section
variable {α:Type}
def mix (M l:List α) (i:Nat):List α:=M.take i++l.drop i
theorem qhd {M l:List α}:mix M l 0=l:=by simp [mix]
theorem qkg {M l:List α} {n:Nat} (h:M.length=l.length) (hn:n=l.length):mix M l n=M:=by subst hn;simp [mix,←h]
theorem qbf {M l:List α} {i:Nat} (h:M.length=l.length):(mix M l i).length=l.length:=by simp [mix];omega
theorem qli {M l:List α} {i:Nat} {x:α} (h:M.length=l.length) (hx:l[i]? =some x):(mix M l i)[i]? =some x:=by
 have hi:=(Ad.1 hx).1;have:(M.take i).length=i:=by rw [Aq];omega
 rw [mix,List.getElem?_append_right zo,this,Aw,List.getElem?_drop];simpa using hx
theorem qk1 {M l:List α} {i:Nat} {y:α} (h:M.length=l.length) (hy:M[i]? =some y):(mix M l i).set i y=mix M l (i+1):=by
 have hi:=(Ad.1 hy).1;have h1:(M.take i).length=i:=by rw [Aq];omega
 unfold mix;rw [List.set_append_right _ _ zo,h1,Aw,Ap,hy,List.append_assoc];congr 1;rw [List.drop_eq_getElem_cons zo];rfl
end
section
variable {α:Type}
def marksOf (m:Int→α→PV) (w:α→Nat):Int→List α→List PV
 |_,[]=> []
 |k,x::l=>m k x::marksOf m w (k+w x) l
def wsum (w:α→Nat):List α→Nat
 | []=>0
 |x::l=>w x+wsum w l
variable {m:Int→α→PV} {w:α→Nat}
theorem vyr (l l':List α):wsum w (l++l')=wsum w l+wsum w l':=by
 induction l with
 |nil=>simp [wsum]
 |cons x l ih=>simp [wsum,ih];omega
theorem vs1 {l:List α} {i:Nat} {x:α} (h:l[i]? =some x):wsum w (l.take (i+1))=wsum w (l.take i)+w x:=by
 rw [Ap,h,vyr];simp [wsum]
theorem qcl {l:List α} {i:Nat} {x:α} (h:l[i]? =some x):wsum w (l.take i)+w x≤wsum w l:=by
 rw [←vs1 h]
 conv=>rhs;rw [←List.take_append_drop (i+1) l]
 rw [vyr];omega
theorem vo8 {k:Int} {l:List α}:(marksOf m w k l).length=l.length:=by
 induction l generalizing k with
 |nil=>rfl
 |cons x l ih=>simp [marksOf,ih]
theorem vte {k:Int} {l:List α} {i:Nat} {x:α} (h:l[i]? =some x):(marksOf m w k l)[i]? =some (m (k+wsum w (l.take i)) x):=by
 induction l generalizing k i with
 |nil=>cases h
 |cons y l ih=>
  cases i with
  |zero=>cases h;simp [marksOf,wsum]
  |succ i=>
   rw [An] at h;simp only [marksOf,An,ih h,List.take_succ_cons,wsum];congr 2;omega
end
end Go.Proofs.YtlhpnpknjggcpaaGreatDoor.VM
namespace Go.Proofs.YtlhpnpknjggcpaaGreatDoor.VM
open Go Sy
variable {Φ:Nat→Option Callee} {N:Nat}
set_option maxRecDepth 100000
set_option maxHeartbeats 8000000
def okC (b:UInt8):Bool:=decide ((b.toNat:Int)=105)||decide ((b.toNat:Int)=114)
def okType (s:ByteArray):Bool:=decide (1≤s.size∧s.size≤23)&&(ch s).all okC
def vku (ts:List ByteArray):Bool:=decide (1≤ts.length∧ts.length≤12)&&ts.all okType
theorem vcq {n lo hi:Int}:vaf Φ N vfn [.a (.int .i64 n),.a (.int .i64 lo),.a (.int .i64 hi)]=some ([.a (.bool (decide (lo≤n∧n≤hi)))],[]):=by
 rw [vab rfl];by_cases h1:lo≤n
 ·by_cases h2:n≤hi
  ·have:lo≤n∧n≤hi:=⟨h1,h2⟩
   simp -implicitDefEqProofs (disch:=first|exact zd|fail) only [go_sem,Aa,Ab,vfn,vpp]
  ·have:¬(lo≤n∧n≤hi):=fun h=>h2 h.2;simp -implicitDefEqProofs (disch:=first|exact zd|fail) only [go_sem,Aa,Ab,vfn,vpp]
 ·have:¬(lo≤n∧n≤hi):=fun h=>h1 h.1;simp -implicitDefEqProofs (disch:=first|exact zd|fail) only [go_sem,Aa,Ab,vfn,vpp]
attribute [go_sem] vcq
theorem vhr {a b c:Int}:vaf Φ N vgb [.a (.int .i64 a),.a (.int .i64 b),.a (.int .i64 c)]=some ([.a (.bool (decide (b≤a∧a≤c)))],[]):=by
 rw [vab rfl];by_cases h1:b≤a
 ·by_cases h2:a≤c
  ·have:b≤a∧a≤c:=⟨h1,h2⟩
   simp -implicitDefEqProofs (disch:=first|exact zd|fail) only [go_sem,Aa,Ab,vgb,vmg]
  ·have:¬(b≤a∧a≤c):=fun h=>h2 h.2;simp -implicitDefEqProofs (disch:=first|exact zd|fail) only [go_sem,Aa,Ab,vgb,vmg]
 ·have:¬(b≤a∧a≤c):=fun h=>h1 h.1;simp -implicitDefEqProofs (disch:=first|exact zd|fail) only [go_sem,Aa,Ab,vgb,vmg]
attribute [go_sem] vhr
theorem zcn {e:Nat} {es:List PV}:vaf Φ N vdp [.sl true e es]=some ([.a (.int .i64 es.length)],[]):=by
 rw [vab rfl];simp -implicitDefEqProofs (disch:=first|exact zd|fail) only [go_sem,Aa,Ab,vdp,vle]
attribute [go_sem] zcn
theorem zci {e:Nat} {es:List PV}:vaf Φ N vc9 [.sl true e es]=some ([.a (.int .i64 es.length)],[]):=by
 rw [vab rfl];simp -implicitDefEqProofs (disch:=first|exact zd|fail) only [go_sem,Aa,Ab,vc9,vka]
attribute [go_sem] zci
def S44 (s:ByteArray) (i:Nat):St:=⟨[(0,.a (.string s)),(3,.a (.int .i64 i))],[],0⟩
theorem qgd {s:ByteArray} (hs:s.size≤1048576) {i:Nat} {b:UInt8} (hb:(ch s)[i]? =some b):
  round Φ N [0,3] vig (S44 s i)=some (if okC b=true then (.nrm,S44 s (i+1)) else (.ret,⟨[(2,.a (.bool false))],[],1500⟩)):=by
 have hi:i<s.size:=by rw [vjv];exact (Ad.1 hb).1
 have hx:=vp3 hb;have hw:=vaw i zo;unfold round S44 vig okC;by_cases c1:(b.toNat:Int)=105
 ·rw [if_pos (by simp [c1])];simp -implicitDefEqProofs (disch:=first|exact zd|fail) only [go_sem,Aa,Ab,hx,hw]
  (show some _=some _;kernel_rfl)
 ·by_cases c2:(b.toNat:Int)=114
  ·rw [if_pos (by simp [c2])];simp -implicitDefEqProofs (disch:=first|exact zd|fail) only [go_sem,Aa,Ab,hx,hw]
   (show some _=some _;kernel_rfl)
  ·rw [if_neg (by simp [c1,c2])];simp -implicitDefEqProofs (disch:=first|exact zd|fail) only [go_sem,Aa,Ab,hx,hw]
theorem qjr (s:ByteArray) (hs:s.size≤1048576) (hN:s.size<N):
  vbt Φ N [0,3] vig (S44 s 0)=some (if (ch s).all okC=true then (.ext 0,⟨[(0,.a (.string s)),(3,.a (.int .i64 s.size)),(7,.a (.bool false))],[],400⟩) else (.ret,⟨[(2,.a (.bool false))],[],1500⟩)):=by
 refine vc4 (S44 s) _ (fun i=>∀j b,j<i→(ch s)[j]? =some b→okC b=true) (m:=s.size) hN (fun j b h=>by omega) (by split<;>simp) (fun i hi hp=> ?_);by_cases hi':i<s.size
 ·obtain ⟨b,hb⟩:∃b,(ch s)[i]? =some b:=⟨_,Ac (by rw [←vjv];exact hi')⟩
  rw [qgd hs hb];by_cases ho:okC b=true
  ·rw [if_pos ho];refine .inl ⟨hi',rfl,fun j y hj hy=> ?_⟩;by_cases hji:j=i
   ·subst hji;rw [hb] at hy;cases hy;exact ho
   ·exact hp j y zo hy
  ·rw [if_neg ho,if_neg]
   ·exact .inr rfl
   ·intro hall;exact ho (Af.1 hall b (Ae hb))
 ·obtain rfl:i=s.size:=by omega
  right
  rw [if_pos (Af.2 fun b hb=>by
   obtain ⟨j,hj,rfl⟩:=Ag.1 hb
   exact hp j _ (by rw [vjv];exact hj) (Ac hj))]
  unfold round S44 vig;simp -implicitDefEqProofs (disch:=first|exact zd|fail) only [go_sem,Aa,Ab]
theorem qlo {d:Nat} (s:ByteArray) (hs:s.size≤1048576):vaf (T (d+1)) vae vhm [.a (.string s)]=some ([.a (.bool (okType s))],[]):=by
 have key:=qjr (Φ:=T (d+1)) (N:=vae) s hs (va1 zo);unfold S44 at key;rw [vab rfl];unfold okType;by_cases ha:(ch s).all okC=true
 ·rw [if_pos ha] at key;rw [ha,Bool.and_true];have:decide (1≤(s.size:Int)∧(s.size:Int)≤23)=decide (1≤s.size∧s.size≤23):=by
   congr 1;exact propext ⟨fun h=>by omega,fun h=>by omega⟩
  simp -implicitDefEqProofs (disch:=first|exact zd|fail) only [go_sem,Aa,Ab,vhm,vqh,va5 key,this]
 ·rw [if_neg ha] at key;rw [show (ch s).all okC=false from by simpa using ha,Bool.and_false];simp -implicitDefEqProofs (disch:=first|exact zd|fail) only [go_sem,Aa,Ab,vhm,vqh,vgq key]
def S25 (ts:List ByteArray) (i:Nat):St:=⟨[(0,.sz vam (ts.map eStr)),(3,.a (.int .i64 i))],[],0⟩
theorem vyh {d:Nat} (ts:List ByteArray) (hl:ts.length≤1048576) (hs:∀s∈ts,s.size≤1048576):
  vbt (T (d+2)) vae [0,3] vjl (S25 ts 0)=some (if ts.all okType=true then (.ext 0,⟨[(0,.sz vam (ts.map eStr)),(3,.a (.int .i64 ts.length)),(11,.a (.bool false))],[],400⟩) else (.ret,⟨[(2,.a (.bool false))],[],1100⟩)):=by
 refine vc4 (S25 ts) _ (fun i=>∀j b,j<i→ts[j]? =some b→okType b=true) (m:=ts.length) (va1 zo) (fun j b h=>by omega) (by split<;>simp) (fun i hi hp=> ?_);by_cases hi':i<ts.length
 ·obtain ⟨b,hb⟩:∃b,ts[i]? =some b:=⟨_,Ac hi'⟩
  have hc:=qlo (d:=d) b (hs b (Ae hb));have hw:=vaw i zo;unfold round S25 vjl;by_cases ho:okType b=true
  ·rw [ho] at hc;refine .inl ⟨hi',?_,fun j y hj hy=> ?_⟩
   ·simp -implicitDefEqProofs (disch:=first|exact zd|fail) only [go_sem,Aa,Ab,hb,hc,hw];rfl
   ·by_cases hji:j=i
    ·subst hji;rw [hb] at hy;cases hy;exact ho
    ·exact hp j y zo hy
  ·rw [show okType b=false from by simpa using ho] at hc;right;rw [if_neg (fun hall=>ho (Af.1 hall b (Ae hb)))];simp -implicitDefEqProofs (disch:=first|exact zd|fail) only [go_sem,Aa,Ab,hb,hc,hw]
 ·obtain rfl:i=ts.length:=by omega
  right
  rw [if_pos (Af.2 fun b hb=>by
   obtain ⟨j,hj,rfl⟩:=Ag.1 hb
   exact hp j _ hj (Ac hj))]
  unfold round S25 vjl;simp -implicitDefEqProofs (disch:=first|exact zd|fail) only [go_sem,Aa,Ab]
theorem qj4 (ts:List ByteArray):decide (1≤(ts.length:Int)∧(ts.length:Int)≤12)=decide (1≤ts.length∧ts.length≤12):=by
 congr 1;exact propext ⟨fun h=>by omega,fun h=>by omega⟩
theorem vzf {d:Nat} (ts:List ByteArray) (hl:ts.length≤1048576) (hs:∀s∈ts,s.size≤1048576):vaf (T (d+2)) vae vfm [.sl true vam (ts.map eStr)]=some ([.a (.bool (vku ts))],[]):=by
 have key:=vyh (d:=d) ts hl hs;unfold S25 at key;rw [vab rfl];unfold vku;have hd:=qj4 ts;cases hb:decide (1≤ts.length∧ts.length≤12)
 ·rw [hb] at hd;simp -implicitDefEqProofs (disch:=first|exact zd|fail) only [go_sem,Aa,Ab,vfm,vlk,hd]
 ·rw [hb] at hd;by_cases ha:ts.all okType=true
  ·rw [if_pos ha] at key;rw [ha];simp -implicitDefEqProofs (disch:=first|exact zd|fail) only [go_sem,Aa,Ab,vfm,vlk,hd,va5 key]
  ·rw [if_neg ha] at key;rw [show ts.all okType=false from by simpa using ha];simp -implicitDefEqProofs (disch:=first|exact zd|fail) only [go_sem,Aa,Ab,vfm,vlk,hd,vgq key]
theorem vjy {α:Type} {q:α→Bool} {l:List α} {i:Nat} {x:α} (hx:l[i]? =some x) (hq:q x=true) (hp:∀(j:Nat) (y:α),j<i→l[j]? =some y→q y=false):l.findIdx? q=some i:=by
 rw [Aj];obtain ⟨hi,rfl⟩:=Ad.1 hx;refine ⟨hi,hq,fun j hj=> ?_⟩;have:=hp j _ hj (Ac (Nat.lt_trans hj hi));simp [this]
theorem vjz {α:Type} {q:α→Bool} {l:List α} (hp:∀(j:Nat) (y:α),l[j]? =some y→q y=false):l.findIdx? q=none:=by
 rw [Al];intro x hx;obtain ⟨j,hj,rfl⟩:=Ag.1 hx;exact hp j _ (Ac hj)
def idxOf {α:Type} (q:α→Bool) (l:List α):Int:=match l.findIdx? q with|some i=>i|none=> -1
theorem vxd {α:Type} (q:α→Bool) (l:List α):decide (0≤idxOf q l)=l.any q:=by
 unfold idxOf;cases h:l.findIdx? q with
 |some i=>
  obtain ⟨hi,h1,_⟩:=Aj.1 h;rw [show l.any q=true from List.any_eq_true.2 ⟨_,List.getElem_mem hi,h1⟩];simp
 |none=>
  rw [Al] at h;rw [show l.any q=false from by rw [List.any_eq_false];intro x hx;simp [h x hx]];simp
theorem qkq {b:UInt8} {n:Nat} (hn:n<256):((b.toNat:Int)=(n:Int))↔b=UInt8.ofNat n:=by
 constructor
 ·intro h;apply UInt8.toNat_inj.1;rw [UInt8.toNat_ofNat',Ar hn]
  exact_mod_cast h
 ·rintro rfl
  rw [UInt8.toNat_ofNat',Ar hn]
theorem qxi (b:UInt8):okC b= [(105:UInt8),114].contains b:=by
 have h1:((b.toNat:Int)=105)↔b=105:=qkq (b:=b) (n:=105) zo;have h2:((b.toNat:Int)=114)↔b=114:=qkq (b:=b) (n:=114) zo;unfold okC;rw [decide_eq_decide.2 h1,decide_eq_decide.2 h2];simp only [List.contains_cons,List.contains_nil,Bool.or_false];rfl
theorem vme {α:Type} (p:α→Bool):∀(l:List α),l.dropWhile p= []↔l.all p=true
 | []=>by simp
 |a::l=>by
  simp only [List.dropWhile,Av];cases h:p a
  ·simp
  ·simpa using vme p l
theorem qr3 (l:List UInt8):Lib.trimS l [105,114]= []↔l.all okC=true:=by
 have e:okC=fun b=> [(105:UInt8),114].contains b:=funext qxi;rw [e];unfold Lib.trimS Lib.trimLeftS Lib.trimRightS;rw [vme];constructor
 ·intro h;have h2:(l.reverse.dropWhile ([(105:UInt8),114].contains ·)).all ([(105:UInt8),114].contains ·)=true:=by simpa using h
  cases hd:l.reverse.dropWhile ([(105:UInt8),114].contains ·) with
  |nil=>
   have:=(vme _ _).1 hd;simpa using this
  |cons a r=>
   have h3:=List.head?_dropWhile_not ([(105:UInt8),114].contains ·) l.reverse;rw [hd] at h3 h2;simp only [List.head?_cons,Av,At] at h3 h2;rw [h2.1] at h3;cases h3
 ·intro h;rw [(vme _ _).2 (by simpa using h)];rfl
theorem qm6 {d:Nat} (s:ByteArray) (hs:s.size≤1048576):vaf (T (d+1)) vae vhn [.a (.string s)]=some ([.a (.bool (okType s))],[]):=by
 have ht:trimGo [.a (.string s),.a (.string ⟨#[105,114]⟩)]=some ([.a (.string ⟨(Lib.trimS (ch s) [105,114]).toArray⟩)],[]):=by
  simp only [trimGo];rw [if_pos ⟨by omega,by decide,by decide⟩]
 have hd:decide ((⟨(Lib.trimS (ch s) [105,114]).toArray⟩:ByteArray)=⟨#[]⟩)=(ch s).all okC:=by
  rw [Bool.eq_iff_iff,decide_eq_true_eq,←qr3];constructor
  ·intro h;have:=congrArg (fun b:ByteArray=>b.data.toList) h;simpa using this
  ·intro h;rw [h]
 have hz:decide (1≤(s.size:Int)∧(s.size:Int)≤23)=decide (1≤s.size∧s.size≤23):=by
  congr 1;exact propext ⟨fun h=>by omega,fun h=>by omega⟩
 rw [vab rfl];unfold okType;cases hb:decide (1≤s.size∧s.size≤23)
 ·rw [hb] at hz;simp -implicitDefEqProofs (disch:=first|exact zd|fail) only [go_sem,Aa,Ab,vhn,vqf,hz]
 ·rw [hb] at hz;rw [Ah];simp -implicitDefEqProofs (disch:=first|exact zd|fail) only [go_sem,Aa,Ab,vhn,vqf,hz,ht,hd]
theorem qfr {d:Nat} (s:ByteArray) (hs:s.size≤1048576):vaf (T (d+2)) vae vgw [.a (.string s)]=some ([.a (.bool (!okType s))],[]):=by
 have h:=qm6 (d:=d) s hs;rw [vab rfl];simp -implicitDefEqProofs (disch:=first|exact zd|fail) only [go_sem,Aa,Ab,vgw,vr8,h]
def S70 (ts:List ByteArray) (i:Nat):St:=⟨[(0,.sz vam (ts.map eStr)),(1,.fn vee [] []),(7,.a (.int .i64 ts.length)),(8,.a (.int .i64 i))],[],0⟩
theorem qfa {d:Nat} (ts:List ByteArray) (hl:ts.length≤1048576) (hs:∀s∈ts,s.size≤1048576):
  vbt (T (d+3)) vae [0,1,7,8] vdd (S70 ts 0)=
  some (match ts.findIdx? (fun s=> !okType s) with|some i=>(.ret,⟨[(4,.a (.int .i64 (i:Nat)))],[],1100⟩)|none=>(.ext 0,⟨[(0,.sz vam (ts.map eStr)),(1,.fn vee [] []),(7,.a (.int .i64 ts.length)),(8,.a (.int .i64 ts.length)),(9,.a (.bool false))],[],100⟩)):=by
 refine vc4 (S70 ts) _ (fun i=>∀j b,j<i→ts[j]? =some b→(!okType b)=false) (m:=ts.length) (va1 zo) (fun j b h=>by omega) (by split<;>simp) (fun i hi hp=> ?_);by_cases hi':i<ts.length
 ·obtain ⟨b,hb⟩:∃b,ts[i]? =some b:=⟨_,Ac hi'⟩
  have hc:=qfr (d:=d) b (hs b (Ae hb));have hw:=vaw i zo;unfold round S70 vdd;cases ho:okType b
  ·rw [ho] at hc;right;rw [vjy (q:=fun s=> !okType s) hb (by simp [ho]) hp];simp -implicitDefEqProofs (disch:=first|exact zd|fail) only [go_sem,Aa,Ab,hb,hc,hw]
  ·rw [ho] at hc;refine .inl ⟨hi',?_,fun j y hj hy=> ?_⟩
   ·simp -implicitDefEqProofs (disch:=first|exact zd|fail) only [go_sem,Aa,Ab,hb,hc,hw];rfl
   ·by_cases hji:j=i
    ·subst hji;rw [hb] at hy;cases hy;simp [ho]
    ·exact hp j y zo hy
 ·obtain rfl:i=ts.length:=by omega
  right;rw [vjz fun j y hy=>hp j y (by have:=(Ad.1 hy).1;omega) hy];unfold round S70 vdd;simp -implicitDefEqProofs (disch:=first|exact zd|fail) only [go_sem,Aa,Ab]
theorem qh1 {d:Nat} (ts:List ByteArray) (hl:ts.length≤1048576) (hs:∀s∈ts,s.size≤1048576):
  vaf (T (d+3)) vae vb5 [.sl true vam (ts.map eStr),.fn vee [] []]=some ([.a (.int .i64 (idxOf (fun s=> !okType s) ts))],[]):=by
 have key:=qfa (d:=d) ts hl hs;unfold S70 at key;rw [vab rfl];unfold idxOf;cases h:ts.findIdx? (fun s=> !okType s) with
 |some i=>
  rw [h] at key;simp -implicitDefEqProofs (disch:=first|exact zd|fail) only [go_sem,Aa,Ab,vb5,vfb,vgq key]
 |none=>
  rw [h] at key;simp -implicitDefEqProofs (disch:=first|exact zd|fail) only [go_sem,Aa,Ab,vb5,vfb,va5 key]
theorem qbi {d:Nat} (ts:List ByteArray) (hl:ts.length≤1048576) (hs:∀s∈ts,s.size≤1048576):
  vaf (T (d+4)) vae vca [.sl true vam (ts.map eStr),.fn vee [] []]=some ([.a (.bool (ts.any fun s=> !okType s))],[]):=by
 have h:=qh1 (d:=d) ts hl hs;have hd:=vxd (fun s=> !okType s) ts;generalize idxOf (fun s=> !okType s) ts=n at *;rw [vab rfl];simp -implicitDefEqProofs (disch:=first|exact zd|fail) only [go_sem,Aa,Ab,vca,vg7,h,hd]
theorem vzl {d:Nat} (ts:List ByteArray) (hl:ts.length≤1048576) (hs:∀s∈ts,s.size≤1048576):vaf (T (d+5)) vae vgl [.sl true vam (ts.map eStr)]=some ([.a (.bool (vku ts))],[]):=by
 have h:=qbi (d:=d) ts hl hs;have hall:(!ts.any fun s=> !okType s)=ts.all okType:=by
  rw [Ai];simp
 have hd:=qj4 ts;rw [vab rfl];unfold vku;rw [←hall];generalize (ts.any fun s=> !okType s)=b at *;cases hb:decide (1≤ts.length∧ts.length≤12)
 ·rw [hb] at hd;simp -implicitDefEqProofs (disch:=first|exact zd|fail) only [go_sem,Aa,Ab,vgl,vo6,hd]
 ·rw [hb] at hd;rw [Ah];simp -implicitDefEqProofs (disch:=first|exact zd|fail) only [go_sem,Aa,Ab,vgl,vo6,hd,h]
structure Obj' where
 ty:Int
 vals:List Int
structure Gr where
 roots:List Int
 nodes:List Obj'
def eObj (o:Obj'):PV:= .st [vak o.ty,.sl vag (o.vals.map vak)]
theorem vln (o:Obj'):eObj o= .st [.a (.int .i64 o.ty),.sl vag (o.vals.map vak)]:=rfl
attribute [go_sem] vln
theorem zj4 (l:List Obj'):nfzL (l.map eObj)=true:=vxq (fun o=>by show (true&&(nfzL (o.vals.map vak)&&true))=true;rw [quy];rfl) l
attribute [go_sem] zj4
abbrev cObj (z:Bool) (o:Obj'):CV:= .st [.a (.int .i64 o.ty),.sl z vag (o.vals.map vak)]
abbrev cGr (z:Bool) (g:Gr):CV:= .st [.sl z vag (g.roots.map vak),.sl z vai (g.nodes.map eObj)]
abbrev tGr (g:Gr):TV:= .st [.sz vag (g.roots.map vak),.sz vai (g.nodes.map eObj)]
def isN (n:Nat) (v:Int):Bool:=decide (0≤v∧v≤(n:Int))
def refAt (s:ByteArray) (k:Nat):Bool:=match (ch s)[k]? with|some b=>decide ((b.toNat:Int)=114)|none=>false
def badV (s:ByteArray) (n k:Nat) (v:Int):Bool:=refAt s k&& !isN n v
def okVals (s:ByteArray) (n:Nat):Nat→List Int→Bool
 |_,[]=>true
 |k,v::l=> !badV s n k v&&okVals s n (k+1) l
theorem vlr {s:ByteArray} {n:Nat}:∀{l:List Int} {k:Nat},okVals s n k l=true↔∀(j:Nat) v,l[j]? =some v→badV s n (k+j) v=false
 | [],k=>by simp [okVals]
 |w::l,k=>by
  rw [okVals,At,vlr,Bool.not_eq_true'];constructor
  ·rintro ⟨h1,h2⟩ j v hj
   cases j with
   |zero=>cases hj;exact h1
   |succ j=>rw [show k+(j+1)=k+1+j by omega];exact h2 j v (by simpa using hj)
  ·intro h;exact ⟨h 0 w rfl,fun j v hj=>by have:=h (j+1) v (by simpa using hj);rwa [show k+(j+1)=k+1+j by omega] at this⟩
def objOk (ts:List ByteArray) (n:Nat) (o:Obj'):Bool:=match ts[o.ty.toNat]? with
 |some s=>decide (0≤o.ty)&&(decide (o.vals.length=s.size)&&okVals s n 0 o.vals)
 |none=>false
def graphOk (ts:List ByteArray) (g:Gr):Bool:=vku ts&&(decide (g.roots.length≤40)&&(decide (g.nodes.length≤400)&&(g.roots.all (isN g.nodes.length)&&g.nodes.all (objOk ts g.nodes.length))))
theorem qa1 {d:Nat} (g:Gr) (v:Int):vaf (T (d+1)) vae ve1 [cGr true g,.a (.int .i64 v)]=some ([.a (.bool (isN g.nodes.length v))],[]):=by
 rw [vab rfl];unfold isN;simp -implicitDefEqProofs (disch:=first|exact zd|fail) only [go_sem,Aa,Ab,ve1,von]
def S37 (ts:List ByteArray) (g:Gr) (o:Obj') (i:Nat):St:=⟨[(0,.sz vam (ts.map eStr)),(2,.fn vd1 [tGr g] []),(4,.rf 0),(29,.sz vag (o.vals.map vak)),(30,.a (.int .i64 o.vals.length)),(31,.a (.int .i64 i))],[(0,some (.bx false [.a (.int .i64 o.ty),.sz vag (o.vals.map vak)]))],1⟩
theorem qf0 {d:Nat} (ts:List ByteArray) (g:Gr) (o:Obj') (hl:o.vals.length≤1048576) {s:ByteArray} {t:Nat} (ht:o.ty=(t:Int)) (hs:ts[t]? =some s) (hz:o.vals.length=s.size):
  vbt (T (d+2)) vae [0,2,4,29,30,31] vi5 (S37 ts g o 0)=some (if okVals s g.nodes.length 0 o.vals=true then
   (.ext 0,⟨[(0,.sz vam (ts.map eStr)),(2,.fn vd1 [tGr g] []),(4,.rf 0),(29,.sz vag (o.vals.map vak)),(30,.a (.int .i64 o.vals.length)),(31,.a (.int .i64 o.vals.length)),(32,.a (.bool false))],[(0,some (.bx false [.a (.int .i64 o.ty),.sz vag (o.vals.map vak)]))],101⟩)
   else (.ret,⟨[(6,.a (.bool false))],[(0,some (.bx false [.a (.int .i64 o.ty),.sz vag (o.vals.map vak)]))],2101⟩)):=by
 have htl:t<ts.length:=(Ad.1 hs).1;refine vc4 (S37 ts g o) _ (fun i=>∀(j:Nat) v,j<i→o.vals[j]? =some v→badV s g.nodes.length j v=false) (m:=o.vals.length) (va1 zo) (fun j b h=>by omega) (by split<;>simp) (fun i hi hp=> ?_);by_cases hi':i<o.vals.length
 ·obtain ⟨v,hv⟩:∃v,o.vals[i]? =some v:=⟨_,Ac hi'⟩
  obtain ⟨b,hb⟩:∃b,(ch s)[i]? =some b:=⟨_,Ac (by rw [←vjv];omega)⟩
  have hx:=vp3 hb;have hc:=qa1 (d:=d) g v;have hw:=vaw i zo;have hr:refAt s i=decide ((b.toNat:Int)=114):=by simp only [refAt,hb]
  have next (hbad:badV s g.nodes.length i v=false):∀(j:Nat) y,j<i+1→o.vals[j]? =some y→badV s g.nodes.length j y=false:=fun j y hj hy=>by
   by_cases hji:j=i
   ·subst hji;rw [hv] at hy;cases hy;exact hbad
   ·exact hp j y zo hy
  unfold round S37 vi5;rw [ht];by_cases c1:(b.toNat:Int)=114
  ·cases hn:isN g.nodes.length v
   ·right;rw [hn] at hc
    rw [if_neg (fun hok=>by
     have:=(vlr.1 hok) i v hv;rw [Am,badV,hr,hn,decide_eq_true c1] at this
     cases this)]
    simp -implicitDefEqProofs (disch:=first|exact zd|fail) only [go_sem,Aa,Ab,hv,hx,hs,hc,hw]
   ·rw [hn] at hc;refine .inl ⟨hi',?_,next (by rw [badV,hn];simp)⟩;simp -implicitDefEqProofs (disch:=first|exact zd|fail) only [go_sem,Aa,Ab,hv,hx,hs,hc,hw]
    (show some _=some _;kernel_rfl)
  ·refine .inl ⟨hi',?_,next (by rw [badV,hr,decide_eq_false c1];rfl)⟩;simp -implicitDefEqProofs (disch:=first|exact zd|fail) only [go_sem,Aa,Ab,hv,hx,hs,hw]
   (show some _=some _;kernel_rfl)
 ·obtain rfl:i=o.vals.length:=by omega
  right;rw [if_pos (vlr.2 fun j v hj=>by rw [Am];exact hp j v (by have:=(Ad.1 hj).1;omega) hj)];unfold round S37 vi5;simp -implicitDefEqProofs (disch:=first|exact zd|fail) only [go_sem,Aa,Ab]
theorem qg9 {d:Nat} (ts:List ByteArray) (g:Gr) (o:Obj') (htl:ts.length≤1048576) (hl:o.vals.length≤1048576) (hsz:∀s∈ts,s.size≤1048576):
  vaf (T (d+2)) vae vd5 [.sl true vam (ts.map eStr),cObj true o,.fn vd1 [cGr true g] []]=some ([.a (.bool (objOk ts g.nodes.length o))],[]):=by
 have hw:IntKind.i64.wrap ((ts.length:Int)-1)=ts.length-1:=by rw [vay]<;>omega
 rw [vab rfl];obtain ⟨ty,vals⟩:=o;dsimp only at *;by_cases c1:0≤ty∧ty≤(ts.length:Int)-1
 ·obtain ⟨t,ht⟩:∃t:Nat,ty=(t:Int):=⟨ty.toNat,by omega⟩
  subst ht;obtain ⟨s,hs⟩:∃s,ts[t]? =some s:=⟨_,Ac zo⟩
  have hob:objOk ts g.nodes.length ⟨(t:Int),vals⟩=(decide (vals.length=s.size)&&okVals s g.nodes.length 0 vals):=by
   unfold objOk;rw [show (⟨(t:Int),vals⟩:Obj').ty.toNat=t from Ak t,hs];simp only [show decide (0≤(t:Int))=true from decide_eq_true c1.1,Ah]
  rw [hob];have hss:=hsz s (Ae hs);by_cases hz:vals.length=s.size
  ·have key:=qf0 (d:=d) ts g ⟨(t:Int),vals⟩ hl rfl hs hz;unfold S37 at key;dsimp only at key;rw [decide_eq_true hz,Ah];cases hv:okVals s g.nodes.length 0 vals
   ·rw [if_neg (by rw [hv];simp)] at key;simp -implicitDefEqProofs (disch:=first|exact zd|fail) only [go_sem,Aa,Ab,vd5,vi7,hw,hs,vgq key]
   ·rw [if_pos hv] at key;simp -implicitDefEqProofs (disch:=first|exact zd|fail) only [go_sem,Aa,Ab,vd5,vi7,hw,hs,va5 key]
  ·rw [decide_eq_false hz,Au];have hz':¬((vals.length:Int)=(s.size:Int)):=by omega
   simp -implicitDefEqProofs (disch:=first|exact zd|fail) only [go_sem,Aa,Ab,vd5,vi7,hw,hs]
 ·have hob:objOk ts g.nodes.length ⟨ty,vals⟩=false:=by
   unfold objOk;dsimp only;by_cases h0:0≤ty
   ·rw [Ao zo]
   ·rw [show decide (0≤ty)=false from decide_eq_false h0];split<;>rfl
  rw [hob];simp -implicitDefEqProofs (disch:=first|exact zd|fail) only [go_sem,Aa,Ab,vd5,vi7,hw]
abbrev bGr (g:Gr):List CV:= [.sl true vag (g.roots.map vak),.sl true vai (g.nodes.map eObj)]
abbrev uGr (g:Gr):List TV:= [.sz vag (g.roots.map vak),.sz vai (g.nodes.map eObj)]
theorem qfl {d:Nat} (g:Gr) (v:Int):vaf (T (d+2)) vae vgi [.a (.int .i64 v),.bx true (bGr g)]=some ([.a (.bool (!isN g.nodes.length v))],[]):=by
 have h:=qa1 (d:=d) g v;rw [vab rfl];simp -implicitDefEqProofs (disch:=first|exact zd|fail) only [go_sem,Aa,Ab,vgi,vr9,h]
theorem qfs {d:Nat} (ts:List ByteArray) (g:Gr) (o:Obj') (htl:ts.length≤1048576) (hl:o.vals.length≤1048576) (hsz:∀s∈ts,s.size≤1048576):
  vaf (T (d+3)) vae vgs [cObj true o,.bx true [.sl true vam (ts.map eStr)],.bx true (bGr g)]=some ([.a (.bool (!objOk ts g.nodes.length o))],[]):=by
 have h:=qg9 (d:=d) ts g o htl hl hsz;rw [vab rfl];simp -implicitDefEqProofs (disch:=first|exact zd|fail) only [go_sem,Aa,Ab,vgs,vrk,h]
def S51 (l:List Int) (g:Gr) (i:Nat):St:=⟨[(0,.sz vag (l.map vak)),(1,.fn veb [] [.rf 0]),(7,.a (.int .i64 l.length)),(8,.a (.int .i64 i))],[(0,some (.bx true (uGr g)))],1⟩
theorem qe1 {d:Nat} (l:List Int) (g:Gr) (hl:l.length≤1048576):
  vbt (T (d+3)) vae [0,1,7,8] vdm (S51 l g 0)=
  some (match l.findIdx? (fun v=> !isN g.nodes.length v) with|some i=>(.ret,⟨[(4,.a (.int .i64 (i:Nat)))],[(0,some (.bx true (uGr g)))],1101⟩)|none=>(.ext 0,⟨[(0,.sz vag (l.map vak)),(1,.fn veb [] [.rf 0]),(7,.a (.int .i64 l.length)),(8,.a (.int .i64 l.length)),(9,.a (.bool false))],[(0,some (.bx true (uGr g)))],101⟩)):=by
 refine vc4 (S51 l g) _ (fun i=>∀(j:Nat) b,j<i→l[j]? =some b→(!isN g.nodes.length b)=false) (m:=l.length) (va1 zo) (fun j b h=>by omega) (by split<;>simp) (fun i hi hp=> ?_);by_cases hi':i<l.length
 ·obtain ⟨b,hb⟩:∃b,l[i]? =some b:=⟨_,Ac hi'⟩
  have hc:=qfl (d:=d) g b;have hw:=vaw i zo;unfold round S51 vdm;cases ho:isN g.nodes.length b
  ·rw [ho] at hc;right;rw [vjy (q:=fun v=> !isN g.nodes.length v) hb (by simp [ho]) hp];simp -implicitDefEqProofs (disch:=first|exact zd|fail) only [go_sem,Aa,Ab,hb,hc,hw]
  ·rw [ho] at hc;refine .inl ⟨hi',?_,fun j y hj hy=> ?_⟩
   ·simp -implicitDefEqProofs (disch:=first|exact zd|fail) only [go_sem,Aa,Ab,hb,hc,hw];rfl
   ·by_cases hji:j=i
    ·subst hji;rw [hb] at hy;cases hy;simp [ho]
    ·exact hp j y zo hy
 ·obtain rfl:i=l.length:=by omega
  right;rw [vjz fun j y hy=>hp j y (by have:=(Ad.1 hy).1;omega) hy];unfold round S51 vdm;simp -implicitDefEqProofs (disch:=first|exact zd|fail) only [go_sem,Aa,Ab]
theorem qgi {d:Nat} (l:List Int) (g:Gr) (hl:l.length≤1048576):
  vaf (T (d+3)) vae vcb [.sl true vag (l.map vak),.fn veb [] [.bx true (bGr g)]]=some ([.a (.int .i64 (idxOf (fun v=> !isN g.nodes.length v) l))],[]):=by
 have key:=qe1 (d:=d) l g hl;unfold S51 at key;rw [vab rfl];unfold idxOf;cases h:l.findIdx? (fun v=> !isN g.nodes.length v) with
 |some i=>
  rw [h] at key;simp -implicitDefEqProofs (disch:=first|exact zd|fail) only [go_sem,Aa,Ab,vcb,vfr,vgq key]
 |none=>
  rw [h] at key;simp -implicitDefEqProofs (disch:=first|exact zd|fail) only [go_sem,Aa,Ab,vcb,vfr,va5 key]
theorem qbo {d:Nat} (l:List Int) (g:Gr) (hl:l.length≤1048576):
  vaf (T (d+4)) vae vch [.sl true vag (l.map vak),.fn veb [] [.bx true (bGr g)]]=some ([.a (.bool (l.any fun v=> !isN g.nodes.length v))],[]):=by
 have h:=qgi (d:=d) l g hl;have hd:=vxd (fun v=> !isN g.nodes.length v) l;generalize idxOf (fun v=> !isN g.nodes.length v) l=n at *;rw [vab rfl];simp -implicitDefEqProofs (disch:=first|exact zd|fail) only [go_sem,Aa,Ab,vch,vhy,h,hd]
def S52 (l:List Obj') (ts:List ByteArray) (g:Gr) (i:Nat):St:=⟨[(0,.sz vai (l.map eObj)),(1,.fn vd8 [] [.rf 0,.rf 1]),(7,.a (.int .i64 l.length)),(8,.a (.int .i64 i))],[(0,some (.bx true [.sz vam (ts.map eStr)])),(1,some (.bx true (uGr g)))],2⟩
theorem qfn {d:Nat} (l:List Obj') (ts:List ByteArray) (g:Gr) (hl:l.length≤1048576) (htl:ts.length≤1048576) (hv:∀o∈l,o.vals.length≤1048576) (hsz:∀s∈ts,s.size≤1048576):
  vbt (T (d+4)) vae [0,1,7,8] vc0 (S52 l ts g 0)=
  some (match l.findIdx? (fun o=> !objOk ts g.nodes.length o) with|some i=>(.ret,⟨[(4,.a (.int .i64 (i:Nat)))],[(0,some (.bx true [.sz vam (ts.map eStr)])),(1,some (.bx true (uGr g)))],1102⟩)|none=>(.ext 0,⟨[(0,.sz vai (l.map eObj)),(1,.fn vd8 [] [.rf 0,.rf 1]),(7,.a (.int .i64 l.length)),(8,.a (.int .i64 l.length)),(9,.a (.bool false))],[(0,some (.bx true [.sz vam (ts.map eStr)])),(1,some (.bx true (uGr g)))],102⟩)):=by
 refine vc4 (S52 l ts g) _ (fun i=>∀(j:Nat) b,j<i→l[j]? =some b→(!objOk ts g.nodes.length b)=false) (m:=l.length) (va1 zo) (fun j b h=>by omega) (by split<;>simp) (fun i hi hp=> ?_);by_cases hi':i<l.length
 ·obtain ⟨b,hb⟩:∃b,l[i]? =some b:=⟨_,Ac hi'⟩
  have hc:=qfs (d:=d) ts g b htl (hv b (Ae hb)) hsz;have hw:=vaw i zo;unfold round S52 vc0;cases ho:objOk ts g.nodes.length b
  ·rw [ho] at hc;right;rw [vjy (q:=fun o=> !objOk ts g.nodes.length o) hb (by simp [ho]) hp];simp -implicitDefEqProofs (disch:=first|exact zd|fail) only [go_sem,Aa,Ab,hb,hc,hw]
  ·rw [ho] at hc;refine .inl ⟨hi',?_,fun j y hj hy=> ?_⟩
   ·simp -implicitDefEqProofs (disch:=first|exact zd|fail) only [go_sem,Aa,Ab,hb,hc,hw];rfl
   ·by_cases hji:j=i
    ·subst hji;rw [hb] at hy;cases hy;simp [ho]
    ·exact hp j y zo hy
 ·obtain rfl:i=l.length:=by omega
  right;rw [vjz fun j y hy=>hp j y (by have:=(Ad.1 hy).1;omega) hy];unfold round S52 vc0;simp -implicitDefEqProofs (disch:=first|exact zd|fail) only [go_sem,Aa,Ab]
theorem qgz {d:Nat} (l:List Obj') (ts:List ByteArray) (g:Gr) (hl:l.length≤1048576) (htl:ts.length≤1048576) (hv:∀o∈l,o.vals.length≤1048576) (hsz:∀s∈ts,s.size≤1048576):
  vaf (T (d+4)) vae vbw [.sl true vai (l.map eObj),.fn vd8 [] [.bx true [.sl true vam (ts.map eStr)],.bx true (bGr g)]]=some ([.a (.int .i64 (idxOf (fun o=> !objOk ts g.nodes.length o) l))],[]):=by
 have key:=qfn (d:=d) l ts g hl htl hv hsz;unfold S52 at key;rw [vab rfl];unfold idxOf;cases h:l.findIdx? (fun o=> !objOk ts g.nodes.length o) with
 |some i=>
  rw [h] at key;simp -implicitDefEqProofs (disch:=first|exact zd|fail) only [go_sem,Aa,Ab,vbw,veg,vgq key]
 |none=>
  rw [h] at key;simp -implicitDefEqProofs (disch:=first|exact zd|fail) only [go_sem,Aa,Ab,vbw,veg,va5 key]
theorem qcc {d:Nat} (l:List Obj') (ts:List ByteArray) (g:Gr) (hl:l.length≤1048576) (htl:ts.length≤1048576) (hv:∀o∈l,o.vals.length≤1048576) (hsz:∀s∈ts,s.size≤1048576):
  vaf (T (d+5)) vae vb0 [.sl true vai (l.map eObj),.fn vd8 [] [.bx true [.sl true vam (ts.map eStr)],.bx true (bGr g)]]=some ([.a (.bool (l.any fun o=> !objOk ts g.nodes.length o))],[]):=by
 have h:=qgz (d:=d) l ts g hl htl hv hsz;have hd:=vxd (fun o=> !objOk ts g.nodes.length o) l;generalize idxOf (fun o=> !objOk ts g.nodes.length o) l=n at *;rw [vab rfl];simp -implicitDefEqProofs (disch:=first|exact zd|fail) only [go_sem,Aa,Ab,vb0,vf9,h,hd]
structure Small (ts:List ByteArray) (g:Gr):Prop where
 tl:ts.length≤1048576
 sz:∀s∈ts,s.size≤1048576
 roots:g.roots.length≤1048576
 nodes:g.nodes.length≤1048576
 vals:∀o∈g.nodes,o.vals.length≤1048576
theorem vzq {d:Nat} {ts:List ByteArray} {g:Gr} (h:Small ts g):vaf (T (d+6)) vae vdx [.sl true vam (ts.map eStr),cGr true g]=some ([.a (.bool (graphOk ts g))],[]):=by
 have h1:=vzl (d:=d) ts h.tl h.sz;have h2:=qbo (d:=d+1) g.roots g h.roots;have h3:=qcc (d:=d) g.nodes ts g h.nodes h.tl h.vals h.sz;have a1:(!g.roots.any fun v=> !isN g.nodes.length v)=g.roots.all (isN g.nodes.length):=by rw [Ai];simp
 have a2:(!g.nodes.any fun o=> !objOk ts g.nodes.length o)=g.nodes.all (objOk ts g.nodes.length):=by rw [Ai];simp
 rw [vab rfl];unfold graphOk;rw [←a1,←a2];generalize (g.roots.any fun v=> !isN g.nodes.length v)=b1 at *;generalize (g.nodes.any fun o=> !objOk ts g.nodes.length o)=b2 at *;clear a1 a2;cases ht:vku ts
 ·rw [ht] at h1;simp -implicitDefEqProofs (disch:=first|exact zd|fail) only [go_sem,Aa,Ab,vdx,vh9,h1]
 ·rw [ht] at h1;have hr:=h.roots;have hn:=h.nodes;by_cases c1:g.roots.length≤40
  ·rw [decide_eq_true c1];by_cases c2:g.nodes.length≤400
   ·rw [decide_eq_true c2];cases b1
    ·simp -implicitDefEqProofs (disch:=first|exact zd|fail) only [go_sem,Aa,Ab,vdx,vh9,h1,h2,h3]
    ·simp -implicitDefEqProofs (disch:=first|exact zd|fail) only [go_sem,Aa,Ab,vdx,vh9,h1,h2,h3]
   ·rw [decide_eq_false c2];simp -implicitDefEqProofs (disch:=first|exact zd|fail) only [go_sem,Aa,Ab,vdx,vh9,h1]
  ·rw [decide_eq_false c1];simp -implicitDefEqProofs (disch:=first|exact zd|fail) only [go_sem,Aa,Ab,vdx,vh9,h1]
theorem qsv {live:List Nat} {b:VC} (S:Nat→St) (E:Out→St→Prop) (P:Nat→Prop) {m:Nat} (hN:m<N) (h0:P 0)
  (step:∀i,i≤m→P i→(i<m∧round Φ N live b (S i)=some (.nrm,S (i+1))∧P (i+1))∨∃o e,o≠ .nrm∧round Φ N live b (S i)=some (o,e)∧E o e):∃o e,E o e∧vbt Φ N live b (S 0)=some (o,e):=by
 obtain ⟨o,e,h1,_,h2⟩:=qal (Φ:=Φ) (N:=N) (live:=live) (b:=b) (r:= []) (fun j s=>∃i,i+j=m∧P i∧s=S i) E hN (s:=S 0) ⟨0,by omega,h0,rfl⟩ (by
  rintro j s hj ⟨i,hi,hp,rfl⟩
  rcases step i zo hp with ⟨h1,h2,h3⟩|⟨o,e,h1,h2,h3⟩
  ·exact .inl ⟨j-1,_,by omega,h2,i+1,by omega,h3,rfl⟩
  ·exact .inr ⟨o,e,h1,h2,h3⟩)
 exact ⟨o,e,h1,h2⟩
def S60 (ts:List ByteArray) (g:Gr) (i:Nat):St:=⟨[(0,.sz vam (ts.map eStr)),(3,.rf 0),(5,.a (.int .i64 g.nodes.length)),(6,.a (.int .i64 i))],[(0,some (.bx false (uGr g)))],1⟩
theorem qmm {d:Nat} (ts:List ByteArray) (g:Gr) (hr:g.roots.length≤1048576):
  vbt (T (d+1)) vae [0,3,5,6] vjn (S60 ts g 0)=some (if g.roots.all (isN g.nodes.length)=true then (.ext 0,⟨[(0,.sz vam (ts.map eStr)),(3,.rf 0),(5,.a (.int .i64 g.nodes.length)),(6,.a (.int .i64 g.roots.length)),(32,.a (.bool false))],[(0,some (.bx false (uGr g)))],501⟩) else (.ret,⟨[(4,.a (.bool false))],[(0,some (.bx false (uGr g)))],1401⟩)):=by
 refine vc4 (S60 ts g) _ (fun i=>∀(j:Nat) b,j<i→g.roots[j]? =some b→isN g.nodes.length b=true) (m:=g.roots.length) (va1 zo) (fun j b h=>by omega) (by split<;>simp) (fun i hi hp=> ?_);by_cases hi':i<g.roots.length
 ·obtain ⟨b,hb⟩:∃b,g.roots[i]? =some b:=⟨_,Ac hi'⟩
  have hc:=vcq (Φ:=T d) (N:=vae) (n:=b) (lo:=0) (hi:=g.nodes.length);have hw:=vaw i zo;unfold round S60 vjn;cases ho:isN g.nodes.length b
  ·rw [show decide (0≤b∧b≤(g.nodes.length:Int))=false from ho] at hc;right;rw [if_neg (fun hall=>by have:=Af.1 hall b (Ae hb);rw [ho] at this;cases this)];simp -implicitDefEqProofs (disch:=first|exact zd|fail) only [go_sem,Aa,Ab,hb,hc,hw]
  ·rw [show decide (0≤b∧b≤(g.nodes.length:Int))=true from ho] at hc;refine .inl ⟨hi',?_,fun j y hj hy=> ?_⟩
   ·simp -implicitDefEqProofs (disch:=first|exact zd|fail) only [go_sem,Aa,Ab,hb,hc,hw];rfl
   ·by_cases hji:j=i
    ·subst hji;rw [hb] at hy;cases hy;exact ho
    ·exact hp j y zo hy
 ·obtain rfl:i=g.roots.length:=by omega
  right
  rw [if_pos (Af.2 fun b hb=>by
   obtain ⟨j,hj,rfl⟩:=Ag.1 hb
   exact hp j _ hj (Ac hj))]
  unfold round S60 vjn;simp -implicitDefEqProofs (disch:=first|exact zd|fail) only [go_sem,Aa,Ab]
def S62 (ts:List ByteArray) (g:Gr) (q:Nat) (t:Nat) (vals:List Int) (k:Nat):St:=⟨[(0,.sz vam (ts.map eStr)),(3,.rf 0),(5,.a (.int .i64 g.nodes.length)),(7,.a (.int .i64 q)),(8,.rf 1),(9,.a (.int .i64 k))],[(0,some (.bx false (uGr g))),(1,some (.bx false [.a (.int .i64 t),.sz vag (vals.map vak)]))],2⟩
theorem qlr {d:Nat} (ts:List ByteArray) (g:Gr) (q:Nat) {t:Nat} {vals:List Int} (hl:vals.length≤1048576) {s:ByteArray} (hs:ts[t]? =some s) (hz:vals.length=s.size):
  vbt (T (d+1)) vae [0,3,5,7,8,9] vjh (S62 ts g q t vals 0)=some (if okVals s g.nodes.length 0 vals=true then
   (.ext 4,⟨[(0,.sz vam (ts.map eStr)),(3,.rf 0),(5,.a (.int .i64 g.nodes.length)),(7,.a (.int .i64 q)),(8,.rf 1),(9,.a (.int .i64 vals.length)),(78,.a (.bool false))],[(0,some (.bx false (uGr g))),(1,some (.bx false [.a (.int .i64 t),.sz vag (vals.map vak)]))],502⟩)
   else (.ret,⟨[(4,.a (.bool false))],[(0,some (.bx false (uGr g))),(1,some (.bx false [.a (.int .i64 t),.sz vag (vals.map vak)]))],2402⟩)):=by
 have htl:t<ts.length:=(Ad.1 hs).1;refine vc4 (S62 ts g q t vals) _ (fun i=>∀(j:Nat) v,j<i→vals[j]? =some v→badV s g.nodes.length j v=false) (m:=vals.length) (va1 zo) (fun j b h=>by omega) (by split<;>simp) (fun i hi hp=> ?_);by_cases hi':i<vals.length
 ·obtain ⟨v,hv⟩:∃v,vals[i]? =some v:=⟨_,Ac hi'⟩
  obtain ⟨b,hb⟩:∃b,(ch s)[i]? =some b:=⟨_,Ac (by rw [←vjv];omega)⟩
  have hx:=vp3 hb;have hc:=vcq (Φ:=T d) (N:=vae) (n:=v) (lo:=0) (hi:=g.nodes.length);have hw:=vaw i zo;have hr:refAt s i=decide ((b.toNat:Int)=114):=by simp only [refAt,hb]
  have next (hbad:badV s g.nodes.length i v=false):∀(j:Nat) y,j<i+1→vals[j]? =some y→badV s g.nodes.length j y=false:=fun j y hj hy=>by
   by_cases hji:j=i
   ·subst hji;rw [hv] at hy;cases hy;exact hbad
   ·exact hp j y zo hy
  unfold round S62 vjh;by_cases c1:(b.toNat:Int)=114
  ·cases hn:isN g.nodes.length v
   ·right;rw [show decide (0≤v∧v≤(g.nodes.length:Int))=false from hn] at hc
    rw [if_neg (fun hok=>by
     have:=(vlr.1 hok) i v hv;rw [Am,badV,hr,hn,decide_eq_true c1] at this
     cases this)]
    simp -implicitDefEqProofs (disch:=first|exact zd|fail) only [go_sem,Aa,Ab,hv,hx,hs,hc,hw]
   ·rw [show decide (0≤v∧v≤(g.nodes.length:Int))=true from hn] at hc;refine .inl ⟨hi',?_,next (by rw [badV,hn];simp)⟩;simp -implicitDefEqProofs (disch:=first|exact zd|fail) only [go_sem,Aa,Ab,hv,hx,hs,hc,hw]
    (show some _=some _;kernel_rfl)
  ·refine .inl ⟨hi',?_,next (by rw [badV,hr,decide_eq_false c1];rfl)⟩;simp -implicitDefEqProofs (disch:=first|exact zd|fail) only [go_sem,Aa,Ab,hv,hx,hs,hw]
   (show some _=some _;kernel_rfl)
 ·obtain rfl:i=vals.length:=by omega
  right;rw [if_pos (vlr.2 fun j v hj=>by rw [Am];exact hp j v (by have:=(Ad.1 hj).1;omega) hj)];unfold round S62 vjh;simp -implicitDefEqProofs (disch:=first|exact zd|fail) only [go_sem,Aa,Ab]
def S61 (ts:List ByteArray) (g:Gr) (i:Nat):St:=⟨[(0,.sz vam (ts.map eStr)),(3,.rf 0),(5,.a (.int .i64 g.nodes.length)),(7,.a (.int .i64 i))],[(0,some (.bx false (uGr g)))],1⟩
def isRetF (o:Out) (e:St):Prop:=o= .ret∧∃nd nx,e=⟨[(4,.a (.bool false))],nd,nx⟩
theorem qnb {d:Nat} {ts:List ByteArray} {g:Gr} (h:Small ts g):
  ∃o e,(if g.nodes.all (objOk ts g.nodes.length)=true then o= .ext 2∧∃nd nx sl,e=⟨sl,nd,nx⟩ else isRetF o e)∧vbt (T (d+1)) vae [0,3,5,7] vct (S61 ts g 0)=some (o,e):=by
 have hn:=h.nodes;have htl:=h.tl;have hww:IntKind.i64.wrap ((ts.length:Int)-1)=ts.length-1:=by rw [vay]<;>omega
 refine qsv (S61 ts g) _ (fun i=>∀(j:Nat) b,j<i→g.nodes[j]? =some b→objOk ts g.nodes.length b=true) (m:=g.nodes.length) (va1 zo) (fun j b h=>by omega) (fun i hi hp=> ?_);by_cases hi':i<g.nodes.length
 ·obtain ⟨o,hb⟩:∃b,g.nodes[i]? =some b:=⟨_,Ac hi'⟩
  have hvl:=h.vals o (Ae hb);have bad (hf:objOk ts g.nodes.length o=false) {o' e':_} (he:isRetF o' e'):(if g.nodes.all (objOk ts g.nodes.length)=true then o'= .ext 2∧∃nd nx sl,e'=⟨sl,nd,nx⟩ else isRetF o' e'):=by
   rw [if_neg (fun hall=>by have:=Af.1 hall o (Ae hb);rw [hf] at this;cases this)];exact he
  have next (hbad:objOk ts g.nodes.length o=true):∀(j:Nat) y,j<i+1→g.nodes[j]? =some y→objOk ts g.nodes.length y=true:=fun j y hj hy=>by
   by_cases hji:j=i
   ·subst hji;rw [hb] at hy;cases hy;exact hbad
   ·exact hp j y zo hy
  have hw:=vaw i zo;obtain ⟨ty,vals⟩:=o;dsimp only at *;have hc:=vcq (Φ:=T d) (N:=vae) (n:=ty) (lo:=0) (hi:=(ts.length:Int)-1);by_cases c1:0≤ty∧ty≤(ts.length:Int)-1
  ·rw [decide_eq_true c1] at hc;obtain ⟨t,rfl⟩:∃t:Nat,ty=(t:Int):=⟨ty.toNat,by omega⟩
   obtain ⟨s,hs⟩:∃s,ts[t]? =some s:=⟨_,Ac zo⟩
   have hss:=h.sz s (Ae hs);have hob:objOk ts g.nodes.length ⟨(t:Int),vals⟩=(decide (vals.length=s.size)&&okVals s g.nodes.length 0 vals):=by
    unfold objOk;rw [show (⟨(t:Int),vals⟩:Obj').ty.toNat=t from Ak t,hs];simp only [show decide (0≤(t:Int))=true from decide_eq_true c1.1,Ah]
   by_cases hz:vals.length=s.size
   ·have key:=qlr (d:=d) ts g i hvl hs hz;unfold S62 at key;rw [decide_eq_true hz,Ah] at hob;cases hv:okVals s g.nodes.length 0 vals
    ·rw [hv] at hob;rw [if_neg (by rw [hv];simp)] at key;have hrd:∃nd nx,round (T (d+1)) vae [0,3,5,7] vct (S61 ts g i)=some (.ret,⟨[(4,.a (.bool false))],nd,nx⟩):=by
      unfold round S61 vct
      exact ⟨_,_,by
       simp -implicitDefEqProofs (disch:=first|exact zd|fail) only [go_sem,Aa,Ab,hb,hc,hw,hww,hs,vgq key]
       rfl⟩
     obtain ⟨nd,nx,hrd⟩:=hrd;exact .inr ⟨_,_,by simp,hrd,bad hob ⟨rfl,nd,nx,rfl⟩⟩
    ·rw [hv] at hob;rw [if_pos hv] at key;refine .inl ⟨hi',?_,next hob⟩;unfold round S61 vct;simp -implicitDefEqProofs (disch:=first|exact zd|fail) only [go_sem,Aa,Ab,hb,hc,hw,hww,hs,va5 key]
     (show some _=some _;kernel_rfl)
   ·rw [decide_eq_false hz,Au] at hob;have hz':¬((vals.length:Int)=(s.size:Int)):=by omega
    have hrd:∃nd nx,round (T (d+1)) vae [0,3,5,7] vct (S61 ts g i)=some (.ret,⟨[(4,.a (.bool false))],nd,nx⟩):=by
     unfold round S61 vct
     exact ⟨_,_,by
      simp -implicitDefEqProofs (disch:=first|exact zd|fail) only [go_sem,Aa,Ab,hb,hc,hw,hww,hs]
      rfl⟩
    obtain ⟨nd,nx,hrd⟩:=hrd;exact .inr ⟨_,_,by simp,hrd,bad hob ⟨rfl,nd,nx,rfl⟩⟩
  ·rw [decide_eq_false c1] at hc;have hob:objOk ts g.nodes.length ⟨ty,vals⟩=false:=by
    unfold objOk;dsimp only;by_cases h0:0≤ty
    ·rw [Ao zo]
    ·rw [show decide (0≤ty)=false from decide_eq_false h0];split<;>rfl
   have hrd:∃nd nx,round (T (d+1)) vae [0,3,5,7] vct (S61 ts g i)=some (.ret,⟨[(4,.a (.bool false))],nd,nx⟩):=by
    unfold round S61 vct
    exact ⟨_,_,by
     simp -implicitDefEqProofs (disch:=first|exact zd|fail) only [go_sem,Aa,Ab,hb,hc,hw,hww]
     rfl⟩
   obtain ⟨nd,nx,hrd⟩:=hrd;exact .inr ⟨_,_,by simp,hrd,bad hob ⟨rfl,nd,nx,rfl⟩⟩
 ·obtain rfl:i=g.nodes.length:=by omega
  right;have hall:g.nodes.all (objOk ts g.nodes.length)=true:=Af.2 fun b hb=>by
   obtain ⟨j,hj,rfl⟩:=Ag.1 hb;exact hp j _ hj (Ac hj)
  have hrd:∃nd nx sl,round (T (d+1)) vae [0,3,5,7] vct (S61 ts g g.nodes.length)=some (.ext 2,⟨sl,nd,nx⟩):=by
   unfold round S61 vct
   exact ⟨_,_,_,by
    simp -implicitDefEqProofs (disch:=first|exact zd|fail) only [go_sem,Aa,Ab]
    rfl⟩
  obtain ⟨nd,nx,sl,hrd⟩:=hrd;exact ⟨_,_,by simp,hrd,by rw [if_pos hall];exact ⟨rfl,nd,nx,sl,rfl⟩⟩
theorem vze {d:Nat} {ts:List ByteArray} {g:Gr} (h:Small ts g):vaf (T (d+3)) vae vdh [.sl true vam (ts.map eStr),cGr true g]=some ([.a (.bool (graphOk ts g))],[]):=by
 have h1:=vzf (d:=d) ts h.tl h.sz;have h2:=qmm (d:=d+2) ts g h.roots;obtain ⟨o,e,h4,h3⟩:=qnb (d:=d+2) h;unfold S60 at h2;unfold S61 at h3;rw [vab rfl];unfold graphOk;have hr:=h.roots;have hn:=h.nodes;cases ht:vku ts
 ·rw [ht] at h1;simp -implicitDefEqProofs (disch:=first|exact zd|fail) only [go_sem,Aa,Ab,vdh,vgk,h1]
 ·rw [ht] at h1;by_cases c1:g.roots.length≤40
  ·rw [decide_eq_true c1];by_cases c2:g.nodes.length≤400
   ·rw [decide_eq_true c2];cases c3:g.roots.all (isN g.nodes.length)
    ·rw [if_neg (by rw [c3];simp)] at h2;simp -implicitDefEqProofs (disch:=first|exact zd|fail) only [go_sem,Aa,Ab,vdh,vgk,h1,vgq h2]
    ·rw [if_pos c3] at h2;cases c4:g.nodes.all (objOk ts g.nodes.length)
     ·rw [if_neg (by rw [c4];simp)] at h4;obtain ⟨rfl,nd,nx,rfl⟩:=h4;simp -implicitDefEqProofs (disch:=first|exact zd|fail) only [go_sem,Aa,Ab,vdh,vgk,h1,va5 h2,vgq h3]
     ·rw [if_pos c4] at h4;obtain ⟨rfl,nd,nx,sl,rfl⟩:=h4;simp -implicitDefEqProofs (disch:=first|exact zd|fail) only [go_sem,Aa,Ab,vdh,vgk,h1,va5 h2,va5 h3]
   ·rw [decide_eq_false c2];simp -implicitDefEqProofs (disch:=first|exact zd|fail) only [go_sem,Aa,Ab,vdh,vgk,h1]
  ·rw [decide_eq_false c1];simp -implicitDefEqProofs (disch:=first|exact zd|fail) only [go_sem,Aa,Ab,vdh,vgk,h1]

/- Words and their bytes: the reference's. Configs and their lines: the reference's. Epochs and records and their lines: the reference's. Configs read: the reference's. -/
import Derived.Test.YtkidnhclcbcglaaGreatLawRead
import Derived.Test.YtkidnhclcbcglaaGreatLawT
namespace Go.Proofs.YtkidnhclcbcglaaGreat.VM
open Go Sy
variable {Φ:Nat→Option Callee} {N:Nat}
set_option maxRecDepth 100000
set_option maxHeartbeats 8000000
theorem zfg {s:ByteArray} {lo hi:Int} {st:St} (h0:0≤lo) (h1:lo≤hi) (h2:hi≤(s.size:Int)):M.run (strAt (.a (.string s)) (some lo) (some hi)) st=M.run (.pure (.a (.string (s.extract lo.toNat hi.toNat)))) st:=by
 simp only [strAt,Option.getD_some]
 rw [if_pos ⟨h0,h1,h2⟩]
theorem zd3 {s:ByteArray} {lo:Int} {st:St} (h0:0≤lo) (h1:lo≤(s.size:Int)):M.run (strAt (.a (.string s)) (some lo) none) st=M.run (.pure (.a (.string (s.extract lo.toNat s.size)))) st:=by
 simp only [strAt,Option.getD_some,Option.getD_none]
 rw [if_pos ⟨h0,h1,Int.le_refl _⟩]
 rfl
theorem zfk {s:ByteArray} {hi:Int} {st:St} (h1:0≤hi) (h2:hi≤(s.size:Int)):M.run (strAt (.a (.string s)) none (some hi)) st=M.run (.pure (.a (.string (s.extract 0 hi.toNat)))) st:=by
 simp only [strAt,Option.getD_some,Option.getD_none]
 rw [if_pos ⟨Int.le_refl _,h1,h2⟩]
 rfl
attribute [go_sem ↓] zfg zd3 zfk
def wB (n:Int) (i:Nat):Nat:=((IntKind.u64.wrap n).toNat/2^(56-8 * i))%256
def wL (n:Int) (i:Nat):List Nat:=(List.range 8).map fun j=>if j<i then wB n j else 0
def strN (l:List Nat):ByteArray:=⟨(l.map UInt8.ofNat).toArray⟩
theorem vp3:∀(l:List Nat),u8of (l.map eU8)=some (l.map UInt8.ofNat)
 | []=>rfl
 |x::l=>by
  rw [List.map_cons,eU8,qmi,vp3 l]
  simp [u8c]
theorem qn5 (n:Int) (i:Nat):(wL n i).length=8:=by simp [wL]
theorem qw8 (n:Int) {i:Nat} (h:i<8):(wL n i).set i (wB n i)=wL n (i+1):=by
 apply List.ext_getElem?
 intro j
 simp only [wL,List.getElem?_set,List.getElem?_map,List.length_map,List.length_range]
 by_cases c:i=j
 ·subst c
  rw [if_pos rfl,if_pos h,List.getElem?_range h]
  simp
 ·rw [if_neg c]
  by_cases cj:j<8
  ·rw [List.getElem?_range cj]
   simp only [Option.map_some]
   by_cases c1:j<i
   ·rw [if_pos c1,if_pos zo]
   ·rw [if_neg c1,if_neg zo]
  ·rw [List.getElem?_eq_none (by simpa using cj)];rfl
theorem qsf (a:Int) (b:Nat) (h:b≤64):binT .shr (.a (.int .u64 a)) (.a (.int .u64 (b:Nat)))=some (.a (.int .u64 (a.fdiv (2^b)))):=by
 have h0:¬((b:Int)<0):=by omega
 show (if (b:Int)<0 then none else some (Value.int .u64 (a.fdiv (2^(min (b:Int).toNat 64))))).map TV.a=_
 rw [if_neg h0,Int.toNat_natCast,Nat.min_eq_left h]
 rfl
theorem qfv (l:List Nat) (i x:Nat):(l.map eU8).set i (PV.a (.int .u8 (x:Nat)))=(l.set i x).map eU8:=by
 rw [List.map_set];rfl
theorem qzy (n:Int) (i:Nat):IntKind.u8.wrap ((IntKind.u64.wrap n).fdiv (2^(56-8 * i)))=(wB n i:Nat):=by
 obtain ⟨m,hm,e⟩:=qem n
 unfold wB
 rw [e,Int.toNat_natCast,show ((2:Int)^(56-8 * i))=((2^(56-8 * i):Nat):Int) from (Int.natCast_pow 2 _).symm]
 generalize 2^(56-8 * i)=q
 rw [Int.fdiv_eq_ediv_of_nonneg _ (Int.natCast_nonneg _)]
 show ((m:Int)/(q:Int))%256=((m/q%256:Nat):Int)
 omega
theorem qfe (n:Int):va4 Φ vab [0,3,4] vi4 ⟨[(0,.a (.int .i64 n)),(3,.rf 0),(4,.a (.int .i64 (0:Nat)))],[(0,some (.sl false 0 vcg ((wL n 0).map eU8)))],1⟩=
  some (.ext 0,⟨[(0,.a (.int .i64 n)),(3,.rf 0),(4,.a (.int .i64 (8:Nat))),(7,.a (.bool false))],[(0,some (.sl false 0 vcg ((wL n 8).map eU8)))],201⟩):=by
 refine vcc (m:=8) (fun i=>⟨[(0,.a (.int .i64 n)),(3,.rf 0),(4,.a (.int .i64 (i:Nat)))],[(0,some (.sl false 0 vcg ((wL n i).map eU8)))],1⟩) _ (vaw zo) (fun i hi=> ?_) ?_
 ·have hw:=var i zo
  have hlt:(i:Int)<8:=by omega
  have hl:=qn5 n i
  have e1:IntKind.u64.wrap (IntKind.i64.wrap (56-IntKind.i64.wrap (8 * (i:Int))))=((56-8 * i:Nat):Int):=by
   rw [vai (8 * (i:Int)) zo zo,vai _ zo zo,vie _ zo zo]
   omega
  have e2:=qsf (IntKind.u64.wrap n) (56-8 * i) zo
  have e3:=qzy n i
  have e4:=qw8 n hi
  have e5:(wL n i)[i]? =some (wL n i)[i]:=List.getElem?_eq_getElem zo
  generalize (wL n i)[i]=y at e5
  unfold round vi4
  simp (implicitDefEqProofs:=false) (disch:=first|exact zd|fail) only [go_sem,Nat.reduceAdd,Nat.reduceBEq,hw,hlt,e1,e2,e3,e5,qfv,e4]
  (show some _=some _;kernel_rfl)
 ·unfold round vi4
  simp (implicitDefEqProofs:=false) (disch:=first|exact zd|fail) only [go_sem,Nat.reduceAdd,Nat.reduceBEq]
def vbs (n:Int):ByteArray:=strN (wL n 8)
theorem vgc (n:Int):vaf Φ vab vgx [.a (.int .i64 n)]=some ([.a (.string (vbs n))],[]):=by
 have key:=qfe (Φ:=Φ) n
 have h0:(List.replicate 8 (PV.a (.int .u8 0)))=(wL n 0).map eU8:=by simp [wL,eU8,List.range,List.range.loop]
 have hu:=vp3 (wL n 8)
 rw [vag rfl]
 simp (implicitDefEqProofs:=false) (disch:=first|exact zd|fail) only [go_sem,Nat.reduceAdd,Nat.reduceBEq,vgx,vr2,van key,hu,h0]
 rfl
theorem vco (n:Int):(vbs n).size=8:=by show (List.map UInt8.ofNat (wL n 8)).toArray.size=8;simp [qn5]
def zerosB (n:Nat):ByteArray:=strN (List.replicate n 0)
theorem vid (n:Nat):(zerosB n).size=n:=by show (List.map UInt8.ofNat (List.replicate n 0)).toArray.size=n;simp
theorem vkt (n:Nat) (h:n≤140737488355328):vaf Φ N vig [.a (.int .i64 (n:Nat))]=some ([.a (.string (zerosB n))],[]):=by
 have h0:(List.replicate n (PV.a (.int .u8 0)))=(List.replicate n 0).map eU8:=by rw [List.map_replicate];rfl
 have hu:=vp3 (List.replicate n 0)
 rw [vag rfl]
 simp (implicitDefEqProofs:=false) (disch:=first|exact zd|fail) only [go_sem,Nat.reduceAdd,Nat.reduceBEq,vig,vto,h0,hu]
 rfl
def rdStep (x:Nat) (b:UInt8):Nat:=(x * 256+b.toNat)%18446744073709551616
def vct (s:ByteArray):Int:=IntKind.i64.wrap ((ch s).foldl rdStep 0:Nat)
theorem qqd (x b:Nat) (hb:b<256):iOr IntKind.u64 (IntKind.u64.wrap ((x:Int) * 2^min (Int.toNat 8) 64)) (IntKind.u64.wrap (b:Nat))=((x * 256+b)%18446744073709551616:Nat):=by
 have e1:IntKind.u64.wrap ((x:Int) * 2^min (Int.toNat 8) 64)=(((x%72057594037927936) * 256:Nat):Int):=by
  show ((x:Int) * 256)%18446744073709551616=_
  omega
 have e2:IntKind.u64.wrap (b:Nat)=(b:Nat):=vie _ zo zo
 have e3:(x * 256+b)%18446744073709551616=(x%72057594037927936) * 256+b:=by omega
 rw [e1,e2,e3]
 generalize hy:x%72057594037927936=y
 have hyl:y<72057594037927936:=by omega
 show IntKind.u64.wrap (BitVec.ofInt 64 ((y * 256:Nat):Int)|||BitVec.ofInt 64 (b:Int)).toNat=_
 rw [BitVec.toNat_or,BitVec.ofInt_natCast,BitVec.ofInt_natCast,BitVec.toNat_ofNat,BitVec.toNat_ofNat,Nat.mod_eq_of_lt zo,Nat.mod_eq_of_lt zo]
 have h:=Nat.shiftLeft_add_eq_or_of_lt (show b<2^8 by omega) y
 rw [Nat.shiftLeft_eq] at h
 rw [show y * 256=y * 2^8 from rfl,←h]
 exact vie _ zo zo
theorem qhl {s:ByteArray} (hs:s.size=8):va4 Φ vab [0,4,5] vhc ⟨[(0,.a (.string s)),(4,.a (.int .u64 (0:Nat))),(5,.a (.int .i64 (0:Nat)))],[],0⟩=
  some (.ext 0,⟨[(0,.a (.string s)),(4,.a (.int .u64 ((ch s).foldl rdStep 0:Nat))),(5,.a (.int .i64 (8:Nat))),(10,.a (.bool false))],[],200⟩):=by
 have hl:(ch s).length=8:=by rw [←veh];exact hs
 have key:=(vei (Φ:=Φ) (N:=vab) (live:= [0,4,5]) (b:=vhc) (ch s) (fun i x=>⟨[(0,.a (.string s)),(4,.a (.int .u64 (x:Nat))),(5,.a (.int .i64 (i:Nat)))],[],0⟩) (fun _ x=>x<18446744073709551616) rdStep
  (fun x=>⟨[(0,.a (.string s)),(4,.a (.int .u64 (x:Nat))),(5,.a (.int .i64 ((ch s).length:Nat))),(10,.a (.bool false))],[],200⟩) (id:=0) (vaw zo) (a0:=0) zo (fun i b x hb hx=> ?_) fun x hx=> ?_).1
 ·rw [hl] at key;exact key
 ·have hi:i<8:=by have:=(List.getElem?_eq_some_iff.1 hb).1;omega
  have hw:=var i zo
  have hlt:(i:Int)<8:=by omega
  have hx:=vn6 hb
  have ho:=qqd x b.toNat b.toNat_lt
  refine ⟨?_,Nat.mod_lt _ zo⟩
  unfold round rdStep vhc
  simp (implicitDefEqProofs:=false) (disch:=first|exact zd|fail) only [go_sem,Nat.reduceAdd,Nat.reduceBEq,hw,hlt,hx,ho]
  (show some _=some _;kernel_rfl)
 ·rw [hl]
  unfold round vhc
  simp (implicitDefEqProofs:=false) (disch:=first|exact zd|fail) only [go_sem,Nat.reduceAdd,Nat.reduceBEq]
theorem vk8 (s:ByteArray):vaf Φ vab vfy [.a (.string s)]=some ([.a (.int .i64 (if s.size=8 then vct s else 0)),.a (.bool (decide (s.size=8)))],[]):=by
 rw [vag rfl]
 by_cases hs:s.size=8
 ·have key:=qhl (Φ:=Φ) hs
  rw [if_pos hs,decide_eq_true hs]
  simp (implicitDefEqProofs:=false) (disch:=first|exact zd|fail) only [go_sem,Nat.reduceAdd,Nat.reduceBEq,vfy,vok,van key,hs]
  rfl
 ·have hs':¬(s.size:Int)=8:=by omega
  rw [if_neg hs,decide_eq_false hs]
  simp (implicitDefEqProofs:=false) (disch:=first|exact zd|fail) only [go_sem,Nat.reduceAdd,Nat.reduceBEq,vfy,vok,hs']
def ve3 (n:Int):ByteArray:=if 0≤n∧n≤65535 then (vbs n).extract 6 8 else ⟨#[]⟩
theorem vlm {d:Nat} (n:Int):vaf (T (d+1)) vab vem [.a (.int .i64 n)]=some ([.a (.string (ve3 n))],[]):=by
 have h1:=vgc (Φ:=T d) n
 have hz:=vco n
 rw [vag rfl]
 unfold ve3
 by_cases c:0≤n∧n≤65535
 ·rw [if_pos c]
  generalize vbs n=s at *
  have e6:Int.toNat 6=6:=rfl
  simp (implicitDefEqProofs:=false) (disch:=first|exact zd|fail) only [go_sem,Nat.reduceAdd,Nat.reduceBEq,vem,vl8,decide_eq_true c,h1,hz,e6]
 ·rw [if_neg c]
  simp (implicitDefEqProofs:=false) (disch:=first|exact zd|fail) only [go_sem,Nat.reduceAdd,Nat.reduceBEq,vem,vl8,decide_eq_false c]
def vb0 (s:ByteArray):Int:=match ch s with
 | [a,b]=>a.toNat * 256+b.toNat
 |_=>0
theorem vme (s:ByteArray):vaf Φ N ve6 [.a (.string s)]=some ([.a (.int .i64 (vb0 s)),.a (.bool (decide (s.size=2)))],[]):=by
 rw [vag rfl]
 by_cases hs:s.size=2
 ·have hl:(ch s).length=2:=by rw [←veh];exact hs
  obtain ⟨a,b,hab⟩:∃a b,ch s= [a,b]:=by
   match h:ch s,hl with
   | [a,b],_=>exact ⟨a,b,rfl⟩
  have h0:ixT (.a (.string s)) (.a (.int .i64 0))=some (.a (.int .u8 a.toNat)):=vn6 (s:=s) (i:=0) (b:=a) (by rw [hab];rfl)
  have h1:ixT (.a (.string s)) (.a (.int .i64 1))=some (.a (.int .u8 b.toNat)):=vn6 (s:=s) (i:=1) (b:=b) (by rw [hab];rfl)
  have ha:=a.toNat_lt
  have hb:=b.toNat_lt
  have e0:IntKind.i64.wrap (a.toNat:Int)=a.toNat:=vai _ zo zo
  have e1:IntKind.i64.wrap (b.toNat:Int)=b.toNat:=vai _ zo zo
  have e2:IntKind.i64.wrap ((a.toNat:Int) * 256)=a.toNat * 256:=vai _ zo zo
  have e3:IntKind.i64.wrap ((a.toNat:Int) * 256+b.toNat)=a.toNat * 256+b.toNat:=vai _ zo zo
  rw [decide_eq_true hs]
  unfold vb0
  rw [hab]
  simp (implicitDefEqProofs:=false) (disch:=first|exact zd|fail) only [go_sem,Nat.reduceAdd,Nat.reduceBEq,ve6,vm3,hs,h0,h1,e0,e1,e2,e3]
 ·have hs':¬(s.size:Int)=2:=by omega
  rw [decide_eq_false hs]
  have:vb0 s=0:=by
   unfold vb0
   split
   ·rename_i a b h
    exact absurd (by rw [veh,h];rfl) hs
   ·rfl
  rw [this]
  simp (implicitDefEqProofs:=false) (disch:=first|exact zd|fail) only [go_sem,Nat.reduceAdd,Nat.reduceBEq,ve6,vm3,hs']
def crcBit (c:Nat):Nat:=if c%2=1 then (c/2)^^^3988292384 else c/2
def crcByte (c:Nat) (b:UInt8):Nat:=(List.range 8).foldl (fun c _=>crcBit c) (c^^^b.toNat)
def crcOf (s:ByteArray):Nat:=(ch s).foldl crcByte 4294967295^^^4294967295
def crcB (c:Nat):ByteArray:=strN [c/16777216%256,c/65536%256,c/256%256,c%256]
theorem vom (x y:Nat) (hx:x<4294967296) (hy:y<4294967296):iXor IntKind.u32 (x:Nat) (y:Nat)=((x^^^y:Nat):Int)∧x^^^y<4294967296:=by
 have hl:x^^^y<2^32:=Nat.xor_lt_two_pow zo zo
 refine ⟨?_,by omega⟩
 show IntKind.u32.wrap (BitVec.ofInt 32 (x:Int)^^^BitVec.ofInt 32 (y:Int)).toNat=_
 rw [BitVec.toNat_xor,BitVec.ofInt_natCast,BitVec.ofInt_natCast,BitVec.toNat_ofNat,BitVec.toNat_ofNat,Nat.mod_eq_of_lt zo,Nat.mod_eq_of_lt zo]
 show ((x^^^y:Nat):Int)%4294967296=_
 omega
theorem qlr {c:Nat} (h:c<4294967296):crcBit c<4294967296:=by
 unfold crcBit
 split
 ·exact (vom (c/2) 3988292384 zo zo).2
 ·omega
theorem qxd {s:ByteArray} (i c:Nat) (hc:c<4294967296):va4 Φ vab [0,3,4,5] vjo ⟨[(0,.a (.string s)),(3,.a (.int .u32 c)),(4,.a (.int .i64 (i:Nat))),(5,.a (.int .i64 (0:Nat)))],[],0⟩=
  some (.ext 2,⟨[(0,.a (.string s)),(3,.a (.int .u32 ((List.range 8).foldl (fun c _=>crcBit c) c:Nat))),(4,.a (.int .i64 (i:Nat))),(5,.a (.int .i64 (8:Nat))),(19,.a (.bool false))],[],200⟩)∧(List.range 8).foldl (fun c _=>crcBit c) c<4294967296:=by
 have key:=(vei (Φ:=Φ) (N:=vab) (live:= [0,3,4,5]) (b:=vjo) (List.range 8) (fun j c=>⟨[(0,.a (.string s)),(3,.a (.int .u32 (c:Nat))),(4,.a (.int .i64 (i:Nat))),(5,.a (.int .i64 (j:Nat)))],[],0⟩) (fun _ c=>c<4294967296) (fun c _=>crcBit c)
  (fun c=>⟨[(0,.a (.string s)),(3,.a (.int .u32 (c:Nat))),(4,.a (.int .i64 (i:Nat))),(5,.a (.int .i64 ((List.range 8).length:Nat))),(19,.a (.bool false))],[],200⟩) (id:=2) (vaw (by simp)) (a0:=c) hc (fun j k c hj hc=> ?_) fun c hc=> ?_)
 ·exact key
 ·have hj8:j<8:=by have:=(List.getElem?_eq_some_iff.1 hj).1;simpa using this
  have hw:=var j zo
  have hlt:(j:Int)<8:=by omega
  refine ⟨?_,qlr hc⟩
  have hsh:(c:Int).fdiv (2^min (Int.toNat 1) 32)=((c/2:Nat):Int):=by
   show (c:Int).fdiv 2=_
   rw [Int.fdiv_eq_ediv_of_nonneg _ zo]
   omega
  have hx:=(vom (c/2) 3988292384 zo zo).1
  have hr:(c:Int).tmod 2=((c%2:Nat):Int):=(Int.ofNat_tmod c 2).symm
  rw [show ((3988292384:Nat):Int)=3988292384 from rfl] at hx
  unfold round crcBit vjo
  by_cases h1:c%2=1
  ·rw [if_pos h1]
   have h1':(c:Int).tmod 2=1:=by omega
   simp (implicitDefEqProofs:=false) (disch:=first|exact zd|fail) only [go_sem,Nat.reduceAdd,Nat.reduceBEq,hw,hlt,h1',hsh,hx]
   (show some _=some _;kernel_rfl)
  ·rw [if_neg h1]
   have h1':¬(c:Int).tmod 2=1:=by omega
   simp (implicitDefEqProofs:=false) (disch:=first|exact zd|fail) only [go_sem,Nat.reduceAdd,Nat.reduceBEq,hw,hlt,h1',hsh]
   (show some _=some _;kernel_rfl)
 ·unfold round vjo
  simp (implicitDefEqProofs:=false) (disch:=first|exact zd|fail) only [go_sem,Nat.reduceAdd,Nat.reduceBEq,List.length_range]
theorem qkc {c:Nat} {b:UInt8} (h:c<4294967296):c^^^b.toNat<4294967296:=(vom c b.toNat h (by have:=b.toNat_lt;omega)).2
theorem qw1 {s:ByteArray} (hs:s.size≤1048576):va4 Φ vab [0,3,4] vje ⟨[(0,.a (.string s)),(3,.a (.int .u32 (4294967295:Nat))),(4,.a (.int .i64 (0:Nat)))],[],0⟩=
  some (.ext 0,⟨[(0,.a (.string s)),(3,.a (.int .u32 ((ch s).foldl crcByte 4294967295:Nat))),(4,.a (.int .i64 (s.size:Nat))),(9,.a (.bool false))],[],400⟩)∧(ch s).foldl crcByte 4294967295<4294967296:=by
 have key:=(vei (Φ:=Φ) (N:=vab) (live:= [0,3,4]) (b:=vje) (ch s) (fun i c=>⟨[(0,.a (.string s)),(3,.a (.int .u32 (c:Nat))),(4,.a (.int .i64 (i:Nat)))],[],0⟩) (fun _ c=>c<4294967296) crcByte
  (fun c=>⟨[(0,.a (.string s)),(3,.a (.int .u32 (c:Nat))),(4,.a (.int .i64 ((ch s).length:Nat))),(9,.a (.bool false))],[],400⟩) (id:=0) (vaw (by rw [←veh];omega)) (a0:=4294967295) zo (fun i b c hb hc=> ?_) fun c hc=> ?_)
 ·rw [←veh] at key;exact key
 ·have hi:i<s.size:=by rw [veh];exact (List.getElem?_eq_some_iff.1 hb).1
  have hw:=var i zo
  have hlt:(i:Int)<s.size:=by omega
  have hx:=vn6 hb
  have hbl:=b.toNat_lt
  have e1:IntKind.u32.wrap (b.toNat:Int)=(b.toNat:Int):=by show (b.toNat:Int)%4294967296=_;omega
  have e2:=(vom c b.toNat hc zo).1
  obtain ⟨k1,k2⟩:=qxd (Φ:=Φ) (s:=s) i (c^^^b.toNat) (qkc hc)
  refine ⟨?_,k2⟩
  unfold crcByte
  unfold round vje
  simp (implicitDefEqProofs:=false) (disch:=first|exact zd|fail) only [go_sem,Nat.reduceAdd,Nat.reduceBEq,hw,hlt,hx,e1,e2,van k1]
  (show some _=some _;kernel_rfl)
 ·rw [←veh]
  unfold round vje
  simp (implicitDefEqProofs:=false) (disch:=first|exact zd|fail) only [go_sem,Nat.reduceAdd,Nat.reduceBEq]
theorem qoi {s:ByteArray} (hs:s.size≤1048576):vaf Φ vab vj7 [.a (.string s)]=some ([.a (.string (crcB (crcOf s)))],[]):=by
 obtain ⟨k1,k2⟩:=qw1 (Φ:=Φ) hs
 rw [vag rfl]
 unfold crcOf
 generalize (ch s).foldl crcByte 4294967295=c at *
 have hux:unT .xor (.a (.int .u32 (c:Nat)))=some (.a (.int .u32 ((c^^^4294967295:Nat):Int))):=by
  have h:=(vom 4294967295 c zo k2).1
  rw [Nat.xor_comm c,←h]
  rfl
 have hcl:=(vom c 4294967295 k2 zo).2
 generalize c^^^4294967295=x at *
 have sh (k:Nat):IntKind.u8.wrap ((x:Int).fdiv ((k:Nat):Int))=((x/k%256:Nat):Int):=by
  rw [Int.fdiv_eq_ediv_of_nonneg _ zo]
  show ((x:Int)/(k:Int))%256=_
  omega
 have s1:IntKind.u8.wrap ((x:Int).fdiv (2^min (Int.toNat 24) 32))=((x/16777216%256:Nat):Int):=sh 16777216
 have s2:IntKind.u8.wrap ((x:Int).fdiv (2^min (Int.toNat 16) 32))=((x/65536%256:Nat):Int):=sh 65536
 have s3:IntKind.u8.wrap ((x:Int).fdiv (2^min (Int.toNat 8) 32))=((x/256%256:Nat):Int):=sh 256
 have s4:IntKind.u8.wrap (x:Int)=((x%256:Nat):Int):=by show (x:Int)%256=_;omega
 simp (implicitDefEqProofs:=false) (disch:=first|exact zd|fail) only [go_sem,Nat.reduceAdd,Nat.reduceBEq,vj7,vwn,van k1,hux,s1,s2,s3,s4,Int.toNat_natCast]
 rfl
theorem qcu (c:Nat):(crcB c).size=4:=rfl
def sealed (s:ByteArray):ByteArray:=if 60<s.size then ⟨#[]⟩ else s++zerosB (60-s.size)++crcB (crcOf (s++zerosB (60-s.size)))
theorem vyc (s:ByteArray):(sealed s).size=if 60<s.size then 0 else 64:=by
 unfold sealed
 split
 ·rfl
 ·rw [ByteArray.size_append,ByteArray.size_append,vid,qcu];omega
theorem vud {d:Nat} (s:ByteArray) (hs:s.size≤9223372036854775807):vaf (T (d+1)) vab vhu [.a (.string s)]=some ([.a (.string (sealed s))],[]):=by
 rw [vag rfl]
 unfold sealed
 by_cases c:60<s.size
 ·have c':(60:Int)<s.size:=by omega
  rw [if_pos c]
  simp (implicitDefEqProofs:=false) (disch:=first|exact zd|fail) only [go_sem,Nat.reduceAdd,Nat.reduceBEq,vhu,vqw,c']
  done
 ·have c':¬(60:Int)<s.size:=by omega
  have e1:IntKind.i64.wrap (60-(s.size:Int))=((60-s.size:Nat):Int):=by rw [vai _ zo zo];omega
  have h1:=vkt (Φ:=T d) (N:=vab) (60-s.size) zo
  have hz:=vid (60-s.size)
  generalize zerosB (60-s.size)=z at *
  have hsz:(s++z).size=60:=by rw [ByteArray.size_append];omega
  have h2:=qoi (Φ:=T d) (s:=s++z) zo
  have hc:=qcu (crcOf (s++z))
  rw [if_neg c]
  generalize crcB (crcOf (s++z))=y at *
  simp (implicitDefEqProofs:=false) (disch:=first|exact zd|fail) only [go_sem,Nat.reduceAdd,Nat.reduceBEq,vhu,vqw,c',e1,h1,h2]
  done
def runOf (s:ByteArray):Int:=if okType s=true then (((s.size+8)/8:Nat):Int) else 0
theorem vik {d:Nat} (s:ByteArray) (hs:s.size≤1048576):vaf (T (d+2)) vab viq [.a (.string s)]=some ([.a (.int .i64 (runOf s))],[]):=by
 have h1:=vzx (d:=d) s hs
 rw [vag rfl]
 unfold runOf
 cases hk:okType s
 ·rw [hk] at h1
  simp (implicitDefEqProofs:=false) (disch:=first|exact zd|fail) only [go_sem,Nat.reduceAdd,Nat.reduceBEq,viq,vrl,h1]
 ·rw [hk] at h1
  have e1:IntKind.i64.wrap (1+(s.size:Int))=((s.size+1:Nat):Int):=by rw [vai _ zo zo];omega
  have e2:IntKind.i64.wrap (((s.size+1:Nat):Int)+7)=((s.size+8:Nat):Int):=by rw [vai _ zo zo];omega
  have e3:IntKind.i64.wrap (Int.tdiv ((s.size+8:Nat):Int) 8)=(((s.size+8)/8:Nat):Int):=by
   rw [show Int.tdiv ((s.size+8:Nat):Int) 8=(((s.size+8)/8:Nat):Int) from (Int.ofNat_tdiv _ 8).symm,vai]<;>omega
  simp (implicitDefEqProofs:=false) (disch:=first|exact zd|fail) only [go_sem,Nat.reduceAdd,Nat.reduceBEq,viq,vrl,h1,e1,e2,e3]
structure Cf where
 lines:Int
 log:Int
 young:Int
 types:List ByteArray
abbrev cCf (z:Bool) (c:Cf):CV:= .st [.a (.int .i64 c.lines),.a (.int .i64 c.log),.a (.int .i64 c.young),.sl z va9 (c.types.map eStr)]
abbrev uCf (c:Cf):List TV:= [.a (.int .i64 c.lines),.a (.int .i64 c.log),.a (.int .i64 c.young),.sz va9 (c.types.map eStr)]
def confOk (c:Cf):Bool:=decide (8≤c.lines∧c.lines≤128)&&decide (1≤c.log∧c.log≤32)&&decide (c.log≤c.lines-5)&&decide (2≤c.young∧c.young≤400)&&vg6 c.types
structure CfSm (c:Cf):Prop where
 l: -9223372036854775000≤c.lines∧c.lines≤9223372036854775000
 n:c.types.length≤1048576
 t:∀s∈c.types,s.size≤1048576
theorem vlu {d:Nat} {c:Cf} (hc:CfSm c):vaf (T (d+3)) vab vdk [cCf true c]=some ([.a (.bool (confOk c))],[]):=by
 have h1:=vnb (d:=d) c.types hc.n hc.t
 have e1:IntKind.i64.wrap (c.lines-5)=c.lines-5:=vai _ (by have:=hc.l;omega) (by have:=hc.l;omega)
 rw [vag rfl]
 unfold confOk
 obtain ⟨L,G,Y,ts⟩:=c
 dsimp only at *
 generalize vg6 ts=k at *
 by_cases c1:8≤L∧L≤128
 ·rw [decide_eq_true c1]
  by_cases c2:1≤G∧G≤32
  ·rw [decide_eq_true c2]
   by_cases c3:G≤L-5
   ·rw [decide_eq_true c3]
    by_cases c4:2≤Y∧Y≤400
    ·rw [decide_eq_true c4]
     simp (implicitDefEqProofs:=false) (disch:=first|exact zd|fail) only [go_sem,Nat.reduceAdd,Nat.reduceBEq,vdk,vhk,h1,e1,decide_eq_true c1,decide_eq_true c2,c3,decide_eq_true c4]
    ·rw [decide_eq_false c4]
     simp (implicitDefEqProofs:=false) (disch:=first|exact zd|fail) only [go_sem,Nat.reduceAdd,Nat.reduceBEq,vdk,vhk,h1,e1,decide_eq_true c1,decide_eq_true c2,c3,decide_eq_false c4]
   ·rw [decide_eq_false c3]
    simp (implicitDefEqProofs:=false) (disch:=first|exact zd|fail) only [go_sem,Nat.reduceAdd,Nat.reduceBEq,vdk,vhk,h1,e1,decide_eq_true c1,decide_eq_true c2,c3]
  ·rw [decide_eq_false c2]
   simp (implicitDefEqProofs:=false) (disch:=first|exact zd|fail) only [go_sem,Nat.reduceAdd,Nat.reduceBEq,vdk,vhk,h1,e1,decide_eq_true c1,decide_eq_false c2]
 ·rw [decide_eq_false c1]
  simp (implicitDefEqProofs:=false) (disch:=first|exact zd|fail) only [go_sem,Nat.reduceAdd,Nat.reduceBEq,vdk,vhk,h1,e1,decide_eq_false c1]
structure Conf (c:Cf):Prop where
 l0:8≤c.lines
 l1:c.lines≤128
 g0:1≤c.log
 g1:c.log≤32
 g2:c.log≤c.lines-5
 y0:2≤c.young
 y1:c.young≤400
 n0:1≤c.types.length
 n1:c.types.length≤12
 ty:∀s∈c.types,1≤s.size∧s.size≤23
 ok:∀s∈c.types,okType s=true
theorem Conf.of {c:Cf} (h:confOk c=true):Conf c:=by
 unfold confOk vg6 at h
 simp only [Bool.and_eq_true,decide_eq_true_eq,List.all_eq_true] at h
 obtain ⟨⟨⟨⟨h1,h2⟩,h3⟩,h4⟩,h5,h6⟩:=h
 refine ⟨h1.1,h1.2,h2.1,h2.2,h3,h4.1,h4.2,h5.1,h5.2,fun s hs=> ?_,h6⟩
 have:=h6 s hs
 unfold okType at this
 simp only [Bool.and_eq_true,decide_eq_true_eq] at this
 exact this.1
def u8n (x:Int):Nat:=(x%256).toNat
theorem qb8 (x:Int):IntKind.u8.wrap x=(u8n x:Nat):=by show x%256=_;unfold u8n;omega
def maskStep (p:Nat×Int) (b:UInt8):Nat×Int:=(p.1+1,if (b.toNat:Int)=114 then iOr .i64 p.2 (IntKind.i64.wrap (1 * 2^min p.1 64)) else p.2)
def maskOf (s:ByteArray):Int:=((ch s).foldl maskStep (0,0)).2
def typeB (s:ByteArray):ByteArray:=strN [u8n s.size,u8n ((maskOf s).fdiv 65536),u8n ((maskOf s).fdiv 256),u8n (maskOf s)]
theorem qkn (s:ByteArray):(typeB s).size=4:=rfl
theorem qt2 (a:Int) (b:Nat):binT .shl (.a (.int .i64 a)) (.a (.int .u64 (b:Nat)))=some (.a (.int .i64 (IntKind.i64.wrap (a * 2^min b 64)))):=by
 have h0:¬((b:Int)<0):=by omega
 show (if (b:Int)<0 then none else some (Value.int .i64 (IntKind.i64.wrap (a * 2^(min (b:Int).toNat 64))))).map TV.a=_
 rw [if_neg h0,Int.toNat_natCast]
 rfl
theorem qi1 {c:Cf} (hc:Conf c) {i:Nat} {s acc:ByteArray} (hs:c.types[i]? =some s):va4 Φ vab [1,3,4,5,6] vh4 ⟨[(1,.rf 0),(3,.a (.string acc)),(4,.a (.int .i64 (i:Nat))),(5,.a (.int .i64 0)),(6,.a (.int .i64 (0:Nat)))],[(0,some (.bx false (uCf c)))],1⟩=
  some (.ext 2,⟨[(1,.rf 0),(3,.a (.string acc)),(4,.a (.int .i64 (i:Nat))),(5,.a (.int .i64 (maskOf s))),(6,.a (.int .i64 (s.size:Nat))),(40,.a (.bool false))],[(0,some (.bx false (uCf c)))],801⟩):=by
 have hz:=hc.ty s (List.mem_of_getElem? hs)
 have hil:i<c.types.length:=(List.getElem?_eq_some_iff.1 hs).1
 have hn:=hc.n1
 have key:=(vei (Φ:=Φ) (N:=vab) (live:= [1,3,4,5,6]) (b:=vh4) (ch s) (fun j p=>⟨[(1,.rf 0),(3,.a (.string acc)),(4,.a (.int .i64 (i:Nat))),(5,.a (.int .i64 p.2)),(6,.a (.int .i64 (j:Nat)))],[(0,some (.bx false (uCf c)))],1⟩) (fun j p=>p.1=j) maskStep
  (fun p=>⟨[(1,.rf 0),(3,.a (.string acc)),(4,.a (.int .i64 (i:Nat))),(5,.a (.int .i64 p.2)),(6,.a (.int .i64 ((ch s).length:Nat))),(40,.a (.bool false))],[(0,some (.bx false (uCf c)))],801⟩) (id:=2) (vaw (by rw [←veh];omega)) (a0:=(0,0)) rfl (fun j b p hb hp=> ?_) fun p hp=> ?_).1
 ·rw [←veh] at key;exact key
 ·obtain ⟨k,m⟩:=p
  obtain rfl:k=j:=hp
  have hj:k<s.size:=by rw [veh];exact (List.getElem?_eq_some_iff.1 hb).1
  have hw:=var k zo
  have hlt:(k:Int)<s.size:=by omega
  have hx:=vn6 hb
  have e1:IntKind.u64.wrap (k:Int)=(k:Int):=vie _ zo zo
  have e2:=qt2 1 k
  refine ⟨?_,rfl⟩
  unfold round maskStep vh4
  by_cases h1:(b.toNat:Int)=114
  ·simp (implicitDefEqProofs:=false) (disch:=first|exact zd|fail) only [go_sem,Nat.reduceAdd,Nat.reduceBEq,hw,hlt,hx,hs,h1,e1,e2]
   (show some _=some _;kernel_rfl)
  ·simp (implicitDefEqProofs:=false) (disch:=first|exact zd|fail) only [go_sem,Nat.reduceAdd,Nat.reduceBEq,hw,hlt,hx,hs,h1]
   (show some _=some _;kernel_rfl)
 ·rw [←veh]
  unfold round vh4
  simp (implicitDefEqProofs:=false) (disch:=first|exact zd|fail) only [go_sem,Nat.reduceAdd,Nat.reduceBEq,hs]
theorem vzy {c:Cf} (hc:Conf c) {a0:ByteArray} (ha:a0.size≤100):va4 Φ vab [1,3,4] vh3 ⟨[(1,.rf 0),(3,.a (.string a0)),(4,.a (.int .i64 (0:Nat)))],[(0,some (.bx false (uCf c)))],1⟩=
  some (.ext 0,⟨[(1,.rf 0),(3,.a (.string (c.types.foldl (fun a s=>a++typeB s) a0))),(4,.a (.int .i64 (c.types.length:Nat))),(30,.a (.bool false))],[(0,some (.bx false (uCf c)))],501⟩)∧(c.types.foldl (fun a s=>a++typeB s) a0).size=a0.size+c.types.length * 4:=by
 have hn:=hc.n1
 refine vei (Φ:=Φ) (N:=vab) (live:= [1,3,4]) (b:=vh3) c.types (fun i a=>⟨[(1,.rf 0),(3,.a (.string a)),(4,.a (.int .i64 (i:Nat)))],[(0,some (.bx false (uCf c)))],1⟩) (fun i a=>a.size=a0.size+i * 4) (fun a s=>a++typeB s)
  (fun a=>⟨[(1,.rf 0),(3,.a (.string a)),(4,.a (.int .i64 (c.types.length:Nat))),(30,.a (.bool false))],[(0,some (.bx false (uCf c)))],501⟩) (id:=0) (vaw zo) (a0:=a0) zo (fun i s a hs hp=> ?_) fun a hp=> ?_
 ·have hil:i<c.types.length:=(List.getElem?_eq_some_iff.1 hs).1
  have hw:=var i zo
  have hz:=hc.ty s (List.mem_of_getElem? hs)
  have k1:=qi1 (Φ:=Φ) hc (acc:=a) hs
  have hlt:(i:Int)<c.types.length:=by omega
  have hts:=qkn s
  have s1:(maskOf s).fdiv (2^min (Int.toNat 16) 64)=(maskOf s).fdiv 65536:=rfl
  have s2:(maskOf s).fdiv (2^min (Int.toNat 8) 64)=(maskOf s).fdiv 256:=rfl
  refine ⟨?_,by rw [ByteArray.size_append,hts];omega⟩
  have htb:(⟨#[UInt8.ofNat (u8n s.size),UInt8.ofNat (u8n ((maskOf s).fdiv 65536)),UInt8.ofNat (u8n ((maskOf s).fdiv 256)),UInt8.ofNat (u8n (maskOf s))]⟩:ByteArray)=typeB s:=rfl
  unfold round vh3
  simp (implicitDefEqProofs:=false) (disch:=first|exact zd|fail) only [go_sem,Nat.reduceAdd,Nat.reduceBEq,hw,hlt,hs,van k1,s1,s2,qb8,Int.toNat_natCast,htb]
  (show some _=some _;kernel_rfl)
 ·unfold round vh3
  simp (implicitDefEqProofs:=false) (disch:=first|exact zd|fail) only [go_sem,Nat.reduceAdd,Nat.reduceBEq]
theorem vft (n:Int):(ve3 n).size≤2:=by
 unfold ve3
 split
 ·rw [ByteArray.size_extract,vco];omega
 ·show 0≤2;omega
def magic:ByteArray:=⟨#[78,86,71,49]⟩
def superHead (c:Cf):ByteArray:=magic++ve3 c.lines++ve3 c.log++ve3 c.young++strN [u8n c.types.length]
def superBody (c:Cf):ByteArray:=c.types.foldl (fun a s=>a++typeB s) (superHead c)
def superOf (c:Cf):ByteArray:=sealed (superBody c)
theorem vor (c:Cf):(superHead c).size≤11:=by
 have h1:=vft c.lines
 have h2:=vft c.log
 have h3:=vft c.young
 unfold superHead
 rw [ByteArray.size_append,ByteArray.size_append,ByteArray.size_append,ByteArray.size_append]
 show 4+_+_+_+1≤11
 omega
theorem vs7 {c:Cf} (hc:Conf c):(superBody c).size≤59:=by
 have h1:=(vzy (Φ:=fun _=>none) hc (a0:=superHead c) (by have:=vor c;omega)).2
 have h2:=vor c
 have:=hc.n1
 unfold superBody
 omega
theorem vvj {c:Cf} (hc:Conf c):(superOf c).size=64:=by
 have:=vs7 hc
 unfold superOf
 rw [vyc,if_neg zo]
theorem vx3 {d:Nat} {c:Cf} (hc:Conf c):vaf (T (d+2)) vab vim [cCf true c]=some ([.a (.string (superOf c))],[]):=by
 have h1:=vlm (d:=d) c.lines
 have h2:=vlm (d:=d) c.log
 have h3:=vlm (d:=d) c.young
 have z1:=vft c.lines
 have z2:=vft c.log
 have z3:=vft c.young
 have zh:=vor c
 have zb:=vs7 hc
 obtain ⟨k1,_⟩:=vzy (Φ:=T (d+2)) hc (a0:=superHead c) zo
 have h4:=vud (d:=d) (superBody c) zo
 have hm:magic.size=4:=rfl
 have hl:(strN [u8n c.types.length]).size=1:=rfl
 have hll:(⟨#[UInt8.ofNat (u8n c.types.length)]⟩:ByteArray)=strN [u8n c.types.length]:=rfl
 have hmm:(⟨#[78,86,71,49]⟩:ByteArray)=magic:=rfl
 rw [vag rfl]
 unfold superOf
 have hb:c.types.foldl (fun a s=>a++typeB s) (superHead c)=superBody c:=rfl
 rw [hb] at k1
 generalize superBody c=B at *
 unfold superHead at k1
 generalize ve3 c.lines=x1 at *
 generalize ve3 c.log=x2 at *
 generalize ve3 c.young=x3 at *
 simp (implicitDefEqProofs:=false) (disch:=first|exact zd|fail) only [go_sem,Nat.reduceAdd,Nat.reduceBEq,vim,vtn,h1,h2,h3,qb8,Int.toNat_natCast,hll,hmm,van k1,h4]
 done
def superLine (c:Cf):ByteArray:=if confOk c=true then superOf c else ⟨#[]⟩
theorem qd8 {d:Nat} {c:Cf} (hc:CfSm c):vaf (T (d+4)) vab vfa [cCf true c]=some ([.a (.string (superLine c))],[]):=by
 have h1:=vlu (d:=d) hc
 rw [vag rfl]
 unfold superLine
 cases hk:confOk c
 ·rw [hk] at h1
  simp (implicitDefEqProofs:=false) (disch:=first|exact zd|fail) only [go_sem,Nat.reduceAdd,Nat.reduceBEq,vfa,vni,h1]
  done
 ·rw [hk] at h1
  have h2:=vx3 (d:=d+1) (Conf.of hk)
  simp (implicitDefEqProofs:=false) (disch:=first|exact zd|fail) only [go_sem,Nat.reduceAdd,Nat.reduceBEq,vfa,vni,h1,h2]
  done
def vhf (e:Int):ByteArray:=if 0≤e∧e≤1000000000 then sealed (vbs e) else ⟨#[]⟩
theorem vuz {d:Nat} (e:Int):vaf (T (d+2)) vab ve8 [.a (.int .i64 e)]=some ([.a (.string (vhf e))],[]):=by
 have h1:=vgc (Φ:=T (d+1)) e
 have h2:=vud (d:=d) (vbs e) (by rw [vco];omega)
 rw [vag rfl]
 unfold vhf
 generalize vbs e=x at *
 by_cases c:0≤e∧e≤1000000000
 ·rw [if_pos c]
  simp (implicitDefEqProofs:=false) (disch:=first|exact zd|fail) only [go_sem,Nat.reduceAdd,Nat.reduceBEq,ve8,vm0,decide_eq_true c,h1,h2]
  done
 ·rw [if_neg c]
  simp (implicitDefEqProofs:=false) (disch:=first|exact zd|fail) only [go_sem,Nat.reduceAdd,Nat.reduceBEq,ve8,vm0,decide_eq_false c]
  done
theorem vtd (e:Int):(vhf e).size=if 0≤e∧e≤1000000000 then 64 else 0:=by
 unfold vhf
 split
 ·rw [vyc,vco];rfl
 ·rfl
def vhv (c:Cf):ByteArray:=if confOk c=true then superOf c++vhf 0++zerosB (64 * c.lines.toNat-128) else ⟨#[]⟩
theorem vtt {d:Nat} {c:Cf} (hc:CfSm c):vaf (T (d+4)) vab vge [cCf true c]=some ([.a (.string (vhv c))],[]):=by
 have h1:=vlu (d:=d) hc
 rw [vag rfl]
 unfold vhv
 cases hk:confOk c
 ·rw [hk] at h1
  simp (implicitDefEqProofs:=false) (disch:=first|exact zd|fail) only [go_sem,Nat.reduceAdd,Nat.reduceBEq,vge,vqm,h1]
  done
 ·rw [hk] at h1
  have hC:=Conf.of hk
  have h2:=vx3 (d:=d+1) hC
  have h3:=vuz (d:=d+1) 0
  have l0:=hC.l0
  have l1:=hC.l1
  have e1:IntKind.i64.wrap (64 * c.lines)=64 * c.lines:=vai _ zo zo
  have e2:IntKind.i64.wrap (64 * c.lines-128)=((64 * c.lines.toNat-128:Nat):Int):=by rw [vai _ zo zo];omega
  have h4:=vkt (Φ:=T (d+3)) (N:=vab) (64 * c.lines.toNat-128) zo
  have z1:=vvj hC
  have z2:(vhf 0).size=64:=by rw [vtd];rfl
  have z3:=vid (64 * c.lines.toNat-128)
  generalize superOf c=x1 at *
  generalize vhf 0=x2 at *
  generalize zerosB (64 * c.lines.toNat-128)=x3 at *
  simp (implicitDefEqProofs:=false) (disch:=first|exact zd|fail) only [go_sem,Nat.reduceAdd,Nat.reduceBEq,vge,vqm,h1,h2,h3,e1,e2,h4]
  done
theorem vp9 {c:Cf} (hk:confOk c=true):(vhv c).size=64 * c.lines.toNat:=by
 have hC:=Conf.of hk
 have:=hC.l0
 unfold vhv
 rw [if_pos hk,ByteArray.size_append,ByteArray.size_append,vvj hC,vtd,vid]
 simp only [Int.le_refl,true_and]
 rw [if_pos zo]
 omega
def readEpoch (s:ByteArray):Option Int:=if s.size=64 then (if vhf (vct (s.extract 0 8))=s then some (vct (s.extract 0 8)) else none) else none
theorem qec {d:Nat} (s:ByteArray) (hs:s.size≤9223372036854775807):vaf (T (d+3)) vab vea [.a (.string s)]=some ([.a (.int .i64 ((readEpoch s).getD 0)),.a (.bool (readEpoch s).isSome)],[]):=by
 rw [vag rfl]
 unfold readEpoch
 by_cases c:s.size=64
 ·rw [if_pos c]
  have hz:(s.extract 0 8).size=8:=by rw [ByteArray.size_extract];omega
  have h1:=vk8 (Φ:=T (d+2)) (s.extract 0 8)
  rw [if_pos hz,decide_eq_true hz] at h1
  have h2:=vuz (d:=d) (vct (s.extract 0 8))
  have e8:Int.toNat 8=8:=rfl
  generalize g0:s.extract 0 8=x at *
  generalize vct x=e at *
  by_cases c2:vhf e=s
  ·rw [if_pos c2]
   have hne:decide (vhf e≠s)=false:=by simp [c2]
   simp (implicitDefEqProofs:=false) (disch:=first|exact zd|fail) only [go_sem,Nat.reduceAdd,Nat.reduceBEq,vea,vkn,c,h1,h2,hne,e8,g0]
  ·rw [if_neg c2]
   have hne:decide (vhf e≠s)=true:=by simp [c2]
   simp (implicitDefEqProofs:=false) (disch:=first|exact zd|fail) only [go_sem,Nat.reduceAdd,Nat.reduceBEq,vea,vkn,c,h1,h2,hne,e8,g0]
   rfl
 ·have c':¬(s.size:Int)=64:=by omega
  rw [if_neg c]
  simp (implicitDefEqProofs:=false) (disch:=first|exact zd|fail) only [go_sem,Nat.reduceAdd,Nat.reduceBEq,vea,vkn,c']
  rfl
structure Rc where
 epoch:Int
 seq:Int
 half:Int
 old:ByteArray
abbrev cRc (r:Rc):CV:= .st [.a (.int .i64 r.epoch),.a (.int .i64 r.seq),.a (.int .i64 r.half),.a (.string r.old)]
def recOk (r:Rc):Bool:=decide (0≤r.epoch∧r.epoch≤999999999)&&(decide (0≤r.seq∧r.seq≤31)&&(decide (0≤r.half∧r.half≤255)&&decide (r.old.size=32)))
def recBody (r:Rc):ByteArray:=⟨#[85]⟩++strN [u8n r.seq]++ve3 r.half++vbs r.epoch++r.old
def recLine (r:Rc):ByteArray:=if recOk r=true then sealed (recBody r) else ⟨#[]⟩
theorem qb1 {d:Nat} (r:Rc) (ho:r.old.size≤1048576):vaf (T (d+2)) vab vc0 [cRc r]=some ([.a (.string (recLine r))],[]):=by
 rw [vag rfl]
 unfold recLine recOk
 obtain ⟨E,S,H,O⟩:=r
 dsimp only at *
 by_cases c1:0≤E∧E≤999999999
 ·rw [decide_eq_true c1]
  by_cases c2:0≤S∧S≤31
  ·rw [decide_eq_true c2]
   by_cases c3:0≤H∧H≤255
   ·rw [decide_eq_true c3]
    by_cases c4:O.size=32
    ·rw [decide_eq_true c4]
     have h1:=vlm (d:=d) H
     have h2:=vgc (Φ:=T (d+1)) E
     have z1:=vft H
     have z2:=vco E
     have hu:(⟨#[85]⟩:ByteArray).size=1:=rfl
     have hl:(strN [u8n S]).size=1:=rfl
     have hll:(⟨#[UInt8.ofNat (u8n S)]⟩:ByteArray)=strN [u8n S]:=rfl
     have zb:(recBody ⟨E,S,H,O⟩).size≤60:=by
      unfold recBody
      simp only [ByteArray.size_append]
      omega
     have h3:=vud (d:=d) (recBody ⟨E,S,H,O⟩) zo
     unfold recBody at *
     dsimp only at *
     generalize ve3 H=x1 at *
     generalize vbs E=x2 at *
     simp (implicitDefEqProofs:=false) (disch:=first|exact zd|fail) only [go_sem,Nat.reduceAdd,Nat.reduceBEq,vc0,vf9,decide_eq_true c1,decide_eq_true c2,decide_eq_true c3,c4,h1,h2,qb8,Int.toNat_natCast,hll,h3]
     done
    ·have c4':¬(O.size:Int)=32:=by omega
     rw [decide_eq_false c4]
     simp (implicitDefEqProofs:=false) (disch:=first|exact zd|fail) only [go_sem,Nat.reduceAdd,Nat.reduceBEq,vc0,vf9,decide_eq_true c1,decide_eq_true c2,decide_eq_true c3,c4']
     done
   ·rw [decide_eq_false c3]
    simp (implicitDefEqProofs:=false) (disch:=first|exact zd|fail) only [go_sem,Nat.reduceAdd,Nat.reduceBEq,vc0,vf9,decide_eq_true c1,decide_eq_true c2,decide_eq_false c3]
    done
  ·rw [decide_eq_false c2]
   simp (implicitDefEqProofs:=false) (disch:=first|exact zd|fail) only [go_sem,Nat.reduceAdd,Nat.reduceBEq,vc0,vf9,decide_eq_true c1,decide_eq_false c2]
   done
 ·rw [decide_eq_false c1]
  simp (implicitDefEqProofs:=false) (disch:=first|exact zd|fail) only [go_sem,Nat.reduceAdd,Nat.reduceBEq,vc0,vf9,decide_eq_false c1]
  done
def rdRec (s:ByteArray):Rc:=⟨vct (s.extract 4 12),((ch s)[1]?.getD 0).toNat,vb0 (s.extract 2 4),s.extract 12 44⟩
def readRec (s:ByteArray):Option Rc:=if s.size=64 then (if recLine (rdRec s)=s then some (rdRec s) else none) else none
def noRec:Rc:=⟨0,0,0,⟨#[]⟩⟩
theorem qcp {d:Nat} (s:ByteArray) (hs:s.size≤9223372036854775807):vaf (T (d+3)) vab vdu [.a (.string s)]=some ([cRc ((readRec s).getD noRec),.a (.bool (readRec s).isSome)],[]):=by
 rw [vag rfl]
 unfold readRec
 by_cases c:s.size=64
 ·rw [if_pos c]
  have z1:(s.extract 4 12).size=8:=by rw [ByteArray.size_extract];omega
  have z2:(s.extract 2 4).size=2:=by rw [ByteArray.size_extract];omega
  have z3:(s.extract 12 44).size=32:=by rw [ByteArray.size_extract];omega
  have hlen:1<(ch s).length:=by rw [←veh];omega
  obtain ⟨b,hb⟩:∃b,(ch s)[1]? =some b:=⟨_,List.getElem?_eq_getElem hlen⟩
  have hx:ixT (.a (.string s)) (.a (.int .i64 1))=some (.a (.int .u8 b.toNat)):=vn6 hb
  have hbl:=b.toNat_lt
  have e1:IntKind.i64.wrap (b.toNat:Int)=b.toNat:=vai _ zo zo
  have h1:=vk8 (Φ:=T (d+2)) (s.extract 4 12)
  rw [if_pos z1,decide_eq_true z1] at h1
  have h2:=vme (Φ:=T (d+2)) (N:=vab) (s.extract 2 4)
  have h3:=qb1 (d:=d) (rdRec s) (by unfold rdRec;dsimp only;omega)
  unfold rdRec at *
  rw [hb,Option.getD_some] at *
  have n2:Int.toNat 2=2:=rfl
  have n4:Int.toNat 4=4:=rfl
  have n12:Int.toNat 12=12:=rfl
  have n44:Int.toNat 44=44:=rfl
  generalize g1:s.extract 4 12=x1 at *
  generalize g2:s.extract 2 4=x2 at *
  generalize g3:s.extract 12 44=x3 at *
  by_cases c2:recLine ⟨vct x1,b.toNat,vb0 x2,x3⟩=s
  ·rw [if_pos c2]
   have hne:decide (recLine ⟨vct x1,b.toNat,vb0 x2,x3⟩≠s)=false:=by simp [c2]
   simp (implicitDefEqProofs:=false) (disch:=first|exact zd|fail) only [go_sem,Nat.reduceAdd,Nat.reduceBEq,vdu,vjt,c,hx,e1,h1,h2,h3,hne,n2,n4,n12,n44,g1,g2,g3]
  ·rw [if_neg c2]
   have hne:decide (recLine ⟨vct x1,b.toNat,vb0 x2,x3⟩≠s)=true:=by simp [c2]
   simp (implicitDefEqProofs:=false) (disch:=first|exact zd|fail) only [go_sem,Nat.reduceAdd,Nat.reduceBEq,vdu,vjt,c,hx,e1,h1,h2,h3,hne,n2,n4,n12,n44,g1,g2,g3]
   rfl
 ·have c':¬(s.size:Int)=64:=by omega
  rw [if_neg c]
  simp (implicitDefEqProofs:=false) (disch:=first|exact zd|fail) only [go_sem,Nat.reduceAdd,Nat.reduceBEq,vdu,vjt,c']
  rfl
def bAt (s:ByteArray) (j:Nat):Nat:=((ch s)[j]?.getD 0).toNat
theorem qe9 (s:ByteArray) (j:Nat):bAt s j<256:=UInt8.toNat_lt _
theorem vjd {s:ByteArray} {j:Nat} (h:j<s.size):ixT (.a (.string s)) (.a (.int .i64 (j:Nat)))=some (.a (.int .u8 (bAt s j:Nat))):=by
 obtain ⟨b,hb⟩:∃b,(ch s)[j]? =some b:=⟨_,List.getElem?_eq_getElem (by rw [←veh];exact h)⟩
 have:=vn6 hb
 unfold bAt
 rw [hb]
 exact this
theorem quy (a:Int) (b:Nat):binT .shr (.a (.int .i64 a)) (.a (.int .u64 (b:Nat)))=some (.a (.int .i64 (a.fdiv (2^min b 64)))):=by
 have h0:¬((b:Int)<0):=by omega
 show (if (b:Int)<0 then none else some (Value.int .i64 (a.fdiv (2^(min (b:Int).toNat 64))))).map TV.a=_
 rw [if_neg h0,Int.toNat_natCast]
 rfl
def maskAt (s:ByteArray) (i:Nat):Int:=iOr .i64 (iOr .i64 (IntKind.i64.wrap ((bAt s (11+4 * i+1):Nat) * 2^min (Int.toNat 16) 64)) (IntKind.i64.wrap ((bAt s (11+4 * i+2):Nat) * 2^min (Int.toNat 8) 64))) (bAt s (11+4 * i+3):Nat)
def kindC (m:Int) (k:Nat):ByteArray:=if iAnd .i64 (m.fdiv (2^min k 64)) 1=1 then ⟨#[114]⟩ else ⟨#[105]⟩
def kindsOf (m:Int) (n:Nat):ByteArray:=(List.range n).foldl (fun a k=>a++kindC m k) ⟨#[]⟩
theorem qa0 (m:Int) (k:Nat):(kindC m k).size=1:=by unfold kindC;split<;>rfl
def kindsAt (s:ByteArray) (i:Nat):ByteArray:=kindsOf (maskAt s i) (min (bAt s (11+4 * i)) 24)
def rdTypes (s:ByteArray) (n:Nat):List ByteArray:=(List.range n).map (kindsAt s)
def rdCf (s:ByteArray):Cf:=⟨vb0 (s.extract 4 6),vb0 (s.extract 6 8),vb0 (s.extract 8 10),rdTypes s (min (bAt s 10) 12)⟩
def readSuper (s:ByteArray):Option Cf:=if s.size=64 then (if superLine (rdCf s)=s then some (rdCf s) else none) else none
def noCf:Cf:=⟨0,0,0,[]⟩
abbrev nSup (a b c:Int) (ts:List ByteArray):vb5:= [(0,some (.bx false [.a (.int .i64 0),.a (.int .i64 0),.a (.int .i64 0),.rf 2])),(1,some (.bx false [.a (.int .i64 a),.a (.int .i64 b),.a (.int .i64 c),.rf 3])),(2,some (.sl false 0 va9 [])),(3,some (.sl false 0 va9 (ts.map eStr)))]
theorem qfu {s:ByteArray} (hs:s.size=64) {i:Nat} (hi:i<12) (m a b c:Int) (ts:List ByteArray):
  va4 Φ vab [0,2,4,5,6,7,8,9] vgm ⟨[(0,.a (.string s)),(2,.rf 0),(4,.rf 1),(5,.a (.int .i64 (i:Nat))),(6,.a (.int .i64 (11+4 * i:Nat))),(7,.a (.int .i64 m)),(8,.a (.string ⟨#[]⟩)),(9,.a (.int .i64 (0:Nat)))],nSup a b c ts,4⟩=
   some (.ext 2,⟨[(0,.a (.string s)),(2,.rf 0),(4,.rf 1),(5,.a (.int .i64 (i:Nat))),(6,.a (.int .i64 (11+4 * i:Nat))),(7,.a (.int .i64 m)),(8,.a (.string (kindsOf m (min (bAt s (11+4 * i)) 24)))),(9,.a (.int .i64 (min (bAt s (11+4 * i)) 24:Nat))),(78,.a (.bool false))],nSup a b c ts,1004⟩)∧(kindsOf m (min (bAt s (11+4 * i)) 24)).size=min (bAt s (11+4 * i)) 24:=by
 have hb:=qe9 s (11+4 * i)
 have hx:=vjd (s:=s) (j:=11+4 * i) zo
 generalize bAt s (11+4 * i)=q at *
 have e1:IntKind.i64.wrap (q:Int)=(q:Int):=vai _ zo zo
 have key:=vei (Φ:=Φ) (N:=vab) (live:= [0,2,4,5,6,7,8,9]) (b:=vgm) (List.range (min q 24)) (fun j acc=>⟨[(0,.a (.string s)),(2,.rf 0),(4,.rf 1),(5,.a (.int .i64 (i:Nat))),(6,.a (.int .i64 (11+4 * i:Nat))),(7,.a (.int .i64 m)),(8,.a (.string acc)),(9,.a (.int .i64 (j:Nat)))],nSup a b c ts,4⟩) (fun j acc=>acc.size=j) (fun acc k=>acc++kindC m k)
  (fun acc=>⟨[(0,.a (.string s)),(2,.rf 0),(4,.rf 1),(5,.a (.int .i64 (i:Nat))),(6,.a (.int .i64 (11+4 * i:Nat))),(7,.a (.int .i64 m)),(8,.a (.string acc)),(9,.a (.int .i64 (min q 24:Nat))),(78,.a (.bool false))],nSup a b c ts,1004⟩) (id:=2) (vaw (by simp;omega)) (a0:=⟨#[]⟩) rfl (fun j k acc hj hp=> ?_) fun acc hp=> ?_
 ·rw [List.length_range] at key
  exact key
 ·have hjq:j<min q 24:=by have:=(List.getElem?_eq_some_iff.1 hj).1;simpa using this
  rw [List.getElem?_range hjq] at hj
  cases hj
  have hw:=var j zo
  have l1:(j:Int)<q:=by omega
  have l2:(j:Int)<24:=by omega
  have e2:IntKind.u64.wrap (j:Int)=(j:Int):=vie _ zo zo
  have e3:=quy m j
  have z1:(⟨#[114]⟩:ByteArray).size=1:=rfl
  have z2:(⟨#[105]⟩:ByteArray).size=1:=rfl
  refine ⟨?_,by rw [ByteArray.size_append,qa0];omega⟩
  unfold round kindC vgm
  by_cases h1:iAnd .i64 (m.fdiv (2^min j 64)) 1=1
  ·rw [if_pos h1]
   simp (implicitDefEqProofs:=false) (disch:=first|exact zd|fail) only [go_sem,Nat.reduceAdd,Nat.reduceBEq,hw,hx,e1,l1,l2,e2,e3,h1]
   (show some _=some _;kernel_rfl)
  ·rw [if_neg h1]
   simp (implicitDefEqProofs:=false) (disch:=first|exact zd|fail) only [go_sem,Nat.reduceAdd,Nat.reduceBEq,hw,hx,e1,l1,l2,e2,e3,h1]
   (show some _=some _;kernel_rfl)
 ·rw [List.length_range]
  unfold round vgm
  by_cases h1:((min q 24:Nat):Int)<q
  ·have h2:¬((min q 24:Nat):Int)<24:=by omega
   simp (implicitDefEqProofs:=false) (disch:=first|exact zd|fail) only [go_sem,Nat.reduceAdd,Nat.reduceBEq,hx,e1,h1,h2]
  ·simp (implicitDefEqProofs:=false) (disch:=first|exact zd|fail) only [go_sem,Nat.reduceAdd,Nat.reduceBEq,hx,e1,h1]
theorem qgf {s:ByteArray} (hs:s.size=64) (a b c:Int):
  va4 Φ vab [0,2,4,5] vi5 ⟨[(0,.a (.string s)),(2,.rf 0),(4,.rf 1),(5,.a (.int .i64 (0:Nat)))],nSup a b c [],4⟩=
   some (.ext 0,⟨[(0,.a (.string s)),(2,.rf 0),(4,.rf 1),(5,.a (.int .i64 (min (bAt s 10) 12:Nat))),(44,.a (.bool false))],nSup a b c (rdTypes s (min (bAt s 10) 12)),904⟩):=by
 have hb:=qe9 s 10
 have hx:=vjd (s:=s) (j:=10) zo
 rw [show ((10:Nat):Int)=10 from rfl] at hx
 generalize bAt s 10=q at *
 have e1:IntKind.i64.wrap (q:Int)=(q:Int):=vai _ zo zo
 refine vcc (m:=min q 12) (fun i=>⟨[(0,.a (.string s)),(2,.rf 0),(4,.rf 1),(5,.a (.int .i64 (i:Nat)))],nSup a b c (rdTypes s i),4⟩) _ (vaw zo) (fun i hi=> ?_) ?_
 ·have hw:=var i zo
  have l1:(i:Int)<q:=by omega
  have l2:(i:Int)<12:=by omega
  have m1:IntKind.i64.wrap (4 * (i:Int))=4 * (i:Int):=vai _ zo zo
  have m2:IntKind.i64.wrap (11+4 * (i:Int))=((11+4 * i:Nat):Int):=by rw [vai _ zo zo];omega
  have m3:IntKind.i64.wrap (((11+4 * i:Nat):Int)+1)=((11+4 * i+1:Nat):Int):=by rw [vai _ zo zo];omega
  have m4:IntKind.i64.wrap (((11+4 * i:Nat):Int)+2)=((11+4 * i+2:Nat):Int):=by rw [vai _ zo zo];omega
  have m5:IntKind.i64.wrap (((11+4 * i:Nat):Int)+3)=((11+4 * i+3:Nat):Int):=by rw [vai _ zo zo];omega
  have x1:=vjd (s:=s) (j:=11+4 * i+1) zo
  have x2:=vjd (s:=s) (j:=11+4 * i+2) zo
  have x3:=vjd (s:=s) (j:=11+4 * i+3) zo
  have w (j:Nat):IntKind.i64.wrap (bAt s j:Int)=bAt s j:=by have:=qe9 s j;exact vai _ zo zo
  have hmm:iOr .i64 (iOr .i64 (IntKind.i64.wrap ((bAt s (11+4 * i+1):Nat) * 2^min (Int.toNat 16) 64)) (IntKind.i64.wrap ((bAt s (11+4 * i+2):Nat) * 2^min (Int.toNat 8) 64))) (bAt s (11+4 * i+3):Nat)=maskAt s i:=rfl
  obtain ⟨k1,k2⟩:=qfu (Φ:=Φ) hs (i:=i) zo (maskAt s i) a b c (rdTypes s i)
  have hr:rdTypes s (i+1)=rdTypes s i++ [kindsOf (maskAt s i) (min (bAt s (11+4 * i)) 24)]:=by
   unfold rdTypes
   rw [List.range_succ,List.map_append]
   rfl
  have hl:(rdTypes s i).length=i:=by unfold rdTypes;simp
  rw [hr]
  unfold nSup
  rw [vbx]
  unfold round vi5
  simp (implicitDefEqProofs:=false) (disch:=first|exact zd|fail) only [go_sem,Nat.reduceAdd,Nat.reduceBEq,hw,hx,e1,l1,l2,m1,m2,m3,m4,m5,x1,x2,x3,w,hmm,van k1]
  (show some _=some _;kernel_rfl)
 ·unfold round vi5
  by_cases h1:((min q 12:Nat):Int)<q
  ·have h2:¬((min q 12:Nat):Int)<12:=by omega
   simp (implicitDefEqProofs:=false) (disch:=first|exact zd|fail) only [go_sem,Nat.reduceAdd,Nat.reduceBEq,hx,e1,h1,h2]
  ·simp (implicitDefEqProofs:=false) (disch:=first|exact zd|fail) only [go_sem,Nat.reduceAdd,Nat.reduceBEq,hx,e1,h1]
theorem qa2 (s:ByteArray):CfSm (rdCf s):=by
 have hr (x:ByteArray):0≤vb0 x∧vb0 x≤65535:=by
  unfold vb0
  split
  ·rename_i a b _
   have:=a.toNat_lt
   have:=b.toNat_lt
   omega
  ·omega
 refine ⟨?_,?_,?_⟩
 ·have:=hr (s.extract 4 6)
  show _≤vb0 (s.extract 4 6)∧vb0 (s.extract 4 6)≤_
  omega
 ·show (rdTypes s _).length≤_
  unfold rdTypes
  simp
  omega
 ·intro x hx
  obtain ⟨i,_,rfl⟩:=List.mem_map.1 hx
  have:∀(n:Nat) (m:Int),(kindsOf m n).size=n:=by
   intro n m
   induction n with
   |zero=>rfl
   |succ n ih=>
    unfold kindsOf at *
    rw [List.range_succ,List.foldl_append,List.foldl_cons,List.foldl_nil,ByteArray.size_append,ih,qa0]
  show (kindsAt s i).size≤_
  unfold kindsAt
  rw [this]
  omega
theorem qd7 {d:Nat} (s:ByteArray) (hs:s.size≤9223372036854775807):vaf (T (d+5)) vab vd8 [.a (.string s)]=some ([cCf false ((readSuper s).getD noCf),.a (.bool (readSuper s).isSome)],[]):=by
 rw [vag rfl]
 unfold readSuper
 by_cases c:s.size=64
 ·rw [if_pos c]
  have h1:=vme (Φ:=T (d+4)) (N:=vab) (s.extract 4 6)
  have h2:=vme (Φ:=T (d+4)) (N:=vab) (s.extract 6 8)
  have h3:=vme (Φ:=T (d+4)) (N:=vab) (s.extract 8 10)
  have n4:Int.toNat 4=4:=rfl
  have n6:Int.toNat 6=6:=rfl
  have n8:Int.toNat 8=8:=rfl
  have n10:Int.toNat 10=10:=rfl
  have hsl:=qd8 (d:=d) (qa2 s)
  have hk:=qgf (Φ:=T (d+5)) c (vb0 (s.extract 4 6)) (vb0 (s.extract 6 8)) (vb0 (s.extract 8 10))
  unfold rdCf at *
  generalize g1:s.extract 4 6=x1 at *
  generalize g2:s.extract 6 8=x2 at *
  generalize g3:s.extract 8 10=x3 at *
  generalize rdTypes s (min (bAt s 10) 12)=ts at *
  by_cases c2:superLine ⟨vb0 x1,vb0 x2,vb0 x3,ts⟩=s
  ·rw [if_pos c2]
   have hne:decide (superLine ⟨vb0 x1,vb0 x2,vb0 x3,ts⟩≠s)=false:=by simp [c2]
   simp (implicitDefEqProofs:=false) (disch:=first|exact zd|fail) only [go_sem,Nat.reduceAdd,Nat.reduceBEq,vd8,vkq,c,h1,h2,h3,g1,g2,g3,n4,n6,n8,n10,van hk,hsl,hne]
   done
  ·rw [if_neg c2]
   have hne:decide (superLine ⟨vb0 x1,vb0 x2,vb0 x3,ts⟩≠s)=true:=by simp [c2]
   simp (implicitDefEqProofs:=false) (disch:=first|exact zd|fail) only [go_sem,Nat.reduceAdd,Nat.reduceBEq,vd8,vkq,c,h1,h2,h3,g1,g2,g3,n4,n6,n8,n10,van hk,hsl,hne]
   rfl
 ·have c':¬(s.size:Int)=64:=by omega
  rw [if_neg c]
  simp (implicitDefEqProofs:=false) (disch:=first|exact zd|fail) only [go_sem,Nat.reduceAdd,Nat.reduceBEq,vd8,vkq,c']
  rfl
end Go.Proofs.YtkidnhclcbcglaaGreat.VM


/- Words and their bytes: the reference's. Configs and their lines: the reference's. Epochs and records and their lines: the reference's. Configs read: the reference's. -/
import Derived.Test.YtkidnhclcbcglaaGreatLawRead
import Derived.Test.YtkidnhclcbcglaaGreatLawT
open Nat renaming reduceAdd->Aa,reduceBEq->Ab,mod_eq_of_lt->Ar
open Go.IntKind renaming i64->Ac,u64->Ah,u8->Ao,u32->Av
open ByteArray renaming size_append->Ad,size_extract->Ak
open Int renaming toNat->Ae,toNat_natCast->Ag,fdiv_eq_ediv_of_nonneg->Am,le_refl->Au
open List renaming getElem?_eq_some_iff->Af,range->Ai,replicate->Al,getElem?_eq_getElem->An,length_range->Ap,getElem?_range->As,mem_of_getElem?->At,range_succ->Ax
open UInt8 renaming ofNat->Aj
open Option renaming getD_some->Aq,getD_none->Aw
namespace Go.Proofs.YtkidnhclcbcglaaGreat.VM
open Go Sy
variable {Φ:Nat→Option Callee} {N:Nat}
set_option maxRecDepth 100000
set_option maxHeartbeats 8000000
theorem zdv {s:ByteArray} {lo hi:Int} {st:St} (h0:0≤lo) (h1:lo≤hi) (h2:hi≤(s.size:Int)):M.run (strAt (.a (.string s)) (some lo) (some hi)) st=M.run (.pure (.a (.string (s.extract lo.toNat hi.toNat)))) st:=by
 simp only [strAt,Aq];rw [if_pos ⟨h0,h1,h2⟩]
theorem zbu {s:ByteArray} {lo:Int} {st:St} (h0:0≤lo) (h1:lo≤(s.size:Int)):M.run (strAt (.a (.string s)) (some lo) none) st=M.run (.pure (.a (.string (s.extract lo.toNat s.size)))) st:=by
 simp only [strAt,Aq,Aw];rw [if_pos ⟨h0,h1,Au _⟩];rfl
theorem zfc {s:ByteArray} {hi:Int} {st:St} (h1:0≤hi) (h2:hi≤(s.size:Int)):M.run (strAt (.a (.string s)) none (some hi)) st=M.run (.pure (.a (.string (s.extract 0 hi.toNat)))) st:=by
 simp only [strAt,Aq,Aw];rw [if_pos ⟨Au _,h1,h2⟩];rfl
attribute [go_sem ↓] zdv zbu zfc
def wB (n:Int) (i:Nat):Nat:=((Ah.wrap n).toNat/2^(56-8 * i))%256
def wL (n:Int) (i:Nat):List Nat:=(Ai 8).map fun j=>if j<i then wB n j else 0
def strN (l:List Nat):ByteArray:=⟨(l.map Aj).toArray⟩
theorem vps:∀(l:List Nat),u8of (l.map eU8)=some (l.map Aj)
 | []=>rfl
 |x::l=>by
  rw [List.map_cons,eU8,qlv,vps l];simp [u8c]
theorem qlz (n:Int) (i:Nat):(wL n i).length=8:=by simp [wL]
theorem qv4 (n:Int) {i:Nat} (h:i<8):(wL n i).set i (wB n i)=wL n (i+1):=by
 apply List.ext_getElem?;intro j;simp only [wL,List.getElem?_set,List.getElem?_map,List.length_map,Ap];by_cases c:i=j
 ·subst c;rw [if_pos rfl,if_pos h,As h];simp
 ·rw [if_neg c];by_cases cj:j<8
  ·rw [As cj];simp only [Option.map_some];by_cases c1:j<i
   ·rw [if_pos c1,if_pos zo]
   ·rw [if_neg c1,if_neg zo]
  ·rw [List.getElem?_eq_none (by simpa using cj)];rfl
theorem qtr (a:Int) (b:Nat) (h:b≤64):binT .shr (.a (.int .u64 a)) (.a (.int .u64 (b:Nat)))=some (.a (.int .u64 (a.fdiv (2^b)))):=by
 have h0:¬((b:Int)<0):=by omega
 show (if (b:Int)<0 then none else some (Value.int .u64 (a.fdiv (2^(min (b:Int).toNat 64))))).map TV.a=_;rw [if_neg h0,Ag,Nat.min_eq_left h];rfl
theorem qdu (l:List Nat) (i x:Nat):(l.map eU8).set i (PV.a (.int .u8 (x:Nat)))=(l.set i x).map eU8:=by
 rw [List.map_set];rfl
theorem qyn (n:Int) (i:Nat):Ao.wrap ((Ah.wrap n).fdiv (2^(56-8 * i)))=(wB n i:Nat):=by
 obtain ⟨m,hm,e⟩:=qdl n;unfold wB;rw [e,Ag,show ((2:Int)^(56-8 * i))=((2^(56-8 * i):Nat):Int) from (Int.natCast_pow 2 _).symm];generalize 2^(56-8 * i)=q;rw [Am _ (Int.natCast_nonneg _)];show ((m:Int)/(q:Int))%256=((m/q%256:Nat):Int)
 omega
theorem qex (n:Int):va7 Φ vad [0,3,4] vix ⟨[(0,.a (.int .i64 n)),(3,.rf 0),(4,.a (.int .i64 (0:Nat)))],[(0,some (.sl false 0 vcd ((wL n 0).map eU8)))],1⟩=
  some (.ext 0,⟨[(0,.a (.int .i64 n)),(3,.rf 0),(4,.a (.int .i64 (8:Nat))),(7,.a (.bool false))],[(0,some (.sl false 0 vcd ((wL n 8).map eU8)))],201⟩):=by
 refine vc5 (m:=8) (fun i=>⟨[(0,.a (.int .i64 n)),(3,.rf 0),(4,.a (.int .i64 (i:Nat)))],[(0,some (.sl false 0 vcd ((wL n i).map eU8)))],1⟩) _ (vay zo) (fun i hi=> ?_) ?_
 ·have hw:=vat i zo;have hlt:(i:Int)<8:=by omega
  have hl:=qlz n i;have e1:Ah.wrap (Ac.wrap (56-Ac.wrap (8 * (i:Int))))=((56-8 * i:Nat):Int):=by
   rw [vai (8 * (i:Int)) zo zo,vai _ zo zo,vh5 _ zo zo];omega
  have e2:=qtr (Ah.wrap n) (56-8 * i) zo;have e3:=qyn n i;have e4:=qv4 n hi;have e5:(wL n i)[i]? =some (wL n i)[i]:=An zo;generalize (wL n i)[i]=y at e5;unfold round vix;simp -implicitDefEqProofs (disch:=first|exact zd|fail) only [go_sem,Aa,Ab,hw,hlt,e1,e2,e3,e5,qdu,e4]
  (show some _=some _;kernel_rfl)
 ·unfold round vix;simp -implicitDefEqProofs (disch:=first|exact zd|fail) only [go_sem,Aa,Ab]
def vbs (n:Int):ByteArray:=strN (wL n 8)
theorem vf6 (n:Int):vaf Φ vad vgr [.a (.int .i64 n)]=some ([.a (.string (vbs n))],[]):=by
 have key:=qex (Φ:=Φ) n;have h0:(Al 8 (PV.a (.int .u8 0)))=(wL n 0).map eU8:=by simp [wL,eU8,Ai,Ai.loop]
 have hu:=vps (wL n 8);rw [vag rfl];simp -implicitDefEqProofs (disch:=first|exact zd|fail) only [go_sem,Aa,Ab,vgr,vrk,vao key,hu,h0];rfl
theorem vcj (n:Int):(vbs n).size=8:=by show (List.map Aj (wL n 8)).toArray.size=8;simp [qlz]
def zerosB (n:Nat):ByteArray:=strN (Al n 0)
theorem vh7 (n:Nat):(zerosB n).size=n:=by show (List.map Aj (Al n 0)).toArray.size=n;simp
theorem vki (n:Nat) (h:n≤140737488355328):vaf Φ N vie [.a (.int .i64 (n:Nat))]=some ([.a (.string (zerosB n))],[]):=by
 have h0:(Al n (PV.a (.int .u8 0)))=(Al n 0).map eU8:=by rw [List.map_replicate];rfl
 have hu:=vps (Al n 0);rw [vag rfl];simp -implicitDefEqProofs (disch:=first|exact zd|fail) only [go_sem,Aa,Ab,vie,vs7,h0,hu];rfl
def rdStep (x:Nat) (b:UInt8):Nat:=(x * 256+b.toNat)%18446744073709551616
def vcs (s:ByteArray):Int:=Ac.wrap ((ch s).foldl rdStep 0:Nat)
theorem qoy (x b:Nat) (hb:b<256):iOr Ah (Ah.wrap ((x:Int) * 2^min (Ae 8) 64)) (Ah.wrap (b:Nat))=((x * 256+b)%18446744073709551616:Nat):=by
 have e1:Ah.wrap ((x:Int) * 2^min (Ae 8) 64)=(((x%72057594037927936) * 256:Nat):Int):=by
  show ((x:Int) * 256)%18446744073709551616=_;omega
 have e2:Ah.wrap (b:Nat)=(b:Nat):=vh5 _ zo zo;have e3:(x * 256+b)%18446744073709551616=(x%72057594037927936) * 256+b:=by omega
 rw [e1,e2,e3];generalize hy:x%72057594037927936=y;have hyl:y<72057594037927936:=by omega
 show Ah.wrap (BitVec.ofInt 64 ((y * 256:Nat):Int)|||BitVec.ofInt 64 (b:Int)).toNat=_;rw [BitVec.toNat_or,BitVec.ofInt_natCast,BitVec.ofInt_natCast,BitVec.toNat_ofNat,BitVec.toNat_ofNat,Ar zo,Ar zo];have h:=Nat.shiftLeft_add_eq_or_of_lt (show b<2^8 by omega) y;rw [Nat.shiftLeft_eq] at h;rw [show y * 256=y * 2^8 from rfl,←h];exact vh5 _ zo zo
theorem qfv {s:ByteArray} (hs:s.size=8):va7 Φ vad [0,4,5] vg8 ⟨[(0,.a (.string s)),(4,.a (.int .u64 (0:Nat))),(5,.a (.int .i64 (0:Nat)))],[],0⟩=
  some (.ext 0,⟨[(0,.a (.string s)),(4,.a (.int .u64 ((ch s).foldl rdStep 0:Nat))),(5,.a (.int .i64 (8:Nat))),(10,.a (.bool false))],[],200⟩):=by
 have hl:(ch s).length=8:=by rw [←ved];exact hs
 have key:=(vee (Φ:=Φ) (N:=vad) (live:= [0,4,5]) (b:=vg8) (ch s) (fun i x=>⟨[(0,.a (.string s)),(4,.a (.int .u64 (x:Nat))),(5,.a (.int .i64 (i:Nat)))],[],0⟩) (fun _ x=>x<18446744073709551616) rdStep
  (fun x=>⟨[(0,.a (.string s)),(4,.a (.int .u64 (x:Nat))),(5,.a (.int .i64 ((ch s).length:Nat))),(10,.a (.bool false))],[],200⟩) (id:=0) (vay zo) (a0:=0) zo (fun i b x hb hx=> ?_) fun x hx=> ?_).1
 ·rw [hl] at key;exact key
 ·have hi:i<8:=by have:=(Af.1 hb).1;omega
  have hw:=vat i zo;have hlt:(i:Int)<8:=by omega
  have hx:=vn2 hb;have ho:=qoy x b.toNat b.toNat_lt;refine ⟨?_,Nat.mod_lt _ zo⟩;unfold round rdStep vg8;simp -implicitDefEqProofs (disch:=first|exact zd|fail) only [go_sem,Aa,Ab,hw,hlt,hx,ho]
  (show some _=some _;kernel_rfl)
 ·rw [hl];unfold round vg8;simp -implicitDefEqProofs (disch:=first|exact zd|fail) only [go_sem,Aa,Ab]
theorem vk4 (s:ByteArray):vaf Φ vad vfs [.a (.string s)]=some ([.a (.int .i64 (if s.size=8 then vcs s else 0)),.a (.bool (decide (s.size=8)))],[]):=by
 rw [vag rfl];by_cases hs:s.size=8
 ·have key:=qfv (Φ:=Φ) hs;rw [if_pos hs,decide_eq_true hs];simp -implicitDefEqProofs (disch:=first|exact zd|fail) only [go_sem,Aa,Ab,vfs,vnz,vao key,hs];rfl
 ·have hs':¬(s.size:Int)=8:=by omega
  rw [if_neg hs,decide_eq_false hs];simp -implicitDefEqProofs (disch:=first|exact zd|fail) only [go_sem,Aa,Ab,vfs,vnz,hs']
def ve1 (n:Int):ByteArray:=if 0≤n∧n≤65535 then (vbs n).extract 6 8 else ⟨#[]⟩
theorem vk7 {d:Nat} (n:Int):vaf (T (d+1)) vad vel [.a (.int .i64 n)]=some ([.a (.string (ve1 n))],[]):=by
 have h1:=vf6 (Φ:=T d) n;have hz:=vcj n;rw [vag rfl];unfold ve1;by_cases c:0≤n∧n≤65535
 ·rw [if_pos c];generalize vbs n=s at *;have e6:Ae 6=6:=rfl;simp -implicitDefEqProofs (disch:=first|exact zd|fail) only [go_sem,Aa,Ab,vel,vlk,decide_eq_true c,h1,hz,e6]
 ·rw [if_neg c];simp -implicitDefEqProofs (disch:=first|exact zd|fail) only [go_sem,Aa,Ab,vel,vlk,decide_eq_false c]
def vb0 (s:ByteArray):Int:=match ch s with
 | [a,b]=>a.toNat * 256+b.toNat
 |_=>0
theorem vl5 (s:ByteArray):vaf Φ N ve5 [.a (.string s)]=some ([.a (.int .i64 (vb0 s)),.a (.bool (decide (s.size=2)))],[]):=by
 rw [vag rfl];by_cases hs:s.size=2
 ·have hl:(ch s).length=2:=by rw [←ved];exact hs
  obtain ⟨a,b,hab⟩:∃a b,ch s= [a,b]:=by
   match h:ch s,hl with
   | [a,b],_=>exact ⟨a,b,rfl⟩
  have h0:ixT (.a (.string s)) (.a (.int .i64 0))=some (.a (.int .u8 a.toNat)):=vn2 (s:=s) (i:=0) (b:=a) (by rw [hab];rfl);have h1:ixT (.a (.string s)) (.a (.int .i64 1))=some (.a (.int .u8 b.toNat)):=vn2 (s:=s) (i:=1) (b:=b) (by rw [hab];rfl);have ha:=a.toNat_lt;have hb:=b.toNat_lt;have e0:Ac.wrap (a.toNat:Int)=a.toNat:=vai _ zo zo;have e1:Ac.wrap (b.toNat:Int)=b.toNat:=vai _ zo zo;have e2:Ac.wrap ((a.toNat:Int) * 256)=a.toNat * 256:=vai _ zo zo;have e3:Ac.wrap ((a.toNat:Int) * 256+b.toNat)=a.toNat * 256+b.toNat:=vai _ zo zo;rw [decide_eq_true hs];unfold vb0;rw [hab];simp -implicitDefEqProofs (disch:=first|exact zd|fail) only [go_sem,Aa,Ab,ve5,vmo,hs,h0,h1,e0,e1,e2,e3]
 ·have hs':¬(s.size:Int)=2:=by omega
  rw [decide_eq_false hs];have:vb0 s=0:=by
   unfold vb0;split
   ·rename_i a b h;exact absurd (by rw [ved,h];rfl) hs
   ·rfl
  rw [this];simp -implicitDefEqProofs (disch:=first|exact zd|fail) only [go_sem,Aa,Ab,ve5,vmo,hs']
def crcBit (c:Nat):Nat:=if c%2=1 then (c/2)^^^3988292384 else c/2
def crcByte (c:Nat) (b:UInt8):Nat:=(Ai 8).foldl (fun c _=>crcBit c) (c^^^b.toNat)
def crcOf (s:ByteArray):Nat:=(ch s).foldl crcByte 4294967295^^^4294967295
def crcB (c:Nat):ByteArray:=strN [c/16777216%256,c/65536%256,c/256%256,c%256]
theorem vo9 (x y:Nat) (hx:x<4294967296) (hy:y<4294967296):iXor Av (x:Nat) (y:Nat)=((x^^^y:Nat):Int)∧x^^^y<4294967296:=by
 have hl:x^^^y<2^32:=Nat.xor_lt_two_pow zo zo;refine ⟨?_,by omega⟩;show Av.wrap (BitVec.ofInt 32 (x:Int)^^^BitVec.ofInt 32 (y:Int)).toNat=_;rw [BitVec.toNat_xor,BitVec.ofInt_natCast,BitVec.ofInt_natCast,BitVec.toNat_ofNat,BitVec.toNat_ofNat,Ar zo,Ar zo];show ((x^^^y:Nat):Int)%4294967296=_;omega
theorem qko {c:Nat} (h:c<4294967296):crcBit c<4294967296:=by
 unfold crcBit;split
 ·exact (vo9 (c/2) 3988292384 zo zo).2
 ·omega
theorem qwb {s:ByteArray} (i c:Nat) (hc:c<4294967296):va7 Φ vad [0,3,4,5] vja ⟨[(0,.a (.string s)),(3,.a (.int .u32 c)),(4,.a (.int .i64 (i:Nat))),(5,.a (.int .i64 (0:Nat)))],[],0⟩=
  some (.ext 2,⟨[(0,.a (.string s)),(3,.a (.int .u32 ((Ai 8).foldl (fun c _=>crcBit c) c:Nat))),(4,.a (.int .i64 (i:Nat))),(5,.a (.int .i64 (8:Nat))),(19,.a (.bool false))],[],200⟩)∧(Ai 8).foldl (fun c _=>crcBit c) c<4294967296:=by
 have key:=(vee (Φ:=Φ) (N:=vad) (live:= [0,3,4,5]) (b:=vja) (Ai 8) (fun j c=>⟨[(0,.a (.string s)),(3,.a (.int .u32 (c:Nat))),(4,.a (.int .i64 (i:Nat))),(5,.a (.int .i64 (j:Nat)))],[],0⟩) (fun _ c=>c<4294967296) (fun c _=>crcBit c)
  (fun c=>⟨[(0,.a (.string s)),(3,.a (.int .u32 (c:Nat))),(4,.a (.int .i64 (i:Nat))),(5,.a (.int .i64 ((Ai 8).length:Nat))),(19,.a (.bool false))],[],200⟩) (id:=2) (vay (by simp)) (a0:=c) hc (fun j k c hj hc=> ?_) fun c hc=> ?_)
 ·exact key
 ·have hj8:j<8:=by have:=(Af.1 hj).1;simpa using this
  have hw:=vat j zo;have hlt:(j:Int)<8:=by omega
  refine ⟨?_,qko hc⟩;have hsh:(c:Int).fdiv (2^min (Ae 1) 32)=((c/2:Nat):Int):=by
   show (c:Int).fdiv 2=_;rw [Am _ zo];omega
  have hx:=(vo9 (c/2) 3988292384 zo zo).1;have hr:(c:Int).tmod 2=((c%2:Nat):Int):=(Int.ofNat_tmod c 2).symm;rw [show ((3988292384:Nat):Int)=3988292384 from rfl] at hx;unfold round crcBit vja;by_cases h1:c%2=1
  ·rw [if_pos h1];have h1':(c:Int).tmod 2=1:=by omega
   simp -implicitDefEqProofs (disch:=first|exact zd|fail) only [go_sem,Aa,Ab,hw,hlt,h1',hsh,hx]
   (show some _=some _;kernel_rfl)
  ·rw [if_neg h1];have h1':¬(c:Int).tmod 2=1:=by omega
   simp -implicitDefEqProofs (disch:=first|exact zd|fail) only [go_sem,Aa,Ab,hw,hlt,h1',hsh]
   (show some _=some _;kernel_rfl)
 ·unfold round vja;simp -implicitDefEqProofs (disch:=first|exact zd|fail) only [go_sem,Aa,Ab,Ap]
theorem qiu {c:Nat} {b:UInt8} (h:c<4294967296):c^^^b.toNat<4294967296:=(vo9 c b.toNat h (by have:=b.toNat_lt;omega)).2
theorem qv5 {s:ByteArray} (hs:s.size≤1048576):va7 Φ vad [0,3,4] vi6 ⟨[(0,.a (.string s)),(3,.a (.int .u32 (4294967295:Nat))),(4,.a (.int .i64 (0:Nat)))],[],0⟩=
  some (.ext 0,⟨[(0,.a (.string s)),(3,.a (.int .u32 ((ch s).foldl crcByte 4294967295:Nat))),(4,.a (.int .i64 (s.size:Nat))),(9,.a (.bool false))],[],400⟩)∧(ch s).foldl crcByte 4294967295<4294967296:=by
 have key:=(vee (Φ:=Φ) (N:=vad) (live:= [0,3,4]) (b:=vi6) (ch s) (fun i c=>⟨[(0,.a (.string s)),(3,.a (.int .u32 (c:Nat))),(4,.a (.int .i64 (i:Nat)))],[],0⟩) (fun _ c=>c<4294967296) crcByte
  (fun c=>⟨[(0,.a (.string s)),(3,.a (.int .u32 (c:Nat))),(4,.a (.int .i64 ((ch s).length:Nat))),(9,.a (.bool false))],[],400⟩) (id:=0) (vay (by rw [←ved];omega)) (a0:=4294967295) zo (fun i b c hb hc=> ?_) fun c hc=> ?_)
 ·rw [←ved] at key;exact key
 ·have hi:i<s.size:=by rw [ved];exact (Af.1 hb).1
  have hw:=vat i zo;have hlt:(i:Int)<s.size:=by omega
  have hx:=vn2 hb;have hbl:=b.toNat_lt;have e1:Av.wrap (b.toNat:Int)=(b.toNat:Int):=by show (b.toNat:Int)%4294967296=_;omega
  have e2:=(vo9 c b.toNat hc zo).1;obtain ⟨k1,k2⟩:=qwb (Φ:=Φ) (s:=s) i (c^^^b.toNat) (qiu hc);refine ⟨?_,k2⟩;unfold crcByte;unfold round vi6;simp -implicitDefEqProofs (disch:=first|exact zd|fail) only [go_sem,Aa,Ab,hw,hlt,hx,e1,e2,vao k1]
  (show some _=some _;kernel_rfl)
 ·rw [←ved];unfold round vi6;simp -implicitDefEqProofs (disch:=first|exact zd|fail) only [go_sem,Aa,Ab]
theorem qk3 {s:ByteArray} (hs:s.size≤1048576):vaf Φ vad vjs [.a (.string s)]=some ([.a (.string (crcB (crcOf s)))],[]):=by
 obtain ⟨k1,k2⟩:=qv5 (Φ:=Φ) hs;rw [vag rfl];unfold crcOf;generalize (ch s).foldl crcByte 4294967295=c at *;have hux:unT .xor (.a (.int .u32 (c:Nat)))=some (.a (.int .u32 ((c^^^4294967295:Nat):Int))):=by
  have h:=(vo9 4294967295 c zo k2).1;rw [Nat.xor_comm c,←h];rfl
 have hcl:=(vo9 c 4294967295 k2 zo).2;generalize c^^^4294967295=x at *;have sh (k:Nat):Ao.wrap ((x:Int).fdiv ((k:Nat):Int))=((x/k%256:Nat):Int):=by
  rw [Am _ zo];show ((x:Int)/(k:Int))%256=_;omega
 have s1:Ao.wrap ((x:Int).fdiv (2^min (Ae 24) 32))=((x/16777216%256:Nat):Int):=sh 16777216;have s2:Ao.wrap ((x:Int).fdiv (2^min (Ae 16) 32))=((x/65536%256:Nat):Int):=sh 65536;have s3:Ao.wrap ((x:Int).fdiv (2^min (Ae 8) 32))=((x/256%256:Nat):Int):=sh 256;have s4:Ao.wrap (x:Int)=((x%256:Nat):Int):=by show (x:Int)%256=_;omega
 simp -implicitDefEqProofs (disch:=first|exact zd|fail) only [go_sem,Aa,Ab,vjs,vvb,vao k1,hux,s1,s2,s3,s4,Ag];rfl
theorem qct (c:Nat):(crcB c).size=4:=rfl
def sealed (s:ByteArray):ByteArray:=if 60<s.size then ⟨#[]⟩ else s++zerosB (60-s.size)++crcB (crcOf (s++zerosB (60-s.size)))
theorem vw6 (s:ByteArray):(sealed s).size=if 60<s.size then 0 else 64:=by
 unfold sealed;split
 ·rfl
 ·rw [Ad,Ad,vh7,qct];omega
theorem vt1 {d:Nat} (s:ByteArray) (hs:s.size≤9223372036854775807):vaf (T (d+1)) vad vhi [.a (.string s)]=some ([.a (.string (sealed s))],[]):=by
 rw [vag rfl];unfold sealed;by_cases c:60<s.size
 ·have c':(60:Int)<s.size:=by omega
  rw [if_pos c];simp -implicitDefEqProofs (disch:=first|exact zd|fail) only [go_sem,Aa,Ab,vhi,vqe,c'];done
 ·have c':¬(60:Int)<s.size:=by omega
  have e1:Ac.wrap (60-(s.size:Int))=((60-s.size:Nat):Int):=by rw [vai _ zo zo];omega
  have h1:=vki (Φ:=T d) (N:=vad) (60-s.size) zo;have hz:=vh7 (60-s.size);generalize zerosB (60-s.size)=z at *;have hsz:(s++z).size=60:=by rw [Ad];omega
  have h2:=qk3 (Φ:=T d) (s:=s++z) zo;have hc:=qct (crcOf (s++z));rw [if_neg c];generalize crcB (crcOf (s++z))=y at *;simp -implicitDefEqProofs (disch:=first|exact zd|fail) only [go_sem,Aa,Ab,vhi,vqe,c',e1,h1,h2];done
def runOf (s:ByteArray):Int:=if okType s=true then (((s.size+8)/8:Nat):Int) else 0
theorem via {d:Nat} (s:ByteArray) (hs:s.size≤1048576):vaf (T (d+2)) vad vij [.a (.string s)]=some ([.a (.int .i64 (runOf s))],[]):=by
 have h1:=vyz (d:=d) s hs;rw [vag rfl];unfold runOf;cases hk:okType s
 ·rw [hk] at h1;simp -implicitDefEqProofs (disch:=first|exact zd|fail) only [go_sem,Aa,Ab,vij,vrv,h1]
 ·rw [hk] at h1;have e1:Ac.wrap (1+(s.size:Int))=((s.size+1:Nat):Int):=by rw [vai _ zo zo];omega
  have e2:Ac.wrap (((s.size+1:Nat):Int)+7)=((s.size+8:Nat):Int):=by rw [vai _ zo zo];omega
  have e3:Ac.wrap (Int.tdiv ((s.size+8:Nat):Int) 8)=(((s.size+8)/8:Nat):Int):=by
   rw [show Int.tdiv ((s.size+8:Nat):Int) 8=(((s.size+8)/8:Nat):Int) from (Int.ofNat_tdiv _ 8).symm,vai]<;>omega
  simp -implicitDefEqProofs (disch:=first|exact zd|fail) only [go_sem,Aa,Ab,vij,vrv,h1,e1,e2,e3]
structure Cf where
 lines:Int
 log:Int
 young:Int
 types:List ByteArray
abbrev cCf (z:Bool) (c:Cf):CV:= .st [.a (.int .i64 c.lines),.a (.int .i64 c.log),.a (.int .i64 c.young),.sl z va9 (c.types.map eStr)]
abbrev uCf (c:Cf):List TV:= [.a (.int .i64 c.lines),.a (.int .i64 c.log),.a (.int .i64 c.young),.sz va9 (c.types.map eStr)]
def confOk (c:Cf):Bool:=decide (8≤c.lines∧c.lines≤128)&&decide (1≤c.log∧c.log≤32)&&decide (c.log≤c.lines-5)&&decide (2≤c.young∧c.young≤400)&&vg0 c.types
structure CfSm (c:Cf):Prop where
 l: -9223372036854775000≤c.lines∧c.lines≤9223372036854775000
 n:c.types.length≤1048576
 t:∀s∈c.types,s.size≤1048576
theorem vlo {d:Nat} {c:Cf} (hc:CfSm c):vaf (T (d+3)) vad vdg [cCf true c]=some ([.a (.bool (confOk c))],[]):=by
 have h1:=vm3 (d:=d) c.types hc.n hc.t;have e1:Ac.wrap (c.lines-5)=c.lines-5:=vai _ (by have:=hc.l;omega) (by have:=hc.l;omega);rw [vag rfl];unfold confOk;obtain ⟨L,G,Y,ts⟩:=c;dsimp only at *;generalize vg0 ts=k at *;by_cases c1:8≤L∧L≤128
 ·rw [decide_eq_true c1];by_cases c2:1≤G∧G≤32
  ·rw [decide_eq_true c2];by_cases c3:G≤L-5
   ·rw [decide_eq_true c3];by_cases c4:2≤Y∧Y≤400
    ·rw [decide_eq_true c4];simp -implicitDefEqProofs (disch:=first|exact zd|fail) only [go_sem,Aa,Ab,vdg,vhe,h1,e1,decide_eq_true c1,decide_eq_true c2,c3,decide_eq_true c4]
    ·rw [decide_eq_false c4];simp -implicitDefEqProofs (disch:=first|exact zd|fail) only [go_sem,Aa,Ab,vdg,vhe,h1,e1,decide_eq_true c1,decide_eq_true c2,c3,decide_eq_false c4]
   ·rw [decide_eq_false c3];simp -implicitDefEqProofs (disch:=first|exact zd|fail) only [go_sem,Aa,Ab,vdg,vhe,h1,e1,decide_eq_true c1,decide_eq_true c2,c3]
  ·rw [decide_eq_false c2];simp -implicitDefEqProofs (disch:=first|exact zd|fail) only [go_sem,Aa,Ab,vdg,vhe,h1,e1,decide_eq_true c1,decide_eq_false c2]
 ·rw [decide_eq_false c1];simp -implicitDefEqProofs (disch:=first|exact zd|fail) only [go_sem,Aa,Ab,vdg,vhe,h1,e1,decide_eq_false c1]
structure Conf (c:Cf):Prop where
 l0:8≤c.lines
 l1:c.lines≤128
 g0:1≤c.log
 g1:c.log≤32
 g2:c.log≤c.lines-5
 y0:2≤c.young
 y1:c.young≤400
 n0:1≤c.types.length
 n1:c.types.length≤12
 ty:∀s∈c.types,1≤s.size∧s.size≤23
 ok:∀s∈c.types,okType s=true
theorem Conf.of {c:Cf} (h:confOk c=true):Conf c:=by
 unfold confOk vg0 at h;simp only [Bool.and_eq_true,decide_eq_true_eq,List.all_eq_true] at h;obtain ⟨⟨⟨⟨h1,h2⟩,h3⟩,h4⟩,h5,h6⟩:=h;refine ⟨h1.1,h1.2,h2.1,h2.2,h3,h4.1,h4.2,h5.1,h5.2,fun s hs=> ?_,h6⟩;have:=h6 s hs;unfold okType at this;simp only [Bool.and_eq_true,decide_eq_true_eq] at this;exact this.1
def u8n (x:Int):Nat:=(x%256).toNat
theorem qar (x:Int):Ao.wrap x=(u8n x:Nat):=by show x%256=_;unfold u8n;omega
def maskStep (p:Nat×Int) (b:UInt8):Nat×Int:=(p.1+1,if (b.toNat:Int)=114 then iOr .i64 p.2 (Ac.wrap (1 * 2^min p.1 64)) else p.2)
def maskOf (s:ByteArray):Int:=((ch s).foldl maskStep (0,0)).2
def typeB (s:ByteArray):ByteArray:=strN [u8n s.size,u8n ((maskOf s).fdiv 65536),u8n ((maskOf s).fdiv 256),u8n (maskOf s)]
theorem qi0 (s:ByteArray):(typeB s).size=4:=rfl
theorem qrz (a:Int) (b:Nat):binT .shl (.a (.int .i64 a)) (.a (.int .u64 (b:Nat)))=some (.a (.int .i64 (Ac.wrap (a * 2^min b 64)))):=by
 have h0:¬((b:Int)<0):=by omega
 show (if (b:Int)<0 then none else some (Value.int .i64 (Ac.wrap (a * 2^(min (b:Int).toNat 64))))).map TV.a=_;rw [if_neg h0,Ag];rfl
theorem qji {c:Cf} (hc:Conf c) {i:Nat} {s acc:ByteArray} (hs:c.types[i]? =some s):va7 Φ vad [1,3,4,5,6] vhw ⟨[(1,.rf 0),(3,.a (.string acc)),(4,.a (.int .i64 (i:Nat))),(5,.a (.int .i64 0)),(6,.a (.int .i64 (0:Nat)))],[(0,some (.bx false (uCf c)))],1⟩=
  some (.ext 2,⟨[(1,.rf 0),(3,.a (.string acc)),(4,.a (.int .i64 (i:Nat))),(5,.a (.int .i64 (maskOf s))),(6,.a (.int .i64 (s.size:Nat))),(40,.a (.bool false))],[(0,some (.bx false (uCf c)))],801⟩):=by
 have hz:=hc.ty s (At hs);have hil:i<c.types.length:=(Af.1 hs).1;have hn:=hc.n1
 have key:=(vee (Φ:=Φ) (N:=vad) (live:= [1,3,4,5,6]) (b:=vhw) (ch s) (fun j p=>⟨[(1,.rf 0),(3,.a (.string acc)),(4,.a (.int .i64 (i:Nat))),(5,.a (.int .i64 p.2)),(6,.a (.int .i64 (j:Nat)))],[(0,some (.bx false (uCf c)))],1⟩) (fun j p=>p.1=j) maskStep
  (fun p=>⟨[(1,.rf 0),(3,.a (.string acc)),(4,.a (.int .i64 (i:Nat))),(5,.a (.int .i64 p.2)),(6,.a (.int .i64 ((ch s).length:Nat))),(40,.a (.bool false))],[(0,some (.bx false (uCf c)))],801⟩) (id:=2) (vay (by rw [←ved];omega)) (a0:=(0,0)) rfl (fun j b p hb hp=> ?_) fun p hp=> ?_).1
 ·rw [←ved] at key;exact key
 ·obtain ⟨k,m⟩:=p;obtain rfl:k=j:=hp;have hj:k<s.size:=by rw [ved];exact (Af.1 hb).1
  have hw:=vat k zo;have hlt:(k:Int)<s.size:=by omega
  have hx:=vn2 hb;have e1:Ah.wrap (k:Int)=(k:Int):=vh5 _ zo zo;have e2:=qrz 1 k;refine ⟨?_,rfl⟩;unfold round maskStep vhw;by_cases h1:(b.toNat:Int)=114
  ·simp -implicitDefEqProofs (disch:=first|exact zd|fail) only [go_sem,Aa,Ab,hw,hlt,hx,hs,h1,e1,e2]
   (show some _=some _;kernel_rfl)
  ·simp -implicitDefEqProofs (disch:=first|exact zd|fail) only [go_sem,Aa,Ab,hw,hlt,hx,hs,h1]
   (show some _=some _;kernel_rfl)
 ·rw [←ved];unfold round vhw;simp -implicitDefEqProofs (disch:=first|exact zd|fail) only [go_sem,Aa,Ab,hs]
theorem vzo {c:Cf} (hc:Conf c) {a0:ByteArray} (ha:a0.size≤100):va7 Φ vad [1,3,4] vht ⟨[(1,.rf 0),(3,.a (.string a0)),(4,.a (.int .i64 (0:Nat)))],[(0,some (.bx false (uCf c)))],1⟩=
  some (.ext 0,⟨[(1,.rf 0),(3,.a (.string (c.types.foldl (fun a s=>a++typeB s) a0))),(4,.a (.int .i64 (c.types.length:Nat))),(30,.a (.bool false))],[(0,some (.bx false (uCf c)))],501⟩)∧(c.types.foldl (fun a s=>a++typeB s) a0).size=a0.size+c.types.length * 4:=by
 have hn:=hc.n1;refine vee (Φ:=Φ) (N:=vad) (live:= [1,3,4]) (b:=vht) c.types (fun i a=>⟨[(1,.rf 0),(3,.a (.string a)),(4,.a (.int .i64 (i:Nat)))],[(0,some (.bx false (uCf c)))],1⟩) (fun i a=>a.size=a0.size+i * 4) (fun a s=>a++typeB s)
  (fun a=>⟨[(1,.rf 0),(3,.a (.string a)),(4,.a (.int .i64 (c.types.length:Nat))),(30,.a (.bool false))],[(0,some (.bx false (uCf c)))],501⟩) (id:=0) (vay zo) (a0:=a0) zo (fun i s a hs hp=> ?_) fun a hp=> ?_
 ·have hil:i<c.types.length:=(Af.1 hs).1;have hw:=vat i zo;have hz:=hc.ty s (At hs);have k1:=qji (Φ:=Φ) hc (acc:=a) hs;have hlt:(i:Int)<c.types.length:=by omega
  have hts:=qi0 s;have s1:(maskOf s).fdiv (2^min (Ae 16) 64)=(maskOf s).fdiv 65536:=rfl;have s2:(maskOf s).fdiv (2^min (Ae 8) 64)=(maskOf s).fdiv 256:=rfl;refine ⟨?_,by rw [Ad,hts];omega⟩;have htb:(⟨#[Aj (u8n s.size),Aj (u8n ((maskOf s).fdiv 65536)),Aj (u8n ((maskOf s).fdiv 256)),Aj (u8n (maskOf s))]⟩:ByteArray)=typeB s:=rfl;unfold round vht;simp -implicitDefEqProofs (disch:=first|exact zd|fail) only [go_sem,Aa,Ab,hw,hlt,hs,vao k1,s1,s2,qar,Ag,htb]
  (show some _=some _;kernel_rfl)
 ·unfold round vht;simp -implicitDefEqProofs (disch:=first|exact zd|fail) only [go_sem,Aa,Ab]
theorem vfr (n:Int):(ve1 n).size≤2:=by
 unfold ve1;split
 ·rw [Ak,vcj];omega
 ·show 0≤2;omega
def magic:ByteArray:=⟨#[78,86,71,49]⟩
def superHead (c:Cf):ByteArray:=magic++ve1 c.lines++ve1 c.log++ve1 c.young++strN [u8n c.types.length]
def superBody (c:Cf):ByteArray:=c.types.foldl (fun a s=>a++typeB s) (superHead c)
def superOf (c:Cf):ByteArray:=sealed (superBody c)
theorem voo (c:Cf):(superHead c).size≤11:=by
 have h1:=vfr c.lines;have h2:=vfr c.log;have h3:=vfr c.young;unfold superHead;rw [Ad,Ad,Ad,Ad];show 4+_+_+_+1≤11;omega
theorem vsx {c:Cf} (hc:Conf c):(superBody c).size≤59:=by
 have h1:=(vzo (Φ:=fun _=>none) hc (a0:=superHead c) (by have:=voo c;omega)).2;have h2:=voo c;have:=hc.n1;unfold superBody;omega
theorem vu8 {c:Cf} (hc:Conf c):(superOf c).size=64:=by
 have:=vsx hc;unfold superOf;rw [vw6,if_neg zo]
theorem vxo {d:Nat} {c:Cf} (hc:Conf c):vaf (T (d+2)) vad vh9 [cCf true c]=some ([.a (.string (superOf c))],[]):=by
 have h1:=vk7 (d:=d) c.lines;have h2:=vk7 (d:=d) c.log;have h3:=vk7 (d:=d) c.young;have z1:=vfr c.lines;have z2:=vfr c.log;have z3:=vfr c.young;have zh:=voo c;have zb:=vsx hc;obtain ⟨k1,_⟩:=vzo (Φ:=T (d+2)) hc (a0:=superHead c) zo;have h4:=vt1 (d:=d) (superBody c) zo;have hm:magic.size=4:=rfl;have hl:(strN [u8n c.types.length]).size=1:=rfl;have hll:(⟨#[Aj (u8n c.types.length)]⟩:ByteArray)=strN [u8n c.types.length]:=rfl;have hmm:(⟨#[78,86,71,49]⟩:ByteArray)=magic:=rfl;rw [vag rfl];unfold superOf;have hb:c.types.foldl (fun a s=>a++typeB s) (superHead c)=superBody c:=rfl;rw [hb] at k1;generalize superBody c=B at *;unfold superHead at k1;generalize ve1 c.lines=x1 at *;generalize ve1 c.log=x2 at *;generalize ve1 c.young=x3 at *;simp -implicitDefEqProofs (disch:=first|exact zd|fail) only [go_sem,Aa,Ab,vh9,vs3,h1,h2,h3,qar,Ag,hll,hmm,vao k1,h4];done
def superLine (c:Cf):ByteArray:=if confOk c=true then superOf c else ⟨#[]⟩
theorem qc3 {d:Nat} {c:Cf} (hc:CfSm c):vaf (T (d+4)) vad ve4 [cCf true c]=some ([.a (.string (superLine c))],[]):=by
 have h1:=vlo (d:=d) hc;rw [vag rfl];unfold superLine;cases hk:confOk c
 ·rw [hk] at h1;simp -implicitDefEqProofs (disch:=first|exact zd|fail) only [go_sem,Aa,Ab,ve4,vm9,h1];done
 ·rw [hk] at h1;have h2:=vxo (d:=d+1) (Conf.of hk);simp -implicitDefEqProofs (disch:=first|exact zd|fail) only [go_sem,Aa,Ab,ve4,vm9,h1,h2];done
def vg7 (e:Int):ByteArray:=if 0≤e∧e≤1000000000 then sealed (vbs e) else ⟨#[]⟩
theorem vuc {d:Nat} (e:Int):vaf (T (d+2)) vad ve6 [.a (.int .i64 e)]=some ([.a (.string (vg7 e))],[]):=by
 have h1:=vf6 (Φ:=T (d+1)) e;have h2:=vt1 (d:=d) (vbs e) (by rw [vcj];omega);rw [vag rfl];unfold vg7;generalize vbs e=x at *;by_cases c:0≤e∧e≤1000000000
 ·rw [if_pos c];simp -implicitDefEqProofs (disch:=first|exact zd|fail) only [go_sem,Aa,Ab,ve6,vmn,decide_eq_true c,h1,h2];done
 ·rw [if_neg c];simp -implicitDefEqProofs (disch:=first|exact zd|fail) only [go_sem,Aa,Ab,ve6,vmn,decide_eq_false c];done
theorem vsw (e:Int):(vg7 e).size=if 0≤e∧e≤1000000000 then 64 else 0:=by
 unfold vg7;split
 ·rw [vw6,vcj];rfl
 ·rfl
def vhl (c:Cf):ByteArray:=if confOk c=true then superOf c++vg7 0++zerosB (64 * c.lines.toNat-128) else ⟨#[]⟩
theorem vth {d:Nat} {c:Cf} (hc:CfSm c):vaf (T (d+4)) vad vf4 [cCf true c]=some ([.a (.string (vhl c))],[]):=by
 have h1:=vlo (d:=d) hc;rw [vag rfl];unfold vhl;cases hk:confOk c
 ·rw [hk] at h1;simp -implicitDefEqProofs (disch:=first|exact zd|fail) only [go_sem,Aa,Ab,vf4,vpy,h1];done
 ·rw [hk] at h1;have hC:=Conf.of hk;have h2:=vxo (d:=d+1) hC;have h3:=vuc (d:=d+1) 0;have l0:=hC.l0;have l1:=hC.l1;have e1:Ac.wrap (64 * c.lines)=64 * c.lines:=vai _ zo zo;have e2:Ac.wrap (64 * c.lines-128)=((64 * c.lines.toNat-128:Nat):Int):=by rw [vai _ zo zo];omega
  have h4:=vki (Φ:=T (d+3)) (N:=vad) (64 * c.lines.toNat-128) zo;have z1:=vu8 hC;have z2:(vg7 0).size=64:=by rw [vsw];rfl
  have z3:=vh7 (64 * c.lines.toNat-128);generalize superOf c=x1 at *;generalize vg7 0=x2 at *;generalize zerosB (64 * c.lines.toNat-128)=x3 at *;simp -implicitDefEqProofs (disch:=first|exact zd|fail) only [go_sem,Aa,Ab,vf4,vpy,h1,h2,h3,e1,e2,h4];done
theorem vqn {c:Cf} (hk:confOk c=true):(vhl c).size=64 * c.lines.toNat:=by
 have hC:=Conf.of hk;have:=hC.l0;unfold vhl;rw [if_pos hk,Ad,Ad,vu8 hC,vsw,vh7];simp only [Au,true_and];rw [if_pos zo];omega
def readEpoch (s:ByteArray):Option Int:=if s.size=64 then (if vg7 (vcs (s.extract 0 8))=s then some (vcs (s.extract 0 8)) else none) else none
theorem qc9 {d:Nat} (s:ByteArray) (hs:s.size≤9223372036854775807):vaf (T (d+3)) vad vd8 [.a (.string s)]=some ([.a (.int .i64 ((readEpoch s).getD 0)),.a (.bool (readEpoch s).isSome)],[]):=by
 rw [vag rfl];unfold readEpoch;by_cases c:s.size=64
 ·rw [if_pos c];have hz:(s.extract 0 8).size=8:=by rw [Ak];omega
  have h1:=vk4 (Φ:=T (d+2)) (s.extract 0 8);rw [if_pos hz,decide_eq_true hz] at h1;have h2:=vuc (d:=d) (vcs (s.extract 0 8));have e8:Ae 8=8:=rfl;generalize g0:s.extract 0 8=x at *;generalize vcs x=e at *;by_cases c2:vg7 e=s
  ·rw [if_pos c2];have hne:decide (vg7 e≠s)=false:=by simp [c2]
   simp -implicitDefEqProofs (disch:=first|exact zd|fail) only [go_sem,Aa,Ab,vd8,vj5,c,h1,h2,hne,e8,g0]
  ·rw [if_neg c2];have hne:decide (vg7 e≠s)=true:=by simp [c2]
   simp -implicitDefEqProofs (disch:=first|exact zd|fail) only [go_sem,Aa,Ab,vd8,vj5,c,h1,h2,hne,e8,g0];rfl
 ·have c':¬(s.size:Int)=64:=by omega
  rw [if_neg c];simp -implicitDefEqProofs (disch:=first|exact zd|fail) only [go_sem,Aa,Ab,vd8,vj5,c'];rfl
structure Rc where
 epoch:Int
 seq:Int
 half:Int
 old:ByteArray
abbrev cRc (r:Rc):CV:= .st [.a (.int .i64 r.epoch),.a (.int .i64 r.seq),.a (.int .i64 r.half),.a (.string r.old)]
def recOk (r:Rc):Bool:=decide (0≤r.epoch∧r.epoch≤999999999)&&(decide (0≤r.seq∧r.seq≤31)&&(decide (0≤r.half∧r.half≤255)&&decide (r.old.size=32)))
def recBody (r:Rc):ByteArray:=⟨#[85]⟩++strN [u8n r.seq]++ve1 r.half++vbs r.epoch++r.old
def recLine (r:Rc):ByteArray:=if recOk r=true then sealed (recBody r) else ⟨#[]⟩
theorem qad {d:Nat} (r:Rc) (ho:r.old.size≤1048576):vaf (T (d+2)) vad vcz [cRc r]=some ([.a (.string (recLine r))],[]):=by
 rw [vag rfl];unfold recLine recOk;obtain ⟨E,S,H,O⟩:=r;dsimp only at *;by_cases c1:0≤E∧E≤999999999
 ·rw [decide_eq_true c1];by_cases c2:0≤S∧S≤31
  ·rw [decide_eq_true c2];by_cases c3:0≤H∧H≤255
   ·rw [decide_eq_true c3];by_cases c4:O.size=32
    ·rw [decide_eq_true c4];have h1:=vk7 (d:=d) H;have h2:=vf6 (Φ:=T (d+1)) E;have z1:=vfr H;have z2:=vcj E;have hu:(⟨#[85]⟩:ByteArray).size=1:=rfl;have hl:(strN [u8n S]).size=1:=rfl;have hll:(⟨#[Aj (u8n S)]⟩:ByteArray)=strN [u8n S]:=rfl;have zb:(recBody ⟨E,S,H,O⟩).size≤60:=by
      unfold recBody;simp only [Ad];omega
     have h3:=vt1 (d:=d) (recBody ⟨E,S,H,O⟩) zo;unfold recBody at *;dsimp only at *;generalize ve1 H=x1 at *;generalize vbs E=x2 at *;simp -implicitDefEqProofs (disch:=first|exact zd|fail) only [go_sem,Aa,Ab,vcz,vf2,decide_eq_true c1,decide_eq_true c2,decide_eq_true c3,c4,h1,h2,qar,Ag,hll,h3];done
    ·have c4':¬(O.size:Int)=32:=by omega
     rw [decide_eq_false c4];simp -implicitDefEqProofs (disch:=first|exact zd|fail) only [go_sem,Aa,Ab,vcz,vf2,decide_eq_true c1,decide_eq_true c2,decide_eq_true c3,c4'];done
   ·rw [decide_eq_false c3];simp -implicitDefEqProofs (disch:=first|exact zd|fail) only [go_sem,Aa,Ab,vcz,vf2,decide_eq_true c1,decide_eq_true c2,decide_eq_false c3];done
  ·rw [decide_eq_false c2];simp -implicitDefEqProofs (disch:=first|exact zd|fail) only [go_sem,Aa,Ab,vcz,vf2,decide_eq_true c1,decide_eq_false c2];done
 ·rw [decide_eq_false c1];simp -implicitDefEqProofs (disch:=first|exact zd|fail) only [go_sem,Aa,Ab,vcz,vf2,decide_eq_false c1];done
def rdRec (s:ByteArray):Rc:=⟨vcs (s.extract 4 12),((ch s)[1]?.getD 0).toNat,vb0 (s.extract 2 4),s.extract 12 44⟩
def readRec (s:ByteArray):Option Rc:=if s.size=64 then (if recLine (rdRec s)=s then some (rdRec s) else none) else none
def noRec:Rc:=⟨0,0,0,⟨#[]⟩⟩
theorem qbe {d:Nat} (s:ByteArray) (hs:s.size≤9223372036854775807):vaf (T (d+3)) vad vdr [.a (.string s)]=some ([cRc ((readRec s).getD noRec),.a (.bool (readRec s).isSome)],[]):=by
 rw [vag rfl];unfold readRec;by_cases c:s.size=64
 ·rw [if_pos c];have z1:(s.extract 4 12).size=8:=by rw [Ak];omega
  have z2:(s.extract 2 4).size=2:=by rw [Ak];omega
  have z3:(s.extract 12 44).size=32:=by rw [Ak];omega
  have hlen:1<(ch s).length:=by rw [←ved];omega
  obtain ⟨b,hb⟩:∃b,(ch s)[1]? =some b:=⟨_,An hlen⟩
  have hx:ixT (.a (.string s)) (.a (.int .i64 1))=some (.a (.int .u8 b.toNat)):=vn2 hb;have hbl:=b.toNat_lt;have e1:Ac.wrap (b.toNat:Int)=b.toNat:=vai _ zo zo;have h1:=vk4 (Φ:=T (d+2)) (s.extract 4 12);rw [if_pos z1,decide_eq_true z1] at h1;have h2:=vl5 (Φ:=T (d+2)) (N:=vad) (s.extract 2 4);have h3:=qad (d:=d) (rdRec s) (by unfold rdRec;dsimp only;omega);unfold rdRec at *;rw [hb,Aq] at *;have n2:Ae 2=2:=rfl;have n4:Ae 4=4:=rfl;have n12:Ae 12=12:=rfl;have n44:Ae 44=44:=rfl;generalize g1:s.extract 4 12=x1 at *;generalize g2:s.extract 2 4=x2 at *;generalize g3:s.extract 12 44=x3 at *;by_cases c2:recLine ⟨vcs x1,b.toNat,vb0 x2,x3⟩=s
  ·rw [if_pos c2];have hne:decide (recLine ⟨vcs x1,b.toNat,vb0 x2,x3⟩≠s)=false:=by simp [c2]
   simp -implicitDefEqProofs (disch:=first|exact zd|fail) only [go_sem,Aa,Ab,vdr,vjl,c,hx,e1,h1,h2,h3,hne,n2,n4,n12,n44,g1,g2,g3]
  ·rw [if_neg c2];have hne:decide (recLine ⟨vcs x1,b.toNat,vb0 x2,x3⟩≠s)=true:=by simp [c2]
   simp -implicitDefEqProofs (disch:=first|exact zd|fail) only [go_sem,Aa,Ab,vdr,vjl,c,hx,e1,h1,h2,h3,hne,n2,n4,n12,n44,g1,g2,g3];rfl
 ·have c':¬(s.size:Int)=64:=by omega
  rw [if_neg c];simp -implicitDefEqProofs (disch:=first|exact zd|fail) only [go_sem,Aa,Ab,vdr,vjl,c'];rfl
def bAt (s:ByteArray) (j:Nat):Nat:=((ch s)[j]?.getD 0).toNat
theorem qek (s:ByteArray) (j:Nat):bAt s j<256:=UInt8.toNat_lt _
theorem vi9 {s:ByteArray} {j:Nat} (h:j<s.size):ixT (.a (.string s)) (.a (.int .i64 (j:Nat)))=some (.a (.int .u8 (bAt s j:Nat))):=by
 obtain ⟨b,hb⟩:∃b,(ch s)[j]? =some b:=⟨_,An (by rw [←ved];exact h)⟩
 have:=vn2 hb;unfold bAt;rw [hb];exact this
theorem qsk (a:Int) (b:Nat):binT .shr (.a (.int .i64 a)) (.a (.int .u64 (b:Nat)))=some (.a (.int .i64 (a.fdiv (2^min b 64)))):=by
 have h0:¬((b:Int)<0):=by omega
 show (if (b:Int)<0 then none else some (Value.int .i64 (a.fdiv (2^(min (b:Int).toNat 64))))).map TV.a=_;rw [if_neg h0,Ag];rfl
def maskAt (s:ByteArray) (i:Nat):Int:=iOr .i64 (iOr .i64 (Ac.wrap ((bAt s (11+4 * i+1):Nat) * 2^min (Ae 16) 64)) (Ac.wrap ((bAt s (11+4 * i+2):Nat) * 2^min (Ae 8) 64))) (bAt s (11+4 * i+3):Nat)
def kindC (m:Int) (k:Nat):ByteArray:=if iAnd .i64 (m.fdiv (2^min k 64)) 1=1 then ⟨#[114]⟩ else ⟨#[105]⟩
def kindsOf (m:Int) (n:Nat):ByteArray:=(Ai n).foldl (fun a k=>a++kindC m k) ⟨#[]⟩
theorem vzj (m:Int) (k:Nat):(kindC m k).size=1:=by unfold kindC;split<;>rfl
def kindsAt (s:ByteArray) (i:Nat):ByteArray:=kindsOf (maskAt s i) (min (bAt s (11+4 * i)) 24)
def rdTypes (s:ByteArray) (n:Nat):List ByteArray:=(Ai n).map (kindsAt s)
def rdCf (s:ByteArray):Cf:=⟨vb0 (s.extract 4 6),vb0 (s.extract 6 8),vb0 (s.extract 8 10),rdTypes s (min (bAt s 10) 12)⟩
def readSuper (s:ByteArray):Option Cf:=if s.size=64 then (if superLine (rdCf s)=s then some (rdCf s) else none) else none
def noCf:Cf:=⟨0,0,0,[]⟩
abbrev nSup (a b c:Int) (ts:List ByteArray):vb5:= [(0,some (.bx false [.a (.int .i64 0),.a (.int .i64 0),.a (.int .i64 0),.rf 2])),(1,some (.bx false [.a (.int .i64 a),.a (.int .i64 b),.a (.int .i64 c),.rf 3])),(2,some (.sl false 0 va9 [])),(3,some (.sl false 0 va9 (ts.map eStr)))]
theorem qdj {s:ByteArray} (hs:s.size=64) {i:Nat} (hi:i<12) (m a b c:Int) (ts:List ByteArray):
  va7 Φ vad [0,2,4,5,6,7,8,9] vgd ⟨[(0,.a (.string s)),(2,.rf 0),(4,.rf 1),(5,.a (.int .i64 (i:Nat))),(6,.a (.int .i64 (11+4 * i:Nat))),(7,.a (.int .i64 m)),(8,.a (.string ⟨#[]⟩)),(9,.a (.int .i64 (0:Nat)))],nSup a b c ts,4⟩=
   some (.ext 2,⟨[(0,.a (.string s)),(2,.rf 0),(4,.rf 1),(5,.a (.int .i64 (i:Nat))),(6,.a (.int .i64 (11+4 * i:Nat))),(7,.a (.int .i64 m)),(8,.a (.string (kindsOf m (min (bAt s (11+4 * i)) 24)))),(9,.a (.int .i64 (min (bAt s (11+4 * i)) 24:Nat))),(78,.a (.bool false))],nSup a b c ts,1004⟩)∧(kindsOf m (min (bAt s (11+4 * i)) 24)).size=min (bAt s (11+4 * i)) 24:=by
 have hb:=qek s (11+4 * i);have hx:=vi9 (s:=s) (j:=11+4 * i) zo;generalize bAt s (11+4 * i)=q at *;have e1:Ac.wrap (q:Int)=(q:Int):=vai _ zo zo;have key:=vee (Φ:=Φ) (N:=vad) (live:= [0,2,4,5,6,7,8,9]) (b:=vgd) (Ai (min q 24)) (fun j acc=>⟨[(0,.a (.string s)),(2,.rf 0),(4,.rf 1),(5,.a (.int .i64 (i:Nat))),(6,.a (.int .i64 (11+4 * i:Nat))),(7,.a (.int .i64 m)),(8,.a (.string acc)),(9,.a (.int .i64 (j:Nat)))],nSup a b c ts,4⟩) (fun j acc=>acc.size=j) (fun acc k=>acc++kindC m k)
  (fun acc=>⟨[(0,.a (.string s)),(2,.rf 0),(4,.rf 1),(5,.a (.int .i64 (i:Nat))),(6,.a (.int .i64 (11+4 * i:Nat))),(7,.a (.int .i64 m)),(8,.a (.string acc)),(9,.a (.int .i64 (min q 24:Nat))),(78,.a (.bool false))],nSup a b c ts,1004⟩) (id:=2) (vay (by simp;omega)) (a0:=⟨#[]⟩) rfl (fun j k acc hj hp=> ?_) fun acc hp=> ?_
 ·rw [Ap] at key;exact key
 ·have hjq:j<min q 24:=by have:=(Af.1 hj).1;simpa using this
  rw [As hjq] at hj;cases hj;have hw:=vat j zo;have l1:(j:Int)<q:=by omega
  have l2:(j:Int)<24:=by omega
  have e2:Ah.wrap (j:Int)=(j:Int):=vh5 _ zo zo;have e3:=qsk m j;have z1:(⟨#[114]⟩:ByteArray).size=1:=rfl;have z2:(⟨#[105]⟩:ByteArray).size=1:=rfl;refine ⟨?_,by rw [Ad,vzj];omega⟩;unfold round kindC vgd;by_cases h1:iAnd .i64 (m.fdiv (2^min j 64)) 1=1
  ·rw [if_pos h1];simp -implicitDefEqProofs (disch:=first|exact zd|fail) only [go_sem,Aa,Ab,hw,hx,e1,l1,l2,e2,e3,h1]
   (show some _=some _;kernel_rfl)
  ·rw [if_neg h1];simp -implicitDefEqProofs (disch:=first|exact zd|fail) only [go_sem,Aa,Ab,hw,hx,e1,l1,l2,e2,e3,h1]
   (show some _=some _;kernel_rfl)
 ·rw [Ap];unfold round vgd;by_cases h1:((min q 24:Nat):Int)<q
  ·have h2:¬((min q 24:Nat):Int)<24:=by omega
   simp -implicitDefEqProofs (disch:=first|exact zd|fail) only [go_sem,Aa,Ab,hx,e1,h1,h2]
  ·simp -implicitDefEqProofs (disch:=first|exact zd|fail) only [go_sem,Aa,Ab,hx,e1,h1]
theorem qes {s:ByteArray} (hs:s.size=64) (a b c:Int):
  va7 Φ vad [0,2,4,5] vip ⟨[(0,.a (.string s)),(2,.rf 0),(4,.rf 1),(5,.a (.int .i64 (0:Nat)))],nSup a b c [],4⟩=
   some (.ext 0,⟨[(0,.a (.string s)),(2,.rf 0),(4,.rf 1),(5,.a (.int .i64 (min (bAt s 10) 12:Nat))),(44,.a (.bool false))],nSup a b c (rdTypes s (min (bAt s 10) 12)),904⟩):=by
 have hb:=qek s 10;have hx:=vi9 (s:=s) (j:=10) zo;rw [show ((10:Nat):Int)=10 from rfl] at hx;generalize bAt s 10=q at *;have e1:Ac.wrap (q:Int)=(q:Int):=vai _ zo zo;refine vc5 (m:=min q 12) (fun i=>⟨[(0,.a (.string s)),(2,.rf 0),(4,.rf 1),(5,.a (.int .i64 (i:Nat)))],nSup a b c (rdTypes s i),4⟩) _ (vay zo) (fun i hi=> ?_) ?_
 ·have hw:=vat i zo;have l1:(i:Int)<q:=by omega
  have l2:(i:Int)<12:=by omega
  have m1:Ac.wrap (4 * (i:Int))=4 * (i:Int):=vai _ zo zo;have m2:Ac.wrap (11+4 * (i:Int))=((11+4 * i:Nat):Int):=by rw [vai _ zo zo];omega
  have m3:Ac.wrap (((11+4 * i:Nat):Int)+1)=((11+4 * i+1:Nat):Int):=by rw [vai _ zo zo];omega
  have m4:Ac.wrap (((11+4 * i:Nat):Int)+2)=((11+4 * i+2:Nat):Int):=by rw [vai _ zo zo];omega
  have m5:Ac.wrap (((11+4 * i:Nat):Int)+3)=((11+4 * i+3:Nat):Int):=by rw [vai _ zo zo];omega
  have x1:=vi9 (s:=s) (j:=11+4 * i+1) zo;have x2:=vi9 (s:=s) (j:=11+4 * i+2) zo;have x3:=vi9 (s:=s) (j:=11+4 * i+3) zo;have w (j:Nat):Ac.wrap (bAt s j:Int)=bAt s j:=by have:=qek s j;exact vai _ zo zo
  have hmm:iOr .i64 (iOr .i64 (Ac.wrap ((bAt s (11+4 * i+1):Nat) * 2^min (Ae 16) 64)) (Ac.wrap ((bAt s (11+4 * i+2):Nat) * 2^min (Ae 8) 64))) (bAt s (11+4 * i+3):Nat)=maskAt s i:=rfl;obtain ⟨k1,k2⟩:=qdj (Φ:=Φ) hs (i:=i) zo (maskAt s i) a b c (rdTypes s i);have hr:rdTypes s (i+1)=rdTypes s i++ [kindsOf (maskAt s i) (min (bAt s (11+4 * i)) 24)]:=by
   unfold rdTypes;rw [Ax,List.map_append];rfl
  have hl:(rdTypes s i).length=i:=by unfold rdTypes;simp
  rw [hr];unfold nSup;rw [vbt];unfold round vip;simp -implicitDefEqProofs (disch:=first|exact zd|fail) only [go_sem,Aa,Ab,hw,hx,e1,l1,l2,m1,m2,m3,m4,m5,x1,x2,x3,w,hmm,vao k1]
  (show some _=some _;kernel_rfl)
 ·unfold round vip;by_cases h1:((min q 12:Nat):Int)<q
  ·have h2:¬((min q 12:Nat):Int)<12:=by omega
   simp -implicitDefEqProofs (disch:=first|exact zd|fail) only [go_sem,Aa,Ab,hx,e1,h1,h2]
  ·simp -implicitDefEqProofs (disch:=first|exact zd|fail) only [go_sem,Aa,Ab,hx,e1,h1]
theorem vy6 (s:ByteArray):CfSm (rdCf s):=by
 have hr (x:ByteArray):0≤vb0 x∧vb0 x≤65535:=by
  unfold vb0;split
  ·rename_i a b _;have:=a.toNat_lt;have:=b.toNat_lt;omega
  ·omega
 refine ⟨?_,?_,?_⟩
 ·have:=hr (s.extract 4 6);show _≤vb0 (s.extract 4 6)∧vb0 (s.extract 4 6)≤_;omega
 ·show (rdTypes s _).length≤_;unfold rdTypes;simp;omega
 ·intro x hx;obtain ⟨i,_,rfl⟩:=List.mem_map.1 hx;have:∀(n:Nat) (m:Int),(kindsOf m n).size=n:=by
   intro n m;induction n with
   |zero=>rfl
   |succ n ih=>
    unfold kindsOf at *;rw [Ax,List.foldl_append,List.foldl_cons,List.foldl_nil,Ad,ih,vzj]
  show (kindsAt s i).size≤_;unfold kindsAt;rw [this];omega
theorem qc6 {d:Nat} (s:ByteArray) (hs:s.size≤9223372036854775807):vaf (T (d+5)) vad vd3 [.a (.string s)]=some ([cCf false ((readSuper s).getD noCf),.a (.bool (readSuper s).isSome)],[]):=by
 rw [vag rfl];unfold readSuper;by_cases c:s.size=64
 ·rw [if_pos c];have h1:=vl5 (Φ:=T (d+4)) (N:=vad) (s.extract 4 6);have h2:=vl5 (Φ:=T (d+4)) (N:=vad) (s.extract 6 8);have h3:=vl5 (Φ:=T (d+4)) (N:=vad) (s.extract 8 10);have n4:Ae 4=4:=rfl;have n6:Ae 6=6:=rfl;have n8:Ae 8=8:=rfl;have n10:Ae 10=10:=rfl;have hsl:=qc3 (d:=d) (vy6 s);have hk:=qes (Φ:=T (d+5)) c (vb0 (s.extract 4 6)) (vb0 (s.extract 6 8)) (vb0 (s.extract 8 10));unfold rdCf at *;generalize g1:s.extract 4 6=x1 at *;generalize g2:s.extract 6 8=x2 at *;generalize g3:s.extract 8 10=x3 at *;generalize rdTypes s (min (bAt s 10) 12)=ts at *;by_cases c2:superLine ⟨vb0 x1,vb0 x2,vb0 x3,ts⟩=s
  ·rw [if_pos c2];have hne:decide (superLine ⟨vb0 x1,vb0 x2,vb0 x3,ts⟩≠s)=false:=by simp [c2]
   simp -implicitDefEqProofs (disch:=first|exact zd|fail) only [go_sem,Aa,Ab,vd3,vkd,c,h1,h2,h3,g1,g2,g3,n4,n6,n8,n10,vao hk,hsl,hne];done
  ·rw [if_neg c2];have hne:decide (superLine ⟨vb0 x1,vb0 x2,vb0 x3,ts⟩≠s)=true:=by simp [c2]
   simp -implicitDefEqProofs (disch:=first|exact zd|fail) only [go_sem,Aa,Ab,vd3,vkd,c,h1,h2,h3,g1,g2,g3,n4,n6,n8,n10,vao hk,hsl,hne];rfl
 ·have c':¬(s.size:Int)=64:=by omega
  rw [if_neg c];simp -implicitDefEqProofs (disch:=first|exact zd|fail) only [go_sem,Aa,Ab,vd3,vkd,c'];rfl

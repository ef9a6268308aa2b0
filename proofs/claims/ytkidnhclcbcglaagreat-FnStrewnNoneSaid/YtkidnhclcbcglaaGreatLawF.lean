/- Logs: the reference's. Maps of lines: the reference's. Objects and their bytes: the reference's. Old objects: the reference's. -/
import Derived.Test.YtkidnhclcbcglaaGreatLawImg
import Derived.Test.YtkidnhclcbcglaaGreatVmItr
open Nat renaming reduceAdd->Aa,reduceBEq->Ab
open List renaming getElem?_eq_some_iff->Ac,getElem?_eq_getElem->Ae,mem_of_getElem?->Ai,all_eq_true->Ak,mem_range->Am,replicate->An,range->Aq,findIdx?_eq_some_iff_getElem->Ar,range'->At,find?_range_eq_some->Av,map_append->Aw,range_succ->Az
open Go.IntKind renaming i64->Ad,u8->Au
open Int renaming toNat_natCast->Af,toNat_of_nonneg->Ax,emod_nonneg->Ay,ofNat_tdiv->A1,tdiv->A4
open Option renaming getD_some->Ag,isSome_some->Ah,isSome_none->Ao,getD_none->Ap
open Bool renaming and_eq_true->Aj,and_false->A2,false_and->A3
open ByteArray renaming size_extract->Al,size_append->As
namespace Go.Proofs.YtkidnhclcbcglaaGreat.VM
open Go Sy
variable {Φ:Nat→Option Callee} {N:Nat}
set_option maxRecDepth 100000
set_option maxHeartbeats 8000000
theorem qld {α:Type} {q:α→Bool} {l:List α}: -1≤idxOf q l∧idxOf q l<l.length:=by
 unfold idxOf;cases h:l.findIdx? q with
 |none=>dsimp only;omega
 |some i=>
  have:=(Ar.1 h).1;dsimp only;omega
theorem qrh {α:Type} {q:α→Bool} {l:List α} (h:idxOf q l<0):∀x∈l,q x=false:=by
 unfold idxOf at h;cases h':l.findIdx? q with
 |none=>exact List.findIdx?_eq_none_iff.1 h'
 |some i=>rw [h'] at h;dsimp only at h;omega
theorem qte {α:Type} {q:α→Bool} {l:List α} (h:0≤idxOf q l):∃x,l[(idxOf q l).toNat]? =some x∧q x=true:=by
 unfold idxOf at *;cases h':l.findIdx? q with
 |none=>rw [h'] at h;dsimp only at h;omega
 |some i=>
  obtain ⟨h1,h2,_⟩:=Ar.1 h';exact ⟨l[i],by simp [h1],h2⟩
def eRc (r:Rc):PV:= .st [vap r.epoch,vap r.seq,vap r.half,eStr r.old]
theorem qvc (r:Rc):eRc r= .st [.a (.int .i64 r.epoch),.a (.int .i64 r.seq),.a (.int .i64 r.half),.a (.string r.old)]:=rfl
attribute [go_sem] qvc
abbrev hasHalf (h:Int) (r:Rc):Bool:=decide (r.half=h)
theorem qjj (l:List Rc) (h:Int) (hl:l.length≤1048576):
  va7 Φ vad [0,1,5] vjk ⟨[(0,.sz vc4 (l.map eRc)),(1,.a (.int .i64 h)),(5,.a (.int .i64 (0:Nat)))],[],0⟩=
  some (match l.findIdx? (hasHalf h) with|some i=>(.ret,⟨[(4,.a (.int .i64 (i:Nat)))],[],1300⟩)|none=>(.ext 0,⟨[(0,.sz vc4 (l.map eRc)),(1,.a (.int .i64 h)),(5,.a (.int .i64 l.length)),(9,.a (.bool false))],[],400⟩)):=by
 refine vfh (fun i=>⟨[(0,.sz vc4 (l.map eRc)),(1,.a (.int .i64 h)),(5,.a (.int .i64 (i:Nat)))],[],0⟩) _ (fun i=>∀(j:Nat) b,j<i→l[j]? =some b→hasHalf h b=false) (m:=l.length) (vay zo) (fun j b h=>by omega) (by split<;>simp) (fun i hi hp=> ?_);by_cases hi':i<l.length
 ·obtain ⟨b,hb⟩:∃b,l[i]? =some b:=⟨_,Ae hi'⟩
  have hw:=vat i zo;unfold round vjk;by_cases c:b.half=h
  ·right;rw [vvm (q:=hasHalf h) hb (decide_eq_true c) hp];simp -implicitDefEqProofs (disch:=first|exact zd|fail) only [go_sem,Aa,Ab,hb,hw,c]
  ·refine .inl ⟨hi',?_,fun j y hj hy=> ?_⟩
   ·simp -implicitDefEqProofs (disch:=first|exact zd|fail) only [go_sem,Aa,Ab,hb,hw,c];kernel_rfl
   ·by_cases hji:j=i
    ·subst hji;rw [hb] at hy;cases hy;exact decide_eq_false c
    ·exact hp j y zo hy
 ·obtain rfl:i=l.length:=by omega
  right;rw [vvj fun j y hy=>hp j y (by have:=(Ac.1 hy).1;omega) hy];unfold round vjk;simp -implicitDefEqProofs (disch:=first|exact zd|fail) only [go_sem,Aa,Ab]
theorem qf9 (l:List Rc) (h:Int) (hl:l.length≤1048576):vaf Φ vad vgz [.sl true vc4 (l.map eRc),.a (.int .i64 h)]=some ([.a (.int .i64 (idxOf (hasHalf h) l))],[]):=by
 have key:=qjj (Φ:=Φ) l h hl;rw [vag rfl];unfold idxOf;cases h:l.findIdx? (hasHalf h) with
 |some i=>
  rw [h] at key;dsimp only at key;simp -implicitDefEqProofs (disch:=first|exact zd|fail) only [go_sem,Aa,Ab,vgz,vo7,vhc key]
 |none=>
  rw [h] at key;dsimp only at key;simp -implicitDefEqProofs (disch:=first|exact zd|fail) only [go_sem,Aa,Ab,vgz,vo7,vao key]
theorem qim (l:List Int) (h:Int) (hl:l.length≤1048576):
  va7 Φ vad [0,1,5] vjm ⟨[(0,.sz vam (l.map vap)),(1,.a (.int .i64 h)),(5,.a (.int .i64 (0:Nat)))],[],0⟩=
  some (match l.findIdx? (fun x=>decide (x=h)) with|some i=>(.ret,⟨[(4,.a (.int .i64 (i:Nat)))],[],1200⟩)|none=>(.ext 0,⟨[(0,.sz vam (l.map vap)),(1,.a (.int .i64 h)),(5,.a (.int .i64 l.length)),(9,.a (.bool false))],[],400⟩)):=by
 refine vfh (fun i=>⟨[(0,.sz vam (l.map vap)),(1,.a (.int .i64 h)),(5,.a (.int .i64 (i:Nat)))],[],0⟩) _ (fun i=>∀(j:Nat) b,j<i→l[j]? =some b→decide (b=h)=false) (m:=l.length) (vay zo) (fun j b h=>by omega) (by split<;>simp) (fun i hi hp=> ?_);by_cases hi':i<l.length
 ·obtain ⟨b,hb⟩:∃b,l[i]? =some b:=⟨_,Ae hi'⟩
  have hw:=vat i zo;unfold round vjm;by_cases c:b=h
  ·right;rw [vvm (q:=fun x=>decide (x=h)) hb (decide_eq_true c) hp];simp -implicitDefEqProofs (disch:=first|exact zd|fail) only [go_sem,Aa,Ab,hb,hw,c]
  ·refine .inl ⟨hi',?_,fun j y hj hy=> ?_⟩
   ·simp -implicitDefEqProofs (disch:=first|exact zd|fail) only [go_sem,Aa,Ab,hb,hw,c];kernel_rfl
   ·by_cases hji:j=i
    ·subst hji;rw [hb] at hy;cases hy;exact decide_eq_false c
    ·exact hp j y zo hy
 ·obtain rfl:i=l.length:=by omega
  right;rw [vvj fun j y hy=>hp j y (by have:=(Ac.1 hy).1;omega) hy];unfold round vjm;simp -implicitDefEqProofs (disch:=first|exact zd|fail) only [go_sem,Aa,Ab]
def plcI (h:Int) (l:List Int):Int:=idxOf (fun x=>decide (x=h)) l
theorem vl2 (l:List Int) (h:Int) (hl:l.length≤1048576):vaf Φ vad vgs [.sl true vam (l.map vap),.a (.int .i64 h)]=some ([.a (.int .i64 (plcI h l))],[]):=by
 have key:=qim (Φ:=Φ) l h hl;rw [vag rfl];unfold plcI idxOf;cases h:l.findIdx? (fun x=>decide (x=h)) with
 |some i=>
  rw [h] at key;dsimp only at key;simp -implicitDefEqProofs (disch:=first|exact zd|fail) only [go_sem,Aa,Ab,vgs,vog,vhc key]
 |none=>
  rw [h] at key;dsimp only at key;simp -implicitDefEqProofs (disch:=first|exact zd|fail) only [go_sem,Aa,Ab,vgs,vog,vao key]
def logG (c:Cf) (s:ByteArray) (e:Int) (i:Nat) (acc:List Rc):Stp (List Rc) Unit:=
 if (i:Int)<c.log then
  match readRec (lineAt s (4+i)) with
  |none=> .go acc
  |some r=>
   if r.epoch>e then .ret () else if r.epoch≠e then .go acc
   else if (i:Int)≠acc.length then .ret () else if r.seq≠i then .ret () else if isHalf c r.half=false then .ret () else if 0≤idxOf (hasHalf r.half) acc then .ret ()
   else .go (acc++ [r])
 else .fin
def logOf (c:Cf) (s:ByteArray):Option (List Rc):=if epochOf c s<0 then none else match itr (logG c s (epochOf c s)) (c.log.toNat+1) 0 [] with
 | .inl p=>some p.2
 | .inr _=>none
structure RcOk (c:Cf) (r:Rc):Prop where
 h:isHalf c r.half=true
 o:r.old.size=32
theorem qi6 {s:ByteArray} {r:Rc} (h:readRec s=some r):r.old.size=32∧r=rdRec s:=by
 unfold readRec at h;split at h
 ·rename_i hs;split at h
  ·cases h;refine ⟨?_,rfl⟩;unfold rdRec;dsimp only;rw [Al];omega
  ·cases h
 ·cases h
theorem qe1 {d:Nat} {c:Cf} (hC:Conf c) {s:ByteArray} (hs:(s.size:Int)=64 * c.lines) (e:Int):
  itO 0 (fun i acc=>⟨[(1,.a (.string s)),(2,.rf 0),(6,.a (.int .i64 e)),(7,.rf 1),(8,.a (.int .i64 (i:Nat))),(20,.a (.bool false))],[(0,some (.bx false (uCf c))),(1,some (.sl false 0 vc4 (acc.map eRc)))],402⟩) (fun _ e=>e.slots= [(4,.nl vc4),(5,.a (.bool false))])
   (va7 (T (d+6)) vad [1,2,6,7,8] vc6 ⟨[(1,.a (.string s)),(2,.rf 0),(6,.a (.int .i64 e)),(7,.rf 1),(8,.a (.int .i64 (0:Nat)))],[(0,some (.bx false (uCf c))),(1,some (.sl false 0 vc4 (([]:List Rc).map eRc)))],2⟩) (itr (logG c s e) (c.log.toNat+1) 0 [])∧
   (∀i a,itr (logG c s e) (c.log.toNat+1) 0 []= .inl (i,a)→(i≤c.log.toNat∧a.length≤i∧∀r∈a,RcOk c r)∧logG c s e i a= .fin)∧∀r,itr (logG c s e) (c.log.toNat+1) 0 []= .inr r→∃i a,(i≤c.log.toNat∧a.length≤i∧∀r∈a,RcOk c r)∧logG c s e i a= .ret r:=by
 have l0:=hC.l0;have l1:=hC.l1;have g0:=hC.g0;have g1:=hC.g1;have g2:=hC.g2;refine vr8 0 (logG c s e) (fun i acc=>⟨[(1,.a (.string s)),(2,.rf 0),(6,.a (.int .i64 e)),(7,.rf 1),(8,.a (.int .i64 (i:Nat)))],[(0,some (.bx false (uCf c))),(1,some (.sl false 0 vc4 (acc.map eRc)))],2⟩) (fun i acc=>i≤c.log.toNat∧acc.length≤i∧∀r∈acc,RcOk c r) _ _ (vay zo) ⟨by omega,by simp,by simp⟩ ?_
 rintro i acc ⟨hi,hl,ha⟩
 refine ⟨hi,?_⟩;unfold logG;by_cases c0:(i:Int)<c.log
 ·rw [if_pos c0];have hw:=vat i zo;have e1:Ad.wrap (4+(i:Int))=((4+i:Nat):Int):=by rw [vai _ zo zo];omega
  have h1:=vy0 (Φ:=T (d+5)) (N:=vad) s (4+i) zo zo;have h2:=qbe (d:=d+2) (lineAt s (4+i)) (by rw [vw4 zo];omega);cases hr:readRec (lineAt s (4+i)) with
  |none=>
   rw [hr] at h2;unfold noRec at h2;dsimp only;refine ⟨?_,by omega,by omega,ha⟩;unfold round vc6;simp -implicitDefEqProofs (disch:=first|exact zd|fail) only [go_sem,Aa,Ab,c0,hw,e1,h1,h2,Ap,Ao]
   (show some _=some _;kernel_rfl)
  |some r=>
   rw [hr] at h2;obtain ⟨ho,_⟩:=qi6 hr;generalize lineAt s (4+i)=q at *;clear hr;dsimp only;obtain ⟨E,Q,H,O⟩:=r;dsimp only at ho⊢;by_cases c1:E>e
   ·rw [if_pos c1];show ∃e,round _ _ _ _ _=_∧_;unfold round vc6;simp -implicitDefEqProofs (disch:=first|exact zd|fail) only [go_sem,Aa,Ab,c0,hw,e1,h1,h2,Ag,Ah,c1];exact ⟨_,rfl,rfl⟩
   ·rw [if_neg c1];by_cases c2:E=e
    ·rw [if_neg zo];subst c2;by_cases c3:(i:Int)=acc.length
     ·rw [if_neg zo];obtain rfl:i=acc.length:=by omega
      clear c3;by_cases c4:Q=(acc.length:Nat)
      ·rw [if_neg zo];subst c4;have h3:=qja (d:=d+4) hC H;cases hh:isHalf c H
       ·rw [hh] at h3;rw [if_pos rfl];show ∃e,round _ _ _ _ _=_∧_;unfold round vc6;simp -implicitDefEqProofs (disch:=first|exact zd|fail) only [go_sem,Aa,Ab,c0,hw,e1,h1,h2,Ag,Ah,c1,h3];exact ⟨_,rfl,rfl⟩
       ·rw [hh] at h3;rw [if_neg (by simp)];have h4:=qf9 (Φ:=T (d+5)) acc H zo;by_cases c5:0≤idxOf (hasHalf H) acc
        ·rw [if_pos c5];generalize idxOf (hasHalf H) acc=x at *;show ∃e,round _ _ _ _ _=_∧_;unfold round vc6;simp -implicitDefEqProofs (disch:=first|exact zd|fail) only [go_sem,Aa,Ab,c0,hw,e1,h1,h2,Ag,Ah,c1,h3,h4,c5];exact ⟨_,rfl,rfl⟩
        ·rw [if_neg c5];refine ⟨?_,by omega,by simp,fun r hr=> ?_⟩
         ·generalize idxOf (hasHalf H) acc=x at *;show round _ _ _ _ _=_;dsimp only;rw [Aw];unfold round vc6;simp -implicitDefEqProofs (disch:=first|exact zd|fail) only [go_sem,Aa,Ab,c0,hw,e1,h1,h2,Ag,Ah,c1,h3,h4,c5]
          (show some _=some _;kernel_rfl)
         ·rcases List.mem_append.1 hr with h|h
          ·exact ha r h
          ·simp only [List.mem_singleton] at h;subst h;exact ⟨hh,ho⟩
      ·rw [if_pos c4];show ∃e,round _ _ _ _ _=_∧_;unfold round vc6;simp -implicitDefEqProofs (disch:=first|exact zd|fail) only [go_sem,Aa,Ab,c0,hw,e1,h1,h2,Ag,Ah,c1,c4];exact ⟨_,rfl,rfl⟩
     ·rw [if_pos c3];show ∃e,round _ _ _ _ _=_∧_;unfold round vc6;simp -implicitDefEqProofs (disch:=first|exact zd|fail) only [go_sem,Aa,Ab,c0,hw,e1,h1,h2,Ag,Ah,c1,c3];exact ⟨_,rfl,rfl⟩
    ·rw [if_pos c2];refine ⟨?_,by omega,by omega,ha⟩;unfold round vc6;simp -implicitDefEqProofs (disch:=first|exact zd|fail) only [go_sem,Aa,Ab,c0,hw,e1,h1,h2,Ag,Ah,c1,c2]
     (show some _=some _;kernel_rfl)
 ·rw [if_neg c0];show round _ _ _ _ _=_;unfold round vc6;simp -implicitDefEqProofs (disch:=first|exact zd|fail) only [go_sem,Aa,Ab,c0];done
theorem vqs {c:Cf} {s:ByteArray} (h:isImg c s=true):Conf c∧(s.size:Int)=64 * c.lines:=by
 unfold isImg at h;simp only [Aj,decide_eq_true_eq] at h;exact ⟨Conf.of h.1,h.2⟩
theorem vw3 {c:Cf} {s:ByteArray} (h:¬epochOf c s<0):isImg c s=true:=by
 unfold epochOf at h;cases hi:isImg c s
 ·rw [hi] at h;exact absurd (show (-1:Int)<0 by decide) h
 ·rfl
theorem qfn {c:Cf} {s:ByteArray} {l:List Rc} (h:logOf c s=some l):isImg c s=true∧l.length≤32∧∀r∈l,RcOk c r:=by
 unfold logOf at h;split at h
 ·cases h
 ·rename_i he;have hi:=vw3 he;obtain ⟨hC,hz⟩:=vqs hi;obtain ⟨_,h2,_⟩:=qe1 (d:=0) hC hz (epochOf c s);split at h
  ·rename_i p hp;cases h;obtain ⟨⟨h3,h4,h5⟩,_⟩:=h2 p.1 p.2 hp;have:=hC.g1;exact ⟨hi,by omega,h5⟩
  ·cases h
theorem qkf {d:Nat} {c:Cf} (hc:CfSm c) (s:ByteArray):vaf (T (d+6)) vad vg5 [cCf true c,.a (.string s)]=some ([.sl false vc4 (((logOf c s).getD []).map eRc),.a (.bool (logOf c s).isSome)],[]):=by
 have h1:=vxe (d:=d) hc s;rw [vag rfl];unfold logOf;by_cases c1:epochOf c s<0
 ·rw [if_pos c1];generalize epochOf c s=e at *;simp -implicitDefEqProofs (disch:=first|exact zd|fail) only [go_sem,Aa,Ab,vg5,vn3,h1,c1];rfl
 ·rw [if_neg c1];obtain ⟨hC,hz⟩:=vqs (vw3 c1);generalize epochOf c s=e at *;obtain ⟨h2,_⟩:=qe1 (d:=d) hC hz e;cases hx:itr (logG c s e) (c.log.toNat+1) 0 [] with
  |inl p=>
   rw [hx] at h2;simp -implicitDefEqProofs (disch:=first|exact zd|fail) only [go_sem,Aa,Ab,vg5,vn3,h1,c1,vao h2];done
  |inr r=>
   rw [hx] at h2;obtain ⟨⟨sl,nd,nx⟩,h3,h4⟩:=h2;cases h4;simp -implicitDefEqProofs (disch:=first|exact zd|fail) only [go_sem,Aa,Ab,vg5,vn3,h1,c1,vhc h3];rfl
def undoR (r:Rc) (s:ByteArray):ByteArray:=withB s (32 * r.half).toNat r.old
def undone (s:ByteArray):Option ByteArray:=match confOf s with
 |some c=>(logOf c s).map fun l=>l.foldr undoR s
 |none=>none
theorem vse {s:ByteArray} {c:Cf} (h:confOf s=some c):(s.size:Int)=64 * c.lines∧CfSm c∧Conf c∧isImg c s=true:=by
 unfold confOf at h;split at h
 ·cases h
 ·split at h
  ·rename_i k hk;split at h
   ·rename_i hz;cases h;obtain ⟨_,_,_,h1,h2⟩:=vu5 hk;refine ⟨hz,h2,Conf.of h1,?_⟩;unfold isImg;rw [h1,decide_eq_true hz];rfl
   ·cases h
  ·cases h
theorem qsh {c:Cf} (hC:Conf c) {h:Int} (hh:isHalf c h=true):4≤h∧h≤2 * c.lines-1:=by
 have:=hC.l0;have:=hC.g0;unfold isHalf at hh;simp only [Bool.or_eq_true,decide_eq_true_eq] at hh;omega
theorem qbz {d:Nat} {c:Cf} (hC:Conf c) {l:List Rc} (hl:l.length≤32) (hr:∀r∈l,RcOk c r) {s:ByteArray} (hs:(s.size:Int)=64 * c.lines):
  va7 (T (d+1)) vad [0,6,8] vig ⟨[(0,.a (.string s)),(6,.rf 0),(8,.a (.int .i64 ((l.length:Int)-1)))],[(0,some (.sl false 0 vc4 (l.map eRc)))],1⟩=
   some (.ext 0,⟨[(0,.a (.string (l.foldr undoR s))),(6,.rf 0),(8,.a (.int .i64 (-1))),(28,.a (.bool false))],[(0,some (.sl false 0 vc4 (l.map eRc)))],201⟩)∧((l.foldr undoR s).size:Int)=64 * c.lines:=by
 have l0:=hC.l0;have l1:=hC.l1;have key:=vee (Φ:=T (d+1)) (N:=vad) (live:= [0,6,8]) (b:=vig) l.reverse (fun k acc=>⟨[(0,.a (.string acc)),(6,.rf 0),(8,.a (.int .i64 ((l.length:Int)-1-(k:Nat))))],[(0,some (.sl false 0 vc4 (l.map eRc)))],1⟩) (fun _ acc=>(acc.size:Int)=64 * c.lines) (fun im r=>undoR r im)
  (fun acc=>⟨[(0,.a (.string acc)),(6,.rf 0),(8,.a (.int .i64 (-1))),(28,.a (.bool false))],[(0,some (.sl false 0 vc4 (l.map eRc)))],201⟩) (id:=0) (vay (by simp;omega)) (a0:=s) hs (fun k r acc hk hp=> ?_) fun acc hp=> ?_
 ·rw [List.foldl_reverse] at key;simpa using key
 ·have hkl:k<l.length:=by have:=(Ac.1 hk).1;simpa using this
  rw [List.getElem?_reverse hkl] at hk;obtain ⟨h1,h2⟩:=hr r (Ai hk);obtain ⟨b1,b2⟩:=qsh hC h1;have e0:(l.length:Int)-1-(k:Nat)=((l.length-1-k:Nat):Int):=by omega
  have e1:(l.length:Int)-1-((k+1:Nat):Int)=((l.length-1-k:Nat):Int)-1:=by omega
  have e2:Ad.wrap (((l.length-1-k:Nat):Int)-1)=((l.length-1-k:Nat):Int)-1:=vai _ zo zo;have e3:Ad.wrap (32 * r.half)=(((32 * r.half).toNat:Nat):Int):=by rw [vai _ zo zo];omega
  have h3:=vk6 (Φ:=T d) (N:=vad) acc r.old (32 * r.half).toNat zo zo;refine ⟨?_,?_⟩
  ·rw [e0,e1];generalize hi:l.length-1-k=i at *;obtain ⟨E,Q,H,O⟩:=r;unfold undoR;dsimp only at *;generalize withB acc (32 * H).toNat O=y at *;unfold round vig;simp -implicitDefEqProofs (disch:=first|exact zd|fail) only [go_sem,Aa,Ab,hk,e2,e3,h3]
   (show some _=some _;kernel_rfl)
  ·unfold undoR;rw [vk9 zo];exact hp
 ·rw [List.length_reverse,show (l.length:Int)-1-(l.length:Nat)= -1 by omega];unfold round vig;simp -implicitDefEqProofs (disch:=first|exact zd|fail) only [go_sem,Aa,Ab]
theorem qif {d:Nat} (s:ByteArray) (hs:s.size≤1048576):vaf (T (d+7)) vad vf7 [.a (.string s)]=some ([.a (.string ((undone s).getD ⟨#[]⟩)),.a (.bool (undone s).isSome)],[]):=by
 have h1:=vro (d:=d) s zo;rw [vag rfl];unfold undone;cases hc:confOf s with
 |none=>
  rw [hc] at h1;unfold noCf at h1;simp -implicitDefEqProofs (disch:=first|exact zd|fail) only [go_sem,Aa,Ab,vf7,vl4,h1,Ap,Ao]
 |some c=>
  rw [hc] at h1;obtain ⟨hz,hsm,hC,_⟩:=vse hc;have h2:=qkf (d:=d) hsm s;dsimp only;cases hl:logOf c s with
  |none=>
   rw [hl] at h2;simp -implicitDefEqProofs (disch:=first|exact zd|fail) only [go_sem,Aa,Ab,vf7,vl4,h1,h2,Ap,Ao,Ag,Ah,Option.map_none];done
  |some l=>
   rw [hl] at h2;obtain ⟨_,hn,hr⟩:=qfn hl;obtain ⟨h3,_⟩:=qbz (d:=d+6) hC hn hr hz;have e1:Ad.wrap ((l.length:Int)-1)=(l.length:Int)-1:=vai _ zo zo;simp -implicitDefEqProofs (disch:=first|exact zd|fail) only [go_sem,Aa,Ab,vf7,vl4,h1,h2,Ap,Ao,Ag,Ah,e1,vao h3,Option.map_some];done
theorem qj1 {s t:ByteArray} (h:undone s=some t):∃c l,confOf s=some c∧logOf c s=some l∧(t.size:Int)=64 * c.lines∧isImg c t=true:=by
 unfold undone at h;split at h
 ·rename_i c hc;cases hl:logOf c s with
  |none=>rw [hl] at h;cases h
  |some l=>
   rw [hl] at h;cases h;obtain ⟨hz,hsm,hC,hi⟩:=vse hc;obtain ⟨_,hn,hr⟩:=qfn hl;obtain ⟨_,h4⟩:=qbz (d:=0) hC hn hr hz;refine ⟨c,l,hc,hl,h4,?_⟩;unfold isImg at *;rw [Aj] at hi;rw [hi.1,decide_eq_true h4];rfl
 ·cases h
theorem qve (a:Int) (b:Nat):binT .shr (.a (.int .u8 a)) (.a (.int .u64 (b:Nat)))=some (.a (.int .u8 (a.fdiv (2^min b 8)))):=by
 have h0:¬((b:Int)<0):=by omega
 show (if (b:Int)<0 then none else some (Value.int .u8 (a.fdiv (2^(min (b:Int).toNat 8))))).map TV.a=_;rw [if_neg h0,Af];rfl
theorem ql0 (a:Int) (b:Nat):binT .shl (.a (.int .u8 a)) (.a (.int .u64 (b:Nat)))=some (.a (.int .u8 (Au.wrap (a * 2^min b 8)))):=by
 have h0:¬((b:Int)<0):=by omega
 show (if (b:Int)<0 then none else some (Value.int .u8 (Au.wrap (a * 2^(min (b:Int).toNat 8))))).map TV.a=_;rw [if_neg h0,Af];rfl
theorem qo5 (n:Nat) (h:n≤1048576):Ad.wrap (A4 (n:Int) 8)=((n/8:Nat):Int):=by
 rw [show A4 (n:Int) 8=((n/8:Nat):Int) from (A1 _ 8).symm,vai]<;>omega
theorem qob (n:Nat):Int.tmod (n:Int) 8=((n%8:Nat):Int):=(Int.ofNat_tmod n 8).symm
theorem vxw (n:Nat):IntKind.u64.wrap ((n%8:Nat):Int)=((n%8:Nat):Int):=vh5 _ zo zo
def bitAt (m:ByteArray) (n:Nat):Bool:=decide (iAnd .u8 (Int.fdiv (bAt m (n/8):Nat) (2^min (n%8) 8)) 1=1)
theorem qj6 (m:ByteArray) (n:Nat) (h:n/8<m.size) (hn:n≤1048576):vaf Φ N vjw [.a (.string m),.a (.int .i64 (n:Nat))]=some ([.a (.bool (bitAt m n))],[]):=by
 have e1:=qo5 n hn;have e2:=qob n;have e3:=vxw n;have e4:=vi9 (s:=m) h;have e5:=qve (bAt m (n/8):Nat) (n%8);rw [vag rfl];unfold bitAt;simp -implicitDefEqProofs (disch:=first|exact zd|fail) only [go_sem,Aa,Ab,vjw,vvt,e1,e2,e3,e4,e5];done
def isMap (m:ByteArray):Bool:=decide (m.size=64)&&decide (m.extract 16 64=zerosB 48)
theorem qmk {d:Nat} (m:ByteArray) (hm:m.size≤9223372036854775807):vaf (T (d+1)) vad vih [.a (.string m)]=some ([.a (.bool (isMap m))],[]):=by
 rw [vag rfl];unfold isMap;by_cases c:m.size=64
 ·have h1:=vki (Φ:=T d) (N:=vad) 48 zo;have n16:Int.toNat 16=16:=rfl;rw [show ((48:Nat):Int)=48 from rfl] at h1;rw [decide_eq_true c];generalize g0:m.extract 16 64=x at *;generalize zerosB 48=y at *;simp -implicitDefEqProofs (disch:=first|exact zd|fail) only [go_sem,Aa,Ab,vih,vrg,c,h1,n16,g0];done
 ·have c':¬(m.size:Int)=64:=by omega
  rw [decide_eq_false c];simp -implicitDefEqProofs (disch:=first|exact zd|fail) only [go_sem,Aa,Ab,vih,vrg,c'];done
theorem qhy {m:ByteArray} (h:isMap m=true):m.size=64:=by
 unfold isMap at h;simp only [Aj,decide_eq_true_eq] at h;exact h.1
def inRange (m:ByteArray) (f t:Int):Bool:=isMap m&&decide (0≤f)&&decide (f≤t)&&decide (t≤128)
theorem qga {d:Nat} (m:ByteArray) (hm:m.size≤9223372036854775807) (f t:Int):vaf (T (d+2)) vad vdq [.a (.string m),.a (.int .i64 f),.a (.int .i64 t)]=some ([.a (.bool (inRange m f t))],[]):=by
 have h1:=qmk (d:=d) m hm;rw [vag rfl];unfold inRange;generalize isMap m=k at *;cases k
 ·simp -implicitDefEqProofs (disch:=first|exact zd|fail) only [go_sem,Aa,Ab,vdq,vib,h1]
 ·by_cases c1:0≤f
  ·by_cases c2:f≤t
   ·by_cases c3:t≤128
    ·simp -implicitDefEqProofs (disch:=first|exact zd|fail) only [go_sem,Aa,Ab,vdq,vib,h1,c1,c2,c3]
    ·simp -implicitDefEqProofs (disch:=first|exact zd|fail) only [go_sem,Aa,Ab,vdq,vib,h1,c1,c2,c3]
   ·simp -implicitDefEqProofs (disch:=first|exact zd|fail) only [go_sem,Aa,Ab,vdq,vib,h1,c1,c2]
  ·simp -implicitDefEqProofs (disch:=first|exact zd|fail) only [go_sem,Aa,Ab,vdq,vib,h1,c1]
def freeAt (m:ByteArray) (a n:Nat):Bool:=(Aq n).all fun i=> !bitAt m (a+i)
theorem qkl {d:Nat} (m:ByteArray) (a n:Nat) (h:a+n≤128) (hm:m.size=64):
  va7 (T (d+1)) vad [0,1,2,7] vkb ⟨[(0,.a (.string m)),(1,.a (.int .i64 (a:Nat))),(2,.a (.int .i64 (n:Nat))),(7,.a (.int .i64 (a+0:Nat)))],[],0⟩=
   some (if freeAt m a n=true then (.ext 0,⟨[(0,.a (.string m)),(1,.a (.int .i64 (a:Nat))),(2,.a (.int .i64 (n:Nat))),(7,.a (.int .i64 (a+n:Nat))),(13,.a (.bool false))],[],500⟩) else (.ret,⟨[(6,.a (.bool false))],[],900⟩)):=by
 have e0:Ad.wrap ((a:Int)+n)=((a+n:Nat):Int):=by rw [vai _ zo zo];omega
 refine vfh (fun i=>⟨[(0,.a (.string m)),(1,.a (.int .i64 (a:Nat))),(2,.a (.int .i64 (n:Nat))),(7,.a (.int .i64 (a+i:Nat)))],[],0⟩) _ (fun i=>∀j,j<i→bitAt m (a+j)=false) (m:=n) (vay zo) (fun j h=>by omega) (by split<;>simp) (fun i hi hp=> ?_);by_cases hi':i<n
 ·have hw:=vat (a+i) zo;have h1:=qj6 (Φ:=T d) (N:=vad) m (a+i) zo zo;have l1:((a+i:Nat):Int)<((a+n:Nat):Int):=by omega
  rw [show ((a+i:Nat):Int)+1=((a+i+1:Nat):Int) by omega] at hw;unfold round vkb;cases c:bitAt m (a+i)
  ·rw [c] at h1;refine .inl ⟨hi',?_,fun j hj=> ?_⟩
   ·rw [show a+(i+1)=a+i+1 by omega];generalize a+i=x at *;have hw':=vat x zo;simp -implicitDefEqProofs (disch:=first|exact zd|fail) only [go_sem,Aa,Ab,e0,hw',h1,l1]
    (show some _=some _;kernel_rfl)
   ·by_cases hji:j=i
    ·subst hji;exact c
    ·exact hp j zo
  ·right;rw [c] at h1;rw [if_neg (by unfold freeAt;rw [Ak];intro hall;have:=hall i (Am.2 hi');rw [c] at this;cases this)];generalize a+i=x at *;simp -implicitDefEqProofs (disch:=first|exact zd|fail) only [go_sem,Aa,Ab,e0,h1,l1]
 ·obtain rfl:i=n:=by omega
  right;rw [if_pos (by unfold freeAt;rw [Ak];intro j hj;rw [hp j (Am.1 hj)];rfl)];unfold round vkb;simp -implicitDefEqProofs (disch:=first|exact zd|fail) only [go_sem,Aa,Ab,e0]
theorem qih {d:Nat} (m:ByteArray) (a n:Nat) (h:a+n≤128) (hm:m.size=64):vaf (T (d+1)) vad vhj [.a (.string m),.a (.int .i64 (a:Nat)),.a (.int .i64 (n:Nat))]=some ([.a (.bool (freeAt m a n))],[]):=by
 have key:=qkl (d:=d) m a n h hm;rw [vag rfl];cases hf:freeAt m a n
 ·rw [hf,if_neg (by simp)] at key;simp -implicitDefEqProofs (disch:=first|exact zd|fail) only [go_sem,Aa,Ab,vhj,vqm,vhc key]
 ·rw [hf,if_pos rfl] at key;simp -implicitDefEqProofs (disch:=first|exact zd|fail) only [go_sem,Aa,Ab,vhj,vqm,vao key]
def runAt (m:ByteArray) (f t n:Nat):Option Nat:=(Aq (t+1-(f+n))).find? fun k=>freeAt m (f+k) n
theorem qjs {d:Nat} (m:ByteArray) (f t n:Nat) (h:t≤128) (hn:n≤128) (hf:f≤128) (hm:m.size=64):
  va7 (T (d+2)) vad [0,2,3,9] vjq ⟨[(0,.a (.string m)),(2,.a (.int .i64 (t:Nat))),(3,.a (.int .i64 (n:Nat))),(9,.a (.int .i64 (f+0:Nat)))],[],0⟩=
   some (match runAt m f t n with|some k=>(.ret,⟨[(8,.a (.int .i64 (f+k:Nat)))],[],1100⟩)|none=>(.ext 0,⟨[(0,.a (.string m)),(2,.a (.int .i64 (t:Nat))),(3,.a (.int .i64 (n:Nat))),(9,.a (.int .i64 (f+(t+1-(f+n)):Nat))),(25,.a (.bool false))],[],500⟩)):=by
 refine vfh (fun i=>⟨[(0,.a (.string m)),(2,.a (.int .i64 (t:Nat))),(3,.a (.int .i64 (n:Nat))),(9,.a (.int .i64 (f+i:Nat)))],[],0⟩) _ (fun i=>∀j,j<i→freeAt m (f+j) n=false) (m:=t+1-(f+n)) (vay zo) (fun j h=>by omega) (by split<;>simp) (fun i hi hp=> ?_);have e0:Ad.wrap (((f+i:Nat):Int)+n)=((f+i+n:Nat):Int):=by rw [vai _ zo zo];omega
 by_cases hi':i<t+1-(f+n)
 ·have h1:=qih (d:=d) m (f+i) n zo hm;have l1:((f+i+n:Nat):Int)≤(t:Nat):=by omega
  unfold round vjq;cases c:freeAt m (f+i) n
  ·rw [c] at h1;refine .inl ⟨hi',?_,fun j hj=> ?_⟩
   ·rw [show f+(i+1)=f+i+1 by omega];have hw':=vat (f+i) zo;generalize f+i=x at *;simp -implicitDefEqProofs (disch:=first|exact zd|fail) only [go_sem,Aa,Ab,e0,hw',h1,l1]
    (show some _=some _;kernel_rfl)
   ·by_cases hji:j=i
    ·subst hji;exact c
    ·exact hp j zo
  ·right;rw [c] at h1;rw [show runAt m f t n=some i from Av.2 ⟨c,Am.2 hi',fun j hj=>by rw [hp j hj];rfl⟩];dsimp only;generalize f+i=x at *;simp -implicitDefEqProofs (disch:=first|exact zd|fail) only [go_sem,Aa,Ab,e0,h1,l1]
 ·obtain rfl:i=t+1-(f+n):=by omega
  right;rw [show runAt m f t n=none from List.find?_range_eq_none.2 fun j hj=>by rw [hp j hj];rfl];have l1:¬((f+(t+1-(f+n))+n:Nat):Int)≤(t:Nat):=by omega
  dsimp only;generalize f+(t+1-(f+n))=x at *;unfold round vjq;simp -implicitDefEqProofs (disch:=first|exact zd|fail) only [go_sem,Aa,Ab,e0,l1]
def findRun (m:ByteArray) (f t n:Int):Int:=if inRange m f t=true then (if 1≤n∧n≤128 then (match runAt m f.toNat t.toNat n.toNat with|some k=>(f.toNat+k:Nat)|none=> -1) else-1) else-1
theorem qge {d:Nat} (m:ByteArray) (hm:m.size≤9223372036854775807) (f t n:Int):vaf (T (d+3)) vad vef [.a (.string m),.a (.int .i64 f),.a (.int .i64 t),.a (.int .i64 n)]=some ([.a (.int .i64 (findRun m f t n))],[]):=by
 have h1:=qga (d:=d) m hm f t;rw [vag rfl];unfold findRun;cases hr:inRange m f t
 ·rw [hr] at h1;rw [if_neg (by simp)];simp -implicitDefEqProofs (disch:=first|exact zd|fail) only [go_sem,Aa,Ab,vef,vjz,h1]
 ·rw [hr] at h1;rw [if_pos rfl];have h2:=vd0 (Φ:=T (d+2)) (N:=vad) (n:=n) (lo:=1) (hi:=128);by_cases c:1≤n∧n≤128
  ·rw [if_pos c];rw [decide_eq_true c] at h2;unfold inRange at hr;simp only [Aj,decide_eq_true_eq] at hr;obtain ⟨⟨⟨r1,r2⟩,r3⟩,r4⟩:=hr;have key:=qjs (d:=d+1) m f.toNat t.toNat n.toNat zo zo zo (qhy r1);rw [show ((f.toNat+0:Nat):Int)=f by omega,Ax (by omega:0≤t),Ax (by omega:0≤n)] at key;cases hx:runAt m f.toNat t.toNat n.toNat with
   |some k=>
    rw [hx] at key;dsimp only at key⊢;simp -implicitDefEqProofs (disch:=first|exact zd|fail) only [go_sem,Aa,Ab,vef,vjz,h1,h2,vhc key]
   |none=>
    rw [hx] at key;dsimp only at key⊢;simp -implicitDefEqProofs (disch:=first|exact zd|fail) only [go_sem,Aa,Ab,vef,vjz,h1,h2,vao key]
  ·rw [if_neg c];rw [decide_eq_false c] at h2;simp -implicitDefEqProofs (disch:=first|exact zd|fail) only [go_sem,Aa,Ab,vef,vjz,h1,h2]
theorem qin {m:ByteArray} {f t n:Int} (h:0≤findRun m f t n):f≤findRun m f t n∧findRun m f t n+n≤t∧isMap m=true∧0≤f∧t≤128:=by
 unfold findRun at *;cases hr:inRange m f t
 ·rw [hr,if_neg (by simp)] at h;omega
 ·rw [hr,if_pos rfl] at h;rw [if_pos rfl];by_cases c:1≤n∧n≤128
  ·rw [if_pos c] at h⊢;unfold inRange at hr;simp only [Aj,decide_eq_true_eq] at hr;cases hx:runAt m f.toNat t.toNat n.toNat with
   |some k=>
    obtain ⟨_,h2,_⟩:=Av.1 hx;have:=Am.1 h2;refine ⟨?_,?_,hr.1.1.1,hr.1.1.2,hr.2⟩<;>dsimp only<;>omega
   |none=>rw [hx] at h;dsimp only at h;omega
  ·rw [if_neg c] at h;omega
def bitB (n:Nat):Int:=Au.wrap (1 * 2^min (n%8) 8)
def xorN (bs:List Nat) (n:Nat):List Nat:=bs.set (n/8) (iXor .u8 (bs[n/8]?.getD 0:Nat) (bitB n)).toNat
def orN (bs:List Nat) (n:Nat):List Nat:=bs.set (n/8) (iOr .u8 (bs[n/8]?.getD 0:Nat) (bitB n)).toNat
def bytesN (m:ByteArray):List Nat:=(ch m).map UInt8.toNat
theorem qil (m:ByteArray):bytesPV m=(bytesN m).map eU8:=by unfold bytesPV bytesN ch;rw [List.map_map];rfl
theorem qqb (x y:Int):iXor .u8 x y=((iXor .u8 x y).toNat:Nat):=by
 have:0≤iXor .u8 x y:=by exact Ay _ (by decide)
 omega
theorem qsd (x y:Int):iOr .u8 x y=((iOr .u8 x y).toNat:Nat):=by
 have:0≤iOr .u8 x y:=by exact Ay _ (by decide)
 omega
theorem vzg (m:ByteArray):(bytesN m).length=m.size:=by unfold bytesN;rw [List.length_map,ved]
theorem qbx (l:List Nat):(strN l).size=l.length:=by show (List.map UInt8.ofNat l).toArray.size=_;simp
theorem qo8 (bs:List Nat) (n:Nat):(xorN bs n).length=bs.length:=by unfold xorN;simp
theorem qr0 (bs:List Nat) (n:Nat):(orN bs n).length=bs.length:=by unfold orN;simp
theorem qcu (bs:List Nat) (hb:bs.length=64) (a n:Nat) (h:a+n≤512):
  va7 Φ vad [1,2,7,8] vio ⟨[(1,.a (.int .i64 (a:Nat))),(2,.a (.int .i64 (n:Nat))),(7,.rf 0),(8,.a (.int .i64 (a+0:Nat)))],[(0,some (.sl false 0 vcd (bs.map eU8)))],1⟩=
   some (.ext 0,⟨[(1,.a (.int .i64 (a:Nat))),(2,.a (.int .i64 (n:Nat))),(7,.rf 0),(8,.a (.int .i64 (a+n:Nat))),(16,.a (.bool false))],[(0,some (.sl false 0 vcd (((At a n).foldl xorN bs).map eU8)))],501⟩)∧((At a n).foldl xorN bs).length=64:=by
 have e0:Ad.wrap ((a:Int)+n)=((a+n:Nat):Int):=by rw [vai _ zo zo];omega
 have key:=vee (Φ:=Φ) (N:=vad) (live:= [1,2,7,8]) (b:=vio) (At a n) (fun k acc=>⟨[(1,.a (.int .i64 (a:Nat))),(2,.a (.int .i64 (n:Nat))),(7,.rf 0),(8,.a (.int .i64 (a+k:Nat)))],[(0,some (.sl false 0 vcd (acc.map eU8)))],1⟩) (fun _ acc=>acc.length=64) xorN
  (fun acc=>⟨[(1,.a (.int .i64 (a:Nat))),(2,.a (.int .i64 (n:Nat))),(7,.rf 0),(8,.a (.int .i64 (a+n:Nat))),(16,.a (.bool false))],[(0,some (.sl false 0 vcd (acc.map eU8)))],501⟩) (id:=0) (vay (by simp;omega)) (a0:=bs) hb (fun k x acc hk hp=> ?_) fun acc hp=> ?_
 ·exact key
 ·have hkn:k<n:=by have:=(Ac.1 hk).1;simpa using this
  rw [List.getElem?_range' hkn] at hk;cases hk;rw [show a+1 * k=a+k by omega,show a+(k+1)=a+k+1 by omega];have l1:((a+k:Nat):Int)<((a+n:Nat):Int):=by omega
  have hx:a+k≤512:=by omega
  have hx2:(a+k)/8<64:=by omega
  generalize a+k=x at *;have hw:=vat x zo;have e1:=qo5 x zo;have e2:=qob x;have e3:=vxw x;have e5:=ql0 1 (x%8);have e6:acc[x/8]? =some (acc[x/8]'zo):=Ae _;have e7:=qqb ((acc[x/8]'zo:Nat):Int) (bitB x);refine ⟨?_,by rw [qo8];exact hp⟩;unfold xorN;rw [e6,Ag];generalize (acc[x/8]'zo)=y at *;have e8:Au.wrap (1 * 2^min (x%8) 8)=bitB x:=rfl;unfold round vio;simp -implicitDefEqProofs (disch:=first|exact zd|fail) only [go_sem,Aa,Ab,e0,hw,e1,e2,e3,e5,e6,e8,l1];rw [e7,qdu]
  (show some _=some _;kernel_rfl)
 ·rw [List.length_range'];unfold round vio;simp -implicitDefEqProofs (disch:=first|exact zd|fail) only [go_sem,Aa,Ab,e0]
def turnS (m:ByteArray) (a n:Nat):ByteArray:=strN ((At a n).foldl xorN (bytesN m))
theorem qac {m:ByteArray} {a n:Nat} (hm:m.size=64) (h:a+n≤512):(turnS m a n).size=64:=by
 unfold turnS;rw [qbx];exact (qcu (Φ:=fun _=>none) (bytesN m) (by rw [vzg,hm]) a n h).2
theorem vzq (m:ByteArray) (hm:m.size=64) (a n:Nat) (h:a+n≤512):vaf Φ vad vi0 [.a (.string m),.a (.int .i64 (a:Nat)),.a (.int .i64 (n:Nat))]=some ([.a (.string (turnS m a n))],[]):=by
 obtain ⟨key,_⟩:=qcu (Φ:=Φ) (bytesN m) (by rw [vzg,hm]) a n h;have hu:=vps ((At a n).foldl xorN (bytesN m));have hb:=qil m;rw [vag rfl];simp -implicitDefEqProofs (disch:=first|exact zd|fail) only [go_sem,Aa,Ab,vi0,vul,hb,vao key,hu];rfl
theorem qio (l:List Int) (hl:l.length≤1048576) (hr:∀x∈l,0≤x∧x≤511):
  va7 Φ vad [0,3,4] vhu ⟨[(0,.sz vam (l.map vap)),(3,.rf 0),(4,.a (.int .i64 (0:Nat)))],[(0,some (.sl false 0 vcd ((An 64 0).map eU8)))],1⟩=
   some (.ext 0,⟨[(0,.sz vam (l.map vap)),(3,.rf 0),(4,.a (.int .i64 (l.length:Nat))),(9,.a (.bool false))],[(0,some (.sl false 0 vcd ((l.foldl (fun bs x=>orN bs x.toNat) (An 64 0)).map eU8)))],401⟩)∧(l.foldl (fun bs x=>orN bs x.toNat) (An 64 0)).length=64:=by
 have key:=vee (Φ:=Φ) (N:=vad) (live:= [0,3,4]) (b:=vhu) l (fun k acc=>⟨[(0,.sz vam (l.map vap)),(3,.rf 0),(4,.a (.int .i64 (k:Nat)))],[(0,some (.sl false 0 vcd (acc.map eU8)))],1⟩) (fun _ acc=>acc.length=64) (fun bs x=>orN bs x.toNat)
  (fun acc=>⟨[(0,.sz vam (l.map vap)),(3,.rf 0),(4,.a (.int .i64 (l.length:Nat))),(9,.a (.bool false))],[(0,some (.sl false 0 vcd (acc.map eU8)))],401⟩) (id:=0) (vay zo) (a0:=An 64 0) (by simp) (fun k z acc hk hp=> ?_) fun acc hp=> ?_
 ·exact key
 ·have hkn:k<l.length:=(Ac.1 hk).1;obtain ⟨z0,z1⟩:=hr z (Ai hk);obtain ⟨x,rfl⟩:∃x:Nat,z=x:=⟨z.toNat,by omega⟩
  rw [Af];have hw:=vat k zo;have e1:=qo5 x zo;have e2:=qob x;have e3:=vxw x;have e5:=ql0 1 (x%8);have e6:acc[x/8]? =some (acc[x/8]'zo):=Ae _;have e7:=qsd ((acc[x/8]'zo:Nat):Int) (bitB x);have hx2:x/8<64:=by omega
  refine ⟨?_,by rw [qr0];exact hp⟩;unfold orN;rw [e6,Ag];generalize (acc[x/8]'zo)=y at *;have e8:Au.wrap (1 * 2^min (x%8) 8)=bitB x:=rfl;unfold round vhu;simp -implicitDefEqProofs (disch:=first|exact zd|fail) only [go_sem,Aa,Ab,hk,hw,e1,e2,e3,e5,e6,e8];rw [e7,qdu]
  (show some _=some _;kernel_rfl)
 ·unfold round vhu;simp -implicitDefEqProofs (disch:=first|exact zd|fail) only [go_sem,Aa,Ab]
def mapOf (l:List Int):ByteArray:=strN (l.foldl (fun bs x=>orN bs x.toNat) (An 64 0))
theorem qgg (l:List Int) (hl:l.length≤1048576) (hr:∀x∈l,0≤x∧x≤511):vaf Φ vad vh8 [.sl true vam (l.map vap)]=some ([.a (.string (mapOf l))],[])∧(mapOf l).size=64:=by
 obtain ⟨key,h2⟩:=qio (Φ:=Φ) l hl hr;have h0:(An 64 (PV.a (.int .u8 0)))=(An 64 0).map eU8:=by rw [List.map_replicate];rfl
 refine ⟨?_,by unfold mapOf;rw [qbx];exact h2⟩;rw [vag rfl];simp -implicitDefEqProofs (disch:=first|exact zd|fail) only [go_sem,Aa,Ab,vh8,vs8,h0,vao key,vps];rfl
def refKind (x:Int):Int:=if x=0 then 0 else if (2≤x∧x≤254)∧x.tmod 2=0 then 1 else if (1≤x∧x≤799)∧x.tmod 2=1 then 2 else-1
theorem vw8 {d:Nat} (x:Int):vaf (T (d+1)) vad vc3 [.a (.int .i64 x)]=some ([.a (.int .i64 (refKind x))],[]):=by
 have h1:=vd0 (Φ:=T d) (N:=vad) (n:=x) (lo:=2) (hi:=254);have h2:=vd0 (Φ:=T d) (N:=vad) (n:=x) (lo:=1) (hi:=799);rw [vag rfl];unfold refKind;by_cases c0:x=0
 ·rw [if_pos c0];simp -implicitDefEqProofs (disch:=first|exact zd|fail) only [go_sem,Aa,Ab,vc3,ve8,c0]
 ·rw [if_neg c0];by_cases c1:2≤x∧x≤254
  ·rw [decide_eq_true c1] at h1;by_cases c2:x.tmod 2=0
   ·rw [if_pos ⟨c1,c2⟩];simp -implicitDefEqProofs (disch:=first|exact zd|fail) only [go_sem,Aa,Ab,vc3,ve8,c0,h1,c2]
   ·rw [if_neg (fun h=>c2 h.2)];by_cases c3:1≤x∧x≤799
    ·rw [decide_eq_true c3] at h2;by_cases c4:x.tmod 2=1
     ·rw [if_pos ⟨c3,c4⟩];simp -implicitDefEqProofs (disch:=first|exact zd|fail) only [go_sem,Aa,Ab,vc3,ve8,c0,h1,c2,h2,c4]
     ·rw [if_neg (fun h=>c4 h.2)];simp -implicitDefEqProofs (disch:=first|exact zd|fail) only [go_sem,Aa,Ab,vc3,ve8,c0,h1,c2,h2,c4]
    ·omega
  ·rw [if_neg (fun h=>c1 h.1)];rw [decide_eq_false c1] at h1;by_cases c3:1≤x∧x≤799
   ·rw [decide_eq_true c3] at h2;by_cases c4:x.tmod 2=1
    ·rw [if_pos ⟨c3,c4⟩];simp -implicitDefEqProofs (disch:=first|exact zd|fail) only [go_sem,Aa,Ab,vc3,ve8,c0,h1,h2,c4]
    ·rw [if_neg (fun h=>c4 h.2)];simp -implicitDefEqProofs (disch:=first|exact zd|fail) only [go_sem,Aa,Ab,vc3,ve8,c0,h1,h2,c4]
   ·rw [if_neg (fun h=>c3 h.1)];rw [decide_eq_false c3] at h2;simp -implicitDefEqProofs (disch:=first|exact zd|fail) only [go_sem,Aa,Ab,vc3,ve8,c0,h1,h2]
def vav (ts:List ByteArray) (t:Int):ByteArray:=ts[t.toNat]?.getD ⟨#[]⟩
def badR (k:ByteArray) (vs:List Int) (i:Nat):Bool:=decide (bAt k i=114)&&decide (refKind (vs[i]?.getD 0)<0)
def rvOk (k:ByteArray) (vs:List Int):Bool:=(Aq vs.length).all fun i=> !badR k vs i
def objOkR (ts:List ByteArray) (o:Obj'):Bool:=vg0 ts&&(decide (0≤o.ty∧o.ty≤(ts.length:Int)-1)&&(decide (o.vals.length=(vav ts o.ty).size)&&rvOk (vav ts o.ty) o.vals))
abbrev uObj (o:Obj'):List TV:= [.a (.int .i64 o.ty),.sz vam (o.vals.map vap)]
structure TySm (ts:List ByteArray):Prop where
 n:ts.length≤1048576
 t:∀s∈ts,s.size≤1048576
theorem qn8 {d:Nat} {ts:List ByteArray} {o:Obj'} {k:ByteArray} (hk:ts[o.ty.toNat]? =some k) (h0:0≤o.ty) (hv:o.vals.length=k.size) (hs:k.size≤1048576):
  va7 (T (d+2)) vad [0,3,5] vkq ⟨[(0,.sz va9 (ts.map eStr)),(3,.rf 0),(5,.a (.int .i64 (0:Nat)))],[(0,some (.bx false (uObj o)))],1⟩=
   some (if rvOk k o.vals=true then (.ext 0,⟨[(0,.sz va9 (ts.map eStr)),(3,.rf 0),(5,.a (.int .i64 (o.vals.length:Nat))),(34,.a (.bool false))],[(0,some (.bx false (uObj o)))],501⟩) else (.ret,⟨[(4,.a (.bool false))],[(0,some (.bx false (uObj o)))],2301⟩)):=by
 refine vfh (fun i=>⟨[(0,.sz va9 (ts.map eStr)),(3,.rf 0),(5,.a (.int .i64 (i:Nat)))],[(0,some (.bx false (uObj o)))],1⟩) _ (fun i=>∀j,j<i→badR k o.vals j=false) (m:=o.vals.length) (vay zo) (fun j h=>by omega) (by split<;>simp) (fun i hi hp=> ?_);obtain ⟨t,vs⟩:=o;dsimp only at *;obtain ⟨t,rfl⟩:∃n:Nat,t=n:=⟨t.toNat,by omega⟩
 rw [Af] at hk;have htl:=(Ac.1 hk).1;by_cases hi':i<vs.length
 ·obtain ⟨v,hb⟩:∃b,vs[i]? =some b:=⟨_,Ae hi'⟩
  have hw:=vat i zo;have hx:=vi9 (s:=k) (j:=i) zo;have h1:=vw8 (d:=d) v;have hbad:badR k vs i=(decide (bAt k i=114)&&decide (refKind v<0)):=by unfold badR;rw [hb];rfl
  unfold round vkq;by_cases c1:bAt k i=114
  ·have c1':(bAt k i:Int)=114:=by omega
   by_cases c2:refKind v<0
   ·right;rw [if_neg (by unfold rvOk;rw [Ak];intro hall;have:=hall i (Am.2 hi');rw [hbad,decide_eq_true c1,decide_eq_true c2] at this;cases this)];generalize refKind v=r at *;simp -implicitDefEqProofs (disch:=first|exact zd|fail) only [go_sem,Aa,Ab,hk,hb,hx,c1',h1,c2]
   ·refine .inl ⟨hi',?_,fun j hj=> ?_⟩
    ·generalize refKind v=r at *;simp -implicitDefEqProofs (disch:=first|exact zd|fail) only [go_sem,Aa,Ab,hk,hb,hx,c1',h1,c2,hw]
     (show some _=some _;kernel_rfl)
    ·by_cases hji:j=i
     ·subst hji;rw [hbad,decide_eq_false c2,A2]
     ·exact hp j zo
  ·have c1':¬(bAt k i:Int)=114:=by omega
   refine .inl ⟨hi',?_,fun j hj=> ?_⟩
   ·simp -implicitDefEqProofs (disch:=first|exact zd|fail) only [go_sem,Aa,Ab,hk,hb,hx,c1',hw]
    (show some _=some _;kernel_rfl)
   ·by_cases hji:j=i
    ·subst hji;rw [hbad,decide_eq_false c1,A3]
    ·exact hp j zo
 ·obtain rfl:i=vs.length:=by omega
  right;rw [if_pos (by unfold rvOk;rw [Ak];intro j hj;rw [hp j (Am.1 hj)];rfl)];unfold round vkq;simp -implicitDefEqProofs (disch:=first|exact zd|fail) only [go_sem,Aa,Ab]
theorem qbr {d:Nat} {ts:List ByteArray} (h:TySm ts) (o:Obj'):vaf (T (d+3)) vad vex [.sl true va9 (ts.map eStr),cObj true o]=some ([.a (.bool (objOkR ts o))],[]):=by
 have h1:=vm3 (d:=d) ts h.n h.t;have hn:=h.n;have e1:Ad.wrap ((ts.length:Int)-1)=(ts.length:Int)-1:=vai _ zo zo;have h2:=vd0 (Φ:=T (d+2)) (N:=vad) (n:=o.ty) (lo:=0) (hi:=(ts.length:Int)-1);rw [vag rfl];unfold objOkR;cases hk:vg0 ts
 ·rw [hk] at h1;simp -implicitDefEqProofs (disch:=first|exact zd|fail) only [go_sem,Aa,Ab,vex,vju,h1]
 ·rw [hk] at h1;by_cases c1:0≤o.ty∧o.ty≤(ts.length:Int)-1
  ·rw [decide_eq_true c1] at h2⊢;obtain ⟨k,hx⟩:∃k,ts[o.ty.toNat]? =some k:=⟨_,Ae zo⟩
   have hka:vav ts o.ty=k:=by unfold vav;rw [hx];rfl
   rw [hka];by_cases c2:o.vals.length=k.size
   ·rw [decide_eq_true c2];have c2':(o.vals.length:Int)=k.size:=by omega
    have key:=qn8 (d:=d+1) hx c1.1 c2 (h.t k (Ai hx));obtain ⟨t,vs⟩:=o;dsimp only at *;obtain ⟨t,rfl⟩:∃n:Nat,t=n:=⟨t.toNat,by omega⟩
    rw [Af] at hx;have htl:=(Ac.1 hx).1;cases hv:rvOk k vs
    ·rw [hv,if_neg (by simp)] at key;simp -implicitDefEqProofs (disch:=first|exact zd|fail) only [go_sem,Aa,Ab,vex,vju,h1,e1,h2,hx,c2',vhc key]
    ·rw [hv,if_pos rfl] at key;simp -implicitDefEqProofs (disch:=first|exact zd|fail) only [go_sem,Aa,Ab,vex,vju,h1,e1,h2,hx,c2',vao key]
   ·rw [decide_eq_false c2];have c2':¬(o.vals.length:Int)=k.size:=by omega
    obtain ⟨t,vs⟩:=o;dsimp only at *;obtain ⟨t,rfl⟩:∃n:Nat,t=n:=⟨t.toNat,by omega⟩
    rw [Af] at hx;have htl:=(Ac.1 hx).1;simp -implicitDefEqProofs (disch:=first|exact zd|fail) only [go_sem,Aa,Ab,vex,vju,h1,e1,h2,hx,c2']
  ·rw [decide_eq_false c1] at h2⊢;simp -implicitDefEqProofs (disch:=first|exact zd|fail) only [go_sem,Aa,Ab,vex,vju,h1,e1,h2]
structure ObjR (ts:List ByteArray) (o:Obj') (k:ByteArray):Prop where
 t0:0≤o.ty
 t1:o.ty<ts.length
 kk:ts[o.ty.toNat]? =some k
 n:o.vals.length=k.size
 n0:1≤k.size
 n1:k.size≤23
 ok:okType k=true
 v:rvOk k o.vals=true
theorem vj0 {ts:List ByteArray} {o:Obj'} (h:objOkR ts o=true):ObjR ts o (vav ts o.ty):=by
 unfold objOkR at h;simp only [Aj,decide_eq_true_eq] at h;obtain ⟨h1,h2,h3,h4⟩:=h;obtain ⟨k,hx⟩:∃k,ts[o.ty.toNat]? =some k:=⟨_,Ae zo⟩
 have hka:vav ts o.ty=k:=by unfold vav;rw [hx];rfl
 rw [hka] at h3 h4⊢;unfold vg0 at h1;simp only [Aj,Ak] at h1;have h5:=h1.2 k (Ai hx);have h6:=h5;unfold okType at h6;simp only [Aj,decide_eq_true_eq] at h6;exact ⟨h2.1,by omega,hx,h3,h6.1.1,h6.1.2,h5,h4⟩
def objBody (o:Obj'):ByteArray:=o.vals.foldl (fun s v=>s++vbs v) (vbs (o.ty+1))
def vd5 (ts:List ByteArray) (o:Obj'):ByteArray:=if objOkR ts o=true then objBody o++zerosB ((64 * runOf (vav ts o.ty)).toNat-(objBody o).size) else ⟨#[]⟩
theorem qgo (vs:List Int) (s:ByteArray):(vs.foldl (fun s v=>s++vbs v) s).size=s.size+8 * vs.length:=by
 induction vs generalizing s with
 |nil=>rfl
 |cons v vs ih=>rw [List.foldl_cons,ih,As,vcj,List.length_cons];omega
theorem vuy (o:Obj'):(objBody o).size=8+8 * o.vals.length:=by unfold objBody;rw [qgo,vcj]
theorem vhh {k:ByteArray} (h:okType k=true):runOf k=(((k.size+8)/8:Nat):Int):=by unfold runOf;rw [if_pos h]
theorem vuk {ts:List ByteArray} {o:Obj'} (h:objOkR ts o=true):((vd5 ts o).size:Int)=64 * runOf (vav ts o.ty):=by
 have hr:=vj0 h;have h1:=hr.n;unfold vd5;rw [if_pos h,As,vh7,vuy,vhh hr.ok];omega
theorem qbc {d:Nat} {ts:List ByteArray} {o:Obj'} (hv:o.vals.length≤23):
  va7 (T (d+1)) vad [0,3,5,6] vfd ⟨[(0,.sz va9 (ts.map eStr)),(3,.rf 0),(5,.a (.string (vbs (o.ty+1)))),(6,.a (.int .i64 (0:Nat)))],[(0,some (.bx false (uObj o)))],1⟩=
   some (.ext 0,⟨[(0,.sz va9 (ts.map eStr)),(3,.rf 0),(5,.a (.string (objBody o))),(6,.a (.int .i64 (o.vals.length:Nat))),(19,.a (.bool false))],[(0,some (.bx false (uObj o)))],501⟩):=by
 refine (vee (Φ:=T (d+1)) (N:=vad) (live:= [0,3,5,6]) (b:=vfd) o.vals (fun i acc=>⟨[(0,.sz va9 (ts.map eStr)),(3,.rf 0),(5,.a (.string acc)),(6,.a (.int .i64 (i:Nat)))],[(0,some (.bx false (uObj o)))],1⟩) (fun i acc=>acc.size=8+8 * i) (fun s v=>s++vbs v)
  (fun acc=>⟨[(0,.sz va9 (ts.map eStr)),(3,.rf 0),(5,.a (.string acc)),(6,.a (.int .i64 (o.vals.length:Nat))),(19,.a (.bool false))],[(0,some (.bx false (uObj o)))],501⟩) (id:=0) (vay zo) (a0:=vbs (o.ty+1)) (vcj _) (fun i v acc hv hp=> ?_) fun acc hp=> ?_).1
 ·obtain ⟨t,vs⟩:=o;dsimp only at *;have hi:=(Ac.1 hv).1;have hw:=vat i zo;have h1:=vf6 (Φ:=T d) v;have hz:=vcj v;generalize vbs v=x at *;refine ⟨?_,by rw [As];omega⟩;unfold round vfd;simp -implicitDefEqProofs (disch:=first|exact zd|fail) only [go_sem,Aa,Ab,hv,hw,h1]
  (show some _=some _;kernel_rfl)
 ·unfold round vfd;simp -implicitDefEqProofs (disch:=first|exact zd|fail) only [go_sem,Aa,Ab]
theorem vnj {d:Nat} {ts:List ByteArray} (h:TySm ts) (o:Obj'):vaf (T (d+4)) vad vd7 [.sl true va9 (ts.map eStr),cObj true o]=some ([.a (.string (vd5 ts o))],[]):=by
 have h1:=qbr (d:=d) h o;rw [vag rfl];unfold vd5;cases hk:objOkR ts o
 ·rw [hk] at h1;rw [if_neg (by simp)];simp -implicitDefEqProofs (disch:=first|exact zd|fail) only [go_sem,Aa,Ab,vd7,vk0,h1]
 ·rw [hk] at h1;rw [if_pos rfl];have hr:=vj0 hk;have n0:=hr.n0;have n1:=hr.n1;have t0:=hr.t0;have t1:=hr.t1;have hn:=hr.n;have tn:=h.n;have hx:=hr.kk;have ho:=hr.ok;have e1:Ad.wrap (o.ty+1)=o.ty+1:=vai _ zo zo;have h2:=vf6 (Φ:=T (d+3)) (o.ty+1);have key:=qbc (d:=d+3) (ts:=ts) (o:=o) zo;have h3:=via (d:=d+1) (vav ts o.ty) zo;have hb:=vuy o;rw [vhh ho] at h3⊢;have e2:Ad.wrap (64 * (((vav ts o.ty).size+8)/8:Nat))=64 * (((vav ts o.ty).size+8)/8:Nat):=vai _ zo zo;have e3:Ad.wrap (64 * (((vav ts o.ty).size+8)/8:Nat)-((objBody o).size:Nat))=(((64 * (((vav ts o.ty).size+8)/8:Nat):Int).toNat-(objBody o).size:Nat):Int):=by rw [vai _ zo zo];omega
  have h4:=vki (Φ:=T (d+3)) (N:=vad) ((64 * (((vav ts o.ty).size+8)/8:Nat):Int).toNat-(objBody o).size) zo;have z4:=vh7 ((64 * (((vav ts o.ty).size+8)/8:Nat):Int).toNat-(objBody o).size);have z5:((64 * (((vav ts o.ty).size+8)/8:Nat):Int).toNat-(objBody o).size)≤1000:=by omega
  generalize ((64 * (((vav ts o.ty).size+8)/8:Nat):Int).toNat-(objBody o).size)=z at *;generalize zerosB z=y at *;generalize hk':vav ts o.ty=k at *;generalize ((k.size+8)/8:Nat)=q at *;generalize objBody o=body at *;generalize vbs (o.ty+1)=w1 at *;obtain ⟨t,vs⟩:=o;dsimp only at *;obtain ⟨t,rfl⟩:∃n:Nat,t=n:=⟨t.toNat,by omega⟩
  rw [Af] at hx;simp -implicitDefEqProofs (disch:=first|exact zd|fail) only [go_sem,Aa,Ab,vd7,vk0,h1,e1,h2,hx,vao key,h3,e2,e3,h4];done
def rdObj (ts:List ByteArray) (s:ByteArray):Obj':=⟨vcs (s.extract 0 8)-1,(Aq (vav ts (vcs (s.extract 0 8)-1)).size).map fun i=>vcs (s.extract (8+8 * i) (16+8 * i))⟩
def readObj (ts:List ByteArray) (s:ByteArray):Option Obj':=if vg0 ts=true then if 64≤s.size then if 1≤vcs (s.extract 0 8)∧vcs (s.extract 0 8)≤ts.length then if (s.size:Int)=64 * runOf (vav ts (vcs (s.extract 0 8)-1)) then if vd5 ts (rdObj ts s)=s then some (rdObj ts s) else none else none else none else none else none
theorem qh4 {ts:List ByteArray} {s:ByteArray} {o:Obj'} (h:readObj ts s=some o):objOkR ts o=true∧vd5 ts o=s∧o=rdObj ts s∧64≤s.size:=by
 unfold readObj at h;split at h<;>try cases h
 split at h<;>try cases h
 rename_i h64;split at h<;>try cases h
 split at h<;>try cases h
 split at h<;>try cases h
 rename_i hb;refine ⟨?_,hb,rfl,h64⟩;cases hk:objOkR ts (rdObj ts s)
 ·unfold vd5 at hb;rw [hk,if_neg (by simp)] at hb;subst hb;exact absurd h64 (by decide)
 ·rfl
abbrev nRo (t:Int) (vs:List Int):vb5:= [(0,some (.bx false [.a (.int .i64 0),.rf 2])),(1,some (.bx false [.a (.int .i64 t),.rf 3])),(2,some (.sl false 0 vam [])),(3,some (.sl false 0 vam (vs.map vap)))]
def rdVals (s:ByteArray) (i:Nat):List Int:=(Aq i).map fun i=>vcs (s.extract (8+8 * i) (16+8 * i))
theorem qc2 {d:Nat} {ts:List ByteArray} {s:ByteArray} {t:Int} {u:Nat} {k:ByteArray} (hu:Ad.wrap (t-1)=(u:Nat)) (hx:ts[u]? =some k) (hk:k.size≤23) (hs:8+8 * k.size≤s.size) (hs2:s.size≤1048576):
  va7 (T (d+1)) vad [0,1,4,6,8,9] vhz ⟨[(0,.sz va9 (ts.map eStr)),(1,.a (.string s)),(4,.rf 0),(6,.a (.int .i64 t)),(8,.rf 1),(9,.a (.int .i64 (0:Nat)))],nRo u (rdVals s 0),4⟩=
   some (.ext 0,⟨[(0,.sz va9 (ts.map eStr)),(1,.a (.string s)),(4,.rf 0),(6,.a (.int .i64 t)),(8,.rf 1),(9,.a (.int .i64 (k.size:Nat))),(55,.a (.bool false))],nRo u (rdVals s k.size),804⟩):=by
 have htl:=(Ac.1 hx).1;refine vc5 (m:=k.size) (fun i=>⟨[(0,.sz va9 (ts.map eStr)),(1,.a (.string s)),(4,.rf 0),(6,.a (.int .i64 t)),(8,.rf 1),(9,.a (.int .i64 (i:Nat)))],nRo u (rdVals s i),4⟩) _ (vay zo) (fun i hi=> ?_) ?_
 ·have hw:=vat i zo;have m1:Ad.wrap (8 * (i:Int))=((8 * i:Nat):Int):=by rw [vai _ zo zo];omega
  have m2:Ad.wrap (8+((8 * i:Nat):Int))=((8+8 * i:Nat):Int):=by rw [vai _ zo zo];omega
  have m3:Ad.wrap (16+((8 * i:Nat):Int))=((16+8 * i:Nat):Int):=by rw [vai _ zo zo];omega
  have hz:(s.extract (8+8 * i) (16+8 * i)).size=8:=by rw [Al];omega
  have h2:=vk4 (Φ:=T d) (s.extract (8+8 * i) (16+8 * i));rw [if_pos hz,decide_eq_true hz] at h2;have hr:rdVals s (i+1)=rdVals s i++ [vcs (s.extract (8+8 * i) (16+8 * i))]:=by
   unfold rdVals;rw [Az,Aw];rfl
  have hl:(rdVals s i).length=i:=by unfold rdVals;simp
  rw [hr];generalize g1:s.extract (8+8 * i) (16+8 * i)=x at *;generalize vcs x=v at *;unfold nRo;rw [vbt];unfold round vhz;simp -implicitDefEqProofs (disch:=first|exact zd|fail) only [go_sem,Aa,Ab,hw,hu,hx,m1,m2,m3,Af,g1,h2]
  (show some _=some _;kernel_rfl)
 ·unfold round vhz;simp -implicitDefEqProofs (disch:=first|exact zd|fail) only [go_sem,Aa,Ab,hu,hx]
theorem qbo {d:Nat} {ts:List ByteArray} (h:TySm ts) (s:ByteArray) (hs:s.size≤1048576):vaf (T (d+5)) vad vcr [.sl true va9 (ts.map eStr),.a (.string s)]=some ([cObj false ((readObj ts s).getD ⟨0,[]⟩),.a (.bool (readObj ts s).isSome)],[]):=by
 have h1:=vm3 (d:=d+2) ts h.n h.t;have tn:=h.n;rw [vag rfl];unfold readObj;cases hk:vg0 ts
 ·rw [hk] at h1;rw [if_neg (by simp)];simp -implicitDefEqProofs (disch:=first|exact zd|fail) only [go_sem,Aa,Ab,vcr,vej,h1];rfl
 ·rw [hk] at h1;rw [if_pos rfl];by_cases c1:64≤s.size
  ·rw [if_pos c1];have c1':¬(s.size:Int)<64:=by omega
   have hz:(s.extract 0 8).size=8:=by rw [Al];omega
   have h2:=vk4 (Φ:=T (d+4)) (s.extract 0 8);rw [if_pos hz,decide_eq_true hz] at h2;have e8:Int.toNat 8=8:=rfl;have h3:=vd0 (Φ:=T (d+4)) (N:=vad) (n:=vcs (s.extract 0 8)) (lo:=1) (hi:=ts.length);unfold rdObj;generalize g0:s.extract 0 8=x0 at *;generalize vcs x0=t at *;by_cases c2:1≤t∧t≤(ts.length:Int)
   ·rw [if_pos c2];rw [decide_eq_true c2] at h3;have e1:Ad.wrap (t-1)=t-1:=vai _ zo zo;obtain ⟨k,hx⟩:∃k,ts[(t-1).toNat]? =some k:=⟨_,Ae zo⟩
    have hka:vav ts (t-1)=k:=by unfold vav;rw [hx];rfl
    have hks:=h.t k (Ai hx);have h4:=via (d:=d+2) k hks;have hok:okType k=true:=by
     unfold vg0 at hk;simp only [Aj,Ak] at hk;exact hk.2 k (Ai hx)
    rw [vhh hok] at h4;rw [hka,vhh hok];have e2:Ad.wrap (64 * ((k.size+8)/8:Nat))=64 * ((k.size+8)/8:Nat):=vai _ zo zo;obtain ⟨u,hu⟩:∃u:Nat,t-1=u:=⟨(t-1).toNat,by omega⟩
    rw [hu,Af] at hx;rw [hu] at e1;have htl:=(Ac.1 hx).1;rw [hu];by_cases c3:(s.size:Int)=64 * ((k.size+8)/8:Nat)
    ·rw [if_pos c3];generalize hq:((k.size+8)/8:Nat)=q at *;have key:=qc2 (d:=d+4) (ts:=ts) (s:=s) (t:=t) (u:=u) (by rw [hu];exact e1) hx (by unfold okType at hok;simp only [Aj,decide_eq_true_eq] at hok;exact hok.1.2) zo hs;have h5:=vnj (d:=d) h ⟨u,rdVals s k.size⟩;have hka':vav ts (u:Int)=k:=by rw [←hu];exact hka
     have hro:(Aq k.size).map (fun i=>vcs (s.extract (8+8 * i) (16+8 * i)))=rdVals s k.size:=rfl;rw [hro];by_cases c4:vd5 ts ⟨u,rdVals s k.size⟩=s
     ·have hne:decide (vd5 ts ⟨u,rdVals s k.size⟩≠s)=false:=by simp [c4]
      rw [if_pos c4];simp -implicitDefEqProofs (disch:=first|exact zd|fail) only [go_sem,Aa,Ab,vcr,vej,h1,c1',e8,g0,h2,h3,hu,e1,hx,h4,e2,c3,vao key,h5,hne];done
     ·have hne:decide (vd5 ts ⟨u,rdVals s k.size⟩≠s)=true:=by simp [c4]
      rw [if_neg c4];simp -implicitDefEqProofs (disch:=first|exact zd|fail) only [go_sem,Aa,Ab,vcr,vej,h1,c1',e8,g0,h2,h3,hu,e1,hx,h4,e2,c3,vao key,h5,hne];rfl
    ·rw [if_neg c3];generalize ((k.size+8)/8:Nat)=q at *;simp -implicitDefEqProofs (disch:=first|exact zd|fail) only [go_sem,Aa,Ab,vcr,vej,h1,c1',e8,g0,h2,h3,hu,e1,hx,h4,e2,c3];rfl
   ·rw [if_neg c2];rw [decide_eq_false c2] at h3;simp -implicitDefEqProofs (disch:=first|exact zd|fail) only [go_sem,Aa,Ab,vcr,vej,h1,c1',e8,g0,h2,h3];rfl
  ·rw [if_neg c1];have c1':(s.size:Int)<64:=by omega
   simp -implicitDefEqProofs (disch:=first|exact zd|fail) only [go_sem,Aa,Ab,vcr,vej,h1,c1'];rfl
theorem Conf.tys {c:Cf} (h:Conf c):TySm c.types:=⟨by have:=h.n1;omega,fun s hs=>by have:=h.ty s hs;omega⟩
structure Img (c:Cf) (s:ByteArray):Prop where
 C:Conf c
 z:(s.size:Int)=64 * c.lines
theorem Img.sz {c:Cf} {s:ByteArray} (h:Img c s):512≤s.size∧s.size≤8192:=by
 have:=h.C.l0;have:=h.C.l1;have:=h.z;omega
theorem vvq {c:Cf} {s:ByteArray} (h:isImg c s=true):Img c s:=⟨(vqs h).1,(vqs h).2⟩
def wordAt (s:ByteArray) (w:Nat):Int:=vcs (s.extract (8 * w) (8 * w+8))
theorem vz2 {d:Nat} (s:ByteArray) (w:Nat) (h:8 * w+8≤s.size) (hs:s.size≤1048576):vaf (T (d+1)) vad viz [.a (.string s),.a (.int .i64 (w:Nat))]=some ([.a (.int .i64 (wordAt s w))],[]):=by
 have m1:Ad.wrap (8 * (w:Int))=((8 * w:Nat):Int):=by rw [vai _ zo zo];omega
 have m2:Ad.wrap (((8 * w:Nat):Int)+8)=((8 * w+8:Nat):Int):=by rw [vai _ zo zo];omega
 have hz:(s.extract (8 * w) (8 * w+8)).size=8:=by rw [Al];omega
 have h2:=vk4 (Φ:=T d) (s.extract (8 * w) (8 * w+8));rw [if_pos hz,decide_eq_true hz] at h2;rw [vag rfl];unfold wordAt;generalize g1:s.extract (8 * w) (8 * w+8)=x at *;simp -implicitDefEqProofs (disch:=first|exact zd|fail) only [go_sem,Aa,Ab,viz,vun,m1,m2,Af,g1,h2]
def isLine (c:Cf) (l:Int):Bool:=decide (4+c.log≤l∧l≤c.lines-1)
theorem qfz {d:Nat} {c:Cf} (hc:Conf c) (l:Int):vaf (T (d+1)) vad vif [cCf true c,.a (.int .i64 l)]=some ([.a (.bool (isLine c l))],[]):=by
 have l0:=hc.l0;have l1:=hc.l1;have g0:=hc.g0;have g1:=hc.g1;have e1:Ad.wrap (4+c.log)=4+c.log:=vai _ zo zo;have e2:Ad.wrap (c.lines-1)=c.lines-1:=vai _ zo zo;rw [vag rfl];unfold isLine;simp -implicitDefEqProofs (disch:=first|exact zd|fail) only [go_sem,Aa,Ab,vif,vs9,e1,e2]
def isRef (c:Cf) (r:Int):Bool:=decide (r=0)||(decide (refKind r=1)&&isLine c (r.tdiv 2))
theorem qcm {r:Int} (h:refKind r=1):2≤r∧r≤254∧r.tmod 2=0:=by
 unfold refKind at h;split at h
 ·omega
 ·split at h
  ·rename_i h1;exact ⟨h1.1.1,h1.1.2,h1.2⟩
  ·split at h<;>omega
theorem vzd {d:Nat} {c:Cf} (hc:Conf c) (r:Int):vaf (T (d+2)) vad vf9 [cCf true c,.a (.int .i64 r)]=some ([.a (.bool (isRef c r))],[]):=by
 have h1:=vw8 (d:=d) r;have h2:=qfz (d:=d) hc (r.tdiv 2);rw [vag rfl];unfold isRef;by_cases c0:r=0
 ·rw [decide_eq_true c0];simp -implicitDefEqProofs (disch:=first|exact zd|fail) only [go_sem,Aa,Ab,vf9,vma,c0]
 ·rw [decide_eq_false c0];by_cases c1:refKind r=1
  ·obtain ⟨r1,r2,_⟩:=qcm c1;have e1:Ad.wrap (r.tdiv 2)=r.tdiv 2:=by
    obtain ⟨n,rfl⟩:∃n:Nat,r=n:=⟨r.toNat,by omega⟩
    rw [show A4 (n:Int) 2=((n/2:Nat):Int) from (A1 _ 2).symm,vai]<;>omega
   rw [c1] at h1;rw [decide_eq_true c1];simp -implicitDefEqProofs (disch:=first|exact zd|fail) only [go_sem,Aa,Ab,vf9,vma,c0,h1,e1,h2]
  ·rw [decide_eq_false c1];generalize refKind r=q at *;simp -implicitDefEqProofs (disch:=first|exact zd|fail) only [go_sem,Aa,Ab,vf9,vma,c0,h1,c1]
def objAt (c:Cf) (s:ByteArray) (l:Nat):Option Obj':=if 1≤wordAt s (8 * l)∧wordAt s (8 * l)≤c.types.length then if 64 * (l+runOf (vav c.types (wordAt s (8 * l)-1)))≤s.size then readObj c.types (s.extract (64 * l) (64 * (l+runOf (vav c.types (wordAt s (8 * l)-1)))).toNat) else none else none
theorem qig {d:Nat} {c:Cf} {s:ByteArray} (hi:Img c s) (l:Nat) (hl:(l:Int)<c.lines):vaf (T (d+6)) vad vf5 [cCf true c,.a (.string s),.a (.int .i64 (l:Nat))]=some ([cObj false ((objAt c s l).getD ⟨0,[]⟩),.a (.bool (objAt c s l).isSome)],[]):=by
 have hC:=hi.C;have hz:=hi.z;have hsz:=hi.sz;have l1:=hC.l1;have n1:=hC.n1;have m1:Ad.wrap (8 * (l:Int))=((8 * l:Nat):Int):=by rw [vai _ zo zo];omega
 have m2:Ad.wrap (64 * (l:Int))=((64 * l:Nat):Int):=by rw [vai _ zo zo];omega
 have h1:=vz2 (d:=d+4) s (8 * l) zo zo;rw [vag rfl];unfold objAt;generalize wordAt s (8 * l)=t at *;have h2:=vd0 (Φ:=T (d+5)) (N:=vad) (n:=t) (lo:=1) (hi:=c.types.length);by_cases c2:1≤t∧t≤(c.types.length:Int)
 ·rw [if_pos c2];rw [decide_eq_true c2] at h2;have e1:Ad.wrap (t-1)=t-1:=vai _ zo zo;obtain ⟨k,hx⟩:∃k,c.types[(t-1).toNat]? =some k:=⟨_,Ae zo⟩
  have hka:vav c.types (t-1)=k:=by unfold vav;rw [hx];rfl
  have hks:=hC.ty k (Ai hx);have h4:=via (d:=d+3) k zo;have hok:=hC.ok k (Ai hx);rw [vhh hok] at h4;rw [hka,vhh hok];obtain ⟨u,hu⟩:∃u:Nat,t-1=u:=⟨(t-1).toNat,by omega⟩
  rw [hu,Af] at hx;rw [hu] at e1;have htl:=(Ac.1 hx).1;have hq:(k.size+8)/8≤3:=by omega
  have hq1:1≤(k.size+8)/8:=by omega
  generalize (k.size+8)/8=q at *;have m3:Ad.wrap ((l:Int)+(q:Nat))=((l+q:Nat):Int):=by rw [vai _ zo zo];omega
  have m4:Ad.wrap (64 * ((l+q:Nat):Int))=((64 * (l+q):Nat):Int):=by rw [vai _ zo zo];omega
  rw [show (64 * ((l:Int)+(q:Nat)))=((64 * (l+q):Nat):Int) by omega,Af];by_cases c3:((64 * (l+q):Nat):Int)≤s.size
  ·rw [if_pos c3];have c3':¬((64 * (l+q):Nat):Int)>s.size:=by omega
   have h5:=qbo (d:=d) hC.tys (s.extract (64 * l) (64 * (l+q))) (by rw [Al];omega);generalize g1:s.extract (64 * l) (64 * (l+q))=x at *;generalize readObj c.types x=o at *;simp -implicitDefEqProofs (disch:=first|exact zd|fail) only [go_sem,Aa,Ab,vf5,vl8,m1,h1,h2,hu,e1,hx,h4,m3,m4,c3',m2,Af,g1,h5];done
  ·rw [if_neg c3];have c3':((64 * (l+q):Nat):Int)>s.size:=by omega
   simp -implicitDefEqProofs (disch:=first|exact zd|fail) only [go_sem,Aa,Ab,vf5,vl8,m1,h1,h2,hu,e1,hx,h4,m3,m4,c3'];rfl
 ·rw [if_neg c2];rw [decide_eq_false c2] at h2;simp -implicitDefEqProofs (disch:=first|exact zd|fail) only [go_sem,Aa,Ab,vf5,vl8,m1,h1,h2];rfl
theorem qez {c:Cf} {s:ByteArray} {l:Nat} {o:Obj'} (h:objAt c s l=some o):objOkR c.types o=true∧(64 * (l+runOf (vav c.types o.ty)):Int)≤s.size:=by
 unfold objAt at h;split at h<;>try cases h
 split at h<;>try cases h
 rename_i h1 h2;obtain ⟨h3,h4,h5,h6⟩:=qh4 h;have hz:=vuk h3;have hr:=vj0 h3;have hr1:=vhh hr.ok;rw [h4,Al] at hz;refine ⟨h3,?_⟩;have h0:0≤runOf (vav c.types (wordAt s (8 * l)-1)):=by unfold runOf;split<;>omega
 omega
def badO (c:Cf) (o:Obj') (k:ByteArray) (i:Nat):Bool:=decide (bAt k i=114)&& !isRef c (o.vals[i]?.getD 0)
def refsOk (c:Cf) (o:Obj') (k:ByteArray):Bool:=(Aq o.vals.length).all fun i=> !badO c o k i
def oldAt (c:Cf) (s:ByteArray) (l:Nat):Option Obj':=match objAt c s l with
 |some o=>if refsOk c o (vav c.types o.ty)=true then some o else none
 |none=>none
abbrev nOld (c:Cf) (o:Obj'):vb5:= [(0,some (.bx false (uCf c))),(1,some (.bx false [.a (.int .i64 0),.rf 3])),(2,some (.bx false [.a (.int .i64 o.ty),.rf 4])),(3,some (.sl false 0 vam [])),(4,some (.sl false 0 vam (o.vals.map vap)))]
theorem qna {d : Nat} {c : Cf} (hC : Conf c) {o : Obj'} {k : ByteArray} (hk : c.types[o.ty.toNat]? = some k) (h0 : 0 ≤ o.ty) (hv : o.vals.length = k.size) (hs : k.size ≤ 23) :
    va7 (T (d + 3)) vad [3,6,8,10] vj6 ⟨[(3, .rf 0), (6, .rf 1), (8, .rf 2), (10, .a (.int .i64 (0 : Nat)))], nOld c o, 5⟩ =
     some (if refsOk c o k = true then (.ext 0, ⟨[(3, .rf 0), (6, .rf 1), (8, .rf 2), (10, .a (.int .i64 (o.vals.length : Nat))), (25, .a (.bool false))], nOld c o, 505⟩) else (.ret, ⟨[(6, .rf 1), (7, .a (.bool false))], (1, some (.bx false [.a (.int .i64 0), .nl vam])) :: nOld c o, 2705⟩)) := by
  refine vfh (fun i => ⟨[(3, .rf 0), (6, .rf 1), (8, .rf 2), (10, .a (.int .i64 (i : Nat)))], nOld c o, 5⟩) _ (fun i => ∀ j, j < i → badO c o k j = false) (m := o.vals.length) (vay zo) (fun j h => by omega) (by split <;> simp) (fun i hi hp => ?_);obtain ⟨t, vs⟩ := o;dsimp only at *;obtain ⟨t, rfl⟩ : ∃ n : Nat, t = n := ⟨t.toNat, by omega⟩;rw [Af] at hk;have htl := (Ac.1 hk).1;by_cases hi' : i < vs.length
  · obtain ⟨v, hb⟩ : ∃ b, vs[i]? = some b := ⟨_, Ae hi'⟩
    have hw := vat i zo;have hx := vi9 (s := k) (j := i) zo;have h1 := vzd (d := d) hC v;have hbad : badO c ⟨t, vs⟩ k i = (decide (bAt k i = 114) && !isRef c v) := by unfold badO; rw [hb]; rfl
    unfold round vj6;by_cases c1 : bAt k i = 114
    · have c1' : (bAt k i : Int) = 114 := by omega
      cases c2 : isRef c v
      · rw [c2] at h1
        right;rw [if_neg (by unfold refsOk; rw [Ak]; intro hall; have := hall i (Am.2 hi'); rw [hbad, decide_eq_true c1, c2] at this; cases this)];simp (implicitDefEqProofs := false) (disch := first | exact zd | fail) only [go_sem, Aa, Ab, hk, hb, hx, c1', h1]
      · rw [c2] at h1
        refine .inl ⟨hi', ?_, fun j hj => ?_⟩
        · simp (implicitDefEqProofs := false) (disch := first | exact zd | fail) only [go_sem, Aa, Ab, hk, hb, hx, c1', h1, hw]
          (show some _ = some _; kernel_rfl)
        · by_cases hji : j = i
          · subst hji; rw [hbad, c2, Bool.not_true, A2]
          · exact hp j zo
    · have c1' : ¬ (bAt k i : Int) = 114 := by omega
      refine .inl ⟨hi', ?_, fun j hj => ?_⟩
      · simp (implicitDefEqProofs := false) (disch := first | exact zd | fail) only [go_sem, Aa, Ab, hk, hb, hx, c1', hw]
        (show some _ = some _; kernel_rfl)
      · by_cases hji : j = i
        · subst hji; rw [hbad, decide_eq_false c1, A3]
        · exact hp j zo
  · obtain rfl : i = vs.length := by omega
    right;rw [if_pos (by unfold refsOk; rw [Ak]; intro j hj; rw [hp j (Am.1 hj)]; rfl)];unfold round vj6;simp (implicitDefEqProofs := false) (disch := first | exact zd | fail) only [go_sem, Aa, Ab]
theorem qi3 {d:Nat} {c:Cf} {s:ByteArray} (hi:Img c s) (l:Nat) (hl:(l:Int)<c.lines):vaf (T (d+7)) vad vga [cCf true c,.a (.string s),.a (.int .i64 (l:Nat))]=some ([cObj false ((oldAt c s l).getD ⟨0,[]⟩),.a (.bool (oldAt c s l).isSome)],[]):=by
 have h1:=qig (d:=d) hi l hl;rw [vag rfl];unfold oldAt;cases ho:objAt c s l with
 |none=>
  rw [ho] at h1;simp -implicitDefEqProofs (disch:=first|exact zd|fail) only [go_sem,Aa,Ab,vga,vmb,h1,Ap,Ao];rfl
 |some o=>
  rw [ho] at h1;obtain ⟨h2,_⟩:=qez ho;have hr:=vj0 h2;have key:=qna (d:=d+4) hi.C hr.kk hr.t0 hr.n hr.n1;dsimp only;cases hf:refsOk c o (vav c.types o.ty)
  ·rw [hf,if_neg (by simp)] at key;rw [if_neg (by simp)];simp -implicitDefEqProofs (disch:=first|exact zd|fail) only [go_sem,Aa,Ab,vga,vmb,h1,Ag,Ah,vhc key];rfl
  ·rw [hf,if_pos rfl] at key;rw [if_pos rfl];simp -implicitDefEqProofs (disch:=first|exact zd|fail) only [go_sem,Aa,Ab,vga,vmb,h1,Ag,Ah,vao key];done
def slotsN (s:ByteArray) (n:Nat):List Int:=(Aq n).map fun i=>wordAt s (16+i)
def veb (s:ByteArray):List Int:=slotsN s 8
theorem qf2 {d:Nat} {s:ByteArray} (hs:192≤s.size) (hs2:s.size≤1048576):
  va7 (T (d+2)) vad [0,3,4] vjf ⟨[(0,.a (.string s)),(3,.rf 0),(4,.a (.int .i64 (0:Nat)))],[(0,some (.sl false 0 vam ((slotsN s 0).map vap)))],1⟩=
   some (.ext 0,⟨[(0,.a (.string s)),(3,.rf 0),(4,.a (.int .i64 (8:Nat))),(7,.a (.bool false))],[(0,some (.sl false 0 vam ((slotsN s 8).map vap)))],201⟩):=by
 refine vc5 (m:=8) (fun i=>⟨[(0,.a (.string s)),(3,.rf 0),(4,.a (.int .i64 (i:Nat)))],[(0,some (.sl false 0 vam ((slotsN s i).map vap)))],1⟩) _ (vay zo) (fun i hi=> ?_) ?_
 ·have hw:=vat i zo;have l1:(i:Int)<8:=by omega
  have m1:Ad.wrap (16+(i:Int))=((16+i:Nat):Int):=by rw [vai _ zo zo];omega
  have h1:=vz2 (d:=d) s (16+i) zo zo;have hr:slotsN s (i+1)=slotsN s i++ [wordAt s (16+i)]:=by
   unfold slotsN;rw [Az,Aw];rfl
  have hl:(slotsN s i).length=i:=by unfold slotsN;simp
  rw [hr];generalize wordAt s (16+i)=v at *;rw [vbt];unfold round vjf;simp -implicitDefEqProofs (disch:=first|exact zd|fail) only [go_sem,Aa,Ab,hw,l1,m1,h1]
  (show some _=some _;kernel_rfl)
 ·unfold round vjf;simp -implicitDefEqProofs (disch:=first|exact zd|fail) only [go_sem,Aa,Ab]
theorem vri {d:Nat} {s:ByteArray} (hs:192≤s.size) (hs2:s.size≤1048576):vaf (T (d+2)) vad vha [.a (.string s)]=some ([.sl false vam ((veb s).map vap)],[]):=by
 have key:=qf2 (d:=d) hs hs2;rw [vag rfl];unfold veb;simp -implicitDefEqProofs (disch:=first|exact zd|fail) only [go_sem,Aa,Ab,vha,vr7,vao key];done
theorem vkj (s:ByteArray):(veb s).length=8:=by unfold veb slotsN;simp
def refsAll (c:Cf) (l:List Int):Bool:=l.all (isRef c)
theorem qh5 {d:Nat} {c:Cf} (hC:Conf c) (l:List Int) (hl:l.length≤1048576):
  va7 (T (d+3)) vad [1,2,5] vjp ⟨[(1,.sz vam (l.map vap)),(2,.rf 0),(5,.a (.int .i64 (0:Nat)))],[(0,some (.bx false (uCf c)))],1⟩=
   some (if refsAll c l=true then (.ext 0,⟨[(1,.sz vam (l.map vap)),(2,.rf 0),(5,.a (.int .i64 (l.length:Nat))),(9,.a (.bool false))],[(0,some (.bx false (uCf c)))],401⟩) else (.ret,⟨[(4,.a (.bool false))],[(0,some (.bx false (uCf c)))],1201⟩)):=by
 refine vfh (fun i=>⟨[(1,.sz vam (l.map vap)),(2,.rf 0),(5,.a (.int .i64 (i:Nat)))],[(0,some (.bx false (uCf c)))],1⟩) _ (fun i=>∀(j:Nat) b,j<i→l[j]? =some b→isRef c b=true) (m:=l.length) (vay zo) (fun j b h=>by omega) (by split<;>simp) (fun i hi hp=> ?_);by_cases hi':i<l.length
 ·obtain ⟨b,hb⟩:∃b,l[i]? =some b:=⟨_,Ae hi'⟩
  have hw:=vat i zo;have h1:=vzd (d:=d) hC b;unfold round vjp;cases ho:isRef c b
  ·rw [ho] at h1;right;rw [if_neg (fun hall=>by have:=Ak.1 hall b (Ai hb);rw [ho] at this;cases this)];simp -implicitDefEqProofs (disch:=first|exact zd|fail) only [go_sem,Aa,Ab,hb,hw,h1];done
  ·rw [ho] at h1;refine .inl ⟨hi',?_,fun j y hj hy=> ?_⟩
   ·simp -implicitDefEqProofs (disch:=first|exact zd|fail) only [go_sem,Aa,Ab,hb,hw,h1]
    (show some _=some _;kernel_rfl)
   ·by_cases hji:j=i
    ·subst hji;rw [hb] at hy;cases hy;exact ho
    ·exact hp j y zo hy
 ·obtain rfl:i=l.length:=by omega
  right;rw [if_pos (by unfold refsAll;rw [Ak];intro y hy;obtain ⟨j,hj⟩:=List.getElem?_of_mem hy;exact hp j y (Ac.1 hj).1 hj)];unfold round vjp;simp -implicitDefEqProofs (disch:=first|exact zd|fail) only [go_sem,Aa,Ab]
theorem vw5 {d:Nat} {c:Cf} (hC:Conf c) (l:List Int) (hl:l.length≤1048576):vaf (T (d+3)) vad vgq [cCf true c,.sl true vam (l.map vap)]=some ([.a (.bool (refsAll c l))],[]):=by
 have key:=qh5 (d:=d) hC l hl;rw [vag rfl];cases hf:refsAll c l
 ·rw [hf,if_neg (by simp)] at key;simp -implicitDefEqProofs (disch:=first|exact zd|fail) only [go_sem,Aa,Ab,vgq,vo4,vhc key]
 ·rw [hf,if_pos rfl] at key;simp -implicitDefEqProofs (disch:=first|exact zd|fail) only [go_sem,Aa,Ab,vgq,vo4,vao key]
def slotsR (c:Cf) (s:ByteArray):Option (List Int):=if (isImg c s&&refsAll c (veb s))=true then some (veb s) else none
theorem qgd {d:Nat} {c:Cf} (hc:CfSm c) (s:ByteArray):vaf (T (d+5)) vad vfa [cCf true c,.a (.string s)]=some ([.sl false vam (((slotsR c s).getD []).map vap),.a (.bool (slotsR c s).isSome)],[]):=by
 have h1:=vxj (d:=d) hc s;rw [vag rfl];unfold slotsR;cases hi:isImg c s
 ·rw [hi] at h1;rw [if_neg (by simp)];simp -implicitDefEqProofs (disch:=first|exact zd|fail) only [go_sem,Aa,Ab,vfa,vk8,h1];rfl
 ·rw [hi] at h1;have hI:=vvq hi;have hz:=hI.sz;have h2:=vri (d:=d+2) (s:=s) zo zo;have hl:=vkj s;have h3:=vw5 (d:=d+1) hI.C (veb s) zo;generalize veb s=l at *;cases hf:refsAll c l
  ·rw [hf] at h3;rw [if_neg (by simp)];simp -implicitDefEqProofs (disch:=first|exact zd|fail) only [go_sem,Aa,Ab,vfa,vk8,h1,h2,h3];rfl
  ·rw [hf] at h3;rw [if_pos (by simp)];simp -implicitDefEqProofs (disch:=first|exact zd|fail) only [go_sem,Aa,Ab,vfa,vk8,h1,h2,h3];done

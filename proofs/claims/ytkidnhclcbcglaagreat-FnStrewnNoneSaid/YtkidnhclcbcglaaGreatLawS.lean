/- The laws' own functions over acts: copies, sizes, likeness. Stripped: what the program and the reference make of acts. Strewn, in plain words: acts strewn one place after the other, and act after act. No program in sight. Gathered: what the program and the reference gather of answers; and the law that compares them. Stripping and gathering what was strewn, in plain words. No program in sight. Acts and answers compared by the laws: each list is like itself. -/
import Derived.Test.YtkidnhclcbcglaaGreatLawAct0
import Derived.Test.YtkidnhclcbcglaaGreatLawW
open Nat renaming reduceAdd->Aa,reduceBEq->Ab,le_refl->An
open List renaming getElem?_eq_getElem->Ac,drop_eq_nil_of_le->Ad,mem_of_getElem?->Ae,take_add_one->Af,drop_eq_getElem_cons->Ag,take_length->Ah,length_filter_le->Ai,filter_append->Aj,foldlM_append->Ak,map_append->Al,mem_cons->Am
namespace Go.Proofs.YtkidnhclcbcglaaGreat.VM
open Go Sy
variable {Φ:Nat→Option Callee} {N:Nat}
set_option maxRecDepth 100000
set_option maxHeartbeats 8000000
theorem qe2 (l:List Int):(l.map vap).map PV.cpy=l.map vap:=by rw [List.map_map];rfl
theorem qf0 (x:Act') (hl:x.keep.length≤1048576):vaf Φ N vid [cAct true x]=some ([cAct false x],[]):=by
 rw [vag rfl];simp -implicitDefEqProofs (disch:=first|exact zd|fail) only [go_sem,Aa,Ab,vid,vsz,qe2]
theorem vts {d:Nat} (x:Act') (hl:x.keep.length≤1048576):vaf (T (d+1)) vad vi5 [cAct true x]=some ([cAct false x],[]):=by
 rw [vag rfl];simp -implicitDefEqProofs (disch:=first|exact zd|fail) only [go_sem,Aa,Ab,vi5,vub,qe2]
theorem vxi (k:Int):vaf Φ N veg [.a (.int .i64 k)]=some ([.a (.bool (decide (15≤k∧k≤17)))],[]):=by
 rw [vag rfl];by_cases h1:k=15
 ·rw [decide_eq_true zo];simp -implicitDefEqProofs (disch:=first|exact zd|fail) only [go_sem,Aa,Ab,veg,vjx]
 ·by_cases h2:k=16
  ·rw [decide_eq_true zo];simp -implicitDefEqProofs (disch:=first|exact zd|fail) only [go_sem,Aa,Ab,veg,vjx]
  ·by_cases h3:k=17
   ·rw [decide_eq_true zo];simp -implicitDefEqProofs (disch:=first|exact zd|fail) only [go_sem,Aa,Ab,veg,vjx]
   ·rw [decide_eq_false zo];simp -implicitDefEqProofs (disch:=first|exact zd|fail) only [go_sem,Aa,Ab,veg,vjx]
theorem qdn {d:Nat} (k:Int):vaf (T (d+1)) vad vhf [.a (.int .i64 k)]=some ([.a (.bool (decide (15≤k∧k≤17)))],[]):=by
 have h:=vd0 (Φ:=T d) (N:=vad) (n:=k) (lo:=15) (hi:=17);generalize decide (15≤k∧k≤17)=b at *;rw [vag rfl];simp -implicitDefEqProofs (disch:=first|exact zd|fail) only [go_sem,Aa,Ab,vhf,vsc,h]
def loud (x:Act'):Bool:= !decide (15≤x.kind∧x.kind≤17)
def strip (l:List Act'):List Act':=if l.length≤60 then l.filter loud else []
def stripO (l:List Act') (i:Nat):List PV:=((l.take i).filter loud).map va3
theorem vua (l:List Act') (i:Nat):(stripO l i).length≤i:=by
 have:=Ai loud (l.take i);rw [stripO,List.length_map];rw [List.length_take] at this;omega
theorem vw7 {l:List Act'} {i:Nat} {x:Act'} (h:l[i]? =some x) (hx:loud x=true):stripO l (i+1)=stripO l i++ [va3 x]:=by
 unfold stripO;rw [Af,h,Aj,Al];simp [hx]
theorem vv3 {l:List Act'} {i:Nat} {x:Act'} (h:l[i]? =some x) (hx:loud x=false):stripO l (i+1)=stripO l i:=by
 unfold stripO;rw [Af,h,Aj,Al];simp [hx]
theorem vzf (l:List Act'):stripO l l.length=(l.filter loud).map va3:=by rw [stripO,Ah]
theorem vvi {d:Nat} (l:List Act') (hl:l.length≤60) (hk:∀x∈l,x.keep.length≤1048576):
  va7 (T (d+2)) vad [3,10,11,12] vi8 ⟨[(3,.rf 0),(10,.sz vak (l.map va3)),(11,.a (.int .i64 l.length)),(12,.a (.int .i64 0))],[(0,some (.sl false 0 vak []))],1⟩=
  some (.ext 0,⟨[(3,.rf 0),(10,.sz vak (l.map va3)),(11,.a (.int .i64 l.length)),(12,.a (.int .i64 l.length)),(13,.a (.bool false))],[(0,some (.sl false 0 vak ((l.filter loud).map va3)))],101⟩):=by
 rw [←vzf];refine vc5 (fun i=>⟨[(3,.rf 0),(10,.sz vak (l.map va3)),(11,.a (.int .i64 l.length)),(12,.a (.int .i64 (i:Nat)))],[(0,some (.sl false 0 vak (stripO l i)))],1⟩) _ (m:=l.length) (vay zo) (fun i hi=> ?_) ?_
 ·obtain ⟨x,hx⟩:∃a,l[i]? =some a:=⟨_,Ac hi⟩
  have hc:=vts (d:=d) x (hk x (Ae hx));have he:=vxi (Φ:=T (d+1)) (N:=vad) x.kind;have hO:=vua l i;have hw:=vat i zo;unfold round vi8;cases hq:loud x
  ·rw [vv3 hx hq];rw [show decide (15≤x.kind∧x.kind≤17)=true from by rw [loud,Bool.not_eq_false'] at hq;exact hq] at he;simp -implicitDefEqProofs (disch:=first|exact zd|fail) only [go_sem,Aa,Ab,hx,hc,he,hw]
   (show some _=some _;kernel_rfl)
  ·rw [vw7 hx hq,vq3];rw [show decide (15≤x.kind∧x.kind≤17)=false from by rw [loud,Bool.not_eq_true'] at hq;exact hq] at he;generalize stripO l i=O at *;simp -implicitDefEqProofs (disch:=first|exact zd|fail) only [go_sem,Aa,Ab,hx,hc,he,hw]
   (show some _=some _;kernel_rfl)
 ·unfold round vi8;simp -implicitDefEqProofs (disch:=first|exact zd|fail) only [go_sem,Aa,Ab]
theorem vu9 {d:Nat} (l:List Act') (hl:l.length≤60) (hk:∀x∈l,x.keep.length≤1048576):
  va7 (T (d+2)) vad [0,3,4] vfg ⟨[(0,.sz vak (l.map va3)),(3,.rf 0),(4,.a (.int .i64 0))],[(0,some (.sl false 0 vak []))],1⟩=
  some (.ext 0,⟨[(0,.sz vak (l.map va3)),(3,.rf 0),(4,.a (.int .i64 l.length)),(14,.a (.bool false))],[(0,some (.sl false 0 vak ((l.filter loud).map va3)))],901⟩):=by
 rw [←vzf];refine vc5 (fun i=>⟨[(0,.sz vak (l.map va3)),(3,.rf 0),(4,.a (.int .i64 (i:Nat)))],[(0,some (.sl false 0 vak (stripO l i)))],1⟩) _ (m:=l.length) (vay zo) (fun i hi=> ?_) ?_
 ·obtain ⟨x,hx⟩:∃a,l[i]? =some a:=⟨_,Ac hi⟩
  have hc:=qf0 (Φ:=T (d+1)) (N:=vad) x (hk x (Ae hx));have he:=qdn (d:=d) x.kind;have hO:=vua l i;have hw:=vat i zo;unfold round vfg;cases hq:loud x
  ·rw [vv3 hx hq];rw [show decide (15≤x.kind∧x.kind≤17)=true from by rw [loud,Bool.not_eq_false'] at hq;exact hq] at he;simp -implicitDefEqProofs (disch:=first|exact zd|fail) only [go_sem,Aa,Ab,hx,hc,he,hw]
   (show some _=some _;kernel_rfl)
  ·rw [vw7 hx hq,vq3];rw [show decide (15≤x.kind∧x.kind≤17)=false from by rw [loud,Bool.not_eq_true'] at hq;exact hq] at he;generalize stripO l i=O at *;simp -implicitDefEqProofs (disch:=first|exact zd|fail) only [go_sem,Aa,Ab,hx,hc,he,hw]
   (show some _=some _;kernel_rfl)
 ·unfold round vfg;simp -implicitDefEqProofs (disch:=first|exact zd|fail) only [go_sem,Aa,Ab]
theorem vqo {d:Nat} (l:List Act') (h63:l.length≤1048576) (hk:∀x∈l,x.keep.length≤1048576):vaf (T (d+2)) vad vfk [.sl true vak (l.map va3)]=some ([.sl false vak ((strip l).map va3)],[]):=by
 rw [vag rfl];unfold strip;by_cases hl:l.length≤60
 ·have key:=vvi (d:=d) l hl hk;rw [if_pos hl];simp -implicitDefEqProofs (disch:=first|exact zd|fail) only [go_sem,Aa,Ab,vfk,vns,vao key]
 ·rw [if_neg hl];simp -implicitDefEqProofs (disch:=first|exact zd|fail) only [go_sem,Aa,Ab,vfk,vns]
theorem vwv {d:Nat} (l:List Act') (h63:l.length≤1048576) (hk:∀x∈l,x.keep.length≤1048576):vaf (T (d+2)) vad vfv [.sl true vak (l.map va3)]=some ([.sl false vak ((strip l).map va3)],[]):=by
 rw [vag rfl];unfold strip;by_cases hl:l.length≤60
 ·have key:=vu9 (d:=d) l hl hk;rw [if_pos hl];simp -implicitDefEqProofs (disch:=first|exact zd|fail) only [go_sem,Aa,Ab,vfv,vn9,vao key]
 ·rw [if_neg hl];have key:va7 (T (d+2)) vad [0,3,4] vfg ⟨[(0,.sz vak (l.map va3)),(3,.rf 0),(4,.a (.int .i64 0))],[(0,some (.sl false 0 vak []))],1⟩=
   some (.ext 0,⟨[(0,.sz vak (l.map va3)),(3,.rf 0),(4,.a (.int .i64 0)),(14,.a (.bool false))],[(0,some (.sl false 0 vak []))],901⟩):=by
   refine vfh (fun _=>⟨[(0,.sz vak (l.map va3)),(3,.rf 0),(4,.a (.int .i64 0))],[(0,some (.sl false 0 vak []))],1⟩) _ (fun _=>True) (m:=1) (vay zo) trivial (by simp) (fun i _ _=> .inr ?_);unfold round vfg;simp -implicitDefEqProofs (disch:=first|exact zd|fail) only [go_sem,Aa,Ab]
  simp -implicitDefEqProofs (disch:=first|exact zd|fail) only [go_sem,Aa,Ab,vfv,vn9,vao key]
end Go.Proofs.YtkidnhclcbcglaaGreat.VM
namespace Go.Proofs.YtkidnhclcbcglaaGreat.VM
def sact (s:Strew):Act':=⟨s.kind,s.a,0,0,-1,[]⟩
def okS (n j:Nat) (s:Strew):Bool:=decide ((j:Int)≤s.at_∧s.at_≤n∧15≤s.kind∧s.kind≤17)
def validS (n:Nat):Nat→List Strew→Bool
 |_,[]=>true
 |j,s::ws=>okS n j s&&validS n s.at_.toNat ws
def gw (ws:List Strew) (i:Nat):List Act':=(ws.filter fun s=>decide (s.at_=(i:Int))).map sact
def gS (l:List Act') (ws:List Strew):Nat→Nat→List Act'
 |_,0=> []
 |i,n+1=>gw ws i++l[i]?.toList++gS l ws (i+1) n
def stepS (l:List Act') (p:Nat×List Act') (s:Strew):Option (Nat×List Act'):=
 if okS l.length p.1 s=true then some (s.at_.toNat,p.2++(l.drop p.1).take (s.at_.toNat-p.1)++ [sact s]) else none
theorem qp3 {α:Type} (l:List α) (j:Nat):l.drop j=l[j]?.toList++l.drop (j+1):=by
 by_cases h:j<l.length
 ·rw [Ag h,Ac h];rfl
 ·rw [Ad zo,List.getElem?_eq_none zo,Ad zo];rfl
theorem qiz (l:List Act'):∀(n j:Nat),j+n=l.length+1→gS l [] j n=l.drop j
 |0,j,h=>by rw [gS,Ad zo]
 |n+1,j,h=>by rw [gS,qiz l n (j+1) zo,qp3 l j];rfl
theorem qdi {n:Nat}:∀{ws:List Strew} {j:Nat},validS n j ws=true→∀s∈ws,(j:Int)≤s.at_
 | [],_,_,_,h=>by cases h
 |w::ws,j,h,s,hs=>by
  simp only [validS,okS,Bool.and_eq_true,decide_eq_true_eq] at h;rcases Am.1 hs with rfl|hs
  ·exact h.1.1
  ·have:=qdi h.2 s hs;omega
theorem qs5 {ws:List Strew} {i:Nat} (h:∀s∈ws,s.at_≠(i:Int)):gw ws i= []:=by
 unfold gw;rw [List.filter_eq_nil_iff.2 (fun s hs=>by simpa using h s hs)];rfl
theorem qix {s:Strew} {ws:List Strew} {i:Nat} (h:s.at_≠(i:Int)):gw (s::ws) i=gw ws i:=by
 unfold gw;rw [List.filter_cons_of_neg (by simpa using h)]
theorem qjf {s:Strew} {ws:List Strew} {i:Nat} (h:s.at_=(i:Int)):gw (s::ws) i=sact s::gw ws i:=by
 unfold gw;rw [List.filter_cons_of_pos (by simpa using h)];rfl
theorem qg1 {l:List Act'} {ws ws':List Strew}:∀{n j:Nat},(∀i,j≤i→gw ws i=gw ws' i)→gS l ws j n=gS l ws' j n
 |0,_,_=>rfl
 |n+1,j,h=>by rw [gS,gS,h j (An _),qg1 fun i hi=>h i zo]
theorem ql5 {l:List Act'} {ws:List Strew}:∀{k j n:Nat},k≤n→j+k≤l.length→(∀i,j≤i→i<j+k→gw ws i= [])→gS l ws j n=(l.drop j).take k++gS l ws (j+k) (n-k)
 |0,j,n,_,_,_=>by simp
 |k+1,j,n,hk,hj,h=>by
  obtain ⟨n,rfl⟩:∃n',n=n'+1:=⟨n-1,by omega⟩
  rw [gS,h j (An _) zo,ql5 (k:=k) (j:=j+1) (n:=n) zo zo fun i h1 h2=>h i zo zo];rw [Ag (show j<l.length by omega),Ac (show j<l.length by omega)];simp only [Option.toList_some,List.take_succ_cons,List.nil_append,List.cons_append,List.cons.injEq,true_and];rw [show j+1+k=j+(k+1) by omega,show n+1-(k+1)=n-k by omega]
theorem qhp (l:List Act'):∀(ws:List Strew) (j:Nat) (out:List Act'),j≤l.length→
  (ws.foldlM (stepS l) (j,out)).map (fun p=>p.2++l.drop p.1)=if validS l.length j ws=true then some (out++gS l ws j (l.length+1-j)) else none
 | [],j,out,hj=>by
  rw [qiz l _ j zo];simp [validS]
 |s::ws,j,out,hj=>by
  rw [List.foldlM_cons,validS];by_cases h:okS l.length j s=true
  ·rw [show stepS l (j,out) s=some (s.at_.toNat,out++(l.drop j).take (s.at_.toNat-j)++ [sact s]) from if_pos h];have h':=h;simp only [okS,decide_eq_true_eq] at h';obtain ⟨a,ha⟩:∃a:Nat,s.at_=(a:Int):=⟨s.at_.toNat,by omega⟩
   have e:s.at_.toNat=a:=by omega
   rw [e] at *;show ((ws.foldlM (stepS l) (a,_)).map _)=_;rw [qhp l ws a _ zo,h,Bool.true_and];by_cases hv:validS l.length a ws=true
   ·rw [if_pos hv,if_pos hv];have hge:=qdi hv
    rw [ql5 (l:=l) (ws:=s::ws) (k:=a-j) (j:=j) (n:=l.length+1-j) zo zo fun i h1 h2=>qs5 fun w hw=>by
     rcases Am.1 hw with rfl|hw
     ·omega
     ·have:=hge w hw;omega]
    rw [show j+(a-j)=a by omega,show l.length+1-j-(a-j)=l.length-a+1 by omega,show l.length+1-a=l.length-a+1 by omega];rw [gS,gS,qjf ha,qg1 (ws:=s::ws) (ws':=ws) fun i hi=>qix zo];simp
   ·rw [if_neg hv,if_neg hv]
  ·rw [show stepS l (j,out) s=none from if_neg h];have h0:okS l.length j s=false:=by simpa using h
   rw [h0,Bool.false_and];rfl
def aS (l:List Act') (ws:List Strew):Nat→List Act'
 |0=> []
 |i+1=>aS l ws i++gw ws i++l[i]?.toList
theorem A_G (l:List Act') (ws:List Strew):∀(n j:Nat),aS l ws (j+n)=aS l ws j++gS l ws j n
 |0,j=>by simp [gS]
 |n+1,j=>by
  rw [show j+(n+1)=(j+1)+n by omega,A_G l ws n (j+1),aS,gS];simp
theorem qqu (l:List Act') (ws:List Strew):aS l ws (l.length+1)=gS l ws 0 (l.length+1):=by
 have:=A_G l ws (l.length+1) 0;rw [Nat.zero_add] at this;rw [this];rfl
def strewn (l:List Act') (ws:List Strew):List Act'×Bool:=if validS l.length 0 ws=true∧l.length+ws.length≤60 then (aS l ws (l.length+1),true) else ([],false)
def foldS (l:List Act') (ws:List Strew) (i:Nat):Option (Nat×List Act'):=(ws.take i).foldlM (stepS l) (0,[])
theorem qib {l:List Act'} {ws:List Strew} {i:Nat} {s:Strew} (h:ws[i]? =some s):foldS l ws (i+1)=(foldS l ws i).bind fun p=>stepS l p s:=by
 unfold foldS;rw [Af,h,Ak];show ((List.take i ws).foldlM (stepS l) (0,[])).bind _=_;congr 1;funext p;show (stepS l p s).bind _=_;cases stepS l p s<;>rfl
theorem qh3 {l:List Act'} {ws:List Strew} {i:Nat} (h:foldS l ws i=none):foldS l ws ws.length=none:=by
 unfold foldS at *;rw [Ah]
 conv=>lhs;rw [←List.take_append_drop i ws]
 rw [Ak,h];rfl
theorem qnk (l:List Act') (ws:List Strew):(foldS l ws ws.length).map (fun p=>p.2++l.drop p.1)=if validS l.length 0 ws=true then some (aS l ws (l.length+1)) else none:=by
 unfold foldS;rw [Ah,qhp l ws 0 [] zo,qqu];rfl
end Go.Proofs.YtkidnhclcbcglaaGreat.VM
namespace Go.Proofs.YtkidnhclcbcglaaGreat.VM
open Go Sy
variable {Φ:Nat→Option Callee} {N:Nat}
set_option maxRecDepth 100000
set_option maxHeartbeats 8000000
def gather (l:List Act') (a:List Ans):List Ans:=if l.length≤60∧a.length=l.length then ((l.zip a).filter fun p=>loud p.1).map (·.2) else []
end Go.Proofs.YtkidnhclcbcglaaGreat.VM
namespace Go.Proofs.YtkidnhclcbcglaaGreat.VM
theorem qgh (l:List Act'):strip (strip l)=strip l:=by
 unfold strip;by_cases h:l.length≤60
 ·rw [if_pos h,if_pos (Nat.le_trans (Ai _ _) h),List.filter_filter];congr 1;funext x;simp
 ·rw [if_neg h,if_pos (by simp)];rfl
end Go.Proofs.YtkidnhclcbcglaaGreat.VM
namespace Go.Proofs.YtkidnhclcbcglaaGreat.VM
open Go Sy
variable {Φ:Nat→Option Callee} {N:Nat}
set_option maxRecDepth 100000
set_option maxHeartbeats 8000000
theorem qa5 (x:List Int) (hx:x.length≤1048576):vaf Φ vad vhd [.sl true vam (x.map vap),.sl true vam (x.map vap)]=some ([.a (.bool true)],[]):=by
 have key:va7 Φ vad [0,1,5] vjg ⟨[(0,.sz vam (x.map vap)),(1,.sz vam (x.map vap)),(5,.a (.int .i64 (0:Nat)))],[],0⟩=some (.ext 0,⟨[(0,.sz vam (x.map vap)),(1,.sz vam (x.map vap)),(5,.a (.int .i64 (x.length:Nat))),(14,.a (.bool false))],[],400⟩):=by
  refine vc5 (m:=x.length) (fun i=>⟨[(0,.sz vam (x.map vap)),(1,.sz vam (x.map vap)),(5,.a (.int .i64 (i:Nat)))],[],0⟩) _ (vay zo) (fun i hi=> ?_) ?_
  ·obtain ⟨a,ha⟩:∃a,x[i]? =some a:=⟨_,Ac hi⟩
   have hw:=vat i zo;have hne:¬a≠a:=fun h=>h rfl;unfold round vjg;simp -implicitDefEqProofs (disch:=first|exact zd|fail) only [go_sem,Aa,Ab,ha,hw]
   (show some _=some _;kernel_rfl)
  ·unfold round vjg;simp -implicitDefEqProofs (disch:=first|exact zd|fail) only [go_sem,Aa,Ab]
 rw [vag rfl];have hne:¬(x.length:Int)≠x.length:=fun h=>h rfl;simp -implicitDefEqProofs (disch:=first|exact zd|fail) only [go_sem,Aa,Ab,vhd,vr6,vao key]
theorem vsy {d:Nat} (l:List Act') (hl:l.length≤1048576) (hk:∀x∈l,x.keep.length≤1048576):vaf (T (d+1)) vad vhb [.sl true vak (l.map va3),.sl true vak (l.map va3)]=some ([.a (.bool true)],[]):=by
 have key:va7 (T (d+1)) vad [0,1,5] vi7 ⟨[(0,.sz vak (l.map va3)),(1,.sz vak (l.map va3)),(5,.a (.int .i64 (0:Nat)))],[],0⟩=some (.ext 0,⟨[(0,.sz vak (l.map va3)),(1,.sz vak (l.map va3)),(5,.a (.int .i64 (l.length:Nat))),(16,.a (.bool false))],[],400⟩):=by
  refine vc5 (m:=l.length) (fun i=>⟨[(0,.sz vak (l.map va3)),(1,.sz vak (l.map va3)),(5,.a (.int .i64 (i:Nat)))],[],0⟩) _ (vay zo) (fun i hi=> ?_) ?_
  ·obtain ⟨x,hx⟩:∃a,l[i]? =some a:=⟨_,Ac hi⟩
   have h1:=qa5 (Φ:=T d) x.keep (hk x (Ae hx));have hw:=vat i zo;obtain ⟨xk,xa,xb,xc,xp,xq⟩:=x;have n1:¬xk≠xk:=fun h=>h rfl;have n2:¬xa≠xa:=fun h=>h rfl;have n3:¬xb≠xb:=fun h=>h rfl;have n4:¬xc≠xc:=fun h=>h rfl;have n5:¬xp≠xp:=fun h=>h rfl;unfold round vi7;simp -implicitDefEqProofs (disch:=first|exact zd|fail) only [go_sem,Aa,Ab,hx,hw,h1]
   (show some _=some _;kernel_rfl)
  ·unfold round vi7;simp -implicitDefEqProofs (disch:=first|exact zd|fail) only [go_sem,Aa,Ab]
 rw [vag rfl];have hne:¬(l.length:Int)≠l.length:=fun h=>h rfl;simp -implicitDefEqProofs (disch:=first|exact zd|fail) only [go_sem,Aa,Ab,vhb,vsb,vao key]

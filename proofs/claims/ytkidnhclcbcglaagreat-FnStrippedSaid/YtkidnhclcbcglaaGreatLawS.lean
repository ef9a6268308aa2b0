/- The laws' own functions over acts: copies, sizes, likeness. Stripped: what the program and the reference make of acts. Strewn, in plain words: acts strewn one place after the other, and act after act. No program in sight. Gathered: what the program and the reference gather of answers; and the law that compares them. Stripping and gathering what was strewn, in plain words. No program in sight. Acts and answers compared by the laws: each list is like itself. -/
import Derived.Test.YtkidnhclcbcglaaGreatLawAct0
import Derived.Test.YtkidnhclcbcglaaGreatLawW
namespace Go.Proofs.YtkidnhclcbcglaaGreat.VM
open Go Sy
variable {Φ:Nat→Option Callee} {N:Nat}
set_option maxRecDepth 100000
set_option maxHeartbeats 8000000
theorem qf8 (l:List Int):(l.map vap).map PV.cpy=l.map vap:=by rw [List.map_map];rfl
def ksum:List Act'→Nat
 | []=>0
 |x::l=>x.keep.length+ksum l
theorem vsy (l m:List Act'):ksum (l++m)=ksum l+ksum m:=by
 induction l with
 |nil=>simp [ksum]
 |cons x l ih=>simp [ksum,ih];omega
theorem vx2 (x:Act') (hl:x.keep.length≤1048576):vaf Φ N vin [cAct true x]=some ([cAct false x],[]):=by
 rw [vag rfl]
 simp (implicitDefEqProofs:=false) (disch:=first|exact zd|fail) only [go_sem,Nat.reduceAdd,Nat.reduceBEq,vin,vtg,qf8]
theorem vt1 {d:Nat} (x:Act') (hl:x.keep.length≤1048576):vaf (T (d+1)) vab vi8 [cAct true x]=some ([cAct false x],[]):=by
 rw [vag rfl]
 simp (implicitDefEqProofs:=false) (disch:=first|exact zd|fail) only [go_sem,Nat.reduceAdd,Nat.reduceBEq,vi8,vum,qf8]
theorem vs1 (k:Int):vaf Φ N vee [.a (.int .i64 k)]=some ([.a (.bool (decide (15≤k∧k≤17)))],[]):=by
 rw [vag rfl]
 by_cases h1:k=15
 ·rw [decide_eq_true zo]
  simp (implicitDefEqProofs:=false) (disch:=first|exact zd|fail) only [go_sem,Nat.reduceAdd,Nat.reduceBEq,vee,vj8]
 ·by_cases h2:k=16
  ·rw [decide_eq_true zo]
   simp (implicitDefEqProofs:=false) (disch:=first|exact zd|fail) only [go_sem,Nat.reduceAdd,Nat.reduceBEq,vee,vj8]
  ·by_cases h3:k=17
   ·rw [decide_eq_true zo]
    simp (implicitDefEqProofs:=false) (disch:=first|exact zd|fail) only [go_sem,Nat.reduceAdd,Nat.reduceBEq,vee,vj8]
   ·rw [decide_eq_false zo]
    simp (implicitDefEqProofs:=false) (disch:=first|exact zd|fail) only [go_sem,Nat.reduceAdd,Nat.reduceBEq,vee,vj8]
theorem vu9 {d:Nat} (k:Int):vaf (T (d+1)) vab vhl [.a (.int .i64 k)]=some ([.a (.bool (decide (15≤k∧k≤17)))],[]):=by
 have h:=vd1 (Φ:=T d) (N:=vab) (n:=k) (lo:=15) (hi:=17)
 generalize decide (15≤k∧k≤17)=b at *
 rw [vag rfl]
 simp (implicitDefEqProofs:=false) (disch:=first|exact zd|fail) only [go_sem,Nat.reduceAdd,Nat.reduceBEq,vhl,vso,h]
def loud (x:Act'):Bool:= !decide (15≤x.kind∧x.kind≤17)
def strip (l:List Act'):List Act':=if l.length≤60 then l.filter loud else []
def stripO (l:List Act') (i:Nat):List PV:=((l.take i).filter loud).map vau
theorem vu0 (l:List Act') (i:Nat):(stripO l i).length≤i:=by
 have:=List.length_filter_le loud (l.take i)
 rw [stripO,List.length_map]
 rw [List.length_take] at this
 omega
theorem vxx {l:List Act'} {i:Nat} {x:Act'} (h:l[i]? =some x) (hx:loud x=true):stripO l (i+1)=stripO l i++ [vau x]:=by
 unfold stripO
 rw [List.take_add_one,h,List.filter_append,List.map_append]
 simp [hx]
theorem vwm {l:List Act'} {i:Nat} {x:Act'} (h:l[i]? =some x) (hx:loud x=false):stripO l (i+1)=stripO l i:=by
 unfold stripO
 rw [List.take_add_one,h,List.filter_append,List.map_append]
 simp [hx]
theorem vzo (l:List Act'):stripO l l.length=(l.filter loud).map vau:=by rw [stripO,List.take_length]
theorem vwk {d:Nat} (l:List Act') (hl:l.length≤60) (hk:∀x∈l,x.keep.length≤1048576):
  va4 (T (d+2)) vab [3,10,11,12] vjj ⟨[(3,.rf 0),(10,.sz vaj (l.map vau)),(11,.a (.int .i64 l.length)),(12,.a (.int .i64 0))],[(0,some (.sl false 0 vaj []))],1⟩=
  some (.ext 0,⟨[(3,.rf 0),(10,.sz vaj (l.map vau)),(11,.a (.int .i64 l.length)),(12,.a (.int .i64 l.length)),(13,.a (.bool false))],[(0,some (.sl false 0 vaj ((l.filter loud).map vau)))],101⟩):=by
 rw [←vzo]
 refine vcc (fun i=>⟨[(3,.rf 0),(10,.sz vaj (l.map vau)),(11,.a (.int .i64 l.length)),(12,.a (.int .i64 (i:Nat)))],[(0,some (.sl false 0 vaj (stripO l i)))],1⟩) _ (m:=l.length) (vaw zo) (fun i hi=> ?_) ?_
 ·obtain ⟨x,hx⟩:∃a,l[i]? =some a:=⟨_,List.getElem?_eq_getElem hi⟩
  have hc:=vt1 (d:=d) x (hk x (List.mem_of_getElem? hx))
  have he:=vs1 (Φ:=T (d+1)) (N:=vab) x.kind
  have hO:=vu0 l i
  have hw:=var i zo
  unfold round vjj
  cases hq:loud x
  ·rw [vwm hx hq]
   rw [show decide (15≤x.kind∧x.kind≤17)=true from by rw [loud,Bool.not_eq_false'] at hq;exact hq] at he
   simp (implicitDefEqProofs:=false) (disch:=first|exact zd|fail) only [go_sem,Nat.reduceAdd,Nat.reduceBEq,hx,hc,he,hw]
   (show some _=some _;kernel_rfl)
  ·rw [vxx hx hq,vrf]
   rw [show decide (15≤x.kind∧x.kind≤17)=false from by rw [loud,Bool.not_eq_true'] at hq;exact hq] at he
   generalize stripO l i=O at *
   simp (implicitDefEqProofs:=false) (disch:=first|exact zd|fail) only [go_sem,Nat.reduceAdd,Nat.reduceBEq,hx,hc,he,hw]
   (show some _=some _;kernel_rfl)
 ·unfold round vjj
  simp (implicitDefEqProofs:=false) (disch:=first|exact zd|fail) only [go_sem,Nat.reduceAdd,Nat.reduceBEq]
theorem vv3 {d:Nat} (l:List Act') (hl:l.length≤60) (hk:∀x∈l,x.keep.length≤1048576):
  va4 (T (d+2)) vab [0,3,4] vfi ⟨[(0,.sz vaj (l.map vau)),(3,.rf 0),(4,.a (.int .i64 0))],[(0,some (.sl false 0 vaj []))],1⟩=
  some (.ext 0,⟨[(0,.sz vaj (l.map vau)),(3,.rf 0),(4,.a (.int .i64 l.length)),(14,.a (.bool false))],[(0,some (.sl false 0 vaj ((l.filter loud).map vau)))],901⟩):=by
 rw [←vzo]
 refine vcc (fun i=>⟨[(0,.sz vaj (l.map vau)),(3,.rf 0),(4,.a (.int .i64 (i:Nat)))],[(0,some (.sl false 0 vaj (stripO l i)))],1⟩) _ (m:=l.length) (vaw zo) (fun i hi=> ?_) ?_
 ·obtain ⟨x,hx⟩:∃a,l[i]? =some a:=⟨_,List.getElem?_eq_getElem hi⟩
  have hc:=vx2 (Φ:=T (d+1)) (N:=vab) x (hk x (List.mem_of_getElem? hx))
  have he:=vu9 (d:=d) x.kind
  have hO:=vu0 l i
  have hw:=var i zo
  unfold round vfi
  cases hq:loud x
  ·rw [vwm hx hq]
   rw [show decide (15≤x.kind∧x.kind≤17)=true from by rw [loud,Bool.not_eq_false'] at hq;exact hq] at he
   simp (implicitDefEqProofs:=false) (disch:=first|exact zd|fail) only [go_sem,Nat.reduceAdd,Nat.reduceBEq,hx,hc,he,hw]
   (show some _=some _;kernel_rfl)
  ·rw [vxx hx hq,vrf]
   rw [show decide (15≤x.kind∧x.kind≤17)=false from by rw [loud,Bool.not_eq_true'] at hq;exact hq] at he
   generalize stripO l i=O at *
   simp (implicitDefEqProofs:=false) (disch:=first|exact zd|fail) only [go_sem,Nat.reduceAdd,Nat.reduceBEq,hx,hc,he,hw]
   (show some _=some _;kernel_rfl)
 ·unfold round vfi
  simp (implicitDefEqProofs:=false) (disch:=first|exact zd|fail) only [go_sem,Nat.reduceAdd,Nat.reduceBEq]
theorem vq3 {d:Nat} (l:List Act') (h63:l.length≤1048576) (hk:∀x∈l,x.keep.length≤1048576):vaf (T (d+2)) vab vfp [.sl true vaj (l.map vau)]=some ([.sl false vaj ((strip l).map vau)],[]):=by
 rw [vag rfl]
 unfold strip
 by_cases hl:l.length≤60
 ·have key:=vwk (d:=d) l hl hk
  rw [if_pos hl]
  simp (implicitDefEqProofs:=false) (disch:=first|exact zd|fail) only [go_sem,Nat.reduceAdd,Nat.reduceBEq,vfp,voh,van key]
 ·rw [if_neg hl]
  simp (implicitDefEqProofs:=false) (disch:=first|exact zd|fail) only [go_sem,Nat.reduceAdd,Nat.reduceBEq,vfp,voh]
theorem vxa {d:Nat} (l:List Act') (h63:l.length≤1048576) (hk:∀x∈l,x.keep.length≤1048576):vaf (T (d+2)) vab vfu [.sl true vaj (l.map vau)]=some ([.sl false vaj ((strip l).map vau)],[]):=by
 rw [vag rfl]
 unfold strip
 by_cases hl:l.length≤60
 ·have key:=vv3 (d:=d) l hl hk
  rw [if_pos hl]
  simp (implicitDefEqProofs:=false) (disch:=first|exact zd|fail) only [go_sem,Nat.reduceAdd,Nat.reduceBEq,vfu,vn1,van key]
 ·rw [if_neg hl]
  have key:va4 (T (d+2)) vab [0,3,4] vfi ⟨[(0,.sz vaj (l.map vau)),(3,.rf 0),(4,.a (.int .i64 0))],[(0,some (.sl false 0 vaj []))],1⟩=
   some (.ext 0,⟨[(0,.sz vaj (l.map vau)),(3,.rf 0),(4,.a (.int .i64 0)),(14,.a (.bool false))],[(0,some (.sl false 0 vaj []))],901⟩):=by
   refine ve1 (fun _=>⟨[(0,.sz vaj (l.map vau)),(3,.rf 0),(4,.a (.int .i64 0))],[(0,some (.sl false 0 vaj []))],1⟩) _ (fun _=>True) (m:=1) (vaw zo) trivial (by simp) (fun i _ _=> .inr ?_)
   unfold round vfi
   simp (implicitDefEqProofs:=false) (disch:=first|exact zd|fail) only [go_sem,Nat.reduceAdd,Nat.reduceBEq]
  simp (implicitDefEqProofs:=false) (disch:=first|exact zd|fail) only [go_sem,Nat.reduceAdd,Nat.reduceBEq,vfu,vn1,van key]
end Go.Proofs.YtkidnhclcbcglaaGreat.VM
namespace Go.Proofs.YtkidnhclcbcglaaGreat.VM
def sact (s:Strew):Act':=⟨s.kind,s.a,0,0,-1,[]⟩
def okS (n j:Nat) (s:Strew):Bool:=decide ((j:Int)≤s.at_∧s.at_≤n∧15≤s.kind∧s.kind≤17)
def validS (n:Nat):Nat→List Strew→Bool
 |_,[]=>true
 |j,s::ws=>okS n j s&&validS n s.at_.toNat ws
def gw (ws:List Strew) (i:Nat):List Act':=(ws.filter fun s=>decide (s.at_=(i:Int))).map sact
def gS (l:List Act') (ws:List Strew):Nat→Nat→List Act'
 |_,0=> []
 |i,n+1=>gw ws i++l[i]?.toList++gS l ws (i+1) n
def stepS (l:List Act') (p:Nat×List Act') (s:Strew):Option (Nat×List Act'):=
 if okS l.length p.1 s=true then some (s.at_.toNat,p.2++(l.drop p.1).take (s.at_.toNat-p.1)++ [sact s]) else none
theorem qfg {α:Type} (l:List α) (j:Nat):l.drop j=l[j]?.toList++l.drop (j+1):=by
 by_cases h:j<l.length
 ·rw [List.drop_eq_getElem_cons h,List.getElem?_eq_getElem h];rfl
 ·rw [List.drop_eq_nil_of_le zo,List.getElem?_eq_none zo,List.drop_eq_nil_of_le zo];rfl
theorem qrs (l:List Act'):∀(n j:Nat),j+n=l.length+1→gS l [] j n=l.drop j
 |0,j,h=>by rw [gS,List.drop_eq_nil_of_le zo]
 |n+1,j,h=>by rw [gS,qrs l n (j+1) zo,qfg l j];rfl
theorem qeq {n:Nat}:∀{ws:List Strew} {j:Nat},validS n j ws=true→∀s∈ws,(j:Int)≤s.at_
 | [],_,_,_,h=>by cases h
 |w::ws,j,h,s,hs=>by
  simp only [validS,okS,Bool.and_eq_true,decide_eq_true_eq] at h
  rcases List.mem_cons.1 hs with rfl|hs
  ·exact h.1.1
  ·have:=qeq h.2 s hs
   omega
theorem qti {ws:List Strew} {i:Nat} (h:∀s∈ws,s.at_≠(i:Int)):gw ws i= []:=by
 unfold gw
 rw [List.filter_eq_nil_iff.2 (fun s hs=>by simpa using h s hs)]
 rfl
theorem vz2 {s:Strew} {ws:List Strew} {i:Nat} (h:s.at_≠(i:Int)):gw (s::ws) i=gw ws i:=by
 unfold gw
 rw [List.filter_cons_of_neg (by simpa using h)]
theorem qay {s:Strew} {ws:List Strew} {i:Nat} (h:s.at_=(i:Int)):gw (s::ws) i=sact s::gw ws i:=by
 unfold gw
 rw [List.filter_cons_of_pos (by simpa using h)];rfl
theorem qiy {l:List Act'} {ws ws':List Strew}:∀{n j:Nat},(∀i,j≤i→gw ws i=gw ws' i)→gS l ws j n=gS l ws' j n
 |0,_,_=>rfl
 |n+1,j,h=>by rw [gS,gS,h j (Nat.le_refl _),qiy fun i hi=>h i zo]
theorem qod {l:List Act'} {ws:List Strew}:∀{k j n:Nat},k≤n→j+k≤l.length→(∀i,j≤i→i<j+k→gw ws i= [])→gS l ws j n=(l.drop j).take k++gS l ws (j+k) (n-k)
 |0,j,n,_,_,_=>by simp
 |k+1,j,n,hk,hj,h=>by
  obtain ⟨n,rfl⟩:∃n',n=n'+1:=⟨n-1,by omega⟩
  rw [gS,h j (Nat.le_refl _) zo,qod (k:=k) (j:=j+1) (n:=n) zo zo fun i h1 h2=>h i zo zo]
  rw [List.drop_eq_getElem_cons (show j<l.length by omega),List.getElem?_eq_getElem (show j<l.length by omega)]
  simp only [Option.toList_some,List.take_succ_cons,List.nil_append,List.cons_append,List.cons.injEq,true_and]
  rw [show j+1+k=j+(k+1) by omega,show n+1-(k+1)=n-k by omega]
theorem qik (l:List Act'):∀(ws:List Strew) (j:Nat) (out:List Act'),j≤l.length→
  (ws.foldlM (stepS l) (j,out)).map (fun p=>p.2++l.drop p.1)=if validS l.length j ws=true then some (out++gS l ws j (l.length+1-j)) else none
 | [],j,out,hj=>by
  rw [qrs l _ j zo];simp [validS]
 |s::ws,j,out,hj=>by
  rw [List.foldlM_cons,validS]
  by_cases h:okS l.length j s=true
  ·rw [show stepS l (j,out) s=some (s.at_.toNat,out++(l.drop j).take (s.at_.toNat-j)++ [sact s]) from if_pos h]
   have h':=h
   simp only [okS,decide_eq_true_eq] at h'
   obtain ⟨a,ha⟩:∃a:Nat,s.at_=(a:Int):=⟨s.at_.toNat,by omega⟩
   have e:s.at_.toNat=a:=by omega
   rw [e] at *
   show ((ws.foldlM (stepS l) (a,_)).map _)=_
   rw [qik l ws a _ zo,h,Bool.true_and]
   by_cases hv:validS l.length a ws=true
   ·rw [if_pos hv,if_pos hv]
    have hge:=qeq hv
    rw [qod (l:=l) (ws:=s::ws) (k:=a-j) (j:=j) (n:=l.length+1-j) zo zo fun i h1 h2=>qti fun w hw=>by
     rcases List.mem_cons.1 hw with rfl|hw
     ·omega
     ·have:=hge w hw;omega]
    rw [show j+(a-j)=a by omega,show l.length+1-j-(a-j)=l.length-a+1 by omega,show l.length+1-a=l.length-a+1 by omega]
    rw [gS,gS,qay ha,qiy (ws:=s::ws) (ws':=ws) fun i hi=>vz2 zo]
    simp
   ·rw [if_neg hv,if_neg hv]
  ·rw [show stepS l (j,out) s=none from if_neg h]
   have h0:okS l.length j s=false:=by simpa using h
   rw [h0,Bool.false_and]
   rfl
def aS (l:List Act') (ws:List Strew):Nat→List Act'
 |0=> []
 |i+1=>aS l ws i++gw ws i++l[i]?.toList
theorem A_G (l:List Act') (ws:List Strew):∀(n j:Nat),aS l ws (j+n)=aS l ws j++gS l ws j n
 |0,j=>by simp [gS]
 |n+1,j=>by
  rw [show j+(n+1)=(j+1)+n by omega,A_G l ws n (j+1),aS,gS]
  simp
theorem qrq (l:List Act') (ws:List Strew):aS l ws (l.length+1)=gS l ws 0 (l.length+1):=by
 have:=A_G l ws (l.length+1) 0
 rw [Nat.zero_add] at this
 rw [this];rfl
def strewn (l:List Act') (ws:List Strew):List Act'×Bool:=if validS l.length 0 ws=true∧l.length+ws.length≤60 then (aS l ws (l.length+1),true) else ([],false)
def prevS (j:Nat) (ws:List Strew):Nat→Nat
 |0=>j
 |i+1=>((ws[i]?).map fun s=>s.at_.toNat).getD j
theorem vwj (n:Nat):∀(ws:List Strew) (j:Nat),validS n j ws=true↔∀i s,ws[i]? =some s→okS n (prevS j ws i) s=true
 | [],j=>by simp [validS]
 |w::ws,j=>by
  rw [validS,Bool.and_eq_true,vwj n ws w.at_.toNat]
  constructor
  ·rintro ⟨h1,h2⟩ i s hs
   cases i with
   |zero=>cases hs;exact h1
   |succ i=>
    rw [List.getElem?_cons_succ] at hs
    have:=h2 i s hs
    cases i with
    |zero=>exact this
    |succ i=>
     have hi:i<ws.length:=by have:=(List.getElem?_eq_some_iff.1 hs).1;omega
     simp only [prevS,List.getElem?_cons_succ,List.getElem?_eq_getElem hi,Option.map_some,Option.getD_some] at this⊢
     exact this
  ·intro h
   refine ⟨h 0 w rfl,fun i s hs=> ?_⟩
   have:=h (i+1) s (by rw [List.getElem?_cons_succ];exact hs)
   cases i with
   |zero=>exact this
   |succ i=>
    have hi:i<ws.length:=by have:=(List.getElem?_eq_some_iff.1 hs).1;omega
    simp only [prevS,List.getElem?_cons_succ,List.getElem?_eq_getElem hi,Option.map_some,Option.getD_some] at this⊢
    exact this
def foldS (l:List Act') (ws:List Strew) (i:Nat):Option (Nat×List Act'):=(ws.take i).foldlM (stepS l) (0,[])
theorem qjg {l:List Act'} {ws:List Strew} {i:Nat} {s:Strew} (h:ws[i]? =some s):foldS l ws (i+1)=(foldS l ws i).bind fun p=>stepS l p s:=by
 unfold foldS
 rw [List.take_add_one,h,List.foldlM_append]
 show ((List.take i ws).foldlM (stepS l) (0,[])).bind _=_
 congr 1
 funext p
 show (stepS l p s).bind _=_
 cases stepS l p s<;>rfl
theorem qkq {l:List Act'} {ws:List Strew} {i:Nat} (h:foldS l ws i=none):foldS l ws ws.length=none:=by
 unfold foldS at *
 rw [List.take_length]
 conv=>lhs;rw [←List.take_append_drop i ws]
 rw [List.foldlM_append,h]
 rfl
theorem qof (l:List Act') (ws:List Strew):(foldS l ws ws.length).map (fun p=>p.2++l.drop p.1)=if validS l.length 0 ws=true then some (aS l ws (l.length+1)) else none:=by
 unfold foldS
 rw [List.take_length,qik l ws 0 [] zo,qrq]
 rfl
end Go.Proofs.YtkidnhclcbcglaaGreat.VM
namespace Go.Proofs.YtkidnhclcbcglaaGreat.VM
open Go Sy
variable {Φ:Nat→Option Callee} {N:Nat}
set_option maxRecDepth 100000
set_option maxHeartbeats 8000000
def gather (l:List Act') (a:List Ans):List Ans:=if l.length≤60∧a.length=l.length then ((l.zip a).filter fun p=>loud p.1).map (·.2) else []
def gatO (l:List Act') (a:List Ans) (i:Nat):List PV:=(((l.zip a).take i).filter fun p=>loud p.1).map fun p=>eAns p.2
theorem vx5 (l:List Act') (a:List Ans) (i:Nat):(gatO l a i).length≤i:=by
 have:=List.length_filter_le (fun p:Act'×Ans=>loud p.1) ((l.zip a).take i)
 rw [gatO,List.length_map]
 rw [List.length_take] at this
 omega
theorem vvg {l:List Act'} {a:List Ans} {i:Nat} {x:Act'} {y:Ans} (h:l[i]? =some x) (h2:a[i]? =some y) (hx:loud x=true):gatO l a (i+1)=gatO l a i++ [eAns y]:=by
 have hz:(l.zip a)[i]? =some (x,y):=by simp [List.getElem?_zip_eq_some,h,h2]
 unfold gatO
 rw [List.take_add_one,hz,List.filter_append,List.map_append]
 simp [hx]
theorem qao {l:List Act'} {a:List Ans} {i:Nat} {x:Act'} {y:Ans} (h:l[i]? =some x) (h2:a[i]? =some y) (hx:loud x=false):gatO l a (i+1)=gatO l a i:=by
 have hz:(l.zip a)[i]? =some (x,y):=by simp [List.getElem?_zip_eq_some,h,h2]
 unfold gatO
 rw [List.take_add_one,hz,List.filter_append,List.map_append]
 simp [hx]
theorem qft {l:List Act'} {a:List Ans} (h:a.length=l.length):gatO l a l.length=(((l.zip a).filter fun p=>loud p.1).map (·.2)).map eAns:=by
 rw [gatO,List.take_of_length_le (by simp;omega),List.map_map];rfl
theorem vvb {d:Nat} (l:List Act') (a:List Ans) (hl:l.length≤60) (ha:a.length=l.length):
  va4 (T (d+1)) vab [1,5,19,20,21] vjl ⟨[(1,.sz vb6 (a.map eAns)),(5,.rf 0),(19,.sz vaj (l.map vau)),(20,.a (.int .i64 l.length)),(21,.a (.int .i64 0))],[(0,some (.sl false 0 vb6 []))],1⟩=
  some (.ext 0,⟨[(1,.sz vb6 (a.map eAns)),(5,.rf 0),(19,.sz vaj (l.map vau)),(20,.a (.int .i64 l.length)),(21,.a (.int .i64 l.length)),(22,.a (.bool false))],[(0,some (.sl false 0 vb6 (gatO l a l.length)))],101⟩):=by
 refine vcc (fun i=>⟨[(1,.sz vb6 (a.map eAns)),(5,.rf 0),(19,.sz vaj (l.map vau)),(20,.a (.int .i64 l.length)),(21,.a (.int .i64 (i:Nat)))],[(0,some (.sl false 0 vb6 (gatO l a i)))],1⟩) _ (m:=l.length) (vaw zo) (fun i hi=> ?_) ?_
 ·obtain ⟨x,hx⟩:∃a,l[i]? =some a:=⟨_,List.getElem?_eq_getElem hi⟩
  obtain ⟨y,hy⟩:∃y,a[i]? =some y:=⟨_,List.getElem?_eq_getElem zo⟩
  have he:=vs1 (Φ:=T d) (N:=vab) x.kind
  have hO:=vx5 l a i
  have hw:=var i zo
  unfold round vjl
  cases hq:loud x
  ·rw [qao hx hy hq]
   rw [show decide (15≤x.kind∧x.kind≤17)=true from by rw [loud,Bool.not_eq_false'] at hq;exact hq] at he
   simp (implicitDefEqProofs:=false) (disch:=first|exact zd|fail) only [go_sem,Nat.reduceAdd,Nat.reduceBEq,hx,hy,he,hw]
   (show some _=some _;kernel_rfl)
  ·rw [vvg hx hy hq,qio]
   rw [show decide (15≤x.kind∧x.kind≤17)=false from by rw [loud,Bool.not_eq_true'] at hq;exact hq] at he
   generalize gatO l a i=O at *
   simp (implicitDefEqProofs:=false) (disch:=first|exact zd|fail) only [go_sem,Nat.reduceAdd,Nat.reduceBEq,hx,hy,he,hw]
   (show some _=some _;kernel_rfl)
 ·unfold round vjl
  simp (implicitDefEqProofs:=false) (disch:=first|exact zd|fail) only [go_sem,Nat.reduceAdd,Nat.reduceBEq]
theorem vxj {d:Nat} (l:List Act') (a:List Ans) (h1:l.length≤1048576) (h2:a.length≤1048576):vaf (T (d+1)) vab vev [.sl true vaj (l.map vau),.sl true vb6 (a.map eAns)]=some ([.sl false vb6 ((gather l a).map eAns)],[]):=by
 rw [vag rfl]
 unfold gather
 by_cases hl:l.length≤60
 ·by_cases ha:a.length=l.length
  ·have key:=vvb (d:=d) l a hl ha
   rw [if_pos ⟨hl,ha⟩]
   rw [qft ha] at key
   simp (implicitDefEqProofs:=false) (disch:=first|exact zd|fail) only [go_sem,Nat.reduceAdd,Nat.reduceBEq,vev,vkx,van key]
  ·rw [if_neg (fun h=>ha h.2)]
   simp (implicitDefEqProofs:=false) (disch:=first|exact zd|fail) only [go_sem,Nat.reduceAdd,Nat.reduceBEq,vev,vkx]
 ·rw [if_neg (fun h=>hl h.1)]
  simp (implicitDefEqProofs:=false) (disch:=first|exact zd|fail) only [go_sem,Nat.reduceAdd,Nat.reduceBEq,vev,vkx]
end Go.Proofs.YtkidnhclcbcglaaGreat.VM
namespace Go.Proofs.YtkidnhclcbcglaaGreat.VM
theorem qe0 {n:Nat}:∀{ws:List Strew} {j:Nat},validS n j ws=true→∀s∈ws,0≤s.at_∧s.at_≤n∧15≤s.kind∧s.kind≤17
 | [],_,_,s,hs=>by cases hs
 |w::ws,j,h,s,hs=>by
  simp only [validS,Bool.and_eq_true] at h
  obtain ⟨h1,h2⟩:=h
  unfold okS at h1
  rw [decide_eq_true_eq] at h1
  rcases List.mem_cons.1 hs with rfl|hs
  ·exact ⟨by omega,h1.2.1,h1.2.2.1,h1.2.2.2⟩
  ·exact qe0 h2 s hs
theorem qpo {ws:List Strew} (h:∀s∈ws,15≤s.kind∧s.kind≤17) (i:Nat):(gw ws i).filter loud= []:=by
 rw [List.filter_eq_nil_iff]
 intro x hx
 unfold gw at hx
 obtain ⟨s,hs,rfl⟩:=List.mem_map.1 hx
 have:=h s ((List.mem_filter.1 hs).1)
 unfold loud sact
 simp [this]
theorem qhu {l:List Act'} {ws:List Strew} (h:∀s∈ws,15≤s.kind∧s.kind≤17):∀i,(aS l ws i).filter loud=(l.take i).filter loud
 |0=>by simp [aS]
 |i+1=>by
  rw [aS,List.filter_append,List.filter_append,qhu h i,qpo h,List.append_nil,List.take_add_one,List.filter_append]
def cntS (ws:List Strew):Nat→Nat
 |0=>0
 |i+1=>cntS ws i+(gw ws i).length
theorem qgl:∀n,cntS [] n=0
 |0=>rfl
 |n+1=>by rw [cntS,qgl n];rfl
theorem qdo (s:Strew) (ws:List Strew) (h0:0≤s.at_):∀n,cntS (s::ws) n=cntS ws n+(if s.at_<n then 1 else 0)
 |0=>by rw [cntS,cntS,if_neg zo]
 |n+1=>by
  rw [cntS,cntS,qdo s ws h0 n]
  by_cases h:s.at_=(n:Int)
  ·rw [qay h,List.length_cons,if_neg zo,if_pos zo]
   omega
  ·rw [vz2 h]
   by_cases h2:s.at_<n
   ·rw [if_pos h2,if_pos zo];omega
   ·rw [if_neg h2,if_neg zo];omega
theorem qfh:∀(ws:List Strew) (n:Nat),(∀s∈ws,0≤s.at_∧s.at_<n)→cntS ws n=ws.length
 | [],n,_=>qgl n
 |s::ws,n,h=>by
  have hs:=h s (by simp)
  rw [qdo s ws hs.1,if_pos hs.2,qfh ws n (fun x hx=>h x (by simp [hx]))]
  rfl
theorem qnt (l:List Act') (ws:List Strew):∀i,(aS l ws i).length=cntS ws i+(l.take i).length
 |0=>by simp [aS,cntS]
 |i+1=>by
  rw [aS,List.length_append,List.length_append,qnt l ws i,cntS,List.take_add_one,List.length_append]
  omega
theorem qdl {l:List Act'} {ws:List Strew} (h:(strewn l ws).2=true):(strewn l ws).1.length=l.length+ws.length∧l.length+ws.length≤60∧(strewn l ws).1.filter loud=l.filter loud:=by
 unfold strewn at h⊢
 split at h
 ·rename_i hc
  rw [if_pos hc]
  have hv:=qe0 hc.1
  have h1:=qnt l ws (l.length+1)
  rw [qfh ws (l.length+1) (fun s hs=>by have:=hv s hs;omega),List.take_of_length_le zo] at h1
  have h2:=qhu (l:=l) (fun s hs=>(hv s hs).2.2) (l.length+1)
  rw [List.take_of_length_le zo] at h2
  exact ⟨by show (aS l ws (l.length+1)).length=_;omega,hc.2,h2⟩
 ·cases h
theorem qe5 {l:List Act'} {ws:List Strew} (h:(strewn l ws).2=true):strip (strewn l ws).1=strip l:=by
 obtain ⟨h1,h2,h3⟩:=qdl h
 unfold strip
 rw [if_pos zo,if_pos zo,h3]
theorem qhq (l:List Act'):strip (strip l)=strip l:=by
 unfold strip
 by_cases h:l.length≤60
 ·rw [if_pos h,if_pos (Nat.le_trans (List.length_filter_le _ _) h),List.filter_filter]
  congr 1
  funext x
  simp
 ·rw [if_neg h,if_pos (by simp)]
  rfl
end Go.Proofs.YtkidnhclcbcglaaGreat.VM
namespace Go.Proofs.YtkidnhclcbcglaaGreat.VM
open Go Sy
variable {Φ:Nat→Option Callee} {N:Nat}
set_option maxRecDepth 100000
set_option maxHeartbeats 8000000
theorem qb4 (x:List Int) (hx:x.length≤1048576):vaf Φ vab vhm [.sl true vam (x.map vap),.sl true vam (x.map vap)]=some ([.a (.bool true)],[]):=by
 have key:va4 Φ vab [0,1,5] vjn ⟨[(0,.sz vam (x.map vap)),(1,.sz vam (x.map vap)),(5,.a (.int .i64 (0:Nat)))],[],0⟩=some (.ext 0,⟨[(0,.sz vam (x.map vap)),(1,.sz vam (x.map vap)),(5,.a (.int .i64 (x.length:Nat))),(14,.a (.bool false))],[],400⟩):=by
  refine vcc (m:=x.length) (fun i=>⟨[(0,.sz vam (x.map vap)),(1,.sz vam (x.map vap)),(5,.a (.int .i64 (i:Nat)))],[],0⟩) _ (vaw zo) (fun i hi=> ?_) ?_
  ·obtain ⟨a,ha⟩:∃a,x[i]? =some a:=⟨_,List.getElem?_eq_getElem hi⟩
   have hw:=var i zo
   have hne:¬a≠a:=fun h=>h rfl
   unfold round vjn
   simp (implicitDefEqProofs:=false) (disch:=first|exact zd|fail) only [go_sem,Nat.reduceAdd,Nat.reduceBEq,ha,hw]
   (show some _=some _;kernel_rfl)
  ·unfold round vjn
   simp (implicitDefEqProofs:=false) (disch:=first|exact zd|fail) only [go_sem,Nat.reduceAdd,Nat.reduceBEq]
 rw [vag rfl]
 have hne:¬(x.length:Int)≠x.length:=fun h=>h rfl
 simp (implicitDefEqProofs:=false) (disch:=first|exact zd|fail) only [go_sem,Nat.reduceAdd,Nat.reduceBEq,vhm,vsm,van key]
theorem vtp {d:Nat} (l:List Act') (hl:l.length≤1048576) (hk:∀x∈l,x.keep.length≤1048576):vaf (T (d+1)) vab vho [.sl true vaj (l.map vau),.sl true vaj (l.map vau)]=some ([.a (.bool true)],[]):=by
 have key:va4 (T (d+1)) vab [0,1,5] vjf ⟨[(0,.sz vaj (l.map vau)),(1,.sz vaj (l.map vau)),(5,.a (.int .i64 (0:Nat)))],[],0⟩=some (.ext 0,⟨[(0,.sz vaj (l.map vau)),(1,.sz vaj (l.map vau)),(5,.a (.int .i64 (l.length:Nat))),(16,.a (.bool false))],[],400⟩):=by
  refine vcc (m:=l.length) (fun i=>⟨[(0,.sz vaj (l.map vau)),(1,.sz vaj (l.map vau)),(5,.a (.int .i64 (i:Nat)))],[],0⟩) _ (vaw zo) (fun i hi=> ?_) ?_
  ·obtain ⟨x,hx⟩:∃a,l[i]? =some a:=⟨_,List.getElem?_eq_getElem hi⟩
   have h1:=qb4 (Φ:=T d) x.keep (hk x (List.mem_of_getElem? hx))
   have hw:=var i zo
   obtain ⟨xk,xa,xb,xc,xp,xq⟩:=x
   have n1:¬xk≠xk:=fun h=>h rfl
   have n2:¬xa≠xa:=fun h=>h rfl
   have n3:¬xb≠xb:=fun h=>h rfl
   have n4:¬xc≠xc:=fun h=>h rfl
   have n5:¬xp≠xp:=fun h=>h rfl
   unfold round vjf
   simp (implicitDefEqProofs:=false) (disch:=first|exact zd|fail) only [go_sem,Nat.reduceAdd,Nat.reduceBEq,hx,hw,h1]
   (show some _=some _;kernel_rfl)
  ·unfold round vjf
   simp (implicitDefEqProofs:=false) (disch:=first|exact zd|fail) only [go_sem,Nat.reduceAdd,Nat.reduceBEq]
 rw [vag rfl]
 have hne:¬(l.length:Int)≠l.length:=fun h=>h rfl
 simp (implicitDefEqProofs:=false) (disch:=first|exact zd|fail) only [go_sem,Nat.reduceAdd,Nat.reduceBEq,vho,vst,van key]
theorem vxo (l:List Ans) (hl:l.length≤1048576):vaf Φ vab vfc [.sl true vb6 (l.map eAns),.sl true vb6 (l.map eAns)]=some ([.a (.bool true)],[]):=by
 have key:va4 Φ vab [0,1,5] vhi ⟨[(0,.sz vb6 (l.map eAns)),(1,.sz vb6 (l.map eAns)),(5,.a (.int .i64 (0:Nat)))],[],0⟩=some (.ext 0,⟨[(0,.sz vb6 (l.map eAns)),(1,.sz vb6 (l.map eAns)),(5,.a (.int .i64 (l.length:Nat))),(14,.a (.bool false))],[],400⟩):=by
  refine vcc (m:=l.length) (fun i=>⟨[(0,.sz vb6 (l.map eAns)),(1,.sz vb6 (l.map eAns)),(5,.a (.int .i64 (i:Nat)))],[],0⟩) _ (vaw zo) (fun i hi=> ?_) ?_
  ·obtain ⟨x,hx⟩:∃a,l[i]? =some a:=⟨_,List.getElem?_eq_getElem hi⟩
   have hw:=var i zo
   obtain ⟨a,b⟩:=x
   have q1:decide (a=a)=true:=decide_eq_true rfl
   have q2:decide (b=b)=true:=decide_eq_true rfl
   unfold round vhi
   simp (implicitDefEqProofs:=false) (disch:=first|exact zd|fail) only [go_sem,Nat.reduceAdd,Nat.reduceBEq,hx,hw,q1,q2,Bool.and_self,Bool.not_true,if_true]
   (show some _=some _;kernel_rfl)
  ·unfold round vhi
   simp (implicitDefEqProofs:=false) (disch:=first|exact zd|fail) only [go_sem,Nat.reduceAdd,Nat.reduceBEq]
 rw [vag rfl]
 have hne:¬(l.length:Int)≠l.length:=fun h=>h rfl
 simp (implicitDefEqProofs:=false) (disch:=first|exact zd|fail) only [go_sem,Nat.reduceAdd,Nat.reduceBEq,vfc,vp5,van key]
end Go.Proofs.YtkidnhclcbcglaaGreat.VM


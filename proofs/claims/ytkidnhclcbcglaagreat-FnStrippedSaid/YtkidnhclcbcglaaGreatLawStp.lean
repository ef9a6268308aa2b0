/- The law: stripping removes what was strewn. -/
import Derived.Test.YtkidnhclcbcglaaGreatLawS
import Derived.Test.YtkidnhclcbcglaaGreatLawN
import Derived.Test.YtkidnhclcbcglaaGreatLawZ
namespace Go.Proofs.YtkidnhclcbcglaaGreat.VM
open Go Sy
variable {Φ:Nat→Option Callee} {N:Nat}
set_option maxRecDepth 100000
set_option maxHeartbeats 8000000
theorem zex (l:List Act'):(l.map vau).map PV.thaw=l.map vau:=by
 rw [List.map_map];apply List.map_congr_left;intro x _;rfl
theorem zae (l:List Strew):(l.map vcv).map PV.thaw=l.map vcv:=by rw [List.map_map];rfl
attribute [go_sem] zex zae
def ansK (i:Nat) (x:Act'):Ans:=⟨x.kind,i⟩
def ansN (m:List Act'):List Ans:=m.mapIdx ansK
theorem qq6 {m:List Act'} {i:Nat} {x:Act'} (h:m[i]? =some x):(ansN m)[i]? =some ⟨x.kind,i⟩:=by
 unfold ansN;rw [List.getElem?_mapIdx,h];rfl
theorem vsg (m:List Act'):(ansN m).length=m.length:=by unfold ansN;simp
abbrev nSt (l m:List Act') (ws:List Strew) (A B:List PV):vb5:= [(0,some (.sl true 0 vaj (l.map vau))),(1,some (.sl true 0 vbu (ws.map vcv))),(2,some (.sl false 0 vaj (m.map vau))),(3,some (.sl false 0 vb6 A)),(4,some (.sl false 0 vb6 B))]
theorem qhc (l m:List Act') (ws:List Strew) (hm:m.length≤1000):va4 Φ vab [3,4,5,9,10,11] vec ⟨[(3,.rf 0),(4,.rf 1),(5,.rf 2),(9,.rf 3),(10,.rf 4),(11,.a (.int .i64 (0:Nat)))],nSt l m ws (((ansN m).take 0).map eAns) (gatO m (ansN m) 0),5⟩=
  some (.ext 0,⟨[(3,.rf 0),(4,.rf 1),(5,.rf 2),(9,.rf 3),(10,.rf 4),(11,.a (.int .i64 (m.length:Nat))),(58,.a (.bool false))],nSt l m ws (((ansN m).take m.length).map eAns) (gatO m (ansN m) m.length),405⟩):=by
 refine vcc (m:=m.length) (fun i=>⟨[(3,.rf 0),(4,.rf 1),(5,.rf 2),(9,.rf 3),(10,.rf 4),(11,.a (.int .i64 (i:Nat)))],nSt l m ws (((ansN m).take i).map eAns) (gatO m (ansN m) i),5⟩) _ (vaw zo) (fun i hi=> ?_) ?_
 ·obtain ⟨x,hx⟩:∃x,m[i]? =some x:=⟨_,List.getElem?_eq_getElem hi⟩
  have ha:=qq6 hx
  have hw:=var i zo
  have hlt:(i:Int)<m.length:=by omega
  have hgl:=vx5 m (ansN m) i
  have hal:(((ansN m).take i).map eAns).length≤1000:=by rw [List.length_map,List.length_take];omega
  rw [qc4 ha,vbx]
  by_cases k1:x.kind<15
  ·rw [vvg hx ha (by unfold loud;simp;omega)]
   generalize gatO m (ansN m) i=B at *
   generalize ((ansN m).take i).map eAns=A at *
   obtain ⟨xk,xa,xb,xc,xp,xq⟩:=x
   dsimp only at *
   unfold round nSt vec
   simp (implicitDefEqProofs:=false) (disch:=first|exact zd|fail) only [go_sem,Nat.reduceAdd,Nat.reduceBEq,hw,hlt,hx,k1]
   (show some _=some _;kernel_rfl)
  ·by_cases k2:x.kind>17
   ·rw [vvg hx ha (by unfold loud;simp;omega)]
    generalize gatO m (ansN m) i=B at *
    generalize ((ansN m).take i).map eAns=A at *
    obtain ⟨xk,xa,xb,xc,xp,xq⟩:=x
    dsimp only at *
    unfold round nSt vec
    simp (implicitDefEqProofs:=false) (disch:=first|exact zd|fail) only [go_sem,Nat.reduceAdd,Nat.reduceBEq,hw,hlt,hx,k1,k2]
    (show some _=some _;kernel_rfl)
   ·rw [qao hx ha (by unfold loud;simp;omega)]
    generalize gatO m (ansN m) i=B at *
    generalize ((ansN m).take i).map eAns=A at *
    obtain ⟨xk,xa,xb,xc,xp,xq⟩:=x
    dsimp only at *
    unfold round nSt vec
    simp (implicitDefEqProofs:=false) (disch:=first|exact zd|fail) only [go_sem,Nat.reduceAdd,Nat.reduceBEq,hw,hlt,hx,k1,k2]
    (show some _=some _;kernel_rfl)
 ·have hlt:¬(m.length:Int)<m.length:=by omega
  unfold round nSt vec
  simp (implicitDefEqProofs:=false) (disch:=first|exact zd|fail) only [go_sem,Nat.reduceAdd,Nat.reduceBEq,hlt]
theorem Kp.le {l:List Act'} (h:Kp l):∀x∈l,x.keep.length≤1048576:=fun x hx=>by have:=h x hx;omega
theorem ql3 {l:List Act'} {n:Nat} (h:ksum l≤n):∀x∈l,x.keep.length≤n:=by
 induction l with
 |nil=>intro x hx;cases hx
 |cons y l ih=>
  intro x hx
  rw [ksum] at h
  rcases List.mem_cons.1 hx with rfl|hx
  ·omega
  ·exact ih zo x hx
theorem qtx {l:List Act'} (h:Kp l):ksum l≤100 * l.length:=by
 induction l with
 |nil=>simp [ksum]
 |cons y l ih=>
  have h1:=h y (by simp)
  have h2:=ih (fun x hx=>h x (by simp [hx]))
  rw [ksum,List.length_cons]
  omega
theorem qbn {d:Nat} (bs:List Nat) (hb:∀x∈bs,x<256) (hl:bs.length<9223372036854000000):vaf (T (d+14)) vab vdd [.sl true vcg (bs.map eU8)]=some ([.a (.bool true)],[]):=by
 have h0:=quu (Φ:=T (d+13)) (N:=vab) (bs.map eU8) (by rw [List.length_map];omega)
 rw [List.length_map] at h0
 by_cases hbig:1048576<(bs.length:Int)
 ·rw [decide_eq_true hbig] at h0
  rw [vag rfl]
  simp (implicitDefEqProofs:=false) (disch:=first|exact zd|fail) only [go_sem,Nat.reduceAdd,Nat.reduceBEq,vdd,vj1,h0]
 ·rw [decide_eq_false hbig] at h0
  obtain ⟨l,ws,hK,hl1,hl2,hw,h1⟩:=qbb (d:=d) (bs:=bs) ⟨by omega,hb⟩
  have h2:=qa6 (d:=d+11) l ws zo zo hK.le
  have h3:=vzf (d:=d+11) l ws zo zo hK.le
  obtain ⟨hsl,hsk⟩:=qki l ws
  have hkk:=qtx hK
  have hmk:∀x∈(strewn l ws).1,x.keep.length≤1048576:=fun x hx=>Nat.le_trans (ql3 (Nat.le_refl _) x hx) zo
  have h4:=vtp (d:=d+12) (strewn l ws).1 zo hmk
  have b1:(true !=true)=false:=rfl
  have b2:(false !=false)=false:=rfl
  have b3:(false==false)=true:=rfl
  cases hok:(strewn l ws).2 with
  |false=>
   rw [hok] at h2 h3
   generalize (strewn l ws).1=m at *
   rw [vag rfl]
   simp (implicitDefEqProofs:=false) (disch:=first|exact zd|fail) only [go_sem,Nat.reduceAdd,Nat.reduceBEq,vdd,vj1,h0,h1,h2,h3,h4,b2,b3]
   done
  |true=>
   obtain ⟨g1,g2,g3⟩:=qdl hok
   have g4:=qe5 hok
   have g5:=qhq l
   have h5:=vq3 (d:=d+11) (strewn l ws).1 zo hmk
   have h6:=vxa (d:=d+11) l zo hK.le
   have hss:∀x∈strip l,x.keep.length≤1048576:=fun x hx=>by
    unfold strip at hx
    rw [if_pos zo] at hx
    exact hK.le x (List.mem_filter.1 hx).1
   have hsz:(strip l).length≤60:=by unfold strip;split;exact Nat.le_trans (List.length_filter_le _ _) zo;simp
   have h7:=vq3 (d:=d+11) (strip l) zo hss
   have h8:=vtp (d:=d+12) (strip l) zo hss
   rw [g4] at h5
   rw [g5] at h7
   have h9:=vxj (d:=d+12) (strewn l ws).1 (ansN (strewn l ws).1) zo (by rw [vsg];omega)
   have hga:=qft (l:=(strewn l ws).1) (a:=ansN (strewn l ws).1) (vsg _)
   have hgt:gather (strewn l ws).1 (ansN (strewn l ws).1)=(((strewn l ws).1.zip (ansN (strewn l ws).1)).filter fun p=>loud p.1).map (·.2):=by
    unfold gather;rw [if_pos ⟨by omega,vsg _⟩]
   rw [←hgt] at hga
   have h10:=vxo (Φ:=T (d+13)) (gather (strewn l ws).1 (ansN (strewn l ws).1)) (by rw [hgt,List.length_map];exact Nat.le_trans (List.length_filter_le _ _) (by rw [List.length_zip,vsg];omega))
   have key:=qhc (Φ:=T (d+14)) l (strewn l ws).1 ws zo
   rw [hga,List.take_zero,List.map_nil,List.take_of_length_le (i:=(strewn l ws).1.length) (by rw [vsg];exact Nat.le_refl _),show gatO (strewn l ws).1 (ansN (strewn l ws).1) 0= [] from rfl] at key
   have e1:IntKind.i64.wrap ((l.length:Int)+ws.length)=(((strewn l ws).1.length:Nat):Int):=by rw [vai _ zo zo];omega
   have e2:(((strewn l ws).1.length:Nat):Int)=(((strewn l ws).1.length:Nat):Int):=rfl
   rw [hok] at h2 h3
   generalize gather (strewn l ws).1 (ansN (strewn l ws).1)=ga at *
   generalize ansN (strewn l ws).1=an at *
   generalize (strewn l ws).1=m at *
   unfold nSt at key
   rw [vag rfl]
   simp (implicitDefEqProofs:=false) (disch:=first|exact zd|fail) only [go_sem,Nat.reduceAdd,Nat.reduceBEq,vdd,vj1,h0,h1,h2,h3,h4,b1,van key,e1,h5,h6,h7,h8,h9,h10]
   done
end Go.Proofs.YtkidnhclcbcglaaGreat.VM


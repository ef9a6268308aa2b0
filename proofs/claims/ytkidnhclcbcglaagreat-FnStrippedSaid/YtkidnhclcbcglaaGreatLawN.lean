/- Strewn: what the program and the reference make of acts and places. Strewn: what the program makes of acts and places; and the law that compares it with the reference. -/
import Derived.Test.YtkidnhclcbcglaaGreatLawS
import Derived.Test.YtkidnhclcbcglaaGreatVmSlc
namespace Go.Proofs.YtkidnhclcbcglaaGreat.VM
open Go Sy
variable {Φ:Nat→Option Callee} {N:Nat}
set_option maxRecDepth 100000
set_option maxHeartbeats 8000000
theorem qcw (s:Strew):vau (sact s)= .st [.a (.int .i64 s.kind),.a (.int .i64 s.a),.a (.int .i64 0),.a (.int .i64 0),.a (.int .i64 (-1)),.sl vam []]:=rfl
def S30 (l:List Act') (ws:List Strew) (i:Nat):St:=⟨[(0,.sz vaj (l.map vau)),(1,.sz vbu (ws.map vcv)),(6,.a (.int .i64 i))],[],0⟩
theorem vur {d:Nat} (l:List Act') (ws:List Strew) (hl:l.length≤1048576) (hw:ws.length≤1048576) {i:Nat} {s:Strew} (hi:ws[i]? =some s) (hp:∀j y,j<i→ws[j]? =some y→okS l.length (prevS 0 ws j) y=true):
  round (T (d+2)) vab [0,1,6] vg3 (S30 l ws i)=some (if okS l.length (prevS 0 ws i) s=true then (.nrm,S30 l ws (i+1)) else (.ret,⟨[(4,.nl vaj),(5,.a (.bool false))],[],4200⟩)):=by
 have hil:i<ws.length:=(List.getElem?_eq_some_iff.1 hi).1
 have hsi:=var i zo
 have hq:=vu9 (d:=d) s.kind
 unfold round S30 vg3
 by_cases c1:0≤s.at_∧s.at_≤(l.length:Int)
 ·by_cases c3:15≤s.kind∧s.kind≤17
  ·rw [decide_eq_true c3] at hq
   cases i with
   |zero=>
    rw [if_pos (by rw [okS,decide_eq_true_eq];exact ⟨c1.1,c1.2,c3.1,c3.2⟩)]
    simp (implicitDefEqProofs:=false) (disch:=first|exact zd|fail) only [go_sem,Nat.reduceAdd,Nat.reduceBEq,hi,hq,hsi]
    (show some _=some _;kernel_rfl)
   |succ j=>
    obtain ⟨y,hy⟩:∃y,ws[j]? =some y:=⟨_,List.getElem?_eq_getElem zo⟩
    have hy0:=hp j y zo hy
    simp only [okS,decide_eq_true_eq] at hy0
    have hprev:prevS 0 ws (j+1)=y.at_.toNat:=by simp [prevS,hy]
    have hj:IntKind.i64.wrap (((j+1:Nat):Int)-1)=(j:Int):=by rw [vai]<;>omega
    by_cases c2:s.at_<y.at_
    ·rw [if_neg (by simp only [okS,hprev,decide_eq_true_eq];omega)]
     simp (implicitDefEqProofs:=false) (disch:=first|exact zd|fail) only [go_sem,Nat.reduceAdd,Nat.reduceBEq,hi,hy,hq,hsi,hj]
    ·rw [if_pos (by simp only [okS,hprev,decide_eq_true_eq];omega)]
     simp (implicitDefEqProofs:=false) (disch:=first|exact zd|fail) only [go_sem,Nat.reduceAdd,Nat.reduceBEq,hi,hy,hq,hsi,hj]
     (show some _=some _;kernel_rfl)
  ·rw [decide_eq_false c3] at hq
   rw [if_neg (by simp only [okS,decide_eq_true_eq];omega)]
   cases i with
   |zero=>simp (implicitDefEqProofs:=false) (disch:=first|exact zd|fail) only [go_sem,Nat.reduceAdd,Nat.reduceBEq,hi,hq,hsi]
   |succ j=>
    obtain ⟨y,hy⟩:∃y,ws[j]? =some y:=⟨_,List.getElem?_eq_getElem zo⟩
    have hj:IntKind.i64.wrap (((j+1:Nat):Int)-1)=(j:Int):=by rw [vai]<;>omega
    by_cases c2:s.at_<y.at_
    ·simp (implicitDefEqProofs:=false) (disch:=first|exact zd|fail) only [go_sem,Nat.reduceAdd,Nat.reduceBEq,hi,hy,hq,hsi,hj]
    ·simp (implicitDefEqProofs:=false) (disch:=first|exact zd|fail) only [go_sem,Nat.reduceAdd,Nat.reduceBEq,hi,hy,hq,hsi,hj]
 ·rw [if_neg (by simp only [okS,decide_eq_true_eq];omega)]
  simp (implicitDefEqProofs:=false) (disch:=first|exact zd|fail) only [go_sem,Nat.reduceAdd,Nat.reduceBEq,hi,hsi]
theorem qj9 {d:Nat} (l:List Act') (ws:List Strew) (hl:l.length≤1048576) (hw:ws.length≤1048576) (hv:validS l.length 0 ws=true):
  va4 (T (d+2)) vab [0,1,6] vg3 (S30 l ws 0)=some (.ext 0,⟨[(0,.sz vaj (l.map vau)),(1,.sz vbu (ws.map vcv)),(6,.a (.int .i64 ws.length)),(13,.a (.bool false))],[],400⟩):=by
 have hv':=(vwj _ _ _).1 hv
 refine vcc (S30 l ws) _ (m:=ws.length) (vaw zo) (fun i hi=> ?_) ?_
 ·obtain ⟨s,hs⟩:∃s,ws[i]? =some s:=⟨_,List.getElem?_eq_getElem hi⟩
  rw [vur l ws hl hw hs fun j y _ hy=>hv' j y hy,if_pos (hv' i s hs)]
 ·unfold round S30 vg3
  simp (implicitDefEqProofs:=false) (disch:=first|exact zd|fail) only [go_sem,Nat.reduceAdd,Nat.reduceBEq]
theorem qgw {d:Nat} (l:List Act') (ws:List Strew) (hl:l.length≤1048576) (hw:ws.length≤1048576) (hv:¬validS l.length 0 ws=true):
  va4 (T (d+2)) vab [0,1,6] vg3 (S30 l ws 0)=some (.ret,⟨[(4,.nl vaj),(5,.a (.bool false))],[],4200⟩):=by
 refine ve1 (S30 l ws) _ (fun i=>∀j y,j<i→ws[j]? =some y→okS l.length (prevS 0 ws j) y=true) (m:=ws.length) (vaw zo) (fun j y h=>by omega) (by simp) (fun i hi hp=> ?_)
 by_cases hi':i<ws.length
 ·obtain ⟨s,hs⟩:∃s,ws[i]? =some s:=⟨_,List.getElem?_eq_getElem hi'⟩
  rw [vur l ws hl hw hs hp]
  by_cases ho:okS l.length (prevS 0 ws i) s=true
  ·rw [if_pos ho]
   refine .inl ⟨hi',rfl,fun j y hj hy=> ?_⟩
   by_cases hji:j=i
   ·subst hji
    rw [hs] at hy
    cases hy
    exact ho
   ·exact hp j y zo hy
  ·rw [if_neg ho]
   exact .inr rfl
 ·exact absurd ((vwj _ _ _).2 fun j y hy=>hp j y (by have:=(List.getElem?_eq_some_iff.1 hy).1;omega) hy) hv
def gwO (ws:List Strew) (i k:Nat):List PV:=(gw (ws.take k) i).map vau
theorem qxm {ws:List Strew} {i k:Nat} {s:Strew} (h:ws[k]? =some s) (hs:s.at_=(i:Int)):gwO ws i (k+1)=gwO ws i k++ [vau (sact s)]:=by
 unfold gwO gw
 rw [List.take_add_one,h,List.filter_append,List.map_append,List.map_append]
 simp [hs]
theorem qt7 {ws:List Strew} {i k:Nat} {s:Strew} (h:ws[k]? =some s) (hs:s.at_≠(i:Int)):gwO ws i (k+1)=gwO ws i k:=by
 unfold gwO gw
 rw [List.take_add_one,h,List.filter_append,List.map_append,List.map_append]
 simp [hs]
theorem qkm (ws:List Strew) (i k:Nat):(gwO ws i k).length≤k:=by
 unfold gwO gw
 have:=List.length_filter_le (fun s:Strew=>decide (s.at_=(i:Int))) (ws.take k)
 rw [List.length_map,List.length_map]
 rw [List.length_take] at this
 omega
theorem vwo (ws:List Strew) (i:Nat):(gw ws i).length≤ws.length:=by
 unfold gw
 rw [List.length_map]
 exact List.length_filter_le _ _
theorem qr9 (ws:List Strew) (i:Nat):gwO ws i ws.length=(gw ws i).map vau:=by rw [gwO,List.take_length]
theorem vvw (l:List Act') (ws:List Strew) (hw:ws.length≤60):∀i,(aS l ws i).length≤i * 61
 |0=>by simp [aS]
 |i+1=>by
  have h1:=vvw l ws hw i
  have h2:=vwo ws i
  have h3:l[i]?.toList.length≤1:=by cases l[i]? <;>simp
  simp only [aS,List.length_append]
  omega
theorem qt3 {d:Nat} (l:List Act') (ws:List Strew) (hw:ws.length≤60) (i:Nat) (hi:i≤61) (O:List PV) (hO:O.length≤10000):
  va4 (T (d+2)) vab [0,1,7,8,9] vis ⟨[(0,.sz vaj (l.map vau)),(1,.sz vbu (ws.map vcv)),(7,.rf 0),(8,.a (.int .i64 i)),(9,.a (.int .i64 0))],[(0,some (.sl false 0 vaj O))],1⟩=
  some (.ext 4,⟨[(0,.sz vaj (l.map vau)),(1,.sz vbu (ws.map vcv)),(7,.rf 0),(8,.a (.int .i64 i)),(9,.a (.int .i64 ws.length)),(68,.a (.bool false))],[(0,some (.sl false 0 vaj (O++(gw ws i).map vau)))],401⟩):=by
 have:=vcc (Φ:=T (d+2)) (N:=vab) (live:= [0,1,7,8,9]) (b:=vis) (id:=4) (fun k=>⟨[(0,.sz vaj (l.map vau)),(1,.sz vbu (ws.map vcv)),(7,.rf 0),(8,.a (.int .i64 i)),(9,.a (.int .i64 (k:Nat)))],[(0,some (.sl false 0 vaj (O++gwO ws i k)))],1⟩)
  ⟨[(0,.sz vaj (l.map vau)),(1,.sz vbu (ws.map vcv)),(7,.rf 0),(8,.a (.int .i64 i)),(9,.a (.int .i64 ws.length)),(68,.a (.bool false))],[(0,some (.sl false 0 vaj (O++(gw ws i).map vau)))],401⟩ (m:=ws.length) (vaw zo) (fun k hk=> ?_) ?_
 ·simpa [gwO,gw] using this
 ·obtain ⟨s,hs⟩:∃s,ws[k]? =some s:=⟨_,List.getElem?_eq_getElem hk⟩
  have hsk:=var k zo
  have hg:=qkm ws i k
  unfold round vis
  by_cases c:s.at_=(i:Int)
  ·rw [qxm hs c,qcw,←List.append_assoc]
   have hle:(O++gwO ws i k).length≤20000:=by rw [List.length_append];omega
   generalize O++gwO ws i k=O' at *
   simp (implicitDefEqProofs:=false) (disch:=first|exact zd|fail) only [go_sem,Nat.reduceAdd,Nat.reduceBEq,hs,hsk,c]
   (show some _=some _;kernel_rfl)
  ·rw [qt7 hs c]
   generalize O++gwO ws i k=O' at *
   simp (implicitDefEqProofs:=false) (disch:=first|exact zd|fail) only [go_sem,Nat.reduceAdd,Nat.reduceBEq,hs,hsk,c]
   (show some _=some _;kernel_rfl)
 ·rw [qr9]
  unfold round vis
  simp (implicitDefEqProofs:=false) (disch:=first|exact zd|fail) only [go_sem,Nat.reduceAdd,Nat.reduceBEq]
theorem qva {d:Nat} (l:List Act') (ws:List Strew) (hl:l.length≤60) (hw:ws.length≤60) (hk:∀x∈l,x.keep.length≤1048576):
  va4 (T (d+2)) vab [0,1,7,8] vke ⟨[(0,.sz vaj (l.map vau)),(1,.sz vbu (ws.map vcv)),(7,.rf 0),(8,.a (.int .i64 0))],[(0,some (.sl false 0 vaj []))],1⟩=
  some (.ext 2,⟨[(0,.sz vaj (l.map vau)),(1,.sz vbu (ws.map vcv)),(7,.rf 0),(8,.a (.int .i64 (l.length+1:Nat))),(62,.a (.bool false))],[(0,some (.sl false 0 vaj ((aS l ws (l.length+1)).map vau)))],401⟩):=by
 refine vcc (fun i=>⟨[(0,.sz vaj (l.map vau)),(1,.sz vbu (ws.map vcv)),(7,.rf 0),(8,.a (.int .i64 (i:Nat)))],[(0,some (.sl false 0 vaj ((aS l ws i).map vau)))],1⟩) _ (m:=l.length+1) (vaw zo) (fun i hi=> ?_) ?_
 ·have hsi:=var i zo
  have hal:=vvw l ws hw i
  have hgl:=vwo ws i
  have key:=qt3 (d:=d) l ws hw i zo ((aS l ws i).map vau) (by rw [List.length_map];omega)
  unfold round vke
  by_cases c:i<l.length
  ·obtain ⟨x,hx⟩:∃x,l[i]? =some x:=⟨_,List.getElem?_eq_getElem c⟩
   have hc:=vx2 (Φ:=T (d+1)) (N:=vab) x (hk x (List.mem_of_getElem? hx))
   rw [show (aS l ws (i+1)).map vau=(aS l ws i).map vau++(gw ws i).map vau++ [vau x] from by rw [aS,hx];simp,vrf]
   have hle:((aS l ws i).map vau++(gw ws i).map vau).length≤20000:=by rw [List.length_append,List.length_map,List.length_map];omega
   generalize hO:(aS l ws i).map vau++(gw ws i).map vau=O at *
   simp (implicitDefEqProofs:=false) (disch:=first|exact zd|fail) only [go_sem,Nat.reduceAdd,Nat.reduceBEq,van key,hO,hx,hsi,hc]
   (show some _=some _;kernel_rfl)
  ·obtain rfl:i=l.length:=by omega
   rw [show (aS l ws (l.length+1)).map vau=(aS l ws l.length).map vau++(gw ws l.length).map vau from by rw [aS,List.getElem?_eq_none (Nat.le_refl _)];simp]
   generalize hO:(aS l ws l.length).map vau++(gw ws l.length).map vau=O at *
   simp (implicitDefEqProofs:=false) (disch:=first|exact zd|fail) only [go_sem,Nat.reduceAdd,Nat.reduceBEq,van key,hO,hsi]
   (show some _=some _;kernel_rfl)
 ·unfold round vke
  simp (implicitDefEqProofs:=false) (disch:=first|exact zd|fail) only [go_sem,Nat.reduceAdd,Nat.reduceBEq]
theorem vzf {d:Nat} (l:List Act') (ws:List Strew) (hl:l.length≤1048576) (hw:ws.length≤1048576) (hk:∀x∈l,x.keep.length≤1048576):
  vaf (T (d+2)) vab vgd [.sl true vaj (l.map vau),.sl true vbu (ws.map vcv)]=some ([.sl false vaj ((strewn l ws).1.map vau),.a (.bool (strewn l ws).2)],[]):=by
 have hs:IntKind.i64.wrap ((l.length:Int)+ws.length)=l.length+ws.length:=by rw [vai]<;>omega
 unfold strewn
 rw [vag rfl]
 by_cases hv:validS l.length 0 ws=true
 ·have key:=qj9 (d:=d) l ws hl hw hv
  unfold S30 at key
  by_cases hn:l.length+ws.length≤60
  ·have key1:=qva (d:=d) l ws zo zo hk
   rw [if_pos ⟨hv,hn⟩]
   simp (implicitDefEqProofs:=false) (disch:=first|exact zd|fail) only [go_sem,Nat.reduceAdd,Nat.reduceBEq,vgd,vmm,van key,van key1,hs]
  ·rw [if_neg (fun h=>hn h.2)]
   simp (implicitDefEqProofs:=false) (disch:=first|exact zd|fail) only [go_sem,Nat.reduceAdd,Nat.reduceBEq,vgd,vmm,van key,hs]
 ·have key:=qgw (d:=d) l ws hl hw hv
  unfold S30 at key
  rw [if_neg (fun h=>hv h.1)]
  simp (implicitDefEqProofs:=false) (disch:=first|exact zd|fail) only [go_sem,Nat.reduceAdd,Nat.reduceBEq,vgd,vmm,vgu key,hs]
theorem qhg (a b c:Int):vaf Φ N vde [.a (.int .i64 a),.a (.int .i64 b),.a (.int .i64 c)]=some ([.a (.bool (decide (b≤a∧a≤c)))],[]):=by
 rw [vag rfl]
 by_cases h1:b≤a
 ·by_cases h2:a≤c
  ·rw [decide_eq_true ⟨h1,h2⟩]
   simp (implicitDefEqProofs:=false) (disch:=first|exact zd|fail) only [go_sem,Nat.reduceAdd,Nat.reduceBEq,vde,vhz]
  ·rw [decide_eq_false (fun h=>h2 h.2)]
   simp (implicitDefEqProofs:=false) (disch:=first|exact zd|fail) only [go_sem,Nat.reduceAdd,Nat.reduceBEq,vde,vhz]
 ·rw [decide_eq_false (fun h=>h1 h.1)]
  simp (implicitDefEqProofs:=false) (disch:=first|exact zd|fail) only [go_sem,Nat.reduceAdd,Nat.reduceBEq,vde,vhz]
theorem qhp (l:List Act'):vaf Φ N vej [.sl true vaj (l.map vau)]=some ([.a (.int .i64 l.length)],[]):=by
 rw [vag rfl]
 simp (implicitDefEqProofs:=false) (disch:=first|exact zd|fail) only [go_sem,Nat.reduceAdd,Nat.reduceBEq,vej,vns]
theorem qt8 {d:Nat} (l:List Act') (ws:List Strew) (n:Nat) (s:Strew) (hl:l.length≤60) (hk:∀x∈l,x.keep.length≤1048576) (j a:Nat) (ha:s.at_=(a:Int)) (hja:j≤a) (hal:a≤l.length) (O:List PV) (hO:O.length≤10000):
  va4 (T (d+2)) vab [0,6,7,9,19,20,21] viu ⟨[(0,.sz vaj (l.map vau)),(6,.rf 0),(7,.a (.int .i64 j)),(9,.rf 1),(19,.sz vbu (ws.map vcv)),(20,.a (.int .i64 ws.length)),(21,.a (.int .i64 n))],[(0,some (.sl false 0 vaj O)),(1,some (.bx false [.a (.int .i64 s.at_),.a (.int .i64 s.kind),.a (.int .i64 s.a)]))],2⟩=
  some (.ext 2,⟨[(0,.sz vaj (l.map vau)),(6,.rf 0),(7,.a (.int .i64 a)),(9,.rf 1),(19,.sz vbu (ws.map vcv)),(20,.a (.int .i64 ws.length)),(21,.a (.int .i64 n)),(41,.a (.bool false))],[(0,some (.sl false 0 vaj (O++((l.drop j).take (a-j)).map vau))),(1,some (.bx false [.a (.int .i64 s.at_),.a (.int .i64 s.kind),.a (.int .i64 s.a)]))],402⟩):=by
 have:=vcc (Φ:=T (d+2)) (N:=vab) (live:= [0,6,7,9,19,20,21]) (b:=viu) (id:=2) (fun k=>⟨[(0,.sz vaj (l.map vau)),(6,.rf 0),(7,.a (.int .i64 (j+k:Nat))),(9,.rf 1),(19,.sz vbu (ws.map vcv)),(20,.a (.int .i64 ws.length)),(21,.a (.int .i64 n))],[(0,some (.sl false 0 vaj (O++((l.drop j).take k).map vau))),(1,some (.bx false [.a (.int .i64 s.at_),.a (.int .i64 s.kind),.a (.int .i64 s.a)]))],2⟩)
  ⟨[(0,.sz vaj (l.map vau)),(6,.rf 0),(7,.a (.int .i64 a)),(9,.rf 1),(19,.sz vbu (ws.map vcv)),(20,.a (.int .i64 ws.length)),(21,.a (.int .i64 n)),(41,.a (.bool false))],[(0,some (.sl false 0 vaj (O++((l.drop j).take (a-j)).map vau))),(1,some (.bx false [.a (.int .i64 s.at_),.a (.int .i64 s.kind),.a (.int .i64 s.a)]))],402⟩ (m:=a-j) (vaw zo) (fun k hk'=> ?_) ?_
 ·simpa using this
 ·obtain ⟨x,hx⟩:∃x,l[j+k]? =some x:=⟨_,List.getElem?_eq_getElem zo⟩
  have hc:=vt1 (d:=d) x (hk x (List.mem_of_getElem? hx))
  have hw:IntKind.i64.wrap (((j+k:Nat):Int)+1)=((j+(k+1):Nat):Int):=by rw [vai]<;>omega
  have hlt:((j+k:Nat):Int)<s.at_:=by omega
  have hlen:((j+k:Nat):Int)<l.length:=by omega
  have hle:(O++((l.drop j).take k).map vau).length≤20000:=by
   rw [List.length_append,List.length_map,List.length_take,List.length_drop];omega
  rw [show O++((l.drop j).take (k+1)).map vau=O++((l.drop j).take k).map vau++ [vau x] from by
   rw [List.take_add_one,List.getElem?_drop,hx,List.map_append,List.append_assoc];rfl,vrf]
  generalize O++((l.drop j).take k).map vau=O' at *
  generalize hm:j+k=m at *
  unfold round viu
  simp (implicitDefEqProofs:=false) (disch:=first|exact zd|fail) only [go_sem,Nat.reduceAdd,Nat.reduceBEq,hx,hc,hw]
  (show some _=some _;kernel_rfl)
 ·have hlt:¬((j+(a-j):Nat):Int)<s.at_:=by omega
  have he:((j+(a-j):Nat):Int)=a:=by omega
  rw [he] at hlt⊢
  unfold round viu
  simp (implicitDefEqProofs:=false) (disch:=first|exact zd|fail) only [go_sem,Nat.reduceAdd,Nat.reduceBEq]
abbrev zcs:List TV:= [.a (.int .i64 0),.a (.int .i64 0),.a (.int .i64 0)]
def S31 (l:List Act') (ws:List Strew) (i:Nat) (p:Nat×List Act'):St:=⟨[(0,.sz vaj (l.map vau)),(6,.rf 0),(7,.a (.int .i64 p.1)),(19,.sz vbu (ws.map vcv)),(20,.a (.int .i64 ws.length)),(21,.a (.int .i64 i))],[(0,some (.sl false 0 vaj (p.2.map vau)))],1⟩
theorem qd0 {d:Nat} (l:List Act') (ws:List Strew) (hl:l.length≤60) (hw:ws.length≤60) (hk:∀x∈l,x.keep.length≤1048576) {i:Nat} {s:Strew} (hi:ws[i]? =some s) (p:Nat×List Act') (hp:p.1≤l.length) (hO:p.2.length≤1000):
  round (T (d+2)) vab [0,6,7,19,20,21] vdo (S31 l ws i p)=some (match stepS l p s with|some p'=>(.nrm,S31 l ws (i+1) p')|none=>(.ret,⟨[(4,.nl vaj),(5,.a (.bool false))],[(301,some (.bx false [.a (.int .i64 s.at_),.a (.int .i64 s.kind),.a (.int .i64 s.a)])),(301,some (.bx false zcs)),(0,some (.sl false 0 vaj (p.2.map vau)))],2001⟩)):=by
 obtain ⟨j,out⟩:=p
 dsimp only at hp hO
 have hil:i<ws.length:=(List.getElem?_eq_some_iff.1 hi).1
 have hsi:=var i zo
 have hin:=qhg (Φ:=T (d+1)) (N:=vab) s.at_ j l.length
 have hsz:=qhp (Φ:=T (d+1)) (N:=vab) l
 have hex:=vs1 (Φ:=T (d+1)) (N:=vab) s.kind
 unfold stepS
 by_cases c1:(j:Int)≤s.at_∧s.at_≤(l.length:Int)
 ·rw [decide_eq_true c1] at hin
  by_cases c3:15≤s.kind∧s.kind≤17
  ·rw [decide_eq_true c3] at hex
   rw [if_pos (by rw [okS,decide_eq_true_eq];exact ⟨c1.1,c1.2,c3.1,c3.2⟩)]
   obtain ⟨a,ha⟩:∃a:Nat,s.at_=(a:Int):=⟨s.at_.toNat,by omega⟩
   have e:s.at_.toNat=a:=by omega
   rw [e]
   have key:=qt8 (d:=d) l ws i s hl hk j a ha zo zo (out.map vau) (by rw [List.length_map];omega)
   have hle:(out.map vau++((l.drop j).take (a-j)).map vau).length≤20000:=by
    rw [List.length_append,List.length_map,List.length_map,List.length_take,List.length_drop];omega
   have hz:(out++(l.drop j).take (a-j)++ [sact s]).map vau=out.map vau++((l.drop j).take (a-j)).map vau++ [vau (sact s)]:=by simp
   rw [qcw] at hz
   unfold round S31 vdo
   generalize hO':out.map vau++((l.drop j).take (a-j)).map vau=O' at *
   simp (implicitDefEqProofs:=false) (disch:=first|exact zd|fail) only [go_sem,Nat.reduceAdd,Nat.reduceBEq,hi,hin,hsz,hex,hsi,van key,hz,hO']
   (show some _=some _;kernel_rfl)
  ·rw [decide_eq_false c3] at hex
   rw [if_neg (by rw [okS,decide_eq_true_eq];exact fun h=>c3 ⟨h.2.2.1,h.2.2.2⟩)]
   unfold round S31 vdo
   simp (implicitDefEqProofs:=false) (disch:=first|exact zd|fail) only [go_sem,Nat.reduceAdd,Nat.reduceBEq,hi,hin,hsz,hex,hsi]
 ·rw [decide_eq_false c1] at hin
  rw [if_neg (by rw [okS,decide_eq_true_eq];exact fun h=>c1 ⟨h.1,h.2.1⟩)]
  unfold round S31 vdo
  simp (implicitDefEqProofs:=false) (disch:=first|exact zd|fail) only [go_sem,Nat.reduceAdd,Nat.reduceBEq,hi,hin,hsz,hex,hsi]
theorem qqp {l:List Act'} {p p':Nat×List Act'} {s:Strew} (h:stepS l p s=some p'):p'.1≤l.length∧p.1≤p'.1∧p'.2.length≤p.2.length+(p'.1-p.1)+1:=by
 unfold stepS at h
 split at h
 ·rename_i ho
  rw [okS,decide_eq_true_eq] at ho
  cases h
  simp only [List.length_append,List.length_take,List.length_cons,List.length_nil]
  omega
 ·cases h
theorem qs6 {d:Nat} (l:List Act') (ws:List Strew) (hl:l.length≤60) (hw:ws.length≤60) (hk:∀x∈l,x.keep.length≤1048576):
  (∃p,foldS l ws ws.length=some p∧p.1≤l.length∧p.2.length≤p.1+ws.length∧va4 (T (d+2)) vab [0,6,7,19,20,21] vdo (S31 l ws 0 (0,[]))=
   some (.ext 0,⟨[(0,.sz vaj (l.map vau)),(6,.rf 0),(7,.a (.int .i64 p.1)),(19,.sz vbu (ws.map vcv)),(20,.a (.int .i64 ws.length)),(21,.a (.int .i64 ws.length)),(22,.a (.bool false))],[(0,some (.sl false 0 vaj (p.2.map vau)))],101⟩))∨
  (foldS l ws ws.length=none∧∃nd nx,va4 (T (d+2)) vab [0,6,7,19,20,21] vdo (S31 l ws 0 (0,[]))=some (.ret,⟨[(4,.nl vaj),(5,.a (.bool false))],nd,nx⟩)):=by
 obtain ⟨o,e,he,_,h⟩:=vrz (Φ:=T (d+2)) (N:=vab) (live:= [0,6,7,19,20,21]) (b:=vdo) (r:= [])
  (fun k s=>∃i p,i+k=ws.length∧foldS l ws i=some p∧p.1≤l.length∧p.2.length≤p.1+i∧s=S31 l ws i p)
  (fun o e=>(∃p,foldS l ws ws.length=some p∧p.1≤l.length∧p.2.length≤p.1+ws.length∧o= .ext 0∧e=⟨[(0,.sz vaj (l.map vau)),(6,.rf 0),(7,.a (.int .i64 p.1)),(19,.sz vbu (ws.map vcv)),(20,.a (.int .i64 ws.length)),(21,.a (.int .i64 ws.length)),(22,.a (.bool false))],[(0,some (.sl false 0 vaj (p.2.map vau)))],101⟩)∨
   (foldS l ws ws.length=none∧o= .ret∧∃nd nx,e=⟨[(4,.nl vaj),(5,.a (.bool false))],nd,nx⟩))
  (m:=ws.length) (vaw zo) (s:=S31 l ws 0 (0,[])) ⟨0,(0,[]),by omega,rfl,by simp,by simp,rfl⟩ (by
   rintro k s hkm ⟨i,p,hik,hf,hp1,hp2,rfl⟩
   by_cases hi:i<ws.length
   ·obtain ⟨y,hy⟩:∃y,ws[i]? =some y:=⟨_,List.getElem?_eq_getElem hi⟩
    have hr:=qd0 (d:=d) l ws hl hw hk hy p hp1 zo
    have hfs:=qjg (l:=l) hy
    rw [hf] at hfs
    change foldS l ws (i+1)=stepS l p y at hfs
    cases hst:stepS l p y with
    |none=>
     rw [hst] at hr hfs
     exact .inr ⟨.ret,_,by simp,hr,.inr ⟨qkq hfs,rfl,_,_,rfl⟩⟩
    |some p'=>
     rw [hst] at hr hfs
     obtain ⟨q1,q2,q3⟩:=qqp hst
     exact .inl ⟨k-1,_,by omega,hr,i+1,p',by omega,hfs,q1,by omega,rfl⟩
   ·obtain rfl:i=ws.length:=by omega
    refine .inr ⟨.ext 0,_,by simp,?_,.inl ⟨p,hf,hp1,hp2,rfl,rfl⟩⟩
    unfold round S31 vdo
    simp (implicitDefEqProofs:=false) (disch:=first|exact zd|fail) only [go_sem,Nat.reduceAdd,Nat.reduceBEq])
 rcases he with ⟨p,h1,h2,h3,rfl,rfl⟩|⟨h1,rfl,nd,nx,rfl⟩
 ·exact .inl ⟨p,h1,h2,h3,h⟩
 ·exact .inr ⟨h1,nd,nx,h⟩
theorem qtf {d:Nat} (l:List Act') (hl:l.length≤60) (hk:∀x∈l,x.keep.length≤1048576) (O:List PV) (hO:O.length≤10000):
  va4 (T (d+2)) vab [6,63,64,65] vip ⟨[(6,.rf 0),(63,.sz vaj (l.map vau)),(64,.a (.int .i64 l.length)),(65,.a (.int .i64 0))],[(0,some (.sl false 0 vaj O))],1⟩=
  some (.ext 4,⟨[(6,.rf 0),(63,.sz vaj (l.map vau)),(64,.a (.int .i64 l.length)),(65,.a (.int .i64 l.length)),(66,.a (.bool false))],[(0,some (.sl false 0 vaj (O++l.map vau)))],101⟩):=by
 have:=vcc (Φ:=T (d+2)) (N:=vab) (live:= [6,63,64,65]) (b:=vip) (id:=4) (fun i=>⟨[(6,.rf 0),(63,.sz vaj (l.map vau)),(64,.a (.int .i64 l.length)),(65,.a (.int .i64 (i:Nat)))],[(0,some (.sl false 0 vaj (O++(l.take i).map vau)))],1⟩)
  ⟨[(6,.rf 0),(63,.sz vaj (l.map vau)),(64,.a (.int .i64 l.length)),(65,.a (.int .i64 l.length)),(66,.a (.bool false))],[(0,some (.sl false 0 vaj (O++l.map vau)))],101⟩ (m:=l.length) (vaw zo) (fun i hi=> ?_) ?_
 ·simpa using this
 ·obtain ⟨x,hx⟩:∃x,l[i]? =some x:=⟨_,List.getElem?_eq_getElem hi⟩
  have hc:=vt1 (d:=d) x (hk x (List.mem_of_getElem? hx))
  have hw:=var i zo
  have hle:(O++(l.take i).map vau).length≤20000:=by
   rw [List.length_append,List.length_map,List.length_take];omega
  rw [show O++(l.take (i+1)).map vau=O++(l.take i).map vau++ [vau x] from by rw [List.take_add_one,hx,List.map_append,List.append_assoc];rfl,vrf]
  generalize O++(l.take i).map vau=O' at *
  unfold round vip
  simp (implicitDefEqProofs:=false) (disch:=first|exact zd|fail) only [go_sem,Nat.reduceAdd,Nat.reduceBEq,hx,hc,hw]
  (show some _=some _;kernel_rfl)
 ·rw [List.take_length]
  unfold round vip
  simp (implicitDefEqProofs:=false) (disch:=first|exact zd|fail) only [go_sem,Nat.reduceAdd,Nat.reduceBEq]
theorem qa6 {d:Nat} (l:List Act') (ws:List Strew) (hl:l.length≤1048576) (hw:ws.length≤1048576) (hk:∀x∈l,x.keep.length≤1048576):
  vaf (T (d+2)) vab vgh [.sl true vaj (l.map vau),.sl true vbu (ws.map vcv)]=some ([.sl false vaj ((strewn l ws).1.map vau),.a (.bool (strewn l ws).2)],[]):=by
 have hs:IntKind.i64.wrap ((l.length:Int)+ws.length)=l.length+ws.length:=by rw [vai]<;>omega
 unfold strewn
 rw [vag rfl]
 by_cases hn:l.length+ws.length≤60
 ·have hall:=qof l ws
  rcases qs6 (d:=d) l ws zo zo hk with ⟨p,h1,h2,h3,key⟩|⟨h1,nd,nx,key⟩
  ·rw [h1] at hall
   by_cases hv:validS l.length 0 ws=true
   ·rw [if_pos hv] at hall
    rw [if_pos ⟨hv,hn⟩,←Option.some.inj hall]
    have key2:=qtf (d:=d) (l.drop p.1) (by rw [List.length_drop];omega) (fun x hx=>hk x (List.mem_of_mem_drop hx)) (p.2.map vau) (by rw [List.length_map];omega)
    unfold S31 at key
    have e1:(l.map vau).drop p.1=(l.drop p.1).map vau:=(List.map_drop ..).symm
    have e2:(p.2++l.drop p.1).map vau=p.2.map vau++(l.drop p.1).map vau:=List.map_append ..
    simp (implicitDefEqProofs:=false) (disch:=first|exact zd|fail) only [go_sem,Nat.reduceAdd,Nat.reduceBEq,vgh,vmd,van key,hs,e1,van key2,e2]
   ·rw [if_neg hv] at hall
    cases hall
  ·rw [h1] at hall
   by_cases hv:validS l.length 0 ws=true
   ·rw [if_pos hv] at hall
    cases hall
   ·rw [if_neg (fun h=>hv h.1)]
    unfold S31 at key
    simp (implicitDefEqProofs:=false) (disch:=first|exact zd|fail) only [go_sem,Nat.reduceAdd,Nat.reduceBEq,vgh,vmd,vgu key,hs]
 ·rw [if_neg (fun h=>hn h.2)]
  simp (implicitDefEqProofs:=false) (disch:=first|exact zd|fail) only [go_sem,Nat.reduceAdd,Nat.reduceBEq,vgh,vmd,hs]
theorem qdf {l:List Act'} {ws:List Strew}:∀{n j:Nat},(gS l ws j n).length≤n * (ws.length+1)∧ksum (gS l ws j n)≤ksum (l.drop j)
 |0,j=>by simp [gS,ksum]
 |n+1,j=>by
  obtain ⟨h1,h2⟩:=qdf (l:=l) (ws:=ws) (n:=n) (j:=j+1)
  have hg:=vwo ws j
  have hk:ksum (gw ws j)=0:=by
   unfold gw
   generalize ws.filter _=w
   induction w with
   |nil=>rfl
   |cons s w ih=>simp only [List.map_cons,ksum,ih];rfl
  have ho:l[j]?.toList.length≤1:=by cases l[j]? <;>simp
  constructor
  ·simp only [gS,List.length_append,Nat.add_mul,Nat.one_mul]
   omega
  ·rw [gS,vsy,vsy,hk,qfg l j,vsy]
   omega
theorem qki (l:List Act') (ws:List Strew):(strewn l ws).1.length≤10000∧ksum (strewn l ws).1≤ksum l:=by
 unfold strewn
 split
 ·rename_i h
  dsimp only
  have h1:=vvw l ws zo (l.length+1)
  have h2:=(qdf (l:=l) (ws:=ws) (n:=l.length+1) (j:=0)).2
  rw [←qrq,List.drop_zero] at h2
  exact ⟨by omega,h2⟩
 ·simp [ksum]
end Go.Proofs.YtkidnhclcbcglaaGreat.VM


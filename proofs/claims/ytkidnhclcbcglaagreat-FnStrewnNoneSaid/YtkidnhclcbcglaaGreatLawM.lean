/- Acts, one of them with little power. Acts for a heap, drawn; places that are none; the law that nothing is strewn. -/
import Derived.Test.YtkidnhclcbcglaaGreatLawZ
import Derived.Test.YtkidnhclcbcglaaGreatLawN
import Derived.Test.YtkidnhclcbcglaaGreatLawS
open Nat renaming reduceAdd->Aa,reduceBEq->Ab,sub_self->Ak
open List renaming cons_append->Ac,nil_append->Ad,length_append->Ae,length_singleton->Af,length_map->Ag,getElem?_eq_some_iff->Ah,length_take->Ai,map_nil->Aj
namespace Go.Proofs.YtkidnhclcbcglaaGreat.VM
open Go Sy
variable {Φ:Nat→Option Callee} {N:Nat}
set_option maxRecDepth 100000
set_option maxHeartbeats 8000000
abbrev hAct (x:Act'):PV:= .st [.a (.int .i64 x.kind),.a (.int .i64 x.a),.a (.int .i64 x.b),.a (.int .i64 x.c),.a (.int .i64 x.power),.un]
def holes (l:List Act') (i:Nat):List PV:=(l.take i).map hAct++(l.drop i).map va3
theorem qcv (l:List Act') (i:Nat):(holes l i).length=l.length:=by
 unfold holes;rw [Ae,Ag,Ag,Ai,List.length_drop];omega
theorem qmr {l:List Act'} {i:Nat} {x:Act'} (h:l[i]? =some x):(holes l i)[i]? =some (va3 x):=by
 have hlt:=(Ah.1 h).1;have e:((l.take i).map hAct).length=i:=by rw [Ag,Ai];omega
 unfold holes;rw [List.getElem?_append_right zo,e,Ak,List.getElem?_map,List.getElem?_drop,Nat.add_zero,h];rfl
theorem qm9 {l:List Act'} {i:Nat} {x:Act'} (h:l[i]? =some x):(holes l i).set i (hAct x)=holes l (i+1):=by
 have hlt:=(Ah.1 h).1;have e:((l.take i).map hAct).length=i:=by rw [Ag,Ai];omega
 unfold holes;have hd:l.drop i=x::l.drop (i+1):=by rw [List.drop_eq_getElem_cons hlt,(Ah.1 h).2]
 rw [List.set_append_right _ _ zo,e,Ak,List.take_add_one,h,hd];simp
attribute [go_sem] qcv
abbrev sPw (a i:Nat) (w:vb8):vb8:= [(0,.rf 0),(1,.rf 1),(5,.a (.int .i64 a)),(6,.rf 2),(7,.a (.int .i64 i))]++w++ [(10000,.rf 0),(10001,.rf 1)]
abbrev nPw (bs:List Nat) (p:Nat) (h:List PV) (q:Bool) (l:List Act'):vb5:= [(0,nRd bs p),(1,some (.sl true 0 vak h)),(2,some (.sl q 0 vak (l.map va3)))]
theorem qii {d:Nat} {bs:List Nat} (hb:Bs bs) {p:Nat} (hp:p≤bs.length) (l:List Act') (hl:l.length≤100) (hK:Kp l) (a:Nat):
  ∃e,(∃(m:List Act') (q2:Bool) (q:Nat),q≤bs.length∧Kp m∧m.length≤2 * l.length∧e=⟨sPw a l.length [(17,.a (.bool false))],nPw bs q (holes l l.length) q2 m,403⟩)∧
  va7 (T (d+5)) vad [0,1,5,6,7,10000,10001] vdm ⟨sPw a 0 [],nPw bs p (l.map va3) false [],3⟩=some (.ext 0,e):=by
 refine vdk (fun r s=>∃(i:Nat) (m:List Act') (q2:Bool) (q:Nat),i+r=l.length∧q≤bs.length∧Kp m∧m.length≤2 * i∧s=⟨sPw a i [],nPw bs q (holes l i) q2 m,3⟩) 0 _ (m:=l.length) (vay zo) ⟨0,[],false,p,by omega,hp,fun x hx=>(by cases hx),by simp,rfl⟩ ?_
 rintro r _ hr ⟨i,m,q2,q,h1,hq,hm,hml,rfl⟩
 have hlm:m.length≤200:=by omega
 by_cases hi:i<l.length
 ·left;have hw:=vat i zo;have hlt:(i:Int)<l.length:=by omega
  obtain ⟨x,hx⟩:∃x,l[i]? =some x:=⟨_,List.getElem?_eq_getElem hi⟩
  have hkx:=hK x (List.mem_of_getElem? hx);have hH:=qcv l i;have hg:=qmr hx;have hs:=qm9 hx;rw [vq3] at hg;by_cases c0:(i:Int)=a
  ·obtain rfl:a=i:=by omega
   obtain ⟨v1,q1,hv1,hq1,g1⟩:=va5 (d:=d+3) hb hq 12 zo zo;obtain ⟨o1,q2',hq2,g2⟩:=vce (d:=d+2) hb hq1 8 zo zo;obtain ⟨pw,q3,g3,hq3⟩:∃(pw:Int) (q3:Nat),((o1=false∧pw=v1∧q3=q2')∨(o1=true∧vaf (T (d+4)) vad vck [cRd bs q2',.a (.int .i64 0),.a (.int .i64 40)]=some ([.a (.int .i64 pw)],[cRd bs q3])))∧q3≤bs.length:=by
    cases o1 with
    |false=>exact ⟨v1,q2',.inl ⟨rfl,rfl,rfl⟩,hq2⟩
    |true=>
     obtain ⟨v,q3,_,_,h3,g3⟩:=vi2 (d:=d+1) hb hq2 0 40 zo zo zo;exact ⟨v,q3,.inr ⟨rfl,g3⟩,h3⟩
   obtain ⟨o2,q4,hq4,g4⟩:=vce (d:=d+2) hb hq3 6 zo zo;cases o2 with
   |true=>
    refine ⟨by omega,_,?_,a+1,m++ [{x with power:=pw}],true,q4,by omega,hq4,Kp.snoc hm hkx,by rw [Ae,Af];omega,rfl⟩;rw [←hs];generalize holes l a=H at *;unfold round sPw nPw vdm;rw [vbt];dsimp only [Ac,Ad];rcases g3 with ⟨rfl,rfl,rfl⟩|⟨rfl,g3⟩
    ·simp -implicitDefEqProofs (disch:=first|exact zd|fail) only [go_sem,Aa,Ab,hH,hlt,hg,hw,g1,g2,g4]
     (show some _=some _;kernel_rfl)
    ·simp -implicitDefEqProofs (disch:=first|exact zd|fail) only [go_sem,Aa,Ab,hH,hlt,hg,hw,g1,g2,g3,g4]
     (show some _=some _;kernel_rfl)
   |false=>
    obtain ⟨k,q5,hk,hq5,g5⟩:=va5 (d:=d+3) hb hq4 12 zo zo;obtain ⟨X,q6,hX,hq6,g6⟩:=qdw (d:=d) hb hq5 k zo;obtain ⟨v3,q7,hv3,hq7,g7⟩:=va5 (d:=d+3) hb hq6 14 zo zo;have e1:IntKind.i64.wrap ((v3:Int)-5)=(v3:Int)-5:=by rw [vai]<;>omega
    refine ⟨by omega,_,?_,a+1,m++ [{x with power:=pw}]++ [⟨18,0,0,0,(v3:Int)-5,X⟩],true,q7,by omega,hq7,Kp.snoc (y:=⟨18,0,0,0,(v3:Int)-5,X⟩) (Kp.snoc (y:={x with power:=pw}) hm hkx) (show X.length≤100 by omega),by rw [Ae,Ae,Af,Af];omega,rfl⟩;rw [←hs];generalize holes l a=H at *;unfold round sPw nPw vdm;rw [vbt,vbt];dsimp only [Ac,Ad];rcases g3 with ⟨rfl,rfl,rfl⟩|⟨rfl,g3⟩
    ·simp (maxSteps:=3000000) -implicitDefEqProofs (disch:=first|exact zd|fail) only [go_sem,Aa,Ab,hH,hlt,hg,hw,g1,g2,g4,g5,g6,g7,e1]
     (show some _=some _;kernel_rfl)
    ·simp (maxSteps:=3000000) -implicitDefEqProofs (disch:=first|exact zd|fail) only [go_sem,Aa,Ab,hH,hlt,hg,hw,g1,g2,g3,g4,g5,g6,g7,e1]
     (show some _=some _;kernel_rfl)
  ·refine ⟨by omega,_,?_,i+1,m++ [x],true,q,by omega,hq,Kp.snoc hm hkx,by rw [Ae,Af];omega,rfl⟩;rw [←hs];generalize holes l i=H at *;unfold round sPw nPw vdm;rw [vbt];dsimp only [Ac,Ad];simp -implicitDefEqProofs (disch:=first|exact zd|fail) only [go_sem,Aa,Ab,hH,hlt,hg,c0,hw]
   (show some _=some _;kernel_rfl)
 ·right;have hlt:¬(i:Int)<l.length:=by omega
  obtain rfl:i=l.length:=by omega
  have hH:=qcv l l.length;refine ⟨_,?_,m,q2,q,hq,hm,hml,rfl⟩;generalize holes l l.length=H at *;unfold round sPw nPw vdm;dsimp only [Ac,Ad];simp -implicitDefEqProofs (disch:=first|exact zd|fail) only [go_sem,Aa,Ab,hH,hlt]
theorem qgm {d:Nat} {bs:List Nat} (hb:Bs bs) {p:Nat} (hp:p≤bs.length) (l:List Act') (hl:l.length≤100) (hK:Kp l):∃(m:List Act') (q:Nat),q≤bs.length∧Kp m∧m.length≤2 * l.length∧
  vaf (T (d+5)) vad vdu [cRd bs p,.sl false vak (l.map va3)]=some ([.sl false vak (m.map va3)],[cRd bs q,.sl false vak (holes l l.length)]):=by
 obtain ⟨a,q,ha,hq,h1⟩:=va5 (d:=d+3) hb hp l.length zo zo;obtain ⟨_,⟨m,q2,q',hq',hm,hml,rfl⟩,key⟩:=qii (d:=d) hb hq l hl hK a;refine ⟨m,q',hq',hm,hml,?_⟩;rw [vag rfl];unfold sPw nPw at key;dsimp only [Ac,Ad] at key;generalize holes l l.length=H at *;simp -implicitDefEqProofs (disch:=first|exact zd|fail) only [go_sem,Aa,Ab,vdu,vob,h1,vao key];done
theorem qzl (l:List Act'):(l.map va3).map PV.thaw=l.map va3:=by
 rw [List.map_map];apply List.map_congr_left;intro x _;rfl
attribute [go_sem] qzl
abbrev sHp (t:ByteArray) (i:Nat) (w:vb8):vb8:= [(4,.rf 0),(5,.a (.string t)),(6,.rf 1),(7,.a (.int .i64 i))]++w
abbrev nHp (bs:List Nat) (p:Nat) (l:List Act'):vb5:= [(0,nRd bs p),(1,some (.sl true 0 vak (l.map va3)))]
theorem qtv {bs:List Nat} {p:Nat} (t:ByteArray) (l:List Act') (hl:l.length≤1000) (hK:Kp l):
  ∃e,(∃(m:List Act'),Kp m∧m.length=l.length+61∧e=⟨sHp t 61 [(23,.a (.bool false))],nHp bs p m,202⟩)∧
  va7 Φ vad [4,5,6,7] vg2 ⟨sHp t 0 [],nHp bs p l,2⟩=some (.ext 0,e):=by
 refine vdk (fun r s=>∃(i:Nat) (m:List Act'),i+r=61∧Kp m∧m.length=l.length+i∧s=⟨sHp t i [],nHp bs p m,2⟩) 0 _ (m:=61) (vay zo) ⟨0,l,by omega,hK,rfl,rfl⟩ ?_
 rintro r _ hr ⟨i,m,h1,hm,hml,rfl⟩
 have hlm:m.length≤1100:=by omega
 by_cases hi:(i:Int)<61
 ·left;have hw:=vat i zo;refine ⟨by omega,_,?_,i+1,m++ [⟨15,0,0,0,0,[]⟩],by omega,Kp.snoc hm (by simp),by rw [Ae,Af];omega,rfl⟩;unfold round sHp nHp vg2;rw [vbt];dsimp only [Ac,Ad];simp -implicitDefEqProofs (disch:=first|exact zd|fail) only [go_sem,Aa,Ab,hi,hw]
  (show some _=some _;kernel_rfl)
 ·right;obtain rfl:i=61:=by omega
  refine ⟨_,?_,m,hm,hml,rfl⟩;unfold round sHp nHp vg2;dsimp only [Ac,Ad];simp -implicitDefEqProofs (disch:=first|exact zd|fail) only [go_sem,Aa,Ab,hi]
theorem vyk {d:Nat} {bs:List Nat} (hb:Bs bs):∃(t:ByteArray) (l:List Act'),Kp l∧l.length≤200∧
  vaf (T (d+13)) vad vcx [.sl true vcd (bs.map eU8)]=some ([.a (.string t),.sl false vak (l.map va3)],[]):=by
 have h0:vaf (T (d+12)) vad vhq [.sl true vcd (bs.map eU8)]=some ([cRd bs 0],[]):=qh0 (Φ:=T (d+12)) (N:=vad) (bs.map eU8);obtain ⟨im,l,q,hK,hl1,hl2,hq,h1⟩:=qoe (d:=d) hb (p:=0) zo 36 zo;rw [show ((36:Nat):Int)=36 from rfl] at h1;obtain ⟨o1,q1,hq1,h2⟩:=vce (d:=d+10) hb hq 3 zo zo;obtain ⟨l2,q2,hK2,hl2',hq2,hA⟩:∃(l2:List Act') (q2:Nat),Kp l2∧l2.length≤100∧q2≤bs.length∧((o1=false∧l2=l∧q2=q1)∨(o1=true∧vaf (T (d+12)) vad vdu [cRd bs q1,.sl false vak (l.map va3)]=some ([.sl false vak (l2.map va3)],[cRd bs q2,.sl false vak (holes l l.length)]))):=by
  cases o1 with
  |false=>exact ⟨l,q1,hK,by omega,hq1,.inl ⟨rfl,rfl,rfl⟩⟩
  |true=>
   obtain ⟨m,q2,h3,h4,h5,h6⟩:=qgm (d:=d+7) hb hq1 l zo hK;exact ⟨m,q2,h4,by omega,h3,.inr ⟨rfl,h6⟩⟩
 obtain ⟨o2,q3,hq3,h4⟩:=vce (d:=d+10) hb hq2 40 zo zo;cases o2 with
 |false=>
  refine ⟨im,l2,hK2,by omega,?_⟩;rw [vag rfl];generalize holes l l.length=H at *;rcases hA with ⟨rfl,rfl,rfl⟩|⟨rfl,h3⟩
  ·simp -implicitDefEqProofs (disch:=first|exact zd|fail) only [go_sem,Aa,Ab,vcx,vgf,h0,h1,h2,h4];done
  ·simp -implicitDefEqProofs (disch:=first|exact zd|fail) only [go_sem,Aa,Ab,vcx,vgf,h0,h1,h2,h3,h4];done
 |true=>
  obtain ⟨v,q4,hv,hq4,h5⟩:=va5 (d:=d+11) hb hq3 2 zo zo;obtain ⟨_,⟨m,hm,hml,rfl⟩,key⟩:=qtv (Φ:=T (d+13)) (bs:=bs) (p:=q3) im l2 zo hK2;have e1:IntKind.i64.wrap (60+(v:Int))=((60+v:Nat):Int):=by rw [vai]<;>omega
  have hv1:v<2:=by omega
  refine ⟨im,m.take (60+v),fun x hx=>hm x (List.mem_of_mem_take hx),by rw [Ai];omega,?_⟩;rw [vag rfl];unfold sHp nHp at key;dsimp only [Ac,Ad] at key;rw [List.map_take];generalize holes l l.length=H at *;rcases hA with ⟨rfl,rfl,rfl⟩|⟨rfl,h3⟩
  ·simp -implicitDefEqProofs (disch:=first|exact zd|fail) only [go_sem,Aa,Ab,vcx,vgf,h0,h1,h2,h4,vao key,h5,e1];done
  ·simp -implicitDefEqProofs (disch:=first|exact zd|fail) only [go_sem,Aa,Ab,vcx,vgf,h0,h1,h2,h3,h4,vao key,h5,e1];done
theorem vya {d:Nat} {bs:List Nat} (hb:Bs bs):∃(l:List Act'),Kp l∧l.length≤200∧
  vaf (T (d+14)) vad veu [.sl true vcd (bs.map eU8)]=some ([.sl false vak (l.map va3)],[]):=by
 obtain ⟨t,l,hK,hl,h⟩:=vyk (d:=d) hb;refine ⟨l,hK,hl,?_⟩;rw [vag rfl];simp -implicitDefEqProofs (disch:=first|exact zd|fail) only [go_sem,Aa,Ab,veu,voc,h]
theorem qjg (l:List Act'):strewn l []=if l.length≤60 then (l,true) else ([],false):=by
 have h:aS l [] (l.length+1)=l:=by rw [qqu,qiz l (l.length+1) 0 zo,List.drop_zero]
 unfold strewn;by_cases hn:l.length≤60
 ·rw [if_pos hn,if_pos ⟨rfl,by simpa using hn⟩,h]
 ·rw [if_neg hn,if_neg fun h=>hn (by simpa using h.2)]
theorem vx2 {d:Nat} (bs:List Nat) (hb:∀x∈bs,x<256) (hl:bs.length<9223372036854000000):vaf (T (d+15)) vad vcw [.sl true vcd (bs.map eU8)]=some ([.a (.bool true)],[]):=by
 have h0:=qra (Φ:=T (d+14)) (N:=vad) (bs.map eU8) (by rw [Ag];omega);rw [Ag] at h0;by_cases hbig:1048576<(bs.length:Int)
 ·rw [decide_eq_true hbig] at h0;rw [vag rfl];simp -implicitDefEqProofs (disch:=first|exact zd|fail) only [go_sem,Aa,Ab,vcw,vir,h0]
 ·rw [decide_eq_false hbig] at h0;obtain ⟨l,hK,hl1,h1⟩:=vya (d:=d) (bs:=bs) ⟨by omega,hb⟩;have hk:∀x∈l,x.keep.length≤1048576:=fun x hx=>by have:=hK x hx;omega
  have h2:=vyv (d:=d+12) l [] zo (by simp) hk;rw [qjg,Aj] at h2;have h3:=vqo (d:=d+12) l zo hk;by_cases hn:l.length≤60
  ·rw [if_pos hn] at h2;dsimp only at h2;have hc:¬((l.length:Int)>60):=by omega
   have h4:=vwv (d:=d+12) l zo hk;have h5:=vsy (d:=d+13) l zo hk;have g5:=qgh l;have hss:∀x∈strip l,x.keep.length≤1048576:=fun x hx=>by
    unfold strip at hx;rw [if_pos zo] at hx;exact hk x (List.mem_filter.1 hx).1
   have hsz:(strip l).length≤60:=by rw [strip,if_pos hn];exact Nat.le_trans (List.length_filter_le _ _) hn
   have h6:=vqo (d:=d+12) (strip l) zo hss;have h7:=vsy (d:=d+13) (strip l) zo hss;rw [g5] at h6;generalize strip l=s at *;rw [vag rfl];simp -implicitDefEqProofs (disch:=first|exact zd|fail) only [go_sem,Aa,Ab,vcw,vir,h0,h1,hc,h2,h3,h4,h5,h6,h7];done
  ·rw [if_neg hn,Aj] at h2;dsimp only at h2;have hc:(l.length:Int)>60:=by omega
   rw [show strip l= [] from if_neg hn] at h3;rw [vag rfl];simp -implicitDefEqProofs (disch:=first|exact zd|fail) only [go_sem,Aa,Ab,vcw,vir,h0,h1,hc,h2,h3,Aj];done

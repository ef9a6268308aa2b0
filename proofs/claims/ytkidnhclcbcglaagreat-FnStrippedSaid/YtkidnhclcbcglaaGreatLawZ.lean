/- Drawn images, and acts that mostly fit them. Drawn places among acts. Drawn acts and places. -/
import Derived.Test.YtkidnhclcbcglaaGreatLawY
import Derived.Test.YtkidnhclcbcglaaGreatLawAct0
namespace Go.Proofs.YtkidnhclcbcglaaGreat.VM
open Go Sy
variable {Φ:Nat→Option Callee} {N:Nat}
set_option maxRecDepth 100000
set_option maxHeartbeats 8000000
theorem qmb {d:Nat} {bs:List Nat} (hb:Bs bs) {p:Nat} (hp:p≤bs.length):∃(t:ByteArray) (q:Nat),t.size≤8193∧q≤bs.length∧
  vaf (T (d+11)) vab veq [cRd bs p]=some ([.a (.string t)],[cRd bs q]):=by
 obtain ⟨c,q1,hC,hD,hq1,h1⟩:=qi5 (d:=d+6) hb hp
 obtain ⟨o,q2,hq2,h2⟩:=vcy (d:=d+8) hb hq1 2 zo zo
 cases o with
 |true=>
  have h3:=vtt (d:=d+6) hC.sm
  have hz:=vp9 hC.okb
  have hl:=hC.l1
  refine ⟨vhv c,q2,by omega,hq2,?_⟩
  rw [vag rfl]
  generalize vhv c=im at *
  obtain ⟨L,G,Y,ts⟩:=c
  dsimp only at *
  simp (implicitDefEqProofs:=false) (disch:=first|exact zd|fail) only [go_sem,Nat.reduceAdd,Nat.reduceBEq,veq,vma,h1,h2,h3]
 |false=>
  obtain ⟨t,q3,ht,hq3,h3⟩:=qp1 (d:=d) hb hq2 hC hD
  refine ⟨t,q3,ht,hq3,?_⟩
  rw [vag rfl]
  obtain ⟨L,G,Y,ts⟩:=c
  dsimp only at *
  simp (implicitDefEqProofs:=false) (disch:=first|exact zd|fail) only [go_sem,Nat.reduceAdd,Nat.reduceBEq,veq,vma,h1,h2,h3]
theorem qtj {s:ByteArray} {k:Nat} (h:bAt s k=114):refAt s k=true:=by
 unfold refAt
 unfold bAt at h
 cases hb:(ch s)[k]? with
 |none=>rw [hb] at h;exact absurd h (by decide)
 |some b=>
  rw [hb,Option.getD_some] at h
  exact decide_eq_true zo
theorem Wok.dur {ts:List ByteArray} {g:Gr} (h:graphOk ts g=true) (h8:g.roots.length=8) (hn:g.nodes.length≤128):Wok ts 200 (w0 g):=by
 unfold graphOk at h
 simp only [Bool.and_eq_true,decide_eq_true_eq,List.all_eq_true] at h
 obtain ⟨_,_,_,hr,ho⟩:=h
 have rin:Rin g.nodes.length g.roots:=fun x hx=>by have:=hr x hx;unfold isN at this;exact of_decide_eq_true this
 refine ⟨by show g.nodes.length≤200;omega,by omega,fun o hx=> ?_,by show (List.replicate _ _).length=_;simp,h8,rin,rfl,fun x hx=>by rw [(List.mem_replicate.1 hx).2];omega,fun _ h=>(by cases h),by simp,fun h=>(by cases h),fun _ h=>(by cases h),by simp⟩
 have h1:=ho o hx
 unfold objOk at h1
 split at h1
 ·rename_i s hs
  simp only [Bool.and_eq_true,decide_eq_true_eq] at h1
  obtain ⟨h2,h3,h4⟩:=h1
  refine ⟨s,hs,h2,h3,fun j v hv hb=> ?_⟩
  have h5:=vtr.1 h4 j v hv
  rw [Nat.zero_add] at h5
  have hra:refAt s j=true:=qtj hb
  unfold badV at h5
  rw [hra,Bool.true_and,Bool.not_eq_false'] at h5
  unfold isN at h5
  exact of_decide_eq_true h5
 ·cases h1
theorem qsp:CfSm noCf:=⟨⟨by show (-9223372036854775000:Int)≤0;omega,by show (0:Int)≤9223372036854775000;omega⟩,Nat.zero_le _,fun s hs=>(by cases hs)⟩
abbrev cLit:Cf:=⟨20,6,24,[⟨#[105,114]⟩,⟨#[114,114,105]⟩]⟩
theorem qu6:CfSm cLit:=⟨⟨by show (-9223372036854775000:Int)≤20;omega,by show (20:Int)≤9223372036854775000;omega⟩,by show 2≤1048576;omega,fun s hs=>by rcases List.mem_cons.1 hs with rfl|hs;(show 2≤1048576;omega);rcases List.mem_cons.1 hs with rfl|hs;(show 3≤1048576;omega);cases hs⟩
theorem qsa:confOk cLit=true:=by kernel_rfl
theorem qtz:cCf true cLit= .st [.a (.int .i64 20),.a (.int .i64 6),.a (.int .i64 24),.sl true va9 [.a (.string ⟨#[105,114]⟩),.a (.string ⟨#[114,114,105]⟩)]]:=rfl
theorem qjb {d:Nat}:∃im:ByteArray,vaf (T (d+4)) vab vge [.st [.a (.int .i64 20),.a (.int .i64 6),.a (.int .i64 24),.sl true va9 [.a (.string ⟨#[105,114]⟩),.a (.string ⟨#[114,114,105]⟩)]]]=some ([.a (.string im)],[])∧im.size=1280:=by
 have h1:=vtt (d:=d) qu6
 have h2:=vp9 qsa
 rw [qtz] at h1
 generalize vhv cLit=im at h1 h2
 exact ⟨im,h1,h2⟩
theorem qqq {d:Nat} {bs:List Nat} (hb:Bs bs) {p:Nat} (hp:p≤bs.length) (most:Nat) (hm:most≤100):∃(t:ByteArray) (l:List Act') (q:Nat),Kp l∧1≤l.length∧l.length≤most+5∧q≤bs.length∧
  vaf (T (d+12)) vab vbj [cRd bs p,.a (.int .i64 (most:Nat))]=some ([.a (.string t),.sl false vaj (l.map vau)],[cRd bs q]):=by
 obtain ⟨im,q1,him,hq1,h1⟩:=qmb (d:=d) hb hp
 have h2:=qhe (d:=d+2) im zo
 obtain ⟨o,q2,hq2,h3⟩:=vcy (d:=d+9) hb hq1 8 zo zo
 obtain ⟨imF,hF,hFz⟩:=qjb (d:=d+7)
 obtain ⟨im2,q,him2,hq,hA⟩:∃(im2:ByteArray) (q:Nat),im2.size≤8193∧q≤bs.length∧((¬checked im≠0∧im2=im∧q=q1)∨(checked im≠0∧o=true∧im2=im∧q=q2)∨(checked im≠0∧o=false∧im2=imF∧q=q2)):=by
  by_cases c0:checked im≠0
  ·cases o
   ·exact ⟨imF,q2,by omega,hq2,.inr (.inr ⟨c0,rfl,rfl,rfl⟩)⟩
   ·exact ⟨im,q2,him,hq2,.inr (.inl ⟨c0,rfl,rfl,rfl⟩)⟩
  ·exact ⟨im,q1,him,hq1,.inl ⟨c0,rfl,rfl⟩⟩
 have h4:=vrq (d:=d+5) im2 zo
 obtain ⟨c,hc⟩:∃c,(confOf im2).getD noCf=c:=⟨_,rfl⟩
 have hcs:CfSm c:=by
  subst hc
  cases hx:confOf im2 with
  |none=>exact qsp
  |some c=>exact (vsu hx).2.1
 have h5:=qd5 (d:=d+2) hcs im2
 generalize (confOf im2).isSome=ok at h4
 rw [hc] at h4
 clear hc
 generalize hch:checked im=ch at *
 have ty:∀g,durOf c im2=some g→Ty23 c.types∧Wok c.types 200 (w0 g):=fun g hg=>by
  obtain ⟨hC,h1,h2,h3⟩:=qre hg
  exact ⟨⟨hC.n0,by have:=hC.n1;omega,fun s hs=>(hC.ty s hs).2⟩,Wok.dur h1 h2 h3⟩
 generalize durOf c im2=du at *
 cases du with
 |none=>
  refine ⟨im2,[⟨1,0,0,0,-1,[]⟩],q,fun y hy=>by simp at hy;subst hy;simp,by simp,by simp,hq,?_⟩
  rw [Option.getD_none,Option.isSome_none] at h5
  rw [vag rfl]
  clear ty
  cases ok
  ·skip
   clear hcs
   obtain ⟨L,G,Y,ts⟩:=c
   rcases hA with ⟨c0,rfl,rfl⟩|⟨c0,rfl,rfl,rfl⟩|⟨c0,rfl,rfl,rfl⟩
   ·simp (implicitDefEqProofs:=false) (disch:=first|exact zd|fail) only [go_sem,Nat.reduceAdd,Nat.reduceBEq,vbj,vby,h1,h2,c0,h4,h5,List.map_cons,List.map_nil]
   ·simp (implicitDefEqProofs:=false) (disch:=first|exact zd|fail) only [go_sem,Nat.reduceAdd,Nat.reduceBEq,vbj,vby,h1,h2,c0,h3,h4,h5,List.map_cons,List.map_nil]
   ·simp (implicitDefEqProofs:=false) (disch:=first|exact zd|fail) only [go_sem,Nat.reduceAdd,Nat.reduceBEq,vbj,vby,h1,h2,c0,h3,hF,h4,h5,List.map_cons,List.map_nil]
  ·skip
   clear hcs
   obtain ⟨L,G,Y,ts⟩:=c
   rcases hA with ⟨c0,rfl,rfl⟩|⟨c0,rfl,rfl,rfl⟩|⟨c0,rfl,rfl,rfl⟩
   ·simp (implicitDefEqProofs:=false) (disch:=first|exact zd|fail) only [go_sem,Nat.reduceAdd,Nat.reduceBEq,vbj,vby,h1,h2,c0,h4,h5,List.map_cons,List.map_nil]
   ·simp (implicitDefEqProofs:=false) (disch:=first|exact zd|fail) only [go_sem,Nat.reduceAdd,Nat.reduceBEq,vbj,vby,h1,h2,c0,h3,h4,h5,List.map_cons,List.map_nil]
   ·simp (implicitDefEqProofs:=false) (disch:=first|exact zd|fail) only [go_sem,Nat.reduceAdd,Nat.reduceBEq,vbj,vby,h1,h2,c0,h3,hF,h4,h5,List.map_cons,List.map_nil]
 |some g=>
  rw [Option.getD_some,Option.isSome_some] at h5
  obtain ⟨hT,I⟩:=ty g rfl
  clear ty
  cases ok with
  |false=>
   refine ⟨im2,[⟨1,0,0,0,-1,[]⟩],q,fun y hy=>by simp at hy;subst hy;simp,by simp,by simp,hq,?_⟩
   rw [vag rfl]
   clear hT I
   obtain ⟨rs,ns⟩:=g
   clear hcs
   obtain ⟨L,G,Y,ts⟩:=c
   rcases hA with ⟨c0,rfl,rfl⟩|⟨c0,rfl,rfl,rfl⟩|⟨c0,rfl,rfl,rfl⟩
   ·simp (implicitDefEqProofs:=false) (disch:=first|exact zd|fail) only [go_sem,Nat.reduceAdd,Nat.reduceBEq,vbj,vby,h1,h2,c0,h4,h5,List.map_cons,List.map_nil]
   ·simp (implicitDefEqProofs:=false) (disch:=first|exact zd|fail) only [go_sem,Nat.reduceAdd,Nat.reduceBEq,vbj,vby,h1,h2,c0,h3,h4,h5,List.map_cons,List.map_nil]
   ·simp (implicitDefEqProofs:=false) (disch:=first|exact zd|fail) only [go_sem,Nat.reduceAdd,Nat.reduceBEq,vbj,vby,h1,h2,c0,h3,hF,h4,h5,List.map_cons,List.map_nil]
  |true=>
   obtain ⟨o2,q3,hq3,h6⟩:=vcy (d:=d+9) hb hq 3 zo zo
   cases o2 with
   |true=>
    obtain ⟨l,q4,hK,hl1,hl2,hq4,h7⟩:=qo8 (d:=d+4) hb hq3 hT I most hm
    refine ⟨im2,l,q4,hK,hl1,by omega,hq4,?_⟩
    rw [vag rfl]
    clear hT I
    obtain ⟨rs,ns⟩:=g
    clear hcs
    obtain ⟨L,G,Y,ts⟩:=c
    dsimp only at *
    rcases hA with ⟨c0,rfl,rfl⟩|⟨c0,rfl,rfl,rfl⟩|⟨c0,rfl,rfl,rfl⟩
    ·simp (implicitDefEqProofs:=false) (disch:=first|exact zd|fail) only [go_sem,Nat.reduceAdd,Nat.reduceBEq,vbj,vby,h1,h2,c0,h4,h5,h6,h7]
    ·simp (implicitDefEqProofs:=false) (disch:=first|exact zd|fail) only [go_sem,Nat.reduceAdd,Nat.reduceBEq,vbj,vby,h1,h2,c0,h3,h4,h5,h6,h7]
    ·simp (implicitDefEqProofs:=false) (disch:=first|exact zd|fail) only [go_sem,Nat.reduceAdd,Nat.reduceBEq,vbj,vby,h1,h2,c0,h3,hF,h4,h5,h6,h7]
   |false=>
    obtain ⟨l,q4,hK,hl1,hl2,hq4,h7⟩:=qnn (d:=d+4) hb hq3 hT I most hm
    refine ⟨im2,l,q4,hK,hl1,by omega,hq4,?_⟩
    rw [vag rfl]
    clear hT I
    obtain ⟨rs,ns⟩:=g
    clear hcs
    obtain ⟨L,G,Y,ts⟩:=c
    dsimp only at *
    rcases hA with ⟨c0,rfl,rfl⟩|⟨c0,rfl,rfl,rfl⟩|⟨c0,rfl,rfl,rfl⟩
    ·simp (implicitDefEqProofs:=false) (disch:=first|exact zd|fail) only [go_sem,Nat.reduceAdd,Nat.reduceBEq,vbj,vby,h1,h2,c0,h4,h5,h6,h7]
    ·simp (implicitDefEqProofs:=false) (disch:=first|exact zd|fail) only [go_sem,Nat.reduceAdd,Nat.reduceBEq,vbj,vby,h1,h2,c0,h3,h4,h5,h6,h7]
    ·simp (implicitDefEqProofs:=false) (disch:=first|exact zd|fail) only [go_sem,Nat.reduceAdd,Nat.reduceBEq,vbj,vby,h1,h2,c0,h3,hF,h4,h5,h6,h7]
theorem qz2 (l:List Strew):nfzL (l.map vcv)=true:=vpo (fun _=>rfl) l
attribute [go_sem] qz2
abbrev sWr (n i:Int) (w:vcf):vcf:= [(0,.rf 0),(1,.a (.int .i64 n)),(5,.rf 1),(6,.a (.int .i64 i))]++w++ [(10000,.rf 0)]
abbrev nWr (bs:List Nat) (p:Nat) (l:List Strew):vb5:= [(0,nRd bs p),(1,some (.sl false 0 vbu (l.map vcv)))]
theorem qk9 {d:Nat} {bs:List Nat} (hb:Bs bs) {p:Nat} (hp:p≤bs.length) (n i:Int) (l:List Strew) (hl:l.length≤100) (k:Int) (hk:k≤2) (hk0: -3≤k):
  ∃e,(∃(l':List Strew) (q:Nat) (k':Int),l'.length≤l.length+2∧q≤bs.length∧e=⟨sWr n i [(7,.a (.int .i64 k')),(23,.a (.bool false))],nWr bs q l',202⟩)∧
  va4 (T (d+2)) vab [0,1,5,6,7,10000] vhh ⟨sWr n i [(7,.a (.int .i64 k))],nWr bs p l,2⟩=some (.ext 2,e):=by
 refine vdi (fun r s=>∃(k':Int) (l':List Strew) (q:Nat),k'.toNat≤r∧k'≤2∧-3≤k'∧l'.length+k'.toNat≤l.length+2∧q≤bs.length∧s=⟨sWr n i [(7,.a (.int .i64 k'))],nWr bs q l',2⟩) 2 _ (m:=2) (vaw zo) ⟨k,l,p,by omega,hk,hk0,by omega,hp,rfl⟩ ?_
 rintro r _ hr ⟨k,l',p,h1,h2,h3,h4,hp,rfl⟩
 by_cases hpos:k>0
 ·left
  obtain ⟨a,q1,ha,hq1,g1⟩:=va6 (d:=d) hb hp 3 zo zo
  obtain ⟨b,q2,hb2,hq2,g2⟩:=va6 (d:=d) hb hq1 20 zo zo
  have e1:IntKind.i64.wrap (15+(a:Int))=15+(a:Int):=by rw [vai]<;>omega
  have e2:IntKind.i64.wrap (k-1)=k-1:=by rw [vai]<;>omega
  have hlm:l'.length≤102:=by omega
  refine ⟨by omega,_,?_,k-1,l'++ [⟨i,15+(a:Int),b⟩],q2,by omega,by omega,by omega,by rw [List.length_append,List.length_singleton];omega,hq2,rfl⟩
  unfold round sWr nWr vhh
  rw [vbx]
  dsimp only [List.cons_append,List.nil_append]
  simp (implicitDefEqProofs:=false) (disch:=first|exact zd|fail) only [go_sem,Nat.reduceAdd,Nat.reduceBEq,hpos,g1,g2,e1,e2]
  (show some _=some _;kernel_rfl)
 ·right
  refine ⟨_,?_,l',p,k,by omega,hp,rfl⟩
  unfold round sWr nWr vhh
  dsimp only [List.cons_append,List.nil_append]
  simp (implicitDefEqProofs:=false) (disch:=first|exact zd|fail) only [go_sem,Nat.reduceAdd,Nat.reduceBEq,hpos]
theorem qns {d:Nat} {bs:List Nat} (hb:Bs bs) {p:Nat} (hp:p≤bs.length) (n:Nat) (hn:n≤1000):
  ∃e,(∃(l':List Strew) (q:Nat) (i:Int),l'.length≤25∧q≤bs.length∧e=⟨sWr n i [(16,.a (.bool false))],nWr bs q l',802⟩)∧
  va4 (T (d+2)) vab [0,1,5,6,10000] vfj ⟨sWr n (0:Nat) [],nWr bs p [],2⟩=some (.ext 0,e):=by
 refine vdi (fun r s=>∃(i:Nat) (l':List Strew) (q:Nat),i+r=n+1∧l'.length≤25∧q≤bs.length∧s=⟨sWr n i [],nWr bs q l',2⟩) 0 _ (m:=n+1) (vaw zo) ⟨0,[],p,by omega,by simp,hp,rfl⟩ ?_
 rintro r _ hr ⟨i,l',p,h1,h2,hp,rfl⟩
 by_cases c1:(i:Int)≤n
 ·by_cases c2:(l'.length:Int)<24
  ·left
   obtain ⟨a,q1,ha,hq1,g1⟩:=va6 (d:=d) hb hp 6 zo zo
   have e1:IntKind.i64.wrap ((a:Int)-3)=(a:Int)-3:=by rw [vai]<;>omega
   obtain ⟨_,⟨l2,q2,k2,hl2,hq2,rfl⟩,g2⟩:=qk9 (d:=d) hb hq1 n i l' zo ((a:Int)-3) zo zo
   have hw:=var i zo
   refine ⟨by omega,_,?_,i+1,l2,q2,by omega,by omega,hq2,rfl⟩
   unfold sWr nWr at g2
   unfold round sWr nWr vfj
   dsimp only [List.cons_append,List.nil_append] at *
   simp (implicitDefEqProofs:=false) (disch:=first|exact zd|fail) only [go_sem,Nat.reduceAdd,Nat.reduceBEq,c1,c2,g1,e1,van g2,hw]
   (show some _=some _;kernel_rfl)
  ·right
   refine ⟨_,?_,l',p,i,h2,hp,rfl⟩
   unfold round sWr nWr vfj
   dsimp only [List.cons_append,List.nil_append]
   simp (implicitDefEqProofs:=false) (disch:=first|exact zd|fail) only [go_sem,Nat.reduceAdd,Nat.reduceBEq,c1,c2]
 ·right
  refine ⟨_,?_,l',p,i,h2,hp,rfl⟩
  unfold round sWr nWr vfj
  dsimp only [List.cons_append,List.nil_append]
  simp (implicitDefEqProofs:=false) (disch:=first|exact zd|fail) only [go_sem,Nat.reduceAdd,Nat.reduceBEq,c1]
theorem qi2 {d:Nat} {bs:List Nat} (hb:Bs bs) {p:Nat} (hp:p≤bs.length) (n:Nat) (hn:n≤1000):∃(l:List Strew) (q:Nat),l.length≤25∧q≤bs.length∧
  vaf (T (d+2)) vab vfb [cRd bs p,.a (.int .i64 (n:Nat))]=some ([.sl false vbu (l.map vcv)],[cRd bs q]):=by
 obtain ⟨_,⟨l,q,i,hl,hq,rfl⟩,key⟩:=qns (d:=d) hb hp n hn
 refine ⟨l,q,hl,hq,?_⟩
 rw [vag rfl]
 unfold sWr nWr at key
 dsimp only [List.cons_append,List.nil_append] at key
 simp (implicitDefEqProofs:=false) (disch:=first|exact zd|fail) only [go_sem,Nat.reduceAdd,Nat.reduceBEq,vfb,vp6,van key]
 done
abbrev nDs (l:List Act') (w:List Strew):vb5:= [(0,some (.sl true 0 vaj (l.map vau))),(1,some (.sl true 0 vbu (w.map vcv)))]
theorem qd6 (l:List Act') (hl:l.length≤100) (w:List Strew) (hw:w.length≤25) (v:Nat) (hv:v≤1000):∃e,(∃(w':List Strew) (i:Int),w'.length≤100∧e=⟨[(6,.rf 0),(7,.rf 1),(8,.a (.int .i64 (v:Nat))),(9,.a (.int .i64 i)),(62,.a (.bool false))],nDs l w',1302⟩)∧
  va4 Φ vab [6,7,8,9] vfw ⟨[(6,.rf 0),(7,.rf 1),(8,.a (.int .i64 (v:Nat))),(9,.a (.int .i64 (0:Nat)))],nDs l w,2⟩=some (.ext 1,e):=by
 refine vdi (fun r s=>∃(i:Nat) (w':List Strew),i+r=61∧w'.length≤25+i∧s=⟨[(6,.rf 0),(7,.rf 1),(8,.a (.int .i64 (v:Nat))),(9,.a (.int .i64 (i:Nat)))],nDs l w',2⟩) 1 _ (m:=61) (vaw zo) ⟨0,w,by omega,by omega,rfl⟩ ?_
 rintro r _ hr ⟨i,w',h1,h2,rfl⟩
 have e1:IntKind.i64.wrap ((l.length:Int)+w'.length)=(l.length:Int)+w'.length:=by rw [vai]<;>omega
 obtain ⟨m,hm0,hm⟩:∃m:Int,Int.tmod (v:Int) 2=m∧(0≤m∧m<2):=⟨_,rfl,by rw [show Int.tmod (v:Int) 2=((v%2:Nat):Int) from (Int.ofNat_tmod _ 2).symm];omega⟩
 have e2:IntKind.i64.wrap (60+m)=60+m:=by rw [vai]<;>omega
 have hlm:w'.length≤100:=by omega
 by_cases c1:(i:Int)<61
 ·by_cases c2:(l.length:Int)+w'.length<60+m
  ·left
   have hw:=var i zo
   refine ⟨by omega,_,?_,i+1,w'++ [⟨l.length,16,0⟩],by omega,by rw [List.length_append,List.length_singleton];omega,rfl⟩
   unfold round nDs vfw
   rw [vbx]
   simp (implicitDefEqProofs:=false) (disch:=first|exact zd|fail) only [go_sem,Nat.reduceAdd,Nat.reduceBEq,c1,e1,hm0,e2,c2,hw]
   (show some _=some _;kernel_rfl)
  ·right
   refine ⟨_,?_,w',i,by omega,rfl⟩
   unfold round nDs vfw
   simp (implicitDefEqProofs:=false) (disch:=first|exact zd|fail) only [go_sem,Nat.reduceAdd,Nat.reduceBEq,c1,e1,hm0,e2,c2]
 ·right
  refine ⟨_,?_,w',i,by omega,rfl⟩
  unfold round nDs vfw
  simp (implicitDefEqProofs:=false) (disch:=first|exact zd|fail) only [go_sem,Nat.reduceAdd,Nat.reduceBEq,c1]
theorem qav (l:List Strew) (m:Nat) (a b c:Int):(l.map vcv).set m (.st [.a (.int .i64 a),.a (.int .i64 b),.a (.int .i64 c)])=(l.set m ⟨a,b,c⟩).map vcv:=by
 show (l.map vcv).set m (vcv ⟨a,b,c⟩)=_
 exact (List.map_set (f:=vcv)).symm
theorem qbb {d:Nat} {bs:List Nat} (hb:Bs bs):∃(l:List Act') (w:List Strew),Kp l∧1≤l.length∧l.length≤35∧w.length≤100∧
  vaf (T (d+13)) vab vc1 [.sl true vcg (bs.map eU8)]=some ([.sl false vaj (l.map vau),.sl false vbu (w.map vcv)],[]):=by
 have h0:vaf (T (d+12)) vab vhy [.sl true vcg (bs.map eU8)]=some ([cRd bs 0],[]):=qkf (Φ:=T (d+12)) (N:=vab) (bs.map eU8)
 obtain ⟨im,l,q,hK,hl1,hl2,hq,h1⟩:=qqq (d:=d) hb (p:=0) zo 30 zo
 rw [show ((30:Nat):Int)=30 from rfl] at h1
 obtain ⟨w,q2,hw,hq2,h2⟩:=qi2 (d:=d+10) hb hq l.length zo
 by_cases c0:(w.length:Int)>0
 ·obtain ⟨v,q3,hv,hq3,h3⟩:=vhb (d:=d+11) hb hq2 w.length zo
  obtain ⟨u,q4,hu,hq4,h4⟩:=va6 (d:=d+11) hb hq3 16 zo zo
  have hvl:v<w.length:=by omega
  obtain ⟨x,hx⟩:∃x,w[v]? =some x:=⟨_,List.getElem?_eq_getElem hvl⟩
  obtain ⟨xa,xk,xn⟩:=x
  by_cases u0:(u:Int)=0
  ·obtain ⟨y,q5,_,_,hq5,h5⟩:=vio (d:=d+9) hb hq4 0 l.length zo zo zo
   refine ⟨l,w.set v ⟨y,xk,xn⟩,hK,hl1,by omega,by rw [List.length_set];omega,?_⟩
   rw [vag rfl]
   simp (implicitDefEqProofs:=false) (disch:=first|exact zd|fail) only [go_sem,Nat.reduceAdd,Nat.reduceBEq,vc1,vf5,h0,h1,h2,c0,h3,h4,u0,h5,hx,qav]
   done
  ·by_cases u1:(u:Int)=1
   ·obtain ⟨y,q5,_,_,hq5,h5⟩:=vio (d:=d+9) hb hq4 15 17 zo zo zo
    refine ⟨l,w.set v ⟨xa,y,xn⟩,hK,hl1,by omega,by rw [List.length_set];omega,?_⟩
    rw [vag rfl]
    simp (implicitDefEqProofs:=false) (disch:=first|exact zd|fail) only [go_sem,Nat.reduceAdd,Nat.reduceBEq,vc1,vf5,h0,h1,h2,c0,h3,h4,u1,h5,hx,qav]
    done
   ·by_cases u2:(u:Int)=2
    ·obtain ⟨_,⟨w',i,hw',rfl⟩,key⟩:=qd6 (Φ:=T (d+13)) l zo w hw v zo
     refine ⟨l,w',hK,hl1,by omega,hw',?_⟩
     rw [vag rfl]
     unfold nDs at key
     simp (implicitDefEqProofs:=false) (disch:=first|exact zd|fail) only [go_sem,Nat.reduceAdd,Nat.reduceBEq,vc1,vf5,h0,h1,h2,c0,h3,h4,u2,van key]
     done
    ·refine ⟨l,w,hK,hl1,by omega,by omega,?_⟩
     rw [vag rfl]
     simp (implicitDefEqProofs:=false) (disch:=first|exact zd|fail) only [go_sem,Nat.reduceAdd,Nat.reduceBEq,vc1,vf5,h0,h1,h2,c0,h3,h4,u0,u1,u2]
     done
 ·refine ⟨l,w,hK,hl1,by omega,by omega,?_⟩
  rw [vag rfl]
  simp (implicitDefEqProofs:=false) (disch:=first|exact zd|fail) only [go_sem,Nat.reduceAdd,Nat.reduceBEq,vc1,vf5,h0,h1,h2,c0]
  done
end Go.Proofs.YtkidnhclcbcglaaGreat.VM


/- Drawn pairs of graphs. -/
import Derived.Test.YtjdcidigbbbckaaDoorLawDraw2
namespace Go.Proofs.YtjdcidigbbbckaaDoor.VM
open Go Sy
variable {Φ:Nat→Option Callee} {N:Nat}
set_option maxHeartbeats 4000000
abbrev nA (bs:List Nat) (ts:List ByteArray) (q:Nat) (g:Gr) (X:List Int) (L:List Obj'):hjc:= [(0,some (.bx false [.rf 6,.rf 7])),(1,some (.bx false [.rf 8,.rf 9])),(2,nRd bs q),(3,some (.sl true 0 mz (List.map eStr ts))),(4,some (.bx false [.rf 10,.rf 11])),(5,some (.bx false [.rf 12,.rf 13])),(6,some (.sl false 0 oz [])),(7,some (.sl false 0 gz [])),(8,some (.sl false 0 oz [])),(9,some (.sl false 0 gz [])),(10,some (.sl true 0 oz (List.map eInt g.roots))),(11,some (.sl true 0 gz (List.map eObj g.nodes))),(12,some (.sl false 0 oz (X.map eInt))),(13,some (.sl false 0 gz (L.map eObj)))]
abbrev sA (n t:Nat) (r:eqc):eqc:=(3,.rf 0)::(4,.rf 1)::(5,.rf 2)::(6,.rf 3)::(7,.rf 4)::(8,.rf 5)::(9,.a (.int .i64 n))::(10,.a (.int .i64 t))::r
theorem ezj {d:Nat} (bs:List Nat) (ts:List ByteArray) (q t:Nat) (g:Gr) (h1:1≤g.nodes.length) (hr:g.roots.length≤1000): ∃e,(∃X:List Int,X.length=g.roots.length∧e=⟨sA g.nodes.length t [(11,.a (.int .i64 X.length)),(39,.a (.bool false))],nA bs ts q g X [],514⟩)∧
 tzb (T (d+1)) fuel [3,4,5,6,7,8,9,10,11] fxb ⟨sA g.nodes.length t [(11,.a (.int .i64 (0:Nat)))],nA bs ts q g [] [],14⟩=some (.ext 0,e):=by
 refine mxc (fun r w=> ∃X:List Int,X.length+r=g.roots.length∧w=⟨sA g.nodes.length t [(11,.a (.int .i64 X.length))],nA bs ts q g X [],14⟩) 0 _ (m:=g.roots.length) (sq (by omega)) ⟨[],by simp,rfl⟩ ?_
 rintro r w hr ⟨X,hX,rfl⟩
 by_cases hpos:0<r
 ·left
  have hw:=gj X.length (by omega)
  have hlt:(X.length:Int)<g.roots.length:=by omega
  obtain ⟨v,hv⟩: ∃v,g.roots[X.length]? =some v:=⟨_,List.getElem?_eq_getElem (by omega)⟩
  have hil:X.length<g.roots.length:=by omega
  obtain ⟨u,he⟩:=ijf (Φ:=T d) (N:=fuel) v t g.nodes.length h1
  refine ⟨hpos,_,?_,X++ [u],by simp;omega,rfl⟩
  rw [List.length_append]
  unfold nA sA
  rw [zqb]
  unfold yz fxb
  simp (maxSteps:=3000000) (implicitDefEqProofs:=false) (disch:=first|assumption|(refine ofR ?_;show norm _ _=_;kernel_rfl)|(refine ofR ?_;show okD _ _ _ _=true;kernel_rfl)|exact ofR (by with_unfolding_all rfl)|exact ofB (by with_unfolding_all rfl)|omega|(simp only [go_sem,bz];omega)) only [go_sem,Nat.reduceAdd,Nat.reduceBEq,he,hw,hlt,hv]
  (show some _=some _;kernel_rfl)
 ·right
  have hlt: ¬(X.length:Int)<g.roots.length:=by omega
  refine ⟨_,?_,X,by omega,rfl⟩
  unfold yz nA sA fxb
  simp (maxSteps:=3000000) (implicitDefEqProofs:=false) (disch:=first|assumption|(refine ofR ?_;show norm _ _=_;kernel_rfl)|(refine ofR ?_;show okD _ _ _ _=true;kernel_rfl)|exact ofR (by with_unfolding_all rfl)|exact ofB (by with_unfolding_all rfl)|omega|(simp only [go_sem,bz];omega)) only [go_sem,Nat.reduceAdd,Nat.reduceBEq,hlt]
abbrev nB (bs:List Nat) (ts:List ByteArray) (q:Nat) (g:Gr) (X:List Int) (L:List Obj') (j t:Nat) (V:List Int):hjc:= [(0,some (.bx false [.rf 8,.rf 9])),(1,some (.bx false [.rf 10,.rf 11])),(2,nRd bs q),(3,some (.sl true 0 mz (List.map eStr ts))),(4,some (.bx false [.rf 12,.rf 13])),(5,some (.bx false [.rf 14,.rf 15])),(6,some (.bx false [.a (.int .i64 t),.ri 13 0 [(j,2,1)]])),(7,some (.bx false [.a (.int .i64 t),.rf 16])),(8,some (.sl false 0 oz [])),(9,some (.sl false 0 gz [])),(10,some (.sl false 0 oz [])),(11,some (.sl false 0 gz [])),(12,some (.sl true 0 oz (List.map eInt g.roots))),(13,some (.sl true 0 gz (List.map eObj g.nodes))),(14,some (.sl false 0 oz (X.map eInt))),(15,some (.sl false 0 gz (L.map eObj))),(16,some (.sl false 0 oz (V.map eInt)))]
theorem czj {d:Nat} (bs:List Nat) (ts:List ByteArray) (q r i j:Nat) (g:Gr) (X:List Int) (L:List Obj') (h1:1≤g.nodes.length) {o:Obj'} (ho:g.nodes[j]? =some o) {t:Nat} (ht:o.ty=(t:Int)) {s:ByteArray} (hs:ts[t]? =some s) (hz:o.vals.length=s.size) (hl:s.size≤1000):
 ∃e,(∃V:List Int,V.length=s.size∧e=⟨sA g.nodes.length r [(12,.a (.int .i64 i)),(13,.rf 6),(14,.rf 7),(15,.a (.int .i64 V.length)),(76,.a (.bool false))],nB bs ts q g X L j t V,517⟩)∧
 tzb (T (d+1)) fuel [3,4,5,6,7,8,9,10,12,13,14,15] ijb ⟨sA g.nodes.length r [(12,.a (.int .i64 i)),(13,.rf 6),(14,.rf 7),(15,.a (.int .i64 (0:Nat)))],nB bs ts q g X L j t [],17⟩=some (.ext 4,e):=by
 have htl:t<ts.length:=(List.getElem?_eq_some_iff.1 hs).1
 have hjl:j<g.nodes.length:=(List.getElem?_eq_some_iff.1 ho).1
 refine mxc (fun m w=> ∃V:List Int,V.length+m=s.size∧w=⟨sA g.nodes.length r [(12,.a (.int .i64 i)),(13,.rf 6),(14,.rf 7),(15,.a (.int .i64 V.length))],nB bs ts q g X L j t V,17⟩) 4 _ (m:=s.size) (sq (by omega)) ⟨[],by simp,rfl⟩ ?_
 rintro m w hm ⟨V,hV,rfl⟩
 by_cases hpos:0<m
 ·left
  have hw:=gj V.length (by omega)
  have hlt:(V.length:Int)<o.vals.length:=by omega
  have hil:V.length<o.vals.length:=by omega
  obtain ⟨v,hv⟩: ∃v,o.vals[V.length]? =some v:=⟨_,List.getElem?_eq_getElem (by omega)⟩
  obtain ⟨b,hb⟩: ∃b,(ch s)[V.length]? =some b:=⟨_,List.getElem?_eq_getElem (by rw [←uxc];omega)⟩
  have hx:=pkd hb
  obtain ⟨u,he⟩:=ijf (Φ:=T d) (N:=fuel) v r g.nodes.length h1
  by_cases c:(b.toNat:Int)=114
  ·refine ⟨hpos,_,?_,V++ [u],by simp;omega,rfl⟩
   rw [List.length_append]
   unfold nB sA
   rw [zqb]
   unfold yz ijb
   simp (maxSteps:=3000000) (implicitDefEqProofs:=false) (disch:=first|assumption|(refine ofR ?_;show norm _ _=_;kernel_rfl)|(refine ofR ?_;show okD _ _ _ _=true;kernel_rfl)|exact ofR (by with_unfolding_all rfl)|exact ofB (by with_unfolding_all rfl)|omega|(simp only [go_sem,bz];omega)) only [go_sem,Nat.reduceAdd,Nat.reduceBEq,ho,he,hw,hlt,hv,hs,hx,c]
   (show some _=some _;kernel_rfl)
  ·refine ⟨hpos,_,?_,V++ [v],by simp;omega,rfl⟩
   rw [List.length_append]
   unfold nB sA
   rw [zqb]
   unfold yz ijb
   simp (maxSteps:=3000000) (implicitDefEqProofs:=false) (disch:=first|assumption|(refine ofR ?_;show norm _ _=_;kernel_rfl)|(refine ofR ?_;show okD _ _ _ _=true;kernel_rfl)|exact ofR (by with_unfolding_all rfl)|exact ofB (by with_unfolding_all rfl)|omega|(simp only [go_sem,bz];omega)) only [go_sem,Nat.reduceAdd,Nat.reduceBEq,ho,hw,hlt,hv,hs,hx,c]
   (show some _=some _;kernel_rfl)
 ·right
  have hlt: ¬(V.length:Int)<o.vals.length:=by omega
  refine ⟨_,?_,V,by omega,rfl⟩
  unfold yz nB sA ijb
  simp (maxSteps:=3000000) (implicitDefEqProofs:=false) (disch:=first|assumption|(refine ofR ?_;show norm _ _=_;kernel_rfl)|(refine ofR ?_;show okD _ _ _ _=true;kernel_rfl)|exact ofR (by with_unfolding_all rfl)|exact ofB (by with_unfolding_all rfl)|omega|(simp only [go_sem,bz];omega)) only [go_sem,Nat.reduceAdd,Nat.reduceBEq,ho,hlt]
theorem dzj {d:Nat} (bs:List Nat) (ts:List ByteArray) (q r:Nat) (g:Gr) (X:List Int) (h1:1≤g.nodes.length) (hn:g.nodes.length≤1000) (hr:r<g.nodes.length) (hG:GSh ts g.nodes) (hz: ∀s∈ts,s.size≤1000):
 ∃e,(∃L:List Obj',L.length=g.nodes.length∧GSh ts L∧e=⟨sA g.nodes.length r [(12,.a (.int .i64 L.length)),(57,.a (.bool false))],nA bs ts q g X L,314⟩)∧
 tzb (T (d+1)) fuel [3,4,5,6,7,8,9,10,12] exb ⟨sA g.nodes.length r [(12,.a (.int .i64 (0:Nat)))],nA bs ts q g X [],14⟩=some (.ext 2,e):=by
 refine mxc (fun m w=> ∃L:List Obj',L.length+m=g.nodes.length∧GSh ts L∧w=⟨sA g.nodes.length r [(12,.a (.int .i64 L.length))],nA bs ts q g X L,14⟩) 2 _ (m:=g.nodes.length) (sq (by omega)) ⟨[],by simp,fun o ho=>by simp at ho,rfl⟩ ?_
 rintro m w hm ⟨L,hL,hS,rfl⟩
 by_cases hpos:0<m
 ·left
  have hw:=gj L.length (by omega)
  have hlt:(L.length:Int)<g.nodes.length:=by omega
  have e1:IntKind.i64.wrap ((L.length:Int)+r)=((L.length+r:Nat):Int):=by rw [aq]<;>omega
  have e2:Int.tmod ((L.length+r:Nat):Int) g.nodes.length=(((L.length+r)%g.nodes.length:Nat):Int):=(Int.ofNat_tmod _ _).symm
  have e3:IntKind.i64.wrap ((((L.length+r)%g.nodes.length:Nat):Int))=(((L.length+r)%g.nodes.length:Nat):Int):=by
   have:=Nat.mod_lt (L.length+r) (show g.nodes.length>0 by omega)
   rw [aq]<;>omega
  have h0:(g.nodes.length:Int)≠0:=by omega
  have hjl:(L.length+r)%g.nodes.length<g.nodes.length:=Nat.mod_lt _ (by omega)
  obtain ⟨o,ho⟩: ∃o,g.nodes[(L.length+r)%g.nodes.length]? =some o:=⟨_,List.getElem?_eq_getElem hjl⟩
  obtain ⟨t,s,t1,t2,t3⟩:=hG o (List.mem_of_getElem? ho)
  obtain ⟨_,⟨V,hV,rfl⟩,key⟩:=czj (d:=d) bs ts q r L.length ((L.length+r)%g.nodes.length) g X L h1 ho t1 t2 t3 (hz s (List.mem_of_getElem? t2))
  unfold sA nB at key
  refine ⟨hpos,_,?_,L++ [⟨t,V⟩],by simp;omega,hS.snoc rfl t2 hV,rfl⟩
  rw [List.length_append]
  unfold nA sA
  rw [zqb]
  unfold yz exb
  generalize (L.length+r)%g.nodes.length=j at*
  simp (maxSteps:=3000000) (implicitDefEqProofs:=false) (disch:=first|assumption|(refine ofR ?_;show norm _ _=_;kernel_rfl)|(refine ofR ?_;show okD _ _ _ _=true;kernel_rfl)|exact ofR (by with_unfolding_all rfl)|exact ofB (by with_unfolding_all rfl)|omega|(simp only [go_sem,bz];omega)) only [go_sem,Nat.reduceAdd,Nat.reduceBEq,hw,hlt,e1,e2,e3,h0,ho,t1,wj key]
  (show some _=some _;kernel_rfl)
 ·right
  have hlt: ¬(L.length:Int)<g.nodes.length:=by omega
  refine ⟨_,?_,L,by omega,hS,rfl⟩
  unfold yz nA sA exb
  simp (maxSteps:=3000000) (implicitDefEqProofs:=false) (disch:=first|assumption|(refine ofR ?_;show norm _ _=_;kernel_rfl)|(refine ofR ?_;show okD _ _ _ _=true;kernel_rfl)|exact ofR (by with_unfolding_all rfl)|exact ofB (by with_unfolding_all rfl)|omega|(simp only [go_sem,bz];omega)) only [go_sem,Nat.reduceAdd,Nat.reduceBEq,hlt]
theorem GSh.vals {ts:List ByteArray} (ht:DT ts) {l:List Obj'} (h:GSh ts l): ∀o∈l,1≤o.vals.length∧o.vals.length≤23:=fun o ho=>by
 obtain ⟨t,s,e1,e2,e3⟩:=h o ho
 have:=ht.lo s (List.mem_of_getElem? e2)
 have:=ht.hi s (List.mem_of_getElem? e2)
 omega
theorem sqf {d:Nat} {bs:List Nat} (hb:Bs bs): ∃(ts:List ByteArray) (g h:Gr),DT ts∧Small ts g∧Small ts h∧g.nodes.length≤12∧h.nodes.length≤12∧
 fj (T (d+5)) fuel tk [.sl true t_u8 (bs.map eU8)]=some ([.sl false mz (ts.map eStr),cGr false g,cGr false h],[]):=by
 have h1:=szh (Φ:=T (d+4)) (N:=fuel) (bs.map eU8)
 obtain ⟨ts,q1,ht,hq1,he1⟩:=hxh (d:=d+1) hb (Nat.zero_le _)
 obtain ⟨k,q2,hk,hq2,he2⟩:=wk (d:=d+3) hb hq1 4 (by omega) (by omega)
 have hw:IntKind.i64.wrap (1+(k:Int))=((k+1:Nat):Int):=by rw [aq]<;>omega
 obtain ⟨g,q3,g1,g2,g3,g4,hq3,he3⟩:=lxh (d:=d+1) hb ht hq2 (k+1) (by omega) 12 (by omega) (by omega)
 obtain ⟨r,q4,hr,hq4,he4⟩:=wk (d:=d+3) hb hq3 g.nodes.length (by omega) (by omega)
 have hv:=g4.vals ht
 have t1:=ht.le
 have t2:=ht.hi
 obtain ⟨_,⟨X,hX,rfl⟩,k0⟩:=ezj (d:=d+4) bs ts q4 r g g2 (by omega)
 obtain ⟨_,⟨L,hL,hG,rfl⟩,k1⟩:=dzj (d:=d+4) bs ts q4 r g X g2 (by omega) (by omega) g4 (fun s hs=>by have:=t2 s hs;omega)
 unfold sA nA at k0 k1
 have hv2:=hG.vals ht
 obtain ⟨b,q5,hq5,he5⟩:=ckd (d:=d+2) hb hq4 3 (by omega) (by omega)
 have sg:Small ts g:=⟨by omega,fun s hs=>by have:=t2 s hs;omega,by omega,by omega,fun o ho=>by have:=hv o ho;omega⟩
 unfold cRd at he1
 rw [show ((0:Nat):Int)=0 from rfl] at he1
 rw [sj rfl]
 cases b with
 |true=>
  obtain ⟨h,q6,n1,hq6,he6⟩:=mqf (d:=d) hb (g:=⟨X,L⟩) ⟨by show 1≤L.length;omega,by show L.length≤1000;omega⟩ (by show X.length≤900;omega) (fun o ho=>by have:=hv2 o ho;omega) hq5
  have n2:=n1.vals 23 fun o ho=>(hv2 o ho).2
  have n3:=n1.roots
  have n4:=n1.nodes
  simp only at n3 n4
  refine ⟨ts,g,h,ht,sg,⟨by omega,fun s hs=>by have:=t2 s hs;omega,by omega,by omega,fun o ho=>by have:=n2 o ho;omega⟩,by omega,by omega,?_⟩
  simp (maxSteps:=3000000) (implicitDefEqProofs:=false) (disch:=first|assumption|(refine ofR ?_;show norm _ _=_;kernel_rfl)|(refine ofR ?_;show okD _ _ _ _=true;kernel_rfl)|exact ofR (by with_unfolding_all rfl)|exact ofB (by with_unfolding_all rfl)|omega|(simp only [go_sem,bz];omega)) only [go_sem,Nat.reduceAdd,Nat.reduceBEq,tk,szc,h1,he1,he2,hw,he3,he4,wj k0,wj k1,he5,he6]
 |false=>
  obtain ⟨b2,q6,hq6,he6⟩:=ckd (d:=d+2) hb hq5 4 (by omega) (by omega)
  cases b2 with
  |false=>
   refine ⟨ts,g,⟨X,L⟩,ht,sg,⟨by omega,fun s hs=>by have:=t2 s hs;omega,by show X.length≤_;omega,by show L.length≤_;omega,fun o ho=>by have:=hv2 o ho;omega⟩,by omega,by show L.length≤_;omega,?_⟩
   simp (maxSteps:=3000000) (implicitDefEqProofs:=false) (disch:=first|assumption|(refine ofR ?_;show norm _ _=_;kernel_rfl)|(refine ofR ?_;show okD _ _ _ _=true;kernel_rfl)|exact ofR (by with_unfolding_all rfl)|exact ofB (by with_unfolding_all rfl)|omega|(simp only [go_sem,bz];omega)) only [go_sem,Nat.reduceAdd,Nat.reduceBEq,tk,szc,h1,he1,he2,hw,he3,he4,wj k0,wj k1,he5,he6]
  |true=>
   obtain ⟨j,q7,hj,hq7,he7⟩:=wk (d:=d+3) hb hq6 g.nodes.length (by omega) (by omega)
   obtain ⟨v,q8,hv8,hq8,he8⟩:=wk (d:=d+3) hb hq7 ((g.nodes.length:Int)+1) (by omega) (by omega)
   have e9:IntKind.i64.wrap ((g.nodes.length:Int)+1)=(g.nodes.length:Int)+1:=by rw [aq]<;>omega
   have hjl:j<L.length:=by omega
   obtain ⟨o,ho⟩: ∃o,L[j]? =some o:=⟨_,List.getElem?_eq_getElem hjl⟩
   have hvo:=hv2 o (List.mem_of_getElem? ho)
   obtain ⟨x0,hx0⟩: ∃x,o.vals[Int.toNat 0]? =some x:=⟨_,List.getElem?_eq_getElem (show 0<_ by omega)⟩
   have hg2:Near ⟨X,L⟩ ⟨X,L.set j ⟨o.ty,o.vals.set 0 v⟩⟩:=Near.set _ ho (by simp)
   have n2:=hg2.vals 23 fun o ho=>(hv2 o ho).2
   have n4:=hg2.nodes
   simp only at n4
   refine ⟨ts,g,⟨X,L.set j ⟨o.ty,o.vals.set 0 v⟩⟩,ht,sg,⟨by omega,fun s hs=>by have:=t2 s hs;omega,by show X.length≤_;omega,by show (L.set j _).length≤_;omega,fun o ho=>by have:=n2 o ho;omega⟩,by omega,by show (L.set j _).length≤_;omega,?_⟩
   unfold cGr
   rw [List.map_set,yke,List.map_set]
   simp (maxSteps:=3000000) (implicitDefEqProofs:=false) (disch:=first|assumption|(refine ofR ?_;show norm _ _=_;kernel_rfl)|(refine ofR ?_;show okD _ _ _ _=true;kernel_rfl)|exact ofR (by with_unfolding_all rfl)|exact ofB (by with_unfolding_all rfl)|omega|(simp only [go_sem,bz];omega)) only [go_sem,Nat.reduceAdd,Nat.reduceBEq,tk,szc,h1,he1,he2,hw,he3,he4,wj k0,wj k1,he5,he6,he7,he8,e9,ho,hx0]
   rfl
end Go.Proofs.YtjdcidigbbbckaaDoor.VM

/- Marks of texts and of graphs. -/
import Derived.Test.YtjdcidigbbbckaaDoorLawGr
namespace Go.Proofs.YtjdcidigbbbckaaDoor.VM
open Go Sy
variable {Φ:Nat→Option Callee} {N:Nat}
theorem exf (k:Nat) (hk:k≤4000000): ∃e,(∃s:ByteArray,s.size≤k∧e=⟨[(0,.a (.int .i64 (0:Nat))),(3,.a (.string s)),(7,.a (.bool false))],[],200⟩)∧mjb Φ fuel [0,3] axb ⟨[(0,.a (.int .i64 (k:Nat))),(3,.a (.string ⟨#[]⟩))],[],0⟩=some (.ext 0,e):=by
 refine rkg (fun m t=> ∃(j:Nat) (s:ByteArray),j≤m∧s.size+j≤k∧t=⟨[(0,.a (.int .i64 (j:Nat))),(3,.a (.string s))],[],0⟩) 0 _ (m:=k)
  (cq (by omega)) ⟨k,⟨#[]⟩,Nat.le_refl _,by show 0+k≤k;omega,rfl⟩ ?_
 rintro m t hm ⟨j,s,hj,hs,rfl⟩
 by_cases c:0<j
 ·left
  have hc:(j:Int)>0:=by omega
  have h10:Int.tmod (j:Int) 10=((j%10:Nat):Int):=(Int.ofNat_tmod j 10).symm
  have w1:IntKind.i64.wrap (48+((j%10:Nat):Int))=((48+j%10:Nat):Int):=by rw [vzb]<;>omega
  have hq:Int.tdiv (j:Int) 10=((j/10:Nat):Int):=(Int.ofNat_tdiv j 10).symm
  have w2:IntKind.i64.wrap ((j/10:Nat):Int)=((j/10:Nat):Int):=by rw [vzb]<;>omega
  refine ⟨by omega,_,?_,j/10,⟨[UInt8.ofNat (IntKind.u8.wrap ((48+j%10:Nat):Int)).toNat].toArray⟩++s,by omega,?_,rfl⟩
  ·unfold ij axb
   simp (maxSteps:=3000000) (implicitDefEqProofs:=false) (disch:=first|assumption|(refine ofR ?_;show norm _ _=_;kernel_rfl)|(refine ofR ?_;show okD _ _ _ _=true;kernel_rfl)|exact ofR (by with_unfolding_all rfl)|exact ofB (by with_unfolding_all rfl)|omega|(simp only [go_sem,bz];omega)) only [go_sem,Nat.reduceAdd,Nat.reduceBEq,hc,h10,w1,hq,w2]
   (show some _=some _;kernel_rfl)
  ·rw [ByteArray.size_append]
   show 1+s.size+j/10≤k
   omega
 ·right
  have:j=0:=by omega
  subst this
  refine ⟨_,?_,s,by omega,rfl⟩
  unfold ij axb
  simp (maxSteps:=3000000) (implicitDefEqProofs:=false) (disch:=first|assumption|(refine ofR ?_;show norm _ _=_;kernel_rfl)|(refine ofR ?_;show okD _ _ _ _=true;kernel_rfl)|exact ofR (by with_unfolding_all rfl)|exact ofB (by with_unfolding_all rfl)|omega|(simp only [go_sem,bz];omega)) only [go_sem,Nat.reduceAdd,Nat.reduceBEq,Int.ofNat_zero]
theorem vkf (k:Nat) (hk:k≤4000000): ∃s:ByteArray,s.size≤4000001∧uz Φ fuel izb [.a (.int .i64 k)]=some ([.a (.string s)],[]):=by
 obtain ⟨_,⟨s,hs,rfl⟩,he⟩:=exf (Φ:=Φ) k hk
 rw [bq rfl]
 by_cases c:(k:Int)≤0
 ·refine ⟨⟨#[109,48]⟩,by show 2≤_;omega,?_⟩
  simp (maxSteps:=3000000) (implicitDefEqProofs:=false) (disch:=first|assumption|(refine ofR ?_;show norm _ _=_;kernel_rfl)|(refine ofR ?_;show okD _ _ _ _=true;kernel_rfl)|exact ofR (by with_unfolding_all rfl)|exact ofB (by with_unfolding_all rfl)|omega|(simp only [go_sem,bz];omega)) only [go_sem,Nat.reduceAdd,Nat.reduceBEq,izb,yqc,c]
 ·refine ⟨⟨#[109]⟩++s,by rw [ByteArray.size_append];show 1+s.size≤_;omega,?_⟩
  simp (maxSteps:=3000000) (implicitDefEqProofs:=false) (disch:=first|assumption|(refine ofR ?_;show norm _ _=_;kernel_rfl)|(refine ofR ?_;show okD _ _ _ _=true;kernel_rfl)|exact ofR (by with_unfolding_all rfl)|exact ofB (by with_unfolding_all rfl)|omega|(simp only [go_sem,bz];omega)) only [go_sem,Nat.reduceAdd,Nat.reduceBEq,izb,yqc,c,dq he]
theorem xje {d:Nat} (l:List ByteArray) (k:Nat) (hk:k+l.length≤4000000): ∃e,(∃m:List ByteArray,m.length=l.length∧e=⟨[(0,.rf 0),(1,.a (.int .i64 ((k+l.length:Nat):Int))),(5,.a (.int .i64 (l.length:Nat))),(9,.a (.bool false)),(10000,.rf 0)],[(0,some (.sl false 0 lz (m.map eStr)))],401⟩)∧
 mjb (T (d+1)) fuel [0,1,5,10000] cjb ⟨[(0,.rf 0),(1,.a (.int .i64 (k:Nat))),(5,.a (.int .i64 (0:Nat))),(10000,.rf 0)],[(0,some (.sl false 0 lz (l.map eStr)))],1⟩=some (.ext 0,e):=by
 refine rkg (fun r t=> ∃(i:Nat) (m:List ByteArray),i+r=l.length∧m.length=l.length∧t=⟨[(0,.rf 0),(1,.a (.int .i64 ((k+i:Nat):Int))),(5,.a (.int .i64 (i:Nat))),(10000,.rf 0)],[(0,some (.sl false 0 lz (m.map eStr)))],1⟩) 0 _ (m:=l.length)
  (cq (by omega)) ⟨0,l,by omega,rfl,rfl⟩ ?_
 rintro r t hr ⟨i,m,hi,hm,rfl⟩
 by_cases c:0<r
 ·left
  obtain ⟨a,ha⟩: ∃a,m[i]? =some a:=⟨_,List.getElem?_eq_getElem (by omega)⟩
  obtain ⟨s,hs,he⟩:=vkf (Φ:=T d) (k+i) (by omega)
  have hw:=vz i (by omega)
  have hw2:=vz (k+i) (by omega)
  have hset:(m.map eStr).set i (.a (.string s))=(m.set i s).map eStr:=by rw [List.map_set];rfl
  refine ⟨c,_,?_,i+1,m.set i s,by omega,by simp [hm],rfl⟩
  unfold ij cjb
  simp (maxSteps:=3000000) (implicitDefEqProofs:=false) (disch:=first|assumption|(refine ofR ?_;show norm _ _=_;kernel_rfl)|(refine ofR ?_;show okD _ _ _ _=true;kernel_rfl)|exact ofR (by with_unfolding_all rfl)|exact ofB (by with_unfolding_all rfl)|omega|(simp only [go_sem,bz];omega)) only [go_sem,Nat.reduceAdd,Nat.reduceBEq,ha,he,hw,hw2,hset]
  (show some _=some _;kernel_rfl)
 ·right
  have:i=l.length:=by omega
  subst this
  refine ⟨_,?_,m,hm,rfl⟩
  unfold ij cjb
  simp (maxSteps:=3000000) (implicitDefEqProofs:=false) (disch:=first|assumption|(refine ofR ?_;show norm _ _=_;kernel_rfl)|(refine ofR ?_;show okD _ _ _ _=true;kernel_rfl)|exact ofR (by with_unfolding_all rfl)|exact ofB (by with_unfolding_all rfl)|omega|(simp only [go_sem,bz];omega)) only [go_sem,Nat.reduceAdd,Nat.reduceBEq,hm]
theorem bxe {d:Nat} (l:List ByteArray) (k:Nat) (hk:k+l.length≤4000000): ∃m:List ByteArray,uz (T (d+1)) fuel nk [.sl false lz (l.map eStr),.a (.int .i64 k)]=some ([.a (.int .i64 ((k+l.length:Nat):Int))],[.sl false lz (m.map eStr)]):=by
 obtain ⟨_,⟨m,hm,rfl⟩,he⟩:=xje (d:=d) l k hk
 refine ⟨m,?_⟩
 rw [bq rfl]
 simp (maxSteps:=3000000) (implicitDefEqProofs:=false) (disch:=first|assumption|(refine ofR ?_;show norm _ _=_;kernel_rfl)|(refine ofR ?_;show okD _ _ _ _=true;kernel_rfl)|exact ofR (by with_unfolding_all rfl)|exact ofB (by with_unfolding_all rfl)|omega|(simp only [go_sem,bz];omega)) only [go_sem,Nat.reduceAdd,Nat.reduceBEq,nk,nxc,dq he]
def mObj (k:Int) (n:Nat):PV:= .st [eInt k,.sl nz ((bkc (k+1) n).map eInt)]
theorem czi (k:Int) (n:Nat):mObj k n= .st [.a (.int .i64 k),.sl nz ((bkc (k+1) n).map eInt)]:=rfl
def wObj (n:Nat):Nat:=1+n
def lens (l:List Obj'):List Nat:=l.map fun x=>x.vals.length
theorem eki {l:List Obj'} {i:Nat} {x:Obj'} (h:l[i]? =some x):(lens l)[i]? =some x.vals.length:=by rw [lens,List.getElem?_map,h];rfl
theorem vqd (l:List Obj'):(lens l).length=l.length:=List.length_map _
theorem gkf (l:List Obj'):wsum wObj (lens l)=l.length+vsum l:=by
 induction l with
 |nil=>rfl
 |cons x l ih=>
  show wObj x.vals.length+wsum wObj (lens l)=_
  rw [ih,vsum,List.length_cons,wObj];omega
theorem fxf {d:Nat} (l:List Obj') (k:Int) (h0:0≤k) (hk:k+wsum wObj (lens l)≤9223372036854775000) (hl:l.length≤1048576) (hx: ∀x∈l,x.vals.length≤1048576):
 mjb (T (d+1)) fuel [0,1,5,10000] djb ⟨[(0,.rf 0),(1,.a (.int .i64 k)),(5,.a (.int .i64 0)),(10000,.rf 0)],[(0,some (.sl false 0 gz (l.map eObj)))],1⟩=
 some (.ext 0,⟨[(0,.rf 0),(1,.a (.int .i64 (k+wsum wObj (lens l)))),(5,.a (.int .i64 l.length)),(9,.a (.bool false)),(10000,.rf 0)],[(0,some (.sl false 0 gz (vk mObj wObj k (lens l))))],401⟩):=by
 have hM:(vk mObj wObj k (lens l)).length=(l.map eObj).length:=by rw [gqd,vqd,List.length_map]
 have:=lx (Φ:=T (d+1)) (N:=fuel) (live:= [0,1,5,10000]) (b:=djb) (id:=0) (fun i=>⟨[(0,.rf 0),(1,.a (.int .i64 (k+(wsum wObj ((lens l).take i):Nat)))),(5,.a (.int .i64 (i:Nat))),(10000,.rf 0)],[(0,some (.sl false 0 gz (mix (vk mObj wObj k (lens l)) (l.map eObj) i)))],1⟩)
  ⟨[(0,.rf 0),(1,.a (.int .i64 (k+wsum wObj (lens l)))),(5,.a (.int .i64 l.length)),(9,.a (.bool false)),(10000,.rf 0)],[(0,some (.sl false 0 gz (vk mObj wObj k (lens l))))],401⟩ (m:=l.length) (cq (by omega)) (fun i hi=> ?_) ?_
 ·simpa [vxi,wsum] using this
 ·obtain ⟨x,hx'⟩: ∃a,l[i]? =some a:=⟨_,List.getElem?_eq_getElem hi⟩
  have hkx:=eki hx'
  have hle:=oqh (w:=wObj) hkx
  have ht:=nqe (w:=wObj) hkx
  have hkeep:=hx x (List.mem_of_getElem? hx')
  have hw:wObj x.vals.length=1+x.vals.length:=rfl
  have hg:(mix (vk mObj wObj k (lens l)) (l.map eObj) i)[i]? =some (eObj x):=uxj hM (by rw [List.getElem?_map,hx'];rfl)
  have hs:=txj (i:=i) hM (fke (m:=mObj) (w:=wObj) (k:=k) hkx)
  have hlen:(mix (vk mObj wObj k (lens l)) (l.map eObj) i).length=l.length:=by rw [ljh hM,List.length_map]
  have hlt:i<(mix (vk mObj wObj k (lens l)) (l.map eObj) i).length:=by rw [hlen];exact hi
  have e1:k+(wsum wObj ((lens l).take (i+1)):Nat)=k+(wsum wObj ((lens l).take i):Nat)+1+(x.vals.length:Nat):=by rw [ht,hw];omega
  rw [←hs,e1,czi]
  have hK:k+(wsum wObj ((lens l).take i):Nat)+1+x.vals.length≤9223372036854775000:=by omega
  have hK0:0≤k+(wsum wObj ((lens l).take i):Nat):=by omega
  clear e1 hs hle ht hw
  rw [kxg] at hg
  generalize k+(wsum wObj ((lens l).take i):Nat)=K at*
  generalize mix (vk mObj wObj k (lens l)) (l.map eObj) i=Z at*
  have hw:=vz i (by omega)
  have w1:IntKind.i64.wrap (K+1)=K+1:=vzb _ (by omega) (by omega)
  have hc:=dqd (Φ:=T d) (N:=fuel) x.vals (K+1) (by omega) (by omega) (cq (by omega))
  unfold ij djb
  simp (maxSteps:=3000000) (implicitDefEqProofs:=false) (disch:=first|assumption|(refine ofR ?_;show norm _ _=_;kernel_rfl)|(refine ofR ?_;show okD _ _ _ _=true;kernel_rfl)|exact ofR (by with_unfolding_all rfl)|exact ofB (by with_unfolding_all rfl)|omega|(simp only [go_sem,bz];omega)) only [go_sem,Nat.reduceAdd,Nat.reduceBEq,hg,hw,w1,hc,hlen,List.getElem?_set_self hlt,List.set_set,List.getElem?_set_self]
  rfl
 ·rw [show (lens l).take l.length=lens l from by rw [List.take_of_length_le];rw [vqd];omega,vxj hM (by rw [List.length_map])]
  have hl':(vk mObj wObj k (lens l)).length=l.length:=by rw [hM,List.length_map]
  unfold ij djb
  simp (maxSteps:=3000000) (implicitDefEqProofs:=false) (disch:=first|assumption|(refine ofR ?_;show norm _ _=_;kernel_rfl)|(refine ofR ?_;show okD _ _ _ _=true;kernel_rfl)|exact ofR (by with_unfolding_all rfl)|exact ofB (by with_unfolding_all rfl)|omega|(simp only [go_sem,bz];omega)) only [go_sem,Nat.reduceAdd,Nat.reduceBEq,hl']
theorem wkf {d:Nat} (l:List Obj') (k:Int) (h0:0≤k) (hk:k+wsum wObj (lens l)≤9223372036854775000) (hl:l.length≤1048576) (hx: ∀x∈l,x.vals.length≤1048576):
 uz (T (d+1)) fuel wjb [.sl false gz (l.map eObj),.a (.int .i64 k)]=some ([.a (.int .i64 (k+wsum wObj (lens l)))],[.sl false gz (vk mObj wObj k (lens l))]):=by
 have key:=fxf (d:=d) l k h0 hk hl hx
 rw [bq rfl]
 simp (maxSteps:=3000000) (implicitDefEqProofs:=false) (disch:=first|assumption|(refine ofR ?_;show norm _ _=_;kernel_rfl)|(refine ofR ?_;show okD _ _ _ _=true;kernel_rfl)|exact ofR (by with_unfolding_all rfl)|exact ofB (by with_unfolding_all rfl)|omega|(simp only [go_sem,bz];omega)) only [go_sem,Nat.reduceAdd,Nat.reduceBEq,wjb,cjd,dq key]
theorem nxf {d:Nat} (ns:List Nat) (k:Int) (h0:0≤k) (hk:k+wsum wObj ns≤9223372036854775000) (hl:ns.length≤1048576) (hx: ∀n∈ns,n≤1048576):
 mjb (T (d+1)) fuel [0,1,5] ejb ⟨[(0,.sz gz (vk mObj wObj k ns)),(1,.a (.int .i64 k)),(5,.a (.int .i64 0))],[],0⟩=
 some (.ext 0,⟨[(0,.sz gz (vk mObj wObj k ns)),(1,.a (.int .i64 (k+wsum wObj ns))),(5,.a (.int .i64 ns.length)),(9,.a (.bool false))],[],400⟩):=by
 have hM:(vk mObj wObj k ns).length=ns.length:=gqd
 have:=lx (Φ:=T (d+1)) (N:=fuel) (live:= [0,1,5]) (b:=ejb) (id:=0) (fun i=>⟨[(0,.sz gz (vk mObj wObj k ns)),(1,.a (.int .i64 (k+(wsum wObj (ns.take i):Nat)))),(5,.a (.int .i64 (i:Nat)))],[],0⟩)
  ⟨[(0,.sz gz (vk mObj wObj k ns)),(1,.a (.int .i64 (k+wsum wObj ns))),(5,.a (.int .i64 ns.length)),(9,.a (.bool false))],[],400⟩ (m:=ns.length) (cq (by omega)) (fun i hi=> ?_) ?_
 ·simpa [wsum] using this
 ·obtain ⟨n,hn⟩: ∃a,ns[i]? =some a:=⟨_,List.getElem?_eq_getElem hi⟩
  have hle:=oqh (w:=wObj) hn
  have ht:=nqe (w:=wObj) hn
  have hw:wObj n=1+n:=rfl
  have hn':=hx n (List.mem_of_getElem? hn)
  have hg:=fke (m:=mObj) (w:=wObj) (k:=k) hn
  have e1:k+(wsum wObj (ns.take (i+1)):Nat)=k+(wsum wObj (ns.take i):Nat)+1+(n:Nat):=by rw [ht,hw];omega
  have hK:k+(wsum wObj (ns.take i):Nat)+1+n≤9223372036854775000:=by omega
  have hK0:0≤k+(wsum wObj (ns.take i):Nat):=by omega
  rw [e1]
  clear e1 hle ht hw
  rw [czi] at hg
  generalize k+(wsum wObj (ns.take i):Nat)=K at*
  generalize vk mObj wObj k ns=Z at*
  have hw:=vz i (by omega)
  have w1:IntKind.i64.wrap (K+1)=K+1:=vzb _ (by omega) (by omega)
  have hc:=eqd (Φ:=T d) (N:=fuel) n (K+1) (by omega) (by omega) (cq (by omega))
  have hge: ¬K+1+(n:Int)<0:=by omega
  unfold ij ejb
  simp (maxSteps:=3000000) (implicitDefEqProofs:=false) (disch:=first|assumption|(refine ofR ?_;show norm _ _=_;kernel_rfl)|(refine ofR ?_;show okD _ _ _ _=true;kernel_rfl)|exact ofR (by with_unfolding_all rfl)|exact ofB (by with_unfolding_all rfl)|omega|(simp only [go_sem,bz];omega)) only [go_sem,Nat.reduceAdd,Nat.reduceBEq,hg,hw,w1,hc,hM,hge]
  rfl
 ·rw [show ns.take ns.length=ns from List.take_length]
  unfold ij ejb
  simp (maxSteps:=3000000) (implicitDefEqProofs:=false) (disch:=first|assumption|(refine ofR ?_;show norm _ _=_;kernel_rfl)|(refine ofR ?_;show okD _ _ _ _=true;kernel_rfl)|exact ofR (by with_unfolding_all rfl)|exact ofB (by with_unfolding_all rfl)|omega|(simp only [go_sem,bz];omega)) only [go_sem,Nat.reduceAdd,Nat.reduceBEq,hM]
theorem ykf {d:Nat} (ns:List Nat) (k:Int) (h0:0≤k) (hk:k+wsum wObj ns≤9223372036854775000) (hl:ns.length≤1048576) (hx: ∀n∈ns,n≤1048576):
 uz (T (d+1)) fuel xjb [.sl true gz (vk mObj wObj k ns),.a (.int .i64 k)]=some ([.a (.int .i64 (k+wsum wObj ns))],[]):=by
 have key:=nxf (d:=d) ns k h0 hk hl hx
 rw [bq rfl]
 simp (maxSteps:=3000000) (implicitDefEqProofs:=false) (disch:=first|assumption|(refine ofR ?_;show norm _ _=_;kernel_rfl)|(refine ofR ?_;show okD _ _ _ _=true;kernel_rfl)|exact ofR (by with_unfolding_all rfl)|exact ofB (by with_unfolding_all rfl)|omega|(simp only [go_sem,bz];omega)) only [go_sem,Nat.reduceAdd,Nat.reduceBEq,xjb,djd,dq key]
def mGr (z:Bool) (k:Int) (n:Nat) (ns:List Nat):CV:= .st [.sl z nz ((bkc k n).map eInt),.sl z gz (vk mObj wObj (k+n) ns)]
theorem nxd {d:Nat} (g:Gr) (k:Int) (h0:0≤k) (hk:k+gsum g≤9223372036854774000) (hr:g.roots.length≤1048576) (hn:g.nodes.length≤1048576) (hv: ∀o∈g.nodes,o.vals.length≤1048576):
 uz (T (d+2)) fuel ozb [cGr false g,.a (.int .i64 k)]=some ([.a (.int .i64 (k+gsum g))],[mGr false k g.roots.length (lens g.nodes)]):=by
 have e:=gkf g.nodes
 have eg:gsum g=g.roots.length+g.nodes.length+vsum g.nodes:=rfl
 have h1:=dqd (Φ:=T (d+1)) (N:=fuel) g.roots k h0 (by omega) (cq (by omega))
 have h2:=wkf (d:=d) g.nodes (k+g.roots.length) (by omega) (by omega) hn hv
 rw [show k+gsum g=k+g.roots.length+wsum wObj (lens g.nodes) by omega]
 rw [bq rfl]
 simp (maxSteps:=3000000) (implicitDefEqProofs:=false) (disch:=first|assumption|(refine ofR ?_;show norm _ _=_;kernel_rfl)|(refine ofR ?_;show okD _ _ _ _=true;kernel_rfl)|exact ofR (by with_unfolding_all rfl)|exact ofB (by with_unfolding_all rfl)|omega|(simp only [go_sem,bz];omega)) only [go_sem,Nat.reduceAdd,Nat.reduceBEq,ozb,jzd,h1,h2,mGr]
theorem mqf {d:Nat} (n:Nat) (ns:List Nat) (k:Int) (h0:0≤k) (hk:k+n+wsum wObj ns≤9223372036854774000) (hr:n≤1048576) (hl:ns.length≤1048576) (hv: ∀n∈ns,n≤1048576):
 uz (T (d+2)) fuel pzb [mGr true k n ns,.a (.int .i64 k)]=some ([.a (.int .i64 (k+n+wsum wObj ns))],[]):=by
 have h1:=eqd (Φ:=T (d+1)) (N:=fuel) n k h0 (by omega) (cq (by omega))
 have h2:=ykf (d:=d) ns (k+n) (by omega) (by omega) hl hv
 have g1: ¬k+(n:Int)<0:=by omega
 have g2: ¬k+(n:Int)+wsum wObj ns<0:=by omega
 rw [bq rfl]
 simp (maxSteps:=3000000) (implicitDefEqProofs:=false) (disch:=first|assumption|(refine ofR ?_;show norm _ _=_;kernel_rfl)|(refine ofR ?_;show okD _ _ _ _=true;kernel_rfl)|exact ofR (by with_unfolding_all rfl)|exact ofB (by with_unfolding_all rfl)|omega|(simp only [go_sem,bz];omega)) only [go_sem,Nat.reduceAdd,Nat.reduceBEq,pzb,kzd,h1,h2,mGr,g1,g2]
end Go.Proofs.YtjdcidigbbbckaaDoor.VM

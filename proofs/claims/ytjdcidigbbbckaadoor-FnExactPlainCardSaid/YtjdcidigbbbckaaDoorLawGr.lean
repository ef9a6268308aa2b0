/- The laws' own functions over kinds and graphs: copies, sizes, likeness. -/
import Derived.Test.YtjdcidigbbbckaaDoorLawT
import Derived.Test.YtjdcidigbbbckaaDoorLawInts
namespace Go.Proofs.YtjdcidigbbbckaaDoor.VM
open Go Sy
variable {Φ:Nat→Option Callee} {N:Nat}
abbrev zS:PV:= .a (.string ⟨#[]⟩)
abbrev zObj:PV:= .st [zI,.sl nz []]
theorem fzf (l:List ByteArray) (hl:l.length≤1048576):
 mjb Φ fuel [0,3,4] fqb ⟨[(0,.sz lz (l.map eStr)),(3,.rf 0),(4,.a (.int .i64 0))],[(0,some (.sl false 0 lz (List.replicate l.length zS)))],1⟩=
 some (.ext 0,⟨[(0,.sz lz (l.map eStr)),(3,.rf 0),(4,.a (.int .i64 l.length)),(11,.a (.bool false))],[(0,some (.sl false 0 lz (l.map eStr)))],401⟩):=by
 rw [←rqe (g:=eStr)]
 refine lx (fun i=>⟨[(0,.sz lz (l.map eStr)),(3,.rf 0),(4,.a (.int .i64 (i:Nat)))],[(0,some (.sl false 0 lz (updR zS eStr i l)))],1⟩) _ (m:=l.length) (cq (by omega)) (fun i hi=> ?_) ?_
 ·obtain ⟨a,ha⟩: ∃a,l[i]? =some a:=⟨_,List.getElem?_eq_getElem hi⟩
  have hg:=eqf (z:=zS) (g:=eStr) ha
  have hs:=dqf (z:=zS) (g:=eStr) ha
  have hw:=vz i (by omega)
  rw [tji] at hs
  unfold ij fqb
  simp (maxSteps:=3000000) (implicitDefEqProofs:=false) (disch:=first|assumption|(refine ofR ?_;show norm _ _=_;kernel_rfl)|(refine ofR ?_;show okD _ _ _ _=true;kernel_rfl)|exact ofR (by with_unfolding_all rfl)|exact ofB (by with_unfolding_all rfl)|omega|(simp only [go_sem,bz];omega)) only [go_sem,Nat.reduceAdd,Nat.reduceBEq,ha,hg,hs,hw]
  rfl
 ·unfold ij fqb
  simp (maxSteps:=3000000) (implicitDefEqProofs:=false) (disch:=first|assumption|(refine ofR ?_;show norm _ _=_;kernel_rfl)|(refine ofR ?_;show okD _ _ _ _=true;kernel_rfl)|exact ofR (by with_unfolding_all rfl)|exact ofB (by with_unfolding_all rfl)|omega|(simp only [go_sem,bz];omega)) only [go_sem,Nat.reduceAdd,Nat.reduceBEq,fqf]
theorem jqf (l:List ByteArray) (hl:l.length≤1048576):uz Φ fuel nzb [.sl true lz (l.map eStr)]=some ([.sl false lz (l.map eStr)],[]):=by
 have key:=fzf (Φ:=Φ) l hl
 rw [bq rfl]
 simp (maxSteps:=3000000) (implicitDefEqProofs:=false) (disch:=first|assumption|(refine ofR ?_;show norm _ _=_;kernel_rfl)|(refine ofR ?_;show okD _ _ _ _=true;kernel_rfl)|exact ofR (by with_unfolding_all rfl)|exact ofB (by with_unfolding_all rfl)|omega|(simp only [go_sem,bz];omega)) only [go_sem,Nat.reduceAdd,Nat.reduceBEq,nzb,izd,dq key]
theorem lxh {d:Nat} (o:Obj') (hl:o.vals.length≤1048576):uz (T (d+1)) fuel hzc [cObj true o]=some ([cObj false o],[]):=by
 have h:=vze (Φ:=T d) o.vals hl
 rw [bq rfl]
 simp (maxSteps:=3000000) (implicitDefEqProofs:=false) (disch:=first|assumption|(refine ofR ?_;show norm _ _=_;kernel_rfl)|(refine ofR ?_;show okD _ _ _ _=true;kernel_rfl)|exact ofR (by with_unfolding_all rfl)|exact ofB (by with_unfolding_all rfl)|omega|(simp only [go_sem,bz];omega)) only [go_sem,Nat.reduceAdd,Nat.reduceBEq,hzc,eje,h]
theorem pjg {d:Nat} (l:List Obj') (hl:l.length≤1048576) (hk: ∀x∈l,x.vals.length≤1048576):
 mjb (T (d+2)) fuel [0,3,4] vkb ⟨[(0,.sz lk (l.map eObj)),(3,.rf 0),(4,.a (.int .i64 0))],[(0,some (.sl false 0 gz (List.replicate l.length zObj)))],1⟩=
 some (.ext 0,⟨[(0,.sz lk (l.map eObj)),(3,.rf 0),(4,.a (.int .i64 l.length)),(11,.a (.bool false))],[(0,some (.sl false 0 gz (l.map eObj)))],401⟩):=by
 rw [←rqe (g:=eObj)]
 refine lx (fun i=>⟨[(0,.sz lk (l.map eObj)),(3,.rf 0),(4,.a (.int .i64 (i:Nat)))],[(0,some (.sl false 0 gz (updR zObj eObj i l)))],1⟩) _ (m:=l.length) (cq (by omega)) (fun i hi=> ?_) ?_
 ·obtain ⟨a,ha⟩: ∃a,l[i]? =some a:=⟨_,List.getElem?_eq_getElem hi⟩
  have hg:=eqf (z:=zObj) (g:=eObj) ha
  have hs:=dqf (z:=zObj) (g:=eObj) ha
  rw [kxg] at hs
  have hc:=lxh (d:=d) a (hk a (List.mem_of_getElem? ha))
  have hw:=vz i (by omega)
  unfold ij vkb
  simp (maxSteps:=3000000) (implicitDefEqProofs:=false) (disch:=first|assumption|(refine ofR ?_;show norm _ _=_;kernel_rfl)|(refine ofR ?_;show okD _ _ _ _=true;kernel_rfl)|exact ofR (by with_unfolding_all rfl)|exact ofB (by with_unfolding_all rfl)|omega|(simp only [go_sem,bz];omega)) only [go_sem,Nat.reduceAdd,Nat.reduceBEq,ha,hg,hs,hw,hc]
  rfl
 ·unfold ij vkb
  simp (maxSteps:=3000000) (implicitDefEqProofs:=false) (disch:=first|assumption|(refine ofR ?_;show norm _ _=_;kernel_rfl)|(refine ofR ?_;show okD _ _ _ _=true;kernel_rfl)|exact ofR (by with_unfolding_all rfl)|exact ofB (by with_unfolding_all rfl)|omega|(simp only [go_sem,bz];omega)) only [go_sem,Nat.reduceAdd,Nat.reduceBEq,fqf]
theorem yzh {d:Nat} (l:List Obj') (hl:l.length≤1048576) (hk: ∀x∈l,x.vals.length≤1048576):uz (T (d+2)) fuel xxb [.sl true lk (l.map eObj)]=some ([.sl false gz (l.map eObj)],[]):=by
 have key:=pjg (d:=d) l hl hk
 rw [bq rfl]
 simp (maxSteps:=3000000) (implicitDefEqProofs:=false) (disch:=first|assumption|(refine ofR ?_;show norm _ _=_;kernel_rfl)|(refine ofR ?_;show okD _ _ _ _=true;kernel_rfl)|exact ofR (by with_unfolding_all rfl)|exact ofB (by with_unfolding_all rfl)|omega|(simp only [go_sem,bz];omega)) only [go_sem,Nat.reduceAdd,Nat.reduceBEq,xxb,hkd,dq key]
abbrev cGrL (g:Gr):CV:= .st [.sl true nz (g.roots.map eInt),.sl true lk (g.nodes.map eObj)]
theorem wjg {d:Nat} (g:Gr) (hr:g.roots.length≤1048576) (hn:g.nodes.length≤1048576) (hv: ∀o∈g.nodes,o.vals.length≤1048576):uz (T (d+3)) fuel sqb [cGrL g]=some ([cGr false g],[]):=by
 have h1:=vze (Φ:=T (d+2)) g.roots hr
 have h2:=yzh (d:=d) g.nodes hn hv
 rw [bq rfl]
 simp (maxSteps:=3000000) (implicitDefEqProofs:=false) (disch:=first|assumption|(refine ofR ?_;show norm _ _=_;kernel_rfl)|(refine ofR ?_;show okD _ _ _ _=true;kernel_rfl)|exact ofR (by with_unfolding_all rfl)|exact ofB (by with_unfolding_all rfl)|omega|(simp only [go_sem,bz];omega)) only [go_sem,Nat.reduceAdd,Nat.reduceBEq,sqb,jqd,h1,h2]
def tsum:List ByteArray→Nat
 | []=>0
 |s::l=>s.size+tsum l
theorem uqe (l m:List ByteArray):tsum (l++m)=tsum l+tsum m:=by
 induction l with
 |nil=>simp [tsum]
 |cons x l ih=>simp [tsum,ih];omega
theorem lkf {l:List ByteArray} {i:Nat} {x:ByteArray} (h:l[i]? =some x):tsum (l.take (i+1))=tsum (l.take i)+x.size:=by
 rw [List.take_add_one,h,uqe];simp [tsum]
theorem sqh {l:List ByteArray} {i:Nat} {x:ByteArray} (h:l[i]? =some x):tsum (l.take i)+x.size≤tsum l:=by
 rw [←lkf h]
 conv=>rhs;rw [←List.take_append_drop (i+1) l]
 rw [uqe];omega
theorem qqj {l:List ByteArray} {x:ByteArray} (h:x∈l):x.size≤tsum l:=by
 obtain ⟨i,hi,rfl⟩:=List.mem_iff_getElem.1 h
 have:=sqh (List.getElem?_eq_getElem hi)
 omega
def vsum:List Obj'→Nat
 | []=>0
 |x::l=>x.vals.length+vsum l
theorem qqe (l m:List Obj'):vsum (l++m)=vsum l+vsum m:=by
 induction l with
 |nil=>simp [vsum]
 |cons x l ih=>simp [vsum,ih];omega
theorem ikf {l:List Obj'} {i:Nat} {x:Obj'} (h:l[i]? =some x):vsum (l.take (i+1))=vsum (l.take i)+x.vals.length:=by
 rw [List.take_add_one,h,qqe];simp [vsum]
theorem pqh {l:List Obj'} {i:Nat} {x:Obj'} (h:l[i]? =some x):vsum (l.take i)+x.vals.length≤vsum l:=by
 rw [←ikf h]
 conv=>rhs;rw [←List.take_append_drop (i+1) l]
 rw [qqe];omega
theorem aqj {l:List Obj'} {x:Obj'} (h:x∈l):x.vals.length≤vsum l:=by
 obtain ⟨i,hi,rfl⟩:=List.mem_iff_getElem.1 h
 have:=pqh (List.getElem?_eq_getElem hi)
 omega
theorem gzf (l:List ByteArray) (k:Int) (h0:0≤k) (h1:k≤1048576) (hl:l.length≤1048576) (hk: ∀x∈l,x.size<9223372036854000000):
 mjb Φ fuel [0,1,5] ek ⟨[(0,.sz lz (l.map eStr)),(1,.a (.int .i64 k)),(5,.a (.int .i64 0))],[],0⟩=
 some (if k - tsum l<0 then (.ret,⟨[(4,.a (.int .i64 (-1)))],[],1500⟩) else (.ext 0,⟨[(0,.sz lz (l.map eStr)),(1,.a (.int .i64 (k - tsum l))),(5,.a (.int .i64 l.length)),(15,.a (.bool false))],[],400⟩)):=by
 have:=ck (Φ:=Φ) (N:=fuel) (live:= [0,1,5]) (b:=ek) (fun i=>⟨[(0,.sz lz (l.map eStr)),(1,.a (.int .i64 (k -(tsum (l.take i):Nat)))),(5,.a (.int .i64 (i:Nat)))],[],0⟩)
  (if k - tsum l<0 then (.ret,⟨[(4,.a (.int .i64 (-1)))],[],1500⟩) else (.ext 0,⟨[(0,.sz lz (l.map eStr)),(1,.a (.int .i64 (k - tsum l))),(5,.a (.int .i64 l.length)),(15,.a (.bool false))],[],400⟩))
  (fun i=>0≤k -(tsum (l.take i):Nat)) (m:=l.length) (cq (by omega)) (by simp [tsum];exact h0) (by split<;>simp) (fun i hi hp=> ?_)
 ·simpa [tsum] using this
 by_cases hi':i<l.length
 ·obtain ⟨x,hx⟩: ∃a,l[i]? =some a:=⟨_,List.getElem?_eq_getElem hi'⟩
  have ht:=lkf hx
  have hle:=sqh hx
  have hw:=vz i (by omega)
  have hxs:=hk x (List.mem_of_getElem? hx)
  have he:k -(tsum (l.take i):Nat)-(x.size:Nat)=k -(tsum (l.take (i+1)):Nat):=by rw [ht];omega
  have hww:IntKind.i64.wrap (k -(tsum (l.take i):Nat)-(x.size:Nat))=k -(tsum (l.take (i+1)):Nat):=by rw [←he,vzb]<;>omega
  clear he
  by_cases hn:k -(tsum (l.take (i+1)):Nat)<0
  ·right
   rw [if_pos (by omega)]
   unfold ij ek
   simp (maxSteps:=3000000) (implicitDefEqProofs:=false) (disch:=first|assumption|(refine ofR ?_;show norm _ _=_;kernel_rfl)|(refine ofR ?_;show okD _ _ _ _=true;kernel_rfl)|exact ofR (by with_unfolding_all rfl)|exact ofB (by with_unfolding_all rfl)|omega|(simp only [go_sem,bz];omega)) only [go_sem,Nat.reduceAdd,Nat.reduceBEq,hx,hww,hw,hn]
  ·left
   refine ⟨hi',?_,by omega⟩
   unfold ij ek
   simp (maxSteps:=3000000) (implicitDefEqProofs:=false) (disch:=first|assumption|(refine ofR ?_;show norm _ _=_;kernel_rfl)|(refine ofR ?_;show okD _ _ _ _=true;kernel_rfl)|exact ofR (by with_unfolding_all rfl)|exact ofB (by with_unfolding_all rfl)|omega|(simp only [go_sem,bz];omega)) only [go_sem,Nat.reduceAdd,Nat.reduceBEq,hx,hww,hw,hn]
   rfl
 ·right
  obtain rfl:i=l.length:=by omega
  rw [List.take_length] at hp ⊢
  rw [if_neg (by omega)]
  unfold ij ek
  simp (maxSteps:=3000000) (implicitDefEqProofs:=false) (disch:=first|assumption|(refine ofR ?_;show norm _ _=_;kernel_rfl)|(refine ofR ?_;show okD _ _ _ _=true;kernel_rfl)|exact ofR (by with_unfolding_all rfl)|exact ofB (by with_unfolding_all rfl)|omega|(simp only [go_sem,bz];omega)) only [go_sem,Nat.reduceAdd,Nat.reduceBEq]
theorem kqf (l:List ByteArray) (k:Int) (h0:0≤k) (h1:k≤1048576) (hl:l.length<9223372036854000000) (hk: ∀x∈l,x.size<9223372036854000000):
 uz Φ fuel zx [.sl true lz (l.map eStr),.a (.int .i64 k)]=some ([.a (.int .i64 (if k - l.length - tsum l<0 then -1 else k - l.length - tsum l))],[]):=by
 have hw:IntKind.i64.wrap (k -(l.length:Int))=k - l.length:=by rw [vzb]<;>omega
 rw [bq rfl]
 by_cases hn:k -(l.length:Int)<0
 ·have hn':k -(l.length:Int)- tsum l<0:=by omega
  rw [if_pos hn']
  simp (maxSteps:=3000000) (implicitDefEqProofs:=false) (disch:=first|assumption|(refine ofR ?_;show norm _ _=_;kernel_rfl)|(refine ofR ?_;show okD _ _ _ _=true;kernel_rfl)|exact ofR (by with_unfolding_all rfl)|exact ofB (by with_unfolding_all rfl)|omega|(simp only [go_sem,bz];omega)) only [go_sem,Nat.reduceAdd,Nat.reduceBEq,zx,wkb,hw]
 ·have key:=gzf (Φ:=Φ) l (k - l.length) (by omega) (by omega) (by omega) hk
  by_cases hn':k -(l.length:Int)- tsum l<0
  ·rw [if_pos hn'] at key ⊢
   simp (maxSteps:=3000000) (implicitDefEqProofs:=false) (disch:=first|assumption|(refine ofR ?_;show norm _ _=_;kernel_rfl)|(refine ofR ?_;show okD _ _ _ _=true;kernel_rfl)|exact ofR (by with_unfolding_all rfl)|exact ofB (by with_unfolding_all rfl)|omega|(simp only [go_sem,bz];omega)) only [go_sem,Nat.reduceAdd,Nat.reduceBEq,zx,wkb,hw,cqc key]
  ·rw [if_neg hn'] at key ⊢
   simp (maxSteps:=3000000) (implicitDefEqProofs:=false) (disch:=first|assumption|(refine ofR ?_;show norm _ _=_;kernel_rfl)|(refine ofR ?_;show okD _ _ _ _=true;kernel_rfl)|exact ofR (by with_unfolding_all rfl)|exact ofB (by with_unfolding_all rfl)|omega|(simp only [go_sem,bz];omega)) only [go_sem,Nat.reduceAdd,Nat.reduceBEq,zx,wkb,hw,dq key]
theorem mxh {d:Nat} (x:Obj') (k:Int) (h0:0≤k) (h1:k≤1048576) (hl:x.vals.length<9223372036854000000):uz (T (d+1)) fuel pxb [cObj true x,.a (.int .i64 k)]=
 some ([.a (.int .i64 (if k - x.vals.length<0 then -1 else k - x.vals.length))],[]):=by
 have h:=wze (Φ:=T d) (N:=fuel) x.vals k h0 h1 hl
 rw [bq rfl]
 by_cases hk:k -(x.vals.length:Int)<0
 ·rw [if_pos hk] at h ⊢
  simp (maxSteps:=3000000) (implicitDefEqProofs:=false) (disch:=first|assumption|(refine ofR ?_;show norm _ _=_;kernel_rfl)|(refine ofR ?_;show okD _ _ _ _=true;kernel_rfl)|exact ofR (by with_unfolding_all rfl)|exact ofB (by with_unfolding_all rfl)|omega|(simp only [go_sem,bz];omega)) only [go_sem,Nat.reduceAdd,Nat.reduceBEq,pxb,bjd,h]
 ·rw [if_neg hk] at h ⊢
  simp (maxSteps:=3000000) (implicitDefEqProofs:=false) (disch:=first|assumption|(refine ofR ?_;show norm _ _=_;kernel_rfl)|(refine ofR ?_;show okD _ _ _ _=true;kernel_rfl)|exact ofR (by with_unfolding_all rfl)|exact ofB (by with_unfolding_all rfl)|omega|(simp only [go_sem,bz];omega)) only [go_sem,Nat.reduceAdd,Nat.reduceBEq,pxb,bjd,h]
theorem qjg {d:Nat} (l:List Obj') (k:Int) (h0:0≤k) (h1:k≤1048576) (hl:l.length≤1048576) (hk: ∀x∈l,x.vals.length<9223372036854000000):
 mjb (T (d+2)) fuel [0,1,5] uzb ⟨[(0,.sz lk (l.map eObj)),(1,.a (.int .i64 k)),(5,.a (.int .i64 0))],[],0⟩=
 some (if k - vsum l<0 then (.ret,⟨[(4,.a (.int .i64 (-1)))],[],1400⟩) else (.ext 0,⟨[(0,.sz lk (l.map eObj)),(1,.a (.int .i64 (k - vsum l))),(5,.a (.int .i64 l.length)),(15,.a (.bool false))],[],400⟩)):=by
 have:=ck (Φ:=T (d+2)) (N:=fuel) (live:= [0,1,5]) (b:=uzb) (fun i=>⟨[(0,.sz lk (l.map eObj)),(1,.a (.int .i64 (k -(vsum (l.take i):Nat)))),(5,.a (.int .i64 (i:Nat)))],[],0⟩)
  (if k - vsum l<0 then (.ret,⟨[(4,.a (.int .i64 (-1)))],[],1400⟩) else (.ext 0,⟨[(0,.sz lk (l.map eObj)),(1,.a (.int .i64 (k - vsum l))),(5,.a (.int .i64 l.length)),(15,.a (.bool false))],[],400⟩))
  (fun i=>0≤k -(vsum (l.take i):Nat)) (m:=l.length) (cq (by omega)) (by simp [vsum];exact h0) (by split<;>simp) (fun i hi hp=> ?_)
 ·simpa [vsum] using this
 by_cases hi':i<l.length
 ·obtain ⟨x,hx⟩: ∃a,l[i]? =some a:=⟨_,List.getElem?_eq_getElem hi'⟩
  have ht:=ikf hx
  have hle:=pqh hx
  have hw:=vz i (by omega)
  have hc:=mxh (d:=d) x (k -(vsum (l.take i):Nat)) hp (by omega) (hk x (List.mem_of_getElem? hx))
  have he:k -(vsum (l.take i):Nat)-(x.vals.length:Nat)=k -(vsum (l.take (i+1)):Nat):=by rw [ht];omega
  rw [he] at hc
  by_cases hn:k -(vsum (l.take (i+1)):Nat)<0
  ·right
   rw [if_pos hn] at hc
   rw [if_pos (by omega)]
   unfold ij uzb
   simp (maxSteps:=3000000) (implicitDefEqProofs:=false) (disch:=first|assumption|(refine ofR ?_;show norm _ _=_;kernel_rfl)|(refine ofR ?_;show okD _ _ _ _=true;kernel_rfl)|exact ofR (by with_unfolding_all rfl)|exact ofB (by with_unfolding_all rfl)|omega|(simp only [go_sem,bz];omega)) only [go_sem,Nat.reduceAdd,Nat.reduceBEq,hx,hc,hw]
  ·left
   rw [if_neg hn] at hc
   refine ⟨hi',?_,by omega⟩
   unfold ij uzb
   simp (maxSteps:=3000000) (implicitDefEqProofs:=false) (disch:=first|assumption|(refine ofR ?_;show norm _ _=_;kernel_rfl)|(refine ofR ?_;show okD _ _ _ _=true;kernel_rfl)|exact ofR (by with_unfolding_all rfl)|exact ofB (by with_unfolding_all rfl)|omega|(simp only [go_sem,bz];omega)) only [go_sem,Nat.reduceAdd,Nat.reduceBEq,hx,hc,hw]
   rfl
 ·right
  obtain rfl:i=l.length:=by omega
  rw [List.take_length] at hp ⊢
  rw [if_neg (by omega)]
  unfold ij uzb
  simp (maxSteps:=3000000) (implicitDefEqProofs:=false) (disch:=first|assumption|(refine ofR ?_;show norm _ _=_;kernel_rfl)|(refine ofR ?_;show okD _ _ _ _=true;kernel_rfl)|exact ofR (by with_unfolding_all rfl)|exact ofB (by with_unfolding_all rfl)|omega|(simp only [go_sem,bz];omega)) only [go_sem,Nat.reduceAdd,Nat.reduceBEq]
theorem zzh {d:Nat} (l:List Obj') (k:Int) (h0:0≤k) (h1:k≤1048576) (hl:l.length<9223372036854000000) (hk: ∀x∈l,x.vals.length<9223372036854000000):
 uz (T (d+2)) fuel yzb [.sl true lk (l.map eObj),.a (.int .i64 k)]=some ([.a (.int .i64 (if k - l.length - vsum l<0 then -1 else k - l.length - vsum l))],[]):=by
 have hw:IntKind.i64.wrap (k -(l.length:Int))=k - l.length:=by rw [vzb]<;>omega
 rw [bq rfl]
 by_cases hn:k -(l.length:Int)<0
 ·have hn':k -(l.length:Int)- vsum l<0:=by omega
  rw [if_pos hn']
  simp (maxSteps:=3000000) (implicitDefEqProofs:=false) (disch:=first|assumption|(refine ofR ?_;show norm _ _=_;kernel_rfl)|(refine ofR ?_;show okD _ _ _ _=true;kernel_rfl)|exact ofR (by with_unfolding_all rfl)|exact ofB (by with_unfolding_all rfl)|omega|(simp only [go_sem,bz];omega)) only [go_sem,Nat.reduceAdd,Nat.reduceBEq,yzb,pqc,hw]
 ·have key:=qjg (d:=d) l (k - l.length) (by omega) (by omega) (by omega) hk
  by_cases hn':k -(l.length:Int)- vsum l<0
  ·rw [if_pos hn'] at key ⊢
   simp (maxSteps:=3000000) (implicitDefEqProofs:=false) (disch:=first|assumption|(refine ofR ?_;show norm _ _=_;kernel_rfl)|(refine ofR ?_;show okD _ _ _ _=true;kernel_rfl)|exact ofR (by with_unfolding_all rfl)|exact ofB (by with_unfolding_all rfl)|omega|(simp only [go_sem,bz];omega)) only [go_sem,Nat.reduceAdd,Nat.reduceBEq,yzb,pqc,hw,cqc key]
  ·rw [if_neg hn'] at key ⊢
   simp (maxSteps:=3000000) (implicitDefEqProofs:=false) (disch:=first|assumption|(refine ofR ?_;show norm _ _=_;kernel_rfl)|(refine ofR ?_;show okD _ _ _ _=true;kernel_rfl)|exact ofR (by with_unfolding_all rfl)|exact ofB (by with_unfolding_all rfl)|omega|(simp only [go_sem,bz];omega)) only [go_sem,Nat.reduceAdd,Nat.reduceBEq,yzb,pqc,hw,dq key]
def gsum (g:Gr):Nat:=g.roots.length+g.nodes.length+vsum g.nodes
theorem xjg {d:Nat} (g:Gr) (k:Int) (h0:0≤k) (h1:k≤1048576) (hr:g.roots.length<9223372036854000000) (hl:g.nodes.length<9223372036854000000) (hk: ∀x∈g.nodes,x.vals.length<9223372036854000000):
 uz (T (d+3)) fuel zk [cGrL g,.a (.int .i64 k)]=some ([.a (.int .i64 (if k - gsum g<0 then -1 else k - gsum g))],[]):=by
 have g1:=wze (Φ:=T (d+2)) (N:=fuel) g.roots k h0 h1 hr
 rw [bq rfl]
 unfold gsum
 by_cases c1:k -(g.roots.length:Int)<0
 ·rw [if_pos c1] at g1
  rw [if_pos (by omega)]
  simp (maxSteps:=3000000) (implicitDefEqProofs:=false) (disch:=first|assumption|(refine ofR ?_;show norm _ _=_;kernel_rfl)|(refine ofR ?_;show okD _ _ _ _=true;kernel_rfl)|exact ofR (by with_unfolding_all rfl)|exact ofB (by with_unfolding_all rfl)|omega|(simp only [go_sem,bz];omega)) only [go_sem,Nat.reduceAdd,Nat.reduceBEq,zk,qjc,g1]
 ·rw [if_neg c1] at g1
  have g2:=zzh (d:=d) g.nodes (k - g.roots.length) (by omega) (by omega) hl hk
  have e:k -((g.roots.length+g.nodes.length+vsum g.nodes:Nat):Int)=k - g.roots.length - g.nodes.length - vsum g.nodes:=by omega
  rw [e]
  by_cases c2:k -(g.roots.length:Int)- g.nodes.length - vsum g.nodes<0
  ·rw [if_pos c2] at g2 ⊢
   simp (maxSteps:=3000000) (implicitDefEqProofs:=false) (disch:=first|assumption|(refine ofR ?_;show norm _ _=_;kernel_rfl)|(refine ofR ?_;show okD _ _ _ _=true;kernel_rfl)|exact ofR (by with_unfolding_all rfl)|exact ofB (by with_unfolding_all rfl)|omega|(simp only [go_sem,bz];omega)) only [go_sem,Nat.reduceAdd,Nat.reduceBEq,zk,qjc,g1,g2]
  ·rw [if_neg c2] at g2 ⊢
   simp (maxSteps:=3000000) (implicitDefEqProofs:=false) (disch:=first|assumption|(refine ofR ?_;show norm _ _=_;kernel_rfl)|(refine ofR ?_;show okD _ _ _ _=true;kernel_rfl)|exact ofR (by with_unfolding_all rfl)|exact ofB (by with_unfolding_all rfl)|omega|(simp only [go_sem,bz];omega)) only [go_sem,Nat.reduceAdd,Nat.reduceBEq,zk,qjc,g1,g2]
theorem vzf (l:List ByteArray) (hl:l.length≤1048576):
 mjb Φ fuel [0,1,5] gqb ⟨[(0,.sz lz (l.map eStr)),(1,.sz lz (l.map eStr)),(5,.a (.int .i64 0))],[],0⟩=
 some (.ext 0,⟨[(0,.sz lz (l.map eStr)),(1,.sz lz (l.map eStr)),(5,.a (.int .i64 l.length)),(14,.a (.bool false))],[],400⟩):=by
 refine lx (fun i=>⟨[(0,.sz lz (l.map eStr)),(1,.sz lz (l.map eStr)),(5,.a (.int .i64 (i:Nat)))],[],0⟩) _ (m:=l.length) (cq (by omega)) (fun i hi=> ?_) ?_
 ·obtain ⟨a,ha⟩: ∃a,l[i]? =some a:=⟨_,List.getElem?_eq_getElem hi⟩
  have hw:=vz i (by omega)
  unfold ij gqb
  have hne:decide (a≠a)=false:=decide_eq_false fun h=>h rfl
  simp (maxSteps:=3000000) (implicitDefEqProofs:=false) (disch:=first|assumption|(refine ofR ?_;show norm _ _=_;kernel_rfl)|(refine ofR ?_;show okD _ _ _ _=true;kernel_rfl)|exact ofR (by with_unfolding_all rfl)|exact ofB (by with_unfolding_all rfl)|omega|(simp only [go_sem,bz];omega)) only [go_sem,Nat.reduceAdd,Nat.reduceBEq,ha,hw,hne]
  rfl
 ·unfold ij gqb
  simp (maxSteps:=3000000) (implicitDefEqProofs:=false) (disch:=first|assumption|(refine ofR ?_;show norm _ _=_;kernel_rfl)|(refine ofR ?_;show okD _ _ _ _=true;kernel_rfl)|exact ofR (by with_unfolding_all rfl)|exact ofB (by with_unfolding_all rfl)|omega|(simp only [go_sem,bz];omega)) only [go_sem,Nat.reduceAdd,Nat.reduceBEq]
theorem nqf (l:List ByteArray) (hl:l.length≤1048576):uz Φ fuel qzb [.sl true lz (l.map eStr),.sl true lz (l.map eStr)]=some ([.a (.bool true)],[]):=by
 have key:=vzf (Φ:=Φ) l hl
 rw [bq rfl]
 simp (maxSteps:=3000000) (implicitDefEqProofs:=false) (disch:=first|assumption|(refine ofR ?_;show norm _ _=_;kernel_rfl)|(refine ofR ?_;show okD _ _ _ _=true;kernel_rfl)|exact ofR (by with_unfolding_all rfl)|exact ofB (by with_unfolding_all rfl)|omega|(simp only [go_sem,bz];omega)) only [go_sem,Nat.reduceAdd,Nat.reduceBEq,qzb,lzd,dq key]
theorem pxh {d:Nat} (x:Obj') (hl:x.vals.length≤1048576):uz (T (d+1)) fuel izc [cObj true x,cObj true x]=some ([.a (.bool true)],[]):=by
 have h:=yze (Φ:=T d) (N:=fuel) x.vals (by omega) (cq (by omega))
 rw [bq rfl]
 simp (maxSteps:=3000000) (implicitDefEqProofs:=false) (disch:=first|assumption|(refine ofR ?_;show norm _ _=_;kernel_rfl)|(refine ofR ?_;show okD _ _ _ _=true;kernel_rfl)|exact ofR (by with_unfolding_all rfl)|exact ofB (by with_unfolding_all rfl)|omega|(simp only [go_sem,bz];omega)) only [go_sem,Nat.reduceAdd,Nat.reduceBEq,izc,fje,h]
theorem ixg {d:Nat} (l:List Obj') (hl:l.length≤1048576) (hk: ∀x∈l,x.vals.length≤1048576):
 mjb (T (d+2)) fuel [0,1,5] xkb ⟨[(0,.sz gz (l.map eObj)),(1,.sz gz (l.map eObj)),(5,.a (.int .i64 0))],[],0⟩=
 some (.ext 0,⟨[(0,.sz gz (l.map eObj)),(1,.sz gz (l.map eObj)),(5,.a (.int .i64 l.length)),(14,.a (.bool false))],[],400⟩):=by
 refine lx (fun i=>⟨[(0,.sz gz (l.map eObj)),(1,.sz gz (l.map eObj)),(5,.a (.int .i64 (i:Nat)))],[],0⟩) _ (m:=l.length) (cq (by omega)) (fun i hi=> ?_) ?_
 ·obtain ⟨a,ha⟩: ∃a,l[i]? =some a:=⟨_,List.getElem?_eq_getElem hi⟩
  have hc:=pxh (d:=d) a (hk a (List.mem_of_getElem? ha))
  have hw:=vz i (by omega)
  unfold ij xkb
  simp (maxSteps:=3000000) (implicitDefEqProofs:=false) (disch:=first|assumption|(refine ofR ?_;show norm _ _=_;kernel_rfl)|(refine ofR ?_;show okD _ _ _ _=true;kernel_rfl)|exact ofR (by with_unfolding_all rfl)|exact ofB (by with_unfolding_all rfl)|omega|(simp only [go_sem,bz];omega)) only [go_sem,Nat.reduceAdd,Nat.reduceBEq,ha,hc,hw]
  rfl
 ·unfold ij xkb
  simp (maxSteps:=3000000) (implicitDefEqProofs:=false) (disch:=first|assumption|(refine ofR ?_;show norm _ _=_;kernel_rfl)|(refine ofR ?_;show okD _ _ _ _=true;kernel_rfl)|exact ofR (by with_unfolding_all rfl)|exact ofB (by with_unfolding_all rfl)|omega|(simp only [go_sem,bz];omega)) only [go_sem,Nat.reduceAdd,Nat.reduceBEq]
theorem cjh {d:Nat} (l:List Obj') (hl:l.length≤1048576) (hk: ∀x∈l,x.vals.length≤1048576):uz (T (d+2)) fuel yxb [.sl true gz (l.map eObj),.sl true gz (l.map eObj)]=some ([.a (.bool true)],[]):=by
 have key:=ixg (d:=d) l hl hk
 rw [bq rfl]
 simp (maxSteps:=3000000) (implicitDefEqProofs:=false) (disch:=first|assumption|(refine ofR ?_;show norm _ _=_;kernel_rfl)|(refine ofR ?_;show okD _ _ _ _=true;kernel_rfl)|exact ofR (by with_unfolding_all rfl)|exact ofB (by with_unfolding_all rfl)|omega|(simp only [go_sem,bz];omega)) only [go_sem,Nat.reduceAdd,Nat.reduceBEq,yxb,ikd,dq key]
theorem cxe {d:Nat} (g:Gr) (hr:g.roots.length≤1048576) (hn:g.nodes.length≤1048576) (hv: ∀o∈g.nodes,o.vals.length≤1048576):uz (T (d+3)) fuel tqb [cGr true g,cGr true g]=some ([.a (.bool true)],[]):=by
 have h1:=yze (Φ:=T (d+2)) (N:=fuel) g.roots (by omega) (cq (by omega))
 have h2:=cjh (d:=d) g.nodes hn hv
 rw [bq rfl]
 simp (maxSteps:=3000000) (implicitDefEqProofs:=false) (disch:=first|assumption|(refine ofR ?_;show norm _ _=_;kernel_rfl)|(refine ofR ?_;show okD _ _ _ _=true;kernel_rfl)|exact ofR (by with_unfolding_all rfl)|exact ofB (by with_unfolding_all rfl)|omega|(simp only [go_sem,bz];omega)) only [go_sem,Nat.reduceAdd,Nat.reduceBEq,tqb,kqd,h1,h2]
end Go.Proofs.YtjdcidigbbbckaaDoor.VM

/- What is found in an image: the reference's. Graphs of images: the reference's. Images that are checked, and runs that are planned: the reference's. Drawn configs, references, and what is kept or hurt. Words written into images and read back. -/
import Derived.Test.YtkidnhclcbcglaaGreatLawF
import Derived.Test.YtkidnhclcbcglaaGreatLawDraw
open Nat renaming reduceAdd->Aa,reduceBEq->Ab,sub_self->Bo
open List renaming getElem?_eq_some_iff->Ac,mem_of_getElem?->Ae,getElem?_eq_getElem->Ah,all_eq_true->Am,length_append->An,length_map->Ao,getElem?_eq_none_iff->Ap,mem_singleton->Aq,prefix_refl->As,cons_append->Av,range->Ax,foldl_cons->Ay,nil_append->Az,mem_range->A1,map_singleton->A2,getElem?_append_right->A3,length_range->A4,getElem?_append_left->A5,length_take->A6,mem_append->A7,map_append->A8,getElem?_range->Bc,nodup_append->Bf,take_add_one->Bg,take_length->Bh,range_succ->Bi,IsPrefix->Bl,mem_cons->Bm,mem_map->Bp
open Int renaming toNat_natCast->Ad,ofNat_tdiv->Bk,tdiv->Bn
open Option renaming getD_some->Af,isSome_some->Ai,isSome_none->Aj,getD_none->Al,toList_some->Be,map_some->Bj
open Go.IntKind renaming i64->Ag
open ByteArray renaming size_extract->Ak,extract_append->At,size_append->Aw,data_extract->A9,append_assoc->Ba
open UInt8 renaming ofNat->Ar
open Bool renaming and_eq_true->Au,true_and->Bb
namespace Go.Proofs.YtkidnhclcbcglaaGreat.VM
open Go Sy
variable {Φ:Nat→Option Callee} {N:Nat}
set_option maxRecDepth 100000
set_option maxHeartbeats 8000000
def addL (ls:List Int) (r:Int):List Int:=if r≠0∧plcI (r.tdiv 2) ls<0 then ls++ [r.tdiv 2] else ls
theorem vtk {c:Cf} {r:Int} (h:isRef c r=true) (h0:r≠0):isLine c (r.tdiv 2)=true∧2≤r∧r≤254:=by
 unfold isRef at h;simp only [Bool.or_eq_true,Au,decide_eq_true_eq] at h;rcases h with h|⟨h1,h2⟩
 ·exact absurd h h0
 ·obtain ⟨h3,h4,_⟩:=qcm h1;exact ⟨h2,h3,h4⟩
structure LsOk (c:Cf) (ls:List Int):Prop where
 n:ls.Nodup
 l:∀x∈ls,isLine c x=true
theorem qdm:∀(n:Nat) (l:List Int),l.Nodup→(∀x∈l,0≤x∧x<n)→l.length≤n:=by
 intro n;induction n with
 |zero=>
  intro l _ h;cases l with
  |nil=>simp
  |cons x l=>have:=h x (by simp);omega
 |succ n ih=>
  intro l hn h
  have h1:=ih (l.erase (n:Int)) (hn.erase _) (fun x hx=>by
   have h2:=h x (List.mem_of_mem_erase hx);have h3:x≠n:=fun e=>by subst e;exact (List.Nodup.not_mem_erase hn) hx
   omega)
  have:=List.length_erase (a:=(n:Int)) (l:=l);split at this<;>omega
theorem LsOk.len {c:Cf} {ls:List Int} (hC:Conf c) (h:LsOk c ls):ls.length≤128:=by
 have:=hC.l1;have:=hC.g0;refine qdm 128 ls h.n fun x hx=> ?_;have:=h.l x hx;unfold isLine at this;simp only [decide_eq_true_eq] at this;omega
theorem qsv {x:Int} {l:List Int} (h:¬plcI x l<0):x∈l:=by
 obtain ⟨y,h1,h2⟩:=qte (q:=fun y=>decide (y=x)) (l:=l) (by unfold plcI at h;omega);simp only [decide_eq_true_eq] at h2;subst h2;exact Ae h1
theorem qfd {x:Int} {l:List Int} (h:plcI x l<0):x∉l:=fun hx=>by
 have:=qrh h x hx;simp at this
theorem qg3 {c:Cf} {ls:List Int} {r:Int} (h:LsOk c ls) (hr:isRef c r=true):LsOk c (addL ls r):=by
 unfold addL;split
 ·rename_i h1;obtain ⟨h2,_⟩:=vtk hr h1.1;refine ⟨?_,fun x hx=> ?_⟩
  ·rw [Bf];refine ⟨h.n,by simp,fun a ha b hb=> ?_⟩;simp only [Aq] at hb;subst hb;intro e;subst e;exact qfd h1.2 ha
  ·rcases A7.1 hx with hx|hx
   ·exact h.l x hx
   ·simp only [Aq] at hx;subst hx;exact h2
 ·exact h
theorem qd2 {ls:List Int} {r:Int} (h:r≠0):r.tdiv 2∈addL ls r:=by
 unfold addL;split
 ·simp
 ·rename_i h1;exact qsv fun h2=>h1 ⟨h,h2⟩
abbrev sF0 (c:Cf) (s:ByteArray) (refs:List Int) (i:Nat) (ls:List Int):St:=⟨[(1,.a (.string s)),(2,.sz vam (refs.map vap)),(3,.rf 0),(9,.rf 1),(10,.a (.int .i64 (i:Nat)))],[(0,some (.bx false (uCf c))),(1,some (.sl false 0 vam (ls.map vap)))],2⟩
theorem qny {r:Int} (h:2≤r∧r≤254):Ag.wrap (r.tdiv 2)=r.tdiv 2:=by
 obtain ⟨n,rfl⟩:∃n:Nat,r=n:=⟨r.toNat,by omega⟩
 rw [show Bn (n:Int) 2=((n/2:Nat):Int) from (Bk _ 2).symm,vai]<;>omega
theorem qi7 {d:Nat} {c:Cf} (hC:Conf c) {s:ByteArray} {refs:List Int} (hr:∀r∈refs,isRef c r=true) (hl:refs.length≤1048576):
  va7 (T (d+1)) vad [1,2,3,9,10] vhx (sF0 c s refs 0 [])=
   some (.ext 0,⟨[(1,.a (.string s)),(2,.sz vam (refs.map vap)),(3,.rf 0),(9,.rf 1),(10,.a (.int .i64 (refs.length:Nat))),(22,.a (.bool false))],[(0,some (.bx false (uCf c))),(1,some (.sl false 0 vam ((refs.foldl addL []).map vap)))],402⟩)∧LsOk c (refs.foldl addL []):=by
 refine vee (Φ:=T (d+1)) (N:=vad) (live:= [1,2,3,9,10]) (b:=vhx) refs (sF0 c s refs) (fun _ ls=>LsOk c ls) addL
  (fun ls=>⟨[(1,.a (.string s)),(2,.sz vam (refs.map vap)),(3,.rf 0),(9,.rf 1),(10,.a (.int .i64 (refs.length:Nat))),(22,.a (.bool false))],[(0,some (.bx false (uCf c))),(1,some (.sl false 0 vam (ls.map vap)))],402⟩) (id:=0) (vay zo) (a0:= []) ⟨by simp,by simp⟩ (fun i r ls hi hp=> ?_) fun ls hp=> ?_
 ·have hil:=(Ac.1 hi).1;have hw:=vat i zo;have hrr:=hr r (Ae hi);refine ⟨?_,qg3 hp hrr⟩;have hlen:=hp.len hC;unfold round addL sF0 vhx;by_cases c0:r=0
  ·rw [if_neg (fun h=>h.1 c0)];simp -implicitDefEqProofs (disch:=first|exact zd|fail) only [go_sem,Aa,Ab,hi,hw,c0]
   (show some _=some _;kernel_rfl)
  ·obtain ⟨_,hb⟩:=vtk hrr c0;have e1:=qny hb;have h1:=vl2 (Φ:=T d) ls (r.tdiv 2) zo;by_cases c1:plcI (r.tdiv 2) ls<0
   ·rw [if_pos ⟨c0,c1⟩];generalize plcI (r.tdiv 2) ls=p at *;generalize hq:r.tdiv 2=q at *;rw [vbt];simp -implicitDefEqProofs (disch:=first|exact zd|fail) only [go_sem,Aa,Ab,hi,hw,c0,hq,e1,h1,c1]
    (show some _=some _;kernel_rfl)
   ·rw [if_neg (fun h=>c1 h.2)];generalize plcI (r.tdiv 2) ls=p at *;simp -implicitDefEqProofs (disch:=first|exact zd|fail) only [go_sem,Aa,Ab,hi,hw,c0,e1,h1,c1]
    (show some _=some _;kernel_rfl)
 ·unfold round vhx;simp -implicitDefEqProofs (disch:=first|exact zd|fail) only [go_sem,Aa,Ab]
structure Fs where
 ls:List Int
 os:List Obj'
 tk:List Int
def takeG (l:Int) (n k:Nat) (tk:List Int):Stp (List Int) Unit:=if k<n then (if 0≤plcI (l+k) tk then .ret () else .go (tk++ [l+k])) else .fin
def addV (k:ByteArray) (vs:List Int) (ls:List Int) (i:Nat):List Int:=if bAt k i=114 then addL ls (vs[i]?.getD 0) else ls
def addO (k:ByteArray) (vs:List Int) (ls:List Int):List Int:=(Ax vs.length).foldl (addV k vs) ls
def runN (k:ByteArray):Nat:=(k.size+8)/8
def findG (c:Cf) (s:ByteArray) (i:Nat) (st:Fs):Stp Fs Unit:=match st.ls[i]? with
 |none=> .fin
 |some l=>match oldAt c s l.toNat with
  |none=> .ret ()
  |some o=>match itr (takeG l (runN (vav c.types o.ty))) (runN (vav c.types o.ty)+1) 0 st.tk with
   | .inr _=> .ret ()
   | .inl p=> .go ⟨addO (vav c.types o.ty) o.vals st.ls,st.os++ [o],p.2⟩
abbrev nF1 (c:Cf) (st:Fs):vb5:= [(0,some (.bx false (uCf c))),(1,some (.sl false 0 vam (st.ls.map vap))),(2,some (.sl false 0 vau (st.os.map eObj))),(3,some (.sl false 0 vam (st.tk.map vap)))]
abbrev sF1 (c:Cf) (s:ByteArray) (i:Nat) (st:Fs):St:=⟨[(1,.a (.string s)),(3,.rf 0),(9,.rf 1),(11,.rf 2),(12,.rf 3),(13,.a (.int .i64 (i:Nat)))],nF1 c st,4⟩
abbrev nF2 (c:Cf) (ls:List Int) (os:List Obj') (tk:List Int) (o:Obj'):vb5:= [(0,some (.bx false (uCf c))),(1,some (.sl false 0 vam (ls.map vap))),(2,some (.sl false 0 vau (os.map eObj))),(3,some (.sl false 0 vam (tk.map vap))),(4,some (.bx false [.a (.int .i64 o.ty),.rf 5])),(5,some (.sl false 0 vam (o.vals.map vap)))]
abbrev sF2 (s:ByteArray) (i:Nat) (w:vb8):vb8:= [(1,.a (.string s)),(3,.rf 0),(9,.rf 1),(11,.rf 2),(12,.rf 3),(13,.a (.int .i64 (i:Nat))),(14,.rf 4)]++w
structure TkOk (c:Cf) (tk:List Int):Prop where
 n:tk.Nodup
 l:∀x∈tk,0≤x∧x<c.lines
theorem TkOk.len {c:Cf} {tk:List Int} (hC:Conf c) (h:TkOk c tk):tk.length≤128:=by
 have:=hC.l1;exact qdm 128 tk h.n fun x hx=>by have:=h.l x hx;omega
theorem qic {d:Nat} {c:Cf} {s:ByteArray} (hC:Conf c) (i l:Nat) (ls:List Int) (os:List Obj') (tk0:List Int) (o:Obj') (hl:ls[i]? =some (l:Int)) {k:ByteArray} (hk:c.types[o.ty.toNat]? =some k) (h0:0≤o.ty) (hn:(l:Int)+runN k≤c.lines) (ht:TkOk c tk0):
  itO 4 (fun j tk=>⟨sF2 s i [(16,.a (.int .i64 (j:Nat))),(76,.a (.bool false))],nF2 c ls os tk o,906⟩) (fun _ e=>e.slots= [(6,.nl vam),(7,.nl vau),(8,.a (.bool false))])
   (va7 (T (d+3)) vad [1,3,9,11,12,13,14,16] vhs ⟨sF2 s i [(16,.a (.int .i64 (0:Nat)))],nF2 c ls os tk0 o,6⟩) (itr (takeG l (runN k)) (runN k+1) 0 tk0)∧
   (∀j tk,itr (takeG l (runN k)) (runN k+1) 0 tk0= .inl (j,tk)→(j≤runN k∧TkOk c tk∧tk.length=tk0.length+j)∧takeG l (runN k) j tk= .fin)∧∀r,itr (takeG l (runN k)) (runN k+1) 0 tk0= .inr r→∃j tk,(j≤runN k∧TkOk c tk∧tk.length=tk0.length+j)∧takeG l (runN k) j tk= .ret r:=by
 have l1:=hC.l1;refine vr8 4 (takeG l (runN k)) (fun j tk=>⟨sF2 s i [(16,.a (.int .i64 (j:Nat)))],nF2 c ls os tk o,6⟩) (fun j tk=>j≤runN k∧TkOk c tk∧tk.length=tk0.length+j) _ _ (vay zo) ⟨by omega,ht,by simp⟩ ?_
 rintro j tk ⟨hj,htk,hlen⟩
 refine ⟨hj,?_⟩;have hks:=hC.ty k (Ae hk);have hok:=hC.ok k (Ae hk);have h1:=via (d:=d) k zo;rw [vhh hok,show ((k.size+8)/8:Nat)=runN k from rfl] at h1;have htl:=htk.len hC;obtain ⟨t,vs⟩:=o;dsimp only at *;obtain ⟨t,rfl⟩:∃n:Nat,t=n:=⟨t.toNat,by omega⟩
 rw [Ad] at hk;have htt:=(Ac.1 hk).1;have hil:=(Ac.1 hl).1;generalize runN k=n at *;unfold takeG;by_cases c0:j<n
 ·rw [if_pos c0];have c0':(j:Int)<n:=by omega
  have hw:=vat j zo;have e1:Ag.wrap ((l:Int)+j)=(l:Int)+j:=vai _ zo zo;have h2:=vl2 (Φ:=T (d+2)) tk ((l:Int)+j) zo;by_cases c1:0≤plcI ((l:Int)+j) tk
  ·rw [if_pos c1];generalize plcI ((l:Int)+j) tk=p at *;show ∃e,round _ _ _ _ _=_∧_;unfold round sF2 nF2 vhs;simp -implicitDefEqProofs (disch:=first|exact zd|fail) only [go_sem,Aa,Ab,hk,h1,hl,c0',e1,h2,c1];exact ⟨_,rfl,rfl⟩
  ·rw [if_neg c1];refine ⟨?_,by omega,⟨?_,fun x hx=> ?_⟩,by rw [An,hlen];rfl⟩
   ·generalize plcI ((l:Int)+j) tk=p at *;dsimp only;unfold round sF2 nF2 vhs;rw [vbt];simp -implicitDefEqProofs (disch:=first|exact zd|fail) only [go_sem,Aa,Ab,hk,h1,hl,c0',e1,h2,c1,hw]
    (show some _=some _;kernel_rfl)
   ·rw [Bf];refine ⟨htk.n,by simp,fun a ha b hb=> ?_⟩;simp only [Aq] at hb;subst hb;intro e;subst e;exact qfd zo ha
   ·rcases A7.1 hx with hx|hx
    ·exact htk.l x hx
    ·simp only [Aq] at hx;subst hx;omega
 ·rw [if_neg c0];have c0':¬(j:Int)<n:=by omega
  show round _ _ _ _ _=_;unfold round sF2 nF2 vhs;simp -implicitDefEqProofs (disch:=first|exact zd|fail) only [go_sem,Aa,Ab,hk,h1,c0']
theorem qsq {c:Cf} {o:Obj'} {k:ByteArray} (hr:refsOk c o k=true) {ls:List Int} (h:LsOk c ls) {i:Nat} (hi:i<o.vals.length):LsOk c (addV k o.vals ls i):=by
 unfold addV;split
 ·rename_i h1;unfold refsOk at hr;have:=Am.1 hr i (A1.2 hi);unfold badO at this;rw [decide_eq_true h1] at this;exact qg3 h (by simpa using this)
 ·exact h
theorem qh9 {d:Nat} {c:Cf} {s:ByteArray} (hC:Conf c) (i:Nat) (ls0:List Int) (os:List Obj') (tk:List Int) (o:Obj') {k:ByteArray} (hk:c.types[o.ty.toNat]? =some k) (h0:0≤o.ty) (hn:o.vals.length=k.size) (hr:refsOk c o k=true) (hls:LsOk c ls0):
  va7 (T (d+1)) vad [1,3,9,11,12,13,14,17] vds ⟨sF2 s i [(17,.a (.int .i64 (0:Nat)))],nF2 c ls0 os tk o,6⟩=
   some (.ext 6,⟨sF2 s i [(17,.a (.int .i64 (o.vals.length:Nat))),(101,.a (.bool false))],nF2 c (addO k o.vals ls0) os tk o,506⟩)∧LsOk c (addO k o.vals ls0):=by
 have hks:=hC.ty k (Ae hk);have key:=vee (Φ:=T (d+1)) (N:=vad) (live:= [1,3,9,11,12,13,14,17]) (b:=vds) (Ax o.vals.length) (fun j ls=>⟨sF2 s i [(17,.a (.int .i64 (j:Nat)))],nF2 c ls os tk o,6⟩) (fun _ ls=>LsOk c ls) (addV k o.vals)
  (fun ls=>⟨sF2 s i [(17,.a (.int .i64 (o.vals.length:Nat))),(101,.a (.bool false))],nF2 c ls os tk o,506⟩) (id:=6) (vay (by simp;omega)) (a0:=ls0) hls (fun j x ls hj hp=> ?_) fun ls hp=> ?_
 ·exact key
 ·have hjn:j<o.vals.length:=by have:=(Ac.1 hj).1;simpa using this
  rw [Bc hjn] at hj;cases hj;refine ⟨?_,qsq hr hp hjn⟩;have hlen:=hp.len hC;obtain ⟨v,hb⟩:∃b,o.vals[j]? =some b:=⟨_,Ah hjn⟩
  have hr1:=Am.1 hr j (A1.2 hjn);unfold badO at hr1;unfold addV addL;rw [hb,Af] at hr1⊢;obtain ⟨t,vs⟩:=o;dsimp only at *;obtain ⟨t,rfl⟩:∃n:Nat,t=n:=⟨t.toNat,by omega⟩
  rw [Ad] at hk;have htt:=(Ac.1 hk).1;have hw:=vat j zo;have hx:=vi9 (s:=k) (j:=j) zo;by_cases c1:bAt k j=114
  ·have c1':(bAt k j:Int)=114:=by omega
   rw [decide_eq_true c1] at hr1;have hrr:isRef c v=true:=by simpa using hr1
   rw [if_pos c1];by_cases c0:v=0
   ·rw [if_neg (fun h=>h.1 c0)];unfold round sF2 nF2 vds;simp -implicitDefEqProofs (disch:=first|exact zd|fail) only [go_sem,Aa,Ab,hk,hb,hx,c1',c0,hw]
    (show some _=some _;kernel_rfl)
   ·obtain ⟨_,hbd⟩:=vtk hrr c0;have e1:=qny hbd;have h1:=vl2 (Φ:=T d) ls (v.tdiv 2) zo;by_cases c2:plcI (v.tdiv 2) ls<0
    ·rw [if_pos ⟨c0,c2⟩];generalize plcI (v.tdiv 2) ls=p at *;generalize hq:v.tdiv 2=q at *;unfold round sF2 nF2 vds;rw [vbt];simp -implicitDefEqProofs (disch:=first|exact zd|fail) only [go_sem,Aa,Ab,hk,hb,hx,c1',c0,hw,hq,e1,h1,c2]
     (show some _=some _;kernel_rfl)
    ·rw [if_neg (fun h=>c2 h.2)];generalize plcI (v.tdiv 2) ls=p at *;unfold round sF2 nF2 vds;simp -implicitDefEqProofs (disch:=first|exact zd|fail) only [go_sem,Aa,Ab,hk,hb,hx,c1',c0,hw,e1,h1,c2]
     (show some _=some _;kernel_rfl)
  ·have c1':¬(bAt k j:Int)=114:=by omega
   rw [if_neg c1];unfold round sF2 nF2 vds;simp -implicitDefEqProofs (disch:=first|exact zd|fail) only [go_sem,Aa,Ab,hk,hb,hx,c1',hw]
   (show some _=some _;kernel_rfl)
 ·unfold round sF2 nF2 vds;rw [A4];simp -implicitDefEqProofs (disch:=first|exact zd|fail) only [go_sem,Aa,Ab]
structure FsOk (c:Cf) (s:ByteArray) (ls0:List Int) (i:Nat) (st:Fs):Prop where
 ls:LsOk c st.ls
 tk:TkOk c st.tk
 it:i≤st.tk.length
 o:st.os.length=i
 il:i≤st.ls.length
 at_:∀(j:Nat) l o,st.ls[j]? =some l→st.os[j]? =some o→oldAt c s l.toNat=some o
 cl:∀o∈st.os,∀(j:Nat) v,o.vals[j]? =some v→bAt (vav c.types o.ty) j=114→v≠0→v.tdiv 2∈st.ls
 pr:ls0<+:st.ls
theorem vx9 {c:Cf} {s:ByteArray} {l:Nat} {o:Obj'} (h:oldAt c s l=some o):objOkR c.types o=true∧(64 * (l+runOf (vav c.types o.ty)):Int)≤s.size∧refsOk c o (vav c.types o.ty)=true:=by
 unfold oldAt at h;split at h
 ·rename_i o' ho;split at h
  ·rename_i hr;cases h;obtain ⟨h1,h2⟩:=qez ho;exact ⟨h1,h2,hr⟩
  ·cases h
 ·cases h
theorem qed (ls:List Int) (r:Int):ls<+:addL ls r:=by
 unfold addL;split
 ·exact List.prefix_append _ _
 ·exact As _
theorem vr0 (k:ByteArray) (vs:List Int):∀(l:List Nat) (ls:List Int),ls<+:l.foldl (addV k vs) ls:=by
 intro l;induction l with
 |nil=>intro ls;exact As _
 |cons j l ih=>
  intro ls;rw [Ay];refine Bl.trans ?_ (ih _);unfold addV;split
  ·exact qed _ _
  ·exact As _
theorem qpt {k:ByteArray} {vs:List Int} {j:Nat} {v:Int} (hv:vs[j]? =some v) (hk:bAt k j=114) (h0:v≠0):∀(l:List Nat) (ls:List Int),j∈l→v.tdiv 2∈l.foldl (addV k vs) ls:=by
 intro l;induction l with
 |nil=>intro ls h;cases h
 |cons x l ih=>
  intro ls h;rw [Ay];by_cases hx:j∈l
  ·exact ih _ hx
  ·have:j=x:=by
    rcases Bm.1 h with h|h
    ·exact h
    ·exact absurd h hx
   subst this;refine (vr0 k vs l _).subset ?_;unfold addV;rw [if_pos hk,hv,Af];exact qd2 h0
theorem qla {l:Int} {n j:Nat} {tk:List Int} (h:takeG l n j tk= .fin) (hj:j≤n):j=n:=by
 unfold takeG at h;split at h
 ·split at h<;>cases h
 ·omega
theorem qgb {d:Nat} {c:Cf} {s:ByteArray} (hI:Img c s) (ls0:List Int) (hls:LsOk c ls0):
  itO 2 (fun i st=>⟨[(1,.a (.string s)),(3,.rf 0),(9,.rf 1),(11,.rf 2),(12,.rf 3),(13,.a (.int .i64 (i:Nat))),(53,.a (.bool false))],nF1 c st,404⟩) (fun _ e=>e.slots= [(6,.nl vam),(7,.nl vau),(8,.a (.bool false))])
   (va7 (T (d+8)) vad [1,3,9,11,12,13] vfy (sF1 c s 0 ⟨ls0,[],[]⟩)) (itr (findG c s) 129 0 ⟨ls0,[],[]⟩)∧
   (∀i st,itr (findG c s) 129 0 ⟨ls0,[],[]⟩= .inl (i,st)→FsOk c s ls0 i st∧findG c s i st= .fin)∧∀r,itr (findG c s) 129 0 ⟨ls0,[],[]⟩= .inr r→∃i st,FsOk c s ls0 i st∧findG c s i st= .ret r:=by
 have hC:=hI.C;refine vr8 2 (findG c s) (sF1 c s) (FsOk c s ls0) _ _ (m:=128) (vay zo) ⟨hls,⟨by simp,by simp⟩,by simp,by simp,by simp,by simp,by simp,As _⟩ ?_
 rintro i st hst
 have htl:=hst.tk.len hC;have hi1:=hst.it;refine ⟨by omega,?_⟩;have hlen:=hst.ls.len hC;unfold findG;cases hl:st.ls[i]? with
 |none=>
  have hge:=Ap.1 hl;have hil:=hst.il;have hlt:¬(i:Int)<st.ls.length:=by omega
  obtain ⟨ls,os,tk⟩:=st;show round _ _ _ _ _=_;dsimp only at *;unfold round sF1 nF1 vfy;simp -implicitDefEqProofs (disch:=first|exact zd|fail) only [go_sem,Aa,Ab,hlt];done
 |some l=>
  have hil:=(Ac.1 hl).1;have hline:=hst.ls.l _ (Ae hl);unfold isLine at hline;simp only [decide_eq_true_eq] at hline;have hg0:=hC.g0;have hl1:=hC.l1;obtain ⟨l,rfl⟩:∃n:Nat,l=n:=⟨l.toNat,by omega⟩
  dsimp only;rw [Ad];have h1:=qi3 (d:=d) hI l zo;have hw:=vat i zo;have hlt:(i:Int)<st.ls.length:=by omega
  cases ho:oldAt c s l with
  |none=>
   rw [ho] at h1;obtain ⟨ls,os,tk⟩:=st;show ∃e,round _ _ _ _ _=_∧_;dsimp only at *;unfold round sF1 nF1 vfy;simp -implicitDefEqProofs (disch:=first|exact zd|fail) only [go_sem,Aa,Ab,hl,h1,Al,Aj];exact ⟨_,rfl,rfl⟩
  |some o=>
   rw [ho] at h1;obtain ⟨o1,o2,o3⟩:=vx9 ho;have hr:=vj0 o1;have hrn:runOf (vav c.types o.ty)=(runN (vav c.types o.ty):Nat):=vhh hr.ok;have hz:=hI.z;rw [hrn] at o2;have hn:(l:Int)+runN (vav c.types o.ty)≤c.lines:=by omega
   have hn1:1≤runN (vav c.types o.ty):=by unfold runN;have:=hr.n0;omega
   obtain ⟨k1,k2,k3⟩:=qic (d:=d+5) (s:=s) hC i l st.ls st.os st.tk o hl hr.kk hr.t0 hn hst.tk;dsimp only;generalize hX:itr (takeG l (runN (vav c.types o.ty))) (runN (vav c.types o.ty)+1) 0 st.tk=X at *;cases X with
   |inr r=>
    obtain ⟨⟨sl,nd,nx⟩,k6,k7⟩:=k1;cases k7;obtain ⟨ls,os,tk⟩:=st;obtain ⟨t,vs⟩:=o;show ∃e,round _ _ _ _ _=_∧_;dsimp only at *;unfold sF2 nF2 at k6;simp only [Av,Az] at k6;unfold round sF1 nF1 vfy;simp -implicitDefEqProofs (disch:=first|exact zd|fail) only [go_sem,Aa,Ab,hl,h1,Af,Ai,vhc k6];exact ⟨_,rfl,rfl⟩
   |inl p=>
    obtain ⟨j,tk'⟩:=p;obtain ⟨⟨g1,g2,g3⟩,g4⟩:=k2 _ _ rfl;have hj:=qla g4 g1;obtain ⟨k4,k5⟩:=qh9 (d:=d+7) (s:=s) hC i st.ls st.os tk' o hr.kk hr.t0 hr.n o3 hst.ls;dsimp only [itO] at k1;refine ⟨?_,⟨k5,g2,?_,?_,?_,?_,?_,hst.pr.trans (vr0 _ _ _ _)⟩⟩
    ·have hol:st.os.length≤128:=by rw [hst.o];omega
     generalize addO (vav c.types o.ty) o.vals st.ls=ls' at *;obtain ⟨ls,os,tk⟩:=st;obtain ⟨t,vs⟩:=o;dsimp only at *;unfold sF2 nF2 at k1 k4;simp only [Av,Az] at k1 k4;unfold round sF1 nF1 vfy;rw [vbt];simp -implicitDefEqProofs (disch:=first|exact zd|fail) only [go_sem,Aa,Ab,hl,h1,Af,Ai,vao k1,vao k4,hw]
     (show some _=some _;kernel_rfl)
    ·dsimp only;omega
    ·dsimp only;rw [An,hst.o];rfl
    ·dsimp only;have:=(vr0 (vav c.types o.ty) o.vals (Ax o.vals.length) st.ls).length_le;unfold addO;omega
    ·intro j' l' o' hl' ho';dsimp only at hl' ho';have hso:=hst.o;have hpre:=vr0 (vav c.types o.ty) o.vals (Ax o.vals.length) st.ls;have hjl:j'≤i:=by
      have:=(Ac.1 ho').1;rw [An,hso] at this;simp at this;omega
     have hl2:st.ls[j']? =some l':=by
      have h3:j'<st.ls.length:=by omega
      have h4:=hpre.getElem h3;have h5:=(Ac.1 hl').2;rw [Ah h3,h4];exact congrArg some h5
     by_cases hji:j'=i
     ·subst hji;rw [hl] at hl2;cases hl2;rw [A3 zo,hso,Bo] at ho';cases ho';rw [Ad];exact ho
     ·rw [A5 zo] at ho';exact hst.at_ j' l' o' hl2 ho'
    ·intro o' ho' j' v hv hb h0;dsimp only at ho'⊢;rcases A7.1 ho' with ho'|ho'
     ·exact (vr0 (vav c.types o.ty) o.vals (Ax o.vals.length) st.ls).subset (hst.cl o' ho' j' v hv hb h0)
     ·simp only [Aq] at ho';subst ho';exact qpt hv hb h0 _ _ (A1.2 (Ac.1 hv).1)
theorem qkk:∀(l ls:List Int),ls<+:l.foldl addL ls:=by
 intro l;induction l with
 |nil=>intro ls;exact As _
 |cons j l ih=>intro ls;rw [Ay];exact Bl.trans (qed _ _) (ih _)
theorem qj2 {r:Int} (h0:r≠0):∀(l ls:List Int),r∈l→r.tdiv 2∈l.foldl addL ls:=by
 intro l;induction l with
 |nil=>intro ls h;cases h
 |cons x l ih=>
  intro ls h;rw [Ay];rcases Bm.1 h with h|h
  ·subst h;exact (qkk l _).subset (qd2 h0)
  ·exact ih _ h
def found (c:Cf) (s:ByteArray) (refs:List Int):Option Fs:=match itr (findG c s) 129 0 ⟨refs.foldl addL [],[],[]⟩ with
 | .inl p=>some p.2
 | .inr _=>none
theorem qk4 {c:Cf} {s:ByteArray} {i:Nat} {st:Fs} (h:findG c s i st= .fin):st.ls.length≤i:=by
 unfold findG at h;split at h
 ·rename_i h1;exact Ap.1 h1
 ·split at h
  ·cases h
  ·split at h<;>cases h
theorem vpo {d:Nat} {c:Cf} {s:ByteArray} (hI:Img c s) {refs:List Int} (hr:refsAll c refs=true) (hl:refs.length≤1048576):
  vaf (T (d+8)) vad vgn [cCf true c,.a (.string s),.sl true vam (refs.map vap)]=some ([.sl false vam (((found c s refs).getD ⟨[],[],[]⟩).ls.map vap),.sl false vau (((found c s refs).getD ⟨[],[],[]⟩).os.map eObj),.a (.bool (found c s refs).isSome)],[])∧
  ∀st,found c s refs=some st→FsOk c s (refs.foldl addL []) st.ls.length st∧∀r∈refs,r≠0→r.tdiv 2∈st.ls:=by
 obtain ⟨key,k2⟩:=qi7 (d:=d+7) hI.C (s:=s) (refs:=refs) (Am.1 hr) hl;obtain ⟨k3,k4,_⟩:=qgb (d:=d) hI (refs.foldl addL []) k2;unfold found;cases hX:itr (findG c s) 129 0 ⟨refs.foldl addL [],[],[]⟩ with
 |inl p=>
  obtain ⟨i,st⟩:=p;obtain ⟨h1,h2⟩:=k4 i st hX;have h3:=qk4 h2;rw [hX] at k3;dsimp only [itO] at k3;refine ⟨?_,fun st' hst'=> ?_⟩
  ·obtain ⟨ls,os,tk⟩:=st;rw [vag rfl];unfold sF1 nF1 at k3;unfold sF0 at key;generalize refs.foldl addL []=ls0 at *;simp -implicitDefEqProofs (disch:=first|exact zd|fail) only [go_sem,Aa,Ab,vgn,vo5,vao key,vao k3,Af,Ai];done
  ·cases hst';have:=h1.il;obtain rfl:i=st.ls.length:=by omega
   refine ⟨h1,fun r hr h0=>h1.pr.subset (qj2 h0 refs [] hr)⟩
 |inr r=>
  rw [hX] at k3;obtain ⟨⟨sl,nd,nx⟩,k6,k7⟩:=k3;cases k7;refine ⟨?_,fun st' hst'=>by cases hst'⟩;rw [vag rfl];unfold sF1 nF1 at k6;unfold sF0 at key;generalize refs.foldl addL []=ls0 at *;simp -implicitDefEqProofs (disch:=first|exact zd|fail) only [go_sem,Aa,Ab,vgn,vo5,vao key,vhc k6,Al,Aj]
def told (ls:List Int) (r:Int):Int:=if r=0 then 0 else plcI (r.tdiv 2) ls+1
theorem vxa {d:Nat} (ls:List Int) (hl:ls.length≤1048576) (r:Int) (hr:r=0∨2≤r∧r≤254):vaf (T (d+1)) vad vgt [.sl true vam (ls.map vap),.a (.int .i64 r)]=some ([.a (.int .i64 (told ls r))],[]):=by
 rw [vag rfl];unfold told;by_cases c0:r=0
 ·rw [if_pos c0];simp -implicitDefEqProofs (disch:=first|exact zd|fail) only [go_sem,Aa,Ab,vgt,vot,c0]
 ·rw [if_neg c0];have e1:=qny (r:=r) zo;have h1:=vl2 (Φ:=T d) ls (r.tdiv 2) hl;have h2: -1≤plcI (r.tdiv 2) ls∧plcI (r.tdiv 2) ls<ls.length:=qld;have e2:Ag.wrap (plcI (r.tdiv 2) ls+1)=plcI (r.tdiv 2) ls+1:=vai _ zo zo;generalize plcI (r.tdiv 2) ls=p at *;simp -implicitDefEqProofs (disch:=first|exact zd|fail) only [go_sem,Aa,Ab,vgt,vot,c0,e1,h1,e2]
def mapStep (c:Cf) (m:ByteArray) (p:Int×Obj'):ByteArray:=turnS m p.1.toNat (runN (vav c.types p.2.ty))
def mapFound (c:Cf) (st:Fs):ByteArray:=(st.ls.zip st.os).foldl (mapStep c) (zerosB 64)
theorem qk9 {d:Nat} {c:Cf} {s:ByteArray} {ls0:List Int} {n:Nat} (hI:Img c s) (st:Fs) (h:FsOk c s ls0 n st) (hn:st.ls.length=n):
  va7 (T (d+3)) vad [3,7,8,10,11] vii ⟨[(3,.rf 0),(7,.rf 1),(8,.rf 2),(10,.a (.string (zerosB 64))),(11,.a (.int .i64 (0:Nat)))],[(0,some (.bx false (uCf c))),(1,some (.sl false 0 vam (st.ls.map vap))),(2,some (.sl false 0 vau (st.os.map eObj)))],3⟩=
   some (.ext 0,⟨[(3,.rf 0),(7,.rf 1),(8,.rf 2),(10,.a (.string (mapFound c st))),(11,.a (.int .i64 (n:Nat))),(26,.a (.bool false))],[(0,some (.bx false (uCf c))),(1,some (.sl false 0 vam (st.ls.map vap))),(2,some (.sl false 0 vau (st.os.map eObj)))],403⟩)∧(mapFound c st).size=64:=by
 have hC:=hI.C;have hlen:=h.ls.len hC;have hos:=h.o;have hz:(st.ls.zip st.os).length=n:=by rw [List.length_zip];omega
 refine vee (Φ:=T (d+3)) (N:=vad) (live:= [3,7,8,10,11]) (b:=vii) (st.ls.zip st.os) (fun i m=>⟨[(3,.rf 0),(7,.rf 1),(8,.rf 2),(10,.a (.string m)),(11,.a (.int .i64 (i:Nat)))],[(0,some (.bx false (uCf c))),(1,some (.sl false 0 vam (st.ls.map vap))),(2,some (.sl false 0 vau (st.os.map eObj)))],3⟩) (fun _ m=>m.size=64) (mapStep c)
  (fun m=>⟨[(3,.rf 0),(7,.rf 1),(8,.rf 2),(10,.a (.string m)),(11,.a (.int .i64 (n:Nat))),(26,.a (.bool false))],[(0,some (.bx false (uCf c))),(1,some (.sl false 0 vam (st.ls.map vap))),(2,some (.sl false 0 vau (st.os.map eObj)))],403⟩) (id:=0) (vay zo) (a0:=zerosB 64) (vh7 64) (fun i p m hi hp=> ?_) fun m hp=> ?_
 ·obtain ⟨l,o⟩:=p;have hil:=(Ac.1 hi).1;have hw:=vat i zo;rw [List.getElem?_zip_eq_some] at hi;obtain ⟨hl,ho⟩:=hi;dsimp only at hl ho;have hold:=h.at_ i l o hl ho;have hline:=h.ls.l _ (Ae hl);unfold isLine at hline;simp only [decide_eq_true_eq] at hline;have hg0:=hC.g0;have hl1:=hC.l1;obtain ⟨l,rfl⟩:∃n:Nat,l=n:=⟨l.toNat,by omega⟩
  rw [Ad] at hold;obtain ⟨o1,o2,o3⟩:=vx9 hold;have hr:=vj0 o1;have hrn:runOf (vav c.types o.ty)=(runN (vav c.types o.ty):Nat):=vhh hr.ok;have hsz:=hI.z;rw [hrn] at o2;have hks:=hC.ty _ (Ae hr.kk);have h1:=via (d:=d) (vav c.types o.ty) zo;rw [hrn] at h1;have h2:=vzq (Φ:=T (d+2)) m hp l (runN (vav c.types o.ty)) zo;have h3:=qac (m:=m) (a:=l) (n:=runN (vav c.types o.ty)) hp zo;unfold mapStep;dsimp only;rw [Ad];refine ⟨?_,h3⟩;have hkk:=hr.kk;have t0:=hr.t0;generalize turnS m l (runN (vav c.types o.ty))=m' at *;generalize runN (vav c.types o.ty)=q at *;generalize vav c.types o.ty=k at *;obtain ⟨t,vs⟩:=o;dsimp only at *;obtain ⟨t,rfl⟩:∃n:Nat,t=n:=⟨t.toNat,by omega⟩
  rw [Ad] at hkk;have htt:=(Ac.1 hkk).1;have hll:=(Ac.1 hl).1;have hol:=(Ac.1 ho).1;have hlt:(i:Int)<st.ls.length:=by omega
  unfold round vii;simp -implicitDefEqProofs (disch:=first|exact zd|fail) only [go_sem,Aa,Ab,hw,hlt,hl,ho,hkk,h1,h2]
  (show some _=some _;kernel_rfl)
 ·rw [hz];have hlt:¬(n:Int)<st.ls.length:=by omega
  unfold round vii;simp -implicitDefEqProofs (disch:=first|exact zd|fail) only [go_sem,Aa,Ab,hlt]
def mapRefs (c:Cf) (s:ByteArray) (refs:List Int):ByteArray:=match found c s refs with|some st=>mapFound c st|none=>⟨#[]⟩
theorem qjr {d:Nat} {c:Cf} {s:ByteArray} (hI:Img c s) {refs:List Int} (hr:refsAll c refs=true) (hl:refs.length≤1048576):
  vaf (T (d+9)) vad vho [cCf true c,.a (.string s),.sl true vam (refs.map vap)]=some ([.a (.string (mapRefs c s refs))],[])∧(mapRefs c s refs≠⟨#[]⟩→(mapRefs c s refs).size=64):=by
 obtain ⟨h1,h2⟩:=vpo (d:=d) hI hr hl;have h3:=vki (Φ:=T (d+8)) (N:=vad) 64 zo;rw [show ((64:Nat):Int)=64 from rfl] at h3;unfold mapRefs;cases hf:found c s refs with
 |none=>
  rw [hf] at h1;refine ⟨?_,fun h=>absurd rfl h⟩;rw [vag rfl];simp -implicitDefEqProofs (disch:=first|exact zd|fail) only [go_sem,Aa,Ab,vho,vp9,h1,Al,Aj]
 |some st=>
  rw [hf] at h1;obtain ⟨h4,_⟩:=h2 st hf;obtain ⟨k1,k2⟩:=qk9 (d:=d+6) hI st h4 rfl;refine ⟨?_,fun _=>k2⟩;rw [vag rfl];obtain ⟨ls,os,tk⟩:=st;dsimp only at k1⊢;generalize mapFound c ⟨ls,os,tk⟩=m' at *;generalize zerosB 64=z at *;simp -implicitDefEqProofs (disch:=first|exact zd|fail) only [go_sem,Aa,Ab,vho,vp9,h1,Af,Ai,h3,vao k1]
abbrev nD0 (c:Cf) (rt ls:List Int) (os:List Obj') (g:Gr):vb5:= [(0,some (.bx false (uCf c))),(1,some (.bx false [.rf 6,.rf 7])),(2,some (.sl false 0 vam (rt.map vap))),(3,some (.sl false 0 vam (ls.map vap))),(4,some (.sl false 0 vau (os.map eObj))),(5,some (.bx false [.rf 8,.rf 9])),(6,some (.sl false 0 vam [])),(7,some (.sl false 0 vau [])),(8,some (.sl false 0 vam (g.roots.map vap))),(9,some (.sl false 0 vau (g.nodes.map eObj)))]
theorem qd7 {c:Cf} {r:Int} (h:isRef c r=true):r=0∨2≤r∧r≤254:=by
 by_cases h0:r=0
 ·exact .inl h0
 ·exact .inr (vtk h h0).2
theorem qd1 {d:Nat} {c:Cf} {rt ls:List Int} {os:List Obj'} (hr:∀r∈rt,isRef c r=true) (hl:rt.length≤1048576) (hls:ls.length≤128):
  va7 (T (d+2)) vad [2,4,6,8,9,11,12] viv ⟨[(2,.rf 0),(4,.rf 1),(6,.rf 2),(8,.rf 3),(9,.rf 4),(11,.rf 5),(12,.a (.int .i64 (0:Nat)))],nD0 c rt ls os ⟨((rt.take 0).map (told ls)),[]⟩,10⟩=
   some (.ext 0,⟨[(2,.rf 0),(4,.rf 1),(6,.rf 2),(8,.rf 3),(9,.rf 4),(11,.rf 5),(12,.a (.int .i64 (rt.length:Nat))),(41,.a (.bool false))],nD0 c rt ls os ⟨((rt.take rt.length).map (told ls)),[]⟩,410⟩):=by
 refine vc5 (m:=rt.length) (fun i=>⟨[(2,.rf 0),(4,.rf 1),(6,.rf 2),(8,.rf 3),(9,.rf 4),(11,.rf 5),(12,.a (.int .i64 (i:Nat)))],nD0 c rt ls os ⟨((rt.take i).map (told ls)),[]⟩,10⟩) _ (vay zo) (fun i hi=> ?_) ?_
 ·obtain ⟨r,hx⟩:∃b,rt[i]? =some b:=⟨_,Ah hi⟩
  have hw:=vat i zo;have h1:=vxa (d:=d) ls zo r (qd7 (hr r (Ae hx)));rw [Bg,hx,Be,A8,A2];have hln:((rt.take i).map (told ls)).length≤1048576:=by rw [Ao,A6];omega
  generalize told ls r=v at *;generalize (rt.take i).map (told ls)=rs at *;unfold round nD0 viv;dsimp only;rw [vbt];simp -implicitDefEqProofs (disch:=first|exact zd|fail) only [go_sem,Aa,Ab,hw,hx,h1]
  (show some _=some _;kernel_rfl)
 ·unfold round nD0 viv;generalize (rt.take rt.length).map (told ls)=rs at *;simp -implicitDefEqProofs (disch:=first|exact zd|fail) only [go_sem,Aa,Ab]
def tellN (k:ByteArray) (ls vs:List Int) (n:Nat):List Int:=(Ax n).map fun i=>if bAt k i=114 then told ls (vs[i]?.getD 0) else vs[i]?.getD 0
def tellO (c:Cf) (ls:List Int) (o:Obj'):Obj':=⟨o.ty,tellN (vav c.types o.ty) ls o.vals o.vals.length⟩
abbrev sD2 (w:vb8):vb8:= [(2,.rf 0),(4,.rf 1),(8,.rf 2),(9,.rf 3),(11,.rf 4)]++w
abbrev nD1 (c:Cf) (ls:List Int) (os:List Obj') (g:Gr):vb5:= [(0,some (.bx false (uCf c))),(1,some (.bx false [.rf 5,.rf 6])),(2,some (.sl false 0 vam (ls.map vap))),(3,some (.sl false 0 vau (os.map eObj))),(4,some (.bx false [.rf 7,.rf 8])),(5,some (.sl false 0 vam [])),(6,some (.sl false 0 vau [])),(7,some (.sl false 0 vam (g.roots.map vap))),(8,some (.sl false 0 vau (g.nodes.map eObj)))]
abbrev nD2 (c:Cf) (ls:List Int) (os:List Obj') (g:Gr) (o:Obj'):vb5:= [(0,some (.bx false (uCf c))),(1,some (.bx false [.rf 6,.rf 7])),(2,some (.sl false 0 vam (ls.map vap))),(3,some (.sl false 0 vau (os.map eObj))),(4,some (.bx false [.rf 8,.rf 9])),(5,some (.bx false [.a (.int .i64 o.ty),.rf 10])),(6,some (.sl false 0 vam [])),(7,some (.sl false 0 vau [])),(8,some (.sl false 0 vam (g.roots.map vap))),(9,some (.sl false 0 vau (g.nodes.map eObj))),(10,some (.sl false 0 vam (o.vals.map vap)))]
structure OldR (c:Cf) (o:Obj'):Prop where
 r:ObjR c.types o (vav c.types o.ty)
 f:refsOk c o (vav c.types o.ty)=true
theorem qjk {k:ByteArray} {ls vs:List Int} {j:Nat} {v:Int} (h:vs[j]? =some v):tellN k ls vs (j+1)=tellN k ls vs j++ [if bAt k j=114 then told ls v else v]:=by
 unfold tellN;rw [Bi,A8,A2,h];rfl
theorem qet {d:Nat} {c:Cf} {ls:List Int} {os:List Obj'} {g:Gr} (hC:Conf c) {i:Nat} {o:Obj'} (ho:os[i]? =some o) (hr:OldR c o) (hls:ls.length≤128) (hos:os.length≤128):
  va7 (T (d+2)) vad [2,4,8,9,11,13,14,15] vge ⟨sD2 [(13,.a (.int .i64 (i:Nat))),(14,.rf 5),(15,.a (.int .i64 (0:Nat)))],nD2 c ls os g ⟨o.ty,tellN (vav c.types o.ty) ls o.vals 0⟩,11⟩=
   some (.ext 4,⟨sD2 [(13,.a (.int .i64 (i:Nat))),(14,.rf 5),(15,.a (.int .i64 (o.vals.length:Nat))),(74,.a (.bool false))],nD2 c ls os g (tellO c ls o),811⟩):=by
 have hR:=hr.r;have n1:=hR.n1;have nn:=hR.n;unfold tellO;refine vc5 (m:=o.vals.length) (fun j=>⟨sD2 [(13,.a (.int .i64 (i:Nat))),(14,.rf 5),(15,.a (.int .i64 (j:Nat)))],nD2 c ls os g ⟨o.ty,tellN (vav c.types o.ty) ls o.vals j⟩,11⟩) _ (vay zo) (fun j hj=> ?_) ?_
 ·obtain ⟨v,hx⟩:∃b,o.vals[j]? =some b:=⟨_,Ah hj⟩
  rw [qjk hx];have hw:=vat j zo;have hkk:=hR.kk;have t0:=hR.t0;have hf:=hr.f;unfold refsOk at hf;have hf1:=Am.1 hf j (A1.2 hj);unfold badO at hf1;rw [hx,Af] at hf1;have hix:=vi9 (s:=vav c.types o.ty) (j:=j) zo;have hln:(tellN (vav c.types o.ty) ls o.vals j).length≤1048576:=by unfold tellN;rw [Ao,A4];omega
  generalize tellN (vav c.types o.ty) ls o.vals j=ws at *;generalize vav c.types o.ty=k at *;have hoi:=(Ac.1 ho).1;obtain ⟨t,vs⟩:=o;dsimp only at *;obtain ⟨t,rfl⟩:∃n:Nat,t=n:=⟨t.toNat,by omega⟩
  rw [Ad] at hkk;have htt:=(Ac.1 hkk).1;by_cases c1:bAt k j=114
  ·have c1':(bAt k j:Int)=114:=by omega
   rw [decide_eq_true c1] at hf1;have hrr:isRef c v=true:=by simpa using hf1
   have h1:=vxa (d:=d) ls zo v (qd7 hrr);rw [if_pos c1];generalize told ls v=w at *;unfold round sD2 nD2 vge;dsimp only;rw [vbt];simp -implicitDefEqProofs (disch:=first|exact zd|fail) only [go_sem,Aa,Ab,hw,ho,hx,hkk,hix,c1',h1]
   (show some _=some _;kernel_rfl)
  ·have c1':¬(bAt k j:Int)=114:=by omega
   rw [if_neg c1];unfold round sD2 nD2 vge;dsimp only;rw [vbt];simp -implicitDefEqProofs (disch:=first|exact zd|fail) only [go_sem,Aa,Ab,hw,ho,hx,hkk,hix,c1']
   (show some _=some _;kernel_rfl)
 ·generalize tellN (vav c.types o.ty) ls o.vals o.vals.length=ws at *;have hoi:=(Ac.1 ho).1;obtain ⟨t,vs⟩:=o;unfold round sD2 nD2 vge;dsimp only at *;simp -implicitDefEqProofs (disch:=first|exact zd|fail) only [go_sem,Aa,Ab,ho]
theorem qdt {d:Nat} {c:Cf} {ls:List Int} {os:List Obj'} {rs:List Int} (hC:Conf c) (hr:∀o∈os,OldR c o) (hls:ls.length≤128) (hos:os.length≤128):
  va7 (T (d+2)) vad [2,4,8,9,11,13] vis ⟨sD2 [(13,.a (.int .i64 (0:Nat)))],nD1 c ls os ⟨rs,(os.take 0).map (tellO c ls)⟩,9⟩=
   some (.ext 2,⟨sD2 [(13,.a (.int .i64 (os.length:Nat))),(58,.a (.bool false))],nD1 c ls os ⟨rs,(os.take os.length).map (tellO c ls)⟩,409⟩):=by
 refine vc5 (m:=os.length) (fun i=>⟨sD2 [(13,.a (.int .i64 (i:Nat)))],nD1 c ls os ⟨rs,(os.take i).map (tellO c ls)⟩,9⟩) _ (vay zo) (fun i hi=> ?_) ?_
 ·obtain ⟨o,hx⟩:∃b,os[i]? =some b:=⟨_,Ah hi⟩
  have hw:=vat i zo;rw [Bg,hx,Be,A8,A2];have hln:((os.take i).map (tellO c ls)).length≤1048576:=by rw [Ao,A6];omega
  generalize (os.take i).map (tellO c ls)=gs at *;have k2:=qet (d:=d) (c:=c) (ls:=ls) (os:=os) (g:=⟨rs,gs⟩) hC hx (hr o (Ae hx)) hls hos;unfold sD2 nD2 tellO at k2;rw [show tellN (vav c.types o.ty) ls o.vals 0= [] from rfl] at k2;unfold tellO;generalize tellN (vav c.types o.ty) ls o.vals o.vals.length=ws at *;obtain ⟨t,vs⟩:=o;unfold round sD2 nD1 vis;dsimp only [Av,Az] at *;rw [vbt];simp -implicitDefEqProofs (disch:=first|exact zd|fail) only [go_sem,Aa,Ab,hw,hx,vao k2]
  (show some _=some _;kernel_rfl)
 ·generalize (os.take os.length).map (tellO c ls)=gs at *;unfold round sD2 nD1 vis;simp -implicitDefEqProofs (disch:=first|exact zd|fail) only [go_sem,Aa,Ab]
def durGr (rt:List Int) (c:Cf) (st:Fs):Gr:=⟨rt.map (told st.ls),st.os.map (tellO c st.ls)⟩
def durOf (c:Cf) (s:ByteArray):Option Gr:=match slotsR c s with
 |some rt=>(found c s rt).map (durGr rt c)
 |none=>none
theorem qcw {c:Cf} {s:ByteArray} {rt:List Int} (h:slotsR c s=some rt):Img c s∧refsAll c rt=true∧rt=veb s:=by
 unfold slotsR at h;split at h<;>cases h
 rename_i hb;simp only [Au] at hb;exact ⟨vvq hb.1,hb.2,rfl⟩
theorem FsOk.old {c:Cf} {s:ByteArray} {ls0:List Int} {n:Nat} {st:Fs} (h:FsOk c s ls0 n st):∀o∈st.os,OldR c o:=by
 intro o ho;obtain ⟨j,hj⟩:=List.getElem?_of_mem ho;have h1:=(Ac.1 hj).1;have h2:=h.o;have h3:=h.il;obtain ⟨l,hl⟩:∃b,st.ls[j]? =some b:=⟨_,Ah zo⟩
 obtain ⟨o1,_,o3⟩:=vx9 (h.at_ j l o hl hj);exact ⟨vj0 o1,o3⟩
theorem qhc (ls:List Int) (r:Int):0≤told ls r∧told ls r≤ls.length:=by
 unfold told;split
 ·omega
 ·have h2: -1≤plcI (r.tdiv 2) ls∧plcI (r.tdiv 2) ls<ls.length:=qld;omega
theorem qrn {s:ByteArray} {k:Nat} (h:refAt s k=true):bAt s k=114:=by
 unfold refAt at h;unfold bAt;cases hb:(ch s)[k]? with
 |none=>rw [hb] at h;cases h
 |some b=>
  rw [hb] at h;simp only [decide_eq_true_eq] at h;rw [Af];omega
theorem qn2 {c:Cf} {s:ByteArray} {g:Gr} (h:durOf c s=some g):Conf c∧graphOk c.types g=true∧g.roots.length=8∧g.nodes.length≤128:=by
 unfold durOf at h;split at h
 ·rename_i rt hs;obtain ⟨hI,hb,hrt⟩:=qcw hs;have hC:=hI.C;cases hf:found c s rt with
  |none=>rw [hf] at h;cases h
  |some st=>
   rw [hf] at h;cases h;have hl8:rt.length=8:=by rw [hrt];exact vkj s
   obtain ⟨h4,_⟩:=(vpo (d:=0) hI hb zo).2 st hf;have hlen:=h4.ls.len hC;have ho:=h4.o;unfold durGr;dsimp only;have hty:vg0 c.types=true:=by
    unfold vg0;rw [Au,Am];exact ⟨decide_eq_true ⟨hC.n0,hC.n1⟩,hC.ok⟩
   refine ⟨hC,?_,by rw [Ao];exact hl8,by rw [Ao];omega⟩;unfold graphOk;dsimp only;rw [hty,Bb];simp only [Ao,Au,decide_eq_true_eq,Am];refine ⟨by omega,by omega,fun r hr=> ?_,fun o hr=> ?_⟩
   ·obtain ⟨x,_,rfl⟩:=Bp.1 hr;have:=qhc st.ls x;unfold isN;rw [decide_eq_true zo]
   ·obtain ⟨x,hx,rfl⟩:=Bp.1 hr;have hR:=(h4.old x hx).r;have hn:=hR.n;unfold objOk tellO;dsimp only;rw [hR.kk];dsimp only;have hln:(tellN (vav c.types x.ty) st.ls x.vals x.vals.length).length=x.vals.length:=by unfold tellN;rw [Ao,A4]
    rw [decide_eq_true hR.t0,decide_eq_true zo,Bb,Bb,vtm];intro j v hv;rw [Nat.zero_add];unfold badV;cases hra:refAt (vav c.types x.ty) j
    ·rfl
    ·have hb:=qrn hra;have hj:=(Ac.1 hv).1;rw [hln] at hj;unfold tellN at hv;rw [List.getElem?_map,Bc hj,Bj,if_pos hb] at hv;cases hv;have:=qhc st.ls (x.vals[j]?.getD 0);unfold isN;rw [decide_eq_true zo];rfl
 ·cases h
theorem qc5 {d:Nat} {c:Cf} (hc:CfSm c) (s:ByteArray):vaf (T (d+9)) vad vd9 [cCf true c,.a (.string s)]=some ([cGr false ((durOf c s).getD ⟨[],[]⟩),.a (.bool (durOf c s).isSome)],[]):=by
 have h1:=qgd (d:=d+3) hc s;rw [vag rfl];unfold durOf;cases hs:slotsR c s with
 |none=>
  rw [hs] at h1;simp -implicitDefEqProofs (disch:=first|exact zd|fail) only [go_sem,Aa,Ab,vd9,vj7,h1,Al,Aj];rfl
 |some rt=>
  rw [hs] at h1;obtain ⟨hI,hb,hrt⟩:=qcw hs;have hl8:rt.length=8:=by rw [hrt];exact vkj s
  obtain ⟨h2,h3⟩:=vpo (d:=d) hI hb zo;dsimp only;clear hrt;cases hf:found c s rt with
  |none=>
   rw [hf] at h2;simp -implicitDefEqProofs (disch:=first|exact zd|fail) only [go_sem,Aa,Ab,vd9,vj7,h1,Af,Ai,h2,Al,Aj,Option.map_none];rfl
  |some st=>
   rw [hf] at h2;obtain ⟨h4,_⟩:=h3 st hf;have hlen:=h4.ls.len hI.C;have hos:=h4.o;have k1:=qd1 (d:=d+7) (c:=c) (rt:=rt) (ls:=st.ls) (os:=st.os) (Am.1 hb) zo hlen;have k2:=qdt (d:=d+7) (c:=c) (ls:=st.ls) (os:=st.os) (rs:=rt.map (told st.ls)) hI.C h4.old hlen zo;unfold durGr;obtain ⟨ls,os,tk⟩:=st;unfold nD0 at k1;dsimp only at k1;rw [Bh] at k1;unfold sD2 nD1 at k2;dsimp only [Av,Az] at k2;rw [Bh] at k2;rw [Bj];dsimp only;generalize rt.map (told ls)=rs at *;generalize os.map (tellO c ls)=gs at *;simp -implicitDefEqProofs (disch:=first|exact zd|fail) only [go_sem,Aa,Ab,vd9,vj7,h1,Af,Ai,h2,vao k1,vao k2];done
def checked (s:ByteArray):Int:=match confOf s with
 |none=>1
 |some c=>if epochOf c s<0 then 2 else match undone s with
  |none=>3
  |some t=>if refsAll c (veb t)=true then (if (found c t (veb t)).isSome=true then 0 else 5) else 4
theorem qf8 {d:Nat} (s:ByteArray) (hs:s.size≤1048576):vaf (T (d+9)) vad vde [.a (.string s)]=some ([.a (.int .i64 (checked s))],[]):=by
 have h1:=vro (d:=d+2) s zo;rw [vag rfl];unfold checked;cases hc:confOf s with
 |none=>
  rw [hc] at h1;unfold noCf at h1;simp -implicitDefEqProofs (disch:=first|exact zd|fail) only [go_sem,Aa,Ab,vde,vgy,h1,Al,Aj]
 |some c=>
  rw [hc] at h1;obtain ⟨hz,hsm,hC,_⟩:=vse hc;have h2:=vxe (d:=d+3) hsm s;dsimp only;by_cases c1:epochOf c s<0
  ·rw [if_pos c1];generalize epochOf c s=e at *;simp -implicitDefEqProofs (disch:=first|exact zd|fail) only [go_sem,Aa,Ab,vde,vgy,h1,Af,Ai,h2,c1]
  ·rw [if_neg c1];have h3:=qif (d:=d+1) s hs;generalize epochOf c s=e at *;cases hu:undone s with
   |none=>
    rw [hu] at h3;simp -implicitDefEqProofs (disch:=first|exact zd|fail) only [go_sem,Aa,Ab,vde,vgy,h1,Af,Ai,h2,c1,h3,Al,Aj]
   |some t=>
    rw [hu] at h3;obtain ⟨c',l,hc',_,ht,hi⟩:=qj1 hu;rw [hc] at hc';cases hc';have hI:=vvq hi;have hsz:=hI.sz;have h4:=vri (d:=d+6) (s:=t) zo zo;have h5:=vw5 (d:=d+5) hC (veb t) (by rw [vkj];omega);have hl8:=vkj t;dsimp only;cases hr:refsAll c (veb t)
    ·rw [hr] at h5;rw [if_neg (by simp)];generalize veb t=sl at *;simp -implicitDefEqProofs (disch:=first|exact zd|fail) only [go_sem,Aa,Ab,vde,vgy,h1,Af,Ai,h2,c1,h3,h4,h5]
    ·rw [hr] at h5;rw [if_pos rfl];obtain ⟨h6,_⟩:=vpo (d:=d) hI hr zo;generalize veb t=sl at *;cases hf:found c t sl with
     |none=>
      rw [hf] at h6;rw [if_neg (by simp)];simp -implicitDefEqProofs (disch:=first|exact zd|fail) only [go_sem,Aa,Ab,vde,vgy,h1,Af,Ai,h2,c1,h3,h4,h5,h6,Al,Aj]
     |some st=>
      rw [hf] at h6;rw [if_pos (show (some st).isSome=true from rfl)];simp -implicitDefEqProofs (disch:=first|exact zd|fail) only [go_sem,Aa,Ab,vde,vgy,h1,Af,Ai,h2,c1,h3,h4,h5,h6]
def planG (c:Cf) (ts:List Int) (i:Nat) (p:ByteArray×List Int):Stp (ByteArray×List Int) Unit:=match ts[i]? with
 |none=> .fin
 |some t=>if findRun p.1 (4+c.log) c.lines (runN (vav c.types t))<0 then .ret () else .go (turnS p.1 (findRun p.1 (4+c.log) c.lines (runN (vav c.types t))).toNat (runN (vav c.types t)),p.2++ [findRun p.1 (4+c.log) c.lines (runN (vav c.types t))])
structure PlOk (c:Cf) (ts:List Int) (i:Nat) (p:ByteArray×List Int):Prop where
 m:p.1.size=64
 n:p.2.length=i
 i:i≤ts.length
 at_:∀(j:Nat) a t,p.2[j]? =some a→ts[j]? =some t→4+c.log≤a∧a+runN (vav c.types t)≤c.lines
abbrev sPl (c:Cf) (ts:List Int) (i:Nat) (p:ByteArray×List Int):St:=⟨[(1,.a (.string p.1)),(2,.sz vam (ts.map vap)),(3,.rf 0),(9,.rf 1),(10,.a (.int .i64 (i:Nat)))],[(0,some (.bx false (uCf c))),(1,some (.sl false 0 vam (p.2.map vap)))],2⟩
theorem qij {d:Nat} {c:Cf} (hC:Conf c) {m:ByteArray} (hm:m.size=64) {ts:List Int} (hts:∀t∈ts,0≤t∧t<c.types.length) (hl:ts.length≤1048576):
  itO 0 (fun i p=>⟨[(1,.a (.string p.1)),(2,.sz vam (ts.map vap)),(3,.rf 0),(9,.rf 1),(10,.a (.int .i64 (i:Nat))),(17,.a (.bool false))],[(0,some (.bx false (uCf c))),(1,some (.sl false 0 vam (p.2.map vap)))],402⟩) (fun _ e=>e.slots= [(6,.nl vam),(7,.a (.string ⟨#[]⟩)),(8,.a (.bool false))])
   (va7 (T (d+4)) vad [1,2,3,9,10] vhr (sPl c ts 0 (m,[]))) (itr (planG c ts) (ts.length+1) 0 (m,[]))∧
   (∀i p,itr (planG c ts) (ts.length+1) 0 (m,[])= .inl (i,p)→PlOk c ts i p∧planG c ts i p= .fin)∧∀r,itr (planG c ts) (ts.length+1) 0 (m,[])= .inr r→∃i p,PlOk c ts i p∧planG c ts i p= .ret r:=by
 have l0:=hC.l0;have l1:=hC.l1;have g0:=hC.g0;have g1:=hC.g1;refine vr8 0 (planG c ts) (sPl c ts) (PlOk c ts) _ _ (m:=ts.length) (vay zo) ⟨hm,rfl,by omega,by simp⟩ ?_
 rintro i ⟨m,out⟩ hp
 have hpm:=hp.m;have hpn:=hp.n;have hpi:=hp.i;dsimp only at hpm hpn;refine ⟨hp.i,?_⟩;unfold planG;dsimp only;cases ht:ts[i]? with
 |none=>
  have hge:=Ap.1 ht;have hlt:¬(i:Int)<ts.length:=by omega
  show round _ _ _ _ _=_;unfold round sPl vhr;simp -implicitDefEqProofs (disch:=first|exact zd|fail) only [go_sem,Aa,Ab,hlt];done
 |some t=>
  have hil:=(Ac.1 ht).1;obtain ⟨t0,t1⟩:=hts t (Ae ht);have hw:=vat i zo;obtain ⟨k,hx⟩:∃k,c.types[t.toNat]? =some k:=⟨_,Ah zo⟩
  have hka:vav c.types t=k:=by unfold vav;rw [hx];rfl
  have hks:=hC.ty k (Ae hx);have h1:=via (d:=d+1) k zo;have hok:=hC.ok k (Ae hx);rw [vhh hok,show ((k.size+8)/8:Nat)=runN k from rfl] at h1;have hq:runN k≤3:=by unfold runN;omega
  have e1:Ag.wrap (4+c.log)=4+c.log:=vai _ zo zo;have h2:=qge (d:=d) m zo (4+c.log) c.lines (runN k);have h4:= @qin m (4+c.log) c.lines (runN k);dsimp only;rw [hka];obtain ⟨t,rfl⟩:∃n:Nat,t=n:=⟨t.toNat,by omega⟩
  rw [Ad] at hx;by_cases c1:findRun m (4+c.log) c.lines (runN k)<0
  ·rw [if_pos c1];generalize findRun m (4+c.log) c.lines (runN k)=a at *;show ∃e,round _ _ _ _ _=_∧_;unfold round sPl vhr;simp -implicitDefEqProofs (disch:=first|exact zd|fail) only [go_sem,Aa,Ab,ht,hx,h1,e1,h2,c1];exact ⟨_,rfl,rfl⟩
  ·rw [if_neg c1];obtain ⟨f1,f2,_⟩:=h4 zo;generalize findRun m (4+c.log) c.lines (runN k)=a at *;obtain ⟨a,rfl⟩:∃n:Nat,a=n:=⟨a.toNat,by omega⟩
   rw [Ad];have h5:=vzq (Φ:=T (d+3)) m hpm a (runN k) zo;have h6:=qac (m:=m) (a:=a) (n:=runN k) hpm zo;refine ⟨?_,⟨h6,by dsimp only;rw [An,hpn];rfl,by omega,?_⟩⟩
   ·generalize turnS m a (runN k)=m' at *;have hol:out.length≤1048576:=by omega
    unfold round sPl vhr;dsimp only;rw [vbt];simp -implicitDefEqProofs (disch:=first|exact zd|fail) only [go_sem,Aa,Ab,ht,hx,h1,e1,h2,c1,hw,h5]
    (show some _=some _;kernel_rfl)
   ·intro j a' t' hj ht';dsimp only at hj;by_cases hji:j<i
    ·rw [A5 zo] at hj;exact hp.at_ j a' t' hj ht'
    ·have hjl:=(Ac.1 hj).1;rw [An,hpn] at hjl;simp at hjl;obtain rfl:j=i:=by omega
     rw [A3 zo,hpn,Bo] at hj;cases hj;rw [ht] at ht';cases ht';rw [hka];exact ⟨f1,f2⟩
def planOf (c:Cf) (m:ByteArray) (ts:List Int):Option (ByteArray×List Int):=match itr (planG c ts) (ts.length+1) 0 (m,[]) with
 | .inl p=>some p.2
 | .inr _=>none
theorem vw9 {d:Nat} {c:Cf} (hC:Conf c) {m:ByteArray} (hm:m.size=64) {ts:List Int} (hts:∀t∈ts,0≤t∧t<c.types.length) (hl:ts.length≤1048576):
  vaf (T (d+4)) vad vgo [cCf true c,.a (.string m),.sl true vam (ts.map vap)]=some ([.sl false vam (((planOf c m ts).getD (⟨#[]⟩,[])).2.map vap),.a (.string ((planOf c m ts).getD (⟨#[]⟩,[])).1),.a (.bool (planOf c m ts).isSome)],[])∧
  ∀p,planOf c m ts=some p→PlOk c ts ts.length p:=by
 obtain ⟨k1,k2,_⟩:=qij (d:=d) hC hm hts hl;unfold planOf;cases hX:itr (planG c ts) (ts.length+1) 0 (m,[]) with
 |inl q=>
  obtain ⟨i,p⟩:=q;obtain ⟨h1,h2⟩:=k2 i p hX;rw [hX] at k1;refine ⟨?_,fun p' hp'=> ?_⟩
  ·obtain ⟨m',out⟩:=p;dsimp only [itO] at k1;unfold sPl at k1;rw [vag rfl];simp -implicitDefEqProofs (disch:=first|exact zd|fail) only [go_sem,Aa,Ab,vgo,vow,vao k1,Af,Ai]
  ·cases hp';have hi:=h1.i;unfold planG at h2;cases ht:ts[i]? with
   |none=>
    have:=Ap.1 ht;obtain rfl:i=ts.length:=by omega
    exact h1
   |some t=>
    rw [ht] at h2;dsimp only at h2;split at h2<;>cases h2
 |inr r=>
  rw [hX] at k1;obtain ⟨⟨sl,nd,nx⟩,k6,k7⟩:=k1;cases k7;refine ⟨?_,fun p' hp'=>by cases hp'⟩;unfold sPl at k6;rw [vag rfl];simp -implicitDefEqProofs (disch:=first|exact zd|fail) only [go_sem,Aa,Ab,vgo,vow,vhc k6,Al,Aj]
def vew (ls:List Int) (r:Int):Int:=if r=0∨r>ls.length then 0 else 2 * ls[(r-1).toNat]?.getD 0
theorem vxn {d:Nat} {ls:List Int} (hl:ls.length≤1048576) (h:∀x∈ls,0≤x∧x≤128) (r:Int) (hr:0≤r):vaf (T d) vad vff [.sl true vam (ls.map vap),.a (.int .i64 r)]=some ([.a (.int .i64 (vew ls r))],[]):=by
 rw [vag rfl];unfold vew;by_cases c0:r=0
 ·rw [if_pos (.inl c0)];simp -implicitDefEqProofs (disch:=first|exact zd|fail) only [go_sem,Aa,Ab,vff,vlh,c0]
 ·by_cases c1:r>(ls.length:Int)
  ·rw [if_pos (.inr c1)];simp -implicitDefEqProofs (disch:=first|exact zd|fail) only [go_sem,Aa,Ab,vff,vlh,c0,c1]
  ·rw [if_neg zo];obtain ⟨u,hu⟩:∃u:Nat,r-1=u:=⟨(r-1).toNat,by omega⟩
   have e1:Ag.wrap (u:Int)=(u:Nat):=vai _ zo zo;obtain ⟨x,hx⟩:∃x,ls[u]? =some x:=⟨_,Ah zo⟩
   obtain ⟨x0,x1⟩:=h x (Ae hx);have e2:Ag.wrap (2 * x)=2 * x:=vai _ zo zo;rw [hu,Ad,hx,Af];have hul:u<ls.length:=by omega
   simp -implicitDefEqProofs (disch:=first|exact zd|fail) only [go_sem,Aa,Ab,vff,vlh,c0,c1,hu,e1,hx,e2]
theorem Conf.dt {c:Cf} (h:DT c.types) (l0:8≤c.lines) (l1:c.lines≤128) (g0:1≤c.log) (g1:c.log≤32) (g2:c.log≤c.lines-5) (y0:2≤c.young) (y1:c.young≤400):Conf c:=
 ⟨l0,l1,g0,g1,g2,y0,y1,h.ne,by have:=h.le;omega,fun s hs=>⟨h.lo s hs,h.hi s hs⟩,h.ok⟩
theorem qi9 {d:Nat} {bs:List Nat} (hb:Bs bs) {p:Nat} (hp:p≤bs.length):∃(c:Cf) (q:Nat),Conf c∧DT c.types∧q≤bs.length∧
  vaf (T (d+4)) vad vd2 [cRd bs p]=some ([cCf false c],[cRd bs q]):=by
 obtain ⟨a,q1,ha,hq1,h1⟩:=va5 (d:=d+2) hb hp 10 zo zo;obtain ⟨b,q2,hb2,hq2,h2⟩:=va5 (d:=d+2) hb hq1 40 zo zo;obtain ⟨ts,q3,hts,hq3,h3⟩:=qj0 (d:=d) hb hq2;obtain ⟨e,q4,he,hq4,h4⟩:=va5 (d:=d+2) hb hq3 14 zo zo;obtain ⟨o,q5,hq5,h5⟩:=vce (d:=d+1) hb hq4 3 zo zo;have e1:Ag.wrap (1+(a:Int))=1+(a:Int):=vai _ zo zo;have e2:Ag.wrap (4+(b:Int))=4+(b:Int):=vai _ zo zo;have e3:Ag.wrap (4+(1+(a:Int)))=5+(a:Int):=by rw [vai _ zo zo];omega
 have e4:Ag.wrap (4+(e:Int))=4+(e:Int):=vai _ zo zo;have e5:Ag.wrap (5+(a:Int)+(4+(e:Int)))=9+(a:Int)+e:=by rw [vai _ zo zo];omega
 cases o with
 |false=>
  refine ⟨⟨9+(a:Int)+e,1+(a:Int),4+(b:Int),ts⟩,q5,Conf.dt hts ?_ ?_ ?_ ?_ ?_ ?_ ?_,hts,hq5,?_⟩
  ·show 8≤9+(a:Int)+e;omega
  ·show 9+(a:Int)+e≤128;omega
  ·show 1≤1+(a:Int);omega
  ·show 1+(a:Int)≤32;omega
  ·show 1+(a:Int)≤9+(a:Int)+e-5;omega
  ·show 2≤4+(b:Int);omega
  ·show 4+(b:Int)≤400;omega
  rw [vag rfl];simp -implicitDefEqProofs (disch:=first|exact zd|fail) only [go_sem,Aa,Ab,vd2,vkr,h1,e1,h2,e2,h3,e3,h4,e4,e5,h5]
 |true=>
  obtain ⟨g,q6,hg,hq6,h6⟩:=va5 (d:=d+2) hb hq5 200 zo zo;have e6:Ag.wrap (9+(a:Int)+e+40)=49+(a:Int)+e:=by rw [vai _ zo zo];omega
  have e7:Ag.wrap (4+(g:Int))=4+(g:Int):=vai _ zo zo;obtain ⟨m,hm⟩:∃m,ext2 false (49+(a:Int)+e) 128=m:=⟨_,rfl⟩
  have hmb:49≤m∧m≤128:=by subst hm;unfold ext2;simp;omega
  refine ⟨⟨m,10,4+(g:Int),ts⟩,q6,Conf.dt hts ?_ ?_ ?_ ?_ ?_ ?_ ?_,hts,hq6,?_⟩
  ·show 8≤m;omega
  ·show m≤128;omega
  ·show (1:Int)≤10;omega
  ·show (10:Int)≤32;omega
  ·show (10:Int)≤m-5;omega
  ·show 2≤4+(g:Int);omega
  ·show 4+(g:Int)≤400;omega
  rw [vag rfl];simp -implicitDefEqProofs (disch:=first|exact zd|fail) only [go_sem,Aa,Ab,vd2,vkr,h1,e1,h2,e2,h3,e3,h4,e4,e5,h5,e6,hm,h6,e7]
theorem qrt {d:Nat} {bs:List Nat} (hb:Bs bs) {p:Nat} (hp:p≤bs.length):∃(v:Int) (q:Nat),q≤bs.length∧
  vaf (T (d+4)) vad vcn [cRd bs p]=some ([.a (.int .i64 v)],[cRd bs q]):=by
 obtain ⟨a,q1,ha,hq1,h1⟩:=va5 (d:=d+2) hb hp 12 zo zo;by_cases c0:(a:Int)=0
 ·obtain ⟨v,q2,_,_,hq2,h2⟩:=vi2 (d:=d) hb hq1 0 254 zo zo zo;refine ⟨v,q2,hq2,?_⟩;rw [vag rfl];simp -implicitDefEqProofs (disch:=first|exact zd|fail) only [go_sem,Aa,Ab,vcn,vdz,h1,c0,h2]
 ·by_cases c1:(a:Int)=1
  ·obtain ⟨v,q2,_,_,hq2,h2⟩:=vi2 (d:=d) hb hq1 0 799 zo zo zo;refine ⟨v,q2,hq2,?_⟩;rw [vag rfl];simp -implicitDefEqProofs (disch:=first|exact zd|fail) only [go_sem,Aa,Ab,vcn,vdz,h1,c1,h2]
  ·by_cases c2:(a:Int)=2
   ·refine ⟨0,q1,hq1,?_⟩;rw [vag rfl];simp -implicitDefEqProofs (disch:=first|exact zd|fail) only [go_sem,Aa,Ab,vcn,vdz,h1,c2]
   ·by_cases c3:(a:Int)=3
    ·refine ⟨0,q1,hq1,?_⟩;rw [vag rfl];simp -implicitDefEqProofs (disch:=first|exact zd|fail) only [go_sem,Aa,Ab,vcn,vdz,h1,c3]
    ·obtain ⟨b,q2,hb2,hq2,h2⟩:=va5 (d:=d+2) hb hq1 20 zo zo;have e1:Ag.wrap (1+(b:Int))=1+(b:Int):=vai _ zo zo;have e2:Ag.wrap (2 * (1+(b:Int)))=2 * (1+(b:Int)):=vai _ zo zo;have e3:Ag.wrap (2 * (b:Int))=2 * (b:Int):=vai _ zo zo;have e4:Ag.wrap (2 * (b:Int)+1)=2 * (b:Int)+1:=vai _ zo zo;by_cases c4:(a:Int)=4
     ·refine ⟨2 * (1+(b:Int)),q2,hq2,?_⟩;rw [vag rfl];simp -implicitDefEqProofs (disch:=first|exact zd|fail) only [go_sem,Aa,Ab,vcn,vdz,h1,c4,h2,e1,e2]
     ·by_cases c5:(a:Int)=5
      ·refine ⟨2 * (1+(b:Int)),q2,hq2,?_⟩;rw [vag rfl];simp -implicitDefEqProofs (disch:=first|exact zd|fail) only [go_sem,Aa,Ab,vcn,vdz,h1,c5,h2,e1,e2]
      ·by_cases c6:(a:Int)=6
       ·refine ⟨2 * (1+(b:Int)),q2,hq2,?_⟩;rw [vag rfl];simp -implicitDefEqProofs (disch:=first|exact zd|fail) only [go_sem,Aa,Ab,vcn,vdz,h1,c6,h2,e1,e2]
       ·refine ⟨2 * (b:Int)+1,q2,hq2,?_⟩;rw [vag rfl];simp -implicitDefEqProofs (disch:=first|exact zd|fail) only [go_sem,Aa,Ab,vcn,vdz,h1,c0,c1,c2,c3,c4,c5,c6,h2,e3,e4]
abbrev sK (bs:List Nat) (q n:Nat) (X:List Int) (w:vb8):St:=⟨[(0,.rf 0),(1,.a (.int .i64 (n:Nat))),(5,.rf 1),(6,.a (.int .i64 (X.length:Nat)))]++w,[(0,nRd bs q),(1,some (.sl false 0 vam (X.map vap)))],2⟩
theorem qsa {d:Nat} {bs:List Nat} (hb:Bs bs) {p:Nat} (hp:p≤bs.length) (n:Nat) (hn:n≤1000):∃e,(∃(X:List Int) (q:Nat),X.length=n∧q≤bs.length∧e=⟨[(0,.rf 0),(1,.a (.int .i64 (n:Nat))),(5,.rf 1),(6,.a (.int .i64 (X.length:Nat))),(10,.a (.bool false)),(10000,.rf 0)],[(0,nRd bs q),(1,some (.sl false 0 vam (X.map vap)))],302⟩)∧
  va7 (T (d+3)) vad [0,1,5,6,10000] viu (sK bs p n [] [(10000,.rf 0)])=some (.ext 0,e):=by
 refine vdk (fun r t=>∃(X:List Int) (q:Nat),X.length+r=n∧q≤bs.length∧t=sK bs q n X [(10000,.rf 0)]) 0 _ (m:=n) (vay zo) ⟨[],p,by simp,hp,rfl⟩ ?_
 rintro r t hr ⟨X,q,hX,hq,rfl⟩
 by_cases hpos:0<r
 ·left;obtain ⟨u,q1,_,hq1,he⟩:=va5 (d:=d+1) hb hq 3 zo zo;have hw:=vat X.length zo;have hlt:(X.length:Int)<n:=by omega
  refine ⟨hpos,_,?_,X++ [(u:Int)],q1,by simp;omega,hq1,rfl⟩;unfold round sK viu;rw [vbt,An];simp -implicitDefEqProofs (disch:=first|exact zd|fail) only [go_sem,Aa,Ab,he,hw,hlt]
  (show some _=some _;kernel_rfl)
 ·right;have hlt:¬(X.length:Int)<n:=by omega
  refine ⟨_,?_,X,q,by omega,hq,rfl⟩;unfold round sK viu;simp -implicitDefEqProofs (disch:=first|exact zd|fail) only [go_sem,Aa,Ab,hlt]
theorem qdw {d:Nat} {bs:List Nat} (hb:Bs bs) {p:Nat} (hp:p≤bs.length) (n:Nat) (hn:n≤1000):∃(X:List Int) (q:Nat),X.length≤n+1∧q≤bs.length∧
  vaf (T (d+4)) vad vc8 [cRd bs p,.a (.int .i64 (n:Nat))]=some ([.sl false vam (X.map vap)],[cRd bs q]):=by
 obtain ⟨_,⟨X,q1,hX,hq1,rfl⟩,key⟩:=qsa (d:=d+1) hb hp n hn;unfold sK at key;obtain ⟨a,q2,_,hq2,h2⟩:=va5 (d:=d+2) hb hq1 12 zo zo;by_cases c0:(a:Int)=0
 ·obtain ⟨u,q3,_,hq3,h3⟩:=va5 (d:=d+2) hb hq2 3 zo zo;refine ⟨X++ [(u:Int)],q3,by simp;omega,hq3,?_⟩;rw [vag rfl,vbt];simp -implicitDefEqProofs (disch:=first|exact zd|fail) only [go_sem,Aa,Ab,vc8,vgu,vao key,h2,c0,h3];done
 ·by_cases c1:(a:Int)=1
  ·refine ⟨X.take (n/2),q2,by rw [A6];omega,hq2,?_⟩;have e1:Ag.wrap (Bn (X.length:Int) 2)=((n/2:Nat):Int):=by
    rw [show Bn (X.length:Int) 2=((X.length/2:Nat):Int) from (Bk _ 2).symm,vai]<;>omega
   rw [vag rfl,List.map_take];simp -implicitDefEqProofs (disch:=first|exact zd|fail) only [go_sem,Aa,Ab,vc8,vgu,vao key,h2,c0,c1,e1];done
  ·by_cases c2:(a:Int)=2
   ·by_cases c3:(X.length:Int)>0
    ·obtain ⟨u,q3,hu,hq3,h3⟩:=va5 (d:=d+2) hb hq2 X.length zo zo;obtain ⟨v,q4,_,_,hq4,h4⟩:=vi2 (d:=d) hb hq3 0 2 zo zo zo;refine ⟨X.set u v,q4,by rw [List.length_set];omega,hq4,?_⟩;have hul:u<X.length:=by omega
     obtain ⟨y,hy⟩:∃y,X[u]? =some y:=⟨_,Ah hul⟩
     rw [vag rfl,List.map_set];simp -implicitDefEqProofs (disch:=first|exact zd|fail) only [go_sem,Aa,Ab,vc8,vgu,vao key,h2,c2,c3,h3,h4,hy];done
    ·refine ⟨X,q2,by omega,hq2,?_⟩;rw [vag rfl];simp -implicitDefEqProofs (disch:=first|exact zd|fail) only [go_sem,Aa,Ab,vc8,vgu,vao key,h2,c2,c3];done
   ·refine ⟨X,q2,by omega,hq2,?_⟩;rw [vag rfl];simp -implicitDefEqProofs (disch:=first|exact zd|fail) only [go_sem,Aa,Ab,vc8,vgu,vao key,h2,c0,c1,c2];done
theorem qpo {d:Nat} {bs:List Nat} (hb:Bs bs) {p:Nat} (hp:p≤bs.length) (s:ByteArray) (hs:s.size≤1000000):∃(t:ByteArray) (q:Nat),t.size≤s.size+1∧q≤bs.length∧
  vaf (T (d+4)) vad vbq [cRd bs p,.a (.string s)]=some ([.a (.string t)],[cRd bs q]):=by
 obtain ⟨a,q1,ha,hq1,h1⟩:=va5 (d:=d+2) hb hp 6 zo zo;by_cases c1:(a:Int)=1
 ·have e1:Ag.wrap ((s.size:Int)+1)=((s.size+1:Nat):Int):=by rw [vai _ zo zo];omega
  obtain ⟨u,q2,hu,hq2,h2⟩:=va5 (d:=d+2) hb hq1 ((s.size+1:Nat):Int) zo zo;refine ⟨s.extract 0 u,q2,by rw [Ak];omega,hq2,?_⟩;have hul:u≤s.size:=by omega
  rw [vag rfl];simp -implicitDefEqProofs (disch:=first|exact zd|fail) only [go_sem,Aa,Ab,vbq,vcp,h1,c1,e1,h2,Ad];done
 ·by_cases c2:(a:Int)=2
  ·by_cases c3:(s.size:Int)>0
   ·obtain ⟨u,q2,hu,hq2,h2⟩:=va5 (d:=d+2) hb hq1 (s.size:Int) zo zo;obtain ⟨v,q3,hv,hq3,h3⟩:=va5 (d:=d+2) hb hq2 4 zo zo;have hul:u<s.size:=by omega
    have e1:Ag.wrap ((u:Int)+1)=((u+1:Nat):Int):=by rw [vai _ zo zo];omega
    have fin (x:ByteArray) (hx1:x.size=1) (hx:([.string ⟨#[0]⟩,.string ⟨#[55]⟩,.string ⟨#[255]⟩,.string ⟨#[32]⟩]:List Value)[v]? =some (.string x)):∃(t:ByteArray) (q:Nat),t.size≤s.size+1∧q≤bs.length∧
      vaf (T (d+4)) vad vbq [cRd bs p,.a (.string s)]=some ([.a (.string t)],[cRd bs q]):=by
     refine ⟨s.extract 0 u++x++s.extract (u+1) s.size,q3,by rw [Aw,Aw,Ak,Ak];omega,hq3,?_⟩;have z1:(s.extract 0 u).size=u:=by rw [Ak];omega
     have z2:(s.extract (u+1) s.size).size=s.size-(u+1):=by rw [Ak];omega
     rw [vag rfl]
     match v,(show v<4 by omega) with
     |0,_=>cases hx;simp -implicitDefEqProofs (disch:=first|exact zd|fail) only [go_sem,Aa,Ab,vbq,vcp,h1,c1,c2,c3,h2,h3,e1,Ad]
     |1,_=>cases hx;simp -implicitDefEqProofs (disch:=first|exact zd|fail) only [go_sem,Aa,Ab,vbq,vcp,h1,c1,c2,c3,h2,h3,e1,Ad]
     |2,_=>cases hx;simp -implicitDefEqProofs (disch:=first|exact zd|fail) only [go_sem,Aa,Ab,vbq,vcp,h1,c1,c2,c3,h2,h3,e1,Ad]
     |3,_=>cases hx;simp -implicitDefEqProofs (disch:=first|exact zd|fail) only [go_sem,Aa,Ab,vbq,vcp,h1,c1,c2,c3,h2,h3,e1,Ad]
    match v,(show v<4 by omega) with
    |0,_=>exact fin ⟨#[0]⟩ rfl rfl
    |1,_=>exact fin ⟨#[55]⟩ rfl rfl
    |2,_=>exact fin ⟨#[255]⟩ rfl rfl
    |3,_=>exact fin ⟨#[32]⟩ rfl rfl
   ·refine ⟨s,q1,by omega,hq1,?_⟩;rw [vag rfl];simp -implicitDefEqProofs (disch:=first|exact zd|fail) only [go_sem,Aa,Ab,vbq,vcp,h1,c2,c3];done
  ·by_cases c3:(a:Int)=3
   ·obtain ⟨v,q3,hv,hq3,h3⟩:=va5 (d:=d+2) hb hq1 4 zo zo;have fin (x:ByteArray) (hx1:x.size=1) (hx:([.string ⟨#[0]⟩,.string ⟨#[49]⟩,.string ⟨#[10]⟩,.string ⟨#[32]⟩]:List Value)[v]? =some (.string x)):∃(t:ByteArray) (q:Nat),t.size≤s.size+1∧q≤bs.length∧
      vaf (T (d+4)) vad vbq [cRd bs p,.a (.string s)]=some ([.a (.string t)],[cRd bs q]):=by
     refine ⟨s++x,q3,by rw [Aw];omega,hq3,?_⟩;rw [vag rfl]
     match v,(show v<4 by omega) with
     |0,_=>cases hx;simp -implicitDefEqProofs (disch:=first|exact zd|fail) only [go_sem,Aa,Ab,vbq,vcp,h1,c3,h3]
     |1,_=>cases hx;simp -implicitDefEqProofs (disch:=first|exact zd|fail) only [go_sem,Aa,Ab,vbq,vcp,h1,c3,h3]
     |2,_=>cases hx;simp -implicitDefEqProofs (disch:=first|exact zd|fail) only [go_sem,Aa,Ab,vbq,vcp,h1,c3,h3]
     |3,_=>cases hx;simp -implicitDefEqProofs (disch:=first|exact zd|fail) only [go_sem,Aa,Ab,vbq,vcp,h1,c3,h3]
    match v,(show v<4 by omega) with
    |0,_=>exact fin ⟨#[0]⟩ rfl rfl
    |1,_=>exact fin ⟨#[49]⟩ rfl rfl
    |2,_=>exact fin ⟨#[10]⟩ rfl rfl
    |3,_=>exact fin ⟨#[32]⟩ rfl rfl
   ·refine ⟨s,q1,by omega,hq1,?_⟩;rw [vag rfl];simp -implicitDefEqProofs (disch:=first|exact zd|fail) only [go_sem,Aa,Ab,vbq,vcp,h1,c1,c2,c3];done
theorem ql4 (n:Nat) (h:n≤1000):vcs (vbs (n:Nat))=n:=by
 have hw:IntKind.u64.wrap (n:Int)=n:=vh5 _ zo zo;have hl:wL (n:Int) 8= [0,0,0,0,0,0,n/256,n%256]:=by
  unfold wL wB;rw [hw,Ad];simp [Bi];omega
 unfold vcs vbs;rw [hl];show Ag.wrap (([Ar 0,Ar 0,Ar 0,Ar 0,Ar 0,Ar 0,Ar (n/256),Ar (n%256)]:List UInt8).foldl rdStep 0:Nat)=n;simp only [List.foldl,rdStep,UInt8.toNat_ofNat'];rw [vai _ zo zo];omega
theorem qmj {s t:ByteArray} (h:s.data.toList=t.data.toList):s=t:=by
 cases s;cases t;congr 1;exact Array.ext' h
theorem qp6 {s x:ByteArray} {n:Nat} (h:n+x.size≤s.size):(withB s n x).extract n (n+x.size)=x:=by
 unfold withB;have z:(s.extract 0 n).size=n:=by rw [Ak];omega
 have z2:(s.extract 0 n).extract n (n+x.size)=⟨#[]⟩:=by
  apply qmj;simp [A9]
 rw [Ba,At,At,z,z2];simp;exact ByteArray.empty_append
theorem qm7 {s x:ByteArray} {n a b:Nat} (h:n+x.size≤s.size) (hb:b≤n):(withB s n x).extract a b=s.extract a b:=by
 unfold withB;have z:(s.extract 0 n).size=n:=by rw [Ak];omega
 rw [Ba,At,z,show b-n=0 by omega,ByteArray.extract_extract,Nat.min_eq_left zo];apply qmj;simp [A9]
def rootN (im:ByteArray) (A rs:List Int):Nat→ByteArray
 |0=>im
 |i+1=>withB (rootN im A rs i) (128+8 * i) (vbs (vew A (rs[i]?.getD 0)))
theorem vqt {im:ByteArray} {A rs:List Int} (h:192≤im.size):∀(i:Nat),i≤8→(rootN im A rs i).size=im.size
 |0,_=>rfl
 |i+1,hi=>by
  have:=vqt (A:=A) (rs:=rs) h i zo;unfold rootN;rw [vk9,this];rw [vcj];omega
theorem vyr {im:ByteArray} {A rs:List Int} (h:192≤im.size) (hA:∀r,∃n:Nat,n≤1000∧vew A r=n):∀(i:Nat),i≤8→∀j,j<i→wordAt (rootN im A rs i) (16+j)=vew A (rs[j]?.getD 0)
 |i+1,hi,j,hj=>by
  have hz:=vqt (A:=A) (rs:=rs) h i zo;have hw:=vcj (vew A (rs[i]?.getD 0));by_cases hij:j=i
  ·subst hij;unfold rootN wordAt;have:=qp6 (s:=rootN im A rs j) (x:=vbs (vew A (rs[j]?.getD 0))) (n:=128+8 * j) (by rw [hw];omega);rw [hw] at this;rw [show 8 * (16+j)=128+8 * j by omega,this];obtain ⟨n,hn,he⟩:=hA (rs[j]?.getD 0);rw [he,ql4 n hn]
  ·have:=vyr (rs:=rs) h hA i zo j zo;unfold rootN wordAt;rw [qm7 (by rw [hw];omega) zo];exact this

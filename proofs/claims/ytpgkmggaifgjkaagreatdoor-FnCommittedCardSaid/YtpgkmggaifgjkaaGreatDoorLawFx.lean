/- Answers and graphs compared by the laws. -/
import Derived.Test.YtpgkmggaifgjkaaGreatDoorLawL
import Derived.Test.YtpgkmggaifgjkaaGreatDoorLawA
import Derived.Test.YtpgkmggaifgjkaaGreatDoorLawB
import Derived.Test.YtpgkmggaifgjkaaGreatDoorLawO
open Nat renaming reduceAdd->Aa,reduceBEq->Ab,zero_add->Ak,add_zero->Ax
open List renaming getElem?_eq_some_iff->Ac,getElem?_eq_getElem->Ad,mem_of_getElem?->Ae,length_map->Af,mem_iff_getElem?->Ag,map_map->Ah,map_congr_left->Ai,getElem?_cons_succ->Am,getElem?_replicate->An,findIdx?_cons->Ao,getElem?_set->Ap,getElem?_map->Aq,getElem_inj->Ar,take_length->At,map_append->Au,mem_append->Av
open Int renaming toNat_natCast->Aj
open Bool renaming and_eq_true->Al,true_and->Aw
set_option linter.all false
namespace Go.Proofs.YtpgkmggaifgjkaaGreatDoor.VM
open Go Sy
variable {Φ:Nat->Option Callee} {N:Nat}
set_option maxRecDepth 100000
set_option maxHeartbeats 8000000
theorem vru (x:List Int) (hx:x.length<=1048576):vag Φ vad vin [.sl true vae (x.map vak),.sl true vae (x.map vak)]=some ([.a (.bool true)],[]):=by
 have key:vbt Φ vad [0,1,5] vio ⟨[(0,.sz vae (x.map vak)),(1,.sz vae (x.map vak)),(5,.a (.int .i64 (0:Nat)))],[],0⟩=some (.ext 0,⟨[(0,.sz vae (x.map vak)),(1,.sz vae (x.map vak)),(5,.a (.int .i64 (x.length:Nat))),(14,.a (.bool false))],[],400⟩):=by
  refine vcj (m:=x.length) (λi=>⟨[(0,.sz vae (x.map vak)),(1,.sz vae (x.map vak)),(5,.a (.int .i64 (i:Nat)))],[],0⟩) _ (vbc zo) (λi hi=> ?_) ?_
  ·obtain ⟨a,ha⟩:∃a,x[i]? =some a:=⟨_,Ad hi⟩
   have hw:=va0 i zo;have hne:¬a≠a:=λh=>h rfl;unfold round vio;simp -implicitDefEqProofs (disch:=try exact zd) only [go_sem,Aa,Ab,ha,hw]
   (show some _=some _;kernel_rfl)
  ·unfold round vio;simp -implicitDefEqProofs (disch:=try exact zd) only [go_sem,Aa,Ab]
 rw [vab rfl];have hne:¬(x.length:Int)≠x.length:=λh=>h rfl;simp -implicitDefEqProofs (disch:=try exact zd) only [go_sem,Aa,Ab,vin,vqc,vaw key]
theorem vu3 (l:List Ans) (hl:l.length<=1048576):vag Φ vad vgn [.sl true vb9 (l.map eAns),.sl true vb9 (l.map eAns)]=some ([.a (.bool true)],[]):=by
 have key:vbt Φ vad [0,1,5] vgy ⟨[(0,.sz vb9 (l.map eAns)),(1,.sz vb9 (l.map eAns)),(5,.a (.int .i64 (0:Nat)))],[],0⟩=some (.ext 0,⟨[(0,.sz vb9 (l.map eAns)),(1,.sz vb9 (l.map eAns)),(5,.a (.int .i64 (l.length:Nat))),(14,.a (.bool false))],[],400⟩):=by
  refine vcj (m:=l.length) (λi=>⟨[(0,.sz vb9 (l.map eAns)),(1,.sz vb9 (l.map eAns)),(5,.a (.int .i64 (i:Nat)))],[],0⟩) _ (vbc zo) (λi hi=> ?_) ?_
  ·obtain ⟨x,hx⟩:∃a,l[i]? =some a:=⟨_,Ad hi⟩
   have hw:=va0 i zo;obtain ⟨a,b⟩:=x;have q1:decide (a=a)=true:=decide_eq_true rfl;have q2:decide (b=b)=true:=decide_eq_true rfl;unfold round vgy;simp -implicitDefEqProofs (disch:=try exact zd) only [go_sem,Aa,Ab,hx,hw,q1,q2,Bool.and_self,Bool.not_true,if_true]
   (show some _=some _;kernel_rfl)
  ·unfold round vgy;simp -implicitDefEqProofs (disch:=try exact zd) only [go_sem,Aa,Ab]
 rw [vab rfl];have hne:¬(l.length:Int)≠l.length:=λh=>h rfl;simp -implicitDefEqProofs (disch:=try exact zd) only [go_sem,Aa,Ab,vgn,vni,vaw key]
theorem vz0 {d:Nat} (o:Obj') (ho:o.vals.length<=1048576):vag (T (d+1)) vad vjk [.st [.a (.int .i64 o.ty),.sl true vae (o.vals.map vak)],.st [.a (.int .i64 o.ty),.sl true vae (o.vals.map vak)]]=some ([.a (.bool true)],[]):=by
 have h1:=vru (Φ:=T d) o.vals ho;rw [vab rfl];simp -implicitDefEqProofs (disch:=try exact zd) only [go_sem,Aa,Ab,vjk,vrn,h1]
theorem vqk {d:Nat} {g:Gr} (h:SmG g):vag (T (d+2)) vad vhy [cGr true g,cGr true g]=some ([.a (.bool true)],[]):=by
 have h1:=vru (Φ:=T (d+1)) g.roots h.r;have hn:=h.n;have key:vbt (T (d+2)) vad [2,3,5] vh8 ⟨[(2,.rf 0),(3,.rf 1),(5,.a (.int .i64 (0:Nat)))],[(0,some (.bx false (uGr g))),(1,some (.bx false (uGr g)))],2⟩=some (.ext 0,⟨[(2,.rf 0),(3,.rf 1),(5,.a (.int .i64 (g.nodes.length:Nat))),(25,.a (.bool false))],[(0,some (.bx false (uGr g))),(1,some (.bx false (uGr g)))],502⟩):=by
  refine vcj (m:=g.nodes.length) (λi=>⟨[(2,.rf 0),(3,.rf 1),(5,.a (.int .i64 (i:Nat)))],[(0,some (.bx false (uGr g))),(1,some (.bx false (uGr g)))],2⟩) _ (vbc zo) (λi hi=> ?_) ?_
  ·obtain ⟨o,ho⟩:∃o,g.nodes[i]? =some o:=⟨_,Ad hi⟩
   have h2:=vz0 (d:=d) o (h.v o (Ae ho));have hw:=va0 i zo;unfold round vh8;simp -implicitDefEqProofs (disch:=try exact zd) only [go_sem,Aa,Ab,ho,hw,h2]
   (show some _=some _;kernel_rfl)
  ·unfold round vh8;simp -implicitDefEqProofs (disch:=try exact zd) only [go_sem,Aa,Ab]
 rw [vab rfl];clear h;obtain ⟨rs,ns⟩:=g;dsimp only at *;simp -implicitDefEqProofs (disch:=try exact zd) only [go_sem,Aa,Ab,vhy,vo3,h1,vaw key,ne_eq,not_true_eq_false,decide_false,bne_self_eq_false]
theorem vtj {p q:Nat->Bool}:∀{L:List Nat},(∀x∈L,p x=q x)->L.findIdx? p=L.findIdx? q
 | [],_=>rfl
 |x::L,h=>by rw [Ao,Ao,h x (by simp),vtj λy hy=>h y (by simp [hy])]
abbrev ofF (F:List Nat) (i:Nat):Nat:=F[i]?.getD 0
theorem quy {F L:List Nat} (hF:F.Nodup) (hL:∀x∈L,x<F.length) {i k:Nat} (hk:F[i]? =some k):nm (L.map (ofF F)) ((k:Int)+1)=nm L ((i:Int)+1):=by
 unfold nm idxOf;rw [List.findIdx?_map,vtj (q:=λx:Nat=>decide ((x:Int)=(i:Int)+1-1)) λx hx=> ?_];have hxl:=hL x hx;have h1:F[x]? =some F[x]:=Ad hxl;show decide (((F[x]?.getD 0:Nat):Int)=(k:Int)+1-1)=decide ((x:Int)=(i:Int)+1-1);rw [h1,Option.getD_some,decide_eq_decide];obtain ⟨hi,hki⟩:=Ac.1 hk;constructor
 ·intro e;have:F[x]=F[i]:=zo
  have:=(Ar hF).1 this;omega
 ·intro e;have:x=i:=zo
  subst this;omega
structure Emb (ts:List ByteArray) (F:List Nat) (g h:Gr):Prop where
 nod:F.Nodup
 low:∀x∈F,x<g.nodes.length
 len:h.nodes.length=F.length
 r:h.roots=g.roots.map (nm F)
 rp:∀v∈g.roots,0<=v/\(0<v->(v-1).toNat∈F)
 o:∀(i k:Nat),F[i]? =some k->∃(o:Obj') (s:ByteArray),g.nodes[k]? =some o/\ts[o.ty.toNat]? =some s/\h.nodes[i]? =some ⟨o.ty,nmK F s 0 o.vals⟩/\∀(j:Nat) v,o.vals[j]? =some v->refAt s j=true->0<=v/\(0<v->(v-1).toNat∈F)
structure Sm (F:List Nat) (a b:Fd):Prop where
 out:a.out=b.out.map (ofF F)
 low:∀x∈b.out,x<F.length
 seen:∀(i k:Nat),F[i]? =some k->b.seen[i]? =a.seen[k]?
theorem Sm.see1 {F:List Nat} (hF:F.Nodup) {a b:Fd} (h:Sm F a b) {v:Int} (hv:0<=v/\(0<v->(v-1).toNat∈F)):Sm F (VM.see1 a v) (VM.see1 b (nm F v)):=by
 by_cases c0:0<v
 ·obtain ⟨k,rfl⟩:∃k:Nat,v=(k:Int)+1:=⟨(v-1).toNat,zo⟩
  have ek:((k:Int)+1-1).toNat=k:=zo
  have hm:=hv.2 c0;rw [ek] at hm;obtain ⟨i,hi⟩:=Ag.1 hm;have ei:((i:Int)+1-1).toNat=i:=zo
  rw [qga hF hi];unfold VM.see1;rw [ek,ei,h.seen i k hi];by_cases c1:a.seen[k]? =some false
  ·rw [if_pos ⟨zo,c1⟩,if_pos ⟨zo,c1⟩];refine ⟨?_,λx hx=> ?_,λj m hj=> ?_⟩
   ·show a.out++ [k]=(b.out++ [i]).map (ofF F);rw [Au,h.out];show _=_++ [F[i]?.getD 0];rw [hi];rfl
   ·rcases Av.1 hx with hx|hx
    ·exact h.low x hx
    ·rw [List.mem_singleton.1 hx];exact (Ac.1 hi).1
   ·show (b.seen.set i true)[j]? =(a.seen.set k true)[m]?;have e:=h.seen j m hj;have ei2:=h.seen i k hi;rw [Ap,Ap];obtain ⟨hil,hik⟩:=Ac.1 hi;obtain ⟨hjl,hjm⟩:=Ac.1 hj;by_cases c:i=j
    ·subst c;have:k=m:=by rw [<-hik,<-hjm]
     subst this;have l1:=(Ac.1 c1).1;have l2:=(Ac.1 (ei2.trans c1)).1;rw [if_pos rfl,if_pos rfl,if_pos l1,if_pos l2]
    ·rw [if_neg c,if_neg λe=>c ((Ar hF).1 (by rw [hik,hjm];exact e))];exact e
  ·rw [if_neg (λhc=>c1 hc.2),if_neg (λhc=>c1 hc.2)];exact h
 ·obtain rfl:v=0:=by have:=hv.1;omega
  rw [vrk];unfold VM.see1;rw [if_neg (λhc=>absurd hc.1 (by decide)),if_neg (λhc=>absurd hc.1 (by decide))];exact h
theorem Sm.all {F:List Nat} (hF:F.Nodup):∀{l:List Int} {a b:Fd},Sm F a b->(∀v∈l,0<=v/\(0<v->(v-1).toNat∈F))->Sm F (seeAll a l) (seeAll b (l.map (nm F)))
 | [],_,_,h,_=>h
 |u::l,_,_,h,hl=>Sm.all hF (l:=l) (h.see1 hF (hl u List.mem_cons_self)) λv hv=>hl v (List.mem_cons_of_mem _ hv)
theorem Sm.seeK {F:List Nat} (hF:F.Nodup) {s:ByteArray}:∀{l:List Int} {k:Nat} {a b:Fd},Sm F a b->(∀(j:Nat) v,l[j]? =some v->refAt s (k+j)=true->0<=v/\(0<v->(v-1).toNat∈F))->Sm F (VM.seeK s a k l) (VM.seeK s b k (nmK F s k l))
 | [],_,_,_,h,_=>h
 |u::l,k,a,b,h,hl=>by
  rw [nmK,VM.seeK,VM.seeK];refine Sm.seeK hF (l:=l) ?_ λj v hv hr=>hl (j+1) v (by rw [Am];exact hv) (by rw [show k+(j+1)=k+1+j by omega];exact hr);by_cases c:refAt s k=true
  ·rw [if_pos c,if_pos c,if_pos c];exact h.see1 hF (hl 0 u rfl (by rw [Ax];exact c))
  ·rw [if_neg c,if_neg c];exact h
theorem Emb.search {ts:List ByteArray} {F:List Nat} {g h:Gr} (E:Emb ts F g h):∀i,Sm F (VM.search ts g i) (VM.search ts h i)
 |0=>by
  rw [VM.search,VM.search,E.r];refine Sm.all E.nod ⟨rfl,λ_ h=>(by cases h),λi k hk=> ?_⟩ E.rp;rw [An,An,if_pos (by rw [E.len];exact (Ac.1 hk).1),if_pos (E.low k (Ae hk))]
 |i+1=>by
  have ih:=E.search i;rw [VM.search,VM.search];unfold seeN;rw [ih.out,Aq];cases hb:(VM.search ts h i).out[i]? with
  |none=>exact ih
  |some m=>
   have hml:=ih.low m (Ae hb);have hm:F[m]? =some F[m]:=Ad hml;obtain ⟨o,s,h1,h2,h3,h4⟩:=E.o m _ hm;have e:ofF F m=F[m]:=by show F[m]?.getD 0=_;rw [hm];rfl
   simp only [Option.map_some,e,h1,h3];unfold seeO;simp only [h2];unfold seeT;rw [At,At];exact ih.seeK E.nod λj v hv hr=>h4 j v hv (by rwa [Ak] at hr)
theorem Emb.found {ts:List ByteArray} {F:List Nat} {g h:Gr} (E:Emb ts F g h):VM.found ts g=(VM.found ts h).map (ofF F)/\∀x∈VM.found ts h,x<F.length:=by
 have h1:(VM.found ts g).length<=g.nodes.length:=(vcw ts g g.nodes.length).le;have h2:(VM.found ts h).length<=h.nodes.length:=(vcw ts h h.nodes.length).le;have S:=E.search (g.nodes.length+h.nodes.length);rw [<-vr3 ts g (i:=g.nodes.length+h.nodes.length) zo,<-vr3 ts h (i:=g.nodes.length+h.nodes.length) zo];exact ⟨S.out,S.low⟩
theorem Emb.nm {ts:List ByteArray} {F:List Nat} {g h:Gr} (E:Emb ts F g h) {v:Int} (hv:0<=v/\(0<v->(v-1).toNat∈F)):VM.nm (VM.found ts h) (VM.nm F v)=VM.nm (VM.found ts g) v:=by
 obtain ⟨h1,h2⟩:=E.found;by_cases c0:0<v
 ·obtain ⟨k,rfl⟩:∃k:Nat,v=(k:Int)+1:=⟨(v-1).toNat,zo⟩
  have hm:=hv.2 c0;rw [show ((k:Int)+1-1).toNat=k by omega] at hm;obtain ⟨i,hi⟩:=Ag.1 hm;rw [qga E.nod hi,h1,quy E.nod h2 hi]
 ·obtain rfl:v=0:=by have:=hv.1;omega
  rw [vrk,vrk,vrk]
theorem Emb.nmK {ts:List ByteArray} {F:List Nat} {g h:Gr} (E:Emb ts F g h) {s:ByteArray}:∀{l:List Int} {k:Nat},(∀(j:Nat) v,l[j]? =some v->refAt s (k+j)=true->0<=v/\(0<v->(v-1).toNat∈F))->VM.nmK (VM.found ts h) s k (VM.nmK F s k l)=VM.nmK (VM.found ts g) s k l
 | [],_,_=>rfl
 |u::l,k,hl=>by
  rw [VM.nmK,VM.nmK,VM.nmK,Emb.nmK E (l:=l) λj v hv hr=>hl (j+1) v (by rw [Am];exact hv) (by rw [show k+(j+1)=k+1+j by omega];exact hr)];by_cases c:refAt s k=true
  ·rw [if_pos c,if_pos c,if_pos c,E.nm (hl 0 u rfl (by rw [Ax];exact c))]
  ·rw [if_neg c,if_neg c,if_neg c]
theorem Emb.plain {ts:List ByteArray} {F:List Nat} {g h:Gr} (E:Emb ts F g h):plainG ts h=plainG ts g:=by
 obtain ⟨h1,h2⟩:=E.found;unfold plainG;congr 1
 ·rw [E.r,Ah];exact Ai λv hv=>E.nm (E.rp v hv)
 ·conv=>rhs;rw [h1,Ah]
  rw [<-h1];refine Ai λi hi=> ?_;have hm:F[i]? =some (F[i]'(h2 i hi)):=Ad _;obtain ⟨o,s,g1,g2,g3,g4⟩:=E.o i _ hm;have e:ofF F i=F[i]'(h2 i hi):=by show F[i]?.getD 0=_;rw [hm];rfl
  show plainN ts (VM.found ts h) h i=plainN ts (VM.found ts g) g (ofF F i);rw [e];unfold plainN;rw [g1,g3];unfold plainO;simp only [g2];rw [E.nmK λj v hv hr=>g4 j v hv (by rwa [Ak] at hr)]
theorem qem {ts:List ByteArray} {g:Gr} (R:Right ts g) {rs:List Int} (hr:∀v∈rs,v∈g.roots):Emb ts (found ts g) ⟨rs,g.nodes⟩ ⟨rs.map (nm (found ts g)),(plainG ts g).nodes⟩:=by
 have hI:=vcw ts g g.nodes.length;refine ⟨hI.nod,hI.low,by show ((found ts g).map _).length=_;rw [Af],rfl,λv hv=>⟨(R.roots v (hr v hv)).1,λh0=>vl4 R (hr v hv) h0⟩,λi k hk=> ?_⟩;have hkm:=Ae hk;obtain ⟨o,ho⟩:∃o,g.nodes[k]? =some o:=⟨_,Ad (hI.low k hkm)⟩
 obtain ⟨t,s,t1,t2,t3,_,_,t4⟩:=R.obj o (Ae ho);have hs:ts[o.ty.toNat]? =some s:=by rw [t1,Aj];exact t2
 refine ⟨o,s,ho,hs,?_,λj v hv hrf=>⟨(t4 j v hv hrf).1,λh0=>vqn R hkm ⟨o,s,j,ho,hs,hrf,hv⟩ h0⟩⟩;simp only [plainG,Aq,hk,Option.map_some,plainN,ho,plainO,hs]
theorem qiz {ts:List ByteArray} {g:Gr} (R:Right ts g) {rs:List Int} (hr:∀v∈rs,v∈g.roots):plainG ts ⟨rs.map (nm (found ts g)),(plainG ts g).nodes⟩=plainG ts ⟨rs,g.nodes⟩:=(qem R hr).plain
theorem qc2 {ts:List ByteArray} {g:Gr} (h:Right ts g) (ht:vgx ts=true) {rs:List Int} (hl:rs.length<=40):graphOk ts ⟨rs.map (nm (found ts g)),(plainG ts g).nodes⟩=true:=by
 have hlen:(plainG ts g).nodes.length=(found ts g).length:=by simp [plainG]
 have hle:(found ts g).length<=g.nodes.length:=(vcw ts g g.nodes.length).le;unfold graphOk;simp only [ht,Aw,Al,decide_eq_true_eq,List.all_eq_true];have hn:=h.n;refine ⟨by rw [Af];exact hl,zo,λv hv=> ?_,λo ho=> ?_⟩
 ·obtain ⟨w,_,rfl⟩:=List.mem_map.1 hv;rw [hlen];exact decide_eq_true (qb2 _ _)
 ·obtain ⟨i,hi⟩:=Ag.1 ho;rw [hlen];have hil:i<(found ts g).length:=by rw [<-hlen];exact (Ac.1 hi).1
  obtain ⟨o',s,g1,g2,g3,_⟩:=(qem h (rs:= []) (by simp)).o i _ (Ad hil);rw [hi] at g3;cases g3;obtain ⟨t,s',t1,t2,t3,_⟩:=h.obj o' (Ae g1);rw [t1,Aj,t2] at g2;cases g2;unfold objOk;simp only [t1,Aj,t2,Al,decide_eq_true_eq];refine ⟨zo,by rw [vmd];exact t3,vjv.2 λj v hv=> ?_⟩;rw [Ak];unfold badV;cases hr:refAt s j with
  |false=>rfl
  |true=>
   rw [vuw] at hv;obtain ⟨w,_,rfl⟩:=Option.map_eq_some_iff.1 hv;rw [Ak,if_pos hr];simp only [Aw,Bool.not_eq_false',isN];exact decide_eq_true (qb2 _ _)
def plOf (ts:List ByteArray) (g:Gr):Gr:=if graphOk ts g=true then plainG ts g else ⟨[],[]⟩
theorem vx7 {d:Nat} {ts:List ByteArray} {g:Gr} (hg:Small ts g):vag (T (d+7)) vad vjf [.sl true vam (ts.map eStr),cGr true g]=some ([cGr false (plOf ts g)],[]):=by
 have h1:=vor (d:=d) hg;rw [vab rfl];unfold plOf;cases c1:graphOk ts g
 ·rw [c1] at h1;simp -implicitDefEqProofs (disch:=try exact zd) only [go_sem,Aa,Ab,vjf,vps,h1]
  (show some _=some _;kernel_rfl)
 ·rw [c1] at h1;have h3:=vqo (d:=d+4) (Right.of hg c1);simp -implicitDefEqProofs (disch:=try exact zd) only [go_sem,Aa,Ab,vjf,vps,h1,h3]
theorem qc9 {d:Nat} {ts:List ByteArray} {hd sl:List Int} {ob:List Obj'} (R:Right ts ⟨hd++sl,ob⟩) (ht:vgx ts=true) (h12:hd.length=12) (h8:sl.length=8):
  vag (T (d+8)) vad vhn [.sl true vam (ts.map eStr),cGr true (plainG ts ⟨hd++sl,ob⟩)]=some ([cGr false (plainG ts ⟨sl,ob⟩)],[]):=by
 obtain ⟨p1,p2,p3⟩:=vt7 R;have hm:∀v∈sl,v∈(⟨hd++sl,ob⟩:Gr).roots:=λv hv=>Av.2 (.inr hv);have e:=qiz R hm;have hok:=qc2 R ht (rs:=sl) zo;have er:(plainG ts ⟨hd++sl,ob⟩).roots.drop 12=sl.map (nm (found ts ⟨hd++sl,ob⟩)):=by
  show ((hd++sl).map _).drop 12=_;rw [Au,List.drop_left' (by rw [Af];exact h12)]
 have hl20:(plainG ts ⟨hd++sl,ob⟩).roots.length=20:=by
  show ((hd++sl).map _).length=20;rw [Af,List.length_append,h12,h8]
 have sm:Small ts ⟨sl.map (nm (found ts ⟨hd++sl,ob⟩)),(plainG ts ⟨hd++sl,ob⟩).nodes⟩:=⟨R.small.tl,R.small.sz,by show (sl.map _).length<=_;rw [Af];omega,by show (plainG ts _).nodes.length<=_;omega,λo ho=>by have:=p3 o ho;omega⟩
 have h1:=vx7 (d:=d) sm;unfold plOf at h1;rw [if_pos hok,e,<-er] at h1;generalize plainG ts ⟨hd++sl,ob⟩=P at *;generalize plainG ts ⟨sl,ob⟩=Q at *;obtain ⟨pr,pn⟩:=P;obtain ⟨qr,qn⟩:=Q;dsimp only at hl20;have hlm:(pr.map vak).length=20:=by rw [Af];exact hl20
 rw [show cGr true ⟨pr.drop 12,pn⟩= .st [.sl true vae ((pr.map vak).drop 12),.sl true vai (pn.map eObj)] from by rw [<-List.map_drop]] at h1;have e12:Int.toNat 12=12:=rfl;have e20:List.take 20 (List.map vak pr)=List.map vak pr:=List.take_of_length_le zo;rw [vab rfl];simp -implicitDefEqProofs (disch:=try exact zd) only [go_sem,Aa,Ab,vhn,vrj,h1,hl20,hlm,e12,e20,ne_eq,not_true_eq_false,decide_false,bne_self_eq_false]
theorem qfy {ts:List ByteArray} {g:Gr} {l:List Act'} (h:isW ts g l=true):vgx ts=true:=by
 have:=(voz h).2.1;unfold graphOk at this;simp only [Al] at this;exact this.1
structure GoodR (ts:List ByteArray) (r:Ru) (w:Wd):Prop where
 e:r=okR ts r.ans w
 wk:∃B,Wok ts B w
 ty:Ty23 ts
 tok:vgx ts=true
theorem qr3 {ts:List ByteArray} {g:Gr} {l:List Act'} (h:Small ts g) (hi:isW ts g l=true) (dn:List Int):GoodR ts (ruW ts g l dn) (plI ts l dn (w0 g) l.length).2:=by
 obtain ⟨B,J,_,hT⟩:=qmq h hi dn;exact ⟨by unfold ruW;rw [if_pos hi];rfl,⟨B,J⟩,hT,qfy hi⟩
theorem GoodR.slots {d:Nat} {ts:List ByteArray} {r:Ru} {w:Wd} (G:GoodR ts r w):vag (T (d+8)) vad vhn [.sl true vam (ts.map eStr),cGr true r.now]=some ([cGr false (plainG ts ⟨w.sl,w.ob⟩)],[]):=by
 obtain ⟨B,J⟩:=G.wk;have e:r.now=plainG ts (nowG w):=by rw [G.e];rfl
 rw [e];exact qc9 (J.now G.ty) G.tok J.hd J.sl
theorem zem (l:List Act'):(l.map ves).map PV.thaw=l.map ves:=by
 rw [Ah];apply Ai;intro x _;rfl
theorem qzv (l:List Obj'):(l.map eObj).map PV.thaw=l.map eObj:=by rw [Ah];rfl
theorem qy5 (l:List Int):(l.map vak).map PV.thaw=l.map vak:=by rw [Ah];rfl
attribute [go_sem] zem qzv qy5
theorem vw6 {d:Nat} (bs:List Nat) (hb:∀x∈bs,x<256) (hl:bs.length<9223372036854000000):vag (T (d+10)) vad vda [.sl true vdg (bs.map eU8)]=some ([.a (.bool true)],[]):=by
 have hB:=qpq (Φ:=T (d+9)) (N:=vad) (bs.map eU8) (by rw [Af];omega);rw [Af] at hB;by_cases hc:1048576<(bs.length:Int)
 ·rw [decide_eq_true hc] at hB;rw [vab rfl];simp -implicitDefEqProofs (disch:=try exact zd) only [go_sem,Aa,Ab,vda,vgp,hB]
 rw [decide_eq_false hc] at hB;have hbs:Bs bs:=⟨zo,hb⟩
 obtain ⟨ts,g,l,dn,sm,hl0,hdn,h0⟩:=vu1 (d:=d+1) hbs;have h2:=qu6 (d:=d) sm l dn zo zo;have h3:=qu7 (d:=d) sm l dn zo zo;have R:=qsc sm l dn;have s3:=vu3 (Φ:=T (d+9)) (ruW ts g l dn).ans (by have:=R.a;omega);cases hi:isW ts g l with
 |false=>
  have e:ruW ts g l dn=badR:=by unfold ruW;rw [hi];rfl
  rw [e] at h2 h3 s3;clear R sm;obtain ⟨rs,ns⟩:=g;rw [vab rfl];simp only [cRu,badR,List.map_nil] at h2 h3 s3;simp (maxSteps:=3000000) -implicitDefEqProofs (disch:=try exact zd) only [go_sem,Aa,Ab,vda,vgp,hB,h0,h2,h3,s3];done
 |true=>
  have G:=qr3 sm hi dn;have s4:=G.slots (d:=d+1);have s1:=vqk (d:=d+7) R.n;have s2:=vqk (d:=d+7) R.s;have hcd:(ruW ts g l dn).code=0:=by rw [G.e];rfl
  have hdm:(ruW ts g l dn).i=false->(ruW ts g l dn).dm=false/\plainG ts ⟨(plI ts l dn (w0 g) l.length).2.sl,(plI ts l dn (w0 g) l.length).2.ob⟩=(ruW ts g l dn).safe:=by
   intro h;obtain ⟨B,J⟩:=G.wk;rw [G.e] at h⊢;have h':(plI ts l dn (w0 g) l.length).2.inR=false:=h;refine ⟨?_,?_⟩
   ·show (plI ts l dn (w0 g) l.length).2.dm=false;cases c:(plI ts l dn (w0 g) l.length).2.dm with
    |false=>rfl
    |true=>have:=J.dm c;rw [h'] at this;cases this
   ·show _=plainG ts (safeG _);unfold safeG;rw [h'];rfl
  generalize plainG ts ⟨(plI ts l dn (w0 g) l.length).2.sl,(plI ts l dn (w0 g) l.length).2.ob⟩=P at *;clear G;generalize ruW ts g l dn=r at *;clear R sm hi;obtain ⟨rc,ra,⟨nr,nn⟩,⟨sr,sn⟩,ri,rd⟩:=r;obtain ⟨rs,ns⟩:=g;dsimp only [cRu] at *;subst hcd;rw [vab rfl];cases ri with
  |true=>
   simp (maxSteps:=3000000) -implicitDefEqProofs (disch:=try exact zd) only [go_sem,Aa,Ab,vda,vgp,hB,h0,h2,h3,s3,ne_eq,not_true_eq_false,decide_false,bne_self_eq_false];done
  |false=>
   obtain ⟨rfl,rfl⟩:=hdm rfl;simp (maxSteps:=3000000) -implicitDefEqProofs (disch:=try exact zd) only [go_sem,Aa,Ab,vda,vgp,hB,h0,h2,h3,s1,s2,s3,s4,ne_eq,not_true_eq_false,decide_false,bne_self_eq_false];done

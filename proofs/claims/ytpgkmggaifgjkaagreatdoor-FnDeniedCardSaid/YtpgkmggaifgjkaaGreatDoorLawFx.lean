/- Answers and graphs compared by the laws. -/
import Derived.Test.YtpgkmggaifgjkaaGreatDoorLawL
import Derived.Test.YtpgkmggaifgjkaaGreatDoorLawA
import Derived.Test.YtpgkmggaifgjkaaGreatDoorLawB
open Nat renaming reduceAdd->Aa,reduceBEq->Ab,mod_lt->Am
open List renaming getElem?_eq_getElem->Ac,replicate->Ad,map_append->Ae,getElem?_append_right->Af,getElem?_append_left->Ag,length_map->Ah,take_of_length_le->Aj,mem_of_getElem?->Ak,length_append->Al,map_map->An,map_nil->Ao
open Go.IntKind renaming i64->Ai
set_option linter.all false
namespace Go.Proofs.YtpgkmggaifgjkaaGreatDoor.VM
open Go Sy
variable {Φ:Nat->Option Callee} {N:Nat}
set_option maxRecDepth 100000
set_option maxHeartbeats 8000000
theorem vrm (x:List Int) (hx:x.length<=1048576):vag Φ vad vir [.sl true vae (x.map vak),.sl true vae (x.map vak)]=some ([.a (.bool true)],[]):=by
 have key:vbt Φ vad [0,1,5] vil ⟨[(0,.sz vae (x.map vak)),(1,.sz vae (x.map vak)),(5,.a (.int .i64 (0:Nat)))],[],0⟩=some (.ext 0,⟨[(0,.sz vae (x.map vak)),(1,.sz vae (x.map vak)),(5,.a (.int .i64 (x.length:Nat))),(14,.a (.bool false))],[],400⟩):=by
  refine vcl (m:=x.length) (λi=>⟨[(0,.sz vae (x.map vak)),(1,.sz vae (x.map vak)),(5,.a (.int .i64 (i:Nat)))],[],0⟩) _ (vbc zo) (λi hi=> ?_) ?_
  ·obtain ⟨a,ha⟩:∃a,x[i]? =some a:=⟨_,Ac hi⟩
   have hw:=va0 i zo;have hne:¬a≠a:=λh=>h rfl;unfold round vil;simp -implicitDefEqProofs (disch:=try exact zd) only [go_sem,Aa,Ab,ha,hw]
   (show some _=some _;kernel_rfl)
  ·unfold round vil;simp -implicitDefEqProofs (disch:=try exact zd) only [go_sem,Aa,Ab]
 rw [vab rfl];have hne:¬(x.length:Int)≠x.length:=λh=>h rfl;simp -implicitDefEqProofs (disch:=try exact zd) only [go_sem,Aa,Ab,vir,vqg,vaw key]
theorem vuv (l:List Ans) (hl:l.length<=1048576):vag Φ vad vgm [.sl true vb3 (l.map eAns),.sl true vb3 (l.map eAns)]=some ([.a (.bool true)],[]):=by
 have key:vbt Φ vad [0,1,5] vgq ⟨[(0,.sz vb3 (l.map eAns)),(1,.sz vb3 (l.map eAns)),(5,.a (.int .i64 (0:Nat)))],[],0⟩=some (.ext 0,⟨[(0,.sz vb3 (l.map eAns)),(1,.sz vb3 (l.map eAns)),(5,.a (.int .i64 (l.length:Nat))),(14,.a (.bool false))],[],400⟩):=by
  refine vcl (m:=l.length) (λi=>⟨[(0,.sz vb3 (l.map eAns)),(1,.sz vb3 (l.map eAns)),(5,.a (.int .i64 (i:Nat)))],[],0⟩) _ (vbc zo) (λi hi=> ?_) ?_
  ·obtain ⟨x,hx⟩:∃a,l[i]? =some a:=⟨_,Ac hi⟩
   have hw:=va0 i zo;obtain ⟨a,b⟩:=x;have q1:decide (a=a)=true:=decide_eq_true rfl;have q2:decide (b=b)=true:=decide_eq_true rfl;unfold round vgq;simp -implicitDefEqProofs (disch:=try exact zd) only [go_sem,Aa,Ab,hx,hw,q1,q2,Bool.and_self,Bool.not_true,if_true]
   (show some _=some _;kernel_rfl)
  ·unfold round vgq;simp -implicitDefEqProofs (disch:=try exact zd) only [go_sem,Aa,Ab]
 rw [vab rfl];have hne:¬(l.length:Int)≠l.length:=λh=>h rfl;simp -implicitDefEqProofs (disch:=try exact zd) only [go_sem,Aa,Ab,vgm,vnb,vaw key]
theorem vzs {d:Nat} (o:Obj') (ho:o.vals.length<=1048576):vag (T (d+1)) vad vjb [.st [.a (.int .i64 o.ty),.sl true vae (o.vals.map vak)],.st [.a (.int .i64 o.ty),.sl true vae (o.vals.map vak)]]=some ([.a (.bool true)],[]):=by
 have h1:=vrm (Φ:=T d) o.vals ho;rw [vab rfl];simp -implicitDefEqProofs (disch:=try exact zd) only [go_sem,Aa,Ab,vjb,vrj,h1]
theorem vqj {d:Nat} {g:Gr} (h:SmG g):vag (T (d+2)) vad vhs [cGr true g,cGr true g]=some ([.a (.bool true)],[]):=by
 have h1:=vrm (Φ:=T (d+1)) g.roots h.r;have hn:=h.n;have key:vbt (T (d+2)) vad [2,3,5] vh6 ⟨[(2,.rf 0),(3,.rf 1),(5,.a (.int .i64 (0:Nat)))],[(0,some (.bx false (uGr g))),(1,some (.bx false (uGr g)))],2⟩=some (.ext 0,⟨[(2,.rf 0),(3,.rf 1),(5,.a (.int .i64 (g.nodes.length:Nat))),(25,.a (.bool false))],[(0,some (.bx false (uGr g))),(1,some (.bx false (uGr g)))],502⟩):=by
  refine vcl (m:=g.nodes.length) (λi=>⟨[(2,.rf 0),(3,.rf 1),(5,.a (.int .i64 (i:Nat)))],[(0,some (.bx false (uGr g))),(1,some (.bx false (uGr g)))],2⟩) _ (vbc zo) (λi hi=> ?_) ?_
  ·obtain ⟨o,ho⟩:∃o,g.nodes[i]? =some o:=⟨_,Ac hi⟩
   have h2:=vzs (d:=d) o (h.v o (Ak ho));have hw:=va0 i zo;unfold round vh6;simp -implicitDefEqProofs (disch:=try exact zd) only [go_sem,Aa,Ab,ho,hw,h2]
   (show some _=some _;kernel_rfl)
  ·unfold round vh6;simp -implicitDefEqProofs (disch:=try exact zd) only [go_sem,Aa,Ab]
 rw [vab rfl];clear h;obtain ⟨rs,ns⟩:=g;dsimp only at *;simp -implicitDefEqProofs (disch:=try exact zd) only [go_sem,Aa,Ab,vhs,vpp,h1,vaw key,ne_eq,not_true_eq_false,decide_false,bne_self_eq_false]
theorem qbo {ts:List ByteArray} {l l2:List Act'} {dn dn2:List Int} {w:Wd}:∀i,(∀j,j<i->l2[j]? =l[j]? /\denyAt dn2 j=denyAt dn j)->plI ts l2 dn2 w i=plI ts l dn w i
 |0,_=>rfl
 |i+1,h=>by
  have ih:=qbo (ts:=ts) (w:=w) i λj hj=>h j zo;obtain ⟨h1,h2⟩:=h i zo
  conv=>lhs;unfold plI
  conv=>rhs;unfold plI
  rw [h1,h2,ih]
theorem qqa {ts:List ByteArray} {g:Gr} {l l2:List Act'} (h:l.length<=60) (h2:l2.length<=60):isW ts g l2=isW ts g l:=by
 unfold isW;rw [decide_eq_true h,decide_eq_true h2]
theorem qmk {ob:List Obj'} {du:List Bool} {sl hd:List Int} {ir dm dm2:Bool} {wa:List Obj'} {he:List Int}:backO ⟨ob,du,sl,hd,ir,dm,wa,he⟩=backO ⟨ob,du,sl,hd,ir,dm2,wa,he⟩:=by
 unfold backO;generalize wa.length=n;induction n with
 |zero=>rfl
 |succ n ih=>unfold bkI;rw [ih]
theorem qf2 {ts:List ByteArray} {g:Gr} {l:List Act'} (h:l.length<=50) (a:Act'):ruW ts g (l++ [a]) (Ad l.length 0++ [12])=
  if isW ts g l then {ruW ts g l [] with ans:=(ruW ts g l []).ans++ [⟨12,0⟩],dm:=(ruW ts g l []).i} else badR:=by
 unfold ruW;rw [qqa (l:=l) (l2:=l++ [a]) zo (by simp;omega)];cases hi:isW ts g l with
 |false=>rfl
 |true=>
  simp only [if_true];have h1:plI ts (l++ [a]) (Ad l.length 0++ [12]) (w0 g) l.length=plI ts l [] (w0 g) l.length:=qbo _ λj hj=>by
   refine ⟨Ag hj,?_⟩;unfold denyAt;rw [Ag (by simpa using hj),List.getElem?_replicate,if_pos hj];rfl
  have h2:(l++ [a])[l.length]? =some a:=by simp
  have h3:denyAt (Ad l.length 0++ [12]) l.length=12:=by
   unfold denyAt;rw [Af (by simp)];simp
  rw [Al,List.length_singleton,vmr h2,h1,h3];generalize plI ts l [] (w0 g) l.length=p;have h4:actW ts p.2 a 12=(⟨12,0⟩,{p.2 with dm:=p.2.inR}):=by
   unfold actW actC;simp
  rw [h4];obtain ⟨A,ob,du,sl,hd,ir,dm,wa,he⟩:=p;simp only [okR,nowG,safeG];rw [qmk (dm:=ir) (dm2:=dm)]
def byF (bs:List Nat) (i:Nat):Nat:=bs[i%bs.length]?.getD 0
theorem qfa {bs:List Nat} (hb:Bs bs) (i:Nat) (hi:i<=1000000):vag Φ N vid [.sl true vc9 (bs.map eU8),.a (.int .i64 (i:Nat))]=some ([.a (.int .i64 (byF bs i:Nat))],[]):=by
 have hl:=hb.len;unfold byF;by_cases c0:bs.length=0
 ·rw [show bs= [] from List.eq_nil_of_length_eq_zero c0];rw [vab rfl];simp -implicitDefEqProofs (disch:=try exact zd) only [go_sem,Aa,Ab,vid,vnw];rfl
 ·obtain ⟨a,ha⟩:∃a,bs[i%bs.length]? =some a:=⟨_,Ac (Am _ zo)⟩
  have hal:=hb.lt a (Ak ha);have hm:Int.tmod (i:Int) (bs.length:Int)=((i%bs.length:Nat):Int):=(Int.ofNat_tmod _ _).symm;have hw:Ai.wrap (a:Int)=a:=by rw [vau]<;>omega
  have hml:i%bs.length<bs.length:=Am _ zo;have c1:¬(bs.length:Int)=0:=zo
  rw [ha,Option.getD_some];rw [vab rfl];simp -implicitDefEqProofs (disch:=try exact zd) only [go_sem,Aa,Ab,vid,vnw,c1,hm,ha,hw]
theorem qm9 (l:List Act') (n:Nat) (hn:n<=1000) (hl:l.length<=1048576):vag Φ N vk8 [.sl true vb9 (l.map vdj),.a (.int .i64 (n:Nat))]=some ([.sl true vb9 ((l.take n).map vdj)],[]):=by
 obtain ⟨m,hm,hml⟩:∃m:Nat,ext2 false (l.length:Int) (n:Int)=(m:Int)/\m=min l.length n:=by
  by_cases c:l.length<=n
  ·exact ⟨l.length,by unfold ext2;simp;omega,zo⟩
  ·exact ⟨n,by unfold ext2;simp;omega,zo⟩
 have ht:l.take n=l.take m:=by
  rw [hml];by_cases c:l.length<=n
  ·rw [Nat.min_eq_left c,Aj c,Aj (Nat.le_refl _)]
  ·rw [Nat.min_eq_right zo]
 rw [vab rfl,ht,List.map_take];simp -implicitDefEqProofs (disch:=try exact zd) only [go_sem,Aa,Ab,vk8,vva,hm]
def eFz (x:Act'):PV:= .st [.a (.int .i64 x.kind),.a (.int .i64 x.a),.a (.int .i64 x.b),.a (.int .i64 x.c),.a (.int .i64 x.power),.fz vae (x.keep.map vak)]
theorem qmb (l:List Act'):(l.map vdj).map PV.fzc=l.map eFz:=by rw [An];rfl
attribute [go_sem] qmb
theorem qmo (l:List Act') (a:Act'):(l.map eFz++ [vdj a]).map PV.thaw=(l++ [a]).map vdj:=by
 rw [Ae,Ae,An];rfl
theorem qq5 {l:List Act'} (hl:l.length<=1000) (a:Act'):vag Φ N vl9 [.sl true vb9 (l.map vdj),.sl false vb9 [vdj a]]=some ([.sl false vb9 (l.map eFz++ [vdj a])],[.sl true vb9 (l.map vdj),.un]):=by
 obtain ⟨xk,xa,xb,xc,xp,xq⟩:=a;have h1:((l.map vdj).map PV.fzc).length<=1000:=by simp;omega
 rw [vab rfl];simp -implicitDefEqProofs (disch:=try exact zd) only [go_sem,Aa,Ab,vl9,vv8];done
theorem qp3 (n:Nat):(Ad n (0:Int)++ [12]).map vak=Ad n (PV.a (.int .i64 0))++ [PV.a (.int .i64 12)]:=by
 rw [Ae,List.map_replicate];rfl
theorem qbi {d:Nat} (bs:List Nat) (hb:∀x∈bs,x<256) (hl:bs.length<9223372036854000000):vag (T (d+10)) vad veu [.sl true vc9 (bs.map eU8)]=some ([.a (.bool true)],[]):=by
 have hB:=qrc (Φ:=T (d+9)) (N:=vad) (bs.map eU8) (by rw [Ah];omega);rw [Ah] at hB;by_cases hc:1048576<(bs.length:Int)
 ·rw [decide_eq_true hc] at hB;rw [vab rfl];simp -implicitDefEqProofs (disch:=try exact zd) only [go_sem,Aa,Ab,veu,vkd,hB]
 rw [decide_eq_false hc] at hB;have hbs:Bs bs:=⟨zo,hb⟩
 obtain ⟨ts,g,l0,dn,sm,hl0,_,h0⟩:=vut (d:=d+1) hbs;have h1:=qm9 (Φ:=T (d+9)) (N:=vad) l0 50 zo zo;rw [show ((50:Nat):Int)=50 from rfl] at h1;have hlm:(l0.take 50).length<=50:=by rw [List.length_take];omega
 generalize l0.take 50=l at *;have h2:=qt1 (d:=d) sm l [] zo (by simp);have h3:=qir (d:=d) sm l [] zo (by simp);have R:=qrs sm l [];rw [show ([]:List Int).map vak= [] from rfl] at h2 h3;cases hi:isW ts g l with
 |false=>
  have e:ruW ts g l []=badR:=by unfold ruW;rw [hi];rfl
  rw [e] at h2 h3;clear R sm;obtain ⟨rs,ns⟩:=g;rw [vab rfl];dsimp only [cRu,badR,Ao] at h2 h3;simp (maxSteps:=3000000) -implicitDefEqProofs (disch:=try exact zd) only [go_sem,Aa,Ab,veu,vkd,hB,h0,h1,h2,h3];done
 |true=>
  have h4:=qfa (Φ:=T (d+9)) (N:=vad) hbs 5 zo;rw [show ((5:Nat):Int)=5 from rfl] at h4;have m18:Int.tmod ((byF bs 5:Nat):Int) 18=((byF bs 5%18:Nat):Int):=(Int.ofNat_tmod _ _).symm;have h18:byF bs 5%18<18:=Am _ zo;have e1:Ai.wrap (1+((byF bs 5%18:Nat):Int))=1+((byF bs 5%18:Nat):Int):=by rw [vau]<;>omega
  have h5:=qq5 (Φ:=T (d+9)) (N:=vad) (l:=l) zo ⟨1+((byF bs 5%18:Nat):Int),0,0,0,0,[]⟩;have h6:=qir (d:=d) sm (l++ [⟨1+((byF bs 5%18:Nat):Int),0,0,0,0,[]⟩]) (Ad l.length 0++ [12]) (by simp;omega) (by simp;omega);rw [qf2 hlm,hi,if_pos rfl,<-qmo,qp3] at h6;have hAl:(ruW ts g l []).ans.length=l.length:=by
   obtain ⟨_,_,hA,_⟩:=qnr sm hi [];unfold ruW;rw [hi];exact hA
  have hcd:(ruW ts g l []).code=0:=by unfold ruW;rw [hi];rfl
  generalize ruW ts g l []=r at *;generalize byF bs 5%18=v18 at *;generalize byF bs 5=v at *;have s1:=vqj (d:=d+7) R.n;have s2:=vqj (d:=d+7) R.s;have s3:=vuv (Φ:=T (d+9)) r.ans zo;have e2:Ai.wrap ((l.length:Int)+1)=((l.length+1:Nat):Int):=by rw [vau]<;>omega
  have e3:Ai.wrap (((l.length+1:Nat):Int)-1)=(l.length:Nat):=by rw [vau]<;>omega
  clear R sm hi;obtain ⟨rc,ra,⟨nr,nn⟩,⟨sr,sn⟩,ri,rd⟩:=r;obtain ⟨rs,ns⟩:=g;dsimp only [cRu] at *;subst hcd;generalize l.map eFz++ [vdj ⟨1+((v18:Nat):Int),0,0,0,0,[]⟩]=X at h5 h6;simp only [qek,Ao] at h5;have b1:(ra++ [(⟨12,0⟩:Ans)]).length=l.length+1:=by rw [Al,hAl];rfl
  have b2:(ra++ [(⟨12,0⟩:Ans)])[l.length]? =some ⟨12,0⟩:=by rw [Af zo,hAl,Nat.sub_self];rfl
  have b3:((ra++ [(⟨12,0⟩:Ans)]).map eAns).take l.length=ra.map eAns:=by rw [Ae,List.take_left' (by rw [Ah];exact hAl)]
  generalize ra++ [(⟨12,0⟩:Ans)]=B at *;rw [vab rfl];simp (maxSteps:=3000000) -implicitDefEqProofs (disch:=try exact zd) only [go_sem,Aa,Ab,veu,vkd,hB,h0,h1,h2,h4,m18,e1,h5,h6,s1,s2,s3,e2,e3,b1,b2,b3,hAl,beq_self_eq_true];done

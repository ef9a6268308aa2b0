/- Answers and graphs compared by the laws. -/
import Derived.Test.YtpgkmggaifgjkaaGreatDoorLawL
import Derived.Test.YtpgkmggaifgjkaaGreatDoorLawA
import Derived.Test.YtpgkmggaifgjkaaGreatDoorLawB
open Nat renaming reduceAdd->Aa,reduceBEq->Ab,le_refl->Ah,mod_lt->An
open List renaming getElem?_eq_getElem->Ac,cons_append->Ad,nil_append->Ae,length_cons->Af,length_map->Ag,getElem?_append_right->Aj,getElem?_append_left->Ak,take_of_length_le->Al,mem_of_getElem?->Am,map_append->Ao
open Go.IntKind renaming i64->Ai
set_option linter.all false
namespace Go.Proofs.YtpgkmggaifgjkaaGreatDoor.VM
open Go Sy
variable {Φ:Nat->Option Callee} {N:Nat}
set_option maxRecDepth 100000
set_option maxHeartbeats 8000000
theorem vrj (x:List Int) (hx:x.length<=1048576):vag Φ vae vim [.sl true vad (x.map vak),.sl true vad (x.map vak)]=some ([.a (.bool true)],[]):=by
 have key:vbt Φ vae [0,1,5] viq ⟨[(0,.sz vad (x.map vak)),(1,.sz vad (x.map vak)),(5,.a (.int .i64 (0:Nat)))],[],0⟩=some (.ext 0,⟨[(0,.sz vad (x.map vak)),(1,.sz vad (x.map vak)),(5,.a (.int .i64 (x.length:Nat))),(14,.a (.bool false))],[],400⟩):=by
  refine vcd (m:=x.length) (λi=>⟨[(0,.sz vad (x.map vak)),(1,.sz vad (x.map vak)),(5,.a (.int .i64 (i:Nat)))],[],0⟩) _ (vbc zo) (λi hi=> ?_) ?_
  ·obtain ⟨a,ha⟩:∃a,x[i]? =some a:=⟨_,Ac hi⟩
   have hw:=va0 i zo;have hne:¬a≠a:=λh=>h rfl;unfold round viq;simp -implicitDefEqProofs (disch:=try exact zd) only [go_sem,Aa,Ab,ha,hw]
   (show some _=some _;kernel_rfl)
  ·unfold round viq;simp -implicitDefEqProofs (disch:=try exact zd) only [go_sem,Aa,Ab]
 rw [vab rfl];have hne:¬(x.length:Int)≠x.length:=λh=>h rfl;simp -implicitDefEqProofs (disch:=try exact zd) only [go_sem,Aa,Ab,vim,vp8,vav key]
theorem vzl {d:Nat} (o:Obj') (ho:o.vals.length<=1048576):vag (T (d+1)) vae vjb [.st [.a (.int .i64 o.ty),.sl true vad (o.vals.map vak)],.st [.a (.int .i64 o.ty),.sl true vad (o.vals.map vak)]]=some ([.a (.bool true)],[]):=by
 have h1:=vrj (Φ:=T d) o.vals ho;rw [vab rfl];simp -implicitDefEqProofs (disch:=try exact zd) only [go_sem,Aa,Ab,vjb,vrm,h1]
theorem vp0 {d:Nat} {g:Gr} (h:SmG g):vag (T (d+2)) vae vhq [cGr true g,cGr true g]=some ([.a (.bool true)],[]):=by
 have h1:=vrj (Φ:=T (d+1)) g.roots h.r;have hn:=h.n;have key:vbt (T (d+2)) vae [2,3,5] vh6 ⟨[(2,.rf 0),(3,.rf 1),(5,.a (.int .i64 (0:Nat)))],[(0,some (.bx false (uGr g))),(1,some (.bx false (uGr g)))],2⟩=some (.ext 0,⟨[(2,.rf 0),(3,.rf 1),(5,.a (.int .i64 (g.nodes.length:Nat))),(25,.a (.bool false))],[(0,some (.bx false (uGr g))),(1,some (.bx false (uGr g)))],502⟩):=by
  refine vcd (m:=g.nodes.length) (λi=>⟨[(2,.rf 0),(3,.rf 1),(5,.a (.int .i64 (i:Nat)))],[(0,some (.bx false (uGr g))),(1,some (.bx false (uGr g)))],2⟩) _ (vbc zo) (λi hi=> ?_) ?_
  ·obtain ⟨o,ho⟩:∃o,g.nodes[i]? =some o:=⟨_,Ac hi⟩
   have h2:=vzl (d:=d) o (h.v o (Am ho));have hw:=va0 i zo;unfold round vh6;simp -implicitDefEqProofs (disch:=try exact zd) only [go_sem,Aa,Ab,ho,hw,h2]
   (show some _=some _;kernel_rfl)
  ·unfold round vh6;simp -implicitDefEqProofs (disch:=try exact zd) only [go_sem,Aa,Ab]
 rw [vab rfl];clear h;obtain ⟨rs,ns⟩:=g;dsimp only at *;simp -implicitDefEqProofs (disch:=try exact zd) only [go_sem,Aa,Ab,vhq,vpe,h1,vav key,ne_eq,not_true_eq_false,decide_false,bne_self_eq_false]
theorem qp2 {ts:List ByteArray} {g:Gr} {l l2:List Act'} (h:l.length<=60) (h2:l2.length<=60):isW ts g l2=isW ts g l:=by
 unfold isW;rw [decide_eq_true h,decide_eq_true h2]
def idl (I:Nat->Act') (l:List Act'):Nat->List Act'
 |0=> []
 |i+1=>match l[i]? with
  |some x=>idl I l i++ [I i,x]
  |none=>idl I l i
def idA (A:List Ans):List Ans:=A.flatMap λa=> [⟨0,0⟩,a]
theorem vuc (I:Nat->Act') (l:List Act'):∀i,i<=l.length->(idl I l i).length=2 * i
 |0,_=>rfl
 |i+1,h=>by
  obtain ⟨x,hx⟩:∃x,l[i]? =some x:=⟨_,Ac h⟩
  unfold idl;rw [hx];simp only [List.length_append,vuc I l i zo,Af,List.length_nil];omega
theorem qeo (I:Nat->Act') (l:List Act') {k:Nat} {x:Act'} (hx:l[k]? =some x):∀i,i<=l.length->k<i->(idl I l i)[2 * k]? =some (I k)/\(idl I l i)[2 * k+1]? =some x
 |0,_,h=>zo
 |i+1,hi,h=>by
  obtain ⟨y,hy⟩:∃x,l[i]? =some x:=⟨_,Ac hi⟩
  have hl:=vuc I l i zo;unfold idl;rw [hy];by_cases hk:k<i
  ·obtain ⟨h1,h2⟩:=qeo I l hx i zo hk;exact ⟨by rw [Ak zo];exact h1,by rw [Ak zo];exact h2⟩
  ·obtain rfl:k=i:=zo
   rw [hx] at hy;cases hy;constructor
   ·rw [Aj zo,hl,Nat.sub_self];rfl
   ·rw [Aj zo,hl,Nat.add_sub_cancel_left];rfl
theorem qkc {ts:List ByteArray} {w:Wd} {x:Act'} (h:15<=x.kind/\x.kind<=17):actW ts w x 0=(⟨0,0⟩,w):=by
 have hc:codeW ts w x=0:=by
  unfold codeW;rw [if_neg (λhh=>hh.2 zo),if_neg zo,if_neg zo,if_neg zo,if_neg zo,if_neg zo,if_neg zo,if_neg zo,if_neg zo,if_pos zo]
 have he:effW ts w x=(0,w):=by
  unfold effW
  repeat rw [if_neg zo]
 unfold actW actC;simp [hc,he]
theorem vr7 (i:Nat):denyAt [] i=0:=rfl
theorem vz0 {ts:List ByteArray} {l:List Act'} {w:Wd} {I:Nat->Act'} (hI:∀i,15<=(I i).kind/\(I i).kind<=17):∀i,i<=l.length->plI ts (idl I l l.length) [] w (2 * i)=(idA (plI ts l [] w i).1,(plI ts l [] w i).2)
 |0,_=>rfl
 |i+1,h=>by
  obtain ⟨x,hx⟩:∃x,l[i]? =some x:=⟨_,Ac h⟩
  obtain ⟨h1,h2⟩:=qeo I l hx l.length (Ah _) h;have ih:=vz0 (ts:=ts) (l:=l) (w:=w) hI i zo;rw [show 2 * (i+1)=2 * i+1+1 by omega,vko h2,vko h1,ih,vko hx,vr7,vr7,vr7];dsimp only;rw [qkc (hI i)];simp only [idA,List.flatMap_append,List.flatMap_cons,List.flatMap_nil,List.append_nil,List.append_assoc,Ad,Ae]
theorem qk5 {ts:List ByteArray} {g:Gr} {l:List Act'} (h:l.length<=30) {I:Nat->Act'} (hI:∀i,15<=(I i).kind/\(I i).kind<=17):ruW ts g (idl I l l.length) []={ruW ts g l [] with ans:=idA (ruW ts g l []).ans}:=by
 have hl:=vuc I l l.length (Ah _);unfold ruW;rw [qp2 (l:=l) (l2:=idl I l l.length) zo zo,hl,vz0 hI l.length (Ah _)];cases isW ts g l<;>rfl
def byF (bs:List Nat) (i:Nat):Nat:=bs[i%bs.length]?.getD 0
theorem qfe {bs:List Nat} (hb:Bs bs) (i:Nat) (hi:i<=1000000):vag Φ N vig [.sl true vc6 (bs.map eU8),.a (.int .i64 (i:Nat))]=some ([.a (.int .i64 (byF bs i:Nat))],[]):=by
 have hl:=hb.len;unfold byF;by_cases c0:bs.length=0
 ·rw [show bs= [] from List.eq_nil_of_length_eq_zero c0];rw [vab rfl];simp -implicitDefEqProofs (disch:=try exact zd) only [go_sem,Aa,Ab,vig,vnn];rfl
 ·obtain ⟨a,ha⟩:∃a,bs[i%bs.length]? =some a:=⟨_,Ac (An _ zo)⟩
  have hal:=hb.lt a (Am ha);have hm:Int.tmod (i:Int) (bs.length:Int)=((i%bs.length:Nat):Int):=(Int.ofNat_tmod _ _).symm;have hw:Ai.wrap (a:Int)=a:=by rw [vau]<;>omega
  have hml:i%bs.length<bs.length:=An _ zo;have c1:¬(bs.length:Int)=0:=zo
  rw [ha,Option.getD_some];rw [vab rfl];simp -implicitDefEqProofs (disch:=try exact zd) only [go_sem,Aa,Ab,vig,vnn,c1,hm,ha,hw]
theorem qlr (l:List Act') (n:Nat) (hn:n<=1000) (hl:l.length<=1048576):vag Φ N vk8 [.sl true vch (l.map vdy),.a (.int .i64 (n:Nat))]=some ([.sl true vch ((l.take n).map vdy)],[]):=by
 obtain ⟨m,hm,hml⟩:∃m:Nat,ext2 false (l.length:Int) (n:Int)=(m:Int)/\m=min l.length n:=by
  by_cases c:l.length<=n
  ·exact ⟨l.length,by unfold ext2;simp;omega,zo⟩
  ·exact ⟨n,by unfold ext2;simp;omega,zo⟩
 have ht:l.take n=l.take m:=by
  rw [hml];by_cases c:l.length<=n
  ·rw [Nat.min_eq_left c,Al c,Al (Ah _)]
  ·rw [Nat.min_eq_right zo]
 rw [vab rfl,ht,List.map_take];simp -implicitDefEqProofs (disch:=try exact zd) only [go_sem,Aa,Ab,vk8,vu0,hm]
def eFz (x:Act'):PV:= .st [.a (.int .i64 x.kind),.a (.int .i64 x.a),.a (.int .i64 x.b),.a (.int .i64 x.c),.a (.int .i64 x.power),.fz vad (x.keep.map vak)]
theorem quz (x:Act'):eFz x= .st [.a (.int .i64 x.kind),.a (.int .i64 x.a),.a (.int .i64 x.b),.a (.int .i64 x.c),.a (.int .i64 x.power),.fz vad (x.keep.map vak)]:=rfl
abbrev bRu (k:Nat) (r:Ru):Option Node:=some (.bx false [.a (.int .i64 r.code),.rf k,.rf (k+1),.rf (k+2),.rf (k+3),.rf (k+4),.a (.bool r.i),.a (.bool r.dm),.a (.bool false),.a (.string ⟨#[]⟩),.rf (k+5),.a (.int .i64 0)])
abbrev nRu (k:Nat) (r:Ru):vb6:= [(k,some (.sl false 0 vdx (r.ans.map eAns))),(k+1,some (.sl false 0 vad (r.now.roots.map vak))),(k+2,some (.sl false 0 vai (r.now.nodes.map eObj))),(k+3,some (.sl false 0 vad (r.safe.roots.map vak))),(k+4,some (.sl false 0 vai (r.safe.nodes.map eObj))),(k+5,some (.sl false 0 ve3 []))]
def idI (bs:List Nat) (i:Nat):Act':=⟨15+((byF bs i%3:Nat):Int),((byF bs i%30:Nat):Int),0,0,0,[]⟩
theorem qtb (bs:List Nat) (i:Nat):vdy (idI bs i)= .st [.a (.int .i64 (15+((byF bs i%3:Nat):Int))),.a (.int .i64 ((byF bs i%30:Nat):Int)),.a (.int .i64 0),.a (.int .i64 0),.a (.int .i64 0),.sl vad []]:=rfl
def aW (bs:List Nat) (l:List Act'):Nat->List PV
 |0=> []
 |i+1=>match l[i]? with
  |some x=>aW bs l i++ [vdy (idI bs i),eFz x]
  |none=>aW bs l i
theorem qsd {bs:List Nat} {l:List Act'} {i:Nat} {x:Act'} (h:l[i]? =some x):aW bs l (i+1)=aW bs l i++ [vdy (idI bs i),eFz x]:=by
 conv=>lhs;unfold aW
 rw [h]
theorem qhr (bs:List Nat) (l:List Act'):∀i,(aW bs l i).length<=2 * i
 |0=>Nat.zero_le _
 |i+1=>by
  have:=qhr bs l i;unfold aW;split
  ·simp;omega
  ·omega
theorem qdr (bs:List Nat) (l:List Act'):∀i,(aW bs l i).map PV.thaw=(idl (idI bs) l i).map vdy
 |0=>rfl
 |i+1=>by
  have ih:=qdr bs l i;cases hx:l[i]? with
  |some x=>simp only [aW,idl,hx];rw [Ao,Ao,ih];rfl
  |none=>simp only [aW,idl,hx];exact ih
def zf:Nat->Bool
 |0=>false
 |_+1=>true
abbrev nFi (z:Bool) (g:Gr) (r:Ru) (X:List PV):vb6:= [(0,some (.bx false (uGr g))),(1,bRu 3 r),(2,some (.sl z 0 vch X))]++nRu 3 r
abbrev sFi (bs:List Nat) (ts:List ByteArray) (l:List Act') (i:Nat) (w:vco):vco:= [(0,.sz vc6 (bs.map eU8)),(3,.sz vam (ts.map eStr)),(4,.rf 0),(5,.sz vch (l.map vdy)),(7,.rf 1),(8,.rf 2),(9,.a (.int .i64 (i:Nat)))]++w
theorem qr9 {d:Nat} {bs:List Nat} (hb:Bs bs) (ts:List ByteArray) (g:Gr) (l:List Act') (hl:l.length<=30) (r:Ru):
  vbt (T (d+1)) vae [0,3,4,5,7,8,9] vht ⟨sFi bs ts l 0 [],nFi (zf 0) g r (aW bs l 0),9⟩=some (.ext 0,⟨sFi bs ts l l.length [(31,.a (.bool false))],nFi (zf l.length) g r (aW bs l l.length),409⟩):=by
 refine vcd (m:=l.length) (λi=>⟨sFi bs ts l i [],nFi (zf i) g r (aW bs l i),9⟩) _ (vbc zo) (λi hi=> ?_) ?_
 ·obtain ⟨x,hx⟩:∃x,l[i]? =some x:=⟨_,Ac hi⟩
  have h1:=qfe (Φ:=T d) (N:=vae) hb i zo;have hw:=va0 i zo;have hlt:(i:Int)<l.length:=zo
  have m3:Int.tmod ((byF bs i:Nat):Int) 3=((byF bs i%3:Nat):Int):=(Int.ofNat_tmod _ _).symm;have m30:Int.tmod ((byF bs i:Nat):Int) 30=((byF bs i%30:Nat):Int):=(Int.ofNat_tmod _ _).symm;have h3:byF bs i%3<3:=An _ zo;have e1:Ai.wrap (15+((byF bs i%3:Nat):Int))=15+((byF bs i%3:Nat):Int):=by rw [vau]<;>omega
  have hal:=qhr bs l i;rw [qsd hx,qtb,quz];generalize byF bs i%3=v3 at *;generalize byF bs i%30=v30 at *;generalize byF bs i=v at *;obtain ⟨rc,ra,⟨nr,nn⟩,⟨sr,sn⟩,ri,rd⟩:=r;obtain ⟨rs,ns⟩:=g;obtain ⟨xk,xa,xb,xc,xp,xq⟩:=x;cases i with
  |zero=>
   unfold round vht;dsimp only [sFi,nFi,nRu,zf,aW,Ad,Ae] at *;simp -implicitDefEqProofs (disch:=try exact zd) only [go_sem,Aa,Ab,hw,hlt,hx,h1,m3,m30,e1]
   (show some _=some _;kernel_rfl)
  |succ j=>
   generalize aW bs l (j+1)=X at *;unfold round vht;dsimp only [sFi,nFi,nRu,zf,Ad,Ae] at *;simp -implicitDefEqProofs (disch:=try exact zd) only [go_sem,Aa,Ab,hw,hlt,hx,h1,m3,m30,e1]
   (show some _=some _;kernel_rfl)
 ·obtain ⟨rc,ra,⟨nr,nn⟩,⟨sr,sn⟩,ri,rd⟩:=r;obtain ⟨rs,ns⟩:=g;unfold round vht;dsimp only [sFi,nFi,nRu,Ad,Ae];simp -implicitDefEqProofs (disch:=try exact zd) only [go_sem,Aa,Ab]
theorem qpa (A:List Ans):∀(i:Nat) a,A[i]? =some a->(idA A)[2 * i]? =some ⟨0,0⟩/\(idA A)[2 * i+1]? =some a:=by
 induction A with
 |nil=>intro i a h;cases h
 |cons b A ih=>
  intro i a h;have e:idA (b::A)=⟨0,0⟩::b::idA A:=rfl;rw [e];cases i with
  |zero=>cases h;exact ⟨rfl,rfl⟩
  |succ j=>exact ih j a h
theorem vxo:∀(A:List Ans),(idA A).length=2 * A.length
 | []=>rfl
 |b::A=>by
  have e:idA (b::A)=⟨0,0⟩::b::idA A:=rfl;rw [e,Af,Af,vxo A,Af];omega
abbrev nF1 (r x:Ru):vb6:= [(0,bRu 2 r),(1,bRu 8 x)]++nRu 2 r++nRu 8 x
theorem qpy (r:Ru) (hr:r.ans.length<=100):vbt Φ vae [7,10,11] vjn ⟨[(7,.rf 0),(10,.rf 1),(11,.a (.int .i64 (0:Nat)))],nF1 r {r with ans:=idA r.ans},14⟩=some (.ext 2,⟨[(7,.rf 0),(10,.rf 1),(11,.a (.int .i64 (r.ans.length:Nat))),(74,.a (.bool false))],nF1 r {r with ans:=idA r.ans},514⟩):=by
 refine vcd (m:=r.ans.length) (λi=>⟨[(7,.rf 0),(10,.rf 1),(11,.a (.int .i64 (i:Nat)))],nF1 r {r with ans:=idA r.ans},14⟩) _ (vbc zo) (λi hi=> ?_) ?_
 ·obtain ⟨a,ha⟩:∃x,r.ans[i]? =some x:=⟨_,Ac hi⟩
  obtain ⟨h1,h2⟩:=qpa _ i a ha;have hl:=vxo r.ans;have hw:=va0 i zo;have hlt:(i:Int)<r.ans.length:=zo
  have e1:Ai.wrap (2 * (i:Int))=((2 * i:Nat):Int):=by rw [vau]<;>omega
  have e2:Ai.wrap (((2 * i:Nat):Int)+1)=((2 * i+1:Nat):Int):=by rw [vau]<;>omega
  have l1:2 * i<(idA r.ans).length:=zo
  have l2:2 * i+1<(idA r.ans).length:=zo
  obtain ⟨rc,ra,⟨nr,nn⟩,⟨sr,sn⟩,ri,rd⟩:=r;obtain ⟨xc,xn⟩:=a;have q1:decide (xc=xc)=true:=decide_eq_true rfl;have q2:decide (xn=xn)=true:=decide_eq_true rfl;unfold round vjn;dsimp only [nF1,nRu,Ad,Ae] at *;generalize idA ra=B at *;simp -implicitDefEqProofs (disch:=try exact zd) only [go_sem,Aa,Ab,hw,hlt,ha,h1,h2,e1,e2,q1,q2,Bool.and_self,Bool.not_true,if_true]
  (show some _=some _;kernel_rfl)
 ·obtain ⟨rc,ra,⟨nr,nn⟩,⟨sr,sn⟩,ri,rd⟩:=r;unfold round vjn;dsimp only [nF1,nRu,Ad,Ae];simp -implicitDefEqProofs (disch:=try exact zd) only [go_sem,Aa,Ab]
theorem qe7 {d:Nat} (bs:List Nat) (hb:∀x∈bs,x<256) (hl:bs.length<9223372036854000000):vag (T (d+10)) vae vf0 [.sl true vc6 (bs.map eU8)]=some ([.a (.bool true)],[]):=by
 have hB:=qpn (Φ:=T (d+9)) (N:=vae) (bs.map eU8) (by rw [Ag];omega);rw [Ag] at hB;by_cases hc:1048576<(bs.length:Int)
 ·rw [decide_eq_true hc] at hB;rw [vab rfl];simp -implicitDefEqProofs (disch:=try exact zd) only [go_sem,Aa,Ab,vf0,vld,hB]
 rw [decide_eq_false hc] at hB;have hbs:Bs bs:=⟨zo,hb⟩
 obtain ⟨ts,g,l0,dn,sm,hl0,_,h0⟩:=vur (d:=d+1) hbs;have h1:=qlr (Φ:=T (d+9)) (N:=vae) l0 30 zo zo;have hlm:(l0.take 30).length<=30:=by rw [List.length_take];omega
 generalize l0.take 30=l at *;have h2:=qtm (d:=d) sm l [] zo (by simp);have hI:=vuc (idI bs) l l.length (Ah _);have h3:=qts (d:=d) sm (idl (idI bs) l l.length) [] zo (by simp);rw [qk5 (l:=l) hlm (λi=>by have:=An (byF bs i) (show 0<3 by omega);constructor<;>(show _<=_;simp only [idI];omega))] at h3;have R:=qrh sm l [];have k0:=qr9 (d:=d+9) hbs ts g l hlm (ruW ts g l []);have ht:=qdr bs l l.length;rw [<-ht] at h3;generalize ruW ts g l []=r at *;have k1:=qpy (Φ:=T (d+10)) r (by have:=R.a;omega);have s1:=vp0 (d:=d+7) R.n;have s2:=vp0 (d:=d+7) R.s;rw [show ((30:Nat):Int)=30 from rfl] at h1;rw [show ([]:List Int).map vak= [] from rfl] at h2 h3;have hAl:=vxo r.ans;have e1:Ai.wrap (2 * (r.ans.length:Int))=((2 * r.ans.length:Nat):Int):=by have:=R.a;rw [vau]<;>omega
 have hz:zf l.length=true\/(zf l.length=false/\aW bs l l.length= []):=by
  cases l with
  |nil=>exact .inr ⟨rfl,rfl⟩
  |cons x l=>exact .inl rfl
 clear R sm ht hI;obtain ⟨rc,ra,⟨nr,nn⟩,⟨sr,sn⟩,ri,rd⟩:=r;obtain ⟨rs,ns⟩:=g;rw [vab rfl];dsimp only [nF1,nFi,sFi,nRu,cRu,Ad,Ae] at *;rw [show d+9+1=d+10 from rfl] at k0;rw [show zf 0=false from rfl,show aW bs l 0= [] from rfl] at k0;generalize idA ra=B at *;have hBm:(B.map eAns).length=2 * (ra.map eAns).length:=by rw [Ag,Ag];exact hAl
 rcases hz with hz|⟨hz,ha⟩
 ·rw [hz] at k0;generalize aW bs l l.length=X at *;simp (maxSteps:=3000000) -implicitDefEqProofs (disch:=try exact zd) only [go_sem,Aa,Ab,vf0,vld,hB,h0,h1,h2,vav k0,h3,hAl,e1,vav k1,s1,s2,ne_eq,not_true_eq_false,decide_false,bne_self_eq_false];done
 ·rw [hz] at k0;rw [ha] at k0 h3;rw [show ([]:List PV).map PV.thaw= [] from rfl] at h3;simp (maxSteps:=3000000) -implicitDefEqProofs (disch:=try exact zd) only [go_sem,Aa,Ab,vf0,vld,hB,h0,h1,h2,vav k0,h3,hAl,e1,vav k1,s1,s2,ne_eq,not_true_eq_false,decide_false,bne_self_eq_false];done

/- Strewn: what the program and the reference make of acts and places. Strewn: what the program makes of acts and places; and the law that compares it with the reference. -/
import Derived.Test.YtkidnhclcbcglaaGreatLawS
import Derived.Test.YtkidnhclcbcglaaGreatVmSlc
open Nat renaming reduceAdd->Aa,reduceBEq->Ab
open List renaming length_map->Ac,getElem?_eq_getElem->Ad,length_append->Ae,length_take->Af,length_drop->Ag,map_append->Ah,mem_of_getElem?->Ai,take_add_one->Aj,append_assoc->Ak
namespace Go.Proofs.YtkidnhclcbcglaaGreat.VM
open Go Sy
variable {Φ:Nat→Option Callee} {N:Nat}
set_option maxRecDepth 100000
set_option maxHeartbeats 8000000
theorem qlo (s:Strew):va3 (sact s)= .st [.a (.int .i64 s.kind),.a (.int .i64 s.a),.a (.int .i64 0),.a (.int .i64 0),.a (.int .i64 (-1)),.sl vam []]:=rfl
theorem qf3 (a b c:Int):vaf Φ N vdb [.a (.int .i64 a),.a (.int .i64 b),.a (.int .i64 c)]=some ([.a (.bool (decide (b≤a∧a≤c)))],[]):=by
 rw [vag rfl];by_cases h1:b≤a
 ·by_cases h2:a≤c
  ·rw [decide_eq_true ⟨h1,h2⟩];simp -implicitDefEqProofs (disch:=first|exact zd|fail) only [go_sem,Aa,Ab,vdb,vhp]
  ·rw [decide_eq_false (fun h=>h2 h.2)];simp -implicitDefEqProofs (disch:=first|exact zd|fail) only [go_sem,Aa,Ab,vdb,vhp]
 ·rw [decide_eq_false (fun h=>h1 h.1)];simp -implicitDefEqProofs (disch:=first|exact zd|fail) only [go_sem,Aa,Ab,vdb,vhp]
theorem qf1 (l:List Act'):vaf Φ N vec [.sl true vak (l.map va3)]=some ([.a (.int .i64 l.length)],[]):=by
 rw [vag rfl];simp -implicitDefEqProofs (disch:=first|exact zd|fail) only [go_sem,Aa,Ab,vec,vnx]
theorem qr3 {d:Nat} (l:List Act') (ws:List Strew) (n:Nat) (s:Strew) (hl:l.length≤60) (hk:∀x∈l,x.keep.length≤1048576) (j a:Nat) (ha:s.at_=(a:Int)) (hja:j≤a) (hal:a≤l.length) (O:List PV) (hO:O.length≤10000):
  va7 (T (d+2)) vad [0,6,7,9,19,20,21] vik ⟨[(0,.sz vak (l.map va3)),(6,.rf 0),(7,.a (.int .i64 j)),(9,.rf 1),(19,.sz vg3 (ws.map vl1)),(20,.a (.int .i64 ws.length)),(21,.a (.int .i64 n))],[(0,some (.sl false 0 vak O)),(1,some (.bx false [.a (.int .i64 s.at_),.a (.int .i64 s.kind),.a (.int .i64 s.a)]))],2⟩=
  some (.ext 2,⟨[(0,.sz vak (l.map va3)),(6,.rf 0),(7,.a (.int .i64 a)),(9,.rf 1),(19,.sz vg3 (ws.map vl1)),(20,.a (.int .i64 ws.length)),(21,.a (.int .i64 n)),(41,.a (.bool false))],[(0,some (.sl false 0 vak (O++((l.drop j).take (a-j)).map va3))),(1,some (.bx false [.a (.int .i64 s.at_),.a (.int .i64 s.kind),.a (.int .i64 s.a)]))],402⟩):=by
 have:=vc5 (Φ:=T (d+2)) (N:=vad) (live:= [0,6,7,9,19,20,21]) (b:=vik) (id:=2) (fun k=>⟨[(0,.sz vak (l.map va3)),(6,.rf 0),(7,.a (.int .i64 (j+k:Nat))),(9,.rf 1),(19,.sz vg3 (ws.map vl1)),(20,.a (.int .i64 ws.length)),(21,.a (.int .i64 n))],[(0,some (.sl false 0 vak (O++((l.drop j).take k).map va3))),(1,some (.bx false [.a (.int .i64 s.at_),.a (.int .i64 s.kind),.a (.int .i64 s.a)]))],2⟩)
  ⟨[(0,.sz vak (l.map va3)),(6,.rf 0),(7,.a (.int .i64 a)),(9,.rf 1),(19,.sz vg3 (ws.map vl1)),(20,.a (.int .i64 ws.length)),(21,.a (.int .i64 n)),(41,.a (.bool false))],[(0,some (.sl false 0 vak (O++((l.drop j).take (a-j)).map va3))),(1,some (.bx false [.a (.int .i64 s.at_),.a (.int .i64 s.kind),.a (.int .i64 s.a)]))],402⟩ (m:=a-j) (vay zo) (fun k hk'=> ?_) ?_
 ·simpa using this
 ·obtain ⟨x,hx⟩:∃x,l[j+k]? =some x:=⟨_,Ad zo⟩
  have hc:=vts (d:=d) x (hk x (Ai hx));have hw:IntKind.i64.wrap (((j+k:Nat):Int)+1)=((j+(k+1):Nat):Int):=by rw [vai]<;>omega
  have hlt:((j+k:Nat):Int)<s.at_:=by omega
  have hlen:((j+k:Nat):Int)<l.length:=by omega
  have hle:(O++((l.drop j).take k).map va3).length≤20000:=by
   rw [Ae,Ac,Af,Ag];omega
  rw [show O++((l.drop j).take (k+1)).map va3=O++((l.drop j).take k).map va3++ [va3 x] from by
   rw [Aj,List.getElem?_drop,hx,Ah,Ak];rfl,vq3]
  generalize O++((l.drop j).take k).map va3=O' at *;generalize hm:j+k=m at *;unfold round vik;simp -implicitDefEqProofs (disch:=first|exact zd|fail) only [go_sem,Aa,Ab,hx,hc,hw]
  (show some _=some _;kernel_rfl)
 ·have hlt:¬((j+(a-j):Nat):Int)<s.at_:=by omega
  have he:((j+(a-j):Nat):Int)=a:=by omega
  rw [he] at hlt⊢;unfold round vik;simp -implicitDefEqProofs (disch:=first|exact zd|fail) only [go_sem,Aa,Ab]
abbrev zcs:List TV:= [.a (.int .i64 0),.a (.int .i64 0),.a (.int .i64 0)]
def S31 (l:List Act') (ws:List Strew) (i:Nat) (p:Nat×List Act'):St:=⟨[(0,.sz vak (l.map va3)),(6,.rf 0),(7,.a (.int .i64 p.1)),(19,.sz vg3 (ws.map vl1)),(20,.a (.int .i64 ws.length)),(21,.a (.int .i64 i))],[(0,some (.sl false 0 vak (p.2.map va3)))],1⟩
theorem qc7 {d:Nat} (l:List Act') (ws:List Strew) (hl:l.length≤60) (hw:ws.length≤60) (hk:∀x∈l,x.keep.length≤1048576) {i:Nat} {s:Strew} (hi:ws[i]? =some s) (p:Nat×List Act') (hp:p.1≤l.length) (hO:p.2.length≤1000):
  round (T (d+2)) vad [0,6,7,19,20,21] vdl (S31 l ws i p)=some (match stepS l p s with|some p'=>(.nrm,S31 l ws (i+1) p')|none=>(.ret,⟨[(4,.nl vak),(5,.a (.bool false))],[(301,some (.bx false [.a (.int .i64 s.at_),.a (.int .i64 s.kind),.a (.int .i64 s.a)])),(301,some (.bx false zcs)),(0,some (.sl false 0 vak (p.2.map va3)))],2001⟩)):=by
 obtain ⟨j,out⟩:=p;dsimp only at hp hO;have hil:i<ws.length:=(List.getElem?_eq_some_iff.1 hi).1;have hsi:=vat i zo;have hin:=qf3 (Φ:=T (d+1)) (N:=vad) s.at_ j l.length;have hsz:=qf1 (Φ:=T (d+1)) (N:=vad) l;have hex:=vxi (Φ:=T (d+1)) (N:=vad) s.kind;unfold stepS;by_cases c1:(j:Int)≤s.at_∧s.at_≤(l.length:Int)
 ·rw [decide_eq_true c1] at hin;by_cases c3:15≤s.kind∧s.kind≤17
  ·rw [decide_eq_true c3] at hex;rw [if_pos (by rw [okS,decide_eq_true_eq];exact ⟨c1.1,c1.2,c3.1,c3.2⟩)];obtain ⟨a,ha⟩:∃a:Nat,s.at_=(a:Int):=⟨s.at_.toNat,by omega⟩
   have e:s.at_.toNat=a:=by omega
   rw [e];have key:=qr3 (d:=d) l ws i s hl hk j a ha zo zo (out.map va3) (by rw [Ac];omega);have hle:(out.map va3++((l.drop j).take (a-j)).map va3).length≤20000:=by
    rw [Ae,Ac,Ac,Af,Ag];omega
   have hz:(out++(l.drop j).take (a-j)++ [sact s]).map va3=out.map va3++((l.drop j).take (a-j)).map va3++ [va3 (sact s)]:=by simp
   rw [qlo] at hz;unfold round S31 vdl;generalize hO':out.map va3++((l.drop j).take (a-j)).map va3=O' at *;simp -implicitDefEqProofs (disch:=first|exact zd|fail) only [go_sem,Aa,Ab,hi,hin,hsz,hex,hsi,vao key,hz,hO']
   (show some _=some _;kernel_rfl)
  ·rw [decide_eq_false c3] at hex;rw [if_neg (by rw [okS,decide_eq_true_eq];exact fun h=>c3 ⟨h.2.2.1,h.2.2.2⟩)];unfold round S31 vdl;simp -implicitDefEqProofs (disch:=first|exact zd|fail) only [go_sem,Aa,Ab,hi,hin,hsz,hex,hsi]
 ·rw [decide_eq_false c1] at hin;rw [if_neg (by rw [okS,decide_eq_true_eq];exact fun h=>c1 ⟨h.1,h.2.1⟩)];unfold round S31 vdl;simp -implicitDefEqProofs (disch:=first|exact zd|fail) only [go_sem,Aa,Ab,hi,hin,hsz,hex,hsi]
theorem qqe {l:List Act'} {p p':Nat×List Act'} {s:Strew} (h:stepS l p s=some p'):p'.1≤l.length∧p.1≤p'.1∧p'.2.length≤p.2.length+(p'.1-p.1)+1:=by
 unfold stepS at h;split at h
 ·rename_i ho;rw [okS,decide_eq_true_eq] at ho;cases h;simp only [Ae,Af,List.length_cons,List.length_nil];omega
 ·cases h
theorem qr5 {d:Nat} (l:List Act') (ws:List Strew) (hl:l.length≤60) (hw:ws.length≤60) (hk:∀x∈l,x.keep.length≤1048576):
  (∃p,foldS l ws ws.length=some p∧p.1≤l.length∧p.2.length≤p.1+ws.length∧va7 (T (d+2)) vad [0,6,7,19,20,21] vdl (S31 l ws 0 (0,[]))=
   some (.ext 0,⟨[(0,.sz vak (l.map va3)),(6,.rf 0),(7,.a (.int .i64 p.1)),(19,.sz vg3 (ws.map vl1)),(20,.a (.int .i64 ws.length)),(21,.a (.int .i64 ws.length)),(22,.a (.bool false))],[(0,some (.sl false 0 vak (p.2.map va3)))],101⟩))∨
  (foldS l ws ws.length=none∧∃nd nx,va7 (T (d+2)) vad [0,6,7,19,20,21] vdl (S31 l ws 0 (0,[]))=some (.ret,⟨[(4,.nl vak),(5,.a (.bool false))],nd,nx⟩)):=by
 obtain ⟨o,e,he,_,h⟩:=vq9 (Φ:=T (d+2)) (N:=vad) (live:= [0,6,7,19,20,21]) (b:=vdl) (r:= [])
  (fun k s=>∃i p,i+k=ws.length∧foldS l ws i=some p∧p.1≤l.length∧p.2.length≤p.1+i∧s=S31 l ws i p)
  (fun o e=>(∃p,foldS l ws ws.length=some p∧p.1≤l.length∧p.2.length≤p.1+ws.length∧o= .ext 0∧e=⟨[(0,.sz vak (l.map va3)),(6,.rf 0),(7,.a (.int .i64 p.1)),(19,.sz vg3 (ws.map vl1)),(20,.a (.int .i64 ws.length)),(21,.a (.int .i64 ws.length)),(22,.a (.bool false))],[(0,some (.sl false 0 vak (p.2.map va3)))],101⟩)∨
   (foldS l ws ws.length=none∧o= .ret∧∃nd nx,e=⟨[(4,.nl vak),(5,.a (.bool false))],nd,nx⟩))
  (m:=ws.length) (vay zo) (s:=S31 l ws 0 (0,[])) ⟨0,(0,[]),by omega,rfl,by simp,by simp,rfl⟩ (by
   rintro k s hkm ⟨i,p,hik,hf,hp1,hp2,rfl⟩
   by_cases hi:i<ws.length
   ·obtain ⟨y,hy⟩:∃y,ws[i]? =some y:=⟨_,Ad hi⟩
    have hr:=qc7 (d:=d) l ws hl hw hk hy p hp1 zo;have hfs:=qib (l:=l) hy;rw [hf] at hfs;change foldS l ws (i+1)=stepS l p y at hfs;cases hst:stepS l p y with
    |none=>
     rw [hst] at hr hfs;exact .inr ⟨.ret,_,by simp,hr,.inr ⟨qh3 hfs,rfl,_,_,rfl⟩⟩
    |some p'=>
     rw [hst] at hr hfs;obtain ⟨q1,q2,q3⟩:=qqe hst;exact .inl ⟨k-1,_,by omega,hr,i+1,p',by omega,hfs,q1,by omega,rfl⟩
   ·obtain rfl:i=ws.length:=by omega
    refine .inr ⟨.ext 0,_,by simp,?_,.inl ⟨p,hf,hp1,hp2,rfl,rfl⟩⟩;unfold round S31 vdl
    simp -implicitDefEqProofs (disch:=first|exact zd|fail) only [go_sem,Aa,Ab])
 rcases he with ⟨p,h1,h2,h3,rfl,rfl⟩|⟨h1,rfl,nd,nx,rfl⟩
 ·exact .inl ⟨p,h1,h2,h3,h⟩
 ·exact .inr ⟨h1,nd,nx,h⟩
theorem qta {d:Nat} (l:List Act') (hl:l.length≤60) (hk:∀x∈l,x.keep.length≤1048576) (O:List PV) (hO:O.length≤10000):
  va7 (T (d+2)) vad [6,63,64,65] vim ⟨[(6,.rf 0),(63,.sz vak (l.map va3)),(64,.a (.int .i64 l.length)),(65,.a (.int .i64 0))],[(0,some (.sl false 0 vak O))],1⟩=
  some (.ext 4,⟨[(6,.rf 0),(63,.sz vak (l.map va3)),(64,.a (.int .i64 l.length)),(65,.a (.int .i64 l.length)),(66,.a (.bool false))],[(0,some (.sl false 0 vak (O++l.map va3)))],101⟩):=by
 have:=vc5 (Φ:=T (d+2)) (N:=vad) (live:= [6,63,64,65]) (b:=vim) (id:=4) (fun i=>⟨[(6,.rf 0),(63,.sz vak (l.map va3)),(64,.a (.int .i64 l.length)),(65,.a (.int .i64 (i:Nat)))],[(0,some (.sl false 0 vak (O++(l.take i).map va3)))],1⟩)
  ⟨[(6,.rf 0),(63,.sz vak (l.map va3)),(64,.a (.int .i64 l.length)),(65,.a (.int .i64 l.length)),(66,.a (.bool false))],[(0,some (.sl false 0 vak (O++l.map va3)))],101⟩ (m:=l.length) (vay zo) (fun i hi=> ?_) ?_
 ·simpa using this
 ·obtain ⟨x,hx⟩:∃x,l[i]? =some x:=⟨_,Ad hi⟩
  have hc:=vts (d:=d) x (hk x (Ai hx));have hw:=vat i zo;have hle:(O++(l.take i).map va3).length≤20000:=by
   rw [Ae,Ac,Af];omega
  rw [show O++(l.take (i+1)).map va3=O++(l.take i).map va3++ [va3 x] from by rw [Aj,hx,Ah,Ak];rfl,vq3];generalize O++(l.take i).map va3=O' at *;unfold round vim;simp -implicitDefEqProofs (disch:=first|exact zd|fail) only [go_sem,Aa,Ab,hx,hc,hw]
  (show some _=some _;kernel_rfl)
 ·rw [List.take_length];unfold round vim;simp -implicitDefEqProofs (disch:=first|exact zd|fail) only [go_sem,Aa,Ab]
theorem vyv {d:Nat} (l:List Act') (ws:List Strew) (hl:l.length≤1048576) (hw:ws.length≤1048576) (hk:∀x∈l,x.keep.length≤1048576):
  vaf (T (d+2)) vad vgb [.sl true vak (l.map va3),.sl true vg3 (ws.map vl1)]=some ([.sl false vak ((strewn l ws).1.map va3),.a (.bool (strewn l ws).2)],[]):=by
 have hs:IntKind.i64.wrap ((l.length:Int)+ws.length)=l.length+ws.length:=by rw [vai]<;>omega
 unfold strewn;rw [vag rfl];by_cases hn:l.length+ws.length≤60
 ·have hall:=qnk l ws;rcases qr5 (d:=d) l ws zo zo hk with ⟨p,h1,h2,h3,key⟩|⟨h1,nd,nx,key⟩
  ·rw [h1] at hall;by_cases hv:validS l.length 0 ws=true
   ·rw [if_pos hv] at hall;rw [if_pos ⟨hv,hn⟩,←Option.some.inj hall];have key2:=qta (d:=d) (l.drop p.1) (by rw [Ag];omega) (fun x hx=>hk x (List.mem_of_mem_drop hx)) (p.2.map va3) (by rw [Ac];omega);unfold S31 at key;have e1:(l.map va3).drop p.1=(l.drop p.1).map va3:=(List.map_drop ..).symm;have e2:(p.2++l.drop p.1).map va3=p.2.map va3++(l.drop p.1).map va3:=Ah ..;simp -implicitDefEqProofs (disch:=first|exact zd|fail) only [go_sem,Aa,Ab,vgb,vl9,vao key,hs,e1,vao key2,e2]
   ·rw [if_neg hv] at hall;cases hall
  ·rw [h1] at hall;by_cases hv:validS l.length 0 ws=true
   ·rw [if_pos hv] at hall;cases hall
   ·rw [if_neg (fun h=>hv h.1)];unfold S31 at key;simp -implicitDefEqProofs (disch:=first|exact zd|fail) only [go_sem,Aa,Ab,vgb,vl9,vhc key,hs]
 ·rw [if_neg (fun h=>hn h.2)];simp -implicitDefEqProofs (disch:=first|exact zd|fail) only [go_sem,Aa,Ab,vgb,vl9,hs]

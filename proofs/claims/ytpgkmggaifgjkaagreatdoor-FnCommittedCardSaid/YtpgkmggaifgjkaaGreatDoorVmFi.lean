/- The interpreter 'VM'. -/
import Derived.Test.YtpgkmggaifgjkaaGreatDoorVmBe
import Derived.Laws.CopyRow
import Derived.Laws.Build
import Derived.Laws.BytesArg
import Derived.Laws.IdiomStrings
import Derived.Laws.OwnMore
import Derived.Laws.Slices
import Derived.Laws.Strings
open List renaming getElem?_eq_some_iff->Aa,getElem?_eq_getElem->Ab,getElem?_append_right->Ad,getElem?_drop->Ae,getElem?_append_left->Af,getElem?_take->Aj,mem_of_getElem?->Ak,getElem?_map->Al,eq_nil_of_length_eq_zero->Am,getElem?_range->An,mem_of_mem_drop->Ap,flatMap_cons->Ar,getD_eq_getElem?_getD->At,mem_or_eq_of_mem_set->Ay,length_set->A1,mem_of_mem_take->A4,range->A5,mem_map->A8,length_append->A9,length_cons->Be,all_eq_true->Bf,foldlM_cons->Bh,length_nil->Bj,all_cons->Bl
open Nat renaming add_assoc->Ac,add_mul->Ao,zero_add->Az,mul_le_mul_right->A7,add_zero->Ba,lt_of_lt_of_le->Bb,le_refl->Bc,zero_mul->Bm
open Array renaming length_toList->Ag,getElem?_toList->A3,toArray_toList->A6
open Option.some renaming injEq->Ah,inj->Bi
open Option renaming map_some->Ai,isSome_iff_exists->Au,bind_eq_some_iff->Av,getD_some->A0,map_eq_some_iff->A2
open Bool renaming false_eq_true->Aq,and_eq_true->Aw
open Prod renaming snd->Ax,fst->Bg
set_option linter.all false
namespace Go.Proofs.YtpgkmggaifgjkaaGreatDoor.VM
open Go
variable {cx:Cx} {U:Nat->Prop} {X:vaj} {ρ:Nat->Value} {F:Nat->vaj} {st:St} {a:Act} {w:World}
theorem qbv {x v:Value} (h:sameV x v=true):v=x:=by
 unfold sameV at h;split at h<;>simp_all
theorem qam {P:Program} {Z:Zn} {sh:va2}:∀{zs:List ZC} {vs:List Value},zsFit P zs vs=true->TRL P w Z ρ F sh (zs.map ZC.tv) vs
 | [],[],_=> .nil
 |z::zs,v::vs,h=>by
  simp only [zsFit,Aw] at h;refine .cons ?_ (qam h.2);cases z with
  |v x=>have:=qbv h.1;subst this;exact .a _
  |nl e=>
   have h1:=h.1;simp only [zcFits,Aw] at h1;obtain ⟨h1,h2⟩:=h1;split at h1
   ·obtain ⟨m,hm⟩:=Au.1 h2;exact .nl e m hm
   ·cases h1
 | [],_::_,h=>by cases h
 |_::_,[],h=>by cases h
theorem qj7 {U:Nat->Prop} (zs:List ZC):vap U (zs.map ZC.tv):=by
 apply vdc;intro c hc;obtain ⟨z,_,rfl⟩:=A8.1 hc;cases z<;>trivial
theorem vjr {P:Program} {t:Nat} {zs:List ZC} (h:zeros P t=some zs):∃i z,P.info? t=some i/\i.zero=some z/\i.size=zs.length/\zsFit P zs z.cells.toList=true:=by
 unfold zeros at h;obtain ⟨zs',_,h⟩:=Av.1 h;unfold zeroT va8 at h;cases hi:P.info? t with
 |none=>simp [hi] at h
 |some i=>
  cases hz:i.zero with
  |none=>simp [hi,hz] at h
  |some z=>
   simp only [hi,hz,Option.bind_some,Ai] at h;split at h
   ·rename_i hc;cases h;exact ⟨i,z,rfl,hz,by simpa using hc.1,hc.2⟩
   ·cases h
theorem vvd {P:Program} {t:Nat} {wd:Option Nat} (h:widthT P t=some wd) (w:World):
  (∀n,wd=some n->(isAgg t).run P w= .ok true w/\va8 P t=some n)/\(wd=none->(isAgg t).run P w= .ok false w):=by
 unfold widthT und at h;cases hu:P.underlying t with
 |none=>rw [hu] at h;cases h
 |some d=>
  rw [hu] at h;cases d with
  |struct fs=>
   simp only at h;cases hs:va8 P t with
   |none=>simp [hs] at h
   |some n=>
    simp only [hs,Ai,Ah] at h;subst h;refine ⟨λm hm=> ?_,λhn=>by cases hn⟩;cases hm;exact ⟨by simp [isAgg,underlying,hu],rfl⟩
  |array l e=>cases h
  |_=>
   cases h;refine ⟨λm hm=>(by cases hm),λ_=> ?_⟩;simp only [isAgg,underlying,Sem.run_bind,run_program,Result.andThen_ok,hu,Sem.run_pure]
theorem vhf {P:Program} {t n:Nat} (h:va8 P t=some n) (w:World):(sizeOf t).run P w= .ok n w:=by
 unfold va8 at h;cases hi:P.info? t with
 |none=>simp [hi] at h
 |some i=>
  simp only [hi,Ai,Ah] at h;simp [sizeOf,typeInfo,hi,h]
theorem qek (h:G cx U X ρ F st a w) {b:Nat} (hb:∀i,b<=i->i<b+100->¬U i) {o:Oper} {d:Nat} (ho:o.dst=some d) (hd:d<cx.n) {cs:List TV} {us:Array Value} {t:TypeId} (hne:cs≠[])
  (hc:TRL cx.P w cx.Z ρ F (vah st) cs us.toList) (hi:vap U cs) (hrun:(execOp a.eval o).run cx.P w= .ok (.value (.pointer (some ⟨w.heap.size,0,none⟩))) (w.alloc (.cells us t))):
  Now cx U b o {st.setNode b (some (.bx false cs)) with slots:=(d,.rf b)::st.slots} a w:=by
 obtain ⟨ρ',F',h2,hρ⟩:=h.newBox (b:=b) (hb b (Bc _) zo) hne (us:=us) (by rw [<-hc.length,Ag]) (λi c u h1 h2=>hc.get i c u h1 (by simpa using h2)) hi t;refine .value _ _ hrun ?_;rw [ho,<-hρ];exact (h2.rel_put hd (.rf b) (.inr rfl)).more λi hi=>hi.imp id λe=>by subst e;omega
theorem qb5 (h:G cx U X ρ F st a w) {b:Nat} (hb:∀i,b<=i->i<b+100->¬U i) {o:Oper} {d:Nat} (ho:o.dst=some d) (hd:d<cx.n) {t:TypeId} {zs:List ZC} (hop:o.op= .alloc t)
  (hz:zeros cx.P t=some zs) {s1:St} (hr:(if zs.isEmpty then M.fail else (setN b (some (.bx false (zs.map ZC.tv)))).bind λ_=>setS d (.rf b)).run st=some ((),s1)):Now cx U b o s1 a w:=by
 split at hr
 ·exact (vac hr).elim
 ·rename_i hne;obtain ⟨_,s2,h1,h2⟩:=vaa hr;cases vby h1;cases vbd h2;obtain ⟨i,z,hi,hz0,hsz,hfit⟩:=vjr hz;refine qek h hb ho hd (us:=z.cells) (t:=t) (by intro e;rw [List.map_eq_nil_iff] at e;subst e;exact hne rfl) (qam hfit) (qj7 zs) ?_;unfold execOp;rw [hop];simp [Instr.alloc,zeroValue,typeInfo,hi,hz0,newVar,newRow]
theorem qhv (h:G cx U X ρ F st a w) {b:Nat} (hb:∀i,b<=i->i<b+100->¬U i) {o:Oper} {d:Nat} (ho:o.dst=some d) (hd:d<cx.n) {t:TypeId} {x:Operand} {x':Opd} (hop:o.op= .box t x)
  (hx:cOpd cx.P t x=some x') {s1:St} (hr:((opd x').bind λv=>(liftO v.row).bind λcs=>if cs.isEmpty then .fail else (setN b (some (.bx false cs))).bind λ_=>setS d (.rf b)).run st=some ((),s1)):Now cx U b o s1 a w:=by
 obtain ⟨c,s2,h1,h2⟩:=vaa hr;obtain ⟨rfl,g1,i1⟩:=vbw h hx h1;obtain ⟨cs,s3,h3,h4⟩:=vaa h2;obtain ⟨hrow,rfl⟩:=vdl h3;simp only at hrow h4;split at h4
 ·exact (vac h4).elim
 ·rename_i hne;obtain ⟨_,s2,h5,h6⟩:=vaa h4;cases vby h5;cases vbd h6;obtain ⟨k1,k2⟩:=g1.row h.one hrow;refine qek h hb ho hd (us:=(a.eval x).cells) (t:=t) (by intro e;subst e;exact hne rfl) k1 (by rw [<-k2];exact viw i1) ?_;unfold execOp;rw [hop];simp [Instr.box,newVar,newRow]
theorem vic {α:Type} (cs vs:List α) (o:Nat) (k:Nat) (h:o+vs.length<=cs.length):(cs.take o++vs++cs.drop (o+vs.length))[k]? =if o<=k/\k<o+vs.length then vs[k-o]? else cs[k]? :=by
 have e1:(cs.take o).length=o:=by simp;omega
 by_cases h1:k<o
 ·rw [if_neg zo,List.append_assoc,Af zo,Aj,if_pos h1]
 ·by_cases h2:k<o+vs.length
  ·rw [if_pos ⟨zo,h2⟩,Af (by simp [e1];omega),Ad zo,e1]
  ·rw [if_neg zo,Ad (by simp [e1];omega),A9,e1,Ae];congr 1;omega
theorem vyf (o:Nat):∀(vs:List Value) (j:Nat) (cs:Array Value) (k:Nat),o+j+vs.length<=cs.size->
  ((vs.zipIdx j).foldl (λcs (x:Value×Nat)=>cs.setIfInBounds (o+x.2) x.1) cs)[k]? =(if o+j<=k/\k<o+j+vs.length then vs[k-(o+j)]? else cs[k]?)
 | [],j,cs,k,h=>by simp;omega
 |v::vs,j,cs,k,h=>by
  simp only [List.zipIdx_cons,List.foldl_cons];rw [vyf o vs (j+1) _ k (by simp at h⊢;omega)];simp only [Be] at h⊢;by_cases h1:o+(j+1)<=k/\k<o+(j+1)+vs.length
  ·rw [if_pos h1,if_pos zo];have:k-(o+j)=(k-(o+(j+1)))+1:=zo
   rw [this,List.getElem?_cons_succ]
  ·rw [if_neg h1,Array.getElem?_setIfInBounds];by_cases h2:o+j=k
   ·subst h2;rw [if_pos rfl,if_pos zo,if_pos zo];simp
   ·rw [if_neg h2,if_neg zo]
theorem vy7 (o:Nat) (v:Value) (cs:Array Value) (h:o+v.cells.size<=cs.size):
  (v.cells.zipIdx.foldl (λcs (x:Value×Nat)=>cs.setIfInBounds (o+x.2) x.1) cs).toList=cs.toList.take o++v.cells.toList++cs.toList.drop (o+v.cells.toList.length):=by
 apply List.ext_getElem?;intro k;rw [vic _ _ _ _ (by simpa using h),A3,<-Array.foldl_toList,Array.toList_zipIdx,vyf o v.cells.toList 0 cs k (by simpa using h)];simp
theorem qq3 {P:Program} {Z:Zn} {sh:va2} {cs ys:List TV} {us vs:List Value} (h:TRL P w Z ρ F sh cs us) (h2:TRL P w Z ρ F sh ys vs) (o:Nat) (ho:o+ys.length<=cs.length):
  TRL P w Z ρ F sh (cs.take o++ys++cs.drop (o+ys.length)) (us.take o++vs++us.drop (o+vs.length)):=by
 have l1:=h.length;have l2:=h2.length;refine .of (by simp;omega) λi c u hc hu=> ?_;rw [vic _ _ _ _ ho] at hc;rw [vic _ _ _ _ zo,l2] at hu;split at hc
 ·rename_i hin;rw [if_pos hin] at hu;exact h2.get _ c u hc hu
 ·rename_i hin;rw [if_neg hin] at hu;exact h.get _ c u hc hu
theorem vwx {U:Nat->Prop} {cs ys:List TV} (h:vap U cs) (h2:vap U ys) (o n:Nat):vap U (cs.take o++ys++cs.drop n):=by
 apply vdc;intro c hc;simp only [List.mem_append] at hc;rcases hc with (hc|hc)|hc
 ·exact vco h c (A4 hc)
 ·exact vco h2 c hc
 ·exact vco h c (Ap hc)
theorem vw3 {P:Program}:∀{fs:List Field} {places:List (Nat×Nat)},fs.mapM (λf=>(P.info? f.type).map λi=>(f.offset,i.size))=some places->
  ∀(i:Nat) f,fs[i]? =some f->∀n,va8 P f.type=some n->places[i]? =some (f.offset,n)
 | [],places,h,i,f,hf,n,hn=>by simp at hf
 |g::fs,places,h,i,f,hf,n,hn=>by
  simp only [List.mapM_cons,Option.bind_eq_bind,Option.pure_def] at h;obtain ⟨x,hx,h⟩:=Av.1 h;obtain ⟨rest,hr,h⟩:=Av.1 h;cases h;cases i with
  |zero=>
   simp at hf;subst hf;unfold va8 at hn;cases hi:P.info? g.type with
   |none=>simp [hi] at hn
   |some i=>simp [hi] at hn hx;subst hn hx;rfl
  |succ i=>exact vw3 hr i f (by simpa using hf) n hn
theorem qob (h:G cx U X ρ F st a w) {t:Nat} {fields:Array Field} (hu:cx.P.underlying t=some (.struct fields)) {places:List (Nat×Nat)}
  (hp:fields.toList.mapM (λf=>(cx.P.info? f.type).map λi=>(f.offset,i.size))=some places) (ps:List (Nat×Operand)):
  ∀{qs:List (Nat×Nat×Opd)} {cs:List TV} {us:Array Value} {cs':List TV} {s1:St},cParts cx.P t ps=some qs->TRL cx.P w cx.Z ρ F (vah st) cs us.toList->vap U cs->(buildM qs cs).run st=some (cs',s1)->
   s1=st/\∃us',Instr.fill (places.toArray[·]?) us (ps.map λx=>(x.1,a.eval x.2))=some us'/\TRL cx.P w cx.Z ρ F (vah st) cs' us'.toList/\vap U cs':=by
 induction ps with
 |nil=>
  intro qs cs us cs' s1 hq hc hi hr;simp only [cParts,Ah] at hq;subst hq;simp only [buildM,M.run,Ah,Prod.mk.injEq] at hr;obtain ⟨rfl,rfl⟩:=hr;exact ⟨rfl,us,rfl,hc,hi⟩
 |cons ix ps ih=>
  intro qs cs us cs' s1 hq hc hi hr;obtain ⟨i,x⟩:=ix;simp only [cParts] at hq;split at hq
  ·cases hq
  ·rename_i f hf;split at hq
   ·rename_i n y ys hn hy hys;cases hq;simp only [buildM] at hr;obtain ⟨c,s2,h1,h2⟩:=vaa hr;obtain ⟨rfl,g1,i1⟩:=vbw h hy h1;split at h2
    ·rename_i hcond;obtain ⟨hlen,hfit,hsome⟩:=hcond;obtain ⟨row,hrow⟩:=Au.1 hsome;obtain ⟨k1,k2⟩:=g1.row h.one hrow;have hvl:(a.eval x).cells.size=n:=by rw [<-Ag,k1.length,<-k2,hlen]
     have hul:us.size=cs.length:=by rw [<-Ag,hc.length]
     have hf':fields.toList[i]? =some f:=by
      unfold fieldT und at hf;rw [hu] at hf;simpa using hf
     have hpl:=vw3 hp i f hf' n hn;have hseg:=vy7 f.offset (a.eval x) us zo;have hcells:c.cells.length=(a.eval x).cells.toList.length:=by simp [hvl,hlen]
     have htr:=qq3 hc (by rw [<-k2] at k1;exact k1) f.offset zo;rw [<-hseg] at htr;have e:f.offset+n=f.offset+c.cells.length:=zo
     rw [e] at h2;obtain ⟨rfl,us',f1,f2,f3⟩:=ih hys htr (vwx hi (viw i1) _ _) h2;refine ⟨rfl,us',?_,f2,f3⟩;simp only [List.map_cons,Instr.fill];have hpl':(places.toArray[i]? :Option (Nat×Nat))=some (f.offset,n):=by simpa using hpl
     rw [hpl'];simp only;rw [if_neg (by simp [hvl];omega)];exact f1
    ·exact (vac h2).elim
   ·cases hq
theorem qan (h:G cx U X ρ F st a w) {b:Nat} {o:Oper} {d:Nat} (ho:o.dst=some d) (hd:d<cx.n) {t:TypeId} {ps:Array (Nat×Operand)} {fields:Array Field} {zs:List ZC} {qs:List (Nat×Nat×Opd)} (hop:o.op= .build t ps)
  (hu:cx.P.underlying t=some (.struct fields)) (hz:zeros cx.P t=some zs) (hq:cParts cx.P t ps.toList=some qs)
  (hf:(fields.toList.mapM (λf=>(cx.P.info? f.type).map λi=>(f.offset,i.size))).isSome=true) {s1:St}
  (hr:((buildM qs (zs.map ZC.tv)).bind λcs=>setS d (.st cs)).run st=some ((),s1)):Now cx U b o s1 a w:=by
 obtain ⟨cs,s2,h1,h2⟩:=vaa hr;obtain ⟨i,z,hi,hz0,hsz,hfit⟩:=vjr hz;obtain ⟨places,hp⟩:=Au.1 hf;obtain ⟨rfl,us',f1,f2,f3⟩:=qob h hu hp ps.toList (us:=z.cells) hq (qam hfit) (qj7 zs) h1;cases vbd h2;refine vbq h ho hd (v:= .agg us') ?_ (.st cs us' (by rw [<-Ag,f2.length]) λi c u hc hu=>f2.get i c u hc (by simpa using hu)) f3;unfold execOp;rw [hop];have hb:cx.P.built t (ps.map λ(i,x)=>(i,a.eval x)).toList=some us':=by
  unfold Program.built;simp only [hi,hu,hz0,hp];rw [<-f1];simp
 simp only [Sem.run_bind,run_build w t _ us' hb,Result.andThen_ok,Sem.run_pure]
theorem vmv {P:Program} {t:Nat} {wd:Option Nat} (hw:widthT P t=some wd) {x:Addr} (hx:x.spot=none) {us:List Value} {w:World}
  (hc:∀(j:Nat) u,us[j]? =some u->w.cell? ⟨x.block,x.off+j,none⟩=some u):
  (∀n,wd=some n->us.length=n->(loadVar t x).run P w= .ok (.agg us.toArray) w)/\(wd=none->∀u,us[0]? =some u->(loadVar t x).run P w= .ok u w):=by
 obtain ⟨h1,h2⟩:=vvd hw w;constructor
 ·intro n hn hl;obtain ⟨h3,h4⟩:=h1 n hn;have:=run_loadCells_list (P:=P) w x us λj v hj=>by rw [vhx hx];exact hc j v hj
  rw [hl] at this;simp only [loadVar,Sem.run_bind,h3,Result.andThen_ok,if_true,vhf h4 w,this,Sem.run_pure]
 ·intro hn u hu;have hx0:w.cell? x=some u:=by
   have:=hc 0 u hu;rw [Ba] at this;have e:(⟨x.block,x.off,none⟩:Addr)=x:=by cases x;simp only at hx;subst hx;rfl
   rwa [e] at this
  simp only [loadVar,Sem.run_bind,h2 hn,Result.andThen_ok,Aq,if_false,run_load,hx0]
theorem vjg {cs:List TV} {o:Nat} {wd:Option Nat} {c:TV} (h:vbi cs o wd=some c):vbi (cs.drop o) 0 wd=some c:=by
 cases wd with
 |none=>simpa [vbi] using h
 |some n=>
  simp only [vbi] at h⊢;split at h
  ·cases h;rw [if_pos (by simp;omega)];simp
  ·cases h
structure Row (cx:Cx) (U:Nat->Prop) (ρ:Nat->Value) (F:Nat->vaj) (st:St) (w:World) (v:Value) (cs:List TV):Prop where
 get:∃(x:Addr) (us:List Value),v= .pointer (some x)/\x.spot=none/\TRL cx.P w cx.Z ρ F (vah st) cs us/\
  ∀(j:Nat) u,us[j]? =some u->w.cell? ⟨x.block,x.off+j,none⟩=some u
 ids:vap U cs
theorem vpi {wd:Option Nat} {v:Value} {cs:List TV} (hR:Row cx U ρ F st w v cs) {t:Nat} (hw:widthT cx.P t=some wd) {c:TV} (hp:vbi cs 0 wd=some c):
  ∃u,(Instr.loadAt t v).run cx.P w= .ok u w/\TR cx.P w cx.Z ρ F (vah st) c u/\idsIn U c:=by
 obtain ⟨x,us,rfl,hx,htr,hcell⟩:=hR.get;obtain ⟨p1,p2,p3⟩:=vtu (us:=us) htr.get (by have:=htr.length;omega) hR.ids hp;cases wd with
 |none=>
  obtain ⟨u,hu,htu⟩:=p2 rfl;refine ⟨u,?_,htu,p3⟩;have:=(vmv (us:=us) hw hx hcell).2 rfl u hu;simpa [Instr.loadAt,Instr.sureAddr] using this
 |some n=>
  obtain ⟨hlen,htu⟩:=p1 n rfl;refine ⟨_,?_,htu,p3⟩
  have:=(vmv (us:=(us.drop 0).take n) hw hx λj u hj=>by
   rw [Aj] at hj;split at hj
   ·exact hcell j u (by simpa using hj)
   ·cases hj).1 n rfl (by simp;omega)
  simpa [Instr.loadAt,Instr.sureAddr] using this
theorem vno (h:G cx U X ρ F st a w) {id:Nat} {z:Bool} {cs:List TV} (hn:st.node id=some (.bx z cs)):
  ∃b off cur t,ρ id= .pointer (some ⟨b,off,none⟩)/\w.heap[b]? =some (.cells cur t (0,0))/\off+cs.length<=cur.size/\TRL cx.P w cx.Z ρ F (vah st) cs ((cur.toList.drop off).take cs.length)/\vap U cs/\
   (∀b' o',F id b' o'↔(z=false/\b'=b/\off<=o'/\o'<off+cs.length))/\(z=true->∀i,i<cs.length->zU cx.Z b (off+i)):=by
 have hN:=h.nodes id _ hn;cases hN with
 |bx _ _ b off cur t hr hb hsz hne hc hF hz=>
  refine ⟨b,off,cur,t,hr,hb,hsz,?_,(h.used id _ hn).2,hF,hz⟩;refine .of (by simp;omega) λi c u hi hu=>hc i c hi u ?_;rw [Aj] at hu;split at hu
  ·simpa using hu
  ·cases hu
theorem TRL.drop {P:Program} {Z:Zn} {sh:va2} {cs:List TV} {us:List Value} (h:TRL P w Z ρ F sh cs us) (o:Nat):TRL P w Z ρ F sh (cs.drop o) (us.drop o):=
 .of (by have:=h.length;simp;omega) λi c u hc hu=>h.get (o+i) c u (by simpa using hc) (by simpa using hu)
theorem vvb {U:Nat->Prop} {cs:List TV} (h:vap U cs) (o:Nat):vap U (cs.drop o):=vdc λc hc=>vco h c (Ap hc)
theorem qhr (h:G cx U X ρ F st a w) {id:Nat} {z:Bool} {cs:List TV} (hn:st.node id=some (.bx z cs)) (o:Nat) {v:Value}
  (hv:∃b off,ρ id= .pointer (some ⟨b,off,none⟩)/\v= .pointer (some ⟨b,off+o,none⟩)):Row cx U ρ F st w v (cs.drop o):=by
 obtain ⟨b,off,cur,t,hr,hb,hsz,htr,hi,_,_⟩:=vno h hn;obtain ⟨b',off',hr',rfl⟩:=hv;rw [hr] at hr';injection hr' with hr'
 injection hr' with hr'
 injection hr' with e1 e2
 subst e1 e2;refine ⟨⟨_,_,rfl,rfl,htr.drop o,?_⟩,vvb hi o⟩;intro j u hu;rw [vef hb];rw [Ae,Aj] at hu;split at hu
 ·rw [Ae] at hu;simpa [Ac] using hu
 ·cases hu
theorem vlm {m:Nat}:∀{es:List PV} (_:∀y∈es,y.cells.length=m) {i:Nat} {x:PV} (_:es[i]? =some x) {j:Nat} (_:j<m),(flat es)[i * m+j]? =x.cells[j]?
 |y::es,hw,0,x,hx,j,hj=>by
  simp at hx;subst hx;simp only [flat,Ar,Bm,Az];rw [Af (by rw [hw _ (by simp)];exact hj)]
 |y::es,hw,i+1,x,hx,j,hj=>by
  have ih:=vlm (es:=es) (λz hz=>hw z (by simp [hz])) (i:=i) (x:=x) (by simpa using hx) hj;simp only [flat,Ar] at ih⊢;have hy:y.cells.length=m:=hw y (by simp);rw [Ad (by rw [hy,Ao];omega),hy,<-ih];congr 1;rw [Ao];omega
 | [],_,i,x,hx,j,hj=>by simp at hx
theorem vfk {m:Nat} {es:List PV} (h:∀y∈es,y.cells.length=m):(flat es).length=es.length * m:=by
 induction es with
 |nil=>simp [flat]
 |cons y es ih=>
  have:=ih λz hz=>h z (by simp [hz]);simp only [flat,Ar,A9,Be] at this⊢;rw [this,h y (by simp),Ao];omega
theorem Row.drop {v:Value} {x:Addr} {cs:List TV} (h:Row cx U ρ F st w (.pointer (some x)) cs) (o:Nat) (hv:v= .pointer (some ⟨x.block,x.off+o,none⟩)):Row cx U ρ F st w v (cs.drop o):=by
 obtain ⟨x',us,e,hx,htr,hc⟩:=h.get;injection e with e
 injection e with e
 subst e;refine ⟨⟨_,us.drop o,hv,rfl,htr.drop o,λj u hu=> ?_⟩,vvb h.ids o⟩;rw [Ae] at hu;simpa [Ac] using hc _ u hu
theorem Nav.append {P:Program} {S:vaj} {v u t:Value} {p q:List (Nat×Nat×Nat)} (h:Nav P w S v p u) (h2:Nav P w S u q t):Nav P w S v (p++q) t:=by
 induction h with
 |nil v=>exact h2
 |cons g off len cap i m o u v p hc hk hu hs _ ih=>exact .cons g off len cap i m o u _ _ hc hk hu hs (ih h2)
theorem Nav.nil_eq {P:Program} {S:vaj} {v u:Value} {p:List (Nat×Nat×Nat)} (h:Nav P w S v p u) (hp:p= []):u=v:=by
 cases h with
 |nil=>rfl
 |cons=>cases hp
theorem DC.slice {P:Program} {Z:Zn} {e:Nat} {es:List PV} {v:Value} {Fd:vaj} (h:DC P w Z (.sl e es) v Fd):isSliceV v=true:=by
 cases h<;>rfl
theorem qd4 {P:Program} {Z:Zn} {S:vaj} {sh:va2} {e:Nat} {es:List PV} {v:Value} {Fd:vaj} (hd:DC P w Z (.sl e es) v Fd) (hS:∀b o,Fd b o->S b o) {id ver:Nat} {p:List (Nat×Nat×Nat)} (hF:F id=S)
  (hnav:∀e l,sh id=some (ver,e,l)->Nav P w (F id) (ρ id) p v) {i m:Nat} {x:PV} (hx:es[i]? =some x) (hm:x.cells.length=m):
  ∃g off l c us,v= .slice (some ⟨g,off,none⟩) l c/\TRL P w Z ρ F sh (vg2 id ver p i m x) us/\(∀(j:Nat) u,us[j]? =some u->w.cell? ⟨g,off+(i * m+j),none⟩=some u):=by
 cases hd with
 |nil=>simp at hx
 |sl _ _ g off len cap m' fr cur vs Fk _ hl hm' hw hg hfr hlc hcm hsz hc hr hFd hd hd0=>
  have hmm:m'=m:=by rw [<-hm];exact (hw x (Ak hx)).symm
  subst hmm;have hcell:∀j,j<m'->∀c,x.cells[j]? =some c->cur[off+(i * m'+j)]? =some (vs (i * m'+j))/\DC P w Z c (vs (i * m'+j)) (Fk (i * m'+j))/\i * m'+j<(flat es).length:=by
   intro j hj c hcj;have hf:(flat es)[i * m'+j]? =some c:=by rw [vlm hw hx hj];exact hcj
   exact ⟨hc _ _ hf,hr _ _ hf,(Aa.1 hf).1⟩
  refine ⟨g,off,len,cap,(A5 m').map λj=>vs (i * m'+j),rfl,.of (by simp [vg2,hm]) ?_,?_⟩
  ·intro j c u hcj hu;simp only [Al] at hu;simp only [vg2,Al,List.getElem?_zipIdx,Option.map_map] at hcj;cases hxc:x.cells[j]? with
   |none=>simp [hxc] at hcj
   |some y=>
    have hj:j<m':=by have:=(Aa.1 hxc).1;omega
    simp only [hxc,Ai,Function.comp_apply,Ah,Az] at hcj;simp only [An hj,Ai,Ah] at hu;subst hcj hu;obtain ⟨h1,h2,h3⟩:=hcell j hj y hxc;cases y with
    |a v=>cases h2;exact .a _
    |sl e' es'=>
     refine .ri id ver _ _ h2.one λe l hsh=> ?_;have hn:=hnav e l hsh;have hsl:isSliceV (vs (i * m'+j))=true:=h2.slice;have step:Nav P w (F id) (.slice (some ⟨g,off,none⟩) len cap) [(i,m',j)] (vs (i * m'+j)):=
      .cons _ _ _ _ _ _ _ _ _ _ (by rw [vef hg];exact h1)
       (λc1 e1 f1 m1 hb1 hm1=>by
        rw [hg] at hb1;cases hb1;rw [hm'] at hm1;cases hm1;rw [vfk hw] at h3
        rw [hl];exact h3) hsl (by rw [hF];exact hS _ _ ((hFd _ _).2 (.inl rfl))) (.nil _)
     exact hn.append step
    |fz e' es'=>cases h2 with|fz _ _ _ _ hrc _=>exact .sz _ _ _ hrc
    |st cs=>exact .un _
    |un=>exact .un _
  ·intro j u hu;simp only [Al] at hu;cases hj:(A5 m')[j]? with
   |none=>simp [hj] at hu
   |some q=>
    have hlt:j<m':=by have:=(Aa.1 hj).1;simpa using this
    rw [An hlt] at hj;cases hj;simp only [An hlt,Ai,Ah] at hu;subst hu;have hxj:x.cells[j]? =some x.cells[j]:=Ab zo;rw [vef hg];exact (hcell j hlt _ hxj).1
theorem DC.width {P:Program} {Z:Zn} {e:Nat} {es:List PV} {v:Value} {Fd:vaj} (h:DC P w Z (.sl e es) v Fd) {x:PV} (hx:x∈es):va8 P e=some x.cells.length:=by
 cases h with
 |nil=>cases hx
 |sl _ _ g off len cap m' fr cur vs Fk _ hl hm' hw hg hfr hlc hcm hsz hc hr hFd hd hd0=>rw [hm',hw x hx]
theorem DC.at {P:Program} {Z:Zn} {S:vaj}:∀(p:List (Nat×Nat×Nat)) {e:Nat} {es:List PV} {v v':Value} {Fd:vaj} {e':Nat} {es':List PV},DC P w Z (.sl e es) v Fd->dget es p=some (e',es')->Nav P w S v p v'->
  ∃F',DC P w Z (.sl e' es') v' F'/\∀b o,F' b o->Fd b o
 | [],e,es,v,v',Fd,e',es',h,hg,hn=>by simp [dget] at hg
 |(i,m,o)::p,e,es,v,v',Fd,e',es',h,hg,hn=>by
  simp only [dget] at hg;split at hg
  ·cases hg
  ·rename_i x hx;split at hg
   ·rename_i hm;split at hg
    ·rename_i e1 es1 hxo;cases h with
     |nil=>simp at hx
     |sl _ _ g off len cap m' fr cur vs Fk _ hl hm' hw hgc hfr hlc hcm hsz hc hr hFd hd hd0=>
      have hmm:m'=m:=by rw [<-hm];exact (hw x (Ak hx)).symm
      subst hmm;have ho:o<m':=by have:=(Aa.1 hxo).1;omega
      have hf:(flat es)[i * m'+o]? =some (.sl e1 es1):=by rw [vlm hw hx ho];exact hxo
      have hlt:=(Aa.1 hf).1;cases hn with
      |cons _ _ _ _ _ _ _ u _ _ hcu hk hu hS hrest=>
       rw [vef hgc,hc _ _ hf] at hcu;cases hcu;have hD:=hr _ _ hf;split at hg
       ·cases hg;have e0:=hrest.nil_eq rfl;subst e0;exact ⟨_,hD,λb o hb=>(hFd b o).2 (.inr ⟨_,hlt,hb⟩)⟩
       ·obtain ⟨F',h1,h2⟩:=DC.at _ hD hg hrest;exact ⟨F',h1,λb o hb=>(hFd b o).2 (.inr ⟨_,hlt,h2 b o hb⟩)⟩
    ·cases hg
   ·cases hg
theorem vdt (h:G cx U X ρ F st a w) {id:Nat} {q:Bool} {ver e:Nat} {es:List PV} (hn:st.node id=some (.sl q ver e es)):
  DC cx.P w cx.Z (.sl e es) (ρ id) (F id)/\vah st id=some (ver,e,es.length):=by
 have hN:=h.nodes id _ hn;cases hN with
 |sl _ _ _ _ hd=>exact ⟨hd,by unfold vah;rw [hn]⟩
theorem qd2 {id ver i m:Nat} {p:List (Nat×Nat×Nat)} {x:PV} (hU:U id) (hv:ver=0\/U (ver-1)):vap U (vg2 id ver p i m x):=by
 apply vdc;intro c hc;simp only [vg2,A8] at hc;obtain ⟨y,_,rfl⟩:=hc;cases y.1<;>first|trivial|exact ⟨hU,hv⟩
theorem vxk (h:G cx U X ρ F st a w) {wd:Option Nat} {t:Nat} (hw:widthT cx.P t=some wd) {c c':TV} {v:Value} (hc:TR cx.P w cx.Z ρ F (vah st) c v) (hi:idsIn U c) {s1:St}
  (hr:(loadAt wd c).run st=some (c',s1)):s1=st/\∃u,(Instr.loadAt t v).run cx.P w= .ok u w/\TR cx.P w cx.Z ρ F (vah st) c' u/\idsIn U c':=by
 cases c with
 |rf id=>
  obtain ⟨n,s2,h1,h2⟩:=vaa hr;cases vbn h1;split at h2
  ·rename_i z cs hn;obtain ⟨h3,h4⟩:=vdl h2;simp only at h3 h4;subst h4;obtain ⟨b,off,_,_,hr0,_⟩:=vno h hn;have hv:v=ρ id:=by cases hc;rfl
   exact ⟨rfl,vpi (qhr h hn 0 ⟨b,off,hr0,hv.trans hr0⟩) hw (vjg h3)⟩
  ·exact (vac h2).elim
 |ad id o=>
  obtain ⟨n,s2,h1,h2⟩:=vaa hr;cases vbn h1;split at h2
  ·rename_i z cs hn;obtain ⟨h3,h4⟩:=vdl h2;simp only at h3 h4;subst h4;cases hc with
   |ad _ _ b off hr0=>exact ⟨rfl,vpi (qhr h hn o ⟨b,off,hr0,rfl⟩) hw (vjg h3)⟩
  ·exact (vac h2).elim
 |ea id i m o=>
  obtain ⟨n,s2,h1,h2⟩:=vaa hr;cases vbn h1;split at h2
  ·rename_i q ver e es hn;split at h2
   ·rename_i x hx;obtain ⟨h3,h4⟩:=vdl h2;simp only at h3 h4;subst h4;obtain ⟨hd,hsh⟩:=vdt h hn;cases hc with
    |ea _ _ _ _ _ h1 hcl=>
     obtain ⟨g0,off0,l',c0,hr0,hsz,rfl⟩:=hcl ver e _ hsh;have hm:x.cells.length=m:=by
      have:=hd.width (Ak hx);rw [hsz] at this;exact (Bi this).symm
     obtain ⟨g,off,l,c1,us,hv,htr,hcell⟩:=qd4 (ρ:=ρ) (F:=F) (sh:=vah s1) hd (λ_ _ h=>h) (id:=id) (ver:=ver) (p:= []) rfl (λ_ _ _=> .nil _) hx hm;rw [hr0] at hv;injection hv with hv _ _
     injection hv with hv
     injection hv with e1 e2 _
     subst e1 e2;have hR:Row cx U ρ F s1 w (.pointer (some ⟨g0,off0+i * m,none⟩)) (vg2 id ver [] i m x):=⟨⟨_,us,rfl,rfl,htr,λj u hu=>by show w.cell? ⟨g0,off0+i * m+j,none⟩=some u;rw [Ac];exact hcell j u hu⟩,qd2 hi (h.used id _ hn).2⟩
     exact ⟨rfl,vpi (hR.drop o (by rw [<-Ac])) hw (vjg h3)⟩
   ·exact (vac h2).elim
  ·exact (vac h2).elim
 |ei id ver p i m o=>
  obtain ⟨n,s2,h1,h2⟩:=vaa hr;cases vbn h1;split at h2
  ·rename_i q ver' e es hn;split at h2
   ·rename_i hver;subst hver;split at h2
    ·rename_i e' es' hget;split at h2
     ·rename_i x hx;split at h2
      ·rename_i hm;obtain ⟨h3,h4⟩:=vdl h2;simp only at h3 h4;subst h4;obtain ⟨hd,hsh⟩:=vdt h hn;cases hc with
       |ei _ _ _ _ _ _ _ h1 hcl=>
        obtain ⟨g0,off0,l',c0,hnav,rfl⟩:=hcl e _ hsh;obtain ⟨F',hd',hsub⟩:=hd.at p hget hnav;obtain ⟨g,off,l,c1,us,hv,htr,hcell⟩:=qd4 (ρ:=ρ) (F:=F) (sh:=vah s1) hd' hsub (id:=id) (ver:=ver') (p:=p) rfl
         (λe1 l1 hs=>by rw [hsh] at hs;cases hs;exact hnav) hx hm
        injection hv with hv _ _
        injection hv with hv
        injection hv with e1 e2 _
        subst e1 e2;have hR:Row cx U ρ F s1 w (.pointer (some ⟨g0,off0+i * m,none⟩)) (vg2 id ver' p i m x):=⟨⟨_,us,rfl,rfl,htr,λj u hu=>by show w.cell? ⟨g0,off0+i * m+j,none⟩=some u;rw [Ac];exact hcell j u hu⟩,qd2 hi.1 hi.2⟩
        exact ⟨rfl,vpi (hR.drop o (by rw [<-Ac])) hw (vjg h3)⟩
      ·exact (vac h2).elim
     ·exact (vac h2).elim
    ·exact (vac h2).elim
   ·exact (vac h2).elim
  ·exact (vac h2).elim
 |ez cs o=>
  obtain ⟨h3,h4⟩:=vdl hr;simp only at h3 h4;subst h4;cases hc with
  |ez _ _ x hx vs hcl=>
   have hget:∀j c,(cs.drop o)[j]? =some c->cs[o+j]? =some c:=λj c hj=>by rwa [Ae] at hj
   refine ⟨rfl,vpi (cs:=(cs.map ofFrozen).drop o) ⟨⟨x,(A5 (cs.drop o).length).map vs,rfl,hx,.of (by simp) ?_,?_⟩,?_⟩ hw (vjg h3)⟩
   ·intro j c u hj hu;rw [Ae,Al] at hj;cases hcj:cs[o+j]? with
    |none=>simp [hcj] at hj
    |some y=>
     have hlt:j<(cs.drop o).length:=by have:=(Aa.1 hcj).1;simp;omega
     simp only [Al,An hlt,Ai,Ah] at hu;simp only [hcj,Ai,Ah] at hj;subst hj hu;obtain ⟨_,_,hrc⟩:=hcl j y hcj;cases y with
     |a u=>cases hrc;exact .a _
     |sl e es=>exact .sz e es _ hrc
     |fz e es=>exact .sz e es _ hrc.ofFz
     |st cs=>exact .un _
     |un=>exact .un _
   ·intro j u hu;simp only [Al] at hu;cases hj:(A5 (cs.drop o).length)[j]? with
    |none=>simp only [hj,Option.map_none] at hu;cases hu
    |some q=>
     have hlt:j<(cs.drop o).length:=by have:=(Aa.1 hj).1;simpa using this
     rw [An hlt] at hj;cases hj;simp only [An hlt,Ai,Ah] at hu;subst hu;exact (hcl j _ (hget j _ (Ab hlt))).1
   ·apply vdc;intro c hc;obtain ⟨y,_,rfl⟩:=A8.1 (Ap hc);cases y<;>trivial
 |_=>exact (vac hr).elim
theorem qd7 (h:G cx U X ρ F st a w) {b:Nat} {o:Oper} {d:Nat} (ho:o.dst=some d) (hd:d<cx.n) {t t':TypeId} {x:Operand} {x':Opd} {wd:Option Nat} (hop:o.op= .load t x)
  (hw:widthT cx.P t=some wd) (hx:cOpd cx.P t' x=some x') {s1:St} (hr:((opd x').bind λv=>(loadAt wd v).bind (setS d)).run st=some ((),s1)):Now cx U b o s1 a w:=by
 obtain ⟨c,s2,h1,h2⟩:=vaa hr;obtain ⟨rfl,g1,i1⟩:=vbw h hx h1;obtain ⟨c',s3,h3,h4⟩:=vaa h2;obtain ⟨rfl,u,hrun,htr,hi⟩:=vxk h hw g1 i1 h3;cases vbd h4;refine vbq h ho hd ?_ htr hi;unfold execOp;rw [hop];simp only [Sem.run_bind,hrun,Result.andThen_ok,Sem.run_pure]
theorem qir (h:G cx U X ρ F st a w) {b:Nat} {o:Oper} {d:Nat} (ho:o.dst=some d) (hd:d<cx.n) {t t':TypeId} {x:Operand} {x':Opd} (hop:o.op= .load t x)
  (hw:widthT cx.P t=some none) (hx:cOpd cx.P t' x=some x') {s1:St} (hr:((opd x').bind λv=>(loadAt none v).bind (atomS d)).run st=some ((),s1)):Now cx U b o s1 a w:=by
 obtain ⟨c,s2,h1,h2⟩:=vaa hr;obtain ⟨rfl,g1,i1⟩:=vbw h hx h1;obtain ⟨c',s3,h3,h4⟩:=vaa h2;obtain ⟨rfl,u,hrun,htr,hi⟩:=vxk h hw g1 i1 h3;unfold atomS at h4;split at h4
 ·cases vbd h4;refine vbq h ho hd ?_ htr hi;unfold execOp;rw [hop];simp only [Sem.run_bind,hrun,Result.andThen_ok,Sem.run_pure]
 ·exact (vac h4).elim
theorem qs2 (h:G cx U X ρ F st a w) {c:TV} {v:Value} (hc:TR cx.P w cx.Z ρ F (vah st) c v):
  (∀id z cs,c= .rf id->st.node id=some (.bx z cs)->∃x,v= .pointer (some x)/\x.spot=none):=by
 rintro id z cs rfl hn
 obtain ⟨b,off,_,_,hr0,_⟩:=vno h hn;have hv:v=ρ id:=by cases hc;rfl
 exact ⟨_,hv.trans hr0,rfl⟩
theorem qbh (h:G cx U X ρ F st a w) {b:Nat} {o:Oper} {d:Nat} (ho:o.dst=some d) (hd:d<cx.n) {t:Nat} {x:Operand} {x':Opd} (hop:o.op= .nilCheck x)
  (hx:cOpd cx.P t x=some x') {s1:St}
  (hr:((opd x').bind λv=>match v with
   | .rf id=>(getN id).bind λn=>match n with
    |some (.bx _ _)=>setS d v
    |_=> .fail
   | .ad _ _=>setS d v
   | .ea id _ _ _=>(getN id).bind λn=>match n with
    |some (.sl _ _ _ _)=>setS d v
    |_=> .fail
   | .ez _ _=>setS d v
   | .fn _ _ _=>setS d v
   | .ic _ _=>setS d v
   |_=> .fail).run st=some ((),s1)):Now cx U b o s1 a w:=by
 obtain ⟨c,s2,h1,h2⟩:=vaa hr;obtain ⟨rfl,g1,i1⟩:=vbw h hx h1
 have go:∀v,a.eval x=v->(execOp a.eval o).run cx.P w=(match v with
   | .pointer none| .nilIface| .nilFunc=>runtimePanic .nilDeref
   | .func (.method name) first captured=>
    match (first[0]? :Option Value) with
    |some .nilIface=>runtimePanic .nilDeref
    |some (.iface t w)=>do
     if (<-nilAhead ((<-program).types.size+Made.depth) t w name) !=some false then
      unsupported (.noEntry "op/nilCheck.the method's receiver behind this interface value is a nil pointer, or cannot be seen to be none, and the arguments act or may panic (ledger 612)")
     pure (.value (.func (.method name) first captured))
    |_=>pure (.value (.func (.method name) first captured))
   |x=>pure (.value x):Sem Next).run cx.P w:=by
  intro v hv;subst hv;unfold execOp;rw [hop];rfl
 have plain:∀v,a.eval x=v->(∃y,v= .pointer (some y))->(execOp a.eval o).run cx.P w= .ok (.value v) w:=by
  rintro v hv ⟨y,rfl⟩;rw [go _ hv];rfl
 generalize hu:a.eval x=v at g1;split at h2
 ·rename_i id;obtain ⟨n,s3,h3,h4⟩:=vaa h2;cases vbn h3;split at h4
  ·rename_i z cs hn;cases vbd h4;obtain ⟨y,hy,_⟩:=qs2 h g1 id z cs rfl hn;exact vbq h ho hd (plain v hu ⟨y,hy⟩) g1 i1
  ·exact (vac h4).elim
 ·cases vbd h2;refine vbq h ho hd (plain v hu ?_) g1 i1;cases g1;exact ⟨_,rfl⟩
 ·rename_i id _ _ _;obtain ⟨n,s3,h3,h4⟩:=vaa h2;cases vbn h3;split at h4
  ·rename_i q ver e es hn;cases vbd h4;refine vbq h ho hd (plain v hu ?_) g1 i1;cases g1 with
   |ea _ _ _ _ _ h1 hcl=>
    obtain ⟨g0,_,_,_,_,_,rfl⟩:=hcl ver e _ (vdt h hn).2;exact ⟨_,rfl⟩
  ·exact (vac h4).elim
 ·cases vbd h2;refine vbq h ho hd (plain v hu ?_) g1 i1;cases g1;exact ⟨_,rfl⟩
 ·cases vbd h2;cases g1 with
  |fn f fs cs xs us hx hl hf hc=>exact vbq h ho hd (by rw [go _ hu];rfl) (.fn _ _ _ xs us hx hl hf hc) i1
 ·cases vbd h2;cases g1 with
  |ic t c u hc=>exact vbq h ho hd (by rw [go _ hu];rfl) (.ic _ _ _ hc) i1
 ·exact (vac h2).elim
theorem vtv {P:Program} {s f:Nat} {fd:Field} (h:fieldT P s f=some fd) (h0:(va8 P fd.type).any (0<·)=true) {x:Addr} (hx:x.spot=none) (w:World):
  (Instr.fieldAt s (.pointer (some x)) f).run P w= .ok (.pointer (some ⟨x.block,x.off+fd.offset,none⟩)) w:=by
 unfold fieldT und at h;split at h
 ·rename_i fs hu;cases hs:va8 P fd.type with
  |none=>rw [hs] at h0;cases h0
  |some n=>
   rw [hs] at h0;have hn:n≠0:=by simp at h0;omega
   simp only [Instr.fieldAt,underlying,Sem.run_bind,run_program,Result.andThen_ok,hu,Sem.run_pure,h,Instr.sureAddr,fieldPlace,vhf hs w,hn,if_false,vhx hx]
 ·cases h
theorem qjg (h:G cx U X ρ F st a w) {b:Nat} {o:Oper} {d:Nat} (ho:o.dst=some d) (hd:d<cx.n) {s f t:Nat} {x:Operand} {x':Opd} {fd:Field} (hop:o.op= .fieldAddr s x f)
  (hf:fieldT cx.P s f=some fd) (h0:(va8 cx.P fd.type).any (0<·)=true) (hx:cOpd cx.P t x=some x') {s1:St}
  (hr:((opd x').bind λv=>(fieldAt fd.offset v).bind (setS d)).run st=some ((),s1)):Now cx U b o s1 a w:=by
 obtain ⟨c,s2,h1,h2⟩:=vaa hr;obtain ⟨rfl,g1,i1⟩:=vbw h hx h1;obtain ⟨c',s3,h3,h4⟩:=vaa h2;have go:∀{y:Addr},a.eval x= .pointer (some y)->y.spot=none->(execOp a.eval o).run cx.P w= .ok (.value (.pointer (some ⟨y.block,y.off+fd.offset,none⟩))) w:=by
  intro y hy hs;unfold execOp;rw [hop];simp only [hy,Sem.run_bind,vtv hf h0 hs w,Result.andThen_ok,Sem.run_pure]
 generalize hu:a.eval x=v at g1;cases c with
 |rf id=>
  obtain ⟨n,s4,h5,h6⟩:=vaa h3;cases vbn h5;split at h6
  ·rename_i z cs hn;cases run_pure h6;cases vbd h4;obtain ⟨b',off,_,_,hr0,_⟩:=vno h hn;have hv:v=ρ id:=by cases g1;rfl
   exact vbq h ho hd (go (hu.trans (hv.trans hr0)) rfl) (.ad id fd.offset b' off hr0) i1
  ·exact (vac h6).elim
 |ad id q=>
  cases run_pure h3;cases vbd h4;cases g1 with
  |ad _ _ b' off hr0=>
   refine vbq h ho hd (go hu rfl) (c:= .ad id (q+fd.offset)) ?_ i1;simp only [Ac];exact .ad id (q+fd.offset) b' off hr0
 |ea id i m q=>
  obtain ⟨n,s4,h5,h6⟩:=vaa h3;cases vbn h5;split at h6
  ·rename_i qq ver e es hn;cases run_pure h6;cases vbd h4;cases g1 with
   |ea _ _ _ _ _ h1 hcl=>
    obtain ⟨g0,off0,l',c0,hr0,hsz,rfl⟩:=hcl ver e _ (vdt h hn).2;refine vbq h ho hd (go hu rfl) (.ea id i m (q+fd.offset) _ rfl λver' e' l hs=> ?_) i1;obtain ⟨g1,off1,l1,c1,hr1,hsz1,he⟩:=hcl ver' e' l hs;rw [hr0] at hr1;cases hr1;exact ⟨g0,off0,l',c0,hr0,hsz1,by rw [Ac,Ac]⟩
  ·exact (vac h6).elim
 |ei id ver p i m q=>
  obtain ⟨n,s4,h5,h6⟩:=vaa h3;cases vbn h5;split at h6
  ·rename_i qq ver' e es hn;split at h6
   ·rename_i hver;subst hver;cases run_pure h6;cases vbd h4;cases g1 with
    |ei _ _ _ _ _ _ _ h1 hcl=>
     obtain ⟨g0,off0,l',c0,hnav,rfl⟩:=hcl e _ (vdt h hn).2;refine vbq h ho hd (go hu rfl) (.ei id _ p i m (q+fd.offset) _ rfl λe' l hs=> ?_) i1;rw [(vdt h hn).2] at hs;cases hs;exact ⟨g0,off0,l',c0,hnav,by rw [Ac,Ac]⟩
   ·exact (vac h6).elim
  ·exact (vac h6).elim
 |ez cs q=>
  cases run_pure h3;cases vbd h4;cases g1 with
  |ez _ _ y hy vs hcl=>
   refine vbq h ho hd (go hu hy) (.ez cs (q+fd.offset) _ rfl (λj=>vs (fd.offset+j)) λj c hj=> ?_) i1;have:=hcl (fd.offset+j) c (by rw [<-Ac];exact hj);rw [<-Ac] at this;exact this
 |_=>exact (vac h3).elim
theorem qjt (h:G cx U X ρ F st a w) {b:Nat} {o:Oper} {d:Nat} (ho:o.dst=some d) (hd:d<cx.n) {s f t:Nat} {x:Operand} {x':Opd} {fd:Field} {wd:Option Nat} (hop:o.op= .field s x f)
  (hf:fieldT cx.P s f=some fd) (hw:widthT cx.P fd.type=some wd) (hx:cOpd cx.P t x=some x') {s1:St}
  (hr:((opd x').bind λv=>match v with| .st cs=>(liftO (vbi cs fd.offset wd)).bind (setS d)|_=> .fail).run st=some ((),s1)):Now cx U b o s1 a w:=by
 obtain ⟨c,s2,h1,h2⟩:=vaa hr;obtain ⟨rfl,g1,i1⟩:=vbw h hx h1;split at h2
 ·rename_i cs;obtain ⟨c',s3,h3,h4⟩:=vaa h2;obtain ⟨hp,rfl⟩:=vdl h3;simp only at hp h4;cases vbd h4;generalize hu:a.eval x=v at g1;cases g1 with
  |st _ us hl hc=>
   obtain ⟨p1,p2,p3⟩:=vtu (us:=us.toList) (λi c u h1 h2=>hc i c u h1 (by simpa using h2)) (by simp [hl]) i1 hp;have run0:∀u,(part fd.type us fd.offset).run cx.P w= .ok u w->(execOp a.eval o).run cx.P w= .ok (.value u) w:=by
    intro u hu';unfold fieldT und at hf;split at hf
    ·rename_i fs hus;unfold execOp;rw [hop];simp only [hu,Instr.field,underlying,Sem.run_bind,run_program,Result.andThen_ok,hus,Sem.run_pure,hf,asAgg,hu']
    ·cases hf
   obtain ⟨k1,k2⟩:=vvd hw w;cases wd with
   |none=>
    obtain ⟨u,hu1,htu⟩:=p2 rfl;refine vbq h ho hd (run0 u ?_) htu p3;have:us[fd.offset]? =some u:=by simpa using hu1
    simp only [part,Sem.run_bind,k2 rfl,Result.andThen_ok,Aq,if_false,this,Sem.run_pure]
   |some n=>
    obtain ⟨hlen,htu⟩:=p1 n rfl;obtain ⟨k3,k4⟩:=k1 n rfl;refine vbq h ho hd (run0 _ ?_) htu p3;simp only [part,Sem.run_bind,k3,Result.andThen_ok,if_true,vhf k4 w,Sem.run_pure];congr 2;apply Array.ext';simp [Array.toList_extract]
 ·exact (vac h2).elim
theorem Kept.setRow {w:World} {g:Nat} {cur cur':Array Value} {t:TypeId} {fr:Nat×Nat} (hg:w.heap[g]? =some (.cells cur t fr)) (hs:cur'.size=cur.size) {M:vaj} (hM:∀k,¬M g k->cur'[k]? =cur[k]?):
  Kept w (w.setRow g cur') M:=by
 refine ⟨rfl,rfl,rfl,by simp,?_,?_⟩
 ·intro b c e fr hb;by_cases e0:b=g
  ·subst e0;rw [hg] at hb;cases hb;exact ⟨cur',setRow_heap w b _ cur' _ _ hg,hs,hM⟩
  ·exact ⟨c,(setRow_other w g b cur' e0).trans hb,rfl,λ_ _=>rfl⟩
 ·intro b x hb hx;by_cases e0:b=g
  ·subst e0;rw [hg] at hb;cases hb;exact absurd rfl (hx _ _ _)
  ·exact (setRow_other w g b cur' e0).trans hb
theorem TR.one {P:Program} {Z:Zn} {sh:va2} {c:TV} {v:Value} (h:TR P w Z ρ F sh c v) (hone:∀i,one1 (ρ i)=true) (hc:c.one=true):one1 v=true:=by
 cases h with
 |a v=>exact hc
 |rf id=>exact hone id
 |ri _ _ _ _ h1=>exact h1
 |sb _ _ _ _ h1=>exact h1
 |ea _ _ _ _ _ h1=>exact h1
 |ei _ _ _ _ _ _ _ h1=>exact h1
 |sz _ _ _ h=>exact h.one
 |st=>cases hc
 |tp=>cases hc
 |un=>cases hc
 |_=>rfl
theorem TRL.all_one {P:Program} {Z:Zn} {sh:va2} {cs:List TV} {vs:List Value} (h:TRL P w Z ρ F sh cs vs) (hone:∀i,one1 (ρ i)=true) (hc:cs.all TV.one=true):∀v∈vs,v.oneCell'=true:=by
 induction h with
 |nil=>intro v hv;cases hv
 |cons h hs ih=>
  simp only [Bl,Aw] at hc;intro v hv;cases hv with
  |head=>rw [<-vrc];exact h.one hone hc.1
  |tail _ hv=>exact ih hc.2 v hv
theorem vi2 (P:Program) (g o:Nat) (t:TypeId) (fz:Nat×Nat):∀(vs:List Value) (i:Nat) (cur:Array Value) (w:World),w.heap[g]? =some (.cells cur t fz)->NoFz fz cur.size->o+i+vs.length<=cur.size->(∀v∈vs,v.oneCell'=true)->
  (storeCells ⟨g,o,none⟩ vs i).run P w= .ok () (w.setRow g (cur.toList.take (o+i)++vs++cur.toList.drop (o+i+vs.length)).toArray)
 | [],i,cur,w,hg,_,_,_=>by
  simp only [storeCells,List.append_nil,Bj,Ba,List.take_append_drop,A6];rw [setRow_self w g cur t fz hg];rfl
 |v::rest,i,cur,w,hg,hfz,hl,h1=>by
  have hi:o+i<cur.size:=by simp at hl;omega
  have hadd:(⟨g,o,none⟩:Addr).add i=⟨g,o+i,none⟩:=by unfold Addr.add;split<;>simp_all
  have hcell:w.cell? ⟨g,o+i,none⟩=some cur[o+i]:=by simp [World.cell?,hg,hi]
  have hfro:w.frozen? ⟨g,o+i,none⟩=false:=by
   have:=hfz (o+i) hi;obtain ⟨lo,hi'⟩:=fz;simp only [World.frozen?,hg,Bool.and_eq_false_iff,decide_eq_false_iff_not];simp only at this;omega
  have hst:(store ((⟨g,o,none⟩:Addr).add i) v).run P w= .ok () (w.setRow g (cur.setIfInBounds (o+i) v)):=by
   rw [hadd,run_store P w _ v _ (h1 v (by simp)),hcell];simp [hfro,setCell_eq_setRow w g (o+i) cur t fz v hg]
  have ih:=vi2 P g o t fz rest (i+1) (cur.setIfInBounds (o+i) v) (w.setRow g (cur.setIfInBounds (o+i) v)) (setRow_heap w g cur _ t _ hg) (hfz.eq (by simp)) (by simp at hl⊢;omega) (λx hx=>h1 x (by simp [hx]));simp only [storeCells,Sem.run_bind,hst,Result.andThen_ok,ih,setRow_setRow];congr 3;have e:=list_seg_step cur.toList (o+i) v rest (by simp at hl⊢;omega);simpa [Array.toList_setIfInBounds,Ac] using e
theorem vtt {P:Program} {t n:Nat} (hn:va8 P t=some n) {g o:Nat} {cur:Array Value} {e:TypeId} {fr:Nat×Nat} (hg:w.heap[g]? =some (.cells cur e fr)) (hfr:NoFz fr cur.size) {v:Value} (hl:v.cells.size=n) (hfit:o+n<=cur.size)
  (h1:∀u∈v.cells.toList,u.oneCell'=true):
  (Instr.storeAt t (.pointer (some ⟨g,o,none⟩)) v).run P w= .ok () (w.setRow g (cur.toList.take o++v.cells.toList++cur.toList.drop (o+v.cells.toList.length)).toArray):=by
 have:=vi2 P g o e fr v.cells.toList 0 cur w hg hfr (by simp only [Ag];omega) h1;simp only [Ba] at this;simp only [Instr.storeAt,Instr.sureAddr,storeVar,Sem.run_bind,Sem.run_pure,Result.andThen_ok,vhf hn w,Sem.run_ite];rw [if_neg zo];exact this
theorem vmw {g o:Nat} {cur:Array Value} {e:TypeId} {fr:Nat×Nat} (hg:w.heap[g]? =some (.cells cur e fr)) {vs:List Value} (hfit:o+vs.length<=cur.size):
  Kept w (w.setRow g (cur.toList.take o++vs++cur.toList.drop (o+vs.length)).toArray) (λb k=>b=g/\o<=k/\k<o+vs.length):=by
 refine Kept.setRow hg (by simp;omega) λk hk=> ?_;have:=vic cur.toList vs o k (by simpa using hfit);rw [if_neg (λh=>hk ⟨rfl,h.1,h.2⟩)] at this;simpa using this
theorem vt1 {st:St} {id:Nat} {z z':Bool} {cs cs':List TV} (hn:st.node id=some (.bx z cs)):vah (st.setNode id (some (.bx z' cs')))=vah st:=by
 funext j;by_cases e:j=id
 ·subst e;unfold vah;rw [St.setNode_node,if_pos rfl,hn]
 ·exact ve2 st _ e
theorem G.setBox (h:G cx U X ρ F st a w) {id:Nat} {cs ys:List TV} (hn:st.node id=some (.bx false cs)) {o:Nat} {vs:List Value} (hy:TRL cx.P w cx.Z ρ F (vah st) ys vs) (hi:vap U ys) (hfit:o+ys.length<=cs.length):
  ∃b off cur t,ρ id= .pointer (some ⟨b,off,none⟩)/\w.heap[b]? =some (.cells cur t (0,0))/\off+o+vs.length<=cur.size/\
   G cx U X ρ F (st.setNode id (some (.bx false (cs.take o++ys++cs.drop (o+ys.length))))) a (w.setRow b (cur.toList.take (off+o)++vs++cur.toList.drop (off+o+vs.length)).toArray):=by
 have hs:(st.node id).isSome=true:=by rw [hn];rfl
 obtain ⟨b,off,cur,t,hr,hb,hsz,htr,hii,hF,_⟩:=vno h hn;have hvl:=hy.length;have hfit':off+o+vs.length<=cur.size:=zo
 refine ⟨b,off,cur,t,hr,hb,hfit',?_⟩;have hk:=vmw (o:=off+o) (vs:=vs) hb hfit';have hMF:∀b' k,(b'=b/\off+o<=k/\k<off+o+vs.length)->F id b' k:=λb' k hk=>(hF b' k).2 ⟨rfl,hk.1,zo,zo⟩;have hzs:=vst cx hk λb' k hm=>(h.mine id hs b' k (hMF b' k hm)).1;have hapart:∀j,j≠id->(st.node j).isSome=true->Apart (F j) (λb' k=>b'=b/\off+o<=k/\k<off+o+vs.length):=
  λj hj hjs b' k hf hm=>h.apart j id hj hjs hs b' k hf (hMF b' k hm)
 have htrs:∀{c:TV} {v:Value},TR cx.P w cx.Z ρ F (vah st) c v->idsIn U c->TR cx.P (w.setRow b (cur.toList.take (off+o)++vs++cur.toList.drop (off+o+vs.length)).toArray) cx.Z ρ F (vah st) c v:=by
  intro c v hc hu;refine hc.mono hu hzs (λ_ _=>rfl) (.refl _ _) λj _ ver e l hsh _=> .of hk.ty λb' k hf=>⟨hf,λy hy _=> ?_⟩
  have hj:j≠id:=by
   rintro rfl
   unfold vah at hsh;rw [hn] at hsh;cases hsh
  exact (hk.same (hapart j hj (vma (by rw [hsh];simp)) b' k hf)).cell hy
 have:=h.update (U':=U) (id:=id) (o:=some (.bx false (cs.take o++ys++cs.drop (o+ys.length)))) (v':=ρ id) (Fn:=F id) (X':=X)
  (λ_ h=>h) hk (λb' k hm=>(h.mine id hs b' k (hMF b' k hm)).1) (λb' k hm hlt=>((h.mine id hs b' k (hMF b' k hm)).2).resolve_right zo) hapart (λ_=>rfl) (h.one id)
  (by rw [vt1 hn];exact .refl _ _) (λ_ ver e l hsh=>by rw [vt1 hn] at hsh;unfold vah at hsh;rw [hn] at hsh;cases hsh)
  (by
   intro n hnn;cases hnn;refine ⟨?_,(h.used id _ hn).1,vwx hii hi _ _⟩;rw [vd6,vd6,vt1 hn];have hlen:(cs.take o++ys++cs.drop (o+ys.length)).length=cs.length:=by simp;omega
   refine .bx false _ b off _ t hr (setRow_heap w b _ _ _ _ hb) (by rw [hlen];simp;omega) ?_ ?_ (λb' k=>by rw [hlen];exact hF b' k) (by simp)
   ·intro e;rw [e] at hlen;have:=hsz;simp at hlen;have hNR:=h.nodes id _ hn;cases hNR with
    |bx _ _ _ _ _ _ _ _ _ hne=>exact hne (Am hlen.symm)
   ·intro i c hc u hu;rw [vic _ _ _ _ hfit] at hc;have hu':(cur.toList.take (off+o)++vs++cur.toList.drop (off+o+vs.length))[off+i]? =some u:=by simpa using hu
    rw [vic _ _ _ _ (by simpa using hfit')] at hu';split at hc
    ·rename_i hin;rw [if_pos zo] at hu';have e:off+i-(off+o)=i-o:=zo
     rw [e] at hu';exact htrs (hy.get _ c u hc hu') (vbm hi hc)
    ·rename_i hin;rw [if_neg zo] at hu';refine htrs (htr.get i c u hc ?_) (vbm hii hc);have hlt:=(Aa.1 hc).1;rw [Aj,if_pos hlt,Ae]
     exact hu')
  (λ_=>⟨h.mine id hs,λj hj hjs=>h.apart j id hj hjs hs,h.apartX id hs⟩)
  (λb' k hx=>by
   obtain ⟨h1,h2,h3⟩:=h.mineX b' k hx
   exact ⟨h1,h2,Bb h3 hk.size⟩)
  (λj _ hjs=>h.apartX j hjs)
 rw [vd6,vd6] at this;exact this
theorem qkp {P:Program} {Z:Zn} {sh:va2} {c:TV} {v:Value} (h:TR P w Z ρ F sh c v) (hone:∀i,one1 (ρ i)=true) (hc:c.cells.all TV.one=true):TRL P w Z ρ F sh c.cells v.cells.toList:=by
 cases hr:c.row with
 |some cs=>
  obtain ⟨h1,h2⟩:=h.row hone hr;rw [h2];exact h1
 |none=>
  cases c with
  |a u=>
   simp only [TV.cells,Bl,TV.one,List.all_nil,Bool.and_true] at hc;simp [TV.row,hc] at hr
  |tp cs=>simp [TV.cells,TV.one] at hc
  |un=>simp [TV.cells,TV.one] at hc
  |_=>cases hr
theorem vu9 (h:G cx U X ρ F st a w) {n t:Nat} (hn:va8 cx.P t=some n) {id o:Nat} {c:TV} {v p:Value} (hc:TR cx.P w cx.Z ρ F (vah st) c v) (hi:idsIn U c)
  (hp:∀b off,ρ id= .pointer (some ⟨b,off,none⟩)->p= .pointer (some ⟨b,off+o,none⟩)) {s1:St} (hr:(storeBox n id o c).run st=some ((),s1)):
  ∃w',(Instr.storeAt t p v).run cx.P w= .ok () w'/\G cx U X ρ F s1 a w':=by
 obtain ⟨nd,s2,h1,h2⟩:=vaa hr;cases vbn h1;split at h2
 ·rename_i cs hnd;split at h2
  ·rename_i hcond;obtain ⟨hlen,hfit,hall⟩:=hcond;cases vby h2;have htr:=qkp hc h.one hall;obtain ⟨b,off,cur,t',hr0,hb,hsz,hG⟩:=h.setBox hnd htr (viw hi) (o:=o) zo;have hvl:v.cells.size=n:=by rw [<-Ag,htr.length,hlen]
   rw [hp b off hr0];refine ⟨_,vtt hn hb (NoFz.zero _) hvl (by simp only [Ag] at hsz;omega) (htr.all_one h.one hall),?_⟩;rw [hlen] at hG;exact hG
  ·exact (vac h2).elim
 ·exact (vac h2).elim
def Or (X:vaj) (n:Nat) (Gk:Nat->vaj):vaj:=λb o=>X b o\/∃j,j<n/\Gk j b o
theorem vm3 (st:St) (id:Nat):ShapeKept U (vah st) (vah (st.setNode id none)):=by
 intro j _ ver e l hj;by_cases ej:j=id
 ·subst ej;unfold vah at hj;rw [St.setNode_node,if_pos rfl] at hj;cases hj
 ·rw [ve2 st none ej] at hj;exact ⟨ver,hj,λ_=>rfl⟩
theorem ShapeKept.trans {s1 s2 s3:va2} (h:ShapeKept U s1 s2) (h':ShapeKept U s2 s3):ShapeKept U s1 s3:=by
 intro id hu ver e l hs;obtain ⟨v2,h2,k2⟩:=h' id hu ver e l hs;obtain ⟨v1,h1,k1⟩:=h id hu v2 e l h2;exact ⟨v1,h1,λhv=>by have:=k2 hv;subst this;exact k1 hv⟩
theorem TR.shape {P:Program} {Z:Zn} {sh sh':va2} {c:TV} {v:Value} (h:TR P w Z ρ F sh c v) (hi:idsIn U c) (hs:ShapeKept U sh sh'):TR P w Z ρ F sh' c v:=
 h.mono hi (λ_ _ _ cur _ _ h=>⟨cur,h,rfl,rfl⟩) (λ_ _=>rfl) hs λ_ _ _ _ _ _ _ _ _ h=>h
theorem qdv (h:G cx U X ρ F st a w) {c:TV} {v:Value} (hc:TR cx.P w cx.Z ρ F (vah st) c v) {r:PV×Bool} {s1:St} (hr:(toPV c).run st=some (r,s1)):
  ∃Fp,DC cx.P w cx.Z r.1 v Fp/\r.1.cells= [r.1]/\G cx U (λb o=>X b o\/Fp b o) ρ F s1 a w/\Apart Fp X/\ShapeKept U (vah st) (vah s1):=by
 have noX:G cx U (λb o=>X b o\/(λ_ _=>False:vaj) b o) ρ F st a w:=h.less λb o hx=>hx.resolve_right id;cases c with
 |a u=>
  simp only [toPV] at hr;split at hr
  ·rename_i h1;cases run_pure hr;cases hc;exact ⟨λ_ _=>False,.a _ _ h1 (λ_ _ h=>h),rfl,noX,λ_ _ h=>h.elim,.refl _ _⟩
  ·exact (vac hr).elim
 |nl e=>
  cases run_pure hr;cases hc with
  |nl _ m hm=>exact ⟨λ_ _=>False,.nil _ m _ hm (λ_ _ h=>h),rfl,noX,λ_ _ h=>h.elim,.refl _ _⟩
 |sz e es=>
  cases run_pure hr;cases hc with
  |sz _ _ _ hrc=>exact ⟨λ_ _=>False,.fz _ _ _ _ hrc (λ_ _ h=>h),rfl,noX,λ_ _ h=>h.elim,.refl _ _⟩
 |rf id=>
  obtain ⟨nd,s2,h1,h2⟩:=vaa hr;cases vbn h1;split at h2
  ·rename_i q ver e es hn;obtain ⟨_,s3,h3,h4⟩:=vaa h2;cases vby h3;cases run_pure h4;obtain ⟨hd,_⟩:=vdt h hn;have hv:v=ρ id:=by cases hc;rfl
   rw [hv];exact ⟨F id,hd,rfl,h.drop hn hd.inside,h.apartX id (by rw [hn];rfl),vm3 st id⟩
  ·exact (vac h2).elim
 |_=>exact (vac hr).elim
structure Parts (cx:Cx) (w:World) (X:vaj) (ys:List PV) (us:List Value) (Gk:Nat->vaj):Prop where
 len:us.length=ys.length
 dc:∀(j:Nat) c u,ys[j]? =some c->us[j]? =some u->DC cx.P w cx.Z c u (Gk j)
 cells:∀y∈ys,y.cells= [y]
 apart:∀j k,j<ys.length->k<ys.length->j≠k->Apart (Gk j) (Gk k)
 apartX:∀j,j<ys.length->Apart (Gk j) X
theorem qbo {cs:List TV}:∀{X:vaj} {st:St} {vs:List Value} {r:List PV×Bool} {s1:St},G cx U X ρ F st a w->TRL cx.P w cx.Z ρ F (vah st) cs vs->vap U cs->(toPVs cs).run st=some (r,s1)->
  ∃Gk,Parts cx w X r.1 vs Gk/\G cx U (Or X r.1.length Gk) ρ F s1 a w/\ShapeKept U (vah st) (vah s1):=by
 induction cs with
 |nil=>
  intro X st vs r s1 h hc hi hr;cases run_pure hr;cases hc;exact ⟨λ_ _ _=>False,⟨rfl,by simp,by simp,by simp,by simp⟩,h.less λb o hx=>hx.resolve_right (by simp),.refl _ _⟩
 |cons c cs ih=>
  intro X st vs r s1 h hc hi hr;cases hc with
  | @cons _ v _ vs' h1 hs=>
   obtain ⟨y,s2,h2,h3⟩:=vaa hr;obtain ⟨ys,s3,h4,h5⟩:=vaa h3;cases run_pure h5;obtain ⟨Fp,d1,d2,d3,d4,d5⟩:=qdv h h1 h2;have hs':TRL cx.P w cx.Z ρ F (vah s2) cs vs':= .of hs.length λi c u hci hu=>(hs.get i c u hci hu).shape (vbm hi.2 hci) d5;obtain ⟨Gk,p,g,k⟩:=ih d3 hs' hi.2 h4;refine ⟨λj=>match j with|0=>Fp|j+1=>Gk j,⟨by simp [p.len],?_,?_,?_,?_⟩,?_,d5.trans k⟩
   ·intro j c u hj hu;cases j with
    |zero=>simp at hj hu;subst hj hu;exact d1
    |succ j=>exact p.dc j c u (by simpa using hj) (by simpa using hu)
   ·intro y' hy;cases hy with
    |head=>exact d2
    |tail _ hy=>exact p.cells y' hy
   ·intro j k hj hk hjk;cases j with
    |zero=>
     cases k with
     |zero=>exact absurd rfl hjk
     |succ k=>exact λb o hf hg=>p.apartX k (by simpa using hk) b o hg (.inr hf)
    |succ j=>
     cases k with
     |zero=>exact λb o hf hg=>p.apartX j (by simpa using hj) b o hf (.inr hg)
     |succ k=>exact p.apart j k (by simpa using hj) (by simpa using hk) zo
   ·intro j hj;cases j with
    |zero=>exact d4
    |succ j=>exact λb o hf hx=>p.apartX j (by simpa using hj) b o hf (.inl hx)
   ·refine g.less λb o hx=> ?_;rcases hx with hx|⟨j,hj,hx⟩
    ·exact .inl (.inl hx)
    ·cases j with
     |zero=>exact .inl (.inr hx)
     |succ j=>exact .inr ⟨j,by simpa using hj,hx⟩
theorem vkv {x:PV} {o:Nat} {ys:List PV} (hfit:o+ys.length<=x.cells.length) (hy:∀y∈ys,y.cells= [y]):(vbu x o ys).cells=x.cells.take o++ys++x.cells.drop (o+ys.length):=by
 cases x with
 |st cs=>rfl
 |_=>
  simp only [PV.cells,List.length_singleton] at hfit⊢
  match o,ys,hfit,hy with
  |0,[],_,_=>rfl
  |0,[y],_,hy=>exact hy y (by simp)
  |0,_::_::_,hfit,_=>simp at hfit
  |1,[],_,_=>rfl
  |1,_::_,hfit,_=>simp at hfit;omega
  |o+2,ys,hfit,_=>omega
theorem vv6 {m:Nat} {x:PV} {o:Nat} {ys:List PV} (hfit:o+ys.length<=x.cells.length) (hy:∀y∈ys,y.cells= [y]):∀{es:List PV} (_:∀y∈es,y.cells.length=m) {i:Nat} (_:es[i]? =some x) (k:Nat),
  (flat (es.set i (vbu x o ys)))[k]? =if i * m+o<=k/\k<i * m+o+ys.length then ys[k-(i * m+o)]? else (flat es)[k]?
 |z::es,hw,0,hx,k=>by
  simp at hx;subst hx;have hm:z.cells.length=m:=hw _ (by simp);have hseg:=λk=>vic z.cells ys o k hfit;simp only [List.set_cons_zero,flat,Ar,Bm,Az];rw [vkv hfit hy];by_cases hk:k<m
  ·rw [Af (by simp;omega),hseg k];rw [Af zo]
  ·rw [if_neg zo,Ad (by simp;omega),Ad zo];congr 1;simp;omega
 |z::es,hw,i+1,hx,k=>by
  have hm:z.cells.length=m:=hw _ (by simp);have ih:=vv6 hfit hy (es:=es) (λy hy=>hw y (by simp [hy])) (i:=i) (by simpa using hx);simp only [List.set_cons_succ,flat,Ar] at ih⊢;have e:(i+1) * m=i * m+m:=by rw [Ao];omega
  by_cases hk:k<m
  ·rw [if_neg zo,Af zo,Af zo]
  ·rw [Ad zo,Ad zo,ih (k-z.cells.length)];by_cases h2:i * m+o<=k-z.cells.length/\k-z.cells.length<i * m+o+ys.length
   ·rw [if_pos h2,if_pos zo];congr 1;omega
   ·rw [if_neg h2,if_neg zo]
 | [],_,i,hx,k=>by simp at hx
theorem DC.write {X:vaj} {e:Nat} {es:List PV} {v:Value} {Fd:vaj} (hd:DC cx.P w cx.Z (.sl e es) v Fd) (hZ:Apart Fd (zU cx.Z)) {i o:Nat} {x:PV} (hx:es[i]? =some x) {ys:List PV} {us:List Value} {Gk:Nat->vaj}
  (hp:Parts cx w X ys us Gk) (hfit:o+ys.length<=x.cells.length) (hg1:∀j,j<ys.length->Apart (Gk j) Fd):
  ∃g off len cap fr cur m,v= .slice (some ⟨g,off,none⟩) len cap/\w.heap[g]? =some (.cells cur e fr)/\NoFz fr cur.size/\va8 cx.P e=some m/\x.cells.length=m/\off+(i * m+o)+us.length<=cur.size/\(∀k,Fd g k)/\
   (((x.cells.drop o).take ys.length).all isAtom=true->∀k,off+(i * m+o)<=k->k<off+(i * m+o)+us.length->∀u,cur[k]? =some u->isSliceV u=false)/\
   ∃F',DC cx.P (w.setRow g (cur.toList.take (off+(i * m+o))++us++cur.toList.drop (off+(i * m+o)+us.length)).toArray) cx.Z (.sl e (es.set i (vbu x o ys))) v F'/\(∀b k,F' b k->Fd b k\/∃j,j<ys.length/\Gk j b k)/\
    (((x.cells.drop o).take ys.length).all isAtom=true->∀b k,Fd b k->F' b k):=by
 cases hd with
 |nil=>simp at hx
 |sl _ _ g off len cap m fr cur vs Fk _ hl hm hw hg hfr hlc hcm hsz hc hr hFd hdd hd0=>
  have hxm:x.cells.length=m:=hw x (Ak hx);have hi:i<es.length:=(Aa.1 hx).1;have hul:=hp.len;have hbase:i * m+m<=es.length * m:=by rw [<-Nat.succ_mul];exact A7 _ hi
  have hfl:=vfk hw;have hcur:off+(i * m+o)+us.length<=cur.size:=by
   have:es.length * m<=cap * m:=A7 _ zo;omega
  have hflat:=vv6 (o:=o) (ys:=ys) hfit hp.cells hw hx;have hwx:(vbu x o ys).cells.length=m:=by rw [vkv hfit hp.cells];simp;omega
  have hfl':(flat (es.set i (vbu x o ys))).length=(flat es).length:=by
   rw [vfk (m:=m),hfl,A1];intro y hy;rcases Ay hy with hy|rfl
   ·exact hw y hy
   ·exact hwx
  have oldAt:∀k,i * m+o<=k->k<i * m+o+ys.length->(flat es)[k]? =x.cells[k-i * m]? :=by
   intro k h1 h2;have:=vlm hw hx (j:=k-i * m) zo;rw [<-this];congr 1;omega
  refine ⟨g,off,len,cap,fr,cur,m,rfl,hg,hfr,hm,hxm,hcur,λk=>(hFd g k).2 (.inl rfl),?_,?_⟩
  ·intro hat k0 h1 h2 u hu;obtain ⟨k,rfl⟩:∃k,k0=off+k:=⟨k0-off,zo⟩
   have hk:=oldAt k zo zo;have hlt:k-i * m<x.cells.length:=zo
   rw [Ab hlt] at hk;have h3:=hc k _ hk;rw [hu] at h3;cases h3;have hmem:x.cells[k-i * m]∈(x.cells.drop o).take ys.length:=by
    apply Ak (i:=k-i * m-o);rw [Aj,if_pos zo,Ae,<-Ab hlt];congr 1;omega
   have hia:=Bf.1 hat _ hmem;have hdc:=hr k _ hk;generalize hcc:x.cells[k-i * m]=cc at hia hdc;cases cc with
   |a u'=>cases hdc;simpa [isAtom] using hia
   |_=>cases hia
  ·have hk:=vmw (o:=off+(i * m+o)) (vs:=us) hg hcur;let inSeg:Nat->Prop:=λk=>i * m+o<=k/\k<i * m+o+ys.length;have hFg:∀k,k<(flat es).length->∀b k',Fk k b k'->Fd b k':=λk hk b k' hf=>(hFd b k').2 (.inr ⟨k,hk,hf⟩);have hsegget:=λk=>vic cur.toList us (off+(i * m+o)) k (by simpa using hcur);refine ⟨λb k=>b=g\/∃j,j<(flat (es.set i (vbu x o ys))).length/\(if i * m+o<=j/\j<i * m+o+ys.length then Gk (j-(i * m+o)) else Fk j) b k,?_,?_,?_⟩
   ·refine .sl e _ g off len cap m fr _ (λk=>if i * m+o<=k/\k<i * m+o+ys.length then us.getD (k-(i * m+o)) undef else vs k) (λj=>if i * m+o<=j/\j<i * m+o+ys.length then Gk (j-(i * m+o)) else Fk j) _ (by rw [A1];exact hl) hm ?_ (setRow_heap w g _ _ _ _ hg) (hfr.eq (by simp;omega)) hlc hcm (by simp;omega) ?_ ?_ (λb k=>Iff.rfl) ?_ ?_
    ·intro y hy;rcases Ay hy with hy|rfl
     ·exact hw y hy
     ·exact hwx
    ·intro k c hk';rw [hflat k] at hk';have hg':=hsegget (off+k);simp only [List.getElem?_toArray];rw [hg'];by_cases hin:i * m+o<=k/\k<i * m+o+ys.length
     ·rw [if_pos hin] at hk';rw [if_pos zo,if_pos hin,show off+k-(off+(i * m+o))=k-(i * m+o) by omega];have hlt:k-(i * m+o)<us.length:=zo
      rw [At,Ab hlt];rfl
     ·rw [if_neg hin] at hk';rw [if_neg zo,if_neg hin,A3];exact hc k c hk'
    ·intro k c hk';rw [hflat k] at hk';by_cases hin:i * m+o<=k/\k<i * m+o+ys.length
     ·rw [if_pos hin] at hk';simp only [if_pos hin];have hlt:k-(i * m+o)<us.length:=zo
      have hdc:=hp.dc (k-(i * m+o)) c _ hk' (Ab hlt);rw [At,Ab hlt];refine hdc.mono (λb k' hf=>hk.same λhM=> ?_) (λb k' hz=>hk.same λhM=> ?_) λ_ _ _ h=>h
      ·obtain ⟨rfl,_⟩:=hM;exact hg1 _ zo b k' hf ((hFd _ _).2 (.inl rfl))
      ·exact hZ b k' ((hFd _ _).2 (.inl hM.1)) hz
     ·rw [if_neg hin] at hk';simp only [if_neg hin];have hlt:=(Aa.1 hk').1;refine (hr k c hk').mono (λb k' hf=>hk.same λhM=> ?_) (λb k' hz=>hk.same λhM=> ?_) λ_ _ _ h=>h
      ·obtain ⟨rfl,_⟩:=hM;exact hd0 k hlt k' hf
      ·exact hZ b k' ((hFd _ _).2 (.inl hM.1)) hz
    ·intro k l hk' hl' hkl;rw [hfl'] at hk' hl';by_cases h1:i * m+o<=k/\k<i * m+o+ys.length
     ·by_cases h2:i * m+o<=l/\l<i * m+o+ys.length
      ·simp only [if_pos h1,if_pos h2];exact hp.apart _ _ zo zo zo
      ·simp only [if_pos h1,if_neg h2];exact λb q hf hg'=>hg1 _ zo b q hf (hFg l hl' b q hg')
     ·by_cases h2:i * m+o<=l/\l<i * m+o+ys.length
      ·simp only [if_neg h1,if_pos h2];exact λb q hf hg'=>hg1 _ zo b q hg' (hFg k hk' b q hf)
      ·simp only [if_neg h1,if_neg h2];exact hdd k l hk' hl' hkl
    ·intro k hk' q hf;rw [hfl'] at hk';by_cases h1:i * m+o<=k/\k<i * m+o+ys.length
     ·simp only [if_pos h1] at hf;exact hg1 _ zo g q hf ((hFd _ _).2 (.inl rfl))
     ·simp only [if_neg h1] at hf;exact hd0 k hk' q hf
   ·intro b k hf;rcases hf with rfl|⟨j,hj,hf⟩
    ·exact .inl ((hFd _ _).2 (.inl rfl))
    ·rw [hfl'] at hj;split at hf
     ·exact .inr ⟨_,zo,hf⟩
     ·exact .inl (hFg j hj b k hf)
   ·intro hat b k hf;rcases (hFd b k).1 hf with rfl|⟨j,hj,hf⟩
    ·exact .inl rfl
    ·refine .inr ⟨j,by rw [hfl'];exact hj,?_⟩;split
     ·rename_i hin;have hk':=oldAt j hin.1 hin.2;have hlt:j-i * m<x.cells.length:=zo
      rw [Ab hlt] at hk';have hmem:x.cells[j-i * m]∈(x.cells.drop o).take ys.length:=by
       apply Ak (i:=j-i * m-o);rw [Aj,if_pos zo,Ae,<-Ab hlt];congr 1;omega
      have hia:=Bf.1 hat _ hmem;have hdc:=hr j _ hk';generalize x.cells[j-i * m]=cc at hia hdc;cases cc with
      |a u'=>cases hdc with|a _ _ _ hF=>exact absurd hf (hF b k)
      |_=>cases hia
     ·exact hf
theorem qfn (h:G cx U X ρ F st a w) {n t:Nat} (hn:va8 cx.P t=some n) {b id i m o:Nat} (hb:¬U b) {c:TV} {v p:Value} (hc:TR cx.P w cx.Z ρ F (vah st) c v) (hi:idsIn U c)
  (hp:TR cx.P w cx.Z ρ F (vah st) (.ea id i m o) p) (hid:U id) {s1:St} (hr:(storeAt b n (.ea id i m o) c).run st=some ((),s1)):
  ∃w' F',(Instr.storeAt t p v).run cx.P w= .ok () w'/\G cx (Win U b) X ρ F' s1 a w':=by
 obtain ⟨ys,s2,h1,h2⟩:=vaa hr;obtain ⟨nd,s3,h3,h4⟩:=vaa h2;cases vbn h3;split at h4
 ·rename_i q ver e es hnd;split at h4
  ·rename_i x hx;split at h4
   ·rename_i hcond;obtain ⟨hlen,hfit⟩:=hcond;have e1:=vby h4;have e2:s1=s2.setNode id _:=congrArg Ax e1;clear e1 h4;subst e2;have hs:TRL cx.P w cx.Z ρ F (vah st) c.cells v.cells.toList:=by
     cases hrow:c.row with
     |some cs=>obtain ⟨k1,k2⟩:=hc.row h.one hrow;rw [k2];exact k1
     |none=>
      cases c with
      |a u=>
       simp only [TV.cells,toPVs,toPV] at h1;simp only [TV.row] at hrow;split at hrow
       ·cases hrow
       ·rename_i hone;rw [if_neg hone] at h1;exact (vac h1).elim
      |tp cs=>exact (vac h1).elim
      |un=>exact (vac h1).elim
      |_=>cases hrow
    obtain ⟨Gk,hparts,hG,hsk⟩:=qbo h hs (viw hi) h1;obtain ⟨hd,hsh⟩:=vdt hG hnd;have hsome:(s2.node id).isSome=true:=by rw [hnd];rfl
    have hZ:Apart (F id) (zU cx.Z):=λb' k hf=>(hG.mine id hsome b' k hf).1;have hgF:∀j,j<ys.1.length->Apart (Gk j) (F id):=λj hj b' k hg hf=>hG.apartX id hsome b' k hf (.inr ⟨j,hj,hg⟩);obtain ⟨g,off,len,cap,fr,cur,m',hv,hg,hfr,hm,hxm,hcur,hFg,hslice,F',hd',hsub,hsup⟩:=hd.write (o:=o) hZ hx hparts zo hgF;have hul:=hparts.len;have hpaddr:p= .pointer (some ⟨g,off+(i * m'+o),none⟩):=by
     cases hp with
     |ea _ _ _ _ _ _ hcl=>
      obtain ⟨ver0,hs0,_⟩:=hsk id hid ver e _ hsh;obtain ⟨g0,off0,l0,c0,hr0,hsz,rfl⟩:=hcl ver0 e _ hs0;rw [hr0] at hv;cases hv;rw [hm] at hsz;cases hsz;rfl
    subst hpaddr;have hvl:v.cells.size=n:=by rw [<-Ag,hul,hlen]
    have hone:∀u∈v.cells.toList,u.oneCell'=true:=by
     intro u hu;obtain ⟨j,hj⟩:=List.getElem?_of_mem hu;have hlt:j<ys.1.length:=by rw [<-hul];exact (Aa.1 hj).1
     rw [<-vrc];exact (hparts.dc j _ u (Ab hlt) hj).one
    have hrun:=vtt (o:=off+(i * m'+o)) hn hg hfr hvl (by simp only [Ag] at hcur;omega) hone;have hk:=vmw (o:=off+(i * m'+o)) (vs:=v.cells.toList) hg hcur;have hMF:∀b' k,(b'=g/\off+(i * m'+o)<=k/\k<off+(i * m'+o)+v.cells.toList.length)->F id b' k:=λb' k hM=>hM.1▸hFg k;let ver':=if vet ys.1 x o n then ver else b+1;have hF'mine:∀b' k,F' b' k->¬zU cx.Z b' k/\(cx.M0 b' k\/cx.w0.heap.size<=b'):=by
     intro b' k hf;rcases hsub b' k hf with hf|⟨j,hj,hf⟩
     ·exact hG.mine id hsome b' k hf
     ·exact ⟨(hG.mineX b' k (.inr ⟨j,hj,hf⟩)).1,(hG.mineX b' k (.inr ⟨j,hj,hf⟩)).2.1⟩
    have hshape:∀ver1 e1 l,vah (s2.setNode id (some (.sl (q||ys.2) ver' e (es.set i (vbu x o ys.1))))) id=some (ver1,e1,l)->ver1=ver'/\e1=e/\l=es.length:=by
     intro ver1 e1 l hs1;unfold vah at hs1;rw [St.setNode_node,if_pos rfl] at hs1;simp only [A1] at hs1;cases hs1;exact ⟨rfl,rfl,rfl⟩
    have hup:=hG.update (U':=Win U b) (id:=id) (o:=some (.sl (q||ys.2) ver' e (es.set i (vbu x o ys.1)))) (v':=ρ id) (Fn:=F') (X':=X)
     (λ_ h=> .inl h) hk (λb' k hM=>(hG.mine id hsome b' k (hMF b' k hM)).1)
     (λb' k hM hlt=>((hG.mine id hsome b' k (hMF b' k hM)).2).resolve_right zo)
     (λj hj hjs b' k hf hM=>hG.apart j id hj hjs hsome b' k hf (hMF b' k hM)) (λ_=>rfl) (hG.one id)
     (by
      intro j hj ver1 e1 l hs1;by_cases ej:j=id
      ·subst ej;obtain ⟨rfl,rfl,rfl⟩:=hshape ver1 e1 l hs1;refine ⟨ver,hsh,λhver=> ?_⟩;show ver=ver';by_cases hat:vet ys.1 x o n=true
       ·simp only [ver',hat,if_true]
       ·simp only [ver',hat,if_false,Aq] at hver;rcases hver with hver|hver
        ·omega
        ·exact absurd (by simpa using hver) hb
      ·rw [ve2 s2 _ ej] at hs1;exact ⟨ver1,hs1,λ_=>rfl⟩)
     (by
      intro _ ver1 e1 l hs1 hver b' k hf;obtain ⟨rfl,rfl,rfl⟩:=hshape ver1 e1 l hs1;have hat:vet ys.1 x o n=true:=by
       cases hat:vet ys.1 x o n with
       |true=>rfl
       |false=>
        simp only [ver',hat,Aq,if_false] at hver;rcases hver with hver|hver
        ·omega
        ·exact absurd (by simpa using hver) hb
      have hold:((x.cells.drop o).take ys.1.length).all isAtom=true:=by
       unfold vet at hat;rw [hlen];exact (Aw _ _▸hat:_/\_).2
      refine ⟨hsup hold b' k hf,λy hy hys=> ?_⟩;by_cases hM:b'=g/\off+(i * m'+o)<=k/\k<off+(i * m'+o)+v.cells.toList.length
      ·obtain ⟨rfl,h5,h6⟩:=hM;rw [vef hg] at hy;rw [hslice hold k h5 h6 y hy] at hys;cases hys
      ·exact (hk.same hM).cell hy)
     (by
      intro nd hnd';cases hnd';refine ⟨?_,.inl hid,?_⟩
      ·refine .sl _ _ e _ ?_;rw [va5,va5];exact hd'
      ·show ver'=0\/Win U b (ver'-1);by_cases hat:vet ys.1 x o n=true
       ·simp only [ver',hat,if_true];exact ((hG.used id _ hnd).2).imp (λh=>h) .inl
       ·simp only [ver',hat,if_false,Aq]
        exact .inr (.inr ⟨zo,zo⟩))
     (λ_=>⟨hF'mine,λj hj hjs b' k hf hf'=>by
      rcases hsub b' k hf' with hf'|⟨l,hl,hf'⟩
      ·exact hG.apart j id hj hjs hsome b' k hf hf'
      ·exact hG.apartX j hjs b' k hf (.inr ⟨l,hl,hf'⟩),λb' k hf hx=>by
      rcases hsub b' k hf with hf|⟨l,hl,hf⟩
      ·exact hG.apartX id hsome b' k hf (.inl hx)
      ·exact hparts.apartX l hl b' k hf hx⟩)
     (λb' k hx=>by
      obtain ⟨k1,k2,k3⟩:=hG.mineX b' k (.inl hx)
      exact ⟨k1,k2,Bb k3 hk.size⟩)
     (λj _ hjs b' k hf hx=>hG.apartX j hjs b' k hf (.inl hx))
    rw [vd6] at hup;exact ⟨_,_,hrun,hup⟩
   ·exact (vac h4).elim
  ·exact (vac h4).elim
 ·exact (vac h4).elim
theorem qhf {Z:Zn} {sh:va2} {id o:Nat} {v:Value} {P:Program} (h:TR P w Z ρ F sh (.ad id o) v):∃b off,ρ id= .pointer (some ⟨b,off,none⟩)/\v= .pointer (some ⟨b,off+o,none⟩):=by
 cases h with
 |ad _ _ b off hr=>exact ⟨b,off,hr,rfl⟩
theorem vp5 {m:Nat}:∀{es:List PV} (_:∀y∈es,y.cells.length=m) (lo:Nat),flat (es.drop lo)=(flat es).drop (lo * m)
 | [],_,lo=>by simp [flat]
 |y::es,_,0=>by simp
 |y::es,hw,lo+1=>by
  have hy:y.cells.length=m:=hw y (by simp);have ih:=vp5 (es:=es) (λz hz=>hw z (by simp [hz])) lo;have e1:flat (y::es)=y.cells++flat es:=by simp [flat]
  rw [List.drop_succ_cons,ih,e1,List.drop_append,hy,show y.cells.drop ((lo+1) * m)= [] from List.drop_eq_nil_of_le (by rw [hy,Ao];omega),List.nil_append];congr 1;rw [Ao];omega
theorem vp4 {m:Nat}:∀{es:List PV} (_:∀y∈es,y.cells.length=m) (n:Nat),flat (es.take n)=(flat es).take (n * m)
 | [],_,n=>by simp [flat]
 |y::es,_,0=>by simp [flat]
 |y::es,hw,n+1=>by
  have hy:y.cells.length=m:=hw y (by simp);have ih:=vp4 (es:=es) (λz hz=>hw z (by simp [hz])) n;have e1:flat (y::es)=y.cells++flat es:=by simp [flat]
  have e2:flat (y::es.take n)=y.cells++flat (es.take n):=by simp [flat]
  rw [List.take_succ_cons,e2,ih,e1,List.take_append,hy,show y.cells.take ((n+1) * m)=y.cells from List.take_of_length_le (by rw [hy,Ao];omega)];congr 2;rw [Ao];omega
theorem RC.empty {P:Program} {Z:Zn} {e m:Nat} (hm:va8 P e=some m) {x:Option Addr} {cap:Nat}:RC P w Z (.sl e []) (.slice x 0 cap):=
 .sl e [] x 0 cap m (λ_=> .bool false) ⟨rfl,Nat.zero_le _⟩ hm (by simp) (λ_ _ h=>absurd rfl h) (λ_=>rfl) (by simp [flat]) (by simp [flat])
theorem RC.sub {P:Program} {Z:Zn} {e len cap m:Nat} {es:List PV} {x:Addr} (h:RC P w Z (.sl e es) (.slice (some x) len cap)) (hm:va8 P e=some m) {lo n cap':Nat} (hle:lo+n<=es.length) (hc':n<=cap'):
  RC P w Z (.sl e ((es.drop lo).take n)) (.slice (some ⟨x.block,x.off+lo * m,none⟩) n cap'):=by
 cases h with
 |sl _ _ _ _ _ m' vs hl hm' hw hx hn hc hr=>
  rw [hm] at hm';cases hm';have hsub:∀(k:Nat) c,(flat ((es.drop lo).take n))[k]? =some c->(flat es)[lo * m+k]? =some c:=by
   intro k c hk;rw [vp4 (m:=m) (λy hy=>hw y (Ap hy)),vp5 hw,Aj] at hk;split at hk
   ·rwa [Ae] at hk
   ·cases hk
  refine .sl e _ _ n cap' m (λk=>vs (lo * m+k)) ⟨by simp;omega,hc'⟩ hm (λy hy=>hw y (Ap (A4 hy))) (λy hy _=>by cases hy;rfl) (by simp) ?_ ?_
  ·intro k c hk y hy;cases hy;have:=hc _ c (hsub k c hk) x rfl;simp only [Ac];exact this
  ·exact λk c hk=>hr _ c (hsub k c hk)
theorem DC.esize {P:Program} {Z:Zn} {Fd:vaj} {e:Nat} {es:List PV} {v:Value} (h:DC P w Z (.sl e es) v Fd):∃m,va8 P e=some m:=by
 cases h with
 |nil _ m _ hm=>exact ⟨m,hm⟩
 |sl _ _ g off len cap m fr cur vs Fk _ hl hm=>exact ⟨m,hm⟩
def All:Zn:=λ_ _ _=>True
theorem DC.rd {P:Program} {Z:Zn} {Fd:vaj} {c:PV} {v:Value} (h:DC P w Z c v Fd):RC P w All c v:=h.read All (λ_ _ _ _=>trivial) (λ_ _ _ _=>trivial)
theorem RC.rd {P:Program} {Z:Zn} {c:PV} {v:Value} (h:RC P w Z c v):RC P w All c v:=h.mono (λ_ _ _ cur _ _ hb=>⟨cur,hb,rfl,rfl⟩) λ_ _ _ _=>trivial
def ZS (cx:Cx) (F:Nat->vaj) (st:St):Zn:=λe b o=>cx.Z e b o\/∃i,(st.node i).isSome=true/\F i b o
theorem vp8 (h:G cx U X ρ F st a w) {c:TV} {v:Value} (hc:TR cx.P w cx.Z ρ F (vah st) c v) {r:Nat×List PV} {s1:St} (hr:(elems c).run st=some (r,s1)):
  s1=st/\RC cx.P w (ZS cx F st) (.sl r.1 r.2) v:=by
 cases c with
 |nl e=>
  cases run_pure hr;cases hc with
  |nl _ m hm=>exact ⟨rfl,.empty hm⟩
 |sz e es=>
  cases run_pure hr;cases hc with
  |sz _ _ _ hrc=>exact ⟨rfl,hrc.mono (λ_ _ _ cur _ _ hb=>⟨cur,hb,rfl,rfl⟩) λ_ _ _ h=> .inl h⟩
 |rf id=>
  obtain ⟨nd,s2,h1,h2⟩:=vaa hr;cases vbn h1;split at h2
  ·rename_i q ver e es hn;cases run_pure h2;obtain ⟨hd,_⟩:=vdt h hn;have hv:v=ρ id:=by cases hc;rfl
   rw [hv];exact ⟨rfl,hd.read _ (λ_ _ _ hf=> .inr ⟨id,by rw [hn];rfl,hf⟩) λ_ _ _ h=> .inl h⟩
  ·exact (vac h2).elim
 |sb id lo k=>
  obtain ⟨nd,s2,h1,h2⟩:=vaa hr;cases vbn h1;split at h2
  ·rename_i q ver e es hn;cases run_pure h2;obtain ⟨hd,hsh⟩:=vdt h hn;obtain ⟨m,hm⟩:=hd.esize;cases hc with
   |sb _ _ _ _ _ hcl=>
    obtain ⟨x,cap,rfl,hcap,hle,hnz⟩:=hcl _ _ _ hsh;refine ⟨rfl,?_⟩;by_cases hk:k=0
    ·subst hk;exact .empty hm
    ·obtain ⟨g,off,l',c',m',hr0,hm',rfl,_⟩:=hnz zo;rw [hm] at hm';cases hm';have:=hd.read (ZS cx F st) (λ_ _ _ hf=> .inr ⟨id,by rw [hn];rfl,hf⟩) λ_ _ _ h=> .inl h;rw [hr0] at this;have:=this.sub hm hle hcap;simpa using this
  ·exact (vac h2).elim
 |ri id ver p=>
  obtain ⟨nd,s2,h1,h2⟩:=vaa hr;cases vbn h1;split at h2
  ·rename_i q ver' e es hn;split at h2
   ·rename_i hver;subst hver;split at h2
    ·rename_i r' hget;cases run_pure h2;obtain ⟨hd,hsh⟩:=vdt h hn;cases hc with
     |ri _ _ _ _ _ hnav=>
      obtain ⟨F',hd',hsub⟩:=hd.at p (e':=r.1) (es':=r.2) hget (hnav _ _ hsh);exact ⟨rfl,hd'.read _ (λ_ _ _ hf=> .inr ⟨id,by rw [hn];rfl,hsub _ _ hf⟩) λ_ _ _ h=> .inl h⟩
    ·exact (vac h2).elim
   ·exact (vac h2).elim
  ·exact (vac h2).elim
 |_=>exact (vac hr).elim
theorem vpd (h:G cx U X ρ F st a w) {c:TV} {v:Value} (hc:TR cx.P w cx.Z ρ F (vah st) c v) {r:Nat×List PV} {s1:St} (hr:(elems c).run st=some (r,s1)):
  s1=st/\RC cx.P w All (.sl r.1 r.2) v:=
 let ⟨h1,h2⟩:=vp8 h hc hr
 ⟨h1,h2.rd⟩
theorem RC.slice {P:Program} {Z:Zn} {e:Nat} {es:List PV} {v:Value} (h:RC P w Z (.sl e es) v):∃x cap,v= .slice x es.length cap/\es.length<=cap/\(∀y,x=some y->es≠[]->y.spot=none)/\(x=none->es= []):=by
 cases h with
 |sl _ _ x len cap m vs hl hm hw hx hn hc hr=>exact ⟨x,cap,by rw [hl.1],zo,hx,λh=>Am (by have:=hn h;omega)⟩
theorem vk8 {P:Program} {o:Oper} {c:Call} {k:Builtin} (hop:o.op= .call c) (hcal:c.callee= .builtin k):
  (execOp a.eval o).run P w=(builtin k c.argTypes o.type (c.args.map fun| .const _=>true|_=>false) (c.args.map a.eval)).run P w:=by
 unfold execOp;rw [hop];simp only [resolve,hcal,Sem.run_bind,Sem.run_pure,Result.andThen_ok,invoke];rfl
theorem qhq (h:G cx U X ρ F st a w) {b:Nat} {o:Oper} {d:Nat} (ho:o.dst=some d) (hd:d<cx.n) {t e:TypeId} {x:Operand} {x':Opd} {c:Call} (hop:o.op= .call c) (hcal:c.callee= .builtin .len)
  (hargs:c.args= #[x]) (hts:c.argTypes= #[t]) (ht:cx.P.underlying t=some (.slice e)) (hx:cOpd cx.P t x=some x') {s1:St}
  (hr:((opd x').bind λv=>(elems v).bind λr=>setS d (.a (.int .i64 r.2.length))).run st=some ((),s1)):Now cx U b o s1 a w:=by
 obtain ⟨c',s2,h1,h2⟩:=vaa hr;obtain ⟨rfl,g1,i1⟩:=vbw h hx h1;obtain ⟨r,s3,h3,h4⟩:=vaa h2;obtain ⟨rfl,hrc⟩:=vpd h g1 h3;cases vbd h4;obtain ⟨y,cap,hv,_⟩:=hrc.slice;refine vbq h ho hd ?_ (.a _) trivial;rw [vk8 hop hcal,hargs,hts];simp [builtin,Builtin.len_,run_underlying ht,hv,goInt]
theorem qer (h:G cx U X ρ F st a w) {b:Nat} {o:Oper} {d:Nat} (ho:o.dst=some d) (hd:d<cx.n) {t:TypeId} {x:Operand} {x':Opd} {c:Call} (hop:o.op= .call c) (hcal:c.callee= .builtin .len)
  (hargs:c.args= #[x]) (hts:c.argTypes= #[t]) (ht:cx.P.underlying t=some .string) (hx:cOpd cx.P t x=some x') {s1:St}
  (hr:((opd x').bind λv=>match v with| .a (.string s)=>setS d (.a (.int .i64 s.size))|_=> .fail).run st=some ((),s1)):Now cx U b o s1 a w:=by
 obtain ⟨c',s2,h1,h2⟩:=vaa hr;obtain ⟨rfl,g1,i1⟩:=vbw h hx h1;split at h2
 ·rename_i s;cases vbd h2;have hv:a.eval x= .string s:=vib g1;refine vbq h ho hd ?_ (.a _) trivial;rw [vk8 hop hcal,hargs,hts];simp [builtin,Builtin.len_,run_underlying ht,hv,goInt]
 ·exact (vac h2).elim
def OptI (v:Option Value) (n:Option Int):Prop:=(v=none/\n=none)\/∃k i,v=some (.int k i)/\n=some i
theorem vw1 {P:Program} {isSlice:Bool} {len cap:Nat} {lo hi:Option Value} {l r:Option Int} (hlo:OptI lo l) (hhi:OptI hi r) (hc:cut (l.getD 0) (r.getD len) len) (hcap:len<=cap):
  (Instr.sliceBounds isSlice len cap lo hi none).run P w= .ok ((l.getD 0).toNat,(r.getD len).toNat,cap) w:=by
 obtain ⟨c1,c2,c3⟩:=hc;rcases hhi with ⟨rfl,rfl⟩|⟨k,i,rfl,rfl⟩
 ·simp only [Option.getD_none] at c2 c3;rcases hlo with ⟨rfl,rfl⟩|⟨k',j,rfl,rfl⟩
  ·simp [Instr.sliceBounds]
  ·simp only [A0] at c1 c2;simp [Instr.sliceBounds,run_sliceBound w k' j len .sliceB c1 c2]
 ·simp only [A0] at c2 c3;have hi0:0<=i:=zo
  have e1:(i.toNat:Int)=i:=Int.toNat_of_nonneg hi0;have hb:(Instr.sliceBound (.int k i) cap (if isSlice then .sliceAcap else .sliceAlen)).run P w= .ok i.toNat w:=run_sliceBound w k i cap _ hi0 zo;rcases hlo with ⟨rfl,rfl⟩|⟨k',j,rfl,rfl⟩
  ·simp [Instr.sliceBounds,hb]
  ·simp only [A0] at c1 c2;simp [Instr.sliceBounds,hb,run_sliceBound w k' j i.toNat .sliceB c1 zo]
theorem vsf (h:G cx U X ρ F st a w) {t:TypeId} {x:Option Operand} {y:Option Opd} (hx:optOpd cx.P t x=some y) {r:Option Int} {s1:St} (hr:(bound y).run st=some (r,s1)):s1=st/\OptI (x.map a.eval) r:=by
 cases x with
 |none=>
  cases hx;cases run_pure hr;exact ⟨rfl,.inl ⟨rfl,rfl⟩⟩
 |some x=>
  simp only [optOpd] at hx;obtain ⟨y',hy,rfl⟩:=A2.1 hx;obtain ⟨c,s2,h1,h2⟩:=vaa hr;obtain ⟨rfl,g1,_⟩:=vbw h hy h1;split at h2
  ·rename_i n hn;cases run_pure h2;unfold asI at hn;split at hn
   ·cases hn;exact ⟨rfl,.inr ⟨_,n,by rw [Ai,vib g1],rfl⟩⟩
   ·cases hn
  ·exact (vac h2).elim
theorem qen (h:G cx U X ρ F st a w) {b:Nat} {o:Oper} {d:Nat} (ho:o.dst=some d) (hd:d<cx.n) {t:TypeId} {x:Operand} {x':Opd} {lo hi:Option Operand} {lo' hi':Option Opd} {t3:TypeId} (hop:o.op= .slice t x lo hi none)
  (ht:cx.P.underlying t=some .string) (hx:cOpd cx.P t x=some x') (hlo:optOpd cx.P t3 lo=some lo') (hhi:optOpd cx.P t3 hi=some hi') {s1:St}
  (hr:((opd x').bind λv=>(bound lo').bind λl=>(bound hi').bind λh=>(strAt v l h).bind (setS d)).run st=some ((),s1)):Now cx U b o s1 a w:=by
 obtain ⟨c',s2,h1,h2⟩:=vaa hr;obtain ⟨rfl,g1,i1⟩:=vbw h hx h1;obtain ⟨l,s3,h3,h4⟩:=vaa h2;obtain ⟨rfl,b1⟩:=vsf h hlo h3;obtain ⟨r,s4,h5,h6⟩:=vaa h4;obtain ⟨rfl,b2⟩:=vsf h hhi h5;obtain ⟨c2,s5,h7,h8⟩:=vaa h6;unfold strAt at h7;split at h7
 ·rename_i s;split at h7
  ·rename_i hcut;cases run_pure h7;cases vbd h8;have hv:a.eval x= .string s:=vib g1;refine vbq h ho hd ?_ (.a _) trivial;unfold execOp;rw [hop];simp [Instr.sliceAt,Instr.slice,run_underlying ht,hv,vw1 b1 b2 hcut (Bc _)]
  ·exact (vac h7).elim
 ·exact (vac h7).elim
theorem vp6 {P:Program} {t e m:TypeId} (ht:P.underlying t=some (.slice e)) (hm:va8 P e=some m) {x:Option Addr} {len cap:Nat} {lo hi:Option Value} {l r:Option Int} (hlo:OptI lo l) (hhi:OptI hi r)
  (hc:cut (l.getD 0) (r.getD len) len) (hcap:len<=cap):
  (Instr.sliceAt t (.slice x len cap) lo hi none).run P w=
   .ok (.slice (if cap=(l.getD 0).toNat then x else x.map (·.add ((l.getD 0).toNat * m))) ((r.getD len).toNat-(l.getD 0).toNat) (cap-(l.getD 0).toNat)) w:=by
 simp [Instr.sliceAt,Instr.slice,run_underlying ht,vw1 hlo hhi hc hcap,vhf hm]
theorem vvn {l r:Option Int} {n:Nat} (hc:cut (l.getD 0) (r.getD n) n):
  (l.getD 0).toNat<=(r.getD n).toNat/\(r.getD n).toNat<=n/\(r.getD n-l.getD 0).toNat=(r.getD n).toNat-(l.getD 0).toNat:=by
 obtain ⟨c1,c2,c3⟩:=hc;omega
theorem qj3 {α:Type} (es:List α) (l r:Nat):(es.take r).drop l=(es.drop l).take (r-l):=by
 rw [List.drop_take]
theorem RC.cutAt {P:Program} {Z:Zn} {e m len cap:Nat} {es:List PV} {x:Option Addr} (h:RC P w Z (.sl e es) (.slice x len cap)) (hm:va8 P e=some m) {l r:Nat} (hlr:l<=r) (hr:r<=es.length):
  RC P w Z (.sl e ((es.take r).drop l)) (.slice (if cap=l then x else x.map (·.add (l * m))) (r-l) (cap-l)):=by
 rw [qj3];obtain ⟨x',cap',e1,hcap,hx,hn⟩:=h.slice;cases e1;have hemp:r-l=0->RC P w Z (.sl e ((es.drop l).take (r-l))) (.slice (if cap=l then x else x.map (·.add (l * m))) (r-l) (cap-l)):=by
  intro h0;rw [h0,List.take_zero];exact .empty hm
 by_cases h0:r-l=0
 ·exact hemp h0
 ·cases x with
  |none=>have:=hn rfl;subst this;simp at hr;omega
  |some y=>
   rw [if_neg zo];have:=h.sub hm (lo:=l) (n:=r-l) (cap':=cap-l) zo zo;simp only [Ai,vhx (hx y rfl (by rintro rfl;simp only [Bj] at *;omega))];exact this
theorem qe6 (h:G cx U X ρ F st a w) {t e m:TypeId} (ht:cx.P.underlying t=some (.slice e)) (hm:va8 cx.P e=some m) {c:TV} {v:Value} (hc:TR cx.P w cx.Z ρ F (vah st) c v) (hi:idsIn U c) {lo hi':Option Value} {l r:Option Int} (hlo:OptI lo l) (hhi:OptI hi' r)
  {c':TV} {s1:St} (hr:(sliceAt e c l r).run st=some (c',s1)):s1=st/\∃u,(Instr.sliceAt t v lo hi' none).run cx.P w= .ok u w/\TR cx.P w cx.Z ρ F (vah st) c' u/\idsIn U c':=by
 cases c with
 |nl e'=>
  simp only [sliceAt] at hr;split at hr
  ·rename_i hcond;obtain ⟨rfl,h1,h2⟩:=hcond;cases run_pure hr;cases hc with
   |nl _ m' hm'=>
    have hcut:cut (l.getD 0) (r.getD (0:Nat)) (0:Nat):=by simp only [cut];simp at h2⊢;omega
    refine ⟨rfl,_,vp6 ht hm hlo hhi hcut (Bc _),?_,trivial⟩;have h2':r.getD (0:Nat)=0:=by simpa using h2
    simp only [h1,h2',Int.toNat_zero,if_true,Nat.sub_self];exact .nl _ m' hm'
  ·exact (vac hr).elim
 |sz e' es=>
  simp only [sliceAt] at hr;split at hr
  ·rename_i hcond;obtain ⟨rfl,hcut⟩:=hcond;cases run_pure hr;cases hc with
   |sz _ _ _ hrc=>
    obtain ⟨x,cap,rfl,hcap,hx,hn⟩:=hrc.slice;obtain ⟨k1,k2,k3⟩:=vvn hcut;exact ⟨rfl,_,vp6 ht hm hlo hhi hcut hcap,.sz _ _ _ (hrc.cutAt hm k1 k2),trivial⟩
  ·exact (vac hr).elim
 |rf id=>
  obtain ⟨nd,s2,h1,h2⟩:=vaa hr;cases vbn h1;split at h2
  ·rename_i q ver e' es hn;split at h2
   ·rename_i hcond;obtain ⟨rfl,hcut⟩:=hcond;cases run_pure h2;obtain ⟨hd,hsh⟩:=vdt h hn;obtain ⟨k1,k2,k3⟩:=vvn hcut;have hv:v=ρ id:=by cases hc;rfl
    obtain ⟨x,cap,hv',hcap,_,hnn⟩:=hd.rd.slice;rw [hv,hv'];refine ⟨rfl,_,vp6 ht hm hlo hhi hcut hcap,?_,hi⟩;rw [k3];refine .sb _ _ _ _ rfl λver1 e1 l1 hs1=> ?_;rw [hsh] at hs1;cases hs1;refine ⟨_,_,rfl,zo,zo,λhne=> ?_⟩
    ·rw [hv'] at hd;cases hd with
     |nil=>simp at hne
     |sl _ _ g off len cap' m' fr cur vs Fk _ hl hm' hw hg hfr hlc hcm hsz hcc hrr hF hdd hd0=>
      refine ⟨g,_,_,_,m,hv',hm,?_,zo⟩;rw [if_neg zo];simp [vhx]
   ·exact (vac h2).elim
  ·exact (vac h2).elim
 |sb id lo0 k=>
  obtain ⟨nd,s2,h1,h2⟩:=vaa hr;cases vbn h1;split at h2
  ·rename_i q ver e' es hn;split at h2
   ·rename_i hcond;obtain ⟨rfl,hcut⟩:=hcond;cases run_pure h2;obtain ⟨hd,hsh⟩:=vdt h hn;obtain ⟨k1,k2,k3⟩:=vvn hcut;cases hc with
    |sb _ _ _ _ _ hcl=>
     obtain ⟨x,cap,rfl,hcap,hle,hnz⟩:=hcl _ _ _ hsh;refine ⟨rfl,_,vp6 ht hm hlo hhi hcut hcap,?_,hi⟩;rw [k3];refine .sb _ _ _ _ rfl λver1 e1 l1 hs1=> ?_;rw [hsh] at hs1;cases hs1;refine ⟨_,_,rfl,zo,zo,λhne=> ?_⟩
     ·obtain ⟨g,off,l',c',m',hr0,hm',rfl,hc1⟩:=hnz zo;rw [hm] at hm';cases hm';refine ⟨g,_,_,_,m,hr0,hm,?_,zo⟩;rw [if_neg zo];simp [vhx,Ao,Ac]
   ·exact (vac h2).elim
  ·exact (vac h2).elim
 |_=>exact (vac hr).elim
theorem qi7 (h:G cx U X ρ F st a w) {b:Nat} {o:Oper} {d:Nat} (ho:o.dst=some d) (hd:d<cx.n) {t e m:TypeId} {x:Operand} {x':Opd} {lo hi:Option Operand} {lo' hi':Option Opd} {t3:TypeId} (hop:o.op= .slice t x lo hi none)
  (ht:cx.P.underlying t=some (.slice e)) (hm:va8 cx.P e=some m) (hx:cOpd cx.P t x=some x') (hlo:optOpd cx.P t3 lo=some lo') (hhi:optOpd cx.P t3 hi=some hi') {s1:St}
  (hr:((opd x').bind λv=>(bound lo').bind λl=>(bound hi').bind λh=>(sliceAt e v l h).bind (setS d)).run st=some ((),s1)):Now cx U b o s1 a w:=by
 obtain ⟨c',s2,h1,h2⟩:=vaa hr;obtain ⟨rfl,g1,i1⟩:=vbw h hx h1;obtain ⟨l,s3,h3,h4⟩:=vaa h2;obtain ⟨rfl,b1⟩:=vsf h hlo h3;obtain ⟨r,s4,h5,h6⟩:=vaa h4;obtain ⟨rfl,b2⟩:=vsf h hhi h5;obtain ⟨c2,s5,h7,h8⟩:=vaa h6;obtain ⟨rfl,u,hrun,htr,hi⟩:=qe6 h ht hm g1 i1 b1 b2 h7;cases vbd h8;refine vbq h ho hd ?_ htr hi;unfold execOp;rw [hop];simp [hrun]
theorem vuc {P:Program} {t e m:TypeId} (ht:P.underlying t=some (.slice e)) (hm:va8 P e=some m) {y:Addr} (hy:y.spot=none) {len cap:Nat} {k:IntKind} {n:Int} (h0:0<=n) (h1:n<len):
  (Instr.indexAt t (.slice (some y) len cap) (.int k n)).run P w= .ok (.pointer (some ⟨y.block,y.off+n.toNat * m,none⟩)) w:=by
 simp [Instr.indexAt,asIntOf,run_underlying ht,h0,h1,vhf hm,vhx hy]
theorem qfo (h:G cx U X ρ F st a w) {t e m:TypeId} (ht:cx.P.underlying t=some (.slice e)) (hm:va8 cx.P e=some m) {c:TV} {v:Value} (hc:TR cx.P w cx.Z ρ F (vah st) c v) (hi:idsIn U c)
  {k:IntKind} {n:Int} {c':TV} {s1:St} (hr:(indexAt e m c n).run st=some (c',s1)):s1=st/\∃u,(Instr.indexAt t v (.int k n)).run cx.P w= .ok u w/\TR cx.P w cx.Z ρ F (vah st) c' u/\idsIn U c':=by
 obtain ⟨r,s2,h1,h2⟩:=vaa hr;obtain ⟨rfl,hrc⟩:=vpd h hc h1;rw [qu4] at h2;split at h2
 ·rename_i hcond;obtain ⟨he,hn0,hn1⟩:=hcond;obtain ⟨x,cap,hv,hcap,hx,hnn⟩:=hrc.slice;have hne:r.2≠[]:=by intro e0;rw [e0] at hn1;simp at hn1;omega
  cases x with
  |none=>exact absurd (hnn rfl) hne
  |some y=>
   have hrun:=vuc (w:=w) (cap:=cap) ht hm (hx y rfl hne) (k:=k) hn0 hn1;have fin:∀{c2:TV},c'=c2->TR cx.P w cx.Z ρ F (vah s2) c2 (.pointer (some ⟨y.block,y.off+n.toNat * m,none⟩))->idsIn U c2->s1=s2->
     s1=s2/\∃u,(Instr.indexAt t v (.int k n)).run cx.P w= .ok u w/\TR cx.P w cx.Z ρ F (vah s2) c' u/\idsIn U c':=by
    rintro c2 rfl h1 h2 h3
    exact ⟨h3,_,by rw [hv];exact hrun,h1,h2⟩
   cases c with
   |rf id=>
    have e1:=run_pure h2;refine fin (congrArg Bg e1) ?_ hi (congrArg Ax e1);obtain ⟨nd,s3,k1,k2⟩:=vaa h1;cases vbn k1;split at k2
    ·rename_i q ver e' es hn;obtain ⟨hd,hsh⟩:=vdt h hn;cases run_pure k2;have hv':v=ρ id:=by cases hc;rfl
     simp only at he;subst he;refine .ea _ _ _ _ _ rfl λver1 e1 l1 hs1=> ?_;rw [hsh] at hs1;cases hs1;rw [<-hv',hv] at hd;generalize hes:es=es2 at hd hne;cases hd with
     |nil=>exact absurd rfl hne
     |sl _ _ g off len cap' m' fr cur vs Fk _ hl hm' hw hg hfr hlc hcm hsz hcc hrr hF hdd hd0=>exact ⟨g,off,_,_,by rw [<-hv',hv],hm,by simp⟩
    ·exact (vac k2).elim
   |sb id lo k=>
    have e1:=run_pure h2;refine fin (congrArg Bg e1) ?_ hi (congrArg Ax e1);obtain ⟨nd,s3,k1,k2⟩:=vaa h1;cases vbn k1;split at k2
    ·rename_i q ver e' es hn;obtain ⟨hd,hsh⟩:=vdt h hn;cases run_pure k2;simp only at he;subst he;refine .ea _ _ _ _ _ rfl λver1 e1 l1 hs1=> ?_;rw [hsh] at hs1;cases hs1;cases hc with
     |sb _ _ _ _ _ hcl=>
      obtain ⟨x,cap',hv2,hcap',hle,hnz⟩:=hcl _ _ _ hsh;obtain ⟨g,off,l',c',m',hr0,hm',hx2,_⟩:=hnz (by rintro rfl;exact hne (Am (by simp only [List.length_take,List.length_drop];omega)));rw [hm] at hm';cases hm';rw [hv] at hv2;injection hv2 with e1 _ _
      rw [hx2] at e1;injection e1 with e1
      subst e1;exact ⟨g,off,_,_,hr0,hm,by simp [Ao,Ac]⟩
    ·exact (vac k2).elim
   |ri id ver p=>
    have e1:=run_pure h2;refine fin (congrArg Bg e1) ?_ hi (congrArg Ax e1);obtain ⟨nd,s3,k1,k2⟩:=vaa h1;cases vbn k1;split at k2
    ·rename_i q ver' e' es hn;obtain ⟨hd,hsh⟩:=vdt h hn;split at k2
     ·rename_i hver;subst hver;split at k2
      ·rename_i r' hget;cases run_pure k2;refine .ei _ _ _ _ _ _ _ rfl λe1 l1 hs1=> ?_;rw [hsh] at hs1;cases hs1;cases hc with
       |ri _ _ _ _ _ hnav=>
        have hnv:=hnav _ _ hsh;obtain ⟨F',hd',_⟩:=hd.at p (e':=r.1) (es':=r.2) hget hnv;rw [hv] at hd' hnv;generalize hes:r.2=es2 at hd' hne;cases hd' with
        |nil=>exact absurd rfl hne
        |sl _ _ g off len cap' m' fr cur vs Fk _ hl hm' hw hg hfr hlc hcm hsz hcc hrr hF hdd hd0=>exact ⟨g,off,_,_,hnv,by simp⟩
      ·exact (vac k2).elim
     ·exact (vac k2).elim
    ·exact (vac k2).elim
   |sz e' es=>
    simp only at h2;split at h2
    ·rename_i x0 hx0;have e1:=run_pure h2;refine fin (congrArg Bg e1) ?_ trivial (congrArg Ax e1);cases run_pure h1;cases hc with
     |sz _ _ _ hrc0=>
      rw [hv] at hrc0;cases hrc0 with
      |sl _ _ _ _ _ m' vs hl hm' hw hx' hn' hcc hrr=>
       simp only at he hx0;subst he;rw [hm] at hm';cases hm';refine .ez _ _ _ rfl (λj=>vs (n.toNat * m+j)) λj c hj=> ?_;rw [Az] at hj;have hjm:j<m:=by rw [<-hw x0 (Ak hx0)];exact (Aa.1 hj).1
       have hf:(flat es)[n.toNat * m+j]? =some c:=by rw [vlm hw hx0 hjm];exact hj
       have:=hcc _ c hf y rfl;simp only [Ac];exact ⟨this.1,⟨_,this.2⟩,hrr _ c hf⟩
    ·exact (vac h2).elim
   |_=>exact (vac h2).elim
 ·exact (vac h2).elim
theorem qcp {u:TV} {n:Int} (h:asI u=some n):∃k,u= .a (.int k n):=by
 unfold asI at h;split at h
 ·cases h;exact ⟨_,rfl⟩
 ·cases h
theorem qkl (h:G cx U X ρ F st a w) {b:Nat} {o:Oper} {d:Nat} (ho:o.dst=some d) (hd:d<cx.n) {t e m:TypeId} {x i:Operand} {x' i':Opd} {t3:TypeId} (hop:o.op= .indexAddr t x i)
  (ht:cx.P.underlying t=some (.slice e)) (hm:va8 cx.P e=some m) (hx:cOpd cx.P t x=some x') (hi:cOpd cx.P t3 i=some i') {s1:St}
  (hr:((opd x').bind λv=>(opd i').bind λu=>match asI u with
   |some n=>(indexAt e m v n).bind (setS d)
   |none=> .fail).run st=some ((),s1)):Now cx U b o s1 a w:=by
 obtain ⟨c',s2,h1,h2⟩:=vaa hr;obtain ⟨rfl,g1,i1⟩:=vbw h hx h1;obtain ⟨u,s3,h3,h4⟩:=vaa h2;obtain ⟨rfl,g2,i2⟩:=vbw h hi h3;split at h4
 ·rename_i n hn;obtain ⟨k,rfl⟩:=qcp hn;obtain ⟨c2,s5,h7,h8⟩:=vaa h4;obtain ⟨rfl,u',hrun,htr,hid⟩:=qfo h ht hm g1 i1 (k:=k) h7;cases vbd h8;refine vbq h ho hd ?_ htr hid;unfold execOp;rw [hop];have:=vib g2;simp [this,hrun]
 ·exact (vac h4).elim
theorem qpa (h:G cx U X ρ F st a w) {b:Nat} {o:Oper} {d:Nat} (ho:o.dst=some d) (hd:d<cx.n) {t:TypeId} {x i:Operand} {x' i':Opd} {t3:TypeId} (hop:o.op= .index t x i)
  (ht:cx.P.underlying t=some .string) (hx:cOpd cx.P t x=some x') (hi:cOpd cx.P t3 i=some i') {s1:St}
  (hr:((opd x').bind λv=>(opd i').bind λu=>match v,asI u with
   | .a (.string s),some n=>(liftO (byteAt s n)).bind λr=>setS d (.a r)
   |_,_=> .fail).run st=some ((),s1)):Now cx U b o s1 a w:=by
 obtain ⟨c',s2,h1,h2⟩:=vaa hr;obtain ⟨rfl,g1,i1⟩:=vbw h hx h1;obtain ⟨u,s3,h3,h4⟩:=vaa h2;obtain ⟨rfl,g2,i2⟩:=vbw h hi h3;split at h4
 ·rename_i s n hn;obtain ⟨k,rfl⟩:=qcp hn;obtain ⟨r,s5,h7,h8⟩:=vaa h4;obtain ⟨hb,e5⟩:=vdl h7;simp only at hb e5;subst e5;cases vbd h8;refine vbq h ho hd ?_ (.a _) trivial;unfold execOp;rw [hop];unfold byteAt at hb;split at hb
  ·rename_i h0;obtain ⟨bb,hbb,rfl⟩:=A2.1 hb;have e1:=vib g1;have e2:=vib g2;have hlt:n.toNat<s.size:=by
    by_cases hh:n.toNat<s.size
    ·exact hh
    ·rw [ByteArray.getElem?_ge' s _ hh] at hbb;cases hbb
   have hbe:s[n.toNat]=bb:=by rw [ByteArray.getElem?_lt' s _ hlt] at hbb;exact Bi hbb
   have:=run_index_string (P:=cx.P) w t s k n ht;rw [dif_pos ⟨h0,zo⟩] at this;simp [e1,e2,this,hbe]
  ·cases hb
 ·exact (vac h4).elim
theorem qpd {P:Program} {Z:Zn} {sh:va2}:∀{cs:List TV} {vs:List Value} {k:IntKind} {n r:Int},TRL P w Z ρ F sh cs vs->extreme true cs n=some r->(vs.foldlM Builtin.max2 (.int k n)).run P w= .ok (.int k r) w:=by
 intro cs;induction cs with
 |nil=>
  intro vs k n r h hr;cases h;cases hr;rfl
 |cons c cs ih=>
  intro vs k n r h hr;cases h with
  | @cons _ v _ vs' h1 hs=>
   unfold extreme at hr;split at hr
   ·rename_i e;cases e
   ·rename_i k' y vs2 e;cases e;have e1:=vib h1;subst e1;simp only [Bh,Sem.run_bind,Builtin.max2,Sem.run_pure,Result.andThen_ok];exact ih hs hr
   ·cases hr
theorem qrx {P:Program} {Z:Zn} {sh:va2}:∀{cs:List TV} {vs:List Value} {k:IntKind} {n r:Int},TRL P w Z ρ F sh cs vs->extreme false cs n=some r->(vs.foldlM Builtin.min2 (.int k n)).run P w= .ok (.int k r) w:=by
 intro cs;induction cs with
 |nil=>
  intro vs k n r h hr;cases h;cases hr;rfl
 |cons c cs ih=>
  intro vs k n r h hr;cases h with
  | @cons _ v _ vs' h1 hs=>
   unfold extreme at hr;split at hr
   ·rename_i e;cases e
   ·rename_i k' y vs2 e;cases e;have e1:=vib h1;subst e1;simp only [Bh,Sem.run_bind,Builtin.min2,Sem.run_pure,Result.andThen_ok];exact ih hs hr
   ·cases hr
theorem voy {ts:List TypeId} {xs:List Operand} (f:Operand->Value) (h:xs.length=ts.length):(ts.zip xs).map (λx=>f x.2)=xs.map f:=by
 have:(ts.zip xs).map Ax=xs:=by rw [List.map_snd_zip];omega
 rw [show (λx:TypeId×Operand=>f x.2)=f∘Ax from rfl,<-List.map_map,this]
theorem qaj (h:G cx U X ρ F st a w) {b:Nat} {o:Oper} {d:Nat} (ho:o.dst=some d) (hd:d<cx.n) {isMax:Bool} {xs':List Opd} {c:Call} (hop:o.op= .call c) (hcal:c.callee= .builtin (if isMax then .max else .min))
  (hsz:c.args.size=c.argTypes.size) (hx:cOpds cx.P (c.argTypes.toList.zip c.args.toList)=some xs') {s1:St}
  (hr:((opds xs').bind λvs=>match vs with
   | .a (.int k x)::vs=>(liftO (extreme isMax vs x)).bind λr=>setS d (.a (.int k r))
   |_=> .fail).run st=some ((),s1)):Now cx U b o s1 a w:=by
 obtain ⟨cs,s2,h1,h2⟩:=vaa hr;obtain ⟨rfl,g1,i1⟩:=vmy h _ hx h1;rw [voy a.eval (by simpa using hsz)] at g1;split at h2
 ·rename_i k x vs;obtain ⟨r,s3,h3,h4⟩:=vaa h2;obtain ⟨h5,h6⟩:=vdl h3;simp only at h5 h6;subst h6;cases vbd h4;refine vbq h ho hd ?_ (.a _) trivial;rw [vk8 hop hcal];generalize hargs:c.args.toList.map a.eval=us at g1;have hargs':c.args.map a.eval=us.toArray:=by rw [<-hargs,<-Array.toList_map,A6]
  rw [hargs'];cases g1 with
  | @cons _ v _ vs' k1 ks=>
   have e1:=vib k1;subst e1;cases isMax with
   |true=>simp [builtin,Builtin.max_,qpd ks h5]
   |false=>simp [builtin,Builtin.min_,qrx ks h5]
 ·exact (vac h2).elim
theorem vyc:∀{es:List PV} {bs:List UInt8},u8of es=some bs->∃xs:List Int,es=xs.map (λn=>PV.a (.int .u8 n))/\bs=xs.map λn=>UInt8.ofNat n.toNat
 | [],bs,h=>by cases h;exact ⟨[],rfl,rfl⟩
 |x::es,bs,h=>by
  unfold u8of at h;split at h
  ·rename_i h0;cases h0
  ·rename_i n es' h0;cases h0;split at h
   ·rename_i bs' hb;cases h;obtain ⟨xs,rfl,rfl⟩:=vyc hb;exact ⟨n::xs,rfl,rfl⟩
   ·cases h
  ·cases h
theorem zcj {P:Program} {Z:Zn} {u v:Value} (h:RC P w Z (.a u) v):v=u:=by cases h;rfl
theorem vwc:∀(xs:List Int),flat (xs.map λn=>PV.a (.int .u8 n))=xs.map λn=>PV.a (.int .u8 n)
 | []=>rfl
 |x::xs=>congrArg (PV.a (.int .u8 x)::·) (vwc xs)
theorem qhp (h:G cx U X ρ F st a w) {b:Nat} {o:Oper} {d:Nat} (ho:o.dst=some d) (hd:d<cx.n) {s t e:TypeId} {x:Operand} {x':Opd} (hop:o.op= .convert s t x)
  (hs:cx.P.underlying s=some (.slice e)) (he:cx.P.underlying e=some (.int .u8)) (ht:cx.P.underlying t=some .string) (hx:cOpd cx.P s x=some x') {s1:St}
  (hr:((opd x').bind λv=>(elems v).bind λr=>if r.1=e then (liftO (u8of r.2)).bind λbs=>setS d (.a (.string ⟨bs.toArray⟩)) else .fail).run st=some ((),s1)):Now cx U b o s1 a w:=by
 obtain ⟨c',s2,h1,h2⟩:=vaa hr;obtain ⟨rfl,g1,i1⟩:=vbw h hx h1;obtain ⟨r,s3,h3,h4⟩:=vaa h2;obtain ⟨rfl,hrc⟩:=vpd h g1 h3;split at h4
 ·obtain ⟨bs,s4,h5,h6⟩:=vaa h4;obtain ⟨hb,rfl⟩:=vdl h5;cases vbd h6;obtain ⟨xs,hes,rfl⟩:=vyc hb;refine vbq h ho hd ?_ (.a _) trivial;unfold execOp;rw [hop];simp only;generalize a.eval x=v at *;cases hrc with
  |sl _ _ y len cap m vs hl hm hw hxx hn hc hrr=>
   have hlen:xs.length=len:=by rw [hl.1,hes,List.length_map]
   have hflat:flat r.2=r.2:=by
    rw [hes];exact vwc xs
   cases y with
   |none=>
    have h0:=hn rfl;have:xs= []:=Am zo;subst this;rw [Sem.run_bind,run_convert_bytes_nil w s e hs he _ _ t ht];rfl
   |some y=>
    by_cases h0:r.2= []
    ·have:xs= []:=by
      rw [h0] at hes;cases xs with
      |nil=>rfl
      |cons _ _=>cases hes
     subst this;have hz:len=0:=by rw [<-hlen];rfl
     subst hz;have:=run_convert_bytes_back w s t e y cap [] hs he ht (by intro j hj;simp at hj);rw [Sem.run_bind,show (Value.slice (some y) 0 cap)= .slice (some y) ([]:List UInt8).length cap from rfl,this];rfl
    ·have hsp:=hxx y rfl h0;obtain ⟨yb,yo,ys⟩:=y;simp only at hsp;subst hsp
     have:=run_convert_bytes_arg w s e hs he yb yo len cap xs hlen (λi hi=>by
      have hi':i<xs.length:=zo
      have hk:(flat r.2)[i]? =some (.a (.int .u8 xs[i])):=by
       rw [hflat,hes,Al,Ab hi'];rfl
      have h7:=(hc i _ hk _ rfl).1;have h8:=hrr i _ hk;have h9:vs i= .int .u8 xs[i]:=zcj h8
      rw [h7,h9,At,Ab hi'];rfl) t ht
     rw [Sem.run_bind,this];rfl
 ·exact (vac h4).elim

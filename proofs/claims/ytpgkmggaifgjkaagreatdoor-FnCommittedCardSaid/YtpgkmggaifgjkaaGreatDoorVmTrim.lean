/- The interpreter 'VM'. -/
import Derived.Test.YtpgkmggaifgjkaaGreatDoorVmTop
import Derived.Shelf.Strings.SlTrimAscii
open Go.Value renaming string->Aa
set_option linter.all false
namespace Go.Proofs.YtpgkmggaifgjkaaGreatDoor.VM
open Go Go.RowKit
def trimGo:List CV->Option (List CV×List CV)
 | [.a (.string s),.a (.string c)]=>if s.size<=9223372036854775807/\c.size<4294967281/\c.data.toList.all (λb=>decide (b.toNat<128))=true then some ([.a (.string ⟨(Lib.trimS s.data.toList c.data.toList).toArray⟩)],[]) else none
 |_=>none
def trimC:Callee:=⟨[.ro 0,.ro 0],false,true,trimGo⟩
theorem qgl {w w':World} (h:Below w.heap.size w w') (M:vaj):Kept w w' M:=by
 refine ⟨h.os,h.tape,h.output,h.size,λb cur e fr hb=> ?_,λb x hb _=> ?_⟩
 ·have hlt:b<w.heap.size:=(Array.getElem?_eq_some_iff.1 hb).1;exact ⟨cur,by rw [h.block b hlt];exact hb,rfl,λ_ _=>rfl⟩
 ·have hlt:b<w.heap.size:=(Array.getElem?_eq_some_iff.1 hb).1;rw [h.block b hlt];exact hb
theorem qf6 {P:Program} {ρ:Go.Shelf.Ren} (L:Lays.n160 P ρ) (h116:(P.info? (ρ.t 116)).map (λi=>(i.zero,i.size))=some (some (.agg (Array.replicate 256 (.bool false))),256))
  {f:Nat} (hf:ρ.f 160=f) {fn:Func} (hfn:P.funcs[f]? =some fn) (hname:(fn.name== "runtime.NumGoroutine")=false) (hbody:fn.body.isNone=false):Sound P f trimC where
 ans:=by
  intro w Z cs args F rs fs hc hZ hF hk hgo;simp only [trimC,trimGo] at hgo;split at hgo
  ·rename_i s c;split at hgo
   ·rename_i hcond;obtain ⟨hs,hcs,hasc⟩:=hcond;cases hgo;simp only [CRL,CR] at hc;obtain ⟨v,vs',F1,F2,rfl,⟨rfl,_⟩,⟨v2,vs2,F3,F4,rfl,⟨rfl,_⟩,⟨rfl,_⟩,_,_⟩,_,_⟩:=hc;intro o a K Q hK;have hcall:(callFunc f #[Aa s,Aa c]).run P w= .ok (.enter f #[Aa s,Aa c]) w:=by
     unfold callFunc;simp only [Sem.run_bind,run_program,Result.andThen_ok,hfn,hname,Bool.false_eq_true,if_false,hbody,Sem.run_pure]
    show o.upon P a K Q ((callFunc f #[Aa s,Aa c]).run P w);rw [hcall,Oper.upon_enter];have:=Any.strings_Trim_laid L h116 s c w hs hcs (ascii_of_all hasc);rw [hf] at this;refine this.mono ?_
    rintro e w' ⟨rfl,hw⟩
    refine hK _ _ ⟨[_],λ_ _=>False,rfl,rfl,qgl hw F,?_,λ_ _ h=>h.elim⟩;simp only [List.append_nil,trimC,muts,CRL,CR];exact ⟨_,_,λ_ _=>False,λ_ _=>False,rfl,⟨rfl,λ_ _ h=>h⟩,⟨rfl,λ_ _ h=>h⟩,λ_ _ h _=>h,λ_ _=>by simp⟩
   ·cases hgo
  ·cases hgo
 only:=OnlyOk.none rfl
 als:=λh=>by cases h
 nofz:=by
  intro _ cs rs fs _ hgo;simp only [trimC,trimGo] at hgo;split at hgo
  ·split at hgo
   ·cases hgo;simp [va1,vbl]
   ·cases hgo
  ·cases hgo

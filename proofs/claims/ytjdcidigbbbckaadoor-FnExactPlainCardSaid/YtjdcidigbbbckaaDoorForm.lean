/- The functions' code is the program's. Printed by a program of ours. -/
import Derived.Test.YtjdcidigbbbckaaDoorCode
import Derived.Test.YtjdcidigbbbckaaDoorVmTop
import Derived.Test.YtjdcidigbbbckaaDoorLays
import Derived.Test.YtjdcidigbbbckaaDoorProg
namespace Go.Proofs.YtjdcidigbbbckaaDoor.VM
open Go Go.Proofs
theorem xjd:OkF Tryd.prog kz (bqb,fq):=⟨_,Tryd.func5,by kernel_rfl,_,rfl,by kernel_rfl,by kernel_rfl,by decide,by decide,by decide⟩
theorem uxe:OkF Tryd.prog kz (ljc,xq):=⟨_,Tryd.func10,by kernel_rfl,_,rfl,by kernel_rfl,by kernel_rfl,by decide,by decide,by decide⟩
theorem dxf:OkF Tryd.prog kz (ujc,qxb):=⟨_,Tryd.func14,by kernel_rfl,_,rfl,by kernel_rfl,by kernel_rfl,by decide,by decide,by decide⟩
theorem yqf:OkF Tryd.prog kz (fxc,oxb):=⟨_,Tryd.func15,by kernel_rfl,_,rfl,by kernel_rfl,by kernel_rfl,by decide,by decide,by decide⟩
theorem ykd:OkF Tryd.prog kz (rkb,zx):=⟨_,Tryd.func19,by kernel_rfl,_,rfl,by kernel_rfl,by kernel_rfl,by decide,by decide,by decide⟩
theorem wxe:OkF Tryd.prog kz (mjc,zk):=⟨_,Tryd.func20,by kernel_rfl,_,rfl,by kernel_rfl,by kernel_rfl,by decide,by decide,by decide⟩
theorem xkd:OkF Tryd.prog kz (qk,nzb):=⟨_,Tryd.func21,by kernel_rfl,_,rfl,by kernel_rfl,by kernel_rfl,by decide,by decide,by decide⟩
theorem vxe:OkF Tryd.prog kz (gjb,sqb):=⟨_,Tryd.func22,by kernel_rfl,_,rfl,by kernel_rfl,by kernel_rfl,by decide,by decide,by decide⟩
theorem xxe:OkF Tryd.prog kz (hjb,tqb):=⟨_,Tryd.func23,by kernel_rfl,_,rfl,by kernel_rfl,by kernel_rfl,by decide,by decide,by decide⟩
theorem bze:OkF Tryd.prog kz (skb,qzb):=⟨_,Tryd.func24,by kernel_rfl,_,rfl,by kernel_rfl,by kernel_rfl,by decide,by decide,by decide⟩
theorem tqd:OkF Tryd.prog kz (xqb,nk):=⟨_,Tryd.func25,by kernel_rfl,_,rfl,by kernel_rfl,by kernel_rfl,by decide,by decide,by decide⟩
theorem zkd:OkF Tryd.prog kz (kqb,ozb):=⟨_,Tryd.func26,by kernel_rfl,_,rfl,by kernel_rfl,by kernel_rfl,by decide,by decide,by decide⟩
theorem aze:OkF Tryd.prog kz (lqb,pzb):=⟨_,Tryd.func27,by kernel_rfl,_,rfl,by kernel_rfl,by kernel_rfl,by decide,by decide,by decide⟩
theorem zxe:OkF Tryd.prog kz (ojc,jx):=⟨_,Tryd.func29,by kernel_rfl,_,rfl,by kernel_rfl,by kernel_rfl,by decide,by decide,by decide⟩
theorem txe:OkF Tryd.prog kz (kjc,yk):=⟨_,Tryd.func37,by kernel_rfl,_,rfl,by kernel_rfl,by kernel_rfl,by decide,by decide,by decide⟩
theorem lzg:OkF Tryd.prog kz (jxb,nxb):=⟨_,Tryd.func38,by kernel_rfl,_,rfl,by kernel_rfl,by kernel_rfl,by decide,by decide,by decide⟩
theorem vxd:OkF Tryd.prog kz (wxb,czb):=⟨_,Tryd.func39,by kernel_rfl,_,rfl,by kernel_rfl,by kernel_rfl,by decide,by decide,by decide⟩
theorem sxe:OkF Tryd.prog kz (jjc,rqb):=⟨_,Tryd.func41,by kernel_rfl,_,rfl,by kernel_rfl,by kernel_rfl,by decide,by decide,by decide⟩
theorem cxf:OkF Tryd.prog kz (kxc,jzc):=⟨_,Tryd.func45,by kernel_rfl,_,rfl,by kernel_rfl,by kernel_rfl,by decide,by decide,by decide⟩
theorem qxe:OkF Tryd.prog kz (ijc,qqb):=⟨_,Tryd.func46,by kernel_rfl,_,rfl,by kernel_rfl,by kernel_rfl,by decide,by decide,by decide⟩
theorem rje:OkF Tryd.prog kz (lxb,hzb):=⟨_,Tryd.func56,by kernel_rfl,_,rfl,by kernel_rfl,by kernel_rfl,by decide,by decide,by decide⟩
theorem ozf:OkF Tryd.prog kz (lqc,yzb):=⟨_,Tryd.func57,by kernel_rfl,_,rfl,by kernel_rfl,by kernel_rfl,by decide,by decide,by decide⟩
theorem qje:OkF Tryd.prog kz (kxb,vjb):=⟨_,Tryd.func58,by kernel_rfl,_,rfl,by kernel_rfl,by kernel_rfl,by decide,by decide,by decide⟩
theorem nzf:OkF Tryd.prog kz (kqc,xxb):=⟨_,Tryd.func59,by kernel_rfl,_,rfl,by kernel_rfl,by kernel_rfl,by decide,by decide,by decide⟩
theorem vje:OkF Tryd.prog kz (mxb,yjb):=⟨_,Tryd.func60,by kernel_rfl,_,rfl,by kernel_rfl,by kernel_rfl,by decide,by decide,by decide⟩
theorem pzf:OkF Tryd.prog kz (mqc,yxb):=⟨_,Tryd.func61,by kernel_rfl,_,rfl,by kernel_rfl,by kernel_rfl,by decide,by decide,by decide⟩
theorem sje:OkF Tryd.prog kz (szc,izb):=⟨_,Tryd.func62,by kernel_rfl,_,rfl,by kernel_rfl,by kernel_rfl,by decide,by decide,by decide⟩
theorem txd:OkF Tryd.prog kz (rjb,azb):=⟨_,Tryd.func63,by kernel_rfl,_,rfl,by kernel_rfl,by kernel_rfl,by decide,by decide,by decide⟩
theorem tje:OkF Tryd.prog kz (tzc,wjb):=⟨_,Tryd.func64,by kernel_rfl,_,rfl,by kernel_rfl,by kernel_rfl,by decide,by decide,by decide⟩
theorem uxd:OkF Tryd.prog kz (sjb,bzb):=⟨_,Tryd.func65,by kernel_rfl,_,rfl,by kernel_rfl,by kernel_rfl,by decide,by decide,by decide⟩
theorem uje:OkF Tryd.prog kz (uzc,xjb):=⟨_,Tryd.func66,by kernel_rfl,_,rfl,by kernel_rfl,by kernel_rfl,by decide,by decide,by decide⟩
theorem yxe:OkF Tryd.prog kz (njc,kjb):=⟨_,Tryd.func67,by kernel_rfl,_,rfl,by kernel_rfl,by kernel_rfl,by decide,by decide,by decide⟩
theorem eze:OkF Tryd.prog kz (xx,tzb):=⟨_,Tryd.func68,by kernel_rfl,_,rfl,by kernel_rfl,by kernel_rfl,by decide,by decide,by decide⟩
theorem zjd:OkF Tryd.prog kz (pq,dk):=⟨_,Tryd.func69,by kernel_rfl,_,rfl,by kernel_rfl,by kernel_rfl,by decide,by decide,by decide⟩
theorem lzc:OkF Tryd.prog kz (jq,lj):=⟨_,Tryd.func70,by kernel_rfl,_,rfl,by kernel_rfl,by kernel_rfl,by decide,by decide,by decide⟩
theorem exb:OkF Tryd.prog kz (rj,tz):=⟨_,Tryd.func71,by kernel_rfl,_,rfl,by kernel_rfl,by kernel_rfl,by decide,by decide,by decide⟩
theorem dze:OkF Tryd.prog kz (wx,szb):=⟨_,Tryd.func72,by kernel_rfl,_,rfl,by kernel_rfl,by kernel_rfl,by decide,by decide,by decide⟩
theorem wje:OkF Tryd.prog kz (vzc,px):=⟨_,Tryd.func73,by kernel_rfl,_,rfl,by kernel_rfl,by kernel_rfl,by decide,by decide,by decide⟩
theorem mzf:OkF Tryd.prog kz (jqc,dqb):=⟨_,Tryd.func85,by kernel_rfl,_,rfl,by kernel_rfl,by kernel_rfl,by decide,by decide,by decide⟩
theorem yjd:OkF Tryd.prog kz (ezb,rq):=⟨_,Tryd.func86,by kernel_rfl,_,rfl,by kernel_rfl,by kernel_rfl,by decide,by decide,by decide⟩
theorem rxe:OkF Tryd.prog kz (pkb,jjb):=⟨_,Tryd.func87,by kernel_rfl,_,rfl,by kernel_rfl,by kernel_rfl,by decide,by decide,by decide⟩
theorem axf:OkF Tryd.prog kz (ixc,pxb):=⟨_,Tryd.func96,by kernel_rfl,_,rfl,by kernel_rfl,by kernel_rfl,by decide,by decide,by decide⟩
theorem zqf:OkF Tryd.prog kz (gxc,hzc):=⟨_,Tryd.func97,by kernel_rfl,_,rfl,by kernel_rfl,by kernel_rfl,by decide,by decide,by decide⟩
theorem bxf:OkF Tryd.prog kz (jxc,izc):=⟨_,Tryd.func98,by kernel_rfl,_,rfl,by kernel_rfl,by kernel_rfl,by decide,by decide,by decide⟩
theorem qzf:OkF Tryd.prog kz (cqb,zzb):=⟨_,Tryd.func99,by kernel_rfl,_,rfl,by kernel_rfl,by kernel_rfl,by decide,by decide,by decide⟩
theorem uqd:OkF Tryd.prog kz (xzb,pk):=⟨_,Tryd.func100,by kernel_rfl,_,rfl,by kernel_rfl,by kernel_rfl,by decide,by decide,by decide⟩
theorem nkb:OkF Tryd.prog kz (eq,aj):=⟨_,Tryd.func101,by kernel_rfl,_,rfl,by kernel_rfl,by kernel_rfl,by decide,by decide,by decide⟩
theorem cze:OkF Tryd.prog kz (sx,rzb):=⟨_,Tryd.func102,by kernel_rfl,_,rfl,by kernel_rfl,by kernel_rfl,by decide,by decide,by decide⟩
theorem rzf:OkF Tryd.prog kz (nqc,eqb):=⟨_,Tryd.func103,by kernel_rfl,_,rfl,by kernel_rfl,by kernel_rfl,by decide,by decide,by decide⟩
theorem rzd:OkF Tryd.prog kz (ojb,qx):=⟨_,Tryd.func104,by kernel_rfl,_,rfl,by kernel_rfl,by kernel_rfl,by decide,by decide,by decide⟩
theorem gjc:OkF Tryd.prog kz (uq,gj):=⟨_,Tryd.func105,by kernel_rfl,_,rfl,by kernel_rfl,by kernel_rfl,by decide,by decide,by decide⟩
theorem kkb:OkF Tryd.prog kz (aq,qz):=⟨_,Tryd.func106,by kernel_rfl,_,rfl,by kernel_rfl,by kernel_rfl,by decide,by decide,by decide⟩
theorem rzc:OkF Tryd.prog kz (nq,wz):=⟨_,Tryd.func115,by kernel_rfl,_,rfl,by kernel_rfl,by kernel_rfl,by decide,by decide,by decide⟩
set_option maxRecDepth 100000 in
theorem fqk:AllOk Tryd.prog kz tabL:= .cons xjd (.cons uxe (.cons dxf (.cons yqf (.cons ykd (.cons wxe (.cons xkd (.cons vxe (.cons xxe (.cons bze (.cons tqd (.cons zkd (.cons aze (.cons zxe (.cons txe (.cons lzg (.cons vxd (.cons sxe (.cons cxf (.cons qxe (.cons rje (.cons ozf (.cons qje (.cons nzf (.cons vje (.cons pzf (.cons sje (.cons txd (.cons tje (.cons uxd (.cons uje (.cons yxe (.cons eze (.cons zjd (.cons lzc (.cons exb (.cons dze (.cons wje (.cons mzf (.cons yjd (.cons rxe (.cons axf (.cons zqf (.cons bxf (.cons qzf (.cons uqd (.cons nkb (.cons cze (.cons rzf (.cons rzd (.cons gjc (.cons kkb (.cons rzc (.nil)))))))))))))))))))))))))))))))))))))))))))))))))))))
theorem njl:ExtOk Tryd.prog kz extL:= .cons (mxg ⟨_,25,1,false,[.v (.int .i64 0)],Tryd.func80,by kernel_rfl,by kernel_rfl,Tryd.underlying25,by kernel_rfl,rfl,rfl⟩ (by kernel_rfl)) (.inl rfl) (lkd rfl) (.cons (rzh fzi (by kernel_rfl) (by kernel_rfl) Tryd.func116 (by kernel_rfl) (by kernel_rfl)) (.inr ⟨lkd rfl,rfl⟩) (lkd rfl) (.nil))
end Go.Proofs.YtjdcidigbbbckaaDoor.VM

/- The functions' code is the program's. Printed by a program of ours. -/
import Derived.Test.YtjdcidigbbbckaaDoorCode
import Derived.Test.YtjdcidigbbbckaaDoorVmTop
import Derived.Test.YtjdcidigbbbckaaDoorLays
import Derived.Test.YtjdcidigbbbckaaDoorProg
namespace Go.Proofs.YtjdcidigbbbckaaDoor.VM
open Go Go.Proofs
theorem ake:OkF Tryd.prog kz (iqc,yk):=⟨_,Tryd.func4,by kernel_rfl,_,rfl,by kernel_rfl,by kernel_rfl,by decide,by decide,by decide⟩
theorem bqg:OkF Tryd.prog kz (kqd,sxc):=⟨_,Tryd.func8,by kernel_rfl,_,rfl,by kernel_rfl,by kernel_rfl,by decide,by decide,by decide⟩
theorem zxe:OkF Tryd.prog kz (rxb,wx):=⟨_,Tryd.func10,by kernel_rfl,_,rfl,by kernel_rfl,by kernel_rfl,by decide,by decide,by decide⟩
theorem fqe:OkF Tryd.prog kz (ekb,gjb):=⟨_,Tryd.func11,by kernel_rfl,_,rfl,by kernel_rfl,by kernel_rfl,by decide,by decide,by decide⟩
theorem sze:OkF Tryd.prog kz (ozc,tk):=⟨_,Tryd.func16,by kernel_rfl,_,rfl,by kernel_rfl,by kernel_rfl,by decide,by decide,by decide⟩
theorem cxf:OkF Tryd.prog kz (gkc,wqb):=⟨_,Tryd.func17,by kernel_rfl,_,rfl,by kernel_rfl,by kernel_rfl,by decide,by decide,by decide⟩
theorem fxf:OkF Tryd.prog kz (zzc,xqb):=⟨_,Tryd.func18,by kernel_rfl,_,rfl,by kernel_rfl,by kernel_rfl,by decide,by decide,by decide⟩
theorem dke:OkF Tryd.prog kz (sxb,dk):=⟨_,Tryd.func29,by kernel_rfl,_,rfl,by kernel_rfl,by kernel_rfl,by decide,by decide,by decide⟩
theorem yxe:OkF Tryd.prog kz (hqc,wzb):=⟨_,Tryd.func37,by kernel_rfl,_,rfl,by kernel_rfl,by kernel_rfl,by decide,by decide,by decide⟩
theorem gzg:OkF Tryd.prog kz (dkb,fkb):=⟨_,Tryd.func38,by kernel_rfl,_,rfl,by kernel_rfl,by kernel_rfl,by decide,by decide,by decide⟩
theorem lkd:OkF Tryd.prog kz (qqb,ajb):=⟨_,Tryd.func39,by kernel_rfl,_,rfl,by kernel_rfl,by kernel_rfl,by decide,by decide,by decide⟩
theorem dxf:OkF Tryd.prog kz (hkc,cjc):=⟨_,Tryd.func40,by kernel_rfl,_,rfl,by kernel_rfl,by kernel_rfl,by decide,by decide,by decide⟩
theorem xxe:OkF Tryd.prog kz (gqc,uxb):=⟨_,Tryd.func41,by kernel_rfl,_,rfl,by kernel_rfl,by kernel_rfl,by decide,by decide,by decide⟩
theorem exf:OkF Tryd.prog kz (oqc,djc):=⟨_,Tryd.func45,by kernel_rfl,_,rfl,by kernel_rfl,by kernel_rfl,by decide,by decide,by decide⟩
theorem vxe:OkF Tryd.prog kz (izc,txb):=⟨_,Tryd.func46,by kernel_rfl,_,rfl,by kernel_rfl,by kernel_rfl,by decide,by decide,by decide⟩
theorem szf:OkF Tryd.prog kz (kxc,pkb):=⟨_,Tryd.func47,by kernel_rfl,_,rfl,by kernel_rfl,by kernel_rfl,by decide,by decide,by decide⟩
theorem hkd:OkF Tryd.prog kz (lkb,vq):=⟨_,Tryd.func48,by kernel_rfl,_,rfl,by kernel_rfl,by kernel_rfl,by decide,by decide,by decide⟩
theorem jkd:OkF Tryd.prog kz (nkb,zzb):=⟨_,Tryd.func49,by kernel_rfl,_,rfl,by kernel_rfl,by kernel_rfl,by decide,by decide,by decide⟩
theorem kkd:OkF Tryd.prog kz (tz,lx):=⟨_,Tryd.func50,by kernel_rfl,_,rfl,by kernel_rfl,by kernel_rfl,by decide,by decide,by decide⟩
theorem ozf:OkF Tryd.prog kz (mjc,bxb):=⟨_,Tryd.func51,by kernel_rfl,_,rfl,by kernel_rfl,by kernel_rfl,by decide,by decide,by decide⟩
theorem pze:OkF Tryd.prog kz (nk,jzb):=⟨_,Tryd.func52,by kernel_rfl,_,rfl,by kernel_rfl,by kernel_rfl,by decide,by decide,by decide⟩
theorem njd:OkF Tryd.prog kz (xjb,aj):=⟨_,Tryd.func53,by kernel_rfl,_,rfl,by kernel_rfl,by kernel_rfl,by decide,by decide,by decide⟩
theorem pzf:OkF Tryd.prog kz (ixc,uzb):=⟨_,Tryd.func54,by kernel_rfl,_,rfl,by kernel_rfl,by kernel_rfl,by decide,by decide,by decide⟩
theorem tze:OkF Tryd.prog kz (pzc,lzb):=⟨_,Tryd.func55,by kernel_rfl,_,rfl,by kernel_rfl,by kernel_rfl,by decide,by decide,by decide⟩
theorem cke:OkF Tryd.prog kz (jqc,gqb):=⟨_,Tryd.func67,by kernel_rfl,_,rfl,by kernel_rfl,by kernel_rfl,by decide,by decide,by decide⟩
theorem wze:OkF Tryd.prog kz (rk,sjb):=⟨_,Tryd.func68,by kernel_rfl,_,rfl,by kernel_rfl,by kernel_rfl,by decide,by decide,by decide⟩
theorem sqd:OkF Tryd.prog kz (gx,xk):=⟨_,Tryd.func69,by kernel_rfl,_,rfl,by kernel_rfl,by kernel_rfl,by decide,by decide,by decide⟩
theorem fjc:OkF Tryd.prog kz (xq,uj):=⟨_,Tryd.func70,by kernel_rfl,_,rfl,by kernel_rfl,by kernel_rfl,by decide,by decide,by decide⟩
theorem zxb:OkF Tryd.prog kz (fq,cj):=⟨_,Tryd.func71,by kernel_rfl,_,rfl,by kernel_rfl,by kernel_rfl,by decide,by decide,by decide⟩
theorem vze:OkF Tryd.prog kz (qk,rjb):=⟨_,Tryd.func72,by kernel_rfl,_,rfl,by kernel_rfl,by kernel_rfl,by decide,by decide,by decide⟩
theorem eqe:OkF Tryd.prog kz (ojc,gk):=⟨_,Tryd.func73,by kernel_rfl,_,rfl,by kernel_rfl,by kernel_rfl,by decide,by decide,by decide⟩
theorem rzf:OkF Tryd.prog kz (jxc,cxb):=⟨_,Tryd.func85,by kernel_rfl,_,rfl,by kernel_rfl,by kernel_rfl,by decide,by decide,by decide⟩
theorem rqd:OkF Tryd.prog kz (djb,jx):=⟨_,Tryd.func86,by kernel_rfl,_,rfl,by kernel_rfl,by kernel_rfl,by decide,by decide,by decide⟩
theorem wxe:OkF Tryd.prog kz (jzc,eqb):=⟨_,Tryd.func87,by kernel_rfl,_,rfl,by kernel_rfl,by kernel_rfl,by decide,by decide,by decide⟩
theorem ikd:OkF Tryd.prog kz (mkb,yzb):=⟨_,Tryd.func88,by kernel_rfl,_,rfl,by kernel_rfl,by kernel_rfl,by decide,by decide,by decide⟩
theorem oze:OkF Tryd.prog kz (mzc,izb):=⟨_,Tryd.func89,by kernel_rfl,_,rfl,by kernel_rfl,by kernel_rfl,by decide,by decide,by decide⟩
theorem qze:OkF Tryd.prog kz (gzb,kzb):=⟨_,Tryd.func90,by kernel_rfl,_,rfl,by kernel_rfl,by kernel_rfl,by decide,by decide,by decide⟩
theorem dqe:OkF Tryd.prog kz (cjb,sx):=⟨_,Tryd.func91,by kernel_rfl,_,rfl,by kernel_rfl,by kernel_rfl,by decide,by decide,by decide⟩
theorem qzf:OkF Tryd.prog kz (njc,zjb):=⟨_,Tryd.func92,by kernel_rfl,_,rfl,by kernel_rfl,by kernel_rfl,by decide,by decide,by decide⟩
theorem wxc:OkF Tryd.prog kz (px,xj):=⟨_,Tryd.func93,by kernel_rfl,_,rfl,by kernel_rfl,by kernel_rfl,by decide,by decide,by decide⟩
theorem fzb:OkF Tryd.prog kz (vz,nz):=⟨_,Tryd.func94,by kernel_rfl,_,rfl,by kernel_rfl,by kernel_rfl,by decide,by decide,by decide⟩
theorem bke:OkF Tryd.prog kz (cqb,fqb):=⟨_,Tryd.func95,by kernel_rfl,_,rfl,by kernel_rfl,by kernel_rfl,by decide,by decide,by decide⟩
theorem tzf:OkF Tryd.prog kz (yqb,aqb):=⟨_,Tryd.func99,by kernel_rfl,_,rfl,by kernel_rfl,by kernel_rfl,by decide,by decide,by decide⟩
theorem lxd:OkF Tryd.prog kz (yjb,ezb):=⟨_,Tryd.func100,by kernel_rfl,_,rfl,by kernel_rfl,by kernel_rfl,by decide,by decide,by decide⟩
theorem fzc:OkF Tryd.prog kz (pq,lj):=⟨_,Tryd.func101,by kernel_rfl,_,rfl,by kernel_rfl,by kernel_rfl,by decide,by decide,by decide⟩
theorem uze:OkF Tryd.prog kz (pk,qjb):=⟨_,Tryd.func102,by kernel_rfl,_,rfl,by kernel_rfl,by kernel_rfl,by decide,by decide,by decide⟩
theorem uzf:OkF Tryd.prog kz (lxc,dxb):=⟨_,Tryd.func103,by kernel_rfl,_,rfl,by kernel_rfl,by kernel_rfl,by decide,by decide,by decide⟩
theorem qjd:OkF Tryd.prog kz (lqb,ik):=⟨_,Tryd.func104,by kernel_rfl,_,rfl,by kernel_rfl,by kernel_rfl,by decide,by decide,by decide⟩
theorem cqc:OkF Tryd.prog kz (qx,rj):=⟨_,Tryd.func105,by kernel_rfl,_,rfl,by kernel_rfl,by kernel_rfl,by decide,by decide,by decide⟩
theorem czc:OkF Tryd.prog kz (oq,uz):=⟨_,Tryd.func106,by kernel_rfl,_,rfl,by kernel_rfl,by kernel_rfl,by decide,by decide,by decide⟩
theorem nze:OkF Tryd.prog kz (lzc,pjb):=⟨_,Tryd.func109,by kernel_rfl,_,rfl,by kernel_rfl,by kernel_rfl,by decide,by decide,by decide⟩
theorem rze:OkF Tryd.prog kz (nzc,sk):=⟨_,Tryd.func114,by kernel_rfl,_,rfl,by kernel_rfl,by kernel_rfl,by decide,by decide,by decide⟩
theorem ljc:OkF Tryd.prog kz (ex,jj):=⟨_,Tryd.func115,by kernel_rfl,_,rfl,by kernel_rfl,by kernel_rfl,by decide,by decide,by decide⟩
set_option maxRecDepth 100000 in
theorem axk:AllOk Tryd.prog kz tabL:= .cons ake (.cons bqg (.cons zxe (.cons fqe (.cons sze (.cons cxf (.cons fxf (.cons dke (.cons yxe (.cons gzg (.cons lkd (.cons dxf (.cons xxe (.cons exf (.cons vxe (.cons szf (.cons hkd (.cons jkd (.cons kkd (.cons ozf (.cons pze (.cons njd (.cons pzf (.cons tze (.cons cke (.cons wze (.cons sqd (.cons fjc (.cons zxb (.cons vze (.cons eqe (.cons rzf (.cons rqd (.cons wxe (.cons ikd (.cons oze (.cons qze (.cons dqe (.cons qzf (.cons wxc (.cons fzb (.cons bke (.cons tzf (.cons lxd (.cons fzc (.cons uze (.cons uzf (.cons qjd (.cons cqc (.cons czc (.cons nze (.cons rze (.cons ljc (.nil)))))))))))))))))))))))))))))))))))))))))))))))))))))
theorem mql:ExtOk Tryd.prog kz extL:= .cons (axg ⟨_,25,1,false,[.v (.int .i64 0)],Tryd.func80,by kernel_rfl,by kernel_rfl,Tryd.underlying25,by kernel_rfl,rfl,rfl⟩ (by kernel_rfl)) (.inl rfl) (bze rfl) (.cons (hzh fzi (by kernel_rfl) (by kernel_rfl) Tryd.func116 (by kernel_rfl) (by kernel_rfl)) (.inr ⟨bze rfl,rfl⟩) (bze rfl) (.nil))
end Go.Proofs.YtjdcidigbbbckaaDoor.VM

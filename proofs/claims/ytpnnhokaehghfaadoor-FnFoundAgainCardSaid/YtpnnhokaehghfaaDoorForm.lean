/- The functions' code is the program's. Printed by a program of ours. -/
import Derived.Test.YtpnnhokaehghfaaDoorCode
import Derived.Test.YtpnnhokaehghfaaDoorVmTop
import Derived.Test.YtpnnhokaehghfaaDoorLays
import Derived.Test.YtpnnhokaehghfaaDoorProg
namespace Go.Proofs.YtpnnhokaehghfaaDoor.VM
open Go Go.Proofs
theorem vl3:OkF Tryd.prog writes (vd8,vbz):=okF Tryd.func3 _ rfl
theorem vu1:OkF Tryd.prog writes (vlv,vga):=okF Tryd.func4 _ rfl
theorem vkx:OkF Tryd.prog writes (ve4,vci):=okF Tryd.func5 _ rfl
theorem vnw:OkF Tryd.prog writes (vg5,vdx):=okF Tryd.func6 _ rfl
theorem vun:OkF Tryd.prog writes (vl1,vhm):=okF Tryd.func7 _ rfl
theorem vmn:OkF Tryd.prog writes (vfy,vcy):=okF Tryd.func8 _ rfl
theorem vs4:OkF Tryd.prog writes (vkg,vgj):=okF Tryd.func9 _ rfl
theorem vnv:OkF Tryd.prog writes (vgw,vda):=okF Tryd.func10 _ rfl
theorem vq6:OkF Tryd.prog writes (viw,vdm):=okF Tryd.func11 _ rfl
theorem vou:OkF Tryd.prog writes (vhh,vbd):=okF Tryd.func12 _ rfl
theorem vpz:OkF Tryd.prog writes (vid,vgb):=okF Tryd.func13 _ rfl
theorem voy:OkF Tryd.prog writes (vfq,vfr):=okF Tryd.func14 _ rfl
theorem vnz:OkF Tryd.prog writes (vgz,ve0):=okF Tryd.func15 _ rfl
theorem vmk:OkF Tryd.prog writes (vfw,veg):=okF Tryd.func16 _ rfl
theorem vkn:OkF Tryd.prog writes (vez,vdt):=okF Tryd.func18 _ rfl
theorem vur:OkF Tryd.prog writes (vl0,vi2):=okF Tryd.func19 _ rfl
theorem vsu:OkF Tryd.prog writes (vkc,vih):=okF Tryd.func20 _ rfl
theorem voj:OkF Tryd.prog writes (vhj,vdi):=okF Tryd.func21 _ rfl
theorem vpy:OkF Tryd.prog writes (vie,vdv):=okF Tryd.func22 _ rfl
theorem vm6:OkF Tryd.prog writes (vgh,vb0):=okF Tryd.func23 _ rfl
theorem vnu:OkF Tryd.prog writes (vg0,vdb):=okF Tryd.func24 _ rfl
theorem vp6:OkF Tryd.prog writes (vh0,vf2):=okF Tryd.func25 _ rfl
theorem vq2:OkF Tryd.prog writes (viu,vgo):=okF Tryd.func26 _ rfl
theorem vjv:OkF Tryd.prog writes (vel,vdf):=okF Tryd.func27 _ rfl
theorem voo:OkF Tryd.prog writes (vho,vfo):=okF Tryd.func28 _ rfl
theorem vsl:OkF Tryd.prog writes (vjd,vhs):=okF Tryd.func29 _ rfl
theorem vnx:OkF Tryd.prog writes (vg2,vcw):=okF Tryd.func31 _ rfl
theorem vp0:OkF Tryd.prog writes (vh6,vgd):=okF Tryd.func32 _ rfl
theorem vn4:OkF Tryd.prog writes (vfc,ve2):=okF Tryd.func33 _ rfl
theorem vk6:OkF Tryd.prog writes (vd3,vd0):=okF Tryd.func34 _ rfl
theorem vge:OkF Tryd.prog writes (vcr,vb3):=okF Tryd.func35 _ rfl
theorem vfb:OkF Tryd.prog writes (vb9,vbq):=okF Tryd.func36 _ rfl
theorem vn5:OkF Tryd.prog writes (vfa,ve1):=okF Tryd.func37 _ rfl
theorem vph:OkF Tryd.prog writes (vhg,vfp):=okF Tryd.func38 _ rfl
theorem vn6:OkF Tryd.prog writes (vg3,ve7):=okF Tryd.func39 _ rfl
theorem vrc:OkF Tryd.prog writes (vi0,vgr):=okF Tryd.func40 _ rfl
theorem vmi:OkF Tryd.prog writes (vf1,veh):=okF Tryd.func41 _ rfl
theorem vjb:OkF Tryd.prog writes (veb,vc5):=okF Tryd.func42 _ rfl
theorem vn7:OkF Tryd.prog writes (vgv,ve3):=okF Tryd.func43 _ rfl
theorem vq1:OkF Tryd.prog writes (viv,vgs):=okF Tryd.func44 _ rfl
theorem vny:OkF Tryd.prog writes (vgx,vey):=okF Tryd.func45 _ rfl
theorem vky:OkF Tryd.prog writes (ve5,vdq):=okF Tryd.func46 _ rfl
theorem vkp:OkF Tryd.prog writes (vds,vdp):=okF Tryd.func47 _ rfl
theorem vok:OkF Tryd.prog writes (vht,vfn):=okF Tryd.func48 _ rfl
theorem vsn:OkF Tryd.prog writes (vjo,vhv):=okF Tryd.func49 _ rfl
theorem vlz:OkF Tryd.prog writes (vd7,vd1):=okF Tryd.func50 _ rfl
theorem vjx:OkF Tryd.prog writes (vdd,vde):=okF Tryd.func51 _ rfl
theorem vmv:OkF Tryd.prog writes (vgg,vep):=okF Tryd.func52 _ rfl
theorem vl2:OkF Tryd.prog writes (vfm,vd5):=okF Tryd.func53 _ rfl
theorem vmg:OkF Tryd.prog writes (vfz,vej):=okF Tryd.func54 _ rfl
theorem vne:OkF Tryd.prog writes (vgf,veo):=okF Tryd.func55 _ rfl
theorem vfv:OkF Tryd.prog writes (vcl,vbv):=okF Tryd.func56 _ rfl
theorem vn1:OkF Tryd.prog writes (vfe,ve9):=okF Tryd.func57 _ rfl
theorem vra:OkF Tryd.prog writes (viz,vgq):=okF Tryd.func58 _ rfl
theorem vhd:OkF Tryd.prog writes (vc3,vce):=okF Tryd.func59 _ rfl
theorem vfs:OkF Tryd.prog writes (vcg,vbs):=okF Tryd.func60 _ rfl
theorem vhf:OkF Tryd.prog writes (vc4,vcf):=okF Tryd.func61 _ rfl
theorem vio:OkF Tryd.prog writes (vdn,vcu):=okF Tryd.func62 _ rfl
theorem vly:OkF Tryd.prog writes (vd6,vdz):=okF Tryd.func63 _ rfl
theorem vgl:OkF Tryd.prog writes (vcv,vb7):=okF Tryd.func64 _ rfl
theorem vlk:OkF Tryd.prog writes (vd2,vd9):=okF Tryd.func103 _ rfl
set_option maxRecDepth 100000 in
theorem qew:AllOk Tryd.prog writes tabL:= .cons vl3 (.cons vu1 (.cons vkx (.cons vnw (.cons vun (.cons vmn (.cons vs4 (.cons vnv (.cons vq6 (.cons vou (.cons vpz (.cons voy (.cons vnz (.cons vmk (.cons vkn (.cons vur (.cons vsu (.cons voj (.cons vpy (.cons vm6 (.cons vnu (.cons vp6 (.cons vq2 (.cons vjv (.cons voo (.cons vsl (.cons vnx (.cons vp0 (.cons vn4 (.cons vk6 (.cons vge (.cons vfb (.cons vn5 (.cons vph (.cons vn6 (.cons vrc (.cons vmi (.cons vjb (.cons vn7 (.cons vq1 (.cons vny (.cons vky (.cons vkp (.cons vok (.cons vsn (.cons vlz (.cons vjx (.cons vmv (.cons vl2 (.cons vmg (.cons vne (.cons vfv (.cons vn1 (.cons vra (.cons vhd (.cons vfs (.cons vhf (.cons vio (.cons vly (.cons vgl (.cons vlk (.nil)))))))))))))))))))))))))))))))))))))))))))))))))))))))))))))
theorem qep:ExtOk Tryd.prog writes extL:= .cons (vut ⟨_,26,1,[.v (.int .i64 0)],Tryd.func17,by kernel_rfl,by kernel_rfl,Tryd.underlying26,by kernel_rfl,rfl,rfl⟩ (by kernel_rfl)) (.inl rfl) (.inr (vjj rfl)) (.cons (vs1 ⟨_,27,2,[.v (.int .i64 0),.nl vb6],Tryd.func30,by kernel_rfl,by kernel_rfl,Tryd.underlying27,by kernel_rfl,rfl,rfl⟩ (by kernel_rfl)) (.inl (by decide)) (.inl (by decide)) (.cons (vw6 vzw (by kernel_rfl) (by kernel_rfl) Tryd.func65 (by kernel_rfl) (by kernel_rfl)) (.inr ⟨vjj rfl,rfl⟩) (.inr (vjj rfl)) (.nil)))

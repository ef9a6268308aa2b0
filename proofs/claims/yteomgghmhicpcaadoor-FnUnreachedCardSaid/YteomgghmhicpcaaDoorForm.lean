/- The functions' code is the program's. Printed by a program of ours. -/
import Derived.Test.YteomgghmhicpcaaDoorCode
import Derived.Test.YteomgghmhicpcaaDoorVmTop
import Derived.Test.YteomgghmhicpcaaDoorLays
import Derived.Test.YteomgghmhicpcaaDoorProg
namespace Go.Proofs.YteomgghmhicpcaaDoor.VM
open Go Go.Proofs
theorem vgy:OkF Tryd.prog writes (n_laws_FnUnreached,f_laws_FnUnreached):=⟨_,Tryd.func3,by kernel_rfl,_,rfl,by kernel_rfl,by kernel_rfl,by decide,by decide,by decide,by kernel_rfl⟩
theorem vqb:OkF Tryd.prog writes (n_laws_big,f_laws_big):=⟨_,Tryd.func8,by kernel_rfl,_,rfl,by kernel_rfl,by kernel_rfl,by decide,by decide,by decide,by kernel_rfl⟩
theorem vgg:OkF Tryd.prog writes (n_spec_DrawLinesFor,f_spec_DrawLinesFor):=⟨_,Tryd.func9,by kernel_rfl,_,rfl,by kernel_rfl,by kernel_rfl,by decide,by decide,by decide,by kernel_rfl⟩
theorem vkf:OkF Tryd.prog writes (n_spec_GraphOk,f_spec_GraphOk):=⟨_,Tryd.func10,by kernel_rfl,_,rfl,by kernel_rfl,by kernel_rfl,by decide,by decide,by decide,by kernel_rfl⟩
theorem vji:OkF Tryd.prog writes (n_impl_LinesFor,f_impl_LinesFor):=⟨_,Tryd.func11,by kernel_rfl,_,rfl,by kernel_rfl,by kernel_rfl,by decide,by decide,by decide,by kernel_rfl⟩
theorem vjr:OkF Tryd.prog writes (n_spec_LinesFor,f_spec_LinesFor):=⟨_,Tryd.func12,by kernel_rfl,_,rfl,by kernel_rfl,by kernel_rfl,by decide,by decide,by decide,by kernel_rfl⟩
theorem vie:OkF Tryd.prog writes (n_laws_sameGraph,f_laws_sameGraph):=⟨_,Tryd.func13,by kernel_rfl,_,rfl,by kernel_rfl,by kernel_rfl,by decide,by decide,by decide,by kernel_rfl⟩
theorem vnu:OkF Tryd.prog writes (n_impl_Plain,f_impl_Plain):=⟨_,Tryd.func14,by kernel_rfl,_,rfl,by kernel_rfl,by kernel_rfl,by decide,by decide,by decide,by kernel_rfl⟩
theorem vnp:OkF Tryd.prog writes (n_spec_Plain,f_spec_Plain):=⟨_,Tryd.func15,by kernel_rfl,_,rfl,by kernel_rfl,by kernel_rfl,by decide,by decide,by decide,by kernel_rfl⟩
theorem vnr:OkF Tryd.prog writes (n_spec_Alike,f_spec_Alike):=⟨_,Tryd.func17,by kernel_rfl,_,rfl,by kernel_rfl,by kernel_rfl,by decide,by decide,by decide,by kernel_rfl⟩
theorem vnw:OkF Tryd.prog writes (n_impl_Alike,f_impl_Alike):=⟨_,Tryd.func18,by kernel_rfl,_,rfl,by kernel_rfl,by kernel_rfl,by decide,by decide,by decide,by kernel_rfl⟩
theorem vk7:OkF Tryd.prog writes (n_impl_GraphOk,f_impl_GraphOk):=⟨_,Tryd.func34,by kernel_rfl,_,rfl,by kernel_rfl,by kernel_rfl,by decide,by decide,by decide,by kernel_rfl⟩
theorem vgw:OkF Tryd.prog writes (n_spec_DrawGraphOk,f_spec_DrawGraphOk):=⟨_,Tryd.func36,by kernel_rfl,_,rfl,by kernel_rfl,by kernel_rfl,by decide,by decide,by decide,by kernel_rfl⟩
theorem vkj:OkF Tryd.prog writes (n_spec_TypesOk,f_spec_TypesOk):=⟨_,Tryd.func37,by kernel_rfl,_,rfl,by kernel_rfl,by kernel_rfl,by decide,by decide,by decide,by kernel_rfl⟩
theorem vou:OkF Tryd.prog writes (n_spec_l1In,f_spec_l1In):=⟨_,Tryd.func38,by kernel_rfl,_,rfl,by kernel_rfl,by kernel_rfl,by decide,by decide,by decide,by kernel_rfl⟩
theorem vhf:OkF Tryd.prog writes (n_impl_discovered,f_impl_discovered):=⟨_,Tryd.func39,by kernel_rfl,_,rfl,by kernel_rfl,by kernel_rfl,by decide,by decide,by decide,by kernel_rfl⟩
theorem vnt:OkF Tryd.prog writes (n_impl_runOf,f_impl_runOf):=⟨_,Tryd.func40,by kernel_rfl,_,rfl,by kernel_rfl,by kernel_rfl,by decide,by decide,by decide,by kernel_rfl⟩
theorem vj8:OkF Tryd.prog writes (n_spec_l7Found,f_spec_l7Found):=⟨_,Tryd.func41,by kernel_rfl,_,rfl,by kernel_rfl,by kernel_rfl,by decide,by decide,by decide,by kernel_rfl⟩
theorem vns:OkF Tryd.prog writes (n_spec_RunOf,f_spec_RunOf):=⟨_,Tryd.func42,by kernel_rfl,_,rfl,by kernel_rfl,by kernel_rfl,by decide,by decide,by decide,by kernel_rfl⟩
theorem vjw:OkF Tryd.prog writes (n_laws_sameInts,f_laws_sameInts):=⟨_,Tryd.func43,by kernel_rfl,_,rfl,by kernel_rfl,by kernel_rfl,by decide,by decide,by decide,by kernel_rfl⟩
theorem vkb:OkF Tryd.prog writes (n_laws_sameObj,f_laws_sameObj):=⟨_,Tryd.func44,by kernel_rfl,_,rfl,by kernel_rfl,by kernel_rfl,by decide,by decide,by decide,by kernel_rfl⟩
theorem vnf:OkF Tryd.prog writes (n_impl_plain,f_impl_plain):=⟨_,Tryd.func45,by kernel_rfl,_,rfl,by kernel_rfl,by kernel_rfl,by decide,by decide,by decide,by kernel_rfl⟩
theorem vku:OkF Tryd.prog writes (n_spec_l7Plain,f_spec_l7Plain):=⟨_,Tryd.func46,by kernel_rfl,_,rfl,by kernel_rfl,by kernel_rfl,by decide,by decide,by decide,by kernel_rfl⟩
theorem vl1:OkF Tryd.prog writes (n_spec_l1Open,f_spec_l1Open):=⟨_,Tryd.func47,by kernel_rfl,_,rfl,by kernel_rfl,by kernel_rfl,by decide,by decide,by decide,by kernel_rfl⟩
theorem vhk:OkF Tryd.prog writes (n_spec_l1Rd_types,f_spec_l1Rd_types):=⟨_,Tryd.func48,by kernel_rfl,_,rfl,by kernel_rfl,by kernel_rfl,by decide,by decide,by decide,by kernel_rfl⟩
theorem vhg:OkF Tryd.prog writes (n_spec_l1Rd_graph,f_spec_l1Rd_graph):=⟨_,Tryd.func49,by kernel_rfl,_,rfl,by kernel_rfl,by kernel_rfl,by decide,by decide,by decide,by kernel_rfl⟩
theorem vg9:OkF Tryd.prog writes (n_spec_l1Rd_below,f_spec_l1Rd_below):=⟨_,Tryd.func50,by kernel_rfl,_,rfl,by kernel_rfl,by kernel_rfl,by decide,by decide,by decide,by kernel_rfl⟩
theorem vl2:OkF Tryd.prog writes (n_spec_l7Turn,f_spec_l7Turn):=⟨_,Tryd.func51,by kernel_rfl,_,rfl,by kernel_rfl,by kernel_rfl,by decide,by decide,by decide,by kernel_rfl⟩
theorem vih:OkF Tryd.prog writes (n_spec_l1Rd_once,f_spec_l1Rd_once):=⟨_,Tryd.func52,by kernel_rfl,_,rfl,by kernel_rfl,by kernel_rfl,by decide,by decide,by decide,by kernel_rfl⟩
theorem vfb:OkF Tryd.prog writes (n_spec_l1Rd_hurtGraph,f_spec_l1Rd_hurtGraph):=⟨_,Tryd.func53,by kernel_rfl,_,rfl,by kernel_rfl,by kernel_rfl,by decide,by decide,by decide,by kernel_rfl⟩
theorem vlz:OkF Tryd.prog writes (n_spec_l7Same,f_spec_l7Same):=⟨_,Tryd.func54,by kernel_rfl,_,rfl,by kernel_rfl,by kernel_rfl,by decide,by decide,by decide,by kernel_rfl⟩
theorem vig:OkF Tryd.prog writes (n_impl_sameGraph,f_impl_sameGraph):=⟨_,Tryd.func55,by kernel_rfl,_,rfl,by kernel_rfl,by kernel_rfl,by decide,by decide,by decide,by kernel_rfl⟩
theorem vky:OkF Tryd.prog writes (n_impl_TypesOk,f_impl_TypesOk):=⟨_,Tryd.func76,by kernel_rfl,_,rfl,by kernel_rfl,by kernel_rfl,by decide,by decide,by decide,by kernel_rfl⟩
theorem vik:OkF Tryd.prog writes (n_impl_GraphOk_1,f_impl_GraphOk_1):=⟨_,Tryd.func77,by kernel_rfl,_,rfl,by kernel_rfl,by kernel_rfl,by decide,by decide,by decide,by kernel_rfl⟩
theorem vge:OkF Tryd.prog writes (n_impl_Graph_isNode,f_impl_Graph_isNode):=⟨_,Tryd.func78,by kernel_rfl,_,rfl,by kernel_rfl,by kernel_rfl,by decide,by decide,by decide,by kernel_rfl⟩
theorem vcw:OkF Tryd.prog writes (n_slices_ContainsFunc_int64_int64,f_slices_ContainsFunc_int64_int64):=⟨_,Tryd.func79,by kernel_rfl,_,rfl,by kernel_rfl,by kernel_rfl,by decide,by decide,by decide,by kernel_rfl⟩
theorem vci:OkF Tryd.prog writes (n_slices_ContainsFunc_impl_Obj_impl_Obj,f_slices_ContainsFunc_impl_Obj_impl_Obj):=⟨_,Tryd.func80,by kernel_rfl,_,rfl,by kernel_rfl,by kernel_rfl,by decide,by decide,by decide,by kernel_rfl⟩
theorem vic:OkF Tryd.prog writes (n_impl_GraphOk_2,f_impl_GraphOk_2):=⟨_,Tryd.func81,by kernel_rfl,_,rfl,by kernel_rfl,by kernel_rfl,by decide,by decide,by decide,by kernel_rfl⟩
theorem vi7:OkF Tryd.prog writes (n_impl_isObject,f_impl_isObject):=⟨_,Tryd.func82,by kernel_rfl,_,rfl,by kernel_rfl,by kernel_rfl,by decide,by decide,by decide,by kernel_rfl⟩
theorem ve9:OkF Tryd.prog writes (n_spec_l1Rd_hurtTypes,f_spec_l1Rd_hurtTypes):=⟨_,Tryd.func84,by kernel_rfl,_,rfl,by kernel_rfl,by kernel_rfl,by decide,by decide,by decide,by kernel_rfl⟩
theorem vlu:OkF Tryd.prog writes (n_spec_l3Type,f_spec_l3Type):=⟨_,Tryd.func85,by kernel_rfl,_,rfl,by kernel_rfl,by kernel_rfl,by decide,by decide,by decide,by kernel_rfl⟩
theorem vgk:OkF Tryd.prog writes (n_impl_discovered_1,f_impl_discovered_1):=⟨_,Tryd.func86,by kernel_rfl,_,rfl,by kernel_rfl,by kernel_rfl,by decide,by decide,by decide,by kernel_rfl⟩
theorem vk2:OkF Tryd.prog writes (n_spec_l7Place,f_spec_l7Place):=⟨_,Tryd.func87,by kernel_rfl,_,rfl,by kernel_rfl,by kernel_rfl,by decide,by decide,by decide,by kernel_rfl⟩
theorem vhv:OkF Tryd.prog writes (n_spec_l1Rd_kinds,f_spec_l1Rd_kinds):=⟨_,Tryd.func88,by kernel_rfl,_,rfl,by kernel_rfl,by kernel_rfl,by decide,by decide,by decide,by kernel_rfl⟩
theorem vij:OkF Tryd.prog writes (n_spec_l1Rd_size,f_spec_l1Rd_size):=⟨_,Tryd.func89,by kernel_rfl,_,rfl,by kernel_rfl,by kernel_rfl,by decide,by decide,by decide,by kernel_rfl⟩
theorem vio:OkF Tryd.prog writes (n_spec_l1Rd_next,f_spec_l1Rd_next):=⟨_,Tryd.func90,by kernel_rfl,_,rfl,by kernel_rfl,by kernel_rfl,by decide,by decide,by decide,by kernel_rfl⟩
theorem vjo:OkF Tryd.prog writes (n_spec_l1Rd_off,f_spec_l1Rd_off):=⟨_,Tryd.func91,by kernel_rfl,_,rfl,by kernel_rfl,by kernel_rfl,by decide,by decide,by decide,by kernel_rfl⟩
theorem vl4:OkF Tryd.prog writes (n_spec_l7Ints,f_spec_l7Ints):=⟨_,Tryd.func92,by kernel_rfl,_,rfl,by kernel_rfl,by kernel_rfl,by decide,by decide,by decide,by kernel_rfl⟩
theorem vd8:OkF Tryd.prog writes (n_slices_Equal_int64_int64,f_slices_Equal_int64_int64):=⟨_,Tryd.func93,by kernel_rfl,_,rfl,by kernel_rfl,by kernel_rfl,by decide,by decide,by decide,by kernel_rfl⟩
theorem vbv:OkF Tryd.prog writes (n_slices_EqualFunc_impl_Obj_impl_Obj_impl_Obj_impl_Obj,f_slices_EqualFunc_impl_Obj_impl_Obj_impl_Obj_impl_Obj):=⟨_,Tryd.func94,by kernel_rfl,_,rfl,by kernel_rfl,by kernel_rfl,by decide,by decide,by decide,by kernel_rfl⟩
theorem vj9:OkF Tryd.prog writes (n_impl_sameObj,f_impl_sameObj):=⟨_,Tryd.func95,by kernel_rfl,_,rfl,by kernel_rfl,by kernel_rfl,by decide,by decide,by decide,by kernel_rfl⟩
theorem vil:OkF Tryd.prog writes (n_spec_l1Rd_word,f_spec_l1Rd_word):=⟨_,Tryd.func99,by kernel_rfl,_,rfl,by kernel_rfl,by kernel_rfl,by decide,by decide,by decide,by kernel_rfl⟩
theorem vl5:OkF Tryd.prog writes (n_impl_within,f_impl_within):=⟨_,Tryd.func104,by kernel_rfl,_,rfl,by kernel_rfl,by kernel_rfl,by decide,by decide,by decide,by kernel_rfl⟩
theorem vgx:OkF Tryd.prog writes (n_impl_size_string,f_impl_size_string):=⟨_,Tryd.func105,by kernel_rfl,_,rfl,by kernel_rfl,by kernel_rfl,by decide,by decide,by decide,by kernel_rfl⟩
theorem vcq:OkF Tryd.prog writes (n_slices_ContainsFunc_string_string,f_slices_ContainsFunc_string_string):=⟨_,Tryd.func106,by kernel_rfl,_,rfl,by kernel_rfl,by kernel_rfl,by decide,by decide,by decide,by kernel_rfl⟩
theorem vin:OkF Tryd.prog writes (n_impl_TypesOk_1,f_impl_TypesOk_1):=⟨_,Tryd.func107,by kernel_rfl,_,rfl,by kernel_rfl,by kernel_rfl,by decide,by decide,by decide,by kernel_rfl⟩
theorem vle:OkF Tryd.prog writes (n_impl_isType,f_impl_isType):=⟨_,Tryd.func108,by kernel_rfl,_,rfl,by kernel_rfl,by kernel_rfl,by decide,by decide,by decide,by kernel_rfl⟩
theorem vfj:OkF Tryd.prog writes (n_impl_size_impl_Obj,f_impl_size_impl_Obj):=⟨_,Tryd.func109,by kernel_rfl,_,rfl,by kernel_rfl,by kernel_rfl,by decide,by decide,by decide,by kernel_rfl⟩
theorem vdb:OkF Tryd.prog writes (n_slices_IndexFunc_int64_int64,f_slices_IndexFunc_int64_int64):=⟨_,Tryd.func110,by kernel_rfl,_,rfl,by kernel_rfl,by kernel_rfl,by decide,by decide,by decide,by kernel_rfl⟩
theorem vcm:OkF Tryd.prog writes (n_slices_IndexFunc_impl_Obj_impl_Obj,f_slices_IndexFunc_impl_Obj_impl_Obj):=⟨_,Tryd.func111,by kernel_rfl,_,rfl,by kernel_rfl,by kernel_rfl,by decide,by decide,by decide,by kernel_rfl⟩
theorem vim:OkF Tryd.prog writes (n_spec_l1Rd_near,f_spec_l1Rd_near):=⟨_,Tryd.func114,by kernel_rfl,_,rfl,by kernel_rfl,by kernel_rfl,by decide,by decide,by decide,by kernel_rfl⟩
theorem vcy:OkF Tryd.prog writes (n_slices_IndexFunc_string_string,f_slices_IndexFunc_string_string):=⟨_,Tryd.func128,by kernel_rfl,_,rfl,by kernel_rfl,by kernel_rfl,by decide,by decide,by decide,by kernel_rfl⟩
set_option maxRecDepth 100000 in
theorem vzz:AllOk Tryd.prog writes tabL:= .cons vgy (.cons vqb (.cons vgg (.cons vkf (.cons vji (.cons vjr (.cons vie (.cons vnu (.cons vnp (.cons vnr (.cons vnw (.cons vk7 (.cons vgw (.cons vkj (.cons vou (.cons vhf (.cons vnt (.cons vj8 (.cons vns (.cons vjw (.cons vkb (.cons vnf (.cons vku (.cons vl1 (.cons vhk (.cons vhg (.cons vg9 (.cons vl2 (.cons vih (.cons vfb (.cons vlz (.cons vig (.cons vky (.cons vik (.cons vge (.cons vcw (.cons vci (.cons vic (.cons vi7 (.cons ve9 (.cons vlu (.cons vgk (.cons vk2 (.cons vhv (.cons vij (.cons vio (.cons vjo (.cons vl4 (.cons vd8 (.cons vbv (.cons vj9 (.cons vil (.cons vl5 (.cons vgx (.cons vcq (.cons vin (.cons vle (.cons vfj (.cons vdb (.cons vcm (.cons vim (.cons vcy (.nil))))))))))))))))))))))))))))))))))))))))))))))))))))))))))))))
theorem qap:ExtOk Tryd.prog writes extL:= .cons (vp1 ⟨_,25,1,[.v (.int .i64 0)],Tryd.func72,by kernel_rfl,by kernel_rfl,Tryd.underlying25,by kernel_rfl,rfl,rfl⟩ (by kernel_rfl)) (.inl rfl) (.inr (vet rfl)) (.cons (vrv vuu (by kernel_rfl) (by kernel_rfl) Tryd.func129 (by kernel_rfl) (by kernel_rfl)) (.inr ⟨vet rfl,rfl⟩) (.inr (vet rfl)) (.nil))
end Go.Proofs.YteomgghmhicpcaaDoor.VM

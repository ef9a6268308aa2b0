/- The functions' code is the program's. Printed by a program of ours. -/
import Derived.Test.YteomgghmhicpcaaDoorCode
import Derived.Test.YteomgghmhicpcaaDoorVmTop
import Derived.Test.YteomgghmhicpcaaDoorLays
import Derived.Test.YteomgghmhicpcaaDoorLaysS
import Derived.Test.YteomgghmhicpcaaDoorProg
namespace Go.Proofs.YteomgghmhicpcaaDoor.VM
open Go Go.Proofs
theorem vjy:OkF Tryd.prog writes (n_laws_FnPlain,f_laws_FnPlain):=⟨_,Tryd.func7,by kernel_rfl,_,rfl,by kernel_rfl,by kernel_rfl,by decide,by decide,by decide⟩
theorem vp2:OkF Tryd.prog writes (n_laws_big,f_laws_big):=⟨_,Tryd.func8,by kernel_rfl,_,rfl,by kernel_rfl,by kernel_rfl,by decide,by decide,by decide⟩
theorem vj5:OkF Tryd.prog writes (n_spec_GraphOk,f_spec_GraphOk):=⟨_,Tryd.func10,by kernel_rfl,_,rfl,by kernel_rfl,by kernel_rfl,by decide,by decide,by decide⟩
theorem vi4:OkF Tryd.prog writes (n_impl_LinesFor,f_impl_LinesFor):=⟨_,Tryd.func11,by kernel_rfl,_,rfl,by kernel_rfl,by kernel_rfl,by decide,by decide,by decide⟩
theorem vid:OkF Tryd.prog writes (n_laws_sameGraph,f_laws_sameGraph):=⟨_,Tryd.func13,by kernel_rfl,_,rfl,by kernel_rfl,by kernel_rfl,by decide,by decide,by decide⟩
theorem vnd:OkF Tryd.prog writes (n_impl_Plain,f_impl_Plain):=⟨_,Tryd.func14,by kernel_rfl,_,rfl,by kernel_rfl,by kernel_rfl,by decide,by decide,by decide⟩
theorem vni:OkF Tryd.prog writes (n_spec_Plain,f_spec_Plain):=⟨_,Tryd.func15,by kernel_rfl,_,rfl,by kernel_rfl,by kernel_rfl,by decide,by decide,by decide⟩
theorem vne:OkF Tryd.prog writes (n_spec_Alike,f_spec_Alike):=⟨_,Tryd.func17,by kernel_rfl,_,rfl,by kernel_rfl,by kernel_rfl,by decide,by decide,by decide⟩
theorem vnh:OkF Tryd.prog writes (n_impl_Alike,f_impl_Alike):=⟨_,Tryd.func18,by kernel_rfl,_,rfl,by kernel_rfl,by kernel_rfl,by decide,by decide,by decide⟩
theorem vil:OkF Tryd.prog writes (n_spec_DrawPlain,f_spec_DrawPlain):=⟨_,Tryd.func33,by kernel_rfl,_,rfl,by kernel_rfl,by kernel_rfl,by decide,by decide,by decide⟩
theorem vko:OkF Tryd.prog writes (n_impl_GraphOk,f_impl_GraphOk):=⟨_,Tryd.func34,by kernel_rfl,_,rfl,by kernel_rfl,by kernel_rfl,by decide,by decide,by decide⟩
theorem vj3:OkF Tryd.prog writes (n_impl_Reached,f_impl_Reached):=⟨_,Tryd.func35,by kernel_rfl,_,rfl,by kernel_rfl,by kernel_rfl,by decide,by decide,by decide⟩
theorem vgv:OkF Tryd.prog writes (n_spec_DrawGraphOk,f_spec_DrawGraphOk):=⟨_,Tryd.func36,by kernel_rfl,_,rfl,by kernel_rfl,by kernel_rfl,by decide,by decide,by decide⟩
theorem vkk:OkF Tryd.prog writes (n_spec_TypesOk,f_spec_TypesOk):=⟨_,Tryd.func37,by kernel_rfl,_,rfl,by kernel_rfl,by kernel_rfl,by decide,by decide,by decide⟩
theorem vo8:OkF Tryd.prog writes (n_spec_l1In,f_spec_l1In):=⟨_,Tryd.func38,by kernel_rfl,_,rfl,by kernel_rfl,by kernel_rfl,by decide,by decide,by decide⟩
theorem vhf:OkF Tryd.prog writes (n_impl_discovered,f_impl_discovered):=⟨_,Tryd.func39,by kernel_rfl,_,rfl,by kernel_rfl,by kernel_rfl,by decide,by decide,by decide⟩
theorem vm5:OkF Tryd.prog writes (n_impl_runOf,f_impl_runOf):=⟨_,Tryd.func40,by kernel_rfl,_,rfl,by kernel_rfl,by kernel_rfl,by decide,by decide,by decide⟩
theorem vku:OkF Tryd.prog writes (n_spec_l7Found,f_spec_l7Found):=⟨_,Tryd.func41,by kernel_rfl,_,rfl,by kernel_rfl,by kernel_rfl,by decide,by decide,by decide⟩
theorem vi5:OkF Tryd.prog writes (n_laws_sameInts,f_laws_sameInts):=⟨_,Tryd.func43,by kernel_rfl,_,rfl,by kernel_rfl,by kernel_rfl,by decide,by decide,by decide⟩
theorem vkg:OkF Tryd.prog writes (n_laws_sameObj,f_laws_sameObj):=⟨_,Tryd.func44,by kernel_rfl,_,rfl,by kernel_rfl,by kernel_rfl,by decide,by decide,by decide⟩
theorem vm4:OkF Tryd.prog writes (n_impl_plain,f_impl_plain):=⟨_,Tryd.func45,by kernel_rfl,_,rfl,by kernel_rfl,by kernel_rfl,by decide,by decide,by decide⟩
theorem vj4:OkF Tryd.prog writes (n_spec_l7Plain,f_spec_l7Plain):=⟨_,Tryd.func46,by kernel_rfl,_,rfl,by kernel_rfl,by kernel_rfl,by decide,by decide,by decide⟩
theorem vlc:OkF Tryd.prog writes (n_spec_l1Open,f_spec_l1Open):=⟨_,Tryd.func47,by kernel_rfl,_,rfl,by kernel_rfl,by kernel_rfl,by decide,by decide,by decide⟩
theorem vhr:OkF Tryd.prog writes (n_spec_l1Rd_types,f_spec_l1Rd_types):=⟨_,Tryd.func48,by kernel_rfl,_,rfl,by kernel_rfl,by kernel_rfl,by decide,by decide,by decide⟩
theorem vhq:OkF Tryd.prog writes (n_spec_l1Rd_graph,f_spec_l1Rd_graph):=⟨_,Tryd.func49,by kernel_rfl,_,rfl,by kernel_rfl,by kernel_rfl,by decide,by decide,by decide⟩
theorem vg4:OkF Tryd.prog writes (n_spec_l1Rd_below,f_spec_l1Rd_below):=⟨_,Tryd.func50,by kernel_rfl,_,rfl,by kernel_rfl,by kernel_rfl,by decide,by decide,by decide⟩
theorem vk8:OkF Tryd.prog writes (n_spec_l7Turn,f_spec_l7Turn):=⟨_,Tryd.func51,by kernel_rfl,_,rfl,by kernel_rfl,by kernel_rfl,by decide,by decide,by decide⟩
theorem via:OkF Tryd.prog writes (n_spec_l1Rd_once,f_spec_l1Rd_once):=⟨_,Tryd.func52,by kernel_rfl,_,rfl,by kernel_rfl,by kernel_rfl,by decide,by decide,by decide⟩
theorem vfb:OkF Tryd.prog writes (n_spec_l1Rd_hurtGraph,f_spec_l1Rd_hurtGraph):=⟨_,Tryd.func53,by kernel_rfl,_,rfl,by kernel_rfl,by kernel_rfl,by decide,by decide,by decide⟩
theorem vlb:OkF Tryd.prog writes (n_spec_l7Same,f_spec_l7Same):=⟨_,Tryd.func54,by kernel_rfl,_,rfl,by kernel_rfl,by kernel_rfl,by decide,by decide,by decide⟩
theorem vij:OkF Tryd.prog writes (n_impl_sameGraph,f_impl_sameGraph):=⟨_,Tryd.func55,by kernel_rfl,_,rfl,by kernel_rfl,by kernel_rfl,by decide,by decide,by decide⟩
theorem vju:OkF Tryd.prog writes (n_impl_TypesOk,f_impl_TypesOk):=⟨_,Tryd.func76,by kernel_rfl,_,rfl,by kernel_rfl,by kernel_rfl,by decide,by decide,by decide⟩
theorem vik:OkF Tryd.prog writes (n_impl_GraphOk_1,f_impl_GraphOk_1):=⟨_,Tryd.func77,by kernel_rfl,_,rfl,by kernel_rfl,by kernel_rfl,by decide,by decide,by decide⟩
theorem vgb:OkF Tryd.prog writes (n_impl_Graph_isNode,f_impl_Graph_isNode):=⟨_,Tryd.func78,by kernel_rfl,_,rfl,by kernel_rfl,by kernel_rfl,by decide,by decide,by decide⟩
theorem vcu:OkF Tryd.prog writes (n_slices_ContainsFunc_int64_int64,f_slices_ContainsFunc_int64_int64):=⟨_,Tryd.func79,by kernel_rfl,_,rfl,by kernel_rfl,by kernel_rfl,by decide,by decide,by decide⟩
theorem vcf:OkF Tryd.prog writes (n_slices_ContainsFunc_impl_Obj_impl_Obj,f_slices_ContainsFunc_impl_Obj_impl_Obj):=⟨_,Tryd.func80,by kernel_rfl,_,rfl,by kernel_rfl,by kernel_rfl,by decide,by decide,by decide⟩
theorem vh9:OkF Tryd.prog writes (n_impl_GraphOk_2,f_impl_GraphOk_2):=⟨_,Tryd.func81,by kernel_rfl,_,rfl,by kernel_rfl,by kernel_rfl,by decide,by decide,by decide⟩
theorem vi8:OkF Tryd.prog writes (n_impl_isObject,f_impl_isObject):=⟨_,Tryd.func82,by kernel_rfl,_,rfl,by kernel_rfl,by kernel_rfl,by decide,by decide,by decide⟩
theorem ve7:OkF Tryd.prog writes (n_spec_l1Rd_hurtTypes,f_spec_l1Rd_hurtTypes):=⟨_,Tryd.func84,by kernel_rfl,_,rfl,by kernel_rfl,by kernel_rfl,by decide,by decide,by decide⟩
theorem vla:OkF Tryd.prog writes (n_spec_l3Type,f_spec_l3Type):=⟨_,Tryd.func85,by kernel_rfl,_,rfl,by kernel_rfl,by kernel_rfl,by decide,by decide,by decide⟩
theorem vgm:OkF Tryd.prog writes (n_impl_discovered_1,f_impl_discovered_1):=⟨_,Tryd.func86,by kernel_rfl,_,rfl,by kernel_rfl,by kernel_rfl,by decide,by decide,by decide⟩
theorem vkq:OkF Tryd.prog writes (n_spec_l7Place,f_spec_l7Place):=⟨_,Tryd.func87,by kernel_rfl,_,rfl,by kernel_rfl,by kernel_rfl,by decide,by decide,by decide⟩
theorem vhj:OkF Tryd.prog writes (n_spec_l1Rd_kinds,f_spec_l1Rd_kinds):=⟨_,Tryd.func88,by kernel_rfl,_,rfl,by kernel_rfl,by kernel_rfl,by decide,by decide,by decide⟩
theorem vih:OkF Tryd.prog writes (n_spec_l1Rd_size,f_spec_l1Rd_size):=⟨_,Tryd.func89,by kernel_rfl,_,rfl,by kernel_rfl,by kernel_rfl,by decide,by decide,by decide⟩
theorem vif:OkF Tryd.prog writes (n_spec_l1Rd_next,f_spec_l1Rd_next):=⟨_,Tryd.func90,by kernel_rfl,_,rfl,by kernel_rfl,by kernel_rfl,by decide,by decide,by decide⟩
theorem vjo:OkF Tryd.prog writes (n_spec_l1Rd_off,f_spec_l1Rd_off):=⟨_,Tryd.func91,by kernel_rfl,_,rfl,by kernel_rfl,by kernel_rfl,by decide,by decide,by decide⟩
theorem vlj:OkF Tryd.prog writes (n_spec_l7Ints,f_spec_l7Ints):=⟨_,Tryd.func92,by kernel_rfl,_,rfl,by kernel_rfl,by kernel_rfl,by decide,by decide,by decide⟩
theorem vdx:OkF Tryd.prog writes (n_slices_Equal_int64_int64,f_slices_Equal_int64_int64):=⟨_,Tryd.func93,by kernel_rfl,_,rfl,by kernel_rfl,by kernel_rfl,by decide,by decide,by decide⟩
theorem vbw:OkF Tryd.prog writes (n_slices_EqualFunc_impl_Obj_impl_Obj_impl_Obj_impl_Obj,f_slices_EqualFunc_impl_Obj_impl_Obj_impl_Obj_impl_Obj):=⟨_,Tryd.func94,by kernel_rfl,_,rfl,by kernel_rfl,by kernel_rfl,by decide,by decide,by decide⟩
theorem vkp:OkF Tryd.prog writes (n_impl_sameObj,f_impl_sameObj):=⟨_,Tryd.func95,by kernel_rfl,_,rfl,by kernel_rfl,by kernel_rfl,by decide,by decide,by decide⟩
theorem vie:OkF Tryd.prog writes (n_spec_l1Rd_word,f_spec_l1Rd_word):=⟨_,Tryd.func99,by kernel_rfl,_,rfl,by kernel_rfl,by kernel_rfl,by decide,by decide,by decide⟩
theorem vln:OkF Tryd.prog writes (n_impl_within,f_impl_within):=⟨_,Tryd.func104,by kernel_rfl,_,rfl,by kernel_rfl,by kernel_rfl,by decide,by decide,by decide⟩
theorem vgu:OkF Tryd.prog writes (n_impl_size_string,f_impl_size_string):=⟨_,Tryd.func105,by kernel_rfl,_,rfl,by kernel_rfl,by kernel_rfl,by decide,by decide,by decide⟩
theorem vcl:OkF Tryd.prog writes (n_slices_ContainsFunc_string_string,f_slices_ContainsFunc_string_string):=⟨_,Tryd.func106,by kernel_rfl,_,rfl,by kernel_rfl,by kernel_rfl,by decide,by decide,by decide⟩
theorem vig:OkF Tryd.prog writes (n_impl_TypesOk_1,f_impl_TypesOk_1):=⟨_,Tryd.func107,by kernel_rfl,_,rfl,by kernel_rfl,by kernel_rfl,by decide,by decide,by decide⟩
theorem vle:OkF Tryd.prog writes (n_impl_isType,f_impl_isType):=⟨_,Tryd.func108,by kernel_rfl,_,rfl,by kernel_rfl,by kernel_rfl,by decide,by decide,by decide⟩
theorem vfv:OkF Tryd.prog writes (n_impl_size_impl_Obj,f_impl_size_impl_Obj):=⟨_,Tryd.func109,by kernel_rfl,_,rfl,by kernel_rfl,by kernel_rfl,by decide,by decide,by decide⟩
theorem vc8:OkF Tryd.prog writes (n_slices_IndexFunc_int64_int64,f_slices_IndexFunc_int64_int64):=⟨_,Tryd.func110,by kernel_rfl,_,rfl,by kernel_rfl,by kernel_rfl,by decide,by decide,by decide⟩
theorem vck:OkF Tryd.prog writes (n_slices_IndexFunc_impl_Obj_impl_Obj,f_slices_IndexFunc_impl_Obj_impl_Obj):=⟨_,Tryd.func111,by kernel_rfl,_,rfl,by kernel_rfl,by kernel_rfl,by decide,by decide,by decide⟩
theorem vic:OkF Tryd.prog writes (n_spec_l1Rd_near,f_spec_l1Rd_near):=⟨_,Tryd.func114,by kernel_rfl,_,rfl,by kernel_rfl,by kernel_rfl,by decide,by decide,by decide⟩
theorem vcv:OkF Tryd.prog writes (n_slices_IndexFunc_string_string,f_slices_IndexFunc_string_string):=⟨_,Tryd.func128,by kernel_rfl,_,rfl,by kernel_rfl,by kernel_rfl,by decide,by decide,by decide⟩
set_option maxRecDepth 100000 in
theorem vzq:AllOk Tryd.prog writes tabL:= .cons vjy (.cons vp2 (.cons vj5 (.cons vi4 (.cons vid (.cons vnd (.cons vni (.cons vne (.cons vnh (.cons vil (.cons vko (.cons vj3 (.cons vgv (.cons vkk (.cons vo8 (.cons vhf (.cons vm5 (.cons vku (.cons vi5 (.cons vkg (.cons vm4 (.cons vj4 (.cons vlc (.cons vhr (.cons vhq (.cons vg4 (.cons vk8 (.cons via (.cons vfb (.cons vlb (.cons vij (.cons vju (.cons vik (.cons vgb (.cons vcu (.cons vcf (.cons vh9 (.cons vi8 (.cons ve7 (.cons vla (.cons vgm (.cons vkq (.cons vhj (.cons vih (.cons vif (.cons vjo (.cons vlj (.cons vdx (.cons vbw (.cons vkp (.cons vie (.cons vln (.cons vgu (.cons vcl (.cons vig (.cons vle (.cons vfv (.cons vc8 (.cons vck (.cons vic (.cons vcv (.nil)))))))))))))))))))))))))))))))))))))))))))))))))))))))))))))
theorem qa0:ExtOk Tryd.prog writes extL:= .cons (vpt ⟨_,25,1,false,[.v (.int .i64 0)],Tryd.func72,by kernel_rfl,by kernel_rfl,Tryd.underlying25,by kernel_rfl,rfl,rfl⟩ (by kernel_rfl)) (.inl rfl) (.inr (vep rfl)) (.cons (vrv (vt2 vwt) Tryd.func83 (by kernel_rfl) (by kernel_rfl)) (.inl (by decide)) (.inl (by decide)) (.cons (vr5 vt8 (by kernel_rfl) (by kernel_rfl) Tryd.func129 (by kernel_rfl) (by kernel_rfl)) (.inr ⟨vep rfl,rfl⟩) (.inr (vep rfl)) (.nil)))
end Go.Proofs.YteomgghmhicpcaaDoor.VM

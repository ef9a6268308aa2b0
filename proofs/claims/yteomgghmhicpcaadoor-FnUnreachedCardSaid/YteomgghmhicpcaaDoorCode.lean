/- The functions' code, as the interpreter has it. Printed by a program of ours. -/
import Derived.Test.YteomgghmhicpcaaDoorExt
namespace Go.Proofs.YteomgghmhicpcaaDoor.VM
open Go
def c_laws_FnUnreached:VC:= .seq (.reg [⟨.mov 2 (.c (.bool false)),none,none⟩] [0])
 (.seq (.seq (.reg [⟨.mov 6 (.t 0),none,none⟩,
  ⟨.call (some 7) n_laws_big [(.t 6)],none,none⟩] [0,7])
 (.cond (.t 7)
 (.seq (.reg [⟨.mov 2 (.c (.bool true)),none,none⟩] [2])
 (.ret))
 (.skip)))
 (.seq (.reg [⟨.mov 9 (.t 0),none,none⟩,
  ⟨.call (some 10) n_spec_DrawLinesFor [(.t 9)],none,none⟩,
  ⟨.mov 8 (.t 10),none,none⟩,
  ⟨.ext 11 (.t 8) 0,none,none⟩,
  ⟨.ext 12 (.t 8) 1,none,none⟩,
  ⟨.alloc 4 [.nl t_i64,.nl t_impl_Obj],none,none⟩,
  ⟨.mov 3 (.t 11),none,none⟩,
  ⟨.store 2 (.t 4) (.t 12),none,none⟩] [3,4])
 (.frz (.seq (.seq (.reg [⟨.mov 13 (.t 3),none,none⟩,
  ⟨.load 14 (some 2) (.t 4),none,none⟩,
  ⟨.call (some 15) n_spec_GraphOk [(.t 13),(.t 14)],none,none⟩,
  ⟨.un 16 .not (.t 15),none,none⟩,
  ⟨.mov 17 (.t 16),none,none⟩,
  ⟨.fad 18 (.t 4) 1,some (17,false),(some 18)⟩,
  ⟨.load 19 none (.t 18),some (17,false),(some 19)⟩,
  ⟨.len 20 (.t 19),some (17,false),(some 20)⟩,
  ⟨.bin 21 .eql (.t 20) (.c (.int .i64 400)),some (17,false),(some 21)⟩,
  ⟨.pick 22 (.t 17) (.c (.bool true)) (.t 21),none,none⟩] [3,4,22])
 (.cond (.t 22)
 (.seq (.reg [⟨.mov 23 (.t 3),none,none⟩,
  ⟨.load 24 (some 2) (.t 4),none,none⟩,
  ⟨.call (some 25) n_impl_LinesFor [(.t 23),(.t 24)],none,none⟩,
  ⟨.mov 26 (.t 3),none,none⟩,
  ⟨.load 27 (some 2) (.t 4),none,none⟩,
  ⟨.call (some 28) n_spec_LinesFor [(.t 26),(.t 27)],none,none⟩,
  ⟨.bin 29 .eql (.t 25) (.t 28),none,none⟩,
  ⟨.mov 2 (.t 29),none,none⟩] [2])
 (.ret))
 (.skip)))
 (.seq (.regD [⟨.fad 30 (.t 4) 0,none,none⟩,
  ⟨.load 31 none (.t 30),none,none⟩,
  ⟨.bsl 32 t_impl_Obj 2 [.v (.int .i64 0),.nl t_i64] 0 [],none,none⟩,
  ⟨.fad 33 (.t 4) 1,none,none⟩,
  ⟨.load 34 none (.t 33),none,none⟩,
  ⟨.app 35 t_impl_Obj 32 true (.t 32) (.t 34),none,none⟩,
  ⟨.mov 36 (.t 3),none,none⟩,
  ⟨.iad 37 t_string 1 (.t 36) (.c (.int .i64 0)),none,none⟩,
  ⟨.load 38 none (.t 37),none,none⟩,
  ⟨.slen 39 (.t 38),none,none⟩,
  ⟨.mks 40 t_i64 8 [.v (.int .i64 0)] (.t 39),none,none⟩,
  ⟨.build 41 [.v (.int .i64 0),.nl t_i64] [(1,1,(.t 40))],none,none⟩,
  ⟨.bsl 42 t_impl_Obj 2 [.v (.int .i64 0),.nl t_i64] 1 [(0,(.t 41))],none,none⟩,
  ⟨.app 43 t_impl_Obj 32 true (.t 35) (.t 42),none,none⟩,
  ⟨.build 44 [.nl t_i64,.nl t_impl_Obj] [(0,1,(.t 31)),(1,1,(.t 43))],none,none⟩,
  ⟨.alloc 5 [.nl t_i64,.nl t_impl_Obj],none,none⟩,
  ⟨.store 2 (.t 5) (.t 44),none,none⟩] [3,4,5] [(0,2),(1,2),(2,3),(2,4),(0,5),(1,5),(2,7),(5,7),(2,8),(5,8),(2,10),(5,10),(0,12),(1,12),(2,12),(3,12),(4,12),(5,12),(0,13),(1,13),(2,15),(5,15),(12,15),(13,15)])
 (.seq (.reg [⟨.mov 45 (.t 3),none,none⟩,
  ⟨.load 46 (some 2) (.t 5),none,none⟩,
  ⟨.call (some 47) n_impl_Plain [(.t 45),(.t 46)],none,none⟩,
  ⟨.mov 48 (.t 3),none,none⟩,
  ⟨.load 49 (some 2) (.t 4),none,none⟩,
  ⟨.call (some 50) n_spec_Plain [(.t 48),(.t 49)],none,none⟩,
  ⟨.call (some 51) n_laws_sameGraph [(.t 47),(.t 50)],none,none⟩,
  ⟨.mov 52 (.t 51),none,none⟩,
  ⟨.mov 53 (.t 3),some (52,true),(some 53)⟩,
  ⟨.load 54 (some 2) (.t 5),some (52,true),(some 54)⟩,
  ⟨.call (some 55) n_impl_LinesFor [(.t 53),(.t 54)],some (52,true),(some 55)⟩,
  ⟨.mov 56 (.t 3),some (52,true),(some 56)⟩,
  ⟨.load 57 (some 2) (.t 4),some (52,true),(some 57)⟩,
  ⟨.call (some 58) n_spec_LinesFor [(.t 56),(.t 57)],some (52,true),(some 58)⟩,
  ⟨.bin 59 .eql (.t 55) (.t 58),some (52,true),(some 59)⟩,
  ⟨.pick 60 (.t 52) (.t 59) (.c (.bool false)),none,none⟩,
  ⟨.mov 61 (.t 60),none,none⟩,
  ⟨.mov 62 (.t 3),some (61,true),(some 62)⟩,
  ⟨.mov 63 (.t 3),some (61,true),(some 63)⟩,
  ⟨.load 64 (some 2) (.t 4),some (61,true),(some 64)⟩,
  ⟨.call (some 65) n_impl_Plain [(.t 63),(.t 64)],some (61,true),(some 65)⟩,
  ⟨.call (some 66) n_impl_LinesFor [(.t 62),(.t 65)],some (61,true),(some 66)⟩,
  ⟨.mov 67 (.t 3),some (61,true),(some 67)⟩,
  ⟨.load 68 (some 2) (.t 4),some (61,true),(some 68)⟩,
  ⟨.call (some 69) n_impl_LinesFor [(.t 67),(.t 68)],some (61,true),(some 69)⟩,
  ⟨.bin 70 .eql (.t 66) (.t 69),some (61,true),(some 70)⟩,
  ⟨.pick 71 (.t 61) (.t 70) (.c (.bool false)),none,none⟩,
  ⟨.mov 2 (.t 71),none,none⟩] [2])
 (.ret)))))))
def f_laws_FnUnreached:Fn:=⟨[.ro 0],false,true,[.t 2],c_laws_FnUnreached⟩
def c_laws_big:VC:= .seq (.reg [⟨.mov 2 (.c (.bool false)),none,none⟩] [0])
 (.seq (.reg [⟨.mov 3 (.t 0),none,none⟩,
  ⟨.len 4 (.t 3),none,none⟩,
  ⟨.bin 5 .gtr (.t 4) (.c (.int .i64 1048576)),none,none⟩,
  ⟨.mov 2 (.t 5),none,none⟩] [2])
 (.ret))
def f_laws_big:Fn:=⟨[.ro 0],false,true,[.t 2],c_laws_big⟩
def c_spec_DrawLinesFor:VC:= .seq (.reg [⟨.mov 2 (.nl t_string),none,none⟩,
  ⟨.alloc 3 [.nl t_i64,.nl t_impl_Obj],none,none⟩] [0,3])
 (.seq (.reg [⟨.mov 4 (.t 0),none,none⟩,
  ⟨.call (some 5) n_spec_DrawGraphOk [(.t 4)],none,none⟩,
  ⟨.ext 6 (.t 5) 0,none,none⟩,
  ⟨.ext 7 (.t 5) 1,none,none⟩,
  ⟨.mov 2 (.t 6),none,none⟩,
  ⟨.store 2 (.t 3) (.t 7),none,none⟩] [2,3])
 (.ret))
def f_spec_DrawLinesFor:Fn:=⟨[.ro 0],true,false,[.t 2,.cell 3 (some 2)],c_spec_DrawLinesFor⟩
def c_spec_GraphOk_L0:VC:= .seq (.seq (.reg [⟨.mov 28 (.t 6),none,none⟩,
  ⟨.fad 29 (.t 3) 0,none,none⟩,
  ⟨.load 30 none (.t 29),none,none⟩,
  ⟨.len 31 (.t 30),none,none⟩,
  ⟨.bin 32 .lss (.t 28) (.t 31),none,none⟩] [0,3,5,6,32])
 (.cond (.t 32)
 (.skip)
 (.exit 0)))
 (.seq (.block 1 (.seq (.reg [⟨.fad 35 (.t 3) 0,none,none⟩,
  ⟨.load 36 none (.t 35),none,none⟩,
  ⟨.mov 37 (.t 6),none,none⟩,
  ⟨.iad 38 t_i64 1 (.t 36) (.t 37),none,none⟩,
  ⟨.load 39 none (.t 38),none,none⟩,
  ⟨.mov 40 (.t 5),none,none⟩,
  ⟨.call (some 41) n_spec_l1In [(.t 39),(.c (.int .i64 0)),(.t 40)],none,none⟩,
  ⟨.un 42 .not (.t 41),none,none⟩] [0,3,5,6,42])
 (.cond (.t 42)
 (.seq (.reg [⟨.mov 4 (.c (.bool false)),none,none⟩] [4])
 (.ret))
 (.skip))))
 (.reg [⟨.mov 33 (.t 6),none,none⟩,
  ⟨.bin 34 .add (.t 33) (.c (.int .i64 1)),none,none⟩,
  ⟨.mov 6 (.t 34),none,none⟩] [0,3,5,6]))
def c_spec_GraphOk_L2:VC:= .seq (.seq (.reg [⟨.mov 74 (.t 9),none,none⟩,
  ⟨.fad 75 (.t 8) 1,none,none⟩,
  ⟨.load 76 none (.t 75),none,none⟩,
  ⟨.len 77 (.t 76),none,none⟩,
  ⟨.bin 78 .lss (.t 74) (.t 77),none,none⟩] [0,3,5,7,8,9,78])
 (.cond (.t 78)
 (.skip)
 (.exit 4)))
 (.seq (.block 5 (.seq (.reg [⟨.mov 81 (.t 0),none,none⟩,
  ⟨.fad 82 (.t 8) 0,none,none⟩,
  ⟨.load 83 none (.t 82),none,none⟩,
  ⟨.iad 84 t_string 1 (.t 81) (.t 83),none,none⟩,
  ⟨.load 85 none (.t 84),none,none⟩,
  ⟨.mov 86 (.t 9),none,none⟩,
  ⟨.ix 87 (.t 85) (.t 86),none,none⟩,
  ⟨.bin 88 .eql (.t 87) (.c (.int .u8 114)),none,none⟩,
  ⟨.mov 89 (.t 88),none,none⟩,
  ⟨.fad 90 (.t 8) 1,some (89,true),(some 90)⟩,
  ⟨.load 91 none (.t 90),some (89,true),(some 91)⟩,
  ⟨.mov 92 (.t 9),some (89,true),(some 92)⟩,
  ⟨.iad 93 t_i64 1 (.t 91) (.t 92),some (89,true),(some 93)⟩,
  ⟨.load 94 none (.t 93),some (89,true),(some 94)⟩,
  ⟨.mov 95 (.t 5),some (89,true),(some 95)⟩,
  ⟨.call (some 96) n_spec_l1In [(.t 94),(.c (.int .i64 0)),(.t 95)],some (89,true),(some 96)⟩,
  ⟨.un 97 .not (.t 96),some (89,true),(some 97)⟩,
  ⟨.pick 98 (.t 89) (.t 97) (.c (.bool false)),none,none⟩] [0,3,5,7,8,9,98])
 (.cond (.t 98)
 (.seq (.reg [⟨.mov 4 (.c (.bool false)),none,none⟩] [4])
 (.ret))
 (.skip))))
 (.reg [⟨.mov 79 (.t 9),none,none⟩,
  ⟨.bin 80 .add (.t 79) (.c (.int .i64 1)),none,none⟩,
  ⟨.mov 9 (.t 80),none,none⟩] [0,3,5,7,8,9]))
def c_spec_GraphOk_L1:VC:= .seq (.seq (.reg [⟨.mov 43 (.t 7),none,none⟩,
  ⟨.fad 44 (.t 3) 1,none,none⟩,
  ⟨.load 45 none (.t 44),none,none⟩,
  ⟨.len 46 (.t 45),none,none⟩,
  ⟨.bin 47 .lss (.t 43) (.t 46),none,none⟩] [0,3,5,7,47])
 (.cond (.t 47)
 (.skip)
 (.exit 2)))
 (.seq (.block 3 (.seq (.reg [⟨.fad 50 (.t 3) 1,none,none⟩,
  ⟨.load 51 none (.t 50),none,none⟩,
  ⟨.mov 52 (.t 7),none,none⟩,
  ⟨.iad 53 t_impl_Obj 2 (.t 51) (.t 52),none,none⟩,
  ⟨.load 54 (some 2) (.t 53),none,none⟩,
  ⟨.alloc 8 [.v (.int .i64 0),.nl t_i64],none,none⟩,
  ⟨.store 2 (.t 8) (.t 54),none,none⟩] [0,3,5,7,8])
 (.seq (.seq (.reg [⟨.fad 55 (.t 8) 0,none,none⟩,
  ⟨.load 56 none (.t 55),none,none⟩,
  ⟨.mov 57 (.t 0),none,none⟩,
  ⟨.len 58 (.t 57),none,none⟩,
  ⟨.bin 59 .sub (.t 58) (.c (.int .i64 1)),none,none⟩,
  ⟨.call (some 60) n_spec_l1In [(.t 56),(.c (.int .i64 0)),(.t 59)],none,none⟩,
  ⟨.un 61 .not (.t 60),none,none⟩,
  ⟨.mov 62 (.t 61),none,none⟩,
  ⟨.fad 63 (.t 8) 1,some (62,false),(some 63)⟩,
  ⟨.load 64 none (.t 63),some (62,false),(some 64)⟩,
  ⟨.len 65 (.t 64),some (62,false),(some 65)⟩,
  ⟨.mov 66 (.t 0),some (62,false),(some 66)⟩,
  ⟨.fad 67 (.t 8) 0,some (62,false),(some 67)⟩,
  ⟨.load 68 none (.t 67),some (62,false),(some 68)⟩,
  ⟨.iad 69 t_string 1 (.t 66) (.t 68),some (62,false),(some 69)⟩,
  ⟨.load 70 none (.t 69),some (62,false),(some 70)⟩,
  ⟨.slen 71 (.t 70),some (62,false),(some 71)⟩,
  ⟨.bin 72 .neq (.t 65) (.t 71),some (62,false),(some 72)⟩,
  ⟨.pick 73 (.t 62) (.c (.bool true)) (.t 72),none,none⟩] [0,3,5,7,8,73])
 (.cond (.t 73)
 (.seq (.reg [⟨.mov 4 (.c (.bool false)),none,none⟩] [4])
 (.ret))
 (.skip)))
 (.seq (.reg [⟨.mov 9 (.c (.int .i64 0)),none,none⟩] [0,3,5,7,8,9])
 (.block 4 (.loop [0,3,5,7,8,9] c_spec_GraphOk_L2))))))
 (.reg [⟨.mov 48 (.t 7),none,none⟩,
  ⟨.bin 49 .add (.t 48) (.c (.int .i64 1)),none,none⟩,
  ⟨.mov 7 (.t 49),none,none⟩] [0,3,5,7]))
def c_spec_GraphOk:VC:= .seq (.reg [⟨.box 3 (.t 1),none,none⟩,
  ⟨.mov 4 (.c (.bool false)),none,none⟩] [0,3])
 (.seq (.seq (.reg [⟨.mov 10 (.t 0),none,none⟩,
  ⟨.call (some 11) n_spec_TypesOk [(.t 10)],none,none⟩,
  ⟨.un 12 .not (.t 11),none,none⟩,
  ⟨.mov 13 (.t 12),none,none⟩,
  ⟨.fad 14 (.t 3) 0,some (13,false),(some 14)⟩,
  ⟨.load 15 none (.t 14),some (13,false),(some 15)⟩,
  ⟨.len 16 (.t 15),some (13,false),(some 16)⟩,
  ⟨.bin 17 .gtr (.t 16) (.c (.int .i64 40)),some (13,false),(some 17)⟩,
  ⟨.pick 18 (.t 13) (.c (.bool true)) (.t 17),none,none⟩,
  ⟨.mov 19 (.t 18),none,none⟩,
  ⟨.fad 20 (.t 3) 1,some (19,false),(some 20)⟩,
  ⟨.load 21 none (.t 20),some (19,false),(some 21)⟩,
  ⟨.len 22 (.t 21),some (19,false),(some 22)⟩,
  ⟨.bin 23 .gtr (.t 22) (.c (.int .i64 400)),some (19,false),(some 23)⟩,
  ⟨.pick 24 (.t 19) (.c (.bool true)) (.t 23),none,none⟩] [0,3,24])
 (.cond (.t 24)
 (.seq (.reg [⟨.mov 4 (.c (.bool false)),none,none⟩] [4])
 (.ret))
 (.skip)))
 (.seq (.reg [⟨.fad 25 (.t 3) 1,none,none⟩,
  ⟨.load 26 none (.t 25),none,none⟩,
  ⟨.len 27 (.t 26),none,none⟩,
  ⟨.mov 5 (.t 27),none,none⟩] [0,3,5])
 (.seq (.seq (.reg [⟨.mov 6 (.c (.int .i64 0)),none,none⟩] [0,3,5,6])
 (.block 0 (.loop [0,3,5,6] c_spec_GraphOk_L0)))
 (.seq (.seq (.reg [⟨.mov 7 (.c (.int .i64 0)),none,none⟩] [0,3,5,7])
 (.block 2 (.loop [0,3,5,7] c_spec_GraphOk_L1)))
 (.seq (.reg [⟨.mov 4 (.c (.bool true)),none,none⟩] [4])
 (.ret))))))
def f_spec_GraphOk:Fn:=⟨[.ro 0,.ro 0],false,true,[.t 4],c_spec_GraphOk⟩
def c_impl_LinesFor_L0:VC:= .seq (.reg [⟨.bin 17 .lss (.t 16) (.t 15),none,none⟩] [0,3,5,14,15,16,17])
 (.seq (.cond (.t 17)
 (.skip)
 (.exit 0))
 (.seq (.block 1 (.seq (.reg [⟨.iad 18 t_i64 1 (.t 14) (.t 16),none,none⟩,
  ⟨.load 19 none (.t 18),none,none⟩,
  ⟨.mov 7 (.t 19),none,none⟩] [0,3,5,7,14,15,16])
 (.reg [⟨.mov 20 (.t 5),none,none⟩,
  ⟨.mov 21 (.t 0),none,none⟩,
  ⟨.fad 22 (.t 3) 1,none,none⟩,
  ⟨.load 23 none (.t 22),none,none⟩,
  ⟨.mov 24 (.t 7),none,none⟩,
  ⟨.iad 25 t_impl_Obj 2 (.t 23) (.t 24),none,none⟩,
  ⟨.fad 26 (.t 25) 0,none,none⟩,
  ⟨.load 27 none (.t 26),none,none⟩,
  ⟨.iad 28 t_string 1 (.t 21) (.t 27),none,none⟩,
  ⟨.load 29 none (.t 28),none,none⟩,
  ⟨.call (some 30) n_impl_runOf [(.t 29)],none,none⟩,
  ⟨.bin 31 .add (.t 20) (.t 30),none,none⟩,
  ⟨.mov 5 (.t 31),none,none⟩] [0,3,5,14,15,16])))
 (.reg [⟨.bin 32 .add (.t 16) (.c (.int .i64 1)),none,none⟩,
  ⟨.mov 16 (.t 32),none,none⟩] [0,3,5,14,15,16])))
def c_impl_LinesFor:VC:= .seq (.reg [⟨.box 3 (.t 1),none,none⟩,
  ⟨.mov 4 (.c (.int .i64 0)),none,none⟩] [0,3])
 (.seq (.seq (.reg [⟨.mov 8 (.t 0),none,none⟩,
  ⟨.load 9 (some 2) (.t 3),none,none⟩,
  ⟨.call (some 10) n_impl_GraphOk [(.t 8),(.t 9)],none,none⟩,
  ⟨.un 11 .not (.t 10),none,none⟩] [0,3,11])
 (.cond (.t 11)
 (.seq (.reg [⟨.mov 4 (.c (.int .i64 (-1))),none,none⟩] [4])
 (.ret))
 (.skip)))
 (.seq (.reg [⟨.mov 5 (.c (.int .i64 0)),none,none⟩] [0,3,5])
 (.seq (.seq (.reg [⟨.mov 12 (.t 0),none,none⟩,
  ⟨.load 13 (some 2) (.t 3),none,none⟩,
  ⟨.call (some 14) n_impl_discovered [(.t 12),(.t 13)],none,none⟩,
  ⟨.len 15 (.t 14),none,none⟩,
  ⟨.mov 16 (.c (.int .i64 0)),none,none⟩] [0,3,5,14,15,16])
 (.block 0 (.loop [0,3,5,14,15,16] c_impl_LinesFor_L0)))
 (.seq (.reg [⟨.mov 33 (.t 5),none,none⟩,
  ⟨.mov 4 (.t 33),none,none⟩] [4])
 (.ret)))))
def f_impl_LinesFor:Fn:=⟨[.ro 0,.ro 0],false,true,[.t 4],c_impl_LinesFor⟩
def c_spec_LinesFor_L0:VC:= .seq (.seq (.reg [⟨.mov 15 (.t 7),none,none⟩,
  ⟨.mov 16 (.t 5),none,none⟩,
  ⟨.len 17 (.t 16),none,none⟩,
  ⟨.bin 18 .lss (.t 15) (.t 17),none,none⟩] [0,3,5,6,7,18])
 (.cond (.t 18)
 (.skip)
 (.exit 0)))
 (.seq (.block 1 (.reg [⟨.mov 21 (.t 6),none,none⟩,
  ⟨.mov 22 (.t 0),none,none⟩,
  ⟨.fad 23 (.t 3) 1,none,none⟩,
  ⟨.load 24 none (.t 23),none,none⟩,
  ⟨.mov 25 (.t 5),none,none⟩,
  ⟨.mov 26 (.t 7),none,none⟩,
  ⟨.iad 27 t_i64 1 (.t 25) (.t 26),none,none⟩,
  ⟨.load 28 none (.t 27),none,none⟩,
  ⟨.iad 29 t_impl_Obj 2 (.t 24) (.t 28),none,none⟩,
  ⟨.fad 30 (.t 29) 0,none,none⟩,
  ⟨.load 31 none (.t 30),none,none⟩,
  ⟨.iad 32 t_string 1 (.t 22) (.t 31),none,none⟩,
  ⟨.load 33 none (.t 32),none,none⟩,
  ⟨.call (some 34) n_spec_RunOf [(.t 33)],none,none⟩,
  ⟨.bin 35 .add (.t 21) (.t 34),none,none⟩,
  ⟨.mov 6 (.t 35),none,none⟩] [0,3,5,6,7]))
 (.reg [⟨.mov 19 (.t 7),none,none⟩,
  ⟨.bin 20 .add (.t 19) (.c (.int .i64 1)),none,none⟩,
  ⟨.mov 7 (.t 20),none,none⟩] [0,3,5,6,7]))
def c_spec_LinesFor:VC:= .seq (.reg [⟨.box 3 (.t 1),none,none⟩,
  ⟨.mov 4 (.c (.int .i64 0)),none,none⟩] [0,3])
 (.seq (.seq (.reg [⟨.mov 8 (.t 0),none,none⟩,
  ⟨.load 9 (some 2) (.t 3),none,none⟩,
  ⟨.call (some 10) n_spec_GraphOk [(.t 8),(.t 9)],none,none⟩,
  ⟨.un 11 .not (.t 10),none,none⟩] [0,3,11])
 (.cond (.t 11)
 (.seq (.reg [⟨.mov 4 (.c (.int .i64 (-1))),none,none⟩] [4])
 (.ret))
 (.skip)))
 (.seq (.reg [⟨.mov 12 (.t 0),none,none⟩,
  ⟨.load 13 (some 2) (.t 3),none,none⟩,
  ⟨.call (some 14) n_spec_l7Found [(.t 12),(.t 13)],none,none⟩,
  ⟨.mov 5 (.t 14),none,none⟩] [0,3,5])
 (.seq (.reg [⟨.mov 6 (.c (.int .i64 0)),none,none⟩] [0,3,5,6])
 (.seq (.seq (.reg [⟨.mov 7 (.c (.int .i64 0)),none,none⟩] [0,3,5,6,7])
 (.block 0 (.loop [0,3,5,6,7] c_spec_LinesFor_L0)))
 (.seq (.reg [⟨.mov 36 (.t 6),none,none⟩,
  ⟨.mov 4 (.t 36),none,none⟩] [4])
 (.ret))))))
def f_spec_LinesFor:Fn:=⟨[.ro 0,.ro 0],false,true,[.t 4],c_spec_LinesFor⟩
def c_laws_sameGraph_L0:VC:= .seq (.seq (.reg [⟨.mov 21 (.t 5),none,none⟩,
  ⟨.fad 22 (.t 2) 1,none,none⟩,
  ⟨.load 23 none (.t 22),none,none⟩,
  ⟨.len 24 (.t 23),none,none⟩,
  ⟨.bin 25 .lss (.t 21) (.t 24),none,none⟩] [2,3,5,25])
 (.cond (.t 25)
 (.skip)
 (.exit 0)))
 (.seq (.block 1 (.seq (.reg [⟨.fad 28 (.t 2) 1,none,none⟩,
  ⟨.load 29 none (.t 28),none,none⟩,
  ⟨.mov 30 (.t 5),none,none⟩,
  ⟨.iad 31 t_impl_Obj 2 (.t 29) (.t 30),none,none⟩,
  ⟨.load 32 (some 2) (.t 31),none,none⟩,
  ⟨.fad 33 (.t 3) 1,none,none⟩,
  ⟨.load 34 none (.t 33),none,none⟩,
  ⟨.mov 35 (.t 5),none,none⟩,
  ⟨.iad 36 t_impl_Obj 2 (.t 34) (.t 35),none,none⟩,
  ⟨.load 37 (some 2) (.t 36),none,none⟩,
  ⟨.call (some 38) n_laws_sameObj [(.t 32),(.t 37)],none,none⟩,
  ⟨.un 39 .not (.t 38),none,none⟩] [2,3,5,39])
 (.cond (.t 39)
 (.seq (.reg [⟨.mov 4 (.c (.bool false)),none,none⟩] [4])
 (.ret))
 (.skip))))
 (.reg [⟨.mov 26 (.t 5),none,none⟩,
  ⟨.bin 27 .add (.t 26) (.c (.int .i64 1)),none,none⟩,
  ⟨.mov 5 (.t 27),none,none⟩] [2,3,5]))
def c_laws_sameGraph:VC:= .seq (.reg [⟨.box 2 (.t 0),none,none⟩,
  ⟨.box 3 (.t 1),none,none⟩,
  ⟨.mov 4 (.c (.bool false)),none,none⟩] [2,3])
 (.seq (.seq (.reg [⟨.fad 6 (.t 2) 0,none,none⟩,
  ⟨.load 7 none (.t 6),none,none⟩,
  ⟨.fad 8 (.t 3) 0,none,none⟩,
  ⟨.load 9 none (.t 8),none,none⟩,
  ⟨.call (some 10) n_laws_sameInts [(.t 7),(.t 9)],none,none⟩,
  ⟨.un 11 .not (.t 10),none,none⟩,
  ⟨.mov 12 (.t 11),none,none⟩,
  ⟨.fad 13 (.t 2) 1,some (12,false),(some 13)⟩,
  ⟨.load 14 none (.t 13),some (12,false),(some 14)⟩,
  ⟨.len 15 (.t 14),some (12,false),(some 15)⟩,
  ⟨.fad 16 (.t 3) 1,some (12,false),(some 16)⟩,
  ⟨.load 17 none (.t 16),some (12,false),(some 17)⟩,
  ⟨.len 18 (.t 17),some (12,false),(some 18)⟩,
  ⟨.bin 19 .neq (.t 15) (.t 18),some (12,false),(some 19)⟩,
  ⟨.pick 20 (.t 12) (.c (.bool true)) (.t 19),none,none⟩] [2,3,20])
 (.cond (.t 20)
 (.seq (.reg [⟨.mov 4 (.c (.bool false)),none,none⟩] [4])
 (.ret))
 (.skip)))
 (.seq (.seq (.reg [⟨.mov 5 (.c (.int .i64 0)),none,none⟩] [2,3,5])
 (.block 0 (.loop [2,3,5] c_laws_sameGraph_L0)))
 (.seq (.reg [⟨.mov 4 (.c (.bool true)),none,none⟩] [4])
 (.ret))))
def f_laws_sameGraph:Fn:=⟨[.ro 0,.ro 0],false,true,[.t 4],c_laws_sameGraph⟩
def c_impl_Plain:VC:= .seq (.reg [⟨.box 3 (.t 1),none,none⟩,
  ⟨.alloc 4 [.nl t_i64,.nl t_impl_Obj],none,none⟩] [0,3,4])
 (.seq (.seq (.reg [⟨.mov 5 (.t 0),none,none⟩,
  ⟨.load 6 (some 2) (.t 3),none,none⟩,
  ⟨.call (some 7) n_impl_GraphOk [(.t 5),(.t 6)],none,none⟩,
  ⟨.un 8 .not (.t 7),none,none⟩] [0,3,4,8])
 (.cond (.t 8)
 (.seq (.reg [⟨.build 9 [.nl t_i64,.nl t_impl_Obj] [],none,none⟩,
  ⟨.store 2 (.t 4) (.t 9),none,none⟩] [4])
 (.ret))
 (.skip)))
 (.seq (.reg [⟨.mov 10 (.t 0),none,none⟩,
  ⟨.load 11 (some 2) (.t 3),none,none⟩,
  ⟨.call (some 12) n_impl_plain [(.t 10),(.t 11)],none,none⟩,
  ⟨.store 2 (.t 4) (.t 12),none,none⟩] [4])
 (.ret)))
def f_impl_Plain:Fn:=⟨[.ro 0,.ro 0],false,false,[.cell 4 (some 2)],c_impl_Plain⟩
def c_spec_Plain:VC:= .seq (.reg [⟨.box 3 (.t 1),none,none⟩,
  ⟨.alloc 4 [.nl t_i64,.nl t_impl_Obj],none,none⟩] [0,3,4])
 (.seq (.seq (.reg [⟨.mov 5 (.t 0),none,none⟩,
  ⟨.load 6 (some 2) (.t 3),none,none⟩,
  ⟨.call (some 7) n_spec_GraphOk [(.t 5),(.t 6)],none,none⟩,
  ⟨.un 8 .not (.t 7),none,none⟩] [0,3,4,8])
 (.cond (.t 8)
 (.seq (.reg [⟨.build 9 [.nl t_i64,.nl t_impl_Obj] [],none,none⟩,
  ⟨.store 2 (.t 4) (.t 9),none,none⟩] [4])
 (.ret))
 (.skip)))
 (.seq (.reg [⟨.mov 10 (.t 0),none,none⟩,
  ⟨.load 11 (some 2) (.t 3),none,none⟩,
  ⟨.call (some 12) n_spec_l7Plain [(.t 10),(.t 11)],none,none⟩,
  ⟨.store 2 (.t 4) (.t 12),none,none⟩] [4])
 (.ret)))
def f_spec_Plain:Fn:=⟨[.ro 0,.ro 0],false,false,[.cell 4 (some 2)],c_spec_Plain⟩
def c_spec_Alike:VC:= .seq (.reg [⟨.box 4 (.t 1),none,none⟩,
  ⟨.box 5 (.t 2),none,none⟩,
  ⟨.mov 6 (.c (.bool false)),none,none⟩] [0,4,5])
 (.seq (.reg [⟨.mov 7 (.t 0),none,none⟩,
  ⟨.load 8 (some 2) (.t 4),none,none⟩,
  ⟨.call (some 9) n_spec_GraphOk [(.t 7),(.t 8)],none,none⟩,
  ⟨.mov 10 (.t 9),none,none⟩,
  ⟨.mov 11 (.t 0),some (10,true),(some 11)⟩,
  ⟨.load 12 (some 2) (.t 5),some (10,true),(some 12)⟩,
  ⟨.call (some 13) n_spec_GraphOk [(.t 11),(.t 12)],some (10,true),(some 13)⟩,
  ⟨.pick 14 (.t 10) (.t 13) (.c (.bool false)),none,none⟩,
  ⟨.mov 15 (.t 14),none,none⟩,
  ⟨.mov 16 (.t 0),some (15,true),(some 16)⟩,
  ⟨.load 17 (some 2) (.t 4),some (15,true),(some 17)⟩,
  ⟨.call (some 18) n_spec_l7Plain [(.t 16),(.t 17)],some (15,true),(some 18)⟩,
  ⟨.mov 19 (.t 0),some (15,true),(some 19)⟩,
  ⟨.load 20 (some 2) (.t 5),some (15,true),(some 20)⟩,
  ⟨.call (some 21) n_spec_l7Plain [(.t 19),(.t 20)],some (15,true),(some 21)⟩,
  ⟨.call (some 22) n_spec_l7Same [(.t 18),(.t 21)],some (15,true),(some 22)⟩,
  ⟨.pick 23 (.t 15) (.t 22) (.c (.bool false)),none,none⟩,
  ⟨.mov 6 (.t 23),none,none⟩] [6])
 (.ret))
def f_spec_Alike:Fn:=⟨[.ro 0,.ro 0,.ro 0],false,true,[.t 6],c_spec_Alike⟩
def c_impl_Alike:VC:= .seq (.reg [⟨.box 4 (.t 1),none,none⟩,
  ⟨.box 5 (.t 2),none,none⟩,
  ⟨.mov 6 (.c (.bool false)),none,none⟩] [0,4,5])
 (.seq (.reg [⟨.mov 7 (.t 0),none,none⟩,
  ⟨.load 8 (some 2) (.t 4),none,none⟩,
  ⟨.call (some 9) n_impl_GraphOk [(.t 7),(.t 8)],none,none⟩,
  ⟨.mov 10 (.t 9),none,none⟩,
  ⟨.mov 11 (.t 0),some (10,true),(some 11)⟩,
  ⟨.load 12 (some 2) (.t 5),some (10,true),(some 12)⟩,
  ⟨.call (some 13) n_impl_GraphOk [(.t 11),(.t 12)],some (10,true),(some 13)⟩,
  ⟨.pick 14 (.t 10) (.t 13) (.c (.bool false)),none,none⟩,
  ⟨.mov 15 (.t 14),none,none⟩,
  ⟨.mov 16 (.t 0),some (15,true),(some 16)⟩,
  ⟨.load 17 (some 2) (.t 4),some (15,true),(some 17)⟩,
  ⟨.call (some 18) n_impl_plain [(.t 16),(.t 17)],some (15,true),(some 18)⟩,
  ⟨.mov 19 (.t 0),some (15,true),(some 19)⟩,
  ⟨.load 20 (some 2) (.t 5),some (15,true),(some 20)⟩,
  ⟨.call (some 21) n_impl_plain [(.t 19),(.t 20)],some (15,true),(some 21)⟩,
  ⟨.call (some 22) n_impl_sameGraph [(.t 18),(.t 21)],some (15,true),(some 22)⟩,
  ⟨.pick 23 (.t 15) (.t 22) (.c (.bool false)),none,none⟩,
  ⟨.mov 6 (.t 23),none,none⟩] [6])
 (.ret))
def f_impl_Alike:Fn:=⟨[.ro 0,.ro 0,.ro 0],false,true,[.t 6],c_impl_Alike⟩
def c_impl_GraphOk:VC:= .seq (.reg [⟨.box 2 (.t 0),none,none⟩,
  ⟨.box 3 (.t 1),none,none⟩,
  ⟨.mov 4 (.c (.bool false)),none,none⟩] [2,3])
 (.seq (.seq (.reg [⟨.load 6 none (.t 2),none,none⟩,
  ⟨.call (some 7) n_impl_TypesOk [(.t 6)],none,none⟩,
  ⟨.un 8 .not (.t 7),none,none⟩,
  ⟨.mov 9 (.t 8),none,none⟩,
  ⟨.fad 10 (.t 3) 0,some (9,false),(some 10)⟩,
  ⟨.load 11 none (.t 10),some (9,false),(some 11)⟩,
  ⟨.len 12 (.t 11),some (9,false),(some 12)⟩,
  ⟨.bin 13 .gtr (.t 12) (.c (.int .i64 40)),some (9,false),(some 13)⟩,
  ⟨.pick 14 (.t 9) (.c (.bool true)) (.t 13),none,none⟩,
  ⟨.mov 15 (.t 14),none,none⟩,
  ⟨.fad 16 (.t 3) 1,some (15,false),(some 16)⟩,
  ⟨.load 17 none (.t 16),some (15,false),(some 17)⟩,
  ⟨.len 18 (.t 17),some (15,false),(some 18)⟩,
  ⟨.bin 19 .gtr (.t 18) (.c (.int .i64 400)),some (15,false),(some 19)⟩,
  ⟨.pick 20 (.t 15) (.c (.bool true)) (.t 19),none,none⟩] [2,3,20])
 (.cond (.t 20)
 (.seq (.reg [⟨.mov 4 (.c (.bool false)),none,none⟩] [4])
 (.ret))
 (.skip)))
 (.seq (.reg [⟨.mkf 21 n_impl_GraphOk_1 [] [(.t 3)],none,none⟩,
  ⟨.mov 5 (.t 21),none,none⟩] [2,3,5])
 (.seq (.reg [⟨.fad 22 (.t 3) 0,none,none⟩,
  ⟨.load 23 none (.t 22),none,none⟩,
  ⟨.mov 24 (.t 5),none,none⟩,
  ⟨.call (some 25) n_slices_ContainsFunc_int64_int64 [(.t 23),(.t 24)],none,none⟩,
  ⟨.un 26 .not (.t 25),none,none⟩,
  ⟨.mov 27 (.t 26),none,none⟩,
  ⟨.fad 28 (.t 3) 1,some (27,true),(some 28)⟩,
  ⟨.load 29 none (.t 28),some (27,true),(some 29)⟩,
  ⟨.mkf 30 n_impl_GraphOk_2 [] [(.t 2),(.t 3)],some (27,true),(some 30)⟩,
  ⟨.call (some 31) n_slices_ContainsFunc_impl_Obj_impl_Obj [(.t 29),(.t 30)],some (27,true),(some 31)⟩,
  ⟨.un 32 .not (.t 31),some (27,true),(some 32)⟩,
  ⟨.pick 33 (.t 27) (.t 32) (.c (.bool false)),none,none⟩,
  ⟨.mov 4 (.t 33),none,none⟩] [4])
 (.ret))))
def f_impl_GraphOk:Fn:=⟨[.ro 0,.ro 0],false,true,[.t 4],c_impl_GraphOk⟩
def c_spec_DrawGraphOk:VC:= .seq (.reg [⟨.mov 2 (.nl t_string),none,none⟩,
  ⟨.alloc 3 [.nl t_i64,.nl t_impl_Obj],none,none⟩] [0,3])
 (.seq (.reg [⟨.mov 7 (.t 0),none,none⟩,
  ⟨.call (some 8) n_spec_l1Open [(.t 7)],none,none⟩,
  ⟨.mov 4 (.t 8),none,none⟩] [3,4])
 (.seq (.reg [⟨.mov 9 (.t 4),none,none⟩,
  ⟨.call (some 10) n_spec_l1Rd_types [(.t 9)],none,none⟩,
  ⟨.mov 5 (.t 10),none,none⟩] [3,4,5])
 (.seq (.reg [⟨.mov 11 (.t 4),none,none⟩,
  ⟨.mov 12 (.t 4),none,none⟩,
  ⟨.mov 13 (.t 5),none,none⟩,
  ⟨.mov 14 (.t 4),none,none⟩,
  ⟨.call (some 15) n_spec_l1Rd_below [(.t 14),(.c (.int .i64 5))],none,none⟩,
  ⟨.call (some 16) n_spec_l1Rd_graph [(.t 12),(.t 13),(.t 15),(.c (.int .i64 14))],none,none⟩,
  ⟨.call (some 17) n_spec_l1Rd_hurtGraph [(.t 11),(.t 16)],none,none⟩,
  ⟨.alloc 6 [.nl t_i64,.nl t_impl_Obj],none,none⟩,
  ⟨.store 2 (.t 6) (.t 17),none,none⟩] [3,4,5,6])
 (.seq (.seq (.reg [⟨.mov 18 (.t 4),none,none⟩,
  ⟨.call (some 19) n_spec_l1Rd_once [(.t 18),(.c (.int .i64 20))],none,none⟩] [3,4,5,6,19])
 (.cond (.t 19)
 (.seq (.regD [⟨.mov 20 (.t 4),none,none⟩,
  ⟨.mov 21 (.t 5),none,none⟩,
  ⟨.call (some 22) n_spec_l1Rd_hurtTypes [(.t 20),(.t 21)],none,none⟩,
  ⟨.load 23 (some 2) (.t 6),none,none⟩,
  ⟨.mov 2 (.t 22),none,none⟩,
  ⟨.store 2 (.t 3) (.t 23),none,none⟩] [2,3] [(2,3)])
 (.ret))
 (.skip)))
 (.seq (.reg [⟨.mov 24 (.t 5),none,none⟩,
  ⟨.load 25 (some 2) (.t 6),none,none⟩,
  ⟨.mov 2 (.t 24),none,none⟩,
  ⟨.store 2 (.t 3) (.t 25),none,none⟩] [2,3])
 (.ret))))))
def f_spec_DrawGraphOk:Fn:=⟨[.ro 0],true,false,[.t 2,.cell 3 (some 2)],c_spec_DrawGraphOk⟩
def c_spec_TypesOk_L0:VC:= .seq (.seq (.reg [⟨.mov 8 (.t 3),none,none⟩,
  ⟨.mov 9 (.t 0),none,none⟩,
  ⟨.len 10 (.t 9),none,none⟩,
  ⟨.bin 11 .lss (.t 8) (.t 10),none,none⟩] [0,3,11])
 (.cond (.t 11)
 (.skip)
 (.exit 0)))
 (.seq (.block 1 (.seq (.reg [⟨.mov 14 (.t 0),none,none⟩,
  ⟨.mov 15 (.t 3),none,none⟩,
  ⟨.iad 16 t_string 1 (.t 14) (.t 15),none,none⟩,
  ⟨.load 17 none (.t 16),none,none⟩,
  ⟨.call (some 18) n_spec_l3Type [(.t 17)],none,none⟩,
  ⟨.un 19 .not (.t 18),none,none⟩] [0,3,19])
 (.cond (.t 19)
 (.seq (.reg [⟨.mov 2 (.c (.bool false)),none,none⟩] [2])
 (.ret))
 (.skip))))
 (.reg [⟨.mov 12 (.t 3),none,none⟩,
  ⟨.bin 13 .add (.t 12) (.c (.int .i64 1)),none,none⟩,
  ⟨.mov 3 (.t 13),none,none⟩] [0,3]))
def c_spec_TypesOk:VC:= .seq (.reg [⟨.mov 2 (.c (.bool false)),none,none⟩] [0])
 (.seq (.seq (.reg [⟨.mov 4 (.t 0),none,none⟩,
  ⟨.len 5 (.t 4),none,none⟩,
  ⟨.call (some 6) n_spec_l1In [(.t 5),(.c (.int .i64 1)),(.c (.int .i64 12))],none,none⟩,
  ⟨.un 7 .not (.t 6),none,none⟩] [0,7])
 (.cond (.t 7)
 (.seq (.reg [⟨.mov 2 (.c (.bool false)),none,none⟩] [2])
 (.ret))
 (.skip)))
 (.seq (.seq (.reg [⟨.mov 3 (.c (.int .i64 0)),none,none⟩] [0,3])
 (.block 0 (.loop [0,3] c_spec_TypesOk_L0)))
 (.seq (.reg [⟨.mov 2 (.c (.bool true)),none,none⟩] [2])
 (.ret))))
def f_spec_TypesOk:Fn:=⟨[.ro 0],false,true,[.t 2],c_spec_TypesOk⟩
def c_spec_l1In:VC:= .seq (.reg [⟨.mov 6 (.c (.bool false)),none,none⟩] [0,1,2])
 (.seq (.reg [⟨.mov 7 (.t 0),none,none⟩,
  ⟨.mov 8 (.t 1),none,none⟩,
  ⟨.bin 9 .geq (.t 7) (.t 8),none,none⟩,
  ⟨.mov 10 (.t 9),none,none⟩,
  ⟨.mov 11 (.t 0),some (10,true),(some 11)⟩,
  ⟨.mov 12 (.t 2),some (10,true),(some 12)⟩,
  ⟨.bin 13 .leq (.t 11) (.t 12),some (10,true),(some 13)⟩,
  ⟨.pick 14 (.t 10) (.t 13) (.c (.bool false)),none,none⟩,
  ⟨.mov 6 (.t 14),none,none⟩] [6])
 (.ret))
def f_spec_l1In:Fn:=⟨[.ro 0,.ro 0,.ro 0],false,true,[.t 6],c_spec_l1In⟩
def c_impl_discovered_L0:VC:= .seq (.reg [⟨.bin 24 .lss (.t 23) (.t 22),none,none⟩] [0,3,5,7,21,22,23,24])
 (.seq (.cond (.t 24)
 (.skip)
 (.exit 0))
 (.seq (.block 1 (.seq (.reg [⟨.iad 25 t_i64 1 (.t 21) (.t 23),none,none⟩,
  ⟨.load 26 none (.t 25),none,none⟩,
  ⟨.mov 9 (.t 26),none,none⟩] [0,3,5,7,9,21,22,23])
 (.reg [⟨.mov 27 (.t 7),none,none⟩,
  ⟨.mov 28 (.t 9),none,none⟩,
  ⟨.calv (some 29) (.t 27) [(.t 28)],none,none⟩] [0,3,5,7,21,22,23])))
 (.reg [⟨.bin 30 .add (.t 23) (.c (.int .i64 1)),none,none⟩,
  ⟨.mov 23 (.t 30),none,none⟩] [0,3,5,7,21,22,23])))
def c_impl_discovered_L2:VC:= .seq (.reg [⟨.bin 49 .lss (.t 48) (.t 47),none,none⟩] [0,3,5,7,10,11,46,47,48,49])
 (.seq (.cond (.t 49)
 (.skip)
 (.exit 4))
 (.seq (.block 5 (.seq (.reg [⟨.mov 50 (.t 48),none,none⟩,
  ⟨.iad 51 t_i64 1 (.t 46) (.t 48),none,none⟩,
  ⟨.load 52 none (.t 51),none,none⟩,
  ⟨.mov 12 (.t 50),none,none⟩,
  ⟨.mov 13 (.t 52),none,none⟩] [0,3,5,7,10,11,12,13,46,47,48])
 (.seq (.reg [⟨.mov 53 (.t 0),none,none⟩,
  ⟨.fad 54 (.t 11) 0,none,none⟩,
  ⟨.load 55 none (.t 54),none,none⟩,
  ⟨.iad 56 t_string 1 (.t 53) (.t 55),none,none⟩,
  ⟨.load 57 none (.t 56),none,none⟩,
  ⟨.mov 58 (.t 12),none,none⟩,
  ⟨.ix 59 (.t 57) (.t 58),none,none⟩,
  ⟨.bin 60 .eql (.t 59) (.c (.int .u8 114)),none,none⟩] [0,3,5,7,10,11,13,46,47,48,60])
 (.cond (.t 60)
 (.reg [⟨.mov 61 (.t 7),none,none⟩,
  ⟨.mov 62 (.t 13),none,none⟩,
  ⟨.calv (some 63) (.t 61) [(.t 62)],none,none⟩] [0,3,5,7,10,11,46,47,48])
 (.skip)))))
 (.reg [⟨.bin 64 .add (.t 48) (.c (.int .i64 1)),none,none⟩,
  ⟨.mov 48 (.t 64),none,none⟩] [0,3,5,7,10,11,46,47,48])))
def c_impl_discovered_L1:VC:= .seq (.seq (.reg [⟨.mov 31 (.t 10),none,none⟩,
  ⟨.load 32 none (.t 5),none,none⟩,
  ⟨.len 33 (.t 32),none,none⟩,
  ⟨.bin 34 .lss (.t 31) (.t 33),none,none⟩] [0,3,5,7,10,34])
 (.cond (.t 34)
 (.skip)
 (.exit 2)))
 (.seq (.block 3 (.seq (.reg [⟨.fad 37 (.t 3) 1,none,none⟩,
  ⟨.load 38 none (.t 37),none,none⟩,
  ⟨.load 39 none (.t 5),none,none⟩,
  ⟨.mov 40 (.t 10),none,none⟩,
  ⟨.iad 41 t_i64 1 (.t 39) (.t 40),none,none⟩,
  ⟨.load 42 none (.t 41),none,none⟩,
  ⟨.iad 43 t_impl_Obj 2 (.t 38) (.t 42),none,none⟩,
  ⟨.load 44 (some 2) (.t 43),none,none⟩,
  ⟨.alloc 11 [.v (.int .i64 0),.nl t_i64],none,none⟩,
  ⟨.store 2 (.t 11) (.t 44),none,none⟩] [0,3,5,7,10,11])
 (.seq (.reg [⟨.fad 45 (.t 11) 1,none,none⟩,
  ⟨.load 46 none (.t 45),none,none⟩,
  ⟨.len 47 (.t 46),none,none⟩,
  ⟨.mov 48 (.c (.int .i64 0)),none,none⟩] [0,3,5,7,10,11,46,47,48])
 (.block 4 (.loop [0,3,5,7,10,11,46,47,48] c_impl_discovered_L2)))))
 (.reg [⟨.mov 35 (.t 10),none,none⟩,
  ⟨.bin 36 .add (.t 35) (.c (.int .i64 1)),none,none⟩,
  ⟨.mov 10 (.t 36),none,none⟩] [0,3,5,7,10]))
def c_impl_discovered:VC:= .seq (.reg [⟨.box 3 (.t 1),none,none⟩,
  ⟨.mov 4 (.nl t_i64),none,none⟩] [0,3])
 (.seq (.reg [⟨.bsl 14 t_i64 1 [.v (.int .i64 0)] 0 [],none,none⟩,
  ⟨.alloc 5 [.nl t_i64],none,none⟩,
  ⟨.store 1 (.t 5) (.t 14),none,none⟩] [0,3,5])
 (.seq (.reg [⟨.fad 15 (.t 3) 1,none,none⟩,
  ⟨.load 16 none (.t 15),none,none⟩,
  ⟨.len 17 (.t 16),none,none⟩,
  ⟨.mks 18 t_bool 1 [.v (.bool false)] (.t 17),none,none⟩,
  ⟨.alloc 6 [.nl t_bool],none,none⟩,
  ⟨.store 1 (.t 6) (.t 18),none,none⟩] [0,3,5,6])
 (.seq (.reg [⟨.mkf 19 n_impl_discovered_1 [] [(.t 6),(.t 5)],none,none⟩,
  ⟨.mov 7 (.t 19),none,none⟩] [0,3,5,7])
 (.seq (.seq (.reg [⟨.fad 20 (.t 3) 0,none,none⟩,
  ⟨.load 21 none (.t 20),none,none⟩,
  ⟨.len 22 (.t 21),none,none⟩,
  ⟨.mov 23 (.c (.int .i64 0)),none,none⟩] [0,3,5,7,21,22,23])
 (.block 0 (.loop [0,3,5,7,21,22,23] c_impl_discovered_L0)))
 (.seq (.seq (.reg [⟨.mov 10 (.c (.int .i64 0)),none,none⟩] [0,3,5,7,10])
 (.block 2 (.loop [0,3,5,7,10] c_impl_discovered_L1)))
 (.seq (.reg [⟨.load 65 none (.t 5),none,none⟩,
  ⟨.mov 4 (.t 65),none,none⟩] [4])
 (.ret)))))))
def f_impl_discovered:Fn:=⟨[.ro 0,.ro 0],false,false,[.t 4],c_impl_discovered⟩
def c_impl_runOf:VC:= .seq (.reg [⟨.mov 2 (.c (.int .i64 0)),none,none⟩] [0])
 (.seq (.reg [⟨.mov 3 (.t 0),none,none⟩,
  ⟨.slen 4 (.t 3),none,none⟩,
  ⟨.bin 5 .add (.t 4) (.c (.int .i64 8)),none,none⟩,
  ⟨.bin 6 .quo (.t 5) (.c (.int .i64 8)),none,none⟩,
  ⟨.mov 2 (.t 6),none,none⟩] [2])
 (.ret))
def f_impl_runOf:Fn:=⟨[.ro 0],false,true,[.t 2],c_impl_runOf⟩
def c_spec_l7Found_L0:VC:= .seq (.seq (.reg [⟨.mov 18 (.t 7),none,none⟩,
  ⟨.fad 19 (.t 3) 0,none,none⟩,
  ⟨.load 20 none (.t 19),none,none⟩,
  ⟨.len 21 (.t 20),none,none⟩,
  ⟨.bin 22 .lss (.t 18) (.t 21),none,none⟩] [0,3,5,6,7,22])
 (.cond (.t 22)
 (.skip)
 (.exit 0)))
 (.seq (.block 1 (.seq (.reg [⟨.fad 25 (.t 3) 0,none,none⟩,
  ⟨.load 26 none (.t 25),none,none⟩,
  ⟨.mov 27 (.t 7),none,none⟩,
  ⟨.iad 28 t_i64 1 (.t 26) (.t 27),none,none⟩,
  ⟨.load 29 none (.t 28),none,none⟩,
  ⟨.bin 30 .sub (.t 29) (.c (.int .i64 1)),none,none⟩,
  ⟨.mov 8 (.t 30),none,none⟩] [0,3,5,6,7,8])
 (.seq (.reg [⟨.mov 31 (.t 8),none,none⟩,
  ⟨.bin 32 .geq (.t 31) (.c (.int .i64 0)),none,none⟩,
  ⟨.mov 33 (.t 32),none,none⟩,
  ⟨.mov 34 (.t 6),some (33,true),(some 34)⟩,
  ⟨.mov 35 (.t 8),some (33,true),(some 35)⟩,
  ⟨.iad 36 t_bool 1 (.t 34) (.t 35),some (33,true),(some 36)⟩,
  ⟨.load 37 none (.t 36),some (33,true),(some 37)⟩,
  ⟨.un 38 .not (.t 37),some (33,true),(some 38)⟩,
  ⟨.pick 39 (.t 33) (.t 38) (.c (.bool false)),none,none⟩] [0,3,5,6,7,8,39])
 (.cond (.t 39)
 (.seq (.reg [⟨.mov 40 (.t 6),none,none⟩,
  ⟨.mov 41 (.t 8),none,none⟩,
  ⟨.iad 42 t_bool 1 (.t 40) (.t 41),none,none⟩,
  ⟨.store 1 (.t 42) (.c (.bool true)),none,none⟩] [0,3,5,6,7,8])
 (.reg [⟨.mov 43 (.t 5),none,none⟩,
  ⟨.mov 44 (.t 8),none,none⟩,
  ⟨.bsl 45 t_i64 1 [.v (.int .i64 0)] 1 [(0,(.t 44))],none,none⟩,
  ⟨.app 46 t_i64 8 true (.t 43) (.t 45),none,none⟩,
  ⟨.mov 5 (.t 46),none,none⟩] [0,3,5,6,7]))
 (.skip)))))
 (.reg [⟨.mov 23 (.t 7),none,none⟩,
  ⟨.bin 24 .add (.t 23) (.c (.int .i64 1)),none,none⟩,
  ⟨.mov 7 (.t 24),none,none⟩] [0,3,5,6,7]))
def c_spec_l7Found_L2:VC:= .seq (.seq (.reg [⟨.mov 61 (.t 11),none,none⟩,
  ⟨.fad 62 (.t 10) 1,none,none⟩,
  ⟨.load 63 none (.t 62),none,none⟩,
  ⟨.len 64 (.t 63),none,none⟩,
  ⟨.bin 65 .lss (.t 61) (.t 64),none,none⟩] [0,3,5,6,9,10,11,65])
 (.cond (.t 65)
 (.skip)
 (.exit 4)))
 (.seq (.block 5 (.seq (.seq (.reg [⟨.mov 68 (.t 0),none,none⟩,
  ⟨.fad 69 (.t 10) 0,none,none⟩,
  ⟨.load 70 none (.t 69),none,none⟩,
  ⟨.iad 71 t_string 1 (.t 68) (.t 70),none,none⟩,
  ⟨.load 72 none (.t 71),none,none⟩,
  ⟨.mov 73 (.t 11),none,none⟩,
  ⟨.ix 74 (.t 72) (.t 73),none,none⟩,
  ⟨.bin 75 .neq (.t 74) (.c (.int .u8 114)),none,none⟩] [0,3,5,6,9,10,11,75])
 (.cond (.t 75)
 (.exit 5)
 (.skip)))
 (.seq (.reg [⟨.fad 76 (.t 10) 1,none,none⟩,
  ⟨.load 77 none (.t 76),none,none⟩,
  ⟨.mov 78 (.t 11),none,none⟩,
  ⟨.iad 79 t_i64 1 (.t 77) (.t 78),none,none⟩,
  ⟨.load 80 none (.t 79),none,none⟩,
  ⟨.bin 81 .sub (.t 80) (.c (.int .i64 1)),none,none⟩,
  ⟨.mov 12 (.t 81),none,none⟩] [0,3,5,6,9,10,11,12])
 (.seq (.reg [⟨.mov 82 (.t 12),none,none⟩,
  ⟨.bin 83 .geq (.t 82) (.c (.int .i64 0)),none,none⟩,
  ⟨.mov 84 (.t 83),none,none⟩,
  ⟨.mov 85 (.t 6),some (84,true),(some 85)⟩,
  ⟨.mov 86 (.t 12),some (84,true),(some 86)⟩,
  ⟨.iad 87 t_bool 1 (.t 85) (.t 86),some (84,true),(some 87)⟩,
  ⟨.load 88 none (.t 87),some (84,true),(some 88)⟩,
  ⟨.un 89 .not (.t 88),some (84,true),(some 89)⟩,
  ⟨.pick 90 (.t 84) (.t 89) (.c (.bool false)),none,none⟩] [0,3,5,6,9,10,11,12,90])
 (.cond (.t 90)
 (.seq (.reg [⟨.mov 91 (.t 6),none,none⟩,
  ⟨.mov 92 (.t 12),none,none⟩,
  ⟨.iad 93 t_bool 1 (.t 91) (.t 92),none,none⟩,
  ⟨.store 1 (.t 93) (.c (.bool true)),none,none⟩] [0,3,5,6,9,10,11,12])
 (.reg [⟨.mov 94 (.t 5),none,none⟩,
  ⟨.mov 95 (.t 12),none,none⟩,
  ⟨.bsl 96 t_i64 1 [.v (.int .i64 0)] 1 [(0,(.t 95))],none,none⟩,
  ⟨.app 97 t_i64 8 true (.t 94) (.t 96),none,none⟩,
  ⟨.mov 5 (.t 97),none,none⟩] [0,3,5,6,9,10,11]))
 (.skip))))))
 (.reg [⟨.mov 66 (.t 11),none,none⟩,
  ⟨.bin 67 .add (.t 66) (.c (.int .i64 1)),none,none⟩,
  ⟨.mov 11 (.t 67),none,none⟩] [0,3,5,6,9,10,11]))
def c_spec_l7Found_L1:VC:= .seq (.seq (.reg [⟨.mov 47 (.t 9),none,none⟩,
  ⟨.mov 48 (.t 5),none,none⟩,
  ⟨.len 49 (.t 48),none,none⟩,
  ⟨.bin 50 .lss (.t 47) (.t 49),none,none⟩] [0,3,5,6,9,50])
 (.cond (.t 50)
 (.skip)
 (.exit 2)))
 (.seq (.block 3 (.seq (.reg [⟨.fad 53 (.t 3) 1,none,none⟩,
  ⟨.load 54 none (.t 53),none,none⟩,
  ⟨.mov 55 (.t 5),none,none⟩,
  ⟨.mov 56 (.t 9),none,none⟩,
  ⟨.iad 57 t_i64 1 (.t 55) (.t 56),none,none⟩,
  ⟨.load 58 none (.t 57),none,none⟩,
  ⟨.iad 59 t_impl_Obj 2 (.t 54) (.t 58),none,none⟩,
  ⟨.load 60 (some 2) (.t 59),none,none⟩,
  ⟨.alloc 10 [.v (.int .i64 0),.nl t_i64],none,none⟩,
  ⟨.store 2 (.t 10) (.t 60),none,none⟩] [0,3,5,6,9,10])
 (.seq (.reg [⟨.mov 11 (.c (.int .i64 0)),none,none⟩] [0,3,5,6,9,10,11])
 (.block 4 (.loop [0,3,5,6,9,10,11] c_spec_l7Found_L2)))))
 (.reg [⟨.mov 51 (.t 9),none,none⟩,
  ⟨.bin 52 .add (.t 51) (.c (.int .i64 1)),none,none⟩,
  ⟨.mov 9 (.t 52),none,none⟩] [0,3,5,6,9]))
def c_spec_l7Found:VC:= .seq (.reg [⟨.box 3 (.t 1),none,none⟩,
  ⟨.mov 4 (.nl t_i64),none,none⟩] [0,3])
 (.seq (.reg [⟨.bsl 13 t_i64 1 [.v (.int .i64 0)] 0 [],none,none⟩,
  ⟨.mov 5 (.t 13),none,none⟩] [0,3,5])
 (.seq (.reg [⟨.fad 14 (.t 3) 1,none,none⟩,
  ⟨.load 15 none (.t 14),none,none⟩,
  ⟨.len 16 (.t 15),none,none⟩,
  ⟨.mks 17 t_bool 1 [.v (.bool false)] (.t 16),none,none⟩,
  ⟨.mov 6 (.t 17),none,none⟩] [0,3,5,6])
 (.seq (.seq (.reg [⟨.mov 7 (.c (.int .i64 0)),none,none⟩] [0,3,5,6,7])
 (.block 0 (.loop [0,3,5,6,7] c_spec_l7Found_L0)))
 (.seq (.seq (.reg [⟨.mov 9 (.c (.int .i64 0)),none,none⟩] [0,3,5,6,9])
 (.block 2 (.loop [0,3,5,6,9] c_spec_l7Found_L1)))
 (.seq (.reg [⟨.mov 98 (.t 5),none,none⟩,
  ⟨.mov 4 (.t 98),none,none⟩] [4])
 (.ret))))))
def f_spec_l7Found:Fn:=⟨[.ro 0,.ro 0],false,false,[.t 4],c_spec_l7Found⟩
def c_spec_RunOf:VC:= .seq (.reg [⟨.mov 2 (.c (.int .i64 0)),none,none⟩] [0])
 (.seq (.seq (.reg [⟨.mov 3 (.t 0),none,none⟩,
  ⟨.call (some 4) n_spec_l3Type [(.t 3)],none,none⟩,
  ⟨.un 5 .not (.t 4),none,none⟩] [0,5])
 (.cond (.t 5)
 (.seq (.reg [⟨.mov 2 (.c (.int .i64 0)),none,none⟩] [2])
 (.ret))
 (.skip)))
 (.seq (.reg [⟨.mov 6 (.t 0),none,none⟩,
  ⟨.slen 7 (.t 6),none,none⟩,
  ⟨.bin 8 .add (.c (.int .i64 1)) (.t 7),none,none⟩,
  ⟨.bin 9 .add (.t 8) (.c (.int .i64 7)),none,none⟩,
  ⟨.bin 10 .quo (.t 9) (.c (.int .i64 8)),none,none⟩,
  ⟨.mov 2 (.t 10),none,none⟩] [2])
 (.ret)))
def f_spec_RunOf:Fn:=⟨[.ro 0],false,true,[.t 2],c_spec_RunOf⟩
def c_laws_sameInts_L0:VC:= .seq (.seq (.reg [⟨.mov 11 (.t 5),none,none⟩,
  ⟨.mov 12 (.t 0),none,none⟩,
  ⟨.len 13 (.t 12),none,none⟩,
  ⟨.bin 14 .lss (.t 11) (.t 13),none,none⟩] [0,1,5,14])
 (.cond (.t 14)
 (.skip)
 (.exit 0)))
 (.seq (.block 1 (.seq (.reg [⟨.mov 17 (.t 0),none,none⟩,
  ⟨.mov 18 (.t 5),none,none⟩,
  ⟨.iad 19 t_i64 1 (.t 17) (.t 18),none,none⟩,
  ⟨.load 20 none (.t 19),none,none⟩,
  ⟨.mov 21 (.t 1),none,none⟩,
  ⟨.mov 22 (.t 5),none,none⟩,
  ⟨.iad 23 t_i64 1 (.t 21) (.t 22),none,none⟩,
  ⟨.load 24 none (.t 23),none,none⟩,
  ⟨.bin 25 .neq (.t 20) (.t 24),none,none⟩] [0,1,5,25])
 (.cond (.t 25)
 (.seq (.reg [⟨.mov 4 (.c (.bool false)),none,none⟩] [4])
 (.ret))
 (.skip))))
 (.reg [⟨.mov 15 (.t 5),none,none⟩,
  ⟨.bin 16 .add (.t 15) (.c (.int .i64 1)),none,none⟩,
  ⟨.mov 5 (.t 16),none,none⟩] [0,1,5]))
def c_laws_sameInts:VC:= .seq (.reg [⟨.mov 4 (.c (.bool false)),none,none⟩] [0,1])
 (.seq (.seq (.reg [⟨.mov 6 (.t 0),none,none⟩,
  ⟨.len 7 (.t 6),none,none⟩,
  ⟨.mov 8 (.t 1),none,none⟩,
  ⟨.len 9 (.t 8),none,none⟩,
  ⟨.bin 10 .neq (.t 7) (.t 9),none,none⟩] [0,1,10])
 (.cond (.t 10)
 (.seq (.reg [⟨.mov 4 (.c (.bool false)),none,none⟩] [4])
 (.ret))
 (.skip)))
 (.seq (.seq (.reg [⟨.mov 5 (.c (.int .i64 0)),none,none⟩] [0,1,5])
 (.block 0 (.loop [0,1,5] c_laws_sameInts_L0)))
 (.seq (.reg [⟨.mov 4 (.c (.bool true)),none,none⟩] [4])
 (.ret))))
def f_laws_sameInts:Fn:=⟨[.ro 0,.ro 0],false,true,[.t 4],c_laws_sameInts⟩
def c_laws_sameObj:VC:= .seq (.reg [⟨.box 2 (.t 0),none,none⟩,
  ⟨.box 3 (.t 1),none,none⟩,
  ⟨.mov 4 (.c (.bool false)),none,none⟩] [2,3])
 (.seq (.reg [⟨.fad 5 (.t 2) 0,none,none⟩,
  ⟨.load 6 none (.t 5),none,none⟩,
  ⟨.fad 7 (.t 3) 0,none,none⟩,
  ⟨.load 8 none (.t 7),none,none⟩,
  ⟨.bin 9 .eql (.t 6) (.t 8),none,none⟩,
  ⟨.mov 10 (.t 9),none,none⟩,
  ⟨.fad 11 (.t 2) 1,some (10,true),(some 11)⟩,
  ⟨.load 12 none (.t 11),some (10,true),(some 12)⟩,
  ⟨.fad 13 (.t 3) 1,some (10,true),(some 13)⟩,
  ⟨.load 14 none (.t 13),some (10,true),(some 14)⟩,
  ⟨.call (some 15) n_laws_sameInts [(.t 12),(.t 14)],some (10,true),(some 15)⟩,
  ⟨.pick 16 (.t 10) (.t 15) (.c (.bool false)),none,none⟩,
  ⟨.mov 4 (.t 16),none,none⟩] [4])
 (.ret))
def f_laws_sameObj:Fn:=⟨[.ro 0,.ro 0],false,true,[.t 4],c_laws_sameObj⟩
def c_impl_plain_L0:VC:= .seq (.reg [⟨.bin 28 .lss (.t 27) (.t 26),none,none⟩] [0,3,4,5,6,25,26,27,28])
 (.seq (.cond (.t 28)
 (.skip)
 (.exit 0))
 (.seq (.block 1 (.seq (.reg [⟨.mov 29 (.t 27),none,none⟩,
  ⟨.iad 30 t_i64 1 (.t 25) (.t 27),none,none⟩,
  ⟨.load 31 none (.t 30),none,none⟩,
  ⟨.mov 7 (.t 29),none,none⟩,
  ⟨.mov 8 (.t 31),none,none⟩] [0,3,4,5,6,7,8,25,26,27])
 (.reg [⟨.mov 32 (.t 6),none,none⟩,
  ⟨.mov 33 (.t 8),none,none⟩,
  ⟨.bin 34 .add (.t 33) (.c (.int .i64 1)),none,none⟩,
  ⟨.mov 35 (.t 7),none,none⟩,
  ⟨.bin 36 .add (.t 35) (.c (.int .i64 1)),none,none⟩,
  ⟨.iad 37 t_i64 1 (.t 32) (.t 34),none,none⟩,
  ⟨.store 1 (.t 37) (.t 36),none,none⟩] [0,3,4,5,6,25,26,27])))
 (.reg [⟨.bin 38 .add (.t 27) (.c (.int .i64 1)),none,none⟩,
  ⟨.mov 27 (.t 38),none,none⟩] [0,3,4,5,6,25,26,27])))
def c_impl_plain_L1:VC:= .seq (.reg [⟨.bin 44 .lss (.t 43) (.t 42),none,none⟩] [0,3,4,5,6,9,41,42,43,44])
 (.seq (.cond (.t 44)
 (.skip)
 (.exit 2))
 (.seq (.block 3 (.seq (.reg [⟨.iad 45 t_i64 1 (.t 41) (.t 43),none,none⟩,
  ⟨.load 46 none (.t 45),none,none⟩,
  ⟨.mov 11 (.t 46),none,none⟩] [0,3,4,5,6,9,11,41,42,43])
 (.reg [⟨.fad 47 (.t 9) 0,none,none⟩,
  ⟨.load 48 none (.t 47),none,none⟩,
  ⟨.mov 49 (.t 6),none,none⟩,
  ⟨.mov 50 (.t 11),none,none⟩,
  ⟨.iad 51 t_i64 1 (.t 49) (.t 50),none,none⟩,
  ⟨.load 52 none (.t 51),none,none⟩,
  ⟨.bsl 53 t_i64 1 [.v (.int .i64 0)] 1 [(0,(.t 52))],none,none⟩,
  ⟨.app 54 t_i64 8 true (.t 48) (.t 53),none,none⟩,
  ⟨.fad 55 (.t 9) 0,none,none⟩,
  ⟨.store 1 (.t 55) (.t 54),none,none⟩] [0,3,4,5,6,9,41,42,43])))
 (.reg [⟨.bin 56 .add (.t 43) (.c (.int .i64 1)),none,none⟩,
  ⟨.mov 43 (.t 56),none,none⟩] [0,3,4,5,6,9,41,42,43])))
def c_impl_plain_L3:VC:= .seq (.reg [⟨.bin 81 .lss (.t 80) (.t 79),none,none⟩] [0,3,4,6,9,14,57,58,59,78,79,80,81])
 (.seq (.cond (.t 81)
 (.skip)
 (.exit 6))
 (.seq (.block 7 (.seq (.reg [⟨.mov 82 (.t 80),none,none⟩,
  ⟨.iad 83 t_i64 1 (.t 78) (.t 80),none,none⟩,
  ⟨.load 84 none (.t 83),none,none⟩,
  ⟨.mov 15 (.t 82),none,none⟩,
  ⟨.mov 16 (.t 84),none,none⟩] [0,3,4,6,9,14,15,16,57,58,59,78,79,80])
 (.seq (.reg [⟨.mov 85 (.t 0),none,none⟩,
  ⟨.fad 86 (.t 14) 0,none,none⟩,
  ⟨.load 87 none (.t 86),none,none⟩,
  ⟨.iad 88 t_string 1 (.t 85) (.t 87),none,none⟩,
  ⟨.load 89 none (.t 88),none,none⟩,
  ⟨.mov 90 (.t 15),none,none⟩,
  ⟨.ix 91 (.t 89) (.t 90),none,none⟩,
  ⟨.bin 92 .eql (.t 91) (.c (.int .u8 114)),none,none⟩] [0,3,4,6,9,14,15,16,57,58,59,78,79,80,92])
 (.cond (.t 92)
 (.reg [⟨.fad 93 (.t 14) 1,none,none⟩,
  ⟨.load 94 none (.t 93),none,none⟩,
  ⟨.mov 95 (.t 15),none,none⟩,
  ⟨.mov 96 (.t 6),none,none⟩,
  ⟨.mov 97 (.t 16),none,none⟩,
  ⟨.iad 98 t_i64 1 (.t 96) (.t 97),none,none⟩,
  ⟨.load 99 none (.t 98),none,none⟩,
  ⟨.iad 100 t_i64 1 (.t 94) (.t 95),none,none⟩,
  ⟨.store 1 (.t 100) (.t 99),none,none⟩] [0,3,4,6,9,14,57,58,59,78,79,80])
 (.skip)))))
 (.reg [⟨.bin 101 .add (.t 80) (.c (.int .i64 1)),none,none⟩,
  ⟨.mov 80 (.t 101),none,none⟩] [0,3,4,6,9,14,57,58,59,78,79,80])))
def c_impl_plain_L2:VC:= .seq (.reg [⟨.bin 60 .lss (.t 59) (.t 58),none,none⟩] [0,3,4,6,9,57,58,59,60])
 (.seq (.cond (.t 60)
 (.skip)
 (.exit 4))
 (.seq (.block 5 (.seq (.reg [⟨.iad 61 t_i64 1 (.t 57) (.t 59),none,none⟩,
  ⟨.load 62 none (.t 61),none,none⟩,
  ⟨.mov 13 (.t 62),none,none⟩] [0,3,4,6,9,13,57,58,59])
 (.seq (.reg [⟨.fad 63 (.t 3) 1,none,none⟩,
  ⟨.load 64 none (.t 63),none,none⟩,
  ⟨.mov 65 (.t 13),none,none⟩,
  ⟨.iad 66 t_impl_Obj 2 (.t 64) (.t 65),none,none⟩,
  ⟨.fad 67 (.t 66) 0,none,none⟩,
  ⟨.load 68 none (.t 67),none,none⟩,
  ⟨.fad 69 (.t 3) 1,none,none⟩,
  ⟨.load 70 none (.t 69),none,none⟩,
  ⟨.mov 71 (.t 13),none,none⟩,
  ⟨.iad 72 t_impl_Obj 2 (.t 70) (.t 71),none,none⟩,
  ⟨.fad 73 (.t 72) 1,none,none⟩,
  ⟨.load 74 none (.t 73),none,none⟩,
  ⟨.call (some 75) n_slices_Clone_int64_int64 [(.t 74)],none,none⟩,
  ⟨.build 76 [.v (.int .i64 0),.nl t_i64] [(0,1,(.t 68)),(1,1,(.t 75))],none,none⟩,
  ⟨.alloc 14 [.v (.int .i64 0),.nl t_i64],none,none⟩,
  ⟨.store 2 (.t 14) (.t 76),none,none⟩] [0,3,4,6,9,14,57,58,59])
 (.seq (.seq (.reg [⟨.fad 77 (.t 14) 1,none,none⟩,
  ⟨.load 78 none (.t 77),none,none⟩,
  ⟨.len 79 (.t 78),none,none⟩,
  ⟨.mov 80 (.c (.int .i64 0)),none,none⟩] [0,3,4,6,9,14,57,58,59,78,79,80])
 (.block 6 (.loop [0,3,4,6,9,14,57,58,59,78,79,80] c_impl_plain_L3)))
 (.reg [⟨.fad 102 (.t 9) 1,none,none⟩,
  ⟨.load 103 none (.t 102),none,none⟩,
  ⟨.load 104 (some 2) (.t 14),none,none⟩,
  ⟨.bsl 105 t_impl_Obj 2 [.v (.int .i64 0),.nl t_i64] 1 [(0,(.t 104))],none,none⟩,
  ⟨.app 106 t_impl_Obj 32 true (.t 103) (.t 105),none,none⟩,
  ⟨.fad 107 (.t 9) 1,none,none⟩,
  ⟨.store 1 (.t 107) (.t 106),none,none⟩] [0,3,4,6,9,57,58,59])))))
 (.reg [⟨.bin 108 .add (.t 59) (.c (.int .i64 1)),none,none⟩,
  ⟨.mov 59 (.t 108),none,none⟩] [0,3,4,6,9,57,58,59])))
def c_impl_plain:VC:= .seq (.reg [⟨.box 3 (.t 1),none,none⟩,
  ⟨.alloc 4 [.nl t_i64,.nl t_impl_Obj],none,none⟩] [0,3,4])
 (.seq (.reg [⟨.mov 17 (.t 0),none,none⟩,
  ⟨.load 18 (some 2) (.t 3),none,none⟩,
  ⟨.call (some 19) n_impl_discovered [(.t 17),(.t 18)],none,none⟩,
  ⟨.mov 5 (.t 19),none,none⟩] [0,3,4,5])
 (.seq (.reg [⟨.fad 20 (.t 3) 1,none,none⟩,
  ⟨.load 21 none (.t 20),none,none⟩,
  ⟨.len 22 (.t 21),none,none⟩,
  ⟨.bin 23 .add (.t 22) (.c (.int .i64 1)),none,none⟩,
  ⟨.mks 24 t_i64 8 [.v (.int .i64 0)] (.t 23),none,none⟩,
  ⟨.mov 6 (.t 24),none,none⟩] [0,3,4,5,6])
 (.seq (.seq (.reg [⟨.mov 25 (.t 5),none,none⟩,
  ⟨.len 26 (.t 25),none,none⟩,
  ⟨.mov 27 (.c (.int .i64 0)),none,none⟩] [0,3,4,5,6,25,26,27])
 (.block 0 (.loop [0,3,4,5,6,25,26,27] c_impl_plain_L0)))
 (.seq (.reg [⟨.build 39 [.nl t_i64,.nl t_impl_Obj] [],none,none⟩,
  ⟨.alloc 9 [.nl t_i64,.nl t_impl_Obj],none,none⟩,
  ⟨.store 2 (.t 9) (.t 39),none,none⟩] [0,3,4,5,6,9])
 (.seq (.seq (.reg [⟨.fad 40 (.t 3) 0,none,none⟩,
  ⟨.load 41 none (.t 40),none,none⟩,
  ⟨.len 42 (.t 41),none,none⟩,
  ⟨.mov 43 (.c (.int .i64 0)),none,none⟩] [0,3,4,5,6,9,41,42,43])
 (.block 2 (.loop [0,3,4,5,6,9,41,42,43] c_impl_plain_L1)))
 (.seq (.seq (.reg [⟨.mov 57 (.t 5),none,none⟩,
  ⟨.len 58 (.t 57),none,none⟩,
  ⟨.mov 59 (.c (.int .i64 0)),none,none⟩] [0,3,4,6,9,57,58,59])
 (.block 4 (.loop [0,3,4,6,9,57,58,59] c_impl_plain_L2)))
 (.seq (.reg [⟨.load 109 (some 2) (.t 9),none,none⟩,
  ⟨.store 2 (.t 4) (.t 109),none,none⟩] [4])
 (.ret))))))))
def f_impl_plain:Fn:=⟨[.ro 0,.ro 0],false,false,[.cell 4 (some 2)],c_impl_plain⟩
def c_spec_l7Plain_L0:VC:= .seq (.seq (.reg [⟨.mov 17 (.t 7),none,none⟩,
  ⟨.fad 18 (.t 3) 0,none,none⟩,
  ⟨.load 19 none (.t 18),none,none⟩,
  ⟨.len 20 (.t 19),none,none⟩,
  ⟨.bin 21 .lss (.t 17) (.t 20),none,none⟩] [0,3,4,5,6,7,21])
 (.cond (.t 21)
 (.skip)
 (.exit 0)))
 (.seq (.block 1 (.reg [⟨.fad 24 (.t 6) 0,none,none⟩,
  ⟨.load 25 none (.t 24),none,none⟩,
  ⟨.mov 26 (.t 5),none,none⟩,
  ⟨.fad 27 (.t 3) 0,none,none⟩,
  ⟨.load 28 none (.t 27),none,none⟩,
  ⟨.mov 29 (.t 7),none,none⟩,
  ⟨.iad 30 t_i64 1 (.t 28) (.t 29),none,none⟩,
  ⟨.load 31 none (.t 30),none,none⟩,
  ⟨.bin 32 .sub (.t 31) (.c (.int .i64 1)),none,none⟩,
  ⟨.call (some 33) n_spec_l7Place [(.t 26),(.t 32)],none,none⟩,
  ⟨.bin 34 .add (.t 33) (.c (.int .i64 1)),none,none⟩,
  ⟨.bsl 35 t_i64 1 [.v (.int .i64 0)] 1 [(0,(.t 34))],none,none⟩,
  ⟨.app 36 t_i64 8 true (.t 25) (.t 35),none,none⟩,
  ⟨.fad 37 (.t 6) 0,none,none⟩,
  ⟨.store 1 (.t 37) (.t 36),none,none⟩] [0,3,4,5,6,7]))
 (.reg [⟨.mov 22 (.t 7),none,none⟩,
  ⟨.bin 23 .add (.t 22) (.c (.int .i64 1)),none,none⟩,
  ⟨.mov 7 (.t 23),none,none⟩] [0,3,4,5,6,7]))
def c_spec_l7Plain_L2:VC:= .seq (.seq (.reg [⟨.mov 55 (.t 11),none,none⟩,
  ⟨.fad 56 (.t 9) 1,none,none⟩,
  ⟨.load 57 none (.t 56),none,none⟩,
  ⟨.len 58 (.t 57),none,none⟩,
  ⟨.bin 59 .lss (.t 55) (.t 58),none,none⟩] [0,3,4,5,6,8,9,10,11,59])
 (.cond (.t 59)
 (.skip)
 (.exit 4)))
 (.seq (.block 5 (.seq (.reg [⟨.fad 62 (.t 9) 1,none,none⟩,
  ⟨.load 63 none (.t 62),none,none⟩,
  ⟨.mov 64 (.t 11),none,none⟩,
  ⟨.iad 65 t_i64 1 (.t 63) (.t 64),none,none⟩,
  ⟨.load 66 none (.t 65),none,none⟩,
  ⟨.mov 12 (.t 66),none,none⟩] [0,3,4,5,6,8,9,10,11,12])
 (.seq (.seq (.reg [⟨.mov 67 (.t 0),none,none⟩,
  ⟨.fad 68 (.t 9) 0,none,none⟩,
  ⟨.load 69 none (.t 68),none,none⟩,
  ⟨.iad 70 t_string 1 (.t 67) (.t 69),none,none⟩,
  ⟨.load 71 none (.t 70),none,none⟩,
  ⟨.mov 72 (.t 11),none,none⟩,
  ⟨.ix 73 (.t 71) (.t 72),none,none⟩,
  ⟨.bin 74 .eql (.t 73) (.c (.int .u8 114)),none,none⟩] [0,3,4,5,6,8,9,10,11,12,74])
 (.cond (.t 74)
 (.reg [⟨.mov 75 (.t 5),none,none⟩,
  ⟨.mov 76 (.t 12),none,none⟩,
  ⟨.bin 77 .sub (.t 76) (.c (.int .i64 1)),none,none⟩,
  ⟨.call (some 78) n_spec_l7Place [(.t 75),(.t 77)],none,none⟩,
  ⟨.bin 79 .add (.t 78) (.c (.int .i64 1)),none,none⟩,
  ⟨.mov 12 (.t 79),none,none⟩] [0,3,4,5,6,8,9,10,11,12])
 (.skip)))
 (.reg [⟨.fad 80 (.t 10) 1,none,none⟩,
  ⟨.load 81 none (.t 80),none,none⟩,
  ⟨.mov 82 (.t 12),none,none⟩,
  ⟨.bsl 83 t_i64 1 [.v (.int .i64 0)] 1 [(0,(.t 82))],none,none⟩,
  ⟨.app 84 t_i64 8 true (.t 81) (.t 83),none,none⟩,
  ⟨.fad 85 (.t 10) 1,none,none⟩,
  ⟨.store 1 (.t 85) (.t 84),none,none⟩] [0,3,4,5,6,8,9,10,11]))))
 (.reg [⟨.mov 60 (.t 11),none,none⟩,
  ⟨.bin 61 .add (.t 60) (.c (.int .i64 1)),none,none⟩,
  ⟨.mov 11 (.t 61),none,none⟩] [0,3,4,5,6,8,9,10,11]))
def c_spec_l7Plain_L1:VC:= .seq (.seq (.reg [⟨.mov 38 (.t 8),none,none⟩,
  ⟨.mov 39 (.t 5),none,none⟩,
  ⟨.len 40 (.t 39),none,none⟩,
  ⟨.bin 41 .lss (.t 38) (.t 40),none,none⟩] [0,3,4,5,6,8,41])
 (.cond (.t 41)
 (.skip)
 (.exit 2)))
 (.seq (.block 3 (.seq (.reg [⟨.fad 44 (.t 3) 1,none,none⟩,
  ⟨.load 45 none (.t 44),none,none⟩,
  ⟨.mov 46 (.t 5),none,none⟩,
  ⟨.mov 47 (.t 8),none,none⟩,
  ⟨.iad 48 t_i64 1 (.t 46) (.t 47),none,none⟩,
  ⟨.load 49 none (.t 48),none,none⟩,
  ⟨.iad 50 t_impl_Obj 2 (.t 45) (.t 49),none,none⟩,
  ⟨.load 51 (some 2) (.t 50),none,none⟩,
  ⟨.alloc 9 [.v (.int .i64 0),.nl t_i64],none,none⟩,
  ⟨.store 2 (.t 9) (.t 51),none,none⟩] [0,3,4,5,6,8,9])
 (.seq (.reg [⟨.fad 52 (.t 9) 0,none,none⟩,
  ⟨.load 53 none (.t 52),none,none⟩,
  ⟨.build 54 [.v (.int .i64 0),.nl t_i64] [(0,1,(.t 53))],none,none⟩,
  ⟨.alloc 10 [.v (.int .i64 0),.nl t_i64],none,none⟩,
  ⟨.store 2 (.t 10) (.t 54),none,none⟩] [0,3,4,5,6,8,9,10])
 (.seq (.seq (.reg [⟨.mov 11 (.c (.int .i64 0)),none,none⟩] [0,3,4,5,6,8,9,10,11])
 (.block 4 (.loop [0,3,4,5,6,8,9,10,11] c_spec_l7Plain_L2)))
 (.reg [⟨.fad 86 (.t 6) 1,none,none⟩,
  ⟨.load 87 none (.t 86),none,none⟩,
  ⟨.load 88 (some 2) (.t 10),none,none⟩,
  ⟨.bsl 89 t_impl_Obj 2 [.v (.int .i64 0),.nl t_i64] 1 [(0,(.t 88))],none,none⟩,
  ⟨.app 90 t_impl_Obj 32 true (.t 87) (.t 89),none,none⟩,
  ⟨.fad 91 (.t 6) 1,none,none⟩,
  ⟨.store 1 (.t 91) (.t 90),none,none⟩] [0,3,4,5,6,8])))))
 (.reg [⟨.mov 42 (.t 8),none,none⟩,
  ⟨.bin 43 .add (.t 42) (.c (.int .i64 1)),none,none⟩,
  ⟨.mov 8 (.t 43),none,none⟩] [0,3,4,5,6,8]))
def c_spec_l7Plain:VC:= .seq (.reg [⟨.box 3 (.t 1),none,none⟩,
  ⟨.alloc 4 [.nl t_i64,.nl t_impl_Obj],none,none⟩] [0,3,4])
 (.seq (.reg [⟨.mov 13 (.t 0),none,none⟩,
  ⟨.load 14 (some 2) (.t 3),none,none⟩,
  ⟨.call (some 15) n_spec_l7Found [(.t 13),(.t 14)],none,none⟩,
  ⟨.mov 5 (.t 15),none,none⟩] [0,3,4,5])
 (.seq (.reg [⟨.build 16 [.nl t_i64,.nl t_impl_Obj] [],none,none⟩,
  ⟨.alloc 6 [.nl t_i64,.nl t_impl_Obj],none,none⟩,
  ⟨.store 2 (.t 6) (.t 16),none,none⟩] [0,3,4,5,6])
 (.seq (.seq (.reg [⟨.mov 7 (.c (.int .i64 0)),none,none⟩] [0,3,4,5,6,7])
 (.block 0 (.loop [0,3,4,5,6,7] c_spec_l7Plain_L0)))
 (.seq (.seq (.reg [⟨.mov 8 (.c (.int .i64 0)),none,none⟩] [0,3,4,5,6,8])
 (.block 2 (.loop [0,3,4,5,6,8] c_spec_l7Plain_L1)))
 (.seq (.reg [⟨.load 92 (some 2) (.t 6),none,none⟩,
  ⟨.store 2 (.t 4) (.t 92),none,none⟩] [4])
 (.ret))))))
def f_spec_l7Plain:Fn:=⟨[.ro 0,.ro 0],false,false,[.cell 4 (some 2)],c_spec_l7Plain⟩
def c_spec_l1Open:VC:= .seq (.reg [⟨.mov 2 (.c (.pointer none)),none,none⟩] [0])
 (.seq (.reg [⟨.mov 3 (.t 0),none,none⟩,
  ⟨.build 4 [.nl t_u8,.v (.int .i64 0)] [(0,1,(.t 3))],none,none⟩,
  ⟨.box 5 (.t 4),none,none⟩,
  ⟨.mov 2 (.t 5),none,none⟩] [2])
 (.ret))
def f_spec_l1Open:Fn:=⟨[.ro 0],true,false,[.t 2],c_spec_l1Open⟩
def c_spec_l1Rd_types_L0:VC:= .seq (.seq (.reg [⟨.mov 14 (.t 4),none,none⟩,
  ⟨.bin 15 .gtr (.t 14) (.c (.int .i64 0)),none,none⟩] [0,3,4,15,10000])
 (.cond (.t 15)
 (.skip)
 (.exit 0)))
 (.seq (.block 1 (.seq (.reg [⟨.mov 5 (.c (.int .i64 5)),none,none⟩] [0,3,4,5,10000])
 (.seq (.seq (.reg [⟨.mov 18 (.t 0),none,none⟩,
  ⟨.call (some 19) n_spec_l1Rd_once [(.t 18),(.c (.int .i64 4))],none,none⟩] [0,3,4,5,19,10000])
 (.cond (.t 19)
 (.reg [⟨.mov 5 (.c (.int .i64 23)),none,none⟩] [0,3,4,5,10000])
 (.skip)))
 (.reg [⟨.mov 20 (.t 3),none,none⟩,
  ⟨.mov 21 (.t 0),none,none⟩,
  ⟨.mov 22 (.t 5),none,none⟩,
  ⟨.call (some 23) n_spec_l1Rd_kinds [(.t 21),(.t 22)],none,none⟩,
  ⟨.bsl 24 t_string 1 [.v (.string ⟨#[]⟩)] 1 [(0,(.t 23))],none,none⟩,
  ⟨.app 25 t_string 16 true (.t 20) (.t 24),none,none⟩,
  ⟨.mov 3 (.t 25),none,none⟩] [0,3,4,10000]))))
 (.reg [⟨.mov 16 (.t 4),none,none⟩,
  ⟨.bin 17 .sub (.t 16) (.c (.int .i64 1)),none,none⟩,
  ⟨.mov 4 (.t 17),none,none⟩] [0,3,4,10000]))
def c_spec_l1Rd_types:VC:= .seq (.reg [⟨.mov 2 (.nl t_string),none,none⟩] [0,10000])
 (.seq (.reg [⟨.bsl 6 t_string 1 [.v (.string ⟨#[]⟩)] 4 [(0,(.c (.string ⟨#[105,114]⟩))),(1,(.c (.string ⟨#[114,114,105]⟩))),(2,(.c (.string ⟨#[114,105]⟩))),(3,(.c (.string ⟨#[105,114,114]⟩)))],none,none⟩,
  ⟨.mov 7 (.t 0),none,none⟩,
  ⟨.call (some 8) n_spec_l1Rd_below [(.t 7),(.c (.int .i64 4))],none,none⟩,
  ⟨.iad 9 t_string 1 (.t 6) (.t 8),none,none⟩,
  ⟨.load 10 none (.t 9),none,none⟩,
  ⟨.bsl 11 t_string 1 [.v (.string ⟨#[]⟩)] 1 [(0,(.t 10))],none,none⟩,
  ⟨.mov 3 (.t 11),none,none⟩] [0,3,10000])
 (.seq (.seq (.reg [⟨.mov 12 (.t 0),none,none⟩,
  ⟨.call (some 13) n_spec_l1Rd_below [(.t 12),(.c (.int .i64 3))],none,none⟩,
  ⟨.mov 4 (.t 13),none,none⟩] [0,3,4,10000])
 (.block 0 (.loop [0,3,4,10000] c_spec_l1Rd_types_L0)))
 (.seq (.reg [⟨.mov 26 (.t 3),none,none⟩,
  ⟨.mov 2 (.t 26),none,none⟩] [2,10000])
 (.ret))))
def f_spec_l1Rd_types:Fn:=⟨[.mut 2],true,false,[.t 2],c_spec_l1Rd_types⟩
def c_spec_l1Rd_graph_L0:VC:= .seq (.seq (.reg [⟨.mov 21 (.t 11),none,none⟩,
  ⟨.mov 22 (.t 2),none,none⟩,
  ⟨.bin 23 .lss (.t 21) (.t 22),none,none⟩] [0,1,2,8,9,10,11,23,10000,10001])
 (.cond (.t 23)
 (.skip)
 (.exit 0)))
 (.seq (.block 1 (.seq (.reg [⟨.mov 12 (.c (.int .i64 0)),none,none⟩] [0,1,2,8,9,10,11,12,10000,10001])
 (.seq (.seq (.reg [⟨.mov 26 (.t 0),none,none⟩,
  ⟨.call (some 27) n_spec_l1Rd_once [(.t 26),(.c (.int .i64 2))],none,none⟩] [0,1,2,8,9,10,11,12,27,10000,10001])
 (.cond (.t 27)
 (.reg [⟨.mov 28 (.t 0),none,none⟩,
  ⟨.mov 29 (.t 10),none,none⟩,
  ⟨.call (some 30) n_spec_l1Rd_below [(.t 28),(.t 29)],none,none⟩,
  ⟨.bin 31 .add (.c (.int .i64 1)) (.t 30),none,none⟩,
  ⟨.mov 12 (.t 31),none,none⟩] [0,1,2,8,9,10,11,12,10000,10001])
 (.skip)))
 (.reg [⟨.fad 32 (.t 9) 0,none,none⟩,
  ⟨.load 33 none (.t 32),none,none⟩,
  ⟨.mov 34 (.t 12),none,none⟩,
  ⟨.bsl 35 t_i64 1 [.v (.int .i64 0)] 1 [(0,(.t 34))],none,none⟩,
  ⟨.app 36 t_i64 8 true (.t 33) (.t 35),none,none⟩,
  ⟨.fad 37 (.t 9) 0,none,none⟩,
  ⟨.store 1 (.t 37) (.t 36),none,none⟩] [0,1,2,8,9,10,11,10000,10001]))))
 (.reg [⟨.mov 24 (.t 11),none,none⟩,
  ⟨.bin 25 .add (.t 24) (.c (.int .i64 1)),none,none⟩,
  ⟨.mov 11 (.t 25),none,none⟩] [0,1,2,8,9,10,11,10000,10001]))
def c_spec_l1Rd_graph_L2:VC:= .seq (.seq (.reg [⟨.mov 48 (.t 15),none,none⟩,
  ⟨.mov 49 (.t 1),none,none⟩,
  ⟨.fad 50 (.t 14) 0,none,none⟩,
  ⟨.load 51 none (.t 50),none,none⟩,
  ⟨.iad 52 t_string 1 (.t 49) (.t 51),none,none⟩,
  ⟨.load 53 none (.t 52),none,none⟩,
  ⟨.slen 54 (.t 53),none,none⟩,
  ⟨.bin 55 .lss (.t 48) (.t 54),none,none⟩] [0,1,8,9,10,13,14,15,55,10000,10001])
 (.cond (.t 55)
 (.skip)
 (.exit 4)))
 (.seq (.block 5 (.seq (.reg [⟨.mov 58 (.t 0),none,none⟩,
  ⟨.call (some 59) n_spec_l1Rd_below [(.t 58),(.c (.int .i64 100))],none,none⟩,
  ⟨.bin 60 .sub (.t 59) (.c (.int .i64 20)),none,none⟩,
  ⟨.mov 16 (.t 60),none,none⟩] [0,1,8,9,10,13,14,15,16,10000,10001])
 (.seq (.seq (.reg [⟨.mov 61 (.t 1),none,none⟩,
  ⟨.fad 62 (.t 14) 0,none,none⟩,
  ⟨.load 63 none (.t 62),none,none⟩,
  ⟨.iad 64 t_string 1 (.t 61) (.t 63),none,none⟩,
  ⟨.load 65 none (.t 64),none,none⟩,
  ⟨.mov 66 (.t 15),none,none⟩,
  ⟨.ix 67 (.t 65) (.t 66),none,none⟩,
  ⟨.bin 68 .eql (.t 67) (.c (.int .u8 114)),none,none⟩] [0,1,8,9,10,13,14,15,16,68,10000,10001])
 (.cond (.t 68)
 (.reg [⟨.mov 69 (.t 0),none,none⟩,
  ⟨.mov 70 (.t 10),none,none⟩,
  ⟨.bin 71 .add (.t 70) (.c (.int .i64 3)),none,none⟩,
  ⟨.call (some 72) n_spec_l1Rd_below [(.t 69),(.t 71)],none,none⟩,
  ⟨.bin 73 .sub (.t 72) (.c (.int .i64 2)),none,none⟩,
  ⟨.mmx 74 true [(.t 73),(.c (.int .i64 0))],none,none⟩,
  ⟨.mov 16 (.t 74),none,none⟩] [0,1,8,9,10,13,14,15,16,10000,10001])
 (.skip)))
 (.reg [⟨.fad 75 (.t 14) 1,none,none⟩,
  ⟨.load 76 none (.t 75),none,none⟩,
  ⟨.mov 77 (.t 16),none,none⟩,
  ⟨.bsl 78 t_i64 1 [.v (.int .i64 0)] 1 [(0,(.t 77))],none,none⟩,
  ⟨.app 79 t_i64 8 true (.t 76) (.t 78),none,none⟩,
  ⟨.fad 80 (.t 14) 1,none,none⟩,
  ⟨.store 1 (.t 80) (.t 79),none,none⟩] [0,1,8,9,10,13,14,15,10000,10001]))))
 (.reg [⟨.mov 56 (.t 15),none,none⟩,
  ⟨.bin 57 .add (.t 56) (.c (.int .i64 1)),none,none⟩,
  ⟨.mov 15 (.t 57),none,none⟩] [0,1,8,9,10,13,14,15,10000,10001]))
def c_spec_l1Rd_graph_L1:VC:= .seq (.seq (.reg [⟨.mov 38 (.t 13),none,none⟩,
  ⟨.mov 39 (.t 10),none,none⟩,
  ⟨.bin 40 .lss (.t 38) (.t 39),none,none⟩] [0,1,8,9,10,13,40,10000,10001])
 (.cond (.t 40)
 (.skip)
 (.exit 2)))
 (.seq (.block 3 (.seq (.reg [⟨.mov 43 (.t 0),none,none⟩,
  ⟨.mov 44 (.t 1),none,none⟩,
  ⟨.len 45 (.t 44),none,none⟩,
  ⟨.call (some 46) n_spec_l1Rd_below [(.t 43),(.t 45)],none,none⟩,
  ⟨.build 47 [.v (.int .i64 0),.nl t_i64] [(0,1,(.t 46))],none,none⟩,
  ⟨.alloc 14 [.v (.int .i64 0),.nl t_i64],none,none⟩,
  ⟨.store 2 (.t 14) (.t 47),none,none⟩] [0,1,8,9,10,13,14,10000,10001])
 (.seq (.seq (.reg [⟨.mov 15 (.c (.int .i64 0)),none,none⟩] [0,1,8,9,10,13,14,15,10000,10001])
 (.block 4 (.loop [0,1,8,9,10,13,14,15,10000,10001] c_spec_l1Rd_graph_L2)))
 (.reg [⟨.fad 81 (.t 9) 1,none,none⟩,
  ⟨.load 82 none (.t 81),none,none⟩,
  ⟨.load 83 (some 2) (.t 14),none,none⟩,
  ⟨.bsl 84 t_impl_Obj 2 [.v (.int .i64 0),.nl t_i64] 1 [(0,(.t 83))],none,none⟩,
  ⟨.app 85 t_impl_Obj 32 true (.t 82) (.t 84),none,none⟩,
  ⟨.fad 86 (.t 9) 1,none,none⟩,
  ⟨.store 1 (.t 86) (.t 85),none,none⟩] [0,1,8,9,10,13,10000,10001]))))
 (.reg [⟨.mov 41 (.t 13),none,none⟩,
  ⟨.bin 42 .add (.t 41) (.c (.int .i64 1)),none,none⟩,
  ⟨.mov 13 (.t 42),none,none⟩] [0,1,8,9,10,13,10000,10001]))
def c_spec_l1Rd_graph:VC:= .seq (.reg [⟨.alloc 8 [.nl t_i64,.nl t_impl_Obj],none,none⟩] [0,1,2,3,8,10000,10001])
 (.seq (.reg [⟨.build 17 [.nl t_i64,.nl t_impl_Obj] [],none,none⟩,
  ⟨.alloc 9 [.nl t_i64,.nl t_impl_Obj],none,none⟩,
  ⟨.store 2 (.t 9) (.t 17),none,none⟩] [0,1,2,3,8,9,10000,10001])
 (.seq (.reg [⟨.mov 18 (.t 0),none,none⟩,
  ⟨.mov 19 (.t 3),none,none⟩,
  ⟨.call (some 20) n_spec_l1Rd_size [(.t 18),(.c (.int .i64 4)),(.t 19)],none,none⟩,
  ⟨.mov 10 (.t 20),none,none⟩] [0,1,2,8,9,10,10000,10001])
 (.seq (.seq (.reg [⟨.mov 11 (.c (.int .i64 0)),none,none⟩] [0,1,2,8,9,10,11,10000,10001])
 (.block 0 (.loop [0,1,2,8,9,10,11,10000,10001] c_spec_l1Rd_graph_L0)))
 (.seq (.seq (.reg [⟨.mov 13 (.c (.int .i64 0)),none,none⟩] [0,1,8,9,10,13,10000,10001])
 (.block 2 (.loop [0,1,8,9,10,13,10000,10001] c_spec_l1Rd_graph_L1)))
 (.seq (.reg [⟨.load 87 (some 2) (.t 9),none,none⟩,
  ⟨.store 2 (.t 8) (.t 87),none,none⟩] [8,10000,10001])
 (.ret))))))
def f_spec_l1Rd_graph:Fn:=⟨[.mut 2,.mut 0,.ro 0,.ro 0],true,false,[.cell 8 (some 2)],c_spec_l1Rd_graph⟩
def c_spec_l1Rd_below:VC:= .seq (.reg [⟨.mov 4 (.c (.int .i64 0)),none,none⟩] [0,1,10000])
 (.seq (.seq (.reg [⟨.mov 6 (.t 1),none,none⟩,
  ⟨.bin 7 .leq (.t 6) (.c (.int .i64 1)),none,none⟩] [0,1,7,10000])
 (.cond (.t 7)
 (.seq (.reg [⟨.mov 4 (.c (.int .i64 0)),none,none⟩] [4,10000])
 (.ret))
 (.skip)))
 (.seq (.seq (.reg [⟨.mov 8 (.t 1),none,none⟩,
  ⟨.bin 9 .leq (.t 8) (.c (.int .i64 256)),none,none⟩] [0,1,9,10000])
 (.cond (.t 9)
 (.seq (.reg [⟨.mov 10 (.t 0),none,none⟩,
  ⟨.call (some 11) n_spec_l1Rd_next [(.t 10)],none,none⟩,
  ⟨.mov 12 (.t 1),none,none⟩,
  ⟨.bin 13 .rem (.t 11) (.t 12),none,none⟩,
  ⟨.mov 4 (.t 13),none,none⟩] [4,10000])
 (.ret))
 (.skip)))
 (.seq (.reg [⟨.mov 14 (.t 0),none,none⟩,
  ⟨.call (some 15) n_spec_l1Rd_next [(.t 14)],none,none⟩,
  ⟨.bin 16 .mul (.t 15) (.c (.int .i64 256)),none,none⟩,
  ⟨.mov 5 (.t 16),none,none⟩] [0,1,5,10000])
 (.seq (.reg [⟨.mov 17 (.t 5),none,none⟩,
  ⟨.mov 18 (.t 0),none,none⟩,
  ⟨.call (some 19) n_spec_l1Rd_next [(.t 18)],none,none⟩,
  ⟨.bin 20 .add (.t 17) (.t 19),none,none⟩,
  ⟨.mov 5 (.t 20),none,none⟩] [1,5,10000])
 (.seq (.reg [⟨.mov 21 (.t 5),none,none⟩,
  ⟨.mov 22 (.t 1),none,none⟩,
  ⟨.bin 23 .rem (.t 21) (.t 22),none,none⟩,
  ⟨.mov 4 (.t 23),none,none⟩] [4,10000])
 (.ret))))))
def f_spec_l1Rd_below:Fn:=⟨[.mut 2,.ro 0],true,true,[.t 4],c_spec_l1Rd_below⟩
def c_spec_l7Turn:VC:= .seq (.reg [⟨.mov 6 (.c (.int .i64 0)),none,none⟩] [0,1,2])
 (.seq (.seq (.reg [⟨.mov 7 (.t 0),none,none⟩,
  ⟨.bin 8 .eql (.t 7) (.c (.int .i64 0)),none,none⟩] [0,1,2,8])
 (.cond (.t 8)
 (.seq (.reg [⟨.mov 6 (.c (.int .i64 0)),none,none⟩] [6])
 (.ret))
 (.skip)))
 (.seq (.reg [⟨.mov 9 (.t 0),none,none⟩,
  ⟨.bin 10 .sub (.t 9) (.c (.int .i64 1)),none,none⟩,
  ⟨.mov 11 (.t 2),none,none⟩,
  ⟨.bin 12 .add (.t 10) (.t 11),none,none⟩,
  ⟨.mov 13 (.t 1),none,none⟩,
  ⟨.bin 14 .sub (.t 12) (.t 13),none,none⟩,
  ⟨.mov 15 (.t 2),none,none⟩,
  ⟨.bin 16 .rem (.t 14) (.t 15),none,none⟩,
  ⟨.bin 17 .add (.t 16) (.c (.int .i64 1)),none,none⟩,
  ⟨.mov 6 (.t 17),none,none⟩] [6])
 (.ret)))
def f_spec_l7Turn:Fn:=⟨[.ro 0,.ro 0,.ro 0],false,true,[.t 6],c_spec_l7Turn⟩
def c_spec_l1Rd_once:VC:= .seq (.reg [⟨.mov 4 (.c (.bool false)),none,none⟩] [0,1,10000])
 (.seq (.reg [⟨.mov 5 (.t 0),none,none⟩,
  ⟨.mov 6 (.t 1),none,none⟩,
  ⟨.call (some 7) n_spec_l1Rd_below [(.t 5),(.t 6)],none,none⟩,
  ⟨.mov 8 (.t 1),none,none⟩,
  ⟨.bin 9 .sub (.t 8) (.c (.int .i64 1)),none,none⟩,
  ⟨.bin 10 .eql (.t 7) (.t 9),none,none⟩,
  ⟨.mov 4 (.t 10),none,none⟩] [4,10000])
 (.ret))
def f_spec_l1Rd_once:Fn:=⟨[.mut 2,.ro 0],true,true,[.t 4],c_spec_l1Rd_once⟩
def c_spec_l1Rd_hurtGraph_L0:VC:= .seq (.seq (.reg [⟨.mov 77 (.t 6),none,none⟩,
  ⟨.bin 78 .lss (.t 77) (.c (.int .i64 42)),none,none⟩,
  ⟨.mov 79 (.t 78),none,none⟩,
  ⟨.fad 80 (.t 3) 0,some (79,true),(some 80)⟩,
  ⟨.load 81 none (.t 80),some (79,true),(some 81)⟩,
  ⟨.len 82 (.t 81),some (79,true),(some 82)⟩,
  ⟨.mov 83 (.t 5),some (79,true),(some 83)⟩,
  ⟨.bin 84 .rem (.t 83) (.c (.int .i64 3)),some (79,true),(some 84)⟩,
  ⟨.bin 85 .add (.c (.int .i64 39)) (.t 84),some (79,true),(some 85)⟩,
  ⟨.bin 86 .lss (.t 82) (.t 85),some (79,true),(some 86)⟩,
  ⟨.pick 87 (.t 79) (.t 86) (.c (.bool false)),none,none⟩] [3,4,5,6,87,10000,10001])
 (.cond (.t 87)
 (.skip)
 (.exit 1)))
 (.seq (.block 2 (.reg [⟨.fad 90 (.t 3) 0,none,none⟩,
  ⟨.load 91 none (.t 90),none,none⟩,
  ⟨.bsl 92 t_i64 1 [.v (.int .i64 0)] 1 [(0,(.c (.int .i64 1)))],none,none⟩,
  ⟨.app 93 t_i64 8 true (.t 91) (.t 92),none,none⟩,
  ⟨.fad 94 (.t 3) 0,none,none⟩,
  ⟨.store 1 (.t 94) (.t 93),none,none⟩] [3,4,5,6,10000,10001]))
 (.reg [⟨.mov 88 (.t 6),none,none⟩,
  ⟨.bin 89 .add (.t 88) (.c (.int .i64 1)),none,none⟩,
  ⟨.mov 6 (.t 89),none,none⟩] [3,4,5,6,10000,10001]))
def c_spec_l1Rd_hurtGraph:VC:= .seq (.reg [⟨.box 3 (.t 1),none,none⟩,
  ⟨.alloc 4 [.nl t_i64,.nl t_impl_Obj],none,none⟩] [0,3,4,10000,10001])
 (.seq (.reg [⟨.mov 7 (.t 0),none,none⟩,
  ⟨.fad 8 (.t 3) 1,none,none⟩,
  ⟨.load 9 none (.t 8),none,none⟩,
  ⟨.len 10 (.t 9),none,none⟩,
  ⟨.call (some 11) n_spec_l1Rd_below [(.t 7),(.t 10)],none,none⟩,
  ⟨.mov 5 (.t 11),none,none⟩] [0,3,4,5,10000,10001])
 (.seq (.seq (.reg [⟨.mov 12 (.t 0),none,none⟩,
  ⟨.call (some 13) n_spec_l1Rd_below [(.t 12),(.c (.int .i64 24))],none,none⟩] [0,3,4,5,13,10000,10001])
 (.block 0 (.seq (.reg [⟨.bin 15 .eql (.t 13) (.c (.int .i64 0)),none,none⟩,
  ⟨.mov 14 (.t 15),none,none⟩] [0,3,4,5,13,14,10000,10001])
 (.cond (.t 14)
 (.regD [⟨.fad 16 (.t 3) 0,none,none⟩,
  ⟨.load 17 none (.t 16),none,none⟩,
  ⟨.mov 18 (.t 0),none,none⟩,
  ⟨.fad 19 (.t 3) 1,none,none⟩,
  ⟨.load 20 none (.t 19),none,none⟩,
  ⟨.len 21 (.t 20),none,none⟩,
  ⟨.call (some 22) n_spec_l1Rd_off [(.t 18),(.c (.int .i64 0)),(.t 21)],none,none⟩,
  ⟨.bsl 23 t_i64 1 [.v (.int .i64 0)] 1 [(0,(.t 22))],none,none⟩,
  ⟨.app 24 t_i64 8 true (.t 17) (.t 23),none,none⟩,
  ⟨.fad 25 (.t 3) 0,none,none⟩,
  ⟨.store 1 (.t 25) (.t 24),none,none⟩] [3,4,10000,10001] [(0,6),(1,6)])
 (.seq (.reg [⟨.bin 27 .eql (.t 13) (.c (.int .i64 1)),none,none⟩,
  ⟨.mov 26 (.t 27),none,none⟩] [0,3,4,5,13,26,10000,10001])
 (.cond (.t 26)
 (.regD [⟨.fad 28 (.t 3) 1,none,none⟩,
  ⟨.load 29 none (.t 28),none,none⟩,
  ⟨.mov 30 (.t 5),none,none⟩,
  ⟨.mov 31 (.t 0),none,none⟩,
  ⟨.call (some 32) n_spec_l1Rd_off [(.t 31),(.c (.int .i64 0)),(.c (.int .i64 2))],none,none⟩,
  ⟨.iad 33 t_impl_Obj 2 (.t 29) (.t 30),none,none⟩,
  ⟨.fad 34 (.t 33) 0,none,none⟩,
  ⟨.store 1 (.t 34) (.t 32),none,none⟩] [3,4,10000,10001] [(0,4),(1,4)])
 (.seq (.reg [⟨.bin 36 .eql (.t 13) (.c (.int .i64 2)),none,none⟩,
  ⟨.mov 35 (.t 36),none,none⟩] [0,3,4,5,13,35,10000,10001])
 (.cond (.t 35)
 (.regD [⟨.fad 37 (.t 3) 1,none,none⟩,
  ⟨.load 38 none (.t 37),none,none⟩,
  ⟨.mov 39 (.t 5),none,none⟩,
  ⟨.fad 40 (.t 3) 1,none,none⟩,
  ⟨.load 41 none (.t 40),none,none⟩,
  ⟨.mov 42 (.t 5),none,none⟩,
  ⟨.iad 43 t_impl_Obj 2 (.t 41) (.t 42),none,none⟩,
  ⟨.fad 44 (.t 43) 1,none,none⟩,
  ⟨.load 45 none (.t 44),none,none⟩,
  ⟨.bsl 46 t_i64 1 [.v (.int .i64 0)] 1 [(0,(.c (.int .i64 1)))],none,none⟩,
  ⟨.app 47 t_i64 8 true (.t 45) (.t 46),none,none⟩,
  ⟨.iad 48 t_impl_Obj 2 (.t 38) (.t 39),none,none⟩,
  ⟨.fad 49 (.t 48) 1,none,none⟩,
  ⟨.store 1 (.t 49) (.t 47),none,none⟩] [3,4,10000,10001] [(0,10),(1,10)])
 (.seq (.reg [⟨.bin 51 .eql (.t 13) (.c (.int .i64 3)),none,none⟩,
  ⟨.mov 50 (.t 51),none,none⟩] [0,3,4,5,13,50,10000,10001])
 (.cond (.t 50)
 (.regD [⟨.fad 52 (.t 3) 1,none,none⟩,
  ⟨.load 53 none (.t 52),none,none⟩,
  ⟨.mov 54 (.t 5),none,none⟩,
  ⟨.iad 55 t_impl_Obj 2 (.t 53) (.t 54),none,none⟩,
  ⟨.fad 56 (.t 55) 1,none,none⟩,
  ⟨.load 57 none (.t 56),none,none⟩,
  ⟨.mov 58 (.t 0),none,none⟩,
  ⟨.fad 59 (.t 3) 1,none,none⟩,
  ⟨.load 60 none (.t 59),none,none⟩,
  ⟨.len 61 (.t 60),none,none⟩,
  ⟨.call (some 62) n_spec_l1Rd_off [(.t 58),(.c (.int .i64 0)),(.t 61)],none,none⟩,
  ⟨.iad 63 t_i64 1 (.t 57) (.c (.int .i64 0)),none,none⟩,
  ⟨.store 1 (.t 63) (.t 62),none,none⟩] [3,4,10000,10001] [(0,10),(1,10),(3,10),(4,10),(5,10)])
 (.seq (.reg [⟨.bin 65 .eql (.t 13) (.c (.int .i64 4)),none,none⟩,
  ⟨.mov 64 (.t 65),none,none⟩] [0,3,4,5,13,64,10000,10001])
 (.cond (.t 64)
 (.regD [⟨.fad 66 (.t 3) 1,none,none⟩,
  ⟨.load 67 none (.t 66),none,none⟩,
  ⟨.mov 68 (.t 5),none,none⟩,
  ⟨.iad 69 t_impl_Obj 2 (.t 67) (.t 68),none,none⟩,
  ⟨.fad 70 (.t 69) 1,none,none⟩,
  ⟨.load 71 none (.t 70),none,none⟩,
  ⟨.mov 72 (.t 0),none,none⟩,
  ⟨.call (some 73) n_spec_l1Rd_off [(.t 72),(.c (.int .i64 (-999999999999999))),(.c (.int .i64 999999999999999))],none,none⟩,
  ⟨.iad 74 t_i64 1 (.t 71) (.c (.int .i64 0)),none,none⟩,
  ⟨.store 1 (.t 74) (.t 73),none,none⟩] [3,4,10000,10001] [(0,7),(1,7),(3,7),(4,7),(5,7)])
 (.seq (.reg [⟨.bin 76 .eql (.t 13) (.c (.int .i64 5)),none,none⟩,
  ⟨.mov 75 (.t 76),none,none⟩] [3,4,5,75,10000,10001])
 (.cond (.t 75)
 (.seq (.reg [⟨.mov 6 (.c (.int .i64 0)),none,none⟩] [3,4,5,6,10000,10001])
 (.block 1 (.loop [3,4,5,6,10000,10001] c_spec_l1Rd_hurtGraph_L0)))
 (.skip)))))))))))))))
 (.seq (.reg [⟨.load 95 (some 2) (.t 3),none,none⟩,
  ⟨.store 2 (.t 4) (.t 95),none,none⟩] [4,10000,10001])
 (.ret))))
def f_spec_l1Rd_hurtGraph:Fn:=⟨[.mut 2,.mut 0],true,false,[.cell 4 (some 2)],c_spec_l1Rd_hurtGraph⟩
def c_spec_l7Same_L0:VC:= .seq (.seq (.reg [⟨.mov 21 (.t 5),none,none⟩,
  ⟨.fad 22 (.t 2) 1,none,none⟩,
  ⟨.load 23 none (.t 22),none,none⟩,
  ⟨.len 24 (.t 23),none,none⟩,
  ⟨.bin 25 .lss (.t 21) (.t 24),none,none⟩] [2,3,5,25])
 (.cond (.t 25)
 (.skip)
 (.exit 0)))
 (.seq (.block 1 (.seq (.reg [⟨.fad 28 (.t 2) 1,none,none⟩,
  ⟨.load 29 none (.t 28),none,none⟩,
  ⟨.mov 30 (.t 5),none,none⟩,
  ⟨.iad 31 t_impl_Obj 2 (.t 29) (.t 30),none,none⟩,
  ⟨.fad 32 (.t 31) 0,none,none⟩,
  ⟨.load 33 none (.t 32),none,none⟩,
  ⟨.fad 34 (.t 3) 1,none,none⟩,
  ⟨.load 35 none (.t 34),none,none⟩,
  ⟨.mov 36 (.t 5),none,none⟩,
  ⟨.iad 37 t_impl_Obj 2 (.t 35) (.t 36),none,none⟩,
  ⟨.fad 38 (.t 37) 0,none,none⟩,
  ⟨.load 39 none (.t 38),none,none⟩,
  ⟨.bin 40 .neq (.t 33) (.t 39),none,none⟩,
  ⟨.mov 41 (.t 40),none,none⟩,
  ⟨.fad 42 (.t 2) 1,some (41,false),(some 42)⟩,
  ⟨.load 43 none (.t 42),some (41,false),(some 43)⟩,
  ⟨.mov 44 (.t 5),some (41,false),(some 44)⟩,
  ⟨.iad 45 t_impl_Obj 2 (.t 43) (.t 44),some (41,false),(some 45)⟩,
  ⟨.fad 46 (.t 45) 1,some (41,false),(some 46)⟩,
  ⟨.load 47 none (.t 46),some (41,false),(some 47)⟩,
  ⟨.fad 48 (.t 3) 1,some (41,false),(some 48)⟩,
  ⟨.load 49 none (.t 48),some (41,false),(some 49)⟩,
  ⟨.mov 50 (.t 5),some (41,false),(some 50)⟩,
  ⟨.iad 51 t_impl_Obj 2 (.t 49) (.t 50),some (41,false),(some 51)⟩,
  ⟨.fad 52 (.t 51) 1,some (41,false),(some 52)⟩,
  ⟨.load 53 none (.t 52),some (41,false),(some 53)⟩,
  ⟨.call (some 54) n_spec_l7Ints [(.t 47),(.t 53)],some (41,false),(some 54)⟩,
  ⟨.un 55 .not (.t 54),some (41,false),(some 55)⟩,
  ⟨.pick 56 (.t 41) (.c (.bool true)) (.t 55),none,none⟩] [2,3,5,56])
 (.cond (.t 56)
 (.seq (.reg [⟨.mov 4 (.c (.bool false)),none,none⟩] [4])
 (.ret))
 (.skip))))
 (.reg [⟨.mov 26 (.t 5),none,none⟩,
  ⟨.bin 27 .add (.t 26) (.c (.int .i64 1)),none,none⟩,
  ⟨.mov 5 (.t 27),none,none⟩] [2,3,5]))
def c_spec_l7Same:VC:= .seq (.reg [⟨.box 2 (.t 0),none,none⟩,
  ⟨.box 3 (.t 1),none,none⟩,
  ⟨.mov 4 (.c (.bool false)),none,none⟩] [2,3])
 (.seq (.seq (.reg [⟨.fad 6 (.t 2) 0,none,none⟩,
  ⟨.load 7 none (.t 6),none,none⟩,
  ⟨.fad 8 (.t 3) 0,none,none⟩,
  ⟨.load 9 none (.t 8),none,none⟩,
  ⟨.call (some 10) n_spec_l7Ints [(.t 7),(.t 9)],none,none⟩,
  ⟨.un 11 .not (.t 10),none,none⟩,
  ⟨.mov 12 (.t 11),none,none⟩,
  ⟨.fad 13 (.t 2) 1,some (12,false),(some 13)⟩,
  ⟨.load 14 none (.t 13),some (12,false),(some 14)⟩,
  ⟨.len 15 (.t 14),some (12,false),(some 15)⟩,
  ⟨.fad 16 (.t 3) 1,some (12,false),(some 16)⟩,
  ⟨.load 17 none (.t 16),some (12,false),(some 17)⟩,
  ⟨.len 18 (.t 17),some (12,false),(some 18)⟩,
  ⟨.bin 19 .neq (.t 15) (.t 18),some (12,false),(some 19)⟩,
  ⟨.pick 20 (.t 12) (.c (.bool true)) (.t 19),none,none⟩] [2,3,20])
 (.cond (.t 20)
 (.seq (.reg [⟨.mov 4 (.c (.bool false)),none,none⟩] [4])
 (.ret))
 (.skip)))
 (.seq (.seq (.reg [⟨.mov 5 (.c (.int .i64 0)),none,none⟩] [2,3,5])
 (.block 0 (.loop [2,3,5] c_spec_l7Same_L0)))
 (.seq (.reg [⟨.mov 4 (.c (.bool true)),none,none⟩] [4])
 (.ret))))
def f_spec_l7Same:Fn:=⟨[.ro 0,.ro 0],false,true,[.t 4],c_spec_l7Same⟩
def c_impl_sameGraph:VC:= .seq (.reg [⟨.box 2 (.t 0),none,none⟩,
  ⟨.box 3 (.t 1),none,none⟩,
  ⟨.mov 4 (.c (.bool false)),none,none⟩] [2,3])
 (.seq (.reg [⟨.fad 5 (.t 2) 0,none,none⟩,
  ⟨.load 6 none (.t 5),none,none⟩,
  ⟨.fad 7 (.t 3) 0,none,none⟩,
  ⟨.load 8 none (.t 7),none,none⟩,
  ⟨.call (some 9) n_slices_Equal_int64_int64 [(.t 6),(.t 8)],none,none⟩,
  ⟨.mov 10 (.t 9),none,none⟩,
  ⟨.fad 11 (.t 2) 1,some (10,true),(some 11)⟩,
  ⟨.load 12 none (.t 11),some (10,true),(some 12)⟩,
  ⟨.fad 13 (.t 3) 1,some (10,true),(some 13)⟩,
  ⟨.load 14 none (.t 13),some (10,true),(some 14)⟩,
  ⟨.call (some 15) n_slices_EqualFunc_impl_Obj_impl_Obj_impl_Obj_impl_Obj [(.t 12),(.t 14),(.f n_impl_sameObj)],some (10,true),(some 15)⟩,
  ⟨.pick 16 (.t 10) (.t 15) (.c (.bool false)),none,none⟩,
  ⟨.mov 4 (.t 16),none,none⟩] [4])
 (.ret))
def f_impl_sameGraph:Fn:=⟨[.ro 0,.ro 0],false,true,[.t 4],c_impl_sameGraph⟩
def c_impl_TypesOk:VC:= .seq (.reg [⟨.mov 2 (.c (.bool false)),none,none⟩] [0])
 (.seq (.reg [⟨.mov 3 (.t 0),none,none⟩,
  ⟨.call (some 4) n_impl_size_string [(.t 3)],none,none⟩,
  ⟨.call (some 5) n_impl_within [(.t 4),(.c (.int .i64 1)),(.c (.int .i64 12))],none,none⟩,
  ⟨.mov 6 (.t 5),none,none⟩,
  ⟨.mov 7 (.t 0),some (6,true),(some 7)⟩,
  ⟨.call (some 8) n_slices_ContainsFunc_string_string [(.t 7),(.f n_impl_TypesOk_1)],some (6,true),(some 8)⟩,
  ⟨.un 9 .not (.t 8),some (6,true),(some 9)⟩,
  ⟨.pick 10 (.t 6) (.t 9) (.c (.bool false)),none,none⟩,
  ⟨.mov 2 (.t 10),none,none⟩] [2])
 (.ret))
def f_impl_TypesOk:Fn:=⟨[.ro 0],false,true,[.t 2],c_impl_TypesOk⟩
def c_impl_GraphOk_1:VC:= .seq (.reg [⟨.mov 3 (.c (.bool false)),none,none⟩] [0,1])
 (.seq (.reg [⟨.load 4 (some 2) (.t 1),none,none⟩,
  ⟨.mov 5 (.t 0),none,none⟩,
  ⟨.call (some 6) n_impl_Graph_isNode [(.t 4),(.t 5)],none,none⟩,
  ⟨.un 7 .not (.t 6),none,none⟩,
  ⟨.mov 3 (.t 7),none,none⟩] [3])
 (.ret))
def f_impl_GraphOk_1:Fn:=⟨[.ro 0,.ro 0],false,true,[.t 3],c_impl_GraphOk_1⟩
def c_impl_Graph_isNode:VC:= .seq (.reg [⟨.box 2 (.t 0),none,none⟩,
  ⟨.mov 4 (.c (.bool false)),none,none⟩] [1,2])
 (.seq (.reg [⟨.mov 5 (.t 1),none,none⟩,
  ⟨.fad 6 (.t 2) 1,none,none⟩,
  ⟨.load 7 none (.t 6),none,none⟩,
  ⟨.call (some 8) n_impl_size_impl_Obj [(.t 7)],none,none⟩,
  ⟨.call (some 9) n_impl_within [(.t 5),(.c (.int .i64 0)),(.t 8)],none,none⟩,
  ⟨.mov 4 (.t 9),none,none⟩] [4])
 (.ret))
def f_impl_Graph_isNode:Fn:=⟨[.ro 0,.ro 0],false,true,[.t 4],c_impl_Graph_isNode⟩
def c_slices_ContainsFunc_int64_int64:VC:= .seq (.reg [⟨.mov 4 (.c (.bool false)),none,none⟩] [0,1])
 (.seq (.reg [⟨.mov 5 (.t 0),none,none⟩,
  ⟨.mov 6 (.t 1),none,none⟩,
  ⟨.call (some 7) n_slices_IndexFunc_int64_int64 [(.t 5),(.t 6)],none,none⟩,
  ⟨.bin 8 .geq (.t 7) (.c (.int .i64 0)),none,none⟩,
  ⟨.mov 4 (.t 8),none,none⟩] [4])
 (.ret))
def f_slices_ContainsFunc_int64_int64:Fn:=⟨[.ro 0,.ro 0],false,true,[.t 4],c_slices_ContainsFunc_int64_int64⟩
def c_slices_ContainsFunc_impl_Obj_impl_Obj:VC:= .seq (.reg [⟨.mov 4 (.c (.bool false)),none,none⟩] [0,1])
 (.seq (.reg [⟨.mov 5 (.t 0),none,none⟩,
  ⟨.mov 6 (.t 1),none,none⟩,
  ⟨.call (some 7) n_slices_IndexFunc_impl_Obj_impl_Obj [(.t 5),(.t 6)],none,none⟩,
  ⟨.bin 8 .geq (.t 7) (.c (.int .i64 0)),none,none⟩,
  ⟨.mov 4 (.t 8),none,none⟩] [4])
 (.ret))
def f_slices_ContainsFunc_impl_Obj_impl_Obj:Fn:=⟨[.ro 0,.ro 0],false,true,[.t 4],c_slices_ContainsFunc_impl_Obj_impl_Obj⟩
def c_impl_GraphOk_2:VC:= .seq (.reg [⟨.box 3 (.t 0),none,none⟩,
  ⟨.mov 4 (.c (.bool false)),none,none⟩] [1,2,3])
 (.seq (.reg [⟨.load 5 none (.t 1),none,none⟩,
  ⟨.load 6 (some 2) (.t 3),none,none⟩,
  ⟨.load 7 (some 2) (.t 2),none,none⟩,
  ⟨.mkf 8 n_impl_Graph_isNode [(.t 7)] [],none,none⟩,
  ⟨.call (some 9) n_impl_isObject [(.t 5),(.t 6),(.t 8)],none,none⟩,
  ⟨.un 10 .not (.t 9),none,none⟩,
  ⟨.mov 4 (.t 10),none,none⟩] [4])
 (.ret))
def f_impl_GraphOk_2:Fn:=⟨[.ro 0,.ro 0,.ro 0],false,true,[.t 4],c_impl_GraphOk_2⟩
def c_impl_isObject_L0:VC:= .seq (.reg [⟨.bin 32 .lss (.t 31) (.t 30),none,none⟩] [0,2,4,29,30,31,32])
 (.seq (.cond (.t 32)
 (.skip)
 (.exit 0))
 (.seq (.block 1 (.seq (.reg [⟨.mov 33 (.t 31),none,none⟩,
  ⟨.iad 34 t_i64 1 (.t 29) (.t 31),none,none⟩,
  ⟨.load 35 none (.t 34),none,none⟩,
  ⟨.mov 7 (.t 33),none,none⟩,
  ⟨.mov 8 (.t 35),none,none⟩] [0,2,4,7,8,29,30,31])
 (.seq (.reg [⟨.mov 36 (.t 0),none,none⟩,
  ⟨.fad 37 (.t 4) 0,none,none⟩,
  ⟨.load 38 none (.t 37),none,none⟩,
  ⟨.iad 39 t_string 1 (.t 36) (.t 38),none,none⟩,
  ⟨.load 40 none (.t 39),none,none⟩,
  ⟨.mov 41 (.t 7),none,none⟩,
  ⟨.ix 42 (.t 40) (.t 41),none,none⟩,
  ⟨.bin 43 .eql (.t 42) (.c (.int .u8 114)),none,none⟩,
  ⟨.mov 44 (.t 43),none,none⟩,
  ⟨.mov 45 (.t 2),some (44,true),(some 45)⟩,
  ⟨.mov 46 (.t 8),some (44,true),(some 46)⟩,
  ⟨.calv (some 47) (.t 45) [(.t 46)],some (44,true),(some 47)⟩,
  ⟨.un 48 .not (.t 47),some (44,true),(some 48)⟩,
  ⟨.pick 49 (.t 44) (.t 48) (.c (.bool false)),none,none⟩] [0,2,4,29,30,31,49])
 (.cond (.t 49)
 (.seq (.reg [⟨.mov 6 (.c (.bool false)),none,none⟩] [6])
 (.ret))
 (.skip)))))
 (.reg [⟨.bin 50 .add (.t 31) (.c (.int .i64 1)),none,none⟩,
  ⟨.mov 31 (.t 50),none,none⟩] [0,2,4,29,30,31])))
def c_impl_isObject:VC:= .seq (.reg [⟨.box 4 (.t 1),none,none⟩,
  ⟨.mov 6 (.c (.bool false)),none,none⟩] [0,2,4])
 (.seq (.seq (.reg [⟨.fad 9 (.t 4) 0,none,none⟩,
  ⟨.load 10 none (.t 9),none,none⟩,
  ⟨.mov 11 (.t 0),none,none⟩,
  ⟨.call (some 12) n_impl_size_string [(.t 11)],none,none⟩,
  ⟨.bin 13 .sub (.t 12) (.c (.int .i64 1)),none,none⟩,
  ⟨.call (some 14) n_impl_within [(.t 10),(.c (.int .i64 0)),(.t 13)],none,none⟩,
  ⟨.un 15 .not (.t 14),none,none⟩,
  ⟨.mov 16 (.t 15),none,none⟩,
  ⟨.fad 17 (.t 4) 1,some (16,false),(some 17)⟩,
  ⟨.load 18 none (.t 17),some (16,false),(some 18)⟩,
  ⟨.len 19 (.t 18),some (16,false),(some 19)⟩,
  ⟨.mov 20 (.t 0),some (16,false),(some 20)⟩,
  ⟨.fad 21 (.t 4) 0,some (16,false),(some 21)⟩,
  ⟨.load 22 none (.t 21),some (16,false),(some 22)⟩,
  ⟨.iad 23 t_string 1 (.t 20) (.t 22),some (16,false),(some 23)⟩,
  ⟨.load 24 none (.t 23),some (16,false),(some 24)⟩,
  ⟨.slen 25 (.t 24),some (16,false),(some 25)⟩,
  ⟨.bin 26 .neq (.t 19) (.t 25),some (16,false),(some 26)⟩,
  ⟨.pick 27 (.t 16) (.c (.bool true)) (.t 26),none,none⟩] [0,2,4,27])
 (.cond (.t 27)
 (.seq (.reg [⟨.mov 6 (.c (.bool false)),none,none⟩] [6])
 (.ret))
 (.skip)))
 (.seq (.seq (.reg [⟨.fad 28 (.t 4) 1,none,none⟩,
  ⟨.load 29 none (.t 28),none,none⟩,
  ⟨.len 30 (.t 29),none,none⟩,
  ⟨.mov 31 (.c (.int .i64 0)),none,none⟩] [0,2,4,29,30,31])
 (.block 0 (.loop [0,2,4,29,30,31] c_impl_isObject_L0)))
 (.seq (.reg [⟨.mov 6 (.c (.bool true)),none,none⟩] [6])
 (.ret))))
def f_impl_isObject:Fn:=⟨[.ro 0,.ro 0,.ro 0],false,true,[.t 6],c_impl_isObject⟩
def c_spec_l1Rd_hurtTypes_L0:VC:= .seq (.seq (.reg [⟨.mov 31 (.t 5),none,none⟩,
  ⟨.bin 32 .lss (.t 31) (.c (.int .i64 13)),none,none⟩,
  ⟨.mov 33 (.t 32),none,none⟩,
  ⟨.mov 34 (.t 1),some (33,true),(some 34)⟩,
  ⟨.len 35 (.t 34),some (33,true),(some 35)⟩,
  ⟨.mov 36 (.t 0),some (33,true),(some 36)⟩,
  ⟨.call (some 37) n_spec_l1Rd_below [(.t 36),(.c (.int .i64 3))],some (33,true),(some 37)⟩,
  ⟨.bin 38 .add (.c (.int .i64 11)) (.t 37),some (33,true),(some 38)⟩,
  ⟨.bin 39 .lss (.t 35) (.t 38),some (33,true),(some 39)⟩,
  ⟨.pick 40 (.t 33) (.t 39) (.c (.bool false)),none,none⟩] [0,1,5,40,10000,10001])
 (.cond (.t 40)
 (.skip)
 (.exit 1)))
 (.seq (.block 2 (.reg [⟨.mov 43 (.t 1),none,none⟩,
  ⟨.bsl 44 t_string 1 [.v (.string ⟨#[]⟩)] 1 [(0,(.c (.string ⟨#[114]⟩)))],none,none⟩,
  ⟨.app 45 t_string 16 true (.t 43) (.t 44),none,none⟩,
  ⟨.mov 1 (.t 45),none,none⟩] [0,1,5,10000,10001]))
 (.reg [⟨.mov 41 (.t 5),none,none⟩,
  ⟨.bin 42 .add (.t 41) (.c (.int .i64 1)),none,none⟩,
  ⟨.mov 5 (.t 42),none,none⟩] [0,1,5,10000,10001]))
def c_spec_l1Rd_hurtTypes:VC:= .seq (.reg [⟨.mov 4 (.nl t_string),none,none⟩] [0,1,10000,10001])
 (.seq (.seq (.reg [⟨.mov 6 (.t 0),none,none⟩,
  ⟨.call (some 7) n_spec_l1Rd_below [(.t 6),(.c (.int .i64 30))],none,none⟩] [0,1,7,10000,10001])
 (.block 0 (.seq (.reg [⟨.bin 9 .eql (.t 7) (.c (.int .i64 0)),none,none⟩,
  ⟨.mov 8 (.t 9),none,none⟩] [0,1,7,8,10000,10001])
 (.cond (.t 8)
 (.seq (.reg [⟨.mov 4 (.nl t_string),none,none⟩] [4,10000,10001])
 (.ret))
 (.seq (.reg [⟨.bin 11 .eql (.t 7) (.c (.int .i64 1)),none,none⟩,
  ⟨.mov 10 (.t 11),none,none⟩] [0,1,7,10,10000,10001])
 (.cond (.t 10)
 (.reg [⟨.mov 12 (.t 1),none,none⟩,
  ⟨.iad 13 t_string 1 (.t 12) (.c (.int .i64 0)),none,none⟩,
  ⟨.store 1 (.t 13) (.c (.string ⟨#[]⟩)),none,none⟩] [1,10000,10001])
 (.seq (.reg [⟨.bin 15 .eql (.t 7) (.c (.int .i64 2)),none,none⟩,
  ⟨.mov 14 (.t 15),none,none⟩] [0,1,7,14,10000,10001])
 (.cond (.t 14)
 (.reg [⟨.mov 16 (.t 1),none,none⟩,
  ⟨.mov 17 (.t 1),none,none⟩,
  ⟨.iad 18 t_string 1 (.t 17) (.c (.int .i64 0)),none,none⟩,
  ⟨.load 19 none (.t 18),none,none⟩,
  ⟨.bin 20 .add (.t 19) (.c (.string ⟨#[120]⟩)),none,none⟩,
  ⟨.iad 21 t_string 1 (.t 16) (.c (.int .i64 0)),none,none⟩,
  ⟨.store 1 (.t 21) (.t 20),none,none⟩] [1,10000,10001])
 (.seq (.reg [⟨.bin 23 .eql (.t 7) (.c (.int .i64 3)),none,none⟩,
  ⟨.mov 22 (.t 23),none,none⟩] [0,1,7,22,10000,10001])
 (.cond (.t 22)
 (.reg [⟨.mov 24 (.t 1),none,none⟩,
  ⟨.mov 25 (.t 0),none,none⟩,
  ⟨.call (some 26) n_spec_l1Rd_kinds [(.t 25),(.c (.int .i64 3))],none,none⟩,
  ⟨.bin 27 .add (.c (.string ⟨#[105,105,105,105,105,105,105,105,105,105,105,105,105,105,105,105,105,105,105,105,105,105]⟩)) (.t 26),none,none⟩,
  ⟨.iad 28 t_string 1 (.t 24) (.c (.int .i64 0)),none,none⟩,
  ⟨.store 1 (.t 28) (.t 27),none,none⟩] [1,10000,10001])
 (.seq (.reg [⟨.bin 30 .eql (.t 7) (.c (.int .i64 4)),none,none⟩,
  ⟨.mov 29 (.t 30),none,none⟩] [0,1,29,10000,10001])
 (.cond (.t 29)
 (.seq (.reg [⟨.mov 5 (.c (.int .i64 0)),none,none⟩] [0,1,5,10000,10001])
 (.block 1 (.loop [0,1,5,10000,10001] c_spec_l1Rd_hurtTypes_L0)))
 (.skip)))))))))))))
 (.seq (.reg [⟨.mov 46 (.t 1),none,none⟩,
  ⟨.mov 4 (.t 46),none,none⟩] [4,10000,10001])
 (.ret)))
def f_spec_l1Rd_hurtTypes:Fn:=⟨[.mut 2,.mut 0],true,false,[.t 4],c_spec_l1Rd_hurtTypes⟩
def c_spec_l3Type_L0:VC:= .seq (.seq (.reg [⟨.mov 4 (.t 3),none,none⟩,
  ⟨.mov 5 (.t 0),none,none⟩,
  ⟨.slen 6 (.t 5),none,none⟩,
  ⟨.bin 7 .lss (.t 4) (.t 6),none,none⟩] [0,3,7])
 (.cond (.t 7)
 (.skip)
 (.exit 0)))
 (.seq (.block 1 (.seq (.reg [⟨.mov 10 (.t 0),none,none⟩,
  ⟨.mov 11 (.t 3),none,none⟩,
  ⟨.ix 12 (.t 10) (.t 11),none,none⟩,
  ⟨.bin 13 .neq (.t 12) (.c (.int .u8 105)),none,none⟩,
  ⟨.mov 14 (.t 13),none,none⟩,
  ⟨.mov 15 (.t 0),some (14,true),(some 15)⟩,
  ⟨.mov 16 (.t 3),some (14,true),(some 16)⟩,
  ⟨.ix 17 (.t 15) (.t 16),some (14,true),(some 17)⟩,
  ⟨.bin 18 .neq (.t 17) (.c (.int .u8 114)),some (14,true),(some 18)⟩,
  ⟨.pick 19 (.t 14) (.t 18) (.c (.bool false)),none,none⟩] [0,3,19])
 (.cond (.t 19)
 (.seq (.reg [⟨.mov 2 (.c (.bool false)),none,none⟩] [2])
 (.ret))
 (.skip))))
 (.reg [⟨.mov 8 (.t 3),none,none⟩,
  ⟨.bin 9 .add (.t 8) (.c (.int .i64 1)),none,none⟩,
  ⟨.mov 3 (.t 9),none,none⟩] [0,3]))
def c_spec_l3Type:VC:= .seq (.reg [⟨.mov 2 (.c (.bool false)),none,none⟩] [0])
 (.seq (.seq (.reg [⟨.mov 3 (.c (.int .i64 0)),none,none⟩] [0,3])
 (.block 0 (.loop [0,3] c_spec_l3Type_L0)))
 (.seq (.reg [⟨.mov 20 (.t 0),none,none⟩,
  ⟨.slen 21 (.t 20),none,none⟩,
  ⟨.call (some 22) n_spec_l1In [(.t 21),(.c (.int .i64 1)),(.c (.int .i64 23))],none,none⟩,
  ⟨.mov 2 (.t 22),none,none⟩] [2])
 (.ret)))
def f_spec_l3Type:Fn:=⟨[.ro 0],false,true,[.t 2],c_spec_l3Type⟩
def c_impl_discovered_1:VC:= .seq (.reg [⟨.mov 4 (.t 0),none,none⟩,
  ⟨.bin 5 .gtr (.t 4) (.c (.int .i64 0)),none,none⟩,
  ⟨.mov 6 (.t 5),none,none⟩,
  ⟨.load 7 none (.t 1),some (6,true),(some 7)⟩,
  ⟨.mov 8 (.t 0),some (6,true),(some 8)⟩,
  ⟨.bin 9 .sub (.t 8) (.c (.int .i64 1)),some (6,true),(some 9)⟩,
  ⟨.iad 10 t_bool 1 (.t 7) (.t 9),some (6,true),(some 10)⟩,
  ⟨.load 11 none (.t 10),some (6,true),(some 11)⟩,
  ⟨.un 12 .not (.t 11),some (6,true),(some 12)⟩,
  ⟨.pick 13 (.t 6) (.t 12) (.c (.bool false)),none,none⟩] [0,1,2,13,10001,10002])
 (.cond (.t 13)
 (.seq (.reg [⟨.load 14 none (.t 1),none,none⟩,
  ⟨.mov 15 (.t 0),none,none⟩,
  ⟨.bin 16 .sub (.t 15) (.c (.int .i64 1)),none,none⟩,
  ⟨.iad 17 t_bool 1 (.t 14) (.t 16),none,none⟩,
  ⟨.store 1 (.t 17) (.c (.bool true)),none,none⟩] [0,2,10001,10002])
 (.reg [⟨.load 18 none (.t 2),none,none⟩,
  ⟨.mov 19 (.t 0),none,none⟩,
  ⟨.bin 20 .sub (.t 19) (.c (.int .i64 1)),none,none⟩,
  ⟨.bsl 21 t_i64 1 [.v (.int .i64 0)] 1 [(0,(.t 20))],none,none⟩,
  ⟨.app 22 t_i64 8 true (.t 18) (.t 21),none,none⟩,
  ⟨.store 1 (.t 2) (.t 22),none,none⟩] [10001,10002]))
 (.skip))
def f_impl_discovered_1:Fn:=⟨[.ro 0,.mut 0,.mut 0],false,true,[],c_impl_discovered_1⟩
def c_spec_l7Place_L0:VC:= .seq (.seq (.reg [⟨.mov 6 (.t 5),none,none⟩,
  ⟨.mov 7 (.t 0),none,none⟩,
  ⟨.len 8 (.t 7),none,none⟩,
  ⟨.bin 9 .lss (.t 6) (.t 8),none,none⟩] [0,1,5,9])
 (.cond (.t 9)
 (.skip)
 (.exit 0)))
 (.seq (.block 1 (.seq (.reg [⟨.mov 12 (.t 0),none,none⟩,
  ⟨.mov 13 (.t 5),none,none⟩,
  ⟨.iad 14 t_i64 1 (.t 12) (.t 13),none,none⟩,
  ⟨.load 15 none (.t 14),none,none⟩,
  ⟨.mov 16 (.t 1),none,none⟩,
  ⟨.bin 17 .eql (.t 15) (.t 16),none,none⟩] [0,1,5,17])
 (.cond (.t 17)
 (.seq (.reg [⟨.mov 18 (.t 5),none,none⟩,
  ⟨.mov 4 (.t 18),none,none⟩] [4])
 (.ret))
 (.skip))))
 (.reg [⟨.mov 10 (.t 5),none,none⟩,
  ⟨.bin 11 .add (.t 10) (.c (.int .i64 1)),none,none⟩,
  ⟨.mov 5 (.t 11),none,none⟩] [0,1,5]))
def c_spec_l7Place:VC:= .seq (.reg [⟨.mov 4 (.c (.int .i64 0)),none,none⟩] [0,1])
 (.seq (.seq (.reg [⟨.mov 5 (.c (.int .i64 0)),none,none⟩] [0,1,5])
 (.block 0 (.loop [0,1,5] c_spec_l7Place_L0)))
 (.seq (.reg [⟨.mov 4 (.c (.int .i64 (-1))),none,none⟩] [4])
 (.ret)))
def f_spec_l7Place:Fn:=⟨[.ro 0,.ro 0],false,true,[.t 4],c_spec_l7Place⟩
def c_spec_l1Rd_kinds_L0:VC:= .seq (.seq (.reg [⟨.mov 11 (.t 6),none,none⟩,
  ⟨.bin 12 .gtr (.t 11) (.c (.int .i64 0)),none,none⟩] [0,5,6,12,10000])
 (.cond (.t 12)
 (.skip)
 (.exit 0)))
 (.seq (.block 1 (.reg [⟨.mov 15 (.t 5),none,none⟩,
  ⟨.bsl 16 t_string 1 [.v (.string ⟨#[]⟩)] 2 [(0,(.c (.string ⟨#[105]⟩))),(1,(.c (.string ⟨#[114]⟩)))],none,none⟩,
  ⟨.mov 17 (.t 0),none,none⟩,
  ⟨.call (some 18) n_spec_l1Rd_below [(.t 17),(.c (.int .i64 2))],none,none⟩,
  ⟨.iad 19 t_string 1 (.t 16) (.t 18),none,none⟩,
  ⟨.load 20 none (.t 19),none,none⟩,
  ⟨.bin 21 .add (.t 15) (.t 20),none,none⟩,
  ⟨.mov 5 (.t 21),none,none⟩] [0,5,6,10000]))
 (.reg [⟨.mov 13 (.t 6),none,none⟩,
  ⟨.bin 14 .sub (.t 13) (.c (.int .i64 1)),none,none⟩,
  ⟨.mov 6 (.t 14),none,none⟩] [0,5,6,10000]))
def c_spec_l1Rd_kinds:VC:= .seq (.reg [⟨.mov 4 (.c (.string ⟨#[]⟩)),none,none⟩] [0,1,10000])
 (.seq (.reg [⟨.mov 5 (.c (.string ⟨#[]⟩)),none,none⟩] [0,1,5,10000])
 (.seq (.seq (.reg [⟨.mov 7 (.t 0),none,none⟩,
  ⟨.mov 8 (.t 1),none,none⟩,
  ⟨.call (some 9) n_spec_l1Rd_below [(.t 7),(.t 8)],none,none⟩,
  ⟨.bin 10 .add (.c (.int .i64 1)) (.t 9),none,none⟩,
  ⟨.mov 6 (.t 10),none,none⟩] [0,5,6,10000])
 (.block 0 (.loop [0,5,6,10000] c_spec_l1Rd_kinds_L0)))
 (.seq (.reg [⟨.mov 22 (.t 5),none,none⟩,
  ⟨.mov 4 (.t 22),none,none⟩] [4,10000])
 (.ret))))
def f_spec_l1Rd_kinds:Fn:=⟨[.mut 2,.ro 0],true,true,[.t 4],c_spec_l1Rd_kinds⟩
def c_spec_l1Rd_size:VC:= .seq (.reg [⟨.mov 6 (.c (.int .i64 0)),none,none⟩] [0,1,2,10000])
 (.seq (.reg [⟨.mov 8 (.t 0),none,none⟩,
  ⟨.nilck 9 (.t 8),none,none⟩,
  ⟨.fad 10 (.t 9) 0,none,none⟩,
  ⟨.load 11 none (.t 10),none,none⟩,
  ⟨.len 12 (.t 11),none,none⟩,
  ⟨.mov 13 (.t 1),none,none⟩,
  ⟨.bin 14 .quo (.t 12) (.t 13),none,none⟩,
  ⟨.bin 15 .add (.c (.int .i64 1)) (.t 14),none,none⟩,
  ⟨.mov 7 (.t 15),none,none⟩] [0,2,7,10000])
 (.seq (.seq (.reg [⟨.mov 16 (.t 7),none,none⟩,
  ⟨.mov 17 (.t 2),none,none⟩,
  ⟨.bin 18 .gtr (.t 16) (.t 17),none,none⟩] [0,2,7,18,10000])
 (.cond (.t 18)
 (.reg [⟨.mov 19 (.t 2),none,none⟩,
  ⟨.mov 7 (.t 19),none,none⟩] [0,7,10000])
 (.skip)))
 (.seq (.reg [⟨.mov 20 (.t 0),none,none⟩,
  ⟨.mov 21 (.t 7),none,none⟩,
  ⟨.call (some 22) n_spec_l1Rd_below [(.t 20),(.t 21)],none,none⟩,
  ⟨.bin 23 .add (.c (.int .i64 1)) (.t 22),none,none⟩,
  ⟨.mov 6 (.t 23),none,none⟩] [6,10000])
 (.ret))))
def f_spec_l1Rd_size:Fn:=⟨[.mut 2,.ro 0,.ro 0],true,true,[.t 6],c_spec_l1Rd_size⟩
def c_spec_l1Rd_next:VC:= .seq (.reg [⟨.mov 2 (.c (.int .i64 0)),none,none⟩] [0,10000])
 (.seq (.seq (.reg [⟨.mov 3 (.t 0),none,none⟩,
  ⟨.nilck 4 (.t 3),none,none⟩,
  ⟨.fad 5 (.t 4) 1,none,none⟩,
  ⟨.load 6 none (.t 5),none,none⟩,
  ⟨.mov 7 (.t 0),none,none⟩,
  ⟨.nilck 8 (.t 7),none,none⟩,
  ⟨.fad 9 (.t 8) 0,none,none⟩,
  ⟨.load 10 none (.t 9),none,none⟩,
  ⟨.len 11 (.t 10),none,none⟩,
  ⟨.bin 12 .geq (.t 6) (.t 11),none,none⟩] [0,12,10000])
 (.cond (.t 12)
 (.seq (.reg [⟨.mov 2 (.c (.int .i64 0)),none,none⟩] [2,10000])
 (.ret))
 (.skip)))
 (.seq (.reg [⟨.mov 13 (.t 0),none,none⟩,
  ⟨.nilck 14 (.t 13),none,none⟩,
  ⟨.fad 15 (.t 14) 1,none,none⟩,
  ⟨.load 16 none (.t 15),none,none⟩,
  ⟨.bin 17 .add (.t 16) (.c (.int .i64 1)),none,none⟩,
  ⟨.nilck 18 (.t 13),none,none⟩,
  ⟨.fad 19 (.t 18) 1,none,none⟩,
  ⟨.store 1 (.t 19) (.t 17),none,none⟩] [0,10000])
 (.seq (.reg [⟨.mov 20 (.t 0),none,none⟩,
  ⟨.nilck 21 (.t 20),none,none⟩,
  ⟨.fad 22 (.t 21) 0,none,none⟩,
  ⟨.load 23 none (.t 22),none,none⟩,
  ⟨.mov 24 (.t 0),none,none⟩,
  ⟨.nilck 25 (.t 24),none,none⟩,
  ⟨.fad 26 (.t 25) 1,none,none⟩,
  ⟨.load 27 none (.t 26),none,none⟩,
  ⟨.bin 28 .sub (.t 27) (.c (.int .i64 1)),none,none⟩,
  ⟨.iad 29 t_u8 1 (.t 23) (.t 28),none,none⟩,
  ⟨.load 30 none (.t 29),none,none⟩,
  ⟨.cvi 31 .i64 (.t 30),none,none⟩,
  ⟨.mov 2 (.t 31),none,none⟩] [2,10000])
 (.ret))))
def f_spec_l1Rd_next:Fn:=⟨[.mut 2],true,true,[.t 2],c_spec_l1Rd_next⟩
def c_spec_l1Rd_off:VC:= .seq (.reg [⟨.mov 6 (.c (.int .i64 0)),none,none⟩] [0,1,2,10000])
 (.seq (.seq (.reg [⟨.mov 7 (.t 0),none,none⟩,
  ⟨.call (some 8) n_spec_l1Rd_once [(.t 7),(.c (.int .i64 24))],none,none⟩] [0,1,2,8,10000])
 (.cond (.t 8)
 (.seq (.reg [⟨.mov 9 (.t 1),none,none⟩,
  ⟨.bin 10 .sub (.t 9) (.c (.int .i64 1)),none,none⟩,
  ⟨.mov 11 (.t 2),none,none⟩,
  ⟨.bin 12 .add (.t 11) (.c (.int .i64 1)),none,none⟩,
  ⟨.bsl 13 t_i64 1 [.v (.int .i64 0)] 4 [(0,(.t 10)),(1,(.t 12)),(2,(.c (.int .i64 (-9223372036854775808)))),(3,(.c (.int .i64 9223372036854775807)))],none,none⟩,
  ⟨.mov 14 (.t 0),none,none⟩,
  ⟨.call (some 15) n_spec_l1Rd_below [(.t 14),(.c (.int .i64 4))],none,none⟩,
  ⟨.iad 16 t_i64 1 (.t 13) (.t 15),none,none⟩,
  ⟨.load 17 none (.t 16),none,none⟩,
  ⟨.mov 6 (.t 17),none,none⟩] [6,10000])
 (.ret))
 (.skip)))
 (.seq (.reg [⟨.mov 18 (.t 0),none,none⟩,
  ⟨.mov 19 (.t 1),none,none⟩,
  ⟨.mov 20 (.t 2),none,none⟩,
  ⟨.call (some 21) n_spec_l1Rd_near [(.t 18),(.t 19),(.t 20)],none,none⟩,
  ⟨.mov 6 (.t 21),none,none⟩] [6,10000])
 (.ret)))
def f_spec_l1Rd_off:Fn:=⟨[.mut 2,.ro 0,.ro 0],true,true,[.t 6],c_spec_l1Rd_off⟩
def c_spec_l7Ints_L0:VC:= .seq (.seq (.reg [⟨.mov 11 (.t 5),none,none⟩,
  ⟨.mov 12 (.t 0),none,none⟩,
  ⟨.len 13 (.t 12),none,none⟩,
  ⟨.bin 14 .lss (.t 11) (.t 13),none,none⟩] [0,1,5,14])
 (.cond (.t 14)
 (.skip)
 (.exit 0)))
 (.seq (.block 1 (.seq (.reg [⟨.mov 17 (.t 0),none,none⟩,
  ⟨.mov 18 (.t 5),none,none⟩,
  ⟨.iad 19 t_i64 1 (.t 17) (.t 18),none,none⟩,
  ⟨.load 20 none (.t 19),none,none⟩,
  ⟨.mov 21 (.t 1),none,none⟩,
  ⟨.mov 22 (.t 5),none,none⟩,
  ⟨.iad 23 t_i64 1 (.t 21) (.t 22),none,none⟩,
  ⟨.load 24 none (.t 23),none,none⟩,
  ⟨.bin 25 .neq (.t 20) (.t 24),none,none⟩] [0,1,5,25])
 (.cond (.t 25)
 (.seq (.reg [⟨.mov 4 (.c (.bool false)),none,none⟩] [4])
 (.ret))
 (.skip))))
 (.reg [⟨.mov 15 (.t 5),none,none⟩,
  ⟨.bin 16 .add (.t 15) (.c (.int .i64 1)),none,none⟩,
  ⟨.mov 5 (.t 16),none,none⟩] [0,1,5]))
def c_spec_l7Ints:VC:= .seq (.reg [⟨.mov 4 (.c (.bool false)),none,none⟩] [0,1])
 (.seq (.seq (.reg [⟨.mov 6 (.t 0),none,none⟩,
  ⟨.len 7 (.t 6),none,none⟩,
  ⟨.mov 8 (.t 1),none,none⟩,
  ⟨.len 9 (.t 8),none,none⟩,
  ⟨.bin 10 .neq (.t 7) (.t 9),none,none⟩] [0,1,10])
 (.cond (.t 10)
 (.seq (.reg [⟨.mov 4 (.c (.bool false)),none,none⟩] [4])
 (.ret))
 (.skip)))
 (.seq (.seq (.reg [⟨.mov 5 (.c (.int .i64 0)),none,none⟩] [0,1,5])
 (.block 0 (.loop [0,1,5] c_spec_l7Ints_L0)))
 (.seq (.reg [⟨.mov 4 (.c (.bool true)),none,none⟩] [4])
 (.ret))))
def f_spec_l7Ints:Fn:=⟨[.ro 0,.ro 0],false,true,[.t 4],c_spec_l7Ints⟩
def c_slices_Equal_int64_int64_L0:VC:= .seq (.reg [⟨.bin 14 .lss (.t 13) (.t 12),none,none⟩] [0,1,12,13,14])
 (.seq (.cond (.t 14)
 (.skip)
 (.exit 0))
 (.seq (.block 1 (.seq (.reg [⟨.mov 15 (.t 13),none,none⟩,
  ⟨.mov 5 (.t 15),none,none⟩] [0,1,5,12,13])
 (.seq (.reg [⟨.mov 16 (.t 0),none,none⟩,
  ⟨.mov 17 (.t 5),none,none⟩,
  ⟨.iad 18 t_i64 1 (.t 16) (.t 17),none,none⟩,
  ⟨.load 19 none (.t 18),none,none⟩,
  ⟨.mov 20 (.t 1),none,none⟩,
  ⟨.mov 21 (.t 5),none,none⟩,
  ⟨.iad 22 t_i64 1 (.t 20) (.t 21),none,none⟩,
  ⟨.load 23 none (.t 22),none,none⟩,
  ⟨.bin 24 .neq (.t 19) (.t 23),none,none⟩] [0,1,12,13,24])
 (.cond (.t 24)
 (.seq (.reg [⟨.mov 4 (.c (.bool false)),none,none⟩] [4])
 (.ret))
 (.skip)))))
 (.reg [⟨.bin 25 .add (.t 13) (.c (.int .i64 1)),none,none⟩,
  ⟨.mov 13 (.t 25),none,none⟩] [0,1,12,13])))
def c_slices_Equal_int64_int64:VC:= .seq (.reg [⟨.mov 4 (.c (.bool false)),none,none⟩] [0,1])
 (.seq (.seq (.reg [⟨.mov 6 (.t 0),none,none⟩,
  ⟨.len 7 (.t 6),none,none⟩,
  ⟨.mov 8 (.t 1),none,none⟩,
  ⟨.len 9 (.t 8),none,none⟩,
  ⟨.bin 10 .neq (.t 7) (.t 9),none,none⟩] [0,1,10])
 (.cond (.t 10)
 (.seq (.reg [⟨.mov 4 (.c (.bool false)),none,none⟩] [4])
 (.ret))
 (.skip)))
 (.seq (.seq (.reg [⟨.mov 11 (.t 0),none,none⟩,
  ⟨.len 12 (.t 11),none,none⟩,
  ⟨.mov 13 (.c (.int .i64 0)),none,none⟩] [0,1,12,13])
 (.block 0 (.loop [0,1,12,13] c_slices_Equal_int64_int64_L0)))
 (.seq (.reg [⟨.mov 4 (.c (.bool true)),none,none⟩] [4])
 (.ret))))
def f_slices_Equal_int64_int64:Fn:=⟨[.ro 0,.ro 0],false,true,[.t 4],c_slices_Equal_int64_int64⟩
def c_slices_EqualFunc_impl_Obj_impl_Obj_impl_Obj_impl_Obj_L0:VC:= .seq (.reg [⟨.bin 18 .lss (.t 17) (.t 16),none,none⟩] [1,2,15,16,17,18])
 (.seq (.cond (.t 18)
 (.skip)
 (.exit 0))
 (.seq (.block 1 (.seq (.reg [⟨.mov 19 (.t 17),none,none⟩,
  ⟨.iad 20 t_impl_Obj 2 (.t 15) (.t 17),none,none⟩,
  ⟨.load 21 (some 2) (.t 20),none,none⟩,
  ⟨.alloc 8 [.v (.int .i64 0),.nl t_i64],none,none⟩,
  ⟨.mov 7 (.t 19),none,none⟩,
  ⟨.store 2 (.t 8) (.t 21),none,none⟩] [1,2,7,8,15,16,17])
 (.seq (.reg [⟨.mov 22 (.t 1),none,none⟩,
  ⟨.mov 23 (.t 7),none,none⟩,
  ⟨.iad 24 t_impl_Obj 2 (.t 22) (.t 23),none,none⟩,
  ⟨.load 25 (some 2) (.t 24),none,none⟩,
  ⟨.alloc 9 [.v (.int .i64 0),.nl t_i64],none,none⟩,
  ⟨.store 2 (.t 9) (.t 25),none,none⟩] [1,2,8,9,15,16,17])
 (.seq (.reg [⟨.mov 26 (.t 2),none,none⟩,
  ⟨.load 27 (some 2) (.t 8),none,none⟩,
  ⟨.load 28 (some 2) (.t 9),none,none⟩,
  ⟨.calv (some 29) (.t 26) [(.t 27),(.t 28)],none,none⟩,
  ⟨.un 30 .not (.t 29),none,none⟩] [1,2,15,16,17,30])
 (.cond (.t 30)
 (.seq (.reg [⟨.mov 6 (.c (.bool false)),none,none⟩] [6])
 (.ret))
 (.skip))))))
 (.reg [⟨.bin 31 .add (.t 17) (.c (.int .i64 1)),none,none⟩,
  ⟨.mov 17 (.t 31),none,none⟩] [1,2,15,16,17])))
def c_slices_EqualFunc_impl_Obj_impl_Obj_impl_Obj_impl_Obj:VC:= .seq (.reg [⟨.mov 6 (.c (.bool false)),none,none⟩] [0,1,2])
 (.seq (.seq (.reg [⟨.mov 10 (.t 0),none,none⟩,
  ⟨.len 11 (.t 10),none,none⟩,
  ⟨.mov 12 (.t 1),none,none⟩,
  ⟨.len 13 (.t 12),none,none⟩,
  ⟨.bin 14 .neq (.t 11) (.t 13),none,none⟩] [0,1,2,14])
 (.cond (.t 14)
 (.seq (.reg [⟨.mov 6 (.c (.bool false)),none,none⟩] [6])
 (.ret))
 (.skip)))
 (.seq (.seq (.reg [⟨.mov 15 (.t 0),none,none⟩,
  ⟨.len 16 (.t 15),none,none⟩,
  ⟨.mov 17 (.c (.int .i64 0)),none,none⟩] [1,2,15,16,17])
 (.block 0 (.loop [1,2,15,16,17] c_slices_EqualFunc_impl_Obj_impl_Obj_impl_Obj_impl_Obj_L0)))
 (.seq (.reg [⟨.mov 6 (.c (.bool true)),none,none⟩] [6])
 (.ret))))
def f_slices_EqualFunc_impl_Obj_impl_Obj_impl_Obj_impl_Obj:Fn:=⟨[.ro 0,.ro 0,.ro 0],false,true,[.t 6],c_slices_EqualFunc_impl_Obj_impl_Obj_impl_Obj_impl_Obj⟩
def c_impl_sameObj:VC:= .seq (.reg [⟨.box 2 (.t 0),none,none⟩,
  ⟨.box 3 (.t 1),none,none⟩,
  ⟨.mov 4 (.c (.bool false)),none,none⟩] [2,3])
 (.seq (.reg [⟨.fad 5 (.t 2) 0,none,none⟩,
  ⟨.load 6 none (.t 5),none,none⟩,
  ⟨.fad 7 (.t 3) 0,none,none⟩,
  ⟨.load 8 none (.t 7),none,none⟩,
  ⟨.bin 9 .eql (.t 6) (.t 8),none,none⟩,
  ⟨.mov 10 (.t 9),none,none⟩,
  ⟨.fad 11 (.t 2) 1,some (10,true),(some 11)⟩,
  ⟨.load 12 none (.t 11),some (10,true),(some 12)⟩,
  ⟨.fad 13 (.t 3) 1,some (10,true),(some 13)⟩,
  ⟨.load 14 none (.t 13),some (10,true),(some 14)⟩,
  ⟨.call (some 15) n_slices_Equal_int64_int64 [(.t 12),(.t 14)],some (10,true),(some 15)⟩,
  ⟨.pick 16 (.t 10) (.t 15) (.c (.bool false)),none,none⟩,
  ⟨.mov 4 (.t 16),none,none⟩] [4])
 (.ret))
def f_impl_sameObj:Fn:=⟨[.ro 0,.ro 0],false,true,[.t 4],c_impl_sameObj⟩
def c_spec_l1Rd_word_L0:VC:= .seq (.seq (.reg [⟨.mov 5 (.t 4),none,none⟩,
  ⟨.bin 6 .lss (.t 5) (.c (.int .i64 8)),none,none⟩] [0,3,4,6,10000])
 (.cond (.t 6)
 (.skip)
 (.exit 0)))
 (.seq (.block 1 (.reg [⟨.mov 9 (.t 3),none,none⟩,
  ⟨.bin 10 .shl (.t 9) (.c (.int .u64 8)),none,none⟩,
  ⟨.mov 11 (.t 0),none,none⟩,
  ⟨.call (some 12) n_spec_l1Rd_next [(.t 11)],none,none⟩,
  ⟨.cvi 13 .u64 (.t 12),none,none⟩,
  ⟨.bin 14 .or (.t 10) (.t 13),none,none⟩,
  ⟨.mov 3 (.t 14),none,none⟩] [0,3,4,10000]))
 (.reg [⟨.mov 7 (.t 4),none,none⟩,
  ⟨.bin 8 .add (.t 7) (.c (.int .i64 1)),none,none⟩,
  ⟨.mov 4 (.t 8),none,none⟩] [0,3,4,10000]))
def c_spec_l1Rd_word:VC:= .seq (.reg [⟨.mov 2 (.c (.int .u64 0)),none,none⟩] [0,10000])
 (.seq (.reg [⟨.mov 3 (.c (.int .u64 0)),none,none⟩] [0,3,10000])
 (.seq (.seq (.reg [⟨.mov 4 (.c (.int .i64 0)),none,none⟩] [0,3,4,10000])
 (.block 0 (.loop [0,3,4,10000] c_spec_l1Rd_word_L0)))
 (.seq (.reg [⟨.mov 15 (.t 3),none,none⟩,
  ⟨.mov 2 (.t 15),none,none⟩] [2,10000])
 (.ret))))
def f_spec_l1Rd_word:Fn:=⟨[.mut 2],true,true,[.t 2],c_spec_l1Rd_word⟩
def c_impl_within:VC:= .seq (.reg [⟨.mov 6 (.c (.bool false)),none,none⟩] [0,1,2])
 (.seq (.reg [⟨.mov 7 (.t 0),none,none⟩,
  ⟨.mov 8 (.t 1),none,none⟩,
  ⟨.bin 9 .geq (.t 7) (.t 8),none,none⟩,
  ⟨.mov 10 (.t 9),none,none⟩,
  ⟨.mov 11 (.t 0),some (10,true),(some 11)⟩,
  ⟨.mov 12 (.t 2),some (10,true),(some 12)⟩,
  ⟨.bin 13 .leq (.t 11) (.t 12),some (10,true),(some 13)⟩,
  ⟨.pick 14 (.t 10) (.t 13) (.c (.bool false)),none,none⟩,
  ⟨.mov 6 (.t 14),none,none⟩] [6])
 (.ret))
def f_impl_within:Fn:=⟨[.ro 0,.ro 0,.ro 0],false,true,[.t 6],c_impl_within⟩
def c_impl_size_string:VC:= .seq (.reg [⟨.mov 2 (.c (.int .i64 0)),none,none⟩] [0])
 (.seq (.reg [⟨.mov 3 (.t 0),none,none⟩,
  ⟨.len 4 (.t 3),none,none⟩,
  ⟨.mov 2 (.t 4),none,none⟩] [2])
 (.ret))
def f_impl_size_string:Fn:=⟨[.ro 0],false,true,[.t 2],c_impl_size_string⟩
def c_slices_ContainsFunc_string_string:VC:= .seq (.reg [⟨.mov 4 (.c (.bool false)),none,none⟩] [0,1])
 (.seq (.reg [⟨.mov 5 (.t 0),none,none⟩,
  ⟨.mov 6 (.t 1),none,none⟩,
  ⟨.call (some 7) n_slices_IndexFunc_string_string [(.t 5),(.t 6)],none,none⟩,
  ⟨.bin 8 .geq (.t 7) (.c (.int .i64 0)),none,none⟩,
  ⟨.mov 4 (.t 8),none,none⟩] [4])
 (.ret))
def f_slices_ContainsFunc_string_string:Fn:=⟨[.ro 0,.ro 0],false,true,[.t 4],c_slices_ContainsFunc_string_string⟩
def c_impl_TypesOk_1:VC:= .seq (.reg [⟨.mov 2 (.c (.bool false)),none,none⟩] [0])
 (.seq (.reg [⟨.mov 3 (.t 0),none,none⟩,
  ⟨.call (some 4) n_impl_isType [(.t 3)],none,none⟩,
  ⟨.un 5 .not (.t 4),none,none⟩,
  ⟨.mov 2 (.t 5),none,none⟩] [2])
 (.ret))
def f_impl_TypesOk_1:Fn:=⟨[.ro 0],false,true,[.t 2],c_impl_TypesOk_1⟩
def c_impl_isType:VC:= .seq (.reg [⟨.mov 2 (.c (.bool false)),none,none⟩] [0])
 (.seq (.reg [⟨.mov 3 (.t 0),none,none⟩,
  ⟨.slen 4 (.t 3),none,none⟩,
  ⟨.call (some 5) n_impl_within [(.t 4),(.c (.int .i64 1)),(.c (.int .i64 23))],none,none⟩,
  ⟨.mov 6 (.t 5),none,none⟩,
  ⟨.mov 7 (.t 0),some (6,true),(some 7)⟩,
  ⟨.call (some 8) n_strings_Trim [(.t 7),(.c (.string ⟨#[105,114]⟩))],some (6,true),(some 8)⟩,
  ⟨.bin 9 .eql (.t 8) (.c (.string ⟨#[]⟩)),some (6,true),(some 9)⟩,
  ⟨.pick 10 (.t 6) (.t 9) (.c (.bool false)),none,none⟩,
  ⟨.mov 2 (.t 10),none,none⟩] [2])
 (.ret))
def f_impl_isType:Fn:=⟨[.ro 0],false,true,[.t 2],c_impl_isType⟩
def c_impl_size_impl_Obj:VC:= .seq (.reg [⟨.mov 2 (.c (.int .i64 0)),none,none⟩] [0])
 (.seq (.reg [⟨.mov 3 (.t 0),none,none⟩,
  ⟨.len 4 (.t 3),none,none⟩,
  ⟨.mov 2 (.t 4),none,none⟩] [2])
 (.ret))
def f_impl_size_impl_Obj:Fn:=⟨[.ro 0],false,true,[.t 2],c_impl_size_impl_Obj⟩
def c_slices_IndexFunc_int64_int64_L0:VC:= .seq (.reg [⟨.bin 9 .lss (.t 8) (.t 7),none,none⟩] [0,1,7,8,9])
 (.seq (.cond (.t 9)
 (.skip)
 (.exit 0))
 (.seq (.block 1 (.seq (.reg [⟨.mov 10 (.t 8),none,none⟩,
  ⟨.mov 5 (.t 10),none,none⟩] [0,1,5,7,8])
 (.seq (.reg [⟨.mov 11 (.t 1),none,none⟩,
  ⟨.mov 12 (.t 0),none,none⟩,
  ⟨.mov 13 (.t 5),none,none⟩,
  ⟨.iad 14 t_i64 1 (.t 12) (.t 13),none,none⟩,
  ⟨.load 15 none (.t 14),none,none⟩,
  ⟨.calv (some 16) (.t 11) [(.t 15)],none,none⟩] [0,1,5,7,8,16])
 (.cond (.t 16)
 (.seq (.reg [⟨.mov 17 (.t 5),none,none⟩,
  ⟨.mov 4 (.t 17),none,none⟩] [4])
 (.ret))
 (.skip)))))
 (.reg [⟨.bin 18 .add (.t 8) (.c (.int .i64 1)),none,none⟩,
  ⟨.mov 8 (.t 18),none,none⟩] [0,1,7,8])))
def c_slices_IndexFunc_int64_int64:VC:= .seq (.reg [⟨.mov 4 (.c (.int .i64 0)),none,none⟩] [0,1])
 (.seq (.seq (.reg [⟨.mov 6 (.t 0),none,none⟩,
  ⟨.len 7 (.t 6),none,none⟩,
  ⟨.mov 8 (.c (.int .i64 0)),none,none⟩] [0,1,7,8])
 (.block 0 (.loop [0,1,7,8] c_slices_IndexFunc_int64_int64_L0)))
 (.seq (.reg [⟨.mov 4 (.c (.int .i64 (-1))),none,none⟩] [4])
 (.ret)))
def f_slices_IndexFunc_int64_int64:Fn:=⟨[.ro 0,.ro 0],false,true,[.t 4],c_slices_IndexFunc_int64_int64⟩
def c_slices_IndexFunc_impl_Obj_impl_Obj_L0:VC:= .seq (.reg [⟨.bin 9 .lss (.t 8) (.t 7),none,none⟩] [0,1,7,8,9])
 (.seq (.cond (.t 9)
 (.skip)
 (.exit 0))
 (.seq (.block 1 (.seq (.reg [⟨.mov 10 (.t 8),none,none⟩,
  ⟨.mov 5 (.t 10),none,none⟩] [0,1,5,7,8])
 (.seq (.reg [⟨.mov 11 (.t 1),none,none⟩,
  ⟨.mov 12 (.t 0),none,none⟩,
  ⟨.mov 13 (.t 5),none,none⟩,
  ⟨.iad 14 t_impl_Obj 2 (.t 12) (.t 13),none,none⟩,
  ⟨.load 15 (some 2) (.t 14),none,none⟩,
  ⟨.calv (some 16) (.t 11) [(.t 15)],none,none⟩] [0,1,5,7,8,16])
 (.cond (.t 16)
 (.seq (.reg [⟨.mov 17 (.t 5),none,none⟩,
  ⟨.mov 4 (.t 17),none,none⟩] [4])
 (.ret))
 (.skip)))))
 (.reg [⟨.bin 18 .add (.t 8) (.c (.int .i64 1)),none,none⟩,
  ⟨.mov 8 (.t 18),none,none⟩] [0,1,7,8])))
def c_slices_IndexFunc_impl_Obj_impl_Obj:VC:= .seq (.reg [⟨.mov 4 (.c (.int .i64 0)),none,none⟩] [0,1])
 (.seq (.seq (.reg [⟨.mov 6 (.t 0),none,none⟩,
  ⟨.len 7 (.t 6),none,none⟩,
  ⟨.mov 8 (.c (.int .i64 0)),none,none⟩] [0,1,7,8])
 (.block 0 (.loop [0,1,7,8] c_slices_IndexFunc_impl_Obj_impl_Obj_L0)))
 (.seq (.reg [⟨.mov 4 (.c (.int .i64 (-1))),none,none⟩] [4])
 (.ret)))
def f_slices_IndexFunc_impl_Obj_impl_Obj:Fn:=⟨[.ro 0,.ro 0],false,true,[.t 4],c_slices_IndexFunc_impl_Obj_impl_Obj⟩
def c_spec_l1Rd_near:VC:= .seq (.reg [⟨.mov 6 (.c (.int .i64 0)),none,none⟩] [0,1,2,10000])
 (.seq (.seq (.reg [⟨.mov 7 (.t 0),none,none⟩,
  ⟨.call (some 8) n_spec_l1Rd_below [(.t 7),(.c (.int .i64 8))],none,none⟩] [0,1,2,8,10000])
 (.block 0 (.seq (.reg [⟨.bin 10 .eql (.t 8) (.c (.int .i64 0)),none,none⟩,
  ⟨.mov 9 (.t 10),none,none⟩] [0,1,2,8,9,10000])
 (.cond (.t 9)
 (.seq (.reg [⟨.mov 11 (.t 1),none,none⟩,
  ⟨.mov 6 (.t 11),none,none⟩] [6,10000])
 (.ret))
 (.seq (.reg [⟨.bin 13 .eql (.t 8) (.c (.int .i64 1)),none,none⟩,
  ⟨.mov 12 (.t 13),none,none⟩] [0,1,2,12,10000])
 (.cond (.t 12)
 (.seq (.reg [⟨.mov 14 (.t 2),none,none⟩,
  ⟨.mov 6 (.t 14),none,none⟩] [6,10000])
 (.ret))
 (.skip)))))))
 (.seq (.seq (.reg [⟨.mov 15 (.t 2),none,none⟩,
  ⟨.mov 16 (.t 1),none,none⟩,
  ⟨.bin 17 .lss (.t 15) (.t 16),none,none⟩] [0,1,2,17,10000])
 (.cond (.t 17)
 (.seq (.reg [⟨.mov 18 (.t 1),none,none⟩,
  ⟨.mov 6 (.t 18),none,none⟩] [6,10000])
 (.ret))
 (.skip)))
 (.seq (.reg [⟨.mov 19 (.t 1),none,none⟩,
  ⟨.mov 20 (.t 0),none,none⟩,
  ⟨.call (some 21) n_spec_l1Rd_word [(.t 20)],none,none⟩,
  ⟨.bin 22 .shr (.t 21) (.c (.int .u64 1)),none,none⟩,
  ⟨.mov 23 (.t 2),none,none⟩,
  ⟨.mov 24 (.t 1),none,none⟩,
  ⟨.bin 25 .sub (.t 23) (.t 24),none,none⟩,
  ⟨.bin 26 .add (.t 25) (.c (.int .i64 1)),none,none⟩,
  ⟨.cvi 27 .u64 (.t 26),none,none⟩,
  ⟨.bin 28 .rem (.t 22) (.t 27),none,none⟩,
  ⟨.cvi 29 .i64 (.t 28),none,none⟩,
  ⟨.bin 30 .add (.t 19) (.t 29),none,none⟩,
  ⟨.mov 6 (.t 30),none,none⟩] [6,10000])
 (.ret))))
def f_spec_l1Rd_near:Fn:=⟨[.mut 2,.ro 0,.ro 0],true,true,[.t 6],c_spec_l1Rd_near⟩
def c_slices_IndexFunc_string_string_L0:VC:= .seq (.reg [⟨.bin 9 .lss (.t 8) (.t 7),none,none⟩] [0,1,7,8,9])
 (.seq (.cond (.t 9)
 (.skip)
 (.exit 0))
 (.seq (.block 1 (.seq (.reg [⟨.mov 10 (.t 8),none,none⟩,
  ⟨.mov 5 (.t 10),none,none⟩] [0,1,5,7,8])
 (.seq (.reg [⟨.mov 11 (.t 1),none,none⟩,
  ⟨.mov 12 (.t 0),none,none⟩,
  ⟨.mov 13 (.t 5),none,none⟩,
  ⟨.iad 14 t_string 1 (.t 12) (.t 13),none,none⟩,
  ⟨.load 15 none (.t 14),none,none⟩,
  ⟨.calv (some 16) (.t 11) [(.t 15)],none,none⟩] [0,1,5,7,8,16])
 (.cond (.t 16)
 (.seq (.reg [⟨.mov 17 (.t 5),none,none⟩,
  ⟨.mov 4 (.t 17),none,none⟩] [4])
 (.ret))
 (.skip)))))
 (.reg [⟨.bin 18 .add (.t 8) (.c (.int .i64 1)),none,none⟩,
  ⟨.mov 8 (.t 18),none,none⟩] [0,1,7,8])))
def c_slices_IndexFunc_string_string:VC:= .seq (.reg [⟨.mov 4 (.c (.int .i64 0)),none,none⟩] [0,1])
 (.seq (.seq (.reg [⟨.mov 6 (.t 0),none,none⟩,
  ⟨.len 7 (.t 6),none,none⟩,
  ⟨.mov 8 (.c (.int .i64 0)),none,none⟩] [0,1,7,8])
 (.block 0 (.loop [0,1,7,8] c_slices_IndexFunc_string_string_L0)))
 (.seq (.reg [⟨.mov 4 (.c (.int .i64 (-1))),none,none⟩] [4])
 (.ret)))
def f_slices_IndexFunc_string_string:Fn:=⟨[.ro 0,.ro 0],false,true,[.t 4],c_slices_IndexFunc_string_string⟩
def tabL:List (Nat×Fn):= [(n_laws_FnUnreached,f_laws_FnUnreached),
 (n_laws_big,f_laws_big),
 (n_spec_DrawLinesFor,f_spec_DrawLinesFor),
 (n_spec_GraphOk,f_spec_GraphOk),
 (n_impl_LinesFor,f_impl_LinesFor),
 (n_spec_LinesFor,f_spec_LinesFor),
 (n_laws_sameGraph,f_laws_sameGraph),
 (n_impl_Plain,f_impl_Plain),
 (n_spec_Plain,f_spec_Plain),
 (n_spec_Alike,f_spec_Alike),
 (n_impl_Alike,f_impl_Alike),
 (n_impl_GraphOk,f_impl_GraphOk),
 (n_spec_DrawGraphOk,f_spec_DrawGraphOk),
 (n_spec_TypesOk,f_spec_TypesOk),
 (n_spec_l1In,f_spec_l1In),
 (n_impl_discovered,f_impl_discovered),
 (n_impl_runOf,f_impl_runOf),
 (n_spec_l7Found,f_spec_l7Found),
 (n_spec_RunOf,f_spec_RunOf),
 (n_laws_sameInts,f_laws_sameInts),
 (n_laws_sameObj,f_laws_sameObj),
 (n_impl_plain,f_impl_plain),
 (n_spec_l7Plain,f_spec_l7Plain),
 (n_spec_l1Open,f_spec_l1Open),
 (n_spec_l1Rd_types,f_spec_l1Rd_types),
 (n_spec_l1Rd_graph,f_spec_l1Rd_graph),
 (n_spec_l1Rd_below,f_spec_l1Rd_below),
 (n_spec_l7Turn,f_spec_l7Turn),
 (n_spec_l1Rd_once,f_spec_l1Rd_once),
 (n_spec_l1Rd_hurtGraph,f_spec_l1Rd_hurtGraph),
 (n_spec_l7Same,f_spec_l7Same),
 (n_impl_sameGraph,f_impl_sameGraph),
 (n_impl_TypesOk,f_impl_TypesOk),
 (n_impl_GraphOk_1,f_impl_GraphOk_1),
 (n_impl_Graph_isNode,f_impl_Graph_isNode),
 (n_slices_ContainsFunc_int64_int64,f_slices_ContainsFunc_int64_int64),
 (n_slices_ContainsFunc_impl_Obj_impl_Obj,f_slices_ContainsFunc_impl_Obj_impl_Obj),
 (n_impl_GraphOk_2,f_impl_GraphOk_2),
 (n_impl_isObject,f_impl_isObject),
 (n_spec_l1Rd_hurtTypes,f_spec_l1Rd_hurtTypes),
 (n_spec_l3Type,f_spec_l3Type),
 (n_impl_discovered_1,f_impl_discovered_1),
 (n_spec_l7Place,f_spec_l7Place),
 (n_spec_l1Rd_kinds,f_spec_l1Rd_kinds),
 (n_spec_l1Rd_size,f_spec_l1Rd_size),
 (n_spec_l1Rd_next,f_spec_l1Rd_next),
 (n_spec_l1Rd_off,f_spec_l1Rd_off),
 (n_spec_l7Ints,f_spec_l7Ints),
 (n_slices_Equal_int64_int64,f_slices_Equal_int64_int64),
 (n_slices_EqualFunc_impl_Obj_impl_Obj_impl_Obj_impl_Obj,f_slices_EqualFunc_impl_Obj_impl_Obj_impl_Obj_impl_Obj),
 (n_impl_sameObj,f_impl_sameObj),
 (n_spec_l1Rd_word,f_spec_l1Rd_word),
 (n_impl_within,f_impl_within),
 (n_impl_size_string,f_impl_size_string),
 (n_slices_ContainsFunc_string_string,f_slices_ContainsFunc_string_string),
 (n_impl_TypesOk_1,f_impl_TypesOk_1),
 (n_impl_isType,f_impl_isType),
 (n_impl_size_impl_Obj,f_impl_size_impl_Obj),
 (n_slices_IndexFunc_int64_int64,f_slices_IndexFunc_int64_int64),
 (n_slices_IndexFunc_impl_Obj_impl_Obj,f_slices_IndexFunc_impl_Obj_impl_Obj),
 (n_spec_l1Rd_near,f_spec_l1Rd_near),
 (n_slices_IndexFunc_string_string,f_slices_IndexFunc_string_string)]
def writesL:List Nat:= [9,14,15,16,21,22,25,26,29,30,32,33,35,36,39,41,45,46,47,48,49,50,52,53,58,59,63,64,67,69,71,72,73,74,75,83,84,86,88,89,90,91,97,99,101,103,114,145,1000025,1000026,1000048,1000049,1000050,1000052,1000053,1000063,1000064,1000067,1000083,1000084,1000086,1000088,1000089,1000090,1000091,1000099,1000114]
def writes (g:Nat):Bool:=writesL.contains g
def T (d:Nat):Nat→Option Callee:=tower tabL ext fuel d
theorem vao {d f:Nat} {v:Fn} (h:ext f=none) (ht:look tabL f=some v):T (d+1) f=some (calF (T d) fuel v):=vts h ht
@[go_sem] theorem vhl {d:Nat}:T (d+1) n_laws_FnUnreached=some ⟨[.ro 0],false,true,runFn (T d) fuel f_laws_FnUnreached⟩:=vao (v:=f_laws_FnUnreached) rfl rfl
@[go_sem] theorem qej {d:Nat}:T (d+1) n_laws_big=some ⟨[.ro 0],false,true,runFn (T d) fuel f_laws_big⟩:=vao (v:=f_laws_big) rfl rfl
@[go_sem] theorem vsq {d:Nat}:T (d+1) n_spec_DrawLinesFor=some ⟨[.ro 0],true,false,runFn (T d) fuel f_spec_DrawLinesFor⟩:=vao (v:=f_spec_DrawLinesFor) rfl rfl
@[go_sem] theorem vyl {d:Nat}:T (d+1) n_spec_GraphOk=some ⟨[.ro 0,.ro 0],false,true,runFn (T d) fuel f_spec_GraphOk⟩:=vao (v:=f_spec_GraphOk) rfl rfl
@[go_sem] theorem vxq {d:Nat}:T (d+1) n_impl_LinesFor=some ⟨[.ro 0,.ro 0],false,true,runFn (T d) fuel f_impl_LinesFor⟩:=vao (v:=f_impl_LinesFor) rfl rfl
@[go_sem] theorem vxp {d:Nat}:T (d+1) n_spec_LinesFor=some ⟨[.ro 0,.ro 0],false,true,runFn (T d) fuel f_spec_LinesFor⟩:=vao (v:=f_spec_LinesFor) rfl rfl
@[go_sem] theorem vxa {d:Nat}:T (d+1) n_laws_sameGraph=some ⟨[.ro 0,.ro 0],false,true,runFn (T d) fuel f_laws_sameGraph⟩:=vao (v:=f_laws_sameGraph) rfl rfl
@[go_sem] theorem qbe {d:Nat}:T (d+1) n_impl_Plain=some ⟨[.ro 0,.ro 0],false,false,runFn (T d) fuel f_impl_Plain⟩:=vao (v:=f_impl_Plain) rfl rfl
@[go_sem] theorem qaz {d:Nat}:T (d+1) n_spec_Plain=some ⟨[.ro 0,.ro 0],false,false,runFn (T d) fuel f_spec_Plain⟩:=vao (v:=f_spec_Plain) rfl rfl
@[go_sem] theorem qbi {d:Nat}:T (d+1) n_spec_Alike=some ⟨[.ro 0,.ro 0,.ro 0],false,true,runFn (T d) fuel f_spec_Alike⟩:=vao (v:=f_spec_Alike) rfl rfl
@[go_sem] theorem qbp {d:Nat}:T (d+1) n_impl_Alike=some ⟨[.ro 0,.ro 0,.ro 0],false,true,runFn (T d) fuel f_impl_Alike⟩:=vao (v:=f_impl_Alike) rfl rfl
@[go_sem] theorem vzc {d:Nat}:T (d+1) n_impl_GraphOk=some ⟨[.ro 0,.ro 0],false,true,runFn (T d) fuel f_impl_GraphOk⟩:=vao (v:=f_impl_GraphOk) rfl rfl
@[go_sem] theorem vty {d:Nat}:T (d+1) n_spec_DrawGraphOk=some ⟨[.ro 0],true,false,runFn (T d) fuel f_spec_DrawGraphOk⟩:=vao (v:=f_spec_DrawGraphOk) rfl rfl
@[go_sem] theorem vyt {d:Nat}:T (d+1) n_spec_TypesOk=some ⟨[.ro 0],false,true,runFn (T d) fuel f_spec_TypesOk⟩:=vao (v:=f_spec_TypesOk) rfl rfl
@[go_sem] theorem qco {d:Nat}:T (d+1) n_spec_l1In=some ⟨[.ro 0,.ro 0,.ro 0],false,true,runFn (T d) fuel f_spec_l1In⟩:=vao (v:=f_spec_l1In) rfl rfl
@[go_sem] theorem vvk {d:Nat}:T (d+1) n_impl_discovered=some ⟨[.ro 0,.ro 0],false,false,runFn (T d) fuel f_impl_discovered⟩:=vao (v:=f_impl_discovered) rfl rfl
@[go_sem] theorem vz7 {d:Nat}:T (d+1) n_impl_runOf=some ⟨[.ro 0],false,true,runFn (T d) fuel f_impl_runOf⟩:=vao (v:=f_impl_runOf) rfl rfl
@[go_sem] theorem vx0 {d:Nat}:T (d+1) n_spec_l7Found=some ⟨[.ro 0,.ro 0],false,false,runFn (T d) fuel f_spec_l7Found⟩:=vao (v:=f_spec_l7Found) rfl rfl
@[go_sem] theorem qbt {d:Nat}:T (d+1) n_spec_RunOf=some ⟨[.ro 0],false,true,runFn (T d) fuel f_spec_RunOf⟩:=vao (v:=f_spec_RunOf) rfl rfl
@[go_sem] theorem vxg {d:Nat}:T (d+1) n_laws_sameInts=some ⟨[.ro 0,.ro 0],false,true,runFn (T d) fuel f_laws_sameInts⟩:=vao (v:=f_laws_sameInts) rfl rfl
@[go_sem] theorem vy3 {d:Nat}:T (d+1) n_laws_sameObj=some ⟨[.ro 0,.ro 0],false,true,runFn (T d) fuel f_laws_sameObj⟩:=vao (v:=f_laws_sameObj) rfl rfl
@[go_sem] theorem qbr {d:Nat}:T (d+1) n_impl_plain=some ⟨[.ro 0,.ro 0],false,false,runFn (T d) fuel f_impl_plain⟩:=vao (v:=f_impl_plain) rfl rfl
@[go_sem] theorem vy2 {d:Nat}:T (d+1) n_spec_l7Plain=some ⟨[.ro 0,.ro 0],false,false,runFn (T d) fuel f_spec_l7Plain⟩:=vao (v:=f_spec_l7Plain) rfl rfl
@[go_sem] theorem vzq {d:Nat}:T (d+1) n_spec_l1Open=some ⟨[.ro 0],true,false,runFn (T d) fuel f_spec_l1Open⟩:=vao (v:=f_spec_l1Open) rfl rfl
@[go_sem] theorem vvl {d:Nat}:T (d+1) n_spec_l1Rd_types=some ⟨[.mut 2],true,false,runFn (T d) fuel f_spec_l1Rd_types⟩:=vao (v:=f_spec_l1Rd_types) rfl rfl
@[go_sem] theorem vvn {d:Nat}:T (d+1) n_spec_l1Rd_graph=some ⟨[.mut 2,.mut 0,.ro 0,.ro 0],true,false,runFn (T d) fuel f_spec_l1Rd_graph⟩:=vao (v:=f_spec_l1Rd_graph) rfl rfl
@[go_sem] theorem vvm {d:Nat}:T (d+1) n_spec_l1Rd_below=some ⟨[.mut 2,.ro 0],true,true,runFn (T d) fuel f_spec_l1Rd_below⟩:=vao (v:=f_spec_l1Rd_below) rfl rfl
@[go_sem] theorem vzx {d:Nat}:T (d+1) n_spec_l7Turn=some ⟨[.ro 0,.ro 0,.ro 0],false,true,runFn (T d) fuel f_spec_l7Turn⟩:=vao (v:=f_spec_l7Turn) rfl rfl
@[go_sem] theorem vwk {d:Nat}:T (d+1) n_spec_l1Rd_once=some ⟨[.mut 2,.ro 0],true,true,runFn (T d) fuel f_spec_l1Rd_once⟩:=vao (v:=f_spec_l1Rd_once) rfl rfl
@[go_sem] theorem vqf {d:Nat}:T (d+1) n_spec_l1Rd_hurtGraph=some ⟨[.mut 2,.mut 0],true,false,runFn (T d) fuel f_spec_l1Rd_hurtGraph⟩:=vao (v:=f_spec_l1Rd_hurtGraph) rfl rfl
@[go_sem] theorem vzu {d:Nat}:T (d+1) n_spec_l7Same=some ⟨[.ro 0,.ro 0],false,true,runFn (T d) fuel f_spec_l7Same⟩:=vao (v:=f_spec_l7Same) rfl rfl
@[go_sem] theorem vwf {d:Nat}:T (d+1) n_impl_sameGraph=some ⟨[.ro 0,.ro 0],false,true,runFn (T d) fuel f_impl_sameGraph⟩:=vao (v:=f_impl_sameGraph) rfl rfl
@[go_sem] theorem vx3 {d:Nat}:T (d+1) n_impl_TypesOk=some ⟨[.ro 0],false,true,runFn (T d) fuel f_impl_TypesOk⟩:=vao (v:=f_impl_TypesOk) rfl rfl
@[go_sem] theorem vwb {d:Nat}:T (d+1) n_impl_GraphOk_1=some ⟨[.ro 0,.ro 0],false,true,runFn (T d) fuel f_impl_GraphOk_1⟩:=vao (v:=f_impl_GraphOk_1) rfl rfl
@[go_sem] theorem vsp {d:Nat}:T (d+1) n_impl_Graph_isNode=some ⟨[.ro 0,.ro 0],false,true,runFn (T d) fuel f_impl_Graph_isNode⟩:=vao (v:=f_impl_Graph_isNode) rfl rfl
@[go_sem] theorem viq {d:Nat}:T (d+1) n_slices_ContainsFunc_int64_int64=some ⟨[.ro 0,.ro 0],false,true,runFn (T d) fuel f_slices_ContainsFunc_int64_int64⟩:=vao (v:=f_slices_ContainsFunc_int64_int64) rfl rfl
@[go_sem] theorem vgt {d:Nat}:T (d+1) n_slices_ContainsFunc_impl_Obj_impl_Obj=some ⟨[.ro 0,.ro 0],false,true,runFn (T d) fuel f_slices_ContainsFunc_impl_Obj_impl_Obj⟩:=vao (v:=f_slices_ContainsFunc_impl_Obj_impl_Obj) rfl rfl
@[go_sem] theorem vwo {d:Nat}:T (d+1) n_impl_GraphOk_2=some ⟨[.ro 0,.ro 0,.ro 0],false,true,runFn (T d) fuel f_impl_GraphOk_2⟩:=vao (v:=f_impl_GraphOk_2) rfl rfl
@[go_sem] theorem vxn {d:Nat}:T (d+1) n_impl_isObject=some ⟨[.ro 0,.ro 0,.ro 0],false,true,runFn (T d) fuel f_impl_isObject⟩:=vao (v:=f_impl_isObject) rfl rfl
@[go_sem] theorem vqh {d:Nat}:T (d+1) n_spec_l1Rd_hurtTypes=some ⟨[.mut 2,.mut 0],true,false,runFn (T d) fuel f_spec_l1Rd_hurtTypes⟩:=vao (v:=f_spec_l1Rd_hurtTypes) rfl rfl
@[go_sem] theorem vzr {d:Nat}:T (d+1) n_spec_l3Type=some ⟨[.ro 0],false,true,runFn (T d) fuel f_spec_l3Type⟩:=vao (v:=f_spec_l3Type) rfl rfl
@[go_sem] theorem vso {d:Nat}:T (d+1) n_impl_discovered_1=some ⟨[.ro 0,.mut 0,.mut 0],false,true,runFn (T d) fuel f_impl_discovered_1⟩:=vao (v:=f_impl_discovered_1) rfl rfl
@[go_sem] theorem vxt {d:Nat}:T (d+1) n_spec_l7Place=some ⟨[.ro 0,.ro 0],false,true,runFn (T d) fuel f_spec_l7Place⟩:=vao (v:=f_spec_l7Place) rfl rfl
@[go_sem] theorem vvj {d:Nat}:T (d+1) n_spec_l1Rd_kinds=some ⟨[.mut 2,.ro 0],true,true,runFn (T d) fuel f_spec_l1Rd_kinds⟩:=vao (v:=f_spec_l1Rd_kinds) rfl rfl
@[go_sem] theorem vw4 {d:Nat}:T (d+1) n_spec_l1Rd_size=some ⟨[.mut 2,.ro 0,.ro 0],true,true,runFn (T d) fuel f_spec_l1Rd_size⟩:=vao (v:=f_spec_l1Rd_size) rfl rfl
@[go_sem] theorem vwa {d:Nat}:T (d+1) n_spec_l1Rd_next=some ⟨[.mut 2],true,true,runFn (T d) fuel f_spec_l1Rd_next⟩:=vao (v:=f_spec_l1Rd_next) rfl rfl
@[go_sem] theorem vxl {d:Nat}:T (d+1) n_spec_l1Rd_off=some ⟨[.mut 2,.ro 0,.ro 0],true,true,runFn (T d) fuel f_spec_l1Rd_off⟩:=vao (v:=f_spec_l1Rd_off) rfl rfl
@[go_sem] theorem vzs {d:Nat}:T (d+1) n_spec_l7Ints=some ⟨[.ro 0,.ro 0],false,true,runFn (T d) fuel f_spec_l7Ints⟩:=vao (v:=f_spec_l7Ints) rfl rfl
@[go_sem] theorem vny {d:Nat}:T (d+1) n_slices_Equal_int64_int64=some ⟨[.ro 0,.ro 0],false,true,runFn (T d) fuel f_slices_Equal_int64_int64⟩:=vao (v:=f_slices_Equal_int64_int64) rfl rfl
@[go_sem] theorem vd6 {d:Nat}:T (d+1) n_slices_EqualFunc_impl_Obj_impl_Obj_impl_Obj_impl_Obj=some ⟨[.ro 0,.ro 0,.ro 0],false,true,runFn (T d) fuel f_slices_EqualFunc_impl_Obj_impl_Obj_impl_Obj_impl_Obj⟩:=vao (v:=f_slices_EqualFunc_impl_Obj_impl_Obj_impl_Obj_impl_Obj) rfl rfl
@[go_sem] theorem vxz {d:Nat}:T (d+1) n_impl_sameObj=some ⟨[.ro 0,.ro 0],false,true,runFn (T d) fuel f_impl_sameObj⟩:=vao (v:=f_impl_sameObj) rfl rfl
@[go_sem] theorem vw8 {d:Nat}:T (d+1) n_spec_l1Rd_word=some ⟨[.mut 2],true,true,runFn (T d) fuel f_spec_l1Rd_word⟩:=vao (v:=f_spec_l1Rd_word) rfl rfl
@[go_sem] theorem vzw {d:Nat}:T (d+1) n_impl_within=some ⟨[.ro 0,.ro 0,.ro 0],false,true,runFn (T d) fuel f_impl_within⟩:=vao (v:=f_impl_within) rfl rfl
@[go_sem] theorem vu8 {d:Nat}:T (d+1) n_impl_size_string=some ⟨[.ro 0],false,true,runFn (T d) fuel f_impl_size_string⟩:=vao (v:=f_impl_size_string) rfl rfl
@[go_sem] theorem vh2 {d:Nat}:T (d+1) n_slices_ContainsFunc_string_string=some ⟨[.ro 0,.ro 0],false,true,runFn (T d) fuel f_slices_ContainsFunc_string_string⟩:=vao (v:=f_slices_ContainsFunc_string_string) rfl rfl
@[go_sem] theorem vwz {d:Nat}:T (d+1) n_impl_TypesOk_1=some ⟨[.ro 0],false,true,runFn (T d) fuel f_impl_TypesOk_1⟩:=vao (v:=f_impl_TypesOk_1) rfl rfl
@[go_sem] theorem vzv {d:Nat}:T (d+1) n_impl_isType=some ⟨[.ro 0],false,true,runFn (T d) fuel f_impl_isType⟩:=vao (v:=f_impl_isType) rfl rfl
@[go_sem] theorem vsi {d:Nat}:T (d+1) n_impl_size_impl_Obj=some ⟨[.ro 0],false,true,runFn (T d) fuel f_impl_size_impl_Obj⟩:=vao (v:=f_impl_size_impl_Obj) rfl rfl
@[go_sem] theorem vk6 {d:Nat}:T (d+1) n_slices_IndexFunc_int64_int64=some ⟨[.ro 0,.ro 0],false,true,runFn (T d) fuel f_slices_IndexFunc_int64_int64⟩:=vao (v:=f_slices_IndexFunc_int64_int64) rfl rfl
@[go_sem] theorem vhu {d:Nat}:T (d+1) n_slices_IndexFunc_impl_Obj_impl_Obj=some ⟨[.ro 0,.ro 0],false,true,runFn (T d) fuel f_slices_IndexFunc_impl_Obj_impl_Obj⟩:=vao (v:=f_slices_IndexFunc_impl_Obj_impl_Obj) rfl rfl
@[go_sem] theorem vv7 {d:Nat}:T (d+1) n_spec_l1Rd_near=some ⟨[.mut 2,.ro 0,.ro 0],true,true,runFn (T d) fuel f_spec_l1Rd_near⟩:=vao (v:=f_spec_l1Rd_near) rfl rfl
@[go_sem] theorem vi9 {d:Nat}:T (d+1) n_slices_IndexFunc_string_string=some ⟨[.ro 0,.ro 0],false,true,runFn (T d) fuel f_slices_IndexFunc_string_string⟩:=vao (v:=f_slices_IndexFunc_string_string) rfl rfl
@[go_sem] theorem vnl {d:Nat}:T (d+1) n_slices_Clone_int64_int64=some ⟨[.ro 0],false,false,cloneGo t_i64 8⟩:=vmx rfl
@[go_sem] theorem vyf {d:Nat}:T (d+1) n_strings_Trim=some ⟨[.ro 0,.ro 0],false,true,trimGo⟩:=vmx rfl
end Go.Proofs.YteomgghmhicpcaaDoor.VM

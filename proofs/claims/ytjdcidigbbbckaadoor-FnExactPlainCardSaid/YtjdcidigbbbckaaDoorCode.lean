/- The functions' code, as the interpreter has it. Printed by a program of ours. -/
import Derived.Test.YtjdcidigbbbckaaDoorExt
namespace Go.Proofs.YtjdcidigbbbckaaDoor.VM
open Go
def hqb:VC:= .seq (.reg [⟨.box 3 (.t 1),none,none⟩,
    ⟨.mov 4 (.c (.bool false)),none,none⟩] [0,3])
 (.seq (.reg [⟨.mov 5 (.c (.int .i64 1048576)),none,none⟩] [0,3,5])
 (.seq (.reg [⟨.mov 14 (.t 0),none,none⟩,
  ⟨.mov 15 (.t 5),none,none⟩,
  ⟨.call (some 16) rkb [(.t 14),(.t 15)],none,none⟩,
  ⟨.mov 5 (.t 16),none,none⟩] [0,3,5])
 (.seq (.seq (.reg [⟨.mov 17 (.t 5),none,none⟩,
  ⟨.bin 18 .lss (.t 17) (.c (.int .i64 0)),none,none⟩] [0,3,5,18])
 (.cond (.t 18)
 (.seq (.reg [⟨.mov 4 (.c (.bool true)),none,none⟩] [4])
 (.ret))
 (.skip)))
 (.seq (.reg [⟨.load 19 (some 2) (.t 3),none,none⟩,
  ⟨.mov 20 (.t 5),none,none⟩,
  ⟨.call (some 21) mjc [(.t 19),(.t 20)],none,none⟩,
  ⟨.mov 5 (.t 21),none,none⟩] [0,3,5])
 (.seq (.seq (.reg [⟨.mov 22 (.t 5),none,none⟩,
  ⟨.bin 23 .lss (.t 22) (.c (.int .i64 0)),none,none⟩] [0,3,23])
 (.cond (.t 23)
 (.seq (.reg [⟨.mov 4 (.c (.bool true)),none,none⟩] [4])
 (.ret))
 (.skip)))
 (.seq (.reg [⟨.mov 24 (.t 0),none,none⟩,
  ⟨.call (some 25) qk [(.t 24)],none,none⟩,
  ⟨.load 26 (some 2) (.t 3),none,none⟩,
  ⟨.call (some 27) gjb [(.t 26)],none,none⟩,
  ⟨.call (some 28) fxc [(.t 25),(.t 27)],none,none⟩,
  ⟨.alloc 6 [.nl nz,.nl gz],none,none⟩,
  ⟨.store 2 (.t 6) (.t 28),none,none⟩] [0,3,6])
 (.seq (.reg [⟨.mov 29 (.t 0),none,none⟩,
  ⟨.call (some 30) qk [(.t 29)],none,none⟩,
  ⟨.mov 7 (.t 30),none,none⟩] [0,3,6,7])
 (.seq (.reg [⟨.load 31 (some 2) (.t 3),none,none⟩,
  ⟨.call (some 32) gjb [(.t 31)],none,none⟩,
  ⟨.alloc 8 [.nl nz,.nl gz],none,none⟩,
  ⟨.store 2 (.t 8) (.t 32),none,none⟩] [0,3,6,7,8])
 (.seq (.reg [⟨.mov 33 (.t 7),none,none⟩,
  ⟨.load 34 (some 2) (.t 8),none,none⟩,
  ⟨.call (some 35) ujc [(.t 33),(.t 34)],none,none⟩,
  ⟨.alloc 9 [.nl nz,.nl gz],none,none⟩,
  ⟨.store 2 (.t 9) (.t 35),none,none⟩] [0,3,6,7,8,9])
 (.seq (.seq (.reg [⟨.load 36 (some 2) (.t 9),none,none⟩,
  ⟨.load 37 (some 2) (.t 6),none,none⟩,
  ⟨.call (some 38) hjb [(.t 36),(.t 37)],none,none⟩,
  ⟨.un 39 .not (.t 38),none,none⟩] [0,3,6,7,8,9,39])
 (.cond (.t 39)
 (.seq (.reg [⟨.mov 4 (.c (.bool false)),none,none⟩] [4])
 (.ret))
 (.skip)))
 (.seq (.seq (.reg [⟨.mov 40 (.t 7),none,none⟩,
  ⟨.mov 41 (.t 0),none,none⟩,
  ⟨.call (some 42) qk [(.t 41)],none,none⟩,
  ⟨.call (some 43) skb [(.t 40),(.t 42)],none,none⟩,
  ⟨.un 44 .not (.t 43),none,none⟩] [0,3,6,7,8,9,44])
 (.cond (.t 44)
 (.seq (.reg [⟨.mov 4 (.c (.bool false)),none,none⟩] [4])
 (.ret))
 (.skip)))
 (.seq (.seq (.reg [⟨.load 45 (some 2) (.t 8),none,none⟩,
  ⟨.load 46 (some 2) (.t 3),none,none⟩,
  ⟨.call (some 47) gjb [(.t 46)],none,none⟩,
  ⟨.call (some 48) hjb [(.t 45),(.t 47)],none,none⟩,
  ⟨.un 49 .not (.t 48),none,none⟩] [0,3,6,7,8,9,49])
 (.cond (.t 49)
 (.seq (.reg [⟨.mov 4 (.c (.bool false)),none,none⟩] [4])
 (.ret))
 (.skip)))
 (.seq (.reg [⟨.mov 10 (.c (.int .i64 1)),none,none⟩] [0,3,6,7,8,9,10])
 (.seq (.reg [⟨.mov 50 (.t 7),none,none⟩,
  ⟨.mov 51 (.t 10),none,none⟩,
  ⟨.call (some 52) xqb [(.t 50),(.t 51)],none,none⟩,
  ⟨.mov 10 (.t 52),none,none⟩] [0,3,6,8,9,10])
 (.seq (.reg [⟨.load 53 (some 2) (.t 8),none,none⟩,
  ⟨.mov 54 (.t 10),none,none⟩,
  ⟨.call (some 55) kqb [(.t 53),(.t 54)],none,none⟩,
  ⟨.mov 10 (.t 55),none,none⟩] [0,3,6,9,10])
 (.seq (.seq (.reg [⟨.mov 56 (.t 10),none,none⟩,
  ⟨.bin 57 .lss (.t 56) (.c (.int .i64 0)),none,none⟩,
  ⟨.mov 58 (.t 57),none,none⟩,
  ⟨.load 59 (some 2) (.t 9),some (58,false),(some 59)⟩,
  ⟨.load 60 (some 2) (.t 6),some (58,false),(some 60)⟩,
  ⟨.call (some 61) hjb [(.t 59),(.t 60)],some (58,false),(some 61)⟩,
  ⟨.un 62 .not (.t 61),some (58,false),(some 62)⟩,
  ⟨.pick 63 (.t 58) (.c (.bool true)) (.t 62),none,none⟩] [0,3,6,9,63])
 (.cond (.t 63)
 (.seq (.reg [⟨.mov 4 (.c (.bool false)),none,none⟩] [4])
 (.ret))
 (.skip)))
 (.seq (.reg [⟨.mov 11 (.c (.int .i64 1)),none,none⟩] [0,3,6,9,11])
 (.seq (.reg [⟨.load 64 (some 2) (.t 9),none,none⟩,
  ⟨.mov 65 (.t 11),none,none⟩,
  ⟨.call (some 66) kqb [(.t 64),(.t 65)],none,none⟩,
  ⟨.mov 11 (.t 66),none,none⟩] [0,3,6,9,11])
 (.seq (.reg [⟨.mov 12 (.c (.int .i64 1)),none,none⟩] [0,3,6,9,11,12])
 (.seq (.reg [⟨.load 67 (some 2) (.t 9),none,none⟩,
  ⟨.mov 68 (.t 12),none,none⟩,
  ⟨.call (some 69) lqb [(.t 67),(.t 68)],none,none⟩,
  ⟨.mov 12 (.t 69),none,none⟩] [0,3,6,9,11,12])
 (.seq (.seq (.reg [⟨.mov 70 (.t 12),none,none⟩,
  ⟨.bin 71 .lss (.t 70) (.c (.int .i64 0)),none,none⟩] [0,3,6,9,11,12,71])
 (.cond (.t 71)
 (.seq (.reg [⟨.mov 4 (.c (.bool false)),none,none⟩] [4])
 (.ret))
 (.skip)))
 (.seq (.seq (.reg [⟨.mov 72 (.t 12),none,none⟩,
  ⟨.mov 73 (.t 11),none,none⟩,
  ⟨.bin 74 .neq (.t 72) (.t 73),none,none⟩] [0,3,6,9,11,74])
 (.cond (.t 74)
 (.seq (.reg [⟨.mov 4 (.c (.bool false)),none,none⟩] [4])
 (.ret))
 (.skip)))
 (.seq (.reg [⟨.mov 75 (.t 0),none,none⟩,
  ⟨.call (some 76) qk [(.t 75)],none,none⟩,
  ⟨.load 77 (some 2) (.t 3),none,none⟩,
  ⟨.call (some 78) gjb [(.t 77)],none,none⟩,
  ⟨.call (some 79) ujc [(.t 76),(.t 78)],none,none⟩,
  ⟨.alloc 13 [.nl nz,.nl gz],none,none⟩,
  ⟨.store 2 (.t 13) (.t 79),none,none⟩] [6,9,11,13])
 (.seq (.seq (.reg [⟨.load 80 (some 2) (.t 13),none,none⟩,
  ⟨.load 81 (some 2) (.t 6),none,none⟩,
  ⟨.call (some 82) hjb [(.t 80),(.t 81)],none,none⟩,
  ⟨.un 83 .not (.t 82),none,none⟩] [9,11,83])
 (.cond (.t 83)
 (.seq (.reg [⟨.mov 4 (.c (.bool false)),none,none⟩] [4])
 (.ret))
 (.skip)))
 (.seq (.reg [⟨.mov 12 (.c (.int .i64 1)),none,none⟩] [9,11,12])
 (.seq (.reg [⟨.load 84 (some 2) (.t 9),none,none⟩,
  ⟨.mov 85 (.t 12),none,none⟩,
  ⟨.call (some 86) lqb [(.t 84),(.t 85)],none,none⟩,
  ⟨.mov 12 (.t 86),none,none⟩] [11,12])
 (.seq (.seq (.reg [⟨.mov 87 (.t 12),none,none⟩,
  ⟨.bin 88 .lss (.t 87) (.c (.int .i64 0)),none,none⟩] [11,12,88])
 (.cond (.t 88)
 (.seq (.reg [⟨.mov 4 (.c (.bool false)),none,none⟩] [4])
 (.ret))
 (.skip)))
 (.seq (.seq (.reg [⟨.mov 89 (.t 12),none,none⟩,
  ⟨.mov 90 (.t 11),none,none⟩,
  ⟨.bin 91 .neq (.t 89) (.t 90),none,none⟩] [91])
 (.cond (.t 91)
 (.seq (.reg [⟨.mov 4 (.c (.bool false)),none,none⟩] [4])
 (.ret))
 (.skip)))
 (.seq (.reg [⟨.mov 4 (.c (.bool true)),none,none⟩] [4])
 (.ret))))))))))))))))))))))))))))))
def fq:Fn:=⟨[.ro 0,.ro 0],false,true,[.t 4],hqb⟩
def ikb:VC:= .seq (.seq (.reg [⟨.mov 28 (.t 6),none,none⟩,
    ⟨.fad 29 (.t 3) 0,none,none⟩,
    ⟨.load 30 none (.t 29),none,none⟩,
    ⟨.len 31 (.t 30),none,none⟩,
    ⟨.bin 32 .lss (.t 28) (.t 31),none,none⟩] [0,3,5,6,32])
 (.cond (.t 32)
 (.skip)
 (.exit 0)))
 (.seq (.block 1 (.seq (.reg [⟨.fad 35 (.t 3) 0,none,none⟩,
  ⟨.load 36 none (.t 35),none,none⟩,
  ⟨.mov 37 (.t 6),none,none⟩,
  ⟨.iad 38 nz 1 (.t 36) (.t 37),none,none⟩,
  ⟨.load 39 none (.t 38),none,none⟩,
  ⟨.mov 40 (.t 5),none,none⟩,
  ⟨.call (some 41) jxb [(.t 39),(.c (.int .i64 0)),(.t 40)],none,none⟩,
  ⟨.un 42 .not (.t 41),none,none⟩] [0,3,5,6,42])
 (.cond (.t 42)
 (.seq (.reg [⟨.mov 4 (.c (.bool false)),none,none⟩] [4])
 (.ret))
 (.skip))))
 (.reg [⟨.mov 33 (.t 6),none,none⟩,
  ⟨.bin 34 .add (.t 33) (.c (.int .i64 1)),none,none⟩,
  ⟨.mov 6 (.t 34),none,none⟩] [0,3,5,6]))
def hkb:VC:= .seq (.seq (.reg [⟨.mov 74 (.t 9),none,none⟩,
    ⟨.fad 75 (.t 8) 1,none,none⟩,
    ⟨.load 76 none (.t 75),none,none⟩,
    ⟨.len 77 (.t 76),none,none⟩,
    ⟨.bin 78 .lss (.t 74) (.t 77),none,none⟩] [0,3,5,7,8,9,78])
 (.cond (.t 78)
 (.skip)
 (.exit 4)))
 (.seq (.block 5 (.seq (.reg [⟨.mov 81 (.t 0),none,none⟩,
  ⟨.fad 82 (.t 8) 0,none,none⟩,
  ⟨.load 83 none (.t 82),none,none⟩,
  ⟨.iad 84 lz 1 (.t 81) (.t 83),none,none⟩,
  ⟨.load 85 none (.t 84),none,none⟩,
  ⟨.mov 86 (.t 9),none,none⟩,
  ⟨.ix 87 (.t 85) (.t 86),none,none⟩,
  ⟨.bin 88 .eql (.t 87) (.c (.int .u8 114)),none,none⟩,
  ⟨.mov 89 (.t 88),none,none⟩,
  ⟨.fad 90 (.t 8) 1,some (89,true),(some 90)⟩,
  ⟨.load 91 none (.t 90),some (89,true),(some 91)⟩,
  ⟨.mov 92 (.t 9),some (89,true),(some 92)⟩,
  ⟨.iad 93 nz 1 (.t 91) (.t 92),some (89,true),(some 93)⟩,
  ⟨.load 94 none (.t 93),some (89,true),(some 94)⟩,
  ⟨.mov 95 (.t 5),some (89,true),(some 95)⟩,
  ⟨.call (some 96) jxb [(.t 94),(.c (.int .i64 0)),(.t 95)],some (89,true),(some 96)⟩,
  ⟨.un 97 .not (.t 96),some (89,true),(some 97)⟩,
  ⟨.pick 98 (.t 89) (.t 97) (.c (.bool false)),none,none⟩] [0,3,5,7,8,9,98])
 (.cond (.t 98)
 (.seq (.reg [⟨.mov 4 (.c (.bool false)),none,none⟩] [4])
 (.ret))
 (.skip))))
 (.reg [⟨.mov 79 (.t 9),none,none⟩,
  ⟨.bin 80 .add (.t 79) (.c (.int .i64 1)),none,none⟩,
  ⟨.mov 9 (.t 80),none,none⟩] [0,3,5,7,8,9]))
def zj:VC:= .seq (.seq (.reg [⟨.mov 43 (.t 7),none,none⟩,
    ⟨.fad 44 (.t 3) 1,none,none⟩,
    ⟨.load 45 none (.t 44),none,none⟩,
    ⟨.len 46 (.t 45),none,none⟩,
    ⟨.bin 47 .lss (.t 43) (.t 46),none,none⟩] [0,3,5,7,47])
 (.cond (.t 47)
 (.skip)
 (.exit 2)))
 (.seq (.block 3 (.seq (.reg [⟨.fad 50 (.t 3) 1,none,none⟩,
  ⟨.load 51 none (.t 50),none,none⟩,
  ⟨.mov 52 (.t 7),none,none⟩,
  ⟨.iad 53 gz 2 (.t 51) (.t 52),none,none⟩,
  ⟨.load 54 (some 2) (.t 53),none,none⟩,
  ⟨.alloc 8 [.v (.int .i64 0),.nl nz],none,none⟩,
  ⟨.store 2 (.t 8) (.t 54),none,none⟩] [0,3,5,7,8])
 (.seq (.seq (.reg [⟨.fad 55 (.t 8) 0,none,none⟩,
  ⟨.load 56 none (.t 55),none,none⟩,
  ⟨.mov 57 (.t 0),none,none⟩,
  ⟨.len 58 (.t 57),none,none⟩,
  ⟨.bin 59 .sub (.t 58) (.c (.int .i64 1)),none,none⟩,
  ⟨.call (some 60) jxb [(.t 56),(.c (.int .i64 0)),(.t 59)],none,none⟩,
  ⟨.un 61 .not (.t 60),none,none⟩,
  ⟨.mov 62 (.t 61),none,none⟩,
  ⟨.fad 63 (.t 8) 1,some (62,false),(some 63)⟩,
  ⟨.load 64 none (.t 63),some (62,false),(some 64)⟩,
  ⟨.len 65 (.t 64),some (62,false),(some 65)⟩,
  ⟨.mov 66 (.t 0),some (62,false),(some 66)⟩,
  ⟨.fad 67 (.t 8) 0,some (62,false),(some 67)⟩,
  ⟨.load 68 none (.t 67),some (62,false),(some 68)⟩,
  ⟨.iad 69 lz 1 (.t 66) (.t 68),some (62,false),(some 69)⟩,
  ⟨.load 70 none (.t 69),some (62,false),(some 70)⟩,
  ⟨.slen 71 (.t 70),some (62,false),(some 71)⟩,
  ⟨.bin 72 .neq (.t 65) (.t 71),some (62,false),(some 72)⟩,
  ⟨.pick 73 (.t 62) (.c (.bool true)) (.t 72),none,none⟩] [0,3,5,7,8,73])
 (.cond (.t 73)
 (.seq (.reg [⟨.mov 4 (.c (.bool false)),none,none⟩] [4])
 (.ret))
 (.skip)))
 (.seq (.reg [⟨.mov 9 (.c (.int .i64 0)),none,none⟩] [0,3,5,7,8,9])
 (.block 4 (.loop [0,3,5,7,8,9] hkb))))))
 (.reg [⟨.mov 48 (.t 7),none,none⟩,
  ⟨.bin 49 .add (.t 48) (.c (.int .i64 1)),none,none⟩,
  ⟨.mov 7 (.t 49),none,none⟩] [0,3,5,7]))
def ljb:VC:= .seq (.reg [⟨.box 3 (.t 1),none,none⟩,
    ⟨.mov 4 (.c (.bool false)),none,none⟩] [0,3])
 (.seq (.seq (.reg [⟨.mov 10 (.t 0),none,none⟩,
  ⟨.call (some 11) kjc [(.t 10)],none,none⟩,
  ⟨.un 12 .not (.t 11),none,none⟩,
  ⟨.mov 13 (.t 12),none,none⟩,
  ⟨.fad 14 (.t 3) 0,some (13,false),(some 14)⟩,
  ⟨.load 15 none (.t 14),some (13,false),(some 15)⟩,
  ⟨.len 16 (.t 15),some (13,false),(some 16)⟩,
  ⟨.bin 17 .gtr (.t 16) (.c (.int .i64 40)),some (13,false),(some 17)⟩,
  ⟨.pick 18 (.t 13) (.c (.bool true)) (.t 17),none,none⟩,
  ⟨.mov 19 (.t 18),none,none⟩,
  ⟨.fad 20 (.t 3) 1,some (19,false),(some 20)⟩,
  ⟨.load 21 none (.t 20),some (19,false),(some 21)⟩,
  ⟨.len 22 (.t 21),some (19,false),(some 22)⟩,
  ⟨.bin 23 .gtr (.t 22) (.c (.int .i64 400)),some (19,false),(some 23)⟩,
  ⟨.pick 24 (.t 19) (.c (.bool true)) (.t 23),none,none⟩] [0,3,24])
 (.cond (.t 24)
 (.seq (.reg [⟨.mov 4 (.c (.bool false)),none,none⟩] [4])
 (.ret))
 (.skip)))
 (.seq (.reg [⟨.fad 25 (.t 3) 1,none,none⟩,
  ⟨.load 26 none (.t 25),none,none⟩,
  ⟨.len 27 (.t 26),none,none⟩,
  ⟨.mov 5 (.t 27),none,none⟩] [0,3,5])
 (.seq (.seq (.reg [⟨.mov 6 (.c (.int .i64 0)),none,none⟩] [0,3,5,6])
 (.block 0 (.loop [0,3,5,6] ikb)))
 (.seq (.seq (.reg [⟨.mov 7 (.c (.int .i64 0)),none,none⟩] [0,3,5,7])
 (.block 2 (.loop [0,3,5,7] zj)))
 (.seq (.reg [⟨.mov 4 (.c (.bool true)),none,none⟩] [4])
 (.ret))))))
def xq:Fn:=⟨[.ro 0,.ro 0],false,true,[.t 4],ljb⟩
def fjd:VC:= .seq (.reg [⟨.box 3 (.t 1),none,none⟩,
    ⟨.alloc 4 [.nl nz,.nl gz],none,none⟩] [0,3,4])
 (.seq (.seq (.reg [⟨.mov 5 (.t 0),none,none⟩,
  ⟨.load 6 (some 2) (.t 3),none,none⟩,
  ⟨.call (some 7) ojc [(.t 5),(.t 6)],none,none⟩,
  ⟨.un 8 .not (.t 7),none,none⟩] [0,3,4,8])
 (.cond (.t 8)
 (.seq (.reg [⟨.build 9 [.nl nz,.nl gz] [],none,none⟩,
  ⟨.store 2 (.t 4) (.t 9),none,none⟩] [4])
 (.ret))
 (.skip)))
 (.seq (.reg [⟨.mov 10 (.t 0),none,none⟩,
  ⟨.load 11 (some 2) (.t 3),none,none⟩,
  ⟨.call (some 12) kxc [(.t 10),(.t 11)],none,none⟩,
  ⟨.store 2 (.t 4) (.t 12),none,none⟩] [4])
 (.ret)))
def qxb:Fn:=⟨[.ro 0,.ro 0],false,false,[.cell 4 (some 2)],fjd⟩
def zzd:VC:= .seq (.reg [⟨.box 3 (.t 1),none,none⟩,
    ⟨.alloc 4 [.nl nz,.nl gz],none,none⟩] [0,3,4])
 (.seq (.seq (.reg [⟨.mov 5 (.t 0),none,none⟩,
  ⟨.load 6 (some 2) (.t 3),none,none⟩,
  ⟨.call (some 7) ljc [(.t 5),(.t 6)],none,none⟩,
  ⟨.un 8 .not (.t 7),none,none⟩] [0,3,4,8])
 (.cond (.t 8)
 (.seq (.reg [⟨.build 9 [.nl nz,.nl gz] [],none,none⟩,
  ⟨.store 2 (.t 4) (.t 9),none,none⟩] [4])
 (.ret))
 (.skip)))
 (.seq (.reg [⟨.mov 10 (.t 0),none,none⟩,
  ⟨.load 11 (some 2) (.t 3),none,none⟩,
  ⟨.call (some 12) ijc [(.t 10),(.t 11)],none,none⟩,
  ⟨.store 2 (.t 4) (.t 12),none,none⟩] [4])
 (.ret)))
def oxb:Fn:=⟨[.ro 0,.ro 0],false,false,[.cell 4 (some 2)],zzd⟩
def ek:VC:= .seq (.seq (.reg [⟨.mov 12 (.t 5),none,none⟩,
    ⟨.mov 13 (.t 0),none,none⟩,
    ⟨.len 14 (.t 13),none,none⟩,
    ⟨.bin 15 .lss (.t 12) (.t 14),none,none⟩] [0,1,5,15])
 (.cond (.t 15)
 (.skip)
 (.exit 0)))
 (.seq (.block 1 (.seq (.reg [⟨.mov 18 (.t 1),none,none⟩,
  ⟨.mov 19 (.t 0),none,none⟩,
  ⟨.mov 20 (.t 5),none,none⟩,
  ⟨.iad 21 lz 1 (.t 19) (.t 20),none,none⟩,
  ⟨.load 22 none (.t 21),none,none⟩,
  ⟨.slen 23 (.t 22),none,none⟩,
  ⟨.bin 24 .sub (.t 18) (.t 23),none,none⟩,
  ⟨.mov 1 (.t 24),none,none⟩] [0,1,5])
 (.seq (.reg [⟨.mov 25 (.t 1),none,none⟩,
  ⟨.bin 26 .lss (.t 25) (.c (.int .i64 0)),none,none⟩] [0,1,5,26])
 (.cond (.t 26)
 (.seq (.reg [⟨.mov 4 (.c (.int .i64 (-1))),none,none⟩] [4])
 (.ret))
 (.skip)))))
 (.reg [⟨.mov 16 (.t 5),none,none⟩,
  ⟨.bin 17 .add (.t 16) (.c (.int .i64 1)),none,none⟩,
  ⟨.mov 5 (.t 17),none,none⟩] [0,1,5]))
def wkb:VC:= .seq (.reg [⟨.mov 4 (.c (.int .i64 0)),none,none⟩] [0,1])
 (.seq (.reg [⟨.mov 6 (.t 1),none,none⟩,
  ⟨.mov 7 (.t 0),none,none⟩,
  ⟨.len 8 (.t 7),none,none⟩,
  ⟨.bin 9 .sub (.t 6) (.t 8),none,none⟩,
  ⟨.mov 1 (.t 9),none,none⟩] [0,1])
 (.seq (.seq (.reg [⟨.mov 10 (.t 1),none,none⟩,
  ⟨.bin 11 .lss (.t 10) (.c (.int .i64 0)),none,none⟩] [0,1,11])
 (.cond (.t 11)
 (.seq (.reg [⟨.mov 4 (.c (.int .i64 (-1))),none,none⟩] [4])
 (.ret))
 (.skip)))
 (.seq (.seq (.reg [⟨.mov 5 (.c (.int .i64 0)),none,none⟩] [0,1,5])
 (.block 0 (.loop [0,1,5] ek)))
 (.seq (.reg [⟨.mov 27 (.t 1),none,none⟩,
  ⟨.mov 4 (.t 27),none,none⟩] [4])
 (.ret)))))
def zx:Fn:=⟨[.ro 0,.ro 0],false,true,[.t 4],wkb⟩
def qjc:VC:= .seq (.reg [⟨.box 2 (.t 0),none,none⟩,
    ⟨.mov 4 (.c (.int .i64 0)),none,none⟩] [1,2])
 (.seq (.reg [⟨.fad 5 (.t 2) 0,none,none⟩,
  ⟨.load 6 none (.t 5),none,none⟩,
  ⟨.mov 7 (.t 1),none,none⟩,
  ⟨.call (some 8) lxb [(.t 6),(.t 7)],none,none⟩,
  ⟨.mov 1 (.t 8),none,none⟩] [1,2])
 (.seq (.seq (.reg [⟨.mov 9 (.t 1),none,none⟩,
  ⟨.bin 10 .lss (.t 9) (.c (.int .i64 0)),none,none⟩] [1,2,10])
 (.cond (.t 10)
 (.seq (.reg [⟨.mov 4 (.c (.int .i64 (-1))),none,none⟩] [4])
 (.ret))
 (.skip)))
 (.seq (.reg [⟨.fad 11 (.t 2) 1,none,none⟩,
  ⟨.load 12 none (.t 11),none,none⟩,
  ⟨.mov 13 (.t 1),none,none⟩,
  ⟨.call (some 14) lqc [(.t 12),(.t 13)],none,none⟩,
  ⟨.mov 1 (.t 14),none,none⟩] [1])
 (.seq (.seq (.reg [⟨.mov 15 (.t 1),none,none⟩,
  ⟨.bin 16 .lss (.t 15) (.c (.int .i64 0)),none,none⟩] [1,16])
 (.cond (.t 16)
 (.seq (.reg [⟨.mov 4 (.c (.int .i64 (-1))),none,none⟩] [4])
 (.ret))
 (.skip)))
 (.seq (.reg [⟨.mov 17 (.t 1),none,none⟩,
  ⟨.mov 4 (.t 17),none,none⟩] [4])
 (.ret))))))
def zk:Fn:=⟨[.ro 0,.ro 0],false,true,[.t 4],qjc⟩
def fqb:VC:= .seq (.seq (.reg [⟨.mov 8 (.t 4),none,none⟩,
    ⟨.mov 9 (.t 0),none,none⟩,
    ⟨.len 10 (.t 9),none,none⟩,
    ⟨.bin 11 .lss (.t 8) (.t 10),none,none⟩] [0,3,4,11])
 (.cond (.t 11)
 (.skip)
 (.exit 0)))
 (.seq (.block 1 (.reg [⟨.mov 14 (.t 3),none,none⟩,
  ⟨.mov 15 (.t 4),none,none⟩,
  ⟨.mov 16 (.t 0),none,none⟩,
  ⟨.mov 17 (.t 4),none,none⟩,
  ⟨.iad 18 lz 1 (.t 16) (.t 17),none,none⟩,
  ⟨.load 19 none (.t 18),none,none⟩,
  ⟨.iad 20 lz 1 (.t 14) (.t 15),none,none⟩,
  ⟨.store 1 (.t 20) (.t 19),none,none⟩] [0,3,4]))
 (.reg [⟨.mov 12 (.t 4),none,none⟩,
  ⟨.bin 13 .add (.t 12) (.c (.int .i64 1)),none,none⟩,
  ⟨.mov 4 (.t 13),none,none⟩] [0,3,4]))
def izd:VC:= .seq (.reg [⟨.mov 2 (.nl lz),none,none⟩] [0])
 (.seq (.reg [⟨.mov 5 (.t 0),none,none⟩,
  ⟨.len 6 (.t 5),none,none⟩,
  ⟨.mks 7 lz 16 [.v (.string ⟨#[]⟩)] (.t 6),none,none⟩,
  ⟨.mov 3 (.t 7),none,none⟩] [0,3])
 (.seq (.seq (.reg [⟨.mov 4 (.c (.int .i64 0)),none,none⟩] [0,3,4])
 (.block 0 (.loop [0,3,4] fqb)))
 (.seq (.reg [⟨.mov 21 (.t 3),none,none⟩,
  ⟨.mov 2 (.t 21),none,none⟩] [2])
 (.ret))))
def nzb:Fn:=⟨[.ro 0],false,false,[.t 2],izd⟩
def jqd:VC:= .seq (.reg [⟨.box 1 (.t 0),none,none⟩,
    ⟨.alloc 2 [.nl nz,.nl gz],none,none⟩] [1,2])
 (.seq (.reg [⟨.alloc 3 [.nl nz,.nl gz],none,none⟩] [1,2,3])
 (.seq (.reg [⟨.fad 4 (.t 1) 0,none,none⟩,
  ⟨.load 5 none (.t 4),none,none⟩,
  ⟨.call (some 6) kxb [(.t 5)],none,none⟩,
  ⟨.fad 7 (.t 3) 0,none,none⟩,
  ⟨.store 1 (.t 7) (.t 6),none,none⟩] [1,2,3])
 (.seq (.reg [⟨.fad 8 (.t 1) 1,none,none⟩,
  ⟨.load 9 none (.t 8),none,none⟩,
  ⟨.call (some 10) kqc [(.t 9)],none,none⟩,
  ⟨.fad 11 (.t 3) 1,none,none⟩,
  ⟨.store 1 (.t 11) (.t 10),none,none⟩] [2,3])
 (.seq (.reg [⟨.load 12 (some 2) (.t 3),none,none⟩,
  ⟨.store 2 (.t 2) (.t 12),none,none⟩] [2])
 (.ret)))))
def sqb:Fn:=⟨[.ro 0],false,false,[.cell 2 (some 2)],jqd⟩
def kqd:VC:= .seq (.reg [⟨.box 2 (.t 0),none,none⟩,
    ⟨.box 3 (.t 1),none,none⟩,
    ⟨.mov 4 (.c (.bool false)),none,none⟩] [2,3])
 (.seq (.seq (.reg [⟨.fad 5 (.t 2) 0,none,none⟩,
  ⟨.load 6 none (.t 5),none,none⟩,
  ⟨.fad 7 (.t 3) 0,none,none⟩,
  ⟨.load 8 none (.t 7),none,none⟩,
  ⟨.call (some 9) mxb [(.t 6),(.t 8)],none,none⟩,
  ⟨.un 10 .not (.t 9),none,none⟩] [2,3,10])
 (.cond (.t 10)
 (.seq (.reg [⟨.mov 4 (.c (.bool false)),none,none⟩] [4])
 (.ret))
 (.skip)))
 (.seq (.seq (.reg [⟨.fad 11 (.t 2) 1,none,none⟩,
  ⟨.load 12 none (.t 11),none,none⟩,
  ⟨.fad 13 (.t 3) 1,none,none⟩,
  ⟨.load 14 none (.t 13),none,none⟩,
  ⟨.call (some 15) mqc [(.t 12),(.t 14)],none,none⟩,
  ⟨.un 16 .not (.t 15),none,none⟩] [16])
 (.cond (.t 16)
 (.seq (.reg [⟨.mov 4 (.c (.bool false)),none,none⟩] [4])
 (.ret))
 (.skip)))
 (.seq (.reg [⟨.mov 4 (.c (.bool true)),none,none⟩] [4])
 (.ret))))
def tqb:Fn:=⟨[.ro 0,.ro 0],false,true,[.t 4],kqd⟩
def gqb:VC:= .seq (.seq (.reg [⟨.mov 11 (.t 5),none,none⟩,
    ⟨.mov 12 (.t 0),none,none⟩,
    ⟨.len 13 (.t 12),none,none⟩,
    ⟨.bin 14 .lss (.t 11) (.t 13),none,none⟩] [0,1,5,14])
 (.cond (.t 14)
 (.skip)
 (.exit 0)))
 (.seq (.block 1 (.seq (.reg [⟨.mov 17 (.t 0),none,none⟩,
  ⟨.mov 18 (.t 5),none,none⟩,
  ⟨.iad 19 lz 1 (.t 17) (.t 18),none,none⟩,
  ⟨.load 20 none (.t 19),none,none⟩,
  ⟨.mov 21 (.t 1),none,none⟩,
  ⟨.mov 22 (.t 5),none,none⟩,
  ⟨.iad 23 lz 1 (.t 21) (.t 22),none,none⟩,
  ⟨.load 24 none (.t 23),none,none⟩,
  ⟨.bin 25 .neq (.t 20) (.t 24),none,none⟩] [0,1,5,25])
 (.cond (.t 25)
 (.seq (.reg [⟨.mov 4 (.c (.bool false)),none,none⟩] [4])
 (.ret))
 (.skip))))
 (.reg [⟨.mov 15 (.t 5),none,none⟩,
  ⟨.bin 16 .add (.t 15) (.c (.int .i64 1)),none,none⟩,
  ⟨.mov 5 (.t 16),none,none⟩] [0,1,5]))
def lzd:VC:= .seq (.reg [⟨.mov 4 (.c (.bool false)),none,none⟩] [0,1])
 (.seq (.seq (.reg [⟨.mov 6 (.t 0),none,none⟩,
  ⟨.len 7 (.t 6),none,none⟩,
  ⟨.mov 8 (.t 1),none,none⟩,
  ⟨.len 9 (.t 8),none,none⟩,
  ⟨.bin 10 .neq (.t 7) (.t 9),none,none⟩] [0,1,10])
 (.cond (.t 10)
 (.seq (.reg [⟨.mov 4 (.c (.bool false)),none,none⟩] [4])
 (.ret))
 (.skip)))
 (.seq (.seq (.reg [⟨.mov 5 (.c (.int .i64 0)),none,none⟩] [0,1,5])
 (.block 0 (.loop [0,1,5] gqb)))
 (.seq (.reg [⟨.mov 4 (.c (.bool true)),none,none⟩] [4])
 (.ret))))
def qzb:Fn:=⟨[.ro 0,.ro 0],false,true,[.t 4],lzd⟩
def cjb:VC:= .seq (.seq (.reg [⟨.mov 6 (.t 5),none,none⟩,
    ⟨.mov 7 (.t 0),none,none⟩,
    ⟨.len 8 (.t 7),none,none⟩,
    ⟨.bin 9 .lss (.t 6) (.t 8),none,none⟩] [0,1,5,9,10000])
 (.cond (.t 9)
 (.skip)
 (.exit 0)))
 (.seq (.block 1 (.seq (.reg [⟨.mov 12 (.t 0),none,none⟩,
  ⟨.mov 13 (.t 5),none,none⟩,
  ⟨.mov 14 (.t 1),none,none⟩,
  ⟨.call (some 15) szc [(.t 14)],none,none⟩,
  ⟨.iad 16 lz 1 (.t 12) (.t 13),none,none⟩,
  ⟨.store 1 (.t 16) (.t 15),none,none⟩] [0,1,5,10000])
 (.reg [⟨.mov 17 (.t 1),none,none⟩,
  ⟨.bin 18 .add (.t 17) (.c (.int .i64 1)),none,none⟩,
  ⟨.mov 1 (.t 18),none,none⟩] [0,1,5,10000])))
 (.reg [⟨.mov 10 (.t 5),none,none⟩,
  ⟨.bin 11 .add (.t 10) (.c (.int .i64 1)),none,none⟩,
  ⟨.mov 5 (.t 11),none,none⟩] [0,1,5,10000]))
def nxc:VC:= .seq (.reg [⟨.mov 4 (.c (.int .i64 0)),none,none⟩] [0,1,10000])
 (.seq (.seq (.reg [⟨.mov 5 (.c (.int .i64 0)),none,none⟩] [0,1,5,10000])
 (.block 0 (.loop [0,1,5,10000] cjb)))
 (.seq (.reg [⟨.mov 19 (.t 1),none,none⟩,
  ⟨.mov 4 (.t 19),none,none⟩] [4,10000])
 (.ret)))
def nk:Fn:=⟨[.mut 0,.ro 0],false,true,[.t 4],nxc⟩
def jzd:VC:= .seq (.reg [⟨.box 2 (.t 0),none,none⟩,
    ⟨.mov 4 (.c (.int .i64 0)),none,none⟩] [1,2,10000])
 (.seq (.reg [⟨.fad 5 (.t 2) 0,none,none⟩,
  ⟨.load 6 none (.t 5),none,none⟩,
  ⟨.mov 7 (.t 1),none,none⟩,
  ⟨.call (some 8) rjb [(.t 6),(.t 7)],none,none⟩,
  ⟨.mov 1 (.t 8),none,none⟩] [1,2,10000])
 (.seq (.reg [⟨.fad 9 (.t 2) 1,none,none⟩,
  ⟨.load 10 none (.t 9),none,none⟩,
  ⟨.mov 11 (.t 1),none,none⟩,
  ⟨.call (some 12) tzc [(.t 10),(.t 11)],none,none⟩,
  ⟨.mov 1 (.t 12),none,none⟩] [1,10000])
 (.seq (.reg [⟨.mov 13 (.t 1),none,none⟩,
  ⟨.mov 4 (.t 13),none,none⟩] [4,10000])
 (.ret))))
def ozb:Fn:=⟨[.mut 0,.ro 0],false,true,[.t 4],jzd⟩
def kzd:VC:= .seq (.reg [⟨.box 2 (.t 0),none,none⟩,
    ⟨.mov 4 (.c (.int .i64 0)),none,none⟩] [1,2])
 (.seq (.reg [⟨.fad 5 (.t 2) 0,none,none⟩,
  ⟨.load 6 none (.t 5),none,none⟩,
  ⟨.mov 7 (.t 1),none,none⟩,
  ⟨.call (some 8) sjb [(.t 6),(.t 7)],none,none⟩,
  ⟨.mov 1 (.t 8),none,none⟩] [1,2])
 (.seq (.seq (.reg [⟨.mov 9 (.t 1),none,none⟩,
  ⟨.bin 10 .lss (.t 9) (.c (.int .i64 0)),none,none⟩] [1,2,10])
 (.cond (.t 10)
 (.seq (.reg [⟨.mov 4 (.c (.int .i64 (-1))),none,none⟩] [4])
 (.ret))
 (.skip)))
 (.seq (.reg [⟨.fad 11 (.t 2) 1,none,none⟩,
  ⟨.load 12 none (.t 11),none,none⟩,
  ⟨.mov 13 (.t 1),none,none⟩,
  ⟨.call (some 14) uzc [(.t 12),(.t 13)],none,none⟩,
  ⟨.mov 1 (.t 14),none,none⟩] [1])
 (.seq (.seq (.reg [⟨.mov 15 (.t 1),none,none⟩,
  ⟨.bin 16 .lss (.t 15) (.c (.int .i64 0)),none,none⟩] [1,16])
 (.cond (.t 16)
 (.seq (.reg [⟨.mov 4 (.c (.int .i64 (-1))),none,none⟩] [4])
 (.ret))
 (.skip)))
 (.seq (.reg [⟨.mov 17 (.t 1),none,none⟩,
  ⟨.mov 4 (.t 17),none,none⟩] [4])
 (.ret))))))
def pzb:Fn:=⟨[.ro 0,.ro 0],false,true,[.t 4],kzd⟩
def uqb:VC:= .seq (.reg [⟨.box 2 (.t 0),none,none⟩,
    ⟨.box 3 (.t 1),none,none⟩,
    ⟨.mov 4 (.c (.bool false)),none,none⟩] [2,3])
 (.seq (.seq (.reg [⟨.load 6 none (.t 2),none,none⟩,
  ⟨.call (some 7) njc [(.t 6)],none,none⟩,
  ⟨.un 8 .not (.t 7),none,none⟩,
  ⟨.mov 9 (.t 8),none,none⟩,
  ⟨.fad 10 (.t 3) 0,some (9,false),(some 10)⟩,
  ⟨.load 11 none (.t 10),some (9,false),(some 11)⟩,
  ⟨.len 12 (.t 11),some (9,false),(some 12)⟩,
  ⟨.bin 13 .gtr (.t 12) (.c (.int .i64 40)),some (9,false),(some 13)⟩,
  ⟨.pick 14 (.t 9) (.c (.bool true)) (.t 13),none,none⟩,
  ⟨.mov 15 (.t 14),none,none⟩,
  ⟨.fad 16 (.t 3) 1,some (15,false),(some 16)⟩,
  ⟨.load 17 none (.t 16),some (15,false),(some 17)⟩,
  ⟨.len 18 (.t 17),some (15,false),(some 18)⟩,
  ⟨.bin 19 .gtr (.t 18) (.c (.int .i64 400)),some (15,false),(some 19)⟩,
  ⟨.pick 20 (.t 15) (.c (.bool true)) (.t 19),none,none⟩] [2,3,20])
 (.cond (.t 20)
 (.seq (.reg [⟨.mov 4 (.c (.bool false)),none,none⟩] [4])
 (.ret))
 (.skip)))
 (.seq (.reg [⟨.mkf 21 xx [] [(.t 3)],none,none⟩,
  ⟨.mov 5 (.t 21),none,none⟩] [2,3,5])
 (.seq (.reg [⟨.fad 22 (.t 3) 0,none,none⟩,
  ⟨.load 23 none (.t 22),none,none⟩,
  ⟨.mov 24 (.t 5),none,none⟩,
  ⟨.call (some 25) jq [(.t 23),(.t 24)],none,none⟩,
  ⟨.un 26 .not (.t 25),none,none⟩,
  ⟨.mov 27 (.t 26),none,none⟩,
  ⟨.fad 28 (.t 3) 1,some (27,true),(some 28)⟩,
  ⟨.load 29 none (.t 28),some (27,true),(some 29)⟩,
  ⟨.mkf 30 wx [] [(.t 2),(.t 3)],some (27,true),(some 30)⟩,
  ⟨.call (some 31) rj [(.t 29),(.t 30)],some (27,true),(some 31)⟩,
  ⟨.un 32 .not (.t 31),some (27,true),(some 32)⟩,
  ⟨.pick 33 (.t 27) (.t 32) (.c (.bool false)),none,none⟩,
  ⟨.mov 4 (.t 33),none,none⟩] [4])
 (.ret))))
def jx:Fn:=⟨[.ro 0,.ro 0],false,true,[.t 4],uqb⟩
def gkb:VC:= .seq (.seq (.reg [⟨.mov 8 (.t 3),none,none⟩,
    ⟨.mov 9 (.t 0),none,none⟩,
    ⟨.len 10 (.t 9),none,none⟩,
    ⟨.bin 11 .lss (.t 8) (.t 10),none,none⟩] [0,3,11])
 (.cond (.t 11)
 (.skip)
 (.exit 0)))
 (.seq (.block 1 (.seq (.reg [⟨.mov 14 (.t 0),none,none⟩,
  ⟨.mov 15 (.t 3),none,none⟩,
  ⟨.iad 16 lz 1 (.t 14) (.t 15),none,none⟩,
  ⟨.load 17 none (.t 16),none,none⟩,
  ⟨.call (some 18) jqc [(.t 17)],none,none⟩,
  ⟨.un 19 .not (.t 18),none,none⟩] [0,3,19])
 (.cond (.t 19)
 (.seq (.reg [⟨.mov 2 (.c (.bool false)),none,none⟩] [2])
 (.ret))
 (.skip))))
 (.reg [⟨.mov 12 (.t 3),none,none⟩,
  ⟨.bin 13 .add (.t 12) (.c (.int .i64 1)),none,none⟩,
  ⟨.mov 3 (.t 13),none,none⟩] [0,3]))
def pjc:VC:= .seq (.reg [⟨.mov 2 (.c (.bool false)),none,none⟩] [0])
 (.seq (.seq (.reg [⟨.mov 4 (.t 0),none,none⟩,
  ⟨.len 5 (.t 4),none,none⟩,
  ⟨.call (some 6) jxb [(.t 5),(.c (.int .i64 1)),(.c (.int .i64 12))],none,none⟩,
  ⟨.un 7 .not (.t 6),none,none⟩] [0,7])
 (.cond (.t 7)
 (.seq (.reg [⟨.mov 2 (.c (.bool false)),none,none⟩] [2])
 (.ret))
 (.skip)))
 (.seq (.seq (.reg [⟨.mov 3 (.c (.int .i64 0)),none,none⟩] [0,3])
 (.block 0 (.loop [0,3] gkb)))
 (.seq (.reg [⟨.mov 2 (.c (.bool true)),none,none⟩] [2])
 (.ret))))
def yk:Fn:=⟨[.ro 0],false,true,[.t 2],pjc⟩
def ezd:VC:= .seq (.reg [⟨.mov 6 (.c (.bool false)),none,none⟩] [0,1,2])
 (.seq (.reg [⟨.mov 7 (.t 0),none,none⟩,
  ⟨.mov 8 (.t 1),none,none⟩,
  ⟨.bin 9 .geq (.t 7) (.t 8),none,none⟩,
  ⟨.mov 10 (.t 9),none,none⟩,
  ⟨.mov 11 (.t 0),some (10,true),(some 11)⟩,
  ⟨.mov 12 (.t 2),some (10,true),(some 12)⟩,
  ⟨.bin 13 .leq (.t 11) (.t 12),some (10,true),(some 13)⟩,
  ⟨.pick 14 (.t 10) (.t 13) (.c (.bool false)),none,none⟩,
  ⟨.mov 6 (.t 14),none,none⟩] [6])
 (.ret))
def nxb:Fn:=⟨[.ro 0,.ro 0,.ro 0],false,true,[.t 6],ezd⟩
def uk:VC:= .seq (.reg [⟨.bin 24 .lss (.t 23) (.t 22),none,none⟩] [0,3,5,7,21,22,23,24])
 (.seq (.cond (.t 24)
 (.skip)
 (.exit 0))
 (.seq (.block 1 (.seq (.reg [⟨.iad 25 nz 1 (.t 21) (.t 23),none,none⟩,
  ⟨.load 26 none (.t 25),none,none⟩,
  ⟨.mov 9 (.t 26),none,none⟩] [0,3,5,7,9,21,22,23])
 (.reg [⟨.mov 27 (.t 7),none,none⟩,
  ⟨.mov 28 (.t 9),none,none⟩,
  ⟨.calv (some 29) (.t 27) [(.t 28)],none,none⟩] [0,3,5,7,21,22,23])))
 (.reg [⟨.bin 30 .add (.t 23) (.c (.int .i64 1)),none,none⟩,
  ⟨.mov 23 (.t 30),none,none⟩] [0,3,5,7,21,22,23])))
def pjb:VC:= .seq (.reg [⟨.bin 49 .lss (.t 48) (.t 47),none,none⟩] [0,3,5,7,10,11,46,47,48,49])
 (.seq (.cond (.t 49)
 (.skip)
 (.exit 4))
 (.seq (.block 5 (.seq (.reg [⟨.mov 50 (.t 48),none,none⟩,
  ⟨.iad 51 nz 1 (.t 46) (.t 48),none,none⟩,
  ⟨.load 52 none (.t 51),none,none⟩,
  ⟨.mov 12 (.t 50),none,none⟩,
  ⟨.mov 13 (.t 52),none,none⟩] [0,3,5,7,10,11,12,13,46,47,48])
 (.seq (.reg [⟨.mov 53 (.t 0),none,none⟩,
  ⟨.fad 54 (.t 11) 0,none,none⟩,
  ⟨.load 55 none (.t 54),none,none⟩,
  ⟨.iad 56 lz 1 (.t 53) (.t 55),none,none⟩,
  ⟨.load 57 none (.t 56),none,none⟩,
  ⟨.mov 58 (.t 12),none,none⟩,
  ⟨.ix 59 (.t 57) (.t 58),none,none⟩,
  ⟨.bin 60 .eql (.t 59) (.c (.int .u8 114)),none,none⟩] [0,3,5,7,10,11,13,46,47,48,60])
 (.cond (.t 60)
 (.reg [⟨.mov 61 (.t 7),none,none⟩,
  ⟨.mov 62 (.t 13),none,none⟩,
  ⟨.calv (some 63) (.t 61) [(.t 62)],none,none⟩] [0,3,5,7,10,11,46,47,48])
 (.skip)))))
 (.reg [⟨.bin 64 .add (.t 48) (.c (.int .i64 1)),none,none⟩,
  ⟨.mov 48 (.t 64),none,none⟩] [0,3,5,7,10,11,46,47,48])))
def qjb:VC:= .seq (.seq (.reg [⟨.mov 31 (.t 10),none,none⟩,
    ⟨.load 32 none (.t 5),none,none⟩,
    ⟨.len 33 (.t 32),none,none⟩,
    ⟨.bin 34 .lss (.t 31) (.t 33),none,none⟩] [0,3,5,7,10,34])
 (.cond (.t 34)
 (.skip)
 (.exit 2)))
 (.seq (.block 3 (.seq (.reg [⟨.fad 37 (.t 3) 1,none,none⟩,
  ⟨.load 38 none (.t 37),none,none⟩,
  ⟨.load 39 none (.t 5),none,none⟩,
  ⟨.mov 40 (.t 10),none,none⟩,
  ⟨.iad 41 nz 1 (.t 39) (.t 40),none,none⟩,
  ⟨.load 42 none (.t 41),none,none⟩,
  ⟨.iad 43 gz 2 (.t 38) (.t 42),none,none⟩,
  ⟨.load 44 (some 2) (.t 43),none,none⟩,
  ⟨.alloc 11 [.v (.int .i64 0),.nl nz],none,none⟩,
  ⟨.store 2 (.t 11) (.t 44),none,none⟩] [0,3,5,7,10,11])
 (.seq (.reg [⟨.fad 45 (.t 11) 1,none,none⟩,
  ⟨.load 46 none (.t 45),none,none⟩,
  ⟨.len 47 (.t 46),none,none⟩,
  ⟨.mov 48 (.c (.int .i64 0)),none,none⟩] [0,3,5,7,10,11,46,47,48])
 (.block 4 (.loop [0,3,5,7,10,11,46,47,48] pjb)))))
 (.reg [⟨.mov 35 (.t 10),none,none⟩,
  ⟨.bin 36 .add (.t 35) (.c (.int .i64 1)),none,none⟩,
  ⟨.mov 10 (.t 36),none,none⟩] [0,3,5,7,10]))
def ikc:VC:= .seq (.reg [⟨.box 3 (.t 1),none,none⟩,
    ⟨.mov 4 (.nl nz),none,none⟩] [0,3])
 (.seq (.reg [⟨.bsl 14 nz 1 [.v (.int .i64 0)] 0 [],none,none⟩,
  ⟨.alloc 5 [.nl nz],none,none⟩,
  ⟨.store 1 (.t 5) (.t 14),none,none⟩] [0,3,5])
 (.seq (.reg [⟨.fad 15 (.t 3) 1,none,none⟩,
  ⟨.load 16 none (.t 15),none,none⟩,
  ⟨.len 17 (.t 16),none,none⟩,
  ⟨.mks 18 tqc 1 [.v (.bool false)] (.t 17),none,none⟩,
  ⟨.alloc 6 [.nl tqc],none,none⟩,
  ⟨.store 1 (.t 6) (.t 18),none,none⟩] [0,3,5,6])
 (.seq (.reg [⟨.mkf 19 ezb [] [(.t 6),(.t 5)],none,none⟩,
  ⟨.mov 7 (.t 19),none,none⟩] [0,3,5,7])
 (.seq (.seq (.reg [⟨.fad 20 (.t 3) 0,none,none⟩,
  ⟨.load 21 none (.t 20),none,none⟩,
  ⟨.len 22 (.t 21),none,none⟩,
  ⟨.mov 23 (.c (.int .i64 0)),none,none⟩] [0,3,5,7,21,22,23])
 (.block 0 (.loop [0,3,5,7,21,22,23] uk)))
 (.seq (.seq (.reg [⟨.mov 10 (.c (.int .i64 0)),none,none⟩] [0,3,5,7,10])
 (.block 2 (.loop [0,3,5,7,10] qjb)))
 (.seq (.reg [⟨.load 65 none (.t 5),none,none⟩,
  ⟨.mov 4 (.t 65),none,none⟩] [4])
 (.ret)))))))
def czb:Fn:=⟨[.ro 0,.ro 0],false,false,[.t 4],ikc⟩
def fkb:VC:= .seq (.seq (.reg [⟨.mov 18 (.t 7),none,none⟩,
    ⟨.fad 19 (.t 3) 0,none,none⟩,
    ⟨.load 20 none (.t 19),none,none⟩,
    ⟨.len 21 (.t 20),none,none⟩,
    ⟨.bin 22 .lss (.t 18) (.t 21),none,none⟩] [0,3,5,6,7,22])
 (.cond (.t 22)
 (.skip)
 (.exit 0)))
 (.seq (.block 1 (.seq (.reg [⟨.fad 25 (.t 3) 0,none,none⟩,
  ⟨.load 26 none (.t 25),none,none⟩,
  ⟨.mov 27 (.t 7),none,none⟩,
  ⟨.iad 28 nz 1 (.t 26) (.t 27),none,none⟩,
  ⟨.load 29 none (.t 28),none,none⟩,
  ⟨.bin 30 .sub (.t 29) (.c (.int .i64 1)),none,none⟩,
  ⟨.mov 8 (.t 30),none,none⟩] [0,3,5,6,7,8])
 (.seq (.reg [⟨.mov 31 (.t 8),none,none⟩,
  ⟨.bin 32 .geq (.t 31) (.c (.int .i64 0)),none,none⟩,
  ⟨.mov 33 (.t 32),none,none⟩,
  ⟨.mov 34 (.t 6),some (33,true),(some 34)⟩,
  ⟨.mov 35 (.t 8),some (33,true),(some 35)⟩,
  ⟨.iad 36 tqc 1 (.t 34) (.t 35),some (33,true),(some 36)⟩,
  ⟨.load 37 none (.t 36),some (33,true),(some 37)⟩,
  ⟨.un 38 .not (.t 37),some (33,true),(some 38)⟩,
  ⟨.pick 39 (.t 33) (.t 38) (.c (.bool false)),none,none⟩] [0,3,5,6,7,8,39])
 (.cond (.t 39)
 (.seq (.reg [⟨.mov 40 (.t 6),none,none⟩,
  ⟨.mov 41 (.t 8),none,none⟩,
  ⟨.iad 42 tqc 1 (.t 40) (.t 41),none,none⟩,
  ⟨.store 1 (.t 42) (.c (.bool true)),none,none⟩] [0,3,5,6,7,8])
 (.reg [⟨.mov 43 (.t 5),none,none⟩,
  ⟨.mov 44 (.t 8),none,none⟩,
  ⟨.bsl 45 nz 1 [.v (.int .i64 0)] 1 [(0,(.t 44))],none,none⟩,
  ⟨.app 46 nz 8 true (.t 43) (.t 45),none,none⟩,
  ⟨.mov 5 (.t 46),none,none⟩] [0,3,5,6,7]))
 (.skip)))))
 (.reg [⟨.mov 23 (.t 7),none,none⟩,
  ⟨.bin 24 .add (.t 23) (.c (.int .i64 1)),none,none⟩,
  ⟨.mov 7 (.t 24),none,none⟩] [0,3,5,6,7]))
def dkb:VC:= .seq (.seq (.reg [⟨.mov 61 (.t 11),none,none⟩,
    ⟨.fad 62 (.t 10) 1,none,none⟩,
    ⟨.load 63 none (.t 62),none,none⟩,
    ⟨.len 64 (.t 63),none,none⟩,
    ⟨.bin 65 .lss (.t 61) (.t 64),none,none⟩] [0,3,5,6,9,10,11,65])
 (.cond (.t 65)
 (.skip)
 (.exit 4)))
 (.seq (.block 5 (.seq (.seq (.reg [⟨.mov 68 (.t 0),none,none⟩,
  ⟨.fad 69 (.t 10) 0,none,none⟩,
  ⟨.load 70 none (.t 69),none,none⟩,
  ⟨.iad 71 lz 1 (.t 68) (.t 70),none,none⟩,
  ⟨.load 72 none (.t 71),none,none⟩,
  ⟨.mov 73 (.t 11),none,none⟩,
  ⟨.ix 74 (.t 72) (.t 73),none,none⟩,
  ⟨.bin 75 .neq (.t 74) (.c (.int .u8 114)),none,none⟩] [0,3,5,6,9,10,11,75])
 (.cond (.t 75)
 (.exit 5)
 (.skip)))
 (.seq (.reg [⟨.fad 76 (.t 10) 1,none,none⟩,
  ⟨.load 77 none (.t 76),none,none⟩,
  ⟨.mov 78 (.t 11),none,none⟩,
  ⟨.iad 79 nz 1 (.t 77) (.t 78),none,none⟩,
  ⟨.load 80 none (.t 79),none,none⟩,
  ⟨.bin 81 .sub (.t 80) (.c (.int .i64 1)),none,none⟩,
  ⟨.mov 12 (.t 81),none,none⟩] [0,3,5,6,9,10,11,12])
 (.seq (.reg [⟨.mov 82 (.t 12),none,none⟩,
  ⟨.bin 83 .geq (.t 82) (.c (.int .i64 0)),none,none⟩,
  ⟨.mov 84 (.t 83),none,none⟩,
  ⟨.mov 85 (.t 6),some (84,true),(some 85)⟩,
  ⟨.mov 86 (.t 12),some (84,true),(some 86)⟩,
  ⟨.iad 87 tqc 1 (.t 85) (.t 86),some (84,true),(some 87)⟩,
  ⟨.load 88 none (.t 87),some (84,true),(some 88)⟩,
  ⟨.un 89 .not (.t 88),some (84,true),(some 89)⟩,
  ⟨.pick 90 (.t 84) (.t 89) (.c (.bool false)),none,none⟩] [0,3,5,6,9,10,11,12,90])
 (.cond (.t 90)
 (.seq (.reg [⟨.mov 91 (.t 6),none,none⟩,
  ⟨.mov 92 (.t 12),none,none⟩,
  ⟨.iad 93 tqc 1 (.t 91) (.t 92),none,none⟩,
  ⟨.store 1 (.t 93) (.c (.bool true)),none,none⟩] [0,3,5,6,9,10,11,12])
 (.reg [⟨.mov 94 (.t 5),none,none⟩,
  ⟨.mov 95 (.t 12),none,none⟩,
  ⟨.bsl 96 nz 1 [.v (.int .i64 0)] 1 [(0,(.t 95))],none,none⟩,
  ⟨.app 97 nz 8 true (.t 94) (.t 96),none,none⟩,
  ⟨.mov 5 (.t 97),none,none⟩] [0,3,5,6,9,10,11]))
 (.skip))))))
 (.reg [⟨.mov 66 (.t 11),none,none⟩,
  ⟨.bin 67 .add (.t 66) (.c (.int .i64 1)),none,none⟩,
  ⟨.mov 11 (.t 67),none,none⟩] [0,3,5,6,9,10,11]))
def ekb:VC:= .seq (.seq (.reg [⟨.mov 47 (.t 9),none,none⟩,
    ⟨.mov 48 (.t 5),none,none⟩,
    ⟨.len 49 (.t 48),none,none⟩,
    ⟨.bin 50 .lss (.t 47) (.t 49),none,none⟩] [0,3,5,6,9,50])
 (.cond (.t 50)
 (.skip)
 (.exit 2)))
 (.seq (.block 3 (.seq (.reg [⟨.fad 53 (.t 3) 1,none,none⟩,
  ⟨.load 54 none (.t 53),none,none⟩,
  ⟨.mov 55 (.t 5),none,none⟩,
  ⟨.mov 56 (.t 9),none,none⟩,
  ⟨.iad 57 nz 1 (.t 55) (.t 56),none,none⟩,
  ⟨.load 58 none (.t 57),none,none⟩,
  ⟨.iad 59 gz 2 (.t 54) (.t 58),none,none⟩,
  ⟨.load 60 (some 2) (.t 59),none,none⟩,
  ⟨.alloc 10 [.v (.int .i64 0),.nl nz],none,none⟩,
  ⟨.store 2 (.t 10) (.t 60),none,none⟩] [0,3,5,6,9,10])
 (.seq (.reg [⟨.mov 11 (.c (.int .i64 0)),none,none⟩] [0,3,5,6,9,10,11])
 (.block 4 (.loop [0,3,5,6,9,10,11] dkb)))))
 (.reg [⟨.mov 51 (.t 9),none,none⟩,
  ⟨.bin 52 .add (.t 51) (.c (.int .i64 1)),none,none⟩,
  ⟨.mov 9 (.t 52),none,none⟩] [0,3,5,6,9]))
def iqd:VC:= .seq (.reg [⟨.box 3 (.t 1),none,none⟩,
    ⟨.mov 4 (.nl nz),none,none⟩] [0,3])
 (.seq (.reg [⟨.bsl 13 nz 1 [.v (.int .i64 0)] 0 [],none,none⟩,
  ⟨.mov 5 (.t 13),none,none⟩] [0,3,5])
 (.seq (.reg [⟨.fad 14 (.t 3) 1,none,none⟩,
  ⟨.load 15 none (.t 14),none,none⟩,
  ⟨.len 16 (.t 15),none,none⟩,
  ⟨.mks 17 tqc 1 [.v (.bool false)] (.t 16),none,none⟩,
  ⟨.mov 6 (.t 17),none,none⟩] [0,3,5,6])
 (.seq (.seq (.reg [⟨.mov 7 (.c (.int .i64 0)),none,none⟩] [0,3,5,6,7])
 (.block 0 (.loop [0,3,5,6,7] fkb)))
 (.seq (.seq (.reg [⟨.mov 9 (.c (.int .i64 0)),none,none⟩] [0,3,5,6,9])
 (.block 2 (.loop [0,3,5,6,9] ekb)))
 (.seq (.reg [⟨.mov 98 (.t 5),none,none⟩,
  ⟨.mov 4 (.t 98),none,none⟩] [4])
 (.ret))))))
def rqb:Fn:=⟨[.ro 0,.ro 0],false,false,[.t 4],iqd⟩
def ajc:VC:= .seq (.reg [⟨.bin 28 .lss (.t 27) (.t 26),none,none⟩] [0,3,4,5,6,25,26,27,28])
 (.seq (.cond (.t 28)
 (.skip)
 (.exit 0))
 (.seq (.block 1 (.seq (.reg [⟨.mov 29 (.t 27),none,none⟩,
  ⟨.iad 30 nz 1 (.t 25) (.t 27),none,none⟩,
  ⟨.load 31 none (.t 30),none,none⟩,
  ⟨.mov 7 (.t 29),none,none⟩,
  ⟨.mov 8 (.t 31),none,none⟩] [0,3,4,5,6,7,8,25,26,27])
 (.reg [⟨.mov 32 (.t 6),none,none⟩,
  ⟨.mov 33 (.t 8),none,none⟩,
  ⟨.bin 34 .add (.t 33) (.c (.int .i64 1)),none,none⟩,
  ⟨.mov 35 (.t 7),none,none⟩,
  ⟨.bin 36 .add (.t 35) (.c (.int .i64 1)),none,none⟩,
  ⟨.iad 37 nz 1 (.t 32) (.t 34),none,none⟩,
  ⟨.store 1 (.t 37) (.t 36),none,none⟩] [0,3,4,5,6,25,26,27])))
 (.reg [⟨.bin 38 .add (.t 27) (.c (.int .i64 1)),none,none⟩,
  ⟨.mov 27 (.t 38),none,none⟩] [0,3,4,5,6,25,26,27])))
def zzc:VC:= .seq (.reg [⟨.bin 44 .lss (.t 43) (.t 42),none,none⟩] [0,3,4,5,6,9,41,42,43,44])
 (.seq (.cond (.t 44)
 (.skip)
 (.exit 2))
 (.seq (.block 3 (.seq (.reg [⟨.iad 45 nz 1 (.t 41) (.t 43),none,none⟩,
  ⟨.load 46 none (.t 45),none,none⟩,
  ⟨.mov 11 (.t 46),none,none⟩] [0,3,4,5,6,9,11,41,42,43])
 (.reg [⟨.fad 47 (.t 9) 0,none,none⟩,
  ⟨.load 48 none (.t 47),none,none⟩,
  ⟨.mov 49 (.t 6),none,none⟩,
  ⟨.mov 50 (.t 11),none,none⟩,
  ⟨.iad 51 nz 1 (.t 49) (.t 50),none,none⟩,
  ⟨.load 52 none (.t 51),none,none⟩,
  ⟨.bsl 53 nz 1 [.v (.int .i64 0)] 1 [(0,(.t 52))],none,none⟩,
  ⟨.app 54 nz 8 true (.t 48) (.t 53),none,none⟩,
  ⟨.fad 55 (.t 9) 0,none,none⟩,
  ⟨.store 1 (.t 55) (.t 54),none,none⟩] [0,3,4,5,6,9,41,42,43])))
 (.reg [⟨.bin 56 .add (.t 43) (.c (.int .i64 1)),none,none⟩,
  ⟨.mov 43 (.t 56),none,none⟩] [0,3,4,5,6,9,41,42,43])))
def xzc:VC:= .seq (.reg [⟨.bin 81 .lss (.t 80) (.t 79),none,none⟩] [0,3,4,6,9,14,57,58,59,78,79,80,81])
 (.seq (.cond (.t 81)
 (.skip)
 (.exit 6))
 (.seq (.block 7 (.seq (.reg [⟨.mov 82 (.t 80),none,none⟩,
  ⟨.iad 83 nz 1 (.t 78) (.t 80),none,none⟩,
  ⟨.load 84 none (.t 83),none,none⟩,
  ⟨.mov 15 (.t 82),none,none⟩,
  ⟨.mov 16 (.t 84),none,none⟩] [0,3,4,6,9,14,15,16,57,58,59,78,79,80])
 (.seq (.reg [⟨.mov 85 (.t 0),none,none⟩,
  ⟨.fad 86 (.t 14) 0,none,none⟩,
  ⟨.load 87 none (.t 86),none,none⟩,
  ⟨.iad 88 lz 1 (.t 85) (.t 87),none,none⟩,
  ⟨.load 89 none (.t 88),none,none⟩,
  ⟨.mov 90 (.t 15),none,none⟩,
  ⟨.ix 91 (.t 89) (.t 90),none,none⟩,
  ⟨.bin 92 .eql (.t 91) (.c (.int .u8 114)),none,none⟩] [0,3,4,6,9,14,15,16,57,58,59,78,79,80,92])
 (.cond (.t 92)
 (.reg [⟨.fad 93 (.t 14) 1,none,none⟩,
  ⟨.load 94 none (.t 93),none,none⟩,
  ⟨.mov 95 (.t 15),none,none⟩,
  ⟨.mov 96 (.t 6),none,none⟩,
  ⟨.mov 97 (.t 16),none,none⟩,
  ⟨.iad 98 nz 1 (.t 96) (.t 97),none,none⟩,
  ⟨.load 99 none (.t 98),none,none⟩,
  ⟨.iad 100 nz 1 (.t 94) (.t 95),none,none⟩,
  ⟨.store 1 (.t 100) (.t 99),none,none⟩] [0,3,4,6,9,14,57,58,59,78,79,80])
 (.skip)))))
 (.reg [⟨.bin 101 .add (.t 80) (.c (.int .i64 1)),none,none⟩,
  ⟨.mov 80 (.t 101),none,none⟩] [0,3,4,6,9,14,57,58,59,78,79,80])))
def yzc:VC:= .seq (.reg [⟨.bin 60 .lss (.t 59) (.t 58),none,none⟩] [0,3,4,6,9,57,58,59,60])
 (.seq (.cond (.t 60)
 (.skip)
 (.exit 4))
 (.seq (.block 5 (.seq (.reg [⟨.iad 61 nz 1 (.t 57) (.t 59),none,none⟩,
  ⟨.load 62 none (.t 61),none,none⟩,
  ⟨.mov 13 (.t 62),none,none⟩] [0,3,4,6,9,13,57,58,59])
 (.seq (.reg [⟨.fad 63 (.t 3) 1,none,none⟩,
  ⟨.load 64 none (.t 63),none,none⟩,
  ⟨.mov 65 (.t 13),none,none⟩,
  ⟨.iad 66 gz 2 (.t 64) (.t 65),none,none⟩,
  ⟨.fad 67 (.t 66) 0,none,none⟩,
  ⟨.load 68 none (.t 67),none,none⟩,
  ⟨.fad 69 (.t 3) 1,none,none⟩,
  ⟨.load 70 none (.t 69),none,none⟩,
  ⟨.mov 71 (.t 13),none,none⟩,
  ⟨.iad 72 gz 2 (.t 70) (.t 71),none,none⟩,
  ⟨.fad 73 (.t 72) 1,none,none⟩,
  ⟨.load 74 none (.t 73),none,none⟩,
  ⟨.call (some 75) kzb [(.t 74)],none,none⟩,
  ⟨.build 76 [.v (.int .i64 0),.nl nz] [(0,1,(.t 68)),(1,1,(.t 75))],none,none⟩,
  ⟨.alloc 14 [.v (.int .i64 0),.nl nz],none,none⟩,
  ⟨.store 2 (.t 14) (.t 76),none,none⟩] [0,3,4,6,9,14,57,58,59])
 (.seq (.seq (.reg [⟨.fad 77 (.t 14) 1,none,none⟩,
  ⟨.load 78 none (.t 77),none,none⟩,
  ⟨.len 79 (.t 78),none,none⟩,
  ⟨.mov 80 (.c (.int .i64 0)),none,none⟩] [0,3,4,6,9,14,57,58,59,78,79,80])
 (.block 6 (.loop [0,3,4,6,9,14,57,58,59,78,79,80] xzc)))
 (.reg [⟨.fad 102 (.t 9) 1,none,none⟩,
  ⟨.load 103 none (.t 102),none,none⟩,
  ⟨.load 104 (some 2) (.t 14),none,none⟩,
  ⟨.bsl 105 gz 2 [.v (.int .i64 0),.nl nz] 1 [(0,(.t 104))],none,none⟩,
  ⟨.app 106 gz 32 true (.t 103) (.t 105),none,none⟩,
  ⟨.fad 107 (.t 9) 1,none,none⟩,
  ⟨.store 1 (.t 107) (.t 106),none,none⟩] [0,3,4,6,9,57,58,59])))))
 (.reg [⟨.bin 108 .add (.t 59) (.c (.int .i64 1)),none,none⟩,
  ⟨.mov 59 (.t 108),none,none⟩] [0,3,4,6,9,57,58,59])))
def gje:VC:= .seq (.reg [⟨.box 3 (.t 1),none,none⟩,
    ⟨.alloc 4 [.nl nz,.nl gz],none,none⟩] [0,3,4])
 (.seq (.reg [⟨.mov 17 (.t 0),none,none⟩,
  ⟨.load 18 (some 2) (.t 3),none,none⟩,
  ⟨.call (some 19) wxb [(.t 17),(.t 18)],none,none⟩,
  ⟨.mov 5 (.t 19),none,none⟩] [0,3,4,5])
 (.seq (.reg [⟨.fad 20 (.t 3) 1,none,none⟩,
  ⟨.load 21 none (.t 20),none,none⟩,
  ⟨.len 22 (.t 21),none,none⟩,
  ⟨.bin 23 .add (.t 22) (.c (.int .i64 1)),none,none⟩,
  ⟨.mks 24 nz 8 [.v (.int .i64 0)] (.t 23),none,none⟩,
  ⟨.mov 6 (.t 24),none,none⟩] [0,3,4,5,6])
 (.seq (.seq (.reg [⟨.mov 25 (.t 5),none,none⟩,
  ⟨.len 26 (.t 25),none,none⟩,
  ⟨.mov 27 (.c (.int .i64 0)),none,none⟩] [0,3,4,5,6,25,26,27])
 (.block 0 (.loop [0,3,4,5,6,25,26,27] ajc)))
 (.seq (.reg [⟨.build 39 [.nl nz,.nl gz] [],none,none⟩,
  ⟨.alloc 9 [.nl nz,.nl gz],none,none⟩,
  ⟨.store 2 (.t 9) (.t 39),none,none⟩] [0,3,4,5,6,9])
 (.seq (.seq (.reg [⟨.fad 40 (.t 3) 0,none,none⟩,
  ⟨.load 41 none (.t 40),none,none⟩,
  ⟨.len 42 (.t 41),none,none⟩,
  ⟨.mov 43 (.c (.int .i64 0)),none,none⟩] [0,3,4,5,6,9,41,42,43])
 (.block 2 (.loop [0,3,4,5,6,9,41,42,43] zzc)))
 (.seq (.seq (.reg [⟨.mov 57 (.t 5),none,none⟩,
  ⟨.len 58 (.t 57),none,none⟩,
  ⟨.mov 59 (.c (.int .i64 0)),none,none⟩] [0,3,4,6,9,57,58,59])
 (.block 4 (.loop [0,3,4,6,9,57,58,59] yzc)))
 (.seq (.reg [⟨.load 109 (some 2) (.t 9),none,none⟩,
  ⟨.store 2 (.t 4) (.t 109),none,none⟩] [4])
 (.ret))))))))
def jzc:Fn:=⟨[.ro 0,.ro 0],false,false,[.cell 4 (some 2)],gje⟩
def bkb:VC:= .seq (.seq (.reg [⟨.mov 17 (.t 7),none,none⟩,
    ⟨.fad 18 (.t 3) 0,none,none⟩,
    ⟨.load 19 none (.t 18),none,none⟩,
    ⟨.len 20 (.t 19),none,none⟩,
    ⟨.bin 21 .lss (.t 17) (.t 20),none,none⟩] [0,3,4,5,6,7,21])
 (.cond (.t 21)
 (.skip)
 (.exit 0)))
 (.seq (.block 1 (.reg [⟨.fad 24 (.t 6) 0,none,none⟩,
  ⟨.load 25 none (.t 24),none,none⟩,
  ⟨.mov 26 (.t 5),none,none⟩,
  ⟨.fad 27 (.t 3) 0,none,none⟩,
  ⟨.load 28 none (.t 27),none,none⟩,
  ⟨.mov 29 (.t 7),none,none⟩,
  ⟨.iad 30 nz 1 (.t 28) (.t 29),none,none⟩,
  ⟨.load 31 none (.t 30),none,none⟩,
  ⟨.bin 32 .sub (.t 31) (.c (.int .i64 1)),none,none⟩,
  ⟨.call (some 33) pkb [(.t 26),(.t 32)],none,none⟩,
  ⟨.bin 34 .add (.t 33) (.c (.int .i64 1)),none,none⟩,
  ⟨.bsl 35 nz 1 [.v (.int .i64 0)] 1 [(0,(.t 34))],none,none⟩,
  ⟨.app 36 nz 8 true (.t 25) (.t 35),none,none⟩,
  ⟨.fad 37 (.t 6) 0,none,none⟩,
  ⟨.store 1 (.t 37) (.t 36),none,none⟩] [0,3,4,5,6,7]))
 (.reg [⟨.mov 22 (.t 7),none,none⟩,
  ⟨.bin 23 .add (.t 22) (.c (.int .i64 1)),none,none⟩,
  ⟨.mov 7 (.t 23),none,none⟩] [0,3,4,5,6,7]))
def zxb:VC:= .seq (.seq (.reg [⟨.mov 55 (.t 11),none,none⟩,
    ⟨.fad 56 (.t 9) 1,none,none⟩,
    ⟨.load 57 none (.t 56),none,none⟩,
    ⟨.len 58 (.t 57),none,none⟩,
    ⟨.bin 59 .lss (.t 55) (.t 58),none,none⟩] [0,3,4,5,6,8,9,10,11,59])
 (.cond (.t 59)
 (.skip)
 (.exit 4)))
 (.seq (.block 5 (.seq (.reg [⟨.fad 62 (.t 9) 1,none,none⟩,
  ⟨.load 63 none (.t 62),none,none⟩,
  ⟨.mov 64 (.t 11),none,none⟩,
  ⟨.iad 65 nz 1 (.t 63) (.t 64),none,none⟩,
  ⟨.load 66 none (.t 65),none,none⟩,
  ⟨.mov 12 (.t 66),none,none⟩] [0,3,4,5,6,8,9,10,11,12])
 (.seq (.seq (.reg [⟨.mov 67 (.t 0),none,none⟩,
  ⟨.fad 68 (.t 9) 0,none,none⟩,
  ⟨.load 69 none (.t 68),none,none⟩,
  ⟨.iad 70 lz 1 (.t 67) (.t 69),none,none⟩,
  ⟨.load 71 none (.t 70),none,none⟩,
  ⟨.mov 72 (.t 11),none,none⟩,
  ⟨.ix 73 (.t 71) (.t 72),none,none⟩,
  ⟨.bin 74 .eql (.t 73) (.c (.int .u8 114)),none,none⟩] [0,3,4,5,6,8,9,10,11,12,74])
 (.cond (.t 74)
 (.reg [⟨.mov 75 (.t 5),none,none⟩,
  ⟨.mov 76 (.t 12),none,none⟩,
  ⟨.bin 77 .sub (.t 76) (.c (.int .i64 1)),none,none⟩,
  ⟨.call (some 78) pkb [(.t 75),(.t 77)],none,none⟩,
  ⟨.bin 79 .add (.t 78) (.c (.int .i64 1)),none,none⟩,
  ⟨.mov 12 (.t 79),none,none⟩] [0,3,4,5,6,8,9,10,11,12])
 (.skip)))
 (.reg [⟨.fad 80 (.t 10) 1,none,none⟩,
  ⟨.load 81 none (.t 80),none,none⟩,
  ⟨.mov 82 (.t 12),none,none⟩,
  ⟨.bsl 83 nz 1 [.v (.int .i64 0)] 1 [(0,(.t 82))],none,none⟩,
  ⟨.app 84 nz 8 true (.t 81) (.t 83),none,none⟩,
  ⟨.fad 85 (.t 10) 1,none,none⟩,
  ⟨.store 1 (.t 85) (.t 84),none,none⟩] [0,3,4,5,6,8,9,10,11]))))
 (.reg [⟨.mov 60 (.t 11),none,none⟩,
  ⟨.bin 61 .add (.t 60) (.c (.int .i64 1)),none,none⟩,
  ⟨.mov 11 (.t 61),none,none⟩] [0,3,4,5,6,8,9,10,11]))
def akb:VC:= .seq (.seq (.reg [⟨.mov 38 (.t 8),none,none⟩,
    ⟨.mov 39 (.t 5),none,none⟩,
    ⟨.len 40 (.t 39),none,none⟩,
    ⟨.bin 41 .lss (.t 38) (.t 40),none,none⟩] [0,3,4,5,6,8,41])
 (.cond (.t 41)
 (.skip)
 (.exit 2)))
 (.seq (.block 3 (.seq (.reg [⟨.fad 44 (.t 3) 1,none,none⟩,
  ⟨.load 45 none (.t 44),none,none⟩,
  ⟨.mov 46 (.t 5),none,none⟩,
  ⟨.mov 47 (.t 8),none,none⟩,
  ⟨.iad 48 nz 1 (.t 46) (.t 47),none,none⟩,
  ⟨.load 49 none (.t 48),none,none⟩,
  ⟨.iad 50 gz 2 (.t 45) (.t 49),none,none⟩,
  ⟨.load 51 (some 2) (.t 50),none,none⟩,
  ⟨.alloc 9 [.v (.int .i64 0),.nl nz],none,none⟩,
  ⟨.store 2 (.t 9) (.t 51),none,none⟩] [0,3,4,5,6,8,9])
 (.seq (.reg [⟨.fad 52 (.t 9) 0,none,none⟩,
  ⟨.load 53 none (.t 52),none,none⟩,
  ⟨.build 54 [.v (.int .i64 0),.nl nz] [(0,1,(.t 53))],none,none⟩,
  ⟨.alloc 10 [.v (.int .i64 0),.nl nz],none,none⟩,
  ⟨.store 2 (.t 10) (.t 54),none,none⟩] [0,3,4,5,6,8,9,10])
 (.seq (.seq (.reg [⟨.mov 11 (.c (.int .i64 0)),none,none⟩] [0,3,4,5,6,8,9,10,11])
 (.block 4 (.loop [0,3,4,5,6,8,9,10,11] zxb)))
 (.reg [⟨.fad 86 (.t 6) 1,none,none⟩,
  ⟨.load 87 none (.t 86),none,none⟩,
  ⟨.load 88 (some 2) (.t 10),none,none⟩,
  ⟨.bsl 89 gz 2 [.v (.int .i64 0),.nl nz] 1 [(0,(.t 88))],none,none⟩,
  ⟨.app 90 gz 32 true (.t 87) (.t 89),none,none⟩,
  ⟨.fad 91 (.t 6) 1,none,none⟩,
  ⟨.store 1 (.t 91) (.t 90),none,none⟩] [0,3,4,5,6,8])))))
 (.reg [⟨.mov 42 (.t 8),none,none⟩,
  ⟨.bin 43 .add (.t 42) (.c (.int .i64 1)),none,none⟩,
  ⟨.mov 8 (.t 43),none,none⟩] [0,3,4,5,6,8]))
def hqd:VC:= .seq (.reg [⟨.box 3 (.t 1),none,none⟩,
    ⟨.alloc 4 [.nl nz,.nl gz],none,none⟩] [0,3,4])
 (.seq (.reg [⟨.mov 13 (.t 0),none,none⟩,
  ⟨.load 14 (some 2) (.t 3),none,none⟩,
  ⟨.call (some 15) jjc [(.t 13),(.t 14)],none,none⟩,
  ⟨.mov 5 (.t 15),none,none⟩] [0,3,4,5])
 (.seq (.reg [⟨.build 16 [.nl nz,.nl gz] [],none,none⟩,
  ⟨.alloc 6 [.nl nz,.nl gz],none,none⟩,
  ⟨.store 2 (.t 6) (.t 16),none,none⟩] [0,3,4,5,6])
 (.seq (.seq (.reg [⟨.mov 7 (.c (.int .i64 0)),none,none⟩] [0,3,4,5,6,7])
 (.block 0 (.loop [0,3,4,5,6,7] bkb)))
 (.seq (.seq (.reg [⟨.mov 8 (.c (.int .i64 0)),none,none⟩] [0,3,4,5,6,8])
 (.block 2 (.loop [0,3,4,5,6,8] akb)))
 (.seq (.reg [⟨.load 92 (some 2) (.t 6),none,none⟩,
  ⟨.store 2 (.t 4) (.t 92),none,none⟩] [4])
 (.ret))))))
def qqb:Fn:=⟨[.ro 0,.ro 0],false,false,[.cell 4 (some 2)],hqd⟩
def xqc:VC:= .seq (.reg [⟨.mov 4 (.c (.int .i64 0)),none,none⟩] [0,1])
 (.seq (.reg [⟨.mov 5 (.t 1),none,none⟩,
  ⟨.mov 6 (.t 0),none,none⟩,
  ⟨.len 7 (.t 6),none,none⟩,
  ⟨.bin 8 .sub (.t 5) (.t 7),none,none⟩,
  ⟨.mov 1 (.t 8),none,none⟩] [1])
 (.seq (.seq (.reg [⟨.mov 9 (.t 1),none,none⟩,
  ⟨.bin 10 .lss (.t 9) (.c (.int .i64 0)),none,none⟩] [1,10])
 (.cond (.t 10)
 (.seq (.reg [⟨.mov 4 (.c (.int .i64 (-1))),none,none⟩] [4])
 (.ret))
 (.skip)))
 (.seq (.reg [⟨.mov 11 (.t 1),none,none⟩,
  ⟨.mov 4 (.t 11),none,none⟩] [4])
 (.ret))))
def hzb:Fn:=⟨[.ro 0,.ro 0],false,true,[.t 4],xqc⟩
def uzb:VC:= .seq (.seq (.reg [⟨.mov 12 (.t 5),none,none⟩,
    ⟨.mov 13 (.t 0),none,none⟩,
    ⟨.len 14 (.t 13),none,none⟩,
    ⟨.bin 15 .lss (.t 12) (.t 14),none,none⟩] [0,1,5,15])
 (.cond (.t 15)
 (.skip)
 (.exit 0)))
 (.seq (.block 1 (.seq (.reg [⟨.mov 18 (.t 0),none,none⟩,
  ⟨.mov 19 (.t 5),none,none⟩,
  ⟨.iad 20 lk 2 (.t 18) (.t 19),none,none⟩,
  ⟨.load 21 (some 2) (.t 20),none,none⟩,
  ⟨.mov 22 (.t 1),none,none⟩,
  ⟨.call (some 23) ixc [(.t 21),(.t 22)],none,none⟩,
  ⟨.mov 1 (.t 23),none,none⟩] [0,1,5])
 (.seq (.reg [⟨.mov 24 (.t 1),none,none⟩,
  ⟨.bin 25 .lss (.t 24) (.c (.int .i64 0)),none,none⟩] [0,1,5,25])
 (.cond (.t 25)
 (.seq (.reg [⟨.mov 4 (.c (.int .i64 (-1))),none,none⟩] [4])
 (.ret))
 (.skip)))))
 (.reg [⟨.mov 16 (.t 5),none,none⟩,
  ⟨.bin 17 .add (.t 16) (.c (.int .i64 1)),none,none⟩,
  ⟨.mov 5 (.t 17),none,none⟩] [0,1,5]))
def pqc:VC:= .seq (.reg [⟨.mov 4 (.c (.int .i64 0)),none,none⟩] [0,1])
 (.seq (.reg [⟨.mov 6 (.t 1),none,none⟩,
  ⟨.mov 7 (.t 0),none,none⟩,
  ⟨.len 8 (.t 7),none,none⟩,
  ⟨.bin 9 .sub (.t 6) (.t 8),none,none⟩,
  ⟨.mov 1 (.t 9),none,none⟩] [0,1])
 (.seq (.seq (.reg [⟨.mov 10 (.t 1),none,none⟩,
  ⟨.bin 11 .lss (.t 10) (.c (.int .i64 0)),none,none⟩] [0,1,11])
 (.cond (.t 11)
 (.seq (.reg [⟨.mov 4 (.c (.int .i64 (-1))),none,none⟩] [4])
 (.ret))
 (.skip)))
 (.seq (.seq (.reg [⟨.mov 5 (.c (.int .i64 0)),none,none⟩] [0,1,5])
 (.block 0 (.loop [0,1,5] uzb)))
 (.seq (.reg [⟨.mov 26 (.t 1),none,none⟩,
  ⟨.mov 4 (.t 26),none,none⟩] [4])
 (.ret)))))
def yzb:Fn:=⟨[.ro 0,.ro 0],false,true,[.t 4],pqc⟩
def zqb:VC:= .seq (.seq (.reg [⟨.mov 8 (.t 4),none,none⟩,
    ⟨.mov 9 (.t 0),none,none⟩,
    ⟨.len 10 (.t 9),none,none⟩,
    ⟨.bin 11 .lss (.t 8) (.t 10),none,none⟩] [0,3,4,11])
 (.cond (.t 11)
 (.skip)
 (.exit 0)))
 (.seq (.block 1 (.reg [⟨.mov 14 (.t 3),none,none⟩,
  ⟨.mov 15 (.t 4),none,none⟩,
  ⟨.mov 16 (.t 0),none,none⟩,
  ⟨.mov 17 (.t 4),none,none⟩,
  ⟨.iad 18 nz 1 (.t 16) (.t 17),none,none⟩,
  ⟨.load 19 none (.t 18),none,none⟩,
  ⟨.iad 20 nz 1 (.t 14) (.t 15),none,none⟩,
  ⟨.store 1 (.t 20) (.t 19),none,none⟩] [0,3,4]))
 (.reg [⟨.mov 12 (.t 4),none,none⟩,
  ⟨.bin 13 .add (.t 12) (.c (.int .i64 1)),none,none⟩,
  ⟨.mov 4 (.t 13),none,none⟩] [0,3,4]))
def ajd:VC:= .seq (.reg [⟨.mov 2 (.nl nz),none,none⟩] [0])
 (.seq (.reg [⟨.mov 5 (.t 0),none,none⟩,
  ⟨.len 6 (.t 5),none,none⟩,
  ⟨.mks 7 nz 8 [.v (.int .i64 0)] (.t 6),none,none⟩,
  ⟨.mov 3 (.t 7),none,none⟩] [0,3])
 (.seq (.seq (.reg [⟨.mov 4 (.c (.int .i64 0)),none,none⟩] [0,3,4])
 (.block 0 (.loop [0,3,4] zqb)))
 (.seq (.reg [⟨.mov 21 (.t 3),none,none⟩,
  ⟨.mov 2 (.t 21),none,none⟩] [2])
 (.ret))))
def vjb:Fn:=⟨[.ro 0],false,false,[.t 2],ajd⟩
def vkb:VC:= .seq (.seq (.reg [⟨.mov 8 (.t 4),none,none⟩,
    ⟨.mov 9 (.t 0),none,none⟩,
    ⟨.len 10 (.t 9),none,none⟩,
    ⟨.bin 11 .lss (.t 8) (.t 10),none,none⟩] [0,3,4,11])
 (.cond (.t 11)
 (.skip)
 (.exit 0)))
 (.seq (.block 1 (.reg [⟨.mov 14 (.t 3),none,none⟩,
  ⟨.mov 15 (.t 4),none,none⟩,
  ⟨.mov 16 (.t 0),none,none⟩,
  ⟨.mov 17 (.t 4),none,none⟩,
  ⟨.iad 18 lk 2 (.t 16) (.t 17),none,none⟩,
  ⟨.load 19 (some 2) (.t 18),none,none⟩,
  ⟨.call (some 20) gxc [(.t 19)],none,none⟩,
  ⟨.iad 21 gz 2 (.t 14) (.t 15),none,none⟩,
  ⟨.store 2 (.t 21) (.t 20),none,none⟩] [0,3,4]))
 (.reg [⟨.mov 12 (.t 4),none,none⟩,
  ⟨.bin 13 .add (.t 12) (.c (.int .i64 1)),none,none⟩,
  ⟨.mov 4 (.t 13),none,none⟩] [0,3,4]))
def hkd:VC:= .seq (.reg [⟨.mov 2 (.nl gz),none,none⟩] [0])
 (.seq (.reg [⟨.mov 5 (.t 0),none,none⟩,
  ⟨.len 6 (.t 5),none,none⟩,
  ⟨.mks 7 gz 32 [.v (.int .i64 0),.nl nz] (.t 6),none,none⟩,
  ⟨.mov 3 (.t 7),none,none⟩] [0,3])
 (.seq (.seq (.reg [⟨.mov 4 (.c (.int .i64 0)),none,none⟩] [0,3,4])
 (.block 0 (.loop [0,3,4] vkb)))
 (.seq (.reg [⟨.mov 22 (.t 3),none,none⟩,
  ⟨.mov 2 (.t 22),none,none⟩] [2])
 (.ret))))
def xxb:Fn:=⟨[.ro 0],false,false,[.t 2],hkd⟩
def bxb:VC:= .seq (.seq (.reg [⟨.mov 11 (.t 5),none,none⟩,
    ⟨.mov 12 (.t 0),none,none⟩,
    ⟨.len 13 (.t 12),none,none⟩,
    ⟨.bin 14 .lss (.t 11) (.t 13),none,none⟩] [0,1,5,14])
 (.cond (.t 14)
 (.skip)
 (.exit 0)))
 (.seq (.block 1 (.seq (.reg [⟨.mov 17 (.t 0),none,none⟩,
  ⟨.mov 18 (.t 5),none,none⟩,
  ⟨.iad 19 nz 1 (.t 17) (.t 18),none,none⟩,
  ⟨.load 20 none (.t 19),none,none⟩,
  ⟨.mov 21 (.t 1),none,none⟩,
  ⟨.mov 22 (.t 5),none,none⟩,
  ⟨.iad 23 nz 1 (.t 21) (.t 22),none,none⟩,
  ⟨.load 24 none (.t 23),none,none⟩,
  ⟨.bin 25 .neq (.t 20) (.t 24),none,none⟩] [0,1,5,25])
 (.cond (.t 25)
 (.seq (.reg [⟨.mov 4 (.c (.bool false)),none,none⟩] [4])
 (.ret))
 (.skip))))
 (.reg [⟨.mov 15 (.t 5),none,none⟩,
  ⟨.bin 16 .add (.t 15) (.c (.int .i64 1)),none,none⟩,
  ⟨.mov 5 (.t 16),none,none⟩] [0,1,5]))
def ejd:VC:= .seq (.reg [⟨.mov 4 (.c (.bool false)),none,none⟩] [0,1])
 (.seq (.seq (.reg [⟨.mov 6 (.t 0),none,none⟩,
  ⟨.len 7 (.t 6),none,none⟩,
  ⟨.mov 8 (.t 1),none,none⟩,
  ⟨.len 9 (.t 8),none,none⟩,
  ⟨.bin 10 .neq (.t 7) (.t 9),none,none⟩] [0,1,10])
 (.cond (.t 10)
 (.seq (.reg [⟨.mov 4 (.c (.bool false)),none,none⟩] [4])
 (.ret))
 (.skip)))
 (.seq (.seq (.reg [⟨.mov 5 (.c (.int .i64 0)),none,none⟩] [0,1,5])
 (.block 0 (.loop [0,1,5] bxb)))
 (.seq (.reg [⟨.mov 4 (.c (.bool true)),none,none⟩] [4])
 (.ret))))
def yjb:Fn:=⟨[.ro 0,.ro 0],false,true,[.t 4],ejd⟩
def xkb:VC:= .seq (.seq (.reg [⟨.mov 11 (.t 5),none,none⟩,
    ⟨.mov 12 (.t 0),none,none⟩,
    ⟨.len 13 (.t 12),none,none⟩,
    ⟨.bin 14 .lss (.t 11) (.t 13),none,none⟩] [0,1,5,14])
 (.cond (.t 14)
 (.skip)
 (.exit 0)))
 (.seq (.block 1 (.seq (.reg [⟨.mov 17 (.t 0),none,none⟩,
  ⟨.mov 18 (.t 5),none,none⟩,
  ⟨.iad 19 gz 2 (.t 17) (.t 18),none,none⟩,
  ⟨.load 20 (some 2) (.t 19),none,none⟩,
  ⟨.mov 21 (.t 1),none,none⟩,
  ⟨.mov 22 (.t 5),none,none⟩,
  ⟨.iad 23 gz 2 (.t 21) (.t 22),none,none⟩,
  ⟨.load 24 (some 2) (.t 23),none,none⟩,
  ⟨.call (some 25) jxc [(.t 20),(.t 24)],none,none⟩,
  ⟨.un 26 .not (.t 25),none,none⟩] [0,1,5,26])
 (.cond (.t 26)
 (.seq (.reg [⟨.mov 4 (.c (.bool false)),none,none⟩] [4])
 (.ret))
 (.skip))))
 (.reg [⟨.mov 15 (.t 5),none,none⟩,
  ⟨.bin 16 .add (.t 15) (.c (.int .i64 1)),none,none⟩,
  ⟨.mov 5 (.t 16),none,none⟩] [0,1,5]))
def ikd:VC:= .seq (.reg [⟨.mov 4 (.c (.bool false)),none,none⟩] [0,1])
 (.seq (.seq (.reg [⟨.mov 6 (.t 0),none,none⟩,
  ⟨.len 7 (.t 6),none,none⟩,
  ⟨.mov 8 (.t 1),none,none⟩,
  ⟨.len 9 (.t 8),none,none⟩,
  ⟨.bin 10 .neq (.t 7) (.t 9),none,none⟩] [0,1,10])
 (.cond (.t 10)
 (.seq (.reg [⟨.mov 4 (.c (.bool false)),none,none⟩] [4])
 (.ret))
 (.skip)))
 (.seq (.seq (.reg [⟨.mov 5 (.c (.int .i64 0)),none,none⟩] [0,1,5])
 (.block 0 (.loop [0,1,5] xkb)))
 (.seq (.reg [⟨.mov 4 (.c (.bool true)),none,none⟩] [4])
 (.ret))))
def yxb:Fn:=⟨[.ro 0,.ro 0],false,true,[.t 4],ikd⟩
def axb:VC:= .seq (.seq (.reg [⟨.mov 6 (.t 0),none,none⟩,
    ⟨.bin 7 .gtr (.t 6) (.c (.int .i64 0)),none,none⟩] [0,3,7])
 (.cond (.t 7)
 (.skip)
 (.exit 0)))
 (.block 1 (.seq (.reg [⟨.mov 8 (.t 0),none,none⟩,
  ⟨.bin 9 .rem (.t 8) (.c (.int .i64 10)),none,none⟩,
  ⟨.bin 10 .add (.c (.int .i64 48)) (.t 9),none,none⟩,
  ⟨.cvi 11 .u8 (.t 10),none,none⟩,
  ⟨.bsl 12 t_u8 1 [.v (.int .u8 0)] 1 [(0,(.t 11))],none,none⟩,
  ⟨.b2s 13 t_u8 (.t 12),none,none⟩,
  ⟨.mov 14 (.t 3),none,none⟩,
  ⟨.bin 15 .add (.t 13) (.t 14),none,none⟩,
  ⟨.mov 3 (.t 15),none,none⟩] [0,3])
 (.reg [⟨.mov 16 (.t 0),none,none⟩,
  ⟨.bin 17 .quo (.t 16) (.c (.int .i64 10)),none,none⟩,
  ⟨.mov 0 (.t 17),none,none⟩] [0,3])))
def yqc:VC:= .seq (.reg [⟨.mov 2 (.c (.string ⟨#[]⟩)),none,none⟩] [0])
 (.seq (.seq (.reg [⟨.mov 4 (.t 0),none,none⟩,
  ⟨.bin 5 .leq (.t 4) (.c (.int .i64 0)),none,none⟩] [0,5])
 (.cond (.t 5)
 (.seq (.reg [⟨.mov 2 (.c (.string ⟨#[109,48]⟩)),none,none⟩] [2])
 (.ret))
 (.skip)))
 (.seq (.reg [⟨.mov 3 (.c (.string ⟨#[]⟩)),none,none⟩] [0,3])
 (.seq (.block 0 (.loop [0,3] axb))
 (.seq (.reg [⟨.mov 18 (.t 3),none,none⟩,
  ⟨.bin 19 .add (.c (.string ⟨#[109]⟩)) (.t 18),none,none⟩,
  ⟨.mov 2 (.t 19),none,none⟩] [2])
 (.ret)))))
def izb:Fn:=⟨[.ro 0],false,true,[.t 2],yqc⟩
def sk:VC:= .seq (.seq (.reg [⟨.mov 6 (.t 5),none,none⟩,
    ⟨.mov 7 (.t 0),none,none⟩,
    ⟨.len 8 (.t 7),none,none⟩,
    ⟨.bin 9 .lss (.t 6) (.t 8),none,none⟩] [0,1,5,9,10000])
 (.cond (.t 9)
 (.skip)
 (.exit 0)))
 (.seq (.block 1 (.seq (.reg [⟨.mov 12 (.t 0),none,none⟩,
  ⟨.mov 13 (.t 5),none,none⟩,
  ⟨.mov 14 (.t 1),none,none⟩,
  ⟨.iad 15 nz 1 (.t 12) (.t 13),none,none⟩,
  ⟨.store 1 (.t 15) (.t 14),none,none⟩] [0,1,5,10000])
 (.reg [⟨.mov 16 (.t 1),none,none⟩,
  ⟨.bin 17 .add (.t 16) (.c (.int .i64 1)),none,none⟩,
  ⟨.mov 1 (.t 17),none,none⟩] [0,1,5,10000])))
 (.reg [⟨.mov 10 (.t 5),none,none⟩,
  ⟨.bin 11 .add (.t 10) (.c (.int .i64 1)),none,none⟩,
  ⟨.mov 5 (.t 11),none,none⟩] [0,1,5,10000]))
def gkc:VC:= .seq (.reg [⟨.mov 4 (.c (.int .i64 0)),none,none⟩] [0,1,10000])
 (.seq (.seq (.reg [⟨.mov 5 (.c (.int .i64 0)),none,none⟩] [0,1,5,10000])
 (.block 0 (.loop [0,1,5,10000] sk)))
 (.seq (.reg [⟨.mov 18 (.t 1),none,none⟩,
  ⟨.mov 4 (.t 18),none,none⟩] [4,10000])
 (.ret)))
def azb:Fn:=⟨[.mut 0,.ro 0],false,true,[.t 4],gkc⟩
def djb:VC:= .seq (.seq (.reg [⟨.mov 6 (.t 5),none,none⟩,
    ⟨.mov 7 (.t 0),none,none⟩,
    ⟨.len 8 (.t 7),none,none⟩,
    ⟨.bin 9 .lss (.t 6) (.t 8),none,none⟩] [0,1,5,9,10000])
 (.cond (.t 9)
 (.skip)
 (.exit 0)))
 (.seq (.block 1 (.seq (.reg [⟨.mov 12 (.t 0),none,none⟩,
  ⟨.mov 13 (.t 5),none,none⟩,
  ⟨.mov 14 (.t 1),none,none⟩,
  ⟨.iad 15 gz 2 (.t 12) (.t 13),none,none⟩,
  ⟨.fad 16 (.t 15) 0,none,none⟩,
  ⟨.store 1 (.t 16) (.t 14),none,none⟩] [0,1,5,10000])
 (.seq (.reg [⟨.mov 17 (.t 1),none,none⟩,
  ⟨.bin 18 .add (.t 17) (.c (.int .i64 1)),none,none⟩,
  ⟨.mov 1 (.t 18),none,none⟩] [0,1,5,10000])
 (.reg [⟨.mov 19 (.t 0),none,none⟩,
  ⟨.mov 20 (.t 5),none,none⟩,
  ⟨.iad 21 gz 2 (.t 19) (.t 20),none,none⟩,
  ⟨.fad 22 (.t 21) 1,none,none⟩,
  ⟨.load 23 none (.t 22),none,none⟩,
  ⟨.mov 24 (.t 1),none,none⟩,
  ⟨.call (some 25) rjb [(.t 23),(.t 24)],none,none⟩,
  ⟨.mov 1 (.t 25),none,none⟩] [0,1,5,10000]))))
 (.reg [⟨.mov 10 (.t 5),none,none⟩,
  ⟨.bin 11 .add (.t 10) (.c (.int .i64 1)),none,none⟩,
  ⟨.mov 5 (.t 11),none,none⟩] [0,1,5,10000]))
def cjd:VC:= .seq (.reg [⟨.mov 4 (.c (.int .i64 0)),none,none⟩] [0,1,10000])
 (.seq (.seq (.reg [⟨.mov 5 (.c (.int .i64 0)),none,none⟩] [0,1,5,10000])
 (.block 0 (.loop [0,1,5,10000] djb)))
 (.seq (.reg [⟨.mov 26 (.t 1),none,none⟩,
  ⟨.mov 4 (.t 26),none,none⟩] [4,10000])
 (.ret)))
def wjb:Fn:=⟨[.mut 0,.ro 0],false,true,[.t 4],cjd⟩
def tk:VC:= .seq (.seq (.reg [⟨.mov 6 (.t 5),none,none⟩,
    ⟨.mov 7 (.t 0),none,none⟩,
    ⟨.len 8 (.t 7),none,none⟩,
    ⟨.bin 9 .lss (.t 6) (.t 8),none,none⟩] [0,1,5,9])
 (.cond (.t 9)
 (.skip)
 (.exit 0)))
 (.seq (.block 1 (.seq (.seq (.reg [⟨.mov 12 (.t 0),none,none⟩,
  ⟨.mov 13 (.t 5),none,none⟩,
  ⟨.iad 14 nz 1 (.t 12) (.t 13),none,none⟩,
  ⟨.load 15 none (.t 14),none,none⟩,
  ⟨.mov 16 (.t 1),none,none⟩,
  ⟨.bin 17 .neq (.t 15) (.t 16),none,none⟩] [0,1,5,17])
 (.cond (.t 17)
 (.seq (.reg [⟨.mov 4 (.c (.int .i64 (-1))),none,none⟩] [4])
 (.ret))
 (.skip)))
 (.reg [⟨.mov 18 (.t 1),none,none⟩,
  ⟨.bin 19 .add (.t 18) (.c (.int .i64 1)),none,none⟩,
  ⟨.mov 1 (.t 19),none,none⟩] [0,1,5])))
 (.reg [⟨.mov 10 (.t 5),none,none⟩,
  ⟨.bin 11 .add (.t 10) (.c (.int .i64 1)),none,none⟩,
  ⟨.mov 5 (.t 11),none,none⟩] [0,1,5]))
def hkc:VC:= .seq (.reg [⟨.mov 4 (.c (.int .i64 0)),none,none⟩] [0,1])
 (.seq (.seq (.reg [⟨.mov 5 (.c (.int .i64 0)),none,none⟩] [0,1,5])
 (.block 0 (.loop [0,1,5] tk)))
 (.seq (.reg [⟨.mov 20 (.t 1),none,none⟩,
  ⟨.mov 4 (.t 20),none,none⟩] [4])
 (.ret)))
def bzb:Fn:=⟨[.ro 0,.ro 0],false,true,[.t 4],hkc⟩
def ejb:VC:= .seq (.seq (.reg [⟨.mov 6 (.t 5),none,none⟩,
    ⟨.mov 7 (.t 0),none,none⟩,
    ⟨.len 8 (.t 7),none,none⟩,
    ⟨.bin 9 .lss (.t 6) (.t 8),none,none⟩] [0,1,5,9])
 (.cond (.t 9)
 (.skip)
 (.exit 0)))
 (.seq (.block 1 (.seq (.seq (.reg [⟨.mov 12 (.t 0),none,none⟩,
  ⟨.mov 13 (.t 5),none,none⟩,
  ⟨.iad 14 gz 2 (.t 12) (.t 13),none,none⟩,
  ⟨.fad 15 (.t 14) 0,none,none⟩,
  ⟨.load 16 none (.t 15),none,none⟩,
  ⟨.mov 17 (.t 1),none,none⟩,
  ⟨.bin 18 .neq (.t 16) (.t 17),none,none⟩] [0,1,5,18])
 (.cond (.t 18)
 (.seq (.reg [⟨.mov 4 (.c (.int .i64 (-1))),none,none⟩] [4])
 (.ret))
 (.skip)))
 (.seq (.reg [⟨.mov 19 (.t 1),none,none⟩,
  ⟨.bin 20 .add (.t 19) (.c (.int .i64 1)),none,none⟩,
  ⟨.mov 1 (.t 20),none,none⟩] [0,1,5])
 (.seq (.reg [⟨.mov 21 (.t 0),none,none⟩,
  ⟨.mov 22 (.t 5),none,none⟩,
  ⟨.iad 23 gz 2 (.t 21) (.t 22),none,none⟩,
  ⟨.fad 24 (.t 23) 1,none,none⟩,
  ⟨.load 25 none (.t 24),none,none⟩,
  ⟨.mov 26 (.t 1),none,none⟩,
  ⟨.call (some 27) sjb [(.t 25),(.t 26)],none,none⟩,
  ⟨.mov 1 (.t 27),none,none⟩] [0,1,5])
 (.seq (.reg [⟨.mov 28 (.t 1),none,none⟩,
  ⟨.bin 29 .lss (.t 28) (.c (.int .i64 0)),none,none⟩] [0,1,5,29])
 (.cond (.t 29)
 (.seq (.reg [⟨.mov 4 (.c (.int .i64 (-1))),none,none⟩] [4])
 (.ret))
 (.skip)))))))
 (.reg [⟨.mov 10 (.t 5),none,none⟩,
  ⟨.bin 11 .add (.t 10) (.c (.int .i64 1)),none,none⟩,
  ⟨.mov 5 (.t 11),none,none⟩] [0,1,5]))
def djd:VC:= .seq (.reg [⟨.mov 4 (.c (.int .i64 0)),none,none⟩] [0,1])
 (.seq (.seq (.reg [⟨.mov 5 (.c (.int .i64 0)),none,none⟩] [0,1,5])
 (.block 0 (.loop [0,1,5] ejb)))
 (.seq (.reg [⟨.mov 30 (.t 1),none,none⟩,
  ⟨.mov 4 (.t 30),none,none⟩] [4])
 (.ret)))
def xjb:Fn:=⟨[.ro 0,.ro 0],false,true,[.t 4],djd⟩
def xxc:VC:= .seq (.reg [⟨.mov 2 (.c (.bool false)),none,none⟩] [0])
 (.seq (.reg [⟨.mov 3 (.t 0),none,none⟩,
  ⟨.call (some 4) xzb [(.t 3)],none,none⟩,
  ⟨.call (some 5) cqb [(.t 4),(.c (.int .i64 1)),(.c (.int .i64 12))],none,none⟩,
  ⟨.mov 6 (.t 5),none,none⟩,
  ⟨.mov 7 (.t 0),some (6,true),(some 7)⟩,
  ⟨.call (some 8) eq [(.t 7),(.f sx)],some (6,true),(some 8)⟩,
  ⟨.un 9 .not (.t 8),some (6,true),(some 9)⟩,
  ⟨.pick 10 (.t 6) (.t 9) (.c (.bool false)),none,none⟩,
  ⟨.mov 2 (.t 10),none,none⟩] [2])
 (.ret))
def kjb:Fn:=⟨[.ro 0],false,true,[.t 2],xxc⟩
def ozd:VC:= .seq (.reg [⟨.mov 3 (.c (.bool false)),none,none⟩] [0,1])
 (.seq (.reg [⟨.load 4 (some 2) (.t 1),none,none⟩,
  ⟨.mov 5 (.t 0),none,none⟩,
  ⟨.call (some 6) pq [(.t 4),(.t 5)],none,none⟩,
  ⟨.un 7 .not (.t 6),none,none⟩,
  ⟨.mov 3 (.t 7),none,none⟩] [3])
 (.ret))
def tzb:Fn:=⟨[.ro 0,.ro 0],false,true,[.t 3],ozd⟩
def zqc:VC:= .seq (.reg [⟨.box 2 (.t 0),none,none⟩,
    ⟨.mov 4 (.c (.bool false)),none,none⟩] [1,2])
 (.seq (.reg [⟨.mov 5 (.t 1),none,none⟩,
  ⟨.fad 6 (.t 2) 1,none,none⟩,
  ⟨.load 7 none (.t 6),none,none⟩,
  ⟨.call (some 8) ojb [(.t 7)],none,none⟩,
  ⟨.call (some 9) cqb [(.t 5),(.c (.int .i64 0)),(.t 8)],none,none⟩,
  ⟨.mov 4 (.t 9),none,none⟩] [4])
 (.ret))
def dk:Fn:=⟨[.ro 0,.ro 0],false,true,[.t 4],zqc⟩
def bjb:VC:= .seq (.reg [⟨.mov 4 (.c (.bool false)),none,none⟩] [0,1])
 (.seq (.reg [⟨.mov 5 (.t 0),none,none⟩,
  ⟨.mov 6 (.t 1),none,none⟩,
  ⟨.call (some 7) uq [(.t 5),(.t 6)],none,none⟩,
  ⟨.bin 8 .geq (.t 7) (.c (.int .i64 0)),none,none⟩,
  ⟨.mov 4 (.t 8),none,none⟩] [4])
 (.ret))
def lj:Fn:=⟨[.ro 0,.ro 0],false,true,[.t 4],bjb⟩
def ik:VC:= .seq (.reg [⟨.mov 4 (.c (.bool false)),none,none⟩] [0,1])
 (.seq (.reg [⟨.mov 5 (.t 0),none,none⟩,
  ⟨.mov 6 (.t 1),none,none⟩,
  ⟨.call (some 7) aq [(.t 5),(.t 6)],none,none⟩,
  ⟨.bin 8 .geq (.t 7) (.c (.int .i64 0)),none,none⟩,
  ⟨.mov 4 (.t 8),none,none⟩] [4])
 (.ret))
def tz:Fn:=⟨[.ro 0,.ro 0],false,true,[.t 4],ik⟩
def nzd:VC:= .seq (.reg [⟨.box 3 (.t 0),none,none⟩,
    ⟨.mov 4 (.c (.bool false)),none,none⟩] [1,2,3])
 (.seq (.reg [⟨.load 5 none (.t 1),none,none⟩,
  ⟨.load 6 (some 2) (.t 3),none,none⟩,
  ⟨.load 7 (some 2) (.t 2),none,none⟩,
  ⟨.mkf 8 pq [(.t 7)] [],none,none⟩,
  ⟨.call (some 9) vzc [(.t 5),(.t 6),(.t 8)],none,none⟩,
  ⟨.un 10 .not (.t 9),none,none⟩,
  ⟨.mov 4 (.t 10),none,none⟩] [4])
 (.ret))
def szb:Fn:=⟨[.ro 0,.ro 0,.ro 0],false,true,[.t 4],nzd⟩
def cxb:VC:= .seq (.reg [⟨.bin 32 .lss (.t 31) (.t 30),none,none⟩] [0,2,4,29,30,31,32])
 (.seq (.cond (.t 32)
 (.skip)
 (.exit 0))
 (.seq (.block 1 (.seq (.reg [⟨.mov 33 (.t 31),none,none⟩,
  ⟨.iad 34 nz 1 (.t 29) (.t 31),none,none⟩,
  ⟨.load 35 none (.t 34),none,none⟩,
  ⟨.mov 7 (.t 33),none,none⟩,
  ⟨.mov 8 (.t 35),none,none⟩] [0,2,4,7,8,29,30,31])
 (.seq (.reg [⟨.mov 36 (.t 0),none,none⟩,
  ⟨.fad 37 (.t 4) 0,none,none⟩,
  ⟨.load 38 none (.t 37),none,none⟩,
  ⟨.iad 39 lz 1 (.t 36) (.t 38),none,none⟩,
  ⟨.load 40 none (.t 39),none,none⟩,
  ⟨.mov 41 (.t 7),none,none⟩,
  ⟨.ix 42 (.t 40) (.t 41),none,none⟩,
  ⟨.bin 43 .eql (.t 42) (.c (.int .u8 114)),none,none⟩,
  ⟨.mov 44 (.t 43),none,none⟩,
  ⟨.mov 45 (.t 2),some (44,true),(some 45)⟩,
  ⟨.mov 46 (.t 8),some (44,true),(some 46)⟩,
  ⟨.calv (some 47) (.t 45) [(.t 46)],some (44,true),(some 47)⟩,
  ⟨.un 48 .not (.t 47),some (44,true),(some 48)⟩,
  ⟨.pick 49 (.t 44) (.t 48) (.c (.bool false)),none,none⟩] [0,2,4,29,30,31,49])
 (.cond (.t 49)
 (.seq (.reg [⟨.mov 6 (.c (.bool false)),none,none⟩] [6])
 (.ret))
 (.skip)))))
 (.reg [⟨.bin 50 .add (.t 31) (.c (.int .i64 1)),none,none⟩,
  ⟨.mov 31 (.t 50),none,none⟩] [0,2,4,29,30,31])))
def rxb:VC:= .seq (.reg [⟨.box 4 (.t 1),none,none⟩,
    ⟨.mov 6 (.c (.bool false)),none,none⟩] [0,2,4])
 (.seq (.seq (.reg [⟨.fad 9 (.t 4) 0,none,none⟩,
  ⟨.load 10 none (.t 9),none,none⟩,
  ⟨.mov 11 (.t 0),none,none⟩,
  ⟨.call (some 12) xzb [(.t 11)],none,none⟩,
  ⟨.bin 13 .sub (.t 12) (.c (.int .i64 1)),none,none⟩,
  ⟨.call (some 14) cqb [(.t 10),(.c (.int .i64 0)),(.t 13)],none,none⟩,
  ⟨.un 15 .not (.t 14),none,none⟩,
  ⟨.mov 16 (.t 15),none,none⟩,
  ⟨.fad 17 (.t 4) 1,some (16,false),(some 17)⟩,
  ⟨.load 18 none (.t 17),some (16,false),(some 18)⟩,
  ⟨.len 19 (.t 18),some (16,false),(some 19)⟩,
  ⟨.mov 20 (.t 0),some (16,false),(some 20)⟩,
  ⟨.fad 21 (.t 4) 0,some (16,false),(some 21)⟩,
  ⟨.load 22 none (.t 21),some (16,false),(some 22)⟩,
  ⟨.iad 23 lz 1 (.t 20) (.t 22),some (16,false),(some 23)⟩,
  ⟨.load 24 none (.t 23),some (16,false),(some 24)⟩,
  ⟨.slen 25 (.t 24),some (16,false),(some 25)⟩,
  ⟨.bin 26 .neq (.t 19) (.t 25),some (16,false),(some 26)⟩,
  ⟨.pick 27 (.t 16) (.c (.bool true)) (.t 26),none,none⟩] [0,2,4,27])
 (.cond (.t 27)
 (.seq (.reg [⟨.mov 6 (.c (.bool false)),none,none⟩] [6])
 (.ret))
 (.skip)))
 (.seq (.seq (.reg [⟨.fad 28 (.t 4) 1,none,none⟩,
  ⟨.load 29 none (.t 28),none,none⟩,
  ⟨.len 30 (.t 29),none,none⟩,
  ⟨.mov 31 (.c (.int .i64 0)),none,none⟩] [0,2,4,29,30,31])
 (.block 0 (.loop [0,2,4,29,30,31] cxb)))
 (.seq (.reg [⟨.mov 6 (.c (.bool true)),none,none⟩] [6])
 (.ret))))
def px:Fn:=⟨[.ro 0,.ro 0,.ro 0],false,true,[.t 6],rxb⟩
def pqb:VC:= .seq (.seq (.reg [⟨.mov 4 (.t 3),none,none⟩,
    ⟨.mov 5 (.t 0),none,none⟩,
    ⟨.slen 6 (.t 5),none,none⟩,
    ⟨.bin 7 .lss (.t 4) (.t 6),none,none⟩] [0,3,7])
 (.cond (.t 7)
 (.skip)
 (.exit 0)))
 (.seq (.block 1 (.seq (.reg [⟨.mov 10 (.t 0),none,none⟩,
  ⟨.mov 11 (.t 3),none,none⟩,
  ⟨.ix 12 (.t 10) (.t 11),none,none⟩,
  ⟨.bin 13 .neq (.t 12) (.c (.int .u8 105)),none,none⟩,
  ⟨.mov 14 (.t 13),none,none⟩,
  ⟨.mov 15 (.t 0),some (14,true),(some 15)⟩,
  ⟨.mov 16 (.t 3),some (14,true),(some 16)⟩,
  ⟨.ix 17 (.t 15) (.t 16),some (14,true),(some 17)⟩,
  ⟨.bin 18 .neq (.t 17) (.c (.int .u8 114)),some (14,true),(some 18)⟩,
  ⟨.pick 19 (.t 14) (.t 18) (.c (.bool false)),none,none⟩] [0,3,19])
 (.cond (.t 19)
 (.seq (.reg [⟨.mov 2 (.c (.bool false)),none,none⟩] [2])
 (.ret))
 (.skip))))
 (.reg [⟨.mov 8 (.t 3),none,none⟩,
  ⟨.bin 9 .add (.t 8) (.c (.int .i64 1)),none,none⟩,
  ⟨.mov 3 (.t 9),none,none⟩] [0,3]))
def dzd:VC:= .seq (.reg [⟨.mov 2 (.c (.bool false)),none,none⟩] [0])
 (.seq (.seq (.reg [⟨.mov 3 (.c (.int .i64 0)),none,none⟩] [0,3])
 (.block 0 (.loop [0,3] pqb)))
 (.seq (.reg [⟨.mov 20 (.t 0),none,none⟩,
  ⟨.slen 21 (.t 20),none,none⟩,
  ⟨.call (some 22) jxb [(.t 21),(.c (.int .i64 1)),(.c (.int .i64 23))],none,none⟩,
  ⟨.mov 2 (.t 22),none,none⟩] [2])
 (.ret)))
def dqb:Fn:=⟨[.ro 0],false,true,[.t 2],dzd⟩
def iqb:VC:= .seq (.reg [⟨.mov 4 (.t 0),none,none⟩,
    ⟨.bin 5 .gtr (.t 4) (.c (.int .i64 0)),none,none⟩,
    ⟨.mov 6 (.t 5),none,none⟩,
    ⟨.load 7 none (.t 1),some (6,true),(some 7)⟩,
    ⟨.mov 8 (.t 0),some (6,true),(some 8)⟩,
    ⟨.bin 9 .sub (.t 8) (.c (.int .i64 1)),some (6,true),(some 9)⟩,
    ⟨.iad 10 tqc 1 (.t 7) (.t 9),some (6,true),(some 10)⟩,
    ⟨.load 11 none (.t 10),some (6,true),(some 11)⟩,
    ⟨.un 12 .not (.t 11),some (6,true),(some 12)⟩,
    ⟨.pick 13 (.t 6) (.t 12) (.c (.bool false)),none,none⟩] [0,1,2,13,10001,10002])
 (.cond (.t 13)
 (.seq (.reg [⟨.load 14 none (.t 1),none,none⟩,
  ⟨.mov 15 (.t 0),none,none⟩,
  ⟨.bin 16 .sub (.t 15) (.c (.int .i64 1)),none,none⟩,
  ⟨.iad 17 tqc 1 (.t 14) (.t 16),none,none⟩,
  ⟨.store 1 (.t 17) (.c (.bool true)),none,none⟩] [0,2,10001,10002])
 (.reg [⟨.load 18 none (.t 2),none,none⟩,
  ⟨.mov 19 (.t 0),none,none⟩,
  ⟨.bin 20 .sub (.t 19) (.c (.int .i64 1)),none,none⟩,
  ⟨.bsl 21 nz 1 [.v (.int .i64 0)] 1 [(0,(.t 20))],none,none⟩,
  ⟨.app 22 nz 8 true (.t 18) (.t 21),none,none⟩,
  ⟨.store 1 (.t 2) (.t 22),none,none⟩] [10001,10002]))
 (.skip))
def rq:Fn:=⟨[.ro 0,.mut 0,.mut 0],false,true,[],iqb⟩
def ckb:VC:= .seq (.seq (.reg [⟨.mov 6 (.t 5),none,none⟩,
    ⟨.mov 7 (.t 0),none,none⟩,
    ⟨.len 8 (.t 7),none,none⟩,
    ⟨.bin 9 .lss (.t 6) (.t 8),none,none⟩] [0,1,5,9])
 (.cond (.t 9)
 (.skip)
 (.exit 0)))
 (.seq (.block 1 (.seq (.reg [⟨.mov 12 (.t 0),none,none⟩,
  ⟨.mov 13 (.t 5),none,none⟩,
  ⟨.iad 14 nz 1 (.t 12) (.t 13),none,none⟩,
  ⟨.load 15 none (.t 14),none,none⟩,
  ⟨.mov 16 (.t 1),none,none⟩,
  ⟨.bin 17 .eql (.t 15) (.t 16),none,none⟩] [0,1,5,17])
 (.cond (.t 17)
 (.seq (.reg [⟨.mov 18 (.t 5),none,none⟩,
  ⟨.mov 4 (.t 18),none,none⟩] [4])
 (.ret))
 (.skip))))
 (.reg [⟨.mov 10 (.t 5),none,none⟩,
  ⟨.bin 11 .add (.t 10) (.c (.int .i64 1)),none,none⟩,
  ⟨.mov 5 (.t 11),none,none⟩] [0,1,5]))
def wxc:VC:= .seq (.reg [⟨.mov 4 (.c (.int .i64 0)),none,none⟩] [0,1])
 (.seq (.seq (.reg [⟨.mov 5 (.c (.int .i64 0)),none,none⟩] [0,1,5])
 (.block 0 (.loop [0,1,5] ckb)))
 (.seq (.reg [⟨.mov 4 (.c (.int .i64 (-1))),none,none⟩] [4])
 (.ret)))
def jjb:Fn:=⟨[.ro 0,.ro 0],false,true,[.t 4],wxc⟩
def bjd:VC:= .seq (.reg [⟨.box 2 (.t 0),none,none⟩,
    ⟨.mov 4 (.c (.int .i64 0)),none,none⟩] [1,2])
 (.seq (.reg [⟨.fad 5 (.t 2) 1,none,none⟩,
  ⟨.load 6 none (.t 5),none,none⟩,
  ⟨.mov 7 (.t 1),none,none⟩,
  ⟨.call (some 8) lxb [(.t 6),(.t 7)],none,none⟩,
  ⟨.mov 1 (.t 8),none,none⟩] [1])
 (.seq (.seq (.reg [⟨.mov 9 (.t 1),none,none⟩,
  ⟨.bin 10 .lss (.t 9) (.c (.int .i64 0)),none,none⟩] [1,10])
 (.cond (.t 10)
 (.seq (.reg [⟨.mov 4 (.c (.int .i64 (-1))),none,none⟩] [4])
 (.ret))
 (.skip)))
 (.seq (.reg [⟨.mov 11 (.t 1),none,none⟩,
  ⟨.mov 4 (.t 11),none,none⟩] [4])
 (.ret))))
def pxb:Fn:=⟨[.ro 0,.ro 0],false,true,[.t 4],bjd⟩
def eje:VC:= .seq (.reg [⟨.box 1 (.t 0),none,none⟩,
    ⟨.alloc 2 [.v (.int .i64 0),.nl nz],none,none⟩] [1,2])
 (.seq (.reg [⟨.alloc 3 [.v (.int .i64 0),.nl nz],none,none⟩] [1,2,3])
 (.seq (.reg [⟨.fad 4 (.t 1) 0,none,none⟩,
  ⟨.load 5 none (.t 4),none,none⟩,
  ⟨.fad 6 (.t 3) 0,none,none⟩,
  ⟨.store 1 (.t 6) (.t 5),none,none⟩] [1,2,3])
 (.seq (.reg [⟨.fad 7 (.t 1) 1,none,none⟩,
  ⟨.load 8 none (.t 7),none,none⟩,
  ⟨.call (some 9) kxb [(.t 8)],none,none⟩,
  ⟨.fad 10 (.t 3) 1,none,none⟩,
  ⟨.store 1 (.t 10) (.t 9),none,none⟩] [2,3])
 (.seq (.reg [⟨.load 11 (some 2) (.t 3),none,none⟩,
  ⟨.store 2 (.t 2) (.t 11),none,none⟩] [2])
 (.ret)))))
def hzc:Fn:=⟨[.ro 0],false,false,[.cell 2 (some 2)],eje⟩
def fje:VC:= .seq (.reg [⟨.box 2 (.t 0),none,none⟩,
    ⟨.box 3 (.t 1),none,none⟩,
    ⟨.mov 4 (.c (.bool false)),none,none⟩] [2,3])
 (.seq (.seq (.reg [⟨.fad 5 (.t 2) 0,none,none⟩,
  ⟨.load 6 none (.t 5),none,none⟩,
  ⟨.fad 7 (.t 3) 0,none,none⟩,
  ⟨.load 8 none (.t 7),none,none⟩,
  ⟨.bin 9 .neq (.t 6) (.t 8),none,none⟩] [2,3,9])
 (.cond (.t 9)
 (.seq (.reg [⟨.mov 4 (.c (.bool false)),none,none⟩] [4])
 (.ret))
 (.skip)))
 (.seq (.seq (.reg [⟨.fad 10 (.t 2) 1,none,none⟩,
  ⟨.load 11 none (.t 10),none,none⟩,
  ⟨.fad 12 (.t 3) 1,none,none⟩,
  ⟨.load 13 none (.t 12),none,none⟩,
  ⟨.call (some 14) mxb [(.t 11),(.t 13)],none,none⟩,
  ⟨.un 15 .not (.t 14),none,none⟩] [15])
 (.cond (.t 15)
 (.seq (.reg [⟨.mov 4 (.c (.bool false)),none,none⟩] [4])
 (.ret))
 (.skip)))
 (.seq (.reg [⟨.mov 4 (.c (.bool true)),none,none⟩] [4])
 (.ret))))
def izc:Fn:=⟨[.ro 0,.ro 0],false,true,[.t 4],fje⟩
def qqc:VC:= .seq (.reg [⟨.mov 6 (.c (.bool false)),none,none⟩] [0,1,2])
 (.seq (.reg [⟨.mov 7 (.t 0),none,none⟩,
  ⟨.mov 8 (.t 1),none,none⟩,
  ⟨.bin 9 .geq (.t 7) (.t 8),none,none⟩,
  ⟨.mov 10 (.t 9),none,none⟩,
  ⟨.mov 11 (.t 0),some (10,true),(some 11)⟩,
  ⟨.mov 12 (.t 2),some (10,true),(some 12)⟩,
  ⟨.bin 13 .leq (.t 11) (.t 12),some (10,true),(some 13)⟩,
  ⟨.pick 14 (.t 10) (.t 13) (.c (.bool false)),none,none⟩,
  ⟨.mov 6 (.t 14),none,none⟩] [6])
 (.ret))
def zzb:Fn:=⟨[.ro 0,.ro 0,.ro 0],false,true,[.t 6],qqc⟩
def oxc:VC:= .seq (.reg [⟨.mov 2 (.c (.int .i64 0)),none,none⟩] [0])
 (.seq (.reg [⟨.mov 3 (.t 0),none,none⟩,
  ⟨.len 4 (.t 3),none,none⟩,
  ⟨.mov 2 (.t 4),none,none⟩] [2])
 (.ret))
def pk:Fn:=⟨[.ro 0],false,true,[.t 2],oxc⟩
def jzb:VC:= .seq (.reg [⟨.mov 4 (.c (.bool false)),none,none⟩] [0,1])
 (.seq (.reg [⟨.mov 5 (.t 0),none,none⟩,
  ⟨.mov 6 (.t 1),none,none⟩,
  ⟨.call (some 7) nq [(.t 5),(.t 6)],none,none⟩,
  ⟨.bin 8 .geq (.t 7) (.c (.int .i64 0)),none,none⟩,
  ⟨.mov 4 (.t 8),none,none⟩] [4])
 (.ret))
def aj:Fn:=⟨[.ro 0,.ro 0],false,true,[.t 4],jzb⟩
def mzd:VC:= .seq (.reg [⟨.mov 2 (.c (.bool false)),none,none⟩] [0])
 (.seq (.reg [⟨.mov 3 (.t 0),none,none⟩,
  ⟨.call (some 4) nqc [(.t 3)],none,none⟩,
  ⟨.un 5 .not (.t 4),none,none⟩,
  ⟨.mov 2 (.t 5),none,none⟩] [2])
 (.ret))
def rzb:Fn:=⟨[.ro 0],false,true,[.t 2],mzd⟩
def fzd:VC:= .seq (.reg [⟨.mov 2 (.c (.bool false)),none,none⟩] [0])
 (.seq (.reg [⟨.mov 3 (.t 0),none,none⟩,
  ⟨.slen 4 (.t 3),none,none⟩,
  ⟨.call (some 5) cqb [(.t 4),(.c (.int .i64 1)),(.c (.int .i64 23))],none,none⟩,
  ⟨.mov 6 (.t 5),none,none⟩,
  ⟨.mov 7 (.t 0),some (6,true),(some 7)⟩,
  ⟨.call (some 8) uxc [(.t 7),(.c (.string ⟨#[105,114]⟩))],some (6,true),(some 8)⟩,
  ⟨.bin 9 .eql (.t 8) (.c (.string ⟨#[]⟩)),some (6,true),(some 9)⟩,
  ⟨.pick 10 (.t 6) (.t 9) (.c (.bool false)),none,none⟩,
  ⟨.mov 2 (.t 10),none,none⟩] [2])
 (.ret))
def eqb:Fn:=⟨[.ro 0],false,true,[.t 2],fzd⟩
def gqc:VC:= .seq (.reg [⟨.mov 2 (.c (.int .i64 0)),none,none⟩] [0])
 (.seq (.reg [⟨.mov 3 (.t 0),none,none⟩,
  ⟨.len 4 (.t 3),none,none⟩,
  ⟨.mov 2 (.t 4),none,none⟩] [2])
 (.ret))
def qx:Fn:=⟨[.ro 0],false,true,[.t 2],gqc⟩
def kq:VC:= .seq (.reg [⟨.bin 9 .lss (.t 8) (.t 7),none,none⟩] [0,1,7,8,9])
 (.seq (.cond (.t 9)
 (.skip)
 (.exit 0))
 (.seq (.block 1 (.seq (.reg [⟨.mov 10 (.t 8),none,none⟩,
  ⟨.mov 5 (.t 10),none,none⟩] [0,1,5,7,8])
 (.seq (.reg [⟨.mov 11 (.t 1),none,none⟩,
  ⟨.mov 12 (.t 0),none,none⟩,
  ⟨.mov 13 (.t 5),none,none⟩,
  ⟨.iad 14 nz 1 (.t 12) (.t 13),none,none⟩,
  ⟨.load 15 none (.t 14),none,none⟩,
  ⟨.calv (some 16) (.t 11) [(.t 15)],none,none⟩] [0,1,5,7,8,16])
 (.cond (.t 16)
 (.seq (.reg [⟨.mov 17 (.t 5),none,none⟩,
  ⟨.mov 4 (.t 17),none,none⟩] [4])
 (.ret))
 (.skip)))))
 (.reg [⟨.bin 18 .add (.t 8) (.c (.int .i64 1)),none,none⟩,
  ⟨.mov 8 (.t 18),none,none⟩] [0,1,7,8])))
def gk:VC:= .seq (.reg [⟨.mov 4 (.c (.int .i64 0)),none,none⟩] [0,1])
 (.seq (.seq (.reg [⟨.mov 6 (.t 0),none,none⟩,
  ⟨.len 7 (.t 6),none,none⟩,
  ⟨.mov 8 (.c (.int .i64 0)),none,none⟩] [0,1,7,8])
 (.block 0 (.loop [0,1,7,8] kq)))
 (.seq (.reg [⟨.mov 4 (.c (.int .i64 (-1))),none,none⟩] [4])
 (.ret)))
def gj:Fn:=⟨[.ro 0,.ro 0],false,true,[.t 4],gk⟩
def tj:VC:= .seq (.reg [⟨.bin 9 .lss (.t 8) (.t 7),none,none⟩] [0,1,7,8,9])
 (.seq (.cond (.t 9)
 (.skip)
 (.exit 0))
 (.seq (.block 1 (.seq (.reg [⟨.mov 10 (.t 8),none,none⟩,
  ⟨.mov 5 (.t 10),none,none⟩] [0,1,5,7,8])
 (.seq (.reg [⟨.mov 11 (.t 1),none,none⟩,
  ⟨.mov 12 (.t 0),none,none⟩,
  ⟨.mov 13 (.t 5),none,none⟩,
  ⟨.iad 14 gz 2 (.t 12) (.t 13),none,none⟩,
  ⟨.load 15 (some 2) (.t 14),none,none⟩,
  ⟨.calv (some 16) (.t 11) [(.t 15)],none,none⟩] [0,1,5,7,8,16])
 (.cond (.t 16)
 (.seq (.reg [⟨.mov 17 (.t 5),none,none⟩,
  ⟨.mov 4 (.t 17),none,none⟩] [4])
 (.ret))
 (.skip)))))
 (.reg [⟨.bin 18 .add (.t 8) (.c (.int .i64 1)),none,none⟩,
  ⟨.mov 8 (.t 18),none,none⟩] [0,1,7,8])))
def yq:VC:= .seq (.reg [⟨.mov 4 (.c (.int .i64 0)),none,none⟩] [0,1])
 (.seq (.seq (.reg [⟨.mov 6 (.t 0),none,none⟩,
  ⟨.len 7 (.t 6),none,none⟩,
  ⟨.mov 8 (.c (.int .i64 0)),none,none⟩] [0,1,7,8])
 (.block 0 (.loop [0,1,7,8] tj)))
 (.seq (.reg [⟨.mov 4 (.c (.int .i64 (-1))),none,none⟩] [4])
 (.ret)))
def qz:Fn:=⟨[.ro 0,.ro 0],false,true,[.t 4],yq⟩
def gq:VC:= .seq (.reg [⟨.bin 9 .lss (.t 8) (.t 7),none,none⟩] [0,1,7,8,9])
 (.seq (.cond (.t 9)
 (.skip)
 (.exit 0))
 (.seq (.block 1 (.seq (.reg [⟨.mov 10 (.t 8),none,none⟩,
  ⟨.mov 5 (.t 10),none,none⟩] [0,1,5,7,8])
 (.seq (.reg [⟨.mov 11 (.t 1),none,none⟩,
  ⟨.mov 12 (.t 0),none,none⟩,
  ⟨.mov 13 (.t 5),none,none⟩,
  ⟨.iad 14 lz 1 (.t 12) (.t 13),none,none⟩,
  ⟨.load 15 none (.t 14),none,none⟩,
  ⟨.calv (some 16) (.t 11) [(.t 15)],none,none⟩] [0,1,5,7,8,16])
 (.cond (.t 16)
 (.seq (.reg [⟨.mov 17 (.t 5),none,none⟩,
  ⟨.mov 4 (.t 17),none,none⟩] [4])
 (.ret))
 (.skip)))))
 (.reg [⟨.bin 18 .add (.t 8) (.c (.int .i64 1)),none,none⟩,
  ⟨.mov 8 (.t 18),none,none⟩] [0,1,7,8])))
def ak:VC:= .seq (.reg [⟨.mov 4 (.c (.int .i64 0)),none,none⟩] [0,1])
 (.seq (.seq (.reg [⟨.mov 6 (.t 0),none,none⟩,
  ⟨.len 7 (.t 6),none,none⟩,
  ⟨.mov 8 (.c (.int .i64 0)),none,none⟩] [0,1,7,8])
 (.block 0 (.loop [0,1,7,8] gq)))
 (.seq (.reg [⟨.mov 4 (.c (.int .i64 (-1))),none,none⟩] [4])
 (.ret)))
def wz:Fn:=⟨[.ro 0,.ro 0],false,true,[.t 4],ak⟩
def tabL:List (Nat×Fn):= [(bqb,fq),
 (ljc,xq),
 (ujc,qxb),
 (fxc,oxb),
 (rkb,zx),
 (mjc,zk),
 (qk,nzb),
 (gjb,sqb),
 (hjb,tqb),
 (skb,qzb),
 (xqb,nk),
 (kqb,ozb),
 (lqb,pzb),
 (ojc,jx),
 (kjc,yk),
 (jxb,nxb),
 (wxb,czb),
 (jjc,rqb),
 (kxc,jzc),
 (ijc,qqb),
 (lxb,hzb),
 (lqc,yzb),
 (kxb,vjb),
 (kqc,xxb),
 (mxb,yjb),
 (mqc,yxb),
 (szc,izb),
 (rjb,azb),
 (tzc,wjb),
 (sjb,bzb),
 (uzc,xjb),
 (njc,kjb),
 (xx,tzb),
 (pq,dk),
 (jq,lj),
 (rj,tz),
 (wx,szb),
 (vzc,px),
 (jqc,dqb),
 (ezb,rq),
 (pkb,jjb),
 (ixc,pxb),
 (gxc,hzc),
 (jxc,izc),
 (cqb,zzb),
 (xzb,pk),
 (eq,aj),
 (sx,rzb),
 (nqc,eqb),
 (ojb,qx),
 (uq,gj),
 (aq,qz),
 (nq,wz)]
def yjj:List Nat:= [9,14,15,16,21,22,25,26,28,30,32,33,35,36,39,41,45,46,47,48,49,50,52,53,58,59,63,64,75,77,79,80,81,82,83,84,86,88,89,90,91,97,109,111,113,114,143,1000025,1000026,1000048,1000049,1000050,1000052,1000053,1000063,1000064,1000075,1000084,1000086,1000088,1000089,1000090,1000091,1000109,1000114]
def kz (g:Nat):Bool:=yjj.contains g
def T (d:Nat):Nat→Option Callee:=jxd tabL ext fuel d
theorem jk {d f:Nat} {v:Fn} (h:ext f=none) (ht:look tabL f=some v):T (d+1) f=some (calF (T d) fuel v):=tqh h ht
@[go_sem] theorem fxd {d:Nat}:T (d+1) bqb=some ⟨[.ro 0,.ro 0],false,true,uz (T d) fuel fq⟩:=jk (v:=fq) rfl rfl
@[go_sem] theorem vqi {d:Nat}:T (d+1) ljc=some ⟨[.ro 0,.ro 0],false,true,uz (T d) fuel xq⟩:=jk (v:=xq) rfl rfl
@[go_sem] theorem vjj {d:Nat}:T (d+1) ujc=some ⟨[.ro 0,.ro 0],false,false,uz (T d) fuel qxb⟩:=jk (v:=qxb) rfl rfl
@[go_sem] theorem qjj {d:Nat}:T (d+1) fxc=some ⟨[.ro 0,.ro 0],false,false,uz (T d) fuel oxb⟩:=jk (v:=oxb) rfl rfl
@[go_sem] theorem gqh {d:Nat}:T (d+1) rkb=some ⟨[.ro 0,.ro 0],false,true,uz (T d) fuel zx⟩:=jk (v:=zx) rfl rfl
@[go_sem] theorem xqi {d:Nat}:T (d+1) mjc=some ⟨[.ro 0,.ro 0],false,true,uz (T d) fuel zk⟩:=jk (v:=zk) rfl rfl
@[go_sem] theorem fqh {d:Nat}:T (d+1) qk=some ⟨[.ro 0],false,false,uz (T d) fuel nzb⟩:=jk (v:=nzb) rfl rfl
@[go_sem] theorem wqi {d:Nat}:T (d+1) gjb=some ⟨[.ro 0],false,false,uz (T d) fuel sqb⟩:=jk (v:=sqb) rfl rfl
@[go_sem] theorem yqi {d:Nat}:T (d+1) hjb=some ⟨[.ro 0,.ro 0],false,true,uz (T d) fuel tqb⟩:=jk (v:=tqb) rfl rfl
@[go_sem] theorem jqh {d:Nat}:T (d+1) skb=some ⟨[.ro 0,.ro 0],false,true,uz (T d) fuel qzb⟩:=jk (v:=qzb) rfl rfl
@[go_sem] theorem lzh {d:Nat}:T (d+1) xqb=some ⟨[.mut 0,.ro 0],false,true,uz (T d) fuel nk⟩:=jk (v:=nk) rfl rfl
@[go_sem] theorem hqh {d:Nat}:T (d+1) kqb=some ⟨[.mut 0,.ro 0],false,true,uz (T d) fuel ozb⟩:=jk (v:=ozb) rfl rfl
@[go_sem] theorem iqh {d:Nat}:T (d+1) lqb=some ⟨[.ro 0,.ro 0],false,true,uz (T d) fuel pzb⟩:=jk (v:=pzb) rfl rfl
@[go_sem] theorem axi {d:Nat}:T (d+1) ojc=some ⟨[.ro 0,.ro 0],false,true,uz (T d) fuel jx⟩:=jk (v:=jx) rfl rfl
@[go_sem] theorem uqi {d:Nat}:T (d+1) kjc=some ⟨[.ro 0],false,true,uz (T d) fuel yk⟩:=jk (v:=yk) rfl rfl
@[go_sem] theorem zkj {d:Nat}:T (d+1) jxb=some ⟨[.ro 0,.ro 0,.ro 0],false,true,uz (T d) fuel nxb⟩:=jk (v:=nxb) rfl rfl
@[go_sem] theorem bqh {d:Nat}:T (d+1) wxb=some ⟨[.ro 0,.ro 0],false,false,uz (T d) fuel czb⟩:=jk (v:=czb) rfl rfl
@[go_sem] theorem tqi {d:Nat}:T (d+1) jjc=some ⟨[.ro 0,.ro 0],false,false,uz (T d) fuel rqb⟩:=jk (v:=rqb) rfl rfl
@[go_sem] theorem ujj {d:Nat}:T (d+1) kxc=some ⟨[.ro 0,.ro 0],false,false,uz (T d) fuel jzc⟩:=jk (v:=jzc) rfl rfl
@[go_sem] theorem rqi {d:Nat}:T (d+1) ijc=some ⟨[.ro 0,.ro 0],false,false,uz (T d) fuel qqb⟩:=jk (v:=qqb) rfl rfl
@[go_sem] theorem kqi {d:Nat}:T (d+1) lxb=some ⟨[.ro 0,.ro 0],false,true,uz (T d) fuel hzb⟩:=jk (v:=hzb) rfl rfl
@[go_sem] theorem bzj {d:Nat}:T (d+1) lqc=some ⟨[.ro 0,.ro 0],false,true,uz (T d) fuel yzb⟩:=jk (v:=yzb) rfl rfl
@[go_sem] theorem jqi {d:Nat}:T (d+1) kxb=some ⟨[.ro 0],false,false,uz (T d) fuel vjb⟩:=jk (v:=vjb) rfl rfl
@[go_sem] theorem azj {d:Nat}:T (d+1) kqc=some ⟨[.ro 0],false,false,uz (T d) fuel xxb⟩:=jk (v:=xxb) rfl rfl
@[go_sem] theorem oqi {d:Nat}:T (d+1) mxb=some ⟨[.ro 0,.ro 0],false,true,uz (T d) fuel yjb⟩:=jk (v:=yjb) rfl rfl
@[go_sem] theorem czj {d:Nat}:T (d+1) mqc=some ⟨[.ro 0,.ro 0],false,true,uz (T d) fuel yxb⟩:=jk (v:=yxb) rfl rfl
@[go_sem] theorem lqi {d:Nat}:T (d+1) szc=some ⟨[.ro 0],false,true,uz (T d) fuel izb⟩:=jk (v:=izb) rfl rfl
@[go_sem] theorem zjh {d:Nat}:T (d+1) rjb=some ⟨[.mut 0,.ro 0],false,true,uz (T d) fuel azb⟩:=jk (v:=azb) rfl rfl
@[go_sem] theorem mqi {d:Nat}:T (d+1) tzc=some ⟨[.mut 0,.ro 0],false,true,uz (T d) fuel wjb⟩:=jk (v:=wjb) rfl rfl
@[go_sem] theorem aqh {d:Nat}:T (d+1) sjb=some ⟨[.ro 0,.ro 0],false,true,uz (T d) fuel bzb⟩:=jk (v:=bzb) rfl rfl
@[go_sem] theorem nqi {d:Nat}:T (d+1) uzc=some ⟨[.ro 0,.ro 0],false,true,uz (T d) fuel xjb⟩:=jk (v:=xjb) rfl rfl
@[go_sem] theorem zqi {d:Nat}:T (d+1) njc=some ⟨[.ro 0],false,true,uz (T d) fuel kjb⟩:=jk (v:=kjb) rfl rfl
@[go_sem] theorem mqh {d:Nat}:T (d+1) xx=some ⟨[.ro 0,.ro 0],false,true,uz (T d) fuel tzb⟩:=jk (v:=tzb) rfl rfl
@[go_sem] theorem sxg {d:Nat}:T (d+1) pq=some ⟨[.ro 0,.ro 0],false,true,uz (T d) fuel dk⟩:=jk (v:=dk) rfl rfl
@[go_sem] theorem mkd {d:Nat}:T (d+1) jq=some ⟨[.ro 0,.ro 0],false,true,uz (T d) fuel lj⟩:=jk (v:=lj) rfl rfl
@[go_sem] theorem hjd {d:Nat}:T (d+1) rj=some ⟨[.ro 0,.ro 0],false,true,uz (T d) fuel tz⟩:=jk (v:=tz) rfl rfl
@[go_sem] theorem lqh {d:Nat}:T (d+1) wx=some ⟨[.ro 0,.ro 0,.ro 0],false,true,uz (T d) fuel szb⟩:=jk (v:=szb) rfl rfl
@[go_sem] theorem pqi {d:Nat}:T (d+1) vzc=some ⟨[.ro 0,.ro 0,.ro 0],false,true,uz (T d) fuel px⟩:=jk (v:=px) rfl rfl
@[go_sem] theorem zki {d:Nat}:T (d+1) jqc=some ⟨[.ro 0],false,true,uz (T d) fuel dqb⟩:=jk (v:=dqb) rfl rfl
@[go_sem] theorem rxg {d:Nat}:T (d+1) ezb=some ⟨[.ro 0,.mut 0,.mut 0],false,true,uz (T d) fuel rq⟩:=jk (v:=rq) rfl rfl
@[go_sem] theorem sqi {d:Nat}:T (d+1) pkb=some ⟨[.ro 0,.ro 0],false,true,uz (T d) fuel jjb⟩:=jk (v:=jjb) rfl rfl
@[go_sem] theorem sjj {d:Nat}:T (d+1) ixc=some ⟨[.ro 0,.ro 0],false,true,uz (T d) fuel pxb⟩:=jk (v:=pxb) rfl rfl
@[go_sem] theorem rjj {d:Nat}:T (d+1) gxc=some ⟨[.ro 0],false,false,uz (T d) fuel hzc⟩:=jk (v:=hzc) rfl rfl
@[go_sem] theorem tjj {d:Nat}:T (d+1) jxc=some ⟨[.ro 0,.ro 0],false,true,uz (T d) fuel izc⟩:=jk (v:=izc) rfl rfl
@[go_sem] theorem dzj {d:Nat}:T (d+1) cqb=some ⟨[.ro 0,.ro 0,.ro 0],false,true,uz (T d) fuel zzb⟩:=jk (v:=zzb) rfl rfl
@[go_sem] theorem mzh {d:Nat}:T (d+1) xzb=some ⟨[.ro 0],false,true,uz (T d) fuel pk⟩:=jk (v:=pk) rfl rfl
@[go_sem] theorem exd {d:Nat}:T (d+1) eq=some ⟨[.ro 0,.ro 0],false,true,uz (T d) fuel aj⟩:=jk (v:=aj) rfl rfl
@[go_sem] theorem kqh {d:Nat}:T (d+1) sx=some ⟨[.ro 0],false,true,uz (T d) fuel rzb⟩:=jk (v:=rzb) rfl rfl
@[go_sem] theorem ezj {d:Nat}:T (d+1) nqc=some ⟨[.ro 0],false,true,uz (T d) fuel eqb⟩:=jk (v:=eqb) rfl rfl
@[go_sem] theorem mjg {d:Nat}:T (d+1) ojb=some ⟨[.ro 0],false,true,uz (T d) fuel qx⟩:=jk (v:=qx) rfl rfl
@[go_sem] theorem kje {d:Nat}:T (d+1) uq=some ⟨[.ro 0,.ro 0],false,true,uz (T d) fuel gj⟩:=jk (v:=gj) rfl rfl
@[go_sem] theorem lqd {d:Nat}:T (d+1) aq=some ⟨[.ro 0,.ro 0],false,true,uz (T d) fuel qz⟩:=jk (v:=qz) rfl rfl
@[go_sem] theorem nkd {d:Nat}:T (d+1) nq=some ⟨[.ro 0,.ro 0],false,true,uz (T d) fuel wz⟩:=jk (v:=wz) rfl rfl
@[go_sem] theorem ezf {d:Nat}:T (d+1) kzb=some ⟨[.ro 0],false,false,zqd nz 8⟩:=okf rfl
@[go_sem] theorem qqi {d:Nat}:T (d+1) uxc=some ⟨[.ro 0,.ro 0],false,true,vqe⟩:=okf rfl
end Go.Proofs.YtjdcidigbbbckaaDoor.VM

/- The functions' code, as the interpreter has it. Printed by a program of ours. -/
import Derived.Test.YtjdcidigbbbckaaDoorExt
namespace Go.Proofs.YtjdcidigbbbckaaDoor.VM
open Go
def lqc:VC:= .seq (.reg [⟨.mov 2 (.c (.bool false)),none,none⟩] [0])
 (.seq (.seq (.reg [⟨.mov 7 (.t 0),none,none⟩,
  ⟨.call (some 8) kqd [(.t 7)],none,none⟩] [0,8])
 (.cond (.t 8)
 (.seq (.reg [⟨.mov 2 (.c (.bool true)),none,none⟩] [2])
 (.ret))
 (.skip)))
 (.seq (.reg [⟨.mov 10 (.t 0),none,none⟩,
  ⟨.call (some 11) ozc [(.t 10)],none,none⟩,
  ⟨.mov 9 (.t 11),none,none⟩,
  ⟨.ext 12 (.t 9) 0,none,none⟩,
  ⟨.ext 13 (.t 9) 1,none,none⟩,
  ⟨.ext 14 (.t 9) 2,none,none⟩,
  ⟨.alloc 4 [.nl oz,.nl gz],none,none⟩,
  ⟨.alloc 5 [.nl oz,.nl gz],none,none⟩,
  ⟨.mov 3 (.t 12),none,none⟩,
  ⟨.store 2 (.t 4) (.t 13),none,none⟩,
  ⟨.store 2 (.t 5) (.t 14),none,none⟩] [3,4,5])
 (.seq (.reg [⟨.mov 15 (.t 3),none,none⟩,
  ⟨.load 16 (some 2) (.t 4),none,none⟩,
  ⟨.load 17 (some 2) (.t 5),none,none⟩,
  ⟨.call (some 18) gkc [(.t 15),(.t 16),(.t 17)],none,none⟩,
  ⟨.mov 6 (.t 18),none,none⟩] [3,4,5,6])
 (.seq (.reg [⟨.mov 19 (.t 3),none,none⟩,
  ⟨.load 20 (some 2) (.t 4),none,none⟩,
  ⟨.load 21 (some 2) (.t 5),none,none⟩,
  ⟨.call (some 22) zzc [(.t 19),(.t 20),(.t 21)],none,none⟩,
  ⟨.mov 23 (.t 6),none,none⟩,
  ⟨.beq 24 false (.t 22) (.t 23),none,none⟩,
  ⟨.mov 25 (.t 24),none,none⟩,
  ⟨.mov 26 (.t 3),some (25,true),(some 26)⟩,
  ⟨.load 27 (some 2) (.t 5),some (25,true),(some 27)⟩,
  ⟨.load 28 (some 2) (.t 4),some (25,true),(some 28)⟩,
  ⟨.call (some 29) zzc [(.t 26),(.t 27),(.t 28)],some (25,true),(some 29)⟩,
  ⟨.mov 30 (.t 6),some (25,true),(some 30)⟩,
  ⟨.beq 31 false (.t 29) (.t 30),some (25,true),(some 31)⟩,
  ⟨.pick 32 (.t 25) (.t 31) (.c (.bool false)),none,none⟩,
  ⟨.mov 33 (.t 32),none,none⟩,
  ⟨.mov 34 (.t 3),some (33,true),(some 34)⟩,
  ⟨.load 35 (some 2) (.t 4),some (33,true),(some 35)⟩,
  ⟨.load 36 (some 2) (.t 4),some (33,true),(some 36)⟩,
  ⟨.call (some 37) zzc [(.t 34),(.t 35),(.t 36)],some (33,true),(some 37)⟩,
  ⟨.mov 38 (.t 3),some (33,true),(some 38)⟩,
  ⟨.load 39 (some 2) (.t 4),some (33,true),(some 39)⟩,
  ⟨.call (some 40) rxb [(.t 38),(.t 39)],some (33,true),(some 40)⟩,
  ⟨.beq 41 false (.t 37) (.t 40),some (33,true),(some 41)⟩,
  ⟨.pick 42 (.t 33) (.t 41) (.c (.bool false)),none,none⟩,
  ⟨.mov 43 (.t 42),none,none⟩,
  ⟨.mov 44 (.t 6),some (43,true),(some 44)⟩,
  ⟨.un 45 .not (.t 44),some (43,true),(some 45)⟩,
  ⟨.mov 46 (.t 45),some (43,true),(some 46)⟩,
  ⟨.mov 47 (.t 3),some (46,false),(some 47)⟩,
  ⟨.load 48 (some 2) (.t 4),some (46,false),(some 48)⟩,
  ⟨.call (some 49) ekb [(.t 47),(.t 48)],some (46,false),(some 49)⟩,
  ⟨.mov 50 (.t 3),some (46,false),(some 50)⟩,
  ⟨.load 51 (some 2) (.t 5),some (46,false),(some 51)⟩,
  ⟨.call (some 52) ekb [(.t 50),(.t 51)],some (46,false),(some 52)⟩,
  ⟨.bin 53 .eql (.t 49) (.t 52),some (46,false),(some 53)⟩,
  ⟨.pick 54 (.t 46) (.c (.bool true)) (.t 53),some (43,true),(some 54)⟩,
  ⟨.pick 55 (.t 43) (.t 54) (.c (.bool false)),none,none⟩,
  ⟨.mov 2 (.t 55),none,none⟩] [2])
 (.ret)))))
def yk:Fn:=⟨[.ro 0],false,true,[.t 2],lqc⟩
def yjf:VC:= .seq (.reg [⟨.mov 2 (.c (.bool false)),none,none⟩] [0])
 (.seq (.reg [⟨.mov 3 (.t 0),none,none⟩,
  ⟨.len 4 (.t 3),none,none⟩,
  ⟨.bin 5 .gtr (.t 4) (.c (.int .i64 1048576)),none,none⟩,
  ⟨.mov 2 (.t 5),none,none⟩] [2])
 (.ret))
def sxc:Fn:=⟨[.ro 0],false,true,[.t 2],yjf⟩
def azc:VC:= .seq (.seq (.reg [⟨.mov 28 (.t 6),none,none⟩,
    ⟨.fad 29 (.t 3) 0,none,none⟩,
    ⟨.load 30 none (.t 29),none,none⟩,
    ⟨.len 31 (.t 30),none,none⟩,
    ⟨.bin 32 .lss (.t 28) (.t 31),none,none⟩] [0,3,5,6,32])
 (.cond (.t 32)
 (.skip)
 (.exit 0)))
 (.seq (.block 1 (.seq (.reg [⟨.fad 35 (.t 3) 0,none,none⟩,
  ⟨.load 36 none (.t 35),none,none⟩,
  ⟨.mov 37 (.t 6),none,none⟩,
  ⟨.iad 38 oz 1 (.t 36) (.t 37),none,none⟩,
  ⟨.load 39 none (.t 38),none,none⟩,
  ⟨.mov 40 (.t 5),none,none⟩,
  ⟨.call (some 41) dkb [(.t 39),(.c (.int .i64 0)),(.t 40)],none,none⟩,
  ⟨.un 42 .not (.t 41),none,none⟩] [0,3,5,6,42])
 (.cond (.t 42)
 (.seq (.reg [⟨.mov 4 (.c (.bool false)),none,none⟩] [4])
 (.ret))
 (.skip))))
 (.reg [⟨.mov 33 (.t 6),none,none⟩,
  ⟨.bin 34 .add (.t 33) (.c (.int .i64 1)),none,none⟩,
  ⟨.mov 6 (.t 34),none,none⟩] [0,3,5,6]))
def zkb:VC:= .seq (.seq (.reg [⟨.mov 74 (.t 9),none,none⟩,
    ⟨.fad 75 (.t 8) 1,none,none⟩,
    ⟨.load 76 none (.t 75),none,none⟩,
    ⟨.len 77 (.t 76),none,none⟩,
    ⟨.bin 78 .lss (.t 74) (.t 77),none,none⟩] [0,3,5,7,8,9,78])
 (.cond (.t 78)
 (.skip)
 (.exit 4)))
 (.seq (.block 5 (.seq (.reg [⟨.mov 81 (.t 0),none,none⟩,
  ⟨.fad 82 (.t 8) 0,none,none⟩,
  ⟨.load 83 none (.t 82),none,none⟩,
  ⟨.iad 84 mz 1 (.t 81) (.t 83),none,none⟩,
  ⟨.load 85 none (.t 84),none,none⟩,
  ⟨.mov 86 (.t 9),none,none⟩,
  ⟨.ix 87 (.t 85) (.t 86),none,none⟩,
  ⟨.bin 88 .eql (.t 87) (.c (.int .u8 114)),none,none⟩,
  ⟨.mov 89 (.t 88),none,none⟩,
  ⟨.fad 90 (.t 8) 1,some (89,true),(some 90)⟩,
  ⟨.load 91 none (.t 90),some (89,true),(some 91)⟩,
  ⟨.mov 92 (.t 9),some (89,true),(some 92)⟩,
  ⟨.iad 93 oz 1 (.t 91) (.t 92),some (89,true),(some 93)⟩,
  ⟨.load 94 none (.t 93),some (89,true),(some 94)⟩,
  ⟨.mov 95 (.t 5),some (89,true),(some 95)⟩,
  ⟨.call (some 96) dkb [(.t 94),(.c (.int .i64 0)),(.t 95)],some (89,true),(some 96)⟩,
  ⟨.un 97 .not (.t 96),some (89,true),(some 97)⟩,
  ⟨.pick 98 (.t 89) (.t 97) (.c (.bool false)),none,none⟩] [0,3,5,7,8,9,98])
 (.cond (.t 98)
 (.seq (.reg [⟨.mov 4 (.c (.bool false)),none,none⟩] [4])
 (.ret))
 (.skip))))
 (.reg [⟨.mov 79 (.t 9),none,none⟩,
  ⟨.bin 80 .add (.t 79) (.c (.int .i64 1)),none,none⟩,
  ⟨.mov 9 (.t 80),none,none⟩] [0,3,5,7,8,9]))
def nq:VC:= .seq (.seq (.reg [⟨.mov 43 (.t 7),none,none⟩,
    ⟨.fad 44 (.t 3) 1,none,none⟩,
    ⟨.load 45 none (.t 44),none,none⟩,
    ⟨.len 46 (.t 45),none,none⟩,
    ⟨.bin 47 .lss (.t 43) (.t 46),none,none⟩] [0,3,5,7,47])
 (.cond (.t 47)
 (.skip)
 (.exit 2)))
 (.seq (.block 3 (.seq (.reg [⟨.fad 50 (.t 3) 1,none,none⟩,
  ⟨.load 51 none (.t 50),none,none⟩,
  ⟨.mov 52 (.t 7),none,none⟩,
  ⟨.iad 53 gz 2 (.t 51) (.t 52),none,none⟩,
  ⟨.load 54 (some 2) (.t 53),none,none⟩,
  ⟨.alloc 8 [.v (.int .i64 0),.nl oz],none,none⟩,
  ⟨.store 2 (.t 8) (.t 54),none,none⟩] [0,3,5,7,8])
 (.seq (.seq (.reg [⟨.fad 55 (.t 8) 0,none,none⟩,
  ⟨.load 56 none (.t 55),none,none⟩,
  ⟨.mov 57 (.t 0),none,none⟩,
  ⟨.len 58 (.t 57),none,none⟩,
  ⟨.bin 59 .sub (.t 58) (.c (.int .i64 1)),none,none⟩,
  ⟨.call (some 60) dkb [(.t 56),(.c (.int .i64 0)),(.t 59)],none,none⟩,
  ⟨.un 61 .not (.t 60),none,none⟩,
  ⟨.mov 62 (.t 61),none,none⟩,
  ⟨.fad 63 (.t 8) 1,some (62,false),(some 63)⟩,
  ⟨.load 64 none (.t 63),some (62,false),(some 64)⟩,
  ⟨.len 65 (.t 64),some (62,false),(some 65)⟩,
  ⟨.mov 66 (.t 0),some (62,false),(some 66)⟩,
  ⟨.fad 67 (.t 8) 0,some (62,false),(some 67)⟩,
  ⟨.load 68 none (.t 67),some (62,false),(some 68)⟩,
  ⟨.iad 69 mz 1 (.t 66) (.t 68),some (62,false),(some 69)⟩,
  ⟨.load 70 none (.t 69),some (62,false),(some 70)⟩,
  ⟨.slen 71 (.t 70),some (62,false),(some 71)⟩,
  ⟨.bin 72 .neq (.t 65) (.t 71),some (62,false),(some 72)⟩,
  ⟨.pick 73 (.t 62) (.c (.bool true)) (.t 72),none,none⟩] [0,3,5,7,8,73])
 (.cond (.t 73)
 (.seq (.reg [⟨.mov 4 (.c (.bool false)),none,none⟩] [4])
 (.ret))
 (.skip)))
 (.seq (.reg [⟨.mov 9 (.c (.int .i64 0)),none,none⟩] [0,3,5,7,8,9])
 (.block 4 (.loop [0,3,5,7,8,9] zkb))))))
 (.reg [⟨.mov 48 (.t 7),none,none⟩,
  ⟨.bin 49 .add (.t 48) (.c (.int .i64 1)),none,none⟩,
  ⟨.mov 7 (.t 49),none,none⟩] [0,3,5,7]))
def hqb:VC:= .seq (.reg [⟨.box 3 (.t 1),none,none⟩,
    ⟨.mov 4 (.c (.bool false)),none,none⟩] [0,3])
 (.seq (.seq (.reg [⟨.mov 10 (.t 0),none,none⟩,
  ⟨.call (some 11) hqc [(.t 10)],none,none⟩,
  ⟨.un 12 .not (.t 11),none,none⟩,
  ⟨.mov 13 (.t 12),none,none⟩,
  ⟨.fad 14 (.t 3) 0,some (13,false),(some 14)⟩,
  ⟨.load 15 none (.t 14),some (13,false),(some 15)⟩,
  ⟨.len 16 (.t 15),some (13,false),(some 16)⟩,
  ⟨.bin 17 .gtr (.t 16) (.c (.int .i64 40)),some (13,false),(some 17)⟩,
  ⟨.pick 18 (.t 13) (.c (.bool true)) (.t 17),none,none⟩,
  ⟨.mov 19 (.t 18),none,none⟩,
  ⟨.fad 20 (.t 3) 1,some (19,false),(some 20)⟩,
  ⟨.load 21 none (.t 20),some (19,false),(some 21)⟩,
  ⟨.len 22 (.t 21),some (19,false),(some 22)⟩,
  ⟨.bin 23 .gtr (.t 22) (.c (.int .i64 400)),some (19,false),(some 23)⟩,
  ⟨.pick 24 (.t 19) (.c (.bool true)) (.t 23),none,none⟩] [0,3,24])
 (.cond (.t 24)
 (.seq (.reg [⟨.mov 4 (.c (.bool false)),none,none⟩] [4])
 (.ret))
 (.skip)))
 (.seq (.reg [⟨.fad 25 (.t 3) 1,none,none⟩,
  ⟨.load 26 none (.t 25),none,none⟩,
  ⟨.len 27 (.t 26),none,none⟩,
  ⟨.mov 5 (.t 27),none,none⟩] [0,3,5])
 (.seq (.seq (.reg [⟨.mov 6 (.c (.int .i64 0)),none,none⟩] [0,3,5,6])
 (.block 0 (.loop [0,3,5,6] azc)))
 (.seq (.seq (.reg [⟨.mov 7 (.c (.int .i64 0)),none,none⟩] [0,3,5,7])
 (.block 2 (.loop [0,3,5,7] nq)))
 (.seq (.reg [⟨.mov 4 (.c (.bool true)),none,none⟩] [4])
 (.ret))))))
def wx:Fn:=⟨[.ro 0,.ro 0],false,true,[.t 4],hqb⟩
def yxb:VC:= .seq (.reg [⟨.bin 17 .lss (.t 16) (.t 15),none,none⟩] [0,3,5,14,15,16,17])
 (.seq (.cond (.t 17)
 (.skip)
 (.exit 0))
 (.seq (.block 1 (.seq (.reg [⟨.iad 18 oz 1 (.t 14) (.t 16),none,none⟩,
  ⟨.load 19 none (.t 18),none,none⟩,
  ⟨.mov 7 (.t 19),none,none⟩] [0,3,5,7,14,15,16])
 (.reg [⟨.mov 20 (.t 5),none,none⟩,
  ⟨.mov 21 (.t 0),none,none⟩,
  ⟨.fad 22 (.t 3) 1,none,none⟩,
  ⟨.load 23 none (.t 22),none,none⟩,
  ⟨.mov 24 (.t 7),none,none⟩,
  ⟨.iad 25 gz 2 (.t 23) (.t 24),none,none⟩,
  ⟨.fad 26 (.t 25) 0,none,none⟩,
  ⟨.load 27 none (.t 26),none,none⟩,
  ⟨.iad 28 mz 1 (.t 21) (.t 27),none,none⟩,
  ⟨.load 29 none (.t 28),none,none⟩,
  ⟨.call (some 30) hkc [(.t 29)],none,none⟩,
  ⟨.bin 31 .add (.t 20) (.t 30),none,none⟩,
  ⟨.mov 5 (.t 31),none,none⟩] [0,3,5,14,15,16])))
 (.reg [⟨.bin 32 .add (.t 16) (.c (.int .i64 1)),none,none⟩,
  ⟨.mov 16 (.t 32),none,none⟩] [0,3,5,14,15,16])))
def zxc:VC:= .seq (.reg [⟨.box 3 (.t 1),none,none⟩,
    ⟨.mov 4 (.c (.int .i64 0)),none,none⟩] [0,3])
 (.seq (.seq (.reg [⟨.mov 8 (.t 0),none,none⟩,
  ⟨.load 9 (some 2) (.t 3),none,none⟩,
  ⟨.call (some 10) sxb [(.t 8),(.t 9)],none,none⟩,
  ⟨.un 11 .not (.t 10),none,none⟩] [0,3,11])
 (.cond (.t 11)
 (.seq (.reg [⟨.mov 4 (.c (.int .i64 (-1))),none,none⟩] [4])
 (.ret))
 (.skip)))
 (.seq (.reg [⟨.mov 5 (.c (.int .i64 0)),none,none⟩] [0,3,5])
 (.seq (.seq (.reg [⟨.mov 12 (.t 0),none,none⟩,
  ⟨.load 13 (some 2) (.t 3),none,none⟩,
  ⟨.call (some 14) qqb [(.t 12),(.t 13)],none,none⟩,
  ⟨.len 15 (.t 14),none,none⟩,
  ⟨.mov 16 (.c (.int .i64 0)),none,none⟩] [0,3,5,14,15,16])
 (.block 0 (.loop [0,3,5,14,15,16] yxb)))
 (.seq (.reg [⟨.mov 33 (.t 5),none,none⟩,
  ⟨.mov 4 (.t 33),none,none⟩] [4])
 (.ret)))))
def gjb:Fn:=⟨[.ro 0,.ro 0],false,true,[.t 4],zxc⟩
def fxb:VC:= .seq (.seq (.reg [⟨.mov 35 (.t 11),none,none⟩,
    ⟨.fad 36 (.t 7) 0,none,none⟩,
    ⟨.load 37 none (.t 36),none,none⟩,
    ⟨.len 38 (.t 37),none,none⟩,
    ⟨.bin 39 .lss (.t 35) (.t 38),none,none⟩] [3,4,5,6,7,8,9,10,11,39])
 (.cond (.t 39)
 (.skip)
 (.exit 0)))
 (.seq (.block 1 (.reg [⟨.fad 42 (.t 8) 0,none,none⟩,
  ⟨.load 43 none (.t 42),none,none⟩,
  ⟨.fad 44 (.t 7) 0,none,none⟩,
  ⟨.load 45 none (.t 44),none,none⟩,
  ⟨.mov 46 (.t 11),none,none⟩,
  ⟨.iad 47 oz 1 (.t 45) (.t 46),none,none⟩,
  ⟨.load 48 none (.t 47),none,none⟩,
  ⟨.mov 49 (.t 10),none,none⟩,
  ⟨.mov 50 (.t 9),none,none⟩,
  ⟨.call (some 51) mjc [(.t 48),(.t 49),(.t 50)],none,none⟩,
  ⟨.bsl 52 oz 1 [.v (.int .i64 0)] 1 [(0,(.t 51))],none,none⟩,
  ⟨.app 53 oz 8 true (.t 43) (.t 52),none,none⟩,
  ⟨.fad 54 (.t 8) 0,none,none⟩,
  ⟨.store 1 (.t 54) (.t 53),none,none⟩] [3,4,5,6,7,8,9,10,11]))
 (.reg [⟨.mov 40 (.t 11),none,none⟩,
  ⟨.bin 41 .add (.t 40) (.c (.int .i64 1)),none,none⟩,
  ⟨.mov 11 (.t 41),none,none⟩] [3,4,5,6,7,8,9,10,11]))
def ijb:VC:= .seq (.seq (.reg [⟨.mov 72 (.t 15),none,none⟩,
    ⟨.fad 73 (.t 13) 1,none,none⟩,
    ⟨.load 74 none (.t 73),none,none⟩,
    ⟨.len 75 (.t 74),none,none⟩,
    ⟨.bin 76 .lss (.t 72) (.t 75),none,none⟩] [3,4,5,6,7,8,9,10,12,13,14,15,76])
 (.cond (.t 76)
 (.skip)
 (.exit 4)))
 (.seq (.block 5 (.seq (.reg [⟨.fad 79 (.t 13) 1,none,none⟩,
  ⟨.load 80 none (.t 79),none,none⟩,
  ⟨.mov 81 (.t 15),none,none⟩,
  ⟨.iad 82 oz 1 (.t 80) (.t 81),none,none⟩,
  ⟨.load 83 none (.t 82),none,none⟩,
  ⟨.mov 16 (.t 83),none,none⟩] [3,4,5,6,7,8,9,10,12,13,14,15,16])
 (.seq (.seq (.reg [⟨.mov 84 (.t 6),none,none⟩,
  ⟨.fad 85 (.t 13) 0,none,none⟩,
  ⟨.load 86 none (.t 85),none,none⟩,
  ⟨.iad 87 mz 1 (.t 84) (.t 86),none,none⟩,
  ⟨.load 88 none (.t 87),none,none⟩,
  ⟨.mov 89 (.t 15),none,none⟩,
  ⟨.ix 90 (.t 88) (.t 89),none,none⟩,
  ⟨.bin 91 .eql (.t 90) (.c (.int .u8 114)),none,none⟩] [3,4,5,6,7,8,9,10,12,13,14,15,16,91])
 (.cond (.t 91)
 (.reg [⟨.mov 92 (.t 16),none,none⟩,
  ⟨.mov 93 (.t 10),none,none⟩,
  ⟨.mov 94 (.t 9),none,none⟩,
  ⟨.call (some 95) mjc [(.t 92),(.t 93),(.t 94)],none,none⟩,
  ⟨.mov 16 (.t 95),none,none⟩] [3,4,5,6,7,8,9,10,12,13,14,15,16])
 (.skip)))
 (.reg [⟨.fad 96 (.t 14) 1,none,none⟩,
  ⟨.load 97 none (.t 96),none,none⟩,
  ⟨.mov 98 (.t 16),none,none⟩,
  ⟨.bsl 99 oz 1 [.v (.int .i64 0)] 1 [(0,(.t 98))],none,none⟩,
  ⟨.app 100 oz 8 true (.t 97) (.t 99),none,none⟩,
  ⟨.fad 101 (.t 14) 1,none,none⟩,
  ⟨.store 1 (.t 101) (.t 100),none,none⟩] [3,4,5,6,7,8,9,10,12,13,14,15]))))
 (.reg [⟨.mov 77 (.t 15),none,none⟩,
  ⟨.bin 78 .add (.t 77) (.c (.int .i64 1)),none,none⟩,
  ⟨.mov 15 (.t 78),none,none⟩] [3,4,5,6,7,8,9,10,12,13,14,15]))
def exb:VC:= .seq (.seq (.reg [⟨.mov 55 (.t 12),none,none⟩,
    ⟨.mov 56 (.t 9),none,none⟩,
    ⟨.bin 57 .lss (.t 55) (.t 56),none,none⟩] [3,4,5,6,7,8,9,10,12,57])
 (.cond (.t 57)
 (.skip)
 (.exit 2)))
 (.seq (.block 3 (.seq (.reg [⟨.fad 60 (.t 7) 1,none,none⟩,
  ⟨.load 61 none (.t 60),none,none⟩,
  ⟨.mov 62 (.t 12),none,none⟩,
  ⟨.mov 63 (.t 10),none,none⟩,
  ⟨.bin 64 .add (.t 62) (.t 63),none,none⟩,
  ⟨.mov 65 (.t 9),none,none⟩,
  ⟨.bin 66 .rem (.t 64) (.t 65),none,none⟩,
  ⟨.iad 67 gz 2 (.t 61) (.t 66),none,none⟩,
  ⟨.load 68 (some 2) (.t 67),none,none⟩,
  ⟨.alloc 13 [.v (.int .i64 0),.nl oz],none,none⟩,
  ⟨.store 2 (.t 13) (.t 68),none,none⟩] [3,4,5,6,7,8,9,10,12,13])
 (.seq (.reg [⟨.fad 69 (.t 13) 0,none,none⟩,
  ⟨.load 70 none (.t 69),none,none⟩,
  ⟨.build 71 [.v (.int .i64 0),.nl oz] [(0,1,(.t 70))],none,none⟩,
  ⟨.alloc 14 [.v (.int .i64 0),.nl oz],none,none⟩,
  ⟨.store 2 (.t 14) (.t 71),none,none⟩] [3,4,5,6,7,8,9,10,12,13,14])
 (.seq (.seq (.reg [⟨.mov 15 (.c (.int .i64 0)),none,none⟩] [3,4,5,6,7,8,9,10,12,13,14,15])
 (.block 4 (.loop [3,4,5,6,7,8,9,10,12,13,14,15] ijb)))
 (.reg [⟨.fad 102 (.t 8) 1,none,none⟩,
  ⟨.load 103 none (.t 102),none,none⟩,
  ⟨.load 104 (some 2) (.t 14),none,none⟩,
  ⟨.bsl 105 gz 2 [.v (.int .i64 0),.nl oz] 1 [(0,(.t 104))],none,none⟩,
  ⟨.app 106 gz 32 true (.t 103) (.t 105),none,none⟩,
  ⟨.fad 107 (.t 8) 1,none,none⟩,
  ⟨.store 1 (.t 107) (.t 106),none,none⟩] [3,4,5,6,7,8,9,10,12])))))
 (.reg [⟨.mov 58 (.t 12),none,none⟩,
  ⟨.bin 59 .add (.t 58) (.c (.int .i64 1)),none,none⟩,
  ⟨.mov 12 (.t 59),none,none⟩] [3,4,5,6,7,8,9,10,12]))
def szc:VC:= .seq (.reg [⟨.mov 2 (.nl mz),none,none⟩,
    ⟨.alloc 3 [.nl oz,.nl gz],none,none⟩,
    ⟨.alloc 4 [.nl oz,.nl gz],none,none⟩] [0,3,4])
 (.seq (.reg [⟨.mov 18 (.t 0),none,none⟩,
  ⟨.call (some 19) kxc [(.t 18)],none,none⟩,
  ⟨.mov 5 (.t 19),none,none⟩] [3,4,5])
 (.seq (.reg [⟨.mov 20 (.t 5),none,none⟩,
  ⟨.call (some 21) lkb [(.t 20)],none,none⟩,
  ⟨.mov 6 (.t 21),none,none⟩] [3,4,5,6])
 (.seq (.reg [⟨.mov 22 (.t 5),none,none⟩,
  ⟨.mov 23 (.t 6),none,none⟩,
  ⟨.mov 24 (.t 5),none,none⟩,
  ⟨.call (some 25) tz [(.t 24),(.c (.int .i64 4))],none,none⟩,
  ⟨.bin 26 .add (.c (.int .i64 1)) (.t 25),none,none⟩,
  ⟨.call (some 27) nkb [(.t 22),(.t 23),(.t 26),(.c (.int .i64 12))],none,none⟩,
  ⟨.alloc 7 [.nl oz,.nl gz],none,none⟩,
  ⟨.store 2 (.t 7) (.t 27),none,none⟩] [3,4,5,6,7])
 (.seq (.reg [⟨.build 28 [.nl oz,.nl gz] [],none,none⟩,
  ⟨.alloc 8 [.nl oz,.nl gz],none,none⟩,
  ⟨.store 2 (.t 8) (.t 28),none,none⟩] [3,4,5,6,7,8])
 (.seq (.reg [⟨.fad 29 (.t 7) 1,none,none⟩,
  ⟨.load 30 none (.t 29),none,none⟩,
  ⟨.len 31 (.t 30),none,none⟩,
  ⟨.mov 9 (.t 31),none,none⟩] [3,4,5,6,7,8,9])
 (.seq (.reg [⟨.mov 32 (.t 5),none,none⟩,
  ⟨.mov 33 (.t 9),none,none⟩,
  ⟨.call (some 34) tz [(.t 32),(.t 33)],none,none⟩,
  ⟨.mov 10 (.t 34),none,none⟩] [3,4,5,6,7,8,9,10])
 (.seq (.seq (.reg [⟨.mov 11 (.c (.int .i64 0)),none,none⟩] [3,4,5,6,7,8,9,10,11])
 (.block 0 (.loop [3,4,5,6,7,8,9,10,11] fxb)))
 (.seq (.seq (.reg [⟨.mov 12 (.c (.int .i64 0)),none,none⟩] [3,4,5,6,7,8,9,10,12])
 (.block 2 (.loop [3,4,5,6,7,8,9,10,12] exb)))
 (.seq (.seq (.reg [⟨.mov 108 (.t 5),none,none⟩,
  ⟨.call (some 109) nk [(.t 108),(.c (.int .i64 3))],none,none⟩] [3,4,5,6,7,8,9,109])
 (.cond (.t 109)
 (.seq (.regD [⟨.mov 110 (.t 6),none,none⟩,
  ⟨.load 111 (some 2) (.t 7),none,none⟩,
  ⟨.mov 112 (.t 5),none,none⟩,
  ⟨.load 113 (some 2) (.t 8),none,none⟩,
  ⟨.call (some 114) xjb [(.t 112),(.t 113)],none,none⟩,
  ⟨.mov 2 (.t 110),none,none⟩,
  ⟨.store 2 (.t 3) (.t 111),none,none⟩,
  ⟨.store 2 (.t 4) (.t 114),none,none⟩] [2,3,4] [(1,4)])
 (.ret))
 (.skip)))
 (.seq (.seq (.reg [⟨.mov 115 (.t 5),none,none⟩,
  ⟨.call (some 116) nk [(.t 115),(.c (.int .i64 4))],none,none⟩] [3,4,5,6,7,8,9,116])
 (.cond (.t 116)
 (.seq (.regD [⟨.fad 117 (.t 8) 1,none,none⟩,
  ⟨.load 118 none (.t 117),none,none⟩,
  ⟨.mov 119 (.t 5),none,none⟩,
  ⟨.mov 120 (.t 9),none,none⟩,
  ⟨.call (some 121) tz [(.t 119),(.t 120)],none,none⟩,
  ⟨.iad 122 gz 2 (.t 118) (.t 121),none,none⟩,
  ⟨.load 123 (some 2) (.t 122),none,none⟩,
  ⟨.alloc 17 [.v (.int .i64 0),.nl oz],none,none⟩,
  ⟨.store 2 (.t 17) (.t 123),none,none⟩] [3,4,5,6,7,8,9,17] [(0,4),(1,4),(4,7)])
 (.regD [⟨.fad 124 (.t 17) 1,none,none⟩,
  ⟨.load 125 none (.t 124),none,none⟩,
  ⟨.mov 126 (.t 5),none,none⟩,
  ⟨.mov 127 (.t 9),none,none⟩,
  ⟨.bin 128 .add (.t 127) (.c (.int .i64 1)),none,none⟩,
  ⟨.call (some 129) tz [(.t 126),(.t 128)],none,none⟩,
  ⟨.iad 130 oz 1 (.t 125) (.c (.int .i64 0)),none,none⟩,
  ⟨.store 1 (.t 130) (.t 129),none,none⟩] [3,4,6,7,8] [(0,5),(1,5)]))
 (.skip)))
 (.seq (.regD [⟨.mov 131 (.t 6),none,none⟩,
  ⟨.load 132 (some 2) (.t 7),none,none⟩,
  ⟨.load 133 (some 2) (.t 8),none,none⟩,
  ⟨.mov 2 (.t 131),none,none⟩,
  ⟨.store 2 (.t 3) (.t 132),none,none⟩,
  ⟨.store 2 (.t 4) (.t 133),none,none⟩] [2,3,4] [(2,4)])
 (.ret))))))))))))
def tk:Fn:=⟨[.ro 0],true,false,[.t 2,.cell 3 (some 2),.cell 4 (some 2)],szc⟩
def lkc:VC:= .seq (.reg [⟨.box 4 (.t 1),none,none⟩,
    ⟨.box 5 (.t 2),none,none⟩,
    ⟨.mov 6 (.c (.bool false)),none,none⟩] [0,4,5])
 (.seq (.reg [⟨.mov 7 (.t 0),none,none⟩,
  ⟨.load 8 (some 2) (.t 4),none,none⟩,
  ⟨.call (some 9) rxb [(.t 7),(.t 8)],none,none⟩,
  ⟨.mov 10 (.t 9),none,none⟩,
  ⟨.mov 11 (.t 0),some (10,true),(some 11)⟩,
  ⟨.load 12 (some 2) (.t 5),some (10,true),(some 12)⟩,
  ⟨.call (some 13) rxb [(.t 11),(.t 12)],some (10,true),(some 13)⟩,
  ⟨.pick 14 (.t 10) (.t 13) (.c (.bool false)),none,none⟩,
  ⟨.mov 15 (.t 14),none,none⟩,
  ⟨.mov 16 (.t 0),some (15,true),(some 16)⟩,
  ⟨.load 17 (some 2) (.t 4),some (15,true),(some 17)⟩,
  ⟨.call (some 18) izc [(.t 16),(.t 17)],some (15,true),(some 18)⟩,
  ⟨.mov 19 (.t 0),some (15,true),(some 19)⟩,
  ⟨.load 20 (some 2) (.t 5),some (15,true),(some 20)⟩,
  ⟨.call (some 21) izc [(.t 19),(.t 20)],some (15,true),(some 21)⟩,
  ⟨.call (some 22) ixc [(.t 18),(.t 21)],some (15,true),(some 22)⟩,
  ⟨.pick 23 (.t 15) (.t 22) (.c (.bool false)),none,none⟩,
  ⟨.mov 6 (.t 23),none,none⟩] [6])
 (.ret))
def wqb:Fn:=⟨[.ro 0,.ro 0,.ro 0],false,true,[.t 6],lkc⟩
def nkc:VC:= .seq (.reg [⟨.box 4 (.t 1),none,none⟩,
    ⟨.box 5 (.t 2),none,none⟩,
    ⟨.mov 6 (.c (.bool false)),none,none⟩] [0,4,5])
 (.seq (.reg [⟨.mov 7 (.t 0),none,none⟩,
  ⟨.load 8 (some 2) (.t 4),none,none⟩,
  ⟨.call (some 9) sxb [(.t 7),(.t 8)],none,none⟩,
  ⟨.mov 10 (.t 9),none,none⟩,
  ⟨.mov 11 (.t 0),some (10,true),(some 11)⟩,
  ⟨.load 12 (some 2) (.t 5),some (10,true),(some 12)⟩,
  ⟨.call (some 13) sxb [(.t 11),(.t 12)],some (10,true),(some 13)⟩,
  ⟨.pick 14 (.t 10) (.t 13) (.c (.bool false)),none,none⟩,
  ⟨.mov 15 (.t 14),none,none⟩,
  ⟨.mov 16 (.t 0),some (15,true),(some 16)⟩,
  ⟨.load 17 (some 2) (.t 4),some (15,true),(some 17)⟩,
  ⟨.call (some 18) oqc [(.t 16),(.t 17)],some (15,true),(some 18)⟩,
  ⟨.mov 19 (.t 0),some (15,true),(some 19)⟩,
  ⟨.load 20 (some 2) (.t 5),some (15,true),(some 20)⟩,
  ⟨.call (some 21) oqc [(.t 19),(.t 20)],some (15,true),(some 21)⟩,
  ⟨.call (some 22) pzc [(.t 18),(.t 21)],some (15,true),(some 22)⟩,
  ⟨.pick 23 (.t 15) (.t 22) (.c (.bool false)),none,none⟩,
  ⟨.mov 6 (.t 23),none,none⟩] [6])
 (.ret))
def xqb:Fn:=⟨[.ro 0,.ro 0,.ro 0],false,true,[.t 6],nkc⟩
def vxb:VC:= .seq (.reg [⟨.box 2 (.t 0),none,none⟩,
    ⟨.box 3 (.t 1),none,none⟩,
    ⟨.mov 4 (.c (.bool false)),none,none⟩] [2,3])
 (.seq (.seq (.reg [⟨.load 6 none (.t 2),none,none⟩,
  ⟨.call (some 7) jqc [(.t 6)],none,none⟩,
  ⟨.un 8 .not (.t 7),none,none⟩,
  ⟨.mov 9 (.t 8),none,none⟩,
  ⟨.fad 10 (.t 3) 0,some (9,false),(some 10)⟩,
  ⟨.load 11 none (.t 10),some (9,false),(some 11)⟩,
  ⟨.len 12 (.t 11),some (9,false),(some 12)⟩,
  ⟨.bin 13 .gtr (.t 12) (.c (.int .i64 40)),some (9,false),(some 13)⟩,
  ⟨.pick 14 (.t 9) (.c (.bool true)) (.t 13),none,none⟩,
  ⟨.mov 15 (.t 14),none,none⟩,
  ⟨.fad 16 (.t 3) 1,some (15,false),(some 16)⟩,
  ⟨.load 17 none (.t 16),some (15,false),(some 17)⟩,
  ⟨.len 18 (.t 17),some (15,false),(some 18)⟩,
  ⟨.bin 19 .gtr (.t 18) (.c (.int .i64 400)),some (15,false),(some 19)⟩,
  ⟨.pick 20 (.t 15) (.c (.bool true)) (.t 19),none,none⟩] [2,3,20])
 (.cond (.t 20)
 (.seq (.reg [⟨.mov 4 (.c (.bool false)),none,none⟩] [4])
 (.ret))
 (.skip)))
 (.seq (.reg [⟨.mkf 21 rk [] [(.t 3)],none,none⟩,
  ⟨.mov 5 (.t 21),none,none⟩] [2,3,5])
 (.seq (.reg [⟨.fad 22 (.t 3) 0,none,none⟩,
  ⟨.load 23 none (.t 22),none,none⟩,
  ⟨.mov 24 (.t 5),none,none⟩,
  ⟨.call (some 25) xq [(.t 23),(.t 24)],none,none⟩,
  ⟨.un 26 .not (.t 25),none,none⟩,
  ⟨.mov 27 (.t 26),none,none⟩,
  ⟨.fad 28 (.t 3) 1,some (27,true),(some 28)⟩,
  ⟨.load 29 none (.t 28),some (27,true),(some 29)⟩,
  ⟨.mkf 30 qk [] [(.t 2),(.t 3)],some (27,true),(some 30)⟩,
  ⟨.call (some 31) fq [(.t 29),(.t 30)],some (27,true),(some 31)⟩,
  ⟨.un 32 .not (.t 31),some (27,true),(some 32)⟩,
  ⟨.pick 33 (.t 27) (.t 32) (.c (.bool false)),none,none⟩,
  ⟨.mov 4 (.t 33),none,none⟩] [4])
 (.ret))))
def dk:Fn:=⟨[.ro 0,.ro 0],false,true,[.t 4],vxb⟩
def ykb:VC:= .seq (.seq (.reg [⟨.mov 8 (.t 3),none,none⟩,
    ⟨.mov 9 (.t 0),none,none⟩,
    ⟨.len 10 (.t 9),none,none⟩,
    ⟨.bin 11 .lss (.t 8) (.t 10),none,none⟩] [0,3,11])
 (.cond (.t 11)
 (.skip)
 (.exit 0)))
 (.seq (.block 1 (.seq (.reg [⟨.mov 14 (.t 0),none,none⟩,
  ⟨.mov 15 (.t 3),none,none⟩,
  ⟨.iad 16 mz 1 (.t 14) (.t 15),none,none⟩,
  ⟨.load 17 none (.t 16),none,none⟩,
  ⟨.call (some 18) jxc [(.t 17)],none,none⟩,
  ⟨.un 19 .not (.t 18),none,none⟩] [0,3,19])
 (.cond (.t 19)
 (.seq (.reg [⟨.mov 2 (.c (.bool false)),none,none⟩] [2])
 (.ret))
 (.skip))))
 (.reg [⟨.mov 12 (.t 3),none,none⟩,
  ⟨.bin 13 .add (.t 12) (.c (.int .i64 1)),none,none⟩,
  ⟨.mov 3 (.t 13),none,none⟩] [0,3]))
def kqc:VC:= .seq (.reg [⟨.mov 2 (.c (.bool false)),none,none⟩] [0])
 (.seq (.seq (.reg [⟨.mov 4 (.t 0),none,none⟩,
  ⟨.len 5 (.t 4),none,none⟩,
  ⟨.call (some 6) dkb [(.t 5),(.c (.int .i64 1)),(.c (.int .i64 12))],none,none⟩,
  ⟨.un 7 .not (.t 6),none,none⟩] [0,7])
 (.cond (.t 7)
 (.seq (.reg [⟨.mov 2 (.c (.bool false)),none,none⟩] [2])
 (.ret))
 (.skip)))
 (.seq (.seq (.reg [⟨.mov 3 (.c (.int .i64 0)),none,none⟩] [0,3])
 (.block 0 (.loop [0,3] ykb)))
 (.seq (.reg [⟨.mov 2 (.c (.bool true)),none,none⟩] [2])
 (.ret))))
def wzb:Fn:=⟨[.ro 0],false,true,[.t 2],kqc⟩
def ejd:VC:= .seq (.reg [⟨.mov 6 (.c (.bool false)),none,none⟩] [0,1,2])
 (.seq (.reg [⟨.mov 7 (.t 0),none,none⟩,
  ⟨.mov 8 (.t 1),none,none⟩,
  ⟨.bin 9 .geq (.t 7) (.t 8),none,none⟩,
  ⟨.mov 10 (.t 9),none,none⟩,
  ⟨.mov 11 (.t 0),some (10,true),(some 11)⟩,
  ⟨.mov 12 (.t 2),some (10,true),(some 12)⟩,
  ⟨.bin 13 .leq (.t 11) (.t 12),some (10,true),(some 13)⟩,
  ⟨.pick 14 (.t 10) (.t 13) (.c (.bool false)),none,none⟩,
  ⟨.mov 6 (.t 14),none,none⟩] [6])
 (.ret))
def fkb:Fn:=⟨[.ro 0,.ro 0,.ro 0],false,true,[.t 6],ejd⟩
def rzb:VC:= .seq (.reg [⟨.bin 24 .lss (.t 23) (.t 22),none,none⟩] [0,3,5,7,21,22,23,24])
 (.seq (.cond (.t 24)
 (.skip)
 (.exit 0))
 (.seq (.block 1 (.seq (.reg [⟨.iad 25 oz 1 (.t 21) (.t 23),none,none⟩,
  ⟨.load 26 none (.t 25),none,none⟩,
  ⟨.mov 9 (.t 26),none,none⟩] [0,3,5,7,9,21,22,23])
 (.reg [⟨.mov 27 (.t 7),none,none⟩,
  ⟨.mov 28 (.t 9),none,none⟩,
  ⟨.calv (some 29) (.t 27) [(.t 28)],none,none⟩] [0,3,5,7,21,22,23])))
 (.reg [⟨.bin 30 .add (.t 23) (.c (.int .i64 1)),none,none⟩,
  ⟨.mov 23 (.t 30),none,none⟩] [0,3,5,7,21,22,23])))
def nqb:VC:= .seq (.reg [⟨.bin 49 .lss (.t 48) (.t 47),none,none⟩] [0,3,5,7,10,11,46,47,48,49])
 (.seq (.cond (.t 49)
 (.skip)
 (.exit 4))
 (.seq (.block 5 (.seq (.reg [⟨.mov 50 (.t 48),none,none⟩,
  ⟨.iad 51 oz 1 (.t 46) (.t 48),none,none⟩,
  ⟨.load 52 none (.t 51),none,none⟩,
  ⟨.mov 12 (.t 50),none,none⟩,
  ⟨.mov 13 (.t 52),none,none⟩] [0,3,5,7,10,11,12,13,46,47,48])
 (.seq (.reg [⟨.mov 53 (.t 0),none,none⟩,
  ⟨.fad 54 (.t 11) 0,none,none⟩,
  ⟨.load 55 none (.t 54),none,none⟩,
  ⟨.iad 56 mz 1 (.t 53) (.t 55),none,none⟩,
  ⟨.load 57 none (.t 56),none,none⟩,
  ⟨.mov 58 (.t 12),none,none⟩,
  ⟨.ix 59 (.t 57) (.t 58),none,none⟩,
  ⟨.bin 60 .eql (.t 59) (.c (.int .u8 114)),none,none⟩] [0,3,5,7,10,11,13,46,47,48,60])
 (.cond (.t 60)
 (.reg [⟨.mov 61 (.t 7),none,none⟩,
  ⟨.mov 62 (.t 13),none,none⟩,
  ⟨.calv (some 63) (.t 61) [(.t 62)],none,none⟩] [0,3,5,7,10,11,46,47,48])
 (.skip)))))
 (.reg [⟨.bin 64 .add (.t 48) (.c (.int .i64 1)),none,none⟩,
  ⟨.mov 48 (.t 64),none,none⟩] [0,3,5,7,10,11,46,47,48])))
def oqb:VC:= .seq (.seq (.reg [⟨.mov 31 (.t 10),none,none⟩,
    ⟨.load 32 none (.t 5),none,none⟩,
    ⟨.len 33 (.t 32),none,none⟩,
    ⟨.bin 34 .lss (.t 31) (.t 33),none,none⟩] [0,3,5,7,10,34])
 (.cond (.t 34)
 (.skip)
 (.exit 2)))
 (.seq (.block 3 (.seq (.reg [⟨.fad 37 (.t 3) 1,none,none⟩,
  ⟨.load 38 none (.t 37),none,none⟩,
  ⟨.load 39 none (.t 5),none,none⟩,
  ⟨.mov 40 (.t 10),none,none⟩,
  ⟨.iad 41 oz 1 (.t 39) (.t 40),none,none⟩,
  ⟨.load 42 none (.t 41),none,none⟩,
  ⟨.iad 43 gz 2 (.t 38) (.t 42),none,none⟩,
  ⟨.load 44 (some 2) (.t 43),none,none⟩,
  ⟨.alloc 11 [.v (.int .i64 0),.nl oz],none,none⟩,
  ⟨.store 2 (.t 11) (.t 44),none,none⟩] [0,3,5,7,10,11])
 (.seq (.reg [⟨.fad 45 (.t 11) 1,none,none⟩,
  ⟨.load 46 none (.t 45),none,none⟩,
  ⟨.len 47 (.t 46),none,none⟩,
  ⟨.mov 48 (.c (.int .i64 0)),none,none⟩] [0,3,5,7,10,11,46,47,48])
 (.block 4 (.loop [0,3,5,7,10,11,46,47,48] nqb)))))
 (.reg [⟨.mov 35 (.t 10),none,none⟩,
  ⟨.bin 36 .add (.t 35) (.c (.int .i64 1)),none,none⟩,
  ⟨.mov 10 (.t 36),none,none⟩] [0,3,5,7,10]))
def lzd:VC:= .seq (.reg [⟨.box 3 (.t 1),none,none⟩,
    ⟨.mov 4 (.nl oz),none,none⟩] [0,3])
 (.seq (.reg [⟨.bsl 14 oz 1 [.v (.int .i64 0)] 0 [],none,none⟩,
  ⟨.alloc 5 [.nl oz],none,none⟩,
  ⟨.store 1 (.t 5) (.t 14),none,none⟩] [0,3,5])
 (.seq (.reg [⟨.fad 15 (.t 3) 1,none,none⟩,
  ⟨.load 16 none (.t 15),none,none⟩,
  ⟨.len 17 (.t 16),none,none⟩,
  ⟨.mks 18 txc 1 [.v (.bool false)] (.t 17),none,none⟩,
  ⟨.alloc 6 [.nl txc],none,none⟩,
  ⟨.store 1 (.t 6) (.t 18),none,none⟩] [0,3,5,6])
 (.seq (.reg [⟨.mkf 19 djb [] [(.t 6),(.t 5)],none,none⟩,
  ⟨.mov 7 (.t 19),none,none⟩] [0,3,5,7])
 (.seq (.seq (.reg [⟨.fad 20 (.t 3) 0,none,none⟩,
  ⟨.load 21 none (.t 20),none,none⟩,
  ⟨.len 22 (.t 21),none,none⟩,
  ⟨.mov 23 (.c (.int .i64 0)),none,none⟩] [0,3,5,7,21,22,23])
 (.block 0 (.loop [0,3,5,7,21,22,23] rzb)))
 (.seq (.seq (.reg [⟨.mov 10 (.c (.int .i64 0)),none,none⟩] [0,3,5,7,10])
 (.block 2 (.loop [0,3,5,7,10] oqb)))
 (.seq (.reg [⟨.load 65 none (.t 5),none,none⟩,
  ⟨.mov 4 (.t 65),none,none⟩] [4])
 (.ret)))))))
def ajb:Fn:=⟨[.ro 0,.ro 0],false,false,[.t 4],lzd⟩
def vje:VC:= .seq (.reg [⟨.mov 2 (.c (.int .i64 0)),none,none⟩] [0])
 (.seq (.reg [⟨.mov 3 (.t 0),none,none⟩,
  ⟨.slen 4 (.t 3),none,none⟩,
  ⟨.bin 5 .add (.t 4) (.c (.int .i64 8)),none,none⟩,
  ⟨.bin 6 .quo (.t 5) (.c (.int .i64 8)),none,none⟩,
  ⟨.mov 2 (.t 6),none,none⟩] [2])
 (.ret))
def cjc:Fn:=⟨[.ro 0],false,true,[.t 2],vje⟩
def wkb:VC:= .seq (.seq (.reg [⟨.mov 18 (.t 7),none,none⟩,
    ⟨.fad 19 (.t 3) 0,none,none⟩,
    ⟨.load 20 none (.t 19),none,none⟩,
    ⟨.len 21 (.t 20),none,none⟩,
    ⟨.bin 22 .lss (.t 18) (.t 21),none,none⟩] [0,3,5,6,7,22])
 (.cond (.t 22)
 (.skip)
 (.exit 0)))
 (.seq (.block 1 (.seq (.reg [⟨.fad 25 (.t 3) 0,none,none⟩,
  ⟨.load 26 none (.t 25),none,none⟩,
  ⟨.mov 27 (.t 7),none,none⟩,
  ⟨.iad 28 oz 1 (.t 26) (.t 27),none,none⟩,
  ⟨.load 29 none (.t 28),none,none⟩,
  ⟨.bin 30 .sub (.t 29) (.c (.int .i64 1)),none,none⟩,
  ⟨.mov 8 (.t 30),none,none⟩] [0,3,5,6,7,8])
 (.seq (.reg [⟨.mov 31 (.t 8),none,none⟩,
  ⟨.bin 32 .geq (.t 31) (.c (.int .i64 0)),none,none⟩,
  ⟨.mov 33 (.t 32),none,none⟩,
  ⟨.mov 34 (.t 6),some (33,true),(some 34)⟩,
  ⟨.mov 35 (.t 8),some (33,true),(some 35)⟩,
  ⟨.iad 36 txc 1 (.t 34) (.t 35),some (33,true),(some 36)⟩,
  ⟨.load 37 none (.t 36),some (33,true),(some 37)⟩,
  ⟨.un 38 .not (.t 37),some (33,true),(some 38)⟩,
  ⟨.pick 39 (.t 33) (.t 38) (.c (.bool false)),none,none⟩] [0,3,5,6,7,8,39])
 (.cond (.t 39)
 (.seq (.reg [⟨.mov 40 (.t 6),none,none⟩,
  ⟨.mov 41 (.t 8),none,none⟩,
  ⟨.iad 42 txc 1 (.t 40) (.t 41),none,none⟩,
  ⟨.store 1 (.t 42) (.c (.bool true)),none,none⟩] [0,3,5,6,7,8])
 (.reg [⟨.mov 43 (.t 5),none,none⟩,
  ⟨.mov 44 (.t 8),none,none⟩,
  ⟨.bsl 45 oz 1 [.v (.int .i64 0)] 1 [(0,(.t 44))],none,none⟩,
  ⟨.app 46 oz 8 true (.t 43) (.t 45),none,none⟩,
  ⟨.mov 5 (.t 46),none,none⟩] [0,3,5,6,7]))
 (.skip)))))
 (.reg [⟨.mov 23 (.t 7),none,none⟩,
  ⟨.bin 24 .add (.t 23) (.c (.int .i64 1)),none,none⟩,
  ⟨.mov 7 (.t 24),none,none⟩] [0,3,5,6,7]))
def ukb:VC:= .seq (.seq (.reg [⟨.mov 61 (.t 11),none,none⟩,
    ⟨.fad 62 (.t 10) 1,none,none⟩,
    ⟨.load 63 none (.t 62),none,none⟩,
    ⟨.len 64 (.t 63),none,none⟩,
    ⟨.bin 65 .lss (.t 61) (.t 64),none,none⟩] [0,3,5,6,9,10,11,65])
 (.cond (.t 65)
 (.skip)
 (.exit 4)))
 (.seq (.block 5 (.seq (.seq (.reg [⟨.mov 68 (.t 0),none,none⟩,
  ⟨.fad 69 (.t 10) 0,none,none⟩,
  ⟨.load 70 none (.t 69),none,none⟩,
  ⟨.iad 71 mz 1 (.t 68) (.t 70),none,none⟩,
  ⟨.load 72 none (.t 71),none,none⟩,
  ⟨.mov 73 (.t 11),none,none⟩,
  ⟨.ix 74 (.t 72) (.t 73),none,none⟩,
  ⟨.bin 75 .neq (.t 74) (.c (.int .u8 114)),none,none⟩] [0,3,5,6,9,10,11,75])
 (.cond (.t 75)
 (.exit 5)
 (.skip)))
 (.seq (.reg [⟨.fad 76 (.t 10) 1,none,none⟩,
  ⟨.load 77 none (.t 76),none,none⟩,
  ⟨.mov 78 (.t 11),none,none⟩,
  ⟨.iad 79 oz 1 (.t 77) (.t 78),none,none⟩,
  ⟨.load 80 none (.t 79),none,none⟩,
  ⟨.bin 81 .sub (.t 80) (.c (.int .i64 1)),none,none⟩,
  ⟨.mov 12 (.t 81),none,none⟩] [0,3,5,6,9,10,11,12])
 (.seq (.reg [⟨.mov 82 (.t 12),none,none⟩,
  ⟨.bin 83 .geq (.t 82) (.c (.int .i64 0)),none,none⟩,
  ⟨.mov 84 (.t 83),none,none⟩,
  ⟨.mov 85 (.t 6),some (84,true),(some 85)⟩,
  ⟨.mov 86 (.t 12),some (84,true),(some 86)⟩,
  ⟨.iad 87 txc 1 (.t 85) (.t 86),some (84,true),(some 87)⟩,
  ⟨.load 88 none (.t 87),some (84,true),(some 88)⟩,
  ⟨.un 89 .not (.t 88),some (84,true),(some 89)⟩,
  ⟨.pick 90 (.t 84) (.t 89) (.c (.bool false)),none,none⟩] [0,3,5,6,9,10,11,12,90])
 (.cond (.t 90)
 (.seq (.reg [⟨.mov 91 (.t 6),none,none⟩,
  ⟨.mov 92 (.t 12),none,none⟩,
  ⟨.iad 93 txc 1 (.t 91) (.t 92),none,none⟩,
  ⟨.store 1 (.t 93) (.c (.bool true)),none,none⟩] [0,3,5,6,9,10,11,12])
 (.reg [⟨.mov 94 (.t 5),none,none⟩,
  ⟨.mov 95 (.t 12),none,none⟩,
  ⟨.bsl 96 oz 1 [.v (.int .i64 0)] 1 [(0,(.t 95))],none,none⟩,
  ⟨.app 97 oz 8 true (.t 94) (.t 96),none,none⟩,
  ⟨.mov 5 (.t 97),none,none⟩] [0,3,5,6,9,10,11]))
 (.skip))))))
 (.reg [⟨.mov 66 (.t 11),none,none⟩,
  ⟨.bin 67 .add (.t 66) (.c (.int .i64 1)),none,none⟩,
  ⟨.mov 11 (.t 67),none,none⟩] [0,3,5,6,9,10,11]))
def vkb:VC:= .seq (.seq (.reg [⟨.mov 47 (.t 9),none,none⟩,
    ⟨.mov 48 (.t 5),none,none⟩,
    ⟨.len 49 (.t 48),none,none⟩,
    ⟨.bin 50 .lss (.t 47) (.t 49),none,none⟩] [0,3,5,6,9,50])
 (.cond (.t 50)
 (.skip)
 (.exit 2)))
 (.seq (.block 3 (.seq (.reg [⟨.fad 53 (.t 3) 1,none,none⟩,
  ⟨.load 54 none (.t 53),none,none⟩,
  ⟨.mov 55 (.t 5),none,none⟩,
  ⟨.mov 56 (.t 9),none,none⟩,
  ⟨.iad 57 oz 1 (.t 55) (.t 56),none,none⟩,
  ⟨.load 58 none (.t 57),none,none⟩,
  ⟨.iad 59 gz 2 (.t 54) (.t 58),none,none⟩,
  ⟨.load 60 (some 2) (.t 59),none,none⟩,
  ⟨.alloc 10 [.v (.int .i64 0),.nl oz],none,none⟩,
  ⟨.store 2 (.t 10) (.t 60),none,none⟩] [0,3,5,6,9,10])
 (.seq (.reg [⟨.mov 11 (.c (.int .i64 0)),none,none⟩] [0,3,5,6,9,10,11])
 (.block 4 (.loop [0,3,5,6,9,10,11] ukb)))))
 (.reg [⟨.mov 51 (.t 9),none,none⟩,
  ⟨.bin 52 .add (.t 51) (.c (.int .i64 1)),none,none⟩,
  ⟨.mov 9 (.t 52),none,none⟩] [0,3,5,6,9]))
def bxd:VC:= .seq (.reg [⟨.box 3 (.t 1),none,none⟩,
    ⟨.mov 4 (.nl oz),none,none⟩] [0,3])
 (.seq (.reg [⟨.bsl 13 oz 1 [.v (.int .i64 0)] 0 [],none,none⟩,
  ⟨.mov 5 (.t 13),none,none⟩] [0,3,5])
 (.seq (.reg [⟨.fad 14 (.t 3) 1,none,none⟩,
  ⟨.load 15 none (.t 14),none,none⟩,
  ⟨.len 16 (.t 15),none,none⟩,
  ⟨.mks 17 txc 1 [.v (.bool false)] (.t 16),none,none⟩,
  ⟨.mov 6 (.t 17),none,none⟩] [0,3,5,6])
 (.seq (.seq (.reg [⟨.mov 7 (.c (.int .i64 0)),none,none⟩] [0,3,5,6,7])
 (.block 0 (.loop [0,3,5,6,7] wkb)))
 (.seq (.seq (.reg [⟨.mov 9 (.c (.int .i64 0)),none,none⟩] [0,3,5,6,9])
 (.block 2 (.loop [0,3,5,6,9] vkb)))
 (.seq (.reg [⟨.mov 98 (.t 5),none,none⟩,
  ⟨.mov 4 (.t 98),none,none⟩] [4])
 (.ret))))))
def uxb:Fn:=⟨[.ro 0,.ro 0],false,false,[.t 4],bxd⟩
def vjc:VC:= .seq (.reg [⟨.bin 28 .lss (.t 27) (.t 26),none,none⟩] [0,3,4,5,6,25,26,27,28])
 (.seq (.cond (.t 28)
 (.skip)
 (.exit 0))
 (.seq (.block 1 (.seq (.reg [⟨.mov 29 (.t 27),none,none⟩,
  ⟨.iad 30 oz 1 (.t 25) (.t 27),none,none⟩,
  ⟨.load 31 none (.t 30),none,none⟩,
  ⟨.mov 7 (.t 29),none,none⟩,
  ⟨.mov 8 (.t 31),none,none⟩] [0,3,4,5,6,7,8,25,26,27])
 (.reg [⟨.mov 32 (.t 6),none,none⟩,
  ⟨.mov 33 (.t 8),none,none⟩,
  ⟨.bin 34 .add (.t 33) (.c (.int .i64 1)),none,none⟩,
  ⟨.mov 35 (.t 7),none,none⟩,
  ⟨.bin 36 .add (.t 35) (.c (.int .i64 1)),none,none⟩,
  ⟨.iad 37 oz 1 (.t 32) (.t 34),none,none⟩,
  ⟨.store 1 (.t 37) (.t 36),none,none⟩] [0,3,4,5,6,25,26,27])))
 (.reg [⟨.bin 38 .add (.t 27) (.c (.int .i64 1)),none,none⟩,
  ⟨.mov 27 (.t 38),none,none⟩] [0,3,4,5,6,25,26,27])))
def ujc:VC:= .seq (.reg [⟨.bin 44 .lss (.t 43) (.t 42),none,none⟩] [0,3,4,5,6,9,41,42,43,44])
 (.seq (.cond (.t 44)
 (.skip)
 (.exit 2))
 (.seq (.block 3 (.seq (.reg [⟨.iad 45 oz 1 (.t 41) (.t 43),none,none⟩,
  ⟨.load 46 none (.t 45),none,none⟩,
  ⟨.mov 11 (.t 46),none,none⟩] [0,3,4,5,6,9,11,41,42,43])
 (.reg [⟨.fad 47 (.t 9) 0,none,none⟩,
  ⟨.load 48 none (.t 47),none,none⟩,
  ⟨.mov 49 (.t 6),none,none⟩,
  ⟨.mov 50 (.t 11),none,none⟩,
  ⟨.iad 51 oz 1 (.t 49) (.t 50),none,none⟩,
  ⟨.load 52 none (.t 51),none,none⟩,
  ⟨.bsl 53 oz 1 [.v (.int .i64 0)] 1 [(0,(.t 52))],none,none⟩,
  ⟨.app 54 oz 8 true (.t 48) (.t 53),none,none⟩,
  ⟨.fad 55 (.t 9) 0,none,none⟩,
  ⟨.store 1 (.t 55) (.t 54),none,none⟩] [0,3,4,5,6,9,41,42,43])))
 (.reg [⟨.bin 56 .add (.t 43) (.c (.int .i64 1)),none,none⟩,
  ⟨.mov 43 (.t 56),none,none⟩] [0,3,4,5,6,9,41,42,43])))
def sjc:VC:= .seq (.reg [⟨.bin 81 .lss (.t 80) (.t 79),none,none⟩] [0,3,4,6,9,14,57,58,59,78,79,80,81])
 (.seq (.cond (.t 81)
 (.skip)
 (.exit 6))
 (.seq (.block 7 (.seq (.reg [⟨.mov 82 (.t 80),none,none⟩,
  ⟨.iad 83 oz 1 (.t 78) (.t 80),none,none⟩,
  ⟨.load 84 none (.t 83),none,none⟩,
  ⟨.mov 15 (.t 82),none,none⟩,
  ⟨.mov 16 (.t 84),none,none⟩] [0,3,4,6,9,14,15,16,57,58,59,78,79,80])
 (.seq (.reg [⟨.mov 85 (.t 0),none,none⟩,
  ⟨.fad 86 (.t 14) 0,none,none⟩,
  ⟨.load 87 none (.t 86),none,none⟩,
  ⟨.iad 88 mz 1 (.t 85) (.t 87),none,none⟩,
  ⟨.load 89 none (.t 88),none,none⟩,
  ⟨.mov 90 (.t 15),none,none⟩,
  ⟨.ix 91 (.t 89) (.t 90),none,none⟩,
  ⟨.bin 92 .eql (.t 91) (.c (.int .u8 114)),none,none⟩] [0,3,4,6,9,14,15,16,57,58,59,78,79,80,92])
 (.cond (.t 92)
 (.reg [⟨.fad 93 (.t 14) 1,none,none⟩,
  ⟨.load 94 none (.t 93),none,none⟩,
  ⟨.mov 95 (.t 15),none,none⟩,
  ⟨.mov 96 (.t 6),none,none⟩,
  ⟨.mov 97 (.t 16),none,none⟩,
  ⟨.iad 98 oz 1 (.t 96) (.t 97),none,none⟩,
  ⟨.load 99 none (.t 98),none,none⟩,
  ⟨.iad 100 oz 1 (.t 94) (.t 95),none,none⟩,
  ⟨.store 1 (.t 100) (.t 99),none,none⟩] [0,3,4,6,9,14,57,58,59,78,79,80])
 (.skip)))))
 (.reg [⟨.bin 101 .add (.t 80) (.c (.int .i64 1)),none,none⟩,
  ⟨.mov 80 (.t 101),none,none⟩] [0,3,4,6,9,14,57,58,59,78,79,80])))
def tjc:VC:= .seq (.reg [⟨.bin 60 .lss (.t 59) (.t 58),none,none⟩] [0,3,4,6,9,57,58,59,60])
 (.seq (.cond (.t 60)
 (.skip)
 (.exit 4))
 (.seq (.block 5 (.seq (.reg [⟨.iad 61 oz 1 (.t 57) (.t 59),none,none⟩,
  ⟨.load 62 none (.t 61),none,none⟩,
  ⟨.mov 13 (.t 62),none,none⟩] [0,3,4,6,9,13,57,58,59])
 (.seq (.reg [⟨.fad 63 (.t 3) 1,none,none⟩,
  ⟨.load 64 none (.t 63),none,none⟩,
  ⟨.mov 65 (.t 13),none,none⟩,
  ⟨.iad 66 gz 2 (.t 64) (.t 65),none,none⟩,
  ⟨.fad 67 (.t 66) 0,none,none⟩,
  ⟨.load 68 none (.t 67),none,none⟩,
  ⟨.fad 69 (.t 3) 1,none,none⟩,
  ⟨.load 70 none (.t 69),none,none⟩,
  ⟨.mov 71 (.t 13),none,none⟩,
  ⟨.iad 72 gz 2 (.t 70) (.t 71),none,none⟩,
  ⟨.fad 73 (.t 72) 1,none,none⟩,
  ⟨.load 74 none (.t 73),none,none⟩,
  ⟨.call (some 75) mjb [(.t 74)],none,none⟩,
  ⟨.build 76 [.v (.int .i64 0),.nl oz] [(0,1,(.t 68)),(1,1,(.t 75))],none,none⟩,
  ⟨.alloc 14 [.v (.int .i64 0),.nl oz],none,none⟩,
  ⟨.store 2 (.t 14) (.t 76),none,none⟩] [0,3,4,6,9,14,57,58,59])
 (.seq (.seq (.reg [⟨.fad 77 (.t 14) 1,none,none⟩,
  ⟨.load 78 none (.t 77),none,none⟩,
  ⟨.len 79 (.t 78),none,none⟩,
  ⟨.mov 80 (.c (.int .i64 0)),none,none⟩] [0,3,4,6,9,14,57,58,59,78,79,80])
 (.block 6 (.loop [0,3,4,6,9,14,57,58,59,78,79,80] sjc)))
 (.reg [⟨.fad 102 (.t 9) 1,none,none⟩,
  ⟨.load 103 none (.t 102),none,none⟩,
  ⟨.load 104 (some 2) (.t 14),none,none⟩,
  ⟨.bsl 105 gz 2 [.v (.int .i64 0),.nl oz] 1 [(0,(.t 104))],none,none⟩,
  ⟨.app 106 gz 32 true (.t 103) (.t 105),none,none⟩,
  ⟨.fad 107 (.t 9) 1,none,none⟩,
  ⟨.store 1 (.t 107) (.t 106),none,none⟩] [0,3,4,6,9,57,58,59])))))
 (.reg [⟨.bin 108 .add (.t 59) (.c (.int .i64 1)),none,none⟩,
  ⟨.mov 59 (.t 108),none,none⟩] [0,3,4,6,9,57,58,59])))
def wje:VC:= .seq (.reg [⟨.box 3 (.t 1),none,none⟩,
    ⟨.alloc 4 [.nl oz,.nl gz],none,none⟩] [0,3,4])
 (.seq (.reg [⟨.mov 17 (.t 0),none,none⟩,
  ⟨.load 18 (some 2) (.t 3),none,none⟩,
  ⟨.call (some 19) qqb [(.t 17),(.t 18)],none,none⟩,
  ⟨.mov 5 (.t 19),none,none⟩] [0,3,4,5])
 (.seq (.reg [⟨.fad 20 (.t 3) 1,none,none⟩,
  ⟨.load 21 none (.t 20),none,none⟩,
  ⟨.len 22 (.t 21),none,none⟩,
  ⟨.bin 23 .add (.t 22) (.c (.int .i64 1)),none,none⟩,
  ⟨.mks 24 oz 8 [.v (.int .i64 0)] (.t 23),none,none⟩,
  ⟨.mov 6 (.t 24),none,none⟩] [0,3,4,5,6])
 (.seq (.seq (.reg [⟨.mov 25 (.t 5),none,none⟩,
  ⟨.len 26 (.t 25),none,none⟩,
  ⟨.mov 27 (.c (.int .i64 0)),none,none⟩] [0,3,4,5,6,25,26,27])
 (.block 0 (.loop [0,3,4,5,6,25,26,27] vjc)))
 (.seq (.reg [⟨.build 39 [.nl oz,.nl gz] [],none,none⟩,
  ⟨.alloc 9 [.nl oz,.nl gz],none,none⟩,
  ⟨.store 2 (.t 9) (.t 39),none,none⟩] [0,3,4,5,6,9])
 (.seq (.seq (.reg [⟨.fad 40 (.t 3) 0,none,none⟩,
  ⟨.load 41 none (.t 40),none,none⟩,
  ⟨.len 42 (.t 41),none,none⟩,
  ⟨.mov 43 (.c (.int .i64 0)),none,none⟩] [0,3,4,5,6,9,41,42,43])
 (.block 2 (.loop [0,3,4,5,6,9,41,42,43] ujc)))
 (.seq (.seq (.reg [⟨.mov 57 (.t 5),none,none⟩,
  ⟨.len 58 (.t 57),none,none⟩,
  ⟨.mov 59 (.c (.int .i64 0)),none,none⟩] [0,3,4,6,9,57,58,59])
 (.block 4 (.loop [0,3,4,6,9,57,58,59] tjc)))
 (.seq (.reg [⟨.load 109 (some 2) (.t 9),none,none⟩,
  ⟨.store 2 (.t 4) (.t 109),none,none⟩] [4])
 (.ret))))))))
def djc:Fn:=⟨[.ro 0,.ro 0],false,false,[.cell 4 (some 2)],wje⟩
def skb:VC:= .seq (.seq (.reg [⟨.mov 17 (.t 7),none,none⟩,
    ⟨.fad 18 (.t 3) 0,none,none⟩,
    ⟨.load 19 none (.t 18),none,none⟩,
    ⟨.len 20 (.t 19),none,none⟩,
    ⟨.bin 21 .lss (.t 17) (.t 20),none,none⟩] [0,3,4,5,6,7,21])
 (.cond (.t 21)
 (.skip)
 (.exit 0)))
 (.seq (.block 1 (.reg [⟨.fad 24 (.t 6) 0,none,none⟩,
  ⟨.load 25 none (.t 24),none,none⟩,
  ⟨.mov 26 (.t 5),none,none⟩,
  ⟨.fad 27 (.t 3) 0,none,none⟩,
  ⟨.load 28 none (.t 27),none,none⟩,
  ⟨.mov 29 (.t 7),none,none⟩,
  ⟨.iad 30 oz 1 (.t 28) (.t 29),none,none⟩,
  ⟨.load 31 none (.t 30),none,none⟩,
  ⟨.bin 32 .sub (.t 31) (.c (.int .i64 1)),none,none⟩,
  ⟨.call (some 33) jzc [(.t 26),(.t 32)],none,none⟩,
  ⟨.bin 34 .add (.t 33) (.c (.int .i64 1)),none,none⟩,
  ⟨.bsl 35 oz 1 [.v (.int .i64 0)] 1 [(0,(.t 34))],none,none⟩,
  ⟨.app 36 oz 8 true (.t 25) (.t 35),none,none⟩,
  ⟨.fad 37 (.t 6) 0,none,none⟩,
  ⟨.store 1 (.t 37) (.t 36),none,none⟩] [0,3,4,5,6,7]))
 (.reg [⟨.mov 22 (.t 7),none,none⟩,
  ⟨.bin 23 .add (.t 22) (.c (.int .i64 1)),none,none⟩,
  ⟨.mov 7 (.t 23),none,none⟩] [0,3,4,5,6,7]))
def qkb:VC:= .seq (.seq (.reg [⟨.mov 55 (.t 11),none,none⟩,
    ⟨.fad 56 (.t 9) 1,none,none⟩,
    ⟨.load 57 none (.t 56),none,none⟩,
    ⟨.len 58 (.t 57),none,none⟩,
    ⟨.bin 59 .lss (.t 55) (.t 58),none,none⟩] [0,3,4,5,6,8,9,10,11,59])
 (.cond (.t 59)
 (.skip)
 (.exit 4)))
 (.seq (.block 5 (.seq (.reg [⟨.fad 62 (.t 9) 1,none,none⟩,
  ⟨.load 63 none (.t 62),none,none⟩,
  ⟨.mov 64 (.t 11),none,none⟩,
  ⟨.iad 65 oz 1 (.t 63) (.t 64),none,none⟩,
  ⟨.load 66 none (.t 65),none,none⟩,
  ⟨.mov 12 (.t 66),none,none⟩] [0,3,4,5,6,8,9,10,11,12])
 (.seq (.seq (.reg [⟨.mov 67 (.t 0),none,none⟩,
  ⟨.fad 68 (.t 9) 0,none,none⟩,
  ⟨.load 69 none (.t 68),none,none⟩,
  ⟨.iad 70 mz 1 (.t 67) (.t 69),none,none⟩,
  ⟨.load 71 none (.t 70),none,none⟩,
  ⟨.mov 72 (.t 11),none,none⟩,
  ⟨.ix 73 (.t 71) (.t 72),none,none⟩,
  ⟨.bin 74 .eql (.t 73) (.c (.int .u8 114)),none,none⟩] [0,3,4,5,6,8,9,10,11,12,74])
 (.cond (.t 74)
 (.reg [⟨.mov 75 (.t 5),none,none⟩,
  ⟨.mov 76 (.t 12),none,none⟩,
  ⟨.bin 77 .sub (.t 76) (.c (.int .i64 1)),none,none⟩,
  ⟨.call (some 78) jzc [(.t 75),(.t 77)],none,none⟩,
  ⟨.bin 79 .add (.t 78) (.c (.int .i64 1)),none,none⟩,
  ⟨.mov 12 (.t 79),none,none⟩] [0,3,4,5,6,8,9,10,11,12])
 (.skip)))
 (.reg [⟨.fad 80 (.t 10) 1,none,none⟩,
  ⟨.load 81 none (.t 80),none,none⟩,
  ⟨.mov 82 (.t 12),none,none⟩,
  ⟨.bsl 83 oz 1 [.v (.int .i64 0)] 1 [(0,(.t 82))],none,none⟩,
  ⟨.app 84 oz 8 true (.t 81) (.t 83),none,none⟩,
  ⟨.fad 85 (.t 10) 1,none,none⟩,
  ⟨.store 1 (.t 85) (.t 84),none,none⟩] [0,3,4,5,6,8,9,10,11]))))
 (.reg [⟨.mov 60 (.t 11),none,none⟩,
  ⟨.bin 61 .add (.t 60) (.c (.int .i64 1)),none,none⟩,
  ⟨.mov 11 (.t 61),none,none⟩] [0,3,4,5,6,8,9,10,11]))
def rkb:VC:= .seq (.seq (.reg [⟨.mov 38 (.t 8),none,none⟩,
    ⟨.mov 39 (.t 5),none,none⟩,
    ⟨.len 40 (.t 39),none,none⟩,
    ⟨.bin 41 .lss (.t 38) (.t 40),none,none⟩] [0,3,4,5,6,8,41])
 (.cond (.t 41)
 (.skip)
 (.exit 2)))
 (.seq (.block 3 (.seq (.reg [⟨.fad 44 (.t 3) 1,none,none⟩,
  ⟨.load 45 none (.t 44),none,none⟩,
  ⟨.mov 46 (.t 5),none,none⟩,
  ⟨.mov 47 (.t 8),none,none⟩,
  ⟨.iad 48 oz 1 (.t 46) (.t 47),none,none⟩,
  ⟨.load 49 none (.t 48),none,none⟩,
  ⟨.iad 50 gz 2 (.t 45) (.t 49),none,none⟩,
  ⟨.load 51 (some 2) (.t 50),none,none⟩,
  ⟨.alloc 9 [.v (.int .i64 0),.nl oz],none,none⟩,
  ⟨.store 2 (.t 9) (.t 51),none,none⟩] [0,3,4,5,6,8,9])
 (.seq (.reg [⟨.fad 52 (.t 9) 0,none,none⟩,
  ⟨.load 53 none (.t 52),none,none⟩,
  ⟨.build 54 [.v (.int .i64 0),.nl oz] [(0,1,(.t 53))],none,none⟩,
  ⟨.alloc 10 [.v (.int .i64 0),.nl oz],none,none⟩,
  ⟨.store 2 (.t 10) (.t 54),none,none⟩] [0,3,4,5,6,8,9,10])
 (.seq (.seq (.reg [⟨.mov 11 (.c (.int .i64 0)),none,none⟩] [0,3,4,5,6,8,9,10,11])
 (.block 4 (.loop [0,3,4,5,6,8,9,10,11] qkb)))
 (.reg [⟨.fad 86 (.t 6) 1,none,none⟩,
  ⟨.load 87 none (.t 86),none,none⟩,
  ⟨.load 88 (some 2) (.t 10),none,none⟩,
  ⟨.bsl 89 gz 2 [.v (.int .i64 0),.nl oz] 1 [(0,(.t 88))],none,none⟩,
  ⟨.app 90 gz 32 true (.t 87) (.t 89),none,none⟩,
  ⟨.fad 91 (.t 6) 1,none,none⟩,
  ⟨.store 1 (.t 91) (.t 90),none,none⟩] [0,3,4,5,6,8])))))
 (.reg [⟨.mov 42 (.t 8),none,none⟩,
  ⟨.bin 43 .add (.t 42) (.c (.int .i64 1)),none,none⟩,
  ⟨.mov 8 (.t 43),none,none⟩] [0,3,4,5,6,8]))
def axd:VC:= .seq (.reg [⟨.box 3 (.t 1),none,none⟩,
    ⟨.alloc 4 [.nl oz,.nl gz],none,none⟩] [0,3,4])
 (.seq (.reg [⟨.mov 13 (.t 0),none,none⟩,
  ⟨.load 14 (some 2) (.t 3),none,none⟩,
  ⟨.call (some 15) gqc [(.t 13),(.t 14)],none,none⟩,
  ⟨.mov 5 (.t 15),none,none⟩] [0,3,4,5])
 (.seq (.reg [⟨.build 16 [.nl oz,.nl gz] [],none,none⟩,
  ⟨.alloc 6 [.nl oz,.nl gz],none,none⟩,
  ⟨.store 2 (.t 6) (.t 16),none,none⟩] [0,3,4,5,6])
 (.seq (.seq (.reg [⟨.mov 7 (.c (.int .i64 0)),none,none⟩] [0,3,4,5,6,7])
 (.block 0 (.loop [0,3,4,5,6,7] skb)))
 (.seq (.seq (.reg [⟨.mov 8 (.c (.int .i64 0)),none,none⟩] [0,3,4,5,6,8])
 (.block 2 (.loop [0,3,4,5,6,8] rkb)))
 (.seq (.reg [⟨.load 92 (some 2) (.t 6),none,none⟩,
  ⟨.store 2 (.t 4) (.t 92),none,none⟩] [4])
 (.ret))))))
def txb:Fn:=⟨[.ro 0,.ro 0],false,false,[.cell 4 (some 2)],axd⟩
def ykd:VC:= .seq (.reg [⟨.mov 2 (.c (.pointer none)),none,none⟩] [0])
 (.seq (.reg [⟨.mov 3 (.t 0),none,none⟩,
  ⟨.build 4 [.nl t_u8,.v (.int .i64 0)] [(0,1,(.t 3))],none,none⟩,
  ⟨.box 5 (.t 4),none,none⟩,
  ⟨.mov 2 (.t 5),none,none⟩] [2])
 (.ret))
def pkb:Fn:=⟨[.ro 0],true,false,[.t 2],ykd⟩
def nzb:VC:= .seq (.seq (.reg [⟨.mov 14 (.t 4),none,none⟩,
    ⟨.bin 15 .gtr (.t 14) (.c (.int .i64 0)),none,none⟩] [0,3,4,15,10000])
 (.cond (.t 15)
 (.skip)
 (.exit 0)))
 (.seq (.block 1 (.seq (.reg [⟨.mov 5 (.c (.int .i64 5)),none,none⟩] [0,3,4,5,10000])
 (.seq (.seq (.reg [⟨.mov 18 (.t 0),none,none⟩,
  ⟨.call (some 19) nk [(.t 18),(.c (.int .i64 4))],none,none⟩] [0,3,4,5,19,10000])
 (.cond (.t 19)
 (.reg [⟨.mov 5 (.c (.int .i64 23)),none,none⟩] [0,3,4,5,10000])
 (.skip)))
 (.reg [⟨.mov 20 (.t 3),none,none⟩,
  ⟨.mov 21 (.t 0),none,none⟩,
  ⟨.mov 22 (.t 5),none,none⟩,
  ⟨.call (some 23) mkb [(.t 21),(.t 22)],none,none⟩,
  ⟨.bsl 24 mz 1 [.v (.string ⟨#[]⟩)] 1 [(0,(.t 23))],none,none⟩,
  ⟨.app 25 mz 16 true (.t 20) (.t 24),none,none⟩,
  ⟨.mov 3 (.t 25),none,none⟩] [0,3,4,10000]))))
 (.reg [⟨.mov 16 (.t 4),none,none⟩,
  ⟨.bin 17 .sub (.t 16) (.c (.int .i64 1)),none,none⟩,
  ⟨.mov 4 (.t 17),none,none⟩] [0,3,4,10000]))
def uqb:VC:= .seq (.reg [⟨.mov 2 (.nl mz),none,none⟩] [0,10000])
 (.seq (.reg [⟨.bsl 6 mz 1 [.v (.string ⟨#[]⟩)] 4 [(0,(.c (.string ⟨#[105,114]⟩))),(1,(.c (.string ⟨#[114,114,105]⟩))),(2,(.c (.string ⟨#[114,105]⟩))),(3,(.c (.string ⟨#[105,114,114]⟩)))],none,none⟩,
  ⟨.mov 7 (.t 0),none,none⟩,
  ⟨.call (some 8) tz [(.t 7),(.c (.int .i64 4))],none,none⟩,
  ⟨.iad 9 mz 1 (.t 6) (.t 8),none,none⟩,
  ⟨.load 10 none (.t 9),none,none⟩,
  ⟨.bsl 11 mz 1 [.v (.string ⟨#[]⟩)] 1 [(0,(.t 10))],none,none⟩,
  ⟨.mov 3 (.t 11),none,none⟩] [0,3,10000])
 (.seq (.seq (.reg [⟨.mov 12 (.t 0),none,none⟩,
  ⟨.call (some 13) tz [(.t 12),(.c (.int .i64 3))],none,none⟩,
  ⟨.mov 4 (.t 13),none,none⟩] [0,3,4,10000])
 (.block 0 (.loop [0,3,4,10000] nzb)))
 (.seq (.reg [⟨.mov 26 (.t 3),none,none⟩,
  ⟨.mov 2 (.t 26),none,none⟩] [2,10000])
 (.ret))))
def vq:Fn:=⟨[.mut 2],true,false,[.t 2],uqb⟩
def qzb:VC:= .seq (.seq (.reg [⟨.mov 21 (.t 11),none,none⟩,
    ⟨.mov 22 (.t 2),none,none⟩,
    ⟨.bin 23 .lss (.t 21) (.t 22),none,none⟩] [0,1,2,8,9,10,11,23,10000,10001])
 (.cond (.t 23)
 (.skip)
 (.exit 0)))
 (.seq (.block 1 (.seq (.reg [⟨.mov 12 (.c (.int .i64 0)),none,none⟩] [0,1,2,8,9,10,11,12,10000,10001])
 (.seq (.seq (.reg [⟨.mov 26 (.t 0),none,none⟩,
  ⟨.call (some 27) nk [(.t 26),(.c (.int .i64 2))],none,none⟩] [0,1,2,8,9,10,11,12,27,10000,10001])
 (.cond (.t 27)
 (.reg [⟨.mov 28 (.t 0),none,none⟩,
  ⟨.mov 29 (.t 10),none,none⟩,
  ⟨.call (some 30) tz [(.t 28),(.t 29)],none,none⟩,
  ⟨.bin 31 .add (.c (.int .i64 1)) (.t 30),none,none⟩,
  ⟨.mov 12 (.t 31),none,none⟩] [0,1,2,8,9,10,11,12,10000,10001])
 (.skip)))
 (.reg [⟨.fad 32 (.t 9) 0,none,none⟩,
  ⟨.load 33 none (.t 32),none,none⟩,
  ⟨.mov 34 (.t 12),none,none⟩,
  ⟨.bsl 35 oz 1 [.v (.int .i64 0)] 1 [(0,(.t 34))],none,none⟩,
  ⟨.app 36 oz 8 true (.t 33) (.t 35),none,none⟩,
  ⟨.fad 37 (.t 9) 0,none,none⟩,
  ⟨.store 1 (.t 37) (.t 36),none,none⟩] [0,1,2,8,9,10,11,10000,10001]))))
 (.reg [⟨.mov 24 (.t 11),none,none⟩,
  ⟨.bin 25 .add (.t 24) (.c (.int .i64 1)),none,none⟩,
  ⟨.mov 11 (.t 25),none,none⟩] [0,1,2,8,9,10,11,10000,10001]))
def pzb:VC:= .seq (.seq (.reg [⟨.mov 48 (.t 15),none,none⟩,
    ⟨.mov 49 (.t 1),none,none⟩,
    ⟨.fad 50 (.t 14) 0,none,none⟩,
    ⟨.load 51 none (.t 50),none,none⟩,
    ⟨.iad 52 mz 1 (.t 49) (.t 51),none,none⟩,
    ⟨.load 53 none (.t 52),none,none⟩,
    ⟨.slen 54 (.t 53),none,none⟩,
    ⟨.bin 55 .lss (.t 48) (.t 54),none,none⟩] [0,1,8,9,10,13,14,15,55,10000,10001])
 (.cond (.t 55)
 (.skip)
 (.exit 4)))
 (.seq (.block 5 (.seq (.reg [⟨.mov 58 (.t 0),none,none⟩,
  ⟨.call (some 59) tz [(.t 58),(.c (.int .i64 100))],none,none⟩,
  ⟨.bin 60 .sub (.t 59) (.c (.int .i64 20)),none,none⟩,
  ⟨.mov 16 (.t 60),none,none⟩] [0,1,8,9,10,13,14,15,16,10000,10001])
 (.seq (.seq (.reg [⟨.mov 61 (.t 1),none,none⟩,
  ⟨.fad 62 (.t 14) 0,none,none⟩,
  ⟨.load 63 none (.t 62),none,none⟩,
  ⟨.iad 64 mz 1 (.t 61) (.t 63),none,none⟩,
  ⟨.load 65 none (.t 64),none,none⟩,
  ⟨.mov 66 (.t 15),none,none⟩,
  ⟨.ix 67 (.t 65) (.t 66),none,none⟩,
  ⟨.bin 68 .eql (.t 67) (.c (.int .u8 114)),none,none⟩] [0,1,8,9,10,13,14,15,16,68,10000,10001])
 (.cond (.t 68)
 (.reg [⟨.mov 69 (.t 0),none,none⟩,
  ⟨.mov 70 (.t 10),none,none⟩,
  ⟨.bin 71 .add (.t 70) (.c (.int .i64 3)),none,none⟩,
  ⟨.call (some 72) tz [(.t 69),(.t 71)],none,none⟩,
  ⟨.bin 73 .sub (.t 72) (.c (.int .i64 2)),none,none⟩,
  ⟨.mmx 74 true [(.t 73),(.c (.int .i64 0))],none,none⟩,
  ⟨.mov 16 (.t 74),none,none⟩] [0,1,8,9,10,13,14,15,16,10000,10001])
 (.skip)))
 (.reg [⟨.fad 75 (.t 14) 1,none,none⟩,
  ⟨.load 76 none (.t 75),none,none⟩,
  ⟨.mov 77 (.t 16),none,none⟩,
  ⟨.bsl 78 oz 1 [.v (.int .i64 0)] 1 [(0,(.t 77))],none,none⟩,
  ⟨.app 79 oz 8 true (.t 76) (.t 78),none,none⟩,
  ⟨.fad 80 (.t 14) 1,none,none⟩,
  ⟨.store 1 (.t 80) (.t 79),none,none⟩] [0,1,8,9,10,13,14,15,10000,10001]))))
 (.reg [⟨.mov 56 (.t 15),none,none⟩,
  ⟨.bin 57 .add (.t 56) (.c (.int .i64 1)),none,none⟩,
  ⟨.mov 15 (.t 57),none,none⟩] [0,1,8,9,10,13,14,15,10000,10001]))
def mqb:VC:= .seq (.seq (.reg [⟨.mov 38 (.t 13),none,none⟩,
    ⟨.mov 39 (.t 10),none,none⟩,
    ⟨.bin 40 .lss (.t 38) (.t 39),none,none⟩] [0,1,8,9,10,13,40,10000,10001])
 (.cond (.t 40)
 (.skip)
 (.exit 2)))
 (.seq (.block 3 (.seq (.reg [⟨.mov 43 (.t 0),none,none⟩,
  ⟨.mov 44 (.t 1),none,none⟩,
  ⟨.len 45 (.t 44),none,none⟩,
  ⟨.call (some 46) tz [(.t 43),(.t 45)],none,none⟩,
  ⟨.build 47 [.v (.int .i64 0),.nl oz] [(0,1,(.t 46))],none,none⟩,
  ⟨.alloc 14 [.v (.int .i64 0),.nl oz],none,none⟩,
  ⟨.store 2 (.t 14) (.t 47),none,none⟩] [0,1,8,9,10,13,14,10000,10001])
 (.seq (.seq (.reg [⟨.mov 15 (.c (.int .i64 0)),none,none⟩] [0,1,8,9,10,13,14,15,10000,10001])
 (.block 4 (.loop [0,1,8,9,10,13,14,15,10000,10001] pzb)))
 (.reg [⟨.fad 81 (.t 9) 1,none,none⟩,
  ⟨.load 82 none (.t 81),none,none⟩,
  ⟨.load 83 (some 2) (.t 14),none,none⟩,
  ⟨.bsl 84 gz 2 [.v (.int .i64 0),.nl oz] 1 [(0,(.t 83))],none,none⟩,
  ⟨.app 85 gz 32 true (.t 82) (.t 84),none,none⟩,
  ⟨.fad 86 (.t 9) 1,none,none⟩,
  ⟨.store 1 (.t 86) (.t 85),none,none⟩] [0,1,8,9,10,13,10000,10001]))))
 (.reg [⟨.mov 41 (.t 13),none,none⟩,
  ⟨.bin 42 .add (.t 41) (.c (.int .i64 1)),none,none⟩,
  ⟨.mov 13 (.t 42),none,none⟩] [0,1,8,9,10,13,10000,10001]))
def kzd:VC:= .seq (.reg [⟨.alloc 8 [.nl oz,.nl gz],none,none⟩] [0,1,2,3,8,10000,10001])
 (.seq (.reg [⟨.build 17 [.nl oz,.nl gz] [],none,none⟩,
  ⟨.alloc 9 [.nl oz,.nl gz],none,none⟩,
  ⟨.store 2 (.t 9) (.t 17),none,none⟩] [0,1,2,3,8,9,10000,10001])
 (.seq (.reg [⟨.mov 18 (.t 0),none,none⟩,
  ⟨.mov 19 (.t 3),none,none⟩,
  ⟨.call (some 20) mzc [(.t 18),(.c (.int .i64 4)),(.t 19)],none,none⟩,
  ⟨.mov 10 (.t 20),none,none⟩] [0,1,2,8,9,10,10000,10001])
 (.seq (.seq (.reg [⟨.mov 11 (.c (.int .i64 0)),none,none⟩] [0,1,2,8,9,10,11,10000,10001])
 (.block 0 (.loop [0,1,2,8,9,10,11,10000,10001] qzb)))
 (.seq (.seq (.reg [⟨.mov 13 (.c (.int .i64 0)),none,none⟩] [0,1,8,9,10,13,10000,10001])
 (.block 2 (.loop [0,1,8,9,10,13,10000,10001] mqb)))
 (.seq (.reg [⟨.load 87 (some 2) (.t 9),none,none⟩,
  ⟨.store 2 (.t 8) (.t 87),none,none⟩] [8,10000,10001])
 (.ret))))))
def zzb:Fn:=⟨[.mut 2,.mut 0,.ro 0,.ro 0],true,false,[.cell 8 (some 2)],kzd⟩
def xkb:VC:= .seq (.reg [⟨.mov 4 (.c (.int .i64 0)),none,none⟩] [0,1,10000])
 (.seq (.seq (.reg [⟨.mov 6 (.t 1),none,none⟩,
  ⟨.bin 7 .leq (.t 6) (.c (.int .i64 1)),none,none⟩] [0,1,7,10000])
 (.cond (.t 7)
 (.seq (.reg [⟨.mov 4 (.c (.int .i64 0)),none,none⟩] [4,10000])
 (.ret))
 (.skip)))
 (.seq (.seq (.reg [⟨.mov 8 (.t 1),none,none⟩,
  ⟨.bin 9 .leq (.t 8) (.c (.int .i64 256)),none,none⟩] [0,1,9,10000])
 (.cond (.t 9)
 (.seq (.reg [⟨.mov 10 (.t 0),none,none⟩,
  ⟨.call (some 11) gzb [(.t 10)],none,none⟩,
  ⟨.mov 12 (.t 1),none,none⟩,
  ⟨.bin 13 .rem (.t 11) (.t 12),none,none⟩,
  ⟨.mov 4 (.t 13),none,none⟩] [4,10000])
 (.ret))
 (.skip)))
 (.seq (.reg [⟨.mov 14 (.t 0),none,none⟩,
  ⟨.call (some 15) gzb [(.t 14)],none,none⟩,
  ⟨.bin 16 .mul (.t 15) (.c (.int .i64 256)),none,none⟩,
  ⟨.mov 5 (.t 16),none,none⟩] [0,1,5,10000])
 (.seq (.reg [⟨.mov 17 (.t 5),none,none⟩,
  ⟨.mov 18 (.t 0),none,none⟩,
  ⟨.call (some 19) gzb [(.t 18)],none,none⟩,
  ⟨.bin 20 .add (.t 17) (.t 19),none,none⟩,
  ⟨.mov 5 (.t 20),none,none⟩] [1,5,10000])
 (.seq (.reg [⟨.mov 21 (.t 5),none,none⟩,
  ⟨.mov 22 (.t 1),none,none⟩,
  ⟨.bin 23 .rem (.t 21) (.t 22),none,none⟩,
  ⟨.mov 4 (.t 23),none,none⟩] [4,10000])
 (.ret))))))
def lx:Fn:=⟨[.mut 2,.ro 0],true,true,[.t 4],xkb⟩
def cjd:VC:= .seq (.reg [⟨.mov 6 (.c (.int .i64 0)),none,none⟩] [0,1,2])
 (.seq (.seq (.reg [⟨.mov 7 (.t 0),none,none⟩,
  ⟨.bin 8 .eql (.t 7) (.c (.int .i64 0)),none,none⟩] [0,1,2,8])
 (.cond (.t 8)
 (.seq (.reg [⟨.mov 6 (.c (.int .i64 0)),none,none⟩] [6])
 (.ret))
 (.skip)))
 (.seq (.reg [⟨.mov 9 (.t 0),none,none⟩,
  ⟨.bin 10 .sub (.t 9) (.c (.int .i64 1)),none,none⟩,
  ⟨.mov 11 (.t 2),none,none⟩,
  ⟨.bin 12 .add (.t 10) (.t 11),none,none⟩,
  ⟨.mov 13 (.t 1),none,none⟩,
  ⟨.bin 14 .sub (.t 12) (.t 13),none,none⟩,
  ⟨.mov 15 (.t 2),none,none⟩,
  ⟨.bin 16 .rem (.t 14) (.t 15),none,none⟩,
  ⟨.bin 17 .add (.t 16) (.c (.int .i64 1)),none,none⟩,
  ⟨.mov 6 (.t 17),none,none⟩] [6])
 (.ret)))
def bxb:Fn:=⟨[.ro 0,.ro 0,.ro 0],false,true,[.t 6],cjd⟩
def jjd:VC:= .seq (.reg [⟨.mov 4 (.c (.bool false)),none,none⟩] [0,1,10000])
 (.seq (.reg [⟨.mov 5 (.t 0),none,none⟩,
  ⟨.mov 6 (.t 1),none,none⟩,
  ⟨.call (some 7) tz [(.t 5),(.t 6)],none,none⟩,
  ⟨.mov 8 (.t 1),none,none⟩,
  ⟨.bin 9 .sub (.t 8) (.c (.int .i64 1)),none,none⟩,
  ⟨.bin 10 .eql (.t 7) (.t 9),none,none⟩,
  ⟨.mov 4 (.t 10),none,none⟩] [4,10000])
 (.ret))
def jzb:Fn:=⟨[.mut 2,.ro 0],true,true,[.t 4],jjd⟩
def cq:VC:= .seq (.seq (.reg [⟨.mov 77 (.t 6),none,none⟩,
    ⟨.bin 78 .lss (.t 77) (.c (.int .i64 42)),none,none⟩,
    ⟨.mov 79 (.t 78),none,none⟩,
    ⟨.fad 80 (.t 3) 0,some (79,true),(some 80)⟩,
    ⟨.load 81 none (.t 80),some (79,true),(some 81)⟩,
    ⟨.len 82 (.t 81),some (79,true),(some 82)⟩,
    ⟨.mov 83 (.t 5),some (79,true),(some 83)⟩,
    ⟨.bin 84 .rem (.t 83) (.c (.int .i64 3)),some (79,true),(some 84)⟩,
    ⟨.bin 85 .add (.c (.int .i64 39)) (.t 84),some (79,true),(some 85)⟩,
    ⟨.bin 86 .lss (.t 82) (.t 85),some (79,true),(some 86)⟩,
    ⟨.pick 87 (.t 79) (.t 86) (.c (.bool false)),none,none⟩] [3,4,5,6,87,10000,10001])
 (.cond (.t 87)
 (.skip)
 (.exit 1)))
 (.seq (.block 2 (.reg [⟨.fad 90 (.t 3) 0,none,none⟩,
  ⟨.load 91 none (.t 90),none,none⟩,
  ⟨.bsl 92 oz 1 [.v (.int .i64 0)] 1 [(0,(.c (.int .i64 1)))],none,none⟩,
  ⟨.app 93 oz 8 true (.t 91) (.t 92),none,none⟩,
  ⟨.fad 94 (.t 3) 0,none,none⟩,
  ⟨.store 1 (.t 94) (.t 93),none,none⟩] [3,4,5,6,10000,10001]))
 (.reg [⟨.mov 88 (.t 6),none,none⟩,
  ⟨.bin 89 .add (.t 88) (.c (.int .i64 1)),none,none⟩,
  ⟨.mov 6 (.t 89),none,none⟩] [3,4,5,6,10000,10001]))
def iq:VC:= .seq (.reg [⟨.box 3 (.t 1),none,none⟩,
    ⟨.alloc 4 [.nl oz,.nl gz],none,none⟩] [0,3,4,10000,10001])
 (.seq (.reg [⟨.mov 7 (.t 0),none,none⟩,
  ⟨.fad 8 (.t 3) 1,none,none⟩,
  ⟨.load 9 none (.t 8),none,none⟩,
  ⟨.len 10 (.t 9),none,none⟩,
  ⟨.call (some 11) tz [(.t 7),(.t 10)],none,none⟩,
  ⟨.mov 5 (.t 11),none,none⟩] [0,3,4,5,10000,10001])
 (.seq (.seq (.reg [⟨.mov 12 (.t 0),none,none⟩,
  ⟨.call (some 13) tz [(.t 12),(.c (.int .i64 24))],none,none⟩] [0,3,4,5,13,10000,10001])
 (.block 0 (.seq (.reg [⟨.bin 15 .eql (.t 13) (.c (.int .i64 0)),none,none⟩,
  ⟨.mov 14 (.t 15),none,none⟩] [0,3,4,5,13,14,10000,10001])
 (.cond (.t 14)
 (.regD [⟨.fad 16 (.t 3) 0,none,none⟩,
  ⟨.load 17 none (.t 16),none,none⟩,
  ⟨.mov 18 (.t 0),none,none⟩,
  ⟨.fad 19 (.t 3) 1,none,none⟩,
  ⟨.load 20 none (.t 19),none,none⟩,
  ⟨.len 21 (.t 20),none,none⟩,
  ⟨.call (some 22) cjb [(.t 18),(.c (.int .i64 0)),(.t 21)],none,none⟩,
  ⟨.bsl 23 oz 1 [.v (.int .i64 0)] 1 [(0,(.t 22))],none,none⟩,
  ⟨.app 24 oz 8 true (.t 17) (.t 23),none,none⟩,
  ⟨.fad 25 (.t 3) 0,none,none⟩,
  ⟨.store 1 (.t 25) (.t 24),none,none⟩] [3,4,10000,10001] [(0,6),(1,6)])
 (.seq (.reg [⟨.bin 27 .eql (.t 13) (.c (.int .i64 1)),none,none⟩,
  ⟨.mov 26 (.t 27),none,none⟩] [0,3,4,5,13,26,10000,10001])
 (.cond (.t 26)
 (.regD [⟨.fad 28 (.t 3) 1,none,none⟩,
  ⟨.load 29 none (.t 28),none,none⟩,
  ⟨.mov 30 (.t 5),none,none⟩,
  ⟨.mov 31 (.t 0),none,none⟩,
  ⟨.call (some 32) cjb [(.t 31),(.c (.int .i64 0)),(.c (.int .i64 2))],none,none⟩,
  ⟨.iad 33 gz 2 (.t 29) (.t 30),none,none⟩,
  ⟨.fad 34 (.t 33) 0,none,none⟩,
  ⟨.store 1 (.t 34) (.t 32),none,none⟩] [3,4,10000,10001] [(0,4),(1,4)])
 (.seq (.reg [⟨.bin 36 .eql (.t 13) (.c (.int .i64 2)),none,none⟩,
  ⟨.mov 35 (.t 36),none,none⟩] [0,3,4,5,13,35,10000,10001])
 (.cond (.t 35)
 (.regD [⟨.fad 37 (.t 3) 1,none,none⟩,
  ⟨.load 38 none (.t 37),none,none⟩,
  ⟨.mov 39 (.t 5),none,none⟩,
  ⟨.fad 40 (.t 3) 1,none,none⟩,
  ⟨.load 41 none (.t 40),none,none⟩,
  ⟨.mov 42 (.t 5),none,none⟩,
  ⟨.iad 43 gz 2 (.t 41) (.t 42),none,none⟩,
  ⟨.fad 44 (.t 43) 1,none,none⟩,
  ⟨.load 45 none (.t 44),none,none⟩,
  ⟨.bsl 46 oz 1 [.v (.int .i64 0)] 1 [(0,(.c (.int .i64 1)))],none,none⟩,
  ⟨.app 47 oz 8 true (.t 45) (.t 46),none,none⟩,
  ⟨.iad 48 gz 2 (.t 38) (.t 39),none,none⟩,
  ⟨.fad 49 (.t 48) 1,none,none⟩,
  ⟨.store 1 (.t 49) (.t 47),none,none⟩] [3,4,10000,10001] [(0,10),(1,10)])
 (.seq (.reg [⟨.bin 51 .eql (.t 13) (.c (.int .i64 3)),none,none⟩,
  ⟨.mov 50 (.t 51),none,none⟩] [0,3,4,5,13,50,10000,10001])
 (.cond (.t 50)
 (.regD [⟨.fad 52 (.t 3) 1,none,none⟩,
  ⟨.load 53 none (.t 52),none,none⟩,
  ⟨.mov 54 (.t 5),none,none⟩,
  ⟨.iad 55 gz 2 (.t 53) (.t 54),none,none⟩,
  ⟨.fad 56 (.t 55) 1,none,none⟩,
  ⟨.load 57 none (.t 56),none,none⟩,
  ⟨.mov 58 (.t 0),none,none⟩,
  ⟨.fad 59 (.t 3) 1,none,none⟩,
  ⟨.load 60 none (.t 59),none,none⟩,
  ⟨.len 61 (.t 60),none,none⟩,
  ⟨.call (some 62) cjb [(.t 58),(.c (.int .i64 0)),(.t 61)],none,none⟩,
  ⟨.iad 63 oz 1 (.t 57) (.c (.int .i64 0)),none,none⟩,
  ⟨.store 1 (.t 63) (.t 62),none,none⟩] [3,4,10000,10001] [(0,10),(1,10),(3,10),(4,10),(5,10)])
 (.seq (.reg [⟨.bin 65 .eql (.t 13) (.c (.int .i64 4)),none,none⟩,
  ⟨.mov 64 (.t 65),none,none⟩] [0,3,4,5,13,64,10000,10001])
 (.cond (.t 64)
 (.regD [⟨.fad 66 (.t 3) 1,none,none⟩,
  ⟨.load 67 none (.t 66),none,none⟩,
  ⟨.mov 68 (.t 5),none,none⟩,
  ⟨.iad 69 gz 2 (.t 67) (.t 68),none,none⟩,
  ⟨.fad 70 (.t 69) 1,none,none⟩,
  ⟨.load 71 none (.t 70),none,none⟩,
  ⟨.mov 72 (.t 0),none,none⟩,
  ⟨.call (some 73) cjb [(.t 72),(.c (.int .i64 (-999999999999999))),(.c (.int .i64 999999999999999))],none,none⟩,
  ⟨.iad 74 oz 1 (.t 71) (.c (.int .i64 0)),none,none⟩,
  ⟨.store 1 (.t 74) (.t 73),none,none⟩] [3,4,10000,10001] [(0,7),(1,7),(3,7),(4,7),(5,7)])
 (.seq (.reg [⟨.bin 76 .eql (.t 13) (.c (.int .i64 5)),none,none⟩,
  ⟨.mov 75 (.t 76),none,none⟩] [3,4,5,75,10000,10001])
 (.cond (.t 75)
 (.seq (.reg [⟨.mov 6 (.c (.int .i64 0)),none,none⟩] [3,4,5,6,10000,10001])
 (.block 1 (.loop [3,4,5,6,10000,10001] cq)))
 (.skip)))))))))))))))
 (.seq (.reg [⟨.load 95 (some 2) (.t 3),none,none⟩,
  ⟨.store 2 (.t 4) (.t 95),none,none⟩] [4,10000,10001])
 (.ret))))
def aj:Fn:=⟨[.mut 2,.mut 0],true,false,[.cell 4 (some 2)],iq⟩
def tjb:VC:= .seq (.seq (.reg [⟨.mov 21 (.t 5),none,none⟩,
    ⟨.fad 22 (.t 2) 1,none,none⟩,
    ⟨.load 23 none (.t 22),none,none⟩,
    ⟨.len 24 (.t 23),none,none⟩,
    ⟨.bin 25 .lss (.t 21) (.t 24),none,none⟩] [2,3,5,25])
 (.cond (.t 25)
 (.skip)
 (.exit 0)))
 (.seq (.block 1 (.seq (.reg [⟨.fad 28 (.t 2) 1,none,none⟩,
  ⟨.load 29 none (.t 28),none,none⟩,
  ⟨.mov 30 (.t 5),none,none⟩,
  ⟨.iad 31 gz 2 (.t 29) (.t 30),none,none⟩,
  ⟨.fad 32 (.t 31) 0,none,none⟩,
  ⟨.load 33 none (.t 32),none,none⟩,
  ⟨.fad 34 (.t 3) 1,none,none⟩,
  ⟨.load 35 none (.t 34),none,none⟩,
  ⟨.mov 36 (.t 5),none,none⟩,
  ⟨.iad 37 gz 2 (.t 35) (.t 36),none,none⟩,
  ⟨.fad 38 (.t 37) 0,none,none⟩,
  ⟨.load 39 none (.t 38),none,none⟩,
  ⟨.bin 40 .neq (.t 33) (.t 39),none,none⟩,
  ⟨.mov 41 (.t 40),none,none⟩,
  ⟨.fad 42 (.t 2) 1,some (41,false),(some 42)⟩,
  ⟨.load 43 none (.t 42),some (41,false),(some 43)⟩,
  ⟨.mov 44 (.t 5),some (41,false),(some 44)⟩,
  ⟨.iad 45 gz 2 (.t 43) (.t 44),some (41,false),(some 45)⟩,
  ⟨.fad 46 (.t 45) 1,some (41,false),(some 46)⟩,
  ⟨.load 47 none (.t 46),some (41,false),(some 47)⟩,
  ⟨.fad 48 (.t 3) 1,some (41,false),(some 48)⟩,
  ⟨.load 49 none (.t 48),some (41,false),(some 49)⟩,
  ⟨.mov 50 (.t 5),some (41,false),(some 50)⟩,
  ⟨.iad 51 gz 2 (.t 49) (.t 50),some (41,false),(some 51)⟩,
  ⟨.fad 52 (.t 51) 1,some (41,false),(some 52)⟩,
  ⟨.load 53 none (.t 52),some (41,false),(some 53)⟩,
  ⟨.call (some 54) njc [(.t 47),(.t 53)],some (41,false),(some 54)⟩,
  ⟨.un 55 .not (.t 54),some (41,false),(some 55)⟩,
  ⟨.pick 56 (.t 41) (.c (.bool true)) (.t 55),none,none⟩] [2,3,5,56])
 (.cond (.t 56)
 (.seq (.reg [⟨.mov 4 (.c (.bool false)),none,none⟩] [4])
 (.ret))
 (.skip))))
 (.reg [⟨.mov 26 (.t 5),none,none⟩,
  ⟨.bin 27 .add (.t 26) (.c (.int .i64 1)),none,none⟩,
  ⟨.mov 5 (.t 27),none,none⟩] [2,3,5]))
def rjc:VC:= .seq (.reg [⟨.box 2 (.t 0),none,none⟩,
    ⟨.box 3 (.t 1),none,none⟩,
    ⟨.mov 4 (.c (.bool false)),none,none⟩] [2,3])
 (.seq (.seq (.reg [⟨.fad 6 (.t 2) 0,none,none⟩,
  ⟨.load 7 none (.t 6),none,none⟩,
  ⟨.fad 8 (.t 3) 0,none,none⟩,
  ⟨.load 9 none (.t 8),none,none⟩,
  ⟨.call (some 10) njc [(.t 7),(.t 9)],none,none⟩,
  ⟨.un 11 .not (.t 10),none,none⟩,
  ⟨.mov 12 (.t 11),none,none⟩,
  ⟨.fad 13 (.t 2) 1,some (12,false),(some 13)⟩,
  ⟨.load 14 none (.t 13),some (12,false),(some 14)⟩,
  ⟨.len 15 (.t 14),some (12,false),(some 15)⟩,
  ⟨.fad 16 (.t 3) 1,some (12,false),(some 16)⟩,
  ⟨.load 17 none (.t 16),some (12,false),(some 17)⟩,
  ⟨.len 18 (.t 17),some (12,false),(some 18)⟩,
  ⟨.bin 19 .neq (.t 15) (.t 18),some (12,false),(some 19)⟩,
  ⟨.pick 20 (.t 12) (.c (.bool true)) (.t 19),none,none⟩] [2,3,20])
 (.cond (.t 20)
 (.seq (.reg [⟨.mov 4 (.c (.bool false)),none,none⟩] [4])
 (.ret))
 (.skip)))
 (.seq (.seq (.reg [⟨.mov 5 (.c (.int .i64 0)),none,none⟩] [2,3,5])
 (.block 0 (.loop [2,3,5] tjb)))
 (.seq (.reg [⟨.mov 4 (.c (.bool true)),none,none⟩] [4])
 (.ret))))
def uzb:Fn:=⟨[.ro 0,.ro 0],false,true,[.t 4],rjc⟩
def yqc:VC:= .seq (.reg [⟨.box 2 (.t 0),none,none⟩,
    ⟨.box 3 (.t 1),none,none⟩,
    ⟨.mov 4 (.c (.bool false)),none,none⟩] [2,3])
 (.seq (.reg [⟨.fad 5 (.t 2) 0,none,none⟩,
  ⟨.load 6 none (.t 5),none,none⟩,
  ⟨.fad 7 (.t 3) 0,none,none⟩,
  ⟨.load 8 none (.t 7),none,none⟩,
  ⟨.call (some 9) px [(.t 6),(.t 8)],none,none⟩,
  ⟨.mov 10 (.t 9),none,none⟩,
  ⟨.fad 11 (.t 2) 1,some (10,true),(some 11)⟩,
  ⟨.load 12 none (.t 11),some (10,true),(some 12)⟩,
  ⟨.fad 13 (.t 3) 1,some (10,true),(some 13)⟩,
  ⟨.load 14 none (.t 13),some (10,true),(some 14)⟩,
  ⟨.call (some 15) vz [(.t 12),(.t 14),(.f cqb)],some (10,true),(some 15)⟩,
  ⟨.pick 16 (.t 10) (.t 15) (.c (.bool false)),none,none⟩,
  ⟨.mov 4 (.t 16),none,none⟩] [4])
 (.ret))
def lzb:Fn:=⟨[.ro 0,.ro 0],false,true,[.t 4],yqc⟩
def zkc:VC:= .seq (.reg [⟨.mov 2 (.c (.bool false)),none,none⟩] [0])
 (.seq (.reg [⟨.mov 3 (.t 0),none,none⟩,
  ⟨.call (some 4) yjb [(.t 3)],none,none⟩,
  ⟨.call (some 5) yqb [(.t 4),(.c (.int .i64 1)),(.c (.int .i64 12))],none,none⟩,
  ⟨.mov 6 (.t 5),none,none⟩,
  ⟨.mov 7 (.t 0),some (6,true),(some 7)⟩,
  ⟨.call (some 8) pq [(.t 7),(.f pk)],some (6,true),(some 8)⟩,
  ⟨.un 9 .not (.t 8),some (6,true),(some 9)⟩,
  ⟨.pick 10 (.t 6) (.t 9) (.c (.bool false)),none,none⟩,
  ⟨.mov 2 (.t 10),none,none⟩] [2])
 (.ret))
def gqb:Fn:=⟨[.ro 0],false,true,[.t 2],zkc⟩
def mjd:VC:= .seq (.reg [⟨.mov 3 (.c (.bool false)),none,none⟩] [0,1])
 (.seq (.reg [⟨.load 4 (some 2) (.t 1),none,none⟩,
  ⟨.mov 5 (.t 0),none,none⟩,
  ⟨.call (some 6) gx [(.t 4),(.t 5)],none,none⟩,
  ⟨.un 7 .not (.t 6),none,none⟩,
  ⟨.mov 3 (.t 7),none,none⟩] [3])
 (.ret))
def sjb:Fn:=⟨[.ro 0,.ro 0],false,true,[.t 3],mjd⟩
def akc:VC:= .seq (.reg [⟨.box 2 (.t 0),none,none⟩,
    ⟨.mov 4 (.c (.bool false)),none,none⟩] [1,2])
 (.seq (.reg [⟨.mov 5 (.t 1),none,none⟩,
  ⟨.fad 6 (.t 2) 1,none,none⟩,
  ⟨.load 7 none (.t 6),none,none⟩,
  ⟨.call (some 8) lqb [(.t 7)],none,none⟩,
  ⟨.call (some 9) yqb [(.t 5),(.c (.int .i64 0)),(.t 8)],none,none⟩,
  ⟨.mov 4 (.t 9),none,none⟩] [4])
 (.ret))
def xk:Fn:=⟨[.ro 0,.ro 0],false,true,[.t 4],akc⟩
def bqb:VC:= .seq (.reg [⟨.mov 4 (.c (.bool false)),none,none⟩] [0,1])
 (.seq (.reg [⟨.mov 5 (.t 0),none,none⟩,
  ⟨.mov 6 (.t 1),none,none⟩,
  ⟨.call (some 7) qx [(.t 5),(.t 6)],none,none⟩,
  ⟨.bin 8 .geq (.t 7) (.c (.int .i64 0)),none,none⟩,
  ⟨.mov 4 (.t 8),none,none⟩] [4])
 (.ret))
def uj:Fn:=⟨[.ro 0,.ro 0],false,true,[.t 4],bqb⟩
def bzb:VC:= .seq (.reg [⟨.mov 4 (.c (.bool false)),none,none⟩] [0,1])
 (.seq (.reg [⟨.mov 5 (.t 0),none,none⟩,
  ⟨.mov 6 (.t 1),none,none⟩,
  ⟨.call (some 7) oq [(.t 5),(.t 6)],none,none⟩,
  ⟨.bin 8 .geq (.t 7) (.c (.int .i64 0)),none,none⟩,
  ⟨.mov 4 (.t 8),none,none⟩] [4])
 (.ret))
def cj:Fn:=⟨[.ro 0,.ro 0],false,true,[.t 4],bzb⟩
def ljd:VC:= .seq (.reg [⟨.box 3 (.t 0),none,none⟩,
    ⟨.mov 4 (.c (.bool false)),none,none⟩] [1,2,3])
 (.seq (.reg [⟨.load 5 none (.t 1),none,none⟩,
  ⟨.load 6 (some 2) (.t 3),none,none⟩,
  ⟨.load 7 (some 2) (.t 2),none,none⟩,
  ⟨.mkf 8 gx [(.t 7)] [],none,none⟩,
  ⟨.call (some 9) ojc [(.t 5),(.t 6),(.t 8)],none,none⟩,
  ⟨.un 10 .not (.t 9),none,none⟩,
  ⟨.mov 4 (.t 10),none,none⟩] [4])
 (.ret))
def rjb:Fn:=⟨[.ro 0,.ro 0,.ro 0],false,true,[.t 4],ljd⟩
def xxb:VC:= .seq (.reg [⟨.bin 32 .lss (.t 31) (.t 30),none,none⟩] [0,2,4,29,30,31,32])
 (.seq (.cond (.t 32)
 (.skip)
 (.exit 0))
 (.seq (.block 1 (.seq (.reg [⟨.mov 33 (.t 31),none,none⟩,
  ⟨.iad 34 oz 1 (.t 29) (.t 31),none,none⟩,
  ⟨.load 35 none (.t 34),none,none⟩,
  ⟨.mov 7 (.t 33),none,none⟩,
  ⟨.mov 8 (.t 35),none,none⟩] [0,2,4,7,8,29,30,31])
 (.seq (.reg [⟨.mov 36 (.t 0),none,none⟩,
  ⟨.fad 37 (.t 4) 0,none,none⟩,
  ⟨.load 38 none (.t 37),none,none⟩,
  ⟨.iad 39 mz 1 (.t 36) (.t 38),none,none⟩,
  ⟨.load 40 none (.t 39),none,none⟩,
  ⟨.mov 41 (.t 7),none,none⟩,
  ⟨.ix 42 (.t 40) (.t 41),none,none⟩,
  ⟨.bin 43 .eql (.t 42) (.c (.int .u8 114)),none,none⟩,
  ⟨.mov 44 (.t 43),none,none⟩,
  ⟨.mov 45 (.t 2),some (44,true),(some 45)⟩,
  ⟨.mov 46 (.t 8),some (44,true),(some 46)⟩,
  ⟨.calv (some 47) (.t 45) [(.t 46)],some (44,true),(some 47)⟩,
  ⟨.un 48 .not (.t 47),some (44,true),(some 48)⟩,
  ⟨.pick 49 (.t 44) (.t 48) (.c (.bool false)),none,none⟩] [0,2,4,29,30,31,49])
 (.cond (.t 49)
 (.seq (.reg [⟨.mov 6 (.c (.bool false)),none,none⟩] [6])
 (.ret))
 (.skip)))))
 (.reg [⟨.bin 50 .add (.t 31) (.c (.int .i64 1)),none,none⟩,
  ⟨.mov 31 (.t 50),none,none⟩] [0,2,4,29,30,31])))
def gkb:VC:= .seq (.reg [⟨.box 4 (.t 1),none,none⟩,
    ⟨.mov 6 (.c (.bool false)),none,none⟩] [0,2,4])
 (.seq (.seq (.reg [⟨.fad 9 (.t 4) 0,none,none⟩,
  ⟨.load 10 none (.t 9),none,none⟩,
  ⟨.mov 11 (.t 0),none,none⟩,
  ⟨.call (some 12) yjb [(.t 11)],none,none⟩,
  ⟨.bin 13 .sub (.t 12) (.c (.int .i64 1)),none,none⟩,
  ⟨.call (some 14) yqb [(.t 10),(.c (.int .i64 0)),(.t 13)],none,none⟩,
  ⟨.un 15 .not (.t 14),none,none⟩,
  ⟨.mov 16 (.t 15),none,none⟩,
  ⟨.fad 17 (.t 4) 1,some (16,false),(some 17)⟩,
  ⟨.load 18 none (.t 17),some (16,false),(some 18)⟩,
  ⟨.len 19 (.t 18),some (16,false),(some 19)⟩,
  ⟨.mov 20 (.t 0),some (16,false),(some 20)⟩,
  ⟨.fad 21 (.t 4) 0,some (16,false),(some 21)⟩,
  ⟨.load 22 none (.t 21),some (16,false),(some 22)⟩,
  ⟨.iad 23 mz 1 (.t 20) (.t 22),some (16,false),(some 23)⟩,
  ⟨.load 24 none (.t 23),some (16,false),(some 24)⟩,
  ⟨.slen 25 (.t 24),some (16,false),(some 25)⟩,
  ⟨.bin 26 .neq (.t 19) (.t 25),some (16,false),(some 26)⟩,
  ⟨.pick 27 (.t 16) (.c (.bool true)) (.t 26),none,none⟩] [0,2,4,27])
 (.cond (.t 27)
 (.seq (.reg [⟨.mov 6 (.c (.bool false)),none,none⟩] [6])
 (.ret))
 (.skip)))
 (.seq (.seq (.reg [⟨.fad 28 (.t 4) 1,none,none⟩,
  ⟨.load 29 none (.t 28),none,none⟩,
  ⟨.len 30 (.t 29),none,none⟩,
  ⟨.mov 31 (.c (.int .i64 0)),none,none⟩] [0,2,4,29,30,31])
 (.block 0 (.loop [0,2,4,29,30,31] xxb)))
 (.seq (.reg [⟨.mov 6 (.c (.bool true)),none,none⟩] [6])
 (.ret))))
def gk:Fn:=⟨[.ro 0,.ro 0,.ro 0],false,true,[.t 6],gkb⟩
def qxb:VC:= .seq (.seq (.reg [⟨.mov 4 (.t 3),none,none⟩,
    ⟨.mov 5 (.t 0),none,none⟩,
    ⟨.slen 6 (.t 5),none,none⟩,
    ⟨.bin 7 .lss (.t 4) (.t 6),none,none⟩] [0,3,7])
 (.cond (.t 7)
 (.skip)
 (.exit 0)))
 (.seq (.block 1 (.seq (.reg [⟨.mov 10 (.t 0),none,none⟩,
  ⟨.mov 11 (.t 3),none,none⟩,
  ⟨.ix 12 (.t 10) (.t 11),none,none⟩,
  ⟨.bin 13 .neq (.t 12) (.c (.int .u8 105)),none,none⟩,
  ⟨.mov 14 (.t 13),none,none⟩,
  ⟨.mov 15 (.t 0),some (14,true),(some 15)⟩,
  ⟨.mov 16 (.t 3),some (14,true),(some 16)⟩,
  ⟨.ix 17 (.t 15) (.t 16),some (14,true),(some 17)⟩,
  ⟨.bin 18 .neq (.t 17) (.c (.int .u8 114)),some (14,true),(some 18)⟩,
  ⟨.pick 19 (.t 14) (.t 18) (.c (.bool false)),none,none⟩] [0,3,19])
 (.cond (.t 19)
 (.seq (.reg [⟨.mov 2 (.c (.bool false)),none,none⟩] [2])
 (.ret))
 (.skip))))
 (.reg [⟨.mov 8 (.t 3),none,none⟩,
  ⟨.bin 9 .add (.t 8) (.c (.int .i64 1)),none,none⟩,
  ⟨.mov 3 (.t 9),none,none⟩] [0,3]))
def djd:VC:= .seq (.reg [⟨.mov 2 (.c (.bool false)),none,none⟩] [0])
 (.seq (.seq (.reg [⟨.mov 3 (.c (.int .i64 0)),none,none⟩] [0,3])
 (.block 0 (.loop [0,3] qxb)))
 (.seq (.reg [⟨.mov 20 (.t 0),none,none⟩,
  ⟨.slen 21 (.t 20),none,none⟩,
  ⟨.call (some 22) dkb [(.t 21),(.c (.int .i64 1)),(.c (.int .i64 23))],none,none⟩,
  ⟨.mov 2 (.t 22),none,none⟩] [2])
 (.ret)))
def cxb:Fn:=⟨[.ro 0],false,true,[.t 2],djd⟩
def gxb:VC:= .seq (.reg [⟨.mov 4 (.t 0),none,none⟩,
    ⟨.bin 5 .gtr (.t 4) (.c (.int .i64 0)),none,none⟩,
    ⟨.mov 6 (.t 5),none,none⟩,
    ⟨.load 7 none (.t 1),some (6,true),(some 7)⟩,
    ⟨.mov 8 (.t 0),some (6,true),(some 8)⟩,
    ⟨.bin 9 .sub (.t 8) (.c (.int .i64 1)),some (6,true),(some 9)⟩,
    ⟨.iad 10 txc 1 (.t 7) (.t 9),some (6,true),(some 10)⟩,
    ⟨.load 11 none (.t 10),some (6,true),(some 11)⟩,
    ⟨.un 12 .not (.t 11),some (6,true),(some 12)⟩,
    ⟨.pick 13 (.t 6) (.t 12) (.c (.bool false)),none,none⟩] [0,1,2,13,10001,10002])
 (.cond (.t 13)
 (.seq (.reg [⟨.load 14 none (.t 1),none,none⟩,
  ⟨.mov 15 (.t 0),none,none⟩,
  ⟨.bin 16 .sub (.t 15) (.c (.int .i64 1)),none,none⟩,
  ⟨.iad 17 txc 1 (.t 14) (.t 16),none,none⟩,
  ⟨.store 1 (.t 17) (.c (.bool true)),none,none⟩] [0,2,10001,10002])
 (.reg [⟨.load 18 none (.t 2),none,none⟩,
  ⟨.mov 19 (.t 0),none,none⟩,
  ⟨.bin 20 .sub (.t 19) (.c (.int .i64 1)),none,none⟩,
  ⟨.bsl 21 oz 1 [.v (.int .i64 0)] 1 [(0,(.t 20))],none,none⟩,
  ⟨.app 22 oz 8 true (.t 18) (.t 21),none,none⟩,
  ⟨.store 1 (.t 2) (.t 22),none,none⟩] [10001,10002]))
 (.skip))
def jx:Fn:=⟨[.ro 0,.mut 0,.mut 0],false,true,[],gxb⟩
def tkb:VC:= .seq (.seq (.reg [⟨.mov 6 (.t 5),none,none⟩,
    ⟨.mov 7 (.t 0),none,none⟩,
    ⟨.len 8 (.t 7),none,none⟩,
    ⟨.bin 9 .lss (.t 6) (.t 8),none,none⟩] [0,1,5,9])
 (.cond (.t 9)
 (.skip)
 (.exit 0)))
 (.seq (.block 1 (.seq (.reg [⟨.mov 12 (.t 0),none,none⟩,
  ⟨.mov 13 (.t 5),none,none⟩,
  ⟨.iad 14 oz 1 (.t 12) (.t 13),none,none⟩,
  ⟨.load 15 none (.t 14),none,none⟩,
  ⟨.mov 16 (.t 1),none,none⟩,
  ⟨.bin 17 .eql (.t 15) (.t 16),none,none⟩] [0,1,5,17])
 (.cond (.t 17)
 (.seq (.reg [⟨.mov 18 (.t 5),none,none⟩,
  ⟨.mov 4 (.t 18),none,none⟩] [4])
 (.ret))
 (.skip))))
 (.reg [⟨.mov 10 (.t 5),none,none⟩,
  ⟨.bin 11 .add (.t 10) (.c (.int .i64 1)),none,none⟩,
  ⟨.mov 5 (.t 11),none,none⟩] [0,1,5]))
def xkc:VC:= .seq (.reg [⟨.mov 4 (.c (.int .i64 0)),none,none⟩] [0,1])
 (.seq (.seq (.reg [⟨.mov 5 (.c (.int .i64 0)),none,none⟩] [0,1,5])
 (.block 0 (.loop [0,1,5] tkb)))
 (.seq (.reg [⟨.mov 4 (.c (.int .i64 (-1))),none,none⟩] [4])
 (.ret)))
def eqb:Fn:=⟨[.ro 0,.ro 0],false,true,[.t 4],xkc⟩
def ozb:VC:= .seq (.seq (.reg [⟨.mov 11 (.t 6),none,none⟩,
    ⟨.bin 12 .gtr (.t 11) (.c (.int .i64 0)),none,none⟩] [0,5,6,12,10000])
 (.cond (.t 12)
 (.skip)
 (.exit 0)))
 (.seq (.block 1 (.reg [⟨.mov 15 (.t 5),none,none⟩,
  ⟨.bsl 16 mz 1 [.v (.string ⟨#[]⟩)] 2 [(0,(.c (.string ⟨#[105]⟩))),(1,(.c (.string ⟨#[114]⟩)))],none,none⟩,
  ⟨.mov 17 (.t 0),none,none⟩,
  ⟨.call (some 18) tz [(.t 17),(.c (.int .i64 2))],none,none⟩,
  ⟨.iad 19 mz 1 (.t 16) (.t 18),none,none⟩,
  ⟨.load 20 none (.t 19),none,none⟩,
  ⟨.bin 21 .add (.t 15) (.t 20),none,none⟩,
  ⟨.mov 5 (.t 21),none,none⟩] [0,5,6,10000]))
 (.reg [⟨.mov 13 (.t 6),none,none⟩,
  ⟨.bin 14 .sub (.t 13) (.c (.int .i64 1)),none,none⟩,
  ⟨.mov 6 (.t 14),none,none⟩] [0,5,6,10000]))
def jzd:VC:= .seq (.reg [⟨.mov 4 (.c (.string ⟨#[]⟩)),none,none⟩] [0,1,10000])
 (.seq (.reg [⟨.mov 5 (.c (.string ⟨#[]⟩)),none,none⟩] [0,1,5,10000])
 (.seq (.seq (.reg [⟨.mov 7 (.t 0),none,none⟩,
  ⟨.mov 8 (.t 1),none,none⟩,
  ⟨.call (some 9) tz [(.t 7),(.t 8)],none,none⟩,
  ⟨.bin 10 .add (.c (.int .i64 1)) (.t 9),none,none⟩,
  ⟨.mov 6 (.t 10),none,none⟩] [0,5,6,10000])
 (.block 0 (.loop [0,5,6,10000] ozb)))
 (.seq (.reg [⟨.mov 22 (.t 5),none,none⟩,
  ⟨.mov 4 (.t 22),none,none⟩] [4,10000])
 (.ret))))
def yzb:Fn:=⟨[.mut 2,.ro 0],true,true,[.t 4],jzd⟩
def wqc:VC:= .seq (.reg [⟨.mov 6 (.c (.int .i64 0)),none,none⟩] [0,1,2,10000])
 (.seq (.reg [⟨.mov 8 (.t 0),none,none⟩,
  ⟨.nilck 9 (.t 8),none,none⟩,
  ⟨.fad 10 (.t 9) 0,none,none⟩,
  ⟨.load 11 none (.t 10),none,none⟩,
  ⟨.len 12 (.t 11),none,none⟩,
  ⟨.mov 13 (.t 1),none,none⟩,
  ⟨.bin 14 .quo (.t 12) (.t 13),none,none⟩,
  ⟨.bin 15 .add (.c (.int .i64 1)) (.t 14),none,none⟩,
  ⟨.mov 7 (.t 15),none,none⟩] [0,2,7,10000])
 (.seq (.seq (.reg [⟨.mov 16 (.t 7),none,none⟩,
  ⟨.mov 17 (.t 2),none,none⟩,
  ⟨.bin 18 .gtr (.t 16) (.t 17),none,none⟩] [0,2,7,18,10000])
 (.cond (.t 18)
 (.reg [⟨.mov 19 (.t 2),none,none⟩,
  ⟨.mov 7 (.t 19),none,none⟩] [0,7,10000])
 (.skip)))
 (.seq (.reg [⟨.mov 20 (.t 0),none,none⟩,
  ⟨.mov 21 (.t 7),none,none⟩,
  ⟨.call (some 22) tz [(.t 20),(.t 21)],none,none⟩,
  ⟨.bin 23 .add (.c (.int .i64 1)) (.t 22),none,none⟩,
  ⟨.mov 6 (.t 23),none,none⟩] [6,10000])
 (.ret))))
def izb:Fn:=⟨[.mut 2,.ro 0,.ro 0],true,true,[.t 6],wqc⟩
def xqc:VC:= .seq (.reg [⟨.mov 2 (.c (.int .i64 0)),none,none⟩] [0,10000])
 (.seq (.seq (.reg [⟨.mov 3 (.t 0),none,none⟩,
  ⟨.nilck 4 (.t 3),none,none⟩,
  ⟨.fad 5 (.t 4) 1,none,none⟩,
  ⟨.load 6 none (.t 5),none,none⟩,
  ⟨.mov 7 (.t 0),none,none⟩,
  ⟨.nilck 8 (.t 7),none,none⟩,
  ⟨.fad 9 (.t 8) 0,none,none⟩,
  ⟨.load 10 none (.t 9),none,none⟩,
  ⟨.len 11 (.t 10),none,none⟩,
  ⟨.bin 12 .geq (.t 6) (.t 11),none,none⟩] [0,12,10000])
 (.cond (.t 12)
 (.seq (.reg [⟨.mov 2 (.c (.int .i64 0)),none,none⟩] [2,10000])
 (.ret))
 (.skip)))
 (.seq (.reg [⟨.mov 13 (.t 0),none,none⟩,
  ⟨.nilck 14 (.t 13),none,none⟩,
  ⟨.fad 15 (.t 14) 1,none,none⟩,
  ⟨.load 16 none (.t 15),none,none⟩,
  ⟨.bin 17 .add (.t 16) (.c (.int .i64 1)),none,none⟩,
  ⟨.nilck 18 (.t 13),none,none⟩,
  ⟨.fad 19 (.t 18) 1,none,none⟩,
  ⟨.store 1 (.t 19) (.t 17),none,none⟩] [0,10000])
 (.seq (.reg [⟨.mov 20 (.t 0),none,none⟩,
  ⟨.nilck 21 (.t 20),none,none⟩,
  ⟨.fad 22 (.t 21) 0,none,none⟩,
  ⟨.load 23 none (.t 22),none,none⟩,
  ⟨.mov 24 (.t 0),none,none⟩,
  ⟨.nilck 25 (.t 24),none,none⟩,
  ⟨.fad 26 (.t 25) 1,none,none⟩,
  ⟨.load 27 none (.t 26),none,none⟩,
  ⟨.bin 28 .sub (.t 27) (.c (.int .i64 1)),none,none⟩,
  ⟨.iad 29 t_u8 1 (.t 23) (.t 28),none,none⟩,
  ⟨.load 30 none (.t 29),none,none⟩,
  ⟨.cvi 31 .i64 (.t 30),none,none⟩,
  ⟨.mov 2 (.t 31),none,none⟩] [2,10000])
 (.ret))))
def kzb:Fn:=⟨[.mut 2],true,true,[.t 2],xqc⟩
def vqb:VC:= .seq (.reg [⟨.mov 6 (.c (.int .i64 0)),none,none⟩] [0,1,2,10000])
 (.seq (.seq (.reg [⟨.mov 7 (.t 0),none,none⟩,
  ⟨.call (some 8) nk [(.t 7),(.c (.int .i64 24))],none,none⟩] [0,1,2,8,10000])
 (.cond (.t 8)
 (.seq (.reg [⟨.mov 9 (.t 1),none,none⟩,
  ⟨.bin 10 .sub (.t 9) (.c (.int .i64 1)),none,none⟩,
  ⟨.mov 11 (.t 2),none,none⟩,
  ⟨.bin 12 .add (.t 11) (.c (.int .i64 1)),none,none⟩,
  ⟨.bsl 13 oz 1 [.v (.int .i64 0)] 4 [(0,(.t 10)),(1,(.t 12)),(2,(.c (.int .i64 (-9223372036854775808)))),(3,(.c (.int .i64 9223372036854775807)))],none,none⟩,
  ⟨.mov 14 (.t 0),none,none⟩,
  ⟨.call (some 15) tz [(.t 14),(.c (.int .i64 4))],none,none⟩,
  ⟨.iad 16 oz 1 (.t 13) (.t 15),none,none⟩,
  ⟨.load 17 none (.t 16),none,none⟩,
  ⟨.mov 6 (.t 17),none,none⟩] [6,10000])
 (.ret))
 (.skip)))
 (.seq (.reg [⟨.mov 18 (.t 0),none,none⟩,
  ⟨.mov 19 (.t 1),none,none⟩,
  ⟨.mov 20 (.t 2),none,none⟩,
  ⟨.call (some 21) nzc [(.t 18),(.t 19),(.t 20)],none,none⟩,
  ⟨.mov 6 (.t 21),none,none⟩] [6,10000])
 (.ret)))
def sx:Fn:=⟨[.mut 2,.ro 0,.ro 0],true,true,[.t 6],vqb⟩
def pxb:VC:= .seq (.seq (.reg [⟨.mov 11 (.t 5),none,none⟩,
    ⟨.mov 12 (.t 0),none,none⟩,
    ⟨.len 13 (.t 12),none,none⟩,
    ⟨.bin 14 .lss (.t 11) (.t 13),none,none⟩] [0,1,5,14])
 (.cond (.t 14)
 (.skip)
 (.exit 0)))
 (.seq (.block 1 (.seq (.reg [⟨.mov 17 (.t 0),none,none⟩,
  ⟨.mov 18 (.t 5),none,none⟩,
  ⟨.iad 19 oz 1 (.t 17) (.t 18),none,none⟩,
  ⟨.load 20 none (.t 19),none,none⟩,
  ⟨.mov 21 (.t 1),none,none⟩,
  ⟨.mov 22 (.t 5),none,none⟩,
  ⟨.iad 23 oz 1 (.t 21) (.t 22),none,none⟩,
  ⟨.load 24 none (.t 23),none,none⟩,
  ⟨.bin 25 .neq (.t 20) (.t 24),none,none⟩] [0,1,5,25])
 (.cond (.t 25)
 (.seq (.reg [⟨.mov 4 (.c (.bool false)),none,none⟩] [4])
 (.ret))
 (.skip))))
 (.reg [⟨.mov 15 (.t 5),none,none⟩,
  ⟨.bin 16 .add (.t 15) (.c (.int .i64 1)),none,none⟩,
  ⟨.mov 5 (.t 16),none,none⟩] [0,1,5]))
def oxc:VC:= .seq (.reg [⟨.mov 4 (.c (.bool false)),none,none⟩] [0,1])
 (.seq (.seq (.reg [⟨.mov 6 (.t 0),none,none⟩,
  ⟨.len 7 (.t 6),none,none⟩,
  ⟨.mov 8 (.t 1),none,none⟩,
  ⟨.len 9 (.t 8),none,none⟩,
  ⟨.bin 10 .neq (.t 7) (.t 9),none,none⟩] [0,1,10])
 (.cond (.t 10)
 (.seq (.reg [⟨.mov 4 (.c (.bool false)),none,none⟩] [4])
 (.ret))
 (.skip)))
 (.seq (.seq (.reg [⟨.mov 5 (.c (.int .i64 0)),none,none⟩] [0,1,5])
 (.block 0 (.loop [0,1,5] pxb)))
 (.seq (.reg [⟨.mov 4 (.c (.bool true)),none,none⟩] [4])
 (.ret))))
def zjb:Fn:=⟨[.ro 0,.ro 0],false,true,[.t 4],oxc⟩
def tq:VC:= .seq (.reg [⟨.bin 14 .lss (.t 13) (.t 12),none,none⟩] [0,1,12,13,14])
 (.seq (.cond (.t 14)
 (.skip)
 (.exit 0))
 (.seq (.block 1 (.seq (.reg [⟨.mov 15 (.t 13),none,none⟩,
  ⟨.mov 5 (.t 15),none,none⟩] [0,1,5,12,13])
 (.seq (.reg [⟨.mov 16 (.t 0),none,none⟩,
  ⟨.mov 17 (.t 5),none,none⟩,
  ⟨.iad 18 oz 1 (.t 16) (.t 17),none,none⟩,
  ⟨.load 19 none (.t 18),none,none⟩,
  ⟨.mov 20 (.t 1),none,none⟩,
  ⟨.mov 21 (.t 5),none,none⟩,
  ⟨.iad 22 oz 1 (.t 20) (.t 21),none,none⟩,
  ⟨.load 23 none (.t 22),none,none⟩,
  ⟨.bin 24 .neq (.t 19) (.t 23),none,none⟩] [0,1,12,13,24])
 (.cond (.t 24)
 (.seq (.reg [⟨.mov 4 (.c (.bool false)),none,none⟩] [4])
 (.ret))
 (.skip)))))
 (.reg [⟨.bin 25 .add (.t 13) (.c (.int .i64 1)),none,none⟩,
  ⟨.mov 13 (.t 25),none,none⟩] [0,1,12,13])))
def vk:VC:= .seq (.reg [⟨.mov 4 (.c (.bool false)),none,none⟩] [0,1])
 (.seq (.seq (.reg [⟨.mov 6 (.t 0),none,none⟩,
  ⟨.len 7 (.t 6),none,none⟩,
  ⟨.mov 8 (.t 1),none,none⟩,
  ⟨.len 9 (.t 8),none,none⟩,
  ⟨.bin 10 .neq (.t 7) (.t 9),none,none⟩] [0,1,10])
 (.cond (.t 10)
 (.seq (.reg [⟨.mov 4 (.c (.bool false)),none,none⟩] [4])
 (.ret))
 (.skip)))
 (.seq (.seq (.reg [⟨.mov 11 (.t 0),none,none⟩,
  ⟨.len 12 (.t 11),none,none⟩,
  ⟨.mov 13 (.c (.int .i64 0)),none,none⟩] [0,1,12,13])
 (.block 0 (.loop [0,1,12,13] tq)))
 (.seq (.reg [⟨.mov 4 (.c (.bool true)),none,none⟩] [4])
 (.ret))))
def xj:Fn:=⟨[.ro 0,.ro 0],false,true,[.t 4],vk⟩
def pz:VC:= .seq (.reg [⟨.bin 18 .lss (.t 17) (.t 16),none,none⟩] [1,2,15,16,17,18])
 (.seq (.cond (.t 18)
 (.skip)
 (.exit 0))
 (.seq (.block 1 (.seq (.reg [⟨.mov 19 (.t 17),none,none⟩,
  ⟨.iad 20 gz 2 (.t 15) (.t 17),none,none⟩,
  ⟨.load 21 (some 2) (.t 20),none,none⟩,
  ⟨.alloc 8 [.v (.int .i64 0),.nl oz],none,none⟩,
  ⟨.mov 7 (.t 19),none,none⟩,
  ⟨.store 2 (.t 8) (.t 21),none,none⟩] [1,2,7,8,15,16,17])
 (.seq (.reg [⟨.mov 22 (.t 1),none,none⟩,
  ⟨.mov 23 (.t 7),none,none⟩,
  ⟨.iad 24 gz 2 (.t 22) (.t 23),none,none⟩,
  ⟨.load 25 (some 2) (.t 24),none,none⟩,
  ⟨.alloc 9 [.v (.int .i64 0),.nl oz],none,none⟩,
  ⟨.store 2 (.t 9) (.t 25),none,none⟩] [1,2,8,9,15,16,17])
 (.seq (.reg [⟨.mov 26 (.t 2),none,none⟩,
  ⟨.load 27 (some 2) (.t 8),none,none⟩,
  ⟨.load 28 (some 2) (.t 9),none,none⟩,
  ⟨.calv (some 29) (.t 26) [(.t 27),(.t 28)],none,none⟩,
  ⟨.un 30 .not (.t 29),none,none⟩] [1,2,15,16,17,30])
 (.cond (.t 30)
 (.seq (.reg [⟨.mov 6 (.c (.bool false)),none,none⟩] [6])
 (.ret))
 (.skip))))))
 (.reg [⟨.bin 31 .add (.t 17) (.c (.int .i64 1)),none,none⟩,
  ⟨.mov 17 (.t 31),none,none⟩] [1,2,15,16,17])))
def wz:VC:= .seq (.reg [⟨.mov 6 (.c (.bool false)),none,none⟩] [0,1,2])
 (.seq (.seq (.reg [⟨.mov 10 (.t 0),none,none⟩,
  ⟨.len 11 (.t 10),none,none⟩,
  ⟨.mov 12 (.t 1),none,none⟩,
  ⟨.len 13 (.t 12),none,none⟩,
  ⟨.bin 14 .neq (.t 11) (.t 13),none,none⟩] [0,1,2,14])
 (.cond (.t 14)
 (.seq (.reg [⟨.mov 6 (.c (.bool false)),none,none⟩] [6])
 (.ret))
 (.skip)))
 (.seq (.seq (.reg [⟨.mov 15 (.t 0),none,none⟩,
  ⟨.len 16 (.t 15),none,none⟩,
  ⟨.mov 17 (.c (.int .i64 0)),none,none⟩] [1,2,15,16,17])
 (.block 0 (.loop [1,2,15,16,17] pz)))
 (.seq (.reg [⟨.mov 6 (.c (.bool true)),none,none⟩] [6])
 (.ret))))
def nz:Fn:=⟨[.ro 0,.ro 0,.ro 0],false,true,[.t 6],wz⟩
def ykc:VC:= .seq (.reg [⟨.box 2 (.t 0),none,none⟩,
    ⟨.box 3 (.t 1),none,none⟩,
    ⟨.mov 4 (.c (.bool false)),none,none⟩] [2,3])
 (.seq (.reg [⟨.fad 5 (.t 2) 0,none,none⟩,
  ⟨.load 6 none (.t 5),none,none⟩,
  ⟨.fad 7 (.t 3) 0,none,none⟩,
  ⟨.load 8 none (.t 7),none,none⟩,
  ⟨.bin 9 .eql (.t 6) (.t 8),none,none⟩,
  ⟨.mov 10 (.t 9),none,none⟩,
  ⟨.fad 11 (.t 2) 1,some (10,true),(some 11)⟩,
  ⟨.load 12 none (.t 11),some (10,true),(some 12)⟩,
  ⟨.fad 13 (.t 3) 1,some (10,true),(some 13)⟩,
  ⟨.load 14 none (.t 13),some (10,true),(some 14)⟩,
  ⟨.call (some 15) px [(.t 12),(.t 14)],some (10,true),(some 15)⟩,
  ⟨.pick 16 (.t 10) (.t 15) (.c (.bool false)),none,none⟩,
  ⟨.mov 4 (.t 16),none,none⟩] [4])
 (.ret))
def fqb:Fn:=⟨[.ro 0,.ro 0],false,true,[.t 4],ykc⟩
def pxc:VC:= .seq (.reg [⟨.mov 6 (.c (.bool false)),none,none⟩] [0,1,2])
 (.seq (.reg [⟨.mov 7 (.t 0),none,none⟩,
  ⟨.mov 8 (.t 1),none,none⟩,
  ⟨.bin 9 .geq (.t 7) (.t 8),none,none⟩,
  ⟨.mov 10 (.t 9),none,none⟩,
  ⟨.mov 11 (.t 0),some (10,true),(some 11)⟩,
  ⟨.mov 12 (.t 2),some (10,true),(some 12)⟩,
  ⟨.bin 13 .leq (.t 11) (.t 12),some (10,true),(some 13)⟩,
  ⟨.pick 14 (.t 10) (.t 13) (.c (.bool false)),none,none⟩,
  ⟨.mov 6 (.t 14),none,none⟩] [6])
 (.ret))
def aqb:Fn:=⟨[.ro 0,.ro 0,.ro 0],false,true,[.t 6],pxc⟩
def mkc:VC:= .seq (.reg [⟨.mov 2 (.c (.int .i64 0)),none,none⟩] [0])
 (.seq (.reg [⟨.mov 3 (.t 0),none,none⟩,
  ⟨.len 4 (.t 3),none,none⟩,
  ⟨.mov 2 (.t 4),none,none⟩] [2])
 (.ret))
def ezb:Fn:=⟨[.ro 0],false,true,[.t 2],mkc⟩
def jjb:VC:= .seq (.reg [⟨.mov 4 (.c (.bool false)),none,none⟩] [0,1])
 (.seq (.reg [⟨.mov 5 (.t 0),none,none⟩,
  ⟨.mov 6 (.t 1),none,none⟩,
  ⟨.call (some 7) ex [(.t 5),(.t 6)],none,none⟩,
  ⟨.bin 8 .geq (.t 7) (.c (.int .i64 0)),none,none⟩,
  ⟨.mov 4 (.t 8),none,none⟩] [4])
 (.ret))
def lj:Fn:=⟨[.ro 0,.ro 0],false,true,[.t 4],jjb⟩
def kjd:VC:= .seq (.reg [⟨.mov 2 (.c (.bool false)),none,none⟩] [0])
 (.seq (.reg [⟨.mov 3 (.t 0),none,none⟩,
  ⟨.call (some 4) lxc [(.t 3)],none,none⟩,
  ⟨.un 5 .not (.t 4),none,none⟩,
  ⟨.mov 2 (.t 5),none,none⟩] [2])
 (.ret))
def qjb:Fn:=⟨[.ro 0],false,true,[.t 2],kjd⟩
def fjd:VC:= .seq (.reg [⟨.mov 2 (.c (.bool false)),none,none⟩] [0])
 (.seq (.reg [⟨.mov 3 (.t 0),none,none⟩,
  ⟨.slen 4 (.t 3),none,none⟩,
  ⟨.call (some 5) yqb [(.t 4),(.c (.int .i64 1)),(.c (.int .i64 23))],none,none⟩,
  ⟨.mov 6 (.t 5),none,none⟩,
  ⟨.mov 7 (.t 0),some (6,true),(some 7)⟩,
  ⟨.call (some 8) vkc [(.t 7),(.c (.string ⟨#[105,114]⟩))],some (6,true),(some 8)⟩,
  ⟨.bin 9 .eql (.t 8) (.c (.string ⟨#[]⟩)),some (6,true),(some 9)⟩,
  ⟨.pick 10 (.t 6) (.t 9) (.c (.bool false)),none,none⟩,
  ⟨.mov 2 (.t 10),none,none⟩] [2])
 (.ret))
def dxb:Fn:=⟨[.ro 0],false,true,[.t 2],fjd⟩
def bxc:VC:= .seq (.reg [⟨.mov 2 (.c (.int .i64 0)),none,none⟩] [0])
 (.seq (.reg [⟨.mov 3 (.t 0),none,none⟩,
  ⟨.len 4 (.t 3),none,none⟩,
  ⟨.mov 2 (.t 4),none,none⟩] [2])
 (.ret))
def ik:Fn:=⟨[.ro 0],false,true,[.t 2],bxc⟩
def yq:VC:= .seq (.reg [⟨.bin 9 .lss (.t 8) (.t 7),none,none⟩] [0,1,7,8,9])
 (.seq (.cond (.t 9)
 (.skip)
 (.exit 0))
 (.seq (.block 1 (.seq (.reg [⟨.mov 10 (.t 8),none,none⟩,
  ⟨.mov 5 (.t 10),none,none⟩] [0,1,5,7,8])
 (.seq (.reg [⟨.mov 11 (.t 1),none,none⟩,
  ⟨.mov 12 (.t 0),none,none⟩,
  ⟨.mov 13 (.t 5),none,none⟩,
  ⟨.iad 14 oz 1 (.t 12) (.t 13),none,none⟩,
  ⟨.load 15 none (.t 14),none,none⟩,
  ⟨.calv (some 16) (.t 11) [(.t 15)],none,none⟩] [0,1,5,7,8,16])
 (.cond (.t 16)
 (.seq (.reg [⟨.mov 17 (.t 5),none,none⟩,
  ⟨.mov 4 (.t 17),none,none⟩] [4])
 (.ret))
 (.skip)))))
 (.reg [⟨.bin 18 .add (.t 8) (.c (.int .i64 1)),none,none⟩,
  ⟨.mov 8 (.t 18),none,none⟩] [0,1,7,8])))
def azb:VC:= .seq (.reg [⟨.mov 4 (.c (.int .i64 0)),none,none⟩] [0,1])
 (.seq (.seq (.reg [⟨.mov 6 (.t 0),none,none⟩,
  ⟨.len 7 (.t 6),none,none⟩,
  ⟨.mov 8 (.c (.int .i64 0)),none,none⟩] [0,1,7,8])
 (.block 0 (.loop [0,1,7,8] yq)))
 (.seq (.reg [⟨.mov 4 (.c (.int .i64 (-1))),none,none⟩] [4])
 (.ret)))
def rj:Fn:=⟨[.ro 0,.ro 0],false,true,[.t 4],azb⟩
def jq:VC:= .seq (.reg [⟨.bin 9 .lss (.t 8) (.t 7),none,none⟩] [0,1,7,8,9])
 (.seq (.cond (.t 9)
 (.skip)
 (.exit 0))
 (.seq (.block 1 (.seq (.reg [⟨.mov 10 (.t 8),none,none⟩,
  ⟨.mov 5 (.t 10),none,none⟩] [0,1,5,7,8])
 (.seq (.reg [⟨.mov 11 (.t 1),none,none⟩,
  ⟨.mov 12 (.t 0),none,none⟩,
  ⟨.mov 13 (.t 5),none,none⟩,
  ⟨.iad 14 gz 2 (.t 12) (.t 13),none,none⟩,
  ⟨.load 15 (some 2) (.t 14),none,none⟩,
  ⟨.calv (some 16) (.t 11) [(.t 15)],none,none⟩] [0,1,5,7,8,16])
 (.cond (.t 16)
 (.seq (.reg [⟨.mov 17 (.t 5),none,none⟩,
  ⟨.mov 4 (.t 17),none,none⟩] [4])
 (.ret))
 (.skip)))))
 (.reg [⟨.bin 18 .add (.t 8) (.c (.int .i64 1)),none,none⟩,
  ⟨.mov 8 (.t 18),none,none⟩] [0,1,7,8])))
def xx:VC:= .seq (.reg [⟨.mov 4 (.c (.int .i64 0)),none,none⟩] [0,1])
 (.seq (.seq (.reg [⟨.mov 6 (.t 0),none,none⟩,
  ⟨.len 7 (.t 6),none,none⟩,
  ⟨.mov 8 (.c (.int .i64 0)),none,none⟩] [0,1,7,8])
 (.block 0 (.loop [0,1,7,8] jq)))
 (.seq (.reg [⟨.mov 4 (.c (.int .i64 (-1))),none,none⟩] [4])
 (.ret)))
def uz:Fn:=⟨[.ro 0,.ro 0],false,true,[.t 4],xx⟩
def hjb:VC:= .seq (.seq (.reg [⟨.mov 5 (.t 4),none,none⟩,
    ⟨.bin 6 .lss (.t 5) (.c (.int .i64 8)),none,none⟩] [0,3,4,6,10000])
 (.cond (.t 6)
 (.skip)
 (.exit 0)))
 (.seq (.block 1 (.reg [⟨.mov 9 (.t 3),none,none⟩,
  ⟨.bin 10 .shl (.t 9) (.c (.int .u64 8)),none,none⟩,
  ⟨.mov 11 (.t 0),none,none⟩,
  ⟨.call (some 12) gzb [(.t 11)],none,none⟩,
  ⟨.cvi 13 .u64 (.t 12),none,none⟩,
  ⟨.bin 14 .or (.t 10) (.t 13),none,none⟩,
  ⟨.mov 3 (.t 14),none,none⟩] [0,3,4,10000]))
 (.reg [⟨.mov 7 (.t 4),none,none⟩,
  ⟨.bin 8 .add (.t 7) (.c (.int .i64 1)),none,none⟩,
  ⟨.mov 4 (.t 8),none,none⟩] [0,3,4,10000]))
def ijd:VC:= .seq (.reg [⟨.mov 2 (.c (.int .u64 0)),none,none⟩] [0,10000])
 (.seq (.reg [⟨.mov 3 (.c (.int .u64 0)),none,none⟩] [0,3,10000])
 (.seq (.seq (.reg [⟨.mov 4 (.c (.int .i64 0)),none,none⟩] [0,3,4,10000])
 (.block 0 (.loop [0,3,4,10000] hjb)))
 (.seq (.reg [⟨.mov 15 (.t 3),none,none⟩,
  ⟨.mov 2 (.t 15),none,none⟩] [2,10000])
 (.ret))))
def pjb:Fn:=⟨[.mut 2],true,true,[.t 2],ijd⟩
def rzc:VC:= .seq (.reg [⟨.mov 6 (.c (.int .i64 0)),none,none⟩] [0,1,2,10000])
 (.seq (.seq (.reg [⟨.mov 7 (.t 0),none,none⟩,
  ⟨.call (some 8) tz [(.t 7),(.c (.int .i64 8))],none,none⟩] [0,1,2,8,10000])
 (.block 0 (.seq (.reg [⟨.bin 10 .eql (.t 8) (.c (.int .i64 0)),none,none⟩,
  ⟨.mov 9 (.t 10),none,none⟩] [0,1,2,8,9,10000])
 (.cond (.t 9)
 (.seq (.reg [⟨.mov 11 (.t 1),none,none⟩,
  ⟨.mov 6 (.t 11),none,none⟩] [6,10000])
 (.ret))
 (.seq (.reg [⟨.bin 13 .eql (.t 8) (.c (.int .i64 1)),none,none⟩,
  ⟨.mov 12 (.t 13),none,none⟩] [0,1,2,12,10000])
 (.cond (.t 12)
 (.seq (.reg [⟨.mov 14 (.t 2),none,none⟩,
  ⟨.mov 6 (.t 14),none,none⟩] [6,10000])
 (.ret))
 (.skip)))))))
 (.seq (.seq (.reg [⟨.mov 15 (.t 2),none,none⟩,
  ⟨.mov 16 (.t 1),none,none⟩,
  ⟨.bin 17 .lss (.t 15) (.t 16),none,none⟩] [0,1,2,17,10000])
 (.cond (.t 17)
 (.seq (.reg [⟨.mov 18 (.t 1),none,none⟩,
  ⟨.mov 6 (.t 18),none,none⟩] [6,10000])
 (.ret))
 (.skip)))
 (.seq (.reg [⟨.mov 19 (.t 1),none,none⟩,
  ⟨.mov 20 (.t 0),none,none⟩,
  ⟨.call (some 21) lzc [(.t 20)],none,none⟩,
  ⟨.bin 22 .shr (.t 21) (.c (.int .u64 1)),none,none⟩,
  ⟨.mov 23 (.t 2),none,none⟩,
  ⟨.mov 24 (.t 1),none,none⟩,
  ⟨.bin 25 .sub (.t 23) (.t 24),none,none⟩,
  ⟨.bin 26 .add (.t 25) (.c (.int .i64 1)),none,none⟩,
  ⟨.cvi 27 .u64 (.t 26),none,none⟩,
  ⟨.bin 28 .rem (.t 22) (.t 27),none,none⟩,
  ⟨.cvi 29 .i64 (.t 28),none,none⟩,
  ⟨.bin 30 .add (.t 19) (.t 29),none,none⟩,
  ⟨.mov 6 (.t 30),none,none⟩] [6,10000])
 (.ret))))
def sk:Fn:=⟨[.mut 2,.ro 0,.ro 0],true,true,[.t 6],rzc⟩
def rq:VC:= .seq (.reg [⟨.bin 9 .lss (.t 8) (.t 7),none,none⟩] [0,1,7,8,9])
 (.seq (.cond (.t 9)
 (.skip)
 (.exit 0))
 (.seq (.block 1 (.seq (.reg [⟨.mov 10 (.t 8),none,none⟩,
  ⟨.mov 5 (.t 10),none,none⟩] [0,1,5,7,8])
 (.seq (.reg [⟨.mov 11 (.t 1),none,none⟩,
  ⟨.mov 12 (.t 0),none,none⟩,
  ⟨.mov 13 (.t 5),none,none⟩,
  ⟨.iad 14 mz 1 (.t 12) (.t 13),none,none⟩,
  ⟨.load 15 none (.t 14),none,none⟩,
  ⟨.calv (some 16) (.t 11) [(.t 15)],none,none⟩] [0,1,5,7,8,16])
 (.cond (.t 16)
 (.seq (.reg [⟨.mov 17 (.t 5),none,none⟩,
  ⟨.mov 4 (.t 17),none,none⟩] [4])
 (.ret))
 (.skip)))))
 (.reg [⟨.bin 18 .add (.t 8) (.c (.int .i64 1)),none,none⟩,
  ⟨.mov 8 (.t 18),none,none⟩] [0,1,7,8])))
def uk:VC:= .seq (.reg [⟨.mov 4 (.c (.int .i64 0)),none,none⟩] [0,1])
 (.seq (.seq (.reg [⟨.mov 6 (.t 0),none,none⟩,
  ⟨.len 7 (.t 6),none,none⟩,
  ⟨.mov 8 (.c (.int .i64 0)),none,none⟩] [0,1,7,8])
 (.block 0 (.loop [0,1,7,8] rq)))
 (.seq (.reg [⟨.mov 4 (.c (.int .i64 (-1))),none,none⟩] [4])
 (.ret)))
def jj:Fn:=⟨[.ro 0,.ro 0],false,true,[.t 4],uk⟩
def tabL:List (Nat×Fn):= [(iqc,yk),
 (kqd,sxc),
 (rxb,wx),
 (ekb,gjb),
 (ozc,tk),
 (gkc,wqb),
 (zzc,xqb),
 (sxb,dk),
 (hqc,wzb),
 (dkb,fkb),
 (qqb,ajb),
 (hkc,cjc),
 (gqc,uxb),
 (oqc,djc),
 (izc,txb),
 (kxc,pkb),
 (lkb,vq),
 (nkb,zzb),
 (tz,lx),
 (mjc,bxb),
 (nk,jzb),
 (xjb,aj),
 (ixc,uzb),
 (pzc,lzb),
 (jqc,gqb),
 (rk,sjb),
 (gx,xk),
 (xq,uj),
 (fq,cj),
 (qk,rjb),
 (ojc,gk),
 (jxc,cxb),
 (djb,jx),
 (jzc,eqb),
 (mkb,yzb),
 (mzc,izb),
 (gzb,kzb),
 (cjb,sx),
 (njc,zjb),
 (px,xj),
 (vz,nz),
 (cqb,fqb),
 (yqb,aqb),
 (yjb,ezb),
 (pq,lj),
 (pk,qjb),
 (lxc,dxb),
 (lqb,ik),
 (qx,rj),
 (oq,uz),
 (lzc,pjb),
 (nzc,sk),
 (ex,jj)]
def eqj:List Nat:= [9,14,15,16,21,22,25,26,28,30,32,33,35,36,39,41,45,46,47,48,49,50,52,53,58,59,63,64,75,77,79,80,81,82,83,84,86,88,89,90,91,97,109,111,113,114,143,1000025,1000026,1000048,1000049,1000050,1000052,1000053,1000063,1000064,1000075,1000084,1000086,1000088,1000089,1000090,1000091,1000109,1000114]
def kz (g:Nat):Bool:=eqj.contains g
def T (d:Nat):Nat→Option Callee:=wxd tabL ext fuel d
theorem czb {d f:Nat} {v:Fn} (h:ext f=none) (ht:look tabL f=some v):T (d+1) f=some (calF (T d) fuel v):=pqh h ht
@[go_sem] theorem yzf {d:Nat}:T (d+1) iqc=some ⟨[.ro 0],false,true,fj (T d) fuel yk⟩:=czb (v:=yk) rfl rfl
@[go_sem] theorem zjk {d:Nat}:T (d+1) kqd=some ⟨[.ro 0],false,true,fj (T d) fuel sxc⟩:=czb (v:=sxc) rfl rfl
@[go_sem] theorem rqi {d:Nat}:T (d+1) rxb=some ⟨[.ro 0,.ro 0],false,true,fj (T d) fuel wx⟩:=czb (v:=wx) rfl rfl
@[go_sem] theorem kqi {d:Nat}:T (d+1) ekb=some ⟨[.ro 0,.ro 0],false,true,fj (T d) fuel gjb⟩:=czb (v:=gjb) rfl rfl
@[go_sem] theorem fqh {d:Nat}:T (d+1) ozc=some ⟨[.ro 0],true,false,fj (T d) fuel tk⟩:=czb (v:=tk) rfl rfl
@[go_sem] theorem yjj {d:Nat}:T (d+1) gkc=some ⟨[.ro 0,.ro 0,.ro 0],false,true,fj (T d) fuel wqb⟩:=czb (v:=wqb) rfl rfl
@[go_sem] theorem bqj {d:Nat}:T (d+1) zzc=some ⟨[.ro 0,.ro 0,.ro 0],false,true,fj (T d) fuel xqb⟩:=czb (v:=xqb) rfl rfl
@[go_sem] theorem uqi {d:Nat}:T (d+1) sxb=some ⟨[.ro 0,.ro 0],false,true,fj (T d) fuel dk⟩:=czb (v:=dk) rfl rfl
@[go_sem] theorem qqi {d:Nat}:T (d+1) hqc=some ⟨[.ro 0],false,true,fj (T d) fuel wzb⟩:=czb (v:=wzb) rfl rfl
@[go_sem] theorem jzk {d:Nat}:T (d+1) dkb=some ⟨[.ro 0,.ro 0,.ro 0],false,true,fj (T d) fuel fkb⟩:=czb (v:=fkb) rfl rfl
@[go_sem] theorem wjh {d:Nat}:T (d+1) qqb=some ⟨[.ro 0,.ro 0],false,false,fj (T d) fuel ajb⟩:=czb (v:=ajb) rfl rfl
@[go_sem] theorem zjj {d:Nat}:T (d+1) hkc=some ⟨[.ro 0],false,true,fj (T d) fuel cjc⟩:=czb (v:=cjc) rfl rfl
@[go_sem] theorem pqi {d:Nat}:T (d+1) gqc=some ⟨[.ro 0,.ro 0],false,false,fj (T d) fuel uxb⟩:=czb (v:=uxb) rfl rfl
@[go_sem] theorem aqj {d:Nat}:T (d+1) oqc=some ⟨[.ro 0,.ro 0],false,false,fj (T d) fuel djc⟩:=czb (v:=djc) rfl rfl
@[go_sem] theorem nqi {d:Nat}:T (d+1) izc=some ⟨[.ro 0,.ro 0],false,false,fj (T d) fuel txb⟩:=czb (v:=txb) rfl rfl
@[go_sem] theorem jzj {d:Nat}:T (d+1) kxc=some ⟨[.ro 0],true,false,fj (T d) fuel pkb⟩:=czb (v:=pkb) rfl rfl
@[go_sem] theorem sjh {d:Nat}:T (d+1) lkb=some ⟨[.mut 2],true,false,fj (T d) fuel vq⟩:=czb (v:=vq) rfl rfl
@[go_sem] theorem ujh {d:Nat}:T (d+1) nkb=some ⟨[.mut 2,.mut 0,.ro 0,.ro 0],true,false,fj (T d) fuel zzb⟩:=czb (v:=zzb) rfl rfl
@[go_sem] theorem vjh {d:Nat}:T (d+1) tz=some ⟨[.mut 2,.ro 0],true,true,fj (T d) fuel lx⟩:=czb (v:=lx) rfl rfl
@[go_sem] theorem fzj {d:Nat}:T (d+1) mjc=some ⟨[.ro 0,.ro 0,.ro 0],false,true,fj (T d) fuel bxb⟩:=czb (v:=bxb) rfl rfl
@[go_sem] theorem cqh {d:Nat}:T (d+1) nk=some ⟨[.mut 2,.ro 0],true,true,fj (T d) fuel jzb⟩:=czb (v:=jzb) rfl rfl
@[go_sem] theorem ejg {d:Nat}:T (d+1) xjb=some ⟨[.mut 2,.mut 0],true,false,fj (T d) fuel aj⟩:=czb (v:=aj) rfl rfl
@[go_sem] theorem gzj {d:Nat}:T (d+1) ixc=some ⟨[.ro 0,.ro 0],false,true,fj (T d) fuel uzb⟩:=czb (v:=uzb) rfl rfl
@[go_sem] theorem gqh {d:Nat}:T (d+1) pzc=some ⟨[.ro 0,.ro 0],false,true,fj (T d) fuel lzb⟩:=czb (v:=lzb) rfl rfl
@[go_sem] theorem tqi {d:Nat}:T (d+1) jqc=some ⟨[.ro 0],false,true,fj (T d) fuel gqb⟩:=czb (v:=gqb) rfl rfl
@[go_sem] theorem jqh {d:Nat}:T (d+1) rk=some ⟨[.ro 0,.ro 0],false,true,fj (T d) fuel sjb⟩:=czb (v:=sjb) rfl rfl
@[go_sem] theorem hxg {d:Nat}:T (d+1) gx=some ⟨[.ro 0,.ro 0],false,true,fj (T d) fuel xk⟩:=czb (v:=xk) rfl rfl
@[go_sem] theorem cze {d:Nat}:T (d+1) xq=some ⟨[.ro 0,.ro 0],false,true,fj (T d) fuel uj⟩:=czb (v:=uj) rfl rfl
@[go_sem] theorem bqd {d:Nat}:T (d+1) fq=some ⟨[.ro 0,.ro 0],false,true,fj (T d) fuel cj⟩:=czb (v:=cj) rfl rfl
@[go_sem] theorem iqh {d:Nat}:T (d+1) qk=some ⟨[.ro 0,.ro 0,.ro 0],false,true,fj (T d) fuel rjb⟩:=czb (v:=rjb) rfl rfl
@[go_sem] theorem jqi {d:Nat}:T (d+1) ojc=some ⟨[.ro 0,.ro 0,.ro 0],false,true,fj (T d) fuel gk⟩:=czb (v:=gk) rfl rfl
@[go_sem] theorem izj {d:Nat}:T (d+1) jxc=some ⟨[.ro 0],false,true,fj (T d) fuel cxb⟩:=czb (v:=cxb) rfl rfl
@[go_sem] theorem gxg {d:Nat}:T (d+1) djb=some ⟨[.ro 0,.mut 0,.mut 0],false,true,fj (T d) fuel jx⟩:=czb (v:=jx) rfl rfl
@[go_sem] theorem oqi {d:Nat}:T (d+1) jzc=some ⟨[.ro 0,.ro 0],false,true,fj (T d) fuel eqb⟩:=czb (v:=eqb) rfl rfl
@[go_sem] theorem tjh {d:Nat}:T (d+1) mkb=some ⟨[.mut 2,.ro 0],true,true,fj (T d) fuel yzb⟩:=czb (v:=yzb) rfl rfl
@[go_sem] theorem bqh {d:Nat}:T (d+1) mzc=some ⟨[.mut 2,.ro 0,.ro 0],true,true,fj (T d) fuel izb⟩:=czb (v:=izb) rfl rfl
@[go_sem] theorem dqh {d:Nat}:T (d+1) gzb=some ⟨[.mut 2],true,true,fj (T d) fuel kzb⟩:=czb (v:=kzb) rfl rfl
@[go_sem] theorem iqi {d:Nat}:T (d+1) cjb=some ⟨[.mut 2,.ro 0,.ro 0],true,true,fj (T d) fuel sx⟩:=czb (v:=sx) rfl rfl
@[go_sem] theorem hzj {d:Nat}:T (d+1) njc=some ⟨[.ro 0,.ro 0],false,true,fj (T d) fuel zjb⟩:=czb (v:=zjb) rfl rfl
@[go_sem] theorem izf {d:Nat}:T (d+1) px=some ⟨[.ro 0,.ro 0],false,true,fj (T d) fuel xj⟩:=czb (v:=xj) rfl rfl
@[go_sem] theorem dxc {d:Nat}:T (d+1) vz=some ⟨[.ro 0,.ro 0,.ro 0],false,true,fj (T d) fuel nz⟩:=czb (v:=nz) rfl rfl
@[go_sem] theorem sqi {d:Nat}:T (d+1) cqb=some ⟨[.ro 0,.ro 0],false,true,fj (T d) fuel fqb⟩:=czb (v:=fqb) rfl rfl
@[go_sem] theorem kzj {d:Nat}:T (d+1) yqb=some ⟨[.ro 0,.ro 0,.ro 0],false,true,fj (T d) fuel aqb⟩:=czb (v:=aqb) rfl rfl
@[go_sem] theorem bzh {d:Nat}:T (d+1) yjb=some ⟨[.ro 0],false,true,fj (T d) fuel ezb⟩:=czb (v:=ezb) rfl rfl
@[go_sem] theorem uxd {d:Nat}:T (d+1) pq=some ⟨[.ro 0,.ro 0],false,true,fj (T d) fuel lj⟩:=czb (v:=lj) rfl rfl
@[go_sem] theorem hqh {d:Nat}:T (d+1) pk=some ⟨[.ro 0],false,true,fj (T d) fuel qjb⟩:=czb (v:=qjb) rfl rfl
@[go_sem] theorem lzj {d:Nat}:T (d+1) lxc=some ⟨[.ro 0],false,true,fj (T d) fuel dxb⟩:=czb (v:=dxb) rfl rfl
@[go_sem] theorem ijg {d:Nat}:T (d+1) lqb=some ⟨[.ro 0],false,true,fj (T d) fuel ik⟩:=czb (v:=ik) rfl rfl
@[go_sem] theorem zje {d:Nat}:T (d+1) qx=some ⟨[.ro 0,.ro 0],false,true,fj (T d) fuel rj⟩:=czb (v:=rj) rfl rfl
@[go_sem] theorem cxd {d:Nat}:T (d+1) oq=some ⟨[.ro 0,.ro 0],false,true,fj (T d) fuel uz⟩:=czb (v:=uz) rfl rfl
@[go_sem] theorem aqh {d:Nat}:T (d+1) lzc=some ⟨[.mut 2],true,true,fj (T d) fuel pjb⟩:=czb (v:=pjb) rfl rfl
@[go_sem] theorem eqh {d:Nat}:T (d+1) nzc=some ⟨[.mut 2,.ro 0,.ro 0],true,true,fj (T d) fuel sk⟩:=czb (v:=sk) rfl rfl
@[go_sem] theorem dze {d:Nat}:T (d+1) ex=some ⟨[.ro 0,.ro 0],false,true,fj (T d) fuel jj⟩:=czb (v:=jj) rfl rfl
@[go_sem] theorem jzf {d:Nat}:T (d+1) mjb=some ⟨[.ro 0],false,false,qxd oz 8⟩:=jkf rfl
@[go_sem] theorem mqi {d:Nat}:T (d+1) vkc=some ⟨[.ro 0,.ro 0],false,true,yqe⟩:=jkf rfl
end Go.Proofs.YtjdcidigbbbckaaDoor.VM

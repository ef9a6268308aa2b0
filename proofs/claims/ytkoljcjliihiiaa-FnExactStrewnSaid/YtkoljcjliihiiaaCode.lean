/- The functions' code, as the interpreter has it. Printed by a program of ours. -/
import Derived.Test.YtkoljcjliihiiaaExt
namespace Go.Proofs.Ytkoljcjliihiiaa.VM
open Go
/-! laws_FnDenies -/
def c_laws_FnDenies_L0 : VC := .seq (.seq (.reg [⟨.mov 20 (.t 5), none, none⟩,
    ⟨.mov 21 (.t 4), none, none⟩,
    ⟨.len 22 (.t 21), none, none⟩,
    ⟨.bin 23 .lss (.t 20) (.t 22), none, none⟩] [3,4,5,23])
  (.cond (.t 23)
  (.skip)
  (.exit 0)))
  (.seq (.block 1 (.seq (.reg [⟨.mov 26 (.t 3), none, none⟩,
    ⟨.mov 27 (.t 5), none, none⟩,
    ⟨.iad 28 t_impl_Answer 2 (.t 26) (.t 27), none, none⟩,
    ⟨.fad 29 (.t 28) 0, none, none⟩,
    ⟨.load 30 none (.t 29), none, none⟩,
    ⟨.mov 6 (.t 30), none, none⟩] [3,4,5,6])
  (.seq (.reg [⟨.mov 31 (.t 6), none, none⟩,
    ⟨.bin 32 .eql (.t 31) (.c (.int .i64 10)), none, none⟩,
    ⟨.mov 33 (.t 32), none, none⟩,
    ⟨.mov 34 (.t 6), some (33, false), (some 34)⟩,
    ⟨.bin 35 .eql (.t 34) (.c (.int .i64 11)), some (33, false), (some 35)⟩,
    ⟨.pick 36 (.t 33) (.c (.bool true)) (.t 35), none, none⟩,
    ⟨.mov 37 (.t 36), none, none⟩,
    ⟨.mov 38 (.t 6), some (37, false), (some 38)⟩,
    ⟨.bin 39 .eql (.t 38) (.c (.int .i64 12)), some (37, false), (some 39)⟩,
    ⟨.pick 40 (.t 37) (.c (.bool true)) (.t 39), none, none⟩,
    ⟨.mov 7 (.t 40), none, none⟩] [3,4,5,6,7])
  (.seq (.reg [⟨.mov 41 (.t 7), none, none⟩,
    ⟨.mov 42 (.t 41), none, none⟩,
    ⟨.mov 43 (.t 4), some (42, true), (some 43)⟩,
    ⟨.mov 44 (.t 5), some (42, true), (some 44)⟩,
    ⟨.iad 45 t_i64 1 (.t 43) (.t 44), some (42, true), (some 45)⟩,
    ⟨.load 46 none (.t 45), some (42, true), (some 46)⟩,
    ⟨.mov 47 (.t 6), some (42, true), (some 47)⟩,
    ⟨.bin 48 .neq (.t 46) (.t 47), some (42, true), (some 48)⟩,
    ⟨.pick 49 (.t 42) (.t 48) (.c (.bool false)), none, none⟩,
    ⟨.mov 50 (.t 49), none, none⟩,
    ⟨.mov 51 (.t 7), some (50, false), (some 51)⟩,
    ⟨.un 52 .not (.t 51), some (50, false), (some 52)⟩,
    ⟨.mov 53 (.t 52), some (50, false), (some 53)⟩,
    ⟨.mov 54 (.t 4), some (53, true), (some 54)⟩,
    ⟨.mov 55 (.t 5), some (53, true), (some 55)⟩,
    ⟨.iad 56 t_i64 1 (.t 54) (.t 55), some (53, true), (some 56)⟩,
    ⟨.load 57 none (.t 56), some (53, true), (some 57)⟩,
    ⟨.bin 58 .neq (.t 57) (.c (.int .i64 0)), some (53, true), (some 58)⟩,
    ⟨.pick 59 (.t 53) (.t 58) (.c (.bool false)), some (50, false), (some 59)⟩,
    ⟨.pick 60 (.t 50) (.c (.bool true)) (.t 59), none, none⟩] [3,4,5,60])
  (.cond (.t 60)
  (.seq (.reg [⟨.mov 2 (.c (.bool false)), none, none⟩] [2])
  (.ret))
  (.skip))))))
  (.reg [⟨.mov 24 (.t 5), none, none⟩,
    ⟨.bin 25 .add (.t 24) (.c (.int .i64 1)), none, none⟩,
    ⟨.mov 5 (.t 25), none, none⟩] [3,4,5]))
def c_laws_FnDenies : VC := .seq (.reg [⟨.mov 2 (.c (.bool false)), none, none⟩] [0])
  (.seq (.seq (.reg [⟨.mov 8 (.t 0), none, none⟩,
    ⟨.call (some 9) n_laws_big [(.t 8)], none, none⟩] [0,9])
  (.cond (.t 9)
  (.seq (.reg [⟨.mov 2 (.c (.bool true)), none, none⟩] [2])
  (.ret))
  (.skip)))
  (.seq (.reg [⟨.mov 10 (.t 0), none, none⟩,
    ⟨.call (some 11) n_spec_DrawDenyOf [(.t 10)], none, none⟩,
    ⟨.mov 3 (.t 11), none, none⟩] [3])
  (.seq (.reg [⟨.mov 12 (.t 3), none, none⟩,
    ⟨.call (some 13) n_impl_DenyOf [(.t 12)], none, none⟩,
    ⟨.mov 4 (.t 13), none, none⟩] [3,4])
  (.seq (.seq (.reg [⟨.mov 14 (.t 3), none, none⟩,
    ⟨.len 15 (.t 14), none, none⟩,
    ⟨.bin 16 .gtr (.t 15) (.c (.int .i64 60)), none, none⟩] [3,4,16])
  (.cond (.t 16)
  (.seq (.reg [⟨.mov 17 (.t 4), none, none⟩,
    ⟨.len 18 (.t 17), none, none⟩,
    ⟨.bin 19 .eql (.t 18) (.c (.int .i64 0)), none, none⟩,
    ⟨.mov 2 (.t 19), none, none⟩] [2])
  (.ret))
  (.skip)))
  (.seq (.seq (.reg [⟨.mov 5 (.c (.int .i64 0)), none, none⟩] [3,4,5])
  (.block 0 (.loop [3,4,5] c_laws_FnDenies_L0)))
  (.seq (.reg [⟨.mov 61 (.t 4), none, none⟩,
    ⟨.len 62 (.t 61), none, none⟩,
    ⟨.mov 63 (.t 3), none, none⟩,
    ⟨.len 64 (.t 63), none, none⟩,
    ⟨.bin 65 .eql (.t 62) (.t 64), none, none⟩,
    ⟨.mov 2 (.t 65), none, none⟩] [2])
  (.ret)))))))
def f_laws_FnDenies : Fn := ⟨[.ro 0], false, true, [.t 2], c_laws_FnDenies⟩
/-! laws_FnExactDenyOf -/
def c_laws_FnExactDenyOf : VC := .seq (.reg [⟨.mov 2 (.c (.bool false)), none, none⟩] [0])
  (.seq (.reg [⟨.mov 3 (.c (.int .i64 1048576)), none, none⟩] [0,3])
  (.seq (.reg [⟨.mov 11 (.t 0), none, none⟩,
    ⟨.mov 12 (.t 3), none, none⟩,
    ⟨.call (some 13) n_laws_szAnswerS [(.t 11), (.t 12)], none, none⟩,
    ⟨.mov 3 (.t 13), none, none⟩] [0,3])
  (.seq (.seq (.reg [⟨.mov 14 (.t 3), none, none⟩,
    ⟨.bin 15 .lss (.t 14) (.c (.int .i64 0)), none, none⟩] [0,15])
  (.cond (.t 15)
  (.seq (.reg [⟨.mov 2 (.c (.bool true)), none, none⟩] [2])
  (.ret))
  (.skip)))
  (.seq (.reg [⟨.mov 16 (.t 0), none, none⟩,
    ⟨.call (some 17) n_laws_toAnswerS [(.t 16)], none, none⟩,
    ⟨.call (some 18) n_spec_DenyOf [(.t 17)], none, none⟩,
    ⟨.mov 4 (.t 18), none, none⟩] [0,4])
  (.seq (.reg [⟨.mov 19 (.t 0), none, none⟩,
    ⟨.call (some 20) n_laws_toAnswerS [(.t 19)], none, none⟩,
    ⟨.mov 5 (.t 20), none, none⟩] [0,4,5])
  (.seq (.reg [⟨.mov 21 (.t 5), none, none⟩,
    ⟨.call (some 22) n_impl_DenyOf [(.t 21)], none, none⟩,
    ⟨.mov 6 (.t 22), none, none⟩] [0,4,5,6])
  (.seq (.seq (.reg [⟨.mov 23 (.t 6), none, none⟩,
    ⟨.mov 24 (.t 4), none, none⟩,
    ⟨.call (some 25) n_laws_eqInt64S [(.t 23), (.t 24)], none, none⟩,
    ⟨.un 26 .not (.t 25), none, none⟩] [0,4,5,6,26])
  (.cond (.t 26)
  (.seq (.reg [⟨.mov 2 (.c (.bool false)), none, none⟩] [2])
  (.ret))
  (.skip)))
  (.seq (.seq (.reg [⟨.mov 27 (.t 5), none, none⟩,
    ⟨.mov 28 (.t 0), none, none⟩,
    ⟨.call (some 29) n_laws_toAnswerS [(.t 28)], none, none⟩,
    ⟨.call (some 30) n_laws_eqAnswerS [(.t 27), (.t 29)], none, none⟩,
    ⟨.un 31 .not (.t 30), none, none⟩] [0,4,5,6,31])
  (.cond (.t 31)
  (.seq (.reg [⟨.mov 2 (.c (.bool false)), none, none⟩] [2])
  (.ret))
  (.skip)))
  (.seq (.reg [⟨.mov 7 (.c (.int .i64 1)), none, none⟩] [0,4,5,6,7])
  (.seq (.reg [⟨.mov 32 (.t 5), none, none⟩,
    ⟨.mov 33 (.t 7), none, none⟩,
    ⟨.call (some 34) n_laws_markAnswerS [(.t 32), (.t 33)], none, none⟩,
    ⟨.mov 7 (.t 34), none, none⟩] [0,4,6,7])
  (.seq (.seq (.reg [⟨.mov 35 (.t 7), none, none⟩,
    ⟨.bin 36 .lss (.t 35) (.c (.int .i64 0)), none, none⟩,
    ⟨.mov 37 (.t 36), none, none⟩,
    ⟨.mov 38 (.t 6), some (37, false), (some 38)⟩,
    ⟨.mov 39 (.t 4), some (37, false), (some 39)⟩,
    ⟨.call (some 40) n_laws_eqInt64S [(.t 38), (.t 39)], some (37, false), (some 40)⟩,
    ⟨.un 41 .not (.t 40), some (37, false), (some 41)⟩,
    ⟨.pick 42 (.t 37) (.c (.bool true)) (.t 41), none, none⟩] [0,4,6,42])
  (.cond (.t 42)
  (.seq (.reg [⟨.mov 2 (.c (.bool false)), none, none⟩] [2])
  (.ret))
  (.skip)))
  (.seq (.reg [⟨.mov 8 (.c (.int .i64 1)), none, none⟩] [0,4,6,8])
  (.seq (.reg [⟨.mov 43 (.t 6), none, none⟩,
    ⟨.mov 44 (.t 8), none, none⟩,
    ⟨.call (some 45) n_laws_markInt64S [(.t 43), (.t 44)], none, none⟩,
    ⟨.mov 8 (.t 45), none, none⟩] [0,4,6,8])
  (.seq (.reg [⟨.mov 9 (.c (.int .i64 1)), none, none⟩] [0,4,6,8,9])
  (.seq (.reg [⟨.mov 46 (.t 6), none, none⟩,
    ⟨.mov 47 (.t 9), none, none⟩,
    ⟨.call (some 48) n_laws_heldInt64S [(.t 46), (.t 47)], none, none⟩,
    ⟨.mov 9 (.t 48), none, none⟩] [0,4,6,8,9])
  (.seq (.seq (.reg [⟨.mov 49 (.t 9), none, none⟩,
    ⟨.bin 50 .lss (.t 49) (.c (.int .i64 0)), none, none⟩] [0,4,6,8,9,50])
  (.cond (.t 50)
  (.seq (.reg [⟨.mov 2 (.c (.bool false)), none, none⟩] [2])
  (.ret))
  (.skip)))
  (.seq (.seq (.reg [⟨.mov 51 (.t 9), none, none⟩,
    ⟨.mov 52 (.t 8), none, none⟩,
    ⟨.bin 53 .neq (.t 51) (.t 52), none, none⟩] [0,4,6,8,53])
  (.cond (.t 53)
  (.seq (.reg [⟨.mov 2 (.c (.bool false)), none, none⟩] [2])
  (.ret))
  (.skip)))
  (.seq (.reg [⟨.mov 54 (.t 0), none, none⟩,
    ⟨.call (some 55) n_laws_toAnswerS [(.t 54)], none, none⟩,
    ⟨.call (some 56) n_impl_DenyOf [(.t 55)], none, none⟩,
    ⟨.mov 10 (.t 56), none, none⟩] [4,6,8,10])
  (.seq (.seq (.reg [⟨.mov 57 (.t 10), none, none⟩,
    ⟨.mov 58 (.t 4), none, none⟩,
    ⟨.call (some 59) n_laws_eqInt64S [(.t 57), (.t 58)], none, none⟩,
    ⟨.un 60 .not (.t 59), none, none⟩] [6,8,60])
  (.cond (.t 60)
  (.seq (.reg [⟨.mov 2 (.c (.bool false)), none, none⟩] [2])
  (.ret))
  (.skip)))
  (.seq (.reg [⟨.mov 9 (.c (.int .i64 1)), none, none⟩] [6,8,9])
  (.seq (.reg [⟨.mov 61 (.t 6), none, none⟩,
    ⟨.mov 62 (.t 9), none, none⟩,
    ⟨.call (some 63) n_laws_heldInt64S [(.t 61), (.t 62)], none, none⟩,
    ⟨.mov 9 (.t 63), none, none⟩] [8,9])
  (.seq (.seq (.reg [⟨.mov 64 (.t 9), none, none⟩,
    ⟨.bin 65 .lss (.t 64) (.c (.int .i64 0)), none, none⟩] [8,9,65])
  (.cond (.t 65)
  (.seq (.reg [⟨.mov 2 (.c (.bool false)), none, none⟩] [2])
  (.ret))
  (.skip)))
  (.seq (.seq (.reg [⟨.mov 66 (.t 9), none, none⟩,
    ⟨.mov 67 (.t 8), none, none⟩,
    ⟨.bin 68 .neq (.t 66) (.t 67), none, none⟩] [68])
  (.cond (.t 68)
  (.seq (.reg [⟨.mov 2 (.c (.bool false)), none, none⟩] [2])
  (.ret))
  (.skip)))
  (.seq (.reg [⟨.mov 2 (.c (.bool true)), none, none⟩] [2])
  (.ret)))))))))))))))))))))))))
def f_laws_FnExactDenyOf : Fn := ⟨[.ro 0], false, true, [.t 2], c_laws_FnExactDenyOf⟩
/-! laws_FnExactStripped -/
def c_laws_FnExactStripped : VC := .seq (.reg [⟨.mov 2 (.c (.bool false)), none, none⟩] [0])
  (.seq (.reg [⟨.mov 3 (.c (.int .i64 1048576)), none, none⟩] [0,3])
  (.seq (.reg [⟨.mov 11 (.t 0), none, none⟩,
    ⟨.mov 12 (.t 3), none, none⟩,
    ⟨.call (some 13) n_laws_szActS [(.t 11), (.t 12)], none, none⟩,
    ⟨.mov 3 (.t 13), none, none⟩] [0,3])
  (.seq (.seq (.reg [⟨.mov 14 (.t 3), none, none⟩,
    ⟨.bin 15 .lss (.t 14) (.c (.int .i64 0)), none, none⟩] [0,15])
  (.cond (.t 15)
  (.seq (.reg [⟨.mov 2 (.c (.bool true)), none, none⟩] [2])
  (.ret))
  (.skip)))
  (.seq (.reg [⟨.mov 16 (.t 0), none, none⟩,
    ⟨.call (some 17) n_laws_toActS [(.t 16)], none, none⟩,
    ⟨.call (some 18) n_spec_Stripped [(.t 17)], none, none⟩,
    ⟨.mov 4 (.t 18), none, none⟩] [0,4])
  (.seq (.reg [⟨.mov 19 (.t 0), none, none⟩,
    ⟨.call (some 20) n_laws_toActS [(.t 19)], none, none⟩,
    ⟨.mov 5 (.t 20), none, none⟩] [0,4,5])
  (.seq (.reg [⟨.mov 21 (.t 5), none, none⟩,
    ⟨.call (some 22) n_impl_Stripped [(.t 21)], none, none⟩,
    ⟨.mov 6 (.t 22), none, none⟩] [0,4,5,6])
  (.seq (.seq (.reg [⟨.mov 23 (.t 6), none, none⟩,
    ⟨.mov 24 (.t 4), none, none⟩,
    ⟨.call (some 25) n_laws_eqActS [(.t 23), (.t 24)], none, none⟩,
    ⟨.un 26 .not (.t 25), none, none⟩] [0,4,5,6,26])
  (.cond (.t 26)
  (.seq (.reg [⟨.mov 2 (.c (.bool false)), none, none⟩] [2])
  (.ret))
  (.skip)))
  (.seq (.seq (.reg [⟨.mov 27 (.t 5), none, none⟩,
    ⟨.mov 28 (.t 0), none, none⟩,
    ⟨.call (some 29) n_laws_toActS [(.t 28)], none, none⟩,
    ⟨.call (some 30) n_laws_eqActS [(.t 27), (.t 29)], none, none⟩,
    ⟨.un 31 .not (.t 30), none, none⟩] [0,4,5,6,31])
  (.cond (.t 31)
  (.seq (.reg [⟨.mov 2 (.c (.bool false)), none, none⟩] [2])
  (.ret))
  (.skip)))
  (.seq (.reg [⟨.mov 7 (.c (.int .i64 1)), none, none⟩] [0,4,5,6,7])
  (.seq (.reg [⟨.mov 32 (.t 5), none, none⟩,
    ⟨.mov 33 (.t 7), none, none⟩,
    ⟨.call (some 34) n_laws_markActS [(.t 32), (.t 33)], none, none⟩,
    ⟨.mov 7 (.t 34), none, none⟩] [0,4,6,7])
  (.seq (.seq (.reg [⟨.mov 35 (.t 7), none, none⟩,
    ⟨.bin 36 .lss (.t 35) (.c (.int .i64 0)), none, none⟩,
    ⟨.mov 37 (.t 36), none, none⟩,
    ⟨.mov 38 (.t 6), some (37, false), (some 38)⟩,
    ⟨.mov 39 (.t 4), some (37, false), (some 39)⟩,
    ⟨.call (some 40) n_laws_eqActS [(.t 38), (.t 39)], some (37, false), (some 40)⟩,
    ⟨.un 41 .not (.t 40), some (37, false), (some 41)⟩,
    ⟨.pick 42 (.t 37) (.c (.bool true)) (.t 41), none, none⟩] [0,4,6,42])
  (.cond (.t 42)
  (.seq (.reg [⟨.mov 2 (.c (.bool false)), none, none⟩] [2])
  (.ret))
  (.skip)))
  (.seq (.reg [⟨.mov 8 (.c (.int .i64 1)), none, none⟩] [0,4,6,8])
  (.seq (.reg [⟨.mov 43 (.t 6), none, none⟩,
    ⟨.mov 44 (.t 8), none, none⟩,
    ⟨.call (some 45) n_laws_markActS [(.t 43), (.t 44)], none, none⟩,
    ⟨.mov 8 (.t 45), none, none⟩] [0,4,6,8])
  (.seq (.reg [⟨.mov 9 (.c (.int .i64 1)), none, none⟩] [0,4,6,8,9])
  (.seq (.reg [⟨.mov 46 (.t 6), none, none⟩,
    ⟨.mov 47 (.t 9), none, none⟩,
    ⟨.call (some 48) n_laws_heldActS [(.t 46), (.t 47)], none, none⟩,
    ⟨.mov 9 (.t 48), none, none⟩] [0,4,6,8,9])
  (.seq (.seq (.reg [⟨.mov 49 (.t 9), none, none⟩,
    ⟨.bin 50 .lss (.t 49) (.c (.int .i64 0)), none, none⟩] [0,4,6,8,9,50])
  (.cond (.t 50)
  (.seq (.reg [⟨.mov 2 (.c (.bool false)), none, none⟩] [2])
  (.ret))
  (.skip)))
  (.seq (.seq (.reg [⟨.mov 51 (.t 9), none, none⟩,
    ⟨.mov 52 (.t 8), none, none⟩,
    ⟨.bin 53 .neq (.t 51) (.t 52), none, none⟩] [0,4,6,8,53])
  (.cond (.t 53)
  (.seq (.reg [⟨.mov 2 (.c (.bool false)), none, none⟩] [2])
  (.ret))
  (.skip)))
  (.seq (.reg [⟨.mov 54 (.t 0), none, none⟩,
    ⟨.call (some 55) n_laws_toActS [(.t 54)], none, none⟩,
    ⟨.call (some 56) n_impl_Stripped [(.t 55)], none, none⟩,
    ⟨.mov 10 (.t 56), none, none⟩] [4,6,8,10])
  (.seq (.seq (.reg [⟨.mov 57 (.t 10), none, none⟩,
    ⟨.mov 58 (.t 4), none, none⟩,
    ⟨.call (some 59) n_laws_eqActS [(.t 57), (.t 58)], none, none⟩,
    ⟨.un 60 .not (.t 59), none, none⟩] [6,8,60])
  (.cond (.t 60)
  (.seq (.reg [⟨.mov 2 (.c (.bool false)), none, none⟩] [2])
  (.ret))
  (.skip)))
  (.seq (.reg [⟨.mov 9 (.c (.int .i64 1)), none, none⟩] [6,8,9])
  (.seq (.reg [⟨.mov 61 (.t 6), none, none⟩,
    ⟨.mov 62 (.t 9), none, none⟩,
    ⟨.call (some 63) n_laws_heldActS [(.t 61), (.t 62)], none, none⟩,
    ⟨.mov 9 (.t 63), none, none⟩] [8,9])
  (.seq (.seq (.reg [⟨.mov 64 (.t 9), none, none⟩,
    ⟨.bin 65 .lss (.t 64) (.c (.int .i64 0)), none, none⟩] [8,9,65])
  (.cond (.t 65)
  (.seq (.reg [⟨.mov 2 (.c (.bool false)), none, none⟩] [2])
  (.ret))
  (.skip)))
  (.seq (.seq (.reg [⟨.mov 66 (.t 9), none, none⟩,
    ⟨.mov 67 (.t 8), none, none⟩,
    ⟨.bin 68 .neq (.t 66) (.t 67), none, none⟩] [68])
  (.cond (.t 68)
  (.seq (.reg [⟨.mov 2 (.c (.bool false)), none, none⟩] [2])
  (.ret))
  (.skip)))
  (.seq (.reg [⟨.mov 2 (.c (.bool true)), none, none⟩] [2])
  (.ret)))))))))))))))))))))))))
def f_laws_FnExactStripped : Fn := ⟨[.ro 0], false, true, [.t 2], c_laws_FnExactStripped⟩
/-! laws_FnExactGathered -/
def c_laws_FnExactGathered : VC := .seq (.reg [⟨.mov 4 (.c (.bool false)), none, none⟩] [0,1])
  (.seq (.reg [⟨.mov 5 (.c (.int .i64 1048576)), none, none⟩] [0,1,5])
  (.seq (.reg [⟨.mov 14 (.t 0), none, none⟩,
    ⟨.mov 15 (.t 5), none, none⟩,
    ⟨.call (some 16) n_laws_szActS [(.t 14), (.t 15)], none, none⟩,
    ⟨.mov 5 (.t 16), none, none⟩] [0,1,5])
  (.seq (.seq (.reg [⟨.mov 17 (.t 5), none, none⟩,
    ⟨.bin 18 .lss (.t 17) (.c (.int .i64 0)), none, none⟩] [0,1,5,18])
  (.cond (.t 18)
  (.seq (.reg [⟨.mov 4 (.c (.bool true)), none, none⟩] [4])
  (.ret))
  (.skip)))
  (.seq (.reg [⟨.mov 19 (.t 1), none, none⟩,
    ⟨.mov 20 (.t 5), none, none⟩,
    ⟨.call (some 21) n_laws_szAnswerS [(.t 19), (.t 20)], none, none⟩,
    ⟨.mov 5 (.t 21), none, none⟩] [0,1,5])
  (.seq (.seq (.reg [⟨.mov 22 (.t 5), none, none⟩,
    ⟨.bin 23 .lss (.t 22) (.c (.int .i64 0)), none, none⟩] [0,1,23])
  (.cond (.t 23)
  (.seq (.reg [⟨.mov 4 (.c (.bool true)), none, none⟩] [4])
  (.ret))
  (.skip)))
  (.seq (.reg [⟨.mov 24 (.t 0), none, none⟩,
    ⟨.call (some 25) n_laws_toActS [(.t 24)], none, none⟩,
    ⟨.mov 26 (.t 1), none, none⟩,
    ⟨.call (some 27) n_laws_toAnswerS [(.t 26)], none, none⟩,
    ⟨.call (some 28) n_spec_Gathered [(.t 25), (.t 27)], none, none⟩,
    ⟨.mov 6 (.t 28), none, none⟩] [0,1,6])
  (.seq (.reg [⟨.mov 29 (.t 0), none, none⟩,
    ⟨.call (some 30) n_laws_toActS [(.t 29)], none, none⟩,
    ⟨.mov 7 (.t 30), none, none⟩] [0,1,6,7])
  (.seq (.reg [⟨.mov 31 (.t 1), none, none⟩,
    ⟨.call (some 32) n_laws_toAnswerS [(.t 31)], none, none⟩,
    ⟨.mov 8 (.t 32), none, none⟩] [0,1,6,7,8])
  (.seq (.reg [⟨.mov 33 (.t 7), none, none⟩,
    ⟨.mov 34 (.t 8), none, none⟩,
    ⟨.call (some 35) n_impl_Gathered [(.t 33), (.t 34)], none, none⟩,
    ⟨.mov 9 (.t 35), none, none⟩] [0,1,6,7,8,9])
  (.seq (.seq (.reg [⟨.mov 36 (.t 9), none, none⟩,
    ⟨.mov 37 (.t 6), none, none⟩,
    ⟨.call (some 38) n_laws_eqAnswerS [(.t 36), (.t 37)], none, none⟩,
    ⟨.un 39 .not (.t 38), none, none⟩] [0,1,6,7,8,9,39])
  (.cond (.t 39)
  (.seq (.reg [⟨.mov 4 (.c (.bool false)), none, none⟩] [4])
  (.ret))
  (.skip)))
  (.seq (.seq (.reg [⟨.mov 40 (.t 7), none, none⟩,
    ⟨.mov 41 (.t 0), none, none⟩,
    ⟨.call (some 42) n_laws_toActS [(.t 41)], none, none⟩,
    ⟨.call (some 43) n_laws_eqActS [(.t 40), (.t 42)], none, none⟩,
    ⟨.un 44 .not (.t 43), none, none⟩] [0,1,6,7,8,9,44])
  (.cond (.t 44)
  (.seq (.reg [⟨.mov 4 (.c (.bool false)), none, none⟩] [4])
  (.ret))
  (.skip)))
  (.seq (.seq (.reg [⟨.mov 45 (.t 8), none, none⟩,
    ⟨.mov 46 (.t 1), none, none⟩,
    ⟨.call (some 47) n_laws_toAnswerS [(.t 46)], none, none⟩,
    ⟨.call (some 48) n_laws_eqAnswerS [(.t 45), (.t 47)], none, none⟩,
    ⟨.un 49 .not (.t 48), none, none⟩] [0,1,6,7,8,9,49])
  (.cond (.t 49)
  (.seq (.reg [⟨.mov 4 (.c (.bool false)), none, none⟩] [4])
  (.ret))
  (.skip)))
  (.seq (.reg [⟨.mov 10 (.c (.int .i64 1)), none, none⟩] [0,1,6,7,8,9,10])
  (.seq (.reg [⟨.mov 50 (.t 7), none, none⟩,
    ⟨.mov 51 (.t 10), none, none⟩,
    ⟨.call (some 52) n_laws_markActS [(.t 50), (.t 51)], none, none⟩,
    ⟨.mov 10 (.t 52), none, none⟩] [0,1,6,8,9,10])
  (.seq (.reg [⟨.mov 53 (.t 8), none, none⟩,
    ⟨.mov 54 (.t 10), none, none⟩,
    ⟨.call (some 55) n_laws_markAnswerS [(.t 53), (.t 54)], none, none⟩,
    ⟨.mov 10 (.t 55), none, none⟩] [0,1,6,9,10])
  (.seq (.seq (.reg [⟨.mov 56 (.t 10), none, none⟩,
    ⟨.bin 57 .lss (.t 56) (.c (.int .i64 0)), none, none⟩,
    ⟨.mov 58 (.t 57), none, none⟩,
    ⟨.mov 59 (.t 9), some (58, false), (some 59)⟩,
    ⟨.mov 60 (.t 6), some (58, false), (some 60)⟩,
    ⟨.call (some 61) n_laws_eqAnswerS [(.t 59), (.t 60)], some (58, false), (some 61)⟩,
    ⟨.un 62 .not (.t 61), some (58, false), (some 62)⟩,
    ⟨.pick 63 (.t 58) (.c (.bool true)) (.t 62), none, none⟩] [0,1,6,9,63])
  (.cond (.t 63)
  (.seq (.reg [⟨.mov 4 (.c (.bool false)), none, none⟩] [4])
  (.ret))
  (.skip)))
  (.seq (.reg [⟨.mov 11 (.c (.int .i64 1)), none, none⟩] [0,1,6,9,11])
  (.seq (.reg [⟨.mov 64 (.t 9), none, none⟩,
    ⟨.mov 65 (.t 11), none, none⟩,
    ⟨.call (some 66) n_laws_markAnswerS [(.t 64), (.t 65)], none, none⟩,
    ⟨.mov 11 (.t 66), none, none⟩] [0,1,6,9,11])
  (.seq (.reg [⟨.mov 12 (.c (.int .i64 1)), none, none⟩] [0,1,6,9,11,12])
  (.seq (.reg [⟨.mov 67 (.t 9), none, none⟩,
    ⟨.mov 68 (.t 12), none, none⟩,
    ⟨.call (some 69) n_laws_heldAnswerS [(.t 67), (.t 68)], none, none⟩,
    ⟨.mov 12 (.t 69), none, none⟩] [0,1,6,9,11,12])
  (.seq (.seq (.reg [⟨.mov 70 (.t 12), none, none⟩,
    ⟨.bin 71 .lss (.t 70) (.c (.int .i64 0)), none, none⟩] [0,1,6,9,11,12,71])
  (.cond (.t 71)
  (.seq (.reg [⟨.mov 4 (.c (.bool false)), none, none⟩] [4])
  (.ret))
  (.skip)))
  (.seq (.seq (.reg [⟨.mov 72 (.t 12), none, none⟩,
    ⟨.mov 73 (.t 11), none, none⟩,
    ⟨.bin 74 .neq (.t 72) (.t 73), none, none⟩] [0,1,6,9,11,74])
  (.cond (.t 74)
  (.seq (.reg [⟨.mov 4 (.c (.bool false)), none, none⟩] [4])
  (.ret))
  (.skip)))
  (.seq (.reg [⟨.mov 75 (.t 0), none, none⟩,
    ⟨.call (some 76) n_laws_toActS [(.t 75)], none, none⟩,
    ⟨.mov 77 (.t 1), none, none⟩,
    ⟨.call (some 78) n_laws_toAnswerS [(.t 77)], none, none⟩,
    ⟨.call (some 79) n_impl_Gathered [(.t 76), (.t 78)], none, none⟩,
    ⟨.mov 13 (.t 79), none, none⟩] [6,9,11,13])
  (.seq (.seq (.reg [⟨.mov 80 (.t 13), none, none⟩,
    ⟨.mov 81 (.t 6), none, none⟩,
    ⟨.call (some 82) n_laws_eqAnswerS [(.t 80), (.t 81)], none, none⟩,
    ⟨.un 83 .not (.t 82), none, none⟩] [9,11,83])
  (.cond (.t 83)
  (.seq (.reg [⟨.mov 4 (.c (.bool false)), none, none⟩] [4])
  (.ret))
  (.skip)))
  (.seq (.reg [⟨.mov 12 (.c (.int .i64 1)), none, none⟩] [9,11,12])
  (.seq (.reg [⟨.mov 84 (.t 9), none, none⟩,
    ⟨.mov 85 (.t 12), none, none⟩,
    ⟨.call (some 86) n_laws_heldAnswerS [(.t 84), (.t 85)], none, none⟩,
    ⟨.mov 12 (.t 86), none, none⟩] [11,12])
  (.seq (.seq (.reg [⟨.mov 87 (.t 12), none, none⟩,
    ⟨.bin 88 .lss (.t 87) (.c (.int .i64 0)), none, none⟩] [11,12,88])
  (.cond (.t 88)
  (.seq (.reg [⟨.mov 4 (.c (.bool false)), none, none⟩] [4])
  (.ret))
  (.skip)))
  (.seq (.seq (.reg [⟨.mov 89 (.t 12), none, none⟩,
    ⟨.mov 90 (.t 11), none, none⟩,
    ⟨.bin 91 .neq (.t 89) (.t 90), none, none⟩] [91])
  (.cond (.t 91)
  (.seq (.reg [⟨.mov 4 (.c (.bool false)), none, none⟩] [4])
  (.ret))
  (.skip)))
  (.seq (.reg [⟨.mov 4 (.c (.bool true)), none, none⟩] [4])
  (.ret))))))))))))))))))))))))))))))
def f_laws_FnExactGathered : Fn := ⟨[.ro 0, .ro 0], false, true, [.t 4], c_laws_FnExactGathered⟩
/-! laws_FnExactStrewn -/
def c_laws_FnExactStrewn : VC := .seq (.reg [⟨.mov 4 (.c (.bool false)), none, none⟩] [0,1])
  (.seq (.reg [⟨.mov 5 (.c (.int .i64 1048576)), none, none⟩] [0,1,5])
  (.seq (.reg [⟨.mov 17 (.t 0), none, none⟩,
    ⟨.mov 18 (.t 5), none, none⟩,
    ⟨.call (some 19) n_laws_szActS [(.t 17), (.t 18)], none, none⟩,
    ⟨.mov 5 (.t 19), none, none⟩] [0,1,5])
  (.seq (.seq (.reg [⟨.mov 20 (.t 5), none, none⟩,
    ⟨.bin 21 .lss (.t 20) (.c (.int .i64 0)), none, none⟩] [0,1,5,21])
  (.cond (.t 21)
  (.seq (.reg [⟨.mov 4 (.c (.bool true)), none, none⟩] [4])
  (.ret))
  (.skip)))
  (.seq (.reg [⟨.mov 22 (.t 1), none, none⟩,
    ⟨.mov 23 (.t 5), none, none⟩,
    ⟨.call (some 24) n_laws_szStrewS [(.t 22), (.t 23)], none, none⟩,
    ⟨.mov 5 (.t 24), none, none⟩] [0,1,5])
  (.seq (.seq (.reg [⟨.mov 25 (.t 5), none, none⟩,
    ⟨.bin 26 .lss (.t 25) (.c (.int .i64 0)), none, none⟩] [0,1,26])
  (.cond (.t 26)
  (.seq (.reg [⟨.mov 4 (.c (.bool true)), none, none⟩] [4])
  (.ret))
  (.skip)))
  (.seq (.reg [⟨.mov 28 (.t 0), none, none⟩,
    ⟨.call (some 29) n_laws_toActS [(.t 28)], none, none⟩,
    ⟨.mov 30 (.t 1), none, none⟩,
    ⟨.call (some 31) n_laws_toStrewS [(.t 30)], none, none⟩,
    ⟨.call (some 32) n_spec_Strewn [(.t 29), (.t 31)], none, none⟩,
    ⟨.mov 27 (.t 32), none, none⟩,
    ⟨.ext 33 (.t 27) 0, none, none⟩,
    ⟨.ext 34 (.t 27) 1, none, none⟩,
    ⟨.mov 6 (.t 33), none, none⟩,
    ⟨.mov 7 (.t 34), none, none⟩] [0,1,6,7])
  (.seq (.reg [⟨.mov 35 (.t 0), none, none⟩,
    ⟨.call (some 36) n_laws_toActS [(.t 35)], none, none⟩,
    ⟨.mov 8 (.t 36), none, none⟩] [0,1,6,7,8])
  (.seq (.reg [⟨.mov 37 (.t 1), none, none⟩,
    ⟨.call (some 38) n_laws_toStrewS [(.t 37)], none, none⟩,
    ⟨.mov 9 (.t 38), none, none⟩] [0,1,6,7,8,9])
  (.seq (.reg [⟨.mov 40 (.t 8), none, none⟩,
    ⟨.mov 41 (.t 9), none, none⟩,
    ⟨.call (some 42) n_impl_Strewn [(.t 40), (.t 41)], none, none⟩,
    ⟨.mov 39 (.t 42), none, none⟩,
    ⟨.ext 43 (.t 39) 0, none, none⟩,
    ⟨.ext 44 (.t 39) 1, none, none⟩,
    ⟨.mov 10 (.t 43), none, none⟩,
    ⟨.mov 11 (.t 44), none, none⟩] [0,1,6,7,8,9,10,11])
  (.seq (.seq (.reg [⟨.mov 45 (.t 10), none, none⟩,
    ⟨.mov 46 (.t 6), none, none⟩,
    ⟨.call (some 47) n_laws_eqActS [(.t 45), (.t 46)], none, none⟩,
    ⟨.un 48 .not (.t 47), none, none⟩,
    ⟨.mov 49 (.t 48), none, none⟩,
    ⟨.mov 50 (.t 11), some (49, false), (some 50)⟩,
    ⟨.mov 51 (.t 7), some (49, false), (some 51)⟩,
    ⟨.beq 52 true (.t 50) (.t 51), some (49, false), (some 52)⟩,
    ⟨.pick 53 (.t 49) (.c (.bool true)) (.t 52), none, none⟩] [0,1,6,7,8,9,10,11,53])
  (.cond (.t 53)
  (.seq (.reg [⟨.mov 4 (.c (.bool false)), none, none⟩] [4])
  (.ret))
  (.skip)))
  (.seq (.seq (.reg [⟨.mov 54 (.t 8), none, none⟩,
    ⟨.mov 55 (.t 0), none, none⟩,
    ⟨.call (some 56) n_laws_toActS [(.t 55)], none, none⟩,
    ⟨.call (some 57) n_laws_eqActS [(.t 54), (.t 56)], none, none⟩,
    ⟨.un 58 .not (.t 57), none, none⟩] [0,1,6,7,8,9,10,11,58])
  (.cond (.t 58)
  (.seq (.reg [⟨.mov 4 (.c (.bool false)), none, none⟩] [4])
  (.ret))
  (.skip)))
  (.seq (.seq (.reg [⟨.mov 59 (.t 9), none, none⟩,
    ⟨.mov 60 (.t 1), none, none⟩,
    ⟨.call (some 61) n_laws_toStrewS [(.t 60)], none, none⟩,
    ⟨.call (some 62) n_laws_eqStrewS [(.t 59), (.t 61)], none, none⟩,
    ⟨.un 63 .not (.t 62), none, none⟩] [0,1,6,7,8,9,10,11,63])
  (.cond (.t 63)
  (.seq (.reg [⟨.mov 4 (.c (.bool false)), none, none⟩] [4])
  (.ret))
  (.skip)))
  (.seq (.reg [⟨.mov 12 (.c (.int .i64 1)), none, none⟩] [0,1,6,7,8,9,10,11,12])
  (.seq (.reg [⟨.mov 64 (.t 8), none, none⟩,
    ⟨.mov 65 (.t 12), none, none⟩,
    ⟨.call (some 66) n_laws_markActS [(.t 64), (.t 65)], none, none⟩,
    ⟨.mov 12 (.t 66), none, none⟩] [0,1,6,7,9,10,11,12])
  (.seq (.reg [⟨.mov 67 (.t 9), none, none⟩,
    ⟨.mov 68 (.t 12), none, none⟩,
    ⟨.call (some 69) n_laws_markStrewS [(.t 67), (.t 68)], none, none⟩,
    ⟨.mov 12 (.t 69), none, none⟩] [0,1,6,7,10,11,12])
  (.seq (.seq (.reg [⟨.mov 70 (.t 12), none, none⟩,
    ⟨.bin 71 .lss (.t 70) (.c (.int .i64 0)), none, none⟩,
    ⟨.mov 72 (.t 71), none, none⟩,
    ⟨.mov 73 (.t 10), some (72, false), (some 73)⟩,
    ⟨.mov 74 (.t 6), some (72, false), (some 74)⟩,
    ⟨.call (some 75) n_laws_eqActS [(.t 73), (.t 74)], some (72, false), (some 75)⟩,
    ⟨.un 76 .not (.t 75), some (72, false), (some 76)⟩,
    ⟨.pick 77 (.t 72) (.c (.bool true)) (.t 76), none, none⟩,
    ⟨.mov 78 (.t 77), none, none⟩,
    ⟨.mov 79 (.t 11), some (78, false), (some 79)⟩,
    ⟨.mov 80 (.t 7), some (78, false), (some 80)⟩,
    ⟨.beq 81 true (.t 79) (.t 80), some (78, false), (some 81)⟩,
    ⟨.pick 82 (.t 78) (.c (.bool true)) (.t 81), none, none⟩] [0,1,6,7,10,82])
  (.cond (.t 82)
  (.seq (.reg [⟨.mov 4 (.c (.bool false)), none, none⟩] [4])
  (.ret))
  (.skip)))
  (.seq (.reg [⟨.mov 13 (.c (.int .i64 1)), none, none⟩] [0,1,6,7,10,13])
  (.seq (.reg [⟨.mov 83 (.t 10), none, none⟩,
    ⟨.mov 84 (.t 13), none, none⟩,
    ⟨.call (some 85) n_laws_markActS [(.t 83), (.t 84)], none, none⟩,
    ⟨.mov 13 (.t 85), none, none⟩] [0,1,6,7,10,13])
  (.seq (.reg [⟨.mov 14 (.c (.int .i64 1)), none, none⟩] [0,1,6,7,10,13,14])
  (.seq (.reg [⟨.mov 86 (.t 10), none, none⟩,
    ⟨.mov 87 (.t 14), none, none⟩,
    ⟨.call (some 88) n_laws_heldActS [(.t 86), (.t 87)], none, none⟩,
    ⟨.mov 14 (.t 88), none, none⟩] [0,1,6,7,10,13,14])
  (.seq (.seq (.reg [⟨.mov 89 (.t 14), none, none⟩,
    ⟨.bin 90 .lss (.t 89) (.c (.int .i64 0)), none, none⟩] [0,1,6,7,10,13,14,90])
  (.cond (.t 90)
  (.seq (.reg [⟨.mov 4 (.c (.bool false)), none, none⟩] [4])
  (.ret))
  (.skip)))
  (.seq (.seq (.reg [⟨.mov 91 (.t 14), none, none⟩,
    ⟨.mov 92 (.t 13), none, none⟩,
    ⟨.bin 93 .neq (.t 91) (.t 92), none, none⟩] [0,1,6,7,10,13,93])
  (.cond (.t 93)
  (.seq (.reg [⟨.mov 4 (.c (.bool false)), none, none⟩] [4])
  (.ret))
  (.skip)))
  (.seq (.reg [⟨.mov 95 (.t 0), none, none⟩,
    ⟨.call (some 96) n_laws_toActS [(.t 95)], none, none⟩,
    ⟨.mov 97 (.t 1), none, none⟩,
    ⟨.call (some 98) n_laws_toStrewS [(.t 97)], none, none⟩,
    ⟨.call (some 99) n_impl_Strewn [(.t 96), (.t 98)], none, none⟩,
    ⟨.mov 94 (.t 99), none, none⟩,
    ⟨.ext 100 (.t 94) 0, none, none⟩,
    ⟨.ext 101 (.t 94) 1, none, none⟩,
    ⟨.mov 15 (.t 100), none, none⟩,
    ⟨.mov 16 (.t 101), none, none⟩] [6,7,10,13,15,16])
  (.seq (.seq (.reg [⟨.mov 102 (.t 15), none, none⟩,
    ⟨.mov 103 (.t 6), none, none⟩,
    ⟨.call (some 104) n_laws_eqActS [(.t 102), (.t 103)], none, none⟩,
    ⟨.un 105 .not (.t 104), none, none⟩,
    ⟨.mov 106 (.t 105), none, none⟩,
    ⟨.mov 107 (.t 16), some (106, false), (some 107)⟩,
    ⟨.mov 108 (.t 7), some (106, false), (some 108)⟩,
    ⟨.beq 109 true (.t 107) (.t 108), some (106, false), (some 109)⟩,
    ⟨.pick 110 (.t 106) (.c (.bool true)) (.t 109), none, none⟩] [10,13,110])
  (.cond (.t 110)
  (.seq (.reg [⟨.mov 4 (.c (.bool false)), none, none⟩] [4])
  (.ret))
  (.skip)))
  (.seq (.reg [⟨.mov 14 (.c (.int .i64 1)), none, none⟩] [10,13,14])
  (.seq (.reg [⟨.mov 111 (.t 10), none, none⟩,
    ⟨.mov 112 (.t 14), none, none⟩,
    ⟨.call (some 113) n_laws_heldActS [(.t 111), (.t 112)], none, none⟩,
    ⟨.mov 14 (.t 113), none, none⟩] [13,14])
  (.seq (.seq (.reg [⟨.mov 114 (.t 14), none, none⟩,
    ⟨.bin 115 .lss (.t 114) (.c (.int .i64 0)), none, none⟩] [13,14,115])
  (.cond (.t 115)
  (.seq (.reg [⟨.mov 4 (.c (.bool false)), none, none⟩] [4])
  (.ret))
  (.skip)))
  (.seq (.seq (.reg [⟨.mov 116 (.t 14), none, none⟩,
    ⟨.mov 117 (.t 13), none, none⟩,
    ⟨.bin 118 .neq (.t 116) (.t 117), none, none⟩] [118])
  (.cond (.t 118)
  (.seq (.reg [⟨.mov 4 (.c (.bool false)), none, none⟩] [4])
  (.ret))
  (.skip)))
  (.seq (.reg [⟨.mov 4 (.c (.bool true)), none, none⟩] [4])
  (.ret))))))))))))))))))))))))))))))
def f_laws_FnExactStrewn : Fn := ⟨[.ro 0, .ro 0], false, true, [.t 4], c_laws_FnExactStrewn⟩
/-! laws_big -/
def c_laws_big : VC := .seq (.reg [⟨.mov 2 (.c (.bool false)), none, none⟩] [0])
  (.seq (.reg [⟨.mov 3 (.t 0), none, none⟩,
    ⟨.len 4 (.t 3), none, none⟩,
    ⟨.bin 5 .gtr (.t 4) (.c (.int .i64 1048576)), none, none⟩,
    ⟨.mov 2 (.t 5), none, none⟩] [2])
  (.ret))
def f_laws_big : Fn := ⟨[.ro 0], false, true, [.t 2], c_laws_big⟩
/-! spec_DrawDenyOf -/
def c_spec_DrawDenyOf_L0 : VC := .seq (.seq (.reg [⟨.mov 11 (.t 5), none, none⟩,
    ⟨.bin 12 .gtr (.t 11) (.c (.int .i64 0)), none, none⟩] [3,4,5,12])
  (.cond (.t 12)
  (.skip)
  (.exit 0)))
  (.seq (.block 1 (.reg [⟨.mov 15 (.t 4), none, none⟩,
    ⟨.mov 16 (.t 3), none, none⟩,
    ⟨.call (some 17) n_spec_l1Rd_off [(.t 16), (.c (.int .i64 0)), (.c (.int .i64 14))], none, none⟩,
    ⟨.mov 18 (.t 3), none, none⟩,
    ⟨.call (some 19) n_spec_l1Rd_below [(.t 18), (.c (.int .i64 3))], none, none⟩,
    ⟨.build 20 [.v (.int .i64 0), .v (.int .i64 0)] [(0, 1, (.t 17)), (1, 1, (.t 19))], none, none⟩,
    ⟨.bsl 21 t_impl_Answer 2 [.v (.int .i64 0), .v (.int .i64 0)] 1 [(0, (.t 20))], none, none⟩,
    ⟨.app 22 t_impl_Answer 16 true (.t 15) (.t 21), none, none⟩,
    ⟨.mov 4 (.t 22), none, none⟩] [3,4,5]))
  (.reg [⟨.mov 13 (.t 5), none, none⟩,
    ⟨.bin 14 .sub (.t 13) (.c (.int .i64 1)), none, none⟩,
    ⟨.mov 5 (.t 14), none, none⟩] [3,4,5]))
def c_spec_DrawDenyOf : VC := .seq (.reg [⟨.mov 2 (.nl t_impl_Answer), none, none⟩] [0])
  (.seq (.reg [⟨.mov 6 (.t 0), none, none⟩,
    ⟨.call (some 7) n_spec_l1Open [(.t 6)], none, none⟩,
    ⟨.mov 3 (.t 7), none, none⟩] [3])
  (.seq (.reg [⟨.bsl 8 t_impl_Answer 2 [.v (.int .i64 0), .v (.int .i64 0)] 0 [], none, none⟩,
    ⟨.mov 4 (.t 8), none, none⟩] [3,4])
  (.seq (.seq (.reg [⟨.mov 9 (.t 3), none, none⟩,
    ⟨.call (some 10) n_spec_l1Rd_below [(.t 9), (.c (.int .i64 20))], none, none⟩,
    ⟨.mov 5 (.t 10), none, none⟩] [3,4,5])
  (.block 0 (.loop [3,4,5] c_spec_DrawDenyOf_L0)))
  (.seq (.seq (.reg [⟨.mov 23 (.t 3), none, none⟩,
    ⟨.call (some 24) n_spec_l1Rd_once [(.t 23), (.c (.int .i64 30))], none, none⟩] [3,4,24])
  (.cond (.t 24)
  (.reg [⟨.mov 25 (.t 3), none, none⟩,
    ⟨.call (some 26) n_spec_l1Rd_below [(.t 25), (.c (.int .i64 2))], none, none⟩,
    ⟨.bin 27 .add (.c (.int .i64 60)) (.t 26), none, none⟩,
    ⟨.mks 28 t_impl_Answer 16 [.v (.int .i64 0), .v (.int .i64 0)] (.t 27), none, none⟩,
    ⟨.mov 4 (.t 28), none, none⟩] [4])
  (.skip)))
  (.seq (.reg [⟨.mov 29 (.t 4), none, none⟩,
    ⟨.mov 2 (.t 29), none, none⟩] [2])
  (.ret))))))
def f_spec_DrawDenyOf : Fn := ⟨[.ro 0], false, false, [.t 2], c_spec_DrawDenyOf⟩
/-! impl_DenyOf -/
def c_impl_DenyOf_L0 : VC := .seq (.reg [⟨.bin 14 .lss (.t 13) (.t 12), none, none⟩] [3,11,12,13,14])
  (.seq (.cond (.t 14)
  (.skip)
  (.exit 0))
  (.seq (.block 1 (.seq (.reg [⟨.iad 15 t_impl_Answer 2 (.t 11) (.t 13), none, none⟩,
    ⟨.load 16 (some 2) (.t 15), none, none⟩,
    ⟨.alloc 5 [.v (.int .i64 0), .v (.int .i64 0)], none, none⟩,
    ⟨.store 2 (.t 5) (.t 16), none, none⟩] [3,5,11,12,13])
  (.seq (.reg [⟨.fad 17 (.t 5) 0, none, none⟩,
    ⟨.load 18 none (.t 17), none, none⟩,
    ⟨.mov 6 (.t 18), none, none⟩] [3,6,11,12,13])
  (.seq (.seq (.reg [⟨.mov 19 (.t 6), none, none⟩,
    ⟨.bin 20 .neq (.t 19) (.c (.int .i64 10)), none, none⟩,
    ⟨.mov 21 (.t 20), none, none⟩,
    ⟨.mov 22 (.t 6), some (21, true), (some 22)⟩,
    ⟨.bin 23 .neq (.t 22) (.c (.int .i64 11)), some (21, true), (some 23)⟩,
    ⟨.pick 24 (.t 21) (.t 23) (.c (.bool false)), none, none⟩,
    ⟨.mov 25 (.t 24), none, none⟩,
    ⟨.mov 26 (.t 6), some (25, true), (some 26)⟩,
    ⟨.bin 27 .neq (.t 26) (.c (.int .i64 12)), some (25, true), (some 27)⟩,
    ⟨.pick 28 (.t 25) (.t 27) (.c (.bool false)), none, none⟩] [3,6,11,12,13,28])
  (.cond (.t 28)
  (.reg [⟨.mov 6 (.c (.int .i64 0)), none, none⟩] [3,6,11,12,13])
  (.skip)))
  (.reg [⟨.mov 29 (.t 3), none, none⟩,
    ⟨.mov 30 (.t 6), none, none⟩,
    ⟨.bsl 31 t_i64 1 [.v (.int .i64 0)] 1 [(0, (.t 30))], none, none⟩,
    ⟨.app 32 t_i64 8 true (.t 29) (.t 31), none, none⟩,
    ⟨.mov 3 (.t 32), none, none⟩] [3,11,12,13])))))
  (.reg [⟨.bin 33 .add (.t 13) (.c (.int .i64 1)), none, none⟩,
    ⟨.mov 13 (.t 33), none, none⟩] [3,11,12,13])))
def c_impl_DenyOf : VC := .seq (.reg [⟨.mov 2 (.nl t_i64), none, none⟩] [0])
  (.seq (.seq (.reg [⟨.mov 7 (.t 0), none, none⟩,
    ⟨.len 8 (.t 7), none, none⟩,
    ⟨.bin 9 .gtr (.t 8) (.c (.int .i64 60)), none, none⟩] [0,9])
  (.cond (.t 9)
  (.seq (.reg [⟨.mov 2 (.nl t_i64), none, none⟩] [2])
  (.ret))
  (.skip)))
  (.seq (.reg [⟨.bsl 10 t_i64 1 [.v (.int .i64 0)] 0 [], none, none⟩,
    ⟨.mov 3 (.t 10), none, none⟩] [0,3])
  (.seq (.seq (.reg [⟨.mov 11 (.t 0), none, none⟩,
    ⟨.len 12 (.t 11), none, none⟩,
    ⟨.mov 13 (.c (.int .i64 0)), none, none⟩] [3,11,12,13])
  (.block 0 (.loop [3,11,12,13] c_impl_DenyOf_L0)))
  (.seq (.reg [⟨.mov 34 (.t 3), none, none⟩,
    ⟨.mov 2 (.t 34), none, none⟩] [2])
  (.ret)))))
def f_impl_DenyOf : Fn := ⟨[.ro 0], false, false, [.t 2], c_impl_DenyOf⟩
/-! laws_szAnswerS -/
def c_laws_szAnswerS : VC := .seq (.reg [⟨.mov 4 (.c (.int .i64 0)), none, none⟩] [0,1])
  (.seq (.reg [⟨.mov 5 (.t 1), none, none⟩,
    ⟨.mov 6 (.t 0), none, none⟩,
    ⟨.len 7 (.t 6), none, none⟩,
    ⟨.bin 8 .sub (.t 5) (.t 7), none, none⟩,
    ⟨.mov 1 (.t 8), none, none⟩] [1])
  (.seq (.seq (.reg [⟨.mov 9 (.t 1), none, none⟩,
    ⟨.bin 10 .lss (.t 9) (.c (.int .i64 0)), none, none⟩] [1,10])
  (.cond (.t 10)
  (.seq (.reg [⟨.mov 4 (.c (.int .i64 (-1))), none, none⟩] [4])
  (.ret))
  (.skip)))
  (.seq (.reg [⟨.mov 11 (.t 1), none, none⟩,
    ⟨.mov 4 (.t 11), none, none⟩] [4])
  (.ret))))
def f_laws_szAnswerS : Fn := ⟨[.ro 0, .ro 0], false, true, [.t 4], c_laws_szAnswerS⟩
/-! spec_DenyOf -/
def c_spec_DenyOf_L0 : VC := .seq (.seq (.reg [⟨.mov 10 (.t 4), none, none⟩,
    ⟨.mov 11 (.t 0), none, none⟩,
    ⟨.len 12 (.t 11), none, none⟩,
    ⟨.bin 13 .lss (.t 10) (.t 12), none, none⟩] [0,3,4,13])
  (.cond (.t 13)
  (.skip)
  (.exit 0)))
  (.seq (.block 1 (.seq (.reg [⟨.mov 5 (.c (.int .i64 0)), none, none⟩] [0,3,4,5])
  (.seq (.seq (.reg [⟨.mov 16 (.t 0), none, none⟩,
    ⟨.mov 17 (.t 4), none, none⟩,
    ⟨.iad 18 t_impl_Answer 2 (.t 16) (.t 17), none, none⟩,
    ⟨.fad 19 (.t 18) 0, none, none⟩,
    ⟨.load 20 none (.t 19), none, none⟩,
    ⟨.call (some 21) n_spec_l1In [(.t 20), (.c (.int .i64 10)), (.c (.int .i64 12))], none, none⟩] [0,3,4,5,21])
  (.cond (.t 21)
  (.reg [⟨.mov 22 (.t 0), none, none⟩,
    ⟨.mov 23 (.t 4), none, none⟩,
    ⟨.iad 24 t_impl_Answer 2 (.t 22) (.t 23), none, none⟩,
    ⟨.fad 25 (.t 24) 0, none, none⟩,
    ⟨.load 26 none (.t 25), none, none⟩,
    ⟨.mov 5 (.t 26), none, none⟩] [0,3,4,5])
  (.skip)))
  (.reg [⟨.mov 27 (.t 3), none, none⟩,
    ⟨.mov 28 (.t 5), none, none⟩,
    ⟨.bsl 29 t_i64 1 [.v (.int .i64 0)] 1 [(0, (.t 28))], none, none⟩,
    ⟨.app 30 t_i64 8 true (.t 27) (.t 29), none, none⟩,
    ⟨.mov 3 (.t 30), none, none⟩] [0,3,4]))))
  (.reg [⟨.mov 14 (.t 4), none, none⟩,
    ⟨.bin 15 .add (.t 14) (.c (.int .i64 1)), none, none⟩,
    ⟨.mov 4 (.t 15), none, none⟩] [0,3,4]))
def c_spec_DenyOf : VC := .seq (.reg [⟨.mov 2 (.nl t_i64), none, none⟩] [0])
  (.seq (.seq (.reg [⟨.mov 6 (.t 0), none, none⟩,
    ⟨.len 7 (.t 6), none, none⟩,
    ⟨.bin 8 .gtr (.t 7) (.c (.int .i64 60)), none, none⟩] [0,8])
  (.cond (.t 8)
  (.seq (.reg [⟨.mov 2 (.nl t_i64), none, none⟩] [2])
  (.ret))
  (.skip)))
  (.seq (.reg [⟨.bsl 9 t_i64 1 [.v (.int .i64 0)] 0 [], none, none⟩,
    ⟨.mov 3 (.t 9), none, none⟩] [0,3])
  (.seq (.seq (.reg [⟨.mov 4 (.c (.int .i64 0)), none, none⟩] [0,3,4])
  (.block 0 (.loop [0,3,4] c_spec_DenyOf_L0)))
  (.seq (.reg [⟨.mov 31 (.t 3), none, none⟩,
    ⟨.mov 2 (.t 31), none, none⟩] [2])
  (.ret)))))
def f_spec_DenyOf : Fn := ⟨[.ro 0], false, false, [.t 2], c_spec_DenyOf⟩
/-! laws_toAnswerS -/
def c_laws_toAnswerS_L0 : VC := .seq (.seq (.reg [⟨.mov 8 (.t 4), none, none⟩,
    ⟨.mov 9 (.t 0), none, none⟩,
    ⟨.len 10 (.t 9), none, none⟩,
    ⟨.bin 11 .lss (.t 8) (.t 10), none, none⟩] [0,3,4,11])
  (.cond (.t 11)
  (.skip)
  (.exit 0)))
  (.seq (.block 1 (.reg [⟨.mov 14 (.t 3), none, none⟩,
    ⟨.mov 15 (.t 4), none, none⟩,
    ⟨.mov 16 (.t 0), none, none⟩,
    ⟨.mov 17 (.t 4), none, none⟩,
    ⟨.iad 18 t_laws_Answer 2 (.t 16) (.t 17), none, none⟩,
    ⟨.load 19 (some 2) (.t 18), none, none⟩,
    ⟨.call (some 20) n_laws_toAnswer [(.t 19)], none, none⟩,
    ⟨.iad 21 t_impl_Answer 2 (.t 14) (.t 15), none, none⟩,
    ⟨.store 2 (.t 21) (.t 20), none, none⟩] [0,3,4]))
  (.reg [⟨.mov 12 (.t 4), none, none⟩,
    ⟨.bin 13 .add (.t 12) (.c (.int .i64 1)), none, none⟩,
    ⟨.mov 4 (.t 13), none, none⟩] [0,3,4]))
def c_laws_toAnswerS : VC := .seq (.reg [⟨.mov 2 (.nl t_impl_Answer), none, none⟩] [0])
  (.seq (.reg [⟨.mov 5 (.t 0), none, none⟩,
    ⟨.len 6 (.t 5), none, none⟩,
    ⟨.mks 7 t_impl_Answer 16 [.v (.int .i64 0), .v (.int .i64 0)] (.t 6), none, none⟩,
    ⟨.mov 3 (.t 7), none, none⟩] [0,3])
  (.seq (.seq (.reg [⟨.mov 4 (.c (.int .i64 0)), none, none⟩] [0,3,4])
  (.block 0 (.loop [0,3,4] c_laws_toAnswerS_L0)))
  (.seq (.reg [⟨.mov 22 (.t 3), none, none⟩,
    ⟨.mov 2 (.t 22), none, none⟩] [2])
  (.ret))))
def f_laws_toAnswerS : Fn := ⟨[.ro 0], false, false, [.t 2], c_laws_toAnswerS⟩
/-! laws_eqInt64S -/
def c_laws_eqInt64S_L0 : VC := .seq (.seq (.reg [⟨.mov 11 (.t 5), none, none⟩,
    ⟨.mov 12 (.t 0), none, none⟩,
    ⟨.len 13 (.t 12), none, none⟩,
    ⟨.bin 14 .lss (.t 11) (.t 13), none, none⟩] [0,1,5,14])
  (.cond (.t 14)
  (.skip)
  (.exit 0)))
  (.seq (.block 1 (.seq (.reg [⟨.mov 17 (.t 0), none, none⟩,
    ⟨.mov 18 (.t 5), none, none⟩,
    ⟨.iad 19 t_i64 1 (.t 17) (.t 18), none, none⟩,
    ⟨.load 20 none (.t 19), none, none⟩,
    ⟨.mov 21 (.t 1), none, none⟩,
    ⟨.mov 22 (.t 5), none, none⟩,
    ⟨.iad 23 t_i64 1 (.t 21) (.t 22), none, none⟩,
    ⟨.load 24 none (.t 23), none, none⟩,
    ⟨.bin 25 .neq (.t 20) (.t 24), none, none⟩] [0,1,5,25])
  (.cond (.t 25)
  (.seq (.reg [⟨.mov 4 (.c (.bool false)), none, none⟩] [4])
  (.ret))
  (.skip))))
  (.reg [⟨.mov 15 (.t 5), none, none⟩,
    ⟨.bin 16 .add (.t 15) (.c (.int .i64 1)), none, none⟩,
    ⟨.mov 5 (.t 16), none, none⟩] [0,1,5]))
def c_laws_eqInt64S : VC := .seq (.reg [⟨.mov 4 (.c (.bool false)), none, none⟩] [0,1])
  (.seq (.seq (.reg [⟨.mov 6 (.t 0), none, none⟩,
    ⟨.len 7 (.t 6), none, none⟩,
    ⟨.mov 8 (.t 1), none, none⟩,
    ⟨.len 9 (.t 8), none, none⟩,
    ⟨.bin 10 .neq (.t 7) (.t 9), none, none⟩] [0,1,10])
  (.cond (.t 10)
  (.seq (.reg [⟨.mov 4 (.c (.bool false)), none, none⟩] [4])
  (.ret))
  (.skip)))
  (.seq (.seq (.reg [⟨.mov 5 (.c (.int .i64 0)), none, none⟩] [0,1,5])
  (.block 0 (.loop [0,1,5] c_laws_eqInt64S_L0)))
  (.seq (.reg [⟨.mov 4 (.c (.bool true)), none, none⟩] [4])
  (.ret))))
def f_laws_eqInt64S : Fn := ⟨[.ro 0, .ro 0], false, true, [.t 4], c_laws_eqInt64S⟩
/-! laws_eqAnswerS -/
def c_laws_eqAnswerS_L0 : VC := .seq (.seq (.reg [⟨.mov 11 (.t 5), none, none⟩,
    ⟨.mov 12 (.t 0), none, none⟩,
    ⟨.len 13 (.t 12), none, none⟩,
    ⟨.bin 14 .lss (.t 11) (.t 13), none, none⟩] [0,1,5,14])
  (.cond (.t 14)
  (.skip)
  (.exit 0)))
  (.seq (.block 1 (.seq (.reg [⟨.mov 17 (.t 0), none, none⟩,
    ⟨.mov 18 (.t 5), none, none⟩,
    ⟨.iad 19 t_impl_Answer 2 (.t 17) (.t 18), none, none⟩,
    ⟨.load 20 (some 2) (.t 19), none, none⟩,
    ⟨.mov 21 (.t 1), none, none⟩,
    ⟨.mov 22 (.t 5), none, none⟩,
    ⟨.iad 23 t_impl_Answer 2 (.t 21) (.t 22), none, none⟩,
    ⟨.load 24 (some 2) (.t 23), none, none⟩,
    ⟨.call (some 25) n_laws_eqAnswer [(.t 20), (.t 24)], none, none⟩,
    ⟨.un 26 .not (.t 25), none, none⟩] [0,1,5,26])
  (.cond (.t 26)
  (.seq (.reg [⟨.mov 4 (.c (.bool false)), none, none⟩] [4])
  (.ret))
  (.skip))))
  (.reg [⟨.mov 15 (.t 5), none, none⟩,
    ⟨.bin 16 .add (.t 15) (.c (.int .i64 1)), none, none⟩,
    ⟨.mov 5 (.t 16), none, none⟩] [0,1,5]))
def c_laws_eqAnswerS : VC := .seq (.reg [⟨.mov 4 (.c (.bool false)), none, none⟩] [0,1])
  (.seq (.seq (.reg [⟨.mov 6 (.t 0), none, none⟩,
    ⟨.len 7 (.t 6), none, none⟩,
    ⟨.mov 8 (.t 1), none, none⟩,
    ⟨.len 9 (.t 8), none, none⟩,
    ⟨.bin 10 .neq (.t 7) (.t 9), none, none⟩] [0,1,10])
  (.cond (.t 10)
  (.seq (.reg [⟨.mov 4 (.c (.bool false)), none, none⟩] [4])
  (.ret))
  (.skip)))
  (.seq (.seq (.reg [⟨.mov 5 (.c (.int .i64 0)), none, none⟩] [0,1,5])
  (.block 0 (.loop [0,1,5] c_laws_eqAnswerS_L0)))
  (.seq (.reg [⟨.mov 4 (.c (.bool true)), none, none⟩] [4])
  (.ret))))
def f_laws_eqAnswerS : Fn := ⟨[.ro 0, .ro 0], false, true, [.t 4], c_laws_eqAnswerS⟩
/-! laws_markAnswerS -/
def c_laws_markAnswerS_L0 : VC := .seq (.seq (.reg [⟨.mov 6 (.t 5), none, none⟩,
    ⟨.mov 7 (.t 0), none, none⟩,
    ⟨.len 8 (.t 7), none, none⟩,
    ⟨.bin 9 .lss (.t 6) (.t 8), none, none⟩] [0,1,5,9,10000])
  (.cond (.t 9)
  (.skip)
  (.exit 0)))
  (.seq (.block 1 (.seq (.reg [⟨.mov 12 (.t 0), none, none⟩,
    ⟨.mov 13 (.t 5), none, none⟩,
    ⟨.mov 14 (.t 1), none, none⟩,
    ⟨.iad 15 t_impl_Answer 2 (.t 12) (.t 13), none, none⟩,
    ⟨.fad 16 (.t 15) 0, none, none⟩,
    ⟨.store 1 (.t 16) (.t 14), none, none⟩] [0,1,5,10000])
  (.seq (.reg [⟨.mov 17 (.t 1), none, none⟩,
    ⟨.bin 18 .add (.t 17) (.c (.int .i64 1)), none, none⟩,
    ⟨.mov 1 (.t 18), none, none⟩] [0,1,5,10000])
  (.seq (.reg [⟨.mov 19 (.t 0), none, none⟩,
    ⟨.mov 20 (.t 5), none, none⟩,
    ⟨.mov 21 (.t 1), none, none⟩,
    ⟨.iad 22 t_impl_Answer 2 (.t 19) (.t 20), none, none⟩,
    ⟨.fad 23 (.t 22) 1, none, none⟩,
    ⟨.store 1 (.t 23) (.t 21), none, none⟩] [0,1,5,10000])
  (.reg [⟨.mov 24 (.t 1), none, none⟩,
    ⟨.bin 25 .add (.t 24) (.c (.int .i64 1)), none, none⟩,
    ⟨.mov 1 (.t 25), none, none⟩] [0,1,5,10000])))))
  (.reg [⟨.mov 10 (.t 5), none, none⟩,
    ⟨.bin 11 .add (.t 10) (.c (.int .i64 1)), none, none⟩,
    ⟨.mov 5 (.t 11), none, none⟩] [0,1,5,10000]))
def c_laws_markAnswerS : VC := .seq (.reg [⟨.mov 4 (.c (.int .i64 0)), none, none⟩] [0,1,10000])
  (.seq (.seq (.reg [⟨.mov 5 (.c (.int .i64 0)), none, none⟩] [0,1,5,10000])
  (.block 0 (.loop [0,1,5,10000] c_laws_markAnswerS_L0)))
  (.seq (.reg [⟨.mov 26 (.t 1), none, none⟩,
    ⟨.mov 4 (.t 26), none, none⟩] [4,10000])
  (.ret)))
def f_laws_markAnswerS : Fn := ⟨[.mut 0, .ro 0], false, true, [.t 4], c_laws_markAnswerS⟩
/-! laws_markInt64S -/
def c_laws_markInt64S_L0 : VC := .seq (.seq (.reg [⟨.mov 6 (.t 5), none, none⟩,
    ⟨.mov 7 (.t 0), none, none⟩,
    ⟨.len 8 (.t 7), none, none⟩,
    ⟨.bin 9 .lss (.t 6) (.t 8), none, none⟩] [0,1,5,9,10000])
  (.cond (.t 9)
  (.skip)
  (.exit 0)))
  (.seq (.block 1 (.seq (.reg [⟨.mov 12 (.t 0), none, none⟩,
    ⟨.mov 13 (.t 5), none, none⟩,
    ⟨.mov 14 (.t 1), none, none⟩,
    ⟨.iad 15 t_i64 1 (.t 12) (.t 13), none, none⟩,
    ⟨.store 1 (.t 15) (.t 14), none, none⟩] [0,1,5,10000])
  (.reg [⟨.mov 16 (.t 1), none, none⟩,
    ⟨.bin 17 .add (.t 16) (.c (.int .i64 1)), none, none⟩,
    ⟨.mov 1 (.t 17), none, none⟩] [0,1,5,10000])))
  (.reg [⟨.mov 10 (.t 5), none, none⟩,
    ⟨.bin 11 .add (.t 10) (.c (.int .i64 1)), none, none⟩,
    ⟨.mov 5 (.t 11), none, none⟩] [0,1,5,10000]))
def c_laws_markInt64S : VC := .seq (.reg [⟨.mov 4 (.c (.int .i64 0)), none, none⟩] [0,1,10000])
  (.seq (.seq (.reg [⟨.mov 5 (.c (.int .i64 0)), none, none⟩] [0,1,5,10000])
  (.block 0 (.loop [0,1,5,10000] c_laws_markInt64S_L0)))
  (.seq (.reg [⟨.mov 18 (.t 1), none, none⟩,
    ⟨.mov 4 (.t 18), none, none⟩] [4,10000])
  (.ret)))
def f_laws_markInt64S : Fn := ⟨[.mut 0, .ro 0], false, true, [.t 4], c_laws_markInt64S⟩
/-! laws_heldInt64S -/
def c_laws_heldInt64S_L0 : VC := .seq (.seq (.reg [⟨.mov 6 (.t 5), none, none⟩,
    ⟨.mov 7 (.t 0), none, none⟩,
    ⟨.len 8 (.t 7), none, none⟩,
    ⟨.bin 9 .lss (.t 6) (.t 8), none, none⟩] [0,1,5,9])
  (.cond (.t 9)
  (.skip)
  (.exit 0)))
  (.seq (.block 1 (.seq (.seq (.reg [⟨.mov 12 (.t 0), none, none⟩,
    ⟨.mov 13 (.t 5), none, none⟩,
    ⟨.iad 14 t_i64 1 (.t 12) (.t 13), none, none⟩,
    ⟨.load 15 none (.t 14), none, none⟩,
    ⟨.mov 16 (.t 1), none, none⟩,
    ⟨.bin 17 .neq (.t 15) (.t 16), none, none⟩] [0,1,5,17])
  (.cond (.t 17)
  (.seq (.reg [⟨.mov 4 (.c (.int .i64 (-1))), none, none⟩] [4])
  (.ret))
  (.skip)))
  (.reg [⟨.mov 18 (.t 1), none, none⟩,
    ⟨.bin 19 .add (.t 18) (.c (.int .i64 1)), none, none⟩,
    ⟨.mov 1 (.t 19), none, none⟩] [0,1,5])))
  (.reg [⟨.mov 10 (.t 5), none, none⟩,
    ⟨.bin 11 .add (.t 10) (.c (.int .i64 1)), none, none⟩,
    ⟨.mov 5 (.t 11), none, none⟩] [0,1,5]))
def c_laws_heldInt64S : VC := .seq (.reg [⟨.mov 4 (.c (.int .i64 0)), none, none⟩] [0,1])
  (.seq (.seq (.reg [⟨.mov 5 (.c (.int .i64 0)), none, none⟩] [0,1,5])
  (.block 0 (.loop [0,1,5] c_laws_heldInt64S_L0)))
  (.seq (.reg [⟨.mov 20 (.t 1), none, none⟩,
    ⟨.mov 4 (.t 20), none, none⟩] [4])
  (.ret)))
def f_laws_heldInt64S : Fn := ⟨[.ro 0, .ro 0], false, true, [.t 4], c_laws_heldInt64S⟩
/-! laws_szActS -/
def c_laws_szActS_L0 : VC := .seq (.seq (.reg [⟨.mov 12 (.t 5), none, none⟩,
    ⟨.mov 13 (.t 0), none, none⟩,
    ⟨.len 14 (.t 13), none, none⟩,
    ⟨.bin 15 .lss (.t 12) (.t 14), none, none⟩] [0,1,5,15])
  (.cond (.t 15)
  (.skip)
  (.exit 0)))
  (.seq (.block 1 (.seq (.reg [⟨.mov 18 (.t 0), none, none⟩,
    ⟨.mov 19 (.t 5), none, none⟩,
    ⟨.iad 20 t_laws_Act 6 (.t 18) (.t 19), none, none⟩,
    ⟨.load 21 (some 6) (.t 20), none, none⟩,
    ⟨.mov 22 (.t 1), none, none⟩,
    ⟨.call (some 23) n_laws_szAct [(.t 21), (.t 22)], none, none⟩,
    ⟨.mov 1 (.t 23), none, none⟩] [0,1,5])
  (.seq (.reg [⟨.mov 24 (.t 1), none, none⟩,
    ⟨.bin 25 .lss (.t 24) (.c (.int .i64 0)), none, none⟩] [0,1,5,25])
  (.cond (.t 25)
  (.seq (.reg [⟨.mov 4 (.c (.int .i64 (-1))), none, none⟩] [4])
  (.ret))
  (.skip)))))
  (.reg [⟨.mov 16 (.t 5), none, none⟩,
    ⟨.bin 17 .add (.t 16) (.c (.int .i64 1)), none, none⟩,
    ⟨.mov 5 (.t 17), none, none⟩] [0,1,5]))
def c_laws_szActS : VC := .seq (.reg [⟨.mov 4 (.c (.int .i64 0)), none, none⟩] [0,1])
  (.seq (.reg [⟨.mov 6 (.t 1), none, none⟩,
    ⟨.mov 7 (.t 0), none, none⟩,
    ⟨.len 8 (.t 7), none, none⟩,
    ⟨.bin 9 .sub (.t 6) (.t 8), none, none⟩,
    ⟨.mov 1 (.t 9), none, none⟩] [0,1])
  (.seq (.seq (.reg [⟨.mov 10 (.t 1), none, none⟩,
    ⟨.bin 11 .lss (.t 10) (.c (.int .i64 0)), none, none⟩] [0,1,11])
  (.cond (.t 11)
  (.seq (.reg [⟨.mov 4 (.c (.int .i64 (-1))), none, none⟩] [4])
  (.ret))
  (.skip)))
  (.seq (.seq (.reg [⟨.mov 5 (.c (.int .i64 0)), none, none⟩] [0,1,5])
  (.block 0 (.loop [0,1,5] c_laws_szActS_L0)))
  (.seq (.reg [⟨.mov 26 (.t 1), none, none⟩,
    ⟨.mov 4 (.t 26), none, none⟩] [4])
  (.ret)))))
def f_laws_szActS : Fn := ⟨[.ro 0, .ro 0], false, true, [.t 4], c_laws_szActS⟩
/-! spec_Stripped -/
def c_spec_Stripped_L0 : VC := .seq (.seq (.reg [⟨.mov 6 (.t 4), none, none⟩,
    ⟨.mov 7 (.t 0), none, none⟩,
    ⟨.len 8 (.t 7), none, none⟩,
    ⟨.bin 9 .lss (.t 6) (.t 8), none, none⟩,
    ⟨.mov 10 (.t 9), none, none⟩,
    ⟨.mov 11 (.t 0), some (10, true), (some 11)⟩,
    ⟨.len 12 (.t 11), some (10, true), (some 12)⟩,
    ⟨.bin 13 .leq (.t 12) (.c (.int .i64 60)), some (10, true), (some 13)⟩,
    ⟨.pick 14 (.t 10) (.t 13) (.c (.bool false)), none, none⟩] [0,3,4,14])
  (.cond (.t 14)
  (.skip)
  (.exit 0)))
  (.seq (.block 1 (.seq (.reg [⟨.mov 17 (.t 0), none, none⟩,
    ⟨.mov 18 (.t 4), none, none⟩,
    ⟨.iad 19 t_impl_Act 6 (.t 17) (.t 18), none, none⟩,
    ⟨.fad 20 (.t 19) 0, none, none⟩,
    ⟨.load 21 none (.t 20), none, none⟩,
    ⟨.call (some 22) n_spec_l15Quiet [(.t 21)], none, none⟩,
    ⟨.un 23 .not (.t 22), none, none⟩] [0,3,4,23])
  (.cond (.t 23)
  (.reg [⟨.mov 24 (.t 3), none, none⟩,
    ⟨.mov 25 (.t 0), none, none⟩,
    ⟨.mov 26 (.t 4), none, none⟩,
    ⟨.iad 27 t_impl_Act 6 (.t 25) (.t 26), none, none⟩,
    ⟨.load 28 (some 6) (.t 27), none, none⟩,
    ⟨.call (some 29) n_spec_l15Copy [(.t 28)], none, none⟩,
    ⟨.bsl 30 t_impl_Act 6 [.v (.int .i64 0), .v (.int .i64 0), .v (.int .i64 0), .v (.int .i64 0), .v (.int .i64 0), .nl t_i64] 1 [(0, (.t 29))], none, none⟩,
    ⟨.app 31 t_impl_Act 64 true (.t 24) (.t 30), none, none⟩,
    ⟨.mov 3 (.t 31), none, none⟩] [0,3,4])
  (.skip))))
  (.reg [⟨.mov 15 (.t 4), none, none⟩,
    ⟨.bin 16 .add (.t 15) (.c (.int .i64 1)), none, none⟩,
    ⟨.mov 4 (.t 16), none, none⟩] [0,3,4]))
def c_spec_Stripped : VC := .seq (.reg [⟨.mov 2 (.nl t_impl_Act), none, none⟩] [0])
  (.seq (.reg [⟨.bsl 5 t_impl_Act 6 [.v (.int .i64 0), .v (.int .i64 0), .v (.int .i64 0), .v (.int .i64 0), .v (.int .i64 0), .nl t_i64] 0 [], none, none⟩,
    ⟨.mov 3 (.t 5), none, none⟩] [0,3])
  (.seq (.seq (.reg [⟨.mov 4 (.c (.int .i64 0)), none, none⟩] [0,3,4])
  (.block 0 (.loop [0,3,4] c_spec_Stripped_L0)))
  (.seq (.reg [⟨.mov 32 (.t 3), none, none⟩,
    ⟨.mov 2 (.t 32), none, none⟩] [2])
  (.ret))))
def f_spec_Stripped : Fn := ⟨[.ro 0], false, false, [.t 2], c_spec_Stripped⟩
/-! laws_toActS -/
def c_laws_toActS_L0 : VC := .seq (.seq (.reg [⟨.mov 8 (.t 4), none, none⟩,
    ⟨.mov 9 (.t 0), none, none⟩,
    ⟨.len 10 (.t 9), none, none⟩,
    ⟨.bin 11 .lss (.t 8) (.t 10), none, none⟩] [0,3,4,11])
  (.cond (.t 11)
  (.skip)
  (.exit 0)))
  (.seq (.block 1 (.reg [⟨.mov 14 (.t 3), none, none⟩,
    ⟨.mov 15 (.t 4), none, none⟩,
    ⟨.mov 16 (.t 0), none, none⟩,
    ⟨.mov 17 (.t 4), none, none⟩,
    ⟨.iad 18 t_laws_Act 6 (.t 16) (.t 17), none, none⟩,
    ⟨.load 19 (some 6) (.t 18), none, none⟩,
    ⟨.call (some 20) n_laws_toAct [(.t 19)], none, none⟩,
    ⟨.iad 21 t_impl_Act 6 (.t 14) (.t 15), none, none⟩,
    ⟨.store 6 (.t 21) (.t 20), none, none⟩] [0,3,4]))
  (.reg [⟨.mov 12 (.t 4), none, none⟩,
    ⟨.bin 13 .add (.t 12) (.c (.int .i64 1)), none, none⟩,
    ⟨.mov 4 (.t 13), none, none⟩] [0,3,4]))
def c_laws_toActS : VC := .seq (.reg [⟨.mov 2 (.nl t_impl_Act), none, none⟩] [0])
  (.seq (.reg [⟨.mov 5 (.t 0), none, none⟩,
    ⟨.len 6 (.t 5), none, none⟩,
    ⟨.mks 7 t_impl_Act 64 [.v (.int .i64 0), .v (.int .i64 0), .v (.int .i64 0), .v (.int .i64 0), .v (.int .i64 0), .nl t_i64] (.t 6), none, none⟩,
    ⟨.mov 3 (.t 7), none, none⟩] [0,3])
  (.seq (.seq (.reg [⟨.mov 4 (.c (.int .i64 0)), none, none⟩] [0,3,4])
  (.block 0 (.loop [0,3,4] c_laws_toActS_L0)))
  (.seq (.reg [⟨.mov 22 (.t 3), none, none⟩,
    ⟨.mov 2 (.t 22), none, none⟩] [2])
  (.ret))))
def f_laws_toActS : Fn := ⟨[.ro 0], false, false, [.t 2], c_laws_toActS⟩
/-! impl_Stripped -/
def c_impl_Stripped_L0 : VC := .seq (.reg [⟨.bin 13 .lss (.t 12) (.t 11), none, none⟩] [3,10,11,12,13])
  (.seq (.cond (.t 13)
  (.skip)
  (.exit 0))
  (.seq (.block 1 (.seq (.reg [⟨.iad 14 t_impl_Act 6 (.t 10) (.t 12), none, none⟩,
    ⟨.load 15 (some 6) (.t 14), none, none⟩,
    ⟨.alloc 5 [.v (.int .i64 0), .v (.int .i64 0), .v (.int .i64 0), .v (.int .i64 0), .v (.int .i64 0), .nl t_i64], none, none⟩,
    ⟨.store 6 (.t 5) (.t 15), none, none⟩] [3,5,10,11,12])
  (.seq (.reg [⟨.fad 16 (.t 5) 0, none, none⟩,
    ⟨.load 17 none (.t 16), none, none⟩,
    ⟨.call (some 18) n_impl_isExtra [(.t 17)], none, none⟩,
    ⟨.un 19 .not (.t 18), none, none⟩] [3,5,10,11,12,19])
  (.cond (.t 19)
  (.reg [⟨.mov 20 (.t 3), none, none⟩,
    ⟨.load 21 (some 6) (.t 5), none, none⟩,
    ⟨.call (some 22) n_impl_ownAct [(.t 21)], none, none⟩,
    ⟨.bsl 23 t_impl_Act 6 [.v (.int .i64 0), .v (.int .i64 0), .v (.int .i64 0), .v (.int .i64 0), .v (.int .i64 0), .nl t_i64] 1 [(0, (.t 22))], none, none⟩,
    ⟨.app 24 t_impl_Act 64 true (.t 20) (.t 23), none, none⟩,
    ⟨.mov 3 (.t 24), none, none⟩] [3,10,11,12])
  (.skip)))))
  (.reg [⟨.bin 25 .add (.t 12) (.c (.int .i64 1)), none, none⟩,
    ⟨.mov 12 (.t 25), none, none⟩] [3,10,11,12])))
def c_impl_Stripped : VC := .seq (.reg [⟨.mov 2 (.nl t_impl_Act), none, none⟩] [0])
  (.seq (.seq (.reg [⟨.mov 6 (.t 0), none, none⟩,
    ⟨.len 7 (.t 6), none, none⟩,
    ⟨.bin 8 .gtr (.t 7) (.c (.int .i64 60)), none, none⟩] [0,8])
  (.cond (.t 8)
  (.seq (.reg [⟨.mov 2 (.nl t_impl_Act), none, none⟩] [2])
  (.ret))
  (.skip)))
  (.seq (.reg [⟨.bsl 9 t_impl_Act 6 [.v (.int .i64 0), .v (.int .i64 0), .v (.int .i64 0), .v (.int .i64 0), .v (.int .i64 0), .nl t_i64] 0 [], none, none⟩,
    ⟨.mov 3 (.t 9), none, none⟩] [0,3])
  (.seq (.seq (.reg [⟨.mov 10 (.t 0), none, none⟩,
    ⟨.len 11 (.t 10), none, none⟩,
    ⟨.mov 12 (.c (.int .i64 0)), none, none⟩] [3,10,11,12])
  (.block 0 (.loop [3,10,11,12] c_impl_Stripped_L0)))
  (.seq (.reg [⟨.mov 26 (.t 3), none, none⟩,
    ⟨.mov 2 (.t 26), none, none⟩] [2])
  (.ret)))))
def f_impl_Stripped : Fn := ⟨[.ro 0], false, false, [.t 2], c_impl_Stripped⟩
/-! laws_eqActS -/
def c_laws_eqActS_L0 : VC := .seq (.seq (.reg [⟨.mov 11 (.t 5), none, none⟩,
    ⟨.mov 12 (.t 0), none, none⟩,
    ⟨.len 13 (.t 12), none, none⟩,
    ⟨.bin 14 .lss (.t 11) (.t 13), none, none⟩] [0,1,5,14])
  (.cond (.t 14)
  (.skip)
  (.exit 0)))
  (.seq (.block 1 (.seq (.reg [⟨.mov 17 (.t 0), none, none⟩,
    ⟨.mov 18 (.t 5), none, none⟩,
    ⟨.iad 19 t_impl_Act 6 (.t 17) (.t 18), none, none⟩,
    ⟨.load 20 (some 6) (.t 19), none, none⟩,
    ⟨.mov 21 (.t 1), none, none⟩,
    ⟨.mov 22 (.t 5), none, none⟩,
    ⟨.iad 23 t_impl_Act 6 (.t 21) (.t 22), none, none⟩,
    ⟨.load 24 (some 6) (.t 23), none, none⟩,
    ⟨.call (some 25) n_laws_eqAct [(.t 20), (.t 24)], none, none⟩,
    ⟨.un 26 .not (.t 25), none, none⟩] [0,1,5,26])
  (.cond (.t 26)
  (.seq (.reg [⟨.mov 4 (.c (.bool false)), none, none⟩] [4])
  (.ret))
  (.skip))))
  (.reg [⟨.mov 15 (.t 5), none, none⟩,
    ⟨.bin 16 .add (.t 15) (.c (.int .i64 1)), none, none⟩,
    ⟨.mov 5 (.t 16), none, none⟩] [0,1,5]))
def c_laws_eqActS : VC := .seq (.reg [⟨.mov 4 (.c (.bool false)), none, none⟩] [0,1])
  (.seq (.seq (.reg [⟨.mov 6 (.t 0), none, none⟩,
    ⟨.len 7 (.t 6), none, none⟩,
    ⟨.mov 8 (.t 1), none, none⟩,
    ⟨.len 9 (.t 8), none, none⟩,
    ⟨.bin 10 .neq (.t 7) (.t 9), none, none⟩] [0,1,10])
  (.cond (.t 10)
  (.seq (.reg [⟨.mov 4 (.c (.bool false)), none, none⟩] [4])
  (.ret))
  (.skip)))
  (.seq (.seq (.reg [⟨.mov 5 (.c (.int .i64 0)), none, none⟩] [0,1,5])
  (.block 0 (.loop [0,1,5] c_laws_eqActS_L0)))
  (.seq (.reg [⟨.mov 4 (.c (.bool true)), none, none⟩] [4])
  (.ret))))
def f_laws_eqActS : Fn := ⟨[.ro 0, .ro 0], false, true, [.t 4], c_laws_eqActS⟩
/-! laws_markActS -/
def c_laws_markActS_L0 : VC := .seq (.seq (.reg [⟨.mov 6 (.t 5), none, none⟩,
    ⟨.mov 7 (.t 0), none, none⟩,
    ⟨.len 8 (.t 7), none, none⟩,
    ⟨.bin 9 .lss (.t 6) (.t 8), none, none⟩] [0,1,5,9,10000])
  (.cond (.t 9)
  (.skip)
  (.exit 0)))
  (.seq (.block 1 (.seq (.reg [⟨.mov 12 (.t 0), none, none⟩,
    ⟨.mov 13 (.t 5), none, none⟩,
    ⟨.mov 14 (.t 1), none, none⟩,
    ⟨.iad 15 t_impl_Act 6 (.t 12) (.t 13), none, none⟩,
    ⟨.fad 16 (.t 15) 0, none, none⟩,
    ⟨.store 1 (.t 16) (.t 14), none, none⟩] [0,1,5,10000])
  (.seq (.reg [⟨.mov 17 (.t 1), none, none⟩,
    ⟨.bin 18 .add (.t 17) (.c (.int .i64 1)), none, none⟩,
    ⟨.mov 1 (.t 18), none, none⟩] [0,1,5,10000])
  (.seq (.reg [⟨.mov 19 (.t 0), none, none⟩,
    ⟨.mov 20 (.t 5), none, none⟩,
    ⟨.mov 21 (.t 1), none, none⟩,
    ⟨.iad 22 t_impl_Act 6 (.t 19) (.t 20), none, none⟩,
    ⟨.fad 23 (.t 22) 1, none, none⟩,
    ⟨.store 1 (.t 23) (.t 21), none, none⟩] [0,1,5,10000])
  (.seq (.reg [⟨.mov 24 (.t 1), none, none⟩,
    ⟨.bin 25 .add (.t 24) (.c (.int .i64 1)), none, none⟩,
    ⟨.mov 1 (.t 25), none, none⟩] [0,1,5,10000])
  (.seq (.reg [⟨.mov 26 (.t 0), none, none⟩,
    ⟨.mov 27 (.t 5), none, none⟩,
    ⟨.mov 28 (.t 1), none, none⟩,
    ⟨.iad 29 t_impl_Act 6 (.t 26) (.t 27), none, none⟩,
    ⟨.fad 30 (.t 29) 2, none, none⟩,
    ⟨.store 1 (.t 30) (.t 28), none, none⟩] [0,1,5,10000])
  (.seq (.reg [⟨.mov 31 (.t 1), none, none⟩,
    ⟨.bin 32 .add (.t 31) (.c (.int .i64 1)), none, none⟩,
    ⟨.mov 1 (.t 32), none, none⟩] [0,1,5,10000])
  (.seq (.reg [⟨.mov 33 (.t 0), none, none⟩,
    ⟨.mov 34 (.t 5), none, none⟩,
    ⟨.mov 35 (.t 1), none, none⟩,
    ⟨.iad 36 t_impl_Act 6 (.t 33) (.t 34), none, none⟩,
    ⟨.fad 37 (.t 36) 3, none, none⟩,
    ⟨.store 1 (.t 37) (.t 35), none, none⟩] [0,1,5,10000])
  (.seq (.reg [⟨.mov 38 (.t 1), none, none⟩,
    ⟨.bin 39 .add (.t 38) (.c (.int .i64 1)), none, none⟩,
    ⟨.mov 1 (.t 39), none, none⟩] [0,1,5,10000])
  (.seq (.reg [⟨.mov 40 (.t 0), none, none⟩,
    ⟨.mov 41 (.t 5), none, none⟩,
    ⟨.mov 42 (.t 1), none, none⟩,
    ⟨.iad 43 t_impl_Act 6 (.t 40) (.t 41), none, none⟩,
    ⟨.fad 44 (.t 43) 4, none, none⟩,
    ⟨.store 1 (.t 44) (.t 42), none, none⟩] [0,1,5,10000])
  (.seq (.reg [⟨.mov 45 (.t 1), none, none⟩,
    ⟨.bin 46 .add (.t 45) (.c (.int .i64 1)), none, none⟩,
    ⟨.mov 1 (.t 46), none, none⟩] [0,1,5,10000])
  (.reg [⟨.mov 47 (.t 0), none, none⟩,
    ⟨.mov 48 (.t 5), none, none⟩,
    ⟨.iad 49 t_impl_Act 6 (.t 47) (.t 48), none, none⟩,
    ⟨.fad 50 (.t 49) 5, none, none⟩,
    ⟨.load 51 none (.t 50), none, none⟩,
    ⟨.mov 52 (.t 1), none, none⟩,
    ⟨.call (some 53) n_laws_markInt64S [(.t 51), (.t 52)], none, none⟩,
    ⟨.mov 1 (.t 53), none, none⟩] [0,1,5,10000]))))))))))))
  (.reg [⟨.mov 10 (.t 5), none, none⟩,
    ⟨.bin 11 .add (.t 10) (.c (.int .i64 1)), none, none⟩,
    ⟨.mov 5 (.t 11), none, none⟩] [0,1,5,10000]))
def c_laws_markActS : VC := .seq (.reg [⟨.mov 4 (.c (.int .i64 0)), none, none⟩] [0,1,10000])
  (.seq (.seq (.reg [⟨.mov 5 (.c (.int .i64 0)), none, none⟩] [0,1,5,10000])
  (.block 0 (.loop [0,1,5,10000] c_laws_markActS_L0)))
  (.seq (.reg [⟨.mov 54 (.t 1), none, none⟩,
    ⟨.mov 4 (.t 54), none, none⟩] [4,10000])
  (.ret)))
def f_laws_markActS : Fn := ⟨[.mut 0, .ro 0], false, true, [.t 4], c_laws_markActS⟩
/-! laws_heldActS -/
def c_laws_heldActS_L0 : VC := .seq (.seq (.reg [⟨.mov 6 (.t 5), none, none⟩,
    ⟨.mov 7 (.t 0), none, none⟩,
    ⟨.len 8 (.t 7), none, none⟩,
    ⟨.bin 9 .lss (.t 6) (.t 8), none, none⟩] [0,1,5,9])
  (.cond (.t 9)
  (.skip)
  (.exit 0)))
  (.seq (.block 1 (.seq (.seq (.reg [⟨.mov 12 (.t 0), none, none⟩,
    ⟨.mov 13 (.t 5), none, none⟩,
    ⟨.iad 14 t_impl_Act 6 (.t 12) (.t 13), none, none⟩,
    ⟨.fad 15 (.t 14) 0, none, none⟩,
    ⟨.load 16 none (.t 15), none, none⟩,
    ⟨.mov 17 (.t 1), none, none⟩,
    ⟨.bin 18 .neq (.t 16) (.t 17), none, none⟩] [0,1,5,18])
  (.cond (.t 18)
  (.seq (.reg [⟨.mov 4 (.c (.int .i64 (-1))), none, none⟩] [4])
  (.ret))
  (.skip)))
  (.seq (.reg [⟨.mov 19 (.t 1), none, none⟩,
    ⟨.bin 20 .add (.t 19) (.c (.int .i64 1)), none, none⟩,
    ⟨.mov 1 (.t 20), none, none⟩] [0,1,5])
  (.seq (.seq (.reg [⟨.mov 21 (.t 0), none, none⟩,
    ⟨.mov 22 (.t 5), none, none⟩,
    ⟨.iad 23 t_impl_Act 6 (.t 21) (.t 22), none, none⟩,
    ⟨.fad 24 (.t 23) 1, none, none⟩,
    ⟨.load 25 none (.t 24), none, none⟩,
    ⟨.mov 26 (.t 1), none, none⟩,
    ⟨.bin 27 .neq (.t 25) (.t 26), none, none⟩] [0,1,5,27])
  (.cond (.t 27)
  (.seq (.reg [⟨.mov 4 (.c (.int .i64 (-1))), none, none⟩] [4])
  (.ret))
  (.skip)))
  (.seq (.reg [⟨.mov 28 (.t 1), none, none⟩,
    ⟨.bin 29 .add (.t 28) (.c (.int .i64 1)), none, none⟩,
    ⟨.mov 1 (.t 29), none, none⟩] [0,1,5])
  (.seq (.seq (.reg [⟨.mov 30 (.t 0), none, none⟩,
    ⟨.mov 31 (.t 5), none, none⟩,
    ⟨.iad 32 t_impl_Act 6 (.t 30) (.t 31), none, none⟩,
    ⟨.fad 33 (.t 32) 2, none, none⟩,
    ⟨.load 34 none (.t 33), none, none⟩,
    ⟨.mov 35 (.t 1), none, none⟩,
    ⟨.bin 36 .neq (.t 34) (.t 35), none, none⟩] [0,1,5,36])
  (.cond (.t 36)
  (.seq (.reg [⟨.mov 4 (.c (.int .i64 (-1))), none, none⟩] [4])
  (.ret))
  (.skip)))
  (.seq (.reg [⟨.mov 37 (.t 1), none, none⟩,
    ⟨.bin 38 .add (.t 37) (.c (.int .i64 1)), none, none⟩,
    ⟨.mov 1 (.t 38), none, none⟩] [0,1,5])
  (.seq (.seq (.reg [⟨.mov 39 (.t 0), none, none⟩,
    ⟨.mov 40 (.t 5), none, none⟩,
    ⟨.iad 41 t_impl_Act 6 (.t 39) (.t 40), none, none⟩,
    ⟨.fad 42 (.t 41) 3, none, none⟩,
    ⟨.load 43 none (.t 42), none, none⟩,
    ⟨.mov 44 (.t 1), none, none⟩,
    ⟨.bin 45 .neq (.t 43) (.t 44), none, none⟩] [0,1,5,45])
  (.cond (.t 45)
  (.seq (.reg [⟨.mov 4 (.c (.int .i64 (-1))), none, none⟩] [4])
  (.ret))
  (.skip)))
  (.seq (.reg [⟨.mov 46 (.t 1), none, none⟩,
    ⟨.bin 47 .add (.t 46) (.c (.int .i64 1)), none, none⟩,
    ⟨.mov 1 (.t 47), none, none⟩] [0,1,5])
  (.seq (.seq (.reg [⟨.mov 48 (.t 0), none, none⟩,
    ⟨.mov 49 (.t 5), none, none⟩,
    ⟨.iad 50 t_impl_Act 6 (.t 48) (.t 49), none, none⟩,
    ⟨.fad 51 (.t 50) 4, none, none⟩,
    ⟨.load 52 none (.t 51), none, none⟩,
    ⟨.mov 53 (.t 1), none, none⟩,
    ⟨.bin 54 .neq (.t 52) (.t 53), none, none⟩] [0,1,5,54])
  (.cond (.t 54)
  (.seq (.reg [⟨.mov 4 (.c (.int .i64 (-1))), none, none⟩] [4])
  (.ret))
  (.skip)))
  (.seq (.reg [⟨.mov 55 (.t 1), none, none⟩,
    ⟨.bin 56 .add (.t 55) (.c (.int .i64 1)), none, none⟩,
    ⟨.mov 1 (.t 56), none, none⟩] [0,1,5])
  (.seq (.reg [⟨.mov 57 (.t 0), none, none⟩,
    ⟨.mov 58 (.t 5), none, none⟩,
    ⟨.iad 59 t_impl_Act 6 (.t 57) (.t 58), none, none⟩,
    ⟨.fad 60 (.t 59) 5, none, none⟩,
    ⟨.load 61 none (.t 60), none, none⟩,
    ⟨.mov 62 (.t 1), none, none⟩,
    ⟨.call (some 63) n_laws_heldInt64S [(.t 61), (.t 62)], none, none⟩,
    ⟨.mov 1 (.t 63), none, none⟩] [0,1,5])
  (.seq (.reg [⟨.mov 64 (.t 1), none, none⟩,
    ⟨.bin 65 .lss (.t 64) (.c (.int .i64 0)), none, none⟩] [0,1,5,65])
  (.cond (.t 65)
  (.seq (.reg [⟨.mov 4 (.c (.int .i64 (-1))), none, none⟩] [4])
  (.ret))
  (.skip)))))))))))))))
  (.reg [⟨.mov 10 (.t 5), none, none⟩,
    ⟨.bin 11 .add (.t 10) (.c (.int .i64 1)), none, none⟩,
    ⟨.mov 5 (.t 11), none, none⟩] [0,1,5]))
def c_laws_heldActS : VC := .seq (.reg [⟨.mov 4 (.c (.int .i64 0)), none, none⟩] [0,1])
  (.seq (.seq (.reg [⟨.mov 5 (.c (.int .i64 0)), none, none⟩] [0,1,5])
  (.block 0 (.loop [0,1,5] c_laws_heldActS_L0)))
  (.seq (.reg [⟨.mov 66 (.t 1), none, none⟩,
    ⟨.mov 4 (.t 66), none, none⟩] [4])
  (.ret)))
def f_laws_heldActS : Fn := ⟨[.ro 0, .ro 0], false, true, [.t 4], c_laws_heldActS⟩
/-! spec_Gathered -/
def c_spec_Gathered_L0 : VC := .seq (.seq (.reg [⟨.mov 8 (.t 6), none, none⟩,
    ⟨.mov 9 (.t 0), none, none⟩,
    ⟨.len 10 (.t 9), none, none⟩,
    ⟨.bin 11 .lss (.t 8) (.t 10), none, none⟩,
    ⟨.mov 12 (.t 11), none, none⟩,
    ⟨.mov 13 (.t 0), some (12, true), (some 13)⟩,
    ⟨.len 14 (.t 13), some (12, true), (some 14)⟩,
    ⟨.bin 15 .leq (.t 14) (.c (.int .i64 60)), some (12, true), (some 15)⟩,
    ⟨.pick 16 (.t 12) (.t 15) (.c (.bool false)), none, none⟩,
    ⟨.mov 17 (.t 16), none, none⟩,
    ⟨.mov 18 (.t 1), some (17, true), (some 18)⟩,
    ⟨.len 19 (.t 18), some (17, true), (some 19)⟩,
    ⟨.mov 20 (.t 0), some (17, true), (some 20)⟩,
    ⟨.len 21 (.t 20), some (17, true), (some 21)⟩,
    ⟨.bin 22 .eql (.t 19) (.t 21), some (17, true), (some 22)⟩,
    ⟨.pick 23 (.t 17) (.t 22) (.c (.bool false)), none, none⟩] [0,1,5,6,23])
  (.cond (.t 23)
  (.skip)
  (.exit 0)))
  (.seq (.block 1 (.seq (.reg [⟨.mov 26 (.t 0), none, none⟩,
    ⟨.mov 27 (.t 6), none, none⟩,
    ⟨.iad 28 t_impl_Act 6 (.t 26) (.t 27), none, none⟩,
    ⟨.fad 29 (.t 28) 0, none, none⟩,
    ⟨.load 30 none (.t 29), none, none⟩,
    ⟨.call (some 31) n_spec_l15Quiet [(.t 30)], none, none⟩,
    ⟨.un 32 .not (.t 31), none, none⟩] [0,1,5,6,32])
  (.cond (.t 32)
  (.reg [⟨.mov 33 (.t 5), none, none⟩,
    ⟨.mov 34 (.t 1), none, none⟩,
    ⟨.mov 35 (.t 6), none, none⟩,
    ⟨.iad 36 t_impl_Answer 2 (.t 34) (.t 35), none, none⟩,
    ⟨.load 37 (some 2) (.t 36), none, none⟩,
    ⟨.bsl 38 t_impl_Answer 2 [.v (.int .i64 0), .v (.int .i64 0)] 1 [(0, (.t 37))], none, none⟩,
    ⟨.app 39 t_impl_Answer 16 true (.t 33) (.t 38), none, none⟩,
    ⟨.mov 5 (.t 39), none, none⟩] [0,1,5,6])
  (.skip))))
  (.reg [⟨.mov 24 (.t 6), none, none⟩,
    ⟨.bin 25 .add (.t 24) (.c (.int .i64 1)), none, none⟩,
    ⟨.mov 6 (.t 25), none, none⟩] [0,1,5,6]))
def c_spec_Gathered : VC := .seq (.reg [⟨.mov 4 (.nl t_impl_Answer), none, none⟩] [0,1])
  (.seq (.reg [⟨.bsl 7 t_impl_Answer 2 [.v (.int .i64 0), .v (.int .i64 0)] 0 [], none, none⟩,
    ⟨.mov 5 (.t 7), none, none⟩] [0,1,5])
  (.seq (.seq (.reg [⟨.mov 6 (.c (.int .i64 0)), none, none⟩] [0,1,5,6])
  (.block 0 (.loop [0,1,5,6] c_spec_Gathered_L0)))
  (.seq (.reg [⟨.mov 40 (.t 5), none, none⟩,
    ⟨.mov 4 (.t 40), none, none⟩] [4])
  (.ret))))
def f_spec_Gathered : Fn := ⟨[.ro 0, .ro 0], false, false, [.t 4], c_spec_Gathered⟩
/-! impl_Gathered -/
def c_impl_Gathered_L0 : VC := .seq (.reg [⟨.bin 22 .lss (.t 21) (.t 20), none, none⟩] [1,5,19,20,21,22])
  (.seq (.cond (.t 22)
  (.skip)
  (.exit 0))
  (.seq (.block 1 (.seq (.reg [⟨.mov 23 (.t 21), none, none⟩,
    ⟨.iad 24 t_impl_Act 6 (.t 19) (.t 21), none, none⟩,
    ⟨.load 25 (some 6) (.t 24), none, none⟩,
    ⟨.alloc 7 [.v (.int .i64 0), .v (.int .i64 0), .v (.int .i64 0), .v (.int .i64 0), .v (.int .i64 0), .nl t_i64], none, none⟩,
    ⟨.mov 6 (.t 23), none, none⟩,
    ⟨.store 6 (.t 7) (.t 25), none, none⟩] [1,5,6,7,19,20,21])
  (.seq (.reg [⟨.fad 26 (.t 7) 0, none, none⟩,
    ⟨.load 27 none (.t 26), none, none⟩,
    ⟨.call (some 28) n_impl_isExtra [(.t 27)], none, none⟩,
    ⟨.un 29 .not (.t 28), none, none⟩] [1,5,6,19,20,21,29])
  (.cond (.t 29)
  (.reg [⟨.mov 30 (.t 5), none, none⟩,
    ⟨.mov 31 (.t 1), none, none⟩,
    ⟨.mov 32 (.t 6), none, none⟩,
    ⟨.iad 33 t_impl_Answer 2 (.t 31) (.t 32), none, none⟩,
    ⟨.load 34 (some 2) (.t 33), none, none⟩,
    ⟨.bsl 35 t_impl_Answer 2 [.v (.int .i64 0), .v (.int .i64 0)] 1 [(0, (.t 34))], none, none⟩,
    ⟨.app 36 t_impl_Answer 16 true (.t 30) (.t 35), none, none⟩,
    ⟨.mov 5 (.t 36), none, none⟩] [1,5,19,20,21])
  (.skip)))))
  (.reg [⟨.bin 37 .add (.t 21) (.c (.int .i64 1)), none, none⟩,
    ⟨.mov 21 (.t 37), none, none⟩] [1,5,19,20,21])))
def c_impl_Gathered : VC := .seq (.reg [⟨.mov 4 (.nl t_impl_Answer), none, none⟩] [0,1])
  (.seq (.seq (.reg [⟨.mov 8 (.t 0), none, none⟩,
    ⟨.len 9 (.t 8), none, none⟩,
    ⟨.bin 10 .gtr (.t 9) (.c (.int .i64 60)), none, none⟩,
    ⟨.mov 11 (.t 10), none, none⟩,
    ⟨.mov 12 (.t 1), some (11, false), (some 12)⟩,
    ⟨.len 13 (.t 12), some (11, false), (some 13)⟩,
    ⟨.mov 14 (.t 0), some (11, false), (some 14)⟩,
    ⟨.len 15 (.t 14), some (11, false), (some 15)⟩,
    ⟨.bin 16 .neq (.t 13) (.t 15), some (11, false), (some 16)⟩,
    ⟨.pick 17 (.t 11) (.c (.bool true)) (.t 16), none, none⟩] [0,1,17])
  (.cond (.t 17)
  (.seq (.reg [⟨.mov 4 (.nl t_impl_Answer), none, none⟩] [4])
  (.ret))
  (.skip)))
  (.seq (.reg [⟨.bsl 18 t_impl_Answer 2 [.v (.int .i64 0), .v (.int .i64 0)] 0 [], none, none⟩,
    ⟨.mov 5 (.t 18), none, none⟩] [0,1,5])
  (.seq (.seq (.reg [⟨.mov 19 (.t 0), none, none⟩,
    ⟨.len 20 (.t 19), none, none⟩,
    ⟨.mov 21 (.c (.int .i64 0)), none, none⟩] [1,5,19,20,21])
  (.block 0 (.loop [1,5,19,20,21] c_impl_Gathered_L0)))
  (.seq (.reg [⟨.mov 38 (.t 5), none, none⟩,
    ⟨.mov 4 (.t 38), none, none⟩] [4])
  (.ret)))))
def f_impl_Gathered : Fn := ⟨[.ro 0, .ro 0], false, false, [.t 4], c_impl_Gathered⟩
/-! laws_heldAnswerS -/
def c_laws_heldAnswerS_L0 : VC := .seq (.seq (.reg [⟨.mov 6 (.t 5), none, none⟩,
    ⟨.mov 7 (.t 0), none, none⟩,
    ⟨.len 8 (.t 7), none, none⟩,
    ⟨.bin 9 .lss (.t 6) (.t 8), none, none⟩] [0,1,5,9])
  (.cond (.t 9)
  (.skip)
  (.exit 0)))
  (.seq (.block 1 (.seq (.seq (.reg [⟨.mov 12 (.t 0), none, none⟩,
    ⟨.mov 13 (.t 5), none, none⟩,
    ⟨.iad 14 t_impl_Answer 2 (.t 12) (.t 13), none, none⟩,
    ⟨.fad 15 (.t 14) 0, none, none⟩,
    ⟨.load 16 none (.t 15), none, none⟩,
    ⟨.mov 17 (.t 1), none, none⟩,
    ⟨.bin 18 .neq (.t 16) (.t 17), none, none⟩] [0,1,5,18])
  (.cond (.t 18)
  (.seq (.reg [⟨.mov 4 (.c (.int .i64 (-1))), none, none⟩] [4])
  (.ret))
  (.skip)))
  (.seq (.reg [⟨.mov 19 (.t 1), none, none⟩,
    ⟨.bin 20 .add (.t 19) (.c (.int .i64 1)), none, none⟩,
    ⟨.mov 1 (.t 20), none, none⟩] [0,1,5])
  (.seq (.seq (.reg [⟨.mov 21 (.t 0), none, none⟩,
    ⟨.mov 22 (.t 5), none, none⟩,
    ⟨.iad 23 t_impl_Answer 2 (.t 21) (.t 22), none, none⟩,
    ⟨.fad 24 (.t 23) 1, none, none⟩,
    ⟨.load 25 none (.t 24), none, none⟩,
    ⟨.mov 26 (.t 1), none, none⟩,
    ⟨.bin 27 .neq (.t 25) (.t 26), none, none⟩] [0,1,5,27])
  (.cond (.t 27)
  (.seq (.reg [⟨.mov 4 (.c (.int .i64 (-1))), none, none⟩] [4])
  (.ret))
  (.skip)))
  (.reg [⟨.mov 28 (.t 1), none, none⟩,
    ⟨.bin 29 .add (.t 28) (.c (.int .i64 1)), none, none⟩,
    ⟨.mov 1 (.t 29), none, none⟩] [0,1,5])))))
  (.reg [⟨.mov 10 (.t 5), none, none⟩,
    ⟨.bin 11 .add (.t 10) (.c (.int .i64 1)), none, none⟩,
    ⟨.mov 5 (.t 11), none, none⟩] [0,1,5]))
def c_laws_heldAnswerS : VC := .seq (.reg [⟨.mov 4 (.c (.int .i64 0)), none, none⟩] [0,1])
  (.seq (.seq (.reg [⟨.mov 5 (.c (.int .i64 0)), none, none⟩] [0,1,5])
  (.block 0 (.loop [0,1,5] c_laws_heldAnswerS_L0)))
  (.seq (.reg [⟨.mov 30 (.t 1), none, none⟩,
    ⟨.mov 4 (.t 30), none, none⟩] [4])
  (.ret)))
def f_laws_heldAnswerS : Fn := ⟨[.ro 0, .ro 0], false, true, [.t 4], c_laws_heldAnswerS⟩
/-! laws_szStrewS -/
def c_laws_szStrewS : VC := .seq (.reg [⟨.mov 4 (.c (.int .i64 0)), none, none⟩] [0,1])
  (.seq (.reg [⟨.mov 5 (.t 1), none, none⟩,
    ⟨.mov 6 (.t 0), none, none⟩,
    ⟨.len 7 (.t 6), none, none⟩,
    ⟨.bin 8 .sub (.t 5) (.t 7), none, none⟩,
    ⟨.mov 1 (.t 8), none, none⟩] [1])
  (.seq (.seq (.reg [⟨.mov 9 (.t 1), none, none⟩,
    ⟨.bin 10 .lss (.t 9) (.c (.int .i64 0)), none, none⟩] [1,10])
  (.cond (.t 10)
  (.seq (.reg [⟨.mov 4 (.c (.int .i64 (-1))), none, none⟩] [4])
  (.ret))
  (.skip)))
  (.seq (.reg [⟨.mov 11 (.t 1), none, none⟩,
    ⟨.mov 4 (.t 11), none, none⟩] [4])
  (.ret))))
def f_laws_szStrewS : Fn := ⟨[.ro 0, .ro 0], false, true, [.t 4], c_laws_szStrewS⟩
/-! spec_Strewn -/
def c_spec_Strewn_L0 : VC := .seq (.seq (.reg [⟨.mov 10 (.t 6), none, none⟩,
    ⟨.mov 11 (.t 1), none, none⟩,
    ⟨.len 12 (.t 11), none, none⟩,
    ⟨.bin 13 .lss (.t 10) (.t 12), none, none⟩] [0,1,6,13])
  (.cond (.t 13)
  (.skip)
  (.exit 0)))
  (.seq (.block 1 (.seq (.reg [⟨.mov 16 (.t 1), none, none⟩,
    ⟨.mov 17 (.t 6), none, none⟩,
    ⟨.iad 18 t_impl_Strew 3 (.t 16) (.t 17), none, none⟩,
    ⟨.fad 19 (.t 18) 0, none, none⟩,
    ⟨.load 20 none (.t 19), none, none⟩,
    ⟨.mov 21 (.t 0), none, none⟩,
    ⟨.len 22 (.t 21), none, none⟩,
    ⟨.call (some 23) n_spec_l1In [(.t 20), (.c (.int .i64 0)), (.t 22)], none, none⟩,
    ⟨.un 24 .not (.t 23), none, none⟩,
    ⟨.mov 25 (.t 24), none, none⟩,
    ⟨.mov 26 (.t 6), some (25, false), (some 26)⟩,
    ⟨.bin 27 .gtr (.t 26) (.c (.int .i64 0)), some (25, false), (some 27)⟩,
    ⟨.mov 28 (.t 27), some (25, false), (some 28)⟩,
    ⟨.mov 29 (.t 1), some (28, true), (some 29)⟩,
    ⟨.mov 30 (.t 6), some (28, true), (some 30)⟩,
    ⟨.iad 31 t_impl_Strew 3 (.t 29) (.t 30), some (28, true), (some 31)⟩,
    ⟨.fad 32 (.t 31) 0, some (28, true), (some 32)⟩,
    ⟨.load 33 none (.t 32), some (28, true), (some 33)⟩,
    ⟨.mov 34 (.t 1), some (28, true), (some 34)⟩,
    ⟨.mov 35 (.t 6), some (28, true), (some 35)⟩,
    ⟨.bin 36 .sub (.t 35) (.c (.int .i64 1)), some (28, true), (some 36)⟩,
    ⟨.iad 37 t_impl_Strew 3 (.t 34) (.t 36), some (28, true), (some 37)⟩,
    ⟨.fad 38 (.t 37) 0, some (28, true), (some 38)⟩,
    ⟨.load 39 none (.t 38), some (28, true), (some 39)⟩,
    ⟨.bin 40 .lss (.t 33) (.t 39), some (28, true), (some 40)⟩,
    ⟨.pick 41 (.t 28) (.t 40) (.c (.bool false)), some (25, false), (some 41)⟩,
    ⟨.pick 42 (.t 25) (.c (.bool true)) (.t 41), none, none⟩,
    ⟨.mov 43 (.t 42), none, none⟩,
    ⟨.mov 44 (.t 1), some (43, false), (some 44)⟩,
    ⟨.mov 45 (.t 6), some (43, false), (some 45)⟩,
    ⟨.iad 46 t_impl_Strew 3 (.t 44) (.t 45), some (43, false), (some 46)⟩,
    ⟨.fad 47 (.t 46) 1, some (43, false), (some 47)⟩,
    ⟨.load 48 none (.t 47), some (43, false), (some 48)⟩,
    ⟨.call (some 49) n_spec_l15Quiet [(.t 48)], some (43, false), (some 49)⟩,
    ⟨.un 50 .not (.t 49), some (43, false), (some 50)⟩,
    ⟨.pick 51 (.t 43) (.c (.bool true)) (.t 50), none, none⟩] [0,1,6,51])
  (.cond (.t 51)
  (.seq (.reg [⟨.mov 4 (.nl t_impl_Act), none, none⟩,
    ⟨.mov 5 (.c (.bool false)), none, none⟩] [4,5])
  (.ret))
  (.skip))))
  (.reg [⟨.mov 14 (.t 6), none, none⟩,
    ⟨.bin 15 .add (.t 14) (.c (.int .i64 1)), none, none⟩,
    ⟨.mov 6 (.t 15), none, none⟩] [0,1,6]))
def c_spec_Strewn_L2 : VC := .seq (.seq (.reg [⟨.mov 65 (.t 9), none, none⟩,
    ⟨.mov 66 (.t 1), none, none⟩,
    ⟨.len 67 (.t 66), none, none⟩,
    ⟨.bin 68 .lss (.t 65) (.t 67), none, none⟩] [0,1,7,8,9,68])
  (.cond (.t 68)
  (.skip)
  (.exit 4)))
  (.seq (.block 5 (.seq (.reg [⟨.mov 71 (.t 1), none, none⟩,
    ⟨.mov 72 (.t 9), none, none⟩,
    ⟨.iad 73 t_impl_Strew 3 (.t 71) (.t 72), none, none⟩,
    ⟨.fad 74 (.t 73) 0, none, none⟩,
    ⟨.load 75 none (.t 74), none, none⟩,
    ⟨.mov 76 (.t 8), none, none⟩,
    ⟨.bin 77 .eql (.t 75) (.t 76), none, none⟩] [0,1,7,8,9,77])
  (.cond (.t 77)
  (.reg [⟨.mov 78 (.t 7), none, none⟩,
    ⟨.mov 79 (.t 1), none, none⟩,
    ⟨.mov 80 (.t 9), none, none⟩,
    ⟨.iad 81 t_impl_Strew 3 (.t 79) (.t 80), none, none⟩,
    ⟨.fad 82 (.t 81) 1, none, none⟩,
    ⟨.load 83 none (.t 82), none, none⟩,
    ⟨.mov 84 (.t 1), none, none⟩,
    ⟨.mov 85 (.t 9), none, none⟩,
    ⟨.iad 86 t_impl_Strew 3 (.t 84) (.t 85), none, none⟩,
    ⟨.fad 87 (.t 86) 2, none, none⟩,
    ⟨.load 88 none (.t 87), none, none⟩,
    ⟨.build 89 [.v (.int .i64 0), .v (.int .i64 0), .v (.int .i64 0), .v (.int .i64 0), .v (.int .i64 0), .nl t_i64] [(0, 1, (.t 83)), (1, 1, (.t 88)), (4, 1, (.c (.int .i64 (-1))))], none, none⟩,
    ⟨.bsl 90 t_impl_Act 6 [.v (.int .i64 0), .v (.int .i64 0), .v (.int .i64 0), .v (.int .i64 0), .v (.int .i64 0), .nl t_i64] 1 [(0, (.t 89))], none, none⟩,
    ⟨.app 91 t_impl_Act 64 true (.t 78) (.t 90), none, none⟩,
    ⟨.mov 7 (.t 91), none, none⟩] [0,1,7,8,9])
  (.skip))))
  (.reg [⟨.mov 69 (.t 9), none, none⟩,
    ⟨.bin 70 .add (.t 69) (.c (.int .i64 1)), none, none⟩,
    ⟨.mov 9 (.t 70), none, none⟩] [0,1,7,8,9]))
def c_spec_Strewn_L1 : VC := .seq (.seq (.reg [⟨.mov 59 (.t 8), none, none⟩,
    ⟨.mov 60 (.t 0), none, none⟩,
    ⟨.len 61 (.t 60), none, none⟩,
    ⟨.bin 62 .leq (.t 59) (.t 61), none, none⟩] [0,1,7,8,62])
  (.cond (.t 62)
  (.skip)
  (.exit 2)))
  (.seq (.block 3 (.seq (.seq (.reg [⟨.mov 9 (.c (.int .i64 0)), none, none⟩] [0,1,7,8,9])
  (.block 4 (.loop [0,1,7,8,9] c_spec_Strewn_L2)))
  (.seq (.reg [⟨.mov 92 (.t 8), none, none⟩,
    ⟨.mov 93 (.t 0), none, none⟩,
    ⟨.len 94 (.t 93), none, none⟩,
    ⟨.bin 95 .lss (.t 92) (.t 94), none, none⟩] [0,1,7,8,95])
  (.cond (.t 95)
  (.reg [⟨.mov 96 (.t 7), none, none⟩,
    ⟨.mov 97 (.t 0), none, none⟩,
    ⟨.mov 98 (.t 8), none, none⟩,
    ⟨.iad 99 t_impl_Act 6 (.t 97) (.t 98), none, none⟩,
    ⟨.load 100 (some 6) (.t 99), none, none⟩,
    ⟨.call (some 101) n_spec_l15Copy [(.t 100)], none, none⟩,
    ⟨.bsl 102 t_impl_Act 6 [.v (.int .i64 0), .v (.int .i64 0), .v (.int .i64 0), .v (.int .i64 0), .v (.int .i64 0), .nl t_i64] 1 [(0, (.t 101))], none, none⟩,
    ⟨.app 103 t_impl_Act 64 true (.t 96) (.t 102), none, none⟩,
    ⟨.mov 7 (.t 103), none, none⟩] [0,1,7,8])
  (.skip)))))
  (.reg [⟨.mov 63 (.t 8), none, none⟩,
    ⟨.bin 64 .add (.t 63) (.c (.int .i64 1)), none, none⟩,
    ⟨.mov 8 (.t 64), none, none⟩] [0,1,7,8]))
def c_spec_Strewn : VC := .seq (.reg [⟨.mov 4 (.nl t_impl_Act), none, none⟩,
    ⟨.mov 5 (.c (.bool false)), none, none⟩] [0,1])
  (.seq (.seq (.reg [⟨.mov 6 (.c (.int .i64 0)), none, none⟩] [0,1,6])
  (.block 0 (.loop [0,1,6] c_spec_Strewn_L0)))
  (.seq (.seq (.reg [⟨.mov 52 (.t 0), none, none⟩,
    ⟨.len 53 (.t 52), none, none⟩,
    ⟨.mov 54 (.t 1), none, none⟩,
    ⟨.len 55 (.t 54), none, none⟩,
    ⟨.bin 56 .add (.t 53) (.t 55), none, none⟩,
    ⟨.bin 57 .gtr (.t 56) (.c (.int .i64 60)), none, none⟩] [0,1,57])
  (.cond (.t 57)
  (.seq (.reg [⟨.mov 4 (.nl t_impl_Act), none, none⟩,
    ⟨.mov 5 (.c (.bool false)), none, none⟩] [4,5])
  (.ret))
  (.skip)))
  (.seq (.reg [⟨.bsl 58 t_impl_Act 6 [.v (.int .i64 0), .v (.int .i64 0), .v (.int .i64 0), .v (.int .i64 0), .v (.int .i64 0), .nl t_i64] 0 [], none, none⟩,
    ⟨.mov 7 (.t 58), none, none⟩] [0,1,7])
  (.seq (.seq (.reg [⟨.mov 8 (.c (.int .i64 0)), none, none⟩] [0,1,7,8])
  (.block 2 (.loop [0,1,7,8] c_spec_Strewn_L1)))
  (.seq (.reg [⟨.mov 104 (.t 7), none, none⟩,
    ⟨.mov 4 (.t 104), none, none⟩,
    ⟨.mov 5 (.c (.bool true)), none, none⟩] [4,5])
  (.ret))))))
def f_spec_Strewn : Fn := ⟨[.ro 0, .ro 0], false, false, [.t 4, .t 5], c_spec_Strewn⟩
/-! laws_toStrewS -/
def c_laws_toStrewS_L0 : VC := .seq (.seq (.reg [⟨.mov 8 (.t 4), none, none⟩,
    ⟨.mov 9 (.t 0), none, none⟩,
    ⟨.len 10 (.t 9), none, none⟩,
    ⟨.bin 11 .lss (.t 8) (.t 10), none, none⟩] [0,3,4,11])
  (.cond (.t 11)
  (.skip)
  (.exit 0)))
  (.seq (.block 1 (.reg [⟨.mov 14 (.t 3), none, none⟩,
    ⟨.mov 15 (.t 4), none, none⟩,
    ⟨.mov 16 (.t 0), none, none⟩,
    ⟨.mov 17 (.t 4), none, none⟩,
    ⟨.iad 18 t_laws_Strew 3 (.t 16) (.t 17), none, none⟩,
    ⟨.load 19 (some 3) (.t 18), none, none⟩,
    ⟨.call (some 20) n_laws_toStrew [(.t 19)], none, none⟩,
    ⟨.iad 21 t_impl_Strew 3 (.t 14) (.t 15), none, none⟩,
    ⟨.store 3 (.t 21) (.t 20), none, none⟩] [0,3,4]))
  (.reg [⟨.mov 12 (.t 4), none, none⟩,
    ⟨.bin 13 .add (.t 12) (.c (.int .i64 1)), none, none⟩,
    ⟨.mov 4 (.t 13), none, none⟩] [0,3,4]))
def c_laws_toStrewS : VC := .seq (.reg [⟨.mov 2 (.nl t_impl_Strew), none, none⟩] [0])
  (.seq (.reg [⟨.mov 5 (.t 0), none, none⟩,
    ⟨.len 6 (.t 5), none, none⟩,
    ⟨.mks 7 t_impl_Strew 24 [.v (.int .i64 0), .v (.int .i64 0), .v (.int .i64 0)] (.t 6), none, none⟩,
    ⟨.mov 3 (.t 7), none, none⟩] [0,3])
  (.seq (.seq (.reg [⟨.mov 4 (.c (.int .i64 0)), none, none⟩] [0,3,4])
  (.block 0 (.loop [0,3,4] c_laws_toStrewS_L0)))
  (.seq (.reg [⟨.mov 22 (.t 3), none, none⟩,
    ⟨.mov 2 (.t 22), none, none⟩] [2])
  (.ret))))
def f_laws_toStrewS : Fn := ⟨[.ro 0], false, false, [.t 2], c_laws_toStrewS⟩
/-! impl_Strewn -/
def c_impl_Strewn_L1 : VC := .seq (.seq (.reg [⟨.mov 38 (.t 7), none, none⟩,
    ⟨.fad 39 (.t 9) 0, none, none⟩,
    ⟨.load 40 none (.t 39), none, none⟩,
    ⟨.bin 41 .lss (.t 38) (.t 40), none, none⟩] [0,6,7,9,19,20,21,41])
  (.cond (.t 41)
  (.skip)
  (.exit 2)))
  (.seq (.block 3 (.reg [⟨.mov 44 (.t 6), none, none⟩,
    ⟨.mov 45 (.t 0), none, none⟩,
    ⟨.mov 46 (.t 7), none, none⟩,
    ⟨.iad 47 t_impl_Act 6 (.t 45) (.t 46), none, none⟩,
    ⟨.load 48 (some 6) (.t 47), none, none⟩,
    ⟨.call (some 49) n_impl_ownAct [(.t 48)], none, none⟩,
    ⟨.bsl 50 t_impl_Act 6 [.v (.int .i64 0), .v (.int .i64 0), .v (.int .i64 0), .v (.int .i64 0), .v (.int .i64 0), .nl t_i64] 1 [(0, (.t 49))], none, none⟩,
    ⟨.app 51 t_impl_Act 64 true (.t 44) (.t 50), none, none⟩,
    ⟨.mov 6 (.t 51), none, none⟩] [0,6,7,9,19,20,21]))
  (.reg [⟨.mov 42 (.t 7), none, none⟩,
    ⟨.bin 43 .add (.t 42) (.c (.int .i64 1)), none, none⟩,
    ⟨.mov 7 (.t 43), none, none⟩] [0,6,7,9,19,20,21]))
def c_impl_Strewn_L0 : VC := .seq (.reg [⟨.bin 22 .lss (.t 21) (.t 20), none, none⟩] [0,6,7,19,20,21,22])
  (.seq (.cond (.t 22)
  (.skip)
  (.exit 0))
  (.seq (.block 1 (.seq (.reg [⟨.iad 23 t_impl_Strew 3 (.t 19) (.t 21), none, none⟩,
    ⟨.load 24 (some 3) (.t 23), none, none⟩,
    ⟨.alloc 9 [.v (.int .i64 0), .v (.int .i64 0), .v (.int .i64 0)], none, none⟩,
    ⟨.store 3 (.t 9) (.t 24), none, none⟩] [0,6,7,9,19,20,21])
  (.seq (.seq (.reg [⟨.fad 25 (.t 9) 0, none, none⟩,
    ⟨.load 26 none (.t 25), none, none⟩,
    ⟨.mov 27 (.t 7), none, none⟩,
    ⟨.mov 28 (.t 0), none, none⟩,
    ⟨.call (some 29) n_impl_size_impl_Act [(.t 28)], none, none⟩,
    ⟨.call (some 30) n_impl_within [(.t 26), (.t 27), (.t 29)], none, none⟩,
    ⟨.un 31 .not (.t 30), none, none⟩,
    ⟨.mov 32 (.t 31), none, none⟩,
    ⟨.fad 33 (.t 9) 1, some (32, false), (some 33)⟩,
    ⟨.load 34 none (.t 33), some (32, false), (some 34)⟩,
    ⟨.call (some 35) n_impl_isExtra [(.t 34)], some (32, false), (some 35)⟩,
    ⟨.un 36 .not (.t 35), some (32, false), (some 36)⟩,
    ⟨.pick 37 (.t 32) (.c (.bool true)) (.t 36), none, none⟩] [0,6,7,9,19,20,21,37])
  (.cond (.t 37)
  (.seq (.reg [⟨.mov 4 (.nl t_impl_Act), none, none⟩,
    ⟨.mov 5 (.c (.bool false)), none, none⟩] [4,5])
  (.ret))
  (.skip)))
  (.seq (.block 2 (.loop [0,6,7,9,19,20,21] c_impl_Strewn_L1))
  (.reg [⟨.mov 52 (.t 6), none, none⟩,
    ⟨.fad 53 (.t 9) 1, none, none⟩,
    ⟨.load 54 none (.t 53), none, none⟩,
    ⟨.fad 55 (.t 9) 2, none, none⟩,
    ⟨.load 56 none (.t 55), none, none⟩,
    ⟨.build 57 [.v (.int .i64 0), .v (.int .i64 0), .v (.int .i64 0), .v (.int .i64 0), .v (.int .i64 0), .nl t_i64] [(0, 1, (.t 54)), (1, 1, (.t 56)), (4, 1, (.c (.int .i64 (-1))))], none, none⟩,
    ⟨.bsl 58 t_impl_Act 6 [.v (.int .i64 0), .v (.int .i64 0), .v (.int .i64 0), .v (.int .i64 0), .v (.int .i64 0), .nl t_i64] 1 [(0, (.t 57))], none, none⟩,
    ⟨.app 59 t_impl_Act 64 true (.t 52) (.t 58), none, none⟩,
    ⟨.mov 6 (.t 59), none, none⟩] [0,6,7,19,20,21])))))
  (.reg [⟨.bin 60 .add (.t 21) (.c (.int .i64 1)), none, none⟩,
    ⟨.mov 21 (.t 60), none, none⟩] [0,6,7,19,20,21])))
def c_impl_Strewn_L2 : VC := .seq (.reg [⟨.bin 66 .lss (.t 65) (.t 64), none, none⟩] [6,63,64,65,66])
  (.seq (.cond (.t 66)
  (.skip)
  (.exit 4))
  (.seq (.block 5 (.seq (.reg [⟨.iad 67 t_impl_Act 6 (.t 63) (.t 65), none, none⟩,
    ⟨.load 68 (some 6) (.t 67), none, none⟩,
    ⟨.alloc 11 [.v (.int .i64 0), .v (.int .i64 0), .v (.int .i64 0), .v (.int .i64 0), .v (.int .i64 0), .nl t_i64], none, none⟩,
    ⟨.store 6 (.t 11) (.t 68), none, none⟩] [6,11,63,64,65])
  (.reg [⟨.mov 69 (.t 6), none, none⟩,
    ⟨.load 70 (some 6) (.t 11), none, none⟩,
    ⟨.call (some 71) n_impl_ownAct [(.t 70)], none, none⟩,
    ⟨.bsl 72 t_impl_Act 6 [.v (.int .i64 0), .v (.int .i64 0), .v (.int .i64 0), .v (.int .i64 0), .v (.int .i64 0), .nl t_i64] 1 [(0, (.t 71))], none, none⟩,
    ⟨.app 73 t_impl_Act 64 true (.t 69) (.t 72), none, none⟩,
    ⟨.mov 6 (.t 73), none, none⟩] [6,63,64,65])))
  (.reg [⟨.bin 74 .add (.t 65) (.c (.int .i64 1)), none, none⟩,
    ⟨.mov 65 (.t 74), none, none⟩] [6,63,64,65])))
def c_impl_Strewn : VC := .seq (.reg [⟨.mov 4 (.nl t_impl_Act), none, none⟩,
    ⟨.mov 5 (.c (.bool false)), none, none⟩] [0,1])
  (.seq (.seq (.reg [⟨.mov 12 (.t 0), none, none⟩,
    ⟨.len 13 (.t 12), none, none⟩,
    ⟨.mov 14 (.t 1), none, none⟩,
    ⟨.len 15 (.t 14), none, none⟩,
    ⟨.bin 16 .add (.t 13) (.t 15), none, none⟩,
    ⟨.bin 17 .gtr (.t 16) (.c (.int .i64 60)), none, none⟩] [0,1,17])
  (.cond (.t 17)
  (.seq (.reg [⟨.mov 4 (.nl t_impl_Act), none, none⟩,
    ⟨.mov 5 (.c (.bool false)), none, none⟩] [4,5])
  (.ret))
  (.skip)))
  (.seq (.reg [⟨.bsl 18 t_impl_Act 6 [.v (.int .i64 0), .v (.int .i64 0), .v (.int .i64 0), .v (.int .i64 0), .v (.int .i64 0), .nl t_i64] 0 [], none, none⟩,
    ⟨.mov 6 (.t 18), none, none⟩] [0,1,6])
  (.seq (.reg [⟨.mov 7 (.c (.int .i64 0)), none, none⟩] [0,1,6,7])
  (.seq (.seq (.reg [⟨.mov 19 (.t 1), none, none⟩,
    ⟨.len 20 (.t 19), none, none⟩,
    ⟨.mov 21 (.c (.int .i64 0)), none, none⟩] [0,6,7,19,20,21])
  (.block 0 (.loop [0,6,7,19,20,21] c_impl_Strewn_L0)))
  (.seq (.seq (.reg [⟨.mov 61 (.t 0), none, none⟩,
    ⟨.mov 62 (.t 7), none, none⟩,
    ⟨.slc 63 t_impl_Act (.t 61) (some (.t 62)) none, none, none⟩,
    ⟨.len 64 (.t 63), none, none⟩,
    ⟨.mov 65 (.c (.int .i64 0)), none, none⟩] [6,63,64,65])
  (.block 4 (.loop [6,63,64,65] c_impl_Strewn_L2)))
  (.seq (.reg [⟨.mov 75 (.t 6), none, none⟩,
    ⟨.mov 4 (.t 75), none, none⟩,
    ⟨.mov 5 (.c (.bool true)), none, none⟩] [4,5])
  (.ret)))))))
def f_impl_Strewn : Fn := ⟨[.ro 0, .ro 0], false, false, [.t 4, .t 5], c_impl_Strewn⟩
/-! laws_eqStrewS -/
def c_laws_eqStrewS_L0 : VC := .seq (.seq (.reg [⟨.mov 11 (.t 5), none, none⟩,
    ⟨.mov 12 (.t 0), none, none⟩,
    ⟨.len 13 (.t 12), none, none⟩,
    ⟨.bin 14 .lss (.t 11) (.t 13), none, none⟩] [0,1,5,14])
  (.cond (.t 14)
  (.skip)
  (.exit 0)))
  (.seq (.block 1 (.seq (.reg [⟨.mov 17 (.t 0), none, none⟩,
    ⟨.mov 18 (.t 5), none, none⟩,
    ⟨.iad 19 t_impl_Strew 3 (.t 17) (.t 18), none, none⟩,
    ⟨.load 20 (some 3) (.t 19), none, none⟩,
    ⟨.mov 21 (.t 1), none, none⟩,
    ⟨.mov 22 (.t 5), none, none⟩,
    ⟨.iad 23 t_impl_Strew 3 (.t 21) (.t 22), none, none⟩,
    ⟨.load 24 (some 3) (.t 23), none, none⟩,
    ⟨.call (some 25) n_laws_eqStrew [(.t 20), (.t 24)], none, none⟩,
    ⟨.un 26 .not (.t 25), none, none⟩] [0,1,5,26])
  (.cond (.t 26)
  (.seq (.reg [⟨.mov 4 (.c (.bool false)), none, none⟩] [4])
  (.ret))
  (.skip))))
  (.reg [⟨.mov 15 (.t 5), none, none⟩,
    ⟨.bin 16 .add (.t 15) (.c (.int .i64 1)), none, none⟩,
    ⟨.mov 5 (.t 16), none, none⟩] [0,1,5]))
def c_laws_eqStrewS : VC := .seq (.reg [⟨.mov 4 (.c (.bool false)), none, none⟩] [0,1])
  (.seq (.seq (.reg [⟨.mov 6 (.t 0), none, none⟩,
    ⟨.len 7 (.t 6), none, none⟩,
    ⟨.mov 8 (.t 1), none, none⟩,
    ⟨.len 9 (.t 8), none, none⟩,
    ⟨.bin 10 .neq (.t 7) (.t 9), none, none⟩] [0,1,10])
  (.cond (.t 10)
  (.seq (.reg [⟨.mov 4 (.c (.bool false)), none, none⟩] [4])
  (.ret))
  (.skip)))
  (.seq (.seq (.reg [⟨.mov 5 (.c (.int .i64 0)), none, none⟩] [0,1,5])
  (.block 0 (.loop [0,1,5] c_laws_eqStrewS_L0)))
  (.seq (.reg [⟨.mov 4 (.c (.bool true)), none, none⟩] [4])
  (.ret))))
def f_laws_eqStrewS : Fn := ⟨[.ro 0, .ro 0], false, true, [.t 4], c_laws_eqStrewS⟩
/-! laws_markStrewS -/
def c_laws_markStrewS_L0 : VC := .seq (.seq (.reg [⟨.mov 6 (.t 5), none, none⟩,
    ⟨.mov 7 (.t 0), none, none⟩,
    ⟨.len 8 (.t 7), none, none⟩,
    ⟨.bin 9 .lss (.t 6) (.t 8), none, none⟩] [0,1,5,9,10000])
  (.cond (.t 9)
  (.skip)
  (.exit 0)))
  (.seq (.block 1 (.seq (.reg [⟨.mov 12 (.t 0), none, none⟩,
    ⟨.mov 13 (.t 5), none, none⟩,
    ⟨.mov 14 (.t 1), none, none⟩,
    ⟨.iad 15 t_impl_Strew 3 (.t 12) (.t 13), none, none⟩,
    ⟨.fad 16 (.t 15) 0, none, none⟩,
    ⟨.store 1 (.t 16) (.t 14), none, none⟩] [0,1,5,10000])
  (.seq (.reg [⟨.mov 17 (.t 1), none, none⟩,
    ⟨.bin 18 .add (.t 17) (.c (.int .i64 1)), none, none⟩,
    ⟨.mov 1 (.t 18), none, none⟩] [0,1,5,10000])
  (.seq (.reg [⟨.mov 19 (.t 0), none, none⟩,
    ⟨.mov 20 (.t 5), none, none⟩,
    ⟨.mov 21 (.t 1), none, none⟩,
    ⟨.iad 22 t_impl_Strew 3 (.t 19) (.t 20), none, none⟩,
    ⟨.fad 23 (.t 22) 1, none, none⟩,
    ⟨.store 1 (.t 23) (.t 21), none, none⟩] [0,1,5,10000])
  (.seq (.reg [⟨.mov 24 (.t 1), none, none⟩,
    ⟨.bin 25 .add (.t 24) (.c (.int .i64 1)), none, none⟩,
    ⟨.mov 1 (.t 25), none, none⟩] [0,1,5,10000])
  (.seq (.reg [⟨.mov 26 (.t 0), none, none⟩,
    ⟨.mov 27 (.t 5), none, none⟩,
    ⟨.mov 28 (.t 1), none, none⟩,
    ⟨.iad 29 t_impl_Strew 3 (.t 26) (.t 27), none, none⟩,
    ⟨.fad 30 (.t 29) 2, none, none⟩,
    ⟨.store 1 (.t 30) (.t 28), none, none⟩] [0,1,5,10000])
  (.reg [⟨.mov 31 (.t 1), none, none⟩,
    ⟨.bin 32 .add (.t 31) (.c (.int .i64 1)), none, none⟩,
    ⟨.mov 1 (.t 32), none, none⟩] [0,1,5,10000])))))))
  (.reg [⟨.mov 10 (.t 5), none, none⟩,
    ⟨.bin 11 .add (.t 10) (.c (.int .i64 1)), none, none⟩,
    ⟨.mov 5 (.t 11), none, none⟩] [0,1,5,10000]))
def c_laws_markStrewS : VC := .seq (.reg [⟨.mov 4 (.c (.int .i64 0)), none, none⟩] [0,1,10000])
  (.seq (.seq (.reg [⟨.mov 5 (.c (.int .i64 0)), none, none⟩] [0,1,5,10000])
  (.block 0 (.loop [0,1,5,10000] c_laws_markStrewS_L0)))
  (.seq (.reg [⟨.mov 33 (.t 1), none, none⟩,
    ⟨.mov 4 (.t 33), none, none⟩] [4,10000])
  (.ret)))
def f_laws_markStrewS : Fn := ⟨[.mut 0, .ro 0], false, true, [.t 4], c_laws_markStrewS⟩
/-! spec_l1Open -/
def c_spec_l1Open : VC := .seq (.reg [⟨.mov 2 (.c (.pointer none)), none, none⟩] [0])
  (.seq (.reg [⟨.mov 3 (.t 0), none, none⟩,
    ⟨.build 4 [.nl t_u8, .v (.int .i64 0)] [(0, 1, (.t 3))], none, none⟩,
    ⟨.box 5 (.t 4), none, none⟩,
    ⟨.mov 2 (.t 5), none, none⟩] [2])
  (.ret))
def f_spec_l1Open : Fn := ⟨[.ro 0], true, false, [.t 2], c_spec_l1Open⟩
/-! spec_l1Rd_below -/
def c_spec_l1Rd_below : VC := .seq (.reg [⟨.mov 4 (.c (.int .i64 0)), none, none⟩] [0,1,10000])
  (.seq (.seq (.reg [⟨.mov 6 (.t 1), none, none⟩,
    ⟨.bin 7 .leq (.t 6) (.c (.int .i64 1)), none, none⟩] [0,1,7,10000])
  (.cond (.t 7)
  (.seq (.reg [⟨.mov 4 (.c (.int .i64 0)), none, none⟩] [4,10000])
  (.ret))
  (.skip)))
  (.seq (.seq (.reg [⟨.mov 8 (.t 1), none, none⟩,
    ⟨.bin 9 .leq (.t 8) (.c (.int .i64 256)), none, none⟩] [0,1,9,10000])
  (.cond (.t 9)
  (.seq (.reg [⟨.mov 10 (.t 0), none, none⟩,
    ⟨.call (some 11) n_spec_l1Rd_next [(.t 10)], none, none⟩,
    ⟨.mov 12 (.t 1), none, none⟩,
    ⟨.bin 13 .rem (.t 11) (.t 12), none, none⟩,
    ⟨.mov 4 (.t 13), none, none⟩] [4,10000])
  (.ret))
  (.skip)))
  (.seq (.reg [⟨.mov 14 (.t 0), none, none⟩,
    ⟨.call (some 15) n_spec_l1Rd_next [(.t 14)], none, none⟩,
    ⟨.bin 16 .mul (.t 15) (.c (.int .i64 256)), none, none⟩,
    ⟨.mov 5 (.t 16), none, none⟩] [0,1,5,10000])
  (.seq (.reg [⟨.mov 17 (.t 5), none, none⟩,
    ⟨.mov 18 (.t 0), none, none⟩,
    ⟨.call (some 19) n_spec_l1Rd_next [(.t 18)], none, none⟩,
    ⟨.bin 20 .add (.t 17) (.t 19), none, none⟩,
    ⟨.mov 5 (.t 20), none, none⟩] [1,5,10000])
  (.seq (.reg [⟨.mov 21 (.t 5), none, none⟩,
    ⟨.mov 22 (.t 1), none, none⟩,
    ⟨.bin 23 .rem (.t 21) (.t 22), none, none⟩,
    ⟨.mov 4 (.t 23), none, none⟩] [4,10000])
  (.ret))))))
def f_spec_l1Rd_below : Fn := ⟨[.mut 2, .ro 0], true, true, [.t 4], c_spec_l1Rd_below⟩
/-! spec_l1Rd_off -/
def c_spec_l1Rd_off : VC := .seq (.reg [⟨.mov 6 (.c (.int .i64 0)), none, none⟩] [0,1,2,10000])
  (.seq (.seq (.reg [⟨.mov 7 (.t 0), none, none⟩,
    ⟨.call (some 8) n_spec_l1Rd_once [(.t 7), (.c (.int .i64 24))], none, none⟩] [0,1,2,8,10000])
  (.cond (.t 8)
  (.seq (.reg [⟨.mov 9 (.t 1), none, none⟩,
    ⟨.bin 10 .sub (.t 9) (.c (.int .i64 1)), none, none⟩,
    ⟨.mov 11 (.t 2), none, none⟩,
    ⟨.bin 12 .add (.t 11) (.c (.int .i64 1)), none, none⟩,
    ⟨.bsl 13 t_i64 1 [.v (.int .i64 0)] 4 [(0, (.t 10)), (1, (.t 12)), (2, (.c (.int .i64 (-9223372036854775808)))), (3, (.c (.int .i64 9223372036854775807)))], none, none⟩,
    ⟨.mov 14 (.t 0), none, none⟩,
    ⟨.call (some 15) n_spec_l1Rd_below [(.t 14), (.c (.int .i64 4))], none, none⟩,
    ⟨.iad 16 t_i64 1 (.t 13) (.t 15), none, none⟩,
    ⟨.load 17 none (.t 16), none, none⟩,
    ⟨.mov 6 (.t 17), none, none⟩] [6,10000])
  (.ret))
  (.skip)))
  (.seq (.reg [⟨.mov 18 (.t 0), none, none⟩,
    ⟨.mov 19 (.t 1), none, none⟩,
    ⟨.mov 20 (.t 2), none, none⟩,
    ⟨.call (some 21) n_spec_l1Rd_near [(.t 18), (.t 19), (.t 20)], none, none⟩,
    ⟨.mov 6 (.t 21), none, none⟩] [6,10000])
  (.ret)))
def f_spec_l1Rd_off : Fn := ⟨[.mut 2, .ro 0, .ro 0], true, true, [.t 6], c_spec_l1Rd_off⟩
/-! spec_l1Rd_once -/
def c_spec_l1Rd_once : VC := .seq (.reg [⟨.mov 4 (.c (.bool false)), none, none⟩] [0,1,10000])
  (.seq (.reg [⟨.mov 5 (.t 0), none, none⟩,
    ⟨.mov 6 (.t 1), none, none⟩,
    ⟨.call (some 7) n_spec_l1Rd_below [(.t 5), (.t 6)], none, none⟩,
    ⟨.mov 8 (.t 1), none, none⟩,
    ⟨.bin 9 .sub (.t 8) (.c (.int .i64 1)), none, none⟩,
    ⟨.bin 10 .eql (.t 7) (.t 9), none, none⟩,
    ⟨.mov 4 (.t 10), none, none⟩] [4,10000])
  (.ret))
def f_spec_l1Rd_once : Fn := ⟨[.mut 2, .ro 0], true, true, [.t 4], c_spec_l1Rd_once⟩
/-! spec_l1In -/
def c_spec_l1In : VC := .seq (.reg [⟨.mov 6 (.c (.bool false)), none, none⟩] [0,1,2])
  (.seq (.reg [⟨.mov 7 (.t 0), none, none⟩,
    ⟨.mov 8 (.t 1), none, none⟩,
    ⟨.bin 9 .geq (.t 7) (.t 8), none, none⟩,
    ⟨.mov 10 (.t 9), none, none⟩,
    ⟨.mov 11 (.t 0), some (10, true), (some 11)⟩,
    ⟨.mov 12 (.t 2), some (10, true), (some 12)⟩,
    ⟨.bin 13 .leq (.t 11) (.t 12), some (10, true), (some 13)⟩,
    ⟨.pick 14 (.t 10) (.t 13) (.c (.bool false)), none, none⟩,
    ⟨.mov 6 (.t 14), none, none⟩] [6])
  (.ret))
def f_spec_l1In : Fn := ⟨[.ro 0, .ro 0, .ro 0], false, true, [.t 6], c_spec_l1In⟩
/-! laws_toAnswer -/
def c_laws_toAnswer : VC := .seq (.reg [⟨.box 1 (.t 0), none, none⟩,
    ⟨.alloc 2 [.v (.int .i64 0), .v (.int .i64 0)], none, none⟩] [1,2])
  (.seq (.reg [⟨.alloc 3 [.v (.int .i64 0), .v (.int .i64 0)], none, none⟩] [1,2,3])
  (.seq (.reg [⟨.fad 4 (.t 1) 0, none, none⟩,
    ⟨.load 5 none (.t 4), none, none⟩,
    ⟨.fad 6 (.t 3) 0, none, none⟩,
    ⟨.store 1 (.t 6) (.t 5), none, none⟩] [1,2,3])
  (.seq (.reg [⟨.fad 7 (.t 1) 1, none, none⟩,
    ⟨.load 8 none (.t 7), none, none⟩,
    ⟨.fad 9 (.t 3) 1, none, none⟩,
    ⟨.store 1 (.t 9) (.t 8), none, none⟩] [2,3])
  (.seq (.reg [⟨.load 10 (some 2) (.t 3), none, none⟩,
    ⟨.store 2 (.t 2) (.t 10), none, none⟩] [2])
  (.ret)))))
def f_laws_toAnswer : Fn := ⟨[.ro 0], false, true, [.cell 2 (some 2)], c_laws_toAnswer⟩
/-! laws_eqAnswer -/
def c_laws_eqAnswer : VC := .seq (.reg [⟨.box 2 (.t 0), none, none⟩,
    ⟨.box 3 (.t 1), none, none⟩,
    ⟨.mov 4 (.c (.bool false)), none, none⟩] [2,3])
  (.seq (.seq (.reg [⟨.fad 5 (.t 2) 0, none, none⟩,
    ⟨.load 6 none (.t 5), none, none⟩,
    ⟨.fad 7 (.t 3) 0, none, none⟩,
    ⟨.load 8 none (.t 7), none, none⟩,
    ⟨.bin 9 .neq (.t 6) (.t 8), none, none⟩] [2,3,9])
  (.cond (.t 9)
  (.seq (.reg [⟨.mov 4 (.c (.bool false)), none, none⟩] [4])
  (.ret))
  (.skip)))
  (.seq (.seq (.reg [⟨.fad 10 (.t 2) 1, none, none⟩,
    ⟨.load 11 none (.t 10), none, none⟩,
    ⟨.fad 12 (.t 3) 1, none, none⟩,
    ⟨.load 13 none (.t 12), none, none⟩,
    ⟨.bin 14 .neq (.t 11) (.t 13), none, none⟩] [14])
  (.cond (.t 14)
  (.seq (.reg [⟨.mov 4 (.c (.bool false)), none, none⟩] [4])
  (.ret))
  (.skip)))
  (.seq (.reg [⟨.mov 4 (.c (.bool true)), none, none⟩] [4])
  (.ret))))
def f_laws_eqAnswer : Fn := ⟨[.ro 0, .ro 0], false, true, [.t 4], c_laws_eqAnswer⟩
/-! laws_szAct -/
def c_laws_szAct : VC := .seq (.reg [⟨.box 2 (.t 0), none, none⟩,
    ⟨.mov 4 (.c (.int .i64 0)), none, none⟩] [1,2])
  (.seq (.reg [⟨.fad 5 (.t 2) 5, none, none⟩,
    ⟨.load 6 none (.t 5), none, none⟩,
    ⟨.mov 7 (.t 1), none, none⟩,
    ⟨.call (some 8) n_laws_szInt64S [(.t 6), (.t 7)], none, none⟩,
    ⟨.mov 1 (.t 8), none, none⟩] [1])
  (.seq (.seq (.reg [⟨.mov 9 (.t 1), none, none⟩,
    ⟨.bin 10 .lss (.t 9) (.c (.int .i64 0)), none, none⟩] [1,10])
  (.cond (.t 10)
  (.seq (.reg [⟨.mov 4 (.c (.int .i64 (-1))), none, none⟩] [4])
  (.ret))
  (.skip)))
  (.seq (.reg [⟨.mov 11 (.t 1), none, none⟩,
    ⟨.mov 4 (.t 11), none, none⟩] [4])
  (.ret))))
def f_laws_szAct : Fn := ⟨[.ro 0, .ro 0], false, true, [.t 4], c_laws_szAct⟩
/-! spec_l15Quiet -/
def c_spec_l15Quiet : VC := .seq (.reg [⟨.mov 2 (.c (.bool false)), none, none⟩] [0])
  (.seq (.reg [⟨.mov 3 (.t 0), none, none⟩,
    ⟨.call (some 4) n_spec_l1In [(.t 3), (.c (.int .i64 15)), (.c (.int .i64 17))], none, none⟩,
    ⟨.mov 2 (.t 4), none, none⟩] [2])
  (.ret))
def f_spec_l15Quiet : Fn := ⟨[.ro 0], false, true, [.t 2], c_spec_l15Quiet⟩
/-! spec_l15Copy -/
def c_spec_l15Copy : VC := .seq (.reg [⟨.box 1 (.t 0), none, none⟩,
    ⟨.alloc 2 [.v (.int .i64 0), .v (.int .i64 0), .v (.int .i64 0), .v (.int .i64 0), .v (.int .i64 0), .nl t_i64], none, none⟩] [1,2])
  (.seq (.reg [⟨.bsl 3 t_i64 1 [.v (.int .i64 0)] 0 [], none, none⟩,
    ⟨.fad 4 (.t 1) 5, none, none⟩,
    ⟨.load 5 none (.t 4), none, none⟩,
    ⟨.app 6 t_i64 8 false (.t 3) (.t 5), none, none⟩,
    ⟨.fad 7 (.t 1) 5, none, none⟩,
    ⟨.store 1 (.t 7) (.t 6), none, none⟩] [1,2])
  (.seq (.reg [⟨.load 8 (some 6) (.t 1), none, none⟩,
    ⟨.store 6 (.t 2) (.t 8), none, none⟩] [2])
  (.ret)))
def f_spec_l15Copy : Fn := ⟨[.ro 0], false, false, [.cell 2 (some 6)], c_spec_l15Copy⟩
/-! laws_toAct -/
def c_laws_toAct : VC := .seq (.reg [⟨.box 1 (.t 0), none, none⟩,
    ⟨.alloc 2 [.v (.int .i64 0), .v (.int .i64 0), .v (.int .i64 0), .v (.int .i64 0), .v (.int .i64 0), .nl t_i64], none, none⟩] [1,2])
  (.seq (.reg [⟨.alloc 3 [.v (.int .i64 0), .v (.int .i64 0), .v (.int .i64 0), .v (.int .i64 0), .v (.int .i64 0), .nl t_i64], none, none⟩] [1,2,3])
  (.seq (.reg [⟨.fad 4 (.t 1) 0, none, none⟩,
    ⟨.load 5 none (.t 4), none, none⟩,
    ⟨.fad 6 (.t 3) 0, none, none⟩,
    ⟨.store 1 (.t 6) (.t 5), none, none⟩] [1,2,3])
  (.seq (.reg [⟨.fad 7 (.t 1) 1, none, none⟩,
    ⟨.load 8 none (.t 7), none, none⟩,
    ⟨.fad 9 (.t 3) 1, none, none⟩,
    ⟨.store 1 (.t 9) (.t 8), none, none⟩] [1,2,3])
  (.seq (.reg [⟨.fad 10 (.t 1) 2, none, none⟩,
    ⟨.load 11 none (.t 10), none, none⟩,
    ⟨.fad 12 (.t 3) 2, none, none⟩,
    ⟨.store 1 (.t 12) (.t 11), none, none⟩] [1,2,3])
  (.seq (.reg [⟨.fad 13 (.t 1) 3, none, none⟩,
    ⟨.load 14 none (.t 13), none, none⟩,
    ⟨.fad 15 (.t 3) 3, none, none⟩,
    ⟨.store 1 (.t 15) (.t 14), none, none⟩] [1,2,3])
  (.seq (.reg [⟨.fad 16 (.t 1) 4, none, none⟩,
    ⟨.load 17 none (.t 16), none, none⟩,
    ⟨.fad 18 (.t 3) 4, none, none⟩,
    ⟨.store 1 (.t 18) (.t 17), none, none⟩] [1,2,3])
  (.seq (.reg [⟨.fad 19 (.t 1) 5, none, none⟩,
    ⟨.load 20 none (.t 19), none, none⟩,
    ⟨.call (some 21) n_laws_toInt64S [(.t 20)], none, none⟩,
    ⟨.fad 22 (.t 3) 5, none, none⟩,
    ⟨.store 1 (.t 22) (.t 21), none, none⟩] [2,3])
  (.seq (.reg [⟨.load 23 (some 6) (.t 3), none, none⟩,
    ⟨.store 6 (.t 2) (.t 23), none, none⟩] [2])
  (.ret)))))))))
def f_laws_toAct : Fn := ⟨[.ro 0], false, false, [.cell 2 (some 6)], c_laws_toAct⟩
/-! impl_isExtra -/
def c_impl_isExtra : VC := .seq (.reg [⟨.mov 2 (.c (.bool false)), none, none⟩] [0])
  (.seq (.reg [⟨.mov 3 (.t 0), none, none⟩,
    ⟨.bin 4 .eql (.t 3) (.c (.int .i64 15)), none, none⟩,
    ⟨.mov 5 (.t 4), none, none⟩,
    ⟨.mov 6 (.t 0), some (5, false), (some 6)⟩,
    ⟨.bin 7 .eql (.t 6) (.c (.int .i64 16)), some (5, false), (some 7)⟩,
    ⟨.pick 8 (.t 5) (.c (.bool true)) (.t 7), none, none⟩,
    ⟨.mov 9 (.t 8), none, none⟩,
    ⟨.mov 10 (.t 0), some (9, false), (some 10)⟩,
    ⟨.bin 11 .eql (.t 10) (.c (.int .i64 17)), some (9, false), (some 11)⟩,
    ⟨.pick 12 (.t 9) (.c (.bool true)) (.t 11), none, none⟩,
    ⟨.mov 2 (.t 12), none, none⟩] [2])
  (.ret))
def f_impl_isExtra : Fn := ⟨[.ro 0], false, true, [.t 2], c_impl_isExtra⟩
/-! impl_ownAct -/
def c_impl_ownAct : VC := .seq (.reg [⟨.box 1 (.t 0), none, none⟩,
    ⟨.alloc 2 [.v (.int .i64 0), .v (.int .i64 0), .v (.int .i64 0), .v (.int .i64 0), .v (.int .i64 0), .nl t_i64], none, none⟩] [1,2])
  (.seq (.reg [⟨.fad 3 (.t 1) 5, none, none⟩,
    ⟨.load 4 none (.t 3), none, none⟩,
    ⟨.call (some 5) n_slices_Clone_int64_int64 [(.t 4)], none, none⟩,
    ⟨.fad 6 (.t 1) 5, none, none⟩,
    ⟨.store 1 (.t 6) (.t 5), none, none⟩] [1,2])
  (.seq (.reg [⟨.load 7 (some 6) (.t 1), none, none⟩,
    ⟨.store 6 (.t 2) (.t 7), none, none⟩] [2])
  (.ret)))
def f_impl_ownAct : Fn := ⟨[.ro 0], false, false, [.cell 2 (some 6)], c_impl_ownAct⟩
/-! laws_eqAct -/
def c_laws_eqAct : VC := .seq (.reg [⟨.box 2 (.t 0), none, none⟩,
    ⟨.box 3 (.t 1), none, none⟩,
    ⟨.mov 4 (.c (.bool false)), none, none⟩] [2,3])
  (.seq (.seq (.reg [⟨.fad 5 (.t 2) 0, none, none⟩,
    ⟨.load 6 none (.t 5), none, none⟩,
    ⟨.fad 7 (.t 3) 0, none, none⟩,
    ⟨.load 8 none (.t 7), none, none⟩,
    ⟨.bin 9 .neq (.t 6) (.t 8), none, none⟩] [2,3,9])
  (.cond (.t 9)
  (.seq (.reg [⟨.mov 4 (.c (.bool false)), none, none⟩] [4])
  (.ret))
  (.skip)))
  (.seq (.seq (.reg [⟨.fad 10 (.t 2) 1, none, none⟩,
    ⟨.load 11 none (.t 10), none, none⟩,
    ⟨.fad 12 (.t 3) 1, none, none⟩,
    ⟨.load 13 none (.t 12), none, none⟩,
    ⟨.bin 14 .neq (.t 11) (.t 13), none, none⟩] [2,3,14])
  (.cond (.t 14)
  (.seq (.reg [⟨.mov 4 (.c (.bool false)), none, none⟩] [4])
  (.ret))
  (.skip)))
  (.seq (.seq (.reg [⟨.fad 15 (.t 2) 2, none, none⟩,
    ⟨.load 16 none (.t 15), none, none⟩,
    ⟨.fad 17 (.t 3) 2, none, none⟩,
    ⟨.load 18 none (.t 17), none, none⟩,
    ⟨.bin 19 .neq (.t 16) (.t 18), none, none⟩] [2,3,19])
  (.cond (.t 19)
  (.seq (.reg [⟨.mov 4 (.c (.bool false)), none, none⟩] [4])
  (.ret))
  (.skip)))
  (.seq (.seq (.reg [⟨.fad 20 (.t 2) 3, none, none⟩,
    ⟨.load 21 none (.t 20), none, none⟩,
    ⟨.fad 22 (.t 3) 3, none, none⟩,
    ⟨.load 23 none (.t 22), none, none⟩,
    ⟨.bin 24 .neq (.t 21) (.t 23), none, none⟩] [2,3,24])
  (.cond (.t 24)
  (.seq (.reg [⟨.mov 4 (.c (.bool false)), none, none⟩] [4])
  (.ret))
  (.skip)))
  (.seq (.seq (.reg [⟨.fad 25 (.t 2) 4, none, none⟩,
    ⟨.load 26 none (.t 25), none, none⟩,
    ⟨.fad 27 (.t 3) 4, none, none⟩,
    ⟨.load 28 none (.t 27), none, none⟩,
    ⟨.bin 29 .neq (.t 26) (.t 28), none, none⟩] [2,3,29])
  (.cond (.t 29)
  (.seq (.reg [⟨.mov 4 (.c (.bool false)), none, none⟩] [4])
  (.ret))
  (.skip)))
  (.seq (.seq (.reg [⟨.fad 30 (.t 2) 5, none, none⟩,
    ⟨.load 31 none (.t 30), none, none⟩,
    ⟨.fad 32 (.t 3) 5, none, none⟩,
    ⟨.load 33 none (.t 32), none, none⟩,
    ⟨.call (some 34) n_laws_eqInt64S [(.t 31), (.t 33)], none, none⟩,
    ⟨.un 35 .not (.t 34), none, none⟩] [35])
  (.cond (.t 35)
  (.seq (.reg [⟨.mov 4 (.c (.bool false)), none, none⟩] [4])
  (.ret))
  (.skip)))
  (.seq (.reg [⟨.mov 4 (.c (.bool true)), none, none⟩] [4])
  (.ret))))))))
def f_laws_eqAct : Fn := ⟨[.ro 0, .ro 0], false, true, [.t 4], c_laws_eqAct⟩
/-! laws_toStrew -/
def c_laws_toStrew : VC := .seq (.reg [⟨.box 1 (.t 0), none, none⟩,
    ⟨.alloc 2 [.v (.int .i64 0), .v (.int .i64 0), .v (.int .i64 0)], none, none⟩] [1,2])
  (.seq (.reg [⟨.alloc 3 [.v (.int .i64 0), .v (.int .i64 0), .v (.int .i64 0)], none, none⟩] [1,2,3])
  (.seq (.reg [⟨.fad 4 (.t 1) 0, none, none⟩,
    ⟨.load 5 none (.t 4), none, none⟩,
    ⟨.fad 6 (.t 3) 0, none, none⟩,
    ⟨.store 1 (.t 6) (.t 5), none, none⟩] [1,2,3])
  (.seq (.reg [⟨.fad 7 (.t 1) 1, none, none⟩,
    ⟨.load 8 none (.t 7), none, none⟩,
    ⟨.fad 9 (.t 3) 1, none, none⟩,
    ⟨.store 1 (.t 9) (.t 8), none, none⟩] [1,2,3])
  (.seq (.reg [⟨.fad 10 (.t 1) 2, none, none⟩,
    ⟨.load 11 none (.t 10), none, none⟩,
    ⟨.fad 12 (.t 3) 2, none, none⟩,
    ⟨.store 1 (.t 12) (.t 11), none, none⟩] [2,3])
  (.seq (.reg [⟨.load 13 (some 3) (.t 3), none, none⟩,
    ⟨.store 3 (.t 2) (.t 13), none, none⟩] [2])
  (.ret))))))
def f_laws_toStrew : Fn := ⟨[.ro 0], false, true, [.cell 2 (some 3)], c_laws_toStrew⟩
/-! impl_within -/
def c_impl_within : VC := .seq (.reg [⟨.mov 6 (.c (.bool false)), none, none⟩] [0,1,2])
  (.seq (.reg [⟨.mov 7 (.t 0), none, none⟩,
    ⟨.mov 8 (.t 1), none, none⟩,
    ⟨.bin 9 .geq (.t 7) (.t 8), none, none⟩,
    ⟨.mov 10 (.t 9), none, none⟩,
    ⟨.mov 11 (.t 0), some (10, true), (some 11)⟩,
    ⟨.mov 12 (.t 2), some (10, true), (some 12)⟩,
    ⟨.bin 13 .leq (.t 11) (.t 12), some (10, true), (some 13)⟩,
    ⟨.pick 14 (.t 10) (.t 13) (.c (.bool false)), none, none⟩,
    ⟨.mov 6 (.t 14), none, none⟩] [6])
  (.ret))
def f_impl_within : Fn := ⟨[.ro 0, .ro 0, .ro 0], false, true, [.t 6], c_impl_within⟩
/-! impl_size_impl_Act -/
def c_impl_size_impl_Act : VC := .seq (.reg [⟨.mov 2 (.c (.int .i64 0)), none, none⟩] [0])
  (.seq (.reg [⟨.mov 3 (.t 0), none, none⟩,
    ⟨.len 4 (.t 3), none, none⟩,
    ⟨.mov 2 (.t 4), none, none⟩] [2])
  (.ret))
def f_impl_size_impl_Act : Fn := ⟨[.ro 0], false, true, [.t 2], c_impl_size_impl_Act⟩
/-! laws_eqStrew -/
def c_laws_eqStrew : VC := .seq (.reg [⟨.box 2 (.t 0), none, none⟩,
    ⟨.box 3 (.t 1), none, none⟩,
    ⟨.mov 4 (.c (.bool false)), none, none⟩] [2,3])
  (.seq (.seq (.reg [⟨.fad 5 (.t 2) 0, none, none⟩,
    ⟨.load 6 none (.t 5), none, none⟩,
    ⟨.fad 7 (.t 3) 0, none, none⟩,
    ⟨.load 8 none (.t 7), none, none⟩,
    ⟨.bin 9 .neq (.t 6) (.t 8), none, none⟩] [2,3,9])
  (.cond (.t 9)
  (.seq (.reg [⟨.mov 4 (.c (.bool false)), none, none⟩] [4])
  (.ret))
  (.skip)))
  (.seq (.seq (.reg [⟨.fad 10 (.t 2) 1, none, none⟩,
    ⟨.load 11 none (.t 10), none, none⟩,
    ⟨.fad 12 (.t 3) 1, none, none⟩,
    ⟨.load 13 none (.t 12), none, none⟩,
    ⟨.bin 14 .neq (.t 11) (.t 13), none, none⟩] [2,3,14])
  (.cond (.t 14)
  (.seq (.reg [⟨.mov 4 (.c (.bool false)), none, none⟩] [4])
  (.ret))
  (.skip)))
  (.seq (.seq (.reg [⟨.fad 15 (.t 2) 2, none, none⟩,
    ⟨.load 16 none (.t 15), none, none⟩,
    ⟨.fad 17 (.t 3) 2, none, none⟩,
    ⟨.load 18 none (.t 17), none, none⟩,
    ⟨.bin 19 .neq (.t 16) (.t 18), none, none⟩] [19])
  (.cond (.t 19)
  (.seq (.reg [⟨.mov 4 (.c (.bool false)), none, none⟩] [4])
  (.ret))
  (.skip)))
  (.seq (.reg [⟨.mov 4 (.c (.bool true)), none, none⟩] [4])
  (.ret)))))
def f_laws_eqStrew : Fn := ⟨[.ro 0, .ro 0], false, true, [.t 4], c_laws_eqStrew⟩
/-! spec_l1Rd_next -/
def c_spec_l1Rd_next : VC := .seq (.reg [⟨.mov 2 (.c (.int .i64 0)), none, none⟩] [0,10000])
  (.seq (.seq (.reg [⟨.mov 3 (.t 0), none, none⟩,
    ⟨.nilck 4 (.t 3), none, none⟩,
    ⟨.fad 5 (.t 4) 1, none, none⟩,
    ⟨.load 6 none (.t 5), none, none⟩,
    ⟨.mov 7 (.t 0), none, none⟩,
    ⟨.nilck 8 (.t 7), none, none⟩,
    ⟨.fad 9 (.t 8) 0, none, none⟩,
    ⟨.load 10 none (.t 9), none, none⟩,
    ⟨.len 11 (.t 10), none, none⟩,
    ⟨.bin 12 .geq (.t 6) (.t 11), none, none⟩] [0,12,10000])
  (.cond (.t 12)
  (.seq (.reg [⟨.mov 2 (.c (.int .i64 0)), none, none⟩] [2,10000])
  (.ret))
  (.skip)))
  (.seq (.reg [⟨.mov 13 (.t 0), none, none⟩,
    ⟨.nilck 14 (.t 13), none, none⟩,
    ⟨.fad 15 (.t 14) 1, none, none⟩,
    ⟨.load 16 none (.t 15), none, none⟩,
    ⟨.bin 17 .add (.t 16) (.c (.int .i64 1)), none, none⟩,
    ⟨.nilck 18 (.t 13), none, none⟩,
    ⟨.fad 19 (.t 18) 1, none, none⟩,
    ⟨.store 1 (.t 19) (.t 17), none, none⟩] [0,10000])
  (.seq (.reg [⟨.mov 20 (.t 0), none, none⟩,
    ⟨.nilck 21 (.t 20), none, none⟩,
    ⟨.fad 22 (.t 21) 0, none, none⟩,
    ⟨.load 23 none (.t 22), none, none⟩,
    ⟨.mov 24 (.t 0), none, none⟩,
    ⟨.nilck 25 (.t 24), none, none⟩,
    ⟨.fad 26 (.t 25) 1, none, none⟩,
    ⟨.load 27 none (.t 26), none, none⟩,
    ⟨.bin 28 .sub (.t 27) (.c (.int .i64 1)), none, none⟩,
    ⟨.iad 29 t_u8 1 (.t 23) (.t 28), none, none⟩,
    ⟨.load 30 none (.t 29), none, none⟩,
    ⟨.cvi 31 .i64 (.t 30), none, none⟩,
    ⟨.mov 2 (.t 31), none, none⟩] [2,10000])
  (.ret))))
def f_spec_l1Rd_next : Fn := ⟨[.mut 2], true, true, [.t 2], c_spec_l1Rd_next⟩
/-! spec_l1Rd_near -/
def c_spec_l1Rd_near : VC := .seq (.reg [⟨.mov 6 (.c (.int .i64 0)), none, none⟩] [0,1,2,10000])
  (.seq (.seq (.reg [⟨.mov 7 (.t 0), none, none⟩,
    ⟨.call (some 8) n_spec_l1Rd_below [(.t 7), (.c (.int .i64 8))], none, none⟩] [0,1,2,8,10000])
  (.block 0 (.seq (.reg [⟨.bin 10 .eql (.t 8) (.c (.int .i64 0)), none, none⟩,
    ⟨.mov 9 (.t 10), none, none⟩] [0,1,2,8,9,10000])
  (.cond (.t 9)
  (.seq (.reg [⟨.mov 11 (.t 1), none, none⟩,
    ⟨.mov 6 (.t 11), none, none⟩] [6,10000])
  (.ret))
  (.seq (.reg [⟨.bin 13 .eql (.t 8) (.c (.int .i64 1)), none, none⟩,
    ⟨.mov 12 (.t 13), none, none⟩] [0,1,2,12,10000])
  (.cond (.t 12)
  (.seq (.reg [⟨.mov 14 (.t 2), none, none⟩,
    ⟨.mov 6 (.t 14), none, none⟩] [6,10000])
  (.ret))
  (.skip)))))))
  (.seq (.seq (.reg [⟨.mov 15 (.t 2), none, none⟩,
    ⟨.mov 16 (.t 1), none, none⟩,
    ⟨.bin 17 .lss (.t 15) (.t 16), none, none⟩] [0,1,2,17,10000])
  (.cond (.t 17)
  (.seq (.reg [⟨.mov 18 (.t 1), none, none⟩,
    ⟨.mov 6 (.t 18), none, none⟩] [6,10000])
  (.ret))
  (.skip)))
  (.seq (.reg [⟨.mov 19 (.t 1), none, none⟩,
    ⟨.mov 20 (.t 0), none, none⟩,
    ⟨.call (some 21) n_spec_l1Rd_word [(.t 20)], none, none⟩,
    ⟨.bin 22 .shr (.t 21) (.c (.int .u64 1)), none, none⟩,
    ⟨.mov 23 (.t 2), none, none⟩,
    ⟨.mov 24 (.t 1), none, none⟩,
    ⟨.bin 25 .sub (.t 23) (.t 24), none, none⟩,
    ⟨.bin 26 .add (.t 25) (.c (.int .i64 1)), none, none⟩,
    ⟨.cvi 27 .u64 (.t 26), none, none⟩,
    ⟨.bin 28 .rem (.t 22) (.t 27), none, none⟩,
    ⟨.cvi 29 .i64 (.t 28), none, none⟩,
    ⟨.bin 30 .add (.t 19) (.t 29), none, none⟩,
    ⟨.mov 6 (.t 30), none, none⟩] [6,10000])
  (.ret))))
def f_spec_l1Rd_near : Fn := ⟨[.mut 2, .ro 0, .ro 0], true, true, [.t 6], c_spec_l1Rd_near⟩
/-! laws_szInt64S -/
def c_laws_szInt64S : VC := .seq (.reg [⟨.mov 4 (.c (.int .i64 0)), none, none⟩] [0,1])
  (.seq (.reg [⟨.mov 5 (.t 1), none, none⟩,
    ⟨.mov 6 (.t 0), none, none⟩,
    ⟨.len 7 (.t 6), none, none⟩,
    ⟨.bin 8 .sub (.t 5) (.t 7), none, none⟩,
    ⟨.mov 1 (.t 8), none, none⟩] [1])
  (.seq (.seq (.reg [⟨.mov 9 (.t 1), none, none⟩,
    ⟨.bin 10 .lss (.t 9) (.c (.int .i64 0)), none, none⟩] [1,10])
  (.cond (.t 10)
  (.seq (.reg [⟨.mov 4 (.c (.int .i64 (-1))), none, none⟩] [4])
  (.ret))
  (.skip)))
  (.seq (.reg [⟨.mov 11 (.t 1), none, none⟩,
    ⟨.mov 4 (.t 11), none, none⟩] [4])
  (.ret))))
def f_laws_szInt64S : Fn := ⟨[.ro 0, .ro 0], false, true, [.t 4], c_laws_szInt64S⟩
/-! laws_toInt64S -/
def c_laws_toInt64S_L0 : VC := .seq (.seq (.reg [⟨.mov 8 (.t 4), none, none⟩,
    ⟨.mov 9 (.t 0), none, none⟩,
    ⟨.len 10 (.t 9), none, none⟩,
    ⟨.bin 11 .lss (.t 8) (.t 10), none, none⟩] [0,3,4,11])
  (.cond (.t 11)
  (.skip)
  (.exit 0)))
  (.seq (.block 1 (.reg [⟨.mov 14 (.t 3), none, none⟩,
    ⟨.mov 15 (.t 4), none, none⟩,
    ⟨.mov 16 (.t 0), none, none⟩,
    ⟨.mov 17 (.t 4), none, none⟩,
    ⟨.iad 18 t_i64 1 (.t 16) (.t 17), none, none⟩,
    ⟨.load 19 none (.t 18), none, none⟩,
    ⟨.iad 20 t_i64 1 (.t 14) (.t 15), none, none⟩,
    ⟨.store 1 (.t 20) (.t 19), none, none⟩] [0,3,4]))
  (.reg [⟨.mov 12 (.t 4), none, none⟩,
    ⟨.bin 13 .add (.t 12) (.c (.int .i64 1)), none, none⟩,
    ⟨.mov 4 (.t 13), none, none⟩] [0,3,4]))
def c_laws_toInt64S : VC := .seq (.reg [⟨.mov 2 (.nl t_i64), none, none⟩] [0])
  (.seq (.reg [⟨.mov 5 (.t 0), none, none⟩,
    ⟨.len 6 (.t 5), none, none⟩,
    ⟨.mks 7 t_i64 8 [.v (.int .i64 0)] (.t 6), none, none⟩,
    ⟨.mov 3 (.t 7), none, none⟩] [0,3])
  (.seq (.seq (.reg [⟨.mov 4 (.c (.int .i64 0)), none, none⟩] [0,3,4])
  (.block 0 (.loop [0,3,4] c_laws_toInt64S_L0)))
  (.seq (.reg [⟨.mov 21 (.t 3), none, none⟩,
    ⟨.mov 2 (.t 21), none, none⟩] [2])
  (.ret))))
def f_laws_toInt64S : Fn := ⟨[.ro 0], false, false, [.t 2], c_laws_toInt64S⟩
/-! spec_l1Rd_word -/
def c_spec_l1Rd_word_L0 : VC := .seq (.seq (.reg [⟨.mov 5 (.t 4), none, none⟩,
    ⟨.bin 6 .lss (.t 5) (.c (.int .i64 8)), none, none⟩] [0,3,4,6,10000])
  (.cond (.t 6)
  (.skip)
  (.exit 0)))
  (.seq (.block 1 (.reg [⟨.mov 9 (.t 3), none, none⟩,
    ⟨.bin 10 .shl (.t 9) (.c (.int .u64 8)), none, none⟩,
    ⟨.mov 11 (.t 0), none, none⟩,
    ⟨.call (some 12) n_spec_l1Rd_next [(.t 11)], none, none⟩,
    ⟨.cvi 13 .u64 (.t 12), none, none⟩,
    ⟨.bin 14 .or (.t 10) (.t 13), none, none⟩,
    ⟨.mov 3 (.t 14), none, none⟩] [0,3,4,10000]))
  (.reg [⟨.mov 7 (.t 4), none, none⟩,
    ⟨.bin 8 .add (.t 7) (.c (.int .i64 1)), none, none⟩,
    ⟨.mov 4 (.t 8), none, none⟩] [0,3,4,10000]))
def c_spec_l1Rd_word : VC := .seq (.reg [⟨.mov 2 (.c (.int .u64 0)), none, none⟩] [0,10000])
  (.seq (.reg [⟨.mov 3 (.c (.int .u64 0)), none, none⟩] [0,3,10000])
  (.seq (.seq (.reg [⟨.mov 4 (.c (.int .i64 0)), none, none⟩] [0,3,4,10000])
  (.block 0 (.loop [0,3,4,10000] c_spec_l1Rd_word_L0)))
  (.seq (.reg [⟨.mov 15 (.t 3), none, none⟩,
    ⟨.mov 2 (.t 15), none, none⟩] [2,10000])
  (.ret))))
def f_spec_l1Rd_word : Fn := ⟨[.mut 2], true, true, [.t 2], c_spec_l1Rd_word⟩
def tabL : List (Nat × Fn) := [(n_laws_FnDenies, f_laws_FnDenies),
  (n_laws_FnExactDenyOf, f_laws_FnExactDenyOf),
  (n_laws_FnExactStripped, f_laws_FnExactStripped),
  (n_laws_FnExactGathered, f_laws_FnExactGathered),
  (n_laws_FnExactStrewn, f_laws_FnExactStrewn),
  (n_laws_big, f_laws_big),
  (n_spec_DrawDenyOf, f_spec_DrawDenyOf),
  (n_impl_DenyOf, f_impl_DenyOf),
  (n_laws_szAnswerS, f_laws_szAnswerS),
  (n_spec_DenyOf, f_spec_DenyOf),
  (n_laws_toAnswerS, f_laws_toAnswerS),
  (n_laws_eqInt64S, f_laws_eqInt64S),
  (n_laws_eqAnswerS, f_laws_eqAnswerS),
  (n_laws_markAnswerS, f_laws_markAnswerS),
  (n_laws_markInt64S, f_laws_markInt64S),
  (n_laws_heldInt64S, f_laws_heldInt64S),
  (n_laws_szActS, f_laws_szActS),
  (n_spec_Stripped, f_spec_Stripped),
  (n_laws_toActS, f_laws_toActS),
  (n_impl_Stripped, f_impl_Stripped),
  (n_laws_eqActS, f_laws_eqActS),
  (n_laws_markActS, f_laws_markActS),
  (n_laws_heldActS, f_laws_heldActS),
  (n_spec_Gathered, f_spec_Gathered),
  (n_impl_Gathered, f_impl_Gathered),
  (n_laws_heldAnswerS, f_laws_heldAnswerS),
  (n_laws_szStrewS, f_laws_szStrewS),
  (n_spec_Strewn, f_spec_Strewn),
  (n_laws_toStrewS, f_laws_toStrewS),
  (n_impl_Strewn, f_impl_Strewn),
  (n_laws_eqStrewS, f_laws_eqStrewS),
  (n_laws_markStrewS, f_laws_markStrewS),
  (n_spec_l1Open, f_spec_l1Open),
  (n_spec_l1Rd_below, f_spec_l1Rd_below),
  (n_spec_l1Rd_off, f_spec_l1Rd_off),
  (n_spec_l1Rd_once, f_spec_l1Rd_once),
  (n_spec_l1In, f_spec_l1In),
  (n_laws_toAnswer, f_laws_toAnswer),
  (n_laws_eqAnswer, f_laws_eqAnswer),
  (n_laws_szAct, f_laws_szAct),
  (n_spec_l15Quiet, f_spec_l15Quiet),
  (n_spec_l15Copy, f_spec_l15Copy),
  (n_laws_toAct, f_laws_toAct),
  (n_impl_isExtra, f_impl_isExtra),
  (n_impl_ownAct, f_impl_ownAct),
  (n_laws_eqAct, f_laws_eqAct),
  (n_laws_toStrew, f_laws_toStrew),
  (n_impl_within, f_impl_within),
  (n_impl_size_impl_Act, f_impl_size_impl_Act),
  (n_laws_eqStrew, f_laws_eqStrew),
  (n_spec_l1Rd_next, f_spec_l1Rd_next),
  (n_spec_l1Rd_near, f_spec_l1Rd_near),
  (n_laws_szInt64S, f_laws_szInt64S),
  (n_laws_toInt64S, f_laws_toInt64S),
  (n_spec_l1Rd_word, f_spec_l1Rd_word)]
def writesL : List Nat := [9,10,12,13,16,17,20,21,22,24,26,27,30,31,32,34,35,36,37,38,44,45,47,53,54,56,57,58]
def writes (g : Nat) : Bool := writesL.contains g
/-- The functions, calls to depth d. -/
def T (d : Nat) : Nat → Option Callee := tower tabL ext fuel d
theorem T_tab {d f : Nat} {v : Fn} (h : ext f = none) (ht : look tabL f = some v) : T (d + 1) f = some (calF (T d) fuel v) := tower_tab h ht
@[go_sem] theorem T_laws_FnDenies {d : Nat} : T (d + 1) n_laws_FnDenies = some ⟨[.ro 0], false, true, runFn (T d) fuel f_laws_FnDenies⟩ := T_tab (v := f_laws_FnDenies) rfl rfl
@[go_sem] theorem T_laws_FnExactDenyOf {d : Nat} : T (d + 1) n_laws_FnExactDenyOf = some ⟨[.ro 0], false, true, runFn (T d) fuel f_laws_FnExactDenyOf⟩ := T_tab (v := f_laws_FnExactDenyOf) rfl rfl
@[go_sem] theorem T_laws_FnExactStripped {d : Nat} : T (d + 1) n_laws_FnExactStripped = some ⟨[.ro 0], false, true, runFn (T d) fuel f_laws_FnExactStripped⟩ := T_tab (v := f_laws_FnExactStripped) rfl rfl
@[go_sem] theorem T_laws_FnExactGathered {d : Nat} : T (d + 1) n_laws_FnExactGathered = some ⟨[.ro 0, .ro 0], false, true, runFn (T d) fuel f_laws_FnExactGathered⟩ := T_tab (v := f_laws_FnExactGathered) rfl rfl
@[go_sem] theorem T_laws_FnExactStrewn {d : Nat} : T (d + 1) n_laws_FnExactStrewn = some ⟨[.ro 0, .ro 0], false, true, runFn (T d) fuel f_laws_FnExactStrewn⟩ := T_tab (v := f_laws_FnExactStrewn) rfl rfl
@[go_sem] theorem T_laws_big {d : Nat} : T (d + 1) n_laws_big = some ⟨[.ro 0], false, true, runFn (T d) fuel f_laws_big⟩ := T_tab (v := f_laws_big) rfl rfl
@[go_sem] theorem T_spec_DrawDenyOf {d : Nat} : T (d + 1) n_spec_DrawDenyOf = some ⟨[.ro 0], false, false, runFn (T d) fuel f_spec_DrawDenyOf⟩ := T_tab (v := f_spec_DrawDenyOf) rfl rfl
@[go_sem] theorem T_impl_DenyOf {d : Nat} : T (d + 1) n_impl_DenyOf = some ⟨[.ro 0], false, false, runFn (T d) fuel f_impl_DenyOf⟩ := T_tab (v := f_impl_DenyOf) rfl rfl
@[go_sem] theorem T_laws_szAnswerS {d : Nat} : T (d + 1) n_laws_szAnswerS = some ⟨[.ro 0, .ro 0], false, true, runFn (T d) fuel f_laws_szAnswerS⟩ := T_tab (v := f_laws_szAnswerS) rfl rfl
@[go_sem] theorem T_spec_DenyOf {d : Nat} : T (d + 1) n_spec_DenyOf = some ⟨[.ro 0], false, false, runFn (T d) fuel f_spec_DenyOf⟩ := T_tab (v := f_spec_DenyOf) rfl rfl
@[go_sem] theorem T_laws_toAnswerS {d : Nat} : T (d + 1) n_laws_toAnswerS = some ⟨[.ro 0], false, false, runFn (T d) fuel f_laws_toAnswerS⟩ := T_tab (v := f_laws_toAnswerS) rfl rfl
@[go_sem] theorem T_laws_eqInt64S {d : Nat} : T (d + 1) n_laws_eqInt64S = some ⟨[.ro 0, .ro 0], false, true, runFn (T d) fuel f_laws_eqInt64S⟩ := T_tab (v := f_laws_eqInt64S) rfl rfl
@[go_sem] theorem T_laws_eqAnswerS {d : Nat} : T (d + 1) n_laws_eqAnswerS = some ⟨[.ro 0, .ro 0], false, true, runFn (T d) fuel f_laws_eqAnswerS⟩ := T_tab (v := f_laws_eqAnswerS) rfl rfl
@[go_sem] theorem T_laws_markAnswerS {d : Nat} : T (d + 1) n_laws_markAnswerS = some ⟨[.mut 0, .ro 0], false, true, runFn (T d) fuel f_laws_markAnswerS⟩ := T_tab (v := f_laws_markAnswerS) rfl rfl
@[go_sem] theorem T_laws_markInt64S {d : Nat} : T (d + 1) n_laws_markInt64S = some ⟨[.mut 0, .ro 0], false, true, runFn (T d) fuel f_laws_markInt64S⟩ := T_tab (v := f_laws_markInt64S) rfl rfl
@[go_sem] theorem T_laws_heldInt64S {d : Nat} : T (d + 1) n_laws_heldInt64S = some ⟨[.ro 0, .ro 0], false, true, runFn (T d) fuel f_laws_heldInt64S⟩ := T_tab (v := f_laws_heldInt64S) rfl rfl
@[go_sem] theorem T_laws_szActS {d : Nat} : T (d + 1) n_laws_szActS = some ⟨[.ro 0, .ro 0], false, true, runFn (T d) fuel f_laws_szActS⟩ := T_tab (v := f_laws_szActS) rfl rfl
@[go_sem] theorem T_spec_Stripped {d : Nat} : T (d + 1) n_spec_Stripped = some ⟨[.ro 0], false, false, runFn (T d) fuel f_spec_Stripped⟩ := T_tab (v := f_spec_Stripped) rfl rfl
@[go_sem] theorem T_laws_toActS {d : Nat} : T (d + 1) n_laws_toActS = some ⟨[.ro 0], false, false, runFn (T d) fuel f_laws_toActS⟩ := T_tab (v := f_laws_toActS) rfl rfl
@[go_sem] theorem T_impl_Stripped {d : Nat} : T (d + 1) n_impl_Stripped = some ⟨[.ro 0], false, false, runFn (T d) fuel f_impl_Stripped⟩ := T_tab (v := f_impl_Stripped) rfl rfl
@[go_sem] theorem T_laws_eqActS {d : Nat} : T (d + 1) n_laws_eqActS = some ⟨[.ro 0, .ro 0], false, true, runFn (T d) fuel f_laws_eqActS⟩ := T_tab (v := f_laws_eqActS) rfl rfl
@[go_sem] theorem T_laws_markActS {d : Nat} : T (d + 1) n_laws_markActS = some ⟨[.mut 0, .ro 0], false, true, runFn (T d) fuel f_laws_markActS⟩ := T_tab (v := f_laws_markActS) rfl rfl
@[go_sem] theorem T_laws_heldActS {d : Nat} : T (d + 1) n_laws_heldActS = some ⟨[.ro 0, .ro 0], false, true, runFn (T d) fuel f_laws_heldActS⟩ := T_tab (v := f_laws_heldActS) rfl rfl
@[go_sem] theorem T_spec_Gathered {d : Nat} : T (d + 1) n_spec_Gathered = some ⟨[.ro 0, .ro 0], false, false, runFn (T d) fuel f_spec_Gathered⟩ := T_tab (v := f_spec_Gathered) rfl rfl
@[go_sem] theorem T_impl_Gathered {d : Nat} : T (d + 1) n_impl_Gathered = some ⟨[.ro 0, .ro 0], false, false, runFn (T d) fuel f_impl_Gathered⟩ := T_tab (v := f_impl_Gathered) rfl rfl
@[go_sem] theorem T_laws_heldAnswerS {d : Nat} : T (d + 1) n_laws_heldAnswerS = some ⟨[.ro 0, .ro 0], false, true, runFn (T d) fuel f_laws_heldAnswerS⟩ := T_tab (v := f_laws_heldAnswerS) rfl rfl
@[go_sem] theorem T_laws_szStrewS {d : Nat} : T (d + 1) n_laws_szStrewS = some ⟨[.ro 0, .ro 0], false, true, runFn (T d) fuel f_laws_szStrewS⟩ := T_tab (v := f_laws_szStrewS) rfl rfl
@[go_sem] theorem T_spec_Strewn {d : Nat} : T (d + 1) n_spec_Strewn = some ⟨[.ro 0, .ro 0], false, false, runFn (T d) fuel f_spec_Strewn⟩ := T_tab (v := f_spec_Strewn) rfl rfl
@[go_sem] theorem T_laws_toStrewS {d : Nat} : T (d + 1) n_laws_toStrewS = some ⟨[.ro 0], false, false, runFn (T d) fuel f_laws_toStrewS⟩ := T_tab (v := f_laws_toStrewS) rfl rfl
@[go_sem] theorem T_impl_Strewn {d : Nat} : T (d + 1) n_impl_Strewn = some ⟨[.ro 0, .ro 0], false, false, runFn (T d) fuel f_impl_Strewn⟩ := T_tab (v := f_impl_Strewn) rfl rfl
@[go_sem] theorem T_laws_eqStrewS {d : Nat} : T (d + 1) n_laws_eqStrewS = some ⟨[.ro 0, .ro 0], false, true, runFn (T d) fuel f_laws_eqStrewS⟩ := T_tab (v := f_laws_eqStrewS) rfl rfl
@[go_sem] theorem T_laws_markStrewS {d : Nat} : T (d + 1) n_laws_markStrewS = some ⟨[.mut 0, .ro 0], false, true, runFn (T d) fuel f_laws_markStrewS⟩ := T_tab (v := f_laws_markStrewS) rfl rfl
@[go_sem] theorem T_spec_l1Open {d : Nat} : T (d + 1) n_spec_l1Open = some ⟨[.ro 0], true, false, runFn (T d) fuel f_spec_l1Open⟩ := T_tab (v := f_spec_l1Open) rfl rfl
@[go_sem] theorem T_spec_l1Rd_below {d : Nat} : T (d + 1) n_spec_l1Rd_below = some ⟨[.mut 2, .ro 0], true, true, runFn (T d) fuel f_spec_l1Rd_below⟩ := T_tab (v := f_spec_l1Rd_below) rfl rfl
@[go_sem] theorem T_spec_l1Rd_off {d : Nat} : T (d + 1) n_spec_l1Rd_off = some ⟨[.mut 2, .ro 0, .ro 0], true, true, runFn (T d) fuel f_spec_l1Rd_off⟩ := T_tab (v := f_spec_l1Rd_off) rfl rfl
@[go_sem] theorem T_spec_l1Rd_once {d : Nat} : T (d + 1) n_spec_l1Rd_once = some ⟨[.mut 2, .ro 0], true, true, runFn (T d) fuel f_spec_l1Rd_once⟩ := T_tab (v := f_spec_l1Rd_once) rfl rfl
@[go_sem] theorem T_spec_l1In {d : Nat} : T (d + 1) n_spec_l1In = some ⟨[.ro 0, .ro 0, .ro 0], false, true, runFn (T d) fuel f_spec_l1In⟩ := T_tab (v := f_spec_l1In) rfl rfl
@[go_sem] theorem T_laws_toAnswer {d : Nat} : T (d + 1) n_laws_toAnswer = some ⟨[.ro 0], false, true, runFn (T d) fuel f_laws_toAnswer⟩ := T_tab (v := f_laws_toAnswer) rfl rfl
@[go_sem] theorem T_laws_eqAnswer {d : Nat} : T (d + 1) n_laws_eqAnswer = some ⟨[.ro 0, .ro 0], false, true, runFn (T d) fuel f_laws_eqAnswer⟩ := T_tab (v := f_laws_eqAnswer) rfl rfl
@[go_sem] theorem T_laws_szAct {d : Nat} : T (d + 1) n_laws_szAct = some ⟨[.ro 0, .ro 0], false, true, runFn (T d) fuel f_laws_szAct⟩ := T_tab (v := f_laws_szAct) rfl rfl
@[go_sem] theorem T_spec_l15Quiet {d : Nat} : T (d + 1) n_spec_l15Quiet = some ⟨[.ro 0], false, true, runFn (T d) fuel f_spec_l15Quiet⟩ := T_tab (v := f_spec_l15Quiet) rfl rfl
@[go_sem] theorem T_spec_l15Copy {d : Nat} : T (d + 1) n_spec_l15Copy = some ⟨[.ro 0], false, false, runFn (T d) fuel f_spec_l15Copy⟩ := T_tab (v := f_spec_l15Copy) rfl rfl
@[go_sem] theorem T_laws_toAct {d : Nat} : T (d + 1) n_laws_toAct = some ⟨[.ro 0], false, false, runFn (T d) fuel f_laws_toAct⟩ := T_tab (v := f_laws_toAct) rfl rfl
@[go_sem] theorem T_impl_isExtra {d : Nat} : T (d + 1) n_impl_isExtra = some ⟨[.ro 0], false, true, runFn (T d) fuel f_impl_isExtra⟩ := T_tab (v := f_impl_isExtra) rfl rfl
@[go_sem] theorem T_impl_ownAct {d : Nat} : T (d + 1) n_impl_ownAct = some ⟨[.ro 0], false, false, runFn (T d) fuel f_impl_ownAct⟩ := T_tab (v := f_impl_ownAct) rfl rfl
@[go_sem] theorem T_laws_eqAct {d : Nat} : T (d + 1) n_laws_eqAct = some ⟨[.ro 0, .ro 0], false, true, runFn (T d) fuel f_laws_eqAct⟩ := T_tab (v := f_laws_eqAct) rfl rfl
@[go_sem] theorem T_laws_toStrew {d : Nat} : T (d + 1) n_laws_toStrew = some ⟨[.ro 0], false, true, runFn (T d) fuel f_laws_toStrew⟩ := T_tab (v := f_laws_toStrew) rfl rfl
@[go_sem] theorem T_impl_within {d : Nat} : T (d + 1) n_impl_within = some ⟨[.ro 0, .ro 0, .ro 0], false, true, runFn (T d) fuel f_impl_within⟩ := T_tab (v := f_impl_within) rfl rfl
@[go_sem] theorem T_impl_size_impl_Act {d : Nat} : T (d + 1) n_impl_size_impl_Act = some ⟨[.ro 0], false, true, runFn (T d) fuel f_impl_size_impl_Act⟩ := T_tab (v := f_impl_size_impl_Act) rfl rfl
@[go_sem] theorem T_laws_eqStrew {d : Nat} : T (d + 1) n_laws_eqStrew = some ⟨[.ro 0, .ro 0], false, true, runFn (T d) fuel f_laws_eqStrew⟩ := T_tab (v := f_laws_eqStrew) rfl rfl
@[go_sem] theorem T_spec_l1Rd_next {d : Nat} : T (d + 1) n_spec_l1Rd_next = some ⟨[.mut 2], true, true, runFn (T d) fuel f_spec_l1Rd_next⟩ := T_tab (v := f_spec_l1Rd_next) rfl rfl
@[go_sem] theorem T_spec_l1Rd_near {d : Nat} : T (d + 1) n_spec_l1Rd_near = some ⟨[.mut 2, .ro 0, .ro 0], true, true, runFn (T d) fuel f_spec_l1Rd_near⟩ := T_tab (v := f_spec_l1Rd_near) rfl rfl
@[go_sem] theorem T_laws_szInt64S {d : Nat} : T (d + 1) n_laws_szInt64S = some ⟨[.ro 0, .ro 0], false, true, runFn (T d) fuel f_laws_szInt64S⟩ := T_tab (v := f_laws_szInt64S) rfl rfl
@[go_sem] theorem T_laws_toInt64S {d : Nat} : T (d + 1) n_laws_toInt64S = some ⟨[.ro 0], false, false, runFn (T d) fuel f_laws_toInt64S⟩ := T_tab (v := f_laws_toInt64S) rfl rfl
@[go_sem] theorem T_spec_l1Rd_word {d : Nat} : T (d + 1) n_spec_l1Rd_word = some ⟨[.mut 2], true, true, runFn (T d) fuel f_spec_l1Rd_word⟩ := T_tab (v := f_spec_l1Rd_word) rfl rfl
@[go_sem] theorem T_slices_Clone_int64_int64 {d : Nat} : T (d + 1) n_slices_Clone_int64_int64 = some ⟨[.ro 0], false, false, cloneGo t_i64 8⟩ := tower_ext rfl
end Go.Proofs.Ytkoljcjliihiiaa.VM

/- The functions that the statement reaches, resolved: printed by a program of ours from the translated code; each is checked here. -/
import Derived.Test.YtohlpjfhkejjgaaProg
import Derived.Test.YtohlpjfhkejjgaaFxE
set_option maxRecDepth 100000
set_option maxHeartbeats 0
namespace Go.Fx.YtohlpjfhkejjgaaFx
open Go Go.Fx
section
variable (P : Program) (m : Bool) (sf : Sf) (st : St) (Q : Exit → Sf → St → Prop)
def n_f3 : Nat := 3
def x_f3 : Cx := ⟨some, id, 181, fun s => ([0, 1, 4, 5, 6, 7, 8, 9, 10, 13, 14, 15, 16, 17, 18, 19, 20, 21, 22, 23, 24, 25, 26, 27, 28, 29, 30, 31, 33, 34, 35, 36, 37, 38, 40, 41, 42, 44, 45, 47, 49, 51, 52, 53, 55, 56, 58, 59, 61, 62, 63, 65, 66, 67, 69, 70, 71, 73, 74, 76, 77, 78, 80, 81, 82, 84, 85, 86, 88, 90, 91, 92, 93, 94, 95, 97, 98, 100, 101, 104, 107, 111, 114, 116, 119, 122, 123, 124, 125, 126, 127, 128, 129, 130, 131, 132, 133, 134, 135, 136, 137, 138, 139, 140, 141, 142, 143, 144, 145, 146, 147, 148, 149, 150, 151, 152, 153, 154, 155, 156, 157, 158, 159, 160, 161, 162, 163, 164, 165, 167, 168, 169, 171, 172, 174, 176, 177, 178, 180] : List Nat).contains s, fun s => ([] : List Nat).contains s, msOf [(2, [0, 1], []), (6, [0, 1, 5, 6], []), (28, [0, 1, 5, 6, 32], []), (116, [4], []), (60, [0, 1, 5, 39], []), (244, [4], []), (62, [0, 1, 5, 7, 8], []), (126, [0, 1, 5, 7, 8, 9], []), (508, [0, 1, 5, 7, 8, 9, 10], []), (1018, [0, 1, 5, 7, 8, 9, 10], []), (8144, [0, 1, 5, 7, 8, 9, 10, 43], []), (16291, [9], []), (32584, [0, 1, 5, 7, 8, 9, 10, 11], [11]), (130340, [0, 1, 5, 7, 8, 9, 10, 11, 57], [11]), (260682, [0, 1, 5, 7, 8, 9, 10], []), (130342, [0, 1, 5, 7, 8, 9, 10, 11], [11]), (260686, [0, 1, 5, 7, 8, 9, 10, 11, 12], [11, 12]), (1042748, [0, 1, 5, 7, 8, 9, 10, 11, 12, 72], [11, 12]), (2085498, [0, 1, 5, 7, 8, 9, 10, 11, 12], [11, 12]), (2085500, [0, 1, 5, 7, 8, 9, 10, 12, 87], [12]), (8342004, [0, 1, 5, 7, 8, 9, 10, 12], [12]), (8342005, [0, 1, 5, 7, 8, 9, 10, 12], [12]), (4171004, [0, 1, 5, 7, 8, 9, 10, 12, 13], [12]), (8342010, [0, 1, 5, 7, 8, 9, 10, 12, 13], [12]), (66736080, [0, 1, 5, 7, 8, 9, 10, 12, 13, 99], [12]), (133472163, [0, 1, 5, 7, 8, 9, 10], []), (533888656, [0, 1, 5, 7, 8, 9, 10, 12, 13, 108], [12]), (2135554628, [4], []), (533888658, [0, 1, 5, 7, 8, 9, 10, 12, 13, 115], [12]), (2135554636, [0, 1, 5, 7, 8, 9, 10, 12, 13], [12]), (2135554637, [0, 1, 5, 7, 8, 9, 10, 12, 13], [12]), (66736083, [0, 1, 5, 7, 8, 9, 10, 12, 13], [12]), (4171006, [0, 1, 5, 7, 8, 9, 10, 14, 15], []), (8342014, [0, 1, 5, 7, 8, 9, 10, 166], []), (33368060, [4], []), (8147, [0, 1, 5, 7, 8, 9, 10], []), (1020, [9, 16], []), (2042, [9, 16], []), (16336, [9, 16, 170], []), (32675, [], []), (65352, [9, 16, 179], []), (261412, [4], []), (16339, [9, 16], []), (1022, [4], [])]⟩
def f3_2l : List GI := [⟨none, .mv (some 4) (.c (.lit (.bool false)))⟩]
def f3_2 : AC := .ops [0, 1] [] f3_2l
theorem f3_2e : aC P id m f3_2 sf st Q = runI P id m f3_2l (opsK [0, 1] [] Q) sf st := rfl
def f3_4l : List GI := [⟨none, .mv (some 18) (.r 0)⟩,
    ⟨none, .call (some 19) false (.f 9) [(.r 18)]⟩,
    ⟨none, .mv (some 17) (.r 19)⟩,
    ⟨none, .ext (some 20) (.r 17) 0⟩,
    ⟨none, .ext (some 21) (.r 17) 1⟩,
    ⟨none, .own 5 20⟩,
    ⟨none, .own 6 21⟩]
def f3_4 : AC := .ops [0, 1, 5, 6] [] f3_4l
theorem f3_4e : aC P id m f3_4 sf st Q = runI P id m f3_4l (opsK [0, 1, 5, 6] [] Q) sf st := rfl
def f3_7l : List GI := [⟨none, .mv (some 22) (.r 0)⟩,
    ⟨none, .bin (some 23) .num .lss (.r 22) (.c (.lit (.int .i64 0)))⟩,
    ⟨none, .mv (some 24) (.r 23)⟩,
    ⟨some (24, false), .mv (some 25) (.r 0)⟩,
    ⟨some (24, false), .bin (some 26) .num .gtr (.r 25) (.c (.lit (.int .i64 20)))⟩,
    ⟨none, .pick (some 27) (.r 24) (.c (.lit (.bool true))) (.r 26)⟩,
    ⟨none, .mv (some 28) (.r 27)⟩,
    ⟨some (28, false), .mv (some 29) (.r 1)⟩,
    ⟨some (28, false), .len (some 30) .sl (.r 29)⟩,
    ⟨some (28, false), .bin (some 31) .num .gtr (.r 30) (.c (.lit (.int .i64 60)))⟩,
    ⟨none, .pick (some 32) (.r 28) (.c (.lit (.bool true))) (.r 31)⟩]
def f3_7 : AC := .ops [0, 1, 5, 6, 32] [] f3_7l
theorem f3_7e : aC P id m f3_7 sf st Q = runI P id m f3_7l (opsK [0, 1, 5, 6, 32] [] Q) sf st := rfl
def f3_10l : List GI := [⟨none, .call (some 33) false (.f 10) []⟩,
    ⟨none, .own 4 33⟩]
def f3_10 : AC := .ops [4] [] f3_10l
theorem f3_10e : aC P id m f3_10 sf st Q = runI P id m f3_10l (opsK [4] [] Q) sf st := rfl
def f3_9 : AC := .seq f3_10 .ret
theorem f3_9e : aC P id m f3_9 sf st Q = aC P id m f3_10 sf st (seqQ (aC P id m .ret) Q) := rfl
def f3_8 : AC := .cond (.r 32) f3_9 .skip
theorem f3_8e : aC P id m f3_8 sf st Q = condI (.r 32) (sf.ev id (.r 32)) (aC P id m f3_9) (aC P id m .skip) sf st Q := rfl
def f3_6 : AC := .seq f3_7 f3_8
theorem f3_6e : aC P id m f3_6 sf st Q = aC P id m f3_7 sf st (seqQ (aC P id m f3_8) Q) := rfl
def f3_13l : List GI := [⟨none, .mv (some 34) (.r 6)⟩,
    ⟨none, .bin (some 35) .num .neq (.r 34) (.c (.lit (.int .i64 0)))⟩,
    ⟨none, .mv (some 36) (.r 35)⟩,
    ⟨some (36, false), .mv (some 37) (.r 5)⟩,
    ⟨some (36, false), .bin (some 38) (.nil .ptr) .eql (.r 37) (.c (.lit (.pointer none)))⟩,
    ⟨none, .pick (some 39) (.r 36) (.c (.lit (.bool true))) (.r 38)⟩]
def f3_13 : AC := .ops [0, 1, 5, 39] [] f3_13l
theorem f3_13e : aC P id m f3_13 sf st Q = runI P id m f3_13l (opsK [0, 1, 5, 39] [] Q) sf st := rfl
def f3_16l : List GI := [⟨none, .mv (some 4) (.c (.lit (.bool false)))⟩]
def f3_16 : AC := .ops [4] [] f3_16l
theorem f3_16e : aC P id m f3_16 sf st Q = runI P id m f3_16l (opsK [4] [] Q) sf st := rfl
def f3_15 : AC := .seq f3_16 .ret
theorem f3_15e : aC P id m f3_15 sf st Q = aC P id m f3_16 sf st (seqQ (aC P id m .ret) Q) := rfl
def f3_14 : AC := .cond (.r 39) f3_15 .skip
theorem f3_14e : aC P id m f3_14 sf st Q = condI (.r 39) (sf.ev id (.r 39)) (aC P id m f3_15) (aC P id m .skip) sf st Q := rfl
def f3_12 : AC := .seq f3_13 f3_14
theorem f3_12e : aC P id m f3_12 sf st Q = aC P id m f3_13 sf st (seqQ (aC P id m f3_14) Q) := rfl
def f3_18l : List GI := [⟨none, .mv (some 7) (.c (.lit (.int .i64 0)))⟩,
    ⟨none, .mv (some 8) (.c (.lit (.int .i64 0)))⟩]
def f3_18 : AC := .ops [0, 1, 5, 7, 8] [] f3_18l
theorem f3_18e : aC P id m f3_18 sf st Q = runI P id m f3_18l (opsK [0, 1, 5, 7, 8] [] Q) sf st := rfl
def f3_20l : List GI := [⟨none, .mv (some 9) (.c (.lit (.slice none 0 0)))⟩]
def f3_20 : AC := .ops [0, 1, 5, 7, 8, 9] [] f3_20l
theorem f3_20e : aC P id m f3_20 sf st Q = runI P id m f3_20l (opsK [0, 1, 5, 7, 8, 9] [] Q) sf st := rfl
def f3_23l : List GI := [⟨none, .mv (some 10) (.c (.lit (.int .i64 0)))⟩]
def f3_23 : AC := .ops [0, 1, 5, 7, 8, 9, 10] [] f3_23l
theorem f3_23e : aC P id m f3_23 sf st Q = runI P id m f3_23l (opsK [0, 1, 5, 7, 8, 9, 10] [] Q) sf st := rfl
def f3_28l : List GI := [⟨none, .mv (some 40) (.r 10)⟩,
    ⟨none, .mv (some 41) (.r 1)⟩,
    ⟨none, .len (some 42) .sl (.r 41)⟩,
    ⟨none, .bin (some 43) .num .lss (.r 40) (.r 42)⟩]
def f3_28 : AC := .ops [0, 1, 5, 7, 8, 9, 10, 43] [] f3_28l
theorem f3_28e : aC P id m f3_28 sf st Q = runI P id m f3_28l (opsK [0, 1, 5, 7, 8, 9, 10, 43] [] Q) sf st := rfl
def f3_29 : AC := .cond (.r 43) .skip (.exit [9] [] 0)
theorem f3_29e : aC P id m f3_29 sf st Q = condI (.r 43) (sf.ev id (.r 43)) (aC P id m .skip) (aC P id m (.exit [9] [] 0)) sf st Q := rfl
def f3_27 : AC := .seq f3_28 f3_29
theorem f3_27e : aC P id m f3_27 sf st Q = aC P id m f3_28 sf st (seqQ (aC P id m f3_29) Q) := rfl
def f3_33l : List GI := [⟨none, .mv (some 46) (.r 1)⟩,
    ⟨none, .mv (some 47) (.r 10)⟩,
    ⟨none, .ixS (some 48) (.r 46) (.r 47) 3⟩,
    ⟨none, .load (some 49) (.r 48) (some 3)⟩,
    ⟨none, .newL 11 [(.lit (.int .i64 0)), (.lit (.int .i64 0)), (.lit (.int .i64 0))]⟩,
    ⟨none, .store 3 (.r 11) (.r 49)⟩]
def f3_33 : AC := .ops [0, 1, 5, 7, 8, 9, 10, 11] [11] f3_33l
theorem f3_33e : aC P id m f3_33 sf st Q = runI P id m f3_33l (opsK [0, 1, 5, 7, 8, 9, 10, 11] [11] Q) sf st := rfl
def f3_36l : List GI := [⟨none, .addr (some 50) (.r 11) 0⟩,
    ⟨none, .load (some 51) (.r 50) none⟩,
    ⟨none, .bin (some 52) .num .lss (.r 51) (.c (.lit (.int .i64 0)))⟩,
    ⟨none, .mv (some 53) (.r 52)⟩,
    ⟨some (53, false), .addr (some 54) (.r 11) 0⟩,
    ⟨some (53, false), .load (some 55) (.r 54) none⟩,
    ⟨some (53, false), .bin (some 56) .num .gtr (.r 55) (.c (.lit (.int .i64 3)))⟩,
    ⟨none, .pick (some 57) (.r 53) (.c (.lit (.bool true))) (.r 56)⟩]
def f3_36 : AC := .ops [0, 1, 5, 7, 8, 9, 10, 11, 57] [11] f3_36l
theorem f3_36e : aC P id m f3_36 sf st Q = runI P id m f3_36l (opsK [0, 1, 5, 7, 8, 9, 10, 11, 57] [11] Q) sf st := rfl
def f3_37 : AC := .cond (.r 57) (.exit [0, 1, 5, 7, 8, 9, 10] [] 1) .skip
theorem f3_37e : aC P id m f3_37 sf st Q = condI (.r 57) (sf.ev id (.r 57)) (aC P id m (.exit [0, 1, 5, 7, 8, 9, 10] [] 1)) (aC P id m .skip) sf st Q := rfl
def f3_35 : AC := .seq f3_36 f3_37
theorem f3_35e : aC P id m f3_35 sf st Q = aC P id m f3_36 sf st (seqQ (aC P id m f3_37) Q) := rfl
def f3_39l : List GI := [⟨none, .mv (some 58) (.r 7)⟩,
    ⟨none, .bin (some 59) .num .add (.r 58) (.c (.lit (.int .i64 1)))⟩,
    ⟨none, .addr (some 60) (.r 11) 2⟩,
    ⟨none, .store 1 (.r 60) (.r 59)⟩]
def f3_39 : AC := .ops [0, 1, 5, 7, 8, 9, 10, 11] [11] f3_39l
theorem f3_39e : aC P id m f3_39 sf st Q = runI P id m f3_39l (opsK [0, 1, 5, 7, 8, 9, 10, 11] [11] Q) sf st := rfl
def f3_41l : List GI := [⟨none, .mv (some 61) (.r 5)⟩,
    ⟨none, .load (some 62) (.r 11) (some 3)⟩,
    ⟨none, .call (some 63) false (.f 11) [(.r 61), (.r 62)]⟩,
    ⟨none, .newL 12 [(.lit (.int .i64 0)), (.lit (.bool false)), (.lit (.slice none 0 0)), (.lit (.int .i64 0))]⟩,
    ⟨none, .store 4 (.r 12) (.r 63)⟩]
def f3_41 : AC := .ops [0, 1, 5, 7, 8, 9, 10, 11, 12] [11, 12] f3_41l
theorem f3_41e : aC P id m f3_41 sf st Q = runI P id m f3_41l (opsK [0, 1, 5, 7, 8, 9, 10, 11, 12] [11, 12] Q) sf st := rfl
def f3_44l : List GI := [⟨none, .addr (some 64) (.r 12) 3⟩,
    ⟨none, .load (some 65) (.r 64) none⟩,
    ⟨none, .bin (some 66) .num .eql (.r 65) (.c (.lit (.int .i64 0)))⟩,
    ⟨none, .mv (some 67) (.r 66)⟩,
    ⟨some (67, true), .addr (some 68) (.r 11) 0⟩,
    ⟨some (67, true), .load (some 69) (.r 68) none⟩,
    ⟨some (67, true), .bin (some 70) .num .rem (.r 69) (.c (.lit (.int .i64 2)))⟩,
    ⟨some (67, true), .bin (some 71) .num .eql (.r 70) (.c (.lit (.int .i64 0)))⟩,
    ⟨none, .pick (some 72) (.r 67) (.r 71) (.c (.lit (.bool false)))⟩]
def f3_44 : AC := .ops [0, 1, 5, 7, 8, 9, 10, 11, 12, 72] [11, 12] f3_44l
theorem f3_44e : aC P id m f3_44 sf st Q = runI P id m f3_44l (opsK [0, 1, 5, 7, 8, 9, 10, 11, 12, 72] [11, 12] Q) sf st := rfl
def f3_46l : List GI := [⟨none, .mv (some 73) (.r 7)⟩,
    ⟨none, .bin (some 74) .num .add (.r 73) (.c (.lit (.int .i64 1)))⟩,
    ⟨none, .own 7 74⟩]
def f3_46 : AC := .ops [0, 1, 5, 7, 8, 9, 10, 11, 12] [11, 12] f3_46l
theorem f3_46e : aC P id m f3_46 sf st Q = runI P id m f3_46l (opsK [0, 1, 5, 7, 8, 9, 10, 11, 12] [11, 12] Q) sf st := rfl
def f3_45 : AC := .cond (.r 72) f3_46 .skip
theorem f3_45e : aC P id m f3_45 sf st Q = condI (.r 72) (sf.ev id (.r 72)) (aC P id m f3_46) (aC P id m .skip) sf st Q := rfl
def f3_43 : AC := .seq f3_44 f3_45
theorem f3_43e : aC P id m f3_43 sf st Q = aC P id m f3_44 sf st (seqQ (aC P id m f3_45) Q) := rfl
def f3_49l : List GI := [⟨none, .addr (some 75) (.r 12) 3⟩,
    ⟨none, .load (some 76) (.r 75) none⟩,
    ⟨none, .bin (some 77) .num .eql (.r 76) (.c (.lit (.int .i64 0)))⟩,
    ⟨none, .mv (some 78) (.r 77)⟩,
    ⟨some (78, true), .addr (some 79) (.r 12) 1⟩,
    ⟨some (78, true), .load (some 80) (.r 79) none⟩,
    ⟨none, .pick (some 81) (.r 78) (.r 80) (.c (.lit (.bool false)))⟩,
    ⟨none, .mv (some 82) (.r 81)⟩,
    ⟨some (82, true), .addr (some 83) (.r 11) 0⟩,
    ⟨some (82, true), .load (some 84) (.r 83) none⟩,
    ⟨some (82, true), .bin (some 85) .num .rem (.r 84) (.c (.lit (.int .i64 2)))⟩,
    ⟨some (82, true), .bin (some 86) .num .eql (.r 85) (.c (.lit (.int .i64 1)))⟩,
    ⟨none, .pick (some 87) (.r 82) (.r 86) (.c (.lit (.bool false)))⟩]
def f3_49 : AC := .ops [0, 1, 5, 7, 8, 9, 10, 12, 87] [12] f3_49l
theorem f3_49e : aC P id m f3_49 sf st Q = runI P id m f3_49l (opsK [0, 1, 5, 7, 8, 9, 10, 12, 87] [12] Q) sf st := rfl
def f3_52l : List GI := [⟨none, .own 88 9⟩,
    ⟨none, .addr (some 89) (.r 12) 0⟩,
    ⟨none, .load (some 90) (.r 89) none⟩,
    ⟨none, .bsl (some 91) 1 1 (.lit (.int .i64 0)) [(0, (.r 90))]⟩,
    ⟨none, .appS 92 88 1 8 (.r 91)⟩,
    ⟨none, .own 9 92⟩]
def f3_52 : AC := .ops [0, 1, 5, 7, 8, 9, 10, 12] [12] f3_52l
theorem f3_52e : aC P id m f3_52 sf st Q = runI P id m f3_52l (opsK [0, 1, 5, 7, 8, 9, 10, 12] [12] Q) sf st := rfl
def f3_53l : List GI := [⟨none, .mv (some 93) (.r 8)⟩,
    ⟨none, .bin (some 94) .num .add (.r 93) (.c (.lit (.int .i64 1)))⟩,
    ⟨none, .own 8 94⟩]
def f3_53 : AC := .ops [0, 1, 5, 7, 8, 9, 10, 12] [12] f3_53l
theorem f3_53e : aC P id m f3_53 sf st Q = runI P id m f3_53l (opsK [0, 1, 5, 7, 8, 9, 10, 12] [12] Q) sf st := rfl
def f3_51 : AC := .seq f3_52 f3_53
theorem f3_51e : aC P id m f3_51 sf st Q = aC P id m f3_52 sf st (seqQ (aC P id m f3_53) Q) := rfl
def f3_50 : AC := .cond (.r 87) f3_51 .skip
theorem f3_50e : aC P id m f3_50 sf st Q = condI (.r 87) (sf.ev id (.r 87)) (aC P id m f3_51) (aC P id m .skip) sf st Q := rfl
def f3_48 : AC := .seq f3_49 f3_50
theorem f3_48e : aC P id m f3_48 sf st Q = aC P id m f3_49 sf st (seqQ (aC P id m f3_50) Q) := rfl
def f3_56l : List GI := [⟨none, .mv (some 13) (.c (.lit (.int .i64 0)))⟩]
def f3_56 : AC := .ops [0, 1, 5, 7, 8, 9, 10, 12, 13] [12] f3_56l
theorem f3_56e : aC P id m f3_56 sf st Q = runI P id m f3_56l (opsK [0, 1, 5, 7, 8, 9, 10, 12, 13] [12] Q) sf st := rfl
def f3_61l : List GI := [⟨none, .mv (some 95) (.r 13)⟩,
    ⟨none, .addr (some 96) (.r 12) 2⟩,
    ⟨none, .load (some 97) (.r 96) none⟩,
    ⟨none, .len (some 98) .sl (.r 97)⟩,
    ⟨none, .bin (some 99) .num .lss (.r 95) (.r 98)⟩]
def f3_61 : AC := .ops [0, 1, 5, 7, 8, 9, 10, 12, 13, 99] [12] f3_61l
theorem f3_61e : aC P id m f3_61 sf st Q = runI P id m f3_61l (opsK [0, 1, 5, 7, 8, 9, 10, 12, 13, 99] [12] Q) sf st := rfl
def f3_62 : AC := .cond (.r 99) .skip (.exit [0, 1, 5, 7, 8, 9, 10] [] 2)
theorem f3_62e : aC P id m f3_62 sf st Q = condI (.r 99) (sf.ev id (.r 99)) (aC P id m .skip) (aC P id m (.exit [0, 1, 5, 7, 8, 9, 10] [] 2)) sf st Q := rfl
def f3_60 : AC := .seq f3_61 f3_62
theorem f3_60e : aC P id m f3_60 sf st Q = aC P id m f3_61 sf st (seqQ (aC P id m f3_62) Q) := rfl
def f3_67l : List GI := [⟨none, .addr (some 102) (.r 12) 2⟩,
    ⟨none, .load (some 103) (.r 102) none⟩,
    ⟨none, .mv (some 104) (.r 13)⟩,
    ⟨none, .ixS (some 105) (.r 103) (.r 104) 4⟩,
    ⟨none, .addr (some 106) (.r 105) 3⟩,
    ⟨none, .load (some 107) (.r 106) none⟩,
    ⟨none, .bin (some 108) .num .neq (.r 107) (.c (.lit (.int .i64 0)))⟩]
def f3_67 : AC := .ops [0, 1, 5, 7, 8, 9, 10, 12, 13, 108] [12] f3_67l
theorem f3_67e : aC P id m f3_67 sf st Q = runI P id m f3_67l (opsK [0, 1, 5, 7, 8, 9, 10, 12, 13, 108] [12] Q) sf st := rfl
def f3_70l : List GI := [⟨none, .mv (some 4) (.c (.lit (.bool false)))⟩]
def f3_70 : AC := .ops [4] [] f3_70l
theorem f3_70e : aC P id m f3_70 sf st Q = runI P id m f3_70l (opsK [4] [] Q) sf st := rfl
def f3_69 : AC := .seq f3_70 .ret
theorem f3_69e : aC P id m f3_69 sf st Q = aC P id m f3_70 sf st (seqQ (aC P id m .ret) Q) := rfl
def f3_68 : AC := .cond (.r 108) f3_69 .skip
theorem f3_68e : aC P id m f3_68 sf st Q = condI (.r 108) (sf.ev id (.r 108)) (aC P id m f3_69) (aC P id m .skip) sf st Q := rfl
def f3_66 : AC := .seq f3_67 f3_68
theorem f3_66e : aC P id m f3_66 sf st Q = aC P id m f3_67 sf st (seqQ (aC P id m f3_68) Q) := rfl
def f3_72l : List GI := [⟨none, .addr (some 109) (.r 12) 2⟩,
    ⟨none, .load (some 110) (.r 109) none⟩,
    ⟨none, .mv (some 111) (.r 13)⟩,
    ⟨none, .ixS (some 112) (.r 110) (.r 111) 4⟩,
    ⟨none, .addr (some 113) (.r 112) 2⟩,
    ⟨none, .load (some 114) (.r 113) none⟩,
    ⟨none, .bin (some 115) .num .neq (.r 114) (.c (.lit (.int .i64 0)))⟩]
def f3_72 : AC := .ops [0, 1, 5, 7, 8, 9, 10, 12, 13, 115] [12] f3_72l
theorem f3_72e : aC P id m f3_72 sf st Q = runI P id m f3_72l (opsK [0, 1, 5, 7, 8, 9, 10, 12, 13, 115] [12] Q) sf st := rfl
def f3_75l : List GI := [⟨none, .own 116 9⟩,
    ⟨none, .addr (some 117) (.r 12) 2⟩,
    ⟨none, .load (some 118) (.r 117) none⟩,
    ⟨none, .mv (some 119) (.r 13)⟩,
    ⟨none, .ixS (some 120) (.r 118) (.r 119) 4⟩,
    ⟨none, .addr (some 121) (.r 120) 2⟩,
    ⟨none, .load (some 122) (.r 121) none⟩,
    ⟨none, .bsl (some 123) 1 1 (.lit (.int .i64 0)) [(0, (.r 122))]⟩,
    ⟨none, .appS 124 116 1 8 (.r 123)⟩,
    ⟨none, .own 9 124⟩]
def f3_75 : AC := .ops [0, 1, 5, 7, 8, 9, 10, 12, 13] [12] f3_75l
theorem f3_75e : aC P id m f3_75 sf st Q = runI P id m f3_75l (opsK [0, 1, 5, 7, 8, 9, 10, 12, 13] [12] Q) sf st := rfl
def f3_76l : List GI := [⟨none, .mv (some 125) (.r 8)⟩,
    ⟨none, .bin (some 126) .num .add (.r 125) (.c (.lit (.int .i64 1)))⟩,
    ⟨none, .own 8 126⟩]
def f3_76 : AC := .ops [0, 1, 5, 7, 8, 9, 10, 12, 13] [12] f3_76l
theorem f3_76e : aC P id m f3_76 sf st Q = runI P id m f3_76l (opsK [0, 1, 5, 7, 8, 9, 10, 12, 13] [12] Q) sf st := rfl
def f3_74 : AC := .seq f3_75 f3_76
theorem f3_74e : aC P id m f3_74 sf st Q = aC P id m f3_75 sf st (seqQ (aC P id m f3_76) Q) := rfl
def f3_73 : AC := .cond (.r 115) f3_74 .skip
theorem f3_73e : aC P id m f3_73 sf st Q = condI (.r 115) (sf.ev id (.r 115)) (aC P id m f3_74) (aC P id m .skip) sf st Q := rfl
def f3_71 : AC := .seq f3_72 f3_73
theorem f3_71e : aC P id m f3_71 sf st Q = aC P id m f3_72 sf st (seqQ (aC P id m f3_73) Q) := rfl
def f3_65 : AC := .seq f3_66 f3_71
theorem f3_65e : aC P id m f3_65 sf st Q = aC P id m f3_66 sf st (seqQ (aC P id m f3_71) Q) := rfl
def f3_64 : AC := .block 3 f3_65
theorem f3_64e : aC P id m f3_64 sf st Q = aC P id m f3_65 sf st (blockQ 3 Q) := rfl
def f3_77l : List GI := [⟨none, .mv (some 100) (.r 13)⟩,
    ⟨none, .bin (some 101) .num .add (.r 100) (.c (.lit (.int .i64 1)))⟩,
    ⟨none, .own 13 101⟩]
def f3_77 : AC := .ops [0, 1, 5, 7, 8, 9, 10, 12, 13] [12] f3_77l
theorem f3_77e : aC P id m f3_77 sf st Q = runI P id m f3_77l (opsK [0, 1, 5, 7, 8, 9, 10, 12, 13] [12] Q) sf st := rfl
def f3_63 : AC := .seq f3_64 f3_77
theorem f3_63e : aC P id m f3_63 sf st Q = aC P id m f3_64 sf st (seqQ (aC P id m f3_77) Q) := rfl
def f3_59 : AC := .seq f3_60 f3_63
theorem f3_59e : aC P id m f3_59 sf st Q = aC P id m f3_60 sf st (seqQ (aC P id m f3_63) Q) := rfl
def f3_58 : AC := .loop [0, 1, 5, 7, 8, 9, 10, 12, 13] [12] f3_59
theorem f3_58w : aC P id m f3_58 sf st Q = loopI (aC P id m f3_59) [0, 1, 5, 7, 8, 9, 10, 12, 13] [12] sf st Q := rfl
def f3_57 : AC := .block 2 f3_58
theorem f3_57e : aC P id m f3_57 sf st Q = aC P id m f3_58 sf st (blockQ 2 Q) := rfl
def f3_55 : AC := .seq f3_56 f3_57
theorem f3_55e : aC P id m f3_55 sf st Q = aC P id m f3_56 sf st (seqQ (aC P id m f3_57) Q) := rfl
def f3_79l : List GI := [⟨none, .mv (some 128) (.r 5)⟩,
    ⟨none, .call (some 129) false (.f 12) [(.r 128)]⟩,
    ⟨none, .mv (some 127) (.r 129)⟩,
    ⟨none, .ext (some 130) (.r 127) 0⟩,
    ⟨none, .ext (some 131) (.r 127) 1⟩,
    ⟨none, .own 14 130⟩,
    ⟨none, .own 15 131⟩]
def f3_79 : AC := .ops [0, 1, 5, 7, 8, 9, 10, 14, 15] [] f3_79l
theorem f3_79e : aC P id m f3_79 sf st Q = runI P id m f3_79l (opsK [0, 1, 5, 7, 8, 9, 10, 14, 15] [] Q) sf st := rfl
def f3_81l : List GI := [⟨none, .mv (some 132) (.r 14)⟩,
    ⟨none, .bin (some 133) .num .gtr (.r 132) (.c (.lit (.int .i64 0)))⟩,
    ⟨none, .mv (some 134) (.r 133)⟩,
    ⟨some (134, true), .mv (some 135) (.r 15)⟩,
    ⟨some (134, true), .bin (some 136) .num .gtr (.r 135) (.c (.lit (.int .i64 0)))⟩,
    ⟨none, .pick (some 137) (.r 134) (.r 136) (.c (.lit (.bool false)))⟩,
    ⟨none, .mv (some 138) (.r 137)⟩,
    ⟨some (138, false), .mv (some 139) (.r 14)⟩,
    ⟨some (138, false), .bin (some 140) .num .gtr (.r 139) (.c (.lit (.int .i64 0)))⟩,
    ⟨some (138, false), .mv (some 141) (.r 140)⟩,
    ⟨some (141, true), .mv (some 142) (.r 5)⟩,
    ⟨some (141, true), .call (some 143) false (.f 13) [(.r 142)]⟩,
    ⟨some (141, true), .mv (some 144) (.r 0)⟩,
    ⟨some (141, true), .bin (some 145) .num .neq (.r 143) (.r 144)⟩,
    ⟨some (138, false), .pick (some 146) (.r 141) (.r 145) (.c (.lit (.bool false)))⟩,
    ⟨none, .pick (some 147) (.r 138) (.c (.lit (.bool true))) (.r 146)⟩,
    ⟨none, .mv (some 148) (.r 147)⟩,
    ⟨some (148, false), .mv (some 149) (.r 15)⟩,
    ⟨some (148, false), .bin (some 150) .num .gtr (.r 149) (.c (.lit (.int .i64 0)))⟩,
    ⟨some (148, false), .mv (some 151) (.r 150)⟩,
    ⟨some (151, true), .mv (some 152) (.r 5)⟩,
    ⟨some (151, true), .call (some 153) false (.f 13) [(.r 152)]⟩,
    ⟨some (151, true), .bin (some 154) .num .neq (.r 153) (.c (.lit (.int .i64 0)))⟩,
    ⟨some (148, false), .pick (some 155) (.r 151) (.r 154) (.c (.lit (.bool false)))⟩,
    ⟨none, .pick (some 156) (.r 148) (.c (.lit (.bool true))) (.r 155)⟩,
    ⟨none, .mv (some 157) (.r 156)⟩,
    ⟨some (157, false), .mv (some 158) (.r 7)⟩,
    ⟨some (157, false), .mv (some 159) (.r 8)⟩,
    ⟨some (157, false), .mv (some 160) (.r 5)⟩,
    ⟨some (157, false), .call (some 161) false (.f 13) [(.r 160)]⟩,
    ⟨some (157, false), .bin (some 162) .num .add (.r 159) (.r 161)⟩,
    ⟨some (157, false), .mv (some 163) (.r 14)⟩,
    ⟨some (157, false), .bin (some 164) .num .add (.r 162) (.r 163)⟩,
    ⟨some (157, false), .bin (some 165) .num .neq (.r 158) (.r 164)⟩,
    ⟨none, .pick (some 166) (.r 157) (.c (.lit (.bool true))) (.r 165)⟩]
def f3_81 : AC := .ops [0, 1, 5, 7, 8, 9, 10, 166] [] f3_81l
theorem f3_81e : aC P id m f3_81 sf st Q = runI P id m f3_81l (opsK [0, 1, 5, 7, 8, 9, 10, 166] [] Q) sf st := rfl
def f3_84l : List GI := [⟨none, .mv (some 4) (.c (.lit (.bool false)))⟩]
def f3_84 : AC := .ops [4] [] f3_84l
theorem f3_84e : aC P id m f3_84 sf st Q = runI P id m f3_84l (opsK [4] [] Q) sf st := rfl
def f3_83 : AC := .seq f3_84 .ret
theorem f3_83e : aC P id m f3_83 sf st Q = aC P id m f3_84 sf st (seqQ (aC P id m .ret) Q) := rfl
def f3_82 : AC := .cond (.r 166) f3_83 .skip
theorem f3_82e : aC P id m f3_82 sf st Q = condI (.r 166) (sf.ev id (.r 166)) (aC P id m f3_83) (aC P id m .skip) sf st Q := rfl
def f3_80 : AC := .seq f3_81 f3_82
theorem f3_80e : aC P id m f3_80 sf st Q = aC P id m f3_81 sf st (seqQ (aC P id m f3_82) Q) := rfl
def f3_78 : AC := .seq f3_79 f3_80
theorem f3_78e : aC P id m f3_78 sf st Q = aC P id m f3_79 sf st (seqQ (aC P id m f3_80) Q) := rfl
def f3_54 : AC := .seq f3_55 f3_78
theorem f3_54e : aC P id m f3_54 sf st Q = aC P id m f3_55 sf st (seqQ (aC P id m f3_78) Q) := rfl
def f3_47 : AC := .seq f3_48 f3_54
theorem f3_47e : aC P id m f3_47 sf st Q = aC P id m f3_48 sf st (seqQ (aC P id m f3_54) Q) := rfl
def f3_42 : AC := .seq f3_43 f3_47
theorem f3_42e : aC P id m f3_42 sf st Q = aC P id m f3_43 sf st (seqQ (aC P id m f3_47) Q) := rfl
def f3_40 : AC := .seq f3_41 f3_42
theorem f3_40e : aC P id m f3_40 sf st Q = aC P id m f3_41 sf st (seqQ (aC P id m f3_42) Q) := rfl
def f3_38 : AC := .seq f3_39 f3_40
theorem f3_38e : aC P id m f3_38 sf st Q = aC P id m f3_39 sf st (seqQ (aC P id m f3_40) Q) := rfl
def f3_34 : AC := .seq f3_35 f3_38
theorem f3_34e : aC P id m f3_34 sf st Q = aC P id m f3_35 sf st (seqQ (aC P id m f3_38) Q) := rfl
def f3_32 : AC := .seq f3_33 f3_34
theorem f3_32e : aC P id m f3_32 sf st Q = aC P id m f3_33 sf st (seqQ (aC P id m f3_34) Q) := rfl
def f3_31 : AC := .block 1 f3_32
theorem f3_31e : aC P id m f3_31 sf st Q = aC P id m f3_32 sf st (blockQ 1 Q) := rfl
def f3_85l : List GI := [⟨none, .mv (some 44) (.r 10)⟩,
    ⟨none, .bin (some 45) .num .add (.r 44) (.c (.lit (.int .i64 1)))⟩,
    ⟨none, .own 10 45⟩]
def f3_85 : AC := .ops [0, 1, 5, 7, 8, 9, 10] [] f3_85l
theorem f3_85e : aC P id m f3_85 sf st Q = runI P id m f3_85l (opsK [0, 1, 5, 7, 8, 9, 10] [] Q) sf st := rfl
def f3_30 : AC := .seq f3_31 f3_85
theorem f3_30e : aC P id m f3_30 sf st Q = aC P id m f3_31 sf st (seqQ (aC P id m f3_85) Q) := rfl
def f3_26 : AC := .seq f3_27 f3_30
theorem f3_26e : aC P id m f3_26 sf st Q = aC P id m f3_27 sf st (seqQ (aC P id m f3_30) Q) := rfl
def f3_25 : AC := .loop [0, 1, 5, 7, 8, 9, 10] [] f3_26
theorem f3_25w : aC P id m f3_25 sf st Q = loopI (aC P id m f3_26) [0, 1, 5, 7, 8, 9, 10] [] sf st Q := rfl
def f3_24 : AC := .block 0 f3_25
theorem f3_24e : aC P id m f3_24 sf st Q = aC P id m f3_25 sf st (blockQ 0 Q) := rfl
def f3_22 : AC := .seq f3_23 f3_24
theorem f3_22e : aC P id m f3_22 sf st Q = aC P id m f3_23 sf st (seqQ (aC P id m f3_24) Q) := rfl
def f3_88l : List GI := [⟨none, .mv (some 16) (.c (.lit (.int .i64 0)))⟩]
def f3_88 : AC := .ops [9, 16] [] f3_88l
theorem f3_88e : aC P id m f3_88 sf st Q = runI P id m f3_88l (opsK [9, 16] [] Q) sf st := rfl
def f3_93l : List GI := [⟨none, .mv (some 167) (.r 16)⟩,
    ⟨none, .mv (some 168) (.r 9)⟩,
    ⟨none, .len (some 169) .sl (.r 168)⟩,
    ⟨none, .bin (some 170) .num .lss (.r 167) (.r 169)⟩]
def f3_93 : AC := .ops [9, 16, 170] [] f3_93l
theorem f3_93e : aC P id m f3_93 sf st Q = runI P id m f3_93l (opsK [9, 16, 170] [] Q) sf st := rfl
def f3_94 : AC := .cond (.r 170) .skip (.exit [] [] 4)
theorem f3_94e : aC P id m f3_94 sf st Q = condI (.r 170) (sf.ev id (.r 170)) (aC P id m .skip) (aC P id m (.exit [] [] 4)) sf st Q := rfl
def f3_92 : AC := .seq f3_93 f3_94
theorem f3_92e : aC P id m f3_92 sf st Q = aC P id m f3_93 sf st (seqQ (aC P id m f3_94) Q) := rfl
def f3_98l : List GI := [⟨none, .mv (some 173) (.r 9)⟩,
    ⟨none, .mv (some 174) (.r 16)⟩,
    ⟨none, .ixS (some 175) (.r 173) (.r 174) 1⟩,
    ⟨none, .load (some 176) (.r 175) none⟩,
    ⟨none, .mv (some 177) (.r 16)⟩,
    ⟨none, .bin (some 178) .num .add (.r 177) (.c (.lit (.int .i64 1)))⟩,
    ⟨none, .bin (some 179) .num .neq (.r 176) (.r 178)⟩]
def f3_98 : AC := .ops [9, 16, 179] [] f3_98l
theorem f3_98e : aC P id m f3_98 sf st Q = runI P id m f3_98l (opsK [9, 16, 179] [] Q) sf st := rfl
def f3_101l : List GI := [⟨none, .mv (some 4) (.c (.lit (.bool false)))⟩]
def f3_101 : AC := .ops [4] [] f3_101l
theorem f3_101e : aC P id m f3_101 sf st Q = runI P id m f3_101l (opsK [4] [] Q) sf st := rfl
def f3_100 : AC := .seq f3_101 .ret
theorem f3_100e : aC P id m f3_100 sf st Q = aC P id m f3_101 sf st (seqQ (aC P id m .ret) Q) := rfl
def f3_99 : AC := .cond (.r 179) f3_100 .skip
theorem f3_99e : aC P id m f3_99 sf st Q = condI (.r 179) (sf.ev id (.r 179)) (aC P id m f3_100) (aC P id m .skip) sf st Q := rfl
def f3_97 : AC := .seq f3_98 f3_99
theorem f3_97e : aC P id m f3_97 sf st Q = aC P id m f3_98 sf st (seqQ (aC P id m f3_99) Q) := rfl
def f3_96 : AC := .block 5 f3_97
theorem f3_96e : aC P id m f3_96 sf st Q = aC P id m f3_97 sf st (blockQ 5 Q) := rfl
def f3_102l : List GI := [⟨none, .mv (some 171) (.r 16)⟩,
    ⟨none, .bin (some 172) .num .add (.r 171) (.c (.lit (.int .i64 1)))⟩,
    ⟨none, .own 16 172⟩]
def f3_102 : AC := .ops [9, 16] [] f3_102l
theorem f3_102e : aC P id m f3_102 sf st Q = runI P id m f3_102l (opsK [9, 16] [] Q) sf st := rfl
def f3_95 : AC := .seq f3_96 f3_102
theorem f3_95e : aC P id m f3_95 sf st Q = aC P id m f3_96 sf st (seqQ (aC P id m f3_102) Q) := rfl
def f3_91 : AC := .seq f3_92 f3_95
theorem f3_91e : aC P id m f3_91 sf st Q = aC P id m f3_92 sf st (seqQ (aC P id m f3_95) Q) := rfl
def f3_90 : AC := .loop [9, 16] [] f3_91
theorem f3_90w : aC P id m f3_90 sf st Q = loopI (aC P id m f3_91) [9, 16] [] sf st Q := rfl
def f3_89 : AC := .block 4 f3_90
theorem f3_89e : aC P id m f3_89 sf st Q = aC P id m f3_90 sf st (blockQ 4 Q) := rfl
def f3_87 : AC := .seq f3_88 f3_89
theorem f3_87e : aC P id m f3_87 sf st Q = aC P id m f3_88 sf st (seqQ (aC P id m f3_89) Q) := rfl
def f3_104l : List GI := [⟨none, .call (some 180) false (.f 10) []⟩,
    ⟨none, .own 4 180⟩]
def f3_104 : AC := .ops [4] [] f3_104l
theorem f3_104e : aC P id m f3_104 sf st Q = runI P id m f3_104l (opsK [4] [] Q) sf st := rfl
def f3_103 : AC := .seq f3_104 .ret
theorem f3_103e : aC P id m f3_103 sf st Q = aC P id m f3_104 sf st (seqQ (aC P id m .ret) Q) := rfl
def f3_86 : AC := .seq f3_87 f3_103
theorem f3_86e : aC P id m f3_86 sf st Q = aC P id m f3_87 sf st (seqQ (aC P id m f3_103) Q) := rfl
def f3_21 : AC := .seq f3_22 f3_86
theorem f3_21e : aC P id m f3_21 sf st Q = aC P id m f3_22 sf st (seqQ (aC P id m f3_86) Q) := rfl
def f3_19 : AC := .seq f3_20 f3_21
theorem f3_19e : aC P id m f3_19 sf st Q = aC P id m f3_20 sf st (seqQ (aC P id m f3_21) Q) := rfl
def f3_17 : AC := .seq f3_18 f3_19
theorem f3_17e : aC P id m f3_17 sf st Q = aC P id m f3_18 sf st (seqQ (aC P id m f3_19) Q) := rfl
def f3_11 : AC := .seq f3_12 f3_17
theorem f3_11e : aC P id m f3_11 sf st Q = aC P id m f3_12 sf st (seqQ (aC P id m f3_17) Q) := rfl
def f3_5 : AC := .seq f3_6 f3_11
theorem f3_5e : aC P id m f3_5 sf st Q = aC P id m f3_6 sf st (seqQ (aC P id m f3_11) Q) := rfl
def f3_3 : AC := .seq f3_4 f3_5
theorem f3_3e : aC P id m f3_3 sf st Q = aC P id m f3_4 sf st (seqQ (aC P id m f3_5) Q) := rfl
def f3_1 : AC := .seq f3_2 f3_3
theorem f3_1e : aC P id m f3_1 sf st Q = aC P id m f3_2 sf st (seqQ (aC P id m f3_3) Q) := rfl
def c_f3 : AFun := ⟨181, [.tmp 4], f3_1⟩
theorem k_f3 : compF Go.Proofs.Try.prog x_f3 3 = some c_f3 := by kernel_rfl
theorem e_f3 : enterB Go.Proofs.Try.prog 3 = true := by kernel_rfl

def n_f6 : Nat := 6
def x_f6 : Cx := ⟨some, id, 173, fun s => ([0, 1, 4, 5, 6, 7, 8, 9, 11, 12, 13, 15, 16, 19, 21, 22, 23, 24, 25, 26, 27, 28, 29, 30, 31, 32, 33, 34, 35, 36, 38, 39, 40, 41, 42, 43, 45, 46, 47, 49, 50, 51, 53, 55, 57, 58, 59, 60, 61, 62, 63, 64, 65, 66, 67, 68, 69, 70, 71, 72, 73, 74, 75, 76, 77, 78, 79, 80, 81, 82, 83, 84, 85, 86, 87, 88, 89, 90, 91, 92, 93, 94, 95, 96, 97, 98, 99, 100, 101, 102, 103, 104, 105, 106, 107, 108, 109, 110, 112, 113, 114, 115, 116, 117, 118, 119, 120, 121, 122, 123, 124, 125, 126, 127, 128, 130, 131, 133, 134, 135, 136, 137, 138, 139, 140, 141, 142, 143, 144, 145, 146, 148, 149, 150, 151, 152, 153, 154, 155, 156, 157, 158, 159, 160, 161, 162, 163, 164, 165, 166, 167, 168, 169, 170, 171, 172] : List Nat).contains s, fun s => ([] : List Nat).contains s, msOf [(2, [0, 1], []), (6, [0, 1, 5, 6], []), (28, [0, 1, 5, 6, 37], []), (116, [4], []), (60, [0, 1, 5, 44], []), (244, [4], []), (124, [0, 1, 5, 7], []), (250, [0, 1, 5, 7], []), (2000, [0, 1, 5, 7, 48], []), (4003, [5], []), (8008, [0, 1, 5, 7], []), (16018, [0, 1, 5, 7, 8, 9], []), (32038, [0, 1, 5, 7, 111], []), (128156, [4], []), (2003, [0, 1, 5, 7], []), (126, [5, 11], []), (254, [5, 11, 12], []), (1020, [5, 12, 129], []), (4084, [4], []), (2044, [5, 12, 13], []), (4090, [5, 12, 13], []), (32720, [5, 12, 13, 132], []), (65443, [5], []), (130888, [5, 12, 13, 15, 16], []), (261778, [5, 12, 13, 147], []), (1047116, [4], []), (32723, [5, 12, 13], []), (2046, [5, 19], []), (4094, [5, 19, 21], []), (8190, [4], [])]⟩
def f6_2l : List GI := [⟨none, .mv (some 4) (.c (.lit (.bool false)))⟩]
def f6_2 : AC := .ops [0, 1] [] f6_2l
theorem f6_2e : aC P id m f6_2 sf st Q = runI P id m f6_2l (opsK [0, 1] [] Q) sf st := rfl
def f6_4l : List GI := [⟨none, .mv (some 23) (.r 0)⟩,
    ⟨none, .call (some 24) false (.f 9) [(.r 23)]⟩,
    ⟨none, .mv (some 22) (.r 24)⟩,
    ⟨none, .ext (some 25) (.r 22) 0⟩,
    ⟨none, .ext (some 26) (.r 22) 1⟩,
    ⟨none, .own 5 25⟩,
    ⟨none, .own 6 26⟩]
def f6_4 : AC := .ops [0, 1, 5, 6] [] f6_4l
theorem f6_4e : aC P id m f6_4 sf st Q = runI P id m f6_4l (opsK [0, 1, 5, 6] [] Q) sf st := rfl
def f6_7l : List GI := [⟨none, .mv (some 27) (.r 0)⟩,
    ⟨none, .bin (some 28) .num .lss (.r 27) (.c (.lit (.int .i64 0)))⟩,
    ⟨none, .mv (some 29) (.r 28)⟩,
    ⟨some (29, false), .mv (some 30) (.r 0)⟩,
    ⟨some (29, false), .bin (some 31) .num .gtr (.r 30) (.c (.lit (.int .i64 20)))⟩,
    ⟨none, .pick (some 32) (.r 29) (.c (.lit (.bool true))) (.r 31)⟩,
    ⟨none, .mv (some 33) (.r 32)⟩,
    ⟨some (33, false), .mv (some 34) (.r 1)⟩,
    ⟨some (33, false), .len (some 35) .sl (.r 34)⟩,
    ⟨some (33, false), .bin (some 36) .num .gtr (.r 35) (.c (.lit (.int .i64 60)))⟩,
    ⟨none, .pick (some 37) (.r 33) (.c (.lit (.bool true))) (.r 36)⟩]
def f6_7 : AC := .ops [0, 1, 5, 6, 37] [] f6_7l
theorem f6_7e : aC P id m f6_7 sf st Q = runI P id m f6_7l (opsK [0, 1, 5, 6, 37] [] Q) sf st := rfl
def f6_10l : List GI := [⟨none, .call (some 38) false (.f 10) []⟩,
    ⟨none, .own 4 38⟩]
def f6_10 : AC := .ops [4] [] f6_10l
theorem f6_10e : aC P id m f6_10 sf st Q = runI P id m f6_10l (opsK [4] [] Q) sf st := rfl
def f6_9 : AC := .seq f6_10 .ret
theorem f6_9e : aC P id m f6_9 sf st Q = aC P id m f6_10 sf st (seqQ (aC P id m .ret) Q) := rfl
def f6_8 : AC := .cond (.r 37) f6_9 .skip
theorem f6_8e : aC P id m f6_8 sf st Q = condI (.r 37) (sf.ev id (.r 37)) (aC P id m f6_9) (aC P id m .skip) sf st Q := rfl
def f6_6 : AC := .seq f6_7 f6_8
theorem f6_6e : aC P id m f6_6 sf st Q = aC P id m f6_7 sf st (seqQ (aC P id m f6_8) Q) := rfl
def f6_13l : List GI := [⟨none, .mv (some 39) (.r 6)⟩,
    ⟨none, .bin (some 40) .num .neq (.r 39) (.c (.lit (.int .i64 0)))⟩,
    ⟨none, .mv (some 41) (.r 40)⟩,
    ⟨some (41, false), .mv (some 42) (.r 5)⟩,
    ⟨some (41, false), .bin (some 43) (.nil .ptr) .eql (.r 42) (.c (.lit (.pointer none)))⟩,
    ⟨none, .pick (some 44) (.r 41) (.c (.lit (.bool true))) (.r 43)⟩]
def f6_13 : AC := .ops [0, 1, 5, 44] [] f6_13l
theorem f6_13e : aC P id m f6_13 sf st Q = runI P id m f6_13l (opsK [0, 1, 5, 44] [] Q) sf st := rfl
def f6_16l : List GI := [⟨none, .mv (some 4) (.c (.lit (.bool false)))⟩]
def f6_16 : AC := .ops [4] [] f6_16l
theorem f6_16e : aC P id m f6_16 sf st Q = runI P id m f6_16l (opsK [4] [] Q) sf st := rfl
def f6_15 : AC := .seq f6_16 .ret
theorem f6_15e : aC P id m f6_15 sf st Q = aC P id m f6_16 sf st (seqQ (aC P id m .ret) Q) := rfl
def f6_14 : AC := .cond (.r 44) f6_15 .skip
theorem f6_14e : aC P id m f6_14 sf st Q = condI (.r 44) (sf.ev id (.r 44)) (aC P id m f6_15) (aC P id m .skip) sf st Q := rfl
def f6_12 : AC := .seq f6_13 f6_14
theorem f6_12e : aC P id m f6_12 sf st Q = aC P id m f6_13 sf st (seqQ (aC P id m f6_14) Q) := rfl
def f6_19l : List GI := [⟨none, .mv (some 7) (.c (.lit (.int .i64 0)))⟩]
def f6_19 : AC := .ops [0, 1, 5, 7] [] f6_19l
theorem f6_19e : aC P id m f6_19 sf st Q = runI P id m f6_19l (opsK [0, 1, 5, 7] [] Q) sf st := rfl
def f6_24l : List GI := [⟨none, .mv (some 45) (.r 7)⟩,
    ⟨none, .mv (some 46) (.r 1)⟩,
    ⟨none, .len (some 47) .sl (.r 46)⟩,
    ⟨none, .bin (some 48) .num .lss (.r 45) (.r 47)⟩]
def f6_24 : AC := .ops [0, 1, 5, 7, 48] [] f6_24l
theorem f6_24e : aC P id m f6_24 sf st Q = runI P id m f6_24l (opsK [0, 1, 5, 7, 48] [] Q) sf st := rfl
def f6_25 : AC := .cond (.r 48) .skip (.exit [5] [] 0)
theorem f6_25e : aC P id m f6_25 sf st Q = condI (.r 48) (sf.ev id (.r 48)) (aC P id m .skip) (aC P id m (.exit [5] [] 0)) sf st Q := rfl
def f6_23 : AC := .seq f6_24 f6_25
theorem f6_23e : aC P id m f6_23 sf st Q = aC P id m f6_24 sf st (seqQ (aC P id m f6_25) Q) := rfl
def f6_29l : List GI := [⟨none, .mv (some 51) (.r 5)⟩,
    ⟨none, .mv (some 52) (.r 1)⟩,
    ⟨none, .mv (some 53) (.r 7)⟩,
    ⟨none, .ixS (some 54) (.r 52) (.r 53) 3⟩,
    ⟨none, .load (some 55) (.r 54) (some 3)⟩,
    ⟨none, .call (some 56) false (.f 11) [(.r 51), (.r 55)]⟩]
def f6_29 : AC := .ops [0, 1, 5, 7] [] f6_29l
theorem f6_29e : aC P id m f6_29 sf st Q = runI P id m f6_29l (opsK [0, 1, 5, 7] [] Q) sf st := rfl
def f6_31l : List GI := [⟨none, .mv (some 58) (.r 5)⟩,
    ⟨none, .call (some 59) false (.f 12) [(.r 58)]⟩,
    ⟨none, .mv (some 57) (.r 59)⟩,
    ⟨none, .ext (some 60) (.r 57) 0⟩,
    ⟨none, .ext (some 61) (.r 57) 1⟩,
    ⟨none, .own 8 60⟩,
    ⟨none, .own 9 61⟩]
def f6_31 : AC := .ops [0, 1, 5, 7, 8, 9] [] f6_31l
theorem f6_31e : aC P id m f6_31 sf st Q = runI P id m f6_31l (opsK [0, 1, 5, 7, 8, 9] [] Q) sf st := rfl
def f6_33l : List GI := [⟨none, .mv (some 62) (.r 8)⟩,
    ⟨none, .bin (some 63) .num .gtr (.r 62) (.c (.lit (.int .i64 0)))⟩,
    ⟨none, .mv (some 64) (.r 63)⟩,
    ⟨some (64, true), .mv (some 65) (.r 9)⟩,
    ⟨some (64, true), .bin (some 66) .num .gtr (.r 65) (.c (.lit (.int .i64 0)))⟩,
    ⟨none, .pick (some 67) (.r 64) (.r 66) (.c (.lit (.bool false)))⟩,
    ⟨none, .mv (some 68) (.r 67)⟩,
    ⟨some (68, false), .mv (some 69) (.r 8)⟩,
    ⟨some (68, false), .bin (some 70) .num .gtr (.r 69) (.c (.lit (.int .i64 0)))⟩,
    ⟨some (68, false), .mv (some 71) (.r 70)⟩,
    ⟨some (71, true), .mv (some 72) (.r 5)⟩,
    ⟨some (71, true), .call (some 73) false (.f 13) [(.r 72)]⟩,
    ⟨some (71, true), .mv (some 74) (.r 5)⟩,
    ⟨some (71, true), .call (some 75) false (.f 17) [(.r 74)]⟩,
    ⟨some (71, true), .bin (some 76) .num .neq (.r 73) (.r 75)⟩,
    ⟨some (68, false), .pick (some 77) (.r 71) (.r 76) (.c (.lit (.bool false)))⟩,
    ⟨none, .pick (some 78) (.r 68) (.c (.lit (.bool true))) (.r 77)⟩,
    ⟨none, .mv (some 79) (.r 78)⟩,
    ⟨some (79, false), .mv (some 80) (.r 9)⟩,
    ⟨some (79, false), .bin (some 81) .num .gtr (.r 80) (.c (.lit (.int .i64 0)))⟩,
    ⟨some (79, false), .mv (some 82) (.r 81)⟩,
    ⟨some (82, true), .mv (some 83) (.r 5)⟩,
    ⟨some (82, true), .call (some 84) false (.f 13) [(.r 83)]⟩,
    ⟨some (82, true), .bin (some 85) .num .neq (.r 84) (.c (.lit (.int .i64 0)))⟩,
    ⟨some (82, true), .mv (some 86) (.r 85)⟩,
    ⟨some (86, false), .mv (some 87) (.r 5)⟩,
    ⟨some (86, false), .call (some 88) false (.f 18) [(.r 87)]⟩,
    ⟨some (82, true), .pick (some 89) (.r 86) (.c (.lit (.bool true))) (.r 88)⟩,
    ⟨some (79, false), .pick (some 90) (.r 82) (.r 89) (.c (.lit (.bool false)))⟩,
    ⟨none, .pick (some 91) (.r 79) (.c (.lit (.bool true))) (.r 90)⟩,
    ⟨none, .mv (some 92) (.r 91)⟩,
    ⟨some (92, false), .mv (some 93) (.r 8)⟩,
    ⟨some (92, false), .bin (some 94) .num .gtr (.r 93) (.c (.lit (.int .i64 0)))⟩,
    ⟨some (92, false), .mv (some 95) (.r 94)⟩,
    ⟨some (95, true), .mv (some 96) (.r 5)⟩,
    ⟨some (95, true), .call (some 97) false (.f 18) [(.r 96)]⟩,
    ⟨some (92, false), .pick (some 98) (.r 95) (.r 97) (.c (.lit (.bool false)))⟩,
    ⟨none, .pick (some 99) (.r 92) (.c (.lit (.bool true))) (.r 98)⟩,
    ⟨none, .mv (some 100) (.r 99)⟩,
    ⟨some (100, false), .mv (some 101) (.r 5)⟩,
    ⟨some (100, false), .call (some 102) false (.f 13) [(.r 101)]⟩,
    ⟨some (100, false), .mv (some 103) (.r 0)⟩,
    ⟨some (100, false), .bin (some 104) .num .gtr (.r 102) (.r 103)⟩,
    ⟨none, .pick (some 105) (.r 100) (.c (.lit (.bool true))) (.r 104)⟩,
    ⟨none, .mv (some 106) (.r 105)⟩,
    ⟨some (106, false), .mv (some 107) (.r 5)⟩,
    ⟨some (106, false), .call (some 108) false (.f 17) [(.r 107)]⟩,
    ⟨some (106, false), .mv (some 109) (.r 0)⟩,
    ⟨some (106, false), .bin (some 110) .num .neq (.r 108) (.r 109)⟩,
    ⟨none, .pick (some 111) (.r 106) (.c (.lit (.bool true))) (.r 110)⟩]
def f6_33 : AC := .ops [0, 1, 5, 7, 111] [] f6_33l
theorem f6_33e : aC P id m f6_33 sf st Q = runI P id m f6_33l (opsK [0, 1, 5, 7, 111] [] Q) sf st := rfl
def f6_36l : List GI := [⟨none, .mv (some 4) (.c (.lit (.bool false)))⟩]
def f6_36 : AC := .ops [4] [] f6_36l
theorem f6_36e : aC P id m f6_36 sf st Q = runI P id m f6_36l (opsK [4] [] Q) sf st := rfl
def f6_35 : AC := .seq f6_36 .ret
theorem f6_35e : aC P id m f6_35 sf st Q = aC P id m f6_36 sf st (seqQ (aC P id m .ret) Q) := rfl
def f6_34 : AC := .cond (.r 111) f6_35 .skip
theorem f6_34e : aC P id m f6_34 sf st Q = condI (.r 111) (sf.ev id (.r 111)) (aC P id m f6_35) (aC P id m .skip) sf st Q := rfl
def f6_32 : AC := .seq f6_33 f6_34
theorem f6_32e : aC P id m f6_32 sf st Q = aC P id m f6_33 sf st (seqQ (aC P id m f6_34) Q) := rfl
def f6_30 : AC := .seq f6_31 f6_32
theorem f6_30e : aC P id m f6_30 sf st Q = aC P id m f6_31 sf st (seqQ (aC P id m f6_32) Q) := rfl
def f6_28 : AC := .seq f6_29 f6_30
theorem f6_28e : aC P id m f6_28 sf st Q = aC P id m f6_29 sf st (seqQ (aC P id m f6_30) Q) := rfl
def f6_27 : AC := .block 1 f6_28
theorem f6_27e : aC P id m f6_27 sf st Q = aC P id m f6_28 sf st (blockQ 1 Q) := rfl
def f6_37l : List GI := [⟨none, .mv (some 49) (.r 7)⟩,
    ⟨none, .bin (some 50) .num .add (.r 49) (.c (.lit (.int .i64 1)))⟩,
    ⟨none, .own 7 50⟩]
def f6_37 : AC := .ops [0, 1, 5, 7] [] f6_37l
theorem f6_37e : aC P id m f6_37 sf st Q = runI P id m f6_37l (opsK [0, 1, 5, 7] [] Q) sf st := rfl
def f6_26 : AC := .seq f6_27 f6_37
theorem f6_26e : aC P id m f6_26 sf st Q = aC P id m f6_27 sf st (seqQ (aC P id m f6_37) Q) := rfl
def f6_22 : AC := .seq f6_23 f6_26
theorem f6_22e : aC P id m f6_22 sf st Q = aC P id m f6_23 sf st (seqQ (aC P id m f6_26) Q) := rfl
def f6_21 : AC := .loop [0, 1, 5, 7] [] f6_22
theorem f6_21w : aC P id m f6_21 sf st Q = loopI (aC P id m f6_22) [0, 1, 5, 7] [] sf st Q := rfl
def f6_20 : AC := .block 0 f6_21
theorem f6_20e : aC P id m f6_20 sf st Q = aC P id m f6_21 sf st (blockQ 0 Q) := rfl
def f6_18 : AC := .seq f6_19 f6_20
theorem f6_18e : aC P id m f6_18 sf st Q = aC P id m f6_19 sf st (seqQ (aC P id m f6_20) Q) := rfl
def f6_39l : List GI := [⟨none, .mv (some 113) (.r 5)⟩,
    ⟨none, .call (some 114) false (.f 19) [(.r 113)]⟩,
    ⟨none, .mv (some 112) (.r 114)⟩,
    ⟨none, .ext (some 115) (.r 112) 0⟩,
    ⟨none, .ext (some 116) (.r 112) 1⟩,
    ⟨none, .own 10 115⟩,
    ⟨none, .own 11 116⟩]
def f6_39 : AC := .ops [5, 11] [] f6_39l
theorem f6_39e : aC P id m f6_39 sf st Q = runI P id m f6_39l (opsK [5, 11] [] Q) sf st := rfl
def f6_41l : List GI := [⟨none, .mv (some 117) (.r 5)⟩,
    ⟨none, .call (some 118) false (.f 13) [(.r 117)]⟩,
    ⟨none, .own 12 118⟩]
def f6_41 : AC := .ops [5, 11, 12] [] f6_41l
theorem f6_41e : aC P id m f6_41 sf st Q = runI P id m f6_41l (opsK [5, 11, 12] [] Q) sf st := rfl
def f6_44l : List GI := [⟨none, .mv (some 119) (.r 11)⟩,
    ⟨none, .bin (some 120) .num .neq (.r 119) (.c (.lit (.int .i64 0)))⟩,
    ⟨none, .mv (some 121) (.r 120)⟩,
    ⟨some (121, true), .mv (some 122) (.r 11)⟩,
    ⟨some (121, true), .bin (some 123) .num .neq (.r 122) (.c (.lit (.int .i64 14)))⟩,
    ⟨none, .pick (some 124) (.r 121) (.r 123) (.c (.lit (.bool false)))⟩,
    ⟨none, .mv (some 125) (.r 124)⟩,
    ⟨some (125, false), .mv (some 126) (.r 5)⟩,
    ⟨some (125, false), .call (some 127) false (.f 18) [(.r 126)]⟩,
    ⟨some (125, false), .un (some 128) .not (.r 127)⟩,
    ⟨none, .pick (some 129) (.r 125) (.c (.lit (.bool true))) (.r 128)⟩]
def f6_44 : AC := .ops [5, 12, 129] [] f6_44l
theorem f6_44e : aC P id m f6_44 sf st Q = runI P id m f6_44l (opsK [5, 12, 129] [] Q) sf st := rfl
def f6_47l : List GI := [⟨none, .mv (some 4) (.c (.lit (.bool false)))⟩]
def f6_47 : AC := .ops [4] [] f6_47l
theorem f6_47e : aC P id m f6_47 sf st Q = runI P id m f6_47l (opsK [4] [] Q) sf st := rfl
def f6_46 : AC := .seq f6_47 .ret
theorem f6_46e : aC P id m f6_46 sf st Q = aC P id m f6_47 sf st (seqQ (aC P id m .ret) Q) := rfl
def f6_45 : AC := .cond (.r 129) f6_46 .skip
theorem f6_45e : aC P id m f6_45 sf st Q = condI (.r 129) (sf.ev id (.r 129)) (aC P id m f6_46) (aC P id m .skip) sf st Q := rfl
def f6_43 : AC := .seq f6_44 f6_45
theorem f6_43e : aC P id m f6_43 sf st Q = aC P id m f6_44 sf st (seqQ (aC P id m f6_45) Q) := rfl
def f6_50l : List GI := [⟨none, .mv (some 13) (.c (.lit (.int .i64 0)))⟩]
def f6_50 : AC := .ops [5, 12, 13] [] f6_50l
theorem f6_50e : aC P id m f6_50 sf st Q = runI P id m f6_50l (opsK [5, 12, 13] [] Q) sf st := rfl
def f6_55l : List GI := [⟨none, .mv (some 130) (.r 13)⟩,
    ⟨none, .mv (some 131) (.r 12)⟩,
    ⟨none, .bin (some 132) .num .lss (.r 130) (.r 131)⟩]
def f6_55 : AC := .ops [5, 12, 13, 132] [] f6_55l
theorem f6_55e : aC P id m f6_55 sf st Q = runI P id m f6_55l (opsK [5, 12, 13, 132] [] Q) sf st := rfl
def f6_56 : AC := .cond (.r 132) .skip (.exit [5] [] 2)
theorem f6_56e : aC P id m f6_56 sf st Q = condI (.r 132) (sf.ev id (.r 132)) (aC P id m .skip) (aC P id m (.exit [5] [] 2)) sf st Q := rfl
def f6_54 : AC := .seq f6_55 f6_56
theorem f6_54e : aC P id m f6_54 sf st Q = aC P id m f6_55 sf st (seqQ (aC P id m f6_56) Q) := rfl
def f6_60l : List GI := [⟨none, .mv (some 136) (.r 5)⟩,
    ⟨none, .call (some 137) false (.f 20) [(.r 136)]⟩,
    ⟨none, .mv (some 135) (.r 137)⟩,
    ⟨none, .ext (some 138) (.r 135) 0⟩,
    ⟨none, .ext (some 139) (.r 135) 1⟩,
    ⟨none, .ext (some 140) (.r 135) 2⟩,
    ⟨none, .own 14 138⟩,
    ⟨none, .own 15 139⟩,
    ⟨none, .own 16 140⟩]
def f6_60 : AC := .ops [5, 12, 13, 15, 16] [] f6_60l
theorem f6_60e : aC P id m f6_60 sf st Q = runI P id m f6_60l (opsK [5, 12, 13, 15, 16] [] Q) sf st := rfl
def f6_62l : List GI := [⟨none, .mv (some 141) (.r 16)⟩,
    ⟨none, .bin (some 142) .num .neq (.r 141) (.c (.lit (.int .i64 0)))⟩,
    ⟨none, .mv (some 143) (.r 142)⟩,
    ⟨some (143, false), .mv (some 144) (.r 15)⟩,
    ⟨some (143, false), .len (some 145) .sl (.r 144)⟩,
    ⟨some (143, false), .bin (some 146) .num .neq (.r 145) (.c (.lit (.int .i64 0)))⟩,
    ⟨none, .pick (some 147) (.r 143) (.c (.lit (.bool true))) (.r 146)⟩]
def f6_62 : AC := .ops [5, 12, 13, 147] [] f6_62l
theorem f6_62e : aC P id m f6_62 sf st Q = runI P id m f6_62l (opsK [5, 12, 13, 147] [] Q) sf st := rfl
def f6_65l : List GI := [⟨none, .mv (some 4) (.c (.lit (.bool false)))⟩]
def f6_65 : AC := .ops [4] [] f6_65l
theorem f6_65e : aC P id m f6_65 sf st Q = runI P id m f6_65l (opsK [4] [] Q) sf st := rfl
def f6_64 : AC := .seq f6_65 .ret
theorem f6_64e : aC P id m f6_64 sf st Q = aC P id m f6_65 sf st (seqQ (aC P id m .ret) Q) := rfl
def f6_63 : AC := .cond (.r 147) f6_64 .skip
theorem f6_63e : aC P id m f6_63 sf st Q = condI (.r 147) (sf.ev id (.r 147)) (aC P id m f6_64) (aC P id m .skip) sf st Q := rfl
def f6_61 : AC := .seq f6_62 f6_63
theorem f6_61e : aC P id m f6_61 sf st Q = aC P id m f6_62 sf st (seqQ (aC P id m f6_63) Q) := rfl
def f6_59 : AC := .seq f6_60 f6_61
theorem f6_59e : aC P id m f6_59 sf st Q = aC P id m f6_60 sf st (seqQ (aC P id m f6_61) Q) := rfl
def f6_58 : AC := .block 3 f6_59
theorem f6_58e : aC P id m f6_58 sf st Q = aC P id m f6_59 sf st (blockQ 3 Q) := rfl
def f6_66l : List GI := [⟨none, .mv (some 133) (.r 13)⟩,
    ⟨none, .bin (some 134) .num .add (.r 133) (.c (.lit (.int .i64 1)))⟩,
    ⟨none, .own 13 134⟩]
def f6_66 : AC := .ops [5, 12, 13] [] f6_66l
theorem f6_66e : aC P id m f6_66 sf st Q = runI P id m f6_66l (opsK [5, 12, 13] [] Q) sf st := rfl
def f6_57 : AC := .seq f6_58 f6_66
theorem f6_57e : aC P id m f6_57 sf st Q = aC P id m f6_58 sf st (seqQ (aC P id m f6_66) Q) := rfl
def f6_53 : AC := .seq f6_54 f6_57
theorem f6_53e : aC P id m f6_53 sf st Q = aC P id m f6_54 sf st (seqQ (aC P id m f6_57) Q) := rfl
def f6_52 : AC := .loop [5, 12, 13] [] f6_53
theorem f6_52w : aC P id m f6_52 sf st Q = loopI (aC P id m f6_53) [5, 12, 13] [] sf st Q := rfl
def f6_51 : AC := .block 2 f6_52
theorem f6_51e : aC P id m f6_51 sf st Q = aC P id m f6_52 sf st (blockQ 2 Q) := rfl
def f6_49 : AC := .seq f6_50 f6_51
theorem f6_49e : aC P id m f6_49 sf st Q = aC P id m f6_50 sf st (seqQ (aC P id m f6_51) Q) := rfl
def f6_68l : List GI := [⟨none, .mv (some 149) (.r 5)⟩,
    ⟨none, .call (some 150) false (.f 20) [(.r 149)]⟩,
    ⟨none, .mv (some 148) (.r 150)⟩,
    ⟨none, .ext (some 151) (.r 148) 0⟩,
    ⟨none, .ext (some 152) (.r 148) 1⟩,
    ⟨none, .ext (some 153) (.r 148) 2⟩,
    ⟨none, .own 17 151⟩,
    ⟨none, .own 18 152⟩,
    ⟨none, .own 19 153⟩]
def f6_68 : AC := .ops [5, 19] [] f6_68l
theorem f6_68e : aC P id m f6_68 sf st Q = runI P id m f6_68l (opsK [5, 19] [] Q) sf st := rfl
def f6_70l : List GI := [⟨none, .mv (some 155) (.r 5)⟩,
    ⟨none, .call (some 156) false (.f 21) [(.r 155), (.c (.lit (.int .i64 1)))]⟩,
    ⟨none, .mv (some 154) (.r 156)⟩,
    ⟨none, .ext (some 157) (.r 154) 0⟩,
    ⟨none, .ext (some 158) (.r 154) 1⟩,
    ⟨none, .own 20 157⟩,
    ⟨none, .own 21 158⟩]
def f6_70 : AC := .ops [5, 19, 21] [] f6_70l
theorem f6_70e : aC P id m f6_70 sf st Q = runI P id m f6_70l (opsK [5, 19, 21] [] Q) sf st := rfl
def f6_72l : List GI := [⟨none, .mv (some 159) (.r 19)⟩,
    ⟨none, .bin (some 160) .num .eql (.r 159) (.c (.lit (.int .i64 13)))⟩,
    ⟨none, .mv (some 161) (.r 160)⟩,
    ⟨some (161, true), .mv (some 162) (.r 21)⟩,
    ⟨some (161, true), .bin (some 163) .num .eql (.r 162) (.c (.lit (.int .i64 14)))⟩,
    ⟨none, .pick (some 164) (.r 161) (.r 163) (.c (.lit (.bool false)))⟩,
    ⟨none, .mv (some 165) (.r 164)⟩,
    ⟨some (165, true), .mv (some 166) (.r 5)⟩,
    ⟨some (165, true), .call (some 167) false (.f 13) [(.r 166)]⟩,
    ⟨some (165, true), .bin (some 168) .num .eql (.r 167) (.c (.lit (.int .i64 0)))⟩,
    ⟨none, .pick (some 169) (.r 165) (.r 168) (.c (.lit (.bool false)))⟩,
    ⟨none, .mv (some 170) (.r 169)⟩,
    ⟨some (170, true), .call (some 171) false (.f 10) []⟩,
    ⟨none, .pick (some 172) (.r 170) (.r 171) (.c (.lit (.bool false)))⟩,
    ⟨none, .own 4 172⟩]
def f6_72 : AC := .ops [4] [] f6_72l
theorem f6_72e : aC P id m f6_72 sf st Q = runI P id m f6_72l (opsK [4] [] Q) sf st := rfl
def f6_71 : AC := .seq f6_72 .ret
theorem f6_71e : aC P id m f6_71 sf st Q = aC P id m f6_72 sf st (seqQ (aC P id m .ret) Q) := rfl
def f6_69 : AC := .seq f6_70 f6_71
theorem f6_69e : aC P id m f6_69 sf st Q = aC P id m f6_70 sf st (seqQ (aC P id m f6_71) Q) := rfl
def f6_67 : AC := .seq f6_68 f6_69
theorem f6_67e : aC P id m f6_67 sf st Q = aC P id m f6_68 sf st (seqQ (aC P id m f6_69) Q) := rfl
def f6_48 : AC := .seq f6_49 f6_67
theorem f6_48e : aC P id m f6_48 sf st Q = aC P id m f6_49 sf st (seqQ (aC P id m f6_67) Q) := rfl
def f6_42 : AC := .seq f6_43 f6_48
theorem f6_42e : aC P id m f6_42 sf st Q = aC P id m f6_43 sf st (seqQ (aC P id m f6_48) Q) := rfl
def f6_40 : AC := .seq f6_41 f6_42
theorem f6_40e : aC P id m f6_40 sf st Q = aC P id m f6_41 sf st (seqQ (aC P id m f6_42) Q) := rfl
def f6_38 : AC := .seq f6_39 f6_40
theorem f6_38e : aC P id m f6_38 sf st Q = aC P id m f6_39 sf st (seqQ (aC P id m f6_40) Q) := rfl
def f6_17 : AC := .seq f6_18 f6_38
theorem f6_17e : aC P id m f6_17 sf st Q = aC P id m f6_18 sf st (seqQ (aC P id m f6_38) Q) := rfl
def f6_11 : AC := .seq f6_12 f6_17
theorem f6_11e : aC P id m f6_11 sf st Q = aC P id m f6_12 sf st (seqQ (aC P id m f6_17) Q) := rfl
def f6_5 : AC := .seq f6_6 f6_11
theorem f6_5e : aC P id m f6_5 sf st Q = aC P id m f6_6 sf st (seqQ (aC P id m f6_11) Q) := rfl
def f6_3 : AC := .seq f6_4 f6_5
theorem f6_3e : aC P id m f6_3 sf st Q = aC P id m f6_4 sf st (seqQ (aC P id m f6_5) Q) := rfl
def f6_1 : AC := .seq f6_2 f6_3
theorem f6_1e : aC P id m f6_1 sf st Q = aC P id m f6_2 sf st (seqQ (aC P id m f6_3) Q) := rfl
def c_f6 : AFun := ⟨173, [.tmp 4], f6_1⟩
theorem k_f6 : compF Go.Proofs.Try.prog x_f6 6 = some c_f6 := by kernel_rfl
theorem e_f6 : enterB Go.Proofs.Try.prog 6 = true := by kernel_rfl

def n_f9 : Nat := 9
def x_f9 : Cx := ⟨some, id, 17, fun s => ([0, 2, 3, 4, 5, 6, 7, 8, 10, 11, 12, 13, 14, 15, 16] : List Nat).contains s, fun s => ([] : List Nat).contains s, msOf [(2, [0], []), (12, [0, 9], []), (52, [2, 3], []), (14, [2, 3], [])]⟩
def f9_2l : List GI := [⟨none, .mv (some 2) (.c (.lit (.pointer none)))⟩,
    ⟨none, .mv (some 3) (.c (.lit (.int .i64 0)))⟩]
def f9_2 : AC := .ops [0] [] f9_2l
theorem f9_2e : aC P id m f9_2 sf st Q = runI P id m f9_2l (opsK [0] [] Q) sf st := rfl
def f9_5l : List GI := [⟨none, .mv (some 4) (.r 0)⟩,
    ⟨none, .bin (some 5) .num .lss (.r 4) (.c (.lit (.int .i64 0)))⟩,
    ⟨none, .mv (some 6) (.r 5)⟩,
    ⟨some (6, false), .mv (some 7) (.r 0)⟩,
    ⟨some (6, false), .bin (some 8) .num .gtr (.r 7) (.c (.lit (.int .i64 4096)))⟩,
    ⟨none, .pick (some 9) (.r 6) (.c (.lit (.bool true))) (.r 8)⟩]
def f9_5 : AC := .ops [0, 9] [] f9_5l
theorem f9_5e : aC P id m f9_5 sf st Q = runI P id m f9_5l (opsK [0, 9] [] Q) sf st := rfl
def f9_8l : List GI := [⟨none, .mv (some 2) (.c (.lit (.pointer none)))⟩,
    ⟨none, .mv (some 3) (.c (.lit (.int .i64 2)))⟩]
def f9_8 : AC := .ops [2, 3] [] f9_8l
theorem f9_8e : aC P id m f9_8 sf st Q = runI P id m f9_8l (opsK [2, 3] [] Q) sf st := rfl
def f9_7 : AC := .seq f9_8 .ret
theorem f9_7e : aC P id m f9_7 sf st Q = aC P id m f9_8 sf st (seqQ (aC P id m .ret) Q) := rfl
def f9_6 : AC := .cond (.r 9) f9_7 .skip
theorem f9_6e : aC P id m f9_6 sf st Q = condI (.r 9) (sf.ev id (.r 9)) (aC P id m f9_7) (aC P id m .skip) sf st Q := rfl
def f9_4 : AC := .seq f9_5 f9_6
theorem f9_4e : aC P id m f9_4 sf st Q = aC P id m f9_5 sf st (seqQ (aC P id m f9_6) Q) := rfl
def f9_10l : List GI := [⟨none, .mv (some 10) (.r 0)⟩,
    ⟨none, .call (some 11) false (.f 24) []⟩,
    ⟨none, .call (some 12) false (.f 24) []⟩,
    ⟨none, .bar (some 13) 1 (.agg [(.lit (.pointer none)), (.lit (.pointer none))]) [(0, (.r 11)), (1, (.r 12))]⟩,
    ⟨none, .mkmap 14⟩,
    ⟨none, .bst (some 15) [(0, 1), (1, 1), (2, 1), (3, 1), (4, 2), (6, 1)] (.agg [(.lit (.bool false)), (.lit (.bool false)), (.lit (.int .i64 0)), (.lit (.slice none 0 0)), (.lit (.pointer none)), (.lit (.pointer none)), (.lit (.map none))]) [(0, (.c (.lit (.bool true)))), (2, (.r 10)), (4, (.r 13)), (5, (.r 14))]⟩,
    ⟨none, .boxB 16 7 (.r 15)⟩,
    ⟨none, .own 2 16⟩,
    ⟨none, .mv (some 3) (.c (.lit (.int .i64 0)))⟩]
def f9_10 : AC := .ops [2, 3] [] f9_10l
theorem f9_10e : aC P id m f9_10 sf st Q = runI P id m f9_10l (opsK [2, 3] [] Q) sf st := rfl
def f9_9 : AC := .seq f9_10 .ret
theorem f9_9e : aC P id m f9_9 sf st Q = aC P id m f9_10 sf st (seqQ (aC P id m .ret) Q) := rfl
def f9_3 : AC := .seq f9_4 f9_9
theorem f9_3e : aC P id m f9_3 sf st Q = aC P id m f9_4 sf st (seqQ (aC P id m f9_9) Q) := rfl
def f9_1 : AC := .seq f9_2 f9_3
theorem f9_1e : aC P id m f9_1 sf st Q = aC P id m f9_2 sf st (seqQ (aC P id m f9_3) Q) := rfl
def c_f9 : AFun := ⟨17, [.tmp 2, .tmp 3], f9_1⟩
theorem k_f9 : compF Go.Proofs.Try.prog x_f9 9 = some c_f9 := by kernel_rfl
theorem e_f9 : enterB Go.Proofs.Try.prog 9 = true := by kernel_rfl

def n_f10 : Nat := 10
def x_f10 : Cx := ⟨some, id, 97, fun s => ([0, 1, 2, 3, 4, 5, 6, 7, 8, 9, 10, 11, 13, 14, 15, 16, 17, 18, 19, 20, 21, 22, 23, 24, 25, 26, 27, 28, 29, 30, 31, 32, 33, 34, 35, 36, 37, 39, 40, 41, 42, 43, 44, 45, 46, 47, 48, 49, 50, 51, 52, 53, 54, 55, 56, 57, 58, 59, 60, 61, 62, 63, 64, 65, 66, 67, 68, 69, 70, 72, 73, 74, 75, 76, 77, 79, 80, 81, 82, 83, 84, 85, 86, 87, 88, 89, 90, 91, 92, 93, 94, 95, 96] : List Nat).contains s, fun s => ([] : List Nat).contains s, msOf [(2, [], []), (6, [1, 2], []), (28, [1, 12], []), (116, [0], []), (60, [1, 38], []), (244, [0], []), (124, [1, 71], []), (500, [0], []), (252, [1, 78], []), (1012, [0], []), (254, [0], [])]⟩
def f10_2l : List GI := [⟨none, .mv (some 0) (.c (.lit (.bool false)))⟩]
def f10_2 : AC := .ops [] [] f10_2l
theorem f10_2e : aC P id m f10_2 sf st Q = runI P id m f10_2l (opsK [] [] Q) sf st := rfl
def f10_4l : List GI := [⟨none, .call (some 4) false (.f 9) [(.c (.lit (.int .i64 1)))]⟩,
    ⟨none, .mv (some 3) (.r 4)⟩,
    ⟨none, .ext (some 5) (.r 3) 0⟩,
    ⟨none, .ext (some 6) (.r 3) 1⟩,
    ⟨none, .own 1 5⟩,
    ⟨none, .own 2 6⟩]
def f10_4 : AC := .ops [1, 2] [] f10_4l
theorem f10_4e : aC P id m f10_4 sf st Q = runI P id m f10_4l (opsK [1, 2] [] Q) sf st := rfl
def f10_7l : List GI := [⟨none, .mv (some 7) (.r 2)⟩,
    ⟨none, .bin (some 8) .num .neq (.r 7) (.c (.lit (.int .i64 0)))⟩,
    ⟨none, .mv (some 9) (.r 8)⟩,
    ⟨some (9, false), .mv (some 10) (.r 1)⟩,
    ⟨some (9, false), .bin (some 11) (.nil .ptr) .eql (.r 10) (.c (.lit (.pointer none)))⟩,
    ⟨none, .pick (some 12) (.r 9) (.c (.lit (.bool true))) (.r 11)⟩]
def f10_7 : AC := .ops [1, 12] [] f10_7l
theorem f10_7e : aC P id m f10_7 sf st Q = runI P id m f10_7l (opsK [1, 12] [] Q) sf st := rfl
def f10_10l : List GI := [⟨none, .mv (some 0) (.c (.lit (.bool false)))⟩]
def f10_10 : AC := .ops [0] [] f10_10l
theorem f10_10e : aC P id m f10_10 sf st Q = runI P id m f10_10l (opsK [0] [] Q) sf st := rfl
def f10_9 : AC := .seq f10_10 .ret
theorem f10_9e : aC P id m f10_9 sf st Q = aC P id m f10_10 sf st (seqQ (aC P id m .ret) Q) := rfl
def f10_8 : AC := .cond (.r 12) f10_9 .skip
theorem f10_8e : aC P id m f10_8 sf st Q = condI (.r 12) (sf.ev id (.r 12)) (aC P id m f10_9) (aC P id m .skip) sf st Q := rfl
def f10_6 : AC := .seq f10_7 f10_8
theorem f10_6e : aC P id m f10_6 sf st Q = aC P id m f10_7 sf st (seqQ (aC P id m f10_8) Q) := rfl
def f10_13l : List GI := [⟨none, .mv (some 13) (.r 1)⟩,
    ⟨none, .bst (some 14) [(0, 1), (1, 1), (2, 1)] (.agg [(.lit (.int .i64 0)), (.lit (.int .i64 0)), (.lit (.int .i64 0))]) [(0, (.c (.lit (.int .i64 0)))), (1, (.c (.lit (.int .i64 0)))), (2, (.c (.lit (.int .i64 5))))]⟩,
    ⟨none, .bst (some 15) [(0, 1), (1, 1), (2, 1), (3, 1)] (.agg [(.lit (.int .i64 0)), (.lit (.bool false)), (.lit (.slice none 0 0)), (.lit (.int .i64 0))]) [(1, (.c (.lit (.bool true))))]⟩,
    ⟨none, .call (some 16) false (.f 25) [(.r 13), (.r 14), (.r 15)]⟩,
    ⟨none, .un (some 17) .not (.r 16)⟩,
    ⟨none, .mv (some 18) (.r 17)⟩,
    ⟨some (18, false), .mv (some 19) (.r 1)⟩,
    ⟨some (18, false), .bst (some 20) [(0, 1), (1, 1), (2, 1)] (.agg [(.lit (.int .i64 0)), (.lit (.int .i64 0)), (.lit (.int .i64 0))]) [(0, (.c (.lit (.int .i64 0)))), (1, (.c (.lit (.int .i64 1)))), (2, (.c (.lit (.int .i64 6))))]⟩,
    ⟨some (18, false), .bst (some 21) [(0, 1), (1, 1), (2, 1), (3, 1)] (.agg [(.lit (.int .i64 0)), (.lit (.bool false)), (.lit (.slice none 0 0)), (.lit (.int .i64 0))]) []⟩,
    ⟨some (18, false), .call (some 22) false (.f 25) [(.r 19), (.r 20), (.r 21)]⟩,
    ⟨some (18, false), .un (some 23) .not (.r 22)⟩,
    ⟨none, .pick (some 24) (.r 18) (.c (.lit (.bool true))) (.r 23)⟩,
    ⟨none, .mv (some 25) (.r 24)⟩,
    ⟨some (25, false), .mv (some 26) (.r 1)⟩,
    ⟨some (25, false), .bst (some 27) [(0, 1), (1, 1), (2, 1)] (.agg [(.lit (.int .i64 0)), (.lit (.int .i64 0)), (.lit (.int .i64 0))]) [(0, (.c (.lit (.int .i64 0)))), (1, (.c (.lit (.int .i64 1)))), (2, (.c (.lit (.int .i64 7))))]⟩,
    ⟨some (25, false), .bst (some 28) [(0, 1), (1, 1), (2, 1), (3, 1)] (.agg [(.lit (.int .i64 0)), (.lit (.bool false)), (.lit (.slice none 0 0)), (.lit (.int .i64 0))]) [(3, (.c (.lit (.int .i64 11))))]⟩,
    ⟨some (25, false), .call (some 29) false (.f 25) [(.r 26), (.r 27), (.r 28)]⟩,
    ⟨some (25, false), .un (some 30) .not (.r 29)⟩,
    ⟨none, .pick (some 31) (.r 25) (.c (.lit (.bool true))) (.r 30)⟩,
    ⟨none, .mv (some 32) (.r 31)⟩,
    ⟨some (32, false), .mv (some 33) (.r 1)⟩,
    ⟨some (32, false), .bst (some 34) [(0, 1), (1, 1), (2, 1)] (.agg [(.lit (.int .i64 0)), (.lit (.int .i64 0)), (.lit (.int .i64 0))]) [(0, (.c (.lit (.int .i64 2)))), (1, (.c (.lit (.int .i64 0)))), (2, (.c (.lit (.int .i64 8))))]⟩,
    ⟨some (32, false), .bst (some 35) [(0, 1), (1, 1), (2, 1), (3, 1)] (.agg [(.lit (.int .i64 0)), (.lit (.bool false)), (.lit (.slice none 0 0)), (.lit (.int .i64 0))]) [(3, (.c (.lit (.int .i64 16))))]⟩,
    ⟨some (32, false), .call (some 36) false (.f 25) [(.r 33), (.r 34), (.r 35)]⟩,
    ⟨some (32, false), .un (some 37) .not (.r 36)⟩,
    ⟨none, .pick (some 38) (.r 32) (.c (.lit (.bool true))) (.r 37)⟩]
def f10_13 : AC := .ops [1, 38] [] f10_13l
theorem f10_13e : aC P id m f10_13 sf st Q = runI P id m f10_13l (opsK [1, 38] [] Q) sf st := rfl
def f10_16l : List GI := [⟨none, .mv (some 0) (.c (.lit (.bool false)))⟩]
def f10_16 : AC := .ops [0] [] f10_16l
theorem f10_16e : aC P id m f10_16 sf st Q = runI P id m f10_16l (opsK [0] [] Q) sf st := rfl
def f10_15 : AC := .seq f10_16 .ret
theorem f10_15e : aC P id m f10_15 sf st Q = aC P id m f10_16 sf st (seqQ (aC P id m .ret) Q) := rfl
def f10_14 : AC := .cond (.r 38) f10_15 .skip
theorem f10_14e : aC P id m f10_14 sf st Q = condI (.r 38) (sf.ev id (.r 38)) (aC P id m f10_15) (aC P id m .skip) sf st Q := rfl
def f10_12 : AC := .seq f10_13 f10_14
theorem f10_12e : aC P id m f10_12 sf st Q = aC P id m f10_13 sf st (seqQ (aC P id m f10_14) Q) := rfl
def f10_19l : List GI := [⟨none, .mv (some 39) (.r 1)⟩,
    ⟨none, .bst (some 40) [(0, 1), (1, 1), (2, 1)] (.agg [(.lit (.int .i64 0)), (.lit (.int .i64 0)), (.lit (.int .i64 0))]) [(0, (.c (.lit (.int .i64 1)))), (1, (.c (.lit (.int .i64 2)))), (2, (.c (.lit (.int .i64 0))))]⟩,
    ⟨none, .bst (some 41) [(0, 1), (1, 1), (2, 1), (3, 1)] (.agg [(.lit (.int .i64 0)), (.lit (.int .i64 0)), (.lit (.int .i64 0)), (.lit (.int .i64 0))]) [(0, (.c (.lit (.int .i64 1))))]⟩,
    ⟨none, .bsl (some 42) 4 1 (.agg [(.lit (.int .i64 0)), (.lit (.int .i64 0)), (.lit (.int .i64 0)), (.lit (.int .i64 0))]) [(0, (.r 41))]⟩,
    ⟨none, .bst (some 43) [(0, 1), (1, 1), (2, 1), (3, 1)] (.agg [(.lit (.int .i64 0)), (.lit (.bool false)), (.lit (.slice none 0 0)), (.lit (.int .i64 0))]) [(0, (.c (.lit (.int .i64 5)))), (1, (.c (.lit (.bool true)))), (2, (.r 42))]⟩,
    ⟨none, .call (some 44) false (.f 25) [(.r 39), (.r 40), (.r 43)]⟩,
    ⟨none, .un (some 45) .not (.r 44)⟩,
    ⟨none, .mv (some 46) (.r 45)⟩,
    ⟨some (46, false), .mv (some 47) (.r 1)⟩,
    ⟨some (46, false), .call (some 48) false (.f 13) [(.r 47)]⟩,
    ⟨some (46, false), .bin (some 49) .num .neq (.r 48) (.c (.lit (.int .i64 1)))⟩,
    ⟨none, .pick (some 50) (.r 46) (.c (.lit (.bool true))) (.r 49)⟩,
    ⟨none, .mv (some 51) (.r 50)⟩,
    ⟨some (51, false), .mv (some 52) (.r 1)⟩,
    ⟨some (51, false), .bst (some 53) [(0, 1), (1, 1), (2, 1)] (.agg [(.lit (.int .i64 0)), (.lit (.int .i64 0)), (.lit (.int .i64 0))]) [(0, (.c (.lit (.int .i64 3)))), (1, (.c (.lit (.int .i64 0)))), (2, (.c (.lit (.int .i64 0))))]⟩,
    ⟨some (51, false), .bst (some 54) [(0, 1), (1, 1), (2, 1), (3, 1)] (.agg [(.lit (.int .i64 0)), (.lit (.bool false)), (.lit (.slice none 0 0)), (.lit (.int .i64 0))]) [(0, (.c (.lit (.int .i64 6)))), (1, (.c (.lit (.bool true))))]⟩,
    ⟨some (51, false), .call (some 55) false (.f 25) [(.r 52), (.r 53), (.r 54)]⟩,
    ⟨some (51, false), .un (some 56) .not (.r 55)⟩,
    ⟨none, .pick (some 57) (.r 51) (.c (.lit (.bool true))) (.r 56)⟩,
    ⟨none, .mv (some 58) (.r 57)⟩,
    ⟨some (58, false), .mv (some 59) (.r 1)⟩,
    ⟨some (58, false), .bst (some 60) [(0, 1), (1, 1), (2, 1)] (.agg [(.lit (.int .i64 0)), (.lit (.int .i64 0)), (.lit (.int .i64 0))]) [(0, (.c (.lit (.int .i64 1)))), (1, (.c (.lit (.int .i64 2)))), (2, (.c (.lit (.int .i64 0))))]⟩,
    ⟨some (58, false), .bst (some 61) [(0, 1), (1, 1), (2, 1), (3, 1)] (.agg [(.lit (.int .i64 0)), (.lit (.bool false)), (.lit (.slice none 0 0)), (.lit (.int .i64 0))]) []⟩,
    ⟨some (58, false), .call (some 62) false (.f 25) [(.r 59), (.r 60), (.r 61)]⟩,
    ⟨some (58, false), .un (some 63) .not (.r 62)⟩,
    ⟨none, .pick (some 64) (.r 58) (.c (.lit (.bool true))) (.r 63)⟩,
    ⟨none, .mv (some 65) (.r 64)⟩,
    ⟨some (65, false), .mv (some 66) (.r 1)⟩,
    ⟨some (65, false), .bst (some 67) [(0, 1), (1, 1), (2, 1)] (.agg [(.lit (.int .i64 0)), (.lit (.int .i64 0)), (.lit (.int .i64 0))]) [(0, (.c (.lit (.int .i64 1)))), (1, (.c (.lit (.int .i64 3)))), (2, (.c (.lit (.int .i64 0))))]⟩,
    ⟨some (65, false), .bst (some 68) [(0, 1), (1, 1), (2, 1), (3, 1)] (.agg [(.lit (.int .i64 0)), (.lit (.bool false)), (.lit (.slice none 0 0)), (.lit (.int .i64 0))]) []⟩,
    ⟨some (65, false), .call (some 69) false (.f 25) [(.r 66), (.r 67), (.r 68)]⟩,
    ⟨some (65, false), .un (some 70) .not (.r 69)⟩,
    ⟨none, .pick (some 71) (.r 65) (.c (.lit (.bool true))) (.r 70)⟩]
def f10_19 : AC := .ops [1, 71] [] f10_19l
theorem f10_19e : aC P id m f10_19 sf st Q = runI P id m f10_19l (opsK [1, 71] [] Q) sf st := rfl
def f10_22l : List GI := [⟨none, .mv (some 0) (.c (.lit (.bool false)))⟩]
def f10_22 : AC := .ops [0] [] f10_22l
theorem f10_22e : aC P id m f10_22 sf st Q = runI P id m f10_22l (opsK [0] [] Q) sf st := rfl
def f10_21 : AC := .seq f10_22 .ret
theorem f10_21e : aC P id m f10_21 sf st Q = aC P id m f10_22 sf st (seqQ (aC P id m .ret) Q) := rfl
def f10_20 : AC := .cond (.r 71) f10_21 .skip
theorem f10_20e : aC P id m f10_20 sf st Q = condI (.r 71) (sf.ev id (.r 71)) (aC P id m f10_21) (aC P id m .skip) sf st Q := rfl
def f10_18 : AC := .seq f10_19 f10_20
theorem f10_18e : aC P id m f10_18 sf st Q = aC P id m f10_19 sf st (seqQ (aC P id m f10_20) Q) := rfl
def f10_25l : List GI := [⟨none, .mv (some 72) (.r 1)⟩,
    ⟨none, .bst (some 73) [(0, 1), (1, 1), (2, 1)] (.agg [(.lit (.int .i64 0)), (.lit (.int .i64 0)), (.lit (.int .i64 0))]) [(0, (.c (.lit (.int .i64 0)))), (1, (.c (.lit (.int .i64 0)))), (2, (.c (.lit (.int .i64 9))))]⟩,
    ⟨none, .bst (some 74) [(0, 1), (1, 1), (2, 1), (3, 1)] (.agg [(.lit (.int .i64 0)), (.lit (.int .i64 0)), (.lit (.int .i64 0)), (.lit (.int .i64 0))]) [(0, (.c (.lit (.int .i64 2)))), (2, (.c (.lit (.int .i64 9))))]⟩,
    ⟨none, .bsl (some 75) 4 1 (.agg [(.lit (.int .i64 0)), (.lit (.int .i64 0)), (.lit (.int .i64 0)), (.lit (.int .i64 0))]) [(0, (.r 74))]⟩,
    ⟨none, .bst (some 76) [(0, 1), (1, 1), (2, 1), (3, 1)] (.agg [(.lit (.int .i64 0)), (.lit (.bool false)), (.lit (.slice none 0 0)), (.lit (.int .i64 0))]) [(1, (.c (.lit (.bool true)))), (2, (.r 75))]⟩,
    ⟨none, .call (some 77) false (.f 25) [(.r 72), (.r 73), (.r 76)]⟩,
    ⟨none, .un (some 78) .not (.r 77)⟩]
def f10_25 : AC := .ops [1, 78] [] f10_25l
theorem f10_25e : aC P id m f10_25 sf st Q = runI P id m f10_25l (opsK [1, 78] [] Q) sf st := rfl
def f10_28l : List GI := [⟨none, .mv (some 0) (.c (.lit (.bool false)))⟩]
def f10_28 : AC := .ops [0] [] f10_28l
theorem f10_28e : aC P id m f10_28 sf st Q = runI P id m f10_28l (opsK [0] [] Q) sf st := rfl
def f10_27 : AC := .seq f10_28 .ret
theorem f10_27e : aC P id m f10_27 sf st Q = aC P id m f10_28 sf st (seqQ (aC P id m .ret) Q) := rfl
def f10_26 : AC := .cond (.r 78) f10_27 .skip
theorem f10_26e : aC P id m f10_26 sf st Q = condI (.r 78) (sf.ev id (.r 78)) (aC P id m f10_27) (aC P id m .skip) sf st Q := rfl
def f10_24 : AC := .seq f10_25 f10_26
theorem f10_24e : aC P id m f10_24 sf st Q = aC P id m f10_25 sf st (seqQ (aC P id m f10_26) Q) := rfl
def f10_30l : List GI := [⟨none, .mv (some 79) (.r 1)⟩,
    ⟨none, .bst (some 80) [(0, 1), (1, 1), (2, 1)] (.agg [(.lit (.int .i64 0)), (.lit (.int .i64 0)), (.lit (.int .i64 0))]) [(0, (.c (.lit (.int .i64 5)))), (1, (.c (.lit (.int .i64 0)))), (2, (.c (.lit (.int .i64 0))))]⟩,
    ⟨none, .bst (some 81) [(0, 1), (1, 1), (2, 1), (3, 1)] (.agg [(.lit (.int .i64 0)), (.lit (.int .i64 0)), (.lit (.int .i64 0)), (.lit (.int .i64 0))]) [(0, (.c (.lit (.int .i64 3)))), (3, (.c (.lit (.int .i64 13))))]⟩,
    ⟨none, .bsl (some 82) 4 1 (.agg [(.lit (.int .i64 0)), (.lit (.int .i64 0)), (.lit (.int .i64 0)), (.lit (.int .i64 0))]) [(0, (.r 81))]⟩,
    ⟨none, .bst (some 83) [(0, 1), (1, 1), (2, 1), (3, 1)] (.agg [(.lit (.int .i64 0)), (.lit (.bool false)), (.lit (.slice none 0 0)), (.lit (.int .i64 0))]) [(2, (.r 82))]⟩,
    ⟨none, .call (some 84) false (.f 25) [(.r 79), (.r 80), (.r 83)]⟩,
    ⟨none, .mv (some 85) (.r 84)⟩,
    ⟨some (85, true), .mv (some 86) (.r 1)⟩,
    ⟨some (85, true), .bst (some 87) [(0, 1), (1, 1), (2, 1)] (.agg [(.lit (.int .i64 0)), (.lit (.int .i64 0)), (.lit (.int .i64 0))]) [(0, (.c (.lit (.int .i64 1)))), (1, (.c (.lit (.int .i64 0)))), (2, (.c (.lit (.int .i64 0))))]⟩,
    ⟨some (85, true), .bst (some 88) [(0, 1), (1, 1), (2, 1), (3, 1)] (.agg [(.lit (.int .i64 0)), (.lit (.bool false)), (.lit (.slice none 0 0)), (.lit (.int .i64 0))]) [(3, (.c (.lit (.int .i64 13))))]⟩,
    ⟨some (85, true), .call (some 89) false (.f 25) [(.r 86), (.r 87), (.r 88)]⟩,
    ⟨none, .pick (some 90) (.r 85) (.r 89) (.c (.lit (.bool false)))⟩,
    ⟨none, .mv (some 91) (.r 90)⟩,
    ⟨some (91, true), .mv (some 92) (.r 1)⟩,
    ⟨some (91, true), .bst (some 93) [(0, 1), (1, 1), (2, 1)] (.agg [(.lit (.int .i64 0)), (.lit (.int .i64 0)), (.lit (.int .i64 0))]) [(0, (.c (.lit (.int .i64 0)))), (1, (.c (.lit (.int .i64 0)))), (2, (.c (.lit (.int .i64 1))))]⟩,
    ⟨some (91, true), .bst (some 94) [(0, 1), (1, 1), (2, 1), (3, 1)] (.agg [(.lit (.int .i64 0)), (.lit (.bool false)), (.lit (.slice none 0 0)), (.lit (.int .i64 0))]) [(3, (.c (.lit (.int .i64 14))))]⟩,
    ⟨some (91, true), .call (some 95) false (.f 25) [(.r 92), (.r 93), (.r 94)]⟩,
    ⟨none, .pick (some 96) (.r 91) (.r 95) (.c (.lit (.bool false)))⟩,
    ⟨none, .own 0 96⟩]
def f10_30 : AC := .ops [0] [] f10_30l
theorem f10_30e : aC P id m f10_30 sf st Q = runI P id m f10_30l (opsK [0] [] Q) sf st := rfl
def f10_29 : AC := .seq f10_30 .ret
theorem f10_29e : aC P id m f10_29 sf st Q = aC P id m f10_30 sf st (seqQ (aC P id m .ret) Q) := rfl
def f10_23 : AC := .seq f10_24 f10_29
theorem f10_23e : aC P id m f10_23 sf st Q = aC P id m f10_24 sf st (seqQ (aC P id m f10_29) Q) := rfl
def f10_17 : AC := .seq f10_18 f10_23
theorem f10_17e : aC P id m f10_17 sf st Q = aC P id m f10_18 sf st (seqQ (aC P id m f10_23) Q) := rfl
def f10_11 : AC := .seq f10_12 f10_17
theorem f10_11e : aC P id m f10_11 sf st Q = aC P id m f10_12 sf st (seqQ (aC P id m f10_17) Q) := rfl
def f10_5 : AC := .seq f10_6 f10_11
theorem f10_5e : aC P id m f10_5 sf st Q = aC P id m f10_6 sf st (seqQ (aC P id m f10_11) Q) := rfl
def f10_3 : AC := .seq f10_4 f10_5
theorem f10_3e : aC P id m f10_3 sf st Q = aC P id m f10_4 sf st (seqQ (aC P id m f10_5) Q) := rfl
def f10_1 : AC := .seq f10_2 f10_3
theorem f10_1e : aC P id m f10_1 sf st Q = aC P id m f10_2 sf st (seqQ (aC P id m f10_3) Q) := rfl
def c_f10 : AFun := ⟨97, [.tmp 0], f10_1⟩
theorem k_f10 : compF Go.Proofs.Try.prog x_f10 10 = some c_f10 := by kernel_rfl
theorem e_f10 : enterB Go.Proofs.Try.prog 10 = true := by kernel_rfl

def n_f11 : Nat := 11
def x_f11 : Cx := ⟨some, id, 78, fun s => ([0, 1, 6, 8, 9, 10, 11, 12, 13, 16, 17, 18, 20, 22, 23, 24, 25, 26, 30, 31, 32, 34, 35, 36, 37, 38, 39, 44, 45, 46, 48, 49, 50, 51, 53, 54, 57, 58, 59, 60, 61, 62, 63, 66, 67, 70, 71, 73, 74, 75, 77] : List Nat).contains s, fun s => ([] : List Nat).contains s, msOf [(2, [0, 3, 4], [3, 4]), (6, [0, 3, 4, 5], [3, 4, 5]), (14, [0, 3, 4, 5], [3, 4, 5]), (60, [0, 3, 4, 5, 8], [3, 4, 5]), (244, [0, 3, 4, 5, 8, 15], [3, 4, 5]), (490, [4, 5, 6], [4, 5]), (982, [0, 3, 4, 5, 8, 29], [3, 4, 5]), (1966, [4, 5, 6], [4, 5]), (3934, [0, 3, 4, 5, 8, 43], [3, 4, 5]), (15740, [4, 5, 6], [4, 5]), (15741, [4, 5, 6], [4, 5]), (15742, [0, 3, 4, 5, 8, 56], [3, 4, 5]), (62972, [4, 5, 6], [4, 5]), (62973, [4, 5, 6], [4, 5]), (62974, [0, 3, 4, 5, 69], [3, 4, 5]), (125950, [4, 5, 6], [4, 5]), (125951, [4, 5, 6], [4, 5]), (62, [4, 5], [4, 5]), (126, [4], [4])]⟩
def f11_2l : List GI := [⟨none, .boxL 3 3 (.r 1)⟩,
    ⟨none, .newL 4 [(.lit (.int .i64 0)), (.lit (.bool false)), (.lit (.slice none 0 0)), (.lit (.int .i64 0))]⟩]
def f11_2 : AC := .ops [0, 3, 4] [3, 4] f11_2l
theorem f11_2e : aC P id m f11_2 sf st Q = runI P id m f11_2l (opsK [0, 3, 4] [3, 4] Q) sf st := rfl
def f11_4l : List GI := [⟨none, .newL 5 [(.lit (.int .i64 0)), (.lit (.bool false)), (.lit (.slice none 0 0)), (.lit (.int .i64 0))]⟩]
def f11_4 : AC := .ops [0, 3, 4, 5] [3, 4, 5] f11_4l
theorem f11_4e : aC P id m f11_4 sf st Q = runI P id m f11_4l (opsK [0, 3, 4, 5] [3, 4, 5] Q) sf st := rfl
def f11_6l : List GI := [⟨none, .mv (some 6) (.c (.lit (.int .i64 0)))⟩]
def f11_6 : AC := .ops [0, 3, 4, 5] [3, 4, 5] f11_6l
theorem f11_6e : aC P id m f11_6 sf st Q = runI P id m f11_6l (opsK [0, 3, 4, 5] [3, 4, 5] Q) sf st := rfl
def f11_9l : List GI := [⟨none, .addr (some 7) (.r 3) 0⟩,
    ⟨none, .load (some 8) (.r 7) none⟩]
def f11_9 : AC := .ops [0, 3, 4, 5, 8] [3, 4, 5] f11_9l
theorem f11_9e : aC P id m f11_9 sf st Q = runI P id m f11_9l (opsK [0, 3, 4, 5, 8] [3, 4, 5] Q) sf st := rfl
def f11_12l : List GI := [⟨none, .bin (some 16) .num .eql (.r 8) (.c (.lit (.int .i64 0)))⟩,
    ⟨none, .own 15 16⟩]
def f11_12 : AC := .ops [0, 3, 4, 5, 8, 15] [3, 4, 5] f11_12l
theorem f11_12e : aC P id m f11_12 sf st Q = runI P id m f11_12l (opsK [0, 3, 4, 5, 8, 15] [3, 4, 5] Q) sf st := rfl
def f11_14l : List GI := [⟨none, .mv (some 18) (.r 0)⟩,
    ⟨none, .addr (some 19) (.r 3) 1⟩,
    ⟨none, .load (some 20) (.r 19) none⟩,
    ⟨none, .addr (some 21) (.r 3) 2⟩,
    ⟨none, .load (some 22) (.r 21) none⟩,
    ⟨none, .call (some 23) false (.f 26) [(.r 18), (.r 20), (.r 22)]⟩,
    ⟨none, .mv (some 17) (.r 23)⟩,
    ⟨none, .ext (some 24) (.r 17) 0⟩,
    ⟨none, .ext (some 25) (.r 17) 1⟩,
    ⟨none, .ext (some 26) (.r 17) 2⟩,
    ⟨none, .addr (some 27) (.r 5) 1⟩,
    ⟨none, .store 1 (.r 27) (.r 24)⟩,
    ⟨none, .addr (some 28) (.r 5) 2⟩,
    ⟨none, .store 1 (.r 28) (.r 25)⟩,
    ⟨none, .own 6 26⟩]
def f11_14 : AC := .ops [4, 5, 6] [4, 5] f11_14l
theorem f11_14e : aC P id m f11_14 sf st Q = runI P id m f11_14l (opsK [4, 5, 6] [4, 5] Q) sf st := rfl
def f11_16l : List GI := [⟨none, .bin (some 30) .num .eql (.r 8) (.c (.lit (.int .i64 1)))⟩,
    ⟨none, .own 29 30⟩]
def f11_16 : AC := .ops [0, 3, 4, 5, 8, 29] [3, 4, 5] f11_16l
theorem f11_16e : aC P id m f11_16 sf st Q = runI P id m f11_16l (opsK [0, 3, 4, 5, 8, 29] [3, 4, 5] Q) sf st := rfl
def f11_18l : List GI := [⟨none, .mv (some 32) (.r 0)⟩,
    ⟨none, .addr (some 33) (.r 3) 1⟩,
    ⟨none, .load (some 34) (.r 33) none⟩,
    ⟨none, .call (some 35) false (.f 27) [(.r 32), (.r 34)]⟩,
    ⟨none, .mv (some 31) (.r 35)⟩,
    ⟨none, .ext (some 36) (.r 31) 0⟩,
    ⟨none, .ext (some 37) (.r 31) 1⟩,
    ⟨none, .ext (some 38) (.r 31) 2⟩,
    ⟨none, .ext (some 39) (.r 31) 3⟩,
    ⟨none, .addr (some 40) (.r 5) 0⟩,
    ⟨none, .store 1 (.r 40) (.r 36)⟩,
    ⟨none, .addr (some 41) (.r 5) 1⟩,
    ⟨none, .store 1 (.r 41) (.r 37)⟩,
    ⟨none, .addr (some 42) (.r 5) 2⟩,
    ⟨none, .store 1 (.r 42) (.r 38)⟩,
    ⟨none, .own 6 39⟩]
def f11_18 : AC := .ops [4, 5, 6] [4, 5] f11_18l
theorem f11_18e : aC P id m f11_18 sf st Q = runI P id m f11_18l (opsK [4, 5, 6] [4, 5] Q) sf st := rfl
def f11_20l : List GI := [⟨none, .bin (some 44) .num .eql (.r 8) (.c (.lit (.int .i64 2)))⟩,
    ⟨none, .own 43 44⟩]
def f11_20 : AC := .ops [0, 3, 4, 5, 8, 43] [3, 4, 5] f11_20l
theorem f11_20e : aC P id m f11_20 sf st Q = runI P id m f11_20l (opsK [0, 3, 4, 5, 8, 43] [3, 4, 5] Q) sf st := rfl
def f11_23l : List GI := [⟨none, .mv (some 46) (.r 0)⟩,
    ⟨none, .addr (some 47) (.r 3) 2⟩,
    ⟨none, .load (some 48) (.r 47) none⟩,
    ⟨none, .call (some 49) false (.f 21) [(.r 46), (.r 48)]⟩,
    ⟨none, .mv (some 45) (.r 49)⟩,
    ⟨none, .ext (some 50) (.r 45) 0⟩,
    ⟨none, .ext (some 51) (.r 45) 1⟩,
    ⟨none, .addr (some 52) (.r 5) 2⟩,
    ⟨none, .store 1 (.r 52) (.r 50)⟩,
    ⟨none, .own 6 51⟩]
def f11_23 : AC := .ops [4, 5, 6] [4, 5] f11_23l
theorem f11_23e : aC P id m f11_23 sf st Q = runI P id m f11_23l (opsK [4, 5, 6] [4, 5] Q) sf st := rfl
def f11_24l : List GI := [⟨none, .mv (some 53) (.r 6)⟩,
    ⟨none, .bin (some 54) .num .eql (.r 53) (.c (.lit (.int .i64 0)))⟩,
    ⟨none, .addr (some 55) (.r 5) 1⟩,
    ⟨none, .store 1 (.r 55) (.r 54)⟩]
def f11_24 : AC := .ops [4, 5, 6] [4, 5] f11_24l
theorem f11_24e : aC P id m f11_24 sf st Q = runI P id m f11_24l (opsK [4, 5, 6] [4, 5] Q) sf st := rfl
def f11_22 : AC := .seq f11_23 f11_24
theorem f11_22e : aC P id m f11_22 sf st Q = aC P id m f11_23 sf st (seqQ (aC P id m f11_24) Q) := rfl
def f11_26l : List GI := [⟨none, .bin (some 57) .num .eql (.r 8) (.c (.lit (.int .i64 3)))⟩,
    ⟨none, .own 56 57⟩]
def f11_26 : AC := .ops [0, 3, 4, 5, 8, 56] [3, 4, 5] f11_26l
theorem f11_26e : aC P id m f11_26 sf st Q = runI P id m f11_26l (opsK [0, 3, 4, 5, 8, 56] [3, 4, 5] Q) sf st := rfl
def f11_29l : List GI := [⟨none, .mv (some 59) (.r 0)⟩,
    ⟨none, .call (some 60) false (.f 20) [(.r 59)]⟩,
    ⟨none, .mv (some 58) (.r 60)⟩,
    ⟨none, .ext (some 61) (.r 58) 0⟩,
    ⟨none, .ext (some 62) (.r 58) 1⟩,
    ⟨none, .ext (some 63) (.r 58) 2⟩,
    ⟨none, .addr (some 64) (.r 5) 0⟩,
    ⟨none, .store 1 (.r 64) (.r 61)⟩,
    ⟨none, .addr (some 65) (.r 5) 2⟩,
    ⟨none, .store 1 (.r 65) (.r 62)⟩,
    ⟨none, .own 6 63⟩]
def f11_29 : AC := .ops [4, 5, 6] [4, 5] f11_29l
theorem f11_29e : aC P id m f11_29 sf st Q = runI P id m f11_29l (opsK [4, 5, 6] [4, 5] Q) sf st := rfl
def f11_30l : List GI := [⟨none, .mv (some 66) (.r 6)⟩,
    ⟨none, .bin (some 67) .num .eql (.r 66) (.c (.lit (.int .i64 0)))⟩,
    ⟨none, .addr (some 68) (.r 5) 1⟩,
    ⟨none, .store 1 (.r 68) (.r 67)⟩]
def f11_30 : AC := .ops [4, 5, 6] [4, 5] f11_30l
theorem f11_30e : aC P id m f11_30 sf st Q = runI P id m f11_30l (opsK [4, 5, 6] [4, 5] Q) sf st := rfl
def f11_28 : AC := .seq f11_29 f11_30
theorem f11_28e : aC P id m f11_28 sf st Q = aC P id m f11_29 sf st (seqQ (aC P id m f11_30) Q) := rfl
def f11_32l : List GI := [⟨none, .bin (some 70) .num .eql (.r 8) (.c (.lit (.int .i64 4)))⟩,
    ⟨none, .own 69 70⟩]
def f11_32 : AC := .ops [0, 3, 4, 5, 69] [3, 4, 5] f11_32l
theorem f11_32e : aC P id m f11_32 sf st Q = runI P id m f11_32l (opsK [0, 3, 4, 5, 69] [3, 4, 5] Q) sf st := rfl
def f11_34l : List GI := [⟨none, .mv (some 71) (.r 0)⟩,
    ⟨none, .addr (some 72) (.r 3) 1⟩,
    ⟨none, .load (some 73) (.r 72) none⟩,
    ⟨none, .call (some 74) false (.f 28) [(.r 71), (.r 73)]⟩,
    ⟨none, .own 6 74⟩]
def f11_34 : AC := .ops [4, 5, 6] [4, 5] f11_34l
theorem f11_34e : aC P id m f11_34 sf st Q = runI P id m f11_34l (opsK [4, 5, 6] [4, 5] Q) sf st := rfl
def f11_35l : List GI := [⟨none, .mv (some 10) (.r 0)⟩,
    ⟨none, .call (some 11) false (.f 19) [(.r 10)]⟩,
    ⟨none, .mv (some 9) (.r 11)⟩,
    ⟨none, .ext (some 12) (.r 9) 0⟩,
    ⟨none, .ext (some 13) (.r 9) 1⟩,
    ⟨none, .addr (some 14) (.r 5) 2⟩,
    ⟨none, .store 1 (.r 14) (.r 12)⟩,
    ⟨none, .own 6 13⟩]
def f11_35 : AC := .ops [4, 5, 6] [4, 5] f11_35l
theorem f11_35e : aC P id m f11_35 sf st Q = runI P id m f11_35l (opsK [4, 5, 6] [4, 5] Q) sf st := rfl
def f11_33 : AC := .cond (.r 69) f11_34 f11_35
theorem f11_33e : aC P id m f11_33 sf st Q = condI (.r 69) (sf.ev id (.r 69)) (aC P id m f11_34) (aC P id m f11_35) sf st Q := rfl
def f11_31 : AC := .seq f11_32 f11_33
theorem f11_31e : aC P id m f11_31 sf st Q = aC P id m f11_32 sf st (seqQ (aC P id m f11_33) Q) := rfl
def f11_27 : AC := .cond (.r 56) f11_28 f11_31
theorem f11_27e : aC P id m f11_27 sf st Q = condI (.r 56) (sf.ev id (.r 56)) (aC P id m f11_28) (aC P id m f11_31) sf st Q := rfl
def f11_25 : AC := .seq f11_26 f11_27
theorem f11_25e : aC P id m f11_25 sf st Q = aC P id m f11_26 sf st (seqQ (aC P id m f11_27) Q) := rfl
def f11_21 : AC := .cond (.r 43) f11_22 f11_25
theorem f11_21e : aC P id m f11_21 sf st Q = condI (.r 43) (sf.ev id (.r 43)) (aC P id m f11_22) (aC P id m f11_25) sf st Q := rfl
def f11_19 : AC := .seq f11_20 f11_21
theorem f11_19e : aC P id m f11_19 sf st Q = aC P id m f11_20 sf st (seqQ (aC P id m f11_21) Q) := rfl
def f11_17 : AC := .cond (.r 29) f11_18 f11_19
theorem f11_17e : aC P id m f11_17 sf st Q = condI (.r 29) (sf.ev id (.r 29)) (aC P id m f11_18) (aC P id m f11_19) sf st Q := rfl
def f11_15 : AC := .seq f11_16 f11_17
theorem f11_15e : aC P id m f11_15 sf st Q = aC P id m f11_16 sf st (seqQ (aC P id m f11_17) Q) := rfl
def f11_13 : AC := .cond (.r 15) f11_14 f11_15
theorem f11_13e : aC P id m f11_13 sf st Q = condI (.r 15) (sf.ev id (.r 15)) (aC P id m f11_14) (aC P id m f11_15) sf st Q := rfl
def f11_11 : AC := .seq f11_12 f11_13
theorem f11_11e : aC P id m f11_11 sf st Q = aC P id m f11_12 sf st (seqQ (aC P id m f11_13) Q) := rfl
def f11_10 : AC := .block 0 f11_11
theorem f11_10e : aC P id m f11_10 sf st Q = aC P id m f11_11 sf st (blockQ 0 Q) := rfl
def f11_8 : AC := .seq f11_9 f11_10
theorem f11_8e : aC P id m f11_8 sf st Q = aC P id m f11_9 sf st (seqQ (aC P id m f11_10) Q) := rfl
def f11_37l : List GI := [⟨none, .mv (some 75) (.r 6)⟩,
    ⟨none, .addr (some 76) (.r 5) 3⟩,
    ⟨none, .store 1 (.r 76) (.r 75)⟩]
def f11_37 : AC := .ops [4, 5] [4, 5] f11_37l
theorem f11_37e : aC P id m f11_37 sf st Q = runI P id m f11_37l (opsK [4, 5] [4, 5] Q) sf st := rfl
def f11_39l : List GI := [⟨none, .load (some 77) (.r 5) (some 4)⟩,
    ⟨none, .store 4 (.r 4) (.r 77)⟩]
def f11_39 : AC := .ops [4] [4] f11_39l
theorem f11_39e : aC P id m f11_39 sf st Q = runI P id m f11_39l (opsK [4] [4] Q) sf st := rfl
def f11_38 : AC := .seq f11_39 .ret
theorem f11_38e : aC P id m f11_38 sf st Q = aC P id m f11_39 sf st (seqQ (aC P id m .ret) Q) := rfl
def f11_36 : AC := .seq f11_37 f11_38
theorem f11_36e : aC P id m f11_36 sf st Q = aC P id m f11_37 sf st (seqQ (aC P id m f11_38) Q) := rfl
def f11_7 : AC := .seq f11_8 f11_36
theorem f11_7e : aC P id m f11_7 sf st Q = aC P id m f11_8 sf st (seqQ (aC P id m f11_36) Q) := rfl
def f11_5 : AC := .seq f11_6 f11_7
theorem f11_5e : aC P id m f11_5 sf st Q = aC P id m f11_6 sf st (seqQ (aC P id m f11_7) Q) := rfl
def f11_3 : AC := .seq f11_4 f11_5
theorem f11_3e : aC P id m f11_3 sf st Q = aC P id m f11_4 sf st (seqQ (aC P id m f11_5) Q) := rfl
def f11_1 : AC := .seq f11_2 f11_3
theorem f11_1e : aC P id m f11_1 sf st Q = aC P id m f11_2 sf st (seqQ (aC P id m f11_3) Q) := rfl
def c_f11 : AFun := ⟨78, [.cell 4 (some 4)], f11_1⟩
theorem k_f11 : compF Go.Proofs.Try.prog x_f11 11 = some c_f11 := by kernel_rfl
theorem e_f11 : enterB Go.Proofs.Try.prog 11 = true := by kernel_rfl

def n_f12 : Nat := 12
def x_f12 : Cx := ⟨some, id, 18, fun s => ([0, 2, 3, 4, 10, 11, 16, 17] : List Nat).contains s, fun s => ([] : List Nat).contains s, msOf [(2, [0], []), (12, [0, 5], []), (52, [2, 3], []), (14, [2, 3], [])]⟩
def f12_2l : List GI := [⟨none, .mv (some 2) (.c (.lit (.int .i64 0)))⟩,
    ⟨none, .mv (some 3) (.c (.lit (.int .i64 0)))⟩]
def f12_2 : AC := .ops [0] [] f12_2l
theorem f12_2e : aC P id m f12_2 sf st Q = runI P id m f12_2l (opsK [0] [] Q) sf st := rfl
def f12_5l : List GI := [⟨none, .mv (some 4) (.r 0)⟩,
    ⟨none, .call (some 5) false (.f 29) [(.r 4)]⟩]
def f12_5 : AC := .ops [0, 5] [] f12_5l
theorem f12_5e : aC P id m f12_5 sf st Q = runI P id m f12_5l (opsK [0, 5] [] Q) sf st := rfl
def f12_8l : List GI := [⟨none, .mv (some 2) (.c (.lit (.int .i64 0)))⟩,
    ⟨none, .mv (some 3) (.c (.lit (.int .i64 0)))⟩]
def f12_8 : AC := .ops [2, 3] [] f12_8l
theorem f12_8e : aC P id m f12_8 sf st Q = runI P id m f12_8l (opsK [2, 3] [] Q) sf st := rfl
def f12_7 : AC := .seq f12_8 .ret
theorem f12_7e : aC P id m f12_7 sf st Q = aC P id m f12_8 sf st (seqQ (aC P id m .ret) Q) := rfl
def f12_6 : AC := .cond (.r 5) f12_7 .skip
theorem f12_6e : aC P id m f12_6 sf st Q = condI (.r 5) (sf.ev id (.r 5)) (aC P id m f12_7) (aC P id m .skip) sf st Q := rfl
def f12_4 : AC := .seq f12_5 f12_6
theorem f12_4e : aC P id m f12_4 sf st Q = aC P id m f12_5 sf st (seqQ (aC P id m f12_6) Q) := rfl
def f12_10h : List GI := [⟨none, .mv (some 6) (.r 0)⟩,
    ⟨none, .nilck (some 7) (.r 6)⟩,
    ⟨none, .addr (some 8) (.r 7) 4⟩,
    ⟨none, .ixA (some 9) (.r 8) (.c (.lit (.int .i64 0))) 2 1⟩,
    ⟨none, .load (some 10) (.r 9) none⟩,
    ⟨none, .call (some 11) true (.f 30) [(.r 10)]⟩,
    ⟨none, .mv (some 12) (.r 0)⟩,
    ⟨none, .nilck (some 13) (.r 12)⟩,
    ⟨none, .addr (some 14) (.r 13) 4⟩,
    ⟨none, .ixA (some 15) (.r 14) (.c (.lit (.int .i64 1))) 2 1⟩,
    ⟨none, .load (some 16) (.r 15) none⟩]
def f12_10l : List GI := [⟨none, .call (some 17) false (.f 30) [(.r 16)]⟩,
    ⟨none, .own 2 11⟩,
    ⟨none, .own 3 17⟩]
def f12_10 : AC := .draw [2, 3] [] [] f12_10h f12_10l
theorem f12_10e : aC P id m f12_10 sf st Q = headI P id sf.locs st f12_10h (tailK P id m [] [2, 3] [] f12_10l Q st) [] ⟨sf.regs, dropL [] sf.locs⟩ := rfl
def f12_9 : AC := .seq f12_10 .ret
theorem f12_9e : aC P id m f12_9 sf st Q = aC P id m f12_10 sf st (seqQ (aC P id m .ret) Q) := rfl
def f12_3 : AC := .seq f12_4 f12_9
theorem f12_3e : aC P id m f12_3 sf st Q = aC P id m f12_4 sf st (seqQ (aC P id m f12_9) Q) := rfl
def f12_1 : AC := .seq f12_2 f12_3
theorem f12_1e : aC P id m f12_1 sf st Q = aC P id m f12_2 sf st (seqQ (aC P id m f12_3) Q) := rfl
def c_f12 : AFun := ⟨18, [.tmp 2, .tmp 3], f12_1⟩
theorem k_f12 : compF Go.Proofs.Try.prog x_f12 12 = some c_f12 := by kernel_rfl
theorem e_f12 : enterB Go.Proofs.Try.prog 12 = true := by kernel_rfl

def n_f13 : Nat := 13
def x_f13 : Cx := ⟨some, id, 10, fun s => ([0, 2, 3, 8, 9] : List Nat).contains s, fun s => ([] : List Nat).contains s, msOf [(2, [0], []), (12, [0, 4], []), (52, [2], []), (14, [2], [])]⟩
def f13_2l : List GI := [⟨none, .mv (some 2) (.c (.lit (.int .i64 0)))⟩]
def f13_2 : AC := .ops [0] [] f13_2l
theorem f13_2e : aC P id m f13_2 sf st Q = runI P id m f13_2l (opsK [0] [] Q) sf st := rfl
def f13_5l : List GI := [⟨none, .mv (some 3) (.r 0)⟩,
    ⟨none, .call (some 4) false (.f 29) [(.r 3)]⟩]
def f13_5 : AC := .ops [0, 4] [] f13_5l
theorem f13_5e : aC P id m f13_5 sf st Q = runI P id m f13_5l (opsK [0, 4] [] Q) sf st := rfl
def f13_8l : List GI := [⟨none, .mv (some 2) (.c (.lit (.int .i64 0)))⟩]
def f13_8 : AC := .ops [2] [] f13_8l
theorem f13_8e : aC P id m f13_8 sf st Q = runI P id m f13_8l (opsK [2] [] Q) sf st := rfl
def f13_7 : AC := .seq f13_8 .ret
theorem f13_7e : aC P id m f13_7 sf st Q = aC P id m f13_8 sf st (seqQ (aC P id m .ret) Q) := rfl
def f13_6 : AC := .cond (.r 4) f13_7 .skip
theorem f13_6e : aC P id m f13_6 sf st Q = condI (.r 4) (sf.ev id (.r 4)) (aC P id m f13_7) (aC P id m .skip) sf st Q := rfl
def f13_4 : AC := .seq f13_5 f13_6
theorem f13_4e : aC P id m f13_4 sf st Q = aC P id m f13_5 sf st (seqQ (aC P id m f13_6) Q) := rfl
def f13_10l : List GI := [⟨none, .mv (some 5) (.r 0)⟩,
    ⟨none, .nilck (some 6) (.r 5)⟩,
    ⟨none, .addr (some 7) (.r 6) 3⟩,
    ⟨none, .load (some 8) (.r 7) none⟩,
    ⟨none, .len (some 9) .sl (.r 8)⟩,
    ⟨none, .own 2 9⟩]
def f13_10 : AC := .ops [2] [] f13_10l
theorem f13_10e : aC P id m f13_10 sf st Q = runI P id m f13_10l (opsK [2] [] Q) sf st := rfl
def f13_9 : AC := .seq f13_10 .ret
theorem f13_9e : aC P id m f13_9 sf st Q = aC P id m f13_10 sf st (seqQ (aC P id m .ret) Q) := rfl
def f13_3 : AC := .seq f13_4 f13_9
theorem f13_3e : aC P id m f13_3 sf st Q = aC P id m f13_4 sf st (seqQ (aC P id m f13_9) Q) := rfl
def f13_1 : AC := .seq f13_2 f13_3
theorem f13_1e : aC P id m f13_1 sf st Q = aC P id m f13_2 sf st (seqQ (aC P id m f13_3) Q) := rfl
def c_f13 : AFun := ⟨10, [.tmp 2], f13_1⟩
theorem k_f13 : compF Go.Proofs.Try.prog x_f13 13 = some c_f13 := by kernel_rfl
theorem e_f13 : enterB Go.Proofs.Try.prog 13 = true := by kernel_rfl

def n_f14 : Nat := 14
def x_f14 : Cx := ⟨some, id, 13, fun s => ([0, 3, 4, 5, 6, 7, 8, 10, 11, 12] : List Nat).contains s, fun s => ([] : List Nat).contains s, msOf [(2, [0, 2], [2]), (12, [0, 2, 9], [2]), (52, [2, 3], [2]), (14, [2, 3], [2])]⟩
def f14_2l : List GI := [⟨none, .newL 2 [(.lit (.int .i64 0)), (.lit (.slice none 0 0)), (.lit (.slice none 0 0)), (.lit (.slice none 0 0)), (.lit (.bool false))]⟩,
    ⟨none, .mv (some 3) (.c (.lit (.int .i64 0)))⟩]
def f14_2 : AC := .ops [0, 2] [2] f14_2l
theorem f14_2e : aC P id m f14_2 sf st Q = runI P id m f14_2l (opsK [0, 2] [2] Q) sf st := rfl
def f14_5l : List GI := [⟨none, .mv (some 4) (.r 0)⟩,
    ⟨none, .bin (some 5) .num .lss (.r 4) (.c (.lit (.int .i64 0)))⟩,
    ⟨none, .mv (some 6) (.r 5)⟩,
    ⟨some (6, false), .mv (some 7) (.r 0)⟩,
    ⟨some (6, false), .bin (some 8) .num .gtr (.r 7) (.c (.lit (.int .i64 4096)))⟩,
    ⟨none, .pick (some 9) (.r 6) (.c (.lit (.bool true))) (.r 8)⟩]
def f14_5 : AC := .ops [0, 2, 9] [2] f14_5l
theorem f14_5e : aC P id m f14_5 sf st Q = runI P id m f14_5l (opsK [0, 2, 9] [2] Q) sf st := rfl
def f14_8l : List GI := [⟨none, .bst (some 10) [(0, 1), (1, 1), (2, 1), (3, 1), (4, 1)] (.agg [(.lit (.int .i64 0)), (.lit (.slice none 0 0)), (.lit (.slice none 0 0)), (.lit (.slice none 0 0)), (.lit (.bool false))]) []⟩,
    ⟨none, .store 5 (.r 2) (.r 10)⟩,
    ⟨none, .mv (some 3) (.c (.lit (.int .i64 2)))⟩]
def f14_8 : AC := .ops [2, 3] [2] f14_8l
theorem f14_8e : aC P id m f14_8 sf st Q = runI P id m f14_8l (opsK [2, 3] [2] Q) sf st := rfl
def f14_7 : AC := .seq f14_8 .ret
theorem f14_7e : aC P id m f14_7 sf st Q = aC P id m f14_8 sf st (seqQ (aC P id m .ret) Q) := rfl
def f14_6 : AC := .cond (.r 9) f14_7 .skip
theorem f14_6e : aC P id m f14_6 sf st Q = condI (.r 9) (sf.ev id (.r 9)) (aC P id m f14_7) (aC P id m .skip) sf st Q := rfl
def f14_4 : AC := .seq f14_5 f14_6
theorem f14_4e : aC P id m f14_4 sf st Q = aC P id m f14_5 sf st (seqQ (aC P id m f14_6) Q) := rfl
def f14_10l : List GI := [⟨none, .mv (some 11) (.r 0)⟩,
    ⟨none, .bst (some 12) [(0, 1), (1, 1), (2, 1), (3, 1), (4, 1)] (.agg [(.lit (.int .i64 0)), (.lit (.slice none 0 0)), (.lit (.slice none 0 0)), (.lit (.slice none 0 0)), (.lit (.bool false))]) [(0, (.r 11))]⟩,
    ⟨none, .store 5 (.r 2) (.r 12)⟩,
    ⟨none, .mv (some 3) (.c (.lit (.int .i64 0)))⟩]
def f14_10 : AC := .ops [2, 3] [2] f14_10l
theorem f14_10e : aC P id m f14_10 sf st Q = runI P id m f14_10l (opsK [2, 3] [2] Q) sf st := rfl
def f14_9 : AC := .seq f14_10 .ret
theorem f14_9e : aC P id m f14_9 sf st Q = aC P id m f14_10 sf st (seqQ (aC P id m .ret) Q) := rfl
def f14_3 : AC := .seq f14_4 f14_9
theorem f14_3e : aC P id m f14_3 sf st Q = aC P id m f14_4 sf st (seqQ (aC P id m f14_9) Q) := rfl
def f14_1 : AC := .seq f14_2 f14_3
theorem f14_1e : aC P id m f14_1 sf st Q = aC P id m f14_2 sf st (seqQ (aC P id m f14_3) Q) := rfl
def c_f14 : AFun := ⟨13, [.cell 2 (some 5), .tmp 3], f14_1⟩
theorem k_f14 : compF Go.Proofs.Try.prog x_f14 14 = some c_f14 := by kernel_rfl
theorem e_f14 : enterB Go.Proofs.Try.prog 14 = true := by kernel_rfl

def n_f15 : Nat := 15
def x_f15 : Cx := ⟨some, id, 46, fun s => ([0, 1, 4, 5, 6, 7, 8, 9, 10, 11, 12, 13, 15, 16, 17, 18, 19, 20, 22, 23, 24, 25, 26, 28, 29, 30, 31, 32, 33, 35, 36, 37, 38, 39, 40, 41, 43, 44, 45] : List Nat).contains s, fun s => ([] : List Nat).contains s, msOf [(2, [0, 3], [3]), (6, [0, 3, 5, 6], [3]), (14, [4], [])]⟩
def f15_2l : List GI := [⟨none, .boxL 3 5 (.r 1)⟩,
    ⟨none, .mv (some 4) (.c (.lit (.bool false)))⟩]
def f15_2 : AC := .ops [0, 3] [3] f15_2l
theorem f15_2e : aC P id m f15_2 sf st Q = runI P id m f15_2l (opsK [0, 3] [3] Q) sf st := rfl
def f15_4l : List GI := [⟨none, .mv (some 8) (.r 0)⟩,
    ⟨none, .call (some 9) false (.f 12) [(.r 8)]⟩,
    ⟨none, .mv (some 7) (.r 9)⟩,
    ⟨none, .ext (some 10) (.r 7) 0⟩,
    ⟨none, .ext (some 11) (.r 7) 1⟩,
    ⟨none, .own 5 10⟩,
    ⟨none, .own 6 11⟩]
def f15_4 : AC := .ops [0, 3, 5, 6] [3] f15_4l
theorem f15_4e : aC P id m f15_4 sf st Q = runI P id m f15_4l (opsK [0, 3, 5, 6] [3] Q) sf st := rfl
def f15_6h : List GI := [⟨none, .mv (some 12) (.r 0)⟩,
    ⟨none, .call (some 13) true (.f 13) [(.r 12)]⟩,
    ⟨none, .addr (some 14) (.r 3) 1⟩,
    ⟨none, .load (some 15) (.r 14) none⟩,
    ⟨none, .len (some 16) .sl (.r 15)⟩,
    ⟨none, .bin (some 17) .num .eql (.r 13) (.r 16)⟩,
    ⟨none, .mv (some 18) (.r 17)⟩,
    ⟨some (18, true), .mv (some 19) (.r 0)⟩,
    ⟨some (18, true), .call (some 20) true (.f 17) [(.r 19)]⟩,
    ⟨some (18, true), .addr (some 21) (.r 3) 0⟩,
    ⟨some (18, true), .load (some 22) (.r 21) none⟩,
    ⟨some (18, true), .bin (some 23) .num .eql (.r 20) (.r 22)⟩,
    ⟨none, .pick (some 24) (.r 18) (.r 23) (.c (.lit (.bool false)))⟩,
    ⟨none, .mv (some 25) (.r 24)⟩,
    ⟨some (25, true), .mv (some 26) (.r 5)⟩,
    ⟨some (25, true), .addr (some 27) (.r 3) 2⟩,
    ⟨some (25, true), .load (some 28) (.r 27) none⟩,
    ⟨some (25, true), .len (some 29) .sl (.r 28)⟩,
    ⟨some (25, true), .bin (some 30) .num .eql (.r 26) (.r 29)⟩,
    ⟨none, .pick (some 31) (.r 25) (.r 30) (.c (.lit (.bool false)))⟩,
    ⟨none, .mv (some 32) (.r 31)⟩,
    ⟨some (32, true), .mv (some 33) (.r 6)⟩,
    ⟨some (32, true), .addr (some 34) (.r 3) 3⟩,
    ⟨some (32, true), .load (some 35) (.r 34) none⟩,
    ⟨some (32, true), .len (some 36) .sl (.r 35)⟩,
    ⟨some (32, true), .bin (some 37) .num .eql (.r 33) (.r 36)⟩,
    ⟨none, .pick (some 38) (.r 32) (.r 37) (.c (.lit (.bool false)))⟩,
    ⟨none, .mv (some 39) (.r 38)⟩,
    ⟨some (39, true), .mv (some 40) (.r 0)⟩,
    ⟨some (39, true), .call (some 41) true (.f 18) [(.r 40)]⟩,
    ⟨some (39, true), .addr (some 42) (.r 3) 4⟩,
    ⟨some (39, true), .load (some 43) (.r 42) none⟩]
def f15_6l : List GI := [⟨some (39, true), .bin (some 44) .bool .eql (.r 41) (.r 43)⟩,
    ⟨none, .pick (some 45) (.r 39) (.r 44) (.c (.lit (.bool false)))⟩,
    ⟨none, .own 4 45⟩]
def f15_6 : AC := .draw [4] [] [] f15_6h f15_6l
theorem f15_6e : aC P id m f15_6 sf st Q = headI P id sf.locs st f15_6h (tailK P id m [] [4] [] f15_6l Q st) [] ⟨sf.regs, dropL [] sf.locs⟩ := rfl
def f15_5 : AC := .seq f15_6 .ret
theorem f15_5e : aC P id m f15_5 sf st Q = aC P id m f15_6 sf st (seqQ (aC P id m .ret) Q) := rfl
def f15_3 : AC := .seq f15_4 f15_5
theorem f15_3e : aC P id m f15_3 sf st Q = aC P id m f15_4 sf st (seqQ (aC P id m f15_5) Q) := rfl
def f15_1 : AC := .seq f15_2 f15_3
theorem f15_1e : aC P id m f15_1 sf st Q = aC P id m f15_2 sf st (seqQ (aC P id m f15_3) Q) := rfl
def c_f15 : AFun := ⟨46, [.tmp 4], f15_1⟩
theorem k_f15 : compF Go.Proofs.Try.prog x_f15 15 = some c_f15 := by kernel_rfl
theorem e_f15 : enterB Go.Proofs.Try.prog 15 = true := by kernel_rfl

def n_f17 : Nat := 17
def x_f17 : Cx := ⟨some, id, 9, fun s => ([0, 2, 3, 8] : List Nat).contains s, fun s => ([] : List Nat).contains s, msOf [(2, [0], []), (12, [0, 4], []), (52, [2], []), (14, [2], [])]⟩
def f17_2l : List GI := [⟨none, .mv (some 2) (.c (.lit (.int .i64 0)))⟩]
def f17_2 : AC := .ops [0] [] f17_2l
theorem f17_2e : aC P id m f17_2 sf st Q = runI P id m f17_2l (opsK [0] [] Q) sf st := rfl
def f17_5l : List GI := [⟨none, .mv (some 3) (.r 0)⟩,
    ⟨none, .call (some 4) false (.f 29) [(.r 3)]⟩]
def f17_5 : AC := .ops [0, 4] [] f17_5l
theorem f17_5e : aC P id m f17_5 sf st Q = runI P id m f17_5l (opsK [0, 4] [] Q) sf st := rfl
def f17_8l : List GI := [⟨none, .mv (some 2) (.c (.lit (.int .i64 0)))⟩]
def f17_8 : AC := .ops [2] [] f17_8l
theorem f17_8e : aC P id m f17_8 sf st Q = runI P id m f17_8l (opsK [2] [] Q) sf st := rfl
def f17_7 : AC := .seq f17_8 .ret
theorem f17_7e : aC P id m f17_7 sf st Q = aC P id m f17_8 sf st (seqQ (aC P id m .ret) Q) := rfl
def f17_6 : AC := .cond (.r 4) f17_7 .skip
theorem f17_6e : aC P id m f17_6 sf st Q = condI (.r 4) (sf.ev id (.r 4)) (aC P id m f17_7) (aC P id m .skip) sf st Q := rfl
def f17_4 : AC := .seq f17_5 f17_6
theorem f17_4e : aC P id m f17_4 sf st Q = aC P id m f17_5 sf st (seqQ (aC P id m f17_6) Q) := rfl
def f17_10l : List GI := [⟨none, .mv (some 5) (.r 0)⟩,
    ⟨none, .nilck (some 6) (.r 5)⟩,
    ⟨none, .addr (some 7) (.r 6) 2⟩,
    ⟨none, .load (some 8) (.r 7) none⟩,
    ⟨none, .own 2 8⟩]
def f17_10 : AC := .ops [2] [] f17_10l
theorem f17_10e : aC P id m f17_10 sf st Q = runI P id m f17_10l (opsK [2] [] Q) sf st := rfl
def f17_9 : AC := .seq f17_10 .ret
theorem f17_9e : aC P id m f17_9 sf st Q = aC P id m f17_10 sf st (seqQ (aC P id m .ret) Q) := rfl
def f17_3 : AC := .seq f17_4 f17_9
theorem f17_3e : aC P id m f17_3 sf st Q = aC P id m f17_4 sf st (seqQ (aC P id m f17_9) Q) := rfl
def f17_1 : AC := .seq f17_2 f17_3
theorem f17_1e : aC P id m f17_1 sf st Q = aC P id m f17_2 sf st (seqQ (aC P id m f17_3) Q) := rfl
def c_f17 : AFun := ⟨9, [.tmp 2], f17_1⟩
theorem k_f17 : compF Go.Proofs.Try.prog x_f17 17 = some c_f17 := by kernel_rfl
theorem e_f17 : enterB Go.Proofs.Try.prog 17 = true := by kernel_rfl

def n_f18 : Nat := 18
def x_f18 : Cx := ⟨some, id, 12, fun s => ([0, 2, 3, 4, 5, 6, 10, 11] : List Nat).contains s, fun s => ([] : List Nat).contains s, msOf [(2, [0], []), (6, [2], [])]⟩
def f18_2l : List GI := [⟨none, .mv (some 2) (.c (.lit (.bool false)))⟩]
def f18_2 : AC := .ops [0] [] f18_2l
theorem f18_2e : aC P id m f18_2 sf st Q = runI P id m f18_2l (opsK [0] [] Q) sf st := rfl
def f18_4l : List GI := [⟨none, .mv (some 3) (.r 0)⟩,
    ⟨none, .call (some 4) false (.f 29) [(.r 3)]⟩,
    ⟨none, .un (some 5) .not (.r 4)⟩,
    ⟨none, .mv (some 6) (.r 5)⟩,
    ⟨some (6, true), .mv (some 7) (.r 0)⟩,
    ⟨some (6, true), .nilck (some 8) (.r 7)⟩,
    ⟨some (6, true), .addr (some 9) (.r 8) 1⟩,
    ⟨some (6, true), .load (some 10) (.r 9) none⟩,
    ⟨none, .pick (some 11) (.r 6) (.r 10) (.c (.lit (.bool false)))⟩,
    ⟨none, .own 2 11⟩]
def f18_4 : AC := .ops [2] [] f18_4l
theorem f18_4e : aC P id m f18_4 sf st Q = runI P id m f18_4l (opsK [2] [] Q) sf st := rfl
def f18_3 : AC := .seq f18_4 .ret
theorem f18_3e : aC P id m f18_3 sf st Q = aC P id m f18_4 sf st (seqQ (aC P id m .ret) Q) := rfl
def f18_1 : AC := .seq f18_2 f18_3
theorem f18_1e : aC P id m f18_1 sf st Q = aC P id m f18_2 sf st (seqQ (aC P id m f18_3) Q) := rfl
def c_f18 : AFun := ⟨12, [.tmp 2], f18_1⟩
theorem k_f18 : compF Go.Proofs.Try.prog x_f18 18 = some c_f18 := by kernel_rfl
theorem e_f18 : enterB Go.Proofs.Try.prog 18 = true := by kernel_rfl

def n_f19 : Nat := 19
def x_f19 : Cx := ⟨some, id, 49, fun s => ([0, 2, 3, 4, 6, 7, 8, 11, 20, 21, 23, 24, 26, 27, 28, 29, 30, 31, 32, 34, 35, 36, 37, 38, 40, 41, 42, 43, 44, 45, 46, 47, 48] : List Nat).contains s, fun s => ([] : List Nat).contains s, msOf [(2, [0], []), (12, [0, 12], []), (52, [2, 3], []), (28, [0, 16], []), (116, [2, 3], []), (30, [0], []), (62, [0, 4], []), (252, [0, 4, 20, 21], []), (506, [0, 4, 20, 21], []), (2024, [0, 4, 20, 21, 22], []), (8101, [4], []), (32408, [0, 4, 6, 20, 21], []), (64818, [0, 4, 6, 7, 20, 21], []), (259276, [0, 4, 6, 7, 20, 21, 25], []), (518554, [0, 4, 6, 7, 20, 21], []), (259278, [0, 4, 6, 7, 8, 10, 20, 21], []), (518558, [0, 4, 6, 7, 8, 10, 20, 21], []), (4148464, [0, 4, 6, 7, 8, 20, 21, 33], []), (8296931, [0, 4, 20, 21], []), (8296932, [0, 4, 6, 7, 20, 21], []), (4148467, [0, 4, 6, 7, 8, 10, 20, 21], []), (8103, [0, 4, 20, 21], []), (254, [2, 3], [])]⟩
def f19_2l : List GI := [⟨none, .mv (some 2) (.c (.lit (.slice none 0 0)))⟩,
    ⟨none, .mv (some 3) (.c (.lit (.int .i64 0)))⟩]
def f19_2 : AC := .ops [0] [] f19_2l
theorem f19_2e : aC P id m f19_2 sf st Q = runI P id m f19_2l (opsK [0] [] Q) sf st := rfl
def f19_5l : List GI := [⟨none, .mv (some 11) (.r 0)⟩,
    ⟨none, .call (some 12) false (.f 29) [(.r 11)]⟩]
def f19_5 : AC := .ops [0, 12] [] f19_5l
theorem f19_5e : aC P id m f19_5 sf st Q = runI P id m f19_5l (opsK [0, 12] [] Q) sf st := rfl
def f19_8l : List GI := [⟨none, .mv (some 2) (.c (.lit (.slice none 0 0)))⟩,
    ⟨none, .mv (some 3) (.c (.lit (.int .i64 1)))⟩]
def f19_8 : AC := .ops [2, 3] [] f19_8l
theorem f19_8e : aC P id m f19_8 sf st Q = runI P id m f19_8l (opsK [2, 3] [] Q) sf st := rfl
def f19_7 : AC := .seq f19_8 .ret
theorem f19_7e : aC P id m f19_7 sf st Q = aC P id m f19_8 sf st (seqQ (aC P id m .ret) Q) := rfl
def f19_6 : AC := .cond (.r 12) f19_7 .skip
theorem f19_6e : aC P id m f19_6 sf st Q = condI (.r 12) (sf.ev id (.r 12)) (aC P id m f19_7) (aC P id m .skip) sf st Q := rfl
def f19_4 : AC := .seq f19_5 f19_6
theorem f19_4e : aC P id m f19_4 sf st Q = aC P id m f19_5 sf st (seqQ (aC P id m f19_6) Q) := rfl
def f19_11l : List GI := [⟨none, .mv (some 13) (.r 0)⟩,
    ⟨none, .nilck (some 14) (.r 13)⟩,
    ⟨none, .addr (some 15) (.r 14) 1⟩,
    ⟨none, .load (some 16) (.r 15) none⟩]
def f19_11 : AC := .ops [0, 16] [] f19_11l
theorem f19_11e : aC P id m f19_11 sf st Q = runI P id m f19_11l (opsK [0, 16] [] Q) sf st := rfl
def f19_14l : List GI := [⟨none, .mv (some 2) (.c (.lit (.slice none 0 0)))⟩,
    ⟨none, .mv (some 3) (.c (.lit (.int .i64 14)))⟩]
def f19_14 : AC := .ops [2, 3] [] f19_14l
theorem f19_14e : aC P id m f19_14 sf st Q = runI P id m f19_14l (opsK [2, 3] [] Q) sf st := rfl
def f19_13 : AC := .seq f19_14 .ret
theorem f19_13e : aC P id m f19_13 sf st Q = aC P id m f19_14 sf st (seqQ (aC P id m .ret) Q) := rfl
def f19_12 : AC := .cond (.r 16) f19_13 .skip
theorem f19_12e : aC P id m f19_12 sf st Q = condI (.r 16) (sf.ev id (.r 16)) (aC P id m f19_13) (aC P id m .skip) sf st Q := rfl
def f19_10 : AC := .seq f19_11 f19_12
theorem f19_10e : aC P id m f19_10 sf st Q = aC P id m f19_11 sf st (seqQ (aC P id m f19_12) Q) := rfl
def f19_16l : List GI := [⟨none, .mv (some 17) (.r 0)⟩,
    ⟨none, .nilck (some 18) (.r 17)⟩,
    ⟨none, .addr (some 19) (.r 18) 1⟩,
    ⟨none, .store 1 (.r 19) (.c (.lit (.bool true)))⟩]
def f19_16 : AC := .ops [0] [] f19_16l
theorem f19_16e : aC P id m f19_16 sf st Q = runI P id m f19_16l (opsK [0] [] Q) sf st := rfl
def f19_18l : List GI := [⟨none, .mv (some 4) (.c (.lit (.slice none 0 0)))⟩]
def f19_18 : AC := .ops [0, 4] [] f19_18l
theorem f19_18e : aC P id m f19_18 sf st Q = runI P id m f19_18l (opsK [0, 4] [] Q) sf st := rfl
def f19_21l : List GI := [⟨none, .bar (some 20) 1 (.agg [(.lit (.int .i64 0)), (.lit (.int .i64 0))]) [(0, (.c (.lit (.int .i64 1)))), (1, (.c (.lit (.int .i64 0))))]⟩,
    ⟨none, .mv (some 21) (.c (.lit (.int .i64 0)))⟩]
def f19_21 : AC := .ops [0, 4, 20, 21] [] f19_21l
theorem f19_21e : aC P id m f19_21 sf st Q = runI P id m f19_21l (opsK [0, 4, 20, 21] [] Q) sf st := rfl
def f19_25l : List GI := [⟨none, .bin (some 22) .num .lss (.r 21) (.c (.lit (.int .i64 2)))⟩]
def f19_25 : AC := .ops [0, 4, 20, 21, 22] [] f19_25l
theorem f19_25e : aC P id m f19_25 sf st Q = runI P id m f19_25l (opsK [0, 4, 20, 21, 22] [] Q) sf st := rfl
def f19_27 : AC := .cond (.r 22) .skip (.exit [4] [] 0)
theorem f19_27e : aC P id m f19_27 sf st Q = condI (.r 22) (sf.ev id (.r 22)) (aC P id m .skip) (aC P id m (.exit [4] [] 0)) sf st Q := rfl
def f19_31l : List GI := [⟨none, .ixArr (some 23) (.r 20) (.r 21) 2 1 none⟩,
    ⟨none, .own 6 23⟩]
def f19_31 : AC := .ops [0, 4, 6, 20, 21] [] f19_31l
theorem f19_31e : aC P id m f19_31 sf st Q = runI P id m f19_31l (opsK [0, 4, 6, 20, 21] [] Q) sf st := rfl
def f19_33l : List GI := [⟨none, .mv (some 7) (.c (.lit (.int .i64 14)))⟩]
def f19_33 : AC := .ops [0, 4, 6, 7, 20, 21] [] f19_33l
theorem f19_33e : aC P id m f19_33 sf st Q = runI P id m f19_33l (opsK [0, 4, 6, 7, 20, 21] [] Q) sf st := rfl
def f19_36l : List GI := [⟨none, .mv (some 24) (.r 6)⟩,
    ⟨none, .bin (some 25) .num .eql (.r 24) (.c (.lit (.int .i64 1)))⟩]
def f19_36 : AC := .ops [0, 4, 6, 7, 20, 21, 25] [] f19_36l
theorem f19_36e : aC P id m f19_36 sf st Q = runI P id m f19_36l (opsK [0, 4, 6, 7, 20, 21, 25] [] Q) sf st := rfl
def f19_38l : List GI := [⟨none, .mv (some 7) (.c (.lit (.int .i64 13)))⟩]
def f19_38 : AC := .ops [0, 4, 6, 7, 20, 21] [] f19_38l
theorem f19_38e : aC P id m f19_38 sf st Q = runI P id m f19_38l (opsK [0, 4, 6, 7, 20, 21] [] Q) sf st := rfl
def f19_37 : AC := .cond (.r 25) f19_38 .skip
theorem f19_37e : aC P id m f19_37 sf st Q = condI (.r 25) (sf.ev id (.r 25)) (aC P id m f19_38) (aC P id m .skip) sf st Q := rfl
def f19_35 : AC := .seq f19_36 f19_37
theorem f19_35e : aC P id m f19_35 sf st Q = aC P id m f19_36 sf st (seqQ (aC P id m f19_37) Q) := rfl
def f19_40l : List GI := [⟨none, .mv (some 27) (.r 0)⟩,
    ⟨none, .mv (some 28) (.r 6)⟩,
    ⟨none, .call (some 29) false (.f 32) [(.r 27), (.r 28)]⟩,
    ⟨none, .mv (some 26) (.r 29)⟩,
    ⟨none, .ext (some 30) (.r 26) 0⟩,
    ⟨none, .ext (some 31) (.r 26) 1⟩,
    ⟨none, .ext (some 32) (.r 26) 2⟩,
    ⟨none, .own 8 30⟩,
    ⟨none, .own 9 31⟩,
    ⟨none, .own 10 32⟩]
def f19_40 : AC := .ops [0, 4, 6, 7, 8, 10, 20, 21] [] f19_40l
theorem f19_40e : aC P id m f19_40 sf st Q = runI P id m f19_40l (opsK [0, 4, 6, 7, 8, 10, 20, 21] [] Q) sf st := rfl
def f19_45l : List GI := [⟨none, .mv (some 33) (.r 10)⟩]
def f19_45 : AC := .ops [0, 4, 6, 7, 8, 20, 21, 33] [] f19_45l
theorem f19_45e : aC P id m f19_45 sf st Q = runI P id m f19_45l (opsK [0, 4, 6, 7, 8, 20, 21, 33] [] Q) sf st := rfl
def f19_46 : AC := .cond (.r 33) .skip (.exit [0, 4, 20, 21] [] 2)
theorem f19_46e : aC P id m f19_46 sf st Q = condI (.r 33) (sf.ev id (.r 33)) (aC P id m .skip) (aC P id m (.exit [0, 4, 20, 21] [] 2)) sf st Q := rfl
def f19_44 : AC := .seq f19_45 f19_46
theorem f19_44e : aC P id m f19_44 sf st Q = aC P id m f19_45 sf st (seqQ (aC P id m f19_46) Q) := rfl
def f19_49l : List GI := [⟨none, .own 41 4⟩,
    ⟨none, .mv (some 42) (.r 8)⟩,
    ⟨none, .mv (some 43) (.r 7)⟩,
    ⟨none, .bst (some 44) [(0, 1), (1, 1), (2, 1), (3, 1)] (.agg [(.lit (.int .i64 0)), (.lit (.int .i64 0)), (.lit (.int .i64 0)), (.lit (.int .i64 0))]) [(0, (.r 42)), (3, (.r 43))]⟩,
    ⟨none, .bsl (some 45) 4 1 (.agg [(.lit (.int .i64 0)), (.lit (.int .i64 0)), (.lit (.int .i64 0)), (.lit (.int .i64 0))]) [(0, (.r 44))]⟩,
    ⟨none, .appS 46 41 4 32 (.r 45)⟩,
    ⟨none, .own 4 46⟩]
def f19_49 : AC := .ops [0, 4, 6, 7, 20, 21] [] f19_49l
theorem f19_49e : aC P id m f19_49 sf st Q = runI P id m f19_49l (opsK [0, 4, 6, 7, 20, 21] [] Q) sf st := rfl
def f19_48 : AC := .block 3 f19_49
theorem f19_48e : aC P id m f19_48 sf st Q = aC P id m f19_49 sf st (blockQ 3 Q) := rfl
def f19_50l : List GI := [⟨none, .mv (some 35) (.r 0)⟩,
    ⟨none, .mv (some 36) (.r 6)⟩,
    ⟨none, .call (some 37) false (.f 32) [(.r 35), (.r 36)]⟩,
    ⟨none, .mv (some 34) (.r 37)⟩,
    ⟨none, .ext (some 38) (.r 34) 0⟩,
    ⟨none, .ext (some 39) (.r 34) 1⟩,
    ⟨none, .ext (some 40) (.r 34) 2⟩,
    ⟨none, .own 8 38⟩,
    ⟨none, .own 10 40⟩]
def f19_50 : AC := .ops [0, 4, 6, 7, 8, 10, 20, 21] [] f19_50l
theorem f19_50e : aC P id m f19_50 sf st Q = runI P id m f19_50l (opsK [0, 4, 6, 7, 8, 10, 20, 21] [] Q) sf st := rfl
def f19_47 : AC := .seq f19_48 f19_50
theorem f19_47e : aC P id m f19_47 sf st Q = aC P id m f19_48 sf st (seqQ (aC P id m f19_50) Q) := rfl
def f19_43 : AC := .seq f19_44 f19_47
theorem f19_43e : aC P id m f19_43 sf st Q = aC P id m f19_44 sf st (seqQ (aC P id m f19_47) Q) := rfl
def f19_42 : AC := .loop [0, 4, 6, 7, 8, 10, 20, 21] [] f19_43
theorem f19_42w : aC P id m f19_42 sf st Q = loopI (aC P id m f19_43) [0, 4, 6, 7, 8, 10, 20, 21] [] sf st Q := rfl
def f19_41 : AC := .block 2 f19_42
theorem f19_41e : aC P id m f19_41 sf st Q = aC P id m f19_42 sf st (blockQ 2 Q) := rfl
def f19_39 : AC := .seq f19_40 f19_41
theorem f19_39e : aC P id m f19_39 sf st Q = aC P id m f19_40 sf st (seqQ (aC P id m f19_41) Q) := rfl
def f19_34 : AC := .seq f19_35 f19_39
theorem f19_34e : aC P id m f19_34 sf st Q = aC P id m f19_35 sf st (seqQ (aC P id m f19_39) Q) := rfl
def f19_32 : AC := .seq f19_33 f19_34
theorem f19_32e : aC P id m f19_32 sf st Q = aC P id m f19_33 sf st (seqQ (aC P id m f19_34) Q) := rfl
def f19_30 : AC := .seq f19_31 f19_32
theorem f19_30e : aC P id m f19_30 sf st Q = aC P id m f19_31 sf st (seqQ (aC P id m f19_32) Q) := rfl
def f19_29 : AC := .block 1 f19_30
theorem f19_29e : aC P id m f19_29 sf st Q = aC P id m f19_30 sf st (blockQ 1 Q) := rfl
def f19_51l : List GI := [⟨none, .bin (some 47) .num .add (.r 21) (.c (.lit (.int .i64 1)))⟩,
    ⟨none, .mv (some 21) (.r 47)⟩]
def f19_51 : AC := .ops [0, 4, 20, 21] [] f19_51l
theorem f19_51e : aC P id m f19_51 sf st Q = runI P id m f19_51l (opsK [0, 4, 20, 21] [] Q) sf st := rfl
def f19_28 : AC := .seq f19_29 f19_51
theorem f19_28e : aC P id m f19_28 sf st Q = aC P id m f19_29 sf st (seqQ (aC P id m f19_51) Q) := rfl
def f19_26 : AC := .seq f19_27 f19_28
theorem f19_26e : aC P id m f19_26 sf st Q = aC P id m f19_27 sf st (seqQ (aC P id m f19_28) Q) := rfl
def f19_24 : AC := .seq f19_25 f19_26
theorem f19_24e : aC P id m f19_24 sf st Q = aC P id m f19_25 sf st (seqQ (aC P id m f19_26) Q) := rfl
def f19_23 : AC := .loop [0, 4, 20, 21] [] f19_24
theorem f19_23w : aC P id m f19_23 sf st Q = loopI (aC P id m f19_24) [0, 4, 20, 21] [] sf st Q := rfl
def f19_22 : AC := .block 0 f19_23
theorem f19_22e : aC P id m f19_22 sf st Q = aC P id m f19_23 sf st (blockQ 0 Q) := rfl
def f19_20 : AC := .seq f19_21 f19_22
theorem f19_20e : aC P id m f19_20 sf st Q = aC P id m f19_21 sf st (seqQ (aC P id m f19_22) Q) := rfl
def f19_53l : List GI := [⟨none, .mv (some 48) (.r 4)⟩,
    ⟨none, .own 2 48⟩,
    ⟨none, .mv (some 3) (.c (.lit (.int .i64 0)))⟩]
def f19_53 : AC := .ops [2, 3] [] f19_53l
theorem f19_53e : aC P id m f19_53 sf st Q = runI P id m f19_53l (opsK [2, 3] [] Q) sf st := rfl
def f19_52 : AC := .seq f19_53 .ret
theorem f19_52e : aC P id m f19_52 sf st Q = aC P id m f19_53 sf st (seqQ (aC P id m .ret) Q) := rfl
def f19_19 : AC := .seq f19_20 f19_52
theorem f19_19e : aC P id m f19_19 sf st Q = aC P id m f19_20 sf st (seqQ (aC P id m f19_52) Q) := rfl
def f19_17 : AC := .seq f19_18 f19_19
theorem f19_17e : aC P id m f19_17 sf st Q = aC P id m f19_18 sf st (seqQ (aC P id m f19_19) Q) := rfl
def f19_15 : AC := .seq f19_16 f19_17
theorem f19_15e : aC P id m f19_15 sf st Q = aC P id m f19_16 sf st (seqQ (aC P id m f19_17) Q) := rfl
def f19_9 : AC := .seq f19_10 f19_15
theorem f19_9e : aC P id m f19_9 sf st Q = aC P id m f19_10 sf st (seqQ (aC P id m f19_15) Q) := rfl
def f19_3 : AC := .seq f19_4 f19_9
theorem f19_3e : aC P id m f19_3 sf st Q = aC P id m f19_4 sf st (seqQ (aC P id m f19_9) Q) := rfl
def f19_1 : AC := .seq f19_2 f19_3
theorem f19_1e : aC P id m f19_1 sf st Q = aC P id m f19_2 sf st (seqQ (aC P id m f19_3) Q) := rfl
def c_f19 : AFun := ⟨49, [.tmp 2, .tmp 3], f19_1⟩
theorem k_f19 : compF Go.Proofs.Try.prog x_f19 19 = some c_f19 := by kernel_rfl
theorem e_f19 : enterB Go.Proofs.Try.prog 19 = true := by kernel_rfl

def n_f20 : Nat := 20
def x_f20 : Cx := ⟨some, id, 58, fun s => ([0, 2, 3, 4, 5, 6, 8, 10, 11, 12, 13, 14, 15, 21, 22, 23, 24, 30, 31, 42, 47, 48, 52, 53, 54, 55, 56, 57] : List Nat).contains s, fun s => ([24] : List Nat).contains s, msOf [(2, [0], []), (12, [0, 9], []), (52, [2, 3, 4], []), (14, [0, 5, 6, 7], []), (60, [0, 5, 6, 7, 16], []), (122, [0, 5, 7], []), (124, [0, 5, 7, 32], []), (1000, [36], []), (4004, [2, 3, 4], []), (1002, [2, 3, 4], []), (126, [0, 5, 6, 7], []), (254, [5, 6, 7], []), (1020, [5, 6, 51], []), (4084, [2, 3, 4], []), (1022, [2, 3, 4], [])]⟩
def f20_2l : List GI := [⟨none, .mv (some 2) (.c (.lit (.int .i64 0)))⟩,
    ⟨none, .mv (some 3) (.c (.lit (.slice none 0 0)))⟩,
    ⟨none, .mv (some 4) (.c (.lit (.int .i64 0)))⟩]
def f20_2 : AC := .ops [0] [] f20_2l
theorem f20_2e : aC P id m f20_2 sf st Q = runI P id m f20_2l (opsK [0] [] Q) sf st := rfl
def f20_5l : List GI := [⟨none, .mv (some 8) (.r 0)⟩,
    ⟨none, .call (some 9) false (.f 29) [(.r 8)]⟩]
def f20_5 : AC := .ops [0, 9] [] f20_5l
theorem f20_5e : aC P id m f20_5 sf st Q = runI P id m f20_5l (opsK [0, 9] [] Q) sf st := rfl
def f20_8l : List GI := [⟨none, .mv (some 2) (.c (.lit (.int .i64 0)))⟩,
    ⟨none, .mv (some 3) (.c (.lit (.slice none 0 0)))⟩,
    ⟨none, .mv (some 4) (.c (.lit (.int .i64 1)))⟩]
def f20_8 : AC := .ops [2, 3, 4] [] f20_8l
theorem f20_8e : aC P id m f20_8 sf st Q = runI P id m f20_8l (opsK [2, 3, 4] [] Q) sf st := rfl
def f20_7 : AC := .seq f20_8 .ret
theorem f20_7e : aC P id m f20_7 sf st Q = aC P id m f20_8 sf st (seqQ (aC P id m .ret) Q) := rfl
def f20_6 : AC := .cond (.r 9) f20_7 .skip
theorem f20_6e : aC P id m f20_6 sf st Q = condI (.r 9) (sf.ev id (.r 9)) (aC P id m f20_7) (aC P id m .skip) sf st Q := rfl
def f20_4 : AC := .seq f20_5 f20_6
theorem f20_4e : aC P id m f20_4 sf st Q = aC P id m f20_5 sf st (seqQ (aC P id m f20_6) Q) := rfl
def f20_10l : List GI := [⟨none, .mv (some 11) (.r 0)⟩,
    ⟨none, .call (some 12) false (.f 32) [(.r 11), (.c (.lit (.int .i64 0)))]⟩,
    ⟨none, .mv (some 10) (.r 12)⟩,
    ⟨none, .ext (some 13) (.r 10) 0⟩,
    ⟨none, .ext (some 14) (.r 10) 1⟩,
    ⟨none, .ext (some 15) (.r 10) 2⟩,
    ⟨none, .own 5 13⟩,
    ⟨none, .own 6 14⟩,
    ⟨none, .own 7 15⟩]
def f20_10 : AC := .ops [0, 5, 6, 7] [] f20_10l
theorem f20_10e : aC P id m f20_10 sf st Q = runI P id m f20_10l (opsK [0, 5, 6, 7] [] Q) sf st := rfl
def f20_13l : List GI := [⟨none, .mv (some 16) (.r 7)⟩]
def f20_13 : AC := .ops [0, 5, 6, 7, 16] [] f20_13l
theorem f20_13e : aC P id m f20_13 sf st Q = runI P id m f20_13l (opsK [0, 5, 6, 7, 16] [] Q) sf st := rfl
def f20_15l : List GI := [⟨none, .mv (some 17) (.r 0)⟩,
    ⟨none, .mv (some 18) (.r 0)⟩,
    ⟨none, .nilck (some 19) (.r 18)⟩,
    ⟨none, .addr (some 20) (.r 19) 3⟩,
    ⟨none, .loadOwn 21 (.r 20)⟩,
    ⟨none, .mv (some 22) (.r 6)⟩,
    ⟨none, .bsl (some 23) 1 1 (.lit (.int .i64 0)) [(0, (.r 22))]⟩,
    ⟨none, .x (some 24) (.appB (.r 21) 1 8 (.r 23))⟩,
    ⟨none, .nilck (some 25) (.r 17)⟩,
    ⟨none, .addr (some 26) (.r 25) 3⟩,
    ⟨none, .store 1 (.r 26) (.r 24)⟩]
def f20_15 : AC := .ops [0, 5, 7] [] f20_15l
theorem f20_15e : aC P id m f20_15 sf st Q = runI P id m f20_15l (opsK [0, 5, 7] [] Q) sf st := rfl
def f20_14 : AC := .cond (.r 16) f20_15 .skip
theorem f20_14e : aC P id m f20_14 sf st Q = condI (.r 16) (sf.ev id (.r 16)) (aC P id m f20_15) (aC P id m .skip) sf st Q := rfl
def f20_12 : AC := .seq f20_13 f20_14
theorem f20_12e : aC P id m f20_12 sf st Q = aC P id m f20_13 sf st (seqQ (aC P id m f20_14) Q) := rfl
def f20_18l : List GI := [⟨none, .mv (some 27) (.r 0)⟩,
    ⟨none, .nilck (some 28) (.r 27)⟩,
    ⟨none, .addr (some 29) (.r 28) 3⟩,
    ⟨none, .load (some 30) (.r 29) none⟩,
    ⟨none, .len (some 31) .sl (.r 30)⟩,
    ⟨none, .bin (some 32) .num .eql (.r 31) (.c (.lit (.int .i64 0)))⟩]
def f20_18 : AC := .ops [0, 5, 7, 32] [] f20_18l
theorem f20_18e : aC P id m f20_18 sf st Q = runI P id m f20_18l (opsK [0, 5, 7, 32] [] Q) sf st := rfl
def f20_22l : List GI := [⟨none, .mv (some 33) (.r 0)⟩,
    ⟨none, .nilck (some 34) (.r 33)⟩,
    ⟨none, .addr (some 35) (.r 34) 1⟩,
    ⟨none, .load (some 36) (.r 35) none⟩]
def f20_22 : AC := .ops [36] [] f20_22l
theorem f20_22e : aC P id m f20_22 sf st Q = runI P id m f20_22l (opsK [36] [] Q) sf st := rfl
def f20_25l : List GI := [⟨none, .mv (some 2) (.c (.lit (.int .i64 0)))⟩,
    ⟨none, .mv (some 3) (.c (.lit (.slice none 0 0)))⟩,
    ⟨none, .mv (some 4) (.c (.lit (.int .i64 13)))⟩]
def f20_25 : AC := .ops [2, 3, 4] [] f20_25l
theorem f20_25e : aC P id m f20_25 sf st Q = runI P id m f20_25l (opsK [2, 3, 4] [] Q) sf st := rfl
def f20_24 : AC := .seq f20_25 .ret
theorem f20_24e : aC P id m f20_24 sf st Q = aC P id m f20_25 sf st (seqQ (aC P id m .ret) Q) := rfl
def f20_23 : AC := .cond (.r 36) f20_24 .skip
theorem f20_23e : aC P id m f20_23 sf st Q = condI (.r 36) (sf.ev id (.r 36)) (aC P id m f20_24) (aC P id m .skip) sf st Q := rfl
def f20_21 : AC := .seq f20_22 f20_23
theorem f20_21e : aC P id m f20_21 sf st Q = aC P id m f20_22 sf st (seqQ (aC P id m f20_23) Q) := rfl
def f20_27l : List GI := [⟨none, .mv (some 2) (.c (.lit (.int .i64 0)))⟩,
    ⟨none, .mv (some 3) (.c (.lit (.slice none 0 0)))⟩,
    ⟨none, .mv (some 4) (.c (.lit (.int .i64 16)))⟩]
def f20_27 : AC := .ops [2, 3, 4] [] f20_27l
theorem f20_27e : aC P id m f20_27 sf st Q = runI P id m f20_27l (opsK [2, 3, 4] [] Q) sf st := rfl
def f20_26 : AC := .seq f20_27 .ret
theorem f20_26e : aC P id m f20_26 sf st Q = aC P id m f20_27 sf st (seqQ (aC P id m .ret) Q) := rfl
def f20_20 : AC := .seq f20_21 f20_26
theorem f20_20e : aC P id m f20_20 sf st Q = aC P id m f20_21 sf st (seqQ (aC P id m f20_26) Q) := rfl
def f20_19 : AC := .cond (.r 32) f20_20 .skip
theorem f20_19e : aC P id m f20_19 sf st Q = condI (.r 32) (sf.ev id (.r 32)) (aC P id m f20_20) (aC P id m .skip) sf st Q := rfl
def f20_17 : AC := .seq f20_18 f20_19
theorem f20_17e : aC P id m f20_17 sf st Q = aC P id m f20_18 sf st (seqQ (aC P id m f20_19) Q) := rfl
def f20_29l : List GI := [⟨none, .mv (some 37) (.r 0)⟩,
    ⟨none, .nilck (some 38) (.r 37)⟩,
    ⟨none, .addr (some 39) (.r 38) 3⟩,
    ⟨none, .load (some 40) (.r 39) none⟩,
    ⟨none, .ixS (some 41) (.r 40) (.c (.lit (.int .i64 0))) 1⟩,
    ⟨none, .load (some 42) (.r 41) none⟩,
    ⟨none, .own 6 42⟩]
def f20_29 : AC := .ops [0, 5, 6, 7] [] f20_29l
theorem f20_29e : aC P id m f20_29 sf st Q = runI P id m f20_29l (opsK [0, 5, 6, 7] [] Q) sf st := rfl
def f20_31l : List GI := [⟨none, .mv (some 43) (.r 0)⟩,
    ⟨none, .mv (some 44) (.r 0)⟩,
    ⟨none, .nilck (some 45) (.r 44)⟩,
    ⟨none, .addr (some 46) (.r 45) 3⟩,
    ⟨none, .load (some 47) (.r 46) none⟩,
    ⟨none, .call (some 48) false (.f 33) [(.r 47), (.c (.lit (.int .i64 0))), (.c (.lit (.int .i64 1)))]⟩,
    ⟨none, .nilck (some 49) (.r 43)⟩,
    ⟨none, .addr (some 50) (.r 49) 3⟩,
    ⟨none, .store 1 (.r 50) (.r 48)⟩]
def f20_31 : AC := .ops [5, 6, 7] [] f20_31l
theorem f20_31e : aC P id m f20_31 sf st Q = runI P id m f20_31l (opsK [5, 6, 7] [] Q) sf st := rfl
def f20_34l : List GI := [⟨none, .mv (some 51) (.r 7)⟩]
def f20_34 : AC := .ops [5, 6, 51] [] f20_34l
theorem f20_34e : aC P id m f20_34 sf st Q = runI P id m f20_34l (opsK [5, 6, 51] [] Q) sf st := rfl
def f20_37l : List GI := [⟨none, .mv (some 52) (.r 6)⟩,
    ⟨none, .mv (some 53) (.r 5)⟩,
    ⟨none, .bst (some 54) [(0, 1), (1, 1), (2, 1), (3, 1)] (.agg [(.lit (.int .i64 0)), (.lit (.int .i64 0)), (.lit (.int .i64 0)), (.lit (.int .i64 0))]) [(0, (.r 53))]⟩,
    ⟨none, .bsl (some 55) 4 1 (.agg [(.lit (.int .i64 0)), (.lit (.int .i64 0)), (.lit (.int .i64 0)), (.lit (.int .i64 0))]) [(0, (.r 54))]⟩,
    ⟨none, .call (some 56) false (.f 34) [(.r 55)]⟩,
    ⟨none, .own 2 52⟩,
    ⟨none, .own 3 56⟩,
    ⟨none, .mv (some 4) (.c (.lit (.int .i64 0)))⟩]
def f20_37 : AC := .ops [2, 3, 4] [] f20_37l
theorem f20_37e : aC P id m f20_37 sf st Q = runI P id m f20_37l (opsK [2, 3, 4] [] Q) sf st := rfl
def f20_36 : AC := .seq f20_37 .ret
theorem f20_36e : aC P id m f20_36 sf st Q = aC P id m f20_37 sf st (seqQ (aC P id m .ret) Q) := rfl
def f20_35 : AC := .cond (.r 51) f20_36 .skip
theorem f20_35e : aC P id m f20_35 sf st Q = condI (.r 51) (sf.ev id (.r 51)) (aC P id m f20_36) (aC P id m .skip) sf st Q := rfl
def f20_33 : AC := .seq f20_34 f20_35
theorem f20_33e : aC P id m f20_33 sf st Q = aC P id m f20_34 sf st (seqQ (aC P id m f20_35) Q) := rfl
def f20_39l : List GI := [⟨none, .mv (some 57) (.r 6)⟩,
    ⟨none, .own 2 57⟩,
    ⟨none, .mv (some 3) (.c (.lit (.slice none 0 0)))⟩,
    ⟨none, .mv (some 4) (.c (.lit (.int .i64 0)))⟩]
def f20_39 : AC := .ops [2, 3, 4] [] f20_39l
theorem f20_39e : aC P id m f20_39 sf st Q = runI P id m f20_39l (opsK [2, 3, 4] [] Q) sf st := rfl
def f20_38 : AC := .seq f20_39 .ret
theorem f20_38e : aC P id m f20_38 sf st Q = aC P id m f20_39 sf st (seqQ (aC P id m .ret) Q) := rfl
def f20_32 : AC := .seq f20_33 f20_38
theorem f20_32e : aC P id m f20_32 sf st Q = aC P id m f20_33 sf st (seqQ (aC P id m f20_38) Q) := rfl
def f20_30 : AC := .seq f20_31 f20_32
theorem f20_30e : aC P id m f20_30 sf st Q = aC P id m f20_31 sf st (seqQ (aC P id m f20_32) Q) := rfl
def f20_28 : AC := .seq f20_29 f20_30
theorem f20_28e : aC P id m f20_28 sf st Q = aC P id m f20_29 sf st (seqQ (aC P id m f20_30) Q) := rfl
def f20_16 : AC := .seq f20_17 f20_28
theorem f20_16e : aC P id m f20_16 sf st Q = aC P id m f20_17 sf st (seqQ (aC P id m f20_28) Q) := rfl
def f20_11 : AC := .seq f20_12 f20_16
theorem f20_11e : aC P id m f20_11 sf st Q = aC P id m f20_12 sf st (seqQ (aC P id m f20_16) Q) := rfl
def f20_9 : AC := .seq f20_10 f20_11
theorem f20_9e : aC P id m f20_9 sf st Q = aC P id m f20_10 sf st (seqQ (aC P id m f20_11) Q) := rfl
def f20_3 : AC := .seq f20_4 f20_9
theorem f20_3e : aC P id m f20_3 sf st Q = aC P id m f20_4 sf st (seqQ (aC P id m f20_9) Q) := rfl
def f20_1 : AC := .seq f20_2 f20_3
theorem f20_1e : aC P id m f20_1 sf st Q = aC P id m f20_2 sf st (seqQ (aC P id m f20_3) Q) := rfl
def c_f20 : AFun := ⟨58, [.tmp 2, .tmp 3, .tmp 4], f20_1⟩
theorem k_f20 : compF Go.Proofs.Try.prog x_f20 20 = some c_f20 := by kernel_rfl
theorem e_f20 : enterB Go.Proofs.Try.prog 20 = true := by kernel_rfl

def n_f21 : Nat := 21
def x_f21 : Cx := ⟨some, id, 47, fun s => ([0, 1, 4, 5, 6, 9, 15, 16, 17, 18, 19, 20, 22, 23, 24, 25, 26, 30, 31, 35, 41, 42, 43, 44] : List Nat).contains s, fun s => ([44] : List Nat).contains s, msOf [(2, [0, 1], []), (12, [0, 1, 10], []), (52, [4, 5], []), (28, [0, 1, 14], []), (116, [4, 5], []), (60, [0, 1, 6, 8], []), (122, [0, 1, 6, 21], []), (492, [4, 5], []), (124, [0, 1, 36], []), (500, [], []), (1002, [4, 5], []), (126, [4, 5], [])]⟩
def f21_2l : List GI := [⟨none, .mv (some 4) (.c (.lit (.slice none 0 0)))⟩,
    ⟨none, .mv (some 5) (.c (.lit (.int .i64 0)))⟩]
def f21_2 : AC := .ops [0, 1] [] f21_2l
theorem f21_2e : aC P id m f21_2 sf st Q = runI P id m f21_2l (opsK [0, 1] [] Q) sf st := rfl
def f21_5l : List GI := [⟨none, .mv (some 9) (.r 0)⟩,
    ⟨none, .call (some 10) false (.f 29) [(.r 9)]⟩]
def f21_5 : AC := .ops [0, 1, 10] [] f21_5l
theorem f21_5e : aC P id m f21_5 sf st Q = runI P id m f21_5l (opsK [0, 1, 10] [] Q) sf st := rfl
def f21_8l : List GI := [⟨none, .mv (some 4) (.c (.lit (.slice none 0 0)))⟩,
    ⟨none, .mv (some 5) (.c (.lit (.int .i64 1)))⟩]
def f21_8 : AC := .ops [4, 5] [] f21_8l
theorem f21_8e : aC P id m f21_8 sf st Q = runI P id m f21_8l (opsK [4, 5] [] Q) sf st := rfl
def f21_7 : AC := .seq f21_8 .ret
theorem f21_7e : aC P id m f21_7 sf st Q = aC P id m f21_8 sf st (seqQ (aC P id m .ret) Q) := rfl
def f21_6 : AC := .cond (.r 10) f21_7 .skip
theorem f21_6e : aC P id m f21_6 sf st Q = condI (.r 10) (sf.ev id (.r 10)) (aC P id m f21_7) (aC P id m .skip) sf st Q := rfl
def f21_4 : AC := .seq f21_5 f21_6
theorem f21_4e : aC P id m f21_4 sf st Q = aC P id m f21_5 sf st (seqQ (aC P id m f21_6) Q) := rfl
def f21_11l : List GI := [⟨none, .mv (some 11) (.r 0)⟩,
    ⟨none, .nilck (some 12) (.r 11)⟩,
    ⟨none, .addr (some 13) (.r 12) 1⟩,
    ⟨none, .load (some 14) (.r 13) none⟩]
def f21_11 : AC := .ops [0, 1, 14] [] f21_11l
theorem f21_11e : aC P id m f21_11 sf st Q = runI P id m f21_11l (opsK [0, 1, 14] [] Q) sf st := rfl
def f21_14l : List GI := [⟨none, .mv (some 4) (.c (.lit (.slice none 0 0)))⟩,
    ⟨none, .mv (some 5) (.c (.lit (.int .i64 14)))⟩]
def f21_14 : AC := .ops [4, 5] [] f21_14l
theorem f21_14e : aC P id m f21_14 sf st Q = runI P id m f21_14l (opsK [4, 5] [] Q) sf st := rfl
def f21_13 : AC := .seq f21_14 .ret
theorem f21_13e : aC P id m f21_13 sf st Q = aC P id m f21_14 sf st (seqQ (aC P id m .ret) Q) := rfl
def f21_12 : AC := .cond (.r 14) f21_13 .skip
theorem f21_12e : aC P id m f21_12 sf st Q = condI (.r 14) (sf.ev id (.r 14)) (aC P id m f21_13) (aC P id m .skip) sf st Q := rfl
def f21_10 : AC := .seq f21_11 f21_12
theorem f21_10e : aC P id m f21_10 sf st Q = aC P id m f21_11 sf st (seqQ (aC P id m f21_12) Q) := rfl
def f21_17l : List GI := [⟨none, .mv (some 16) (.r 0)⟩,
    ⟨none, .call (some 17) false (.f 32) [(.r 16), (.c (.lit (.int .i64 1)))]⟩,
    ⟨none, .mv (some 15) (.r 17)⟩,
    ⟨none, .ext (some 18) (.r 15) 0⟩,
    ⟨none, .ext (some 19) (.r 15) 1⟩,
    ⟨none, .ext (some 20) (.r 15) 2⟩,
    ⟨none, .own 6 18⟩,
    ⟨none, .own 7 19⟩,
    ⟨none, .own 8 20⟩]
def f21_17 : AC := .ops [0, 1, 6, 8] [] f21_17l
theorem f21_17e : aC P id m f21_17 sf st Q = runI P id m f21_17l (opsK [0, 1, 6, 8] [] Q) sf st := rfl
def f21_19l : List GI := [⟨none, .mv (some 21) (.r 8)⟩]
def f21_19 : AC := .ops [0, 1, 6, 21] [] f21_19l
theorem f21_19e : aC P id m f21_19 sf st Q = runI P id m f21_19l (opsK [0, 1, 6, 21] [] Q) sf st := rfl
def f21_22l : List GI := [⟨none, .mv (some 22) (.r 6)⟩,
    ⟨none, .mv (some 23) (.r 1)⟩,
    ⟨none, .bst (some 24) [(0, 1), (1, 1), (2, 1), (3, 1)] (.agg [(.lit (.int .i64 0)), (.lit (.int .i64 0)), (.lit (.int .i64 0)), (.lit (.int .i64 0))]) [(0, (.r 22)), (2, (.r 23))]⟩,
    ⟨none, .bsl (some 25) 4 1 (.agg [(.lit (.int .i64 0)), (.lit (.int .i64 0)), (.lit (.int .i64 0)), (.lit (.int .i64 0))]) [(0, (.r 24))]⟩,
    ⟨none, .call (some 26) false (.f 34) [(.r 25)]⟩,
    ⟨none, .own 4 26⟩,
    ⟨none, .mv (some 5) (.c (.lit (.int .i64 0)))⟩]
def f21_22 : AC := .ops [4, 5] [] f21_22l
theorem f21_22e : aC P id m f21_22 sf st Q = runI P id m f21_22l (opsK [4, 5] [] Q) sf st := rfl
def f21_21 : AC := .seq f21_22 .ret
theorem f21_21e : aC P id m f21_21 sf st Q = aC P id m f21_22 sf st (seqQ (aC P id m .ret) Q) := rfl
def f21_20 : AC := .cond (.r 21) f21_21 .skip
theorem f21_20e : aC P id m f21_20 sf st Q = condI (.r 21) (sf.ev id (.r 21)) (aC P id m f21_21) (aC P id m .skip) sf st Q := rfl
def f21_18 : AC := .seq f21_19 f21_20
theorem f21_18e : aC P id m f21_18 sf st Q = aC P id m f21_19 sf st (seqQ (aC P id m f21_20) Q) := rfl
def f21_16 : AC := .seq f21_17 f21_18
theorem f21_16e : aC P id m f21_16 sf st Q = aC P id m f21_17 sf st (seqQ (aC P id m f21_18) Q) := rfl
def f21_25h : List GI := [⟨none, .mv (some 27) (.r 0)⟩,
    ⟨none, .nilck (some 28) (.r 27)⟩,
    ⟨none, .addr (some 29) (.r 28) 3⟩,
    ⟨none, .load (some 30) (.r 29) none⟩,
    ⟨none, .len (some 31) .sl (.r 30)⟩,
    ⟨none, .mv (some 32) (.r 0)⟩,
    ⟨none, .nilck (some 33) (.r 32)⟩,
    ⟨none, .addr (some 34) (.r 33) 2⟩,
    ⟨none, .load (some 35) (.r 34) none⟩]
def f21_25l : List GI := [⟨none, .bin (some 36) .num .lss (.r 31) (.r 35)⟩]
def f21_25 : AC := .draw [0, 1, 36] [] [] f21_25h f21_25l
theorem f21_25e : aC P id m f21_25 sf st Q = headI P id sf.locs st f21_25h (tailK P id m [] [0, 1, 36] [] f21_25l Q st) [] ⟨sf.regs, dropL [] sf.locs⟩ := rfl
def f21_28l : List GI := [⟨none, .mv (some 37) (.r 0)⟩,
    ⟨none, .mv (some 38) (.r 0)⟩,
    ⟨none, .nilck (some 39) (.r 38)⟩,
    ⟨none, .addr (some 40) (.r 39) 3⟩,
    ⟨none, .loadOwn 41 (.r 40)⟩,
    ⟨none, .mv (some 42) (.r 1)⟩,
    ⟨none, .bsl (some 43) 1 1 (.lit (.int .i64 0)) [(0, (.r 42))]⟩,
    ⟨none, .x (some 44) (.appB (.r 41) 1 8 (.r 43))⟩,
    ⟨none, .nilck (some 45) (.r 37)⟩,
    ⟨none, .addr (some 46) (.r 45) 3⟩,
    ⟨none, .store 1 (.r 46) (.r 44)⟩]
def f21_28 : AC := .ops [] [] f21_28l
theorem f21_28e : aC P id m f21_28 sf st Q = runI P id m f21_28l (opsK [] [] Q) sf st := rfl
def f21_30l : List GI := [⟨none, .mv (some 4) (.c (.lit (.slice none 0 0)))⟩,
    ⟨none, .mv (some 5) (.c (.lit (.int .i64 0)))⟩]
def f21_30 : AC := .ops [4, 5] [] f21_30l
theorem f21_30e : aC P id m f21_30 sf st Q = runI P id m f21_30l (opsK [4, 5] [] Q) sf st := rfl
def f21_29 : AC := .seq f21_30 .ret
theorem f21_29e : aC P id m f21_29 sf st Q = aC P id m f21_30 sf st (seqQ (aC P id m .ret) Q) := rfl
def f21_27 : AC := .seq f21_28 f21_29
theorem f21_27e : aC P id m f21_27 sf st Q = aC P id m f21_28 sf st (seqQ (aC P id m f21_29) Q) := rfl
def f21_26 : AC := .cond (.r 36) f21_27 .skip
theorem f21_26e : aC P id m f21_26 sf st Q = condI (.r 36) (sf.ev id (.r 36)) (aC P id m f21_27) (aC P id m .skip) sf st Q := rfl
def f21_24 : AC := .seq f21_25 f21_26
theorem f21_24e : aC P id m f21_24 sf st Q = aC P id m f21_25 sf st (seqQ (aC P id m f21_26) Q) := rfl
def f21_32l : List GI := [⟨none, .mv (some 4) (.c (.lit (.slice none 0 0)))⟩,
    ⟨none, .mv (some 5) (.c (.lit (.int .i64 16)))⟩]
def f21_32 : AC := .ops [4, 5] [] f21_32l
theorem f21_32e : aC P id m f21_32 sf st Q = runI P id m f21_32l (opsK [4, 5] [] Q) sf st := rfl
def f21_31 : AC := .seq f21_32 .ret
theorem f21_31e : aC P id m f21_31 sf st Q = aC P id m f21_32 sf st (seqQ (aC P id m .ret) Q) := rfl
def f21_23 : AC := .seq f21_24 f21_31
theorem f21_23e : aC P id m f21_23 sf st Q = aC P id m f21_24 sf st (seqQ (aC P id m f21_31) Q) := rfl
def f21_15 : AC := .seq f21_16 f21_23
theorem f21_15e : aC P id m f21_15 sf st Q = aC P id m f21_16 sf st (seqQ (aC P id m f21_23) Q) := rfl
def f21_9 : AC := .seq f21_10 f21_15
theorem f21_9e : aC P id m f21_9 sf st Q = aC P id m f21_10 sf st (seqQ (aC P id m f21_15) Q) := rfl
def f21_3 : AC := .seq f21_4 f21_9
theorem f21_3e : aC P id m f21_3 sf st Q = aC P id m f21_4 sf st (seqQ (aC P id m f21_9) Q) := rfl
def f21_1 : AC := .seq f21_2 f21_3
theorem f21_1e : aC P id m f21_1 sf st Q = aC P id m f21_2 sf st (seqQ (aC P id m f21_3) Q) := rfl
def c_f21 : AFun := ⟨47, [.tmp 4, .tmp 5], f21_1⟩
theorem k_f21 : compF Go.Proofs.Try.prog x_f21 21 = some c_f21 := by kernel_rfl
theorem e_f21 : enterB Go.Proofs.Try.prog 21 = true := by kernel_rfl

def n_f23 : Nat := 23
def x_f23 : Cx := ⟨some, id, 31, fun s => ([0, 1, 4, 6, 8, 9, 10, 12, 14, 15, 16, 17, 19, 21, 22, 23, 24, 26, 28, 29, 30] : List Nat).contains s, fun s => ([] : List Nat).contains s, msOf [(2, [2, 3], [2, 3]), (6, [4], [])]⟩
def f23_2l : List GI := [⟨none, .boxL 2 4 (.r 0)⟩,
    ⟨none, .boxL 3 4 (.r 1)⟩,
    ⟨none, .mv (some 4) (.c (.lit (.bool false)))⟩]
def f23_2 : AC := .ops [2, 3] [2, 3] f23_2l
theorem f23_2e : aC P id m f23_2 sf st Q = runI P id m f23_2l (opsK [2, 3] [2, 3] Q) sf st := rfl
def f23_4l : List GI := [⟨none, .addr (some 5) (.r 2) 0⟩,
    ⟨none, .load (some 6) (.r 5) none⟩,
    ⟨none, .addr (some 7) (.r 3) 0⟩,
    ⟨none, .load (some 8) (.r 7) none⟩,
    ⟨none, .bin (some 9) .num .eql (.r 6) (.r 8)⟩,
    ⟨none, .mv (some 10) (.r 9)⟩,
    ⟨some (10, true), .addr (some 11) (.r 2) 1⟩,
    ⟨some (10, true), .load (some 12) (.r 11) none⟩,
    ⟨some (10, true), .addr (some 13) (.r 3) 1⟩,
    ⟨some (10, true), .load (some 14) (.r 13) none⟩,
    ⟨some (10, true), .bin (some 15) .bool .eql (.r 12) (.r 14)⟩,
    ⟨none, .pick (some 16) (.r 10) (.r 15) (.c (.lit (.bool false)))⟩,
    ⟨none, .mv (some 17) (.r 16)⟩,
    ⟨some (17, true), .addr (some 18) (.r 2) 3⟩,
    ⟨some (17, true), .load (some 19) (.r 18) none⟩,
    ⟨some (17, true), .addr (some 20) (.r 3) 3⟩,
    ⟨some (17, true), .load (some 21) (.r 20) none⟩,
    ⟨some (17, true), .bin (some 22) .num .eql (.r 19) (.r 21)⟩,
    ⟨none, .pick (some 23) (.r 17) (.r 22) (.c (.lit (.bool false)))⟩,
    ⟨none, .mv (some 24) (.r 23)⟩,
    ⟨some (24, true), .addr (some 25) (.r 2) 2⟩,
    ⟨some (24, true), .load (some 26) (.r 25) none⟩,
    ⟨some (24, true), .addr (some 27) (.r 3) 2⟩,
    ⟨some (24, true), .load (some 28) (.r 27) none⟩,
    ⟨some (24, true), .call (some 29) false (.f 37) [(.r 26), (.r 28)]⟩,
    ⟨none, .pick (some 30) (.r 24) (.r 29) (.c (.lit (.bool false)))⟩,
    ⟨none, .own 4 30⟩]
def f23_4 : AC := .ops [4] [] f23_4l
theorem f23_4e : aC P id m f23_4 sf st Q = runI P id m f23_4l (opsK [4] [] Q) sf st := rfl
def f23_3 : AC := .seq f23_4 .ret
theorem f23_3e : aC P id m f23_3 sf st Q = aC P id m f23_4 sf st (seqQ (aC P id m .ret) Q) := rfl
def f23_1 : AC := .seq f23_2 f23_3
theorem f23_1e : aC P id m f23_1 sf st Q = aC P id m f23_2 sf st (seqQ (aC P id m f23_3) Q) := rfl
def c_f23 : AFun := ⟨31, [.tmp 4], f23_1⟩
theorem k_f23 : compF Go.Proofs.Try.prog x_f23 23 = some c_f23 := by kernel_rfl
theorem e_f23 : enterB Go.Proofs.Try.prog 23 = true := by kernel_rfl

def n_f24 : Nat := 24
def x_f24 : Cx := ⟨some, id, 4, fun s => ([0, 1, 2, 3] : List Nat).contains s, fun s => ([] : List Nat).contains s, msOf [(2, [], []), (6, [0], [])]⟩
def f24_2l : List GI := [⟨none, .mv (some 0) (.c (.lit (.pointer none)))⟩]
def f24_2 : AC := .ops [] [] f24_2l
theorem f24_2e : aC P id m f24_2 sf st Q = runI P id m f24_2l (opsK [] [] Q) sf st := rfl
def f24_4l : List GI := [⟨none, .mkmap 1⟩,
    ⟨none, .bst (some 2) [(0, 3), (3, 1)] (.agg [(.lit (.int .u64 0)), (.lit (.int .u64 0)), (.lit (.int .u64 0)), (.lit (.map none))]) [(1, (.r 1))]⟩,
    ⟨none, .boxB 3 4 (.r 2)⟩,
    ⟨none, .own 0 3⟩]
def f24_4 : AC := .ops [0] [] f24_4l
theorem f24_4e : aC P id m f24_4 sf st Q = runI P id m f24_4l (opsK [0] [] Q) sf st := rfl
def f24_3 : AC := .seq f24_4 .ret
theorem f24_3e : aC P id m f24_3 sf st Q = aC P id m f24_4 sf st (seqQ (aC P id m .ret) Q) := rfl
def f24_1 : AC := .seq f24_2 f24_3
theorem f24_1e : aC P id m f24_1 sf st Q = aC P id m f24_2 sf st (seqQ (aC P id m f24_3) Q) := rfl
def c_f24 : AFun := ⟨4, [.tmp 0], f24_1⟩
theorem k_f24 : compF Go.Proofs.Try.prog x_f24 24 = some c_f24 := by kernel_rfl
theorem e_f24 : enterB Go.Proofs.Try.prog 24 = true := by kernel_rfl

def n_f25 : Nat := 25
def x_f25 : Cx := ⟨some, id, 12, fun s => ([0, 1, 2, 6, 7, 8, 9, 10, 11] : List Nat).contains s, fun s => ([9] : List Nat).contains s, msOf [(2, [0, 4, 5], [4, 5]), (6, [6], [])]⟩
def f25_2l : List GI := [⟨none, .boxL 4 3 (.r 1)⟩,
    ⟨none, .boxL 5 4 (.r 2)⟩,
    ⟨none, .mv (some 6) (.c (.lit (.bool false)))⟩]
def f25_2 : AC := .ops [0, 4, 5] [4, 5] f25_2l
theorem f25_2e : aC P id m f25_2 sf st Q = runI P id m f25_2l (opsK [0, 4, 5] [4, 5] Q) sf st := rfl
def f25_4h : List GI := [⟨none, .mv (some 7) (.r 0)⟩,
    ⟨none, .load (some 8) (.r 4) (some 3)⟩]
def f25_4p : List (Bool × GI) := [(false, ⟨none, .load (some 10) (.r 5) (some 4)⟩)]
def f25_4l : List GI := [⟨none, .call (some 11) false (.f 23) [(.r 9), (.r 10)]⟩,
    ⟨none, .own 6 11⟩]
def f25_4 : AC := .drawM [6] [] f25_4h (some 9) (.f 11) [(.r 7), (.r 8)] f25_4p f25_4l
theorem f25_4e : aC P id m f25_4 sf st Q = (m = false ∧ drawM P id f25_4h (some 9) (.f 11) [(.r 7), (.r 8)] f25_4p sf st (tailM P id m [6] [] f25_4l Q)) := rfl
def f25_3 : AC := .seq f25_4 .ret
theorem f25_3e : aC P id m f25_3 sf st Q = aC P id m f25_4 sf st (seqQ (aC P id m .ret) Q) := rfl
def f25_1 : AC := .seq f25_2 f25_3
theorem f25_1e : aC P id m f25_1 sf st Q = aC P id m f25_2 sf st (seqQ (aC P id m f25_3) Q) := rfl
def c_f25 : AFun := ⟨12, [.tmp 6], f25_1⟩
theorem k_f25 : compF Go.Proofs.Try.prog x_f25 25 = some c_f25 := by kernel_rfl
theorem e_f25 : enterB Go.Proofs.Try.prog 25 = true := by kernel_rfl

def n_f26 : Nat := 26
def x_f26 : Cx := ⟨some, id, 32, fun s => ([0, 1, 2, 6, 7, 8, 9, 10, 11, 12, 13, 15, 16, 17, 18, 19, 20, 21, 22, 24, 25, 26, 27, 28, 29, 30, 31] : List Nat).contains s, fun s => ([] : List Nat).contains s, msOf [(2, [0, 1, 2], []), (12, [0, 1, 2, 9], []), (26, [0, 1, 2, 9, 14], []), (108, [6, 7, 8], []), (14, [0, 1, 2, 7, 8], []), (60, [0, 1, 2, 7, 8, 23], []), (244, [6, 7, 8], []), (62, [6, 7, 8], [])]⟩
def f26_2l : List GI := [⟨none, .mv (some 6) (.c (.lit (.bool false)))⟩,
    ⟨none, .mv (some 7) (.c (.lit (.slice none 0 0)))⟩,
    ⟨none, .mv (some 8) (.c (.lit (.int .i64 0)))⟩]
def f26_2 : AC := .ops [0, 1, 2] [] f26_2l
theorem f26_2e : aC P id m f26_2 sf st Q = runI P id m f26_2l (opsK [0, 1, 2] [] Q) sf st := rfl
def f26_5l : List GI := [⟨none, .mv (some 10) (.r 0)⟩,
    ⟨none, .mv (some 11) (.r 1)⟩,
    ⟨none, .call (some 12) false (.f 38) [(.r 10), (.r 11)]⟩,
    ⟨none, .own 9 12⟩]
def f26_5 : AC := .ops [0, 1, 2, 9] [] f26_5l
theorem f26_5e : aC P id m f26_5 sf st Q = runI P id m f26_5l (opsK [0, 1, 2, 9] [] Q) sf st := rfl
def f26_7l : List GI := [⟨none, .mv (some 13) (.r 9)⟩,
    ⟨none, .bin (some 14) .num .neq (.r 13) (.c (.lit (.int .i64 0)))⟩]
def f26_7 : AC := .ops [0, 1, 2, 9, 14] [] f26_7l
theorem f26_7e : aC P id m f26_7 sf st Q = runI P id m f26_7l (opsK [0, 1, 2, 9, 14] [] Q) sf st := rfl
def f26_10l : List GI := [⟨none, .mv (some 15) (.r 9)⟩,
    ⟨none, .mv (some 6) (.c (.lit (.bool false)))⟩,
    ⟨none, .mv (some 7) (.c (.lit (.slice none 0 0)))⟩,
    ⟨none, .own 8 15⟩]
def f26_10 : AC := .ops [6, 7, 8] [] f26_10l
theorem f26_10e : aC P id m f26_10 sf st Q = runI P id m f26_10l (opsK [6, 7, 8] [] Q) sf st := rfl
def f26_9 : AC := .seq f26_10 .ret
theorem f26_9e : aC P id m f26_9 sf st Q = aC P id m f26_10 sf st (seqQ (aC P id m .ret) Q) := rfl
def f26_8 : AC := .cond (.r 14) f26_9 .skip
theorem f26_8e : aC P id m f26_8 sf st Q = condI (.r 14) (sf.ev id (.r 14)) (aC P id m f26_9) (aC P id m .skip) sf st Q := rfl
def f26_6 : AC := .seq f26_7 f26_8
theorem f26_6e : aC P id m f26_6 sf st Q = aC P id m f26_7 sf st (seqQ (aC P id m f26_8) Q) := rfl
def f26_4 : AC := .seq f26_5 f26_6
theorem f26_4e : aC P id m f26_4 sf st Q = aC P id m f26_5 sf st (seqQ (aC P id m f26_6) Q) := rfl
def f26_12l : List GI := [⟨none, .mv (some 17) (.r 0)⟩,
    ⟨none, .mv (some 18) (.r 2)⟩,
    ⟨none, .call (some 19) false (.f 21) [(.r 17), (.r 18)]⟩,
    ⟨none, .mv (some 16) (.r 19)⟩,
    ⟨none, .ext (some 20) (.r 16) 0⟩,
    ⟨none, .ext (some 21) (.r 16) 1⟩,
    ⟨none, .own 7 20⟩,
    ⟨none, .own 8 21⟩]
def f26_12 : AC := .ops [0, 1, 2, 7, 8] [] f26_12l
theorem f26_12e : aC P id m f26_12 sf st Q = runI P id m f26_12l (opsK [0, 1, 2, 7, 8] [] Q) sf st := rfl
def f26_15l : List GI := [⟨none, .mv (some 22) (.r 8)⟩,
    ⟨none, .bin (some 23) .num .eql (.r 22) (.c (.lit (.int .i64 16)))⟩]
def f26_15 : AC := .ops [0, 1, 2, 7, 8, 23] [] f26_15l
theorem f26_15e : aC P id m f26_15 sf st Q = runI P id m f26_15l (opsK [0, 1, 2, 7, 8, 23] [] Q) sf st := rfl
def f26_18l : List GI := [⟨none, .mv (some 24) (.r 0)⟩,
    ⟨none, .mv (some 25) (.r 1)⟩,
    ⟨none, .mv (some 26) (.r 2)⟩,
    ⟨none, .call (some 27) false (.f 39) [(.r 24), (.c (.lit (.int .i64 0))), (.r 25), (.r 26)]⟩,
    ⟨none, .mv (some 6) (.c (.lit (.bool false)))⟩,
    ⟨none, .mv (some 7) (.c (.lit (.slice none 0 0)))⟩,
    ⟨none, .own 8 27⟩]
def f26_18 : AC := .ops [6, 7, 8] [] f26_18l
theorem f26_18e : aC P id m f26_18 sf st Q = runI P id m f26_18l (opsK [6, 7, 8] [] Q) sf st := rfl
def f26_17 : AC := .seq f26_18 .ret
theorem f26_17e : aC P id m f26_17 sf st Q = aC P id m f26_18 sf st (seqQ (aC P id m .ret) Q) := rfl
def f26_16 : AC := .cond (.r 23) f26_17 .skip
theorem f26_16e : aC P id m f26_16 sf st Q = condI (.r 23) (sf.ev id (.r 23)) (aC P id m f26_17) (aC P id m .skip) sf st Q := rfl
def f26_14 : AC := .seq f26_15 f26_16
theorem f26_14e : aC P id m f26_14 sf st Q = aC P id m f26_15 sf st (seqQ (aC P id m f26_16) Q) := rfl
def f26_20l : List GI := [⟨none, .mv (some 28) (.r 8)⟩,
    ⟨none, .bin (some 29) .num .eql (.r 28) (.c (.lit (.int .i64 0)))⟩,
    ⟨none, .mv (some 30) (.r 7)⟩,
    ⟨none, .mv (some 31) (.r 8)⟩,
    ⟨none, .own 6 29⟩,
    ⟨none, .own 7 30⟩,
    ⟨none, .own 8 31⟩]
def f26_20 : AC := .ops [6, 7, 8] [] f26_20l
theorem f26_20e : aC P id m f26_20 sf st Q = runI P id m f26_20l (opsK [6, 7, 8] [] Q) sf st := rfl
def f26_19 : AC := .seq f26_20 .ret
theorem f26_19e : aC P id m f26_19 sf st Q = aC P id m f26_20 sf st (seqQ (aC P id m .ret) Q) := rfl
def f26_13 : AC := .seq f26_14 f26_19
theorem f26_13e : aC P id m f26_13 sf st Q = aC P id m f26_14 sf st (seqQ (aC P id m f26_19) Q) := rfl
def f26_11 : AC := .seq f26_12 f26_13
theorem f26_11e : aC P id m f26_11 sf st Q = aC P id m f26_12 sf st (seqQ (aC P id m f26_13) Q) := rfl
def f26_3 : AC := .seq f26_4 f26_11
theorem f26_3e : aC P id m f26_3 sf st Q = aC P id m f26_4 sf st (seqQ (aC P id m f26_11) Q) := rfl
def f26_1 : AC := .seq f26_2 f26_3
theorem f26_1e : aC P id m f26_1 sf st Q = aC P id m f26_2 sf st (seqQ (aC P id m f26_3) Q) := rfl
def c_f26 : AFun := ⟨32, [.tmp 6, .tmp 7, .tmp 8], f26_1⟩
theorem k_f26 : compF Go.Proofs.Try.prog x_f26 26 = some c_f26 := by kernel_rfl
theorem e_f26 : enterB Go.Proofs.Try.prog 26 = true := by kernel_rfl

def n_f27 : Nat := 27
def x_f27 : Cx := ⟨some, id, 31, fun s => ([0, 1, 4, 5, 6, 7, 8, 9, 10, 11, 12, 14, 15, 16, 17, 18, 19, 20, 21, 23, 24, 25, 26, 27, 28, 29, 30] : List Nat).contains s, fun s => ([] : List Nat).contains s, msOf [(2, [0, 1], []), (12, [0, 1, 8], []), (26, [0, 1, 8, 13], []), (108, [4, 5, 6, 7], []), (14, [0, 1, 4, 6, 7], []), (60, [0, 1, 4, 6, 7, 22], []), (244, [4, 5, 6, 7], []), (62, [4, 5, 6, 7], [])]⟩
def f27_2l : List GI := [⟨none, .mv (some 4) (.c (.lit (.int .i64 0)))⟩,
    ⟨none, .mv (some 5) (.c (.lit (.bool false)))⟩,
    ⟨none, .mv (some 6) (.c (.lit (.slice none 0 0)))⟩,
    ⟨none, .mv (some 7) (.c (.lit (.int .i64 0)))⟩]
def f27_2 : AC := .ops [0, 1] [] f27_2l
theorem f27_2e : aC P id m f27_2 sf st Q = runI P id m f27_2l (opsK [0, 1] [] Q) sf st := rfl
def f27_5l : List GI := [⟨none, .mv (some 9) (.r 0)⟩,
    ⟨none, .mv (some 10) (.r 1)⟩,
    ⟨none, .call (some 11) false (.f 38) [(.r 9), (.r 10)]⟩,
    ⟨none, .own 8 11⟩]
def f27_5 : AC := .ops [0, 1, 8] [] f27_5l
theorem f27_5e : aC P id m f27_5 sf st Q = runI P id m f27_5l (opsK [0, 1, 8] [] Q) sf st := rfl
def f27_7l : List GI := [⟨none, .mv (some 12) (.r 8)⟩,
    ⟨none, .bin (some 13) .num .neq (.r 12) (.c (.lit (.int .i64 0)))⟩]
def f27_7 : AC := .ops [0, 1, 8, 13] [] f27_7l
theorem f27_7e : aC P id m f27_7 sf st Q = runI P id m f27_7l (opsK [0, 1, 8, 13] [] Q) sf st := rfl
def f27_10l : List GI := [⟨none, .mv (some 14) (.r 8)⟩,
    ⟨none, .mv (some 4) (.c (.lit (.int .i64 0)))⟩,
    ⟨none, .mv (some 5) (.c (.lit (.bool false)))⟩,
    ⟨none, .mv (some 6) (.c (.lit (.slice none 0 0)))⟩,
    ⟨none, .own 7 14⟩]
def f27_10 : AC := .ops [4, 5, 6, 7] [] f27_10l
theorem f27_10e : aC P id m f27_10 sf st Q = runI P id m f27_10l (opsK [4, 5, 6, 7] [] Q) sf st := rfl
def f27_9 : AC := .seq f27_10 .ret
theorem f27_9e : aC P id m f27_9 sf st Q = aC P id m f27_10 sf st (seqQ (aC P id m .ret) Q) := rfl
def f27_8 : AC := .cond (.r 13) f27_9 .skip
theorem f27_8e : aC P id m f27_8 sf st Q = condI (.r 13) (sf.ev id (.r 13)) (aC P id m f27_9) (aC P id m .skip) sf st Q := rfl
def f27_6 : AC := .seq f27_7 f27_8
theorem f27_6e : aC P id m f27_6 sf st Q = aC P id m f27_7 sf st (seqQ (aC P id m f27_8) Q) := rfl
def f27_4 : AC := .seq f27_5 f27_6
theorem f27_4e : aC P id m f27_4 sf st Q = aC P id m f27_5 sf st (seqQ (aC P id m f27_6) Q) := rfl
def f27_12l : List GI := [⟨none, .mv (some 16) (.r 0)⟩,
    ⟨none, .call (some 17) false (.f 20) [(.r 16)]⟩,
    ⟨none, .mv (some 15) (.r 17)⟩,
    ⟨none, .ext (some 18) (.r 15) 0⟩,
    ⟨none, .ext (some 19) (.r 15) 1⟩,
    ⟨none, .ext (some 20) (.r 15) 2⟩,
    ⟨none, .own 4 18⟩,
    ⟨none, .own 6 19⟩,
    ⟨none, .own 7 20⟩]
def f27_12 : AC := .ops [0, 1, 4, 6, 7] [] f27_12l
theorem f27_12e : aC P id m f27_12 sf st Q = runI P id m f27_12l (opsK [0, 1, 4, 6, 7] [] Q) sf st := rfl
def f27_15l : List GI := [⟨none, .mv (some 21) (.r 7)⟩,
    ⟨none, .bin (some 22) .num .eql (.r 21) (.c (.lit (.int .i64 16)))⟩]
def f27_15 : AC := .ops [0, 1, 4, 6, 7, 22] [] f27_15l
theorem f27_15e : aC P id m f27_15 sf st Q = runI P id m f27_15l (opsK [0, 1, 4, 6, 7, 22] [] Q) sf st := rfl
def f27_18l : List GI := [⟨none, .mv (some 23) (.r 0)⟩,
    ⟨none, .mv (some 24) (.r 1)⟩,
    ⟨none, .call (some 25) false (.f 39) [(.r 23), (.c (.lit (.int .i64 1))), (.r 24), (.c (.lit (.int .i64 0)))]⟩,
    ⟨none, .mv (some 4) (.c (.lit (.int .i64 0)))⟩,
    ⟨none, .mv (some 5) (.c (.lit (.bool false)))⟩,
    ⟨none, .mv (some 6) (.c (.lit (.slice none 0 0)))⟩,
    ⟨none, .own 7 25⟩]
def f27_18 : AC := .ops [4, 5, 6, 7] [] f27_18l
theorem f27_18e : aC P id m f27_18 sf st Q = runI P id m f27_18l (opsK [4, 5, 6, 7] [] Q) sf st := rfl
def f27_17 : AC := .seq f27_18 .ret
theorem f27_17e : aC P id m f27_17 sf st Q = aC P id m f27_18 sf st (seqQ (aC P id m .ret) Q) := rfl
def f27_16 : AC := .cond (.r 22) f27_17 .skip
theorem f27_16e : aC P id m f27_16 sf st Q = condI (.r 22) (sf.ev id (.r 22)) (aC P id m f27_17) (aC P id m .skip) sf st Q := rfl
def f27_14 : AC := .seq f27_15 f27_16
theorem f27_14e : aC P id m f27_14 sf st Q = aC P id m f27_15 sf st (seqQ (aC P id m f27_16) Q) := rfl
def f27_20l : List GI := [⟨none, .mv (some 26) (.r 4)⟩,
    ⟨none, .mv (some 27) (.r 7)⟩,
    ⟨none, .bin (some 28) .num .eql (.r 27) (.c (.lit (.int .i64 0)))⟩,
    ⟨none, .mv (some 29) (.r 6)⟩,
    ⟨none, .mv (some 30) (.r 7)⟩,
    ⟨none, .own 4 26⟩,
    ⟨none, .own 5 28⟩,
    ⟨none, .own 6 29⟩,
    ⟨none, .own 7 30⟩]
def f27_20 : AC := .ops [4, 5, 6, 7] [] f27_20l
theorem f27_20e : aC P id m f27_20 sf st Q = runI P id m f27_20l (opsK [4, 5, 6, 7] [] Q) sf st := rfl
def f27_19 : AC := .seq f27_20 .ret
theorem f27_19e : aC P id m f27_19 sf st Q = aC P id m f27_20 sf st (seqQ (aC P id m .ret) Q) := rfl
def f27_13 : AC := .seq f27_14 f27_19
theorem f27_13e : aC P id m f27_13 sf st Q = aC P id m f27_14 sf st (seqQ (aC P id m f27_19) Q) := rfl
def f27_11 : AC := .seq f27_12 f27_13
theorem f27_11e : aC P id m f27_11 sf st Q = aC P id m f27_12 sf st (seqQ (aC P id m f27_13) Q) := rfl
def f27_3 : AC := .seq f27_4 f27_11
theorem f27_3e : aC P id m f27_3 sf st Q = aC P id m f27_4 sf st (seqQ (aC P id m f27_11) Q) := rfl
def f27_1 : AC := .seq f27_2 f27_3
theorem f27_1e : aC P id m f27_1 sf st Q = aC P id m f27_2 sf st (seqQ (aC P id m f27_3) Q) := rfl
def c_f27 : AFun := ⟨31, [.tmp 4, .tmp 5, .tmp 6, .tmp 7], f27_1⟩
theorem k_f27 : compF Go.Proofs.Try.prog x_f27 27 = some c_f27 := by kernel_rfl
theorem e_f27 : enterB Go.Proofs.Try.prog 27 = true := by kernel_rfl

def n_f28 : Nat := 28
def x_f28 : Cx := ⟨some, id, 37, fun s => ([0, 1, 4, 5, 7, 8, 9, 10, 11, 13, 15, 19, 20, 21, 24, 28, 30, 35, 36] : List Nat).contains s, fun s => ([] : List Nat).contains s, msOf [(2, [0, 1], []), (6, [0, 1, 5], []), (14, [0, 1, 5, 10], []), (60, [0, 1, 5, 10, 12], []), (244, [4], []), (246, [0, 1, 5, 14], []), (988, [0, 1, 6], [6]), (1978, [0, 1], []), (3958, [], []), (7918, [4], []), (990, [4], [])]⟩
def f28_2l : List GI := [⟨none, .mv (some 4) (.c (.lit (.int .i64 0)))⟩]
def f28_2 : AC := .ops [0, 1] [] f28_2l
theorem f28_2e : aC P id m f28_2 sf st Q = runI P id m f28_2l (opsK [0, 1] [] Q) sf st := rfl
def f28_4l : List GI := [⟨none, .mv (some 7) (.r 0)⟩,
    ⟨none, .mv (some 8) (.r 1)⟩,
    ⟨none, .call (some 9) false (.f 38) [(.r 7), (.r 8)]⟩,
    ⟨none, .own 5 9⟩]
def f28_4 : AC := .ops [0, 1, 5] [] f28_4l
theorem f28_4e : aC P id m f28_4 sf st Q = runI P id m f28_4l (opsK [0, 1, 5] [] Q) sf st := rfl
def f28_6l : List GI := [⟨none, .mv (some 10) (.r 5)⟩]
def f28_6 : AC := .ops [0, 1, 5, 10] [] f28_6l
theorem f28_6e : aC P id m f28_6 sf st Q = runI P id m f28_6l (opsK [0, 1, 5, 10] [] Q) sf st := rfl
def f28_9l : List GI := [⟨none, .bin (some 13) .num .eql (.r 10) (.c (.lit (.int .i64 0)))⟩,
    ⟨none, .own 12 13⟩]
def f28_9 : AC := .ops [0, 1, 5, 10, 12] [] f28_9l
theorem f28_9e : aC P id m f28_9 sf st Q = runI P id m f28_9l (opsK [0, 1, 5, 10, 12] [] Q) sf st := rfl
def f28_12l : List GI := [⟨none, .mv (some 4) (.c (.lit (.int .i64 9)))⟩]
def f28_12 : AC := .ops [4] [] f28_12l
theorem f28_12e : aC P id m f28_12 sf st Q = runI P id m f28_12l (opsK [4] [] Q) sf st := rfl
def f28_11 : AC := .seq f28_12 .ret
theorem f28_11e : aC P id m f28_11 sf st Q = aC P id m f28_12 sf st (seqQ (aC P id m .ret) Q) := rfl
def f28_14l : List GI := [⟨none, .bin (some 15) .num .eql (.r 10) (.c (.lit (.int .i64 11)))⟩,
    ⟨none, .own 14 15⟩]
def f28_14 : AC := .ops [0, 1, 5, 14] [] f28_14l
theorem f28_14e : aC P id m f28_14 sf st Q = runI P id m f28_14l (opsK [0, 1, 5, 14] [] Q) sf st := rfl
def f28_17l : List GI := [⟨none, .mv (some 16) (.r 0)⟩,
    ⟨none, .nilck (some 17) (.r 16)⟩,
    ⟨none, .addr (some 18) (.r 17) 6⟩,
    ⟨none, .load (some 19) (.r 18) none⟩,
    ⟨none, .mv (some 20) (.r 1)⟩,
    ⟨none, .lookup (some 21) (.int .i64) (.agg [(.lit (.int .i64 0)), (.lit (.int .i64 0)), (.lit (.int .u64 0))]) false (.r 19) (.r 20)⟩,
    ⟨none, .newL 6 [(.lit (.int .i64 0)), (.lit (.int .i64 0)), (.lit (.int .u64 0))]⟩,
    ⟨none, .store 3 (.r 6) (.r 21)⟩]
def f28_17 : AC := .ops [0, 1, 6] [6] f28_17l
theorem f28_17e : aC P id m f28_17 sf st Q = runI P id m f28_17l (opsK [0, 1, 6] [6] Q) sf st := rfl
def f28_19h : List GI := [⟨none, .mv (some 22) (.r 0)⟩,
    ⟨none, .addr (some 23) (.r 6) 0⟩,
    ⟨none, .load (some 24) (.r 23) none⟩,
    ⟨none, .nilck (some 25) (.r 22)⟩,
    ⟨none, .addr (some 26) (.r 25) 4⟩,
    ⟨none, .ixA (some 27) (.r 26) (.r 24) 2 1⟩,
    ⟨none, .load (some 28) (.r 27) none⟩,
    ⟨none, .addr (some 29) (.r 6) 2⟩,
    ⟨none, .load (some 30) (.r 29) none⟩]
def f28_19l : List GI := [⟨none, .call (some 31) false (.f 40) [(.r 28), (.r 30)]⟩]
def f28_19 : AC := .draw [0, 1] [] [] f28_19h f28_19l
theorem f28_19e : aC P id m f28_19 sf st Q = headI P id sf.locs st f28_19h (tailK P id m [] [0, 1] [] f28_19l Q st) [] ⟨sf.regs, dropL [] sf.locs⟩ := rfl
def f28_21l : List GI := [⟨none, .mv (some 32) (.r 0)⟩,
    ⟨none, .nilck (some 33) (.r 32)⟩,
    ⟨none, .addr (some 34) (.r 33) 6⟩,
    ⟨none, .load (some 35) (.r 34) none⟩,
    ⟨none, .mv (some 36) (.r 1)⟩,
    ⟨none, .del (.int .i64) (.r 35) (.r 36)⟩]
def f28_21 : AC := .ops [] [] f28_21l
theorem f28_21e : aC P id m f28_21 sf st Q = runI P id m f28_21l (opsK [] [] Q) sf st := rfl
def f28_23l : List GI := [⟨none, .mv (some 4) (.c (.lit (.int .i64 0)))⟩]
def f28_23 : AC := .ops [4] [] f28_23l
theorem f28_23e : aC P id m f28_23 sf st Q = runI P id m f28_23l (opsK [4] [] Q) sf st := rfl
def f28_22 : AC := .seq f28_23 .ret
theorem f28_22e : aC P id m f28_22 sf st Q = aC P id m f28_23 sf st (seqQ (aC P id m .ret) Q) := rfl
def f28_20 : AC := .seq f28_21 f28_22
theorem f28_20e : aC P id m f28_20 sf st Q = aC P id m f28_21 sf st (seqQ (aC P id m f28_22) Q) := rfl
def f28_18 : AC := .seq f28_19 f28_20
theorem f28_18e : aC P id m f28_18 sf st Q = aC P id m f28_19 sf st (seqQ (aC P id m f28_20) Q) := rfl
def f28_16 : AC := .seq f28_17 f28_18
theorem f28_16e : aC P id m f28_16 sf st Q = aC P id m f28_17 sf st (seqQ (aC P id m f28_18) Q) := rfl
def f28_25l : List GI := [⟨none, .mv (some 11) (.r 5)⟩,
    ⟨none, .own 4 11⟩]
def f28_25 : AC := .ops [4] [] f28_25l
theorem f28_25e : aC P id m f28_25 sf st Q = runI P id m f28_25l (opsK [4] [] Q) sf st := rfl
def f28_24 : AC := .seq f28_25 .ret
theorem f28_24e : aC P id m f28_24 sf st Q = aC P id m f28_25 sf st (seqQ (aC P id m .ret) Q) := rfl
def f28_15 : AC := .cond (.r 14) f28_16 f28_24
theorem f28_15e : aC P id m f28_15 sf st Q = condI (.r 14) (sf.ev id (.r 14)) (aC P id m f28_16) (aC P id m f28_24) sf st Q := rfl
def f28_13 : AC := .seq f28_14 f28_15
theorem f28_13e : aC P id m f28_13 sf st Q = aC P id m f28_14 sf st (seqQ (aC P id m f28_15) Q) := rfl
def f28_10 : AC := .cond (.r 12) f28_11 f28_13
theorem f28_10e : aC P id m f28_10 sf st Q = condI (.r 12) (sf.ev id (.r 12)) (aC P id m f28_11) (aC P id m f28_13) sf st Q := rfl
def f28_8 : AC := .seq f28_9 f28_10
theorem f28_8e : aC P id m f28_8 sf st Q = aC P id m f28_9 sf st (seqQ (aC P id m f28_10) Q) := rfl
def f28_7 : AC := .block 0 f28_8
theorem f28_7e : aC P id m f28_7 sf st Q = aC P id m f28_8 sf st (blockQ 0 Q) := rfl
def f28_5 : AC := .seq f28_6 f28_7
theorem f28_5e : aC P id m f28_5 sf st Q = aC P id m f28_6 sf st (seqQ (aC P id m f28_7) Q) := rfl
def f28_3 : AC := .seq f28_4 f28_5
theorem f28_3e : aC P id m f28_3 sf st Q = aC P id m f28_4 sf st (seqQ (aC P id m f28_5) Q) := rfl
def f28_1 : AC := .seq f28_2 f28_3
theorem f28_1e : aC P id m f28_1 sf st Q = aC P id m f28_2 sf st (seqQ (aC P id m f28_3) Q) := rfl
def c_f28 : AFun := ⟨37, [.tmp 4], f28_1⟩
theorem k_f28 : compF Go.Proofs.Try.prog x_f28 28 = some c_f28 := by kernel_rfl
theorem e_f28 : enterB Go.Proofs.Try.prog 28 = true := by kernel_rfl

def n_f29 : Nat := 29
def x_f29 : Cx := ⟨some, id, 12, fun s => ([0, 2, 3, 4, 5, 9, 10, 11] : List Nat).contains s, fun s => ([] : List Nat).contains s, msOf [(2, [0], []), (6, [2], [])]⟩
def f29_2l : List GI := [⟨none, .mv (some 2) (.c (.lit (.bool false)))⟩]
def f29_2 : AC := .ops [0] [] f29_2l
theorem f29_2e : aC P id m f29_2 sf st Q = runI P id m f29_2l (opsK [0] [] Q) sf st := rfl
def f29_4l : List GI := [⟨none, .mv (some 3) (.r 0)⟩,
    ⟨none, .bin (some 4) (.nil .ptr) .eql (.r 3) (.c (.lit (.pointer none)))⟩,
    ⟨none, .mv (some 5) (.r 4)⟩,
    ⟨some (5, false), .mv (some 6) (.r 0)⟩,
    ⟨some (5, false), .nilck (some 7) (.r 6)⟩,
    ⟨some (5, false), .addr (some 8) (.r 7) 0⟩,
    ⟨some (5, false), .load (some 9) (.r 8) none⟩,
    ⟨some (5, false), .un (some 10) .not (.r 9)⟩,
    ⟨none, .pick (some 11) (.r 5) (.c (.lit (.bool true))) (.r 10)⟩,
    ⟨none, .own 2 11⟩]
def f29_4 : AC := .ops [2] [] f29_4l
theorem f29_4e : aC P id m f29_4 sf st Q = runI P id m f29_4l (opsK [2] [] Q) sf st := rfl
def f29_3 : AC := .seq f29_4 .ret
theorem f29_3e : aC P id m f29_3 sf st Q = aC P id m f29_4 sf st (seqQ (aC P id m .ret) Q) := rfl
def f29_1 : AC := .seq f29_2 f29_3
theorem f29_1e : aC P id m f29_1 sf st Q = aC P id m f29_2 sf st (seqQ (aC P id m f29_3) Q) := rfl
def c_f29 : AFun := ⟨12, [.tmp 2], f29_1⟩
theorem k_f29 : compF Go.Proofs.Try.prog x_f29 29 = some c_f29 := by kernel_rfl
theorem e_f29 : enterB Go.Proofs.Try.prog 29 = true := by kernel_rfl

def n_f30 : Nat := 30
def x_f30 : Cx := ⟨some, id, 10, fun s => ([0, 2, 3, 8, 9] : List Nat).contains s, fun s => ([] : List Nat).contains s, msOf [(2, [0], []), (12, [0, 4], []), (52, [2], []), (14, [2], [])]⟩
def f30_2l : List GI := [⟨none, .mv (some 2) (.c (.lit (.int .i64 0)))⟩]
def f30_2 : AC := .ops [0] [] f30_2l
theorem f30_2e : aC P id m f30_2 sf st Q = runI P id m f30_2l (opsK [0] [] Q) sf st := rfl
def f30_5l : List GI := [⟨none, .mv (some 3) (.r 0)⟩,
    ⟨none, .call (some 4) false (.f 41) [(.r 3)]⟩]
def f30_5 : AC := .ops [0, 4] [] f30_5l
theorem f30_5e : aC P id m f30_5 sf st Q = runI P id m f30_5l (opsK [0, 4] [] Q) sf st := rfl
def f30_8l : List GI := [⟨none, .mv (some 2) (.c (.lit (.int .i64 0)))⟩]
def f30_8 : AC := .ops [2] [] f30_8l
theorem f30_8e : aC P id m f30_8 sf st Q = runI P id m f30_8l (opsK [2] [] Q) sf st := rfl
def f30_7 : AC := .seq f30_8 .ret
theorem f30_7e : aC P id m f30_7 sf st Q = aC P id m f30_8 sf st (seqQ (aC P id m .ret) Q) := rfl
def f30_6 : AC := .cond (.r 4) f30_7 .skip
theorem f30_6e : aC P id m f30_6 sf st Q = condI (.r 4) (sf.ev id (.r 4)) (aC P id m f30_7) (aC P id m .skip) sf st Q := rfl
def f30_4 : AC := .seq f30_5 f30_6
theorem f30_4e : aC P id m f30_4 sf st Q = aC P id m f30_5 sf st (seqQ (aC P id m f30_6) Q) := rfl
def f30_10l : List GI := [⟨none, .mv (some 5) (.r 0)⟩,
    ⟨none, .nilck (some 6) (.r 5)⟩,
    ⟨none, .addr (some 7) (.r 6) 3⟩,
    ⟨none, .load (some 8) (.r 7) none⟩,
    ⟨none, .len (some 9) .mp (.r 8)⟩,
    ⟨none, .own 2 9⟩]
def f30_10 : AC := .ops [2] [] f30_10l
theorem f30_10e : aC P id m f30_10 sf st Q = runI P id m f30_10l (opsK [2] [] Q) sf st := rfl
def f30_9 : AC := .seq f30_10 .ret
theorem f30_9e : aC P id m f30_9 sf st Q = aC P id m f30_10 sf st (seqQ (aC P id m .ret) Q) := rfl
def f30_3 : AC := .seq f30_4 f30_9
theorem f30_3e : aC P id m f30_3 sf st Q = aC P id m f30_4 sf st (seqQ (aC P id m f30_9) Q) := rfl
def f30_1 : AC := .seq f30_2 f30_3
theorem f30_1e : aC P id m f30_1 sf st Q = aC P id m f30_2 sf st (seqQ (aC P id m f30_3) Q) := rfl
def c_f30 : AFun := ⟨10, [.tmp 2], f30_1⟩
theorem k_f30 : compF Go.Proofs.Try.prog x_f30 30 = some c_f30 := by kernel_rfl
theorem e_f30 : enterB Go.Proofs.Try.prog 30 = true := by kernel_rfl

def n_f32 : Nat := 32
def x_f32 : Cx := ⟨some, id, 36, fun s => ([1, 4, 5, 6, 8, 9, 11, 15, 16, 17, 18, 19, 20, 25, 26, 27, 28, 32, 33, 34, 35] : List Nat).contains s, fun s => ([] : List Nat).contains s, msOf [(2, [0, 1], []), (6, [0, 4, 8], []), (28, [0, 4, 21], []), (116, [4, 5, 6], []), (30, [0, 4, 5], []), (62, [4, 5], []), (126, [4, 5, 6], [])]⟩
def f32_2l : List GI := [⟨none, .mv (some 4) (.c (.lit (.int .i64 0)))⟩,
    ⟨none, .mv (some 5) (.c (.lit (.int .i64 0)))⟩,
    ⟨none, .mv (some 6) (.c (.lit (.bool false)))⟩]
def f32_2 : AC := .ops [0, 1] [] f32_2l
theorem f32_2e : aC P id m f32_2 sf st Q = runI P id m f32_2l (opsK [0, 1] [] Q) sf st := rfl
def f32_4l : List GI := [⟨none, .mv (some 10) (.r 0)⟩,
    ⟨none, .mv (some 11) (.r 1)⟩,
    ⟨none, .nilck (some 12) (.r 10)⟩,
    ⟨none, .addr (some 13) (.r 12) 4⟩,
    ⟨none, .ixA (some 14) (.r 13) (.r 11) 2 1⟩,
    ⟨none, .load (some 15) (.r 14) none⟩,
    ⟨none, .call (some 16) false (.f 46) [(.r 15)]⟩,
    ⟨none, .mv (some 9) (.r 16)⟩,
    ⟨none, .ext (some 17) (.r 9) 0⟩,
    ⟨none, .ext (some 18) (.r 9) 1⟩,
    ⟨none, .ext (some 19) (.r 9) 2⟩,
    ⟨none, .own 4 17⟩,
    ⟨none, .own 7 18⟩,
    ⟨none, .own 8 19⟩]
def f32_4 : AC := .ops [0, 4, 8] [] f32_4l
theorem f32_4e : aC P id m f32_4 sf st Q = runI P id m f32_4l (opsK [0, 4, 8] [] Q) sf st := rfl
def f32_7l : List GI := [⟨none, .mv (some 20) (.r 8)⟩,
    ⟨none, .bin (some 21) .num .neq (.r 20) (.c (.lit (.int .i64 0)))⟩]
def f32_7 : AC := .ops [0, 4, 21] [] f32_7l
theorem f32_7e : aC P id m f32_7 sf st Q = runI P id m f32_7l (opsK [0, 4, 21] [] Q) sf st := rfl
def f32_10l : List GI := [⟨none, .mv (some 4) (.c (.lit (.int .i64 0)))⟩,
    ⟨none, .mv (some 5) (.c (.lit (.int .i64 0)))⟩,
    ⟨none, .mv (some 6) (.c (.lit (.bool false)))⟩]
def f32_10 : AC := .ops [4, 5, 6] [] f32_10l
theorem f32_10e : aC P id m f32_10 sf st Q = runI P id m f32_10l (opsK [4, 5, 6] [] Q) sf st := rfl
def f32_9 : AC := .seq f32_10 .ret
theorem f32_9e : aC P id m f32_9 sf st Q = aC P id m f32_10 sf st (seqQ (aC P id m .ret) Q) := rfl
def f32_8 : AC := .cond (.r 21) f32_9 .skip
theorem f32_8e : aC P id m f32_8 sf st Q = condI (.r 21) (sf.ev id (.r 21)) (aC P id m f32_9) (aC P id m .skip) sf st Q := rfl
def f32_6 : AC := .seq f32_7 f32_8
theorem f32_6e : aC P id m f32_6 sf st Q = aC P id m f32_7 sf st (seqQ (aC P id m f32_8) Q) := rfl
def f32_12l : List GI := [⟨none, .mv (some 22) (.r 0)⟩,
    ⟨none, .nilck (some 23) (.r 22)⟩,
    ⟨none, .addr (some 24) (.r 23) 6⟩,
    ⟨none, .load (some 25) (.r 24) none⟩,
    ⟨none, .mv (some 26) (.r 4)⟩,
    ⟨none, .lookup (some 27) (.int .i64) (.agg [(.lit (.int .i64 0)), (.lit (.int .i64 0)), (.lit (.int .u64 0))]) false (.r 25) (.r 26)⟩,
    ⟨none, .field (some 28) (.r 27) 1 none⟩,
    ⟨none, .own 5 28⟩]
def f32_12 : AC := .ops [0, 4, 5] [] f32_12l
theorem f32_12e : aC P id m f32_12 sf st Q = runI P id m f32_12l (opsK [0, 4, 5] [] Q) sf st := rfl
def f32_14l : List GI := [⟨none, .mv (some 29) (.r 0)⟩,
    ⟨none, .nilck (some 30) (.r 29)⟩,
    ⟨none, .addr (some 31) (.r 30) 6⟩,
    ⟨none, .load (some 32) (.r 31) none⟩,
    ⟨none, .mv (some 33) (.r 4)⟩,
    ⟨none, .del (.int .i64) (.r 32) (.r 33)⟩]
def f32_14 : AC := .ops [4, 5] [] f32_14l
theorem f32_14e : aC P id m f32_14 sf st Q = runI P id m f32_14l (opsK [4, 5] [] Q) sf st := rfl
def f32_16l : List GI := [⟨none, .mv (some 34) (.r 4)⟩,
    ⟨none, .mv (some 35) (.r 5)⟩,
    ⟨none, .own 4 34⟩,
    ⟨none, .own 5 35⟩,
    ⟨none, .mv (some 6) (.c (.lit (.bool true)))⟩]
def f32_16 : AC := .ops [4, 5, 6] [] f32_16l
theorem f32_16e : aC P id m f32_16 sf st Q = runI P id m f32_16l (opsK [4, 5, 6] [] Q) sf st := rfl
def f32_15 : AC := .seq f32_16 .ret
theorem f32_15e : aC P id m f32_15 sf st Q = aC P id m f32_16 sf st (seqQ (aC P id m .ret) Q) := rfl
def f32_13 : AC := .seq f32_14 f32_15
theorem f32_13e : aC P id m f32_13 sf st Q = aC P id m f32_14 sf st (seqQ (aC P id m f32_15) Q) := rfl
def f32_11 : AC := .seq f32_12 f32_13
theorem f32_11e : aC P id m f32_11 sf st Q = aC P id m f32_12 sf st (seqQ (aC P id m f32_13) Q) := rfl
def f32_5 : AC := .seq f32_6 f32_11
theorem f32_5e : aC P id m f32_5 sf st Q = aC P id m f32_6 sf st (seqQ (aC P id m f32_11) Q) := rfl
def f32_3 : AC := .seq f32_4 f32_5
theorem f32_3e : aC P id m f32_3 sf st Q = aC P id m f32_4 sf st (seqQ (aC P id m f32_5) Q) := rfl
def f32_1 : AC := .seq f32_2 f32_3
theorem f32_1e : aC P id m f32_1 sf st Q = aC P id m f32_2 sf st (seqQ (aC P id m f32_3) Q) := rfl
def c_f32 : AFun := ⟨36, [.tmp 4, .tmp 5, .tmp 6], f32_1⟩
theorem k_f32 : compF Go.Proofs.Try.prog x_f32 32 = some c_f32 := by kernel_rfl
theorem e_f32 : enterB Go.Proofs.Try.prog 32 = true := by kernel_rfl

def n_f33 : Nat := 33
def x_f33 : Cx := ⟨some, id, 33, fun s => ([0, 1, 2, 6, 7, 8, 9, 10, 11, 12, 14, 15, 17, 18, 19, 20, 21, 22, 23, 24, 25, 26, 27, 28, 29, 30, 31, 32] : List Nat).contains s, fun s => ([0, 20, 22, 26, 27, 31] : List Nat).contains s, msOf [(2, [0, 1, 2], []), (6, [0, 1, 2], []), (28, [0, 1, 2, 16], []), (116, [6], []), (30, [0, 1, 2, 7], []), (62, [0, 7], []), (126, [0], []), (254, [6], [])]⟩
def f33_2l : List GI := [⟨none, .mv (some 6) (.c (.lit (.slice none 0 0)))⟩]
def f33_2 : AC := .ops [0, 1, 2] [] f33_2l
theorem f33_2e : aC P id m f33_2 sf st Q = runI P id m f33_2l (opsK [0, 1, 2] [] Q) sf st := rfl
def f33_4l : List GI := [⟨none, .mv (some 8) (.r 0)⟩,
    ⟨none, .mv (some 9) (.r 1)⟩,
    ⟨none, .mv (some 10) (.r 2)⟩,
    ⟨none, .mv (some 11) (.r 0)⟩,
    ⟨none, .len (some 12) .sl (.r 11)⟩,
    ⟨none, .sli3 (some 13) (.r 8) (some (.r 9)) (some (.r 10)) (.r 12) 1⟩]
def f33_4 : AC := .ops [0, 1, 2] [] f33_4l
theorem f33_4e : aC P id m f33_4 sf st Q = runI P id m f33_4l (opsK [0, 1, 2] [] Q) sf st := rfl
def f33_7l : List GI := [⟨none, .mv (some 14) (.r 1)⟩,
    ⟨none, .mv (some 15) (.r 2)⟩,
    ⟨none, .bin (some 16) .num .eql (.r 14) (.r 15)⟩]
def f33_7 : AC := .ops [0, 1, 2, 16] [] f33_7l
theorem f33_7e : aC P id m f33_7 sf st Q = runI P id m f33_7l (opsK [0, 1, 2, 16] [] Q) sf st := rfl
def f33_10l : List GI := [⟨none, .mv (some 17) (.r 0)⟩,
    ⟨none, .own 6 17⟩]
def f33_10 : AC := .ops [6] [] f33_10l
theorem f33_10e : aC P id m f33_10 sf st Q = runI P id m f33_10l (opsK [6] [] Q) sf st := rfl
def f33_9 : AC := .seq f33_10 .ret
theorem f33_9e : aC P id m f33_9 sf st Q = aC P id m f33_10 sf st (seqQ (aC P id m .ret) Q) := rfl
def f33_8 : AC := .cond (.r 16) f33_9 .skip
theorem f33_8e : aC P id m f33_8 sf st Q = condI (.r 16) (sf.ev id (.r 16)) (aC P id m f33_9) (aC P id m .skip) sf st Q := rfl
def f33_6 : AC := .seq f33_7 f33_8
theorem f33_6e : aC P id m f33_6 sf st Q = aC P id m f33_7 sf st (seqQ (aC P id m f33_8) Q) := rfl
def f33_12l : List GI := [⟨none, .mv (some 18) (.r 0)⟩,
    ⟨none, .len (some 19) .sl (.r 18)⟩,
    ⟨none, .own 7 19⟩]
def f33_12 : AC := .ops [0, 1, 2, 7] [] f33_12l
theorem f33_12e : aC P id m f33_12 sf st Q = runI P id m f33_12l (opsK [0, 1, 2, 7] [] Q) sf st := rfl
def f33_14h : List GI := [⟨none, .mv (some 20) (.r 0)⟩,
    ⟨none, .mv (some 21) (.r 1)⟩,
    ⟨none, .sliS (some 22) (.r 20) none (some (.r 21)) 1⟩,
    ⟨none, .mv (some 23) (.r 0)⟩,
    ⟨none, .mv (some 24) (.r 2)⟩,
    ⟨none, .sliS (some 25) (.r 23) (some (.r 24)) none 1⟩]
def f33_14l : List GI := [⟨none, .x (some 26) (.appB (.r 22) 1 8 (.r 25))⟩,
    ⟨none, .own 0 26⟩]
def f33_14 : AC := .draw [0, 7] [] [] f33_14h f33_14l
theorem f33_14e : aC P id m f33_14 sf st Q = headI P id sf.locs st f33_14h (tailK P id m [] [0, 7] [] f33_14l Q st) [] ⟨sf.regs, dropL [] sf.locs⟩ := rfl
def f33_16l : List GI := [⟨none, .mv (some 27) (.r 0)⟩,
    ⟨none, .mv (some 28) (.r 0)⟩,
    ⟨none, .len (some 29) .sl (.r 28)⟩,
    ⟨none, .mv (some 30) (.r 7)⟩,
    ⟨none, .sliS (some 31) (.r 27) (some (.r 29)) (some (.r 30)) 1⟩,
    ⟨none, .x none (.clrB 1 (.lit (.int .i64 0)) (.r 31))⟩]
def f33_16 : AC := .ops [0] [] f33_16l
theorem f33_16e : aC P id m f33_16 sf st Q = runI P id m f33_16l (opsK [0] [] Q) sf st := rfl
def f33_18l : List GI := [⟨none, .mv (some 32) (.r 0)⟩,
    ⟨none, .own 6 32⟩]
def f33_18 : AC := .ops [6] [] f33_18l
theorem f33_18e : aC P id m f33_18 sf st Q = runI P id m f33_18l (opsK [6] [] Q) sf st := rfl
def f33_17 : AC := .seq f33_18 .ret
theorem f33_17e : aC P id m f33_17 sf st Q = aC P id m f33_18 sf st (seqQ (aC P id m .ret) Q) := rfl
def f33_15 : AC := .seq f33_16 f33_17
theorem f33_15e : aC P id m f33_15 sf st Q = aC P id m f33_16 sf st (seqQ (aC P id m f33_17) Q) := rfl
def f33_13 : AC := .seq f33_14 f33_15
theorem f33_13e : aC P id m f33_13 sf st Q = aC P id m f33_14 sf st (seqQ (aC P id m f33_15) Q) := rfl
def f33_11 : AC := .seq f33_12 f33_13
theorem f33_11e : aC P id m f33_11 sf st Q = aC P id m f33_12 sf st (seqQ (aC P id m f33_13) Q) := rfl
def f33_5 : AC := .seq f33_6 f33_11
theorem f33_5e : aC P id m f33_5 sf st Q = aC P id m f33_6 sf st (seqQ (aC P id m f33_11) Q) := rfl
def f33_3 : AC := .seq f33_4 f33_5
theorem f33_3e : aC P id m f33_3 sf st Q = aC P id m f33_4 sf st (seqQ (aC P id m f33_5) Q) := rfl
def f33_1 : AC := .seq f33_2 f33_3
theorem f33_1e : aC P id m f33_1 sf st Q = aC P id m f33_2 sf st (seqQ (aC P id m f33_3) Q) := rfl
def c_f33 : AFun := ⟨33, [.tmp 6], f33_1⟩
theorem k_f33 : compF Go.Proofs.Try.prog x_f33 33 = some c_f33 := by kernel_rfl
theorem e_f33 : enterB Go.Proofs.Try.prog 33 = true := by kernel_rfl

def n_f34 : Nat := 34
def x_f34 : Cx := ⟨some, id, 4, fun s => ([0, 2, 3] : List Nat).contains s, fun s => ([] : List Nat).contains s, msOf [(2, [0], []), (6, [2], [])]⟩
def f34_2l : List GI := [⟨none, .mv (some 2) (.c (.lit (.slice none 0 0)))⟩]
def f34_2 : AC := .ops [0] [] f34_2l
theorem f34_2e : aC P id m f34_2 sf st Q = runI P id m f34_2l (opsK [0] [] Q) sf st := rfl
def f34_4l : List GI := [⟨none, .mv (some 3) (.r 0)⟩,
    ⟨none, .own 2 3⟩]
def f34_4 : AC := .ops [2] [] f34_4l
theorem f34_4e : aC P id m f34_4 sf st Q = runI P id m f34_4l (opsK [2] [] Q) sf st := rfl
def f34_3 : AC := .seq f34_4 .ret
theorem f34_3e : aC P id m f34_3 sf st Q = aC P id m f34_4 sf st (seqQ (aC P id m .ret) Q) := rfl
def f34_1 : AC := .seq f34_2 f34_3
theorem f34_1e : aC P id m f34_1 sf st Q = aC P id m f34_2 sf st (seqQ (aC P id m f34_3) Q) := rfl
def c_f34 : AFun := ⟨4, [.tmp 2], f34_1⟩
theorem k_f34 : compF Go.Proofs.Try.prog x_f34 34 = some c_f34 := by kernel_rfl
theorem e_f34 : enterB Go.Proofs.Try.prog 34 = true := by kernel_rfl

def n_f37 : Nat := 37
def x_f37 : Cx := ⟨some, id, 26, fun s => ([0, 1, 4, 5, 6, 7, 8, 9, 11, 12, 13, 15, 16, 18, 20, 22, 24] : List Nat).contains s, fun s => ([] : List Nat).contains s, msOf [(2, [0, 1], []), (12, [0, 1, 10], []), (52, [4], []), (28, [0, 1, 5], []), (58, [0, 1, 5], []), (464, [0, 1, 5, 14], []), (931, [], []), (1864, [0, 1, 5, 25], []), (7460, [4], []), (467, [0, 1, 5], []), (30, [4], [])]⟩
def f37_2l : List GI := [⟨none, .mv (some 4) (.c (.lit (.bool false)))⟩]
def f37_2 : AC := .ops [0, 1] [] f37_2l
theorem f37_2e : aC P id m f37_2 sf st Q = runI P id m f37_2l (opsK [0, 1] [] Q) sf st := rfl
def f37_5l : List GI := [⟨none, .mv (some 6) (.r 0)⟩,
    ⟨none, .len (some 7) .sl (.r 6)⟩,
    ⟨none, .mv (some 8) (.r 1)⟩,
    ⟨none, .len (some 9) .sl (.r 8)⟩,
    ⟨none, .bin (some 10) .num .neq (.r 7) (.r 9)⟩]
def f37_5 : AC := .ops [0, 1, 10] [] f37_5l
theorem f37_5e : aC P id m f37_5 sf st Q = runI P id m f37_5l (opsK [0, 1, 10] [] Q) sf st := rfl
def f37_8l : List GI := [⟨none, .mv (some 4) (.c (.lit (.bool false)))⟩]
def f37_8 : AC := .ops [4] [] f37_8l
theorem f37_8e : aC P id m f37_8 sf st Q = runI P id m f37_8l (opsK [4] [] Q) sf st := rfl
def f37_7 : AC := .seq f37_8 .ret
theorem f37_7e : aC P id m f37_7 sf st Q = aC P id m f37_8 sf st (seqQ (aC P id m .ret) Q) := rfl
def f37_6 : AC := .cond (.r 10) f37_7 .skip
theorem f37_6e : aC P id m f37_6 sf st Q = condI (.r 10) (sf.ev id (.r 10)) (aC P id m f37_7) (aC P id m .skip) sf st Q := rfl
def f37_4 : AC := .seq f37_5 f37_6
theorem f37_4e : aC P id m f37_4 sf st Q = aC P id m f37_5 sf st (seqQ (aC P id m f37_6) Q) := rfl
def f37_11l : List GI := [⟨none, .mv (some 5) (.c (.lit (.int .i64 0)))⟩]
def f37_11 : AC := .ops [0, 1, 5] [] f37_11l
theorem f37_11e : aC P id m f37_11 sf st Q = runI P id m f37_11l (opsK [0, 1, 5] [] Q) sf st := rfl
def f37_16l : List GI := [⟨none, .mv (some 11) (.r 5)⟩,
    ⟨none, .mv (some 12) (.r 0)⟩,
    ⟨none, .len (some 13) .sl (.r 12)⟩,
    ⟨none, .bin (some 14) .num .lss (.r 11) (.r 13)⟩]
def f37_16 : AC := .ops [0, 1, 5, 14] [] f37_16l
theorem f37_16e : aC P id m f37_16 sf st Q = runI P id m f37_16l (opsK [0, 1, 5, 14] [] Q) sf st := rfl
def f37_17 : AC := .cond (.r 14) .skip (.exit [] [] 0)
theorem f37_17e : aC P id m f37_17 sf st Q = condI (.r 14) (sf.ev id (.r 14)) (aC P id m .skip) (aC P id m (.exit [] [] 0)) sf st Q := rfl
def f37_15 : AC := .seq f37_16 f37_17
theorem f37_15e : aC P id m f37_15 sf st Q = aC P id m f37_16 sf st (seqQ (aC P id m f37_17) Q) := rfl
def f37_21h : List GI := [⟨none, .mv (some 17) (.r 0)⟩,
    ⟨none, .mv (some 18) (.r 5)⟩,
    ⟨none, .ixS (some 19) (.r 17) (.r 18) 4⟩,
    ⟨none, .load (some 20) (.r 19) (some 4)⟩,
    ⟨none, .mv (some 21) (.r 1)⟩,
    ⟨none, .mv (some 22) (.r 5)⟩,
    ⟨none, .ixS (some 23) (.r 21) (.r 22) 4⟩,
    ⟨none, .load (some 24) (.r 23) (some 4)⟩]
def f37_21l : List GI := [⟨none, .bin (some 25) (.agg (.field 0 1 .int (.field 1 1 .int (.field 2 1 .int (.field 3 1 .int .tt))))) .neq (.r 20) (.r 24)⟩]
def f37_21 : AC := .draw [0, 1, 5, 25] [] [] f37_21h f37_21l
theorem f37_21e : aC P id m f37_21 sf st Q = headI P id sf.locs st f37_21h (tailK P id m [] [0, 1, 5, 25] [] f37_21l Q st) [] ⟨sf.regs, dropL [] sf.locs⟩ := rfl
def f37_24l : List GI := [⟨none, .mv (some 4) (.c (.lit (.bool false)))⟩]
def f37_24 : AC := .ops [4] [] f37_24l
theorem f37_24e : aC P id m f37_24 sf st Q = runI P id m f37_24l (opsK [4] [] Q) sf st := rfl
def f37_23 : AC := .seq f37_24 .ret
theorem f37_23e : aC P id m f37_23 sf st Q = aC P id m f37_24 sf st (seqQ (aC P id m .ret) Q) := rfl
def f37_22 : AC := .cond (.r 25) f37_23 .skip
theorem f37_22e : aC P id m f37_22 sf st Q = condI (.r 25) (sf.ev id (.r 25)) (aC P id m f37_23) (aC P id m .skip) sf st Q := rfl
def f37_20 : AC := .seq f37_21 f37_22
theorem f37_20e : aC P id m f37_20 sf st Q = aC P id m f37_21 sf st (seqQ (aC P id m f37_22) Q) := rfl
def f37_19 : AC := .block 1 f37_20
theorem f37_19e : aC P id m f37_19 sf st Q = aC P id m f37_20 sf st (blockQ 1 Q) := rfl
def f37_25l : List GI := [⟨none, .mv (some 15) (.r 5)⟩,
    ⟨none, .bin (some 16) .num .add (.r 15) (.c (.lit (.int .i64 1)))⟩,
    ⟨none, .own 5 16⟩]
def f37_25 : AC := .ops [0, 1, 5] [] f37_25l
theorem f37_25e : aC P id m f37_25 sf st Q = runI P id m f37_25l (opsK [0, 1, 5] [] Q) sf st := rfl
def f37_18 : AC := .seq f37_19 f37_25
theorem f37_18e : aC P id m f37_18 sf st Q = aC P id m f37_19 sf st (seqQ (aC P id m f37_25) Q) := rfl
def f37_14 : AC := .seq f37_15 f37_18
theorem f37_14e : aC P id m f37_14 sf st Q = aC P id m f37_15 sf st (seqQ (aC P id m f37_18) Q) := rfl
def f37_13 : AC := .loop [0, 1, 5] [] f37_14
theorem f37_13w : aC P id m f37_13 sf st Q = loopI (aC P id m f37_14) [0, 1, 5] [] sf st Q := rfl
def f37_12 : AC := .block 0 f37_13
theorem f37_12e : aC P id m f37_12 sf st Q = aC P id m f37_13 sf st (blockQ 0 Q) := rfl
def f37_10 : AC := .seq f37_11 f37_12
theorem f37_10e : aC P id m f37_10 sf st Q = aC P id m f37_11 sf st (seqQ (aC P id m f37_12) Q) := rfl
def f37_27l : List GI := [⟨none, .mv (some 4) (.c (.lit (.bool true)))⟩]
def f37_27 : AC := .ops [4] [] f37_27l
theorem f37_27e : aC P id m f37_27 sf st Q = runI P id m f37_27l (opsK [4] [] Q) sf st := rfl
def f37_26 : AC := .seq f37_27 .ret
theorem f37_26e : aC P id m f37_26 sf st Q = aC P id m f37_27 sf st (seqQ (aC P id m .ret) Q) := rfl
def f37_9 : AC := .seq f37_10 f37_26
theorem f37_9e : aC P id m f37_9 sf st Q = aC P id m f37_10 sf st (seqQ (aC P id m f37_26) Q) := rfl
def f37_3 : AC := .seq f37_4 f37_9
theorem f37_3e : aC P id m f37_3 sf st Q = aC P id m f37_4 sf st (seqQ (aC P id m f37_9) Q) := rfl
def f37_1 : AC := .seq f37_2 f37_3
theorem f37_1e : aC P id m f37_1 sf st Q = aC P id m f37_2 sf st (seqQ (aC P id m f37_3) Q) := rfl
def c_f37 : AFun := ⟨26, [.tmp 4], f37_1⟩
theorem k_f37 : compF Go.Proofs.Try.prog x_f37 37 = some c_f37 := by kernel_rfl
theorem e_f37 : enterB Go.Proofs.Try.prog 37 = true := by kernel_rfl

def n_f38 : Nat := 38
def x_f38 : Cx := ⟨some, id, 27, fun s => ([0, 1, 4, 8, 9, 11, 12, 13, 14, 15, 16, 17, 21, 22, 23, 24, 25] : List Nat).contains s, fun s => ([] : List Nat).contains s, msOf [(2, [0, 1], []), (24, [0, 1, 7], []), (100, [4], []), (102, [0, 1, 10], []), (412, [4], []), (28, [6], []), (58, [26], []), (236, [4], []), (30, [4], [])]⟩
def f38_2l : List GI := [⟨none, .mv (some 4) (.c (.lit (.int .i64 0)))⟩]
def f38_2 : AC := .ops [0, 1] [] f38_2l
theorem f38_2e : aC P id m f38_2 sf st Q = runI P id m f38_2l (opsK [0, 1] [] Q) sf st := rfl
def f38_6l : List GI := [⟨none, .mv (some 8) (.r 0)⟩,
    ⟨none, .call (some 9) false (.f 29) [(.r 8)]⟩,
    ⟨none, .own 7 9⟩]
def f38_6 : AC := .ops [0, 1, 7] [] f38_6l
theorem f38_6e : aC P id m f38_6 sf st Q = runI P id m f38_6l (opsK [0, 1, 7] [] Q) sf st := rfl
def f38_9l : List GI := [⟨none, .mv (some 4) (.c (.lit (.int .i64 1)))⟩]
def f38_9 : AC := .ops [4] [] f38_9l
theorem f38_9e : aC P id m f38_9 sf st Q = runI P id m f38_9l (opsK [4] [] Q) sf st := rfl
def f38_8 : AC := .seq f38_9 .ret
theorem f38_8e : aC P id m f38_8 sf st Q = aC P id m f38_9 sf st (seqQ (aC P id m .ret) Q) := rfl
def f38_11l : List GI := [⟨none, .mv (some 11) (.r 1)⟩,
    ⟨none, .bin (some 12) .num .lss (.r 11) (.c (.lit (.int .i64 0)))⟩,
    ⟨none, .mv (some 13) (.r 12)⟩,
    ⟨some (13, false), .mv (some 14) (.r 1)⟩,
    ⟨some (13, false), .bin (some 15) .num .geq (.r 14) (.c (.lit (.int .i64 64)))⟩,
    ⟨none, .pick (some 16) (.r 13) (.c (.lit (.bool true))) (.r 15)⟩,
    ⟨none, .own 10 16⟩]
def f38_11 : AC := .ops [0, 1, 10] [] f38_11l
theorem f38_11e : aC P id m f38_11 sf st Q = runI P id m f38_11l (opsK [0, 1, 10] [] Q) sf st := rfl
def f38_14l : List GI := [⟨none, .mv (some 4) (.c (.lit (.int .i64 2)))⟩]
def f38_14 : AC := .ops [4] [] f38_14l
theorem f38_14e : aC P id m f38_14 sf st Q = runI P id m f38_14l (opsK [4] [] Q) sf st := rfl
def f38_13 : AC := .seq f38_14 .ret
theorem f38_13e : aC P id m f38_13 sf st Q = aC P id m f38_14 sf st (seqQ (aC P id m .ret) Q) := rfl
def f38_12 : AC := .cond (.r 10) f38_13 .skip
theorem f38_12e : aC P id m f38_12 sf st Q = condI (.r 10) (sf.ev id (.r 10)) (aC P id m f38_13) (aC P id m .skip) sf st Q := rfl
def f38_10 : AC := .seq f38_11 f38_12
theorem f38_10e : aC P id m f38_10 sf st Q = aC P id m f38_11 sf st (seqQ (aC P id m f38_12) Q) := rfl
def f38_7 : AC := .cond (.r 7) f38_8 f38_10
theorem f38_7e : aC P id m f38_7 sf st Q = condI (.r 7) (sf.ev id (.r 7)) (aC P id m f38_8) (aC P id m f38_10) sf st Q := rfl
def f38_5 : AC := .seq f38_6 f38_7
theorem f38_5e : aC P id m f38_5 sf st Q = aC P id m f38_6 sf st (seqQ (aC P id m f38_7) Q) := rfl
def f38_4 : AC := .block 0 f38_5
theorem f38_4e : aC P id m f38_4 sf st Q = aC P id m f38_5 sf st (blockQ 0 Q) := rfl
def f38_17l : List GI := [⟨none, .mv (some 18) (.r 0)⟩,
    ⟨none, .nilck (some 19) (.r 18)⟩,
    ⟨none, .addr (some 20) (.r 19) 6⟩,
    ⟨none, .load (some 21) (.r 20) none⟩,
    ⟨none, .mv (some 22) (.r 1)⟩,
    ⟨none, .lookup (some 23) (.int .i64) (.agg [(.lit (.int .i64 0)), (.lit (.int .i64 0)), (.lit (.int .u64 0))]) true (.r 21) (.r 22)⟩,
    ⟨none, .mv (some 17) (.r 23)⟩,
    ⟨none, .ext (some 24) (.r 17) 0⟩,
    ⟨none, .ext (some 25) (.r 17) 1⟩,
    ⟨none, .newL 5 [(.lit (.int .i64 0)), (.lit (.int .i64 0)), (.lit (.int .u64 0))]⟩,
    ⟨none, .store 3 (.r 5) (.r 24)⟩,
    ⟨none, .own 6 25⟩]
def f38_17 : AC := .ops [6] [] f38_17l
theorem f38_17e : aC P id m f38_17 sf st Q = runI P id m f38_17l (opsK [6] [] Q) sf st := rfl
def f38_19l : List GI := [⟨none, .mv (some 26) (.r 6)⟩]
def f38_19 : AC := .ops [26] [] f38_19l
theorem f38_19e : aC P id m f38_19 sf st Q = runI P id m f38_19l (opsK [26] [] Q) sf st := rfl
def f38_22l : List GI := [⟨none, .mv (some 4) (.c (.lit (.int .i64 11)))⟩]
def f38_22 : AC := .ops [4] [] f38_22l
theorem f38_22e : aC P id m f38_22 sf st Q = runI P id m f38_22l (opsK [4] [] Q) sf st := rfl
def f38_21 : AC := .seq f38_22 .ret
theorem f38_21e : aC P id m f38_21 sf st Q = aC P id m f38_22 sf st (seqQ (aC P id m .ret) Q) := rfl
def f38_20 : AC := .cond (.r 26) f38_21 .skip
theorem f38_20e : aC P id m f38_20 sf st Q = condI (.r 26) (sf.ev id (.r 26)) (aC P id m f38_21) (aC P id m .skip) sf st Q := rfl
def f38_18 : AC := .seq f38_19 f38_20
theorem f38_18e : aC P id m f38_18 sf st Q = aC P id m f38_19 sf st (seqQ (aC P id m f38_20) Q) := rfl
def f38_16 : AC := .seq f38_17 f38_18
theorem f38_16e : aC P id m f38_16 sf st Q = aC P id m f38_17 sf st (seqQ (aC P id m f38_18) Q) := rfl
def f38_24l : List GI := [⟨none, .mv (some 4) (.c (.lit (.int .i64 0)))⟩]
def f38_24 : AC := .ops [4] [] f38_24l
theorem f38_24e : aC P id m f38_24 sf st Q = runI P id m f38_24l (opsK [4] [] Q) sf st := rfl
def f38_23 : AC := .seq f38_24 .ret
theorem f38_23e : aC P id m f38_23 sf st Q = aC P id m f38_24 sf st (seqQ (aC P id m .ret) Q) := rfl
def f38_15 : AC := .seq f38_16 f38_23
theorem f38_15e : aC P id m f38_15 sf st Q = aC P id m f38_16 sf st (seqQ (aC P id m f38_23) Q) := rfl
def f38_3 : AC := .seq f38_4 f38_15
theorem f38_3e : aC P id m f38_3 sf st Q = aC P id m f38_4 sf st (seqQ (aC P id m f38_15) Q) := rfl
def f38_1 : AC := .seq f38_2 f38_3
theorem f38_1e : aC P id m f38_1 sf st Q = aC P id m f38_2 sf st (seqQ (aC P id m f38_3) Q) := rfl
def c_f38 : AFun := ⟨27, [.tmp 4], f38_1⟩
theorem k_f38 : compF Go.Proofs.Try.prog x_f38 38 = some c_f38 := by kernel_rfl
theorem e_f38 : enterB Go.Proofs.Try.prog 38 = true := by kernel_rfl

def n_f39 : Nat := 39
def x_f39 : Cx := ⟨some, id, 34, fun s => ([1, 2, 3, 8, 9, 10, 11, 13, 17, 18, 19, 20, 21, 22, 27, 28, 29, 30, 31, 32, 33] : List Nat).contains s, fun s => ([] : List Nat).contains s, msOf [(2, [0, 1, 2, 3], []), (6, [0, 1, 2, 3, 9, 10], []), (28, [0, 1, 2, 3, 9, 10, 23], []), (58, [10], []), (30, [8], [])]⟩
def f39_2l : List GI := [⟨none, .mv (some 8) (.c (.lit (.int .i64 0)))⟩]
def f39_2 : AC := .ops [0, 1, 2, 3] [] f39_2l
theorem f39_2e : aC P id m f39_2 sf st Q = runI P id m f39_2l (opsK [0, 1, 2, 3] [] Q) sf st := rfl
def f39_4l : List GI := [⟨none, .mv (some 12) (.r 0)⟩,
    ⟨none, .mv (some 13) (.r 1)⟩,
    ⟨none, .nilck (some 14) (.r 12)⟩,
    ⟨none, .addr (some 15) (.r 14) 4⟩,
    ⟨none, .ixA (some 16) (.r 15) (.r 13) 2 1⟩,
    ⟨none, .load (some 17) (.r 16) none⟩,
    ⟨none, .mv (some 18) (.r 2)⟩,
    ⟨none, .call (some 19) false (.f 48) [(.r 17), (.r 18)]⟩,
    ⟨none, .mv (some 11) (.r 19)⟩,
    ⟨none, .ext (some 20) (.r 11) 0⟩,
    ⟨none, .ext (some 21) (.r 11) 1⟩,
    ⟨none, .own 9 20⟩,
    ⟨none, .own 10 21⟩]
def f39_4 : AC := .ops [0, 1, 2, 3, 9, 10] [] f39_4l
theorem f39_4e : aC P id m f39_4 sf st Q = runI P id m f39_4l (opsK [0, 1, 2, 3, 9, 10] [] Q) sf st := rfl
def f39_7l : List GI := [⟨none, .mv (some 22) (.r 10)⟩,
    ⟨none, .bin (some 23) .num .eql (.r 22) (.c (.lit (.int .i64 0)))⟩]
def f39_7 : AC := .ops [0, 1, 2, 3, 9, 10, 23] [] f39_7l
theorem f39_7e : aC P id m f39_7 sf st Q = runI P id m f39_7l (opsK [0, 1, 2, 3, 9, 10, 23] [] Q) sf st := rfl
def f39_9l : List GI := [⟨none, .mv (some 24) (.r 0)⟩,
    ⟨none, .nilck (some 25) (.r 24)⟩,
    ⟨none, .addr (some 26) (.r 25) 6⟩,
    ⟨none, .load (some 27) (.r 26) none⟩,
    ⟨none, .mv (some 28) (.r 2)⟩,
    ⟨none, .mv (some 29) (.r 1)⟩,
    ⟨none, .mv (some 30) (.r 3)⟩,
    ⟨none, .mv (some 31) (.r 9)⟩,
    ⟨none, .bst (some 32) [(0, 1), (1, 1), (2, 1)] (.agg [(.lit (.int .i64 0)), (.lit (.int .i64 0)), (.lit (.int .u64 0))]) [(0, (.r 29)), (1, (.r 30)), (2, (.r 31))]⟩,
    ⟨none, .upd (.int .i64) (.r 27) (.r 28) (.r 32)⟩]
def f39_9 : AC := .ops [10] [] f39_9l
theorem f39_9e : aC P id m f39_9 sf st Q = runI P id m f39_9l (opsK [10] [] Q) sf st := rfl
def f39_8 : AC := .cond (.r 23) f39_9 .skip
theorem f39_8e : aC P id m f39_8 sf st Q = condI (.r 23) (sf.ev id (.r 23)) (aC P id m f39_9) (aC P id m .skip) sf st Q := rfl
def f39_6 : AC := .seq f39_7 f39_8
theorem f39_6e : aC P id m f39_6 sf st Q = aC P id m f39_7 sf st (seqQ (aC P id m f39_8) Q) := rfl
def f39_11l : List GI := [⟨none, .mv (some 33) (.r 10)⟩,
    ⟨none, .own 8 33⟩]
def f39_11 : AC := .ops [8] [] f39_11l
theorem f39_11e : aC P id m f39_11 sf st Q = runI P id m f39_11l (opsK [8] [] Q) sf st := rfl
def f39_10 : AC := .seq f39_11 .ret
theorem f39_10e : aC P id m f39_10 sf st Q = aC P id m f39_11 sf st (seqQ (aC P id m .ret) Q) := rfl
def f39_5 : AC := .seq f39_6 f39_10
theorem f39_5e : aC P id m f39_5 sf st Q = aC P id m f39_6 sf st (seqQ (aC P id m f39_10) Q) := rfl
def f39_3 : AC := .seq f39_4 f39_5
theorem f39_3e : aC P id m f39_3 sf st Q = aC P id m f39_4 sf st (seqQ (aC P id m f39_5) Q) := rfl
def f39_1 : AC := .seq f39_2 f39_3
theorem f39_1e : aC P id m f39_1 sf st Q = aC P id m f39_2 sf st (seqQ (aC P id m f39_3) Q) := rfl
def c_f39 : AFun := ⟨34, [.tmp 8], f39_1⟩
theorem k_f39 : compF Go.Proofs.Try.prog x_f39 39 = some c_f39 := by kernel_rfl
theorem e_f39 : enterB Go.Proofs.Try.prog 39 = true := by kernel_rfl

def n_f40 : Nat := 40
def x_f40 : Cx := ⟨some, id, 82, fun s => ([0, 1, 4, 5, 7, 10, 12, 16, 17, 18, 19, 20, 21, 26, 27, 29, 33, 40, 42, 43, 45, 50, 52, 53, 55, 59, 66, 68, 69, 71, 76, 78, 79, 81] : List Nat).contains s, fun s => ([] : List Nat).contains s, msOf [(2, [0, 1], []), (12, [0, 1, 11], []), (52, [4, 5], []), (14, [0, 1, 6, 7], [6]), (60, [0, 1, 6, 22], [6]), (244, [4, 5], []), (62, [0, 6], [6]), (252, [0, 6, 30], [6]), (506, [0, 6], [6]), (1014, [0, 6, 8], [6, 8]), (2030, [0, 6, 8], [6, 8]), (2031, [0, 6], [6]), (508, [0, 6, 56], [6]), (1018, [6], [6]), (2038, [0, 6, 9], [6, 9]), (4078, [0, 6, 9], [6, 9]), (4079, [6], [6]), (510, [4, 5], [])]⟩
def f40_2l : List GI := [⟨none, .mv (some 4) (.c (.lit (.int .i64 0)))⟩,
    ⟨none, .mv (some 5) (.c (.lit (.int .i64 0)))⟩]
def f40_2 : AC := .ops [0, 1] [] f40_2l
theorem f40_2e : aC P id m f40_2 sf st Q = runI P id m f40_2l (opsK [0, 1] [] Q) sf st := rfl
def f40_5l : List GI := [⟨none, .mv (some 10) (.r 0)⟩,
    ⟨none, .call (some 11) false (.f 41) [(.r 10)]⟩]
def f40_5 : AC := .ops [0, 1, 11] [] f40_5l
theorem f40_5e : aC P id m f40_5 sf st Q = runI P id m f40_5l (opsK [0, 1, 11] [] Q) sf st := rfl
def f40_8l : List GI := [⟨none, .mv (some 4) (.c (.lit (.int .i64 0)))⟩,
    ⟨none, .mv (some 5) (.c (.lit (.int .i64 1)))⟩]
def f40_8 : AC := .ops [4, 5] [] f40_8l
theorem f40_8e : aC P id m f40_8 sf st Q = runI P id m f40_8l (opsK [4, 5] [] Q) sf st := rfl
def f40_7 : AC := .seq f40_8 .ret
theorem f40_7e : aC P id m f40_7 sf st Q = aC P id m f40_8 sf st (seqQ (aC P id m .ret) Q) := rfl
def f40_6 : AC := .cond (.r 11) f40_7 .skip
theorem f40_6e : aC P id m f40_6 sf st Q = condI (.r 11) (sf.ev id (.r 11)) (aC P id m f40_7) (aC P id m .skip) sf st Q := rfl
def f40_4 : AC := .seq f40_5 f40_6
theorem f40_4e : aC P id m f40_4 sf st Q = aC P id m f40_5 sf st (seqQ (aC P id m f40_6) Q) := rfl
def f40_10l : List GI := [⟨none, .mv (some 13) (.r 0)⟩,
    ⟨none, .nilck (some 14) (.r 13)⟩,
    ⟨none, .addr (some 15) (.r 14) 3⟩,
    ⟨none, .load (some 16) (.r 15) none⟩,
    ⟨none, .mv (some 17) (.r 1)⟩,
    ⟨none, .lookup (some 18) (.int .u64) (.agg [(.lit (.int .i64 0)), (.lit (.int .u64 0)), (.lit (.int .u64 0))]) true (.r 16) (.r 17)⟩,
    ⟨none, .mv (some 12) (.r 18)⟩,
    ⟨none, .ext (some 19) (.r 12) 0⟩,
    ⟨none, .ext (some 20) (.r 12) 1⟩,
    ⟨none, .newL 6 [(.lit (.int .i64 0)), (.lit (.int .u64 0)), (.lit (.int .u64 0))]⟩,
    ⟨none, .store 3 (.r 6) (.r 19)⟩,
    ⟨none, .own 7 20⟩]
def f40_10 : AC := .ops [0, 1, 6, 7] [6] f40_10l
theorem f40_10e : aC P id m f40_10 sf st Q = runI P id m f40_10l (opsK [0, 1, 6, 7] [6] Q) sf st := rfl
def f40_13l : List GI := [⟨none, .mv (some 21) (.r 7)⟩,
    ⟨none, .un (some 22) .not (.r 21)⟩]
def f40_13 : AC := .ops [0, 1, 6, 22] [6] f40_13l
theorem f40_13e : aC P id m f40_13 sf st Q = runI P id m f40_13l (opsK [0, 1, 6, 22] [6] Q) sf st := rfl
def f40_16l : List GI := [⟨none, .mv (some 4) (.c (.lit (.int .i64 0)))⟩,
    ⟨none, .mv (some 5) (.c (.lit (.int .i64 9)))⟩]
def f40_16 : AC := .ops [4, 5] [] f40_16l
theorem f40_16e : aC P id m f40_16 sf st Q = runI P id m f40_16l (opsK [4, 5] [] Q) sf st := rfl
def f40_15 : AC := .seq f40_16 .ret
theorem f40_15e : aC P id m f40_15 sf st Q = aC P id m f40_16 sf st (seqQ (aC P id m .ret) Q) := rfl
def f40_14 : AC := .cond (.r 22) f40_15 .skip
theorem f40_14e : aC P id m f40_14 sf st Q = condI (.r 22) (sf.ev id (.r 22)) (aC P id m f40_15) (aC P id m .skip) sf st Q := rfl
def f40_12 : AC := .seq f40_13 f40_14
theorem f40_12e : aC P id m f40_12 sf st Q = aC P id m f40_13 sf st (seqQ (aC P id m f40_14) Q) := rfl
def f40_18l : List GI := [⟨none, .mv (some 23) (.r 0)⟩,
    ⟨none, .nilck (some 24) (.r 23)⟩,
    ⟨none, .addr (some 25) (.r 24) 3⟩,
    ⟨none, .load (some 26) (.r 25) none⟩,
    ⟨none, .mv (some 27) (.r 1)⟩,
    ⟨none, .del (.int .u64) (.r 26) (.r 27)⟩]
def f40_18 : AC := .ops [0, 6] [6] f40_18l
theorem f40_18e : aC P id m f40_18 sf st Q = runI P id m f40_18l (opsK [0, 6] [6] Q) sf st := rfl
def f40_21l : List GI := [⟨none, .addr (some 28) (.r 6) 1⟩,
    ⟨none, .load (some 29) (.r 28) none⟩,
    ⟨none, .bin (some 30) .num .eql (.r 29) (.c (.lit (.int .u64 0)))⟩]
def f40_21 : AC := .ops [0, 6, 30] [6] f40_21l
theorem f40_21e : aC P id m f40_21 sf st Q = runI P id m f40_21l (opsK [0, 6, 30] [6] Q) sf st := rfl
def f40_23l : List GI := [⟨none, .mv (some 31) (.r 0)⟩,
    ⟨none, .addr (some 32) (.r 6) 2⟩,
    ⟨none, .load (some 33) (.r 32) none⟩,
    ⟨none, .nilck (some 34) (.r 31)⟩,
    ⟨none, .addr (some 35) (.r 34) 0⟩,
    ⟨none, .addr (some 36) (.r 35) 0⟩,
    ⟨none, .store 1 (.r 36) (.r 33)⟩]
def f40_23 : AC := .ops [0, 6] [6] f40_23l
theorem f40_23e : aC P id m f40_23 sf st Q = runI P id m f40_23l (opsK [0, 6] [6] Q) sf st := rfl
def f40_25h : List GI := [⟨none, .mv (some 37) (.r 0)⟩,
    ⟨none, .nilck (some 38) (.r 37)⟩,
    ⟨none, .addr (some 39) (.r 38) 3⟩,
    ⟨none, .load (some 40) (.r 39) none⟩,
    ⟨none, .addr (some 41) (.r 6) 1⟩,
    ⟨none, .load (some 42) (.r 41) none⟩,
    ⟨none, .lookup (some 43) (.int .u64) (.agg [(.lit (.int .i64 0)), (.lit (.int .u64 0)), (.lit (.int .u64 0))]) false (.r 40) (.r 42)⟩,
    ⟨none, .newL 8 [(.lit (.int .i64 0)), (.lit (.int .u64 0)), (.lit (.int .u64 0))]⟩]
def f40_25l : List GI := [⟨none, .store 3 (.r 8) (.r 43)⟩]
def f40_25 : AC := .draw [0, 6, 8] [6, 8] [8] f40_25h f40_25l
theorem f40_25e : aC P id m f40_25 sf st Q = headI P id sf.locs st f40_25h (tailK P id m [8] [0, 6, 8] [6, 8] f40_25l Q st) [] ⟨sf.regs, dropL [8] sf.locs⟩ := rfl
def f40_27l : List GI := [⟨none, .addr (some 44) (.r 6) 2⟩,
    ⟨none, .load (some 45) (.r 44) none⟩,
    ⟨none, .addr (some 46) (.r 8) 2⟩,
    ⟨none, .store 1 (.r 46) (.r 45)⟩]
def f40_27 : AC := .ops [0, 6, 8] [6, 8] f40_27l
theorem f40_27e : aC P id m f40_27 sf st Q = runI P id m f40_27l (opsK [0, 6, 8] [6, 8] Q) sf st := rfl
def f40_28h : List GI := [⟨none, .mv (some 47) (.r 0)⟩,
    ⟨none, .nilck (some 48) (.r 47)⟩,
    ⟨none, .addr (some 49) (.r 48) 3⟩,
    ⟨none, .load (some 50) (.r 49) none⟩,
    ⟨none, .addr (some 51) (.r 6) 1⟩,
    ⟨none, .load (some 52) (.r 51) none⟩,
    ⟨none, .load (some 53) (.r 8) (some 3)⟩]
def f40_28l : List GI := [⟨none, .upd (.int .u64) (.r 50) (.r 52) (.r 53)⟩]
def f40_28 : AC := .draw [0, 6] [6] [] f40_28h f40_28l
theorem f40_28e : aC P id m f40_28 sf st Q = headI P id sf.locs st f40_28h (tailK P id m [] [0, 6] [6] f40_28l Q st) [] ⟨sf.regs, dropL [] sf.locs⟩ := rfl
def f40_26 : AC := .seq f40_27 f40_28
theorem f40_26e : aC P id m f40_26 sf st Q = aC P id m f40_27 sf st (seqQ (aC P id m f40_28) Q) := rfl
def f40_24 : AC := .seq f40_25 f40_26
theorem f40_24e : aC P id m f40_24 sf st Q = aC P id m f40_25 sf st (seqQ (aC P id m f40_26) Q) := rfl
def f40_22 : AC := .cond (.r 30) f40_23 f40_24
theorem f40_22e : aC P id m f40_22 sf st Q = condI (.r 30) (sf.ev id (.r 30)) (aC P id m f40_23) (aC P id m f40_24) sf st Q := rfl
def f40_20 : AC := .seq f40_21 f40_22
theorem f40_20e : aC P id m f40_20 sf st Q = aC P id m f40_21 sf st (seqQ (aC P id m f40_22) Q) := rfl
def f40_31l : List GI := [⟨none, .addr (some 54) (.r 6) 2⟩,
    ⟨none, .load (some 55) (.r 54) none⟩,
    ⟨none, .bin (some 56) .num .eql (.r 55) (.c (.lit (.int .u64 0)))⟩]
def f40_31 : AC := .ops [0, 6, 56] [6] f40_31l
theorem f40_31e : aC P id m f40_31 sf st Q = runI P id m f40_31l (opsK [0, 6, 56] [6] Q) sf st := rfl
def f40_33l : List GI := [⟨none, .mv (some 57) (.r 0)⟩,
    ⟨none, .addr (some 58) (.r 6) 1⟩,
    ⟨none, .load (some 59) (.r 58) none⟩,
    ⟨none, .nilck (some 60) (.r 57)⟩,
    ⟨none, .addr (some 61) (.r 60) 0⟩,
    ⟨none, .addr (some 62) (.r 61) 1⟩,
    ⟨none, .store 1 (.r 62) (.r 59)⟩]
def f40_33 : AC := .ops [6] [6] f40_33l
theorem f40_33e : aC P id m f40_33 sf st Q = runI P id m f40_33l (opsK [6] [6] Q) sf st := rfl
def f40_35h : List GI := [⟨none, .mv (some 63) (.r 0)⟩,
    ⟨none, .nilck (some 64) (.r 63)⟩,
    ⟨none, .addr (some 65) (.r 64) 3⟩,
    ⟨none, .load (some 66) (.r 65) none⟩,
    ⟨none, .addr (some 67) (.r 6) 2⟩,
    ⟨none, .load (some 68) (.r 67) none⟩,
    ⟨none, .lookup (some 69) (.int .u64) (.agg [(.lit (.int .i64 0)), (.lit (.int .u64 0)), (.lit (.int .u64 0))]) false (.r 66) (.r 68)⟩,
    ⟨none, .newL 9 [(.lit (.int .i64 0)), (.lit (.int .u64 0)), (.lit (.int .u64 0))]⟩]
def f40_35l : List GI := [⟨none, .store 3 (.r 9) (.r 69)⟩]
def f40_35 : AC := .draw [0, 6, 9] [6, 9] [9] f40_35h f40_35l
theorem f40_35e : aC P id m f40_35 sf st Q = headI P id sf.locs st f40_35h (tailK P id m [9] [0, 6, 9] [6, 9] f40_35l Q st) [] ⟨sf.regs, dropL [9] sf.locs⟩ := rfl
def f40_37l : List GI := [⟨none, .addr (some 70) (.r 6) 1⟩,
    ⟨none, .load (some 71) (.r 70) none⟩,
    ⟨none, .addr (some 72) (.r 9) 1⟩,
    ⟨none, .store 1 (.r 72) (.r 71)⟩]
def f40_37 : AC := .ops [0, 6, 9] [6, 9] f40_37l
theorem f40_37e : aC P id m f40_37 sf st Q = runI P id m f40_37l (opsK [0, 6, 9] [6, 9] Q) sf st := rfl
def f40_38h : List GI := [⟨none, .mv (some 73) (.r 0)⟩,
    ⟨none, .nilck (some 74) (.r 73)⟩,
    ⟨none, .addr (some 75) (.r 74) 3⟩,
    ⟨none, .load (some 76) (.r 75) none⟩,
    ⟨none, .addr (some 77) (.r 6) 2⟩,
    ⟨none, .load (some 78) (.r 77) none⟩,
    ⟨none, .load (some 79) (.r 9) (some 3)⟩]
def f40_38l : List GI := [⟨none, .upd (.int .u64) (.r 76) (.r 78) (.r 79)⟩]
def f40_38 : AC := .draw [6] [6] [] f40_38h f40_38l
theorem f40_38e : aC P id m f40_38 sf st Q = headI P id sf.locs st f40_38h (tailK P id m [] [6] [6] f40_38l Q st) [] ⟨sf.regs, dropL [] sf.locs⟩ := rfl
def f40_36 : AC := .seq f40_37 f40_38
theorem f40_36e : aC P id m f40_36 sf st Q = aC P id m f40_37 sf st (seqQ (aC P id m f40_38) Q) := rfl
def f40_34 : AC := .seq f40_35 f40_36
theorem f40_34e : aC P id m f40_34 sf st Q = aC P id m f40_35 sf st (seqQ (aC P id m f40_36) Q) := rfl
def f40_32 : AC := .cond (.r 56) f40_33 f40_34
theorem f40_32e : aC P id m f40_32 sf st Q = condI (.r 56) (sf.ev id (.r 56)) (aC P id m f40_33) (aC P id m f40_34) sf st Q := rfl
def f40_30 : AC := .seq f40_31 f40_32
theorem f40_30e : aC P id m f40_30 sf st Q = aC P id m f40_31 sf st (seqQ (aC P id m f40_32) Q) := rfl
def f40_40l : List GI := [⟨none, .addr (some 80) (.r 6) 0⟩,
    ⟨none, .load (some 81) (.r 80) none⟩,
    ⟨none, .own 4 81⟩,
    ⟨none, .mv (some 5) (.c (.lit (.int .i64 0)))⟩]
def f40_40 : AC := .ops [4, 5] [] f40_40l
theorem f40_40e : aC P id m f40_40 sf st Q = runI P id m f40_40l (opsK [4, 5] [] Q) sf st := rfl
def f40_39 : AC := .seq f40_40 .ret
theorem f40_39e : aC P id m f40_39 sf st Q = aC P id m f40_40 sf st (seqQ (aC P id m .ret) Q) := rfl
def f40_29 : AC := .seq f40_30 f40_39
theorem f40_29e : aC P id m f40_29 sf st Q = aC P id m f40_30 sf st (seqQ (aC P id m f40_39) Q) := rfl
def f40_19 : AC := .seq f40_20 f40_29
theorem f40_19e : aC P id m f40_19 sf st Q = aC P id m f40_20 sf st (seqQ (aC P id m f40_29) Q) := rfl
def f40_17 : AC := .seq f40_18 f40_19
theorem f40_17e : aC P id m f40_17 sf st Q = aC P id m f40_18 sf st (seqQ (aC P id m f40_19) Q) := rfl
def f40_11 : AC := .seq f40_12 f40_17
theorem f40_11e : aC P id m f40_11 sf st Q = aC P id m f40_12 sf st (seqQ (aC P id m f40_17) Q) := rfl
def f40_9 : AC := .seq f40_10 f40_11
theorem f40_9e : aC P id m f40_9 sf st Q = aC P id m f40_10 sf st (seqQ (aC P id m f40_11) Q) := rfl
def f40_3 : AC := .seq f40_4 f40_9
theorem f40_3e : aC P id m f40_3 sf st Q = aC P id m f40_4 sf st (seqQ (aC P id m f40_9) Q) := rfl
def f40_1 : AC := .seq f40_2 f40_3
theorem f40_1e : aC P id m f40_1 sf st Q = aC P id m f40_2 sf st (seqQ (aC P id m f40_3) Q) := rfl
def c_f40 : AFun := ⟨82, [.tmp 4, .tmp 5], f40_1⟩
theorem k_f40 : compF Go.Proofs.Try.prog x_f40 40 = some c_f40 := by kernel_rfl
theorem e_f40 : enterB Go.Proofs.Try.prog 40 = true := by kernel_rfl

def n_f41 : Nat := 41
def x_f41 : Cx := ⟨some, id, 12, fun s => ([0, 2, 3, 4, 5, 9, 10, 11] : List Nat).contains s, fun s => ([] : List Nat).contains s, msOf [(2, [0], []), (6, [2], [])]⟩
def f41_2l : List GI := [⟨none, .mv (some 2) (.c (.lit (.bool false)))⟩]
def f41_2 : AC := .ops [0] [] f41_2l
theorem f41_2e : aC P id m f41_2 sf st Q = runI P id m f41_2l (opsK [0] [] Q) sf st := rfl
def f41_4l : List GI := [⟨none, .mv (some 3) (.r 0)⟩,
    ⟨none, .bin (some 4) (.nil .ptr) .eql (.r 3) (.c (.lit (.pointer none)))⟩,
    ⟨none, .mv (some 5) (.r 4)⟩,
    ⟨some (5, false), .mv (some 6) (.r 0)⟩,
    ⟨some (5, false), .nilck (some 7) (.r 6)⟩,
    ⟨some (5, false), .addr (some 8) (.r 7) 3⟩,
    ⟨some (5, false), .load (some 9) (.r 8) none⟩,
    ⟨some (5, false), .bin (some 10) (.nil .mp) .eql (.r 9) (.c (.lit (.map none)))⟩,
    ⟨none, .pick (some 11) (.r 5) (.c (.lit (.bool true))) (.r 10)⟩,
    ⟨none, .own 2 11⟩]
def f41_4 : AC := .ops [2] [] f41_4l
theorem f41_4e : aC P id m f41_4 sf st Q = runI P id m f41_4l (opsK [2] [] Q) sf st := rfl
def f41_3 : AC := .seq f41_4 .ret
theorem f41_3e : aC P id m f41_3 sf st Q = aC P id m f41_4 sf st (seqQ (aC P id m .ret) Q) := rfl
def f41_1 : AC := .seq f41_2 f41_3
theorem f41_1e : aC P id m f41_1 sf st Q = aC P id m f41_2 sf st (seqQ (aC P id m f41_3) Q) := rfl
def c_f41 : AFun := ⟨12, [.tmp 2], f41_1⟩
theorem k_f41 : compF Go.Proofs.Try.prog x_f41 41 = some c_f41 := by kernel_rfl
theorem e_f41 : enterB Go.Proofs.Try.prog 41 = true := by kernel_rfl

def n_f46 : Nat := 46
def x_f46 : Cx := ⟨some, id, 22, fun s => ([0, 2, 3, 4, 5, 6, 7, 8, 9, 10, 11, 12, 13, 14, 16, 17, 19, 20, 21] : List Nat).contains s, fun s => ([] : List Nat).contains s, msOf [(2, [0], []), (6, [0, 5, 6, 7], []), (28, [0, 5, 6, 7, 15], []), (58, [5, 6, 7], []), (30, [2, 3, 4], [])]⟩
def f46_2l : List GI := [⟨none, .mv (some 2) (.c (.lit (.int .i64 0)))⟩,
    ⟨none, .mv (some 3) (.c (.lit (.int .u64 0)))⟩,
    ⟨none, .mv (some 4) (.c (.lit (.int .i64 0)))⟩]
def f46_2 : AC := .ops [0] [] f46_2l
theorem f46_2e : aC P id m f46_2 sf st Q = runI P id m f46_2l (opsK [0] [] Q) sf st := rfl
def f46_4l : List GI := [⟨none, .mv (some 9) (.r 0)⟩,
    ⟨none, .call (some 10) false (.f 52) [(.r 9)]⟩,
    ⟨none, .mv (some 8) (.r 10)⟩,
    ⟨none, .ext (some 11) (.r 8) 0⟩,
    ⟨none, .ext (some 12) (.r 8) 1⟩,
    ⟨none, .ext (some 13) (.r 8) 2⟩,
    ⟨none, .own 5 11⟩,
    ⟨none, .own 6 12⟩,
    ⟨none, .own 7 13⟩]
def f46_4 : AC := .ops [0, 5, 6, 7] [] f46_4l
theorem f46_4e : aC P id m f46_4 sf st Q = runI P id m f46_4l (opsK [0, 5, 6, 7] [] Q) sf st := rfl
def f46_7l : List GI := [⟨none, .mv (some 14) (.r 7)⟩,
    ⟨none, .bin (some 15) .num .eql (.r 14) (.c (.lit (.int .i64 0)))⟩]
def f46_7 : AC := .ops [0, 5, 6, 7, 15] [] f46_7l
theorem f46_7e : aC P id m f46_7 sf st Q = runI P id m f46_7l (opsK [0, 5, 6, 7, 15] [] Q) sf st := rfl
def f46_9l : List GI := [⟨none, .mv (some 16) (.r 0)⟩,
    ⟨none, .mv (some 17) (.r 6)⟩,
    ⟨none, .call (some 18) false (.f 40) [(.r 16), (.r 17)]⟩]
def f46_9 : AC := .ops [5, 6, 7] [] f46_9l
theorem f46_9e : aC P id m f46_9 sf st Q = runI P id m f46_9l (opsK [5, 6, 7] [] Q) sf st := rfl
def f46_8 : AC := .cond (.r 15) f46_9 .skip
theorem f46_8e : aC P id m f46_8 sf st Q = condI (.r 15) (sf.ev id (.r 15)) (aC P id m f46_9) (aC P id m .skip) sf st Q := rfl
def f46_6 : AC := .seq f46_7 f46_8
theorem f46_6e : aC P id m f46_6 sf st Q = aC P id m f46_7 sf st (seqQ (aC P id m f46_8) Q) := rfl
def f46_11l : List GI := [⟨none, .mv (some 19) (.r 5)⟩,
    ⟨none, .mv (some 20) (.r 6)⟩,
    ⟨none, .mv (some 21) (.r 7)⟩,
    ⟨none, .own 2 19⟩,
    ⟨none, .own 3 20⟩,
    ⟨none, .own 4 21⟩]
def f46_11 : AC := .ops [2, 3, 4] [] f46_11l
theorem f46_11e : aC P id m f46_11 sf st Q = runI P id m f46_11l (opsK [2, 3, 4] [] Q) sf st := rfl
def f46_10 : AC := .seq f46_11 .ret
theorem f46_10e : aC P id m f46_10 sf st Q = aC P id m f46_11 sf st (seqQ (aC P id m .ret) Q) := rfl
def f46_5 : AC := .seq f46_6 f46_10
theorem f46_5e : aC P id m f46_5 sf st Q = aC P id m f46_6 sf st (seqQ (aC P id m f46_10) Q) := rfl
def f46_3 : AC := .seq f46_4 f46_5
theorem f46_3e : aC P id m f46_3 sf st Q = aC P id m f46_4 sf st (seqQ (aC P id m f46_5) Q) := rfl
def f46_1 : AC := .seq f46_2 f46_3
theorem f46_1e : aC P id m f46_1 sf st Q = aC P id m f46_2 sf st (seqQ (aC P id m f46_3) Q) := rfl
def c_f46 : AFun := ⟨22, [.tmp 2, .tmp 3, .tmp 4], f46_1⟩
theorem k_f46 : compF Go.Proofs.Try.prog x_f46 46 = some c_f46 := by kernel_rfl
theorem e_f46 : enterB Go.Proofs.Try.prog 46 = true := by kernel_rfl

def n_f48 : Nat := 48
def x_f48 : Cx := ⟨some, id, 97, fun s => ([0, 1, 4, 5, 8, 9, 14, 15, 16, 21, 22, 29, 34, 35, 40, 41, 46, 53, 60, 65, 66, 71, 76, 81, 82, 88, 96] : List Nat).contains s, fun s => ([] : List Nat).contains s, msOf [(2, [0, 1], []), (24, [0, 1, 7], []), (100, [4, 5], []), (102, [0, 1, 10], []), (412, [4, 5], []), (14, [0, 1], []), (30, [0], []), (124, [0, 47], []), (250, [0], []), (502, [0, 6], [6]), (1006, [0, 6], [6]), (1007, [0], []), (126, [0], []), (254, [4, 5], [])]⟩
def f48_2l : List GI := [⟨none, .mv (some 4) (.c (.lit (.int .u64 0)))⟩,
    ⟨none, .mv (some 5) (.c (.lit (.int .i64 0)))⟩]
def f48_2 : AC := .ops [0, 1] [] f48_2l
theorem f48_2e : aC P id m f48_2 sf st Q = runI P id m f48_2l (opsK [0, 1] [] Q) sf st := rfl
def f48_6l : List GI := [⟨none, .mv (some 8) (.r 0)⟩,
    ⟨none, .call (some 9) false (.f 41) [(.r 8)]⟩,
    ⟨none, .own 7 9⟩]
def f48_6 : AC := .ops [0, 1, 7] [] f48_6l
theorem f48_6e : aC P id m f48_6 sf st Q = runI P id m f48_6l (opsK [0, 1, 7] [] Q) sf st := rfl
def f48_9l : List GI := [⟨none, .mv (some 4) (.c (.lit (.int .u64 0)))⟩,
    ⟨none, .mv (some 5) (.c (.lit (.int .i64 1)))⟩]
def f48_9 : AC := .ops [4, 5] [] f48_9l
theorem f48_9e : aC P id m f48_9 sf st Q = runI P id m f48_9l (opsK [4, 5] [] Q) sf st := rfl
def f48_8 : AC := .seq f48_9 .ret
theorem f48_8e : aC P id m f48_8 sf st Q = aC P id m f48_9 sf st (seqQ (aC P id m .ret) Q) := rfl
def f48_11l : List GI := [⟨none, .mv (some 11) (.r 0)⟩,
    ⟨none, .nilck (some 12) (.r 11)⟩,
    ⟨none, .addr (some 13) (.r 12) 3⟩,
    ⟨none, .load (some 14) (.r 13) none⟩,
    ⟨none, .len (some 15) .mp (.r 14)⟩,
    ⟨none, .bin (some 16) .num .geq (.r 15) (.c (.lit (.int .i64 4096)))⟩,
    ⟨none, .own 10 16⟩]
def f48_11 : AC := .ops [0, 1, 10] [] f48_11l
theorem f48_11e : aC P id m f48_11 sf st Q = runI P id m f48_11l (opsK [0, 1, 10] [] Q) sf st := rfl
def f48_14l : List GI := [⟨none, .mv (some 4) (.c (.lit (.int .u64 0)))⟩,
    ⟨none, .mv (some 5) (.c (.lit (.int .i64 7)))⟩]
def f48_14 : AC := .ops [4, 5] [] f48_14l
theorem f48_14e : aC P id m f48_14 sf st Q = runI P id m f48_14l (opsK [4, 5] [] Q) sf st := rfl
def f48_13 : AC := .seq f48_14 .ret
theorem f48_13e : aC P id m f48_13 sf st Q = aC P id m f48_14 sf st (seqQ (aC P id m .ret) Q) := rfl
def f48_12 : AC := .cond (.r 10) f48_13 .skip
theorem f48_12e : aC P id m f48_12 sf st Q = condI (.r 10) (sf.ev id (.r 10)) (aC P id m f48_13) (aC P id m .skip) sf st Q := rfl
def f48_10 : AC := .seq f48_11 f48_12
theorem f48_10e : aC P id m f48_10 sf st Q = aC P id m f48_11 sf st (seqQ (aC P id m f48_12) Q) := rfl
def f48_7 : AC := .cond (.r 7) f48_8 f48_10
theorem f48_7e : aC P id m f48_7 sf st Q = condI (.r 7) (sf.ev id (.r 7)) (aC P id m f48_8) (aC P id m f48_10) sf st Q := rfl
def f48_5 : AC := .seq f48_6 f48_7
theorem f48_5e : aC P id m f48_5 sf st Q = aC P id m f48_6 sf st (seqQ (aC P id m f48_7) Q) := rfl
def f48_4 : AC := .block 0 f48_5
theorem f48_4e : aC P id m f48_4 sf st Q = aC P id m f48_5 sf st (blockQ 0 Q) := rfl
def f48_16l : List GI := [⟨none, .mv (some 17) (.r 0)⟩,
    ⟨none, .nilck (some 18) (.r 17)⟩,
    ⟨none, .addr (some 19) (.r 18) 0⟩,
    ⟨none, .addr (some 20) (.r 19) 2⟩,
    ⟨none, .load (some 21) (.r 20) none⟩,
    ⟨none, .bin (some 22) .num .add (.r 21) (.c (.lit (.int .u64 1)))⟩,
    ⟨none, .nilck (some 23) (.r 17)⟩,
    ⟨none, .addr (some 24) (.r 23) 0⟩,
    ⟨none, .addr (some 25) (.r 24) 2⟩,
    ⟨none, .store 1 (.r 25) (.r 22)⟩]
def f48_16 : AC := .ops [0, 1] [] f48_16l
theorem f48_16e : aC P id m f48_16 sf st Q = runI P id m f48_16l (opsK [0, 1] [] Q) sf st := rfl
def f48_18h : List GI := [⟨none, .mv (some 26) (.r 0)⟩,
    ⟨none, .nilck (some 27) (.r 26)⟩,
    ⟨none, .addr (some 28) (.r 27) 3⟩,
    ⟨none, .load (some 29) (.r 28) none⟩,
    ⟨none, .mv (some 30) (.r 0)⟩,
    ⟨none, .nilck (some 31) (.r 30)⟩,
    ⟨none, .addr (some 32) (.r 31) 0⟩,
    ⟨none, .addr (some 33) (.r 32) 2⟩,
    ⟨none, .load (some 34) (.r 33) none⟩,
    ⟨none, .mv (some 35) (.r 1)⟩,
    ⟨none, .mv (some 36) (.r 0)⟩,
    ⟨none, .nilck (some 37) (.r 36)⟩,
    ⟨none, .addr (some 38) (.r 37) 0⟩,
    ⟨none, .addr (some 39) (.r 38) 1⟩,
    ⟨none, .load (some 40) (.r 39) none⟩,
    ⟨none, .bst (some 41) [(0, 1), (1, 1), (2, 1)] (.agg [(.lit (.int .i64 0)), (.lit (.int .u64 0)), (.lit (.int .u64 0))]) [(0, (.r 35)), (1, (.r 40))]⟩]
def f48_18l : List GI := [⟨none, .upd (.int .u64) (.r 29) (.r 34) (.r 41)⟩]
def f48_18 : AC := .draw [0] [] [] f48_18h f48_18l
theorem f48_18e : aC P id m f48_18 sf st Q = headI P id sf.locs st f48_18h (tailK P id m [] [0] [] f48_18l Q st) [] ⟨sf.regs, dropL [] sf.locs⟩ := rfl
def f48_21l : List GI := [⟨none, .mv (some 42) (.r 0)⟩,
    ⟨none, .nilck (some 43) (.r 42)⟩,
    ⟨none, .addr (some 44) (.r 43) 0⟩,
    ⟨none, .addr (some 45) (.r 44) 1⟩,
    ⟨none, .load (some 46) (.r 45) none⟩,
    ⟨none, .bin (some 47) .num .eql (.r 46) (.c (.lit (.int .u64 0)))⟩]
def f48_21 : AC := .ops [0, 47] [] f48_21l
theorem f48_21e : aC P id m f48_21 sf st Q = runI P id m f48_21l (opsK [0, 47] [] Q) sf st := rfl
def f48_23l : List GI := [⟨none, .mv (some 48) (.r 0)⟩,
    ⟨none, .mv (some 49) (.r 0)⟩,
    ⟨none, .nilck (some 50) (.r 49)⟩,
    ⟨none, .addr (some 51) (.r 50) 0⟩,
    ⟨none, .addr (some 52) (.r 51) 2⟩,
    ⟨none, .load (some 53) (.r 52) none⟩,
    ⟨none, .nilck (some 54) (.r 48)⟩,
    ⟨none, .addr (some 55) (.r 54) 0⟩,
    ⟨none, .addr (some 56) (.r 55) 0⟩,
    ⟨none, .store 1 (.r 56) (.r 53)⟩]
def f48_23 : AC := .ops [0] [] f48_23l
theorem f48_23e : aC P id m f48_23 sf st Q = runI P id m f48_23l (opsK [0] [] Q) sf st := rfl
def f48_25h : List GI := [⟨none, .mv (some 57) (.r 0)⟩,
    ⟨none, .nilck (some 58) (.r 57)⟩,
    ⟨none, .addr (some 59) (.r 58) 3⟩,
    ⟨none, .load (some 60) (.r 59) none⟩,
    ⟨none, .mv (some 61) (.r 0)⟩,
    ⟨none, .nilck (some 62) (.r 61)⟩,
    ⟨none, .addr (some 63) (.r 62) 0⟩,
    ⟨none, .addr (some 64) (.r 63) 1⟩,
    ⟨none, .load (some 65) (.r 64) none⟩,
    ⟨none, .lookup (some 66) (.int .u64) (.agg [(.lit (.int .i64 0)), (.lit (.int .u64 0)), (.lit (.int .u64 0))]) false (.r 60) (.r 65)⟩,
    ⟨none, .newL 6 [(.lit (.int .i64 0)), (.lit (.int .u64 0)), (.lit (.int .u64 0))]⟩]
def f48_25l : List GI := [⟨none, .store 3 (.r 6) (.r 66)⟩]
def f48_25 : AC := .draw [0, 6] [6] [6] f48_25h f48_25l
theorem f48_25e : aC P id m f48_25 sf st Q = headI P id sf.locs st f48_25h (tailK P id m [6] [0, 6] [6] f48_25l Q st) [] ⟨sf.regs, dropL [6] sf.locs⟩ := rfl
def f48_27l : List GI := [⟨none, .mv (some 67) (.r 0)⟩,
    ⟨none, .nilck (some 68) (.r 67)⟩,
    ⟨none, .addr (some 69) (.r 68) 0⟩,
    ⟨none, .addr (some 70) (.r 69) 2⟩,
    ⟨none, .load (some 71) (.r 70) none⟩,
    ⟨none, .addr (some 72) (.r 6) 2⟩,
    ⟨none, .store 1 (.r 72) (.r 71)⟩]
def f48_27 : AC := .ops [0, 6] [6] f48_27l
theorem f48_27e : aC P id m f48_27 sf st Q = runI P id m f48_27l (opsK [0, 6] [6] Q) sf st := rfl
def f48_28h : List GI := [⟨none, .mv (some 73) (.r 0)⟩,
    ⟨none, .nilck (some 74) (.r 73)⟩,
    ⟨none, .addr (some 75) (.r 74) 3⟩,
    ⟨none, .load (some 76) (.r 75) none⟩,
    ⟨none, .mv (some 77) (.r 0)⟩,
    ⟨none, .nilck (some 78) (.r 77)⟩,
    ⟨none, .addr (some 79) (.r 78) 0⟩,
    ⟨none, .addr (some 80) (.r 79) 1⟩,
    ⟨none, .load (some 81) (.r 80) none⟩,
    ⟨none, .load (some 82) (.r 6) (some 3)⟩]
def f48_28l : List GI := [⟨none, .upd (.int .u64) (.r 76) (.r 81) (.r 82)⟩]
def f48_28 : AC := .draw [0] [] [] f48_28h f48_28l
theorem f48_28e : aC P id m f48_28 sf st Q = headI P id sf.locs st f48_28h (tailK P id m [] [0] [] f48_28l Q st) [] ⟨sf.regs, dropL [] sf.locs⟩ := rfl
def f48_26 : AC := .seq f48_27 f48_28
theorem f48_26e : aC P id m f48_26 sf st Q = aC P id m f48_27 sf st (seqQ (aC P id m f48_28) Q) := rfl
def f48_24 : AC := .seq f48_25 f48_26
theorem f48_24e : aC P id m f48_24 sf st Q = aC P id m f48_25 sf st (seqQ (aC P id m f48_26) Q) := rfl
def f48_22 : AC := .cond (.r 47) f48_23 f48_24
theorem f48_22e : aC P id m f48_22 sf st Q = condI (.r 47) (sf.ev id (.r 47)) (aC P id m f48_23) (aC P id m f48_24) sf st Q := rfl
def f48_20 : AC := .seq f48_21 f48_22
theorem f48_20e : aC P id m f48_20 sf st Q = aC P id m f48_21 sf st (seqQ (aC P id m f48_22) Q) := rfl
def f48_30l : List GI := [⟨none, .mv (some 83) (.r 0)⟩,
    ⟨none, .mv (some 84) (.r 0)⟩,
    ⟨none, .nilck (some 85) (.r 84)⟩,
    ⟨none, .addr (some 86) (.r 85) 0⟩,
    ⟨none, .addr (some 87) (.r 86) 2⟩,
    ⟨none, .load (some 88) (.r 87) none⟩,
    ⟨none, .nilck (some 89) (.r 83)⟩,
    ⟨none, .addr (some 90) (.r 89) 0⟩,
    ⟨none, .addr (some 91) (.r 90) 1⟩,
    ⟨none, .store 1 (.r 91) (.r 88)⟩]
def f48_30 : AC := .ops [0] [] f48_30l
theorem f48_30e : aC P id m f48_30 sf st Q = runI P id m f48_30l (opsK [0] [] Q) sf st := rfl
def f48_32l : List GI := [⟨none, .mv (some 92) (.r 0)⟩,
    ⟨none, .nilck (some 93) (.r 92)⟩,
    ⟨none, .addr (some 94) (.r 93) 0⟩,
    ⟨none, .addr (some 95) (.r 94) 2⟩,
    ⟨none, .load (some 96) (.r 95) none⟩,
    ⟨none, .own 4 96⟩,
    ⟨none, .mv (some 5) (.c (.lit (.int .i64 0)))⟩]
def f48_32 : AC := .ops [4, 5] [] f48_32l
theorem f48_32e : aC P id m f48_32 sf st Q = runI P id m f48_32l (opsK [4, 5] [] Q) sf st := rfl
def f48_31 : AC := .seq f48_32 .ret
theorem f48_31e : aC P id m f48_31 sf st Q = aC P id m f48_32 sf st (seqQ (aC P id m .ret) Q) := rfl
def f48_29 : AC := .seq f48_30 f48_31
theorem f48_29e : aC P id m f48_29 sf st Q = aC P id m f48_30 sf st (seqQ (aC P id m f48_31) Q) := rfl
def f48_19 : AC := .seq f48_20 f48_29
theorem f48_19e : aC P id m f48_19 sf st Q = aC P id m f48_20 sf st (seqQ (aC P id m f48_29) Q) := rfl
def f48_17 : AC := .seq f48_18 f48_19
theorem f48_17e : aC P id m f48_17 sf st Q = aC P id m f48_18 sf st (seqQ (aC P id m f48_19) Q) := rfl
def f48_15 : AC := .seq f48_16 f48_17
theorem f48_15e : aC P id m f48_15 sf st Q = aC P id m f48_16 sf st (seqQ (aC P id m f48_17) Q) := rfl
def f48_3 : AC := .seq f48_4 f48_15
theorem f48_3e : aC P id m f48_3 sf st Q = aC P id m f48_4 sf st (seqQ (aC P id m f48_15) Q) := rfl
def f48_1 : AC := .seq f48_2 f48_3
theorem f48_1e : aC P id m f48_1 sf st Q = aC P id m f48_2 sf st (seqQ (aC P id m f48_3) Q) := rfl
def c_f48 : AFun := ⟨97, [.tmp 4, .tmp 5], f48_1⟩
theorem k_f48 : compF Go.Proofs.Try.prog x_f48 48 = some c_f48 := by kernel_rfl
theorem e_f48 : enterB Go.Proofs.Try.prog 48 = true := by kernel_rfl

def n_f52 : Nat := 52
def x_f52 : Cx := ⟨some, id, 31, fun s => ([0, 2, 3, 4, 6, 7, 13, 14, 18, 23, 24, 25, 30] : List Nat).contains s, fun s => ([] : List Nat).contains s, msOf [(2, [0], []), (24, [0, 5], []), (100, [2, 3, 4], []), (102, [0, 8], []), (412, [2, 3, 4], []), (14, [2, 3, 4], [])]⟩
def f52_2l : List GI := [⟨none, .mv (some 2) (.c (.lit (.int .i64 0)))⟩,
    ⟨none, .mv (some 3) (.c (.lit (.int .u64 0)))⟩,
    ⟨none, .mv (some 4) (.c (.lit (.int .i64 0)))⟩]
def f52_2 : AC := .ops [0] [] f52_2l
theorem f52_2e : aC P id m f52_2 sf st Q = runI P id m f52_2l (opsK [0] [] Q) sf st := rfl
def f52_6l : List GI := [⟨none, .mv (some 6) (.r 0)⟩,
    ⟨none, .call (some 7) false (.f 41) [(.r 6)]⟩,
    ⟨none, .own 5 7⟩]
def f52_6 : AC := .ops [0, 5] [] f52_6l
theorem f52_6e : aC P id m f52_6 sf st Q = runI P id m f52_6l (opsK [0, 5] [] Q) sf st := rfl
def f52_9l : List GI := [⟨none, .mv (some 2) (.c (.lit (.int .i64 0)))⟩,
    ⟨none, .mv (some 3) (.c (.lit (.int .u64 0)))⟩,
    ⟨none, .mv (some 4) (.c (.lit (.int .i64 1)))⟩]
def f52_9 : AC := .ops [2, 3, 4] [] f52_9l
theorem f52_9e : aC P id m f52_9 sf st Q = runI P id m f52_9l (opsK [2, 3, 4] [] Q) sf st := rfl
def f52_8 : AC := .seq f52_9 .ret
theorem f52_8e : aC P id m f52_8 sf st Q = aC P id m f52_9 sf st (seqQ (aC P id m .ret) Q) := rfl
def f52_11l : List GI := [⟨none, .mv (some 9) (.r 0)⟩,
    ⟨none, .nilck (some 10) (.r 9)⟩,
    ⟨none, .addr (some 11) (.r 10) 0⟩,
    ⟨none, .addr (some 12) (.r 11) 0⟩,
    ⟨none, .load (some 13) (.r 12) none⟩,
    ⟨none, .bin (some 14) .num .eql (.r 13) (.c (.lit (.int .u64 0)))⟩,
    ⟨none, .own 8 14⟩]
def f52_11 : AC := .ops [0, 8] [] f52_11l
theorem f52_11e : aC P id m f52_11 sf st Q = runI P id m f52_11l (opsK [0, 8] [] Q) sf st := rfl
def f52_14l : List GI := [⟨none, .mv (some 2) (.c (.lit (.int .i64 0)))⟩,
    ⟨none, .mv (some 3) (.c (.lit (.int .u64 0)))⟩,
    ⟨none, .mv (some 4) (.c (.lit (.int .i64 9)))⟩]
def f52_14 : AC := .ops [2, 3, 4] [] f52_14l
theorem f52_14e : aC P id m f52_14 sf st Q = runI P id m f52_14l (opsK [2, 3, 4] [] Q) sf st := rfl
def f52_13 : AC := .seq f52_14 .ret
theorem f52_13e : aC P id m f52_13 sf st Q = aC P id m f52_14 sf st (seqQ (aC P id m .ret) Q) := rfl
def f52_12 : AC := .cond (.r 8) f52_13 .skip
theorem f52_12e : aC P id m f52_12 sf st Q = condI (.r 8) (sf.ev id (.r 8)) (aC P id m f52_13) (aC P id m .skip) sf st Q := rfl
def f52_10 : AC := .seq f52_11 f52_12
theorem f52_10e : aC P id m f52_10 sf st Q = aC P id m f52_11 sf st (seqQ (aC P id m f52_12) Q) := rfl
def f52_7 : AC := .cond (.r 5) f52_8 f52_10
theorem f52_7e : aC P id m f52_7 sf st Q = condI (.r 5) (sf.ev id (.r 5)) (aC P id m f52_8) (aC P id m f52_10) sf st Q := rfl
def f52_5 : AC := .seq f52_6 f52_7
theorem f52_5e : aC P id m f52_5 sf st Q = aC P id m f52_6 sf st (seqQ (aC P id m f52_7) Q) := rfl
def f52_4 : AC := .block 0 f52_5
theorem f52_4e : aC P id m f52_4 sf st Q = aC P id m f52_5 sf st (blockQ 0 Q) := rfl
def f52_16h : List GI := [⟨none, .mv (some 15) (.r 0)⟩,
    ⟨none, .nilck (some 16) (.r 15)⟩,
    ⟨none, .addr (some 17) (.r 16) 3⟩,
    ⟨none, .load (some 18) (.r 17) none⟩,
    ⟨none, .mv (some 19) (.r 0)⟩,
    ⟨none, .nilck (some 20) (.r 19)⟩,
    ⟨none, .addr (some 21) (.r 20) 0⟩,
    ⟨none, .addr (some 22) (.r 21) 0⟩,
    ⟨none, .load (some 23) (.r 22) none⟩,
    ⟨none, .lookup (some 24) (.int .u64) (.agg [(.lit (.int .i64 0)), (.lit (.int .u64 0)), (.lit (.int .u64 0))]) false (.r 18) (.r 23)⟩,
    ⟨none, .field (some 25) (.r 24) 0 none⟩,
    ⟨none, .mv (some 26) (.r 0)⟩,
    ⟨none, .nilck (some 27) (.r 26)⟩,
    ⟨none, .addr (some 28) (.r 27) 0⟩,
    ⟨none, .addr (some 29) (.r 28) 0⟩,
    ⟨none, .load (some 30) (.r 29) none⟩,
    ⟨none, .mv (some 2) (.r 25)⟩]
def f52_16l : List GI := [⟨none, .own 3 30⟩,
    ⟨none, .mv (some 4) (.c (.lit (.int .i64 0)))⟩]
def f52_16 : AC := .draw [2, 3, 4] [] [] f52_16h f52_16l
theorem f52_16e : aC P id m f52_16 sf st Q = headI P id sf.locs st f52_16h (tailK P id m [] [2, 3, 4] [] f52_16l Q st) [] ⟨sf.regs, dropL [] sf.locs⟩ := rfl
def f52_15 : AC := .seq f52_16 .ret
theorem f52_15e : aC P id m f52_15 sf st Q = aC P id m f52_16 sf st (seqQ (aC P id m .ret) Q) := rfl
def f52_3 : AC := .seq f52_4 f52_15
theorem f52_3e : aC P id m f52_3 sf st Q = aC P id m f52_4 sf st (seqQ (aC P id m f52_15) Q) := rfl
def f52_1 : AC := .seq f52_2 f52_3
theorem f52_1e : aC P id m f52_1 sf st Q = aC P id m f52_2 sf st (seqQ (aC P id m f52_3) Q) := rfl
def c_f52 : AFun := ⟨31, [.tmp 2, .tmp 3, .tmp 4], f52_1⟩
theorem k_f52 : compF Go.Proofs.Try.prog x_f52 52 = some c_f52 := by kernel_rfl
theorem e_f52 : enterB Go.Proofs.Try.prog 52 = true := by kernel_rfl

def tab (q : Nat) : Option AFun :=
  if q = 3 then some c_f3 else
  if q = 6 then some c_f6 else
  if q = 9 then some c_f9 else
  if q = 10 then some c_f10 else
  if q = 11 then some c_f11 else
  if q = 12 then some c_f12 else
  if q = 13 then some c_f13 else
  if q = 14 then some c_f14 else
  if q = 15 then some c_f15 else
  if q = 17 then some c_f17 else
  if q = 18 then some c_f18 else
  if q = 19 then some c_f19 else
  if q = 20 then some c_f20 else
  if q = 21 then some c_f21 else
  if q = 23 then some c_f23 else
  if q = 24 then some c_f24 else
  if q = 25 then some c_f25 else
  if q = 26 then some c_f26 else
  if q = 27 then some c_f27 else
  if q = 28 then some c_f28 else
  if q = 29 then some c_f29 else
  if q = 30 then some c_f30 else
  if q = 32 then some c_f32 else
  if q = 33 then some c_f33 else
  if q = 34 then some c_f34 else
  if q = 37 then some c_f37 else
  if q = 38 then some c_f38 else
  if q = 39 then some c_f39 else
  if q = 40 then some c_f40 else
  if q = 41 then some c_f41 else
  if q = 46 then some c_f46 else
  if q = 48 then some c_f48 else
  if q = 52 then some c_f52 else
  none
theorem tabOk : TabOk Go.Proofs.Try.prog id tab :=
  tabOk_cons e_f3 k_f3 rfl (
  tabOk_cons e_f6 k_f6 rfl (
  tabOk_cons e_f9 k_f9 rfl (
  tabOk_cons e_f10 k_f10 rfl (
  tabOk_cons e_f11 k_f11 rfl (
  tabOk_cons e_f12 k_f12 rfl (
  tabOk_cons e_f13 k_f13 rfl (
  tabOk_cons e_f14 k_f14 rfl (
  tabOk_cons e_f15 k_f15 rfl (
  tabOk_cons e_f17 k_f17 rfl (
  tabOk_cons e_f18 k_f18 rfl (
  tabOk_cons e_f19 k_f19 rfl (
  tabOk_cons e_f20 k_f20 rfl (
  tabOk_cons e_f21 k_f21 rfl (
  tabOk_cons e_f23 k_f23 rfl (
  tabOk_cons e_f24 k_f24 rfl (
  tabOk_cons e_f25 k_f25 rfl (
  tabOk_cons e_f26 k_f26 rfl (
  tabOk_cons e_f27 k_f27 rfl (
  tabOk_cons e_f28 k_f28 rfl (
  tabOk_cons e_f29 k_f29 rfl (
  tabOk_cons e_f30 k_f30 rfl (
  tabOk_cons e_f32 k_f32 rfl (
  tabOk_cons e_f33 k_f33 rfl (
  tabOk_cons e_f34 k_f34 rfl (
  tabOk_cons e_f37 k_f37 rfl (
  tabOk_cons e_f38 k_f38 rfl (
  tabOk_cons e_f39 k_f39 rfl (
  tabOk_cons e_f40 k_f40 rfl (
  tabOk_cons e_f41 k_f41 rfl (
  tabOk_cons e_f46 k_f46 rfl (
  tabOk_cons e_f48 k_f48 rfl (
  tabOk_cons e_f52 k_f52 rfl (
  tabOk_nil)))))))))))))))))))))))))))))))))
theorem hmix : Go.Proofs.Try.prog.follows .mixedOrders = true := by kernel_rfl
end
end Go.Fx.YtohlpjfhkejjgaaFx

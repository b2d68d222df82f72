/- The functions that the statement reaches, resolved: printed by a program of ours from the translated code; each is checked here. -/
import Derived.Test.YtenijlfcfmhmkaaProg
import Derived.Test.YtenijlfcfmhmkaaFxE
set_option maxRecDepth 100000
set_option maxHeartbeats 0
namespace Go.Fx.YtenijlfcfmhmkaaFx
open Go Go.Fx
section
variable (P : Program) (m : Bool) (sf : Sf) (st : St) (Q : Exit → Sf → St → Prop)
def n_aqueductlaw43_FrameAlls : Nat := 3
def x_aqueductlaw43_FrameAlls : Cx := ⟨some, id, 95, fun s => ([0, 1, 2, 3, 4, 10, 11, 12, 13, 14, 15, 16, 17, 18, 19, 20, 21, 22, 23, 24, 25, 26, 28, 29, 30, 32, 33, 34, 36, 37, 39, 40, 41, 42, 43, 44, 45, 46, 47, 50, 51, 52, 53, 54, 56, 57, 58, 59, 60, 62, 63, 64, 66, 67, 68, 69, 70, 71, 72, 73, 74, 75, 76, 77, 78, 79, 80, 81, 82, 83, 84, 85, 86, 87, 88, 89, 90, 91, 92, 93, 94] : List Nat).contains s, fun s => ([11, 34, 39, 42, 43, 45, 49] : List Nat).contains s, msOf [(2, [0, 2, 3, 4, 6], [6]), (12, [0, 2, 3, 4, 6, 31], [6]), (52, [10], []), (14, [2, 3, 4, 6, 11], [6]), (60, [2, 3, 4, 6, 11, 38], [6]), (122, [2, 3, 4, 11], []), (62, [3, 4, 11], []), (252, [3, 4, 11, 48], []), (506, [11], []), (254, [11, 12, 13, 14], []), (510, [12, 13, 14, 15, 16, 17], []), (1022, [10], [])]⟩
def aqueductlaw43_FrameAlls_2l : List GI := [⟨none, .boxL 6 2 (.r 1)⟩,
    ⟨none, .mv (some 10) (.c (.lit (.bool false)))⟩]
def aqueductlaw43_FrameAlls_2 : AC := .ops [0, 2, 3, 4, 6] [6] aqueductlaw43_FrameAlls_2l
theorem aqueductlaw43_FrameAlls_2e : aC P id m aqueductlaw43_FrameAlls_2 sf st Q = runI P id m aqueductlaw43_FrameAlls_2l (opsK [0, 2, 3, 4, 6] [6] Q) sf st := rfl
def aqueductlaw43_FrameAlls_5l : List GI := [⟨none, .mv (some 18) (.r 0)⟩,
    ⟨none, .len (some 19) .sl (.r 18)⟩,
    ⟨none, .bin (some 20) .num .gtr (.r 19) (.c (.lit (.int .i64 300)))⟩,
    ⟨none, .mv (some 21) (.r 20)⟩,
    ⟨some (21, false), .mv (some 22) (.r 2)⟩,
    ⟨some (21, false), .len (some 23) .sl (.r 22)⟩,
    ⟨some (21, false), .bin (some 24) .num .gtr (.r 23) (.c (.lit (.int .i64 300)))⟩,
    ⟨none, .pick (some 25) (.r 21) (.c (.lit (.bool true))) (.r 24)⟩,
    ⟨none, .mv (some 26) (.r 25)⟩,
    ⟨some (26, false), .addr (some 27) (.r 6) 1⟩,
    ⟨some (26, false), .load (some 28) (.r 27) none⟩,
    ⟨some (26, false), .len (some 29) .sl (.r 28)⟩,
    ⟨some (26, false), .bin (some 30) .num .gtr (.r 29) (.c (.lit (.int .i64 1030)))⟩,
    ⟨none, .pick (some 31) (.r 26) (.c (.lit (.bool true))) (.r 30)⟩]
def aqueductlaw43_FrameAlls_5 : AC := .ops [0, 2, 3, 4, 6, 31] [6] aqueductlaw43_FrameAlls_5l
theorem aqueductlaw43_FrameAlls_5e : aC P id m aqueductlaw43_FrameAlls_5 sf st Q = runI P id m aqueductlaw43_FrameAlls_5l (opsK [0, 2, 3, 4, 6, 31] [6] Q) sf st := rfl
def aqueductlaw43_FrameAlls_8l : List GI := [⟨none, .call (some 32) false (.f 14) []⟩,
    ⟨none, .own 10 32⟩]
def aqueductlaw43_FrameAlls_8 : AC := .ops [10] [] aqueductlaw43_FrameAlls_8l
theorem aqueductlaw43_FrameAlls_8e : aC P id m aqueductlaw43_FrameAlls_8 sf st Q = runI P id m aqueductlaw43_FrameAlls_8l (opsK [10] [] Q) sf st := rfl
def aqueductlaw43_FrameAlls_7 : AC := .seq aqueductlaw43_FrameAlls_8 .ret
theorem aqueductlaw43_FrameAlls_7e : aC P id m aqueductlaw43_FrameAlls_7 sf st Q = aC P id m aqueductlaw43_FrameAlls_8 sf st (seqQ (aC P id m .ret) Q) := rfl
def aqueductlaw43_FrameAlls_6 : AC := .cond (.r 31) aqueductlaw43_FrameAlls_7 .skip
theorem aqueductlaw43_FrameAlls_6e : aC P id m aqueductlaw43_FrameAlls_6 sf st Q = condI (.r 31) (sf.ev id (.r 31)) (aC P id m aqueductlaw43_FrameAlls_7) (aC P id m .skip) sf st Q := rfl
def aqueductlaw43_FrameAlls_4 : AC := .seq aqueductlaw43_FrameAlls_5 aqueductlaw43_FrameAlls_6
theorem aqueductlaw43_FrameAlls_4e : aC P id m aqueductlaw43_FrameAlls_4 sf st Q = aC P id m aqueductlaw43_FrameAlls_5 sf st (seqQ (aC P id m aqueductlaw43_FrameAlls_6) Q) := rfl
def aqueductlaw43_FrameAlls_10l : List GI := [⟨none, .mv (some 33) (.r 0)⟩,
    ⟨none, .x (some 34) (.appB (.c (.lit (.slice none 0 0))) 1 1 (.r 33))⟩,
    ⟨none, .own 11 34⟩]
def aqueductlaw43_FrameAlls_10 : AC := .ops [2, 3, 4, 6, 11] [6] aqueductlaw43_FrameAlls_10l
theorem aqueductlaw43_FrameAlls_10e : aC P id m aqueductlaw43_FrameAlls_10 sf st Q = runI P id m aqueductlaw43_FrameAlls_10l (opsK [2, 3, 4, 6, 11] [6] Q) sf st := rfl
def aqueductlaw43_FrameAlls_13l : List GI := [⟨none, .addr (some 35) (.r 6) 1⟩,
    ⟨none, .load (some 36) (.r 35) none⟩,
    ⟨none, .len (some 37) .sl (.r 36)⟩,
    ⟨none, .bin (some 38) .num .leq (.r 37) (.c (.lit (.int .i64 1024)))⟩]
def aqueductlaw43_FrameAlls_13 : AC := .ops [2, 3, 4, 6, 11, 38] [6] aqueductlaw43_FrameAlls_13l
theorem aqueductlaw43_FrameAlls_13e : aC P id m aqueductlaw43_FrameAlls_13 sf st Q = runI P id m aqueductlaw43_FrameAlls_13l (opsK [2, 3, 4, 6, 11, 38] [6] Q) sf st := rfl
def aqueductlaw43_FrameAlls_15l : List GI := [⟨none, .own 39 11⟩,
    ⟨none, .load (some 40) (.r 6) (some 2)⟩,
    ⟨none, .call (some 41) false (.f 15) [(.r 40)]⟩,
    ⟨none, .x (some 42) (.appB (.r 39) 1 1 (.r 41))⟩,
    ⟨none, .own 11 42⟩]
def aqueductlaw43_FrameAlls_15 : AC := .ops [2, 3, 4, 11] [] aqueductlaw43_FrameAlls_15l
theorem aqueductlaw43_FrameAlls_15e : aC P id m aqueductlaw43_FrameAlls_15 sf st Q = runI P id m aqueductlaw43_FrameAlls_15l (opsK [2, 3, 4, 11] [] Q) sf st := rfl
def aqueductlaw43_FrameAlls_14 : AC := .cond (.r 38) aqueductlaw43_FrameAlls_15 .skip
theorem aqueductlaw43_FrameAlls_14e : aC P id m aqueductlaw43_FrameAlls_14 sf st Q = condI (.r 38) (sf.ev id (.r 38)) (aC P id m aqueductlaw43_FrameAlls_15) (aC P id m .skip) sf st Q := rfl
def aqueductlaw43_FrameAlls_12 : AC := .seq aqueductlaw43_FrameAlls_13 aqueductlaw43_FrameAlls_14
theorem aqueductlaw43_FrameAlls_12e : aC P id m aqueductlaw43_FrameAlls_12 sf st Q = aC P id m aqueductlaw43_FrameAlls_13 sf st (seqQ (aC P id m aqueductlaw43_FrameAlls_14) Q) := rfl
def aqueductlaw43_FrameAlls_17l : List GI := [⟨none, .own 43 11⟩,
    ⟨none, .mv (some 44) (.r 2)⟩,
    ⟨none, .x (some 45) (.appB (.r 43) 1 1 (.r 44))⟩,
    ⟨none, .own 11 45⟩]
def aqueductlaw43_FrameAlls_17 : AC := .ops [3, 4, 11] [] aqueductlaw43_FrameAlls_17l
theorem aqueductlaw43_FrameAlls_17e : aC P id m aqueductlaw43_FrameAlls_17 sf st Q = runI P id m aqueductlaw43_FrameAlls_17l (opsK [3, 4, 11] [] Q) sf st := rfl
def aqueductlaw43_FrameAlls_20l : List GI := [⟨none, .mv (some 46) (.r 11)⟩,
    ⟨none, .len (some 47) .sl (.r 46)⟩,
    ⟨none, .bin (some 48) .num .gtr (.r 47) (.c (.lit (.int .i64 0)))⟩]
def aqueductlaw43_FrameAlls_20 : AC := .ops [3, 4, 11, 48] [] aqueductlaw43_FrameAlls_20l
theorem aqueductlaw43_FrameAlls_20e : aC P id m aqueductlaw43_FrameAlls_20 sf st Q = runI P id m aqueductlaw43_FrameAlls_20l (opsK [3, 4, 11, 48] [] Q) sf st := rfl
def aqueductlaw43_FrameAlls_22h : List GI := [⟨none, .mv (some 49) (.r 11)⟩,
    ⟨none, .mv (some 50) (.r 3)⟩,
    ⟨none, .conv (some 51) (.int .i64) (.r 50)⟩,
    ⟨none, .mv (some 52) (.r 11)⟩,
    ⟨none, .len (some 53) .sl (.r 52)⟩,
    ⟨none, .bin (some 54) .num .rem (.r 51) (.r 53)⟩,
    ⟨none, .mv (some 55) (.r 11)⟩,
    ⟨none, .mv (some 56) (.r 3)⟩,
    ⟨none, .conv (some 57) (.int .i64) (.r 56)⟩,
    ⟨none, .mv (some 58) (.r 11)⟩,
    ⟨none, .len (some 59) .sl (.r 58)⟩,
    ⟨none, .bin (some 60) .num .rem (.r 57) (.r 59)⟩,
    ⟨none, .ixS (some 61) (.r 55) (.r 60) 1⟩,
    ⟨none, .load (some 62) (.r 61) none⟩,
    ⟨none, .mv (some 63) (.r 4)⟩,
    ⟨none, .bin (some 64) .num .xor (.r 62) (.r 63)⟩]
def aqueductlaw43_FrameAlls_22l : List GI := [⟨none, .ixS (some 65) (.r 49) (.r 54) 1⟩,
    ⟨none, .store 1 (.r 65) (.r 64)⟩]
def aqueductlaw43_FrameAlls_22 : AC := .draw [11] [] [] aqueductlaw43_FrameAlls_22h aqueductlaw43_FrameAlls_22l
theorem aqueductlaw43_FrameAlls_22e : aC P id m aqueductlaw43_FrameAlls_22 sf st Q = headI P id sf.locs st aqueductlaw43_FrameAlls_22h (tailK P id m [] [11] [] aqueductlaw43_FrameAlls_22l Q st) [] ⟨sf.regs, dropL [] sf.locs⟩ := rfl
def aqueductlaw43_FrameAlls_21 : AC := .cond (.r 48) aqueductlaw43_FrameAlls_22 .skip
theorem aqueductlaw43_FrameAlls_21e : aC P id m aqueductlaw43_FrameAlls_21 sf st Q = condI (.r 48) (sf.ev id (.r 48)) (aC P id m aqueductlaw43_FrameAlls_22) (aC P id m .skip) sf st Q := rfl
def aqueductlaw43_FrameAlls_19 : AC := .seq aqueductlaw43_FrameAlls_20 aqueductlaw43_FrameAlls_21
theorem aqueductlaw43_FrameAlls_19e : aC P id m aqueductlaw43_FrameAlls_19 sf st Q = aC P id m aqueductlaw43_FrameAlls_20 sf st (seqQ (aC P id m aqueductlaw43_FrameAlls_21) Q) := rfl
def aqueductlaw43_FrameAlls_24l : List GI := [⟨none, .mv (some 67) (.r 11)⟩,
    ⟨none, .app (some 68) 1 1 (.c (.lit (.slice none 0 0))) (.r 67)⟩,
    ⟨none, .call (some 69) false (.f 16) [(.r 68)]⟩,
    ⟨none, .mv (some 66) (.r 69)⟩,
    ⟨none, .ext (some 70) (.r 66) 0⟩,
    ⟨none, .ext (some 71) (.r 66) 1⟩,
    ⟨none, .ext (some 72) (.r 66) 2⟩,
    ⟨none, .own 12 70⟩,
    ⟨none, .own 13 71⟩,
    ⟨none, .own 14 72⟩]
def aqueductlaw43_FrameAlls_24 : AC := .ops [11, 12, 13, 14] [] aqueductlaw43_FrameAlls_24l
theorem aqueductlaw43_FrameAlls_24e : aC P id m aqueductlaw43_FrameAlls_24 sf st Q = runI P id m aqueductlaw43_FrameAlls_24l (opsK [11, 12, 13, 14] [] Q) sf st := rfl
def aqueductlaw43_FrameAlls_26l : List GI := [⟨none, .mv (some 74) (.r 11)⟩,
    ⟨none, .call (some 75) false (.f 17) [(.r 74)]⟩,
    ⟨none, .mv (some 73) (.r 75)⟩,
    ⟨none, .ext (some 76) (.r 73) 0⟩,
    ⟨none, .ext (some 77) (.r 73) 1⟩,
    ⟨none, .ext (some 78) (.r 73) 2⟩,
    ⟨none, .own 15 76⟩,
    ⟨none, .own 16 77⟩,
    ⟨none, .own 17 78⟩]
def aqueductlaw43_FrameAlls_26 : AC := .ops [12, 13, 14, 15, 16, 17] [] aqueductlaw43_FrameAlls_26l
theorem aqueductlaw43_FrameAlls_26e : aC P id m aqueductlaw43_FrameAlls_26 sf st Q = runI P id m aqueductlaw43_FrameAlls_26l (opsK [12, 13, 14, 15, 16, 17] [] Q) sf st := rfl
def aqueductlaw43_FrameAlls_28l : List GI := [⟨none, .mv (some 79) (.r 12)⟩,
    ⟨none, .mv (some 80) (.r 15)⟩,
    ⟨none, .call (some 81) false (.f 18) [(.r 79), (.r 80)]⟩,
    ⟨none, .mv (some 82) (.r 81)⟩,
    ⟨some (82, true), .mv (some 83) (.r 13)⟩,
    ⟨some (82, true), .mv (some 84) (.r 16)⟩,
    ⟨some (82, true), .bin (some 85) .num .eql (.r 83) (.r 84)⟩,
    ⟨none, .pick (some 86) (.r 82) (.r 85) (.c (.lit (.bool false)))⟩,
    ⟨none, .mv (some 87) (.r 86)⟩,
    ⟨some (87, true), .mv (some 88) (.r 14)⟩,
    ⟨some (87, true), .mv (some 89) (.r 17)⟩,
    ⟨some (87, true), .bin (some 90) .num .eql (.r 88) (.r 89)⟩,
    ⟨none, .pick (some 91) (.r 87) (.r 90) (.c (.lit (.bool false)))⟩,
    ⟨none, .mv (some 92) (.r 91)⟩,
    ⟨some (92, true), .call (some 93) false (.f 14) []⟩,
    ⟨none, .pick (some 94) (.r 92) (.r 93) (.c (.lit (.bool false)))⟩,
    ⟨none, .own 10 94⟩]
def aqueductlaw43_FrameAlls_28 : AC := .ops [10] [] aqueductlaw43_FrameAlls_28l
theorem aqueductlaw43_FrameAlls_28e : aC P id m aqueductlaw43_FrameAlls_28 sf st Q = runI P id m aqueductlaw43_FrameAlls_28l (opsK [10] [] Q) sf st := rfl
def aqueductlaw43_FrameAlls_27 : AC := .seq aqueductlaw43_FrameAlls_28 .ret
theorem aqueductlaw43_FrameAlls_27e : aC P id m aqueductlaw43_FrameAlls_27 sf st Q = aC P id m aqueductlaw43_FrameAlls_28 sf st (seqQ (aC P id m .ret) Q) := rfl
def aqueductlaw43_FrameAlls_25 : AC := .seq aqueductlaw43_FrameAlls_26 aqueductlaw43_FrameAlls_27
theorem aqueductlaw43_FrameAlls_25e : aC P id m aqueductlaw43_FrameAlls_25 sf st Q = aC P id m aqueductlaw43_FrameAlls_26 sf st (seqQ (aC P id m aqueductlaw43_FrameAlls_27) Q) := rfl
def aqueductlaw43_FrameAlls_23 : AC := .seq aqueductlaw43_FrameAlls_24 aqueductlaw43_FrameAlls_25
theorem aqueductlaw43_FrameAlls_23e : aC P id m aqueductlaw43_FrameAlls_23 sf st Q = aC P id m aqueductlaw43_FrameAlls_24 sf st (seqQ (aC P id m aqueductlaw43_FrameAlls_25) Q) := rfl
def aqueductlaw43_FrameAlls_18 : AC := .seq aqueductlaw43_FrameAlls_19 aqueductlaw43_FrameAlls_23
theorem aqueductlaw43_FrameAlls_18e : aC P id m aqueductlaw43_FrameAlls_18 sf st Q = aC P id m aqueductlaw43_FrameAlls_19 sf st (seqQ (aC P id m aqueductlaw43_FrameAlls_23) Q) := rfl
def aqueductlaw43_FrameAlls_16 : AC := .seq aqueductlaw43_FrameAlls_17 aqueductlaw43_FrameAlls_18
theorem aqueductlaw43_FrameAlls_16e : aC P id m aqueductlaw43_FrameAlls_16 sf st Q = aC P id m aqueductlaw43_FrameAlls_17 sf st (seqQ (aC P id m aqueductlaw43_FrameAlls_18) Q) := rfl
def aqueductlaw43_FrameAlls_11 : AC := .seq aqueductlaw43_FrameAlls_12 aqueductlaw43_FrameAlls_16
theorem aqueductlaw43_FrameAlls_11e : aC P id m aqueductlaw43_FrameAlls_11 sf st Q = aC P id m aqueductlaw43_FrameAlls_12 sf st (seqQ (aC P id m aqueductlaw43_FrameAlls_16) Q) := rfl
def aqueductlaw43_FrameAlls_9 : AC := .seq aqueductlaw43_FrameAlls_10 aqueductlaw43_FrameAlls_11
theorem aqueductlaw43_FrameAlls_9e : aC P id m aqueductlaw43_FrameAlls_9 sf st Q = aC P id m aqueductlaw43_FrameAlls_10 sf st (seqQ (aC P id m aqueductlaw43_FrameAlls_11) Q) := rfl
def aqueductlaw43_FrameAlls_3 : AC := .seq aqueductlaw43_FrameAlls_4 aqueductlaw43_FrameAlls_9
theorem aqueductlaw43_FrameAlls_3e : aC P id m aqueductlaw43_FrameAlls_3 sf st Q = aC P id m aqueductlaw43_FrameAlls_4 sf st (seqQ (aC P id m aqueductlaw43_FrameAlls_9) Q) := rfl
def aqueductlaw43_FrameAlls_1 : AC := .seq aqueductlaw43_FrameAlls_2 aqueductlaw43_FrameAlls_3
theorem aqueductlaw43_FrameAlls_1e : aC P id m aqueductlaw43_FrameAlls_1 sf st Q = aC P id m aqueductlaw43_FrameAlls_2 sf st (seqQ (aC P id m aqueductlaw43_FrameAlls_3) Q) := rfl
def c_aqueductlaw43_FrameAlls : AFun := ⟨95, [.tmp 10], aqueductlaw43_FrameAlls_1⟩
theorem k_aqueductlaw43_FrameAlls : compF Go.Proofs.Try.prog x_aqueductlaw43_FrameAlls 3 = some c_aqueductlaw43_FrameAlls := by kernel_rfl
theorem e_aqueductlaw43_FrameAlls : enterB Go.Proofs.Try.prog 3 = true := by kernel_rfl

def n_aqueductlaw43_FrameEncodes : Nat := 4
def x_aqueductlaw43_FrameEncodes : Cx := ⟨some, id, 132, fun s => ([0, 2, 3, 4, 5, 6, 7, 8, 9, 10, 11, 12, 14, 15, 16, 17, 19, 20, 22, 25, 26, 27, 29, 32, 33, 34, 35, 36, 37, 38, 39, 41, 42, 43, 44, 45, 46, 48, 49, 50, 51, 52, 54, 56, 57, 58, 59, 60, 61, 62, 63, 65, 68, 69, 70, 72, 73, 74, 76, 77, 79, 81, 83, 84, 86, 87, 89, 92, 93, 95, 97, 99, 100, 101, 102, 103, 104, 105, 106, 107, 108, 110, 111, 112, 113, 114, 115, 116, 117, 118, 119, 120, 121, 122, 123, 124, 125, 126, 127, 128, 129, 130, 131] : List Nat).contains s, fun s => ([6, 36, 78] : List Nat).contains s, msOf [(2, [0], []), (12, [0, 13], []), (52, [2], []), (14, [0, 3], []), (60, [0, 3, 4], []), (122, [0, 3, 4], []), (976, [0, 3, 4, 18], []), (1955, [0, 3], []), (3912, [0, 3, 4, 5], []), (7826, [0, 3, 4, 5, 6, 7], []), (31308, [0, 3, 4, 5, 6, 7, 40], []), (250472, [0, 3, 4, 47], []), (1001892, [2], []), (125237, [0, 3, 4], []), (62620, [0, 3, 4, 5, 6, 71], []), (250484, [2], []), (125244, [0, 3, 4, 5, 6, 8], []), (250490, [0, 3, 4, 5, 6, 8], []), (2003920, [0, 3, 4, 5, 6, 8, 75], []), (4007843, [0, 3, 4, 5], []), (4007844, [0, 3, 4, 5, 6, 8], []), (2003923, [0, 3, 4, 5, 6, 8], []), (250492, [0, 3, 4, 94], []), (1001972, [2], []), (125247, [0, 3, 4], []), (979, [0, 3, 4], []), (62, [0, 3, 9, 10], []), (252, [3, 9, 10, 109], []), (1012, [2], []), (254, [2], [])]⟩
def aqueductlaw43_FrameEncodes_2l : List GI := [⟨none, .mv (some 2) (.c (.lit (.bool false)))⟩]
def aqueductlaw43_FrameEncodes_2 : AC := .ops [0] [] aqueductlaw43_FrameEncodes_2l
theorem aqueductlaw43_FrameEncodes_2e : aC P id m aqueductlaw43_FrameEncodes_2 sf st Q = runI P id m aqueductlaw43_FrameEncodes_2l (opsK [0] [] Q) sf st := rfl
def aqueductlaw43_FrameEncodes_5l : List GI := [⟨none, .mv (some 11) (.r 0)⟩,
    ⟨none, .call (some 12) false (.f 19) [(.r 11)]⟩,
    ⟨none, .un (some 13) .not (.r 12)⟩]
def aqueductlaw43_FrameEncodes_5 : AC := .ops [0, 13] [] aqueductlaw43_FrameEncodes_5l
theorem aqueductlaw43_FrameEncodes_5e : aC P id m aqueductlaw43_FrameEncodes_5 sf st Q = runI P id m aqueductlaw43_FrameEncodes_5l (opsK [0, 13] [] Q) sf st := rfl
def aqueductlaw43_FrameEncodes_8l : List GI := [⟨none, .call (some 14) false (.f 14) []⟩,
    ⟨none, .own 2 14⟩]
def aqueductlaw43_FrameEncodes_8 : AC := .ops [2] [] aqueductlaw43_FrameEncodes_8l
theorem aqueductlaw43_FrameEncodes_8e : aC P id m aqueductlaw43_FrameEncodes_8 sf st Q = runI P id m aqueductlaw43_FrameEncodes_8l (opsK [2] [] Q) sf st := rfl
def aqueductlaw43_FrameEncodes_7 : AC := .seq aqueductlaw43_FrameEncodes_8 .ret
theorem aqueductlaw43_FrameEncodes_7e : aC P id m aqueductlaw43_FrameEncodes_7 sf st Q = aC P id m aqueductlaw43_FrameEncodes_8 sf st (seqQ (aC P id m .ret) Q) := rfl
def aqueductlaw43_FrameEncodes_6 : AC := .cond (.r 13) aqueductlaw43_FrameEncodes_7 .skip
theorem aqueductlaw43_FrameEncodes_6e : aC P id m aqueductlaw43_FrameEncodes_6 sf st Q = condI (.r 13) (sf.ev id (.r 13)) (aC P id m aqueductlaw43_FrameEncodes_7) (aC P id m .skip) sf st Q := rfl
def aqueductlaw43_FrameEncodes_4 : AC := .seq aqueductlaw43_FrameEncodes_5 aqueductlaw43_FrameEncodes_6
theorem aqueductlaw43_FrameEncodes_4e : aC P id m aqueductlaw43_FrameEncodes_4 sf st Q = aC P id m aqueductlaw43_FrameEncodes_5 sf st (seqQ (aC P id m aqueductlaw43_FrameEncodes_6) Q) := rfl
def aqueductlaw43_FrameEncodes_10l : List GI := [⟨none, .mv (some 3) (.c (.lit (.slice none 0 0)))⟩]
def aqueductlaw43_FrameEncodes_10 : AC := .ops [0, 3] [] aqueductlaw43_FrameEncodes_10l
theorem aqueductlaw43_FrameEncodes_10e : aC P id m aqueductlaw43_FrameEncodes_10 sf st Q = runI P id m aqueductlaw43_FrameEncodes_10l (opsK [0, 3] [] Q) sf st := rfl
def aqueductlaw43_FrameEncodes_13l : List GI := [⟨none, .mv (some 4) (.c (.lit (.int .i64 0)))⟩]
def aqueductlaw43_FrameEncodes_13 : AC := .ops [0, 3, 4] [] aqueductlaw43_FrameEncodes_13l
theorem aqueductlaw43_FrameEncodes_13e : aC P id m aqueductlaw43_FrameEncodes_13 sf st Q = runI P id m aqueductlaw43_FrameEncodes_13l (opsK [0, 3, 4] [] Q) sf st := rfl
def aqueductlaw43_FrameEncodes_18l : List GI := [⟨none, .mv (some 15) (.r 4)⟩,
    ⟨none, .mv (some 16) (.r 0)⟩,
    ⟨none, .len (some 17) .sl (.r 16)⟩,
    ⟨none, .bin (some 18) .num .lss (.r 15) (.r 17)⟩]
def aqueductlaw43_FrameEncodes_18 : AC := .ops [0, 3, 4, 18] [] aqueductlaw43_FrameEncodes_18l
theorem aqueductlaw43_FrameEncodes_18e : aC P id m aqueductlaw43_FrameEncodes_18 sf st Q = runI P id m aqueductlaw43_FrameEncodes_18l (opsK [0, 3, 4, 18] [] Q) sf st := rfl
def aqueductlaw43_FrameEncodes_19 : AC := .cond (.r 18) .skip (.exit [0, 3] [] 0)
theorem aqueductlaw43_FrameEncodes_19e : aC P id m aqueductlaw43_FrameEncodes_19 sf st Q = condI (.r 18) (sf.ev id (.r 18)) (aC P id m .skip) (aC P id m (.exit [0, 3] [] 0)) sf st Q := rfl
def aqueductlaw43_FrameEncodes_17 : AC := .seq aqueductlaw43_FrameEncodes_18 aqueductlaw43_FrameEncodes_19
theorem aqueductlaw43_FrameEncodes_17e : aC P id m aqueductlaw43_FrameEncodes_17 sf st Q = aC P id m aqueductlaw43_FrameEncodes_18 sf st (seqQ (aC P id m aqueductlaw43_FrameEncodes_19) Q) := rfl
def aqueductlaw43_FrameEncodes_23l : List GI := [⟨none, .mv (some 21) (.r 0)⟩,
    ⟨none, .mv (some 22) (.r 4)⟩,
    ⟨none, .ixS (some 23) (.r 21) (.r 22) 2⟩,
    ⟨none, .addr (some 24) (.r 23) 1⟩,
    ⟨none, .load (some 25) (.r 24) none⟩,
    ⟨none, .app (some 26) 1 1 (.c (.lit (.slice none 0 0))) (.r 25)⟩,
    ⟨none, .own 5 26⟩]
def aqueductlaw43_FrameEncodes_23 : AC := .ops [0, 3, 4, 5] [] aqueductlaw43_FrameEncodes_23l
theorem aqueductlaw43_FrameEncodes_23e : aC P id m aqueductlaw43_FrameEncodes_23 sf st Q = runI P id m aqueductlaw43_FrameEncodes_23l (opsK [0, 3, 4, 5] [] Q) sf st := rfl
def aqueductlaw43_FrameEncodes_25l : List GI := [⟨none, .mv (some 28) (.r 0)⟩,
    ⟨none, .mv (some 29) (.r 4)⟩,
    ⟨none, .ixS (some 30) (.r 28) (.r 29) 2⟩,
    ⟨none, .addr (some 31) (.r 30) 0⟩,
    ⟨none, .load (some 32) (.r 31) none⟩,
    ⟨none, .mv (some 33) (.r 5)⟩,
    ⟨none, .bst (some 34) [(0, 1), (1, 1)] (.agg [(.lit (.int .u8 0)), (.lit (.slice none 0 0))]) [(0, (.r 32)), (1, (.r 33))]⟩,
    ⟨none, .call (some 35) false (.f 20) [(.r 34)]⟩,
    ⟨none, .mv (some 27) (.r 35)⟩,
    ⟨none, .ext (some 36) (.r 27) 0⟩,
    ⟨none, .ext (some 37) (.r 27) 1⟩,
    ⟨none, .own 6 36⟩,
    ⟨none, .own 7 37⟩]
def aqueductlaw43_FrameEncodes_25 : AC := .ops [0, 3, 4, 5, 6, 7] [] aqueductlaw43_FrameEncodes_25l
theorem aqueductlaw43_FrameEncodes_25e : aC P id m aqueductlaw43_FrameEncodes_25 sf st Q = runI P id m aqueductlaw43_FrameEncodes_25l (opsK [0, 3, 4, 5, 6, 7] [] Q) sf st := rfl
def aqueductlaw43_FrameEncodes_28l : List GI := [⟨none, .mv (some 38) (.r 5)⟩,
    ⟨none, .len (some 39) .sl (.r 38)⟩,
    ⟨none, .bin (some 40) .num .gtr (.r 39) (.c (.lit (.int .i64 1024)))⟩]
def aqueductlaw43_FrameEncodes_28 : AC := .ops [0, 3, 4, 5, 6, 7, 40] [] aqueductlaw43_FrameEncodes_28l
theorem aqueductlaw43_FrameEncodes_28e : aC P id m aqueductlaw43_FrameEncodes_28 sf st Q = runI P id m aqueductlaw43_FrameEncodes_28l (opsK [0, 3, 4, 5, 6, 7, 40] [] Q) sf st := rfl
def aqueductlaw43_FrameEncodes_32l : List GI := [⟨none, .mv (some 41) (.r 6)⟩,
    ⟨none, .len (some 42) .sl (.r 41)⟩,
    ⟨none, .bin (some 43) .num .neq (.r 42) (.c (.lit (.int .i64 0)))⟩,
    ⟨none, .mv (some 44) (.r 43)⟩,
    ⟨some (44, false), .mv (some 45) (.r 7)⟩,
    ⟨some (44, false), .bin (some 46) .num .neq (.r 45) (.c (.lit (.int .i64 5)))⟩,
    ⟨none, .pick (some 47) (.r 44) (.c (.lit (.bool true))) (.r 46)⟩]
def aqueductlaw43_FrameEncodes_32 : AC := .ops [0, 3, 4, 47] [] aqueductlaw43_FrameEncodes_32l
theorem aqueductlaw43_FrameEncodes_32e : aC P id m aqueductlaw43_FrameEncodes_32 sf st Q = runI P id m aqueductlaw43_FrameEncodes_32l (opsK [0, 3, 4, 47] [] Q) sf st := rfl
def aqueductlaw43_FrameEncodes_35l : List GI := [⟨none, .mv (some 2) (.c (.lit (.bool false)))⟩]
def aqueductlaw43_FrameEncodes_35 : AC := .ops [2] [] aqueductlaw43_FrameEncodes_35l
theorem aqueductlaw43_FrameEncodes_35e : aC P id m aqueductlaw43_FrameEncodes_35 sf st Q = runI P id m aqueductlaw43_FrameEncodes_35l (opsK [2] [] Q) sf st := rfl
def aqueductlaw43_FrameEncodes_34 : AC := .seq aqueductlaw43_FrameEncodes_35 .ret
theorem aqueductlaw43_FrameEncodes_34e : aC P id m aqueductlaw43_FrameEncodes_34 sf st Q = aC P id m aqueductlaw43_FrameEncodes_35 sf st (seqQ (aC P id m .ret) Q) := rfl
def aqueductlaw43_FrameEncodes_33 : AC := .cond (.r 47) aqueductlaw43_FrameEncodes_34 .skip
theorem aqueductlaw43_FrameEncodes_33e : aC P id m aqueductlaw43_FrameEncodes_33 sf st Q = condI (.r 47) (sf.ev id (.r 47)) (aC P id m aqueductlaw43_FrameEncodes_34) (aC P id m .skip) sf st Q := rfl
def aqueductlaw43_FrameEncodes_31 : AC := .seq aqueductlaw43_FrameEncodes_32 aqueductlaw43_FrameEncodes_33
theorem aqueductlaw43_FrameEncodes_31e : aC P id m aqueductlaw43_FrameEncodes_31 sf st Q = aC P id m aqueductlaw43_FrameEncodes_32 sf st (seqQ (aC P id m aqueductlaw43_FrameEncodes_33) Q) := rfl
def aqueductlaw43_FrameEncodes_30 : AC := .seq aqueductlaw43_FrameEncodes_31 (.exit [0, 3, 4] [] 1)
theorem aqueductlaw43_FrameEncodes_30e : aC P id m aqueductlaw43_FrameEncodes_30 sf st Q = aC P id m aqueductlaw43_FrameEncodes_31 sf st (seqQ (aC P id m (.exit [0, 3, 4] [] 1)) Q) := rfl
def aqueductlaw43_FrameEncodes_29 : AC := .cond (.r 40) aqueductlaw43_FrameEncodes_30 .skip
theorem aqueductlaw43_FrameEncodes_29e : aC P id m aqueductlaw43_FrameEncodes_29 sf st Q = condI (.r 40) (sf.ev id (.r 40)) (aC P id m aqueductlaw43_FrameEncodes_30) (aC P id m .skip) sf st Q := rfl
def aqueductlaw43_FrameEncodes_27 : AC := .seq aqueductlaw43_FrameEncodes_28 aqueductlaw43_FrameEncodes_29
theorem aqueductlaw43_FrameEncodes_27e : aC P id m aqueductlaw43_FrameEncodes_27 sf st Q = aC P id m aqueductlaw43_FrameEncodes_28 sf st (seqQ (aC P id m aqueductlaw43_FrameEncodes_29) Q) := rfl
def aqueductlaw43_FrameEncodes_38h : List GI := [⟨none, .mv (some 48) (.r 7)⟩,
    ⟨none, .bin (some 49) .num .neq (.r 48) (.c (.lit (.int .i64 0)))⟩,
    ⟨none, .mv (some 50) (.r 49)⟩,
    ⟨some (50, false), .mv (some 51) (.r 6)⟩,
    ⟨some (50, false), .conv (some 52) .bs (.r 51)⟩,
    ⟨some (50, false), .mv (some 53) (.r 0)⟩,
    ⟨some (50, false), .mv (some 54) (.r 4)⟩,
    ⟨some (50, false), .ixS (some 55) (.r 53) (.r 54) 2⟩,
    ⟨some (50, false), .load (some 56) (.r 55) (some 2)⟩,
    ⟨some (50, false), .call (some 57) true (.f 15) [(.r 56)]⟩,
    ⟨some (50, false), .conv (some 58) .bs (.r 57)⟩,
    ⟨some (50, false), .bin (some 59) .num .neq (.r 52) (.r 58)⟩,
    ⟨none, .pick (some 60) (.r 50) (.c (.lit (.bool true))) (.r 59)⟩,
    ⟨none, .mv (some 61) (.r 60)⟩,
    ⟨some (61, false), .mv (some 62) (.r 5)⟩,
    ⟨some (61, false), .conv (some 63) .bs (.r 62)⟩,
    ⟨some (61, false), .mv (some 64) (.r 0)⟩,
    ⟨some (61, false), .mv (some 65) (.r 4)⟩,
    ⟨some (61, false), .ixS (some 66) (.r 64) (.r 65) 2⟩,
    ⟨some (61, false), .addr (some 67) (.r 66) 1⟩,
    ⟨some (61, false), .load (some 68) (.r 67) none⟩,
    ⟨some (61, false), .conv (some 69) .bs (.r 68)⟩]
def aqueductlaw43_FrameEncodes_38l : List GI := [⟨some (61, false), .bin (some 70) .num .neq (.r 63) (.r 69)⟩,
    ⟨none, .pick (some 71) (.r 61) (.c (.lit (.bool true))) (.r 70)⟩]
def aqueductlaw43_FrameEncodes_38 : AC := .draw [0, 3, 4, 5, 6, 71] [] [] aqueductlaw43_FrameEncodes_38h aqueductlaw43_FrameEncodes_38l
theorem aqueductlaw43_FrameEncodes_38e : aC P id m aqueductlaw43_FrameEncodes_38 sf st Q = headI P id sf.locs st aqueductlaw43_FrameEncodes_38h (tailK P id m [] [0, 3, 4, 5, 6, 71] [] aqueductlaw43_FrameEncodes_38l Q st) [] ⟨sf.regs, dropL [] sf.locs⟩ := rfl
def aqueductlaw43_FrameEncodes_41l : List GI := [⟨none, .mv (some 2) (.c (.lit (.bool false)))⟩]
def aqueductlaw43_FrameEncodes_41 : AC := .ops [2] [] aqueductlaw43_FrameEncodes_41l
theorem aqueductlaw43_FrameEncodes_41e : aC P id m aqueductlaw43_FrameEncodes_41 sf st Q = runI P id m aqueductlaw43_FrameEncodes_41l (opsK [2] [] Q) sf st := rfl
def aqueductlaw43_FrameEncodes_40 : AC := .seq aqueductlaw43_FrameEncodes_41 .ret
theorem aqueductlaw43_FrameEncodes_40e : aC P id m aqueductlaw43_FrameEncodes_40 sf st Q = aC P id m aqueductlaw43_FrameEncodes_41 sf st (seqQ (aC P id m .ret) Q) := rfl
def aqueductlaw43_FrameEncodes_39 : AC := .cond (.r 71) aqueductlaw43_FrameEncodes_40 .skip
theorem aqueductlaw43_FrameEncodes_39e : aC P id m aqueductlaw43_FrameEncodes_39 sf st Q = condI (.r 71) (sf.ev id (.r 71)) (aC P id m aqueductlaw43_FrameEncodes_40) (aC P id m .skip) sf st Q := rfl
def aqueductlaw43_FrameEncodes_37 : AC := .seq aqueductlaw43_FrameEncodes_38 aqueductlaw43_FrameEncodes_39
theorem aqueductlaw43_FrameEncodes_37e : aC P id m aqueductlaw43_FrameEncodes_37 sf st Q = aC P id m aqueductlaw43_FrameEncodes_38 sf st (seqQ (aC P id m aqueductlaw43_FrameEncodes_39) Q) := rfl
def aqueductlaw43_FrameEncodes_44l : List GI := [⟨none, .mv (some 8) (.c (.lit (.int .i64 0)))⟩]
def aqueductlaw43_FrameEncodes_44 : AC := .ops [0, 3, 4, 5, 6, 8] [] aqueductlaw43_FrameEncodes_44l
theorem aqueductlaw43_FrameEncodes_44e : aC P id m aqueductlaw43_FrameEncodes_44 sf st Q = runI P id m aqueductlaw43_FrameEncodes_44l (opsK [0, 3, 4, 5, 6, 8] [] Q) sf st := rfl
def aqueductlaw43_FrameEncodes_49l : List GI := [⟨none, .mv (some 72) (.r 8)⟩,
    ⟨none, .mv (some 73) (.r 6)⟩,
    ⟨none, .len (some 74) .sl (.r 73)⟩,
    ⟨none, .bin (some 75) .num .lss (.r 72) (.r 74)⟩]
def aqueductlaw43_FrameEncodes_49 : AC := .ops [0, 3, 4, 5, 6, 8, 75] [] aqueductlaw43_FrameEncodes_49l
theorem aqueductlaw43_FrameEncodes_49e : aC P id m aqueductlaw43_FrameEncodes_49 sf st Q = runI P id m aqueductlaw43_FrameEncodes_49l (opsK [0, 3, 4, 5, 6, 8, 75] [] Q) sf st := rfl
def aqueductlaw43_FrameEncodes_50 : AC := .cond (.r 75) .skip (.exit [0, 3, 4, 5] [] 2)
theorem aqueductlaw43_FrameEncodes_50e : aC P id m aqueductlaw43_FrameEncodes_50 sf st Q = condI (.r 75) (sf.ev id (.r 75)) (aC P id m .skip) (aC P id m (.exit [0, 3, 4, 5] [] 2)) sf st Q := rfl
def aqueductlaw43_FrameEncodes_48 : AC := .seq aqueductlaw43_FrameEncodes_49 aqueductlaw43_FrameEncodes_50
theorem aqueductlaw43_FrameEncodes_48e : aC P id m aqueductlaw43_FrameEncodes_48 sf st Q = aC P id m aqueductlaw43_FrameEncodes_49 sf st (seqQ (aC P id m aqueductlaw43_FrameEncodes_50) Q) := rfl
def aqueductlaw43_FrameEncodes_53l : List GI := [⟨none, .mv (some 78) (.r 6)⟩,
    ⟨none, .mv (some 79) (.r 8)⟩,
    ⟨none, .mv (some 80) (.r 6)⟩,
    ⟨none, .mv (some 81) (.r 8)⟩,
    ⟨none, .ixS (some 82) (.r 80) (.r 81) 1⟩,
    ⟨none, .load (some 83) (.r 82) none⟩,
    ⟨none, .un (some 84) .xor (.r 83)⟩,
    ⟨none, .ixS (some 85) (.r 78) (.r 79) 1⟩,
    ⟨none, .store 1 (.r 85) (.r 84)⟩]
def aqueductlaw43_FrameEncodes_53 : AC := .ops [0, 3, 4, 5, 6, 8] [] aqueductlaw43_FrameEncodes_53l
theorem aqueductlaw43_FrameEncodes_53e : aC P id m aqueductlaw43_FrameEncodes_53 sf st Q = runI P id m aqueductlaw43_FrameEncodes_53l (opsK [0, 3, 4, 5, 6, 8] [] Q) sf st := rfl
def aqueductlaw43_FrameEncodes_52 : AC := .block 3 aqueductlaw43_FrameEncodes_53
theorem aqueductlaw43_FrameEncodes_52e : aC P id m aqueductlaw43_FrameEncodes_52 sf st Q = aC P id m aqueductlaw43_FrameEncodes_53 sf st (blockQ 3 Q) := rfl
def aqueductlaw43_FrameEncodes_54l : List GI := [⟨none, .mv (some 76) (.r 8)⟩,
    ⟨none, .bin (some 77) .num .add (.r 76) (.c (.lit (.int .i64 1)))⟩,
    ⟨none, .own 8 77⟩]
def aqueductlaw43_FrameEncodes_54 : AC := .ops [0, 3, 4, 5, 6, 8] [] aqueductlaw43_FrameEncodes_54l
theorem aqueductlaw43_FrameEncodes_54e : aC P id m aqueductlaw43_FrameEncodes_54 sf st Q = runI P id m aqueductlaw43_FrameEncodes_54l (opsK [0, 3, 4, 5, 6, 8] [] Q) sf st := rfl
def aqueductlaw43_FrameEncodes_51 : AC := .seq aqueductlaw43_FrameEncodes_52 aqueductlaw43_FrameEncodes_54
theorem aqueductlaw43_FrameEncodes_51e : aC P id m aqueductlaw43_FrameEncodes_51 sf st Q = aC P id m aqueductlaw43_FrameEncodes_52 sf st (seqQ (aC P id m aqueductlaw43_FrameEncodes_54) Q) := rfl
def aqueductlaw43_FrameEncodes_47 : AC := .seq aqueductlaw43_FrameEncodes_48 aqueductlaw43_FrameEncodes_51
theorem aqueductlaw43_FrameEncodes_47e : aC P id m aqueductlaw43_FrameEncodes_47 sf st Q = aC P id m aqueductlaw43_FrameEncodes_48 sf st (seqQ (aC P id m aqueductlaw43_FrameEncodes_51) Q) := rfl
def aqueductlaw43_FrameEncodes_46 : AC := .loop [0, 3, 4, 5, 6, 8] [] aqueductlaw43_FrameEncodes_47
theorem aqueductlaw43_FrameEncodes_46w : aC P id m aqueductlaw43_FrameEncodes_46 sf st Q = loopI (aC P id m aqueductlaw43_FrameEncodes_47) [0, 3, 4, 5, 6, 8] [] sf st Q := rfl
def aqueductlaw43_FrameEncodes_45 : AC := .block 2 aqueductlaw43_FrameEncodes_46
theorem aqueductlaw43_FrameEncodes_45e : aC P id m aqueductlaw43_FrameEncodes_45 sf st Q = aC P id m aqueductlaw43_FrameEncodes_46 sf st (blockQ 2 Q) := rfl
def aqueductlaw43_FrameEncodes_43 : AC := .seq aqueductlaw43_FrameEncodes_44 aqueductlaw43_FrameEncodes_45
theorem aqueductlaw43_FrameEncodes_43e : aC P id m aqueductlaw43_FrameEncodes_43 sf st Q = aC P id m aqueductlaw43_FrameEncodes_44 sf st (seqQ (aC P id m aqueductlaw43_FrameEncodes_45) Q) := rfl
def aqueductlaw43_FrameEncodes_57h : List GI := [⟨none, .mv (some 86) (.r 5)⟩,
    ⟨none, .conv (some 87) .bs (.r 86)⟩,
    ⟨none, .mv (some 88) (.r 0)⟩,
    ⟨none, .mv (some 89) (.r 4)⟩,
    ⟨none, .ixS (some 90) (.r 88) (.r 89) 2⟩,
    ⟨none, .addr (some 91) (.r 90) 1⟩,
    ⟨none, .load (some 92) (.r 91) none⟩,
    ⟨none, .conv (some 93) .bs (.r 92)⟩]
def aqueductlaw43_FrameEncodes_57l : List GI := [⟨none, .bin (some 94) .num .neq (.r 87) (.r 93)⟩]
def aqueductlaw43_FrameEncodes_57 : AC := .draw [0, 3, 4, 94] [] [] aqueductlaw43_FrameEncodes_57h aqueductlaw43_FrameEncodes_57l
theorem aqueductlaw43_FrameEncodes_57e : aC P id m aqueductlaw43_FrameEncodes_57 sf st Q = headI P id sf.locs st aqueductlaw43_FrameEncodes_57h (tailK P id m [] [0, 3, 4, 94] [] aqueductlaw43_FrameEncodes_57l Q st) [] ⟨sf.regs, dropL [] sf.locs⟩ := rfl
def aqueductlaw43_FrameEncodes_60l : List GI := [⟨none, .mv (some 2) (.c (.lit (.bool false)))⟩]
def aqueductlaw43_FrameEncodes_60 : AC := .ops [2] [] aqueductlaw43_FrameEncodes_60l
theorem aqueductlaw43_FrameEncodes_60e : aC P id m aqueductlaw43_FrameEncodes_60 sf st Q = runI P id m aqueductlaw43_FrameEncodes_60l (opsK [2] [] Q) sf st := rfl
def aqueductlaw43_FrameEncodes_59 : AC := .seq aqueductlaw43_FrameEncodes_60 .ret
theorem aqueductlaw43_FrameEncodes_59e : aC P id m aqueductlaw43_FrameEncodes_59 sf st Q = aC P id m aqueductlaw43_FrameEncodes_60 sf st (seqQ (aC P id m .ret) Q) := rfl
def aqueductlaw43_FrameEncodes_58 : AC := .cond (.r 94) aqueductlaw43_FrameEncodes_59 .skip
theorem aqueductlaw43_FrameEncodes_58e : aC P id m aqueductlaw43_FrameEncodes_58 sf st Q = condI (.r 94) (sf.ev id (.r 94)) (aC P id m aqueductlaw43_FrameEncodes_59) (aC P id m .skip) sf st Q := rfl
def aqueductlaw43_FrameEncodes_56 : AC := .seq aqueductlaw43_FrameEncodes_57 aqueductlaw43_FrameEncodes_58
theorem aqueductlaw43_FrameEncodes_56e : aC P id m aqueductlaw43_FrameEncodes_56 sf st Q = aC P id m aqueductlaw43_FrameEncodes_57 sf st (seqQ (aC P id m aqueductlaw43_FrameEncodes_58) Q) := rfl
def aqueductlaw43_FrameEncodes_61l : List GI := [⟨none, .own 95 3⟩,
    ⟨none, .mv (some 96) (.r 0)⟩,
    ⟨none, .mv (some 97) (.r 4)⟩,
    ⟨none, .ixS (some 98) (.r 96) (.r 97) 2⟩,
    ⟨none, .load (some 99) (.r 98) (some 2)⟩,
    ⟨none, .call (some 100) false (.f 15) [(.r 99)]⟩,
    ⟨none, .appS 101 95 1 1 (.r 100)⟩,
    ⟨none, .own 3 101⟩]
def aqueductlaw43_FrameEncodes_61 : AC := .ops [0, 3, 4] [] aqueductlaw43_FrameEncodes_61l
theorem aqueductlaw43_FrameEncodes_61e : aC P id m aqueductlaw43_FrameEncodes_61 sf st Q = runI P id m aqueductlaw43_FrameEncodes_61l (opsK [0, 3, 4] [] Q) sf st := rfl
def aqueductlaw43_FrameEncodes_55 : AC := .seq aqueductlaw43_FrameEncodes_56 aqueductlaw43_FrameEncodes_61
theorem aqueductlaw43_FrameEncodes_55e : aC P id m aqueductlaw43_FrameEncodes_55 sf st Q = aC P id m aqueductlaw43_FrameEncodes_56 sf st (seqQ (aC P id m aqueductlaw43_FrameEncodes_61) Q) := rfl
def aqueductlaw43_FrameEncodes_42 : AC := .seq aqueductlaw43_FrameEncodes_43 aqueductlaw43_FrameEncodes_55
theorem aqueductlaw43_FrameEncodes_42e : aC P id m aqueductlaw43_FrameEncodes_42 sf st Q = aC P id m aqueductlaw43_FrameEncodes_43 sf st (seqQ (aC P id m aqueductlaw43_FrameEncodes_55) Q) := rfl
def aqueductlaw43_FrameEncodes_36 : AC := .seq aqueductlaw43_FrameEncodes_37 aqueductlaw43_FrameEncodes_42
theorem aqueductlaw43_FrameEncodes_36e : aC P id m aqueductlaw43_FrameEncodes_36 sf st Q = aC P id m aqueductlaw43_FrameEncodes_37 sf st (seqQ (aC P id m aqueductlaw43_FrameEncodes_42) Q) := rfl
def aqueductlaw43_FrameEncodes_26 : AC := .seq aqueductlaw43_FrameEncodes_27 aqueductlaw43_FrameEncodes_36
theorem aqueductlaw43_FrameEncodes_26e : aC P id m aqueductlaw43_FrameEncodes_26 sf st Q = aC P id m aqueductlaw43_FrameEncodes_27 sf st (seqQ (aC P id m aqueductlaw43_FrameEncodes_36) Q) := rfl
def aqueductlaw43_FrameEncodes_24 : AC := .seq aqueductlaw43_FrameEncodes_25 aqueductlaw43_FrameEncodes_26
theorem aqueductlaw43_FrameEncodes_24e : aC P id m aqueductlaw43_FrameEncodes_24 sf st Q = aC P id m aqueductlaw43_FrameEncodes_25 sf st (seqQ (aC P id m aqueductlaw43_FrameEncodes_26) Q) := rfl
def aqueductlaw43_FrameEncodes_22 : AC := .seq aqueductlaw43_FrameEncodes_23 aqueductlaw43_FrameEncodes_24
theorem aqueductlaw43_FrameEncodes_22e : aC P id m aqueductlaw43_FrameEncodes_22 sf st Q = aC P id m aqueductlaw43_FrameEncodes_23 sf st (seqQ (aC P id m aqueductlaw43_FrameEncodes_24) Q) := rfl
def aqueductlaw43_FrameEncodes_21 : AC := .block 1 aqueductlaw43_FrameEncodes_22
theorem aqueductlaw43_FrameEncodes_21e : aC P id m aqueductlaw43_FrameEncodes_21 sf st Q = aC P id m aqueductlaw43_FrameEncodes_22 sf st (blockQ 1 Q) := rfl
def aqueductlaw43_FrameEncodes_62l : List GI := [⟨none, .mv (some 19) (.r 4)⟩,
    ⟨none, .bin (some 20) .num .add (.r 19) (.c (.lit (.int .i64 1)))⟩,
    ⟨none, .own 4 20⟩]
def aqueductlaw43_FrameEncodes_62 : AC := .ops [0, 3, 4] [] aqueductlaw43_FrameEncodes_62l
theorem aqueductlaw43_FrameEncodes_62e : aC P id m aqueductlaw43_FrameEncodes_62 sf st Q = runI P id m aqueductlaw43_FrameEncodes_62l (opsK [0, 3, 4] [] Q) sf st := rfl
def aqueductlaw43_FrameEncodes_20 : AC := .seq aqueductlaw43_FrameEncodes_21 aqueductlaw43_FrameEncodes_62
theorem aqueductlaw43_FrameEncodes_20e : aC P id m aqueductlaw43_FrameEncodes_20 sf st Q = aC P id m aqueductlaw43_FrameEncodes_21 sf st (seqQ (aC P id m aqueductlaw43_FrameEncodes_62) Q) := rfl
def aqueductlaw43_FrameEncodes_16 : AC := .seq aqueductlaw43_FrameEncodes_17 aqueductlaw43_FrameEncodes_20
theorem aqueductlaw43_FrameEncodes_16e : aC P id m aqueductlaw43_FrameEncodes_16 sf st Q = aC P id m aqueductlaw43_FrameEncodes_17 sf st (seqQ (aC P id m aqueductlaw43_FrameEncodes_20) Q) := rfl
def aqueductlaw43_FrameEncodes_15 : AC := .loop [0, 3, 4] [] aqueductlaw43_FrameEncodes_16
theorem aqueductlaw43_FrameEncodes_15w : aC P id m aqueductlaw43_FrameEncodes_15 sf st Q = loopI (aC P id m aqueductlaw43_FrameEncodes_16) [0, 3, 4] [] sf st Q := rfl
def aqueductlaw43_FrameEncodes_14 : AC := .block 0 aqueductlaw43_FrameEncodes_15
theorem aqueductlaw43_FrameEncodes_14e : aC P id m aqueductlaw43_FrameEncodes_14 sf st Q = aC P id m aqueductlaw43_FrameEncodes_15 sf st (blockQ 0 Q) := rfl
def aqueductlaw43_FrameEncodes_12 : AC := .seq aqueductlaw43_FrameEncodes_13 aqueductlaw43_FrameEncodes_14
theorem aqueductlaw43_FrameEncodes_12e : aC P id m aqueductlaw43_FrameEncodes_12 sf st Q = aC P id m aqueductlaw43_FrameEncodes_13 sf st (seqQ (aC P id m aqueductlaw43_FrameEncodes_14) Q) := rfl
def aqueductlaw43_FrameEncodes_64l : List GI := [⟨none, .mv (some 103) (.r 0)⟩,
    ⟨none, .call (some 104) false (.f 21) [(.r 103)]⟩,
    ⟨none, .mv (some 102) (.r 104)⟩,
    ⟨none, .ext (some 105) (.r 102) 0⟩,
    ⟨none, .ext (some 106) (.r 102) 1⟩,
    ⟨none, .own 9 105⟩,
    ⟨none, .own 10 106⟩]
def aqueductlaw43_FrameEncodes_64 : AC := .ops [0, 3, 9, 10] [] aqueductlaw43_FrameEncodes_64l
theorem aqueductlaw43_FrameEncodes_64e : aC P id m aqueductlaw43_FrameEncodes_64 sf st Q = runI P id m aqueductlaw43_FrameEncodes_64l (opsK [0, 3, 9, 10] [] Q) sf st := rfl
def aqueductlaw43_FrameEncodes_67l : List GI := [⟨none, .mv (some 107) (.r 0)⟩,
    ⟨none, .call (some 108) false (.f 22) [(.r 107)]⟩,
    ⟨none, .un (some 109) .not (.r 108)⟩]
def aqueductlaw43_FrameEncodes_67 : AC := .ops [3, 9, 10, 109] [] aqueductlaw43_FrameEncodes_67l
theorem aqueductlaw43_FrameEncodes_67e : aC P id m aqueductlaw43_FrameEncodes_67 sf st Q = runI P id m aqueductlaw43_FrameEncodes_67l (opsK [3, 9, 10, 109] [] Q) sf st := rfl
def aqueductlaw43_FrameEncodes_70l : List GI := [⟨none, .mv (some 110) (.r 9)⟩,
    ⟨none, .len (some 111) .sl (.r 110)⟩,
    ⟨none, .bin (some 112) .num .eql (.r 111) (.c (.lit (.int .i64 0)))⟩,
    ⟨none, .mv (some 113) (.r 112)⟩,
    ⟨some (113, true), .mv (some 114) (.r 10)⟩,
    ⟨some (113, true), .bin (some 115) .num .eql (.r 114) (.c (.lit (.int .i64 5)))⟩,
    ⟨none, .pick (some 116) (.r 113) (.r 115) (.c (.lit (.bool false)))⟩,
    ⟨none, .mv (some 117) (.r 116)⟩,
    ⟨some (117, true), .call (some 118) false (.f 14) []⟩,
    ⟨none, .pick (some 119) (.r 117) (.r 118) (.c (.lit (.bool false)))⟩,
    ⟨none, .own 2 119⟩]
def aqueductlaw43_FrameEncodes_70 : AC := .ops [2] [] aqueductlaw43_FrameEncodes_70l
theorem aqueductlaw43_FrameEncodes_70e : aC P id m aqueductlaw43_FrameEncodes_70 sf st Q = runI P id m aqueductlaw43_FrameEncodes_70l (opsK [2] [] Q) sf st := rfl
def aqueductlaw43_FrameEncodes_69 : AC := .seq aqueductlaw43_FrameEncodes_70 .ret
theorem aqueductlaw43_FrameEncodes_69e : aC P id m aqueductlaw43_FrameEncodes_69 sf st Q = aC P id m aqueductlaw43_FrameEncodes_70 sf st (seqQ (aC P id m .ret) Q) := rfl
def aqueductlaw43_FrameEncodes_68 : AC := .cond (.r 109) aqueductlaw43_FrameEncodes_69 .skip
theorem aqueductlaw43_FrameEncodes_68e : aC P id m aqueductlaw43_FrameEncodes_68 sf st Q = condI (.r 109) (sf.ev id (.r 109)) (aC P id m aqueductlaw43_FrameEncodes_69) (aC P id m .skip) sf st Q := rfl
def aqueductlaw43_FrameEncodes_66 : AC := .seq aqueductlaw43_FrameEncodes_67 aqueductlaw43_FrameEncodes_68
theorem aqueductlaw43_FrameEncodes_66e : aC P id m aqueductlaw43_FrameEncodes_66 sf st Q = aC P id m aqueductlaw43_FrameEncodes_67 sf st (seqQ (aC P id m aqueductlaw43_FrameEncodes_68) Q) := rfl
def aqueductlaw43_FrameEncodes_72l : List GI := [⟨none, .mv (some 120) (.r 10)⟩,
    ⟨none, .bin (some 121) .num .eql (.r 120) (.c (.lit (.int .i64 0)))⟩,
    ⟨none, .mv (some 122) (.r 121)⟩,
    ⟨some (122, true), .mv (some 123) (.r 9)⟩,
    ⟨some (122, true), .conv (some 124) .bs (.r 123)⟩,
    ⟨some (122, true), .mv (some 125) (.r 3)⟩,
    ⟨some (122, true), .conv (some 126) .bs (.r 125)⟩,
    ⟨some (122, true), .bin (some 127) .num .eql (.r 124) (.r 126)⟩,
    ⟨none, .pick (some 128) (.r 122) (.r 127) (.c (.lit (.bool false)))⟩,
    ⟨none, .mv (some 129) (.r 128)⟩,
    ⟨some (129, true), .call (some 130) false (.f 14) []⟩,
    ⟨none, .pick (some 131) (.r 129) (.r 130) (.c (.lit (.bool false)))⟩,
    ⟨none, .own 2 131⟩]
def aqueductlaw43_FrameEncodes_72 : AC := .ops [2] [] aqueductlaw43_FrameEncodes_72l
theorem aqueductlaw43_FrameEncodes_72e : aC P id m aqueductlaw43_FrameEncodes_72 sf st Q = runI P id m aqueductlaw43_FrameEncodes_72l (opsK [2] [] Q) sf st := rfl
def aqueductlaw43_FrameEncodes_71 : AC := .seq aqueductlaw43_FrameEncodes_72 .ret
theorem aqueductlaw43_FrameEncodes_71e : aC P id m aqueductlaw43_FrameEncodes_71 sf st Q = aC P id m aqueductlaw43_FrameEncodes_72 sf st (seqQ (aC P id m .ret) Q) := rfl
def aqueductlaw43_FrameEncodes_65 : AC := .seq aqueductlaw43_FrameEncodes_66 aqueductlaw43_FrameEncodes_71
theorem aqueductlaw43_FrameEncodes_65e : aC P id m aqueductlaw43_FrameEncodes_65 sf st Q = aC P id m aqueductlaw43_FrameEncodes_66 sf st (seqQ (aC P id m aqueductlaw43_FrameEncodes_71) Q) := rfl
def aqueductlaw43_FrameEncodes_63 : AC := .seq aqueductlaw43_FrameEncodes_64 aqueductlaw43_FrameEncodes_65
theorem aqueductlaw43_FrameEncodes_63e : aC P id m aqueductlaw43_FrameEncodes_63 sf st Q = aC P id m aqueductlaw43_FrameEncodes_64 sf st (seqQ (aC P id m aqueductlaw43_FrameEncodes_65) Q) := rfl
def aqueductlaw43_FrameEncodes_11 : AC := .seq aqueductlaw43_FrameEncodes_12 aqueductlaw43_FrameEncodes_63
theorem aqueductlaw43_FrameEncodes_11e : aC P id m aqueductlaw43_FrameEncodes_11 sf st Q = aC P id m aqueductlaw43_FrameEncodes_12 sf st (seqQ (aC P id m aqueductlaw43_FrameEncodes_63) Q) := rfl
def aqueductlaw43_FrameEncodes_9 : AC := .seq aqueductlaw43_FrameEncodes_10 aqueductlaw43_FrameEncodes_11
theorem aqueductlaw43_FrameEncodes_9e : aC P id m aqueductlaw43_FrameEncodes_9 sf st Q = aC P id m aqueductlaw43_FrameEncodes_10 sf st (seqQ (aC P id m aqueductlaw43_FrameEncodes_11) Q) := rfl
def aqueductlaw43_FrameEncodes_3 : AC := .seq aqueductlaw43_FrameEncodes_4 aqueductlaw43_FrameEncodes_9
theorem aqueductlaw43_FrameEncodes_3e : aC P id m aqueductlaw43_FrameEncodes_3 sf st Q = aC P id m aqueductlaw43_FrameEncodes_4 sf st (seqQ (aC P id m aqueductlaw43_FrameEncodes_9) Q) := rfl
def aqueductlaw43_FrameEncodes_1 : AC := .seq aqueductlaw43_FrameEncodes_2 aqueductlaw43_FrameEncodes_3
theorem aqueductlaw43_FrameEncodes_1e : aC P id m aqueductlaw43_FrameEncodes_1 sf st Q = aC P id m aqueductlaw43_FrameEncodes_2 sf st (seqQ (aC P id m aqueductlaw43_FrameEncodes_3) Q) := rfl
def c_aqueductlaw43_FrameEncodes : AFun := ⟨132, [.tmp 2], aqueductlaw43_FrameEncodes_1⟩
theorem k_aqueductlaw43_FrameEncodes : compF Go.Proofs.Try.prog x_aqueductlaw43_FrameEncodes 4 = some c_aqueductlaw43_FrameEncodes := by kernel_rfl
theorem e_aqueductlaw43_FrameEncodes : enterB Go.Proofs.Try.prog 4 = true := by kernel_rfl

def n_aqueductlaw43_FrameHolds : Nat := 11
def x_aqueductlaw43_FrameHolds : Cx := ⟨some, id, 185, fun s => ([0, 1, 2, 6, 7, 8, 9, 10, 11, 12, 13, 14, 16, 17, 18, 19, 20, 21, 22, 23, 24, 25, 26, 27, 28, 29, 30, 31, 32, 33, 34, 36, 37, 38, 39, 40, 41, 42, 44, 45, 46, 47, 48, 50, 51, 52, 53, 54, 55, 56, 57, 58, 60, 62, 64, 65, 66, 67, 68, 69, 70, 71, 72, 73, 74, 76, 77, 78, 79, 80, 81, 82, 83, 84, 85, 86, 88, 89, 90, 91, 92, 93, 94, 96, 98, 99, 100, 101, 102, 103, 105, 107, 108, 109, 111, 112, 113, 115, 116, 117, 118, 119, 120, 121, 122, 123, 125, 126, 127, 128, 129, 130, 131, 132, 133, 134, 135, 136, 137, 138, 140, 141, 142, 143, 144, 145, 146, 147, 148, 149, 150, 151, 152, 153, 154, 155, 156, 157, 158, 159, 160, 161, 162, 163, 164, 165, 166, 168, 169, 170, 172, 173, 175, 177, 179, 181, 182, 184] : List Nat).contains s, fun s => ([] : List Nat).contains s, msOf [(2, [0, 1, 2], []), (12, [0, 1, 2, 35], []), (52, [6], []), (14, [0, 1, 2, 7, 8], []), (60, [0, 1, 2, 7, 43], []), (244, [6], []), (62, [0, 1, 2, 7, 9], []), (126, [0, 1, 2, 7, 9, 10, 11, 12], []), (508, [0, 1, 2, 7, 9, 10, 11, 12, 13], []), (1018, [0, 1, 2, 7, 9, 10, 11, 12, 13], []), (8144, [0, 1, 2, 7, 9, 10, 11, 12, 13, 49], []), (16291, [0, 2, 7, 9, 11, 12], []), (32584, [0, 1, 2, 7, 9, 10, 11, 12, 13, 14], []), (130340, [0, 1, 2, 7, 9, 10, 11, 12, 13, 14, 59], []), (260682, [0, 1, 2, 7, 9, 10, 11, 12, 13, 14], []), (260684, [0, 1, 2, 7, 9, 10, 11, 12, 13, 14, 75], []), (1042740, [6], []), (260686, [0, 1, 2, 7, 9, 10, 11, 12, 13, 14], []), (1042748, [0, 1, 2, 7, 9, 10, 11, 12, 13, 14], []), (8341984, [0, 1, 2, 7, 9, 10, 11, 12, 13, 14, 87], []), (16683971, [0, 1, 2, 7, 9, 10, 11, 12, 13], []), (16683972, [0, 1, 2, 7, 9, 10, 11, 12, 13, 14, 15, 16, 17], [15]), (66735892, [0, 1, 2, 7, 9, 10, 11, 12, 13, 14, 15, 16, 95], [15]), (266943572, [6], []), (133471788, [0, 1, 2, 7, 9, 10, 11, 12, 13, 14, 15, 97], [15]), (266943578, [0, 1, 2, 7, 9, 10, 11, 12, 13], []), (266943580, [0, 1, 2, 7, 9, 10, 11, 12, 13, 14, 15, 110], [15]), (1067774324, [6], []), (133471791, [0, 1, 2, 7, 9, 10, 11, 12, 13, 14], []), (1042750, [0, 1, 2, 7, 9, 10, 11, 12, 13, 124], []), (4171004, [6], []), (8147, [0, 1, 2, 7, 9, 10, 11, 12, 13], []), (1020, [0, 2, 7, 139], []), (4084, [6], []), (1022, [0, 7, 18], []), (2046, [0, 18, 19, 20, 21], []), (8188, [0, 19, 167], []), (32756, [6], []), (16380, [0, 19, 22], []), (32762, [0, 19, 22], []), (262096, [0, 19, 22, 171], []), (524195, [], []), (1048392, [0, 19, 22, 183], []), (4193572, [6], []), (262099, [0, 19, 22], []), (16382, [6], [])]⟩
def aqueductlaw43_FrameHolds_2l : List GI := [⟨none, .mv (some 6) (.c (.lit (.bool false)))⟩]
def aqueductlaw43_FrameHolds_2 : AC := .ops [0, 1, 2] [] aqueductlaw43_FrameHolds_2l
theorem aqueductlaw43_FrameHolds_2e : aC P id m aqueductlaw43_FrameHolds_2 sf st Q = runI P id m aqueductlaw43_FrameHolds_2l (opsK [0, 1, 2] [] Q) sf st := rfl
def aqueductlaw43_FrameHolds_5l : List GI := [⟨none, .mv (some 23) (.r 0)⟩,
    ⟨none, .call (some 24) false (.f 19) [(.r 23)]⟩,
    ⟨none, .un (some 25) .not (.r 24)⟩,
    ⟨none, .mv (some 26) (.r 25)⟩,
    ⟨some (26, false), .mv (some 27) (.r 0)⟩,
    ⟨some (26, false), .call (some 28) false (.f 22) [(.r 27)]⟩,
    ⟨some (26, false), .un (some 29) .not (.r 28)⟩,
    ⟨none, .pick (some 30) (.r 26) (.c (.lit (.bool true))) (.r 29)⟩,
    ⟨none, .mv (some 31) (.r 30)⟩,
    ⟨some (31, false), .mv (some 32) (.r 1)⟩,
    ⟨some (31, false), .len (some 33) .sl (.r 32)⟩,
    ⟨some (31, false), .bin (some 34) .num .gtr (.r 33) (.c (.lit (.int .i64 40)))⟩,
    ⟨none, .pick (some 35) (.r 31) (.c (.lit (.bool true))) (.r 34)⟩]
def aqueductlaw43_FrameHolds_5 : AC := .ops [0, 1, 2, 35] [] aqueductlaw43_FrameHolds_5l
theorem aqueductlaw43_FrameHolds_5e : aC P id m aqueductlaw43_FrameHolds_5 sf st Q = runI P id m aqueductlaw43_FrameHolds_5l (opsK [0, 1, 2, 35] [] Q) sf st := rfl
def aqueductlaw43_FrameHolds_8l : List GI := [⟨none, .call (some 36) false (.f 14) []⟩,
    ⟨none, .own 6 36⟩]
def aqueductlaw43_FrameHolds_8 : AC := .ops [6] [] aqueductlaw43_FrameHolds_8l
theorem aqueductlaw43_FrameHolds_8e : aC P id m aqueductlaw43_FrameHolds_8 sf st Q = runI P id m aqueductlaw43_FrameHolds_8l (opsK [6] [] Q) sf st := rfl
def aqueductlaw43_FrameHolds_7 : AC := .seq aqueductlaw43_FrameHolds_8 .ret
theorem aqueductlaw43_FrameHolds_7e : aC P id m aqueductlaw43_FrameHolds_7 sf st Q = aC P id m aqueductlaw43_FrameHolds_8 sf st (seqQ (aC P id m .ret) Q) := rfl
def aqueductlaw43_FrameHolds_6 : AC := .cond (.r 35) aqueductlaw43_FrameHolds_7 .skip
theorem aqueductlaw43_FrameHolds_6e : aC P id m aqueductlaw43_FrameHolds_6 sf st Q = condI (.r 35) (sf.ev id (.r 35)) (aC P id m aqueductlaw43_FrameHolds_7) (aC P id m .skip) sf st Q := rfl
def aqueductlaw43_FrameHolds_4 : AC := .seq aqueductlaw43_FrameHolds_5 aqueductlaw43_FrameHolds_6
theorem aqueductlaw43_FrameHolds_4e : aC P id m aqueductlaw43_FrameHolds_4 sf st Q = aC P id m aqueductlaw43_FrameHolds_5 sf st (seqQ (aC P id m aqueductlaw43_FrameHolds_6) Q) := rfl
def aqueductlaw43_FrameHolds_10l : List GI := [⟨none, .mv (some 38) (.r 0)⟩,
    ⟨none, .call (some 39) false (.f 21) [(.r 38)]⟩,
    ⟨none, .mv (some 37) (.r 39)⟩,
    ⟨none, .ext (some 40) (.r 37) 0⟩,
    ⟨none, .ext (some 41) (.r 37) 1⟩,
    ⟨none, .own 7 40⟩,
    ⟨none, .own 8 41⟩]
def aqueductlaw43_FrameHolds_10 : AC := .ops [0, 1, 2, 7, 8] [] aqueductlaw43_FrameHolds_10l
theorem aqueductlaw43_FrameHolds_10e : aC P id m aqueductlaw43_FrameHolds_10 sf st Q = runI P id m aqueductlaw43_FrameHolds_10l (opsK [0, 1, 2, 7, 8] [] Q) sf st := rfl
def aqueductlaw43_FrameHolds_13l : List GI := [⟨none, .mv (some 42) (.r 8)⟩,
    ⟨none, .bin (some 43) .num .neq (.r 42) (.c (.lit (.int .i64 0)))⟩]
def aqueductlaw43_FrameHolds_13 : AC := .ops [0, 1, 2, 7, 43] [] aqueductlaw43_FrameHolds_13l
theorem aqueductlaw43_FrameHolds_13e : aC P id m aqueductlaw43_FrameHolds_13 sf st Q = runI P id m aqueductlaw43_FrameHolds_13l (opsK [0, 1, 2, 7, 43] [] Q) sf st := rfl
def aqueductlaw43_FrameHolds_16l : List GI := [⟨none, .mv (some 6) (.c (.lit (.bool false)))⟩]
def aqueductlaw43_FrameHolds_16 : AC := .ops [6] [] aqueductlaw43_FrameHolds_16l
theorem aqueductlaw43_FrameHolds_16e : aC P id m aqueductlaw43_FrameHolds_16 sf st Q = runI P id m aqueductlaw43_FrameHolds_16l (opsK [6] [] Q) sf st := rfl
def aqueductlaw43_FrameHolds_15 : AC := .seq aqueductlaw43_FrameHolds_16 .ret
theorem aqueductlaw43_FrameHolds_15e : aC P id m aqueductlaw43_FrameHolds_15 sf st Q = aC P id m aqueductlaw43_FrameHolds_16 sf st (seqQ (aC P id m .ret) Q) := rfl
def aqueductlaw43_FrameHolds_14 : AC := .cond (.r 43) aqueductlaw43_FrameHolds_15 .skip
theorem aqueductlaw43_FrameHolds_14e : aC P id m aqueductlaw43_FrameHolds_14 sf st Q = condI (.r 43) (sf.ev id (.r 43)) (aC P id m aqueductlaw43_FrameHolds_15) (aC P id m .skip) sf st Q := rfl
def aqueductlaw43_FrameHolds_12 : AC := .seq aqueductlaw43_FrameHolds_13 aqueductlaw43_FrameHolds_14
theorem aqueductlaw43_FrameHolds_12e : aC P id m aqueductlaw43_FrameHolds_12 sf st Q = aC P id m aqueductlaw43_FrameHolds_13 sf st (seqQ (aC P id m aqueductlaw43_FrameHolds_14) Q) := rfl
def aqueductlaw43_FrameHolds_18l : List GI := [⟨none, .bst (some 44) [(0, 1), (1, 1)] (.agg [(.lit (.slice none 0 0)), (.lit (.int .i64 0))]) []⟩,
    ⟨none, .boxB 45 2 (.r 44)⟩,
    ⟨none, .own 9 45⟩]
def aqueductlaw43_FrameHolds_18 : AC := .ops [0, 1, 2, 7, 9] [] aqueductlaw43_FrameHolds_18l
theorem aqueductlaw43_FrameHolds_18e : aC P id m aqueductlaw43_FrameHolds_18 sf st Q = runI P id m aqueductlaw43_FrameHolds_18l (opsK [0, 1, 2, 7, 9] [] Q) sf st := rfl
def aqueductlaw43_FrameHolds_20l : List GI := [⟨none, .mv (some 10) (.c (.lit (.int .i64 0)))⟩,
    ⟨none, .mv (some 11) (.c (.lit (.int .i64 0)))⟩,
    ⟨none, .mv (some 12) (.c (.lit (.int .i64 0)))⟩]
def aqueductlaw43_FrameHolds_20 : AC := .ops [0, 1, 2, 7, 9, 10, 11, 12] [] aqueductlaw43_FrameHolds_20l
theorem aqueductlaw43_FrameHolds_20e : aC P id m aqueductlaw43_FrameHolds_20 sf st Q = runI P id m aqueductlaw43_FrameHolds_20l (opsK [0, 1, 2, 7, 9, 10, 11, 12] [] Q) sf st := rfl
def aqueductlaw43_FrameHolds_23l : List GI := [⟨none, .mv (some 13) (.c (.lit (.int .i64 0)))⟩]
def aqueductlaw43_FrameHolds_23 : AC := .ops [0, 1, 2, 7, 9, 10, 11, 12, 13] [] aqueductlaw43_FrameHolds_23l
theorem aqueductlaw43_FrameHolds_23e : aC P id m aqueductlaw43_FrameHolds_23 sf st Q = runI P id m aqueductlaw43_FrameHolds_23l (opsK [0, 1, 2, 7, 9, 10, 11, 12, 13] [] Q) sf st := rfl
def aqueductlaw43_FrameHolds_28l : List GI := [⟨none, .mv (some 46) (.r 13)⟩,
    ⟨none, .mv (some 47) (.r 1)⟩,
    ⟨none, .len (some 48) .sl (.r 47)⟩,
    ⟨none, .bin (some 49) .num .leq (.r 46) (.r 48)⟩]
def aqueductlaw43_FrameHolds_28 : AC := .ops [0, 1, 2, 7, 9, 10, 11, 12, 13, 49] [] aqueductlaw43_FrameHolds_28l
theorem aqueductlaw43_FrameHolds_28e : aC P id m aqueductlaw43_FrameHolds_28 sf st Q = runI P id m aqueductlaw43_FrameHolds_28l (opsK [0, 1, 2, 7, 9, 10, 11, 12, 13, 49] [] Q) sf st := rfl
def aqueductlaw43_FrameHolds_29 : AC := .cond (.r 49) .skip (.exit [0, 2, 7, 9, 11, 12] [] 0)
theorem aqueductlaw43_FrameHolds_29e : aC P id m aqueductlaw43_FrameHolds_29 sf st Q = condI (.r 49) (sf.ev id (.r 49)) (aC P id m .skip) (aC P id m (.exit [0, 2, 7, 9, 11, 12] [] 0)) sf st Q := rfl
def aqueductlaw43_FrameHolds_27 : AC := .seq aqueductlaw43_FrameHolds_28 aqueductlaw43_FrameHolds_29
theorem aqueductlaw43_FrameHolds_27e : aC P id m aqueductlaw43_FrameHolds_27 sf st Q = aC P id m aqueductlaw43_FrameHolds_28 sf st (seqQ (aC P id m aqueductlaw43_FrameHolds_29) Q) := rfl
def aqueductlaw43_FrameHolds_33l : List GI := [⟨none, .mv (some 52) (.r 7)⟩,
    ⟨none, .len (some 53) .sl (.r 52)⟩,
    ⟨none, .mv (some 54) (.r 10)⟩,
    ⟨none, .bin (some 55) .num .sub (.r 53) (.r 54)⟩,
    ⟨none, .own 14 55⟩]
def aqueductlaw43_FrameHolds_33 : AC := .ops [0, 1, 2, 7, 9, 10, 11, 12, 13, 14] [] aqueductlaw43_FrameHolds_33l
theorem aqueductlaw43_FrameHolds_33e : aC P id m aqueductlaw43_FrameHolds_33 sf st Q = runI P id m aqueductlaw43_FrameHolds_33l (opsK [0, 1, 2, 7, 9, 10, 11, 12, 13, 14] [] Q) sf st := rfl
def aqueductlaw43_FrameHolds_36l : List GI := [⟨none, .mv (some 56) (.r 13)⟩,
    ⟨none, .mv (some 57) (.r 1)⟩,
    ⟨none, .len (some 58) .sl (.r 57)⟩,
    ⟨none, .bin (some 59) .num .lss (.r 56) (.r 58)⟩]
def aqueductlaw43_FrameHolds_36 : AC := .ops [0, 1, 2, 7, 9, 10, 11, 12, 13, 14, 59] [] aqueductlaw43_FrameHolds_36l
theorem aqueductlaw43_FrameHolds_36e : aC P id m aqueductlaw43_FrameHolds_36 sf st Q = runI P id m aqueductlaw43_FrameHolds_36l (opsK [0, 1, 2, 7, 9, 10, 11, 12, 13, 14, 59] [] Q) sf st := rfl
def aqueductlaw43_FrameHolds_38l : List GI := [⟨none, .mv (some 60) (.r 14)⟩,
    ⟨none, .mv (some 61) (.r 1)⟩,
    ⟨none, .mv (some 62) (.r 13)⟩,
    ⟨none, .ixS (some 63) (.r 61) (.r 62) 1⟩,
    ⟨none, .load (some 64) (.r 63) none⟩,
    ⟨none, .conv (some 65) (.int .i64) (.r 64)⟩,
    ⟨none, .mn (some 66) true (.r 60) (.r 65)⟩,
    ⟨none, .own 14 66⟩]
def aqueductlaw43_FrameHolds_38 : AC := .ops [0, 1, 2, 7, 9, 10, 11, 12, 13, 14] [] aqueductlaw43_FrameHolds_38l
theorem aqueductlaw43_FrameHolds_38e : aC P id m aqueductlaw43_FrameHolds_38 sf st Q = runI P id m aqueductlaw43_FrameHolds_38l (opsK [0, 1, 2, 7, 9, 10, 11, 12, 13, 14] [] Q) sf st := rfl
def aqueductlaw43_FrameHolds_37 : AC := .cond (.r 59) aqueductlaw43_FrameHolds_38 .skip
theorem aqueductlaw43_FrameHolds_37e : aC P id m aqueductlaw43_FrameHolds_37 sf st Q = condI (.r 59) (sf.ev id (.r 59)) (aC P id m aqueductlaw43_FrameHolds_38) (aC P id m .skip) sf st Q := rfl
def aqueductlaw43_FrameHolds_35 : AC := .seq aqueductlaw43_FrameHolds_36 aqueductlaw43_FrameHolds_37
theorem aqueductlaw43_FrameHolds_35e : aC P id m aqueductlaw43_FrameHolds_35 sf st Q = aC P id m aqueductlaw43_FrameHolds_36 sf st (seqQ (aC P id m aqueductlaw43_FrameHolds_37) Q) := rfl
def aqueductlaw43_FrameHolds_41l : List GI := [⟨none, .mv (some 67) (.r 9)⟩,
    ⟨none, .mv (some 68) (.r 7)⟩,
    ⟨none, .mv (some 69) (.r 10)⟩,
    ⟨none, .mv (some 70) (.r 10)⟩,
    ⟨none, .mv (some 71) (.r 14)⟩,
    ⟨none, .bin (some 72) .num .add (.r 70) (.r 71)⟩,
    ⟨none, .sliS (some 73) (.r 68) (some (.r 69)) (some (.r 72)) 1⟩,
    ⟨none, .call (some 74) false (.f 38) [(.r 67), (.r 73)]⟩,
    ⟨none, .bin (some 75) .num .neq (.r 74) (.c (.lit (.int .i64 0)))⟩]
def aqueductlaw43_FrameHolds_41 : AC := .ops [0, 1, 2, 7, 9, 10, 11, 12, 13, 14, 75] [] aqueductlaw43_FrameHolds_41l
theorem aqueductlaw43_FrameHolds_41e : aC P id m aqueductlaw43_FrameHolds_41 sf st Q = runI P id m aqueductlaw43_FrameHolds_41l (opsK [0, 1, 2, 7, 9, 10, 11, 12, 13, 14, 75] [] Q) sf st := rfl
def aqueductlaw43_FrameHolds_44l : List GI := [⟨none, .mv (some 6) (.c (.lit (.bool false)))⟩]
def aqueductlaw43_FrameHolds_44 : AC := .ops [6] [] aqueductlaw43_FrameHolds_44l
theorem aqueductlaw43_FrameHolds_44e : aC P id m aqueductlaw43_FrameHolds_44 sf st Q = runI P id m aqueductlaw43_FrameHolds_44l (opsK [6] [] Q) sf st := rfl
def aqueductlaw43_FrameHolds_43 : AC := .seq aqueductlaw43_FrameHolds_44 .ret
theorem aqueductlaw43_FrameHolds_43e : aC P id m aqueductlaw43_FrameHolds_43 sf st Q = aC P id m aqueductlaw43_FrameHolds_44 sf st (seqQ (aC P id m .ret) Q) := rfl
def aqueductlaw43_FrameHolds_42 : AC := .cond (.r 75) aqueductlaw43_FrameHolds_43 .skip
theorem aqueductlaw43_FrameHolds_42e : aC P id m aqueductlaw43_FrameHolds_42 sf st Q = condI (.r 75) (sf.ev id (.r 75)) (aC P id m aqueductlaw43_FrameHolds_43) (aC P id m .skip) sf st Q := rfl
def aqueductlaw43_FrameHolds_40 : AC := .seq aqueductlaw43_FrameHolds_41 aqueductlaw43_FrameHolds_42
theorem aqueductlaw43_FrameHolds_40e : aC P id m aqueductlaw43_FrameHolds_40 sf st Q = aC P id m aqueductlaw43_FrameHolds_41 sf st (seqQ (aC P id m aqueductlaw43_FrameHolds_42) Q) := rfl
def aqueductlaw43_FrameHolds_46l : List GI := [⟨none, .mv (some 76) (.r 10)⟩,
    ⟨none, .mv (some 77) (.r 14)⟩,
    ⟨none, .bin (some 78) .num .add (.r 76) (.r 77)⟩,
    ⟨none, .own 10 78⟩]
def aqueductlaw43_FrameHolds_46 : AC := .ops [0, 1, 2, 7, 9, 10, 11, 12, 13, 14] [] aqueductlaw43_FrameHolds_46l
theorem aqueductlaw43_FrameHolds_46e : aC P id m aqueductlaw43_FrameHolds_46 sf st Q = runI P id m aqueductlaw43_FrameHolds_46l (opsK [0, 1, 2, 7, 9, 10, 11, 12, 13, 14] [] Q) sf st := rfl
def aqueductlaw43_FrameHolds_52l : List GI := [⟨none, .mv (some 79) (.r 13)⟩,
    ⟨none, .mv (some 80) (.r 1)⟩,
    ⟨none, .len (some 81) .sl (.r 80)⟩,
    ⟨none, .bin (some 82) .num .eql (.r 79) (.r 81)⟩,
    ⟨none, .mv (some 83) (.r 82)⟩,
    ⟨some (83, false), .mv (some 84) (.r 14)⟩,
    ⟨some (83, false), .bin (some 85) .num .rem (.r 84) (.c (.lit (.int .i64 2)))⟩,
    ⟨some (83, false), .bin (some 86) .num .eql (.r 85) (.c (.lit (.int .i64 0)))⟩,
    ⟨none, .pick (some 87) (.r 83) (.c (.lit (.bool true))) (.r 86)⟩]
def aqueductlaw43_FrameHolds_52 : AC := .ops [0, 1, 2, 7, 9, 10, 11, 12, 13, 14, 87] [] aqueductlaw43_FrameHolds_52l
theorem aqueductlaw43_FrameHolds_52e : aC P id m aqueductlaw43_FrameHolds_52 sf st Q = runI P id m aqueductlaw43_FrameHolds_52l (opsK [0, 1, 2, 7, 9, 10, 11, 12, 13, 14, 87] [] Q) sf st := rfl
def aqueductlaw43_FrameHolds_53 : AC := .cond (.r 87) .skip (.exit [0, 1, 2, 7, 9, 10, 11, 12, 13] [] 2)
theorem aqueductlaw43_FrameHolds_53e : aC P id m aqueductlaw43_FrameHolds_53 sf st Q = condI (.r 87) (sf.ev id (.r 87)) (aC P id m .skip) (aC P id m (.exit [0, 1, 2, 7, 9, 10, 11, 12, 13] [] 2)) sf st Q := rfl
def aqueductlaw43_FrameHolds_51 : AC := .seq aqueductlaw43_FrameHolds_52 aqueductlaw43_FrameHolds_53
theorem aqueductlaw43_FrameHolds_51e : aC P id m aqueductlaw43_FrameHolds_51 sf st Q = aC P id m aqueductlaw43_FrameHolds_52 sf st (seqQ (aC P id m aqueductlaw43_FrameHolds_53) Q) := rfl
def aqueductlaw43_FrameHolds_56l : List GI := [⟨none, .mv (some 89) (.r 9)⟩,
    ⟨none, .call (some 90) false (.f 40) [(.r 89)]⟩,
    ⟨none, .mv (some 88) (.r 90)⟩,
    ⟨none, .ext (some 91) (.r 88) 0⟩,
    ⟨none, .ext (some 92) (.r 88) 1⟩,
    ⟨none, .ext (some 93) (.r 88) 2⟩,
    ⟨none, .newL 15 [(.lit (.int .u8 0)), (.lit (.slice none 0 0))]⟩,
    ⟨none, .store 2 (.r 15) (.r 91)⟩,
    ⟨none, .own 16 92⟩,
    ⟨none, .own 17 93⟩]
def aqueductlaw43_FrameHolds_56 : AC := .ops [0, 1, 2, 7, 9, 10, 11, 12, 13, 14, 15, 16, 17] [15] aqueductlaw43_FrameHolds_56l
theorem aqueductlaw43_FrameHolds_56e : aC P id m aqueductlaw43_FrameHolds_56 sf st Q = runI P id m aqueductlaw43_FrameHolds_56l (opsK [0, 1, 2, 7, 9, 10, 11, 12, 13, 14, 15, 16, 17] [15] Q) sf st := rfl
def aqueductlaw43_FrameHolds_59l : List GI := [⟨none, .mv (some 94) (.r 17)⟩,
    ⟨none, .bin (some 95) .num .neq (.r 94) (.c (.lit (.int .i64 0)))⟩]
def aqueductlaw43_FrameHolds_59 : AC := .ops [0, 1, 2, 7, 9, 10, 11, 12, 13, 14, 15, 16, 95] [15] aqueductlaw43_FrameHolds_59l
theorem aqueductlaw43_FrameHolds_59e : aC P id m aqueductlaw43_FrameHolds_59 sf st Q = runI P id m aqueductlaw43_FrameHolds_59l (opsK [0, 1, 2, 7, 9, 10, 11, 12, 13, 14, 15, 16, 95] [15] Q) sf st := rfl
def aqueductlaw43_FrameHolds_62l : List GI := [⟨none, .mv (some 6) (.c (.lit (.bool false)))⟩]
def aqueductlaw43_FrameHolds_62 : AC := .ops [6] [] aqueductlaw43_FrameHolds_62l
theorem aqueductlaw43_FrameHolds_62e : aC P id m aqueductlaw43_FrameHolds_62 sf st Q = runI P id m aqueductlaw43_FrameHolds_62l (opsK [6] [] Q) sf st := rfl
def aqueductlaw43_FrameHolds_61 : AC := .seq aqueductlaw43_FrameHolds_62 .ret
theorem aqueductlaw43_FrameHolds_61e : aC P id m aqueductlaw43_FrameHolds_61 sf st Q = aC P id m aqueductlaw43_FrameHolds_62 sf st (seqQ (aC P id m .ret) Q) := rfl
def aqueductlaw43_FrameHolds_60 : AC := .cond (.r 95) aqueductlaw43_FrameHolds_61 .skip
theorem aqueductlaw43_FrameHolds_60e : aC P id m aqueductlaw43_FrameHolds_60 sf st Q = condI (.r 95) (sf.ev id (.r 95)) (aC P id m aqueductlaw43_FrameHolds_61) (aC P id m .skip) sf st Q := rfl
def aqueductlaw43_FrameHolds_58 : AC := .seq aqueductlaw43_FrameHolds_59 aqueductlaw43_FrameHolds_60
theorem aqueductlaw43_FrameHolds_58e : aC P id m aqueductlaw43_FrameHolds_58 sf st Q = aC P id m aqueductlaw43_FrameHolds_59 sf st (seqQ (aC P id m aqueductlaw43_FrameHolds_60) Q) := rfl
def aqueductlaw43_FrameHolds_65l : List GI := [⟨none, .mv (some 96) (.r 16)⟩,
    ⟨none, .un (some 97) .not (.r 96)⟩]
def aqueductlaw43_FrameHolds_65 : AC := .ops [0, 1, 2, 7, 9, 10, 11, 12, 13, 14, 15, 97] [15] aqueductlaw43_FrameHolds_65l
theorem aqueductlaw43_FrameHolds_65e : aC P id m aqueductlaw43_FrameHolds_65 sf st Q = runI P id m aqueductlaw43_FrameHolds_65l (opsK [0, 1, 2, 7, 9, 10, 11, 12, 13, 14, 15, 97] [15] Q) sf st := rfl
def aqueductlaw43_FrameHolds_66 : AC := .cond (.r 97) (.exit [0, 1, 2, 7, 9, 10, 11, 12, 13] [] 2) .skip
theorem aqueductlaw43_FrameHolds_66e : aC P id m aqueductlaw43_FrameHolds_66 sf st Q = condI (.r 97) (sf.ev id (.r 97)) (aC P id m (.exit [0, 1, 2, 7, 9, 10, 11, 12, 13] [] 2)) (aC P id m .skip) sf st Q := rfl
def aqueductlaw43_FrameHolds_64 : AC := .seq aqueductlaw43_FrameHolds_65 aqueductlaw43_FrameHolds_66
theorem aqueductlaw43_FrameHolds_64e : aC P id m aqueductlaw43_FrameHolds_64 sf st Q = aC P id m aqueductlaw43_FrameHolds_65 sf st (seqQ (aC P id m aqueductlaw43_FrameHolds_66) Q) := rfl
def aqueductlaw43_FrameHolds_69h : List GI := [⟨none, .mv (some 98) (.r 11)⟩,
    ⟨none, .mv (some 99) (.r 0)⟩,
    ⟨none, .len (some 100) .sl (.r 99)⟩,
    ⟨none, .bin (some 101) .num .geq (.r 98) (.r 100)⟩,
    ⟨none, .mv (some 102) (.r 101)⟩,
    ⟨some (102, false), .load (some 103) (.r 15) (some 2)⟩,
    ⟨some (102, false), .mv (some 104) (.r 0)⟩,
    ⟨some (102, false), .mv (some 105) (.r 11)⟩,
    ⟨some (102, false), .ixS (some 106) (.r 104) (.r 105) 2⟩,
    ⟨some (102, false), .load (some 107) (.r 106) (some 2)⟩]
def aqueductlaw43_FrameHolds_69l : List GI := [⟨some (102, false), .call (some 108) false (.f 41) [(.r 103), (.r 107)]⟩,
    ⟨some (102, false), .un (some 109) .not (.r 108)⟩,
    ⟨none, .pick (some 110) (.r 102) (.c (.lit (.bool true))) (.r 109)⟩]
def aqueductlaw43_FrameHolds_69 : AC := .draw [0, 1, 2, 7, 9, 10, 11, 12, 13, 14, 15, 110] [15] [] aqueductlaw43_FrameHolds_69h aqueductlaw43_FrameHolds_69l
theorem aqueductlaw43_FrameHolds_69e : aC P id m aqueductlaw43_FrameHolds_69 sf st Q = headI P id sf.locs st aqueductlaw43_FrameHolds_69h (tailK P id m [] [0, 1, 2, 7, 9, 10, 11, 12, 13, 14, 15, 110] [15] aqueductlaw43_FrameHolds_69l Q st) [] ⟨sf.regs, dropL [] sf.locs⟩ := rfl
def aqueductlaw43_FrameHolds_72l : List GI := [⟨none, .mv (some 6) (.c (.lit (.bool false)))⟩]
def aqueductlaw43_FrameHolds_72 : AC := .ops [6] [] aqueductlaw43_FrameHolds_72l
theorem aqueductlaw43_FrameHolds_72e : aC P id m aqueductlaw43_FrameHolds_72 sf st Q = runI P id m aqueductlaw43_FrameHolds_72l (opsK [6] [] Q) sf st := rfl
def aqueductlaw43_FrameHolds_71 : AC := .seq aqueductlaw43_FrameHolds_72 .ret
theorem aqueductlaw43_FrameHolds_71e : aC P id m aqueductlaw43_FrameHolds_71 sf st Q = aC P id m aqueductlaw43_FrameHolds_72 sf st (seqQ (aC P id m .ret) Q) := rfl
def aqueductlaw43_FrameHolds_70 : AC := .cond (.r 110) aqueductlaw43_FrameHolds_71 .skip
theorem aqueductlaw43_FrameHolds_70e : aC P id m aqueductlaw43_FrameHolds_70 sf st Q = condI (.r 110) (sf.ev id (.r 110)) (aC P id m aqueductlaw43_FrameHolds_71) (aC P id m .skip) sf st Q := rfl
def aqueductlaw43_FrameHolds_68 : AC := .seq aqueductlaw43_FrameHolds_69 aqueductlaw43_FrameHolds_70
theorem aqueductlaw43_FrameHolds_68e : aC P id m aqueductlaw43_FrameHolds_68 sf st Q = aC P id m aqueductlaw43_FrameHolds_69 sf st (seqQ (aC P id m aqueductlaw43_FrameHolds_70) Q) := rfl
def aqueductlaw43_FrameHolds_73h : List GI := [⟨none, .mv (some 111) (.r 11)⟩,
    ⟨none, .bin (some 112) .num .add (.r 111) (.c (.lit (.int .i64 1)))⟩,
    ⟨none, .mv (some 113) (.r 12)⟩,
    ⟨none, .addr (some 114) (.r 15) 1⟩,
    ⟨none, .load (some 115) (.r 114) none⟩,
    ⟨none, .len (some 116) .sl (.r 115)⟩,
    ⟨none, .bin (some 117) .num .add (.r 113) (.r 116)⟩,
    ⟨none, .bin (some 118) .num .add (.r 117) (.c (.lit (.int .i64 6)))⟩,
    ⟨none, .mv (some 11) (.r 112)⟩]
def aqueductlaw43_FrameHolds_73l : List GI := [⟨none, .own 12 118⟩]
def aqueductlaw43_FrameHolds_73 : AC := .draw [0, 1, 2, 7, 9, 10, 11, 12, 13, 14] [] [] aqueductlaw43_FrameHolds_73h aqueductlaw43_FrameHolds_73l
theorem aqueductlaw43_FrameHolds_73e : aC P id m aqueductlaw43_FrameHolds_73 sf st Q = headI P id sf.locs st aqueductlaw43_FrameHolds_73h (tailK P id m [] [0, 1, 2, 7, 9, 10, 11, 12, 13, 14] [] aqueductlaw43_FrameHolds_73l Q st) [] ⟨sf.regs, dropL [] sf.locs⟩ := rfl
def aqueductlaw43_FrameHolds_67 : AC := .seq aqueductlaw43_FrameHolds_68 aqueductlaw43_FrameHolds_73
theorem aqueductlaw43_FrameHolds_67e : aC P id m aqueductlaw43_FrameHolds_67 sf st Q = aC P id m aqueductlaw43_FrameHolds_68 sf st (seqQ (aC P id m aqueductlaw43_FrameHolds_73) Q) := rfl
def aqueductlaw43_FrameHolds_63 : AC := .seq aqueductlaw43_FrameHolds_64 aqueductlaw43_FrameHolds_67
theorem aqueductlaw43_FrameHolds_63e : aC P id m aqueductlaw43_FrameHolds_63 sf st Q = aC P id m aqueductlaw43_FrameHolds_64 sf st (seqQ (aC P id m aqueductlaw43_FrameHolds_67) Q) := rfl
def aqueductlaw43_FrameHolds_57 : AC := .seq aqueductlaw43_FrameHolds_58 aqueductlaw43_FrameHolds_63
theorem aqueductlaw43_FrameHolds_57e : aC P id m aqueductlaw43_FrameHolds_57 sf st Q = aC P id m aqueductlaw43_FrameHolds_58 sf st (seqQ (aC P id m aqueductlaw43_FrameHolds_63) Q) := rfl
def aqueductlaw43_FrameHolds_55 : AC := .seq aqueductlaw43_FrameHolds_56 aqueductlaw43_FrameHolds_57
theorem aqueductlaw43_FrameHolds_55e : aC P id m aqueductlaw43_FrameHolds_55 sf st Q = aC P id m aqueductlaw43_FrameHolds_56 sf st (seqQ (aC P id m aqueductlaw43_FrameHolds_57) Q) := rfl
def aqueductlaw43_FrameHolds_54 : AC := .block 3 aqueductlaw43_FrameHolds_55
theorem aqueductlaw43_FrameHolds_54e : aC P id m aqueductlaw43_FrameHolds_54 sf st Q = aC P id m aqueductlaw43_FrameHolds_55 sf st (blockQ 3 Q) := rfl
def aqueductlaw43_FrameHolds_50 : AC := .seq aqueductlaw43_FrameHolds_51 aqueductlaw43_FrameHolds_54
theorem aqueductlaw43_FrameHolds_50e : aC P id m aqueductlaw43_FrameHolds_50 sf st Q = aC P id m aqueductlaw43_FrameHolds_51 sf st (seqQ (aC P id m aqueductlaw43_FrameHolds_54) Q) := rfl
def aqueductlaw43_FrameHolds_49 : AC := .loop [0, 1, 2, 7, 9, 10, 11, 12, 13, 14] [] aqueductlaw43_FrameHolds_50
theorem aqueductlaw43_FrameHolds_49w : aC P id m aqueductlaw43_FrameHolds_49 sf st Q = loopI (aC P id m aqueductlaw43_FrameHolds_50) [0, 1, 2, 7, 9, 10, 11, 12, 13, 14] [] sf st Q := rfl
def aqueductlaw43_FrameHolds_48 : AC := .block 2 aqueductlaw43_FrameHolds_49
theorem aqueductlaw43_FrameHolds_48e : aC P id m aqueductlaw43_FrameHolds_48 sf st Q = aC P id m aqueductlaw43_FrameHolds_49 sf st (blockQ 2 Q) := rfl
def aqueductlaw43_FrameHolds_75l : List GI := [⟨none, .mv (some 119) (.r 9)⟩,
    ⟨none, .call (some 120) false (.f 39) [(.r 119)]⟩,
    ⟨none, .mv (some 121) (.r 10)⟩,
    ⟨none, .mv (some 122) (.r 12)⟩,
    ⟨none, .bin (some 123) .num .sub (.r 121) (.r 122)⟩,
    ⟨none, .bin (some 124) .num .neq (.r 120) (.r 123)⟩]
def aqueductlaw43_FrameHolds_75 : AC := .ops [0, 1, 2, 7, 9, 10, 11, 12, 13, 124] [] aqueductlaw43_FrameHolds_75l
theorem aqueductlaw43_FrameHolds_75e : aC P id m aqueductlaw43_FrameHolds_75 sf st Q = runI P id m aqueductlaw43_FrameHolds_75l (opsK [0, 1, 2, 7, 9, 10, 11, 12, 13, 124] [] Q) sf st := rfl
def aqueductlaw43_FrameHolds_78l : List GI := [⟨none, .mv (some 6) (.c (.lit (.bool false)))⟩]
def aqueductlaw43_FrameHolds_78 : AC := .ops [6] [] aqueductlaw43_FrameHolds_78l
theorem aqueductlaw43_FrameHolds_78e : aC P id m aqueductlaw43_FrameHolds_78 sf st Q = runI P id m aqueductlaw43_FrameHolds_78l (opsK [6] [] Q) sf st := rfl
def aqueductlaw43_FrameHolds_77 : AC := .seq aqueductlaw43_FrameHolds_78 .ret
theorem aqueductlaw43_FrameHolds_77e : aC P id m aqueductlaw43_FrameHolds_77 sf st Q = aC P id m aqueductlaw43_FrameHolds_78 sf st (seqQ (aC P id m .ret) Q) := rfl
def aqueductlaw43_FrameHolds_76 : AC := .cond (.r 124) aqueductlaw43_FrameHolds_77 .skip
theorem aqueductlaw43_FrameHolds_76e : aC P id m aqueductlaw43_FrameHolds_76 sf st Q = condI (.r 124) (sf.ev id (.r 124)) (aC P id m aqueductlaw43_FrameHolds_77) (aC P id m .skip) sf st Q := rfl
def aqueductlaw43_FrameHolds_74 : AC := .seq aqueductlaw43_FrameHolds_75 aqueductlaw43_FrameHolds_76
theorem aqueductlaw43_FrameHolds_74e : aC P id m aqueductlaw43_FrameHolds_74 sf st Q = aC P id m aqueductlaw43_FrameHolds_75 sf st (seqQ (aC P id m aqueductlaw43_FrameHolds_76) Q) := rfl
def aqueductlaw43_FrameHolds_47 : AC := .seq aqueductlaw43_FrameHolds_48 aqueductlaw43_FrameHolds_74
theorem aqueductlaw43_FrameHolds_47e : aC P id m aqueductlaw43_FrameHolds_47 sf st Q = aC P id m aqueductlaw43_FrameHolds_48 sf st (seqQ (aC P id m aqueductlaw43_FrameHolds_74) Q) := rfl
def aqueductlaw43_FrameHolds_45 : AC := .seq aqueductlaw43_FrameHolds_46 aqueductlaw43_FrameHolds_47
theorem aqueductlaw43_FrameHolds_45e : aC P id m aqueductlaw43_FrameHolds_45 sf st Q = aC P id m aqueductlaw43_FrameHolds_46 sf st (seqQ (aC P id m aqueductlaw43_FrameHolds_47) Q) := rfl
def aqueductlaw43_FrameHolds_39 : AC := .seq aqueductlaw43_FrameHolds_40 aqueductlaw43_FrameHolds_45
theorem aqueductlaw43_FrameHolds_39e : aC P id m aqueductlaw43_FrameHolds_39 sf st Q = aC P id m aqueductlaw43_FrameHolds_40 sf st (seqQ (aC P id m aqueductlaw43_FrameHolds_45) Q) := rfl
def aqueductlaw43_FrameHolds_34 : AC := .seq aqueductlaw43_FrameHolds_35 aqueductlaw43_FrameHolds_39
theorem aqueductlaw43_FrameHolds_34e : aC P id m aqueductlaw43_FrameHolds_34 sf st Q = aC P id m aqueductlaw43_FrameHolds_35 sf st (seqQ (aC P id m aqueductlaw43_FrameHolds_39) Q) := rfl
def aqueductlaw43_FrameHolds_32 : AC := .seq aqueductlaw43_FrameHolds_33 aqueductlaw43_FrameHolds_34
theorem aqueductlaw43_FrameHolds_32e : aC P id m aqueductlaw43_FrameHolds_32 sf st Q = aC P id m aqueductlaw43_FrameHolds_33 sf st (seqQ (aC P id m aqueductlaw43_FrameHolds_34) Q) := rfl
def aqueductlaw43_FrameHolds_31 : AC := .block 1 aqueductlaw43_FrameHolds_32
theorem aqueductlaw43_FrameHolds_31e : aC P id m aqueductlaw43_FrameHolds_31 sf st Q = aC P id m aqueductlaw43_FrameHolds_32 sf st (blockQ 1 Q) := rfl
def aqueductlaw43_FrameHolds_79l : List GI := [⟨none, .mv (some 50) (.r 13)⟩,
    ⟨none, .bin (some 51) .num .add (.r 50) (.c (.lit (.int .i64 1)))⟩,
    ⟨none, .own 13 51⟩]
def aqueductlaw43_FrameHolds_79 : AC := .ops [0, 1, 2, 7, 9, 10, 11, 12, 13] [] aqueductlaw43_FrameHolds_79l
theorem aqueductlaw43_FrameHolds_79e : aC P id m aqueductlaw43_FrameHolds_79 sf st Q = runI P id m aqueductlaw43_FrameHolds_79l (opsK [0, 1, 2, 7, 9, 10, 11, 12, 13] [] Q) sf st := rfl
def aqueductlaw43_FrameHolds_30 : AC := .seq aqueductlaw43_FrameHolds_31 aqueductlaw43_FrameHolds_79
theorem aqueductlaw43_FrameHolds_30e : aC P id m aqueductlaw43_FrameHolds_30 sf st Q = aC P id m aqueductlaw43_FrameHolds_31 sf st (seqQ (aC P id m aqueductlaw43_FrameHolds_79) Q) := rfl
def aqueductlaw43_FrameHolds_26 : AC := .seq aqueductlaw43_FrameHolds_27 aqueductlaw43_FrameHolds_30
theorem aqueductlaw43_FrameHolds_26e : aC P id m aqueductlaw43_FrameHolds_26 sf st Q = aC P id m aqueductlaw43_FrameHolds_27 sf st (seqQ (aC P id m aqueductlaw43_FrameHolds_30) Q) := rfl
def aqueductlaw43_FrameHolds_25 : AC := .loop [0, 1, 2, 7, 9, 10, 11, 12, 13] [] aqueductlaw43_FrameHolds_26
theorem aqueductlaw43_FrameHolds_25w : aC P id m aqueductlaw43_FrameHolds_25 sf st Q = loopI (aC P id m aqueductlaw43_FrameHolds_26) [0, 1, 2, 7, 9, 10, 11, 12, 13] [] sf st Q := rfl
def aqueductlaw43_FrameHolds_24 : AC := .block 0 aqueductlaw43_FrameHolds_25
theorem aqueductlaw43_FrameHolds_24e : aC P id m aqueductlaw43_FrameHolds_24 sf st Q = aC P id m aqueductlaw43_FrameHolds_25 sf st (blockQ 0 Q) := rfl
def aqueductlaw43_FrameHolds_22 : AC := .seq aqueductlaw43_FrameHolds_23 aqueductlaw43_FrameHolds_24
theorem aqueductlaw43_FrameHolds_22e : aC P id m aqueductlaw43_FrameHolds_22 sf st Q = aC P id m aqueductlaw43_FrameHolds_23 sf st (seqQ (aC P id m aqueductlaw43_FrameHolds_24) Q) := rfl
def aqueductlaw43_FrameHolds_82l : List GI := [⟨none, .mv (some 125) (.r 11)⟩,
    ⟨none, .mv (some 126) (.r 0)⟩,
    ⟨none, .len (some 127) .sl (.r 126)⟩,
    ⟨none, .bin (some 128) .num .neq (.r 125) (.r 127)⟩,
    ⟨none, .mv (some 129) (.r 128)⟩,
    ⟨some (129, false), .mv (some 130) (.r 9)⟩,
    ⟨some (129, false), .call (some 131) false (.f 39) [(.r 130)]⟩,
    ⟨some (129, false), .bin (some 132) .num .neq (.r 131) (.c (.lit (.int .i64 0)))⟩,
    ⟨none, .pick (some 133) (.r 129) (.c (.lit (.bool true))) (.r 132)⟩,
    ⟨none, .mv (some 134) (.r 133)⟩,
    ⟨some (134, false), .mv (some 135) (.r 12)⟩,
    ⟨some (134, false), .mv (some 136) (.r 7)⟩,
    ⟨some (134, false), .len (some 137) .sl (.r 136)⟩,
    ⟨some (134, false), .bin (some 138) .num .neq (.r 135) (.r 137)⟩,
    ⟨none, .pick (some 139) (.r 134) (.c (.lit (.bool true))) (.r 138)⟩]
def aqueductlaw43_FrameHolds_82 : AC := .ops [0, 2, 7, 139] [] aqueductlaw43_FrameHolds_82l
theorem aqueductlaw43_FrameHolds_82e : aC P id m aqueductlaw43_FrameHolds_82 sf st Q = runI P id m aqueductlaw43_FrameHolds_82l (opsK [0, 2, 7, 139] [] Q) sf st := rfl
def aqueductlaw43_FrameHolds_85l : List GI := [⟨none, .mv (some 6) (.c (.lit (.bool false)))⟩]
def aqueductlaw43_FrameHolds_85 : AC := .ops [6] [] aqueductlaw43_FrameHolds_85l
theorem aqueductlaw43_FrameHolds_85e : aC P id m aqueductlaw43_FrameHolds_85 sf st Q = runI P id m aqueductlaw43_FrameHolds_85l (opsK [6] [] Q) sf st := rfl
def aqueductlaw43_FrameHolds_84 : AC := .seq aqueductlaw43_FrameHolds_85 .ret
theorem aqueductlaw43_FrameHolds_84e : aC P id m aqueductlaw43_FrameHolds_84 sf st Q = aC P id m aqueductlaw43_FrameHolds_85 sf st (seqQ (aC P id m .ret) Q) := rfl
def aqueductlaw43_FrameHolds_83 : AC := .cond (.r 139) aqueductlaw43_FrameHolds_84 .skip
theorem aqueductlaw43_FrameHolds_83e : aC P id m aqueductlaw43_FrameHolds_83 sf st Q = condI (.r 139) (sf.ev id (.r 139)) (aC P id m aqueductlaw43_FrameHolds_84) (aC P id m .skip) sf st Q := rfl
def aqueductlaw43_FrameHolds_81 : AC := .seq aqueductlaw43_FrameHolds_82 aqueductlaw43_FrameHolds_83
theorem aqueductlaw43_FrameHolds_81e : aC P id m aqueductlaw43_FrameHolds_81 sf st Q = aC P id m aqueductlaw43_FrameHolds_82 sf st (seqQ (aC P id m aqueductlaw43_FrameHolds_83) Q) := rfl
def aqueductlaw43_FrameHolds_87l : List GI := [⟨none, .mv (some 140) (.r 2)⟩,
    ⟨none, .conv (some 141) (.int .i64) (.r 140)⟩,
    ⟨none, .mv (some 142) (.r 7)⟩,
    ⟨none, .len (some 143) .sl (.r 142)⟩,
    ⟨none, .bin (some 144) .num .add (.r 143) (.c (.lit (.int .i64 1)))⟩,
    ⟨none, .bin (some 145) .num .rem (.r 141) (.r 144)⟩,
    ⟨none, .own 18 145⟩]
def aqueductlaw43_FrameHolds_87 : AC := .ops [0, 7, 18] [] aqueductlaw43_FrameHolds_87l
theorem aqueductlaw43_FrameHolds_87e : aC P id m aqueductlaw43_FrameHolds_87 sf st Q = runI P id m aqueductlaw43_FrameHolds_87l (opsK [0, 7, 18] [] Q) sf st := rfl
def aqueductlaw43_FrameHolds_89l : List GI := [⟨none, .mv (some 147) (.r 7)⟩,
    ⟨none, .mv (some 148) (.r 18)⟩,
    ⟨none, .sliS (some 149) (.r 147) none (some (.r 148)) 1⟩,
    ⟨none, .call (some 150) false (.f 16) [(.r 149)]⟩,
    ⟨none, .mv (some 146) (.r 150)⟩,
    ⟨none, .ext (some 151) (.r 146) 0⟩,
    ⟨none, .ext (some 152) (.r 146) 1⟩,
    ⟨none, .ext (some 153) (.r 146) 2⟩,
    ⟨none, .own 19 151⟩,
    ⟨none, .own 20 152⟩,
    ⟨none, .own 21 153⟩]
def aqueductlaw43_FrameHolds_89 : AC := .ops [0, 18, 19, 20, 21] [] aqueductlaw43_FrameHolds_89l
theorem aqueductlaw43_FrameHolds_89e : aC P id m aqueductlaw43_FrameHolds_89 sf st Q = runI P id m aqueductlaw43_FrameHolds_89l (opsK [0, 18, 19, 20, 21] [] Q) sf st := rfl
def aqueductlaw43_FrameHolds_92l : List GI := [⟨none, .mv (some 154) (.r 21)⟩,
    ⟨none, .bin (some 155) .num .neq (.r 154) (.c (.lit (.int .i64 0)))⟩,
    ⟨none, .mv (some 156) (.r 155)⟩,
    ⟨some (156, false), .mv (some 157) (.r 20)⟩,
    ⟨some (156, false), .mv (some 158) (.r 18)⟩,
    ⟨some (156, false), .bin (some 159) .num .gtr (.r 157) (.r 158)⟩,
    ⟨none, .pick (some 160) (.r 156) (.c (.lit (.bool true))) (.r 159)⟩,
    ⟨none, .mv (some 161) (.r 160)⟩,
    ⟨some (161, false), .mv (some 162) (.r 19)⟩,
    ⟨some (161, false), .len (some 163) .sl (.r 162)⟩,
    ⟨some (161, false), .mv (some 164) (.r 0)⟩,
    ⟨some (161, false), .len (some 165) .sl (.r 164)⟩,
    ⟨some (161, false), .bin (some 166) .num .gtr (.r 163) (.r 165)⟩,
    ⟨none, .pick (some 167) (.r 161) (.c (.lit (.bool true))) (.r 166)⟩]
def aqueductlaw43_FrameHolds_92 : AC := .ops [0, 19, 167] [] aqueductlaw43_FrameHolds_92l
theorem aqueductlaw43_FrameHolds_92e : aC P id m aqueductlaw43_FrameHolds_92 sf st Q = runI P id m aqueductlaw43_FrameHolds_92l (opsK [0, 19, 167] [] Q) sf st := rfl
def aqueductlaw43_FrameHolds_95l : List GI := [⟨none, .mv (some 6) (.c (.lit (.bool false)))⟩]
def aqueductlaw43_FrameHolds_95 : AC := .ops [6] [] aqueductlaw43_FrameHolds_95l
theorem aqueductlaw43_FrameHolds_95e : aC P id m aqueductlaw43_FrameHolds_95 sf st Q = runI P id m aqueductlaw43_FrameHolds_95l (opsK [6] [] Q) sf st := rfl
def aqueductlaw43_FrameHolds_94 : AC := .seq aqueductlaw43_FrameHolds_95 .ret
theorem aqueductlaw43_FrameHolds_94e : aC P id m aqueductlaw43_FrameHolds_94 sf st Q = aC P id m aqueductlaw43_FrameHolds_95 sf st (seqQ (aC P id m .ret) Q) := rfl
def aqueductlaw43_FrameHolds_93 : AC := .cond (.r 167) aqueductlaw43_FrameHolds_94 .skip
theorem aqueductlaw43_FrameHolds_93e : aC P id m aqueductlaw43_FrameHolds_93 sf st Q = condI (.r 167) (sf.ev id (.r 167)) (aC P id m aqueductlaw43_FrameHolds_94) (aC P id m .skip) sf st Q := rfl
def aqueductlaw43_FrameHolds_91 : AC := .seq aqueductlaw43_FrameHolds_92 aqueductlaw43_FrameHolds_93
theorem aqueductlaw43_FrameHolds_91e : aC P id m aqueductlaw43_FrameHolds_91 sf st Q = aC P id m aqueductlaw43_FrameHolds_92 sf st (seqQ (aC P id m aqueductlaw43_FrameHolds_93) Q) := rfl
def aqueductlaw43_FrameHolds_98l : List GI := [⟨none, .mv (some 22) (.c (.lit (.int .i64 0)))⟩]
def aqueductlaw43_FrameHolds_98 : AC := .ops [0, 19, 22] [] aqueductlaw43_FrameHolds_98l
theorem aqueductlaw43_FrameHolds_98e : aC P id m aqueductlaw43_FrameHolds_98 sf st Q = runI P id m aqueductlaw43_FrameHolds_98l (opsK [0, 19, 22] [] Q) sf st := rfl
def aqueductlaw43_FrameHolds_103l : List GI := [⟨none, .mv (some 168) (.r 22)⟩,
    ⟨none, .mv (some 169) (.r 19)⟩,
    ⟨none, .len (some 170) .sl (.r 169)⟩,
    ⟨none, .bin (some 171) .num .lss (.r 168) (.r 170)⟩]
def aqueductlaw43_FrameHolds_103 : AC := .ops [0, 19, 22, 171] [] aqueductlaw43_FrameHolds_103l
theorem aqueductlaw43_FrameHolds_103e : aC P id m aqueductlaw43_FrameHolds_103 sf st Q = runI P id m aqueductlaw43_FrameHolds_103l (opsK [0, 19, 22, 171] [] Q) sf st := rfl
def aqueductlaw43_FrameHolds_104 : AC := .cond (.r 171) .skip (.exit [] [] 4)
theorem aqueductlaw43_FrameHolds_104e : aC P id m aqueductlaw43_FrameHolds_104 sf st Q = condI (.r 171) (sf.ev id (.r 171)) (aC P id m .skip) (aC P id m (.exit [] [] 4)) sf st Q := rfl
def aqueductlaw43_FrameHolds_102 : AC := .seq aqueductlaw43_FrameHolds_103 aqueductlaw43_FrameHolds_104
theorem aqueductlaw43_FrameHolds_102e : aC P id m aqueductlaw43_FrameHolds_102 sf st Q = aC P id m aqueductlaw43_FrameHolds_103 sf st (seqQ (aC P id m aqueductlaw43_FrameHolds_104) Q) := rfl
def aqueductlaw43_FrameHolds_108h : List GI := [⟨none, .mv (some 174) (.r 19)⟩,
    ⟨none, .mv (some 175) (.r 22)⟩,
    ⟨none, .ixS (some 176) (.r 174) (.r 175) 2⟩,
    ⟨none, .load (some 177) (.r 176) (some 2)⟩,
    ⟨none, .mv (some 178) (.r 0)⟩,
    ⟨none, .mv (some 179) (.r 22)⟩,
    ⟨none, .ixS (some 180) (.r 178) (.r 179) 2⟩,
    ⟨none, .load (some 181) (.r 180) (some 2)⟩]
def aqueductlaw43_FrameHolds_108l : List GI := [⟨none, .call (some 182) false (.f 41) [(.r 177), (.r 181)]⟩,
    ⟨none, .un (some 183) .not (.r 182)⟩]
def aqueductlaw43_FrameHolds_108 : AC := .draw [0, 19, 22, 183] [] [] aqueductlaw43_FrameHolds_108h aqueductlaw43_FrameHolds_108l
theorem aqueductlaw43_FrameHolds_108e : aC P id m aqueductlaw43_FrameHolds_108 sf st Q = headI P id sf.locs st aqueductlaw43_FrameHolds_108h (tailK P id m [] [0, 19, 22, 183] [] aqueductlaw43_FrameHolds_108l Q st) [] ⟨sf.regs, dropL [] sf.locs⟩ := rfl
def aqueductlaw43_FrameHolds_111l : List GI := [⟨none, .mv (some 6) (.c (.lit (.bool false)))⟩]
def aqueductlaw43_FrameHolds_111 : AC := .ops [6] [] aqueductlaw43_FrameHolds_111l
theorem aqueductlaw43_FrameHolds_111e : aC P id m aqueductlaw43_FrameHolds_111 sf st Q = runI P id m aqueductlaw43_FrameHolds_111l (opsK [6] [] Q) sf st := rfl
def aqueductlaw43_FrameHolds_110 : AC := .seq aqueductlaw43_FrameHolds_111 .ret
theorem aqueductlaw43_FrameHolds_110e : aC P id m aqueductlaw43_FrameHolds_110 sf st Q = aC P id m aqueductlaw43_FrameHolds_111 sf st (seqQ (aC P id m .ret) Q) := rfl
def aqueductlaw43_FrameHolds_109 : AC := .cond (.r 183) aqueductlaw43_FrameHolds_110 .skip
theorem aqueductlaw43_FrameHolds_109e : aC P id m aqueductlaw43_FrameHolds_109 sf st Q = condI (.r 183) (sf.ev id (.r 183)) (aC P id m aqueductlaw43_FrameHolds_110) (aC P id m .skip) sf st Q := rfl
def aqueductlaw43_FrameHolds_107 : AC := .seq aqueductlaw43_FrameHolds_108 aqueductlaw43_FrameHolds_109
theorem aqueductlaw43_FrameHolds_107e : aC P id m aqueductlaw43_FrameHolds_107 sf st Q = aC P id m aqueductlaw43_FrameHolds_108 sf st (seqQ (aC P id m aqueductlaw43_FrameHolds_109) Q) := rfl
def aqueductlaw43_FrameHolds_106 : AC := .block 5 aqueductlaw43_FrameHolds_107
theorem aqueductlaw43_FrameHolds_106e : aC P id m aqueductlaw43_FrameHolds_106 sf st Q = aC P id m aqueductlaw43_FrameHolds_107 sf st (blockQ 5 Q) := rfl
def aqueductlaw43_FrameHolds_112l : List GI := [⟨none, .mv (some 172) (.r 22)⟩,
    ⟨none, .bin (some 173) .num .add (.r 172) (.c (.lit (.int .i64 1)))⟩,
    ⟨none, .own 22 173⟩]
def aqueductlaw43_FrameHolds_112 : AC := .ops [0, 19, 22] [] aqueductlaw43_FrameHolds_112l
theorem aqueductlaw43_FrameHolds_112e : aC P id m aqueductlaw43_FrameHolds_112 sf st Q = runI P id m aqueductlaw43_FrameHolds_112l (opsK [0, 19, 22] [] Q) sf st := rfl
def aqueductlaw43_FrameHolds_105 : AC := .seq aqueductlaw43_FrameHolds_106 aqueductlaw43_FrameHolds_112
theorem aqueductlaw43_FrameHolds_105e : aC P id m aqueductlaw43_FrameHolds_105 sf st Q = aC P id m aqueductlaw43_FrameHolds_106 sf st (seqQ (aC P id m aqueductlaw43_FrameHolds_112) Q) := rfl
def aqueductlaw43_FrameHolds_101 : AC := .seq aqueductlaw43_FrameHolds_102 aqueductlaw43_FrameHolds_105
theorem aqueductlaw43_FrameHolds_101e : aC P id m aqueductlaw43_FrameHolds_101 sf st Q = aC P id m aqueductlaw43_FrameHolds_102 sf st (seqQ (aC P id m aqueductlaw43_FrameHolds_105) Q) := rfl
def aqueductlaw43_FrameHolds_100 : AC := .loop [0, 19, 22] [] aqueductlaw43_FrameHolds_101
theorem aqueductlaw43_FrameHolds_100w : aC P id m aqueductlaw43_FrameHolds_100 sf st Q = loopI (aC P id m aqueductlaw43_FrameHolds_101) [0, 19, 22] [] sf st Q := rfl
def aqueductlaw43_FrameHolds_99 : AC := .block 4 aqueductlaw43_FrameHolds_100
theorem aqueductlaw43_FrameHolds_99e : aC P id m aqueductlaw43_FrameHolds_99 sf st Q = aC P id m aqueductlaw43_FrameHolds_100 sf st (blockQ 4 Q) := rfl
def aqueductlaw43_FrameHolds_97 : AC := .seq aqueductlaw43_FrameHolds_98 aqueductlaw43_FrameHolds_99
theorem aqueductlaw43_FrameHolds_97e : aC P id m aqueductlaw43_FrameHolds_97 sf st Q = aC P id m aqueductlaw43_FrameHolds_98 sf st (seqQ (aC P id m aqueductlaw43_FrameHolds_99) Q) := rfl
def aqueductlaw43_FrameHolds_114l : List GI := [⟨none, .call (some 184) false (.f 14) []⟩,
    ⟨none, .own 6 184⟩]
def aqueductlaw43_FrameHolds_114 : AC := .ops [6] [] aqueductlaw43_FrameHolds_114l
theorem aqueductlaw43_FrameHolds_114e : aC P id m aqueductlaw43_FrameHolds_114 sf st Q = runI P id m aqueductlaw43_FrameHolds_114l (opsK [6] [] Q) sf st := rfl
def aqueductlaw43_FrameHolds_113 : AC := .seq aqueductlaw43_FrameHolds_114 .ret
theorem aqueductlaw43_FrameHolds_113e : aC P id m aqueductlaw43_FrameHolds_113 sf st Q = aC P id m aqueductlaw43_FrameHolds_114 sf st (seqQ (aC P id m .ret) Q) := rfl
def aqueductlaw43_FrameHolds_96 : AC := .seq aqueductlaw43_FrameHolds_97 aqueductlaw43_FrameHolds_113
theorem aqueductlaw43_FrameHolds_96e : aC P id m aqueductlaw43_FrameHolds_96 sf st Q = aC P id m aqueductlaw43_FrameHolds_97 sf st (seqQ (aC P id m aqueductlaw43_FrameHolds_113) Q) := rfl
def aqueductlaw43_FrameHolds_90 : AC := .seq aqueductlaw43_FrameHolds_91 aqueductlaw43_FrameHolds_96
theorem aqueductlaw43_FrameHolds_90e : aC P id m aqueductlaw43_FrameHolds_90 sf st Q = aC P id m aqueductlaw43_FrameHolds_91 sf st (seqQ (aC P id m aqueductlaw43_FrameHolds_96) Q) := rfl
def aqueductlaw43_FrameHolds_88 : AC := .seq aqueductlaw43_FrameHolds_89 aqueductlaw43_FrameHolds_90
theorem aqueductlaw43_FrameHolds_88e : aC P id m aqueductlaw43_FrameHolds_88 sf st Q = aC P id m aqueductlaw43_FrameHolds_89 sf st (seqQ (aC P id m aqueductlaw43_FrameHolds_90) Q) := rfl
def aqueductlaw43_FrameHolds_86 : AC := .seq aqueductlaw43_FrameHolds_87 aqueductlaw43_FrameHolds_88
theorem aqueductlaw43_FrameHolds_86e : aC P id m aqueductlaw43_FrameHolds_86 sf st Q = aC P id m aqueductlaw43_FrameHolds_87 sf st (seqQ (aC P id m aqueductlaw43_FrameHolds_88) Q) := rfl
def aqueductlaw43_FrameHolds_80 : AC := .seq aqueductlaw43_FrameHolds_81 aqueductlaw43_FrameHolds_86
theorem aqueductlaw43_FrameHolds_80e : aC P id m aqueductlaw43_FrameHolds_80 sf st Q = aC P id m aqueductlaw43_FrameHolds_81 sf st (seqQ (aC P id m aqueductlaw43_FrameHolds_86) Q) := rfl
def aqueductlaw43_FrameHolds_21 : AC := .seq aqueductlaw43_FrameHolds_22 aqueductlaw43_FrameHolds_80
theorem aqueductlaw43_FrameHolds_21e : aC P id m aqueductlaw43_FrameHolds_21 sf st Q = aC P id m aqueductlaw43_FrameHolds_22 sf st (seqQ (aC P id m aqueductlaw43_FrameHolds_80) Q) := rfl
def aqueductlaw43_FrameHolds_19 : AC := .seq aqueductlaw43_FrameHolds_20 aqueductlaw43_FrameHolds_21
theorem aqueductlaw43_FrameHolds_19e : aC P id m aqueductlaw43_FrameHolds_19 sf st Q = aC P id m aqueductlaw43_FrameHolds_20 sf st (seqQ (aC P id m aqueductlaw43_FrameHolds_21) Q) := rfl
def aqueductlaw43_FrameHolds_17 : AC := .seq aqueductlaw43_FrameHolds_18 aqueductlaw43_FrameHolds_19
theorem aqueductlaw43_FrameHolds_17e : aC P id m aqueductlaw43_FrameHolds_17 sf st Q = aC P id m aqueductlaw43_FrameHolds_18 sf st (seqQ (aC P id m aqueductlaw43_FrameHolds_19) Q) := rfl
def aqueductlaw43_FrameHolds_11 : AC := .seq aqueductlaw43_FrameHolds_12 aqueductlaw43_FrameHolds_17
theorem aqueductlaw43_FrameHolds_11e : aC P id m aqueductlaw43_FrameHolds_11 sf st Q = aC P id m aqueductlaw43_FrameHolds_12 sf st (seqQ (aC P id m aqueductlaw43_FrameHolds_17) Q) := rfl
def aqueductlaw43_FrameHolds_9 : AC := .seq aqueductlaw43_FrameHolds_10 aqueductlaw43_FrameHolds_11
theorem aqueductlaw43_FrameHolds_9e : aC P id m aqueductlaw43_FrameHolds_9 sf st Q = aC P id m aqueductlaw43_FrameHolds_10 sf st (seqQ (aC P id m aqueductlaw43_FrameHolds_11) Q) := rfl
def aqueductlaw43_FrameHolds_3 : AC := .seq aqueductlaw43_FrameHolds_4 aqueductlaw43_FrameHolds_9
theorem aqueductlaw43_FrameHolds_3e : aC P id m aqueductlaw43_FrameHolds_3 sf st Q = aC P id m aqueductlaw43_FrameHolds_4 sf st (seqQ (aC P id m aqueductlaw43_FrameHolds_9) Q) := rfl
def aqueductlaw43_FrameHolds_1 : AC := .seq aqueductlaw43_FrameHolds_2 aqueductlaw43_FrameHolds_3
theorem aqueductlaw43_FrameHolds_1e : aC P id m aqueductlaw43_FrameHolds_1 sf st Q = aC P id m aqueductlaw43_FrameHolds_2 sf st (seqQ (aC P id m aqueductlaw43_FrameHolds_3) Q) := rfl
def c_aqueductlaw43_FrameHolds : AFun := ⟨185, [.tmp 6], aqueductlaw43_FrameHolds_1⟩
theorem k_aqueductlaw43_FrameHolds : compF Go.Proofs.Try.prog x_aqueductlaw43_FrameHolds 11 = some c_aqueductlaw43_FrameHolds := by kernel_rfl
theorem e_aqueductlaw43_FrameHolds : enterB Go.Proofs.Try.prog 11 = true := by kernel_rfl

def n_aqueductlaw43_known : Nat := 14
def x_aqueductlaw43_known : Cx := ⟨some, id, 104, fun s => ([0, 1, 2, 3, 4, 5, 6, 7, 10, 13, 16, 17, 18, 19, 20, 21, 22, 23, 24, 25, 26, 27, 28, 29, 30, 31, 32, 33, 34, 35, 36, 37, 38, 39, 40, 41, 42, 43, 44, 45, 46, 47, 48, 49, 50, 51, 52, 53, 54, 55, 56, 57, 58, 59, 60, 61, 62, 63, 64, 65, 66, 67, 68, 69, 70, 71, 72, 73, 74, 75, 76, 77, 80, 81, 82, 83, 84, 85, 86, 87, 88, 89, 90, 91, 92, 93, 94, 95, 96, 97, 98, 99, 100, 101, 102, 103] : List Nat).contains s, fun s => ([] : List Nat).contains s, msOf [(2, [], []), (6, [1, 2], []), (14, [1, 2, 3, 4], []), (30, [1, 2, 3, 4, 5, 6, 7], []), (62, [1, 2, 3, 4, 5, 6, 7, 10], []), (126, [1, 2, 3, 4, 5, 6, 7, 10, 13], []), (254, [1, 2, 3, 4, 5, 6, 7, 10, 13, 16], []), (510, [0], [])]⟩
def aqueductlaw43_known_2l : List GI := [⟨none, .mv (some 0) (.c (.lit (.bool false)))⟩]
def aqueductlaw43_known_2 : AC := .ops [] [] aqueductlaw43_known_2l
theorem aqueductlaw43_known_2e : aC P id m aqueductlaw43_known_2 sf st Q = runI P id m aqueductlaw43_known_2l (opsK [] [] Q) sf st := rfl
def aqueductlaw43_known_4l : List GI := [⟨none, .bst (some 18) [(0, 1), (1, 1)] (.agg [(.lit (.int .u8 0)), (.lit (.slice none 0 0))]) [(0, (.c (.lit (.int .u8 7))))]⟩,
    ⟨none, .call (some 19) false (.f 20) [(.r 18)]⟩,
    ⟨none, .mv (some 17) (.r 19)⟩,
    ⟨none, .ext (some 20) (.r 17) 0⟩,
    ⟨none, .ext (some 21) (.r 17) 1⟩,
    ⟨none, .own 1 20⟩,
    ⟨none, .own 2 21⟩]
def aqueductlaw43_known_4 : AC := .ops [1, 2] [] aqueductlaw43_known_4l
theorem aqueductlaw43_known_4e : aC P id m aqueductlaw43_known_4 sf st Q = runI P id m aqueductlaw43_known_4l (opsK [1, 2] [] Q) sf st := rfl
def aqueductlaw43_known_6l : List GI := [⟨none, .bsl (some 23) 1 1 (.lit (.int .u8 0)) [(0, (.c (.lit (.int .u8 1))))]⟩,
    ⟨none, .bst (some 24) [(0, 1), (1, 1)] (.agg [(.lit (.int .u8 0)), (.lit (.slice none 0 0))]) [(1, (.r 23))]⟩,
    ⟨none, .call (some 25) false (.f 20) [(.r 24)]⟩,
    ⟨none, .mv (some 22) (.r 25)⟩,
    ⟨none, .ext (some 26) (.r 22) 0⟩,
    ⟨none, .ext (some 27) (.r 22) 1⟩,
    ⟨none, .own 3 26⟩,
    ⟨none, .own 4 27⟩]
def aqueductlaw43_known_6 : AC := .ops [1, 2, 3, 4] [] aqueductlaw43_known_6l
theorem aqueductlaw43_known_6e : aC P id m aqueductlaw43_known_6 sf st Q = runI P id m aqueductlaw43_known_6l (opsK [1, 2, 3, 4] [] Q) sf st := rfl
def aqueductlaw43_known_8l : List GI := [⟨none, .bsl (some 29) 1 7 (.lit (.int .u8 0)) [(0, (.c (.lit (.int .u8 197)))), (1, (.c (.lit (.int .u8 7)))), (2, (.c (.lit (.int .u8 0)))), (3, (.c (.lit (.int .u8 0)))), (4, (.c (.lit (.int .u8 142)))), (5, (.c (.lit (.int .u8 166)))), (6, (.c (.lit (.int .u8 197))))]⟩,
    ⟨none, .call (some 30) false (.f 16) [(.r 29)]⟩,
    ⟨none, .mv (some 28) (.r 30)⟩,
    ⟨none, .ext (some 31) (.r 28) 0⟩,
    ⟨none, .ext (some 32) (.r 28) 1⟩,
    ⟨none, .ext (some 33) (.r 28) 2⟩,
    ⟨none, .own 5 31⟩,
    ⟨none, .own 6 32⟩,
    ⟨none, .own 7 33⟩]
def aqueductlaw43_known_8 : AC := .ops [1, 2, 3, 4, 5, 6, 7] [] aqueductlaw43_known_8l
theorem aqueductlaw43_known_8e : aC P id m aqueductlaw43_known_8 sf st Q = runI P id m aqueductlaw43_known_8l (opsK [1, 2, 3, 4, 5, 6, 7] [] Q) sf st := rfl
def aqueductlaw43_known_10l : List GI := [⟨none, .bsl (some 35) 1 1 (.lit (.int .u8 0)) [(0, (.c (.lit (.int .u8 7))))]⟩,
    ⟨none, .call (some 36) false (.f 16) [(.r 35)]⟩,
    ⟨none, .mv (some 34) (.r 36)⟩,
    ⟨none, .ext (some 37) (.r 34) 0⟩,
    ⟨none, .ext (some 38) (.r 34) 1⟩,
    ⟨none, .ext (some 39) (.r 34) 2⟩,
    ⟨none, .own 8 37⟩,
    ⟨none, .own 9 38⟩,
    ⟨none, .own 10 39⟩]
def aqueductlaw43_known_10 : AC := .ops [1, 2, 3, 4, 5, 6, 7, 10] [] aqueductlaw43_known_10l
theorem aqueductlaw43_known_10e : aC P id m aqueductlaw43_known_10 sf st Q = runI P id m aqueductlaw43_known_10l (opsK [1, 2, 3, 4, 5, 6, 7, 10] [] Q) sf st := rfl
def aqueductlaw43_known_12l : List GI := [⟨none, .bsl (some 41) 1 4 (.lit (.int .u8 0)) [(0, (.c (.lit (.int .u8 197)))), (1, (.c (.lit (.int .u8 0)))), (2, (.c (.lit (.int .u8 4)))), (3, (.c (.lit (.int .u8 1))))]⟩,
    ⟨none, .call (some 42) false (.f 16) [(.r 41)]⟩,
    ⟨none, .mv (some 40) (.r 42)⟩,
    ⟨none, .ext (some 43) (.r 40) 0⟩,
    ⟨none, .ext (some 44) (.r 40) 1⟩,
    ⟨none, .ext (some 45) (.r 40) 2⟩,
    ⟨none, .own 11 43⟩,
    ⟨none, .own 12 44⟩,
    ⟨none, .own 13 45⟩]
def aqueductlaw43_known_12 : AC := .ops [1, 2, 3, 4, 5, 6, 7, 10, 13] [] aqueductlaw43_known_12l
theorem aqueductlaw43_known_12e : aC P id m aqueductlaw43_known_12 sf st Q = runI P id m aqueductlaw43_known_12l (opsK [1, 2, 3, 4, 5, 6, 7, 10, 13] [] Q) sf st := rfl
def aqueductlaw43_known_14l : List GI := [⟨none, .bsl (some 47) 1 6 (.lit (.int .u8 0)) [(0, (.c (.lit (.int .u8 197)))), (1, (.c (.lit (.int .u8 7)))), (2, (.c (.lit (.int .u8 0)))), (3, (.c (.lit (.int .u8 0)))), (4, (.c (.lit (.int .u8 142)))), (5, (.c (.lit (.int .u8 165))))]⟩,
    ⟨none, .call (some 48) false (.f 16) [(.r 47)]⟩,
    ⟨none, .mv (some 46) (.r 48)⟩,
    ⟨none, .ext (some 49) (.r 46) 0⟩,
    ⟨none, .ext (some 50) (.r 46) 1⟩,
    ⟨none, .ext (some 51) (.r 46) 2⟩,
    ⟨none, .own 14 49⟩,
    ⟨none, .own 15 50⟩,
    ⟨none, .own 16 51⟩]
def aqueductlaw43_known_14 : AC := .ops [1, 2, 3, 4, 5, 6, 7, 10, 13, 16] [] aqueductlaw43_known_14l
theorem aqueductlaw43_known_14e : aC P id m aqueductlaw43_known_14 sf st Q = runI P id m aqueductlaw43_known_14l (opsK [1, 2, 3, 4, 5, 6, 7, 10, 13, 16] [] Q) sf st := rfl
def aqueductlaw43_known_16l : List GI := [⟨none, .mv (some 52) (.r 1)⟩,
    ⟨none, .conv (some 53) .bs (.r 52)⟩,
    ⟨none, .bsl (some 54) 1 6 (.lit (.int .u8 0)) [(0, (.c (.lit (.int .u8 197)))), (1, (.c (.lit (.int .u8 7)))), (2, (.c (.lit (.int .u8 0)))), (3, (.c (.lit (.int .u8 0)))), (4, (.c (.lit (.int .u8 142)))), (5, (.c (.lit (.int .u8 166))))]⟩,
    ⟨none, .conv (some 55) .bs (.r 54)⟩,
    ⟨none, .bin (some 56) .num .eql (.r 53) (.r 55)⟩,
    ⟨none, .mv (some 57) (.r 56)⟩,
    ⟨some (57, true), .mv (some 58) (.r 2)⟩,
    ⟨some (57, true), .bin (some 59) .num .eql (.r 58) (.c (.lit (.int .i64 0)))⟩,
    ⟨none, .pick (some 60) (.r 57) (.r 59) (.c (.lit (.bool false)))⟩,
    ⟨none, .mv (some 61) (.r 60)⟩,
    ⟨some (61, true), .mv (some 62) (.r 3)⟩,
    ⟨some (61, true), .conv (some 63) .bs (.r 62)⟩,
    ⟨some (61, true), .bsl (some 64) 1 7 (.lit (.int .u8 0)) [(0, (.c (.lit (.int .u8 197)))), (1, (.c (.lit (.int .u8 0)))), (2, (.c (.lit (.int .u8 0)))), (3, (.c (.lit (.int .u8 1)))), (4, (.c (.lit (.int .u8 1)))), (5, (.c (.lit (.int .u8 24)))), (6, (.c (.lit (.int .u8 115))))]⟩,
    ⟨some (61, true), .conv (some 65) .bs (.r 64)⟩,
    ⟨some (61, true), .bin (some 66) .num .eql (.r 63) (.r 65)⟩,
    ⟨none, .pick (some 67) (.r 61) (.r 66) (.c (.lit (.bool false)))⟩,
    ⟨none, .mv (some 68) (.r 67)⟩,
    ⟨some (68, true), .mv (some 69) (.r 4)⟩,
    ⟨some (68, true), .bin (some 70) .num .eql (.r 69) (.c (.lit (.int .i64 0)))⟩,
    ⟨none, .pick (some 71) (.r 68) (.r 70) (.c (.lit (.bool false)))⟩,
    ⟨none, .mv (some 72) (.r 71)⟩,
    ⟨some (72, true), .mv (some 73) (.r 5)⟩,
    ⟨some (72, true), .len (some 74) .sl (.r 73)⟩,
    ⟨some (72, true), .bin (some 75) .num .eql (.r 74) (.c (.lit (.int .i64 1)))⟩,
    ⟨none, .pick (some 76) (.r 72) (.r 75) (.c (.lit (.bool false)))⟩,
    ⟨none, .mv (some 77) (.r 76)⟩,
    ⟨some (77, true), .mv (some 78) (.r 5)⟩,
    ⟨some (77, true), .ixS (some 79) (.r 78) (.c (.lit (.int .i64 0))) 2⟩,
    ⟨some (77, true), .load (some 80) (.r 79) (some 2)⟩,
    ⟨some (77, true), .bst (some 81) [(0, 1), (1, 1)] (.agg [(.lit (.int .u8 0)), (.lit (.slice none 0 0))]) [(0, (.c (.lit (.int .u8 7))))]⟩,
    ⟨some (77, true), .call (some 82) false (.f 41) [(.r 80), (.r 81)]⟩,
    ⟨none, .pick (some 83) (.r 77) (.r 82) (.c (.lit (.bool false)))⟩,
    ⟨none, .mv (some 84) (.r 83)⟩,
    ⟨some (84, true), .mv (some 85) (.r 6)⟩,
    ⟨some (84, true), .bin (some 86) .num .eql (.r 85) (.c (.lit (.int .i64 6)))⟩,
    ⟨none, .pick (some 87) (.r 84) (.r 86) (.c (.lit (.bool false)))⟩,
    ⟨none, .mv (some 88) (.r 87)⟩,
    ⟨some (88, true), .mv (some 89) (.r 7)⟩,
    ⟨some (88, true), .bin (some 90) .num .eql (.r 89) (.c (.lit (.int .i64 0)))⟩,
    ⟨none, .pick (some 91) (.r 88) (.r 90) (.c (.lit (.bool false)))⟩,
    ⟨none, .mv (some 92) (.r 91)⟩,
    ⟨some (92, true), .mv (some 93) (.r 10)⟩,
    ⟨some (92, true), .bin (some 94) .num .eql (.r 93) (.c (.lit (.int .i64 6)))⟩,
    ⟨none, .pick (some 95) (.r 92) (.r 94) (.c (.lit (.bool false)))⟩,
    ⟨none, .mv (some 96) (.r 95)⟩,
    ⟨some (96, true), .mv (some 97) (.r 13)⟩,
    ⟨some (96, true), .bin (some 98) .num .eql (.r 97) (.c (.lit (.int .i64 5)))⟩,
    ⟨none, .pick (some 99) (.r 96) (.r 98) (.c (.lit (.bool false)))⟩,
    ⟨none, .mv (some 100) (.r 99)⟩,
    ⟨some (100, true), .mv (some 101) (.r 16)⟩,
    ⟨some (100, true), .bin (some 102) .num .eql (.r 101) (.c (.lit (.int .i64 10)))⟩,
    ⟨none, .pick (some 103) (.r 100) (.r 102) (.c (.lit (.bool false)))⟩,
    ⟨none, .own 0 103⟩]
def aqueductlaw43_known_16 : AC := .ops [0] [] aqueductlaw43_known_16l
theorem aqueductlaw43_known_16e : aC P id m aqueductlaw43_known_16 sf st Q = runI P id m aqueductlaw43_known_16l (opsK [0] [] Q) sf st := rfl
def aqueductlaw43_known_15 : AC := .seq aqueductlaw43_known_16 .ret
theorem aqueductlaw43_known_15e : aC P id m aqueductlaw43_known_15 sf st Q = aC P id m aqueductlaw43_known_16 sf st (seqQ (aC P id m .ret) Q) := rfl
def aqueductlaw43_known_13 : AC := .seq aqueductlaw43_known_14 aqueductlaw43_known_15
theorem aqueductlaw43_known_13e : aC P id m aqueductlaw43_known_13 sf st Q = aC P id m aqueductlaw43_known_14 sf st (seqQ (aC P id m aqueductlaw43_known_15) Q) := rfl
def aqueductlaw43_known_11 : AC := .seq aqueductlaw43_known_12 aqueductlaw43_known_13
theorem aqueductlaw43_known_11e : aC P id m aqueductlaw43_known_11 sf st Q = aC P id m aqueductlaw43_known_12 sf st (seqQ (aC P id m aqueductlaw43_known_13) Q) := rfl
def aqueductlaw43_known_9 : AC := .seq aqueductlaw43_known_10 aqueductlaw43_known_11
theorem aqueductlaw43_known_9e : aC P id m aqueductlaw43_known_9 sf st Q = aC P id m aqueductlaw43_known_10 sf st (seqQ (aC P id m aqueductlaw43_known_11) Q) := rfl
def aqueductlaw43_known_7 : AC := .seq aqueductlaw43_known_8 aqueductlaw43_known_9
theorem aqueductlaw43_known_7e : aC P id m aqueductlaw43_known_7 sf st Q = aC P id m aqueductlaw43_known_8 sf st (seqQ (aC P id m aqueductlaw43_known_9) Q) := rfl
def aqueductlaw43_known_5 : AC := .seq aqueductlaw43_known_6 aqueductlaw43_known_7
theorem aqueductlaw43_known_5e : aC P id m aqueductlaw43_known_5 sf st Q = aC P id m aqueductlaw43_known_6 sf st (seqQ (aC P id m aqueductlaw43_known_7) Q) := rfl
def aqueductlaw43_known_3 : AC := .seq aqueductlaw43_known_4 aqueductlaw43_known_5
theorem aqueductlaw43_known_3e : aC P id m aqueductlaw43_known_3 sf st Q = aC P id m aqueductlaw43_known_4 sf st (seqQ (aC P id m aqueductlaw43_known_5) Q) := rfl
def aqueductlaw43_known_1 : AC := .seq aqueductlaw43_known_2 aqueductlaw43_known_3
theorem aqueductlaw43_known_1e : aC P id m aqueductlaw43_known_1 sf st Q = aC P id m aqueductlaw43_known_2 sf st (seqQ (aC P id m aqueductlaw43_known_3) Q) := rfl
def c_aqueductlaw43_known : AFun := ⟨104, [.tmp 0], aqueductlaw43_known_1⟩
theorem k_aqueductlaw43_known : compF Go.Proofs.Try.prog x_aqueductlaw43_known 14 = some c_aqueductlaw43_known := by kernel_rfl
theorem e_aqueductlaw43_known : enterB Go.Proofs.Try.prog 14 = true := by kernel_rfl

def n_aqueductref43_Encode : Nat := 15
def x_aqueductref43_Encode : Cx := ⟨some, id, 59, fun s => ([0, 2, 3, 4, 5, 6, 8, 10, 11, 12, 13, 15, 16, 17, 18, 19, 20, 22, 23, 25, 26, 27, 30, 32, 33, 34, 35, 36, 37, 39, 40, 41, 42, 44, 46, 47, 48, 49, 50, 51, 52, 53, 54, 55, 56, 57, 58] : List Nat).contains s, fun s => ([] : List Nat).contains s, msOf [(2, [1], [1]), (6, [1, 3], [1]), (28, [1, 3, 4], [1]), (58, [1, 3, 4], [1]), (464, [1, 3, 4, 24], [1]), (931, [3], []), (932, [1, 3, 4], [1]), (467, [1, 3, 4], [1]), (30, [3, 5], []), (124, [3, 5, 6], []), (250, [3, 5, 6], []), (2000, [3, 5, 6, 38], []), (4003, [3, 5], []), (4004, [3, 5, 6], []), (2003, [3, 5, 6], []), (126, [2], [])]⟩
def aqueductref43_Encode_2l : List GI := [⟨none, .boxL 1 2 (.r 0)⟩,
    ⟨none, .mv (some 2) (.c (.lit (.slice none 0 0)))⟩]
def aqueductref43_Encode_2 : AC := .ops [1] [1] aqueductref43_Encode_2l
theorem aqueductref43_Encode_2e : aC P id m aqueductref43_Encode_2 sf st Q = runI P id m aqueductref43_Encode_2l (opsK [1] [1] Q) sf st := rfl
def aqueductref43_Encode_4l : List GI := [⟨none, .addr (some 7) (.r 1) 0⟩,
    ⟨none, .load (some 8) (.r 7) none⟩,
    ⟨none, .addr (some 9) (.r 1) 1⟩,
    ⟨none, .load (some 10) (.r 9) none⟩,
    ⟨none, .len (some 11) .sl (.r 10)⟩,
    ⟨none, .bin (some 12) .num .quo (.r 11) (.c (.lit (.int .i64 256)))⟩,
    ⟨none, .conv (some 13) (.int .u8) (.r 12)⟩,
    ⟨none, .addr (some 14) (.r 1) 1⟩,
    ⟨none, .load (some 15) (.r 14) none⟩,
    ⟨none, .len (some 16) .sl (.r 15)⟩,
    ⟨none, .bin (some 17) .num .rem (.r 16) (.c (.lit (.int .i64 256)))⟩,
    ⟨none, .conv (some 18) (.int .u8) (.r 17)⟩,
    ⟨none, .bsl (some 19) 1 4 (.lit (.int .u8 0)) [(0, (.c (.lit (.int .u8 197)))), (1, (.r 8)), (2, (.r 13)), (3, (.r 18))]⟩,
    ⟨none, .own 3 19⟩]
def aqueductref43_Encode_4 : AC := .ops [1, 3] [1] aqueductref43_Encode_4l
theorem aqueductref43_Encode_4e : aC P id m aqueductref43_Encode_4 sf st Q = runI P id m aqueductref43_Encode_4l (opsK [1, 3] [1] Q) sf st := rfl
def aqueductref43_Encode_7l : List GI := [⟨none, .mv (some 4) (.c (.lit (.int .i64 0)))⟩]
def aqueductref43_Encode_7 : AC := .ops [1, 3, 4] [1] aqueductref43_Encode_7l
theorem aqueductref43_Encode_7e : aC P id m aqueductref43_Encode_7 sf st Q = runI P id m aqueductref43_Encode_7l (opsK [1, 3, 4] [1] Q) sf st := rfl
def aqueductref43_Encode_12l : List GI := [⟨none, .mv (some 20) (.r 4)⟩,
    ⟨none, .addr (some 21) (.r 1) 1⟩,
    ⟨none, .load (some 22) (.r 21) none⟩,
    ⟨none, .len (some 23) .sl (.r 22)⟩,
    ⟨none, .bin (some 24) .num .lss (.r 20) (.r 23)⟩]
def aqueductref43_Encode_12 : AC := .ops [1, 3, 4, 24] [1] aqueductref43_Encode_12l
theorem aqueductref43_Encode_12e : aC P id m aqueductref43_Encode_12 sf st Q = runI P id m aqueductref43_Encode_12l (opsK [1, 3, 4, 24] [1] Q) sf st := rfl
def aqueductref43_Encode_13 : AC := .cond (.r 24) .skip (.exit [3] [] 0)
theorem aqueductref43_Encode_13e : aC P id m aqueductref43_Encode_13 sf st Q = condI (.r 24) (sf.ev id (.r 24)) (aC P id m .skip) (aC P id m (.exit [3] [] 0)) sf st Q := rfl
def aqueductref43_Encode_11 : AC := .seq aqueductref43_Encode_12 aqueductref43_Encode_13
theorem aqueductref43_Encode_11e : aC P id m aqueductref43_Encode_11 sf st Q = aC P id m aqueductref43_Encode_12 sf st (seqQ (aC P id m aqueductref43_Encode_13) Q) := rfl
def aqueductref43_Encode_16l : List GI := [⟨none, .own 27 3⟩,
    ⟨none, .addr (some 28) (.r 1) 1⟩,
    ⟨none, .load (some 29) (.r 28) none⟩,
    ⟨none, .mv (some 30) (.r 4)⟩,
    ⟨none, .ixS (some 31) (.r 29) (.r 30) 1⟩,
    ⟨none, .load (some 32) (.r 31) none⟩,
    ⟨none, .bsl (some 33) 1 1 (.lit (.int .u8 0)) [(0, (.r 32))]⟩,
    ⟨none, .appS 34 27 1 1 (.r 33)⟩,
    ⟨none, .own 3 34⟩]
def aqueductref43_Encode_16 : AC := .ops [1, 3, 4] [1] aqueductref43_Encode_16l
theorem aqueductref43_Encode_16e : aC P id m aqueductref43_Encode_16 sf st Q = runI P id m aqueductref43_Encode_16l (opsK [1, 3, 4] [1] Q) sf st := rfl
def aqueductref43_Encode_15 : AC := .block 1 aqueductref43_Encode_16
theorem aqueductref43_Encode_15e : aC P id m aqueductref43_Encode_15 sf st Q = aC P id m aqueductref43_Encode_16 sf st (blockQ 1 Q) := rfl
def aqueductref43_Encode_17l : List GI := [⟨none, .mv (some 25) (.r 4)⟩,
    ⟨none, .bin (some 26) .num .add (.r 25) (.c (.lit (.int .i64 1)))⟩,
    ⟨none, .own 4 26⟩]
def aqueductref43_Encode_17 : AC := .ops [1, 3, 4] [1] aqueductref43_Encode_17l
theorem aqueductref43_Encode_17e : aC P id m aqueductref43_Encode_17 sf st Q = runI P id m aqueductref43_Encode_17l (opsK [1, 3, 4] [1] Q) sf st := rfl
def aqueductref43_Encode_14 : AC := .seq aqueductref43_Encode_15 aqueductref43_Encode_17
theorem aqueductref43_Encode_14e : aC P id m aqueductref43_Encode_14 sf st Q = aC P id m aqueductref43_Encode_15 sf st (seqQ (aC P id m aqueductref43_Encode_17) Q) := rfl
def aqueductref43_Encode_10 : AC := .seq aqueductref43_Encode_11 aqueductref43_Encode_14
theorem aqueductref43_Encode_10e : aC P id m aqueductref43_Encode_10 sf st Q = aC P id m aqueductref43_Encode_11 sf st (seqQ (aC P id m aqueductref43_Encode_14) Q) := rfl
def aqueductref43_Encode_9 : AC := .loop [1, 3, 4] [1] aqueductref43_Encode_10
theorem aqueductref43_Encode_9w : aC P id m aqueductref43_Encode_9 sf st Q = loopI (aC P id m aqueductref43_Encode_10) [1, 3, 4] [1] sf st Q := rfl
def aqueductref43_Encode_8 : AC := .block 0 aqueductref43_Encode_9
theorem aqueductref43_Encode_8e : aC P id m aqueductref43_Encode_8 sf st Q = aC P id m aqueductref43_Encode_9 sf st (blockQ 0 Q) := rfl
def aqueductref43_Encode_6 : AC := .seq aqueductref43_Encode_7 aqueductref43_Encode_8
theorem aqueductref43_Encode_6e : aC P id m aqueductref43_Encode_6 sf st Q = aC P id m aqueductref43_Encode_7 sf st (seqQ (aC P id m aqueductref43_Encode_8) Q) := rfl
def aqueductref43_Encode_19l : List GI := [⟨none, .mv (some 5) (.c (.lit (.int .i64 1)))⟩]
def aqueductref43_Encode_19 : AC := .ops [3, 5] [] aqueductref43_Encode_19l
theorem aqueductref43_Encode_19e : aC P id m aqueductref43_Encode_19 sf st Q = runI P id m aqueductref43_Encode_19l (opsK [3, 5] [] Q) sf st := rfl
def aqueductref43_Encode_22l : List GI := [⟨none, .mv (some 6) (.c (.lit (.int .i64 1)))⟩]
def aqueductref43_Encode_22 : AC := .ops [3, 5, 6] [] aqueductref43_Encode_22l
theorem aqueductref43_Encode_22e : aC P id m aqueductref43_Encode_22 sf st Q = runI P id m aqueductref43_Encode_22l (opsK [3, 5, 6] [] Q) sf st := rfl
def aqueductref43_Encode_27l : List GI := [⟨none, .mv (some 35) (.r 6)⟩,
    ⟨none, .mv (some 36) (.r 3)⟩,
    ⟨none, .len (some 37) .sl (.r 36)⟩,
    ⟨none, .bin (some 38) .num .lss (.r 35) (.r 37)⟩]
def aqueductref43_Encode_27 : AC := .ops [3, 5, 6, 38] [] aqueductref43_Encode_27l
theorem aqueductref43_Encode_27e : aC P id m aqueductref43_Encode_27 sf st Q = runI P id m aqueductref43_Encode_27l (opsK [3, 5, 6, 38] [] Q) sf st := rfl
def aqueductref43_Encode_28 : AC := .cond (.r 38) .skip (.exit [3, 5] [] 2)
theorem aqueductref43_Encode_28e : aC P id m aqueductref43_Encode_28 sf st Q = condI (.r 38) (sf.ev id (.r 38)) (aC P id m .skip) (aC P id m (.exit [3, 5] [] 2)) sf st Q := rfl
def aqueductref43_Encode_26 : AC := .seq aqueductref43_Encode_27 aqueductref43_Encode_28
theorem aqueductref43_Encode_26e : aC P id m aqueductref43_Encode_26 sf st Q = aC P id m aqueductref43_Encode_27 sf st (seqQ (aC P id m aqueductref43_Encode_28) Q) := rfl
def aqueductref43_Encode_31l : List GI := [⟨none, .mv (some 41) (.r 5)⟩,
    ⟨none, .bin (some 42) .num .mul (.r 41) (.c (.lit (.int .i64 31)))⟩,
    ⟨none, .mv (some 43) (.r 3)⟩,
    ⟨none, .mv (some 44) (.r 6)⟩,
    ⟨none, .ixS (some 45) (.r 43) (.r 44) 1⟩,
    ⟨none, .load (some 46) (.r 45) none⟩,
    ⟨none, .conv (some 47) (.int .i64) (.r 46)⟩,
    ⟨none, .bin (some 48) .num .add (.r 42) (.r 47)⟩,
    ⟨none, .bin (some 49) .num .rem (.r 48) (.c (.lit (.int .i64 65521)))⟩,
    ⟨none, .own 5 49⟩]
def aqueductref43_Encode_31 : AC := .ops [3, 5, 6] [] aqueductref43_Encode_31l
theorem aqueductref43_Encode_31e : aC P id m aqueductref43_Encode_31 sf st Q = runI P id m aqueductref43_Encode_31l (opsK [3, 5, 6] [] Q) sf st := rfl
def aqueductref43_Encode_30 : AC := .block 3 aqueductref43_Encode_31
theorem aqueductref43_Encode_30e : aC P id m aqueductref43_Encode_30 sf st Q = aC P id m aqueductref43_Encode_31 sf st (blockQ 3 Q) := rfl
def aqueductref43_Encode_32l : List GI := [⟨none, .mv (some 39) (.r 6)⟩,
    ⟨none, .bin (some 40) .num .add (.r 39) (.c (.lit (.int .i64 1)))⟩,
    ⟨none, .own 6 40⟩]
def aqueductref43_Encode_32 : AC := .ops [3, 5, 6] [] aqueductref43_Encode_32l
theorem aqueductref43_Encode_32e : aC P id m aqueductref43_Encode_32 sf st Q = runI P id m aqueductref43_Encode_32l (opsK [3, 5, 6] [] Q) sf st := rfl
def aqueductref43_Encode_29 : AC := .seq aqueductref43_Encode_30 aqueductref43_Encode_32
theorem aqueductref43_Encode_29e : aC P id m aqueductref43_Encode_29 sf st Q = aC P id m aqueductref43_Encode_30 sf st (seqQ (aC P id m aqueductref43_Encode_32) Q) := rfl
def aqueductref43_Encode_25 : AC := .seq aqueductref43_Encode_26 aqueductref43_Encode_29
theorem aqueductref43_Encode_25e : aC P id m aqueductref43_Encode_25 sf st Q = aC P id m aqueductref43_Encode_26 sf st (seqQ (aC P id m aqueductref43_Encode_29) Q) := rfl
def aqueductref43_Encode_24 : AC := .loop [3, 5, 6] [] aqueductref43_Encode_25
theorem aqueductref43_Encode_24w : aC P id m aqueductref43_Encode_24 sf st Q = loopI (aC P id m aqueductref43_Encode_25) [3, 5, 6] [] sf st Q := rfl
def aqueductref43_Encode_23 : AC := .block 2 aqueductref43_Encode_24
theorem aqueductref43_Encode_23e : aC P id m aqueductref43_Encode_23 sf st Q = aC P id m aqueductref43_Encode_24 sf st (blockQ 2 Q) := rfl
def aqueductref43_Encode_21 : AC := .seq aqueductref43_Encode_22 aqueductref43_Encode_23
theorem aqueductref43_Encode_21e : aC P id m aqueductref43_Encode_21 sf st Q = aC P id m aqueductref43_Encode_22 sf st (seqQ (aC P id m aqueductref43_Encode_23) Q) := rfl
def aqueductref43_Encode_34l : List GI := [⟨none, .own 50 3⟩,
    ⟨none, .mv (some 51) (.r 5)⟩,
    ⟨none, .bin (some 52) .num .quo (.r 51) (.c (.lit (.int .i64 256)))⟩,
    ⟨none, .conv (some 53) (.int .u8) (.r 52)⟩,
    ⟨none, .mv (some 54) (.r 5)⟩,
    ⟨none, .bin (some 55) .num .rem (.r 54) (.c (.lit (.int .i64 256)))⟩,
    ⟨none, .conv (some 56) (.int .u8) (.r 55)⟩,
    ⟨none, .bsl (some 57) 1 2 (.lit (.int .u8 0)) [(0, (.r 53)), (1, (.r 56))]⟩,
    ⟨none, .appS 58 50 1 1 (.r 57)⟩,
    ⟨none, .own 2 58⟩]
def aqueductref43_Encode_34 : AC := .ops [2] [] aqueductref43_Encode_34l
theorem aqueductref43_Encode_34e : aC P id m aqueductref43_Encode_34 sf st Q = runI P id m aqueductref43_Encode_34l (opsK [2] [] Q) sf st := rfl
def aqueductref43_Encode_33 : AC := .seq aqueductref43_Encode_34 .ret
theorem aqueductref43_Encode_33e : aC P id m aqueductref43_Encode_33 sf st Q = aC P id m aqueductref43_Encode_34 sf st (seqQ (aC P id m .ret) Q) := rfl
def aqueductref43_Encode_20 : AC := .seq aqueductref43_Encode_21 aqueductref43_Encode_33
theorem aqueductref43_Encode_20e : aC P id m aqueductref43_Encode_20 sf st Q = aC P id m aqueductref43_Encode_21 sf st (seqQ (aC P id m aqueductref43_Encode_33) Q) := rfl
def aqueductref43_Encode_18 : AC := .seq aqueductref43_Encode_19 aqueductref43_Encode_20
theorem aqueductref43_Encode_18e : aC P id m aqueductref43_Encode_18 sf st Q = aC P id m aqueductref43_Encode_19 sf st (seqQ (aC P id m aqueductref43_Encode_20) Q) := rfl
def aqueductref43_Encode_5 : AC := .seq aqueductref43_Encode_6 aqueductref43_Encode_18
theorem aqueductref43_Encode_5e : aC P id m aqueductref43_Encode_5 sf st Q = aC P id m aqueductref43_Encode_6 sf st (seqQ (aC P id m aqueductref43_Encode_18) Q) := rfl
def aqueductref43_Encode_3 : AC := .seq aqueductref43_Encode_4 aqueductref43_Encode_5
theorem aqueductref43_Encode_3e : aC P id m aqueductref43_Encode_3 sf st Q = aC P id m aqueductref43_Encode_4 sf st (seqQ (aC P id m aqueductref43_Encode_5) Q) := rfl
def aqueductref43_Encode_1 : AC := .seq aqueductref43_Encode_2 aqueductref43_Encode_3
theorem aqueductref43_Encode_1e : aC P id m aqueductref43_Encode_1 sf st Q = aC P id m aqueductref43_Encode_2 sf st (seqQ (aC P id m aqueductref43_Encode_3) Q) := rfl
def c_aqueductref43_Encode : AFun := ⟨59, [.tmp 2], aqueductref43_Encode_1⟩
theorem k_aqueductref43_Encode : compF Go.Proofs.Try.prog x_aqueductref43_Encode 15 = some c_aqueductref43_Encode := by kernel_rfl
theorem e_aqueductref43_Encode : enterB Go.Proofs.Try.prog 15 = true := by kernel_rfl

def n_frame_All : Nat := 16
def x_frame_All : Cx := ⟨some, id, 33, fun s => ([0, 2, 3, 4, 6, 7, 8, 9, 10, 11, 12, 13, 14, 15, 17, 18, 19, 20, 22, 23, 24, 25, 26, 27, 28, 29, 30, 31, 32] : List Nat).contains s, fun s => ([] : List Nat).contains s, msOf [(2, [0, 2, 3], []), (6, [0, 2, 3], []), (48, [0, 2, 3, 5, 6, 7], [5]), (392, [0, 2, 3, 5, 6, 7, 16], [5]), (1572, [2, 3, 4], []), (1574, [0, 2, 3, 5, 6, 21], [5]), (6300, [2, 3, 4], []), (99, [0, 2, 3], [])]⟩
def frame_All_2l : List GI := [⟨none, .mv (some 2) (.c (.lit (.slice none 0 0)))⟩,
    ⟨none, .mv (some 3) (.c (.lit (.int .i64 0)))⟩,
    ⟨none, .mv (some 4) (.c (.lit (.int .i64 0)))⟩]
def frame_All_2 : AC := .ops [0, 2, 3] [] frame_All_2l
theorem frame_All_2e : aC P id m frame_All_2 sf st Q = runI P id m frame_All_2l (opsK [0, 2, 3] [] Q) sf st := rfl
def frame_All_7l : List GI := [⟨none, .mv (some 9) (.r 0)⟩,
    ⟨none, .mv (some 10) (.r 3)⟩,
    ⟨none, .sliOwn 11 9 (.r 10) 1⟩,
    ⟨none, .call (some 12) false (.f 45) [(.r 11)]⟩,
    ⟨none, .mv (some 8) (.r 12)⟩,
    ⟨none, .ext (some 13) (.r 8) 0⟩,
    ⟨none, .ext (some 14) (.r 8) 1⟩,
    ⟨none, .ext (some 15) (.r 8) 2⟩,
    ⟨none, .newL 5 [(.lit (.int .u8 0)), (.lit (.slice none 0 0))]⟩,
    ⟨none, .store 2 (.r 5) (.r 13)⟩,
    ⟨none, .own 6 14⟩,
    ⟨none, .own 7 15⟩]
def frame_All_7 : AC := .ops [0, 2, 3, 5, 6, 7] [5] frame_All_7l
theorem frame_All_7e : aC P id m frame_All_7 sf st Q = runI P id m frame_All_7l (opsK [0, 2, 3, 5, 6, 7] [5] Q) sf st := rfl
def frame_All_11l : List GI := [⟨none, .mv (some 17) (.r 7)⟩,
    ⟨none, .bin (some 18) .num .neq (.r 17) (.c (.lit (.int .i64 0)))⟩,
    ⟨none, .own 16 18⟩]
def frame_All_11 : AC := .ops [0, 2, 3, 5, 6, 7, 16] [5] frame_All_11l
theorem frame_All_11e : aC P id m frame_All_11 sf st Q = runI P id m frame_All_11l (opsK [0, 2, 3, 5, 6, 7, 16] [5] Q) sf st := rfl
def frame_All_14l : List GI := [⟨none, .mv (some 19) (.r 3)⟩,
    ⟨none, .mv (some 20) (.r 7)⟩,
    ⟨none, .mv (some 2) (.c (.lit (.slice none 0 0)))⟩,
    ⟨none, .own 3 19⟩,
    ⟨none, .own 4 20⟩]
def frame_All_14 : AC := .ops [2, 3, 4] [] frame_All_14l
theorem frame_All_14e : aC P id m frame_All_14 sf st Q = runI P id m frame_All_14l (opsK [2, 3, 4] [] Q) sf st := rfl
def frame_All_13 : AC := .seq frame_All_14 .ret
theorem frame_All_13e : aC P id m frame_All_13 sf st Q = aC P id m frame_All_14 sf st (seqQ (aC P id m .ret) Q) := rfl
def frame_All_16l : List GI := [⟨none, .mv (some 22) (.r 6)⟩,
    ⟨none, .bin (some 23) .num .eql (.r 22) (.c (.lit (.int .i64 0)))⟩,
    ⟨none, .own 21 23⟩]
def frame_All_16 : AC := .ops [0, 2, 3, 5, 6, 21] [5] frame_All_16l
theorem frame_All_16e : aC P id m frame_All_16 sf st Q = runI P id m frame_All_16l (opsK [0, 2, 3, 5, 6, 21] [5] Q) sf st := rfl
def frame_All_19l : List GI := [⟨none, .mv (some 24) (.r 2)⟩,
    ⟨none, .mv (some 25) (.r 3)⟩,
    ⟨none, .own 2 24⟩,
    ⟨none, .own 3 25⟩,
    ⟨none, .mv (some 4) (.c (.lit (.int .i64 0)))⟩]
def frame_All_19 : AC := .ops [2, 3, 4] [] frame_All_19l
theorem frame_All_19e : aC P id m frame_All_19 sf st Q = runI P id m frame_All_19l (opsK [2, 3, 4] [] Q) sf st := rfl
def frame_All_18 : AC := .seq frame_All_19 .ret
theorem frame_All_18e : aC P id m frame_All_18 sf st Q = aC P id m frame_All_19 sf st (seqQ (aC P id m .ret) Q) := rfl
def frame_All_17 : AC := .cond (.r 21) frame_All_18 .skip
theorem frame_All_17e : aC P id m frame_All_17 sf st Q = condI (.r 21) (sf.ev id (.r 21)) (aC P id m frame_All_18) (aC P id m .skip) sf st Q := rfl
def frame_All_15 : AC := .seq frame_All_16 frame_All_17
theorem frame_All_15e : aC P id m frame_All_15 sf st Q = aC P id m frame_All_16 sf st (seqQ (aC P id m frame_All_17) Q) := rfl
def frame_All_12 : AC := .cond (.r 16) frame_All_13 frame_All_15
theorem frame_All_12e : aC P id m frame_All_12 sf st Q = condI (.r 16) (sf.ev id (.r 16)) (aC P id m frame_All_13) (aC P id m frame_All_15) sf st Q := rfl
def frame_All_10 : AC := .seq frame_All_11 frame_All_12
theorem frame_All_10e : aC P id m frame_All_10 sf st Q = aC P id m frame_All_11 sf st (seqQ (aC P id m frame_All_12) Q) := rfl
def frame_All_9 : AC := .block 2 frame_All_10
theorem frame_All_9e : aC P id m frame_All_9 sf st Q = aC P id m frame_All_10 sf st (blockQ 2 Q) := rfl
def frame_All_20l : List GI := [⟨none, .own 26 2⟩,
    ⟨none, .load (some 27) (.r 5) (some 2)⟩,
    ⟨none, .bsl (some 28) 2 1 (.agg [(.lit (.int .u8 0)), (.lit (.slice none 0 0))]) [(0, (.r 27))]⟩,
    ⟨none, .appS 29 26 2 32 (.r 28)⟩,
    ⟨none, .mv (some 30) (.r 3)⟩,
    ⟨none, .mv (some 31) (.r 6)⟩,
    ⟨none, .bin (some 32) .num .add (.r 30) (.r 31)⟩,
    ⟨none, .own 2 29⟩,
    ⟨none, .own 3 32⟩]
def frame_All_20 : AC := .ops [0, 2, 3] [] frame_All_20l
theorem frame_All_20e : aC P id m frame_All_20 sf st Q = runI P id m frame_All_20l (opsK [0, 2, 3] [] Q) sf st := rfl
def frame_All_8 : AC := .seq frame_All_9 frame_All_20
theorem frame_All_8e : aC P id m frame_All_8 sf st Q = aC P id m frame_All_9 sf st (seqQ (aC P id m frame_All_20) Q) := rfl
def frame_All_6 : AC := .seq frame_All_7 frame_All_8
theorem frame_All_6e : aC P id m frame_All_6 sf st Q = aC P id m frame_All_7 sf st (seqQ (aC P id m frame_All_8) Q) := rfl
def frame_All_5 : AC := .block 1 frame_All_6
theorem frame_All_5e : aC P id m frame_All_5 sf st Q = aC P id m frame_All_6 sf st (blockQ 1 Q) := rfl
def frame_All_4 : AC := .loop [0, 2, 3] [] frame_All_5
theorem frame_All_4w : aC P id m frame_All_4 sf st Q = loopI (aC P id m frame_All_5) [0, 2, 3] [] sf st Q := rfl
def frame_All_3 : AC := .block 0 frame_All_4
theorem frame_All_3e : aC P id m frame_All_3 sf st Q = aC P id m frame_All_4 sf st (blockQ 0 Q) := rfl
def frame_All_1 : AC := .seq frame_All_2 frame_All_3
theorem frame_All_1e : aC P id m frame_All_1 sf st Q = aC P id m frame_All_2 sf st (seqQ (aC P id m frame_All_3) Q) := rfl
def c_frame_All : AFun := ⟨33, [.tmp 2, .tmp 3, .tmp 4], frame_All_1⟩
theorem k_frame_All : compF Go.Proofs.Try.prog x_frame_All 16 = some c_frame_All := by kernel_rfl
theorem e_frame_All : enterB Go.Proofs.Try.prog 16 = true := by kernel_rfl

def n_aqueductref43_All : Nat := 17
def x_aqueductref43_All : Cx := ⟨some, id, 37, fun s => ([0, 2, 3, 4, 5, 6, 8, 9, 10, 11, 12, 14, 15, 16, 17, 18, 19, 20, 21, 22, 24, 25, 26, 28, 29, 30, 31, 32, 33, 34, 35, 36] : List Nat).contains s, fun s => ([] : List Nat).contains s, msOf [(2, [0], []), (6, [0, 5], []), (14, [0, 5, 6], []), (60, [0, 5, 6], []), (480, [0, 5, 6, 13], []), (963, [5, 6], []), (964, [0, 5, 6, 7, 8, 9], [7]), (3860, [0, 5, 6, 7, 8, 9, 23], [7]), (15444, [2, 3, 4], []), (7724, [0, 5, 6, 7, 8, 27], [7]), (15450, [5, 6], []), (3863, [0, 5, 6], []), (62, [2, 3, 4], [])]⟩
def aqueductref43_All_2l : List GI := [⟨none, .mv (some 2) (.c (.lit (.slice none 0 0)))⟩,
    ⟨none, .mv (some 3) (.c (.lit (.int .i64 0)))⟩,
    ⟨none, .mv (some 4) (.c (.lit (.int .i64 0)))⟩]
def aqueductref43_All_2 : AC := .ops [0] [] aqueductref43_All_2l
theorem aqueductref43_All_2e : aC P id m aqueductref43_All_2 sf st Q = runI P id m aqueductref43_All_2l (opsK [0] [] Q) sf st := rfl
def aqueductref43_All_4l : List GI := [⟨none, .mv (some 5) (.c (.lit (.slice none 0 0)))⟩]
def aqueductref43_All_4 : AC := .ops [0, 5] [] aqueductref43_All_4l
theorem aqueductref43_All_4e : aC P id m aqueductref43_All_4 sf st Q = runI P id m aqueductref43_All_4l (opsK [0, 5] [] Q) sf st := rfl
def aqueductref43_All_6l : List GI := [⟨none, .mv (some 6) (.c (.lit (.int .i64 0)))⟩]
def aqueductref43_All_6 : AC := .ops [0, 5, 6] [] aqueductref43_All_6l
theorem aqueductref43_All_6e : aC P id m aqueductref43_All_6 sf st Q = runI P id m aqueductref43_All_6l (opsK [0, 5, 6] [] Q) sf st := rfl
def aqueductref43_All_12l : List GI := [⟨none, .mv (some 10) (.r 6)⟩,
    ⟨none, .mv (some 11) (.r 0)⟩,
    ⟨none, .len (some 12) .sl (.r 11)⟩,
    ⟨none, .bin (some 13) .num .leq (.r 10) (.r 12)⟩]
def aqueductref43_All_12 : AC := .ops [0, 5, 6, 13] [] aqueductref43_All_12l
theorem aqueductref43_All_12e : aC P id m aqueductref43_All_12 sf st Q = runI P id m aqueductref43_All_12l (opsK [0, 5, 6, 13] [] Q) sf st := rfl
def aqueductref43_All_13 : AC := .cond (.r 13) .skip (.exit [5, 6] [] 0)
theorem aqueductref43_All_13e : aC P id m aqueductref43_All_13 sf st Q = condI (.r 13) (sf.ev id (.r 13)) (aC P id m .skip) (aC P id m (.exit [5, 6] [] 0)) sf st Q := rfl
def aqueductref43_All_11 : AC := .seq aqueductref43_All_12 aqueductref43_All_13
theorem aqueductref43_All_11e : aC P id m aqueductref43_All_11 sf st Q = aC P id m aqueductref43_All_12 sf st (seqQ (aC P id m aqueductref43_All_13) Q) := rfl
def aqueductref43_All_16l : List GI := [⟨none, .mv (some 15) (.r 0)⟩,
    ⟨none, .mv (some 16) (.r 6)⟩,
    ⟨none, .sliOwn 17 15 (.r 16) 1⟩,
    ⟨none, .call (some 18) false (.f 42) [(.r 17)]⟩,
    ⟨none, .mv (some 14) (.r 18)⟩,
    ⟨none, .ext (some 19) (.r 14) 0⟩,
    ⟨none, .ext (some 20) (.r 14) 1⟩,
    ⟨none, .ext (some 21) (.r 14) 2⟩,
    ⟨none, .newL 7 [(.lit (.int .u8 0)), (.lit (.slice none 0 0))]⟩,
    ⟨none, .store 2 (.r 7) (.r 19)⟩,
    ⟨none, .own 8 20⟩,
    ⟨none, .own 9 21⟩]
def aqueductref43_All_16 : AC := .ops [0, 5, 6, 7, 8, 9] [7] aqueductref43_All_16l
theorem aqueductref43_All_16e : aC P id m aqueductref43_All_16 sf st Q = runI P id m aqueductref43_All_16l (opsK [0, 5, 6, 7, 8, 9] [7] Q) sf st := rfl
def aqueductref43_All_19l : List GI := [⟨none, .mv (some 22) (.r 9)⟩,
    ⟨none, .bin (some 23) .num .neq (.r 22) (.c (.lit (.int .i64 0)))⟩]
def aqueductref43_All_19 : AC := .ops [0, 5, 6, 7, 8, 9, 23] [7] aqueductref43_All_19l
theorem aqueductref43_All_19e : aC P id m aqueductref43_All_19 sf st Q = runI P id m aqueductref43_All_19l (opsK [0, 5, 6, 7, 8, 9, 23] [7] Q) sf st := rfl
def aqueductref43_All_22l : List GI := [⟨none, .mv (some 24) (.r 6)⟩,
    ⟨none, .mv (some 25) (.r 9)⟩,
    ⟨none, .mv (some 2) (.c (.lit (.slice none 0 0)))⟩,
    ⟨none, .own 3 24⟩,
    ⟨none, .own 4 25⟩]
def aqueductref43_All_22 : AC := .ops [2, 3, 4] [] aqueductref43_All_22l
theorem aqueductref43_All_22e : aC P id m aqueductref43_All_22 sf st Q = runI P id m aqueductref43_All_22l (opsK [2, 3, 4] [] Q) sf st := rfl
def aqueductref43_All_21 : AC := .seq aqueductref43_All_22 .ret
theorem aqueductref43_All_21e : aC P id m aqueductref43_All_21 sf st Q = aC P id m aqueductref43_All_22 sf st (seqQ (aC P id m .ret) Q) := rfl
def aqueductref43_All_20 : AC := .cond (.r 23) aqueductref43_All_21 .skip
theorem aqueductref43_All_20e : aC P id m aqueductref43_All_20 sf st Q = condI (.r 23) (sf.ev id (.r 23)) (aC P id m aqueductref43_All_21) (aC P id m .skip) sf st Q := rfl
def aqueductref43_All_18 : AC := .seq aqueductref43_All_19 aqueductref43_All_20
theorem aqueductref43_All_18e : aC P id m aqueductref43_All_18 sf st Q = aC P id m aqueductref43_All_19 sf st (seqQ (aC P id m aqueductref43_All_20) Q) := rfl
def aqueductref43_All_25l : List GI := [⟨none, .mv (some 26) (.r 8)⟩,
    ⟨none, .bin (some 27) .num .eql (.r 26) (.c (.lit (.int .i64 0)))⟩]
def aqueductref43_All_25 : AC := .ops [0, 5, 6, 7, 8, 27] [7] aqueductref43_All_25l
theorem aqueductref43_All_25e : aC P id m aqueductref43_All_25 sf st Q = runI P id m aqueductref43_All_25l (opsK [0, 5, 6, 7, 8, 27] [7] Q) sf st := rfl
def aqueductref43_All_26 : AC := .cond (.r 27) (.exit [5, 6] [] 0) .skip
theorem aqueductref43_All_26e : aC P id m aqueductref43_All_26 sf st Q = condI (.r 27) (sf.ev id (.r 27)) (aC P id m (.exit [5, 6] [] 0)) (aC P id m .skip) sf st Q := rfl
def aqueductref43_All_24 : AC := .seq aqueductref43_All_25 aqueductref43_All_26
theorem aqueductref43_All_24e : aC P id m aqueductref43_All_24 sf st Q = aC P id m aqueductref43_All_25 sf st (seqQ (aC P id m aqueductref43_All_26) Q) := rfl
def aqueductref43_All_27l : List GI := [⟨none, .own 28 5⟩,
    ⟨none, .load (some 29) (.r 7) (some 2)⟩,
    ⟨none, .bsl (some 30) 2 1 (.agg [(.lit (.int .u8 0)), (.lit (.slice none 0 0))]) [(0, (.r 29))]⟩,
    ⟨none, .appS 31 28 2 32 (.r 30)⟩,
    ⟨none, .mv (some 32) (.r 6)⟩,
    ⟨none, .mv (some 33) (.r 8)⟩,
    ⟨none, .bin (some 34) .num .add (.r 32) (.r 33)⟩,
    ⟨none, .own 5 31⟩,
    ⟨none, .own 6 34⟩]
def aqueductref43_All_27 : AC := .ops [0, 5, 6] [] aqueductref43_All_27l
theorem aqueductref43_All_27e : aC P id m aqueductref43_All_27 sf st Q = runI P id m aqueductref43_All_27l (opsK [0, 5, 6] [] Q) sf st := rfl
def aqueductref43_All_23 : AC := .seq aqueductref43_All_24 aqueductref43_All_27
theorem aqueductref43_All_23e : aC P id m aqueductref43_All_23 sf st Q = aC P id m aqueductref43_All_24 sf st (seqQ (aC P id m aqueductref43_All_27) Q) := rfl
def aqueductref43_All_17 : AC := .seq aqueductref43_All_18 aqueductref43_All_23
theorem aqueductref43_All_17e : aC P id m aqueductref43_All_17 sf st Q = aC P id m aqueductref43_All_18 sf st (seqQ (aC P id m aqueductref43_All_23) Q) := rfl
def aqueductref43_All_15 : AC := .seq aqueductref43_All_16 aqueductref43_All_17
theorem aqueductref43_All_15e : aC P id m aqueductref43_All_15 sf st Q = aC P id m aqueductref43_All_16 sf st (seqQ (aC P id m aqueductref43_All_17) Q) := rfl
def aqueductref43_All_14 : AC := .block 1 aqueductref43_All_15
theorem aqueductref43_All_14e : aC P id m aqueductref43_All_14 sf st Q = aC P id m aqueductref43_All_15 sf st (blockQ 1 Q) := rfl
def aqueductref43_All_10 : AC := .seq aqueductref43_All_11 aqueductref43_All_14
theorem aqueductref43_All_10e : aC P id m aqueductref43_All_10 sf st Q = aC P id m aqueductref43_All_11 sf st (seqQ (aC P id m aqueductref43_All_14) Q) := rfl
def aqueductref43_All_9 : AC := .loop [0, 5, 6] [] aqueductref43_All_10
theorem aqueductref43_All_9w : aC P id m aqueductref43_All_9 sf st Q = loopI (aC P id m aqueductref43_All_10) [0, 5, 6] [] sf st Q := rfl
def aqueductref43_All_8 : AC := .block 0 aqueductref43_All_9
theorem aqueductref43_All_8e : aC P id m aqueductref43_All_8 sf st Q = aC P id m aqueductref43_All_9 sf st (blockQ 0 Q) := rfl
def aqueductref43_All_29l : List GI := [⟨none, .mv (some 35) (.r 5)⟩,
    ⟨none, .mv (some 36) (.r 6)⟩,
    ⟨none, .own 2 35⟩,
    ⟨none, .own 3 36⟩,
    ⟨none, .mv (some 4) (.c (.lit (.int .i64 0)))⟩]
def aqueductref43_All_29 : AC := .ops [2, 3, 4] [] aqueductref43_All_29l
theorem aqueductref43_All_29e : aC P id m aqueductref43_All_29 sf st Q = runI P id m aqueductref43_All_29l (opsK [2, 3, 4] [] Q) sf st := rfl
def aqueductref43_All_28 : AC := .seq aqueductref43_All_29 .ret
theorem aqueductref43_All_28e : aC P id m aqueductref43_All_28 sf st Q = aC P id m aqueductref43_All_29 sf st (seqQ (aC P id m .ret) Q) := rfl
def aqueductref43_All_7 : AC := .seq aqueductref43_All_8 aqueductref43_All_28
theorem aqueductref43_All_7e : aC P id m aqueductref43_All_7 sf st Q = aC P id m aqueductref43_All_8 sf st (seqQ (aC P id m aqueductref43_All_28) Q) := rfl
def aqueductref43_All_5 : AC := .seq aqueductref43_All_6 aqueductref43_All_7
theorem aqueductref43_All_5e : aC P id m aqueductref43_All_5 sf st Q = aC P id m aqueductref43_All_6 sf st (seqQ (aC P id m aqueductref43_All_7) Q) := rfl
def aqueductref43_All_3 : AC := .seq aqueductref43_All_4 aqueductref43_All_5
theorem aqueductref43_All_3e : aC P id m aqueductref43_All_3 sf st Q = aC P id m aqueductref43_All_4 sf st (seqQ (aC P id m aqueductref43_All_5) Q) := rfl
def aqueductref43_All_1 : AC := .seq aqueductref43_All_2 aqueductref43_All_3
theorem aqueductref43_All_1e : aC P id m aqueductref43_All_1 sf st Q = aC P id m aqueductref43_All_2 sf st (seqQ (aC P id m aqueductref43_All_3) Q) := rfl
def c_aqueductref43_All : AFun := ⟨37, [.tmp 2, .tmp 3, .tmp 4], aqueductref43_All_1⟩
theorem k_aqueductref43_All : compF Go.Proofs.Try.prog x_aqueductref43_All 17 = some c_aqueductref43_All := by kernel_rfl
theorem e_aqueductref43_All : enterB Go.Proofs.Try.prog 17 = true := by kernel_rfl

def n_aqueductref43_SameAll : Nat := 18
def x_aqueductref43_SameAll : Cx := ⟨some, id, 27, fun s => ([0, 1, 4, 5, 6, 7, 8, 9, 11, 12, 13, 15, 16, 18, 20, 22, 24, 25] : List Nat).contains s, fun s => ([] : List Nat).contains s, msOf [(2, [0, 1], []), (12, [0, 1, 10], []), (52, [4], []), (28, [0, 1, 5], []), (58, [0, 1, 5], []), (464, [0, 1, 5, 14], []), (931, [], []), (1864, [0, 1, 5, 26], []), (7460, [4], []), (467, [0, 1, 5], []), (30, [4], [])]⟩
def aqueductref43_SameAll_2l : List GI := [⟨none, .mv (some 4) (.c (.lit (.bool false)))⟩]
def aqueductref43_SameAll_2 : AC := .ops [0, 1] [] aqueductref43_SameAll_2l
theorem aqueductref43_SameAll_2e : aC P id m aqueductref43_SameAll_2 sf st Q = runI P id m aqueductref43_SameAll_2l (opsK [0, 1] [] Q) sf st := rfl
def aqueductref43_SameAll_5l : List GI := [⟨none, .mv (some 6) (.r 0)⟩,
    ⟨none, .len (some 7) .sl (.r 6)⟩,
    ⟨none, .mv (some 8) (.r 1)⟩,
    ⟨none, .len (some 9) .sl (.r 8)⟩,
    ⟨none, .bin (some 10) .num .neq (.r 7) (.r 9)⟩]
def aqueductref43_SameAll_5 : AC := .ops [0, 1, 10] [] aqueductref43_SameAll_5l
theorem aqueductref43_SameAll_5e : aC P id m aqueductref43_SameAll_5 sf st Q = runI P id m aqueductref43_SameAll_5l (opsK [0, 1, 10] [] Q) sf st := rfl
def aqueductref43_SameAll_8l : List GI := [⟨none, .mv (some 4) (.c (.lit (.bool false)))⟩]
def aqueductref43_SameAll_8 : AC := .ops [4] [] aqueductref43_SameAll_8l
theorem aqueductref43_SameAll_8e : aC P id m aqueductref43_SameAll_8 sf st Q = runI P id m aqueductref43_SameAll_8l (opsK [4] [] Q) sf st := rfl
def aqueductref43_SameAll_7 : AC := .seq aqueductref43_SameAll_8 .ret
theorem aqueductref43_SameAll_7e : aC P id m aqueductref43_SameAll_7 sf st Q = aC P id m aqueductref43_SameAll_8 sf st (seqQ (aC P id m .ret) Q) := rfl
def aqueductref43_SameAll_6 : AC := .cond (.r 10) aqueductref43_SameAll_7 .skip
theorem aqueductref43_SameAll_6e : aC P id m aqueductref43_SameAll_6 sf st Q = condI (.r 10) (sf.ev id (.r 10)) (aC P id m aqueductref43_SameAll_7) (aC P id m .skip) sf st Q := rfl
def aqueductref43_SameAll_4 : AC := .seq aqueductref43_SameAll_5 aqueductref43_SameAll_6
theorem aqueductref43_SameAll_4e : aC P id m aqueductref43_SameAll_4 sf st Q = aC P id m aqueductref43_SameAll_5 sf st (seqQ (aC P id m aqueductref43_SameAll_6) Q) := rfl
def aqueductref43_SameAll_11l : List GI := [⟨none, .mv (some 5) (.c (.lit (.int .i64 0)))⟩]
def aqueductref43_SameAll_11 : AC := .ops [0, 1, 5] [] aqueductref43_SameAll_11l
theorem aqueductref43_SameAll_11e : aC P id m aqueductref43_SameAll_11 sf st Q = runI P id m aqueductref43_SameAll_11l (opsK [0, 1, 5] [] Q) sf st := rfl
def aqueductref43_SameAll_16l : List GI := [⟨none, .mv (some 11) (.r 5)⟩,
    ⟨none, .mv (some 12) (.r 0)⟩,
    ⟨none, .len (some 13) .sl (.r 12)⟩,
    ⟨none, .bin (some 14) .num .lss (.r 11) (.r 13)⟩]
def aqueductref43_SameAll_16 : AC := .ops [0, 1, 5, 14] [] aqueductref43_SameAll_16l
theorem aqueductref43_SameAll_16e : aC P id m aqueductref43_SameAll_16 sf st Q = runI P id m aqueductref43_SameAll_16l (opsK [0, 1, 5, 14] [] Q) sf st := rfl
def aqueductref43_SameAll_17 : AC := .cond (.r 14) .skip (.exit [] [] 0)
theorem aqueductref43_SameAll_17e : aC P id m aqueductref43_SameAll_17 sf st Q = condI (.r 14) (sf.ev id (.r 14)) (aC P id m .skip) (aC P id m (.exit [] [] 0)) sf st Q := rfl
def aqueductref43_SameAll_15 : AC := .seq aqueductref43_SameAll_16 aqueductref43_SameAll_17
theorem aqueductref43_SameAll_15e : aC P id m aqueductref43_SameAll_15 sf st Q = aC P id m aqueductref43_SameAll_16 sf st (seqQ (aC P id m aqueductref43_SameAll_17) Q) := rfl
def aqueductref43_SameAll_21h : List GI := [⟨none, .mv (some 17) (.r 0)⟩,
    ⟨none, .mv (some 18) (.r 5)⟩,
    ⟨none, .ixS (some 19) (.r 17) (.r 18) 2⟩,
    ⟨none, .load (some 20) (.r 19) (some 2)⟩,
    ⟨none, .mv (some 21) (.r 1)⟩,
    ⟨none, .mv (some 22) (.r 5)⟩,
    ⟨none, .ixS (some 23) (.r 21) (.r 22) 2⟩,
    ⟨none, .load (some 24) (.r 23) (some 2)⟩]
def aqueductref43_SameAll_21l : List GI := [⟨none, .call (some 25) false (.f 41) [(.r 20), (.r 24)]⟩,
    ⟨none, .un (some 26) .not (.r 25)⟩]
def aqueductref43_SameAll_21 : AC := .draw [0, 1, 5, 26] [] [] aqueductref43_SameAll_21h aqueductref43_SameAll_21l
theorem aqueductref43_SameAll_21e : aC P id m aqueductref43_SameAll_21 sf st Q = headI P id sf.locs st aqueductref43_SameAll_21h (tailK P id m [] [0, 1, 5, 26] [] aqueductref43_SameAll_21l Q st) [] ⟨sf.regs, dropL [] sf.locs⟩ := rfl
def aqueductref43_SameAll_24l : List GI := [⟨none, .mv (some 4) (.c (.lit (.bool false)))⟩]
def aqueductref43_SameAll_24 : AC := .ops [4] [] aqueductref43_SameAll_24l
theorem aqueductref43_SameAll_24e : aC P id m aqueductref43_SameAll_24 sf st Q = runI P id m aqueductref43_SameAll_24l (opsK [4] [] Q) sf st := rfl
def aqueductref43_SameAll_23 : AC := .seq aqueductref43_SameAll_24 .ret
theorem aqueductref43_SameAll_23e : aC P id m aqueductref43_SameAll_23 sf st Q = aC P id m aqueductref43_SameAll_24 sf st (seqQ (aC P id m .ret) Q) := rfl
def aqueductref43_SameAll_22 : AC := .cond (.r 26) aqueductref43_SameAll_23 .skip
theorem aqueductref43_SameAll_22e : aC P id m aqueductref43_SameAll_22 sf st Q = condI (.r 26) (sf.ev id (.r 26)) (aC P id m aqueductref43_SameAll_23) (aC P id m .skip) sf st Q := rfl
def aqueductref43_SameAll_20 : AC := .seq aqueductref43_SameAll_21 aqueductref43_SameAll_22
theorem aqueductref43_SameAll_20e : aC P id m aqueductref43_SameAll_20 sf st Q = aC P id m aqueductref43_SameAll_21 sf st (seqQ (aC P id m aqueductref43_SameAll_22) Q) := rfl
def aqueductref43_SameAll_19 : AC := .block 1 aqueductref43_SameAll_20
theorem aqueductref43_SameAll_19e : aC P id m aqueductref43_SameAll_19 sf st Q = aC P id m aqueductref43_SameAll_20 sf st (blockQ 1 Q) := rfl
def aqueductref43_SameAll_25l : List GI := [⟨none, .mv (some 15) (.r 5)⟩,
    ⟨none, .bin (some 16) .num .add (.r 15) (.c (.lit (.int .i64 1)))⟩,
    ⟨none, .own 5 16⟩]
def aqueductref43_SameAll_25 : AC := .ops [0, 1, 5] [] aqueductref43_SameAll_25l
theorem aqueductref43_SameAll_25e : aC P id m aqueductref43_SameAll_25 sf st Q = runI P id m aqueductref43_SameAll_25l (opsK [0, 1, 5] [] Q) sf st := rfl
def aqueductref43_SameAll_18 : AC := .seq aqueductref43_SameAll_19 aqueductref43_SameAll_25
theorem aqueductref43_SameAll_18e : aC P id m aqueductref43_SameAll_18 sf st Q = aC P id m aqueductref43_SameAll_19 sf st (seqQ (aC P id m aqueductref43_SameAll_25) Q) := rfl
def aqueductref43_SameAll_14 : AC := .seq aqueductref43_SameAll_15 aqueductref43_SameAll_18
theorem aqueductref43_SameAll_14e : aC P id m aqueductref43_SameAll_14 sf st Q = aC P id m aqueductref43_SameAll_15 sf st (seqQ (aC P id m aqueductref43_SameAll_18) Q) := rfl
def aqueductref43_SameAll_13 : AC := .loop [0, 1, 5] [] aqueductref43_SameAll_14
theorem aqueductref43_SameAll_13w : aC P id m aqueductref43_SameAll_13 sf st Q = loopI (aC P id m aqueductref43_SameAll_14) [0, 1, 5] [] sf st Q := rfl
def aqueductref43_SameAll_12 : AC := .block 0 aqueductref43_SameAll_13
theorem aqueductref43_SameAll_12e : aC P id m aqueductref43_SameAll_12 sf st Q = aC P id m aqueductref43_SameAll_13 sf st (blockQ 0 Q) := rfl
def aqueductref43_SameAll_10 : AC := .seq aqueductref43_SameAll_11 aqueductref43_SameAll_12
theorem aqueductref43_SameAll_10e : aC P id m aqueductref43_SameAll_10 sf st Q = aC P id m aqueductref43_SameAll_11 sf st (seqQ (aC P id m aqueductref43_SameAll_12) Q) := rfl
def aqueductref43_SameAll_27l : List GI := [⟨none, .mv (some 4) (.c (.lit (.bool true)))⟩]
def aqueductref43_SameAll_27 : AC := .ops [4] [] aqueductref43_SameAll_27l
theorem aqueductref43_SameAll_27e : aC P id m aqueductref43_SameAll_27 sf st Q = runI P id m aqueductref43_SameAll_27l (opsK [4] [] Q) sf st := rfl
def aqueductref43_SameAll_26 : AC := .seq aqueductref43_SameAll_27 .ret
theorem aqueductref43_SameAll_26e : aC P id m aqueductref43_SameAll_26 sf st Q = aC P id m aqueductref43_SameAll_27 sf st (seqQ (aC P id m .ret) Q) := rfl
def aqueductref43_SameAll_9 : AC := .seq aqueductref43_SameAll_10 aqueductref43_SameAll_26
theorem aqueductref43_SameAll_9e : aC P id m aqueductref43_SameAll_9 sf st Q = aC P id m aqueductref43_SameAll_10 sf st (seqQ (aC P id m aqueductref43_SameAll_26) Q) := rfl
def aqueductref43_SameAll_3 : AC := .seq aqueductref43_SameAll_4 aqueductref43_SameAll_9
theorem aqueductref43_SameAll_3e : aC P id m aqueductref43_SameAll_3 sf st Q = aC P id m aqueductref43_SameAll_4 sf st (seqQ (aC P id m aqueductref43_SameAll_9) Q) := rfl
def aqueductref43_SameAll_1 : AC := .seq aqueductref43_SameAll_2 aqueductref43_SameAll_3
theorem aqueductref43_SameAll_1e : aC P id m aqueductref43_SameAll_1 sf st Q = aC P id m aqueductref43_SameAll_2 sf st (seqQ (aC P id m aqueductref43_SameAll_3) Q) := rfl
def c_aqueductref43_SameAll : AFun := ⟨27, [.tmp 4], aqueductref43_SameAll_1⟩
theorem k_aqueductref43_SameAll : compF Go.Proofs.Try.prog x_aqueductref43_SameAll 18 = some c_aqueductref43_SameAll := by kernel_rfl
theorem e_aqueductref43_SameAll : enterB Go.Proofs.Try.prog 18 = true := by kernel_rfl

def n_aqueductlaw43_few : Nat := 19
def x_aqueductlaw43_few : Cx := ⟨some, id, 34, fun s => ([0, 2, 3, 4, 5, 6, 7, 8, 9, 10, 11, 13, 14, 16, 19, 20, 21, 22, 23, 24, 25, 26, 27, 28, 29, 31, 32, 33] : List Nat).contains s, fun s => ([] : List Nat).contains s, msOf [(2, [0], []), (12, [0, 3], []), (26, [0, 3], []), (208, [0, 3, 12], []), (419, [0], []), (840, [0, 3, 4], []), (1682, [0, 3, 30], []), (6732, [2], []), (211, [0, 3], []), (14, [2], [])]⟩
def aqueductlaw43_few_2l : List GI := [⟨none, .mv (some 2) (.c (.lit (.bool false)))⟩]
def aqueductlaw43_few_2 : AC := .ops [0] [] aqueductlaw43_few_2l
theorem aqueductlaw43_few_2e : aC P id m aqueductlaw43_few_2 sf st Q = runI P id m aqueductlaw43_few_2l (opsK [0] [] Q) sf st := rfl
def aqueductlaw43_few_5l : List GI := [⟨none, .mv (some 3) (.c (.lit (.int .i64 0)))⟩]
def aqueductlaw43_few_5 : AC := .ops [0, 3] [] aqueductlaw43_few_5l
theorem aqueductlaw43_few_5e : aC P id m aqueductlaw43_few_5 sf st Q = runI P id m aqueductlaw43_few_5l (opsK [0, 3] [] Q) sf st := rfl
def aqueductlaw43_few_10l : List GI := [⟨none, .mv (some 5) (.r 3)⟩,
    ⟨none, .mv (some 6) (.r 0)⟩,
    ⟨none, .len (some 7) .sl (.r 6)⟩,
    ⟨none, .bin (some 8) .num .lss (.r 5) (.r 7)⟩,
    ⟨none, .mv (some 9) (.r 8)⟩,
    ⟨some (9, true), .mv (some 10) (.r 3)⟩,
    ⟨some (9, true), .bin (some 11) .num .lss (.r 10) (.c (.lit (.int .i64 13)))⟩,
    ⟨none, .pick (some 12) (.r 9) (.r 11) (.c (.lit (.bool false)))⟩]
def aqueductlaw43_few_10 : AC := .ops [0, 3, 12] [] aqueductlaw43_few_10l
theorem aqueductlaw43_few_10e : aC P id m aqueductlaw43_few_10 sf st Q = runI P id m aqueductlaw43_few_10l (opsK [0, 3, 12] [] Q) sf st := rfl
def aqueductlaw43_few_11 : AC := .cond (.r 12) .skip (.exit [0] [] 0)
theorem aqueductlaw43_few_11e : aC P id m aqueductlaw43_few_11 sf st Q = condI (.r 12) (sf.ev id (.r 12)) (aC P id m .skip) (aC P id m (.exit [0] [] 0)) sf st Q := rfl
def aqueductlaw43_few_9 : AC := .seq aqueductlaw43_few_10 aqueductlaw43_few_11
theorem aqueductlaw43_few_9e : aC P id m aqueductlaw43_few_9 sf st Q = aC P id m aqueductlaw43_few_10 sf st (seqQ (aC P id m aqueductlaw43_few_11) Q) := rfl
def aqueductlaw43_few_15l : List GI := [⟨none, .mv (some 15) (.r 0)⟩,
    ⟨none, .mv (some 16) (.r 3)⟩,
    ⟨none, .ixS (some 17) (.r 15) (.r 16) 2⟩,
    ⟨none, .addr (some 18) (.r 17) 1⟩,
    ⟨none, .load (some 19) (.r 18) none⟩,
    ⟨none, .len (some 20) .sl (.r 19)⟩,
    ⟨none, .own 4 20⟩]
def aqueductlaw43_few_15 : AC := .ops [0, 3, 4] [] aqueductlaw43_few_15l
theorem aqueductlaw43_few_15e : aC P id m aqueductlaw43_few_15 sf st Q = runI P id m aqueductlaw43_few_15l (opsK [0, 3, 4] [] Q) sf st := rfl
def aqueductlaw43_few_17l : List GI := [⟨none, .mv (some 21) (.r 4)⟩,
    ⟨none, .bin (some 22) .num .gtr (.r 21) (.c (.lit (.int .i64 40)))⟩,
    ⟨none, .mv (some 23) (.r 22)⟩,
    ⟨some (23, true), .mv (some 24) (.r 4)⟩,
    ⟨some (23, true), .bin (some 25) .num .lss (.r 24) (.c (.lit (.int .i64 1020)))⟩,
    ⟨some (23, true), .mv (some 26) (.r 25)⟩,
    ⟨some (26, false), .mv (some 27) (.r 4)⟩,
    ⟨some (26, false), .bin (some 28) .num .gtr (.r 27) (.c (.lit (.int .i64 1030)))⟩,
    ⟨some (23, true), .pick (some 29) (.r 26) (.c (.lit (.bool true))) (.r 28)⟩,
    ⟨none, .pick (some 30) (.r 23) (.r 29) (.c (.lit (.bool false)))⟩]
def aqueductlaw43_few_17 : AC := .ops [0, 3, 30] [] aqueductlaw43_few_17l
theorem aqueductlaw43_few_17e : aC P id m aqueductlaw43_few_17 sf st Q = runI P id m aqueductlaw43_few_17l (opsK [0, 3, 30] [] Q) sf st := rfl
def aqueductlaw43_few_20l : List GI := [⟨none, .mv (some 2) (.c (.lit (.bool false)))⟩]
def aqueductlaw43_few_20 : AC := .ops [2] [] aqueductlaw43_few_20l
theorem aqueductlaw43_few_20e : aC P id m aqueductlaw43_few_20 sf st Q = runI P id m aqueductlaw43_few_20l (opsK [2] [] Q) sf st := rfl
def aqueductlaw43_few_19 : AC := .seq aqueductlaw43_few_20 .ret
theorem aqueductlaw43_few_19e : aC P id m aqueductlaw43_few_19 sf st Q = aC P id m aqueductlaw43_few_20 sf st (seqQ (aC P id m .ret) Q) := rfl
def aqueductlaw43_few_18 : AC := .cond (.r 30) aqueductlaw43_few_19 .skip
theorem aqueductlaw43_few_18e : aC P id m aqueductlaw43_few_18 sf st Q = condI (.r 30) (sf.ev id (.r 30)) (aC P id m aqueductlaw43_few_19) (aC P id m .skip) sf st Q := rfl
def aqueductlaw43_few_16 : AC := .seq aqueductlaw43_few_17 aqueductlaw43_few_18
theorem aqueductlaw43_few_16e : aC P id m aqueductlaw43_few_16 sf st Q = aC P id m aqueductlaw43_few_17 sf st (seqQ (aC P id m aqueductlaw43_few_18) Q) := rfl
def aqueductlaw43_few_14 : AC := .seq aqueductlaw43_few_15 aqueductlaw43_few_16
theorem aqueductlaw43_few_14e : aC P id m aqueductlaw43_few_14 sf st Q = aC P id m aqueductlaw43_few_15 sf st (seqQ (aC P id m aqueductlaw43_few_16) Q) := rfl
def aqueductlaw43_few_13 : AC := .block 1 aqueductlaw43_few_14
theorem aqueductlaw43_few_13e : aC P id m aqueductlaw43_few_13 sf st Q = aC P id m aqueductlaw43_few_14 sf st (blockQ 1 Q) := rfl
def aqueductlaw43_few_21l : List GI := [⟨none, .mv (some 13) (.r 3)⟩,
    ⟨none, .bin (some 14) .num .add (.r 13) (.c (.lit (.int .i64 1)))⟩,
    ⟨none, .own 3 14⟩]
def aqueductlaw43_few_21 : AC := .ops [0, 3] [] aqueductlaw43_few_21l
theorem aqueductlaw43_few_21e : aC P id m aqueductlaw43_few_21 sf st Q = runI P id m aqueductlaw43_few_21l (opsK [0, 3] [] Q) sf st := rfl
def aqueductlaw43_few_12 : AC := .seq aqueductlaw43_few_13 aqueductlaw43_few_21
theorem aqueductlaw43_few_12e : aC P id m aqueductlaw43_few_12 sf st Q = aC P id m aqueductlaw43_few_13 sf st (seqQ (aC P id m aqueductlaw43_few_21) Q) := rfl
def aqueductlaw43_few_8 : AC := .seq aqueductlaw43_few_9 aqueductlaw43_few_12
theorem aqueductlaw43_few_8e : aC P id m aqueductlaw43_few_8 sf st Q = aC P id m aqueductlaw43_few_9 sf st (seqQ (aC P id m aqueductlaw43_few_12) Q) := rfl
def aqueductlaw43_few_7 : AC := .loop [0, 3] [] aqueductlaw43_few_8
theorem aqueductlaw43_few_7w : aC P id m aqueductlaw43_few_7 sf st Q = loopI (aC P id m aqueductlaw43_few_8) [0, 3] [] sf st Q := rfl
def aqueductlaw43_few_6 : AC := .block 0 aqueductlaw43_few_7
theorem aqueductlaw43_few_6e : aC P id m aqueductlaw43_few_6 sf st Q = aC P id m aqueductlaw43_few_7 sf st (blockQ 0 Q) := rfl
def aqueductlaw43_few_4 : AC := .seq aqueductlaw43_few_5 aqueductlaw43_few_6
theorem aqueductlaw43_few_4e : aC P id m aqueductlaw43_few_4 sf st Q = aC P id m aqueductlaw43_few_5 sf st (seqQ (aC P id m aqueductlaw43_few_6) Q) := rfl
def aqueductlaw43_few_23l : List GI := [⟨none, .mv (some 31) (.r 0)⟩,
    ⟨none, .len (some 32) .sl (.r 31)⟩,
    ⟨none, .bin (some 33) .num .leq (.r 32) (.c (.lit (.int .i64 12)))⟩,
    ⟨none, .own 2 33⟩]
def aqueductlaw43_few_23 : AC := .ops [2] [] aqueductlaw43_few_23l
theorem aqueductlaw43_few_23e : aC P id m aqueductlaw43_few_23 sf st Q = runI P id m aqueductlaw43_few_23l (opsK [2] [] Q) sf st := rfl
def aqueductlaw43_few_22 : AC := .seq aqueductlaw43_few_23 .ret
theorem aqueductlaw43_few_22e : aC P id m aqueductlaw43_few_22 sf st Q = aC P id m aqueductlaw43_few_23 sf st (seqQ (aC P id m .ret) Q) := rfl
def aqueductlaw43_few_3 : AC := .seq aqueductlaw43_few_4 aqueductlaw43_few_22
theorem aqueductlaw43_few_3e : aC P id m aqueductlaw43_few_3 sf st Q = aC P id m aqueductlaw43_few_4 sf st (seqQ (aC P id m aqueductlaw43_few_22) Q) := rfl
def aqueductlaw43_few_1 : AC := .seq aqueductlaw43_few_2 aqueductlaw43_few_3
theorem aqueductlaw43_few_1e : aC P id m aqueductlaw43_few_1 sf st Q = aC P id m aqueductlaw43_few_2 sf st (seqQ (aC P id m aqueductlaw43_few_3) Q) := rfl
def c_aqueductlaw43_few : AFun := ⟨34, [.tmp 2], aqueductlaw43_few_1⟩
theorem k_aqueductlaw43_few : compF Go.Proofs.Try.prog x_aqueductlaw43_few 19 = some c_aqueductlaw43_few := by kernel_rfl
theorem e_aqueductlaw43_few : enterB Go.Proofs.Try.prog 19 = true := by kernel_rfl

def n_frame_Encode : Nat := 20
def x_frame_Encode : Cx := ⟨some, id, 27, fun s => ([0, 2, 3, 4, 6, 7, 10, 11, 13, 14, 15, 17, 18, 19, 20, 21, 22, 23, 24, 25, 26] : List Nat).contains s, fun s => ([] : List Nat).contains s, msOf [(2, [1], [1]), (12, [1, 8], [1]), (52, [2, 3], []), (14, [4], []), (30, [2, 3], [])]⟩
def frame_Encode_2l : List GI := [⟨none, .boxL 1 2 (.r 0)⟩,
    ⟨none, .mv (some 2) (.c (.lit (.slice none 0 0)))⟩,
    ⟨none, .mv (some 3) (.c (.lit (.int .i64 0)))⟩]
def frame_Encode_2 : AC := .ops [1] [1] frame_Encode_2l
theorem frame_Encode_2e : aC P id m frame_Encode_2 sf st Q = runI P id m frame_Encode_2l (opsK [1] [1] Q) sf st := rfl
def frame_Encode_5l : List GI := [⟨none, .addr (some 5) (.r 1) 1⟩,
    ⟨none, .load (some 6) (.r 5) none⟩,
    ⟨none, .len (some 7) .sl (.r 6)⟩,
    ⟨none, .bin (some 8) .num .gtr (.r 7) (.c (.lit (.int .i64 1024)))⟩]
def frame_Encode_5 : AC := .ops [1, 8] [1] frame_Encode_5l
theorem frame_Encode_5e : aC P id m frame_Encode_5 sf st Q = runI P id m frame_Encode_5l (opsK [1, 8] [1] Q) sf st := rfl
def frame_Encode_8l : List GI := [⟨none, .mv (some 2) (.c (.lit (.slice none 0 0)))⟩,
    ⟨none, .mv (some 3) (.c (.lit (.int .i64 5)))⟩]
def frame_Encode_8 : AC := .ops [2, 3] [] frame_Encode_8l
theorem frame_Encode_8e : aC P id m frame_Encode_8 sf st Q = runI P id m frame_Encode_8l (opsK [2, 3] [] Q) sf st := rfl
def frame_Encode_7 : AC := .seq frame_Encode_8 .ret
theorem frame_Encode_7e : aC P id m frame_Encode_7 sf st Q = aC P id m frame_Encode_8 sf st (seqQ (aC P id m .ret) Q) := rfl
def frame_Encode_6 : AC := .cond (.r 8) frame_Encode_7 .skip
theorem frame_Encode_6e : aC P id m frame_Encode_6 sf st Q = condI (.r 8) (sf.ev id (.r 8)) (aC P id m frame_Encode_7) (aC P id m .skip) sf st Q := rfl
def frame_Encode_4 : AC := .seq frame_Encode_5 frame_Encode_6
theorem frame_Encode_4e : aC P id m frame_Encode_4 sf st Q = aC P id m frame_Encode_5 sf st (seqQ (aC P id m frame_Encode_6) Q) := rfl
def frame_Encode_10h : List GI := [⟨none, .addr (some 9) (.r 1) 0⟩,
    ⟨none, .load (some 10) (.r 9) none⟩,
    ⟨none, .bsl (some 11) 1 1 (.lit (.int .u8 0)) [(0, (.r 10))]⟩,
    ⟨none, .addr (some 12) (.r 1) 1⟩,
    ⟨none, .load (some 13) (.r 12) none⟩,
    ⟨none, .len (some 14) .sl (.r 13)⟩,
    ⟨none, .call (some 15) true (.f 47) [(.r 14)]⟩,
    ⟨none, .addr (some 16) (.r 1) 1⟩,
    ⟨none, .load (some 17) (.r 16) none⟩]
def frame_Encode_10l : List GI := [⟨none, .bsl (some 18) 1 3 (.lit (.slice none 0 0)) [(0, (.r 11)), (1, (.r 15)), (2, (.r 17))]⟩,
    ⟨none, .call (some 19) false (.f 46) [(.r 18)]⟩,
    ⟨none, .own 4 19⟩]
def frame_Encode_10 : AC := .draw [4] [] [] frame_Encode_10h frame_Encode_10l
theorem frame_Encode_10e : aC P id m frame_Encode_10 sf st Q = headI P id sf.locs st frame_Encode_10h (tailK P id m [] [4] [] frame_Encode_10l Q st) [] ⟨sf.regs, dropL [] sf.locs⟩ := rfl
def frame_Encode_12l : List GI := [⟨none, .bsl (some 20) 1 1 (.lit (.int .u8 0)) [(0, (.c (.lit (.int .u8 197))))]⟩,
    ⟨none, .mv (some 21) (.r 4)⟩,
    ⟨none, .mv (some 22) (.r 4)⟩,
    ⟨none, .call (some 23) false (.f 48) [(.r 22)]⟩,
    ⟨none, .call (some 24) false (.f 47) [(.r 23)]⟩,
    ⟨none, .bsl (some 25) 1 3 (.lit (.slice none 0 0)) [(0, (.r 20)), (1, (.r 21)), (2, (.r 24))]⟩,
    ⟨none, .call (some 26) false (.f 46) [(.r 25)]⟩,
    ⟨none, .own 2 26⟩,
    ⟨none, .mv (some 3) (.c (.lit (.int .i64 0)))⟩]
def frame_Encode_12 : AC := .ops [2, 3] [] frame_Encode_12l
theorem frame_Encode_12e : aC P id m frame_Encode_12 sf st Q = runI P id m frame_Encode_12l (opsK [2, 3] [] Q) sf st := rfl
def frame_Encode_11 : AC := .seq frame_Encode_12 .ret
theorem frame_Encode_11e : aC P id m frame_Encode_11 sf st Q = aC P id m frame_Encode_12 sf st (seqQ (aC P id m .ret) Q) := rfl
def frame_Encode_9 : AC := .seq frame_Encode_10 frame_Encode_11
theorem frame_Encode_9e : aC P id m frame_Encode_9 sf st Q = aC P id m frame_Encode_10 sf st (seqQ (aC P id m frame_Encode_11) Q) := rfl
def frame_Encode_3 : AC := .seq frame_Encode_4 frame_Encode_9
theorem frame_Encode_3e : aC P id m frame_Encode_3 sf st Q = aC P id m frame_Encode_4 sf st (seqQ (aC P id m frame_Encode_9) Q) := rfl
def frame_Encode_1 : AC := .seq frame_Encode_2 frame_Encode_3
theorem frame_Encode_1e : aC P id m frame_Encode_1 sf st Q = aC P id m frame_Encode_2 sf st (seqQ (aC P id m frame_Encode_3) Q) := rfl
def c_frame_Encode : AFun := ⟨27, [.tmp 2, .tmp 3], frame_Encode_1⟩
theorem k_frame_Encode : compF Go.Proofs.Try.prog x_frame_Encode 20 = some c_frame_Encode := by kernel_rfl
theorem e_frame_Encode : enterB Go.Proofs.Try.prog 20 = true := by kernel_rfl

def n_frame_Join : Nat := 21
def x_frame_Join : Cx := ⟨some, id, 28, fun s => ([0, 2, 3, 4, 7, 8, 9, 10, 11, 14, 15, 16, 17, 18, 19, 20, 22, 23, 24, 25, 26, 27] : List Nat).contains s, fun s => ([] : List Nat).contains s, msOf [(2, [0], []), (6, [0, 4], []), (28, [4, 9, 10, 11], []), (58, [4, 9, 10, 11], []), (232, [4, 9, 10, 11, 12], []), (933, [4], []), (3736, [4, 6, 9, 10, 11], [6]), (7474, [4, 7, 8, 9, 10, 11], []), (29900, [4, 7, 8, 9, 10, 11, 21], []), (119604, [2, 3], []), (14951, [4, 9, 10, 11], []), (935, [4, 9, 10, 11], []), (30, [2, 3], [])]⟩
def frame_Join_2l : List GI := [⟨none, .mv (some 2) (.c (.lit (.slice none 0 0)))⟩,
    ⟨none, .mv (some 3) (.c (.lit (.int .i64 0)))⟩]
def frame_Join_2 : AC := .ops [0] [] frame_Join_2l
theorem frame_Join_2e : aC P id m frame_Join_2 sf st Q = runI P id m frame_Join_2l (opsK [0] [] Q) sf st := rfl
def frame_Join_4l : List GI := [⟨none, .mv (some 4) (.c (.lit (.slice none 0 0)))⟩]
def frame_Join_4 : AC := .ops [0, 4] [] frame_Join_4l
theorem frame_Join_4e : aC P id m frame_Join_4 sf st Q = runI P id m frame_Join_4l (opsK [0, 4] [] Q) sf st := rfl
def frame_Join_7l : List GI := [⟨none, .mv (some 9) (.r 0)⟩,
    ⟨none, .len (some 10) .sl (.r 9)⟩,
    ⟨none, .mv (some 11) (.c (.lit (.int .i64 0)))⟩]
def frame_Join_7 : AC := .ops [4, 9, 10, 11] [] frame_Join_7l
theorem frame_Join_7e : aC P id m frame_Join_7 sf st Q = runI P id m frame_Join_7l (opsK [4, 9, 10, 11] [] Q) sf st := rfl
def frame_Join_11l : List GI := [⟨none, .bin (some 12) .num .lss (.r 11) (.r 10)⟩]
def frame_Join_11 : AC := .ops [4, 9, 10, 11, 12] [] frame_Join_11l
theorem frame_Join_11e : aC P id m frame_Join_11 sf st Q = runI P id m frame_Join_11l (opsK [4, 9, 10, 11, 12] [] Q) sf st := rfl
def frame_Join_13 : AC := .cond (.r 12) .skip (.exit [4] [] 0)
theorem frame_Join_13e : aC P id m frame_Join_13 sf st Q = condI (.r 12) (sf.ev id (.r 12)) (aC P id m .skip) (aC P id m (.exit [4] [] 0)) sf st Q := rfl
def frame_Join_17l : List GI := [⟨none, .ixS (some 13) (.r 9) (.r 11) 2⟩,
    ⟨none, .load (some 14) (.r 13) (some 2)⟩,
    ⟨none, .newL 6 [(.lit (.int .u8 0)), (.lit (.slice none 0 0))]⟩,
    ⟨none, .store 2 (.r 6) (.r 14)⟩]
def frame_Join_17 : AC := .ops [4, 6, 9, 10, 11] [6] frame_Join_17l
theorem frame_Join_17e : aC P id m frame_Join_17 sf st Q = runI P id m frame_Join_17l (opsK [4, 6, 9, 10, 11] [6] Q) sf st := rfl
def frame_Join_19l : List GI := [⟨none, .load (some 16) (.r 6) (some 2)⟩,
    ⟨none, .call (some 17) false (.f 20) [(.r 16)]⟩,
    ⟨none, .mv (some 15) (.r 17)⟩,
    ⟨none, .ext (some 18) (.r 15) 0⟩,
    ⟨none, .ext (some 19) (.r 15) 1⟩,
    ⟨none, .own 7 18⟩,
    ⟨none, .own 8 19⟩]
def frame_Join_19 : AC := .ops [4, 7, 8, 9, 10, 11] [] frame_Join_19l
theorem frame_Join_19e : aC P id m frame_Join_19 sf st Q = runI P id m frame_Join_19l (opsK [4, 7, 8, 9, 10, 11] [] Q) sf st := rfl
def frame_Join_22l : List GI := [⟨none, .mv (some 20) (.r 8)⟩,
    ⟨none, .bin (some 21) .num .neq (.r 20) (.c (.lit (.int .i64 0)))⟩]
def frame_Join_22 : AC := .ops [4, 7, 8, 9, 10, 11, 21] [] frame_Join_22l
theorem frame_Join_22e : aC P id m frame_Join_22 sf st Q = runI P id m frame_Join_22l (opsK [4, 7, 8, 9, 10, 11, 21] [] Q) sf st := rfl
def frame_Join_25l : List GI := [⟨none, .mv (some 22) (.r 8)⟩,
    ⟨none, .mv (some 2) (.c (.lit (.slice none 0 0)))⟩,
    ⟨none, .own 3 22⟩]
def frame_Join_25 : AC := .ops [2, 3] [] frame_Join_25l
theorem frame_Join_25e : aC P id m frame_Join_25 sf st Q = runI P id m frame_Join_25l (opsK [2, 3] [] Q) sf st := rfl
def frame_Join_24 : AC := .seq frame_Join_25 .ret
theorem frame_Join_24e : aC P id m frame_Join_24 sf st Q = aC P id m frame_Join_25 sf st (seqQ (aC P id m .ret) Q) := rfl
def frame_Join_23 : AC := .cond (.r 21) frame_Join_24 .skip
theorem frame_Join_23e : aC P id m frame_Join_23 sf st Q = condI (.r 21) (sf.ev id (.r 21)) (aC P id m frame_Join_24) (aC P id m .skip) sf st Q := rfl
def frame_Join_21 : AC := .seq frame_Join_22 frame_Join_23
theorem frame_Join_21e : aC P id m frame_Join_21 sf st Q = aC P id m frame_Join_22 sf st (seqQ (aC P id m frame_Join_23) Q) := rfl
def frame_Join_26l : List GI := [⟨none, .own 23 4⟩,
    ⟨none, .mv (some 24) (.r 7)⟩,
    ⟨none, .appS 25 23 1 1 (.r 24)⟩,
    ⟨none, .own 4 25⟩]
def frame_Join_26 : AC := .ops [4, 9, 10, 11] [] frame_Join_26l
theorem frame_Join_26e : aC P id m frame_Join_26 sf st Q = runI P id m frame_Join_26l (opsK [4, 9, 10, 11] [] Q) sf st := rfl
def frame_Join_20 : AC := .seq frame_Join_21 frame_Join_26
theorem frame_Join_20e : aC P id m frame_Join_20 sf st Q = aC P id m frame_Join_21 sf st (seqQ (aC P id m frame_Join_26) Q) := rfl
def frame_Join_18 : AC := .seq frame_Join_19 frame_Join_20
theorem frame_Join_18e : aC P id m frame_Join_18 sf st Q = aC P id m frame_Join_19 sf st (seqQ (aC P id m frame_Join_20) Q) := rfl
def frame_Join_16 : AC := .seq frame_Join_17 frame_Join_18
theorem frame_Join_16e : aC P id m frame_Join_16 sf st Q = aC P id m frame_Join_17 sf st (seqQ (aC P id m frame_Join_18) Q) := rfl
def frame_Join_15 : AC := .block 1 frame_Join_16
theorem frame_Join_15e : aC P id m frame_Join_15 sf st Q = aC P id m frame_Join_16 sf st (blockQ 1 Q) := rfl
def frame_Join_27l : List GI := [⟨none, .bin (some 26) .num .add (.r 11) (.c (.lit (.int .i64 1)))⟩,
    ⟨none, .mv (some 11) (.r 26)⟩]
def frame_Join_27 : AC := .ops [4, 9, 10, 11] [] frame_Join_27l
theorem frame_Join_27e : aC P id m frame_Join_27 sf st Q = runI P id m frame_Join_27l (opsK [4, 9, 10, 11] [] Q) sf st := rfl
def frame_Join_14 : AC := .seq frame_Join_15 frame_Join_27
theorem frame_Join_14e : aC P id m frame_Join_14 sf st Q = aC P id m frame_Join_15 sf st (seqQ (aC P id m frame_Join_27) Q) := rfl
def frame_Join_12 : AC := .seq frame_Join_13 frame_Join_14
theorem frame_Join_12e : aC P id m frame_Join_12 sf st Q = aC P id m frame_Join_13 sf st (seqQ (aC P id m frame_Join_14) Q) := rfl
def frame_Join_10 : AC := .seq frame_Join_11 frame_Join_12
theorem frame_Join_10e : aC P id m frame_Join_10 sf st Q = aC P id m frame_Join_11 sf st (seqQ (aC P id m frame_Join_12) Q) := rfl
def frame_Join_9 : AC := .loop [4, 9, 10, 11] [] frame_Join_10
theorem frame_Join_9w : aC P id m frame_Join_9 sf st Q = loopI (aC P id m frame_Join_10) [4, 9, 10, 11] [] sf st Q := rfl
def frame_Join_8 : AC := .block 0 frame_Join_9
theorem frame_Join_8e : aC P id m frame_Join_8 sf st Q = aC P id m frame_Join_9 sf st (blockQ 0 Q) := rfl
def frame_Join_6 : AC := .seq frame_Join_7 frame_Join_8
theorem frame_Join_6e : aC P id m frame_Join_6 sf st Q = aC P id m frame_Join_7 sf st (seqQ (aC P id m frame_Join_8) Q) := rfl
def frame_Join_29l : List GI := [⟨none, .mv (some 27) (.r 4)⟩,
    ⟨none, .own 2 27⟩,
    ⟨none, .mv (some 3) (.c (.lit (.int .i64 0)))⟩]
def frame_Join_29 : AC := .ops [2, 3] [] frame_Join_29l
theorem frame_Join_29e : aC P id m frame_Join_29 sf st Q = runI P id m frame_Join_29l (opsK [2, 3] [] Q) sf st := rfl
def frame_Join_28 : AC := .seq frame_Join_29 .ret
theorem frame_Join_28e : aC P id m frame_Join_28 sf st Q = aC P id m frame_Join_29 sf st (seqQ (aC P id m .ret) Q) := rfl
def frame_Join_5 : AC := .seq frame_Join_6 frame_Join_28
theorem frame_Join_5e : aC P id m frame_Join_5 sf st Q = aC P id m frame_Join_6 sf st (seqQ (aC P id m frame_Join_28) Q) := rfl
def frame_Join_3 : AC := .seq frame_Join_4 frame_Join_5
theorem frame_Join_3e : aC P id m frame_Join_3 sf st Q = aC P id m frame_Join_4 sf st (seqQ (aC P id m frame_Join_5) Q) := rfl
def frame_Join_1 : AC := .seq frame_Join_2 frame_Join_3
theorem frame_Join_1e : aC P id m frame_Join_1 sf st Q = aC P id m frame_Join_2 sf st (seqQ (aC P id m frame_Join_3) Q) := rfl
def c_frame_Join : AFun := ⟨28, [.tmp 2, .tmp 3], frame_Join_1⟩
theorem k_frame_Join : compF Go.Proofs.Try.prog x_frame_Join 21 = some c_frame_Join := by kernel_rfl
theorem e_frame_Join : enterB Go.Proofs.Try.prog 21 = true := by kernel_rfl

def n_aqueductref43_Short : Nat := 22
def x_aqueductref43_Short : Cx := ⟨some, id, 17, fun s => ([0, 2, 3, 4, 5, 6, 8, 9, 11, 14, 15] : List Nat).contains s, fun s => ([] : List Nat).contains s, msOf [(2, [0], []), (12, [0, 3], []), (26, [0, 3], []), (208, [0, 3, 7], []), (419, [], []), (840, [0, 3, 16], []), (3364, [2], []), (211, [0, 3], []), (14, [2], [])]⟩
def aqueductref43_Short_2l : List GI := [⟨none, .mv (some 2) (.c (.lit (.bool false)))⟩]
def aqueductref43_Short_2 : AC := .ops [0] [] aqueductref43_Short_2l
theorem aqueductref43_Short_2e : aC P id m aqueductref43_Short_2 sf st Q = runI P id m aqueductref43_Short_2l (opsK [0] [] Q) sf st := rfl
def aqueductref43_Short_5l : List GI := [⟨none, .mv (some 3) (.c (.lit (.int .i64 0)))⟩]
def aqueductref43_Short_5 : AC := .ops [0, 3] [] aqueductref43_Short_5l
theorem aqueductref43_Short_5e : aC P id m aqueductref43_Short_5 sf st Q = runI P id m aqueductref43_Short_5l (opsK [0, 3] [] Q) sf st := rfl
def aqueductref43_Short_10l : List GI := [⟨none, .mv (some 4) (.r 3)⟩,
    ⟨none, .mv (some 5) (.r 0)⟩,
    ⟨none, .len (some 6) .sl (.r 5)⟩,
    ⟨none, .bin (some 7) .num .lss (.r 4) (.r 6)⟩]
def aqueductref43_Short_10 : AC := .ops [0, 3, 7] [] aqueductref43_Short_10l
theorem aqueductref43_Short_10e : aC P id m aqueductref43_Short_10 sf st Q = runI P id m aqueductref43_Short_10l (opsK [0, 3, 7] [] Q) sf st := rfl
def aqueductref43_Short_11 : AC := .cond (.r 7) .skip (.exit [] [] 0)
theorem aqueductref43_Short_11e : aC P id m aqueductref43_Short_11 sf st Q = condI (.r 7) (sf.ev id (.r 7)) (aC P id m .skip) (aC P id m (.exit [] [] 0)) sf st Q := rfl
def aqueductref43_Short_9 : AC := .seq aqueductref43_Short_10 aqueductref43_Short_11
theorem aqueductref43_Short_9e : aC P id m aqueductref43_Short_9 sf st Q = aC P id m aqueductref43_Short_10 sf st (seqQ (aC P id m aqueductref43_Short_11) Q) := rfl
def aqueductref43_Short_15l : List GI := [⟨none, .mv (some 10) (.r 0)⟩,
    ⟨none, .mv (some 11) (.r 3)⟩,
    ⟨none, .ixS (some 12) (.r 10) (.r 11) 2⟩,
    ⟨none, .addr (some 13) (.r 12) 1⟩,
    ⟨none, .load (some 14) (.r 13) none⟩,
    ⟨none, .len (some 15) .sl (.r 14)⟩,
    ⟨none, .bin (some 16) .num .gtr (.r 15) (.c (.lit (.int .i64 1024)))⟩]
def aqueductref43_Short_15 : AC := .ops [0, 3, 16] [] aqueductref43_Short_15l
theorem aqueductref43_Short_15e : aC P id m aqueductref43_Short_15 sf st Q = runI P id m aqueductref43_Short_15l (opsK [0, 3, 16] [] Q) sf st := rfl
def aqueductref43_Short_18l : List GI := [⟨none, .mv (some 2) (.c (.lit (.bool false)))⟩]
def aqueductref43_Short_18 : AC := .ops [2] [] aqueductref43_Short_18l
theorem aqueductref43_Short_18e : aC P id m aqueductref43_Short_18 sf st Q = runI P id m aqueductref43_Short_18l (opsK [2] [] Q) sf st := rfl
def aqueductref43_Short_17 : AC := .seq aqueductref43_Short_18 .ret
theorem aqueductref43_Short_17e : aC P id m aqueductref43_Short_17 sf st Q = aC P id m aqueductref43_Short_18 sf st (seqQ (aC P id m .ret) Q) := rfl
def aqueductref43_Short_16 : AC := .cond (.r 16) aqueductref43_Short_17 .skip
theorem aqueductref43_Short_16e : aC P id m aqueductref43_Short_16 sf st Q = condI (.r 16) (sf.ev id (.r 16)) (aC P id m aqueductref43_Short_17) (aC P id m .skip) sf st Q := rfl
def aqueductref43_Short_14 : AC := .seq aqueductref43_Short_15 aqueductref43_Short_16
theorem aqueductref43_Short_14e : aC P id m aqueductref43_Short_14 sf st Q = aC P id m aqueductref43_Short_15 sf st (seqQ (aC P id m aqueductref43_Short_16) Q) := rfl
def aqueductref43_Short_13 : AC := .block 1 aqueductref43_Short_14
theorem aqueductref43_Short_13e : aC P id m aqueductref43_Short_13 sf st Q = aC P id m aqueductref43_Short_14 sf st (blockQ 1 Q) := rfl
def aqueductref43_Short_19l : List GI := [⟨none, .mv (some 8) (.r 3)⟩,
    ⟨none, .bin (some 9) .num .add (.r 8) (.c (.lit (.int .i64 1)))⟩,
    ⟨none, .own 3 9⟩]
def aqueductref43_Short_19 : AC := .ops [0, 3] [] aqueductref43_Short_19l
theorem aqueductref43_Short_19e : aC P id m aqueductref43_Short_19 sf st Q = runI P id m aqueductref43_Short_19l (opsK [0, 3] [] Q) sf st := rfl
def aqueductref43_Short_12 : AC := .seq aqueductref43_Short_13 aqueductref43_Short_19
theorem aqueductref43_Short_12e : aC P id m aqueductref43_Short_12 sf st Q = aC P id m aqueductref43_Short_13 sf st (seqQ (aC P id m aqueductref43_Short_19) Q) := rfl
def aqueductref43_Short_8 : AC := .seq aqueductref43_Short_9 aqueductref43_Short_12
theorem aqueductref43_Short_8e : aC P id m aqueductref43_Short_8 sf st Q = aC P id m aqueductref43_Short_9 sf st (seqQ (aC P id m aqueductref43_Short_12) Q) := rfl
def aqueductref43_Short_7 : AC := .loop [0, 3] [] aqueductref43_Short_8
theorem aqueductref43_Short_7w : aC P id m aqueductref43_Short_7 sf st Q = loopI (aC P id m aqueductref43_Short_8) [0, 3] [] sf st Q := rfl
def aqueductref43_Short_6 : AC := .block 0 aqueductref43_Short_7
theorem aqueductref43_Short_6e : aC P id m aqueductref43_Short_6 sf st Q = aC P id m aqueductref43_Short_7 sf st (blockQ 0 Q) := rfl
def aqueductref43_Short_4 : AC := .seq aqueductref43_Short_5 aqueductref43_Short_6
theorem aqueductref43_Short_4e : aC P id m aqueductref43_Short_4 sf st Q = aC P id m aqueductref43_Short_5 sf st (seqQ (aC P id m aqueductref43_Short_6) Q) := rfl
def aqueductref43_Short_21l : List GI := [⟨none, .mv (some 2) (.c (.lit (.bool true)))⟩]
def aqueductref43_Short_21 : AC := .ops [2] [] aqueductref43_Short_21l
theorem aqueductref43_Short_21e : aC P id m aqueductref43_Short_21 sf st Q = runI P id m aqueductref43_Short_21l (opsK [2] [] Q) sf st := rfl
def aqueductref43_Short_20 : AC := .seq aqueductref43_Short_21 .ret
theorem aqueductref43_Short_20e : aC P id m aqueductref43_Short_20 sf st Q = aC P id m aqueductref43_Short_21 sf st (seqQ (aC P id m .ret) Q) := rfl
def aqueductref43_Short_3 : AC := .seq aqueductref43_Short_4 aqueductref43_Short_20
theorem aqueductref43_Short_3e : aC P id m aqueductref43_Short_3 sf st Q = aC P id m aqueductref43_Short_4 sf st (seqQ (aC P id m aqueductref43_Short_20) Q) := rfl
def aqueductref43_Short_1 : AC := .seq aqueductref43_Short_2 aqueductref43_Short_3
theorem aqueductref43_Short_1e : aC P id m aqueductref43_Short_1 sf st Q = aC P id m aqueductref43_Short_2 sf st (seqQ (aC P id m aqueductref43_Short_3) Q) := rfl
def c_aqueductref43_Short : AFun := ⟨17, [.tmp 2], aqueductref43_Short_1⟩
theorem k_aqueductref43_Short : compF Go.Proofs.Try.prog x_aqueductref43_Short 22 = some c_aqueductref43_Short := by kernel_rfl
theorem e_aqueductref43_Short : enterB Go.Proofs.Try.prog 22 = true := by kernel_rfl

def n_frame_Reader_Feed : Nat := 38
def x_frame_Reader_Feed : Cx := ⟨some, id, 33, fun s => ([0, 1, 4, 6, 7, 12, 13, 15, 16, 20, 21, 22, 23, 28, 29, 30] : List Nat).contains s, fun s => ([] : List Nat).contains s, msOf [(2, [0, 1], []), (24, [0, 1, 5], []), (100, [4], []), (102, [0, 1, 8], []), (412, [4], []), (414, [0, 1, 14], []), (1660, [4], []), (14, [], []), (30, [4], [])]⟩
def frame_Reader_Feed_2l : List GI := [⟨none, .mv (some 4) (.c (.lit (.int .i64 0)))⟩]
def frame_Reader_Feed_2 : AC := .ops [0, 1] [] frame_Reader_Feed_2l
theorem frame_Reader_Feed_2e : aC P id m frame_Reader_Feed_2 sf st Q = runI P id m frame_Reader_Feed_2l (opsK [0, 1] [] Q) sf st := rfl
def frame_Reader_Feed_6l : List GI := [⟨none, .mv (some 6) (.r 0)⟩,
    ⟨none, .bin (some 7) (.nil .ptr) .eql (.r 6) (.c (.lit (.pointer none)))⟩,
    ⟨none, .own 5 7⟩]
def frame_Reader_Feed_6 : AC := .ops [0, 1, 5] [] frame_Reader_Feed_6l
theorem frame_Reader_Feed_6e : aC P id m frame_Reader_Feed_6 sf st Q = runI P id m frame_Reader_Feed_6l (opsK [0, 1, 5] [] Q) sf st := rfl
def frame_Reader_Feed_9l : List GI := [⟨none, .mv (some 4) (.c (.lit (.int .i64 1)))⟩]
def frame_Reader_Feed_9 : AC := .ops [4] [] frame_Reader_Feed_9l
theorem frame_Reader_Feed_9e : aC P id m frame_Reader_Feed_9 sf st Q = runI P id m frame_Reader_Feed_9l (opsK [4] [] Q) sf st := rfl
def frame_Reader_Feed_8 : AC := .seq frame_Reader_Feed_9 .ret
theorem frame_Reader_Feed_8e : aC P id m frame_Reader_Feed_8 sf st Q = aC P id m frame_Reader_Feed_9 sf st (seqQ (aC P id m .ret) Q) := rfl
def frame_Reader_Feed_11l : List GI := [⟨none, .mv (some 9) (.r 0)⟩,
    ⟨none, .nilck (some 10) (.r 9)⟩,
    ⟨none, .addr (some 11) (.r 10) 1⟩,
    ⟨none, .load (some 12) (.r 11) none⟩,
    ⟨none, .bin (some 13) .num .neq (.r 12) (.c (.lit (.int .i64 0)))⟩,
    ⟨none, .own 8 13⟩]
def frame_Reader_Feed_11 : AC := .ops [0, 1, 8] [] frame_Reader_Feed_11l
theorem frame_Reader_Feed_11e : aC P id m frame_Reader_Feed_11 sf st Q = runI P id m frame_Reader_Feed_11l (opsK [0, 1, 8] [] Q) sf st := rfl
def frame_Reader_Feed_14l : List GI := [⟨none, .mv (some 4) (.c (.lit (.int .i64 8)))⟩]
def frame_Reader_Feed_14 : AC := .ops [4] [] frame_Reader_Feed_14l
theorem frame_Reader_Feed_14e : aC P id m frame_Reader_Feed_14 sf st Q = runI P id m frame_Reader_Feed_14l (opsK [4] [] Q) sf st := rfl
def frame_Reader_Feed_13 : AC := .seq frame_Reader_Feed_14 .ret
theorem frame_Reader_Feed_13e : aC P id m frame_Reader_Feed_13 sf st Q = aC P id m frame_Reader_Feed_14 sf st (seqQ (aC P id m .ret) Q) := rfl
def frame_Reader_Feed_16l : List GI := [⟨none, .mv (some 15) (.r 1)⟩,
    ⟨none, .len (some 16) .sl (.r 15)⟩,
    ⟨none, .mv (some 17) (.r 0)⟩,
    ⟨none, .nilck (some 18) (.r 17)⟩,
    ⟨none, .addr (some 19) (.r 18) 0⟩,
    ⟨none, .load (some 20) (.r 19) none⟩,
    ⟨none, .len (some 21) .sl (.r 20)⟩,
    ⟨none, .bin (some 22) .num .sub (.c (.lit (.int .i64 65536))) (.r 21)⟩,
    ⟨none, .bin (some 23) .num .gtr (.r 16) (.r 22)⟩,
    ⟨none, .own 14 23⟩]
def frame_Reader_Feed_16 : AC := .ops [0, 1, 14] [] frame_Reader_Feed_16l
theorem frame_Reader_Feed_16e : aC P id m frame_Reader_Feed_16 sf st Q = runI P id m frame_Reader_Feed_16l (opsK [0, 1, 14] [] Q) sf st := rfl
def frame_Reader_Feed_19l : List GI := [⟨none, .mv (some 4) (.c (.lit (.int .i64 7)))⟩]
def frame_Reader_Feed_19 : AC := .ops [4] [] frame_Reader_Feed_19l
theorem frame_Reader_Feed_19e : aC P id m frame_Reader_Feed_19 sf st Q = runI P id m frame_Reader_Feed_19l (opsK [4] [] Q) sf st := rfl
def frame_Reader_Feed_18 : AC := .seq frame_Reader_Feed_19 .ret
theorem frame_Reader_Feed_18e : aC P id m frame_Reader_Feed_18 sf st Q = aC P id m frame_Reader_Feed_19 sf st (seqQ (aC P id m .ret) Q) := rfl
def frame_Reader_Feed_17 : AC := .cond (.r 14) frame_Reader_Feed_18 .skip
theorem frame_Reader_Feed_17e : aC P id m frame_Reader_Feed_17 sf st Q = condI (.r 14) (sf.ev id (.r 14)) (aC P id m frame_Reader_Feed_18) (aC P id m .skip) sf st Q := rfl
def frame_Reader_Feed_15 : AC := .seq frame_Reader_Feed_16 frame_Reader_Feed_17
theorem frame_Reader_Feed_15e : aC P id m frame_Reader_Feed_15 sf st Q = aC P id m frame_Reader_Feed_16 sf st (seqQ (aC P id m frame_Reader_Feed_17) Q) := rfl
def frame_Reader_Feed_12 : AC := .cond (.r 8) frame_Reader_Feed_13 frame_Reader_Feed_15
theorem frame_Reader_Feed_12e : aC P id m frame_Reader_Feed_12 sf st Q = condI (.r 8) (sf.ev id (.r 8)) (aC P id m frame_Reader_Feed_13) (aC P id m frame_Reader_Feed_15) sf st Q := rfl
def frame_Reader_Feed_10 : AC := .seq frame_Reader_Feed_11 frame_Reader_Feed_12
theorem frame_Reader_Feed_10e : aC P id m frame_Reader_Feed_10 sf st Q = aC P id m frame_Reader_Feed_11 sf st (seqQ (aC P id m frame_Reader_Feed_12) Q) := rfl
def frame_Reader_Feed_7 : AC := .cond (.r 5) frame_Reader_Feed_8 frame_Reader_Feed_10
theorem frame_Reader_Feed_7e : aC P id m frame_Reader_Feed_7 sf st Q = condI (.r 5) (sf.ev id (.r 5)) (aC P id m frame_Reader_Feed_8) (aC P id m frame_Reader_Feed_10) sf st Q := rfl
def frame_Reader_Feed_5 : AC := .seq frame_Reader_Feed_6 frame_Reader_Feed_7
theorem frame_Reader_Feed_5e : aC P id m frame_Reader_Feed_5 sf st Q = aC P id m frame_Reader_Feed_6 sf st (seqQ (aC P id m frame_Reader_Feed_7) Q) := rfl
def frame_Reader_Feed_4 : AC := .block 0 frame_Reader_Feed_5
theorem frame_Reader_Feed_4e : aC P id m frame_Reader_Feed_4 sf st Q = aC P id m frame_Reader_Feed_5 sf st (blockQ 0 Q) := rfl
def frame_Reader_Feed_21l : List GI := [⟨none, .mv (some 24) (.r 0)⟩,
    ⟨none, .mv (some 25) (.r 0)⟩,
    ⟨none, .nilck (some 26) (.r 25)⟩,
    ⟨none, .addr (some 27) (.r 26) 0⟩,
    ⟨none, .loadOwn 28 (.r 27)⟩,
    ⟨none, .mv (some 29) (.r 1)⟩,
    ⟨none, .appS 30 28 1 1 (.r 29)⟩,
    ⟨none, .nilck (some 31) (.r 24)⟩,
    ⟨none, .addr (some 32) (.r 31) 0⟩,
    ⟨none, .store 1 (.r 32) (.r 30)⟩]
def frame_Reader_Feed_21 : AC := .ops [] [] frame_Reader_Feed_21l
theorem frame_Reader_Feed_21e : aC P id m frame_Reader_Feed_21 sf st Q = runI P id m frame_Reader_Feed_21l (opsK [] [] Q) sf st := rfl
def frame_Reader_Feed_23l : List GI := [⟨none, .mv (some 4) (.c (.lit (.int .i64 0)))⟩]
def frame_Reader_Feed_23 : AC := .ops [4] [] frame_Reader_Feed_23l
theorem frame_Reader_Feed_23e : aC P id m frame_Reader_Feed_23 sf st Q = runI P id m frame_Reader_Feed_23l (opsK [4] [] Q) sf st := rfl
def frame_Reader_Feed_22 : AC := .seq frame_Reader_Feed_23 .ret
theorem frame_Reader_Feed_22e : aC P id m frame_Reader_Feed_22 sf st Q = aC P id m frame_Reader_Feed_23 sf st (seqQ (aC P id m .ret) Q) := rfl
def frame_Reader_Feed_20 : AC := .seq frame_Reader_Feed_21 frame_Reader_Feed_22
theorem frame_Reader_Feed_20e : aC P id m frame_Reader_Feed_20 sf st Q = aC P id m frame_Reader_Feed_21 sf st (seqQ (aC P id m frame_Reader_Feed_22) Q) := rfl
def frame_Reader_Feed_3 : AC := .seq frame_Reader_Feed_4 frame_Reader_Feed_20
theorem frame_Reader_Feed_3e : aC P id m frame_Reader_Feed_3 sf st Q = aC P id m frame_Reader_Feed_4 sf st (seqQ (aC P id m frame_Reader_Feed_20) Q) := rfl
def frame_Reader_Feed_1 : AC := .seq frame_Reader_Feed_2 frame_Reader_Feed_3
theorem frame_Reader_Feed_1e : aC P id m frame_Reader_Feed_1 sf st Q = aC P id m frame_Reader_Feed_2 sf st (seqQ (aC P id m frame_Reader_Feed_3) Q) := rfl
def c_frame_Reader_Feed : AFun := ⟨33, [.tmp 4], frame_Reader_Feed_1⟩
theorem k_frame_Reader_Feed : compF Go.Proofs.Try.prog x_frame_Reader_Feed 38 = some c_frame_Reader_Feed := by kernel_rfl
theorem e_frame_Reader_Feed : enterB Go.Proofs.Try.prog 38 = true := by kernel_rfl

def n_frame_Reader_Pending : Nat := 39
def x_frame_Reader_Pending : Cx := ⟨some, id, 10, fun s => ([0, 2, 3, 8, 9] : List Nat).contains s, fun s => ([] : List Nat).contains s, msOf [(2, [0], []), (12, [0, 4], []), (52, [2], []), (14, [2], [])]⟩
def frame_Reader_Pending_2l : List GI := [⟨none, .mv (some 2) (.c (.lit (.int .i64 0)))⟩]
def frame_Reader_Pending_2 : AC := .ops [0] [] frame_Reader_Pending_2l
theorem frame_Reader_Pending_2e : aC P id m frame_Reader_Pending_2 sf st Q = runI P id m frame_Reader_Pending_2l (opsK [0] [] Q) sf st := rfl
def frame_Reader_Pending_5l : List GI := [⟨none, .mv (some 3) (.r 0)⟩,
    ⟨none, .bin (some 4) (.nil .ptr) .eql (.r 3) (.c (.lit (.pointer none)))⟩]
def frame_Reader_Pending_5 : AC := .ops [0, 4] [] frame_Reader_Pending_5l
theorem frame_Reader_Pending_5e : aC P id m frame_Reader_Pending_5 sf st Q = runI P id m frame_Reader_Pending_5l (opsK [0, 4] [] Q) sf st := rfl
def frame_Reader_Pending_8l : List GI := [⟨none, .mv (some 2) (.c (.lit (.int .i64 0)))⟩]
def frame_Reader_Pending_8 : AC := .ops [2] [] frame_Reader_Pending_8l
theorem frame_Reader_Pending_8e : aC P id m frame_Reader_Pending_8 sf st Q = runI P id m frame_Reader_Pending_8l (opsK [2] [] Q) sf st := rfl
def frame_Reader_Pending_7 : AC := .seq frame_Reader_Pending_8 .ret
theorem frame_Reader_Pending_7e : aC P id m frame_Reader_Pending_7 sf st Q = aC P id m frame_Reader_Pending_8 sf st (seqQ (aC P id m .ret) Q) := rfl
def frame_Reader_Pending_6 : AC := .cond (.r 4) frame_Reader_Pending_7 .skip
theorem frame_Reader_Pending_6e : aC P id m frame_Reader_Pending_6 sf st Q = condI (.r 4) (sf.ev id (.r 4)) (aC P id m frame_Reader_Pending_7) (aC P id m .skip) sf st Q := rfl
def frame_Reader_Pending_4 : AC := .seq frame_Reader_Pending_5 frame_Reader_Pending_6
theorem frame_Reader_Pending_4e : aC P id m frame_Reader_Pending_4 sf st Q = aC P id m frame_Reader_Pending_5 sf st (seqQ (aC P id m frame_Reader_Pending_6) Q) := rfl
def frame_Reader_Pending_10l : List GI := [⟨none, .mv (some 5) (.r 0)⟩,
    ⟨none, .nilck (some 6) (.r 5)⟩,
    ⟨none, .addr (some 7) (.r 6) 0⟩,
    ⟨none, .load (some 8) (.r 7) none⟩,
    ⟨none, .len (some 9) .sl (.r 8)⟩,
    ⟨none, .own 2 9⟩]
def frame_Reader_Pending_10 : AC := .ops [2] [] frame_Reader_Pending_10l
theorem frame_Reader_Pending_10e : aC P id m frame_Reader_Pending_10 sf st Q = runI P id m frame_Reader_Pending_10l (opsK [2] [] Q) sf st := rfl
def frame_Reader_Pending_9 : AC := .seq frame_Reader_Pending_10 .ret
theorem frame_Reader_Pending_9e : aC P id m frame_Reader_Pending_9 sf st Q = aC P id m frame_Reader_Pending_10 sf st (seqQ (aC P id m .ret) Q) := rfl
def frame_Reader_Pending_3 : AC := .seq frame_Reader_Pending_4 frame_Reader_Pending_9
theorem frame_Reader_Pending_3e : aC P id m frame_Reader_Pending_3 sf st Q = aC P id m frame_Reader_Pending_4 sf st (seqQ (aC P id m frame_Reader_Pending_9) Q) := rfl
def frame_Reader_Pending_1 : AC := .seq frame_Reader_Pending_2 frame_Reader_Pending_3
theorem frame_Reader_Pending_1e : aC P id m frame_Reader_Pending_1 sf st Q = aC P id m frame_Reader_Pending_2 sf st (seqQ (aC P id m frame_Reader_Pending_3) Q) := rfl
def c_frame_Reader_Pending : AFun := ⟨10, [.tmp 2], frame_Reader_Pending_1⟩
theorem k_frame_Reader_Pending : compF Go.Proofs.Try.prog x_frame_Reader_Pending 39 = some c_frame_Reader_Pending := by kernel_rfl
theorem e_frame_Reader_Pending : enterB Go.Proofs.Try.prog 39 = true := by kernel_rfl

def n_frame_Reader_Next : Nat := 40
def x_frame_Reader_Next : Cx := ⟨some, id, 50, fun s => ([0, 3, 4, 5, 7, 8, 9, 14, 15, 16, 20, 21, 25, 26, 27, 28, 29, 30, 33, 36, 37, 42, 43, 44, 47, 48, 49] : List Nat).contains s, fun s => ([] : List Nat).contains s, msOf [(2, [0, 2], [2]), (24, [0, 2, 6], [2]), (100, [2, 3, 4], [2]), (102, [0, 2, 10], [2]), (412, [2, 3, 4], [2]), (14, [0, 2, 4, 5], [2]), (60, [0, 2, 4, 5, 31], [2]), (244, [2, 4], [2]), (490, [2, 3, 4], [2]), (62, [2, 5], [2]), (126, [2, 3, 4], [2])]⟩
def frame_Reader_Next_2l : List GI := [⟨none, .newL 2 [(.lit (.int .u8 0)), (.lit (.slice none 0 0))]⟩,
    ⟨none, .mv (some 3) (.c (.lit (.bool false)))⟩,
    ⟨none, .mv (some 4) (.c (.lit (.int .i64 0)))⟩]
def frame_Reader_Next_2 : AC := .ops [0, 2] [2] frame_Reader_Next_2l
theorem frame_Reader_Next_2e : aC P id m frame_Reader_Next_2 sf st Q = runI P id m frame_Reader_Next_2l (opsK [0, 2] [2] Q) sf st := rfl
def frame_Reader_Next_6l : List GI := [⟨none, .mv (some 7) (.r 0)⟩,
    ⟨none, .bin (some 8) (.nil .ptr) .eql (.r 7) (.c (.lit (.pointer none)))⟩,
    ⟨none, .own 6 8⟩]
def frame_Reader_Next_6 : AC := .ops [0, 2, 6] [2] frame_Reader_Next_6l
theorem frame_Reader_Next_6e : aC P id m frame_Reader_Next_6 sf st Q = runI P id m frame_Reader_Next_6l (opsK [0, 2, 6] [2] Q) sf st := rfl
def frame_Reader_Next_9l : List GI := [⟨none, .load (some 9) (.r 2) (some 2)⟩,
    ⟨none, .store 2 (.r 2) (.r 9)⟩,
    ⟨none, .mv (some 3) (.c (.lit (.bool false)))⟩,
    ⟨none, .mv (some 4) (.c (.lit (.int .i64 1)))⟩]
def frame_Reader_Next_9 : AC := .ops [2, 3, 4] [2] frame_Reader_Next_9l
theorem frame_Reader_Next_9e : aC P id m frame_Reader_Next_9 sf st Q = runI P id m frame_Reader_Next_9l (opsK [2, 3, 4] [2] Q) sf st := rfl
def frame_Reader_Next_8 : AC := .seq frame_Reader_Next_9 .ret
theorem frame_Reader_Next_8e : aC P id m frame_Reader_Next_8 sf st Q = aC P id m frame_Reader_Next_9 sf st (seqQ (aC P id m .ret) Q) := rfl
def frame_Reader_Next_11l : List GI := [⟨none, .mv (some 11) (.r 0)⟩,
    ⟨none, .nilck (some 12) (.r 11)⟩,
    ⟨none, .addr (some 13) (.r 12) 1⟩,
    ⟨none, .load (some 14) (.r 13) none⟩,
    ⟨none, .bin (some 15) .num .neq (.r 14) (.c (.lit (.int .i64 0)))⟩,
    ⟨none, .own 10 15⟩]
def frame_Reader_Next_11 : AC := .ops [0, 2, 10] [2] frame_Reader_Next_11l
theorem frame_Reader_Next_11e : aC P id m frame_Reader_Next_11 sf st Q = runI P id m frame_Reader_Next_11l (opsK [0, 2, 10] [2] Q) sf st := rfl
def frame_Reader_Next_14h : List GI := [⟨none, .load (some 16) (.r 2) (some 2)⟩,
    ⟨none, .mv (some 17) (.r 0)⟩,
    ⟨none, .nilck (some 18) (.r 17)⟩,
    ⟨none, .addr (some 19) (.r 18) 1⟩,
    ⟨none, .load (some 20) (.r 19) none⟩,
    ⟨none, .store 2 (.r 2) (.r 16)⟩,
    ⟨none, .mv (some 3) (.c (.lit (.bool false)))⟩]
def frame_Reader_Next_14l : List GI := [⟨none, .own 4 20⟩]
def frame_Reader_Next_14 : AC := .draw [2, 3, 4] [2] [2] frame_Reader_Next_14h frame_Reader_Next_14l
theorem frame_Reader_Next_14e : aC P id m frame_Reader_Next_14 sf st Q = headI P id sf.locs st frame_Reader_Next_14h (tailK P id m [2] [2, 3, 4] [2] frame_Reader_Next_14l Q st) [] ⟨sf.regs, dropL [2] sf.locs⟩ := rfl
def frame_Reader_Next_13 : AC := .seq frame_Reader_Next_14 .ret
theorem frame_Reader_Next_13e : aC P id m frame_Reader_Next_13 sf st Q = aC P id m frame_Reader_Next_14 sf st (seqQ (aC P id m .ret) Q) := rfl
def frame_Reader_Next_12 : AC := .cond (.r 10) frame_Reader_Next_13 .skip
theorem frame_Reader_Next_12e : aC P id m frame_Reader_Next_12 sf st Q = condI (.r 10) (sf.ev id (.r 10)) (aC P id m frame_Reader_Next_13) (aC P id m .skip) sf st Q := rfl
def frame_Reader_Next_10 : AC := .seq frame_Reader_Next_11 frame_Reader_Next_12
theorem frame_Reader_Next_10e : aC P id m frame_Reader_Next_10 sf st Q = aC P id m frame_Reader_Next_11 sf st (seqQ (aC P id m frame_Reader_Next_12) Q) := rfl
def frame_Reader_Next_7 : AC := .cond (.r 6) frame_Reader_Next_8 frame_Reader_Next_10
theorem frame_Reader_Next_7e : aC P id m frame_Reader_Next_7 sf st Q = condI (.r 6) (sf.ev id (.r 6)) (aC P id m frame_Reader_Next_8) (aC P id m frame_Reader_Next_10) sf st Q := rfl
def frame_Reader_Next_5 : AC := .seq frame_Reader_Next_6 frame_Reader_Next_7
theorem frame_Reader_Next_5e : aC P id m frame_Reader_Next_5 sf st Q = aC P id m frame_Reader_Next_6 sf st (seqQ (aC P id m frame_Reader_Next_7) Q) := rfl
def frame_Reader_Next_4 : AC := .block 0 frame_Reader_Next_5
theorem frame_Reader_Next_4e : aC P id m frame_Reader_Next_4 sf st Q = aC P id m frame_Reader_Next_5 sf st (blockQ 0 Q) := rfl
def frame_Reader_Next_16l : List GI := [⟨none, .mv (some 22) (.r 0)⟩,
    ⟨none, .nilck (some 23) (.r 22)⟩,
    ⟨none, .addr (some 24) (.r 23) 0⟩,
    ⟨none, .load (some 25) (.r 24) none⟩,
    ⟨none, .call (some 26) false (.f 45) [(.r 25)]⟩,
    ⟨none, .mv (some 21) (.r 26)⟩,
    ⟨none, .ext (some 27) (.r 21) 0⟩,
    ⟨none, .ext (some 28) (.r 21) 1⟩,
    ⟨none, .ext (some 29) (.r 21) 2⟩,
    ⟨none, .store 2 (.r 2) (.r 27)⟩,
    ⟨none, .own 5 28⟩,
    ⟨none, .own 4 29⟩]
def frame_Reader_Next_16 : AC := .ops [0, 2, 4, 5] [2] frame_Reader_Next_16l
theorem frame_Reader_Next_16e : aC P id m frame_Reader_Next_16 sf st Q = runI P id m frame_Reader_Next_16l (opsK [0, 2, 4, 5] [2] Q) sf st := rfl
def frame_Reader_Next_19l : List GI := [⟨none, .mv (some 30) (.r 4)⟩,
    ⟨none, .bin (some 31) .num .neq (.r 30) (.c (.lit (.int .i64 0)))⟩]
def frame_Reader_Next_19 : AC := .ops [0, 2, 4, 5, 31] [2] frame_Reader_Next_19l
theorem frame_Reader_Next_19e : aC P id m frame_Reader_Next_19 sf st Q = runI P id m frame_Reader_Next_19l (opsK [0, 2, 4, 5, 31] [2] Q) sf st := rfl
def frame_Reader_Next_22l : List GI := [⟨none, .mv (some 32) (.r 0)⟩,
    ⟨none, .mv (some 33) (.r 4)⟩,
    ⟨none, .nilck (some 34) (.r 32)⟩,
    ⟨none, .addr (some 35) (.r 34) 1⟩,
    ⟨none, .store 1 (.r 35) (.r 33)⟩]
def frame_Reader_Next_22 : AC := .ops [2, 4] [2] frame_Reader_Next_22l
theorem frame_Reader_Next_22e : aC P id m frame_Reader_Next_22 sf st Q = runI P id m frame_Reader_Next_22l (opsK [2, 4] [2] Q) sf st := rfl
def frame_Reader_Next_24l : List GI := [⟨none, .bst (some 36) [(0, 1), (1, 1)] (.agg [(.lit (.int .u8 0)), (.lit (.slice none 0 0))]) []⟩,
    ⟨none, .mv (some 37) (.r 4)⟩,
    ⟨none, .store 2 (.r 2) (.r 36)⟩,
    ⟨none, .mv (some 3) (.c (.lit (.bool false)))⟩,
    ⟨none, .own 4 37⟩]
def frame_Reader_Next_24 : AC := .ops [2, 3, 4] [2] frame_Reader_Next_24l
theorem frame_Reader_Next_24e : aC P id m frame_Reader_Next_24 sf st Q = runI P id m frame_Reader_Next_24l (opsK [2, 3, 4] [2] Q) sf st := rfl
def frame_Reader_Next_23 : AC := .seq frame_Reader_Next_24 .ret
theorem frame_Reader_Next_23e : aC P id m frame_Reader_Next_23 sf st Q = aC P id m frame_Reader_Next_24 sf st (seqQ (aC P id m .ret) Q) := rfl
def frame_Reader_Next_21 : AC := .seq frame_Reader_Next_22 frame_Reader_Next_23
theorem frame_Reader_Next_21e : aC P id m frame_Reader_Next_21 sf st Q = aC P id m frame_Reader_Next_22 sf st (seqQ (aC P id m frame_Reader_Next_23) Q) := rfl
def frame_Reader_Next_20 : AC := .cond (.r 31) frame_Reader_Next_21 .skip
theorem frame_Reader_Next_20e : aC P id m frame_Reader_Next_20 sf st Q = condI (.r 31) (sf.ev id (.r 31)) (aC P id m frame_Reader_Next_21) (aC P id m .skip) sf st Q := rfl
def frame_Reader_Next_18 : AC := .seq frame_Reader_Next_19 frame_Reader_Next_20
theorem frame_Reader_Next_18e : aC P id m frame_Reader_Next_18 sf st Q = aC P id m frame_Reader_Next_19 sf st (seqQ (aC P id m frame_Reader_Next_20) Q) := rfl
def frame_Reader_Next_26l : List GI := [⟨none, .mv (some 38) (.r 0)⟩,
    ⟨none, .mv (some 39) (.r 0)⟩,
    ⟨none, .nilck (some 40) (.r 39)⟩,
    ⟨none, .addr (some 41) (.r 40) 0⟩,
    ⟨none, .loadOwn 42 (.r 41)⟩,
    ⟨none, .mv (some 43) (.r 5)⟩,
    ⟨none, .sliOwn 44 42 (.r 43) 1⟩,
    ⟨none, .nilck (some 45) (.r 38)⟩,
    ⟨none, .addr (some 46) (.r 45) 0⟩,
    ⟨none, .store 1 (.r 46) (.r 44)⟩]
def frame_Reader_Next_26 : AC := .ops [2, 5] [2] frame_Reader_Next_26l
theorem frame_Reader_Next_26e : aC P id m frame_Reader_Next_26 sf st Q = runI P id m frame_Reader_Next_26l (opsK [2, 5] [2] Q) sf st := rfl
def frame_Reader_Next_28l : List GI := [⟨none, .load (some 47) (.r 2) (some 2)⟩,
    ⟨none, .mv (some 48) (.r 5)⟩,
    ⟨none, .bin (some 49) .num .gtr (.r 48) (.c (.lit (.int .i64 0)))⟩,
    ⟨none, .store 2 (.r 2) (.r 47)⟩,
    ⟨none, .own 3 49⟩,
    ⟨none, .mv (some 4) (.c (.lit (.int .i64 0)))⟩]
def frame_Reader_Next_28 : AC := .ops [2, 3, 4] [2] frame_Reader_Next_28l
theorem frame_Reader_Next_28e : aC P id m frame_Reader_Next_28 sf st Q = runI P id m frame_Reader_Next_28l (opsK [2, 3, 4] [2] Q) sf st := rfl
def frame_Reader_Next_27 : AC := .seq frame_Reader_Next_28 .ret
theorem frame_Reader_Next_27e : aC P id m frame_Reader_Next_27 sf st Q = aC P id m frame_Reader_Next_28 sf st (seqQ (aC P id m .ret) Q) := rfl
def frame_Reader_Next_25 : AC := .seq frame_Reader_Next_26 frame_Reader_Next_27
theorem frame_Reader_Next_25e : aC P id m frame_Reader_Next_25 sf st Q = aC P id m frame_Reader_Next_26 sf st (seqQ (aC P id m frame_Reader_Next_27) Q) := rfl
def frame_Reader_Next_17 : AC := .seq frame_Reader_Next_18 frame_Reader_Next_25
theorem frame_Reader_Next_17e : aC P id m frame_Reader_Next_17 sf st Q = aC P id m frame_Reader_Next_18 sf st (seqQ (aC P id m frame_Reader_Next_25) Q) := rfl
def frame_Reader_Next_15 : AC := .seq frame_Reader_Next_16 frame_Reader_Next_17
theorem frame_Reader_Next_15e : aC P id m frame_Reader_Next_15 sf st Q = aC P id m frame_Reader_Next_16 sf st (seqQ (aC P id m frame_Reader_Next_17) Q) := rfl
def frame_Reader_Next_3 : AC := .seq frame_Reader_Next_4 frame_Reader_Next_15
theorem frame_Reader_Next_3e : aC P id m frame_Reader_Next_3 sf st Q = aC P id m frame_Reader_Next_4 sf st (seqQ (aC P id m frame_Reader_Next_15) Q) := rfl
def frame_Reader_Next_1 : AC := .seq frame_Reader_Next_2 frame_Reader_Next_3
theorem frame_Reader_Next_1e : aC P id m frame_Reader_Next_1 sf st Q = aC P id m frame_Reader_Next_2 sf st (seqQ (aC P id m frame_Reader_Next_3) Q) := rfl
def c_frame_Reader_Next : AFun := ⟨50, [.cell 2 (some 2), .tmp 3, .tmp 4], frame_Reader_Next_1⟩
theorem k_frame_Reader_Next : compF Go.Proofs.Try.prog x_frame_Reader_Next 40 = some c_frame_Reader_Next := by kernel_rfl
theorem e_frame_Reader_Next : enterB Go.Proofs.Try.prog 40 = true := by kernel_rfl

def n_aqueductref43_Same : Nat := 41
def x_aqueductref43_Same : Cx := ⟨some, id, 19, fun s => ([0, 1, 4, 6, 8, 9, 10, 12, 13, 15, 16, 17, 18] : List Nat).contains s, fun s => ([] : List Nat).contains s, msOf [(2, [2, 3], [2, 3]), (6, [4], [])]⟩
def aqueductref43_Same_2l : List GI := [⟨none, .boxL 2 2 (.r 0)⟩,
    ⟨none, .boxL 3 2 (.r 1)⟩,
    ⟨none, .mv (some 4) (.c (.lit (.bool false)))⟩]
def aqueductref43_Same_2 : AC := .ops [2, 3] [2, 3] aqueductref43_Same_2l
theorem aqueductref43_Same_2e : aC P id m aqueductref43_Same_2 sf st Q = runI P id m aqueductref43_Same_2l (opsK [2, 3] [2, 3] Q) sf st := rfl
def aqueductref43_Same_4l : List GI := [⟨none, .addr (some 5) (.r 2) 0⟩,
    ⟨none, .load (some 6) (.r 5) none⟩,
    ⟨none, .addr (some 7) (.r 3) 0⟩,
    ⟨none, .load (some 8) (.r 7) none⟩,
    ⟨none, .bin (some 9) .num .eql (.r 6) (.r 8)⟩,
    ⟨none, .mv (some 10) (.r 9)⟩,
    ⟨some (10, true), .addr (some 11) (.r 2) 1⟩,
    ⟨some (10, true), .load (some 12) (.r 11) none⟩,
    ⟨some (10, true), .conv (some 13) .bs (.r 12)⟩,
    ⟨some (10, true), .addr (some 14) (.r 3) 1⟩,
    ⟨some (10, true), .load (some 15) (.r 14) none⟩,
    ⟨some (10, true), .conv (some 16) .bs (.r 15)⟩,
    ⟨some (10, true), .bin (some 17) .num .eql (.r 13) (.r 16)⟩,
    ⟨none, .pick (some 18) (.r 10) (.r 17) (.c (.lit (.bool false)))⟩,
    ⟨none, .own 4 18⟩]
def aqueductref43_Same_4 : AC := .ops [4] [] aqueductref43_Same_4l
theorem aqueductref43_Same_4e : aC P id m aqueductref43_Same_4 sf st Q = runI P id m aqueductref43_Same_4l (opsK [4] [] Q) sf st := rfl
def aqueductref43_Same_3 : AC := .seq aqueductref43_Same_4 .ret
theorem aqueductref43_Same_3e : aC P id m aqueductref43_Same_3 sf st Q = aC P id m aqueductref43_Same_4 sf st (seqQ (aC P id m .ret) Q) := rfl
def aqueductref43_Same_1 : AC := .seq aqueductref43_Same_2 aqueductref43_Same_3
theorem aqueductref43_Same_1e : aC P id m aqueductref43_Same_1 sf st Q = aC P id m aqueductref43_Same_2 sf st (seqQ (aC P id m aqueductref43_Same_3) Q) := rfl
def c_aqueductref43_Same : AFun := ⟨19, [.tmp 4], aqueductref43_Same_1⟩
theorem k_aqueductref43_Same : compF Go.Proofs.Try.prog x_aqueductref43_Same 41 = some c_aqueductref43_Same := by kernel_rfl
theorem e_aqueductref43_Same : enterB Go.Proofs.Try.prog 41 = true := by kernel_rfl

def n_aqueductref43_First : Nat := 42
def x_aqueductref43_First : Cx := ⟨some, id, 73, fun s => ([0, 3, 4, 5, 7, 8, 9, 10, 11, 14, 15, 17, 18, 19, 21, 24, 25, 26, 29, 30, 31, 32, 34, 35, 36, 37, 38, 40, 43, 44, 45, 46, 48, 49, 51, 53, 54, 56, 57, 58, 60, 61, 62, 63, 64, 65, 66, 67, 69, 70, 71, 72] : List Nat).contains s, fun s => ([58] : List Nat).contains s, msOf [(2, [0, 2], [2]), (12, [0, 2, 16], [2]), (52, [2, 3, 4], [2]), (28, [0, 2, 20], [2]), (116, [2, 3, 4], [2]), (30, [0, 2, 5], [2]), (124, [0, 2, 5, 33], [2]), (500, [2, 3, 4], [2]), (252, [0, 2, 5, 39], [2]), (1012, [2, 3, 4], [2]), (254, [0, 2, 5, 6], [2, 6]), (1020, [0, 2, 5, 6, 7], [2, 6]), (2042, [0, 2, 5, 6, 7], [2, 6]), (16336, [0, 2, 5, 6, 7, 47], [2, 6]), (32675, [0, 2, 5, 6], [2, 6]), (32676, [0, 2, 5, 6, 7], [2, 6]), (16339, [0, 2, 5, 6, 7], [2, 6]), (2044, [2, 5, 6, 68], [2, 6]), (8180, [2, 3, 4], [2]), (2046, [2, 3, 4], [2])]⟩
def aqueductref43_First_2l : List GI := [⟨none, .newL 2 [(.lit (.int .u8 0)), (.lit (.slice none 0 0))]⟩,
    ⟨none, .mv (some 3) (.c (.lit (.int .i64 0)))⟩,
    ⟨none, .mv (some 4) (.c (.lit (.int .i64 0)))⟩]
def aqueductref43_First_2 : AC := .ops [0, 2] [2] aqueductref43_First_2l
theorem aqueductref43_First_2e : aC P id m aqueductref43_First_2 sf st Q = runI P id m aqueductref43_First_2l (opsK [0, 2] [2] Q) sf st := rfl
def aqueductref43_First_5l : List GI := [⟨none, .mv (some 8) (.r 0)⟩,
    ⟨none, .len (some 9) .sl (.r 8)⟩,
    ⟨none, .bin (some 10) .num .gtr (.r 9) (.c (.lit (.int .i64 0)))⟩,
    ⟨none, .mv (some 11) (.r 10)⟩,
    ⟨some (11, true), .mv (some 12) (.r 0)⟩,
    ⟨some (11, true), .ixS (some 13) (.r 12) (.c (.lit (.int .i64 0))) 1⟩,
    ⟨some (11, true), .load (some 14) (.r 13) none⟩,
    ⟨some (11, true), .bin (some 15) .num .neq (.r 14) (.c (.lit (.int .u8 197)))⟩,
    ⟨none, .pick (some 16) (.r 11) (.r 15) (.c (.lit (.bool false)))⟩]
def aqueductref43_First_5 : AC := .ops [0, 2, 16] [2] aqueductref43_First_5l
theorem aqueductref43_First_5e : aC P id m aqueductref43_First_5 sf st Q = runI P id m aqueductref43_First_5l (opsK [0, 2, 16] [2] Q) sf st := rfl
def aqueductref43_First_8l : List GI := [⟨none, .bst (some 17) [(0, 1), (1, 1)] (.agg [(.lit (.int .u8 0)), (.lit (.slice none 0 0))]) []⟩,
    ⟨none, .store 2 (.r 2) (.r 17)⟩,
    ⟨none, .mv (some 3) (.c (.lit (.int .i64 0)))⟩,
    ⟨none, .mv (some 4) (.c (.lit (.int .i64 6)))⟩]
def aqueductref43_First_8 : AC := .ops [2, 3, 4] [2] aqueductref43_First_8l
theorem aqueductref43_First_8e : aC P id m aqueductref43_First_8 sf st Q = runI P id m aqueductref43_First_8l (opsK [2, 3, 4] [2] Q) sf st := rfl
def aqueductref43_First_7 : AC := .seq aqueductref43_First_8 .ret
theorem aqueductref43_First_7e : aC P id m aqueductref43_First_7 sf st Q = aC P id m aqueductref43_First_8 sf st (seqQ (aC P id m .ret) Q) := rfl
def aqueductref43_First_6 : AC := .cond (.r 16) aqueductref43_First_7 .skip
theorem aqueductref43_First_6e : aC P id m aqueductref43_First_6 sf st Q = condI (.r 16) (sf.ev id (.r 16)) (aC P id m aqueductref43_First_7) (aC P id m .skip) sf st Q := rfl
def aqueductref43_First_4 : AC := .seq aqueductref43_First_5 aqueductref43_First_6
theorem aqueductref43_First_4e : aC P id m aqueductref43_First_4 sf st Q = aC P id m aqueductref43_First_5 sf st (seqQ (aC P id m aqueductref43_First_6) Q) := rfl
def aqueductref43_First_11l : List GI := [⟨none, .mv (some 18) (.r 0)⟩,
    ⟨none, .len (some 19) .sl (.r 18)⟩,
    ⟨none, .bin (some 20) .num .lss (.r 19) (.c (.lit (.int .i64 4)))⟩]
def aqueductref43_First_11 : AC := .ops [0, 2, 20] [2] aqueductref43_First_11l
theorem aqueductref43_First_11e : aC P id m aqueductref43_First_11 sf st Q = runI P id m aqueductref43_First_11l (opsK [0, 2, 20] [2] Q) sf st := rfl
def aqueductref43_First_14l : List GI := [⟨none, .bst (some 21) [(0, 1), (1, 1)] (.agg [(.lit (.int .u8 0)), (.lit (.slice none 0 0))]) []⟩,
    ⟨none, .store 2 (.r 2) (.r 21)⟩,
    ⟨none, .mv (some 3) (.c (.lit (.int .i64 0)))⟩,
    ⟨none, .mv (some 4) (.c (.lit (.int .i64 0)))⟩]
def aqueductref43_First_14 : AC := .ops [2, 3, 4] [2] aqueductref43_First_14l
theorem aqueductref43_First_14e : aC P id m aqueductref43_First_14 sf st Q = runI P id m aqueductref43_First_14l (opsK [2, 3, 4] [2] Q) sf st := rfl
def aqueductref43_First_13 : AC := .seq aqueductref43_First_14 .ret
theorem aqueductref43_First_13e : aC P id m aqueductref43_First_13 sf st Q = aC P id m aqueductref43_First_14 sf st (seqQ (aC P id m .ret) Q) := rfl
def aqueductref43_First_12 : AC := .cond (.r 20) aqueductref43_First_13 .skip
theorem aqueductref43_First_12e : aC P id m aqueductref43_First_12 sf st Q = condI (.r 20) (sf.ev id (.r 20)) (aC P id m aqueductref43_First_13) (aC P id m .skip) sf st Q := rfl
def aqueductref43_First_10 : AC := .seq aqueductref43_First_11 aqueductref43_First_12
theorem aqueductref43_First_10e : aC P id m aqueductref43_First_10 sf st Q = aC P id m aqueductref43_First_11 sf st (seqQ (aC P id m aqueductref43_First_12) Q) := rfl
def aqueductref43_First_16h : List GI := [⟨none, .mv (some 22) (.r 0)⟩,
    ⟨none, .ixS (some 23) (.r 22) (.c (.lit (.int .i64 2))) 1⟩,
    ⟨none, .load (some 24) (.r 23) none⟩,
    ⟨none, .conv (some 25) (.int .i64) (.r 24)⟩,
    ⟨none, .bin (some 26) .num .mul (.c (.lit (.int .i64 256))) (.r 25)⟩,
    ⟨none, .mv (some 27) (.r 0)⟩,
    ⟨none, .ixS (some 28) (.r 27) (.c (.lit (.int .i64 3))) 1⟩,
    ⟨none, .load (some 29) (.r 28) none⟩,
    ⟨none, .conv (some 30) (.int .i64) (.r 29)⟩]
def aqueductref43_First_16l : List GI := [⟨none, .bin (some 31) .num .add (.r 26) (.r 30)⟩,
    ⟨none, .own 5 31⟩]
def aqueductref43_First_16 : AC := .draw [0, 2, 5] [2] [] aqueductref43_First_16h aqueductref43_First_16l
theorem aqueductref43_First_16e : aC P id m aqueductref43_First_16 sf st Q = headI P id sf.locs st aqueductref43_First_16h (tailK P id m [] [0, 2, 5] [2] aqueductref43_First_16l Q st) [] ⟨sf.regs, dropL [] sf.locs⟩ := rfl
def aqueductref43_First_19l : List GI := [⟨none, .mv (some 32) (.r 5)⟩,
    ⟨none, .bin (some 33) .num .gtr (.r 32) (.c (.lit (.int .i64 1024)))⟩]
def aqueductref43_First_19 : AC := .ops [0, 2, 5, 33] [2] aqueductref43_First_19l
theorem aqueductref43_First_19e : aC P id m aqueductref43_First_19 sf st Q = runI P id m aqueductref43_First_19l (opsK [0, 2, 5, 33] [2] Q) sf st := rfl
def aqueductref43_First_22l : List GI := [⟨none, .bst (some 34) [(0, 1), (1, 1)] (.agg [(.lit (.int .u8 0)), (.lit (.slice none 0 0))]) []⟩,
    ⟨none, .store 2 (.r 2) (.r 34)⟩,
    ⟨none, .mv (some 3) (.c (.lit (.int .i64 0)))⟩,
    ⟨none, .mv (some 4) (.c (.lit (.int .i64 5)))⟩]
def aqueductref43_First_22 : AC := .ops [2, 3, 4] [2] aqueductref43_First_22l
theorem aqueductref43_First_22e : aC P id m aqueductref43_First_22 sf st Q = runI P id m aqueductref43_First_22l (opsK [2, 3, 4] [2] Q) sf st := rfl
def aqueductref43_First_21 : AC := .seq aqueductref43_First_22 .ret
theorem aqueductref43_First_21e : aC P id m aqueductref43_First_21 sf st Q = aC P id m aqueductref43_First_22 sf st (seqQ (aC P id m .ret) Q) := rfl
def aqueductref43_First_20 : AC := .cond (.r 33) aqueductref43_First_21 .skip
theorem aqueductref43_First_20e : aC P id m aqueductref43_First_20 sf st Q = condI (.r 33) (sf.ev id (.r 33)) (aC P id m aqueductref43_First_21) (aC P id m .skip) sf st Q := rfl
def aqueductref43_First_18 : AC := .seq aqueductref43_First_19 aqueductref43_First_20
theorem aqueductref43_First_18e : aC P id m aqueductref43_First_18 sf st Q = aC P id m aqueductref43_First_19 sf st (seqQ (aC P id m aqueductref43_First_20) Q) := rfl
def aqueductref43_First_25l : List GI := [⟨none, .mv (some 35) (.r 0)⟩,
    ⟨none, .len (some 36) .sl (.r 35)⟩,
    ⟨none, .mv (some 37) (.r 5)⟩,
    ⟨none, .bin (some 38) .num .add (.r 37) (.c (.lit (.int .i64 6)))⟩,
    ⟨none, .bin (some 39) .num .lss (.r 36) (.r 38)⟩]
def aqueductref43_First_25 : AC := .ops [0, 2, 5, 39] [2] aqueductref43_First_25l
theorem aqueductref43_First_25e : aC P id m aqueductref43_First_25 sf st Q = runI P id m aqueductref43_First_25l (opsK [0, 2, 5, 39] [2] Q) sf st := rfl
def aqueductref43_First_28l : List GI := [⟨none, .bst (some 40) [(0, 1), (1, 1)] (.agg [(.lit (.int .u8 0)), (.lit (.slice none 0 0))]) []⟩,
    ⟨none, .store 2 (.r 2) (.r 40)⟩,
    ⟨none, .mv (some 3) (.c (.lit (.int .i64 0)))⟩,
    ⟨none, .mv (some 4) (.c (.lit (.int .i64 0)))⟩]
def aqueductref43_First_28 : AC := .ops [2, 3, 4] [2] aqueductref43_First_28l
theorem aqueductref43_First_28e : aC P id m aqueductref43_First_28 sf st Q = runI P id m aqueductref43_First_28l (opsK [2, 3, 4] [2] Q) sf st := rfl
def aqueductref43_First_27 : AC := .seq aqueductref43_First_28 .ret
theorem aqueductref43_First_27e : aC P id m aqueductref43_First_27 sf st Q = aC P id m aqueductref43_First_28 sf st (seqQ (aC P id m .ret) Q) := rfl
def aqueductref43_First_26 : AC := .cond (.r 39) aqueductref43_First_27 .skip
theorem aqueductref43_First_26e : aC P id m aqueductref43_First_26 sf st Q = condI (.r 39) (sf.ev id (.r 39)) (aC P id m aqueductref43_First_27) (aC P id m .skip) sf st Q := rfl
def aqueductref43_First_24 : AC := .seq aqueductref43_First_25 aqueductref43_First_26
theorem aqueductref43_First_24e : aC P id m aqueductref43_First_24 sf st Q = aC P id m aqueductref43_First_25 sf st (seqQ (aC P id m aqueductref43_First_26) Q) := rfl
def aqueductref43_First_30l : List GI := [⟨none, .mv (some 41) (.r 0)⟩,
    ⟨none, .ixS (some 42) (.r 41) (.c (.lit (.int .i64 1))) 1⟩,
    ⟨none, .load (some 43) (.r 42) none⟩,
    ⟨none, .bst (some 44) [(0, 1), (1, 1)] (.agg [(.lit (.int .u8 0)), (.lit (.slice none 0 0))]) [(0, (.r 43))]⟩,
    ⟨none, .newL 6 [(.lit (.int .u8 0)), (.lit (.slice none 0 0))]⟩,
    ⟨none, .store 2 (.r 6) (.r 44)⟩]
def aqueductref43_First_30 : AC := .ops [0, 2, 5, 6] [2, 6] aqueductref43_First_30l
theorem aqueductref43_First_30e : aC P id m aqueductref43_First_30 sf st Q = runI P id m aqueductref43_First_30l (opsK [0, 2, 5, 6] [2, 6] Q) sf st := rfl
def aqueductref43_First_33l : List GI := [⟨none, .mv (some 7) (.c (.lit (.int .i64 0)))⟩]
def aqueductref43_First_33 : AC := .ops [0, 2, 5, 6, 7] [2, 6] aqueductref43_First_33l
theorem aqueductref43_First_33e : aC P id m aqueductref43_First_33 sf st Q = runI P id m aqueductref43_First_33l (opsK [0, 2, 5, 6, 7] [2, 6] Q) sf st := rfl
def aqueductref43_First_38l : List GI := [⟨none, .mv (some 45) (.r 7)⟩,
    ⟨none, .mv (some 46) (.r 5)⟩,
    ⟨none, .bin (some 47) .num .lss (.r 45) (.r 46)⟩]
def aqueductref43_First_38 : AC := .ops [0, 2, 5, 6, 7, 47] [2, 6] aqueductref43_First_38l
theorem aqueductref43_First_38e : aC P id m aqueductref43_First_38 sf st Q = runI P id m aqueductref43_First_38l (opsK [0, 2, 5, 6, 7, 47] [2, 6] Q) sf st := rfl
def aqueductref43_First_39 : AC := .cond (.r 47) .skip (.exit [0, 2, 5, 6] [2, 6] 0)
theorem aqueductref43_First_39e : aC P id m aqueductref43_First_39 sf st Q = condI (.r 47) (sf.ev id (.r 47)) (aC P id m .skip) (aC P id m (.exit [0, 2, 5, 6] [2, 6] 0)) sf st Q := rfl
def aqueductref43_First_37 : AC := .seq aqueductref43_First_38 aqueductref43_First_39
theorem aqueductref43_First_37e : aC P id m aqueductref43_First_37 sf st Q = aC P id m aqueductref43_First_38 sf st (seqQ (aC P id m aqueductref43_First_39) Q) := rfl
def aqueductref43_First_42h : List GI := [⟨none, .addr (some 50) (.r 6) 1⟩,
    ⟨none, .load (some 51) (.r 50) none⟩,
    ⟨none, .mv (some 52) (.r 0)⟩,
    ⟨none, .mv (some 53) (.r 7)⟩,
    ⟨none, .bin (some 54) .num .add (.c (.lit (.int .i64 4))) (.r 53)⟩,
    ⟨none, .ixS (some 55) (.r 52) (.r 54) 1⟩,
    ⟨none, .load (some 56) (.r 55) none⟩,
    ⟨none, .bsl (some 57) 1 1 (.lit (.int .u8 0)) [(0, (.r 56))]⟩]
def aqueductref43_First_42l : List GI := [⟨none, .x (some 58) (.appB (.r 51) 1 1 (.r 57))⟩,
    ⟨none, .addr (some 59) (.r 6) 1⟩,
    ⟨none, .store 1 (.r 59) (.r 58)⟩]
def aqueductref43_First_42 : AC := .draw [0, 2, 5, 6, 7] [2, 6] [] aqueductref43_First_42h aqueductref43_First_42l
theorem aqueductref43_First_42e : aC P id m aqueductref43_First_42 sf st Q = headI P id sf.locs st aqueductref43_First_42h (tailK P id m [] [0, 2, 5, 6, 7] [2, 6] aqueductref43_First_42l Q st) [] ⟨sf.regs, dropL [] sf.locs⟩ := rfl
def aqueductref43_First_41 : AC := .block 1 aqueductref43_First_42
theorem aqueductref43_First_41e : aC P id m aqueductref43_First_41 sf st Q = aC P id m aqueductref43_First_42 sf st (blockQ 1 Q) := rfl
def aqueductref43_First_43l : List GI := [⟨none, .mv (some 48) (.r 7)⟩,
    ⟨none, .bin (some 49) .num .add (.r 48) (.c (.lit (.int .i64 1)))⟩,
    ⟨none, .own 7 49⟩]
def aqueductref43_First_43 : AC := .ops [0, 2, 5, 6, 7] [2, 6] aqueductref43_First_43l
theorem aqueductref43_First_43e : aC P id m aqueductref43_First_43 sf st Q = runI P id m aqueductref43_First_43l (opsK [0, 2, 5, 6, 7] [2, 6] Q) sf st := rfl
def aqueductref43_First_40 : AC := .seq aqueductref43_First_41 aqueductref43_First_43
theorem aqueductref43_First_40e : aC P id m aqueductref43_First_40 sf st Q = aC P id m aqueductref43_First_41 sf st (seqQ (aC P id m aqueductref43_First_43) Q) := rfl
def aqueductref43_First_36 : AC := .seq aqueductref43_First_37 aqueductref43_First_40
theorem aqueductref43_First_36e : aC P id m aqueductref43_First_36 sf st Q = aC P id m aqueductref43_First_37 sf st (seqQ (aC P id m aqueductref43_First_40) Q) := rfl
def aqueductref43_First_35 : AC := .loop [0, 2, 5, 6, 7] [2, 6] aqueductref43_First_36
theorem aqueductref43_First_35w : aC P id m aqueductref43_First_35 sf st Q = loopI (aC P id m aqueductref43_First_36) [0, 2, 5, 6, 7] [2, 6] sf st Q := rfl
def aqueductref43_First_34 : AC := .block 0 aqueductref43_First_35
theorem aqueductref43_First_34e : aC P id m aqueductref43_First_34 sf st Q = aC P id m aqueductref43_First_35 sf st (blockQ 0 Q) := rfl
def aqueductref43_First_32 : AC := .seq aqueductref43_First_33 aqueductref43_First_34
theorem aqueductref43_First_32e : aC P id m aqueductref43_First_32 sf st Q = aC P id m aqueductref43_First_33 sf st (seqQ (aC P id m aqueductref43_First_34) Q) := rfl
def aqueductref43_First_46h : List GI := [⟨none, .load (some 60) (.r 6) (some 2)⟩,
    ⟨none, .call (some 61) true (.f 15) [(.r 60)]⟩,
    ⟨none, .conv (some 62) .bs (.r 61)⟩,
    ⟨none, .mv (some 63) (.r 0)⟩,
    ⟨none, .mv (some 64) (.r 5)⟩,
    ⟨none, .bin (some 65) .num .add (.r 64) (.c (.lit (.int .i64 6)))⟩,
    ⟨none, .sliS (some 66) (.r 63) none (some (.r 65)) 1⟩,
    ⟨none, .conv (some 67) .bs (.r 66)⟩]
def aqueductref43_First_46l : List GI := [⟨none, .bin (some 68) .num .neq (.r 62) (.r 67)⟩]
def aqueductref43_First_46 : AC := .draw [2, 5, 6, 68] [2, 6] [] aqueductref43_First_46h aqueductref43_First_46l
theorem aqueductref43_First_46e : aC P id m aqueductref43_First_46 sf st Q = headI P id sf.locs st aqueductref43_First_46h (tailK P id m [] [2, 5, 6, 68] [2, 6] aqueductref43_First_46l Q st) [] ⟨sf.regs, dropL [] sf.locs⟩ := rfl
def aqueductref43_First_49l : List GI := [⟨none, .bst (some 69) [(0, 1), (1, 1)] (.agg [(.lit (.int .u8 0)), (.lit (.slice none 0 0))]) []⟩,
    ⟨none, .store 2 (.r 2) (.r 69)⟩,
    ⟨none, .mv (some 3) (.c (.lit (.int .i64 0)))⟩,
    ⟨none, .mv (some 4) (.c (.lit (.int .i64 10)))⟩]
def aqueductref43_First_49 : AC := .ops [2, 3, 4] [2] aqueductref43_First_49l
theorem aqueductref43_First_49e : aC P id m aqueductref43_First_49 sf st Q = runI P id m aqueductref43_First_49l (opsK [2, 3, 4] [2] Q) sf st := rfl
def aqueductref43_First_48 : AC := .seq aqueductref43_First_49 .ret
theorem aqueductref43_First_48e : aC P id m aqueductref43_First_48 sf st Q = aC P id m aqueductref43_First_49 sf st (seqQ (aC P id m .ret) Q) := rfl
def aqueductref43_First_47 : AC := .cond (.r 68) aqueductref43_First_48 .skip
theorem aqueductref43_First_47e : aC P id m aqueductref43_First_47 sf st Q = condI (.r 68) (sf.ev id (.r 68)) (aC P id m aqueductref43_First_48) (aC P id m .skip) sf st Q := rfl
def aqueductref43_First_45 : AC := .seq aqueductref43_First_46 aqueductref43_First_47
theorem aqueductref43_First_45e : aC P id m aqueductref43_First_45 sf st Q = aC P id m aqueductref43_First_46 sf st (seqQ (aC P id m aqueductref43_First_47) Q) := rfl
def aqueductref43_First_51l : List GI := [⟨none, .load (some 70) (.r 6) (some 2)⟩,
    ⟨none, .mv (some 71) (.r 5)⟩,
    ⟨none, .bin (some 72) .num .add (.r 71) (.c (.lit (.int .i64 6)))⟩,
    ⟨none, .store 2 (.r 2) (.r 70)⟩,
    ⟨none, .own 3 72⟩,
    ⟨none, .mv (some 4) (.c (.lit (.int .i64 0)))⟩]
def aqueductref43_First_51 : AC := .ops [2, 3, 4] [2] aqueductref43_First_51l
theorem aqueductref43_First_51e : aC P id m aqueductref43_First_51 sf st Q = runI P id m aqueductref43_First_51l (opsK [2, 3, 4] [2] Q) sf st := rfl
def aqueductref43_First_50 : AC := .seq aqueductref43_First_51 .ret
theorem aqueductref43_First_50e : aC P id m aqueductref43_First_50 sf st Q = aC P id m aqueductref43_First_51 sf st (seqQ (aC P id m .ret) Q) := rfl
def aqueductref43_First_44 : AC := .seq aqueductref43_First_45 aqueductref43_First_50
theorem aqueductref43_First_44e : aC P id m aqueductref43_First_44 sf st Q = aC P id m aqueductref43_First_45 sf st (seqQ (aC P id m aqueductref43_First_50) Q) := rfl
def aqueductref43_First_31 : AC := .seq aqueductref43_First_32 aqueductref43_First_44
theorem aqueductref43_First_31e : aC P id m aqueductref43_First_31 sf st Q = aC P id m aqueductref43_First_32 sf st (seqQ (aC P id m aqueductref43_First_44) Q) := rfl
def aqueductref43_First_29 : AC := .seq aqueductref43_First_30 aqueductref43_First_31
theorem aqueductref43_First_29e : aC P id m aqueductref43_First_29 sf st Q = aC P id m aqueductref43_First_30 sf st (seqQ (aC P id m aqueductref43_First_31) Q) := rfl
def aqueductref43_First_23 : AC := .seq aqueductref43_First_24 aqueductref43_First_29
theorem aqueductref43_First_23e : aC P id m aqueductref43_First_23 sf st Q = aC P id m aqueductref43_First_24 sf st (seqQ (aC P id m aqueductref43_First_29) Q) := rfl
def aqueductref43_First_17 : AC := .seq aqueductref43_First_18 aqueductref43_First_23
theorem aqueductref43_First_17e : aC P id m aqueductref43_First_17 sf st Q = aC P id m aqueductref43_First_18 sf st (seqQ (aC P id m aqueductref43_First_23) Q) := rfl
def aqueductref43_First_15 : AC := .seq aqueductref43_First_16 aqueductref43_First_17
theorem aqueductref43_First_15e : aC P id m aqueductref43_First_15 sf st Q = aC P id m aqueductref43_First_16 sf st (seqQ (aC P id m aqueductref43_First_17) Q) := rfl
def aqueductref43_First_9 : AC := .seq aqueductref43_First_10 aqueductref43_First_15
theorem aqueductref43_First_9e : aC P id m aqueductref43_First_9 sf st Q = aC P id m aqueductref43_First_10 sf st (seqQ (aC P id m aqueductref43_First_15) Q) := rfl
def aqueductref43_First_3 : AC := .seq aqueductref43_First_4 aqueductref43_First_9
theorem aqueductref43_First_3e : aC P id m aqueductref43_First_3 sf st Q = aC P id m aqueductref43_First_4 sf st (seqQ (aC P id m aqueductref43_First_9) Q) := rfl
def aqueductref43_First_1 : AC := .seq aqueductref43_First_2 aqueductref43_First_3
theorem aqueductref43_First_1e : aC P id m aqueductref43_First_1 sf st Q = aC P id m aqueductref43_First_2 sf st (seqQ (aC P id m aqueductref43_First_3) Q) := rfl
def c_aqueductref43_First : AFun := ⟨73, [.cell 2 (some 2), .tmp 3, .tmp 4], aqueductref43_First_1⟩
theorem k_aqueductref43_First : compF Go.Proofs.Try.prog x_aqueductref43_First 42 = some c_aqueductref43_First := by kernel_rfl
theorem e_aqueductref43_First : enterB Go.Proofs.Try.prog 42 = true := by kernel_rfl

def n_frame_next : Nat := 45
def x_frame_next : Cx := ⟨some, id, 67, fun s => ([0, 3, 4, 5, 6, 7, 9, 12, 14, 15, 16, 18, 21, 22, 23, 26, 27, 28, 30, 31, 32, 34, 35, 36, 37, 38, 39, 41, 42, 43, 44, 45, 46, 47, 48, 49, 50, 51, 52, 53, 54, 55, 58, 59, 60, 61, 62, 63, 64, 65, 66] : List Nat).contains s, fun s => ([] : List Nat).contains s, msOf [(2, [0, 2], [2]), (12, [0, 2, 8], [2]), (52, [2, 3, 4], [2]), (28, [0, 2, 13], [2]), (116, [2, 3, 4], [2]), (60, [0, 2, 17], [2]), (244, [2, 3, 4], [2]), (62, [0, 2, 5], [2]), (504, [0, 2, 5, 29], [2]), (2020, [2, 3, 4], [2]), (2022, [0, 2, 5, 33], [2]), (8092, [2, 3, 4], [2]), (8094, [0, 2, 5, 40], [2]), (32380, [2, 3, 4], [2]), (254, [2, 3, 4], [2])]⟩
def frame_next_2l : List GI := [⟨none, .newL 2 [(.lit (.int .u8 0)), (.lit (.slice none 0 0))]⟩,
    ⟨none, .mv (some 3) (.c (.lit (.int .i64 0)))⟩,
    ⟨none, .mv (some 4) (.c (.lit (.int .i64 0)))⟩]
def frame_next_2 : AC := .ops [0, 2] [2] frame_next_2l
theorem frame_next_2e : aC P id m frame_next_2 sf st Q = runI P id m frame_next_2l (opsK [0, 2] [2] Q) sf st := rfl
def frame_next_5l : List GI := [⟨none, .mv (some 6) (.r 0)⟩,
    ⟨none, .len (some 7) .sl (.r 6)⟩,
    ⟨none, .bin (some 8) .num .eql (.r 7) (.c (.lit (.int .i64 0)))⟩]
def frame_next_5 : AC := .ops [0, 2, 8] [2] frame_next_5l
theorem frame_next_5e : aC P id m frame_next_5 sf st Q = runI P id m frame_next_5l (opsK [0, 2, 8] [2] Q) sf st := rfl
def frame_next_8l : List GI := [⟨none, .load (some 9) (.r 2) (some 2)⟩,
    ⟨none, .store 2 (.r 2) (.r 9)⟩,
    ⟨none, .mv (some 3) (.c (.lit (.int .i64 0)))⟩,
    ⟨none, .mv (some 4) (.c (.lit (.int .i64 0)))⟩]
def frame_next_8 : AC := .ops [2, 3, 4] [2] frame_next_8l
theorem frame_next_8e : aC P id m frame_next_8 sf st Q = runI P id m frame_next_8l (opsK [2, 3, 4] [2] Q) sf st := rfl
def frame_next_7 : AC := .seq frame_next_8 .ret
theorem frame_next_7e : aC P id m frame_next_7 sf st Q = aC P id m frame_next_8 sf st (seqQ (aC P id m .ret) Q) := rfl
def frame_next_6 : AC := .cond (.r 8) frame_next_7 .skip
theorem frame_next_6e : aC P id m frame_next_6 sf st Q = condI (.r 8) (sf.ev id (.r 8)) (aC P id m frame_next_7) (aC P id m .skip) sf st Q := rfl
def frame_next_4 : AC := .seq frame_next_5 frame_next_6
theorem frame_next_4e : aC P id m frame_next_4 sf st Q = aC P id m frame_next_5 sf st (seqQ (aC P id m frame_next_6) Q) := rfl
def frame_next_11l : List GI := [⟨none, .mv (some 10) (.r 0)⟩,
    ⟨none, .ixS (some 11) (.r 10) (.c (.lit (.int .i64 0))) 1⟩,
    ⟨none, .load (some 12) (.r 11) none⟩,
    ⟨none, .bin (some 13) .num .neq (.r 12) (.c (.lit (.int .u8 197)))⟩]
def frame_next_11 : AC := .ops [0, 2, 13] [2] frame_next_11l
theorem frame_next_11e : aC P id m frame_next_11 sf st Q = runI P id m frame_next_11l (opsK [0, 2, 13] [2] Q) sf st := rfl
def frame_next_14l : List GI := [⟨none, .load (some 14) (.r 2) (some 2)⟩,
    ⟨none, .store 2 (.r 2) (.r 14)⟩,
    ⟨none, .mv (some 3) (.c (.lit (.int .i64 0)))⟩,
    ⟨none, .mv (some 4) (.c (.lit (.int .i64 6)))⟩]
def frame_next_14 : AC := .ops [2, 3, 4] [2] frame_next_14l
theorem frame_next_14e : aC P id m frame_next_14 sf st Q = runI P id m frame_next_14l (opsK [2, 3, 4] [2] Q) sf st := rfl
def frame_next_13 : AC := .seq frame_next_14 .ret
theorem frame_next_13e : aC P id m frame_next_13 sf st Q = aC P id m frame_next_14 sf st (seqQ (aC P id m .ret) Q) := rfl
def frame_next_12 : AC := .cond (.r 13) frame_next_13 .skip
theorem frame_next_12e : aC P id m frame_next_12 sf st Q = condI (.r 13) (sf.ev id (.r 13)) (aC P id m frame_next_13) (aC P id m .skip) sf st Q := rfl
def frame_next_10 : AC := .seq frame_next_11 frame_next_12
theorem frame_next_10e : aC P id m frame_next_10 sf st Q = aC P id m frame_next_11 sf st (seqQ (aC P id m frame_next_12) Q) := rfl
def frame_next_17l : List GI := [⟨none, .mv (some 15) (.r 0)⟩,
    ⟨none, .len (some 16) .sl (.r 15)⟩,
    ⟨none, .bin (some 17) .num .lss (.r 16) (.c (.lit (.int .i64 4)))⟩]
def frame_next_17 : AC := .ops [0, 2, 17] [2] frame_next_17l
theorem frame_next_17e : aC P id m frame_next_17 sf st Q = runI P id m frame_next_17l (opsK [0, 2, 17] [2] Q) sf st := rfl
def frame_next_20l : List GI := [⟨none, .load (some 18) (.r 2) (some 2)⟩,
    ⟨none, .store 2 (.r 2) (.r 18)⟩,
    ⟨none, .mv (some 3) (.c (.lit (.int .i64 0)))⟩,
    ⟨none, .mv (some 4) (.c (.lit (.int .i64 0)))⟩]
def frame_next_20 : AC := .ops [2, 3, 4] [2] frame_next_20l
theorem frame_next_20e : aC P id m frame_next_20 sf st Q = runI P id m frame_next_20l (opsK [2, 3, 4] [2] Q) sf st := rfl
def frame_next_19 : AC := .seq frame_next_20 .ret
theorem frame_next_19e : aC P id m frame_next_19 sf st Q = aC P id m frame_next_20 sf st (seqQ (aC P id m .ret) Q) := rfl
def frame_next_18 : AC := .cond (.r 17) frame_next_19 .skip
theorem frame_next_18e : aC P id m frame_next_18 sf st Q = condI (.r 17) (sf.ev id (.r 17)) (aC P id m frame_next_19) (aC P id m .skip) sf st Q := rfl
def frame_next_16 : AC := .seq frame_next_17 frame_next_18
theorem frame_next_16e : aC P id m frame_next_16 sf st Q = aC P id m frame_next_17 sf st (seqQ (aC P id m frame_next_18) Q) := rfl
def frame_next_22h : List GI := [⟨none, .mv (some 19) (.r 0)⟩,
    ⟨none, .ixS (some 20) (.r 19) (.c (.lit (.int .i64 2))) 1⟩,
    ⟨none, .load (some 21) (.r 20) none⟩,
    ⟨none, .conv (some 22) (.int .i64) (.r 21)⟩,
    ⟨none, .bin (some 23) .num .shl (.r 22) (.c (.lit (.int .u64 8)))⟩,
    ⟨none, .mv (some 24) (.r 0)⟩,
    ⟨none, .ixS (some 25) (.r 24) (.c (.lit (.int .i64 3))) 1⟩,
    ⟨none, .load (some 26) (.r 25) none⟩,
    ⟨none, .conv (some 27) (.int .i64) (.r 26)⟩]
def frame_next_22l : List GI := [⟨none, .bin (some 28) .num .or (.r 23) (.r 27)⟩,
    ⟨none, .own 5 28⟩]
def frame_next_22 : AC := .draw [0, 2, 5] [2] [] frame_next_22h frame_next_22l
theorem frame_next_22e : aC P id m frame_next_22 sf st Q = headI P id sf.locs st frame_next_22h (tailK P id m [] [0, 2, 5] [2] frame_next_22l Q st) [] ⟨sf.regs, dropL [] sf.locs⟩ := rfl
def frame_next_26l : List GI := [⟨none, .mv (some 30) (.r 5)⟩,
    ⟨none, .bin (some 31) .num .gtr (.r 30) (.c (.lit (.int .i64 1024)))⟩,
    ⟨none, .own 29 31⟩]
def frame_next_26 : AC := .ops [0, 2, 5, 29] [2] frame_next_26l
theorem frame_next_26e : aC P id m frame_next_26 sf st Q = runI P id m frame_next_26l (opsK [0, 2, 5, 29] [2] Q) sf st := rfl
def frame_next_29l : List GI := [⟨none, .load (some 32) (.r 2) (some 2)⟩,
    ⟨none, .store 2 (.r 2) (.r 32)⟩,
    ⟨none, .mv (some 3) (.c (.lit (.int .i64 0)))⟩,
    ⟨none, .mv (some 4) (.c (.lit (.int .i64 5)))⟩]
def frame_next_29 : AC := .ops [2, 3, 4] [2] frame_next_29l
theorem frame_next_29e : aC P id m frame_next_29 sf st Q = runI P id m frame_next_29l (opsK [2, 3, 4] [2] Q) sf st := rfl
def frame_next_28 : AC := .seq frame_next_29 .ret
theorem frame_next_28e : aC P id m frame_next_28 sf st Q = aC P id m frame_next_29 sf st (seqQ (aC P id m .ret) Q) := rfl
def frame_next_31l : List GI := [⟨none, .mv (some 34) (.r 0)⟩,
    ⟨none, .len (some 35) .sl (.r 34)⟩,
    ⟨none, .mv (some 36) (.r 5)⟩,
    ⟨none, .bin (some 37) .num .add (.r 36) (.c (.lit (.int .i64 6)))⟩,
    ⟨none, .bin (some 38) .num .lss (.r 35) (.r 37)⟩,
    ⟨none, .own 33 38⟩]
def frame_next_31 : AC := .ops [0, 2, 5, 33] [2] frame_next_31l
theorem frame_next_31e : aC P id m frame_next_31 sf st Q = runI P id m frame_next_31l (opsK [0, 2, 5, 33] [2] Q) sf st := rfl
def frame_next_34l : List GI := [⟨none, .load (some 39) (.r 2) (some 2)⟩,
    ⟨none, .store 2 (.r 2) (.r 39)⟩,
    ⟨none, .mv (some 3) (.c (.lit (.int .i64 0)))⟩,
    ⟨none, .mv (some 4) (.c (.lit (.int .i64 0)))⟩]
def frame_next_34 : AC := .ops [2, 3, 4] [2] frame_next_34l
theorem frame_next_34e : aC P id m frame_next_34 sf st Q = runI P id m frame_next_34l (opsK [2, 3, 4] [2] Q) sf st := rfl
def frame_next_33 : AC := .seq frame_next_34 .ret
theorem frame_next_33e : aC P id m frame_next_33 sf st Q = aC P id m frame_next_34 sf st (seqQ (aC P id m .ret) Q) := rfl
def frame_next_36h : List GI := [⟨none, .mv (some 41) (.r 0)⟩,
    ⟨none, .mv (some 42) (.r 5)⟩,
    ⟨none, .bin (some 43) .num .add (.c (.lit (.int .i64 4))) (.r 42)⟩,
    ⟨none, .sliS (some 44) (.r 41) (some (.c (.lit (.int .i64 1)))) (some (.r 43)) 1⟩,
    ⟨none, .call (some 45) true (.f 48) [(.r 44)]⟩,
    ⟨none, .call (some 46) true (.f 47) [(.r 45)]⟩,
    ⟨none, .mv (some 47) (.r 0)⟩,
    ⟨none, .mv (some 48) (.r 5)⟩,
    ⟨none, .bin (some 49) .num .add (.c (.lit (.int .i64 4))) (.r 48)⟩,
    ⟨none, .mv (some 50) (.r 5)⟩,
    ⟨none, .bin (some 51) .num .add (.c (.lit (.int .i64 6))) (.r 50)⟩,
    ⟨none, .sliS (some 52) (.r 47) (some (.r 49)) (some (.r 51)) 1⟩]
def frame_next_36l : List GI := [⟨none, .call (some 53) false (.f 58) [(.r 46), (.r 52)]⟩,
    ⟨none, .un (some 54) .not (.r 53)⟩,
    ⟨none, .own 40 54⟩]
def frame_next_36 : AC := .draw [0, 2, 5, 40] [2] [] frame_next_36h frame_next_36l
theorem frame_next_36e : aC P id m frame_next_36 sf st Q = headI P id sf.locs st frame_next_36h (tailK P id m [] [0, 2, 5, 40] [2] frame_next_36l Q st) [] ⟨sf.regs, dropL [] sf.locs⟩ := rfl
def frame_next_39l : List GI := [⟨none, .load (some 55) (.r 2) (some 2)⟩,
    ⟨none, .store 2 (.r 2) (.r 55)⟩,
    ⟨none, .mv (some 3) (.c (.lit (.int .i64 0)))⟩,
    ⟨none, .mv (some 4) (.c (.lit (.int .i64 10)))⟩]
def frame_next_39 : AC := .ops [2, 3, 4] [2] frame_next_39l
theorem frame_next_39e : aC P id m frame_next_39 sf st Q = runI P id m frame_next_39l (opsK [2, 3, 4] [2] Q) sf st := rfl
def frame_next_38 : AC := .seq frame_next_39 .ret
theorem frame_next_38e : aC P id m frame_next_38 sf st Q = aC P id m frame_next_39 sf st (seqQ (aC P id m .ret) Q) := rfl
def frame_next_37 : AC := .cond (.r 40) frame_next_38 .skip
theorem frame_next_37e : aC P id m frame_next_37 sf st Q = condI (.r 40) (sf.ev id (.r 40)) (aC P id m frame_next_38) (aC P id m .skip) sf st Q := rfl
def frame_next_35 : AC := .seq frame_next_36 frame_next_37
theorem frame_next_35e : aC P id m frame_next_35 sf st Q = aC P id m frame_next_36 sf st (seqQ (aC P id m frame_next_37) Q) := rfl
def frame_next_32 : AC := .cond (.r 33) frame_next_33 frame_next_35
theorem frame_next_32e : aC P id m frame_next_32 sf st Q = condI (.r 33) (sf.ev id (.r 33)) (aC P id m frame_next_33) (aC P id m frame_next_35) sf st Q := rfl
def frame_next_30 : AC := .seq frame_next_31 frame_next_32
theorem frame_next_30e : aC P id m frame_next_30 sf st Q = aC P id m frame_next_31 sf st (seqQ (aC P id m frame_next_32) Q) := rfl
def frame_next_27 : AC := .cond (.r 29) frame_next_28 frame_next_30
theorem frame_next_27e : aC P id m frame_next_27 sf st Q = condI (.r 29) (sf.ev id (.r 29)) (aC P id m frame_next_28) (aC P id m frame_next_30) sf st Q := rfl
def frame_next_25 : AC := .seq frame_next_26 frame_next_27
theorem frame_next_25e : aC P id m frame_next_25 sf st Q = aC P id m frame_next_26 sf st (seqQ (aC P id m frame_next_27) Q) := rfl
def frame_next_24 : AC := .block 0 frame_next_25
theorem frame_next_24e : aC P id m frame_next_24 sf st Q = aC P id m frame_next_25 sf st (blockQ 0 Q) := rfl
def frame_next_41h : List GI := [⟨none, .mv (some 56) (.r 0)⟩,
    ⟨none, .ixS (some 57) (.r 56) (.c (.lit (.int .i64 1))) 1⟩,
    ⟨none, .load (some 58) (.r 57) none⟩,
    ⟨none, .mv (some 59) (.r 0)⟩,
    ⟨none, .mv (some 60) (.r 5)⟩,
    ⟨none, .bin (some 61) .num .add (.c (.lit (.int .i64 4))) (.r 60)⟩,
    ⟨none, .sliS (some 62) (.r 59) (some (.c (.lit (.int .i64 4)))) (some (.r 61)) 1⟩,
    ⟨none, .call (some 63) true (.f 57) [(.r 62)]⟩,
    ⟨none, .bst (some 64) [(0, 1), (1, 1)] (.agg [(.lit (.int .u8 0)), (.lit (.slice none 0 0))]) [(0, (.r 58)), (1, (.r 63))]⟩,
    ⟨none, .mv (some 65) (.r 5)⟩,
    ⟨none, .bin (some 66) .num .add (.r 65) (.c (.lit (.int .i64 6)))⟩,
    ⟨none, .store 2 (.r 2) (.r 64)⟩]
def frame_next_41l : List GI := [⟨none, .own 3 66⟩,
    ⟨none, .mv (some 4) (.c (.lit (.int .i64 0)))⟩]
def frame_next_41 : AC := .draw [2, 3, 4] [2] [2] frame_next_41h frame_next_41l
theorem frame_next_41e : aC P id m frame_next_41 sf st Q = headI P id sf.locs st frame_next_41h (tailK P id m [2] [2, 3, 4] [2] frame_next_41l Q st) [] ⟨sf.regs, dropL [2] sf.locs⟩ := rfl
def frame_next_40 : AC := .seq frame_next_41 .ret
theorem frame_next_40e : aC P id m frame_next_40 sf st Q = aC P id m frame_next_41 sf st (seqQ (aC P id m .ret) Q) := rfl
def frame_next_23 : AC := .seq frame_next_24 frame_next_40
theorem frame_next_23e : aC P id m frame_next_23 sf st Q = aC P id m frame_next_24 sf st (seqQ (aC P id m frame_next_40) Q) := rfl
def frame_next_21 : AC := .seq frame_next_22 frame_next_23
theorem frame_next_21e : aC P id m frame_next_21 sf st Q = aC P id m frame_next_22 sf st (seqQ (aC P id m frame_next_23) Q) := rfl
def frame_next_15 : AC := .seq frame_next_16 frame_next_21
theorem frame_next_15e : aC P id m frame_next_15 sf st Q = aC P id m frame_next_16 sf st (seqQ (aC P id m frame_next_21) Q) := rfl
def frame_next_9 : AC := .seq frame_next_10 frame_next_15
theorem frame_next_9e : aC P id m frame_next_9 sf st Q = aC P id m frame_next_10 sf st (seqQ (aC P id m frame_next_15) Q) := rfl
def frame_next_3 : AC := .seq frame_next_4 frame_next_9
theorem frame_next_3e : aC P id m frame_next_3 sf st Q = aC P id m frame_next_4 sf st (seqQ (aC P id m frame_next_9) Q) := rfl
def frame_next_1 : AC := .seq frame_next_2 frame_next_3
theorem frame_next_1e : aC P id m frame_next_1 sf st Q = aC P id m frame_next_2 sf st (seqQ (aC P id m frame_next_3) Q) := rfl
def c_frame_next : AFun := ⟨67, [.cell 2 (some 2), .tmp 3, .tmp 4], frame_next_1⟩
theorem k_frame_next : compF Go.Proofs.Try.prog x_frame_next 45 = some c_frame_next := by kernel_rfl
theorem e_frame_next : enterB Go.Proofs.Try.prog 45 = true := by kernel_rfl

def n_frame_joined : Nat := 46
def x_frame_joined : Cx := ⟨some, id, 5, fun s => ([0, 2, 3, 4] : List Nat).contains s, fun s => ([] : List Nat).contains s, msOf [(2, [0], []), (6, [2], [])]⟩
def frame_joined_2l : List GI := [⟨none, .mv (some 2) (.c (.lit (.slice none 0 0)))⟩]
def frame_joined_2 : AC := .ops [0] [] frame_joined_2l
theorem frame_joined_2e : aC P id m frame_joined_2 sf st Q = runI P id m frame_joined_2l (opsK [0] [] Q) sf st := rfl
def frame_joined_4l : List GI := [⟨none, .mv (some 3) (.r 0)⟩,
    ⟨none, .call (some 4) false (.f 59) [(.r 3), (.c (.lit (.slice none 0 0)))]⟩,
    ⟨none, .own 2 4⟩]
def frame_joined_4 : AC := .ops [2] [] frame_joined_4l
theorem frame_joined_4e : aC P id m frame_joined_4 sf st Q = runI P id m frame_joined_4l (opsK [2] [] Q) sf st := rfl
def frame_joined_3 : AC := .seq frame_joined_4 .ret
theorem frame_joined_3e : aC P id m frame_joined_3 sf st Q = aC P id m frame_joined_4 sf st (seqQ (aC P id m .ret) Q) := rfl
def frame_joined_1 : AC := .seq frame_joined_2 frame_joined_3
theorem frame_joined_1e : aC P id m frame_joined_1 sf st Q = aC P id m frame_joined_2 sf st (seqQ (aC P id m frame_joined_3) Q) := rfl
def c_frame_joined : AFun := ⟨5, [.tmp 2], frame_joined_1⟩
theorem k_frame_joined : compF Go.Proofs.Try.prog x_frame_joined 46 = some c_frame_joined := by kernel_rfl
theorem e_frame_joined : enterB Go.Proofs.Try.prog 46 = true := by kernel_rfl

def n_frame_two : Nat := 47
def x_frame_two : Cx := ⟨some, id, 9, fun s => ([0, 2, 3, 4, 5, 6, 7, 8] : List Nat).contains s, fun s => ([] : List Nat).contains s, msOf [(2, [0], []), (6, [2], [])]⟩
def frame_two_2l : List GI := [⟨none, .mv (some 2) (.c (.lit (.slice none 0 0)))⟩]
def frame_two_2 : AC := .ops [0] [] frame_two_2l
theorem frame_two_2e : aC P id m frame_two_2 sf st Q = runI P id m frame_two_2l (opsK [0] [] Q) sf st := rfl
def frame_two_4l : List GI := [⟨none, .mv (some 3) (.r 0)⟩,
    ⟨none, .bin (some 4) .num .shr (.r 3) (.c (.lit (.int .u64 8)))⟩,
    ⟨none, .conv (some 5) (.int .u8) (.r 4)⟩,
    ⟨none, .mv (some 6) (.r 0)⟩,
    ⟨none, .conv (some 7) (.int .u8) (.r 6)⟩,
    ⟨none, .bsl (some 8) 1 2 (.lit (.int .u8 0)) [(0, (.r 5)), (1, (.r 7))]⟩,
    ⟨none, .own 2 8⟩]
def frame_two_4 : AC := .ops [2] [] frame_two_4l
theorem frame_two_4e : aC P id m frame_two_4 sf st Q = runI P id m frame_two_4l (opsK [2] [] Q) sf st := rfl
def frame_two_3 : AC := .seq frame_two_4 .ret
theorem frame_two_3e : aC P id m frame_two_3 sf st Q = aC P id m frame_two_4 sf st (seqQ (aC P id m .ret) Q) := rfl
def frame_two_1 : AC := .seq frame_two_2 frame_two_3
theorem frame_two_1e : aC P id m frame_two_1 sf st Q = aC P id m frame_two_2 sf st (seqQ (aC P id m frame_two_3) Q) := rfl
def c_frame_two : AFun := ⟨9, [.tmp 2], frame_two_1⟩
theorem k_frame_two : compF Go.Proofs.Try.prog x_frame_two 47 = some c_frame_two := by kernel_rfl
theorem e_frame_two : enterB Go.Proofs.Try.prog 47 = true := by kernel_rfl

def n_frame_sum : Nat := 48
def x_frame_sum : Cx := ⟨some, id, 20, fun s => ([0, 2, 3, 5, 6, 7, 8, 11, 12, 13, 14, 15, 16, 17, 18, 19] : List Nat).contains s, fun s => ([] : List Nat).contains s, msOf [(2, [0], []), (6, [0, 3], []), (28, [3, 6, 7, 8], []), (58, [3, 6, 7, 8], []), (232, [3, 6, 7, 8, 9], []), (933, [3], []), (3736, [3, 5, 6, 7, 8], []), (3737, [3, 6, 7, 8], []), (935, [3, 6, 7, 8], []), (30, [2], [])]⟩
def frame_sum_2l : List GI := [⟨none, .mv (some 2) (.c (.lit (.int .i64 0)))⟩]
def frame_sum_2 : AC := .ops [0] [] frame_sum_2l
theorem frame_sum_2e : aC P id m frame_sum_2 sf st Q = runI P id m frame_sum_2l (opsK [0] [] Q) sf st := rfl
def frame_sum_4l : List GI := [⟨none, .mv (some 3) (.c (.lit (.int .i64 1)))⟩]
def frame_sum_4 : AC := .ops [0, 3] [] frame_sum_4l
theorem frame_sum_4e : aC P id m frame_sum_4 sf st Q = runI P id m frame_sum_4l (opsK [0, 3] [] Q) sf st := rfl
def frame_sum_7l : List GI := [⟨none, .mv (some 6) (.r 0)⟩,
    ⟨none, .len (some 7) .sl (.r 6)⟩,
    ⟨none, .mv (some 8) (.c (.lit (.int .i64 0)))⟩]
def frame_sum_7 : AC := .ops [3, 6, 7, 8] [] frame_sum_7l
theorem frame_sum_7e : aC P id m frame_sum_7 sf st Q = runI P id m frame_sum_7l (opsK [3, 6, 7, 8] [] Q) sf st := rfl
def frame_sum_11l : List GI := [⟨none, .bin (some 9) .num .lss (.r 8) (.r 7)⟩]
def frame_sum_11 : AC := .ops [3, 6, 7, 8, 9] [] frame_sum_11l
theorem frame_sum_11e : aC P id m frame_sum_11 sf st Q = runI P id m frame_sum_11l (opsK [3, 6, 7, 8, 9] [] Q) sf st := rfl
def frame_sum_13 : AC := .cond (.r 9) .skip (.exit [3] [] 0)
theorem frame_sum_13e : aC P id m frame_sum_13 sf st Q = condI (.r 9) (sf.ev id (.r 9)) (aC P id m .skip) (aC P id m (.exit [3] [] 0)) sf st Q := rfl
def frame_sum_17l : List GI := [⟨none, .ixS (some 10) (.r 6) (.r 8) 1⟩,
    ⟨none, .load (some 11) (.r 10) none⟩,
    ⟨none, .own 5 11⟩]
def frame_sum_17 : AC := .ops [3, 5, 6, 7, 8] [] frame_sum_17l
theorem frame_sum_17e : aC P id m frame_sum_17 sf st Q = runI P id m frame_sum_17l (opsK [3, 5, 6, 7, 8] [] Q) sf st := rfl
def frame_sum_18l : List GI := [⟨none, .mv (some 12) (.r 3)⟩,
    ⟨none, .bin (some 13) .num .mul (.c (.lit (.int .i64 31))) (.r 12)⟩,
    ⟨none, .mv (some 14) (.r 5)⟩,
    ⟨none, .conv (some 15) (.int .i64) (.r 14)⟩,
    ⟨none, .bin (some 16) .num .add (.r 13) (.r 15)⟩,
    ⟨none, .bin (some 17) .num .rem (.r 16) (.c (.lit (.int .i64 65521)))⟩,
    ⟨none, .own 3 17⟩]
def frame_sum_18 : AC := .ops [3, 6, 7, 8] [] frame_sum_18l
theorem frame_sum_18e : aC P id m frame_sum_18 sf st Q = runI P id m frame_sum_18l (opsK [3, 6, 7, 8] [] Q) sf st := rfl
def frame_sum_16 : AC := .seq frame_sum_17 frame_sum_18
theorem frame_sum_16e : aC P id m frame_sum_16 sf st Q = aC P id m frame_sum_17 sf st (seqQ (aC P id m frame_sum_18) Q) := rfl
def frame_sum_15 : AC := .block 1 frame_sum_16
theorem frame_sum_15e : aC P id m frame_sum_15 sf st Q = aC P id m frame_sum_16 sf st (blockQ 1 Q) := rfl
def frame_sum_19l : List GI := [⟨none, .bin (some 18) .num .add (.r 8) (.c (.lit (.int .i64 1)))⟩,
    ⟨none, .mv (some 8) (.r 18)⟩]
def frame_sum_19 : AC := .ops [3, 6, 7, 8] [] frame_sum_19l
theorem frame_sum_19e : aC P id m frame_sum_19 sf st Q = runI P id m frame_sum_19l (opsK [3, 6, 7, 8] [] Q) sf st := rfl
def frame_sum_14 : AC := .seq frame_sum_15 frame_sum_19
theorem frame_sum_14e : aC P id m frame_sum_14 sf st Q = aC P id m frame_sum_15 sf st (seqQ (aC P id m frame_sum_19) Q) := rfl
def frame_sum_12 : AC := .seq frame_sum_13 frame_sum_14
theorem frame_sum_12e : aC P id m frame_sum_12 sf st Q = aC P id m frame_sum_13 sf st (seqQ (aC P id m frame_sum_14) Q) := rfl
def frame_sum_10 : AC := .seq frame_sum_11 frame_sum_12
theorem frame_sum_10e : aC P id m frame_sum_10 sf st Q = aC P id m frame_sum_11 sf st (seqQ (aC P id m frame_sum_12) Q) := rfl
def frame_sum_9 : AC := .loop [3, 6, 7, 8] [] frame_sum_10
theorem frame_sum_9w : aC P id m frame_sum_9 sf st Q = loopI (aC P id m frame_sum_10) [3, 6, 7, 8] [] sf st Q := rfl
def frame_sum_8 : AC := .block 0 frame_sum_9
theorem frame_sum_8e : aC P id m frame_sum_8 sf st Q = aC P id m frame_sum_9 sf st (blockQ 0 Q) := rfl
def frame_sum_6 : AC := .seq frame_sum_7 frame_sum_8
theorem frame_sum_6e : aC P id m frame_sum_6 sf st Q = aC P id m frame_sum_7 sf st (seqQ (aC P id m frame_sum_8) Q) := rfl
def frame_sum_21l : List GI := [⟨none, .mv (some 19) (.r 3)⟩,
    ⟨none, .own 2 19⟩]
def frame_sum_21 : AC := .ops [2] [] frame_sum_21l
theorem frame_sum_21e : aC P id m frame_sum_21 sf st Q = runI P id m frame_sum_21l (opsK [2] [] Q) sf st := rfl
def frame_sum_20 : AC := .seq frame_sum_21 .ret
theorem frame_sum_20e : aC P id m frame_sum_20 sf st Q = aC P id m frame_sum_21 sf st (seqQ (aC P id m .ret) Q) := rfl
def frame_sum_5 : AC := .seq frame_sum_6 frame_sum_20
theorem frame_sum_5e : aC P id m frame_sum_5 sf st Q = aC P id m frame_sum_6 sf st (seqQ (aC P id m frame_sum_20) Q) := rfl
def frame_sum_3 : AC := .seq frame_sum_4 frame_sum_5
theorem frame_sum_3e : aC P id m frame_sum_3 sf st Q = aC P id m frame_sum_4 sf st (seqQ (aC P id m frame_sum_5) Q) := rfl
def frame_sum_1 : AC := .seq frame_sum_2 frame_sum_3
theorem frame_sum_1e : aC P id m frame_sum_1 sf st Q = aC P id m frame_sum_2 sf st (seqQ (aC P id m frame_sum_3) Q) := rfl
def c_frame_sum : AFun := ⟨20, [.tmp 2], frame_sum_1⟩
theorem k_frame_sum : compF Go.Proofs.Try.prog x_frame_sum 48 = some c_frame_sum := by kernel_rfl
theorem e_frame_sum : enterB Go.Proofs.Try.prog 48 = true := by kernel_rfl

def n_bytes_Clone : Nat := 57
def x_bytes_Clone : Cx := ⟨some, id, 8, fun s => ([0, 2, 3, 5, 6, 7] : List Nat).contains s, fun s => ([] : List Nat).contains s, msOf [(2, [0], []), (12, [0, 4], []), (52, [2], []), (14, [2], [])]⟩
def bytes_Clone_2l : List GI := [⟨none, .mv (some 2) (.c (.lit (.slice none 0 0)))⟩]
def bytes_Clone_2 : AC := .ops [0] [] bytes_Clone_2l
theorem bytes_Clone_2e : aC P id m bytes_Clone_2 sf st Q = runI P id m bytes_Clone_2l (opsK [0] [] Q) sf st := rfl
def bytes_Clone_5l : List GI := [⟨none, .mv (some 3) (.r 0)⟩,
    ⟨none, .x (some 4) (.nilU .eql (.r 3) (.c (.lit (.slice none 0 0))))⟩]
def bytes_Clone_5 : AC := .ops [0, 4] [] bytes_Clone_5l
theorem bytes_Clone_5e : aC P id m bytes_Clone_5 sf st Q = runI P id m bytes_Clone_5l (opsK [0, 4] [] Q) sf st := rfl
def bytes_Clone_8l : List GI := [⟨none, .mv (some 2) (.c (.lit (.slice none 0 0)))⟩]
def bytes_Clone_8 : AC := .ops [2] [] bytes_Clone_8l
theorem bytes_Clone_8e : aC P id m bytes_Clone_8 sf st Q = runI P id m bytes_Clone_8l (opsK [2] [] Q) sf st := rfl
def bytes_Clone_7 : AC := .seq bytes_Clone_8 .ret
theorem bytes_Clone_7e : aC P id m bytes_Clone_7 sf st Q = aC P id m bytes_Clone_8 sf st (seqQ (aC P id m .ret) Q) := rfl
def bytes_Clone_6 : AC := .cond (.r 4) bytes_Clone_7 .skip
theorem bytes_Clone_6e : aC P id m bytes_Clone_6 sf st Q = condI (.r 4) (sf.ev id (.r 4)) (aC P id m bytes_Clone_7) (aC P id m .skip) sf st Q := rfl
def bytes_Clone_4 : AC := .seq bytes_Clone_5 bytes_Clone_6
theorem bytes_Clone_4e : aC P id m bytes_Clone_4 sf st Q = aC P id m bytes_Clone_5 sf st (seqQ (aC P id m bytes_Clone_6) Q) := rfl
def bytes_Clone_10l : List GI := [⟨none, .bsl (some 5) 1 0 (.lit (.int .u8 0)) []⟩,
    ⟨none, .mv (some 6) (.r 0)⟩,
    ⟨none, .appS 7 5 1 1 (.r 6)⟩,
    ⟨none, .own 2 7⟩]
def bytes_Clone_10 : AC := .ops [2] [] bytes_Clone_10l
theorem bytes_Clone_10e : aC P id m bytes_Clone_10 sf st Q = runI P id m bytes_Clone_10l (opsK [2] [] Q) sf st := rfl
def bytes_Clone_9 : AC := .seq bytes_Clone_10 .ret
theorem bytes_Clone_9e : aC P id m bytes_Clone_9 sf st Q = aC P id m bytes_Clone_10 sf st (seqQ (aC P id m .ret) Q) := rfl
def bytes_Clone_3 : AC := .seq bytes_Clone_4 bytes_Clone_9
theorem bytes_Clone_3e : aC P id m bytes_Clone_3 sf st Q = aC P id m bytes_Clone_4 sf st (seqQ (aC P id m bytes_Clone_9) Q) := rfl
def bytes_Clone_1 : AC := .seq bytes_Clone_2 bytes_Clone_3
theorem bytes_Clone_1e : aC P id m bytes_Clone_1 sf st Q = aC P id m bytes_Clone_2 sf st (seqQ (aC P id m bytes_Clone_3) Q) := rfl
def c_bytes_Clone : AFun := ⟨8, [.tmp 2], bytes_Clone_1⟩
theorem k_bytes_Clone : compF Go.Proofs.Try.prog x_bytes_Clone 57 = some c_bytes_Clone := by kernel_rfl
theorem e_bytes_Clone : enterB Go.Proofs.Try.prog 57 = true := by kernel_rfl

def n_bytes_Equal : Nat := 58
def x_bytes_Equal : Cx := ⟨some, id, 10, fun s => ([0, 1, 4, 5, 6, 7, 8, 9] : List Nat).contains s, fun s => ([] : List Nat).contains s, msOf [(2, [0, 1], []), (6, [4], [])]⟩
def bytes_Equal_2l : List GI := [⟨none, .mv (some 4) (.c (.lit (.bool false)))⟩]
def bytes_Equal_2 : AC := .ops [0, 1] [] bytes_Equal_2l
theorem bytes_Equal_2e : aC P id m bytes_Equal_2 sf st Q = runI P id m bytes_Equal_2l (opsK [0, 1] [] Q) sf st := rfl
def bytes_Equal_4l : List GI := [⟨none, .mv (some 5) (.r 0)⟩,
    ⟨none, .conv (some 6) .bs (.r 5)⟩,
    ⟨none, .mv (some 7) (.r 1)⟩,
    ⟨none, .conv (some 8) .bs (.r 7)⟩,
    ⟨none, .bin (some 9) .num .eql (.r 6) (.r 8)⟩,
    ⟨none, .own 4 9⟩]
def bytes_Equal_4 : AC := .ops [4] [] bytes_Equal_4l
theorem bytes_Equal_4e : aC P id m bytes_Equal_4 sf st Q = runI P id m bytes_Equal_4l (opsK [4] [] Q) sf st := rfl
def bytes_Equal_3 : AC := .seq bytes_Equal_4 .ret
theorem bytes_Equal_3e : aC P id m bytes_Equal_3 sf st Q = aC P id m bytes_Equal_4 sf st (seqQ (aC P id m .ret) Q) := rfl
def bytes_Equal_1 : AC := .seq bytes_Equal_2 bytes_Equal_3
theorem bytes_Equal_1e : aC P id m bytes_Equal_1 sf st Q = aC P id m bytes_Equal_2 sf st (seqQ (aC P id m bytes_Equal_3) Q) := rfl
def c_bytes_Equal : AFun := ⟨10, [.tmp 4], bytes_Equal_1⟩
theorem k_bytes_Equal : compF Go.Proofs.Try.prog x_bytes_Equal 58 = some c_bytes_Equal := by kernel_rfl
theorem e_bytes_Equal : enterB Go.Proofs.Try.prog 58 = true := by kernel_rfl

def n_bytes_Join : Nat := 59
def x_bytes_Join : Cx := ⟨some, id, 92, fun s => ([0, 1, 4, 5, 7, 8, 9, 11, 12, 13, 15, 16, 17, 21, 22, 23, 24, 26, 27, 28, 29, 30, 31, 33, 34, 35, 36, 37, 38, 39, 40, 41, 42, 43, 44, 47, 48, 49, 50, 51, 53, 54, 55, 56, 57, 58, 59, 60, 61, 62, 63, 64, 67, 68, 69, 70, 71, 72, 75, 76, 77, 78, 79, 80, 81, 82, 83, 84, 85, 86, 87, 88, 89, 90, 91] : List Nat).contains s, fun s => ([8, 60, 63, 64, 77, 79, 84, 86] : List Nat).contains s, msOf [(2, [0, 1], []), (12, [0, 1, 14], []), (52, [4], []), (28, [0, 1, 18], []), (116, [4], []), (30, [0, 1, 5], []), (124, [0, 1, 5, 25], []), (1000, [0, 1, 5, 32], []), (2002, [0, 1, 5], []), (501, [0, 1, 5], []), (252, [0, 1, 5, 42, 43, 44], []), (506, [0, 1, 5, 42, 43, 44], []), (2024, [0, 1, 5, 42, 43, 44, 45], []), (8101, [0, 1, 5], []), (32408, [0, 1, 5, 7, 42, 43, 44], []), (129636, [0, 1, 5, 7, 42, 43, 44, 52], []), (259274, [0, 1, 5, 7, 42, 43, 44], []), (64819, [0, 1, 5, 42, 43, 44], []), (8103, [0, 1, 5, 42, 43, 44], []), (254, [0, 1, 8], []), (510, [0, 1, 8, 9], []), (2044, [1, 8, 9, 70, 71, 72], []), (4090, [1, 8, 9, 70, 71, 72], []), (16360, [1, 8, 9, 70, 71, 72, 73], []), (65445, [8], []), (261784, [1, 8, 9, 11, 70, 71, 72], []), (523570, [1, 8, 9, 11, 70, 71, 72], []), (523571, [1, 8, 9, 70, 71, 72], []), (65447, [1, 8, 9, 70, 71, 72], []), (2046, [4], [])]⟩
def bytes_Join_2l : List GI := [⟨none, .mv (some 4) (.c (.lit (.slice none 0 0)))⟩]
def bytes_Join_2 : AC := .ops [0, 1] [] bytes_Join_2l
theorem bytes_Join_2e : aC P id m bytes_Join_2 sf st Q = runI P id m bytes_Join_2l (opsK [0, 1] [] Q) sf st := rfl
def bytes_Join_5l : List GI := [⟨none, .mv (some 12) (.r 0)⟩,
    ⟨none, .len (some 13) .sl (.r 12)⟩,
    ⟨none, .bin (some 14) .num .eql (.r 13) (.c (.lit (.int .i64 0)))⟩]
def bytes_Join_5 : AC := .ops [0, 1, 14] [] bytes_Join_5l
theorem bytes_Join_5e : aC P id m bytes_Join_5 sf st Q = runI P id m bytes_Join_5l (opsK [0, 1, 14] [] Q) sf st := rfl
def bytes_Join_8l : List GI := [⟨none, .bsl (some 15) 1 0 (.lit (.int .u8 0)) []⟩,
    ⟨none, .own 4 15⟩]
def bytes_Join_8 : AC := .ops [4] [] bytes_Join_8l
theorem bytes_Join_8e : aC P id m bytes_Join_8 sf st Q = runI P id m bytes_Join_8l (opsK [4] [] Q) sf st := rfl
def bytes_Join_7 : AC := .seq bytes_Join_8 .ret
theorem bytes_Join_7e : aC P id m bytes_Join_7 sf st Q = aC P id m bytes_Join_8 sf st (seqQ (aC P id m .ret) Q) := rfl
def bytes_Join_6 : AC := .cond (.r 14) bytes_Join_7 .skip
theorem bytes_Join_6e : aC P id m bytes_Join_6 sf st Q = condI (.r 14) (sf.ev id (.r 14)) (aC P id m bytes_Join_7) (aC P id m .skip) sf st Q := rfl
def bytes_Join_4 : AC := .seq bytes_Join_5 bytes_Join_6
theorem bytes_Join_4e : aC P id m bytes_Join_4 sf st Q = aC P id m bytes_Join_5 sf st (seqQ (aC P id m bytes_Join_6) Q) := rfl
def bytes_Join_11l : List GI := [⟨none, .mv (some 16) (.r 0)⟩,
    ⟨none, .len (some 17) .sl (.r 16)⟩,
    ⟨none, .bin (some 18) .num .eql (.r 17) (.c (.lit (.int .i64 1)))⟩]
def bytes_Join_11 : AC := .ops [0, 1, 18] [] bytes_Join_11l
theorem bytes_Join_11e : aC P id m bytes_Join_11 sf st Q = runI P id m bytes_Join_11l (opsK [0, 1, 18] [] Q) sf st := rfl
def bytes_Join_14l : List GI := [⟨none, .mv (some 19) (.r 0)⟩,
    ⟨none, .ixS (some 20) (.r 19) (.c (.lit (.int .i64 0))) 1⟩,
    ⟨none, .load (some 21) (.r 20) none⟩,
    ⟨none, .app (some 22) 1 1 (.c (.lit (.slice none 0 0))) (.r 21)⟩,
    ⟨none, .own 4 22⟩]
def bytes_Join_14 : AC := .ops [4] [] bytes_Join_14l
theorem bytes_Join_14e : aC P id m bytes_Join_14 sf st Q = runI P id m bytes_Join_14l (opsK [4] [] Q) sf st := rfl
def bytes_Join_13 : AC := .seq bytes_Join_14 .ret
theorem bytes_Join_13e : aC P id m bytes_Join_13 sf st Q = aC P id m bytes_Join_14 sf st (seqQ (aC P id m .ret) Q) := rfl
def bytes_Join_12 : AC := .cond (.r 18) bytes_Join_13 .skip
theorem bytes_Join_12e : aC P id m bytes_Join_12 sf st Q = condI (.r 18) (sf.ev id (.r 18)) (aC P id m bytes_Join_13) (aC P id m .skip) sf st Q := rfl
def bytes_Join_10 : AC := .seq bytes_Join_11 bytes_Join_12
theorem bytes_Join_10e : aC P id m bytes_Join_10 sf st Q = aC P id m bytes_Join_11 sf st (seqQ (aC P id m bytes_Join_12) Q) := rfl
def bytes_Join_16l : List GI := [⟨none, .mv (some 5) (.c (.lit (.int .i64 0)))⟩]
def bytes_Join_16 : AC := .ops [0, 1, 5] [] bytes_Join_16l
theorem bytes_Join_16e : aC P id m bytes_Join_16 sf st Q = runI P id m bytes_Join_16l (opsK [0, 1, 5] [] Q) sf st := rfl
def bytes_Join_19l : List GI := [⟨none, .mv (some 23) (.r 1)⟩,
    ⟨none, .len (some 24) .sl (.r 23)⟩,
    ⟨none, .bin (some 25) .num .gtr (.r 24) (.c (.lit (.int .i64 0)))⟩]
def bytes_Join_19 : AC := .ops [0, 1, 5, 25] [] bytes_Join_19l
theorem bytes_Join_19e : aC P id m bytes_Join_19 sf st Q = runI P id m bytes_Join_19l (opsK [0, 1, 5, 25] [] Q) sf st := rfl
def bytes_Join_23l : List GI := [⟨none, .mv (some 26) (.r 1)⟩,
    ⟨none, .len (some 27) .sl (.r 26)⟩,
    ⟨none, .mv (some 28) (.r 0)⟩,
    ⟨none, .len (some 29) .sl (.r 28)⟩,
    ⟨none, .bin (some 30) .num .sub (.r 29) (.c (.lit (.int .i64 1)))⟩,
    ⟨none, .bin (some 31) .num .quo (.c (.lit (.int .i64 9223372036854775807))) (.r 30)⟩,
    ⟨none, .bin (some 32) .num .geq (.r 27) (.r 31)⟩]
def bytes_Join_23 : AC := .ops [0, 1, 5, 32] [] bytes_Join_23l
theorem bytes_Join_23e : aC P id m bytes_Join_23 sf st Q = runI P id m bytes_Join_23l (opsK [0, 1, 5, 32] [] Q) sf st := rfl
def bytes_Join_25l : List GI := [⟨none, .mkif (some 33) 9 (.c (.lit (.string ⟨#[98, 121, 116, 101, 115, 58, 32, 74, 111, 105, 110, 32, 111, 117, 116, 112, 117, 116, 32, 108, 101, 110, 103, 116, 104, 32, 111, 118, 101, 114, 102, 108, 111, 119]⟩)))⟩,
    ⟨none, .x none .bad⟩]
def bytes_Join_25 : AC := .ops [0, 1, 5] [] bytes_Join_25l
theorem bytes_Join_25e : aC P id m bytes_Join_25 sf st Q = runI P id m bytes_Join_25l (opsK [0, 1, 5] [] Q) sf st := rfl
def bytes_Join_24 : AC := .cond (.r 32) bytes_Join_25 .skip
theorem bytes_Join_24e : aC P id m bytes_Join_24 sf st Q = condI (.r 32) (sf.ev id (.r 32)) (aC P id m bytes_Join_25) (aC P id m .skip) sf st Q := rfl
def bytes_Join_22 : AC := .seq bytes_Join_23 bytes_Join_24
theorem bytes_Join_22e : aC P id m bytes_Join_22 sf st Q = aC P id m bytes_Join_23 sf st (seqQ (aC P id m bytes_Join_24) Q) := rfl
def bytes_Join_26l : List GI := [⟨none, .mv (some 34) (.r 5)⟩,
    ⟨none, .mv (some 35) (.r 1)⟩,
    ⟨none, .len (some 36) .sl (.r 35)⟩,
    ⟨none, .mv (some 37) (.r 0)⟩,
    ⟨none, .len (some 38) .sl (.r 37)⟩,
    ⟨none, .bin (some 39) .num .sub (.r 38) (.c (.lit (.int .i64 1)))⟩,
    ⟨none, .bin (some 40) .num .mul (.r 36) (.r 39)⟩,
    ⟨none, .bin (some 41) .num .add (.r 34) (.r 40)⟩,
    ⟨none, .own 5 41⟩]
def bytes_Join_26 : AC := .ops [0, 1, 5] [] bytes_Join_26l
theorem bytes_Join_26e : aC P id m bytes_Join_26 sf st Q = runI P id m bytes_Join_26l (opsK [0, 1, 5] [] Q) sf st := rfl
def bytes_Join_21 : AC := .seq bytes_Join_22 bytes_Join_26
theorem bytes_Join_21e : aC P id m bytes_Join_21 sf st Q = aC P id m bytes_Join_22 sf st (seqQ (aC P id m bytes_Join_26) Q) := rfl
def bytes_Join_20 : AC := .cond (.r 25) bytes_Join_21 .skip
theorem bytes_Join_20e : aC P id m bytes_Join_20 sf st Q = condI (.r 25) (sf.ev id (.r 25)) (aC P id m bytes_Join_21) (aC P id m .skip) sf st Q := rfl
def bytes_Join_18 : AC := .seq bytes_Join_19 bytes_Join_20
theorem bytes_Join_18e : aC P id m bytes_Join_18 sf st Q = aC P id m bytes_Join_19 sf st (seqQ (aC P id m bytes_Join_20) Q) := rfl
def bytes_Join_29l : List GI := [⟨none, .mv (some 42) (.r 0)⟩,
    ⟨none, .len (some 43) .sl (.r 42)⟩,
    ⟨none, .mv (some 44) (.c (.lit (.int .i64 0)))⟩]
def bytes_Join_29 : AC := .ops [0, 1, 5, 42, 43, 44] [] bytes_Join_29l
theorem bytes_Join_29e : aC P id m bytes_Join_29 sf st Q = runI P id m bytes_Join_29l (opsK [0, 1, 5, 42, 43, 44] [] Q) sf st := rfl
def bytes_Join_33l : List GI := [⟨none, .bin (some 45) .num .lss (.r 44) (.r 43)⟩]
def bytes_Join_33 : AC := .ops [0, 1, 5, 42, 43, 44, 45] [] bytes_Join_33l
theorem bytes_Join_33e : aC P id m bytes_Join_33 sf st Q = runI P id m bytes_Join_33l (opsK [0, 1, 5, 42, 43, 44, 45] [] Q) sf st := rfl
def bytes_Join_35 : AC := .cond (.r 45) .skip (.exit [0, 1, 5] [] 0)
theorem bytes_Join_35e : aC P id m bytes_Join_35 sf st Q = condI (.r 45) (sf.ev id (.r 45)) (aC P id m .skip) (aC P id m (.exit [0, 1, 5] [] 0)) sf st Q := rfl
def bytes_Join_39l : List GI := [⟨none, .ixS (some 46) (.r 42) (.r 44) 1⟩,
    ⟨none, .load (some 47) (.r 46) none⟩,
    ⟨none, .own 7 47⟩]
def bytes_Join_39 : AC := .ops [0, 1, 5, 7, 42, 43, 44] [] bytes_Join_39l
theorem bytes_Join_39e : aC P id m bytes_Join_39 sf st Q = runI P id m bytes_Join_39l (opsK [0, 1, 5, 7, 42, 43, 44] [] Q) sf st := rfl
def bytes_Join_42l : List GI := [⟨none, .mv (some 48) (.r 7)⟩,
    ⟨none, .len (some 49) .sl (.r 48)⟩,
    ⟨none, .mv (some 50) (.r 5)⟩,
    ⟨none, .bin (some 51) .num .sub (.c (.lit (.int .i64 9223372036854775807))) (.r 50)⟩,
    ⟨none, .bin (some 52) .num .gtr (.r 49) (.r 51)⟩]
def bytes_Join_42 : AC := .ops [0, 1, 5, 7, 42, 43, 44, 52] [] bytes_Join_42l
theorem bytes_Join_42e : aC P id m bytes_Join_42 sf st Q = runI P id m bytes_Join_42l (opsK [0, 1, 5, 7, 42, 43, 44, 52] [] Q) sf st := rfl
def bytes_Join_44l : List GI := [⟨none, .mkif (some 53) 9 (.c (.lit (.string ⟨#[98, 121, 116, 101, 115, 58, 32, 74, 111, 105, 110, 32, 111, 117, 116, 112, 117, 116, 32, 108, 101, 110, 103, 116, 104, 32, 111, 118, 101, 114, 102, 108, 111, 119]⟩)))⟩,
    ⟨none, .x none .bad⟩]
def bytes_Join_44 : AC := .ops [0, 1, 5, 7, 42, 43, 44] [] bytes_Join_44l
theorem bytes_Join_44e : aC P id m bytes_Join_44 sf st Q = runI P id m bytes_Join_44l (opsK [0, 1, 5, 7, 42, 43, 44] [] Q) sf st := rfl
def bytes_Join_43 : AC := .cond (.r 52) bytes_Join_44 .skip
theorem bytes_Join_43e : aC P id m bytes_Join_43 sf st Q = condI (.r 52) (sf.ev id (.r 52)) (aC P id m bytes_Join_44) (aC P id m .skip) sf st Q := rfl
def bytes_Join_41 : AC := .seq bytes_Join_42 bytes_Join_43
theorem bytes_Join_41e : aC P id m bytes_Join_41 sf st Q = aC P id m bytes_Join_42 sf st (seqQ (aC P id m bytes_Join_43) Q) := rfl
def bytes_Join_45l : List GI := [⟨none, .mv (some 54) (.r 5)⟩,
    ⟨none, .mv (some 55) (.r 7)⟩,
    ⟨none, .len (some 56) .sl (.r 55)⟩,
    ⟨none, .bin (some 57) .num .add (.r 54) (.r 56)⟩,
    ⟨none, .own 5 57⟩]
def bytes_Join_45 : AC := .ops [0, 1, 5, 42, 43, 44] [] bytes_Join_45l
theorem bytes_Join_45e : aC P id m bytes_Join_45 sf st Q = runI P id m bytes_Join_45l (opsK [0, 1, 5, 42, 43, 44] [] Q) sf st := rfl
def bytes_Join_40 : AC := .seq bytes_Join_41 bytes_Join_45
theorem bytes_Join_40e : aC P id m bytes_Join_40 sf st Q = aC P id m bytes_Join_41 sf st (seqQ (aC P id m bytes_Join_45) Q) := rfl
def bytes_Join_38 : AC := .seq bytes_Join_39 bytes_Join_40
theorem bytes_Join_38e : aC P id m bytes_Join_38 sf st Q = aC P id m bytes_Join_39 sf st (seqQ (aC P id m bytes_Join_40) Q) := rfl
def bytes_Join_37 : AC := .block 1 bytes_Join_38
theorem bytes_Join_37e : aC P id m bytes_Join_37 sf st Q = aC P id m bytes_Join_38 sf st (blockQ 1 Q) := rfl
def bytes_Join_46l : List GI := [⟨none, .bin (some 58) .num .add (.r 44) (.c (.lit (.int .i64 1)))⟩,
    ⟨none, .mv (some 44) (.r 58)⟩]
def bytes_Join_46 : AC := .ops [0, 1, 5, 42, 43, 44] [] bytes_Join_46l
theorem bytes_Join_46e : aC P id m bytes_Join_46 sf st Q = runI P id m bytes_Join_46l (opsK [0, 1, 5, 42, 43, 44] [] Q) sf st := rfl
def bytes_Join_36 : AC := .seq bytes_Join_37 bytes_Join_46
theorem bytes_Join_36e : aC P id m bytes_Join_36 sf st Q = aC P id m bytes_Join_37 sf st (seqQ (aC P id m bytes_Join_46) Q) := rfl
def bytes_Join_34 : AC := .seq bytes_Join_35 bytes_Join_36
theorem bytes_Join_34e : aC P id m bytes_Join_34 sf st Q = aC P id m bytes_Join_35 sf st (seqQ (aC P id m bytes_Join_36) Q) := rfl
def bytes_Join_32 : AC := .seq bytes_Join_33 bytes_Join_34
theorem bytes_Join_32e : aC P id m bytes_Join_32 sf st Q = aC P id m bytes_Join_33 sf st (seqQ (aC P id m bytes_Join_34) Q) := rfl
def bytes_Join_31 : AC := .loop [0, 1, 5, 42, 43, 44] [] bytes_Join_32
theorem bytes_Join_31w : aC P id m bytes_Join_31 sf st Q = loopI (aC P id m bytes_Join_32) [0, 1, 5, 42, 43, 44] [] sf st Q := rfl
def bytes_Join_30 : AC := .block 0 bytes_Join_31
theorem bytes_Join_30e : aC P id m bytes_Join_30 sf st Q = aC P id m bytes_Join_31 sf st (blockQ 0 Q) := rfl
def bytes_Join_28 : AC := .seq bytes_Join_29 bytes_Join_30
theorem bytes_Join_28e : aC P id m bytes_Join_28 sf st Q = aC P id m bytes_Join_29 sf st (seqQ (aC P id m bytes_Join_30) Q) := rfl
def bytes_Join_48l : List GI := [⟨none, .mv (some 59) (.r 5)⟩,
    ⟨none, .x (some 60) (.mknz (.r 59))⟩,
    ⟨none, .mv (some 61) (.r 5)⟩,
    ⟨none, .mv (some 62) (.r 5)⟩,
    ⟨none, .sli3 (some 63) (.r 60) none (some (.r 61)) (.r 62) 1⟩,
    ⟨none, .own 8 63⟩]
def bytes_Join_48 : AC := .ops [0, 1, 8] [] bytes_Join_48l
theorem bytes_Join_48e : aC P id m bytes_Join_48 sf st Q = runI P id m bytes_Join_48l (opsK [0, 1, 8] [] Q) sf st := rfl
def bytes_Join_50l : List GI := [⟨none, .mv (some 64) (.r 8)⟩,
    ⟨none, .mv (some 65) (.r 0)⟩,
    ⟨none, .ixS (some 66) (.r 65) (.c (.lit (.int .i64 0))) 1⟩,
    ⟨none, .load (some 67) (.r 66) none⟩,
    ⟨none, .x (some 68) (.copyB 1 (.r 64) (.r 67))⟩,
    ⟨none, .own 9 68⟩]
def bytes_Join_50 : AC := .ops [0, 1, 8, 9] [] bytes_Join_50l
theorem bytes_Join_50e : aC P id m bytes_Join_50 sf st Q = runI P id m bytes_Join_50l (opsK [0, 1, 8, 9] [] Q) sf st := rfl
def bytes_Join_53l : List GI := [⟨none, .mv (some 69) (.r 0)⟩,
    ⟨none, .sliOwn 70 69 (.c (.lit (.int .i64 1))) 1⟩,
    ⟨none, .len (some 71) .sl (.r 70)⟩,
    ⟨none, .mv (some 72) (.c (.lit (.int .i64 0)))⟩]
def bytes_Join_53 : AC := .ops [1, 8, 9, 70, 71, 72] [] bytes_Join_53l
theorem bytes_Join_53e : aC P id m bytes_Join_53 sf st Q = runI P id m bytes_Join_53l (opsK [1, 8, 9, 70, 71, 72] [] Q) sf st := rfl
def bytes_Join_57l : List GI := [⟨none, .bin (some 73) .num .lss (.r 72) (.r 71)⟩]
def bytes_Join_57 : AC := .ops [1, 8, 9, 70, 71, 72, 73] [] bytes_Join_57l
theorem bytes_Join_57e : aC P id m bytes_Join_57 sf st Q = runI P id m bytes_Join_57l (opsK [1, 8, 9, 70, 71, 72, 73] [] Q) sf st := rfl
def bytes_Join_59 : AC := .cond (.r 73) .skip (.exit [8] [] 2)
theorem bytes_Join_59e : aC P id m bytes_Join_59 sf st Q = condI (.r 73) (sf.ev id (.r 73)) (aC P id m .skip) (aC P id m (.exit [8] [] 2)) sf st Q := rfl
def bytes_Join_63l : List GI := [⟨none, .ixS (some 74) (.r 70) (.r 72) 1⟩,
    ⟨none, .load (some 75) (.r 74) none⟩,
    ⟨none, .own 11 75⟩]
def bytes_Join_63 : AC := .ops [1, 8, 9, 11, 70, 71, 72] [] bytes_Join_63l
theorem bytes_Join_63e : aC P id m bytes_Join_63 sf st Q = runI P id m bytes_Join_63l (opsK [1, 8, 9, 11, 70, 71, 72] [] Q) sf st := rfl
def bytes_Join_65l : List GI := [⟨none, .mv (some 76) (.r 9)⟩,
    ⟨none, .mv (some 77) (.r 8)⟩,
    ⟨none, .mv (some 78) (.r 9)⟩,
    ⟨none, .sliOwn 79 77 (.r 78) 1⟩,
    ⟨none, .mv (some 80) (.r 1)⟩,
    ⟨none, .x (some 81) (.copyB 1 (.r 79) (.r 80))⟩,
    ⟨none, .bin (some 82) .num .add (.r 76) (.r 81)⟩,
    ⟨none, .own 9 82⟩]
def bytes_Join_65 : AC := .ops [1, 8, 9, 11, 70, 71, 72] [] bytes_Join_65l
theorem bytes_Join_65e : aC P id m bytes_Join_65 sf st Q = runI P id m bytes_Join_65l (opsK [1, 8, 9, 11, 70, 71, 72] [] Q) sf st := rfl
def bytes_Join_66l : List GI := [⟨none, .mv (some 83) (.r 9)⟩,
    ⟨none, .mv (some 84) (.r 8)⟩,
    ⟨none, .mv (some 85) (.r 9)⟩,
    ⟨none, .sliOwn 86 84 (.r 85) 1⟩,
    ⟨none, .mv (some 87) (.r 11)⟩,
    ⟨none, .x (some 88) (.copyB 1 (.r 86) (.r 87))⟩,
    ⟨none, .bin (some 89) .num .add (.r 83) (.r 88)⟩,
    ⟨none, .own 9 89⟩]
def bytes_Join_66 : AC := .ops [1, 8, 9, 70, 71, 72] [] bytes_Join_66l
theorem bytes_Join_66e : aC P id m bytes_Join_66 sf st Q = runI P id m bytes_Join_66l (opsK [1, 8, 9, 70, 71, 72] [] Q) sf st := rfl
def bytes_Join_64 : AC := .seq bytes_Join_65 bytes_Join_66
theorem bytes_Join_64e : aC P id m bytes_Join_64 sf st Q = aC P id m bytes_Join_65 sf st (seqQ (aC P id m bytes_Join_66) Q) := rfl
def bytes_Join_62 : AC := .seq bytes_Join_63 bytes_Join_64
theorem bytes_Join_62e : aC P id m bytes_Join_62 sf st Q = aC P id m bytes_Join_63 sf st (seqQ (aC P id m bytes_Join_64) Q) := rfl
def bytes_Join_61 : AC := .block 3 bytes_Join_62
theorem bytes_Join_61e : aC P id m bytes_Join_61 sf st Q = aC P id m bytes_Join_62 sf st (blockQ 3 Q) := rfl
def bytes_Join_67l : List GI := [⟨none, .bin (some 90) .num .add (.r 72) (.c (.lit (.int .i64 1)))⟩,
    ⟨none, .mv (some 72) (.r 90)⟩]
def bytes_Join_67 : AC := .ops [1, 8, 9, 70, 71, 72] [] bytes_Join_67l
theorem bytes_Join_67e : aC P id m bytes_Join_67 sf st Q = runI P id m bytes_Join_67l (opsK [1, 8, 9, 70, 71, 72] [] Q) sf st := rfl
def bytes_Join_60 : AC := .seq bytes_Join_61 bytes_Join_67
theorem bytes_Join_60e : aC P id m bytes_Join_60 sf st Q = aC P id m bytes_Join_61 sf st (seqQ (aC P id m bytes_Join_67) Q) := rfl
def bytes_Join_58 : AC := .seq bytes_Join_59 bytes_Join_60
theorem bytes_Join_58e : aC P id m bytes_Join_58 sf st Q = aC P id m bytes_Join_59 sf st (seqQ (aC P id m bytes_Join_60) Q) := rfl
def bytes_Join_56 : AC := .seq bytes_Join_57 bytes_Join_58
theorem bytes_Join_56e : aC P id m bytes_Join_56 sf st Q = aC P id m bytes_Join_57 sf st (seqQ (aC P id m bytes_Join_58) Q) := rfl
def bytes_Join_55 : AC := .loop [1, 8, 9, 70, 71, 72] [] bytes_Join_56
theorem bytes_Join_55w : aC P id m bytes_Join_55 sf st Q = loopI (aC P id m bytes_Join_56) [1, 8, 9, 70, 71, 72] [] sf st Q := rfl
def bytes_Join_54 : AC := .block 2 bytes_Join_55
theorem bytes_Join_54e : aC P id m bytes_Join_54 sf st Q = aC P id m bytes_Join_55 sf st (blockQ 2 Q) := rfl
def bytes_Join_52 : AC := .seq bytes_Join_53 bytes_Join_54
theorem bytes_Join_52e : aC P id m bytes_Join_52 sf st Q = aC P id m bytes_Join_53 sf st (seqQ (aC P id m bytes_Join_54) Q) := rfl
def bytes_Join_69l : List GI := [⟨none, .mv (some 91) (.r 8)⟩,
    ⟨none, .own 4 91⟩]
def bytes_Join_69 : AC := .ops [4] [] bytes_Join_69l
theorem bytes_Join_69e : aC P id m bytes_Join_69 sf st Q = runI P id m bytes_Join_69l (opsK [4] [] Q) sf st := rfl
def bytes_Join_68 : AC := .seq bytes_Join_69 .ret
theorem bytes_Join_68e : aC P id m bytes_Join_68 sf st Q = aC P id m bytes_Join_69 sf st (seqQ (aC P id m .ret) Q) := rfl
def bytes_Join_51 : AC := .seq bytes_Join_52 bytes_Join_68
theorem bytes_Join_51e : aC P id m bytes_Join_51 sf st Q = aC P id m bytes_Join_52 sf st (seqQ (aC P id m bytes_Join_68) Q) := rfl
def bytes_Join_49 : AC := .seq bytes_Join_50 bytes_Join_51
theorem bytes_Join_49e : aC P id m bytes_Join_49 sf st Q = aC P id m bytes_Join_50 sf st (seqQ (aC P id m bytes_Join_51) Q) := rfl
def bytes_Join_47 : AC := .seq bytes_Join_48 bytes_Join_49
theorem bytes_Join_47e : aC P id m bytes_Join_47 sf st Q = aC P id m bytes_Join_48 sf st (seqQ (aC P id m bytes_Join_49) Q) := rfl
def bytes_Join_27 : AC := .seq bytes_Join_28 bytes_Join_47
theorem bytes_Join_27e : aC P id m bytes_Join_27 sf st Q = aC P id m bytes_Join_28 sf st (seqQ (aC P id m bytes_Join_47) Q) := rfl
def bytes_Join_17 : AC := .seq bytes_Join_18 bytes_Join_27
theorem bytes_Join_17e : aC P id m bytes_Join_17 sf st Q = aC P id m bytes_Join_18 sf st (seqQ (aC P id m bytes_Join_27) Q) := rfl
def bytes_Join_15 : AC := .seq bytes_Join_16 bytes_Join_17
theorem bytes_Join_15e : aC P id m bytes_Join_15 sf st Q = aC P id m bytes_Join_16 sf st (seqQ (aC P id m bytes_Join_17) Q) := rfl
def bytes_Join_9 : AC := .seq bytes_Join_10 bytes_Join_15
theorem bytes_Join_9e : aC P id m bytes_Join_9 sf st Q = aC P id m bytes_Join_10 sf st (seqQ (aC P id m bytes_Join_15) Q) := rfl
def bytes_Join_3 : AC := .seq bytes_Join_4 bytes_Join_9
theorem bytes_Join_3e : aC P id m bytes_Join_3 sf st Q = aC P id m bytes_Join_4 sf st (seqQ (aC P id m bytes_Join_9) Q) := rfl
def bytes_Join_1 : AC := .seq bytes_Join_2 bytes_Join_3
theorem bytes_Join_1e : aC P id m bytes_Join_1 sf st Q = aC P id m bytes_Join_2 sf st (seqQ (aC P id m bytes_Join_3) Q) := rfl
def c_bytes_Join : AFun := ⟨92, [.tmp 4], bytes_Join_1⟩
theorem k_bytes_Join : compF Go.Proofs.Try.prog x_bytes_Join 59 = some c_bytes_Join := by kernel_rfl
theorem e_bytes_Join : enterB Go.Proofs.Try.prog 59 = true := by kernel_rfl

def tab (q : Nat) : Option AFun :=
  if q = 3 then some c_aqueductlaw43_FrameAlls else
  if q = 4 then some c_aqueductlaw43_FrameEncodes else
  if q = 11 then some c_aqueductlaw43_FrameHolds else
  if q = 14 then some c_aqueductlaw43_known else
  if q = 15 then some c_aqueductref43_Encode else
  if q = 16 then some c_frame_All else
  if q = 17 then some c_aqueductref43_All else
  if q = 18 then some c_aqueductref43_SameAll else
  if q = 19 then some c_aqueductlaw43_few else
  if q = 20 then some c_frame_Encode else
  if q = 21 then some c_frame_Join else
  if q = 22 then some c_aqueductref43_Short else
  if q = 38 then some c_frame_Reader_Feed else
  if q = 39 then some c_frame_Reader_Pending else
  if q = 40 then some c_frame_Reader_Next else
  if q = 41 then some c_aqueductref43_Same else
  if q = 42 then some c_aqueductref43_First else
  if q = 45 then some c_frame_next else
  if q = 46 then some c_frame_joined else
  if q = 47 then some c_frame_two else
  if q = 48 then some c_frame_sum else
  if q = 57 then some c_bytes_Clone else
  if q = 58 then some c_bytes_Equal else
  if q = 59 then some c_bytes_Join else
  none
theorem tabOk : TabOk Go.Proofs.Try.prog id tab :=
  tabOk_cons e_aqueductlaw43_FrameAlls k_aqueductlaw43_FrameAlls rfl (
  tabOk_cons e_aqueductlaw43_FrameEncodes k_aqueductlaw43_FrameEncodes rfl (
  tabOk_cons e_aqueductlaw43_FrameHolds k_aqueductlaw43_FrameHolds rfl (
  tabOk_cons e_aqueductlaw43_known k_aqueductlaw43_known rfl (
  tabOk_cons e_aqueductref43_Encode k_aqueductref43_Encode rfl (
  tabOk_cons e_frame_All k_frame_All rfl (
  tabOk_cons e_aqueductref43_All k_aqueductref43_All rfl (
  tabOk_cons e_aqueductref43_SameAll k_aqueductref43_SameAll rfl (
  tabOk_cons e_aqueductlaw43_few k_aqueductlaw43_few rfl (
  tabOk_cons e_frame_Encode k_frame_Encode rfl (
  tabOk_cons e_frame_Join k_frame_Join rfl (
  tabOk_cons e_aqueductref43_Short k_aqueductref43_Short rfl (
  tabOk_cons e_frame_Reader_Feed k_frame_Reader_Feed rfl (
  tabOk_cons e_frame_Reader_Pending k_frame_Reader_Pending rfl (
  tabOk_cons e_frame_Reader_Next k_frame_Reader_Next rfl (
  tabOk_cons e_aqueductref43_Same k_aqueductref43_Same rfl (
  tabOk_cons e_aqueductref43_First k_aqueductref43_First rfl (
  tabOk_cons e_frame_next k_frame_next rfl (
  tabOk_cons e_frame_joined k_frame_joined rfl (
  tabOk_cons e_frame_two k_frame_two rfl (
  tabOk_cons e_frame_sum k_frame_sum rfl (
  tabOk_cons e_bytes_Clone k_bytes_Clone rfl (
  tabOk_cons e_bytes_Equal k_bytes_Equal rfl (
  tabOk_cons e_bytes_Join k_bytes_Join rfl (
  tabOk_nil))))))))))))))))))))))))
theorem hmix : Go.Proofs.Try.prog.follows .mixedOrders = true := by kernel_rfl
end
end Go.Fx.YtenijlfcfmhmkaaFx

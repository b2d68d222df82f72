/- The functions that the statement reaches, resolved: printed by a program of ours from the translated code; each is checked here. -/
import Derived.Test.YtenijlfcfmhmkaaProg
import Derived.Test.YtenijlfcfmhmkaaFxE
set_option maxRecDepth 100000
set_option maxHeartbeats 0
namespace Go.Fx.YtenijlfcfmhmkaaFx
open Go Go.Fx
section
variable (P : Program) (m : Bool) (sf : Sf) (st : St) (Q : Exit → Sf → St → Prop)
def n_f5 : Nat := 5
def x_f5 : Cx := ⟨some, id, 82, fun s => ([0, 2, 3, 7, 8, 9, 10, 11, 12, 13, 14, 15, 17, 18, 19, 20, 22, 23, 24, 27, 28, 29, 30, 31, 32, 33, 34, 35, 36, 37, 38, 39, 40, 41, 42, 43, 44, 45, 46, 47, 48, 49, 50, 51, 52, 54, 55, 56, 57, 58, 59, 60, 61, 62, 63, 64, 65, 66, 67, 68, 69, 70, 71, 72, 73, 74, 76, 77, 78, 80, 81] : List Nat).contains s, fun s => ([] : List Nat).contains s, msOf [(2, [0], []), (12, [0, 16], []), (52, [2], []), (14, [0, 3, 4], [4]), (60, [0, 3, 4, 21], [4]), (244, [2], []), (124, [3, 4, 22, 23, 24], [4]), (250, [3, 4, 22, 23, 24], [4]), (1000, [3, 4, 22, 23, 24, 25], [4]), (4005, [], []), (16024, [3, 4, 6, 22, 23, 24], [4, 6]), (32050, [3, 4, 6, 22, 23, 24], [4, 6]), (64102, [3, 4, 7, 22, 23, 24], [4]), (128206, [3, 4, 7, 8, 9, 10, 22, 23, 24], [4]), (256414, [3, 4, 7, 8, 9, 10, 11, 12, 13, 22, 23, 24], [4]), (512830, [3, 4, 22, 23, 24, 79], [4]), (2051324, [2], []), (4007, [3, 4, 22, 23, 24], [4]), (126, [2], [])]⟩
def f5_2l : List GI := [⟨none, .mv (some 2) (.c (.lit (.bool false)))⟩]
def f5_2 : AC := .ops [0] [] f5_2l
theorem f5_2e : aC P id m f5_2 sf st Q = runI P id m f5_2l (opsK [0] [] Q) sf st := rfl
def f5_5l : List GI := [⟨none, .mv (some 14) (.r 0)⟩,
    ⟨none, .len (some 15) .sl (.r 14)⟩,
    ⟨none, .bin (some 16) .num .gtr (.r 15) (.c (.lit (.int .i64 60)))⟩]
def f5_5 : AC := .ops [0, 16] [] f5_5l
theorem f5_5e : aC P id m f5_5 sf st Q = runI P id m f5_5l (opsK [0, 16] [] Q) sf st := rfl
def f5_8l : List GI := [⟨none, .call (some 17) false (.f 23) []⟩,
    ⟨none, .own 2 17⟩]
def f5_8 : AC := .ops [2] [] f5_8l
theorem f5_8e : aC P id m f5_8 sf st Q = runI P id m f5_8l (opsK [2] [] Q) sf st := rfl
def f5_7 : AC := .seq f5_8 .ret
theorem f5_7e : aC P id m f5_7 sf st Q = aC P id m f5_8 sf st (seqQ (aC P id m .ret) Q) := rfl
def f5_6 : AC := .cond (.r 16) f5_7 .skip
theorem f5_6e : aC P id m f5_6 sf st Q = condI (.r 16) (sf.ev id (.r 16)) (aC P id m f5_7) (aC P id m .skip) sf st Q := rfl
def f5_4 : AC := .seq f5_5 f5_6
theorem f5_4e : aC P id m f5_4 sf st Q = aC P id m f5_5 sf st (seqQ (aC P id m f5_6) Q) := rfl
def f5_10l : List GI := [⟨none, .call (some 18) false (.f 24) []⟩,
    ⟨none, .bst (some 19) [(0, 1), (1, 1)] (.agg [(.lit (.slice none 0 0)), (.lit (.int .u64 0))]) []⟩,
    ⟨none, .newL 4 [(.lit (.slice none 0 0)), (.lit (.int .u64 0))]⟩,
    ⟨none, .own 3 18⟩,
    ⟨none, .store 2 (.r 4) (.r 19)⟩]
def f5_10 : AC := .ops [0, 3, 4] [4] f5_10l
theorem f5_10e : aC P id m f5_10 sf st Q = runI P id m f5_10l (opsK [0, 3, 4] [4] Q) sf st := rfl
def f5_13l : List GI := [⟨none, .mv (some 20) (.r 3)⟩,
    ⟨none, .bin (some 21) (.nil .ptr) .eql (.r 20) (.c (.lit (.pointer none)))⟩]
def f5_13 : AC := .ops [0, 3, 4, 21] [4] f5_13l
theorem f5_13e : aC P id m f5_13 sf st Q = runI P id m f5_13l (opsK [0, 3, 4, 21] [4] Q) sf st := rfl
def f5_16l : List GI := [⟨none, .mv (some 2) (.c (.lit (.bool false)))⟩]
def f5_16 : AC := .ops [2] [] f5_16l
theorem f5_16e : aC P id m f5_16 sf st Q = runI P id m f5_16l (opsK [2] [] Q) sf st := rfl
def f5_15 : AC := .seq f5_16 .ret
theorem f5_15e : aC P id m f5_15 sf st Q = aC P id m f5_16 sf st (seqQ (aC P id m .ret) Q) := rfl
def f5_14 : AC := .cond (.r 21) f5_15 .skip
theorem f5_14e : aC P id m f5_14 sf st Q = condI (.r 21) (sf.ev id (.r 21)) (aC P id m f5_15) (aC P id m .skip) sf st Q := rfl
def f5_12 : AC := .seq f5_13 f5_14
theorem f5_12e : aC P id m f5_12 sf st Q = aC P id m f5_13 sf st (seqQ (aC P id m f5_14) Q) := rfl
def f5_19l : List GI := [⟨none, .mv (some 22) (.r 0)⟩,
    ⟨none, .len (some 23) .sl (.r 22)⟩,
    ⟨none, .mv (some 24) (.c (.lit (.int .i64 0)))⟩]
def f5_19 : AC := .ops [3, 4, 22, 23, 24] [4] f5_19l
theorem f5_19e : aC P id m f5_19 sf st Q = runI P id m f5_19l (opsK [3, 4, 22, 23, 24] [4] Q) sf st := rfl
def f5_23l : List GI := [⟨none, .bin (some 25) .num .lss (.r 24) (.r 23)⟩]
def f5_23 : AC := .ops [3, 4, 22, 23, 24, 25] [4] f5_23l
theorem f5_23e : aC P id m f5_23 sf st Q = runI P id m f5_23l (opsK [3, 4, 22, 23, 24, 25] [4] Q) sf st := rfl
def f5_25 : AC := .cond (.r 25) .skip (.exit [] [] 0)
theorem f5_25e : aC P id m f5_25 sf st Q = condI (.r 25) (sf.ev id (.r 25)) (aC P id m .skip) (aC P id m (.exit [] [] 0)) sf st Q := rfl
def f5_29l : List GI := [⟨none, .ixS (some 26) (.r 22) (.r 24) 3⟩,
    ⟨none, .load (some 27) (.r 26) (some 3)⟩,
    ⟨none, .newL 6 [(.lit (.int .i64 0)), (.lit (.int .i64 0)), (.lit (.int .u64 0))]⟩,
    ⟨none, .store 3 (.r 6) (.r 27)⟩]
def f5_29 : AC := .ops [3, 4, 6, 22, 23, 24] [4, 6] f5_29l
theorem f5_29e : aC P id m f5_29 sf st Q = runI P id m f5_29l (opsK [3, 4, 6, 22, 23, 24] [4, 6] Q) sf st := rfl
def f5_31l : List GI := [⟨none, .mv (some 7) (.c (.lit (.bool false)))⟩]
def f5_31 : AC := .ops [3, 4, 6, 22, 23, 24] [4, 6] f5_31l
theorem f5_31e : aC P id m f5_31 sf st Q = runI P id m f5_31l (opsK [3, 4, 6, 22, 23, 24] [4, 6] Q) sf st := rfl
def f5_33l : List GI := [⟨none, .mv (some 29) (.r 3)⟩,
    ⟨none, .load (some 30) (.r 4) (some 2)⟩,
    ⟨none, .load (some 31) (.r 6) (some 3)⟩,
    ⟨none, .call (some 32) false (.f 25) [(.r 29), (.r 30), (.r 31)]⟩,
    ⟨none, .mv (some 28) (.r 32)⟩,
    ⟨none, .ext (some 33) (.r 28) 0⟩,
    ⟨none, .ext (some 34) (.r 28) 1⟩,
    ⟨none, .ext (some 35) (.r 28) 2⟩,
    ⟨none, .own 3 33⟩,
    ⟨none, .store 2 (.r 4) (.r 34)⟩,
    ⟨none, .own 7 35⟩]
def f5_33 : AC := .ops [3, 4, 7, 22, 23, 24] [4] f5_33l
theorem f5_33e : aC P id m f5_33 sf st Q = runI P id m f5_33l (opsK [3, 4, 7, 22, 23, 24] [4] Q) sf st := rfl
def f5_35l : List GI := [⟨none, .mv (some 37) (.r 3)⟩,
    ⟨none, .call (some 38) false (.f 26) [(.r 37)]⟩,
    ⟨none, .mv (some 36) (.r 38)⟩,
    ⟨none, .ext (some 39) (.r 36) 0⟩,
    ⟨none, .ext (some 40) (.r 36) 1⟩,
    ⟨none, .ext (some 41) (.r 36) 2⟩,
    ⟨none, .own 8 39⟩,
    ⟨none, .own 9 40⟩,
    ⟨none, .own 10 41⟩]
def f5_35 : AC := .ops [3, 4, 7, 8, 9, 10, 22, 23, 24] [4] f5_35l
theorem f5_35e : aC P id m f5_35 sf st Q = runI P id m f5_35l (opsK [3, 4, 7, 8, 9, 10, 22, 23, 24] [4] Q) sf st := rfl
def f5_37l : List GI := [⟨none, .load (some 43) (.r 4) (some 2)⟩,
    ⟨none, .call (some 44) false (.f 27) [(.r 43)]⟩,
    ⟨none, .mv (some 42) (.r 44)⟩,
    ⟨none, .ext (some 45) (.r 42) 0⟩,
    ⟨none, .ext (some 46) (.r 42) 1⟩,
    ⟨none, .ext (some 47) (.r 42) 2⟩,
    ⟨none, .own 11 45⟩,
    ⟨none, .own 12 46⟩,
    ⟨none, .own 13 47⟩]
def f5_37 : AC := .ops [3, 4, 7, 8, 9, 10, 11, 12, 13, 22, 23, 24] [4] f5_37l
theorem f5_37e : aC P id m f5_37 sf st Q = runI P id m f5_37l (opsK [3, 4, 7, 8, 9, 10, 11, 12, 13, 22, 23, 24] [4] Q) sf st := rfl
def f5_39h : List GI := [⟨none, .mv (some 48) (.r 7)⟩,
    ⟨none, .un (some 49) .not (.r 48)⟩,
    ⟨none, .mv (some 50) (.r 49)⟩,
    ⟨some (50, false), .mv (some 51) (.r 3)⟩,
    ⟨some (50, false), .call (some 52) true (.f 28) [(.r 51)]⟩,
    ⟨some (50, false), .addr (some 53) (.r 4) 0⟩,
    ⟨some (50, false), .load (some 54) (.r 53) none⟩,
    ⟨some (50, false), .len (some 55) .sl (.r 54)⟩,
    ⟨some (50, false), .bin (some 56) .num .neq (.r 52) (.r 55)⟩,
    ⟨none, .pick (some 57) (.r 50) (.c (.lit (.bool true))) (.r 56)⟩,
    ⟨none, .mv (some 58) (.r 57)⟩,
    ⟨some (58, false), .mv (some 59) (.r 8)⟩,
    ⟨some (58, false), .mv (some 60) (.r 11)⟩,
    ⟨some (58, false), .bin (some 61) .num .neq (.r 59) (.r 60)⟩,
    ⟨none, .pick (some 62) (.r 58) (.c (.lit (.bool true))) (.r 61)⟩,
    ⟨none, .mv (some 63) (.r 62)⟩,
    ⟨some (63, false), .mv (some 64) (.r 9)⟩,
    ⟨some (63, false), .mv (some 65) (.r 12)⟩,
    ⟨some (63, false), .bin (some 66) .num .neq (.r 64) (.r 65)⟩,
    ⟨none, .pick (some 67) (.r 63) (.c (.lit (.bool true))) (.r 66)⟩,
    ⟨none, .mv (some 68) (.r 67)⟩,
    ⟨some (68, false), .mv (some 69) (.r 10)⟩,
    ⟨some (68, false), .mv (some 70) (.r 13)⟩,
    ⟨some (68, false), .bin (some 71) .num .neq (.r 69) (.r 70)⟩,
    ⟨none, .pick (some 72) (.r 68) (.c (.lit (.bool true))) (.r 71)⟩,
    ⟨none, .mv (some 73) (.r 72)⟩,
    ⟨some (73, false), .mv (some 74) (.r 3)⟩,
    ⟨some (73, false), .addr (some 75) (.r 4) 0⟩,
    ⟨some (73, false), .load (some 76) (.r 75) none⟩]
def f5_39l : List GI := [⟨some (73, false), .call (some 77) false (.f 29) [(.r 74), (.r 76)]⟩,
    ⟨some (73, false), .un (some 78) .not (.r 77)⟩,
    ⟨none, .pick (some 79) (.r 73) (.c (.lit (.bool true))) (.r 78)⟩]
def f5_39 : AC := .draw [3, 4, 22, 23, 24, 79] [4] [] f5_39h f5_39l
theorem f5_39e : aC P id m f5_39 sf st Q = headI P id sf.locs st f5_39h (tailK P id m [] [3, 4, 22, 23, 24, 79] [4] f5_39l Q st) [] ⟨sf.regs, dropL [] sf.locs⟩ := rfl
def f5_42l : List GI := [⟨none, .mv (some 2) (.c (.lit (.bool false)))⟩]
def f5_42 : AC := .ops [2] [] f5_42l
theorem f5_42e : aC P id m f5_42 sf st Q = runI P id m f5_42l (opsK [2] [] Q) sf st := rfl
def f5_41 : AC := .seq f5_42 .ret
theorem f5_41e : aC P id m f5_41 sf st Q = aC P id m f5_42 sf st (seqQ (aC P id m .ret) Q) := rfl
def f5_40 : AC := .cond (.r 79) f5_41 .skip
theorem f5_40e : aC P id m f5_40 sf st Q = condI (.r 79) (sf.ev id (.r 79)) (aC P id m f5_41) (aC P id m .skip) sf st Q := rfl
def f5_38 : AC := .seq f5_39 f5_40
theorem f5_38e : aC P id m f5_38 sf st Q = aC P id m f5_39 sf st (seqQ (aC P id m f5_40) Q) := rfl
def f5_36 : AC := .seq f5_37 f5_38
theorem f5_36e : aC P id m f5_36 sf st Q = aC P id m f5_37 sf st (seqQ (aC P id m f5_38) Q) := rfl
def f5_34 : AC := .seq f5_35 f5_36
theorem f5_34e : aC P id m f5_34 sf st Q = aC P id m f5_35 sf st (seqQ (aC P id m f5_36) Q) := rfl
def f5_32 : AC := .seq f5_33 f5_34
theorem f5_32e : aC P id m f5_32 sf st Q = aC P id m f5_33 sf st (seqQ (aC P id m f5_34) Q) := rfl
def f5_30 : AC := .seq f5_31 f5_32
theorem f5_30e : aC P id m f5_30 sf st Q = aC P id m f5_31 sf st (seqQ (aC P id m f5_32) Q) := rfl
def f5_28 : AC := .seq f5_29 f5_30
theorem f5_28e : aC P id m f5_28 sf st Q = aC P id m f5_29 sf st (seqQ (aC P id m f5_30) Q) := rfl
def f5_27 : AC := .block 1 f5_28
theorem f5_27e : aC P id m f5_27 sf st Q = aC P id m f5_28 sf st (blockQ 1 Q) := rfl
def f5_43l : List GI := [⟨none, .bin (some 80) .num .add (.r 24) (.c (.lit (.int .i64 1)))⟩,
    ⟨none, .mv (some 24) (.r 80)⟩]
def f5_43 : AC := .ops [3, 4, 22, 23, 24] [4] f5_43l
theorem f5_43e : aC P id m f5_43 sf st Q = runI P id m f5_43l (opsK [3, 4, 22, 23, 24] [4] Q) sf st := rfl
def f5_26 : AC := .seq f5_27 f5_43
theorem f5_26e : aC P id m f5_26 sf st Q = aC P id m f5_27 sf st (seqQ (aC P id m f5_43) Q) := rfl
def f5_24 : AC := .seq f5_25 f5_26
theorem f5_24e : aC P id m f5_24 sf st Q = aC P id m f5_25 sf st (seqQ (aC P id m f5_26) Q) := rfl
def f5_22 : AC := .seq f5_23 f5_24
theorem f5_22e : aC P id m f5_22 sf st Q = aC P id m f5_23 sf st (seqQ (aC P id m f5_24) Q) := rfl
def f5_21 : AC := .loop [3, 4, 22, 23, 24] [4] f5_22
theorem f5_21w : aC P id m f5_21 sf st Q = loopI (aC P id m f5_22) [3, 4, 22, 23, 24] [4] sf st Q := rfl
def f5_20 : AC := .block 0 f5_21
theorem f5_20e : aC P id m f5_20 sf st Q = aC P id m f5_21 sf st (blockQ 0 Q) := rfl
def f5_18 : AC := .seq f5_19 f5_20
theorem f5_18e : aC P id m f5_18 sf st Q = aC P id m f5_19 sf st (seqQ (aC P id m f5_20) Q) := rfl
def f5_45l : List GI := [⟨none, .call (some 81) false (.f 23) []⟩,
    ⟨none, .own 2 81⟩]
def f5_45 : AC := .ops [2] [] f5_45l
theorem f5_45e : aC P id m f5_45 sf st Q = runI P id m f5_45l (opsK [2] [] Q) sf st := rfl
def f5_44 : AC := .seq f5_45 .ret
theorem f5_44e : aC P id m f5_44 sf st Q = aC P id m f5_45 sf st (seqQ (aC P id m .ret) Q) := rfl
def f5_17 : AC := .seq f5_18 f5_44
theorem f5_17e : aC P id m f5_17 sf st Q = aC P id m f5_18 sf st (seqQ (aC P id m f5_44) Q) := rfl
def f5_11 : AC := .seq f5_12 f5_17
theorem f5_11e : aC P id m f5_11 sf st Q = aC P id m f5_12 sf st (seqQ (aC P id m f5_17) Q) := rfl
def f5_9 : AC := .seq f5_10 f5_11
theorem f5_9e : aC P id m f5_9 sf st Q = aC P id m f5_10 sf st (seqQ (aC P id m f5_11) Q) := rfl
def f5_3 : AC := .seq f5_4 f5_9
theorem f5_3e : aC P id m f5_3 sf st Q = aC P id m f5_4 sf st (seqQ (aC P id m f5_9) Q) := rfl
def f5_1 : AC := .seq f5_2 f5_3
theorem f5_1e : aC P id m f5_1 sf st Q = aC P id m f5_2 sf st (seqQ (aC P id m f5_3) Q) := rfl
def c_f5 : AFun := ⟨82, [.tmp 2], f5_1⟩
theorem k_f5 : compF Go.Proofs.Try.prog x_f5 5 = some c_f5 := by kernel_rfl
theorem e_f5 : enterB Go.Proofs.Try.prog 5 = true := by kernel_rfl

def n_f6 : Nat := 6
def x_f6 : Cx := ⟨some, id, 102, fun s => ([0, 1, 3, 4, 5, 6, 9, 10, 11, 12, 13, 14, 15, 17, 18, 19, 20, 22, 23, 24, 27, 28, 29, 30, 31, 32, 33, 34, 36, 37, 38, 39, 41, 43, 44, 46, 47, 48, 49, 50, 51, 52, 53, 54, 55, 56, 57, 58, 59, 60, 61, 62, 64, 65, 66, 67, 68, 69, 70, 71, 73, 74, 75, 76, 78, 79, 80, 81, 82, 83, 84, 85, 86, 87, 88, 89, 91, 92, 93, 94, 96, 98, 100, 101] : List Nat).contains s, fun s => ([] : List Nat).contains s, msOf [(2, [0, 3, 4, 46, 47], []), (12, [0, 3, 4, 16, 46, 47], []), (52, [4], []), (14, [0, 3, 4, 5, 6, 46, 47], []), (60, [0, 3, 4, 5, 6, 21, 46, 47], []), (244, [4], []), (124, [3, 4, 5, 6, 22, 23, 24, 46, 47], []), (250, [3, 4, 5, 6, 22, 23, 24, 46, 47], []), (1000, [3, 4, 5, 6, 22, 23, 24, 25, 46, 47], []), (4005, [3, 4, 5, 6, 46, 47], []), (16024, [3, 4, 5, 6, 8, 22, 23, 24, 46, 47], [8]), (16025, [3, 4, 5, 6, 22, 23, 24, 46, 47], []), (4007, [3, 4, 5, 6, 22, 23, 24, 46, 47], []), (126, [3, 4, 5, 6, 9, 46, 47], []), (508, [3, 4, 5, 6, 9, 40, 46, 47], []), (2036, [4], []), (1020, [3, 4, 5, 6, 9, 10, 46, 47], []), (2042, [3, 4, 5, 6, 9, 10, 46, 47], []), (16336, [3, 4, 5, 6, 9, 10, 42, 46, 47], []), (32675, [4], []), (65352, [3, 4, 5, 6, 9, 10, 11, 46, 47], []), (261412, [3, 4, 5, 6, 9, 10, 11, 45, 46, 47], []), (522826, [3, 4, 5, 6, 9, 10, 11, 46, 47], []), (1000522833, [3, 4, 6, 10, 11, 46, 47], []), (2091304, [3, 4, 6, 10, 11, 12, 47], []), (2091305, [3, 4, 6, 10, 11, 12, 13], []), (8365224, [3, 4, 10, 11, 63], []), (33460900, [], []), (8365226, [3, 10, 11], []), (16730454, [72], []), (33460910, [], []), (522828, [3, 4, 5, 6, 9, 10, 46, 47, 95], []), (2091316, [4], []), (522830, [3, 4, 5, 6, 9, 10, 46, 47], []), (522831, [3, 4, 5, 6, 9, 10, 46, 47], []), (65356, [3, 4, 5, 6, 9, 46, 47, 100], []), (65357, [3, 4, 5, 6, 9, 10, 46, 47], []), (32679, [3, 4, 5, 6, 9, 10, 46, 47], []), (1022, [4], [])]⟩
def f6_2l : List GI := [⟨none, .boxB 3 1 (.r 1)⟩,
    ⟨none, .newB 4 [(.lit (.bool false))]⟩]
def f6_2 : AC := .ops [0, 3, 4, 46, 47] [] f6_2l
theorem f6_2e : aC P id m f6_2 sf st Q = runI P id m f6_2l (opsK [0, 3, 4, 46, 47] [] Q) sf st := rfl
def f6_5l : List GI := [⟨none, .mv (some 14) (.r 0)⟩,
    ⟨none, .len (some 15) .sl (.r 14)⟩,
    ⟨none, .bin (some 16) .num .gtr (.r 15) (.c (.lit (.int .i64 60)))⟩]
def f6_5 : AC := .ops [0, 3, 4, 16, 46, 47] [] f6_5l
theorem f6_5e : aC P id m f6_5 sf st Q = runI P id m f6_5l (opsK [0, 3, 4, 16, 46, 47] [] Q) sf st := rfl
def f6_8l : List GI := [⟨none, .call (some 17) false (.f 23) []⟩,
    ⟨none, .store 1 (.r 4) (.r 17)⟩]
def f6_8 : AC := .ops [4] [] f6_8l
theorem f6_8e : aC P id m f6_8 sf st Q = runI P id m f6_8l (opsK [4] [] Q) sf st := rfl
def f6_7 : AC := .seq f6_8 .ret
theorem f6_7e : aC P id m f6_7 sf st Q = aC P id m f6_8 sf st (seqQ (aC P id m .ret) Q) := rfl
def f6_6 : AC := .cond (.r 16) f6_7 .skip
theorem f6_6e : aC P id m f6_6 sf st Q = condI (.r 16) (sf.ev id (.r 16)) (aC P id m f6_7) (aC P id m .skip) sf st Q := rfl
def f6_4 : AC := .seq f6_5 f6_6
theorem f6_4e : aC P id m f6_4 sf st Q = aC P id m f6_5 sf st (seqQ (aC P id m f6_6) Q) := rfl
def f6_10l : List GI := [⟨none, .call (some 18) false (.f 24) []⟩,
    ⟨none, .bst (some 19) [(0, 1), (1, 1)] (.agg [(.lit (.slice none 0 0)), (.lit (.int .u64 0))]) []⟩,
    ⟨none, .newB 6 [(.lit (.slice none 0 0)), (.lit (.int .u64 0))]⟩,
    ⟨none, .own 5 18⟩,
    ⟨none, .store 2 (.r 6) (.r 19)⟩]
def f6_10 : AC := .ops [0, 3, 4, 5, 6, 46, 47] [] f6_10l
theorem f6_10e : aC P id m f6_10 sf st Q = runI P id m f6_10l (opsK [0, 3, 4, 5, 6, 46, 47] [] Q) sf st := rfl
def f6_13l : List GI := [⟨none, .mv (some 20) (.r 5)⟩,
    ⟨none, .bin (some 21) (.nil .ptr) .eql (.r 20) (.c (.lit (.pointer none)))⟩]
def f6_13 : AC := .ops [0, 3, 4, 5, 6, 21, 46, 47] [] f6_13l
theorem f6_13e : aC P id m f6_13 sf st Q = runI P id m f6_13l (opsK [0, 3, 4, 5, 6, 21, 46, 47] [] Q) sf st := rfl
def f6_16l : List GI := [⟨none, .store 1 (.r 4) (.c (.lit (.bool false)))⟩]
def f6_16 : AC := .ops [4] [] f6_16l
theorem f6_16e : aC P id m f6_16 sf st Q = runI P id m f6_16l (opsK [4] [] Q) sf st := rfl
def f6_15 : AC := .seq f6_16 .ret
theorem f6_15e : aC P id m f6_15 sf st Q = aC P id m f6_16 sf st (seqQ (aC P id m .ret) Q) := rfl
def f6_14 : AC := .cond (.r 21) f6_15 .skip
theorem f6_14e : aC P id m f6_14 sf st Q = condI (.r 21) (sf.ev id (.r 21)) (aC P id m f6_15) (aC P id m .skip) sf st Q := rfl
def f6_12 : AC := .seq f6_13 f6_14
theorem f6_12e : aC P id m f6_12 sf st Q = aC P id m f6_13 sf st (seqQ (aC P id m f6_14) Q) := rfl
def f6_19l : List GI := [⟨none, .mv (some 22) (.r 0)⟩,
    ⟨none, .len (some 23) .sl (.r 22)⟩,
    ⟨none, .mv (some 24) (.c (.lit (.int .i64 0)))⟩]
def f6_19 : AC := .ops [3, 4, 5, 6, 22, 23, 24, 46, 47] [] f6_19l
theorem f6_19e : aC P id m f6_19 sf st Q = runI P id m f6_19l (opsK [3, 4, 5, 6, 22, 23, 24, 46, 47] [] Q) sf st := rfl
def f6_23l : List GI := [⟨none, .bin (some 25) .num .lss (.r 24) (.r 23)⟩]
def f6_23 : AC := .ops [3, 4, 5, 6, 22, 23, 24, 25, 46, 47] [] f6_23l
theorem f6_23e : aC P id m f6_23 sf st Q = runI P id m f6_23l (opsK [3, 4, 5, 6, 22, 23, 24, 25, 46, 47] [] Q) sf st := rfl
def f6_25 : AC := .cond (.r 25) .skip (.exit [3, 4, 5, 6, 46, 47] [] 0)
theorem f6_25e : aC P id m f6_25 sf st Q = condI (.r 25) (sf.ev id (.r 25)) (aC P id m .skip) (aC P id m (.exit [3, 4, 5, 6, 46, 47] [] 0)) sf st Q := rfl
def f6_29l : List GI := [⟨none, .ixS (some 26) (.r 22) (.r 24) 3⟩,
    ⟨none, .load (some 27) (.r 26) (some 3)⟩,
    ⟨none, .newL 8 [(.lit (.int .i64 0)), (.lit (.int .i64 0)), (.lit (.int .u64 0))]⟩,
    ⟨none, .store 3 (.r 8) (.r 27)⟩]
def f6_29 : AC := .ops [3, 4, 5, 6, 8, 22, 23, 24, 46, 47] [8] f6_29l
theorem f6_29e : aC P id m f6_29 sf st Q = runI P id m f6_29l (opsK [3, 4, 5, 6, 8, 22, 23, 24, 46, 47] [8] Q) sf st := rfl
def f6_30l : List GI := [⟨none, .mv (some 29) (.r 5)⟩,
    ⟨none, .load (some 30) (.r 6) (some 2)⟩,
    ⟨none, .load (some 31) (.r 8) (some 3)⟩,
    ⟨none, .call (some 32) false (.f 25) [(.r 29), (.r 30), (.r 31)]⟩,
    ⟨none, .mv (some 28) (.r 32)⟩,
    ⟨none, .ext (some 33) (.r 28) 0⟩,
    ⟨none, .ext (some 34) (.r 28) 1⟩,
    ⟨none, .ext (some 35) (.r 28) 2⟩,
    ⟨none, .own 5 33⟩,
    ⟨none, .store 2 (.r 6) (.r 34)⟩]
def f6_30 : AC := .ops [3, 4, 5, 6, 22, 23, 24, 46, 47] [] f6_30l
theorem f6_30e : aC P id m f6_30 sf st Q = runI P id m f6_30l (opsK [3, 4, 5, 6, 22, 23, 24, 46, 47] [] Q) sf st := rfl
def f6_28 : AC := .seq f6_29 f6_30
theorem f6_28e : aC P id m f6_28 sf st Q = aC P id m f6_29 sf st (seqQ (aC P id m f6_30) Q) := rfl
def f6_27 : AC := .block 1 f6_28
theorem f6_27e : aC P id m f6_27 sf st Q = aC P id m f6_28 sf st (blockQ 1 Q) := rfl
def f6_31l : List GI := [⟨none, .bin (some 36) .num .add (.r 24) (.c (.lit (.int .i64 1)))⟩,
    ⟨none, .mv (some 24) (.r 36)⟩]
def f6_31 : AC := .ops [3, 4, 5, 6, 22, 23, 24, 46, 47] [] f6_31l
theorem f6_31e : aC P id m f6_31 sf st Q = runI P id m f6_31l (opsK [3, 4, 5, 6, 22, 23, 24, 46, 47] [] Q) sf st := rfl
def f6_26 : AC := .seq f6_27 f6_31
theorem f6_26e : aC P id m f6_26 sf st Q = aC P id m f6_27 sf st (seqQ (aC P id m f6_31) Q) := rfl
def f6_24 : AC := .seq f6_25 f6_26
theorem f6_24e : aC P id m f6_24 sf st Q = aC P id m f6_25 sf st (seqQ (aC P id m f6_26) Q) := rfl
def f6_22 : AC := .seq f6_23 f6_24
theorem f6_22e : aC P id m f6_22 sf st Q = aC P id m f6_23 sf st (seqQ (aC P id m f6_24) Q) := rfl
def f6_21 : AC := .loop [3, 4, 5, 6, 22, 23, 24, 46, 47] [] f6_22
theorem f6_21w : aC P id m f6_21 sf st Q = loopI (aC P id m f6_22) [3, 4, 5, 6, 22, 23, 24, 46, 47] [] sf st Q := rfl
def f6_20 : AC := .block 0 f6_21
theorem f6_20e : aC P id m f6_20 sf st Q = aC P id m f6_21 sf st (blockQ 0 Q) := rfl
def f6_18 : AC := .seq f6_19 f6_20
theorem f6_18e : aC P id m f6_18 sf st Q = aC P id m f6_19 sf st (seqQ (aC P id m f6_20) Q) := rfl
def f6_33l : List GI := [⟨none, .mv (some 37) (.r 5)⟩,
    ⟨none, .call (some 38) false (.f 30) [(.r 37)]⟩,
    ⟨none, .own 9 38⟩]
def f6_33 : AC := .ops [3, 4, 5, 6, 9, 46, 47] [] f6_33l
theorem f6_33e : aC P id m f6_33 sf st Q = runI P id m f6_33l (opsK [3, 4, 5, 6, 9, 46, 47] [] Q) sf st := rfl
def f6_36l : List GI := [⟨none, .mv (some 39) (.r 9)⟩,
    ⟨none, .bin (some 40) (.nil .fn) .eql (.r 39) (.c (.lit .nilFunc))⟩]
def f6_36 : AC := .ops [3, 4, 5, 6, 9, 40, 46, 47] [] f6_36l
theorem f6_36e : aC P id m f6_36 sf st Q = runI P id m f6_36l (opsK [3, 4, 5, 6, 9, 40, 46, 47] [] Q) sf st := rfl
def f6_39l : List GI := [⟨none, .store 1 (.r 4) (.c (.lit (.bool false)))⟩]
def f6_39 : AC := .ops [4] [] f6_39l
theorem f6_39e : aC P id m f6_39 sf st Q = runI P id m f6_39l (opsK [4] [] Q) sf st := rfl
def f6_38 : AC := .seq f6_39 .ret
theorem f6_38e : aC P id m f6_38 sf st Q = aC P id m f6_39 sf st (seqQ (aC P id m .ret) Q) := rfl
def f6_37 : AC := .cond (.r 40) f6_38 .skip
theorem f6_37e : aC P id m f6_37 sf st Q = condI (.r 40) (sf.ev id (.r 40)) (aC P id m f6_38) (aC P id m .skip) sf st Q := rfl
def f6_35 : AC := .seq f6_36 f6_37
theorem f6_35e : aC P id m f6_35 sf st Q = aC P id m f6_36 sf st (seqQ (aC P id m f6_37) Q) := rfl
def f6_42l : List GI := [⟨none, .newB 10 [(.lit (.int .i64 0))]⟩,
    ⟨none, .store 1 (.r 10) (.c (.lit (.int .i64 0)))⟩]
def f6_42 : AC := .ops [3, 4, 5, 6, 9, 10, 46, 47] [] f6_42l
theorem f6_42e : aC P id m f6_42 sf st Q = runI P id m f6_42l (opsK [3, 4, 5, 6, 9, 10, 46, 47] [] Q) sf st := rfl
def f6_47l : List GI := [⟨none, .load (some 41) (.r 10) none⟩,
    ⟨none, .bin (some 42) .num .lss (.r 41) (.c (.lit (.int .i64 2)))⟩]
def f6_47 : AC := .ops [3, 4, 5, 6, 9, 10, 42, 46, 47] [] f6_47l
theorem f6_47e : aC P id m f6_47 sf st Q = runI P id m f6_47l (opsK [3, 4, 5, 6, 9, 10, 42, 46, 47] [] Q) sf st := rfl
def f6_48 : AC := .cond (.r 42) .skip (.exit [4] [] 2)
theorem f6_48e : aC P id m f6_48 sf st Q = condI (.r 42) (sf.ev id (.r 42)) (aC P id m .skip) (aC P id m (.exit [4] [] 2)) sf st Q := rfl
def f6_46 : AC := .seq f6_47 f6_48
theorem f6_46e : aC P id m f6_46 sf st Q = aC P id m f6_47 sf st (seqQ (aC P id m f6_48) Q) := rfl
def f6_52l : List GI := [⟨none, .newB 11 [(.lit (.int .i64 0))]⟩,
    ⟨none, .store 1 (.r 11) (.c (.lit (.int .i64 0)))⟩]
def f6_52 : AC := .ops [3, 4, 5, 6, 9, 10, 11, 46, 47] [] f6_52l
theorem f6_52e : aC P id m f6_52 sf st Q = runI P id m f6_52l (opsK [3, 4, 5, 6, 9, 10, 11, 46, 47] [] Q) sf st := rfl
def f6_55l : List GI := [⟨none, .mv (some 45) (.r 9)⟩]
def f6_55 : AC := .ops [3, 4, 5, 6, 9, 10, 11, 45, 46, 47] [] f6_55l
theorem f6_55e : aC P id m f6_55 sf st Q = runI P id m f6_55l (opsK [3, 4, 5, 6, 9, 10, 11, 45, 46, 47] [] Q) sf st := rfl
def f6_59l : List GI := [⟨none, .own 12 46⟩]
def f6_59 : AC := .ops [3, 4, 6, 10, 11, 12, 47] [] f6_59l
theorem f6_59e : aC P id m f6_59 sf st Q = runI P id m f6_59l (opsK [3, 4, 6, 10, 11, 12, 47] [] Q) sf st := rfl
def f6_60l : List GI := [⟨none, .own 13 47⟩]
def f6_60 : AC := .ops [3, 4, 6, 10, 11, 12, 13] [] f6_60l
theorem f6_60e : aC P id m f6_60 sf st Q = runI P id m f6_60l (opsK [3, 4, 6, 10, 11, 12, 13] [] Q) sf st := rfl
def f6_58 : AC := .seq f6_59 f6_60
theorem f6_58e : aC P id m f6_58 sf st Q = aC P id m f6_59 sf st (seqQ (aC P id m f6_60) Q) := rfl
def f6_64l : List GI := [⟨none, .load (some 48) (.r 11) none⟩,
    ⟨none, .addr (some 49) (.r 6) 0⟩,
    ⟨none, .load (some 50) (.r 49) none⟩,
    ⟨none, .len (some 51) .sl (.r 50)⟩,
    ⟨none, .bin (some 52) .num .geq (.r 48) (.r 51)⟩,
    ⟨none, .mv (some 53) (.r 52)⟩,
    ⟨some (53, false), .addr (some 54) (.r 6) 0⟩,
    ⟨some (53, false), .load (some 55) (.r 54) none⟩,
    ⟨some (53, false), .load (some 56) (.r 11) none⟩,
    ⟨some (53, false), .ixS (some 57) (.r 55) (.r 56) 2⟩,
    ⟨some (53, false), .load (some 58) (.r 57) (some 2)⟩,
    ⟨some (53, false), .mv (some 59) (.r 13)⟩,
    ⟨some (53, false), .mv (some 60) (.r 12)⟩,
    ⟨some (53, false), .bst (some 61) [(0, 1), (1, 1)] (.agg [(.lit (.int .i64 0)), (.lit (.int .u64 0))]) [(0, (.r 59)), (1, (.r 60))]⟩,
    ⟨some (53, false), .bin (some 62) (.agg (.field 0 1 .int (.field 1 1 .int .tt))) .neq (.r 58) (.r 61)⟩,
    ⟨none, .pick (some 63) (.r 53) (.c (.lit (.bool true))) (.r 62)⟩]
def f6_64 : AC := .ops [3, 4, 10, 11, 63] [] f6_64l
theorem f6_64e : aC P id m f6_64 sf st Q = runI P id m f6_64l (opsK [3, 4, 10, 11, 63] [] Q) sf st := rfl
def f6_67l : List GI := [⟨none, .store 1 (.r 4) (.c (.lit (.bool false)))⟩]
def f6_67 : AC := .ops [] [] f6_67l
theorem f6_67e : aC P id m f6_67 sf st Q = runI P id m f6_67l (opsK [] [] Q) sf st := rfl
def f6_66 : AC := .seq f6_67 .ret
theorem f6_66e : aC P id m f6_66 sf st Q = aC P id m f6_67 sf st (seqQ (aC P id m .ret) Q) := rfl
def f6_65 : AC := .cond (.r 63) f6_66 .skip
theorem f6_65e : aC P id m f6_65 sf st Q = condI (.r 63) (sf.ev id (.r 63)) (aC P id m f6_66) (aC P id m .skip) sf st Q := rfl
def f6_63 : AC := .seq f6_64 f6_65
theorem f6_63e : aC P id m f6_63 sf st Q = aC P id m f6_64 sf st (seqQ (aC P id m f6_65) Q) := rfl
def f6_69l : List GI := [⟨none, .load (some 64) (.r 11) none⟩,
    ⟨none, .bin (some 65) .num .add (.r 64) (.c (.lit (.int .i64 1)))⟩,
    ⟨none, .store 1 (.r 11) (.r 65)⟩]
def f6_69 : AC := .ops [3, 10, 11] [] f6_69l
theorem f6_69e : aC P id m f6_69 sf st Q = runI P id m f6_69l (opsK [3, 10, 11] [] Q) sf st := rfl
def f6_71l : List GI := [⟨none, .load (some 66) (.r 10) none⟩,
    ⟨none, .bin (some 67) .num .eql (.r 66) (.c (.lit (.int .i64 0)))⟩,
    ⟨none, .mv (some 68) (.r 67)⟩,
    ⟨some (68, true), .load (some 69) (.r 11) none⟩,
    ⟨some (68, true), .load (some 70) (.r 3) none⟩,
    ⟨some (68, true), .bin (some 71) .num .geq (.r 69) (.r 70)⟩,
    ⟨none, .pick (some 72) (.r 68) (.r 71) (.c (.lit (.bool false)))⟩]
def f6_71 : AC := .ops [72] [] f6_71l
theorem f6_71e : aC P id m f6_71 sf st Q = runI P id m f6_71l (opsK [72] [] Q) sf st := rfl
def f6_72 : AC := .cond (.r 72) (.exit [] [] 4) .skip
theorem f6_72e : aC P id m f6_72 sf st Q = condI (.r 72) (sf.ev id (.r 72)) (aC P id m (.exit [] [] 4)) (aC P id m .skip) sf st Q := rfl
def f6_70 : AC := .seq f6_71 f6_72
theorem f6_70e : aC P id m f6_70 sf st Q = aC P id m f6_71 sf st (seqQ (aC P id m f6_72) Q) := rfl
def f6_68 : AC := .seq f6_69 f6_70
theorem f6_68e : aC P id m f6_68 sf st Q = aC P id m f6_69 sf st (seqQ (aC P id m f6_70) Q) := rfl
def f6_62 : AC := .seq f6_63 f6_68
theorem f6_62e : aC P id m f6_62 sf st Q = aC P id m f6_63 sf st (seqQ (aC P id m f6_68) Q) := rfl
def f6_61 : AC := .block 5 f6_62
theorem f6_61e : aC P id m f6_61 sf st Q = aC P id m f6_62 sf st (blockQ 5 Q) := rfl
def f6_57 : AC := .rangeF [3, 4, 5, 6, 9, 10, 11, 46, 47] [] (.r 45) [46, 47] [3, 4, 6, 10, 11, 46, 47] f6_58 f6_61
theorem f6_57w : aC P id m f6_57 sf st Q = (m = false ∧ rangeI P (aC P id m f6_58) (aC P id m f6_61) [46, 47] [3, 4, 6, 10, 11, 46, 47] [3, 4, 5, 6, 9, 10, 11, 46, 47] [] (sf.ev id (.r 45)) sf st Q) := rfl
def f6_56 : AC := .block 4 f6_57
theorem f6_56e : aC P id m f6_56 sf st Q = aC P id m f6_57 sf st (blockQ 4 Q) := rfl
def f6_54 : AC := .seq f6_55 f6_56
theorem f6_54e : aC P id m f6_54 sf st Q = aC P id m f6_55 sf st (seqQ (aC P id m f6_56) Q) := rfl
def f6_75l : List GI := [⟨none, .load (some 73) (.r 10) none⟩,
    ⟨none, .bin (some 74) .num .eql (.r 73) (.c (.lit (.int .i64 0)))⟩,
    ⟨none, .mv (some 75) (.r 74)⟩,
    ⟨some (75, true), .load (some 76) (.r 11) none⟩,
    ⟨some (75, true), .addr (some 77) (.r 6) 0⟩,
    ⟨some (75, true), .load (some 78) (.r 77) none⟩,
    ⟨some (75, true), .len (some 79) .sl (.r 78)⟩,
    ⟨some (75, true), .load (some 80) (.r 3) none⟩,
    ⟨some (75, true), .mn (some 81) false (.c (.lit (.int .i64 1))) (.r 80)⟩,
    ⟨some (75, true), .mn (some 82) true (.r 79) (.r 81)⟩,
    ⟨some (75, true), .bin (some 83) .num .neq (.r 76) (.r 82)⟩,
    ⟨none, .pick (some 84) (.r 75) (.r 83) (.c (.lit (.bool false)))⟩,
    ⟨none, .mv (some 85) (.r 84)⟩,
    ⟨some (85, false), .load (some 86) (.r 10) none⟩,
    ⟨some (85, false), .bin (some 87) .num .eql (.r 86) (.c (.lit (.int .i64 1)))⟩,
    ⟨some (85, false), .mv (some 88) (.r 87)⟩,
    ⟨some (88, true), .load (some 89) (.r 11) none⟩,
    ⟨some (88, true), .addr (some 90) (.r 6) 0⟩,
    ⟨some (88, true), .load (some 91) (.r 90) none⟩,
    ⟨some (88, true), .len (some 92) .sl (.r 91)⟩,
    ⟨some (88, true), .bin (some 93) .num .neq (.r 89) (.r 92)⟩,
    ⟨some (85, false), .pick (some 94) (.r 88) (.r 93) (.c (.lit (.bool false)))⟩,
    ⟨none, .pick (some 95) (.r 85) (.c (.lit (.bool true))) (.r 94)⟩]
def f6_75 : AC := .ops [3, 4, 5, 6, 9, 10, 46, 47, 95] [] f6_75l
theorem f6_75e : aC P id m f6_75 sf st Q = runI P id m f6_75l (opsK [3, 4, 5, 6, 9, 10, 46, 47, 95] [] Q) sf st := rfl
def f6_78l : List GI := [⟨none, .store 1 (.r 4) (.c (.lit (.bool false)))⟩]
def f6_78 : AC := .ops [4] [] f6_78l
theorem f6_78e : aC P id m f6_78 sf st Q = runI P id m f6_78l (opsK [4] [] Q) sf st := rfl
def f6_77 : AC := .seq f6_78 .ret
theorem f6_77e : aC P id m f6_77 sf st Q = aC P id m f6_78 sf st (seqQ (aC P id m .ret) Q) := rfl
def f6_76 : AC := .cond (.r 95) f6_77 .skip
theorem f6_76e : aC P id m f6_76 sf st Q = condI (.r 95) (sf.ev id (.r 95)) (aC P id m f6_77) (aC P id m .skip) sf st Q := rfl
def f6_74 : AC := .seq f6_75 f6_76
theorem f6_74e : aC P id m f6_74 sf st Q = aC P id m f6_75 sf st (seqQ (aC P id m f6_76) Q) := rfl
def f6_80l : List GI := [⟨none, .mv (some 96) (.r 5)⟩,
    ⟨none, .call (some 97) false (.f 31) [(.r 96)]⟩]
def f6_80 : AC := .ops [3, 4, 5, 6, 9, 10, 46, 47] [] f6_80l
theorem f6_80e : aC P id m f6_80 sf st Q = runI P id m f6_80l (opsK [3, 4, 5, 6, 9, 10, 46, 47] [] Q) sf st := rfl
def f6_81l : List GI := [⟨none, .mv (some 98) (.r 5)⟩,
    ⟨none, .call (some 99) false (.f 32) [(.r 98), (.c (.lit (.int .i64 99)))]⟩]
def f6_81 : AC := .ops [3, 4, 5, 6, 9, 10, 46, 47] [] f6_81l
theorem f6_81e : aC P id m f6_81 sf st Q = runI P id m f6_81l (opsK [3, 4, 5, 6, 9, 10, 46, 47] [] Q) sf st := rfl
def f6_79 : AC := .seq f6_80 f6_81
theorem f6_79e : aC P id m f6_79 sf st Q = aC P id m f6_80 sf st (seqQ (aC P id m f6_81) Q) := rfl
def f6_73 : AC := .seq f6_74 f6_79
theorem f6_73e : aC P id m f6_73 sf st Q = aC P id m f6_74 sf st (seqQ (aC P id m f6_79) Q) := rfl
def f6_53 : AC := .seq f6_54 f6_73
theorem f6_53e : aC P id m f6_53 sf st Q = aC P id m f6_54 sf st (seqQ (aC P id m f6_73) Q) := rfl
def f6_51 : AC := .seq f6_52 f6_53
theorem f6_51e : aC P id m f6_51 sf st Q = aC P id m f6_52 sf st (seqQ (aC P id m f6_53) Q) := rfl
def f6_50 : AC := .block 3 f6_51
theorem f6_50e : aC P id m f6_50 sf st Q = aC P id m f6_51 sf st (blockQ 3 Q) := rfl
def f6_84l : List GI := [⟨none, .load (some 100) (.r 10) none⟩]
def f6_84 : AC := .ops [3, 4, 5, 6, 9, 46, 47, 100] [] f6_84l
theorem f6_84e : aC P id m f6_84 sf st Q = runI P id m f6_84l (opsK [3, 4, 5, 6, 9, 46, 47, 100] [] Q) sf st := rfl
def f6_85l : List GI := [⟨none, .newB 10 [(.lit (.int .i64 0))]⟩,
    ⟨none, .store 1 (.r 10) (.r 100)⟩]
def f6_85 : AC := .ops [3, 4, 5, 6, 9, 10, 46, 47] [] f6_85l
theorem f6_85e : aC P id m f6_85 sf st Q = runI P id m f6_85l (opsK [3, 4, 5, 6, 9, 10, 46, 47] [] Q) sf st := rfl
def f6_83 : AC := .seq f6_84 f6_85
theorem f6_83e : aC P id m f6_83 sf st Q = aC P id m f6_84 sf st (seqQ (aC P id m f6_85) Q) := rfl
def f6_86l : List GI := [⟨none, .load (some 43) (.r 10) none⟩,
    ⟨none, .bin (some 44) .num .add (.r 43) (.c (.lit (.int .i64 1)))⟩,
    ⟨none, .store 1 (.r 10) (.r 44)⟩]
def f6_86 : AC := .ops [3, 4, 5, 6, 9, 10, 46, 47] [] f6_86l
theorem f6_86e : aC P id m f6_86 sf st Q = runI P id m f6_86l (opsK [3, 4, 5, 6, 9, 10, 46, 47] [] Q) sf st := rfl
def f6_82 : AC := .seq f6_83 f6_86
theorem f6_82e : aC P id m f6_82 sf st Q = aC P id m f6_83 sf st (seqQ (aC P id m f6_86) Q) := rfl
def f6_49 : AC := .seq f6_50 f6_82
theorem f6_49e : aC P id m f6_49 sf st Q = aC P id m f6_50 sf st (seqQ (aC P id m f6_82) Q) := rfl
def f6_45 : AC := .seq f6_46 f6_49
theorem f6_45e : aC P id m f6_45 sf st Q = aC P id m f6_46 sf st (seqQ (aC P id m f6_49) Q) := rfl
def f6_44 : AC := .loop [3, 4, 5, 6, 9, 10, 46, 47] [] f6_45
theorem f6_44w : aC P id m f6_44 sf st Q = loopI (aC P id m f6_45) [3, 4, 5, 6, 9, 10, 46, 47] [] sf st Q := rfl
def f6_43 : AC := .block 2 f6_44
theorem f6_43e : aC P id m f6_43 sf st Q = aC P id m f6_44 sf st (blockQ 2 Q) := rfl
def f6_41 : AC := .seq f6_42 f6_43
theorem f6_41e : aC P id m f6_41 sf st Q = aC P id m f6_42 sf st (seqQ (aC P id m f6_43) Q) := rfl
def f6_88l : List GI := [⟨none, .call (some 101) false (.f 23) []⟩,
    ⟨none, .store 1 (.r 4) (.r 101)⟩]
def f6_88 : AC := .ops [4] [] f6_88l
theorem f6_88e : aC P id m f6_88 sf st Q = runI P id m f6_88l (opsK [4] [] Q) sf st := rfl
def f6_87 : AC := .seq f6_88 .ret
theorem f6_87e : aC P id m f6_87 sf st Q = aC P id m f6_88 sf st (seqQ (aC P id m .ret) Q) := rfl
def f6_40 : AC := .seq f6_41 f6_87
theorem f6_40e : aC P id m f6_40 sf st Q = aC P id m f6_41 sf st (seqQ (aC P id m f6_87) Q) := rfl
def f6_34 : AC := .seq f6_35 f6_40
theorem f6_34e : aC P id m f6_34 sf st Q = aC P id m f6_35 sf st (seqQ (aC P id m f6_40) Q) := rfl
def f6_32 : AC := .seq f6_33 f6_34
theorem f6_32e : aC P id m f6_32 sf st Q = aC P id m f6_33 sf st (seqQ (aC P id m f6_34) Q) := rfl
def f6_17 : AC := .seq f6_18 f6_32
theorem f6_17e : aC P id m f6_17 sf st Q = aC P id m f6_18 sf st (seqQ (aC P id m f6_32) Q) := rfl
def f6_11 : AC := .seq f6_12 f6_17
theorem f6_11e : aC P id m f6_11 sf st Q = aC P id m f6_12 sf st (seqQ (aC P id m f6_17) Q) := rfl
def f6_9 : AC := .seq f6_10 f6_11
theorem f6_9e : aC P id m f6_9 sf st Q = aC P id m f6_10 sf st (seqQ (aC P id m f6_11) Q) := rfl
def f6_3 : AC := .seq f6_4 f6_9
theorem f6_3e : aC P id m f6_3 sf st Q = aC P id m f6_4 sf st (seqQ (aC P id m f6_9) Q) := rfl
def f6_1 : AC := .seq f6_2 f6_3
theorem f6_1e : aC P id m f6_1 sf st Q = aC P id m f6_2 sf st (seqQ (aC P id m f6_3) Q) := rfl
def c_f6 : AFun := ⟨102, [.cell 4 none], f6_1⟩
theorem k_f6 : compF Go.Proofs.Try.prog x_f6 6 = some c_f6 := by kernel_rfl
theorem e_f6 : enterB Go.Proofs.Try.prog 6 = true := by kernel_rfl

def n_f7 : Nat := 7
def x_f7 : Cx := ⟨some, id, 93, fun s => ([0, 1, 4, 5, 6, 7, 8, 9, 10, 11, 12, 13, 14, 15, 16, 17, 18, 19, 20, 21, 22, 24, 25, 26, 28, 29, 31, 32, 33, 34, 35, 36, 37, 38, 39, 40, 41, 42, 43, 44, 45, 46, 47, 48, 49, 50, 51, 52, 53, 54, 55, 56, 57, 58, 59, 60, 61, 63, 64, 66, 67, 68, 69, 70, 71, 72, 74, 75, 76, 77, 78, 79, 80, 81, 82, 83, 84, 85, 86, 87, 88, 89, 90, 91, 92] : List Nat).contains s, fun s => ([] : List Nat).contains s, msOf [(2, [0, 1], []), (12, [0, 1, 23], []), (52, [4], []), (14, [0, 1, 5], []), (60, [0, 1, 5, 27], []), (244, [4], []), (124, [0, 1, 5, 6], []), (250, [0, 1, 5, 6], []), (2000, [0, 1, 5, 6, 30], []), (4003, [0, 1, 5], []), (8008, [0, 1, 5, 6, 7, 8], []), (16018, [0, 1, 5, 6, 62], []), (64076, [4], []), (2003, [0, 1, 5, 6], []), (252, [0, 1, 5, 9], []), (506, [0, 1, 5, 9], []), (4048, [0, 1, 5, 9, 65], []), (8099, [0, 1, 5], []), (16200, [0, 1, 5, 9, 73], []), (64804, [4], []), (4051, [0, 1, 5, 9], []), (254, [4], [])]⟩
def f7_2l : List GI := [⟨none, .mv (some 4) (.c (.lit (.bool false)))⟩]
def f7_2 : AC := .ops [0, 1] [] f7_2l
theorem f7_2e : aC P id m f7_2 sf st Q = runI P id m f7_2l (opsK [0, 1] [] Q) sf st := rfl
def f7_5l : List GI := [⟨none, .mv (some 10) (.r 0)⟩,
    ⟨none, .bin (some 11) .num .lss (.r 10) (.c (.lit (.int .i64 4090)))⟩,
    ⟨none, .mv (some 12) (.r 11)⟩,
    ⟨some (12, false), .mv (some 13) (.r 0)⟩,
    ⟨some (12, false), .bin (some 14) .num .gtr (.r 13) (.c (.lit (.int .i64 4110)))⟩,
    ⟨none, .pick (some 15) (.r 12) (.c (.lit (.bool true))) (.r 14)⟩,
    ⟨none, .mv (some 16) (.r 15)⟩,
    ⟨some (16, false), .mv (some 17) (.r 1)⟩,
    ⟨some (16, false), .bin (some 18) .num .lss (.r 17) (.c (.lit (.int .i64 1)))⟩,
    ⟨none, .pick (some 19) (.r 16) (.c (.lit (.bool true))) (.r 18)⟩,
    ⟨none, .mv (some 20) (.r 19)⟩,
    ⟨some (20, false), .mv (some 21) (.r 1)⟩,
    ⟨some (20, false), .bin (some 22) .num .gtr (.r 21) (.c (.lit (.int .i64 9)))⟩,
    ⟨none, .pick (some 23) (.r 20) (.c (.lit (.bool true))) (.r 22)⟩]
def f7_5 : AC := .ops [0, 1, 23] [] f7_5l
theorem f7_5e : aC P id m f7_5 sf st Q = runI P id m f7_5l (opsK [0, 1, 23] [] Q) sf st := rfl
def f7_8l : List GI := [⟨none, .call (some 24) false (.f 23) []⟩,
    ⟨none, .own 4 24⟩]
def f7_8 : AC := .ops [4] [] f7_8l
theorem f7_8e : aC P id m f7_8 sf st Q = runI P id m f7_8l (opsK [4] [] Q) sf st := rfl
def f7_7 : AC := .seq f7_8 .ret
theorem f7_7e : aC P id m f7_7 sf st Q = aC P id m f7_8 sf st (seqQ (aC P id m .ret) Q) := rfl
def f7_6 : AC := .cond (.r 23) f7_7 .skip
theorem f7_6e : aC P id m f7_6 sf st Q = condI (.r 23) (sf.ev id (.r 23)) (aC P id m f7_7) (aC P id m .skip) sf st Q := rfl
def f7_4 : AC := .seq f7_5 f7_6
theorem f7_4e : aC P id m f7_4 sf st Q = aC P id m f7_5 sf st (seqQ (aC P id m f7_6) Q) := rfl
def f7_10l : List GI := [⟨none, .call (some 25) false (.f 24) []⟩,
    ⟨none, .own 5 25⟩]
def f7_10 : AC := .ops [0, 1, 5] [] f7_10l
theorem f7_10e : aC P id m f7_10 sf st Q = runI P id m f7_10l (opsK [0, 1, 5] [] Q) sf st := rfl
def f7_13l : List GI := [⟨none, .mv (some 26) (.r 5)⟩,
    ⟨none, .bin (some 27) (.nil .ptr) .eql (.r 26) (.c (.lit (.pointer none)))⟩]
def f7_13 : AC := .ops [0, 1, 5, 27] [] f7_13l
theorem f7_13e : aC P id m f7_13 sf st Q = runI P id m f7_13l (opsK [0, 1, 5, 27] [] Q) sf st := rfl
def f7_16l : List GI := [⟨none, .mv (some 4) (.c (.lit (.bool false)))⟩]
def f7_16 : AC := .ops [4] [] f7_16l
theorem f7_16e : aC P id m f7_16 sf st Q = runI P id m f7_16l (opsK [4] [] Q) sf st := rfl
def f7_15 : AC := .seq f7_16 .ret
theorem f7_15e : aC P id m f7_15 sf st Q = aC P id m f7_16 sf st (seqQ (aC P id m .ret) Q) := rfl
def f7_14 : AC := .cond (.r 27) f7_15 .skip
theorem f7_14e : aC P id m f7_14 sf st Q = condI (.r 27) (sf.ev id (.r 27)) (aC P id m f7_15) (aC P id m .skip) sf st Q := rfl
def f7_12 : AC := .seq f7_13 f7_14
theorem f7_12e : aC P id m f7_12 sf st Q = aC P id m f7_13 sf st (seqQ (aC P id m f7_14) Q) := rfl
def f7_19l : List GI := [⟨none, .mv (some 6) (.c (.lit (.int .i64 1)))⟩]
def f7_19 : AC := .ops [0, 1, 5, 6] [] f7_19l
theorem f7_19e : aC P id m f7_19 sf st Q = runI P id m f7_19l (opsK [0, 1, 5, 6] [] Q) sf st := rfl
def f7_24l : List GI := [⟨none, .mv (some 28) (.r 6)⟩,
    ⟨none, .mv (some 29) (.r 0)⟩,
    ⟨none, .bin (some 30) .num .leq (.r 28) (.r 29)⟩]
def f7_24 : AC := .ops [0, 1, 5, 6, 30] [] f7_24l
theorem f7_24e : aC P id m f7_24 sf st Q = runI P id m f7_24l (opsK [0, 1, 5, 6, 30] [] Q) sf st := rfl
def f7_25 : AC := .cond (.r 30) .skip (.exit [0, 1, 5] [] 0)
theorem f7_25e : aC P id m f7_25 sf st Q = condI (.r 30) (sf.ev id (.r 30)) (aC P id m .skip) (aC P id m (.exit [0, 1, 5] [] 0)) sf st Q := rfl
def f7_23 : AC := .seq f7_24 f7_25
theorem f7_23e : aC P id m f7_23 sf st Q = aC P id m f7_24 sf st (seqQ (aC P id m f7_25) Q) := rfl
def f7_29l : List GI := [⟨none, .mv (some 34) (.r 5)⟩,
    ⟨none, .mv (some 35) (.r 6)⟩,
    ⟨none, .call (some 36) false (.f 32) [(.r 34), (.r 35)]⟩,
    ⟨none, .mv (some 33) (.r 36)⟩,
    ⟨none, .ext (some 37) (.r 33) 0⟩,
    ⟨none, .ext (some 38) (.r 33) 1⟩,
    ⟨none, .own 7 37⟩,
    ⟨none, .own 8 38⟩]
def f7_29 : AC := .ops [0, 1, 5, 6, 7, 8] [] f7_29l
theorem f7_29e : aC P id m f7_29 sf st Q = runI P id m f7_29l (opsK [0, 1, 5, 6, 7, 8] [] Q) sf st := rfl
def f7_31l : List GI := [⟨none, .mv (some 39) (.r 6)⟩,
    ⟨none, .bin (some 40) .num .leq (.r 39) (.c (.lit (.int .i64 4096)))⟩,
    ⟨none, .mv (some 41) (.r 40)⟩,
    ⟨some (41, true), .mv (some 42) (.r 7)⟩,
    ⟨some (41, true), .mv (some 43) (.r 6)⟩,
    ⟨some (41, true), .conv (some 44) (.int .u64) (.r 43)⟩,
    ⟨some (41, true), .bin (some 45) .num .neq (.r 42) (.r 44)⟩,
    ⟨some (41, true), .mv (some 46) (.r 45)⟩,
    ⟨some (46, false), .mv (some 47) (.r 8)⟩,
    ⟨some (46, false), .bin (some 48) .num .neq (.r 47) (.c (.lit (.int .i64 0)))⟩,
    ⟨some (41, true), .pick (some 49) (.r 46) (.c (.lit (.bool true))) (.r 48)⟩,
    ⟨none, .pick (some 50) (.r 41) (.r 49) (.c (.lit (.bool false)))⟩,
    ⟨none, .mv (some 51) (.r 50)⟩,
    ⟨some (51, false), .mv (some 52) (.r 6)⟩,
    ⟨some (51, false), .bin (some 53) .num .gtr (.r 52) (.c (.lit (.int .i64 4096)))⟩,
    ⟨some (51, false), .mv (some 54) (.r 53)⟩,
    ⟨some (54, true), .mv (some 55) (.r 7)⟩,
    ⟨some (54, true), .bin (some 56) .num .neq (.r 55) (.c (.lit (.int .u64 0)))⟩,
    ⟨some (54, true), .mv (some 57) (.r 56)⟩,
    ⟨some (57, false), .mv (some 58) (.r 8)⟩,
    ⟨some (57, false), .bin (some 59) .num .neq (.r 58) (.c (.lit (.int .i64 7)))⟩,
    ⟨some (54, true), .pick (some 60) (.r 57) (.c (.lit (.bool true))) (.r 59)⟩,
    ⟨some (51, false), .pick (some 61) (.r 54) (.r 60) (.c (.lit (.bool false)))⟩,
    ⟨none, .pick (some 62) (.r 51) (.c (.lit (.bool true))) (.r 61)⟩]
def f7_31 : AC := .ops [0, 1, 5, 6, 62] [] f7_31l
theorem f7_31e : aC P id m f7_31 sf st Q = runI P id m f7_31l (opsK [0, 1, 5, 6, 62] [] Q) sf st := rfl
def f7_34l : List GI := [⟨none, .mv (some 4) (.c (.lit (.bool false)))⟩]
def f7_34 : AC := .ops [4] [] f7_34l
theorem f7_34e : aC P id m f7_34 sf st Q = runI P id m f7_34l (opsK [4] [] Q) sf st := rfl
def f7_33 : AC := .seq f7_34 .ret
theorem f7_33e : aC P id m f7_33 sf st Q = aC P id m f7_34 sf st (seqQ (aC P id m .ret) Q) := rfl
def f7_32 : AC := .cond (.r 62) f7_33 .skip
theorem f7_32e : aC P id m f7_32 sf st Q = condI (.r 62) (sf.ev id (.r 62)) (aC P id m f7_33) (aC P id m .skip) sf st Q := rfl
def f7_30 : AC := .seq f7_31 f7_32
theorem f7_30e : aC P id m f7_30 sf st Q = aC P id m f7_31 sf st (seqQ (aC P id m f7_32) Q) := rfl
def f7_28 : AC := .seq f7_29 f7_30
theorem f7_28e : aC P id m f7_28 sf st Q = aC P id m f7_29 sf st (seqQ (aC P id m f7_30) Q) := rfl
def f7_27 : AC := .block 1 f7_28
theorem f7_27e : aC P id m f7_27 sf st Q = aC P id m f7_28 sf st (blockQ 1 Q) := rfl
def f7_35l : List GI := [⟨none, .mv (some 31) (.r 6)⟩,
    ⟨none, .bin (some 32) .num .add (.r 31) (.c (.lit (.int .i64 1)))⟩,
    ⟨none, .own 6 32⟩]
def f7_35 : AC := .ops [0, 1, 5, 6] [] f7_35l
theorem f7_35e : aC P id m f7_35 sf st Q = runI P id m f7_35l (opsK [0, 1, 5, 6] [] Q) sf st := rfl
def f7_26 : AC := .seq f7_27 f7_35
theorem f7_26e : aC P id m f7_26 sf st Q = aC P id m f7_27 sf st (seqQ (aC P id m f7_35) Q) := rfl
def f7_22 : AC := .seq f7_23 f7_26
theorem f7_22e : aC P id m f7_22 sf st Q = aC P id m f7_23 sf st (seqQ (aC P id m f7_26) Q) := rfl
def f7_21 : AC := .loop [0, 1, 5, 6] [] f7_22
theorem f7_21w : aC P id m f7_21 sf st Q = loopI (aC P id m f7_22) [0, 1, 5, 6] [] sf st Q := rfl
def f7_20 : AC := .block 0 f7_21
theorem f7_20e : aC P id m f7_20 sf st Q = aC P id m f7_21 sf st (blockQ 0 Q) := rfl
def f7_18 : AC := .seq f7_19 f7_20
theorem f7_18e : aC P id m f7_18 sf st Q = aC P id m f7_19 sf st (seqQ (aC P id m f7_20) Q) := rfl
def f7_38l : List GI := [⟨none, .mv (some 9) (.c (.lit (.int .i64 1)))⟩]
def f7_38 : AC := .ops [0, 1, 5, 9] [] f7_38l
theorem f7_38e : aC P id m f7_38 sf st Q = runI P id m f7_38l (opsK [0, 1, 5, 9] [] Q) sf st := rfl
def f7_43l : List GI := [⟨none, .mv (some 63) (.r 9)⟩,
    ⟨none, .mv (some 64) (.r 1)⟩,
    ⟨none, .bin (some 65) .num .leq (.r 63) (.r 64)⟩]
def f7_43 : AC := .ops [0, 1, 5, 9, 65] [] f7_43l
theorem f7_43e : aC P id m f7_43 sf st Q = runI P id m f7_43l (opsK [0, 1, 5, 9, 65] [] Q) sf st := rfl
def f7_44 : AC := .cond (.r 65) .skip (.exit [0, 1, 5] [] 2)
theorem f7_44e : aC P id m f7_44 sf st Q = condI (.r 65) (sf.ev id (.r 65)) (aC P id m .skip) (aC P id m (.exit [0, 1, 5] [] 2)) sf st Q := rfl
def f7_42 : AC := .seq f7_43 f7_44
theorem f7_42e : aC P id m f7_42 sf st Q = aC P id m f7_43 sf st (seqQ (aC P id m f7_44) Q) := rfl
def f7_48l : List GI := [⟨none, .mv (some 68) (.r 5)⟩,
    ⟨none, .mv (some 69) (.r 9)⟩,
    ⟨none, .mv (some 70) (.r 9)⟩,
    ⟨none, .conv (some 71) (.int .u64) (.r 70)⟩,
    ⟨none, .call (some 72) false (.f 33) [(.r 68), (.r 69), (.r 71)]⟩,
    ⟨none, .un (some 73) .not (.r 72)⟩]
def f7_48 : AC := .ops [0, 1, 5, 9, 73] [] f7_48l
theorem f7_48e : aC P id m f7_48 sf st Q = runI P id m f7_48l (opsK [0, 1, 5, 9, 73] [] Q) sf st := rfl
def f7_51l : List GI := [⟨none, .mv (some 4) (.c (.lit (.bool false)))⟩]
def f7_51 : AC := .ops [4] [] f7_51l
theorem f7_51e : aC P id m f7_51 sf st Q = runI P id m f7_51l (opsK [4] [] Q) sf st := rfl
def f7_50 : AC := .seq f7_51 .ret
theorem f7_50e : aC P id m f7_50 sf st Q = aC P id m f7_51 sf st (seqQ (aC P id m .ret) Q) := rfl
def f7_49 : AC := .cond (.r 73) f7_50 .skip
theorem f7_49e : aC P id m f7_49 sf st Q = condI (.r 73) (sf.ev id (.r 73)) (aC P id m f7_50) (aC P id m .skip) sf st Q := rfl
def f7_47 : AC := .seq f7_48 f7_49
theorem f7_47e : aC P id m f7_47 sf st Q = aC P id m f7_48 sf st (seqQ (aC P id m f7_49) Q) := rfl
def f7_46 : AC := .block 3 f7_47
theorem f7_46e : aC P id m f7_46 sf st Q = aC P id m f7_47 sf st (blockQ 3 Q) := rfl
def f7_52l : List GI := [⟨none, .mv (some 66) (.r 9)⟩,
    ⟨none, .bin (some 67) .num .add (.r 66) (.c (.lit (.int .i64 1)))⟩,
    ⟨none, .own 9 67⟩]
def f7_52 : AC := .ops [0, 1, 5, 9] [] f7_52l
theorem f7_52e : aC P id m f7_52 sf st Q = runI P id m f7_52l (opsK [0, 1, 5, 9] [] Q) sf st := rfl
def f7_45 : AC := .seq f7_46 f7_52
theorem f7_45e : aC P id m f7_45 sf st Q = aC P id m f7_46 sf st (seqQ (aC P id m f7_52) Q) := rfl
def f7_41 : AC := .seq f7_42 f7_45
theorem f7_41e : aC P id m f7_41 sf st Q = aC P id m f7_42 sf st (seqQ (aC P id m f7_45) Q) := rfl
def f7_40 : AC := .loop [0, 1, 5, 9] [] f7_41
theorem f7_40w : aC P id m f7_40 sf st Q = loopI (aC P id m f7_41) [0, 1, 5, 9] [] sf st Q := rfl
def f7_39 : AC := .block 2 f7_40
theorem f7_39e : aC P id m f7_39 sf st Q = aC P id m f7_40 sf st (blockQ 2 Q) := rfl
def f7_37 : AC := .seq f7_38 f7_39
theorem f7_37e : aC P id m f7_37 sf st Q = aC P id m f7_38 sf st (seqQ (aC P id m f7_39) Q) := rfl
def f7_54l : List GI := [⟨none, .mv (some 74) (.r 5)⟩,
    ⟨none, .mv (some 75) (.r 0)⟩,
    ⟨none, .mn (some 76) true (.r 75) (.c (.lit (.int .i64 4096)))⟩,
    ⟨none, .bin (some 77) .num .add (.r 76) (.c (.lit (.int .i64 1)))⟩,
    ⟨none, .conv (some 78) (.int .u64) (.r 77)⟩,
    ⟨none, .call (some 79) false (.f 34) [(.r 74), (.c (.lit (.int .i64 5))), (.r 78)]⟩,
    ⟨none, .mv (some 80) (.r 79)⟩,
    ⟨some (80, true), .mv (some 81) (.r 5)⟩,
    ⟨some (80, true), .call (some 82) false (.f 28) [(.r 81)]⟩,
    ⟨some (80, true), .mv (some 83) (.r 0)⟩,
    ⟨some (80, true), .mn (some 84) true (.r 83) (.c (.lit (.int .i64 4096)))⟩,
    ⟨some (80, true), .mv (some 85) (.r 1)⟩,
    ⟨some (80, true), .bin (some 86) .num .sub (.r 84) (.r 85)⟩,
    ⟨some (80, true), .bin (some 87) .num .add (.r 86) (.c (.lit (.int .i64 1)))⟩,
    ⟨some (80, true), .bin (some 88) .num .eql (.r 82) (.r 87)⟩,
    ⟨none, .pick (some 89) (.r 80) (.r 88) (.c (.lit (.bool false)))⟩,
    ⟨none, .mv (some 90) (.r 89)⟩,
    ⟨some (90, true), .call (some 91) false (.f 23) []⟩,
    ⟨none, .pick (some 92) (.r 90) (.r 91) (.c (.lit (.bool false)))⟩,
    ⟨none, .own 4 92⟩]
def f7_54 : AC := .ops [4] [] f7_54l
theorem f7_54e : aC P id m f7_54 sf st Q = runI P id m f7_54l (opsK [4] [] Q) sf st := rfl
def f7_53 : AC := .seq f7_54 .ret
theorem f7_53e : aC P id m f7_53 sf st Q = aC P id m f7_54 sf st (seqQ (aC P id m .ret) Q) := rfl
def f7_36 : AC := .seq f7_37 f7_53
theorem f7_36e : aC P id m f7_36 sf st Q = aC P id m f7_37 sf st (seqQ (aC P id m f7_53) Q) := rfl
def f7_17 : AC := .seq f7_18 f7_36
theorem f7_17e : aC P id m f7_17 sf st Q = aC P id m f7_18 sf st (seqQ (aC P id m f7_36) Q) := rfl
def f7_11 : AC := .seq f7_12 f7_17
theorem f7_11e : aC P id m f7_11 sf st Q = aC P id m f7_12 sf st (seqQ (aC P id m f7_17) Q) := rfl
def f7_9 : AC := .seq f7_10 f7_11
theorem f7_9e : aC P id m f7_9 sf st Q = aC P id m f7_10 sf st (seqQ (aC P id m f7_11) Q) := rfl
def f7_3 : AC := .seq f7_4 f7_9
theorem f7_3e : aC P id m f7_3 sf st Q = aC P id m f7_4 sf st (seqQ (aC P id m f7_9) Q) := rfl
def f7_1 : AC := .seq f7_2 f7_3
theorem f7_1e : aC P id m f7_1 sf st Q = aC P id m f7_2 sf st (seqQ (aC P id m f7_3) Q) := rfl
def c_f7 : AFun := ⟨93, [.tmp 4], f7_1⟩
theorem k_f7 : compF Go.Proofs.Try.prog x_f7 7 = some c_f7 := by kernel_rfl
theorem e_f7 : enterB Go.Proofs.Try.prog 7 = true := by kernel_rfl

def n_f8 : Nat := 8
def x_f8 : Cx := ⟨some, id, 122, fun s => ([0, 1, 4, 5, 7, 8, 9, 10, 11, 12, 13, 14, 15, 16, 17, 18, 19, 20, 21, 22, 23, 24, 25, 28, 29, 30, 31, 32, 33, 34, 35, 36, 37, 38, 39, 40, 41, 42, 43, 44, 45, 46, 47, 48, 49, 50, 51, 52, 53, 54, 55, 56, 57, 58, 59, 60, 61, 62, 63, 64, 65, 66, 67, 68, 69, 70, 71, 72, 73, 74, 75, 76, 77, 78, 79, 80, 81, 82, 83, 84, 85, 86, 87, 88, 89, 90, 91, 92, 93, 94, 95, 96, 97, 98, 99, 100, 101, 102, 103, 104, 105, 106, 107, 108, 109, 110, 111, 112, 113, 114, 115, 116, 117, 118, 120, 121] : List Nat).contains s, fun s => ([] : List Nat).contains s, msOf [(2, [0, 1], []), (6, [0, 1, 5], []), (28, [0, 1, 23, 24, 25], []), (58, [0, 1, 23, 24, 25], []), (232, [0, 1, 23, 24, 25, 26], []), (933, [], []), (3736, [0, 1, 7, 23, 24, 25], []), (7474, [0, 1, 7, 8, 9, 23, 24, 25], []), (14950, [0, 1, 7, 8, 9, 10, 11, 12, 23, 24, 25], []), (29902, [0, 1, 7, 8, 9, 10, 11, 12, 13, 14, 15, 23, 24, 25], []), (59806, [0, 1, 7, 8, 9, 10, 11, 12, 13, 14, 15, 16, 17, 23, 24, 25], []), (119614, [0, 1, 7, 8, 9, 10, 11, 12, 13, 14, 15, 16, 17, 18, 19, 23, 24, 25], []), (239230, [0, 1, 23, 24, 25, 119], []), (956924, [4], []), (935, [0, 1, 23, 24, 25], []), (30, [4], [])]⟩
def f8_2l : List GI := [⟨none, .mv (some 4) (.c (.lit (.bool false)))⟩]
def f8_2 : AC := .ops [0, 1] [] f8_2l
theorem f8_2e : aC P id m f8_2 sf st Q = runI P id m f8_2l (opsK [0, 1] [] Q) sf st := rfl
def f8_4l : List GI := [⟨none, .mv (some 5) (.c (.lit (.pointer none)))⟩]
def f8_4 : AC := .ops [0, 1, 5] [] f8_4l
theorem f8_4e : aC P id m f8_4 sf st Q = runI P id m f8_4l (opsK [0, 1, 5] [] Q) sf st := rfl
def f8_7l : List GI := [⟨none, .mv (some 20) (.r 5)⟩,
    ⟨none, .bst (some 21) [(0, 3), (3, 1)] (.agg [(.lit (.int .u64 0)), (.lit (.int .u64 0)), (.lit (.int .u64 0)), (.lit (.map none))]) []⟩,
    ⟨none, .boxB 22 4 (.r 21)⟩,
    ⟨none, .bsl (some 23) 1 2 (.lit (.pointer none)) [(0, (.r 20)), (1, (.r 22))]⟩,
    ⟨none, .len (some 24) .sl (.r 23)⟩,
    ⟨none, .mv (some 25) (.c (.lit (.int .i64 0)))⟩]
def f8_7 : AC := .ops [0, 1, 23, 24, 25] [] f8_7l
theorem f8_7e : aC P id m f8_7 sf st Q = runI P id m f8_7l (opsK [0, 1, 23, 24, 25] [] Q) sf st := rfl
def f8_11l : List GI := [⟨none, .bin (some 26) .num .lss (.r 25) (.r 24)⟩]
def f8_11 : AC := .ops [0, 1, 23, 24, 25, 26] [] f8_11l
theorem f8_11e : aC P id m f8_11 sf st Q = runI P id m f8_11l (opsK [0, 1, 23, 24, 25, 26] [] Q) sf st := rfl
def f8_13 : AC := .cond (.r 26) .skip (.exit [] [] 0)
theorem f8_13e : aC P id m f8_13 sf st Q = condI (.r 26) (sf.ev id (.r 26)) (aC P id m .skip) (aC P id m (.exit [] [] 0)) sf st Q := rfl
def f8_17l : List GI := [⟨none, .ixS (some 27) (.r 23) (.r 25) 1⟩,
    ⟨none, .load (some 28) (.r 27) none⟩,
    ⟨none, .own 7 28⟩]
def f8_17 : AC := .ops [0, 1, 7, 23, 24, 25] [] f8_17l
theorem f8_17e : aC P id m f8_17 sf st Q = runI P id m f8_17l (opsK [0, 1, 7, 23, 24, 25] [] Q) sf st := rfl
def f8_19l : List GI := [⟨none, .mv (some 30) (.r 7)⟩,
    ⟨none, .mv (some 31) (.r 0)⟩,
    ⟨none, .call (some 32) false (.f 32) [(.r 30), (.r 31)]⟩,
    ⟨none, .mv (some 29) (.r 32)⟩,
    ⟨none, .ext (some 33) (.r 29) 0⟩,
    ⟨none, .ext (some 34) (.r 29) 1⟩,
    ⟨none, .own 8 33⟩,
    ⟨none, .own 9 34⟩]
def f8_19 : AC := .ops [0, 1, 7, 8, 9, 23, 24, 25] [] f8_19l
theorem f8_19e : aC P id m f8_19 sf st Q = runI P id m f8_19l (opsK [0, 1, 7, 8, 9, 23, 24, 25] [] Q) sf st := rfl
def f8_21l : List GI := [⟨none, .mv (some 36) (.r 7)⟩,
    ⟨none, .call (some 37) false (.f 31) [(.r 36)]⟩,
    ⟨none, .mv (some 35) (.r 37)⟩,
    ⟨none, .ext (some 38) (.r 35) 0⟩,
    ⟨none, .ext (some 39) (.r 35) 1⟩,
    ⟨none, .ext (some 40) (.r 35) 2⟩,
    ⟨none, .own 10 38⟩,
    ⟨none, .own 11 39⟩,
    ⟨none, .own 12 40⟩]
def f8_21 : AC := .ops [0, 1, 7, 8, 9, 10, 11, 12, 23, 24, 25] [] f8_21l
theorem f8_21e : aC P id m f8_21 sf st Q = runI P id m f8_21l (opsK [0, 1, 7, 8, 9, 10, 11, 12, 23, 24, 25] [] Q) sf st := rfl
def f8_23l : List GI := [⟨none, .mv (some 42) (.r 7)⟩,
    ⟨none, .call (some 43) false (.f 26) [(.r 42)]⟩,
    ⟨none, .mv (some 41) (.r 43)⟩,
    ⟨none, .ext (some 44) (.r 41) 0⟩,
    ⟨none, .ext (some 45) (.r 41) 1⟩,
    ⟨none, .ext (some 46) (.r 41) 2⟩,
    ⟨none, .own 13 44⟩,
    ⟨none, .own 14 45⟩,
    ⟨none, .own 15 46⟩]
def f8_23 : AC := .ops [0, 1, 7, 8, 9, 10, 11, 12, 13, 14, 15, 23, 24, 25] [] f8_23l
theorem f8_23e : aC P id m f8_23 sf st Q = runI P id m f8_23l (opsK [0, 1, 7, 8, 9, 10, 11, 12, 13, 14, 15, 23, 24, 25] [] Q) sf st := rfl
def f8_25l : List GI := [⟨none, .mv (some 48) (.r 7)⟩,
    ⟨none, .mv (some 49) (.r 1)⟩,
    ⟨none, .call (some 50) false (.f 35) [(.r 48), (.r 49)]⟩,
    ⟨none, .mv (some 47) (.r 50)⟩,
    ⟨none, .ext (some 51) (.r 47) 0⟩,
    ⟨none, .ext (some 52) (.r 47) 1⟩,
    ⟨none, .own 16 51⟩,
    ⟨none, .own 17 52⟩]
def f8_25 : AC := .ops [0, 1, 7, 8, 9, 10, 11, 12, 13, 14, 15, 16, 17, 23, 24, 25] [] f8_25l
theorem f8_25e : aC P id m f8_25 sf st Q = runI P id m f8_25l (opsK [0, 1, 7, 8, 9, 10, 11, 12, 13, 14, 15, 16, 17, 23, 24, 25] [] Q) sf st := rfl
def f8_27l : List GI := [⟨none, .mv (some 54) (.r 7)⟩,
    ⟨none, .mv (some 55) (.r 1)⟩,
    ⟨none, .call (some 56) false (.f 36) [(.r 54), (.r 55)]⟩,
    ⟨none, .mv (some 53) (.r 56)⟩,
    ⟨none, .ext (some 57) (.r 53) 0⟩,
    ⟨none, .ext (some 58) (.r 53) 1⟩,
    ⟨none, .own 18 57⟩,
    ⟨none, .own 19 58⟩]
def f8_27 : AC := .ops [0, 1, 7, 8, 9, 10, 11, 12, 13, 14, 15, 16, 17, 18, 19, 23, 24, 25] [] f8_27l
theorem f8_27e : aC P id m f8_27 sf st Q = runI P id m f8_27l (opsK [0, 1, 7, 8, 9, 10, 11, 12, 13, 14, 15, 16, 17, 18, 19, 23, 24, 25] [] Q) sf st := rfl
def f8_29l : List GI := [⟨none, .mv (some 59) (.r 8)⟩,
    ⟨none, .bin (some 60) .num .neq (.r 59) (.c (.lit (.int .u64 0)))⟩,
    ⟨none, .mv (some 61) (.r 60)⟩,
    ⟨some (61, false), .mv (some 62) (.r 9)⟩,
    ⟨some (61, false), .bin (some 63) .num .neq (.r 62) (.c (.lit (.int .i64 1)))⟩,
    ⟨none, .pick (some 64) (.r 61) (.c (.lit (.bool true))) (.r 63)⟩,
    ⟨none, .mv (some 65) (.r 64)⟩,
    ⟨some (65, false), .mv (some 66) (.r 10)⟩,
    ⟨some (65, false), .bin (some 67) .num .neq (.r 66) (.c (.lit (.int .i64 0)))⟩,
    ⟨none, .pick (some 68) (.r 65) (.c (.lit (.bool true))) (.r 67)⟩,
    ⟨none, .mv (some 69) (.r 68)⟩,
    ⟨some (69, false), .mv (some 70) (.r 11)⟩,
    ⟨some (69, false), .bin (some 71) .num .neq (.r 70) (.c (.lit (.int .u64 0)))⟩,
    ⟨none, .pick (some 72) (.r 69) (.c (.lit (.bool true))) (.r 71)⟩,
    ⟨none, .mv (some 73) (.r 72)⟩,
    ⟨some (73, false), .mv (some 74) (.r 12)⟩,
    ⟨some (73, false), .bin (some 75) .num .neq (.r 74) (.c (.lit (.int .i64 1)))⟩,
    ⟨none, .pick (some 76) (.r 73) (.c (.lit (.bool true))) (.r 75)⟩,
    ⟨none, .mv (some 77) (.r 76)⟩,
    ⟨some (77, false), .mv (some 78) (.r 13)⟩,
    ⟨some (77, false), .bin (some 79) .num .neq (.r 78) (.c (.lit (.int .i64 0)))⟩,
    ⟨none, .pick (some 80) (.r 77) (.c (.lit (.bool true))) (.r 79)⟩,
    ⟨none, .mv (some 81) (.r 80)⟩,
    ⟨some (81, false), .mv (some 82) (.r 14)⟩,
    ⟨some (81, false), .bin (some 83) .num .neq (.r 82) (.c (.lit (.int .u64 0)))⟩,
    ⟨none, .pick (some 84) (.r 81) (.c (.lit (.bool true))) (.r 83)⟩,
    ⟨none, .mv (some 85) (.r 84)⟩,
    ⟨some (85, false), .mv (some 86) (.r 15)⟩,
    ⟨some (85, false), .bin (some 87) .num .neq (.r 86) (.c (.lit (.int .i64 1)))⟩,
    ⟨none, .pick (some 88) (.r 85) (.c (.lit (.bool true))) (.r 87)⟩,
    ⟨none, .mv (some 89) (.r 88)⟩,
    ⟨some (89, false), .mv (some 90) (.r 16)⟩,
    ⟨some (89, false), .bin (some 91) .num .neq (.r 90) (.c (.lit (.int .i64 0)))⟩,
    ⟨none, .pick (some 92) (.r 89) (.c (.lit (.bool true))) (.r 91)⟩,
    ⟨none, .mv (some 93) (.r 92)⟩,
    ⟨some (93, false), .mv (some 94) (.r 17)⟩,
    ⟨some (93, false), .bin (some 95) .num .neq (.r 94) (.c (.lit (.int .i64 1)))⟩,
    ⟨none, .pick (some 96) (.r 93) (.c (.lit (.bool true))) (.r 95)⟩,
    ⟨none, .mv (some 97) (.r 96)⟩,
    ⟨some (97, false), .mv (some 98) (.r 18)⟩,
    ⟨some (97, false), .bin (some 99) .num .neq (.r 98) (.c (.lit (.int .i64 0)))⟩,
    ⟨none, .pick (some 100) (.r 97) (.c (.lit (.bool true))) (.r 99)⟩,
    ⟨none, .mv (some 101) (.r 100)⟩,
    ⟨some (101, false), .mv (some 102) (.r 19)⟩,
    ⟨some (101, false), .bin (some 103) .num .neq (.r 102) (.c (.lit (.int .i64 1)))⟩,
    ⟨none, .pick (some 104) (.r 101) (.c (.lit (.bool true))) (.r 103)⟩,
    ⟨none, .mv (some 105) (.r 104)⟩,
    ⟨some (105, false), .mv (some 106) (.r 7)⟩,
    ⟨some (105, false), .call (some 107) false (.f 28) [(.r 106)]⟩,
    ⟨some (105, false), .bin (some 108) .num .neq (.r 107) (.c (.lit (.int .i64 0)))⟩,
    ⟨none, .pick (some 109) (.r 105) (.c (.lit (.bool true))) (.r 108)⟩,
    ⟨none, .mv (some 110) (.r 109)⟩,
    ⟨some (110, false), .mv (some 111) (.r 7)⟩,
    ⟨some (110, false), .call (some 112) false (.f 37) [(.r 111)]⟩,
    ⟨some (110, false), .bin (some 113) (.nil .ptr) .neq (.r 112) (.c (.lit (.pointer none)))⟩,
    ⟨none, .pick (some 114) (.r 110) (.c (.lit (.bool true))) (.r 113)⟩,
    ⟨none, .mv (some 115) (.r 114)⟩,
    ⟨some (115, false), .mv (some 116) (.r 7)⟩,
    ⟨some (115, false), .call (some 117) false (.f 29) [(.r 116), (.c (.lit (.slice none 0 0)))]⟩,
    ⟨some (115, false), .un (some 118) .not (.r 117)⟩,
    ⟨none, .pick (some 119) (.r 115) (.c (.lit (.bool true))) (.r 118)⟩]
def f8_29 : AC := .ops [0, 1, 23, 24, 25, 119] [] f8_29l
theorem f8_29e : aC P id m f8_29 sf st Q = runI P id m f8_29l (opsK [0, 1, 23, 24, 25, 119] [] Q) sf st := rfl
def f8_32l : List GI := [⟨none, .mv (some 4) (.c (.lit (.bool false)))⟩]
def f8_32 : AC := .ops [4] [] f8_32l
theorem f8_32e : aC P id m f8_32 sf st Q = runI P id m f8_32l (opsK [4] [] Q) sf st := rfl
def f8_31 : AC := .seq f8_32 .ret
theorem f8_31e : aC P id m f8_31 sf st Q = aC P id m f8_32 sf st (seqQ (aC P id m .ret) Q) := rfl
def f8_30 : AC := .cond (.r 119) f8_31 .skip
theorem f8_30e : aC P id m f8_30 sf st Q = condI (.r 119) (sf.ev id (.r 119)) (aC P id m f8_31) (aC P id m .skip) sf st Q := rfl
def f8_28 : AC := .seq f8_29 f8_30
theorem f8_28e : aC P id m f8_28 sf st Q = aC P id m f8_29 sf st (seqQ (aC P id m f8_30) Q) := rfl
def f8_26 : AC := .seq f8_27 f8_28
theorem f8_26e : aC P id m f8_26 sf st Q = aC P id m f8_27 sf st (seqQ (aC P id m f8_28) Q) := rfl
def f8_24 : AC := .seq f8_25 f8_26
theorem f8_24e : aC P id m f8_24 sf st Q = aC P id m f8_25 sf st (seqQ (aC P id m f8_26) Q) := rfl
def f8_22 : AC := .seq f8_23 f8_24
theorem f8_22e : aC P id m f8_22 sf st Q = aC P id m f8_23 sf st (seqQ (aC P id m f8_24) Q) := rfl
def f8_20 : AC := .seq f8_21 f8_22
theorem f8_20e : aC P id m f8_20 sf st Q = aC P id m f8_21 sf st (seqQ (aC P id m f8_22) Q) := rfl
def f8_18 : AC := .seq f8_19 f8_20
theorem f8_18e : aC P id m f8_18 sf st Q = aC P id m f8_19 sf st (seqQ (aC P id m f8_20) Q) := rfl
def f8_16 : AC := .seq f8_17 f8_18
theorem f8_16e : aC P id m f8_16 sf st Q = aC P id m f8_17 sf st (seqQ (aC P id m f8_18) Q) := rfl
def f8_15 : AC := .block 1 f8_16
theorem f8_15e : aC P id m f8_15 sf st Q = aC P id m f8_16 sf st (blockQ 1 Q) := rfl
def f8_33l : List GI := [⟨none, .bin (some 120) .num .add (.r 25) (.c (.lit (.int .i64 1)))⟩,
    ⟨none, .mv (some 25) (.r 120)⟩]
def f8_33 : AC := .ops [0, 1, 23, 24, 25] [] f8_33l
theorem f8_33e : aC P id m f8_33 sf st Q = runI P id m f8_33l (opsK [0, 1, 23, 24, 25] [] Q) sf st := rfl
def f8_14 : AC := .seq f8_15 f8_33
theorem f8_14e : aC P id m f8_14 sf st Q = aC P id m f8_15 sf st (seqQ (aC P id m f8_33) Q) := rfl
def f8_12 : AC := .seq f8_13 f8_14
theorem f8_12e : aC P id m f8_12 sf st Q = aC P id m f8_13 sf st (seqQ (aC P id m f8_14) Q) := rfl
def f8_10 : AC := .seq f8_11 f8_12
theorem f8_10e : aC P id m f8_10 sf st Q = aC P id m f8_11 sf st (seqQ (aC P id m f8_12) Q) := rfl
def f8_9 : AC := .loop [0, 1, 23, 24, 25] [] f8_10
theorem f8_9w : aC P id m f8_9 sf st Q = loopI (aC P id m f8_10) [0, 1, 23, 24, 25] [] sf st Q := rfl
def f8_8 : AC := .block 0 f8_9
theorem f8_8e : aC P id m f8_8 sf st Q = aC P id m f8_9 sf st (blockQ 0 Q) := rfl
def f8_6 : AC := .seq f8_7 f8_8
theorem f8_6e : aC P id m f8_6 sf st Q = aC P id m f8_7 sf st (seqQ (aC P id m f8_8) Q) := rfl
def f8_35l : List GI := [⟨none, .call (some 121) false (.f 23) []⟩,
    ⟨none, .own 4 121⟩]
def f8_35 : AC := .ops [4] [] f8_35l
theorem f8_35e : aC P id m f8_35 sf st Q = runI P id m f8_35l (opsK [4] [] Q) sf st := rfl
def f8_34 : AC := .seq f8_35 .ret
theorem f8_34e : aC P id m f8_34 sf st Q = aC P id m f8_35 sf st (seqQ (aC P id m .ret) Q) := rfl
def f8_5 : AC := .seq f8_6 f8_34
theorem f8_5e : aC P id m f8_5 sf st Q = aC P id m f8_6 sf st (seqQ (aC P id m f8_34) Q) := rfl
def f8_3 : AC := .seq f8_4 f8_5
theorem f8_3e : aC P id m f8_3 sf st Q = aC P id m f8_4 sf st (seqQ (aC P id m f8_5) Q) := rfl
def f8_1 : AC := .seq f8_2 f8_3
theorem f8_1e : aC P id m f8_1 sf st Q = aC P id m f8_2 sf st (seqQ (aC P id m f8_3) Q) := rfl
def c_f8 : AFun := ⟨122, [.tmp 4], f8_1⟩
theorem k_f8 : compF Go.Proofs.Try.prog x_f8 8 = some c_f8 := by kernel_rfl
theorem e_f8 : enterB Go.Proofs.Try.prog 8 = true := by kernel_rfl

def n_f9 : Nat := 9
def x_f9 : Cx := ⟨some, id, 161, fun s => ([0, 2, 3, 5, 6, 9, 10, 11, 12, 13, 14, 15, 17, 18, 19, 20, 21, 22, 23, 25, 26, 27, 29, 30, 31, 34, 36, 38, 39, 40, 41, 42, 43, 44, 45, 46, 47, 48, 49, 50, 51, 52, 53, 55, 56, 58, 59, 60, 61, 62, 63, 64, 65, 67, 68, 69, 70, 71, 72, 73, 74, 75, 76, 77, 78, 79, 80, 81, 82, 84, 86, 87, 90, 91, 92, 94, 95, 96, 97, 98, 101, 102, 103, 104, 105, 107, 108, 109, 110, 111, 113, 115, 118, 120, 121, 122, 123, 124, 125, 126, 128, 129, 130, 131, 132, 133, 134, 135, 136, 137, 138, 140, 141, 142, 144, 145, 146, 149, 150, 151, 152, 153, 155, 156, 157, 158, 159, 160] : List Nat).contains s, fun s => ([] : List Nat).contains s, msOf [(2, [0], []), (12, [0, 24], []), (52, [2], []), (14, [0, 3], []), (60, [0, 3, 28], []), (244, [2], []), (62, [0, 3, 4], [4]), (126, [0, 3, 4, 5, 6], [4]), (508, [3, 4, 5, 6, 29, 30, 31], [4]), (1018, [3, 4, 5, 6, 29, 30, 31], [4]), (4072, [3, 4, 5, 6, 29, 30, 31, 32], [4]), (16293, [3, 4, 5], [4]), (65176, [3, 4, 5, 6, 8, 29, 30, 31], [4, 8]), (260708, [3, 4, 5, 6, 8, 29, 30, 31, 36], [4, 8]), (1042836, [3, 4, 5, 6, 8, 29, 30, 31, 36, 37], [4, 8]), (4171348, [3, 4, 5, 6, 9, 10, 29, 30, 31], [4]), (16685396, [3, 4, 5, 6, 29, 30, 31, 54], [4]), (66741588, [2], []), (8342699, [3, 4, 5, 6, 29, 30, 31], [4]), (4171350, [3, 4, 5, 6, 8, 29, 30, 31, 36, 57], [4, 8]), (16685404, [3, 4, 5, 6, 11, 12, 13, 29, 30, 31], [4]), (66741620, [3, 4, 5, 6, 11, 12, 29, 30, 31, 66], [4]), (133483242, [3, 4, 5, 6, 29, 30, 31], [4]), (133483244, [3, 4, 5, 12, 29, 30, 31, 85], [4]), (533932980, [2], []), (66741623, [3, 4, 5, 6, 29, 30, 31], [4]), (16685406, [3, 4, 5, 6, 8, 29, 30, 31, 89], [4, 8]), (66741628, [3, 4, 5, 6, 8, 14, 15, 29, 30, 31], [4, 8]), (266966516, [3, 4, 5, 6, 8, 14, 29, 30, 31, 99], [4, 8]), (533933034, [3, 4, 5, 6, 29, 30, 31], [4]), (533933036, [3, 4, 5, 6, 8, 29, 30, 31, 116], [4, 8]), (2135732148, [2], []), (266966519, [3, 4, 5, 6, 29, 30, 31], [4]), (260710, [3, 4, 5, 6, 17, 18, 29, 30, 31], [4]), (521422, [3, 4, 5, 6, 17, 29, 30, 31, 127], [4]), (2085692, [3, 4, 5, 6, 19, 20, 29, 30, 31], [4]), (4171386, [3, 4, 5, 6, 29, 30, 31, 139], [4]), (16685548, [2], []), (16295, [3, 4, 5, 6, 29, 30, 31], [4]), (1020, [3, 4, 5, 21], [4]), (2042, [3, 4, 5, 21], [4]), (16336, [3, 4, 5, 21, 143], [4]), (32675, [3], []), (130704, [3, 4, 5, 21, 148], [4]), (261410, [3, 4, 5, 21], [4]), (130706, [3, 4, 5, 21, 154], [4]), (522828, [2], []), (16339, [3, 4, 5, 21], [4]), (1022, [2], [])]⟩
def f9_2l : List GI := [⟨none, .mv (some 2) (.c (.lit (.bool false)))⟩]
def f9_2 : AC := .ops [0] [] f9_2l
theorem f9_2e : aC P id m f9_2 sf st Q = runI P id m f9_2l (opsK [0] [] Q) sf st := rfl
def f9_5l : List GI := [⟨none, .mv (some 22) (.r 0)⟩,
    ⟨none, .len (some 23) .sl (.r 22)⟩,
    ⟨none, .bin (some 24) .num .gtr (.r 23) (.c (.lit (.int .i64 60)))⟩]
def f9_5 : AC := .ops [0, 24] [] f9_5l
theorem f9_5e : aC P id m f9_5 sf st Q = runI P id m f9_5l (opsK [0, 24] [] Q) sf st := rfl
def f9_8l : List GI := [⟨none, .call (some 25) false (.f 23) []⟩,
    ⟨none, .own 2 25⟩]
def f9_8 : AC := .ops [2] [] f9_8l
theorem f9_8e : aC P id m f9_8 sf st Q = runI P id m f9_8l (opsK [2] [] Q) sf st := rfl
def f9_7 : AC := .seq f9_8 .ret
theorem f9_7e : aC P id m f9_7 sf st Q = aC P id m f9_8 sf st (seqQ (aC P id m .ret) Q) := rfl
def f9_6 : AC := .cond (.r 24) f9_7 .skip
theorem f9_6e : aC P id m f9_6 sf st Q = condI (.r 24) (sf.ev id (.r 24)) (aC P id m f9_7) (aC P id m .skip) sf st Q := rfl
def f9_4 : AC := .seq f9_5 f9_6
theorem f9_4e : aC P id m f9_4 sf st Q = aC P id m f9_5 sf st (seqQ (aC P id m f9_6) Q) := rfl
def f9_10l : List GI := [⟨none, .call (some 26) false (.f 24) []⟩,
    ⟨none, .own 3 26⟩]
def f9_10 : AC := .ops [0, 3] [] f9_10l
theorem f9_10e : aC P id m f9_10 sf st Q = runI P id m f9_10l (opsK [0, 3] [] Q) sf st := rfl
def f9_13l : List GI := [⟨none, .mv (some 27) (.r 3)⟩,
    ⟨none, .bin (some 28) (.nil .ptr) .eql (.r 27) (.c (.lit (.pointer none)))⟩]
def f9_13 : AC := .ops [0, 3, 28] [] f9_13l
theorem f9_13e : aC P id m f9_13 sf st Q = runI P id m f9_13l (opsK [0, 3, 28] [] Q) sf st := rfl
def f9_16l : List GI := [⟨none, .mv (some 2) (.c (.lit (.bool false)))⟩]
def f9_16 : AC := .ops [2] [] f9_16l
theorem f9_16e : aC P id m f9_16 sf st Q = runI P id m f9_16l (opsK [2] [] Q) sf st := rfl
def f9_15 : AC := .seq f9_16 .ret
theorem f9_15e : aC P id m f9_15 sf st Q = aC P id m f9_16 sf st (seqQ (aC P id m .ret) Q) := rfl
def f9_14 : AC := .cond (.r 28) f9_15 .skip
theorem f9_14e : aC P id m f9_14 sf st Q = condI (.r 28) (sf.ev id (.r 28)) (aC P id m f9_15) (aC P id m .skip) sf st Q := rfl
def f9_12 : AC := .seq f9_13 f9_14
theorem f9_12e : aC P id m f9_12 sf st Q = aC P id m f9_13 sf st (seqQ (aC P id m f9_14) Q) := rfl
def f9_18l : List GI := [⟨none, .newL 4 [(.lit (.bool false)), (.lit (.bool false)), (.lit (.bool false)), (.lit (.bool false)), (.lit (.bool false)), (.lit (.bool false)), (.lit (.bool false)), (.lit (.bool false)), (.lit (.bool false)), (.lit (.bool false)), (.lit (.bool false)), (.lit (.bool false)), (.lit (.bool false)), (.lit (.bool false)), (.lit (.bool false)), (.lit (.bool false)), (.lit (.bool false)), (.lit (.bool false)), (.lit (.bool false)), (.lit (.bool false)), (.lit (.bool false)), (.lit (.bool false)), (.lit (.bool false)), (.lit (.bool false)), (.lit (.bool false)), (.lit (.bool false)), (.lit (.bool false)), (.lit (.bool false)), (.lit (.bool false)), (.lit (.bool false)), (.lit (.bool false)), (.lit (.bool false)), (.lit (.bool false)), (.lit (.bool false)), (.lit (.bool false)), (.lit (.bool false)), (.lit (.bool false)), (.lit (.bool false)), (.lit (.bool false)), (.lit (.bool false)), (.lit (.bool false)), (.lit (.bool false)), (.lit (.bool false)), (.lit (.bool false)), (.lit (.bool false)), (.lit (.bool false)), (.lit (.bool false)), (.lit (.bool false)), (.lit (.bool false)), (.lit (.bool false)), (.lit (.bool false)), (.lit (.bool false)), (.lit (.bool false)), (.lit (.bool false)), (.lit (.bool false)), (.lit (.bool false)), (.lit (.bool false)), (.lit (.bool false)), (.lit (.bool false)), (.lit (.bool false)), (.lit (.bool false)), (.lit (.bool false)), (.lit (.bool false)), (.lit (.bool false))]⟩]
def f9_18 : AC := .ops [0, 3, 4] [4] f9_18l
theorem f9_18e : aC P id m f9_18 sf st Q = runI P id m f9_18l (opsK [0, 3, 4] [4] Q) sf st := rfl
def f9_20l : List GI := [⟨none, .mv (some 5) (.c (.lit (.int .u64 0)))⟩,
    ⟨none, .mv (some 6) (.c (.lit (.int .u64 0)))⟩]
def f9_20 : AC := .ops [0, 3, 4, 5, 6] [4] f9_20l
theorem f9_20e : aC P id m f9_20 sf st Q = runI P id m f9_20l (opsK [0, 3, 4, 5, 6] [4] Q) sf st := rfl
def f9_23l : List GI := [⟨none, .mv (some 29) (.r 0)⟩,
    ⟨none, .len (some 30) .sl (.r 29)⟩,
    ⟨none, .mv (some 31) (.c (.lit (.int .i64 0)))⟩]
def f9_23 : AC := .ops [3, 4, 5, 6, 29, 30, 31] [4] f9_23l
theorem f9_23e : aC P id m f9_23 sf st Q = runI P id m f9_23l (opsK [3, 4, 5, 6, 29, 30, 31] [4] Q) sf st := rfl
def f9_27l : List GI := [⟨none, .bin (some 32) .num .lss (.r 31) (.r 30)⟩]
def f9_27 : AC := .ops [3, 4, 5, 6, 29, 30, 31, 32] [4] f9_27l
theorem f9_27e : aC P id m f9_27 sf st Q = runI P id m f9_27l (opsK [3, 4, 5, 6, 29, 30, 31, 32] [4] Q) sf st := rfl
def f9_29 : AC := .cond (.r 32) .skip (.exit [3, 4, 5] [4] 0)
theorem f9_29e : aC P id m f9_29 sf st Q = condI (.r 32) (sf.ev id (.r 32)) (aC P id m .skip) (aC P id m (.exit [3, 4, 5] [4] 0)) sf st Q := rfl
def f9_33l : List GI := [⟨none, .ixS (some 33) (.r 29) (.r 31) 3⟩,
    ⟨none, .load (some 34) (.r 33) (some 3)⟩,
    ⟨none, .newL 8 [(.lit (.int .i64 0)), (.lit (.int .i64 0)), (.lit (.int .u64 0))]⟩,
    ⟨none, .store 3 (.r 8) (.r 34)⟩]
def f9_33 : AC := .ops [3, 4, 5, 6, 8, 29, 30, 31] [4, 8] f9_33l
theorem f9_33e : aC P id m f9_33 sf st Q = runI P id m f9_33l (opsK [3, 4, 5, 6, 8, 29, 30, 31] [4, 8] Q) sf st := rfl
def f9_36l : List GI := [⟨none, .addr (some 35) (.r 8) 0⟩,
    ⟨none, .load (some 36) (.r 35) none⟩]
def f9_36 : AC := .ops [3, 4, 5, 6, 8, 29, 30, 31, 36] [4, 8] f9_36l
theorem f9_36e : aC P id m f9_36 sf st Q = runI P id m f9_36l (opsK [3, 4, 5, 6, 8, 29, 30, 31, 36] [4, 8] Q) sf st := rfl
def f9_39l : List GI := [⟨none, .bin (some 38) .num .eql (.r 36) (.c (.lit (.int .i64 0)))⟩,
    ⟨none, .own 37 38⟩]
def f9_39 : AC := .ops [3, 4, 5, 6, 8, 29, 30, 31, 36, 37] [4, 8] f9_39l
theorem f9_39e : aC P id m f9_39 sf st Q = runI P id m f9_39l (opsK [3, 4, 5, 6, 8, 29, 30, 31, 36, 37] [4, 8] Q) sf st := rfl
def f9_42l : List GI := [⟨none, .mv (some 40) (.r 3)⟩,
    ⟨none, .mv (some 41) (.r 5)⟩,
    ⟨none, .conv (some 42) (.int .i64) (.r 41)⟩,
    ⟨none, .bin (some 43) .num .add (.r 42) (.c (.lit (.int .i64 1)))⟩,
    ⟨none, .call (some 44) false (.f 32) [(.r 40), (.r 43)]⟩,
    ⟨none, .mv (some 39) (.r 44)⟩,
    ⟨none, .ext (some 45) (.r 39) 0⟩,
    ⟨none, .ext (some 46) (.r 39) 1⟩,
    ⟨none, .own 9 45⟩,
    ⟨none, .own 10 46⟩]
def f9_42 : AC := .ops [3, 4, 5, 6, 9, 10, 29, 30, 31] [4] f9_42l
theorem f9_42e : aC P id m f9_42 sf st Q = runI P id m f9_42l (opsK [3, 4, 5, 6, 9, 10, 29, 30, 31] [4] Q) sf st := rfl
def f9_45l : List GI := [⟨none, .mv (some 47) (.r 10)⟩,
    ⟨none, .bin (some 48) .num .neq (.r 47) (.c (.lit (.int .i64 0)))⟩,
    ⟨none, .mv (some 49) (.r 48)⟩,
    ⟨some (49, false), .mv (some 50) (.r 9)⟩,
    ⟨some (49, false), .mv (some 51) (.r 5)⟩,
    ⟨some (49, false), .bin (some 52) .num .add (.r 51) (.c (.lit (.int .u64 1)))⟩,
    ⟨some (49, false), .bin (some 53) .num .neq (.r 50) (.r 52)⟩,
    ⟨none, .pick (some 54) (.r 49) (.c (.lit (.bool true))) (.r 53)⟩]
def f9_45 : AC := .ops [3, 4, 5, 6, 29, 30, 31, 54] [4] f9_45l
theorem f9_45e : aC P id m f9_45 sf st Q = runI P id m f9_45l (opsK [3, 4, 5, 6, 29, 30, 31, 54] [4] Q) sf st := rfl
def f9_48l : List GI := [⟨none, .mv (some 2) (.c (.lit (.bool false)))⟩]
def f9_48 : AC := .ops [2] [] f9_48l
theorem f9_48e : aC P id m f9_48 sf st Q = runI P id m f9_48l (opsK [2] [] Q) sf st := rfl
def f9_47 : AC := .seq f9_48 .ret
theorem f9_47e : aC P id m f9_47 sf st Q = aC P id m f9_48 sf st (seqQ (aC P id m .ret) Q) := rfl
def f9_46 : AC := .cond (.r 54) f9_47 .skip
theorem f9_46e : aC P id m f9_46 sf st Q = condI (.r 54) (sf.ev id (.r 54)) (aC P id m f9_47) (aC P id m .skip) sf st Q := rfl
def f9_44 : AC := .seq f9_45 f9_46
theorem f9_44e : aC P id m f9_44 sf st Q = aC P id m f9_45 sf st (seqQ (aC P id m f9_46) Q) := rfl
def f9_49l : List GI := [⟨none, .mv (some 55) (.r 5)⟩,
    ⟨none, .bin (some 56) .num .add (.r 55) (.c (.lit (.int .u64 1)))⟩,
    ⟨none, .own 5 56⟩]
def f9_49 : AC := .ops [3, 4, 5, 6, 29, 30, 31] [4] f9_49l
theorem f9_49e : aC P id m f9_49 sf st Q = runI P id m f9_49l (opsK [3, 4, 5, 6, 29, 30, 31] [4] Q) sf st := rfl
def f9_43 : AC := .seq f9_44 f9_49
theorem f9_43e : aC P id m f9_43 sf st Q = aC P id m f9_44 sf st (seqQ (aC P id m f9_49) Q) := rfl
def f9_41 : AC := .seq f9_42 f9_43
theorem f9_41e : aC P id m f9_41 sf st Q = aC P id m f9_42 sf st (seqQ (aC P id m f9_43) Q) := rfl
def f9_51l : List GI := [⟨none, .bin (some 58) .num .eql (.r 36) (.c (.lit (.int .i64 1)))⟩,
    ⟨none, .own 57 58⟩]
def f9_51 : AC := .ops [3, 4, 5, 6, 8, 29, 30, 31, 36, 57] [4, 8] f9_51l
theorem f9_51e : aC P id m f9_51 sf st Q = runI P id m f9_51l (opsK [3, 4, 5, 6, 8, 29, 30, 31, 36, 57] [4, 8] Q) sf st := rfl
def f9_54l : List GI := [⟨none, .mv (some 60) (.r 3)⟩,
    ⟨none, .call (some 61) false (.f 31) [(.r 60)]⟩,
    ⟨none, .mv (some 59) (.r 61)⟩,
    ⟨none, .ext (some 62) (.r 59) 0⟩,
    ⟨none, .ext (some 63) (.r 59) 1⟩,
    ⟨none, .ext (some 64) (.r 59) 2⟩,
    ⟨none, .own 11 62⟩,
    ⟨none, .own 12 63⟩,
    ⟨none, .own 13 64⟩]
def f9_54 : AC := .ops [3, 4, 5, 6, 11, 12, 13, 29, 30, 31] [4] f9_54l
theorem f9_54e : aC P id m f9_54 sf st Q = runI P id m f9_54l (opsK [3, 4, 5, 6, 11, 12, 13, 29, 30, 31] [4] Q) sf st := rfl
def f9_57l : List GI := [⟨none, .mv (some 65) (.r 13)⟩,
    ⟨none, .bin (some 66) .num .neq (.r 65) (.c (.lit (.int .i64 0)))⟩]
def f9_57 : AC := .ops [3, 4, 5, 6, 11, 12, 29, 30, 31, 66] [4] f9_57l
theorem f9_57e : aC P id m f9_57 sf st Q = runI P id m f9_57l (opsK [3, 4, 5, 6, 11, 12, 29, 30, 31, 66] [4] Q) sf st := rfl
def f9_58 : AC := .cond (.r 66) (.exit [3, 4, 5, 6, 29, 30, 31] [4] 1) .skip
theorem f9_58e : aC P id m f9_58 sf st Q = condI (.r 66) (sf.ev id (.r 66)) (aC P id m (.exit [3, 4, 5, 6, 29, 30, 31] [4] 1)) (aC P id m .skip) sf st Q := rfl
def f9_56 : AC := .seq f9_57 f9_58
theorem f9_56e : aC P id m f9_56 sf st Q = aC P id m f9_57 sf st (seqQ (aC P id m f9_58) Q) := rfl
def f9_61l : List GI := [⟨none, .mv (some 67) (.r 12)⟩,
    ⟨none, .mv (some 68) (.r 6)⟩,
    ⟨none, .bin (some 69) .num .leq (.r 67) (.r 68)⟩,
    ⟨none, .mv (some 70) (.r 69)⟩,
    ⟨some (70, false), .mv (some 71) (.r 12)⟩,
    ⟨some (70, false), .mv (some 72) (.r 5)⟩,
    ⟨some (70, false), .bin (some 73) .num .gtr (.r 71) (.r 72)⟩,
    ⟨none, .pick (some 74) (.r 70) (.c (.lit (.bool true))) (.r 73)⟩,
    ⟨none, .mv (some 75) (.r 74)⟩,
    ⟨some (75, false), .mv (some 76) (.r 11)⟩,
    ⟨some (75, false), .mv (some 77) (.r 12)⟩,
    ⟨some (75, false), .conv (some 78) (.int .i64) (.r 77)⟩,
    ⟨some (75, false), .bin (some 79) .num .neq (.r 76) (.r 78)⟩,
    ⟨none, .pick (some 80) (.r 75) (.c (.lit (.bool true))) (.r 79)⟩,
    ⟨none, .mv (some 81) (.r 80)⟩,
    ⟨some (81, false), .mv (some 82) (.r 12)⟩,
    ⟨some (81, false), .ixA (some 83) (.r 4) (.r 82) 64 1⟩,
    ⟨some (81, false), .load (some 84) (.r 83) none⟩,
    ⟨none, .pick (some 85) (.r 81) (.c (.lit (.bool true))) (.r 84)⟩]
def f9_61 : AC := .ops [3, 4, 5, 12, 29, 30, 31, 85] [4] f9_61l
theorem f9_61e : aC P id m f9_61 sf st Q = runI P id m f9_61l (opsK [3, 4, 5, 12, 29, 30, 31, 85] [4] Q) sf st := rfl
def f9_64l : List GI := [⟨none, .mv (some 2) (.c (.lit (.bool false)))⟩]
def f9_64 : AC := .ops [2] [] f9_64l
theorem f9_64e : aC P id m f9_64 sf st Q = runI P id m f9_64l (opsK [2] [] Q) sf st := rfl
def f9_63 : AC := .seq f9_64 .ret
theorem f9_63e : aC P id m f9_63 sf st Q = aC P id m f9_64 sf st (seqQ (aC P id m .ret) Q) := rfl
def f9_62 : AC := .cond (.r 85) f9_63 .skip
theorem f9_62e : aC P id m f9_62 sf st Q = condI (.r 85) (sf.ev id (.r 85)) (aC P id m f9_63) (aC P id m .skip) sf st Q := rfl
def f9_60 : AC := .seq f9_61 f9_62
theorem f9_60e : aC P id m f9_60 sf st Q = aC P id m f9_61 sf st (seqQ (aC P id m f9_62) Q) := rfl
def f9_65l : List GI := [⟨none, .mv (some 86) (.r 12)⟩,
    ⟨none, .mv (some 87) (.r 12)⟩,
    ⟨none, .own 6 87⟩,
    ⟨none, .ixA (some 88) (.r 4) (.r 86) 64 1⟩,
    ⟨none, .store 1 (.r 88) (.c (.lit (.bool true)))⟩]
def f9_65 : AC := .ops [3, 4, 5, 6, 29, 30, 31] [4] f9_65l
theorem f9_65e : aC P id m f9_65 sf st Q = runI P id m f9_65l (opsK [3, 4, 5, 6, 29, 30, 31] [4] Q) sf st := rfl
def f9_59 : AC := .seq f9_60 f9_65
theorem f9_59e : aC P id m f9_59 sf st Q = aC P id m f9_60 sf st (seqQ (aC P id m f9_65) Q) := rfl
def f9_55 : AC := .seq f9_56 f9_59
theorem f9_55e : aC P id m f9_55 sf st Q = aC P id m f9_56 sf st (seqQ (aC P id m f9_59) Q) := rfl
def f9_53 : AC := .seq f9_54 f9_55
theorem f9_53e : aC P id m f9_53 sf st Q = aC P id m f9_54 sf st (seqQ (aC P id m f9_55) Q) := rfl
def f9_67l : List GI := [⟨none, .bin (some 90) .num .eql (.r 36) (.c (.lit (.int .i64 2)))⟩,
    ⟨none, .own 89 90⟩]
def f9_67 : AC := .ops [3, 4, 5, 6, 8, 29, 30, 31, 89] [4, 8] f9_67l
theorem f9_67e : aC P id m f9_67 sf st Q = runI P id m f9_67l (opsK [3, 4, 5, 6, 8, 29, 30, 31, 89] [4, 8] Q) sf st := rfl
def f9_70l : List GI := [⟨none, .mv (some 92) (.r 3)⟩,
    ⟨none, .addr (some 93) (.r 8) 2⟩,
    ⟨none, .load (some 94) (.r 93) none⟩,
    ⟨none, .call (some 95) false (.f 35) [(.r 92), (.r 94)]⟩,
    ⟨none, .mv (some 91) (.r 95)⟩,
    ⟨none, .ext (some 96) (.r 91) 0⟩,
    ⟨none, .ext (some 97) (.r 91) 1⟩,
    ⟨none, .own 14 96⟩,
    ⟨none, .own 15 97⟩]
def f9_70 : AC := .ops [3, 4, 5, 6, 8, 14, 15, 29, 30, 31] [4, 8] f9_70l
theorem f9_70e : aC P id m f9_70 sf st Q = runI P id m f9_70l (opsK [3, 4, 5, 6, 8, 14, 15, 29, 30, 31] [4, 8] Q) sf st := rfl
def f9_73l : List GI := [⟨none, .mv (some 98) (.r 15)⟩,
    ⟨none, .bin (some 99) .num .neq (.r 98) (.c (.lit (.int .i64 0)))⟩]
def f9_73 : AC := .ops [3, 4, 5, 6, 8, 14, 29, 30, 31, 99] [4, 8] f9_73l
theorem f9_73e : aC P id m f9_73 sf st Q = runI P id m f9_73l (opsK [3, 4, 5, 6, 8, 14, 29, 30, 31, 99] [4, 8] Q) sf st := rfl
def f9_74 : AC := .cond (.r 99) (.exit [3, 4, 5, 6, 29, 30, 31] [4] 1) .skip
theorem f9_74e : aC P id m f9_74 sf st Q = condI (.r 99) (sf.ev id (.r 99)) (aC P id m (.exit [3, 4, 5, 6, 29, 30, 31] [4] 1)) (aC P id m .skip) sf st Q := rfl
def f9_72 : AC := .seq f9_73 f9_74
theorem f9_72e : aC P id m f9_72 sf st Q = aC P id m f9_73 sf st (seqQ (aC P id m f9_74) Q) := rfl
def f9_77l : List GI := [⟨none, .addr (some 100) (.r 8) 2⟩,
    ⟨none, .load (some 101) (.r 100) none⟩,
    ⟨none, .mv (some 102) (.r 5)⟩,
    ⟨none, .bin (some 103) .num .gtr (.r 101) (.r 102)⟩,
    ⟨none, .mv (some 104) (.r 103)⟩,
    ⟨some (104, false), .mv (some 105) (.r 14)⟩,
    ⟨some (104, false), .addr (some 106) (.r 8) 2⟩,
    ⟨some (104, false), .load (some 107) (.r 106) none⟩,
    ⟨some (104, false), .conv (some 108) (.int .i64) (.r 107)⟩,
    ⟨some (104, false), .bin (some 109) .num .neq (.r 105) (.r 108)⟩,
    ⟨none, .pick (some 110) (.r 104) (.c (.lit (.bool true))) (.r 109)⟩,
    ⟨none, .mv (some 111) (.r 110)⟩,
    ⟨some (111, false), .addr (some 112) (.r 8) 2⟩,
    ⟨some (111, false), .load (some 113) (.r 112) none⟩,
    ⟨some (111, false), .ixA (some 114) (.r 4) (.r 113) 64 1⟩,
    ⟨some (111, false), .load (some 115) (.r 114) none⟩,
    ⟨none, .pick (some 116) (.r 111) (.c (.lit (.bool true))) (.r 115)⟩]
def f9_77 : AC := .ops [3, 4, 5, 6, 8, 29, 30, 31, 116] [4, 8] f9_77l
theorem f9_77e : aC P id m f9_77 sf st Q = runI P id m f9_77l (opsK [3, 4, 5, 6, 8, 29, 30, 31, 116] [4, 8] Q) sf st := rfl
def f9_80l : List GI := [⟨none, .mv (some 2) (.c (.lit (.bool false)))⟩]
def f9_80 : AC := .ops [2] [] f9_80l
theorem f9_80e : aC P id m f9_80 sf st Q = runI P id m f9_80l (opsK [2] [] Q) sf st := rfl
def f9_79 : AC := .seq f9_80 .ret
theorem f9_79e : aC P id m f9_79 sf st Q = aC P id m f9_80 sf st (seqQ (aC P id m .ret) Q) := rfl
def f9_78 : AC := .cond (.r 116) f9_79 .skip
theorem f9_78e : aC P id m f9_78 sf st Q = condI (.r 116) (sf.ev id (.r 116)) (aC P id m f9_79) (aC P id m .skip) sf st Q := rfl
def f9_76 : AC := .seq f9_77 f9_78
theorem f9_76e : aC P id m f9_76 sf st Q = aC P id m f9_77 sf st (seqQ (aC P id m f9_78) Q) := rfl
def f9_81l : List GI := [⟨none, .addr (some 117) (.r 8) 2⟩,
    ⟨none, .load (some 118) (.r 117) none⟩,
    ⟨none, .ixA (some 119) (.r 4) (.r 118) 64 1⟩,
    ⟨none, .store 1 (.r 119) (.c (.lit (.bool true)))⟩]
def f9_81 : AC := .ops [3, 4, 5, 6, 29, 30, 31] [4] f9_81l
theorem f9_81e : aC P id m f9_81 sf st Q = runI P id m f9_81l (opsK [3, 4, 5, 6, 29, 30, 31] [4] Q) sf st := rfl
def f9_75 : AC := .seq f9_76 f9_81
theorem f9_75e : aC P id m f9_75 sf st Q = aC P id m f9_76 sf st (seqQ (aC P id m f9_81) Q) := rfl
def f9_71 : AC := .seq f9_72 f9_75
theorem f9_71e : aC P id m f9_71 sf st Q = aC P id m f9_72 sf st (seqQ (aC P id m f9_75) Q) := rfl
def f9_69 : AC := .seq f9_70 f9_71
theorem f9_69e : aC P id m f9_69 sf st Q = aC P id m f9_70 sf st (seqQ (aC P id m f9_71) Q) := rfl
def f9_68 : AC := .cond (.r 89) f9_69 .skip
theorem f9_68e : aC P id m f9_68 sf st Q = condI (.r 89) (sf.ev id (.r 89)) (aC P id m f9_69) (aC P id m .skip) sf st Q := rfl
def f9_66 : AC := .seq f9_67 f9_68
theorem f9_66e : aC P id m f9_66 sf st Q = aC P id m f9_67 sf st (seqQ (aC P id m f9_68) Q) := rfl
def f9_52 : AC := .cond (.r 57) f9_53 f9_66
theorem f9_52e : aC P id m f9_52 sf st Q = condI (.r 57) (sf.ev id (.r 57)) (aC P id m f9_53) (aC P id m f9_66) sf st Q := rfl
def f9_50 : AC := .seq f9_51 f9_52
theorem f9_50e : aC P id m f9_50 sf st Q = aC P id m f9_51 sf st (seqQ (aC P id m f9_52) Q) := rfl
def f9_40 : AC := .cond (.r 37) f9_41 f9_50
theorem f9_40e : aC P id m f9_40 sf st Q = condI (.r 37) (sf.ev id (.r 37)) (aC P id m f9_41) (aC P id m f9_50) sf st Q := rfl
def f9_38 : AC := .seq f9_39 f9_40
theorem f9_38e : aC P id m f9_38 sf st Q = aC P id m f9_39 sf st (seqQ (aC P id m f9_40) Q) := rfl
def f9_37 : AC := .block 2 f9_38
theorem f9_37e : aC P id m f9_37 sf st Q = aC P id m f9_38 sf st (blockQ 2 Q) := rfl
def f9_35 : AC := .seq f9_36 f9_37
theorem f9_35e : aC P id m f9_35 sf st Q = aC P id m f9_36 sf st (seqQ (aC P id m f9_37) Q) := rfl
def f9_83l : List GI := [⟨none, .mv (some 121) (.r 3)⟩,
    ⟨none, .call (some 122) false (.f 26) [(.r 121)]⟩,
    ⟨none, .mv (some 120) (.r 122)⟩,
    ⟨none, .ext (some 123) (.r 120) 0⟩,
    ⟨none, .ext (some 124) (.r 120) 1⟩,
    ⟨none, .ext (some 125) (.r 120) 2⟩,
    ⟨none, .own 16 123⟩,
    ⟨none, .own 17 124⟩,
    ⟨none, .own 18 125⟩]
def f9_83 : AC := .ops [3, 4, 5, 6, 17, 18, 29, 30, 31] [4] f9_83l
theorem f9_83e : aC P id m f9_83 sf st Q = runI P id m f9_83l (opsK [3, 4, 5, 6, 17, 18, 29, 30, 31] [4] Q) sf st := rfl
def f9_85l : List GI := [⟨none, .mv (some 126) (.r 18)⟩,
    ⟨none, .bin (some 127) .num .eql (.r 126) (.c (.lit (.int .i64 0)))⟩]
def f9_85 : AC := .ops [3, 4, 5, 6, 17, 29, 30, 31, 127] [4] f9_85l
theorem f9_85e : aC P id m f9_85 sf st Q = runI P id m f9_85l (opsK [3, 4, 5, 6, 17, 29, 30, 31, 127] [4] Q) sf st := rfl
def f9_88l : List GI := [⟨none, .mv (some 129) (.r 3)⟩,
    ⟨none, .mv (some 130) (.r 17)⟩,
    ⟨none, .call (some 131) false (.f 36) [(.r 129), (.r 130)]⟩,
    ⟨none, .mv (some 128) (.r 131)⟩,
    ⟨none, .ext (some 132) (.r 128) 0⟩,
    ⟨none, .ext (some 133) (.r 128) 1⟩,
    ⟨none, .own 19 132⟩,
    ⟨none, .own 20 133⟩]
def f9_88 : AC := .ops [3, 4, 5, 6, 19, 20, 29, 30, 31] [4] f9_88l
theorem f9_88e : aC P id m f9_88 sf st Q = runI P id m f9_88l (opsK [3, 4, 5, 6, 19, 20, 29, 30, 31] [4] Q) sf st := rfl
def f9_90l : List GI := [⟨none, .mv (some 134) (.r 19)⟩,
    ⟨none, .bin (some 135) .num .neq (.r 134) (.c (.lit (.int .i64 0)))⟩,
    ⟨none, .mv (some 136) (.r 135)⟩,
    ⟨some (136, false), .mv (some 137) (.r 20)⟩,
    ⟨some (136, false), .bin (some 138) .num .neq (.r 137) (.c (.lit (.int .i64 0)))⟩,
    ⟨none, .pick (some 139) (.r 136) (.c (.lit (.bool true))) (.r 138)⟩]
def f9_90 : AC := .ops [3, 4, 5, 6, 29, 30, 31, 139] [4] f9_90l
theorem f9_90e : aC P id m f9_90 sf st Q = runI P id m f9_90l (opsK [3, 4, 5, 6, 29, 30, 31, 139] [4] Q) sf st := rfl
def f9_93l : List GI := [⟨none, .mv (some 2) (.c (.lit (.bool false)))⟩]
def f9_93 : AC := .ops [2] [] f9_93l
theorem f9_93e : aC P id m f9_93 sf st Q = runI P id m f9_93l (opsK [2] [] Q) sf st := rfl
def f9_92 : AC := .seq f9_93 .ret
theorem f9_92e : aC P id m f9_92 sf st Q = aC P id m f9_93 sf st (seqQ (aC P id m .ret) Q) := rfl
def f9_91 : AC := .cond (.r 139) f9_92 .skip
theorem f9_91e : aC P id m f9_91 sf st Q = condI (.r 139) (sf.ev id (.r 139)) (aC P id m f9_92) (aC P id m .skip) sf st Q := rfl
def f9_89 : AC := .seq f9_90 f9_91
theorem f9_89e : aC P id m f9_89 sf st Q = aC P id m f9_90 sf st (seqQ (aC P id m f9_91) Q) := rfl
def f9_87 : AC := .seq f9_88 f9_89
theorem f9_87e : aC P id m f9_87 sf st Q = aC P id m f9_88 sf st (seqQ (aC P id m f9_89) Q) := rfl
def f9_86 : AC := .cond (.r 127) f9_87 .skip
theorem f9_86e : aC P id m f9_86 sf st Q = condI (.r 127) (sf.ev id (.r 127)) (aC P id m f9_87) (aC P id m .skip) sf st Q := rfl
def f9_84 : AC := .seq f9_85 f9_86
theorem f9_84e : aC P id m f9_84 sf st Q = aC P id m f9_85 sf st (seqQ (aC P id m f9_86) Q) := rfl
def f9_82 : AC := .seq f9_83 f9_84
theorem f9_82e : aC P id m f9_82 sf st Q = aC P id m f9_83 sf st (seqQ (aC P id m f9_84) Q) := rfl
def f9_34 : AC := .seq f9_35 f9_82
theorem f9_34e : aC P id m f9_34 sf st Q = aC P id m f9_35 sf st (seqQ (aC P id m f9_82) Q) := rfl
def f9_32 : AC := .seq f9_33 f9_34
theorem f9_32e : aC P id m f9_32 sf st Q = aC P id m f9_33 sf st (seqQ (aC P id m f9_34) Q) := rfl
def f9_31 : AC := .block 1 f9_32
theorem f9_31e : aC P id m f9_31 sf st Q = aC P id m f9_32 sf st (blockQ 1 Q) := rfl
def f9_94l : List GI := [⟨none, .bin (some 140) .num .add (.r 31) (.c (.lit (.int .i64 1)))⟩,
    ⟨none, .mv (some 31) (.r 140)⟩]
def f9_94 : AC := .ops [3, 4, 5, 6, 29, 30, 31] [4] f9_94l
theorem f9_94e : aC P id m f9_94 sf st Q = runI P id m f9_94l (opsK [3, 4, 5, 6, 29, 30, 31] [4] Q) sf st := rfl
def f9_30 : AC := .seq f9_31 f9_94
theorem f9_30e : aC P id m f9_30 sf st Q = aC P id m f9_31 sf st (seqQ (aC P id m f9_94) Q) := rfl
def f9_28 : AC := .seq f9_29 f9_30
theorem f9_28e : aC P id m f9_28 sf st Q = aC P id m f9_29 sf st (seqQ (aC P id m f9_30) Q) := rfl
def f9_26 : AC := .seq f9_27 f9_28
theorem f9_26e : aC P id m f9_26 sf st Q = aC P id m f9_27 sf st (seqQ (aC P id m f9_28) Q) := rfl
def f9_25 : AC := .loop [3, 4, 5, 6, 29, 30, 31] [4] f9_26
theorem f9_25w : aC P id m f9_25 sf st Q = loopI (aC P id m f9_26) [3, 4, 5, 6, 29, 30, 31] [4] sf st Q := rfl
def f9_24 : AC := .block 0 f9_25
theorem f9_24e : aC P id m f9_24 sf st Q = aC P id m f9_25 sf st (blockQ 0 Q) := rfl
def f9_22 : AC := .seq f9_23 f9_24
theorem f9_22e : aC P id m f9_22 sf st Q = aC P id m f9_23 sf st (seqQ (aC P id m f9_24) Q) := rfl
def f9_97l : List GI := [⟨none, .mv (some 21) (.c (.lit (.int .u64 1)))⟩]
def f9_97 : AC := .ops [3, 4, 5, 21] [4] f9_97l
theorem f9_97e : aC P id m f9_97 sf st Q = runI P id m f9_97l (opsK [3, 4, 5, 21] [4] Q) sf st := rfl
def f9_102l : List GI := [⟨none, .mv (some 141) (.r 21)⟩,
    ⟨none, .mv (some 142) (.r 5)⟩,
    ⟨none, .bin (some 143) .num .leq (.r 141) (.r 142)⟩]
def f9_102 : AC := .ops [3, 4, 5, 21, 143] [4] f9_102l
theorem f9_102e : aC P id m f9_102 sf st Q = runI P id m f9_102l (opsK [3, 4, 5, 21, 143] [4] Q) sf st := rfl
def f9_103 : AC := .cond (.r 143) .skip (.exit [3] [] 3)
theorem f9_103e : aC P id m f9_103 sf st Q = condI (.r 143) (sf.ev id (.r 143)) (aC P id m .skip) (aC P id m (.exit [3] [] 3)) sf st Q := rfl
def f9_101 : AC := .seq f9_102 f9_103
theorem f9_101e : aC P id m f9_101 sf st Q = aC P id m f9_102 sf st (seqQ (aC P id m f9_103) Q) := rfl
def f9_108l : List GI := [⟨none, .mv (some 146) (.r 21)⟩,
    ⟨none, .ixA (some 147) (.r 4) (.r 146) 64 1⟩,
    ⟨none, .load (some 148) (.r 147) none⟩]
def f9_108 : AC := .ops [3, 4, 5, 21, 148] [4] f9_108l
theorem f9_108e : aC P id m f9_108 sf st Q = runI P id m f9_108l (opsK [3, 4, 5, 21, 148] [4] Q) sf st := rfl
def f9_109 : AC := .cond (.r 148) (.exit [3, 4, 5, 21] [4] 4) .skip
theorem f9_109e : aC P id m f9_109 sf st Q = condI (.r 148) (sf.ev id (.r 148)) (aC P id m (.exit [3, 4, 5, 21] [4] 4)) (aC P id m .skip) sf st Q := rfl
def f9_107 : AC := .seq f9_108 f9_109
theorem f9_107e : aC P id m f9_107 sf st Q = aC P id m f9_108 sf st (seqQ (aC P id m f9_109) Q) := rfl
def f9_111l : List GI := [⟨none, .mv (some 149) (.r 3)⟩,
    ⟨none, .mv (some 150) (.r 21)⟩,
    ⟨none, .conv (some 151) (.int .i64) (.r 150)⟩,
    ⟨none, .mv (some 152) (.r 21)⟩,
    ⟨none, .call (some 153) false (.f 33) [(.r 149), (.r 151), (.r 152)]⟩,
    ⟨none, .un (some 154) .not (.r 153)⟩]
def f9_111 : AC := .ops [3, 4, 5, 21, 154] [4] f9_111l
theorem f9_111e : aC P id m f9_111 sf st Q = runI P id m f9_111l (opsK [3, 4, 5, 21, 154] [4] Q) sf st := rfl
def f9_114l : List GI := [⟨none, .mv (some 2) (.c (.lit (.bool false)))⟩]
def f9_114 : AC := .ops [2] [] f9_114l
theorem f9_114e : aC P id m f9_114 sf st Q = runI P id m f9_114l (opsK [2] [] Q) sf st := rfl
def f9_113 : AC := .seq f9_114 .ret
theorem f9_113e : aC P id m f9_113 sf st Q = aC P id m f9_114 sf st (seqQ (aC P id m .ret) Q) := rfl
def f9_112 : AC := .cond (.r 154) f9_113 .skip
theorem f9_112e : aC P id m f9_112 sf st Q = condI (.r 154) (sf.ev id (.r 154)) (aC P id m f9_113) (aC P id m .skip) sf st Q := rfl
def f9_110 : AC := .seq f9_111 f9_112
theorem f9_110e : aC P id m f9_110 sf st Q = aC P id m f9_111 sf st (seqQ (aC P id m f9_112) Q) := rfl
def f9_106 : AC := .seq f9_107 f9_110
theorem f9_106e : aC P id m f9_106 sf st Q = aC P id m f9_107 sf st (seqQ (aC P id m f9_110) Q) := rfl
def f9_105 : AC := .block 4 f9_106
theorem f9_105e : aC P id m f9_105 sf st Q = aC P id m f9_106 sf st (blockQ 4 Q) := rfl
def f9_115l : List GI := [⟨none, .mv (some 144) (.r 21)⟩,
    ⟨none, .bin (some 145) .num .add (.r 144) (.c (.lit (.int .u64 1)))⟩,
    ⟨none, .own 21 145⟩]
def f9_115 : AC := .ops [3, 4, 5, 21] [4] f9_115l
theorem f9_115e : aC P id m f9_115 sf st Q = runI P id m f9_115l (opsK [3, 4, 5, 21] [4] Q) sf st := rfl
def f9_104 : AC := .seq f9_105 f9_115
theorem f9_104e : aC P id m f9_104 sf st Q = aC P id m f9_105 sf st (seqQ (aC P id m f9_115) Q) := rfl
def f9_100 : AC := .seq f9_101 f9_104
theorem f9_100e : aC P id m f9_100 sf st Q = aC P id m f9_101 sf st (seqQ (aC P id m f9_104) Q) := rfl
def f9_99 : AC := .loop [3, 4, 5, 21] [4] f9_100
theorem f9_99w : aC P id m f9_99 sf st Q = loopI (aC P id m f9_100) [3, 4, 5, 21] [4] sf st Q := rfl
def f9_98 : AC := .block 3 f9_99
theorem f9_98e : aC P id m f9_98 sf st Q = aC P id m f9_99 sf st (blockQ 3 Q) := rfl
def f9_96 : AC := .seq f9_97 f9_98
theorem f9_96e : aC P id m f9_96 sf st Q = aC P id m f9_97 sf st (seqQ (aC P id m f9_98) Q) := rfl
def f9_117l : List GI := [⟨none, .mv (some 155) (.r 3)⟩,
    ⟨none, .call (some 156) false (.f 28) [(.r 155)]⟩,
    ⟨none, .bin (some 157) .num .eql (.r 156) (.c (.lit (.int .i64 0)))⟩,
    ⟨none, .mv (some 158) (.r 157)⟩,
    ⟨some (158, true), .call (some 159) false (.f 23) []⟩,
    ⟨none, .pick (some 160) (.r 158) (.r 159) (.c (.lit (.bool false)))⟩,
    ⟨none, .own 2 160⟩]
def f9_117 : AC := .ops [2] [] f9_117l
theorem f9_117e : aC P id m f9_117 sf st Q = runI P id m f9_117l (opsK [2] [] Q) sf st := rfl
def f9_116 : AC := .seq f9_117 .ret
theorem f9_116e : aC P id m f9_116 sf st Q = aC P id m f9_117 sf st (seqQ (aC P id m .ret) Q) := rfl
def f9_95 : AC := .seq f9_96 f9_116
theorem f9_95e : aC P id m f9_95 sf st Q = aC P id m f9_96 sf st (seqQ (aC P id m f9_116) Q) := rfl
def f9_21 : AC := .seq f9_22 f9_95
theorem f9_21e : aC P id m f9_21 sf st Q = aC P id m f9_22 sf st (seqQ (aC P id m f9_95) Q) := rfl
def f9_19 : AC := .seq f9_20 f9_21
theorem f9_19e : aC P id m f9_19 sf st Q = aC P id m f9_20 sf st (seqQ (aC P id m f9_21) Q) := rfl
def f9_17 : AC := .seq f9_18 f9_19
theorem f9_17e : aC P id m f9_17 sf st Q = aC P id m f9_18 sf st (seqQ (aC P id m f9_19) Q) := rfl
def f9_11 : AC := .seq f9_12 f9_17
theorem f9_11e : aC P id m f9_11 sf st Q = aC P id m f9_12 sf st (seqQ (aC P id m f9_17) Q) := rfl
def f9_9 : AC := .seq f9_10 f9_11
theorem f9_9e : aC P id m f9_9 sf st Q = aC P id m f9_10 sf st (seqQ (aC P id m f9_11) Q) := rfl
def f9_3 : AC := .seq f9_4 f9_9
theorem f9_3e : aC P id m f9_3 sf st Q = aC P id m f9_4 sf st (seqQ (aC P id m f9_9) Q) := rfl
def f9_1 : AC := .seq f9_2 f9_3
theorem f9_1e : aC P id m f9_1 sf st Q = aC P id m f9_2 sf st (seqQ (aC P id m f9_3) Q) := rfl
def c_f9 : AFun := ⟨161, [.tmp 2], f9_1⟩
theorem k_f9 : compF Go.Proofs.Try.prog x_f9 9 = some c_f9 := by kernel_rfl
theorem e_f9 : enterB Go.Proofs.Try.prog 9 = true := by kernel_rfl

def n_f23 : Nat := 23
def x_f23 : Cx := ⟨some, id, 98, fun s => ([0, 1, 4, 5, 6, 7, 8, 9, 11, 12, 13, 14, 15, 16, 17, 18, 19, 20, 21, 22, 23, 24, 25, 26, 27, 28, 29, 30, 31, 32, 34, 35, 36, 37, 38, 39, 40, 41, 42, 43, 44, 45, 46, 47, 48, 49, 50, 51, 52, 53, 55, 56, 57, 58, 59, 60, 61, 62, 63, 64, 65, 66, 67, 68, 69, 71, 72, 73, 75, 76, 77, 78, 79, 80, 81, 82, 83, 84, 85, 86, 87, 88, 89, 90, 91, 92, 93, 94, 95, 96, 97] : List Nat).contains s, fun s => ([] : List Nat).contains s, msOf [(2, [], []), (6, [1], []), (28, [1, 10], []), (116, [0], []), (30, [1, 4], []), (124, [1, 33], []), (500, [0], []), (126, [1, 4, 5, 6], []), (508, [1, 54], []), (2036, [0], []), (510, [1, 4, 7], []), (2044, [1, 70], []), (8180, [0], []), (2046, [1, 4], []), (4094, [0], [])]⟩
def f23_2l : List GI := [⟨none, .mv (some 0) (.c (.lit (.bool false)))⟩]
def f23_2 : AC := .ops [] [] f23_2l
theorem f23_2e : aC P id m f23_2 sf st Q = runI P id m f23_2l (opsK [] [] Q) sf st := rfl
def f23_4l : List GI := [⟨none, .call (some 8) false (.f 24) []⟩,
    ⟨none, .own 1 8⟩]
def f23_4 : AC := .ops [1] [] f23_4l
theorem f23_4e : aC P id m f23_4 sf st Q = runI P id m f23_4l (opsK [1] [] Q) sf st := rfl
def f23_7l : List GI := [⟨none, .mv (some 9) (.r 1)⟩,
    ⟨none, .bin (some 10) (.nil .ptr) .eql (.r 9) (.c (.lit (.pointer none)))⟩]
def f23_7 : AC := .ops [1, 10] [] f23_7l
theorem f23_7e : aC P id m f23_7 sf st Q = runI P id m f23_7l (opsK [1, 10] [] Q) sf st := rfl
def f23_10l : List GI := [⟨none, .mv (some 0) (.c (.lit (.bool false)))⟩]
def f23_10 : AC := .ops [0] [] f23_10l
theorem f23_10e : aC P id m f23_10 sf st Q = runI P id m f23_10l (opsK [0] [] Q) sf st := rfl
def f23_9 : AC := .seq f23_10 .ret
theorem f23_9e : aC P id m f23_9 sf st Q = aC P id m f23_10 sf st (seqQ (aC P id m .ret) Q) := rfl
def f23_8 : AC := .cond (.r 10) f23_9 .skip
theorem f23_8e : aC P id m f23_8 sf st Q = condI (.r 10) (sf.ev id (.r 10)) (aC P id m f23_9) (aC P id m .skip) sf st Q := rfl
def f23_6 : AC := .seq f23_7 f23_8
theorem f23_6e : aC P id m f23_6 sf st Q = aC P id m f23_7 sf st (seqQ (aC P id m f23_8) Q) := rfl
def f23_12l : List GI := [⟨none, .mv (some 12) (.r 1)⟩,
    ⟨none, .call (some 13) false (.f 31) [(.r 12)]⟩,
    ⟨none, .mv (some 11) (.r 13)⟩,
    ⟨none, .ext (some 14) (.r 11) 0⟩,
    ⟨none, .ext (some 15) (.r 11) 1⟩,
    ⟨none, .ext (some 16) (.r 11) 2⟩,
    ⟨none, .own 2 14⟩,
    ⟨none, .own 3 15⟩,
    ⟨none, .own 4 16⟩]
def f23_12 : AC := .ops [1, 4] [] f23_12l
theorem f23_12e : aC P id m f23_12 sf st Q = runI P id m f23_12l (opsK [1, 4] [] Q) sf st := rfl
def f23_15l : List GI := [⟨none, .mv (some 17) (.r 4)⟩,
    ⟨none, .bin (some 18) .num .neq (.r 17) (.c (.lit (.int .i64 9)))⟩,
    ⟨none, .mv (some 19) (.r 18)⟩,
    ⟨some (19, false), .mv (some 20) (.r 1)⟩,
    ⟨some (19, false), .call (some 21) false (.f 34) [(.r 20), (.c (.lit (.int .i64 7))), (.c (.lit (.int .u64 1)))]⟩,
    ⟨some (19, false), .un (some 22) .not (.r 21)⟩,
    ⟨none, .pick (some 23) (.r 19) (.c (.lit (.bool true))) (.r 22)⟩,
    ⟨none, .mv (some 24) (.r 23)⟩,
    ⟨some (24, false), .mv (some 25) (.r 1)⟩,
    ⟨some (24, false), .call (some 26) false (.f 34) [(.r 25), (.c (.lit (.int .i64 8))), (.c (.lit (.int .u64 2)))]⟩,
    ⟨some (24, false), .un (some 27) .not (.r 26)⟩,
    ⟨none, .pick (some 28) (.r 24) (.c (.lit (.bool true))) (.r 27)⟩,
    ⟨none, .mv (some 29) (.r 28)⟩,
    ⟨some (29, false), .mv (some 30) (.r 1)⟩,
    ⟨some (29, false), .call (some 31) false (.f 34) [(.r 30), (.c (.lit (.int .i64 9))), (.c (.lit (.int .u64 3)))]⟩,
    ⟨some (29, false), .un (some 32) .not (.r 31)⟩,
    ⟨none, .pick (some 33) (.r 29) (.c (.lit (.bool true))) (.r 32)⟩]
def f23_15 : AC := .ops [1, 33] [] f23_15l
theorem f23_15e : aC P id m f23_15 sf st Q = runI P id m f23_15l (opsK [1, 33] [] Q) sf st := rfl
def f23_18l : List GI := [⟨none, .mv (some 0) (.c (.lit (.bool false)))⟩]
def f23_18 : AC := .ops [0] [] f23_18l
theorem f23_18e : aC P id m f23_18 sf st Q = runI P id m f23_18l (opsK [0] [] Q) sf st := rfl
def f23_17 : AC := .seq f23_18 .ret
theorem f23_17e : aC P id m f23_17 sf st Q = aC P id m f23_18 sf st (seqQ (aC P id m .ret) Q) := rfl
def f23_16 : AC := .cond (.r 33) f23_17 .skip
theorem f23_16e : aC P id m f23_16 sf st Q = condI (.r 33) (sf.ev id (.r 33)) (aC P id m f23_17) (aC P id m .skip) sf st Q := rfl
def f23_14 : AC := .seq f23_15 f23_16
theorem f23_14e : aC P id m f23_14 sf st Q = aC P id m f23_15 sf st (seqQ (aC P id m f23_16) Q) := rfl
def f23_20l : List GI := [⟨none, .mv (some 35) (.r 1)⟩,
    ⟨none, .call (some 36) false (.f 26) [(.r 35)]⟩,
    ⟨none, .mv (some 34) (.r 36)⟩,
    ⟨none, .ext (some 37) (.r 34) 0⟩,
    ⟨none, .ext (some 38) (.r 34) 1⟩,
    ⟨none, .ext (some 39) (.r 34) 2⟩,
    ⟨none, .own 5 37⟩,
    ⟨none, .own 6 38⟩,
    ⟨none, .own 4 39⟩]
def f23_20 : AC := .ops [1, 4, 5, 6] [] f23_20l
theorem f23_20e : aC P id m f23_20 sf st Q = runI P id m f23_20l (opsK [1, 4, 5, 6] [] Q) sf st := rfl
def f23_23l : List GI := [⟨none, .mv (some 40) (.r 5)⟩,
    ⟨none, .bin (some 41) .num .neq (.r 40) (.c (.lit (.int .i64 7)))⟩,
    ⟨none, .mv (some 42) (.r 41)⟩,
    ⟨some (42, false), .mv (some 43) (.r 6)⟩,
    ⟨some (42, false), .bin (some 44) .num .neq (.r 43) (.c (.lit (.int .u64 1)))⟩,
    ⟨none, .pick (some 45) (.r 42) (.c (.lit (.bool true))) (.r 44)⟩,
    ⟨none, .mv (some 46) (.r 45)⟩,
    ⟨some (46, false), .mv (some 47) (.r 4)⟩,
    ⟨some (46, false), .bin (some 48) .num .neq (.r 47) (.c (.lit (.int .i64 0)))⟩,
    ⟨none, .pick (some 49) (.r 46) (.c (.lit (.bool true))) (.r 48)⟩,
    ⟨none, .mv (some 50) (.r 49)⟩,
    ⟨some (50, false), .mv (some 51) (.r 1)⟩,
    ⟨some (50, false), .call (some 52) false (.f 49) [(.r 51), (.c (.lit (.int .u64 3))), (.c (.lit (.int .i64 2)))]⟩,
    ⟨some (50, false), .un (some 53) .not (.r 52)⟩,
    ⟨none, .pick (some 54) (.r 50) (.c (.lit (.bool true))) (.r 53)⟩]
def f23_23 : AC := .ops [1, 54] [] f23_23l
theorem f23_23e : aC P id m f23_23 sf st Q = runI P id m f23_23l (opsK [1, 54] [] Q) sf st := rfl
def f23_26l : List GI := [⟨none, .mv (some 0) (.c (.lit (.bool false)))⟩]
def f23_26 : AC := .ops [0] [] f23_26l
theorem f23_26e : aC P id m f23_26 sf st Q = runI P id m f23_26l (opsK [0] [] Q) sf st := rfl
def f23_25 : AC := .seq f23_26 .ret
theorem f23_25e : aC P id m f23_25 sf st Q = aC P id m f23_26 sf st (seqQ (aC P id m .ret) Q) := rfl
def f23_24 : AC := .cond (.r 54) f23_25 .skip
theorem f23_24e : aC P id m f23_24 sf st Q = condI (.r 54) (sf.ev id (.r 54)) (aC P id m f23_25) (aC P id m .skip) sf st Q := rfl
def f23_22 : AC := .seq f23_23 f23_24
theorem f23_22e : aC P id m f23_22 sf st Q = aC P id m f23_23 sf st (seqQ (aC P id m f23_24) Q) := rfl
def f23_28l : List GI := [⟨none, .mv (some 56) (.r 1)⟩,
    ⟨none, .call (some 57) false (.f 35) [(.r 56), (.c (.lit (.int .u64 2)))]⟩,
    ⟨none, .mv (some 55) (.r 57)⟩,
    ⟨none, .ext (some 58) (.r 55) 0⟩,
    ⟨none, .ext (some 59) (.r 55) 1⟩,
    ⟨none, .own 7 58⟩,
    ⟨none, .own 4 59⟩]
def f23_28 : AC := .ops [1, 4, 7] [] f23_28l
theorem f23_28e : aC P id m f23_28 sf st Q = runI P id m f23_28l (opsK [1, 4, 7] [] Q) sf st := rfl
def f23_31l : List GI := [⟨none, .mv (some 60) (.r 7)⟩,
    ⟨none, .bin (some 61) .num .neq (.r 60) (.c (.lit (.int .i64 8)))⟩,
    ⟨none, .mv (some 62) (.r 61)⟩,
    ⟨some (62, false), .mv (some 63) (.r 4)⟩,
    ⟨some (62, false), .bin (some 64) .num .neq (.r 63) (.c (.lit (.int .i64 0)))⟩,
    ⟨none, .pick (some 65) (.r 62) (.c (.lit (.bool true))) (.r 64)⟩,
    ⟨none, .mv (some 66) (.r 65)⟩,
    ⟨some (66, false), .mv (some 67) (.r 1)⟩,
    ⟨some (66, false), .call (some 68) false (.f 49) [(.r 67), (.c (.lit (.int .u64 3))), (.c (.lit (.int .i64 1)))]⟩,
    ⟨some (66, false), .un (some 69) .not (.r 68)⟩,
    ⟨none, .pick (some 70) (.r 66) (.c (.lit (.bool true))) (.r 69)⟩]
def f23_31 : AC := .ops [1, 70] [] f23_31l
theorem f23_31e : aC P id m f23_31 sf st Q = runI P id m f23_31l (opsK [1, 70] [] Q) sf st := rfl
def f23_34l : List GI := [⟨none, .mv (some 0) (.c (.lit (.bool false)))⟩]
def f23_34 : AC := .ops [0] [] f23_34l
theorem f23_34e : aC P id m f23_34 sf st Q = runI P id m f23_34l (opsK [0] [] Q) sf st := rfl
def f23_33 : AC := .seq f23_34 .ret
theorem f23_33e : aC P id m f23_33 sf st Q = aC P id m f23_34 sf st (seqQ (aC P id m .ret) Q) := rfl
def f23_32 : AC := .cond (.r 70) f23_33 .skip
theorem f23_32e : aC P id m f23_32 sf st Q = condI (.r 70) (sf.ev id (.r 70)) (aC P id m f23_33) (aC P id m .skip) sf st Q := rfl
def f23_30 : AC := .seq f23_31 f23_32
theorem f23_30e : aC P id m f23_30 sf st Q = aC P id m f23_31 sf st (seqQ (aC P id m f23_32) Q) := rfl
def f23_36l : List GI := [⟨none, .mv (some 72) (.r 1)⟩,
    ⟨none, .call (some 73) false (.f 35) [(.r 72), (.c (.lit (.int .u64 2)))]⟩,
    ⟨none, .mv (some 71) (.r 73)⟩,
    ⟨none, .ext (some 74) (.r 71) 0⟩,
    ⟨none, .ext (some 75) (.r 71) 1⟩,
    ⟨none, .own 4 75⟩]
def f23_36 : AC := .ops [1, 4] [] f23_36l
theorem f23_36e : aC P id m f23_36 sf st Q = runI P id m f23_36l (opsK [1, 4] [] Q) sf st := rfl
def f23_38l : List GI := [⟨none, .mv (some 76) (.r 4)⟩,
    ⟨none, .bin (some 77) .num .eql (.r 76) (.c (.lit (.int .i64 9)))⟩,
    ⟨none, .mv (some 78) (.r 77)⟩,
    ⟨some (78, true), .mv (some 79) (.r 1)⟩,
    ⟨some (78, true), .call (some 80) false (.f 33) [(.r 79), (.c (.lit (.int .i64 7))), (.c (.lit (.int .u64 1)))]⟩,
    ⟨none, .pick (some 81) (.r 78) (.r 80) (.c (.lit (.bool false)))⟩,
    ⟨none, .mv (some 82) (.r 81)⟩,
    ⟨some (82, true), .mv (some 83) (.r 1)⟩,
    ⟨some (82, true), .call (some 84) false (.f 34) [(.r 83), (.c (.lit (.int .i64 5))), (.c (.lit (.int .u64 4)))]⟩,
    ⟨none, .pick (some 85) (.r 82) (.r 84) (.c (.lit (.bool false)))⟩,
    ⟨none, .mv (some 86) (.r 85)⟩,
    ⟨some (86, true), .mv (some 87) (.r 1)⟩,
    ⟨some (86, true), .call (some 88) false (.f 28) [(.r 87)]⟩,
    ⟨some (86, true), .bin (some 89) .num .eql (.r 88) (.c (.lit (.int .i64 2)))⟩,
    ⟨none, .pick (some 90) (.r 86) (.r 89) (.c (.lit (.bool false)))⟩,
    ⟨none, .mv (some 91) (.r 90)⟩,
    ⟨some (91, true), .mv (some 92) (.r 1)⟩,
    ⟨some (91, true), .bst (some 93) [(0, 1), (1, 1)] (.agg [(.lit (.int .i64 0)), (.lit (.int .u64 0))]) [(0, (.c (.lit (.int .i64 9)))), (1, (.c (.lit (.int .u64 3))))]⟩,
    ⟨some (91, true), .bst (some 94) [(0, 1), (1, 1)] (.agg [(.lit (.int .i64 0)), (.lit (.int .u64 0))]) [(0, (.c (.lit (.int .i64 5)))), (1, (.c (.lit (.int .u64 4))))]⟩,
    ⟨some (91, true), .bsl (some 95) 2 2 (.agg [(.lit (.int .i64 0)), (.lit (.int .u64 0))]) [(0, (.r 93)), (1, (.r 94))]⟩,
    ⟨some (91, true), .call (some 96) false (.f 29) [(.r 92), (.r 95)]⟩,
    ⟨none, .pick (some 97) (.r 91) (.r 96) (.c (.lit (.bool false)))⟩,
    ⟨none, .own 0 97⟩]
def f23_38 : AC := .ops [0] [] f23_38l
theorem f23_38e : aC P id m f23_38 sf st Q = runI P id m f23_38l (opsK [0] [] Q) sf st := rfl
def f23_37 : AC := .seq f23_38 .ret
theorem f23_37e : aC P id m f23_37 sf st Q = aC P id m f23_38 sf st (seqQ (aC P id m .ret) Q) := rfl
def f23_35 : AC := .seq f23_36 f23_37
theorem f23_35e : aC P id m f23_35 sf st Q = aC P id m f23_36 sf st (seqQ (aC P id m f23_37) Q) := rfl
def f23_29 : AC := .seq f23_30 f23_35
theorem f23_29e : aC P id m f23_29 sf st Q = aC P id m f23_30 sf st (seqQ (aC P id m f23_35) Q) := rfl
def f23_27 : AC := .seq f23_28 f23_29
theorem f23_27e : aC P id m f23_27 sf st Q = aC P id m f23_28 sf st (seqQ (aC P id m f23_29) Q) := rfl
def f23_21 : AC := .seq f23_22 f23_27
theorem f23_21e : aC P id m f23_21 sf st Q = aC P id m f23_22 sf st (seqQ (aC P id m f23_27) Q) := rfl
def f23_19 : AC := .seq f23_20 f23_21
theorem f23_19e : aC P id m f23_19 sf st Q = aC P id m f23_20 sf st (seqQ (aC P id m f23_21) Q) := rfl
def f23_13 : AC := .seq f23_14 f23_19
theorem f23_13e : aC P id m f23_13 sf st Q = aC P id m f23_14 sf st (seqQ (aC P id m f23_19) Q) := rfl
def f23_11 : AC := .seq f23_12 f23_13
theorem f23_11e : aC P id m f23_11 sf st Q = aC P id m f23_12 sf st (seqQ (aC P id m f23_13) Q) := rfl
def f23_5 : AC := .seq f23_6 f23_11
theorem f23_5e : aC P id m f23_5 sf st Q = aC P id m f23_6 sf st (seqQ (aC P id m f23_11) Q) := rfl
def f23_3 : AC := .seq f23_4 f23_5
theorem f23_3e : aC P id m f23_3 sf st Q = aC P id m f23_4 sf st (seqQ (aC P id m f23_5) Q) := rfl
def f23_1 : AC := .seq f23_2 f23_3
theorem f23_1e : aC P id m f23_1 sf st Q = aC P id m f23_2 sf st (seqQ (aC P id m f23_3) Q) := rfl
def c_f23 : AFun := ⟨98, [.tmp 0], f23_1⟩
theorem k_f23 : compF Go.Proofs.Try.prog x_f23 23 = some c_f23 := by kernel_rfl
theorem e_f23 : enterB Go.Proofs.Try.prog 23 = true := by kernel_rfl

def n_f24 : Nat := 24
def x_f24 : Cx := ⟨some, id, 4, fun s => ([0, 1, 2, 3] : List Nat).contains s, fun s => ([] : List Nat).contains s, msOf [(2, [], []), (6, [0], [])]⟩
def f24_2l : List GI := [⟨none, .mv (some 0) (.c (.lit (.pointer none)))⟩]
def f24_2 : AC := .ops [] [] f24_2l
theorem f24_2e : aC P id m f24_2 sf st Q = runI P id m f24_2l (opsK [] [] Q) sf st := rfl
def f24_4l : List GI := [⟨none, .mkmap 1⟩,
    ⟨none, .bst (some 2) [(0, 3), (3, 1)] (.agg [(.lit (.int .u64 0)), (.lit (.int .u64 0)), (.lit (.int .u64 0)), (.lit (.map none))]) [(1, (.r 1))]⟩,
    ⟨none, .boxB 3 4 (.r 2)⟩,
    ⟨none, .own 0 3⟩]
def f24_4 : AC := .ops [0] [] f24_4l
theorem f24_4e : aC P id m f24_4 sf st Q = runI P id m f24_4l (opsK [0] [] Q) sf st := rfl
def f24_3 : AC := .seq f24_4 .ret
theorem f24_3e : aC P id m f24_3 sf st Q = aC P id m f24_4 sf st (seqQ (aC P id m .ret) Q) := rfl
def f24_1 : AC := .seq f24_2 f24_3
theorem f24_1e : aC P id m f24_1 sf st Q = aC P id m f24_2 sf st (seqQ (aC P id m f24_3) Q) := rfl
def c_f24 : AFun := ⟨4, [.tmp 0], f24_1⟩
theorem k_f24 : compF Go.Proofs.Try.prog x_f24 24 = some c_f24 := by kernel_rfl
theorem e_f24 : enterB Go.Proofs.Try.prog 24 = true := by kernel_rfl

def n_f25 : Nat := 25
def x_f25 : Cx := ⟨some, id, 155, fun s => ([0, 1, 2, 6, 8, 9, 10, 12, 13, 14, 15, 16, 18, 19, 20, 21, 22, 24, 25, 26, 27, 28, 29, 30, 32, 34, 35, 36, 38, 39, 40, 41, 42, 43, 45, 46, 47, 48, 49, 50, 51, 52, 53, 54, 55, 56, 57, 58, 59, 61, 62, 63, 64, 65, 66, 67, 68, 69, 70, 71, 72, 73, 74, 75, 76, 77, 78, 79, 80, 81, 82, 83, 84, 85, 86, 87, 88, 89, 91, 92, 93, 95, 96, 97, 98, 99, 100, 102, 103, 104, 105, 106, 107, 108, 109, 110, 111, 112, 113, 114, 115, 116, 118, 119, 120, 122, 123, 124, 125, 126, 127, 129, 130, 131, 132, 133, 134, 135, 136, 137, 138, 139, 140, 141, 142, 143, 144, 145, 147, 148, 149, 151, 153, 154] : List Nat).contains s, fun s => ([] : List Nat).contains s, msOf [(2, [0, 4, 5, 7], [4, 5, 7]), (12, [0, 4, 5, 7, 32], [4, 5, 7]), (52, [0, 4, 5, 7, 32, 33], [4, 5, 7]), (212, [0, 4, 5, 7, 9, 10], [4, 5, 7]), (426, [0, 7, 9, 10, 11, 12, 13], [7, 11]), (854, [6, 7, 8], [7]), (214, [0, 4, 5, 7, 32, 60], [4, 5, 7]), (860, [0, 4, 7, 14, 15, 16], [4, 7]), (1722, [0, 7, 14, 15, 16, 17, 18, 19, 20], [7, 17]), (3446, [6, 7, 8], [7]), (862, [0, 4, 5, 7, 32, 90], [4, 5, 7]), (3452, [0, 4, 5, 7, 21, 22], [4, 5, 7]), (6906, [0, 7, 21, 22, 23, 24, 25], [7, 23]), (13814, [6, 7, 8], [7]), (3454, [0, 4, 5, 7, 117], [4, 5, 7]), (13820, [0, 4, 5, 7, 26, 27], [4, 5, 7]), (27642, [0, 4, 7, 26, 27, 28, 29], [4, 7]), (55286, [6, 7, 8], [7]), (14, [0, 4, 7, 30], [4, 7]), (60, [0, 4, 7, 30, 146], [4, 7]), (244, [6, 7, 8], [7]), (62, [0, 4, 7, 30], [4, 7]), (126, [4, 7, 30], [4, 7]), (254, [6, 7, 8], [7])]⟩
def f25_2l : List GI := [⟨none, .boxL 4 2 (.r 1)⟩,
    ⟨none, .boxL 5 3 (.r 2)⟩,
    ⟨none, .mv (some 6) (.c (.lit (.pointer none)))⟩,
    ⟨none, .newL 7 [(.lit (.slice none 0 0)), (.lit (.int .u64 0))]⟩,
    ⟨none, .mv (some 8) (.c (.lit (.bool false)))⟩]
def f25_2 : AC := .ops [0, 4, 5, 7] [4, 5, 7] f25_2l
theorem f25_2e : aC P id m f25_2 sf st Q = runI P id m f25_2l (opsK [0, 4, 5, 7] [4, 5, 7] Q) sf st := rfl
def f25_5l : List GI := [⟨none, .addr (some 31) (.r 5) 0⟩,
    ⟨none, .load (some 32) (.r 31) none⟩]
def f25_5 : AC := .ops [0, 4, 5, 7, 32] [4, 5, 7] f25_5l
theorem f25_5e : aC P id m f25_5 sf st Q = runI P id m f25_5l (opsK [0, 4, 5, 7, 32] [4, 5, 7] Q) sf st := rfl
def f25_8l : List GI := [⟨none, .bin (some 34) .num .eql (.r 32) (.c (.lit (.int .i64 0)))⟩,
    ⟨none, .own 33 34⟩]
def f25_8 : AC := .ops [0, 4, 5, 7, 32, 33] [4, 5, 7] f25_8l
theorem f25_8e : aC P id m f25_8 sf st Q = runI P id m f25_8l (opsK [0, 4, 5, 7, 32, 33] [4, 5, 7] Q) sf st := rfl
def f25_11l : List GI := [⟨none, .mv (some 36) (.r 0)⟩,
    ⟨none, .addr (some 37) (.r 5) 1⟩,
    ⟨none, .load (some 38) (.r 37) none⟩,
    ⟨none, .call (some 39) false (.f 32) [(.r 36), (.r 38)]⟩,
    ⟨none, .mv (some 35) (.r 39)⟩,
    ⟨none, .ext (some 40) (.r 35) 0⟩,
    ⟨none, .ext (some 41) (.r 35) 1⟩,
    ⟨none, .own 9 40⟩,
    ⟨none, .own 10 41⟩]
def f25_11 : AC := .ops [0, 4, 5, 7, 9, 10] [4, 5, 7] f25_11l
theorem f25_11e : aC P id m f25_11 sf st Q = runI P id m f25_11l (opsK [0, 4, 5, 7, 9, 10] [4, 5, 7] Q) sf st := rfl
def f25_13l : List GI := [⟨none, .load (some 43) (.r 4) (some 2)⟩,
    ⟨none, .addr (some 44) (.r 5) 1⟩,
    ⟨none, .load (some 45) (.r 44) none⟩,
    ⟨none, .call (some 46) false (.f 50) [(.r 43), (.r 45)]⟩,
    ⟨none, .mv (some 42) (.r 46)⟩,
    ⟨none, .ext (some 47) (.r 42) 0⟩,
    ⟨none, .ext (some 48) (.r 42) 1⟩,
    ⟨none, .ext (some 49) (.r 42) 2⟩,
    ⟨none, .newL 11 [(.lit (.slice none 0 0)), (.lit (.int .u64 0))]⟩,
    ⟨none, .store 2 (.r 11) (.r 47)⟩,
    ⟨none, .own 12 48⟩,
    ⟨none, .own 13 49⟩]
def f25_13 : AC := .ops [0, 7, 9, 10, 11, 12, 13] [7, 11] f25_13l
theorem f25_13e : aC P id m f25_13 sf st Q = runI P id m f25_13l (opsK [0, 7, 9, 10, 11, 12, 13] [7, 11] Q) sf st := rfl
def f25_15h : List GI := [⟨none, .mv (some 50) (.r 0)⟩,
    ⟨none, .load (some 51) (.r 11) (some 2)⟩,
    ⟨none, .mv (some 52) (.r 9)⟩,
    ⟨none, .mv (some 53) (.r 12)⟩,
    ⟨none, .bin (some 54) .num .eql (.r 52) (.r 53)⟩,
    ⟨none, .mv (some 55) (.r 54)⟩,
    ⟨some (55, true), .mv (some 56) (.r 10)⟩,
    ⟨some (55, true), .mv (some 57) (.r 13)⟩,
    ⟨some (55, true), .bin (some 58) .num .eql (.r 56) (.r 57)⟩,
    ⟨none, .pick (some 59) (.r 55) (.r 58) (.c (.lit (.bool false)))⟩,
    ⟨none, .mv (some 6) (.r 50)⟩,
    ⟨none, .store 2 (.r 7) (.r 51)⟩]
def f25_15l : List GI := [⟨none, .own 8 59⟩]
def f25_15 : AC := .draw [6, 7, 8] [7] [7] f25_15h f25_15l
theorem f25_15e : aC P id m f25_15 sf st Q = headI P id sf.locs st f25_15h (tailK P id m [7] [6, 7, 8] [7] f25_15l Q st) [] ⟨sf.regs, dropL [7] sf.locs⟩ := rfl
def f25_14 : AC := .seq f25_15 .ret
theorem f25_14e : aC P id m f25_14 sf st Q = aC P id m f25_15 sf st (seqQ (aC P id m .ret) Q) := rfl
def f25_12 : AC := .seq f25_13 f25_14
theorem f25_12e : aC P id m f25_12 sf st Q = aC P id m f25_13 sf st (seqQ (aC P id m f25_14) Q) := rfl
def f25_10 : AC := .seq f25_11 f25_12
theorem f25_10e : aC P id m f25_10 sf st Q = aC P id m f25_11 sf st (seqQ (aC P id m f25_12) Q) := rfl
def f25_17l : List GI := [⟨none, .bin (some 61) .num .eql (.r 32) (.c (.lit (.int .i64 1)))⟩,
    ⟨none, .own 60 61⟩]
def f25_17 : AC := .ops [0, 4, 5, 7, 32, 60] [4, 5, 7] f25_17l
theorem f25_17e : aC P id m f25_17 sf st Q = runI P id m f25_17l (opsK [0, 4, 5, 7, 32, 60] [4, 5, 7] Q) sf st := rfl
def f25_20l : List GI := [⟨none, .mv (some 63) (.r 0)⟩,
    ⟨none, .call (some 64) false (.f 31) [(.r 63)]⟩,
    ⟨none, .mv (some 62) (.r 64)⟩,
    ⟨none, .ext (some 65) (.r 62) 0⟩,
    ⟨none, .ext (some 66) (.r 62) 1⟩,
    ⟨none, .ext (some 67) (.r 62) 2⟩,
    ⟨none, .own 14 65⟩,
    ⟨none, .own 15 66⟩,
    ⟨none, .own 16 67⟩]
def f25_20 : AC := .ops [0, 4, 7, 14, 15, 16] [4, 7] f25_20l
theorem f25_20e : aC P id m f25_20 sf st Q = runI P id m f25_20l (opsK [0, 4, 7, 14, 15, 16] [4, 7] Q) sf st := rfl
def f25_22l : List GI := [⟨none, .load (some 69) (.r 4) (some 2)⟩,
    ⟨none, .call (some 70) false (.f 51) [(.r 69)]⟩,
    ⟨none, .mv (some 68) (.r 70)⟩,
    ⟨none, .ext (some 71) (.r 68) 0⟩,
    ⟨none, .ext (some 72) (.r 68) 1⟩,
    ⟨none, .ext (some 73) (.r 68) 2⟩,
    ⟨none, .ext (some 74) (.r 68) 3⟩,
    ⟨none, .newL 17 [(.lit (.slice none 0 0)), (.lit (.int .u64 0))]⟩,
    ⟨none, .store 2 (.r 17) (.r 71)⟩,
    ⟨none, .own 18 72⟩,
    ⟨none, .own 19 73⟩,
    ⟨none, .own 20 74⟩]
def f25_22 : AC := .ops [0, 7, 14, 15, 16, 17, 18, 19, 20] [7, 17] f25_22l
theorem f25_22e : aC P id m f25_22 sf st Q = runI P id m f25_22l (opsK [0, 7, 14, 15, 16, 17, 18, 19, 20] [7, 17] Q) sf st := rfl
def f25_24h : List GI := [⟨none, .mv (some 75) (.r 0)⟩,
    ⟨none, .load (some 76) (.r 17) (some 2)⟩,
    ⟨none, .mv (some 77) (.r 14)⟩,
    ⟨none, .mv (some 78) (.r 18)⟩,
    ⟨none, .bin (some 79) .num .eql (.r 77) (.r 78)⟩,
    ⟨none, .mv (some 80) (.r 79)⟩,
    ⟨some (80, true), .mv (some 81) (.r 15)⟩,
    ⟨some (80, true), .mv (some 82) (.r 19)⟩,
    ⟨some (80, true), .bin (some 83) .num .eql (.r 81) (.r 82)⟩,
    ⟨none, .pick (some 84) (.r 80) (.r 83) (.c (.lit (.bool false)))⟩,
    ⟨none, .mv (some 85) (.r 84)⟩,
    ⟨some (85, true), .mv (some 86) (.r 16)⟩,
    ⟨some (85, true), .mv (some 87) (.r 20)⟩,
    ⟨some (85, true), .bin (some 88) .num .eql (.r 86) (.r 87)⟩,
    ⟨none, .pick (some 89) (.r 85) (.r 88) (.c (.lit (.bool false)))⟩,
    ⟨none, .mv (some 6) (.r 75)⟩,
    ⟨none, .store 2 (.r 7) (.r 76)⟩]
def f25_24l : List GI := [⟨none, .own 8 89⟩]
def f25_24 : AC := .draw [6, 7, 8] [7] [7] f25_24h f25_24l
theorem f25_24e : aC P id m f25_24 sf st Q = headI P id sf.locs st f25_24h (tailK P id m [7] [6, 7, 8] [7] f25_24l Q st) [] ⟨sf.regs, dropL [7] sf.locs⟩ := rfl
def f25_23 : AC := .seq f25_24 .ret
theorem f25_23e : aC P id m f25_23 sf st Q = aC P id m f25_24 sf st (seqQ (aC P id m .ret) Q) := rfl
def f25_21 : AC := .seq f25_22 f25_23
theorem f25_21e : aC P id m f25_21 sf st Q = aC P id m f25_22 sf st (seqQ (aC P id m f25_23) Q) := rfl
def f25_19 : AC := .seq f25_20 f25_21
theorem f25_19e : aC P id m f25_19 sf st Q = aC P id m f25_20 sf st (seqQ (aC P id m f25_21) Q) := rfl
def f25_26l : List GI := [⟨none, .bin (some 91) .num .eql (.r 32) (.c (.lit (.int .i64 2)))⟩,
    ⟨none, .own 90 91⟩]
def f25_26 : AC := .ops [0, 4, 5, 7, 32, 90] [4, 5, 7] f25_26l
theorem f25_26e : aC P id m f25_26 sf st Q = runI P id m f25_26l (opsK [0, 4, 5, 7, 32, 90] [4, 5, 7] Q) sf st := rfl
def f25_29l : List GI := [⟨none, .mv (some 93) (.r 0)⟩,
    ⟨none, .addr (some 94) (.r 5) 2⟩,
    ⟨none, .load (some 95) (.r 94) none⟩,
    ⟨none, .call (some 96) false (.f 35) [(.r 93), (.r 95)]⟩,
    ⟨none, .mv (some 92) (.r 96)⟩,
    ⟨none, .ext (some 97) (.r 92) 0⟩,
    ⟨none, .ext (some 98) (.r 92) 1⟩,
    ⟨none, .own 21 97⟩,
    ⟨none, .own 22 98⟩]
def f25_29 : AC := .ops [0, 4, 5, 7, 21, 22] [4, 5, 7] f25_29l
theorem f25_29e : aC P id m f25_29 sf st Q = runI P id m f25_29l (opsK [0, 4, 5, 7, 21, 22] [4, 5, 7] Q) sf st := rfl
def f25_31l : List GI := [⟨none, .load (some 100) (.r 4) (some 2)⟩,
    ⟨none, .addr (some 101) (.r 5) 2⟩,
    ⟨none, .load (some 102) (.r 101) none⟩,
    ⟨none, .call (some 103) false (.f 52) [(.r 100), (.r 102)]⟩,
    ⟨none, .mv (some 99) (.r 103)⟩,
    ⟨none, .ext (some 104) (.r 99) 0⟩,
    ⟨none, .ext (some 105) (.r 99) 1⟩,
    ⟨none, .ext (some 106) (.r 99) 2⟩,
    ⟨none, .newL 23 [(.lit (.slice none 0 0)), (.lit (.int .u64 0))]⟩,
    ⟨none, .store 2 (.r 23) (.r 104)⟩,
    ⟨none, .own 24 105⟩,
    ⟨none, .own 25 106⟩]
def f25_31 : AC := .ops [0, 7, 21, 22, 23, 24, 25] [7, 23] f25_31l
theorem f25_31e : aC P id m f25_31 sf st Q = runI P id m f25_31l (opsK [0, 7, 21, 22, 23, 24, 25] [7, 23] Q) sf st := rfl
def f25_33h : List GI := [⟨none, .mv (some 107) (.r 0)⟩,
    ⟨none, .load (some 108) (.r 23) (some 2)⟩,
    ⟨none, .mv (some 109) (.r 21)⟩,
    ⟨none, .mv (some 110) (.r 24)⟩,
    ⟨none, .bin (some 111) .num .eql (.r 109) (.r 110)⟩,
    ⟨none, .mv (some 112) (.r 111)⟩,
    ⟨some (112, true), .mv (some 113) (.r 22)⟩,
    ⟨some (112, true), .mv (some 114) (.r 25)⟩,
    ⟨some (112, true), .bin (some 115) .num .eql (.r 113) (.r 114)⟩,
    ⟨none, .pick (some 116) (.r 112) (.r 115) (.c (.lit (.bool false)))⟩,
    ⟨none, .mv (some 6) (.r 107)⟩,
    ⟨none, .store 2 (.r 7) (.r 108)⟩]
def f25_33l : List GI := [⟨none, .own 8 116⟩]
def f25_33 : AC := .draw [6, 7, 8] [7] [7] f25_33h f25_33l
theorem f25_33e : aC P id m f25_33 sf st Q = headI P id sf.locs st f25_33h (tailK P id m [7] [6, 7, 8] [7] f25_33l Q st) [] ⟨sf.regs, dropL [7] sf.locs⟩ := rfl
def f25_32 : AC := .seq f25_33 .ret
theorem f25_32e : aC P id m f25_32 sf st Q = aC P id m f25_33 sf st (seqQ (aC P id m .ret) Q) := rfl
def f25_30 : AC := .seq f25_31 f25_32
theorem f25_30e : aC P id m f25_30 sf st Q = aC P id m f25_31 sf st (seqQ (aC P id m f25_32) Q) := rfl
def f25_28 : AC := .seq f25_29 f25_30
theorem f25_28e : aC P id m f25_28 sf st Q = aC P id m f25_29 sf st (seqQ (aC P id m f25_30) Q) := rfl
def f25_35l : List GI := [⟨none, .bin (some 118) .num .eql (.r 32) (.c (.lit (.int .i64 3)))⟩,
    ⟨none, .own 117 118⟩]
def f25_35 : AC := .ops [0, 4, 5, 7, 117] [4, 5, 7] f25_35l
theorem f25_35e : aC P id m f25_35 sf st Q = runI P id m f25_35l (opsK [0, 4, 5, 7, 117] [4, 5, 7] Q) sf st := rfl
def f25_38l : List GI := [⟨none, .mv (some 120) (.r 0)⟩,
    ⟨none, .addr (some 121) (.r 5) 2⟩,
    ⟨none, .load (some 122) (.r 121) none⟩,
    ⟨none, .call (some 123) false (.f 36) [(.r 120), (.r 122)]⟩,
    ⟨none, .mv (some 119) (.r 123)⟩,
    ⟨none, .ext (some 124) (.r 119) 0⟩,
    ⟨none, .ext (some 125) (.r 119) 1⟩,
    ⟨none, .own 26 124⟩,
    ⟨none, .own 27 125⟩]
def f25_38 : AC := .ops [0, 4, 5, 7, 26, 27] [4, 5, 7] f25_38l
theorem f25_38e : aC P id m f25_38 sf st Q = runI P id m f25_38l (opsK [0, 4, 5, 7, 26, 27] [4, 5, 7] Q) sf st := rfl
def f25_40l : List GI := [⟨none, .load (some 127) (.r 4) (some 2)⟩,
    ⟨none, .addr (some 128) (.r 5) 2⟩,
    ⟨none, .load (some 129) (.r 128) none⟩,
    ⟨none, .call (some 130) false (.f 53) [(.r 127), (.r 129)]⟩,
    ⟨none, .mv (some 126) (.r 130)⟩,
    ⟨none, .ext (some 131) (.r 126) 0⟩,
    ⟨none, .ext (some 132) (.r 126) 1⟩,
    ⟨none, .own 28 131⟩,
    ⟨none, .own 29 132⟩]
def f25_40 : AC := .ops [0, 4, 7, 26, 27, 28, 29] [4, 7] f25_40l
theorem f25_40e : aC P id m f25_40 sf st Q = runI P id m f25_40l (opsK [0, 4, 7, 26, 27, 28, 29] [4, 7] Q) sf st := rfl
def f25_42h : List GI := [⟨none, .mv (some 133) (.r 0)⟩,
    ⟨none, .load (some 134) (.r 4) (some 2)⟩,
    ⟨none, .mv (some 135) (.r 26)⟩,
    ⟨none, .mv (some 136) (.r 28)⟩,
    ⟨none, .bin (some 137) .num .eql (.r 135) (.r 136)⟩,
    ⟨none, .mv (some 138) (.r 137)⟩,
    ⟨some (138, true), .mv (some 139) (.r 27)⟩,
    ⟨some (138, true), .mv (some 140) (.r 29)⟩,
    ⟨some (138, true), .bin (some 141) .num .eql (.r 139) (.r 140)⟩,
    ⟨none, .pick (some 142) (.r 138) (.r 141) (.c (.lit (.bool false)))⟩,
    ⟨none, .mv (some 6) (.r 133)⟩,
    ⟨none, .store 2 (.r 7) (.r 134)⟩]
def f25_42l : List GI := [⟨none, .own 8 142⟩]
def f25_42 : AC := .draw [6, 7, 8] [7] [7] f25_42h f25_42l
theorem f25_42e : aC P id m f25_42 sf st Q = headI P id sf.locs st f25_42h (tailK P id m [7] [6, 7, 8] [7] f25_42l Q st) [] ⟨sf.regs, dropL [7] sf.locs⟩ := rfl
def f25_41 : AC := .seq f25_42 .ret
theorem f25_41e : aC P id m f25_41 sf st Q = aC P id m f25_42 sf st (seqQ (aC P id m .ret) Q) := rfl
def f25_39 : AC := .seq f25_40 f25_41
theorem f25_39e : aC P id m f25_39 sf st Q = aC P id m f25_40 sf st (seqQ (aC P id m f25_41) Q) := rfl
def f25_37 : AC := .seq f25_38 f25_39
theorem f25_37e : aC P id m f25_37 sf st Q = aC P id m f25_38 sf st (seqQ (aC P id m f25_39) Q) := rfl
def f25_36 : AC := .cond (.r 117) f25_37 .skip
theorem f25_36e : aC P id m f25_36 sf st Q = condI (.r 117) (sf.ev id (.r 117)) (aC P id m f25_37) (aC P id m .skip) sf st Q := rfl
def f25_34 : AC := .seq f25_35 f25_36
theorem f25_34e : aC P id m f25_34 sf st Q = aC P id m f25_35 sf st (seqQ (aC P id m f25_36) Q) := rfl
def f25_27 : AC := .cond (.r 90) f25_28 f25_34
theorem f25_27e : aC P id m f25_27 sf st Q = condI (.r 90) (sf.ev id (.r 90)) (aC P id m f25_28) (aC P id m f25_34) sf st Q := rfl
def f25_25 : AC := .seq f25_26 f25_27
theorem f25_25e : aC P id m f25_25 sf st Q = aC P id m f25_26 sf st (seqQ (aC P id m f25_27) Q) := rfl
def f25_18 : AC := .cond (.r 60) f25_19 f25_25
theorem f25_18e : aC P id m f25_18 sf st Q = condI (.r 60) (sf.ev id (.r 60)) (aC P id m f25_19) (aC P id m f25_25) sf st Q := rfl
def f25_16 : AC := .seq f25_17 f25_18
theorem f25_16e : aC P id m f25_16 sf st Q = aC P id m f25_17 sf st (seqQ (aC P id m f25_18) Q) := rfl
def f25_9 : AC := .cond (.r 33) f25_10 f25_16
theorem f25_9e : aC P id m f25_9 sf st Q = condI (.r 33) (sf.ev id (.r 33)) (aC P id m f25_10) (aC P id m f25_16) sf st Q := rfl
def f25_7 : AC := .seq f25_8 f25_9
theorem f25_7e : aC P id m f25_7 sf st Q = aC P id m f25_8 sf st (seqQ (aC P id m f25_9) Q) := rfl
def f25_6 : AC := .block 0 f25_7
theorem f25_6e : aC P id m f25_6 sf st Q = aC P id m f25_7 sf st (blockQ 0 Q) := rfl
def f25_4 : AC := .seq f25_5 f25_6
theorem f25_4e : aC P id m f25_4 sf st Q = aC P id m f25_5 sf st (seqQ (aC P id m f25_6) Q) := rfl
def f25_44l : List GI := [⟨none, .mv (some 143) (.r 0)⟩,
    ⟨none, .call (some 144) false (.f 37) [(.r 143)]⟩,
    ⟨none, .own 30 144⟩]
def f25_44 : AC := .ops [0, 4, 7, 30] [4, 7] f25_44l
theorem f25_44e : aC P id m f25_44 sf st Q = runI P id m f25_44l (opsK [0, 4, 7, 30] [4, 7] Q) sf st := rfl
def f25_47l : List GI := [⟨none, .mv (some 145) (.r 30)⟩,
    ⟨none, .bin (some 146) (.nil .ptr) .eql (.r 145) (.c (.lit (.pointer none)))⟩]
def f25_47 : AC := .ops [0, 4, 7, 30, 146] [4, 7] f25_47l
theorem f25_47e : aC P id m f25_47 sf st Q = runI P id m f25_47l (opsK [0, 4, 7, 30, 146] [4, 7] Q) sf st := rfl
def f25_50h : List GI := [⟨none, .mv (some 147) (.r 0)⟩,
    ⟨none, .load (some 148) (.r 4) (some 2)⟩,
    ⟨none, .mv (some 6) (.r 147)⟩]
def f25_50l : List GI := [⟨none, .store 2 (.r 7) (.r 148)⟩,
    ⟨none, .mv (some 8) (.c (.lit (.bool false)))⟩]
def f25_50 : AC := .draw [6, 7, 8] [7] [] f25_50h f25_50l
theorem f25_50e : aC P id m f25_50 sf st Q = headI P id sf.locs st f25_50h (tailK P id m [] [6, 7, 8] [7] f25_50l Q st) [] ⟨sf.regs, dropL [] sf.locs⟩ := rfl
def f25_49 : AC := .seq f25_50 .ret
theorem f25_49e : aC P id m f25_49 sf st Q = aC P id m f25_50 sf st (seqQ (aC P id m .ret) Q) := rfl
def f25_48 : AC := .cond (.r 146) f25_49 .skip
theorem f25_48e : aC P id m f25_48 sf st Q = condI (.r 146) (sf.ev id (.r 146)) (aC P id m f25_49) (aC P id m .skip) sf st Q := rfl
def f25_46 : AC := .seq f25_47 f25_48
theorem f25_46e : aC P id m f25_46 sf st Q = aC P id m f25_47 sf st (seqQ (aC P id m f25_48) Q) := rfl
def f25_52l : List GI := [⟨none, .mv (some 149) (.r 0)⟩,
    ⟨none, .call (some 150) false (.f 31) [(.r 149)]⟩]
def f25_52 : AC := .ops [0, 4, 7, 30] [4, 7] f25_52l
theorem f25_52e : aC P id m f25_52 sf st Q = runI P id m f25_52l (opsK [0, 4, 7, 30] [4, 7] Q) sf st := rfl
def f25_54l : List GI := [⟨none, .mv (some 151) (.r 0)⟩,
    ⟨none, .call (some 152) false (.f 32) [(.r 151), (.c (.lit (.int .i64 1)))]⟩]
def f25_54 : AC := .ops [4, 7, 30] [4, 7] f25_54l
theorem f25_54e : aC P id m f25_54 sf st Q = runI P id m f25_54l (opsK [4, 7, 30] [4, 7] Q) sf st := rfl
def f25_56h : List GI := [⟨none, .mv (some 153) (.r 30)⟩,
    ⟨none, .load (some 154) (.r 4) (some 2)⟩,
    ⟨none, .mv (some 6) (.r 153)⟩]
def f25_56l : List GI := [⟨none, .store 2 (.r 7) (.r 154)⟩,
    ⟨none, .mv (some 8) (.c (.lit (.bool true)))⟩]
def f25_56 : AC := .draw [6, 7, 8] [7] [] f25_56h f25_56l
theorem f25_56e : aC P id m f25_56 sf st Q = headI P id sf.locs st f25_56h (tailK P id m [] [6, 7, 8] [7] f25_56l Q st) [] ⟨sf.regs, dropL [] sf.locs⟩ := rfl
def f25_55 : AC := .seq f25_56 .ret
theorem f25_55e : aC P id m f25_55 sf st Q = aC P id m f25_56 sf st (seqQ (aC P id m .ret) Q) := rfl
def f25_53 : AC := .seq f25_54 f25_55
theorem f25_53e : aC P id m f25_53 sf st Q = aC P id m f25_54 sf st (seqQ (aC P id m f25_55) Q) := rfl
def f25_51 : AC := .seq f25_52 f25_53
theorem f25_51e : aC P id m f25_51 sf st Q = aC P id m f25_52 sf st (seqQ (aC P id m f25_53) Q) := rfl
def f25_45 : AC := .seq f25_46 f25_51
theorem f25_45e : aC P id m f25_45 sf st Q = aC P id m f25_46 sf st (seqQ (aC P id m f25_51) Q) := rfl
def f25_43 : AC := .seq f25_44 f25_45
theorem f25_43e : aC P id m f25_43 sf st Q = aC P id m f25_44 sf st (seqQ (aC P id m f25_45) Q) := rfl
def f25_3 : AC := .seq f25_4 f25_43
theorem f25_3e : aC P id m f25_3 sf st Q = aC P id m f25_4 sf st (seqQ (aC P id m f25_43) Q) := rfl
def f25_1 : AC := .seq f25_2 f25_3
theorem f25_1e : aC P id m f25_1 sf st Q = aC P id m f25_2 sf st (seqQ (aC P id m f25_3) Q) := rfl
def c_f25 : AFun := ⟨155, [.tmp 6, .cell 7 (some 2), .tmp 8], f25_1⟩
theorem k_f25 : compF Go.Proofs.Try.prog x_f25 25 = some c_f25 := by kernel_rfl
theorem e_f25 : enterB Go.Proofs.Try.prog 25 = true := by kernel_rfl

def n_f26 : Nat := 26
def x_f26 : Cx := ⟨some, id, 31, fun s => ([0, 2, 3, 4, 6, 7, 13, 14, 18, 23, 24, 25, 30] : List Nat).contains s, fun s => ([] : List Nat).contains s, msOf [(2, [0], []), (24, [0, 5], []), (100, [2, 3, 4], []), (102, [0, 8], []), (412, [2, 3, 4], []), (14, [2, 3, 4], [])]⟩
def f26_2l : List GI := [⟨none, .mv (some 2) (.c (.lit (.int .i64 0)))⟩,
    ⟨none, .mv (some 3) (.c (.lit (.int .u64 0)))⟩,
    ⟨none, .mv (some 4) (.c (.lit (.int .i64 0)))⟩]
def f26_2 : AC := .ops [0] [] f26_2l
theorem f26_2e : aC P id m f26_2 sf st Q = runI P id m f26_2l (opsK [0] [] Q) sf st := rfl
def f26_6l : List GI := [⟨none, .mv (some 6) (.r 0)⟩,
    ⟨none, .call (some 7) false (.f 54) [(.r 6)]⟩,
    ⟨none, .own 5 7⟩]
def f26_6 : AC := .ops [0, 5] [] f26_6l
theorem f26_6e : aC P id m f26_6 sf st Q = runI P id m f26_6l (opsK [0, 5] [] Q) sf st := rfl
def f26_9l : List GI := [⟨none, .mv (some 2) (.c (.lit (.int .i64 0)))⟩,
    ⟨none, .mv (some 3) (.c (.lit (.int .u64 0)))⟩,
    ⟨none, .mv (some 4) (.c (.lit (.int .i64 1)))⟩]
def f26_9 : AC := .ops [2, 3, 4] [] f26_9l
theorem f26_9e : aC P id m f26_9 sf st Q = runI P id m f26_9l (opsK [2, 3, 4] [] Q) sf st := rfl
def f26_8 : AC := .seq f26_9 .ret
theorem f26_8e : aC P id m f26_8 sf st Q = aC P id m f26_9 sf st (seqQ (aC P id m .ret) Q) := rfl
def f26_11l : List GI := [⟨none, .mv (some 9) (.r 0)⟩,
    ⟨none, .nilck (some 10) (.r 9)⟩,
    ⟨none, .addr (some 11) (.r 10) 0⟩,
    ⟨none, .addr (some 12) (.r 11) 0⟩,
    ⟨none, .load (some 13) (.r 12) none⟩,
    ⟨none, .bin (some 14) .num .eql (.r 13) (.c (.lit (.int .u64 0)))⟩,
    ⟨none, .own 8 14⟩]
def f26_11 : AC := .ops [0, 8] [] f26_11l
theorem f26_11e : aC P id m f26_11 sf st Q = runI P id m f26_11l (opsK [0, 8] [] Q) sf st := rfl
def f26_14l : List GI := [⟨none, .mv (some 2) (.c (.lit (.int .i64 0)))⟩,
    ⟨none, .mv (some 3) (.c (.lit (.int .u64 0)))⟩,
    ⟨none, .mv (some 4) (.c (.lit (.int .i64 9)))⟩]
def f26_14 : AC := .ops [2, 3, 4] [] f26_14l
theorem f26_14e : aC P id m f26_14 sf st Q = runI P id m f26_14l (opsK [2, 3, 4] [] Q) sf st := rfl
def f26_13 : AC := .seq f26_14 .ret
theorem f26_13e : aC P id m f26_13 sf st Q = aC P id m f26_14 sf st (seqQ (aC P id m .ret) Q) := rfl
def f26_12 : AC := .cond (.r 8) f26_13 .skip
theorem f26_12e : aC P id m f26_12 sf st Q = condI (.r 8) (sf.ev id (.r 8)) (aC P id m f26_13) (aC P id m .skip) sf st Q := rfl
def f26_10 : AC := .seq f26_11 f26_12
theorem f26_10e : aC P id m f26_10 sf st Q = aC P id m f26_11 sf st (seqQ (aC P id m f26_12) Q) := rfl
def f26_7 : AC := .cond (.r 5) f26_8 f26_10
theorem f26_7e : aC P id m f26_7 sf st Q = condI (.r 5) (sf.ev id (.r 5)) (aC P id m f26_8) (aC P id m f26_10) sf st Q := rfl
def f26_5 : AC := .seq f26_6 f26_7
theorem f26_5e : aC P id m f26_5 sf st Q = aC P id m f26_6 sf st (seqQ (aC P id m f26_7) Q) := rfl
def f26_4 : AC := .block 0 f26_5
theorem f26_4e : aC P id m f26_4 sf st Q = aC P id m f26_5 sf st (blockQ 0 Q) := rfl
def f26_16h : List GI := [⟨none, .mv (some 15) (.r 0)⟩,
    ⟨none, .nilck (some 16) (.r 15)⟩,
    ⟨none, .addr (some 17) (.r 16) 3⟩,
    ⟨none, .load (some 18) (.r 17) none⟩,
    ⟨none, .mv (some 19) (.r 0)⟩,
    ⟨none, .nilck (some 20) (.r 19)⟩,
    ⟨none, .addr (some 21) (.r 20) 0⟩,
    ⟨none, .addr (some 22) (.r 21) 0⟩,
    ⟨none, .load (some 23) (.r 22) none⟩,
    ⟨none, .lookup (some 24) (.int .u64) (.agg [(.lit (.int .i64 0)), (.lit (.int .u64 0)), (.lit (.int .u64 0))]) false (.r 18) (.r 23)⟩,
    ⟨none, .field (some 25) (.r 24) 0 none⟩,
    ⟨none, .mv (some 26) (.r 0)⟩,
    ⟨none, .nilck (some 27) (.r 26)⟩,
    ⟨none, .addr (some 28) (.r 27) 0⟩,
    ⟨none, .addr (some 29) (.r 28) 0⟩,
    ⟨none, .load (some 30) (.r 29) none⟩,
    ⟨none, .mv (some 2) (.r 25)⟩]
def f26_16l : List GI := [⟨none, .own 3 30⟩,
    ⟨none, .mv (some 4) (.c (.lit (.int .i64 0)))⟩]
def f26_16 : AC := .draw [2, 3, 4] [] [] f26_16h f26_16l
theorem f26_16e : aC P id m f26_16 sf st Q = headI P id sf.locs st f26_16h (tailK P id m [] [2, 3, 4] [] f26_16l Q st) [] ⟨sf.regs, dropL [] sf.locs⟩ := rfl
def f26_15 : AC := .seq f26_16 .ret
theorem f26_15e : aC P id m f26_15 sf st Q = aC P id m f26_16 sf st (seqQ (aC P id m .ret) Q) := rfl
def f26_3 : AC := .seq f26_4 f26_15
theorem f26_3e : aC P id m f26_3 sf st Q = aC P id m f26_4 sf st (seqQ (aC P id m f26_15) Q) := rfl
def f26_1 : AC := .seq f26_2 f26_3
theorem f26_1e : aC P id m f26_1 sf st Q = aC P id m f26_2 sf st (seqQ (aC P id m f26_3) Q) := rfl
def c_f26 : AFun := ⟨31, [.tmp 2, .tmp 3, .tmp 4], f26_1⟩
theorem k_f26 : compF Go.Proofs.Try.prog x_f26 26 = some c_f26 := by kernel_rfl
theorem e_f26 : enterB Go.Proofs.Try.prog 26 = true := by kernel_rfl

def n_f27 : Nat := 27
def x_f27 : Cx := ⟨some, id, 19, fun s => ([0, 2, 3, 4, 6, 7, 13, 18] : List Nat).contains s, fun s => ([] : List Nat).contains s, msOf [(2, [1], [1]), (12, [1, 8], [1]), (52, [2, 3, 4], []), (14, [2, 3, 4], [])]⟩
def f27_2l : List GI := [⟨none, .boxL 1 2 (.r 0)⟩,
    ⟨none, .mv (some 2) (.c (.lit (.int .i64 0)))⟩,
    ⟨none, .mv (some 3) (.c (.lit (.int .u64 0)))⟩,
    ⟨none, .mv (some 4) (.c (.lit (.int .i64 0)))⟩]
def f27_2 : AC := .ops [1] [1] f27_2l
theorem f27_2e : aC P id m f27_2 sf st Q = runI P id m f27_2l (opsK [1] [1] Q) sf st := rfl
def f27_5l : List GI := [⟨none, .addr (some 5) (.r 1) 0⟩,
    ⟨none, .load (some 6) (.r 5) none⟩,
    ⟨none, .len (some 7) .sl (.r 6)⟩,
    ⟨none, .bin (some 8) .num .eql (.r 7) (.c (.lit (.int .i64 0)))⟩]
def f27_5 : AC := .ops [1, 8] [1] f27_5l
theorem f27_5e : aC P id m f27_5 sf st Q = runI P id m f27_5l (opsK [1, 8] [1] Q) sf st := rfl
def f27_8l : List GI := [⟨none, .mv (some 2) (.c (.lit (.int .i64 0)))⟩,
    ⟨none, .mv (some 3) (.c (.lit (.int .u64 0)))⟩,
    ⟨none, .mv (some 4) (.c (.lit (.int .i64 9)))⟩]
def f27_8 : AC := .ops [2, 3, 4] [] f27_8l
theorem f27_8e : aC P id m f27_8 sf st Q = runI P id m f27_8l (opsK [2, 3, 4] [] Q) sf st := rfl
def f27_7 : AC := .seq f27_8 .ret
theorem f27_7e : aC P id m f27_7 sf st Q = aC P id m f27_8 sf st (seqQ (aC P id m .ret) Q) := rfl
def f27_6 : AC := .cond (.r 8) f27_7 .skip
theorem f27_6e : aC P id m f27_6 sf st Q = condI (.r 8) (sf.ev id (.r 8)) (aC P id m f27_7) (aC P id m .skip) sf st Q := rfl
def f27_4 : AC := .seq f27_5 f27_6
theorem f27_4e : aC P id m f27_4 sf st Q = aC P id m f27_5 sf st (seqQ (aC P id m f27_6) Q) := rfl
def f27_10h : List GI := [⟨none, .addr (some 9) (.r 1) 0⟩,
    ⟨none, .load (some 10) (.r 9) none⟩,
    ⟨none, .ixS (some 11) (.r 10) (.c (.lit (.int .i64 0))) 2⟩,
    ⟨none, .addr (some 12) (.r 11) 0⟩,
    ⟨none, .load (some 13) (.r 12) none⟩,
    ⟨none, .addr (some 14) (.r 1) 0⟩,
    ⟨none, .load (some 15) (.r 14) none⟩,
    ⟨none, .ixS (some 16) (.r 15) (.c (.lit (.int .i64 0))) 2⟩,
    ⟨none, .addr (some 17) (.r 16) 1⟩,
    ⟨none, .load (some 18) (.r 17) none⟩,
    ⟨none, .mv (some 2) (.r 13)⟩]
def f27_10l : List GI := [⟨none, .own 3 18⟩,
    ⟨none, .mv (some 4) (.c (.lit (.int .i64 0)))⟩]
def f27_10 : AC := .draw [2, 3, 4] [] [] f27_10h f27_10l
theorem f27_10e : aC P id m f27_10 sf st Q = headI P id sf.locs st f27_10h (tailK P id m [] [2, 3, 4] [] f27_10l Q st) [] ⟨sf.regs, dropL [] sf.locs⟩ := rfl
def f27_9 : AC := .seq f27_10 .ret
theorem f27_9e : aC P id m f27_9 sf st Q = aC P id m f27_10 sf st (seqQ (aC P id m .ret) Q) := rfl
def f27_3 : AC := .seq f27_4 f27_9
theorem f27_3e : aC P id m f27_3 sf st Q = aC P id m f27_4 sf st (seqQ (aC P id m f27_9) Q) := rfl
def f27_1 : AC := .seq f27_2 f27_3
theorem f27_1e : aC P id m f27_1 sf st Q = aC P id m f27_2 sf st (seqQ (aC P id m f27_3) Q) := rfl
def c_f27 : AFun := ⟨19, [.tmp 2, .tmp 3, .tmp 4], f27_1⟩
theorem k_f27 : compF Go.Proofs.Try.prog x_f27 27 = some c_f27 := by kernel_rfl
theorem e_f27 : enterB Go.Proofs.Try.prog 27 = true := by kernel_rfl

def n_f28 : Nat := 28
def x_f28 : Cx := ⟨some, id, 10, fun s => ([0, 2, 3, 8, 9] : List Nat).contains s, fun s => ([] : List Nat).contains s, msOf [(2, [0], []), (12, [0, 4], []), (52, [2], []), (14, [2], [])]⟩
def f28_2l : List GI := [⟨none, .mv (some 2) (.c (.lit (.int .i64 0)))⟩]
def f28_2 : AC := .ops [0] [] f28_2l
theorem f28_2e : aC P id m f28_2 sf st Q = runI P id m f28_2l (opsK [0] [] Q) sf st := rfl
def f28_5l : List GI := [⟨none, .mv (some 3) (.r 0)⟩,
    ⟨none, .call (some 4) false (.f 54) [(.r 3)]⟩]
def f28_5 : AC := .ops [0, 4] [] f28_5l
theorem f28_5e : aC P id m f28_5 sf st Q = runI P id m f28_5l (opsK [0, 4] [] Q) sf st := rfl
def f28_8l : List GI := [⟨none, .mv (some 2) (.c (.lit (.int .i64 0)))⟩]
def f28_8 : AC := .ops [2] [] f28_8l
theorem f28_8e : aC P id m f28_8 sf st Q = runI P id m f28_8l (opsK [2] [] Q) sf st := rfl
def f28_7 : AC := .seq f28_8 .ret
theorem f28_7e : aC P id m f28_7 sf st Q = aC P id m f28_8 sf st (seqQ (aC P id m .ret) Q) := rfl
def f28_6 : AC := .cond (.r 4) f28_7 .skip
theorem f28_6e : aC P id m f28_6 sf st Q = condI (.r 4) (sf.ev id (.r 4)) (aC P id m f28_7) (aC P id m .skip) sf st Q := rfl
def f28_4 : AC := .seq f28_5 f28_6
theorem f28_4e : aC P id m f28_4 sf st Q = aC P id m f28_5 sf st (seqQ (aC P id m f28_6) Q) := rfl
def f28_10l : List GI := [⟨none, .mv (some 5) (.r 0)⟩,
    ⟨none, .nilck (some 6) (.r 5)⟩,
    ⟨none, .addr (some 7) (.r 6) 3⟩,
    ⟨none, .load (some 8) (.r 7) none⟩,
    ⟨none, .len (some 9) .mp (.r 8)⟩,
    ⟨none, .own 2 9⟩]
def f28_10 : AC := .ops [2] [] f28_10l
theorem f28_10e : aC P id m f28_10 sf st Q = runI P id m f28_10l (opsK [2] [] Q) sf st := rfl
def f28_9 : AC := .seq f28_10 .ret
theorem f28_9e : aC P id m f28_9 sf st Q = aC P id m f28_10 sf st (seqQ (aC P id m .ret) Q) := rfl
def f28_3 : AC := .seq f28_4 f28_9
theorem f28_3e : aC P id m f28_3 sf st Q = aC P id m f28_4 sf st (seqQ (aC P id m f28_9) Q) := rfl
def f28_1 : AC := .seq f28_2 f28_3
theorem f28_1e : aC P id m f28_1 sf st Q = aC P id m f28_2 sf st (seqQ (aC P id m f28_3) Q) := rfl
def c_f28 : AFun := ⟨10, [.tmp 2], f28_1⟩
theorem k_f28 : compF Go.Proofs.Try.prog x_f28 28 = some c_f28 := by kernel_rfl
theorem e_f28 : enterB Go.Proofs.Try.prog 28 = true := by kernel_rfl

def n_f29 : Nat := 29
def x_f29 : Cx := ⟨some, id, 36, fun s => ([0, 1, 3, 4, 5, 6, 7, 8, 9, 10, 11, 14, 15, 16, 17, 18, 19, 20, 21, 22, 23, 24, 25, 26, 27, 28, 30, 31, 32, 33, 34, 35] : List Nat).contains s, fun s => ([] : List Nat).contains s, msOf [(2, [0, 3, 4, 14, 15], []), (6, [3, 4, 5, 14, 15], []), (28, [3, 4, 5, 12, 14, 15], []), (116, [4], []), (30, [3, 4, 5, 6, 14, 15], []), (124, [3, 4, 6, 13, 14, 15], []), (250, [3, 4, 6], []), (1000000257, [3, 4, 6, 14, 15], []), (1000, [3, 4, 6, 7, 15], []), (1001, [3, 4, 6, 7, 8], []), (4008, [4, 6, 29], []), (16036, [], []), (2005, [], []), (126, [4], [])]⟩
def f29_2l : List GI := [⟨none, .boxB 3 1 (.r 1)⟩,
    ⟨none, .newB 4 [(.lit (.bool false))]⟩]
def f29_2 : AC := .ops [0, 3, 4, 14, 15] [] f29_2l
theorem f29_2e : aC P id m f29_2 sf st Q = runI P id m f29_2l (opsK [0, 3, 4, 14, 15] [] Q) sf st := rfl
def f29_4l : List GI := [⟨none, .mv (some 9) (.r 0)⟩,
    ⟨none, .call (some 10) false (.f 30) [(.r 9)]⟩,
    ⟨none, .own 5 10⟩]
def f29_4 : AC := .ops [3, 4, 5, 14, 15] [] f29_4l
theorem f29_4e : aC P id m f29_4 sf st Q = runI P id m f29_4l (opsK [3, 4, 5, 14, 15] [] Q) sf st := rfl
def f29_7l : List GI := [⟨none, .mv (some 11) (.r 5)⟩,
    ⟨none, .bin (some 12) (.nil .fn) .eql (.r 11) (.c (.lit .nilFunc))⟩]
def f29_7 : AC := .ops [3, 4, 5, 12, 14, 15] [] f29_7l
theorem f29_7e : aC P id m f29_7 sf st Q = runI P id m f29_7l (opsK [3, 4, 5, 12, 14, 15] [] Q) sf st := rfl
def f29_10l : List GI := [⟨none, .store 1 (.r 4) (.c (.lit (.bool false)))⟩]
def f29_10 : AC := .ops [4] [] f29_10l
theorem f29_10e : aC P id m f29_10 sf st Q = runI P id m f29_10l (opsK [4] [] Q) sf st := rfl
def f29_9 : AC := .seq f29_10 .ret
theorem f29_9e : aC P id m f29_9 sf st Q = aC P id m f29_10 sf st (seqQ (aC P id m .ret) Q) := rfl
def f29_8 : AC := .cond (.r 12) f29_9 .skip
theorem f29_8e : aC P id m f29_8 sf st Q = condI (.r 12) (sf.ev id (.r 12)) (aC P id m f29_9) (aC P id m .skip) sf st Q := rfl
def f29_6 : AC := .seq f29_7 f29_8
theorem f29_6e : aC P id m f29_6 sf st Q = aC P id m f29_7 sf st (seqQ (aC P id m f29_8) Q) := rfl
def f29_12l : List GI := [⟨none, .newB 6 [(.lit (.int .i64 0))]⟩,
    ⟨none, .store 1 (.r 6) (.c (.lit (.int .i64 0)))⟩]
def f29_12 : AC := .ops [3, 4, 5, 6, 14, 15] [] f29_12l
theorem f29_12e : aC P id m f29_12 sf st Q = runI P id m f29_12l (opsK [3, 4, 5, 6, 14, 15] [] Q) sf st := rfl
def f29_15l : List GI := [⟨none, .mv (some 13) (.r 5)⟩]
def f29_15 : AC := .ops [3, 4, 6, 13, 14, 15] [] f29_15l
theorem f29_15e : aC P id m f29_15 sf st Q = runI P id m f29_15l (opsK [3, 4, 6, 13, 14, 15] [] Q) sf st := rfl
def f29_19l : List GI := [⟨none, .own 7 14⟩]
def f29_19 : AC := .ops [3, 4, 6, 7, 15] [] f29_19l
theorem f29_19e : aC P id m f29_19 sf st Q = runI P id m f29_19l (opsK [3, 4, 6, 7, 15] [] Q) sf st := rfl
def f29_20l : List GI := [⟨none, .own 8 15⟩]
def f29_20 : AC := .ops [3, 4, 6, 7, 8] [] f29_20l
theorem f29_20e : aC P id m f29_20 sf st Q = runI P id m f29_20l (opsK [3, 4, 6, 7, 8] [] Q) sf st := rfl
def f29_18 : AC := .seq f29_19 f29_20
theorem f29_18e : aC P id m f29_18 sf st Q = aC P id m f29_19 sf st (seqQ (aC P id m f29_20) Q) := rfl
def f29_24l : List GI := [⟨none, .load (some 16) (.r 6) none⟩,
    ⟨none, .load (some 17) (.r 3) none⟩,
    ⟨none, .len (some 18) .sl (.r 17)⟩,
    ⟨none, .bin (some 19) .num .geq (.r 16) (.r 18)⟩,
    ⟨none, .mv (some 20) (.r 19)⟩,
    ⟨some (20, false), .load (some 21) (.r 3) none⟩,
    ⟨some (20, false), .load (some 22) (.r 6) none⟩,
    ⟨some (20, false), .ixS (some 23) (.r 21) (.r 22) 2⟩,
    ⟨some (20, false), .load (some 24) (.r 23) (some 2)⟩,
    ⟨some (20, false), .mv (some 25) (.r 8)⟩,
    ⟨some (20, false), .mv (some 26) (.r 7)⟩,
    ⟨some (20, false), .bst (some 27) [(0, 1), (1, 1)] (.agg [(.lit (.int .i64 0)), (.lit (.int .u64 0))]) [(0, (.r 25)), (1, (.r 26))]⟩,
    ⟨some (20, false), .bin (some 28) (.agg (.field 0 1 .int (.field 1 1 .int .tt))) .neq (.r 24) (.r 27)⟩,
    ⟨none, .pick (some 29) (.r 20) (.c (.lit (.bool true))) (.r 28)⟩]
def f29_24 : AC := .ops [4, 6, 29] [] f29_24l
theorem f29_24e : aC P id m f29_24 sf st Q = runI P id m f29_24l (opsK [4, 6, 29] [] Q) sf st := rfl
def f29_27l : List GI := [⟨none, .store 1 (.r 4) (.c (.lit (.bool false)))⟩]
def f29_27 : AC := .ops [] [] f29_27l
theorem f29_27e : aC P id m f29_27 sf st Q = runI P id m f29_27l (opsK [] [] Q) sf st := rfl
def f29_26 : AC := .seq f29_27 .ret
theorem f29_26e : aC P id m f29_26 sf st Q = aC P id m f29_27 sf st (seqQ (aC P id m .ret) Q) := rfl
def f29_25 : AC := .cond (.r 29) f29_26 .skip
theorem f29_25e : aC P id m f29_25 sf st Q = condI (.r 29) (sf.ev id (.r 29)) (aC P id m f29_26) (aC P id m .skip) sf st Q := rfl
def f29_23 : AC := .seq f29_24 f29_25
theorem f29_23e : aC P id m f29_23 sf st Q = aC P id m f29_24 sf st (seqQ (aC P id m f29_25) Q) := rfl
def f29_28l : List GI := [⟨none, .load (some 30) (.r 6) none⟩,
    ⟨none, .bin (some 31) .num .add (.r 30) (.c (.lit (.int .i64 1)))⟩,
    ⟨none, .store 1 (.r 6) (.r 31)⟩]
def f29_28 : AC := .ops [] [] f29_28l
theorem f29_28e : aC P id m f29_28 sf st Q = runI P id m f29_28l (opsK [] [] Q) sf st := rfl
def f29_22 : AC := .seq f29_23 f29_28
theorem f29_22e : aC P id m f29_22 sf st Q = aC P id m f29_23 sf st (seqQ (aC P id m f29_28) Q) := rfl
def f29_21 : AC := .block 1 f29_22
theorem f29_21e : aC P id m f29_21 sf st Q = aC P id m f29_22 sf st (blockQ 1 Q) := rfl
def f29_17 : AC := .rangeF [3, 4, 6] [] (.r 13) [14, 15] [3, 4, 6, 14, 15] f29_18 f29_21
theorem f29_17w : aC P id m f29_17 sf st Q = (m = false ∧ rangeI P (aC P id m f29_18) (aC P id m f29_21) [14, 15] [3, 4, 6, 14, 15] [3, 4, 6] [] (sf.ev id (.r 13)) sf st Q) := rfl
def f29_16 : AC := .block 0 f29_17
theorem f29_16e : aC P id m f29_16 sf st Q = aC P id m f29_17 sf st (blockQ 0 Q) := rfl
def f29_14 : AC := .seq f29_15 f29_16
theorem f29_14e : aC P id m f29_14 sf st Q = aC P id m f29_15 sf st (seqQ (aC P id m f29_16) Q) := rfl
def f29_30l : List GI := [⟨none, .load (some 32) (.r 6) none⟩,
    ⟨none, .load (some 33) (.r 3) none⟩,
    ⟨none, .len (some 34) .sl (.r 33)⟩,
    ⟨none, .bin (some 35) .num .eql (.r 32) (.r 34)⟩,
    ⟨none, .store 1 (.r 4) (.r 35)⟩]
def f29_30 : AC := .ops [4] [] f29_30l
theorem f29_30e : aC P id m f29_30 sf st Q = runI P id m f29_30l (opsK [4] [] Q) sf st := rfl
def f29_29 : AC := .seq f29_30 .ret
theorem f29_29e : aC P id m f29_29 sf st Q = aC P id m f29_30 sf st (seqQ (aC P id m .ret) Q) := rfl
def f29_13 : AC := .seq f29_14 f29_29
theorem f29_13e : aC P id m f29_13 sf st Q = aC P id m f29_14 sf st (seqQ (aC P id m f29_29) Q) := rfl
def f29_11 : AC := .seq f29_12 f29_13
theorem f29_11e : aC P id m f29_11 sf st Q = aC P id m f29_12 sf st (seqQ (aC P id m f29_13) Q) := rfl
def f29_5 : AC := .seq f29_6 f29_11
theorem f29_5e : aC P id m f29_5 sf st Q = aC P id m f29_6 sf st (seqQ (aC P id m f29_11) Q) := rfl
def f29_3 : AC := .seq f29_4 f29_5
theorem f29_3e : aC P id m f29_3 sf st Q = aC P id m f29_4 sf st (seqQ (aC P id m f29_5) Q) := rfl
def f29_1 : AC := .seq f29_2 f29_3
theorem f29_1e : aC P id m f29_1 sf st Q = aC P id m f29_2 sf st (seqQ (aC P id m f29_3) Q) := rfl
def c_f29 : AFun := ⟨36, [.cell 4 none], f29_1⟩
theorem k_f29 : compF Go.Proofs.Try.prog x_f29 29 = some c_f29 := by kernel_rfl
theorem e_f29 : enterB Go.Proofs.Try.prog 29 = true := by kernel_rfl

def n_f30 : Nat := 30
def x_f30 : Cx := ⟨some, id, 7, fun s => ([0, 2, 3, 4, 5, 6] : List Nat).contains s, fun s => ([] : List Nat).contains s, msOf [(2, [0], []), (6, [3], []), (14, [2], [])]⟩
def f30_2l : List GI := [⟨none, .mv (some 2) (.c (.lit .nilFunc))⟩]
def f30_2 : AC := .ops [0] [] f30_2l
theorem f30_2e : aC P id m f30_2 sf st Q = runI P id m f30_2l (opsK [0] [] Q) sf st := rfl
def f30_4l : List GI := [⟨none, .mv (some 4) (.r 0)⟩,
    ⟨none, .call (some 5) false (.f 37) [(.r 4)]⟩,
    ⟨none, .newB 3 [(.lit (.pointer none))]⟩,
    ⟨none, .store 1 (.r 3) (.r 5)⟩]
def f30_4 : AC := .ops [3] [] f30_4l
theorem f30_4e : aC P id m f30_4 sf st Q = runI P id m f30_4l (opsK [3] [] Q) sf st := rfl
def f30_6l : List GI := [⟨none, .mkfn (some 6) 55 [] [(.r 3)]⟩,
    ⟨none, .own 2 6⟩]
def f30_6 : AC := .ops [2] [] f30_6l
theorem f30_6e : aC P id m f30_6 sf st Q = runI P id m f30_6l (opsK [2] [] Q) sf st := rfl
def f30_5 : AC := .seq f30_6 .ret
theorem f30_5e : aC P id m f30_5 sf st Q = aC P id m f30_6 sf st (seqQ (aC P id m .ret) Q) := rfl
def f30_3 : AC := .seq f30_4 f30_5
theorem f30_3e : aC P id m f30_3 sf st Q = aC P id m f30_4 sf st (seqQ (aC P id m f30_5) Q) := rfl
def f55 : AC := .seq f30_2 f30_3
theorem f30_1e : aC P id m f55 sf st Q = aC P id m f30_2 sf st (seqQ (aC P id m f30_3) Q) := rfl
def c_f30 : AFun := ⟨7, [.tmp 2], f55⟩
theorem k_f30 : compF Go.Proofs.Try.prog x_f30 30 = some c_f30 := by kernel_rfl
theorem e_f30 : enterB Go.Proofs.Try.prog 30 = true := by kernel_rfl

def n_f31 : Nat := 31
def x_f31 : Cx := ⟨some, id, 22, fun s => ([0, 2, 3, 4, 5, 6, 7, 8, 9, 10, 11, 12, 13, 14, 16, 17, 19, 20, 21] : List Nat).contains s, fun s => ([] : List Nat).contains s, msOf [(2, [0], []), (6, [0, 5, 6, 7], []), (28, [0, 5, 6, 7, 15], []), (58, [5, 6, 7], []), (30, [2, 3, 4], [])]⟩
def f31_2l : List GI := [⟨none, .mv (some 2) (.c (.lit (.int .i64 0)))⟩,
    ⟨none, .mv (some 3) (.c (.lit (.int .u64 0)))⟩,
    ⟨none, .mv (some 4) (.c (.lit (.int .i64 0)))⟩]
def f31_2 : AC := .ops [0] [] f31_2l
theorem f31_2e : aC P id m f31_2 sf st Q = runI P id m f31_2l (opsK [0] [] Q) sf st := rfl
def f31_4l : List GI := [⟨none, .mv (some 9) (.r 0)⟩,
    ⟨none, .call (some 10) false (.f 26) [(.r 9)]⟩,
    ⟨none, .mv (some 8) (.r 10)⟩,
    ⟨none, .ext (some 11) (.r 8) 0⟩,
    ⟨none, .ext (some 12) (.r 8) 1⟩,
    ⟨none, .ext (some 13) (.r 8) 2⟩,
    ⟨none, .own 5 11⟩,
    ⟨none, .own 6 12⟩,
    ⟨none, .own 7 13⟩]
def f31_4 : AC := .ops [0, 5, 6, 7] [] f31_4l
theorem f31_4e : aC P id m f31_4 sf st Q = runI P id m f31_4l (opsK [0, 5, 6, 7] [] Q) sf st := rfl
def f31_7l : List GI := [⟨none, .mv (some 14) (.r 7)⟩,
    ⟨none, .bin (some 15) .num .eql (.r 14) (.c (.lit (.int .i64 0)))⟩]
def f31_7 : AC := .ops [0, 5, 6, 7, 15] [] f31_7l
theorem f31_7e : aC P id m f31_7 sf st Q = runI P id m f31_7l (opsK [0, 5, 6, 7, 15] [] Q) sf st := rfl
def f31_9l : List GI := [⟨none, .mv (some 16) (.r 0)⟩,
    ⟨none, .mv (some 17) (.r 6)⟩,
    ⟨none, .call (some 18) false (.f 35) [(.r 16), (.r 17)]⟩]
def f31_9 : AC := .ops [5, 6, 7] [] f31_9l
theorem f31_9e : aC P id m f31_9 sf st Q = runI P id m f31_9l (opsK [5, 6, 7] [] Q) sf st := rfl
def f31_8 : AC := .cond (.r 15) f31_9 .skip
theorem f31_8e : aC P id m f31_8 sf st Q = condI (.r 15) (sf.ev id (.r 15)) (aC P id m f31_9) (aC P id m .skip) sf st Q := rfl
def f31_6 : AC := .seq f31_7 f31_8
theorem f31_6e : aC P id m f31_6 sf st Q = aC P id m f31_7 sf st (seqQ (aC P id m f31_8) Q) := rfl
def f31_11l : List GI := [⟨none, .mv (some 19) (.r 5)⟩,
    ⟨none, .mv (some 20) (.r 6)⟩,
    ⟨none, .mv (some 21) (.r 7)⟩,
    ⟨none, .own 2 19⟩,
    ⟨none, .own 3 20⟩,
    ⟨none, .own 4 21⟩]
def f31_11 : AC := .ops [2, 3, 4] [] f31_11l
theorem f31_11e : aC P id m f31_11 sf st Q = runI P id m f31_11l (opsK [2, 3, 4] [] Q) sf st := rfl
def f31_10 : AC := .seq f31_11 .ret
theorem f31_10e : aC P id m f31_10 sf st Q = aC P id m f31_11 sf st (seqQ (aC P id m .ret) Q) := rfl
def f31_5 : AC := .seq f31_6 f31_10
theorem f31_5e : aC P id m f31_5 sf st Q = aC P id m f31_6 sf st (seqQ (aC P id m f31_10) Q) := rfl
def f31_3 : AC := .seq f31_4 f31_5
theorem f31_3e : aC P id m f31_3 sf st Q = aC P id m f31_4 sf st (seqQ (aC P id m f31_5) Q) := rfl
def f31_1 : AC := .seq f31_2 f31_3
theorem f31_1e : aC P id m f31_1 sf st Q = aC P id m f31_2 sf st (seqQ (aC P id m f31_3) Q) := rfl
def c_f31 : AFun := ⟨22, [.tmp 2, .tmp 3, .tmp 4], f31_1⟩
theorem k_f31 : compF Go.Proofs.Try.prog x_f31 31 = some c_f31 := by kernel_rfl
theorem e_f31 : enterB Go.Proofs.Try.prog 31 = true := by kernel_rfl

def n_f32 : Nat := 32
def x_f32 : Cx := ⟨some, id, 97, fun s => ([0, 1, 4, 5, 8, 9, 14, 15, 16, 21, 22, 29, 34, 35, 40, 41, 46, 53, 60, 65, 66, 71, 76, 81, 82, 88, 96] : List Nat).contains s, fun s => ([] : List Nat).contains s, msOf [(2, [0, 1], []), (24, [0, 1, 7], []), (100, [4, 5], []), (102, [0, 1, 10], []), (412, [4, 5], []), (14, [0, 1], []), (30, [0], []), (124, [0, 47], []), (250, [0], []), (502, [0, 6], [6]), (1006, [0, 6], [6]), (1007, [0], []), (126, [0], []), (254, [4, 5], [])]⟩
def f32_2l : List GI := [⟨none, .mv (some 4) (.c (.lit (.int .u64 0)))⟩,
    ⟨none, .mv (some 5) (.c (.lit (.int .i64 0)))⟩]
def f32_2 : AC := .ops [0, 1] [] f32_2l
theorem f32_2e : aC P id m f32_2 sf st Q = runI P id m f32_2l (opsK [0, 1] [] Q) sf st := rfl
def f32_6l : List GI := [⟨none, .mv (some 8) (.r 0)⟩,
    ⟨none, .call (some 9) false (.f 54) [(.r 8)]⟩,
    ⟨none, .own 7 9⟩]
def f32_6 : AC := .ops [0, 1, 7] [] f32_6l
theorem f32_6e : aC P id m f32_6 sf st Q = runI P id m f32_6l (opsK [0, 1, 7] [] Q) sf st := rfl
def f32_9l : List GI := [⟨none, .mv (some 4) (.c (.lit (.int .u64 0)))⟩,
    ⟨none, .mv (some 5) (.c (.lit (.int .i64 1)))⟩]
def f32_9 : AC := .ops [4, 5] [] f32_9l
theorem f32_9e : aC P id m f32_9 sf st Q = runI P id m f32_9l (opsK [4, 5] [] Q) sf st := rfl
def f32_8 : AC := .seq f32_9 .ret
theorem f32_8e : aC P id m f32_8 sf st Q = aC P id m f32_9 sf st (seqQ (aC P id m .ret) Q) := rfl
def f32_11l : List GI := [⟨none, .mv (some 11) (.r 0)⟩,
    ⟨none, .nilck (some 12) (.r 11)⟩,
    ⟨none, .addr (some 13) (.r 12) 3⟩,
    ⟨none, .load (some 14) (.r 13) none⟩,
    ⟨none, .len (some 15) .mp (.r 14)⟩,
    ⟨none, .bin (some 16) .num .geq (.r 15) (.c (.lit (.int .i64 4096)))⟩,
    ⟨none, .own 10 16⟩]
def f32_11 : AC := .ops [0, 1, 10] [] f32_11l
theorem f32_11e : aC P id m f32_11 sf st Q = runI P id m f32_11l (opsK [0, 1, 10] [] Q) sf st := rfl
def f32_14l : List GI := [⟨none, .mv (some 4) (.c (.lit (.int .u64 0)))⟩,
    ⟨none, .mv (some 5) (.c (.lit (.int .i64 7)))⟩]
def f32_14 : AC := .ops [4, 5] [] f32_14l
theorem f32_14e : aC P id m f32_14 sf st Q = runI P id m f32_14l (opsK [4, 5] [] Q) sf st := rfl
def f32_13 : AC := .seq f32_14 .ret
theorem f32_13e : aC P id m f32_13 sf st Q = aC P id m f32_14 sf st (seqQ (aC P id m .ret) Q) := rfl
def f32_12 : AC := .cond (.r 10) f32_13 .skip
theorem f32_12e : aC P id m f32_12 sf st Q = condI (.r 10) (sf.ev id (.r 10)) (aC P id m f32_13) (aC P id m .skip) sf st Q := rfl
def f32_10 : AC := .seq f32_11 f32_12
theorem f32_10e : aC P id m f32_10 sf st Q = aC P id m f32_11 sf st (seqQ (aC P id m f32_12) Q) := rfl
def f32_7 : AC := .cond (.r 7) f32_8 f32_10
theorem f32_7e : aC P id m f32_7 sf st Q = condI (.r 7) (sf.ev id (.r 7)) (aC P id m f32_8) (aC P id m f32_10) sf st Q := rfl
def f32_5 : AC := .seq f32_6 f32_7
theorem f32_5e : aC P id m f32_5 sf st Q = aC P id m f32_6 sf st (seqQ (aC P id m f32_7) Q) := rfl
def f32_4 : AC := .block 0 f32_5
theorem f32_4e : aC P id m f32_4 sf st Q = aC P id m f32_5 sf st (blockQ 0 Q) := rfl
def f32_16l : List GI := [⟨none, .mv (some 17) (.r 0)⟩,
    ⟨none, .nilck (some 18) (.r 17)⟩,
    ⟨none, .addr (some 19) (.r 18) 0⟩,
    ⟨none, .addr (some 20) (.r 19) 2⟩,
    ⟨none, .load (some 21) (.r 20) none⟩,
    ⟨none, .bin (some 22) .num .add (.r 21) (.c (.lit (.int .u64 1)))⟩,
    ⟨none, .nilck (some 23) (.r 17)⟩,
    ⟨none, .addr (some 24) (.r 23) 0⟩,
    ⟨none, .addr (some 25) (.r 24) 2⟩,
    ⟨none, .store 1 (.r 25) (.r 22)⟩]
def f32_16 : AC := .ops [0, 1] [] f32_16l
theorem f32_16e : aC P id m f32_16 sf st Q = runI P id m f32_16l (opsK [0, 1] [] Q) sf st := rfl
def f32_18h : List GI := [⟨none, .mv (some 26) (.r 0)⟩,
    ⟨none, .nilck (some 27) (.r 26)⟩,
    ⟨none, .addr (some 28) (.r 27) 3⟩,
    ⟨none, .load (some 29) (.r 28) none⟩,
    ⟨none, .mv (some 30) (.r 0)⟩,
    ⟨none, .nilck (some 31) (.r 30)⟩,
    ⟨none, .addr (some 32) (.r 31) 0⟩,
    ⟨none, .addr (some 33) (.r 32) 2⟩,
    ⟨none, .load (some 34) (.r 33) none⟩,
    ⟨none, .mv (some 35) (.r 1)⟩,
    ⟨none, .mv (some 36) (.r 0)⟩,
    ⟨none, .nilck (some 37) (.r 36)⟩,
    ⟨none, .addr (some 38) (.r 37) 0⟩,
    ⟨none, .addr (some 39) (.r 38) 1⟩,
    ⟨none, .load (some 40) (.r 39) none⟩,
    ⟨none, .bst (some 41) [(0, 1), (1, 1), (2, 1)] (.agg [(.lit (.int .i64 0)), (.lit (.int .u64 0)), (.lit (.int .u64 0))]) [(0, (.r 35)), (1, (.r 40))]⟩]
def f32_18l : List GI := [⟨none, .upd (.int .u64) (.r 29) (.r 34) (.r 41)⟩]
def f32_18 : AC := .draw [0] [] [] f32_18h f32_18l
theorem f32_18e : aC P id m f32_18 sf st Q = headI P id sf.locs st f32_18h (tailK P id m [] [0] [] f32_18l Q st) [] ⟨sf.regs, dropL [] sf.locs⟩ := rfl
def f32_21l : List GI := [⟨none, .mv (some 42) (.r 0)⟩,
    ⟨none, .nilck (some 43) (.r 42)⟩,
    ⟨none, .addr (some 44) (.r 43) 0⟩,
    ⟨none, .addr (some 45) (.r 44) 1⟩,
    ⟨none, .load (some 46) (.r 45) none⟩,
    ⟨none, .bin (some 47) .num .eql (.r 46) (.c (.lit (.int .u64 0)))⟩]
def f32_21 : AC := .ops [0, 47] [] f32_21l
theorem f32_21e : aC P id m f32_21 sf st Q = runI P id m f32_21l (opsK [0, 47] [] Q) sf st := rfl
def f32_23l : List GI := [⟨none, .mv (some 48) (.r 0)⟩,
    ⟨none, .mv (some 49) (.r 0)⟩,
    ⟨none, .nilck (some 50) (.r 49)⟩,
    ⟨none, .addr (some 51) (.r 50) 0⟩,
    ⟨none, .addr (some 52) (.r 51) 2⟩,
    ⟨none, .load (some 53) (.r 52) none⟩,
    ⟨none, .nilck (some 54) (.r 48)⟩,
    ⟨none, .addr (some 55) (.r 54) 0⟩,
    ⟨none, .addr (some 56) (.r 55) 0⟩,
    ⟨none, .store 1 (.r 56) (.r 53)⟩]
def f32_23 : AC := .ops [0] [] f32_23l
theorem f32_23e : aC P id m f32_23 sf st Q = runI P id m f32_23l (opsK [0] [] Q) sf st := rfl
def f32_25h : List GI := [⟨none, .mv (some 57) (.r 0)⟩,
    ⟨none, .nilck (some 58) (.r 57)⟩,
    ⟨none, .addr (some 59) (.r 58) 3⟩,
    ⟨none, .load (some 60) (.r 59) none⟩,
    ⟨none, .mv (some 61) (.r 0)⟩,
    ⟨none, .nilck (some 62) (.r 61)⟩,
    ⟨none, .addr (some 63) (.r 62) 0⟩,
    ⟨none, .addr (some 64) (.r 63) 1⟩,
    ⟨none, .load (some 65) (.r 64) none⟩,
    ⟨none, .lookup (some 66) (.int .u64) (.agg [(.lit (.int .i64 0)), (.lit (.int .u64 0)), (.lit (.int .u64 0))]) false (.r 60) (.r 65)⟩,
    ⟨none, .newL 6 [(.lit (.int .i64 0)), (.lit (.int .u64 0)), (.lit (.int .u64 0))]⟩]
def f32_25l : List GI := [⟨none, .store 3 (.r 6) (.r 66)⟩]
def f32_25 : AC := .draw [0, 6] [6] [6] f32_25h f32_25l
theorem f32_25e : aC P id m f32_25 sf st Q = headI P id sf.locs st f32_25h (tailK P id m [6] [0, 6] [6] f32_25l Q st) [] ⟨sf.regs, dropL [6] sf.locs⟩ := rfl
def f32_27l : List GI := [⟨none, .mv (some 67) (.r 0)⟩,
    ⟨none, .nilck (some 68) (.r 67)⟩,
    ⟨none, .addr (some 69) (.r 68) 0⟩,
    ⟨none, .addr (some 70) (.r 69) 2⟩,
    ⟨none, .load (some 71) (.r 70) none⟩,
    ⟨none, .addr (some 72) (.r 6) 2⟩,
    ⟨none, .store 1 (.r 72) (.r 71)⟩]
def f32_27 : AC := .ops [0, 6] [6] f32_27l
theorem f32_27e : aC P id m f32_27 sf st Q = runI P id m f32_27l (opsK [0, 6] [6] Q) sf st := rfl
def f32_28h : List GI := [⟨none, .mv (some 73) (.r 0)⟩,
    ⟨none, .nilck (some 74) (.r 73)⟩,
    ⟨none, .addr (some 75) (.r 74) 3⟩,
    ⟨none, .load (some 76) (.r 75) none⟩,
    ⟨none, .mv (some 77) (.r 0)⟩,
    ⟨none, .nilck (some 78) (.r 77)⟩,
    ⟨none, .addr (some 79) (.r 78) 0⟩,
    ⟨none, .addr (some 80) (.r 79) 1⟩,
    ⟨none, .load (some 81) (.r 80) none⟩,
    ⟨none, .load (some 82) (.r 6) (some 3)⟩]
def f32_28l : List GI := [⟨none, .upd (.int .u64) (.r 76) (.r 81) (.r 82)⟩]
def f32_28 : AC := .draw [0] [] [] f32_28h f32_28l
theorem f32_28e : aC P id m f32_28 sf st Q = headI P id sf.locs st f32_28h (tailK P id m [] [0] [] f32_28l Q st) [] ⟨sf.regs, dropL [] sf.locs⟩ := rfl
def f32_26 : AC := .seq f32_27 f32_28
theorem f32_26e : aC P id m f32_26 sf st Q = aC P id m f32_27 sf st (seqQ (aC P id m f32_28) Q) := rfl
def f32_24 : AC := .seq f32_25 f32_26
theorem f32_24e : aC P id m f32_24 sf st Q = aC P id m f32_25 sf st (seqQ (aC P id m f32_26) Q) := rfl
def f32_22 : AC := .cond (.r 47) f32_23 f32_24
theorem f32_22e : aC P id m f32_22 sf st Q = condI (.r 47) (sf.ev id (.r 47)) (aC P id m f32_23) (aC P id m f32_24) sf st Q := rfl
def f32_20 : AC := .seq f32_21 f32_22
theorem f32_20e : aC P id m f32_20 sf st Q = aC P id m f32_21 sf st (seqQ (aC P id m f32_22) Q) := rfl
def f32_30l : List GI := [⟨none, .mv (some 83) (.r 0)⟩,
    ⟨none, .mv (some 84) (.r 0)⟩,
    ⟨none, .nilck (some 85) (.r 84)⟩,
    ⟨none, .addr (some 86) (.r 85) 0⟩,
    ⟨none, .addr (some 87) (.r 86) 2⟩,
    ⟨none, .load (some 88) (.r 87) none⟩,
    ⟨none, .nilck (some 89) (.r 83)⟩,
    ⟨none, .addr (some 90) (.r 89) 0⟩,
    ⟨none, .addr (some 91) (.r 90) 1⟩,
    ⟨none, .store 1 (.r 91) (.r 88)⟩]
def f32_30 : AC := .ops [0] [] f32_30l
theorem f32_30e : aC P id m f32_30 sf st Q = runI P id m f32_30l (opsK [0] [] Q) sf st := rfl
def f32_32l : List GI := [⟨none, .mv (some 92) (.r 0)⟩,
    ⟨none, .nilck (some 93) (.r 92)⟩,
    ⟨none, .addr (some 94) (.r 93) 0⟩,
    ⟨none, .addr (some 95) (.r 94) 2⟩,
    ⟨none, .load (some 96) (.r 95) none⟩,
    ⟨none, .own 4 96⟩,
    ⟨none, .mv (some 5) (.c (.lit (.int .i64 0)))⟩]
def f32_32 : AC := .ops [4, 5] [] f32_32l
theorem f32_32e : aC P id m f32_32 sf st Q = runI P id m f32_32l (opsK [4, 5] [] Q) sf st := rfl
def f32_31 : AC := .seq f32_32 .ret
theorem f32_31e : aC P id m f32_31 sf st Q = aC P id m f32_32 sf st (seqQ (aC P id m .ret) Q) := rfl
def f32_29 : AC := .seq f32_30 f32_31
theorem f32_29e : aC P id m f32_29 sf st Q = aC P id m f32_30 sf st (seqQ (aC P id m f32_31) Q) := rfl
def f32_19 : AC := .seq f32_20 f32_29
theorem f32_19e : aC P id m f32_19 sf st Q = aC P id m f32_20 sf st (seqQ (aC P id m f32_29) Q) := rfl
def f32_17 : AC := .seq f32_18 f32_19
theorem f32_17e : aC P id m f32_17 sf st Q = aC P id m f32_18 sf st (seqQ (aC P id m f32_19) Q) := rfl
def f32_15 : AC := .seq f32_16 f32_17
theorem f32_15e : aC P id m f32_15 sf st Q = aC P id m f32_16 sf st (seqQ (aC P id m f32_17) Q) := rfl
def f32_3 : AC := .seq f32_4 f32_15
theorem f32_3e : aC P id m f32_3 sf st Q = aC P id m f32_4 sf st (seqQ (aC P id m f32_15) Q) := rfl
def f32_1 : AC := .seq f32_2 f32_3
theorem f32_1e : aC P id m f32_1 sf st Q = aC P id m f32_2 sf st (seqQ (aC P id m f32_3) Q) := rfl
def c_f32 : AFun := ⟨97, [.tmp 4, .tmp 5], f32_1⟩
theorem k_f32 : compF Go.Proofs.Try.prog x_f32 32 = some c_f32 := by kernel_rfl
theorem e_f32 : enterB Go.Proofs.Try.prog 32 = true := by kernel_rfl

def n_f33 : Nat := 33
def x_f33 : Cx := ⟨some, id, 28, fun s => ([0, 1, 2, 6, 7, 8, 9, 10, 11, 12, 13, 14, 15, 16, 17, 18, 19, 20, 21, 22, 23, 24, 25, 26, 27] : List Nat).contains s, fun s => ([] : List Nat).contains s, msOf [(2, [0, 1, 2], []), (6, [1, 2, 7, 8, 9], []), (14, [6], [])]⟩
def f33_2l : List GI := [⟨none, .mv (some 6) (.c (.lit (.bool false)))⟩]
def f33_2 : AC := .ops [0, 1, 2] [] f33_2l
theorem f33_2e : aC P id m f33_2 sf st Q = runI P id m f33_2l (opsK [0, 1, 2] [] Q) sf st := rfl
def f33_4l : List GI := [⟨none, .mv (some 11) (.r 0)⟩,
    ⟨none, .call (some 12) false (.f 31) [(.r 11)]⟩,
    ⟨none, .mv (some 10) (.r 12)⟩,
    ⟨none, .ext (some 13) (.r 10) 0⟩,
    ⟨none, .ext (some 14) (.r 10) 1⟩,
    ⟨none, .ext (some 15) (.r 10) 2⟩,
    ⟨none, .own 7 13⟩,
    ⟨none, .own 8 14⟩,
    ⟨none, .own 9 15⟩]
def f33_4 : AC := .ops [1, 2, 7, 8, 9] [] f33_4l
theorem f33_4e : aC P id m f33_4 sf st Q = runI P id m f33_4l (opsK [1, 2, 7, 8, 9] [] Q) sf st := rfl
def f33_6l : List GI := [⟨none, .mv (some 16) (.r 7)⟩,
    ⟨none, .mv (some 17) (.r 1)⟩,
    ⟨none, .bin (some 18) .num .eql (.r 16) (.r 17)⟩,
    ⟨none, .mv (some 19) (.r 18)⟩,
    ⟨some (19, true), .mv (some 20) (.r 8)⟩,
    ⟨some (19, true), .mv (some 21) (.r 2)⟩,
    ⟨some (19, true), .bin (some 22) .num .eql (.r 20) (.r 21)⟩,
    ⟨none, .pick (some 23) (.r 19) (.r 22) (.c (.lit (.bool false)))⟩,
    ⟨none, .mv (some 24) (.r 23)⟩,
    ⟨some (24, true), .mv (some 25) (.r 9)⟩,
    ⟨some (24, true), .bin (some 26) .num .eql (.r 25) (.c (.lit (.int .i64 0)))⟩,
    ⟨none, .pick (some 27) (.r 24) (.r 26) (.c (.lit (.bool false)))⟩,
    ⟨none, .own 6 27⟩]
def f33_6 : AC := .ops [6] [] f33_6l
theorem f33_6e : aC P id m f33_6 sf st Q = runI P id m f33_6l (opsK [6] [] Q) sf st := rfl
def f33_5 : AC := .seq f33_6 .ret
theorem f33_5e : aC P id m f33_5 sf st Q = aC P id m f33_6 sf st (seqQ (aC P id m .ret) Q) := rfl
def f33_3 : AC := .seq f33_4 f33_5
theorem f33_3e : aC P id m f33_3 sf st Q = aC P id m f33_4 sf st (seqQ (aC P id m f33_5) Q) := rfl
def f33_1 : AC := .seq f33_2 f33_3
theorem f33_1e : aC P id m f33_1 sf st Q = aC P id m f33_2 sf st (seqQ (aC P id m f33_3) Q) := rfl
def c_f33 : AFun := ⟨28, [.tmp 6], f33_1⟩
theorem k_f33 : compF Go.Proofs.Try.prog x_f33 33 = some c_f33 := by kernel_rfl
theorem e_f33 : enterB Go.Proofs.Try.prog 33 = true := by kernel_rfl

def n_f34 : Nat := 34
def x_f34 : Cx := ⟨some, id, 22, fun s => ([0, 1, 2, 6, 7, 8, 9, 10, 11, 12, 13, 14, 15, 16, 17, 18, 19, 20, 21] : List Nat).contains s, fun s => ([] : List Nat).contains s, msOf [(2, [0, 1, 2], []), (6, [2, 7, 8], []), (14, [6], [])]⟩
def f34_2l : List GI := [⟨none, .mv (some 6) (.c (.lit (.bool false)))⟩]
def f34_2 : AC := .ops [0, 1, 2] [] f34_2l
theorem f34_2e : aC P id m f34_2 sf st Q = runI P id m f34_2l (opsK [0, 1, 2] [] Q) sf st := rfl
def f34_4l : List GI := [⟨none, .mv (some 10) (.r 0)⟩,
    ⟨none, .mv (some 11) (.r 1)⟩,
    ⟨none, .call (some 12) false (.f 32) [(.r 10), (.r 11)]⟩,
    ⟨none, .mv (some 9) (.r 12)⟩,
    ⟨none, .ext (some 13) (.r 9) 0⟩,
    ⟨none, .ext (some 14) (.r 9) 1⟩,
    ⟨none, .own 7 13⟩,
    ⟨none, .own 8 14⟩]
def f34_4 : AC := .ops [2, 7, 8] [] f34_4l
theorem f34_4e : aC P id m f34_4 sf st Q = runI P id m f34_4l (opsK [2, 7, 8] [] Q) sf st := rfl
def f34_6l : List GI := [⟨none, .mv (some 15) (.r 7)⟩,
    ⟨none, .mv (some 16) (.r 2)⟩,
    ⟨none, .bin (some 17) .num .eql (.r 15) (.r 16)⟩,
    ⟨none, .mv (some 18) (.r 17)⟩,
    ⟨some (18, true), .mv (some 19) (.r 8)⟩,
    ⟨some (18, true), .bin (some 20) .num .eql (.r 19) (.c (.lit (.int .i64 0)))⟩,
    ⟨none, .pick (some 21) (.r 18) (.r 20) (.c (.lit (.bool false)))⟩,
    ⟨none, .own 6 21⟩]
def f34_6 : AC := .ops [6] [] f34_6l
theorem f34_6e : aC P id m f34_6 sf st Q = runI P id m f34_6l (opsK [6] [] Q) sf st := rfl
def f34_5 : AC := .seq f34_6 .ret
theorem f34_5e : aC P id m f34_5 sf st Q = aC P id m f34_6 sf st (seqQ (aC P id m .ret) Q) := rfl
def f34_3 : AC := .seq f34_4 f34_5
theorem f34_3e : aC P id m f34_3 sf st Q = aC P id m f34_4 sf st (seqQ (aC P id m f34_5) Q) := rfl
def f34_1 : AC := .seq f34_2 f34_3
theorem f34_1e : aC P id m f34_1 sf st Q = aC P id m f34_2 sf st (seqQ (aC P id m f34_3) Q) := rfl
def c_f34 : AFun := ⟨22, [.tmp 6], f34_1⟩
theorem k_f34 : compF Go.Proofs.Try.prog x_f34 34 = some c_f34 := by kernel_rfl
theorem e_f34 : enterB Go.Proofs.Try.prog 34 = true := by kernel_rfl

def n_f35 : Nat := 35
def x_f35 : Cx := ⟨some, id, 82, fun s => ([0, 1, 4, 5, 7, 10, 12, 16, 17, 18, 19, 20, 21, 26, 27, 29, 33, 40, 42, 43, 45, 50, 52, 53, 55, 59, 66, 68, 69, 71, 76, 78, 79, 81] : List Nat).contains s, fun s => ([] : List Nat).contains s, msOf [(2, [0, 1], []), (12, [0, 1, 11], []), (52, [4, 5], []), (14, [0, 1, 6, 7], [6]), (60, [0, 1, 6, 22], [6]), (244, [4, 5], []), (62, [0, 6], [6]), (252, [0, 6, 30], [6]), (506, [0, 6], [6]), (1014, [0, 6, 8], [6, 8]), (2030, [0, 6, 8], [6, 8]), (2031, [0, 6], [6]), (508, [0, 6, 56], [6]), (1018, [6], [6]), (2038, [0, 6, 9], [6, 9]), (4078, [0, 6, 9], [6, 9]), (4079, [6], [6]), (510, [4, 5], [])]⟩
def f35_2l : List GI := [⟨none, .mv (some 4) (.c (.lit (.int .i64 0)))⟩,
    ⟨none, .mv (some 5) (.c (.lit (.int .i64 0)))⟩]
def f35_2 : AC := .ops [0, 1] [] f35_2l
theorem f35_2e : aC P id m f35_2 sf st Q = runI P id m f35_2l (opsK [0, 1] [] Q) sf st := rfl
def f35_5l : List GI := [⟨none, .mv (some 10) (.r 0)⟩,
    ⟨none, .call (some 11) false (.f 54) [(.r 10)]⟩]
def f35_5 : AC := .ops [0, 1, 11] [] f35_5l
theorem f35_5e : aC P id m f35_5 sf st Q = runI P id m f35_5l (opsK [0, 1, 11] [] Q) sf st := rfl
def f35_8l : List GI := [⟨none, .mv (some 4) (.c (.lit (.int .i64 0)))⟩,
    ⟨none, .mv (some 5) (.c (.lit (.int .i64 1)))⟩]
def f35_8 : AC := .ops [4, 5] [] f35_8l
theorem f35_8e : aC P id m f35_8 sf st Q = runI P id m f35_8l (opsK [4, 5] [] Q) sf st := rfl
def f35_7 : AC := .seq f35_8 .ret
theorem f35_7e : aC P id m f35_7 sf st Q = aC P id m f35_8 sf st (seqQ (aC P id m .ret) Q) := rfl
def f35_6 : AC := .cond (.r 11) f35_7 .skip
theorem f35_6e : aC P id m f35_6 sf st Q = condI (.r 11) (sf.ev id (.r 11)) (aC P id m f35_7) (aC P id m .skip) sf st Q := rfl
def f35_4 : AC := .seq f35_5 f35_6
theorem f35_4e : aC P id m f35_4 sf st Q = aC P id m f35_5 sf st (seqQ (aC P id m f35_6) Q) := rfl
def f35_10l : List GI := [⟨none, .mv (some 13) (.r 0)⟩,
    ⟨none, .nilck (some 14) (.r 13)⟩,
    ⟨none, .addr (some 15) (.r 14) 3⟩,
    ⟨none, .load (some 16) (.r 15) none⟩,
    ⟨none, .mv (some 17) (.r 1)⟩,
    ⟨none, .lookup (some 18) (.int .u64) (.agg [(.lit (.int .i64 0)), (.lit (.int .u64 0)), (.lit (.int .u64 0))]) true (.r 16) (.r 17)⟩,
    ⟨none, .mv (some 12) (.r 18)⟩,
    ⟨none, .ext (some 19) (.r 12) 0⟩,
    ⟨none, .ext (some 20) (.r 12) 1⟩,
    ⟨none, .newL 6 [(.lit (.int .i64 0)), (.lit (.int .u64 0)), (.lit (.int .u64 0))]⟩,
    ⟨none, .store 3 (.r 6) (.r 19)⟩,
    ⟨none, .own 7 20⟩]
def f35_10 : AC := .ops [0, 1, 6, 7] [6] f35_10l
theorem f35_10e : aC P id m f35_10 sf st Q = runI P id m f35_10l (opsK [0, 1, 6, 7] [6] Q) sf st := rfl
def f35_13l : List GI := [⟨none, .mv (some 21) (.r 7)⟩,
    ⟨none, .un (some 22) .not (.r 21)⟩]
def f35_13 : AC := .ops [0, 1, 6, 22] [6] f35_13l
theorem f35_13e : aC P id m f35_13 sf st Q = runI P id m f35_13l (opsK [0, 1, 6, 22] [6] Q) sf st := rfl
def f35_16l : List GI := [⟨none, .mv (some 4) (.c (.lit (.int .i64 0)))⟩,
    ⟨none, .mv (some 5) (.c (.lit (.int .i64 9)))⟩]
def f35_16 : AC := .ops [4, 5] [] f35_16l
theorem f35_16e : aC P id m f35_16 sf st Q = runI P id m f35_16l (opsK [4, 5] [] Q) sf st := rfl
def f35_15 : AC := .seq f35_16 .ret
theorem f35_15e : aC P id m f35_15 sf st Q = aC P id m f35_16 sf st (seqQ (aC P id m .ret) Q) := rfl
def f35_14 : AC := .cond (.r 22) f35_15 .skip
theorem f35_14e : aC P id m f35_14 sf st Q = condI (.r 22) (sf.ev id (.r 22)) (aC P id m f35_15) (aC P id m .skip) sf st Q := rfl
def f35_12 : AC := .seq f35_13 f35_14
theorem f35_12e : aC P id m f35_12 sf st Q = aC P id m f35_13 sf st (seqQ (aC P id m f35_14) Q) := rfl
def f35_18l : List GI := [⟨none, .mv (some 23) (.r 0)⟩,
    ⟨none, .nilck (some 24) (.r 23)⟩,
    ⟨none, .addr (some 25) (.r 24) 3⟩,
    ⟨none, .load (some 26) (.r 25) none⟩,
    ⟨none, .mv (some 27) (.r 1)⟩,
    ⟨none, .del (.int .u64) (.r 26) (.r 27)⟩]
def f35_18 : AC := .ops [0, 6] [6] f35_18l
theorem f35_18e : aC P id m f35_18 sf st Q = runI P id m f35_18l (opsK [0, 6] [6] Q) sf st := rfl
def f35_21l : List GI := [⟨none, .addr (some 28) (.r 6) 1⟩,
    ⟨none, .load (some 29) (.r 28) none⟩,
    ⟨none, .bin (some 30) .num .eql (.r 29) (.c (.lit (.int .u64 0)))⟩]
def f35_21 : AC := .ops [0, 6, 30] [6] f35_21l
theorem f35_21e : aC P id m f35_21 sf st Q = runI P id m f35_21l (opsK [0, 6, 30] [6] Q) sf st := rfl
def f35_23l : List GI := [⟨none, .mv (some 31) (.r 0)⟩,
    ⟨none, .addr (some 32) (.r 6) 2⟩,
    ⟨none, .load (some 33) (.r 32) none⟩,
    ⟨none, .nilck (some 34) (.r 31)⟩,
    ⟨none, .addr (some 35) (.r 34) 0⟩,
    ⟨none, .addr (some 36) (.r 35) 0⟩,
    ⟨none, .store 1 (.r 36) (.r 33)⟩]
def f35_23 : AC := .ops [0, 6] [6] f35_23l
theorem f35_23e : aC P id m f35_23 sf st Q = runI P id m f35_23l (opsK [0, 6] [6] Q) sf st := rfl
def f35_25h : List GI := [⟨none, .mv (some 37) (.r 0)⟩,
    ⟨none, .nilck (some 38) (.r 37)⟩,
    ⟨none, .addr (some 39) (.r 38) 3⟩,
    ⟨none, .load (some 40) (.r 39) none⟩,
    ⟨none, .addr (some 41) (.r 6) 1⟩,
    ⟨none, .load (some 42) (.r 41) none⟩,
    ⟨none, .lookup (some 43) (.int .u64) (.agg [(.lit (.int .i64 0)), (.lit (.int .u64 0)), (.lit (.int .u64 0))]) false (.r 40) (.r 42)⟩,
    ⟨none, .newL 8 [(.lit (.int .i64 0)), (.lit (.int .u64 0)), (.lit (.int .u64 0))]⟩]
def f35_25l : List GI := [⟨none, .store 3 (.r 8) (.r 43)⟩]
def f35_25 : AC := .draw [0, 6, 8] [6, 8] [8] f35_25h f35_25l
theorem f35_25e : aC P id m f35_25 sf st Q = headI P id sf.locs st f35_25h (tailK P id m [8] [0, 6, 8] [6, 8] f35_25l Q st) [] ⟨sf.regs, dropL [8] sf.locs⟩ := rfl
def f35_27l : List GI := [⟨none, .addr (some 44) (.r 6) 2⟩,
    ⟨none, .load (some 45) (.r 44) none⟩,
    ⟨none, .addr (some 46) (.r 8) 2⟩,
    ⟨none, .store 1 (.r 46) (.r 45)⟩]
def f35_27 : AC := .ops [0, 6, 8] [6, 8] f35_27l
theorem f35_27e : aC P id m f35_27 sf st Q = runI P id m f35_27l (opsK [0, 6, 8] [6, 8] Q) sf st := rfl
def f35_28h : List GI := [⟨none, .mv (some 47) (.r 0)⟩,
    ⟨none, .nilck (some 48) (.r 47)⟩,
    ⟨none, .addr (some 49) (.r 48) 3⟩,
    ⟨none, .load (some 50) (.r 49) none⟩,
    ⟨none, .addr (some 51) (.r 6) 1⟩,
    ⟨none, .load (some 52) (.r 51) none⟩,
    ⟨none, .load (some 53) (.r 8) (some 3)⟩]
def f35_28l : List GI := [⟨none, .upd (.int .u64) (.r 50) (.r 52) (.r 53)⟩]
def f35_28 : AC := .draw [0, 6] [6] [] f35_28h f35_28l
theorem f35_28e : aC P id m f35_28 sf st Q = headI P id sf.locs st f35_28h (tailK P id m [] [0, 6] [6] f35_28l Q st) [] ⟨sf.regs, dropL [] sf.locs⟩ := rfl
def f35_26 : AC := .seq f35_27 f35_28
theorem f35_26e : aC P id m f35_26 sf st Q = aC P id m f35_27 sf st (seqQ (aC P id m f35_28) Q) := rfl
def f35_24 : AC := .seq f35_25 f35_26
theorem f35_24e : aC P id m f35_24 sf st Q = aC P id m f35_25 sf st (seqQ (aC P id m f35_26) Q) := rfl
def f35_22 : AC := .cond (.r 30) f35_23 f35_24
theorem f35_22e : aC P id m f35_22 sf st Q = condI (.r 30) (sf.ev id (.r 30)) (aC P id m f35_23) (aC P id m f35_24) sf st Q := rfl
def f35_20 : AC := .seq f35_21 f35_22
theorem f35_20e : aC P id m f35_20 sf st Q = aC P id m f35_21 sf st (seqQ (aC P id m f35_22) Q) := rfl
def f35_31l : List GI := [⟨none, .addr (some 54) (.r 6) 2⟩,
    ⟨none, .load (some 55) (.r 54) none⟩,
    ⟨none, .bin (some 56) .num .eql (.r 55) (.c (.lit (.int .u64 0)))⟩]
def f35_31 : AC := .ops [0, 6, 56] [6] f35_31l
theorem f35_31e : aC P id m f35_31 sf st Q = runI P id m f35_31l (opsK [0, 6, 56] [6] Q) sf st := rfl
def f35_33l : List GI := [⟨none, .mv (some 57) (.r 0)⟩,
    ⟨none, .addr (some 58) (.r 6) 1⟩,
    ⟨none, .load (some 59) (.r 58) none⟩,
    ⟨none, .nilck (some 60) (.r 57)⟩,
    ⟨none, .addr (some 61) (.r 60) 0⟩,
    ⟨none, .addr (some 62) (.r 61) 1⟩,
    ⟨none, .store 1 (.r 62) (.r 59)⟩]
def f35_33 : AC := .ops [6] [6] f35_33l
theorem f35_33e : aC P id m f35_33 sf st Q = runI P id m f35_33l (opsK [6] [6] Q) sf st := rfl
def f35_35h : List GI := [⟨none, .mv (some 63) (.r 0)⟩,
    ⟨none, .nilck (some 64) (.r 63)⟩,
    ⟨none, .addr (some 65) (.r 64) 3⟩,
    ⟨none, .load (some 66) (.r 65) none⟩,
    ⟨none, .addr (some 67) (.r 6) 2⟩,
    ⟨none, .load (some 68) (.r 67) none⟩,
    ⟨none, .lookup (some 69) (.int .u64) (.agg [(.lit (.int .i64 0)), (.lit (.int .u64 0)), (.lit (.int .u64 0))]) false (.r 66) (.r 68)⟩,
    ⟨none, .newL 9 [(.lit (.int .i64 0)), (.lit (.int .u64 0)), (.lit (.int .u64 0))]⟩]
def f35_35l : List GI := [⟨none, .store 3 (.r 9) (.r 69)⟩]
def f35_35 : AC := .draw [0, 6, 9] [6, 9] [9] f35_35h f35_35l
theorem f35_35e : aC P id m f35_35 sf st Q = headI P id sf.locs st f35_35h (tailK P id m [9] [0, 6, 9] [6, 9] f35_35l Q st) [] ⟨sf.regs, dropL [9] sf.locs⟩ := rfl
def f35_37l : List GI := [⟨none, .addr (some 70) (.r 6) 1⟩,
    ⟨none, .load (some 71) (.r 70) none⟩,
    ⟨none, .addr (some 72) (.r 9) 1⟩,
    ⟨none, .store 1 (.r 72) (.r 71)⟩]
def f35_37 : AC := .ops [0, 6, 9] [6, 9] f35_37l
theorem f35_37e : aC P id m f35_37 sf st Q = runI P id m f35_37l (opsK [0, 6, 9] [6, 9] Q) sf st := rfl
def f35_38h : List GI := [⟨none, .mv (some 73) (.r 0)⟩,
    ⟨none, .nilck (some 74) (.r 73)⟩,
    ⟨none, .addr (some 75) (.r 74) 3⟩,
    ⟨none, .load (some 76) (.r 75) none⟩,
    ⟨none, .addr (some 77) (.r 6) 2⟩,
    ⟨none, .load (some 78) (.r 77) none⟩,
    ⟨none, .load (some 79) (.r 9) (some 3)⟩]
def f35_38l : List GI := [⟨none, .upd (.int .u64) (.r 76) (.r 78) (.r 79)⟩]
def f35_38 : AC := .draw [6] [6] [] f35_38h f35_38l
theorem f35_38e : aC P id m f35_38 sf st Q = headI P id sf.locs st f35_38h (tailK P id m [] [6] [6] f35_38l Q st) [] ⟨sf.regs, dropL [] sf.locs⟩ := rfl
def f35_36 : AC := .seq f35_37 f35_38
theorem f35_36e : aC P id m f35_36 sf st Q = aC P id m f35_37 sf st (seqQ (aC P id m f35_38) Q) := rfl
def f35_34 : AC := .seq f35_35 f35_36
theorem f35_34e : aC P id m f35_34 sf st Q = aC P id m f35_35 sf st (seqQ (aC P id m f35_36) Q) := rfl
def f35_32 : AC := .cond (.r 56) f35_33 f35_34
theorem f35_32e : aC P id m f35_32 sf st Q = condI (.r 56) (sf.ev id (.r 56)) (aC P id m f35_33) (aC P id m f35_34) sf st Q := rfl
def f35_30 : AC := .seq f35_31 f35_32
theorem f35_30e : aC P id m f35_30 sf st Q = aC P id m f35_31 sf st (seqQ (aC P id m f35_32) Q) := rfl
def f35_40l : List GI := [⟨none, .addr (some 80) (.r 6) 0⟩,
    ⟨none, .load (some 81) (.r 80) none⟩,
    ⟨none, .own 4 81⟩,
    ⟨none, .mv (some 5) (.c (.lit (.int .i64 0)))⟩]
def f35_40 : AC := .ops [4, 5] [] f35_40l
theorem f35_40e : aC P id m f35_40 sf st Q = runI P id m f35_40l (opsK [4, 5] [] Q) sf st := rfl
def f35_39 : AC := .seq f35_40 .ret
theorem f35_39e : aC P id m f35_39 sf st Q = aC P id m f35_40 sf st (seqQ (aC P id m .ret) Q) := rfl
def f35_29 : AC := .seq f35_30 f35_39
theorem f35_29e : aC P id m f35_29 sf st Q = aC P id m f35_30 sf st (seqQ (aC P id m f35_39) Q) := rfl
def f35_19 : AC := .seq f35_20 f35_29
theorem f35_19e : aC P id m f35_19 sf st Q = aC P id m f35_20 sf st (seqQ (aC P id m f35_29) Q) := rfl
def f35_17 : AC := .seq f35_18 f35_19
theorem f35_17e : aC P id m f35_17 sf st Q = aC P id m f35_18 sf st (seqQ (aC P id m f35_19) Q) := rfl
def f35_11 : AC := .seq f35_12 f35_17
theorem f35_11e : aC P id m f35_11 sf st Q = aC P id m f35_12 sf st (seqQ (aC P id m f35_17) Q) := rfl
def f35_9 : AC := .seq f35_10 f35_11
theorem f35_9e : aC P id m f35_9 sf st Q = aC P id m f35_10 sf st (seqQ (aC P id m f35_11) Q) := rfl
def f35_3 : AC := .seq f35_4 f35_9
theorem f35_3e : aC P id m f35_3 sf st Q = aC P id m f35_4 sf st (seqQ (aC P id m f35_9) Q) := rfl
def f35_1 : AC := .seq f35_2 f35_3
theorem f35_1e : aC P id m f35_1 sf st Q = aC P id m f35_2 sf st (seqQ (aC P id m f35_3) Q) := rfl
def c_f35 : AFun := ⟨82, [.tmp 4, .tmp 5], f35_1⟩
theorem k_f35 : compF Go.Proofs.Try.prog x_f35 35 = some c_f35 := by kernel_rfl
theorem e_f35 : enterB Go.Proofs.Try.prog 35 = true := by kernel_rfl

def n_f36 : Nat := 36
def x_f36 : Cx := ⟨some, id, 35, fun s => ([0, 1, 4, 5, 7, 8, 9, 11, 15, 16, 17, 18, 19, 20, 23, 25, 26, 30, 32, 33, 34] : List Nat).contains s, fun s => ([] : List Nat).contains s, msOf [(2, [0, 1], []), (12, [0, 1, 10], []), (52, [4, 5], []), (14, [0, 6, 7], [6]), (60, [0, 6, 21], [6]), (244, [4, 5], []), (62, [0, 6, 8], [6]), (252, [0, 6, 8], [6]), (2016, [0, 6, 8, 24], [6]), (4035, [8], []), (4036, [0, 6, 8], [6]), (2019, [0, 6, 8], [6]), (254, [4, 5], [])]⟩
def f36_2l : List GI := [⟨none, .mv (some 4) (.c (.lit (.int .i64 0)))⟩,
    ⟨none, .mv (some 5) (.c (.lit (.int .i64 0)))⟩]
def f36_2 : AC := .ops [0, 1] [] f36_2l
theorem f36_2e : aC P id m f36_2 sf st Q = runI P id m f36_2l (opsK [0, 1] [] Q) sf st := rfl
def f36_5l : List GI := [⟨none, .mv (some 9) (.r 0)⟩,
    ⟨none, .call (some 10) false (.f 54) [(.r 9)]⟩]
def f36_5 : AC := .ops [0, 1, 10] [] f36_5l
theorem f36_5e : aC P id m f36_5 sf st Q = runI P id m f36_5l (opsK [0, 1, 10] [] Q) sf st := rfl
def f36_8l : List GI := [⟨none, .mv (some 4) (.c (.lit (.int .i64 0)))⟩,
    ⟨none, .mv (some 5) (.c (.lit (.int .i64 1)))⟩]
def f36_8 : AC := .ops [4, 5] [] f36_8l
theorem f36_8e : aC P id m f36_8 sf st Q = runI P id m f36_8l (opsK [4, 5] [] Q) sf st := rfl
def f36_7 : AC := .seq f36_8 .ret
theorem f36_7e : aC P id m f36_7 sf st Q = aC P id m f36_8 sf st (seqQ (aC P id m .ret) Q) := rfl
def f36_6 : AC := .cond (.r 10) f36_7 .skip
theorem f36_6e : aC P id m f36_6 sf st Q = condI (.r 10) (sf.ev id (.r 10)) (aC P id m f36_7) (aC P id m .skip) sf st Q := rfl
def f36_4 : AC := .seq f36_5 f36_6
theorem f36_4e : aC P id m f36_4 sf st Q = aC P id m f36_5 sf st (seqQ (aC P id m f36_6) Q) := rfl
def f36_10l : List GI := [⟨none, .mv (some 12) (.r 0)⟩,
    ⟨none, .nilck (some 13) (.r 12)⟩,
    ⟨none, .addr (some 14) (.r 13) 3⟩,
    ⟨none, .load (some 15) (.r 14) none⟩,
    ⟨none, .mv (some 16) (.r 1)⟩,
    ⟨none, .lookup (some 17) (.int .u64) (.agg [(.lit (.int .i64 0)), (.lit (.int .u64 0)), (.lit (.int .u64 0))]) true (.r 15) (.r 16)⟩,
    ⟨none, .mv (some 11) (.r 17)⟩,
    ⟨none, .ext (some 18) (.r 11) 0⟩,
    ⟨none, .ext (some 19) (.r 11) 1⟩,
    ⟨none, .newL 6 [(.lit (.int .i64 0)), (.lit (.int .u64 0)), (.lit (.int .u64 0))]⟩,
    ⟨none, .store 3 (.r 6) (.r 18)⟩,
    ⟨none, .own 7 19⟩]
def f36_10 : AC := .ops [0, 6, 7] [6] f36_10l
theorem f36_10e : aC P id m f36_10 sf st Q = runI P id m f36_10l (opsK [0, 6, 7] [6] Q) sf st := rfl
def f36_13l : List GI := [⟨none, .mv (some 20) (.r 7)⟩,
    ⟨none, .un (some 21) .not (.r 20)⟩]
def f36_13 : AC := .ops [0, 6, 21] [6] f36_13l
theorem f36_13e : aC P id m f36_13 sf st Q = runI P id m f36_13l (opsK [0, 6, 21] [6] Q) sf st := rfl
def f36_16l : List GI := [⟨none, .mv (some 4) (.c (.lit (.int .i64 0)))⟩,
    ⟨none, .mv (some 5) (.c (.lit (.int .i64 9)))⟩]
def f36_16 : AC := .ops [4, 5] [] f36_16l
theorem f36_16e : aC P id m f36_16 sf st Q = runI P id m f36_16l (opsK [4, 5] [] Q) sf st := rfl
def f36_15 : AC := .seq f36_16 .ret
theorem f36_15e : aC P id m f36_15 sf st Q = aC P id m f36_16 sf st (seqQ (aC P id m .ret) Q) := rfl
def f36_14 : AC := .cond (.r 21) f36_15 .skip
theorem f36_14e : aC P id m f36_14 sf st Q = condI (.r 21) (sf.ev id (.r 21)) (aC P id m f36_15) (aC P id m .skip) sf st Q := rfl
def f36_12 : AC := .seq f36_13 f36_14
theorem f36_12e : aC P id m f36_12 sf st Q = aC P id m f36_13 sf st (seqQ (aC P id m f36_14) Q) := rfl
def f36_18l : List GI := [⟨none, .mv (some 8) (.c (.lit (.int .i64 0)))⟩]
def f36_18 : AC := .ops [0, 6, 8] [6] f36_18l
theorem f36_18e : aC P id m f36_18 sf st Q = runI P id m f36_18l (opsK [0, 6, 8] [6] Q) sf st := rfl
def f36_24l : List GI := [⟨none, .addr (some 22) (.r 6) 1⟩,
    ⟨none, .load (some 23) (.r 22) none⟩,
    ⟨none, .bin (some 24) .num .neq (.r 23) (.c (.lit (.int .u64 0)))⟩]
def f36_24 : AC := .ops [0, 6, 8, 24] [6] f36_24l
theorem f36_24e : aC P id m f36_24 sf st Q = runI P id m f36_24l (opsK [0, 6, 8, 24] [6] Q) sf st := rfl
def f36_25 : AC := .cond (.r 24) .skip (.exit [8] [] 0)
theorem f36_25e : aC P id m f36_25 sf st Q = condI (.r 24) (sf.ev id (.r 24)) (aC P id m .skip) (aC P id m (.exit [8] [] 0)) sf st Q := rfl
def f36_23 : AC := .seq f36_24 f36_25
theorem f36_23e : aC P id m f36_23 sf st Q = aC P id m f36_24 sf st (seqQ (aC P id m f36_25) Q) := rfl
def f36_28h : List GI := [⟨none, .mv (some 27) (.r 0)⟩,
    ⟨none, .nilck (some 28) (.r 27)⟩,
    ⟨none, .addr (some 29) (.r 28) 3⟩,
    ⟨none, .load (some 30) (.r 29) none⟩,
    ⟨none, .addr (some 31) (.r 6) 1⟩,
    ⟨none, .load (some 32) (.r 31) none⟩]
def f36_28l : List GI := [⟨none, .lookup (some 33) (.int .u64) (.agg [(.lit (.int .i64 0)), (.lit (.int .u64 0)), (.lit (.int .u64 0))]) false (.r 30) (.r 32)⟩,
    ⟨none, .store 3 (.r 6) (.r 33)⟩]
def f36_28 : AC := .draw [0, 6, 8] [6] [] f36_28h f36_28l
theorem f36_28e : aC P id m f36_28 sf st Q = headI P id sf.locs st f36_28h (tailK P id m [] [0, 6, 8] [6] f36_28l Q st) [] ⟨sf.regs, dropL [] sf.locs⟩ := rfl
def f36_27 : AC := .block 1 f36_28
theorem f36_27e : aC P id m f36_27 sf st Q = aC P id m f36_28 sf st (blockQ 1 Q) := rfl
def f36_29l : List GI := [⟨none, .mv (some 25) (.r 8)⟩,
    ⟨none, .bin (some 26) .num .add (.r 25) (.c (.lit (.int .i64 1)))⟩,
    ⟨none, .own 8 26⟩]
def f36_29 : AC := .ops [0, 6, 8] [6] f36_29l
theorem f36_29e : aC P id m f36_29 sf st Q = runI P id m f36_29l (opsK [0, 6, 8] [6] Q) sf st := rfl
def f36_26 : AC := .seq f36_27 f36_29
theorem f36_26e : aC P id m f36_26 sf st Q = aC P id m f36_27 sf st (seqQ (aC P id m f36_29) Q) := rfl
def f36_22 : AC := .seq f36_23 f36_26
theorem f36_22e : aC P id m f36_22 sf st Q = aC P id m f36_23 sf st (seqQ (aC P id m f36_26) Q) := rfl
def f36_21 : AC := .loop [0, 6, 8] [6] f36_22
theorem f36_21w : aC P id m f36_21 sf st Q = loopI (aC P id m f36_22) [0, 6, 8] [6] sf st Q := rfl
def f36_20 : AC := .block 0 f36_21
theorem f36_20e : aC P id m f36_20 sf st Q = aC P id m f36_21 sf st (blockQ 0 Q) := rfl
def f36_31l : List GI := [⟨none, .mv (some 34) (.r 8)⟩,
    ⟨none, .own 4 34⟩,
    ⟨none, .mv (some 5) (.c (.lit (.int .i64 0)))⟩]
def f36_31 : AC := .ops [4, 5] [] f36_31l
theorem f36_31e : aC P id m f36_31 sf st Q = runI P id m f36_31l (opsK [4, 5] [] Q) sf st := rfl
def f36_30 : AC := .seq f36_31 .ret
theorem f36_30e : aC P id m f36_30 sf st Q = aC P id m f36_31 sf st (seqQ (aC P id m .ret) Q) := rfl
def f36_19 : AC := .seq f36_20 f36_30
theorem f36_19e : aC P id m f36_19 sf st Q = aC P id m f36_20 sf st (seqQ (aC P id m f36_30) Q) := rfl
def f36_17 : AC := .seq f36_18 f36_19
theorem f36_17e : aC P id m f36_17 sf st Q = aC P id m f36_18 sf st (seqQ (aC P id m f36_19) Q) := rfl
def f36_11 : AC := .seq f36_12 f36_17
theorem f36_11e : aC P id m f36_11 sf st Q = aC P id m f36_12 sf st (seqQ (aC P id m f36_17) Q) := rfl
def f36_9 : AC := .seq f36_10 f36_11
theorem f36_9e : aC P id m f36_9 sf st Q = aC P id m f36_10 sf st (seqQ (aC P id m f36_11) Q) := rfl
def f36_3 : AC := .seq f36_4 f36_9
theorem f36_3e : aC P id m f36_3 sf st Q = aC P id m f36_4 sf st (seqQ (aC P id m f36_9) Q) := rfl
def f36_1 : AC := .seq f36_2 f36_3
theorem f36_1e : aC P id m f36_1 sf st Q = aC P id m f36_2 sf st (seqQ (aC P id m f36_3) Q) := rfl
def c_f36 : AFun := ⟨35, [.tmp 4, .tmp 5], f36_1⟩
theorem k_f36 : compF Go.Proofs.Try.prog x_f36 36 = some c_f36 := by kernel_rfl
theorem e_f36 : enterB Go.Proofs.Try.prog 36 = true := by kernel_rfl

def n_f37 : Nat := 37
def x_f37 : Cx := ⟨some, id, 16, fun s => ([0, 2, 3, 8, 12, 13, 14, 15] : List Nat).contains s, fun s => ([13] : List Nat).contains s, msOf [(2, [0], []), (12, [0, 4], []), (52, [2], []), (14, [2], [])]⟩
def f37_2l : List GI := [⟨none, .mv (some 2) (.c (.lit (.pointer none)))⟩]
def f37_2 : AC := .ops [0] [] f37_2l
theorem f37_2e : aC P id m f37_2 sf st Q = runI P id m f37_2l (opsK [0] [] Q) sf st := rfl
def f37_5l : List GI := [⟨none, .mv (some 3) (.r 0)⟩,
    ⟨none, .call (some 4) false (.f 54) [(.r 3)]⟩]
def f37_5 : AC := .ops [0, 4] [] f37_5l
theorem f37_5e : aC P id m f37_5 sf st Q = runI P id m f37_5l (opsK [0, 4] [] Q) sf st := rfl
def f37_8l : List GI := [⟨none, .mv (some 2) (.c (.lit (.pointer none)))⟩]
def f37_8 : AC := .ops [2] [] f37_8l
theorem f37_8e : aC P id m f37_8 sf st Q = runI P id m f37_8l (opsK [2] [] Q) sf st := rfl
def f37_7 : AC := .seq f37_8 .ret
theorem f37_7e : aC P id m f37_7 sf st Q = aC P id m f37_8 sf st (seqQ (aC P id m .ret) Q) := rfl
def f37_6 : AC := .cond (.r 4) f37_7 .skip
theorem f37_6e : aC P id m f37_6 sf st Q = condI (.r 4) (sf.ev id (.r 4)) (aC P id m f37_7) (aC P id m .skip) sf st Q := rfl
def f37_4 : AC := .seq f37_5 f37_6
theorem f37_4e : aC P id m f37_4 sf st Q = aC P id m f37_5 sf st (seqQ (aC P id m f37_6) Q) := rfl
def f37_10h : List GI := [⟨none, .mv (some 5) (.r 0)⟩,
    ⟨none, .nilck (some 6) (.r 5)⟩,
    ⟨none, .addr (some 7) (.r 6) 0⟩,
    ⟨none, .load (some 8) (.r 7) (some 3)⟩,
    ⟨none, .mv (some 9) (.r 0)⟩,
    ⟨none, .nilck (some 10) (.r 9)⟩,
    ⟨none, .addr (some 11) (.r 10) 3⟩,
    ⟨none, .load (some 12) (.r 11) none⟩]
def f37_10p : List (Bool × GI) := []
def f37_10l : List GI := [⟨none, .bst (some 14) [(0, 3), (3, 1)] (.agg [(.lit (.int .u64 0)), (.lit (.int .u64 0)), (.lit (.int .u64 0)), (.lit (.map none))]) [(0, (.r 8)), (1, (.r 13))]⟩,
    ⟨none, .boxB 15 4 (.r 14)⟩,
    ⟨none, .own 2 15⟩]
def f37_10 : AC := .drawM [2] [] f37_10h (some 13) (.f 56) [(.r 12)] f37_10p f37_10l
theorem f37_10e : aC P id m f37_10 sf st Q = (m = false ∧ drawM P id f37_10h (some 13) (.f 56) [(.r 12)] f37_10p sf st (tailM P id m [2] [] f37_10l Q)) := rfl
def f37_9 : AC := .seq f37_10 .ret
theorem f37_9e : aC P id m f37_9 sf st Q = aC P id m f37_10 sf st (seqQ (aC P id m .ret) Q) := rfl
def f37_3 : AC := .seq f37_4 f37_9
theorem f37_3e : aC P id m f37_3 sf st Q = aC P id m f37_4 sf st (seqQ (aC P id m f37_9) Q) := rfl
def f37_1 : AC := .seq f37_2 f37_3
theorem f37_1e : aC P id m f37_1 sf st Q = aC P id m f37_2 sf st (seqQ (aC P id m f37_3) Q) := rfl
def c_f37 : AFun := ⟨16, [.tmp 2], f37_1⟩
theorem k_f37 : compF Go.Proofs.Try.prog x_f37 37 = some c_f37 := by kernel_rfl
theorem e_f37 : enterB Go.Proofs.Try.prog 37 = true := by kernel_rfl

def n_f49 : Nat := 49
def x_f49 : Cx := ⟨some, id, 22, fun s => ([0, 1, 2, 6, 7, 8, 9, 10, 11, 12, 13, 14, 15, 16, 17, 18, 19, 20, 21] : List Nat).contains s, fun s => ([] : List Nat).contains s, msOf [(2, [0, 1, 2], []), (6, [2, 7, 8], []), (14, [6], [])]⟩
def f49_2l : List GI := [⟨none, .mv (some 6) (.c (.lit (.bool false)))⟩]
def f49_2 : AC := .ops [0, 1, 2] [] f49_2l
theorem f49_2e : aC P id m f49_2 sf st Q = runI P id m f49_2l (opsK [0, 1, 2] [] Q) sf st := rfl
def f49_4l : List GI := [⟨none, .mv (some 10) (.r 0)⟩,
    ⟨none, .mv (some 11) (.r 1)⟩,
    ⟨none, .call (some 12) false (.f 36) [(.r 10), (.r 11)]⟩,
    ⟨none, .mv (some 9) (.r 12)⟩,
    ⟨none, .ext (some 13) (.r 9) 0⟩,
    ⟨none, .ext (some 14) (.r 9) 1⟩,
    ⟨none, .own 7 13⟩,
    ⟨none, .own 8 14⟩]
def f49_4 : AC := .ops [2, 7, 8] [] f49_4l
theorem f49_4e : aC P id m f49_4 sf st Q = runI P id m f49_4l (opsK [2, 7, 8] [] Q) sf st := rfl
def f49_6l : List GI := [⟨none, .mv (some 15) (.r 7)⟩,
    ⟨none, .mv (some 16) (.r 2)⟩,
    ⟨none, .bin (some 17) .num .eql (.r 15) (.r 16)⟩,
    ⟨none, .mv (some 18) (.r 17)⟩,
    ⟨some (18, true), .mv (some 19) (.r 8)⟩,
    ⟨some (18, true), .bin (some 20) .num .eql (.r 19) (.c (.lit (.int .i64 0)))⟩,
    ⟨none, .pick (some 21) (.r 18) (.r 20) (.c (.lit (.bool false)))⟩,
    ⟨none, .own 6 21⟩]
def f49_6 : AC := .ops [6] [] f49_6l
theorem f49_6e : aC P id m f49_6 sf st Q = runI P id m f49_6l (opsK [6] [] Q) sf st := rfl
def f49_5 : AC := .seq f49_6 .ret
theorem f49_5e : aC P id m f49_5 sf st Q = aC P id m f49_6 sf st (seqQ (aC P id m .ret) Q) := rfl
def f49_3 : AC := .seq f49_4 f49_5
theorem f49_3e : aC P id m f49_3 sf st Q = aC P id m f49_4 sf st (seqQ (aC P id m f49_5) Q) := rfl
def f49_1 : AC := .seq f49_2 f49_3
theorem f49_1e : aC P id m f49_1 sf st Q = aC P id m f49_2 sf st (seqQ (aC P id m f49_3) Q) := rfl
def c_f49 : AFun := ⟨22, [.tmp 6], f49_1⟩
theorem k_f49 : compF Go.Proofs.Try.prog x_f49 49 = some c_f49 := by kernel_rfl
theorem e_f49 : enterB Go.Proofs.Try.prog 49 = true := by kernel_rfl

def n_f50 : Nat := 50
def x_f50 : Cx := ⟨some, id, 29, fun s => ([0, 1, 5, 6, 8, 9, 11, 13, 14, 15, 17, 18, 19, 20, 21, 23, 24, 25, 27, 28] : List Nat).contains s, fun s => ([] : List Nat).contains s, msOf [(2, [1, 2, 4], [2, 4]), (12, [1, 2, 4, 10], [2, 4]), (52, [4, 5, 6], [4]), (14, [4, 5, 6], [4])]⟩
def f50_2l : List GI := [⟨none, .boxL 2 2 (.r 0)⟩,
    ⟨none, .newL 4 [(.lit (.slice none 0 0)), (.lit (.int .u64 0))]⟩,
    ⟨none, .mv (some 5) (.c (.lit (.int .u64 0)))⟩,
    ⟨none, .mv (some 6) (.c (.lit (.int .i64 0)))⟩]
def f50_2 : AC := .ops [1, 2, 4] [2, 4] f50_2l
theorem f50_2e : aC P id m f50_2 sf st Q = runI P id m f50_2l (opsK [1, 2, 4] [2, 4] Q) sf st := rfl
def f50_5l : List GI := [⟨none, .addr (some 7) (.r 2) 0⟩,
    ⟨none, .load (some 8) (.r 7) none⟩,
    ⟨none, .len (some 9) .sl (.r 8)⟩,
    ⟨none, .bin (some 10) .num .geq (.r 9) (.c (.lit (.int .i64 4096)))⟩]
def f50_5 : AC := .ops [1, 2, 4, 10] [2, 4] f50_5l
theorem f50_5e : aC P id m f50_5 sf st Q = runI P id m f50_5l (opsK [1, 2, 4, 10] [2, 4] Q) sf st := rfl
def f50_8l : List GI := [⟨none, .load (some 11) (.r 2) (some 2)⟩,
    ⟨none, .store 2 (.r 4) (.r 11)⟩,
    ⟨none, .mv (some 5) (.c (.lit (.int .u64 0)))⟩,
    ⟨none, .mv (some 6) (.c (.lit (.int .i64 7)))⟩]
def f50_8 : AC := .ops [4, 5, 6] [4] f50_8l
theorem f50_8e : aC P id m f50_8 sf st Q = runI P id m f50_8l (opsK [4, 5, 6] [4] Q) sf st := rfl
def f50_7 : AC := .seq f50_8 .ret
theorem f50_7e : aC P id m f50_7 sf st Q = aC P id m f50_8 sf st (seqQ (aC P id m .ret) Q) := rfl
def f50_6 : AC := .cond (.r 10) f50_7 .skip
theorem f50_6e : aC P id m f50_6 sf st Q = condI (.r 10) (sf.ev id (.r 10)) (aC P id m f50_7) (aC P id m .skip) sf st Q := rfl
def f50_4 : AC := .seq f50_5 f50_6
theorem f50_4e : aC P id m f50_4 sf st Q = aC P id m f50_5 sf st (seqQ (aC P id m f50_6) Q) := rfl
def f50_10h : List GI := [⟨none, .addr (some 12) (.r 2) 0⟩,
    ⟨none, .load (some 13) (.r 12) none⟩,
    ⟨none, .app (some 14) 2 16 (.c (.lit (.slice none 0 0))) (.r 13)⟩,
    ⟨none, .mv (some 15) (.r 1)⟩,
    ⟨none, .addr (some 16) (.r 2) 1⟩,
    ⟨none, .load (some 17) (.r 16) none⟩,
    ⟨none, .bin (some 18) .num .add (.r 17) (.c (.lit (.int .u64 1)))⟩,
    ⟨none, .bst (some 19) [(0, 1), (1, 1)] (.agg [(.lit (.int .i64 0)), (.lit (.int .u64 0))]) [(0, (.r 15)), (1, (.r 18))]⟩,
    ⟨none, .bsl (some 20) 2 1 (.agg [(.lit (.int .i64 0)), (.lit (.int .u64 0))]) [(0, (.r 19))]⟩,
    ⟨none, .appS 21 14 2 16 (.r 20)⟩,
    ⟨none, .addr (some 22) (.r 2) 1⟩,
    ⟨none, .load (some 23) (.r 22) none⟩,
    ⟨none, .bin (some 24) .num .add (.r 23) (.c (.lit (.int .u64 1)))⟩,
    ⟨none, .bst (some 25) [(0, 1), (1, 1)] (.agg [(.lit (.slice none 0 0)), (.lit (.int .u64 0))]) [(0, (.r 21)), (1, (.r 24))]⟩,
    ⟨none, .addr (some 26) (.r 2) 1⟩,
    ⟨none, .load (some 27) (.r 26) none⟩,
    ⟨none, .bin (some 28) .num .add (.r 27) (.c (.lit (.int .u64 1)))⟩,
    ⟨none, .store 2 (.r 4) (.r 25)⟩]
def f50_10l : List GI := [⟨none, .own 5 28⟩,
    ⟨none, .mv (some 6) (.c (.lit (.int .i64 0)))⟩]
def f50_10 : AC := .draw [4, 5, 6] [4] [4] f50_10h f50_10l
theorem f50_10e : aC P id m f50_10 sf st Q = headI P id sf.locs st f50_10h (tailK P id m [4] [4, 5, 6] [4] f50_10l Q st) [] ⟨sf.regs, dropL [4] sf.locs⟩ := rfl
def f50_9 : AC := .seq f50_10 .ret
theorem f50_9e : aC P id m f50_9 sf st Q = aC P id m f50_10 sf st (seqQ (aC P id m .ret) Q) := rfl
def f50_3 : AC := .seq f50_4 f50_9
theorem f50_3e : aC P id m f50_3 sf st Q = aC P id m f50_4 sf st (seqQ (aC P id m f50_9) Q) := rfl
def f50_1 : AC := .seq f50_2 f50_3
theorem f50_1e : aC P id m f50_1 sf st Q = aC P id m f50_2 sf st (seqQ (aC P id m f50_3) Q) := rfl
def c_f50 : AFun := ⟨29, [.cell 4 (some 2), .tmp 5, .tmp 6], f50_1⟩
theorem k_f50 : compF Go.Proofs.Try.prog x_f50 50 = some c_f50 := by kernel_rfl
theorem e_f50 : enterB Go.Proofs.Try.prog 50 = true := by kernel_rfl

def n_f51 : Nat := 51
def x_f51 : Cx := ⟨some, id, 32, fun s => ([0, 3, 4, 5, 6, 7, 8, 12, 13, 14, 15, 16, 17, 18, 20, 21, 22, 23, 24, 25, 26, 27, 28, 29, 30, 31] : List Nat).contains s, fun s => ([] : List Nat).contains s, msOf [(2, [1, 2], [1, 2]), (6, [1, 2, 6, 7, 8], [1, 2]), (28, [1, 2, 6, 7, 8, 19], [1, 2]), (116, [2, 3, 4, 5], [2]), (30, [2, 6, 7, 9], [2, 9]), (62, [2, 3, 4, 5], [2])]⟩
def f51_2l : List GI := [⟨none, .boxL 1 2 (.r 0)⟩,
    ⟨none, .newL 2 [(.lit (.slice none 0 0)), (.lit (.int .u64 0))]⟩,
    ⟨none, .mv (some 3) (.c (.lit (.int .i64 0)))⟩,
    ⟨none, .mv (some 4) (.c (.lit (.int .u64 0)))⟩,
    ⟨none, .mv (some 5) (.c (.lit (.int .i64 0)))⟩]
def f51_2 : AC := .ops [1, 2] [1, 2] f51_2l
theorem f51_2e : aC P id m f51_2 sf st Q = runI P id m f51_2l (opsK [1, 2] [1, 2] Q) sf st := rfl
def f51_4l : List GI := [⟨none, .load (some 13) (.r 1) (some 2)⟩,
    ⟨none, .call (some 14) false (.f 27) [(.r 13)]⟩,
    ⟨none, .mv (some 12) (.r 14)⟩,
    ⟨none, .ext (some 15) (.r 12) 0⟩,
    ⟨none, .ext (some 16) (.r 12) 1⟩,
    ⟨none, .ext (some 17) (.r 12) 2⟩,
    ⟨none, .own 6 15⟩,
    ⟨none, .own 7 16⟩,
    ⟨none, .own 8 17⟩]
def f51_4 : AC := .ops [1, 2, 6, 7, 8] [1, 2] f51_4l
theorem f51_4e : aC P id m f51_4 sf st Q = runI P id m f51_4l (opsK [1, 2, 6, 7, 8] [1, 2] Q) sf st := rfl
def f51_7l : List GI := [⟨none, .mv (some 18) (.r 8)⟩,
    ⟨none, .bin (some 19) .num .neq (.r 18) (.c (.lit (.int .i64 0)))⟩]
def f51_7 : AC := .ops [1, 2, 6, 7, 8, 19] [1, 2] f51_7l
theorem f51_7e : aC P id m f51_7 sf st Q = runI P id m f51_7l (opsK [1, 2, 6, 7, 8, 19] [1, 2] Q) sf st := rfl
def f51_10l : List GI := [⟨none, .load (some 20) (.r 1) (some 2)⟩,
    ⟨none, .mv (some 21) (.r 8)⟩,
    ⟨none, .store 2 (.r 2) (.r 20)⟩,
    ⟨none, .mv (some 3) (.c (.lit (.int .i64 0)))⟩,
    ⟨none, .mv (some 4) (.c (.lit (.int .u64 0)))⟩,
    ⟨none, .own 5 21⟩]
def f51_10 : AC := .ops [2, 3, 4, 5] [2] f51_10l
theorem f51_10e : aC P id m f51_10 sf st Q = runI P id m f51_10l (opsK [2, 3, 4, 5] [2] Q) sf st := rfl
def f51_9 : AC := .seq f51_10 .ret
theorem f51_9e : aC P id m f51_9 sf st Q = aC P id m f51_10 sf st (seqQ (aC P id m .ret) Q) := rfl
def f51_8 : AC := .cond (.r 19) f51_9 .skip
theorem f51_8e : aC P id m f51_8 sf st Q = condI (.r 19) (sf.ev id (.r 19)) (aC P id m f51_9) (aC P id m .skip) sf st Q := rfl
def f51_6 : AC := .seq f51_7 f51_8
theorem f51_6e : aC P id m f51_6 sf st Q = aC P id m f51_7 sf st (seqQ (aC P id m f51_8) Q) := rfl
def f51_12l : List GI := [⟨none, .load (some 23) (.r 1) (some 2)⟩,
    ⟨none, .mv (some 24) (.r 7)⟩,
    ⟨none, .call (some 25) false (.f 52) [(.r 23), (.r 24)]⟩,
    ⟨none, .mv (some 22) (.r 25)⟩,
    ⟨none, .ext (some 26) (.r 22) 0⟩,
    ⟨none, .ext (some 27) (.r 22) 1⟩,
    ⟨none, .ext (some 28) (.r 22) 2⟩,
    ⟨none, .newL 9 [(.lit (.slice none 0 0)), (.lit (.int .u64 0))]⟩,
    ⟨none, .store 2 (.r 9) (.r 26)⟩,
    ⟨none, .own 10 27⟩,
    ⟨none, .own 11 28⟩]
def f51_12 : AC := .ops [2, 6, 7, 9] [2, 9] f51_12l
theorem f51_12e : aC P id m f51_12 sf st Q = runI P id m f51_12l (opsK [2, 6, 7, 9] [2, 9] Q) sf st := rfl
def f51_14l : List GI := [⟨none, .load (some 29) (.r 9) (some 2)⟩,
    ⟨none, .mv (some 30) (.r 6)⟩,
    ⟨none, .mv (some 31) (.r 7)⟩,
    ⟨none, .store 2 (.r 2) (.r 29)⟩,
    ⟨none, .own 3 30⟩,
    ⟨none, .own 4 31⟩,
    ⟨none, .mv (some 5) (.c (.lit (.int .i64 0)))⟩]
def f51_14 : AC := .ops [2, 3, 4, 5] [2] f51_14l
theorem f51_14e : aC P id m f51_14 sf st Q = runI P id m f51_14l (opsK [2, 3, 4, 5] [2] Q) sf st := rfl
def f51_13 : AC := .seq f51_14 .ret
theorem f51_13e : aC P id m f51_13 sf st Q = aC P id m f51_14 sf st (seqQ (aC P id m .ret) Q) := rfl
def f51_11 : AC := .seq f51_12 f51_13
theorem f51_11e : aC P id m f51_11 sf st Q = aC P id m f51_12 sf st (seqQ (aC P id m f51_13) Q) := rfl
def f51_5 : AC := .seq f51_6 f51_11
theorem f51_5e : aC P id m f51_5 sf st Q = aC P id m f51_6 sf st (seqQ (aC P id m f51_11) Q) := rfl
def f51_3 : AC := .seq f51_4 f51_5
theorem f51_3e : aC P id m f51_3 sf st Q = aC P id m f51_4 sf st (seqQ (aC P id m f51_5) Q) := rfl
def f51_1 : AC := .seq f51_2 f51_3
theorem f51_1e : aC P id m f51_1 sf st Q = aC P id m f51_2 sf st (seqQ (aC P id m f51_3) Q) := rfl
def c_f51 : AFun := ⟨32, [.cell 2 (some 2), .tmp 3, .tmp 4, .tmp 5], f51_1⟩
theorem k_f51 : compF Go.Proofs.Try.prog x_f51 51 = some c_f51 := by kernel_rfl
theorem e_f51 : enterB Go.Proofs.Try.prog 51 = true := by kernel_rfl

def n_f52 : Nat := 52
def x_f52 : Cx := ⟨some, id, 39, fun s => ([0, 1, 5, 6, 7, 8, 9, 10, 11, 12, 13, 14, 15, 17, 18, 20, 21, 22, 23, 25, 26, 27, 28, 29, 31, 32, 35, 38] : List Nat).contains s, fun s => ([] : List Nat).contains s, msOf [(2, [1, 2, 4], [2, 4]), (6, [2, 4, 7, 8], [2, 4]), (28, [2, 4, 7, 8, 16], [2, 4]), (116, [4, 5, 6], [4]), (30, [4, 5, 6], [4])]⟩
def f52_2l : List GI := [⟨none, .boxL 2 2 (.r 0)⟩,
    ⟨none, .newL 4 [(.lit (.slice none 0 0)), (.lit (.int .u64 0))]⟩,
    ⟨none, .mv (some 5) (.c (.lit (.int .i64 0)))⟩,
    ⟨none, .mv (some 6) (.c (.lit (.int .i64 0)))⟩]
def f52_2 : AC := .ops [1, 2, 4] [2, 4] f52_2l
theorem f52_2e : aC P id m f52_2 sf st Q = runI P id m f52_2l (opsK [1, 2, 4] [2, 4] Q) sf st := rfl
def f52_4l : List GI := [⟨none, .load (some 10) (.r 2) (some 2)⟩,
    ⟨none, .mv (some 11) (.r 1)⟩,
    ⟨none, .call (some 12) false (.f 53) [(.r 10), (.r 11)]⟩,
    ⟨none, .mv (some 9) (.r 12)⟩,
    ⟨none, .ext (some 13) (.r 9) 0⟩,
    ⟨none, .ext (some 14) (.r 9) 1⟩,
    ⟨none, .own 7 13⟩,
    ⟨none, .own 8 14⟩]
def f52_4 : AC := .ops [2, 4, 7, 8] [2, 4] f52_4l
theorem f52_4e : aC P id m f52_4 sf st Q = runI P id m f52_4l (opsK [2, 4, 7, 8] [2, 4] Q) sf st := rfl
def f52_7l : List GI := [⟨none, .mv (some 15) (.r 8)⟩,
    ⟨none, .bin (some 16) .num .neq (.r 15) (.c (.lit (.int .i64 0)))⟩]
def f52_7 : AC := .ops [2, 4, 7, 8, 16] [2, 4] f52_7l
theorem f52_7e : aC P id m f52_7 sf st Q = runI P id m f52_7l (opsK [2, 4, 7, 8, 16] [2, 4] Q) sf st := rfl
def f52_10l : List GI := [⟨none, .load (some 17) (.r 2) (some 2)⟩,
    ⟨none, .mv (some 18) (.r 8)⟩,
    ⟨none, .store 2 (.r 4) (.r 17)⟩,
    ⟨none, .mv (some 5) (.c (.lit (.int .i64 0)))⟩,
    ⟨none, .own 6 18⟩]
def f52_10 : AC := .ops [4, 5, 6] [4] f52_10l
theorem f52_10e : aC P id m f52_10 sf st Q = runI P id m f52_10l (opsK [4, 5, 6] [4] Q) sf st := rfl
def f52_9 : AC := .seq f52_10 .ret
theorem f52_9e : aC P id m f52_9 sf st Q = aC P id m f52_10 sf st (seqQ (aC P id m .ret) Q) := rfl
def f52_8 : AC := .cond (.r 16) f52_9 .skip
theorem f52_8e : aC P id m f52_8 sf st Q = condI (.r 16) (sf.ev id (.r 16)) (aC P id m f52_9) (aC P id m .skip) sf st Q := rfl
def f52_6 : AC := .seq f52_7 f52_8
theorem f52_6e : aC P id m f52_6 sf st Q = aC P id m f52_7 sf st (seqQ (aC P id m f52_8) Q) := rfl
def f52_12h : List GI := [⟨none, .addr (some 19) (.r 2) 0⟩,
    ⟨none, .load (some 20) (.r 19) none⟩,
    ⟨none, .mv (some 21) (.r 7)⟩,
    ⟨none, .sliS (some 22) (.r 20) none (some (.r 21)) 2⟩,
    ⟨none, .app (some 23) 2 16 (.c (.lit (.slice none 0 0))) (.r 22)⟩,
    ⟨none, .addr (some 24) (.r 2) 0⟩,
    ⟨none, .load (some 25) (.r 24) none⟩,
    ⟨none, .mv (some 26) (.r 7)⟩,
    ⟨none, .bin (some 27) .num .add (.r 26) (.c (.lit (.int .i64 1)))⟩,
    ⟨none, .sliS (some 28) (.r 25) (some (.r 27)) none 2⟩,
    ⟨none, .appS 29 23 2 16 (.r 28)⟩,
    ⟨none, .addr (some 30) (.r 2) 1⟩,
    ⟨none, .load (some 31) (.r 30) none⟩,
    ⟨none, .bst (some 32) [(0, 1), (1, 1)] (.agg [(.lit (.slice none 0 0)), (.lit (.int .u64 0))]) [(0, (.r 29)), (1, (.r 31))]⟩,
    ⟨none, .addr (some 33) (.r 2) 0⟩,
    ⟨none, .load (some 34) (.r 33) none⟩,
    ⟨none, .mv (some 35) (.r 7)⟩,
    ⟨none, .ixS (some 36) (.r 34) (.r 35) 2⟩,
    ⟨none, .addr (some 37) (.r 36) 0⟩,
    ⟨none, .load (some 38) (.r 37) none⟩,
    ⟨none, .store 2 (.r 4) (.r 32)⟩]
def f52_12l : List GI := [⟨none, .own 5 38⟩,
    ⟨none, .mv (some 6) (.c (.lit (.int .i64 0)))⟩]
def f52_12 : AC := .draw [4, 5, 6] [4] [4] f52_12h f52_12l
theorem f52_12e : aC P id m f52_12 sf st Q = headI P id sf.locs st f52_12h (tailK P id m [4] [4, 5, 6] [4] f52_12l Q st) [] ⟨sf.regs, dropL [4] sf.locs⟩ := rfl
def f52_11 : AC := .seq f52_12 .ret
theorem f52_11e : aC P id m f52_11 sf st Q = aC P id m f52_12 sf st (seqQ (aC P id m .ret) Q) := rfl
def f52_5 : AC := .seq f52_6 f52_11
theorem f52_5e : aC P id m f52_5 sf st Q = aC P id m f52_6 sf st (seqQ (aC P id m f52_11) Q) := rfl
def f52_3 : AC := .seq f52_4 f52_5
theorem f52_3e : aC P id m f52_3 sf st Q = aC P id m f52_4 sf st (seqQ (aC P id m f52_5) Q) := rfl
def f52_1 : AC := .seq f52_2 f52_3
theorem f52_1e : aC P id m f52_1 sf st Q = aC P id m f52_2 sf st (seqQ (aC P id m f52_3) Q) := rfl
def c_f52 : AFun := ⟨39, [.cell 4 (some 2), .tmp 5, .tmp 6], f52_1⟩
theorem k_f52 : compF Go.Proofs.Try.prog x_f52 52 = some c_f52 := by kernel_rfl
theorem e_f52 : enterB Go.Proofs.Try.prog 52 = true := by kernel_rfl

def n_f53 : Nat := 53
def x_f53 : Cx := ⟨some, id, 23, fun s => ([0, 1, 4, 5, 6, 7, 9, 10, 12, 13, 16, 19, 20, 22] : List Nat).contains s, fun s => ([] : List Nat).contains s, msOf [(2, [1, 2], [2]), (12, [1, 2, 6], [2]), (26, [1, 2, 6], [2]), (208, [1, 2, 6, 11], [2]), (419, [], []), (840, [1, 2, 6, 21], [2]), (3364, [4, 5], []), (211, [1, 2, 6], [2]), (14, [4, 5], [])]⟩
def f53_2l : List GI := [⟨none, .boxL 2 2 (.r 0)⟩,
    ⟨none, .mv (some 4) (.c (.lit (.int .i64 0)))⟩,
    ⟨none, .mv (some 5) (.c (.lit (.int .i64 0)))⟩]
def f53_2 : AC := .ops [1, 2] [2] f53_2l
theorem f53_2e : aC P id m f53_2 sf st Q = runI P id m f53_2l (opsK [1, 2] [2] Q) sf st := rfl
def f53_5l : List GI := [⟨none, .mv (some 6) (.c (.lit (.int .i64 0)))⟩]
def f53_5 : AC := .ops [1, 2, 6] [2] f53_5l
theorem f53_5e : aC P id m f53_5 sf st Q = runI P id m f53_5l (opsK [1, 2, 6] [2] Q) sf st := rfl
def f53_10l : List GI := [⟨none, .mv (some 7) (.r 6)⟩,
    ⟨none, .addr (some 8) (.r 2) 0⟩,
    ⟨none, .load (some 9) (.r 8) none⟩,
    ⟨none, .len (some 10) .sl (.r 9)⟩,
    ⟨none, .bin (some 11) .num .lss (.r 7) (.r 10)⟩]
def f53_10 : AC := .ops [1, 2, 6, 11] [2] f53_10l
theorem f53_10e : aC P id m f53_10 sf st Q = runI P id m f53_10l (opsK [1, 2, 6, 11] [2] Q) sf st := rfl
def f53_11 : AC := .cond (.r 11) .skip (.exit [] [] 0)
theorem f53_11e : aC P id m f53_11 sf st Q = condI (.r 11) (sf.ev id (.r 11)) (aC P id m .skip) (aC P id m (.exit [] [] 0)) sf st Q := rfl
def f53_9 : AC := .seq f53_10 f53_11
theorem f53_9e : aC P id m f53_9 sf st Q = aC P id m f53_10 sf st (seqQ (aC P id m f53_11) Q) := rfl
def f53_15l : List GI := [⟨none, .addr (some 14) (.r 2) 0⟩,
    ⟨none, .load (some 15) (.r 14) none⟩,
    ⟨none, .mv (some 16) (.r 6)⟩,
    ⟨none, .ixS (some 17) (.r 15) (.r 16) 2⟩,
    ⟨none, .addr (some 18) (.r 17) 1⟩,
    ⟨none, .load (some 19) (.r 18) none⟩,
    ⟨none, .mv (some 20) (.r 1)⟩,
    ⟨none, .bin (some 21) .num .eql (.r 19) (.r 20)⟩]
def f53_15 : AC := .ops [1, 2, 6, 21] [2] f53_15l
theorem f53_15e : aC P id m f53_15 sf st Q = runI P id m f53_15l (opsK [1, 2, 6, 21] [2] Q) sf st := rfl
def f53_18l : List GI := [⟨none, .mv (some 22) (.r 6)⟩,
    ⟨none, .own 4 22⟩,
    ⟨none, .mv (some 5) (.c (.lit (.int .i64 0)))⟩]
def f53_18 : AC := .ops [4, 5] [] f53_18l
theorem f53_18e : aC P id m f53_18 sf st Q = runI P id m f53_18l (opsK [4, 5] [] Q) sf st := rfl
def f53_17 : AC := .seq f53_18 .ret
theorem f53_17e : aC P id m f53_17 sf st Q = aC P id m f53_18 sf st (seqQ (aC P id m .ret) Q) := rfl
def f53_16 : AC := .cond (.r 21) f53_17 .skip
theorem f53_16e : aC P id m f53_16 sf st Q = condI (.r 21) (sf.ev id (.r 21)) (aC P id m f53_17) (aC P id m .skip) sf st Q := rfl
def f53_14 : AC := .seq f53_15 f53_16
theorem f53_14e : aC P id m f53_14 sf st Q = aC P id m f53_15 sf st (seqQ (aC P id m f53_16) Q) := rfl
def f53_13 : AC := .block 1 f53_14
theorem f53_13e : aC P id m f53_13 sf st Q = aC P id m f53_14 sf st (blockQ 1 Q) := rfl
def f53_19l : List GI := [⟨none, .mv (some 12) (.r 6)⟩,
    ⟨none, .bin (some 13) .num .add (.r 12) (.c (.lit (.int .i64 1)))⟩,
    ⟨none, .own 6 13⟩]
def f53_19 : AC := .ops [1, 2, 6] [2] f53_19l
theorem f53_19e : aC P id m f53_19 sf st Q = runI P id m f53_19l (opsK [1, 2, 6] [2] Q) sf st := rfl
def f53_12 : AC := .seq f53_13 f53_19
theorem f53_12e : aC P id m f53_12 sf st Q = aC P id m f53_13 sf st (seqQ (aC P id m f53_19) Q) := rfl
def f53_8 : AC := .seq f53_9 f53_12
theorem f53_8e : aC P id m f53_8 sf st Q = aC P id m f53_9 sf st (seqQ (aC P id m f53_12) Q) := rfl
def f53_7 : AC := .loop [1, 2, 6] [2] f53_8
theorem f53_7w : aC P id m f53_7 sf st Q = loopI (aC P id m f53_8) [1, 2, 6] [2] sf st Q := rfl
def f53_6 : AC := .block 0 f53_7
theorem f53_6e : aC P id m f53_6 sf st Q = aC P id m f53_7 sf st (blockQ 0 Q) := rfl
def f53_4 : AC := .seq f53_5 f53_6
theorem f53_4e : aC P id m f53_4 sf st Q = aC P id m f53_5 sf st (seqQ (aC P id m f53_6) Q) := rfl
def f53_21l : List GI := [⟨none, .mv (some 4) (.c (.lit (.int .i64 0)))⟩,
    ⟨none, .mv (some 5) (.c (.lit (.int .i64 9)))⟩]
def f53_21 : AC := .ops [4, 5] [] f53_21l
theorem f53_21e : aC P id m f53_21 sf st Q = runI P id m f53_21l (opsK [4, 5] [] Q) sf st := rfl
def f53_20 : AC := .seq f53_21 .ret
theorem f53_20e : aC P id m f53_20 sf st Q = aC P id m f53_21 sf st (seqQ (aC P id m .ret) Q) := rfl
def f53_3 : AC := .seq f53_4 f53_20
theorem f53_3e : aC P id m f53_3 sf st Q = aC P id m f53_4 sf st (seqQ (aC P id m f53_20) Q) := rfl
def f53_1 : AC := .seq f53_2 f53_3
theorem f53_1e : aC P id m f53_1 sf st Q = aC P id m f53_2 sf st (seqQ (aC P id m f53_3) Q) := rfl
def c_f53 : AFun := ⟨23, [.tmp 4, .tmp 5], f53_1⟩
theorem k_f53 : compF Go.Proofs.Try.prog x_f53 53 = some c_f53 := by kernel_rfl
theorem e_f53 : enterB Go.Proofs.Try.prog 53 = true := by kernel_rfl

def n_f54 : Nat := 54
def x_f54 : Cx := ⟨some, id, 12, fun s => ([0, 2, 3, 4, 5, 9, 10, 11] : List Nat).contains s, fun s => ([] : List Nat).contains s, msOf [(2, [0], []), (6, [2], [])]⟩
def f54_2l : List GI := [⟨none, .mv (some 2) (.c (.lit (.bool false)))⟩]
def f54_2 : AC := .ops [0] [] f54_2l
theorem f54_2e : aC P id m f54_2 sf st Q = runI P id m f54_2l (opsK [0] [] Q) sf st := rfl
def f54_4l : List GI := [⟨none, .mv (some 3) (.r 0)⟩,
    ⟨none, .bin (some 4) (.nil .ptr) .eql (.r 3) (.c (.lit (.pointer none)))⟩,
    ⟨none, .mv (some 5) (.r 4)⟩,
    ⟨some (5, false), .mv (some 6) (.r 0)⟩,
    ⟨some (5, false), .nilck (some 7) (.r 6)⟩,
    ⟨some (5, false), .addr (some 8) (.r 7) 3⟩,
    ⟨some (5, false), .load (some 9) (.r 8) none⟩,
    ⟨some (5, false), .bin (some 10) (.nil .mp) .eql (.r 9) (.c (.lit (.map none)))⟩,
    ⟨none, .pick (some 11) (.r 5) (.c (.lit (.bool true))) (.r 10)⟩,
    ⟨none, .own 2 11⟩]
def f54_4 : AC := .ops [2] [] f54_4l
theorem f54_4e : aC P id m f54_4 sf st Q = runI P id m f54_4l (opsK [2] [] Q) sf st := rfl
def f54_3 : AC := .seq f54_4 .ret
theorem f54_3e : aC P id m f54_3 sf st Q = aC P id m f54_4 sf st (seqQ (aC P id m .ret) Q) := rfl
def f54_1 : AC := .seq f54_2 f54_3
theorem f54_1e : aC P id m f54_1 sf st Q = aC P id m f54_2 sf st (seqQ (aC P id m f54_3) Q) := rfl
def c_f54 : AFun := ⟨12, [.tmp 2], f54_1⟩
theorem k_f54 : compF Go.Proofs.Try.prog x_f54 54 = some c_f54 := by kernel_rfl
theorem e_f54 : enterB Go.Proofs.Try.prog 54 = true := by kernel_rfl

def n_f55 : Nat := 55
def x_f55 : Cx := ⟨some, id, 31, fun s => ([0, 3, 4, 10, 11, 16, 17, 18, 19, 20, 21, 25, 26, 27, 28, 29] : List Nat).contains s, fun s => ([] : List Nat).contains s, msOf [(4, [0, 1, 5], []), (6, [0, 1, 3], []), (14, [0, 1, 3], []), (112, [0, 1, 3, 12], []), (227, [], []), (456, [0, 1, 3, 30], []), (115, [0, 1, 3], [])]⟩
def f55_3l : List GI := [⟨none, .load (some 4) (.r 1) none⟩,
    ⟨none, .bin (some 5) (.nil .ptr) .eql (.r 4) (.c (.lit (.pointer none)))⟩]
def f55_3 : AC := .ops [0, 1, 5] [] f55_3l
theorem f55_3e : aC P id m f55_3 sf st Q = runI P id m f55_3l (opsK [0, 1, 5] [] Q) sf st := rfl
def f55_4 : AC := .cond (.r 5) .ret .skip
theorem f55_4e : aC P id m f55_4 sf st Q = condI (.r 5) (sf.ev id (.r 5)) (aC P id m .ret) (aC P id m .skip) sf st Q := rfl
def f55_2 : AC := .seq f55_3 f55_4
theorem f55_2e : aC P id m f55_2 sf st Q = aC P id m f55_3 sf st (seqQ (aC P id m f55_4) Q) := rfl
def f55_6l : List GI := [⟨none, .load (some 6) (.r 1) none⟩,
    ⟨none, .nilck (some 7) (.r 6)⟩,
    ⟨none, .addr (some 8) (.r 7) 0⟩,
    ⟨none, .addr (some 9) (.r 8) 0⟩,
    ⟨none, .load (some 10) (.r 9) none⟩,
    ⟨none, .own 3 10⟩]
def f55_6 : AC := .ops [0, 1, 3] [] f55_6l
theorem f55_6e : aC P id m f55_6 sf st Q = runI P id m f55_6l (opsK [0, 1, 3] [] Q) sf st := rfl
def f55_11l : List GI := [⟨none, .mv (some 11) (.r 3)⟩,
    ⟨none, .bin (some 12) .num .neq (.r 11) (.c (.lit (.int .u64 0)))⟩]
def f55_11 : AC := .ops [0, 1, 3, 12] [] f55_11l
theorem f55_11e : aC P id m f55_11 sf st Q = runI P id m f55_11l (opsK [0, 1, 3, 12] [] Q) sf st := rfl
def f55_12 : AC := .cond (.r 12) .skip (.exit [] [] 0)
theorem f55_12e : aC P id m f55_12 sf st Q = condI (.r 12) (sf.ev id (.r 12)) (aC P id m .skip) (aC P id m (.exit [] [] 0)) sf st Q := rfl
def f55_10 : AC := .seq f55_11 f55_12
theorem f55_10e : aC P id m f55_10 sf st Q = aC P id m f55_11 sf st (seqQ (aC P id m f55_12) Q) := rfl
def f55_16l : List GI := [⟨none, .mv (some 20) (.r 0)⟩,
    ⟨none, .mv (some 21) (.r 3)⟩,
    ⟨none, .load (some 22) (.r 1) none⟩,
    ⟨none, .nilck (some 23) (.r 22)⟩,
    ⟨none, .addr (some 24) (.r 23) 3⟩,
    ⟨none, .load (some 25) (.r 24) none⟩,
    ⟨none, .mv (some 26) (.r 3)⟩,
    ⟨none, .lookup (some 27) (.int .u64) (.agg [(.lit (.int .i64 0)), (.lit (.int .u64 0)), (.lit (.int .u64 0))]) false (.r 25) (.r 26)⟩,
    ⟨none, .field (some 28) (.r 27) 0 none⟩,
    ⟨none, .call (some 29) false (.r 20) [(.r 21), (.r 28)]⟩,
    ⟨none, .un (some 30) .not (.r 29)⟩]
def f55_16 : AC := .ops [0, 1, 3, 30] [] f55_16l
theorem f55_16e : aC P id m f55_16 sf st Q = runI P id m f55_16l (opsK [0, 1, 3, 30] [] Q) sf st := rfl
def f55_17 : AC := .cond (.r 30) .ret .skip
theorem f55_17e : aC P id m f55_17 sf st Q = condI (.r 30) (sf.ev id (.r 30)) (aC P id m .ret) (aC P id m .skip) sf st Q := rfl
def f55_15 : AC := .seq f55_16 f55_17
theorem f55_15e : aC P id m f55_15 sf st Q = aC P id m f55_16 sf st (seqQ (aC P id m f55_17) Q) := rfl
def f55_14 : AC := .block 1 f55_15
theorem f55_14e : aC P id m f55_14 sf st Q = aC P id m f55_15 sf st (blockQ 1 Q) := rfl
def f55_18l : List GI := [⟨none, .load (some 13) (.r 1) none⟩,
    ⟨none, .nilck (some 14) (.r 13)⟩,
    ⟨none, .addr (some 15) (.r 14) 3⟩,
    ⟨none, .load (some 16) (.r 15) none⟩,
    ⟨none, .mv (some 17) (.r 3)⟩,
    ⟨none, .lookup (some 18) (.int .u64) (.agg [(.lit (.int .i64 0)), (.lit (.int .u64 0)), (.lit (.int .u64 0))]) false (.r 16) (.r 17)⟩,
    ⟨none, .field (some 19) (.r 18) 2 none⟩,
    ⟨none, .own 3 19⟩]
def f55_18 : AC := .ops [0, 1, 3] [] f55_18l
theorem f55_18e : aC P id m f55_18 sf st Q = runI P id m f55_18l (opsK [0, 1, 3] [] Q) sf st := rfl
def f55_13 : AC := .seq f55_14 f55_18
theorem f55_13e : aC P id m f55_13 sf st Q = aC P id m f55_14 sf st (seqQ (aC P id m f55_18) Q) := rfl
def f55_9 : AC := .seq f55_10 f55_13
theorem f55_9e : aC P id m f55_9 sf st Q = aC P id m f55_10 sf st (seqQ (aC P id m f55_13) Q) := rfl
def f55_8 : AC := .loop [0, 1, 3] [] f55_9
theorem f55_8w : aC P id m f55_8 sf st Q = loopI (aC P id m f55_9) [0, 1, 3] [] sf st Q := rfl
def f55_7 : AC := .block 0 f55_8
theorem f55_7e : aC P id m f55_7 sf st Q = aC P id m f55_8 sf st (blockQ 0 Q) := rfl
def f55_5 : AC := .seq f55_6 f55_7
theorem f55_5e : aC P id m f55_5 sf st Q = aC P id m f55_6 sf st (seqQ (aC P id m f55_7) Q) := rfl
def f55_1 : AC := .seq f55_2 f55_5
theorem f55_1e : aC P id m f55_1 sf st Q = aC P id m f55_2 sf st (seqQ (aC P id m f55_5) Q) := rfl
def c_f55 : AFun := ⟨31, [], f55_1⟩
theorem k_f55 : compF Go.Proofs.Try.prog x_f55 55 = some c_f55 := by kernel_rfl
theorem e_f55 : enterB Go.Proofs.Try.prog 55 = true := by kernel_rfl

def n_f56 : Nat := 56
def x_f56 : Cx := ⟨some, id, 9, fun s => ([0, 2, 3, 5, 6, 7, 8] : List Nat).contains s, fun s => ([] : List Nat).contains s, msOf [(2, [0], []), (12, [0, 4], []), (52, [2], []), (14, [2], [])]⟩
def f56_2l : List GI := [⟨none, .mv (some 2) (.c (.lit (.map none)))⟩]
def f56_2 : AC := .ops [0] [] f56_2l
theorem f56_2e : aC P id m f56_2 sf st Q = runI P id m f56_2l (opsK [0] [] Q) sf st := rfl
def f56_5l : List GI := [⟨none, .mv (some 3) (.r 0)⟩,
    ⟨none, .bin (some 4) (.nil .mp) .eql (.r 3) (.c (.lit (.map none)))⟩]
def f56_5 : AC := .ops [0, 4] [] f56_5l
theorem f56_5e : aC P id m f56_5 sf st Q = runI P id m f56_5l (opsK [0, 4] [] Q) sf st := rfl
def f56_8l : List GI := [⟨none, .mv (some 2) (.c (.lit (.map none)))⟩]
def f56_8 : AC := .ops [2] [] f56_8l
theorem f56_8e : aC P id m f56_8 sf st Q = runI P id m f56_8l (opsK [2] [] Q) sf st := rfl
def f56_7 : AC := .seq f56_8 .ret
theorem f56_7e : aC P id m f56_7 sf st Q = aC P id m f56_8 sf st (seqQ (aC P id m .ret) Q) := rfl
def f56_6 : AC := .cond (.r 4) f56_7 .skip
theorem f56_6e : aC P id m f56_6 sf st Q = condI (.r 4) (sf.ev id (.r 4)) (aC P id m f56_7) (aC P id m .skip) sf st Q := rfl
def f56_4 : AC := .seq f56_5 f56_6
theorem f56_4e : aC P id m f56_4 sf st Q = aC P id m f56_5 sf st (seqQ (aC P id m f56_6) Q) := rfl
def f56_10l : List GI := [⟨none, .mv (some 5) (.r 0)⟩,
    ⟨none, .mkif (some 6) 70 (.r 5)⟩,
    ⟨none, .x (some 7) (.mclone (.r 6))⟩,
    ⟨none, .tas (some 8) 70 (.r 7)⟩,
    ⟨none, .own 2 8⟩]
def f56_10 : AC := .ops [2] [] f56_10l
theorem f56_10e : aC P id m f56_10 sf st Q = runI P id m f56_10l (opsK [2] [] Q) sf st := rfl
def f56_9 : AC := .seq f56_10 .ret
theorem f56_9e : aC P id m f56_9 sf st Q = aC P id m f56_10 sf st (seqQ (aC P id m .ret) Q) := rfl
def f56_3 : AC := .seq f56_4 f56_9
theorem f56_3e : aC P id m f56_3 sf st Q = aC P id m f56_4 sf st (seqQ (aC P id m f56_9) Q) := rfl
def f56_1 : AC := .seq f56_2 f56_3
theorem f56_1e : aC P id m f56_1 sf st Q = aC P id m f56_2 sf st (seqQ (aC P id m f56_3) Q) := rfl
def c_f56 : AFun := ⟨9, [.tmp 2], f56_1⟩
theorem k_f56 : compF Go.Proofs.Try.prog x_f56 56 = some c_f56 := by kernel_rfl
theorem e_f56 : enterB Go.Proofs.Try.prog 56 = true := by kernel_rfl

def tab (q : Nat) : Option AFun :=
  if q = 5 then some c_f5 else
  if q = 6 then some c_f6 else
  if q = 7 then some c_f7 else
  if q = 8 then some c_f8 else
  if q = 9 then some c_f9 else
  if q = 23 then some c_f23 else
  if q = 24 then some c_f24 else
  if q = 25 then some c_f25 else
  if q = 26 then some c_f26 else
  if q = 27 then some c_f27 else
  if q = 28 then some c_f28 else
  if q = 29 then some c_f29 else
  if q = 30 then some c_f30 else
  if q = 31 then some c_f31 else
  if q = 32 then some c_f32 else
  if q = 33 then some c_f33 else
  if q = 34 then some c_f34 else
  if q = 35 then some c_f35 else
  if q = 36 then some c_f36 else
  if q = 37 then some c_f37 else
  if q = 49 then some c_f49 else
  if q = 50 then some c_f50 else
  if q = 51 then some c_f51 else
  if q = 52 then some c_f52 else
  if q = 53 then some c_f53 else
  if q = 54 then some c_f54 else
  if q = 55 then some c_f55 else
  if q = 56 then some c_f56 else
  none
theorem tabOk : TabOk Go.Proofs.Try.prog id tab :=
  tabOk_cons e_f5 k_f5 rfl (
  tabOk_cons e_f6 k_f6 rfl (
  tabOk_cons e_f7 k_f7 rfl (
  tabOk_cons e_f8 k_f8 rfl (
  tabOk_cons e_f9 k_f9 rfl (
  tabOk_cons e_f23 k_f23 rfl (
  tabOk_cons e_f24 k_f24 rfl (
  tabOk_cons e_f25 k_f25 rfl (
  tabOk_cons e_f26 k_f26 rfl (
  tabOk_cons e_f27 k_f27 rfl (
  tabOk_cons e_f28 k_f28 rfl (
  tabOk_cons e_f29 k_f29 rfl (
  tabOk_cons e_f30 k_f30 rfl (
  tabOk_cons e_f31 k_f31 rfl (
  tabOk_cons e_f32 k_f32 rfl (
  tabOk_cons e_f33 k_f33 rfl (
  tabOk_cons e_f34 k_f34 rfl (
  tabOk_cons e_f35 k_f35 rfl (
  tabOk_cons e_f36 k_f36 rfl (
  tabOk_cons e_f37 k_f37 rfl (
  tabOk_cons e_f49 k_f49 rfl (
  tabOk_cons e_f50 k_f50 rfl (
  tabOk_cons e_f51 k_f51 rfl (
  tabOk_cons e_f52 k_f52 rfl (
  tabOk_cons e_f53 k_f53 rfl (
  tabOk_cons e_f54 k_f54 rfl (
  tabOk_cons e_f55 k_f55 rfl (
  tabOk_cons e_f56 k_f56 rfl (
  tabOk_nil))))))))))))))))))))))))))))
theorem hmix : Go.Proofs.Try.prog.follows .mixedOrders = true := by kernel_rfl
end
end Go.Fx.YtenijlfcfmhmkaaFx

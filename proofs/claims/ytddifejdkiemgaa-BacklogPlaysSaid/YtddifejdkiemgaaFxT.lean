/- The functions that the statement reaches, resolved: printed by a program of ours from the translated code; each is checked here. -/
import Derived.Test.YtddifejdkiemgaaProg
import Derived.Test.YtddifejdkiemgaaFxE
set_option maxRecDepth 100000
set_option maxHeartbeats 0
namespace Go.Fx.YtddifejdkiemgaaFx
open Go Go.Fx
abbrev vv (d x : Nat) : GI := ⟨none, .mv (some d) (.r x)⟩
abbrev vo (d x : Nat) : GI := ⟨none, .own d x⟩
abbrev ve (d x k : Nat) : GI := ⟨none, .ext (some d) (.r x) k⟩
abbrev vn (d x : Nat) : GI := ⟨none, .nilck (some d) (.r x)⟩
abbrev vd (d x k : Nat) : GI := ⟨none, .addr (some d) (.r x) k⟩
abbrev vl (d x : Nat) : GI := ⟨none, .load (some d) (.r x) none⟩
abbrev vb (d : Nat) (o : BinOp) (x : Nat) (n : Int) : GI := ⟨none, .bin (some d) .num o (.r x) (.c (.lit (.int .i64 n)))⟩
section
variable (P : Program) (m : Bool) (sf : Sf) (st : St) (Q : Exit → Sf → St → Prop)
def n_f3 : Nat := 3
def x_f3 : Cx := ⟨some, id, 40, fun s => ([0, 2, 3, 4, 5, 6, 7, 8, 9, 10, 11, 12, 13, 14, 16, 17, 18, 19, 20, 21, 22, 23, 24, 25, 26, 27, 28, 29, 30, 31, 32, 33, 34, 35, 36, 37, 38, 39] : List Nat).contains s, fun s => ([] : List Nat).contains s, msOf [(2, [0], []), (6, [0, 3, 4], []), (28, [0, 3, 4, 15], []), (116, [2], []), (30, [2], [])]⟩
def f3_2l : List GI := [⟨none, .mv (some 2) (.c (.lit (.bool false)))⟩]
def f3_2 : AC := .ops [0] [] f3_2l
theorem f3_2e : aC P id m f3_2 sf st Q = runI P id m f3_2l (opsK [0] [] Q) sf st := rfl
def f3_4l : List GI := [vv 6 0,
    ⟨none, .call (some 7) false (.f 13) [(.r 6)]⟩,
    vv 5 7,
    ve 8 5 0,
    ve 9 5 1,
    vo 3 8,
    vo 4 9]
def f3_4 : AC := .ops [0, 3, 4] [] f3_4l
theorem f3_4e : aC P id m f3_4 sf st Q = runI P id m f3_4l (opsK [0, 3, 4] [] Q) sf st := rfl
def f3_7l : List GI := [vv 10 0,
    vb 11 .lss 10 1,
    vv 12 11,
    ⟨some (12, false), .mv (some 13) (.r 0)⟩,
    ⟨some (12, false), .bin (some 14) .num .gtr (.r 13) (.c (.lit (.int .i64 128)))⟩,
    ⟨none, .pick (some 15) (.r 12) (.c (.lit (.bool true))) (.r 14)⟩]
def f3_7 : AC := .ops [0, 3, 4, 15] [] f3_7l
theorem f3_7e : aC P id m f3_7 sf st Q = runI P id m f3_7l (opsK [0, 3, 4, 15] [] Q) sf st := rfl
def f3_10l : List GI := [vv 16 3,
    ⟨none, .bin (some 17) (.nil .ptr) .eql (.r 16) (.c (.lit (.pointer none)))⟩,
    vv 18 17,
    ⟨some (18, true), .mv (some 19) (.r 4)⟩,
    ⟨some (18, true), .bin (some 20) .num .eql (.r 19) (.c (.lit (.int .i64 2)))⟩,
    ⟨none, .pick (some 21) (.r 18) (.r 20) (.c (.lit (.bool false)))⟩,
    vv 22 21,
    ⟨some (22, true), .call (some 23) false (.f 14) []⟩,
    ⟨none, .pick (some 24) (.r 22) (.r 23) (.c (.lit (.bool false)))⟩,
    vo 2 24]
def f3_10 : AC := .ops [2] [] f3_10l
theorem f3_10e : aC P id m f3_10 sf st Q = runI P id m f3_10l (opsK [2] [] Q) sf st := rfl
def f3_9 : AC := .seq f3_10 .ret
theorem f3_9e : aC P id m f3_9 sf st Q = aC P id m f3_10 sf st (seqQ (aC P id m .ret) Q) := rfl
def f3_8 : AC := .cond (.r 15) f3_9 .skip
theorem f3_8e : aC P id m f3_8 sf st Q = condI (.r 15) (sf.ev id (.r 15)) (aC P id m f3_9) (aC P id m .skip) sf st Q := rfl
def f3_6 : AC := .seq f3_7 f3_8
theorem f3_6e : aC P id m f3_6 sf st Q = aC P id m f3_7 sf st (seqQ (aC P id m f3_8) Q) := rfl
def f3_12l : List GI := [vv 25 3,
    ⟨none, .bin (some 26) (.nil .ptr) .neq (.r 25) (.c (.lit (.pointer none)))⟩,
    vv 27 26,
    ⟨some (27, true), .mv (some 28) (.r 4)⟩,
    ⟨some (27, true), .bin (some 29) .num .eql (.r 28) (.c (.lit (.int .i64 0)))⟩,
    ⟨none, .pick (some 30) (.r 27) (.r 29) (.c (.lit (.bool false)))⟩,
    vv 31 30,
    ⟨some (31, true), .mv (some 32) (.r 3)⟩,
    ⟨some (31, true), .mv (some 33) (.r 0)⟩,
    ⟨some (31, true), .bst (some 34) [(0, 1), (1, 1), (2, 1)] (.agg [(.lit (.int .i64 0)), (.lit (.slice none 0 0)), (.lit (.bool false))]) [(0, (.r 33))]⟩,
    ⟨some (31, true), .call (some 35) false (.f 15) [(.r 32), (.r 34)]⟩,
    ⟨none, .pick (some 36) (.r 31) (.r 35) (.c (.lit (.bool false)))⟩,
    vv 37 36,
    ⟨some (37, true), .call (some 38) false (.f 14) []⟩,
    ⟨none, .pick (some 39) (.r 37) (.r 38) (.c (.lit (.bool false)))⟩,
    vo 2 39]
def f3_12 : AC := .ops [2] [] f3_12l
theorem f3_12e : aC P id m f3_12 sf st Q = runI P id m f3_12l (opsK [2] [] Q) sf st := rfl
def f3_11 : AC := .seq f3_12 .ret
theorem f3_11e : aC P id m f3_11 sf st Q = aC P id m f3_12 sf st (seqQ (aC P id m .ret) Q) := rfl
def f3_5 : AC := .seq f3_6 f3_11
theorem f3_5e : aC P id m f3_5 sf st Q = aC P id m f3_6 sf st (seqQ (aC P id m f3_11) Q) := rfl
def f3_3 : AC := .seq f3_4 f3_5
theorem f3_3e : aC P id m f3_3 sf st Q = aC P id m f3_4 sf st (seqQ (aC P id m f3_5) Q) := rfl
def f3_1 : AC := .seq f3_2 f3_3
theorem f3_1e : aC P id m f3_1 sf st Q = aC P id m f3_2 sf st (seqQ (aC P id m f3_3) Q) := rfl
def c_f3 : AFun := ⟨40, [.tmp 2], f3_1⟩
theorem k_f3 : compF Go.Proofs.Try.prog x_f3 3 = some c_f3 := by kernel_rfl
theorem e_f3 : enterB Go.Proofs.Try.prog 3 = true := by kernel_rfl

def n_f4 : Nat := 4
def x_f4 : Cx := ⟨some, id, 95, fun s => ([0, 1, 2, 6, 7, 8, 9, 10, 11, 12, 13, 14, 15, 16, 17, 18, 19, 20, 21, 22, 23, 24, 26, 27, 28, 29, 30, 31, 32, 33, 34, 35, 36, 37, 39, 40, 41, 43, 44, 45, 46, 47, 48, 49, 50, 52, 53, 54, 55, 56, 57, 58, 60, 61, 62, 63, 64, 65, 66, 67, 69, 70, 71, 72, 73, 74, 75, 76, 78, 79, 80, 81, 82, 83, 84, 85, 86, 87, 88, 89, 90, 91, 92, 93, 94] : List Nat).contains s, fun s => ([] : List Nat).contains s, msOf [(2, [0, 1, 2], []), (12, [0, 1, 2, 25], []), (52, [6], []), (14, [0, 1, 2, 7, 8], []), (60, [0, 1, 2, 7, 38], []), (244, [6], []), (124, [0, 1, 2, 7, 9], []), (250, [0, 1, 2, 7, 9], []), (2000, [0, 1, 2, 7, 9, 42], []), (4003, [0, 1, 2, 7], []), (8008, [0, 1, 2, 7, 9, 51], []), (32036, [6], []), (2003, [0, 1, 2, 7, 9], []), (252, [0, 1, 2, 7, 59], []), (1012, [6], []), (254, [0, 1, 7, 10], []), (1020, [0, 1, 7, 10, 11], []), (2042, [0, 1, 7, 10, 11], []), (16336, [0, 1, 7, 10, 11, 68], []), (32675, [0, 7, 10], []), (65352, [0, 1, 7, 10, 11, 77], []), (261412, [6], []), (16339, [0, 1, 7, 10, 11], []), (1022, [6], [])]⟩
def f4_2l : List GI := [⟨none, .mv (some 6) (.c (.lit (.bool false)))⟩]
def f4_2 : AC := .ops [0, 1, 2] [] f4_2l
theorem f4_2e : aC P id m f4_2 sf st Q = runI P id m f4_2l (opsK [0, 1, 2] [] Q) sf st := rfl
def f4_5l : List GI := [vv 12 0,
    ⟨none, .bin (some 13) .num .lss (.r 12) (.c (.lit (.int .u8 1)))⟩,
    vv 14 13,
    ⟨some (14, false), .mv (some 15) (.r 0)⟩,
    ⟨some (14, false), .bin (some 16) .num .gtr (.r 15) (.c (.lit (.int .u8 128)))⟩,
    ⟨none, .pick (some 17) (.r 14) (.c (.lit (.bool true))) (.r 16)⟩,
    vv 18 17,
    ⟨some (18, false), .mv (some 19) (.r 1)⟩,
    ⟨some (18, false), .bin (some 20) .num .lss (.r 19) (.c (.lit (.int .u8 1)))⟩,
    ⟨none, .pick (some 21) (.r 18) (.c (.lit (.bool true))) (.r 20)⟩,
    vv 22 21,
    ⟨some (22, false), .mv (some 23) (.r 1)⟩,
    ⟨some (22, false), .bin (some 24) .num .gtr (.r 23) (.c (.lit (.int .u8 100)))⟩,
    ⟨none, .pick (some 25) (.r 22) (.c (.lit (.bool true))) (.r 24)⟩]
def f4_5 : AC := .ops [0, 1, 2, 25] [] f4_5l
theorem f4_5e : aC P id m f4_5 sf st Q = runI P id m f4_5l (opsK [0, 1, 2, 25] [] Q) sf st := rfl
def f4_8l : List GI := [⟨none, .call (some 26) false (.f 14) []⟩,
    vo 6 26]
def f4_8 : AC := .ops [6] [] f4_8l
theorem f4_8e : aC P id m f4_8 sf st Q = runI P id m f4_8l (opsK [6] [] Q) sf st := rfl
def f4_7 : AC := .seq f4_8 .ret
theorem f4_7e : aC P id m f4_7 sf st Q = aC P id m f4_8 sf st (seqQ (aC P id m .ret) Q) := rfl
def f4_6 : AC := .cond (.r 25) f4_7 .skip
theorem f4_6e : aC P id m f4_6 sf st Q = condI (.r 25) (sf.ev id (.r 25)) (aC P id m f4_7) (aC P id m .skip) sf st Q := rfl
def f4_4 : AC := .seq f4_5 f4_6
theorem f4_4e : aC P id m f4_4 sf st Q = aC P id m f4_5 sf st (seqQ (aC P id m f4_6) Q) := rfl
def f4_10l : List GI := [vv 28 0,
    ⟨none, .conv (some 29) (.int .i64) (.r 28)⟩,
    ⟨none, .call (some 30) false (.f 13) [(.r 29)]⟩,
    vv 27 30,
    ve 31 27 0,
    ve 32 27 1,
    vo 7 31,
    vo 8 32]
def f4_10 : AC := .ops [0, 1, 2, 7, 8] [] f4_10l
theorem f4_10e : aC P id m f4_10 sf st Q = runI P id m f4_10l (opsK [0, 1, 2, 7, 8] [] Q) sf st := rfl
def f4_13l : List GI := [vv 33 7,
    ⟨none, .bin (some 34) (.nil .ptr) .eql (.r 33) (.c (.lit (.pointer none)))⟩,
    vv 35 34,
    ⟨some (35, false), .mv (some 36) (.r 8)⟩,
    ⟨some (35, false), .bin (some 37) .num .neq (.r 36) (.c (.lit (.int .i64 0)))⟩,
    ⟨none, .pick (some 38) (.r 35) (.c (.lit (.bool true))) (.r 37)⟩]
def f4_13 : AC := .ops [0, 1, 2, 7, 38] [] f4_13l
theorem f4_13e : aC P id m f4_13 sf st Q = runI P id m f4_13l (opsK [0, 1, 2, 7, 38] [] Q) sf st := rfl
def f4_16l : List GI := [⟨none, .mv (some 6) (.c (.lit (.bool false)))⟩]
def f4_16 : AC := .ops [6] [] f4_16l
theorem f4_16e : aC P id m f4_16 sf st Q = runI P id m f4_16l (opsK [6] [] Q) sf st := rfl
def f4_15 : AC := .seq f4_16 .ret
theorem f4_15e : aC P id m f4_15 sf st Q = aC P id m f4_16 sf st (seqQ (aC P id m .ret) Q) := rfl
def f4_14 : AC := .cond (.r 38) f4_15 .skip
theorem f4_14e : aC P id m f4_14 sf st Q = condI (.r 38) (sf.ev id (.r 38)) (aC P id m f4_15) (aC P id m .skip) sf st Q := rfl
def f4_12 : AC := .seq f4_13 f4_14
theorem f4_12e : aC P id m f4_12 sf st Q = aC P id m f4_13 sf st (seqQ (aC P id m f4_14) Q) := rfl
def f4_19l : List GI := [⟨none, .mv (some 9) (.c (.lit (.int .i64 0)))⟩]
def f4_19 : AC := .ops [0, 1, 2, 7, 9] [] f4_19l
theorem f4_19e : aC P id m f4_19 sf st Q = runI P id m f4_19l (opsK [0, 1, 2, 7, 9] [] Q) sf st := rfl
def f4_24l : List GI := [vv 39 9,
    vv 40 0,
    ⟨none, .conv (some 41) (.int .i64) (.r 40)⟩,
    ⟨none, .bin (some 42) .num .lss (.r 39) (.r 41)⟩]
def f4_24 : AC := .ops [0, 1, 2, 7, 9, 42] [] f4_24l
theorem f4_24e : aC P id m f4_24 sf st Q = runI P id m f4_24l (opsK [0, 1, 2, 7, 9, 42] [] Q) sf st := rfl
def f4_25 : AC := .cond (.r 42) .skip (.exit [0, 1, 2, 7] [] 0)
theorem f4_25e : aC P id m f4_25 sf st Q = condI (.r 42) (sf.ev id (.r 42)) (aC P id m .skip) (aC P id m (.exit [0, 1, 2, 7] [] 0)) sf st Q := rfl
def f4_23 : AC := .seq f4_24 f4_25
theorem f4_23e : aC P id m f4_23 sf st Q = aC P id m f4_24 sf st (seqQ (aC P id m f4_25) Q) := rfl
def f4_29l : List GI := [vv 45 7,
    vv 46 9,
    vv 47 1,
    ⟨none, .conv (some 48) (.int .i64) (.r 47)⟩,
    ⟨none, .bin (some 49) .num .mul (.r 46) (.r 48)⟩,
    ⟨none, .call (some 50) false (.f 16) [(.r 45), (.r 49)]⟩,
    vb 51 .neq 50 0]
def f4_29 : AC := .ops [0, 1, 2, 7, 9, 51] [] f4_29l
theorem f4_29e : aC P id m f4_29 sf st Q = runI P id m f4_29l (opsK [0, 1, 2, 7, 9, 51] [] Q) sf st := rfl
def f4_32l : List GI := [⟨none, .mv (some 6) (.c (.lit (.bool false)))⟩]
def f4_32 : AC := .ops [6] [] f4_32l
theorem f4_32e : aC P id m f4_32 sf st Q = runI P id m f4_32l (opsK [6] [] Q) sf st := rfl
def f4_31 : AC := .seq f4_32 .ret
theorem f4_31e : aC P id m f4_31 sf st Q = aC P id m f4_32 sf st (seqQ (aC P id m .ret) Q) := rfl
def f4_30 : AC := .cond (.r 51) f4_31 .skip
theorem f4_30e : aC P id m f4_30 sf st Q = condI (.r 51) (sf.ev id (.r 51)) (aC P id m f4_31) (aC P id m .skip) sf st Q := rfl
def f4_28 : AC := .seq f4_29 f4_30
theorem f4_28e : aC P id m f4_28 sf st Q = aC P id m f4_29 sf st (seqQ (aC P id m f4_30) Q) := rfl
def f4_27 : AC := .block 1 f4_28
theorem f4_27e : aC P id m f4_27 sf st Q = aC P id m f4_28 sf st (blockQ 1 Q) := rfl
def f4_33l : List GI := [vv 43 9,
    vb 44 .add 43 1,
    vo 9 44]
def f4_33 : AC := .ops [0, 1, 2, 7, 9] [] f4_33l
theorem f4_33e : aC P id m f4_33 sf st Q = runI P id m f4_33l (opsK [0, 1, 2, 7, 9] [] Q) sf st := rfl
def f4_26 : AC := .seq f4_27 f4_33
theorem f4_26e : aC P id m f4_26 sf st Q = aC P id m f4_27 sf st (seqQ (aC P id m f4_33) Q) := rfl
def f4_22 : AC := .seq f4_23 f4_26
theorem f4_22e : aC P id m f4_22 sf st Q = aC P id m f4_23 sf st (seqQ (aC P id m f4_26) Q) := rfl
def f4_21 : AC := .loop [0, 1, 2, 7, 9] [] f4_22
theorem f4_21w : aC P id m f4_21 sf st Q = loopI (aC P id m f4_22) [0, 1, 2, 7, 9] [] sf st Q := rfl
def f4_20 : AC := .block 0 f4_21
theorem f4_20e : aC P id m f4_20 sf st Q = aC P id m f4_21 sf st (blockQ 0 Q) := rfl
def f4_18 : AC := .seq f4_19 f4_20
theorem f4_18e : aC P id m f4_18 sf st Q = aC P id m f4_19 sf st (seqQ (aC P id m f4_20) Q) := rfl
def f4_36l : List GI := [vv 52 7,
    ⟨none, .call (some 53) false (.f 16) [(.r 52), (.c (.lit (.int .i64 1099511627776)))]⟩,
    vb 54 .neq 53 7,
    vv 55 54,
    ⟨some (55, false), .mv (some 56) (.r 7)⟩,
    ⟨some (55, false), .call (some 57) false (.f 17) [(.r 56)]⟩,
    ⟨some (55, false), .bin (some 58) .num .neq (.r 57) (.c (.lit (.int .i64 0)))⟩,
    ⟨none, .pick (some 59) (.r 55) (.c (.lit (.bool true))) (.r 58)⟩]
def f4_36 : AC := .ops [0, 1, 2, 7, 59] [] f4_36l
theorem f4_36e : aC P id m f4_36 sf st Q = runI P id m f4_36l (opsK [0, 1, 2, 7, 59] [] Q) sf st := rfl
def f4_39l : List GI := [⟨none, .mv (some 6) (.c (.lit (.bool false)))⟩]
def f4_39 : AC := .ops [6] [] f4_39l
theorem f4_39e : aC P id m f4_39 sf st Q = runI P id m f4_39l (opsK [6] [] Q) sf st := rfl
def f4_38 : AC := .seq f4_39 .ret
theorem f4_38e : aC P id m f4_38 sf st Q = aC P id m f4_39 sf st (seqQ (aC P id m .ret) Q) := rfl
def f4_37 : AC := .cond (.r 59) f4_38 .skip
theorem f4_37e : aC P id m f4_37 sf st Q = condI (.r 59) (sf.ev id (.r 59)) (aC P id m f4_38) (aC P id m .skip) sf st Q := rfl
def f4_35 : AC := .seq f4_36 f4_37
theorem f4_35e : aC P id m f4_35 sf st Q = aC P id m f4_36 sf st (seqQ (aC P id m f4_37) Q) := rfl
def f4_41l : List GI := [vv 60 2,
    ⟨none, .conv (some 61) (.int .i64) (.r 60)⟩,
    vv 62 0,
    ⟨none, .conv (some 63) (.int .i64) (.r 62)⟩,
    vb 64 .add 63 1,
    ⟨none, .bin (some 65) .num .rem (.r 61) (.r 64)⟩,
    vo 10 65]
def f4_41 : AC := .ops [0, 1, 7, 10] [] f4_41l
theorem f4_41e : aC P id m f4_41 sf st Q = runI P id m f4_41l (opsK [0, 1, 7, 10] [] Q) sf st := rfl
def f4_44l : List GI := [⟨none, .mv (some 11) (.c (.lit (.int .i64 0)))⟩]
def f4_44 : AC := .ops [0, 1, 7, 10, 11] [] f4_44l
theorem f4_44e : aC P id m f4_44 sf st Q = runI P id m f4_44l (opsK [0, 1, 7, 10, 11] [] Q) sf st := rfl
def f4_49l : List GI := [vv 66 11,
    vv 67 10,
    ⟨none, .bin (some 68) .num .lss (.r 66) (.r 67)⟩]
def f4_49 : AC := .ops [0, 1, 7, 10, 11, 68] [] f4_49l
theorem f4_49e : aC P id m f4_49 sf st Q = runI P id m f4_49l (opsK [0, 1, 7, 10, 11, 68] [] Q) sf st := rfl
def f4_50 : AC := .cond (.r 68) .skip (.exit [0, 7, 10] [] 2)
theorem f4_50e : aC P id m f4_50 sf st Q = condI (.r 68) (sf.ev id (.r 68)) (aC P id m .skip) (aC P id m (.exit [0, 7, 10] [] 2)) sf st Q := rfl
def f4_48 : AC := .seq f4_49 f4_50
theorem f4_48e : aC P id m f4_48 sf st Q = aC P id m f4_49 sf st (seqQ (aC P id m f4_50) Q) := rfl
def f4_54l : List GI := [vv 71 7,
    vv 72 11,
    vv 73 1,
    ⟨none, .conv (some 74) (.int .i64) (.r 73)⟩,
    ⟨none, .bin (some 75) .num .mul (.r 72) (.r 74)⟩,
    ⟨none, .call (some 76) false (.f 18) [(.r 71), (.r 75), (.c (.lit (.int .i64 0)))]⟩,
    ⟨none, .un (some 77) .not (.r 76)⟩]
def f4_54 : AC := .ops [0, 1, 7, 10, 11, 77] [] f4_54l
theorem f4_54e : aC P id m f4_54 sf st Q = runI P id m f4_54l (opsK [0, 1, 7, 10, 11, 77] [] Q) sf st := rfl
def f4_57l : List GI := [⟨none, .mv (some 6) (.c (.lit (.bool false)))⟩]
def f4_57 : AC := .ops [6] [] f4_57l
theorem f4_57e : aC P id m f4_57 sf st Q = runI P id m f4_57l (opsK [6] [] Q) sf st := rfl
def f4_56 : AC := .seq f4_57 .ret
theorem f4_56e : aC P id m f4_56 sf st Q = aC P id m f4_57 sf st (seqQ (aC P id m .ret) Q) := rfl
def f4_55 : AC := .cond (.r 77) f4_56 .skip
theorem f4_55e : aC P id m f4_55 sf st Q = condI (.r 77) (sf.ev id (.r 77)) (aC P id m f4_56) (aC P id m .skip) sf st Q := rfl
def f4_53 : AC := .seq f4_54 f4_55
theorem f4_53e : aC P id m f4_53 sf st Q = aC P id m f4_54 sf st (seqQ (aC P id m f4_55) Q) := rfl
def f4_52 : AC := .block 3 f4_53
theorem f4_52e : aC P id m f4_52 sf st Q = aC P id m f4_53 sf st (blockQ 3 Q) := rfl
def f4_58l : List GI := [vv 69 11,
    vb 70 .add 69 1,
    vo 11 70]
def f4_58 : AC := .ops [0, 1, 7, 10, 11] [] f4_58l
theorem f4_58e : aC P id m f4_58 sf st Q = runI P id m f4_58l (opsK [0, 1, 7, 10, 11] [] Q) sf st := rfl
def f4_51 : AC := .seq f4_52 f4_58
theorem f4_51e : aC P id m f4_51 sf st Q = aC P id m f4_52 sf st (seqQ (aC P id m f4_58) Q) := rfl
def f4_47 : AC := .seq f4_48 f4_51
theorem f4_47e : aC P id m f4_47 sf st Q = aC P id m f4_48 sf st (seqQ (aC P id m f4_51) Q) := rfl
def f4_46 : AC := .loop [0, 1, 7, 10, 11] [] f4_47
theorem f4_46w : aC P id m f4_46 sf st Q = loopI (aC P id m f4_47) [0, 1, 7, 10, 11] [] sf st Q := rfl
def f4_45 : AC := .block 2 f4_46
theorem f4_45e : aC P id m f4_45 sf st Q = aC P id m f4_46 sf st (blockQ 2 Q) := rfl
def f4_43 : AC := .seq f4_44 f4_45
theorem f4_43e : aC P id m f4_43 sf st Q = aC P id m f4_44 sf st (seqQ (aC P id m f4_45) Q) := rfl
def f4_60l : List GI := [vv 78 7,
    ⟨none, .call (some 79) false (.f 17) [(.r 78)]⟩,
    vv 80 10,
    ⟨none, .bin (some 81) .num .eql (.r 79) (.r 80)⟩,
    vv 82 81,
    ⟨some (82, true), .mv (some 83) (.r 7)⟩,
    ⟨some (82, true), .call (some 84) false (.f 19) [(.r 83)]⟩,
    ⟨some (82, true), .len (some 85) .sl (.r 84)⟩,
    ⟨some (82, true), .mv (some 86) (.r 0)⟩,
    ⟨some (82, true), .conv (some 87) (.int .i64) (.r 86)⟩,
    ⟨some (82, true), .mv (some 88) (.r 10)⟩,
    ⟨some (82, true), .bin (some 89) .num .sub (.r 87) (.r 88)⟩,
    ⟨some (82, true), .bin (some 90) .num .eql (.r 85) (.r 89)⟩,
    ⟨none, .pick (some 91) (.r 82) (.r 90) (.c (.lit (.bool false)))⟩,
    vv 92 91,
    ⟨some (92, true), .call (some 93) false (.f 14) []⟩,
    ⟨none, .pick (some 94) (.r 92) (.r 93) (.c (.lit (.bool false)))⟩,
    vo 6 94]
def f4_60 : AC := .ops [6] [] f4_60l
theorem f4_60e : aC P id m f4_60 sf st Q = runI P id m f4_60l (opsK [6] [] Q) sf st := rfl
def f4_59 : AC := .seq f4_60 .ret
theorem f4_59e : aC P id m f4_59 sf st Q = aC P id m f4_60 sf st (seqQ (aC P id m .ret) Q) := rfl
def f4_42 : AC := .seq f4_43 f4_59
theorem f4_42e : aC P id m f4_42 sf st Q = aC P id m f4_43 sf st (seqQ (aC P id m f4_59) Q) := rfl
def f4_40 : AC := .seq f4_41 f4_42
theorem f4_40e : aC P id m f4_40 sf st Q = aC P id m f4_41 sf st (seqQ (aC P id m f4_42) Q) := rfl
def f4_34 : AC := .seq f4_35 f4_40
theorem f4_34e : aC P id m f4_34 sf st Q = aC P id m f4_35 sf st (seqQ (aC P id m f4_40) Q) := rfl
def f4_17 : AC := .seq f4_18 f4_34
theorem f4_17e : aC P id m f4_17 sf st Q = aC P id m f4_18 sf st (seqQ (aC P id m f4_34) Q) := rfl
def f4_11 : AC := .seq f4_12 f4_17
theorem f4_11e : aC P id m f4_11 sf st Q = aC P id m f4_12 sf st (seqQ (aC P id m f4_17) Q) := rfl
def f4_9 : AC := .seq f4_10 f4_11
theorem f4_9e : aC P id m f4_9 sf st Q = aC P id m f4_10 sf st (seqQ (aC P id m f4_11) Q) := rfl
def f4_3 : AC := .seq f4_4 f4_9
theorem f4_3e : aC P id m f4_3 sf st Q = aC P id m f4_4 sf st (seqQ (aC P id m f4_9) Q) := rfl
def f4_1 : AC := .seq f4_2 f4_3
theorem f4_1e : aC P id m f4_1 sf st Q = aC P id m f4_2 sf st (seqQ (aC P id m f4_3) Q) := rfl
def c_f4 : AFun := ⟨95, [.tmp 6], f4_1⟩
theorem k_f4 : compF Go.Proofs.Try.prog x_f4 4 = some c_f4 := by kernel_rfl
theorem e_f4 : enterB Go.Proofs.Try.prog 4 = true := by kernel_rfl

def n_f5 : Nat := 5
def x_f5 : Cx := ⟨some, id, 133, fun s => ([0, 1, 4, 5, 6, 7, 8, 9, 10, 11, 12, 13, 14, 15, 16, 17, 18, 19, 20, 21, 22, 23, 24, 25, 27, 28, 29, 30, 31, 32, 33, 34, 35, 36, 37, 39, 40, 41, 43, 44, 46, 49, 51, 54, 56, 57, 58, 59, 61, 62, 63, 64, 66, 67, 68, 69, 70, 71, 72, 74, 75, 76, 77, 80, 81, 82, 84, 85, 87, 88, 89, 90, 92, 93, 94, 95, 97, 98, 99, 101, 102, 103, 104, 105, 106, 107, 109, 110, 111, 113, 114, 115, 116, 117, 118, 119, 120, 121, 122, 123, 124, 125, 126, 127, 128, 129, 130, 132] : List Nat).contains s, fun s => ([] : List Nat).contains s, msOf [(2, [0, 1], []), (12, [0, 1, 26], []), (52, [4], []), (14, [1, 5, 6], []), (60, [1, 5, 38], []), (244, [4], []), (62, [1, 5, 7], []), (126, [1, 5, 7, 8], []), (508, [1, 5, 7, 8, 9], []), (1018, [1, 5, 7, 8, 9], []), (8144, [1, 5, 7, 8, 9, 42], []), (16291, [], []), (32584, [1, 5, 7, 8, 9, 10], []), (130340, [1, 5, 7, 8, 9, 10, 54], []), (521364, [1, 5, 7, 8, 9, 10, 54, 55], []), (2085460, [1, 5, 7, 8, 9, 10, 60], []), (4170922, [1, 5, 7, 8, 9], []), (2085462, [1, 5, 7, 8, 9, 10, 54, 65], []), (8341852, [1, 5, 7, 8, 9, 11, 12], []), (16683706, [1, 5, 7, 8, 9, 11, 73], []), (133469656, [1, 5, 7, 8, 9, 83], []), (533878628, [4], []), (66734829, [1, 5, 7, 8, 9], []), (8341854, [1, 5, 7, 8, 9, 10, 54, 86], []), (33367420, [1, 5, 7, 8, 9, 10, 91], []), (133469684, [1, 5, 7, 8, 9, 13], []), (533878740, [1, 5, 7, 8, 9, 13, 96], []), (2135514964, [4], []), (266939371, [1, 5, 7, 8, 9], []), (33367422, [1, 5, 7, 8, 9, 100], []), (133469692, [1, 5, 7, 8, 9, 14, 15], []), (266939386, [1, 5, 7, 8, 9, 14, 108], []), (2135515096, [1, 5, 9, 112], []), (8542060388, [4], []), (1067757549, [1, 5, 7, 8, 9], []), (130342, [1, 5, 7, 8, 9, 131], []), (521372, [4], []), (8147, [1, 5, 7, 8, 9], []), (510, [4], [])]⟩
def f5_2l : List GI := [⟨none, .mv (some 4) (.c (.lit (.bool false)))⟩]
def f5_2 : AC := .ops [0, 1] [] f5_2l
theorem f5_2e : aC P id m f5_2 sf st Q = runI P id m f5_2l (opsK [0, 1] [] Q) sf st := rfl
def f5_5l : List GI := [vv 16 0,
    vb 17 .lss 16 1,
    vv 18 17,
    ⟨some (18, false), .mv (some 19) (.r 0)⟩,
    ⟨some (18, false), .bin (some 20) .num .gtr (.r 19) (.c (.lit (.int .i64 128)))⟩,
    ⟨none, .pick (some 21) (.r 18) (.c (.lit (.bool true))) (.r 20)⟩,
    vv 22 21,
    ⟨some (22, false), .mv (some 23) (.r 1)⟩,
    ⟨some (22, false), .len (some 24) .sl (.r 23)⟩,
    ⟨some (22, false), .bin (some 25) .num .gtr (.r 24) (.c (.lit (.int .i64 40)))⟩,
    ⟨none, .pick (some 26) (.r 22) (.c (.lit (.bool true))) (.r 25)⟩]
def f5_5 : AC := .ops [0, 1, 26] [] f5_5l
theorem f5_5e : aC P id m f5_5 sf st Q = runI P id m f5_5l (opsK [0, 1, 26] [] Q) sf st := rfl
def f5_8l : List GI := [⟨none, .call (some 27) false (.f 14) []⟩,
    vo 4 27]
def f5_8 : AC := .ops [4] [] f5_8l
theorem f5_8e : aC P id m f5_8 sf st Q = runI P id m f5_8l (opsK [4] [] Q) sf st := rfl
def f5_7 : AC := .seq f5_8 .ret
theorem f5_7e : aC P id m f5_7 sf st Q = aC P id m f5_8 sf st (seqQ (aC P id m .ret) Q) := rfl
def f5_6 : AC := .cond (.r 26) f5_7 .skip
theorem f5_6e : aC P id m f5_6 sf st Q = condI (.r 26) (sf.ev id (.r 26)) (aC P id m f5_7) (aC P id m .skip) sf st Q := rfl
def f5_4 : AC := .seq f5_5 f5_6
theorem f5_4e : aC P id m f5_4 sf st Q = aC P id m f5_5 sf st (seqQ (aC P id m f5_6) Q) := rfl
def f5_10l : List GI := [vv 29 0,
    ⟨none, .call (some 30) false (.f 13) [(.r 29)]⟩,
    vv 28 30,
    ve 31 28 0,
    ve 32 28 1,
    vo 5 31,
    vo 6 32]
def f5_10 : AC := .ops [1, 5, 6] [] f5_10l
theorem f5_10e : aC P id m f5_10 sf st Q = runI P id m f5_10l (opsK [1, 5, 6] [] Q) sf st := rfl
def f5_13l : List GI := [vv 33 5,
    ⟨none, .bin (some 34) (.nil .ptr) .eql (.r 33) (.c (.lit (.pointer none)))⟩,
    vv 35 34,
    ⟨some (35, false), .mv (some 36) (.r 6)⟩,
    ⟨some (35, false), .bin (some 37) .num .neq (.r 36) (.c (.lit (.int .i64 0)))⟩,
    ⟨none, .pick (some 38) (.r 35) (.c (.lit (.bool true))) (.r 37)⟩]
def f5_13 : AC := .ops [1, 5, 38] [] f5_13l
theorem f5_13e : aC P id m f5_13 sf st Q = runI P id m f5_13l (opsK [1, 5, 38] [] Q) sf st := rfl
def f5_16l : List GI := [⟨none, .mv (some 4) (.c (.lit (.bool false)))⟩]
def f5_16 : AC := .ops [4] [] f5_16l
theorem f5_16e : aC P id m f5_16 sf st Q = runI P id m f5_16l (opsK [4] [] Q) sf st := rfl
def f5_15 : AC := .seq f5_16 .ret
theorem f5_15e : aC P id m f5_15 sf st Q = aC P id m f5_16 sf st (seqQ (aC P id m .ret) Q) := rfl
def f5_14 : AC := .cond (.r 38) f5_15 .skip
theorem f5_14e : aC P id m f5_14 sf st Q = condI (.r 38) (sf.ev id (.r 38)) (aC P id m f5_15) (aC P id m .skip) sf st Q := rfl
def f5_12 : AC := .seq f5_13 f5_14
theorem f5_12e : aC P id m f5_12 sf st Q = aC P id m f5_13 sf st (seqQ (aC P id m f5_14) Q) := rfl
def f5_18l : List GI := [⟨none, .mv (some 7) (.c (.lit (.slice none 0 0)))⟩]
def f5_18 : AC := .ops [1, 5, 7] [] f5_18l
theorem f5_18e : aC P id m f5_18 sf st Q = runI P id m f5_18l (opsK [1, 5, 7] [] Q) sf st := rfl
def f5_20l : List GI := [⟨none, .mv (some 8) (.c (.lit (.bool false)))⟩]
def f5_20 : AC := .ops [1, 5, 7, 8] [] f5_20l
theorem f5_20e : aC P id m f5_20 sf st Q = runI P id m f5_20l (opsK [1, 5, 7, 8] [] Q) sf st := rfl
def f5_23l : List GI := [⟨none, .mv (some 9) (.c (.lit (.int .i64 0)))⟩]
def f5_23 : AC := .ops [1, 5, 7, 8, 9] [] f5_23l
theorem f5_23e : aC P id m f5_23 sf st Q = runI P id m f5_23l (opsK [1, 5, 7, 8, 9] [] Q) sf st := rfl
def f5_28l : List GI := [vv 39 9,
    vv 40 1,
    ⟨none, .len (some 41) .sl (.r 40)⟩,
    ⟨none, .bin (some 42) .num .lss (.r 39) (.r 41)⟩]
def f5_28 : AC := .ops [1, 5, 7, 8, 9, 42] [] f5_28l
theorem f5_28e : aC P id m f5_28 sf st Q = runI P id m f5_28l (opsK [1, 5, 7, 8, 9, 42] [] Q) sf st := rfl
def f5_29 : AC := .cond (.r 42) .skip (.exit [] [] 0)
theorem f5_29e : aC P id m f5_29 sf st Q = condI (.r 42) (sf.ev id (.r 42)) (aC P id m .skip) (aC P id m (.exit [] [] 0)) sf st Q := rfl
def f5_27 : AC := .seq f5_28 f5_29
theorem f5_27e : aC P id m f5_27 sf st Q = aC P id m f5_28 sf st (seqQ (aC P id m f5_29) Q) := rfl
def f5_33l : List GI := [vv 45 1,
    vv 46 9,
    ⟨none, .ixS (some 47) (.r 45) (.r 46) 2⟩,
    vd 48 47 1,
    vl 49 48,
    vo 10 49]
def f5_33 : AC := .ops [1, 5, 7, 8, 9, 10] [] f5_33l
theorem f5_33e : aC P id m f5_33 sf st Q = runI P id m f5_33l (opsK [1, 5, 7, 8, 9, 10] [] Q) sf st := rfl
def f5_36l : List GI := [vv 50 1,
    vv 51 9,
    ⟨none, .ixS (some 52) (.r 50) (.r 51) 2⟩,
    vd 53 52 0,
    vl 54 53]
def f5_36 : AC := .ops [1, 5, 7, 8, 9, 10, 54] [] f5_36l
theorem f5_36e : aC P id m f5_36 sf st Q = runI P id m f5_36l (opsK [1, 5, 7, 8, 9, 10, 54] [] Q) sf st := rfl
def f5_39l : List GI := [vb 56 .eql 54 0,
    vo 55 56]
def f5_39 : AC := .ops [1, 5, 7, 8, 9, 10, 54, 55] [] f5_39l
theorem f5_39e : aC P id m f5_39 sf st Q = runI P id m f5_39l (opsK [1, 5, 7, 8, 9, 10, 54, 55] [] Q) sf st := rfl
def f5_42l : List GI := [vv 57 5,
    vv 58 10,
    ⟨none, .call (some 59) false (.f 16) [(.r 57), (.r 58)]⟩,
    vb 60 .eql 59 0]
def f5_42 : AC := .ops [1, 5, 7, 8, 9, 10, 60] [] f5_42l
theorem f5_42e : aC P id m f5_42 sf st Q = runI P id m f5_42l (opsK [1, 5, 7, 8, 9, 10, 60] [] Q) sf st := rfl
def f5_44l : List GI := [vo 61 7,
    vv 62 10,
    ⟨none, .bsl (some 63) 1 1 (.lit (.int .i64 0)) [(0, (.r 62))]⟩,
    ⟨none, .appS 64 61 1 8 (.r 63)⟩,
    vo 7 64]
def f5_44 : AC := .ops [1, 5, 7, 8, 9] [] f5_44l
theorem f5_44e : aC P id m f5_44 sf st Q = runI P id m f5_44l (opsK [1, 5, 7, 8, 9] [] Q) sf st := rfl
def f5_43 : AC := .cond (.r 60) f5_44 .skip
theorem f5_43e : aC P id m f5_43 sf st Q = condI (.r 60) (sf.ev id (.r 60)) (aC P id m f5_44) (aC P id m .skip) sf st Q := rfl
def f5_41 : AC := .seq f5_42 f5_43
theorem f5_41e : aC P id m f5_41 sf st Q = aC P id m f5_42 sf st (seqQ (aC P id m f5_43) Q) := rfl
def f5_46l : List GI := [vb 66 .eql 54 1,
    vo 65 66]
def f5_46 : AC := .ops [1, 5, 7, 8, 9, 10, 54, 65] [] f5_46l
theorem f5_46e : aC P id m f5_46 sf st Q = runI P id m f5_46l (opsK [1, 5, 7, 8, 9, 10, 54, 65] [] Q) sf st := rfl
def f5_49l : List GI := [vv 68 5,
    ⟨none, .call (some 69) false (.f 20) [(.r 68)]⟩,
    vv 67 69,
    ve 70 67 0,
    ve 71 67 1,
    vo 11 70,
    vo 12 71]
def f5_49 : AC := .ops [1, 5, 7, 8, 9, 11, 12] [] f5_49l
theorem f5_49e : aC P id m f5_49 sf st Q = runI P id m f5_49l (opsK [1, 5, 7, 8, 9, 11, 12] [] Q) sf st := rfl
def f5_51l : List GI := [vv 72 12,
    vb 73 .eql 72 0]
def f5_51 : AC := .ops [1, 5, 7, 8, 9, 11, 73] [] f5_51l
theorem f5_51e : aC P id m f5_51 sf st Q = runI P id m f5_51l (opsK [1, 5, 7, 8, 9, 11, 73] [] Q) sf st := rfl
def f5_55l : List GI := [vv 74 7,
    ⟨none, .len (some 75) .sl (.r 74)⟩,
    vb 76 .eql 75 0,
    vv 77 76,
    ⟨some (77, false), .mv (some 78) (.r 7)⟩,
    ⟨some (77, false), .ixS (some 79) (.r 78) (.c (.lit (.int .i64 0))) 1⟩,
    ⟨some (77, false), .load (some 80) (.r 79) none⟩,
    ⟨some (77, false), .mv (some 81) (.r 11)⟩,
    ⟨some (77, false), .bin (some 82) .num .neq (.r 80) (.r 81)⟩,
    ⟨none, .pick (some 83) (.r 77) (.c (.lit (.bool true))) (.r 82)⟩]
def f5_55 : AC := .ops [1, 5, 7, 8, 9, 83] [] f5_55l
theorem f5_55e : aC P id m f5_55 sf st Q = runI P id m f5_55l (opsK [1, 5, 7, 8, 9, 83] [] Q) sf st := rfl
def f5_58l : List GI := [⟨none, .mv (some 4) (.c (.lit (.bool false)))⟩]
def f5_58 : AC := .ops [4] [] f5_58l
theorem f5_58e : aC P id m f5_58 sf st Q = runI P id m f5_58l (opsK [4] [] Q) sf st := rfl
def f5_57 : AC := .seq f5_58 .ret
theorem f5_57e : aC P id m f5_57 sf st Q = aC P id m f5_58 sf st (seqQ (aC P id m .ret) Q) := rfl
def f5_56 : AC := .cond (.r 83) f5_57 .skip
theorem f5_56e : aC P id m f5_56 sf st Q = condI (.r 83) (sf.ev id (.r 83)) (aC P id m f5_57) (aC P id m .skip) sf st Q := rfl
def f5_54 : AC := .seq f5_55 f5_56
theorem f5_54e : aC P id m f5_54 sf st Q = aC P id m f5_55 sf st (seqQ (aC P id m f5_56) Q) := rfl
def f5_59l : List GI := [vv 84 7,
    ⟨none, .call (some 85) false (.f 21) [(.r 84), (.c (.lit (.int .i64 0)))]⟩,
    vo 7 85]
def f5_59 : AC := .ops [1, 5, 7, 8, 9] [] f5_59l
theorem f5_59e : aC P id m f5_59 sf st Q = runI P id m f5_59l (opsK [1, 5, 7, 8, 9] [] Q) sf st := rfl
def f5_53 : AC := .seq f5_54 f5_59
theorem f5_53e : aC P id m f5_53 sf st Q = aC P id m f5_54 sf st (seqQ (aC P id m f5_59) Q) := rfl
def f5_52 : AC := .cond (.r 73) f5_53 .skip
theorem f5_52e : aC P id m f5_52 sf st Q = condI (.r 73) (sf.ev id (.r 73)) (aC P id m f5_53) (aC P id m .skip) sf st Q := rfl
def f5_50 : AC := .seq f5_51 f5_52
theorem f5_50e : aC P id m f5_50 sf st Q = aC P id m f5_51 sf st (seqQ (aC P id m f5_52) Q) := rfl
def f5_48 : AC := .seq f5_49 f5_50
theorem f5_48e : aC P id m f5_48 sf st Q = aC P id m f5_49 sf st (seqQ (aC P id m f5_50) Q) := rfl
def f5_61l : List GI := [vb 87 .eql 54 2,
    vo 86 87]
def f5_61 : AC := .ops [1, 5, 7, 8, 9, 10, 54, 86] [] f5_61l
theorem f5_61e : aC P id m f5_61 sf st Q = runI P id m f5_61l (opsK [1, 5, 7, 8, 9, 10, 54, 86] [] Q) sf st := rfl
def f5_64l : List GI := [vv 88 5,
    vv 89 10,
    ⟨none, .call (some 90) false (.f 22) [(.r 88), (.r 89)]⟩,
    vb 91 .eql 90 0]
def f5_64 : AC := .ops [1, 5, 7, 8, 9, 10, 91] [] f5_64l
theorem f5_64e : aC P id m f5_64 sf st Q = runI P id m f5_64l (opsK [1, 5, 7, 8, 9, 10, 91] [] Q) sf st := rfl
def f5_67l : List GI := [vv 92 7,
    vv 93 10,
    ⟨none, .call (some 94) false (.f 23) [(.r 92), (.r 93)]⟩,
    vo 13 94]
def f5_67 : AC := .ops [1, 5, 7, 8, 9, 13] [] f5_67l
theorem f5_67e : aC P id m f5_67 sf st Q = runI P id m f5_67l (opsK [1, 5, 7, 8, 9, 13] [] Q) sf st := rfl
def f5_70l : List GI := [vv 95 13,
    vb 96 .lss 95 0]
def f5_70 : AC := .ops [1, 5, 7, 8, 9, 13, 96] [] f5_70l
theorem f5_70e : aC P id m f5_70 sf st Q = runI P id m f5_70l (opsK [1, 5, 7, 8, 9, 13, 96] [] Q) sf st := rfl
def f5_73l : List GI := [⟨none, .mv (some 4) (.c (.lit (.bool false)))⟩]
def f5_73 : AC := .ops [4] [] f5_73l
theorem f5_73e : aC P id m f5_73 sf st Q = runI P id m f5_73l (opsK [4] [] Q) sf st := rfl
def f5_72 : AC := .seq f5_73 .ret
theorem f5_72e : aC P id m f5_72 sf st Q = aC P id m f5_73 sf st (seqQ (aC P id m .ret) Q) := rfl
def f5_71 : AC := .cond (.r 96) f5_72 .skip
theorem f5_71e : aC P id m f5_71 sf st Q = condI (.r 96) (sf.ev id (.r 96)) (aC P id m f5_72) (aC P id m .skip) sf st Q := rfl
def f5_69 : AC := .seq f5_70 f5_71
theorem f5_69e : aC P id m f5_69 sf st Q = aC P id m f5_70 sf st (seqQ (aC P id m f5_71) Q) := rfl
def f5_74l : List GI := [vv 97 7,
    vv 98 13,
    ⟨none, .call (some 99) false (.f 21) [(.r 97), (.r 98)]⟩,
    vo 7 99]
def f5_74 : AC := .ops [1, 5, 7, 8, 9] [] f5_74l
theorem f5_74e : aC P id m f5_74 sf st Q = runI P id m f5_74l (opsK [1, 5, 7, 8, 9] [] Q) sf st := rfl
def f5_68 : AC := .seq f5_69 f5_74
theorem f5_68e : aC P id m f5_68 sf st Q = aC P id m f5_69 sf st (seqQ (aC P id m f5_74) Q) := rfl
def f5_66 : AC := .seq f5_67 f5_68
theorem f5_66e : aC P id m f5_66 sf st Q = aC P id m f5_67 sf st (seqQ (aC P id m f5_68) Q) := rfl
def f5_65 : AC := .cond (.r 91) f5_66 .skip
theorem f5_65e : aC P id m f5_65 sf st Q = condI (.r 91) (sf.ev id (.r 91)) (aC P id m f5_66) (aC P id m .skip) sf st Q := rfl
def f5_63 : AC := .seq f5_64 f5_65
theorem f5_63e : aC P id m f5_63 sf st Q = aC P id m f5_64 sf st (seqQ (aC P id m f5_65) Q) := rfl
def f5_76l : List GI := [vb 101 .eql 54 3,
    vo 100 101]
def f5_76 : AC := .ops [1, 5, 7, 8, 9, 100] [] f5_76l
theorem f5_76e : aC P id m f5_76 sf st Q = runI P id m f5_76l (opsK [1, 5, 7, 8, 9, 100] [] Q) sf st := rfl
def f5_79l : List GI := [vv 103 5,
    ⟨none, .call (some 104) false (.f 24) [(.r 103)]⟩,
    vv 102 104,
    ve 105 102 0,
    ve 106 102 1,
    vo 14 105,
    vo 15 106]
def f5_79 : AC := .ops [1, 5, 7, 8, 9, 14, 15] [] f5_79l
theorem f5_79e : aC P id m f5_79 sf st Q = runI P id m f5_79l (opsK [1, 5, 7, 8, 9, 14, 15] [] Q) sf st := rfl
def f5_81l : List GI := [vv 107 15,
    vb 108 .eql 107 0]
def f5_81 : AC := .ops [1, 5, 7, 8, 9, 14, 108] [] f5_81l
theorem f5_81e : aC P id m f5_81 sf st Q = runI P id m f5_81l (opsK [1, 5, 7, 8, 9, 14, 108] [] Q) sf st := rfl
def f5_85l : List GI := [vv 109 14,
    vv 110 7,
    ⟨none, .call (some 111) false (.f 25) [(.r 109), (.r 110)]⟩,
    ⟨none, .un (some 112) .not (.r 111)⟩]
def f5_85 : AC := .ops [1, 5, 9, 112] [] f5_85l
theorem f5_85e : aC P id m f5_85 sf st Q = runI P id m f5_85l (opsK [1, 5, 9, 112] [] Q) sf st := rfl
def f5_88l : List GI := [⟨none, .mv (some 4) (.c (.lit (.bool false)))⟩]
def f5_88 : AC := .ops [4] [] f5_88l
theorem f5_88e : aC P id m f5_88 sf st Q = runI P id m f5_88l (opsK [4] [] Q) sf st := rfl
def f5_87 : AC := .seq f5_88 .ret
theorem f5_87e : aC P id m f5_87 sf st Q = aC P id m f5_88 sf st (seqQ (aC P id m .ret) Q) := rfl
def f5_86 : AC := .cond (.r 112) f5_87 .skip
theorem f5_86e : aC P id m f5_86 sf st Q = condI (.r 112) (sf.ev id (.r 112)) (aC P id m f5_87) (aC P id m .skip) sf st Q := rfl
def f5_84 : AC := .seq f5_85 f5_86
theorem f5_84e : aC P id m f5_84 sf st Q = aC P id m f5_85 sf st (seqQ (aC P id m f5_86) Q) := rfl
def f5_89l : List GI := [⟨none, .mv (some 7) (.c (.lit (.slice none 0 0)))⟩,
    ⟨none, .mv (some 8) (.c (.lit (.bool true)))⟩]
def f5_89 : AC := .ops [1, 5, 7, 8, 9] [] f5_89l
theorem f5_89e : aC P id m f5_89 sf st Q = runI P id m f5_89l (opsK [1, 5, 7, 8, 9] [] Q) sf st := rfl
def f5_83 : AC := .seq f5_84 f5_89
theorem f5_83e : aC P id m f5_83 sf st Q = aC P id m f5_84 sf st (seqQ (aC P id m f5_89) Q) := rfl
def f5_82 : AC := .cond (.r 108) f5_83 .skip
theorem f5_82e : aC P id m f5_82 sf st Q = condI (.r 108) (sf.ev id (.r 108)) (aC P id m f5_83) (aC P id m .skip) sf st Q := rfl
def f5_80 : AC := .seq f5_81 f5_82
theorem f5_80e : aC P id m f5_80 sf st Q = aC P id m f5_81 sf st (seqQ (aC P id m f5_82) Q) := rfl
def f5_78 : AC := .seq f5_79 f5_80
theorem f5_78e : aC P id m f5_78 sf st Q = aC P id m f5_79 sf st (seqQ (aC P id m f5_80) Q) := rfl
def f5_77 : AC := .cond (.r 100) f5_78 .skip
theorem f5_77e : aC P id m f5_77 sf st Q = condI (.r 100) (sf.ev id (.r 100)) (aC P id m f5_78) (aC P id m .skip) sf st Q := rfl
def f5_75 : AC := .seq f5_76 f5_77
theorem f5_75e : aC P id m f5_75 sf st Q = aC P id m f5_76 sf st (seqQ (aC P id m f5_77) Q) := rfl
def f5_62 : AC := .cond (.r 86) f5_63 f5_75
theorem f5_62e : aC P id m f5_62 sf st Q = condI (.r 86) (sf.ev id (.r 86)) (aC P id m f5_63) (aC P id m f5_75) sf st Q := rfl
def f5_60 : AC := .seq f5_61 f5_62
theorem f5_60e : aC P id m f5_60 sf st Q = aC P id m f5_61 sf st (seqQ (aC P id m f5_62) Q) := rfl
def f5_47 : AC := .cond (.r 65) f5_48 f5_60
theorem f5_47e : aC P id m f5_47 sf st Q = condI (.r 65) (sf.ev id (.r 65)) (aC P id m f5_48) (aC P id m f5_60) sf st Q := rfl
def f5_45 : AC := .seq f5_46 f5_47
theorem f5_45e : aC P id m f5_45 sf st Q = aC P id m f5_46 sf st (seqQ (aC P id m f5_47) Q) := rfl
def f5_40 : AC := .cond (.r 55) f5_41 f5_45
theorem f5_40e : aC P id m f5_40 sf st Q = condI (.r 55) (sf.ev id (.r 55)) (aC P id m f5_41) (aC P id m f5_45) sf st Q := rfl
def f5_38 : AC := .seq f5_39 f5_40
theorem f5_38e : aC P id m f5_38 sf st Q = aC P id m f5_39 sf st (seqQ (aC P id m f5_40) Q) := rfl
def f5_37 : AC := .block 2 f5_38
theorem f5_37e : aC P id m f5_37 sf st Q = aC P id m f5_38 sf st (blockQ 2 Q) := rfl
def f5_35 : AC := .seq f5_36 f5_37
theorem f5_35e : aC P id m f5_35 sf st Q = aC P id m f5_36 sf st (seqQ (aC P id m f5_37) Q) := rfl
def f5_91l : List GI := [vv 113 5,
    ⟨none, .call (some 114) false (.f 19) [(.r 113)]⟩,
    vv 115 7,
    ⟨none, .call (some 116) false (.f 25) [(.r 114), (.r 115)]⟩,
    ⟨none, .un (some 117) .not (.r 116)⟩,
    vv 118 117,
    ⟨some (118, false), .mv (some 119) (.r 8)⟩,
    ⟨some (118, false), .un (some 120) .not (.r 119)⟩,
    ⟨some (118, false), .mv (some 121) (.r 120)⟩,
    ⟨some (121, true), .mv (some 122) (.r 5)⟩,
    ⟨some (121, true), .call (some 123) false (.f 17) [(.r 122)]⟩,
    ⟨some (121, true), .mv (some 124) (.r 7)⟩,
    ⟨some (121, true), .len (some 125) .sl (.r 124)⟩,
    ⟨some (121, true), .bin (some 126) .num .add (.r 123) (.r 125)⟩,
    ⟨some (121, true), .mv (some 127) (.r 5)⟩,
    ⟨some (121, true), .call (some 128) false (.f 26) [(.r 127)]⟩,
    ⟨some (121, true), .bin (some 129) .num .neq (.r 126) (.r 128)⟩,
    ⟨some (118, false), .pick (some 130) (.r 121) (.r 129) (.c (.lit (.bool false)))⟩,
    ⟨none, .pick (some 131) (.r 118) (.c (.lit (.bool true))) (.r 130)⟩]
def f5_91 : AC := .ops [1, 5, 7, 8, 9, 131] [] f5_91l
theorem f5_91e : aC P id m f5_91 sf st Q = runI P id m f5_91l (opsK [1, 5, 7, 8, 9, 131] [] Q) sf st := rfl
def f5_94l : List GI := [⟨none, .mv (some 4) (.c (.lit (.bool false)))⟩]
def f5_94 : AC := .ops [4] [] f5_94l
theorem f5_94e : aC P id m f5_94 sf st Q = runI P id m f5_94l (opsK [4] [] Q) sf st := rfl
def f5_93 : AC := .seq f5_94 .ret
theorem f5_93e : aC P id m f5_93 sf st Q = aC P id m f5_94 sf st (seqQ (aC P id m .ret) Q) := rfl
def f5_92 : AC := .cond (.r 131) f5_93 .skip
theorem f5_92e : aC P id m f5_92 sf st Q = condI (.r 131) (sf.ev id (.r 131)) (aC P id m f5_93) (aC P id m .skip) sf st Q := rfl
def f5_90 : AC := .seq f5_91 f5_92
theorem f5_90e : aC P id m f5_90 sf st Q = aC P id m f5_91 sf st (seqQ (aC P id m f5_92) Q) := rfl
def f5_34 : AC := .seq f5_35 f5_90
theorem f5_34e : aC P id m f5_34 sf st Q = aC P id m f5_35 sf st (seqQ (aC P id m f5_90) Q) := rfl
def f5_32 : AC := .seq f5_33 f5_34
theorem f5_32e : aC P id m f5_32 sf st Q = aC P id m f5_33 sf st (seqQ (aC P id m f5_34) Q) := rfl
def f5_31 : AC := .block 1 f5_32
theorem f5_31e : aC P id m f5_31 sf st Q = aC P id m f5_32 sf st (blockQ 1 Q) := rfl
def f5_95l : List GI := [vv 43 9,
    vb 44 .add 43 1,
    vo 9 44]
def f5_95 : AC := .ops [1, 5, 7, 8, 9] [] f5_95l
theorem f5_95e : aC P id m f5_95 sf st Q = runI P id m f5_95l (opsK [1, 5, 7, 8, 9] [] Q) sf st := rfl
def f5_30 : AC := .seq f5_31 f5_95
theorem f5_30e : aC P id m f5_30 sf st Q = aC P id m f5_31 sf st (seqQ (aC P id m f5_95) Q) := rfl
def f5_26 : AC := .seq f5_27 f5_30
theorem f5_26e : aC P id m f5_26 sf st Q = aC P id m f5_27 sf st (seqQ (aC P id m f5_30) Q) := rfl
def f5_25 : AC := .loop [1, 5, 7, 8, 9] [] f5_26
theorem f5_25w : aC P id m f5_25 sf st Q = loopI (aC P id m f5_26) [1, 5, 7, 8, 9] [] sf st Q := rfl
def f5_24 : AC := .block 0 f5_25
theorem f5_24e : aC P id m f5_24 sf st Q = aC P id m f5_25 sf st (blockQ 0 Q) := rfl
def f5_22 : AC := .seq f5_23 f5_24
theorem f5_22e : aC P id m f5_22 sf st Q = aC P id m f5_23 sf st (seqQ (aC P id m f5_24) Q) := rfl
def f5_97l : List GI := [⟨none, .call (some 132) false (.f 14) []⟩,
    vo 4 132]
def f5_97 : AC := .ops [4] [] f5_97l
theorem f5_97e : aC P id m f5_97 sf st Q = runI P id m f5_97l (opsK [4] [] Q) sf st := rfl
def f5_96 : AC := .seq f5_97 .ret
theorem f5_96e : aC P id m f5_96 sf st Q = aC P id m f5_97 sf st (seqQ (aC P id m .ret) Q) := rfl
def f5_21 : AC := .seq f5_22 f5_96
theorem f5_21e : aC P id m f5_21 sf st Q = aC P id m f5_22 sf st (seqQ (aC P id m f5_96) Q) := rfl
def f5_19 : AC := .seq f5_20 f5_21
theorem f5_19e : aC P id m f5_19 sf st Q = aC P id m f5_20 sf st (seqQ (aC P id m f5_21) Q) := rfl
def f5_17 : AC := .seq f5_18 f5_19
theorem f5_17e : aC P id m f5_17 sf st Q = aC P id m f5_18 sf st (seqQ (aC P id m f5_19) Q) := rfl
def f5_11 : AC := .seq f5_12 f5_17
theorem f5_11e : aC P id m f5_11 sf st Q = aC P id m f5_12 sf st (seqQ (aC P id m f5_17) Q) := rfl
def f5_9 : AC := .seq f5_10 f5_11
theorem f5_9e : aC P id m f5_9 sf st Q = aC P id m f5_10 sf st (seqQ (aC P id m f5_11) Q) := rfl
def f5_3 : AC := .seq f5_4 f5_9
theorem f5_3e : aC P id m f5_3 sf st Q = aC P id m f5_4 sf st (seqQ (aC P id m f5_9) Q) := rfl
def f5_1 : AC := .seq f5_2 f5_3
theorem f5_1e : aC P id m f5_1 sf st Q = aC P id m f5_2 sf st (seqQ (aC P id m f5_3) Q) := rfl
def c_f5 : AFun := ⟨133, [.tmp 4], f5_1⟩
theorem k_f5 : compF Go.Proofs.Try.prog x_f5 5 = some c_f5 := by kernel_rfl
theorem e_f5 : enterB Go.Proofs.Try.prog 5 = true := by kernel_rfl

def n_f6 : Nat := 6
def x_f6 : Cx := ⟨some, id, 69, fun s => ([0, 1, 4, 5, 6, 8, 9, 11, 12, 13, 14, 15, 16, 17, 18, 19, 20, 21, 23, 24, 25, 26, 27, 28, 29, 30, 31, 32, 33, 35, 36, 37, 38, 39, 41, 42, 43, 44, 45, 47, 49, 50, 51, 52, 53, 54, 55, 56, 57, 58, 59, 60, 61, 62, 63, 64, 66, 67, 68] : List Nat).contains s, fun s => ([50] : List Nat).contains s, msOf [(2, [0, 1], []), (12, [0, 1, 22], []), (52, [4], []), (14, [0, 1, 5, 6], []), (60, [0, 1, 5, 34], []), (244, [4], []), (62, [1, 5, 7], [7]), (252, [1, 5, 7, 8], [7]), (506, [1, 5, 7, 8], [7]), (4048, [1, 5, 7, 8, 40], [7]), (8099, [], []), (16200, [1, 7, 8, 9, 10, 11], [7, 10]), (64804, [1, 7, 8, 9, 10, 65], [7, 10]), (259220, [4], []), (32403, [1, 5, 7, 8], [7]), (4051, [1, 5, 7, 8], [7]), (254, [4], [])]⟩
def f6_2l : List GI := [⟨none, .mv (some 4) (.c (.lit (.bool false)))⟩]
def f6_2 : AC := .ops [0, 1] [] f6_2l
theorem f6_2e : aC P id m f6_2 sf st Q = runI P id m f6_2l (opsK [0, 1] [] Q) sf st := rfl
def f6_5l : List GI := [vv 12 0,
    vb 13 .lss 12 1,
    vv 14 13,
    ⟨some (14, false), .mv (some 15) (.r 0)⟩,
    ⟨some (14, false), .bin (some 16) .num .gtr (.r 15) (.c (.lit (.int .i64 128)))⟩,
    ⟨none, .pick (some 17) (.r 14) (.c (.lit (.bool true))) (.r 16)⟩,
    vv 18 17,
    ⟨some (18, false), .mv (some 19) (.r 1)⟩,
    ⟨some (18, false), .len (some 20) .sl (.r 19)⟩,
    ⟨some (18, false), .bin (some 21) .num .gtr (.r 20) (.c (.lit (.int .i64 40)))⟩,
    ⟨none, .pick (some 22) (.r 18) (.c (.lit (.bool true))) (.r 21)⟩]
def f6_5 : AC := .ops [0, 1, 22] [] f6_5l
theorem f6_5e : aC P id m f6_5 sf st Q = runI P id m f6_5l (opsK [0, 1, 22] [] Q) sf st := rfl
def f6_8l : List GI := [⟨none, .call (some 23) false (.f 14) []⟩,
    vo 4 23]
def f6_8 : AC := .ops [4] [] f6_8l
theorem f6_8e : aC P id m f6_8 sf st Q = runI P id m f6_8l (opsK [4] [] Q) sf st := rfl
def f6_7 : AC := .seq f6_8 .ret
theorem f6_7e : aC P id m f6_7 sf st Q = aC P id m f6_8 sf st (seqQ (aC P id m .ret) Q) := rfl
def f6_6 : AC := .cond (.r 22) f6_7 .skip
theorem f6_6e : aC P id m f6_6 sf st Q = condI (.r 22) (sf.ev id (.r 22)) (aC P id m f6_7) (aC P id m .skip) sf st Q := rfl
def f6_4 : AC := .seq f6_5 f6_6
theorem f6_4e : aC P id m f6_4 sf st Q = aC P id m f6_5 sf st (seqQ (aC P id m f6_6) Q) := rfl
def f6_10l : List GI := [vv 25 0,
    ⟨none, .call (some 26) false (.f 13) [(.r 25)]⟩,
    vv 24 26,
    ve 27 24 0,
    ve 28 24 1,
    vo 5 27,
    vo 6 28]
def f6_10 : AC := .ops [0, 1, 5, 6] [] f6_10l
theorem f6_10e : aC P id m f6_10 sf st Q = runI P id m f6_10l (opsK [0, 1, 5, 6] [] Q) sf st := rfl
def f6_13l : List GI := [vv 29 5,
    ⟨none, .bin (some 30) (.nil .ptr) .eql (.r 29) (.c (.lit (.pointer none)))⟩,
    vv 31 30,
    ⟨some (31, false), .mv (some 32) (.r 6)⟩,
    ⟨some (31, false), .bin (some 33) .num .neq (.r 32) (.c (.lit (.int .i64 0)))⟩,
    ⟨none, .pick (some 34) (.r 31) (.c (.lit (.bool true))) (.r 33)⟩]
def f6_13 : AC := .ops [0, 1, 5, 34] [] f6_13l
theorem f6_13e : aC P id m f6_13 sf st Q = runI P id m f6_13l (opsK [0, 1, 5, 34] [] Q) sf st := rfl
def f6_16l : List GI := [⟨none, .mv (some 4) (.c (.lit (.bool false)))⟩]
def f6_16 : AC := .ops [4] [] f6_16l
theorem f6_16e : aC P id m f6_16 sf st Q = runI P id m f6_16l (opsK [4] [] Q) sf st := rfl
def f6_15 : AC := .seq f6_16 .ret
theorem f6_15e : aC P id m f6_15 sf st Q = aC P id m f6_16 sf st (seqQ (aC P id m .ret) Q) := rfl
def f6_14 : AC := .cond (.r 34) f6_15 .skip
theorem f6_14e : aC P id m f6_14 sf st Q = condI (.r 34) (sf.ev id (.r 34)) (aC P id m f6_15) (aC P id m .skip) sf st Q := rfl
def f6_12 : AC := .seq f6_13 f6_14
theorem f6_12e : aC P id m f6_12 sf st Q = aC P id m f6_13 sf st (seqQ (aC P id m f6_14) Q) := rfl
def f6_18l : List GI := [vv 35 0,
    ⟨none, .bst (some 36) [(0, 1), (1, 1), (2, 1)] (.agg [(.lit (.int .i64 0)), (.lit (.slice none 0 0)), (.lit (.bool false))]) [(0, (.r 35))]⟩,
    ⟨none, .newL 7 [(.lit (.int .i64 0)), (.lit (.slice none 0 0)), (.lit (.bool false))]⟩,
    ⟨none, .store 3 (.r 7) (.r 36)⟩]
def f6_18 : AC := .ops [1, 5, 7] [7] f6_18l
theorem f6_18e : aC P id m f6_18 sf st Q = runI P id m f6_18l (opsK [1, 5, 7] [7] Q) sf st := rfl
def f6_21l : List GI := [⟨none, .mv (some 8) (.c (.lit (.int .i64 0)))⟩]
def f6_21 : AC := .ops [1, 5, 7, 8] [7] f6_21l
theorem f6_21e : aC P id m f6_21 sf st Q = runI P id m f6_21l (opsK [1, 5, 7, 8] [7] Q) sf st := rfl
def f6_26l : List GI := [vv 37 8,
    vv 38 1,
    ⟨none, .len (some 39) .sl (.r 38)⟩,
    ⟨none, .bin (some 40) .num .lss (.r 37) (.r 39)⟩]
def f6_26 : AC := .ops [1, 5, 7, 8, 40] [7] f6_26l
theorem f6_26e : aC P id m f6_26 sf st Q = runI P id m f6_26l (opsK [1, 5, 7, 8, 40] [7] Q) sf st := rfl
def f6_27 : AC := .cond (.r 40) .skip (.exit [] [] 0)
theorem f6_27e : aC P id m f6_27 sf st Q = condI (.r 40) (sf.ev id (.r 40)) (aC P id m .skip) (aC P id m (.exit [] [] 0)) sf st Q := rfl
def f6_25 : AC := .seq f6_26 f6_27
theorem f6_25e : aC P id m f6_25 sf st Q = aC P id m f6_26 sf st (seqQ (aC P id m f6_27) Q) := rfl
def f6_31h : List GI := [vv 44 5,
    ⟨none, .load (some 45) (.r 7) (some 3)⟩,
    vv 46 1,
    vv 47 8,
    ⟨none, .ixS (some 48) (.r 46) (.r 47) 2⟩,
    ⟨none, .load (some 49) (.r 48) (some 2)⟩]
def f6_31p : List (Bool × GI) := [(true, vv 43 50),
    (true, ve 51 43 0),
    (true, ve 52 43 1),
    (true, ve 53 43 2),
    (false, ⟨none, .newL 10 [(.lit (.int .i64 0)), (.lit (.slice none 0 0)), (.lit (.bool false))]⟩),
    (true, vv 9 51),
    (true, ⟨none, .store 3 (.r 10) (.r 52)⟩)]
def f6_31l : List GI := [vo 11 53]
def f6_31 : AC := .drawM [1, 7, 8, 9, 10, 11] [7, 10] f6_31h (some 50) (.f 27) [(.r 44), (.r 45), (.r 49)] f6_31p f6_31l
theorem f6_31e : aC P id m f6_31 sf st Q = (m = false ∧ drawM P id f6_31h (some 50) (.f 27) [(.r 44), (.r 45), (.r 49)] f6_31p sf st (tailM P id m [1, 7, 8, 9, 10, 11] [7, 10] f6_31l Q)) := rfl
def f6_34l : List GI := [vv 54 9,
    ⟨none, .bin (some 55) (.nil .ptr) .eql (.r 54) (.c (.lit (.pointer none)))⟩,
    vv 56 55,
    ⟨some (56, false), .mv (some 57) (.r 11)⟩,
    ⟨some (56, false), .un (some 58) .not (.r 57)⟩,
    ⟨none, .pick (some 59) (.r 56) (.c (.lit (.bool true))) (.r 58)⟩,
    vv 60 59,
    ⟨some (60, false), .mv (some 61) (.r 9)⟩,
    ⟨some (60, false), .load (some 62) (.r 10) (some 3)⟩,
    ⟨some (60, false), .call (some 63) false (.f 15) [(.r 61), (.r 62)]⟩,
    ⟨some (60, false), .un (some 64) .not (.r 63)⟩,
    ⟨none, .pick (some 65) (.r 60) (.c (.lit (.bool true))) (.r 64)⟩]
def f6_34 : AC := .ops [1, 7, 8, 9, 10, 65] [7, 10] f6_34l
theorem f6_34e : aC P id m f6_34 sf st Q = runI P id m f6_34l (opsK [1, 7, 8, 9, 10, 65] [7, 10] Q) sf st := rfl
def f6_37l : List GI := [⟨none, .mv (some 4) (.c (.lit (.bool false)))⟩]
def f6_37 : AC := .ops [4] [] f6_37l
theorem f6_37e : aC P id m f6_37 sf st Q = runI P id m f6_37l (opsK [4] [] Q) sf st := rfl
def f6_36 : AC := .seq f6_37 .ret
theorem f6_36e : aC P id m f6_36 sf st Q = aC P id m f6_37 sf st (seqQ (aC P id m .ret) Q) := rfl
def f6_35 : AC := .cond (.r 65) f6_36 .skip
theorem f6_35e : aC P id m f6_35 sf st Q = condI (.r 65) (sf.ev id (.r 65)) (aC P id m f6_36) (aC P id m .skip) sf st Q := rfl
def f6_33 : AC := .seq f6_34 f6_35
theorem f6_33e : aC P id m f6_33 sf st Q = aC P id m f6_34 sf st (seqQ (aC P id m f6_35) Q) := rfl
def f6_38h : List GI := [vv 66 9,
    ⟨none, .load (some 67) (.r 10) (some 3)⟩,
    vv 5 66]
def f6_38l : List GI := [⟨none, .store 3 (.r 7) (.r 67)⟩]
def f6_38 : AC := .draw [1, 5, 7, 8] [7] [] f6_38h f6_38l
theorem f6_38e : aC P id m f6_38 sf st Q = headI P id sf.locs st f6_38h (tailK P id m [] [1, 5, 7, 8] [7] f6_38l Q st) [] ⟨sf.regs, dropL [] sf.locs⟩ := rfl
def f6_32 : AC := .seq f6_33 f6_38
theorem f6_32e : aC P id m f6_32 sf st Q = aC P id m f6_33 sf st (seqQ (aC P id m f6_38) Q) := rfl
def f6_30 : AC := .seq f6_31 f6_32
theorem f6_30e : aC P id m f6_30 sf st Q = aC P id m f6_31 sf st (seqQ (aC P id m f6_32) Q) := rfl
def f6_29 : AC := .block 1 f6_30
theorem f6_29e : aC P id m f6_29 sf st Q = aC P id m f6_30 sf st (blockQ 1 Q) := rfl
def f6_39l : List GI := [vv 41 8,
    vb 42 .add 41 1,
    vo 8 42]
def f6_39 : AC := .ops [1, 5, 7, 8] [7] f6_39l
theorem f6_39e : aC P id m f6_39 sf st Q = runI P id m f6_39l (opsK [1, 5, 7, 8] [7] Q) sf st := rfl
def f6_28 : AC := .seq f6_29 f6_39
theorem f6_28e : aC P id m f6_28 sf st Q = aC P id m f6_29 sf st (seqQ (aC P id m f6_39) Q) := rfl
def f6_24 : AC := .seq f6_25 f6_28
theorem f6_24e : aC P id m f6_24 sf st Q = aC P id m f6_25 sf st (seqQ (aC P id m f6_28) Q) := rfl
def f6_23 : AC := .loop [1, 5, 7, 8] [7] f6_24
theorem f6_23w : aC P id m f6_23 sf st Q = loopI (aC P id m f6_24) [1, 5, 7, 8] [7] sf st Q := rfl
def f6_22 : AC := .block 0 f6_23
theorem f6_22e : aC P id m f6_22 sf st Q = aC P id m f6_23 sf st (blockQ 0 Q) := rfl
def f6_20 : AC := .seq f6_21 f6_22
theorem f6_20e : aC P id m f6_20 sf st Q = aC P id m f6_21 sf st (seqQ (aC P id m f6_22) Q) := rfl
def f6_41l : List GI := [⟨none, .call (some 68) false (.f 14) []⟩,
    vo 4 68]
def f6_41 : AC := .ops [4] [] f6_41l
theorem f6_41e : aC P id m f6_41 sf st Q = runI P id m f6_41l (opsK [4] [] Q) sf st := rfl
def f6_40 : AC := .seq f6_41 .ret
theorem f6_40e : aC P id m f6_40 sf st Q = aC P id m f6_41 sf st (seqQ (aC P id m .ret) Q) := rfl
def f6_19 : AC := .seq f6_20 f6_40
theorem f6_19e : aC P id m f6_19 sf st Q = aC P id m f6_20 sf st (seqQ (aC P id m f6_40) Q) := rfl
def f6_17 : AC := .seq f6_18 f6_19
theorem f6_17e : aC P id m f6_17 sf st Q = aC P id m f6_18 sf st (seqQ (aC P id m f6_19) Q) := rfl
def f6_11 : AC := .seq f6_12 f6_17
theorem f6_11e : aC P id m f6_11 sf st Q = aC P id m f6_12 sf st (seqQ (aC P id m f6_17) Q) := rfl
def f6_9 : AC := .seq f6_10 f6_11
theorem f6_9e : aC P id m f6_9 sf st Q = aC P id m f6_10 sf st (seqQ (aC P id m f6_11) Q) := rfl
def f6_3 : AC := .seq f6_4 f6_9
theorem f6_3e : aC P id m f6_3 sf st Q = aC P id m f6_4 sf st (seqQ (aC P id m f6_9) Q) := rfl
def f6_1 : AC := .seq f6_2 f6_3
theorem f6_1e : aC P id m f6_1 sf st Q = aC P id m f6_2 sf st (seqQ (aC P id m f6_3) Q) := rfl
def c_f6 : AFun := ⟨69, [.tmp 4], f6_1⟩
theorem k_f6 : compF Go.Proofs.Try.prog x_f6 6 = some c_f6 := by kernel_rfl
theorem e_f6 : enterB Go.Proofs.Try.prog 6 = true := by kernel_rfl

def n_f7 : Nat := 7
def x_f7 : Cx := ⟨some, id, 67, fun s => ([0, 2, 4, 5, 6, 7, 8, 9, 10, 11, 14, 15, 16, 17, 18, 19, 20, 21, 22, 23, 24, 25, 26, 27, 28, 29, 30, 31, 32, 33, 34, 35, 36, 37, 38, 39, 40, 41, 42, 43, 44, 45, 46, 47, 48, 49, 50, 51, 52, 53, 54, 55, 56, 57, 58, 59, 60, 61, 62, 63, 65, 66] : List Nat).contains s, fun s => ([] : List Nat).contains s, msOf [(2, [0], []), (12, [0, 9, 10, 11], []), (26, [0, 9, 10, 11], []), (104, [0, 9, 10, 11, 12], []), (421, [], []), (1688, [0, 4, 9, 10, 11], []), (3378, [0, 4, 5, 6, 9, 10, 11], []), (6758, [0, 9, 10, 11, 64], []), (27036, [2], []), (423, [0, 9, 10, 11], []), (14, [2], [])]⟩
def f7_2l : List GI := [⟨none, .mv (some 2) (.c (.lit (.bool false)))⟩]
def f7_2 : AC := .ops [0] [] f7_2l
theorem f7_2e : aC P id m f7_2 sf st Q = runI P id m f7_2l (opsK [0] [] Q) sf st := rfl
def f7_5l : List GI := [⟨none, .bst (some 7) [(0, 1), (1, 1), (2, 1), (3, 1)] (.agg [(.lit (.pointer none)), (.lit (.int .i64 0)), (.lit (.bool false)), (.lit (.map none))]) []⟩,
    ⟨none, .boxB 8 4 (.r 7)⟩,
    ⟨none, .bsl (some 9) 1 2 (.lit (.pointer none)) [(0, (.c (.lit (.pointer none)))), (1, (.r 8))]⟩,
    ⟨none, .len (some 10) .sl (.r 9)⟩,
    ⟨none, .mv (some 11) (.c (.lit (.int .i64 0)))⟩]
def f7_5 : AC := .ops [0, 9, 10, 11] [] f7_5l
theorem f7_5e : aC P id m f7_5 sf st Q = runI P id m f7_5l (opsK [0, 9, 10, 11] [] Q) sf st := rfl
def f7_9l : List GI := [⟨none, .bin (some 12) .num .lss (.r 11) (.r 10)⟩]
def f7_9 : AC := .ops [0, 9, 10, 11, 12] [] f7_9l
theorem f7_9e : aC P id m f7_9 sf st Q = runI P id m f7_9l (opsK [0, 9, 10, 11, 12] [] Q) sf st := rfl
def f7_11 : AC := .cond (.r 12) .skip (.exit [] [] 0)
theorem f7_11e : aC P id m f7_11 sf st Q = condI (.r 12) (sf.ev id (.r 12)) (aC P id m .skip) (aC P id m (.exit [] [] 0)) sf st Q := rfl
def f7_15l : List GI := [⟨none, .ixS (some 13) (.r 9) (.r 11) 1⟩,
    vl 14 13,
    vo 4 14]
def f7_15 : AC := .ops [0, 4, 9, 10, 11] [] f7_15l
theorem f7_15e : aC P id m f7_15 sf st Q = runI P id m f7_15l (opsK [0, 4, 9, 10, 11] [] Q) sf st := rfl
def f7_17l : List GI := [vv 16 4,
    ⟨none, .call (some 17) false (.f 24) [(.r 16)]⟩,
    vv 15 17,
    ve 18 15 0,
    ve 19 15 1,
    vo 5 18,
    vo 6 19]
def f7_17 : AC := .ops [0, 4, 5, 6, 9, 10, 11] [] f7_17l
theorem f7_17e : aC P id m f7_17 sf st Q = runI P id m f7_17l (opsK [0, 4, 5, 6, 9, 10, 11] [] Q) sf st := rfl
def f7_19l : List GI := [vv 20 4,
    vv 21 0,
    ⟨none, .call (some 22) false (.f 16) [(.r 20), (.r 21)]⟩,
    vb 23 .neq 22 1,
    vv 24 23,
    ⟨some (24, false), .mv (some 25) (.r 4)⟩,
    ⟨some (24, false), .call (some 26) false (.f 18) [(.r 25), (.c (.lit (.int .i64 0))), (.c (.lit (.int .i64 1)))]⟩,
    ⟨some (24, false), .un (some 27) .not (.r 26)⟩,
    ⟨none, .pick (some 28) (.r 24) (.c (.lit (.bool true))) (.r 27)⟩,
    vv 29 28,
    ⟨some (29, false), .mv (some 30) (.r 4)⟩,
    ⟨some (29, false), .mv (some 31) (.r 0)⟩,
    ⟨some (29, false), .call (some 32) false (.f 22) [(.r 30), (.r 31)]⟩,
    ⟨some (29, false), .bin (some 33) .num .neq (.r 32) (.c (.lit (.int .i64 1)))⟩,
    ⟨none, .pick (some 34) (.r 29) (.c (.lit (.bool true))) (.r 33)⟩,
    vv 35 34,
    ⟨some (35, false), .mv (some 36) (.r 5)⟩,
    ⟨some (35, false), .len (some 37) .sl (.r 36)⟩,
    ⟨some (35, false), .bin (some 38) .num .neq (.r 37) (.c (.lit (.int .i64 0)))⟩,
    ⟨none, .pick (some 39) (.r 35) (.c (.lit (.bool true))) (.r 38)⟩,
    vv 40 39,
    ⟨some (40, false), .mv (some 41) (.r 6)⟩,
    ⟨some (40, false), .bin (some 42) .num .neq (.r 41) (.c (.lit (.int .i64 1)))⟩,
    ⟨none, .pick (some 43) (.r 40) (.c (.lit (.bool true))) (.r 42)⟩,
    vv 44 43,
    ⟨some (44, false), .mv (some 45) (.r 4)⟩,
    ⟨some (44, false), .call (some 46) false (.f 19) [(.r 45)]⟩,
    ⟨some (44, false), .len (some 47) .sl (.r 46)⟩,
    ⟨some (44, false), .bin (some 48) .num .neq (.r 47) (.c (.lit (.int .i64 0)))⟩,
    ⟨none, .pick (some 49) (.r 44) (.c (.lit (.bool true))) (.r 48)⟩,
    vv 50 49,
    ⟨some (50, false), .mv (some 51) (.r 4)⟩,
    ⟨some (50, false), .call (some 52) false (.f 26) [(.r 51)]⟩,
    ⟨some (50, false), .bin (some 53) .num .neq (.r 52) (.c (.lit (.int .i64 0)))⟩,
    ⟨none, .pick (some 54) (.r 50) (.c (.lit (.bool true))) (.r 53)⟩,
    vv 55 54,
    ⟨some (55, false), .mv (some 56) (.r 4)⟩,
    ⟨some (55, false), .call (some 57) false (.f 17) [(.r 56)]⟩,
    ⟨some (55, false), .bin (some 58) .num .neq (.r 57) (.c (.lit (.int .i64 0)))⟩,
    ⟨none, .pick (some 59) (.r 55) (.c (.lit (.bool true))) (.r 58)⟩,
    vv 60 59,
    ⟨some (60, false), .mv (some 61) (.r 4)⟩,
    ⟨some (60, false), .call (some 62) false (.f 28) [(.r 61)]⟩,
    ⟨some (60, false), .bin (some 63) (.nil .ptr) .neq (.r 62) (.c (.lit (.pointer none)))⟩,
    ⟨none, .pick (some 64) (.r 60) (.c (.lit (.bool true))) (.r 63)⟩]
def f7_19 : AC := .ops [0, 9, 10, 11, 64] [] f7_19l
theorem f7_19e : aC P id m f7_19 sf st Q = runI P id m f7_19l (opsK [0, 9, 10, 11, 64] [] Q) sf st := rfl
def f7_22l : List GI := [⟨none, .mv (some 2) (.c (.lit (.bool false)))⟩]
def f7_22 : AC := .ops [2] [] f7_22l
theorem f7_22e : aC P id m f7_22 sf st Q = runI P id m f7_22l (opsK [2] [] Q) sf st := rfl
def f7_21 : AC := .seq f7_22 .ret
theorem f7_21e : aC P id m f7_21 sf st Q = aC P id m f7_22 sf st (seqQ (aC P id m .ret) Q) := rfl
def f7_20 : AC := .cond (.r 64) f7_21 .skip
theorem f7_20e : aC P id m f7_20 sf st Q = condI (.r 64) (sf.ev id (.r 64)) (aC P id m f7_21) (aC P id m .skip) sf st Q := rfl
def f7_18 : AC := .seq f7_19 f7_20
theorem f7_18e : aC P id m f7_18 sf st Q = aC P id m f7_19 sf st (seqQ (aC P id m f7_20) Q) := rfl
def f7_16 : AC := .seq f7_17 f7_18
theorem f7_16e : aC P id m f7_16 sf st Q = aC P id m f7_17 sf st (seqQ (aC P id m f7_18) Q) := rfl
def f7_14 : AC := .seq f7_15 f7_16
theorem f7_14e : aC P id m f7_14 sf st Q = aC P id m f7_15 sf st (seqQ (aC P id m f7_16) Q) := rfl
def f7_13 : AC := .block 1 f7_14
theorem f7_13e : aC P id m f7_13 sf st Q = aC P id m f7_14 sf st (blockQ 1 Q) := rfl
def f7_23l : List GI := [vb 65 .add 11 1,
    vv 11 65]
def f7_23 : AC := .ops [0, 9, 10, 11] [] f7_23l
theorem f7_23e : aC P id m f7_23 sf st Q = runI P id m f7_23l (opsK [0, 9, 10, 11] [] Q) sf st := rfl
def f7_12 : AC := .seq f7_13 f7_23
theorem f7_12e : aC P id m f7_12 sf st Q = aC P id m f7_13 sf st (seqQ (aC P id m f7_23) Q) := rfl
def f7_10 : AC := .seq f7_11 f7_12
theorem f7_10e : aC P id m f7_10 sf st Q = aC P id m f7_11 sf st (seqQ (aC P id m f7_12) Q) := rfl
def f7_8 : AC := .seq f7_9 f7_10
theorem f7_8e : aC P id m f7_8 sf st Q = aC P id m f7_9 sf st (seqQ (aC P id m f7_10) Q) := rfl
def f7_7 : AC := .loop [0, 9, 10, 11] [] f7_8
theorem f7_7w : aC P id m f7_7 sf st Q = loopI (aC P id m f7_8) [0, 9, 10, 11] [] sf st Q := rfl
def f7_6 : AC := .block 0 f7_7
theorem f7_6e : aC P id m f7_6 sf st Q = aC P id m f7_7 sf st (blockQ 0 Q) := rfl
def f7_4 : AC := .seq f7_5 f7_6
theorem f7_4e : aC P id m f7_4 sf st Q = aC P id m f7_5 sf st (seqQ (aC P id m f7_6) Q) := rfl
def f7_25l : List GI := [⟨none, .call (some 66) false (.f 14) []⟩,
    vo 2 66]
def f7_25 : AC := .ops [2] [] f7_25l
theorem f7_25e : aC P id m f7_25 sf st Q = runI P id m f7_25l (opsK [2] [] Q) sf st := rfl
def f7_24 : AC := .seq f7_25 .ret
theorem f7_24e : aC P id m f7_24 sf st Q = aC P id m f7_25 sf st (seqQ (aC P id m .ret) Q) := rfl
def f7_3 : AC := .seq f7_4 f7_24
theorem f7_3e : aC P id m f7_3 sf st Q = aC P id m f7_4 sf st (seqQ (aC P id m f7_24) Q) := rfl
def f7_1 : AC := .seq f7_2 f7_3
theorem f7_1e : aC P id m f7_1 sf st Q = aC P id m f7_2 sf st (seqQ (aC P id m f7_3) Q) := rfl
def c_f7 : AFun := ⟨67, [.tmp 2], f7_1⟩
theorem k_f7 : compF Go.Proofs.Try.prog x_f7 7 = some c_f7 := by kernel_rfl
theorem e_f7 : enterB Go.Proofs.Try.prog 7 = true := by kernel_rfl

def n_f13 : Nat := 13
def x_f13 : Cx := ⟨some, id, 15, fun s => ([0, 2, 3, 4, 5, 6, 7, 8, 10, 11, 12, 13, 14] : List Nat).contains s, fun s => ([] : List Nat).contains s, msOf [(2, [0], []), (12, [0, 9], []), (52, [2, 3], []), (14, [2, 3], [])]⟩
def f13_2l : List GI := [⟨none, .mv (some 2) (.c (.lit (.pointer none)))⟩,
    ⟨none, .mv (some 3) (.c (.lit (.int .i64 0)))⟩]
def f13_2 : AC := .ops [0] [] f13_2l
theorem f13_2e : aC P id m f13_2 sf st Q = runI P id m f13_2l (opsK [0] [] Q) sf st := rfl
def f13_5l : List GI := [vv 4 0,
    vb 5 .lss 4 1,
    vv 6 5,
    ⟨some (6, false), .mv (some 7) (.r 0)⟩,
    ⟨some (6, false), .bin (some 8) .num .gtr (.r 7) (.c (.lit (.int .i64 128)))⟩,
    ⟨none, .pick (some 9) (.r 6) (.c (.lit (.bool true))) (.r 8)⟩]
def f13_5 : AC := .ops [0, 9] [] f13_5l
theorem f13_5e : aC P id m f13_5 sf st Q = runI P id m f13_5l (opsK [0, 9] [] Q) sf st := rfl
def f13_8l : List GI := [⟨none, .mv (some 2) (.c (.lit (.pointer none)))⟩,
    ⟨none, .mv (some 3) (.c (.lit (.int .i64 2)))⟩]
def f13_8 : AC := .ops [2, 3] [] f13_8l
theorem f13_8e : aC P id m f13_8 sf st Q = runI P id m f13_8l (opsK [2, 3] [] Q) sf st := rfl
def f13_7 : AC := .seq f13_8 .ret
theorem f13_7e : aC P id m f13_7 sf st Q = aC P id m f13_8 sf st (seqQ (aC P id m .ret) Q) := rfl
def f13_6 : AC := .cond (.r 9) f13_7 .skip
theorem f13_6e : aC P id m f13_6 sf st Q = condI (.r 9) (sf.ev id (.r 9)) (aC P id m f13_7) (aC P id m .skip) sf st Q := rfl
def f13_4 : AC := .seq f13_5 f13_6
theorem f13_4e : aC P id m f13_4 sf st Q = aC P id m f13_5 sf st (seqQ (aC P id m f13_6) Q) := rfl
def f13_10l : List GI := [⟨none, .call (some 10) false (.f 45) []⟩,
    vv 11 0,
    ⟨none, .mkmap 12⟩,
    ⟨none, .bst (some 13) [(0, 1), (1, 1), (2, 1), (3, 1)] (.agg [(.lit (.pointer none)), (.lit (.int .i64 0)), (.lit (.bool false)), (.lit (.map none))]) [(0, (.r 10)), (1, (.r 11)), (3, (.r 12))]⟩,
    ⟨none, .boxB 14 4 (.r 13)⟩,
    vo 2 14,
    ⟨none, .mv (some 3) (.c (.lit (.int .i64 0)))⟩]
def f13_10 : AC := .ops [2, 3] [] f13_10l
theorem f13_10e : aC P id m f13_10 sf st Q = runI P id m f13_10l (opsK [2, 3] [] Q) sf st := rfl
def f13_9 : AC := .seq f13_10 .ret
theorem f13_9e : aC P id m f13_9 sf st Q = aC P id m f13_10 sf st (seqQ (aC P id m .ret) Q) := rfl
def f13_3 : AC := .seq f13_4 f13_9
theorem f13_3e : aC P id m f13_3 sf st Q = aC P id m f13_4 sf st (seqQ (aC P id m f13_9) Q) := rfl
def f13_1 : AC := .seq f13_2 f13_3
theorem f13_1e : aC P id m f13_1 sf st Q = aC P id m f13_2 sf st (seqQ (aC P id m f13_3) Q) := rfl
def c_f13 : AFun := ⟨15, [.tmp 2, .tmp 3], f13_1⟩
theorem k_f13 : compF Go.Proofs.Try.prog x_f13 13 = some c_f13 := by kernel_rfl
theorem e_f13 : enterB Go.Proofs.Try.prog 13 = true := by kernel_rfl

def n_f14 : Nat := 14
def x_f14 : Cx := ⟨some, id, 142, fun s => ([0, 1, 2, 3, 4, 5, 6, 7, 8, 9, 10, 11, 12, 13, 14, 15, 16, 17, 18, 19, 20, 21, 22, 23, 24, 25, 26, 27, 28, 29, 30, 31, 32, 33, 34, 35, 36, 37, 38, 39, 40, 41, 42, 43, 44, 45, 46, 48, 49, 50, 51, 52, 53, 54, 55, 56, 57, 58, 59, 60, 61, 62, 63, 64, 65, 66, 67, 68, 69, 70, 71, 72, 73, 74, 75, 76, 77, 78, 79, 81, 82, 83, 84, 85, 86, 87, 88, 89, 90, 91, 92, 93, 94, 95, 96, 97, 98, 99, 100, 101, 102, 103, 104, 105, 106, 107, 108, 109, 110, 111, 112, 113, 114, 115, 116, 117, 118, 119, 120, 121, 122, 123, 124, 125, 126, 128, 129, 131, 132, 133, 135, 136, 137, 138, 139, 140, 141] : List Nat).contains s, fun s => ([] : List Nat).contains s, msOf [(2, [], []), (6, [1, 2], []), (28, [1, 47], []), (116, [0], []), (60, [1, 80], []), (244, [0], []), (62, [1, 2, 3], []), (126, [1, 2, 3, 4, 5], []), (508, [127], []), (2036, [0], []), (510, [2], []), (1022, [2, 5], []), (2046, [0], [])]⟩
def f14_2l : List GI := [⟨none, .mv (some 0) (.c (.lit (.bool false)))⟩]
def f14_2 : AC := .ops [] [] f14_2l
theorem f14_2e : aC P id m f14_2 sf st Q = runI P id m f14_2l (opsK [] [] Q) sf st := rfl
def f14_4l : List GI := [⟨none, .call (some 7) false (.f 13) [(.c (.lit (.int .i64 2)))]⟩,
    vv 6 7,
    ve 8 6 0,
    ve 9 6 1,
    vo 1 8,
    vo 2 9]
def f14_4 : AC := .ops [1, 2] [] f14_4l
theorem f14_4e : aC P id m f14_4 sf st Q = runI P id m f14_4l (opsK [1, 2] [] Q) sf st := rfl
def f14_7l : List GI := [vv 10 1,
    ⟨none, .bin (some 11) (.nil .ptr) .eql (.r 10) (.c (.lit (.pointer none)))⟩,
    vv 12 11,
    ⟨some (12, false), .mv (some 13) (.r 2)⟩,
    ⟨some (12, false), .bin (some 14) .num .neq (.r 13) (.c (.lit (.int .i64 0)))⟩,
    ⟨none, .pick (some 15) (.r 12) (.c (.lit (.bool true))) (.r 14)⟩,
    vv 16 15,
    ⟨some (16, false), .mv (some 17) (.r 1)⟩,
    ⟨some (16, false), .call (some 18) false (.f 16) [(.r 17), (.c (.lit (.int .i64 5)))]⟩,
    ⟨some (16, false), .bin (some 19) .num .neq (.r 18) (.c (.lit (.int .i64 0)))⟩,
    ⟨none, .pick (some 20) (.r 16) (.c (.lit (.bool true))) (.r 19)⟩,
    vv 21 20,
    ⟨some (21, false), .mv (some 22) (.r 1)⟩,
    ⟨some (21, false), .call (some 23) false (.f 16) [(.r 22), (.c (.lit (.int .i64 5)))]⟩,
    ⟨some (21, false), .bin (some 24) .num .neq (.r 23) (.c (.lit (.int .i64 11)))⟩,
    ⟨none, .pick (some 25) (.r 21) (.c (.lit (.bool true))) (.r 24)⟩,
    vv 26 25,
    ⟨some (26, false), .mv (some 27) (.r 1)⟩,
    ⟨some (26, false), .call (some 28) false (.f 16) [(.r 27), (.c (.lit (.int .i64 3)))]⟩,
    ⟨some (26, false), .bin (some 29) .num .neq (.r 28) (.c (.lit (.int .i64 0)))⟩,
    ⟨none, .pick (some 30) (.r 26) (.c (.lit (.bool true))) (.r 29)⟩,
    vv 31 30,
    ⟨some (31, false), .mv (some 32) (.r 1)⟩,
    ⟨some (31, false), .call (some 33) false (.f 16) [(.r 32), (.c (.lit (.int .i64 4)))]⟩,
    ⟨some (31, false), .bin (some 34) .num .neq (.r 33) (.c (.lit (.int .i64 7)))⟩,
    ⟨none, .pick (some 35) (.r 31) (.c (.lit (.bool true))) (.r 34)⟩,
    vv 36 35,
    ⟨some (36, false), .mv (some 37) (.r 1)⟩,
    ⟨some (36, false), .call (some 38) false (.f 19) [(.r 37)]⟩,
    ⟨some (36, false), .bsl (some 39) 1 2 (.lit (.int .i64 0)) [(0, (.c (.lit (.int .i64 5)))), (1, (.c (.lit (.int .i64 3))))]⟩,
    ⟨some (36, false), .call (some 40) false (.f 25) [(.r 38), (.r 39)]⟩,
    ⟨some (36, false), .un (some 41) .not (.r 40)⟩,
    ⟨none, .pick (some 42) (.r 36) (.c (.lit (.bool true))) (.r 41)⟩,
    vv 43 42,
    ⟨some (43, false), .mv (some 44) (.r 1)⟩,
    ⟨some (43, false), .call (some 45) false (.f 17) [(.r 44)]⟩,
    ⟨some (43, false), .bin (some 46) .num .neq (.r 45) (.c (.lit (.int .i64 0)))⟩,
    ⟨none, .pick (some 47) (.r 43) (.c (.lit (.bool true))) (.r 46)⟩]
def f14_7 : AC := .ops [1, 47] [] f14_7l
theorem f14_7e : aC P id m f14_7 sf st Q = runI P id m f14_7l (opsK [1, 47] [] Q) sf st := rfl
def f14_10l : List GI := [⟨none, .mv (some 0) (.c (.lit (.bool false)))⟩]
def f14_10 : AC := .ops [0] [] f14_10l
theorem f14_10e : aC P id m f14_10 sf st Q = runI P id m f14_10l (opsK [0] [] Q) sf st := rfl
def f14_9 : AC := .seq f14_10 .ret
theorem f14_9e : aC P id m f14_9 sf st Q = aC P id m f14_10 sf st (seqQ (aC P id m .ret) Q) := rfl
def f14_8 : AC := .cond (.r 47) f14_9 .skip
theorem f14_8e : aC P id m f14_8 sf st Q = condI (.r 47) (sf.ev id (.r 47)) (aC P id m f14_9) (aC P id m .skip) sf st Q := rfl
def f14_6 : AC := .seq f14_7 f14_8
theorem f14_6e : aC P id m f14_6 sf st Q = aC P id m f14_7 sf st (seqQ (aC P id m f14_8) Q) := rfl
def f14_13l : List GI := [vv 48 1,
    ⟨none, .call (some 49) false (.f 18) [(.r 48), (.c (.lit (.int .i64 5))), (.c (.lit (.int .i64 0)))]⟩,
    ⟨none, .un (some 50) .not (.r 49)⟩,
    vv 51 50,
    ⟨some (51, false), .mv (some 52) (.r 1)⟩,
    ⟨some (51, false), .call (some 53) false (.f 22) [(.r 52), (.c (.lit (.int .i64 5)))]⟩,
    ⟨some (51, false), .bin (some 54) .num .neq (.r 53) (.c (.lit (.int .i64 9)))⟩,
    ⟨none, .pick (some 55) (.r 51) (.c (.lit (.bool true))) (.r 54)⟩,
    vv 56 55,
    ⟨some (56, false), .mv (some 57) (.r 1)⟩,
    ⟨some (56, false), .call (some 58) false (.f 22) [(.r 57), (.c (.lit (.int .i64 3)))]⟩,
    ⟨some (56, false), .bin (some 59) .num .neq (.r 58) (.c (.lit (.int .i64 0)))⟩,
    ⟨none, .pick (some 60) (.r 56) (.c (.lit (.bool true))) (.r 59)⟩,
    vv 61 60,
    ⟨some (61, false), .mv (some 62) (.r 1)⟩,
    ⟨some (61, false), .call (some 63) false (.f 18) [(.r 62), (.c (.lit (.int .i64 0))), (.c (.lit (.int .i64 16)))]⟩,
    ⟨some (61, false), .un (some 64) .not (.r 63)⟩,
    ⟨none, .pick (some 65) (.r 61) (.c (.lit (.bool true))) (.r 64)⟩,
    vv 66 65,
    ⟨some (66, false), .mv (some 67) (.r 1)⟩,
    ⟨some (66, false), .call (some 68) false (.f 17) [(.r 67)]⟩,
    ⟨some (66, false), .bin (some 69) .num .neq (.r 68) (.c (.lit (.int .i64 2)))⟩,
    ⟨none, .pick (some 70) (.r 66) (.c (.lit (.bool true))) (.r 69)⟩,
    vv 71 70,
    ⟨some (71, false), .mv (some 72) (.r 1)⟩,
    ⟨some (71, false), .call (some 73) false (.f 16) [(.r 72), (.c (.lit (.int .i64 (-1))))]⟩,
    ⟨some (71, false), .bin (some 74) .num .neq (.r 73) (.c (.lit (.int .i64 2)))⟩,
    ⟨none, .pick (some 75) (.r 71) (.c (.lit (.bool true))) (.r 74)⟩,
    vv 76 75,
    ⟨some (76, false), .mv (some 77) (.r 1)⟩,
    ⟨some (76, false), .call (some 78) false (.f 16) [(.r 77), (.c (.lit (.int .i64 9)))]⟩,
    ⟨some (76, false), .bin (some 79) .num .neq (.r 78) (.c (.lit (.int .i64 0)))⟩,
    ⟨none, .pick (some 80) (.r 76) (.c (.lit (.bool true))) (.r 79)⟩]
def f14_13 : AC := .ops [1, 80] [] f14_13l
theorem f14_13e : aC P id m f14_13 sf st Q = runI P id m f14_13l (opsK [1, 80] [] Q) sf st := rfl
def f14_16l : List GI := [⟨none, .mv (some 0) (.c (.lit (.bool false)))⟩]
def f14_16 : AC := .ops [0] [] f14_16l
theorem f14_16e : aC P id m f14_16 sf st Q = runI P id m f14_16l (opsK [0] [] Q) sf st := rfl
def f14_15 : AC := .seq f14_16 .ret
theorem f14_15e : aC P id m f14_15 sf st Q = aC P id m f14_16 sf st (seqQ (aC P id m .ret) Q) := rfl
def f14_14 : AC := .cond (.r 80) f14_15 .skip
theorem f14_14e : aC P id m f14_14 sf st Q = condI (.r 80) (sf.ev id (.r 80)) (aC P id m f14_15) (aC P id m .skip) sf st Q := rfl
def f14_12 : AC := .seq f14_13 f14_14
theorem f14_12e : aC P id m f14_12 sf st Q = aC P id m f14_13 sf st (seqQ (aC P id m f14_14) Q) := rfl
def f14_18l : List GI := [vv 82 1,
    ⟨none, .call (some 83) false (.f 24) [(.r 82)]⟩,
    vv 81 83,
    ve 84 81 0,
    ve 85 81 1,
    vo 3 84,
    vo 2 85]
def f14_18 : AC := .ops [1, 2, 3] [] f14_18l
theorem f14_18e : aC P id m f14_18 sf st Q = runI P id m f14_18l (opsK [1, 2, 3] [] Q) sf st := rfl
def f14_20l : List GI := [vv 87 1,
    ⟨none, .call (some 88) false (.f 24) [(.r 87)]⟩,
    vv 86 88,
    ve 89 86 0,
    ve 90 86 1,
    vo 4 89,
    vo 5 90]
def f14_20 : AC := .ops [1, 2, 3, 4, 5] [] f14_20l
theorem f14_20e : aC P id m f14_20 sf st Q = runI P id m f14_20l (opsK [1, 2, 3, 4, 5] [] Q) sf st := rfl
def f14_23l : List GI := [vv 91 3,
    ⟨none, .bsl (some 92) 1 1 (.lit (.int .i64 0)) [(0, (.c (.lit (.int .i64 9))))]⟩,
    ⟨none, .call (some 93) false (.f 25) [(.r 91), (.r 92)]⟩,
    ⟨none, .un (some 94) .not (.r 93)⟩,
    vv 95 94,
    ⟨some (95, false), .mv (some 96) (.r 2)⟩,
    ⟨some (95, false), .bin (some 97) .num .neq (.r 96) (.c (.lit (.int .i64 0)))⟩,
    ⟨none, .pick (some 98) (.r 95) (.c (.lit (.bool true))) (.r 97)⟩,
    vv 99 98,
    ⟨some (99, false), .mv (some 100) (.r 4)⟩,
    ⟨some (99, false), .len (some 101) .sl (.r 100)⟩,
    ⟨some (99, false), .bin (some 102) .num .neq (.r 101) (.c (.lit (.int .i64 0)))⟩,
    ⟨none, .pick (some 103) (.r 99) (.c (.lit (.bool true))) (.r 102)⟩,
    vv 104 103,
    ⟨some (104, false), .mv (some 105) (.r 5)⟩,
    ⟨some (104, false), .bin (some 106) .num .neq (.r 105) (.c (.lit (.int .i64 14)))⟩,
    ⟨none, .pick (some 107) (.r 104) (.c (.lit (.bool true))) (.r 106)⟩,
    vv 108 107,
    ⟨some (108, false), .mv (some 109) (.r 1)⟩,
    ⟨some (108, false), .call (some 110) false (.f 16) [(.r 109), (.c (.lit (.int .i64 1)))]⟩,
    ⟨some (108, false), .bin (some 111) .num .neq (.r 110) (.c (.lit (.int .i64 14)))⟩,
    ⟨none, .pick (some 112) (.r 108) (.c (.lit (.bool true))) (.r 111)⟩,
    vv 113 112,
    ⟨some (113, false), .mv (some 114) (.r 1)⟩,
    ⟨some (113, false), .call (some 115) false (.f 18) [(.r 114), (.c (.lit (.int .i64 0))), (.c (.lit (.int .i64 14)))]⟩,
    ⟨some (113, false), .un (some 116) .not (.r 115)⟩,
    ⟨none, .pick (some 117) (.r 113) (.c (.lit (.bool true))) (.r 116)⟩,
    vv 118 117,
    ⟨some (118, false), .mv (some 119) (.r 1)⟩,
    ⟨some (118, false), .call (some 120) false (.f 17) [(.r 119)]⟩,
    ⟨some (118, false), .bin (some 121) .num .neq (.r 120) (.c (.lit (.int .i64 0)))⟩,
    ⟨none, .pick (some 122) (.r 118) (.c (.lit (.bool true))) (.r 121)⟩,
    vv 123 122,
    ⟨some (123, false), .mv (some 124) (.r 1)⟩,
    ⟨some (123, false), .call (some 125) false (.f 26) [(.r 124)]⟩,
    ⟨some (123, false), .bin (some 126) .num .neq (.r 125) (.c (.lit (.int .i64 2)))⟩,
    ⟨none, .pick (some 127) (.r 123) (.c (.lit (.bool true))) (.r 126)⟩]
def f14_23 : AC := .ops [127] [] f14_23l
theorem f14_23e : aC P id m f14_23 sf st Q = runI P id m f14_23l (opsK [127] [] Q) sf st := rfl
def f14_26l : List GI := [⟨none, .mv (some 0) (.c (.lit (.bool false)))⟩]
def f14_26 : AC := .ops [0] [] f14_26l
theorem f14_26e : aC P id m f14_26 sf st Q = runI P id m f14_26l (opsK [0] [] Q) sf st := rfl
def f14_25 : AC := .seq f14_26 .ret
theorem f14_25e : aC P id m f14_25 sf st Q = aC P id m f14_26 sf st (seqQ (aC P id m .ret) Q) := rfl
def f14_24 : AC := .cond (.r 127) f14_25 .skip
theorem f14_24e : aC P id m f14_24 sf st Q = condI (.r 127) (sf.ev id (.r 127)) (aC P id m f14_25) (aC P id m .skip) sf st Q := rfl
def f14_22 : AC := .seq f14_23 f14_24
theorem f14_22e : aC P id m f14_22 sf st Q = aC P id m f14_23 sf st (seqQ (aC P id m f14_24) Q) := rfl
def f14_28l : List GI := [⟨none, .call (some 129) false (.f 13) [(.c (.lit (.int .i64 0)))]⟩,
    vv 128 129,
    ve 130 128 0,
    ve 131 128 1,
    vo 2 131]
def f14_28 : AC := .ops [2] [] f14_28l
theorem f14_28e : aC P id m f14_28 sf st Q = runI P id m f14_28l (opsK [2] [] Q) sf st := rfl
def f14_30l : List GI := [⟨none, .call (some 133) false (.f 13) [(.c (.lit (.int .i64 129)))]⟩,
    vv 132 133,
    ve 134 132 0,
    ve 135 132 1,
    vo 5 135]
def f14_30 : AC := .ops [2, 5] [] f14_30l
theorem f14_30e : aC P id m f14_30 sf st Q = runI P id m f14_30l (opsK [2, 5] [] Q) sf st := rfl
def f14_32l : List GI := [vv 136 2,
    vb 137 .eql 136 2,
    vv 138 137,
    ⟨some (138, true), .mv (some 139) (.r 5)⟩,
    ⟨some (138, true), .bin (some 140) .num .eql (.r 139) (.c (.lit (.int .i64 2)))⟩,
    ⟨none, .pick (some 141) (.r 138) (.r 140) (.c (.lit (.bool false)))⟩,
    vo 0 141]
def f14_32 : AC := .ops [0] [] f14_32l
theorem f14_32e : aC P id m f14_32 sf st Q = runI P id m f14_32l (opsK [0] [] Q) sf st := rfl
def f14_31 : AC := .seq f14_32 .ret
theorem f14_31e : aC P id m f14_31 sf st Q = aC P id m f14_32 sf st (seqQ (aC P id m .ret) Q) := rfl
def f14_29 : AC := .seq f14_30 f14_31
theorem f14_29e : aC P id m f14_29 sf st Q = aC P id m f14_30 sf st (seqQ (aC P id m f14_31) Q) := rfl
def f14_27 : AC := .seq f14_28 f14_29
theorem f14_27e : aC P id m f14_27 sf st Q = aC P id m f14_28 sf st (seqQ (aC P id m f14_29) Q) := rfl
def f14_21 : AC := .seq f14_22 f14_27
theorem f14_21e : aC P id m f14_21 sf st Q = aC P id m f14_22 sf st (seqQ (aC P id m f14_27) Q) := rfl
def f14_19 : AC := .seq f14_20 f14_21
theorem f14_19e : aC P id m f14_19 sf st Q = aC P id m f14_20 sf st (seqQ (aC P id m f14_21) Q) := rfl
def f14_17 : AC := .seq f14_18 f14_19
theorem f14_17e : aC P id m f14_17 sf st Q = aC P id m f14_18 sf st (seqQ (aC P id m f14_19) Q) := rfl
def f14_11 : AC := .seq f14_12 f14_17
theorem f14_11e : aC P id m f14_11 sf st Q = aC P id m f14_12 sf st (seqQ (aC P id m f14_17) Q) := rfl
def f14_5 : AC := .seq f14_6 f14_11
theorem f14_5e : aC P id m f14_5 sf st Q = aC P id m f14_6 sf st (seqQ (aC P id m f14_11) Q) := rfl
def f14_3 : AC := .seq f14_4 f14_5
theorem f14_3e : aC P id m f14_3 sf st Q = aC P id m f14_4 sf st (seqQ (aC P id m f14_5) Q) := rfl
def f14_1 : AC := .seq f14_2 f14_3
theorem f14_1e : aC P id m f14_1 sf st Q = aC P id m f14_2 sf st (seqQ (aC P id m f14_3) Q) := rfl
def c_f14 : AFun := ⟨142, [.tmp 0], f14_1⟩
theorem k_f14 : compF Go.Proofs.Try.prog x_f14 14 = some c_f14 := by kernel_rfl
theorem e_f14 : enterB Go.Proofs.Try.prog 14 = true := by kernel_rfl

def n_f15 : Nat := 15
def x_f15 : Cx := ⟨some, id, 32, fun s => ([0, 1, 4, 5, 7, 9, 10, 11, 14, 15, 17, 18, 19, 20, 21, 23, 24, 25, 26, 27, 28, 29, 30, 31] : List Nat).contains s, fun s => ([15] : List Nat).contains s, msOf [(2, [0, 3], [3]), (6, [0, 3, 5], [3]), (28, [0, 3, 5, 13], [3]), (58, [0, 3, 5], [3]), (30, [4], [])]⟩
def f15_2l : List GI := [⟨none, .boxL 3 3 (.r 1)⟩,
    ⟨none, .mv (some 4) (.c (.lit (.bool false)))⟩]
def f15_2 : AC := .ops [0, 3] [3] f15_2l
theorem f15_2e : aC P id m f15_2 sf st Q = runI P id m f15_2l (opsK [0, 3] [3] Q) sf st := rfl
def f15_4l : List GI := [vd 6 3 0,
    vl 7 6,
    vd 8 3 1,
    vl 9 8,
    ⟨none, .len (some 10) .sl (.r 9)⟩,
    ⟨none, .bin (some 11) .num .sub (.r 7) (.r 10)⟩,
    vo 5 11]
def f15_4 : AC := .ops [0, 3, 5] [3] f15_4l
theorem f15_4e : aC P id m f15_4 sf st Q = runI P id m f15_4l (opsK [0, 3, 5] [3] Q) sf st := rfl
def f15_7l : List GI := [vd 12 3 2,
    vl 13 12]
def f15_7 : AC := .ops [0, 3, 5, 13] [3] f15_7l
theorem f15_7e : aC P id m f15_7 sf st Q = runI P id m f15_7l (opsK [0, 3, 5, 13] [3] Q) sf st := rfl
def f15_9l : List GI := [⟨none, .mv (some 5) (.c (.lit (.int .i64 0)))⟩]
def f15_9 : AC := .ops [0, 3, 5] [3] f15_9l
theorem f15_9e : aC P id m f15_9 sf st Q = runI P id m f15_9l (opsK [0, 3, 5] [3] Q) sf st := rfl
def f15_8 : AC := .cond (.r 13) f15_9 .skip
theorem f15_8e : aC P id m f15_8 sf st Q = condI (.r 13) (sf.ev id (.r 13)) (aC P id m f15_9) (aC P id m .skip) sf st Q := rfl
def f15_6 : AC := .seq f15_7 f15_8
theorem f15_6e : aC P id m f15_6 sf st Q = aC P id m f15_7 sf st (seqQ (aC P id m f15_8) Q) := rfl
def f15_11h : List GI := [vv 14 0]
def f15_11p : List (Bool × GI) := [(false, vd 16 3 1),
    (false, vl 17 16),
    (true, ⟨none, .call (some 18) true (.f 25) [(.r 15), (.r 17)]⟩),
    (true, vv 19 18),
    (true, ⟨some (19, true), .mv (some 20) (.r 0)⟩),
    (true, ⟨some (19, true), .call (some 21) true (.f 26) [(.r 20)]⟩),
    (true, ⟨some (19, true), .addr (some 22) (.r 3) 0⟩),
    (true, ⟨some (19, true), .load (some 23) (.r 22) none⟩),
    (true, ⟨some (19, true), .bin (some 24) .num .eql (.r 21) (.r 23)⟩),
    (true, ⟨none, .pick (some 25) (.r 19) (.r 24) (.c (.lit (.bool false)))⟩),
    (true, vv 26 25),
    (true, ⟨some (26, true), .mv (some 27) (.r 0)⟩),
    (true, ⟨some (26, true), .call (some 28) true (.f 17) [(.r 27)]⟩),
    (true, ⟨some (26, true), .mv (some 29) (.r 5)⟩)]
def f15_11l : List GI := [⟨some (26, true), .bin (some 30) .num .eql (.r 28) (.r 29)⟩,
    ⟨none, .pick (some 31) (.r 26) (.r 30) (.c (.lit (.bool false)))⟩,
    vo 4 31]
def f15_11 : AC := .drawM [4] [] f15_11h (some 15) (.f 19) [(.r 14)] f15_11p f15_11l
theorem f15_11e : aC P id m f15_11 sf st Q = (m = false ∧ drawM P id f15_11h (some 15) (.f 19) [(.r 14)] f15_11p sf st (tailM P id m [4] [] f15_11l Q)) := rfl
def f15_10 : AC := .seq f15_11 .ret
theorem f15_10e : aC P id m f15_10 sf st Q = aC P id m f15_11 sf st (seqQ (aC P id m .ret) Q) := rfl
def f15_5 : AC := .seq f15_6 f15_10
theorem f15_5e : aC P id m f15_5 sf st Q = aC P id m f15_6 sf st (seqQ (aC P id m f15_10) Q) := rfl
def f15_3 : AC := .seq f15_4 f15_5
theorem f15_3e : aC P id m f15_3 sf st Q = aC P id m f15_4 sf st (seqQ (aC P id m f15_5) Q) := rfl
def f15_1 : AC := .seq f15_2 f15_3
theorem f15_1e : aC P id m f15_1 sf st Q = aC P id m f15_2 sf st (seqQ (aC P id m f15_3) Q) := rfl
def c_f15 : AFun := ⟨32, [.tmp 4], f15_1⟩
theorem k_f15 : compF Go.Proofs.Try.prog x_f15 15 = some c_f15 := by kernel_rfl
theorem e_f15 : enterB Go.Proofs.Try.prog 15 = true := by kernel_rfl

def n_f16 : Nat := 16
def x_f16 : Cx := ⟨some, id, 56, fun s => ([0, 1, 4, 7, 8, 10, 11, 13, 14, 19, 20, 24, 25, 26, 27, 28, 33, 34, 38, 40, 44, 45, 46, 47, 48, 52, 53, 54, 55] : List Nat).contains s, fun s => ([] : List Nat).contains s, msOf [(2, [0, 1], []), (24, [0, 1, 9], []), (100, [4], []), (102, [0, 1, 12], []), (412, [4], []), (414, [0, 1, 15], []), (1660, [4], []), (28, [0, 1, 6], []), (58, [0, 1, 29], []), (236, [4], []), (60, [0, 1, 39], []), (244, [4], []), (62, [0, 1, 7, 8], []), (126, [8], []), (254, [4], [])]⟩
def f16_2l : List GI := [⟨none, .mv (some 4) (.c (.lit (.int .i64 0)))⟩]
def f16_2 : AC := .ops [0, 1] [] f16_2l
theorem f16_2e : aC P id m f16_2 sf st Q = runI P id m f16_2l (opsK [0, 1] [] Q) sf st := rfl
def f16_6l : List GI := [vv 10 0,
    ⟨none, .call (some 11) false (.f 46) [(.r 10)]⟩,
    vo 9 11]
def f16_6 : AC := .ops [0, 1, 9] [] f16_6l
theorem f16_6e : aC P id m f16_6 sf st Q = runI P id m f16_6l (opsK [0, 1, 9] [] Q) sf st := rfl
def f16_9l : List GI := [⟨none, .mv (some 4) (.c (.lit (.int .i64 1)))⟩]
def f16_9 : AC := .ops [4] [] f16_9l
theorem f16_9e : aC P id m f16_9 sf st Q = runI P id m f16_9l (opsK [4] [] Q) sf st := rfl
def f16_8 : AC := .seq f16_9 .ret
theorem f16_8e : aC P id m f16_8 sf st Q = aC P id m f16_9 sf st (seqQ (aC P id m .ret) Q) := rfl
def f16_11l : List GI := [vv 13 1,
    vb 14 .lss 13 0,
    vo 12 14]
def f16_11 : AC := .ops [0, 1, 12] [] f16_11l
theorem f16_11e : aC P id m f16_11 sf st Q = runI P id m f16_11l (opsK [0, 1, 12] [] Q) sf st := rfl
def f16_14l : List GI := [⟨none, .mv (some 4) (.c (.lit (.int .i64 2)))⟩]
def f16_14 : AC := .ops [4] [] f16_14l
theorem f16_14e : aC P id m f16_14 sf st Q = runI P id m f16_14l (opsK [4] [] Q) sf st := rfl
def f16_13 : AC := .seq f16_14 .ret
theorem f16_13e : aC P id m f16_13 sf st Q = aC P id m f16_14 sf st (seqQ (aC P id m .ret) Q) := rfl
def f16_16l : List GI := [vv 16 0,
    vn 17 16,
    vd 18 17 2,
    vl 19 18,
    vo 15 19]
def f16_16 : AC := .ops [0, 1, 15] [] f16_16l
theorem f16_16e : aC P id m f16_16 sf st Q = runI P id m f16_16l (opsK [0, 1, 15] [] Q) sf st := rfl
def f16_19l : List GI := [⟨none, .mv (some 4) (.c (.lit (.int .i64 14)))⟩]
def f16_19 : AC := .ops [4] [] f16_19l
theorem f16_19e : aC P id m f16_19 sf st Q = runI P id m f16_19l (opsK [4] [] Q) sf st := rfl
def f16_18 : AC := .seq f16_19 .ret
theorem f16_18e : aC P id m f16_18 sf st Q = aC P id m f16_19 sf st (seqQ (aC P id m .ret) Q) := rfl
def f16_17 : AC := .cond (.r 15) f16_18 .skip
theorem f16_17e : aC P id m f16_17 sf st Q = condI (.r 15) (sf.ev id (.r 15)) (aC P id m f16_18) (aC P id m .skip) sf st Q := rfl
def f16_15 : AC := .seq f16_16 f16_17
theorem f16_15e : aC P id m f16_15 sf st Q = aC P id m f16_16 sf st (seqQ (aC P id m f16_17) Q) := rfl
def f16_12 : AC := .cond (.r 12) f16_13 f16_15
theorem f16_12e : aC P id m f16_12 sf st Q = condI (.r 12) (sf.ev id (.r 12)) (aC P id m f16_13) (aC P id m f16_15) sf st Q := rfl
def f16_10 : AC := .seq f16_11 f16_12
theorem f16_10e : aC P id m f16_10 sf st Q = aC P id m f16_11 sf st (seqQ (aC P id m f16_12) Q) := rfl
def f16_7 : AC := .cond (.r 9) f16_8 f16_10
theorem f16_7e : aC P id m f16_7 sf st Q = condI (.r 9) (sf.ev id (.r 9)) (aC P id m f16_8) (aC P id m f16_10) sf st Q := rfl
def f16_5 : AC := .seq f16_6 f16_7
theorem f16_5e : aC P id m f16_5 sf st Q = aC P id m f16_6 sf st (seqQ (aC P id m f16_7) Q) := rfl
def f16_4 : AC := .block 0 f16_5
theorem f16_4e : aC P id m f16_4 sf st Q = aC P id m f16_5 sf st (blockQ 0 Q) := rfl
def f16_22l : List GI := [vv 21 0,
    vn 22 21,
    vd 23 22 3,
    vl 24 23,
    vv 25 1,
    ⟨none, .lookup (some 26) (.int .i64) (.lit (.int .u64 0)) true (.r 24) (.r 25)⟩,
    vv 20 26,
    ve 27 20 0,
    ve 28 20 1,
    vo 5 27,
    vo 6 28]
def f16_22 : AC := .ops [0, 1, 6] [] f16_22l
theorem f16_22e : aC P id m f16_22 sf st Q = runI P id m f16_22l (opsK [0, 1, 6] [] Q) sf st := rfl
def f16_24l : List GI := [vv 29 6]
def f16_24 : AC := .ops [0, 1, 29] [] f16_24l
theorem f16_24e : aC P id m f16_24 sf st Q = runI P id m f16_24l (opsK [0, 1, 29] [] Q) sf st := rfl
def f16_27l : List GI := [⟨none, .mv (some 4) (.c (.lit (.int .i64 11)))⟩]
def f16_27 : AC := .ops [4] [] f16_27l
theorem f16_27e : aC P id m f16_27 sf st Q = runI P id m f16_27l (opsK [4] [] Q) sf st := rfl
def f16_26 : AC := .seq f16_27 .ret
theorem f16_26e : aC P id m f16_26 sf st Q = aC P id m f16_27 sf st (seqQ (aC P id m .ret) Q) := rfl
def f16_25 : AC := .cond (.r 29) f16_26 .skip
theorem f16_25e : aC P id m f16_25 sf st Q = condI (.r 29) (sf.ev id (.r 29)) (aC P id m f16_26) (aC P id m .skip) sf st Q := rfl
def f16_23 : AC := .seq f16_24 f16_25
theorem f16_23e : aC P id m f16_23 sf st Q = aC P id m f16_24 sf st (seqQ (aC P id m f16_25) Q) := rfl
def f16_21 : AC := .seq f16_22 f16_23
theorem f16_21e : aC P id m f16_21 sf st Q = aC P id m f16_22 sf st (seqQ (aC P id m f16_23) Q) := rfl
def f16_30h : List GI := [vv 30 0,
    vn 31 30,
    vd 32 31 0,
    vl 33 32,
    ⟨none, .call (some 34) true (.f 47) [(.r 33)]⟩,
    vv 35 0,
    vn 36 35,
    vd 37 36 1,
    vl 38 37]
def f16_30l : List GI := [⟨none, .bin (some 39) .num .eql (.r 34) (.r 38)⟩]
def f16_30 : AC := .draw [0, 1, 39] [] [] f16_30h f16_30l
theorem f16_30e : aC P id m f16_30 sf st Q = headI P id sf.locs st f16_30h (tailK P id m [] [0, 1, 39] [] f16_30l Q st) [] ⟨sf.regs, dropL [] sf.locs⟩ := rfl
def f16_33l : List GI := [⟨none, .mv (some 4) (.c (.lit (.int .i64 7)))⟩]
def f16_33 : AC := .ops [4] [] f16_33l
theorem f16_33e : aC P id m f16_33 sf st Q = runI P id m f16_33l (opsK [4] [] Q) sf st := rfl
def f16_32 : AC := .seq f16_33 .ret
theorem f16_32e : aC P id m f16_32 sf st Q = aC P id m f16_33 sf st (seqQ (aC P id m .ret) Q) := rfl
def f16_31 : AC := .cond (.r 39) f16_32 .skip
theorem f16_31e : aC P id m f16_31 sf st Q = condI (.r 39) (sf.ev id (.r 39)) (aC P id m f16_32) (aC P id m .skip) sf st Q := rfl
def f16_29 : AC := .seq f16_30 f16_31
theorem f16_29e : aC P id m f16_29 sf st Q = aC P id m f16_30 sf st (seqQ (aC P id m f16_31) Q) := rfl
def f16_35l : List GI := [vv 41 0,
    vn 42 41,
    vd 43 42 0,
    vl 44 43,
    vv 45 1,
    ⟨none, .call (some 46) false (.f 48) [(.r 44), (.r 45)]⟩,
    vv 40 46,
    ve 47 40 0,
    ve 48 40 1,
    vo 7 47,
    vo 8 48]
def f16_35 : AC := .ops [0, 1, 7, 8] [] f16_35l
theorem f16_35e : aC P id m f16_35 sf st Q = runI P id m f16_35l (opsK [0, 1, 7, 8] [] Q) sf st := rfl
def f16_37l : List GI := [vv 49 0,
    vn 50 49,
    vd 51 50 3,
    vl 52 51,
    vv 53 1,
    vv 54 7,
    ⟨none, .upd (.int .i64) (.r 52) (.r 53) (.r 54)⟩]
def f16_37 : AC := .ops [8] [] f16_37l
theorem f16_37e : aC P id m f16_37 sf st Q = runI P id m f16_37l (opsK [8] [] Q) sf st := rfl
def f16_39l : List GI := [vv 55 8,
    vo 4 55]
def f16_39 : AC := .ops [4] [] f16_39l
theorem f16_39e : aC P id m f16_39 sf st Q = runI P id m f16_39l (opsK [4] [] Q) sf st := rfl
def f16_38 : AC := .seq f16_39 .ret
theorem f16_38e : aC P id m f16_38 sf st Q = aC P id m f16_39 sf st (seqQ (aC P id m .ret) Q) := rfl
def f16_36 : AC := .seq f16_37 f16_38
theorem f16_36e : aC P id m f16_36 sf st Q = aC P id m f16_37 sf st (seqQ (aC P id m f16_38) Q) := rfl
def f16_34 : AC := .seq f16_35 f16_36
theorem f16_34e : aC P id m f16_34 sf st Q = aC P id m f16_35 sf st (seqQ (aC P id m f16_36) Q) := rfl
def f16_28 : AC := .seq f16_29 f16_34
theorem f16_28e : aC P id m f16_28 sf st Q = aC P id m f16_29 sf st (seqQ (aC P id m f16_34) Q) := rfl
def f16_20 : AC := .seq f16_21 f16_28
theorem f16_20e : aC P id m f16_20 sf st Q = aC P id m f16_21 sf st (seqQ (aC P id m f16_28) Q) := rfl
def f16_3 : AC := .seq f16_4 f16_20
theorem f16_3e : aC P id m f16_3 sf st Q = aC P id m f16_4 sf st (seqQ (aC P id m f16_20) Q) := rfl
def f16_1 : AC := .seq f16_2 f16_3
theorem f16_1e : aC P id m f16_1 sf st Q = aC P id m f16_2 sf st (seqQ (aC P id m f16_3) Q) := rfl
def c_f16 : AFun := ⟨56, [.tmp 4], f16_1⟩
theorem k_f16 : compF Go.Proofs.Try.prog x_f16 16 = some c_f16 := by kernel_rfl
theorem e_f16 : enterB Go.Proofs.Try.prog 16 = true := by kernel_rfl

def n_f17 : Nat := 17
def x_f17 : Cx := ⟨some, id, 21, fun s => ([0, 2, 3, 4, 5, 9, 14, 18, 19, 20] : List Nat).contains s, fun s => ([] : List Nat).contains s, msOf [(2, [0], []), (12, [0, 10], []), (52, [2], []), (14, [2], [])]⟩
def f17_2l : List GI := [⟨none, .mv (some 2) (.c (.lit (.int .i64 0)))⟩]
def f17_2 : AC := .ops [0] [] f17_2l
theorem f17_2e : aC P id m f17_2 sf st Q = runI P id m f17_2l (opsK [0] [] Q) sf st := rfl
def f17_5l : List GI := [vv 3 0,
    ⟨none, .call (some 4) false (.f 46) [(.r 3)]⟩,
    vv 5 4,
    ⟨some (5, false), .mv (some 6) (.r 0)⟩,
    ⟨some (5, false), .nilck (some 7) (.r 6)⟩,
    ⟨some (5, false), .addr (some 8) (.r 7) 2⟩,
    ⟨some (5, false), .load (some 9) (.r 8) none⟩,
    ⟨none, .pick (some 10) (.r 5) (.c (.lit (.bool true))) (.r 9)⟩]
def f17_5 : AC := .ops [0, 10] [] f17_5l
theorem f17_5e : aC P id m f17_5 sf st Q = runI P id m f17_5l (opsK [0, 10] [] Q) sf st := rfl
def f17_8l : List GI := [⟨none, .mv (some 2) (.c (.lit (.int .i64 0)))⟩]
def f17_8 : AC := .ops [2] [] f17_8l
theorem f17_8e : aC P id m f17_8 sf st Q = runI P id m f17_8l (opsK [2] [] Q) sf st := rfl
def f17_7 : AC := .seq f17_8 .ret
theorem f17_7e : aC P id m f17_7 sf st Q = aC P id m f17_8 sf st (seqQ (aC P id m .ret) Q) := rfl
def f17_6 : AC := .cond (.r 10) f17_7 .skip
theorem f17_6e : aC P id m f17_6 sf st Q = condI (.r 10) (sf.ev id (.r 10)) (aC P id m f17_7) (aC P id m .skip) sf st Q := rfl
def f17_4 : AC := .seq f17_5 f17_6
theorem f17_4e : aC P id m f17_4 sf st Q = aC P id m f17_5 sf st (seqQ (aC P id m f17_6) Q) := rfl
def f17_10h : List GI := [vv 11 0,
    vn 12 11,
    vd 13 12 1,
    vl 14 13,
    vv 15 0,
    vn 16 15,
    vd 17 16 0,
    vl 18 17,
    ⟨none, .call (some 19) true (.f 47) [(.r 18)]⟩]
def f17_10l : List GI := [⟨none, .bin (some 20) .num .sub (.r 14) (.r 19)⟩,
    vo 2 20]
def f17_10 : AC := .draw [2] [] [] f17_10h f17_10l
theorem f17_10e : aC P id m f17_10 sf st Q = headI P id sf.locs st f17_10h (tailK P id m [] [2] [] f17_10l Q st) [] ⟨sf.regs, dropL [] sf.locs⟩ := rfl
def f17_9 : AC := .seq f17_10 .ret
theorem f17_9e : aC P id m f17_9 sf st Q = aC P id m f17_10 sf st (seqQ (aC P id m .ret) Q) := rfl
def f17_3 : AC := .seq f17_4 f17_9
theorem f17_3e : aC P id m f17_3 sf st Q = aC P id m f17_4 sf st (seqQ (aC P id m f17_9) Q) := rfl
def f17_1 : AC := .seq f17_2 f17_3
theorem f17_1e : aC P id m f17_1 sf st Q = aC P id m f17_2 sf st (seqQ (aC P id m f17_3) Q) := rfl
def c_f17 : AFun := ⟨21, [.tmp 2], f17_1⟩
theorem k_f17 : compF Go.Proofs.Try.prog x_f17 17 = some c_f17 := by kernel_rfl
theorem e_f17 : enterB Go.Proofs.Try.prog 17 = true := by kernel_rfl

def n_f18 : Nat := 18
def x_f18 : Cx := ⟨some, id, 22, fun s => ([0, 1, 2, 6, 7, 8, 9, 10, 11, 12, 13, 14, 15, 16, 17, 18, 19, 20, 21] : List Nat).contains s, fun s => ([] : List Nat).contains s, msOf [(2, [0, 1, 2], []), (6, [1, 2, 7, 8], []), (14, [6], [])]⟩
def f18_2l : List GI := [⟨none, .mv (some 6) (.c (.lit (.bool false)))⟩]
def f18_2 : AC := .ops [0, 1, 2] [] f18_2l
theorem f18_2e : aC P id m f18_2 sf st Q = runI P id m f18_2l (opsK [0, 1, 2] [] Q) sf st := rfl
def f18_4l : List GI := [vv 10 0,
    ⟨none, .call (some 11) false (.f 20) [(.r 10)]⟩,
    vv 9 11,
    ve 12 9 0,
    ve 13 9 1,
    vo 7 12,
    vo 8 13]
def f18_4 : AC := .ops [1, 2, 7, 8] [] f18_4l
theorem f18_4e : aC P id m f18_4 sf st Q = runI P id m f18_4l (opsK [1, 2, 7, 8] [] Q) sf st := rfl
def f18_6l : List GI := [vv 14 7,
    vv 15 1,
    ⟨none, .bin (some 16) .num .eql (.r 14) (.r 15)⟩,
    vv 17 16,
    ⟨some (17, true), .mv (some 18) (.r 8)⟩,
    ⟨some (17, true), .mv (some 19) (.r 2)⟩,
    ⟨some (17, true), .bin (some 20) .num .eql (.r 18) (.r 19)⟩,
    ⟨none, .pick (some 21) (.r 17) (.r 20) (.c (.lit (.bool false)))⟩,
    vo 6 21]
def f18_6 : AC := .ops [6] [] f18_6l
theorem f18_6e : aC P id m f18_6 sf st Q = runI P id m f18_6l (opsK [6] [] Q) sf st := rfl
def f18_5 : AC := .seq f18_6 .ret
theorem f18_5e : aC P id m f18_5 sf st Q = aC P id m f18_6 sf st (seqQ (aC P id m .ret) Q) := rfl
def f18_3 : AC := .seq f18_4 f18_5
theorem f18_3e : aC P id m f18_3 sf st Q = aC P id m f18_4 sf st (seqQ (aC P id m f18_5) Q) := rfl
def f18_1 : AC := .seq f18_2 f18_3
theorem f18_1e : aC P id m f18_1 sf st Q = aC P id m f18_2 sf st (seqQ (aC P id m f18_3) Q) := rfl
def c_f18 : AFun := ⟨22, [.tmp 6], f18_1⟩
theorem k_f18 : compF Go.Proofs.Try.prog x_f18 18 = some c_f18 := by kernel_rfl
theorem e_f18 : enterB Go.Proofs.Try.prog 18 = true := by kernel_rfl

def n_f19 : Nat := 19
def x_f19 : Cx := ⟨some, id, 20, fun s => ([0, 2, 3, 5, 6, 11, 14, 15, 16, 17, 18, 19] : List Nat).contains s, fun s => ([] : List Nat).contains s, msOf [(2, [0, 14], []), (12, [0, 7, 14], []), (52, [2], []), (14, [0, 3, 14], []), (60, [3, 12, 14], []), (122, [3], []), (1000000129, [3, 14], []), (244, [3, 5], []), (490, [], []), (62, [2], [])]⟩
def f19_2l : List GI := [⟨none, .mv (some 2) (.c (.lit (.slice none 0 0)))⟩]
def f19_2 : AC := .ops [0, 14] [] f19_2l
theorem f19_2e : aC P id m f19_2 sf st Q = runI P id m f19_2l (opsK [0, 14] [] Q) sf st := rfl
def f19_5l : List GI := [vv 6 0,
    ⟨none, .call (some 7) false (.f 46) [(.r 6)]⟩]
def f19_5 : AC := .ops [0, 7, 14] [] f19_5l
theorem f19_5e : aC P id m f19_5 sf st Q = runI P id m f19_5l (opsK [0, 7, 14] [] Q) sf st := rfl
def f19_8l : List GI := [⟨none, .mv (some 2) (.c (.lit (.slice none 0 0)))⟩]
def f19_8 : AC := .ops [2] [] f19_8l
theorem f19_8e : aC P id m f19_8 sf st Q = runI P id m f19_8l (opsK [2] [] Q) sf st := rfl
def f19_7 : AC := .seq f19_8 .ret
theorem f19_7e : aC P id m f19_7 sf st Q = aC P id m f19_8 sf st (seqQ (aC P id m .ret) Q) := rfl
def f19_6 : AC := .cond (.r 7) f19_7 .skip
theorem f19_6e : aC P id m f19_6 sf st Q = condI (.r 7) (sf.ev id (.r 7)) (aC P id m f19_7) (aC P id m .skip) sf st Q := rfl
def f19_4 : AC := .seq f19_5 f19_6
theorem f19_4e : aC P id m f19_4 sf st Q = aC P id m f19_5 sf st (seqQ (aC P id m f19_6) Q) := rfl
def f19_10l : List GI := [⟨none, .newB 3 [(.lit (.slice none 0 0))]⟩]
def f19_10 : AC := .ops [0, 3, 14] [] f19_10l
theorem f19_10e : aC P id m f19_10 sf st Q = runI P id m f19_10l (opsK [0, 3, 14] [] Q) sf st := rfl
def f19_13l : List GI := [vv 8 0,
    vn 9 8,
    vd 10 9 0,
    vl 11 10,
    ⟨none, .call (some 12) false (.f 49) [(.r 11)]⟩]
def f19_13 : AC := .ops [3, 12, 14] [] f19_13l
theorem f19_13e : aC P id m f19_13 sf st Q = runI P id m f19_13l (opsK [3, 12, 14] [] Q) sf st := rfl
def f19_16l : List GI := [vo 5 14]
def f19_16 : AC := .ops [3, 5] [] f19_16l
theorem f19_16e : aC P id m f19_16 sf st Q = runI P id m f19_16l (opsK [3, 5] [] Q) sf st := rfl
def f19_18l : List GI := [⟨none, .loadOwn 15 (.r 3)⟩,
    vv 16 5,
    ⟨none, .bsl (some 17) 1 1 (.lit (.int .i64 0)) [(0, (.r 16))]⟩,
    ⟨none, .appS 18 15 1 8 (.r 17)⟩,
    ⟨none, .store 1 (.r 3) (.r 18)⟩]
def f19_18 : AC := .ops [] [] f19_18l
theorem f19_18e : aC P id m f19_18 sf st Q = runI P id m f19_18l (opsK [] [] Q) sf st := rfl
def f19_17 : AC := .block 1 f19_18
theorem f19_17e : aC P id m f19_17 sf st Q = aC P id m f19_18 sf st (blockQ 1 Q) := rfl
def f19_15 : AC := .rangeF [3] [] (.r 12) [13, 14] [3, 14] f19_16 f19_17
theorem f19_15w : aC P id m f19_15 sf st Q = (m = false ∧ rangeI P (aC P id m f19_16) (aC P id m f19_17) [13, 14] [3, 14] [3] [] (sf.ev id (.r 12)) sf st Q) := rfl
def f19_14 : AC := .block 0 f19_15
theorem f19_14e : aC P id m f19_14 sf st Q = aC P id m f19_15 sf st (blockQ 0 Q) := rfl
def f19_12 : AC := .seq f19_13 f19_14
theorem f19_12e : aC P id m f19_12 sf st Q = aC P id m f19_13 sf st (seqQ (aC P id m f19_14) Q) := rfl
def f19_20l : List GI := [vl 19 3,
    vo 2 19]
def f19_20 : AC := .ops [2] [] f19_20l
theorem f19_20e : aC P id m f19_20 sf st Q = runI P id m f19_20l (opsK [2] [] Q) sf st := rfl
def f19_19 : AC := .seq f19_20 .ret
theorem f19_19e : aC P id m f19_19 sf st Q = aC P id m f19_20 sf st (seqQ (aC P id m .ret) Q) := rfl
def f19_11 : AC := .seq f19_12 f19_19
theorem f19_11e : aC P id m f19_11 sf st Q = aC P id m f19_12 sf st (seqQ (aC P id m f19_19) Q) := rfl
def f19_9 : AC := .seq f19_10 f19_11
theorem f19_9e : aC P id m f19_9 sf st Q = aC P id m f19_10 sf st (seqQ (aC P id m f19_11) Q) := rfl
def f19_3 : AC := .seq f19_4 f19_9
theorem f19_3e : aC P id m f19_3 sf st Q = aC P id m f19_4 sf st (seqQ (aC P id m f19_9) Q) := rfl
def f19_1 : AC := .seq f19_2 f19_3
theorem f19_1e : aC P id m f19_1 sf st Q = aC P id m f19_2 sf st (seqQ (aC P id m f19_3) Q) := rfl
def c_f19 : AFun := ⟨20, [.tmp 2], f19_1⟩
theorem k_f19 : compF Go.Proofs.Try.prog x_f19 19 = some c_f19 := by kernel_rfl
theorem e_f19 : enterB Go.Proofs.Try.prog 19 = true := by kernel_rfl

def n_f20 : Nat := 20
def x_f20 : Cx := ⟨some, id, 32, fun s => ([0, 2, 3, 4, 6, 8, 9, 14, 15, 19, 20, 21, 22, 23, 24, 29, 30, 31] : List Nat).contains s, fun s => ([] : List Nat).contains s, msOf [(2, [0], []), (24, [0, 7], []), (100, [2, 3], []), (102, [0, 10], []), (412, [2, 3], []), (14, [0, 4, 6], []), (60, [0, 4, 25], []), (244, [2, 3], []), (62, [4], []), (126, [2, 3], [])]⟩
def f20_2l : List GI := [⟨none, .mv (some 2) (.c (.lit (.int .i64 0)))⟩,
    ⟨none, .mv (some 3) (.c (.lit (.int .i64 0)))⟩]
def f20_2 : AC := .ops [0] [] f20_2l
theorem f20_2e : aC P id m f20_2 sf st Q = runI P id m f20_2l (opsK [0] [] Q) sf st := rfl
def f20_6l : List GI := [vv 8 0,
    ⟨none, .call (some 9) false (.f 46) [(.r 8)]⟩,
    vo 7 9]
def f20_6 : AC := .ops [0, 7] [] f20_6l
theorem f20_6e : aC P id m f20_6 sf st Q = runI P id m f20_6l (opsK [0, 7] [] Q) sf st := rfl
def f20_9l : List GI := [⟨none, .mv (some 2) (.c (.lit (.int .i64 0)))⟩,
    ⟨none, .mv (some 3) (.c (.lit (.int .i64 1)))⟩]
def f20_9 : AC := .ops [2, 3] [] f20_9l
theorem f20_9e : aC P id m f20_9 sf st Q = runI P id m f20_9l (opsK [2, 3] [] Q) sf st := rfl
def f20_8 : AC := .seq f20_9 .ret
theorem f20_8e : aC P id m f20_8 sf st Q = aC P id m f20_9 sf st (seqQ (aC P id m .ret) Q) := rfl
def f20_11l : List GI := [vv 11 0,
    vn 12 11,
    vd 13 12 2,
    vl 14 13,
    vo 10 14]
def f20_11 : AC := .ops [0, 10] [] f20_11l
theorem f20_11e : aC P id m f20_11 sf st Q = runI P id m f20_11l (opsK [0, 10] [] Q) sf st := rfl
def f20_14l : List GI := [⟨none, .mv (some 2) (.c (.lit (.int .i64 0)))⟩,
    ⟨none, .mv (some 3) (.c (.lit (.int .i64 14)))⟩]
def f20_14 : AC := .ops [2, 3] [] f20_14l
theorem f20_14e : aC P id m f20_14 sf st Q = runI P id m f20_14l (opsK [2, 3] [] Q) sf st := rfl
def f20_13 : AC := .seq f20_14 .ret
theorem f20_13e : aC P id m f20_13 sf st Q = aC P id m f20_14 sf st (seqQ (aC P id m .ret) Q) := rfl
def f20_12 : AC := .cond (.r 10) f20_13 .skip
theorem f20_12e : aC P id m f20_12 sf st Q = condI (.r 10) (sf.ev id (.r 10)) (aC P id m f20_13) (aC P id m .skip) sf st Q := rfl
def f20_10 : AC := .seq f20_11 f20_12
theorem f20_10e : aC P id m f20_10 sf st Q = aC P id m f20_11 sf st (seqQ (aC P id m f20_12) Q) := rfl
def f20_7 : AC := .cond (.r 7) f20_8 f20_10
theorem f20_7e : aC P id m f20_7 sf st Q = condI (.r 7) (sf.ev id (.r 7)) (aC P id m f20_8) (aC P id m f20_10) sf st Q := rfl
def f20_5 : AC := .seq f20_6 f20_7
theorem f20_5e : aC P id m f20_5 sf st Q = aC P id m f20_6 sf st (seqQ (aC P id m f20_7) Q) := rfl
def f20_4 : AC := .block 0 f20_5
theorem f20_4e : aC P id m f20_4 sf st Q = aC P id m f20_5 sf st (blockQ 0 Q) := rfl
def f20_16l : List GI := [vv 16 0,
    vn 17 16,
    vd 18 17 0,
    vl 19 18,
    ⟨none, .call (some 20) false (.f 50) [(.r 19)]⟩,
    vv 15 20,
    ve 21 15 0,
    ve 22 15 1,
    ve 23 15 2,
    vo 4 21,
    vo 5 22,
    vo 6 23]
def f20_16 : AC := .ops [0, 4, 6] [] f20_16l
theorem f20_16e : aC P id m f20_16 sf st Q = runI P id m f20_16l (opsK [0, 4, 6] [] Q) sf st := rfl
def f20_19l : List GI := [vv 24 6,
    vb 25 .neq 24 0]
def f20_19 : AC := .ops [0, 4, 25] [] f20_19l
theorem f20_19e : aC P id m f20_19 sf st Q = runI P id m f20_19l (opsK [0, 4, 25] [] Q) sf st := rfl
def f20_22l : List GI := [⟨none, .mv (some 2) (.c (.lit (.int .i64 0)))⟩,
    ⟨none, .mv (some 3) (.c (.lit (.int .i64 16)))⟩]
def f20_22 : AC := .ops [2, 3] [] f20_22l
theorem f20_22e : aC P id m f20_22 sf st Q = runI P id m f20_22l (opsK [2, 3] [] Q) sf st := rfl
def f20_21 : AC := .seq f20_22 .ret
theorem f20_21e : aC P id m f20_21 sf st Q = aC P id m f20_22 sf st (seqQ (aC P id m .ret) Q) := rfl
def f20_20 : AC := .cond (.r 25) f20_21 .skip
theorem f20_20e : aC P id m f20_20 sf st Q = condI (.r 25) (sf.ev id (.r 25)) (aC P id m f20_21) (aC P id m .skip) sf st Q := rfl
def f20_18 : AC := .seq f20_19 f20_20
theorem f20_18e : aC P id m f20_18 sf st Q = aC P id m f20_19 sf st (seqQ (aC P id m f20_20) Q) := rfl
def f20_24l : List GI := [vv 26 0,
    vn 27 26,
    vd 28 27 3,
    vl 29 28,
    vv 30 4,
    ⟨none, .del (.int .i64) (.r 29) (.r 30)⟩]
def f20_24 : AC := .ops [4] [] f20_24l
theorem f20_24e : aC P id m f20_24 sf st Q = runI P id m f20_24l (opsK [4] [] Q) sf st := rfl
def f20_26l : List GI := [vv 31 4,
    vo 2 31,
    ⟨none, .mv (some 3) (.c (.lit (.int .i64 0)))⟩]
def f20_26 : AC := .ops [2, 3] [] f20_26l
theorem f20_26e : aC P id m f20_26 sf st Q = runI P id m f20_26l (opsK [2, 3] [] Q) sf st := rfl
def f20_25 : AC := .seq f20_26 .ret
theorem f20_25e : aC P id m f20_25 sf st Q = aC P id m f20_26 sf st (seqQ (aC P id m .ret) Q) := rfl
def f20_23 : AC := .seq f20_24 f20_25
theorem f20_23e : aC P id m f20_23 sf st Q = aC P id m f20_24 sf st (seqQ (aC P id m f20_25) Q) := rfl
def f20_17 : AC := .seq f20_18 f20_23
theorem f20_17e : aC P id m f20_17 sf st Q = aC P id m f20_18 sf st (seqQ (aC P id m f20_23) Q) := rfl
def f20_15 : AC := .seq f20_16 f20_17
theorem f20_15e : aC P id m f20_15 sf st Q = aC P id m f20_16 sf st (seqQ (aC P id m f20_17) Q) := rfl
def f20_3 : AC := .seq f20_4 f20_15
theorem f20_3e : aC P id m f20_3 sf st Q = aC P id m f20_4 sf st (seqQ (aC P id m f20_15) Q) := rfl
def f20_1 : AC := .seq f20_2 f20_3
theorem f20_1e : aC P id m f20_1 sf st Q = aC P id m f20_2 sf st (seqQ (aC P id m f20_3) Q) := rfl
def c_f20 : AFun := ⟨32, [.tmp 2, .tmp 3], f20_1⟩
theorem k_f20 : compF Go.Proofs.Try.prog x_f20 20 = some c_f20 := by kernel_rfl
theorem e_f20 : enterB Go.Proofs.Try.prog 20 = true := by kernel_rfl

def n_f21 : Nat := 21
def x_f21 : Cx := ⟨some, id, 14, fun s => ([0, 1, 4, 5, 6, 7, 8, 9, 10, 11, 12, 13] : List Nat).contains s, fun s => ([] : List Nat).contains s, msOf [(2, [0, 1], []), (6, [4], [])]⟩
def f21_2l : List GI := [⟨none, .mv (some 4) (.c (.lit (.slice none 0 0)))⟩]
def f21_2 : AC := .ops [0, 1] [] f21_2l
theorem f21_2e : aC P id m f21_2 sf st Q = runI P id m f21_2l (opsK [0, 1] [] Q) sf st := rfl
def f21_4h : List GI := [vv 5 0,
    vv 6 1,
    ⟨none, .sliS (some 7) (.r 5) none (some (.r 6)) 1⟩,
    ⟨none, .app (some 8) 1 8 (.c (.lit (.slice none 0 0))) (.r 7)⟩,
    vv 9 0,
    vv 10 1,
    vb 11 .add 10 1,
    ⟨none, .sliS (some 12) (.r 9) (some (.r 11)) none 1⟩]
def f21_4l : List GI := [⟨none, .appS 13 8 1 8 (.r 12)⟩,
    vo 4 13]
def f21_4 : AC := .draw [4] [] [] f21_4h f21_4l
theorem f21_4e : aC P id m f21_4 sf st Q = headI P id sf.locs st f21_4h (tailK P id m [] [4] [] f21_4l Q st) [] ⟨sf.regs, dropL [] sf.locs⟩ := rfl
def f21_3 : AC := .seq f21_4 .ret
theorem f21_3e : aC P id m f21_3 sf st Q = aC P id m f21_4 sf st (seqQ (aC P id m .ret) Q) := rfl
def f21_1 : AC := .seq f21_2 f21_3
theorem f21_1e : aC P id m f21_1 sf st Q = aC P id m f21_2 sf st (seqQ (aC P id m f21_3) Q) := rfl
def c_f21 : AFun := ⟨14, [.tmp 4], f21_1⟩
theorem k_f21 : compF Go.Proofs.Try.prog x_f21 21 = some c_f21 := by kernel_rfl
theorem e_f21 : enterB Go.Proofs.Try.prog 21 = true := by kernel_rfl

def n_f22 : Nat := 22
def x_f22 : Cx := ⟨some, id, 41, fun s => ([0, 1, 4, 5, 6, 8, 10, 11, 13, 14, 15, 19, 20, 21, 22, 23, 24, 29, 30, 31, 35, 36, 37, 38, 39, 40] : List Nat).contains s, fun s => ([] : List Nat).contains s, msOf [(2, [0, 1], []), (24, [0, 1, 9], []), (100, [4], []), (102, [0, 1, 12], []), (412, [4], []), (14, [0, 1, 5, 6], []), (60, [0, 1, 5, 25], []), (244, [4], []), (62, [0, 5], []), (126, [8], []), (254, [4], [])]⟩
def f22_2l : List GI := [⟨none, .mv (some 4) (.c (.lit (.int .i64 0)))⟩]
def f22_2 : AC := .ops [0, 1] [] f22_2l
theorem f22_2e : aC P id m f22_2 sf st Q = runI P id m f22_2l (opsK [0, 1] [] Q) sf st := rfl
def f22_6l : List GI := [vv 10 0,
    ⟨none, .call (some 11) false (.f 46) [(.r 10)]⟩,
    vo 9 11]
def f22_6 : AC := .ops [0, 1, 9] [] f22_6l
theorem f22_6e : aC P id m f22_6 sf st Q = runI P id m f22_6l (opsK [0, 1, 9] [] Q) sf st := rfl
def f22_9l : List GI := [⟨none, .mv (some 4) (.c (.lit (.int .i64 1)))⟩]
def f22_9 : AC := .ops [4] [] f22_9l
theorem f22_9e : aC P id m f22_9 sf st Q = runI P id m f22_9l (opsK [4] [] Q) sf st := rfl
def f22_8 : AC := .seq f22_9 .ret
theorem f22_8e : aC P id m f22_8 sf st Q = aC P id m f22_9 sf st (seqQ (aC P id m .ret) Q) := rfl
def f22_11l : List GI := [vv 13 1,
    vb 14 .lss 13 0,
    vo 12 14]
def f22_11 : AC := .ops [0, 1, 12] [] f22_11l
theorem f22_11e : aC P id m f22_11 sf st Q = runI P id m f22_11l (opsK [0, 1, 12] [] Q) sf st := rfl
def f22_14l : List GI := [⟨none, .mv (some 4) (.c (.lit (.int .i64 2)))⟩]
def f22_14 : AC := .ops [4] [] f22_14l
theorem f22_14e : aC P id m f22_14 sf st Q = runI P id m f22_14l (opsK [4] [] Q) sf st := rfl
def f22_13 : AC := .seq f22_14 .ret
theorem f22_13e : aC P id m f22_13 sf st Q = aC P id m f22_14 sf st (seqQ (aC P id m .ret) Q) := rfl
def f22_12 : AC := .cond (.r 12) f22_13 .skip
theorem f22_12e : aC P id m f22_12 sf st Q = condI (.r 12) (sf.ev id (.r 12)) (aC P id m f22_13) (aC P id m .skip) sf st Q := rfl
def f22_10 : AC := .seq f22_11 f22_12
theorem f22_10e : aC P id m f22_10 sf st Q = aC P id m f22_11 sf st (seqQ (aC P id m f22_12) Q) := rfl
def f22_7 : AC := .cond (.r 9) f22_8 f22_10
theorem f22_7e : aC P id m f22_7 sf st Q = condI (.r 9) (sf.ev id (.r 9)) (aC P id m f22_8) (aC P id m f22_10) sf st Q := rfl
def f22_5 : AC := .seq f22_6 f22_7
theorem f22_5e : aC P id m f22_5 sf st Q = aC P id m f22_6 sf st (seqQ (aC P id m f22_7) Q) := rfl
def f22_4 : AC := .block 0 f22_5
theorem f22_4e : aC P id m f22_4 sf st Q = aC P id m f22_5 sf st (blockQ 0 Q) := rfl
def f22_16l : List GI := [vv 16 0,
    vn 17 16,
    vd 18 17 3,
    vl 19 18,
    vv 20 1,
    ⟨none, .lookup (some 21) (.int .i64) (.lit (.int .u64 0)) true (.r 19) (.r 20)⟩,
    vv 15 21,
    ve 22 15 0,
    ve 23 15 1,
    vo 5 22,
    vo 6 23]
def f22_16 : AC := .ops [0, 1, 5, 6] [] f22_16l
theorem f22_16e : aC P id m f22_16 sf st Q = runI P id m f22_16l (opsK [0, 1, 5, 6] [] Q) sf st := rfl
def f22_19l : List GI := [vv 24 6,
    ⟨none, .un (some 25) .not (.r 24)⟩]
def f22_19 : AC := .ops [0, 1, 5, 25] [] f22_19l
theorem f22_19e : aC P id m f22_19 sf st Q = runI P id m f22_19l (opsK [0, 1, 5, 25] [] Q) sf st := rfl
def f22_22l : List GI := [⟨none, .mv (some 4) (.c (.lit (.int .i64 9)))⟩]
def f22_22 : AC := .ops [4] [] f22_22l
theorem f22_22e : aC P id m f22_22 sf st Q = runI P id m f22_22l (opsK [4] [] Q) sf st := rfl
def f22_21 : AC := .seq f22_22 .ret
theorem f22_21e : aC P id m f22_21 sf st Q = aC P id m f22_22 sf st (seqQ (aC P id m .ret) Q) := rfl
def f22_20 : AC := .cond (.r 25) f22_21 .skip
theorem f22_20e : aC P id m f22_20 sf st Q = condI (.r 25) (sf.ev id (.r 25)) (aC P id m f22_21) (aC P id m .skip) sf st Q := rfl
def f22_18 : AC := .seq f22_19 f22_20
theorem f22_18e : aC P id m f22_18 sf st Q = aC P id m f22_19 sf st (seqQ (aC P id m f22_20) Q) := rfl
def f22_24l : List GI := [vv 26 0,
    vn 27 26,
    vd 28 27 3,
    vl 29 28,
    vv 30 1,
    ⟨none, .del (.int .i64) (.r 29) (.r 30)⟩]
def f22_24 : AC := .ops [0, 5] [] f22_24l
theorem f22_24e : aC P id m f22_24 sf st Q = runI P id m f22_24l (opsK [0, 5] [] Q) sf st := rfl
def f22_26l : List GI := [vv 32 0,
    vn 33 32,
    vd 34 33 0,
    vl 35 34,
    vv 36 5,
    ⟨none, .call (some 37) false (.f 51) [(.r 35), (.r 36)]⟩,
    vv 31 37,
    ve 38 31 0,
    ve 39 31 1,
    vo 7 38,
    vo 8 39]
def f22_26 : AC := .ops [8] [] f22_26l
theorem f22_26e : aC P id m f22_26 sf st Q = runI P id m f22_26l (opsK [8] [] Q) sf st := rfl
def f22_28l : List GI := [vv 40 8,
    vo 4 40]
def f22_28 : AC := .ops [4] [] f22_28l
theorem f22_28e : aC P id m f22_28 sf st Q = runI P id m f22_28l (opsK [4] [] Q) sf st := rfl
def f22_27 : AC := .seq f22_28 .ret
theorem f22_27e : aC P id m f22_27 sf st Q = aC P id m f22_28 sf st (seqQ (aC P id m .ret) Q) := rfl
def f22_25 : AC := .seq f22_26 f22_27
theorem f22_25e : aC P id m f22_25 sf st Q = aC P id m f22_26 sf st (seqQ (aC P id m f22_27) Q) := rfl
def f22_23 : AC := .seq f22_24 f22_25
theorem f22_23e : aC P id m f22_23 sf st Q = aC P id m f22_24 sf st (seqQ (aC P id m f22_25) Q) := rfl
def f22_17 : AC := .seq f22_18 f22_23
theorem f22_17e : aC P id m f22_17 sf st Q = aC P id m f22_18 sf st (seqQ (aC P id m f22_23) Q) := rfl
def f22_15 : AC := .seq f22_16 f22_17
theorem f22_15e : aC P id m f22_15 sf st Q = aC P id m f22_16 sf st (seqQ (aC P id m f22_17) Q) := rfl
def f22_3 : AC := .seq f22_4 f22_15
theorem f22_3e : aC P id m f22_3 sf st Q = aC P id m f22_4 sf st (seqQ (aC P id m f22_15) Q) := rfl
def f22_1 : AC := .seq f22_2 f22_3
theorem f22_1e : aC P id m f22_1 sf st Q = aC P id m f22_2 sf st (seqQ (aC P id m f22_3) Q) := rfl
def c_f22 : AFun := ⟨41, [.tmp 4], f22_1⟩
theorem k_f22 : compF Go.Proofs.Try.prog x_f22 22 = some c_f22 := by kernel_rfl
theorem e_f22 : enterB Go.Proofs.Try.prog 22 = true := by kernel_rfl

def n_f23 : Nat := 23
def x_f23 : Cx := ⟨some, id, 19, fun s => ([0, 1, 4, 5, 6, 7, 8, 10, 11, 13, 15, 16, 18] : List Nat).contains s, fun s => ([] : List Nat).contains s, msOf [(2, [0, 1], []), (12, [0, 1, 5], []), (26, [0, 1, 5], []), (208, [0, 1, 5, 9], []), (419, [], []), (840, [0, 1, 5, 17], []), (3364, [4], []), (211, [0, 1, 5], []), (14, [4], [])]⟩
def f23_2l : List GI := [⟨none, .mv (some 4) (.c (.lit (.int .i64 0)))⟩]
def f23_2 : AC := .ops [0, 1] [] f23_2l
theorem f23_2e : aC P id m f23_2 sf st Q = runI P id m f23_2l (opsK [0, 1] [] Q) sf st := rfl
def f23_5l : List GI := [⟨none, .mv (some 5) (.c (.lit (.int .i64 0)))⟩]
def f23_5 : AC := .ops [0, 1, 5] [] f23_5l
theorem f23_5e : aC P id m f23_5 sf st Q = runI P id m f23_5l (opsK [0, 1, 5] [] Q) sf st := rfl
def f23_10l : List GI := [vv 6 5,
    vv 7 0,
    ⟨none, .len (some 8) .sl (.r 7)⟩,
    ⟨none, .bin (some 9) .num .lss (.r 6) (.r 8)⟩]
def f23_10 : AC := .ops [0, 1, 5, 9] [] f23_10l
theorem f23_10e : aC P id m f23_10 sf st Q = runI P id m f23_10l (opsK [0, 1, 5, 9] [] Q) sf st := rfl
def f23_11 : AC := .cond (.r 9) .skip (.exit [] [] 0)
theorem f23_11e : aC P id m f23_11 sf st Q = condI (.r 9) (sf.ev id (.r 9)) (aC P id m .skip) (aC P id m (.exit [] [] 0)) sf st Q := rfl
def f23_9 : AC := .seq f23_10 f23_11
theorem f23_9e : aC P id m f23_9 sf st Q = aC P id m f23_10 sf st (seqQ (aC P id m f23_11) Q) := rfl
def f23_15l : List GI := [vv 12 0,
    vv 13 5,
    ⟨none, .ixS (some 14) (.r 12) (.r 13) 1⟩,
    vl 15 14,
    vv 16 1,
    ⟨none, .bin (some 17) .num .eql (.r 15) (.r 16)⟩]
def f23_15 : AC := .ops [0, 1, 5, 17] [] f23_15l
theorem f23_15e : aC P id m f23_15 sf st Q = runI P id m f23_15l (opsK [0, 1, 5, 17] [] Q) sf st := rfl
def f23_18l : List GI := [vv 18 5,
    vo 4 18]
def f23_18 : AC := .ops [4] [] f23_18l
theorem f23_18e : aC P id m f23_18 sf st Q = runI P id m f23_18l (opsK [4] [] Q) sf st := rfl
def f23_17 : AC := .seq f23_18 .ret
theorem f23_17e : aC P id m f23_17 sf st Q = aC P id m f23_18 sf st (seqQ (aC P id m .ret) Q) := rfl
def f23_16 : AC := .cond (.r 17) f23_17 .skip
theorem f23_16e : aC P id m f23_16 sf st Q = condI (.r 17) (sf.ev id (.r 17)) (aC P id m f23_17) (aC P id m .skip) sf st Q := rfl
def f23_14 : AC := .seq f23_15 f23_16
theorem f23_14e : aC P id m f23_14 sf st Q = aC P id m f23_15 sf st (seqQ (aC P id m f23_16) Q) := rfl
def f23_13 : AC := .block 1 f23_14
theorem f23_13e : aC P id m f23_13 sf st Q = aC P id m f23_14 sf st (blockQ 1 Q) := rfl
def f23_19l : List GI := [vv 10 5,
    vb 11 .add 10 1,
    vo 5 11]
def f23_19 : AC := .ops [0, 1, 5] [] f23_19l
theorem f23_19e : aC P id m f23_19 sf st Q = runI P id m f23_19l (opsK [0, 1, 5] [] Q) sf st := rfl
def f23_12 : AC := .seq f23_13 f23_19
theorem f23_12e : aC P id m f23_12 sf st Q = aC P id m f23_13 sf st (seqQ (aC P id m f23_19) Q) := rfl
def f23_8 : AC := .seq f23_9 f23_12
theorem f23_8e : aC P id m f23_8 sf st Q = aC P id m f23_9 sf st (seqQ (aC P id m f23_12) Q) := rfl
def f23_7 : AC := .loop [0, 1, 5] [] f23_8
theorem f23_7w : aC P id m f23_7 sf st Q = loopI (aC P id m f23_8) [0, 1, 5] [] sf st Q := rfl
def f23_6 : AC := .block 0 f23_7
theorem f23_6e : aC P id m f23_6 sf st Q = aC P id m f23_7 sf st (blockQ 0 Q) := rfl
def f23_4 : AC := .seq f23_5 f23_6
theorem f23_4e : aC P id m f23_4 sf st Q = aC P id m f23_5 sf st (seqQ (aC P id m f23_6) Q) := rfl
def f23_21l : List GI := [⟨none, .mv (some 4) (.c (.lit (.int .i64 (-1))))⟩]
def f23_21 : AC := .ops [4] [] f23_21l
theorem f23_21e : aC P id m f23_21 sf st Q = runI P id m f23_21l (opsK [4] [] Q) sf st := rfl
def f23_20 : AC := .seq f23_21 .ret
theorem f23_20e : aC P id m f23_20 sf st Q = aC P id m f23_21 sf st (seqQ (aC P id m .ret) Q) := rfl
def f23_3 : AC := .seq f23_4 f23_20
theorem f23_3e : aC P id m f23_3 sf st Q = aC P id m f23_4 sf st (seqQ (aC P id m f23_20) Q) := rfl
def f23_1 : AC := .seq f23_2 f23_3
theorem f23_1e : aC P id m f23_1 sf st Q = aC P id m f23_2 sf st (seqQ (aC P id m f23_3) Q) := rfl
def c_f23 : AFun := ⟨19, [.tmp 4], f23_1⟩
theorem k_f23 : compF Go.Proofs.Try.prog x_f23 23 = some c_f23 := by kernel_rfl
theorem e_f23 : enterB Go.Proofs.Try.prog 23 = true := by kernel_rfl

def n_f24 : Nat := 24
def x_f24 : Cx := ⟨some, id, 27, fun s => ([0, 2, 3, 4, 6, 7, 12, 13, 14, 18, 19, 26] : List Nat).contains s, fun s => ([] : List Nat).contains s, msOf [(2, [0], []), (24, [0, 5], []), (100, [2, 3], []), (102, [0, 8], []), (412, [2, 3], []), (14, [0, 4], []), (30, [4], []), (62, [2, 3], [])]⟩
def f24_2l : List GI := [⟨none, .mv (some 2) (.c (.lit (.slice none 0 0)))⟩,
    ⟨none, .mv (some 3) (.c (.lit (.int .i64 0)))⟩]
def f24_2 : AC := .ops [0] [] f24_2l
theorem f24_2e : aC P id m f24_2 sf st Q = runI P id m f24_2l (opsK [0] [] Q) sf st := rfl
def f24_6l : List GI := [vv 6 0,
    ⟨none, .call (some 7) false (.f 46) [(.r 6)]⟩,
    vo 5 7]
def f24_6 : AC := .ops [0, 5] [] f24_6l
theorem f24_6e : aC P id m f24_6 sf st Q = runI P id m f24_6l (opsK [0, 5] [] Q) sf st := rfl
def f24_9l : List GI := [⟨none, .mv (some 2) (.c (.lit (.slice none 0 0)))⟩,
    ⟨none, .mv (some 3) (.c (.lit (.int .i64 1)))⟩]
def f24_9 : AC := .ops [2, 3] [] f24_9l
theorem f24_9e : aC P id m f24_9 sf st Q = runI P id m f24_9l (opsK [2, 3] [] Q) sf st := rfl
def f24_8 : AC := .seq f24_9 .ret
theorem f24_8e : aC P id m f24_8 sf st Q = aC P id m f24_9 sf st (seqQ (aC P id m .ret) Q) := rfl
def f24_11l : List GI := [vv 9 0,
    vn 10 9,
    vd 11 10 2,
    vl 12 11,
    vo 8 12]
def f24_11 : AC := .ops [0, 8] [] f24_11l
theorem f24_11e : aC P id m f24_11 sf st Q = runI P id m f24_11l (opsK [0, 8] [] Q) sf st := rfl
def f24_14l : List GI := [⟨none, .mv (some 2) (.c (.lit (.slice none 0 0)))⟩,
    ⟨none, .mv (some 3) (.c (.lit (.int .i64 14)))⟩]
def f24_14 : AC := .ops [2, 3] [] f24_14l
theorem f24_14e : aC P id m f24_14 sf st Q = runI P id m f24_14l (opsK [2, 3] [] Q) sf st := rfl
def f24_13 : AC := .seq f24_14 .ret
theorem f24_13e : aC P id m f24_13 sf st Q = aC P id m f24_14 sf st (seqQ (aC P id m .ret) Q) := rfl
def f24_12 : AC := .cond (.r 8) f24_13 .skip
theorem f24_12e : aC P id m f24_12 sf st Q = condI (.r 8) (sf.ev id (.r 8)) (aC P id m f24_13) (aC P id m .skip) sf st Q := rfl
def f24_10 : AC := .seq f24_11 f24_12
theorem f24_10e : aC P id m f24_10 sf st Q = aC P id m f24_11 sf st (seqQ (aC P id m f24_12) Q) := rfl
def f24_7 : AC := .cond (.r 5) f24_8 f24_10
theorem f24_7e : aC P id m f24_7 sf st Q = condI (.r 5) (sf.ev id (.r 5)) (aC P id m f24_8) (aC P id m f24_10) sf st Q := rfl
def f24_5 : AC := .seq f24_6 f24_7
theorem f24_5e : aC P id m f24_5 sf st Q = aC P id m f24_6 sf st (seqQ (aC P id m f24_7) Q) := rfl
def f24_4 : AC := .block 0 f24_5
theorem f24_4e : aC P id m f24_4 sf st Q = aC P id m f24_5 sf st (blockQ 0 Q) := rfl
def f24_16l : List GI := [vv 13 0,
    ⟨none, .call (some 14) false (.f 19) [(.r 13)]⟩,
    vo 4 14]
def f24_16 : AC := .ops [0, 4] [] f24_16l
theorem f24_16e : aC P id m f24_16 sf st Q = runI P id m f24_16l (opsK [0, 4] [] Q) sf st := rfl
def f24_18l : List GI := [vv 15 0,
    vv 16 0,
    vv 17 0,
    ⟨none, .call (some 18) false (.f 45) []⟩,
    ⟨none, .mkmap 19⟩,
    vn 20 15,
    vd 21 20 0,
    ⟨none, .store 1 (.r 21) (.r 18)⟩,
    vn 22 16,
    vd 23 22 3,
    ⟨none, .store 1 (.r 23) (.r 19)⟩,
    vn 24 17,
    vd 25 24 2,
    ⟨none, .store 1 (.r 25) (.c (.lit (.bool true)))⟩]
def f24_18 : AC := .ops [4] [] f24_18l
theorem f24_18e : aC P id m f24_18 sf st Q = runI P id m f24_18l (opsK [4] [] Q) sf st := rfl
def f24_20l : List GI := [vv 26 4,
    vo 2 26,
    ⟨none, .mv (some 3) (.c (.lit (.int .i64 0)))⟩]
def f24_20 : AC := .ops [2, 3] [] f24_20l
theorem f24_20e : aC P id m f24_20 sf st Q = runI P id m f24_20l (opsK [2, 3] [] Q) sf st := rfl
def f24_19 : AC := .seq f24_20 .ret
theorem f24_19e : aC P id m f24_19 sf st Q = aC P id m f24_20 sf st (seqQ (aC P id m .ret) Q) := rfl
def f24_17 : AC := .seq f24_18 f24_19
theorem f24_17e : aC P id m f24_17 sf st Q = aC P id m f24_18 sf st (seqQ (aC P id m f24_19) Q) := rfl
def f24_15 : AC := .seq f24_16 f24_17
theorem f24_15e : aC P id m f24_15 sf st Q = aC P id m f24_16 sf st (seqQ (aC P id m f24_17) Q) := rfl
def f24_3 : AC := .seq f24_4 f24_15
theorem f24_3e : aC P id m f24_3 sf st Q = aC P id m f24_4 sf st (seqQ (aC P id m f24_15) Q) := rfl
def f24_1 : AC := .seq f24_2 f24_3
theorem f24_1e : aC P id m f24_1 sf st Q = aC P id m f24_2 sf st (seqQ (aC P id m f24_3) Q) := rfl
def c_f24 : AFun := ⟨27, [.tmp 2, .tmp 3], f24_1⟩
theorem k_f24 : compF Go.Proofs.Try.prog x_f24 24 = some c_f24 := by kernel_rfl
theorem e_f24 : enterB Go.Proofs.Try.prog 24 = true := by kernel_rfl

def n_f25 : Nat := 25
def x_f25 : Cx := ⟨some, id, 26, fun s => ([0, 1, 4, 5, 6, 7, 8, 9, 11, 12, 13, 15, 16, 18, 20, 22, 24] : List Nat).contains s, fun s => ([] : List Nat).contains s, msOf [(2, [0, 1], []), (12, [0, 1, 10], []), (52, [4], []), (28, [0, 1, 5], []), (58, [0, 1, 5], []), (464, [0, 1, 5, 14], []), (931, [], []), (1864, [0, 1, 5, 25], []), (7460, [4], []), (467, [0, 1, 5], []), (30, [4], [])]⟩
def f25_2l : List GI := [⟨none, .mv (some 4) (.c (.lit (.bool false)))⟩]
def f25_2 : AC := .ops [0, 1] [] f25_2l
theorem f25_2e : aC P id m f25_2 sf st Q = runI P id m f25_2l (opsK [0, 1] [] Q) sf st := rfl
def f25_5l : List GI := [vv 6 0,
    ⟨none, .len (some 7) .sl (.r 6)⟩,
    vv 8 1,
    ⟨none, .len (some 9) .sl (.r 8)⟩,
    ⟨none, .bin (some 10) .num .neq (.r 7) (.r 9)⟩]
def f25_5 : AC := .ops [0, 1, 10] [] f25_5l
theorem f25_5e : aC P id m f25_5 sf st Q = runI P id m f25_5l (opsK [0, 1, 10] [] Q) sf st := rfl
def f25_8l : List GI := [⟨none, .mv (some 4) (.c (.lit (.bool false)))⟩]
def f25_8 : AC := .ops [4] [] f25_8l
theorem f25_8e : aC P id m f25_8 sf st Q = runI P id m f25_8l (opsK [4] [] Q) sf st := rfl
def f25_7 : AC := .seq f25_8 .ret
theorem f25_7e : aC P id m f25_7 sf st Q = aC P id m f25_8 sf st (seqQ (aC P id m .ret) Q) := rfl
def f25_6 : AC := .cond (.r 10) f25_7 .skip
theorem f25_6e : aC P id m f25_6 sf st Q = condI (.r 10) (sf.ev id (.r 10)) (aC P id m f25_7) (aC P id m .skip) sf st Q := rfl
def f25_4 : AC := .seq f25_5 f25_6
theorem f25_4e : aC P id m f25_4 sf st Q = aC P id m f25_5 sf st (seqQ (aC P id m f25_6) Q) := rfl
def f25_11l : List GI := [⟨none, .mv (some 5) (.c (.lit (.int .i64 0)))⟩]
def f25_11 : AC := .ops [0, 1, 5] [] f25_11l
theorem f25_11e : aC P id m f25_11 sf st Q = runI P id m f25_11l (opsK [0, 1, 5] [] Q) sf st := rfl
def f25_16l : List GI := [vv 11 5,
    vv 12 0,
    ⟨none, .len (some 13) .sl (.r 12)⟩,
    ⟨none, .bin (some 14) .num .lss (.r 11) (.r 13)⟩]
def f25_16 : AC := .ops [0, 1, 5, 14] [] f25_16l
theorem f25_16e : aC P id m f25_16 sf st Q = runI P id m f25_16l (opsK [0, 1, 5, 14] [] Q) sf st := rfl
def f25_17 : AC := .cond (.r 14) .skip (.exit [] [] 0)
theorem f25_17e : aC P id m f25_17 sf st Q = condI (.r 14) (sf.ev id (.r 14)) (aC P id m .skip) (aC P id m (.exit [] [] 0)) sf st Q := rfl
def f25_15 : AC := .seq f25_16 f25_17
theorem f25_15e : aC P id m f25_15 sf st Q = aC P id m f25_16 sf st (seqQ (aC P id m f25_17) Q) := rfl
def f25_21h : List GI := [vv 17 0,
    vv 18 5,
    ⟨none, .ixS (some 19) (.r 17) (.r 18) 1⟩,
    vl 20 19,
    vv 21 1,
    vv 22 5,
    ⟨none, .ixS (some 23) (.r 21) (.r 22) 1⟩,
    vl 24 23]
def f25_21l : List GI := [⟨none, .bin (some 25) .num .neq (.r 20) (.r 24)⟩]
def f25_21 : AC := .draw [0, 1, 5, 25] [] [] f25_21h f25_21l
theorem f25_21e : aC P id m f25_21 sf st Q = headI P id sf.locs st f25_21h (tailK P id m [] [0, 1, 5, 25] [] f25_21l Q st) [] ⟨sf.regs, dropL [] sf.locs⟩ := rfl
def f25_24l : List GI := [⟨none, .mv (some 4) (.c (.lit (.bool false)))⟩]
def f25_24 : AC := .ops [4] [] f25_24l
theorem f25_24e : aC P id m f25_24 sf st Q = runI P id m f25_24l (opsK [4] [] Q) sf st := rfl
def f25_23 : AC := .seq f25_24 .ret
theorem f25_23e : aC P id m f25_23 sf st Q = aC P id m f25_24 sf st (seqQ (aC P id m .ret) Q) := rfl
def f25_22 : AC := .cond (.r 25) f25_23 .skip
theorem f25_22e : aC P id m f25_22 sf st Q = condI (.r 25) (sf.ev id (.r 25)) (aC P id m f25_23) (aC P id m .skip) sf st Q := rfl
def f25_20 : AC := .seq f25_21 f25_22
theorem f25_20e : aC P id m f25_20 sf st Q = aC P id m f25_21 sf st (seqQ (aC P id m f25_22) Q) := rfl
def f25_19 : AC := .block 1 f25_20
theorem f25_19e : aC P id m f25_19 sf st Q = aC P id m f25_20 sf st (blockQ 1 Q) := rfl
def f25_25l : List GI := [vv 15 5,
    vb 16 .add 15 1,
    vo 5 16]
def f25_25 : AC := .ops [0, 1, 5] [] f25_25l
theorem f25_25e : aC P id m f25_25 sf st Q = runI P id m f25_25l (opsK [0, 1, 5] [] Q) sf st := rfl
def f25_18 : AC := .seq f25_19 f25_25
theorem f25_18e : aC P id m f25_18 sf st Q = aC P id m f25_19 sf st (seqQ (aC P id m f25_25) Q) := rfl
def f25_14 : AC := .seq f25_15 f25_18
theorem f25_14e : aC P id m f25_14 sf st Q = aC P id m f25_15 sf st (seqQ (aC P id m f25_18) Q) := rfl
def f25_13 : AC := .loop [0, 1, 5] [] f25_14
theorem f25_13w : aC P id m f25_13 sf st Q = loopI (aC P id m f25_14) [0, 1, 5] [] sf st Q := rfl
def f25_12 : AC := .block 0 f25_13
theorem f25_12e : aC P id m f25_12 sf st Q = aC P id m f25_13 sf st (blockQ 0 Q) := rfl
def f25_10 : AC := .seq f25_11 f25_12
theorem f25_10e : aC P id m f25_10 sf st Q = aC P id m f25_11 sf st (seqQ (aC P id m f25_12) Q) := rfl
def f25_27l : List GI := [⟨none, .mv (some 4) (.c (.lit (.bool true)))⟩]
def f25_27 : AC := .ops [4] [] f25_27l
theorem f25_27e : aC P id m f25_27 sf st Q = runI P id m f25_27l (opsK [4] [] Q) sf st := rfl
def f25_26 : AC := .seq f25_27 .ret
theorem f25_26e : aC P id m f25_26 sf st Q = aC P id m f25_27 sf st (seqQ (aC P id m .ret) Q) := rfl
def f25_9 : AC := .seq f25_10 f25_26
theorem f25_9e : aC P id m f25_9 sf st Q = aC P id m f25_10 sf st (seqQ (aC P id m f25_26) Q) := rfl
def f25_3 : AC := .seq f25_4 f25_9
theorem f25_3e : aC P id m f25_3 sf st Q = aC P id m f25_4 sf st (seqQ (aC P id m f25_9) Q) := rfl
def f25_1 : AC := .seq f25_2 f25_3
theorem f25_1e : aC P id m f25_1 sf st Q = aC P id m f25_2 sf st (seqQ (aC P id m f25_3) Q) := rfl
def c_f25 : AFun := ⟨26, [.tmp 4], f25_1⟩
theorem k_f25 : compF Go.Proofs.Try.prog x_f25 25 = some c_f25 := by kernel_rfl
theorem e_f25 : enterB Go.Proofs.Try.prog 25 = true := by kernel_rfl

def n_f26 : Nat := 26
def x_f26 : Cx := ⟨some, id, 9, fun s => ([0, 2, 3, 8] : List Nat).contains s, fun s => ([] : List Nat).contains s, msOf [(2, [0], []), (12, [0, 4], []), (52, [2], []), (14, [2], [])]⟩
def f26_2l : List GI := [⟨none, .mv (some 2) (.c (.lit (.int .i64 0)))⟩]
def f26_2 : AC := .ops [0] [] f26_2l
theorem f26_2e : aC P id m f26_2 sf st Q = runI P id m f26_2l (opsK [0] [] Q) sf st := rfl
def f26_5l : List GI := [vv 3 0,
    ⟨none, .call (some 4) false (.f 46) [(.r 3)]⟩]
def f26_5 : AC := .ops [0, 4] [] f26_5l
theorem f26_5e : aC P id m f26_5 sf st Q = runI P id m f26_5l (opsK [0, 4] [] Q) sf st := rfl
def f26_8l : List GI := [⟨none, .mv (some 2) (.c (.lit (.int .i64 0)))⟩]
def f26_8 : AC := .ops [2] [] f26_8l
theorem f26_8e : aC P id m f26_8 sf st Q = runI P id m f26_8l (opsK [2] [] Q) sf st := rfl
def f26_7 : AC := .seq f26_8 .ret
theorem f26_7e : aC P id m f26_7 sf st Q = aC P id m f26_8 sf st (seqQ (aC P id m .ret) Q) := rfl
def f26_6 : AC := .cond (.r 4) f26_7 .skip
theorem f26_6e : aC P id m f26_6 sf st Q = condI (.r 4) (sf.ev id (.r 4)) (aC P id m f26_7) (aC P id m .skip) sf st Q := rfl
def f26_4 : AC := .seq f26_5 f26_6
theorem f26_4e : aC P id m f26_4 sf st Q = aC P id m f26_5 sf st (seqQ (aC P id m f26_6) Q) := rfl
def f26_10l : List GI := [vv 5 0,
    vn 6 5,
    vd 7 6 1,
    vl 8 7,
    vo 2 8]
def f26_10 : AC := .ops [2] [] f26_10l
theorem f26_10e : aC P id m f26_10 sf st Q = runI P id m f26_10l (opsK [2] [] Q) sf st := rfl
def f26_9 : AC := .seq f26_10 .ret
theorem f26_9e : aC P id m f26_9 sf st Q = aC P id m f26_10 sf st (seqQ (aC P id m .ret) Q) := rfl
def f26_3 : AC := .seq f26_4 f26_9
theorem f26_3e : aC P id m f26_3 sf st Q = aC P id m f26_4 sf st (seqQ (aC P id m f26_9) Q) := rfl
def f26_1 : AC := .seq f26_2 f26_3
theorem f26_1e : aC P id m f26_1 sf st Q = aC P id m f26_2 sf st (seqQ (aC P id m f26_3) Q) := rfl
def c_f26 : AFun := ⟨9, [.tmp 2], f26_1⟩
theorem k_f26 : compF Go.Proofs.Try.prog x_f26 26 = some c_f26 := by kernel_rfl
theorem e_f26 : enterB Go.Proofs.Try.prog 26 = true := by kernel_rfl

def n_f27 : Nat := 27
def x_f27 : Cx := ⟨some, id, 179, fun s => ([0, 1, 2, 6, 8, 9, 10, 11, 12, 13, 14, 15, 16, 18, 20, 21, 23, 24, 27, 28, 29, 30, 31, 32, 35, 36, 37, 38, 39, 42, 44, 45, 46, 47, 48, 49, 50, 53, 54, 56, 57, 58, 59, 60, 61, 63, 64, 66, 67, 68, 70, 71, 72, 73, 75, 78, 79, 80, 81, 83, 84, 86, 87, 88, 89, 93, 95, 96, 98, 99, 100, 101, 102, 104, 105, 107, 108, 110, 112, 113, 114, 115, 117, 119, 120, 121, 123, 124, 125, 126, 128, 129, 130, 132, 133, 134, 135, 137, 138, 139, 140, 141, 142, 145, 146, 147, 148, 149, 150, 151, 152, 153, 154, 156, 157, 158, 159, 160, 161, 164, 165, 166, 167, 168, 169, 171, 173, 175, 176, 177, 178] : List Nat).contains s, fun s => ([81, 89, 102] : List Nat).contains s, msOf [(2, [0, 4, 5, 7], [4, 5, 7]), (12, [0, 4, 5, 7, 18], [4, 5, 7]), (52, [0, 4, 5, 7, 18, 19], [4, 5, 7]), (212, [0, 4, 5, 7, 9], [4, 5, 7]), (1704, [0, 4, 5, 7, 9, 25], [4, 5, 7]), (6820, [6, 7, 8], [7]), (6822, [0, 4, 5, 7, 9, 33], [4, 5, 7]), (27292, [6, 7, 8], [7]), (27294, [0, 4, 5, 7, 9, 40], [4, 5, 7]), (109180, [6, 7, 8], [7]), (109182, [0, 4, 5, 7, 9, 51], [4, 5, 7]), (436732, [6, 7, 8], [7]), (854, [0, 4, 7, 9], [4, 7]), (1710, [6, 7, 8], [7]), (214, [0, 4, 5, 7, 18, 74], [4, 5, 7]), (1720, [0, 4, 7, 77], [4, 7]), (6884, [6, 7, 8], [7]), (3444, [0, 4, 7, 85], [4, 7]), (13780, [6, 7, 8], [7]), (3446, [0, 4, 7, 10], [4, 7]), (6894, [0, 4, 7, 10], [4, 7]), (13790, [6, 7, 8], [7]), (862, [0, 4, 5, 7, 18, 103], [4, 5, 7]), (3452, [0, 4, 5, 7, 11], [4, 5, 7]), (13812, [0, 4, 5, 7, 11, 111], [4, 5, 7]), (55252, [6, 7, 8], [7]), (13814, [0, 4, 7, 11, 12], [4, 7]), (55260, [0, 4, 7, 11, 12, 122], [4, 7]), (221044, [6, 7, 8], [7]), (55262, [0, 4, 7, 11], [4, 7]), (110526, [6, 7, 8], [7]), (3454, [0, 4, 7, 136], [4, 7]), (13820, [0, 4, 7, 13, 14], [4, 7]), (55284, [0, 4, 7, 13, 14, 144], [4, 7]), (221140, [6, 7, 8], [7]), (55286, [0, 4, 7, 15], [4, 7]), (110574, [0, 4, 7, 15], [4, 7]), (221150, [6, 7, 8], [7]), (14, [0, 4, 7, 16], [4, 7]), (30, [0, 4, 7, 16], [4, 7]), (62, [0, 4, 7, 16], [4, 7]), (126, [4, 7, 16], [4, 7]), (254, [6, 7, 8], [7])]⟩
def f27_2l : List GI := [⟨none, .boxL 4 3 (.r 1)⟩,
    ⟨none, .boxL 5 2 (.r 2)⟩,
    ⟨none, .mv (some 6) (.c (.lit (.pointer none)))⟩,
    ⟨none, .newL 7 [(.lit (.int .i64 0)), (.lit (.slice none 0 0)), (.lit (.bool false))]⟩,
    ⟨none, .mv (some 8) (.c (.lit (.bool false)))⟩]
def f27_2 : AC := .ops [0, 4, 5, 7] [4, 5, 7] f27_2l
theorem f27_2e : aC P id m f27_2 sf st Q = runI P id m f27_2l (opsK [0, 4, 5, 7] [4, 5, 7] Q) sf st := rfl
def f27_5l : List GI := [vd 17 5 0,
    vl 18 17]
def f27_5 : AC := .ops [0, 4, 5, 7, 18] [4, 5, 7] f27_5l
theorem f27_5e : aC P id m f27_5 sf st Q = runI P id m f27_5l (opsK [0, 4, 5, 7, 18] [4, 5, 7] Q) sf st := rfl
def f27_8l : List GI := [vb 20 .eql 18 0,
    vo 19 20]
def f27_8 : AC := .ops [0, 4, 5, 7, 18, 19] [4, 5, 7] f27_8l
theorem f27_8e : aC P id m f27_8 sf st Q = runI P id m f27_8l (opsK [0, 4, 5, 7, 18, 19] [4, 5, 7] Q) sf st := rfl
def f27_11l : List GI := [vv 21 0,
    vd 22 5 1,
    vl 23 22,
    ⟨none, .call (some 24) false (.f 16) [(.r 21), (.r 23)]⟩,
    vo 9 24]
def f27_11 : AC := .ops [0, 4, 5, 7, 9] [4, 5, 7] f27_11l
theorem f27_11e : aC P id m f27_11 sf st Q = runI P id m f27_11l (opsK [0, 4, 5, 7, 9] [4, 5, 7] Q) sf st := rfl
def f27_15l : List GI := [vd 26 5 1,
    vl 27 26,
    vb 28 .lss 27 0,
    vo 25 28]
def f27_15 : AC := .ops [0, 4, 5, 7, 9, 25] [4, 5, 7] f27_15l
theorem f27_15e : aC P id m f27_15 sf st Q = runI P id m f27_15l (opsK [0, 4, 5, 7, 9, 25] [4, 5, 7] Q) sf st := rfl
def f27_18h : List GI := [vv 29 0,
    ⟨none, .load (some 30) (.r 4) (some 3)⟩,
    vv 31 9,
    vb 32 .eql 31 2,
    vv 6 29,
    ⟨none, .store 3 (.r 7) (.r 30)⟩]
def f27_18l : List GI := [vo 8 32]
def f27_18 : AC := .draw [6, 7, 8] [7] [7] f27_18h f27_18l
theorem f27_18e : aC P id m f27_18 sf st Q = headI P id sf.locs st f27_18h (tailK P id m [7] [6, 7, 8] [7] f27_18l Q st) [] ⟨sf.regs, dropL [7] sf.locs⟩ := rfl
def f27_17 : AC := .seq f27_18 .ret
theorem f27_17e : aC P id m f27_17 sf st Q = aC P id m f27_18 sf st (seqQ (aC P id m .ret) Q) := rfl
def f27_20l : List GI := [vd 34 4 2,
    vl 35 34,
    vo 33 35]
def f27_20 : AC := .ops [0, 4, 5, 7, 9, 33] [4, 5, 7] f27_20l
theorem f27_20e : aC P id m f27_20 sf st Q = runI P id m f27_20l (opsK [0, 4, 5, 7, 9, 33] [4, 5, 7] Q) sf st := rfl
def f27_23h : List GI := [vv 36 0,
    ⟨none, .load (some 37) (.r 4) (some 3)⟩,
    vv 38 9,
    vb 39 .eql 38 14,
    vv 6 36,
    ⟨none, .store 3 (.r 7) (.r 37)⟩]
def f27_23l : List GI := [vo 8 39]
def f27_23 : AC := .draw [6, 7, 8] [7] [7] f27_23h f27_23l
theorem f27_23e : aC P id m f27_23 sf st Q = headI P id sf.locs st f27_23h (tailK P id m [7] [6, 7, 8] [7] f27_23l Q st) [] ⟨sf.regs, dropL [7] sf.locs⟩ := rfl
def f27_22 : AC := .seq f27_23 .ret
theorem f27_22e : aC P id m f27_22 sf st Q = aC P id m f27_23 sf st (seqQ (aC P id m .ret) Q) := rfl
def f27_25l : List GI := [vd 41 4 1,
    vl 42 41,
    vd 43 5 1,
    vl 44 43,
    ⟨none, .call (some 45) false (.f 23) [(.r 42), (.r 44)]⟩,
    vb 46 .geq 45 0,
    vo 40 46]
def f27_25 : AC := .ops [0, 4, 5, 7, 9, 40] [4, 5, 7] f27_25l
theorem f27_25e : aC P id m f27_25 sf st Q = runI P id m f27_25l (opsK [0, 4, 5, 7, 9, 40] [4, 5, 7] Q) sf st := rfl
def f27_28h : List GI := [vv 47 0,
    ⟨none, .load (some 48) (.r 4) (some 3)⟩,
    vv 49 9,
    vb 50 .eql 49 11,
    vv 6 47,
    ⟨none, .store 3 (.r 7) (.r 48)⟩]
def f27_28l : List GI := [vo 8 50]
def f27_28 : AC := .draw [6, 7, 8] [7] [7] f27_28h f27_28l
theorem f27_28e : aC P id m f27_28 sf st Q = headI P id sf.locs st f27_28h (tailK P id m [7] [6, 7, 8] [7] f27_28l Q st) [] ⟨sf.regs, dropL [7] sf.locs⟩ := rfl
def f27_27 : AC := .seq f27_28 .ret
theorem f27_27e : aC P id m f27_27 sf st Q = aC P id m f27_28 sf st (seqQ (aC P id m .ret) Q) := rfl
def f27_30l : List GI := [vd 52 4 1,
    vl 53 52,
    ⟨none, .len (some 54) .sl (.r 53)⟩,
    vd 55 4 0,
    vl 56 55,
    ⟨none, .bin (some 57) .num .eql (.r 54) (.r 56)⟩,
    vo 51 57]
def f27_30 : AC := .ops [0, 4, 5, 7, 9, 51] [4, 5, 7] f27_30l
theorem f27_30e : aC P id m f27_30 sf st Q = runI P id m f27_30l (opsK [0, 4, 5, 7, 9, 51] [4, 5, 7] Q) sf st := rfl
def f27_33h : List GI := [vv 58 0,
    ⟨none, .load (some 59) (.r 4) (some 3)⟩,
    vv 60 9,
    vb 61 .eql 60 7,
    vv 6 58,
    ⟨none, .store 3 (.r 7) (.r 59)⟩]
def f27_33l : List GI := [vo 8 61]
def f27_33 : AC := .draw [6, 7, 8] [7] [7] f27_33h f27_33l
theorem f27_33e : aC P id m f27_33 sf st Q = headI P id sf.locs st f27_33h (tailK P id m [7] [6, 7, 8] [7] f27_33l Q st) [] ⟨sf.regs, dropL [7] sf.locs⟩ := rfl
def f27_32 : AC := .seq f27_33 .ret
theorem f27_32e : aC P id m f27_32 sf st Q = aC P id m f27_33 sf st (seqQ (aC P id m .ret) Q) := rfl
def f27_31 : AC := .cond (.r 51) f27_32 .skip
theorem f27_31e : aC P id m f27_31 sf st Q = condI (.r 51) (sf.ev id (.r 51)) (aC P id m f27_32) (aC P id m .skip) sf st Q := rfl
def f27_29 : AC := .seq f27_30 f27_31
theorem f27_29e : aC P id m f27_29 sf st Q = aC P id m f27_30 sf st (seqQ (aC P id m f27_31) Q) := rfl
def f27_26 : AC := .cond (.r 40) f27_27 f27_29
theorem f27_26e : aC P id m f27_26 sf st Q = condI (.r 40) (sf.ev id (.r 40)) (aC P id m f27_27) (aC P id m f27_29) sf st Q := rfl
def f27_24 : AC := .seq f27_25 f27_26
theorem f27_24e : aC P id m f27_24 sf st Q = aC P id m f27_25 sf st (seqQ (aC P id m f27_26) Q) := rfl
def f27_21 : AC := .cond (.r 33) f27_22 f27_24
theorem f27_21e : aC P id m f27_21 sf st Q = condI (.r 33) (sf.ev id (.r 33)) (aC P id m f27_22) (aC P id m f27_24) sf st Q := rfl
def f27_19 : AC := .seq f27_20 f27_21
theorem f27_19e : aC P id m f27_19 sf st Q = aC P id m f27_20 sf st (seqQ (aC P id m f27_21) Q) := rfl
def f27_16 : AC := .cond (.r 25) f27_17 f27_19
theorem f27_16e : aC P id m f27_16 sf st Q = condI (.r 25) (sf.ev id (.r 25)) (aC P id m f27_17) (aC P id m f27_19) sf st Q := rfl
def f27_14 : AC := .seq f27_15 f27_16
theorem f27_14e : aC P id m f27_14 sf st Q = aC P id m f27_15 sf st (seqQ (aC P id m f27_16) Q) := rfl
def f27_13 : AC := .block 1 f27_14
theorem f27_13e : aC P id m f27_13 sf st Q = aC P id m f27_14 sf st (blockQ 1 Q) := rfl
def f27_35h : List GI := [vd 62 4 1,
    vl 63 62,
    ⟨none, .app (some 64) 1 8 (.c (.lit (.slice none 0 0))) (.r 63)⟩,
    vd 65 5 1,
    vl 66 65,
    ⟨none, .bsl (some 67) 1 1 (.lit (.int .i64 0)) [(0, (.r 66))]⟩]
def f27_35l : List GI := [⟨none, .appS 68 64 1 8 (.r 67)⟩,
    vd 69 4 1,
    ⟨none, .store 1 (.r 69) (.r 68)⟩]
def f27_35 : AC := .draw [0, 4, 7, 9] [4, 7] [] f27_35h f27_35l
theorem f27_35e : aC P id m f27_35 sf st Q = headI P id sf.locs st f27_35h (tailK P id m [] [0, 4, 7, 9] [4, 7] f27_35l Q st) [] ⟨sf.regs, dropL [] sf.locs⟩ := rfl
def f27_37h : List GI := [vv 70 0,
    ⟨none, .load (some 71) (.r 4) (some 3)⟩,
    vv 72 9,
    vb 73 .eql 72 0,
    vv 6 70,
    ⟨none, .store 3 (.r 7) (.r 71)⟩]
def f27_37l : List GI := [vo 8 73]
def f27_37 : AC := .draw [6, 7, 8] [7] [7] f27_37h f27_37l
theorem f27_37e : aC P id m f27_37 sf st Q = headI P id sf.locs st f27_37h (tailK P id m [7] [6, 7, 8] [7] f27_37l Q st) [] ⟨sf.regs, dropL [7] sf.locs⟩ := rfl
def f27_36 : AC := .seq f27_37 .ret
theorem f27_36e : aC P id m f27_36 sf st Q = aC P id m f27_37 sf st (seqQ (aC P id m .ret) Q) := rfl
def f27_34 : AC := .seq f27_35 f27_36
theorem f27_34e : aC P id m f27_34 sf st Q = aC P id m f27_35 sf st (seqQ (aC P id m f27_36) Q) := rfl
def f27_12 : AC := .seq f27_13 f27_34
theorem f27_12e : aC P id m f27_12 sf st Q = aC P id m f27_13 sf st (seqQ (aC P id m f27_34) Q) := rfl
def f27_10 : AC := .seq f27_11 f27_12
theorem f27_10e : aC P id m f27_10 sf st Q = aC P id m f27_11 sf st (seqQ (aC P id m f27_12) Q) := rfl
def f27_39l : List GI := [vb 75 .eql 18 1,
    vo 74 75]
def f27_39 : AC := .ops [0, 4, 5, 7, 18, 74] [4, 5, 7] f27_39l
theorem f27_39e : aC P id m f27_39 sf st Q = runI P id m f27_39l (opsK [0, 4, 5, 7, 18, 74] [4, 5, 7] Q) sf st := rfl
def f27_43l : List GI := [vd 76 4 2,
    vl 77 76]
def f27_43 : AC := .ops [0, 4, 7, 77] [4, 7] f27_43l
theorem f27_43e : aC P id m f27_43 sf st Q = runI P id m f27_43l (opsK [0, 4, 7, 77] [4, 7] Q) sf st := rfl
def f27_46h : List GI := [vv 78 0,
    ⟨none, .load (some 79) (.r 4) (some 3)⟩,
    vv 80 0]
def f27_46p : List (Bool × GI) := [(true, vv 6 78)]
def f27_46l : List GI := [⟨none, .store 3 (.r 7) (.r 79)⟩,
    vo 8 81]
def f27_46 : AC := .drawM [6, 7, 8] [7] f27_46h (some 81) (.f 18) [(.r 80), (.c (.lit (.int .i64 0))), (.c (.lit (.int .i64 14)))] f27_46p f27_46l
theorem f27_46e : aC P id m f27_46 sf st Q = (m = false ∧ drawM P id f27_46h (some 81) (.f 18) [(.r 80), (.c (.lit (.int .i64 0))), (.c (.lit (.int .i64 14)))] f27_46p sf st (tailM P id m [6, 7, 8] [7] f27_46l Q)) := rfl
def f27_45 : AC := .seq f27_46 .ret
theorem f27_45e : aC P id m f27_45 sf st Q = aC P id m f27_46 sf st (seqQ (aC P id m .ret) Q) := rfl
def f27_44 : AC := .cond (.r 77) f27_45 .skip
theorem f27_44e : aC P id m f27_44 sf st Q = condI (.r 77) (sf.ev id (.r 77)) (aC P id m f27_45) (aC P id m .skip) sf st Q := rfl
def f27_42 : AC := .seq f27_43 f27_44
theorem f27_42e : aC P id m f27_42 sf st Q = aC P id m f27_43 sf st (seqQ (aC P id m f27_44) Q) := rfl
def f27_49l : List GI := [vd 82 4 1,
    vl 83 82,
    ⟨none, .len (some 84) .sl (.r 83)⟩,
    vb 85 .eql 84 0]
def f27_49 : AC := .ops [0, 4, 7, 85] [4, 7] f27_49l
theorem f27_49e : aC P id m f27_49 sf st Q = runI P id m f27_49l (opsK [0, 4, 7, 85] [4, 7] Q) sf st := rfl
def f27_52h : List GI := [vv 86 0,
    ⟨none, .load (some 87) (.r 4) (some 3)⟩,
    vv 88 0]
def f27_52p : List (Bool × GI) := [(true, vv 6 86)]
def f27_52l : List GI := [⟨none, .store 3 (.r 7) (.r 87)⟩,
    vo 8 89]
def f27_52 : AC := .drawM [6, 7, 8] [7] f27_52h (some 89) (.f 18) [(.r 88), (.c (.lit (.int .i64 0))), (.c (.lit (.int .i64 16)))] f27_52p f27_52l
theorem f27_52e : aC P id m f27_52 sf st Q = (m = false ∧ drawM P id f27_52h (some 89) (.f 18) [(.r 88), (.c (.lit (.int .i64 0))), (.c (.lit (.int .i64 16)))] f27_52p sf st (tailM P id m [6, 7, 8] [7] f27_52l Q)) := rfl
def f27_51 : AC := .seq f27_52 .ret
theorem f27_51e : aC P id m f27_51 sf st Q = aC P id m f27_52 sf st (seqQ (aC P id m .ret) Q) := rfl
def f27_50 : AC := .cond (.r 85) f27_51 .skip
theorem f27_50e : aC P id m f27_50 sf st Q = condI (.r 85) (sf.ev id (.r 85)) (aC P id m f27_51) (aC P id m .skip) sf st Q := rfl
def f27_48 : AC := .seq f27_49 f27_50
theorem f27_48e : aC P id m f27_48 sf st Q = aC P id m f27_49 sf st (seqQ (aC P id m f27_50) Q) := rfl
def f27_54l : List GI := [vd 90 4 1,
    vl 91 90,
    ⟨none, .ixS (some 92) (.r 91) (.c (.lit (.int .i64 0))) 1⟩,
    vl 93 92,
    vo 10 93]
def f27_54 : AC := .ops [0, 4, 7, 10] [4, 7] f27_54l
theorem f27_54e : aC P id m f27_54 sf st Q = runI P id m f27_54l (opsK [0, 4, 7, 10] [4, 7] Q) sf st := rfl
def f27_56l : List GI := [vd 94 4 1,
    vl 95 94,
    ⟨none, .call (some 96) false (.f 21) [(.r 95), (.c (.lit (.int .i64 0)))]⟩,
    vd 97 4 1,
    ⟨none, .store 1 (.r 97) (.r 96)⟩]
def f27_56 : AC := .ops [0, 4, 7, 10] [4, 7] f27_56l
theorem f27_56e : aC P id m f27_56 sf st Q = runI P id m f27_56l (opsK [0, 4, 7, 10] [4, 7] Q) sf st := rfl
def f27_58h : List GI := [vv 98 0,
    ⟨none, .load (some 99) (.r 4) (some 3)⟩,
    vv 100 0,
    vv 101 10]
def f27_58p : List (Bool × GI) := [(true, vv 6 98)]
def f27_58l : List GI := [⟨none, .store 3 (.r 7) (.r 99)⟩,
    vo 8 102]
def f27_58 : AC := .drawM [6, 7, 8] [7] f27_58h (some 102) (.f 18) [(.r 100), (.r 101), (.c (.lit (.int .i64 0)))] f27_58p f27_58l
theorem f27_58e : aC P id m f27_58 sf st Q = (m = false ∧ drawM P id f27_58h (some 102) (.f 18) [(.r 100), (.r 101), (.c (.lit (.int .i64 0)))] f27_58p sf st (tailM P id m [6, 7, 8] [7] f27_58l Q)) := rfl
def f27_57 : AC := .seq f27_58 .ret
theorem f27_57e : aC P id m f27_57 sf st Q = aC P id m f27_58 sf st (seqQ (aC P id m .ret) Q) := rfl
def f27_55 : AC := .seq f27_56 f27_57
theorem f27_55e : aC P id m f27_55 sf st Q = aC P id m f27_56 sf st (seqQ (aC P id m f27_57) Q) := rfl
def f27_53 : AC := .seq f27_54 f27_55
theorem f27_53e : aC P id m f27_53 sf st Q = aC P id m f27_54 sf st (seqQ (aC P id m f27_55) Q) := rfl
def f27_47 : AC := .seq f27_48 f27_53
theorem f27_47e : aC P id m f27_47 sf st Q = aC P id m f27_48 sf st (seqQ (aC P id m f27_53) Q) := rfl
def f27_41 : AC := .seq f27_42 f27_47
theorem f27_41e : aC P id m f27_41 sf st Q = aC P id m f27_42 sf st (seqQ (aC P id m f27_47) Q) := rfl
def f27_60l : List GI := [vb 104 .eql 18 2,
    vo 103 104]
def f27_60 : AC := .ops [0, 4, 5, 7, 18, 103] [4, 5, 7] f27_60l
theorem f27_60e : aC P id m f27_60 sf st Q = runI P id m f27_60l (opsK [0, 4, 5, 7, 18, 103] [4, 5, 7] Q) sf st := rfl
def f27_63l : List GI := [vv 105 0,
    vd 106 5 1,
    vl 107 106,
    ⟨none, .call (some 108) false (.f 22) [(.r 105), (.r 107)]⟩,
    vo 11 108]
def f27_63 : AC := .ops [0, 4, 5, 7, 11] [4, 5, 7] f27_63l
theorem f27_63e : aC P id m f27_63 sf st Q = runI P id m f27_63l (opsK [0, 4, 5, 7, 11] [4, 5, 7] Q) sf st := rfl
def f27_66l : List GI := [vd 109 5 1,
    vl 110 109,
    vb 111 .lss 110 0]
def f27_66 : AC := .ops [0, 4, 5, 7, 11, 111] [4, 5, 7] f27_66l
theorem f27_66e : aC P id m f27_66 sf st Q = runI P id m f27_66l (opsK [0, 4, 5, 7, 11, 111] [4, 5, 7] Q) sf st := rfl
def f27_69h : List GI := [vv 112 0,
    ⟨none, .load (some 113) (.r 4) (some 3)⟩,
    vv 114 11,
    vb 115 .eql 114 2,
    vv 6 112,
    ⟨none, .store 3 (.r 7) (.r 113)⟩]
def f27_69l : List GI := [vo 8 115]
def f27_69 : AC := .draw [6, 7, 8] [7] [7] f27_69h f27_69l
theorem f27_69e : aC P id m f27_69 sf st Q = headI P id sf.locs st f27_69h (tailK P id m [7] [6, 7, 8] [7] f27_69l Q st) [] ⟨sf.regs, dropL [7] sf.locs⟩ := rfl
def f27_68 : AC := .seq f27_69 .ret
theorem f27_68e : aC P id m f27_68 sf st Q = aC P id m f27_69 sf st (seqQ (aC P id m .ret) Q) := rfl
def f27_67 : AC := .cond (.r 111) f27_68 .skip
theorem f27_67e : aC P id m f27_67 sf st Q = condI (.r 111) (sf.ev id (.r 111)) (aC P id m f27_68) (aC P id m .skip) sf st Q := rfl
def f27_65 : AC := .seq f27_66 f27_67
theorem f27_65e : aC P id m f27_65 sf st Q = aC P id m f27_66 sf st (seqQ (aC P id m f27_67) Q) := rfl
def f27_71l : List GI := [vd 116 4 1,
    vl 117 116,
    vd 118 5 1,
    vl 119 118,
    ⟨none, .call (some 120) false (.f 23) [(.r 117), (.r 119)]⟩,
    vo 12 120]
def f27_71 : AC := .ops [0, 4, 7, 11, 12] [4, 7] f27_71l
theorem f27_71e : aC P id m f27_71 sf st Q = runI P id m f27_71l (opsK [0, 4, 7, 11, 12] [4, 7] Q) sf st := rfl
def f27_74l : List GI := [vv 121 12,
    vb 122 .lss 121 0]
def f27_74 : AC := .ops [0, 4, 7, 11, 12, 122] [4, 7] f27_74l
theorem f27_74e : aC P id m f27_74 sf st Q = runI P id m f27_74l (opsK [0, 4, 7, 11, 12, 122] [4, 7] Q) sf st := rfl
def f27_77h : List GI := [vv 123 0,
    ⟨none, .load (some 124) (.r 4) (some 3)⟩,
    vv 125 11,
    vb 126 .eql 125 9,
    vv 6 123,
    ⟨none, .store 3 (.r 7) (.r 124)⟩]
def f27_77l : List GI := [vo 8 126]
def f27_77 : AC := .draw [6, 7, 8] [7] [7] f27_77h f27_77l
theorem f27_77e : aC P id m f27_77 sf st Q = headI P id sf.locs st f27_77h (tailK P id m [7] [6, 7, 8] [7] f27_77l Q st) [] ⟨sf.regs, dropL [7] sf.locs⟩ := rfl
def f27_76 : AC := .seq f27_77 .ret
theorem f27_76e : aC P id m f27_76 sf st Q = aC P id m f27_77 sf st (seqQ (aC P id m .ret) Q) := rfl
def f27_75 : AC := .cond (.r 122) f27_76 .skip
theorem f27_75e : aC P id m f27_75 sf st Q = condI (.r 122) (sf.ev id (.r 122)) (aC P id m f27_76) (aC P id m .skip) sf st Q := rfl
def f27_73 : AC := .seq f27_74 f27_75
theorem f27_73e : aC P id m f27_73 sf st Q = aC P id m f27_74 sf st (seqQ (aC P id m f27_75) Q) := rfl
def f27_79l : List GI := [vd 127 4 1,
    vl 128 127,
    vv 129 12,
    ⟨none, .call (some 130) false (.f 21) [(.r 128), (.r 129)]⟩,
    vd 131 4 1,
    ⟨none, .store 1 (.r 131) (.r 130)⟩]
def f27_79 : AC := .ops [0, 4, 7, 11] [4, 7] f27_79l
theorem f27_79e : aC P id m f27_79 sf st Q = runI P id m f27_79l (opsK [0, 4, 7, 11] [4, 7] Q) sf st := rfl
def f27_81h : List GI := [vv 132 0,
    ⟨none, .load (some 133) (.r 4) (some 3)⟩,
    vv 134 11,
    vb 135 .eql 134 0,
    vv 6 132,
    ⟨none, .store 3 (.r 7) (.r 133)⟩]
def f27_81l : List GI := [vo 8 135]
def f27_81 : AC := .draw [6, 7, 8] [7] [7] f27_81h f27_81l
theorem f27_81e : aC P id m f27_81 sf st Q = headI P id sf.locs st f27_81h (tailK P id m [7] [6, 7, 8] [7] f27_81l Q st) [] ⟨sf.regs, dropL [7] sf.locs⟩ := rfl
def f27_80 : AC := .seq f27_81 .ret
theorem f27_80e : aC P id m f27_80 sf st Q = aC P id m f27_81 sf st (seqQ (aC P id m .ret) Q) := rfl
def f27_78 : AC := .seq f27_79 f27_80
theorem f27_78e : aC P id m f27_78 sf st Q = aC P id m f27_79 sf st (seqQ (aC P id m f27_80) Q) := rfl
def f27_72 : AC := .seq f27_73 f27_78
theorem f27_72e : aC P id m f27_72 sf st Q = aC P id m f27_73 sf st (seqQ (aC P id m f27_78) Q) := rfl
def f27_70 : AC := .seq f27_71 f27_72
theorem f27_70e : aC P id m f27_70 sf st Q = aC P id m f27_71 sf st (seqQ (aC P id m f27_72) Q) := rfl
def f27_64 : AC := .seq f27_65 f27_70
theorem f27_64e : aC P id m f27_64 sf st Q = aC P id m f27_65 sf st (seqQ (aC P id m f27_70) Q) := rfl
def f27_62 : AC := .seq f27_63 f27_64
theorem f27_62e : aC P id m f27_62 sf st Q = aC P id m f27_63 sf st (seqQ (aC P id m f27_64) Q) := rfl
def f27_83l : List GI := [vb 137 .eql 18 3,
    vo 136 137]
def f27_83 : AC := .ops [0, 4, 7, 136] [4, 7] f27_83l
theorem f27_83e : aC P id m f27_83 sf st Q = runI P id m f27_83l (opsK [0, 4, 7, 136] [4, 7] Q) sf st := rfl
def f27_86l : List GI := [vv 139 0,
    ⟨none, .call (some 140) false (.f 24) [(.r 139)]⟩,
    vv 138 140,
    ve 141 138 0,
    ve 142 138 1,
    vo 13 141,
    vo 14 142]
def f27_86 : AC := .ops [0, 4, 7, 13, 14] [4, 7] f27_86l
theorem f27_86e : aC P id m f27_86 sf st Q = runI P id m f27_86l (opsK [0, 4, 7, 13, 14] [4, 7] Q) sf st := rfl
def f27_89l : List GI := [vd 143 4 2,
    vl 144 143]
def f27_89 : AC := .ops [0, 4, 7, 13, 14, 144] [4, 7] f27_89l
theorem f27_89e : aC P id m f27_89 sf st Q = runI P id m f27_89l (opsK [0, 4, 7, 13, 14, 144] [4, 7] Q) sf st := rfl
def f27_92h : List GI := [vv 145 0,
    ⟨none, .load (some 146) (.r 4) (some 3)⟩,
    vv 147 13,
    ⟨none, .len (some 148) .sl (.r 147)⟩,
    vb 149 .eql 148 0,
    vv 150 149,
    ⟨some (150, true), .mv (some 151) (.r 14)⟩,
    ⟨some (150, true), .bin (some 152) .num .eql (.r 151) (.c (.lit (.int .i64 14)))⟩,
    ⟨none, .pick (some 153) (.r 150) (.r 152) (.c (.lit (.bool false)))⟩,
    vv 6 145,
    ⟨none, .store 3 (.r 7) (.r 146)⟩]
def f27_92l : List GI := [vo 8 153]
def f27_92 : AC := .draw [6, 7, 8] [7] [7] f27_92h f27_92l
theorem f27_92e : aC P id m f27_92 sf st Q = headI P id sf.locs st f27_92h (tailK P id m [7] [6, 7, 8] [7] f27_92l Q st) [] ⟨sf.regs, dropL [7] sf.locs⟩ := rfl
def f27_91 : AC := .seq f27_92 .ret
theorem f27_91e : aC P id m f27_91 sf st Q = aC P id m f27_92 sf st (seqQ (aC P id m .ret) Q) := rfl
def f27_90 : AC := .cond (.r 144) f27_91 .skip
theorem f27_90e : aC P id m f27_90 sf st Q = condI (.r 144) (sf.ev id (.r 144)) (aC P id m f27_91) (aC P id m .skip) sf st Q := rfl
def f27_88 : AC := .seq f27_89 f27_90
theorem f27_88e : aC P id m f27_88 sf st Q = aC P id m f27_89 sf st (seqQ (aC P id m f27_90) Q) := rfl
def f27_94l : List GI := [vv 154 13,
    vd 155 4 1,
    vl 156 155,
    ⟨none, .call (some 157) false (.f 25) [(.r 154), (.r 156)]⟩,
    vv 158 157,
    ⟨some (158, true), .mv (some 159) (.r 14)⟩,
    ⟨some (158, true), .bin (some 160) .num .eql (.r 159) (.c (.lit (.int .i64 0)))⟩,
    ⟨none, .pick (some 161) (.r 158) (.r 160) (.c (.lit (.bool false)))⟩,
    vo 15 161]
def f27_94 : AC := .ops [0, 4, 7, 15] [4, 7] f27_94l
theorem f27_94e : aC P id m f27_94 sf st Q = runI P id m f27_94l (opsK [0, 4, 7, 15] [4, 7] Q) sf st := rfl
def f27_96l : List GI := [vd 162 4 1,
    ⟨none, .store 1 (.r 162) (.c (.lit (.slice none 0 0)))⟩,
    vd 163 4 2,
    ⟨none, .store 1 (.r 163) (.c (.lit (.bool true)))⟩]
def f27_96 : AC := .ops [0, 4, 7, 15] [4, 7] f27_96l
theorem f27_96e : aC P id m f27_96 sf st Q = runI P id m f27_96l (opsK [0, 4, 7, 15] [4, 7] Q) sf st := rfl
def f27_98h : List GI := [vv 164 0,
    ⟨none, .load (some 165) (.r 4) (some 3)⟩,
    vv 166 15,
    vv 6 164,
    ⟨none, .store 3 (.r 7) (.r 165)⟩]
def f27_98l : List GI := [vo 8 166]
def f27_98 : AC := .draw [6, 7, 8] [7] [7] f27_98h f27_98l
theorem f27_98e : aC P id m f27_98 sf st Q = headI P id sf.locs st f27_98h (tailK P id m [7] [6, 7, 8] [7] f27_98l Q st) [] ⟨sf.regs, dropL [7] sf.locs⟩ := rfl
def f27_97 : AC := .seq f27_98 .ret
theorem f27_97e : aC P id m f27_97 sf st Q = aC P id m f27_98 sf st (seqQ (aC P id m .ret) Q) := rfl
def f27_95 : AC := .seq f27_96 f27_97
theorem f27_95e : aC P id m f27_95 sf st Q = aC P id m f27_96 sf st (seqQ (aC P id m f27_97) Q) := rfl
def f27_93 : AC := .seq f27_94 f27_95
theorem f27_93e : aC P id m f27_93 sf st Q = aC P id m f27_94 sf st (seqQ (aC P id m f27_95) Q) := rfl
def f27_87 : AC := .seq f27_88 f27_93
theorem f27_87e : aC P id m f27_87 sf st Q = aC P id m f27_88 sf st (seqQ (aC P id m f27_93) Q) := rfl
def f27_85 : AC := .seq f27_86 f27_87
theorem f27_85e : aC P id m f27_85 sf st Q = aC P id m f27_86 sf st (seqQ (aC P id m f27_87) Q) := rfl
def f27_84 : AC := .cond (.r 136) f27_85 .skip
theorem f27_84e : aC P id m f27_84 sf st Q = condI (.r 136) (sf.ev id (.r 136)) (aC P id m f27_85) (aC P id m .skip) sf st Q := rfl
def f27_82 : AC := .seq f27_83 f27_84
theorem f27_82e : aC P id m f27_82 sf st Q = aC P id m f27_83 sf st (seqQ (aC P id m f27_84) Q) := rfl
def f27_61 : AC := .cond (.r 103) f27_62 f27_82
theorem f27_61e : aC P id m f27_61 sf st Q = condI (.r 103) (sf.ev id (.r 103)) (aC P id m f27_62) (aC P id m f27_82) sf st Q := rfl
def f27_59 : AC := .seq f27_60 f27_61
theorem f27_59e : aC P id m f27_59 sf st Q = aC P id m f27_60 sf st (seqQ (aC P id m f27_61) Q) := rfl
def f27_40 : AC := .cond (.r 74) f27_41 f27_59
theorem f27_40e : aC P id m f27_40 sf st Q = condI (.r 74) (sf.ev id (.r 74)) (aC P id m f27_41) (aC P id m f27_59) sf st Q := rfl
def f27_38 : AC := .seq f27_39 f27_40
theorem f27_38e : aC P id m f27_38 sf st Q = aC P id m f27_39 sf st (seqQ (aC P id m f27_40) Q) := rfl
def f27_9 : AC := .cond (.r 19) f27_10 f27_38
theorem f27_9e : aC P id m f27_9 sf st Q = condI (.r 19) (sf.ev id (.r 19)) (aC P id m f27_10) (aC P id m f27_38) sf st Q := rfl
def f27_7 : AC := .seq f27_8 f27_9
theorem f27_7e : aC P id m f27_7 sf st Q = aC P id m f27_8 sf st (seqQ (aC P id m f27_9) Q) := rfl
def f27_6 : AC := .block 0 f27_7
theorem f27_6e : aC P id m f27_6 sf st Q = aC P id m f27_7 sf st (blockQ 0 Q) := rfl
def f27_4 : AC := .seq f27_5 f27_6
theorem f27_4e : aC P id m f27_4 sf st Q = aC P id m f27_5 sf st (seqQ (aC P id m f27_6) Q) := rfl
def f27_100l : List GI := [vv 167 0,
    ⟨none, .call (some 168) false (.f 28) [(.r 167)]⟩,
    vo 16 168]
def f27_100 : AC := .ops [0, 4, 7, 16] [4, 7] f27_100l
theorem f27_100e : aC P id m f27_100 sf st Q = runI P id m f27_100l (opsK [0, 4, 7, 16] [4, 7] Q) sf st := rfl
def f27_102l : List GI := [vv 169 0,
    ⟨none, .call (some 170) false (.f 16) [(.r 169), (.c (.lit (.int .i64 77)))]⟩]
def f27_102 : AC := .ops [0, 4, 7, 16] [4, 7] f27_102l
theorem f27_102e : aC P id m f27_102 sf st Q = runI P id m f27_102l (opsK [0, 4, 7, 16] [4, 7] Q) sf st := rfl
def f27_104l : List GI := [vv 171 0,
    ⟨none, .call (some 172) false (.f 20) [(.r 171)]⟩]
def f27_104 : AC := .ops [0, 4, 7, 16] [4, 7] f27_104l
theorem f27_104e : aC P id m f27_104 sf st Q = runI P id m f27_104l (opsK [0, 4, 7, 16] [4, 7] Q) sf st := rfl
def f27_106l : List GI := [vv 173 0,
    ⟨none, .call (some 174) false (.f 24) [(.r 173)]⟩]
def f27_106 : AC := .ops [4, 7, 16] [4, 7] f27_106l
theorem f27_106e : aC P id m f27_106 sf st Q = runI P id m f27_106l (opsK [4, 7, 16] [4, 7] Q) sf st := rfl
def f27_108h : List GI := [vv 175 16,
    ⟨none, .load (some 176) (.r 4) (some 3)⟩,
    vv 177 16,
    ⟨none, .bin (some 178) (.nil .ptr) .neq (.r 177) (.c (.lit (.pointer none)))⟩,
    vv 6 175,
    ⟨none, .store 3 (.r 7) (.r 176)⟩]
def f27_108l : List GI := [vo 8 178]
def f27_108 : AC := .draw [6, 7, 8] [7] [7] f27_108h f27_108l
theorem f27_108e : aC P id m f27_108 sf st Q = headI P id sf.locs st f27_108h (tailK P id m [7] [6, 7, 8] [7] f27_108l Q st) [] ⟨sf.regs, dropL [7] sf.locs⟩ := rfl
def f27_107 : AC := .seq f27_108 .ret
theorem f27_107e : aC P id m f27_107 sf st Q = aC P id m f27_108 sf st (seqQ (aC P id m .ret) Q) := rfl
def f27_105 : AC := .seq f27_106 f27_107
theorem f27_105e : aC P id m f27_105 sf st Q = aC P id m f27_106 sf st (seqQ (aC P id m f27_107) Q) := rfl
def f27_103 : AC := .seq f27_104 f27_105
theorem f27_103e : aC P id m f27_103 sf st Q = aC P id m f27_104 sf st (seqQ (aC P id m f27_105) Q) := rfl
def f27_101 : AC := .seq f27_102 f27_103
theorem f27_101e : aC P id m f27_101 sf st Q = aC P id m f27_102 sf st (seqQ (aC P id m f27_103) Q) := rfl
def f27_99 : AC := .seq f27_100 f27_101
theorem f27_99e : aC P id m f27_99 sf st Q = aC P id m f27_100 sf st (seqQ (aC P id m f27_101) Q) := rfl
def f27_3 : AC := .seq f27_4 f27_99
theorem f27_3e : aC P id m f27_3 sf st Q = aC P id m f27_4 sf st (seqQ (aC P id m f27_99) Q) := rfl
def f27_1 : AC := .seq f27_2 f27_3
theorem f27_1e : aC P id m f27_1 sf st Q = aC P id m f27_2 sf st (seqQ (aC P id m f27_3) Q) := rfl
def c_f27 : AFun := ⟨179, [.tmp 6, .cell 7 (some 3), .tmp 8], f27_1⟩
theorem k_f27 : compF Go.Proofs.Try.prog x_f27 27 = some c_f27 := by kernel_rfl
theorem e_f27 : enterB Go.Proofs.Try.prog 27 = true := by kernel_rfl

def n_f28 : Nat := 28
def x_f28 : Cx := ⟨some, id, 36, fun s => ([0, 2, 3, 6, 7, 9, 13, 14, 15, 16, 17, 18, 19, 20, 23, 24, 25, 27, 32, 35] : List Nat).contains s, fun s => ([] : List Nat).contains s, msOf [(2, [0], []), (12, [0, 8], []), (52, [2], []), (14, [0, 3], []), (60, [0, 3, 18, 19, 20], []), (122, [0, 3, 18, 19, 20], []), (488, [0, 3, 18, 19, 20, 21], []), (1957, [0, 3], []), (7832, [0, 3, 6, 18, 19, 20], []), (7833, [0, 3, 18, 19, 20], []), (1959, [0, 3, 18, 19, 20], []), (62, [3], []), (126, [2], [])]⟩
def f28_2l : List GI := [⟨none, .mv (some 2) (.c (.lit (.pointer none)))⟩]
def f28_2 : AC := .ops [0] [] f28_2l
theorem f28_2e : aC P id m f28_2 sf st Q = runI P id m f28_2l (opsK [0] [] Q) sf st := rfl
def f28_5l : List GI := [vv 7 0,
    ⟨none, .call (some 8) false (.f 46) [(.r 7)]⟩]
def f28_5 : AC := .ops [0, 8] [] f28_5l
theorem f28_5e : aC P id m f28_5 sf st Q = runI P id m f28_5l (opsK [0, 8] [] Q) sf st := rfl
def f28_8l : List GI := [⟨none, .mv (some 2) (.c (.lit (.pointer none)))⟩]
def f28_8 : AC := .ops [2] [] f28_8l
theorem f28_8e : aC P id m f28_8 sf st Q = runI P id m f28_8l (opsK [2] [] Q) sf st := rfl
def f28_7 : AC := .seq f28_8 .ret
theorem f28_7e : aC P id m f28_7 sf st Q = aC P id m f28_8 sf st (seqQ (aC P id m .ret) Q) := rfl
def f28_6 : AC := .cond (.r 8) f28_7 .skip
theorem f28_6e : aC P id m f28_6 sf st Q = condI (.r 8) (sf.ev id (.r 8)) (aC P id m f28_7) (aC P id m .skip) sf st Q := rfl
def f28_4 : AC := .seq f28_5 f28_6
theorem f28_4e : aC P id m f28_4 sf st Q = aC P id m f28_5 sf st (seqQ (aC P id m f28_6) Q) := rfl
def f28_10l : List GI := [vv 10 0,
    vn 11 10,
    vd 12 11 1,
    vl 13 12,
    ⟨none, .call (some 14) false (.f 13) [(.r 13)]⟩,
    vv 9 14,
    ve 15 9 0,
    ve 16 9 1,
    vo 3 15,
    vo 4 16]
def f28_10 : AC := .ops [0, 3] [] f28_10l
theorem f28_10e : aC P id m f28_10 sf st Q = runI P id m f28_10l (opsK [0, 3] [] Q) sf st := rfl
def f28_13l : List GI := [vv 17 0,
    ⟨none, .call (some 18) false (.f 19) [(.r 17)]⟩,
    ⟨none, .len (some 19) .sl (.r 18)⟩,
    ⟨none, .mv (some 20) (.c (.lit (.int .i64 0)))⟩]
def f28_13 : AC := .ops [0, 3, 18, 19, 20] [] f28_13l
theorem f28_13e : aC P id m f28_13 sf st Q = runI P id m f28_13l (opsK [0, 3, 18, 19, 20] [] Q) sf st := rfl
def f28_17l : List GI := [⟨none, .bin (some 21) .num .lss (.r 20) (.r 19)⟩]
def f28_17 : AC := .ops [0, 3, 18, 19, 20, 21] [] f28_17l
theorem f28_17e : aC P id m f28_17 sf st Q = runI P id m f28_17l (opsK [0, 3, 18, 19, 20, 21] [] Q) sf st := rfl
def f28_19 : AC := .cond (.r 21) .skip (.exit [0, 3] [] 0)
theorem f28_19e : aC P id m f28_19 sf st Q = condI (.r 21) (sf.ev id (.r 21)) (aC P id m .skip) (aC P id m (.exit [0, 3] [] 0)) sf st Q := rfl
def f28_23l : List GI := [⟨none, .ixS (some 22) (.r 18) (.r 20) 1⟩,
    vl 23 22,
    vo 6 23]
def f28_23 : AC := .ops [0, 3, 6, 18, 19, 20] [] f28_23l
theorem f28_23e : aC P id m f28_23 sf st Q = runI P id m f28_23l (opsK [0, 3, 6, 18, 19, 20] [] Q) sf st := rfl
def f28_24l : List GI := [vv 24 3,
    vv 25 6,
    ⟨none, .call (some 26) false (.f 16) [(.r 24), (.r 25)]⟩]
def f28_24 : AC := .ops [0, 3, 18, 19, 20] [] f28_24l
theorem f28_24e : aC P id m f28_24 sf st Q = runI P id m f28_24l (opsK [0, 3, 18, 19, 20] [] Q) sf st := rfl
def f28_22 : AC := .seq f28_23 f28_24
theorem f28_22e : aC P id m f28_22 sf st Q = aC P id m f28_23 sf st (seqQ (aC P id m f28_24) Q) := rfl
def f28_21 : AC := .block 1 f28_22
theorem f28_21e : aC P id m f28_21 sf st Q = aC P id m f28_22 sf st (blockQ 1 Q) := rfl
def f28_25l : List GI := [vb 27 .add 20 1,
    vv 20 27]
def f28_25 : AC := .ops [0, 3, 18, 19, 20] [] f28_25l
theorem f28_25e : aC P id m f28_25 sf st Q = runI P id m f28_25l (opsK [0, 3, 18, 19, 20] [] Q) sf st := rfl
def f28_20 : AC := .seq f28_21 f28_25
theorem f28_20e : aC P id m f28_20 sf st Q = aC P id m f28_21 sf st (seqQ (aC P id m f28_25) Q) := rfl
def f28_18 : AC := .seq f28_19 f28_20
theorem f28_18e : aC P id m f28_18 sf st Q = aC P id m f28_19 sf st (seqQ (aC P id m f28_20) Q) := rfl
def f28_16 : AC := .seq f28_17 f28_18
theorem f28_16e : aC P id m f28_16 sf st Q = aC P id m f28_17 sf st (seqQ (aC P id m f28_18) Q) := rfl
def f28_15 : AC := .loop [0, 3, 18, 19, 20] [] f28_16
theorem f28_15w : aC P id m f28_15 sf st Q = loopI (aC P id m f28_16) [0, 3, 18, 19, 20] [] sf st Q := rfl
def f28_14 : AC := .block 0 f28_15
theorem f28_14e : aC P id m f28_14 sf st Q = aC P id m f28_15 sf st (blockQ 0 Q) := rfl
def f28_12 : AC := .seq f28_13 f28_14
theorem f28_12e : aC P id m f28_12 sf st Q = aC P id m f28_13 sf st (seqQ (aC P id m f28_14) Q) := rfl
def f28_27l : List GI := [vv 28 3,
    vv 29 0,
    vn 30 29,
    vd 31 30 2,
    vl 32 31,
    vn 33 28,
    vd 34 33 2,
    ⟨none, .store 1 (.r 34) (.r 32)⟩]
def f28_27 : AC := .ops [3] [] f28_27l
theorem f28_27e : aC P id m f28_27 sf st Q = runI P id m f28_27l (opsK [3] [] Q) sf st := rfl
def f28_29l : List GI := [vv 35 3,
    vo 2 35]
def f28_29 : AC := .ops [2] [] f28_29l
theorem f28_29e : aC P id m f28_29 sf st Q = runI P id m f28_29l (opsK [2] [] Q) sf st := rfl
def f28_28 : AC := .seq f28_29 .ret
theorem f28_28e : aC P id m f28_28 sf st Q = aC P id m f28_29 sf st (seqQ (aC P id m .ret) Q) := rfl
def f28_26 : AC := .seq f28_27 f28_28
theorem f28_26e : aC P id m f28_26 sf st Q = aC P id m f28_27 sf st (seqQ (aC P id m f28_28) Q) := rfl
def f28_11 : AC := .seq f28_12 f28_26
theorem f28_11e : aC P id m f28_11 sf st Q = aC P id m f28_12 sf st (seqQ (aC P id m f28_26) Q) := rfl
def f28_9 : AC := .seq f28_10 f28_11
theorem f28_9e : aC P id m f28_9 sf st Q = aC P id m f28_10 sf st (seqQ (aC P id m f28_11) Q) := rfl
def f28_3 : AC := .seq f28_4 f28_9
theorem f28_3e : aC P id m f28_3 sf st Q = aC P id m f28_4 sf st (seqQ (aC P id m f28_9) Q) := rfl
def f28_1 : AC := .seq f28_2 f28_3
theorem f28_1e : aC P id m f28_1 sf st Q = aC P id m f28_2 sf st (seqQ (aC P id m f28_3) Q) := rfl
def c_f28 : AFun := ⟨36, [.tmp 2], f28_1⟩
theorem k_f28 : compF Go.Proofs.Try.prog x_f28 28 = some c_f28 := by kernel_rfl
theorem e_f28 : enterB Go.Proofs.Try.prog 28 = true := by kernel_rfl

def n_f45 : Nat := 45
def x_f45 : Cx := ⟨some, id, 4, fun s => ([0, 1, 2, 3] : List Nat).contains s, fun s => ([] : List Nat).contains s, msOf [(2, [], []), (6, [0], [])]⟩
def f45_2l : List GI := [⟨none, .mv (some 0) (.c (.lit (.pointer none)))⟩]
def f45_2 : AC := .ops [] [] f45_2l
theorem f45_2e : aC P id m f45_2 sf st Q = runI P id m f45_2l (opsK [] [] Q) sf st := rfl
def f45_4l : List GI := [⟨none, .mkmap 1⟩,
    ⟨none, .bst (some 2) [(0, 3), (3, 1)] (.agg [(.lit (.int .u64 0)), (.lit (.int .u64 0)), (.lit (.int .u64 0)), (.lit (.map none))]) [(1, (.r 1))]⟩,
    ⟨none, .boxB 3 4 (.r 2)⟩,
    vo 0 3]
def f45_4 : AC := .ops [0] [] f45_4l
theorem f45_4e : aC P id m f45_4 sf st Q = runI P id m f45_4l (opsK [0] [] Q) sf st := rfl
def f45_3 : AC := .seq f45_4 .ret
theorem f45_3e : aC P id m f45_3 sf st Q = aC P id m f45_4 sf st (seqQ (aC P id m .ret) Q) := rfl
def f45_1 : AC := .seq f45_2 f45_3
theorem f45_1e : aC P id m f45_1 sf st Q = aC P id m f45_2 sf st (seqQ (aC P id m f45_3) Q) := rfl
def c_f45 : AFun := ⟨4, [.tmp 0], f45_1⟩
theorem k_f45 : compF Go.Proofs.Try.prog x_f45 45 = some c_f45 := by kernel_rfl
theorem e_f45 : enterB Go.Proofs.Try.prog 45 = true := by kernel_rfl

def n_f46 : Nat := 46
def x_f46 : Cx := ⟨some, id, 12, fun s => ([0, 2, 3, 4, 5, 9, 10, 11] : List Nat).contains s, fun s => ([] : List Nat).contains s, msOf [(2, [0], []), (6, [2], [])]⟩
def f46_2l : List GI := [⟨none, .mv (some 2) (.c (.lit (.bool false)))⟩]
def f46_2 : AC := .ops [0] [] f46_2l
theorem f46_2e : aC P id m f46_2 sf st Q = runI P id m f46_2l (opsK [0] [] Q) sf st := rfl
def f46_4l : List GI := [vv 3 0,
    ⟨none, .bin (some 4) (.nil .ptr) .eql (.r 3) (.c (.lit (.pointer none)))⟩,
    vv 5 4,
    ⟨some (5, false), .mv (some 6) (.r 0)⟩,
    ⟨some (5, false), .nilck (some 7) (.r 6)⟩,
    ⟨some (5, false), .addr (some 8) (.r 7) 0⟩,
    ⟨some (5, false), .load (some 9) (.r 8) none⟩,
    ⟨some (5, false), .bin (some 10) (.nil .ptr) .eql (.r 9) (.c (.lit (.pointer none)))⟩,
    ⟨none, .pick (some 11) (.r 5) (.c (.lit (.bool true))) (.r 10)⟩,
    vo 2 11]
def f46_4 : AC := .ops [2] [] f46_4l
theorem f46_4e : aC P id m f46_4 sf st Q = runI P id m f46_4l (opsK [2] [] Q) sf st := rfl
def f46_3 : AC := .seq f46_4 .ret
theorem f46_3e : aC P id m f46_3 sf st Q = aC P id m f46_4 sf st (seqQ (aC P id m .ret) Q) := rfl
def f46_1 : AC := .seq f46_2 f46_3
theorem f46_1e : aC P id m f46_1 sf st Q = aC P id m f46_2 sf st (seqQ (aC P id m f46_3) Q) := rfl
def c_f46 : AFun := ⟨12, [.tmp 2], f46_1⟩
theorem k_f46 : compF Go.Proofs.Try.prog x_f46 46 = some c_f46 := by kernel_rfl
theorem e_f46 : enterB Go.Proofs.Try.prog 46 = true := by kernel_rfl

def n_f47 : Nat := 47
def x_f47 : Cx := ⟨some, id, 10, fun s => ([0, 2, 3, 8, 9] : List Nat).contains s, fun s => ([] : List Nat).contains s, msOf [(2, [0], []), (12, [0, 4], []), (52, [2], []), (14, [2], [])]⟩
def f47_2l : List GI := [⟨none, .mv (some 2) (.c (.lit (.int .i64 0)))⟩]
def f47_2 : AC := .ops [0] [] f47_2l
theorem f47_2e : aC P id m f47_2 sf st Q = runI P id m f47_2l (opsK [0] [] Q) sf st := rfl
def f47_5l : List GI := [vv 3 0,
    ⟨none, .call (some 4) false (.f 68) [(.r 3)]⟩]
def f47_5 : AC := .ops [0, 4] [] f47_5l
theorem f47_5e : aC P id m f47_5 sf st Q = runI P id m f47_5l (opsK [0, 4] [] Q) sf st := rfl
def f47_8l : List GI := [⟨none, .mv (some 2) (.c (.lit (.int .i64 0)))⟩]
def f47_8 : AC := .ops [2] [] f47_8l
theorem f47_8e : aC P id m f47_8 sf st Q = runI P id m f47_8l (opsK [2] [] Q) sf st := rfl
def f47_7 : AC := .seq f47_8 .ret
theorem f47_7e : aC P id m f47_7 sf st Q = aC P id m f47_8 sf st (seqQ (aC P id m .ret) Q) := rfl
def f47_6 : AC := .cond (.r 4) f47_7 .skip
theorem f47_6e : aC P id m f47_6 sf st Q = condI (.r 4) (sf.ev id (.r 4)) (aC P id m f47_7) (aC P id m .skip) sf st Q := rfl
def f47_4 : AC := .seq f47_5 f47_6
theorem f47_4e : aC P id m f47_4 sf st Q = aC P id m f47_5 sf st (seqQ (aC P id m f47_6) Q) := rfl
def f47_10l : List GI := [vv 5 0,
    vn 6 5,
    vd 7 6 3,
    vl 8 7,
    ⟨none, .len (some 9) .mp (.r 8)⟩,
    vo 2 9]
def f47_10 : AC := .ops [2] [] f47_10l
theorem f47_10e : aC P id m f47_10 sf st Q = runI P id m f47_10l (opsK [2] [] Q) sf st := rfl
def f47_9 : AC := .seq f47_10 .ret
theorem f47_9e : aC P id m f47_9 sf st Q = aC P id m f47_10 sf st (seqQ (aC P id m .ret) Q) := rfl
def f47_3 : AC := .seq f47_4 f47_9
theorem f47_3e : aC P id m f47_3 sf st Q = aC P id m f47_4 sf st (seqQ (aC P id m f47_9) Q) := rfl
def f47_1 : AC := .seq f47_2 f47_3
theorem f47_1e : aC P id m f47_1 sf st Q = aC P id m f47_2 sf st (seqQ (aC P id m f47_3) Q) := rfl
def c_f47 : AFun := ⟨10, [.tmp 2], f47_1⟩
theorem k_f47 : compF Go.Proofs.Try.prog x_f47 47 = some c_f47 := by kernel_rfl
theorem e_f47 : enterB Go.Proofs.Try.prog 47 = true := by kernel_rfl

def n_f48 : Nat := 48
def x_f48 : Cx := ⟨some, id, 97, fun s => ([0, 1, 4, 5, 8, 9, 14, 15, 16, 21, 22, 29, 34, 35, 40, 41, 46, 53, 60, 65, 66, 71, 76, 81, 82, 88, 96] : List Nat).contains s, fun s => ([] : List Nat).contains s, msOf [(2, [0, 1], []), (24, [0, 1, 7], []), (100, [4, 5], []), (102, [0, 1, 10], []), (412, [4, 5], []), (14, [0, 1], []), (30, [0], []), (124, [0, 47], []), (250, [0], []), (502, [0, 6], [6]), (1006, [0, 6], [6]), (1007, [0], []), (126, [0], []), (254, [4, 5], [])]⟩
def f48_2l : List GI := [⟨none, .mv (some 4) (.c (.lit (.int .u64 0)))⟩,
    ⟨none, .mv (some 5) (.c (.lit (.int .i64 0)))⟩]
def f48_2 : AC := .ops [0, 1] [] f48_2l
theorem f48_2e : aC P id m f48_2 sf st Q = runI P id m f48_2l (opsK [0, 1] [] Q) sf st := rfl
def f48_6l : List GI := [vv 8 0,
    ⟨none, .call (some 9) false (.f 68) [(.r 8)]⟩,
    vo 7 9]
def f48_6 : AC := .ops [0, 1, 7] [] f48_6l
theorem f48_6e : aC P id m f48_6 sf st Q = runI P id m f48_6l (opsK [0, 1, 7] [] Q) sf st := rfl
def f48_9l : List GI := [⟨none, .mv (some 4) (.c (.lit (.int .u64 0)))⟩,
    ⟨none, .mv (some 5) (.c (.lit (.int .i64 1)))⟩]
def f48_9 : AC := .ops [4, 5] [] f48_9l
theorem f48_9e : aC P id m f48_9 sf st Q = runI P id m f48_9l (opsK [4, 5] [] Q) sf st := rfl
def f48_8 : AC := .seq f48_9 .ret
theorem f48_8e : aC P id m f48_8 sf st Q = aC P id m f48_9 sf st (seqQ (aC P id m .ret) Q) := rfl
def f48_11l : List GI := [vv 11 0,
    vn 12 11,
    vd 13 12 3,
    vl 14 13,
    ⟨none, .len (some 15) .mp (.r 14)⟩,
    vb 16 .geq 15 4096,
    vo 10 16]
def f48_11 : AC := .ops [0, 1, 10] [] f48_11l
theorem f48_11e : aC P id m f48_11 sf st Q = runI P id m f48_11l (opsK [0, 1, 10] [] Q) sf st := rfl
def f48_14l : List GI := [⟨none, .mv (some 4) (.c (.lit (.int .u64 0)))⟩,
    ⟨none, .mv (some 5) (.c (.lit (.int .i64 7)))⟩]
def f48_14 : AC := .ops [4, 5] [] f48_14l
theorem f48_14e : aC P id m f48_14 sf st Q = runI P id m f48_14l (opsK [4, 5] [] Q) sf st := rfl
def f48_13 : AC := .seq f48_14 .ret
theorem f48_13e : aC P id m f48_13 sf st Q = aC P id m f48_14 sf st (seqQ (aC P id m .ret) Q) := rfl
def f48_12 : AC := .cond (.r 10) f48_13 .skip
theorem f48_12e : aC P id m f48_12 sf st Q = condI (.r 10) (sf.ev id (.r 10)) (aC P id m f48_13) (aC P id m .skip) sf st Q := rfl
def f48_10 : AC := .seq f48_11 f48_12
theorem f48_10e : aC P id m f48_10 sf st Q = aC P id m f48_11 sf st (seqQ (aC P id m f48_12) Q) := rfl
def f48_7 : AC := .cond (.r 7) f48_8 f48_10
theorem f48_7e : aC P id m f48_7 sf st Q = condI (.r 7) (sf.ev id (.r 7)) (aC P id m f48_8) (aC P id m f48_10) sf st Q := rfl
def f48_5 : AC := .seq f48_6 f48_7
theorem f48_5e : aC P id m f48_5 sf st Q = aC P id m f48_6 sf st (seqQ (aC P id m f48_7) Q) := rfl
def f48_4 : AC := .block 0 f48_5
theorem f48_4e : aC P id m f48_4 sf st Q = aC P id m f48_5 sf st (blockQ 0 Q) := rfl
def f48_16l : List GI := [vv 17 0,
    vn 18 17,
    vd 19 18 0,
    vd 20 19 2,
    vl 21 20,
    ⟨none, .bin (some 22) .num .add (.r 21) (.c (.lit (.int .u64 1)))⟩,
    vn 23 17,
    vd 24 23 0,
    vd 25 24 2,
    ⟨none, .store 1 (.r 25) (.r 22)⟩]
def f48_16 : AC := .ops [0, 1] [] f48_16l
theorem f48_16e : aC P id m f48_16 sf st Q = runI P id m f48_16l (opsK [0, 1] [] Q) sf st := rfl
def f48_18h : List GI := [vv 26 0,
    vn 27 26,
    vd 28 27 3,
    vl 29 28,
    vv 30 0,
    vn 31 30,
    vd 32 31 0,
    vd 33 32 2,
    vl 34 33,
    vv 35 1,
    vv 36 0,
    vn 37 36,
    vd 38 37 0,
    vd 39 38 1,
    vl 40 39,
    ⟨none, .bst (some 41) [(0, 1), (1, 1), (2, 1)] (.agg [(.lit (.int .i64 0)), (.lit (.int .u64 0)), (.lit (.int .u64 0))]) [(0, (.r 35)), (1, (.r 40))]⟩]
def f48_18l : List GI := [⟨none, .upd (.int .u64) (.r 29) (.r 34) (.r 41)⟩]
def f48_18 : AC := .draw [0] [] [] f48_18h f48_18l
theorem f48_18e : aC P id m f48_18 sf st Q = headI P id sf.locs st f48_18h (tailK P id m [] [0] [] f48_18l Q st) [] ⟨sf.regs, dropL [] sf.locs⟩ := rfl
def f48_21l : List GI := [vv 42 0,
    vn 43 42,
    vd 44 43 0,
    vd 45 44 1,
    vl 46 45,
    ⟨none, .bin (some 47) .num .eql (.r 46) (.c (.lit (.int .u64 0)))⟩]
def f48_21 : AC := .ops [0, 47] [] f48_21l
theorem f48_21e : aC P id m f48_21 sf st Q = runI P id m f48_21l (opsK [0, 47] [] Q) sf st := rfl
def f48_23l : List GI := [vv 48 0,
    vv 49 0,
    vn 50 49,
    vd 51 50 0,
    vd 52 51 2,
    vl 53 52,
    vn 54 48,
    vd 55 54 0,
    vd 56 55 0,
    ⟨none, .store 1 (.r 56) (.r 53)⟩]
def f48_23 : AC := .ops [0] [] f48_23l
theorem f48_23e : aC P id m f48_23 sf st Q = runI P id m f48_23l (opsK [0] [] Q) sf st := rfl
def f48_25h : List GI := [vv 57 0,
    vn 58 57,
    vd 59 58 3,
    vl 60 59,
    vv 61 0,
    vn 62 61,
    vd 63 62 0,
    vd 64 63 1,
    vl 65 64,
    ⟨none, .lookup (some 66) (.int .u64) (.agg [(.lit (.int .i64 0)), (.lit (.int .u64 0)), (.lit (.int .u64 0))]) false (.r 60) (.r 65)⟩,
    ⟨none, .newL 6 [(.lit (.int .i64 0)), (.lit (.int .u64 0)), (.lit (.int .u64 0))]⟩]
def f48_25l : List GI := [⟨none, .store 3 (.r 6) (.r 66)⟩]
def f48_25 : AC := .draw [0, 6] [6] [6] f48_25h f48_25l
theorem f48_25e : aC P id m f48_25 sf st Q = headI P id sf.locs st f48_25h (tailK P id m [6] [0, 6] [6] f48_25l Q st) [] ⟨sf.regs, dropL [6] sf.locs⟩ := rfl
def f48_27l : List GI := [vv 67 0,
    vn 68 67,
    vd 69 68 0,
    vd 70 69 2,
    vl 71 70,
    vd 72 6 2,
    ⟨none, .store 1 (.r 72) (.r 71)⟩]
def f48_27 : AC := .ops [0, 6] [6] f48_27l
theorem f48_27e : aC P id m f48_27 sf st Q = runI P id m f48_27l (opsK [0, 6] [6] Q) sf st := rfl
def f48_28h : List GI := [vv 73 0,
    vn 74 73,
    vd 75 74 3,
    vl 76 75,
    vv 77 0,
    vn 78 77,
    vd 79 78 0,
    vd 80 79 1,
    vl 81 80,
    ⟨none, .load (some 82) (.r 6) (some 3)⟩]
def f48_28l : List GI := [⟨none, .upd (.int .u64) (.r 76) (.r 81) (.r 82)⟩]
def f48_28 : AC := .draw [0] [] [] f48_28h f48_28l
theorem f48_28e : aC P id m f48_28 sf st Q = headI P id sf.locs st f48_28h (tailK P id m [] [0] [] f48_28l Q st) [] ⟨sf.regs, dropL [] sf.locs⟩ := rfl
def f48_26 : AC := .seq f48_27 f48_28
theorem f48_26e : aC P id m f48_26 sf st Q = aC P id m f48_27 sf st (seqQ (aC P id m f48_28) Q) := rfl
def f48_24 : AC := .seq f48_25 f48_26
theorem f48_24e : aC P id m f48_24 sf st Q = aC P id m f48_25 sf st (seqQ (aC P id m f48_26) Q) := rfl
def f48_22 : AC := .cond (.r 47) f48_23 f48_24
theorem f48_22e : aC P id m f48_22 sf st Q = condI (.r 47) (sf.ev id (.r 47)) (aC P id m f48_23) (aC P id m f48_24) sf st Q := rfl
def f48_20 : AC := .seq f48_21 f48_22
theorem f48_20e : aC P id m f48_20 sf st Q = aC P id m f48_21 sf st (seqQ (aC P id m f48_22) Q) := rfl
def f48_30l : List GI := [vv 83 0,
    vv 84 0,
    vn 85 84,
    vd 86 85 0,
    vd 87 86 2,
    vl 88 87,
    vn 89 83,
    vd 90 89 0,
    vd 91 90 1,
    ⟨none, .store 1 (.r 91) (.r 88)⟩]
def f48_30 : AC := .ops [0] [] f48_30l
theorem f48_30e : aC P id m f48_30 sf st Q = runI P id m f48_30l (opsK [0] [] Q) sf st := rfl
def f48_32l : List GI := [vv 92 0,
    vn 93 92,
    vd 94 93 0,
    vd 95 94 2,
    vl 96 95,
    vo 4 96,
    ⟨none, .mv (some 5) (.c (.lit (.int .i64 0)))⟩]
def f48_32 : AC := .ops [4, 5] [] f48_32l
theorem f48_32e : aC P id m f48_32 sf st Q = runI P id m f48_32l (opsK [4, 5] [] Q) sf st := rfl
def f48_31 : AC := .seq f48_32 .ret
theorem f48_31e : aC P id m f48_31 sf st Q = aC P id m f48_32 sf st (seqQ (aC P id m .ret) Q) := rfl
def f48_29 : AC := .seq f48_30 f48_31
theorem f48_29e : aC P id m f48_29 sf st Q = aC P id m f48_30 sf st (seqQ (aC P id m f48_31) Q) := rfl
def f48_19 : AC := .seq f48_20 f48_29
theorem f48_19e : aC P id m f48_19 sf st Q = aC P id m f48_20 sf st (seqQ (aC P id m f48_29) Q) := rfl
def f48_17 : AC := .seq f48_18 f48_19
theorem f48_17e : aC P id m f48_17 sf st Q = aC P id m f48_18 sf st (seqQ (aC P id m f48_19) Q) := rfl
def f48_15 : AC := .seq f48_16 f48_17
theorem f48_15e : aC P id m f48_15 sf st Q = aC P id m f48_16 sf st (seqQ (aC P id m f48_17) Q) := rfl
def f48_3 : AC := .seq f48_4 f48_15
theorem f48_3e : aC P id m f48_3 sf st Q = aC P id m f48_4 sf st (seqQ (aC P id m f48_15) Q) := rfl
def f48_1 : AC := .seq f48_2 f48_3
theorem f48_1e : aC P id m f48_1 sf st Q = aC P id m f48_2 sf st (seqQ (aC P id m f48_3) Q) := rfl
def c_f48 : AFun := ⟨97, [.tmp 4, .tmp 5], f48_1⟩
theorem k_f48 : compF Go.Proofs.Try.prog x_f48 48 = some c_f48 := by kernel_rfl
theorem e_f48 : enterB Go.Proofs.Try.prog 48 = true := by kernel_rfl

def n_f49 : Nat := 49
def x_f49 : Cx := ⟨some, id, 7, fun s => ([0, 2, 3, 4, 5, 6] : List Nat).contains s, fun s => ([] : List Nat).contains s, msOf [(2, [0], []), (6, [3], []), (14, [2], [])]⟩
def f49_2l : List GI := [⟨none, .mv (some 2) (.c (.lit .nilFunc))⟩]
def f49_2 : AC := .ops [0] [] f49_2l
theorem f49_2e : aC P id m f49_2 sf st Q = runI P id m f49_2l (opsK [0] [] Q) sf st := rfl
def f49_4l : List GI := [vv 4 0,
    ⟨none, .call (some 5) false (.f 67) [(.r 4)]⟩,
    ⟨none, .newB 3 [(.lit (.pointer none))]⟩,
    ⟨none, .store 1 (.r 3) (.r 5)⟩]
def f49_4 : AC := .ops [3] [] f49_4l
theorem f49_4e : aC P id m f49_4 sf st Q = runI P id m f49_4l (opsK [3] [] Q) sf st := rfl
def f49_6l : List GI := [⟨none, .mkfn (some 6) 69 [] [(.r 3)]⟩,
    vo 2 6]
def f49_6 : AC := .ops [2] [] f49_6l
theorem f49_6e : aC P id m f49_6 sf st Q = runI P id m f49_6l (opsK [2] [] Q) sf st := rfl
def f49_5 : AC := .seq f49_6 .ret
theorem f49_5e : aC P id m f49_5 sf st Q = aC P id m f49_6 sf st (seqQ (aC P id m .ret) Q) := rfl
def f49_3 : AC := .seq f49_4 f49_5
theorem f49_3e : aC P id m f49_3 sf st Q = aC P id m f49_4 sf st (seqQ (aC P id m f49_5) Q) := rfl
def f69 : AC := .seq f49_2 f49_3
theorem f49_1e : aC P id m f69 sf st Q = aC P id m f49_2 sf st (seqQ (aC P id m f49_3) Q) := rfl
def c_f49 : AFun := ⟨7, [.tmp 2], f69⟩
theorem k_f49 : compF Go.Proofs.Try.prog x_f49 49 = some c_f49 := by kernel_rfl
theorem e_f49 : enterB Go.Proofs.Try.prog 49 = true := by kernel_rfl

def n_f50 : Nat := 50
def x_f50 : Cx := ⟨some, id, 22, fun s => ([0, 2, 3, 4, 5, 6, 7, 8, 9, 10, 11, 12, 13, 14, 16, 17, 19, 20, 21] : List Nat).contains s, fun s => ([] : List Nat).contains s, msOf [(2, [0], []), (6, [0, 5, 6, 7], []), (28, [0, 5, 6, 7, 15], []), (58, [5, 6, 7], []), (30, [2, 3, 4], [])]⟩
def f50_2l : List GI := [⟨none, .mv (some 2) (.c (.lit (.int .i64 0)))⟩,
    ⟨none, .mv (some 3) (.c (.lit (.int .u64 0)))⟩,
    ⟨none, .mv (some 4) (.c (.lit (.int .i64 0)))⟩]
def f50_2 : AC := .ops [0] [] f50_2l
theorem f50_2e : aC P id m f50_2 sf st Q = runI P id m f50_2l (opsK [0] [] Q) sf st := rfl
def f50_4l : List GI := [vv 9 0,
    ⟨none, .call (some 10) false (.f 70) [(.r 9)]⟩,
    vv 8 10,
    ve 11 8 0,
    ve 12 8 1,
    ve 13 8 2,
    vo 5 11,
    vo 6 12,
    vo 7 13]
def f50_4 : AC := .ops [0, 5, 6, 7] [] f50_4l
theorem f50_4e : aC P id m f50_4 sf st Q = runI P id m f50_4l (opsK [0, 5, 6, 7] [] Q) sf st := rfl
def f50_7l : List GI := [vv 14 7,
    vb 15 .eql 14 0]
def f50_7 : AC := .ops [0, 5, 6, 7, 15] [] f50_7l
theorem f50_7e : aC P id m f50_7 sf st Q = runI P id m f50_7l (opsK [0, 5, 6, 7, 15] [] Q) sf st := rfl
def f50_9l : List GI := [vv 16 0,
    vv 17 6,
    ⟨none, .call (some 18) false (.f 51) [(.r 16), (.r 17)]⟩]
def f50_9 : AC := .ops [5, 6, 7] [] f50_9l
theorem f50_9e : aC P id m f50_9 sf st Q = runI P id m f50_9l (opsK [5, 6, 7] [] Q) sf st := rfl
def f50_8 : AC := .cond (.r 15) f50_9 .skip
theorem f50_8e : aC P id m f50_8 sf st Q = condI (.r 15) (sf.ev id (.r 15)) (aC P id m f50_9) (aC P id m .skip) sf st Q := rfl
def f50_6 : AC := .seq f50_7 f50_8
theorem f50_6e : aC P id m f50_6 sf st Q = aC P id m f50_7 sf st (seqQ (aC P id m f50_8) Q) := rfl
def f50_11l : List GI := [vv 19 5,
    vv 20 6,
    vv 21 7,
    vo 2 19,
    vo 3 20,
    vo 4 21]
def f50_11 : AC := .ops [2, 3, 4] [] f50_11l
theorem f50_11e : aC P id m f50_11 sf st Q = runI P id m f50_11l (opsK [2, 3, 4] [] Q) sf st := rfl
def f50_10 : AC := .seq f50_11 .ret
theorem f50_10e : aC P id m f50_10 sf st Q = aC P id m f50_11 sf st (seqQ (aC P id m .ret) Q) := rfl
def f50_5 : AC := .seq f50_6 f50_10
theorem f50_5e : aC P id m f50_5 sf st Q = aC P id m f50_6 sf st (seqQ (aC P id m f50_10) Q) := rfl
def f50_3 : AC := .seq f50_4 f50_5
theorem f50_3e : aC P id m f50_3 sf st Q = aC P id m f50_4 sf st (seqQ (aC P id m f50_5) Q) := rfl
def f50_1 : AC := .seq f50_2 f50_3
theorem f50_1e : aC P id m f50_1 sf st Q = aC P id m f50_2 sf st (seqQ (aC P id m f50_3) Q) := rfl
def c_f50 : AFun := ⟨22, [.tmp 2, .tmp 3, .tmp 4], f50_1⟩
theorem k_f50 : compF Go.Proofs.Try.prog x_f50 50 = some c_f50 := by kernel_rfl
theorem e_f50 : enterB Go.Proofs.Try.prog 50 = true := by kernel_rfl

def n_f51 : Nat := 51
def x_f51 : Cx := ⟨some, id, 82, fun s => ([0, 1, 4, 5, 7, 10, 12, 16, 17, 18, 19, 20, 21, 26, 27, 29, 33, 40, 42, 43, 45, 50, 52, 53, 55, 59, 66, 68, 69, 71, 76, 78, 79, 81] : List Nat).contains s, fun s => ([] : List Nat).contains s, msOf [(2, [0, 1], []), (12, [0, 1, 11], []), (52, [4, 5], []), (14, [0, 1, 6, 7], [6]), (60, [0, 1, 6, 22], [6]), (244, [4, 5], []), (62, [0, 6], [6]), (252, [0, 6, 30], [6]), (506, [0, 6], [6]), (1014, [0, 6, 8], [6, 8]), (2030, [0, 6, 8], [6, 8]), (2031, [0, 6], [6]), (508, [0, 6, 56], [6]), (1018, [6], [6]), (2038, [0, 6, 9], [6, 9]), (4078, [0, 6, 9], [6, 9]), (4079, [6], [6]), (510, [4, 5], [])]⟩
def f51_2l : List GI := [⟨none, .mv (some 4) (.c (.lit (.int .i64 0)))⟩,
    ⟨none, .mv (some 5) (.c (.lit (.int .i64 0)))⟩]
def f51_2 : AC := .ops [0, 1] [] f51_2l
theorem f51_2e : aC P id m f51_2 sf st Q = runI P id m f51_2l (opsK [0, 1] [] Q) sf st := rfl
def f51_5l : List GI := [vv 10 0,
    ⟨none, .call (some 11) false (.f 68) [(.r 10)]⟩]
def f51_5 : AC := .ops [0, 1, 11] [] f51_5l
theorem f51_5e : aC P id m f51_5 sf st Q = runI P id m f51_5l (opsK [0, 1, 11] [] Q) sf st := rfl
def f51_8l : List GI := [⟨none, .mv (some 4) (.c (.lit (.int .i64 0)))⟩,
    ⟨none, .mv (some 5) (.c (.lit (.int .i64 1)))⟩]
def f51_8 : AC := .ops [4, 5] [] f51_8l
theorem f51_8e : aC P id m f51_8 sf st Q = runI P id m f51_8l (opsK [4, 5] [] Q) sf st := rfl
def f51_7 : AC := .seq f51_8 .ret
theorem f51_7e : aC P id m f51_7 sf st Q = aC P id m f51_8 sf st (seqQ (aC P id m .ret) Q) := rfl
def f51_6 : AC := .cond (.r 11) f51_7 .skip
theorem f51_6e : aC P id m f51_6 sf st Q = condI (.r 11) (sf.ev id (.r 11)) (aC P id m f51_7) (aC P id m .skip) sf st Q := rfl
def f51_4 : AC := .seq f51_5 f51_6
theorem f51_4e : aC P id m f51_4 sf st Q = aC P id m f51_5 sf st (seqQ (aC P id m f51_6) Q) := rfl
def f51_10l : List GI := [vv 13 0,
    vn 14 13,
    vd 15 14 3,
    vl 16 15,
    vv 17 1,
    ⟨none, .lookup (some 18) (.int .u64) (.agg [(.lit (.int .i64 0)), (.lit (.int .u64 0)), (.lit (.int .u64 0))]) true (.r 16) (.r 17)⟩,
    vv 12 18,
    ve 19 12 0,
    ve 20 12 1,
    ⟨none, .newL 6 [(.lit (.int .i64 0)), (.lit (.int .u64 0)), (.lit (.int .u64 0))]⟩,
    ⟨none, .store 3 (.r 6) (.r 19)⟩,
    vo 7 20]
def f51_10 : AC := .ops [0, 1, 6, 7] [6] f51_10l
theorem f51_10e : aC P id m f51_10 sf st Q = runI P id m f51_10l (opsK [0, 1, 6, 7] [6] Q) sf st := rfl
def f51_13l : List GI := [vv 21 7,
    ⟨none, .un (some 22) .not (.r 21)⟩]
def f51_13 : AC := .ops [0, 1, 6, 22] [6] f51_13l
theorem f51_13e : aC P id m f51_13 sf st Q = runI P id m f51_13l (opsK [0, 1, 6, 22] [6] Q) sf st := rfl
def f51_16l : List GI := [⟨none, .mv (some 4) (.c (.lit (.int .i64 0)))⟩,
    ⟨none, .mv (some 5) (.c (.lit (.int .i64 9)))⟩]
def f51_16 : AC := .ops [4, 5] [] f51_16l
theorem f51_16e : aC P id m f51_16 sf st Q = runI P id m f51_16l (opsK [4, 5] [] Q) sf st := rfl
def f51_15 : AC := .seq f51_16 .ret
theorem f51_15e : aC P id m f51_15 sf st Q = aC P id m f51_16 sf st (seqQ (aC P id m .ret) Q) := rfl
def f51_14 : AC := .cond (.r 22) f51_15 .skip
theorem f51_14e : aC P id m f51_14 sf st Q = condI (.r 22) (sf.ev id (.r 22)) (aC P id m f51_15) (aC P id m .skip) sf st Q := rfl
def f51_12 : AC := .seq f51_13 f51_14
theorem f51_12e : aC P id m f51_12 sf st Q = aC P id m f51_13 sf st (seqQ (aC P id m f51_14) Q) := rfl
def f51_18l : List GI := [vv 23 0,
    vn 24 23,
    vd 25 24 3,
    vl 26 25,
    vv 27 1,
    ⟨none, .del (.int .u64) (.r 26) (.r 27)⟩]
def f51_18 : AC := .ops [0, 6] [6] f51_18l
theorem f51_18e : aC P id m f51_18 sf st Q = runI P id m f51_18l (opsK [0, 6] [6] Q) sf st := rfl
def f51_21l : List GI := [vd 28 6 1,
    vl 29 28,
    ⟨none, .bin (some 30) .num .eql (.r 29) (.c (.lit (.int .u64 0)))⟩]
def f51_21 : AC := .ops [0, 6, 30] [6] f51_21l
theorem f51_21e : aC P id m f51_21 sf st Q = runI P id m f51_21l (opsK [0, 6, 30] [6] Q) sf st := rfl
def f51_23l : List GI := [vv 31 0,
    vd 32 6 2,
    vl 33 32,
    vn 34 31,
    vd 35 34 0,
    vd 36 35 0,
    ⟨none, .store 1 (.r 36) (.r 33)⟩]
def f51_23 : AC := .ops [0, 6] [6] f51_23l
theorem f51_23e : aC P id m f51_23 sf st Q = runI P id m f51_23l (opsK [0, 6] [6] Q) sf st := rfl
def f51_25h : List GI := [vv 37 0,
    vn 38 37,
    vd 39 38 3,
    vl 40 39,
    vd 41 6 1,
    vl 42 41,
    ⟨none, .lookup (some 43) (.int .u64) (.agg [(.lit (.int .i64 0)), (.lit (.int .u64 0)), (.lit (.int .u64 0))]) false (.r 40) (.r 42)⟩,
    ⟨none, .newL 8 [(.lit (.int .i64 0)), (.lit (.int .u64 0)), (.lit (.int .u64 0))]⟩]
def f51_25l : List GI := [⟨none, .store 3 (.r 8) (.r 43)⟩]
def f51_25 : AC := .draw [0, 6, 8] [6, 8] [8] f51_25h f51_25l
theorem f51_25e : aC P id m f51_25 sf st Q = headI P id sf.locs st f51_25h (tailK P id m [8] [0, 6, 8] [6, 8] f51_25l Q st) [] ⟨sf.regs, dropL [8] sf.locs⟩ := rfl
def f51_27l : List GI := [vd 44 6 2,
    vl 45 44,
    vd 46 8 2,
    ⟨none, .store 1 (.r 46) (.r 45)⟩]
def f51_27 : AC := .ops [0, 6, 8] [6, 8] f51_27l
theorem f51_27e : aC P id m f51_27 sf st Q = runI P id m f51_27l (opsK [0, 6, 8] [6, 8] Q) sf st := rfl
def f51_28h : List GI := [vv 47 0,
    vn 48 47,
    vd 49 48 3,
    vl 50 49,
    vd 51 6 1,
    vl 52 51,
    ⟨none, .load (some 53) (.r 8) (some 3)⟩]
def f51_28l : List GI := [⟨none, .upd (.int .u64) (.r 50) (.r 52) (.r 53)⟩]
def f51_28 : AC := .draw [0, 6] [6] [] f51_28h f51_28l
theorem f51_28e : aC P id m f51_28 sf st Q = headI P id sf.locs st f51_28h (tailK P id m [] [0, 6] [6] f51_28l Q st) [] ⟨sf.regs, dropL [] sf.locs⟩ := rfl
def f51_26 : AC := .seq f51_27 f51_28
theorem f51_26e : aC P id m f51_26 sf st Q = aC P id m f51_27 sf st (seqQ (aC P id m f51_28) Q) := rfl
def f51_24 : AC := .seq f51_25 f51_26
theorem f51_24e : aC P id m f51_24 sf st Q = aC P id m f51_25 sf st (seqQ (aC P id m f51_26) Q) := rfl
def f51_22 : AC := .cond (.r 30) f51_23 f51_24
theorem f51_22e : aC P id m f51_22 sf st Q = condI (.r 30) (sf.ev id (.r 30)) (aC P id m f51_23) (aC P id m f51_24) sf st Q := rfl
def f51_20 : AC := .seq f51_21 f51_22
theorem f51_20e : aC P id m f51_20 sf st Q = aC P id m f51_21 sf st (seqQ (aC P id m f51_22) Q) := rfl
def f51_31l : List GI := [vd 54 6 2,
    vl 55 54,
    ⟨none, .bin (some 56) .num .eql (.r 55) (.c (.lit (.int .u64 0)))⟩]
def f51_31 : AC := .ops [0, 6, 56] [6] f51_31l
theorem f51_31e : aC P id m f51_31 sf st Q = runI P id m f51_31l (opsK [0, 6, 56] [6] Q) sf st := rfl
def f51_33l : List GI := [vv 57 0,
    vd 58 6 1,
    vl 59 58,
    vn 60 57,
    vd 61 60 0,
    vd 62 61 1,
    ⟨none, .store 1 (.r 62) (.r 59)⟩]
def f51_33 : AC := .ops [6] [6] f51_33l
theorem f51_33e : aC P id m f51_33 sf st Q = runI P id m f51_33l (opsK [6] [6] Q) sf st := rfl
def f51_35h : List GI := [vv 63 0,
    vn 64 63,
    vd 65 64 3,
    vl 66 65,
    vd 67 6 2,
    vl 68 67,
    ⟨none, .lookup (some 69) (.int .u64) (.agg [(.lit (.int .i64 0)), (.lit (.int .u64 0)), (.lit (.int .u64 0))]) false (.r 66) (.r 68)⟩,
    ⟨none, .newL 9 [(.lit (.int .i64 0)), (.lit (.int .u64 0)), (.lit (.int .u64 0))]⟩]
def f51_35l : List GI := [⟨none, .store 3 (.r 9) (.r 69)⟩]
def f51_35 : AC := .draw [0, 6, 9] [6, 9] [9] f51_35h f51_35l
theorem f51_35e : aC P id m f51_35 sf st Q = headI P id sf.locs st f51_35h (tailK P id m [9] [0, 6, 9] [6, 9] f51_35l Q st) [] ⟨sf.regs, dropL [9] sf.locs⟩ := rfl
def f51_37l : List GI := [vd 70 6 1,
    vl 71 70,
    vd 72 9 1,
    ⟨none, .store 1 (.r 72) (.r 71)⟩]
def f51_37 : AC := .ops [0, 6, 9] [6, 9] f51_37l
theorem f51_37e : aC P id m f51_37 sf st Q = runI P id m f51_37l (opsK [0, 6, 9] [6, 9] Q) sf st := rfl
def f51_38h : List GI := [vv 73 0,
    vn 74 73,
    vd 75 74 3,
    vl 76 75,
    vd 77 6 2,
    vl 78 77,
    ⟨none, .load (some 79) (.r 9) (some 3)⟩]
def f51_38l : List GI := [⟨none, .upd (.int .u64) (.r 76) (.r 78) (.r 79)⟩]
def f51_38 : AC := .draw [6] [6] [] f51_38h f51_38l
theorem f51_38e : aC P id m f51_38 sf st Q = headI P id sf.locs st f51_38h (tailK P id m [] [6] [6] f51_38l Q st) [] ⟨sf.regs, dropL [] sf.locs⟩ := rfl
def f51_36 : AC := .seq f51_37 f51_38
theorem f51_36e : aC P id m f51_36 sf st Q = aC P id m f51_37 sf st (seqQ (aC P id m f51_38) Q) := rfl
def f51_34 : AC := .seq f51_35 f51_36
theorem f51_34e : aC P id m f51_34 sf st Q = aC P id m f51_35 sf st (seqQ (aC P id m f51_36) Q) := rfl
def f51_32 : AC := .cond (.r 56) f51_33 f51_34
theorem f51_32e : aC P id m f51_32 sf st Q = condI (.r 56) (sf.ev id (.r 56)) (aC P id m f51_33) (aC P id m f51_34) sf st Q := rfl
def f51_30 : AC := .seq f51_31 f51_32
theorem f51_30e : aC P id m f51_30 sf st Q = aC P id m f51_31 sf st (seqQ (aC P id m f51_32) Q) := rfl
def f51_40l : List GI := [vd 80 6 0,
    vl 81 80,
    vo 4 81,
    ⟨none, .mv (some 5) (.c (.lit (.int .i64 0)))⟩]
def f51_40 : AC := .ops [4, 5] [] f51_40l
theorem f51_40e : aC P id m f51_40 sf st Q = runI P id m f51_40l (opsK [4, 5] [] Q) sf st := rfl
def f51_39 : AC := .seq f51_40 .ret
theorem f51_39e : aC P id m f51_39 sf st Q = aC P id m f51_40 sf st (seqQ (aC P id m .ret) Q) := rfl
def f51_29 : AC := .seq f51_30 f51_39
theorem f51_29e : aC P id m f51_29 sf st Q = aC P id m f51_30 sf st (seqQ (aC P id m f51_39) Q) := rfl
def f51_19 : AC := .seq f51_20 f51_29
theorem f51_19e : aC P id m f51_19 sf st Q = aC P id m f51_20 sf st (seqQ (aC P id m f51_29) Q) := rfl
def f51_17 : AC := .seq f51_18 f51_19
theorem f51_17e : aC P id m f51_17 sf st Q = aC P id m f51_18 sf st (seqQ (aC P id m f51_19) Q) := rfl
def f51_11 : AC := .seq f51_12 f51_17
theorem f51_11e : aC P id m f51_11 sf st Q = aC P id m f51_12 sf st (seqQ (aC P id m f51_17) Q) := rfl
def f51_9 : AC := .seq f51_10 f51_11
theorem f51_9e : aC P id m f51_9 sf st Q = aC P id m f51_10 sf st (seqQ (aC P id m f51_11) Q) := rfl
def f51_3 : AC := .seq f51_4 f51_9
theorem f51_3e : aC P id m f51_3 sf st Q = aC P id m f51_4 sf st (seqQ (aC P id m f51_9) Q) := rfl
def f51_1 : AC := .seq f51_2 f51_3
theorem f51_1e : aC P id m f51_1 sf st Q = aC P id m f51_2 sf st (seqQ (aC P id m f51_3) Q) := rfl
def c_f51 : AFun := ⟨82, [.tmp 4, .tmp 5], f51_1⟩
theorem k_f51 : compF Go.Proofs.Try.prog x_f51 51 = some c_f51 := by kernel_rfl
theorem e_f51 : enterB Go.Proofs.Try.prog 51 = true := by kernel_rfl

def n_f67 : Nat := 67
def x_f67 : Cx := ⟨some, id, 16, fun s => ([0, 2, 3, 8, 12, 13, 14, 15] : List Nat).contains s, fun s => ([13] : List Nat).contains s, msOf [(2, [0], []), (12, [0, 4], []), (52, [2], []), (14, [2], [])]⟩
def f67_2l : List GI := [⟨none, .mv (some 2) (.c (.lit (.pointer none)))⟩]
def f67_2 : AC := .ops [0] [] f67_2l
theorem f67_2e : aC P id m f67_2 sf st Q = runI P id m f67_2l (opsK [0] [] Q) sf st := rfl
def f67_5l : List GI := [vv 3 0,
    ⟨none, .call (some 4) false (.f 68) [(.r 3)]⟩]
def f67_5 : AC := .ops [0, 4] [] f67_5l
theorem f67_5e : aC P id m f67_5 sf st Q = runI P id m f67_5l (opsK [0, 4] [] Q) sf st := rfl
def f67_8l : List GI := [⟨none, .mv (some 2) (.c (.lit (.pointer none)))⟩]
def f67_8 : AC := .ops [2] [] f67_8l
theorem f67_8e : aC P id m f67_8 sf st Q = runI P id m f67_8l (opsK [2] [] Q) sf st := rfl
def f67_7 : AC := .seq f67_8 .ret
theorem f67_7e : aC P id m f67_7 sf st Q = aC P id m f67_8 sf st (seqQ (aC P id m .ret) Q) := rfl
def f67_6 : AC := .cond (.r 4) f67_7 .skip
theorem f67_6e : aC P id m f67_6 sf st Q = condI (.r 4) (sf.ev id (.r 4)) (aC P id m f67_7) (aC P id m .skip) sf st Q := rfl
def f67_4 : AC := .seq f67_5 f67_6
theorem f67_4e : aC P id m f67_4 sf st Q = aC P id m f67_5 sf st (seqQ (aC P id m f67_6) Q) := rfl
def f67_10h : List GI := [vv 5 0,
    vn 6 5,
    vd 7 6 0,
    ⟨none, .load (some 8) (.r 7) (some 3)⟩,
    vv 9 0,
    vn 10 9,
    vd 11 10 3,
    vl 12 11]
def f67_10p : List (Bool × GI) := []
def f67_10l : List GI := [⟨none, .bst (some 14) [(0, 3), (3, 1)] (.agg [(.lit (.int .u64 0)), (.lit (.int .u64 0)), (.lit (.int .u64 0)), (.lit (.map none))]) [(0, (.r 8)), (1, (.r 13))]⟩,
    ⟨none, .boxB 15 4 (.r 14)⟩,
    vo 2 15]
def f67_10 : AC := .drawM [2] [] f67_10h (some 13) (.f 77) [(.r 12)] f67_10p f67_10l
theorem f67_10e : aC P id m f67_10 sf st Q = (m = false ∧ drawM P id f67_10h (some 13) (.f 77) [(.r 12)] f67_10p sf st (tailM P id m [2] [] f67_10l Q)) := rfl
def f67_9 : AC := .seq f67_10 .ret
theorem f67_9e : aC P id m f67_9 sf st Q = aC P id m f67_10 sf st (seqQ (aC P id m .ret) Q) := rfl
def f67_3 : AC := .seq f67_4 f67_9
theorem f67_3e : aC P id m f67_3 sf st Q = aC P id m f67_4 sf st (seqQ (aC P id m f67_9) Q) := rfl
def f67_1 : AC := .seq f67_2 f67_3
theorem f67_1e : aC P id m f67_1 sf st Q = aC P id m f67_2 sf st (seqQ (aC P id m f67_3) Q) := rfl
def c_f67 : AFun := ⟨16, [.tmp 2], f67_1⟩
theorem k_f67 : compF Go.Proofs.Try.prog x_f67 67 = some c_f67 := by kernel_rfl
theorem e_f67 : enterB Go.Proofs.Try.prog 67 = true := by kernel_rfl

def n_f68 : Nat := 68
def x_f68 : Cx := ⟨some, id, 12, fun s => ([0, 2, 3, 4, 5, 9, 10, 11] : List Nat).contains s, fun s => ([] : List Nat).contains s, msOf [(2, [0], []), (6, [2], [])]⟩
def f68_2l : List GI := [⟨none, .mv (some 2) (.c (.lit (.bool false)))⟩]
def f68_2 : AC := .ops [0] [] f68_2l
theorem f68_2e : aC P id m f68_2 sf st Q = runI P id m f68_2l (opsK [0] [] Q) sf st := rfl
def f68_4l : List GI := [vv 3 0,
    ⟨none, .bin (some 4) (.nil .ptr) .eql (.r 3) (.c (.lit (.pointer none)))⟩,
    vv 5 4,
    ⟨some (5, false), .mv (some 6) (.r 0)⟩,
    ⟨some (5, false), .nilck (some 7) (.r 6)⟩,
    ⟨some (5, false), .addr (some 8) (.r 7) 3⟩,
    ⟨some (5, false), .load (some 9) (.r 8) none⟩,
    ⟨some (5, false), .bin (some 10) (.nil .mp) .eql (.r 9) (.c (.lit (.map none)))⟩,
    ⟨none, .pick (some 11) (.r 5) (.c (.lit (.bool true))) (.r 10)⟩,
    vo 2 11]
def f68_4 : AC := .ops [2] [] f68_4l
theorem f68_4e : aC P id m f68_4 sf st Q = runI P id m f68_4l (opsK [2] [] Q) sf st := rfl
def f68_3 : AC := .seq f68_4 .ret
theorem f68_3e : aC P id m f68_3 sf st Q = aC P id m f68_4 sf st (seqQ (aC P id m .ret) Q) := rfl
def f68_1 : AC := .seq f68_2 f68_3
theorem f68_1e : aC P id m f68_1 sf st Q = aC P id m f68_2 sf st (seqQ (aC P id m f68_3) Q) := rfl
def c_f68 : AFun := ⟨12, [.tmp 2], f68_1⟩
theorem k_f68 : compF Go.Proofs.Try.prog x_f68 68 = some c_f68 := by kernel_rfl
theorem e_f68 : enterB Go.Proofs.Try.prog 68 = true := by kernel_rfl

def n_f69 : Nat := 69
def x_f69 : Cx := ⟨some, id, 31, fun s => ([0, 3, 4, 10, 11, 16, 17, 18, 19, 20, 21, 25, 26, 27, 28, 29] : List Nat).contains s, fun s => ([] : List Nat).contains s, msOf [(4, [0, 1, 5], []), (6, [0, 1, 3], []), (14, [0, 1, 3], []), (112, [0, 1, 3, 12], []), (227, [], []), (456, [0, 1, 3, 30], []), (115, [0, 1, 3], [])]⟩
def f69_3l : List GI := [vl 4 1,
    ⟨none, .bin (some 5) (.nil .ptr) .eql (.r 4) (.c (.lit (.pointer none)))⟩]
def f69_3 : AC := .ops [0, 1, 5] [] f69_3l
theorem f69_3e : aC P id m f69_3 sf st Q = runI P id m f69_3l (opsK [0, 1, 5] [] Q) sf st := rfl
def f69_4 : AC := .cond (.r 5) .ret .skip
theorem f69_4e : aC P id m f69_4 sf st Q = condI (.r 5) (sf.ev id (.r 5)) (aC P id m .ret) (aC P id m .skip) sf st Q := rfl
def f69_2 : AC := .seq f69_3 f69_4
theorem f69_2e : aC P id m f69_2 sf st Q = aC P id m f69_3 sf st (seqQ (aC P id m f69_4) Q) := rfl
def f69_6l : List GI := [vl 6 1,
    vn 7 6,
    vd 8 7 0,
    vd 9 8 0,
    vl 10 9,
    vo 3 10]
def f69_6 : AC := .ops [0, 1, 3] [] f69_6l
theorem f69_6e : aC P id m f69_6 sf st Q = runI P id m f69_6l (opsK [0, 1, 3] [] Q) sf st := rfl
def f69_11l : List GI := [vv 11 3,
    ⟨none, .bin (some 12) .num .neq (.r 11) (.c (.lit (.int .u64 0)))⟩]
def f69_11 : AC := .ops [0, 1, 3, 12] [] f69_11l
theorem f69_11e : aC P id m f69_11 sf st Q = runI P id m f69_11l (opsK [0, 1, 3, 12] [] Q) sf st := rfl
def f69_12 : AC := .cond (.r 12) .skip (.exit [] [] 0)
theorem f69_12e : aC P id m f69_12 sf st Q = condI (.r 12) (sf.ev id (.r 12)) (aC P id m .skip) (aC P id m (.exit [] [] 0)) sf st Q := rfl
def f69_10 : AC := .seq f69_11 f69_12
theorem f69_10e : aC P id m f69_10 sf st Q = aC P id m f69_11 sf st (seqQ (aC P id m f69_12) Q) := rfl
def f69_16l : List GI := [vv 20 0,
    vv 21 3,
    vl 22 1,
    vn 23 22,
    vd 24 23 3,
    vl 25 24,
    vv 26 3,
    ⟨none, .lookup (some 27) (.int .u64) (.agg [(.lit (.int .i64 0)), (.lit (.int .u64 0)), (.lit (.int .u64 0))]) false (.r 25) (.r 26)⟩,
    ⟨none, .field (some 28) (.r 27) 0 none⟩,
    ⟨none, .call (some 29) false (.r 20) [(.r 21), (.r 28)]⟩,
    ⟨none, .un (some 30) .not (.r 29)⟩]
def f69_16 : AC := .ops [0, 1, 3, 30] [] f69_16l
theorem f69_16e : aC P id m f69_16 sf st Q = runI P id m f69_16l (opsK [0, 1, 3, 30] [] Q) sf st := rfl
def f69_17 : AC := .cond (.r 30) .ret .skip
theorem f69_17e : aC P id m f69_17 sf st Q = condI (.r 30) (sf.ev id (.r 30)) (aC P id m .ret) (aC P id m .skip) sf st Q := rfl
def f69_15 : AC := .seq f69_16 f69_17
theorem f69_15e : aC P id m f69_15 sf st Q = aC P id m f69_16 sf st (seqQ (aC P id m f69_17) Q) := rfl
def f69_14 : AC := .block 1 f69_15
theorem f69_14e : aC P id m f69_14 sf st Q = aC P id m f69_15 sf st (blockQ 1 Q) := rfl
def f69_18l : List GI := [vl 13 1,
    vn 14 13,
    vd 15 14 3,
    vl 16 15,
    vv 17 3,
    ⟨none, .lookup (some 18) (.int .u64) (.agg [(.lit (.int .i64 0)), (.lit (.int .u64 0)), (.lit (.int .u64 0))]) false (.r 16) (.r 17)⟩,
    ⟨none, .field (some 19) (.r 18) 2 none⟩,
    vo 3 19]
def f69_18 : AC := .ops [0, 1, 3] [] f69_18l
theorem f69_18e : aC P id m f69_18 sf st Q = runI P id m f69_18l (opsK [0, 1, 3] [] Q) sf st := rfl
def f69_13 : AC := .seq f69_14 f69_18
theorem f69_13e : aC P id m f69_13 sf st Q = aC P id m f69_14 sf st (seqQ (aC P id m f69_18) Q) := rfl
def f69_9 : AC := .seq f69_10 f69_13
theorem f69_9e : aC P id m f69_9 sf st Q = aC P id m f69_10 sf st (seqQ (aC P id m f69_13) Q) := rfl
def f69_8 : AC := .loop [0, 1, 3] [] f69_9
theorem f69_8w : aC P id m f69_8 sf st Q = loopI (aC P id m f69_9) [0, 1, 3] [] sf st Q := rfl
def f69_7 : AC := .block 0 f69_8
theorem f69_7e : aC P id m f69_7 sf st Q = aC P id m f69_8 sf st (blockQ 0 Q) := rfl
def f69_5 : AC := .seq f69_6 f69_7
theorem f69_5e : aC P id m f69_5 sf st Q = aC P id m f69_6 sf st (seqQ (aC P id m f69_7) Q) := rfl
def f69_1 : AC := .seq f69_2 f69_5
theorem f69_1e : aC P id m f69_1 sf st Q = aC P id m f69_2 sf st (seqQ (aC P id m f69_5) Q) := rfl
def c_f69 : AFun := ⟨31, [], f69_1⟩
theorem k_f69 : compF Go.Proofs.Try.prog x_f69 69 = some c_f69 := by kernel_rfl
theorem e_f69 : enterB Go.Proofs.Try.prog 69 = true := by kernel_rfl

def n_f70 : Nat := 70
def x_f70 : Cx := ⟨some, id, 31, fun s => ([0, 2, 3, 4, 6, 7, 13, 14, 18, 23, 24, 25, 30] : List Nat).contains s, fun s => ([] : List Nat).contains s, msOf [(2, [0], []), (24, [0, 5], []), (100, [2, 3, 4], []), (102, [0, 8], []), (412, [2, 3, 4], []), (14, [2, 3, 4], [])]⟩
def f70_2l : List GI := [⟨none, .mv (some 2) (.c (.lit (.int .i64 0)))⟩,
    ⟨none, .mv (some 3) (.c (.lit (.int .u64 0)))⟩,
    ⟨none, .mv (some 4) (.c (.lit (.int .i64 0)))⟩]
def f70_2 : AC := .ops [0] [] f70_2l
theorem f70_2e : aC P id m f70_2 sf st Q = runI P id m f70_2l (opsK [0] [] Q) sf st := rfl
def f70_6l : List GI := [vv 6 0,
    ⟨none, .call (some 7) false (.f 68) [(.r 6)]⟩,
    vo 5 7]
def f70_6 : AC := .ops [0, 5] [] f70_6l
theorem f70_6e : aC P id m f70_6 sf st Q = runI P id m f70_6l (opsK [0, 5] [] Q) sf st := rfl
def f70_9l : List GI := [⟨none, .mv (some 2) (.c (.lit (.int .i64 0)))⟩,
    ⟨none, .mv (some 3) (.c (.lit (.int .u64 0)))⟩,
    ⟨none, .mv (some 4) (.c (.lit (.int .i64 1)))⟩]
def f70_9 : AC := .ops [2, 3, 4] [] f70_9l
theorem f70_9e : aC P id m f70_9 sf st Q = runI P id m f70_9l (opsK [2, 3, 4] [] Q) sf st := rfl
def f70_8 : AC := .seq f70_9 .ret
theorem f70_8e : aC P id m f70_8 sf st Q = aC P id m f70_9 sf st (seqQ (aC P id m .ret) Q) := rfl
def f70_11l : List GI := [vv 9 0,
    vn 10 9,
    vd 11 10 0,
    vd 12 11 0,
    vl 13 12,
    ⟨none, .bin (some 14) .num .eql (.r 13) (.c (.lit (.int .u64 0)))⟩,
    vo 8 14]
def f70_11 : AC := .ops [0, 8] [] f70_11l
theorem f70_11e : aC P id m f70_11 sf st Q = runI P id m f70_11l (opsK [0, 8] [] Q) sf st := rfl
def f70_14l : List GI := [⟨none, .mv (some 2) (.c (.lit (.int .i64 0)))⟩,
    ⟨none, .mv (some 3) (.c (.lit (.int .u64 0)))⟩,
    ⟨none, .mv (some 4) (.c (.lit (.int .i64 9)))⟩]
def f70_14 : AC := .ops [2, 3, 4] [] f70_14l
theorem f70_14e : aC P id m f70_14 sf st Q = runI P id m f70_14l (opsK [2, 3, 4] [] Q) sf st := rfl
def f70_13 : AC := .seq f70_14 .ret
theorem f70_13e : aC P id m f70_13 sf st Q = aC P id m f70_14 sf st (seqQ (aC P id m .ret) Q) := rfl
def f70_12 : AC := .cond (.r 8) f70_13 .skip
theorem f70_12e : aC P id m f70_12 sf st Q = condI (.r 8) (sf.ev id (.r 8)) (aC P id m f70_13) (aC P id m .skip) sf st Q := rfl
def f70_10 : AC := .seq f70_11 f70_12
theorem f70_10e : aC P id m f70_10 sf st Q = aC P id m f70_11 sf st (seqQ (aC P id m f70_12) Q) := rfl
def f70_7 : AC := .cond (.r 5) f70_8 f70_10
theorem f70_7e : aC P id m f70_7 sf st Q = condI (.r 5) (sf.ev id (.r 5)) (aC P id m f70_8) (aC P id m f70_10) sf st Q := rfl
def f70_5 : AC := .seq f70_6 f70_7
theorem f70_5e : aC P id m f70_5 sf st Q = aC P id m f70_6 sf st (seqQ (aC P id m f70_7) Q) := rfl
def f70_4 : AC := .block 0 f70_5
theorem f70_4e : aC P id m f70_4 sf st Q = aC P id m f70_5 sf st (blockQ 0 Q) := rfl
def f70_16h : List GI := [vv 15 0,
    vn 16 15,
    vd 17 16 3,
    vl 18 17,
    vv 19 0,
    vn 20 19,
    vd 21 20 0,
    vd 22 21 0,
    vl 23 22,
    ⟨none, .lookup (some 24) (.int .u64) (.agg [(.lit (.int .i64 0)), (.lit (.int .u64 0)), (.lit (.int .u64 0))]) false (.r 18) (.r 23)⟩,
    ⟨none, .field (some 25) (.r 24) 0 none⟩,
    vv 26 0,
    vn 27 26,
    vd 28 27 0,
    vd 29 28 0,
    vl 30 29,
    vv 2 25]
def f70_16l : List GI := [vo 3 30,
    ⟨none, .mv (some 4) (.c (.lit (.int .i64 0)))⟩]
def f70_16 : AC := .draw [2, 3, 4] [] [] f70_16h f70_16l
theorem f70_16e : aC P id m f70_16 sf st Q = headI P id sf.locs st f70_16h (tailK P id m [] [2, 3, 4] [] f70_16l Q st) [] ⟨sf.regs, dropL [] sf.locs⟩ := rfl
def f70_15 : AC := .seq f70_16 .ret
theorem f70_15e : aC P id m f70_15 sf st Q = aC P id m f70_16 sf st (seqQ (aC P id m .ret) Q) := rfl
def f70_3 : AC := .seq f70_4 f70_15
theorem f70_3e : aC P id m f70_3 sf st Q = aC P id m f70_4 sf st (seqQ (aC P id m f70_15) Q) := rfl
def f70_1 : AC := .seq f70_2 f70_3
theorem f70_1e : aC P id m f70_1 sf st Q = aC P id m f70_2 sf st (seqQ (aC P id m f70_3) Q) := rfl
def c_f70 : AFun := ⟨31, [.tmp 2, .tmp 3, .tmp 4], f70_1⟩
theorem k_f70 : compF Go.Proofs.Try.prog x_f70 70 = some c_f70 := by kernel_rfl
theorem e_f70 : enterB Go.Proofs.Try.prog 70 = true := by kernel_rfl

def n_f77 : Nat := 77
def x_f77 : Cx := ⟨some, id, 9, fun s => ([0, 2, 3, 5, 6, 7, 8] : List Nat).contains s, fun s => ([] : List Nat).contains s, msOf [(2, [0], []), (12, [0, 4], []), (52, [2], []), (14, [2], [])]⟩
def f77_2l : List GI := [⟨none, .mv (some 2) (.c (.lit (.map none)))⟩]
def f77_2 : AC := .ops [0] [] f77_2l
theorem f77_2e : aC P id m f77_2 sf st Q = runI P id m f77_2l (opsK [0] [] Q) sf st := rfl
def f77_5l : List GI := [vv 3 0,
    ⟨none, .bin (some 4) (.nil .mp) .eql (.r 3) (.c (.lit (.map none)))⟩]
def f77_5 : AC := .ops [0, 4] [] f77_5l
theorem f77_5e : aC P id m f77_5 sf st Q = runI P id m f77_5l (opsK [0, 4] [] Q) sf st := rfl
def f77_8l : List GI := [⟨none, .mv (some 2) (.c (.lit (.map none)))⟩]
def f77_8 : AC := .ops [2] [] f77_8l
theorem f77_8e : aC P id m f77_8 sf st Q = runI P id m f77_8l (opsK [2] [] Q) sf st := rfl
def f77_7 : AC := .seq f77_8 .ret
theorem f77_7e : aC P id m f77_7 sf st Q = aC P id m f77_8 sf st (seqQ (aC P id m .ret) Q) := rfl
def f77_6 : AC := .cond (.r 4) f77_7 .skip
theorem f77_6e : aC P id m f77_6 sf st Q = condI (.r 4) (sf.ev id (.r 4)) (aC P id m f77_7) (aC P id m .skip) sf st Q := rfl
def f77_4 : AC := .seq f77_5 f77_6
theorem f77_4e : aC P id m f77_4 sf st Q = aC P id m f77_5 sf st (seqQ (aC P id m f77_6) Q) := rfl
def f77_10l : List GI := [vv 5 0,
    ⟨none, .mkif (some 6) 116 (.r 5)⟩,
    ⟨none, .x (some 7) (.mclone (.r 6))⟩,
    ⟨none, .tas (some 8) 116 (.r 7)⟩,
    vo 2 8]
def f77_10 : AC := .ops [2] [] f77_10l
theorem f77_10e : aC P id m f77_10 sf st Q = runI P id m f77_10l (opsK [2] [] Q) sf st := rfl
def f77_9 : AC := .seq f77_10 .ret
theorem f77_9e : aC P id m f77_9 sf st Q = aC P id m f77_10 sf st (seqQ (aC P id m .ret) Q) := rfl
def f77_3 : AC := .seq f77_4 f77_9
theorem f77_3e : aC P id m f77_3 sf st Q = aC P id m f77_4 sf st (seqQ (aC P id m f77_9) Q) := rfl
def f77_1 : AC := .seq f77_2 f77_3
theorem f77_1e : aC P id m f77_1 sf st Q = aC P id m f77_2 sf st (seqQ (aC P id m f77_3) Q) := rfl
def c_f77 : AFun := ⟨9, [.tmp 2], f77_1⟩
theorem k_f77 : compF Go.Proofs.Try.prog x_f77 77 = some c_f77 := by kernel_rfl
theorem e_f77 : enterB Go.Proofs.Try.prog 77 = true := by kernel_rfl

def tab (q : Nat) : Option AFun :=
  if q = 3 then some c_f3 else
  if q = 4 then some c_f4 else
  if q = 5 then some c_f5 else
  if q = 6 then some c_f6 else
  if q = 7 then some c_f7 else
  if q = 13 then some c_f13 else
  if q = 14 then some c_f14 else
  if q = 15 then some c_f15 else
  if q = 16 then some c_f16 else
  if q = 17 then some c_f17 else
  if q = 18 then some c_f18 else
  if q = 19 then some c_f19 else
  if q = 20 then some c_f20 else
  if q = 21 then some c_f21 else
  if q = 22 then some c_f22 else
  if q = 23 then some c_f23 else
  if q = 24 then some c_f24 else
  if q = 25 then some c_f25 else
  if q = 26 then some c_f26 else
  if q = 27 then some c_f27 else
  if q = 28 then some c_f28 else
  if q = 45 then some c_f45 else
  if q = 46 then some c_f46 else
  if q = 47 then some c_f47 else
  if q = 48 then some c_f48 else
  if q = 49 then some c_f49 else
  if q = 50 then some c_f50 else
  if q = 51 then some c_f51 else
  if q = 67 then some c_f67 else
  if q = 68 then some c_f68 else
  if q = 69 then some c_f69 else
  if q = 70 then some c_f70 else
  if q = 77 then some c_f77 else
  none
theorem tabOk : TabOk Go.Proofs.Try.prog id tab :=
  tabOk_cons e_f3 k_f3 rfl (
  tabOk_cons e_f4 k_f4 rfl (
  tabOk_cons e_f5 k_f5 rfl (
  tabOk_cons e_f6 k_f6 rfl (
  tabOk_cons e_f7 k_f7 rfl (
  tabOk_cons e_f13 k_f13 rfl (
  tabOk_cons e_f14 k_f14 rfl (
  tabOk_cons e_f15 k_f15 rfl (
  tabOk_cons e_f16 k_f16 rfl (
  tabOk_cons e_f17 k_f17 rfl (
  tabOk_cons e_f18 k_f18 rfl (
  tabOk_cons e_f19 k_f19 rfl (
  tabOk_cons e_f20 k_f20 rfl (
  tabOk_cons e_f21 k_f21 rfl (
  tabOk_cons e_f22 k_f22 rfl (
  tabOk_cons e_f23 k_f23 rfl (
  tabOk_cons e_f24 k_f24 rfl (
  tabOk_cons e_f25 k_f25 rfl (
  tabOk_cons e_f26 k_f26 rfl (
  tabOk_cons e_f27 k_f27 rfl (
  tabOk_cons e_f28 k_f28 rfl (
  tabOk_cons e_f45 k_f45 rfl (
  tabOk_cons e_f46 k_f46 rfl (
  tabOk_cons e_f47 k_f47 rfl (
  tabOk_cons e_f48 k_f48 rfl (
  tabOk_cons e_f49 k_f49 rfl (
  tabOk_cons e_f50 k_f50 rfl (
  tabOk_cons e_f51 k_f51 rfl (
  tabOk_cons e_f67 k_f67 rfl (
  tabOk_cons e_f68 k_f68 rfl (
  tabOk_cons e_f69 k_f69 rfl (
  tabOk_cons e_f70 k_f70 rfl (
  tabOk_cons e_f77 k_f77 rfl (
  tabOk_nil)))))))))))))))))))))))))))))))))
theorem hmix : Go.Proofs.Try.prog.follows .mixedOrders = true := by kernel_rfl
end
end Go.Fx.YtddifejdkiemgaaFx

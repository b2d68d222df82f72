/- The functions that the statement reaches, resolved: printed by a program of ours from the translated code; each is checked here. -/
import Derived.Test.YtddifejdkiemgaaProg
import Derived.Test.YtddifejdkiemgaaFxE
set_option maxRecDepth 100000
set_option maxHeartbeats 0
namespace Go.Fx.YtddifejdkiemgaaFx
open Go Go.Fx
abbrev vv (d x : Nat) : GI := ⟨none, .mv (some d) (.r x)⟩
abbrev vo (d x : Nat) : GI := ⟨none, .own d x⟩
abbrev ve (d x k : Nat) : GI := ⟨none, .ext (some d) (.r x) k⟩
abbrev vn (d x : Nat) : GI := ⟨none, .nilck (some d) (.r x)⟩
abbrev vd (d x k : Nat) : GI := ⟨none, .addr (some d) (.r x) k⟩
abbrev vl (d x : Nat) : GI := ⟨none, .load (some d) (.r x) none⟩
abbrev vb (d : Nat) (o : BinOp) (x : Nat) (n : Int) : GI := ⟨none, .bin (some d) .num o (.r x) (.c (.lit (.int .i64 n)))⟩
section
variable (P : Program) (m : Bool) (sf : Sf) (st : St) (Q : Exit → Sf → St → Prop)
def n_f8 : Nat := 8
def x_f8 : Cx := ⟨some, id, 41, fun s => ([0, 1, 4, 5, 6, 8, 9, 10, 11, 12, 13, 14, 15, 16, 17, 18, 19, 20, 21, 22, 24, 26, 27, 28, 29, 30, 31, 32, 33, 34, 35, 36, 37, 38, 39, 40] : List Nat).contains s, fun s => ([] : List Nat).contains s, msOf [(2, [0, 1], []), (6, [0, 1, 5, 6], []), (14, [5, 6, 7, 8], [7]), (60, [5, 7, 8, 23], [7]), (244, [4], []), (124, [5, 7, 25], [7]), (500, [4], []), (126, [4], [])]⟩
def f8_2l : List GI := [⟨none, .mv (some 4) (.c (.lit (.bool false)))⟩]
def f8_2 : AC := .ops [0, 1] [] f8_2l
theorem f8_2e : aC P id m f8_2 sf st Q = runI P id m f8_2l (opsK [0, 1] [] Q) sf st := rfl
def f8_4l : List GI := [vv 10 0,
    vv 11 1,
    ⟨none, .call (some 12) false (.f 29) [(.r 10), (.r 11)]⟩,
    vv 9 12,
    ve 13 9 0,
    ve 14 9 1,
    vo 5 13,
    vo 6 14]
def f8_4 : AC := .ops [0, 1, 5, 6] [] f8_4l
theorem f8_4e : aC P id m f8_4 sf st Q = runI P id m f8_4l (opsK [0, 1, 5, 6] [] Q) sf st := rfl
def f8_6l : List GI := [vv 16 0,
    vv 17 1,
    ⟨none, .call (some 18) false (.f 30) [(.r 16), (.r 17)]⟩,
    vv 15 18,
    ve 19 15 0,
    ve 20 15 1,
    ⟨none, .newL 7 [(.lit (.int .i64 0)), (.lit (.int .u64 0)), (.lit (.int .i64 0)), (.lit (.int .i64 0)), (.lit (.int .i64 0)), (.lit (.int .i64 0)), (.lit (.int .i64 0)), (.lit (.int .i64 0)), (.lit (.int .i64 0)), (.lit (.int .i64 0)), (.lit (.int .i64 0)), (.lit (.int .i64 0)), (.lit (.int .i64 0)), (.lit (.int .i64 0)), (.lit (.int .i64 0)), (.lit (.int .i64 0)), (.lit (.int .i64 0)), (.lit (.int .i64 0)), (.lit (.int .i64 0)), (.lit (.int .i64 0)), (.lit (.int .i64 0)), (.lit (.int .i64 0)), (.lit (.int .i64 0)), (.lit (.int .i64 0)), (.lit (.int .i64 0)), (.lit (.int .i64 0)), (.lit (.int .i64 0)), (.lit (.int .i64 0)), (.lit (.int .i64 0)), (.lit (.int .i64 0)), (.lit (.int .i64 0)), (.lit (.int .i64 0)), (.lit (.int .i64 0)), (.lit (.int .i64 0)), (.lit (.int .i64 0)), (.lit (.int .i64 0)), (.lit (.int .i64 0)), (.lit (.int .i64 0)), (.lit (.int .i64 0)), (.lit (.int .i64 0)), (.lit (.int .i64 0)), (.lit (.int .i64 0)), (.lit (.int .i64 0)), (.lit (.int .i64 0)), (.lit (.int .i64 0)), (.lit (.int .i64 0)), (.lit (.int .i64 0)), (.lit (.int .i64 0)), (.lit (.int .i64 0)), (.lit (.int .i64 0)), (.lit (.int .i64 0)), (.lit (.int .i64 0)), (.lit (.int .i64 0)), (.lit (.int .i64 0)), (.lit (.int .i64 0)), (.lit (.int .i64 0)), (.lit (.int .i64 0)), (.lit (.int .i64 0)), (.lit (.int .i64 0)), (.lit (.int .i64 0)), (.lit (.int .i64 0)), (.lit (.int .i64 0)), (.lit (.int .i64 0)), (.lit (.int .i64 0)), (.lit (.int .i64 0)), (.lit (.int .i64 0)), (.lit (.slice none 0 0))]⟩,
    ⟨none, .store 67 (.r 7) (.r 19)⟩,
    vo 8 20]
def f8_6 : AC := .ops [5, 6, 7, 8] [7] f8_6l
theorem f8_6e : aC P id m f8_6 sf st Q = runI P id m f8_6l (opsK [5, 6, 7, 8] [7] Q) sf st := rfl
def f8_9l : List GI := [vv 21 6,
    vv 22 8,
    ⟨none, .bin (some 23) .num .neq (.r 21) (.r 22)⟩]
def f8_9 : AC := .ops [5, 7, 8, 23] [7] f8_9l
theorem f8_9e : aC P id m f8_9 sf st Q = runI P id m f8_9l (opsK [5, 7, 8, 23] [7] Q) sf st := rfl
def f8_12l : List GI := [⟨none, .mv (some 4) (.c (.lit (.bool false)))⟩]
def f8_12 : AC := .ops [4] [] f8_12l
theorem f8_12e : aC P id m f8_12 sf st Q = runI P id m f8_12l (opsK [4] [] Q) sf st := rfl
def f8_11 : AC := .seq f8_12 .ret
theorem f8_11e : aC P id m f8_11 sf st Q = aC P id m f8_12 sf st (seqQ (aC P id m .ret) Q) := rfl
def f8_10 : AC := .cond (.r 23) f8_11 .skip
theorem f8_10e : aC P id m f8_10 sf st Q = condI (.r 23) (sf.ev id (.r 23)) (aC P id m f8_11) (aC P id m .skip) sf st Q := rfl
def f8_8 : AC := .seq f8_9 f8_10
theorem f8_8e : aC P id m f8_8 sf st Q = aC P id m f8_9 sf st (seqQ (aC P id m f8_10) Q) := rfl
def f8_15l : List GI := [vv 24 8,
    vb 25 .neq 24 0]
def f8_15 : AC := .ops [5, 7, 25] [7] f8_15l
theorem f8_15e : aC P id m f8_15 sf st Q = runI P id m f8_15l (opsK [5, 7, 25] [7] Q) sf st := rfl
def f8_18l : List GI := [vv 26 5,
    ⟨none, .bin (some 27) (.nil .ptr) .eql (.r 26) (.c (.lit (.pointer none)))⟩,
    vv 28 27,
    ⟨some (28, true), .call (some 29) false (.f 31) []⟩,
    ⟨none, .pick (some 30) (.r 28) (.r 29) (.c (.lit (.bool false)))⟩,
    vo 4 30]
def f8_18 : AC := .ops [4] [] f8_18l
theorem f8_18e : aC P id m f8_18 sf st Q = runI P id m f8_18l (opsK [4] [] Q) sf st := rfl
def f8_17 : AC := .seq f8_18 .ret
theorem f8_17e : aC P id m f8_17 sf st Q = aC P id m f8_18 sf st (seqQ (aC P id m .ret) Q) := rfl
def f8_16 : AC := .cond (.r 25) f8_17 .skip
theorem f8_16e : aC P id m f8_16 sf st Q = condI (.r 25) (sf.ev id (.r 25)) (aC P id m f8_17) (aC P id m .skip) sf st Q := rfl
def f8_14 : AC := .seq f8_15 f8_16
theorem f8_14e : aC P id m f8_14 sf st Q = aC P id m f8_15 sf st (seqQ (aC P id m f8_16) Q) := rfl
def f8_20l : List GI := [vv 31 5,
    ⟨none, .bin (some 32) (.nil .ptr) .neq (.r 31) (.c (.lit (.pointer none)))⟩,
    vv 33 32,
    ⟨some (33, true), .mv (some 34) (.r 5)⟩,
    ⟨some (33, true), .load (some 35) (.r 7) (some 67)⟩,
    ⟨some (33, true), .call (some 36) false (.f 32) [(.r 34), (.r 35)]⟩,
    ⟨none, .pick (some 37) (.r 33) (.r 36) (.c (.lit (.bool false)))⟩,
    vv 38 37,
    ⟨some (38, true), .call (some 39) false (.f 31) []⟩,
    ⟨none, .pick (some 40) (.r 38) (.r 39) (.c (.lit (.bool false)))⟩,
    vo 4 40]
def f8_20 : AC := .ops [4] [] f8_20l
theorem f8_20e : aC P id m f8_20 sf st Q = runI P id m f8_20l (opsK [4] [] Q) sf st := rfl
def f8_19 : AC := .seq f8_20 .ret
theorem f8_19e : aC P id m f8_19 sf st Q = aC P id m f8_20 sf st (seqQ (aC P id m .ret) Q) := rfl
def f8_13 : AC := .seq f8_14 f8_19
theorem f8_13e : aC P id m f8_13 sf st Q = aC P id m f8_14 sf st (seqQ (aC P id m f8_19) Q) := rfl
def f8_7 : AC := .seq f8_8 f8_13
theorem f8_7e : aC P id m f8_7 sf st Q = aC P id m f8_8 sf st (seqQ (aC P id m f8_13) Q) := rfl
def f8_5 : AC := .seq f8_6 f8_7
theorem f8_5e : aC P id m f8_5 sf st Q = aC P id m f8_6 sf st (seqQ (aC P id m f8_7) Q) := rfl
def f8_3 : AC := .seq f8_4 f8_5
theorem f8_3e : aC P id m f8_3 sf st Q = aC P id m f8_4 sf st (seqQ (aC P id m f8_5) Q) := rfl
def f8_1 : AC := .seq f8_2 f8_3
theorem f8_1e : aC P id m f8_1 sf st Q = aC P id m f8_2 sf st (seqQ (aC P id m f8_3) Q) := rfl
def c_f8 : AFun := ⟨41, [.tmp 4], f8_1⟩
theorem k_f8 : compF Go.Proofs.Try.prog x_f8 8 = some c_f8 := by kernel_rfl
theorem e_f8 : enterB Go.Proofs.Try.prog 8 = true := by kernel_rfl

def n_f29 : Nat := 29
def x_f29 : Cx := ⟨some, id, 23, fun s => ([0, 1, 4, 5, 6, 7, 8, 9, 10, 11, 12, 13, 14, 16, 17, 18, 19, 20, 21, 22] : List Nat).contains s, fun s => ([] : List Nat).contains s, msOf [(2, [0, 1], []), (12, [0, 1, 15], []), (52, [4, 5], []), (14, [4, 5], [])]⟩
def f29_2l : List GI := [⟨none, .mv (some 4) (.c (.lit (.pointer none)))⟩,
    ⟨none, .mv (some 5) (.c (.lit (.int .i64 0)))⟩]
def f29_2 : AC := .ops [0, 1] [] f29_2l
theorem f29_2e : aC P id m f29_2 sf st Q = runI P id m f29_2l (opsK [0, 1] [] Q) sf st := rfl
def f29_5l : List GI := [vv 6 0,
    vb 7 .lss 6 1,
    vv 8 7,
    ⟨some (8, false), .mv (some 9) (.r 0)⟩,
    ⟨some (8, false), .bin (some 10) .num .gtr (.r 9) (.c (.lit (.int .i64 1048576)))⟩,
    ⟨none, .pick (some 11) (.r 8) (.c (.lit (.bool true))) (.r 10)⟩,
    vv 12 11,
    ⟨some (12, false), .mv (some 13) (.r 1)⟩,
    ⟨some (12, false), .bin (some 14) .num .eql (.r 13) (.c (.lit (.int .u64 18446744073709551615)))⟩,
    ⟨none, .pick (some 15) (.r 12) (.c (.lit (.bool true))) (.r 14)⟩]
def f29_5 : AC := .ops [0, 1, 15] [] f29_5l
theorem f29_5e : aC P id m f29_5 sf st Q = runI P id m f29_5l (opsK [0, 1, 15] [] Q) sf st := rfl
def f29_8l : List GI := [⟨none, .mv (some 4) (.c (.lit (.pointer none)))⟩,
    ⟨none, .mv (some 5) (.c (.lit (.int .i64 2)))⟩]
def f29_8 : AC := .ops [4, 5] [] f29_8l
theorem f29_8e : aC P id m f29_8 sf st Q = runI P id m f29_8l (opsK [4, 5] [] Q) sf st := rfl
def f29_7 : AC := .seq f29_8 .ret
theorem f29_7e : aC P id m f29_7 sf st Q = aC P id m f29_8 sf st (seqQ (aC P id m .ret) Q) := rfl
def f29_6 : AC := .cond (.r 15) f29_7 .skip
theorem f29_6e : aC P id m f29_6 sf st Q = condI (.r 15) (sf.ev id (.r 15)) (aC P id m f29_7) (aC P id m .skip) sf st Q := rfl
def f29_4 : AC := .seq f29_5 f29_6
theorem f29_4e : aC P id m f29_4 sf st Q = aC P id m f29_5 sf st (seqQ (aC P id m f29_6) Q) := rfl
def f29_10l : List GI := [vv 16 0,
    vv 17 0,
    vv 18 1,
    ⟨none, .call (some 19) false (.f 45) []⟩,
    ⟨none, .mkmap 20⟩,
    ⟨none, .bst (some 21) [(0, 1), (1, 1), (2, 1), (3, 64), (67, 1), (68, 1)] (.agg [(.lit (.int .i64 0)), (.lit (.int .i64 0)), (.lit (.int .u64 0)), (.lit (.int .i64 0)), (.lit (.int .i64 0)), (.lit (.int .i64 0)), (.lit (.int .i64 0)), (.lit (.int .i64 0)), (.lit (.int .i64 0)), (.lit (.int .i64 0)), (.lit (.int .i64 0)), (.lit (.int .i64 0)), (.lit (.int .i64 0)), (.lit (.int .i64 0)), (.lit (.int .i64 0)), (.lit (.int .i64 0)), (.lit (.int .i64 0)), (.lit (.int .i64 0)), (.lit (.int .i64 0)), (.lit (.int .i64 0)), (.lit (.int .i64 0)), (.lit (.int .i64 0)), (.lit (.int .i64 0)), (.lit (.int .i64 0)), (.lit (.int .i64 0)), (.lit (.int .i64 0)), (.lit (.int .i64 0)), (.lit (.int .i64 0)), (.lit (.int .i64 0)), (.lit (.int .i64 0)), (.lit (.int .i64 0)), (.lit (.int .i64 0)), (.lit (.int .i64 0)), (.lit (.int .i64 0)), (.lit (.int .i64 0)), (.lit (.int .i64 0)), (.lit (.int .i64 0)), (.lit (.int .i64 0)), (.lit (.int .i64 0)), (.lit (.int .i64 0)), (.lit (.int .i64 0)), (.lit (.int .i64 0)), (.lit (.int .i64 0)), (.lit (.int .i64 0)), (.lit (.int .i64 0)), (.lit (.int .i64 0)), (.lit (.int .i64 0)), (.lit (.int .i64 0)), (.lit (.int .i64 0)), (.lit (.int .i64 0)), (.lit (.int .i64 0)), (.lit (.int .i64 0)), (.lit (.int .i64 0)), (.lit (.int .i64 0)), (.lit (.int .i64 0)), (.lit (.int .i64 0)), (.lit (.int .i64 0)), (.lit (.int .i64 0)), (.lit (.int .i64 0)), (.lit (.int .i64 0)), (.lit (.int .i64 0)), (.lit (.int .i64 0)), (.lit (.int .i64 0)), (.lit (.int .i64 0)), (.lit (.int .i64 0)), (.lit (.int .i64 0)), (.lit (.int .i64 0)), (.lit (.pointer none)), (.lit (.map none))]) [(0, (.r 16)), (1, (.r 17)), (2, (.r 18)), (4, (.r 19)), (5, (.r 20))]⟩,
    ⟨none, .boxB 22 69 (.r 21)⟩,
    vo 4 22,
    ⟨none, .mv (some 5) (.c (.lit (.int .i64 0)))⟩]
def f29_10 : AC := .ops [4, 5] [] f29_10l
theorem f29_10e : aC P id m f29_10 sf st Q = runI P id m f29_10l (opsK [4, 5] [] Q) sf st := rfl
def f29_9 : AC := .seq f29_10 .ret
theorem f29_9e : aC P id m f29_9 sf st Q = aC P id m f29_10 sf st (seqQ (aC P id m .ret) Q) := rfl
def f29_3 : AC := .seq f29_4 f29_9
theorem f29_3e : aC P id m f29_3 sf st Q = aC P id m f29_4 sf st (seqQ (aC P id m f29_9) Q) := rfl
def f29_1 : AC := .seq f29_2 f29_3
theorem f29_1e : aC P id m f29_1 sf st Q = aC P id m f29_2 sf st (seqQ (aC P id m f29_3) Q) := rfl
def c_f29 : AFun := ⟨23, [.tmp 4, .tmp 5], f29_1⟩
theorem k_f29 : compF Go.Proofs.Try.prog x_f29 29 = some c_f29 := by kernel_rfl
theorem e_f29 : enterB Go.Proofs.Try.prog 29 = true := by kernel_rfl

def n_f30 : Nat := 30
def x_f30 : Cx := ⟨some, id, 20, fun s => ([0, 1, 5, 6, 7, 8, 9, 10, 11, 12, 13, 14, 16, 17, 18, 19] : List Nat).contains s, fun s => ([] : List Nat).contains s, msOf [(2, [0, 1, 4], [4]), (12, [0, 1, 4, 15], [4]), (52, [4, 5], [4]), (14, [4, 5], [4])]⟩
def f30_2l : List GI := [⟨none, .newL 4 [(.lit (.int .i64 0)), (.lit (.int .u64 0)), (.lit (.int .i64 0)), (.lit (.int .i64 0)), (.lit (.int .i64 0)), (.lit (.int .i64 0)), (.lit (.int .i64 0)), (.lit (.int .i64 0)), (.lit (.int .i64 0)), (.lit (.int .i64 0)), (.lit (.int .i64 0)), (.lit (.int .i64 0)), (.lit (.int .i64 0)), (.lit (.int .i64 0)), (.lit (.int .i64 0)), (.lit (.int .i64 0)), (.lit (.int .i64 0)), (.lit (.int .i64 0)), (.lit (.int .i64 0)), (.lit (.int .i64 0)), (.lit (.int .i64 0)), (.lit (.int .i64 0)), (.lit (.int .i64 0)), (.lit (.int .i64 0)), (.lit (.int .i64 0)), (.lit (.int .i64 0)), (.lit (.int .i64 0)), (.lit (.int .i64 0)), (.lit (.int .i64 0)), (.lit (.int .i64 0)), (.lit (.int .i64 0)), (.lit (.int .i64 0)), (.lit (.int .i64 0)), (.lit (.int .i64 0)), (.lit (.int .i64 0)), (.lit (.int .i64 0)), (.lit (.int .i64 0)), (.lit (.int .i64 0)), (.lit (.int .i64 0)), (.lit (.int .i64 0)), (.lit (.int .i64 0)), (.lit (.int .i64 0)), (.lit (.int .i64 0)), (.lit (.int .i64 0)), (.lit (.int .i64 0)), (.lit (.int .i64 0)), (.lit (.int .i64 0)), (.lit (.int .i64 0)), (.lit (.int .i64 0)), (.lit (.int .i64 0)), (.lit (.int .i64 0)), (.lit (.int .i64 0)), (.lit (.int .i64 0)), (.lit (.int .i64 0)), (.lit (.int .i64 0)), (.lit (.int .i64 0)), (.lit (.int .i64 0)), (.lit (.int .i64 0)), (.lit (.int .i64 0)), (.lit (.int .i64 0)), (.lit (.int .i64 0)), (.lit (.int .i64 0)), (.lit (.int .i64 0)), (.lit (.int .i64 0)), (.lit (.int .i64 0)), (.lit (.int .i64 0)), (.lit (.slice none 0 0))]⟩,
    ⟨none, .mv (some 5) (.c (.lit (.int .i64 0)))⟩]
def f30_2 : AC := .ops [0, 1, 4] [4] f30_2l
theorem f30_2e : aC P id m f30_2 sf st Q = runI P id m f30_2l (opsK [0, 1, 4] [4] Q) sf st := rfl
def f30_5l : List GI := [vv 6 0,
    vb 7 .lss 6 1,
    vv 8 7,
    ⟨some (8, false), .mv (some 9) (.r 0)⟩,
    ⟨some (8, false), .bin (some 10) .num .gtr (.r 9) (.c (.lit (.int .i64 1048576)))⟩,
    ⟨none, .pick (some 11) (.r 8) (.c (.lit (.bool true))) (.r 10)⟩,
    vv 12 11,
    ⟨some (12, false), .mv (some 13) (.r 1)⟩,
    ⟨some (12, false), .bin (some 14) .num .eql (.r 13) (.c (.lit (.int .u64 18446744073709551615)))⟩,
    ⟨none, .pick (some 15) (.r 12) (.c (.lit (.bool true))) (.r 14)⟩]
def f30_5 : AC := .ops [0, 1, 4, 15] [4] f30_5l
theorem f30_5e : aC P id m f30_5 sf st Q = runI P id m f30_5l (opsK [0, 1, 4, 15] [4] Q) sf st := rfl
def f30_8l : List GI := [⟨none, .bst (some 16) [(0, 1), (1, 1), (2, 64), (66, 1)] (.agg [(.lit (.int .i64 0)), (.lit (.int .u64 0)), (.lit (.int .i64 0)), (.lit (.int .i64 0)), (.lit (.int .i64 0)), (.lit (.int .i64 0)), (.lit (.int .i64 0)), (.lit (.int .i64 0)), (.lit (.int .i64 0)), (.lit (.int .i64 0)), (.lit (.int .i64 0)), (.lit (.int .i64 0)), (.lit (.int .i64 0)), (.lit (.int .i64 0)), (.lit (.int .i64 0)), (.lit (.int .i64 0)), (.lit (.int .i64 0)), (.lit (.int .i64 0)), (.lit (.int .i64 0)), (.lit (.int .i64 0)), (.lit (.int .i64 0)), (.lit (.int .i64 0)), (.lit (.int .i64 0)), (.lit (.int .i64 0)), (.lit (.int .i64 0)), (.lit (.int .i64 0)), (.lit (.int .i64 0)), (.lit (.int .i64 0)), (.lit (.int .i64 0)), (.lit (.int .i64 0)), (.lit (.int .i64 0)), (.lit (.int .i64 0)), (.lit (.int .i64 0)), (.lit (.int .i64 0)), (.lit (.int .i64 0)), (.lit (.int .i64 0)), (.lit (.int .i64 0)), (.lit (.int .i64 0)), (.lit (.int .i64 0)), (.lit (.int .i64 0)), (.lit (.int .i64 0)), (.lit (.int .i64 0)), (.lit (.int .i64 0)), (.lit (.int .i64 0)), (.lit (.int .i64 0)), (.lit (.int .i64 0)), (.lit (.int .i64 0)), (.lit (.int .i64 0)), (.lit (.int .i64 0)), (.lit (.int .i64 0)), (.lit (.int .i64 0)), (.lit (.int .i64 0)), (.lit (.int .i64 0)), (.lit (.int .i64 0)), (.lit (.int .i64 0)), (.lit (.int .i64 0)), (.lit (.int .i64 0)), (.lit (.int .i64 0)), (.lit (.int .i64 0)), (.lit (.int .i64 0)), (.lit (.int .i64 0)), (.lit (.int .i64 0)), (.lit (.int .i64 0)), (.lit (.int .i64 0)), (.lit (.int .i64 0)), (.lit (.int .i64 0)), (.lit (.slice none 0 0))]) []⟩,
    ⟨none, .store 67 (.r 4) (.r 16)⟩,
    ⟨none, .mv (some 5) (.c (.lit (.int .i64 2)))⟩]
def f30_8 : AC := .ops [4, 5] [4] f30_8l
theorem f30_8e : aC P id m f30_8 sf st Q = runI P id m f30_8l (opsK [4, 5] [4] Q) sf st := rfl
def f30_7 : AC := .seq f30_8 .ret
theorem f30_7e : aC P id m f30_7 sf st Q = aC P id m f30_8 sf st (seqQ (aC P id m .ret) Q) := rfl
def f30_6 : AC := .cond (.r 15) f30_7 .skip
theorem f30_6e : aC P id m f30_6 sf st Q = condI (.r 15) (sf.ev id (.r 15)) (aC P id m f30_7) (aC P id m .skip) sf st Q := rfl
def f30_4 : AC := .seq f30_5 f30_6
theorem f30_4e : aC P id m f30_4 sf st Q = aC P id m f30_5 sf st (seqQ (aC P id m f30_6) Q) := rfl
def f30_10l : List GI := [vv 17 0,
    vv 18 1,
    ⟨none, .bst (some 19) [(0, 1), (1, 1), (2, 64), (66, 1)] (.agg [(.lit (.int .i64 0)), (.lit (.int .u64 0)), (.lit (.int .i64 0)), (.lit (.int .i64 0)), (.lit (.int .i64 0)), (.lit (.int .i64 0)), (.lit (.int .i64 0)), (.lit (.int .i64 0)), (.lit (.int .i64 0)), (.lit (.int .i64 0)), (.lit (.int .i64 0)), (.lit (.int .i64 0)), (.lit (.int .i64 0)), (.lit (.int .i64 0)), (.lit (.int .i64 0)), (.lit (.int .i64 0)), (.lit (.int .i64 0)), (.lit (.int .i64 0)), (.lit (.int .i64 0)), (.lit (.int .i64 0)), (.lit (.int .i64 0)), (.lit (.int .i64 0)), (.lit (.int .i64 0)), (.lit (.int .i64 0)), (.lit (.int .i64 0)), (.lit (.int .i64 0)), (.lit (.int .i64 0)), (.lit (.int .i64 0)), (.lit (.int .i64 0)), (.lit (.int .i64 0)), (.lit (.int .i64 0)), (.lit (.int .i64 0)), (.lit (.int .i64 0)), (.lit (.int .i64 0)), (.lit (.int .i64 0)), (.lit (.int .i64 0)), (.lit (.int .i64 0)), (.lit (.int .i64 0)), (.lit (.int .i64 0)), (.lit (.int .i64 0)), (.lit (.int .i64 0)), (.lit (.int .i64 0)), (.lit (.int .i64 0)), (.lit (.int .i64 0)), (.lit (.int .i64 0)), (.lit (.int .i64 0)), (.lit (.int .i64 0)), (.lit (.int .i64 0)), (.lit (.int .i64 0)), (.lit (.int .i64 0)), (.lit (.int .i64 0)), (.lit (.int .i64 0)), (.lit (.int .i64 0)), (.lit (.int .i64 0)), (.lit (.int .i64 0)), (.lit (.int .i64 0)), (.lit (.int .i64 0)), (.lit (.int .i64 0)), (.lit (.int .i64 0)), (.lit (.int .i64 0)), (.lit (.int .i64 0)), (.lit (.int .i64 0)), (.lit (.int .i64 0)), (.lit (.int .i64 0)), (.lit (.int .i64 0)), (.lit (.int .i64 0)), (.lit (.slice none 0 0))]) [(0, (.r 17)), (1, (.r 18))]⟩,
    ⟨none, .store 67 (.r 4) (.r 19)⟩,
    ⟨none, .mv (some 5) (.c (.lit (.int .i64 0)))⟩]
def f30_10 : AC := .ops [4, 5] [4] f30_10l
theorem f30_10e : aC P id m f30_10 sf st Q = runI P id m f30_10l (opsK [4, 5] [4] Q) sf st := rfl
def f30_9 : AC := .seq f30_10 .ret
theorem f30_9e : aC P id m f30_9 sf st Q = aC P id m f30_10 sf st (seqQ (aC P id m .ret) Q) := rfl
def f30_3 : AC := .seq f30_4 f30_9
theorem f30_3e : aC P id m f30_3 sf st Q = aC P id m f30_4 sf st (seqQ (aC P id m f30_9) Q) := rfl
def f30_1 : AC := .seq f30_2 f30_3
theorem f30_1e : aC P id m f30_1 sf st Q = aC P id m f30_2 sf st (seqQ (aC P id m f30_3) Q) := rfl
def c_f30 : AFun := ⟨20, [.cell 4 (some 67), .tmp 5], f30_1⟩
theorem k_f30 : compF Go.Proofs.Try.prog x_f30 30 = some c_f30 := by kernel_rfl
theorem e_f30 : enterB Go.Proofs.Try.prog 30 = true := by kernel_rfl

def n_f31 : Nat := 31
def x_f31 : Cx := ⟨some, id, 122, fun s => ([0, 1, 2, 3, 5, 6, 7, 8, 10, 11, 12, 13, 14, 15, 16, 17, 18, 19, 20, 21, 22, 23, 24, 25, 26, 27, 28, 29, 30, 31, 32, 33, 34, 35, 36, 37, 38, 39, 41, 42, 43, 44, 45, 46, 47, 48, 49, 50, 51, 52, 53, 54, 55, 56, 57, 58, 59, 60, 61, 62, 63, 64, 65, 66, 67, 68, 69, 71, 72, 73, 74, 75, 76, 77, 78, 79, 80, 81, 82, 83, 84, 86, 87, 88, 89, 90, 91, 92, 93, 94, 95, 96, 97, 98, 99, 100, 101, 102, 103, 104, 105, 106, 107, 108, 109, 110, 111, 112, 113, 114, 115, 116, 117, 118, 119, 120, 121] : List Nat).contains s, fun s => ([] : List Nat).contains s, msOf [(2, [], []), (6, [1, 2], []), (28, [1, 40], []), (116, [0], []), (60, [1, 70], []), (244, [0], []), (62, [1, 2, 3], []), (252, [1, 85], []), (1012, [0], []), (254, [1, 5], []), (510, [1, 5, 6, 7], []), (1022, [1, 5, 6, 7, 8], []), (2046, [5, 6, 7, 8, 10], []), (4094, [0], [])]⟩
def f31_2l : List GI := [⟨none, .mv (some 0) (.c (.lit (.bool false)))⟩]
def f31_2 : AC := .ops [] [] f31_2l
theorem f31_2e : aC P id m f31_2 sf st Q = runI P id m f31_2l (opsK [] [] Q) sf st := rfl
def f31_4l : List GI := [⟨none, .call (some 12) false (.f 29) [(.c (.lit (.int .i64 3))), (.c (.lit (.int .u64 10)))]⟩,
    vv 11 12,
    ve 13 11 0,
    ve 14 11 1,
    vo 1 13,
    vo 2 14]
def f31_4 : AC := .ops [1, 2] [] f31_4l
theorem f31_4e : aC P id m f31_4 sf st Q = runI P id m f31_4l (opsK [1, 2] [] Q) sf st := rfl
def f31_7l : List GI := [vv 15 2,
    vb 16 .neq 15 0,
    vv 17 16,
    ⟨some (17, false), .mv (some 18) (.r 1)⟩,
    ⟨some (17, false), .bin (some 19) (.nil .ptr) .eql (.r 18) (.c (.lit (.pointer none)))⟩,
    ⟨none, .pick (some 20) (.r 17) (.c (.lit (.bool true))) (.r 19)⟩,
    vv 21 20,
    ⟨some (21, false), .mv (some 22) (.r 1)⟩,
    ⟨some (21, false), .call (some 23) false (.f 52) [(.r 22), (.c (.lit (.int .i64 0))), (.c (.lit (.int .i64 2))), (.c (.lit (.int .u64 18446744073709551615))), (.c (.lit (.bool true))), (.c (.lit (.int .i64 0)))]⟩,
    ⟨some (21, false), .un (some 24) .not (.r 23)⟩,
    ⟨none, .pick (some 25) (.r 21) (.c (.lit (.bool true))) (.r 24)⟩,
    vv 26 25,
    ⟨some (26, false), .mv (some 27) (.r 1)⟩,
    ⟨some (26, false), .call (some 28) false (.f 52) [(.r 27), (.c (.lit (.int .i64 1))), (.c (.lit (.int .i64 2))), (.c (.lit (.int .u64 20))), (.c (.lit (.bool false))), (.c (.lit (.int .i64 0)))]⟩,
    ⟨some (26, false), .un (some 29) .not (.r 28)⟩,
    ⟨none, .pick (some 30) (.r 26) (.c (.lit (.bool true))) (.r 29)⟩,
    vv 31 30,
    ⟨some (31, false), .mv (some 32) (.r 1)⟩,
    ⟨some (31, false), .call (some 33) false (.f 52) [(.r 32), (.c (.lit (.int .i64 2))), (.c (.lit (.int .i64 1))), (.c (.lit (.int .u64 18446744073709551615))), (.c (.lit (.bool false))), (.c (.lit (.int .i64 0)))]⟩,
    ⟨some (31, false), .un (some 34) .not (.r 33)⟩,
    ⟨none, .pick (some 35) (.r 31) (.c (.lit (.bool true))) (.r 34)⟩,
    vv 36 35,
    ⟨some (36, false), .mv (some 37) (.r 1)⟩,
    ⟨some (36, false), .call (some 38) false (.f 36) [(.r 37), (.c (.lit (.int .i64 3))), (.c (.lit (.int .i64 1)))]⟩,
    ⟨some (36, false), .bin (some 39) .num .neq (.r 38) (.c (.lit (.int .i64 16)))⟩,
    ⟨none, .pick (some 40) (.r 36) (.c (.lit (.bool true))) (.r 39)⟩]
def f31_7 : AC := .ops [1, 40] [] f31_7l
theorem f31_7e : aC P id m f31_7 sf st Q = runI P id m f31_7l (opsK [1, 40] [] Q) sf st := rfl
def f31_10l : List GI := [⟨none, .mv (some 0) (.c (.lit (.bool false)))⟩]
def f31_10 : AC := .ops [0] [] f31_10l
theorem f31_10e : aC P id m f31_10 sf st Q = runI P id m f31_10l (opsK [0] [] Q) sf st := rfl
def f31_9 : AC := .seq f31_10 .ret
theorem f31_9e : aC P id m f31_9 sf st Q = aC P id m f31_10 sf st (seqQ (aC P id m .ret) Q) := rfl
def f31_8 : AC := .cond (.r 40) f31_9 .skip
theorem f31_8e : aC P id m f31_8 sf st Q = condI (.r 40) (sf.ev id (.r 40)) (aC P id m f31_9) (aC P id m .skip) sf st Q := rfl
def f31_6 : AC := .seq f31_7 f31_8
theorem f31_6e : aC P id m f31_6 sf st Q = aC P id m f31_7 sf st (seqQ (aC P id m f31_8) Q) := rfl
def f31_13l : List GI := [vv 41 1,
    ⟨none, .call (some 42) false (.f 41) [(.r 41)]⟩,
    vb 43 .neq 42 1,
    vv 44 43,
    ⟨some (44, false), .mv (some 45) (.r 1)⟩,
    ⟨some (44, false), .call (some 46) false (.f 34) [(.r 45)]⟩,
    ⟨some (44, false), .bsl (some 47) 1 2 (.lit (.int .i64 0)) [(0, (.c (.lit (.int .i64 1)))), (1, (.c (.lit (.int .i64 2))))]⟩,
    ⟨some (44, false), .call (some 48) false (.f 53) [(.r 46), (.r 47)]⟩,
    ⟨some (44, false), .un (some 49) .not (.r 48)⟩,
    ⟨none, .pick (some 50) (.r 44) (.c (.lit (.bool true))) (.r 49)⟩,
    vv 51 50,
    ⟨some (51, false), .mv (some 52) (.r 1)⟩,
    ⟨some (51, false), .call (some 53) false (.f 42) [(.r 52)]⟩,
    ⟨some (51, false), .bin (some 54) .num .neq (.r 53) (.c (.lit (.int .u64 20)))⟩,
    ⟨none, .pick (some 55) (.r 51) (.c (.lit (.bool true))) (.r 54)⟩,
    vv 56 55,
    ⟨some (56, false), .mv (some 57) (.r 1)⟩,
    ⟨some (56, false), .call (some 58) false (.f 52) [(.r 57), (.c (.lit (.int .i64 1))), (.c (.lit (.int .i64 1))), (.c (.lit (.int .u64 18446744073709551615))), (.c (.lit (.bool false))), (.c (.lit (.int .i64 11)))]⟩,
    ⟨some (56, false), .un (some 59) .not (.r 58)⟩,
    ⟨none, .pick (some 60) (.r 56) (.c (.lit (.bool true))) (.r 59)⟩,
    vv 61 60,
    ⟨some (61, false), .mv (some 62) (.r 1)⟩,
    ⟨some (61, false), .call (some 63) false (.f 52) [(.r 62), (.c (.lit (.int .i64 4))), (.c (.lit (.int .i64 4))), (.c (.lit (.int .u64 18446744073709551615))), (.c (.lit (.bool false))), (.c (.lit (.int .i64 2)))]⟩,
    ⟨some (61, false), .un (some 64) .not (.r 63)⟩,
    ⟨none, .pick (some 65) (.r 61) (.c (.lit (.bool true))) (.r 64)⟩,
    vv 66 65,
    ⟨some (66, false), .mv (some 67) (.r 1)⟩,
    ⟨some (66, false), .call (some 68) false (.f 52) [(.r 67), (.c (.lit (.int .i64 4))), (.c (.lit (.int .i64 1))), (.c (.lit (.int .u64 10))), (.c (.lit (.bool false))), (.c (.lit (.int .i64 12)))]⟩,
    ⟨some (66, false), .un (some 69) .not (.r 68)⟩,
    ⟨none, .pick (some 70) (.r 66) (.c (.lit (.bool true))) (.r 69)⟩]
def f31_13 : AC := .ops [1, 70] [] f31_13l
theorem f31_13e : aC P id m f31_13 sf st Q = runI P id m f31_13l (opsK [1, 70] [] Q) sf st := rfl
def f31_16l : List GI := [⟨none, .mv (some 0) (.c (.lit (.bool false)))⟩]
def f31_16 : AC := .ops [0] [] f31_16l
theorem f31_16e : aC P id m f31_16 sf st Q = runI P id m f31_16l (opsK [0] [] Q) sf st := rfl
def f31_15 : AC := .seq f31_16 .ret
theorem f31_15e : aC P id m f31_15 sf st Q = aC P id m f31_16 sf st (seqQ (aC P id m .ret) Q) := rfl
def f31_14 : AC := .cond (.r 70) f31_15 .skip
theorem f31_14e : aC P id m f31_14 sf st Q = condI (.r 70) (sf.ev id (.r 70)) (aC P id m f31_15) (aC P id m .skip) sf st Q := rfl
def f31_12 : AC := .seq f31_13 f31_14
theorem f31_12e : aC P id m f31_12 sf st Q = aC P id m f31_13 sf st (seqQ (aC P id m f31_14) Q) := rfl
def f31_18l : List GI := [vv 72 1,
    ⟨none, .call (some 73) false (.f 39) [(.r 72), (.c (.lit (.int .u64 20)))]⟩,
    vv 71 73,
    ve 74 71 0,
    ve 75 71 1,
    vo 3 74,
    vo 2 75]
def f31_18 : AC := .ops [1, 2, 3] [] f31_18l
theorem f31_18e : aC P id m f31_18 sf st Q = runI P id m f31_18l (opsK [1, 2, 3] [] Q) sf st := rfl
def f31_21l : List GI := [vv 76 2,
    vb 77 .neq 76 0,
    vv 78 77,
    ⟨some (78, false), .mv (some 79) (.r 3)⟩,
    ⟨some (78, false), .bst (some 80) [(0, 1), (1, 1)] (.agg [(.lit (.int .i64 0)), (.lit (.int .i64 0))]) [(0, (.c (.lit (.int .i64 1)))), (1, (.c (.lit (.int .i64 12))))]⟩,
    ⟨some (78, false), .bst (some 81) [(0, 1), (1, 1)] (.agg [(.lit (.int .i64 0)), (.lit (.int .i64 0))]) [(0, (.c (.lit (.int .i64 2))))]⟩,
    ⟨some (78, false), .bsl (some 82) 2 2 (.agg [(.lit (.int .i64 0)), (.lit (.int .i64 0))]) [(0, (.r 80)), (1, (.r 81))]⟩,
    ⟨some (78, false), .call (some 83) false (.f 54) [(.r 79), (.r 82)]⟩,
    ⟨some (78, false), .un (some 84) .not (.r 83)⟩,
    ⟨none, .pick (some 85) (.r 78) (.c (.lit (.bool true))) (.r 84)⟩]
def f31_21 : AC := .ops [1, 85] [] f31_21l
theorem f31_21e : aC P id m f31_21 sf st Q = runI P id m f31_21l (opsK [1, 85] [] Q) sf st := rfl
def f31_24l : List GI := [⟨none, .mv (some 0) (.c (.lit (.bool false)))⟩]
def f31_24 : AC := .ops [0] [] f31_24l
theorem f31_24e : aC P id m f31_24 sf st Q = runI P id m f31_24l (opsK [0] [] Q) sf st := rfl
def f31_23 : AC := .seq f31_24 .ret
theorem f31_23e : aC P id m f31_23 sf st Q = aC P id m f31_24 sf st (seqQ (aC P id m .ret) Q) := rfl
def f31_22 : AC := .cond (.r 85) f31_23 .skip
theorem f31_22e : aC P id m f31_22 sf st Q = condI (.r 85) (sf.ev id (.r 85)) (aC P id m f31_23) (aC P id m .skip) sf st Q := rfl
def f31_20 : AC := .seq f31_21 f31_22
theorem f31_20e : aC P id m f31_20 sf st Q = aC P id m f31_21 sf st (seqQ (aC P id m f31_22) Q) := rfl
def f31_26l : List GI := [vv 87 1,
    ⟨none, .call (some 88) false (.f 37) [(.r 87), (.c (.lit (.int .i64 0))), (.c (.lit (.int .i64 3)))]⟩,
    vv 86 88,
    ve 89 86 0,
    ve 90 86 1,
    vo 4 89,
    vo 5 90]
def f31_26 : AC := .ops [1, 5] [] f31_26l
theorem f31_26e : aC P id m f31_26 sf st Q = runI P id m f31_26l (opsK [1, 5] [] Q) sf st := rfl
def f31_28l : List GI := [vv 92 1,
    ⟨none, .call (some 93) false (.f 37) [(.r 92), (.c (.lit (.int .i64 0))), (.c (.lit (.int .i64 2)))]⟩,
    vv 91 93,
    ve 94 91 0,
    ve 95 91 1,
    vo 6 94,
    vo 7 95]
def f31_28 : AC := .ops [1, 5, 6, 7] [] f31_28l
theorem f31_28e : aC P id m f31_28 sf st Q = runI P id m f31_28l (opsK [1, 5, 6, 7] [] Q) sf st := rfl
def f31_30l : List GI := [vv 96 1,
    ⟨none, .call (some 97) false (.f 41) [(.r 96)]⟩,
    vo 8 97]
def f31_30 : AC := .ops [1, 5, 6, 7, 8] [] f31_30l
theorem f31_30e : aC P id m f31_30 sf st Q = runI P id m f31_30l (opsK [1, 5, 6, 7, 8] [] Q) sf st := rfl
def f31_32l : List GI := [vv 99 1,
    ⟨none, .call (some 100) false (.f 39) [(.r 99), (.c (.lit (.int .u64 19)))]⟩,
    vv 98 100,
    ve 101 98 0,
    ve 102 98 1,
    vo 9 101,
    vo 10 102]
def f31_32 : AC := .ops [5, 6, 7, 8, 10] [] f31_32l
theorem f31_32e : aC P id m f31_32 sf st Q = runI P id m f31_32l (opsK [5, 6, 7, 8, 10] [] Q) sf st := rfl
def f31_34l : List GI := [vv 103 5,
    vb 104 .eql 103 9,
    vv 105 104,
    ⟨some (105, true), .mv (some 106) (.r 7)⟩,
    ⟨some (105, true), .bin (some 107) .num .eql (.r 106) (.c (.lit (.int .i64 0)))⟩,
    ⟨none, .pick (some 108) (.r 105) (.r 107) (.c (.lit (.bool false)))⟩,
    vv 109 108,
    ⟨some (109, true), .mv (some 110) (.r 6)⟩,
    ⟨some (109, true), .len (some 111) .sl (.r 110)⟩,
    ⟨some (109, true), .bin (some 112) .num .eql (.r 111) (.c (.lit (.int .i64 0)))⟩,
    ⟨none, .pick (some 113) (.r 109) (.r 112) (.c (.lit (.bool false)))⟩,
    vv 114 113,
    ⟨some (114, true), .mv (some 115) (.r 8)⟩,
    ⟨some (114, true), .bin (some 116) .num .eql (.r 115) (.c (.lit (.int .i64 2)))⟩,
    ⟨none, .pick (some 117) (.r 114) (.r 116) (.c (.lit (.bool false)))⟩,
    vv 118 117,
    ⟨some (118, true), .mv (some 119) (.r 10)⟩,
    ⟨some (118, true), .bin (some 120) .num .eql (.r 119) (.c (.lit (.int .i64 3)))⟩,
    ⟨none, .pick (some 121) (.r 118) (.r 120) (.c (.lit (.bool false)))⟩,
    vo 0 121]
def f31_34 : AC := .ops [0] [] f31_34l
theorem f31_34e : aC P id m f31_34 sf st Q = runI P id m f31_34l (opsK [0] [] Q) sf st := rfl
def f31_33 : AC := .seq f31_34 .ret
theorem f31_33e : aC P id m f31_33 sf st Q = aC P id m f31_34 sf st (seqQ (aC P id m .ret) Q) := rfl
def f31_31 : AC := .seq f31_32 f31_33
theorem f31_31e : aC P id m f31_31 sf st Q = aC P id m f31_32 sf st (seqQ (aC P id m f31_33) Q) := rfl
def f31_29 : AC := .seq f31_30 f31_31
theorem f31_29e : aC P id m f31_29 sf st Q = aC P id m f31_30 sf st (seqQ (aC P id m f31_31) Q) := rfl
def f31_27 : AC := .seq f31_28 f31_29
theorem f31_27e : aC P id m f31_27 sf st Q = aC P id m f31_28 sf st (seqQ (aC P id m f31_29) Q) := rfl
def f31_25 : AC := .seq f31_26 f31_27
theorem f31_25e : aC P id m f31_25 sf st Q = aC P id m f31_26 sf st (seqQ (aC P id m f31_27) Q) := rfl
def f31_19 : AC := .seq f31_20 f31_25
theorem f31_19e : aC P id m f31_19 sf st Q = aC P id m f31_20 sf st (seqQ (aC P id m f31_25) Q) := rfl
def f31_17 : AC := .seq f31_18 f31_19
theorem f31_17e : aC P id m f31_17 sf st Q = aC P id m f31_18 sf st (seqQ (aC P id m f31_19) Q) := rfl
def f31_11 : AC := .seq f31_12 f31_17
theorem f31_11e : aC P id m f31_11 sf st Q = aC P id m f31_12 sf st (seqQ (aC P id m f31_17) Q) := rfl
def f31_5 : AC := .seq f31_6 f31_11
theorem f31_5e : aC P id m f31_5 sf st Q = aC P id m f31_6 sf st (seqQ (aC P id m f31_11) Q) := rfl
def f31_3 : AC := .seq f31_4 f31_5
theorem f31_3e : aC P id m f31_3 sf st Q = aC P id m f31_4 sf st (seqQ (aC P id m f31_5) Q) := rfl
def f31_1 : AC := .seq f31_2 f31_3
theorem f31_1e : aC P id m f31_1 sf st Q = aC P id m f31_2 sf st (seqQ (aC P id m f31_3) Q) := rfl
def c_f31 : AFun := ⟨122, [.tmp 0], f31_1⟩
theorem k_f31 : compF Go.Proofs.Try.prog x_f31 31 = some c_f31 := by kernel_rfl
theorem e_f31 : enterB Go.Proofs.Try.prog 31 = true := by kernel_rfl

def n_f32 : Nat := 32
def x_f32 : Cx := ⟨some, id, 54, fun s => ([0, 1, 4, 5, 6, 8, 9, 10, 11, 12, 13, 16, 18, 19, 20, 21, 22, 23, 24, 25, 26, 27, 28, 29, 30, 31, 32, 33, 34, 35, 36, 37, 38, 39, 40, 41, 42, 43, 44, 45, 46, 47, 48, 49, 51, 52, 53] : List Nat).contains s, fun s => ([35] : List Nat).contains s, msOf [(2, [0, 3], [3]), (12, [0, 3, 5], [3]), (26, [0, 3, 5], [3]), (208, [0, 3, 5, 7], [3]), (419, [0, 3], [3]), (840, [0, 3, 5, 17], [3]), (3364, [4], []), (211, [0, 3, 5], [3]), (14, [4], [])]⟩
def f32_2l : List GI := [⟨none, .boxL 3 67 (.r 1)⟩,
    ⟨none, .mv (some 4) (.c (.lit (.bool false)))⟩]
def f32_2 : AC := .ops [0, 3] [3] f32_2l
theorem f32_2e : aC P id m f32_2 sf st Q = runI P id m f32_2l (opsK [0, 3] [3] Q) sf st := rfl
def f32_5l : List GI := [⟨none, .mv (some 5) (.c (.lit (.int .i64 0)))⟩]
def f32_5 : AC := .ops [0, 3, 5] [3] f32_5l
theorem f32_5e : aC P id m f32_5 sf st Q = runI P id m f32_5l (opsK [0, 3, 5] [3] Q) sf st := rfl
def f32_10l : List GI := [vv 6 5,
    vb 7 .lss 6 64]
def f32_10 : AC := .ops [0, 3, 5, 7] [3] f32_10l
theorem f32_10e : aC P id m f32_10 sf st Q = runI P id m f32_10l (opsK [0, 3, 5, 7] [3] Q) sf st := rfl
def f32_11 : AC := .cond (.r 7) .skip (.exit [0, 3] [3] 0)
theorem f32_11e : aC P id m f32_11 sf st Q = condI (.r 7) (sf.ev id (.r 7)) (aC P id m .skip) (aC P id m (.exit [0, 3] [3] 0)) sf st Q := rfl
def f32_9 : AC := .seq f32_10 f32_11
theorem f32_9e : aC P id m f32_9 sf st Q = aC P id m f32_10 sf st (seqQ (aC P id m f32_11) Q) := rfl
def f32_15h : List GI := [vv 10 0,
    vv 11 5,
    ⟨none, .call (some 12) true (.f 40) [(.r 10), (.r 11)]⟩,
    vv 13 5,
    vd 14 3 2,
    ⟨none, .ixA (some 15) (.r 14) (.r 13) 64 1⟩,
    vl 16 15]
def f32_15l : List GI := [⟨none, .bin (some 17) .num .neq (.r 12) (.r 16)⟩]
def f32_15 : AC := .draw [0, 3, 5, 17] [3] [] f32_15h f32_15l
theorem f32_15e : aC P id m f32_15 sf st Q = headI P id sf.locs st f32_15h (tailK P id m [] [0, 3, 5, 17] [3] f32_15l Q st) [] ⟨sf.regs, dropL [] sf.locs⟩ := rfl
def f32_18l : List GI := [⟨none, .mv (some 4) (.c (.lit (.bool false)))⟩]
def f32_18 : AC := .ops [4] [] f32_18l
theorem f32_18e : aC P id m f32_18 sf st Q = runI P id m f32_18l (opsK [4] [] Q) sf st := rfl
def f32_17 : AC := .seq f32_18 .ret
theorem f32_17e : aC P id m f32_17 sf st Q = aC P id m f32_18 sf st (seqQ (aC P id m .ret) Q) := rfl
def f32_16 : AC := .cond (.r 17) f32_17 .skip
theorem f32_16e : aC P id m f32_16 sf st Q = condI (.r 17) (sf.ev id (.r 17)) (aC P id m f32_17) (aC P id m .skip) sf st Q := rfl
def f32_14 : AC := .seq f32_15 f32_16
theorem f32_14e : aC P id m f32_14 sf st Q = aC P id m f32_15 sf st (seqQ (aC P id m f32_16) Q) := rfl
def f32_13 : AC := .block 1 f32_14
theorem f32_13e : aC P id m f32_13 sf st Q = aC P id m f32_14 sf st (blockQ 1 Q) := rfl
def f32_19l : List GI := [vv 8 5,
    vb 9 .add 8 1,
    vo 5 9]
def f32_19 : AC := .ops [0, 3, 5] [3] f32_19l
theorem f32_19e : aC P id m f32_19 sf st Q = runI P id m f32_19l (opsK [0, 3, 5] [3] Q) sf st := rfl
def f32_12 : AC := .seq f32_13 f32_19
theorem f32_12e : aC P id m f32_12 sf st Q = aC P id m f32_13 sf st (seqQ (aC P id m f32_19) Q) := rfl
def f32_8 : AC := .seq f32_9 f32_12
theorem f32_8e : aC P id m f32_8 sf st Q = aC P id m f32_9 sf st (seqQ (aC P id m f32_12) Q) := rfl
def f32_7 : AC := .loop [0, 3, 5] [3] f32_8
theorem f32_7w : aC P id m f32_7 sf st Q = loopI (aC P id m f32_8) [0, 3, 5] [3] sf st Q := rfl
def f32_6 : AC := .block 0 f32_7
theorem f32_6e : aC P id m f32_6 sf st Q = aC P id m f32_7 sf st (blockQ 0 Q) := rfl
def f32_4 : AC := .seq f32_5 f32_6
theorem f32_4e : aC P id m f32_4 sf st Q = aC P id m f32_5 sf st (seqQ (aC P id m f32_6) Q) := rfl
def f32_21h : List (Bool × GI) := [(false, vv 18 0),
    (false, ⟨none, .call (some 19) true (.f 40) [(.r 18), (.c (.lit (.int .i64 (-1))))]⟩),
    (false, vb 20 .eql 19 0),
    (false, vv 21 20),
    (false, ⟨some (21, true), .mv (some 22) (.r 0)⟩),
    (false, ⟨some (21, true), .call (some 23) true (.f 40) [(.r 22), (.c (.lit (.int .i64 64)))]⟩),
    (false, ⟨some (21, true), .bin (some 24) .num .eql (.r 23) (.c (.lit (.int .i64 0)))⟩),
    (false, ⟨none, .pick (some 25) (.r 21) (.r 24) (.c (.lit (.bool false)))⟩),
    (false, vv 26 25),
    (false, ⟨some (26, true), .mv (some 27) (.r 0)⟩),
    (false, ⟨some (26, true), .call (some 28) true (.f 41) [(.r 27)]⟩),
    (false, ⟨some (26, true), .load (some 29) (.r 3) (some 67)⟩),
    (false, ⟨some (26, true), .call (some 30) true (.f 55) [(.r 29)]⟩),
    (false, ⟨some (26, true), .bin (some 31) .num .eql (.r 28) (.r 30)⟩),
    (false, ⟨none, .pick (some 32) (.r 26) (.r 31) (.c (.lit (.bool false)))⟩),
    (false, vv 33 32),
    (false, ⟨some (33, true), .mv (some 34) (.r 0)⟩),
    (true, ⟨some (33, true), .call (some 35) true (.f 34) [(.r 34)]⟩),
    (false, ⟨some (33, true), .load (some 36) (.r 3) (some 67)⟩),
    (false, ⟨some (33, true), .call (some 37) true (.f 56) [(.r 36)]⟩),
    (false, ⟨some (33, true), .call (some 38) true (.f 53) [(.r 35), (.r 37)]⟩),
    (false, ⟨none, .pick (some 39) (.r 33) (.r 38) (.c (.lit (.bool false)))⟩),
    (false, vv 40 39),
    (false, ⟨some (40, true), .mv (some 41) (.r 0)⟩),
    (false, ⟨some (40, true), .call (some 42) true (.f 42) [(.r 41)]⟩),
    (false, ⟨some (40, true), .load (some 43) (.r 3) (some 67)⟩),
    (false, ⟨some (40, true), .call (some 44) true (.f 57) [(.r 43)]⟩),
    (false, ⟨some (40, true), .bin (some 45) .num .eql (.r 42) (.r 44)⟩),
    (false, ⟨none, .pick (some 46) (.r 40) (.r 45) (.c (.lit (.bool false)))⟩),
    (false, vv 47 46),
    (false, ⟨some (47, true), .mv (some 48) (.r 0)⟩),
    (false, ⟨some (47, true), .call (some 49) true (.f 43) [(.r 48)]⟩),
    (false, ⟨some (47, true), .addr (some 50) (.r 3) 1⟩),
    (false, ⟨some (47, true), .load (some 51) (.r 50) none⟩)]
def f32_21l : List GI := [⟨some (47, true), .bin (some 52) .num .eql (.r 49) (.r 51)⟩,
    ⟨none, .pick (some 53) (.r 47) (.r 52) (.c (.lit (.bool false)))⟩,
    vo 4 53]
def f32_21 : AC := .drawG [4] [] [] f32_21h f32_21l
theorem f32_21e : aC P id m f32_21 sf st Q = (m = false ∧ preG P id sf.locs st f32_21h (tailG P id m [] [4] [] f32_21l Q st) [] ⟨sf.regs, dropL [] sf.locs⟩) := rfl
def f32_20 : AC := .seq f32_21 .ret
theorem f32_20e : aC P id m f32_20 sf st Q = aC P id m f32_21 sf st (seqQ (aC P id m .ret) Q) := rfl
def f32_3 : AC := .seq f32_4 f32_20
theorem f32_3e : aC P id m f32_3 sf st Q = aC P id m f32_4 sf st (seqQ (aC P id m f32_20) Q) := rfl
def f32_1 : AC := .seq f32_2 f32_3
theorem f32_1e : aC P id m f32_1 sf st Q = aC P id m f32_2 sf st (seqQ (aC P id m f32_3) Q) := rfl
def c_f32 : AFun := ⟨54, [.tmp 4], f32_1⟩
theorem k_f32 : compF Go.Proofs.Try.prog x_f32 32 = some c_f32 := by kernel_rfl
theorem e_f32 : enterB Go.Proofs.Try.prog 32 = true := by kernel_rfl

def n_f34 : Nat := 34
def x_f34 : Cx := ⟨some, id, 21, fun s => ([0, 2, 3, 5, 6, 11, 14, 15, 16, 17, 18, 19, 20] : List Nat).contains s, fun s => ([] : List Nat).contains s, msOf [(2, [0, 14], []), (12, [0, 7, 14], []), (52, [2], []), (14, [0, 3, 14], []), (60, [3, 12, 14], []), (122, [3], []), (1000000129, [3, 14], []), (244, [3, 5], []), (490, [], []), (62, [2], [])]⟩
def f34_2l : List GI := [⟨none, .mv (some 2) (.c (.lit (.slice none 0 0)))⟩]
def f34_2 : AC := .ops [0, 14] [] f34_2l
theorem f34_2e : aC P id m f34_2 sf st Q = runI P id m f34_2l (opsK [0, 14] [] Q) sf st := rfl
def f34_5l : List GI := [vv 6 0,
    ⟨none, .call (some 7) false (.f 59) [(.r 6)]⟩]
def f34_5 : AC := .ops [0, 7, 14] [] f34_5l
theorem f34_5e : aC P id m f34_5 sf st Q = runI P id m f34_5l (opsK [0, 7, 14] [] Q) sf st := rfl
def f34_8l : List GI := [⟨none, .mv (some 2) (.c (.lit (.slice none 0 0)))⟩]
def f34_8 : AC := .ops [2] [] f34_8l
theorem f34_8e : aC P id m f34_8 sf st Q = runI P id m f34_8l (opsK [2] [] Q) sf st := rfl
def f34_7 : AC := .seq f34_8 .ret
theorem f34_7e : aC P id m f34_7 sf st Q = aC P id m f34_8 sf st (seqQ (aC P id m .ret) Q) := rfl
def f34_6 : AC := .cond (.r 7) f34_7 .skip
theorem f34_6e : aC P id m f34_6 sf st Q = condI (.r 7) (sf.ev id (.r 7)) (aC P id m f34_7) (aC P id m .skip) sf st Q := rfl
def f34_4 : AC := .seq f34_5 f34_6
theorem f34_4e : aC P id m f34_4 sf st Q = aC P id m f34_5 sf st (seqQ (aC P id m f34_6) Q) := rfl
def f34_10l : List GI := [⟨none, .newB 3 [(.lit (.slice none 0 0))]⟩]
def f34_10 : AC := .ops [0, 3, 14] [] f34_10l
theorem f34_10e : aC P id m f34_10 sf st Q = runI P id m f34_10l (opsK [0, 3, 14] [] Q) sf st := rfl
def f34_13l : List GI := [vv 8 0,
    vn 9 8,
    vd 10 9 67,
    vl 11 10,
    ⟨none, .call (some 12) false (.f 49) [(.r 11)]⟩]
def f34_13 : AC := .ops [3, 12, 14] [] f34_13l
theorem f34_13e : aC P id m f34_13 sf st Q = runI P id m f34_13l (opsK [3, 12, 14] [] Q) sf st := rfl
def f34_16l : List GI := [vo 5 14]
def f34_16 : AC := .ops [3, 5] [] f34_16l
theorem f34_16e : aC P id m f34_16 sf st Q = runI P id m f34_16l (opsK [3, 5] [] Q) sf st := rfl
def f34_18l : List GI := [⟨none, .loadOwn 15 (.r 3)⟩,
    vv 16 5,
    ⟨none, .bsl (some 17) 1 1 (.lit (.int .i64 0)) [(0, (.r 16))]⟩,
    ⟨none, .appS 18 15 1 8 (.r 17)⟩,
    ⟨none, .store 1 (.r 3) (.r 18)⟩]
def f34_18 : AC := .ops [] [] f34_18l
theorem f34_18e : aC P id m f34_18 sf st Q = runI P id m f34_18l (opsK [] [] Q) sf st := rfl
def f34_17 : AC := .block 1 f34_18
theorem f34_17e : aC P id m f34_17 sf st Q = aC P id m f34_18 sf st (blockQ 1 Q) := rfl
def f34_15 : AC := .rangeF [3] [] (.r 12) [13, 14] [3, 14] f34_16 f34_17
theorem f34_15w : aC P id m f34_15 sf st Q = (m = false ∧ rangeI P (aC P id m f34_16) (aC P id m f34_17) [13, 14] [3, 14] [3] [] (sf.ev id (.r 12)) sf st Q) := rfl
def f34_14 : AC := .block 0 f34_15
theorem f34_14e : aC P id m f34_14 sf st Q = aC P id m f34_15 sf st (blockQ 0 Q) := rfl
def f34_12 : AC := .seq f34_13 f34_14
theorem f34_12e : aC P id m f34_12 sf st Q = aC P id m f34_13 sf st (seqQ (aC P id m f34_14) Q) := rfl
def f34_20l : List GI := [vl 19 3,
    ⟨none, .call (some 20) false (.f 60) [(.r 19)]⟩,
    vo 2 20]
def f34_20 : AC := .ops [2] [] f34_20l
theorem f34_20e : aC P id m f34_20 sf st Q = runI P id m f34_20l (opsK [2] [] Q) sf st := rfl
def f34_19 : AC := .seq f34_20 .ret
theorem f34_19e : aC P id m f34_19 sf st Q = aC P id m f34_20 sf st (seqQ (aC P id m .ret) Q) := rfl
def f34_11 : AC := .seq f34_12 f34_19
theorem f34_11e : aC P id m f34_11 sf st Q = aC P id m f34_12 sf st (seqQ (aC P id m f34_19) Q) := rfl
def f34_9 : AC := .seq f34_10 f34_11
theorem f34_9e : aC P id m f34_9 sf st Q = aC P id m f34_10 sf st (seqQ (aC P id m f34_11) Q) := rfl
def f34_3 : AC := .seq f34_4 f34_9
theorem f34_3e : aC P id m f34_3 sf st Q = aC P id m f34_4 sf st (seqQ (aC P id m f34_9) Q) := rfl
def f34_1 : AC := .seq f34_2 f34_3
theorem f34_1e : aC P id m f34_1 sf st Q = aC P id m f34_2 sf st (seqQ (aC P id m f34_3) Q) := rfl
def c_f34 : AFun := ⟨21, [.tmp 2], f34_1⟩
theorem k_f34 : compF Go.Proofs.Try.prog x_f34 34 = some c_f34 := by kernel_rfl
theorem e_f34 : enterB Go.Proofs.Try.prog 34 = true := by kernel_rfl

def n_f35 : Nat := 35
def x_f35 : Cx := ⟨some, id, 78, fun s => ([0, 1, 2, 3, 8, 9, 10, 11, 12, 13, 14, 15, 16, 17, 19, 21, 25, 26, 27, 31, 33, 37, 42, 43, 44, 45, 46, 50, 51, 53, 54, 55, 57, 61, 62, 63, 64, 65, 66, 68, 72, 73, 74, 75, 76, 77] : List Nat).contains s, fun s => ([] : List Nat).contains s, msOf [(2, [0, 1, 2, 3], []), (12, [0, 1, 2, 3, 10], []), (26, [0, 1, 2, 3, 10, 18], []), (108, [8, 9], []), (28, [0, 1, 2, 3, 32], []), (116, [8, 9], []), (60, [0, 1, 2, 3, 38], []), (244, [8, 9], []), (124, [0, 1, 2, 3, 52], []), (500, [], []), (1002, [8, 9], []), (126, [0, 1, 2, 3, 11, 12], []), (508, [0, 1, 2, 3, 11, 12, 67], []), (2036, [8, 9], []), (510, [], []), (1022, [8, 9], [])]⟩
def f35_2l : List GI := [⟨none, .mv (some 8) (.c (.lit (.bool false)))⟩,
    ⟨none, .mv (some 9) (.c (.lit (.int .i64 0)))⟩]
def f35_2 : AC := .ops [0, 1, 2, 3] [] f35_2l
theorem f35_2e : aC P id m f35_2 sf st Q = runI P id m f35_2l (opsK [0, 1, 2, 3] [] Q) sf st := rfl
def f35_5l : List GI := [vv 13 0,
    vv 14 1,
    vv 15 2,
    ⟨none, .call (some 16) false (.f 61) [(.r 13), (.r 14), (.r 15)]⟩,
    vo 10 16]
def f35_5 : AC := .ops [0, 1, 2, 3, 10] [] f35_5l
theorem f35_5e : aC P id m f35_5 sf st Q = runI P id m f35_5l (opsK [0, 1, 2, 3, 10] [] Q) sf st := rfl
def f35_7l : List GI := [vv 17 10,
    vb 18 .neq 17 0]
def f35_7 : AC := .ops [0, 1, 2, 3, 10, 18] [] f35_7l
theorem f35_7e : aC P id m f35_7 sf st Q = runI P id m f35_7l (opsK [0, 1, 2, 3, 10, 18] [] Q) sf st := rfl
def f35_10l : List GI := [vv 19 10,
    ⟨none, .mv (some 8) (.c (.lit (.bool false)))⟩,
    vo 9 19]
def f35_10 : AC := .ops [8, 9] [] f35_10l
theorem f35_10e : aC P id m f35_10 sf st Q = runI P id m f35_10l (opsK [8, 9] [] Q) sf st := rfl
def f35_9 : AC := .seq f35_10 .ret
theorem f35_9e : aC P id m f35_9 sf st Q = aC P id m f35_10 sf st (seqQ (aC P id m .ret) Q) := rfl
def f35_8 : AC := .cond (.r 18) f35_9 .skip
theorem f35_8e : aC P id m f35_8 sf st Q = condI (.r 18) (sf.ev id (.r 18)) (aC P id m f35_9) (aC P id m .skip) sf st Q := rfl
def f35_6 : AC := .seq f35_7 f35_8
theorem f35_6e : aC P id m f35_6 sf st Q = aC P id m f35_7 sf st (seqQ (aC P id m f35_8) Q) := rfl
def f35_4 : AC := .seq f35_5 f35_6
theorem f35_4e : aC P id m f35_4 sf st Q = aC P id m f35_5 sf st (seqQ (aC P id m f35_6) Q) := rfl
def f35_13h : List GI := [vv 20 0,
    vv 21 1,
    vn 22 20,
    vd 23 22 3,
    ⟨none, .ixA (some 24) (.r 23) (.r 21) 64 1⟩,
    vl 25 24,
    vv 26 2,
    ⟨none, .bin (some 27) .num .add (.r 25) (.r 26)⟩,
    vv 28 0,
    vn 29 28,
    vd 30 29 0,
    vl 31 30]
def f35_13l : List GI := [⟨none, .bin (some 32) .num .gtr (.r 27) (.r 31)⟩]
def f35_13 : AC := .draw [0, 1, 2, 3, 32] [] [] f35_13h f35_13l
theorem f35_13e : aC P id m f35_13 sf st Q = headI P id sf.locs st f35_13h (tailK P id m [] [0, 1, 2, 3, 32] [] f35_13l Q st) [] ⟨sf.regs, dropL [] sf.locs⟩ := rfl
def f35_16l : List GI := [⟨none, .mv (some 8) (.c (.lit (.bool false)))⟩,
    ⟨none, .mv (some 9) (.c (.lit (.int .i64 7)))⟩]
def f35_16 : AC := .ops [8, 9] [] f35_16l
theorem f35_16e : aC P id m f35_16 sf st Q = runI P id m f35_16l (opsK [8, 9] [] Q) sf st := rfl
def f35_15 : AC := .seq f35_16 .ret
theorem f35_15e : aC P id m f35_15 sf st Q = aC P id m f35_16 sf st (seqQ (aC P id m .ret) Q) := rfl
def f35_14 : AC := .cond (.r 32) f35_15 .skip
theorem f35_14e : aC P id m f35_14 sf st Q = condI (.r 32) (sf.ev id (.r 32)) (aC P id m f35_15) (aC P id m .skip) sf st Q := rfl
def f35_12 : AC := .seq f35_13 f35_14
theorem f35_12e : aC P id m f35_12 sf st Q = aC P id m f35_13 sf st (seqQ (aC P id m f35_14) Q) := rfl
def f35_19l : List GI := [vv 33 3,
    vv 34 0,
    vn 35 34,
    vd 36 35 2,
    vl 37 36,
    ⟨none, .call (some 38) false (.f 62) [(.r 33), (.r 37)]⟩]
def f35_19 : AC := .ops [0, 1, 2, 3, 38] [] f35_19l
theorem f35_19e : aC P id m f35_19 sf st Q = runI P id m f35_19l (opsK [0, 1, 2, 3, 38] [] Q) sf st := rfl
def f35_22l : List GI := [⟨none, .mv (some 8) (.c (.lit (.bool false)))⟩,
    ⟨none, .mv (some 9) (.c (.lit (.int .i64 12)))⟩]
def f35_22 : AC := .ops [8, 9] [] f35_22l
theorem f35_22e : aC P id m f35_22 sf st Q = runI P id m f35_22l (opsK [8, 9] [] Q) sf st := rfl
def f35_21 : AC := .seq f35_22 .ret
theorem f35_21e : aC P id m f35_21 sf st Q = aC P id m f35_22 sf st (seqQ (aC P id m .ret) Q) := rfl
def f35_20 : AC := .cond (.r 38) f35_21 .skip
theorem f35_20e : aC P id m f35_20 sf st Q = condI (.r 38) (sf.ev id (.r 38)) (aC P id m f35_21) (aC P id m .skip) sf st Q := rfl
def f35_18 : AC := .seq f35_19 f35_20
theorem f35_18e : aC P id m f35_18 sf st Q = aC P id m f35_19 sf st (seqQ (aC P id m f35_20) Q) := rfl
def f35_25l : List GI := [vv 39 0,
    vn 40 39,
    vd 41 40 67,
    vl 42 41,
    ⟨none, .call (some 43) false (.f 47) [(.r 42)]⟩,
    vb 44 .eql 43 0,
    vv 45 44,
    ⟨some (45, true), .mv (some 46) (.r 2)⟩,
    ⟨some (45, true), .mv (some 47) (.r 0)⟩,
    ⟨some (45, true), .nilck (some 48) (.r 47)⟩,
    ⟨some (45, true), .addr (some 49) (.r 48) 1⟩,
    ⟨some (45, true), .load (some 50) (.r 49) none⟩,
    ⟨some (45, true), .bin (some 51) .num .leq (.r 46) (.r 50)⟩,
    ⟨none, .pick (some 52) (.r 45) (.r 51) (.c (.lit (.bool false)))⟩]
def f35_25 : AC := .ops [0, 1, 2, 3, 52] [] f35_25l
theorem f35_25e : aC P id m f35_25 sf st Q = runI P id m f35_25l (opsK [0, 1, 2, 3, 52] [] Q) sf st := rfl
def f35_28l : List GI := [vv 53 0,
    vv 54 1,
    vv 55 2,
    ⟨none, .call (some 56) false (.f 63) [(.r 53), (.r 54), (.r 55)]⟩]
def f35_28 : AC := .ops [] [] f35_28l
theorem f35_28e : aC P id m f35_28 sf st Q = runI P id m f35_28l (opsK [] [] Q) sf st := rfl
def f35_30l : List GI := [⟨none, .mv (some 8) (.c (.lit (.bool true)))⟩,
    ⟨none, .mv (some 9) (.c (.lit (.int .i64 0)))⟩]
def f35_30 : AC := .ops [8, 9] [] f35_30l
theorem f35_30e : aC P id m f35_30 sf st Q = runI P id m f35_30l (opsK [8, 9] [] Q) sf st := rfl
def f35_29 : AC := .seq f35_30 .ret
theorem f35_29e : aC P id m f35_29 sf st Q = aC P id m f35_30 sf st (seqQ (aC P id m .ret) Q) := rfl
def f35_27 : AC := .seq f35_28 f35_29
theorem f35_27e : aC P id m f35_27 sf st Q = aC P id m f35_28 sf st (seqQ (aC P id m f35_29) Q) := rfl
def f35_26 : AC := .cond (.r 52) f35_27 .skip
theorem f35_26e : aC P id m f35_26 sf st Q = condI (.r 52) (sf.ev id (.r 52)) (aC P id m f35_27) (aC P id m .skip) sf st Q := rfl
def f35_24 : AC := .seq f35_25 f35_26
theorem f35_24e : aC P id m f35_24 sf st Q = aC P id m f35_25 sf st (seqQ (aC P id m f35_26) Q) := rfl
def f35_32l : List GI := [vv 58 0,
    vn 59 58,
    vd 60 59 67,
    vl 61 60,
    vv 62 1,
    ⟨none, .call (some 63) false (.f 48) [(.r 61), (.r 62)]⟩,
    vv 57 63,
    ve 64 57 0,
    ve 65 57 1,
    vo 11 64,
    vo 12 65]
def f35_32 : AC := .ops [0, 1, 2, 3, 11, 12] [] f35_32l
theorem f35_32e : aC P id m f35_32 sf st Q = runI P id m f35_32l (opsK [0, 1, 2, 3, 11, 12] [] Q) sf st := rfl
def f35_35l : List GI := [vv 66 12,
    vb 67 .neq 66 0]
def f35_35 : AC := .ops [0, 1, 2, 3, 11, 12, 67] [] f35_35l
theorem f35_35e : aC P id m f35_35 sf st Q = runI P id m f35_35l (opsK [0, 1, 2, 3, 11, 12, 67] [] Q) sf st := rfl
def f35_38l : List GI := [vv 68 12,
    ⟨none, .mv (some 8) (.c (.lit (.bool false)))⟩,
    vo 9 68]
def f35_38 : AC := .ops [8, 9] [] f35_38l
theorem f35_38e : aC P id m f35_38 sf st Q = runI P id m f35_38l (opsK [8, 9] [] Q) sf st := rfl
def f35_37 : AC := .seq f35_38 .ret
theorem f35_37e : aC P id m f35_37 sf st Q = aC P id m f35_38 sf st (seqQ (aC P id m .ret) Q) := rfl
def f35_36 : AC := .cond (.r 67) f35_37 .skip
theorem f35_36e : aC P id m f35_36 sf st Q = condI (.r 67) (sf.ev id (.r 67)) (aC P id m f35_37) (aC P id m .skip) sf st Q := rfl
def f35_34 : AC := .seq f35_35 f35_36
theorem f35_34e : aC P id m f35_34 sf st Q = aC P id m f35_35 sf st (seqQ (aC P id m f35_36) Q) := rfl
def f35_40l : List GI := [vv 69 0,
    vn 70 69,
    vd 71 70 68,
    vl 72 71,
    vv 73 1,
    vv 74 2,
    vv 75 3,
    vv 76 11,
    ⟨none, .bst (some 77) [(0, 1), (1, 1), (2, 1)] (.agg [(.lit (.int .i64 0)), (.lit (.int .u64 0)), (.lit (.int .u64 0))]) [(0, (.r 74)), (1, (.r 75)), (2, (.r 76))]⟩,
    ⟨none, .upd (.int .i64) (.r 72) (.r 73) (.r 77)⟩]
def f35_40 : AC := .ops [] [] f35_40l
theorem f35_40e : aC P id m f35_40 sf st Q = runI P id m f35_40l (opsK [] [] Q) sf st := rfl
def f35_42l : List GI := [⟨none, .mv (some 8) (.c (.lit (.bool false)))⟩,
    ⟨none, .mv (some 9) (.c (.lit (.int .i64 0)))⟩]
def f35_42 : AC := .ops [8, 9] [] f35_42l
theorem f35_42e : aC P id m f35_42 sf st Q = runI P id m f35_42l (opsK [8, 9] [] Q) sf st := rfl
def f35_41 : AC := .seq f35_42 .ret
theorem f35_41e : aC P id m f35_41 sf st Q = aC P id m f35_42 sf st (seqQ (aC P id m .ret) Q) := rfl
def f35_39 : AC := .seq f35_40 f35_41
theorem f35_39e : aC P id m f35_39 sf st Q = aC P id m f35_40 sf st (seqQ (aC P id m f35_41) Q) := rfl
def f35_33 : AC := .seq f35_34 f35_39
theorem f35_33e : aC P id m f35_33 sf st Q = aC P id m f35_34 sf st (seqQ (aC P id m f35_39) Q) := rfl
def f35_31 : AC := .seq f35_32 f35_33
theorem f35_31e : aC P id m f35_31 sf st Q = aC P id m f35_32 sf st (seqQ (aC P id m f35_33) Q) := rfl
def f35_23 : AC := .seq f35_24 f35_31
theorem f35_23e : aC P id m f35_23 sf st Q = aC P id m f35_24 sf st (seqQ (aC P id m f35_31) Q) := rfl
def f35_17 : AC := .seq f35_18 f35_23
theorem f35_17e : aC P id m f35_17 sf st Q = aC P id m f35_18 sf st (seqQ (aC P id m f35_23) Q) := rfl
def f35_11 : AC := .seq f35_12 f35_17
theorem f35_11e : aC P id m f35_11 sf st Q = aC P id m f35_12 sf st (seqQ (aC P id m f35_17) Q) := rfl
def f35_3 : AC := .seq f35_4 f35_11
theorem f35_3e : aC P id m f35_3 sf st Q = aC P id m f35_4 sf st (seqQ (aC P id m f35_11) Q) := rfl
def f35_1 : AC := .seq f35_2 f35_3
theorem f35_1e : aC P id m f35_1 sf st Q = aC P id m f35_2 sf st (seqQ (aC P id m f35_3) Q) := rfl
def c_f35 : AFun := ⟨78, [.tmp 8, .tmp 9], f35_1⟩
theorem k_f35 : compF Go.Proofs.Try.prog x_f35 35 = some c_f35 := by kernel_rfl
theorem e_f35 : enterB Go.Proofs.Try.prog 35 = true := by kernel_rfl

def n_f36 : Nat := 36
def x_f36 : Cx := ⟨some, id, 46, fun s => ([0, 1, 2, 6, 7, 8, 9, 10, 11, 12, 14, 16, 20, 21, 22, 26, 31, 32, 33, 34, 35, 39, 40, 42, 43, 44] : List Nat).contains s, fun s => ([] : List Nat).contains s, msOf [(2, [0, 1, 2], []), (12, [0, 1, 2, 7], []), (26, [0, 1, 2, 7, 13], []), (108, [6], []), (28, [0, 1, 2, 27], []), (116, [6], []), (60, [0, 1, 2, 41], []), (244, [6], []), (62, [], []), (126, [6], [])]⟩
def f36_2l : List GI := [⟨none, .mv (some 6) (.c (.lit (.int .i64 0)))⟩]
def f36_2 : AC := .ops [0, 1, 2] [] f36_2l
theorem f36_2e : aC P id m f36_2 sf st Q = runI P id m f36_2l (opsK [0, 1, 2] [] Q) sf st := rfl
def f36_5l : List GI := [vv 8 0,
    vv 9 1,
    vv 10 2,
    ⟨none, .call (some 11) false (.f 61) [(.r 8), (.r 9), (.r 10)]⟩,
    vo 7 11]
def f36_5 : AC := .ops [0, 1, 2, 7] [] f36_5l
theorem f36_5e : aC P id m f36_5 sf st Q = runI P id m f36_5l (opsK [0, 1, 2, 7] [] Q) sf st := rfl
def f36_7l : List GI := [vv 12 7,
    vb 13 .neq 12 0]
def f36_7 : AC := .ops [0, 1, 2, 7, 13] [] f36_7l
theorem f36_7e : aC P id m f36_7 sf st Q = runI P id m f36_7l (opsK [0, 1, 2, 7, 13] [] Q) sf st := rfl
def f36_10l : List GI := [vv 14 7,
    vo 6 14]
def f36_10 : AC := .ops [6] [] f36_10l
theorem f36_10e : aC P id m f36_10 sf st Q = runI P id m f36_10l (opsK [6] [] Q) sf st := rfl
def f36_9 : AC := .seq f36_10 .ret
theorem f36_9e : aC P id m f36_9 sf st Q = aC P id m f36_10 sf st (seqQ (aC P id m .ret) Q) := rfl
def f36_8 : AC := .cond (.r 13) f36_9 .skip
theorem f36_8e : aC P id m f36_8 sf st Q = condI (.r 13) (sf.ev id (.r 13)) (aC P id m f36_9) (aC P id m .skip) sf st Q := rfl
def f36_6 : AC := .seq f36_7 f36_8
theorem f36_6e : aC P id m f36_6 sf st Q = aC P id m f36_7 sf st (seqQ (aC P id m f36_8) Q) := rfl
def f36_4 : AC := .seq f36_5 f36_6
theorem f36_4e : aC P id m f36_4 sf st Q = aC P id m f36_5 sf st (seqQ (aC P id m f36_6) Q) := rfl
def f36_13h : List GI := [vv 15 0,
    vv 16 1,
    vn 17 15,
    vd 18 17 3,
    ⟨none, .ixA (some 19) (.r 18) (.r 16) 64 1⟩,
    vl 20 19,
    vv 21 2,
    ⟨none, .bin (some 22) .num .add (.r 20) (.r 21)⟩,
    vv 23 0,
    vn 24 23,
    vd 25 24 0,
    vl 26 25]
def f36_13l : List GI := [⟨none, .bin (some 27) .num .gtr (.r 22) (.r 26)⟩]
def f36_13 : AC := .draw [0, 1, 2, 27] [] [] f36_13h f36_13l
theorem f36_13e : aC P id m f36_13 sf st Q = headI P id sf.locs st f36_13h (tailK P id m [] [0, 1, 2, 27] [] f36_13l Q st) [] ⟨sf.regs, dropL [] sf.locs⟩ := rfl
def f36_16l : List GI := [⟨none, .mv (some 6) (.c (.lit (.int .i64 7)))⟩]
def f36_16 : AC := .ops [6] [] f36_16l
theorem f36_16e : aC P id m f36_16 sf st Q = runI P id m f36_16l (opsK [6] [] Q) sf st := rfl
def f36_15 : AC := .seq f36_16 .ret
theorem f36_15e : aC P id m f36_15 sf st Q = aC P id m f36_16 sf st (seqQ (aC P id m .ret) Q) := rfl
def f36_14 : AC := .cond (.r 27) f36_15 .skip
theorem f36_14e : aC P id m f36_14 sf st Q = condI (.r 27) (sf.ev id (.r 27)) (aC P id m f36_15) (aC P id m .skip) sf st Q := rfl
def f36_12 : AC := .seq f36_13 f36_14
theorem f36_12e : aC P id m f36_12 sf st Q = aC P id m f36_13 sf st (seqQ (aC P id m f36_14) Q) := rfl
def f36_19l : List GI := [vv 28 0,
    vn 29 28,
    vd 30 29 67,
    vl 31 30,
    ⟨none, .call (some 32) false (.f 47) [(.r 31)]⟩,
    vb 33 .gtr 32 0,
    vv 34 33,
    ⟨some (34, false), .mv (some 35) (.r 2)⟩,
    ⟨some (34, false), .mv (some 36) (.r 0)⟩,
    ⟨some (34, false), .nilck (some 37) (.r 36)⟩,
    ⟨some (34, false), .addr (some 38) (.r 37) 1⟩,
    ⟨some (34, false), .load (some 39) (.r 38) none⟩,
    ⟨some (34, false), .bin (some 40) .num .gtr (.r 35) (.r 39)⟩,
    ⟨none, .pick (some 41) (.r 34) (.c (.lit (.bool true))) (.r 40)⟩]
def f36_19 : AC := .ops [0, 1, 2, 41] [] f36_19l
theorem f36_19e : aC P id m f36_19 sf st Q = runI P id m f36_19l (opsK [0, 1, 2, 41] [] Q) sf st := rfl
def f36_22l : List GI := [⟨none, .mv (some 6) (.c (.lit (.int .i64 16)))⟩]
def f36_22 : AC := .ops [6] [] f36_22l
theorem f36_22e : aC P id m f36_22 sf st Q = runI P id m f36_22l (opsK [6] [] Q) sf st := rfl
def f36_21 : AC := .seq f36_22 .ret
theorem f36_21e : aC P id m f36_21 sf st Q = aC P id m f36_22 sf st (seqQ (aC P id m .ret) Q) := rfl
def f36_20 : AC := .cond (.r 41) f36_21 .skip
theorem f36_20e : aC P id m f36_20 sf st Q = condI (.r 41) (sf.ev id (.r 41)) (aC P id m f36_21) (aC P id m .skip) sf st Q := rfl
def f36_18 : AC := .seq f36_19 f36_20
theorem f36_18e : aC P id m f36_18 sf st Q = aC P id m f36_19 sf st (seqQ (aC P id m f36_20) Q) := rfl
def f36_24l : List GI := [vv 42 0,
    vv 43 1,
    vv 44 2,
    ⟨none, .call (some 45) false (.f 63) [(.r 42), (.r 43), (.r 44)]⟩]
def f36_24 : AC := .ops [] [] f36_24l
theorem f36_24e : aC P id m f36_24 sf st Q = runI P id m f36_24l (opsK [] [] Q) sf st := rfl
def f36_26l : List GI := [⟨none, .mv (some 6) (.c (.lit (.int .i64 0)))⟩]
def f36_26 : AC := .ops [6] [] f36_26l
theorem f36_26e : aC P id m f36_26 sf st Q = runI P id m f36_26l (opsK [6] [] Q) sf st := rfl
def f36_25 : AC := .seq f36_26 .ret
theorem f36_25e : aC P id m f36_25 sf st Q = aC P id m f36_26 sf st (seqQ (aC P id m .ret) Q) := rfl
def f36_23 : AC := .seq f36_24 f36_25
theorem f36_23e : aC P id m f36_23 sf st Q = aC P id m f36_24 sf st (seqQ (aC P id m f36_25) Q) := rfl
def f36_17 : AC := .seq f36_18 f36_23
theorem f36_17e : aC P id m f36_17 sf st Q = aC P id m f36_18 sf st (seqQ (aC P id m f36_23) Q) := rfl
def f36_11 : AC := .seq f36_12 f36_17
theorem f36_11e : aC P id m f36_11 sf st Q = aC P id m f36_12 sf st (seqQ (aC P id m f36_17) Q) := rfl
def f36_3 : AC := .seq f36_4 f36_11
theorem f36_3e : aC P id m f36_3 sf st Q = aC P id m f36_4 sf st (seqQ (aC P id m f36_11) Q) := rfl
def f36_1 : AC := .seq f36_2 f36_3
theorem f36_1e : aC P id m f36_1 sf st Q = aC P id m f36_2 sf st (seqQ (aC P id m f36_3) Q) := rfl
def c_f36 : AFun := ⟨46, [.tmp 6], f36_1⟩
theorem k_f36 : compF Go.Proofs.Try.prog x_f36 36 = some c_f36 := by kernel_rfl
theorem e_f36 : enterB Go.Proofs.Try.prog 36 = true := by kernel_rfl

def n_f37 : Nat := 37
def x_f37 : Cx := ⟨some, id, 31, fun s => ([0, 1, 2, 6, 7, 8, 9, 10, 11, 12, 13, 15, 17, 21, 22, 24, 25, 26, 27, 29, 30] : List Nat).contains s, fun s => ([] : List Nat).contains s, msOf [(2, [0, 1, 2], []), (12, [0, 1, 2, 8], []), (26, [0, 1, 2, 8, 14], []), (108, [6, 7], []), (28, [0, 1, 2, 23], []), (116, [6, 7], []), (30, [0], []), (62, [6, 7], [])]⟩
def f37_2l : List GI := [⟨none, .mv (some 6) (.c (.lit (.slice none 0 0)))⟩,
    ⟨none, .mv (some 7) (.c (.lit (.int .i64 0)))⟩]
def f37_2 : AC := .ops [0, 1, 2] [] f37_2l
theorem f37_2e : aC P id m f37_2 sf st Q = runI P id m f37_2l (opsK [0, 1, 2] [] Q) sf st := rfl
def f37_5l : List GI := [vv 9 0,
    vv 10 1,
    vv 11 2,
    ⟨none, .call (some 12) false (.f 61) [(.r 9), (.r 10), (.r 11)]⟩,
    vo 8 12]
def f37_5 : AC := .ops [0, 1, 2, 8] [] f37_5l
theorem f37_5e : aC P id m f37_5 sf st Q = runI P id m f37_5l (opsK [0, 1, 2, 8] [] Q) sf st := rfl
def f37_7l : List GI := [vv 13 8,
    vb 14 .neq 13 0]
def f37_7 : AC := .ops [0, 1, 2, 8, 14] [] f37_7l
theorem f37_7e : aC P id m f37_7 sf st Q = runI P id m f37_7l (opsK [0, 1, 2, 8, 14] [] Q) sf st := rfl
def f37_10l : List GI := [vv 15 8,
    ⟨none, .mv (some 6) (.c (.lit (.slice none 0 0)))⟩,
    vo 7 15]
def f37_10 : AC := .ops [6, 7] [] f37_10l
theorem f37_10e : aC P id m f37_10 sf st Q = runI P id m f37_10l (opsK [6, 7] [] Q) sf st := rfl
def f37_9 : AC := .seq f37_10 .ret
theorem f37_9e : aC P id m f37_9 sf st Q = aC P id m f37_10 sf st (seqQ (aC P id m .ret) Q) := rfl
def f37_8 : AC := .cond (.r 14) f37_9 .skip
theorem f37_8e : aC P id m f37_8 sf st Q = condI (.r 14) (sf.ev id (.r 14)) (aC P id m f37_9) (aC P id m .skip) sf st Q := rfl
def f37_6 : AC := .seq f37_7 f37_8
theorem f37_6e : aC P id m f37_6 sf st Q = aC P id m f37_7 sf st (seqQ (aC P id m f37_8) Q) := rfl
def f37_4 : AC := .seq f37_5 f37_6
theorem f37_4e : aC P id m f37_4 sf st Q = aC P id m f37_5 sf st (seqQ (aC P id m f37_6) Q) := rfl
def f37_13l : List GI := [vv 16 0,
    vv 17 1,
    vn 18 16,
    vd 19 18 3,
    ⟨none, .ixA (some 20) (.r 19) (.r 17) 64 1⟩,
    vl 21 20,
    vv 22 2,
    ⟨none, .bin (some 23) .num .lss (.r 21) (.r 22)⟩]
def f37_13 : AC := .ops [0, 1, 2, 23] [] f37_13l
theorem f37_13e : aC P id m f37_13 sf st Q = runI P id m f37_13l (opsK [0, 1, 2, 23] [] Q) sf st := rfl
def f37_16l : List GI := [⟨none, .mv (some 6) (.c (.lit (.slice none 0 0)))⟩,
    ⟨none, .mv (some 7) (.c (.lit (.int .i64 9)))⟩]
def f37_16 : AC := .ops [6, 7] [] f37_16l
theorem f37_16e : aC P id m f37_16 sf st Q = runI P id m f37_16l (opsK [6, 7] [] Q) sf st := rfl
def f37_15 : AC := .seq f37_16 .ret
theorem f37_15e : aC P id m f37_15 sf st Q = aC P id m f37_16 sf st (seqQ (aC P id m .ret) Q) := rfl
def f37_14 : AC := .cond (.r 23) f37_15 .skip
theorem f37_14e : aC P id m f37_14 sf st Q = condI (.r 23) (sf.ev id (.r 23)) (aC P id m f37_15) (aC P id m .skip) sf st Q := rfl
def f37_12 : AC := .seq f37_13 f37_14
theorem f37_12e : aC P id m f37_12 sf st Q = aC P id m f37_13 sf st (seqQ (aC P id m f37_14) Q) := rfl
def f37_18l : List GI := [vv 24 0,
    vv 25 1,
    vv 26 2,
    ⟨none, .un (some 27) .neg (.r 26)⟩,
    ⟨none, .call (some 28) false (.f 63) [(.r 24), (.r 25), (.r 27)]⟩]
def f37_18 : AC := .ops [0] [] f37_18l
theorem f37_18e : aC P id m f37_18 sf st Q = runI P id m f37_18l (opsK [0] [] Q) sf st := rfl
def f37_20l : List GI := [vv 29 0,
    ⟨none, .call (some 30) false (.f 64) [(.r 29), (.c (.lit (.slice none 0 0)))]⟩,
    vo 6 30,
    ⟨none, .mv (some 7) (.c (.lit (.int .i64 0)))⟩]
def f37_20 : AC := .ops [6, 7] [] f37_20l
theorem f37_20e : aC P id m f37_20 sf st Q = runI P id m f37_20l (opsK [6, 7] [] Q) sf st := rfl
def f37_19 : AC := .seq f37_20 .ret
theorem f37_19e : aC P id m f37_19 sf st Q = aC P id m f37_20 sf st (seqQ (aC P id m .ret) Q) := rfl
def f37_17 : AC := .seq f37_18 f37_19
theorem f37_17e : aC P id m f37_17 sf st Q = aC P id m f37_18 sf st (seqQ (aC P id m f37_19) Q) := rfl
def f37_11 : AC := .seq f37_12 f37_17
theorem f37_11e : aC P id m f37_11 sf st Q = aC P id m f37_12 sf st (seqQ (aC P id m f37_17) Q) := rfl
def f37_3 : AC := .seq f37_4 f37_11
theorem f37_3e : aC P id m f37_3 sf st Q = aC P id m f37_4 sf st (seqQ (aC P id m f37_11) Q) := rfl
def f37_1 : AC := .seq f37_2 f37_3
theorem f37_1e : aC P id m f37_1 sf st Q = aC P id m f37_2 sf st (seqQ (aC P id m f37_3) Q) := rfl
def c_f37 : AFun := ⟨31, [.tmp 6, .tmp 7], f37_1⟩
theorem k_f37 : compF Go.Proofs.Try.prog x_f37 37 = some c_f37 := by kernel_rfl
theorem e_f37 : enterB Go.Proofs.Try.prog 37 = true := by kernel_rfl

def n_f38 : Nat := 38
def x_f38 : Cx := ⟨some, id, 32, fun s => ([0, 1, 4, 5, 7, 8, 10, 11, 12, 13, 14, 16, 20, 21, 22, 23, 24, 25, 27, 28, 30, 31] : List Nat).contains s, fun s => ([] : List Nat).contains s, msOf [(2, [0, 1], []), (12, [0, 1, 9], []), (52, [4, 5], []), (28, [0, 1, 15], []), (116, [4, 5], []), (60, [0, 1, 7], []), (122, [0, 1, 26], []), (492, [4, 5], []), (62, [0], []), (126, [4, 5], [])]⟩
def f38_2l : List GI := [⟨none, .mv (some 4) (.c (.lit (.slice none 0 0)))⟩,
    ⟨none, .mv (some 5) (.c (.lit (.int .i64 0)))⟩]
def f38_2 : AC := .ops [0, 1] [] f38_2l
theorem f38_2e : aC P id m f38_2 sf st Q = runI P id m f38_2l (opsK [0, 1] [] Q) sf st := rfl
def f38_5l : List GI := [vv 8 0,
    ⟨none, .call (some 9) false (.f 59) [(.r 8)]⟩]
def f38_5 : AC := .ops [0, 1, 9] [] f38_5l
theorem f38_5e : aC P id m f38_5 sf st Q = runI P id m f38_5l (opsK [0, 1, 9] [] Q) sf st := rfl
def f38_8l : List GI := [⟨none, .mv (some 4) (.c (.lit (.slice none 0 0)))⟩,
    ⟨none, .mv (some 5) (.c (.lit (.int .i64 1)))⟩]
def f38_8 : AC := .ops [4, 5] [] f38_8l
theorem f38_8e : aC P id m f38_8 sf st Q = runI P id m f38_8l (opsK [4, 5] [] Q) sf st := rfl
def f38_7 : AC := .seq f38_8 .ret
theorem f38_7e : aC P id m f38_7 sf st Q = aC P id m f38_8 sf st (seqQ (aC P id m .ret) Q) := rfl
def f38_6 : AC := .cond (.r 9) f38_7 .skip
theorem f38_6e : aC P id m f38_6 sf st Q = condI (.r 9) (sf.ev id (.r 9)) (aC P id m f38_7) (aC P id m .skip) sf st Q := rfl
def f38_4 : AC := .seq f38_5 f38_6
theorem f38_4e : aC P id m f38_4 sf st Q = aC P id m f38_5 sf st (seqQ (aC P id m f38_6) Q) := rfl
def f38_11l : List GI := [vv 10 1,
    vb 11 .lss 10 0,
    vv 12 11,
    ⟨some (12, false), .mv (some 13) (.r 1)⟩,
    ⟨some (12, false), .bin (some 14) .num .geq (.r 13) (.c (.lit (.int .i64 64)))⟩,
    ⟨none, .pick (some 15) (.r 12) (.c (.lit (.bool true))) (.r 14)⟩]
def f38_11 : AC := .ops [0, 1, 15] [] f38_11l
theorem f38_11e : aC P id m f38_11 sf st Q = runI P id m f38_11l (opsK [0, 1, 15] [] Q) sf st := rfl
def f38_14l : List GI := [⟨none, .mv (some 4) (.c (.lit (.slice none 0 0)))⟩,
    ⟨none, .mv (some 5) (.c (.lit (.int .i64 2)))⟩]
def f38_14 : AC := .ops [4, 5] [] f38_14l
theorem f38_14e : aC P id m f38_14 sf st Q = runI P id m f38_14l (opsK [4, 5] [] Q) sf st := rfl
def f38_13 : AC := .seq f38_14 .ret
theorem f38_13e : aC P id m f38_13 sf st Q = aC P id m f38_14 sf st (seqQ (aC P id m .ret) Q) := rfl
def f38_12 : AC := .cond (.r 15) f38_13 .skip
theorem f38_12e : aC P id m f38_12 sf st Q = condI (.r 15) (sf.ev id (.r 15)) (aC P id m f38_13) (aC P id m .skip) sf st Q := rfl
def f38_10 : AC := .seq f38_11 f38_12
theorem f38_10e : aC P id m f38_10 sf st Q = aC P id m f38_11 sf st (seqQ (aC P id m f38_12) Q) := rfl
def f38_17l : List GI := [vv 17 0,
    vn 18 17,
    vd 19 18 68,
    vl 20 19,
    vv 21 1,
    ⟨none, .lookup (some 22) (.int .i64) (.agg [(.lit (.int .i64 0)), (.lit (.int .u64 0)), (.lit (.int .u64 0))]) true (.r 20) (.r 21)⟩,
    vv 16 22,
    ve 23 16 0,
    ve 24 16 1,
    ⟨none, .newL 6 [(.lit (.int .i64 0)), (.lit (.int .u64 0)), (.lit (.int .u64 0))]⟩,
    ⟨none, .store 3 (.r 6) (.r 23)⟩,
    vo 7 24]
def f38_17 : AC := .ops [0, 1, 7] [] f38_17l
theorem f38_17e : aC P id m f38_17 sf st Q = runI P id m f38_17l (opsK [0, 1, 7] [] Q) sf st := rfl
def f38_19l : List GI := [vv 25 7,
    ⟨none, .un (some 26) .not (.r 25)⟩]
def f38_19 : AC := .ops [0, 1, 26] [] f38_19l
theorem f38_19e : aC P id m f38_19 sf st Q = runI P id m f38_19l (opsK [0, 1, 26] [] Q) sf st := rfl
def f38_22l : List GI := [⟨none, .mv (some 4) (.c (.lit (.slice none 0 0)))⟩,
    ⟨none, .mv (some 5) (.c (.lit (.int .i64 9)))⟩]
def f38_22 : AC := .ops [4, 5] [] f38_22l
theorem f38_22e : aC P id m f38_22 sf st Q = runI P id m f38_22l (opsK [4, 5] [] Q) sf st := rfl
def f38_21 : AC := .seq f38_22 .ret
theorem f38_21e : aC P id m f38_21 sf st Q = aC P id m f38_22 sf st (seqQ (aC P id m .ret) Q) := rfl
def f38_20 : AC := .cond (.r 26) f38_21 .skip
theorem f38_20e : aC P id m f38_20 sf st Q = condI (.r 26) (sf.ev id (.r 26)) (aC P id m f38_21) (aC P id m .skip) sf st Q := rfl
def f38_18 : AC := .seq f38_19 f38_20
theorem f38_18e : aC P id m f38_18 sf st Q = aC P id m f38_19 sf st (seqQ (aC P id m f38_20) Q) := rfl
def f38_16 : AC := .seq f38_17 f38_18
theorem f38_16e : aC P id m f38_16 sf st Q = aC P id m f38_17 sf st (seqQ (aC P id m f38_18) Q) := rfl
def f38_24l : List GI := [vv 27 0,
    vv 28 1,
    ⟨none, .call (some 29) false (.f 65) [(.r 27), (.r 28)]⟩]
def f38_24 : AC := .ops [0] [] f38_24l
theorem f38_24e : aC P id m f38_24 sf st Q = runI P id m f38_24l (opsK [0] [] Q) sf st := rfl
def f38_26l : List GI := [vv 30 0,
    ⟨none, .call (some 31) false (.f 64) [(.r 30), (.c (.lit (.slice none 0 0)))]⟩,
    vo 4 31,
    ⟨none, .mv (some 5) (.c (.lit (.int .i64 0)))⟩]
def f38_26 : AC := .ops [4, 5] [] f38_26l
theorem f38_26e : aC P id m f38_26 sf st Q = runI P id m f38_26l (opsK [4, 5] [] Q) sf st := rfl
def f38_25 : AC := .seq f38_26 .ret
theorem f38_25e : aC P id m f38_25 sf st Q = aC P id m f38_26 sf st (seqQ (aC P id m .ret) Q) := rfl
def f38_23 : AC := .seq f38_24 f38_25
theorem f38_23e : aC P id m f38_23 sf st Q = aC P id m f38_24 sf st (seqQ (aC P id m f38_25) Q) := rfl
def f38_15 : AC := .seq f38_16 f38_23
theorem f38_15e : aC P id m f38_15 sf st Q = aC P id m f38_16 sf st (seqQ (aC P id m f38_23) Q) := rfl
def f38_9 : AC := .seq f38_10 f38_15
theorem f38_9e : aC P id m f38_9 sf st Q = aC P id m f38_10 sf st (seqQ (aC P id m f38_15) Q) := rfl
def f38_3 : AC := .seq f38_4 f38_9
theorem f38_3e : aC P id m f38_3 sf st Q = aC P id m f38_4 sf st (seqQ (aC P id m f38_9) Q) := rfl
def f38_1 : AC := .seq f38_2 f38_3
theorem f38_1e : aC P id m f38_1 sf st Q = aC P id m f38_2 sf st (seqQ (aC P id m f38_3) Q) := rfl
def c_f38 : AFun := ⟨32, [.tmp 4, .tmp 5], f38_1⟩
theorem k_f38 : compF Go.Proofs.Try.prog x_f38 38 = some c_f38 := by kernel_rfl
theorem e_f38 : enterB Go.Proofs.Try.prog 38 = true := by kernel_rfl

def n_f39 : Nat := 39
def x_f39 : Cx := ⟨some, id, 62, fun s => ([0, 1, 4, 5, 6, 7, 9, 10, 12, 16, 17, 18, 19, 20, 22, 23, 24, 25, 27, 28, 29, 30, 31, 32, 35, 39, 40, 41, 42, 43, 45, 46, 48, 49, 50, 51, 52, 53, 54, 55, 56, 58, 61] : List Nat).contains s, fun s => ([52] : List Nat).contains s, msOf [(2, [0, 1], []), (12, [0, 1, 11], []), (52, [4, 5], []), (28, [0, 1, 21], []), (116, [4, 5], []), (30, [0, 1, 6], []), (124, [0, 1, 6, 7], []), (250, [0, 1, 6, 7], []), (2000, [0, 1, 6, 7, 26], []), (4003, [0, 1, 6], []), (16016, [0, 1, 6, 7, 30, 31, 32], []), (32034, [0, 1, 6, 7, 30, 31, 32], []), (128136, [0, 1, 6, 7, 30, 31, 32, 33], []), (512549, [0, 1, 6], []), (2050200, [0, 1, 6, 7, 9, 30, 31, 32], []), (4100402, [0, 1, 6, 7, 9, 30, 31, 32, 44], []), (16401612, [0, 1, 6, 7, 9, 30, 31, 32], []), (16401613, [0, 1, 6, 7, 30, 31, 32], []), (512551, [0, 1, 6, 7, 30, 31, 32], []), (8009, [0, 1, 6], []), (2003, [0, 1, 6, 7], []), (126, [6], []), (254, [4, 5], [])]⟩
def f39_2l : List GI := [⟨none, .mv (some 4) (.c (.lit (.slice none 0 0)))⟩,
    ⟨none, .mv (some 5) (.c (.lit (.int .i64 0)))⟩]
def f39_2 : AC := .ops [0, 1] [] f39_2l
theorem f39_2e : aC P id m f39_2 sf st Q = runI P id m f39_2l (opsK [0, 1] [] Q) sf st := rfl
def f39_5l : List GI := [vv 10 0,
    ⟨none, .call (some 11) false (.f 59) [(.r 10)]⟩]
def f39_5 : AC := .ops [0, 1, 11] [] f39_5l
theorem f39_5e : aC P id m f39_5 sf st Q = runI P id m f39_5l (opsK [0, 1, 11] [] Q) sf st := rfl
def f39_8l : List GI := [⟨none, .mv (some 4) (.c (.lit (.slice none 0 0)))⟩,
    ⟨none, .mv (some 5) (.c (.lit (.int .i64 1)))⟩]
def f39_8 : AC := .ops [4, 5] [] f39_8l
theorem f39_8e : aC P id m f39_8 sf st Q = runI P id m f39_8l (opsK [4, 5] [] Q) sf st := rfl
def f39_7 : AC := .seq f39_8 .ret
theorem f39_7e : aC P id m f39_7 sf st Q = aC P id m f39_8 sf st (seqQ (aC P id m .ret) Q) := rfl
def f39_6 : AC := .cond (.r 11) f39_7 .skip
theorem f39_6e : aC P id m f39_6 sf st Q = condI (.r 11) (sf.ev id (.r 11)) (aC P id m f39_7) (aC P id m .skip) sf st Q := rfl
def f39_4 : AC := .seq f39_5 f39_6
theorem f39_4e : aC P id m f39_4 sf st Q = aC P id m f39_5 sf st (seqQ (aC P id m f39_6) Q) := rfl
def f39_11l : List GI := [vv 12 1,
    vv 13 0,
    vn 14 13,
    vd 15 14 2,
    vl 16 15,
    ⟨none, .bin (some 17) .num .lss (.r 12) (.r 16)⟩,
    vv 18 17,
    ⟨some (18, false), .mv (some 19) (.r 1)⟩,
    ⟨some (18, false), .bin (some 20) .num .eql (.r 19) (.c (.lit (.int .u64 18446744073709551615)))⟩,
    ⟨none, .pick (some 21) (.r 18) (.c (.lit (.bool true))) (.r 20)⟩]
def f39_11 : AC := .ops [0, 1, 21] [] f39_11l
theorem f39_11e : aC P id m f39_11 sf st Q = runI P id m f39_11l (opsK [0, 1, 21] [] Q) sf st := rfl
def f39_14l : List GI := [⟨none, .mv (some 4) (.c (.lit (.slice none 0 0)))⟩,
    ⟨none, .mv (some 5) (.c (.lit (.int .i64 3)))⟩]
def f39_14 : AC := .ops [4, 5] [] f39_14l
theorem f39_14e : aC P id m f39_14 sf st Q = runI P id m f39_14l (opsK [4, 5] [] Q) sf st := rfl
def f39_13 : AC := .seq f39_14 .ret
theorem f39_13e : aC P id m f39_13 sf st Q = aC P id m f39_14 sf st (seqQ (aC P id m .ret) Q) := rfl
def f39_12 : AC := .cond (.r 21) f39_13 .skip
theorem f39_12e : aC P id m f39_12 sf st Q = condI (.r 21) (sf.ev id (.r 21)) (aC P id m f39_13) (aC P id m .skip) sf st Q := rfl
def f39_10 : AC := .seq f39_11 f39_12
theorem f39_10e : aC P id m f39_10 sf st Q = aC P id m f39_11 sf st (seqQ (aC P id m f39_12) Q) := rfl
def f39_16l : List GI := [⟨none, .mv (some 6) (.c (.lit (.slice none 0 0)))⟩]
def f39_16 : AC := .ops [0, 1, 6] [] f39_16l
theorem f39_16e : aC P id m f39_16 sf st Q = runI P id m f39_16l (opsK [0, 1, 6] [] Q) sf st := rfl
def f39_19l : List GI := [vv 22 0,
    ⟨none, .call (some 23) false (.f 42) [(.r 22)]⟩,
    vo 7 23]
def f39_19 : AC := .ops [0, 1, 6, 7] [] f39_19l
theorem f39_19e : aC P id m f39_19 sf st Q = runI P id m f39_19l (opsK [0, 1, 6, 7] [] Q) sf st := rfl
def f39_24l : List GI := [vv 24 7,
    vv 25 1,
    ⟨none, .bin (some 26) .num .leq (.r 24) (.r 25)⟩]
def f39_24 : AC := .ops [0, 1, 6, 7, 26] [] f39_24l
theorem f39_24e : aC P id m f39_24 sf st Q = runI P id m f39_24l (opsK [0, 1, 6, 7, 26] [] Q) sf st := rfl
def f39_25 : AC := .cond (.r 26) .skip (.exit [0, 1, 6] [] 0)
theorem f39_25e : aC P id m f39_25 sf st Q = condI (.r 26) (sf.ev id (.r 26)) (aC P id m .skip) (aC P id m (.exit [0, 1, 6] [] 0)) sf st Q := rfl
def f39_23 : AC := .seq f39_24 f39_25
theorem f39_23e : aC P id m f39_23 sf st Q = aC P id m f39_24 sf st (seqQ (aC P id m f39_25) Q) := rfl
def f39_30l : List GI := [vv 29 0,
    ⟨none, .call (some 30) false (.f 34) [(.r 29)]⟩,
    ⟨none, .len (some 31) .sl (.r 30)⟩,
    ⟨none, .mv (some 32) (.c (.lit (.int .i64 0)))⟩]
def f39_30 : AC := .ops [0, 1, 6, 7, 30, 31, 32] [] f39_30l
theorem f39_30e : aC P id m f39_30 sf st Q = runI P id m f39_30l (opsK [0, 1, 6, 7, 30, 31, 32] [] Q) sf st := rfl
def f39_34l : List GI := [⟨none, .bin (some 33) .num .lss (.r 32) (.r 31)⟩]
def f39_34 : AC := .ops [0, 1, 6, 7, 30, 31, 32, 33] [] f39_34l
theorem f39_34e : aC P id m f39_34 sf st Q = runI P id m f39_34l (opsK [0, 1, 6, 7, 30, 31, 32, 33] [] Q) sf st := rfl
def f39_36 : AC := .cond (.r 33) .skip (.exit [0, 1, 6] [] 2)
theorem f39_36e : aC P id m f39_36 sf st Q = condI (.r 33) (sf.ev id (.r 33)) (aC P id m .skip) (aC P id m (.exit [0, 1, 6] [] 2)) sf st Q := rfl
def f39_40l : List GI := [⟨none, .ixS (some 34) (.r 30) (.r 32) 1⟩,
    vl 35 34,
    vo 9 35]
def f39_40 : AC := .ops [0, 1, 6, 7, 9, 30, 31, 32] [] f39_40l
theorem f39_40e : aC P id m f39_40 sf st Q = runI P id m f39_40l (opsK [0, 1, 6, 7, 9, 30, 31, 32] [] Q) sf st := rfl
def f39_42l : List GI := [vv 36 0,
    vn 37 36,
    vd 38 37 68,
    vl 39 38,
    vv 40 9,
    ⟨none, .lookup (some 41) (.int .i64) (.agg [(.lit (.int .i64 0)), (.lit (.int .u64 0)), (.lit (.int .u64 0))]) false (.r 39) (.r 40)⟩,
    ⟨none, .field (some 42) (.r 41) 1 none⟩,
    vv 43 7,
    ⟨none, .bin (some 44) .num .eql (.r 42) (.r 43)⟩]
def f39_42 : AC := .ops [0, 1, 6, 7, 9, 30, 31, 32, 44] [] f39_42l
theorem f39_42e : aC P id m f39_42 sf st Q = runI P id m f39_42l (opsK [0, 1, 6, 7, 9, 30, 31, 32, 44] [] Q) sf st := rfl
def f39_45l : List GI := [vv 45 0,
    vv 46 9,
    ⟨none, .call (some 47) false (.f 65) [(.r 45), (.r 46)]⟩]
def f39_45 : AC := .ops [0, 1, 6, 7, 9, 30, 31, 32] [] f39_45l
theorem f39_45e : aC P id m f39_45 sf st Q = runI P id m f39_45l (opsK [0, 1, 6, 7, 9, 30, 31, 32] [] Q) sf st := rfl
def f39_46l : List GI := [vo 48 6,
    vv 49 9,
    ⟨none, .bst (some 50) [(0, 1), (1, 1)] (.agg [(.lit (.int .i64 0)), (.lit (.int .i64 0))]) [(0, (.r 49)), (1, (.c (.lit (.int .i64 12))))]⟩,
    ⟨none, .bsl (some 51) 2 1 (.agg [(.lit (.int .i64 0)), (.lit (.int .i64 0))]) [(0, (.r 50))]⟩,
    ⟨none, .x (some 52) (.appB (.r 48) 2 16 (.r 51))⟩,
    vo 6 52]
def f39_46 : AC := .ops [0, 1, 6, 7, 30, 31, 32] [] f39_46l
theorem f39_46e : aC P id m f39_46 sf st Q = runI P id m f39_46l (opsK [0, 1, 6, 7, 30, 31, 32] [] Q) sf st := rfl
def f39_44 : AC := .seq f39_45 f39_46
theorem f39_44e : aC P id m f39_44 sf st Q = aC P id m f39_45 sf st (seqQ (aC P id m f39_46) Q) := rfl
def f39_43 : AC := .cond (.r 44) f39_44 .skip
theorem f39_43e : aC P id m f39_43 sf st Q = condI (.r 44) (sf.ev id (.r 44)) (aC P id m f39_44) (aC P id m .skip) sf st Q := rfl
def f39_41 : AC := .seq f39_42 f39_43
theorem f39_41e : aC P id m f39_41 sf st Q = aC P id m f39_42 sf st (seqQ (aC P id m f39_43) Q) := rfl
def f39_39 : AC := .seq f39_40 f39_41
theorem f39_39e : aC P id m f39_39 sf st Q = aC P id m f39_40 sf st (seqQ (aC P id m f39_41) Q) := rfl
def f39_38 : AC := .block 3 f39_39
theorem f39_38e : aC P id m f39_38 sf st Q = aC P id m f39_39 sf st (blockQ 3 Q) := rfl
def f39_47l : List GI := [vb 53 .add 32 1,
    vv 32 53]
def f39_47 : AC := .ops [0, 1, 6, 7, 30, 31, 32] [] f39_47l
theorem f39_47e : aC P id m f39_47 sf st Q = runI P id m f39_47l (opsK [0, 1, 6, 7, 30, 31, 32] [] Q) sf st := rfl
def f39_37 : AC := .seq f39_38 f39_47
theorem f39_37e : aC P id m f39_37 sf st Q = aC P id m f39_38 sf st (seqQ (aC P id m f39_47) Q) := rfl
def f39_35 : AC := .seq f39_36 f39_37
theorem f39_35e : aC P id m f39_35 sf st Q = aC P id m f39_36 sf st (seqQ (aC P id m f39_37) Q) := rfl
def f39_33 : AC := .seq f39_34 f39_35
theorem f39_33e : aC P id m f39_33 sf st Q = aC P id m f39_34 sf st (seqQ (aC P id m f39_35) Q) := rfl
def f39_32 : AC := .loop [0, 1, 6, 7, 30, 31, 32] [] f39_33
theorem f39_32w : aC P id m f39_32 sf st Q = loopI (aC P id m f39_33) [0, 1, 6, 7, 30, 31, 32] [] sf st Q := rfl
def f39_31 : AC := .block 2 f39_32
theorem f39_31e : aC P id m f39_31 sf st Q = aC P id m f39_32 sf st (blockQ 2 Q) := rfl
def f39_29 : AC := .seq f39_30 f39_31
theorem f39_29e : aC P id m f39_29 sf st Q = aC P id m f39_30 sf st (seqQ (aC P id m f39_31) Q) := rfl
def f39_48l : List GI := [vv 54 0,
    vv 55 6,
    ⟨none, .call (some 56) false (.f 64) [(.r 54), (.r 55)]⟩,
    vo 6 56]
def f39_48 : AC := .ops [0, 1, 6] [] f39_48l
theorem f39_48e : aC P id m f39_48 sf st Q = runI P id m f39_48l (opsK [0, 1, 6] [] Q) sf st := rfl
def f39_28 : AC := .seq f39_29 f39_48
theorem f39_28e : aC P id m f39_28 sf st Q = aC P id m f39_29 sf st (seqQ (aC P id m f39_48) Q) := rfl
def f39_27 : AC := .block 1 f39_28
theorem f39_27e : aC P id m f39_27 sf st Q = aC P id m f39_28 sf st (blockQ 1 Q) := rfl
def f39_49l : List GI := [vv 27 0,
    ⟨none, .call (some 28) false (.f 42) [(.r 27)]⟩,
    vo 7 28]
def f39_49 : AC := .ops [0, 1, 6, 7] [] f39_49l
theorem f39_49e : aC P id m f39_49 sf st Q = runI P id m f39_49l (opsK [0, 1, 6, 7] [] Q) sf st := rfl
def f39_26 : AC := .seq f39_27 f39_49
theorem f39_26e : aC P id m f39_26 sf st Q = aC P id m f39_27 sf st (seqQ (aC P id m f39_49) Q) := rfl
def f39_22 : AC := .seq f39_23 f39_26
theorem f39_22e : aC P id m f39_22 sf st Q = aC P id m f39_23 sf st (seqQ (aC P id m f39_26) Q) := rfl
def f39_21 : AC := .loop [0, 1, 6, 7] [] f39_22
theorem f39_21w : aC P id m f39_21 sf st Q = loopI (aC P id m f39_22) [0, 1, 6, 7] [] sf st Q := rfl
def f39_20 : AC := .block 0 f39_21
theorem f39_20e : aC P id m f39_20 sf st Q = aC P id m f39_21 sf st (blockQ 0 Q) := rfl
def f39_18 : AC := .seq f39_19 f39_20
theorem f39_18e : aC P id m f39_18 sf st Q = aC P id m f39_19 sf st (seqQ (aC P id m f39_20) Q) := rfl
def f39_51l : List GI := [vv 57 0,
    vv 58 1,
    vn 59 57,
    vd 60 59 2,
    ⟨none, .store 1 (.r 60) (.r 58)⟩]
def f39_51 : AC := .ops [6] [] f39_51l
theorem f39_51e : aC P id m f39_51 sf st Q = runI P id m f39_51l (opsK [6] [] Q) sf st := rfl
def f39_53l : List GI := [vv 61 6,
    vo 4 61,
    ⟨none, .mv (some 5) (.c (.lit (.int .i64 0)))⟩]
def f39_53 : AC := .ops [4, 5] [] f39_53l
theorem f39_53e : aC P id m f39_53 sf st Q = runI P id m f39_53l (opsK [4, 5] [] Q) sf st := rfl
def f39_52 : AC := .seq f39_53 .ret
theorem f39_52e : aC P id m f39_52 sf st Q = aC P id m f39_53 sf st (seqQ (aC P id m .ret) Q) := rfl
def f39_50 : AC := .seq f39_51 f39_52
theorem f39_50e : aC P id m f39_50 sf st Q = aC P id m f39_51 sf st (seqQ (aC P id m f39_52) Q) := rfl
def f39_17 : AC := .seq f39_18 f39_50
theorem f39_17e : aC P id m f39_17 sf st Q = aC P id m f39_18 sf st (seqQ (aC P id m f39_50) Q) := rfl
def f39_15 : AC := .seq f39_16 f39_17
theorem f39_15e : aC P id m f39_15 sf st Q = aC P id m f39_16 sf st (seqQ (aC P id m f39_17) Q) := rfl
def f39_9 : AC := .seq f39_10 f39_15
theorem f39_9e : aC P id m f39_9 sf st Q = aC P id m f39_10 sf st (seqQ (aC P id m f39_15) Q) := rfl
def f39_3 : AC := .seq f39_4 f39_9
theorem f39_3e : aC P id m f39_3 sf st Q = aC P id m f39_4 sf st (seqQ (aC P id m f39_9) Q) := rfl
def f39_1 : AC := .seq f39_2 f39_3
theorem f39_1e : aC P id m f39_1 sf st Q = aC P id m f39_2 sf st (seqQ (aC P id m f39_3) Q) := rfl
def c_f39 : AFun := ⟨62, [.tmp 4, .tmp 5], f39_1⟩
theorem k_f39 : compF Go.Proofs.Try.prog x_f39 39 = some c_f39 := by kernel_rfl
theorem e_f39 : enterB Go.Proofs.Try.prog 39 = true := by kernel_rfl

def n_f40 : Nat := 40
def x_f40 : Cx := ⟨some, id, 21, fun s => ([0, 1, 4, 5, 6, 7, 8, 9, 10, 11, 12, 13, 16, 20] : List Nat).contains s, fun s => ([] : List Nat).contains s, msOf [(2, [0, 1], []), (12, [0, 1, 14], []), (52, [4], []), (14, [4], [])]⟩
def f40_2l : List GI := [⟨none, .mv (some 4) (.c (.lit (.int .i64 0)))⟩]
def f40_2 : AC := .ops [0, 1] [] f40_2l
theorem f40_2e : aC P id m f40_2 sf st Q = runI P id m f40_2l (opsK [0, 1] [] Q) sf st := rfl
def f40_5l : List GI := [vv 5 0,
    ⟨none, .call (some 6) false (.f 59) [(.r 5)]⟩,
    vv 7 6,
    ⟨some (7, false), .mv (some 8) (.r 1)⟩,
    ⟨some (7, false), .bin (some 9) .num .lss (.r 8) (.c (.lit (.int .i64 0)))⟩,
    ⟨none, .pick (some 10) (.r 7) (.c (.lit (.bool true))) (.r 9)⟩,
    vv 11 10,
    ⟨some (11, false), .mv (some 12) (.r 1)⟩,
    ⟨some (11, false), .bin (some 13) .num .geq (.r 12) (.c (.lit (.int .i64 64)))⟩,
    ⟨none, .pick (some 14) (.r 11) (.c (.lit (.bool true))) (.r 13)⟩]
def f40_5 : AC := .ops [0, 1, 14] [] f40_5l
theorem f40_5e : aC P id m f40_5 sf st Q = runI P id m f40_5l (opsK [0, 1, 14] [] Q) sf st := rfl
def f40_8l : List GI := [⟨none, .mv (some 4) (.c (.lit (.int .i64 0)))⟩]
def f40_8 : AC := .ops [4] [] f40_8l
theorem f40_8e : aC P id m f40_8 sf st Q = runI P id m f40_8l (opsK [4] [] Q) sf st := rfl
def f40_7 : AC := .seq f40_8 .ret
theorem f40_7e : aC P id m f40_7 sf st Q = aC P id m f40_8 sf st (seqQ (aC P id m .ret) Q) := rfl
def f40_6 : AC := .cond (.r 14) f40_7 .skip
theorem f40_6e : aC P id m f40_6 sf st Q = condI (.r 14) (sf.ev id (.r 14)) (aC P id m f40_7) (aC P id m .skip) sf st Q := rfl
def f40_4 : AC := .seq f40_5 f40_6
theorem f40_4e : aC P id m f40_4 sf st Q = aC P id m f40_5 sf st (seqQ (aC P id m f40_6) Q) := rfl
def f40_10l : List GI := [vv 15 0,
    vv 16 1,
    vn 17 15,
    vd 18 17 3,
    ⟨none, .ixA (some 19) (.r 18) (.r 16) 64 1⟩,
    vl 20 19,
    vo 4 20]
def f40_10 : AC := .ops [4] [] f40_10l
theorem f40_10e : aC P id m f40_10 sf st Q = runI P id m f40_10l (opsK [4] [] Q) sf st := rfl
def f40_9 : AC := .seq f40_10 .ret
theorem f40_9e : aC P id m f40_9 sf st Q = aC P id m f40_10 sf st (seqQ (aC P id m .ret) Q) := rfl
def f40_3 : AC := .seq f40_4 f40_9
theorem f40_3e : aC P id m f40_3 sf st Q = aC P id m f40_4 sf st (seqQ (aC P id m f40_9) Q) := rfl
def f40_1 : AC := .seq f40_2 f40_3
theorem f40_1e : aC P id m f40_1 sf st Q = aC P id m f40_2 sf st (seqQ (aC P id m f40_3) Q) := rfl
def c_f40 : AFun := ⟨21, [.tmp 4], f40_1⟩
theorem k_f40 : compF Go.Proofs.Try.prog x_f40 40 = some c_f40 := by kernel_rfl
theorem e_f40 : enterB Go.Proofs.Try.prog 40 = true := by kernel_rfl

def n_f41 : Nat := 41
def x_f41 : Cx := ⟨some, id, 9, fun s => ([0, 2, 3, 8] : List Nat).contains s, fun s => ([] : List Nat).contains s, msOf [(2, [0], []), (12, [0, 4], []), (52, [2], []), (14, [2], [])]⟩
def f41_2l : List GI := [⟨none, .mv (some 2) (.c (.lit (.int .i64 0)))⟩]
def f41_2 : AC := .ops [0] [] f41_2l
theorem f41_2e : aC P id m f41_2 sf st Q = runI P id m f41_2l (opsK [0] [] Q) sf st := rfl
def f41_5l : List GI := [vv 3 0,
    ⟨none, .call (some 4) false (.f 59) [(.r 3)]⟩]
def f41_5 : AC := .ops [0, 4] [] f41_5l
theorem f41_5e : aC P id m f41_5 sf st Q = runI P id m f41_5l (opsK [0, 4] [] Q) sf st := rfl
def f41_8l : List GI := [⟨none, .mv (some 2) (.c (.lit (.int .i64 0)))⟩]
def f41_8 : AC := .ops [2] [] f41_8l
theorem f41_8e : aC P id m f41_8 sf st Q = runI P id m f41_8l (opsK [2] [] Q) sf st := rfl
def f41_7 : AC := .seq f41_8 .ret
theorem f41_7e : aC P id m f41_7 sf st Q = aC P id m f41_8 sf st (seqQ (aC P id m .ret) Q) := rfl
def f41_6 : AC := .cond (.r 4) f41_7 .skip
theorem f41_6e : aC P id m f41_6 sf st Q = condI (.r 4) (sf.ev id (.r 4)) (aC P id m f41_7) (aC P id m .skip) sf st Q := rfl
def f41_4 : AC := .seq f41_5 f41_6
theorem f41_4e : aC P id m f41_4 sf st Q = aC P id m f41_5 sf st (seqQ (aC P id m f41_6) Q) := rfl
def f41_10l : List GI := [vv 5 0,
    vn 6 5,
    vd 7 6 1,
    vl 8 7,
    vo 2 8]
def f41_10 : AC := .ops [2] [] f41_10l
theorem f41_10e : aC P id m f41_10 sf st Q = runI P id m f41_10l (opsK [2] [] Q) sf st := rfl
def f41_9 : AC := .seq f41_10 .ret
theorem f41_9e : aC P id m f41_9 sf st Q = aC P id m f41_10 sf st (seqQ (aC P id m .ret) Q) := rfl
def f41_3 : AC := .seq f41_4 f41_9
theorem f41_3e : aC P id m f41_3 sf st Q = aC P id m f41_4 sf st (seqQ (aC P id m f41_9) Q) := rfl
def f41_1 : AC := .seq f41_2 f41_3
theorem f41_1e : aC P id m f41_1 sf st Q = aC P id m f41_2 sf st (seqQ (aC P id m f41_3) Q) := rfl
def c_f41 : AFun := ⟨9, [.tmp 2], f41_1⟩
theorem k_f41 : compF Go.Proofs.Try.prog x_f41 41 = some c_f41 := by kernel_rfl
theorem e_f41 : enterB Go.Proofs.Try.prog 41 = true := by kernel_rfl

def n_f42 : Nat := 42
def x_f42 : Cx := ⟨some, id, 23, fun s => ([0, 2, 3, 6, 11, 12, 13, 15, 16, 17, 19, 20, 21, 22] : List Nat).contains s, fun s => ([] : List Nat).contains s, msOf [(2, [0], []), (12, [0, 7], []), (52, [2], []), (14, [0, 3], []), (60, [3, 12], []), (122, [3, 12], []), (488, [3, 12, 14], []), (1957, [3], []), (3916, [3, 5, 12], [5]), (3917, [3, 12], []), (62, [2], [])]⟩
def f42_2l : List GI := [⟨none, .mv (some 2) (.c (.lit (.int .u64 0)))⟩]
def f42_2 : AC := .ops [0] [] f42_2l
theorem f42_2e : aC P id m f42_2 sf st Q = runI P id m f42_2l (opsK [0] [] Q) sf st := rfl
def f42_5l : List GI := [vv 6 0,
    ⟨none, .call (some 7) false (.f 59) [(.r 6)]⟩]
def f42_5 : AC := .ops [0, 7] [] f42_5l
theorem f42_5e : aC P id m f42_5 sf st Q = runI P id m f42_5l (opsK [0, 7] [] Q) sf st := rfl
def f42_8l : List GI := [⟨none, .mv (some 2) (.c (.lit (.int .u64 18446744073709551615)))⟩]
def f42_8 : AC := .ops [2] [] f42_8l
theorem f42_8e : aC P id m f42_8 sf st Q = runI P id m f42_8l (opsK [2] [] Q) sf st := rfl
def f42_7 : AC := .seq f42_8 .ret
theorem f42_7e : aC P id m f42_7 sf st Q = aC P id m f42_8 sf st (seqQ (aC P id m .ret) Q) := rfl
def f42_6 : AC := .cond (.r 7) f42_7 .skip
theorem f42_6e : aC P id m f42_6 sf st Q = condI (.r 7) (sf.ev id (.r 7)) (aC P id m f42_7) (aC P id m .skip) sf st Q := rfl
def f42_4 : AC := .seq f42_5 f42_6
theorem f42_4e : aC P id m f42_4 sf st Q = aC P id m f42_5 sf st (seqQ (aC P id m f42_6) Q) := rfl
def f42_10l : List GI := [⟨none, .mv (some 3) (.c (.lit (.int .u64 18446744073709551615)))⟩]
def f42_10 : AC := .ops [0, 3] [] f42_10l
theorem f42_10e : aC P id m f42_10 sf st Q = runI P id m f42_10l (opsK [0, 3] [] Q) sf st := rfl
def f42_13l : List GI := [vv 8 0,
    vn 9 8,
    vd 10 9 68,
    vl 11 10,
    ⟨none, .x (some 12) (.rng (.r 11))⟩]
def f42_13 : AC := .ops [3, 12] [] f42_13l
theorem f42_13e : aC P id m f42_13 sf st Q = runI P id m f42_13l (opsK [3, 12] [] Q) sf st := rfl
def f42_17l : List GI := [⟨none, .x (some 13) (.nxt 12)⟩,
    ve 14 13 0]
def f42_17 : AC := .ops [3, 12, 14] [] f42_17l
theorem f42_17e : aC P id m f42_17 sf st Q = runI P id m f42_17l (opsK [3, 12, 14] [] Q) sf st := rfl
def f42_19 : AC := .cond (.r 14) .skip (.exit [3] [] 0)
theorem f42_19e : aC P id m f42_19 sf st Q = condI (.r 14) (sf.ev id (.r 14)) (aC P id m .skip) (aC P id m (.exit [3] [] 0)) sf st Q := rfl
def f42_22l : List GI := [⟨none, .x (some 15) (.ent 12)⟩,
    ve 16 15 1,
    ⟨none, .newL 5 [(.lit (.int .i64 0)), (.lit (.int .u64 0)), (.lit (.int .u64 0))]⟩,
    ⟨none, .store 3 (.r 5) (.r 16)⟩]
def f42_22 : AC := .ops [3, 5, 12] [5] f42_22l
theorem f42_22e : aC P id m f42_22 sf st Q = runI P id m f42_22l (opsK [3, 5, 12] [5] Q) sf st := rfl
def f42_23l : List GI := [vv 17 3,
    vd 18 5 1,
    vl 19 18,
    ⟨none, .bsl (some 20) 1 2 (.lit (.int .u64 0)) [(0, (.r 17)), (1, (.r 19))]⟩,
    ⟨none, .call (some 21) false (.f 66) [(.r 20)]⟩,
    vo 3 21]
def f42_23 : AC := .ops [3, 12] [] f42_23l
theorem f42_23e : aC P id m f42_23 sf st Q = runI P id m f42_23l (opsK [3, 12] [] Q) sf st := rfl
def f42_21 : AC := .seq f42_22 f42_23
theorem f42_21e : aC P id m f42_21 sf st Q = aC P id m f42_22 sf st (seqQ (aC P id m f42_23) Q) := rfl
def f42_20 : AC := .block 1 f42_21
theorem f42_20e : aC P id m f42_20 sf st Q = aC P id m f42_21 sf st (blockQ 1 Q) := rfl
def f42_18 : AC := .seq f42_19 f42_20
theorem f42_18e : aC P id m f42_18 sf st Q = aC P id m f42_19 sf st (seqQ (aC P id m f42_20) Q) := rfl
def f42_16 : AC := .seq f42_17 f42_18
theorem f42_16e : aC P id m f42_16 sf st Q = aC P id m f42_17 sf st (seqQ (aC P id m f42_18) Q) := rfl
def f42_15 : AC := .loop [3, 12] [] f42_16
theorem f42_15w : aC P id m f42_15 sf st Q = loopI (aC P id m f42_16) [3, 12] [] sf st Q := rfl
def f42_14 : AC := .block 0 f42_15
theorem f42_14e : aC P id m f42_14 sf st Q = aC P id m f42_15 sf st (blockQ 0 Q) := rfl
def f42_12 : AC := .seq f42_13 f42_14
theorem f42_12e : aC P id m f42_12 sf st Q = aC P id m f42_13 sf st (seqQ (aC P id m f42_14) Q) := rfl
def f42_25l : List GI := [vv 22 3,
    vo 2 22]
def f42_25 : AC := .ops [2] [] f42_25l
theorem f42_25e : aC P id m f42_25 sf st Q = runI P id m f42_25l (opsK [2] [] Q) sf st := rfl
def f42_24 : AC := .seq f42_25 .ret
theorem f42_24e : aC P id m f42_24 sf st Q = aC P id m f42_25 sf st (seqQ (aC P id m .ret) Q) := rfl
def f42_11 : AC := .seq f42_12 f42_24
theorem f42_11e : aC P id m f42_11 sf st Q = aC P id m f42_12 sf st (seqQ (aC P id m f42_24) Q) := rfl
def f42_9 : AC := .seq f42_10 f42_11
theorem f42_9e : aC P id m f42_9 sf st Q = aC P id m f42_10 sf st (seqQ (aC P id m f42_11) Q) := rfl
def f42_3 : AC := .seq f42_4 f42_9
theorem f42_3e : aC P id m f42_3 sf st Q = aC P id m f42_4 sf st (seqQ (aC P id m f42_9) Q) := rfl
def f42_1 : AC := .seq f42_2 f42_3
theorem f42_1e : aC P id m f42_1 sf st Q = aC P id m f42_2 sf st (seqQ (aC P id m f42_3) Q) := rfl
def c_f42 : AFun := ⟨23, [.tmp 2], f42_1⟩
theorem k_f42 : compF Go.Proofs.Try.prog x_f42 42 = some c_f42 := by kernel_rfl
theorem e_f42 : enterB Go.Proofs.Try.prog 42 = true := by kernel_rfl

def n_f43 : Nat := 43
def x_f43 : Cx := ⟨some, id, 9, fun s => ([0, 2, 3, 8] : List Nat).contains s, fun s => ([] : List Nat).contains s, msOf [(2, [0], []), (12, [0, 4], []), (52, [2], []), (14, [2], [])]⟩
def f43_2l : List GI := [⟨none, .mv (some 2) (.c (.lit (.int .u64 0)))⟩]
def f43_2 : AC := .ops [0] [] f43_2l
theorem f43_2e : aC P id m f43_2 sf st Q = runI P id m f43_2l (opsK [0] [] Q) sf st := rfl
def f43_5l : List GI := [vv 3 0,
    ⟨none, .call (some 4) false (.f 59) [(.r 3)]⟩]
def f43_5 : AC := .ops [0, 4] [] f43_5l
theorem f43_5e : aC P id m f43_5 sf st Q = runI P id m f43_5l (opsK [0, 4] [] Q) sf st := rfl
def f43_8l : List GI := [⟨none, .mv (some 2) (.c (.lit (.int .u64 0)))⟩]
def f43_8 : AC := .ops [2] [] f43_8l
theorem f43_8e : aC P id m f43_8 sf st Q = runI P id m f43_8l (opsK [2] [] Q) sf st := rfl
def f43_7 : AC := .seq f43_8 .ret
theorem f43_7e : aC P id m f43_7 sf st Q = aC P id m f43_8 sf st (seqQ (aC P id m .ret) Q) := rfl
def f43_6 : AC := .cond (.r 4) f43_7 .skip
theorem f43_6e : aC P id m f43_6 sf st Q = condI (.r 4) (sf.ev id (.r 4)) (aC P id m f43_7) (aC P id m .skip) sf st Q := rfl
def f43_4 : AC := .seq f43_5 f43_6
theorem f43_4e : aC P id m f43_4 sf st Q = aC P id m f43_5 sf st (seqQ (aC P id m f43_6) Q) := rfl
def f43_10l : List GI := [vv 5 0,
    vn 6 5,
    vd 7 6 2,
    vl 8 7,
    vo 2 8]
def f43_10 : AC := .ops [2] [] f43_10l
theorem f43_10e : aC P id m f43_10 sf st Q = runI P id m f43_10l (opsK [2] [] Q) sf st := rfl
def f43_9 : AC := .seq f43_10 .ret
theorem f43_9e : aC P id m f43_9 sf st Q = aC P id m f43_10 sf st (seqQ (aC P id m .ret) Q) := rfl
def f43_3 : AC := .seq f43_4 f43_9
theorem f43_3e : aC P id m f43_3 sf st Q = aC P id m f43_4 sf st (seqQ (aC P id m f43_9) Q) := rfl
def f43_1 : AC := .seq f43_2 f43_3
theorem f43_1e : aC P id m f43_1 sf st Q = aC P id m f43_2 sf st (seqQ (aC P id m f43_3) Q) := rfl
def c_f43 : AFun := ⟨9, [.tmp 2], f43_1⟩
theorem k_f43 : compF Go.Proofs.Try.prog x_f43 43 = some c_f43 := by kernel_rfl
theorem e_f43 : enterB Go.Proofs.Try.prog 43 = true := by kernel_rfl

def n_f45 : Nat := 45
def x_f45 : Cx := ⟨some, id, 4, fun s => ([0, 1, 2, 3] : List Nat).contains s, fun s => ([] : List Nat).contains s, msOf [(2, [], []), (6, [0], [])]⟩
def f45_2l : List GI := [⟨none, .mv (some 0) (.c (.lit (.pointer none)))⟩]
def f45_2 : AC := .ops [] [] f45_2l
theorem f45_2e : aC P id m f45_2 sf st Q = runI P id m f45_2l (opsK [] [] Q) sf st := rfl
def f45_4l : List GI := [⟨none, .mkmap 1⟩,
    ⟨none, .bst (some 2) [(0, 3), (3, 1)] (.agg [(.lit (.int .u64 0)), (.lit (.int .u64 0)), (.lit (.int .u64 0)), (.lit (.map none))]) [(1, (.r 1))]⟩,
    ⟨none, .boxB 3 4 (.r 2)⟩,
    vo 0 3]
def f45_4 : AC := .ops [0] [] f45_4l
theorem f45_4e : aC P id m f45_4 sf st Q = runI P id m f45_4l (opsK [0] [] Q) sf st := rfl
def f45_3 : AC := .seq f45_4 .ret
theorem f45_3e : aC P id m f45_3 sf st Q = aC P id m f45_4 sf st (seqQ (aC P id m .ret) Q) := rfl
def f45_1 : AC := .seq f45_2 f45_3
theorem f45_1e : aC P id m f45_1 sf st Q = aC P id m f45_2 sf st (seqQ (aC P id m f45_3) Q) := rfl
def c_f45 : AFun := ⟨4, [.tmp 0], f45_1⟩
theorem k_f45 : compF Go.Proofs.Try.prog x_f45 45 = some c_f45 := by kernel_rfl
theorem e_f45 : enterB Go.Proofs.Try.prog 45 = true := by kernel_rfl

def n_f47 : Nat := 47
def x_f47 : Cx := ⟨some, id, 10, fun s => ([0, 2, 3, 8, 9] : List Nat).contains s, fun s => ([] : List Nat).contains s, msOf [(2, [0], []), (12, [0, 4], []), (52, [2], []), (14, [2], [])]⟩
def f47_2l : List GI := [⟨none, .mv (some 2) (.c (.lit (.int .i64 0)))⟩]
def f47_2 : AC := .ops [0] [] f47_2l
theorem f47_2e : aC P id m f47_2 sf st Q = runI P id m f47_2l (opsK [0] [] Q) sf st := rfl
def f47_5l : List GI := [vv 3 0,
    ⟨none, .call (some 4) false (.f 68) [(.r 3)]⟩]
def f47_5 : AC := .ops [0, 4] [] f47_5l
theorem f47_5e : aC P id m f47_5 sf st Q = runI P id m f47_5l (opsK [0, 4] [] Q) sf st := rfl
def f47_8l : List GI := [⟨none, .mv (some 2) (.c (.lit (.int .i64 0)))⟩]
def f47_8 : AC := .ops [2] [] f47_8l
theorem f47_8e : aC P id m f47_8 sf st Q = runI P id m f47_8l (opsK [2] [] Q) sf st := rfl
def f47_7 : AC := .seq f47_8 .ret
theorem f47_7e : aC P id m f47_7 sf st Q = aC P id m f47_8 sf st (seqQ (aC P id m .ret) Q) := rfl
def f47_6 : AC := .cond (.r 4) f47_7 .skip
theorem f47_6e : aC P id m f47_6 sf st Q = condI (.r 4) (sf.ev id (.r 4)) (aC P id m f47_7) (aC P id m .skip) sf st Q := rfl
def f47_4 : AC := .seq f47_5 f47_6
theorem f47_4e : aC P id m f47_4 sf st Q = aC P id m f47_5 sf st (seqQ (aC P id m f47_6) Q) := rfl
def f47_10l : List GI := [vv 5 0,
    vn 6 5,
    vd 7 6 3,
    vl 8 7,
    ⟨none, .len (some 9) .mp (.r 8)⟩,
    vo 2 9]
def f47_10 : AC := .ops [2] [] f47_10l
theorem f47_10e : aC P id m f47_10 sf st Q = runI P id m f47_10l (opsK [2] [] Q) sf st := rfl
def f47_9 : AC := .seq f47_10 .ret
theorem f47_9e : aC P id m f47_9 sf st Q = aC P id m f47_10 sf st (seqQ (aC P id m .ret) Q) := rfl
def f47_3 : AC := .seq f47_4 f47_9
theorem f47_3e : aC P id m f47_3 sf st Q = aC P id m f47_4 sf st (seqQ (aC P id m f47_9) Q) := rfl
def f47_1 : AC := .seq f47_2 f47_3
theorem f47_1e : aC P id m f47_1 sf st Q = aC P id m f47_2 sf st (seqQ (aC P id m f47_3) Q) := rfl
def c_f47 : AFun := ⟨10, [.tmp 2], f47_1⟩
theorem k_f47 : compF Go.Proofs.Try.prog x_f47 47 = some c_f47 := by kernel_rfl
theorem e_f47 : enterB Go.Proofs.Try.prog 47 = true := by kernel_rfl

def n_f48 : Nat := 48
def x_f48 : Cx := ⟨some, id, 97, fun s => ([0, 1, 4, 5, 8, 9, 14, 15, 16, 21, 22, 29, 34, 35, 40, 41, 46, 53, 60, 65, 66, 71, 76, 81, 82, 88, 96] : List Nat).contains s, fun s => ([] : List Nat).contains s, msOf [(2, [0, 1], []), (24, [0, 1, 7], []), (100, [4, 5], []), (102, [0, 1, 10], []), (412, [4, 5], []), (14, [0, 1], []), (30, [0], []), (124, [0, 47], []), (250, [0], []), (502, [0, 6], [6]), (1006, [0, 6], [6]), (1007, [0], []), (126, [0], []), (254, [4, 5], [])]⟩
def f48_2l : List GI := [⟨none, .mv (some 4) (.c (.lit (.int .u64 0)))⟩,
    ⟨none, .mv (some 5) (.c (.lit (.int .i64 0)))⟩]
def f48_2 : AC := .ops [0, 1] [] f48_2l
theorem f48_2e : aC P id m f48_2 sf st Q = runI P id m f48_2l (opsK [0, 1] [] Q) sf st := rfl
def f48_6l : List GI := [vv 8 0,
    ⟨none, .call (some 9) false (.f 68) [(.r 8)]⟩,
    vo 7 9]
def f48_6 : AC := .ops [0, 1, 7] [] f48_6l
theorem f48_6e : aC P id m f48_6 sf st Q = runI P id m f48_6l (opsK [0, 1, 7] [] Q) sf st := rfl
def f48_9l : List GI := [⟨none, .mv (some 4) (.c (.lit (.int .u64 0)))⟩,
    ⟨none, .mv (some 5) (.c (.lit (.int .i64 1)))⟩]
def f48_9 : AC := .ops [4, 5] [] f48_9l
theorem f48_9e : aC P id m f48_9 sf st Q = runI P id m f48_9l (opsK [4, 5] [] Q) sf st := rfl
def f48_8 : AC := .seq f48_9 .ret
theorem f48_8e : aC P id m f48_8 sf st Q = aC P id m f48_9 sf st (seqQ (aC P id m .ret) Q) := rfl
def f48_11l : List GI := [vv 11 0,
    vn 12 11,
    vd 13 12 3,
    vl 14 13,
    ⟨none, .len (some 15) .mp (.r 14)⟩,
    vb 16 .geq 15 4096,
    vo 10 16]
def f48_11 : AC := .ops [0, 1, 10] [] f48_11l
theorem f48_11e : aC P id m f48_11 sf st Q = runI P id m f48_11l (opsK [0, 1, 10] [] Q) sf st := rfl
def f48_14l : List GI := [⟨none, .mv (some 4) (.c (.lit (.int .u64 0)))⟩,
    ⟨none, .mv (some 5) (.c (.lit (.int .i64 7)))⟩]
def f48_14 : AC := .ops [4, 5] [] f48_14l
theorem f48_14e : aC P id m f48_14 sf st Q = runI P id m f48_14l (opsK [4, 5] [] Q) sf st := rfl
def f48_13 : AC := .seq f48_14 .ret
theorem f48_13e : aC P id m f48_13 sf st Q = aC P id m f48_14 sf st (seqQ (aC P id m .ret) Q) := rfl
def f48_12 : AC := .cond (.r 10) f48_13 .skip
theorem f48_12e : aC P id m f48_12 sf st Q = condI (.r 10) (sf.ev id (.r 10)) (aC P id m f48_13) (aC P id m .skip) sf st Q := rfl
def f48_10 : AC := .seq f48_11 f48_12
theorem f48_10e : aC P id m f48_10 sf st Q = aC P id m f48_11 sf st (seqQ (aC P id m f48_12) Q) := rfl
def f48_7 : AC := .cond (.r 7) f48_8 f48_10
theorem f48_7e : aC P id m f48_7 sf st Q = condI (.r 7) (sf.ev id (.r 7)) (aC P id m f48_8) (aC P id m f48_10) sf st Q := rfl
def f48_5 : AC := .seq f48_6 f48_7
theorem f48_5e : aC P id m f48_5 sf st Q = aC P id m f48_6 sf st (seqQ (aC P id m f48_7) Q) := rfl
def f48_4 : AC := .block 0 f48_5
theorem f48_4e : aC P id m f48_4 sf st Q = aC P id m f48_5 sf st (blockQ 0 Q) := rfl
def f48_16l : List GI := [vv 17 0,
    vn 18 17,
    vd 19 18 0,
    vd 20 19 2,
    vl 21 20,
    ⟨none, .bin (some 22) .num .add (.r 21) (.c (.lit (.int .u64 1)))⟩,
    vn 23 17,
    vd 24 23 0,
    vd 25 24 2,
    ⟨none, .store 1 (.r 25) (.r 22)⟩]
def f48_16 : AC := .ops [0, 1] [] f48_16l
theorem f48_16e : aC P id m f48_16 sf st Q = runI P id m f48_16l (opsK [0, 1] [] Q) sf st := rfl
def f48_18h : List GI := [vv 26 0,
    vn 27 26,
    vd 28 27 3,
    vl 29 28,
    vv 30 0,
    vn 31 30,
    vd 32 31 0,
    vd 33 32 2,
    vl 34 33,
    vv 35 1,
    vv 36 0,
    vn 37 36,
    vd 38 37 0,
    vd 39 38 1,
    vl 40 39,
    ⟨none, .bst (some 41) [(0, 1), (1, 1), (2, 1)] (.agg [(.lit (.int .i64 0)), (.lit (.int .u64 0)), (.lit (.int .u64 0))]) [(0, (.r 35)), (1, (.r 40))]⟩]
def f48_18l : List GI := [⟨none, .upd (.int .u64) (.r 29) (.r 34) (.r 41)⟩]
def f48_18 : AC := .draw [0] [] [] f48_18h f48_18l
theorem f48_18e : aC P id m f48_18 sf st Q = headI P id sf.locs st f48_18h (tailK P id m [] [0] [] f48_18l Q st) [] ⟨sf.regs, dropL [] sf.locs⟩ := rfl
def f48_21l : List GI := [vv 42 0,
    vn 43 42,
    vd 44 43 0,
    vd 45 44 1,
    vl 46 45,
    ⟨none, .bin (some 47) .num .eql (.r 46) (.c (.lit (.int .u64 0)))⟩]
def f48_21 : AC := .ops [0, 47] [] f48_21l
theorem f48_21e : aC P id m f48_21 sf st Q = runI P id m f48_21l (opsK [0, 47] [] Q) sf st := rfl
def f48_23l : List GI := [vv 48 0,
    vv 49 0,
    vn 50 49,
    vd 51 50 0,
    vd 52 51 2,
    vl 53 52,
    vn 54 48,
    vd 55 54 0,
    vd 56 55 0,
    ⟨none, .store 1 (.r 56) (.r 53)⟩]
def f48_23 : AC := .ops [0] [] f48_23l
theorem f48_23e : aC P id m f48_23 sf st Q = runI P id m f48_23l (opsK [0] [] Q) sf st := rfl
def f48_25h : List GI := [vv 57 0,
    vn 58 57,
    vd 59 58 3,
    vl 60 59,
    vv 61 0,
    vn 62 61,
    vd 63 62 0,
    vd 64 63 1,
    vl 65 64,
    ⟨none, .lookup (some 66) (.int .u64) (.agg [(.lit (.int .i64 0)), (.lit (.int .u64 0)), (.lit (.int .u64 0))]) false (.r 60) (.r 65)⟩,
    ⟨none, .newL 6 [(.lit (.int .i64 0)), (.lit (.int .u64 0)), (.lit (.int .u64 0))]⟩]
def f48_25l : List GI := [⟨none, .store 3 (.r 6) (.r 66)⟩]
def f48_25 : AC := .draw [0, 6] [6] [6] f48_25h f48_25l
theorem f48_25e : aC P id m f48_25 sf st Q = headI P id sf.locs st f48_25h (tailK P id m [6] [0, 6] [6] f48_25l Q st) [] ⟨sf.regs, dropL [6] sf.locs⟩ := rfl
def f48_27l : List GI := [vv 67 0,
    vn 68 67,
    vd 69 68 0,
    vd 70 69 2,
    vl 71 70,
    vd 72 6 2,
    ⟨none, .store 1 (.r 72) (.r 71)⟩]
def f48_27 : AC := .ops [0, 6] [6] f48_27l
theorem f48_27e : aC P id m f48_27 sf st Q = runI P id m f48_27l (opsK [0, 6] [6] Q) sf st := rfl
def f48_28h : List GI := [vv 73 0,
    vn 74 73,
    vd 75 74 3,
    vl 76 75,
    vv 77 0,
    vn 78 77,
    vd 79 78 0,
    vd 80 79 1,
    vl 81 80,
    ⟨none, .load (some 82) (.r 6) (some 3)⟩]
def f48_28l : List GI := [⟨none, .upd (.int .u64) (.r 76) (.r 81) (.r 82)⟩]
def f48_28 : AC := .draw [0] [] [] f48_28h f48_28l
theorem f48_28e : aC P id m f48_28 sf st Q = headI P id sf.locs st f48_28h (tailK P id m [] [0] [] f48_28l Q st) [] ⟨sf.regs, dropL [] sf.locs⟩ := rfl
def f48_26 : AC := .seq f48_27 f48_28
theorem f48_26e : aC P id m f48_26 sf st Q = aC P id m f48_27 sf st (seqQ (aC P id m f48_28) Q) := rfl
def f48_24 : AC := .seq f48_25 f48_26
theorem f48_24e : aC P id m f48_24 sf st Q = aC P id m f48_25 sf st (seqQ (aC P id m f48_26) Q) := rfl
def f48_22 : AC := .cond (.r 47) f48_23 f48_24
theorem f48_22e : aC P id m f48_22 sf st Q = condI (.r 47) (sf.ev id (.r 47)) (aC P id m f48_23) (aC P id m f48_24) sf st Q := rfl
def f48_20 : AC := .seq f48_21 f48_22
theorem f48_20e : aC P id m f48_20 sf st Q = aC P id m f48_21 sf st (seqQ (aC P id m f48_22) Q) := rfl
def f48_30l : List GI := [vv 83 0,
    vv 84 0,
    vn 85 84,
    vd 86 85 0,
    vd 87 86 2,
    vl 88 87,
    vn 89 83,
    vd 90 89 0,
    vd 91 90 1,
    ⟨none, .store 1 (.r 91) (.r 88)⟩]
def f48_30 : AC := .ops [0] [] f48_30l
theorem f48_30e : aC P id m f48_30 sf st Q = runI P id m f48_30l (opsK [0] [] Q) sf st := rfl
def f48_32l : List GI := [vv 92 0,
    vn 93 92,
    vd 94 93 0,
    vd 95 94 2,
    vl 96 95,
    vo 4 96,
    ⟨none, .mv (some 5) (.c (.lit (.int .i64 0)))⟩]
def f48_32 : AC := .ops [4, 5] [] f48_32l
theorem f48_32e : aC P id m f48_32 sf st Q = runI P id m f48_32l (opsK [4, 5] [] Q) sf st := rfl
def f48_31 : AC := .seq f48_32 .ret
theorem f48_31e : aC P id m f48_31 sf st Q = aC P id m f48_32 sf st (seqQ (aC P id m .ret) Q) := rfl
def f48_29 : AC := .seq f48_30 f48_31
theorem f48_29e : aC P id m f48_29 sf st Q = aC P id m f48_30 sf st (seqQ (aC P id m f48_31) Q) := rfl
def f48_19 : AC := .seq f48_20 f48_29
theorem f48_19e : aC P id m f48_19 sf st Q = aC P id m f48_20 sf st (seqQ (aC P id m f48_29) Q) := rfl
def f48_17 : AC := .seq f48_18 f48_19
theorem f48_17e : aC P id m f48_17 sf st Q = aC P id m f48_18 sf st (seqQ (aC P id m f48_19) Q) := rfl
def f48_15 : AC := .seq f48_16 f48_17
theorem f48_15e : aC P id m f48_15 sf st Q = aC P id m f48_16 sf st (seqQ (aC P id m f48_17) Q) := rfl
def f48_3 : AC := .seq f48_4 f48_15
theorem f48_3e : aC P id m f48_3 sf st Q = aC P id m f48_4 sf st (seqQ (aC P id m f48_15) Q) := rfl
def f48_1 : AC := .seq f48_2 f48_3
theorem f48_1e : aC P id m f48_1 sf st Q = aC P id m f48_2 sf st (seqQ (aC P id m f48_3) Q) := rfl
def c_f48 : AFun := ⟨97, [.tmp 4, .tmp 5], f48_1⟩
theorem k_f48 : compF Go.Proofs.Try.prog x_f48 48 = some c_f48 := by kernel_rfl
theorem e_f48 : enterB Go.Proofs.Try.prog 48 = true := by kernel_rfl

def n_f49 : Nat := 49
def x_f49 : Cx := ⟨some, id, 7, fun s => ([0, 2, 3, 4, 5, 6] : List Nat).contains s, fun s => ([] : List Nat).contains s, msOf [(2, [0], []), (6, [3], []), (14, [2], [])]⟩
def f49_2l : List GI := [⟨none, .mv (some 2) (.c (.lit .nilFunc))⟩]
def f49_2 : AC := .ops [0] [] f49_2l
theorem f49_2e : aC P id m f49_2 sf st Q = runI P id m f49_2l (opsK [0] [] Q) sf st := rfl
def f49_4l : List GI := [vv 4 0,
    ⟨none, .call (some 5) false (.f 67) [(.r 4)]⟩,
    ⟨none, .newB 3 [(.lit (.pointer none))]⟩,
    ⟨none, .store 1 (.r 3) (.r 5)⟩]
def f49_4 : AC := .ops [3] [] f49_4l
theorem f49_4e : aC P id m f49_4 sf st Q = runI P id m f49_4l (opsK [3] [] Q) sf st := rfl
def f49_6l : List GI := [⟨none, .mkfn (some 6) 69 [] [(.r 3)]⟩,
    vo 2 6]
def f49_6 : AC := .ops [2] [] f49_6l
theorem f49_6e : aC P id m f49_6 sf st Q = runI P id m f49_6l (opsK [2] [] Q) sf st := rfl
def f49_5 : AC := .seq f49_6 .ret
theorem f49_5e : aC P id m f49_5 sf st Q = aC P id m f49_6 sf st (seqQ (aC P id m .ret) Q) := rfl
def f49_3 : AC := .seq f49_4 f49_5
theorem f49_3e : aC P id m f49_3 sf st Q = aC P id m f49_4 sf st (seqQ (aC P id m f49_5) Q) := rfl
def f69 : AC := .seq f49_2 f49_3
theorem f49_1e : aC P id m f69 sf st Q = aC P id m f49_2 sf st (seqQ (aC P id m f49_3) Q) := rfl
def c_f49 : AFun := ⟨7, [.tmp 2], f69⟩
theorem k_f49 : compF Go.Proofs.Try.prog x_f49 49 = some c_f49 := by kernel_rfl
theorem e_f49 : enterB Go.Proofs.Try.prog 49 = true := by kernel_rfl

def n_f50 : Nat := 50
def x_f50 : Cx := ⟨some, id, 22, fun s => ([0, 2, 3, 4, 5, 6, 7, 8, 9, 10, 11, 12, 13, 14, 16, 17, 19, 20, 21] : List Nat).contains s, fun s => ([] : List Nat).contains s, msOf [(2, [0], []), (6, [0, 5, 6, 7], []), (28, [0, 5, 6, 7, 15], []), (58, [5, 6, 7], []), (30, [2, 3, 4], [])]⟩
def f50_2l : List GI := [⟨none, .mv (some 2) (.c (.lit (.int .i64 0)))⟩,
    ⟨none, .mv (some 3) (.c (.lit (.int .u64 0)))⟩,
    ⟨none, .mv (some 4) (.c (.lit (.int .i64 0)))⟩]
def f50_2 : AC := .ops [0] [] f50_2l
theorem f50_2e : aC P id m f50_2 sf st Q = runI P id m f50_2l (opsK [0] [] Q) sf st := rfl
def f50_4l : List GI := [vv 9 0,
    ⟨none, .call (some 10) false (.f 70) [(.r 9)]⟩,
    vv 8 10,
    ve 11 8 0,
    ve 12 8 1,
    ve 13 8 2,
    vo 5 11,
    vo 6 12,
    vo 7 13]
def f50_4 : AC := .ops [0, 5, 6, 7] [] f50_4l
theorem f50_4e : aC P id m f50_4 sf st Q = runI P id m f50_4l (opsK [0, 5, 6, 7] [] Q) sf st := rfl
def f50_7l : List GI := [vv 14 7,
    vb 15 .eql 14 0]
def f50_7 : AC := .ops [0, 5, 6, 7, 15] [] f50_7l
theorem f50_7e : aC P id m f50_7 sf st Q = runI P id m f50_7l (opsK [0, 5, 6, 7, 15] [] Q) sf st := rfl
def f50_9l : List GI := [vv 16 0,
    vv 17 6,
    ⟨none, .call (some 18) false (.f 51) [(.r 16), (.r 17)]⟩]
def f50_9 : AC := .ops [5, 6, 7] [] f50_9l
theorem f50_9e : aC P id m f50_9 sf st Q = runI P id m f50_9l (opsK [5, 6, 7] [] Q) sf st := rfl
def f50_8 : AC := .cond (.r 15) f50_9 .skip
theorem f50_8e : aC P id m f50_8 sf st Q = condI (.r 15) (sf.ev id (.r 15)) (aC P id m f50_9) (aC P id m .skip) sf st Q := rfl
def f50_6 : AC := .seq f50_7 f50_8
theorem f50_6e : aC P id m f50_6 sf st Q = aC P id m f50_7 sf st (seqQ (aC P id m f50_8) Q) := rfl
def f50_11l : List GI := [vv 19 5,
    vv 20 6,
    vv 21 7,
    vo 2 19,
    vo 3 20,
    vo 4 21]
def f50_11 : AC := .ops [2, 3, 4] [] f50_11l
theorem f50_11e : aC P id m f50_11 sf st Q = runI P id m f50_11l (opsK [2, 3, 4] [] Q) sf st := rfl
def f50_10 : AC := .seq f50_11 .ret
theorem f50_10e : aC P id m f50_10 sf st Q = aC P id m f50_11 sf st (seqQ (aC P id m .ret) Q) := rfl
def f50_5 : AC := .seq f50_6 f50_10
theorem f50_5e : aC P id m f50_5 sf st Q = aC P id m f50_6 sf st (seqQ (aC P id m f50_10) Q) := rfl
def f50_3 : AC := .seq f50_4 f50_5
theorem f50_3e : aC P id m f50_3 sf st Q = aC P id m f50_4 sf st (seqQ (aC P id m f50_5) Q) := rfl
def f50_1 : AC := .seq f50_2 f50_3
theorem f50_1e : aC P id m f50_1 sf st Q = aC P id m f50_2 sf st (seqQ (aC P id m f50_3) Q) := rfl
def c_f50 : AFun := ⟨22, [.tmp 2, .tmp 3, .tmp 4], f50_1⟩
theorem k_f50 : compF Go.Proofs.Try.prog x_f50 50 = some c_f50 := by kernel_rfl
theorem e_f50 : enterB Go.Proofs.Try.prog 50 = true := by kernel_rfl

def n_f51 : Nat := 51
def x_f51 : Cx := ⟨some, id, 82, fun s => ([0, 1, 4, 5, 7, 10, 12, 16, 17, 18, 19, 20, 21, 26, 27, 29, 33, 40, 42, 43, 45, 50, 52, 53, 55, 59, 66, 68, 69, 71, 76, 78, 79, 81] : List Nat).contains s, fun s => ([] : List Nat).contains s, msOf [(2, [0, 1], []), (12, [0, 1, 11], []), (52, [4, 5], []), (14, [0, 1, 6, 7], [6]), (60, [0, 1, 6, 22], [6]), (244, [4, 5], []), (62, [0, 6], [6]), (252, [0, 6, 30], [6]), (506, [0, 6], [6]), (1014, [0, 6, 8], [6, 8]), (2030, [0, 6, 8], [6, 8]), (2031, [0, 6], [6]), (508, [0, 6, 56], [6]), (1018, [6], [6]), (2038, [0, 6, 9], [6, 9]), (4078, [0, 6, 9], [6, 9]), (4079, [6], [6]), (510, [4, 5], [])]⟩
def f51_2l : List GI := [⟨none, .mv (some 4) (.c (.lit (.int .i64 0)))⟩,
    ⟨none, .mv (some 5) (.c (.lit (.int .i64 0)))⟩]
def f51_2 : AC := .ops [0, 1] [] f51_2l
theorem f51_2e : aC P id m f51_2 sf st Q = runI P id m f51_2l (opsK [0, 1] [] Q) sf st := rfl
def f51_5l : List GI := [vv 10 0,
    ⟨none, .call (some 11) false (.f 68) [(.r 10)]⟩]
def f51_5 : AC := .ops [0, 1, 11] [] f51_5l
theorem f51_5e : aC P id m f51_5 sf st Q = runI P id m f51_5l (opsK [0, 1, 11] [] Q) sf st := rfl
def f51_8l : List GI := [⟨none, .mv (some 4) (.c (.lit (.int .i64 0)))⟩,
    ⟨none, .mv (some 5) (.c (.lit (.int .i64 1)))⟩]
def f51_8 : AC := .ops [4, 5] [] f51_8l
theorem f51_8e : aC P id m f51_8 sf st Q = runI P id m f51_8l (opsK [4, 5] [] Q) sf st := rfl
def f51_7 : AC := .seq f51_8 .ret
theorem f51_7e : aC P id m f51_7 sf st Q = aC P id m f51_8 sf st (seqQ (aC P id m .ret) Q) := rfl
def f51_6 : AC := .cond (.r 11) f51_7 .skip
theorem f51_6e : aC P id m f51_6 sf st Q = condI (.r 11) (sf.ev id (.r 11)) (aC P id m f51_7) (aC P id m .skip) sf st Q := rfl
def f51_4 : AC := .seq f51_5 f51_6
theorem f51_4e : aC P id m f51_4 sf st Q = aC P id m f51_5 sf st (seqQ (aC P id m f51_6) Q) := rfl
def f51_10l : List GI := [vv 13 0,
    vn 14 13,
    vd 15 14 3,
    vl 16 15,
    vv 17 1,
    ⟨none, .lookup (some 18) (.int .u64) (.agg [(.lit (.int .i64 0)), (.lit (.int .u64 0)), (.lit (.int .u64 0))]) true (.r 16) (.r 17)⟩,
    vv 12 18,
    ve 19 12 0,
    ve 20 12 1,
    ⟨none, .newL 6 [(.lit (.int .i64 0)), (.lit (.int .u64 0)), (.lit (.int .u64 0))]⟩,
    ⟨none, .store 3 (.r 6) (.r 19)⟩,
    vo 7 20]
def f51_10 : AC := .ops [0, 1, 6, 7] [6] f51_10l
theorem f51_10e : aC P id m f51_10 sf st Q = runI P id m f51_10l (opsK [0, 1, 6, 7] [6] Q) sf st := rfl
def f51_13l : List GI := [vv 21 7,
    ⟨none, .un (some 22) .not (.r 21)⟩]
def f51_13 : AC := .ops [0, 1, 6, 22] [6] f51_13l
theorem f51_13e : aC P id m f51_13 sf st Q = runI P id m f51_13l (opsK [0, 1, 6, 22] [6] Q) sf st := rfl
def f51_16l : List GI := [⟨none, .mv (some 4) (.c (.lit (.int .i64 0)))⟩,
    ⟨none, .mv (some 5) (.c (.lit (.int .i64 9)))⟩]
def f51_16 : AC := .ops [4, 5] [] f51_16l
theorem f51_16e : aC P id m f51_16 sf st Q = runI P id m f51_16l (opsK [4, 5] [] Q) sf st := rfl
def f51_15 : AC := .seq f51_16 .ret
theorem f51_15e : aC P id m f51_15 sf st Q = aC P id m f51_16 sf st (seqQ (aC P id m .ret) Q) := rfl
def f51_14 : AC := .cond (.r 22) f51_15 .skip
theorem f51_14e : aC P id m f51_14 sf st Q = condI (.r 22) (sf.ev id (.r 22)) (aC P id m f51_15) (aC P id m .skip) sf st Q := rfl
def f51_12 : AC := .seq f51_13 f51_14
theorem f51_12e : aC P id m f51_12 sf st Q = aC P id m f51_13 sf st (seqQ (aC P id m f51_14) Q) := rfl
def f51_18l : List GI := [vv 23 0,
    vn 24 23,
    vd 25 24 3,
    vl 26 25,
    vv 27 1,
    ⟨none, .del (.int .u64) (.r 26) (.r 27)⟩]
def f51_18 : AC := .ops [0, 6] [6] f51_18l
theorem f51_18e : aC P id m f51_18 sf st Q = runI P id m f51_18l (opsK [0, 6] [6] Q) sf st := rfl
def f51_21l : List GI := [vd 28 6 1,
    vl 29 28,
    ⟨none, .bin (some 30) .num .eql (.r 29) (.c (.lit (.int .u64 0)))⟩]
def f51_21 : AC := .ops [0, 6, 30] [6] f51_21l
theorem f51_21e : aC P id m f51_21 sf st Q = runI P id m f51_21l (opsK [0, 6, 30] [6] Q) sf st := rfl
def f51_23l : List GI := [vv 31 0,
    vd 32 6 2,
    vl 33 32,
    vn 34 31,
    vd 35 34 0,
    vd 36 35 0,
    ⟨none, .store 1 (.r 36) (.r 33)⟩]
def f51_23 : AC := .ops [0, 6] [6] f51_23l
theorem f51_23e : aC P id m f51_23 sf st Q = runI P id m f51_23l (opsK [0, 6] [6] Q) sf st := rfl
def f51_25h : List GI := [vv 37 0,
    vn 38 37,
    vd 39 38 3,
    vl 40 39,
    vd 41 6 1,
    vl 42 41,
    ⟨none, .lookup (some 43) (.int .u64) (.agg [(.lit (.int .i64 0)), (.lit (.int .u64 0)), (.lit (.int .u64 0))]) false (.r 40) (.r 42)⟩,
    ⟨none, .newL 8 [(.lit (.int .i64 0)), (.lit (.int .u64 0)), (.lit (.int .u64 0))]⟩]
def f51_25l : List GI := [⟨none, .store 3 (.r 8) (.r 43)⟩]
def f51_25 : AC := .draw [0, 6, 8] [6, 8] [8] f51_25h f51_25l
theorem f51_25e : aC P id m f51_25 sf st Q = headI P id sf.locs st f51_25h (tailK P id m [8] [0, 6, 8] [6, 8] f51_25l Q st) [] ⟨sf.regs, dropL [8] sf.locs⟩ := rfl
def f51_27l : List GI := [vd 44 6 2,
    vl 45 44,
    vd 46 8 2,
    ⟨none, .store 1 (.r 46) (.r 45)⟩]
def f51_27 : AC := .ops [0, 6, 8] [6, 8] f51_27l
theorem f51_27e : aC P id m f51_27 sf st Q = runI P id m f51_27l (opsK [0, 6, 8] [6, 8] Q) sf st := rfl
def f51_28h : List GI := [vv 47 0,
    vn 48 47,
    vd 49 48 3,
    vl 50 49,
    vd 51 6 1,
    vl 52 51,
    ⟨none, .load (some 53) (.r 8) (some 3)⟩]
def f51_28l : List GI := [⟨none, .upd (.int .u64) (.r 50) (.r 52) (.r 53)⟩]
def f51_28 : AC := .draw [0, 6] [6] [] f51_28h f51_28l
theorem f51_28e : aC P id m f51_28 sf st Q = headI P id sf.locs st f51_28h (tailK P id m [] [0, 6] [6] f51_28l Q st) [] ⟨sf.regs, dropL [] sf.locs⟩ := rfl
def f51_26 : AC := .seq f51_27 f51_28
theorem f51_26e : aC P id m f51_26 sf st Q = aC P id m f51_27 sf st (seqQ (aC P id m f51_28) Q) := rfl
def f51_24 : AC := .seq f51_25 f51_26
theorem f51_24e : aC P id m f51_24 sf st Q = aC P id m f51_25 sf st (seqQ (aC P id m f51_26) Q) := rfl
def f51_22 : AC := .cond (.r 30) f51_23 f51_24
theorem f51_22e : aC P id m f51_22 sf st Q = condI (.r 30) (sf.ev id (.r 30)) (aC P id m f51_23) (aC P id m f51_24) sf st Q := rfl
def f51_20 : AC := .seq f51_21 f51_22
theorem f51_20e : aC P id m f51_20 sf st Q = aC P id m f51_21 sf st (seqQ (aC P id m f51_22) Q) := rfl
def f51_31l : List GI := [vd 54 6 2,
    vl 55 54,
    ⟨none, .bin (some 56) .num .eql (.r 55) (.c (.lit (.int .u64 0)))⟩]
def f51_31 : AC := .ops [0, 6, 56] [6] f51_31l
theorem f51_31e : aC P id m f51_31 sf st Q = runI P id m f51_31l (opsK [0, 6, 56] [6] Q) sf st := rfl
def f51_33l : List GI := [vv 57 0,
    vd 58 6 1,
    vl 59 58,
    vn 60 57,
    vd 61 60 0,
    vd 62 61 1,
    ⟨none, .store 1 (.r 62) (.r 59)⟩]
def f51_33 : AC := .ops [6] [6] f51_33l
theorem f51_33e : aC P id m f51_33 sf st Q = runI P id m f51_33l (opsK [6] [6] Q) sf st := rfl
def f51_35h : List GI := [vv 63 0,
    vn 64 63,
    vd 65 64 3,
    vl 66 65,
    vd 67 6 2,
    vl 68 67,
    ⟨none, .lookup (some 69) (.int .u64) (.agg [(.lit (.int .i64 0)), (.lit (.int .u64 0)), (.lit (.int .u64 0))]) false (.r 66) (.r 68)⟩,
    ⟨none, .newL 9 [(.lit (.int .i64 0)), (.lit (.int .u64 0)), (.lit (.int .u64 0))]⟩]
def f51_35l : List GI := [⟨none, .store 3 (.r 9) (.r 69)⟩]
def f51_35 : AC := .draw [0, 6, 9] [6, 9] [9] f51_35h f51_35l
theorem f51_35e : aC P id m f51_35 sf st Q = headI P id sf.locs st f51_35h (tailK P id m [9] [0, 6, 9] [6, 9] f51_35l Q st) [] ⟨sf.regs, dropL [9] sf.locs⟩ := rfl
def f51_37l : List GI := [vd 70 6 1,
    vl 71 70,
    vd 72 9 1,
    ⟨none, .store 1 (.r 72) (.r 71)⟩]
def f51_37 : AC := .ops [0, 6, 9] [6, 9] f51_37l
theorem f51_37e : aC P id m f51_37 sf st Q = runI P id m f51_37l (opsK [0, 6, 9] [6, 9] Q) sf st := rfl
def f51_38h : List GI := [vv 73 0,
    vn 74 73,
    vd 75 74 3,
    vl 76 75,
    vd 77 6 2,
    vl 78 77,
    ⟨none, .load (some 79) (.r 9) (some 3)⟩]
def f51_38l : List GI := [⟨none, .upd (.int .u64) (.r 76) (.r 78) (.r 79)⟩]
def f51_38 : AC := .draw [6] [6] [] f51_38h f51_38l
theorem f51_38e : aC P id m f51_38 sf st Q = headI P id sf.locs st f51_38h (tailK P id m [] [6] [6] f51_38l Q st) [] ⟨sf.regs, dropL [] sf.locs⟩ := rfl
def f51_36 : AC := .seq f51_37 f51_38
theorem f51_36e : aC P id m f51_36 sf st Q = aC P id m f51_37 sf st (seqQ (aC P id m f51_38) Q) := rfl
def f51_34 : AC := .seq f51_35 f51_36
theorem f51_34e : aC P id m f51_34 sf st Q = aC P id m f51_35 sf st (seqQ (aC P id m f51_36) Q) := rfl
def f51_32 : AC := .cond (.r 56) f51_33 f51_34
theorem f51_32e : aC P id m f51_32 sf st Q = condI (.r 56) (sf.ev id (.r 56)) (aC P id m f51_33) (aC P id m f51_34) sf st Q := rfl
def f51_30 : AC := .seq f51_31 f51_32
theorem f51_30e : aC P id m f51_30 sf st Q = aC P id m f51_31 sf st (seqQ (aC P id m f51_32) Q) := rfl
def f51_40l : List GI := [vd 80 6 0,
    vl 81 80,
    vo 4 81,
    ⟨none, .mv (some 5) (.c (.lit (.int .i64 0)))⟩]
def f51_40 : AC := .ops [4, 5] [] f51_40l
theorem f51_40e : aC P id m f51_40 sf st Q = runI P id m f51_40l (opsK [4, 5] [] Q) sf st := rfl
def f51_39 : AC := .seq f51_40 .ret
theorem f51_39e : aC P id m f51_39 sf st Q = aC P id m f51_40 sf st (seqQ (aC P id m .ret) Q) := rfl
def f51_29 : AC := .seq f51_30 f51_39
theorem f51_29e : aC P id m f51_29 sf st Q = aC P id m f51_30 sf st (seqQ (aC P id m f51_39) Q) := rfl
def f51_19 : AC := .seq f51_20 f51_29
theorem f51_19e : aC P id m f51_19 sf st Q = aC P id m f51_20 sf st (seqQ (aC P id m f51_29) Q) := rfl
def f51_17 : AC := .seq f51_18 f51_19
theorem f51_17e : aC P id m f51_17 sf st Q = aC P id m f51_18 sf st (seqQ (aC P id m f51_19) Q) := rfl
def f51_11 : AC := .seq f51_12 f51_17
theorem f51_11e : aC P id m f51_11 sf st Q = aC P id m f51_12 sf st (seqQ (aC P id m f51_17) Q) := rfl
def f51_9 : AC := .seq f51_10 f51_11
theorem f51_9e : aC P id m f51_9 sf st Q = aC P id m f51_10 sf st (seqQ (aC P id m f51_11) Q) := rfl
def f51_3 : AC := .seq f51_4 f51_9
theorem f51_3e : aC P id m f51_3 sf st Q = aC P id m f51_4 sf st (seqQ (aC P id m f51_9) Q) := rfl
def f51_1 : AC := .seq f51_2 f51_3
theorem f51_1e : aC P id m f51_1 sf st Q = aC P id m f51_2 sf st (seqQ (aC P id m f51_3) Q) := rfl
def c_f51 : AFun := ⟨82, [.tmp 4, .tmp 5], f51_1⟩
theorem k_f51 : compF Go.Proofs.Try.prog x_f51 51 = some c_f51 := by kernel_rfl
theorem e_f51 : enterB Go.Proofs.Try.prog 51 = true := by kernel_rfl

def n_f52 : Nat := 52
def x_f52 : Cx := ⟨some, id, 31, fun s => ([0, 1, 2, 3, 4, 5, 12, 13, 14, 15, 16, 17, 18, 19, 20, 21, 22, 23, 24, 25, 26, 27, 28, 29, 30] : List Nat).contains s, fun s => ([] : List Nat).contains s, msOf [(2, [0, 1, 2, 3, 4, 5], []), (6, [4, 5, 13, 14], []), (14, [12], [])]⟩
def f52_2l : List GI := [⟨none, .mv (some 12) (.c (.lit (.bool false)))⟩]
def f52_2 : AC := .ops [0, 1, 2, 3, 4, 5] [] f52_2l
theorem f52_2e : aC P id m f52_2 sf st Q = runI P id m f52_2l (opsK [0, 1, 2, 3, 4, 5] [] Q) sf st := rfl
def f52_4l : List GI := [vv 16 0,
    vv 17 1,
    vv 18 2,
    vv 19 3,
    ⟨none, .call (some 20) false (.f 35) [(.r 16), (.r 17), (.r 18), (.r 19)]⟩,
    vv 15 20,
    ve 21 15 0,
    ve 22 15 1,
    vo 13 21,
    vo 14 22]
def f52_4 : AC := .ops [4, 5, 13, 14] [] f52_4l
theorem f52_4e : aC P id m f52_4 sf st Q = runI P id m f52_4l (opsK [4, 5, 13, 14] [] Q) sf st := rfl
def f52_6l : List GI := [vv 23 13,
    vv 24 4,
    ⟨none, .bin (some 25) .bool .eql (.r 23) (.r 24)⟩,
    vv 26 25,
    ⟨some (26, true), .mv (some 27) (.r 14)⟩,
    ⟨some (26, true), .mv (some 28) (.r 5)⟩,
    ⟨some (26, true), .bin (some 29) .num .eql (.r 27) (.r 28)⟩,
    ⟨none, .pick (some 30) (.r 26) (.r 29) (.c (.lit (.bool false)))⟩,
    vo 12 30]
def f52_6 : AC := .ops [12] [] f52_6l
theorem f52_6e : aC P id m f52_6 sf st Q = runI P id m f52_6l (opsK [12] [] Q) sf st := rfl
def f52_5 : AC := .seq f52_6 .ret
theorem f52_5e : aC P id m f52_5 sf st Q = aC P id m f52_6 sf st (seqQ (aC P id m .ret) Q) := rfl
def f52_3 : AC := .seq f52_4 f52_5
theorem f52_3e : aC P id m f52_3 sf st Q = aC P id m f52_4 sf st (seqQ (aC P id m f52_5) Q) := rfl
def f52_1 : AC := .seq f52_2 f52_3
theorem f52_1e : aC P id m f52_1 sf st Q = aC P id m f52_2 sf st (seqQ (aC P id m f52_3) Q) := rfl
def c_f52 : AFun := ⟨31, [.tmp 12], f52_1⟩
theorem k_f52 : compF Go.Proofs.Try.prog x_f52 52 = some c_f52 := by kernel_rfl
theorem e_f52 : enterB Go.Proofs.Try.prog 52 = true := by kernel_rfl

def n_f53 : Nat := 53
def x_f53 : Cx := ⟨some, id, 26, fun s => ([0, 1, 4, 5, 6, 7, 8, 9, 11, 12, 13, 15, 16, 18, 20, 22, 24] : List Nat).contains s, fun s => ([] : List Nat).contains s, msOf [(2, [0, 1], []), (12, [0, 1, 10], []), (52, [4], []), (28, [0, 1, 5], []), (58, [0, 1, 5], []), (464, [0, 1, 5, 14], []), (931, [], []), (1864, [0, 1, 5, 25], []), (7460, [4], []), (467, [0, 1, 5], []), (30, [4], [])]⟩
def f53_2l : List GI := [⟨none, .mv (some 4) (.c (.lit (.bool false)))⟩]
def f53_2 : AC := .ops [0, 1] [] f53_2l
theorem f53_2e : aC P id m f53_2 sf st Q = runI P id m f53_2l (opsK [0, 1] [] Q) sf st := rfl
def f53_5l : List GI := [vv 6 0,
    ⟨none, .len (some 7) .sl (.r 6)⟩,
    vv 8 1,
    ⟨none, .len (some 9) .sl (.r 8)⟩,
    ⟨none, .bin (some 10) .num .neq (.r 7) (.r 9)⟩]
def f53_5 : AC := .ops [0, 1, 10] [] f53_5l
theorem f53_5e : aC P id m f53_5 sf st Q = runI P id m f53_5l (opsK [0, 1, 10] [] Q) sf st := rfl
def f53_8l : List GI := [⟨none, .mv (some 4) (.c (.lit (.bool false)))⟩]
def f53_8 : AC := .ops [4] [] f53_8l
theorem f53_8e : aC P id m f53_8 sf st Q = runI P id m f53_8l (opsK [4] [] Q) sf st := rfl
def f53_7 : AC := .seq f53_8 .ret
theorem f53_7e : aC P id m f53_7 sf st Q = aC P id m f53_8 sf st (seqQ (aC P id m .ret) Q) := rfl
def f53_6 : AC := .cond (.r 10) f53_7 .skip
theorem f53_6e : aC P id m f53_6 sf st Q = condI (.r 10) (sf.ev id (.r 10)) (aC P id m f53_7) (aC P id m .skip) sf st Q := rfl
def f53_4 : AC := .seq f53_5 f53_6
theorem f53_4e : aC P id m f53_4 sf st Q = aC P id m f53_5 sf st (seqQ (aC P id m f53_6) Q) := rfl
def f53_11l : List GI := [⟨none, .mv (some 5) (.c (.lit (.int .i64 0)))⟩]
def f53_11 : AC := .ops [0, 1, 5] [] f53_11l
theorem f53_11e : aC P id m f53_11 sf st Q = runI P id m f53_11l (opsK [0, 1, 5] [] Q) sf st := rfl
def f53_16l : List GI := [vv 11 5,
    vv 12 0,
    ⟨none, .len (some 13) .sl (.r 12)⟩,
    ⟨none, .bin (some 14) .num .lss (.r 11) (.r 13)⟩]
def f53_16 : AC := .ops [0, 1, 5, 14] [] f53_16l
theorem f53_16e : aC P id m f53_16 sf st Q = runI P id m f53_16l (opsK [0, 1, 5, 14] [] Q) sf st := rfl
def f53_17 : AC := .cond (.r 14) .skip (.exit [] [] 0)
theorem f53_17e : aC P id m f53_17 sf st Q = condI (.r 14) (sf.ev id (.r 14)) (aC P id m .skip) (aC P id m (.exit [] [] 0)) sf st Q := rfl
def f53_15 : AC := .seq f53_16 f53_17
theorem f53_15e : aC P id m f53_15 sf st Q = aC P id m f53_16 sf st (seqQ (aC P id m f53_17) Q) := rfl
def f53_21h : List GI := [vv 17 0,
    vv 18 5,
    ⟨none, .ixS (some 19) (.r 17) (.r 18) 1⟩,
    vl 20 19,
    vv 21 1,
    vv 22 5,
    ⟨none, .ixS (some 23) (.r 21) (.r 22) 1⟩,
    vl 24 23]
def f53_21l : List GI := [⟨none, .bin (some 25) .num .neq (.r 20) (.r 24)⟩]
def f53_21 : AC := .draw [0, 1, 5, 25] [] [] f53_21h f53_21l
theorem f53_21e : aC P id m f53_21 sf st Q = headI P id sf.locs st f53_21h (tailK P id m [] [0, 1, 5, 25] [] f53_21l Q st) [] ⟨sf.regs, dropL [] sf.locs⟩ := rfl
def f53_24l : List GI := [⟨none, .mv (some 4) (.c (.lit (.bool false)))⟩]
def f53_24 : AC := .ops [4] [] f53_24l
theorem f53_24e : aC P id m f53_24 sf st Q = runI P id m f53_24l (opsK [4] [] Q) sf st := rfl
def f53_23 : AC := .seq f53_24 .ret
theorem f53_23e : aC P id m f53_23 sf st Q = aC P id m f53_24 sf st (seqQ (aC P id m .ret) Q) := rfl
def f53_22 : AC := .cond (.r 25) f53_23 .skip
theorem f53_22e : aC P id m f53_22 sf st Q = condI (.r 25) (sf.ev id (.r 25)) (aC P id m f53_23) (aC P id m .skip) sf st Q := rfl
def f53_20 : AC := .seq f53_21 f53_22
theorem f53_20e : aC P id m f53_20 sf st Q = aC P id m f53_21 sf st (seqQ (aC P id m f53_22) Q) := rfl
def f53_19 : AC := .block 1 f53_20
theorem f53_19e : aC P id m f53_19 sf st Q = aC P id m f53_20 sf st (blockQ 1 Q) := rfl
def f53_25l : List GI := [vv 15 5,
    vb 16 .add 15 1,
    vo 5 16]
def f53_25 : AC := .ops [0, 1, 5] [] f53_25l
theorem f53_25e : aC P id m f53_25 sf st Q = runI P id m f53_25l (opsK [0, 1, 5] [] Q) sf st := rfl
def f53_18 : AC := .seq f53_19 f53_25
theorem f53_18e : aC P id m f53_18 sf st Q = aC P id m f53_19 sf st (seqQ (aC P id m f53_25) Q) := rfl
def f53_14 : AC := .seq f53_15 f53_18
theorem f53_14e : aC P id m f53_14 sf st Q = aC P id m f53_15 sf st (seqQ (aC P id m f53_18) Q) := rfl
def f53_13 : AC := .loop [0, 1, 5] [] f53_14
theorem f53_13w : aC P id m f53_13 sf st Q = loopI (aC P id m f53_14) [0, 1, 5] [] sf st Q := rfl
def f53_12 : AC := .block 0 f53_13
theorem f53_12e : aC P id m f53_12 sf st Q = aC P id m f53_13 sf st (blockQ 0 Q) := rfl
def f53_10 : AC := .seq f53_11 f53_12
theorem f53_10e : aC P id m f53_10 sf st Q = aC P id m f53_11 sf st (seqQ (aC P id m f53_12) Q) := rfl
def f53_27l : List GI := [⟨none, .mv (some 4) (.c (.lit (.bool true)))⟩]
def f53_27 : AC := .ops [4] [] f53_27l
theorem f53_27e : aC P id m f53_27 sf st Q = runI P id m f53_27l (opsK [4] [] Q) sf st := rfl
def f53_26 : AC := .seq f53_27 .ret
theorem f53_26e : aC P id m f53_26 sf st Q = aC P id m f53_27 sf st (seqQ (aC P id m .ret) Q) := rfl
def f53_9 : AC := .seq f53_10 f53_26
theorem f53_9e : aC P id m f53_9 sf st Q = aC P id m f53_10 sf st (seqQ (aC P id m f53_26) Q) := rfl
def f53_3 : AC := .seq f53_4 f53_9
theorem f53_3e : aC P id m f53_3 sf st Q = aC P id m f53_4 sf st (seqQ (aC P id m f53_9) Q) := rfl
def f53_1 : AC := .seq f53_2 f53_3
theorem f53_1e : aC P id m f53_1 sf st Q = aC P id m f53_2 sf st (seqQ (aC P id m f53_3) Q) := rfl
def c_f53 : AFun := ⟨26, [.tmp 4], f53_1⟩
theorem k_f53 : compF Go.Proofs.Try.prog x_f53 53 = some c_f53 := by kernel_rfl
theorem e_f53 : enterB Go.Proofs.Try.prog 53 = true := by kernel_rfl

def n_f54 : Nat := 54
def x_f54 : Cx := ⟨some, id, 26, fun s => ([0, 1, 4, 5, 6, 7, 8, 9, 11, 12, 13, 15, 16, 18, 20, 22, 24] : List Nat).contains s, fun s => ([] : List Nat).contains s, msOf [(2, [0, 1], []), (12, [0, 1, 10], []), (52, [4], []), (28, [0, 1, 5], []), (58, [0, 1, 5], []), (464, [0, 1, 5, 14], []), (931, [], []), (1864, [0, 1, 5, 25], []), (7460, [4], []), (467, [0, 1, 5], []), (30, [4], [])]⟩
def f54_2l : List GI := [⟨none, .mv (some 4) (.c (.lit (.bool false)))⟩]
def f54_2 : AC := .ops [0, 1] [] f54_2l
theorem f54_2e : aC P id m f54_2 sf st Q = runI P id m f54_2l (opsK [0, 1] [] Q) sf st := rfl
def f54_5l : List GI := [vv 6 0,
    ⟨none, .len (some 7) .sl (.r 6)⟩,
    vv 8 1,
    ⟨none, .len (some 9) .sl (.r 8)⟩,
    ⟨none, .bin (some 10) .num .neq (.r 7) (.r 9)⟩]
def f54_5 : AC := .ops [0, 1, 10] [] f54_5l
theorem f54_5e : aC P id m f54_5 sf st Q = runI P id m f54_5l (opsK [0, 1, 10] [] Q) sf st := rfl
def f54_8l : List GI := [⟨none, .mv (some 4) (.c (.lit (.bool false)))⟩]
def f54_8 : AC := .ops [4] [] f54_8l
theorem f54_8e : aC P id m f54_8 sf st Q = runI P id m f54_8l (opsK [4] [] Q) sf st := rfl
def f54_7 : AC := .seq f54_8 .ret
theorem f54_7e : aC P id m f54_7 sf st Q = aC P id m f54_8 sf st (seqQ (aC P id m .ret) Q) := rfl
def f54_6 : AC := .cond (.r 10) f54_7 .skip
theorem f54_6e : aC P id m f54_6 sf st Q = condI (.r 10) (sf.ev id (.r 10)) (aC P id m f54_7) (aC P id m .skip) sf st Q := rfl
def f54_4 : AC := .seq f54_5 f54_6
theorem f54_4e : aC P id m f54_4 sf st Q = aC P id m f54_5 sf st (seqQ (aC P id m f54_6) Q) := rfl
def f54_11l : List GI := [⟨none, .mv (some 5) (.c (.lit (.int .i64 0)))⟩]
def f54_11 : AC := .ops [0, 1, 5] [] f54_11l
theorem f54_11e : aC P id m f54_11 sf st Q = runI P id m f54_11l (opsK [0, 1, 5] [] Q) sf st := rfl
def f54_16l : List GI := [vv 11 5,
    vv 12 0,
    ⟨none, .len (some 13) .sl (.r 12)⟩,
    ⟨none, .bin (some 14) .num .lss (.r 11) (.r 13)⟩]
def f54_16 : AC := .ops [0, 1, 5, 14] [] f54_16l
theorem f54_16e : aC P id m f54_16 sf st Q = runI P id m f54_16l (opsK [0, 1, 5, 14] [] Q) sf st := rfl
def f54_17 : AC := .cond (.r 14) .skip (.exit [] [] 0)
theorem f54_17e : aC P id m f54_17 sf st Q = condI (.r 14) (sf.ev id (.r 14)) (aC P id m .skip) (aC P id m (.exit [] [] 0)) sf st Q := rfl
def f54_15 : AC := .seq f54_16 f54_17
theorem f54_15e : aC P id m f54_15 sf st Q = aC P id m f54_16 sf st (seqQ (aC P id m f54_17) Q) := rfl
def f54_21h : List GI := [vv 17 0,
    vv 18 5,
    ⟨none, .ixS (some 19) (.r 17) (.r 18) 2⟩,
    ⟨none, .load (some 20) (.r 19) (some 2)⟩,
    vv 21 1,
    vv 22 5,
    ⟨none, .ixS (some 23) (.r 21) (.r 22) 2⟩,
    ⟨none, .load (some 24) (.r 23) (some 2)⟩]
def f54_21l : List GI := [⟨none, .bin (some 25) (.agg (.field 0 1 .int (.field 1 1 .int .tt))) .neq (.r 20) (.r 24)⟩]
def f54_21 : AC := .draw [0, 1, 5, 25] [] [] f54_21h f54_21l
theorem f54_21e : aC P id m f54_21 sf st Q = headI P id sf.locs st f54_21h (tailK P id m [] [0, 1, 5, 25] [] f54_21l Q st) [] ⟨sf.regs, dropL [] sf.locs⟩ := rfl
def f54_24l : List GI := [⟨none, .mv (some 4) (.c (.lit (.bool false)))⟩]
def f54_24 : AC := .ops [4] [] f54_24l
theorem f54_24e : aC P id m f54_24 sf st Q = runI P id m f54_24l (opsK [4] [] Q) sf st := rfl
def f54_23 : AC := .seq f54_24 .ret
theorem f54_23e : aC P id m f54_23 sf st Q = aC P id m f54_24 sf st (seqQ (aC P id m .ret) Q) := rfl
def f54_22 : AC := .cond (.r 25) f54_23 .skip
theorem f54_22e : aC P id m f54_22 sf st Q = condI (.r 25) (sf.ev id (.r 25)) (aC P id m f54_23) (aC P id m .skip) sf st Q := rfl
def f54_20 : AC := .seq f54_21 f54_22
theorem f54_20e : aC P id m f54_20 sf st Q = aC P id m f54_21 sf st (seqQ (aC P id m f54_22) Q) := rfl
def f54_19 : AC := .block 1 f54_20
theorem f54_19e : aC P id m f54_19 sf st Q = aC P id m f54_20 sf st (blockQ 1 Q) := rfl
def f54_25l : List GI := [vv 15 5,
    vb 16 .add 15 1,
    vo 5 16]
def f54_25 : AC := .ops [0, 1, 5] [] f54_25l
theorem f54_25e : aC P id m f54_25 sf st Q = runI P id m f54_25l (opsK [0, 1, 5] [] Q) sf st := rfl
def f54_18 : AC := .seq f54_19 f54_25
theorem f54_18e : aC P id m f54_18 sf st Q = aC P id m f54_19 sf st (seqQ (aC P id m f54_25) Q) := rfl
def f54_14 : AC := .seq f54_15 f54_18
theorem f54_14e : aC P id m f54_14 sf st Q = aC P id m f54_15 sf st (seqQ (aC P id m f54_18) Q) := rfl
def f54_13 : AC := .loop [0, 1, 5] [] f54_14
theorem f54_13w : aC P id m f54_13 sf st Q = loopI (aC P id m f54_14) [0, 1, 5] [] sf st Q := rfl
def f54_12 : AC := .block 0 f54_13
theorem f54_12e : aC P id m f54_12 sf st Q = aC P id m f54_13 sf st (blockQ 0 Q) := rfl
def f54_10 : AC := .seq f54_11 f54_12
theorem f54_10e : aC P id m f54_10 sf st Q = aC P id m f54_11 sf st (seqQ (aC P id m f54_12) Q) := rfl
def f54_27l : List GI := [⟨none, .mv (some 4) (.c (.lit (.bool true)))⟩]
def f54_27 : AC := .ops [4] [] f54_27l
theorem f54_27e : aC P id m f54_27 sf st Q = runI P id m f54_27l (opsK [4] [] Q) sf st := rfl
def f54_26 : AC := .seq f54_27 .ret
theorem f54_26e : aC P id m f54_26 sf st Q = aC P id m f54_27 sf st (seqQ (aC P id m .ret) Q) := rfl
def f54_9 : AC := .seq f54_10 f54_26
theorem f54_9e : aC P id m f54_9 sf st Q = aC P id m f54_10 sf st (seqQ (aC P id m f54_26) Q) := rfl
def f54_3 : AC := .seq f54_4 f54_9
theorem f54_3e : aC P id m f54_3 sf st Q = aC P id m f54_4 sf st (seqQ (aC P id m f54_9) Q) := rfl
def f54_1 : AC := .seq f54_2 f54_3
theorem f54_1e : aC P id m f54_1 sf st Q = aC P id m f54_2 sf st (seqQ (aC P id m f54_3) Q) := rfl
def c_f54 : AFun := ⟨26, [.tmp 4], f54_1⟩
theorem k_f54 : compF Go.Proofs.Try.prog x_f54 54 = some c_f54 := by kernel_rfl
theorem e_f54 : enterB Go.Proofs.Try.prog 54 = true := by kernel_rfl

def n_f55 : Nat := 55
def x_f55 : Cx := ⟨some, id, 18, fun s => ([0, 2, 3, 4, 6, 7, 9, 10, 11, 12, 15, 16, 17] : List Nat).contains s, fun s => ([] : List Nat).contains s, msOf [(2, [1], [1]), (6, [1, 3], [1]), (28, [1, 3, 4], [1]), (58, [1, 3, 4], [1]), (464, [1, 3, 4, 8], [1]), (931, [3], []), (932, [1, 3, 4], [1]), (467, [1, 3, 4], [1]), (30, [2], [])]⟩
def f55_2l : List GI := [⟨none, .boxL 1 67 (.r 0)⟩,
    ⟨none, .mv (some 2) (.c (.lit (.int .i64 0)))⟩]
def f55_2 : AC := .ops [1] [1] f55_2l
theorem f55_2e : aC P id m f55_2 sf st Q = runI P id m f55_2l (opsK [1] [1] Q) sf st := rfl
def f55_4l : List GI := [vd 5 1 0,
    vl 6 5,
    vo 3 6]
def f55_4 : AC := .ops [1, 3] [1] f55_4l
theorem f55_4e : aC P id m f55_4 sf st Q = runI P id m f55_4l (opsK [1, 3] [1] Q) sf st := rfl
def f55_7l : List GI := [⟨none, .mv (some 4) (.c (.lit (.int .i64 0)))⟩]
def f55_7 : AC := .ops [1, 3, 4] [1] f55_7l
theorem f55_7e : aC P id m f55_7 sf st Q = runI P id m f55_7l (opsK [1, 3, 4] [1] Q) sf st := rfl
def f55_12l : List GI := [vv 7 4,
    vb 8 .lss 7 64]
def f55_12 : AC := .ops [1, 3, 4, 8] [1] f55_12l
theorem f55_12e : aC P id m f55_12 sf st Q = runI P id m f55_12l (opsK [1, 3, 4, 8] [1] Q) sf st := rfl
def f55_13 : AC := .cond (.r 8) .skip (.exit [3] [] 0)
theorem f55_13e : aC P id m f55_13 sf st Q = condI (.r 8) (sf.ev id (.r 8)) (aC P id m .skip) (aC P id m (.exit [3] [] 0)) sf st Q := rfl
def f55_11 : AC := .seq f55_12 f55_13
theorem f55_11e : aC P id m f55_11 sf st Q = aC P id m f55_12 sf st (seqQ (aC P id m f55_13) Q) := rfl
def f55_16l : List GI := [vv 11 3,
    vv 12 4,
    vd 13 1 2,
    ⟨none, .ixA (some 14) (.r 13) (.r 12) 64 1⟩,
    vl 15 14,
    ⟨none, .bin (some 16) .num .sub (.r 11) (.r 15)⟩,
    vo 3 16]
def f55_16 : AC := .ops [1, 3, 4] [1] f55_16l
theorem f55_16e : aC P id m f55_16 sf st Q = runI P id m f55_16l (opsK [1, 3, 4] [1] Q) sf st := rfl
def f55_15 : AC := .block 1 f55_16
theorem f55_15e : aC P id m f55_15 sf st Q = aC P id m f55_16 sf st (blockQ 1 Q) := rfl
def f55_17l : List GI := [vv 9 4,
    vb 10 .add 9 1,
    vo 4 10]
def f55_17 : AC := .ops [1, 3, 4] [1] f55_17l
theorem f55_17e : aC P id m f55_17 sf st Q = runI P id m f55_17l (opsK [1, 3, 4] [1] Q) sf st := rfl
def f55_14 : AC := .seq f55_15 f55_17
theorem f55_14e : aC P id m f55_14 sf st Q = aC P id m f55_15 sf st (seqQ (aC P id m f55_17) Q) := rfl
def f55_10 : AC := .seq f55_11 f55_14
theorem f55_10e : aC P id m f55_10 sf st Q = aC P id m f55_11 sf st (seqQ (aC P id m f55_14) Q) := rfl
def f55_9 : AC := .loop [1, 3, 4] [1] f55_10
theorem f55_9w : aC P id m f55_9 sf st Q = loopI (aC P id m f55_10) [1, 3, 4] [1] sf st Q := rfl
def f55_8 : AC := .block 0 f55_9
theorem f55_8e : aC P id m f55_8 sf st Q = aC P id m f55_9 sf st (blockQ 0 Q) := rfl
def f55_6 : AC := .seq f55_7 f55_8
theorem f55_6e : aC P id m f55_6 sf st Q = aC P id m f55_7 sf st (seqQ (aC P id m f55_8) Q) := rfl
def f55_19l : List GI := [vv 17 3,
    vo 2 17]
def f55_19 : AC := .ops [2] [] f55_19l
theorem f55_19e : aC P id m f55_19 sf st Q = runI P id m f55_19l (opsK [2] [] Q) sf st := rfl
def f55_18 : AC := .seq f55_19 .ret
theorem f55_18e : aC P id m f55_18 sf st Q = aC P id m f55_19 sf st (seqQ (aC P id m .ret) Q) := rfl
def f55_5 : AC := .seq f55_6 f55_18
theorem f55_5e : aC P id m f55_5 sf st Q = aC P id m f55_6 sf st (seqQ (aC P id m f55_18) Q) := rfl
def f55_3 : AC := .seq f55_4 f55_5
theorem f55_3e : aC P id m f55_3 sf st Q = aC P id m f55_4 sf st (seqQ (aC P id m f55_5) Q) := rfl
def f55_1 : AC := .seq f55_2 f55_3
theorem f55_1e : aC P id m f55_1 sf st Q = aC P id m f55_2 sf st (seqQ (aC P id m f55_3) Q) := rfl
def c_f55 : AFun := ⟨18, [.tmp 2], f55_1⟩
theorem k_f55 : compF Go.Proofs.Try.prog x_f55 55 = some c_f55 := by kernel_rfl
theorem e_f55 : enterB Go.Proofs.Try.prog 55 = true := by kernel_rfl

def n_f56 : Nat := 56
def x_f56 : Cx := ⟨some, id, 22, fun s => ([0, 2, 3, 4, 5, 7, 8, 10, 11, 12, 15, 18, 19, 20, 21] : List Nat).contains s, fun s => ([] : List Nat).contains s, msOf [(2, [1], [1]), (6, [1, 3], [1]), (28, [1, 3, 4], [1]), (58, [1, 3, 4], [1]), (464, [1, 3, 4, 9], [1]), (931, [3], []), (932, [1, 3, 4], [1]), (467, [1, 3, 4], [1]), (30, [2], [])]⟩
def f56_2l : List GI := [⟨none, .boxL 1 67 (.r 0)⟩,
    ⟨none, .mv (some 2) (.c (.lit (.slice none 0 0)))⟩]
def f56_2 : AC := .ops [1] [1] f56_2l
theorem f56_2e : aC P id m f56_2 sf st Q = runI P id m f56_2l (opsK [1] [1] Q) sf st := rfl
def f56_4l : List GI := [⟨none, .mv (some 3) (.c (.lit (.slice none 0 0)))⟩]
def f56_4 : AC := .ops [1, 3] [1] f56_4l
theorem f56_4e : aC P id m f56_4 sf st Q = runI P id m f56_4l (opsK [1, 3] [1] Q) sf st := rfl
def f56_7l : List GI := [⟨none, .mv (some 4) (.c (.lit (.int .i64 0)))⟩]
def f56_7 : AC := .ops [1, 3, 4] [1] f56_7l
theorem f56_7e : aC P id m f56_7 sf st Q = runI P id m f56_7l (opsK [1, 3, 4] [1] Q) sf st := rfl
def f56_12l : List GI := [vv 5 4,
    vd 6 1 66,
    vl 7 6,
    ⟨none, .len (some 8) .sl (.r 7)⟩,
    ⟨none, .bin (some 9) .num .lss (.r 5) (.r 8)⟩]
def f56_12 : AC := .ops [1, 3, 4, 9] [1] f56_12l
theorem f56_12e : aC P id m f56_12 sf st Q = runI P id m f56_12l (opsK [1, 3, 4, 9] [1] Q) sf st := rfl
def f56_13 : AC := .cond (.r 9) .skip (.exit [3] [] 0)
theorem f56_13e : aC P id m f56_13 sf st Q = condI (.r 9) (sf.ev id (.r 9)) (aC P id m .skip) (aC P id m (.exit [3] [] 0)) sf st Q := rfl
def f56_11 : AC := .seq f56_12 f56_13
theorem f56_11e : aC P id m f56_11 sf st Q = aC P id m f56_12 sf st (seqQ (aC P id m f56_13) Q) := rfl
def f56_16l : List GI := [vo 12 3,
    vd 13 1 66,
    vl 14 13,
    vv 15 4,
    ⟨none, .ixS (some 16) (.r 14) (.r 15) 3⟩,
    vd 17 16 0,
    vl 18 17,
    ⟨none, .bsl (some 19) 1 1 (.lit (.int .i64 0)) [(0, (.r 18))]⟩,
    ⟨none, .appS 20 12 1 8 (.r 19)⟩,
    vo 3 20]
def f56_16 : AC := .ops [1, 3, 4] [1] f56_16l
theorem f56_16e : aC P id m f56_16 sf st Q = runI P id m f56_16l (opsK [1, 3, 4] [1] Q) sf st := rfl
def f56_15 : AC := .block 1 f56_16
theorem f56_15e : aC P id m f56_15 sf st Q = aC P id m f56_16 sf st (blockQ 1 Q) := rfl
def f56_17l : List GI := [vv 10 4,
    vb 11 .add 10 1,
    vo 4 11]
def f56_17 : AC := .ops [1, 3, 4] [1] f56_17l
theorem f56_17e : aC P id m f56_17 sf st Q = runI P id m f56_17l (opsK [1, 3, 4] [1] Q) sf st := rfl
def f56_14 : AC := .seq f56_15 f56_17
theorem f56_14e : aC P id m f56_14 sf st Q = aC P id m f56_15 sf st (seqQ (aC P id m f56_17) Q) := rfl
def f56_10 : AC := .seq f56_11 f56_14
theorem f56_10e : aC P id m f56_10 sf st Q = aC P id m f56_11 sf st (seqQ (aC P id m f56_14) Q) := rfl
def f56_9 : AC := .loop [1, 3, 4] [1] f56_10
theorem f56_9w : aC P id m f56_9 sf st Q = loopI (aC P id m f56_10) [1, 3, 4] [1] sf st Q := rfl
def f56_8 : AC := .block 0 f56_9
theorem f56_8e : aC P id m f56_8 sf st Q = aC P id m f56_9 sf st (blockQ 0 Q) := rfl
def f56_6 : AC := .seq f56_7 f56_8
theorem f56_6e : aC P id m f56_6 sf st Q = aC P id m f56_7 sf st (seqQ (aC P id m f56_8) Q) := rfl
def f56_19l : List GI := [vv 21 3,
    vo 2 21]
def f56_19 : AC := .ops [2] [] f56_19l
theorem f56_19e : aC P id m f56_19 sf st Q = runI P id m f56_19l (opsK [2] [] Q) sf st := rfl
def f56_18 : AC := .seq f56_19 .ret
theorem f56_18e : aC P id m f56_18 sf st Q = aC P id m f56_19 sf st (seqQ (aC P id m .ret) Q) := rfl
def f56_5 : AC := .seq f56_6 f56_18
theorem f56_5e : aC P id m f56_5 sf st Q = aC P id m f56_6 sf st (seqQ (aC P id m f56_18) Q) := rfl
def f56_3 : AC := .seq f56_4 f56_5
theorem f56_3e : aC P id m f56_3 sf st Q = aC P id m f56_4 sf st (seqQ (aC P id m f56_5) Q) := rfl
def f56_1 : AC := .seq f56_2 f56_3
theorem f56_1e : aC P id m f56_1 sf st Q = aC P id m f56_2 sf st (seqQ (aC P id m f56_3) Q) := rfl
def c_f56 : AFun := ⟨22, [.tmp 2], f56_1⟩
theorem k_f56 : compF Go.Proofs.Try.prog x_f56 56 = some c_f56 := by kernel_rfl
theorem e_f56 : enterB Go.Proofs.Try.prog 56 = true := by kernel_rfl

def n_f57 : Nat := 57
def x_f57 : Cx := ⟨some, id, 21, fun s => ([0, 2, 3, 4, 5, 7, 8, 10, 11, 12, 15, 18, 19, 20] : List Nat).contains s, fun s => ([] : List Nat).contains s, msOf [(2, [1], [1]), (6, [1, 3], [1]), (28, [1, 3, 4], [1]), (58, [1, 3, 4], [1]), (464, [1, 3, 4, 9], [1]), (931, [3], []), (932, [1, 3, 4], [1]), (467, [1, 3, 4], [1]), (30, [2], [])]⟩
def f57_2l : List GI := [⟨none, .boxL 1 67 (.r 0)⟩,
    ⟨none, .mv (some 2) (.c (.lit (.int .u64 0)))⟩]
def f57_2 : AC := .ops [1] [1] f57_2l
theorem f57_2e : aC P id m f57_2 sf st Q = runI P id m f57_2l (opsK [1] [1] Q) sf st := rfl
def f57_4l : List GI := [⟨none, .mv (some 3) (.c (.lit (.int .u64 18446744073709551615)))⟩]
def f57_4 : AC := .ops [1, 3] [1] f57_4l
theorem f57_4e : aC P id m f57_4 sf st Q = runI P id m f57_4l (opsK [1, 3] [1] Q) sf st := rfl
def f57_7l : List GI := [⟨none, .mv (some 4) (.c (.lit (.int .i64 0)))⟩]
def f57_7 : AC := .ops [1, 3, 4] [1] f57_7l
theorem f57_7e : aC P id m f57_7 sf st Q = runI P id m f57_7l (opsK [1, 3, 4] [1] Q) sf st := rfl
def f57_12l : List GI := [vv 5 4,
    vd 6 1 66,
    vl 7 6,
    ⟨none, .len (some 8) .sl (.r 7)⟩,
    ⟨none, .bin (some 9) .num .lss (.r 5) (.r 8)⟩]
def f57_12 : AC := .ops [1, 3, 4, 9] [1] f57_12l
theorem f57_12e : aC P id m f57_12 sf st Q = runI P id m f57_12l (opsK [1, 3, 4, 9] [1] Q) sf st := rfl
def f57_13 : AC := .cond (.r 9) .skip (.exit [3] [] 0)
theorem f57_13e : aC P id m f57_13 sf st Q = condI (.r 9) (sf.ev id (.r 9)) (aC P id m .skip) (aC P id m (.exit [3] [] 0)) sf st Q := rfl
def f57_11 : AC := .seq f57_12 f57_13
theorem f57_11e : aC P id m f57_11 sf st Q = aC P id m f57_12 sf st (seqQ (aC P id m f57_13) Q) := rfl
def f57_16l : List GI := [vv 12 3,
    vd 13 1 66,
    vl 14 13,
    vv 15 4,
    ⟨none, .ixS (some 16) (.r 14) (.r 15) 3⟩,
    vd 17 16 2,
    vl 18 17,
    ⟨none, .mn (some 19) true (.r 12) (.r 18)⟩,
    vo 3 19]
def f57_16 : AC := .ops [1, 3, 4] [1] f57_16l
theorem f57_16e : aC P id m f57_16 sf st Q = runI P id m f57_16l (opsK [1, 3, 4] [1] Q) sf st := rfl
def f57_15 : AC := .block 1 f57_16
theorem f57_15e : aC P id m f57_15 sf st Q = aC P id m f57_16 sf st (blockQ 1 Q) := rfl
def f57_17l : List GI := [vv 10 4,
    vb 11 .add 10 1,
    vo 4 11]
def f57_17 : AC := .ops [1, 3, 4] [1] f57_17l
theorem f57_17e : aC P id m f57_17 sf st Q = runI P id m f57_17l (opsK [1, 3, 4] [1] Q) sf st := rfl
def f57_14 : AC := .seq f57_15 f57_17
theorem f57_14e : aC P id m f57_14 sf st Q = aC P id m f57_15 sf st (seqQ (aC P id m f57_17) Q) := rfl
def f57_10 : AC := .seq f57_11 f57_14
theorem f57_10e : aC P id m f57_10 sf st Q = aC P id m f57_11 sf st (seqQ (aC P id m f57_14) Q) := rfl
def f57_9 : AC := .loop [1, 3, 4] [1] f57_10
theorem f57_9w : aC P id m f57_9 sf st Q = loopI (aC P id m f57_10) [1, 3, 4] [1] sf st Q := rfl
def f57_8 : AC := .block 0 f57_9
theorem f57_8e : aC P id m f57_8 sf st Q = aC P id m f57_9 sf st (blockQ 0 Q) := rfl
def f57_6 : AC := .seq f57_7 f57_8
theorem f57_6e : aC P id m f57_6 sf st Q = aC P id m f57_7 sf st (seqQ (aC P id m f57_8) Q) := rfl
def f57_19l : List GI := [vv 20 3,
    vo 2 20]
def f57_19 : AC := .ops [2] [] f57_19l
theorem f57_19e : aC P id m f57_19 sf st Q = runI P id m f57_19l (opsK [2] [] Q) sf st := rfl
def f57_18 : AC := .seq f57_19 .ret
theorem f57_18e : aC P id m f57_18 sf st Q = aC P id m f57_19 sf st (seqQ (aC P id m .ret) Q) := rfl
def f57_5 : AC := .seq f57_6 f57_18
theorem f57_5e : aC P id m f57_5 sf st Q = aC P id m f57_6 sf st (seqQ (aC P id m f57_18) Q) := rfl
def f57_3 : AC := .seq f57_4 f57_5
theorem f57_3e : aC P id m f57_3 sf st Q = aC P id m f57_4 sf st (seqQ (aC P id m f57_5) Q) := rfl
def f57_1 : AC := .seq f57_2 f57_3
theorem f57_1e : aC P id m f57_1 sf st Q = aC P id m f57_2 sf st (seqQ (aC P id m f57_3) Q) := rfl
def c_f57 : AFun := ⟨21, [.tmp 2], f57_1⟩
theorem k_f57 : compF Go.Proofs.Try.prog x_f57 57 = some c_f57 := by kernel_rfl
theorem e_f57 : enterB Go.Proofs.Try.prog 57 = true := by kernel_rfl

def n_f59 : Nat := 59
def x_f59 : Cx := ⟨some, id, 12, fun s => ([0, 2, 3, 4, 5, 9, 10, 11] : List Nat).contains s, fun s => ([] : List Nat).contains s, msOf [(2, [0], []), (6, [2], [])]⟩
def f59_2l : List GI := [⟨none, .mv (some 2) (.c (.lit (.bool false)))⟩]
def f59_2 : AC := .ops [0] [] f59_2l
theorem f59_2e : aC P id m f59_2 sf st Q = runI P id m f59_2l (opsK [0] [] Q) sf st := rfl
def f59_4l : List GI := [vv 3 0,
    ⟨none, .bin (some 4) (.nil .ptr) .eql (.r 3) (.c (.lit (.pointer none)))⟩,
    vv 5 4,
    ⟨some (5, false), .mv (some 6) (.r 0)⟩,
    ⟨some (5, false), .nilck (some 7) (.r 6)⟩,
    ⟨some (5, false), .addr (some 8) (.r 7) 0⟩,
    ⟨some (5, false), .load (some 9) (.r 8) none⟩,
    ⟨some (5, false), .bin (some 10) .num .eql (.r 9) (.c (.lit (.int .i64 0)))⟩,
    ⟨none, .pick (some 11) (.r 5) (.c (.lit (.bool true))) (.r 10)⟩,
    vo 2 11]
def f59_4 : AC := .ops [2] [] f59_4l
theorem f59_4e : aC P id m f59_4 sf st Q = runI P id m f59_4l (opsK [2] [] Q) sf st := rfl
def f59_3 : AC := .seq f59_4 .ret
theorem f59_3e : aC P id m f59_3 sf st Q = aC P id m f59_4 sf st (seqQ (aC P id m .ret) Q) := rfl
def f59_1 : AC := .seq f59_2 f59_3
theorem f59_1e : aC P id m f59_1 sf st Q = aC P id m f59_2 sf st (seqQ (aC P id m f59_3) Q) := rfl
def c_f59 : AFun := ⟨12, [.tmp 2], f59_1⟩
theorem k_f59 : compF Go.Proofs.Try.prog x_f59 59 = some c_f59 := by kernel_rfl
theorem e_f59 : enterB Go.Proofs.Try.prog 59 = true := by kernel_rfl

def n_f60 : Nat := 60
def x_f60 : Cx := ⟨some, id, 9, fun s => ([0, 2, 3, 4, 5, 6, 7, 8] : List Nat).contains s, fun s => ([] : List Nat).contains s, msOf [(2, [0], []), (6, [2], [])]⟩
def f60_2l : List GI := [⟨none, .mv (some 2) (.c (.lit (.slice none 0 0)))⟩]
def f60_2 : AC := .ops [0] [] f60_2l
theorem f60_2e : aC P id m f60_2 sf st Q = runI P id m f60_2l (opsK [0] [] Q) sf st := rfl
def f60_4l : List GI := [vv 3 0,
    vv 4 0,
    ⟨none, .len (some 5) .sl (.r 4)⟩,
    vv 6 0,
    ⟨none, .len (some 7) .sl (.r 6)⟩,
    ⟨none, .sli3 (some 8) (.r 3) none (some (.r 5)) (.r 7) 1⟩,
    vo 2 8]
def f60_4 : AC := .ops [2] [] f60_4l
theorem f60_4e : aC P id m f60_4 sf st Q = runI P id m f60_4l (opsK [2] [] Q) sf st := rfl
def f60_3 : AC := .seq f60_4 .ret
theorem f60_3e : aC P id m f60_3 sf st Q = aC P id m f60_4 sf st (seqQ (aC P id m .ret) Q) := rfl
def f60_1 : AC := .seq f60_2 f60_3
theorem f60_1e : aC P id m f60_1 sf st Q = aC P id m f60_2 sf st (seqQ (aC P id m f60_3) Q) := rfl
def c_f60 : AFun := ⟨9, [.tmp 2], f60_1⟩
theorem k_f60 : compF Go.Proofs.Try.prog x_f60 60 = some c_f60 := by kernel_rfl
theorem e_f60 : enterB Go.Proofs.Try.prog 60 = true := by kernel_rfl

def n_f61 : Nat := 61
def x_f61 : Cx := ⟨some, id, 41, fun s => ([0, 1, 2, 6, 10, 11, 13, 14, 15, 16, 17, 18, 19, 20, 21, 22, 23, 24, 28, 29, 30, 31, 35, 36, 37, 38, 39] : List Nat).contains s, fun s => ([] : List Nat).contains s, msOf [(2, [0, 1, 2], []), (24, [0, 1, 2, 9], []), (100, [6], []), (102, [0, 1, 12], []), (412, [6], []), (28, [8], []), (58, [40], []), (236, [6], []), (30, [6], [])]⟩
def f61_2l : List GI := [⟨none, .mv (some 6) (.c (.lit (.int .i64 0)))⟩]
def f61_2 : AC := .ops [0, 1, 2] [] f61_2l
theorem f61_2e : aC P id m f61_2 sf st Q = runI P id m f61_2l (opsK [0, 1, 2] [] Q) sf st := rfl
def f61_6l : List GI := [vv 10 0,
    ⟨none, .call (some 11) false (.f 59) [(.r 10)]⟩,
    vo 9 11]
def f61_6 : AC := .ops [0, 1, 2, 9] [] f61_6l
theorem f61_6e : aC P id m f61_6 sf st Q = runI P id m f61_6l (opsK [0, 1, 2, 9] [] Q) sf st := rfl
def f61_9l : List GI := [⟨none, .mv (some 6) (.c (.lit (.int .i64 1)))⟩]
def f61_9 : AC := .ops [6] [] f61_9l
theorem f61_9e : aC P id m f61_9 sf st Q = runI P id m f61_9l (opsK [6] [] Q) sf st := rfl
def f61_8 : AC := .seq f61_9 .ret
theorem f61_8e : aC P id m f61_8 sf st Q = aC P id m f61_9 sf st (seqQ (aC P id m .ret) Q) := rfl
def f61_11l : List GI := [vv 13 1,
    vb 14 .lss 13 0,
    vv 15 14,
    ⟨some (15, false), .mv (some 16) (.r 1)⟩,
    ⟨some (15, false), .bin (some 17) .num .geq (.r 16) (.c (.lit (.int .i64 64)))⟩,
    ⟨none, .pick (some 18) (.r 15) (.c (.lit (.bool true))) (.r 17)⟩,
    vv 19 18,
    ⟨some (19, false), .mv (some 20) (.r 2)⟩,
    ⟨some (19, false), .bin (some 21) .num .lss (.r 20) (.c (.lit (.int .i64 1)))⟩,
    ⟨none, .pick (some 22) (.r 19) (.c (.lit (.bool true))) (.r 21)⟩,
    vv 23 22,
    ⟨some (23, false), .mv (some 24) (.r 2)⟩,
    ⟨some (23, false), .mv (some 25) (.r 0)⟩,
    ⟨some (23, false), .nilck (some 26) (.r 25)⟩,
    ⟨some (23, false), .addr (some 27) (.r 26) 0⟩,
    ⟨some (23, false), .load (some 28) (.r 27) none⟩,
    ⟨some (23, false), .bin (some 29) .num .gtr (.r 24) (.r 28)⟩,
    ⟨none, .pick (some 30) (.r 23) (.c (.lit (.bool true))) (.r 29)⟩,
    vo 12 30]
def f61_11 : AC := .ops [0, 1, 12] [] f61_11l
theorem f61_11e : aC P id m f61_11 sf st Q = runI P id m f61_11l (opsK [0, 1, 12] [] Q) sf st := rfl
def f61_14l : List GI := [⟨none, .mv (some 6) (.c (.lit (.int .i64 2)))⟩]
def f61_14 : AC := .ops [6] [] f61_14l
theorem f61_14e : aC P id m f61_14 sf st Q = runI P id m f61_14l (opsK [6] [] Q) sf st := rfl
def f61_13 : AC := .seq f61_14 .ret
theorem f61_13e : aC P id m f61_13 sf st Q = aC P id m f61_14 sf st (seqQ (aC P id m .ret) Q) := rfl
def f61_12 : AC := .cond (.r 12) f61_13 .skip
theorem f61_12e : aC P id m f61_12 sf st Q = condI (.r 12) (sf.ev id (.r 12)) (aC P id m f61_13) (aC P id m .skip) sf st Q := rfl
def f61_10 : AC := .seq f61_11 f61_12
theorem f61_10e : aC P id m f61_10 sf st Q = aC P id m f61_11 sf st (seqQ (aC P id m f61_12) Q) := rfl
def f61_7 : AC := .cond (.r 9) f61_8 f61_10
theorem f61_7e : aC P id m f61_7 sf st Q = condI (.r 9) (sf.ev id (.r 9)) (aC P id m f61_8) (aC P id m f61_10) sf st Q := rfl
def f61_5 : AC := .seq f61_6 f61_7
theorem f61_5e : aC P id m f61_5 sf st Q = aC P id m f61_6 sf st (seqQ (aC P id m f61_7) Q) := rfl
def f61_4 : AC := .block 0 f61_5
theorem f61_4e : aC P id m f61_4 sf st Q = aC P id m f61_5 sf st (blockQ 0 Q) := rfl
def f61_17l : List GI := [vv 32 0,
    vn 33 32,
    vd 34 33 68,
    vl 35 34,
    vv 36 1,
    ⟨none, .lookup (some 37) (.int .i64) (.agg [(.lit (.int .i64 0)), (.lit (.int .u64 0)), (.lit (.int .u64 0))]) true (.r 35) (.r 36)⟩,
    vv 31 37,
    ve 38 31 0,
    ve 39 31 1,
    ⟨none, .newL 7 [(.lit (.int .i64 0)), (.lit (.int .u64 0)), (.lit (.int .u64 0))]⟩,
    ⟨none, .store 3 (.r 7) (.r 38)⟩,
    vo 8 39]
def f61_17 : AC := .ops [8] [] f61_17l
theorem f61_17e : aC P id m f61_17 sf st Q = runI P id m f61_17l (opsK [8] [] Q) sf st := rfl
def f61_19l : List GI := [vv 40 8]
def f61_19 : AC := .ops [40] [] f61_19l
theorem f61_19e : aC P id m f61_19 sf st Q = runI P id m f61_19l (opsK [40] [] Q) sf st := rfl
def f61_22l : List GI := [⟨none, .mv (some 6) (.c (.lit (.int .i64 11)))⟩]
def f61_22 : AC := .ops [6] [] f61_22l
theorem f61_22e : aC P id m f61_22 sf st Q = runI P id m f61_22l (opsK [6] [] Q) sf st := rfl
def f61_21 : AC := .seq f61_22 .ret
theorem f61_21e : aC P id m f61_21 sf st Q = aC P id m f61_22 sf st (seqQ (aC P id m .ret) Q) := rfl
def f61_20 : AC := .cond (.r 40) f61_21 .skip
theorem f61_20e : aC P id m f61_20 sf st Q = condI (.r 40) (sf.ev id (.r 40)) (aC P id m f61_21) (aC P id m .skip) sf st Q := rfl
def f61_18 : AC := .seq f61_19 f61_20
theorem f61_18e : aC P id m f61_18 sf st Q = aC P id m f61_19 sf st (seqQ (aC P id m f61_20) Q) := rfl
def f61_16 : AC := .seq f61_17 f61_18
theorem f61_16e : aC P id m f61_16 sf st Q = aC P id m f61_17 sf st (seqQ (aC P id m f61_18) Q) := rfl
def f61_24l : List GI := [⟨none, .mv (some 6) (.c (.lit (.int .i64 0)))⟩]
def f61_24 : AC := .ops [6] [] f61_24l
theorem f61_24e : aC P id m f61_24 sf st Q = runI P id m f61_24l (opsK [6] [] Q) sf st := rfl
def f61_23 : AC := .seq f61_24 .ret
theorem f61_23e : aC P id m f61_23 sf st Q = aC P id m f61_24 sf st (seqQ (aC P id m .ret) Q) := rfl
def f61_15 : AC := .seq f61_16 f61_23
theorem f61_15e : aC P id m f61_15 sf st Q = aC P id m f61_16 sf st (seqQ (aC P id m f61_23) Q) := rfl
def f61_3 : AC := .seq f61_4 f61_15
theorem f61_3e : aC P id m f61_3 sf st Q = aC P id m f61_4 sf st (seqQ (aC P id m f61_15) Q) := rfl
def f61_1 : AC := .seq f61_2 f61_3
theorem f61_1e : aC P id m f61_1 sf st Q = aC P id m f61_2 sf st (seqQ (aC P id m f61_3) Q) := rfl
def c_f61 : AFun := ⟨41, [.tmp 6], f61_1⟩
theorem k_f61 : compF Go.Proofs.Try.prog x_f61 61 = some c_f61 := by kernel_rfl
theorem e_f61 : enterB Go.Proofs.Try.prog 61 = true := by kernel_rfl

def n_f62 : Nat := 62
def x_f62 : Cx := ⟨some, id, 12, fun s => ([0, 1, 4, 5, 6, 7, 8, 9, 10, 11] : List Nat).contains s, fun s => ([] : List Nat).contains s, msOf [(2, [0, 1], []), (6, [4], [])]⟩
def f62_2l : List GI := [⟨none, .mv (some 4) (.c (.lit (.bool false)))⟩]
def f62_2 : AC := .ops [0, 1] [] f62_2l
theorem f62_2e : aC P id m f62_2 sf st Q = runI P id m f62_2l (opsK [0, 1] [] Q) sf st := rfl
def f62_4l : List GI := [vv 5 1,
    ⟨none, .bin (some 6) .num .neq (.r 5) (.c (.lit (.int .u64 18446744073709551615)))⟩,
    vv 7 6,
    ⟨some (7, true), .mv (some 8) (.r 0)⟩,
    ⟨some (7, true), .mv (some 9) (.r 1)⟩,
    ⟨some (7, true), .bin (some 10) .num .leq (.r 8) (.r 9)⟩,
    ⟨none, .pick (some 11) (.r 7) (.r 10) (.c (.lit (.bool false)))⟩,
    vo 4 11]
def f62_4 : AC := .ops [4] [] f62_4l
theorem f62_4e : aC P id m f62_4 sf st Q = runI P id m f62_4l (opsK [4] [] Q) sf st := rfl
def f62_3 : AC := .seq f62_4 .ret
theorem f62_3e : aC P id m f62_3 sf st Q = aC P id m f62_4 sf st (seqQ (aC P id m .ret) Q) := rfl
def f62_1 : AC := .seq f62_2 f62_3
theorem f62_1e : aC P id m f62_1 sf st Q = aC P id m f62_2 sf st (seqQ (aC P id m f62_3) Q) := rfl
def c_f62 : AFun := ⟨12, [.tmp 4], f62_1⟩
theorem k_f62 : compF Go.Proofs.Try.prog x_f62 62 = some c_f62 := by kernel_rfl
theorem e_f62 : enterB Go.Proofs.Try.prog 62 = true := by kernel_rfl

def n_f63 : Nat := 63
def x_f63 : Cx := ⟨some, id, 25, fun s => ([1, 2, 7, 11, 12, 13, 20, 21, 22] : List Nat).contains s, fun s => ([] : List Nat).contains s, msOf [(2, [0, 2], []), (3, [], [])]⟩
def f63_2h : List GI := [vv 6 0,
    vv 7 1,
    vn 8 6,
    vd 9 8 3,
    ⟨none, .ixA (some 10) (.r 9) (.r 7) 64 1⟩,
    vl 11 10,
    vv 12 2,
    ⟨none, .bin (some 13) .num .add (.r 11) (.r 12)⟩,
    vn 14 6,
    vd 15 14 3]
def f63_2l : List GI := [⟨none, .ixA (some 16) (.r 15) (.r 7) 64 1⟩,
    ⟨none, .store 1 (.r 16) (.r 13)⟩]
def f63_2 : AC := .draw [0, 2] [] [] f63_2h f63_2l
theorem f63_2e : aC P id m f63_2 sf st Q = headI P id sf.locs st f63_2h (tailK P id m [] [0, 2] [] f63_2l Q st) [] ⟨sf.regs, dropL [] sf.locs⟩ := rfl
def f63_3l : List GI := [vv 17 0,
    vn 18 17,
    vd 19 18 1,
    vl 20 19,
    vv 21 2,
    ⟨none, .bin (some 22) .num .sub (.r 20) (.r 21)⟩,
    vn 23 17,
    vd 24 23 1,
    ⟨none, .store 1 (.r 24) (.r 22)⟩]
def f63_3 : AC := .ops [] [] f63_3l
theorem f63_3e : aC P id m f63_3 sf st Q = runI P id m f63_3l (opsK [] [] Q) sf st := rfl
def f63_1 : AC := .seq f63_2 f63_3
theorem f63_1e : aC P id m f63_1 sf st Q = aC P id m f63_2 sf st (seqQ (aC P id m f63_3) Q) := rfl
def c_f63 : AFun := ⟨25, [], f63_1⟩
theorem k_f63 : compF Go.Proofs.Try.prog x_f63 63 = some c_f63 := by kernel_rfl
theorem e_f63 : enterB Go.Proofs.Try.prog 63 = true := by kernel_rfl

def n_f64 : Nat := 64
def x_f64 : Cx := ⟨some, id, 51, fun s => ([0, 1, 4, 5, 12, 13, 15, 19, 20, 21, 22, 23, 27, 28, 29, 31, 35, 37, 38, 40, 41, 43, 45, 46, 47, 48, 49, 50] : List Nat).contains s, fun s => ([49] : List Nat).contains s, msOf [(2, [0, 1], []), (12, [0, 1], []), (96, [0, 1, 14], []), (195, [1], []), (196, [0, 1, 5], []), (394, [0, 1, 5, 8], [8]), (1580, [0, 1, 5, 8, 36], [8]), (3162, [1], []), (1582, [0, 1, 5, 8], [8]), (3166, [0, 1, 5], []), (3167, [0, 1], []), (14, [4], [])]⟩
def f64_2l : List GI := [⟨none, .mv (some 4) (.c (.lit (.slice none 0 0)))⟩]
def f64_2 : AC := .ops [0, 1] [] f64_2l
theorem f64_2e : aC P id m f64_2 sf st Q = runI P id m f64_2l (opsK [0, 1] [] Q) sf st := rfl
def f64_8l : List GI := [vv 9 0,
    vn 10 9,
    vd 11 10 67,
    vl 12 11,
    ⟨none, .call (some 13) false (.f 47) [(.r 12)]⟩,
    vb 14 .gtr 13 0]
def f64_8 : AC := .ops [0, 1, 14] [] f64_8l
theorem f64_8e : aC P id m f64_8 sf st Q = runI P id m f64_8l (opsK [0, 1, 14] [] Q) sf st := rfl
def f64_9 : AC := .cond (.r 14) .skip (.exit [1] [] 0)
theorem f64_9e : aC P id m f64_9 sf st Q = condI (.r 14) (sf.ev id (.r 14)) (aC P id m .skip) (aC P id m (.exit [1] [] 0)) sf st Q := rfl
def f64_7 : AC := .seq f64_8 f64_9
theorem f64_7e : aC P id m f64_7 sf st Q = aC P id m f64_8 sf st (seqQ (aC P id m f64_9) Q) := rfl
def f64_12l : List GI := [vv 16 0,
    vn 17 16,
    vd 18 17 67,
    vl 19 18,
    ⟨none, .call (some 20) false (.f 70) [(.r 19)]⟩,
    vv 15 20,
    ve 21 15 0,
    ve 22 15 1,
    ve 23 15 2,
    vo 5 21,
    vo 6 22,
    vo 7 23]
def f64_12 : AC := .ops [0, 1, 5] [] f64_12l
theorem f64_12e : aC P id m f64_12 sf st Q = runI P id m f64_12l (opsK [0, 1, 5] [] Q) sf st := rfl
def f64_14l : List GI := [vv 24 0,
    vn 25 24,
    vd 26 25 68,
    vl 27 26,
    vv 28 5,
    ⟨none, .lookup (some 29) (.int .i64) (.agg [(.lit (.int .i64 0)), (.lit (.int .u64 0)), (.lit (.int .u64 0))]) false (.r 27) (.r 28)⟩,
    ⟨none, .newL 8 [(.lit (.int .i64 0)), (.lit (.int .u64 0)), (.lit (.int .u64 0))]⟩,
    ⟨none, .store 3 (.r 8) (.r 29)⟩]
def f64_14 : AC := .ops [0, 1, 5, 8] [8] f64_14l
theorem f64_14e : aC P id m f64_14 sf st Q = runI P id m f64_14l (opsK [0, 1, 5, 8] [8] Q) sf st := rfl
def f64_17h : List GI := [vd 30 8 0,
    vl 31 30,
    vv 32 0,
    vn 33 32,
    vd 34 33 1,
    vl 35 34]
def f64_17l : List GI := [⟨none, .bin (some 36) .num .gtr (.r 31) (.r 35)⟩]
def f64_17 : AC := .draw [0, 1, 5, 8, 36] [8] [] f64_17h f64_17l
theorem f64_17e : aC P id m f64_17 sf st Q = headI P id sf.locs st f64_17h (tailK P id m [] [0, 1, 5, 8, 36] [8] f64_17l Q st) [] ⟨sf.regs, dropL [] sf.locs⟩ := rfl
def f64_18 : AC := .cond (.r 36) (.exit [1] [] 0) .skip
theorem f64_18e : aC P id m f64_18 sf st Q = condI (.r 36) (sf.ev id (.r 36)) (aC P id m (.exit [1] [] 0)) (aC P id m .skip) sf st Q := rfl
def f64_16 : AC := .seq f64_17 f64_18
theorem f64_16e : aC P id m f64_16 sf st Q = aC P id m f64_17 sf st (seqQ (aC P id m f64_18) Q) := rfl
def f64_20l : List GI := [vv 37 0,
    vv 38 5,
    ⟨none, .call (some 39) false (.f 65) [(.r 37), (.r 38)]⟩]
def f64_20 : AC := .ops [0, 1, 5, 8] [8] f64_20l
theorem f64_20e : aC P id m f64_20 sf st Q = runI P id m f64_20l (opsK [0, 1, 5, 8] [8] Q) sf st := rfl
def f64_22l : List GI := [vv 40 0,
    vv 41 5,
    vd 42 8 0,
    vl 43 42,
    ⟨none, .call (some 44) false (.f 63) [(.r 40), (.r 41), (.r 43)]⟩]
def f64_22 : AC := .ops [0, 1, 5] [] f64_22l
theorem f64_22e : aC P id m f64_22 sf st Q = runI P id m f64_22l (opsK [0, 1, 5] [] Q) sf st := rfl
def f64_23l : List GI := [vo 45 1,
    vv 46 5,
    ⟨none, .bst (some 47) [(0, 1), (1, 1)] (.agg [(.lit (.int .i64 0)), (.lit (.int .i64 0))]) [(0, (.r 46))]⟩,
    ⟨none, .bsl (some 48) 2 1 (.agg [(.lit (.int .i64 0)), (.lit (.int .i64 0))]) [(0, (.r 47))]⟩,
    ⟨none, .x (some 49) (.appB (.r 45) 2 16 (.r 48))⟩,
    vo 1 49]
def f64_23 : AC := .ops [0, 1] [] f64_23l
theorem f64_23e : aC P id m f64_23 sf st Q = runI P id m f64_23l (opsK [0, 1] [] Q) sf st := rfl
def f64_21 : AC := .seq f64_22 f64_23
theorem f64_21e : aC P id m f64_21 sf st Q = aC P id m f64_22 sf st (seqQ (aC P id m f64_23) Q) := rfl
def f64_19 : AC := .seq f64_20 f64_21
theorem f64_19e : aC P id m f64_19 sf st Q = aC P id m f64_20 sf st (seqQ (aC P id m f64_21) Q) := rfl
def f64_15 : AC := .seq f64_16 f64_19
theorem f64_15e : aC P id m f64_15 sf st Q = aC P id m f64_16 sf st (seqQ (aC P id m f64_19) Q) := rfl
def f64_13 : AC := .seq f64_14 f64_15
theorem f64_13e : aC P id m f64_13 sf st Q = aC P id m f64_14 sf st (seqQ (aC P id m f64_15) Q) := rfl
def f64_11 : AC := .seq f64_12 f64_13
theorem f64_11e : aC P id m f64_11 sf st Q = aC P id m f64_12 sf st (seqQ (aC P id m f64_13) Q) := rfl
def f64_10 : AC := .block 1 f64_11
theorem f64_10e : aC P id m f64_10 sf st Q = aC P id m f64_11 sf st (blockQ 1 Q) := rfl
def f64_6 : AC := .seq f64_7 f64_10
theorem f64_6e : aC P id m f64_6 sf st Q = aC P id m f64_7 sf st (seqQ (aC P id m f64_10) Q) := rfl
def f64_5 : AC := .loop [0, 1] [] f64_6
theorem f64_5w : aC P id m f64_5 sf st Q = loopI (aC P id m f64_6) [0, 1] [] sf st Q := rfl
def f64_4 : AC := .block 0 f64_5
theorem f64_4e : aC P id m f64_4 sf st Q = aC P id m f64_5 sf st (blockQ 0 Q) := rfl
def f64_25l : List GI := [vv 50 1,
    vo 4 50]
def f64_25 : AC := .ops [4] [] f64_25l
theorem f64_25e : aC P id m f64_25 sf st Q = runI P id m f64_25l (opsK [4] [] Q) sf st := rfl
def f64_24 : AC := .seq f64_25 .ret
theorem f64_24e : aC P id m f64_24 sf st Q = aC P id m f64_25 sf st (seqQ (aC P id m .ret) Q) := rfl
def f64_3 : AC := .seq f64_4 f64_24
theorem f64_3e : aC P id m f64_3 sf st Q = aC P id m f64_4 sf st (seqQ (aC P id m f64_24) Q) := rfl
def f64_1 : AC := .seq f64_2 f64_3
theorem f64_1e : aC P id m f64_1 sf st Q = aC P id m f64_2 sf st (seqQ (aC P id m f64_3) Q) := rfl
def c_f64 : AFun := ⟨51, [.tmp 4], f64_1⟩
theorem k_f64 : compF Go.Proofs.Try.prog x_f64 64 = some c_f64 := by kernel_rfl
theorem e_f64 : enterB Go.Proofs.Try.prog 64 = true := by kernel_rfl

def n_f65 : Nat := 65
def x_f65 : Cx := ⟨some, id, 21, fun s => ([1, 7, 11, 12, 13, 14, 19, 20] : List Nat).contains s, fun s => ([] : List Nat).contains s, msOf [(2, [0, 1], []), (3, [], [])]⟩
def f65_2h : List GI := [vv 4 0,
    vn 5 4,
    vd 6 5 67,
    vl 7 6,
    vv 8 0,
    vn 9 8,
    vd 10 9 68,
    vl 11 10,
    vv 12 1,
    ⟨none, .lookup (some 13) (.int .i64) (.agg [(.lit (.int .i64 0)), (.lit (.int .u64 0)), (.lit (.int .u64 0))]) false (.r 11) (.r 12)⟩,
    ⟨none, .field (some 14) (.r 13) 2 none⟩]
def f65_2l : List GI := [⟨none, .call (some 15) false (.f 51) [(.r 7), (.r 14)]⟩]
def f65_2 : AC := .draw [0, 1] [] [] f65_2h f65_2l
theorem f65_2e : aC P id m f65_2 sf st Q = headI P id sf.locs st f65_2h (tailK P id m [] [0, 1] [] f65_2l Q st) [] ⟨sf.regs, dropL [] sf.locs⟩ := rfl
def f65_3l : List GI := [vv 16 0,
    vn 17 16,
    vd 18 17 68,
    vl 19 18,
    vv 20 1,
    ⟨none, .del (.int .i64) (.r 19) (.r 20)⟩]
def f65_3 : AC := .ops [] [] f65_3l
theorem f65_3e : aC P id m f65_3 sf st Q = runI P id m f65_3l (opsK [] [] Q) sf st := rfl
def f65_1 : AC := .seq f65_2 f65_3
theorem f65_1e : aC P id m f65_1 sf st Q = aC P id m f65_2 sf st (seqQ (aC P id m f65_3) Q) := rfl
def c_f65 : AFun := ⟨21, [], f65_1⟩
theorem k_f65 : compF Go.Proofs.Try.prog x_f65 65 = some c_f65 := by kernel_rfl
theorem e_f65 : enterB Go.Proofs.Try.prog 65 = true := by kernel_rfl

def n_f66 : Nat := 66
def x_f66 : Cx := ⟨some, id, 8, fun s => ([0, 2, 3, 4, 6, 7] : List Nat).contains s, fun s => ([] : List Nat).contains s, msOf [(2, [0], []), (12, [0, 5], []), (52, [2], []), (14, [2], [])]⟩
def f66_2l : List GI := [⟨none, .mv (some 2) (.c (.lit (.int .u64 0)))⟩]
def f66_2 : AC := .ops [0] [] f66_2l
theorem f66_2e : aC P id m f66_2 sf st Q = runI P id m f66_2l (opsK [0] [] Q) sf st := rfl
def f66_5l : List GI := [vv 3 0,
    ⟨none, .len (some 4) .sl (.r 3)⟩,
    vb 5 .eql 4 0]
def f66_5 : AC := .ops [0, 5] [] f66_5l
theorem f66_5e : aC P id m f66_5 sf st Q = runI P id m f66_5l (opsK [0, 5] [] Q) sf st := rfl
def f66_8l : List GI := [⟨none, .mv (some 2) (.c (.lit (.int .u64 18446744073709551615)))⟩]
def f66_8 : AC := .ops [2] [] f66_8l
theorem f66_8e : aC P id m f66_8 sf st Q = runI P id m f66_8l (opsK [2] [] Q) sf st := rfl
def f66_7 : AC := .seq f66_8 .ret
theorem f66_7e : aC P id m f66_7 sf st Q = aC P id m f66_8 sf st (seqQ (aC P id m .ret) Q) := rfl
def f66_6 : AC := .cond (.r 5) f66_7 .skip
theorem f66_6e : aC P id m f66_6 sf st Q = condI (.r 5) (sf.ev id (.r 5)) (aC P id m f66_7) (aC P id m .skip) sf st Q := rfl
def f66_4 : AC := .seq f66_5 f66_6
theorem f66_4e : aC P id m f66_4 sf st Q = aC P id m f66_5 sf st (seqQ (aC P id m f66_6) Q) := rfl
def f66_10l : List GI := [vv 6 0,
    ⟨none, .call (some 7) false (.f 76) [(.r 6)]⟩,
    vo 2 7]
def f66_10 : AC := .ops [2] [] f66_10l
theorem f66_10e : aC P id m f66_10 sf st Q = runI P id m f66_10l (opsK [2] [] Q) sf st := rfl
def f66_9 : AC := .seq f66_10 .ret
theorem f66_9e : aC P id m f66_9 sf st Q = aC P id m f66_10 sf st (seqQ (aC P id m .ret) Q) := rfl
def f66_3 : AC := .seq f66_4 f66_9
theorem f66_3e : aC P id m f66_3 sf st Q = aC P id m f66_4 sf st (seqQ (aC P id m f66_9) Q) := rfl
def f66_1 : AC := .seq f66_2 f66_3
theorem f66_1e : aC P id m f66_1 sf st Q = aC P id m f66_2 sf st (seqQ (aC P id m f66_3) Q) := rfl
def c_f66 : AFun := ⟨8, [.tmp 2], f66_1⟩
theorem k_f66 : compF Go.Proofs.Try.prog x_f66 66 = some c_f66 := by kernel_rfl
theorem e_f66 : enterB Go.Proofs.Try.prog 66 = true := by kernel_rfl

def n_f67 : Nat := 67
def x_f67 : Cx := ⟨some, id, 16, fun s => ([0, 2, 3, 8, 12, 13, 14, 15] : List Nat).contains s, fun s => ([13] : List Nat).contains s, msOf [(2, [0], []), (12, [0, 4], []), (52, [2], []), (14, [2], [])]⟩
def f67_2l : List GI := [⟨none, .mv (some 2) (.c (.lit (.pointer none)))⟩]
def f67_2 : AC := .ops [0] [] f67_2l
theorem f67_2e : aC P id m f67_2 sf st Q = runI P id m f67_2l (opsK [0] [] Q) sf st := rfl
def f67_5l : List GI := [vv 3 0,
    ⟨none, .call (some 4) false (.f 68) [(.r 3)]⟩]
def f67_5 : AC := .ops [0, 4] [] f67_5l
theorem f67_5e : aC P id m f67_5 sf st Q = runI P id m f67_5l (opsK [0, 4] [] Q) sf st := rfl
def f67_8l : List GI := [⟨none, .mv (some 2) (.c (.lit (.pointer none)))⟩]
def f67_8 : AC := .ops [2] [] f67_8l
theorem f67_8e : aC P id m f67_8 sf st Q = runI P id m f67_8l (opsK [2] [] Q) sf st := rfl
def f67_7 : AC := .seq f67_8 .ret
theorem f67_7e : aC P id m f67_7 sf st Q = aC P id m f67_8 sf st (seqQ (aC P id m .ret) Q) := rfl
def f67_6 : AC := .cond (.r 4) f67_7 .skip
theorem f67_6e : aC P id m f67_6 sf st Q = condI (.r 4) (sf.ev id (.r 4)) (aC P id m f67_7) (aC P id m .skip) sf st Q := rfl
def f67_4 : AC := .seq f67_5 f67_6
theorem f67_4e : aC P id m f67_4 sf st Q = aC P id m f67_5 sf st (seqQ (aC P id m f67_6) Q) := rfl
def f67_10h : List GI := [vv 5 0,
    vn 6 5,
    vd 7 6 0,
    ⟨none, .load (some 8) (.r 7) (some 3)⟩,
    vv 9 0,
    vn 10 9,
    vd 11 10 3,
    vl 12 11]
def f67_10p : List (Bool × GI) := []
def f67_10l : List GI := [⟨none, .bst (some 14) [(0, 3), (3, 1)] (.agg [(.lit (.int .u64 0)), (.lit (.int .u64 0)), (.lit (.int .u64 0)), (.lit (.map none))]) [(0, (.r 8)), (1, (.r 13))]⟩,
    ⟨none, .boxB 15 4 (.r 14)⟩,
    vo 2 15]
def f67_10 : AC := .drawM [2] [] f67_10h (some 13) (.f 77) [(.r 12)] f67_10p f67_10l
theorem f67_10e : aC P id m f67_10 sf st Q = (m = false ∧ drawM P id f67_10h (some 13) (.f 77) [(.r 12)] f67_10p sf st (tailM P id m [2] [] f67_10l Q)) := rfl
def f67_9 : AC := .seq f67_10 .ret
theorem f67_9e : aC P id m f67_9 sf st Q = aC P id m f67_10 sf st (seqQ (aC P id m .ret) Q) := rfl
def f67_3 : AC := .seq f67_4 f67_9
theorem f67_3e : aC P id m f67_3 sf st Q = aC P id m f67_4 sf st (seqQ (aC P id m f67_9) Q) := rfl
def f67_1 : AC := .seq f67_2 f67_3
theorem f67_1e : aC P id m f67_1 sf st Q = aC P id m f67_2 sf st (seqQ (aC P id m f67_3) Q) := rfl
def c_f67 : AFun := ⟨16, [.tmp 2], f67_1⟩
theorem k_f67 : compF Go.Proofs.Try.prog x_f67 67 = some c_f67 := by kernel_rfl
theorem e_f67 : enterB Go.Proofs.Try.prog 67 = true := by kernel_rfl

def n_f68 : Nat := 68
def x_f68 : Cx := ⟨some, id, 12, fun s => ([0, 2, 3, 4, 5, 9, 10, 11] : List Nat).contains s, fun s => ([] : List Nat).contains s, msOf [(2, [0], []), (6, [2], [])]⟩
def f68_2l : List GI := [⟨none, .mv (some 2) (.c (.lit (.bool false)))⟩]
def f68_2 : AC := .ops [0] [] f68_2l
theorem f68_2e : aC P id m f68_2 sf st Q = runI P id m f68_2l (opsK [0] [] Q) sf st := rfl
def f68_4l : List GI := [vv 3 0,
    ⟨none, .bin (some 4) (.nil .ptr) .eql (.r 3) (.c (.lit (.pointer none)))⟩,
    vv 5 4,
    ⟨some (5, false), .mv (some 6) (.r 0)⟩,
    ⟨some (5, false), .nilck (some 7) (.r 6)⟩,
    ⟨some (5, false), .addr (some 8) (.r 7) 3⟩,
    ⟨some (5, false), .load (some 9) (.r 8) none⟩,
    ⟨some (5, false), .bin (some 10) (.nil .mp) .eql (.r 9) (.c (.lit (.map none)))⟩,
    ⟨none, .pick (some 11) (.r 5) (.c (.lit (.bool true))) (.r 10)⟩,
    vo 2 11]
def f68_4 : AC := .ops [2] [] f68_4l
theorem f68_4e : aC P id m f68_4 sf st Q = runI P id m f68_4l (opsK [2] [] Q) sf st := rfl
def f68_3 : AC := .seq f68_4 .ret
theorem f68_3e : aC P id m f68_3 sf st Q = aC P id m f68_4 sf st (seqQ (aC P id m .ret) Q) := rfl
def f68_1 : AC := .seq f68_2 f68_3
theorem f68_1e : aC P id m f68_1 sf st Q = aC P id m f68_2 sf st (seqQ (aC P id m f68_3) Q) := rfl
def c_f68 : AFun := ⟨12, [.tmp 2], f68_1⟩
theorem k_f68 : compF Go.Proofs.Try.prog x_f68 68 = some c_f68 := by kernel_rfl
theorem e_f68 : enterB Go.Proofs.Try.prog 68 = true := by kernel_rfl

def n_f69 : Nat := 69
def x_f69 : Cx := ⟨some, id, 31, fun s => ([0, 3, 4, 10, 11, 16, 17, 18, 19, 20, 21, 25, 26, 27, 28, 29] : List Nat).contains s, fun s => ([] : List Nat).contains s, msOf [(4, [0, 1, 5], []), (6, [0, 1, 3], []), (14, [0, 1, 3], []), (112, [0, 1, 3, 12], []), (227, [], []), (456, [0, 1, 3, 30], []), (115, [0, 1, 3], [])]⟩
def f69_3l : List GI := [vl 4 1,
    ⟨none, .bin (some 5) (.nil .ptr) .eql (.r 4) (.c (.lit (.pointer none)))⟩]
def f69_3 : AC := .ops [0, 1, 5] [] f69_3l
theorem f69_3e : aC P id m f69_3 sf st Q = runI P id m f69_3l (opsK [0, 1, 5] [] Q) sf st := rfl
def f69_4 : AC := .cond (.r 5) .ret .skip
theorem f69_4e : aC P id m f69_4 sf st Q = condI (.r 5) (sf.ev id (.r 5)) (aC P id m .ret) (aC P id m .skip) sf st Q := rfl
def f69_2 : AC := .seq f69_3 f69_4
theorem f69_2e : aC P id m f69_2 sf st Q = aC P id m f69_3 sf st (seqQ (aC P id m f69_4) Q) := rfl
def f69_6l : List GI := [vl 6 1,
    vn 7 6,
    vd 8 7 0,
    vd 9 8 0,
    vl 10 9,
    vo 3 10]
def f69_6 : AC := .ops [0, 1, 3] [] f69_6l
theorem f69_6e : aC P id m f69_6 sf st Q = runI P id m f69_6l (opsK [0, 1, 3] [] Q) sf st := rfl
def f69_11l : List GI := [vv 11 3,
    ⟨none, .bin (some 12) .num .neq (.r 11) (.c (.lit (.int .u64 0)))⟩]
def f69_11 : AC := .ops [0, 1, 3, 12] [] f69_11l
theorem f69_11e : aC P id m f69_11 sf st Q = runI P id m f69_11l (opsK [0, 1, 3, 12] [] Q) sf st := rfl
def f69_12 : AC := .cond (.r 12) .skip (.exit [] [] 0)
theorem f69_12e : aC P id m f69_12 sf st Q = condI (.r 12) (sf.ev id (.r 12)) (aC P id m .skip) (aC P id m (.exit [] [] 0)) sf st Q := rfl
def f69_10 : AC := .seq f69_11 f69_12
theorem f69_10e : aC P id m f69_10 sf st Q = aC P id m f69_11 sf st (seqQ (aC P id m f69_12) Q) := rfl
def f69_16l : List GI := [vv 20 0,
    vv 21 3,
    vl 22 1,
    vn 23 22,
    vd 24 23 3,
    vl 25 24,
    vv 26 3,
    ⟨none, .lookup (some 27) (.int .u64) (.agg [(.lit (.int .i64 0)), (.lit (.int .u64 0)), (.lit (.int .u64 0))]) false (.r 25) (.r 26)⟩,
    ⟨none, .field (some 28) (.r 27) 0 none⟩,
    ⟨none, .call (some 29) false (.r 20) [(.r 21), (.r 28)]⟩,
    ⟨none, .un (some 30) .not (.r 29)⟩]
def f69_16 : AC := .ops [0, 1, 3, 30] [] f69_16l
theorem f69_16e : aC P id m f69_16 sf st Q = runI P id m f69_16l (opsK [0, 1, 3, 30] [] Q) sf st := rfl
def f69_17 : AC := .cond (.r 30) .ret .skip
theorem f69_17e : aC P id m f69_17 sf st Q = condI (.r 30) (sf.ev id (.r 30)) (aC P id m .ret) (aC P id m .skip) sf st Q := rfl
def f69_15 : AC := .seq f69_16 f69_17
theorem f69_15e : aC P id m f69_15 sf st Q = aC P id m f69_16 sf st (seqQ (aC P id m f69_17) Q) := rfl
def f69_14 : AC := .block 1 f69_15
theorem f69_14e : aC P id m f69_14 sf st Q = aC P id m f69_15 sf st (blockQ 1 Q) := rfl
def f69_18l : List GI := [vl 13 1,
    vn 14 13,
    vd 15 14 3,
    vl 16 15,
    vv 17 3,
    ⟨none, .lookup (some 18) (.int .u64) (.agg [(.lit (.int .i64 0)), (.lit (.int .u64 0)), (.lit (.int .u64 0))]) false (.r 16) (.r 17)⟩,
    ⟨none, .field (some 19) (.r 18) 2 none⟩,
    vo 3 19]
def f69_18 : AC := .ops [0, 1, 3] [] f69_18l
theorem f69_18e : aC P id m f69_18 sf st Q = runI P id m f69_18l (opsK [0, 1, 3] [] Q) sf st := rfl
def f69_13 : AC := .seq f69_14 f69_18
theorem f69_13e : aC P id m f69_13 sf st Q = aC P id m f69_14 sf st (seqQ (aC P id m f69_18) Q) := rfl
def f69_9 : AC := .seq f69_10 f69_13
theorem f69_9e : aC P id m f69_9 sf st Q = aC P id m f69_10 sf st (seqQ (aC P id m f69_13) Q) := rfl
def f69_8 : AC := .loop [0, 1, 3] [] f69_9
theorem f69_8w : aC P id m f69_8 sf st Q = loopI (aC P id m f69_9) [0, 1, 3] [] sf st Q := rfl
def f69_7 : AC := .block 0 f69_8
theorem f69_7e : aC P id m f69_7 sf st Q = aC P id m f69_8 sf st (blockQ 0 Q) := rfl
def f69_5 : AC := .seq f69_6 f69_7
theorem f69_5e : aC P id m f69_5 sf st Q = aC P id m f69_6 sf st (seqQ (aC P id m f69_7) Q) := rfl
def f69_1 : AC := .seq f69_2 f69_5
theorem f69_1e : aC P id m f69_1 sf st Q = aC P id m f69_2 sf st (seqQ (aC P id m f69_5) Q) := rfl
def c_f69 : AFun := ⟨31, [], f69_1⟩
theorem k_f69 : compF Go.Proofs.Try.prog x_f69 69 = some c_f69 := by kernel_rfl
theorem e_f69 : enterB Go.Proofs.Try.prog 69 = true := by kernel_rfl

def n_f70 : Nat := 70
def x_f70 : Cx := ⟨some, id, 31, fun s => ([0, 2, 3, 4, 6, 7, 13, 14, 18, 23, 24, 25, 30] : List Nat).contains s, fun s => ([] : List Nat).contains s, msOf [(2, [0], []), (24, [0, 5], []), (100, [2, 3, 4], []), (102, [0, 8], []), (412, [2, 3, 4], []), (14, [2, 3, 4], [])]⟩
def f70_2l : List GI := [⟨none, .mv (some 2) (.c (.lit (.int .i64 0)))⟩,
    ⟨none, .mv (some 3) (.c (.lit (.int .u64 0)))⟩,
    ⟨none, .mv (some 4) (.c (.lit (.int .i64 0)))⟩]
def f70_2 : AC := .ops [0] [] f70_2l
theorem f70_2e : aC P id m f70_2 sf st Q = runI P id m f70_2l (opsK [0] [] Q) sf st := rfl
def f70_6l : List GI := [vv 6 0,
    ⟨none, .call (some 7) false (.f 68) [(.r 6)]⟩,
    vo 5 7]
def f70_6 : AC := .ops [0, 5] [] f70_6l
theorem f70_6e : aC P id m f70_6 sf st Q = runI P id m f70_6l (opsK [0, 5] [] Q) sf st := rfl
def f70_9l : List GI := [⟨none, .mv (some 2) (.c (.lit (.int .i64 0)))⟩,
    ⟨none, .mv (some 3) (.c (.lit (.int .u64 0)))⟩,
    ⟨none, .mv (some 4) (.c (.lit (.int .i64 1)))⟩]
def f70_9 : AC := .ops [2, 3, 4] [] f70_9l
theorem f70_9e : aC P id m f70_9 sf st Q = runI P id m f70_9l (opsK [2, 3, 4] [] Q) sf st := rfl
def f70_8 : AC := .seq f70_9 .ret
theorem f70_8e : aC P id m f70_8 sf st Q = aC P id m f70_9 sf st (seqQ (aC P id m .ret) Q) := rfl
def f70_11l : List GI := [vv 9 0,
    vn 10 9,
    vd 11 10 0,
    vd 12 11 0,
    vl 13 12,
    ⟨none, .bin (some 14) .num .eql (.r 13) (.c (.lit (.int .u64 0)))⟩,
    vo 8 14]
def f70_11 : AC := .ops [0, 8] [] f70_11l
theorem f70_11e : aC P id m f70_11 sf st Q = runI P id m f70_11l (opsK [0, 8] [] Q) sf st := rfl
def f70_14l : List GI := [⟨none, .mv (some 2) (.c (.lit (.int .i64 0)))⟩,
    ⟨none, .mv (some 3) (.c (.lit (.int .u64 0)))⟩,
    ⟨none, .mv (some 4) (.c (.lit (.int .i64 9)))⟩]
def f70_14 : AC := .ops [2, 3, 4] [] f70_14l
theorem f70_14e : aC P id m f70_14 sf st Q = runI P id m f70_14l (opsK [2, 3, 4] [] Q) sf st := rfl
def f70_13 : AC := .seq f70_14 .ret
theorem f70_13e : aC P id m f70_13 sf st Q = aC P id m f70_14 sf st (seqQ (aC P id m .ret) Q) := rfl
def f70_12 : AC := .cond (.r 8) f70_13 .skip
theorem f70_12e : aC P id m f70_12 sf st Q = condI (.r 8) (sf.ev id (.r 8)) (aC P id m f70_13) (aC P id m .skip) sf st Q := rfl
def f70_10 : AC := .seq f70_11 f70_12
theorem f70_10e : aC P id m f70_10 sf st Q = aC P id m f70_11 sf st (seqQ (aC P id m f70_12) Q) := rfl
def f70_7 : AC := .cond (.r 5) f70_8 f70_10
theorem f70_7e : aC P id m f70_7 sf st Q = condI (.r 5) (sf.ev id (.r 5)) (aC P id m f70_8) (aC P id m f70_10) sf st Q := rfl
def f70_5 : AC := .seq f70_6 f70_7
theorem f70_5e : aC P id m f70_5 sf st Q = aC P id m f70_6 sf st (seqQ (aC P id m f70_7) Q) := rfl
def f70_4 : AC := .block 0 f70_5
theorem f70_4e : aC P id m f70_4 sf st Q = aC P id m f70_5 sf st (blockQ 0 Q) := rfl
def f70_16h : List GI := [vv 15 0,
    vn 16 15,
    vd 17 16 3,
    vl 18 17,
    vv 19 0,
    vn 20 19,
    vd 21 20 0,
    vd 22 21 0,
    vl 23 22,
    ⟨none, .lookup (some 24) (.int .u64) (.agg [(.lit (.int .i64 0)), (.lit (.int .u64 0)), (.lit (.int .u64 0))]) false (.r 18) (.r 23)⟩,
    ⟨none, .field (some 25) (.r 24) 0 none⟩,
    vv 26 0,
    vn 27 26,
    vd 28 27 0,
    vd 29 28 0,
    vl 30 29,
    vv 2 25]
def f70_16l : List GI := [vo 3 30,
    ⟨none, .mv (some 4) (.c (.lit (.int .i64 0)))⟩]
def f70_16 : AC := .draw [2, 3, 4] [] [] f70_16h f70_16l
theorem f70_16e : aC P id m f70_16 sf st Q = headI P id sf.locs st f70_16h (tailK P id m [] [2, 3, 4] [] f70_16l Q st) [] ⟨sf.regs, dropL [] sf.locs⟩ := rfl
def f70_15 : AC := .seq f70_16 .ret
theorem f70_15e : aC P id m f70_15 sf st Q = aC P id m f70_16 sf st (seqQ (aC P id m .ret) Q) := rfl
def f70_3 : AC := .seq f70_4 f70_15
theorem f70_3e : aC P id m f70_3 sf st Q = aC P id m f70_4 sf st (seqQ (aC P id m f70_15) Q) := rfl
def f70_1 : AC := .seq f70_2 f70_3
theorem f70_1e : aC P id m f70_1 sf st Q = aC P id m f70_2 sf st (seqQ (aC P id m f70_3) Q) := rfl
def c_f70 : AFun := ⟨31, [.tmp 2, .tmp 3, .tmp 4], f70_1⟩
theorem k_f70 : compF Go.Proofs.Try.prog x_f70 70 = some c_f70 := by kernel_rfl
theorem e_f70 : enterB Go.Proofs.Try.prog 70 = true := by kernel_rfl

def n_f76 : Nat := 76
def x_f76 : Cx := ⟨some, id, 25, fun s => ([0, 2, 3, 4, 5, 6, 8, 11, 12, 13, 14, 16, 17, 18, 20, 22, 23, 24] : List Nat).contains s, fun s => ([] : List Nat).contains s, msOf [(2, [0], []), (12, [0, 7], []), (26, [0], []), (14, [0, 3], []), (60, [0, 3, 4], []), (122, [0, 3, 4], []), (976, [0, 3, 4, 15], []), (1955, [3], []), (1956, [0, 3, 4], []), (979, [0, 3, 4], []), (62, [2], [])]⟩
def f76_2l : List GI := [⟨none, .mv (some 2) (.c (.lit (.int .u64 0)))⟩]
def f76_2 : AC := .ops [0] [] f76_2l
theorem f76_2e : aC P id m f76_2 sf st Q = runI P id m f76_2l (opsK [0] [] Q) sf st := rfl
def f76_5l : List GI := [vv 5 0,
    ⟨none, .len (some 6) .sl (.r 5)⟩,
    vb 7 .lss 6 1]
def f76_5 : AC := .ops [0, 7] [] f76_5l
theorem f76_5e : aC P id m f76_5 sf st Q = runI P id m f76_5l (opsK [0, 7] [] Q) sf st := rfl
def f76_7l : List GI := [⟨none, .mkif (some 8) 9 (.c (.lit (.string ⟨#[115, 108, 105, 99, 101, 115, 46, 77, 105, 110, 58, 32, 101, 109, 112, 116, 121, 32, 108, 105, 115, 116]⟩)))⟩,
    ⟨none, .x none .bad⟩]
def f76_7 : AC := .ops [0] [] f76_7l
theorem f76_7e : aC P id m f76_7 sf st Q = runI P id m f76_7l (opsK [0] [] Q) sf st := rfl
def f76_6 : AC := .cond (.r 7) f76_7 .skip
theorem f76_6e : aC P id m f76_6 sf st Q = condI (.r 7) (sf.ev id (.r 7)) (aC P id m f76_7) (aC P id m .skip) sf st Q := rfl
def f76_4 : AC := .seq f76_5 f76_6
theorem f76_4e : aC P id m f76_4 sf st Q = aC P id m f76_5 sf st (seqQ (aC P id m f76_6) Q) := rfl
def f76_9l : List GI := [vv 9 0,
    ⟨none, .ixS (some 10) (.r 9) (.c (.lit (.int .i64 0))) 1⟩,
    vl 11 10,
    vo 3 11]
def f76_9 : AC := .ops [0, 3] [] f76_9l
theorem f76_9e : aC P id m f76_9 sf st Q = runI P id m f76_9l (opsK [0, 3] [] Q) sf st := rfl
def f76_12l : List GI := [⟨none, .mv (some 4) (.c (.lit (.int .i64 1)))⟩]
def f76_12 : AC := .ops [0, 3, 4] [] f76_12l
theorem f76_12e : aC P id m f76_12 sf st Q = runI P id m f76_12l (opsK [0, 3, 4] [] Q) sf st := rfl
def f76_17l : List GI := [vv 12 4,
    vv 13 0,
    ⟨none, .len (some 14) .sl (.r 13)⟩,
    ⟨none, .bin (some 15) .num .lss (.r 12) (.r 14)⟩]
def f76_17 : AC := .ops [0, 3, 4, 15] [] f76_17l
theorem f76_17e : aC P id m f76_17 sf st Q = runI P id m f76_17l (opsK [0, 3, 4, 15] [] Q) sf st := rfl
def f76_18 : AC := .cond (.r 15) .skip (.exit [3] [] 0)
theorem f76_18e : aC P id m f76_18 sf st Q = condI (.r 15) (sf.ev id (.r 15)) (aC P id m .skip) (aC P id m (.exit [3] [] 0)) sf st Q := rfl
def f76_16 : AC := .seq f76_17 f76_18
theorem f76_16e : aC P id m f76_16 sf st Q = aC P id m f76_17 sf st (seqQ (aC P id m f76_18) Q) := rfl
def f76_21l : List GI := [vv 18 3,
    vv 19 0,
    vv 20 4,
    ⟨none, .ixS (some 21) (.r 19) (.r 20) 1⟩,
    vl 22 21,
    ⟨none, .mn (some 23) true (.r 18) (.r 22)⟩,
    vo 3 23]
def f76_21 : AC := .ops [0, 3, 4] [] f76_21l
theorem f76_21e : aC P id m f76_21 sf st Q = runI P id m f76_21l (opsK [0, 3, 4] [] Q) sf st := rfl
def f76_20 : AC := .block 1 f76_21
theorem f76_20e : aC P id m f76_20 sf st Q = aC P id m f76_21 sf st (blockQ 1 Q) := rfl
def f76_22l : List GI := [vv 16 4,
    vb 17 .add 16 1,
    vo 4 17]
def f76_22 : AC := .ops [0, 3, 4] [] f76_22l
theorem f76_22e : aC P id m f76_22 sf st Q = runI P id m f76_22l (opsK [0, 3, 4] [] Q) sf st := rfl
def f76_19 : AC := .seq f76_20 f76_22
theorem f76_19e : aC P id m f76_19 sf st Q = aC P id m f76_20 sf st (seqQ (aC P id m f76_22) Q) := rfl
def f76_15 : AC := .seq f76_16 f76_19
theorem f76_15e : aC P id m f76_15 sf st Q = aC P id m f76_16 sf st (seqQ (aC P id m f76_19) Q) := rfl
def f76_14 : AC := .loop [0, 3, 4] [] f76_15
theorem f76_14w : aC P id m f76_14 sf st Q = loopI (aC P id m f76_15) [0, 3, 4] [] sf st Q := rfl
def f76_13 : AC := .block 0 f76_14
theorem f76_13e : aC P id m f76_13 sf st Q = aC P id m f76_14 sf st (blockQ 0 Q) := rfl
def f76_11 : AC := .seq f76_12 f76_13
theorem f76_11e : aC P id m f76_11 sf st Q = aC P id m f76_12 sf st (seqQ (aC P id m f76_13) Q) := rfl
def f76_24l : List GI := [vv 24 3,
    vo 2 24]
def f76_24 : AC := .ops [2] [] f76_24l
theorem f76_24e : aC P id m f76_24 sf st Q = runI P id m f76_24l (opsK [2] [] Q) sf st := rfl
def f76_23 : AC := .seq f76_24 .ret
theorem f76_23e : aC P id m f76_23 sf st Q = aC P id m f76_24 sf st (seqQ (aC P id m .ret) Q) := rfl
def f76_10 : AC := .seq f76_11 f76_23
theorem f76_10e : aC P id m f76_10 sf st Q = aC P id m f76_11 sf st (seqQ (aC P id m f76_23) Q) := rfl
def f76_8 : AC := .seq f76_9 f76_10
theorem f76_8e : aC P id m f76_8 sf st Q = aC P id m f76_9 sf st (seqQ (aC P id m f76_10) Q) := rfl
def f76_3 : AC := .seq f76_4 f76_8
theorem f76_3e : aC P id m f76_3 sf st Q = aC P id m f76_4 sf st (seqQ (aC P id m f76_8) Q) := rfl
def f76_1 : AC := .seq f76_2 f76_3
theorem f76_1e : aC P id m f76_1 sf st Q = aC P id m f76_2 sf st (seqQ (aC P id m f76_3) Q) := rfl
def c_f76 : AFun := ⟨25, [.tmp 2], f76_1⟩
theorem k_f76 : compF Go.Proofs.Try.prog x_f76 76 = some c_f76 := by kernel_rfl
theorem e_f76 : enterB Go.Proofs.Try.prog 76 = true := by kernel_rfl

def n_f77 : Nat := 77
def x_f77 : Cx := ⟨some, id, 9, fun s => ([0, 2, 3, 5, 6, 7, 8] : List Nat).contains s, fun s => ([] : List Nat).contains s, msOf [(2, [0], []), (12, [0, 4], []), (52, [2], []), (14, [2], [])]⟩
def f77_2l : List GI := [⟨none, .mv (some 2) (.c (.lit (.map none)))⟩]
def f77_2 : AC := .ops [0] [] f77_2l
theorem f77_2e : aC P id m f77_2 sf st Q = runI P id m f77_2l (opsK [0] [] Q) sf st := rfl
def f77_5l : List GI := [vv 3 0,
    ⟨none, .bin (some 4) (.nil .mp) .eql (.r 3) (.c (.lit (.map none)))⟩]
def f77_5 : AC := .ops [0, 4] [] f77_5l
theorem f77_5e : aC P id m f77_5 sf st Q = runI P id m f77_5l (opsK [0, 4] [] Q) sf st := rfl
def f77_8l : List GI := [⟨none, .mv (some 2) (.c (.lit (.map none)))⟩]
def f77_8 : AC := .ops [2] [] f77_8l
theorem f77_8e : aC P id m f77_8 sf st Q = runI P id m f77_8l (opsK [2] [] Q) sf st := rfl
def f77_7 : AC := .seq f77_8 .ret
theorem f77_7e : aC P id m f77_7 sf st Q = aC P id m f77_8 sf st (seqQ (aC P id m .ret) Q) := rfl
def f77_6 : AC := .cond (.r 4) f77_7 .skip
theorem f77_6e : aC P id m f77_6 sf st Q = condI (.r 4) (sf.ev id (.r 4)) (aC P id m f77_7) (aC P id m .skip) sf st Q := rfl
def f77_4 : AC := .seq f77_5 f77_6
theorem f77_4e : aC P id m f77_4 sf st Q = aC P id m f77_5 sf st (seqQ (aC P id m f77_6) Q) := rfl
def f77_10l : List GI := [vv 5 0,
    ⟨none, .mkif (some 6) 116 (.r 5)⟩,
    ⟨none, .x (some 7) (.mclone (.r 6))⟩,
    ⟨none, .tas (some 8) 116 (.r 7)⟩,
    vo 2 8]
def f77_10 : AC := .ops [2] [] f77_10l
theorem f77_10e : aC P id m f77_10 sf st Q = runI P id m f77_10l (opsK [2] [] Q) sf st := rfl
def f77_9 : AC := .seq f77_10 .ret
theorem f77_9e : aC P id m f77_9 sf st Q = aC P id m f77_10 sf st (seqQ (aC P id m .ret) Q) := rfl
def f77_3 : AC := .seq f77_4 f77_9
theorem f77_3e : aC P id m f77_3 sf st Q = aC P id m f77_4 sf st (seqQ (aC P id m f77_9) Q) := rfl
def f77_1 : AC := .seq f77_2 f77_3
theorem f77_1e : aC P id m f77_1 sf st Q = aC P id m f77_2 sf st (seqQ (aC P id m f77_3) Q) := rfl
def c_f77 : AFun := ⟨9, [.tmp 2], f77_1⟩
theorem k_f77 : compF Go.Proofs.Try.prog x_f77 77 = some c_f77 := by kernel_rfl
theorem e_f77 : enterB Go.Proofs.Try.prog 77 = true := by kernel_rfl

def tab (q : Nat) : Option AFun :=
  if q = 8 then some c_f8 else
  if q = 29 then some c_f29 else
  if q = 30 then some c_f30 else
  if q = 31 then some c_f31 else
  if q = 32 then some c_f32 else
  if q = 34 then some c_f34 else
  if q = 35 then some c_f35 else
  if q = 36 then some c_f36 else
  if q = 37 then some c_f37 else
  if q = 38 then some c_f38 else
  if q = 39 then some c_f39 else
  if q = 40 then some c_f40 else
  if q = 41 then some c_f41 else
  if q = 42 then some c_f42 else
  if q = 43 then some c_f43 else
  if q = 45 then some c_f45 else
  if q = 47 then some c_f47 else
  if q = 48 then some c_f48 else
  if q = 49 then some c_f49 else
  if q = 50 then some c_f50 else
  if q = 51 then some c_f51 else
  if q = 52 then some c_f52 else
  if q = 53 then some c_f53 else
  if q = 54 then some c_f54 else
  if q = 55 then some c_f55 else
  if q = 56 then some c_f56 else
  if q = 57 then some c_f57 else
  if q = 59 then some c_f59 else
  if q = 60 then some c_f60 else
  if q = 61 then some c_f61 else
  if q = 62 then some c_f62 else
  if q = 63 then some c_f63 else
  if q = 64 then some c_f64 else
  if q = 65 then some c_f65 else
  if q = 66 then some c_f66 else
  if q = 67 then some c_f67 else
  if q = 68 then some c_f68 else
  if q = 69 then some c_f69 else
  if q = 70 then some c_f70 else
  if q = 76 then some c_f76 else
  if q = 77 then some c_f77 else
  none
theorem tabOk : TabOk Go.Proofs.Try.prog id tab :=
  tabOk_cons e_f8 k_f8 rfl (
  tabOk_cons e_f29 k_f29 rfl (
  tabOk_cons e_f30 k_f30 rfl (
  tabOk_cons e_f31 k_f31 rfl (
  tabOk_cons e_f32 k_f32 rfl (
  tabOk_cons e_f34 k_f34 rfl (
  tabOk_cons e_f35 k_f35 rfl (
  tabOk_cons e_f36 k_f36 rfl (
  tabOk_cons e_f37 k_f37 rfl (
  tabOk_cons e_f38 k_f38 rfl (
  tabOk_cons e_f39 k_f39 rfl (
  tabOk_cons e_f40 k_f40 rfl (
  tabOk_cons e_f41 k_f41 rfl (
  tabOk_cons e_f42 k_f42 rfl (
  tabOk_cons e_f43 k_f43 rfl (
  tabOk_cons e_f45 k_f45 rfl (
  tabOk_cons e_f47 k_f47 rfl (
  tabOk_cons e_f48 k_f48 rfl (
  tabOk_cons e_f49 k_f49 rfl (
  tabOk_cons e_f50 k_f50 rfl (
  tabOk_cons e_f51 k_f51 rfl (
  tabOk_cons e_f52 k_f52 rfl (
  tabOk_cons e_f53 k_f53 rfl (
  tabOk_cons e_f54 k_f54 rfl (
  tabOk_cons e_f55 k_f55 rfl (
  tabOk_cons e_f56 k_f56 rfl (
  tabOk_cons e_f57 k_f57 rfl (
  tabOk_cons e_f59 k_f59 rfl (
  tabOk_cons e_f60 k_f60 rfl (
  tabOk_cons e_f61 k_f61 rfl (
  tabOk_cons e_f62 k_f62 rfl (
  tabOk_cons e_f63 k_f63 rfl (
  tabOk_cons e_f64 k_f64 rfl (
  tabOk_cons e_f65 k_f65 rfl (
  tabOk_cons e_f66 k_f66 rfl (
  tabOk_cons e_f67 k_f67 rfl (
  tabOk_cons e_f68 k_f68 rfl (
  tabOk_cons e_f69 k_f69 rfl (
  tabOk_cons e_f70 k_f70 rfl (
  tabOk_cons e_f76 k_f76 rfl (
  tabOk_cons e_f77 k_f77 rfl (
  tabOk_nil)))))))))))))))))))))))))))))))))))))))))
theorem hmix : Go.Proofs.Try.prog.follows .mixedOrders = true := by kernel_rfl
end
end Go.Fx.YtddifejdkiemgaaFx

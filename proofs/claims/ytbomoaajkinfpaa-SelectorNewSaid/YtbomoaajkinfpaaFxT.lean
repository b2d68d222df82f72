/- The functions that the statement reaches, resolved: printed by a program of ours from the translated code; each is checked here. -/
import Derived.Test.YtbomoaajkinfpaaFxS
set_option maxRecDepth 100000
set_option maxHeartbeats 0
namespace Go.Fx.YtbomoaajkinfpaaFx
open Go Go.Fx
section
variable (P:Program) (m:Bool) (sf:Sf) (st:St) (Q:Exit→Sf→St→Prop)
def n_f39:Nat:=39
def x_f39:Cx:=⟨some,id,27,fun s=>([0,1,4,8,9,11,12,13,14,15,16,17,21,22,23,24,25]:List Nat).contains s,fun s=>([]:List Nat).contains s,msOf [(2,[0,1],[]),(24,[0,1,7],[]),(100,[4],[]),(102,[0,1,10],[]),(412,[4],[]),(28,[6],[]),(58,[26],[]),(236,[4],[]),(30,[4],[])]⟩
def f39_2l:List GI:=[⟨none,.mv (some 4) (.c (.lit (.int .i64 0)))⟩]
def f39_6l:List GI:=[vv 8 0,
    ⟨none,.call (some 9) false (.f 44) [(.r 8)]⟩,
    vo 7 9]
def f39_9l:List GI:=[⟨none,.mv (some 4) (.c (.lit (.int .i64 1)))⟩]
def f39_8:AC:=.seq (.ops [4] [] f39_9l) .ret
theorem f39_8e:SO f39_8 f39_9l [4] [] .ret:=rfl
def f39_11l:List GI:=[vv 11 1,
    vb 12 .lss 11 0,
    vv 13 12,
    ⟨some (13,false),.mv (some 14) (.r 1)⟩,
    ⟨some (13,false),.bin (some 15) .num .geq (.r 14) (.c (.lit (.int .i64 64)))⟩,
    ⟨none,.pick (some 16) (.r 13) (.c (.lit (.bool true))) (.r 15)⟩,
    vo 10 16]
def f39_14l:List GI:=[⟨none,.mv (some 4) (.c (.lit (.int .i64 2)))⟩]
def f39_13:AC:=.seq (.ops [4] [] f39_14l) .ret
theorem f39_13e:SO f39_13 f39_14l [4] [] .ret:=rfl
def f39_12:AC:=.cond (.r 10) f39_13 .skip
theorem f39_12e:CN f39_12 10 f39_13 .skip:=rfl
def f39_10:AC:=.seq (.ops [0,1,10] [] f39_11l) f39_12
theorem f39_10e:SO f39_10 f39_11l [0,1,10] [] f39_12:=rfl
def f39_7:AC:=.cond (.r 7) f39_8 f39_10
theorem f39_7e:CN f39_7 7 f39_8 f39_10:=rfl
def f39_5:AC:=.seq (.ops [0,1,7] [] f39_6l) f39_7
theorem f39_5e:SO f39_5 f39_6l [0,1,7] [] f39_7:=rfl
def f39_4:AC:=.block 0 f39_5
theorem f39_4e:BL f39_4 f39_5 0:=rfl
def f39_17l:List GI:=[vv 18 0,
    vn 19 18,
    vd 20 19 6,
    vl 21 20,
    vv 22 1,
    ⟨none,.lookup (some 23) (.int .i64) (.agg [(.lit (.int .i64 0)),(.lit (.int .i64 0)),(.lit (.int .u64 0))]) true (.r 21) (.r 22)⟩,
    vv 17 23,
    ve 24 17 0,
    ve 25 17 1,
    ⟨none,.newL 5 [(.lit (.int .i64 0)),(.lit (.int .i64 0)),(.lit (.int .u64 0))]⟩,
    ⟨none,.store 3 (.r 5) (.r 24)⟩,
    vo 6 25]
def f39_19l:List GI:=[vv 26 6]
def f39_22l:List GI:=[⟨none,.mv (some 4) (.c (.lit (.int .i64 11)))⟩]
def f39_21:AC:=.seq (.ops [4] [] f39_22l) .ret
theorem f39_21e:SO f39_21 f39_22l [4] [] .ret:=rfl
def f39_20:AC:=.cond (.r 26) f39_21 .skip
theorem f39_20e:CN f39_20 26 f39_21 .skip:=rfl
def f39_18:AC:=.seq (.ops [26] [] f39_19l) f39_20
theorem f39_18e:SO f39_18 f39_19l [26] [] f39_20:=rfl
def f39_16:AC:=.seq (.ops [6] [] f39_17l) f39_18
theorem f39_16e:SO f39_16 f39_17l [6] [] f39_18:=rfl
def f39_24l:List GI:=[⟨none,.mv (some 4) (.c (.lit (.int .i64 0)))⟩]
def f39_23:AC:=.seq (.ops [4] [] f39_24l) .ret
theorem f39_23e:SO f39_23 f39_24l [4] [] .ret:=rfl
def f39_15:AC:=.seq f39_16 f39_23
theorem f39_15e:SQ f39_15 f39_16 f39_23:=rfl
def f39_3:AC:=.seq f39_4 f39_15
theorem f39_3e:SQ f39_3 f39_4 f39_15:=rfl
def f39_1:AC:=.seq (.ops [0,1] [] f39_2l) f39_3
theorem f39_1e:SO f39_1 f39_2l [0,1] [] f39_3:=rfl
def c_f39:AFun:=⟨27,[.tmp 4],f39_1⟩
theorem k_f39:aH Go.Proofs.Try.prog x_f39 39 = some c_f39:=by kernel_rfl
theorem e_f39:al Go.Proofs.Try.prog 39 = true:=by kernel_rfl

def n_f40:Nat:=40
def x_f40:Cx:=⟨some,id,47,fun s=>([0,1,4,5,6,9,15,16,17,18,19,20,22,23,24,25,26,30,31,35,41,42,43,44]:List Nat).contains s,fun s=>([25,43,44]:List Nat).contains s,msOf [(2,[0,1],[]),(12,[0,1,10],[]),(52,[4,5],[]),(28,[0,1,14],[]),(116,[4,5],[]),(60,[0,1,6,8],[]),(122,[0,1,6,21],[]),(492,[4,5],[]),(124,[0,1,36],[]),(500,[],[]),(1002,[4,5],[]),(126,[4,5],[])]⟩
def f40_2l:List GI:=[⟨none,.mv (some 4) (.c (.lit (.slice none 0 0)))⟩,
    ⟨none,.mv (some 5) (.c (.lit (.int .i64 0)))⟩]
def f40_5l:List GI:=[vv 9 0,
    ⟨none,.call (some 10) false (.f 44) [(.r 9)]⟩]
def f40_8l:List GI:=[⟨none,.mv (some 4) (.c (.lit (.slice none 0 0)))⟩,
    ⟨none,.mv (some 5) (.c (.lit (.int .i64 1)))⟩]
def f40_7:AC:=.seq (.ops [4,5] [] f40_8l) .ret
theorem f40_7e:SO f40_7 f40_8l [4,5] [] .ret:=rfl
def f40_6:AC:=.cond (.r 10) f40_7 .skip
theorem f40_6e:CN f40_6 10 f40_7 .skip:=rfl
def f40_4:AC:=.seq (.ops [0,1,10] [] f40_5l) f40_6
theorem f40_4e:SO f40_4 f40_5l [0,1,10] [] f40_6:=rfl
def f40_11l:List GI:=[vv 11 0,
    vn 12 11,
    vd 13 12 1,
    vl 14 13]
def f40_14l:List GI:=[⟨none,.mv (some 4) (.c (.lit (.slice none 0 0)))⟩,
    ⟨none,.mv (some 5) (.c (.lit (.int .i64 14)))⟩]
def f40_13:AC:=.seq (.ops [4,5] [] f40_14l) .ret
theorem f40_13e:SO f40_13 f40_14l [4,5] [] .ret:=rfl
def f40_12:AC:=.cond (.r 14) f40_13 .skip
theorem f40_12e:CN f40_12 14 f40_13 .skip:=rfl
def f40_10:AC:=.seq (.ops [0,1,14] [] f40_11l) f40_12
theorem f40_10e:SO f40_10 f40_11l [0,1,14] [] f40_12:=rfl
def f40_17l:List GI:=[vv 16 0,
    ⟨none,.call (some 17) false (.f 45) [(.r 16),(.c (.lit (.int .i64 1)))]⟩,
    vv 15 17,
    ve 18 15 0,
    ve 19 15 1,
    ve 20 15 2,
    vo 6 18,
    vo 7 19,
    vo 8 20]
def f40_19l:List GI:=[vv 21 8]
def f40_22l:List GI:=[vv 22 6,
    vv 23 1,
    ⟨none,.bst (some 24) [(0,1),(1,1),(2,1),(3,1)] (.agg [(.lit (.int .i64 0)),(.lit (.int .i64 0)),(.lit (.int .i64 0)),(.lit (.int .i64 0))]) [(0,(.r 22)),(2,(.r 23))]⟩,
    ⟨none,.bsl (some 25) 4 1 (.agg [(.lit (.int .i64 0)),(.lit (.int .i64 0)),(.lit (.int .i64 0)),(.lit (.int .i64 0))]) [(0,(.r 24))]⟩,
    ⟨none,.call (some 26) false (.f 59) [(.r 25)]⟩,
    vo 4 26,
    ⟨none,.mv (some 5) (.c (.lit (.int .i64 0)))⟩]
def f40_21:AC:=.seq (.ops [4,5] [] f40_22l) .ret
theorem f40_21e:SO f40_21 f40_22l [4,5] [] .ret:=rfl
def f40_20:AC:=.cond (.r 21) f40_21 .skip
theorem f40_20e:CN f40_20 21 f40_21 .skip:=rfl
def f40_18:AC:=.seq (.ops [0,1,6,21] [] f40_19l) f40_20
theorem f40_18e:SO f40_18 f40_19l [0,1,6,21] [] f40_20:=rfl
def f40_16:AC:=.seq (.ops [0,1,6,8] [] f40_17l) f40_18
theorem f40_16e:SO f40_16 f40_17l [0,1,6,8] [] f40_18:=rfl
def f40_25h:List GI:=[vv 27 0,
    vn 28 27,
    vd 29 28 3,
    vl 30 29,
    ⟨none,.len (some 31) .sl (.r 30)⟩,
    vv 32 0,
    vn 33 32,
    vd 34 33 2,
    vl 35 34]
def f40_25l:List GI:=[⟨none,.bin (some 36) .num .lss (.r 31) (.r 35)⟩]
def f40_25:AC:=.draw [0,1,36] [] [] f40_25h f40_25l
theorem f40_25e:aC P id m f40_25 sf st Q = ap P id sf.locs st f40_25h (aZ P id m [] [0,1,36] [] f40_25l Q st) [] ⟨sf.regs,aY [] sf.locs⟩:=rfl
def f40_28l:List GI:=[vv 37 0,
    vv 38 0,
    vn 39 38,
    vd 40 39 3,
    ⟨none,.loadOwn 41 (.r 40)⟩,
    vv 42 1,
    ⟨none,.bsl (some 43) 1 1 (.lit (.int .i64 0)) [(0,(.r 42))]⟩,
    ⟨none,.x (some 44) (.appB (.r 41) 1 8 (.r 43))⟩,
    vn 45 37,
    vd 46 45 3,
    ⟨none,.store 1 (.r 46) (.r 44)⟩]
def f40_30l:List GI:=[⟨none,.mv (some 4) (.c (.lit (.slice none 0 0)))⟩,
    ⟨none,.mv (some 5) (.c (.lit (.int .i64 0)))⟩]
def f40_29:AC:=.seq (.ops [4,5] [] f40_30l) .ret
theorem f40_29e:SO f40_29 f40_30l [4,5] [] .ret:=rfl
def f40_27:AC:=.seq (.ops [] [] f40_28l) f40_29
theorem f40_27e:SO f40_27 f40_28l [] [] f40_29:=rfl
def f40_26:AC:=.cond (.r 36) f40_27 .skip
theorem f40_26e:CN f40_26 36 f40_27 .skip:=rfl
def f40_24:AC:=.seq f40_25 f40_26
theorem f40_24e:SQ f40_24 f40_25 f40_26:=rfl
def f40_32l:List GI:=[⟨none,.mv (some 4) (.c (.lit (.slice none 0 0)))⟩,
    ⟨none,.mv (some 5) (.c (.lit (.int .i64 16)))⟩]
def f40_31:AC:=.seq (.ops [4,5] [] f40_32l) .ret
theorem f40_31e:SO f40_31 f40_32l [4,5] [] .ret:=rfl
def f40_23:AC:=.seq f40_24 f40_31
theorem f40_23e:SQ f40_23 f40_24 f40_31:=rfl
def f40_15:AC:=.seq f40_16 f40_23
theorem f40_15e:SQ f40_15 f40_16 f40_23:=rfl
def f40_9:AC:=.seq f40_10 f40_15
theorem f40_9e:SQ f40_9 f40_10 f40_15:=rfl
def f40_3:AC:=.seq f40_4 f40_9
theorem f40_3e:SQ f40_3 f40_4 f40_9:=rfl
def f40_1:AC:=.seq (.ops [0,1] [] f40_2l) f40_3
theorem f40_1e:SO f40_1 f40_2l [0,1] [] f40_3:=rfl
def c_f40:AFun:=⟨47,[.tmp 4,.tmp 5],f40_1⟩
theorem k_f40:aH Go.Proofs.Try.prog x_f40 40 = some c_f40:=by kernel_rfl
theorem e_f40:al Go.Proofs.Try.prog 40 = true:=by kernel_rfl

def n_f41:Nat:=41
def x_f41:Cx:=⟨some,id,34,fun s=>([1,2,3,8,9,10,11,13,17,18,19,20,21,22,27,28,29,30,31,32,33]:List Nat).contains s,fun s=>([]:List Nat).contains s,msOf [(2,[0,1,2,3],[]),(6,[0,1,2,3,9,10],[]),(28,[0,1,2,3,9,10,23],[]),(58,[10],[]),(30,[8],[])]⟩
def f41_2l:List GI:=[⟨none,.mv (some 8) (.c (.lit (.int .i64 0)))⟩]
def f41_4l:List GI:=[vv 12 0,
    vv 13 1,
    vn 14 12,
    vd 15 14 4,
    ⟨none,.ixA (some 16) (.r 15) (.r 13) 2 1⟩,
    vl 17 16,
    vv 18 2,
    ⟨none,.call (some 19) false (.f 60) [(.r 17),(.r 18)]⟩,
    vv 11 19,
    ve 20 11 0,
    ve 21 11 1,
    vo 9 20,
    vo 10 21]
def f41_7l:List GI:=[vv 22 10,
    vb 23 .eql 22 0]
def f41_9l:List GI:=[vv 24 0,
    vn 25 24,
    vd 26 25 6,
    vl 27 26,
    vv 28 2,
    vv 29 1,
    vv 30 3,
    vv 31 9,
    ⟨none,.bst (some 32) [(0,1),(1,1),(2,1)] (.agg [(.lit (.int .i64 0)),(.lit (.int .i64 0)),(.lit (.int .u64 0))]) [(0,(.r 29)),(1,(.r 30)),(2,(.r 31))]⟩,
    ⟨none,.upd (.int .i64) (.r 27) (.r 28) (.r 32)⟩]
def f41_9:AC:=.ops [10] [] f41_9l
theorem f41_9e:OP f41_9 f41_9l [10] []:=rfl
def f41_8:AC:=.cond (.r 23) f41_9 .skip
theorem f41_8e:CN f41_8 23 f41_9 .skip:=rfl
def f41_6:AC:=.seq (.ops [0,1,2,3,9,10,23] [] f41_7l) f41_8
theorem f41_6e:SO f41_6 f41_7l [0,1,2,3,9,10,23] [] f41_8:=rfl
def f41_11l:List GI:=[vv 33 10,
    vo 8 33]
def f41_10:AC:=.seq (.ops [8] [] f41_11l) .ret
theorem f41_10e:SO f41_10 f41_11l [8] [] .ret:=rfl
def f41_5:AC:=.seq f41_6 f41_10
theorem f41_5e:SQ f41_5 f41_6 f41_10:=rfl
def f41_3:AC:=.seq (.ops [0,1,2,3,9,10] [] f41_4l) f41_5
theorem f41_3e:SO f41_3 f41_4l [0,1,2,3,9,10] [] f41_5:=rfl
def f41_1:AC:=.seq (.ops [0,1,2,3] [] f41_2l) f41_3
theorem f41_1e:SO f41_1 f41_2l [0,1,2,3] [] f41_3:=rfl
def c_f41:AFun:=⟨34,[.tmp 8],f41_1⟩
theorem k_f41:aH Go.Proofs.Try.prog x_f41 41 = some c_f41:=by kernel_rfl
theorem e_f41:al Go.Proofs.Try.prog 41 = true:=by kernel_rfl

def n_f42:Nat:=42
def x_f42:Cx:=⟨some,id,58,fun s=>([0,2,3,4,5,6,8,10,11,12,13,14,15,21,22,23,24,30,31,42,47,48,52,53,54,55,56,57]:List Nat).contains s,fun s=>([23,24,55]:List Nat).contains s,msOf [(2,[0],[]),(12,[0,9],[]),(52,[2,3,4],[]),(14,[0,5,6,7],[]),(60,[0,5,6,7,16],[]),(122,[0,5,7],[]),(124,[0,5,7,32],[]),(1000,[36],[]),(4004,[2,3,4],[]),(1002,[2,3,4],[]),(126,[0,5,6,7],[]),(254,[5,6,7],[]),(1020,[5,6,51],[]),(4084,[2,3,4],[]),(1022,[2,3,4],[])]⟩
def f42_2l:List GI:=[⟨none,.mv (some 2) (.c (.lit (.int .i64 0)))⟩,
    ⟨none,.mv (some 3) (.c (.lit (.slice none 0 0)))⟩,
    ⟨none,.mv (some 4) (.c (.lit (.int .i64 0)))⟩]
def f42_5l:List GI:=[vv 8 0,
    ⟨none,.call (some 9) false (.f 44) [(.r 8)]⟩]
def f42_8l:List GI:=[⟨none,.mv (some 2) (.c (.lit (.int .i64 0)))⟩,
    ⟨none,.mv (some 3) (.c (.lit (.slice none 0 0)))⟩,
    ⟨none,.mv (some 4) (.c (.lit (.int .i64 1)))⟩]
def f42_7:AC:=.seq (.ops [2,3,4] [] f42_8l) .ret
theorem f42_7e:SO f42_7 f42_8l [2,3,4] [] .ret:=rfl
def f42_6:AC:=.cond (.r 9) f42_7 .skip
theorem f42_6e:CN f42_6 9 f42_7 .skip:=rfl
def f42_4:AC:=.seq (.ops [0,9] [] f42_5l) f42_6
theorem f42_4e:SO f42_4 f42_5l [0,9] [] f42_6:=rfl
def f42_10l:List GI:=[vv 11 0,
    ⟨none,.call (some 12) false (.f 45) [(.r 11),(.c (.lit (.int .i64 0)))]⟩,
    vv 10 12,
    ve 13 10 0,
    ve 14 10 1,
    ve 15 10 2,
    vo 5 13,
    vo 6 14,
    vo 7 15]
def f42_13l:List GI:=[vv 16 7]
def f42_15l:List GI:=[vv 17 0,
    vv 18 0,
    vn 19 18,
    vd 20 19 3,
    ⟨none,.loadOwn 21 (.r 20)⟩,
    vv 22 6,
    ⟨none,.bsl (some 23) 1 1 (.lit (.int .i64 0)) [(0,(.r 22))]⟩,
    ⟨none,.x (some 24) (.appB (.r 21) 1 8 (.r 23))⟩,
    vn 25 17,
    vd 26 25 3,
    ⟨none,.store 1 (.r 26) (.r 24)⟩]
def f42_15:AC:=.ops [0,5,7] [] f42_15l
theorem f42_15e:OP f42_15 f42_15l [0,5,7] []:=rfl
def f42_14:AC:=.cond (.r 16) f42_15 .skip
theorem f42_14e:CN f42_14 16 f42_15 .skip:=rfl
def f42_12:AC:=.seq (.ops [0,5,6,7,16] [] f42_13l) f42_14
theorem f42_12e:SO f42_12 f42_13l [0,5,6,7,16] [] f42_14:=rfl
def f42_18l:List GI:=[vv 27 0,
    vn 28 27,
    vd 29 28 3,
    vl 30 29,
    ⟨none,.len (some 31) .sl (.r 30)⟩,
    vb 32 .eql 31 0]
def f42_22l:List GI:=[vv 33 0,
    vn 34 33,
    vd 35 34 1,
    vl 36 35]
def f42_25l:List GI:=[⟨none,.mv (some 2) (.c (.lit (.int .i64 0)))⟩,
    ⟨none,.mv (some 3) (.c (.lit (.slice none 0 0)))⟩,
    ⟨none,.mv (some 4) (.c (.lit (.int .i64 13)))⟩]
def f42_24:AC:=.seq (.ops [2,3,4] [] f42_25l) .ret
theorem f42_24e:SO f42_24 f42_25l [2,3,4] [] .ret:=rfl
def f42_23:AC:=.cond (.r 36) f42_24 .skip
theorem f42_23e:CN f42_23 36 f42_24 .skip:=rfl
def f42_21:AC:=.seq (.ops [36] [] f42_22l) f42_23
theorem f42_21e:SO f42_21 f42_22l [36] [] f42_23:=rfl
def f42_27l:List GI:=[⟨none,.mv (some 2) (.c (.lit (.int .i64 0)))⟩,
    ⟨none,.mv (some 3) (.c (.lit (.slice none 0 0)))⟩,
    ⟨none,.mv (some 4) (.c (.lit (.int .i64 16)))⟩]
def f42_26:AC:=.seq (.ops [2,3,4] [] f42_27l) .ret
theorem f42_26e:SO f42_26 f42_27l [2,3,4] [] .ret:=rfl
def f42_20:AC:=.seq f42_21 f42_26
theorem f42_20e:SQ f42_20 f42_21 f42_26:=rfl
def f42_19:AC:=.cond (.r 32) f42_20 .skip
theorem f42_19e:CN f42_19 32 f42_20 .skip:=rfl
def f42_17:AC:=.seq (.ops [0,5,7,32] [] f42_18l) f42_19
theorem f42_17e:SO f42_17 f42_18l [0,5,7,32] [] f42_19:=rfl
def f42_29l:List GI:=[vv 37 0,
    vn 38 37,
    vd 39 38 3,
    vl 40 39,
    ⟨none,.ixS (some 41) (.r 40) (.c (.lit (.int .i64 0))) 1⟩,
    vl 42 41,
    vo 6 42]
def f42_31l:List GI:=[vv 43 0,
    vv 44 0,
    vn 45 44,
    vd 46 45 3,
    vl 47 46,
    ⟨none,.call (some 48) false (.f 61) [(.r 47),(.c (.lit (.int .i64 0))),(.c (.lit (.int .i64 1)))]⟩,
    vn 49 43,
    vd 50 49 3,
    ⟨none,.store 1 (.r 50) (.r 48)⟩]
def f42_34l:List GI:=[vv 51 7]
def f42_37l:List GI:=[vv 52 6,
    vv 53 5,
    ⟨none,.bst (some 54) [(0,1),(1,1),(2,1),(3,1)] (.agg [(.lit (.int .i64 0)),(.lit (.int .i64 0)),(.lit (.int .i64 0)),(.lit (.int .i64 0))]) [(0,(.r 53))]⟩,
    ⟨none,.bsl (some 55) 4 1 (.agg [(.lit (.int .i64 0)),(.lit (.int .i64 0)),(.lit (.int .i64 0)),(.lit (.int .i64 0))]) [(0,(.r 54))]⟩,
    ⟨none,.call (some 56) false (.f 59) [(.r 55)]⟩,
    vo 2 52,
    vo 3 56,
    ⟨none,.mv (some 4) (.c (.lit (.int .i64 0)))⟩]
def f42_36:AC:=.seq (.ops [2,3,4] [] f42_37l) .ret
theorem f42_36e:SO f42_36 f42_37l [2,3,4] [] .ret:=rfl
def f42_35:AC:=.cond (.r 51) f42_36 .skip
theorem f42_35e:CN f42_35 51 f42_36 .skip:=rfl
def f42_33:AC:=.seq (.ops [5,6,51] [] f42_34l) f42_35
theorem f42_33e:SO f42_33 f42_34l [5,6,51] [] f42_35:=rfl
def f42_39l:List GI:=[vv 57 6,
    vo 2 57,
    ⟨none,.mv (some 3) (.c (.lit (.slice none 0 0)))⟩,
    ⟨none,.mv (some 4) (.c (.lit (.int .i64 0)))⟩]
def f42_38:AC:=.seq (.ops [2,3,4] [] f42_39l) .ret
theorem f42_38e:SO f42_38 f42_39l [2,3,4] [] .ret:=rfl
def f42_32:AC:=.seq f42_33 f42_38
theorem f42_32e:SQ f42_32 f42_33 f42_38:=rfl
def f42_30:AC:=.seq (.ops [5,6,7] [] f42_31l) f42_32
theorem f42_30e:SO f42_30 f42_31l [5,6,7] [] f42_32:=rfl
def f42_28:AC:=.seq (.ops [0,5,6,7] [] f42_29l) f42_30
theorem f42_28e:SO f42_28 f42_29l [0,5,6,7] [] f42_30:=rfl
def f42_16:AC:=.seq f42_17 f42_28
theorem f42_16e:SQ f42_16 f42_17 f42_28:=rfl
def f42_11:AC:=.seq f42_12 f42_16
theorem f42_11e:SQ f42_11 f42_12 f42_16:=rfl
def f42_9:AC:=.seq (.ops [0,5,6,7] [] f42_10l) f42_11
theorem f42_9e:SO f42_9 f42_10l [0,5,6,7] [] f42_11:=rfl
def f42_3:AC:=.seq f42_4 f42_9
theorem f42_3e:SQ f42_3 f42_4 f42_9:=rfl
def f42_1:AC:=.seq (.ops [0] [] f42_2l) f42_3
theorem f42_1e:SO f42_1 f42_2l [0] [] f42_3:=rfl
def c_f42:AFun:=⟨58,[.tmp 2,.tmp 3,.tmp 4],f42_1⟩
theorem k_f42:aH Go.Proofs.Try.prog x_f42 42 = some c_f42:=by kernel_rfl
theorem e_f42:al Go.Proofs.Try.prog 42 = true:=by kernel_rfl

def n_f43:Nat:=43
def x_f43:Cx:=⟨some,id,82,fun s=>([0,1,4,5,7,10,12,16,17,18,19,20,21,26,27,29,33,40,42,43,45,50,52,53,55,59,66,68,69,71,76,78,79,81]:List Nat).contains s,fun s=>([]:List Nat).contains s,msOf [(2,[0,1],[]),(12,[0,1,11],[]),(52,[4,5],[]),(14,[0,1,6,7],[6]),(60,[0,1,6,22],[6]),(244,[4,5],[]),(62,[0,6],[6]),(252,[0,6,30],[6]),(506,[0,6],[6]),(1014,[0,6,8],[6,8]),(2030,[0,6,8],[6,8]),(2031,[0,6],[6]),(508,[0,6,56],[6]),(1018,[6],[6]),(2038,[0,6,9],[6,9]),(4078,[0,6,9],[6,9]),(4079,[6],[6]),(510,[4,5],[])]⟩
def f43_2l:List GI:=[⟨none,.mv (some 4) (.c (.lit (.int .i64 0)))⟩,
    ⟨none,.mv (some 5) (.c (.lit (.int .i64 0)))⟩]
def f43_5l:List GI:=[vv 10 0,
    ⟨none,.call (some 11) false (.f 62) [(.r 10)]⟩]
def f43_8l:List GI:=[⟨none,.mv (some 4) (.c (.lit (.int .i64 0)))⟩,
    ⟨none,.mv (some 5) (.c (.lit (.int .i64 1)))⟩]
def f43_7:AC:=.seq (.ops [4,5] [] f43_8l) .ret
theorem f43_7e:SO f43_7 f43_8l [4,5] [] .ret:=rfl
def f43_6:AC:=.cond (.r 11) f43_7 .skip
theorem f43_6e:CN f43_6 11 f43_7 .skip:=rfl
def f43_4:AC:=.seq (.ops [0,1,11] [] f43_5l) f43_6
theorem f43_4e:SO f43_4 f43_5l [0,1,11] [] f43_6:=rfl
def f43_10l:List GI:=[vv 13 0,
    vn 14 13,
    vd 15 14 3,
    vl 16 15,
    vv 17 1,
    ⟨none,.lookup (some 18) (.int .u64) (.agg [(.lit (.int .i64 0)),(.lit (.int .u64 0)),(.lit (.int .u64 0))]) true (.r 16) (.r 17)⟩,
    vv 12 18,
    ve 19 12 0,
    ve 20 12 1,
    ⟨none,.newL 6 [(.lit (.int .i64 0)),(.lit (.int .u64 0)),(.lit (.int .u64 0))]⟩,
    ⟨none,.store 3 (.r 6) (.r 19)⟩,
    vo 7 20]
def f43_13l:List GI:=[vv 21 7,
    ⟨none,.un (some 22) .not (.r 21)⟩]
def f43_16l:List GI:=[⟨none,.mv (some 4) (.c (.lit (.int .i64 0)))⟩,
    ⟨none,.mv (some 5) (.c (.lit (.int .i64 9)))⟩]
def f43_15:AC:=.seq (.ops [4,5] [] f43_16l) .ret
theorem f43_15e:SO f43_15 f43_16l [4,5] [] .ret:=rfl
def f43_14:AC:=.cond (.r 22) f43_15 .skip
theorem f43_14e:CN f43_14 22 f43_15 .skip:=rfl
def f43_12:AC:=.seq (.ops [0,1,6,22] [6] f43_13l) f43_14
theorem f43_12e:SO f43_12 f43_13l [0,1,6,22] [6] f43_14:=rfl
def f43_18l:List GI:=[vv 23 0,
    vn 24 23,
    vd 25 24 3,
    vl 26 25,
    vv 27 1,
    ⟨none,.del (.int .u64) (.r 26) (.r 27)⟩]
def f43_21l:List GI:=[vd 28 6 1,
    vl 29 28,
    ⟨none,.bin (some 30) .num .eql (.r 29) (.c (.lit (.int .u64 0)))⟩]
def f43_23l:List GI:=[vv 31 0,
    vd 32 6 2,
    vl 33 32,
    vn 34 31,
    vd 35 34 0,
    vd 36 35 0,
    ⟨none,.store 1 (.r 36) (.r 33)⟩]
def f43_23:AC:=.ops [0,6] [6] f43_23l
theorem f43_23e:OP f43_23 f43_23l [0,6] [6]:=rfl
def f43_25h:List GI:=[vv 37 0,
    vn 38 37,
    vd 39 38 3,
    vl 40 39,
    vd 41 6 1,
    vl 42 41,
    ⟨none,.lookup (some 43) (.int .u64) (.agg [(.lit (.int .i64 0)),(.lit (.int .u64 0)),(.lit (.int .u64 0))]) false (.r 40) (.r 42)⟩,
    ⟨none,.newL 8 [(.lit (.int .i64 0)),(.lit (.int .u64 0)),(.lit (.int .u64 0))]⟩]
def f43_25l:List GI:=[⟨none,.store 3 (.r 8) (.r 43)⟩]
def f43_25:AC:=.draw [0,6,8] [6,8] [8] f43_25h f43_25l
theorem f43_25e:aC P id m f43_25 sf st Q = ap P id sf.locs st f43_25h (aZ P id m [8] [0,6,8] [6,8] f43_25l Q st) [] ⟨sf.regs,aY [8] sf.locs⟩:=rfl
def f43_27l:List GI:=[vd 44 6 2,
    vl 45 44,
    vd 46 8 2,
    ⟨none,.store 1 (.r 46) (.r 45)⟩]
def f43_28h:List GI:=[vv 47 0,
    vn 48 47,
    vd 49 48 3,
    vl 50 49,
    vd 51 6 1,
    vl 52 51,
    ⟨none,.load (some 53) (.r 8) (some 3)⟩]
def f43_28l:List GI:=[⟨none,.upd (.int .u64) (.r 50) (.r 52) (.r 53)⟩]
def f43_28:AC:=.draw [0,6] [6] [] f43_28h f43_28l
theorem f43_28e:aC P id m f43_28 sf st Q = ap P id sf.locs st f43_28h (aZ P id m [] [0,6] [6] f43_28l Q st) [] ⟨sf.regs,aY [] sf.locs⟩:=rfl
def f43_26:AC:=.seq (.ops [0,6,8] [6,8] f43_27l) f43_28
theorem f43_26e:SO f43_26 f43_27l [0,6,8] [6,8] f43_28:=rfl
def f43_24:AC:=.seq f43_25 f43_26
theorem f43_24e:SQ f43_24 f43_25 f43_26:=rfl
def f43_22:AC:=.cond (.r 30) f43_23 f43_24
theorem f43_22e:CN f43_22 30 f43_23 f43_24:=rfl
def f43_20:AC:=.seq (.ops [0,6,30] [6] f43_21l) f43_22
theorem f43_20e:SO f43_20 f43_21l [0,6,30] [6] f43_22:=rfl
def f43_31l:List GI:=[vd 54 6 2,
    vl 55 54,
    ⟨none,.bin (some 56) .num .eql (.r 55) (.c (.lit (.int .u64 0)))⟩]
def f43_33l:List GI:=[vv 57 0,
    vd 58 6 1,
    vl 59 58,
    vn 60 57,
    vd 61 60 0,
    vd 62 61 1,
    ⟨none,.store 1 (.r 62) (.r 59)⟩]
def f43_33:AC:=.ops [6] [6] f43_33l
theorem f43_33e:OP f43_33 f43_33l [6] [6]:=rfl
def f43_35h:List GI:=[vv 63 0,
    vn 64 63,
    vd 65 64 3,
    vl 66 65,
    vd 67 6 2,
    vl 68 67,
    ⟨none,.lookup (some 69) (.int .u64) (.agg [(.lit (.int .i64 0)),(.lit (.int .u64 0)),(.lit (.int .u64 0))]) false (.r 66) (.r 68)⟩,
    ⟨none,.newL 9 [(.lit (.int .i64 0)),(.lit (.int .u64 0)),(.lit (.int .u64 0))]⟩]
def f43_35l:List GI:=[⟨none,.store 3 (.r 9) (.r 69)⟩]
def f43_35:AC:=.draw [0,6,9] [6,9] [9] f43_35h f43_35l
theorem f43_35e:aC P id m f43_35 sf st Q = ap P id sf.locs st f43_35h (aZ P id m [9] [0,6,9] [6,9] f43_35l Q st) [] ⟨sf.regs,aY [9] sf.locs⟩:=rfl
def f43_37l:List GI:=[vd 70 6 1,
    vl 71 70,
    vd 72 9 1,
    ⟨none,.store 1 (.r 72) (.r 71)⟩]
def f43_38h:List GI:=[vv 73 0,
    vn 74 73,
    vd 75 74 3,
    vl 76 75,
    vd 77 6 2,
    vl 78 77,
    ⟨none,.load (some 79) (.r 9) (some 3)⟩]
def f43_38l:List GI:=[⟨none,.upd (.int .u64) (.r 76) (.r 78) (.r 79)⟩]
def f43_38:AC:=.draw [6] [6] [] f43_38h f43_38l
theorem f43_38e:aC P id m f43_38 sf st Q = ap P id sf.locs st f43_38h (aZ P id m [] [6] [6] f43_38l Q st) [] ⟨sf.regs,aY [] sf.locs⟩:=rfl
def f43_36:AC:=.seq (.ops [0,6,9] [6,9] f43_37l) f43_38
theorem f43_36e:SO f43_36 f43_37l [0,6,9] [6,9] f43_38:=rfl
def f43_34:AC:=.seq f43_35 f43_36
theorem f43_34e:SQ f43_34 f43_35 f43_36:=rfl
def f43_32:AC:=.cond (.r 56) f43_33 f43_34
theorem f43_32e:CN f43_32 56 f43_33 f43_34:=rfl
def f43_30:AC:=.seq (.ops [0,6,56] [6] f43_31l) f43_32
theorem f43_30e:SO f43_30 f43_31l [0,6,56] [6] f43_32:=rfl
def f43_40l:List GI:=[vd 80 6 0,
    vl 81 80,
    vo 4 81,
    ⟨none,.mv (some 5) (.c (.lit (.int .i64 0)))⟩]
def f43_39:AC:=.seq (.ops [4,5] [] f43_40l) .ret
theorem f43_39e:SO f43_39 f43_40l [4,5] [] .ret:=rfl
def f43_29:AC:=.seq f43_30 f43_39
theorem f43_29e:SQ f43_29 f43_30 f43_39:=rfl
def f43_19:AC:=.seq f43_20 f43_29
theorem f43_19e:SQ f43_19 f43_20 f43_29:=rfl
def f43_17:AC:=.seq (.ops [0,6] [6] f43_18l) f43_19
theorem f43_17e:SO f43_17 f43_18l [0,6] [6] f43_19:=rfl
def f43_11:AC:=.seq f43_12 f43_17
theorem f43_11e:SQ f43_11 f43_12 f43_17:=rfl
def f43_9:AC:=.seq (.ops [0,1,6,7] [6] f43_10l) f43_11
theorem f43_9e:SO f43_9 f43_10l [0,1,6,7] [6] f43_11:=rfl
def f43_3:AC:=.seq f43_4 f43_9
theorem f43_3e:SQ f43_3 f43_4 f43_9:=rfl
def f43_1:AC:=.seq (.ops [0,1] [] f43_2l) f43_3
theorem f43_1e:SO f43_1 f43_2l [0,1] [] f43_3:=rfl
def c_f43:AFun:=⟨82,[.tmp 4,.tmp 5],f43_1⟩
theorem k_f43:aH Go.Proofs.Try.prog x_f43 43 = some c_f43:=by kernel_rfl
theorem e_f43:al Go.Proofs.Try.prog 43 = true:=by kernel_rfl

def n_f44:Nat:=44
def x_f44:Cx:=⟨some,id,12,fun s=>([0,2,3,4,5,9,10,11]:List Nat).contains s,fun s=>([]:List Nat).contains s,msOf [(2,[0],[]),(6,[2],[])]⟩
def f44_2l:List GI:=[⟨none,.mv (some 2) (.c (.lit (.bool false)))⟩]
def f44_4l:List GI:=[vv 3 0,
    ⟨none,.bin (some 4) (.nil .ptr) .eql (.r 3) (.c (.lit (.pointer none)))⟩,
    vv 5 4,
    ⟨some (5,false),.mv (some 6) (.r 0)⟩,
    ⟨some (5,false),.nilck (some 7) (.r 6)⟩,
    ⟨some (5,false),.addr (some 8) (.r 7) 0⟩,
    ⟨some (5,false),.load (some 9) (.r 8) none⟩,
    ⟨some (5,false),.un (some 10) .not (.r 9)⟩,
    ⟨none,.pick (some 11) (.r 5) (.c (.lit (.bool true))) (.r 10)⟩,
    vo 2 11]
def f44_3:AC:=.seq (.ops [2] [] f44_4l) .ret
theorem f44_3e:SO f44_3 f44_4l [2] [] .ret:=rfl
def f44_1:AC:=.seq (.ops [0] [] f44_2l) f44_3
theorem f44_1e:SO f44_1 f44_2l [0] [] f44_3:=rfl
def c_f44:AFun:=⟨12,[.tmp 2],f44_1⟩
theorem k_f44:aH Go.Proofs.Try.prog x_f44 44 = some c_f44:=by kernel_rfl
theorem e_f44:al Go.Proofs.Try.prog 44 = true:=by kernel_rfl

def n_f45:Nat:=45
def x_f45:Cx:=⟨some,id,36,fun s=>([1,4,5,6,8,9,11,15,16,17,18,19,20,25,26,27,28,32,33,34,35]:List Nat).contains s,fun s=>([]:List Nat).contains s,msOf [(2,[0,1],[]),(6,[0,4,8],[]),(28,[0,4,21],[]),(116,[4,5,6],[]),(30,[0,4,5],[]),(62,[4,5],[]),(126,[4,5,6],[])]⟩
def f45_2l:List GI:=[⟨none,.mv (some 4) (.c (.lit (.int .i64 0)))⟩,
    ⟨none,.mv (some 5) (.c (.lit (.int .i64 0)))⟩,
    ⟨none,.mv (some 6) (.c (.lit (.bool false)))⟩]
def f45_4l:List GI:=[vv 10 0,
    vv 11 1,
    vn 12 10,
    vd 13 12 4,
    ⟨none,.ixA (some 14) (.r 13) (.r 11) 2 1⟩,
    vl 15 14,
    ⟨none,.call (some 16) false (.f 63) [(.r 15)]⟩,
    vv 9 16,
    ve 17 9 0,
    ve 18 9 1,
    ve 19 9 2,
    vo 4 17,
    vo 7 18,
    vo 8 19]
def f45_7l:List GI:=[vv 20 8,
    vb 21 .neq 20 0]
def f45_10l:List GI:=[⟨none,.mv (some 4) (.c (.lit (.int .i64 0)))⟩,
    ⟨none,.mv (some 5) (.c (.lit (.int .i64 0)))⟩,
    ⟨none,.mv (some 6) (.c (.lit (.bool false)))⟩]
def f45_9:AC:=.seq (.ops [4,5,6] [] f45_10l) .ret
theorem f45_9e:SO f45_9 f45_10l [4,5,6] [] .ret:=rfl
def f45_8:AC:=.cond (.r 21) f45_9 .skip
theorem f45_8e:CN f45_8 21 f45_9 .skip:=rfl
def f45_6:AC:=.seq (.ops [0,4,21] [] f45_7l) f45_8
theorem f45_6e:SO f45_6 f45_7l [0,4,21] [] f45_8:=rfl
def f45_12l:List GI:=[vv 22 0,
    vn 23 22,
    vd 24 23 6,
    vl 25 24,
    vv 26 4,
    ⟨none,.lookup (some 27) (.int .i64) (.agg [(.lit (.int .i64 0)),(.lit (.int .i64 0)),(.lit (.int .u64 0))]) false (.r 25) (.r 26)⟩,
    ⟨none,.field (some 28) (.r 27) 1 none⟩,
    vo 5 28]
def f45_14l:List GI:=[vv 29 0,
    vn 30 29,
    vd 31 30 6,
    vl 32 31,
    vv 33 4,
    ⟨none,.del (.int .i64) (.r 32) (.r 33)⟩]
def f45_16l:List GI:=[vv 34 4,
    vv 35 5,
    vo 4 34,
    vo 5 35,
    ⟨none,.mv (some 6) (.c (.lit (.bool true)))⟩]
def f45_15:AC:=.seq (.ops [4,5,6] [] f45_16l) .ret
theorem f45_15e:SO f45_15 f45_16l [4,5,6] [] .ret:=rfl
def f45_13:AC:=.seq (.ops [4,5] [] f45_14l) f45_15
theorem f45_13e:SO f45_13 f45_14l [4,5] [] f45_15:=rfl
def f45_11:AC:=.seq (.ops [0,4,5] [] f45_12l) f45_13
theorem f45_11e:SO f45_11 f45_12l [0,4,5] [] f45_13:=rfl
def f45_5:AC:=.seq f45_6 f45_11
theorem f45_5e:SQ f45_5 f45_6 f45_11:=rfl
def f45_3:AC:=.seq (.ops [0,4,8] [] f45_4l) f45_5
theorem f45_3e:SO f45_3 f45_4l [0,4,8] [] f45_5:=rfl
def f45_1:AC:=.seq (.ops [0,1] [] f45_2l) f45_3
theorem f45_1e:SO f45_1 f45_2l [0,1] [] f45_3:=rfl
def c_f45:AFun:=⟨36,[.tmp 4,.tmp 5,.tmp 6],f45_1⟩
theorem k_f45:aH Go.Proofs.Try.prog x_f45 45 = some c_f45:=by kernel_rfl
theorem e_f45:al Go.Proofs.Try.prog 45 = true:=by kernel_rfl

def n_f46:Nat:=46
def x_f46:Cx:=⟨some,id,27,fun s=>([0,1,4,5,6,7,8,9,10,11,12,16,17,18,24,26]:List Nat).contains s,fun s=>([]:List Nat).contains s,msOf [(2,[0,1],[]),(12,[0,1,19],[]),(52,[4],[]),(14,[4],[])]⟩
def f46_2l:List GI:=[⟨none,.mv (some 4) (.c (.lit (.pointer none)))⟩]
def f46_5l:List GI:=[vv 5 0,
    ⟨none,.call (some 6) false (.f 51) [(.r 5)]⟩,
    vv 7 6,
    ⟨some (7,false),.mv (some 8) (.r 1)⟩,
    ⟨some (7,false),.bin (some 9) .num .lss (.r 8) (.c (.lit (.int .i64 0)))⟩,
    ⟨none,.pick (some 10) (.r 7) (.c (.lit (.bool true))) (.r 9)⟩,
    vv 11 10,
    ⟨some (11,false),.mv (some 12) (.r 1)⟩,
    ⟨some (11,false),.mv (some 13) (.r 0)⟩,
    ⟨some (11,false),.nilck (some 14) (.r 13)⟩,
    ⟨some (11,false),.addr (some 15) (.r 14) 0⟩,
    ⟨some (11,false),.load (some 16) (.r 15) none⟩,
    ⟨some (11,false),.len (some 17) .sl (.r 16)⟩,
    ⟨some (11,false),.bin (some 18) .num .geq (.r 12) (.r 17)⟩,
    ⟨none,.pick (some 19) (.r 11) (.c (.lit (.bool true))) (.r 18)⟩]
def f46_8l:List GI:=[⟨none,.mv (some 4) (.c (.lit (.pointer none)))⟩]
def f46_7:AC:=.seq (.ops [4] [] f46_8l) .ret
theorem f46_7e:SO f46_7 f46_8l [4] [] .ret:=rfl
def f46_6:AC:=.cond (.r 19) f46_7 .skip
theorem f46_6e:CN f46_6 19 f46_7 .skip:=rfl
def f46_4:AC:=.seq (.ops [0,1,19] [] f46_5l) f46_6
theorem f46_4e:SO f46_4 f46_5l [0,1,19] [] f46_6:=rfl
def f46_10l:List GI:=[vv 20 0,
    vn 21 20,
    vd 22 21 0,
    vl 23 22,
    vv 24 1,
    ⟨none,.ixS (some 25) (.r 23) (.r 24) 1⟩,
    vl 26 25,
    vo 4 26]
def f46_9:AC:=.seq (.ops [4] [] f46_10l) .ret
theorem f46_9e:SO f46_9 f46_10l [4] [] .ret:=rfl
def f46_3:AC:=.seq f46_4 f46_9
theorem f46_3e:SQ f46_3 f46_4 f46_9:=rfl
def f46_1:AC:=.seq (.ops [0,1] [] f46_2l) f46_3
theorem f46_1e:SO f46_1 f46_2l [0,1] [] f46_3:=rfl
def c_f46:AFun:=⟨27,[.tmp 4],f46_1⟩
theorem k_f46:aH Go.Proofs.Try.prog x_f46 46 = some c_f46:=by kernel_rfl
theorem e_f46:al Go.Proofs.Try.prog 46 = true:=by kernel_rfl

def n_f47:Nat:=47
def x_f47:Cx:=⟨some,id,26,fun s=>([0,1,4,5,6,7,8,9,11,12,13,15,16,18,20,22,24]:List Nat).contains s,fun s=>([]:List Nat).contains s,msOf [(2,[0,1],[]),(12,[0,1,10],[]),(52,[4],[]),(28,[0,1,5],[]),(58,[0,1,5],[]),(464,[0,1,5,14],[]),(931,[],[]),(1864,[0,1,5,25],[]),(7460,[4],[]),(467,[0,1,5],[]),(30,[4],[])]⟩
def f47_2l:List GI:=[⟨none,.mv (some 4) (.c (.lit (.bool false)))⟩]
def f47_5l:List GI:=[vv 6 0,
    ⟨none,.len (some 7) .sl (.r 6)⟩,
    vv 8 1,
    ⟨none,.len (some 9) .sl (.r 8)⟩,
    ⟨none,.bin (some 10) .num .neq (.r 7) (.r 9)⟩]
def f47_8l:List GI:=[⟨none,.mv (some 4) (.c (.lit (.bool false)))⟩]
def f47_7:AC:=.seq (.ops [4] [] f47_8l) .ret
theorem f47_7e:SO f47_7 f47_8l [4] [] .ret:=rfl
def f47_6:AC:=.cond (.r 10) f47_7 .skip
theorem f47_6e:CN f47_6 10 f47_7 .skip:=rfl
def f47_4:AC:=.seq (.ops [0,1,10] [] f47_5l) f47_6
theorem f47_4e:SO f47_4 f47_5l [0,1,10] [] f47_6:=rfl
def f47_11l:List GI:=[⟨none,.mv (some 5) (.c (.lit (.int .i64 0)))⟩]
def f47_16l:List GI:=[vv 11 5,
    vv 12 0,
    ⟨none,.len (some 13) .sl (.r 12)⟩,
    ⟨none,.bin (some 14) .num .lss (.r 11) (.r 13)⟩]
def f47_17:AC:=.cond (.r 14) .skip (.exit [] [] 0)
theorem f47_17e:CN f47_17 14 .skip (.exit [] [] 0):=rfl
def f47_15:AC:=.seq (.ops [0,1,5,14] [] f47_16l) f47_17
theorem f47_15e:SO f47_15 f47_16l [0,1,5,14] [] f47_17:=rfl
def f47_21h:List GI:=[vv 17 0,
    vv 18 5,
    ⟨none,.ixS (some 19) (.r 17) (.r 18) 1⟩,
    vl 20 19,
    vv 21 1,
    vv 22 5,
    ⟨none,.ixS (some 23) (.r 21) (.r 22) 1⟩,
    vl 24 23]
def f47_21l:List GI:=[⟨none,.bin (some 25) .num .neq (.r 20) (.r 24)⟩]
def f47_21:AC:=.draw [0,1,5,25] [] [] f47_21h f47_21l
theorem f47_21e:aC P id m f47_21 sf st Q = ap P id sf.locs st f47_21h (aZ P id m [] [0,1,5,25] [] f47_21l Q st) [] ⟨sf.regs,aY [] sf.locs⟩:=rfl
def f47_24l:List GI:=[⟨none,.mv (some 4) (.c (.lit (.bool false)))⟩]
def f47_23:AC:=.seq (.ops [4] [] f47_24l) .ret
theorem f47_23e:SO f47_23 f47_24l [4] [] .ret:=rfl
def f47_22:AC:=.cond (.r 25) f47_23 .skip
theorem f47_22e:CN f47_22 25 f47_23 .skip:=rfl
def f47_20:AC:=.seq f47_21 f47_22
theorem f47_20e:SQ f47_20 f47_21 f47_22:=rfl
def f47_19:AC:=.block 1 f47_20
theorem f47_19e:BL f47_19 f47_20 1:=rfl
def f47_25l:List GI:=[vv 15 5,
    vb 16 .add 15 1,
    vo 5 16]
def f47_25:AC:=.ops [0,1,5] [] f47_25l
theorem f47_25e:OP f47_25 f47_25l [0,1,5] []:=rfl
def f47_18:AC:=.seq f47_19 f47_25
theorem f47_18e:SQ f47_18 f47_19 f47_25:=rfl
def f47_14:AC:=.seq f47_15 f47_18
theorem f47_14e:SQ f47_14 f47_15 f47_18:=rfl
def f47_13:AC:=.loop [0,1,5] [] f47_14
theorem f47_13w:aC P id m f47_13 sf st Q = aO (aC P id m f47_14) [0,1,5] [] sf st Q:=rfl
def f47_12:AC:=.block 0 f47_13
theorem f47_12e:BL f47_12 f47_13 0:=rfl
def f47_10:AC:=.seq (.ops [0,1,5] [] f47_11l) f47_12
theorem f47_10e:SO f47_10 f47_11l [0,1,5] [] f47_12:=rfl
def f47_27l:List GI:=[⟨none,.mv (some 4) (.c (.lit (.bool true)))⟩]
def f47_26:AC:=.seq (.ops [4] [] f47_27l) .ret
theorem f47_26e:SO f47_26 f47_27l [4] [] .ret:=rfl
def f47_9:AC:=.seq f47_10 f47_26
theorem f47_9e:SQ f47_9 f47_10 f47_26:=rfl
def f47_3:AC:=.seq f47_4 f47_9
theorem f47_3e:SQ f47_3 f47_4 f47_9:=rfl
def f47_1:AC:=.seq (.ops [0,1] [] f47_2l) f47_3
theorem f47_1e:SO f47_1 f47_2l [0,1] [] f47_3:=rfl
def c_f47:AFun:=⟨26,[.tmp 4],f47_1⟩
theorem k_f47:aH Go.Proofs.Try.prog x_f47 47 = some c_f47:=by kernel_rfl
theorem e_f47:al Go.Proofs.Try.prog 47 = true:=by kernel_rfl

def n_f48:Nat:=48
def x_f48:Cx:=⟨some,id,22,fun s=>([0,2,3,4,5,7,8,10,11,12,15,18,19,20,21]:List Nat).contains s,fun s=>([]:List Nat).contains s,msOf [(2,[1],[1]),(6,[1,3],[1]),(28,[1,3,4],[1]),(58,[1,3,4],[1]),(464,[1,3,4,9],[1]),(931,[3],[]),(932,[1,3,4],[1]),(467,[1,3,4],[1]),(30,[2],[])]⟩
def f48_2l:List GI:=[⟨none,.boxL 1 2 (.r 0)⟩,
    ⟨none,.mv (some 2) (.c (.lit (.slice none 0 0)))⟩]
def f48_4l:List GI:=[⟨none,.mv (some 3) (.c (.lit (.slice none 0 0)))⟩]
def f48_7l:List GI:=[⟨none,.mv (some 4) (.c (.lit (.int .i64 0)))⟩]
def f48_12l:List GI:=[vv 5 4,
    vd 6 1 1,
    vl 7 6,
    ⟨none,.len (some 8) .sl (.r 7)⟩,
    ⟨none,.bin (some 9) .num .lss (.r 5) (.r 8)⟩]
def f48_13:AC:=.cond (.r 9) .skip (.exit [3] [] 0)
theorem f48_13e:CN f48_13 9 .skip (.exit [3] [] 0):=rfl
def f48_11:AC:=.seq (.ops [1,3,4,9] [1] f48_12l) f48_13
theorem f48_11e:SO f48_11 f48_12l [1,3,4,9] [1] f48_13:=rfl
def f48_16l:List GI:=[vo 12 3,
    vd 13 1 1,
    vl 14 13,
    vv 15 4,
    ⟨none,.ixS (some 16) (.r 14) (.r 15) 2⟩,
    vd 17 16 0,
    vl 18 17,
    ⟨none,.bsl (some 19) 1 1 (.lit (.int .i64 0)) [(0,(.r 18))]⟩,
    ⟨none,.appS 20 12 1 8 (.r 19)⟩,
    vo 3 20]
def f48_16:AC:=.ops [1,3,4] [1] f48_16l
theorem f48_16e:OP f48_16 f48_16l [1,3,4] [1]:=rfl
def f48_15:AC:=.block 1 f48_16
theorem f48_15e:BL f48_15 f48_16 1:=rfl
def f48_17l:List GI:=[vv 10 4,
    vb 11 .add 10 1,
    vo 4 11]
def f48_17:AC:=.ops [1,3,4] [1] f48_17l
theorem f48_17e:OP f48_17 f48_17l [1,3,4] [1]:=rfl
def f48_14:AC:=.seq f48_15 f48_17
theorem f48_14e:SQ f48_14 f48_15 f48_17:=rfl
def f48_10:AC:=.seq f48_11 f48_14
theorem f48_10e:SQ f48_10 f48_11 f48_14:=rfl
def f48_9:AC:=.loop [1,3,4] [1] f48_10
theorem f48_9w:aC P id m f48_9 sf st Q = aO (aC P id m f48_10) [1,3,4] [1] sf st Q:=rfl
def f48_8:AC:=.block 0 f48_9
theorem f48_8e:BL f48_8 f48_9 0:=rfl
def f48_6:AC:=.seq (.ops [1,3,4] [1] f48_7l) f48_8
theorem f48_6e:SO f48_6 f48_7l [1,3,4] [1] f48_8:=rfl
def f48_19l:List GI:=[vv 21 3,
    vo 2 21]
def f48_18:AC:=.seq (.ops [2] [] f48_19l) .ret
theorem f48_18e:SO f48_18 f48_19l [2] [] .ret:=rfl
def f48_5:AC:=.seq f48_6 f48_18
theorem f48_5e:SQ f48_5 f48_6 f48_18:=rfl
def f48_3:AC:=.seq (.ops [1,3] [1] f48_4l) f48_5
theorem f48_3e:SO f48_3 f48_4l [1,3] [1] f48_5:=rfl
def f48_1:AC:=.seq (.ops [1] [1] f48_2l) f48_3
theorem f48_1e:SO f48_1 f48_2l [1] [1] f48_3:=rfl
def c_f48:AFun:=⟨22,[.tmp 2],f48_1⟩
theorem k_f48:aH Go.Proofs.Try.prog x_f48 48 = some c_f48:=by kernel_rfl
theorem e_f48:al Go.Proofs.Try.prog 48 = true:=by kernel_rfl

def n_f51:Nat:=51
def x_f51:Cx:=⟨some,id,12,fun s=>([0,2,3,4,5,9,10,11]:List Nat).contains s,fun s=>([]:List Nat).contains s,msOf [(2,[0],[]),(6,[2],[])]⟩
def f51_2l:List GI:=[⟨none,.mv (some 2) (.c (.lit (.bool false)))⟩]
def f51_4l:List GI:=[vv 3 0,
    ⟨none,.bin (some 4) (.nil .ptr) .eql (.r 3) (.c (.lit (.pointer none)))⟩,
    vv 5 4,
    ⟨some (5,false),.mv (some 6) (.r 0)⟩,
    ⟨some (5,false),.nilck (some 7) (.r 6)⟩,
    ⟨some (5,false),.addr (some 8) (.r 7) 2⟩,
    ⟨some (5,false),.load (some 9) (.r 8) none⟩,
    ⟨some (5,false),.bin (some 10) (.nil .mp) .eql (.r 9) (.c (.lit (.map none)))⟩,
    ⟨none,.pick (some 11) (.r 5) (.c (.lit (.bool true))) (.r 10)⟩,
    vo 2 11]
def f51_3:AC:=.seq (.ops [2] [] f51_4l) .ret
theorem f51_3e:SO f51_3 f51_4l [2] [] .ret:=rfl
def f51_1:AC:=.seq (.ops [0] [] f51_2l) f51_3
theorem f51_1e:SO f51_1 f51_2l [0] [] f51_3:=rfl
def c_f51:AFun:=⟨12,[.tmp 2],f51_1⟩
theorem k_f51:aH Go.Proofs.Try.prog x_f51 51 = some c_f51:=by kernel_rfl
theorem e_f51:al Go.Proofs.Try.prog 51 = true:=by kernel_rfl

def n_f52:Nat:=52
def x_f52:Cx:=⟨some,id,8,fun s=>([0,2,3,5,6,7]:List Nat).contains s,fun s=>([5,7]:List Nat).contains s,msOf [(2,[0],[]),(12,[0,4],[]),(52,[2],[]),(14,[2],[])]⟩
def f52_2l:List GI:=[⟨none,.mv (some 2) (.c (.lit (.slice none 0 0)))⟩]
def f52_5l:List GI:=[vv 3 0,
    ⟨none,.x (some 4) (.nilU .eql (.r 3) (.c (.lit (.slice none 0 0))))⟩]
def f52_8l:List GI:=[⟨none,.mv (some 2) (.c (.lit (.slice none 0 0)))⟩]
def f52_7:AC:=.seq (.ops [2] [] f52_8l) .ret
theorem f52_7e:SO f52_7 f52_8l [2] [] .ret:=rfl
def f52_6:AC:=.cond (.r 4) f52_7 .skip
theorem f52_6e:CN f52_6 4 f52_7 .skip:=rfl
def f52_4:AC:=.seq (.ops [0,4] [] f52_5l) f52_6
theorem f52_4e:SO f52_4 f52_5l [0,4] [] f52_6:=rfl
def f52_10l:List GI:=[⟨none,.x (some 5) (.mksB 1 8 (.lit (.int .i64 0)) (.c (.lit (.int .i64 0))) (.c (.lit (.int .i64 0))))⟩,
    vv 6 0,
    ⟨none,.x (some 7) (.appB (.r 5) 1 8 (.r 6))⟩,
    vo 2 7]
def f52_9:AC:=.seq (.ops [2] [] f52_10l) .ret
theorem f52_9e:SO f52_9 f52_10l [2] [] .ret:=rfl
def f52_3:AC:=.seq f52_4 f52_9
theorem f52_3e:SQ f52_3 f52_4 f52_9:=rfl
def f52_1:AC:=.seq (.ops [0] [] f52_2l) f52_3
theorem f52_1e:SO f52_1 f52_2l [0] [] f52_3:=rfl
def c_f52:AFun:=⟨8,[.tmp 2],f52_1⟩
theorem k_f52:aH Go.Proofs.Try.prog x_f52 52 = some c_f52:=by kernel_rfl
theorem e_f52:al Go.Proofs.Try.prog 52 = true:=by kernel_rfl

def n_f53:Nat:=53
def x_f53:Cx:=⟨some,id,40,fun s=>([1,4,8,9,10,13,15,16,17,19,23,24,25,26,27,29,31,34,36,37,38,39]:List Nat).contains s,fun s=>([]:List Nat).contains s,msOf [(2,[0,1],[]),(6,[0,1,5],[5]),(28,[0,1,5,8,9,10],[5]),(58,[0,1,5,8,9,10],[5]),(232,[0,1,5,8,9,10,11],[5]),(933,[1],[]),(3736,[0,1,5,7,8,9,10],[5,7]),(14948,[0,1,5,7,8,9,10,32],[5,7]),(59796,[4],[]),(7475,[0,1,5,8,9,10],[5]),(935,[0,1,5,8,9,10],[5]),(30,[4],[])]⟩
def f53_2l:List GI:=[⟨none,.mv (some 4) (.c (.lit (.bool false)))⟩]
def f53_4l:List GI:=[⟨none,.newL 5 [(.lit (.bool false)),(.lit (.bool false)),(.lit (.bool false)),(.lit (.bool false)),(.lit (.bool false)),(.lit (.bool false)),(.lit (.bool false)),(.lit (.bool false)),(.lit (.bool false)),(.lit (.bool false)),(.lit (.bool false)),(.lit (.bool false)),(.lit (.bool false)),(.lit (.bool false)),(.lit (.bool false)),(.lit (.bool false))]⟩]
def f53_7l:List GI:=[vv 8 1,
    ⟨none,.len (some 9) .sl (.r 8)⟩,
    ⟨none,.mv (some 10) (.c (.lit (.int .i64 0)))⟩]
def f53_11l:List GI:=[⟨none,.bin (some 11) .num .lss (.r 10) (.r 9)⟩]
def f53_13:AC:=.cond (.r 11) .skip (.exit [1] [] 0)
theorem f53_13e:CN f53_13 11 .skip (.exit [1] [] 0):=rfl
def f53_17l:List GI:=[⟨none,.ixS (some 12) (.r 8) (.r 10) 3⟩,
    ⟨none,.load (some 13) (.r 12) (some 3)⟩,
    ⟨none,.newL 7 [(.lit (.int .i64 0)),(.lit (.bool false)),(.lit (.int .i64 0))]⟩,
    ⟨none,.store 3 (.r 7) (.r 13)⟩]
def f53_20h:List GI:=[vd 14 7 0,
    vl 15 14,
    vb 16 .lss 15 0,
    vv 17 16,
    ⟨some (17,false),.addr (some 18) (.r 7) 0⟩,
    ⟨some (17,false),.load (some 19) (.r 18) none⟩,
    ⟨some (17,false),.mv (some 20) (.r 0)⟩,
    ⟨some (17,false),.nilck (some 21) (.r 20)⟩,
    ⟨some (17,false),.addr (some 22) (.r 21) 0⟩,
    ⟨some (17,false),.load (some 23) (.r 22) none⟩,
    ⟨some (17,false),.len (some 24) .sl (.r 23)⟩]
def f53_20l:List GI:=[⟨some (17,false),.bin (some 25) .num .geq (.r 19) (.r 24)⟩,
    ⟨none,.pick (some 26) (.r 17) (.c (.lit (.bool true))) (.r 25)⟩,
    vv 27 26,
    ⟨some (27,false),.addr (some 28) (.r 7) 0⟩,
    ⟨some (27,false),.load (some 29) (.r 28) none⟩,
    ⟨some (27,false),.ixA (some 30) (.r 5) (.r 29) 16 1⟩,
    ⟨some (27,false),.load (some 31) (.r 30) none⟩,
    ⟨none,.pick (some 32) (.r 27) (.c (.lit (.bool true))) (.r 31)⟩]
def f53_20:AC:=.draw [0,1,5,7,8,9,10,32] [5,7] [] f53_20h f53_20l
theorem f53_20e:aC P id m f53_20 sf st Q = ap P id sf.locs st f53_20h (aZ P id m [] [0,1,5,7,8,9,10,32] [5,7] f53_20l Q st) [] ⟨sf.regs,aY [] sf.locs⟩:=rfl
def f53_23l:List GI:=[⟨none,.mv (some 4) (.c (.lit (.bool false)))⟩]
def f53_22:AC:=.seq (.ops [4] [] f53_23l) .ret
theorem f53_22e:SO f53_22 f53_23l [4] [] .ret:=rfl
def f53_21:AC:=.cond (.r 32) f53_22 .skip
theorem f53_21e:CN f53_21 32 f53_22 .skip:=rfl
def f53_19:AC:=.seq f53_20 f53_21
theorem f53_19e:SQ f53_19 f53_20 f53_21:=rfl
def f53_24l:List GI:=[vd 33 7 0,
    vl 34 33,
    ⟨none,.ixA (some 35) (.r 5) (.r 34) 16 1⟩,
    ⟨none,.store 1 (.r 35) (.c (.lit (.bool true)))⟩]
def f53_24:AC:=.ops [0,1,5,8,9,10] [5] f53_24l
theorem f53_24e:OP f53_24 f53_24l [0,1,5,8,9,10] [5]:=rfl
def f53_18:AC:=.seq f53_19 f53_24
theorem f53_18e:SQ f53_18 f53_19 f53_24:=rfl
def f53_16:AC:=.seq (.ops [0,1,5,7,8,9,10] [5,7] f53_17l) f53_18
theorem f53_16e:SO f53_16 f53_17l [0,1,5,7,8,9,10] [5,7] f53_18:=rfl
def f53_15:AC:=.block 1 f53_16
theorem f53_15e:BL f53_15 f53_16 1:=rfl
def f53_25l:List GI:=[vb 36 .add 10 1,
    vv 10 36]
def f53_25:AC:=.ops [0,1,5,8,9,10] [5] f53_25l
theorem f53_25e:OP f53_25 f53_25l [0,1,5,8,9,10] [5]:=rfl
def f53_14:AC:=.seq f53_15 f53_25
theorem f53_14e:SQ f53_14 f53_15 f53_25:=rfl
def f53_12:AC:=.seq f53_13 f53_14
theorem f53_12e:SQ f53_12 f53_13 f53_14:=rfl
def f53_10:AC:=.seq (.ops [0,1,5,8,9,10,11] [5] f53_11l) f53_12
theorem f53_10e:SO f53_10 f53_11l [0,1,5,8,9,10,11] [5] f53_12:=rfl
def f53_9:AC:=.loop [0,1,5,8,9,10] [5] f53_10
theorem f53_9w:aC P id m f53_9 sf st Q = aO (aC P id m f53_10) [0,1,5,8,9,10] [5] sf st Q:=rfl
def f53_8:AC:=.block 0 f53_9
theorem f53_8e:BL f53_8 f53_9 0:=rfl
def f53_6:AC:=.seq (.ops [0,1,5,8,9,10] [5] f53_7l) f53_8
theorem f53_6e:SO f53_6 f53_7l [0,1,5,8,9,10] [5] f53_8:=rfl
def f53_27l:List GI:=[vv 37 1,
    ⟨none,.len (some 38) .sl (.r 37)⟩,
    vb 39 .gtr 38 0,
    vo 4 39]
def f53_26:AC:=.seq (.ops [4] [] f53_27l) .ret
theorem f53_26e:SO f53_26 f53_27l [4] [] .ret:=rfl
def f53_5:AC:=.seq f53_6 f53_26
theorem f53_5e:SQ f53_5 f53_6 f53_26:=rfl
def f53_3:AC:=.seq (.ops [0,1,5] [5] f53_4l) f53_5
theorem f53_3e:SO f53_3 f53_4l [0,1,5] [5] f53_5:=rfl
def f53_1:AC:=.seq (.ops [0,1] [] f53_2l) f53_3
theorem f53_1e:SO f53_1 f53_2l [0,1] [] f53_3:=rfl
def c_f53:AFun:=⟨40,[.tmp 4],f53_1⟩
theorem k_f53:aH Go.Proofs.Try.prog x_f53 53 = some c_f53:=by kernel_rfl
theorem e_f53:al Go.Proofs.Try.prog 53 = true:=by kernel_rfl

def n_f54:Nat:=54
def x_f54:Cx:=⟨some,id,65,fun s=>([1,4,5,6,8,9,10,12,13,14,16,18,24,26,27,28,29,30,31,32,33,34,35,36,37,38,39,40,41,42,45,46,47,48,49,50,51,52,53,54,55,56,57,59,60,61,62,63,64]:List Nat).contains s,fun s=>([]:List Nat).contains s,msOf [(2,[0,1],[]),(6,[0,1,5],[]),(28,[0,5,12,13,14],[]),(58,[0,5,12,13,14],[]),(232,[0,5,12,13,14,15],[]),(933,[5],[]),(3736,[0,5,6,7,12,13,14],[7]),(7474,[0,5,6,7,8,12,13,14],[7]),(14950,[0,5,6,7,8,9,10,12,13,14],[7]),(29902,[0,5,6,7,8,10,11,12,13,14],[7]),(119612,[0,5,6,8,10,11,12,13,14,44],[]),(239226,[0,5,6,11,12,13,14],[]),(119614,[0,5,6,12,13,14,58],[]),(239230,[0,5,12,13,14],[]),(935,[0,5,12,13,14],[]),(30,[4],[])]⟩
def f54_2l:List GI:=[⟨none,.mv (some 4) (.c (.lit (.slice none 0 0)))⟩]
def f54_4l:List GI:=[⟨none,.mv (some 5) (.c (.lit (.slice none 0 0)))⟩]
def f54_7l:List GI:=[vv 12 1,
    ⟨none,.len (some 13) .sl (.r 12)⟩,
    ⟨none,.mv (some 14) (.c (.lit (.int .i64 0)))⟩]
def f54_11l:List GI:=[⟨none,.bin (some 15) .num .lss (.r 14) (.r 13)⟩]
def f54_13:AC:=.cond (.r 15) .skip (.exit [5] [] 0)
theorem f54_13e:CN f54_13 15 .skip (.exit [5] [] 0):=rfl
def f54_17l:List GI:=[vv 16 14,
    ⟨none,.ixS (some 17) (.r 12) (.r 14) 3⟩,
    ⟨none,.load (some 18) (.r 17) (some 3)⟩,
    ⟨none,.newL 7 [(.lit (.int .i64 0)),(.lit (.bool false)),(.lit (.int .i64 0))]⟩,
    vo 6 16,
    ⟨none,.store 3 (.r 7) (.r 18)⟩]
def f54_19h:List GI:=[vv 19 0,
    vn 20 19,
    vd 21 20 0,
    vl 22 21,
    vd 23 7 0,
    vl 24 23]
def f54_19l:List GI:=[⟨none,.ixS (some 25) (.r 22) (.r 24) 1⟩,
    vl 26 25,
    vo 8 26]
def f54_19:AC:=.draw [0,5,6,7,8,12,13,14] [7] [] f54_19h f54_19l
theorem f54_19e:aC P id m f54_19 sf st Q = ap P id sf.locs st f54_19h (aZ P id m [] [0,5,6,7,8,12,13,14] [7] f54_19l Q st) [] ⟨sf.regs,aY [] sf.locs⟩:=rfl
def f54_21l:List GI:=[vv 28 8,
    ⟨none,.call (some 29) false (.f 68) [(.r 28)]⟩,
    vv 27 29,
    ve 30 27 0,
    ve 31 27 1,
    vo 9 30,
    vo 10 31]
def f54_23l:List GI:=[vv 32 8,
    ⟨none,.call (some 33) false (.f 22) [(.r 32)]⟩,
    vv 34 33,
    ⟨some (34,false),.mv (some 35) (.r 9)⟩,
    ⟨some (34,false),.bin (some 36) .num .gtr (.r 35) (.c (.lit (.int .i64 0)))⟩,
    ⟨none,.pick (some 37) (.r 34) (.c (.lit (.bool true))) (.r 36)⟩,
    vv 38 37,
    ⟨some (38,false),.mv (some 39) (.r 8)⟩,
    ⟨some (38,false),.call (some 40) false (.f 20) [(.r 39)]⟩,
    ⟨some (38,false),.bin (some 41) .num .gtr (.r 40) (.c (.lit (.int .i64 0)))⟩,
    ⟨none,.pick (some 42) (.r 38) (.c (.lit (.bool true))) (.r 41)⟩,
    vo 11 42]
def f54_26l:List GI:=[vd 43 7 1,
    vl 44 43]
def f54_28l:List GI:=[vv 45 8,
    ⟨none,.call (some 46) false (.f 22) [(.r 45)]⟩,
    vv 47 46,
    ⟨some (47,false),.mv (some 48) (.r 10)⟩,
    ⟨some (47,false),.bin (some 49) .num .gtr (.r 48) (.c (.lit (.int .i64 0)))⟩,
    ⟨none,.pick (some 50) (.r 47) (.c (.lit (.bool true))) (.r 49)⟩,
    vv 51 50,
    ⟨some (51,false),.mv (some 52) (.r 8)⟩,
    ⟨some (51,false),.call (some 53) false (.f 20) [(.r 52)]⟩,
    ⟨some (51,false),.mv (some 54) (.r 8)⟩,
    ⟨some (51,false),.call (some 55) false (.f 69) [(.r 54)]⟩,
    ⟨some (51,false),.bin (some 56) .num .lss (.r 53) (.r 55)⟩,
    ⟨none,.pick (some 57) (.r 51) (.c (.lit (.bool true))) (.r 56)⟩,
    vo 11 57]
def f54_28:AC:=.ops [0,5,6,11,12,13,14] [] f54_28l
theorem f54_28e:OP f54_28 f54_28l [0,5,6,11,12,13,14] []:=rfl
def f54_27:AC:=.cond (.r 44) f54_28 .skip
theorem f54_27e:CN f54_27 44 f54_28 .skip:=rfl
def f54_25:AC:=.seq (.ops [0,5,6,8,10,11,12,13,14,44] [] f54_26l) f54_27
theorem f54_25e:SO f54_25 f54_26l [0,5,6,8,10,11,12,13,14,44] [] f54_27:=rfl
def f54_30l:List GI:=[vv 58 11]
def f54_32l:List GI:=[vo 59 5,
    vv 60 6,
    ⟨none,.bsl (some 61) 1 1 (.lit (.int .i64 0)) [(0,(.r 60))]⟩,
    ⟨none,.appS 62 59 1 8 (.r 61)⟩,
    vo 5 62]
def f54_32:AC:=.ops [0,5,12,13,14] [] f54_32l
theorem f54_32e:OP f54_32 f54_32l [0,5,12,13,14] []:=rfl
def f54_31:AC:=.cond (.r 58) f54_32 .skip
theorem f54_31e:CN f54_31 58 f54_32 .skip:=rfl
def f54_29:AC:=.seq (.ops [0,5,6,12,13,14,58] [] f54_30l) f54_31
theorem f54_29e:SO f54_29 f54_30l [0,5,6,12,13,14,58] [] f54_31:=rfl
def f54_24:AC:=.seq f54_25 f54_29
theorem f54_24e:SQ f54_24 f54_25 f54_29:=rfl
def f54_22:AC:=.seq (.ops [0,5,6,7,8,10,11,12,13,14] [7] f54_23l) f54_24
theorem f54_22e:SO f54_22 f54_23l [0,5,6,7,8,10,11,12,13,14] [7] f54_24:=rfl
def f54_20:AC:=.seq (.ops [0,5,6,7,8,9,10,12,13,14] [7] f54_21l) f54_22
theorem f54_20e:SO f54_20 f54_21l [0,5,6,7,8,9,10,12,13,14] [7] f54_22:=rfl
def f54_18:AC:=.seq f54_19 f54_20
theorem f54_18e:SQ f54_18 f54_19 f54_20:=rfl
def f54_16:AC:=.seq (.ops [0,5,6,7,12,13,14] [7] f54_17l) f54_18
theorem f54_16e:SO f54_16 f54_17l [0,5,6,7,12,13,14] [7] f54_18:=rfl
def f54_15:AC:=.block 1 f54_16
theorem f54_15e:BL f54_15 f54_16 1:=rfl
def f54_33l:List GI:=[vb 63 .add 14 1,
    vv 14 63]
def f54_33:AC:=.ops [0,5,12,13,14] [] f54_33l
theorem f54_33e:OP f54_33 f54_33l [0,5,12,13,14] []:=rfl
def f54_14:AC:=.seq f54_15 f54_33
theorem f54_14e:SQ f54_14 f54_15 f54_33:=rfl
def f54_12:AC:=.seq f54_13 f54_14
theorem f54_12e:SQ f54_12 f54_13 f54_14:=rfl
def f54_10:AC:=.seq (.ops [0,5,12,13,14,15] [] f54_11l) f54_12
theorem f54_10e:SO f54_10 f54_11l [0,5,12,13,14,15] [] f54_12:=rfl
def f54_9:AC:=.loop [0,5,12,13,14] [] f54_10
theorem f54_9w:aC P id m f54_9 sf st Q = aO (aC P id m f54_10) [0,5,12,13,14] [] sf st Q:=rfl
def f54_8:AC:=.block 0 f54_9
theorem f54_8e:BL f54_8 f54_9 0:=rfl
def f54_6:AC:=.seq (.ops [0,5,12,13,14] [] f54_7l) f54_8
theorem f54_6e:SO f54_6 f54_7l [0,5,12,13,14] [] f54_8:=rfl
def f54_35l:List GI:=[vv 64 5,
    vo 4 64]
def f54_34:AC:=.seq (.ops [4] [] f54_35l) .ret
theorem f54_34e:SO f54_34 f54_35l [4] [] .ret:=rfl
def f54_5:AC:=.seq f54_6 f54_34
theorem f54_5e:SQ f54_5 f54_6 f54_34:=rfl
def f54_3:AC:=.seq (.ops [0,1,5] [] f54_4l) f54_5
theorem f54_3e:SO f54_3 f54_4l [0,1,5] [] f54_5:=rfl
def f54_1:AC:=.seq (.ops [0,1] [] f54_2l) f54_3
theorem f54_1e:SO f54_1 f54_2l [0,1] [] f54_3:=rfl
def c_f54:AFun:=⟨65,[.tmp 4],f54_1⟩
theorem k_f54:aH Go.Proofs.Try.prog x_f54 54 = some c_f54:=by kernel_rfl
theorem e_f54:al Go.Proofs.Try.prog 54 = true:=by kernel_rfl

def n_f56:Nat:=56
def x_f56:Cx:=⟨some,id,8,fun s=>([0,2,3,5,6,7]:List Nat).contains s,fun s=>([]:List Nat).contains s,msOf [(2,[0],[]),(12,[0,4],[]),(52,[2],[]),(14,[2],[])]⟩
def f56_2l:List GI:=[⟨none,.mv (some 2) (.c (.lit (.slice none 0 0)))⟩]
def f56_5l:List GI:=[vv 3 0,
    ⟨none,.x (some 4) (.nilU .eql (.r 3) (.c (.lit (.slice none 0 0))))⟩]
def f56_8l:List GI:=[⟨none,.mv (some 2) (.c (.lit (.slice none 0 0)))⟩]
def f56_7:AC:=.seq (.ops [2] [] f56_8l) .ret
theorem f56_7e:SO f56_7 f56_8l [2] [] .ret:=rfl
def f56_6:AC:=.cond (.r 4) f56_7 .skip
theorem f56_6e:CN f56_6 4 f56_7 .skip:=rfl
def f56_4:AC:=.seq (.ops [0,4] [] f56_5l) f56_6
theorem f56_4e:SO f56_4 f56_5l [0,4] [] f56_6:=rfl
def f56_10l:List GI:=[⟨none,.bsl (some 5) 3 0 (.agg [(.lit (.int .i64 0)),(.lit (.bool false)),(.lit (.int .i64 0))]) []⟩,
    vv 6 0,
    ⟨none,.appS 7 5 3 24 (.r 6)⟩,
    vo 2 7]
def f56_9:AC:=.seq (.ops [2] [] f56_10l) .ret
theorem f56_9e:SO f56_9 f56_10l [2] [] .ret:=rfl
def f56_3:AC:=.seq f56_4 f56_9
theorem f56_3e:SQ f56_3 f56_4 f56_9:=rfl
def f56_1:AC:=.seq (.ops [0] [] f56_2l) f56_3
theorem f56_1e:SO f56_1 f56_2l [0] [] f56_3:=rfl
def c_f56:AFun:=⟨8,[.tmp 2],f56_1⟩
theorem k_f56:aH Go.Proofs.Try.prog x_f56 56 = some c_f56:=by kernel_rfl
theorem e_f56:al Go.Proofs.Try.prog 56 = true:=by kernel_rfl

def n_f57:Nat:=57
def x_f57:Cx:=⟨some,id,37,fun s=>([0,1,2,4,6,7,10,11,12,15,19,21,22,23,24,26,28,29,31,32,33,34,35,36]:List Nat).contains s,fun s=>([]:List Nat).contains s,msOf [(2,[0,2,4],[]),(6,[0,2,4,7],[]),(28,[0,4,7,10,11,12],[]),(58,[0,4,7,10,11,12],[]),(232,[0,4,7,10,11,12,13],[]),(933,[7],[]),(3736,[0,4,7,9,10,11,12],[9]),(7474,[0,4,7,9,10,11,12],[9]),(14950,[0,4,7,9,10,11,12],[9]),(14951,[0,4,7,10,11,12],[]),(935,[0,4,7,10,11,12],[]),(30,[6],[])]⟩
def f57_2l:List GI:=[⟨none,.boxB 4 1 (.r 1)⟩,
    ⟨none,.mv (some 6) (.c (.lit (.slice none 0 0)))⟩]
def f57_2:AC:=.ops [0,2,4] [] f57_2l
theorem f57_2e:OP f57_2 f57_2l [0,2,4] []:=rfl
def f57_4l:List GI:=[⟨none,.mv (some 7) (.c (.lit (.slice none 0 0)))⟩]
def f57_7l:List GI:=[vv 10 2,
    ⟨none,.len (some 11) .sl (.r 10)⟩,
    ⟨none,.mv (some 12) (.c (.lit (.int .i64 0)))⟩]
def f57_11l:List GI:=[⟨none,.bin (some 13) .num .lss (.r 12) (.r 11)⟩]
def f57_13:AC:=.cond (.r 13) .skip (.exit [7] [] 0)
theorem f57_13e:CN f57_13 13 .skip (.exit [7] [] 0):=rfl
def f57_17l:List GI:=[⟨none,.ixS (some 14) (.r 10) (.r 12) 4⟩,
    ⟨none,.load (some 15) (.r 14) (some 4)⟩,
    ⟨none,.newL 9 [(.lit (.int .i64 0)),(.lit (.int .i64 0)),(.lit (.int .i64 0)),(.lit (.int .i64 0))]⟩,
    ⟨none,.store 4 (.r 9) (.r 15)⟩]
def f57_19h:List GI:=[vv 16 0,
    vn 17 16,
    vd 18 17 2,
    vl 19 18,
    vd 20 9 0,
    vl 21 20,
    ⟨none,.lookup (some 22) (.int .i64) (.lit (.slice none 0 0)) false (.r 19) (.r 21)⟩,
    ⟨none,.mkfn (some 23) 72 [] [(.r 4)]⟩]
def f57_19l:List GI:=[⟨none,.call (some 24) false (.f 71) [(.r 22),(.r 23)]⟩,
    vd 25 9 1,
    ⟨none,.store 1 (.r 25) (.r 24)⟩]
def f57_19:AC:=.draw [0,4,7,9,10,11,12] [9] [] f57_19h f57_19l
theorem f57_19e:aC P id m f57_19 sf st Q = ap P id sf.locs st f57_19h (aZ P id m [] [0,4,7,9,10,11,12] [9] f57_19l Q st) [] ⟨sf.regs,aY [] sf.locs⟩:=rfl
def f57_21l:List GI:=[vv 26 0,
    vd 27 9 0,
    vl 28 27,
    vl 29 4,
    ⟨none,.call (some 30) false (.f 58) [(.r 26),(.r 28),(.r 29)]⟩]
def f57_22l:List GI:=[vo 31 7,
    ⟨none,.load (some 32) (.r 9) (some 4)⟩,
    ⟨none,.bsl (some 33) 4 1 (.agg [(.lit (.int .i64 0)),(.lit (.int .i64 0)),(.lit (.int .i64 0)),(.lit (.int .i64 0))]) [(0,(.r 32))]⟩,
    ⟨none,.appS 34 31 4 32 (.r 33)⟩,
    vo 7 34]
def f57_22:AC:=.ops [0,4,7,10,11,12] [] f57_22l
theorem f57_22e:OP f57_22 f57_22l [0,4,7,10,11,12] []:=rfl
def f57_20:AC:=.seq (.ops [0,4,7,9,10,11,12] [9] f57_21l) f57_22
theorem f57_20e:SO f57_20 f57_21l [0,4,7,9,10,11,12] [9] f57_22:=rfl
def f57_18:AC:=.seq f57_19 f57_20
theorem f57_18e:SQ f57_18 f57_19 f57_20:=rfl
def f57_16:AC:=.seq (.ops [0,4,7,9,10,11,12] [9] f57_17l) f57_18
theorem f57_16e:SO f57_16 f57_17l [0,4,7,9,10,11,12] [9] f57_18:=rfl
def f57_15:AC:=.block 1 f57_16
theorem f57_15e:BL f57_15 f57_16 1:=rfl
def f57_23l:List GI:=[vb 35 .add 12 1,
    vv 12 35]
def f57_23:AC:=.ops [0,4,7,10,11,12] [] f57_23l
theorem f57_23e:OP f57_23 f57_23l [0,4,7,10,11,12] []:=rfl
def f57_14:AC:=.seq f57_15 f57_23
theorem f57_14e:SQ f57_14 f57_15 f57_23:=rfl
def f57_12:AC:=.seq f57_13 f57_14
theorem f57_12e:SQ f57_12 f57_13 f57_14:=rfl
def f57_10:AC:=.seq (.ops [0,4,7,10,11,12,13] [] f57_11l) f57_12
theorem f57_10e:SO f57_10 f57_11l [0,4,7,10,11,12,13] [] f57_12:=rfl
def f57_9:AC:=.loop [0,4,7,10,11,12] [] f57_10
theorem f57_9w:aC P id m f57_9 sf st Q = aO (aC P id m f57_10) [0,4,7,10,11,12] [] sf st Q:=rfl
def f57_8:AC:=.block 0 f57_9
theorem f57_8e:BL f57_8 f57_9 0:=rfl
def f57_6:AC:=.seq (.ops [0,4,7,10,11,12] [] f57_7l) f57_8
theorem f57_6e:SO f57_6 f57_7l [0,4,7,10,11,12] [] f57_8:=rfl
def f57_25l:List GI:=[vv 36 7,
    vo 6 36]
def f57_24:AC:=.seq (.ops [6] [] f57_25l) .ret
theorem f57_24e:SO f57_24 f57_25l [6] [] .ret:=rfl
def f57_5:AC:=.seq f57_6 f57_24
theorem f57_5e:SQ f57_5 f57_6 f57_24:=rfl
def f57_3:AC:=.seq (.ops [0,2,4,7] [] f57_4l) f57_5
theorem f57_3e:SO f57_3 f57_4l [0,2,4,7] [] f57_5:=rfl
def f72:AC:=.seq f57_2 f57_3
theorem f57_1e:SQ f72 f57_2 f57_3:=rfl
def c_f57:AFun:=⟨37,[.tmp 6],f72⟩
theorem k_f57:aH Go.Proofs.Try.prog x_f57 57 = some c_f57:=by kernel_rfl
theorem e_f57:al Go.Proofs.Try.prog 57 = true:=by kernel_rfl

def n_f58:Nat:=58
def x_f58:Cx:=⟨some,id,48,fun s=>([1,2,4,11,12,13,14,15,18,20,21,28,30,31,33,37,38,43,44,45]:List Nat).contains s,fun s=>([]:List Nat).contains s,msOf [(2,[0,2,4],[]),(12,[0,2,4,13,14,15],[]),(26,[0,2,4,13,14,15],[]),(104,[0,2,4,13,14,15,16],[]),(421,[0,4],[]),(1688,[0,2,4,7,13,14,15],[7]),(3378,[0,2,4,7,13,14,15,22],[7]),(6758,[0,2,4,13,14,15],[]),(423,[0,2,4,13,14,15],[]),(14,[0,4],[]),(15,[],[])]⟩
def f58_2l:List GI:=[⟨none,.boxB 4 1 (.r 1)⟩]
def f58_2:AC:=.ops [0,2,4] [] f58_2l
theorem f58_2e:OP f58_2 f58_2l [0,2,4] []:=rfl
def f58_5h:List GI:=[vv 8 0,
    vn 9 8,
    vd 10 9 2,
    vl 11 10,
    vl 12 4,
    ⟨none,.lookup (some 13) (.int .i64) (.lit (.slice none 0 0)) false (.r 11) (.r 12)⟩,
    ⟨none,.len (some 14) .sl (.r 13)⟩,
    ⟨none,.mv (some 15) (.c (.lit (.int .i64 0)))⟩]
def f58_5l:List GI:=[]
def f58_5:AC:=.draw [0,2,4,13,14,15] [] [] f58_5h f58_5l
theorem f58_5e:aC P id m f58_5 sf st Q = ap P id sf.locs st f58_5h (aZ P id m [] [0,2,4,13,14,15] [] f58_5l Q st) [] ⟨sf.regs,aY [] sf.locs⟩:=rfl
def f58_9l:List GI:=[⟨none,.bin (some 16) .num .lss (.r 15) (.r 14)⟩]
def f58_11:AC:=.cond (.r 16) .skip (.exit [0,4] [] 0)
theorem f58_11e:CN f58_11 16 .skip (.exit [0,4] [] 0):=rfl
def f58_15l:List GI:=[⟨none,.ixS (some 17) (.r 13) (.r 15) 3⟩,
    ⟨none,.load (some 18) (.r 17) (some 3)⟩,
    ⟨none,.newL 7 [(.lit (.int .i64 0)),(.lit (.bool false)),(.lit (.int .i64 0))]⟩,
    ⟨none,.store 3 (.r 7) (.r 18)⟩]
def f58_17l:List GI:=[vd 19 7 0,
    vl 20 19,
    vv 21 2,
    ⟨none,.bin (some 22) .num .neq (.r 20) (.r 21)⟩]
def f58_19h:List GI:=[vv 23 0,
    vn 24 23,
    vd 25 24 0,
    vl 26 25,
    vd 27 7 0,
    vl 28 27,
    ⟨none,.ixS (some 29) (.r 26) (.r 28) 1⟩,
    vl 30 29,
    vl 31 4]
def f58_19l:List GI:=[⟨none,.call (some 32) false (.f 16) [(.r 30),(.r 31)]⟩]
def f58_19:AC:=.draw [0,2,4,13,14,15] [] [] f58_19h f58_19l
theorem f58_19e:aC P id m f58_19 sf st Q = ap P id sf.locs st f58_19h (aZ P id m [] [0,2,4,13,14,15] [] f58_19l Q st) [] ⟨sf.regs,aY [] sf.locs⟩:=rfl
def f58_18:AC:=.cond (.r 22) f58_19 .skip
theorem f58_18e:CN f58_18 22 f58_19 .skip:=rfl
def f58_16:AC:=.seq (.ops [0,2,4,7,13,14,15,22] [7] f58_17l) f58_18
theorem f58_16e:SO f58_16 f58_17l [0,2,4,7,13,14,15,22] [7] f58_18:=rfl
def f58_14:AC:=.seq (.ops [0,2,4,7,13,14,15] [7] f58_15l) f58_16
theorem f58_14e:SO f58_14 f58_15l [0,2,4,7,13,14,15] [7] f58_16:=rfl
def f58_13:AC:=.block 1 f58_14
theorem f58_13e:BL f58_13 f58_14 1:=rfl
def f58_20l:List GI:=[vb 33 .add 15 1,
    vv 15 33]
def f58_20:AC:=.ops [0,2,4,13,14,15] [] f58_20l
theorem f58_20e:OP f58_20 f58_20l [0,2,4,13,14,15] []:=rfl
def f58_12:AC:=.seq f58_13 f58_20
theorem f58_12e:SQ f58_12 f58_13 f58_20:=rfl
def f58_10:AC:=.seq f58_11 f58_12
theorem f58_10e:SQ f58_10 f58_11 f58_12:=rfl
def f58_8:AC:=.seq (.ops [0,2,4,13,14,15,16] [] f58_9l) f58_10
theorem f58_8e:SO f58_8 f58_9l [0,2,4,13,14,15,16] [] f58_10:=rfl
def f58_7:AC:=.loop [0,2,4,13,14,15] [] f58_8
theorem f58_7w:aC P id m f58_7 sf st Q = aO (aC P id m f58_8) [0,2,4,13,14,15] [] sf st Q:=rfl
def f58_6:AC:=.block 0 f58_7
theorem f58_6e:BL f58_6 f58_7 0:=rfl
def f58_4:AC:=.seq f58_5 f58_6
theorem f58_4e:SQ f58_4 f58_5 f58_6:=rfl
def f58_22h:List GI:=[vv 34 0,
    vn 35 34,
    vd 36 35 2,
    vl 37 36,
    vl 38 4]
def f58_22l:List GI:=[⟨none,.del (.int .i64) (.r 37) (.r 38)⟩]
def f58_22:AC:=.draw [0,4] [] [] f58_22h f58_22l
theorem f58_22e:aC P id m f58_22 sf st Q = ap P id sf.locs st f58_22h (aZ P id m [] [0,4] [] f58_22l Q st) [] ⟨sf.regs,aY [] sf.locs⟩:=rfl
def f58_23l:List GI:=[vv 39 0,
    vv 40 0,
    vn 41 40,
    vd 42 41 1,
    vl 43 42,
    ⟨none,.mkfn (some 44) 74 [] [(.r 4)]⟩,
    ⟨none,.call (some 45) false (.f 73) [(.r 43),(.r 44)]⟩,
    vn 46 39,
    vd 47 46 1,
    ⟨none,.store 1 (.r 47) (.r 45)⟩]
def f58_23:AC:=.ops [] [] f58_23l
theorem f58_23e:OP f58_23 f58_23l [] []:=rfl
def f58_21:AC:=.seq f58_22 f58_23
theorem f58_21e:SQ f58_21 f58_22 f58_23:=rfl
def f58_3:AC:=.seq f58_4 f58_21
theorem f58_3e:SQ f58_3 f58_4 f58_21:=rfl
def f74:AC:=.seq f58_2 f58_3
theorem f58_1e:SQ f74 f58_2 f58_3:=rfl
def c_f58:AFun:=⟨48,[],f74⟩
theorem k_f58:aH Go.Proofs.Try.prog x_f58 58 = some c_f58:=by kernel_rfl
theorem e_f58:al Go.Proofs.Try.prog 58 = true:=by kernel_rfl

def n_f59:Nat:=59
def x_f59:Cx:=⟨some,id,4,fun s=>([0,2,3]:List Nat).contains s,fun s=>([]:List Nat).contains s,msOf [(2,[0],[]),(6,[2],[])]⟩
def f59_2l:List GI:=[⟨none,.mv (some 2) (.c (.lit (.slice none 0 0)))⟩]
def f59_4l:List GI:=[vv 3 0,
    vo 2 3]
def f59_3:AC:=.seq (.ops [2] [] f59_4l) .ret
theorem f59_3e:SO f59_3 f59_4l [2] [] .ret:=rfl
def f59_1:AC:=.seq (.ops [0] [] f59_2l) f59_3
theorem f59_1e:SO f59_1 f59_2l [0] [] f59_3:=rfl
def c_f59:AFun:=⟨4,[.tmp 2],f59_1⟩
theorem k_f59:aH Go.Proofs.Try.prog x_f59 59 = some c_f59:=by kernel_rfl
theorem e_f59:al Go.Proofs.Try.prog 59 = true:=by kernel_rfl

def n_f60:Nat:=60
def x_f60:Cx:=⟨some,id,97,fun s=>([0,1,4,5,8,9,14,15,16,21,22,29,34,35,40,41,46,53,60,65,66,71,76,81,82,88,96]:List Nat).contains s,fun s=>([]:List Nat).contains s,msOf [(2,[0,1],[]),(24,[0,1,7],[]),(100,[4,5],[]),(102,[0,1,10],[]),(412,[4,5],[]),(14,[0,1],[]),(30,[0],[]),(124,[0,47],[]),(250,[0],[]),(502,[0,6],[6]),(1006,[0,6],[6]),(1007,[0],[]),(126,[0],[]),(254,[4,5],[])]⟩
def f60_2l:List GI:=[⟨none,.mv (some 4) (.c (.lit (.int .u64 0)))⟩,
    ⟨none,.mv (some 5) (.c (.lit (.int .i64 0)))⟩]
def f60_6l:List GI:=[vv 8 0,
    ⟨none,.call (some 9) false (.f 62) [(.r 8)]⟩,
    vo 7 9]
def f60_9l:List GI:=[⟨none,.mv (some 4) (.c (.lit (.int .u64 0)))⟩,
    ⟨none,.mv (some 5) (.c (.lit (.int .i64 1)))⟩]
def f60_8:AC:=.seq (.ops [4,5] [] f60_9l) .ret
theorem f60_8e:SO f60_8 f60_9l [4,5] [] .ret:=rfl
def f60_11l:List GI:=[vv 11 0,
    vn 12 11,
    vd 13 12 3,
    vl 14 13,
    ⟨none,.len (some 15) .mp (.r 14)⟩,
    vb 16 .geq 15 4096,
    vo 10 16]
def f60_14l:List GI:=[⟨none,.mv (some 4) (.c (.lit (.int .u64 0)))⟩,
    ⟨none,.mv (some 5) (.c (.lit (.int .i64 7)))⟩]
def f60_13:AC:=.seq (.ops [4,5] [] f60_14l) .ret
theorem f60_13e:SO f60_13 f60_14l [4,5] [] .ret:=rfl
def f60_12:AC:=.cond (.r 10) f60_13 .skip
theorem f60_12e:CN f60_12 10 f60_13 .skip:=rfl
def f60_10:AC:=.seq (.ops [0,1,10] [] f60_11l) f60_12
theorem f60_10e:SO f60_10 f60_11l [0,1,10] [] f60_12:=rfl
def f60_7:AC:=.cond (.r 7) f60_8 f60_10
theorem f60_7e:CN f60_7 7 f60_8 f60_10:=rfl
def f60_5:AC:=.seq (.ops [0,1,7] [] f60_6l) f60_7
theorem f60_5e:SO f60_5 f60_6l [0,1,7] [] f60_7:=rfl
def f60_4:AC:=.block 0 f60_5
theorem f60_4e:BL f60_4 f60_5 0:=rfl
def f60_16l:List GI:=[vv 17 0,
    vn 18 17,
    vd 19 18 0,
    vd 20 19 2,
    vl 21 20,
    ⟨none,.bin (some 22) .num .add (.r 21) (.c (.lit (.int .u64 1)))⟩,
    vn 23 17,
    vd 24 23 0,
    vd 25 24 2,
    ⟨none,.store 1 (.r 25) (.r 22)⟩]
def f60_18h:List GI:=[vv 26 0,
    vn 27 26,
    vd 28 27 3,
    vl 29 28,
    vv 30 0,
    vn 31 30,
    vd 32 31 0,
    vd 33 32 2,
    vl 34 33,
    vv 35 1,
    vv 36 0,
    vn 37 36,
    vd 38 37 0,
    vd 39 38 1,
    vl 40 39,
    ⟨none,.bst (some 41) [(0,1),(1,1),(2,1)] (.agg [(.lit (.int .i64 0)),(.lit (.int .u64 0)),(.lit (.int .u64 0))]) [(0,(.r 35)),(1,(.r 40))]⟩]
def f60_18l:List GI:=[⟨none,.upd (.int .u64) (.r 29) (.r 34) (.r 41)⟩]
def f60_18:AC:=.draw [0] [] [] f60_18h f60_18l
theorem f60_18e:aC P id m f60_18 sf st Q = ap P id sf.locs st f60_18h (aZ P id m [] [0] [] f60_18l Q st) [] ⟨sf.regs,aY [] sf.locs⟩:=rfl
def f60_21l:List GI:=[vv 42 0,
    vn 43 42,
    vd 44 43 0,
    vd 45 44 1,
    vl 46 45,
    ⟨none,.bin (some 47) .num .eql (.r 46) (.c (.lit (.int .u64 0)))⟩]
def f60_23l:List GI:=[vv 48 0,
    vv 49 0,
    vn 50 49,
    vd 51 50 0,
    vd 52 51 2,
    vl 53 52,
    vn 54 48,
    vd 55 54 0,
    vd 56 55 0,
    ⟨none,.store 1 (.r 56) (.r 53)⟩]
def f60_23:AC:=.ops [0] [] f60_23l
theorem f60_23e:OP f60_23 f60_23l [0] []:=rfl
def f60_25h:List GI:=[vv 57 0,
    vn 58 57,
    vd 59 58 3,
    vl 60 59,
    vv 61 0,
    vn 62 61,
    vd 63 62 0,
    vd 64 63 1,
    vl 65 64,
    ⟨none,.lookup (some 66) (.int .u64) (.agg [(.lit (.int .i64 0)),(.lit (.int .u64 0)),(.lit (.int .u64 0))]) false (.r 60) (.r 65)⟩,
    ⟨none,.newL 6 [(.lit (.int .i64 0)),(.lit (.int .u64 0)),(.lit (.int .u64 0))]⟩]
def f60_25l:List GI:=[⟨none,.store 3 (.r 6) (.r 66)⟩]
def f60_25:AC:=.draw [0,6] [6] [6] f60_25h f60_25l
theorem f60_25e:aC P id m f60_25 sf st Q = ap P id sf.locs st f60_25h (aZ P id m [6] [0,6] [6] f60_25l Q st) [] ⟨sf.regs,aY [6] sf.locs⟩:=rfl
def f60_27l:List GI:=[vv 67 0,
    vn 68 67,
    vd 69 68 0,
    vd 70 69 2,
    vl 71 70,
    vd 72 6 2,
    ⟨none,.store 1 (.r 72) (.r 71)⟩]
def f60_28h:List GI:=[vv 73 0,
    vn 74 73,
    vd 75 74 3,
    vl 76 75,
    vv 77 0,
    vn 78 77,
    vd 79 78 0,
    vd 80 79 1,
    vl 81 80,
    ⟨none,.load (some 82) (.r 6) (some 3)⟩]
def f60_28l:List GI:=[⟨none,.upd (.int .u64) (.r 76) (.r 81) (.r 82)⟩]
def f60_28:AC:=.draw [0] [] [] f60_28h f60_28l
theorem f60_28e:aC P id m f60_28 sf st Q = ap P id sf.locs st f60_28h (aZ P id m [] [0] [] f60_28l Q st) [] ⟨sf.regs,aY [] sf.locs⟩:=rfl
def f60_26:AC:=.seq (.ops [0,6] [6] f60_27l) f60_28
theorem f60_26e:SO f60_26 f60_27l [0,6] [6] f60_28:=rfl
def f60_24:AC:=.seq f60_25 f60_26
theorem f60_24e:SQ f60_24 f60_25 f60_26:=rfl
def f60_22:AC:=.cond (.r 47) f60_23 f60_24
theorem f60_22e:CN f60_22 47 f60_23 f60_24:=rfl
def f60_20:AC:=.seq (.ops [0,47] [] f60_21l) f60_22
theorem f60_20e:SO f60_20 f60_21l [0,47] [] f60_22:=rfl
def f60_30l:List GI:=[vv 83 0,
    vv 84 0,
    vn 85 84,
    vd 86 85 0,
    vd 87 86 2,
    vl 88 87,
    vn 89 83,
    vd 90 89 0,
    vd 91 90 1,
    ⟨none,.store 1 (.r 91) (.r 88)⟩]
def f60_32l:List GI:=[vv 92 0,
    vn 93 92,
    vd 94 93 0,
    vd 95 94 2,
    vl 96 95,
    vo 4 96,
    ⟨none,.mv (some 5) (.c (.lit (.int .i64 0)))⟩]
def f60_31:AC:=.seq (.ops [4,5] [] f60_32l) .ret
theorem f60_31e:SO f60_31 f60_32l [4,5] [] .ret:=rfl
def f60_29:AC:=.seq (.ops [0] [] f60_30l) f60_31
theorem f60_29e:SO f60_29 f60_30l [0] [] f60_31:=rfl
def f60_19:AC:=.seq f60_20 f60_29
theorem f60_19e:SQ f60_19 f60_20 f60_29:=rfl
def f60_17:AC:=.seq f60_18 f60_19
theorem f60_17e:SQ f60_17 f60_18 f60_19:=rfl
def f60_15:AC:=.seq (.ops [0,1] [] f60_16l) f60_17
theorem f60_15e:SO f60_15 f60_16l [0,1] [] f60_17:=rfl
def f60_3:AC:=.seq f60_4 f60_15
theorem f60_3e:SQ f60_3 f60_4 f60_15:=rfl
def f60_1:AC:=.seq (.ops [0,1] [] f60_2l) f60_3
theorem f60_1e:SO f60_1 f60_2l [0,1] [] f60_3:=rfl
def c_f60:AFun:=⟨97,[.tmp 4,.tmp 5],f60_1⟩
theorem k_f60:aH Go.Proofs.Try.prog x_f60 60 = some c_f60:=by kernel_rfl
theorem e_f60:al Go.Proofs.Try.prog 60 = true:=by kernel_rfl

def n_f61:Nat:=61
def x_f61:Cx:=⟨some,id,33,fun s=>([0,1,2,6,7,8,9,10,11,12,14,15,17,18,19,20,21,22,23,24,25,26,27,28,29,30,31,32]:List Nat).contains s,fun s=>([0,20,22,26,27,31]:List Nat).contains s,msOf [(2,[0,1,2],[]),(6,[0,1,2],[]),(28,[0,1,2,16],[]),(116,[6],[]),(30,[0,1,2,7],[]),(62,[0,7],[]),(126,[0],[]),(254,[6],[])]⟩
def f61_2l:List GI:=[⟨none,.mv (some 6) (.c (.lit (.slice none 0 0)))⟩]
def f61_4l:List GI:=[vv 8 0,
    vv 9 1,
    vv 10 2,
    vv 11 0,
    ⟨none,.len (some 12) .sl (.r 11)⟩,
    ⟨none,.sli3 (some 13) (.r 8) (some (.r 9)) (some (.r 10)) (.r 12) 1⟩]
def f61_7l:List GI:=[vv 14 1,
    vv 15 2,
    ⟨none,.bin (some 16) .num .eql (.r 14) (.r 15)⟩]
def f61_10l:List GI:=[vv 17 0,
    vo 6 17]
def f61_9:AC:=.seq (.ops [6] [] f61_10l) .ret
theorem f61_9e:SO f61_9 f61_10l [6] [] .ret:=rfl
def f61_8:AC:=.cond (.r 16) f61_9 .skip
theorem f61_8e:CN f61_8 16 f61_9 .skip:=rfl
def f61_6:AC:=.seq (.ops [0,1,2,16] [] f61_7l) f61_8
theorem f61_6e:SO f61_6 f61_7l [0,1,2,16] [] f61_8:=rfl
def f61_12l:List GI:=[vv 18 0,
    ⟨none,.len (some 19) .sl (.r 18)⟩,
    vo 7 19]
def f61_14h:List GI:=[vv 20 0,
    vv 21 1,
    ⟨none,.sliS (some 22) (.r 20) none (some (.r 21)) 1⟩,
    vv 23 0,
    vv 24 2,
    ⟨none,.sliS (some 25) (.r 23) (some (.r 24)) none 1⟩]
def f61_14l:List GI:=[⟨none,.x (some 26) (.appB (.r 22) 1 8 (.r 25))⟩,
    vo 0 26]
def f61_14:AC:=.draw [0,7] [] [] f61_14h f61_14l
theorem f61_14e:aC P id m f61_14 sf st Q = ap P id sf.locs st f61_14h (aZ P id m [] [0,7] [] f61_14l Q st) [] ⟨sf.regs,aY [] sf.locs⟩:=rfl
def f61_16l:List GI:=[vv 27 0,
    vv 28 0,
    ⟨none,.len (some 29) .sl (.r 28)⟩,
    vv 30 7,
    ⟨none,.sliS (some 31) (.r 27) (some (.r 29)) (some (.r 30)) 1⟩,
    ⟨none,.x none (.clrB 1 (.lit (.int .i64 0)) (.r 31))⟩]
def f61_18l:List GI:=[vv 32 0,
    vo 6 32]
def f61_17:AC:=.seq (.ops [6] [] f61_18l) .ret
theorem f61_17e:SO f61_17 f61_18l [6] [] .ret:=rfl
def f61_15:AC:=.seq (.ops [0] [] f61_16l) f61_17
theorem f61_15e:SO f61_15 f61_16l [0] [] f61_17:=rfl
def f61_13:AC:=.seq f61_14 f61_15
theorem f61_13e:SQ f61_13 f61_14 f61_15:=rfl
def f61_11:AC:=.seq (.ops [0,1,2,7] [] f61_12l) f61_13
theorem f61_11e:SO f61_11 f61_12l [0,1,2,7] [] f61_13:=rfl
def f61_5:AC:=.seq f61_6 f61_11
theorem f61_5e:SQ f61_5 f61_6 f61_11:=rfl
def f61_3:AC:=.seq (.ops [0,1,2] [] f61_4l) f61_5
theorem f61_3e:SO f61_3 f61_4l [0,1,2] [] f61_5:=rfl
def f61_1:AC:=.seq (.ops [0,1,2] [] f61_2l) f61_3
theorem f61_1e:SO f61_1 f61_2l [0,1,2] [] f61_3:=rfl
def c_f61:AFun:=⟨33,[.tmp 6],f61_1⟩
theorem k_f61:aH Go.Proofs.Try.prog x_f61 61 = some c_f61:=by kernel_rfl
theorem e_f61:al Go.Proofs.Try.prog 61 = true:=by kernel_rfl

def n_f62:Nat:=62
def x_f62:Cx:=⟨some,id,12,fun s=>([0,2,3,4,5,9,10,11]:List Nat).contains s,fun s=>([]:List Nat).contains s,msOf [(2,[0],[]),(6,[2],[])]⟩
def f62_2l:List GI:=[⟨none,.mv (some 2) (.c (.lit (.bool false)))⟩]
def f62_4l:List GI:=[vv 3 0,
    ⟨none,.bin (some 4) (.nil .ptr) .eql (.r 3) (.c (.lit (.pointer none)))⟩,
    vv 5 4,
    ⟨some (5,false),.mv (some 6) (.r 0)⟩,
    ⟨some (5,false),.nilck (some 7) (.r 6)⟩,
    ⟨some (5,false),.addr (some 8) (.r 7) 3⟩,
    ⟨some (5,false),.load (some 9) (.r 8) none⟩,
    ⟨some (5,false),.bin (some 10) (.nil .mp) .eql (.r 9) (.c (.lit (.map none)))⟩,
    ⟨none,.pick (some 11) (.r 5) (.c (.lit (.bool true))) (.r 10)⟩,
    vo 2 11]
def f62_3:AC:=.seq (.ops [2] [] f62_4l) .ret
theorem f62_3e:SO f62_3 f62_4l [2] [] .ret:=rfl
def f62_1:AC:=.seq (.ops [0] [] f62_2l) f62_3
theorem f62_1e:SO f62_1 f62_2l [0] [] f62_3:=rfl
def c_f62:AFun:=⟨12,[.tmp 2],f62_1⟩
theorem k_f62:aH Go.Proofs.Try.prog x_f62 62 = some c_f62:=by kernel_rfl
theorem e_f62:al Go.Proofs.Try.prog 62 = true:=by kernel_rfl

def n_f63:Nat:=63
def x_f63:Cx:=⟨some,id,22,fun s=>([0,2,3,4,5,6,7,8,9,10,11,12,13,14,16,17,19,20,21]:List Nat).contains s,fun s=>([]:List Nat).contains s,msOf [(2,[0],[]),(6,[0,5,6,7],[]),(28,[0,5,6,7,15],[]),(58,[5,6,7],[]),(30,[2,3,4],[])]⟩
def f63_2l:List GI:=[⟨none,.mv (some 2) (.c (.lit (.int .i64 0)))⟩,
    ⟨none,.mv (some 3) (.c (.lit (.int .u64 0)))⟩,
    ⟨none,.mv (some 4) (.c (.lit (.int .i64 0)))⟩]
def f63_4l:List GI:=[vv 9 0,
    ⟨none,.call (some 10) false (.f 75) [(.r 9)]⟩,
    vv 8 10,
    ve 11 8 0,
    ve 12 8 1,
    ve 13 8 2,
    vo 5 11,
    vo 6 12,
    vo 7 13]
def f63_7l:List GI:=[vv 14 7,
    vb 15 .eql 14 0]
def f63_9l:List GI:=[vv 16 0,
    vv 17 6,
    ⟨none,.call (some 18) false (.f 43) [(.r 16),(.r 17)]⟩]
def f63_9:AC:=.ops [5,6,7] [] f63_9l
theorem f63_9e:OP f63_9 f63_9l [5,6,7] []:=rfl
def f63_8:AC:=.cond (.r 15) f63_9 .skip
theorem f63_8e:CN f63_8 15 f63_9 .skip:=rfl
def f63_6:AC:=.seq (.ops [0,5,6,7,15] [] f63_7l) f63_8
theorem f63_6e:SO f63_6 f63_7l [0,5,6,7,15] [] f63_8:=rfl
def f63_11l:List GI:=[vv 19 5,
    vv 20 6,
    vv 21 7,
    vo 2 19,
    vo 3 20,
    vo 4 21]
def f63_10:AC:=.seq (.ops [2,3,4] [] f63_11l) .ret
theorem f63_10e:SO f63_10 f63_11l [2,3,4] [] .ret:=rfl
def f63_5:AC:=.seq f63_6 f63_10
theorem f63_5e:SQ f63_5 f63_6 f63_10:=rfl
def f63_3:AC:=.seq (.ops [0,5,6,7] [] f63_4l) f63_5
theorem f63_3e:SO f63_3 f63_4l [0,5,6,7] [] f63_5:=rfl
def f63_1:AC:=.seq (.ops [0] [] f63_2l) f63_3
theorem f63_1e:SO f63_1 f63_2l [0] [] f63_3:=rfl
def c_f63:AFun:=⟨22,[.tmp 2,.tmp 3,.tmp 4],f63_1⟩
theorem k_f63:aH Go.Proofs.Try.prog x_f63 63 = some c_f63:=by kernel_rfl
theorem e_f63:al Go.Proofs.Try.prog 63 = true:=by kernel_rfl

def n_f68:Nat:=68
def x_f68:Cx:=⟨some,id,18,fun s=>([0,2,3,4,10,11,16,17]:List Nat).contains s,fun s=>([]:List Nat).contains s,msOf [(2,[0],[]),(12,[0,5],[]),(52,[2,3],[]),(14,[2,3],[])]⟩
def f68_2l:List GI:=[⟨none,.mv (some 2) (.c (.lit (.int .i64 0)))⟩,
    ⟨none,.mv (some 3) (.c (.lit (.int .i64 0)))⟩]
def f68_5l:List GI:=[vv 4 0,
    ⟨none,.call (some 5) false (.f 44) [(.r 4)]⟩]
def f68_8l:List GI:=[⟨none,.mv (some 2) (.c (.lit (.int .i64 0)))⟩,
    ⟨none,.mv (some 3) (.c (.lit (.int .i64 0)))⟩]
def f68_7:AC:=.seq (.ops [2,3] [] f68_8l) .ret
theorem f68_7e:SO f68_7 f68_8l [2,3] [] .ret:=rfl
def f68_6:AC:=.cond (.r 5) f68_7 .skip
theorem f68_6e:CN f68_6 5 f68_7 .skip:=rfl
def f68_4:AC:=.seq (.ops [0,5] [] f68_5l) f68_6
theorem f68_4e:SO f68_4 f68_5l [0,5] [] f68_6:=rfl
def f68_10h:List GI:=[vv 6 0,
    vn 7 6,
    vd 8 7 4,
    ⟨none,.ixA (some 9) (.r 8) (.c (.lit (.int .i64 0))) 2 1⟩,
    vl 10 9,
    ⟨none,.call (some 11) true (.f 81) [(.r 10)]⟩,
    vv 12 0,
    vn 13 12,
    vd 14 13 4,
    ⟨none,.ixA (some 15) (.r 14) (.c (.lit (.int .i64 1))) 2 1⟩,
    vl 16 15]
def f68_10l:List GI:=[⟨none,.call (some 17) false (.f 81) [(.r 16)]⟩,
    vo 2 11,
    vo 3 17]
def f68_10:AC:=.draw [2,3] [] [] f68_10h f68_10l
theorem f68_10e:aC P id m f68_10 sf st Q = ap P id sf.locs st f68_10h (aZ P id m [] [2,3] [] f68_10l Q st) [] ⟨sf.regs,aY [] sf.locs⟩:=rfl
def f68_9:AC:=.seq f68_10 .ret
theorem f68_9e:SQ f68_9 f68_10 .ret:=rfl
def f68_3:AC:=.seq f68_4 f68_9
theorem f68_3e:SQ f68_3 f68_4 f68_9:=rfl
def f68_1:AC:=.seq (.ops [0] [] f68_2l) f68_3
theorem f68_1e:SO f68_1 f68_2l [0] [] f68_3:=rfl
def c_f68:AFun:=⟨18,[.tmp 2,.tmp 3],f68_1⟩
theorem k_f68:aH Go.Proofs.Try.prog x_f68 68 = some c_f68:=by kernel_rfl
theorem e_f68:al Go.Proofs.Try.prog 68 = true:=by kernel_rfl

def n_f69:Nat:=69
def x_f69:Cx:=⟨some,id,9,fun s=>([0,2,3,8]:List Nat).contains s,fun s=>([]:List Nat).contains s,msOf [(2,[0],[]),(12,[0,4],[]),(52,[2],[]),(14,[2],[])]⟩
def f69_2l:List GI:=[⟨none,.mv (some 2) (.c (.lit (.int .i64 0)))⟩]
def f69_5l:List GI:=[vv 3 0,
    ⟨none,.call (some 4) false (.f 44) [(.r 3)]⟩]
def f69_8l:List GI:=[⟨none,.mv (some 2) (.c (.lit (.int .i64 0)))⟩]
def f69_7:AC:=.seq (.ops [2] [] f69_8l) .ret
theorem f69_7e:SO f69_7 f69_8l [2] [] .ret:=rfl
def f69_6:AC:=.cond (.r 4) f69_7 .skip
theorem f69_6e:CN f69_6 4 f69_7 .skip:=rfl
def f69_4:AC:=.seq (.ops [0,4] [] f69_5l) f69_6
theorem f69_4e:SO f69_4 f69_5l [0,4] [] f69_6:=rfl
def f69_10l:List GI:=[vv 5 0,
    vn 6 5,
    vd 7 6 2,
    vl 8 7,
    vo 2 8]
def f69_9:AC:=.seq (.ops [2] [] f69_10l) .ret
theorem f69_9e:SO f69_9 f69_10l [2] [] .ret:=rfl
def f69_3:AC:=.seq f69_4 f69_9
theorem f69_3e:SQ f69_3 f69_4 f69_9:=rfl
def f69_1:AC:=.seq (.ops [0] [] f69_2l) f69_3
theorem f69_1e:SO f69_1 f69_2l [0] [] f69_3:=rfl
def c_f69:AFun:=⟨9,[.tmp 2],f69_1⟩
theorem k_f69:aH Go.Proofs.Try.prog x_f69 69 = some c_f69:=by kernel_rfl
theorem e_f69:al Go.Proofs.Try.prog 69 = true:=by kernel_rfl

def n_f71:Nat:=71
def x_f71:Cx:=⟨some,id,19,fun s=>([0,1,4,5,6,7,8,10,11,13,15,17,18]:List Nat).contains s,fun s=>([]:List Nat).contains s,msOf [(2,[0,1],[]),(12,[0,1,7,8],[]),(26,[0,1,7,8],[]),(104,[0,1,7,8,9],[]),(421,[],[]),(1688,[0,1,5,7,8],[]),(3378,[0,1,5,7,8,16],[]),(13516,[4],[]),(423,[0,1,7,8],[]),(14,[4],[])]⟩
def f71_2l:List GI:=[⟨none,.mv (some 4) (.c (.lit (.int .i64 0)))⟩]
def f71_5l:List GI:=[vv 6 0,
    ⟨none,.len (some 7) .sl (.r 6)⟩,
    ⟨none,.mv (some 8) (.c (.lit (.int .i64 0)))⟩]
def f71_9l:List GI:=[⟨none,.bin (some 9) .num .lss (.r 8) (.r 7)⟩]
def f71_11:AC:=.cond (.r 9) .skip (.exit [] [] 0)
theorem f71_11e:CN f71_11 9 .skip (.exit [] [] 0):=rfl
def f71_15l:List GI:=[vv 10 8,
    vo 5 10]
def f71_17l:List GI:=[vv 11 1,
    vv 12 0,
    vv 13 5,
    ⟨none,.ixS (some 14) (.r 12) (.r 13) 3⟩,
    ⟨none,.load (some 15) (.r 14) (some 3)⟩,
    ⟨none,.call (some 16) false (.r 11) [(.r 15)]⟩]
def f71_20l:List GI:=[vv 17 5,
    vo 4 17]
def f71_19:AC:=.seq (.ops [4] [] f71_20l) .ret
theorem f71_19e:SO f71_19 f71_20l [4] [] .ret:=rfl
def f71_18:AC:=.cond (.r 16) f71_19 .skip
theorem f71_18e:CN f71_18 16 f71_19 .skip:=rfl
def f71_16:AC:=.seq (.ops [0,1,5,7,8,16] [] f71_17l) f71_18
theorem f71_16e:SO f71_16 f71_17l [0,1,5,7,8,16] [] f71_18:=rfl
def f71_14:AC:=.seq (.ops [0,1,5,7,8] [] f71_15l) f71_16
theorem f71_14e:SO f71_14 f71_15l [0,1,5,7,8] [] f71_16:=rfl
def f71_13:AC:=.block 1 f71_14
theorem f71_13e:BL f71_13 f71_14 1:=rfl
def f71_21l:List GI:=[vb 18 .add 8 1,
    vv 8 18]
def f71_21:AC:=.ops [0,1,7,8] [] f71_21l
theorem f71_21e:OP f71_21 f71_21l [0,1,7,8] []:=rfl
def f71_12:AC:=.seq f71_13 f71_21
theorem f71_12e:SQ f71_12 f71_13 f71_21:=rfl
def f71_10:AC:=.seq f71_11 f71_12
theorem f71_10e:SQ f71_10 f71_11 f71_12:=rfl
def f71_8:AC:=.seq (.ops [0,1,7,8,9] [] f71_9l) f71_10
theorem f71_8e:SO f71_8 f71_9l [0,1,7,8,9] [] f71_10:=rfl
def f71_7:AC:=.loop [0,1,7,8] [] f71_8
theorem f71_7w:aC P id m f71_7 sf st Q = aO (aC P id m f71_8) [0,1,7,8] [] sf st Q:=rfl
def f71_6:AC:=.block 0 f71_7
theorem f71_6e:BL f71_6 f71_7 0:=rfl
def f71_4:AC:=.seq (.ops [0,1,7,8] [] f71_5l) f71_6
theorem f71_4e:SO f71_4 f71_5l [0,1,7,8] [] f71_6:=rfl
def f71_23l:List GI:=[⟨none,.mv (some 4) (.c (.lit (.int .i64 (-1))))⟩]
def f71_22:AC:=.seq (.ops [4] [] f71_23l) .ret
theorem f71_22e:SO f71_22 f71_23l [4] [] .ret:=rfl
def f71_3:AC:=.seq f71_4 f71_22
theorem f71_3e:SQ f71_3 f71_4 f71_22:=rfl
def f71_1:AC:=.seq (.ops [0,1] [] f71_2l) f71_3
theorem f71_1e:SO f71_1 f71_2l [0,1] [] f71_3:=rfl
def c_f71:AFun:=⟨19,[.tmp 4],f71_1⟩
theorem k_f71:aH Go.Proofs.Try.prog x_f71 71 = some c_f71:=by kernel_rfl
theorem e_f71:al Go.Proofs.Try.prog 71 = true:=by kernel_rfl

def n_f72:Nat:=72
def x_f72:Cx:=⟨some,id,8,fun s=>([0,3,5,6,7]:List Nat).contains s,fun s=>([]:List Nat).contains s,msOf [(2,[1,2],[2]),(6,[3],[])]⟩
def f72_2l:List GI:=[⟨none,.boxL 2 3 (.r 0)⟩,
    ⟨none,.mv (some 3) (.c (.lit (.bool false)))⟩]
def f72_4l:List GI:=[vd 4 2 0,
    vl 5 4,
    vl 6 1,
    ⟨none,.bin (some 7) .num .eql (.r 5) (.r 6)⟩,
    vo 3 7]
def f72_3:AC:=.seq (.ops [3] [] f72_4l) .ret
theorem f72_3e:SO f72_3 f72_4l [3] [] .ret:=rfl
def f72_1:AC:=.seq (.ops [1,2] [2] f72_2l) f72_3
theorem f72_1e:SO f72_1 f72_2l [1,2] [2] f72_3:=rfl
def c_f72:AFun:=⟨8,[.tmp 3],f72_1⟩
theorem k_f72:aH Go.Proofs.Try.prog x_f72 72 = some c_f72:=by kernel_rfl
theorem e_f72:al Go.Proofs.Try.prog 72 = true:=by kernel_rfl

def n_f73:Nat:=73
def x_f73:Cx:=⟨some,id,42,fun s=>([0,1,4,5,6,7,8,9,10,11,13,14,15,16,17,18,20,21,23,25,26,27,28,31,32,34,35,36,37,38,39,40,41]:List Nat).contains s,fun s=>([0,30,36,38]:List Nat).contains s,msOf [(2,[0,1],[]),(6,[0,1,5],[]),(28,[0,1,5,12],[]),(116,[4],[]),(60,[0,1,5,6],[]),(122,[0,1,5,6],[]),(976,[0,1,5,6,19],[]),(1955,[0,5],[]),(3912,[0,1,5,6,7],[]),(7826,[0,1,5,6,7,29],[]),(31308,[0,1,5,6],[]),(31309,[0,1,5,6],[]),(979,[0,1,5,6],[]),(62,[0,5],[]),(126,[4],[])]⟩
def f73_2l:List GI:=[⟨none,.mv (some 4) (.c (.lit (.slice none 0 0)))⟩]
def f73_4l:List GI:=[vv 8 0,
    vv 9 1,
    ⟨none,.call (some 10) false (.f 83) [(.r 8),(.r 9)]⟩,
    vo 5 10]
def f73_7l:List GI:=[vv 11 5,
    ⟨none,.bin (some 12) .num .eql (.r 11) (.c (.lit (.int .i64 (-1))))⟩]
def f73_10l:List GI:=[vv 13 0,
    vo 4 13]
def f73_9:AC:=.seq (.ops [4] [] f73_10l) .ret
theorem f73_9e:SO f73_9 f73_10l [4] [] .ret:=rfl
def f73_8:AC:=.cond (.r 12) f73_9 .skip
theorem f73_8e:CN f73_8 12 f73_9 .skip:=rfl
def f73_6:AC:=.seq (.ops [0,1,5,12] [] f73_7l) f73_8
theorem f73_6e:SO f73_6 f73_7l [0,1,5,12] [] f73_8:=rfl
def f73_13l:List GI:=[vv 14 5,
    vb 15 .add 14 1,
    vo 6 15]
def f73_18l:List GI:=[vv 16 6,
    vv 17 0,
    ⟨none,.len (some 18) .sl (.r 17)⟩,
    ⟨none,.bin (some 19) .num .lss (.r 16) (.r 18)⟩]
def f73_19:AC:=.cond (.r 19) .skip (.exit [0,5] [] 0)
theorem f73_19e:CN f73_19 19 .skip (.exit [0,5] [] 0):=rfl
def f73_17:AC:=.seq (.ops [0,1,5,6,19] [] f73_18l) f73_19
theorem f73_17e:SO f73_17 f73_18l [0,1,5,6,19] [] f73_19:=rfl
def f73_23l:List GI:=[vv 22 0,
    vv 23 6,
    ⟨none,.ixS (some 24) (.r 22) (.r 23) 1⟩,
    vl 25 24,
    vo 7 25]
def f73_25l:List GI:=[vv 26 1,
    vv 27 7,
    ⟨none,.call (some 28) false (.r 26) [(.r 27)]⟩,
    ⟨none,.un (some 29) .not (.r 28)⟩]
def f73_28l:List GI:=[vv 30 0,
    vv 31 5,
    vv 32 7,
    ⟨none,.ixS (some 33) (.r 30) (.r 31) 1⟩,
    ⟨none,.store 1 (.r 33) (.r 32)⟩]
def f73_29l:List GI:=[vv 34 5,
    vb 35 .add 34 1,
    vo 5 35]
def f73_29:AC:=.ops [0,1,5,6] [] f73_29l
theorem f73_29e:OP f73_29 f73_29l [0,1,5,6] []:=rfl
def f73_27:AC:=.seq (.ops [0,1,5,6] [] f73_28l) f73_29
theorem f73_27e:SO f73_27 f73_28l [0,1,5,6] [] f73_29:=rfl
def f73_26:AC:=.cond (.r 29) f73_27 .skip
theorem f73_26e:CN f73_26 29 f73_27 .skip:=rfl
def f73_24:AC:=.seq (.ops [0,1,5,6,7,29] [] f73_25l) f73_26
theorem f73_24e:SO f73_24 f73_25l [0,1,5,6,7,29] [] f73_26:=rfl
def f73_22:AC:=.seq (.ops [0,1,5,6,7] [] f73_23l) f73_24
theorem f73_22e:SO f73_22 f73_23l [0,1,5,6,7] [] f73_24:=rfl
def f73_21:AC:=.block 1 f73_22
theorem f73_21e:BL f73_21 f73_22 1:=rfl
def f73_30l:List GI:=[vv 20 6,
    vb 21 .add 20 1,
    vo 6 21]
def f73_30:AC:=.ops [0,1,5,6] [] f73_30l
theorem f73_30e:OP f73_30 f73_30l [0,1,5,6] []:=rfl
def f73_20:AC:=.seq f73_21 f73_30
theorem f73_20e:SQ f73_20 f73_21 f73_30:=rfl
def f73_16:AC:=.seq f73_17 f73_20
theorem f73_16e:SQ f73_16 f73_17 f73_20:=rfl
def f73_15:AC:=.loop [0,1,5,6] [] f73_16
theorem f73_15w:aC P id m f73_15 sf st Q = aO (aC P id m f73_16) [0,1,5,6] [] sf st Q:=rfl
def f73_14:AC:=.block 0 f73_15
theorem f73_14e:BL f73_14 f73_15 0:=rfl
def f73_12:AC:=.seq (.ops [0,1,5,6] [] f73_13l) f73_14
theorem f73_12e:SO f73_12 f73_13l [0,1,5,6] [] f73_14:=rfl
def f73_32l:List GI:=[vv 36 0,
    vv 37 5,
    ⟨none,.sliOwn 38 36 (.r 37) 1⟩,
    ⟨none,.x none (.clrB 1 (.lit (.int .i64 0)) (.r 38))⟩]
def f73_34l:List GI:=[vv 39 0,
    vv 40 5,
    ⟨none,.sliS (some 41) (.r 39) none (some (.r 40)) 1⟩,
    vo 4 41]
def f73_33:AC:=.seq (.ops [4] [] f73_34l) .ret
theorem f73_33e:SO f73_33 f73_34l [4] [] .ret:=rfl
def f73_31:AC:=.seq (.ops [0,5] [] f73_32l) f73_33
theorem f73_31e:SO f73_31 f73_32l [0,5] [] f73_33:=rfl
def f73_11:AC:=.seq f73_12 f73_31
theorem f73_11e:SQ f73_11 f73_12 f73_31:=rfl
def f73_5:AC:=.seq f73_6 f73_11
theorem f73_5e:SQ f73_5 f73_6 f73_11:=rfl
def f73_3:AC:=.seq (.ops [0,1,5] [] f73_4l) f73_5
theorem f73_3e:SO f73_3 f73_4l [0,1,5] [] f73_5:=rfl
def f73_1:AC:=.seq (.ops [0,1] [] f73_2l) f73_3
theorem f73_1e:SO f73_1 f73_2l [0,1] [] f73_3:=rfl
def c_f73:AFun:=⟨42,[.tmp 4],f73_1⟩
theorem k_f73:aH Go.Proofs.Try.prog x_f73 73 = some c_f73:=by kernel_rfl
theorem e_f73:al Go.Proofs.Try.prog 73 = true:=by kernel_rfl

def n_f74:Nat:=74
def x_f74:Cx:=⟨some,id,7,fun s=>([0,3,4,5,6]:List Nat).contains s,fun s=>([]:List Nat).contains s,msOf [(2,[0,1],[]),(6,[3],[])]⟩
def f74_2l:List GI:=[⟨none,.mv (some 3) (.c (.lit (.bool false)))⟩]
def f74_4l:List GI:=[vv 4 0,
    vl 5 1,
    ⟨none,.bin (some 6) .num .eql (.r 4) (.r 5)⟩,
    vo 3 6]
def f74_3:AC:=.seq (.ops [3] [] f74_4l) .ret
theorem f74_3e:SO f74_3 f74_4l [3] [] .ret:=rfl
def f74_1:AC:=.seq (.ops [0,1] [] f74_2l) f74_3
theorem f74_1e:SO f74_1 f74_2l [0,1] [] f74_3:=rfl
def c_f74:AFun:=⟨7,[.tmp 3],f74_1⟩
theorem k_f74:aH Go.Proofs.Try.prog x_f74 74 = some c_f74:=by kernel_rfl
theorem e_f74:al Go.Proofs.Try.prog 74 = true:=by kernel_rfl

def n_f75:Nat:=75
def x_f75:Cx:=⟨some,id,31,fun s=>([0,2,3,4,6,7,13,14,18,23,24,25,30]:List Nat).contains s,fun s=>([]:List Nat).contains s,msOf [(2,[0],[]),(24,[0,5],[]),(100,[2,3,4],[]),(102,[0,8],[]),(412,[2,3,4],[]),(14,[2,3,4],[])]⟩
def f75_2l:List GI:=[⟨none,.mv (some 2) (.c (.lit (.int .i64 0)))⟩,
    ⟨none,.mv (some 3) (.c (.lit (.int .u64 0)))⟩,
    ⟨none,.mv (some 4) (.c (.lit (.int .i64 0)))⟩]
def f75_6l:List GI:=[vv 6 0,
    ⟨none,.call (some 7) false (.f 62) [(.r 6)]⟩,
    vo 5 7]
def f75_9l:List GI:=[⟨none,.mv (some 2) (.c (.lit (.int .i64 0)))⟩,
    ⟨none,.mv (some 3) (.c (.lit (.int .u64 0)))⟩,
    ⟨none,.mv (some 4) (.c (.lit (.int .i64 1)))⟩]
def f75_8:AC:=.seq (.ops [2,3,4] [] f75_9l) .ret
theorem f75_8e:SO f75_8 f75_9l [2,3,4] [] .ret:=rfl
def f75_11l:List GI:=[vv 9 0,
    vn 10 9,
    vd 11 10 0,
    vd 12 11 0,
    vl 13 12,
    ⟨none,.bin (some 14) .num .eql (.r 13) (.c (.lit (.int .u64 0)))⟩,
    vo 8 14]
def f75_14l:List GI:=[⟨none,.mv (some 2) (.c (.lit (.int .i64 0)))⟩,
    ⟨none,.mv (some 3) (.c (.lit (.int .u64 0)))⟩,
    ⟨none,.mv (some 4) (.c (.lit (.int .i64 9)))⟩]
def f75_13:AC:=.seq (.ops [2,3,4] [] f75_14l) .ret
theorem f75_13e:SO f75_13 f75_14l [2,3,4] [] .ret:=rfl
def f75_12:AC:=.cond (.r 8) f75_13 .skip
theorem f75_12e:CN f75_12 8 f75_13 .skip:=rfl
def f75_10:AC:=.seq (.ops [0,8] [] f75_11l) f75_12
theorem f75_10e:SO f75_10 f75_11l [0,8] [] f75_12:=rfl
def f75_7:AC:=.cond (.r 5) f75_8 f75_10
theorem f75_7e:CN f75_7 5 f75_8 f75_10:=rfl
def f75_5:AC:=.seq (.ops [0,5] [] f75_6l) f75_7
theorem f75_5e:SO f75_5 f75_6l [0,5] [] f75_7:=rfl
def f75_4:AC:=.block 0 f75_5
theorem f75_4e:BL f75_4 f75_5 0:=rfl
def f75_16h:List GI:=[vv 15 0,
    vn 16 15,
    vd 17 16 3,
    vl 18 17,
    vv 19 0,
    vn 20 19,
    vd 21 20 0,
    vd 22 21 0,
    vl 23 22,
    ⟨none,.lookup (some 24) (.int .u64) (.agg [(.lit (.int .i64 0)),(.lit (.int .u64 0)),(.lit (.int .u64 0))]) false (.r 18) (.r 23)⟩,
    ⟨none,.field (some 25) (.r 24) 0 none⟩,
    vv 26 0,
    vn 27 26,
    vd 28 27 0,
    vd 29 28 0,
    vl 30 29,
    vv 2 25]
def f75_16l:List GI:=[vo 3 30,
    ⟨none,.mv (some 4) (.c (.lit (.int .i64 0)))⟩]
def f75_16:AC:=.draw [2,3,4] [] [] f75_16h f75_16l
theorem f75_16e:aC P id m f75_16 sf st Q = ap P id sf.locs st f75_16h (aZ P id m [] [2,3,4] [] f75_16l Q st) [] ⟨sf.regs,aY [] sf.locs⟩:=rfl
def f75_15:AC:=.seq f75_16 .ret
theorem f75_15e:SQ f75_15 f75_16 .ret:=rfl
def f75_3:AC:=.seq f75_4 f75_15
theorem f75_3e:SQ f75_3 f75_4 f75_15:=rfl
def f75_1:AC:=.seq (.ops [0] [] f75_2l) f75_3
theorem f75_1e:SO f75_1 f75_2l [0] [] f75_3:=rfl
def c_f75:AFun:=⟨31,[.tmp 2,.tmp 3,.tmp 4],f75_1⟩
theorem k_f75:aH Go.Proofs.Try.prog x_f75 75 = some c_f75:=by kernel_rfl
theorem e_f75:al Go.Proofs.Try.prog 75 = true:=by kernel_rfl

def n_f81:Nat:=81
def x_f81:Cx:=⟨some,id,10,fun s=>([0,2,3,8,9]:List Nat).contains s,fun s=>([]:List Nat).contains s,msOf [(2,[0],[]),(12,[0,4],[]),(52,[2],[]),(14,[2],[])]⟩
def f81_2l:List GI:=[⟨none,.mv (some 2) (.c (.lit (.int .i64 0)))⟩]
def f81_5l:List GI:=[vv 3 0,
    ⟨none,.call (some 4) false (.f 62) [(.r 3)]⟩]
def f81_8l:List GI:=[⟨none,.mv (some 2) (.c (.lit (.int .i64 0)))⟩]
def f81_7:AC:=.seq (.ops [2] [] f81_8l) .ret
theorem f81_7e:SO f81_7 f81_8l [2] [] .ret:=rfl
def f81_6:AC:=.cond (.r 4) f81_7 .skip
theorem f81_6e:CN f81_6 4 f81_7 .skip:=rfl
def f81_4:AC:=.seq (.ops [0,4] [] f81_5l) f81_6
theorem f81_4e:SO f81_4 f81_5l [0,4] [] f81_6:=rfl
def f81_10l:List GI:=[vv 5 0,
    vn 6 5,
    vd 7 6 3,
    vl 8 7,
    ⟨none,.len (some 9) .mp (.r 8)⟩,
    vo 2 9]
def f81_9:AC:=.seq (.ops [2] [] f81_10l) .ret
theorem f81_9e:SO f81_9 f81_10l [2] [] .ret:=rfl
def f81_3:AC:=.seq f81_4 f81_9
theorem f81_3e:SQ f81_3 f81_4 f81_9:=rfl
def f81_1:AC:=.seq (.ops [0] [] f81_2l) f81_3
theorem f81_1e:SO f81_1 f81_2l [0] [] f81_3:=rfl
def c_f81:AFun:=⟨10,[.tmp 2],f81_1⟩
theorem k_f81:aH Go.Proofs.Try.prog x_f81 81 = some c_f81:=by kernel_rfl
theorem e_f81:al Go.Proofs.Try.prog 81 = true:=by kernel_rfl

def n_f83:Nat:=83
def x_f83:Cx:=⟨some,id,19,fun s=>([0,1,4,5,6,7,8,10,11,13,15,17,18]:List Nat).contains s,fun s=>([]:List Nat).contains s,msOf [(2,[0,1],[]),(12,[0,1,7,8],[]),(26,[0,1,7,8],[]),(104,[0,1,7,8,9],[]),(421,[],[]),(1688,[0,1,5,7,8],[]),(3378,[0,1,5,7,8,16],[]),(13516,[4],[]),(423,[0,1,7,8],[]),(14,[4],[])]⟩
def f83_2l:List GI:=[⟨none,.mv (some 4) (.c (.lit (.int .i64 0)))⟩]
def f83_5l:List GI:=[vv 6 0,
    ⟨none,.len (some 7) .sl (.r 6)⟩,
    ⟨none,.mv (some 8) (.c (.lit (.int .i64 0)))⟩]
def f83_9l:List GI:=[⟨none,.bin (some 9) .num .lss (.r 8) (.r 7)⟩]
def f83_11:AC:=.cond (.r 9) .skip (.exit [] [] 0)
theorem f83_11e:CN f83_11 9 .skip (.exit [] [] 0):=rfl
def f83_15l:List GI:=[vv 10 8,
    vo 5 10]
def f83_17l:List GI:=[vv 11 1,
    vv 12 0,
    vv 13 5,
    ⟨none,.ixS (some 14) (.r 12) (.r 13) 1⟩,
    vl 15 14,
    ⟨none,.call (some 16) false (.r 11) [(.r 15)]⟩]
def f83_20l:List GI:=[vv 17 5,
    vo 4 17]
def f83_19:AC:=.seq (.ops [4] [] f83_20l) .ret
theorem f83_19e:SO f83_19 f83_20l [4] [] .ret:=rfl
def f83_18:AC:=.cond (.r 16) f83_19 .skip
theorem f83_18e:CN f83_18 16 f83_19 .skip:=rfl
def f83_16:AC:=.seq (.ops [0,1,5,7,8,16] [] f83_17l) f83_18
theorem f83_16e:SO f83_16 f83_17l [0,1,5,7,8,16] [] f83_18:=rfl
def f83_14:AC:=.seq (.ops [0,1,5,7,8] [] f83_15l) f83_16
theorem f83_14e:SO f83_14 f83_15l [0,1,5,7,8] [] f83_16:=rfl
def f83_13:AC:=.block 1 f83_14
theorem f83_13e:BL f83_13 f83_14 1:=rfl
def f83_21l:List GI:=[vb 18 .add 8 1,
    vv 8 18]
def f83_21:AC:=.ops [0,1,7,8] [] f83_21l
theorem f83_21e:OP f83_21 f83_21l [0,1,7,8] []:=rfl
def f83_12:AC:=.seq f83_13 f83_21
theorem f83_12e:SQ f83_12 f83_13 f83_21:=rfl
def f83_10:AC:=.seq f83_11 f83_12
theorem f83_10e:SQ f83_10 f83_11 f83_12:=rfl
def f83_8:AC:=.seq (.ops [0,1,7,8,9] [] f83_9l) f83_10
theorem f83_8e:SO f83_8 f83_9l [0,1,7,8,9] [] f83_10:=rfl
def f83_7:AC:=.loop [0,1,7,8] [] f83_8
theorem f83_7w:aC P id m f83_7 sf st Q = aO (aC P id m f83_8) [0,1,7,8] [] sf st Q:=rfl
def f83_6:AC:=.block 0 f83_7
theorem f83_6e:BL f83_6 f83_7 0:=rfl
def f83_4:AC:=.seq (.ops [0,1,7,8] [] f83_5l) f83_6
theorem f83_4e:SO f83_4 f83_5l [0,1,7,8] [] f83_6:=rfl
def f83_23l:List GI:=[⟨none,.mv (some 4) (.c (.lit (.int .i64 (-1))))⟩]
def f83_22:AC:=.seq (.ops [4] [] f83_23l) .ret
theorem f83_22e:SO f83_22 f83_23l [4] [] .ret:=rfl
def f83_3:AC:=.seq f83_4 f83_22
theorem f83_3e:SQ f83_3 f83_4 f83_22:=rfl
def f83_1:AC:=.seq (.ops [0,1] [] f83_2l) f83_3
theorem f83_1e:SO f83_1 f83_2l [0,1] [] f83_3:=rfl
def c_f83:AFun:=⟨19,[.tmp 4],f83_1⟩
theorem k_f83:aH Go.Proofs.Try.prog x_f83 83 = some c_f83:=by kernel_rfl
theorem e_f83:al Go.Proofs.Try.prog 83 = true:=by kernel_rfl

def n_f1052:Nat:=52
def x_f1052:Cx:=⟨some,id,8,fun s=>([0,2,3,5,6,7]:List Nat).contains s,fun s=>([]:List Nat).contains s,msOf [(2,[0],[]),(12,[0,4],[]),(52,[2],[]),(14,[2],[])]⟩
def f1052_2l:List GI:=[⟨none,.mv (some 2) (.c (.lit (.slice none 0 0)))⟩]
def f1052_5l:List GI:=[vv 3 0,
    ⟨none,.x (some 4) (.nilU .eql (.r 3) (.c (.lit (.slice none 0 0))))⟩]
def f1052_8l:List GI:=[⟨none,.mv (some 2) (.c (.lit (.slice none 0 0)))⟩]
def f1052_7:AC:=.seq (.ops [2] [] f1052_8l) .ret
theorem f1052_7e:SO f1052_7 f1052_8l [2] [] .ret:=rfl
def f1052_6:AC:=.cond (.r 4) f1052_7 .skip
theorem f1052_6e:CN f1052_6 4 f1052_7 .skip:=rfl
def f1052_4:AC:=.seq (.ops [0,4] [] f1052_5l) f1052_6
theorem f1052_4e:SO f1052_4 f1052_5l [0,4] [] f1052_6:=rfl
def f1052_10l:List GI:=[⟨none,.bsl (some 5) 1 0 (.lit (.int .i64 0)) []⟩,
    vv 6 0,
    ⟨none,.appS 7 5 1 8 (.r 6)⟩,
    vo 2 7]
def f1052_9:AC:=.seq (.ops [2] [] f1052_10l) .ret
theorem f1052_9e:SO f1052_9 f1052_10l [2] [] .ret:=rfl
def f1052_3:AC:=.seq f1052_4 f1052_9
theorem f1052_3e:SQ f1052_3 f1052_4 f1052_9:=rfl
def f1052_1:AC:=.seq (.ops [0] [] f1052_2l) f1052_3
theorem f1052_1e:SO f1052_1 f1052_2l [0] [] f1052_3:=rfl
def c_f1052:AFun:=⟨8,[.tmp 2],f1052_1⟩
theorem k_f1052:aH Go.Proofs.Try.prog x_f1052 52 = some c_f1052:=by kernel_rfl
theorem e_f1052:al Go.Proofs.Try.prog 52 = true:=by kernel_rfl

def tab (q:Nat):Option AFun :=
  if q = 4 then some c_f4 else
  if q = 10 then some c_f10 else
  if q = 11 then some c_f11 else
  if q = 12 then some c_f12 else
  if q = 13 then some c_f13 else
  if q = 14 then some c_f14 else
  if q = 15 then some c_f15 else
  if q = 16 then some c_f16 else
  if q = 17 then some c_f17 else
  if q = 18 then some c_f18 else
  if q = 19 then some c_f19 else
  if q = 20 then some c_f20 else
  if q = 21 then some c_f21 else
  if q = 22 then some c_f22 else
  if q = 23 then some c_f23 else
  if q = 24 then some c_f24 else
  if q = 26 then some c_f26 else
  if q = 27 then some c_f27 else
  if q = 30 then some c_f30 else
  if q = 31 then some c_f31 else
  if q = 32 then some c_f32 else
  if q = 33 then some c_f33 else
  if q = 34 then some c_f34 else
  if q = 35 then some c_f35 else
  if q = 36 then some c_f36 else
  if q = 37 then some c_f37 else
  if q = 38 then some c_f38 else
  if q = 39 then some c_f39 else
  if q = 40 then some c_f40 else
  if q = 41 then some c_f41 else
  if q = 42 then some c_f42 else
  if q = 43 then some c_f43 else
  if q = 44 then some c_f44 else
  if q = 45 then some c_f45 else
  if q = 46 then some c_f46 else
  if q = 47 then some c_f47 else
  if q = 48 then some c_f48 else
  if q = 51 then some c_f51 else
  if q = 52 then some c_f52 else
  if q = 53 then some c_f53 else
  if q = 54 then some c_f54 else
  if q = 56 then some c_f56 else
  if q = 57 then some c_f57 else
  if q = 58 then some c_f58 else
  if q = 59 then some c_f59 else
  if q = 60 then some c_f60 else
  if q = 61 then some c_f61 else
  if q = 62 then some c_f62 else
  if q = 63 then some c_f63 else
  if q = 68 then some c_f68 else
  if q = 69 then some c_f69 else
  if q = 71 then some c_f71 else
  if q = 72 then some c_f72 else
  if q = 73 then some c_f73 else
  if q = 74 then some c_f74 else
  if q = 75 then some c_f75 else
  if q = 81 then some c_f81 else
  if q = 83 then some c_f83 else
  none
theorem tabOk:TabOk Go.Proofs.Try.prog id tab :=
  af e_f4 k_f4 rfl (
  af e_f10 k_f10 rfl (
  af e_f11 k_f11 rfl (
  af e_f12 k_f12 rfl (
  af e_f13 k_f13 rfl (
  af e_f14 k_f14 rfl (
  af e_f15 k_f15 rfl (
  af e_f16 k_f16 rfl (
  af e_f17 k_f17 rfl (
  af e_f18 k_f18 rfl (
  af e_f19 k_f19 rfl (
  af e_f20 k_f20 rfl (
  af e_f21 k_f21 rfl (
  af e_f22 k_f22 rfl (
  af e_f23 k_f23 rfl (
  af e_f24 k_f24 rfl (
  af e_f26 k_f26 rfl (
  af e_f27 k_f27 rfl (
  af e_f30 k_f30 rfl (
  af e_f31 k_f31 rfl (
  af e_f32 k_f32 rfl (
  af e_f33 k_f33 rfl (
  af e_f34 k_f34 rfl (
  af e_f35 k_f35 rfl (
  af e_f36 k_f36 rfl (
  af e_f37 k_f37 rfl (
  af e_f38 k_f38 rfl (
  af e_f39 k_f39 rfl (
  af e_f40 k_f40 rfl (
  af e_f41 k_f41 rfl (
  af e_f42 k_f42 rfl (
  af e_f43 k_f43 rfl (
  af e_f44 k_f44 rfl (
  af e_f45 k_f45 rfl (
  af e_f46 k_f46 rfl (
  af e_f47 k_f47 rfl (
  af e_f48 k_f48 rfl (
  af e_f51 k_f51 rfl (
  af e_f52 k_f52 rfl (
  af e_f53 k_f53 rfl (
  af e_f54 k_f54 rfl (
  af e_f56 k_f56 rfl (
  af e_f57 k_f57 rfl (
  af e_f58 k_f58 rfl (
  af e_f59 k_f59 rfl (
  af e_f60 k_f60 rfl (
  af e_f61 k_f61 rfl (
  af e_f62 k_f62 rfl (
  af e_f63 k_f63 rfl (
  af e_f68 k_f68 rfl (
  af e_f69 k_f69 rfl (
  af e_f71 k_f71 rfl (
  af e_f72 k_f72 rfl (
  af e_f73 k_f73 rfl (
  af e_f74 k_f74 rfl (
  af e_f75 k_f75 rfl (
  af e_f81 k_f81 rfl (
  af e_f83 k_f83 rfl (
  tabOk_nil))))))))))))))))))))))))))))))))))))))))))))))))))))))))))
theorem hmix:Go.Proofs.Try.prog.follows .mixedOrders = true:=by kernel_rfl
end
end Go.Fx.YtbomoaajkinfpaaFx

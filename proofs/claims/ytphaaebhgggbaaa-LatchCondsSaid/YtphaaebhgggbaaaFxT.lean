/- The functions that the statement reaches, resolved: printed by a program of ours from the translated code; each is checked here. -/
import Derived.Test.YtphaaebhgggbaaaFxS
set_option maxRecDepth 100000
set_option maxHeartbeats 0
namespace Go.Fx.YtphaaebhgggbaaaFx
open Go Go.Fx
section
variable (P:Program) (m:Bool) (sf:Sf) (st:St) (Q:Exit→Sf→St→Prop)
def n_f47:Nat:=47
def x_f47:Cx:=⟨some,id,29,fun s=>([0,1,6,7,8,9,10,12,13,14,16,18,20,21,23,24,25,27,28]:List Nat).contains s,fun s=>([]:List Nat).contains s,msOf [(2,[1,2,4,5],[2,4,5]),(12,[1,2,4,5,6],[2,4,5]),(26,[1,2,4,5,6,11],[2,4,5]),(108,[4,5],[4,5]),(28,[1,2,4,5,17],[2,4,5]),(116,[2,4,5],[2,4,5]),(234,[4,5],[4,5]),(30,[2,4,5],[2,4,5]),(62,[4,5],[4,5])]⟩
def f47_2l:List GI:=[⟨none,.boxL 2 7 (.r 0)⟩,
    ⟨none,.newL 4 [(.lit (.int .i64 0)),(.lit (.int .i64 0)),(.lit (.int .i64 0)),(.lit (.int .i64 0)),(.lit (.bool false)),(.lit (.slice none 0 0)),(.lit (.slice none 0 0))]⟩,
    ⟨none,.newL 5 [(.lit (.bool false)),(.lit (.bool false)),(.lit (.slice none 0 0)),(.lit (.int .i64 0))]⟩]
def f47_2:AC:=.ops [1,2,4,5] [2,4,5] f47_2l
theorem f47_2e:OP f47_2 f47_2l [1,2,4,5] [2,4,5]:=rfl
def f47_5l:List GI:=[⟨none,.load (some 7) (.r 2) (some 7)⟩,
    vv 8 1,
    ⟨none,.call (some 9) false (.f 67) [(.r 7),(.r 8)]⟩,
    vo 6 9]
def f47_5:AC:=.ops [1,2,4,5,6] [2,4,5] f47_5l
theorem f47_5e:OP f47_5 f47_5l [1,2,4,5,6] [2,4,5]:=rfl
def f47_7l:List GI:=[vv 10 6,
    vb 11 .neq 10 0]
def f47_7:AC:=.ops [1,2,4,5,6,11] [2,4,5] f47_7l
theorem f47_7e:OP f47_7 f47_7l [1,2,4,5,6,11] [2,4,5]:=rfl
def f47_10l:List GI:=[⟨none,.load (some 12) (.r 2) (some 7)⟩,
    vv 13 6,
    ⟨none,.bst (some 14) [(0,1),(1,1),(2,1),(3,1)] (.agg [(.lit (.bool false)),(.lit (.bool false)),(.lit (.slice none 0 0)),(.lit (.int .i64 0))]) [(3,(.r 13))]⟩,
    ⟨none,.store 7 (.r 4) (.r 12)⟩,
    ⟨none,.store 4 (.r 5) (.r 14)⟩]
def f47_10:AC:=.ops [4,5] [4,5] f47_10l
theorem f47_10e:OP f47_10 f47_10l [4,5] [4,5]:=rfl
def f47_9:AC:=.seq f47_10 .ret
theorem f47_9e:SQ f47_9 f47_10 .ret:=rfl
def f47_8:AC:=.cond (.r 11) f47_9 .skip
theorem f47_8e:CN f47_8 11 f47_9 .skip:=rfl
def f47_6:AC:=.seq f47_7 f47_8
theorem f47_6e:SQ f47_6 f47_7 f47_8:=rfl
def f47_4:AC:=.seq f47_5 f47_6
theorem f47_4e:SQ f47_4 f47_5 f47_6:=rfl
def f47_13l:List GI:=[vd 15 2 3,
    vl 16 15,
    vb 17 .lss 16 0]
def f47_13:AC:=.ops [1,2,4,5,17] [2,4,5] f47_13l
theorem f47_13e:OP f47_13 f47_13l [1,2,4,5,17] [2,4,5]:=rfl
def f47_16l:List GI:=[vv 18 1,
    vd 19 2 3,
    ⟨none,.store 1 (.r 19) (.r 18)⟩]
def f47_16:AC:=.ops [2,4,5] [2,4,5] f47_16l
theorem f47_16e:OP f47_16 f47_16l [2,4,5] [2,4,5]:=rfl
def f47_18l:List GI:=[⟨none,.load (some 20) (.r 2) (some 7)⟩,
    ⟨none,.bst (some 21) [(0,1),(1,1),(2,1),(3,1)] (.agg [(.lit (.bool false)),(.lit (.bool false)),(.lit (.slice none 0 0)),(.lit (.int .i64 0))]) [(1,(.c (.lit (.bool true))))]⟩,
    ⟨none,.store 7 (.r 4) (.r 20)⟩,
    ⟨none,.store 4 (.r 5) (.r 21)⟩]
def f47_18:AC:=.ops [4,5] [4,5] f47_18l
theorem f47_18e:OP f47_18 f47_18l [4,5] [4,5]:=rfl
def f47_17:AC:=.seq f47_18 .ret
theorem f47_17e:SQ f47_17 f47_18 .ret:=rfl
def f47_15:AC:=.seq f47_16 f47_17
theorem f47_15e:SQ f47_15 f47_16 f47_17:=rfl
def f47_14:AC:=.cond (.r 17) f47_15 .skip
theorem f47_14e:CN f47_14 17 f47_15 .skip:=rfl
def f47_12:AC:=.seq f47_13 f47_14
theorem f47_12e:SQ f47_12 f47_13 f47_14:=rfl
def f47_20l:List GI:=[vd 22 2 5,
    vl 23 22,
    vv 24 1,
    ⟨none,.call (some 25) false (.f 21) [(.r 23),(.r 24)]⟩,
    vd 26 2 5,
    ⟨none,.store 1 (.r 26) (.r 25)⟩]
def f47_20:AC:=.ops [2,4,5] [2,4,5] f47_20l
theorem f47_20e:OP f47_20 f47_20l [2,4,5] [2,4,5]:=rfl
def f47_22l:List GI:=[⟨none,.load (some 27) (.r 2) (some 7)⟩,
    ⟨none,.bst (some 28) [(0,1),(1,1),(2,1),(3,1)] (.agg [(.lit (.bool false)),(.lit (.bool false)),(.lit (.slice none 0 0)),(.lit (.int .i64 0))]) []⟩,
    ⟨none,.store 7 (.r 4) (.r 27)⟩,
    ⟨none,.store 4 (.r 5) (.r 28)⟩]
def f47_22:AC:=.ops [4,5] [4,5] f47_22l
theorem f47_22e:OP f47_22 f47_22l [4,5] [4,5]:=rfl
def f47_21:AC:=.seq f47_22 .ret
theorem f47_21e:SQ f47_21 f47_22 .ret:=rfl
def f47_19:AC:=.seq f47_20 f47_21
theorem f47_19e:SQ f47_19 f47_20 f47_21:=rfl
def f47_11:AC:=.seq f47_12 f47_19
theorem f47_11e:SQ f47_11 f47_12 f47_19:=rfl
def f47_3:AC:=.seq f47_4 f47_11
theorem f47_3e:SQ f47_3 f47_4 f47_11:=rfl
def f47_1:AC:=.seq f47_2 f47_3
theorem f47_1e:SQ f47_1 f47_2 f47_3:=rfl
def c_f47:AFun:=⟨29,[.cell 4 (some 7),.cell 5 (some 4)],f47_1⟩
theorem k_f47:bj Go.Proofs.Try.prog x_f47 47 = some c_f47:=by kernel_rfl
theorem e_f47:aQ Go.Proofs.Try.prog 47 = true:=by kernel_rfl

def n_f48:Nat:=48
def x_f48:Cx:=⟨some,id,30,fun s=>([0,1,8,9,11,12,14,15,17,18,22,23,24,26,27,28,29]:List Nat).contains s,fun s=>([]:List Nat).contains s,msOf [(2,[1,2,3,6,7],[3,6,7]),(12,[1,2,3,6,7,10],[3,6,7]),(52,[6,7],[6,7]),(28,[1,2,3,6,7,16],[3,6,7]),(116,[6,7],[6,7]),(30,[1,2,3,6,7],[3,6,7]),(124,[1,3,6,7,20],[3,6,7]),(250,[3,6,7],[3,6,7]),(126,[6,7],[6,7])]⟩
def f48_2l:List GI:=[⟨none,.boxL 3 7 (.r 0)⟩,
    ⟨none,.newL 6 [(.lit (.int .i64 0)),(.lit (.int .i64 0)),(.lit (.int .i64 0)),(.lit (.int .i64 0)),(.lit (.bool false)),(.lit (.slice none 0 0)),(.lit (.slice none 0 0))]⟩,
    ⟨none,.newL 7 [(.lit (.bool false)),(.lit (.bool false)),(.lit (.slice none 0 0)),(.lit (.int .i64 0))]⟩]
def f48_2:AC:=.ops [1,2,3,6,7] [3,6,7] f48_2l
theorem f48_2e:OP f48_2 f48_2l [1,2,3,6,7] [3,6,7]:=rfl
def f48_5l:List GI:=[vv 8 1,
    ⟨none,.call (some 9) false (.f 68) [(.r 8)]⟩,
    ⟨none,.un (some 10) .not (.r 9)⟩]
def f48_5:AC:=.ops [1,2,3,6,7,10] [3,6,7] f48_5l
theorem f48_5e:OP f48_5 f48_5l [1,2,3,6,7,10] [3,6,7]:=rfl
def f48_8l:List GI:=[⟨none,.load (some 11) (.r 3) (some 7)⟩,
    ⟨none,.bst (some 12) [(0,1),(1,1),(2,1),(3,1)] (.agg [(.lit (.bool false)),(.lit (.bool false)),(.lit (.slice none 0 0)),(.lit (.int .i64 0))]) [(3,(.c (.lit (.int .i64 2))))]⟩,
    ⟨none,.store 7 (.r 6) (.r 11)⟩,
    ⟨none,.store 4 (.r 7) (.r 12)⟩]
def f48_8:AC:=.ops [6,7] [6,7] f48_8l
theorem f48_8e:OP f48_8 f48_8l [6,7] [6,7]:=rfl
def f48_7:AC:=.seq f48_8 .ret
theorem f48_7e:SQ f48_7 f48_8 .ret:=rfl
def f48_6:AC:=.cond (.r 10) f48_7 .skip
theorem f48_6e:CN f48_6 10 f48_7 .skip:=rfl
def f48_4:AC:=.seq f48_5 f48_6
theorem f48_4e:SQ f48_4 f48_5 f48_6:=rfl
def f48_11l:List GI:=[vd 13 3 3,
    vl 14 13,
    vv 15 1,
    ⟨none,.bin (some 16) .num .neq (.r 14) (.r 15)⟩]
def f48_11:AC:=.ops [1,2,3,6,7,16] [3,6,7] f48_11l
theorem f48_11e:OP f48_11 f48_11l [1,2,3,6,7,16] [3,6,7]:=rfl
def f48_14l:List GI:=[⟨none,.load (some 17) (.r 3) (some 7)⟩,
    ⟨none,.bst (some 18) [(0,1),(1,1),(2,1),(3,1)] (.agg [(.lit (.bool false)),(.lit (.bool false)),(.lit (.slice none 0 0)),(.lit (.int .i64 0))]) [(3,(.c (.lit (.int .i64 8))))]⟩,
    ⟨none,.store 7 (.r 6) (.r 17)⟩,
    ⟨none,.store 4 (.r 7) (.r 18)⟩]
def f48_14:AC:=.ops [6,7] [6,7] f48_14l
theorem f48_14e:OP f48_14 f48_14l [6,7] [6,7]:=rfl
def f48_13:AC:=.seq f48_14 .ret
theorem f48_13e:SQ f48_13 f48_14 .ret:=rfl
def f48_12:AC:=.cond (.r 16) f48_13 .skip
theorem f48_12e:CN f48_12 16 f48_13 .skip:=rfl
def f48_10:AC:=.seq f48_11 f48_12
theorem f48_10e:SQ f48_10 f48_11 f48_12:=rfl
def f48_16l:List GI:=[vd 19 3 3,
    ⟨none,.store 1 (.r 19) (.c (.lit (.int .i64 (-1))))⟩]
def f48_16:AC:=.ops [1,2,3,6,7] [3,6,7] f48_16l
theorem f48_16e:OP f48_16 f48_16l [1,2,3,6,7] [3,6,7]:=rfl
def f48_19l:List GI:=[vv 20 2]
def f48_19:AC:=.ops [1,3,6,7,20] [3,6,7] f48_19l
theorem f48_19e:OP f48_19 f48_19l [1,3,6,7,20] [3,6,7]:=rfl
def f48_21l:List GI:=[vd 21 3 6,
    vl 22 21,
    vv 23 1,
    ⟨none,.call (some 24) false (.f 21) [(.r 22),(.r 23)]⟩,
    vd 25 3 6,
    ⟨none,.store 1 (.r 25) (.r 24)⟩]
def f48_21:AC:=.ops [3,6,7] [3,6,7] f48_21l
theorem f48_21e:OP f48_21 f48_21l [3,6,7] [3,6,7]:=rfl
def f48_20:AC:=.cond (.r 20) f48_21 .skip
theorem f48_20e:CN f48_20 20 f48_21 .skip:=rfl
def f48_18:AC:=.seq f48_19 f48_20
theorem f48_18e:SQ f48_18 f48_19 f48_20:=rfl
def f48_23l:List GI:=[⟨none,.load (some 26) (.r 3) (some 7)⟩,
    ⟨none,.call (some 27) false (.f 73) [(.r 26)]⟩,
    ve 28 27 0,
    ve 29 27 1,
    ⟨none,.store 7 (.r 6) (.r 28)⟩,
    ⟨none,.store 4 (.r 7) (.r 29)⟩]
def f48_23:AC:=.ops [6,7] [6,7] f48_23l
theorem f48_23e:OP f48_23 f48_23l [6,7] [6,7]:=rfl
def f48_22:AC:=.seq f48_23 .ret
theorem f48_22e:SQ f48_22 f48_23 .ret:=rfl
def f48_17:AC:=.seq f48_18 f48_22
theorem f48_17e:SQ f48_17 f48_18 f48_22:=rfl
def f48_15:AC:=.seq f48_16 f48_17
theorem f48_15e:SQ f48_15 f48_16 f48_17:=rfl
def f48_9:AC:=.seq f48_10 f48_15
theorem f48_9e:SQ f48_9 f48_10 f48_15:=rfl
def f48_3:AC:=.seq f48_4 f48_9
theorem f48_3e:SQ f48_3 f48_4 f48_9:=rfl
def f48_1:AC:=.seq f48_2 f48_3
theorem f48_1e:SQ f48_1 f48_2 f48_3:=rfl
def c_f48:AFun:=⟨30,[.cell 6 (some 7),.cell 7 (some 4)],f48_1⟩
theorem k_f48:bj Go.Proofs.Try.prog x_f48 48 = some c_f48:=by kernel_rfl
theorem e_f48:aQ Go.Proofs.Try.prog 48 = true:=by kernel_rfl

def n_f49:Nat:=49
def x_f49:Cx:=⟨some,id,33,fun s=>([0,1,6,8,9,10,12,13,15,16,18,19,20,21,24,25,26,27,29,30,31,32]:List Nat).contains s,fun s=>([]:List Nat).contains s,msOf [(2,[1,2,4,5],[2,4,5]),(6,[1,2,4,5,6],[2,4,5]),(28,[2,4,5,6,11],[2,4,5]),(58,[2,4,5,6],[2,4,5]),(30,[2,4,5,6],[2,4,5]),(62,[2,4,5],[2,4,5]),(126,[4,5],[4,5])]⟩
def f49_2l:List GI:=[⟨none,.boxL 2 7 (.r 0)⟩,
    ⟨none,.newL 4 [(.lit (.int .i64 0)),(.lit (.int .i64 0)),(.lit (.int .i64 0)),(.lit (.int .i64 0)),(.lit (.bool false)),(.lit (.slice none 0 0)),(.lit (.slice none 0 0))]⟩,
    ⟨none,.newL 5 [(.lit (.bool false)),(.lit (.bool false)),(.lit (.slice none 0 0)),(.lit (.int .i64 0))]⟩]
def f49_2:AC:=.ops [1,2,4,5] [2,4,5] f49_2l
theorem f49_2e:OP f49_2 f49_2l [1,2,4,5] [2,4,5]:=rfl
def f49_4l:List GI:=[vd 7 2 6,
    vl 8 7,
    ⟨none,.len (some 9) .sl (.r 8)⟩,
    vo 6 9]
def f49_4:AC:=.ops [1,2,4,5,6] [2,4,5] f49_4l
theorem f49_4e:OP f49_4 f49_4l [1,2,4,5,6] [2,4,5]:=rfl
def f49_7l:List GI:=[vv 10 1,
    ⟨none,.un (some 11) .not (.r 10)⟩]
def f49_7:AC:=.ops [2,4,5,6,11] [2,4,5] f49_7l
theorem f49_7e:OP f49_7 f49_7l [2,4,5,6,11] [2,4,5]:=rfl
def f49_9l:List GI:=[vv 12 6,
    ⟨none,.mn (some 13) true (.r 12) (.c (.lit (.int .i64 1)))⟩,
    vo 6 13]
def f49_9:AC:=.ops [2,4,5,6] [2,4,5] f49_9l
theorem f49_9e:OP f49_9 f49_9l [2,4,5,6] [2,4,5]:=rfl
def f49_8:AC:=.cond (.r 11) f49_9 .skip
theorem f49_8e:CN f49_8 11 f49_9 .skip:=rfl
def f49_6:AC:=.seq f49_7 f49_8
theorem f49_6e:SQ f49_6 f49_7 f49_8:=rfl
def f49_11h:List GI:=[vd 14 2 5,
    vl 15 14,
    ⟨none,.app (some 16) 1 8 (.c (.lit (.slice none 0 0))) (.r 15)⟩,
    vd 17 2 6,
    vl 18 17,
    vv 19 6,
    ⟨none,.sliS (some 20) (.r 18) none (some (.r 19)) 1⟩]
def f49_11l:List GI:=[⟨none,.appS 21 16 1 8 (.r 20)⟩,
    vd 22 2 5,
    ⟨none,.store 1 (.r 22) (.r 21)⟩]
def f49_11:AC:=.draw [2,4,5,6] [2,4,5] [] f49_11h f49_11l
theorem f49_11e:aC P id m f49_11 sf st Q = bD P id sf.locs st f49_11h (cR P id m [] [2,4,5,6] [2,4,5] f49_11l Q st) [] ⟨sf.regs,br [] sf.locs⟩:=rfl
def f49_13l:List GI:=[vd 23 2 6,
    vl 24 23,
    vv 25 6,
    ⟨none,.sliOwn 26 24 (.r 25) 1⟩,
    ⟨none,.app (some 27) 1 8 (.c (.lit (.slice none 0 0))) (.r 26)⟩,
    vd 28 2 6,
    ⟨none,.store 1 (.r 28) (.r 27)⟩]
def f49_13:AC:=.ops [2,4,5] [2,4,5] f49_13l
theorem f49_13e:OP f49_13 f49_13l [2,4,5] [2,4,5]:=rfl
def f49_15l:List GI:=[⟨none,.load (some 29) (.r 2) (some 7)⟩,
    ⟨none,.call (some 30) false (.f 73) [(.r 29)]⟩,
    ve 31 30 0,
    ve 32 30 1,
    ⟨none,.store 7 (.r 4) (.r 31)⟩,
    ⟨none,.store 4 (.r 5) (.r 32)⟩]
def f49_15:AC:=.ops [4,5] [4,5] f49_15l
theorem f49_15e:OP f49_15 f49_15l [4,5] [4,5]:=rfl
def f49_14:AC:=.seq f49_15 .ret
theorem f49_14e:SQ f49_14 f49_15 .ret:=rfl
def f49_12:AC:=.seq f49_13 f49_14
theorem f49_12e:SQ f49_12 f49_13 f49_14:=rfl
def f49_10:AC:=.seq f49_11 f49_12
theorem f49_10e:SQ f49_10 f49_11 f49_12:=rfl
def f49_5:AC:=.seq f49_6 f49_10
theorem f49_5e:SQ f49_5 f49_6 f49_10:=rfl
def f49_3:AC:=.seq f49_4 f49_5
theorem f49_3e:SQ f49_3 f49_4 f49_5:=rfl
def f49_1:AC:=.seq f49_2 f49_3
theorem f49_1e:SQ f49_1 f49_2 f49_3:=rfl
def c_f49:AFun:=⟨33,[.cell 4 (some 7),.cell 5 (some 4)],f49_1⟩
theorem k_f49:bj Go.Proofs.Try.prog x_f49 49 = some c_f49:=by kernel_rfl
theorem e_f49:aQ Go.Proofs.Try.prog 49 = true:=by kernel_rfl

def n_f50:Nat:=50
def x_f50:Cx:=⟨some,id,5,fun s=>([0,3,4]:List Nat).contains s,fun s=>([]:List Nat).contains s,msOf [(2,[0,2],[2]),(6,[2],[2])]⟩
def f50_2l:List GI:=[⟨none,.newL 2 [(.lit (.bool false)),(.lit (.bool false)),(.lit (.slice none 0 0)),(.lit (.int .i64 0))]⟩]
def f50_2:AC:=.ops [0,2] [2] f50_2l
theorem f50_2e:OP f50_2 f50_2l [0,2] [2]:=rfl
def f50_4l:List GI:=[vv 3 0,
    ⟨none,.bst (some 4) [(0,1),(1,1),(2,1),(3,1)] (.agg [(.lit (.bool false)),(.lit (.bool false)),(.lit (.slice none 0 0)),(.lit (.int .i64 0))]) [(3,(.r 3))]⟩,
    ⟨none,.store 4 (.r 2) (.r 4)⟩]
def f50_4:AC:=.ops [2] [2] f50_4l
theorem f50_4e:OP f50_4 f50_4l [2] [2]:=rfl
def f50_3:AC:=.seq f50_4 .ret
theorem f50_3e:SQ f50_3 f50_4 .ret:=rfl
def f50_1:AC:=.seq f50_2 f50_3
theorem f50_1e:SQ f50_1 f50_2 f50_3:=rfl
def c_f50:AFun:=⟨5,[.cell 2 (some 4)],f50_1⟩
theorem k_f50:bj Go.Proofs.Try.prog x_f50 50 = some c_f50:=by kernel_rfl
theorem e_f50:aQ Go.Proofs.Try.prog 50 = true:=by kernel_rfl

def n_f51:Nat:=51
def x_f51:Cx:=⟨some,id,5,fun s=>([0,1,2,3,4]:List Nat).contains s,fun s=>([]:List Nat).contains s,msOf [(2,[],[]),(6,[0],[])]⟩
def f51_2l:List GI:=[⟨none,.mv (some 0) (.c (.lit (.pointer none)))⟩]
def f51_2:AC:=.ops [] [] f51_2l
theorem f51_2e:OP f51_2 f51_2l [] []:=rfl
def f51_4l:List GI:=[⟨none,.call (some 1) false (.f 78) []⟩,
    ⟨none,.mkmap 2⟩,
    ⟨none,.bst (some 3) [(0,1),(1,1)] (.agg [(.lit (.pointer none)),(.lit (.map none))]) [(0,(.r 1)),(1,(.r 2))]⟩,
    ⟨none,.boxB 4 2 (.r 3)⟩,
    vo 0 4]
def f51_4:AC:=.ops [0] [] f51_4l
theorem f51_4e:OP f51_4 f51_4l [0] []:=rfl
def f51_3:AC:=.seq f51_4 .ret
theorem f51_3e:SQ f51_3 f51_4 .ret:=rfl
def f51_1:AC:=.seq f51_2 f51_3
theorem f51_1e:SQ f51_1 f51_2 f51_3:=rfl
def c_f51:AFun:=⟨5,[.tmp 0],f51_1⟩
theorem k_f51:bj Go.Proofs.Try.prog x_f51 51 = some c_f51:=by kernel_rfl
theorem e_f51:aQ Go.Proofs.Try.prog 51 = true:=by kernel_rfl

def n_f52:Nat:=52
def x_f52:Cx:=⟨some,id,5,fun s=>([0,3,4]:List Nat).contains s,fun s=>([]:List Nat).contains s,msOf [(2,[0,2],[2]),(6,[2],[2])]⟩
def f52_2l:List GI:=[⟨none,.newL 2 [(.lit (.bool false)),(.lit (.bool false)),(.lit (.slice none 0 0)),(.lit (.int .i64 0))]⟩]
def f52_2:AC:=.ops [0,2] [2] f52_2l
theorem f52_2e:OP f52_2 f52_2l [0,2] [2]:=rfl
def f52_4l:List GI:=[vv 3 0,
    ⟨none,.bst (some 4) [(0,1),(1,1),(2,1),(3,1)] (.agg [(.lit (.bool false)),(.lit (.bool false)),(.lit (.slice none 0 0)),(.lit (.int .i64 0))]) [(2,(.r 3))]⟩,
    ⟨none,.store 4 (.r 2) (.r 4)⟩]
def f52_4:AC:=.ops [2] [2] f52_4l
theorem f52_4e:OP f52_4 f52_4l [2] [2]:=rfl
def f52_3:AC:=.seq f52_4 .ret
theorem f52_3e:SQ f52_3 f52_4 .ret:=rfl
def f52_1:AC:=.seq f52_2 f52_3
theorem f52_1e:SQ f52_1 f52_2 f52_3:=rfl
def c_f52:AFun:=⟨5,[.cell 2 (some 4)],f52_1⟩
theorem k_f52:bj Go.Proofs.Try.prog x_f52 52 = some c_f52:=by kernel_rfl
theorem e_f52:aQ Go.Proofs.Try.prog 52 = true:=by kernel_rfl

def n_f53:Nat:=53
def x_f53:Cx:=⟨some,id,13,fun s=>([0,1,4,5,10,11,12]:List Nat).contains s,fun s=>([]:List Nat).contains s,msOf [(2,[0,1],[]),(12,[0,1,6],[]),(52,[4],[]),(14,[4],[])]⟩
def f53_2l:List GI:=[⟨none,.mv (some 4) (.c (.lit (.int .i64 0)))⟩]
def f53_2:AC:=.ops [0,1] [] f53_2l
theorem f53_2e:OP f53_2 f53_2l [0,1] []:=rfl
def f53_5l:List GI:=[vv 5 0,
    ⟨none,.call (some 6) false (.f 54) [(.r 5)]⟩]
def f53_5:AC:=.ops [0,1,6] [] f53_5l
theorem f53_5e:OP f53_5 f53_5l [0,1,6] []:=rfl
def f53_8l:List GI:=[⟨none,.mv (some 4) (.c (.lit (.int .i64 1)))⟩]
def f53_8:AC:=.ops [4] [] f53_8l
theorem f53_8e:OP f53_8 f53_8l [4] []:=rfl
def f53_7:AC:=.seq f53_8 .ret
theorem f53_7e:SQ f53_7 f53_8 .ret:=rfl
def f53_6:AC:=.cond (.r 6) f53_7 .skip
theorem f53_6e:CN f53_6 6 f53_7 .skip:=rfl
def f53_4:AC:=.seq f53_5 f53_6
theorem f53_4e:SQ f53_4 f53_5 f53_6:=rfl
def f53_10l:List GI:=[vv 7 0,
    vn 8 7,
    vd 9 8 2,
    vl 10 9,
    vv 11 1,
    ⟨none,.call (some 12) false (.f 75) [(.r 10),(.r 11)]⟩,
    vo 4 12]
def f53_10:AC:=.ops [4] [] f53_10l
theorem f53_10e:OP f53_10 f53_10l [4] []:=rfl
def f53_9:AC:=.seq f53_10 .ret
theorem f53_9e:SQ f53_9 f53_10 .ret:=rfl
def f53_3:AC:=.seq f53_4 f53_9
theorem f53_3e:SQ f53_3 f53_4 f53_9:=rfl
def f53_1:AC:=.seq f53_2 f53_3
theorem f53_1e:SQ f53_1 f53_2 f53_3:=rfl
def c_f53:AFun:=⟨13,[.tmp 4],f53_1⟩
theorem k_f53:bj Go.Proofs.Try.prog x_f53 53 = some c_f53:=by kernel_rfl
theorem e_f53:aQ Go.Proofs.Try.prog 53 = true:=by kernel_rfl

def n_f54:Nat:=54
def x_f54:Cx:=⟨some,id,12,fun s=>([0,2,3,4,5,9,10,11]:List Nat).contains s,fun s=>([]:List Nat).contains s,msOf [(2,[0],[]),(6,[2],[])]⟩
def f54_2l:List GI:=[⟨none,.mv (some 2) (.c (.lit (.bool false)))⟩]
def f54_2:AC:=.ops [0] [] f54_2l
theorem f54_2e:OP f54_2 f54_2l [0] []:=rfl
def f54_4l:List GI:=[vv 3 0,
    ⟨none,.bin (some 4) (.nil .ptr) .eql (.r 3) (.c (.lit (.pointer none)))⟩,
    vv 5 4,
    ⟨some (5,false),.mv (some 6) (.r 0)⟩,
    ⟨some (5,false),.nilck (some 7) (.r 6)⟩,
    ⟨some (5,false),.addr (some 8) (.r 7) 2⟩,
    ⟨some (5,false),.load (some 9) (.r 8) none⟩,
    ⟨some (5,false),.bin (some 10) (.nil .ptr) .eql (.r 9) (.c (.lit (.pointer none)))⟩,
    ⟨none,.pick (some 11) (.r 5) (.c (.lit (.bool true))) (.r 10)⟩,
    vo 2 11]
def f54_4:AC:=.ops [2] [] f54_4l
theorem f54_4e:OP f54_4 f54_4l [2] []:=rfl
def f54_3:AC:=.seq f54_4 .ret
theorem f54_3e:SQ f54_3 f54_4 .ret:=rfl
def f54_1:AC:=.seq f54_2 f54_3
theorem f54_1e:SQ f54_1 f54_2 f54_3:=rfl
def c_f54:AFun:=⟨12,[.tmp 2],f54_1⟩
theorem k_f54:bj Go.Proofs.Try.prog x_f54 54 = some c_f54:=by kernel_rfl
theorem e_f54:aQ Go.Proofs.Try.prog 54 = true:=by kernel_rfl

def n_f55:Nat:=55
def x_f55:Cx:=⟨some,id,10,fun s=>([0,2,3,8,9]:List Nat).contains s,fun s=>([]:List Nat).contains s,msOf [(2,[0],[]),(12,[0,4],[]),(52,[2],[]),(14,[2],[])]⟩
def f55_2l:List GI:=[⟨none,.mv (some 2) (.c (.lit (.int .i64 0)))⟩]
def f55_2:AC:=.ops [0] [] f55_2l
theorem f55_2e:OP f55_2 f55_2l [0] []:=rfl
def f55_5l:List GI:=[vv 3 0,
    ⟨none,.call (some 4) false (.f 79) [(.r 3)]⟩]
def f55_5:AC:=.ops [0,4] [] f55_5l
theorem f55_5e:OP f55_5 f55_5l [0,4] []:=rfl
def f55_8l:List GI:=[⟨none,.mv (some 2) (.c (.lit (.int .i64 0)))⟩]
def f55_8:AC:=.ops [2] [] f55_8l
theorem f55_8e:OP f55_8 f55_8l [2] []:=rfl
def f55_7:AC:=.seq f55_8 .ret
theorem f55_7e:SQ f55_7 f55_8 .ret:=rfl
def f55_6:AC:=.cond (.r 4) f55_7 .skip
theorem f55_6e:CN f55_6 4 f55_7 .skip:=rfl
def f55_4:AC:=.seq f55_5 f55_6
theorem f55_4e:SQ f55_4 f55_5 f55_6:=rfl
def f55_10l:List GI:=[vv 5 0,
    vn 6 5,
    vd 7 6 3,
    vl 8 7,
    ⟨none,.len (some 9) .mp (.r 8)⟩,
    vo 2 9]
def f55_10:AC:=.ops [2] [] f55_10l
theorem f55_10e:OP f55_10 f55_10l [2] []:=rfl
def f55_9:AC:=.seq f55_10 .ret
theorem f55_9e:SQ f55_9 f55_10 .ret:=rfl
def f55_3:AC:=.seq f55_4 f55_9
theorem f55_3e:SQ f55_3 f55_4 f55_9:=rfl
def f55_1:AC:=.seq f55_2 f55_3
theorem f55_1e:SQ f55_1 f55_2 f55_3:=rfl
def c_f55:AFun:=⟨10,[.tmp 2],f55_1⟩
theorem k_f55:bj Go.Proofs.Try.prog x_f55 55 = some c_f55:=by kernel_rfl
theorem e_f55:aQ Go.Proofs.Try.prog 55 = true:=by kernel_rfl

def n_f56:Nat:=56
def x_f56:Cx:=⟨some,id,14,fun s=>([0,1,4,5,11,12,13]:List Nat).contains s,fun s=>([]:List Nat).contains s,msOf [(2,[0,1],[]),(12,[0,1,6],[]),(52,[4],[]),(14,[4],[])]⟩
def f56_2l:List GI:=[⟨none,.mv (some 4) (.c (.lit (.int .i64 0)))⟩]
def f56_2:AC:=.ops [0,1] [] f56_2l
theorem f56_2e:OP f56_2 f56_2l [0,1] []:=rfl
def f56_5l:List GI:=[vv 5 0,
    ⟨none,.call (some 6) false (.f 57) [(.r 5)]⟩]
def f56_5:AC:=.ops [0,1,6] [] f56_5l
theorem f56_5e:OP f56_5 f56_5l [0,1,6] []:=rfl
def f56_8l:List GI:=[⟨none,.mv (some 4) (.c (.lit (.int .i64 1)))⟩]
def f56_8:AC:=.ops [4] [] f56_8l
theorem f56_8e:OP f56_8 f56_8l [4] []:=rfl
def f56_7:AC:=.seq f56_8 .ret
theorem f56_7e:SQ f56_7 f56_8 .ret:=rfl
def f56_6:AC:=.cond (.r 6) f56_7 .skip
theorem f56_6e:CN f56_6 6 f56_7 .skip:=rfl
def f56_4:AC:=.seq f56_5 f56_6
theorem f56_4e:SQ f56_4 f56_5 f56_6:=rfl
def f56_10l:List GI:=[vv 7 0,
    vn 8 7,
    vd 9 8 0,
    vd 10 9 1,
    vl 11 10,
    vv 12 1,
    ⟨none,.call (some 13) false (.f 75) [(.r 11),(.r 12)]⟩,
    vo 4 13]
def f56_10:AC:=.ops [4] [] f56_10l
theorem f56_10e:OP f56_10 f56_10l [4] []:=rfl
def f56_9:AC:=.seq f56_10 .ret
theorem f56_9e:SQ f56_9 f56_10 .ret:=rfl
def f56_3:AC:=.seq f56_4 f56_9
theorem f56_3e:SQ f56_3 f56_4 f56_9:=rfl
def f56_1:AC:=.seq f56_2 f56_3
theorem f56_1e:SQ f56_1 f56_2 f56_3:=rfl
def c_f56:AFun:=⟨14,[.tmp 4],f56_1⟩
theorem k_f56:bj Go.Proofs.Try.prog x_f56 56 = some c_f56:=by kernel_rfl
theorem e_f56:aQ Go.Proofs.Try.prog 56 = true:=by kernel_rfl

def n_f57:Nat:=57
def x_f57:Cx:=⟨some,id,13,fun s=>([0,2,3,4,5,10,11,12]:List Nat).contains s,fun s=>([]:List Nat).contains s,msOf [(2,[0],[]),(6,[2],[])]⟩
def f57_2l:List GI:=[⟨none,.mv (some 2) (.c (.lit (.bool false)))⟩]
def f57_2:AC:=.ops [0] [] f57_2l
theorem f57_2e:OP f57_2 f57_2l [0] []:=rfl
def f57_4l:List GI:=[vv 3 0,
    ⟨none,.bin (some 4) (.nil .ptr) .eql (.r 3) (.c (.lit (.pointer none)))⟩,
    vv 5 4,
    ⟨some (5,false),.mv (some 6) (.r 0)⟩,
    ⟨some (5,false),.nilck (some 7) (.r 6)⟩,
    ⟨some (5,false),.addr (some 8) (.r 7) 0⟩,
    ⟨some (5,false),.addr (some 9) (.r 8) 1⟩,
    ⟨some (5,false),.load (some 10) (.r 9) none⟩,
    ⟨some (5,false),.bin (some 11) (.nil .ptr) .eql (.r 10) (.c (.lit (.pointer none)))⟩,
    ⟨none,.pick (some 12) (.r 5) (.c (.lit (.bool true))) (.r 11)⟩,
    vo 2 12]
def f57_4:AC:=.ops [2] [] f57_4l
theorem f57_4e:OP f57_4 f57_4l [2] []:=rfl
def f57_3:AC:=.seq f57_4 .ret
theorem f57_3e:SQ f57_3 f57_4 .ret:=rfl
def f57_1:AC:=.seq f57_2 f57_3
theorem f57_1e:SQ f57_1 f57_2 f57_3:=rfl
def c_f57:AFun:=⟨13,[.tmp 2],f57_1⟩
theorem k_f57:bj Go.Proofs.Try.prog x_f57 57 = some c_f57:=by kernel_rfl
theorem e_f57:aQ Go.Proofs.Try.prog 57 = true:=by kernel_rfl

def n_f58:Nat:=58
def x_f58:Cx:=⟨some,id,21,fun s=>([0,1,4,5,6,7,9,10,11,12,13,14,16,17,18,19,20]:List Nat).contains s,fun s=>([]:List Nat).contains s,msOf [(2,[0,1],[]),(12,[0,1,8],[]),(52,[4,5],[]),(28,[0,6],[]),(58,[0,6,15],[]),(236,[4,5],[]),(30,[4,5],[])]⟩
def f58_2l:List GI:=[⟨none,.mv (some 4) (.c (.lit (.slice none 0 0)))⟩,
    ⟨none,.mv (some 5) (.c (.lit (.int .i64 0)))⟩]
def f58_2:AC:=.ops [0,1] [] f58_2l
theorem f58_2e:OP f58_2 f58_2l [0,1] []:=rfl
def f58_5l:List GI:=[vv 7 0,
    ⟨none,.call (some 8) false (.f 62) [(.r 7)]⟩]
def f58_5:AC:=.ops [0,1,8] [] f58_5l
theorem f58_5e:OP f58_5 f58_5l [0,1,8] []:=rfl
def f58_8l:List GI:=[⟨none,.mv (some 4) (.c (.lit (.slice none 0 0)))⟩,
    ⟨none,.mv (some 5) (.c (.lit (.int .i64 1)))⟩]
def f58_8:AC:=.ops [4,5] [] f58_8l
theorem f58_8e:OP f58_8 f58_8l [4,5] []:=rfl
def f58_7:AC:=.seq f58_8 .ret
theorem f58_7e:SQ f58_7 f58_8 .ret:=rfl
def f58_6:AC:=.cond (.r 8) f58_7 .skip
theorem f58_6e:CN f58_6 8 f58_7 .skip:=rfl
def f58_4:AC:=.seq f58_5 f58_6
theorem f58_4e:SQ f58_4 f58_5 f58_6:=rfl
def f58_11l:List GI:=[vv 9 0,
    vn 10 9,
    vd 11 10 0,
    vv 12 1,
    ⟨none,.call (some 13) false (.f 71) [(.r 11),(.r 12)]⟩,
    vo 6 13]
def f58_11:AC:=.ops [0,6] [] f58_11l
theorem f58_11e:OP f58_11 f58_11l [0,6] []:=rfl
def f58_13l:List GI:=[vv 14 6,
    vb 15 .neq 14 0]
def f58_13:AC:=.ops [0,6,15] [] f58_13l
theorem f58_13e:OP f58_13 f58_13l [0,6,15] []:=rfl
def f58_16l:List GI:=[vv 16 6,
    ⟨none,.mv (some 4) (.c (.lit (.slice none 0 0)))⟩,
    vo 5 16]
def f58_16:AC:=.ops [4,5] [] f58_16l
theorem f58_16e:OP f58_16 f58_16l [4,5] []:=rfl
def f58_15:AC:=.seq f58_16 .ret
theorem f58_15e:SQ f58_15 f58_16 .ret:=rfl
def f58_14:AC:=.cond (.r 15) f58_15 .skip
theorem f58_14e:CN f58_14 15 f58_15 .skip:=rfl
def f58_12:AC:=.seq f58_13 f58_14
theorem f58_12e:SQ f58_12 f58_13 f58_14:=rfl
def f58_10:AC:=.seq f58_11 f58_12
theorem f58_10e:SQ f58_10 f58_11 f58_12:=rfl
def f58_18l:List GI:=[vv 17 0,
    vn 18 17,
    vd 19 18 0,
    ⟨none,.call (some 20) false (.f 72) [(.r 19)]⟩,
    vo 4 20,
    ⟨none,.mv (some 5) (.c (.lit (.int .i64 0)))⟩]
def f58_18:AC:=.ops [4,5] [] f58_18l
theorem f58_18e:OP f58_18 f58_18l [4,5] []:=rfl
def f58_17:AC:=.seq f58_18 .ret
theorem f58_17e:SQ f58_17 f58_18 .ret:=rfl
def f58_9:AC:=.seq f58_10 f58_17
theorem f58_9e:SQ f58_9 f58_10 f58_17:=rfl
def f58_3:AC:=.seq f58_4 f58_9
theorem f58_3e:SQ f58_3 f58_4 f58_9:=rfl
def f58_1:AC:=.seq f58_2 f58_3
theorem f58_1e:SQ f58_1 f58_2 f58_3:=rfl
def c_f58:AFun:=⟨21,[.tmp 4,.tmp 5],f58_1⟩
theorem k_f58:bj Go.Proofs.Try.prog x_f58 58 = some c_f58:=by kernel_rfl
theorem e_f58:aQ Go.Proofs.Try.prog 58 = true:=by kernel_rfl

def n_f59:Nat:=59
def x_f59:Cx:=⟨some,id,24,fun s=>([0,1,4,5,6,7,8,9,10,11,12,13,14,19,20,22,23]:List Nat).contains s,fun s=>([]:List Nat).contains s,msOf [(2,[0,1],[]),(6,[0,1,6,7],[]),(28,[0,1,6,7,15],[]),(58,[6,7],[]),(30,[4,5],[])]⟩
def f59_2l:List GI:=[⟨none,.mv (some 4) (.c (.lit (.slice none 0 0)))⟩,
    ⟨none,.mv (some 5) (.c (.lit (.int .i64 0)))⟩]
def f59_2:AC:=.ops [0,1] [] f59_2l
theorem f59_2e:OP f59_2 f59_2l [0,1] []:=rfl
def f59_4l:List GI:=[vv 9 0,
    vv 10 1,
    ⟨none,.call (some 11) false (.f 58) [(.r 9),(.r 10)]⟩,
    vv 8 11,
    ve 12 8 0,
    ve 13 8 1,
    vo 6 12,
    vo 7 13]
def f59_4:AC:=.ops [0,1,6,7] [] f59_4l
theorem f59_4e:OP f59_4 f59_4l [0,1,6,7] []:=rfl
def f59_7l:List GI:=[vv 14 7,
    vb 15 .eql 14 0]
def f59_7:AC:=.ops [0,1,6,7,15] [] f59_7l
theorem f59_7e:OP f59_7 f59_7l [0,1,6,7,15] []:=rfl
def f59_9l:List GI:=[vv 16 0,
    vn 17 16,
    vd 18 17 2,
    vl 19 18,
    vv 20 1,
    ⟨none,.call (some 21) false (.f 65) [(.r 19),(.r 20)]⟩]
def f59_9:AC:=.ops [6,7] [] f59_9l
theorem f59_9e:OP f59_9 f59_9l [6,7] []:=rfl
def f59_8:AC:=.cond (.r 15) f59_9 .skip
theorem f59_8e:CN f59_8 15 f59_9 .skip:=rfl
def f59_6:AC:=.seq f59_7 f59_8
theorem f59_6e:SQ f59_6 f59_7 f59_8:=rfl
def f59_11l:List GI:=[vv 22 6,
    vv 23 7,
    vo 4 22,
    vo 5 23]
def f59_11:AC:=.ops [4,5] [] f59_11l
theorem f59_11e:OP f59_11 f59_11l [4,5] []:=rfl
def f59_10:AC:=.seq f59_11 .ret
theorem f59_10e:SQ f59_10 f59_11 .ret:=rfl
def f59_5:AC:=.seq f59_6 f59_10
theorem f59_5e:SQ f59_5 f59_6 f59_10:=rfl
def f59_3:AC:=.seq f59_4 f59_5
theorem f59_3e:SQ f59_3 f59_4 f59_5:=rfl
def f59_1:AC:=.seq f59_2 f59_3
theorem f59_1e:SQ f59_1 f59_2 f59_3:=rfl
def c_f59:AFun:=⟨24,[.tmp 4,.tmp 5],f59_1⟩
theorem k_f59:bj Go.Proofs.Try.prog x_f59 59 = some c_f59:=by kernel_rfl
theorem e_f59:aQ Go.Proofs.Try.prog 59 = true:=by kernel_rfl

def n_f60:Nat:=60
def x_f60:Cx:=⟨some,id,8,fun s=>([0,2,3,4,5,6,7]:List Nat).contains s,fun s=>([]:List Nat).contains s,msOf [(2,[0],[]),(6,[2,3],[])]⟩
def f60_2l:List GI:=[⟨none,.mv (some 2) (.c (.lit (.slice none 0 0)))⟩,
    ⟨none,.mv (some 3) (.c (.lit (.int .i64 0)))⟩]
def f60_2:AC:=.ops [0] [] f60_2l
theorem f60_2e:OP f60_2 f60_2l [0] []:=rfl
def f60_4l:List GI:=[vv 4 0,
    ⟨none,.call (some 5) false (.f 77) [(.r 4),(.c (.lit (.int .i64 1)))]⟩,
    ve 6 5 0,
    ve 7 5 1,
    vo 2 6,
    vo 3 7]
def f60_4:AC:=.ops [2,3] [] f60_4l
theorem f60_4e:OP f60_4 f60_4l [2,3] []:=rfl
def f60_3:AC:=.seq f60_4 .ret
theorem f60_3e:SQ f60_3 f60_4 .ret:=rfl
def f60_1:AC:=.seq f60_2 f60_3
theorem f60_1e:SQ f60_1 f60_2 f60_3:=rfl
def c_f60:AFun:=⟨8,[.tmp 2,.tmp 3],f60_1⟩
theorem k_f60:bj Go.Proofs.Try.prog x_f60 60 = some c_f60:=by kernel_rfl
theorem e_f60:aQ Go.Proofs.Try.prog 60 = true:=by kernel_rfl

def n_f61:Nat:=61
def x_f61:Cx:=⟨some,id,24,fun s=>([0,1,4,5,6,12,13,14,15,17,21,22,23]:List Nat).contains s,fun s=>([]:List Nat).contains s,msOf [(2,[0,1],[]),(12,[0,1,7],[]),(52,[4],[]),(28,[0,1,5],[]),(58,[0,1,5,16],[]),(236,[4],[]),(30,[4],[])]⟩
def f61_2l:List GI:=[⟨none,.mv (some 4) (.c (.lit (.int .i64 0)))⟩]
def f61_2:AC:=.ops [0,1] [] f61_2l
theorem f61_2e:OP f61_2 f61_2l [0,1] []:=rfl
def f61_5l:List GI:=[vv 6 0,
    ⟨none,.call (some 7) false (.f 62) [(.r 6)]⟩]
def f61_5:AC:=.ops [0,1,7] [] f61_5l
theorem f61_5e:OP f61_5 f61_5l [0,1,7] []:=rfl
def f61_8l:List GI:=[⟨none,.mv (some 4) (.c (.lit (.int .i64 1)))⟩]
def f61_8:AC:=.ops [4] [] f61_8l
theorem f61_8e:OP f61_8 f61_8l [4] []:=rfl
def f61_7:AC:=.seq f61_8 .ret
theorem f61_7e:SQ f61_7 f61_8 .ret:=rfl
def f61_6:AC:=.cond (.r 7) f61_7 .skip
theorem f61_6e:CN f61_6 7 f61_7 .skip:=rfl
def f61_4:AC:=.seq f61_5 f61_6
theorem f61_4e:SQ f61_4 f61_5 f61_6:=rfl
def f61_11l:List GI:=[vv 8 0,
    vn 9 8,
    vd 10 9 0,
    vd 11 10 1,
    vl 12 11,
    vv 13 1,
    ⟨none,.call (some 14) false (.f 75) [(.r 12),(.r 13)]⟩,
    vo 5 14]
def f61_11:AC:=.ops [0,1,5] [] f61_11l
theorem f61_11e:OP f61_11 f61_11l [0,1,5] []:=rfl
def f61_13l:List GI:=[vv 15 5,
    vb 16 .neq 15 9]
def f61_13:AC:=.ops [0,1,5,16] [] f61_13l
theorem f61_13e:OP f61_13 f61_13l [0,1,5,16] []:=rfl
def f61_16l:List GI:=[vv 17 5,
    vo 4 17]
def f61_16:AC:=.ops [4] [] f61_16l
theorem f61_16e:OP f61_16 f61_16l [4] []:=rfl
def f61_15:AC:=.seq f61_16 .ret
theorem f61_15e:SQ f61_15 f61_16 .ret:=rfl
def f61_14:AC:=.cond (.r 16) f61_15 .skip
theorem f61_14e:CN f61_14 16 f61_15 .skip:=rfl
def f61_12:AC:=.seq f61_13 f61_14
theorem f61_12e:SQ f61_12 f61_13 f61_14:=rfl
def f61_10:AC:=.seq f61_11 f61_12
theorem f61_10e:SQ f61_10 f61_11 f61_12:=rfl
def f61_18l:List GI:=[vv 18 0,
    vn 19 18,
    vd 20 19 2,
    vl 21 20,
    vv 22 1,
    ⟨none,.call (some 23) false (.f 75) [(.r 21),(.r 22)]⟩,
    vo 4 23]
def f61_18:AC:=.ops [4] [] f61_18l
theorem f61_18e:OP f61_18 f61_18l [4] []:=rfl
def f61_17:AC:=.seq f61_18 .ret
theorem f61_17e:SQ f61_17 f61_18 .ret:=rfl
def f61_9:AC:=.seq f61_10 f61_17
theorem f61_9e:SQ f61_9 f61_10 f61_17:=rfl
def f61_3:AC:=.seq f61_4 f61_9
theorem f61_3e:SQ f61_3 f61_4 f61_9:=rfl
def f61_1:AC:=.seq f61_2 f61_3
theorem f61_1e:SQ f61_1 f61_2 f61_3:=rfl
def c_f61:AFun:=⟨24,[.tmp 4],f61_1⟩
theorem k_f61:bj Go.Proofs.Try.prog x_f61 61 = some c_f61:=by kernel_rfl
theorem e_f61:aQ Go.Proofs.Try.prog 61 = true:=by kernel_rfl

def n_f62:Nat:=62
def x_f62:Cx:=⟨some,id,13,fun s=>([0,2,3,4,5,10,11,12]:List Nat).contains s,fun s=>([]:List Nat).contains s,msOf [(2,[0],[]),(6,[2],[])]⟩
def f62_2l:List GI:=[⟨none,.mv (some 2) (.c (.lit (.bool false)))⟩]
def f62_2:AC:=.ops [0] [] f62_2l
theorem f62_2e:OP f62_2 f62_2l [0] []:=rfl
def f62_4l:List GI:=[vv 3 0,
    ⟨none,.bin (some 4) (.nil .ptr) .eql (.r 3) (.c (.lit (.pointer none)))⟩,
    vv 5 4,
    ⟨some (5,false),.mv (some 6) (.r 0)⟩,
    ⟨some (5,false),.nilck (some 7) (.r 6)⟩,
    ⟨some (5,false),.addr (some 8) (.r 7) 0⟩,
    ⟨some (5,false),.addr (some 9) (.r 8) 1⟩,
    ⟨some (5,false),.load (some 10) (.r 9) none⟩,
    ⟨some (5,false),.bin (some 11) (.nil .ptr) .eql (.r 10) (.c (.lit (.pointer none)))⟩,
    ⟨none,.pick (some 12) (.r 5) (.c (.lit (.bool true))) (.r 11)⟩,
    vo 2 12]
def f62_4:AC:=.ops [2] [] f62_4l
theorem f62_4e:OP f62_4 f62_4l [2] []:=rfl
def f62_3:AC:=.seq f62_4 .ret
theorem f62_3e:SQ f62_3 f62_4 .ret:=rfl
def f62_1:AC:=.seq f62_2 f62_3
theorem f62_1e:SQ f62_1 f62_2 f62_3:=rfl
def c_f62:AFun:=⟨13,[.tmp 2],f62_1⟩
theorem k_f62:bj Go.Proofs.Try.prog x_f62 62 = some c_f62:=by kernel_rfl
theorem e_f62:aQ Go.Proofs.Try.prog 62 = true:=by kernel_rfl

def n_f63:Nat:=63
def x_f63:Cx:=⟨some,id,31,fun s=>([2,3,4,5,9,10,11,12,13,17,18,19,21,22,23,27,28,29,30]:List Nat).contains s,fun s=>([]:List Nat).contains s,msOf [(2,[0],[]),(6,[0,3],[]),(28,[3,18],[]),(58,[3,18],[]),(232,[3,18,20],[]),(933,[3],[]),(1868,[3,4,5,18],[]),(1869,[3,18],[]),(30,[2],[])]⟩
def f63_2l:List GI:=[⟨none,.mv (some 2) (.c (.lit (.pointer none)))⟩]
def f63_2:AC:=.ops [0] [] f63_2l
theorem f63_2e:OP f63_2 f63_2l [0] []:=rfl
def f63_4l:List GI:=[vv 6 0,
    vn 7 6,
    vd 8 7 0,
    vl 9 8,
    ⟨none,.call (some 10) false (.f 80) [(.r 9)]⟩,
    ⟨none,.mkmap 11⟩,
    ⟨none,.bst (some 12) [(0,1),(1,1)] (.agg [(.lit (.pointer none)),(.lit (.map none))]) [(0,(.r 10)),(1,(.r 11))]⟩,
    ⟨none,.boxB 13 2 (.r 12)⟩,
    vo 3 13]
def f63_4:AC:=.ops [0,3] [] f63_4l
theorem f63_4e:OP f63_4 f63_4l [0,3] []:=rfl
def f63_7l:List GI:=[vv 14 0,
    vn 15 14,
    vd 16 15 1,
    vl 17 16,
    ⟨none,.x (some 18) (.rng (.r 17))⟩]
def f63_7:AC:=.ops [3,18] [] f63_7l
theorem f63_7e:OP f63_7 f63_7l [3,18] []:=rfl
def f63_11l:List GI:=[⟨none,.x (some 19) (.nxt 18)⟩,
    ve 20 19 0]
def f63_11:AC:=.ops [3,18,20] [] f63_11l
theorem f63_11e:OP f63_11 f63_11l [3,18,20] []:=rfl
def f63_13:AC:=.cond (.r 20) .skip (.exit [3] [] 0)
theorem f63_13e:CN f63_13 20 .skip (.exit [3] [] 0):=rfl
def f63_16l:List GI:=[⟨none,.x (some 21) (.ent 18)⟩,
    ve 22 21 0,
    ve 23 21 1,
    vo 4 22,
    vo 5 23]
def f63_16:AC:=.ops [3,4,5,18] [] f63_16l
theorem f63_16e:OP f63_16 f63_16l [3,4,5,18] []:=rfl
def f63_17l:List GI:=[vv 24 3,
    vn 25 24,
    vd 26 25 1,
    vl 27 26,
    vv 28 4,
    vv 29 5,
    ⟨none,.upd (.int .i64) (.r 27) (.r 28) (.r 29)⟩]
def f63_17:AC:=.ops [3,18] [] f63_17l
theorem f63_17e:OP f63_17 f63_17l [3,18] []:=rfl
def f63_15:AC:=.seq f63_16 f63_17
theorem f63_15e:SQ f63_15 f63_16 f63_17:=rfl
def f63_14:AC:=.block 1 f63_15
theorem f63_14e:BL f63_14 f63_15 1:=rfl
def f63_12:AC:=.seq f63_13 f63_14
theorem f63_12e:SQ f63_12 f63_13 f63_14:=rfl
def f63_10:AC:=.seq f63_11 f63_12
theorem f63_10e:SQ f63_10 f63_11 f63_12:=rfl
def f63_9:AC:=.loop [3,18] [] f63_10
theorem f63_9w:aC P id m f63_9 sf st Q = cO (aC P id m f63_10) [3,18] [] sf st Q:=rfl
def f63_8:AC:=.block 0 f63_9
theorem f63_8e:BL f63_8 f63_9 0:=rfl
def f63_6:AC:=.seq f63_7 f63_8
theorem f63_6e:SQ f63_6 f63_7 f63_8:=rfl
def f63_19l:List GI:=[vv 30 3,
    vo 2 30]
def f63_19:AC:=.ops [2] [] f63_19l
theorem f63_19e:OP f63_19 f63_19l [2] []:=rfl
def f63_18:AC:=.seq f63_19 .ret
theorem f63_18e:SQ f63_18 f63_19 .ret:=rfl
def f63_5:AC:=.seq f63_6 f63_18
theorem f63_5e:SQ f63_5 f63_6 f63_18:=rfl
def f63_3:AC:=.seq f63_4 f63_5
theorem f63_3e:SQ f63_3 f63_4 f63_5:=rfl
def f63_1:AC:=.seq f63_2 f63_3
theorem f63_1e:SQ f63_1 f63_2 f63_3:=rfl
def c_f63:AFun:=⟨31,[.tmp 2],f63_1⟩
theorem k_f63:bj Go.Proofs.Try.prog x_f63 63 = some c_f63:=by kernel_rfl
theorem e_f63:aQ Go.Proofs.Try.prog 63 = true:=by kernel_rfl

def n_f64:Nat:=64
def x_f64:Cx:=⟨some,id,23,fun s=>([0,1,4,6,7,8,9,10,11,13,14,15,18,19,20,22]:List Nat).contains s,fun s=>([]:List Nat).contains s,msOf [(2,[0,1],[]),(12,[0,1,12],[]),(52,[4],[]),(28,[0,13,14,15],[]),(58,[0,13,14,15],[]),(232,[0,13,14,15,16],[]),(933,[],[]),(3736,[0,6,13,14,15],[]),(7474,[0,13,14,15,21],[]),(29900,[4],[]),(935,[0,13,14,15],[]),(30,[4],[])]⟩
def f64_2l:List GI:=[⟨none,.mv (some 4) (.c (.lit (.int .i64 0)))⟩]
def f64_2:AC:=.ops [0,1] [] f64_2l
theorem f64_2e:OP f64_2 f64_2l [0,1] []:=rfl
def f64_5l:List GI:=[vv 7 0,
    vb 8 .lss 7 0,
    vv 9 8,
    ⟨some (9,false),.mv (some 10) (.r 0)⟩,
    ⟨some (9,false),.bin (some 11) .num .geq (.r 10) (.c (.lit (.int .i64 64)))⟩,
    ⟨none,.pick (some 12) (.r 9) (.c (.lit (.bool true))) (.r 11)⟩]
def f64_5:AC:=.ops [0,1,12] [] f64_5l
theorem f64_5e:OP f64_5 f64_5l [0,1,12] []:=rfl
def f64_8l:List GI:=[⟨none,.mv (some 4) (.c (.lit (.int .i64 2)))⟩]
def f64_8:AC:=.ops [4] [] f64_8l
theorem f64_8e:OP f64_8 f64_8l [4] []:=rfl
def f64_7:AC:=.seq f64_8 .ret
theorem f64_7e:SQ f64_7 f64_8 .ret:=rfl
def f64_6:AC:=.cond (.r 12) f64_7 .skip
theorem f64_6e:CN f64_6 12 f64_7 .skip:=rfl
def f64_4:AC:=.seq f64_5 f64_6
theorem f64_4e:SQ f64_4 f64_5 f64_6:=rfl
def f64_11l:List GI:=[vv 13 1,
    ⟨none,.len (some 14) .sl (.r 13)⟩,
    ⟨none,.mv (some 15) (.c (.lit (.int .i64 0)))⟩]
def f64_11:AC:=.ops [0,13,14,15] [] f64_11l
theorem f64_11e:OP f64_11 f64_11l [0,13,14,15] []:=rfl
def f64_15l:List GI:=[⟨none,.bin (some 16) .num .lss (.r 15) (.r 14)⟩]
def f64_15:AC:=.ops [0,13,14,15,16] [] f64_15l
theorem f64_15e:OP f64_15 f64_15l [0,13,14,15,16] []:=rfl
def f64_17:AC:=.cond (.r 16) .skip (.exit [] [] 0)
theorem f64_17e:CN f64_17 16 .skip (.exit [] [] 0):=rfl
def f64_21l:List GI:=[⟨none,.ixS (some 17) (.r 13) (.r 15) 1⟩,
    vl 18 17,
    vo 6 18]
def f64_21:AC:=.ops [0,6,13,14,15] [] f64_21l
theorem f64_21e:OP f64_21 f64_21l [0,6,13,14,15] []:=rfl
def f64_23l:List GI:=[vv 19 6,
    vv 20 0,
    ⟨none,.call (some 21) false (.f 81) [(.r 19),(.r 20)]⟩]
def f64_23:AC:=.ops [0,13,14,15,21] [] f64_23l
theorem f64_23e:OP f64_23 f64_23l [0,13,14,15,21] []:=rfl
def f64_26l:List GI:=[⟨none,.mv (some 4) (.c (.lit (.int .i64 11)))⟩]
def f64_26:AC:=.ops [4] [] f64_26l
theorem f64_26e:OP f64_26 f64_26l [4] []:=rfl
def f64_25:AC:=.seq f64_26 .ret
theorem f64_25e:SQ f64_25 f64_26 .ret:=rfl
def f64_24:AC:=.cond (.r 21) f64_25 .skip
theorem f64_24e:CN f64_24 21 f64_25 .skip:=rfl
def f64_22:AC:=.seq f64_23 f64_24
theorem f64_22e:SQ f64_22 f64_23 f64_24:=rfl
def f64_20:AC:=.seq f64_21 f64_22
theorem f64_20e:SQ f64_20 f64_21 f64_22:=rfl
def f64_19:AC:=.block 1 f64_20
theorem f64_19e:BL f64_19 f64_20 1:=rfl
def f64_27l:List GI:=[vb 22 .add 15 1,
    vv 15 22]
def f64_27:AC:=.ops [0,13,14,15] [] f64_27l
theorem f64_27e:OP f64_27 f64_27l [0,13,14,15] []:=rfl
def f64_18:AC:=.seq f64_19 f64_27
theorem f64_18e:SQ f64_18 f64_19 f64_27:=rfl
def f64_16:AC:=.seq f64_17 f64_18
theorem f64_16e:SQ f64_16 f64_17 f64_18:=rfl
def f64_14:AC:=.seq f64_15 f64_16
theorem f64_14e:SQ f64_14 f64_15 f64_16:=rfl
def f64_13:AC:=.loop [0,13,14,15] [] f64_14
theorem f64_13w:aC P id m f64_13 sf st Q = cO (aC P id m f64_14) [0,13,14,15] [] sf st Q:=rfl
def f64_12:AC:=.block 0 f64_13
theorem f64_12e:BL f64_12 f64_13 0:=rfl
def f64_10:AC:=.seq f64_11 f64_12
theorem f64_10e:SQ f64_10 f64_11 f64_12:=rfl
def f64_29l:List GI:=[⟨none,.mv (some 4) (.c (.lit (.int .i64 0)))⟩]
def f64_29:AC:=.ops [4] [] f64_29l
theorem f64_29e:OP f64_29 f64_29l [4] []:=rfl
def f64_28:AC:=.seq f64_29 .ret
theorem f64_28e:SQ f64_28 f64_29 .ret:=rfl
def f64_9:AC:=.seq f64_10 f64_28
theorem f64_9e:SQ f64_9 f64_10 f64_28:=rfl
def f64_3:AC:=.seq f64_4 f64_9
theorem f64_3e:SQ f64_3 f64_4 f64_9:=rfl
def f64_1:AC:=.seq f64_2 f64_3
theorem f64_1e:SQ f64_1 f64_2 f64_3:=rfl
def c_f64:AFun:=⟨23,[.tmp 4],f64_1⟩
theorem k_f64:bj Go.Proofs.Try.prog x_f64 64 = some c_f64:=by kernel_rfl
theorem e_f64:aQ Go.Proofs.Try.prog 64 = true:=by kernel_rfl

def n_f65:Nat:=65
def x_f65:Cx:=⟨some,id,21,fun s=>([1,4,6,10,11,12,13,14,18,19,20]:List Nat).contains s,fun s=>([]:List Nat).contains s,msOf [(2,[0,1,4],[]),(3,[],[])]⟩
def f65_2l:List GI:=[vv 7 0,
    vn 8 7,
    vd 9 8 0,
    vl 10 9,
    vv 11 1,
    ⟨none,.call (some 12) false (.f 82) [(.r 10),(.r 11)]⟩,
    vv 6 12,
    ve 13 6 0,
    ve 14 6 1,
    vo 4 13,
    vo 5 14]
def f65_2:AC:=.ops [0,1,4] [] f65_2l
theorem f65_2e:OP f65_2 f65_2l [0,1,4] []:=rfl
def f65_3l:List GI:=[vv 15 0,
    vn 16 15,
    vd 17 16 1,
    vl 18 17,
    vv 19 1,
    vv 20 4,
    ⟨none,.upd (.int .i64) (.r 18) (.r 19) (.r 20)⟩]
def f65_3:AC:=.ops [] [] f65_3l
theorem f65_3e:OP f65_3 f65_3l [] []:=rfl
def f65_1:AC:=.seq f65_2 f65_3
theorem f65_1e:SQ f65_1 f65_2 f65_3:=rfl
def c_f65:AFun:=⟨21,[],f65_1⟩
theorem k_f65:bj Go.Proofs.Try.prog x_f65 65 = some c_f65:=by kernel_rfl
theorem e_f65:aQ Go.Proofs.Try.prog 65 = true:=by kernel_rfl

def n_f66:Nat:=66
def x_f66:Cx:=⟨some,id,22,fun s=>([0,2,3,4,6,7,8,9,10,12,13,14,15,16,17,18,19,20,21]:List Nat).contains s,fun s=>([]:List Nat).contains s,msOf [(2,[0],[]),(6,[0,3],[]),(28,[0,3,4,5],[]),(58,[0,3,4,5],[]),(464,[0,3,4,11],[]),(931,[3],[]),(932,[0,3],[]),(467,[0,3,4,5],[]),(30,[2],[])]⟩
def f66_2l:List GI:=[⟨none,.mv (some 2) (.c (.lit (.slice none 0 0)))⟩]
def f66_2:AC:=.ops [0] [] f66_2l
theorem f66_2e:OP f66_2 f66_2l [0] []:=rfl
def f66_4l:List GI:=[⟨none,.mv (some 3) (.c (.lit (.slice none 0 0)))⟩]
def f66_4:AC:=.ops [0,3] [] f66_4l
theorem f66_4e:OP f66_4 f66_4l [0,3] []:=rfl
def f66_7l:List GI:=[vv 7 0,
    ⟨none,.call (some 8) false (.f 83) [(.r 7)]⟩,
    vv 6 8,
    ve 9 6 0,
    ve 10 6 1,
    vo 4 9,
    vo 5 10]
def f66_7:AC:=.ops [0,3,4,5] [] f66_7l
theorem f66_7e:OP f66_7 f66_7l [0,3,4,5] []:=rfl
def f66_12l:List GI:=[vv 11 5]
def f66_12:AC:=.ops [0,3,4,11] [] f66_12l
theorem f66_12e:OP f66_12 f66_12l [0,3,4,11] []:=rfl
def f66_13:AC:=.cond (.r 11) .skip (.exit [3] [] 0)
theorem f66_13e:CN f66_13 11 .skip (.exit [3] [] 0):=rfl
def f66_11:AC:=.seq f66_12 f66_13
theorem f66_11e:SQ f66_11 f66_12 f66_13:=rfl
def f66_16l:List GI:=[vo 17 3,
    vv 18 4,
    ⟨none,.bsl (some 19) 1 1 (.lit (.int .i64 0)) [(0,(.r 18))]⟩,
    ⟨none,.appS 20 17 1 8 (.r 19)⟩,
    vo 3 20]
def f66_16:AC:=.ops [0,3] [] f66_16l
theorem f66_16e:OP f66_16 f66_16l [0,3] []:=rfl
def f66_15:AC:=.block 1 f66_16
theorem f66_15e:BL f66_15 f66_16 1:=rfl
def f66_17l:List GI:=[vv 13 0,
    ⟨none,.call (some 14) false (.f 83) [(.r 13)]⟩,
    vv 12 14,
    ve 15 12 0,
    ve 16 12 1,
    vo 4 15,
    vo 5 16]
def f66_17:AC:=.ops [0,3,4,5] [] f66_17l
theorem f66_17e:OP f66_17 f66_17l [0,3,4,5] []:=rfl
def f66_14:AC:=.seq f66_15 f66_17
theorem f66_14e:SQ f66_14 f66_15 f66_17:=rfl
def f66_10:AC:=.seq f66_11 f66_14
theorem f66_10e:SQ f66_10 f66_11 f66_14:=rfl
def f66_9:AC:=.loop [0,3,4,5] [] f66_10
theorem f66_9w:aC P id m f66_9 sf st Q = cO (aC P id m f66_10) [0,3,4,5] [] sf st Q:=rfl
def f66_8:AC:=.block 0 f66_9
theorem f66_8e:BL f66_8 f66_9 0:=rfl
def f66_6:AC:=.seq f66_7 f66_8
theorem f66_6e:SQ f66_6 f66_7 f66_8:=rfl
def f66_19l:List GI:=[vv 21 3,
    vo 2 21]
def f66_19:AC:=.ops [2] [] f66_19l
theorem f66_19e:OP f66_19 f66_19l [2] []:=rfl
def f66_18:AC:=.seq f66_19 .ret
theorem f66_18e:SQ f66_18 f66_19 .ret:=rfl
def f66_5:AC:=.seq f66_6 f66_18
theorem f66_5e:SQ f66_5 f66_6 f66_18:=rfl
def f66_3:AC:=.seq f66_4 f66_5
theorem f66_3e:SQ f66_3 f66_4 f66_5:=rfl
def f66_1:AC:=.seq f66_2 f66_3
theorem f66_1e:SQ f66_1 f66_2 f66_3:=rfl
def c_f66:AFun:=⟨22,[.tmp 2],f66_1⟩
theorem k_f66:bj Go.Proofs.Try.prog x_f66 66 = some c_f66:=by kernel_rfl
theorem e_f66:aQ Go.Proofs.Try.prog 66 = true:=by kernel_rfl

def n_f67:Nat:=67
def x_f67:Cx:=⟨some,id,24,fun s=>([0,1,4,5,6,9,10,11,12,14,15,16,17,18,20,21,22]:List Nat).contains s,fun s=>([]:List Nat).contains s,msOf [(2,[1,2],[2]),(12,[1,2,7],[2]),(52,[4],[]),(28,[23],[]),(116,[4],[]),(30,[4],[])]⟩
def f67_2l:List GI:=[⟨none,.boxL 2 7 (.r 0)⟩,
    ⟨none,.mv (some 4) (.c (.lit (.int .i64 0)))⟩]
def f67_2:AC:=.ops [1,2] [2] f67_2l
theorem f67_2e:OP f67_2 f67_2l [1,2] [2]:=rfl
def f67_5l:List GI:=[vv 5 1,
    ⟨none,.call (some 6) false (.f 68) [(.r 5)]⟩,
    ⟨none,.un (some 7) .not (.r 6)⟩]
def f67_5:AC:=.ops [1,2,7] [2] f67_5l
theorem f67_5e:OP f67_5 f67_5l [1,2,7] [2]:=rfl
def f67_8l:List GI:=[⟨none,.mv (some 4) (.c (.lit (.int .i64 2)))⟩]
def f67_8:AC:=.ops [4] [] f67_8l
theorem f67_8e:OP f67_8 f67_8l [4] []:=rfl
def f67_7:AC:=.seq f67_8 .ret
theorem f67_7e:SQ f67_7 f67_8 .ret:=rfl
def f67_6:AC:=.cond (.r 7) f67_7 .skip
theorem f67_6e:CN f67_6 7 f67_7 .skip:=rfl
def f67_4:AC:=.seq f67_5 f67_6
theorem f67_4e:SQ f67_4 f67_5 f67_6:=rfl
def f67_11l:List GI:=[vd 8 2 5,
    vl 9 8,
    vv 10 1,
    ⟨none,.call (some 11) false (.f 22) [(.r 9),(.r 10)]⟩,
    vv 12 11,
    ⟨some (12,false),.addr (some 13) (.r 2) 6⟩,
    ⟨some (12,false),.load (some 14) (.r 13) none⟩,
    ⟨some (12,false),.mv (some 15) (.r 1)⟩,
    ⟨some (12,false),.call (some 16) false (.f 22) [(.r 14),(.r 15)]⟩,
    ⟨none,.pick (some 17) (.r 12) (.c (.lit (.bool true))) (.r 16)⟩,
    vv 18 17,
    ⟨some (18,false),.addr (some 19) (.r 2) 3⟩,
    ⟨some (18,false),.load (some 20) (.r 19) none⟩,
    ⟨some (18,false),.mv (some 21) (.r 1)⟩,
    ⟨some (18,false),.bin (some 22) .num .eql (.r 20) (.r 21)⟩,
    ⟨none,.pick (some 23) (.r 18) (.c (.lit (.bool true))) (.r 22)⟩]
def f67_11:AC:=.ops [23] [] f67_11l
theorem f67_11e:OP f67_11 f67_11l [23] []:=rfl
def f67_14l:List GI:=[⟨none,.mv (some 4) (.c (.lit (.int .i64 11)))⟩]
def f67_14:AC:=.ops [4] [] f67_14l
theorem f67_14e:OP f67_14 f67_14l [4] []:=rfl
def f67_13:AC:=.seq f67_14 .ret
theorem f67_13e:SQ f67_13 f67_14 .ret:=rfl
def f67_12:AC:=.cond (.r 23) f67_13 .skip
theorem f67_12e:CN f67_12 23 f67_13 .skip:=rfl
def f67_10:AC:=.seq f67_11 f67_12
theorem f67_10e:SQ f67_10 f67_11 f67_12:=rfl
def f67_16l:List GI:=[⟨none,.mv (some 4) (.c (.lit (.int .i64 0)))⟩]
def f67_16:AC:=.ops [4] [] f67_16l
theorem f67_16e:OP f67_16 f67_16l [4] []:=rfl
def f67_15:AC:=.seq f67_16 .ret
theorem f67_15e:SQ f67_15 f67_16 .ret:=rfl
def f67_9:AC:=.seq f67_10 f67_15
theorem f67_9e:SQ f67_9 f67_10 f67_15:=rfl
def f67_3:AC:=.seq f67_4 f67_9
theorem f67_3e:SQ f67_3 f67_4 f67_9:=rfl
def f67_1:AC:=.seq f67_2 f67_3
theorem f67_1e:SQ f67_1 f67_2 f67_3:=rfl
def c_f67:AFun:=⟨24,[.tmp 4],f67_1⟩
theorem k_f67:bj Go.Proofs.Try.prog x_f67 67 = some c_f67:=by kernel_rfl
theorem e_f67:aQ Go.Proofs.Try.prog 67 = true:=by kernel_rfl

def n_f68:Nat:=68
def x_f68:Cx:=⟨some,id,9,fun s=>([0,2,3,4,5,6,7,8]:List Nat).contains s,fun s=>([]:List Nat).contains s,msOf [(2,[0],[]),(6,[2],[])]⟩
def f68_2l:List GI:=[⟨none,.mv (some 2) (.c (.lit (.bool false)))⟩]
def f68_2:AC:=.ops [0] [] f68_2l
theorem f68_2e:OP f68_2 f68_2l [0] []:=rfl
def f68_4l:List GI:=[vv 3 0,
    vb 4 .geq 3 0,
    vv 5 4,
    ⟨some (5,true),.mv (some 6) (.r 0)⟩,
    ⟨some (5,true),.bin (some 7) .num .lss (.r 6) (.c (.lit (.int .i64 64)))⟩,
    ⟨none,.pick (some 8) (.r 5) (.r 7) (.c (.lit (.bool false)))⟩,
    vo 2 8]
def f68_4:AC:=.ops [2] [] f68_4l
theorem f68_4e:OP f68_4 f68_4l [2] []:=rfl
def f68_3:AC:=.seq f68_4 .ret
theorem f68_3e:SQ f68_3 f68_4 .ret:=rfl
def f68_1:AC:=.seq f68_2 f68_3
theorem f68_1e:SQ f68_1 f68_2 f68_3:=rfl
def c_f68:AFun:=⟨9,[.tmp 2],f68_1⟩
theorem k_f68:bj Go.Proofs.Try.prog x_f68 68 = some c_f68:=by kernel_rfl
theorem e_f68:aQ Go.Proofs.Try.prog 68 = true:=by kernel_rfl

def n_f69:Nat:=69
def x_f69:Cx:=⟨some,id,26,fun s=>([0,1,4,5,6,7,8,9,11,12,13,15,16,18,20,22,24]:List Nat).contains s,fun s=>([]:List Nat).contains s,msOf [(2,[0,1],[]),(12,[0,1,10],[]),(52,[4],[]),(28,[0,1,5],[]),(58,[0,1,5],[]),(464,[0,1,5,14],[]),(931,[],[]),(1864,[0,1,5,25],[]),(7460,[4],[]),(467,[0,1,5],[]),(30,[4],[])]⟩
def f69_2l:List GI:=[⟨none,.mv (some 4) (.c (.lit (.bool false)))⟩]
def f69_2:AC:=.ops [0,1] [] f69_2l
theorem f69_2e:OP f69_2 f69_2l [0,1] []:=rfl
def f69_5l:List GI:=[vv 6 0,
    ⟨none,.len (some 7) .sl (.r 6)⟩,
    vv 8 1,
    ⟨none,.len (some 9) .sl (.r 8)⟩,
    ⟨none,.bin (some 10) .num .neq (.r 7) (.r 9)⟩]
def f69_5:AC:=.ops [0,1,10] [] f69_5l
theorem f69_5e:OP f69_5 f69_5l [0,1,10] []:=rfl
def f69_8l:List GI:=[⟨none,.mv (some 4) (.c (.lit (.bool false)))⟩]
def f69_8:AC:=.ops [4] [] f69_8l
theorem f69_8e:OP f69_8 f69_8l [4] []:=rfl
def f69_7:AC:=.seq f69_8 .ret
theorem f69_7e:SQ f69_7 f69_8 .ret:=rfl
def f69_6:AC:=.cond (.r 10) f69_7 .skip
theorem f69_6e:CN f69_6 10 f69_7 .skip:=rfl
def f69_4:AC:=.seq f69_5 f69_6
theorem f69_4e:SQ f69_4 f69_5 f69_6:=rfl
def f69_11l:List GI:=[⟨none,.mv (some 5) (.c (.lit (.int .i64 0)))⟩]
def f69_11:AC:=.ops [0,1,5] [] f69_11l
theorem f69_11e:OP f69_11 f69_11l [0,1,5] []:=rfl
def f69_16l:List GI:=[vv 11 5,
    vv 12 0,
    ⟨none,.len (some 13) .sl (.r 12)⟩,
    ⟨none,.bin (some 14) .num .lss (.r 11) (.r 13)⟩]
def f69_16:AC:=.ops [0,1,5,14] [] f69_16l
theorem f69_16e:OP f69_16 f69_16l [0,1,5,14] []:=rfl
def f69_17:AC:=.cond (.r 14) .skip (.exit [] [] 0)
theorem f69_17e:CN f69_17 14 .skip (.exit [] [] 0):=rfl
def f69_15:AC:=.seq f69_16 f69_17
theorem f69_15e:SQ f69_15 f69_16 f69_17:=rfl
def f69_21h:List GI:=[vv 17 0,
    vv 18 5,
    ⟨none,.ixS (some 19) (.r 17) (.r 18) 1⟩,
    vl 20 19,
    vv 21 1,
    vv 22 5,
    ⟨none,.ixS (some 23) (.r 21) (.r 22) 1⟩,
    vl 24 23]
def f69_21l:List GI:=[⟨none,.bin (some 25) .num .neq (.r 20) (.r 24)⟩]
def f69_21:AC:=.draw [0,1,5,25] [] [] f69_21h f69_21l
theorem f69_21e:aC P id m f69_21 sf st Q = bD P id sf.locs st f69_21h (cR P id m [] [0,1,5,25] [] f69_21l Q st) [] ⟨sf.regs,br [] sf.locs⟩:=rfl
def f69_24l:List GI:=[⟨none,.mv (some 4) (.c (.lit (.bool false)))⟩]
def f69_24:AC:=.ops [4] [] f69_24l
theorem f69_24e:OP f69_24 f69_24l [4] []:=rfl
def f69_23:AC:=.seq f69_24 .ret
theorem f69_23e:SQ f69_23 f69_24 .ret:=rfl
def f69_22:AC:=.cond (.r 25) f69_23 .skip
theorem f69_22e:CN f69_22 25 f69_23 .skip:=rfl
def f69_20:AC:=.seq f69_21 f69_22
theorem f69_20e:SQ f69_20 f69_21 f69_22:=rfl
def f69_19:AC:=.block 1 f69_20
theorem f69_19e:BL f69_19 f69_20 1:=rfl
def f69_25l:List GI:=[vv 15 5,
    vb 16 .add 15 1,
    vo 5 16]
def f69_25:AC:=.ops [0,1,5] [] f69_25l
theorem f69_25e:OP f69_25 f69_25l [0,1,5] []:=rfl
def f69_18:AC:=.seq f69_19 f69_25
theorem f69_18e:SQ f69_18 f69_19 f69_25:=rfl
def f69_14:AC:=.seq f69_15 f69_18
theorem f69_14e:SQ f69_14 f69_15 f69_18:=rfl
def f69_13:AC:=.loop [0,1,5] [] f69_14
theorem f69_13w:aC P id m f69_13 sf st Q = cO (aC P id m f69_14) [0,1,5] [] sf st Q:=rfl
def f69_12:AC:=.block 0 f69_13
theorem f69_12e:BL f69_12 f69_13 0:=rfl
def f69_10:AC:=.seq f69_11 f69_12
theorem f69_10e:SQ f69_10 f69_11 f69_12:=rfl
def f69_27l:List GI:=[⟨none,.mv (some 4) (.c (.lit (.bool true)))⟩]
def f69_27:AC:=.ops [4] [] f69_27l
theorem f69_27e:OP f69_27 f69_27l [4] []:=rfl
def f69_26:AC:=.seq f69_27 .ret
theorem f69_26e:SQ f69_26 f69_27 .ret:=rfl
def f69_9:AC:=.seq f69_10 f69_26
theorem f69_9e:SQ f69_9 f69_10 f69_26:=rfl
def f69_3:AC:=.seq f69_4 f69_9
theorem f69_3e:SQ f69_3 f69_4 f69_9:=rfl
def f69_1:AC:=.seq f69_2 f69_3
theorem f69_1e:SQ f69_1 f69_2 f69_3:=rfl
def c_f69:AFun:=⟨26,[.tmp 4],f69_1⟩
theorem k_f69:bj Go.Proofs.Try.prog x_f69 69 = some c_f69:=by kernel_rfl
theorem e_f69:aQ Go.Proofs.Try.prog 69 = true:=by kernel_rfl

def n_f70:Nat:=70
def x_f70:Cx:=⟨some,id,44,fun s=>([1,2,6,7,8,9,10,14,15,16,17,18,20,25,26,27,32,33,35,41,42]:List Nat).contains s,fun s=>([]:List Nat).contains s,msOf [(2,[0,1,2],[]),(12,[0,1,8],[]),(26,[0,1,8,19],[]),(108,[6,7],[]),(56,[0,1,21],[]),(228,[6,7],[]),(230,[0,1,28],[]),(924,[],[]),(1850,[6,7],[]),(30,[],[]),(62,[6,7],[])]⟩
def f70_2l:List GI:=[⟨none,.mv (some 6) (.c (.lit (.bool false)))⟩,
    ⟨none,.mv (some 7) (.c (.lit (.int .i64 0)))⟩]
def f70_2:AC:=.ops [0,1,2] [] f70_2l
theorem f70_2e:OP f70_2 f70_2l [0,1,2] []:=rfl
def f70_5l:List GI:=[vv 9 1,
    vo 10 2,
    vv 11 0,
    vn 12 11,
    vd 13 12 1,
    vl 14 13,
    ⟨none,.bsl (some 15) 1 1 (.lit (.pointer none)) [(0,(.r 14))]⟩,
    ⟨none,.appS 16 10 1 8 (.r 15)⟩,
    ⟨none,.call (some 17) false (.f 64) [(.r 9),(.r 16)]⟩,
    vo 8 17]
def f70_5:AC:=.ops [0,1,8] [] f70_5l
theorem f70_5e:OP f70_5 f70_5l [0,1,8] []:=rfl
def f70_7l:List GI:=[vv 18 8,
    vb 19 .neq 18 0]
def f70_7:AC:=.ops [0,1,8,19] [] f70_7l
theorem f70_7e:OP f70_7 f70_7l [0,1,8,19] []:=rfl
def f70_10l:List GI:=[vv 20 8,
    ⟨none,.mv (some 6) (.c (.lit (.bool false)))⟩,
    vo 7 20]
def f70_10:AC:=.ops [6,7] [] f70_10l
theorem f70_10e:OP f70_10 f70_10l [6,7] []:=rfl
def f70_9:AC:=.seq f70_10 .ret
theorem f70_9e:SQ f70_9 f70_10 .ret:=rfl
def f70_8:AC:=.cond (.r 19) f70_9 .skip
theorem f70_8e:CN f70_8 19 f70_9 .skip:=rfl
def f70_6:AC:=.seq f70_7 f70_8
theorem f70_6e:SQ f70_6 f70_7 f70_8:=rfl
def f70_4:AC:=.seq f70_5 f70_6
theorem f70_4e:SQ f70_4 f70_5 f70_6:=rfl
def f70_14l:List GI:=[vv 22 0,
    vn 23 22,
    vd 24 23 0,
    vl 25 24,
    vv 26 1,
    ⟨none,.bin (some 27) .num .eql (.r 25) (.r 26)⟩,
    vo 21 27]
def f70_14:AC:=.ops [0,1,21] [] f70_14l
theorem f70_14e:OP f70_14 f70_14l [0,1,21] []:=rfl
def f70_17l:List GI:=[⟨none,.mv (some 6) (.c (.lit (.bool false)))⟩,
    ⟨none,.mv (some 7) (.c (.lit (.int .i64 11)))⟩]
def f70_17:AC:=.ops [6,7] [] f70_17l
theorem f70_17e:OP f70_17 f70_17l [6,7] []:=rfl
def f70_16:AC:=.seq f70_17 .ret
theorem f70_16e:SQ f70_16 f70_17 .ret:=rfl
def f70_19l:List GI:=[vv 29 0,
    vn 30 29,
    vd 31 30 0,
    vl 32 31,
    vb 33 .lss 32 0,
    vo 28 33]
def f70_19:AC:=.ops [0,1,28] [] f70_19l
theorem f70_19e:OP f70_19 f70_19l [0,1,28] []:=rfl
def f70_22l:List GI:=[vv 34 0,
    vv 35 1,
    vn 36 34,
    vd 37 36 0,
    ⟨none,.store 1 (.r 37) (.r 35)⟩]
def f70_22:AC:=.ops [] [] f70_22l
theorem f70_22e:OP f70_22 f70_22l [] []:=rfl
def f70_24l:List GI:=[⟨none,.mv (some 6) (.c (.lit (.bool true)))⟩,
    ⟨none,.mv (some 7) (.c (.lit (.int .i64 0)))⟩]
def f70_24:AC:=.ops [6,7] [] f70_24l
theorem f70_24e:OP f70_24 f70_24l [6,7] []:=rfl
def f70_23:AC:=.seq f70_24 .ret
theorem f70_23e:SQ f70_23 f70_24 .ret:=rfl
def f70_21:AC:=.seq f70_22 f70_23
theorem f70_21e:SQ f70_21 f70_22 f70_23:=rfl
def f70_20:AC:=.cond (.r 28) f70_21 .skip
theorem f70_20e:CN f70_20 28 f70_21 .skip:=rfl
def f70_18:AC:=.seq f70_19 f70_20
theorem f70_18e:SQ f70_18 f70_19 f70_20:=rfl
def f70_15:AC:=.cond (.r 21) f70_16 f70_18
theorem f70_15e:CN f70_15 21 f70_16 f70_18:=rfl
def f70_13:AC:=.seq f70_14 f70_15
theorem f70_13e:SQ f70_13 f70_14 f70_15:=rfl
def f70_12:AC:=.block 0 f70_13
theorem f70_12e:BL f70_12 f70_13 0:=rfl
def f70_26l:List GI:=[vv 38 0,
    vn 39 38,
    vd 40 39 1,
    vl 41 40,
    vv 42 1,
    ⟨none,.call (some 43) false (.f 65) [(.r 41),(.r 42)]⟩]
def f70_26:AC:=.ops [] [] f70_26l
theorem f70_26e:OP f70_26 f70_26l [] []:=rfl
def f70_28l:List GI:=[⟨none,.mv (some 6) (.c (.lit (.bool false)))⟩,
    ⟨none,.mv (some 7) (.c (.lit (.int .i64 0)))⟩]
def f70_28:AC:=.ops [6,7] [] f70_28l
theorem f70_28e:OP f70_28 f70_28l [6,7] []:=rfl
def f70_27:AC:=.seq f70_28 .ret
theorem f70_27e:SQ f70_27 f70_28 .ret:=rfl
def f70_25:AC:=.seq f70_26 f70_27
theorem f70_25e:SQ f70_25 f70_26 f70_27:=rfl
def f70_11:AC:=.seq f70_12 f70_25
theorem f70_11e:SQ f70_11 f70_12 f70_25:=rfl
def f70_3:AC:=.seq f70_4 f70_11
theorem f70_3e:SQ f70_3 f70_4 f70_11:=rfl
def f70_1:AC:=.seq f70_2 f70_3
theorem f70_1e:SQ f70_1 f70_2 f70_3:=rfl
def c_f70:AFun:=⟨44,[.tmp 6,.tmp 7],f70_1⟩
theorem k_f70:bj Go.Proofs.Try.prog x_f70 70 = some c_f70:=by kernel_rfl
theorem e_f70:aQ Go.Proofs.Try.prog 70 = true:=by kernel_rfl

def n_f71:Nat:=71
def x_f71:Cx:=⟨some,id,20,fun s=>([1,4,5,6,7,8,10,14,15]:List Nat).contains s,fun s=>([]:List Nat).contains s,msOf [(2,[0,1],[]),(12,[0,1,5],[]),(26,[0,1,5,9],[]),(108,[4],[]),(28,[0,16],[]),(116,[4],[]),(30,[],[]),(62,[4],[])]⟩
def f71_2l:List GI:=[⟨none,.mv (some 4) (.c (.lit (.int .i64 0)))⟩]
def f71_2:AC:=.ops [0,1] [] f71_2l
theorem f71_2e:OP f71_2 f71_2l [0,1] []:=rfl
def f71_5l:List GI:=[vv 6 1,
    ⟨none,.call (some 7) false (.f 64) [(.r 6),(.c (.lit (.slice none 0 0)))]⟩,
    vo 5 7]
def f71_5:AC:=.ops [0,1,5] [] f71_5l
theorem f71_5e:OP f71_5 f71_5l [0,1,5] []:=rfl
def f71_7l:List GI:=[vv 8 5,
    vb 9 .neq 8 0]
def f71_7:AC:=.ops [0,1,5,9] [] f71_7l
theorem f71_7e:OP f71_7 f71_7l [0,1,5,9] []:=rfl
def f71_10l:List GI:=[vv 10 5,
    vo 4 10]
def f71_10:AC:=.ops [4] [] f71_10l
theorem f71_10e:OP f71_10 f71_10l [4] []:=rfl
def f71_9:AC:=.seq f71_10 .ret
theorem f71_9e:SQ f71_9 f71_10 .ret:=rfl
def f71_8:AC:=.cond (.r 9) f71_9 .skip
theorem f71_8e:CN f71_8 9 f71_9 .skip:=rfl
def f71_6:AC:=.seq f71_7 f71_8
theorem f71_6e:SQ f71_6 f71_7 f71_8:=rfl
def f71_4:AC:=.seq f71_5 f71_6
theorem f71_4e:SQ f71_4 f71_5 f71_6:=rfl
def f71_13l:List GI:=[vv 11 0,
    vn 12 11,
    vd 13 12 0,
    vl 14 13,
    vv 15 1,
    ⟨none,.bin (some 16) .num .neq (.r 14) (.r 15)⟩]
def f71_13:AC:=.ops [0,16] [] f71_13l
theorem f71_13e:OP f71_13 f71_13l [0,16] []:=rfl
def f71_16l:List GI:=[⟨none,.mv (some 4) (.c (.lit (.int .i64 8)))⟩]
def f71_16:AC:=.ops [4] [] f71_16l
theorem f71_16e:OP f71_16 f71_16l [4] []:=rfl
def f71_15:AC:=.seq f71_16 .ret
theorem f71_15e:SQ f71_15 f71_16 .ret:=rfl
def f71_14:AC:=.cond (.r 16) f71_15 .skip
theorem f71_14e:CN f71_14 16 f71_15 .skip:=rfl
def f71_12:AC:=.seq f71_13 f71_14
theorem f71_12e:SQ f71_12 f71_13 f71_14:=rfl
def f71_18l:List GI:=[vv 17 0,
    vn 18 17,
    vd 19 18 0,
    ⟨none,.store 1 (.r 19) (.c (.lit (.int .i64 (-1))))⟩]
def f71_18:AC:=.ops [] [] f71_18l
theorem f71_18e:OP f71_18 f71_18l [] []:=rfl
def f71_20l:List GI:=[⟨none,.mv (some 4) (.c (.lit (.int .i64 0)))⟩]
def f71_20:AC:=.ops [4] [] f71_20l
theorem f71_20e:OP f71_20 f71_20l [4] []:=rfl
def f71_19:AC:=.seq f71_20 .ret
theorem f71_19e:SQ f71_19 f71_20 .ret:=rfl
def f71_17:AC:=.seq f71_18 f71_19
theorem f71_17e:SQ f71_17 f71_18 f71_19:=rfl
def f71_11:AC:=.seq f71_12 f71_17
theorem f71_11e:SQ f71_11 f71_12 f71_17:=rfl
def f71_3:AC:=.seq f71_4 f71_11
theorem f71_3e:SQ f71_3 f71_4 f71_11:=rfl
def f71_1:AC:=.seq f71_2 f71_3
theorem f71_1e:SQ f71_1 f71_2 f71_3:=rfl
def c_f71:AFun:=⟨20,[.tmp 4],f71_1⟩
theorem k_f71:bj Go.Proofs.Try.prog x_f71 71 = some c_f71:=by kernel_rfl
theorem e_f71:aQ Go.Proofs.Try.prog 71 = true:=by kernel_rfl

def n_f72:Nat:=72
def x_f72:Cx:=⟨some,id,26,fun s=>([2,3,4,8,10,14,15,16,17,18,21,24,25]:List Nat).contains s,fun s=>([]:List Nat).contains s,msOf [(2,[0],[]),(12,[0,9],[]),(52,[2],[]),(14,[0,3,4],[]),(60,[0,3,19],[]),(244,[2],[]),(62,[3],[]),(126,[2],[])]⟩
def f72_2l:List GI:=[⟨none,.mv (some 2) (.c (.lit (.slice none 0 0)))⟩]
def f72_2:AC:=.ops [0] [] f72_2l
theorem f72_2e:OP f72_2 f72_2l [0] []:=rfl
def f72_5l:List GI:=[vv 5 0,
    vn 6 5,
    vd 7 6 0,
    vl 8 7,
    vb 9 .geq 8 0]
def f72_5:AC:=.ops [0,9] [] f72_5l
theorem f72_5e:OP f72_5 f72_5l [0,9] []:=rfl
def f72_8l:List GI:=[⟨none,.mv (some 2) (.c (.lit (.slice none 0 0)))⟩]
def f72_8:AC:=.ops [2] [] f72_8l
theorem f72_8e:OP f72_8 f72_8l [2] []:=rfl
def f72_7:AC:=.seq f72_8 .ret
theorem f72_7e:SQ f72_7 f72_8 .ret:=rfl
def f72_6:AC:=.cond (.r 9) f72_7 .skip
theorem f72_6e:CN f72_6 9 f72_7 .skip:=rfl
def f72_4:AC:=.seq f72_5 f72_6
theorem f72_4e:SQ f72_4 f72_5 f72_6:=rfl
def f72_10l:List GI:=[vv 11 0,
    vn 12 11,
    vd 13 12 1,
    vl 14 13,
    ⟨none,.call (some 15) false (.f 83) [(.r 14)]⟩,
    vv 10 15,
    ve 16 10 0,
    ve 17 10 1,
    vo 3 16,
    vo 4 17]
def f72_10:AC:=.ops [0,3,4] [] f72_10l
theorem f72_10e:OP f72_10 f72_10l [0,3,4] []:=rfl
def f72_13l:List GI:=[vv 18 4,
    ⟨none,.un (some 19) .not (.r 18)⟩]
def f72_13:AC:=.ops [0,3,19] [] f72_13l
theorem f72_13e:OP f72_13 f72_13l [0,3,19] []:=rfl
def f72_16l:List GI:=[⟨none,.mv (some 2) (.c (.lit (.slice none 0 0)))⟩]
def f72_16:AC:=.ops [2] [] f72_16l
theorem f72_16e:OP f72_16 f72_16l [2] []:=rfl
def f72_15:AC:=.seq f72_16 .ret
theorem f72_15e:SQ f72_15 f72_16 .ret:=rfl
def f72_14:AC:=.cond (.r 19) f72_15 .skip
theorem f72_14e:CN f72_14 19 f72_15 .skip:=rfl
def f72_12:AC:=.seq f72_13 f72_14
theorem f72_12e:SQ f72_12 f72_13 f72_14:=rfl
def f72_18l:List GI:=[vv 20 0,
    vv 21 3,
    vn 22 20,
    vd 23 22 0,
    ⟨none,.store 1 (.r 23) (.r 21)⟩]
def f72_18:AC:=.ops [3] [] f72_18l
theorem f72_18e:OP f72_18 f72_18l [3] []:=rfl
def f72_20l:List GI:=[vv 24 3,
    ⟨none,.bsl (some 25) 1 1 (.lit (.int .i64 0)) [(0,(.r 24))]⟩,
    vo 2 25]
def f72_20:AC:=.ops [2] [] f72_20l
theorem f72_20e:OP f72_20 f72_20l [2] []:=rfl
def f72_19:AC:=.seq f72_20 .ret
theorem f72_19e:SQ f72_19 f72_20 .ret:=rfl
def f72_17:AC:=.seq f72_18 f72_19
theorem f72_17e:SQ f72_17 f72_18 f72_19:=rfl
def f72_11:AC:=.seq f72_12 f72_17
theorem f72_11e:SQ f72_11 f72_12 f72_17:=rfl
def f72_9:AC:=.seq f72_10 f72_11
theorem f72_9e:SQ f72_9 f72_10 f72_11:=rfl
def f72_3:AC:=.seq f72_4 f72_9
theorem f72_3e:SQ f72_3 f72_4 f72_9:=rfl
def f72_1:AC:=.seq f72_2 f72_3
theorem f72_1e:SQ f72_1 f72_2 f72_3:=rfl
def c_f72:AFun:=⟨26,[.tmp 2],f72_1⟩
theorem k_f72:bj Go.Proofs.Try.prog x_f72 72 = some c_f72:=by kernel_rfl
theorem e_f72:aQ Go.Proofs.Try.prog 72 = true:=by kernel_rfl

def n_f73:Nat:=73
def x_f73:Cx:=⟨some,id,30,fun s=>([0,5,6,7,9,10,11,13,14,18,21,22,23,25,27,28,29]:List Nat).contains s,fun s=>([]:List Nat).contains s,msOf [(2,[1,2,3],[1,2,3]),(12,[1,2,3,12],[1,2,3]),(52,[2,3],[2,3]),(14,[1,2,3],[1,2,3]),(30,[1,2,3],[1,2,3]),(62,[2,3],[2,3])]⟩
def f73_2l:List GI:=[⟨none,.boxL 1 7 (.r 0)⟩,
    ⟨none,.newL 2 [(.lit (.int .i64 0)),(.lit (.int .i64 0)),(.lit (.int .i64 0)),(.lit (.int .i64 0)),(.lit (.bool false)),(.lit (.slice none 0 0)),(.lit (.slice none 0 0))]⟩,
    ⟨none,.newL 3 [(.lit (.bool false)),(.lit (.bool false)),(.lit (.slice none 0 0)),(.lit (.int .i64 0))]⟩]
def f73_2:AC:=.ops [1,2,3] [1,2,3] f73_2l
theorem f73_2e:OP f73_2 f73_2l [1,2,3] [1,2,3]:=rfl
def f73_5l:List GI:=[vd 4 1 3,
    vl 5 4,
    vb 6 .geq 5 0,
    vv 7 6,
    ⟨some (7,false),.addr (some 8) (.r 1) 5⟩,
    ⟨some (7,false),.load (some 9) (.r 8) none⟩,
    ⟨some (7,false),.len (some 10) .sl (.r 9)⟩,
    ⟨some (7,false),.bin (some 11) .num .eql (.r 10) (.c (.lit (.int .i64 0)))⟩,
    ⟨none,.pick (some 12) (.r 7) (.c (.lit (.bool true))) (.r 11)⟩]
def f73_5:AC:=.ops [1,2,3,12] [1,2,3] f73_5l
theorem f73_5e:OP f73_5 f73_5l [1,2,3,12] [1,2,3]:=rfl
def f73_8l:List GI:=[⟨none,.load (some 13) (.r 1) (some 7)⟩,
    ⟨none,.bst (some 14) [(0,1),(1,1),(2,1),(3,1)] (.agg [(.lit (.bool false)),(.lit (.bool false)),(.lit (.slice none 0 0)),(.lit (.int .i64 0))]) []⟩,
    ⟨none,.store 7 (.r 2) (.r 13)⟩,
    ⟨none,.store 4 (.r 3) (.r 14)⟩]
def f73_8:AC:=.ops [2,3] [2,3] f73_8l
theorem f73_8e:OP f73_8 f73_8l [2,3] [2,3]:=rfl
def f73_7:AC:=.seq f73_8 .ret
theorem f73_7e:SQ f73_7 f73_8 .ret:=rfl
def f73_6:AC:=.cond (.r 12) f73_7 .skip
theorem f73_6e:CN f73_6 12 f73_7 .skip:=rfl
def f73_4:AC:=.seq f73_5 f73_6
theorem f73_4e:SQ f73_4 f73_5 f73_6:=rfl
def f73_10l:List GI:=[vd 15 1 5,
    vl 16 15,
    ⟨none,.ixS (some 17) (.r 16) (.c (.lit (.int .i64 0))) 1⟩,
    vl 18 17,
    vd 19 1 3,
    ⟨none,.store 1 (.r 19) (.r 18)⟩]
def f73_10:AC:=.ops [1,2,3] [1,2,3] f73_10l
theorem f73_10e:OP f73_10 f73_10l [1,2,3] [1,2,3]:=rfl
def f73_12l:List GI:=[vd 20 1 5,
    vl 21 20,
    ⟨none,.sliOwn 22 21 (.c (.lit (.int .i64 1))) 1⟩,
    ⟨none,.app (some 23) 1 8 (.c (.lit (.slice none 0 0))) (.r 22)⟩,
    vd 24 1 5,
    ⟨none,.store 1 (.r 24) (.r 23)⟩]
def f73_12:AC:=.ops [1,2,3] [1,2,3] f73_12l
theorem f73_12e:OP f73_12 f73_12l [1,2,3] [1,2,3]:=rfl
def f73_14h:List GI:=[⟨none,.load (some 25) (.r 1) (some 7)⟩,
    vd 26 1 3,
    vl 27 26,
    ⟨none,.bsl (some 28) 1 1 (.lit (.int .i64 0)) [(0,(.r 27))]⟩,
    ⟨none,.bst (some 29) [(0,1),(1,1),(2,1),(3,1)] (.agg [(.lit (.bool false)),(.lit (.bool false)),(.lit (.slice none 0 0)),(.lit (.int .i64 0))]) [(2,(.r 28))]⟩,
    ⟨none,.store 7 (.r 2) (.r 25)⟩]
def f73_14l:List GI:=[⟨none,.store 4 (.r 3) (.r 29)⟩]
def f73_14:AC:=.draw [2,3] [2,3] [2] f73_14h f73_14l
theorem f73_14e:aC P id m f73_14 sf st Q = bD P id sf.locs st f73_14h (cR P id m [2] [2,3] [2,3] f73_14l Q st) [] ⟨sf.regs,br [2] sf.locs⟩:=rfl
def f73_13:AC:=.seq f73_14 .ret
theorem f73_13e:SQ f73_13 f73_14 .ret:=rfl
def f73_11:AC:=.seq f73_12 f73_13
theorem f73_11e:SQ f73_11 f73_12 f73_13:=rfl
def f73_9:AC:=.seq f73_10 f73_11
theorem f73_9e:SQ f73_9 f73_10 f73_11:=rfl
def f73_3:AC:=.seq f73_4 f73_9
theorem f73_3e:SQ f73_3 f73_4 f73_9:=rfl
def f73_1:AC:=.seq f73_2 f73_3
theorem f73_1e:SQ f73_1 f73_2 f73_3:=rfl
def c_f73:AFun:=⟨30,[.cell 2 (some 7),.cell 3 (some 4)],f73_1⟩
theorem k_f73:bj Go.Proofs.Try.prog x_f73 73 = some c_f73:=by kernel_rfl
theorem e_f73:aQ Go.Proofs.Try.prog 73 = true:=by kernel_rfl

def n_f74:Nat:=74
def x_f74:Cx:=⟨some,id,12,fun s=>([0,2,3,4,5,9,10,11]:List Nat).contains s,fun s=>([]:List Nat).contains s,msOf [(2,[0],[]),(6,[2],[])]⟩
def f74_2l:List GI:=[⟨none,.mv (some 2) (.c (.lit (.bool false)))⟩]
def f74_2:AC:=.ops [0] [] f74_2l
theorem f74_2e:OP f74_2 f74_2l [0] []:=rfl
def f74_4l:List GI:=[vv 3 0,
    ⟨none,.bin (some 4) (.nil .ptr) .eql (.r 3) (.c (.lit (.pointer none)))⟩,
    vv 5 4,
    ⟨some (5,false),.mv (some 6) (.r 0)⟩,
    ⟨some (5,false),.nilck (some 7) (.r 6)⟩,
    ⟨some (5,false),.addr (some 8) (.r 7) 1⟩,
    ⟨some (5,false),.load (some 9) (.r 8) none⟩,
    ⟨some (5,false),.bin (some 10) (.nil .ptr) .eql (.r 9) (.c (.lit (.pointer none)))⟩,
    ⟨none,.pick (some 11) (.r 5) (.c (.lit (.bool true))) (.r 10)⟩,
    vo 2 11]
def f74_4:AC:=.ops [2] [] f74_4l
theorem f74_4e:OP f74_4 f74_4l [2] []:=rfl
def f74_3:AC:=.seq f74_4 .ret
theorem f74_3e:SQ f74_3 f74_4 .ret:=rfl
def f74_1:AC:=.seq f74_2 f74_3
theorem f74_1e:SQ f74_1 f74_2 f74_3:=rfl
def c_f74:AFun:=⟨12,[.tmp 2],f74_1⟩
theorem k_f74:bj Go.Proofs.Try.prog x_f74 74 = some c_f74:=by kernel_rfl
theorem e_f74:aQ Go.Proofs.Try.prog 74 = true:=by kernel_rfl

def n_f75:Nat:=75
def x_f75:Cx:=⟨some,id,31,fun s=>([0,1,4,5,6,7,8,9,11,12,13,18,22,23,24,29,30]:List Nat).contains s,fun s=>([]:List Nat).contains s,msOf [(2,[0,1],[]),(12,[0,1,10],[]),(52,[4],[]),(28,[0,1,14],[]),(116,[4],[]),(30,[0,1],[]),(62,[],[]),(126,[4],[])]⟩
def f75_2l:List GI:=[⟨none,.mv (some 4) (.c (.lit (.int .i64 0)))⟩]
def f75_2:AC:=.ops [0,1] [] f75_2l
theorem f75_2e:OP f75_2 f75_2l [0,1] []:=rfl
def f75_5l:List GI:=[vv 5 1,
    vb 6 .lss 5 0,
    vv 7 6,
    ⟨some (7,false),.mv (some 8) (.r 1)⟩,
    ⟨some (7,false),.bin (some 9) .num .geq (.r 8) (.c (.lit (.int .i64 64)))⟩,
    ⟨none,.pick (some 10) (.r 7) (.c (.lit (.bool true))) (.r 9)⟩]
def f75_5:AC:=.ops [0,1,10] [] f75_5l
theorem f75_5e:OP f75_5 f75_5l [0,1,10] []:=rfl
def f75_8l:List GI:=[⟨none,.mv (some 4) (.c (.lit (.int .i64 2)))⟩]
def f75_8:AC:=.ops [4] [] f75_8l
theorem f75_8e:OP f75_8 f75_8l [4] []:=rfl
def f75_7:AC:=.seq f75_8 .ret
theorem f75_7e:SQ f75_7 f75_8 .ret:=rfl
def f75_6:AC:=.cond (.r 10) f75_7 .skip
theorem f75_6e:CN f75_6 10 f75_7 .skip:=rfl
def f75_4:AC:=.seq f75_5 f75_6
theorem f75_4e:SQ f75_4 f75_5 f75_6:=rfl
def f75_11l:List GI:=[vv 11 0,
    vv 12 1,
    ⟨none,.call (some 13) false (.f 81) [(.r 11),(.r 12)]⟩,
    ⟨none,.un (some 14) .not (.r 13)⟩]
def f75_11:AC:=.ops [0,1,14] [] f75_11l
theorem f75_11e:OP f75_11 f75_11l [0,1,14] []:=rfl
def f75_14l:List GI:=[⟨none,.mv (some 4) (.c (.lit (.int .i64 9)))⟩]
def f75_14:AC:=.ops [4] [] f75_14l
theorem f75_14e:OP f75_14 f75_14l [4] []:=rfl
def f75_13:AC:=.seq f75_14 .ret
theorem f75_13e:SQ f75_13 f75_14 .ret:=rfl
def f75_12:AC:=.cond (.r 14) f75_13 .skip
theorem f75_12e:CN f75_12 14 f75_13 .skip:=rfl
def f75_10:AC:=.seq f75_11 f75_12
theorem f75_10e:SQ f75_10 f75_11 f75_12:=rfl
def f75_16h:List GI:=[vv 15 0,
    vn 16 15,
    vd 17 16 0,
    vl 18 17,
    vv 19 0,
    vn 20 19,
    vd 21 20 1,
    vl 22 21,
    vv 23 1,
    ⟨none,.lookup (some 24) (.int .i64) (.lit (.int .u64 0)) false (.r 22) (.r 23)⟩]
def f75_16l:List GI:=[⟨none,.call (some 25) false (.f 84) [(.r 18),(.r 24)]⟩]
def f75_16:AC:=.draw [0,1] [] [] f75_16h f75_16l
theorem f75_16e:aC P id m f75_16 sf st Q = bD P id sf.locs st f75_16h (cR P id m [] [0,1] [] f75_16l Q st) [] ⟨sf.regs,br [] sf.locs⟩:=rfl
def f75_18l:List GI:=[vv 26 0,
    vn 27 26,
    vd 28 27 1,
    vl 29 28,
    vv 30 1,
    ⟨none,.del (.int .i64) (.r 29) (.r 30)⟩]
def f75_18:AC:=.ops [] [] f75_18l
theorem f75_18e:OP f75_18 f75_18l [] []:=rfl
def f75_20l:List GI:=[⟨none,.mv (some 4) (.c (.lit (.int .i64 0)))⟩]
def f75_20:AC:=.ops [4] [] f75_20l
theorem f75_20e:OP f75_20 f75_20l [4] []:=rfl
def f75_19:AC:=.seq f75_20 .ret
theorem f75_19e:SQ f75_19 f75_20 .ret:=rfl
def f75_17:AC:=.seq f75_18 f75_19
theorem f75_17e:SQ f75_17 f75_18 f75_19:=rfl
def f75_15:AC:=.seq f75_16 f75_17
theorem f75_15e:SQ f75_15 f75_16 f75_17:=rfl
def f75_9:AC:=.seq f75_10 f75_15
theorem f75_9e:SQ f75_9 f75_10 f75_15:=rfl
def f75_3:AC:=.seq f75_4 f75_9
theorem f75_3e:SQ f75_3 f75_4 f75_9:=rfl
def f75_1:AC:=.seq f75_2 f75_3
theorem f75_1e:SQ f75_1 f75_2 f75_3:=rfl
def c_f75:AFun:=⟨31,[.tmp 4],f75_1⟩
theorem k_f75:bj Go.Proofs.Try.prog x_f75 75 = some c_f75:=by kernel_rfl
theorem e_f75:aQ Go.Proofs.Try.prog 75 = true:=by kernel_rfl

def n_f76:Nat:=76
def x_f76:Cx:=⟨some,id,35,fun s=>([0,1,4,5,6,7,9,13,14,15,16,18,22,27,28,33,34]:List Nat).contains s,fun s=>([]:List Nat).contains s,msOf [(2,[0,1],[]),(12,[0,1,8],[]),(52,[4,5],[]),(28,[0,1,6],[]),(58,[0,1,6,17],[]),(236,[4,5],[]),(60,[0,1,23],[]),(122,[0],[]),(62,[4,5],[])]⟩
def f76_2l:List GI:=[⟨none,.mv (some 4) (.c (.lit (.bool false)))⟩,
    ⟨none,.mv (some 5) (.c (.lit (.int .i64 0)))⟩]
def f76_2:AC:=.ops [0,1] [] f76_2l
theorem f76_2e:OP f76_2 f76_2l [0,1] []:=rfl
def f76_5l:List GI:=[vv 7 0,
    ⟨none,.call (some 8) false (.f 74) [(.r 7)]⟩]
def f76_5:AC:=.ops [0,1,8] [] f76_5l
theorem f76_5e:OP f76_5 f76_5l [0,1,8] []:=rfl
def f76_8l:List GI:=[⟨none,.mv (some 4) (.c (.lit (.bool false)))⟩,
    ⟨none,.mv (some 5) (.c (.lit (.int .i64 1)))⟩]
def f76_8:AC:=.ops [4,5] [] f76_8l
theorem f76_8e:OP f76_8 f76_8l [4,5] []:=rfl
def f76_7:AC:=.seq f76_8 .ret
theorem f76_7e:SQ f76_7 f76_8 .ret:=rfl
def f76_6:AC:=.cond (.r 8) f76_7 .skip
theorem f76_6e:CN f76_6 8 f76_7 .skip:=rfl
def f76_4:AC:=.seq f76_5 f76_6
theorem f76_4e:SQ f76_4 f76_5 f76_6:=rfl
def f76_11l:List GI:=[vv 9 1,
    vv 10 0,
    vn 11 10,
    vd 12 11 1,
    vl 13 12,
    ⟨none,.bsl (some 14) 1 1 (.lit (.pointer none)) [(0,(.r 13))]⟩,
    ⟨none,.call (some 15) false (.f 64) [(.r 9),(.r 14)]⟩,
    vo 6 15]
def f76_11:AC:=.ops [0,1,6] [] f76_11l
theorem f76_11e:OP f76_11 f76_11l [0,1,6] []:=rfl
def f76_13l:List GI:=[vv 16 6,
    vb 17 .neq 16 0]
def f76_13:AC:=.ops [0,1,6,17] [] f76_13l
theorem f76_13e:OP f76_13 f76_13l [0,1,6,17] []:=rfl
def f76_16l:List GI:=[vv 18 6,
    ⟨none,.mv (some 4) (.c (.lit (.bool false)))⟩,
    vo 5 18]
def f76_16:AC:=.ops [4,5] [] f76_16l
theorem f76_16e:OP f76_16 f76_16l [4,5] []:=rfl
def f76_15:AC:=.seq f76_16 .ret
theorem f76_15e:SQ f76_15 f76_16 .ret:=rfl
def f76_14:AC:=.cond (.r 17) f76_15 .skip
theorem f76_14e:CN f76_14 17 f76_15 .skip:=rfl
def f76_12:AC:=.seq f76_13 f76_14
theorem f76_12e:SQ f76_12 f76_13 f76_14:=rfl
def f76_10:AC:=.seq f76_11 f76_12
theorem f76_10e:SQ f76_10 f76_11 f76_12:=rfl
def f76_19l:List GI:=[vv 19 0,
    vn 20 19,
    vd 21 20 0,
    vl 22 21,
    vb 23 .gtr 22 0]
def f76_19:AC:=.ops [0,1,23] [] f76_19l
theorem f76_19e:OP f76_19 f76_19l [0,1,23] []:=rfl
def f76_21l:List GI:=[vv 24 0,
    vn 25 24,
    vd 26 25 1,
    vl 27 26,
    vv 28 1,
    ⟨none,.call (some 29) false (.f 65) [(.r 27),(.r 28)]⟩]
def f76_21:AC:=.ops [0] [] f76_21l
theorem f76_21e:OP f76_21 f76_21l [0] []:=rfl
def f76_20:AC:=.cond (.r 23) f76_21 .skip
theorem f76_20e:CN f76_20 23 f76_21 .skip:=rfl
def f76_18:AC:=.seq f76_19 f76_20
theorem f76_18e:SQ f76_18 f76_19 f76_20:=rfl
def f76_23l:List GI:=[vv 30 0,
    vn 31 30,
    vd 32 31 0,
    vl 33 32,
    vb 34 .eql 33 0,
    vo 4 34,
    ⟨none,.mv (some 5) (.c (.lit (.int .i64 0)))⟩]
def f76_23:AC:=.ops [4,5] [] f76_23l
theorem f76_23e:OP f76_23 f76_23l [4,5] []:=rfl
def f76_22:AC:=.seq f76_23 .ret
theorem f76_22e:SQ f76_22 f76_23 .ret:=rfl
def f76_17:AC:=.seq f76_18 f76_22
theorem f76_17e:SQ f76_17 f76_18 f76_22:=rfl
def f76_9:AC:=.seq f76_10 f76_17
theorem f76_9e:SQ f76_9 f76_10 f76_17:=rfl
def f76_3:AC:=.seq f76_4 f76_9
theorem f76_3e:SQ f76_3 f76_4 f76_9:=rfl
def f76_1:AC:=.seq f76_2 f76_3
theorem f76_1e:SQ f76_1 f76_2 f76_3:=rfl
def c_f76:AFun:=⟨35,[.tmp 4,.tmp 5],f76_1⟩
theorem k_f76:bj Go.Proofs.Try.prog x_f76 76 = some c_f76:=by kernel_rfl
theorem e_f76:aQ Go.Proofs.Try.prog 76 = true:=by kernel_rfl

def n_f77:Nat:=77
def x_f77:Cx:=⟨some,id,35,fun s=>([0,1,4,5,6,7,8,10,11,13,17,18,19,20,21,27,28,30,31,32,33,34]:List Nat).contains s,fun s=>([]:List Nat).contains s,msOf [(2,[0,1],[]),(12,[0,1,9],[]),(52,[4,5],[]),(28,[0,10,11],[]),(58,[0,10,11],[]),(232,[0,10,11,12],[]),(933,[0],[]),(3736,[0,6,7,10,11],[]),(14948,[0,6,10,11,22],[]),(29898,[0],[]),(7475,[0,10,11],[]),(935,[0,10,11],[]),(30,[4,5],[])]⟩
def f77_2l:List GI:=[⟨none,.mv (some 4) (.c (.lit (.slice none 0 0)))⟩,
    ⟨none,.mv (some 5) (.c (.lit (.int .i64 0)))⟩]
def f77_2:AC:=.ops [0,1] [] f77_2l
theorem f77_2e:OP f77_2 f77_2l [0,1] []:=rfl
def f77_5l:List GI:=[vv 8 0,
    ⟨none,.call (some 9) false (.f 62) [(.r 8)]⟩]
def f77_5:AC:=.ops [0,1,9] [] f77_5l
theorem f77_5e:OP f77_5 f77_5l [0,1,9] []:=rfl
def f77_8l:List GI:=[⟨none,.mv (some 4) (.c (.lit (.slice none 0 0)))⟩,
    ⟨none,.mv (some 5) (.c (.lit (.int .i64 1)))⟩]
def f77_8:AC:=.ops [4,5] [] f77_8l
theorem f77_8e:OP f77_8 f77_8l [4,5] []:=rfl
def f77_7:AC:=.seq f77_8 .ret
theorem f77_7e:SQ f77_7 f77_8 .ret:=rfl
def f77_6:AC:=.cond (.r 9) f77_7 .skip
theorem f77_6e:CN f77_6 9 f77_7 .skip:=rfl
def f77_4:AC:=.seq f77_5 f77_6
theorem f77_4e:SQ f77_4 f77_5 f77_6:=rfl
def f77_11l:List GI:=[vv 10 1,
    ⟨none,.mv (some 11) (.c (.lit (.int .i64 0)))⟩]
def f77_11:AC:=.ops [0,10,11] [] f77_11l
theorem f77_11e:OP f77_11 f77_11l [0,10,11] []:=rfl
def f77_15l:List GI:=[⟨none,.bin (some 12) .num .lss (.r 11) (.r 10)⟩]
def f77_15:AC:=.ops [0,10,11,12] [] f77_15l
theorem f77_15e:OP f77_15 f77_15l [0,10,11,12] []:=rfl
def f77_17:AC:=.cond (.r 12) .skip (.exit [0] [] 0)
theorem f77_17e:CN f77_17 12 .skip (.exit [0] [] 0):=rfl
def f77_21l:List GI:=[vv 14 0,
    vn 15 14,
    vd 16 15 2,
    vl 17 16,
    ⟨none,.call (some 18) false (.f 83) [(.r 17)]⟩,
    vv 13 18,
    ve 19 13 0,
    ve 20 13 1,
    vo 6 19,
    vo 7 20]
def f77_21:AC:=.ops [0,6,7,10,11] [] f77_21l
theorem f77_21e:OP f77_21 f77_21l [0,6,7,10,11] []:=rfl
def f77_24l:List GI:=[vv 21 7,
    ⟨none,.un (some 22) .not (.r 21)⟩]
def f77_24:AC:=.ops [0,6,10,11,22] [] f77_24l
theorem f77_24e:OP f77_24 f77_24l [0,6,10,11,22] []:=rfl
def f77_25:AC:=.cond (.r 22) (.exit [0] [] 0) .skip
theorem f77_25e:CN f77_25 22 (.exit [0] [] 0) .skip:=rfl
def f77_23:AC:=.seq f77_24 f77_25
theorem f77_23e:SQ f77_23 f77_24 f77_25:=rfl
def f77_26l:List GI:=[vv 23 0,
    vn 24 23,
    vd 25 24 0,
    vd 26 25 1,
    vl 27 26,
    vv 28 6,
    ⟨none,.call (some 29) false (.f 65) [(.r 27),(.r 28)]⟩]
def f77_26:AC:=.ops [0,10,11] [] f77_26l
theorem f77_26e:OP f77_26 f77_26l [0,10,11] []:=rfl
def f77_22:AC:=.seq f77_23 f77_26
theorem f77_22e:SQ f77_22 f77_23 f77_26:=rfl
def f77_20:AC:=.seq f77_21 f77_22
theorem f77_20e:SQ f77_20 f77_21 f77_22:=rfl
def f77_19:AC:=.block 1 f77_20
theorem f77_19e:BL f77_19 f77_20 1:=rfl
def f77_27l:List GI:=[vb 30 .add 11 1,
    vv 11 30]
def f77_27:AC:=.ops [0,10,11] [] f77_27l
theorem f77_27e:OP f77_27 f77_27l [0,10,11] []:=rfl
def f77_18:AC:=.seq f77_19 f77_27
theorem f77_18e:SQ f77_18 f77_19 f77_27:=rfl
def f77_16:AC:=.seq f77_17 f77_18
theorem f77_16e:SQ f77_16 f77_17 f77_18:=rfl
def f77_14:AC:=.seq f77_15 f77_16
theorem f77_14e:SQ f77_14 f77_15 f77_16:=rfl
def f77_13:AC:=.loop [0,10,11] [] f77_14
theorem f77_13w:aC P id m f77_13 sf st Q = cO (aC P id m f77_14) [0,10,11] [] sf st Q:=rfl
def f77_12:AC:=.block 0 f77_13
theorem f77_12e:BL f77_12 f77_13 0:=rfl
def f77_10:AC:=.seq f77_11 f77_12
theorem f77_10e:SQ f77_10 f77_11 f77_12:=rfl
def f77_29l:List GI:=[vv 31 0,
    vn 32 31,
    vd 33 32 0,
    ⟨none,.call (some 34) false (.f 72) [(.r 33)]⟩,
    vo 4 34,
    ⟨none,.mv (some 5) (.c (.lit (.int .i64 0)))⟩]
def f77_29:AC:=.ops [4,5] [] f77_29l
theorem f77_29e:OP f77_29 f77_29l [4,5] []:=rfl
def f77_28:AC:=.seq f77_29 .ret
theorem f77_28e:SQ f77_28 f77_29 .ret:=rfl
def f77_9:AC:=.seq f77_10 f77_28
theorem f77_9e:SQ f77_9 f77_10 f77_28:=rfl
def f77_3:AC:=.seq f77_4 f77_9
theorem f77_3e:SQ f77_3 f77_4 f77_9:=rfl
def f77_1:AC:=.seq f77_2 f77_3
theorem f77_1e:SQ f77_1 f77_2 f77_3:=rfl
def c_f77:AFun:=⟨35,[.tmp 4,.tmp 5],f77_1⟩
theorem k_f77:bj Go.Proofs.Try.prog x_f77 77 = some c_f77:=by kernel_rfl
theorem e_f77:aQ Go.Proofs.Try.prog 77 = true:=by kernel_rfl

def n_f78:Nat:=78
def x_f78:Cx:=⟨some,id,4,fun s=>([0,1,2,3]:List Nat).contains s,fun s=>([]:List Nat).contains s,msOf [(2,[],[]),(6,[0],[])]⟩
def f78_2l:List GI:=[⟨none,.mv (some 0) (.c (.lit (.pointer none)))⟩]
def f78_2:AC:=.ops [] [] f78_2l
theorem f78_2e:OP f78_2 f78_2l [] []:=rfl
def f78_4l:List GI:=[⟨none,.mkmap 1⟩,
    ⟨none,.bst (some 2) [(0,3),(3,1)] (.agg [(.lit (.int .u64 0)),(.lit (.int .u64 0)),(.lit (.int .u64 0)),(.lit (.map none))]) [(1,(.r 1))]⟩,
    ⟨none,.boxB 3 4 (.r 2)⟩,
    vo 0 3]
def f78_4:AC:=.ops [0] [] f78_4l
theorem f78_4e:OP f78_4 f78_4l [0] []:=rfl
def f78_3:AC:=.seq f78_4 .ret
theorem f78_3e:SQ f78_3 f78_4 .ret:=rfl
def f78_1:AC:=.seq f78_2 f78_3
theorem f78_1e:SQ f78_1 f78_2 f78_3:=rfl
def c_f78:AFun:=⟨4,[.tmp 0],f78_1⟩
theorem k_f78:bj Go.Proofs.Try.prog x_f78 78 = some c_f78:=by kernel_rfl
theorem e_f78:aQ Go.Proofs.Try.prog 78 = true:=by kernel_rfl

def n_f79:Nat:=79
def x_f79:Cx:=⟨some,id,12,fun s=>([0,2,3,4,5,9,10,11]:List Nat).contains s,fun s=>([]:List Nat).contains s,msOf [(2,[0],[]),(6,[2],[])]⟩
def f79_2l:List GI:=[⟨none,.mv (some 2) (.c (.lit (.bool false)))⟩]
def f79_2:AC:=.ops [0] [] f79_2l
theorem f79_2e:OP f79_2 f79_2l [0] []:=rfl
def f79_4l:List GI:=[vv 3 0,
    ⟨none,.bin (some 4) (.nil .ptr) .eql (.r 3) (.c (.lit (.pointer none)))⟩,
    vv 5 4,
    ⟨some (5,false),.mv (some 6) (.r 0)⟩,
    ⟨some (5,false),.nilck (some 7) (.r 6)⟩,
    ⟨some (5,false),.addr (some 8) (.r 7) 3⟩,
    ⟨some (5,false),.load (some 9) (.r 8) none⟩,
    ⟨some (5,false),.bin (some 10) (.nil .mp) .eql (.r 9) (.c (.lit (.map none)))⟩,
    ⟨none,.pick (some 11) (.r 5) (.c (.lit (.bool true))) (.r 10)⟩,
    vo 2 11]
def f79_4:AC:=.ops [2] [] f79_4l
theorem f79_4e:OP f79_4 f79_4l [2] []:=rfl
def f79_3:AC:=.seq f79_4 .ret
theorem f79_3e:SQ f79_3 f79_4 .ret:=rfl
def f79_1:AC:=.seq f79_2 f79_3
theorem f79_1e:SQ f79_1 f79_2 f79_3:=rfl
def c_f79:AFun:=⟨12,[.tmp 2],f79_1⟩
theorem k_f79:bj Go.Proofs.Try.prog x_f79 79 = some c_f79:=by kernel_rfl
theorem e_f79:aQ Go.Proofs.Try.prog 79 = true:=by kernel_rfl

def n_f80:Nat:=80
def x_f80:Cx:=⟨some,id,16,fun s=>([0,2,3,8,12,13,14,15]:List Nat).contains s,fun s=>([13]:List Nat).contains s,msOf [(2,[0],[]),(12,[0,4],[]),(52,[2],[]),(14,[2],[])]⟩
def f80_2l:List GI:=[⟨none,.mv (some 2) (.c (.lit (.pointer none)))⟩]
def f80_2:AC:=.ops [0] [] f80_2l
theorem f80_2e:OP f80_2 f80_2l [0] []:=rfl
def f80_5l:List GI:=[vv 3 0,
    ⟨none,.call (some 4) false (.f 79) [(.r 3)]⟩]
def f80_5:AC:=.ops [0,4] [] f80_5l
theorem f80_5e:OP f80_5 f80_5l [0,4] []:=rfl
def f80_8l:List GI:=[⟨none,.mv (some 2) (.c (.lit (.pointer none)))⟩]
def f80_8:AC:=.ops [2] [] f80_8l
theorem f80_8e:OP f80_8 f80_8l [2] []:=rfl
def f80_7:AC:=.seq f80_8 .ret
theorem f80_7e:SQ f80_7 f80_8 .ret:=rfl
def f80_6:AC:=.cond (.r 4) f80_7 .skip
theorem f80_6e:CN f80_6 4 f80_7 .skip:=rfl
def f80_4:AC:=.seq f80_5 f80_6
theorem f80_4e:SQ f80_4 f80_5 f80_6:=rfl
def f80_10h:List GI:=[vv 5 0,
    vn 6 5,
    vd 7 6 0,
    ⟨none,.load (some 8) (.r 7) (some 3)⟩,
    vv 9 0,
    vn 10 9,
    vd 11 10 3,
    vl 12 11]
def f80_10p:List (Bool×GI):=[]
def f80_10l:List GI:=[⟨none,.bst (some 14) [(0,3),(3,1)] (.agg [(.lit (.int .u64 0)),(.lit (.int .u64 0)),(.lit (.int .u64 0)),(.lit (.map none))]) [(0,(.r 8)),(1,(.r 13))]⟩,
    ⟨none,.boxB 15 4 (.r 14)⟩,
    vo 2 15]
def f80_10:AC:=.drawM [2] [] f80_10h (some 13) (.f 85) [(.r 12)] f80_10p f80_10l
theorem f80_10e:aC P id m f80_10 sf st Q = (m = false∧drawM P id f80_10h (some 13) (.f 85) [(.r 12)] f80_10p sf st (im P id m [2] [] f80_10l Q)):=rfl
def f80_9:AC:=.seq f80_10 .ret
theorem f80_9e:SQ f80_9 f80_10 .ret:=rfl
def f80_3:AC:=.seq f80_4 f80_9
theorem f80_3e:SQ f80_3 f80_4 f80_9:=rfl
def f80_1:AC:=.seq f80_2 f80_3
theorem f80_1e:SQ f80_1 f80_2 f80_3:=rfl
def c_f80:AFun:=⟨16,[.tmp 2],f80_1⟩
theorem k_f80:bj Go.Proofs.Try.prog x_f80 80 = some c_f80:=by kernel_rfl
theorem e_f80:aQ Go.Proofs.Try.prog 80 = true:=by kernel_rfl

def n_f81:Nat:=81
def x_f81:Cx:=⟨some,id,17,fun s=>([1,4,6,7,11,12,13,14,15,16]:List Nat).contains s,fun s=>([]:List Nat).contains s,msOf [(2,[0,1],[]),(6,[6],[]),(14,[4],[])]⟩
def f81_2l:List GI:=[⟨none,.mv (some 4) (.c (.lit (.bool false)))⟩]
def f81_2:AC:=.ops [0,1] [] f81_2l
theorem f81_2e:OP f81_2 f81_2l [0,1] []:=rfl
def f81_4l:List GI:=[vv 8 0,
    vn 9 8,
    vd 10 9 1,
    vl 11 10,
    vv 12 1,
    ⟨none,.lookup (some 13) (.int .i64) (.lit (.int .u64 0)) true (.r 11) (.r 12)⟩,
    vv 7 13,
    ve 14 7 0,
    ve 15 7 1,
    vo 5 14,
    vo 6 15]
def f81_4:AC:=.ops [6] [] f81_4l
theorem f81_4e:OP f81_4 f81_4l [6] []:=rfl
def f81_6l:List GI:=[vv 16 6,
    vo 4 16]
def f81_6:AC:=.ops [4] [] f81_6l
theorem f81_6e:OP f81_6 f81_6l [4] []:=rfl
def f81_5:AC:=.seq f81_6 .ret
theorem f81_5e:SQ f81_5 f81_6 .ret:=rfl
def f81_3:AC:=.seq f81_4 f81_5
theorem f81_3e:SQ f81_3 f81_4 f81_5:=rfl
def f81_1:AC:=.seq f81_2 f81_3
theorem f81_1e:SQ f81_1 f81_2 f81_3:=rfl
def c_f81:AFun:=⟨17,[.tmp 4],f81_1⟩
theorem k_f81:bj Go.Proofs.Try.prog x_f81 81 = some c_f81:=by kernel_rfl
theorem e_f81:aQ Go.Proofs.Try.prog 81 = true:=by kernel_rfl

def n_f82:Nat:=82
def x_f82:Cx:=⟨some,id,97,fun s=>([0,1,4,5,8,9,14,15,16,21,22,29,34,35,40,41,46,53,60,65,66,71,76,81,82,88,96]:List Nat).contains s,fun s=>([]:List Nat).contains s,msOf [(2,[0,1],[]),(24,[0,1,7],[]),(100,[4,5],[]),(102,[0,1,10],[]),(412,[4,5],[]),(14,[0,1],[]),(30,[0],[]),(124,[0,47],[]),(250,[0],[]),(502,[0,6],[6]),(1006,[0,6],[6]),(1007,[0],[]),(126,[0],[]),(254,[4,5],[])]⟩
def f82_2l:List GI:=[⟨none,.mv (some 4) (.c (.lit (.int .u64 0)))⟩,
    ⟨none,.mv (some 5) (.c (.lit (.int .i64 0)))⟩]
def f82_2:AC:=.ops [0,1] [] f82_2l
theorem f82_2e:OP f82_2 f82_2l [0,1] []:=rfl
def f82_6l:List GI:=[vv 8 0,
    ⟨none,.call (some 9) false (.f 79) [(.r 8)]⟩,
    vo 7 9]
def f82_6:AC:=.ops [0,1,7] [] f82_6l
theorem f82_6e:OP f82_6 f82_6l [0,1,7] []:=rfl
def f82_9l:List GI:=[⟨none,.mv (some 4) (.c (.lit (.int .u64 0)))⟩,
    ⟨none,.mv (some 5) (.c (.lit (.int .i64 1)))⟩]
def f82_9:AC:=.ops [4,5] [] f82_9l
theorem f82_9e:OP f82_9 f82_9l [4,5] []:=rfl
def f82_8:AC:=.seq f82_9 .ret
theorem f82_8e:SQ f82_8 f82_9 .ret:=rfl
def f82_11l:List GI:=[vv 11 0,
    vn 12 11,
    vd 13 12 3,
    vl 14 13,
    ⟨none,.len (some 15) .mp (.r 14)⟩,
    vb 16 .geq 15 4096,
    vo 10 16]
def f82_11:AC:=.ops [0,1,10] [] f82_11l
theorem f82_11e:OP f82_11 f82_11l [0,1,10] []:=rfl
def f82_14l:List GI:=[⟨none,.mv (some 4) (.c (.lit (.int .u64 0)))⟩,
    ⟨none,.mv (some 5) (.c (.lit (.int .i64 7)))⟩]
def f82_14:AC:=.ops [4,5] [] f82_14l
theorem f82_14e:OP f82_14 f82_14l [4,5] []:=rfl
def f82_13:AC:=.seq f82_14 .ret
theorem f82_13e:SQ f82_13 f82_14 .ret:=rfl
def f82_12:AC:=.cond (.r 10) f82_13 .skip
theorem f82_12e:CN f82_12 10 f82_13 .skip:=rfl
def f82_10:AC:=.seq f82_11 f82_12
theorem f82_10e:SQ f82_10 f82_11 f82_12:=rfl
def f82_7:AC:=.cond (.r 7) f82_8 f82_10
theorem f82_7e:CN f82_7 7 f82_8 f82_10:=rfl
def f82_5:AC:=.seq f82_6 f82_7
theorem f82_5e:SQ f82_5 f82_6 f82_7:=rfl
def f82_4:AC:=.block 0 f82_5
theorem f82_4e:BL f82_4 f82_5 0:=rfl
def f82_16l:List GI:=[vv 17 0,
    vn 18 17,
    vd 19 18 0,
    vd 20 19 2,
    vl 21 20,
    ⟨none,.bin (some 22) .num .add (.r 21) (.c (.lit (.int .u64 1)))⟩,
    vn 23 17,
    vd 24 23 0,
    vd 25 24 2,
    ⟨none,.store 1 (.r 25) (.r 22)⟩]
def f82_16:AC:=.ops [0,1] [] f82_16l
theorem f82_16e:OP f82_16 f82_16l [0,1] []:=rfl
def f82_18h:List GI:=[vv 26 0,
    vn 27 26,
    vd 28 27 3,
    vl 29 28,
    vv 30 0,
    vn 31 30,
    vd 32 31 0,
    vd 33 32 2,
    vl 34 33,
    vv 35 1,
    vv 36 0,
    vn 37 36,
    vd 38 37 0,
    vd 39 38 1,
    vl 40 39,
    ⟨none,.bst (some 41) [(0,1),(1,1),(2,1)] (.agg [(.lit (.int .i64 0)),(.lit (.int .u64 0)),(.lit (.int .u64 0))]) [(0,(.r 35)),(1,(.r 40))]⟩]
def f82_18l:List GI:=[⟨none,.upd (.int .u64) (.r 29) (.r 34) (.r 41)⟩]
def f82_18:AC:=.draw [0] [] [] f82_18h f82_18l
theorem f82_18e:aC P id m f82_18 sf st Q = bD P id sf.locs st f82_18h (cR P id m [] [0] [] f82_18l Q st) [] ⟨sf.regs,br [] sf.locs⟩:=rfl
def f82_21l:List GI:=[vv 42 0,
    vn 43 42,
    vd 44 43 0,
    vd 45 44 1,
    vl 46 45,
    ⟨none,.bin (some 47) .num .eql (.r 46) (.c (.lit (.int .u64 0)))⟩]
def f82_21:AC:=.ops [0,47] [] f82_21l
theorem f82_21e:OP f82_21 f82_21l [0,47] []:=rfl
def f82_23l:List GI:=[vv 48 0,
    vv 49 0,
    vn 50 49,
    vd 51 50 0,
    vd 52 51 2,
    vl 53 52,
    vn 54 48,
    vd 55 54 0,
    vd 56 55 0,
    ⟨none,.store 1 (.r 56) (.r 53)⟩]
def f82_23:AC:=.ops [0] [] f82_23l
theorem f82_23e:OP f82_23 f82_23l [0] []:=rfl
def f82_25h:List GI:=[vv 57 0,
    vn 58 57,
    vd 59 58 3,
    vl 60 59,
    vv 61 0,
    vn 62 61,
    vd 63 62 0,
    vd 64 63 1,
    vl 65 64,
    ⟨none,.lookup (some 66) (.int .u64) (.agg [(.lit (.int .i64 0)),(.lit (.int .u64 0)),(.lit (.int .u64 0))]) false (.r 60) (.r 65)⟩,
    ⟨none,.newL 6 [(.lit (.int .i64 0)),(.lit (.int .u64 0)),(.lit (.int .u64 0))]⟩]
def f82_25l:List GI:=[⟨none,.store 3 (.r 6) (.r 66)⟩]
def f82_25:AC:=.draw [0,6] [6] [6] f82_25h f82_25l
theorem f82_25e:aC P id m f82_25 sf st Q = bD P id sf.locs st f82_25h (cR P id m [6] [0,6] [6] f82_25l Q st) [] ⟨sf.regs,br [6] sf.locs⟩:=rfl
def f82_27l:List GI:=[vv 67 0,
    vn 68 67,
    vd 69 68 0,
    vd 70 69 2,
    vl 71 70,
    vd 72 6 2,
    ⟨none,.store 1 (.r 72) (.r 71)⟩]
def f82_27:AC:=.ops [0,6] [6] f82_27l
theorem f82_27e:OP f82_27 f82_27l [0,6] [6]:=rfl
def f82_28h:List GI:=[vv 73 0,
    vn 74 73,
    vd 75 74 3,
    vl 76 75,
    vv 77 0,
    vn 78 77,
    vd 79 78 0,
    vd 80 79 1,
    vl 81 80,
    ⟨none,.load (some 82) (.r 6) (some 3)⟩]
def f82_28l:List GI:=[⟨none,.upd (.int .u64) (.r 76) (.r 81) (.r 82)⟩]
def f82_28:AC:=.draw [0] [] [] f82_28h f82_28l
theorem f82_28e:aC P id m f82_28 sf st Q = bD P id sf.locs st f82_28h (cR P id m [] [0] [] f82_28l Q st) [] ⟨sf.regs,br [] sf.locs⟩:=rfl
def f82_26:AC:=.seq f82_27 f82_28
theorem f82_26e:SQ f82_26 f82_27 f82_28:=rfl
def f82_24:AC:=.seq f82_25 f82_26
theorem f82_24e:SQ f82_24 f82_25 f82_26:=rfl
def f82_22:AC:=.cond (.r 47) f82_23 f82_24
theorem f82_22e:CN f82_22 47 f82_23 f82_24:=rfl
def f82_20:AC:=.seq f82_21 f82_22
theorem f82_20e:SQ f82_20 f82_21 f82_22:=rfl
def f82_30l:List GI:=[vv 83 0,
    vv 84 0,
    vn 85 84,
    vd 86 85 0,
    vd 87 86 2,
    vl 88 87,
    vn 89 83,
    vd 90 89 0,
    vd 91 90 1,
    ⟨none,.store 1 (.r 91) (.r 88)⟩]
def f82_30:AC:=.ops [0] [] f82_30l
theorem f82_30e:OP f82_30 f82_30l [0] []:=rfl
def f82_32l:List GI:=[vv 92 0,
    vn 93 92,
    vd 94 93 0,
    vd 95 94 2,
    vl 96 95,
    vo 4 96,
    ⟨none,.mv (some 5) (.c (.lit (.int .i64 0)))⟩]
def f82_32:AC:=.ops [4,5] [] f82_32l
theorem f82_32e:OP f82_32 f82_32l [4,5] []:=rfl
def f82_31:AC:=.seq f82_32 .ret
theorem f82_31e:SQ f82_31 f82_32 .ret:=rfl
def f82_29:AC:=.seq f82_30 f82_31
theorem f82_29e:SQ f82_29 f82_30 f82_31:=rfl
def f82_19:AC:=.seq f82_20 f82_29
theorem f82_19e:SQ f82_19 f82_20 f82_29:=rfl
def f82_17:AC:=.seq f82_18 f82_19
theorem f82_17e:SQ f82_17 f82_18 f82_19:=rfl
def f82_15:AC:=.seq f82_16 f82_17
theorem f82_15e:SQ f82_15 f82_16 f82_17:=rfl
def f82_3:AC:=.seq f82_4 f82_15
theorem f82_3e:SQ f82_3 f82_4 f82_15:=rfl
def f82_1:AC:=.seq f82_2 f82_3
theorem f82_1e:SQ f82_1 f82_2 f82_3:=rfl
def c_f82:AFun:=⟨97,[.tmp 4,.tmp 5],f82_1⟩
theorem k_f82:bj Go.Proofs.Try.prog x_f82 82 = some c_f82:=by kernel_rfl
theorem e_f82:aQ Go.Proofs.Try.prog 82 = true:=by kernel_rfl

def n_f83:Nat:=83
def x_f83:Cx:=⟨some,id,24,fun s=>([2,3,4,6,7,11,12,13,14,15,19,20,21,22,23]:List Nat).contains s,fun s=>([]:List Nat).contains s,msOf [(2,[0],[]),(6,[0,4,6],[]),(14,[4,6],[]),(30,[2,3],[])]⟩
def f83_2l:List GI:=[⟨none,.mv (some 2) (.c (.lit (.int .i64 0)))⟩,
    ⟨none,.mv (some 3) (.c (.lit (.bool false)))⟩]
def f83_2:AC:=.ops [0] [] f83_2l
theorem f83_2e:OP f83_2 f83_2l [0] []:=rfl
def f83_4l:List GI:=[vv 8 0,
    vn 9 8,
    vd 10 9 0,
    vl 11 10,
    ⟨none,.call (some 12) false (.f 86) [(.r 11)]⟩,
    vv 7 12,
    ve 13 7 0,
    ve 14 7 1,
    ve 15 7 2,
    vo 4 13,
    vo 5 14,
    vo 6 15]
def f83_4:AC:=.ops [0,4,6] [] f83_4l
theorem f83_4e:OP f83_4 f83_4l [0,4,6] []:=rfl
def f83_6l:List GI:=[vv 16 0,
    vn 17 16,
    vd 18 17 1,
    vl 19 18,
    vv 20 4,
    ⟨none,.del (.int .i64) (.r 19) (.r 20)⟩]
def f83_6:AC:=.ops [4,6] [] f83_6l
theorem f83_6e:OP f83_6 f83_6l [4,6] []:=rfl
def f83_8l:List GI:=[vv 21 4,
    vv 22 6,
    vb 23 .eql 22 0,
    vo 2 21,
    vo 3 23]
def f83_8:AC:=.ops [2,3] [] f83_8l
theorem f83_8e:OP f83_8 f83_8l [2,3] []:=rfl
def f83_7:AC:=.seq f83_8 .ret
theorem f83_7e:SQ f83_7 f83_8 .ret:=rfl
def f83_5:AC:=.seq f83_6 f83_7
theorem f83_5e:SQ f83_5 f83_6 f83_7:=rfl
def f83_3:AC:=.seq f83_4 f83_5
theorem f83_3e:SQ f83_3 f83_4 f83_5:=rfl
def f83_1:AC:=.seq f83_2 f83_3
theorem f83_1e:SQ f83_1 f83_2 f83_3:=rfl
def c_f83:AFun:=⟨24,[.tmp 2,.tmp 3],f83_1⟩
theorem k_f83:bj Go.Proofs.Try.prog x_f83 83 = some c_f83:=by kernel_rfl
theorem e_f83:aQ Go.Proofs.Try.prog 83 = true:=by kernel_rfl

def n_f84:Nat:=84
def x_f84:Cx:=⟨some,id,82,fun s=>([0,1,4,5,7,10,12,16,17,18,19,20,21,26,27,29,33,40,42,43,45,50,52,53,55,59,66,68,69,71,76,78,79,81]:List Nat).contains s,fun s=>([]:List Nat).contains s,msOf [(2,[0,1],[]),(12,[0,1,11],[]),(52,[4,5],[]),(14,[0,1,6,7],[6]),(60,[0,1,6,22],[6]),(244,[4,5],[]),(62,[0,6],[6]),(252,[0,6,30],[6]),(506,[0,6],[6]),(1014,[0,6,8],[6,8]),(2030,[0,6,8],[6,8]),(2031,[0,6],[6]),(508,[0,6,56],[6]),(1018,[6],[6]),(2038,[0,6,9],[6,9]),(4078,[0,6,9],[6,9]),(4079,[6],[6]),(510,[4,5],[])]⟩
def f84_2l:List GI:=[⟨none,.mv (some 4) (.c (.lit (.int .i64 0)))⟩,
    ⟨none,.mv (some 5) (.c (.lit (.int .i64 0)))⟩]
def f84_2:AC:=.ops [0,1] [] f84_2l
theorem f84_2e:OP f84_2 f84_2l [0,1] []:=rfl
def f84_5l:List GI:=[vv 10 0,
    ⟨none,.call (some 11) false (.f 79) [(.r 10)]⟩]
def f84_5:AC:=.ops [0,1,11] [] f84_5l
theorem f84_5e:OP f84_5 f84_5l [0,1,11] []:=rfl
def f84_8l:List GI:=[⟨none,.mv (some 4) (.c (.lit (.int .i64 0)))⟩,
    ⟨none,.mv (some 5) (.c (.lit (.int .i64 1)))⟩]
def f84_8:AC:=.ops [4,5] [] f84_8l
theorem f84_8e:OP f84_8 f84_8l [4,5] []:=rfl
def f84_7:AC:=.seq f84_8 .ret
theorem f84_7e:SQ f84_7 f84_8 .ret:=rfl
def f84_6:AC:=.cond (.r 11) f84_7 .skip
theorem f84_6e:CN f84_6 11 f84_7 .skip:=rfl
def f84_4:AC:=.seq f84_5 f84_6
theorem f84_4e:SQ f84_4 f84_5 f84_6:=rfl
def f84_10l:List GI:=[vv 13 0,
    vn 14 13,
    vd 15 14 3,
    vl 16 15,
    vv 17 1,
    ⟨none,.lookup (some 18) (.int .u64) (.agg [(.lit (.int .i64 0)),(.lit (.int .u64 0)),(.lit (.int .u64 0))]) true (.r 16) (.r 17)⟩,
    vv 12 18,
    ve 19 12 0,
    ve 20 12 1,
    ⟨none,.newL 6 [(.lit (.int .i64 0)),(.lit (.int .u64 0)),(.lit (.int .u64 0))]⟩,
    ⟨none,.store 3 (.r 6) (.r 19)⟩,
    vo 7 20]
def f84_10:AC:=.ops [0,1,6,7] [6] f84_10l
theorem f84_10e:OP f84_10 f84_10l [0,1,6,7] [6]:=rfl
def f84_13l:List GI:=[vv 21 7,
    ⟨none,.un (some 22) .not (.r 21)⟩]
def f84_13:AC:=.ops [0,1,6,22] [6] f84_13l
theorem f84_13e:OP f84_13 f84_13l [0,1,6,22] [6]:=rfl
def f84_16l:List GI:=[⟨none,.mv (some 4) (.c (.lit (.int .i64 0)))⟩,
    ⟨none,.mv (some 5) (.c (.lit (.int .i64 9)))⟩]
def f84_16:AC:=.ops [4,5] [] f84_16l
theorem f84_16e:OP f84_16 f84_16l [4,5] []:=rfl
def f84_15:AC:=.seq f84_16 .ret
theorem f84_15e:SQ f84_15 f84_16 .ret:=rfl
def f84_14:AC:=.cond (.r 22) f84_15 .skip
theorem f84_14e:CN f84_14 22 f84_15 .skip:=rfl
def f84_12:AC:=.seq f84_13 f84_14
theorem f84_12e:SQ f84_12 f84_13 f84_14:=rfl
def f84_18l:List GI:=[vv 23 0,
    vn 24 23,
    vd 25 24 3,
    vl 26 25,
    vv 27 1,
    ⟨none,.del (.int .u64) (.r 26) (.r 27)⟩]
def f84_18:AC:=.ops [0,6] [6] f84_18l
theorem f84_18e:OP f84_18 f84_18l [0,6] [6]:=rfl
def f84_21l:List GI:=[vd 28 6 1,
    vl 29 28,
    ⟨none,.bin (some 30) .num .eql (.r 29) (.c (.lit (.int .u64 0)))⟩]
def f84_21:AC:=.ops [0,6,30] [6] f84_21l
theorem f84_21e:OP f84_21 f84_21l [0,6,30] [6]:=rfl
def f84_23l:List GI:=[vv 31 0,
    vd 32 6 2,
    vl 33 32,
    vn 34 31,
    vd 35 34 0,
    vd 36 35 0,
    ⟨none,.store 1 (.r 36) (.r 33)⟩]
def f84_23:AC:=.ops [0,6] [6] f84_23l
theorem f84_23e:OP f84_23 f84_23l [0,6] [6]:=rfl
def f84_25h:List GI:=[vv 37 0,
    vn 38 37,
    vd 39 38 3,
    vl 40 39,
    vd 41 6 1,
    vl 42 41,
    ⟨none,.lookup (some 43) (.int .u64) (.agg [(.lit (.int .i64 0)),(.lit (.int .u64 0)),(.lit (.int .u64 0))]) false (.r 40) (.r 42)⟩,
    ⟨none,.newL 8 [(.lit (.int .i64 0)),(.lit (.int .u64 0)),(.lit (.int .u64 0))]⟩]
def f84_25l:List GI:=[⟨none,.store 3 (.r 8) (.r 43)⟩]
def f84_25:AC:=.draw [0,6,8] [6,8] [8] f84_25h f84_25l
theorem f84_25e:aC P id m f84_25 sf st Q = bD P id sf.locs st f84_25h (cR P id m [8] [0,6,8] [6,8] f84_25l Q st) [] ⟨sf.regs,br [8] sf.locs⟩:=rfl
def f84_27l:List GI:=[vd 44 6 2,
    vl 45 44,
    vd 46 8 2,
    ⟨none,.store 1 (.r 46) (.r 45)⟩]
def f84_27:AC:=.ops [0,6,8] [6,8] f84_27l
theorem f84_27e:OP f84_27 f84_27l [0,6,8] [6,8]:=rfl
def f84_28h:List GI:=[vv 47 0,
    vn 48 47,
    vd 49 48 3,
    vl 50 49,
    vd 51 6 1,
    vl 52 51,
    ⟨none,.load (some 53) (.r 8) (some 3)⟩]
def f84_28l:List GI:=[⟨none,.upd (.int .u64) (.r 50) (.r 52) (.r 53)⟩]
def f84_28:AC:=.draw [0,6] [6] [] f84_28h f84_28l
theorem f84_28e:aC P id m f84_28 sf st Q = bD P id sf.locs st f84_28h (cR P id m [] [0,6] [6] f84_28l Q st) [] ⟨sf.regs,br [] sf.locs⟩:=rfl
def f84_26:AC:=.seq f84_27 f84_28
theorem f84_26e:SQ f84_26 f84_27 f84_28:=rfl
def f84_24:AC:=.seq f84_25 f84_26
theorem f84_24e:SQ f84_24 f84_25 f84_26:=rfl
def f84_22:AC:=.cond (.r 30) f84_23 f84_24
theorem f84_22e:CN f84_22 30 f84_23 f84_24:=rfl
def f84_20:AC:=.seq f84_21 f84_22
theorem f84_20e:SQ f84_20 f84_21 f84_22:=rfl
def f84_31l:List GI:=[vd 54 6 2,
    vl 55 54,
    ⟨none,.bin (some 56) .num .eql (.r 55) (.c (.lit (.int .u64 0)))⟩]
def f84_31:AC:=.ops [0,6,56] [6] f84_31l
theorem f84_31e:OP f84_31 f84_31l [0,6,56] [6]:=rfl
def f84_33l:List GI:=[vv 57 0,
    vd 58 6 1,
    vl 59 58,
    vn 60 57,
    vd 61 60 0,
    vd 62 61 1,
    ⟨none,.store 1 (.r 62) (.r 59)⟩]
def f84_33:AC:=.ops [6] [6] f84_33l
theorem f84_33e:OP f84_33 f84_33l [6] [6]:=rfl
def f84_35h:List GI:=[vv 63 0,
    vn 64 63,
    vd 65 64 3,
    vl 66 65,
    vd 67 6 2,
    vl 68 67,
    ⟨none,.lookup (some 69) (.int .u64) (.agg [(.lit (.int .i64 0)),(.lit (.int .u64 0)),(.lit (.int .u64 0))]) false (.r 66) (.r 68)⟩,
    ⟨none,.newL 9 [(.lit (.int .i64 0)),(.lit (.int .u64 0)),(.lit (.int .u64 0))]⟩]
def f84_35l:List GI:=[⟨none,.store 3 (.r 9) (.r 69)⟩]
def f84_35:AC:=.draw [0,6,9] [6,9] [9] f84_35h f84_35l
theorem f84_35e:aC P id m f84_35 sf st Q = bD P id sf.locs st f84_35h (cR P id m [9] [0,6,9] [6,9] f84_35l Q st) [] ⟨sf.regs,br [9] sf.locs⟩:=rfl
def f84_37l:List GI:=[vd 70 6 1,
    vl 71 70,
    vd 72 9 1,
    ⟨none,.store 1 (.r 72) (.r 71)⟩]
def f84_37:AC:=.ops [0,6,9] [6,9] f84_37l
theorem f84_37e:OP f84_37 f84_37l [0,6,9] [6,9]:=rfl
def f84_38h:List GI:=[vv 73 0,
    vn 74 73,
    vd 75 74 3,
    vl 76 75,
    vd 77 6 2,
    vl 78 77,
    ⟨none,.load (some 79) (.r 9) (some 3)⟩]
def f84_38l:List GI:=[⟨none,.upd (.int .u64) (.r 76) (.r 78) (.r 79)⟩]
def f84_38:AC:=.draw [6] [6] [] f84_38h f84_38l
theorem f84_38e:aC P id m f84_38 sf st Q = bD P id sf.locs st f84_38h (cR P id m [] [6] [6] f84_38l Q st) [] ⟨sf.regs,br [] sf.locs⟩:=rfl
def f84_36:AC:=.seq f84_37 f84_38
theorem f84_36e:SQ f84_36 f84_37 f84_38:=rfl
def f84_34:AC:=.seq f84_35 f84_36
theorem f84_34e:SQ f84_34 f84_35 f84_36:=rfl
def f84_32:AC:=.cond (.r 56) f84_33 f84_34
theorem f84_32e:CN f84_32 56 f84_33 f84_34:=rfl
def f84_30:AC:=.seq f84_31 f84_32
theorem f84_30e:SQ f84_30 f84_31 f84_32:=rfl
def f84_40l:List GI:=[vd 80 6 0,
    vl 81 80,
    vo 4 81,
    ⟨none,.mv (some 5) (.c (.lit (.int .i64 0)))⟩]
def f84_40:AC:=.ops [4,5] [] f84_40l
theorem f84_40e:OP f84_40 f84_40l [4,5] []:=rfl
def f84_39:AC:=.seq f84_40 .ret
theorem f84_39e:SQ f84_39 f84_40 .ret:=rfl
def f84_29:AC:=.seq f84_30 f84_39
theorem f84_29e:SQ f84_29 f84_30 f84_39:=rfl
def f84_19:AC:=.seq f84_20 f84_29
theorem f84_19e:SQ f84_19 f84_20 f84_29:=rfl
def f84_17:AC:=.seq f84_18 f84_19
theorem f84_17e:SQ f84_17 f84_18 f84_19:=rfl
def f84_11:AC:=.seq f84_12 f84_17
theorem f84_11e:SQ f84_11 f84_12 f84_17:=rfl
def f84_9:AC:=.seq f84_10 f84_11
theorem f84_9e:SQ f84_9 f84_10 f84_11:=rfl
def f84_3:AC:=.seq f84_4 f84_9
theorem f84_3e:SQ f84_3 f84_4 f84_9:=rfl
def f84_1:AC:=.seq f84_2 f84_3
theorem f84_1e:SQ f84_1 f84_2 f84_3:=rfl
def c_f84:AFun:=⟨82,[.tmp 4,.tmp 5],f84_1⟩
theorem k_f84:bj Go.Proofs.Try.prog x_f84 84 = some c_f84:=by kernel_rfl
theorem e_f84:aQ Go.Proofs.Try.prog 84 = true:=by kernel_rfl

def n_f85:Nat:=85
def x_f85:Cx:=⟨some,id,9,fun s=>([0,2,3,5,6,7,8]:List Nat).contains s,fun s=>([]:List Nat).contains s,msOf [(2,[0],[]),(12,[0,4],[]),(52,[2],[]),(14,[2],[])]⟩
def f85_2l:List GI:=[⟨none,.mv (some 2) (.c (.lit (.map none)))⟩]
def f85_2:AC:=.ops [0] [] f85_2l
theorem f85_2e:OP f85_2 f85_2l [0] []:=rfl
def f85_5l:List GI:=[vv 3 0,
    ⟨none,.bin (some 4) (.nil .mp) .eql (.r 3) (.c (.lit (.map none)))⟩]
def f85_5:AC:=.ops [0,4] [] f85_5l
theorem f85_5e:OP f85_5 f85_5l [0,4] []:=rfl
def f85_8l:List GI:=[⟨none,.mv (some 2) (.c (.lit (.map none)))⟩]
def f85_8:AC:=.ops [2] [] f85_8l
theorem f85_8e:OP f85_8 f85_8l [2] []:=rfl
def f85_7:AC:=.seq f85_8 .ret
theorem f85_7e:SQ f85_7 f85_8 .ret:=rfl
def f85_6:AC:=.cond (.r 4) f85_7 .skip
theorem f85_6e:CN f85_6 4 f85_7 .skip:=rfl
def f85_4:AC:=.seq f85_5 f85_6
theorem f85_4e:SQ f85_4 f85_5 f85_6:=rfl
def f85_10l:List GI:=[vv 5 0,
    ⟨none,.mkif (some 6) 105 (.r 5)⟩,
    ⟨none,.x (some 7) (.mclone (.r 6))⟩,
    ⟨none,.tas (some 8) 105 (.r 7)⟩,
    vo 2 8]
def f85_10:AC:=.ops [2] [] f85_10l
theorem f85_10e:OP f85_10 f85_10l [2] []:=rfl
def f85_9:AC:=.seq f85_10 .ret
theorem f85_9e:SQ f85_9 f85_10 .ret:=rfl
def f85_3:AC:=.seq f85_4 f85_9
theorem f85_3e:SQ f85_3 f85_4 f85_9:=rfl
def f85_1:AC:=.seq f85_2 f85_3
theorem f85_1e:SQ f85_1 f85_2 f85_3:=rfl
def c_f85:AFun:=⟨9,[.tmp 2],f85_1⟩
theorem k_f85:bj Go.Proofs.Try.prog x_f85 85 = some c_f85:=by kernel_rfl
theorem e_f85:aQ Go.Proofs.Try.prog 85 = true:=by kernel_rfl

def n_f86:Nat:=86
def x_f86:Cx:=⟨some,id,22,fun s=>([0,2,3,4,5,6,7,8,9,10,11,12,13,14,16,17,19,20,21]:List Nat).contains s,fun s=>([]:List Nat).contains s,msOf [(2,[0],[]),(6,[0,5,6,7],[]),(28,[0,5,6,7,15],[]),(58,[5,6,7],[]),(30,[2,3,4],[])]⟩
def f86_2l:List GI:=[⟨none,.mv (some 2) (.c (.lit (.int .i64 0)))⟩,
    ⟨none,.mv (some 3) (.c (.lit (.int .u64 0)))⟩,
    ⟨none,.mv (some 4) (.c (.lit (.int .i64 0)))⟩]
def f86_2:AC:=.ops [0] [] f86_2l
theorem f86_2e:OP f86_2 f86_2l [0] []:=rfl
def f86_4l:List GI:=[vv 9 0,
    ⟨none,.call (some 10) false (.f 88) [(.r 9)]⟩,
    vv 8 10,
    ve 11 8 0,
    ve 12 8 1,
    ve 13 8 2,
    vo 5 11,
    vo 6 12,
    vo 7 13]
def f86_4:AC:=.ops [0,5,6,7] [] f86_4l
theorem f86_4e:OP f86_4 f86_4l [0,5,6,7] []:=rfl
def f86_7l:List GI:=[vv 14 7,
    vb 15 .eql 14 0]
def f86_7:AC:=.ops [0,5,6,7,15] [] f86_7l
theorem f86_7e:OP f86_7 f86_7l [0,5,6,7,15] []:=rfl
def f86_9l:List GI:=[vv 16 0,
    vv 17 6,
    ⟨none,.call (some 18) false (.f 84) [(.r 16),(.r 17)]⟩]
def f86_9:AC:=.ops [5,6,7] [] f86_9l
theorem f86_9e:OP f86_9 f86_9l [5,6,7] []:=rfl
def f86_8:AC:=.cond (.r 15) f86_9 .skip
theorem f86_8e:CN f86_8 15 f86_9 .skip:=rfl
def f86_6:AC:=.seq f86_7 f86_8
theorem f86_6e:SQ f86_6 f86_7 f86_8:=rfl
def f86_11l:List GI:=[vv 19 5,
    vv 20 6,
    vv 21 7,
    vo 2 19,
    vo 3 20,
    vo 4 21]
def f86_11:AC:=.ops [2,3,4] [] f86_11l
theorem f86_11e:OP f86_11 f86_11l [2,3,4] []:=rfl
def f86_10:AC:=.seq f86_11 .ret
theorem f86_10e:SQ f86_10 f86_11 .ret:=rfl
def f86_5:AC:=.seq f86_6 f86_10
theorem f86_5e:SQ f86_5 f86_6 f86_10:=rfl
def f86_3:AC:=.seq f86_4 f86_5
theorem f86_3e:SQ f86_3 f86_4 f86_5:=rfl
def f86_1:AC:=.seq f86_2 f86_3
theorem f86_1e:SQ f86_1 f86_2 f86_3:=rfl
def c_f86:AFun:=⟨22,[.tmp 2,.tmp 3,.tmp 4],f86_1⟩
theorem k_f86:bj Go.Proofs.Try.prog x_f86 86 = some c_f86:=by kernel_rfl
theorem e_f86:aQ Go.Proofs.Try.prog 86 = true:=by kernel_rfl

def n_f88:Nat:=88
def x_f88:Cx:=⟨some,id,31,fun s=>([0,2,3,4,6,7,13,14,18,23,24,25,30]:List Nat).contains s,fun s=>([]:List Nat).contains s,msOf [(2,[0],[]),(24,[0,5],[]),(100,[2,3,4],[]),(102,[0,8],[]),(412,[2,3,4],[]),(14,[2,3,4],[])]⟩
def f88_2l:List GI:=[⟨none,.mv (some 2) (.c (.lit (.int .i64 0)))⟩,
    ⟨none,.mv (some 3) (.c (.lit (.int .u64 0)))⟩,
    ⟨none,.mv (some 4) (.c (.lit (.int .i64 0)))⟩]
def f88_2:AC:=.ops [0] [] f88_2l
theorem f88_2e:OP f88_2 f88_2l [0] []:=rfl
def f88_6l:List GI:=[vv 6 0,
    ⟨none,.call (some 7) false (.f 79) [(.r 6)]⟩,
    vo 5 7]
def f88_6:AC:=.ops [0,5] [] f88_6l
theorem f88_6e:OP f88_6 f88_6l [0,5] []:=rfl
def f88_9l:List GI:=[⟨none,.mv (some 2) (.c (.lit (.int .i64 0)))⟩,
    ⟨none,.mv (some 3) (.c (.lit (.int .u64 0)))⟩,
    ⟨none,.mv (some 4) (.c (.lit (.int .i64 1)))⟩]
def f88_9:AC:=.ops [2,3,4] [] f88_9l
theorem f88_9e:OP f88_9 f88_9l [2,3,4] []:=rfl
def f88_8:AC:=.seq f88_9 .ret
theorem f88_8e:SQ f88_8 f88_9 .ret:=rfl
def f88_11l:List GI:=[vv 9 0,
    vn 10 9,
    vd 11 10 0,
    vd 12 11 0,
    vl 13 12,
    ⟨none,.bin (some 14) .num .eql (.r 13) (.c (.lit (.int .u64 0)))⟩,
    vo 8 14]
def f88_11:AC:=.ops [0,8] [] f88_11l
theorem f88_11e:OP f88_11 f88_11l [0,8] []:=rfl
def f88_14l:List GI:=[⟨none,.mv (some 2) (.c (.lit (.int .i64 0)))⟩,
    ⟨none,.mv (some 3) (.c (.lit (.int .u64 0)))⟩,
    ⟨none,.mv (some 4) (.c (.lit (.int .i64 9)))⟩]
def f88_14:AC:=.ops [2,3,4] [] f88_14l
theorem f88_14e:OP f88_14 f88_14l [2,3,4] []:=rfl
def f88_13:AC:=.seq f88_14 .ret
theorem f88_13e:SQ f88_13 f88_14 .ret:=rfl
def f88_12:AC:=.cond (.r 8) f88_13 .skip
theorem f88_12e:CN f88_12 8 f88_13 .skip:=rfl
def f88_10:AC:=.seq f88_11 f88_12
theorem f88_10e:SQ f88_10 f88_11 f88_12:=rfl
def f88_7:AC:=.cond (.r 5) f88_8 f88_10
theorem f88_7e:CN f88_7 5 f88_8 f88_10:=rfl
def f88_5:AC:=.seq f88_6 f88_7
theorem f88_5e:SQ f88_5 f88_6 f88_7:=rfl
def f88_4:AC:=.block 0 f88_5
theorem f88_4e:BL f88_4 f88_5 0:=rfl
def f88_16h:List GI:=[vv 15 0,
    vn 16 15,
    vd 17 16 3,
    vl 18 17,
    vv 19 0,
    vn 20 19,
    vd 21 20 0,
    vd 22 21 0,
    vl 23 22,
    ⟨none,.lookup (some 24) (.int .u64) (.agg [(.lit (.int .i64 0)),(.lit (.int .u64 0)),(.lit (.int .u64 0))]) false (.r 18) (.r 23)⟩,
    ⟨none,.field (some 25) (.r 24) 0 none⟩,
    vv 26 0,
    vn 27 26,
    vd 28 27 0,
    vd 29 28 0,
    vl 30 29,
    vv 2 25]
def f88_16l:List GI:=[vo 3 30,
    ⟨none,.mv (some 4) (.c (.lit (.int .i64 0)))⟩]
def f88_16:AC:=.draw [2,3,4] [] [] f88_16h f88_16l
theorem f88_16e:aC P id m f88_16 sf st Q = bD P id sf.locs st f88_16h (cR P id m [] [2,3,4] [] f88_16l Q st) [] ⟨sf.regs,br [] sf.locs⟩:=rfl
def f88_15:AC:=.seq f88_16 .ret
theorem f88_15e:SQ f88_15 f88_16 .ret:=rfl
def f88_3:AC:=.seq f88_4 f88_15
theorem f88_3e:SQ f88_3 f88_4 f88_15:=rfl
def f88_1:AC:=.seq f88_2 f88_3
theorem f88_1e:SQ f88_1 f88_2 f88_3:=rfl
def c_f88:AFun:=⟨31,[.tmp 2,.tmp 3,.tmp 4],f88_1⟩
theorem k_f88:bj Go.Proofs.Try.prog x_f88 88 = some c_f88:=by kernel_rfl
theorem e_f88:aQ Go.Proofs.Try.prog 88 = true:=by kernel_rfl

def tab (q:Nat):Option AFun :=
  if q = 7 then some c_f7 else
  if q = 9 then some c_f9 else
  if q = 10 then some c_f10 else
  if q = 11 then some c_f11 else
  if q = 12 then some c_f12 else
  if q = 13 then some c_f13 else
  if q = 15 then some c_f15 else
  if q = 16 then some c_f16 else
  if q = 18 then some c_f18 else
  if q = 19 then some c_f19 else
  if q = 20 then some c_f20 else
  if q = 21 then some c_f21 else
  if q = 22 then some c_f22 else
  if q = 23 then some c_f23 else
  if q = 25 then some c_f25 else
  if q = 27 then some c_f27 else
  if q = 28 then some c_f28 else
  if q = 30 then some c_f30 else
  if q = 31 then some c_f31 else
  if q = 35 then some c_f35 else
  if q = 37 then some c_f37 else
  if q = 38 then some c_f38 else
  if q = 41 then some c_f41 else
  if q = 44 then some c_f44 else
  if q = 45 then some c_f45 else
  if q = 46 then some c_f46 else
  if q = 47 then some c_f47 else
  if q = 48 then some c_f48 else
  if q = 49 then some c_f49 else
  if q = 50 then some c_f50 else
  if q = 51 then some c_f51 else
  if q = 52 then some c_f52 else
  if q = 53 then some c_f53 else
  if q = 54 then some c_f54 else
  if q = 55 then some c_f55 else
  if q = 56 then some c_f56 else
  if q = 57 then some c_f57 else
  if q = 58 then some c_f58 else
  if q = 59 then some c_f59 else
  if q = 60 then some c_f60 else
  if q = 61 then some c_f61 else
  if q = 62 then some c_f62 else
  if q = 63 then some c_f63 else
  if q = 64 then some c_f64 else
  if q = 65 then some c_f65 else
  if q = 66 then some c_f66 else
  if q = 67 then some c_f67 else
  if q = 68 then some c_f68 else
  if q = 69 then some c_f69 else
  if q = 70 then some c_f70 else
  if q = 71 then some c_f71 else
  if q = 72 then some c_f72 else
  if q = 73 then some c_f73 else
  if q = 74 then some c_f74 else
  if q = 75 then some c_f75 else
  if q = 76 then some c_f76 else
  if q = 77 then some c_f77 else
  if q = 78 then some c_f78 else
  if q = 79 then some c_f79 else
  if q = 80 then some c_f80 else
  if q = 81 then some c_f81 else
  if q = 82 then some c_f82 else
  if q = 83 then some c_f83 else
  if q = 84 then some c_f84 else
  if q = 85 then some c_f85 else
  if q = 86 then some c_f86 else
  if q = 88 then some c_f88 else
  none
theorem tabOk:TabOk Go.Proofs.Try.prog id tab :=
  aB e_f7 k_f7 rfl (
  aB e_f9 k_f9 rfl (
  aB e_f10 k_f10 rfl (
  aB e_f11 k_f11 rfl (
  aB e_f12 k_f12 rfl (
  aB e_f13 k_f13 rfl (
  aB e_f15 k_f15 rfl (
  aB e_f16 k_f16 rfl (
  aB e_f18 k_f18 rfl (
  aB e_f19 k_f19 rfl (
  aB e_f20 k_f20 rfl (
  aB e_f21 k_f21 rfl (
  aB e_f22 k_f22 rfl (
  aB e_f23 k_f23 rfl (
  aB e_f25 k_f25 rfl (
  aB e_f27 k_f27 rfl (
  aB e_f28 k_f28 rfl (
  aB e_f30 k_f30 rfl (
  aB e_f31 k_f31 rfl (
  aB e_f35 k_f35 rfl (
  aB e_f37 k_f37 rfl (
  aB e_f38 k_f38 rfl (
  aB e_f41 k_f41 rfl (
  aB e_f44 k_f44 rfl (
  aB e_f45 k_f45 rfl (
  aB e_f46 k_f46 rfl (
  aB e_f47 k_f47 rfl (
  aB e_f48 k_f48 rfl (
  aB e_f49 k_f49 rfl (
  aB e_f50 k_f50 rfl (
  aB e_f51 k_f51 rfl (
  aB e_f52 k_f52 rfl (
  aB e_f53 k_f53 rfl (
  aB e_f54 k_f54 rfl (
  aB e_f55 k_f55 rfl (
  aB e_f56 k_f56 rfl (
  aB e_f57 k_f57 rfl (
  aB e_f58 k_f58 rfl (
  aB e_f59 k_f59 rfl (
  aB e_f60 k_f60 rfl (
  aB e_f61 k_f61 rfl (
  aB e_f62 k_f62 rfl (
  aB e_f63 k_f63 rfl (
  aB e_f64 k_f64 rfl (
  aB e_f65 k_f65 rfl (
  aB e_f66 k_f66 rfl (
  aB e_f67 k_f67 rfl (
  aB e_f68 k_f68 rfl (
  aB e_f69 k_f69 rfl (
  aB e_f70 k_f70 rfl (
  aB e_f71 k_f71 rfl (
  aB e_f72 k_f72 rfl (
  aB e_f73 k_f73 rfl (
  aB e_f74 k_f74 rfl (
  aB e_f75 k_f75 rfl (
  aB e_f76 k_f76 rfl (
  aB e_f77 k_f77 rfl (
  aB e_f78 k_f78 rfl (
  aB e_f79 k_f79 rfl (
  aB e_f80 k_f80 rfl (
  aB e_f81 k_f81 rfl (
  aB e_f82 k_f82 rfl (
  aB e_f83 k_f83 rfl (
  aB e_f84 k_f84 rfl (
  aB e_f85 k_f85 rfl (
  aB e_f86 k_f86 rfl (
  aB e_f88 k_f88 rfl (
  tabOk_nil)))))))))))))))))))))))))))))))))))))))))))))))))))))))))))))))))))
theorem hmix:Go.Proofs.Try.prog.follows .mixedOrders = true:=by kernel_rfl
end
end Go.Fx.YtphaaebhgggbaaaFx

/- The functions that the statement reaches, resolved: printed by a program of ours from the translated code; each is checked here. -/
import Derived.Test.YtddifejdkiemgaaFxS
set_option maxRecDepth 100000
set_option maxHeartbeats 0
namespace Go.Fx.YtddifejdkiemgaaFx
open Go Go.Fx
section
variable (P:Program) (m:Bool) (sf:Sf) (st:St) (Q:Exit→Sf→St→Prop)
def n_f54:Nat:=54
def x_f54:Cx:=⟨some,id,26,fun s=>([0,1,4,5,6,7,8,9,11,12,13,15,16,18,20,22,24]:List Nat).contains s,fun s=>([]:List Nat).contains s,msOf [(2,[0,1],[]),(12,[0,1,10],[]),(52,[4],[]),(28,[0,1,5],[]),(58,[0,1,5],[]),(464,[0,1,5,14],[]),(931,[],[]),(1864,[0,1,5,25],[]),(7460,[4],[]),(467,[0,1,5],[]),(30,[4],[])]⟩
def f54_2l:List GI:=[⟨none,.mv (some 4) (.c (.lit (.bool false)))⟩]
def f54_2:AC:=.ops [0,1] [] f54_2l
theorem f54_2e:OP f54_2 f54_2l [0,1] []:=rfl
def f54_5l:List GI:=[vv 6 0,
    ⟨none,.len (some 7) .sl (.r 6)⟩,
    vv 8 1,
    ⟨none,.len (some 9) .sl (.r 8)⟩,
    ⟨none,.bin (some 10) .num .neq (.r 7) (.r 9)⟩]
def f54_5:AC:=.ops [0,1,10] [] f54_5l
theorem f54_5e:OP f54_5 f54_5l [0,1,10] []:=rfl
def f54_8l:List GI:=[⟨none,.mv (some 4) (.c (.lit (.bool false)))⟩]
def f54_8:AC:=.ops [4] [] f54_8l
theorem f54_8e:OP f54_8 f54_8l [4] []:=rfl
def f54_7:AC:=.seq f54_8 .ret
theorem f54_7e:SQ f54_7 f54_8 .ret:=rfl
def f54_6:AC:=.cond (.r 10) f54_7 .skip
theorem f54_6e:CN f54_6 10 f54_7 .skip:=rfl
def f54_4:AC:=.seq f54_5 f54_6
theorem f54_4e:SQ f54_4 f54_5 f54_6:=rfl
def f54_11l:List GI:=[⟨none,.mv (some 5) (.c (.lit (.int .i64 0)))⟩]
def f54_11:AC:=.ops [0,1,5] [] f54_11l
theorem f54_11e:OP f54_11 f54_11l [0,1,5] []:=rfl
def f54_16l:List GI:=[vv 11 5,
    vv 12 0,
    ⟨none,.len (some 13) .sl (.r 12)⟩,
    ⟨none,.bin (some 14) .num .lss (.r 11) (.r 13)⟩]
def f54_16:AC:=.ops [0,1,5,14] [] f54_16l
theorem f54_16e:OP f54_16 f54_16l [0,1,5,14] []:=rfl
def f54_17:AC:=.cond (.r 14) .skip (.exit [] [] 0)
theorem f54_17e:CN f54_17 14 .skip (.exit [] [] 0):=rfl
def f54_15:AC:=.seq f54_16 f54_17
theorem f54_15e:SQ f54_15 f54_16 f54_17:=rfl
def f54_21h:List GI:=[vv 17 0,
    vv 18 5,
    ⟨none,.ixS (some 19) (.r 17) (.r 18) 2⟩,
    ⟨none,.load (some 20) (.r 19) (some 2)⟩,
    vv 21 1,
    vv 22 5,
    ⟨none,.ixS (some 23) (.r 21) (.r 22) 2⟩,
    ⟨none,.load (some 24) (.r 23) (some 2)⟩]
def f54_21l:List GI:=[⟨none,.bin (some 25) (.agg (.field 0 1 .int (.field 1 1 .int .tt))) .neq (.r 20) (.r 24)⟩]
def f54_21:AC:=.draw [0,1,5,25] [] [] f54_21h f54_21l
theorem f54_21e:aC P id m f54_21 sf st Q = a9 P id sf.locs st f54_21h (cx P id m [] [0,1,5,25] [] f54_21l Q st) [] ⟨sf.regs,bu [] sf.locs⟩:=rfl
def f54_24l:List GI:=[⟨none,.mv (some 4) (.c (.lit (.bool false)))⟩]
def f54_24:AC:=.ops [4] [] f54_24l
theorem f54_24e:OP f54_24 f54_24l [4] []:=rfl
def f54_23:AC:=.seq f54_24 .ret
theorem f54_23e:SQ f54_23 f54_24 .ret:=rfl
def f54_22:AC:=.cond (.r 25) f54_23 .skip
theorem f54_22e:CN f54_22 25 f54_23 .skip:=rfl
def f54_20:AC:=.seq f54_21 f54_22
theorem f54_20e:SQ f54_20 f54_21 f54_22:=rfl
def f54_19:AC:=.block 1 f54_20
theorem f54_19e:BL f54_19 f54_20 1:=rfl
def f54_25l:List GI:=[vv 15 5,
    vb 16 .add 15 1,
    vo 5 16]
def f54_25:AC:=.ops [0,1,5] [] f54_25l
theorem f54_25e:OP f54_25 f54_25l [0,1,5] []:=rfl
def f54_18:AC:=.seq f54_19 f54_25
theorem f54_18e:SQ f54_18 f54_19 f54_25:=rfl
def f54_14:AC:=.seq f54_15 f54_18
theorem f54_14e:SQ f54_14 f54_15 f54_18:=rfl
def f54_13:AC:=.loop [0,1,5] [] f54_14
theorem f54_13w:aC P id m f54_13 sf st Q = cd (aC P id m f54_14) [0,1,5] [] sf st Q:=rfl
def f54_12:AC:=.block 0 f54_13
theorem f54_12e:BL f54_12 f54_13 0:=rfl
def f54_10:AC:=.seq f54_11 f54_12
theorem f54_10e:SQ f54_10 f54_11 f54_12:=rfl
def f54_27l:List GI:=[⟨none,.mv (some 4) (.c (.lit (.bool true)))⟩]
def f54_27:AC:=.ops [4] [] f54_27l
theorem f54_27e:OP f54_27 f54_27l [4] []:=rfl
def f54_26:AC:=.seq f54_27 .ret
theorem f54_26e:SQ f54_26 f54_27 .ret:=rfl
def f54_9:AC:=.seq f54_10 f54_26
theorem f54_9e:SQ f54_9 f54_10 f54_26:=rfl
def f54_3:AC:=.seq f54_4 f54_9
theorem f54_3e:SQ f54_3 f54_4 f54_9:=rfl
def f54_1:AC:=.seq f54_2 f54_3
theorem f54_1e:SQ f54_1 f54_2 f54_3:=rfl
def c_f54:AFun:=⟨26,[.tmp 4],f54_1⟩
theorem k_f54:bT Go.Proofs.Try.prog x_f54 54 = some c_f54:=by kernel_rfl
theorem e_f54:aX Go.Proofs.Try.prog 54 = true:=by kernel_rfl

def n_f55:Nat:=55
def x_f55:Cx:=⟨some,id,18,fun s=>([0,2,3,4,6,7,9,10,11,12,15,16,17]:List Nat).contains s,fun s=>([]:List Nat).contains s,msOf [(2,[1],[1]),(6,[1,3],[1]),(28,[1,3,4],[1]),(58,[1,3,4],[1]),(464,[1,3,4,8],[1]),(931,[3],[]),(932,[1,3,4],[1]),(467,[1,3,4],[1]),(30,[2],[])]⟩
def f55_2l:List GI:=[⟨none,.boxL 1 67 (.r 0)⟩,
    ⟨none,.mv (some 2) (.c (.lit (.int .i64 0)))⟩]
def f55_2:AC:=.ops [1] [1] f55_2l
theorem f55_2e:OP f55_2 f55_2l [1] [1]:=rfl
def f55_4l:List GI:=[vd 5 1 0,
    vl 6 5,
    vo 3 6]
def f55_4:AC:=.ops [1,3] [1] f55_4l
theorem f55_4e:OP f55_4 f55_4l [1,3] [1]:=rfl
def f55_7l:List GI:=[⟨none,.mv (some 4) (.c (.lit (.int .i64 0)))⟩]
def f55_7:AC:=.ops [1,3,4] [1] f55_7l
theorem f55_7e:OP f55_7 f55_7l [1,3,4] [1]:=rfl
def f55_12l:List GI:=[vv 7 4,
    vb 8 .lss 7 64]
def f55_12:AC:=.ops [1,3,4,8] [1] f55_12l
theorem f55_12e:OP f55_12 f55_12l [1,3,4,8] [1]:=rfl
def f55_13:AC:=.cond (.r 8) .skip (.exit [3] [] 0)
theorem f55_13e:CN f55_13 8 .skip (.exit [3] [] 0):=rfl
def f55_11:AC:=.seq f55_12 f55_13
theorem f55_11e:SQ f55_11 f55_12 f55_13:=rfl
def f55_16l:List GI:=[vv 11 3,
    vv 12 4,
    vd 13 1 2,
    ⟨none,.ixA (some 14) (.r 13) (.r 12) 64 1⟩,
    vl 15 14,
    ⟨none,.bin (some 16) .num .sub (.r 11) (.r 15)⟩,
    vo 3 16]
def f55_16:AC:=.ops [1,3,4] [1] f55_16l
theorem f55_16e:OP f55_16 f55_16l [1,3,4] [1]:=rfl
def f55_15:AC:=.block 1 f55_16
theorem f55_15e:BL f55_15 f55_16 1:=rfl
def f55_17l:List GI:=[vv 9 4,
    vb 10 .add 9 1,
    vo 4 10]
def f55_17:AC:=.ops [1,3,4] [1] f55_17l
theorem f55_17e:OP f55_17 f55_17l [1,3,4] [1]:=rfl
def f55_14:AC:=.seq f55_15 f55_17
theorem f55_14e:SQ f55_14 f55_15 f55_17:=rfl
def f55_10:AC:=.seq f55_11 f55_14
theorem f55_10e:SQ f55_10 f55_11 f55_14:=rfl
def f55_9:AC:=.loop [1,3,4] [1] f55_10
theorem f55_9w:aC P id m f55_9 sf st Q = cd (aC P id m f55_10) [1,3,4] [1] sf st Q:=rfl
def f55_8:AC:=.block 0 f55_9
theorem f55_8e:BL f55_8 f55_9 0:=rfl
def f55_6:AC:=.seq f55_7 f55_8
theorem f55_6e:SQ f55_6 f55_7 f55_8:=rfl
def f55_19l:List GI:=[vv 17 3,
    vo 2 17]
def f55_19:AC:=.ops [2] [] f55_19l
theorem f55_19e:OP f55_19 f55_19l [2] []:=rfl
def f55_18:AC:=.seq f55_19 .ret
theorem f55_18e:SQ f55_18 f55_19 .ret:=rfl
def f55_5:AC:=.seq f55_6 f55_18
theorem f55_5e:SQ f55_5 f55_6 f55_18:=rfl
def f55_3:AC:=.seq f55_4 f55_5
theorem f55_3e:SQ f55_3 f55_4 f55_5:=rfl
def f55_1:AC:=.seq f55_2 f55_3
theorem f55_1e:SQ f55_1 f55_2 f55_3:=rfl
def c_f55:AFun:=⟨18,[.tmp 2],f55_1⟩
theorem k_f55:bT Go.Proofs.Try.prog x_f55 55 = some c_f55:=by kernel_rfl
theorem e_f55:aX Go.Proofs.Try.prog 55 = true:=by kernel_rfl

def n_f56:Nat:=56
def x_f56:Cx:=⟨some,id,22,fun s=>([0,2,3,4,5,7,8,10,11,12,15,18,19,20,21]:List Nat).contains s,fun s=>([]:List Nat).contains s,msOf [(2,[1],[1]),(6,[1,3],[1]),(28,[1,3,4],[1]),(58,[1,3,4],[1]),(464,[1,3,4,9],[1]),(931,[3],[]),(932,[1,3,4],[1]),(467,[1,3,4],[1]),(30,[2],[])]⟩
def f56_2l:List GI:=[⟨none,.boxL 1 67 (.r 0)⟩,
    ⟨none,.mv (some 2) (.c (.lit (.slice none 0 0)))⟩]
def f56_2:AC:=.ops [1] [1] f56_2l
theorem f56_2e:OP f56_2 f56_2l [1] [1]:=rfl
def f56_4l:List GI:=[⟨none,.mv (some 3) (.c (.lit (.slice none 0 0)))⟩]
def f56_4:AC:=.ops [1,3] [1] f56_4l
theorem f56_4e:OP f56_4 f56_4l [1,3] [1]:=rfl
def f56_7l:List GI:=[⟨none,.mv (some 4) (.c (.lit (.int .i64 0)))⟩]
def f56_7:AC:=.ops [1,3,4] [1] f56_7l
theorem f56_7e:OP f56_7 f56_7l [1,3,4] [1]:=rfl
def f56_12l:List GI:=[vv 5 4,
    vd 6 1 66,
    vl 7 6,
    ⟨none,.len (some 8) .sl (.r 7)⟩,
    ⟨none,.bin (some 9) .num .lss (.r 5) (.r 8)⟩]
def f56_12:AC:=.ops [1,3,4,9] [1] f56_12l
theorem f56_12e:OP f56_12 f56_12l [1,3,4,9] [1]:=rfl
def f56_13:AC:=.cond (.r 9) .skip (.exit [3] [] 0)
theorem f56_13e:CN f56_13 9 .skip (.exit [3] [] 0):=rfl
def f56_11:AC:=.seq f56_12 f56_13
theorem f56_11e:SQ f56_11 f56_12 f56_13:=rfl
def f56_16l:List GI:=[vo 12 3,
    vd 13 1 66,
    vl 14 13,
    vv 15 4,
    ⟨none,.ixS (some 16) (.r 14) (.r 15) 3⟩,
    vd 17 16 0,
    vl 18 17,
    ⟨none,.bsl (some 19) 1 1 (.lit (.int .i64 0)) [(0,(.r 18))]⟩,
    ⟨none,.appS 20 12 1 8 (.r 19)⟩,
    vo 3 20]
def f56_16:AC:=.ops [1,3,4] [1] f56_16l
theorem f56_16e:OP f56_16 f56_16l [1,3,4] [1]:=rfl
def f56_15:AC:=.block 1 f56_16
theorem f56_15e:BL f56_15 f56_16 1:=rfl
def f56_17l:List GI:=[vv 10 4,
    vb 11 .add 10 1,
    vo 4 11]
def f56_17:AC:=.ops [1,3,4] [1] f56_17l
theorem f56_17e:OP f56_17 f56_17l [1,3,4] [1]:=rfl
def f56_14:AC:=.seq f56_15 f56_17
theorem f56_14e:SQ f56_14 f56_15 f56_17:=rfl
def f56_10:AC:=.seq f56_11 f56_14
theorem f56_10e:SQ f56_10 f56_11 f56_14:=rfl
def f56_9:AC:=.loop [1,3,4] [1] f56_10
theorem f56_9w:aC P id m f56_9 sf st Q = cd (aC P id m f56_10) [1,3,4] [1] sf st Q:=rfl
def f56_8:AC:=.block 0 f56_9
theorem f56_8e:BL f56_8 f56_9 0:=rfl
def f56_6:AC:=.seq f56_7 f56_8
theorem f56_6e:SQ f56_6 f56_7 f56_8:=rfl
def f56_19l:List GI:=[vv 21 3,
    vo 2 21]
def f56_19:AC:=.ops [2] [] f56_19l
theorem f56_19e:OP f56_19 f56_19l [2] []:=rfl
def f56_18:AC:=.seq f56_19 .ret
theorem f56_18e:SQ f56_18 f56_19 .ret:=rfl
def f56_5:AC:=.seq f56_6 f56_18
theorem f56_5e:SQ f56_5 f56_6 f56_18:=rfl
def f56_3:AC:=.seq f56_4 f56_5
theorem f56_3e:SQ f56_3 f56_4 f56_5:=rfl
def f56_1:AC:=.seq f56_2 f56_3
theorem f56_1e:SQ f56_1 f56_2 f56_3:=rfl
def c_f56:AFun:=⟨22,[.tmp 2],f56_1⟩
theorem k_f56:bT Go.Proofs.Try.prog x_f56 56 = some c_f56:=by kernel_rfl
theorem e_f56:aX Go.Proofs.Try.prog 56 = true:=by kernel_rfl

def n_f57:Nat:=57
def x_f57:Cx:=⟨some,id,21,fun s=>([0,2,3,4,5,7,8,10,11,12,15,18,19,20]:List Nat).contains s,fun s=>([]:List Nat).contains s,msOf [(2,[1],[1]),(6,[1,3],[1]),(28,[1,3,4],[1]),(58,[1,3,4],[1]),(464,[1,3,4,9],[1]),(931,[3],[]),(932,[1,3,4],[1]),(467,[1,3,4],[1]),(30,[2],[])]⟩
def f57_2l:List GI:=[⟨none,.boxL 1 67 (.r 0)⟩,
    ⟨none,.mv (some 2) (.c (.lit (.int .u64 0)))⟩]
def f57_2:AC:=.ops [1] [1] f57_2l
theorem f57_2e:OP f57_2 f57_2l [1] [1]:=rfl
def f57_4l:List GI:=[⟨none,.mv (some 3) (.c (.lit (.int .u64 18446744073709551615)))⟩]
def f57_4:AC:=.ops [1,3] [1] f57_4l
theorem f57_4e:OP f57_4 f57_4l [1,3] [1]:=rfl
def f57_7l:List GI:=[⟨none,.mv (some 4) (.c (.lit (.int .i64 0)))⟩]
def f57_7:AC:=.ops [1,3,4] [1] f57_7l
theorem f57_7e:OP f57_7 f57_7l [1,3,4] [1]:=rfl
def f57_12l:List GI:=[vv 5 4,
    vd 6 1 66,
    vl 7 6,
    ⟨none,.len (some 8) .sl (.r 7)⟩,
    ⟨none,.bin (some 9) .num .lss (.r 5) (.r 8)⟩]
def f57_12:AC:=.ops [1,3,4,9] [1] f57_12l
theorem f57_12e:OP f57_12 f57_12l [1,3,4,9] [1]:=rfl
def f57_13:AC:=.cond (.r 9) .skip (.exit [3] [] 0)
theorem f57_13e:CN f57_13 9 .skip (.exit [3] [] 0):=rfl
def f57_11:AC:=.seq f57_12 f57_13
theorem f57_11e:SQ f57_11 f57_12 f57_13:=rfl
def f57_16l:List GI:=[vv 12 3,
    vd 13 1 66,
    vl 14 13,
    vv 15 4,
    ⟨none,.ixS (some 16) (.r 14) (.r 15) 3⟩,
    vd 17 16 2,
    vl 18 17,
    ⟨none,.mn (some 19) true (.r 12) (.r 18)⟩,
    vo 3 19]
def f57_16:AC:=.ops [1,3,4] [1] f57_16l
theorem f57_16e:OP f57_16 f57_16l [1,3,4] [1]:=rfl
def f57_15:AC:=.block 1 f57_16
theorem f57_15e:BL f57_15 f57_16 1:=rfl
def f57_17l:List GI:=[vv 10 4,
    vb 11 .add 10 1,
    vo 4 11]
def f57_17:AC:=.ops [1,3,4] [1] f57_17l
theorem f57_17e:OP f57_17 f57_17l [1,3,4] [1]:=rfl
def f57_14:AC:=.seq f57_15 f57_17
theorem f57_14e:SQ f57_14 f57_15 f57_17:=rfl
def f57_10:AC:=.seq f57_11 f57_14
theorem f57_10e:SQ f57_10 f57_11 f57_14:=rfl
def f57_9:AC:=.loop [1,3,4] [1] f57_10
theorem f57_9w:aC P id m f57_9 sf st Q = cd (aC P id m f57_10) [1,3,4] [1] sf st Q:=rfl
def f57_8:AC:=.block 0 f57_9
theorem f57_8e:BL f57_8 f57_9 0:=rfl
def f57_6:AC:=.seq f57_7 f57_8
theorem f57_6e:SQ f57_6 f57_7 f57_8:=rfl
def f57_19l:List GI:=[vv 20 3,
    vo 2 20]
def f57_19:AC:=.ops [2] [] f57_19l
theorem f57_19e:OP f57_19 f57_19l [2] []:=rfl
def f57_18:AC:=.seq f57_19 .ret
theorem f57_18e:SQ f57_18 f57_19 .ret:=rfl
def f57_5:AC:=.seq f57_6 f57_18
theorem f57_5e:SQ f57_5 f57_6 f57_18:=rfl
def f57_3:AC:=.seq f57_4 f57_5
theorem f57_3e:SQ f57_3 f57_4 f57_5:=rfl
def f57_1:AC:=.seq f57_2 f57_3
theorem f57_1e:SQ f57_1 f57_2 f57_3:=rfl
def c_f57:AFun:=⟨21,[.tmp 2],f57_1⟩
theorem k_f57:bT Go.Proofs.Try.prog x_f57 57 = some c_f57:=by kernel_rfl
theorem e_f57:aX Go.Proofs.Try.prog 57 = true:=by kernel_rfl

def n_f58:Nat:=58
def x_f58:Cx:=⟨some,id,166,fun s=>([0,1,2,7,8,9,11,12,14,15,16,18,19,20,21,23,24,25,26,28,29,31,33,34,35,37,39,41,42,43,44,45,46,48,50,52,53,54,55,56,57,58,59,60,61,62,63,64,65,67,68,69,71,73,74,75,76,77,78,80,82,83,84,85,87,88,89,91,93,94,95,96,97,98,100,102,103,104,105,106,107,108,109,110,111,112,113,114,115,117,118,119,121,122,123,124,125,126,128,129,130,131,132,133,134,135,136,137,138,139,140,141,142,143,145,146,147,148,149,150,152,153,154,155,156,157,158,159,160,161,162,163,164,165]:List Nat).contains s,fun s=>([83]:List Nat).contains s,msOf [(2,[0,4,5,6],[4,5,6]),(12,[0,4,5,6,31],[4,5,6]),(52,[0,4,5,6,31,32],[4,5,6]),(212,[4,5,6,8,9],[4,5,6]),(426,[6,8,9,10,11,12],[6,10]),(854,[6,7],[6]),(214,[0,4,5,6,31,66],[4,5,6]),(860,[0,5,6,13,14],[5,6,13]),(1722,[6,7],[6]),(862,[0,4,5,6,31,86],[4,5,6]),(3452,[4,5,6,15,16],[4,5,6]),(6906,[6,15,16,17,18,19],[6,17]),(13814,[6,7],[6]),(3454,[0,4,5,6,116],[4,5,6]),(13820,[4,5,6,20,21],[4,5,6]),(27642,[6,20,21,22,23,24],[6,22]),(55286,[6,7],[6]),(14,[4,5,6,25,26],[4,5,6]),(30,[6,25,26,27,28,29],[6,27]),(62,[6,7],[6])]⟩
def f58_2l:List GI:=[⟨none,.boxL 4 67 (.r 1)⟩,
    ⟨none,.boxL 5 4 (.r 2)⟩,
    ⟨none,.newL 6 [(.lit (.int .i64 0)),(.lit (.int .u64 0)),(.lit (.int .i64 0)),(.lit (.int .i64 0)),(.lit (.int .i64 0)),(.lit (.int .i64 0)),(.lit (.int .i64 0)),(.lit (.int .i64 0)),(.lit (.int .i64 0)),(.lit (.int .i64 0)),(.lit (.int .i64 0)),(.lit (.int .i64 0)),(.lit (.int .i64 0)),(.lit (.int .i64 0)),(.lit (.int .i64 0)),(.lit (.int .i64 0)),(.lit (.int .i64 0)),(.lit (.int .i64 0)),(.lit (.int .i64 0)),(.lit (.int .i64 0)),(.lit (.int .i64 0)),(.lit (.int .i64 0)),(.lit (.int .i64 0)),(.lit (.int .i64 0)),(.lit (.int .i64 0)),(.lit (.int .i64 0)),(.lit (.int .i64 0)),(.lit (.int .i64 0)),(.lit (.int .i64 0)),(.lit (.int .i64 0)),(.lit (.int .i64 0)),(.lit (.int .i64 0)),(.lit (.int .i64 0)),(.lit (.int .i64 0)),(.lit (.int .i64 0)),(.lit (.int .i64 0)),(.lit (.int .i64 0)),(.lit (.int .i64 0)),(.lit (.int .i64 0)),(.lit (.int .i64 0)),(.lit (.int .i64 0)),(.lit (.int .i64 0)),(.lit (.int .i64 0)),(.lit (.int .i64 0)),(.lit (.int .i64 0)),(.lit (.int .i64 0)),(.lit (.int .i64 0)),(.lit (.int .i64 0)),(.lit (.int .i64 0)),(.lit (.int .i64 0)),(.lit (.int .i64 0)),(.lit (.int .i64 0)),(.lit (.int .i64 0)),(.lit (.int .i64 0)),(.lit (.int .i64 0)),(.lit (.int .i64 0)),(.lit (.int .i64 0)),(.lit (.int .i64 0)),(.lit (.int .i64 0)),(.lit (.int .i64 0)),(.lit (.int .i64 0)),(.lit (.int .i64 0)),(.lit (.int .i64 0)),(.lit (.int .i64 0)),(.lit (.int .i64 0)),(.lit (.int .i64 0)),(.lit (.slice none 0 0))]⟩,
    ⟨none,.mv (some 7) (.c (.lit (.bool false)))⟩]
def f58_2:AC:=.ops [0,4,5,6] [4,5,6] f58_2l
theorem f58_2e:OP f58_2 f58_2l [0,4,5,6] [4,5,6]:=rfl
def f58_5l:List GI:=[vd 30 5 0,
    vl 31 30]
def f58_5:AC:=.ops [0,4,5,6,31] [4,5,6] f58_5l
theorem f58_5e:OP f58_5 f58_5l [0,4,5,6,31] [4,5,6]:=rfl
def f58_8l:List GI:=[vb 33 .eql 31 0,
    vo 32 33]
def f58_8:AC:=.ops [0,4,5,6,31,32] [4,5,6] f58_8l
theorem f58_8e:OP f58_8 f58_8l [0,4,5,6,31,32] [4,5,6]:=rfl
def f58_11l:List GI:=[vv 35 0,
    vd 36 5 1,
    vl 37 36,
    vd 38 5 2,
    vl 39 38,
    vd 40 5 3,
    vl 41 40,
    ⟨none,.call (some 42) false (.f 35) [(.r 35),(.r 37),(.r 39),(.r 41)]⟩,
    vv 34 42,
    ve 43 34 0,
    ve 44 34 1,
    vo 8 43,
    vo 9 44]
def f58_11:AC:=.ops [4,5,6,8,9] [4,5,6] f58_11l
theorem f58_11e:OP f58_11 f58_11l [4,5,6,8,9] [4,5,6]:=rfl
def f58_13l:List GI:=[⟨none,.load (some 46) (.r 4) (some 67)⟩,
    vd 47 5 1,
    vl 48 47,
    vd 49 5 2,
    vl 50 49,
    vd 51 5 3,
    vl 52 51,
    ⟨none,.call (some 53) false (.f 71) [(.r 46),(.r 48),(.r 50),(.r 52)]⟩,
    vv 45 53,
    ve 54 45 0,
    ve 55 45 1,
    ve 56 45 2,
    ⟨none,.newL 10 [(.lit (.int .i64 0)),(.lit (.int .u64 0)),(.lit (.int .i64 0)),(.lit (.int .i64 0)),(.lit (.int .i64 0)),(.lit (.int .i64 0)),(.lit (.int .i64 0)),(.lit (.int .i64 0)),(.lit (.int .i64 0)),(.lit (.int .i64 0)),(.lit (.int .i64 0)),(.lit (.int .i64 0)),(.lit (.int .i64 0)),(.lit (.int .i64 0)),(.lit (.int .i64 0)),(.lit (.int .i64 0)),(.lit (.int .i64 0)),(.lit (.int .i64 0)),(.lit (.int .i64 0)),(.lit (.int .i64 0)),(.lit (.int .i64 0)),(.lit (.int .i64 0)),(.lit (.int .i64 0)),(.lit (.int .i64 0)),(.lit (.int .i64 0)),(.lit (.int .i64 0)),(.lit (.int .i64 0)),(.lit (.int .i64 0)),(.lit (.int .i64 0)),(.lit (.int .i64 0)),(.lit (.int .i64 0)),(.lit (.int .i64 0)),(.lit (.int .i64 0)),(.lit (.int .i64 0)),(.lit (.int .i64 0)),(.lit (.int .i64 0)),(.lit (.int .i64 0)),(.lit (.int .i64 0)),(.lit (.int .i64 0)),(.lit (.int .i64 0)),(.lit (.int .i64 0)),(.lit (.int .i64 0)),(.lit (.int .i64 0)),(.lit (.int .i64 0)),(.lit (.int .i64 0)),(.lit (.int .i64 0)),(.lit (.int .i64 0)),(.lit (.int .i64 0)),(.lit (.int .i64 0)),(.lit (.int .i64 0)),(.lit (.int .i64 0)),(.lit (.int .i64 0)),(.lit (.int .i64 0)),(.lit (.int .i64 0)),(.lit (.int .i64 0)),(.lit (.int .i64 0)),(.lit (.int .i64 0)),(.lit (.int .i64 0)),(.lit (.int .i64 0)),(.lit (.int .i64 0)),(.lit (.int .i64 0)),(.lit (.int .i64 0)),(.lit (.int .i64 0)),(.lit (.int .i64 0)),(.lit (.int .i64 0)),(.lit (.int .i64 0)),(.lit (.slice none 0 0))]⟩,
    ⟨none,.store 67 (.r 10) (.r 54)⟩,
    vo 11 55,
    vo 12 56]
def f58_13:AC:=.ops [6,8,9,10,11,12] [6,10] f58_13l
theorem f58_13e:OP f58_13 f58_13l [6,8,9,10,11,12] [6,10]:=rfl
def f58_15l:List GI:=[⟨none,.load (some 57) (.r 10) (some 67)⟩,
    vv 58 8,
    vv 59 11,
    ⟨none,.bin (some 60) .bool .eql (.r 58) (.r 59)⟩,
    vv 61 60,
    ⟨some (61,true),.mv (some 62) (.r 9)⟩,
    ⟨some (61,true),.mv (some 63) (.r 12)⟩,
    ⟨some (61,true),.bin (some 64) .num .eql (.r 62) (.r 63)⟩,
    ⟨none,.pick (some 65) (.r 61) (.r 64) (.c (.lit (.bool false)))⟩,
    ⟨none,.store 67 (.r 6) (.r 57)⟩,
    vo 7 65]
def f58_15:AC:=.ops [6,7] [6] f58_15l
theorem f58_15e:OP f58_15 f58_15l [6,7] [6]:=rfl
def f58_14:AC:=.seq f58_15 .ret
theorem f58_14e:SQ f58_14 f58_15 .ret:=rfl
def f58_12:AC:=.seq f58_13 f58_14
theorem f58_12e:SQ f58_12 f58_13 f58_14:=rfl
def f58_10:AC:=.seq f58_11 f58_12
theorem f58_10e:SQ f58_10 f58_11 f58_12:=rfl
def f58_17l:List GI:=[vb 67 .eql 31 1,
    vo 66 67]
def f58_17:AC:=.ops [0,4,5,6,31,66] [4,5,6] f58_17l
theorem f58_17e:OP f58_17 f58_17l [0,4,5,6,31,66] [4,5,6]:=rfl
def f58_20l:List GI:=[⟨none,.load (some 69) (.r 4) (some 67)⟩,
    vd 70 5 1,
    vl 71 70,
    vd 72 5 2,
    vl 73 72,
    ⟨none,.call (some 74) false (.f 72) [(.r 69),(.r 71),(.r 73)]⟩,
    vv 68 74,
    ve 75 68 0,
    ve 76 68 1,
    ⟨none,.newL 13 [(.lit (.int .i64 0)),(.lit (.int .u64 0)),(.lit (.int .i64 0)),(.lit (.int .i64 0)),(.lit (.int .i64 0)),(.lit (.int .i64 0)),(.lit (.int .i64 0)),(.lit (.int .i64 0)),(.lit (.int .i64 0)),(.lit (.int .i64 0)),(.lit (.int .i64 0)),(.lit (.int .i64 0)),(.lit (.int .i64 0)),(.lit (.int .i64 0)),(.lit (.int .i64 0)),(.lit (.int .i64 0)),(.lit (.int .i64 0)),(.lit (.int .i64 0)),(.lit (.int .i64 0)),(.lit (.int .i64 0)),(.lit (.int .i64 0)),(.lit (.int .i64 0)),(.lit (.int .i64 0)),(.lit (.int .i64 0)),(.lit (.int .i64 0)),(.lit (.int .i64 0)),(.lit (.int .i64 0)),(.lit (.int .i64 0)),(.lit (.int .i64 0)),(.lit (.int .i64 0)),(.lit (.int .i64 0)),(.lit (.int .i64 0)),(.lit (.int .i64 0)),(.lit (.int .i64 0)),(.lit (.int .i64 0)),(.lit (.int .i64 0)),(.lit (.int .i64 0)),(.lit (.int .i64 0)),(.lit (.int .i64 0)),(.lit (.int .i64 0)),(.lit (.int .i64 0)),(.lit (.int .i64 0)),(.lit (.int .i64 0)),(.lit (.int .i64 0)),(.lit (.int .i64 0)),(.lit (.int .i64 0)),(.lit (.int .i64 0)),(.lit (.int .i64 0)),(.lit (.int .i64 0)),(.lit (.int .i64 0)),(.lit (.int .i64 0)),(.lit (.int .i64 0)),(.lit (.int .i64 0)),(.lit (.int .i64 0)),(.lit (.int .i64 0)),(.lit (.int .i64 0)),(.lit (.int .i64 0)),(.lit (.int .i64 0)),(.lit (.int .i64 0)),(.lit (.int .i64 0)),(.lit (.int .i64 0)),(.lit (.int .i64 0)),(.lit (.int .i64 0)),(.lit (.int .i64 0)),(.lit (.int .i64 0)),(.lit (.int .i64 0)),(.lit (.slice none 0 0))]⟩,
    ⟨none,.store 67 (.r 13) (.r 75)⟩,
    vo 14 76]
def f58_20:AC:=.ops [0,5,6,13,14] [5,6,13] f58_20l
theorem f58_20e:OP f58_20 f58_20l [0,5,6,13,14] [5,6,13]:=rfl
def f58_22h:List GI:=[⟨none,.load (some 77) (.r 13) (some 67)⟩,
    vv 78 0,
    vd 79 5 1,
    vl 80 79,
    vd 81 5 2,
    vl 82 81]
def f58_22p:List (Bool×GI):=[(false,vv 84 14),
    (true,⟨none,.bin (some 85) .num .eql (.r 83) (.r 84)⟩),
    (true,⟨none,.store 67 (.r 6) (.r 77)⟩)]
def f58_22l:List GI:=[vo 7 85]
def f58_22:AC:=.drawM [6,7] [6] f58_22h (some 83) (.f 36) [(.r 78),(.r 80),(.r 82)] f58_22p f58_22l
theorem f58_22e:aC P id m f58_22 sf st Q = (m = false∧drawM P id f58_22h (some 83) (.f 36) [(.r 78),(.r 80),(.r 82)] f58_22p sf st (nY P id m [6,7] [6] f58_22l Q)):=rfl
def f58_21:AC:=.seq f58_22 .ret
theorem f58_21e:SQ f58_21 f58_22 .ret:=rfl
def f58_19:AC:=.seq f58_20 f58_21
theorem f58_19e:SQ f58_19 f58_20 f58_21:=rfl
def f58_24l:List GI:=[vb 87 .eql 31 2,
    vo 86 87]
def f58_24:AC:=.ops [0,4,5,6,31,86] [4,5,6] f58_24l
theorem f58_24e:OP f58_24 f58_24l [0,4,5,6,31,86] [4,5,6]:=rfl
def f58_27l:List GI:=[vv 89 0,
    vd 90 5 1,
    vl 91 90,
    vd 92 5 2,
    vl 93 92,
    ⟨none,.call (some 94) false (.f 37) [(.r 89),(.r 91),(.r 93)]⟩,
    vv 88 94,
    ve 95 88 0,
    ve 96 88 1,
    vo 15 95,
    vo 16 96]
def f58_27:AC:=.ops [4,5,6,15,16] [4,5,6] f58_27l
theorem f58_27e:OP f58_27 f58_27l [4,5,6,15,16] [4,5,6]:=rfl
def f58_29l:List GI:=[⟨none,.load (some 98) (.r 4) (some 67)⟩,
    vd 99 5 1,
    vl 100 99,
    vd 101 5 2,
    vl 102 101,
    ⟨none,.call (some 103) false (.f 73) [(.r 98),(.r 100),(.r 102)]⟩,
    vv 97 103,
    ve 104 97 0,
    ve 105 97 1,
    ve 106 97 2,
    ⟨none,.newL 17 [(.lit (.int .i64 0)),(.lit (.int .u64 0)),(.lit (.int .i64 0)),(.lit (.int .i64 0)),(.lit (.int .i64 0)),(.lit (.int .i64 0)),(.lit (.int .i64 0)),(.lit (.int .i64 0)),(.lit (.int .i64 0)),(.lit (.int .i64 0)),(.lit (.int .i64 0)),(.lit (.int .i64 0)),(.lit (.int .i64 0)),(.lit (.int .i64 0)),(.lit (.int .i64 0)),(.lit (.int .i64 0)),(.lit (.int .i64 0)),(.lit (.int .i64 0)),(.lit (.int .i64 0)),(.lit (.int .i64 0)),(.lit (.int .i64 0)),(.lit (.int .i64 0)),(.lit (.int .i64 0)),(.lit (.int .i64 0)),(.lit (.int .i64 0)),(.lit (.int .i64 0)),(.lit (.int .i64 0)),(.lit (.int .i64 0)),(.lit (.int .i64 0)),(.lit (.int .i64 0)),(.lit (.int .i64 0)),(.lit (.int .i64 0)),(.lit (.int .i64 0)),(.lit (.int .i64 0)),(.lit (.int .i64 0)),(.lit (.int .i64 0)),(.lit (.int .i64 0)),(.lit (.int .i64 0)),(.lit (.int .i64 0)),(.lit (.int .i64 0)),(.lit (.int .i64 0)),(.lit (.int .i64 0)),(.lit (.int .i64 0)),(.lit (.int .i64 0)),(.lit (.int .i64 0)),(.lit (.int .i64 0)),(.lit (.int .i64 0)),(.lit (.int .i64 0)),(.lit (.int .i64 0)),(.lit (.int .i64 0)),(.lit (.int .i64 0)),(.lit (.int .i64 0)),(.lit (.int .i64 0)),(.lit (.int .i64 0)),(.lit (.int .i64 0)),(.lit (.int .i64 0)),(.lit (.int .i64 0)),(.lit (.int .i64 0)),(.lit (.int .i64 0)),(.lit (.int .i64 0)),(.lit (.int .i64 0)),(.lit (.int .i64 0)),(.lit (.int .i64 0)),(.lit (.int .i64 0)),(.lit (.int .i64 0)),(.lit (.int .i64 0)),(.lit (.slice none 0 0))]⟩,
    ⟨none,.store 67 (.r 17) (.r 104)⟩,
    vo 18 105,
    vo 19 106]
def f58_29:AC:=.ops [6,15,16,17,18,19] [6,17] f58_29l
theorem f58_29e:OP f58_29 f58_29l [6,15,16,17,18,19] [6,17]:=rfl
def f58_31h:List GI:=[⟨none,.load (some 107) (.r 17) (some 67)⟩,
    vv 108 15,
    vv 109 18,
    ⟨none,.call (some 110) true (.f 54) [(.r 108),(.r 109)]⟩,
    vv 111 110,
    ⟨some (111,true),.mv (some 112) (.r 16)⟩,
    ⟨some (111,true),.mv (some 113) (.r 19)⟩,
    ⟨some (111,true),.bin (some 114) .num .eql (.r 112) (.r 113)⟩,
    ⟨none,.pick (some 115) (.r 111) (.r 114) (.c (.lit (.bool false)))⟩,
    ⟨none,.store 67 (.r 6) (.r 107)⟩]
def f58_31l:List GI:=[vo 7 115]
def f58_31:AC:=.draw [6,7] [6] [6] f58_31h f58_31l
theorem f58_31e:aC P id m f58_31 sf st Q = a9 P id sf.locs st f58_31h (cx P id m [6] [6,7] [6] f58_31l Q st) [] ⟨sf.regs,bu [6] sf.locs⟩:=rfl
def f58_30:AC:=.seq f58_31 .ret
theorem f58_30e:SQ f58_30 f58_31 .ret:=rfl
def f58_28:AC:=.seq f58_29 f58_30
theorem f58_28e:SQ f58_28 f58_29 f58_30:=rfl
def f58_26:AC:=.seq f58_27 f58_28
theorem f58_26e:SQ f58_26 f58_27 f58_28:=rfl
def f58_33l:List GI:=[vb 117 .eql 31 3,
    vo 116 117]
def f58_33:AC:=.ops [0,4,5,6,116] [4,5,6] f58_33l
theorem f58_33e:OP f58_33 f58_33l [0,4,5,6,116] [4,5,6]:=rfl
def f58_36l:List GI:=[vv 119 0,
    vd 120 5 1,
    vl 121 120,
    ⟨none,.call (some 122) false (.f 38) [(.r 119),(.r 121)]⟩,
    vv 118 122,
    ve 123 118 0,
    ve 124 118 1,
    vo 20 123,
    vo 21 124]
def f58_36:AC:=.ops [4,5,6,20,21] [4,5,6] f58_36l
theorem f58_36e:OP f58_36 f58_36l [4,5,6,20,21] [4,5,6]:=rfl
def f58_38l:List GI:=[⟨none,.load (some 126) (.r 4) (some 67)⟩,
    vd 127 5 1,
    vl 128 127,
    ⟨none,.call (some 129) false (.f 74) [(.r 126),(.r 128)]⟩,
    vv 125 129,
    ve 130 125 0,
    ve 131 125 1,
    ve 132 125 2,
    ⟨none,.newL 22 [(.lit (.int .i64 0)),(.lit (.int .u64 0)),(.lit (.int .i64 0)),(.lit (.int .i64 0)),(.lit (.int .i64 0)),(.lit (.int .i64 0)),(.lit (.int .i64 0)),(.lit (.int .i64 0)),(.lit (.int .i64 0)),(.lit (.int .i64 0)),(.lit (.int .i64 0)),(.lit (.int .i64 0)),(.lit (.int .i64 0)),(.lit (.int .i64 0)),(.lit (.int .i64 0)),(.lit (.int .i64 0)),(.lit (.int .i64 0)),(.lit (.int .i64 0)),(.lit (.int .i64 0)),(.lit (.int .i64 0)),(.lit (.int .i64 0)),(.lit (.int .i64 0)),(.lit (.int .i64 0)),(.lit (.int .i64 0)),(.lit (.int .i64 0)),(.lit (.int .i64 0)),(.lit (.int .i64 0)),(.lit (.int .i64 0)),(.lit (.int .i64 0)),(.lit (.int .i64 0)),(.lit (.int .i64 0)),(.lit (.int .i64 0)),(.lit (.int .i64 0)),(.lit (.int .i64 0)),(.lit (.int .i64 0)),(.lit (.int .i64 0)),(.lit (.int .i64 0)),(.lit (.int .i64 0)),(.lit (.int .i64 0)),(.lit (.int .i64 0)),(.lit (.int .i64 0)),(.lit (.int .i64 0)),(.lit (.int .i64 0)),(.lit (.int .i64 0)),(.lit (.int .i64 0)),(.lit (.int .i64 0)),(.lit (.int .i64 0)),(.lit (.int .i64 0)),(.lit (.int .i64 0)),(.lit (.int .i64 0)),(.lit (.int .i64 0)),(.lit (.int .i64 0)),(.lit (.int .i64 0)),(.lit (.int .i64 0)),(.lit (.int .i64 0)),(.lit (.int .i64 0)),(.lit (.int .i64 0)),(.lit (.int .i64 0)),(.lit (.int .i64 0)),(.lit (.int .i64 0)),(.lit (.int .i64 0)),(.lit (.int .i64 0)),(.lit (.int .i64 0)),(.lit (.int .i64 0)),(.lit (.int .i64 0)),(.lit (.int .i64 0)),(.lit (.slice none 0 0))]⟩,
    ⟨none,.store 67 (.r 22) (.r 130)⟩,
    vo 23 131,
    vo 24 132]
def f58_38:AC:=.ops [6,20,21,22,23,24] [6,22] f58_38l
theorem f58_38e:OP f58_38 f58_38l [6,20,21,22,23,24] [6,22]:=rfl
def f58_40h:List GI:=[⟨none,.load (some 133) (.r 22) (some 67)⟩,
    vv 134 20,
    vv 135 23,
    ⟨none,.call (some 136) true (.f 54) [(.r 134),(.r 135)]⟩,
    vv 137 136,
    ⟨some (137,true),.mv (some 138) (.r 21)⟩,
    ⟨some (137,true),.mv (some 139) (.r 24)⟩,
    ⟨some (137,true),.bin (some 140) .num .eql (.r 138) (.r 139)⟩,
    ⟨none,.pick (some 141) (.r 137) (.r 140) (.c (.lit (.bool false)))⟩,
    ⟨none,.store 67 (.r 6) (.r 133)⟩]
def f58_40l:List GI:=[vo 7 141]
def f58_40:AC:=.draw [6,7] [6] [6] f58_40h f58_40l
theorem f58_40e:aC P id m f58_40 sf st Q = a9 P id sf.locs st f58_40h (cx P id m [6] [6,7] [6] f58_40l Q st) [] ⟨sf.regs,bu [6] sf.locs⟩:=rfl
def f58_39:AC:=.seq f58_40 .ret
theorem f58_39e:SQ f58_39 f58_40 .ret:=rfl
def f58_37:AC:=.seq f58_38 f58_39
theorem f58_37e:SQ f58_37 f58_38 f58_39:=rfl
def f58_35:AC:=.seq f58_36 f58_37
theorem f58_35e:SQ f58_35 f58_36 f58_37:=rfl
def f58_34:AC:=.cond (.r 116) f58_35 .skip
theorem f58_34e:CN f58_34 116 f58_35 .skip:=rfl
def f58_32:AC:=.seq f58_33 f58_34
theorem f58_32e:SQ f58_32 f58_33 f58_34:=rfl
def f58_25:AC:=.cond (.r 86) f58_26 f58_32
theorem f58_25e:CN f58_25 86 f58_26 f58_32:=rfl
def f58_23:AC:=.seq f58_24 f58_25
theorem f58_23e:SQ f58_23 f58_24 f58_25:=rfl
def f58_18:AC:=.cond (.r 66) f58_19 f58_23
theorem f58_18e:CN f58_18 66 f58_19 f58_23:=rfl
def f58_16:AC:=.seq f58_17 f58_18
theorem f58_16e:SQ f58_16 f58_17 f58_18:=rfl
def f58_9:AC:=.cond (.r 32) f58_10 f58_16
theorem f58_9e:CN f58_9 32 f58_10 f58_16:=rfl
def f58_7:AC:=.seq f58_8 f58_9
theorem f58_7e:SQ f58_7 f58_8 f58_9:=rfl
def f58_6:AC:=.block 0 f58_7
theorem f58_6e:BL f58_6 f58_7 0:=rfl
def f58_4:AC:=.seq f58_5 f58_6
theorem f58_4e:SQ f58_4 f58_5 f58_6:=rfl
def f58_42l:List GI:=[vv 143 0,
    vd 144 5 3,
    vl 145 144,
    ⟨none,.call (some 146) false (.f 39) [(.r 143),(.r 145)]⟩,
    vv 142 146,
    ve 147 142 0,
    ve 148 142 1,
    vo 25 147,
    vo 26 148]
def f58_42:AC:=.ops [4,5,6,25,26] [4,5,6] f58_42l
theorem f58_42e:OP f58_42 f58_42l [4,5,6,25,26] [4,5,6]:=rfl
def f58_44l:List GI:=[⟨none,.load (some 150) (.r 4) (some 67)⟩,
    vd 151 5 3,
    vl 152 151,
    ⟨none,.call (some 153) false (.f 75) [(.r 150),(.r 152)]⟩,
    vv 149 153,
    ve 154 149 0,
    ve 155 149 1,
    ve 156 149 2,
    ⟨none,.newL 27 [(.lit (.int .i64 0)),(.lit (.int .u64 0)),(.lit (.int .i64 0)),(.lit (.int .i64 0)),(.lit (.int .i64 0)),(.lit (.int .i64 0)),(.lit (.int .i64 0)),(.lit (.int .i64 0)),(.lit (.int .i64 0)),(.lit (.int .i64 0)),(.lit (.int .i64 0)),(.lit (.int .i64 0)),(.lit (.int .i64 0)),(.lit (.int .i64 0)),(.lit (.int .i64 0)),(.lit (.int .i64 0)),(.lit (.int .i64 0)),(.lit (.int .i64 0)),(.lit (.int .i64 0)),(.lit (.int .i64 0)),(.lit (.int .i64 0)),(.lit (.int .i64 0)),(.lit (.int .i64 0)),(.lit (.int .i64 0)),(.lit (.int .i64 0)),(.lit (.int .i64 0)),(.lit (.int .i64 0)),(.lit (.int .i64 0)),(.lit (.int .i64 0)),(.lit (.int .i64 0)),(.lit (.int .i64 0)),(.lit (.int .i64 0)),(.lit (.int .i64 0)),(.lit (.int .i64 0)),(.lit (.int .i64 0)),(.lit (.int .i64 0)),(.lit (.int .i64 0)),(.lit (.int .i64 0)),(.lit (.int .i64 0)),(.lit (.int .i64 0)),(.lit (.int .i64 0)),(.lit (.int .i64 0)),(.lit (.int .i64 0)),(.lit (.int .i64 0)),(.lit (.int .i64 0)),(.lit (.int .i64 0)),(.lit (.int .i64 0)),(.lit (.int .i64 0)),(.lit (.int .i64 0)),(.lit (.int .i64 0)),(.lit (.int .i64 0)),(.lit (.int .i64 0)),(.lit (.int .i64 0)),(.lit (.int .i64 0)),(.lit (.int .i64 0)),(.lit (.int .i64 0)),(.lit (.int .i64 0)),(.lit (.int .i64 0)),(.lit (.int .i64 0)),(.lit (.int .i64 0)),(.lit (.int .i64 0)),(.lit (.int .i64 0)),(.lit (.int .i64 0)),(.lit (.int .i64 0)),(.lit (.int .i64 0)),(.lit (.int .i64 0)),(.lit (.slice none 0 0))]⟩,
    ⟨none,.store 67 (.r 27) (.r 154)⟩,
    vo 28 155,
    vo 29 156]
def f58_44:AC:=.ops [6,25,26,27,28,29] [6,27] f58_44l
theorem f58_44e:OP f58_44 f58_44l [6,25,26,27,28,29] [6,27]:=rfl
def f58_46h:List GI:=[⟨none,.load (some 157) (.r 27) (some 67)⟩,
    vv 158 25,
    vv 159 28,
    ⟨none,.call (some 160) true (.f 54) [(.r 158),(.r 159)]⟩,
    vv 161 160,
    ⟨some (161,true),.mv (some 162) (.r 26)⟩,
    ⟨some (161,true),.mv (some 163) (.r 29)⟩,
    ⟨some (161,true),.bin (some 164) .num .eql (.r 162) (.r 163)⟩,
    ⟨none,.pick (some 165) (.r 161) (.r 164) (.c (.lit (.bool false)))⟩,
    ⟨none,.store 67 (.r 6) (.r 157)⟩]
def f58_46l:List GI:=[vo 7 165]
def f58_46:AC:=.draw [6,7] [6] [6] f58_46h f58_46l
theorem f58_46e:aC P id m f58_46 sf st Q = a9 P id sf.locs st f58_46h (cx P id m [6] [6,7] [6] f58_46l Q st) [] ⟨sf.regs,bu [6] sf.locs⟩:=rfl
def f58_45:AC:=.seq f58_46 .ret
theorem f58_45e:SQ f58_45 f58_46 .ret:=rfl
def f58_43:AC:=.seq f58_44 f58_45
theorem f58_43e:SQ f58_43 f58_44 f58_45:=rfl
def f58_41:AC:=.seq f58_42 f58_43
theorem f58_41e:SQ f58_41 f58_42 f58_43:=rfl
def f58_3:AC:=.seq f58_4 f58_41
theorem f58_3e:SQ f58_3 f58_4 f58_41:=rfl
def f58_1:AC:=.seq f58_2 f58_3
theorem f58_1e:SQ f58_1 f58_2 f58_3:=rfl
def c_f58:AFun:=⟨166,[.cell 6 (some 67),.tmp 7],f58_1⟩
theorem k_f58:bT Go.Proofs.Try.prog x_f58 58 = some c_f58:=by kernel_rfl
theorem e_f58:aX Go.Proofs.Try.prog 58 = true:=by kernel_rfl

def n_f59:Nat:=59
def x_f59:Cx:=⟨some,id,12,fun s=>([0,2,3,4,5,9,10,11]:List Nat).contains s,fun s=>([]:List Nat).contains s,msOf [(2,[0],[]),(6,[2],[])]⟩
def f59_2l:List GI:=[⟨none,.mv (some 2) (.c (.lit (.bool false)))⟩]
def f59_2:AC:=.ops [0] [] f59_2l
theorem f59_2e:OP f59_2 f59_2l [0] []:=rfl
def f59_4l:List GI:=[vv 3 0,
    ⟨none,.bin (some 4) (.nil .ptr) .eql (.r 3) (.c (.lit (.pointer none)))⟩,
    vv 5 4,
    ⟨some (5,false),.mv (some 6) (.r 0)⟩,
    ⟨some (5,false),.nilck (some 7) (.r 6)⟩,
    ⟨some (5,false),.addr (some 8) (.r 7) 0⟩,
    ⟨some (5,false),.load (some 9) (.r 8) none⟩,
    ⟨some (5,false),.bin (some 10) .num .eql (.r 9) (.c (.lit (.int .i64 0)))⟩,
    ⟨none,.pick (some 11) (.r 5) (.c (.lit (.bool true))) (.r 10)⟩,
    vo 2 11]
def f59_4:AC:=.ops [2] [] f59_4l
theorem f59_4e:OP f59_4 f59_4l [2] []:=rfl
def f59_3:AC:=.seq f59_4 .ret
theorem f59_3e:SQ f59_3 f59_4 .ret:=rfl
def f59_1:AC:=.seq f59_2 f59_3
theorem f59_1e:SQ f59_1 f59_2 f59_3:=rfl
def c_f59:AFun:=⟨12,[.tmp 2],f59_1⟩
theorem k_f59:bT Go.Proofs.Try.prog x_f59 59 = some c_f59:=by kernel_rfl
theorem e_f59:aX Go.Proofs.Try.prog 59 = true:=by kernel_rfl

def n_f60:Nat:=60
def x_f60:Cx:=⟨some,id,9,fun s=>([0,2,3,4,5,6,7,8]:List Nat).contains s,fun s=>([]:List Nat).contains s,msOf [(2,[0],[]),(6,[2],[])]⟩
def f60_2l:List GI:=[⟨none,.mv (some 2) (.c (.lit (.slice none 0 0)))⟩]
def f60_2:AC:=.ops [0] [] f60_2l
theorem f60_2e:OP f60_2 f60_2l [0] []:=rfl
def f60_4l:List GI:=[vv 3 0,
    vv 4 0,
    ⟨none,.len (some 5) .sl (.r 4)⟩,
    vv 6 0,
    ⟨none,.len (some 7) .sl (.r 6)⟩,
    ⟨none,.sli3 (some 8) (.r 3) none (some (.r 5)) (.r 7) 1⟩,
    vo 2 8]
def f60_4:AC:=.ops [2] [] f60_4l
theorem f60_4e:OP f60_4 f60_4l [2] []:=rfl
def f60_3:AC:=.seq f60_4 .ret
theorem f60_3e:SQ f60_3 f60_4 .ret:=rfl
def f60_1:AC:=.seq f60_2 f60_3
theorem f60_1e:SQ f60_1 f60_2 f60_3:=rfl
def c_f60:AFun:=⟨9,[.tmp 2],f60_1⟩
theorem k_f60:bT Go.Proofs.Try.prog x_f60 60 = some c_f60:=by kernel_rfl
theorem e_f60:aX Go.Proofs.Try.prog 60 = true:=by kernel_rfl

def n_f61:Nat:=61
def x_f61:Cx:=⟨some,id,41,fun s=>([0,1,2,6,10,11,13,14,15,16,17,18,19,20,21,22,23,24,28,29,30,31,35,36,37,38,39]:List Nat).contains s,fun s=>([]:List Nat).contains s,msOf [(2,[0,1,2],[]),(24,[0,1,2,9],[]),(100,[6],[]),(102,[0,1,12],[]),(412,[6],[]),(28,[8],[]),(58,[40],[]),(236,[6],[]),(30,[6],[])]⟩
def f61_2l:List GI:=[⟨none,.mv (some 6) (.c (.lit (.int .i64 0)))⟩]
def f61_2:AC:=.ops [0,1,2] [] f61_2l
theorem f61_2e:OP f61_2 f61_2l [0,1,2] []:=rfl
def f61_6l:List GI:=[vv 10 0,
    ⟨none,.call (some 11) false (.f 59) [(.r 10)]⟩,
    vo 9 11]
def f61_6:AC:=.ops [0,1,2,9] [] f61_6l
theorem f61_6e:OP f61_6 f61_6l [0,1,2,9] []:=rfl
def f61_9l:List GI:=[⟨none,.mv (some 6) (.c (.lit (.int .i64 1)))⟩]
def f61_9:AC:=.ops [6] [] f61_9l
theorem f61_9e:OP f61_9 f61_9l [6] []:=rfl
def f61_8:AC:=.seq f61_9 .ret
theorem f61_8e:SQ f61_8 f61_9 .ret:=rfl
def f61_11l:List GI:=[vv 13 1,
    vb 14 .lss 13 0,
    vv 15 14,
    ⟨some (15,false),.mv (some 16) (.r 1)⟩,
    ⟨some (15,false),.bin (some 17) .num .geq (.r 16) (.c (.lit (.int .i64 64)))⟩,
    ⟨none,.pick (some 18) (.r 15) (.c (.lit (.bool true))) (.r 17)⟩,
    vv 19 18,
    ⟨some (19,false),.mv (some 20) (.r 2)⟩,
    ⟨some (19,false),.bin (some 21) .num .lss (.r 20) (.c (.lit (.int .i64 1)))⟩,
    ⟨none,.pick (some 22) (.r 19) (.c (.lit (.bool true))) (.r 21)⟩,
    vv 23 22,
    ⟨some (23,false),.mv (some 24) (.r 2)⟩,
    ⟨some (23,false),.mv (some 25) (.r 0)⟩,
    ⟨some (23,false),.nilck (some 26) (.r 25)⟩,
    ⟨some (23,false),.addr (some 27) (.r 26) 0⟩,
    ⟨some (23,false),.load (some 28) (.r 27) none⟩,
    ⟨some (23,false),.bin (some 29) .num .gtr (.r 24) (.r 28)⟩,
    ⟨none,.pick (some 30) (.r 23) (.c (.lit (.bool true))) (.r 29)⟩,
    vo 12 30]
def f61_11:AC:=.ops [0,1,12] [] f61_11l
theorem f61_11e:OP f61_11 f61_11l [0,1,12] []:=rfl
def f61_14l:List GI:=[⟨none,.mv (some 6) (.c (.lit (.int .i64 2)))⟩]
def f61_14:AC:=.ops [6] [] f61_14l
theorem f61_14e:OP f61_14 f61_14l [6] []:=rfl
def f61_13:AC:=.seq f61_14 .ret
theorem f61_13e:SQ f61_13 f61_14 .ret:=rfl
def f61_12:AC:=.cond (.r 12) f61_13 .skip
theorem f61_12e:CN f61_12 12 f61_13 .skip:=rfl
def f61_10:AC:=.seq f61_11 f61_12
theorem f61_10e:SQ f61_10 f61_11 f61_12:=rfl
def f61_7:AC:=.cond (.r 9) f61_8 f61_10
theorem f61_7e:CN f61_7 9 f61_8 f61_10:=rfl
def f61_5:AC:=.seq f61_6 f61_7
theorem f61_5e:SQ f61_5 f61_6 f61_7:=rfl
def f61_4:AC:=.block 0 f61_5
theorem f61_4e:BL f61_4 f61_5 0:=rfl
def f61_17l:List GI:=[vv 32 0,
    vn 33 32,
    vd 34 33 68,
    vl 35 34,
    vv 36 1,
    ⟨none,.lookup (some 37) (.int .i64) (.agg [(.lit (.int .i64 0)),(.lit (.int .u64 0)),(.lit (.int .u64 0))]) true (.r 35) (.r 36)⟩,
    vv 31 37,
    ve 38 31 0,
    ve 39 31 1,
    ⟨none,.newL 7 [(.lit (.int .i64 0)),(.lit (.int .u64 0)),(.lit (.int .u64 0))]⟩,
    ⟨none,.store 3 (.r 7) (.r 38)⟩,
    vo 8 39]
def f61_17:AC:=.ops [8] [] f61_17l
theorem f61_17e:OP f61_17 f61_17l [8] []:=rfl
def f61_19l:List GI:=[vv 40 8]
def f61_19:AC:=.ops [40] [] f61_19l
theorem f61_19e:OP f61_19 f61_19l [40] []:=rfl
def f61_22l:List GI:=[⟨none,.mv (some 6) (.c (.lit (.int .i64 11)))⟩]
def f61_22:AC:=.ops [6] [] f61_22l
theorem f61_22e:OP f61_22 f61_22l [6] []:=rfl
def f61_21:AC:=.seq f61_22 .ret
theorem f61_21e:SQ f61_21 f61_22 .ret:=rfl
def f61_20:AC:=.cond (.r 40) f61_21 .skip
theorem f61_20e:CN f61_20 40 f61_21 .skip:=rfl
def f61_18:AC:=.seq f61_19 f61_20
theorem f61_18e:SQ f61_18 f61_19 f61_20:=rfl
def f61_16:AC:=.seq f61_17 f61_18
theorem f61_16e:SQ f61_16 f61_17 f61_18:=rfl
def f61_24l:List GI:=[⟨none,.mv (some 6) (.c (.lit (.int .i64 0)))⟩]
def f61_24:AC:=.ops [6] [] f61_24l
theorem f61_24e:OP f61_24 f61_24l [6] []:=rfl
def f61_23:AC:=.seq f61_24 .ret
theorem f61_23e:SQ f61_23 f61_24 .ret:=rfl
def f61_15:AC:=.seq f61_16 f61_23
theorem f61_15e:SQ f61_15 f61_16 f61_23:=rfl
def f61_3:AC:=.seq f61_4 f61_15
theorem f61_3e:SQ f61_3 f61_4 f61_15:=rfl
def f61_1:AC:=.seq f61_2 f61_3
theorem f61_1e:SQ f61_1 f61_2 f61_3:=rfl
def c_f61:AFun:=⟨41,[.tmp 6],f61_1⟩
theorem k_f61:bT Go.Proofs.Try.prog x_f61 61 = some c_f61:=by kernel_rfl
theorem e_f61:aX Go.Proofs.Try.prog 61 = true:=by kernel_rfl

def n_f62:Nat:=62
def x_f62:Cx:=⟨some,id,12,fun s=>([0,1,4,5,6,7,8,9,10,11]:List Nat).contains s,fun s=>([]:List Nat).contains s,msOf [(2,[0,1],[]),(6,[4],[])]⟩
def f62_2l:List GI:=[⟨none,.mv (some 4) (.c (.lit (.bool false)))⟩]
def f62_2:AC:=.ops [0,1] [] f62_2l
theorem f62_2e:OP f62_2 f62_2l [0,1] []:=rfl
def f62_4l:List GI:=[vv 5 1,
    ⟨none,.bin (some 6) .num .neq (.r 5) (.c (.lit (.int .u64 18446744073709551615)))⟩,
    vv 7 6,
    ⟨some (7,true),.mv (some 8) (.r 0)⟩,
    ⟨some (7,true),.mv (some 9) (.r 1)⟩,
    ⟨some (7,true),.bin (some 10) .num .leq (.r 8) (.r 9)⟩,
    ⟨none,.pick (some 11) (.r 7) (.r 10) (.c (.lit (.bool false)))⟩,
    vo 4 11]
def f62_4:AC:=.ops [4] [] f62_4l
theorem f62_4e:OP f62_4 f62_4l [4] []:=rfl
def f62_3:AC:=.seq f62_4 .ret
theorem f62_3e:SQ f62_3 f62_4 .ret:=rfl
def f62_1:AC:=.seq f62_2 f62_3
theorem f62_1e:SQ f62_1 f62_2 f62_3:=rfl
def c_f62:AFun:=⟨12,[.tmp 4],f62_1⟩
theorem k_f62:bT Go.Proofs.Try.prog x_f62 62 = some c_f62:=by kernel_rfl
theorem e_f62:aX Go.Proofs.Try.prog 62 = true:=by kernel_rfl

def n_f63:Nat:=63
def x_f63:Cx:=⟨some,id,25,fun s=>([1,2,7,11,12,13,20,21,22]:List Nat).contains s,fun s=>([]:List Nat).contains s,msOf [(2,[0,2],[]),(3,[],[])]⟩
def f63_2h:List GI:=[vv 6 0,
    vv 7 1,
    vn 8 6,
    vd 9 8 3,
    ⟨none,.ixA (some 10) (.r 9) (.r 7) 64 1⟩,
    vl 11 10,
    vv 12 2,
    ⟨none,.bin (some 13) .num .add (.r 11) (.r 12)⟩,
    vn 14 6,
    vd 15 14 3]
def f63_2l:List GI:=[⟨none,.ixA (some 16) (.r 15) (.r 7) 64 1⟩,
    ⟨none,.store 1 (.r 16) (.r 13)⟩]
def f63_2:AC:=.draw [0,2] [] [] f63_2h f63_2l
theorem f63_2e:aC P id m f63_2 sf st Q = a9 P id sf.locs st f63_2h (cx P id m [] [0,2] [] f63_2l Q st) [] ⟨sf.regs,bu [] sf.locs⟩:=rfl
def f63_3l:List GI:=[vv 17 0,
    vn 18 17,
    vd 19 18 1,
    vl 20 19,
    vv 21 2,
    ⟨none,.bin (some 22) .num .sub (.r 20) (.r 21)⟩,
    vn 23 17,
    vd 24 23 1,
    ⟨none,.store 1 (.r 24) (.r 22)⟩]
def f63_3:AC:=.ops [] [] f63_3l
theorem f63_3e:OP f63_3 f63_3l [] []:=rfl
def f63_1:AC:=.seq f63_2 f63_3
theorem f63_1e:SQ f63_1 f63_2 f63_3:=rfl
def c_f63:AFun:=⟨25,[],f63_1⟩
theorem k_f63:bT Go.Proofs.Try.prog x_f63 63 = some c_f63:=by kernel_rfl
theorem e_f63:aX Go.Proofs.Try.prog 63 = true:=by kernel_rfl

def n_f64:Nat:=64
def x_f64:Cx:=⟨some,id,51,fun s=>([0,1,4,5,12,13,15,19,20,21,22,23,27,28,29,31,35,37,38,40,41,43,45,46,47,48,49,50]:List Nat).contains s,fun s=>([49]:List Nat).contains s,msOf [(2,[0,1],[]),(12,[0,1],[]),(96,[0,1,14],[]),(195,[1],[]),(196,[0,1,5],[]),(394,[0,1,5,8],[8]),(1580,[0,1,5,8,36],[8]),(3162,[1],[]),(1582,[0,1,5,8],[8]),(3166,[0,1,5],[]),(3167,[0,1],[]),(14,[4],[])]⟩
def f64_2l:List GI:=[⟨none,.mv (some 4) (.c (.lit (.slice none 0 0)))⟩]
def f64_2:AC:=.ops [0,1] [] f64_2l
theorem f64_2e:OP f64_2 f64_2l [0,1] []:=rfl
def f64_8l:List GI:=[vv 9 0,
    vn 10 9,
    vd 11 10 67,
    vl 12 11,
    ⟨none,.call (some 13) false (.f 47) [(.r 12)]⟩,
    vb 14 .gtr 13 0]
def f64_8:AC:=.ops [0,1,14] [] f64_8l
theorem f64_8e:OP f64_8 f64_8l [0,1,14] []:=rfl
def f64_9:AC:=.cond (.r 14) .skip (.exit [1] [] 0)
theorem f64_9e:CN f64_9 14 .skip (.exit [1] [] 0):=rfl
def f64_7:AC:=.seq f64_8 f64_9
theorem f64_7e:SQ f64_7 f64_8 f64_9:=rfl
def f64_12l:List GI:=[vv 16 0,
    vn 17 16,
    vd 18 17 67,
    vl 19 18,
    ⟨none,.call (some 20) false (.f 70) [(.r 19)]⟩,
    vv 15 20,
    ve 21 15 0,
    ve 22 15 1,
    ve 23 15 2,
    vo 5 21,
    vo 6 22,
    vo 7 23]
def f64_12:AC:=.ops [0,1,5] [] f64_12l
theorem f64_12e:OP f64_12 f64_12l [0,1,5] []:=rfl
def f64_14l:List GI:=[vv 24 0,
    vn 25 24,
    vd 26 25 68,
    vl 27 26,
    vv 28 5,
    ⟨none,.lookup (some 29) (.int .i64) (.agg [(.lit (.int .i64 0)),(.lit (.int .u64 0)),(.lit (.int .u64 0))]) false (.r 27) (.r 28)⟩,
    ⟨none,.newL 8 [(.lit (.int .i64 0)),(.lit (.int .u64 0)),(.lit (.int .u64 0))]⟩,
    ⟨none,.store 3 (.r 8) (.r 29)⟩]
def f64_14:AC:=.ops [0,1,5,8] [8] f64_14l
theorem f64_14e:OP f64_14 f64_14l [0,1,5,8] [8]:=rfl
def f64_17h:List GI:=[vd 30 8 0,
    vl 31 30,
    vv 32 0,
    vn 33 32,
    vd 34 33 1,
    vl 35 34]
def f64_17l:List GI:=[⟨none,.bin (some 36) .num .gtr (.r 31) (.r 35)⟩]
def f64_17:AC:=.draw [0,1,5,8,36] [8] [] f64_17h f64_17l
theorem f64_17e:aC P id m f64_17 sf st Q = a9 P id sf.locs st f64_17h (cx P id m [] [0,1,5,8,36] [8] f64_17l Q st) [] ⟨sf.regs,bu [] sf.locs⟩:=rfl
def f64_18:AC:=.cond (.r 36) (.exit [1] [] 0) .skip
theorem f64_18e:CN f64_18 36 (.exit [1] [] 0) .skip:=rfl
def f64_16:AC:=.seq f64_17 f64_18
theorem f64_16e:SQ f64_16 f64_17 f64_18:=rfl
def f64_20l:List GI:=[vv 37 0,
    vv 38 5,
    ⟨none,.call (some 39) false (.f 65) [(.r 37),(.r 38)]⟩]
def f64_20:AC:=.ops [0,1,5,8] [8] f64_20l
theorem f64_20e:OP f64_20 f64_20l [0,1,5,8] [8]:=rfl
def f64_22l:List GI:=[vv 40 0,
    vv 41 5,
    vd 42 8 0,
    vl 43 42,
    ⟨none,.call (some 44) false (.f 63) [(.r 40),(.r 41),(.r 43)]⟩]
def f64_22:AC:=.ops [0,1,5] [] f64_22l
theorem f64_22e:OP f64_22 f64_22l [0,1,5] []:=rfl
def f64_23l:List GI:=[vo 45 1,
    vv 46 5,
    ⟨none,.bst (some 47) [(0,1),(1,1)] (.agg [(.lit (.int .i64 0)),(.lit (.int .i64 0))]) [(0,(.r 46))]⟩,
    ⟨none,.bsl (some 48) 2 1 (.agg [(.lit (.int .i64 0)),(.lit (.int .i64 0))]) [(0,(.r 47))]⟩,
    ⟨none,.x (some 49) (.appB (.r 45) 2 16 (.r 48))⟩,
    vo 1 49]
def f64_23:AC:=.ops [0,1] [] f64_23l
theorem f64_23e:OP f64_23 f64_23l [0,1] []:=rfl
def f64_21:AC:=.seq f64_22 f64_23
theorem f64_21e:SQ f64_21 f64_22 f64_23:=rfl
def f64_19:AC:=.seq f64_20 f64_21
theorem f64_19e:SQ f64_19 f64_20 f64_21:=rfl
def f64_15:AC:=.seq f64_16 f64_19
theorem f64_15e:SQ f64_15 f64_16 f64_19:=rfl
def f64_13:AC:=.seq f64_14 f64_15
theorem f64_13e:SQ f64_13 f64_14 f64_15:=rfl
def f64_11:AC:=.seq f64_12 f64_13
theorem f64_11e:SQ f64_11 f64_12 f64_13:=rfl
def f64_10:AC:=.block 1 f64_11
theorem f64_10e:BL f64_10 f64_11 1:=rfl
def f64_6:AC:=.seq f64_7 f64_10
theorem f64_6e:SQ f64_6 f64_7 f64_10:=rfl
def f64_5:AC:=.loop [0,1] [] f64_6
theorem f64_5w:aC P id m f64_5 sf st Q = cd (aC P id m f64_6) [0,1] [] sf st Q:=rfl
def f64_4:AC:=.block 0 f64_5
theorem f64_4e:BL f64_4 f64_5 0:=rfl
def f64_25l:List GI:=[vv 50 1,
    vo 4 50]
def f64_25:AC:=.ops [4] [] f64_25l
theorem f64_25e:OP f64_25 f64_25l [4] []:=rfl
def f64_24:AC:=.seq f64_25 .ret
theorem f64_24e:SQ f64_24 f64_25 .ret:=rfl
def f64_3:AC:=.seq f64_4 f64_24
theorem f64_3e:SQ f64_3 f64_4 f64_24:=rfl
def f64_1:AC:=.seq f64_2 f64_3
theorem f64_1e:SQ f64_1 f64_2 f64_3:=rfl
def c_f64:AFun:=⟨51,[.tmp 4],f64_1⟩
theorem k_f64:bT Go.Proofs.Try.prog x_f64 64 = some c_f64:=by kernel_rfl
theorem e_f64:aX Go.Proofs.Try.prog 64 = true:=by kernel_rfl

def n_f65:Nat:=65
def x_f65:Cx:=⟨some,id,21,fun s=>([1,7,11,12,13,14,19,20]:List Nat).contains s,fun s=>([]:List Nat).contains s,msOf [(2,[0,1],[]),(3,[],[])]⟩
def f65_2h:List GI:=[vv 4 0,
    vn 5 4,
    vd 6 5 67,
    vl 7 6,
    vv 8 0,
    vn 9 8,
    vd 10 9 68,
    vl 11 10,
    vv 12 1,
    ⟨none,.lookup (some 13) (.int .i64) (.agg [(.lit (.int .i64 0)),(.lit (.int .u64 0)),(.lit (.int .u64 0))]) false (.r 11) (.r 12)⟩,
    ⟨none,.field (some 14) (.r 13) 2 none⟩]
def f65_2l:List GI:=[⟨none,.call (some 15) false (.f 51) [(.r 7),(.r 14)]⟩]
def f65_2:AC:=.draw [0,1] [] [] f65_2h f65_2l
theorem f65_2e:aC P id m f65_2 sf st Q = a9 P id sf.locs st f65_2h (cx P id m [] [0,1] [] f65_2l Q st) [] ⟨sf.regs,bu [] sf.locs⟩:=rfl
def f65_3l:List GI:=[vv 16 0,
    vn 17 16,
    vd 18 17 68,
    vl 19 18,
    vv 20 1,
    ⟨none,.del (.int .i64) (.r 19) (.r 20)⟩]
def f65_3:AC:=.ops [] [] f65_3l
theorem f65_3e:OP f65_3 f65_3l [] []:=rfl
def f65_1:AC:=.seq f65_2 f65_3
theorem f65_1e:SQ f65_1 f65_2 f65_3:=rfl
def c_f65:AFun:=⟨21,[],f65_1⟩
theorem k_f65:bT Go.Proofs.Try.prog x_f65 65 = some c_f65:=by kernel_rfl
theorem e_f65:aX Go.Proofs.Try.prog 65 = true:=by kernel_rfl

def n_f66:Nat:=66
def x_f66:Cx:=⟨some,id,8,fun s=>([0,2,3,4,6,7]:List Nat).contains s,fun s=>([]:List Nat).contains s,msOf [(2,[0],[]),(12,[0,5],[]),(52,[2],[]),(14,[2],[])]⟩
def f66_2l:List GI:=[⟨none,.mv (some 2) (.c (.lit (.int .u64 0)))⟩]
def f66_2:AC:=.ops [0] [] f66_2l
theorem f66_2e:OP f66_2 f66_2l [0] []:=rfl
def f66_5l:List GI:=[vv 3 0,
    ⟨none,.len (some 4) .sl (.r 3)⟩,
    vb 5 .eql 4 0]
def f66_5:AC:=.ops [0,5] [] f66_5l
theorem f66_5e:OP f66_5 f66_5l [0,5] []:=rfl
def f66_8l:List GI:=[⟨none,.mv (some 2) (.c (.lit (.int .u64 18446744073709551615)))⟩]
def f66_8:AC:=.ops [2] [] f66_8l
theorem f66_8e:OP f66_8 f66_8l [2] []:=rfl
def f66_7:AC:=.seq f66_8 .ret
theorem f66_7e:SQ f66_7 f66_8 .ret:=rfl
def f66_6:AC:=.cond (.r 5) f66_7 .skip
theorem f66_6e:CN f66_6 5 f66_7 .skip:=rfl
def f66_4:AC:=.seq f66_5 f66_6
theorem f66_4e:SQ f66_4 f66_5 f66_6:=rfl
def f66_10l:List GI:=[vv 6 0,
    ⟨none,.call (some 7) false (.f 76) [(.r 6)]⟩,
    vo 2 7]
def f66_10:AC:=.ops [2] [] f66_10l
theorem f66_10e:OP f66_10 f66_10l [2] []:=rfl
def f66_9:AC:=.seq f66_10 .ret
theorem f66_9e:SQ f66_9 f66_10 .ret:=rfl
def f66_3:AC:=.seq f66_4 f66_9
theorem f66_3e:SQ f66_3 f66_4 f66_9:=rfl
def f66_1:AC:=.seq f66_2 f66_3
theorem f66_1e:SQ f66_1 f66_2 f66_3:=rfl
def c_f66:AFun:=⟨8,[.tmp 2],f66_1⟩
theorem k_f66:bT Go.Proofs.Try.prog x_f66 66 = some c_f66:=by kernel_rfl
theorem e_f66:aX Go.Proofs.Try.prog 66 = true:=by kernel_rfl

def n_f67:Nat:=67
def x_f67:Cx:=⟨some,id,16,fun s=>([0,2,3,8,12,13,14,15]:List Nat).contains s,fun s=>([13]:List Nat).contains s,msOf [(2,[0],[]),(12,[0,4],[]),(52,[2],[]),(14,[2],[])]⟩
def f67_2l:List GI:=[⟨none,.mv (some 2) (.c (.lit (.pointer none)))⟩]
def f67_2:AC:=.ops [0] [] f67_2l
theorem f67_2e:OP f67_2 f67_2l [0] []:=rfl
def f67_5l:List GI:=[vv 3 0,
    ⟨none,.call (some 4) false (.f 68) [(.r 3)]⟩]
def f67_5:AC:=.ops [0,4] [] f67_5l
theorem f67_5e:OP f67_5 f67_5l [0,4] []:=rfl
def f67_8l:List GI:=[⟨none,.mv (some 2) (.c (.lit (.pointer none)))⟩]
def f67_8:AC:=.ops [2] [] f67_8l
theorem f67_8e:OP f67_8 f67_8l [2] []:=rfl
def f67_7:AC:=.seq f67_8 .ret
theorem f67_7e:SQ f67_7 f67_8 .ret:=rfl
def f67_6:AC:=.cond (.r 4) f67_7 .skip
theorem f67_6e:CN f67_6 4 f67_7 .skip:=rfl
def f67_4:AC:=.seq f67_5 f67_6
theorem f67_4e:SQ f67_4 f67_5 f67_6:=rfl
def f67_10h:List GI:=[vv 5 0,
    vn 6 5,
    vd 7 6 0,
    ⟨none,.load (some 8) (.r 7) (some 3)⟩,
    vv 9 0,
    vn 10 9,
    vd 11 10 3,
    vl 12 11]
def f67_10p:List (Bool×GI):=[]
def f67_10l:List GI:=[⟨none,.bst (some 14) [(0,3),(3,1)] (.agg [(.lit (.int .u64 0)),(.lit (.int .u64 0)),(.lit (.int .u64 0)),(.lit (.map none))]) [(0,(.r 8)),(1,(.r 13))]⟩,
    ⟨none,.boxB 15 4 (.r 14)⟩,
    vo 2 15]
def f67_10:AC:=.drawM [2] [] f67_10h (some 13) (.f 77) [(.r 12)] f67_10p f67_10l
theorem f67_10e:aC P id m f67_10 sf st Q = (m = false∧drawM P id f67_10h (some 13) (.f 77) [(.r 12)] f67_10p sf st (nY P id m [2] [] f67_10l Q)):=rfl
def f67_9:AC:=.seq f67_10 .ret
theorem f67_9e:SQ f67_9 f67_10 .ret:=rfl
def f67_3:AC:=.seq f67_4 f67_9
theorem f67_3e:SQ f67_3 f67_4 f67_9:=rfl
def f67_1:AC:=.seq f67_2 f67_3
theorem f67_1e:SQ f67_1 f67_2 f67_3:=rfl
def c_f67:AFun:=⟨16,[.tmp 2],f67_1⟩
theorem k_f67:bT Go.Proofs.Try.prog x_f67 67 = some c_f67:=by kernel_rfl
theorem e_f67:aX Go.Proofs.Try.prog 67 = true:=by kernel_rfl

def n_f68:Nat:=68
def x_f68:Cx:=⟨some,id,12,fun s=>([0,2,3,4,5,9,10,11]:List Nat).contains s,fun s=>([]:List Nat).contains s,msOf [(2,[0],[]),(6,[2],[])]⟩
def f68_2l:List GI:=[⟨none,.mv (some 2) (.c (.lit (.bool false)))⟩]
def f68_2:AC:=.ops [0] [] f68_2l
theorem f68_2e:OP f68_2 f68_2l [0] []:=rfl
def f68_4l:List GI:=[vv 3 0,
    ⟨none,.bin (some 4) (.nil .ptr) .eql (.r 3) (.c (.lit (.pointer none)))⟩,
    vv 5 4,
    ⟨some (5,false),.mv (some 6) (.r 0)⟩,
    ⟨some (5,false),.nilck (some 7) (.r 6)⟩,
    ⟨some (5,false),.addr (some 8) (.r 7) 3⟩,
    ⟨some (5,false),.load (some 9) (.r 8) none⟩,
    ⟨some (5,false),.bin (some 10) (.nil .mp) .eql (.r 9) (.c (.lit (.map none)))⟩,
    ⟨none,.pick (some 11) (.r 5) (.c (.lit (.bool true))) (.r 10)⟩,
    vo 2 11]
def f68_4:AC:=.ops [2] [] f68_4l
theorem f68_4e:OP f68_4 f68_4l [2] []:=rfl
def f68_3:AC:=.seq f68_4 .ret
theorem f68_3e:SQ f68_3 f68_4 .ret:=rfl
def f68_1:AC:=.seq f68_2 f68_3
theorem f68_1e:SQ f68_1 f68_2 f68_3:=rfl
def c_f68:AFun:=⟨12,[.tmp 2],f68_1⟩
theorem k_f68:bT Go.Proofs.Try.prog x_f68 68 = some c_f68:=by kernel_rfl
theorem e_f68:aX Go.Proofs.Try.prog 68 = true:=by kernel_rfl

def n_f69:Nat:=69
def x_f69:Cx:=⟨some,id,31,fun s=>([0,3,4,10,11,16,17,18,19,20,21,25,26,27,28,29]:List Nat).contains s,fun s=>([]:List Nat).contains s,msOf [(4,[0,1,5],[]),(6,[0,1,3],[]),(14,[0,1,3],[]),(112,[0,1,3,12],[]),(227,[],[]),(456,[0,1,3,30],[]),(115,[0,1,3],[])]⟩
def f69_3l:List GI:=[vl 4 1,
    ⟨none,.bin (some 5) (.nil .ptr) .eql (.r 4) (.c (.lit (.pointer none)))⟩]
def f69_3:AC:=.ops [0,1,5] [] f69_3l
theorem f69_3e:OP f69_3 f69_3l [0,1,5] []:=rfl
def f69_4:AC:=.cond (.r 5) .ret .skip
theorem f69_4e:CN f69_4 5 .ret .skip:=rfl
def f69_2:AC:=.seq f69_3 f69_4
theorem f69_2e:SQ f69_2 f69_3 f69_4:=rfl
def f69_6l:List GI:=[vl 6 1,
    vn 7 6,
    vd 8 7 0,
    vd 9 8 0,
    vl 10 9,
    vo 3 10]
def f69_6:AC:=.ops [0,1,3] [] f69_6l
theorem f69_6e:OP f69_6 f69_6l [0,1,3] []:=rfl
def f69_11l:List GI:=[vv 11 3,
    ⟨none,.bin (some 12) .num .neq (.r 11) (.c (.lit (.int .u64 0)))⟩]
def f69_11:AC:=.ops [0,1,3,12] [] f69_11l
theorem f69_11e:OP f69_11 f69_11l [0,1,3,12] []:=rfl
def f69_12:AC:=.cond (.r 12) .skip (.exit [] [] 0)
theorem f69_12e:CN f69_12 12 .skip (.exit [] [] 0):=rfl
def f69_10:AC:=.seq f69_11 f69_12
theorem f69_10e:SQ f69_10 f69_11 f69_12:=rfl
def f69_16l:List GI:=[vv 20 0,
    vv 21 3,
    vl 22 1,
    vn 23 22,
    vd 24 23 3,
    vl 25 24,
    vv 26 3,
    ⟨none,.lookup (some 27) (.int .u64) (.agg [(.lit (.int .i64 0)),(.lit (.int .u64 0)),(.lit (.int .u64 0))]) false (.r 25) (.r 26)⟩,
    ⟨none,.field (some 28) (.r 27) 0 none⟩,
    ⟨none,.call (some 29) false (.r 20) [(.r 21),(.r 28)]⟩,
    ⟨none,.un (some 30) .not (.r 29)⟩]
def f69_16:AC:=.ops [0,1,3,30] [] f69_16l
theorem f69_16e:OP f69_16 f69_16l [0,1,3,30] []:=rfl
def f69_17:AC:=.cond (.r 30) .ret .skip
theorem f69_17e:CN f69_17 30 .ret .skip:=rfl
def f69_15:AC:=.seq f69_16 f69_17
theorem f69_15e:SQ f69_15 f69_16 f69_17:=rfl
def f69_14:AC:=.block 1 f69_15
theorem f69_14e:BL f69_14 f69_15 1:=rfl
def f69_18l:List GI:=[vl 13 1,
    vn 14 13,
    vd 15 14 3,
    vl 16 15,
    vv 17 3,
    ⟨none,.lookup (some 18) (.int .u64) (.agg [(.lit (.int .i64 0)),(.lit (.int .u64 0)),(.lit (.int .u64 0))]) false (.r 16) (.r 17)⟩,
    ⟨none,.field (some 19) (.r 18) 2 none⟩,
    vo 3 19]
def f69_18:AC:=.ops [0,1,3] [] f69_18l
theorem f69_18e:OP f69_18 f69_18l [0,1,3] []:=rfl
def f69_13:AC:=.seq f69_14 f69_18
theorem f69_13e:SQ f69_13 f69_14 f69_18:=rfl
def f69_9:AC:=.seq f69_10 f69_13
theorem f69_9e:SQ f69_9 f69_10 f69_13:=rfl
def f69_8:AC:=.loop [0,1,3] [] f69_9
theorem f69_8w:aC P id m f69_8 sf st Q = cd (aC P id m f69_9) [0,1,3] [] sf st Q:=rfl
def f69_7:AC:=.block 0 f69_8
theorem f69_7e:BL f69_7 f69_8 0:=rfl
def f69_5:AC:=.seq f69_6 f69_7
theorem f69_5e:SQ f69_5 f69_6 f69_7:=rfl
def f69_1:AC:=.seq f69_2 f69_5
theorem f69_1e:SQ f69_1 f69_2 f69_5:=rfl
def c_f69:AFun:=⟨31,[],f69_1⟩
theorem k_f69:bT Go.Proofs.Try.prog x_f69 69 = some c_f69:=by kernel_rfl
theorem e_f69:aX Go.Proofs.Try.prog 69 = true:=by kernel_rfl

def n_f70:Nat:=70
def x_f70:Cx:=⟨some,id,31,fun s=>([0,2,3,4,6,7,13,14,18,23,24,25,30]:List Nat).contains s,fun s=>([]:List Nat).contains s,msOf [(2,[0],[]),(24,[0,5],[]),(100,[2,3,4],[]),(102,[0,8],[]),(412,[2,3,4],[]),(14,[2,3,4],[])]⟩
def f70_2l:List GI:=[⟨none,.mv (some 2) (.c (.lit (.int .i64 0)))⟩,
    ⟨none,.mv (some 3) (.c (.lit (.int .u64 0)))⟩,
    ⟨none,.mv (some 4) (.c (.lit (.int .i64 0)))⟩]
def f70_2:AC:=.ops [0] [] f70_2l
theorem f70_2e:OP f70_2 f70_2l [0] []:=rfl
def f70_6l:List GI:=[vv 6 0,
    ⟨none,.call (some 7) false (.f 68) [(.r 6)]⟩,
    vo 5 7]
def f70_6:AC:=.ops [0,5] [] f70_6l
theorem f70_6e:OP f70_6 f70_6l [0,5] []:=rfl
def f70_9l:List GI:=[⟨none,.mv (some 2) (.c (.lit (.int .i64 0)))⟩,
    ⟨none,.mv (some 3) (.c (.lit (.int .u64 0)))⟩,
    ⟨none,.mv (some 4) (.c (.lit (.int .i64 1)))⟩]
def f70_9:AC:=.ops [2,3,4] [] f70_9l
theorem f70_9e:OP f70_9 f70_9l [2,3,4] []:=rfl
def f70_8:AC:=.seq f70_9 .ret
theorem f70_8e:SQ f70_8 f70_9 .ret:=rfl
def f70_11l:List GI:=[vv 9 0,
    vn 10 9,
    vd 11 10 0,
    vd 12 11 0,
    vl 13 12,
    ⟨none,.bin (some 14) .num .eql (.r 13) (.c (.lit (.int .u64 0)))⟩,
    vo 8 14]
def f70_11:AC:=.ops [0,8] [] f70_11l
theorem f70_11e:OP f70_11 f70_11l [0,8] []:=rfl
def f70_14l:List GI:=[⟨none,.mv (some 2) (.c (.lit (.int .i64 0)))⟩,
    ⟨none,.mv (some 3) (.c (.lit (.int .u64 0)))⟩,
    ⟨none,.mv (some 4) (.c (.lit (.int .i64 9)))⟩]
def f70_14:AC:=.ops [2,3,4] [] f70_14l
theorem f70_14e:OP f70_14 f70_14l [2,3,4] []:=rfl
def f70_13:AC:=.seq f70_14 .ret
theorem f70_13e:SQ f70_13 f70_14 .ret:=rfl
def f70_12:AC:=.cond (.r 8) f70_13 .skip
theorem f70_12e:CN f70_12 8 f70_13 .skip:=rfl
def f70_10:AC:=.seq f70_11 f70_12
theorem f70_10e:SQ f70_10 f70_11 f70_12:=rfl
def f70_7:AC:=.cond (.r 5) f70_8 f70_10
theorem f70_7e:CN f70_7 5 f70_8 f70_10:=rfl
def f70_5:AC:=.seq f70_6 f70_7
theorem f70_5e:SQ f70_5 f70_6 f70_7:=rfl
def f70_4:AC:=.block 0 f70_5
theorem f70_4e:BL f70_4 f70_5 0:=rfl
def f70_16h:List GI:=[vv 15 0,
    vn 16 15,
    vd 17 16 3,
    vl 18 17,
    vv 19 0,
    vn 20 19,
    vd 21 20 0,
    vd 22 21 0,
    vl 23 22,
    ⟨none,.lookup (some 24) (.int .u64) (.agg [(.lit (.int .i64 0)),(.lit (.int .u64 0)),(.lit (.int .u64 0))]) false (.r 18) (.r 23)⟩,
    ⟨none,.field (some 25) (.r 24) 0 none⟩,
    vv 26 0,
    vn 27 26,
    vd 28 27 0,
    vd 29 28 0,
    vl 30 29,
    vv 2 25]
def f70_16l:List GI:=[vo 3 30,
    ⟨none,.mv (some 4) (.c (.lit (.int .i64 0)))⟩]
def f70_16:AC:=.draw [2,3,4] [] [] f70_16h f70_16l
theorem f70_16e:aC P id m f70_16 sf st Q = a9 P id sf.locs st f70_16h (cx P id m [] [2,3,4] [] f70_16l Q st) [] ⟨sf.regs,bu [] sf.locs⟩:=rfl
def f70_15:AC:=.seq f70_16 .ret
theorem f70_15e:SQ f70_15 f70_16 .ret:=rfl
def f70_3:AC:=.seq f70_4 f70_15
theorem f70_3e:SQ f70_3 f70_4 f70_15:=rfl
def f70_1:AC:=.seq f70_2 f70_3
theorem f70_1e:SQ f70_1 f70_2 f70_3:=rfl
def c_f70:AFun:=⟨31,[.tmp 2,.tmp 3,.tmp 4],f70_1⟩
theorem k_f70:bT Go.Proofs.Try.prog x_f70 70 = some c_f70:=by kernel_rfl
theorem e_f70:aX Go.Proofs.Try.prog 70 = true:=by kernel_rfl

def n_f71:Nat:=71
def x_f71:Cx:=⟨some,id,60,fun s=>([0,1,2,3,9,10,11,12,13,14,15,16,18,19,20,21,22,23,25,26,28,30,31,32,33,34,35,36,37,39,40,43,44,45,48,50,51,52,53,54,55,56,57,59]:List Nat).contains s,fun s=>([]:List Nat).contains s,msOf [(2,[1,2,3,4,8],[4,8]),(12,[1,2,3,4,8,11],[4,8]),(26,[1,2,3,4,8,11,17],[4,8]),(108,[8,9,10],[8]),(28,[1,2,3,4,8,27],[4,8]),(116,[8,9,10],[8]),(60,[1,2,3,4,8,38],[4,8]),(244,[4,8],[4,8]),(490,[8,9,10],[8]),(62,[4,8],[4,8]),(126,[8,9,10],[8])]⟩
def f71_2l:List GI:=[⟨none,.boxL 4 67 (.r 0)⟩,
    ⟨none,.newL 8 [(.lit (.int .i64 0)),(.lit (.int .u64 0)),(.lit (.int .i64 0)),(.lit (.int .i64 0)),(.lit (.int .i64 0)),(.lit (.int .i64 0)),(.lit (.int .i64 0)),(.lit (.int .i64 0)),(.lit (.int .i64 0)),(.lit (.int .i64 0)),(.lit (.int .i64 0)),(.lit (.int .i64 0)),(.lit (.int .i64 0)),(.lit (.int .i64 0)),(.lit (.int .i64 0)),(.lit (.int .i64 0)),(.lit (.int .i64 0)),(.lit (.int .i64 0)),(.lit (.int .i64 0)),(.lit (.int .i64 0)),(.lit (.int .i64 0)),(.lit (.int .i64 0)),(.lit (.int .i64 0)),(.lit (.int .i64 0)),(.lit (.int .i64 0)),(.lit (.int .i64 0)),(.lit (.int .i64 0)),(.lit (.int .i64 0)),(.lit (.int .i64 0)),(.lit (.int .i64 0)),(.lit (.int .i64 0)),(.lit (.int .i64 0)),(.lit (.int .i64 0)),(.lit (.int .i64 0)),(.lit (.int .i64 0)),(.lit (.int .i64 0)),(.lit (.int .i64 0)),(.lit (.int .i64 0)),(.lit (.int .i64 0)),(.lit (.int .i64 0)),(.lit (.int .i64 0)),(.lit (.int .i64 0)),(.lit (.int .i64 0)),(.lit (.int .i64 0)),(.lit (.int .i64 0)),(.lit (.int .i64 0)),(.lit (.int .i64 0)),(.lit (.int .i64 0)),(.lit (.int .i64 0)),(.lit (.int .i64 0)),(.lit (.int .i64 0)),(.lit (.int .i64 0)),(.lit (.int .i64 0)),(.lit (.int .i64 0)),(.lit (.int .i64 0)),(.lit (.int .i64 0)),(.lit (.int .i64 0)),(.lit (.int .i64 0)),(.lit (.int .i64 0)),(.lit (.int .i64 0)),(.lit (.int .i64 0)),(.lit (.int .i64 0)),(.lit (.int .i64 0)),(.lit (.int .i64 0)),(.lit (.int .i64 0)),(.lit (.int .i64 0)),(.lit (.slice none 0 0))]⟩,
    ⟨none,.mv (some 9) (.c (.lit (.bool false)))⟩,
    ⟨none,.mv (some 10) (.c (.lit (.int .i64 0)))⟩]
def f71_2:AC:=.ops [1,2,3,4,8] [4,8] f71_2l
theorem f71_2e:OP f71_2 f71_2l [1,2,3,4,8] [4,8]:=rfl
def f71_5l:List GI:=[⟨none,.load (some 12) (.r 4) (some 67)⟩,
    vv 13 1,
    vv 14 2,
    ⟨none,.call (some 15) false (.f 78) [(.r 12),(.r 13),(.r 14)]⟩,
    vo 11 15]
def f71_5:AC:=.ops [1,2,3,4,8,11] [4,8] f71_5l
theorem f71_5e:OP f71_5 f71_5l [1,2,3,4,8,11] [4,8]:=rfl
def f71_7l:List GI:=[vv 16 11,
    vb 17 .neq 16 0]
def f71_7:AC:=.ops [1,2,3,4,8,11,17] [4,8] f71_7l
theorem f71_7e:OP f71_7 f71_7l [1,2,3,4,8,11,17] [4,8]:=rfl
def f71_10l:List GI:=[⟨none,.load (some 18) (.r 4) (some 67)⟩,
    vv 19 11,
    ⟨none,.store 67 (.r 8) (.r 18)⟩,
    ⟨none,.mv (some 9) (.c (.lit (.bool false)))⟩,
    vo 10 19]
def f71_10:AC:=.ops [8,9,10] [8] f71_10l
theorem f71_10e:OP f71_10 f71_10l [8,9,10] [8]:=rfl
def f71_9:AC:=.seq f71_10 .ret
theorem f71_9e:SQ f71_9 f71_10 .ret:=rfl
def f71_8:AC:=.cond (.r 17) f71_9 .skip
theorem f71_8e:CN f71_8 17 f71_9 .skip:=rfl
def f71_6:AC:=.seq f71_7 f71_8
theorem f71_6e:SQ f71_6 f71_7 f71_8:=rfl
def f71_4:AC:=.seq f71_5 f71_6
theorem f71_4e:SQ f71_4 f71_5 f71_6:=rfl
def f71_13l:List GI:=[vv 20 3,
    ⟨none,.bin (some 21) .num .neq (.r 20) (.c (.lit (.int .u64 18446744073709551615)))⟩,
    vv 22 21,
    ⟨some (22,true),.mv (some 23) (.r 3)⟩,
    ⟨some (22,true),.addr (some 24) (.r 4) 1⟩,
    ⟨some (22,true),.load (some 25) (.r 24) none⟩,
    ⟨some (22,true),.bin (some 26) .num .leq (.r 23) (.r 25)⟩,
    ⟨none,.pick (some 27) (.r 22) (.r 26) (.c (.lit (.bool false)))⟩]
def f71_13:AC:=.ops [1,2,3,4,8,27] [4,8] f71_13l
theorem f71_13e:OP f71_13 f71_13l [1,2,3,4,8,27] [4,8]:=rfl
def f71_16l:List GI:=[⟨none,.load (some 28) (.r 4) (some 67)⟩,
    ⟨none,.store 67 (.r 8) (.r 28)⟩,
    ⟨none,.mv (some 9) (.c (.lit (.bool false)))⟩,
    ⟨none,.mv (some 10) (.c (.lit (.int .i64 12)))⟩]
def f71_16:AC:=.ops [8,9,10] [8] f71_16l
theorem f71_16e:OP f71_16 f71_16l [8,9,10] [8]:=rfl
def f71_15:AC:=.seq f71_16 .ret
theorem f71_15e:SQ f71_15 f71_16 .ret:=rfl
def f71_14:AC:=.cond (.r 27) f71_15 .skip
theorem f71_14e:CN f71_14 27 f71_15 .skip:=rfl
def f71_12:AC:=.seq f71_13 f71_14
theorem f71_12e:SQ f71_12 f71_13 f71_14:=rfl
def f71_19l:List GI:=[vd 29 4 66,
    vl 30 29,
    ⟨none,.len (some 31) .sl (.r 30)⟩,
    vb 32 .eql 31 0,
    vv 33 32,
    ⟨some (33,true),.mv (some 34) (.r 2)⟩,
    ⟨some (33,true),.load (some 35) (.r 4) (some 67)⟩,
    ⟨some (33,true),.call (some 36) false (.f 55) [(.r 35)]⟩,
    ⟨some (33,true),.bin (some 37) .num .leq (.r 34) (.r 36)⟩,
    ⟨none,.pick (some 38) (.r 33) (.r 37) (.c (.lit (.bool false)))⟩]
def f71_19:AC:=.ops [1,2,3,4,8,38] [4,8] f71_19l
theorem f71_19e:OP f71_19 f71_19l [1,2,3,4,8,38] [4,8]:=rfl
def f71_22l:List GI:=[vv 39 1,
    vv 40 1,
    vd 41 4 2,
    ⟨none,.ixA (some 42) (.r 41) (.r 40) 64 1⟩,
    vl 43 42,
    vv 44 2,
    ⟨none,.bin (some 45) .num .add (.r 43) (.r 44)⟩,
    vd 46 4 2,
    ⟨none,.ixA (some 47) (.r 46) (.r 39) 64 1⟩,
    ⟨none,.store 1 (.r 47) (.r 45)⟩]
def f71_22:AC:=.ops [4,8] [4,8] f71_22l
theorem f71_22e:OP f71_22 f71_22l [4,8] [4,8]:=rfl
def f71_24l:List GI:=[⟨none,.load (some 48) (.r 4) (some 67)⟩,
    ⟨none,.store 67 (.r 8) (.r 48)⟩,
    ⟨none,.mv (some 9) (.c (.lit (.bool true)))⟩,
    ⟨none,.mv (some 10) (.c (.lit (.int .i64 0)))⟩]
def f71_24:AC:=.ops [8,9,10] [8] f71_24l
theorem f71_24e:OP f71_24 f71_24l [8,9,10] [8]:=rfl
def f71_23:AC:=.seq f71_24 .ret
theorem f71_23e:SQ f71_23 f71_24 .ret:=rfl
def f71_21:AC:=.seq f71_22 f71_23
theorem f71_21e:SQ f71_21 f71_22 f71_23:=rfl
def f71_20:AC:=.cond (.r 38) f71_21 .skip
theorem f71_20e:CN f71_20 38 f71_21 .skip:=rfl
def f71_18:AC:=.seq f71_19 f71_20
theorem f71_18e:SQ f71_18 f71_19 f71_20:=rfl
def f71_26l:List GI:=[vd 49 4 66,
    vl 50 49,
    ⟨none,.app (some 51) 3 24 (.c (.lit (.slice none 0 0))) (.r 50)⟩,
    vv 52 1,
    vv 53 2,
    vv 54 3,
    ⟨none,.bst (some 55) [(0,1),(1,1),(2,1)] (.agg [(.lit (.int .i64 0)),(.lit (.int .i64 0)),(.lit (.int .u64 0))]) [(0,(.r 52)),(1,(.r 53)),(2,(.r 54))]⟩,
    ⟨none,.bsl (some 56) 3 1 (.agg [(.lit (.int .i64 0)),(.lit (.int .i64 0)),(.lit (.int .u64 0))]) [(0,(.r 55))]⟩,
    ⟨none,.appS 57 51 3 24 (.r 56)⟩,
    vd 58 4 66,
    ⟨none,.store 1 (.r 58) (.r 57)⟩]
def f71_26:AC:=.ops [4,8] [4,8] f71_26l
theorem f71_26e:OP f71_26 f71_26l [4,8] [4,8]:=rfl
def f71_28l:List GI:=[⟨none,.load (some 59) (.r 4) (some 67)⟩,
    ⟨none,.store 67 (.r 8) (.r 59)⟩,
    ⟨none,.mv (some 9) (.c (.lit (.bool false)))⟩,
    ⟨none,.mv (some 10) (.c (.lit (.int .i64 0)))⟩]
def f71_28:AC:=.ops [8,9,10] [8] f71_28l
theorem f71_28e:OP f71_28 f71_28l [8,9,10] [8]:=rfl
def f71_27:AC:=.seq f71_28 .ret
theorem f71_27e:SQ f71_27 f71_28 .ret:=rfl
def f71_25:AC:=.seq f71_26 f71_27
theorem f71_25e:SQ f71_25 f71_26 f71_27:=rfl
def f71_17:AC:=.seq f71_18 f71_25
theorem f71_17e:SQ f71_17 f71_18 f71_25:=rfl
def f71_11:AC:=.seq f71_12 f71_17
theorem f71_11e:SQ f71_11 f71_12 f71_17:=rfl
def f71_3:AC:=.seq f71_4 f71_11
theorem f71_3e:SQ f71_3 f71_4 f71_11:=rfl
def f71_1:AC:=.seq f71_2 f71_3
theorem f71_1e:SQ f71_1 f71_2 f71_3:=rfl
def c_f71:AFun:=⟨60,[.cell 8 (some 67),.tmp 9,.tmp 10],f71_1⟩
theorem k_f71:bT Go.Proofs.Try.prog x_f71 71 = some c_f71:=by kernel_rfl
theorem e_f71:aX Go.Proofs.Try.prog 71 = true:=by kernel_rfl

def n_f72:Nat:=72
def x_f72:Cx:=⟨some,id,38,fun s=>([0,1,2,7,8,9,10,11,12,13,15,16,18,19,20,21,22,23,24,25,27,28,29,32,33,34,37]:List Nat).contains s,fun s=>([]:List Nat).contains s,msOf [(2,[1,2,3,6],[3,6]),(12,[1,2,3,6,8],[3,6]),(26,[1,2,3,6,8,14],[3,6]),(108,[6,7],[6]),(28,[1,2,3,6,26],[3,6]),(116,[6,7],[6]),(30,[3,6],[3,6]),(62,[6,7],[6])]⟩
def f72_2l:List GI:=[⟨none,.boxL 3 67 (.r 0)⟩,
    ⟨none,.newL 6 [(.lit (.int .i64 0)),(.lit (.int .u64 0)),(.lit (.int .i64 0)),(.lit (.int .i64 0)),(.lit (.int .i64 0)),(.lit (.int .i64 0)),(.lit (.int .i64 0)),(.lit (.int .i64 0)),(.lit (.int .i64 0)),(.lit (.int .i64 0)),(.lit (.int .i64 0)),(.lit (.int .i64 0)),(.lit (.int .i64 0)),(.lit (.int .i64 0)),(.lit (.int .i64 0)),(.lit (.int .i64 0)),(.lit (.int .i64 0)),(.lit (.int .i64 0)),(.lit (.int .i64 0)),(.lit (.int .i64 0)),(.lit (.int .i64 0)),(.lit (.int .i64 0)),(.lit (.int .i64 0)),(.lit (.int .i64 0)),(.lit (.int .i64 0)),(.lit (.int .i64 0)),(.lit (.int .i64 0)),(.lit (.int .i64 0)),(.lit (.int .i64 0)),(.lit (.int .i64 0)),(.lit (.int .i64 0)),(.lit (.int .i64 0)),(.lit (.int .i64 0)),(.lit (.int .i64 0)),(.lit (.int .i64 0)),(.lit (.int .i64 0)),(.lit (.int .i64 0)),(.lit (.int .i64 0)),(.lit (.int .i64 0)),(.lit (.int .i64 0)),(.lit (.int .i64 0)),(.lit (.int .i64 0)),(.lit (.int .i64 0)),(.lit (.int .i64 0)),(.lit (.int .i64 0)),(.lit (.int .i64 0)),(.lit (.int .i64 0)),(.lit (.int .i64 0)),(.lit (.int .i64 0)),(.lit (.int .i64 0)),(.lit (.int .i64 0)),(.lit (.int .i64 0)),(.lit (.int .i64 0)),(.lit (.int .i64 0)),(.lit (.int .i64 0)),(.lit (.int .i64 0)),(.lit (.int .i64 0)),(.lit (.int .i64 0)),(.lit (.int .i64 0)),(.lit (.int .i64 0)),(.lit (.int .i64 0)),(.lit (.int .i64 0)),(.lit (.int .i64 0)),(.lit (.int .i64 0)),(.lit (.int .i64 0)),(.lit (.int .i64 0)),(.lit (.slice none 0 0))]⟩,
    ⟨none,.mv (some 7) (.c (.lit (.int .i64 0)))⟩]
def f72_2:AC:=.ops [1,2,3,6] [3,6] f72_2l
theorem f72_2e:OP f72_2 f72_2l [1,2,3,6] [3,6]:=rfl
def f72_5l:List GI:=[⟨none,.load (some 9) (.r 3) (some 67)⟩,
    vv 10 1,
    vv 11 2,
    ⟨none,.call (some 12) false (.f 78) [(.r 9),(.r 10),(.r 11)]⟩,
    vo 8 12]
def f72_5:AC:=.ops [1,2,3,6,8] [3,6] f72_5l
theorem f72_5e:OP f72_5 f72_5l [1,2,3,6,8] [3,6]:=rfl
def f72_7l:List GI:=[vv 13 8,
    vb 14 .neq 13 0]
def f72_7:AC:=.ops [1,2,3,6,8,14] [3,6] f72_7l
theorem f72_7e:OP f72_7 f72_7l [1,2,3,6,8,14] [3,6]:=rfl
def f72_10l:List GI:=[⟨none,.load (some 15) (.r 3) (some 67)⟩,
    vv 16 8,
    ⟨none,.store 67 (.r 6) (.r 15)⟩,
    vo 7 16]
def f72_10:AC:=.ops [6,7] [6] f72_10l
theorem f72_10e:OP f72_10 f72_10l [6,7] [6]:=rfl
def f72_9:AC:=.seq f72_10 .ret
theorem f72_9e:SQ f72_9 f72_10 .ret:=rfl
def f72_8:AC:=.cond (.r 14) f72_9 .skip
theorem f72_8e:CN f72_8 14 f72_9 .skip:=rfl
def f72_6:AC:=.seq f72_7 f72_8
theorem f72_6e:SQ f72_6 f72_7 f72_8:=rfl
def f72_4:AC:=.seq f72_5 f72_6
theorem f72_4e:SQ f72_4 f72_5 f72_6:=rfl
def f72_13l:List GI:=[vd 17 3 66,
    vl 18 17,
    ⟨none,.len (some 19) .sl (.r 18)⟩,
    vb 20 .gtr 19 0,
    vv 21 20,
    ⟨some (21,false),.mv (some 22) (.r 2)⟩,
    ⟨some (21,false),.load (some 23) (.r 3) (some 67)⟩,
    ⟨some (21,false),.call (some 24) false (.f 55) [(.r 23)]⟩,
    ⟨some (21,false),.bin (some 25) .num .gtr (.r 22) (.r 24)⟩,
    ⟨none,.pick (some 26) (.r 21) (.c (.lit (.bool true))) (.r 25)⟩]
def f72_13:AC:=.ops [1,2,3,6,26] [3,6] f72_13l
theorem f72_13e:OP f72_13 f72_13l [1,2,3,6,26] [3,6]:=rfl
def f72_16l:List GI:=[⟨none,.load (some 27) (.r 3) (some 67)⟩,
    ⟨none,.store 67 (.r 6) (.r 27)⟩,
    ⟨none,.mv (some 7) (.c (.lit (.int .i64 16)))⟩]
def f72_16:AC:=.ops [6,7] [6] f72_16l
theorem f72_16e:OP f72_16 f72_16l [6,7] [6]:=rfl
def f72_15:AC:=.seq f72_16 .ret
theorem f72_15e:SQ f72_15 f72_16 .ret:=rfl
def f72_14:AC:=.cond (.r 26) f72_15 .skip
theorem f72_14e:CN f72_14 26 f72_15 .skip:=rfl
def f72_12:AC:=.seq f72_13 f72_14
theorem f72_12e:SQ f72_12 f72_13 f72_14:=rfl
def f72_18l:List GI:=[vv 28 1,
    vv 29 1,
    vd 30 3 2,
    ⟨none,.ixA (some 31) (.r 30) (.r 29) 64 1⟩,
    vl 32 31,
    vv 33 2,
    ⟨none,.bin (some 34) .num .add (.r 32) (.r 33)⟩,
    vd 35 3 2,
    ⟨none,.ixA (some 36) (.r 35) (.r 28) 64 1⟩,
    ⟨none,.store 1 (.r 36) (.r 34)⟩]
def f72_18:AC:=.ops [3,6] [3,6] f72_18l
theorem f72_18e:OP f72_18 f72_18l [3,6] [3,6]:=rfl
def f72_20l:List GI:=[⟨none,.load (some 37) (.r 3) (some 67)⟩,
    ⟨none,.store 67 (.r 6) (.r 37)⟩,
    ⟨none,.mv (some 7) (.c (.lit (.int .i64 0)))⟩]
def f72_20:AC:=.ops [6,7] [6] f72_20l
theorem f72_20e:OP f72_20 f72_20l [6,7] [6]:=rfl
def f72_19:AC:=.seq f72_20 .ret
theorem f72_19e:SQ f72_19 f72_20 .ret:=rfl
def f72_17:AC:=.seq f72_18 f72_19
theorem f72_17e:SQ f72_17 f72_18 f72_19:=rfl
def f72_11:AC:=.seq f72_12 f72_17
theorem f72_11e:SQ f72_11 f72_12 f72_17:=rfl
def f72_3:AC:=.seq f72_4 f72_11
theorem f72_3e:SQ f72_3 f72_4 f72_11:=rfl
def f72_1:AC:=.seq f72_2 f72_3
theorem f72_1e:SQ f72_1 f72_2 f72_3:=rfl
def c_f72:AFun:=⟨38,[.cell 6 (some 67),.tmp 7],f72_1⟩
theorem k_f72:bT Go.Proofs.Try.prog x_f72 72 = some c_f72:=by kernel_rfl
theorem e_f72:aX Go.Proofs.Try.prog 72 = true:=by kernel_rfl

def n_f73:Nat:=73
def x_f73:Cx:=⟨some,id,55,fun s=>([0,1,2,7,8,9,10,11,12,13,14,15,16,17,18,19,20,21,23,24,26,27,28,29,31,32,35,36,38,39,40,43,44,45,48,49,50,51,52,53,54]:List Nat).contains s,fun s=>([]:List Nat).contains s,msOf [(2,[1,2,3,6],[3,6]),(12,[1,2,3,6,25],[3,6]),(52,[6,7,8],[6]),(28,[1,2,3,6,30],[3,6]),(116,[6,7,8],[6]),(60,[1,2,3,6,37],[3,6]),(244,[6,7,8],[6]),(62,[3,6],[3,6]),(126,[3,6,9],[3,6]),(254,[6,7,8],[6])]⟩
def f73_2l:List GI:=[⟨none,.boxL 3 67 (.r 0)⟩,
    ⟨none,.newL 6 [(.lit (.int .i64 0)),(.lit (.int .u64 0)),(.lit (.int .i64 0)),(.lit (.int .i64 0)),(.lit (.int .i64 0)),(.lit (.int .i64 0)),(.lit (.int .i64 0)),(.lit (.int .i64 0)),(.lit (.int .i64 0)),(.lit (.int .i64 0)),(.lit (.int .i64 0)),(.lit (.int .i64 0)),(.lit (.int .i64 0)),(.lit (.int .i64 0)),(.lit (.int .i64 0)),(.lit (.int .i64 0)),(.lit (.int .i64 0)),(.lit (.int .i64 0)),(.lit (.int .i64 0)),(.lit (.int .i64 0)),(.lit (.int .i64 0)),(.lit (.int .i64 0)),(.lit (.int .i64 0)),(.lit (.int .i64 0)),(.lit (.int .i64 0)),(.lit (.int .i64 0)),(.lit (.int .i64 0)),(.lit (.int .i64 0)),(.lit (.int .i64 0)),(.lit (.int .i64 0)),(.lit (.int .i64 0)),(.lit (.int .i64 0)),(.lit (.int .i64 0)),(.lit (.int .i64 0)),(.lit (.int .i64 0)),(.lit (.int .i64 0)),(.lit (.int .i64 0)),(.lit (.int .i64 0)),(.lit (.int .i64 0)),(.lit (.int .i64 0)),(.lit (.int .i64 0)),(.lit (.int .i64 0)),(.lit (.int .i64 0)),(.lit (.int .i64 0)),(.lit (.int .i64 0)),(.lit (.int .i64 0)),(.lit (.int .i64 0)),(.lit (.int .i64 0)),(.lit (.int .i64 0)),(.lit (.int .i64 0)),(.lit (.int .i64 0)),(.lit (.int .i64 0)),(.lit (.int .i64 0)),(.lit (.int .i64 0)),(.lit (.int .i64 0)),(.lit (.int .i64 0)),(.lit (.int .i64 0)),(.lit (.int .i64 0)),(.lit (.int .i64 0)),(.lit (.int .i64 0)),(.lit (.int .i64 0)),(.lit (.int .i64 0)),(.lit (.int .i64 0)),(.lit (.int .i64 0)),(.lit (.int .i64 0)),(.lit (.int .i64 0)),(.lit (.slice none 0 0))]⟩,
    ⟨none,.mv (some 7) (.c (.lit (.slice none 0 0)))⟩,
    ⟨none,.mv (some 8) (.c (.lit (.int .i64 0)))⟩]
def f73_2:AC:=.ops [1,2,3,6] [3,6] f73_2l
theorem f73_2e:OP f73_2 f73_2l [1,2,3,6] [3,6]:=rfl
def f73_5l:List GI:=[vv 10 1,
    vb 11 .lss 10 0,
    vv 12 11,
    ⟨some (12,false),.mv (some 13) (.r 1)⟩,
    ⟨some (12,false),.bin (some 14) .num .geq (.r 13) (.c (.lit (.int .i64 64)))⟩,
    ⟨none,.pick (some 15) (.r 12) (.c (.lit (.bool true))) (.r 14)⟩,
    vv 16 15,
    ⟨some (16,false),.mv (some 17) (.r 2)⟩,
    ⟨some (16,false),.bin (some 18) .num .lss (.r 17) (.c (.lit (.int .i64 1)))⟩,
    ⟨none,.pick (some 19) (.r 16) (.c (.lit (.bool true))) (.r 18)⟩,
    vv 20 19,
    ⟨some (20,false),.mv (some 21) (.r 2)⟩,
    ⟨some (20,false),.addr (some 22) (.r 3) 0⟩,
    ⟨some (20,false),.load (some 23) (.r 22) none⟩,
    ⟨some (20,false),.bin (some 24) .num .gtr (.r 21) (.r 23)⟩,
    ⟨none,.pick (some 25) (.r 20) (.c (.lit (.bool true))) (.r 24)⟩]
def f73_5:AC:=.ops [1,2,3,6,25] [3,6] f73_5l
theorem f73_5e:OP f73_5 f73_5l [1,2,3,6,25] [3,6]:=rfl
def f73_8l:List GI:=[⟨none,.load (some 26) (.r 3) (some 67)⟩,
    ⟨none,.store 67 (.r 6) (.r 26)⟩,
    ⟨none,.mv (some 7) (.c (.lit (.slice none 0 0)))⟩,
    ⟨none,.mv (some 8) (.c (.lit (.int .i64 2)))⟩]
def f73_8:AC:=.ops [6,7,8] [6] f73_8l
theorem f73_8e:OP f73_8 f73_8l [6,7,8] [6]:=rfl
def f73_7:AC:=.seq f73_8 .ret
theorem f73_7e:SQ f73_7 f73_8 .ret:=rfl
def f73_6:AC:=.cond (.r 25) f73_7 .skip
theorem f73_6e:CN f73_6 25 f73_7 .skip:=rfl
def f73_4:AC:=.seq f73_5 f73_6
theorem f73_4e:SQ f73_4 f73_5 f73_6:=rfl
def f73_11l:List GI:=[⟨none,.load (some 27) (.r 3) (some 67)⟩,
    vv 28 1,
    ⟨none,.call (some 29) false (.f 79) [(.r 27),(.r 28)]⟩,
    vb 30 .geq 29 0]
def f73_11:AC:=.ops [1,2,3,6,30] [3,6] f73_11l
theorem f73_11e:OP f73_11 f73_11l [1,2,3,6,30] [3,6]:=rfl
def f73_14l:List GI:=[⟨none,.load (some 31) (.r 3) (some 67)⟩,
    ⟨none,.store 67 (.r 6) (.r 31)⟩,
    ⟨none,.mv (some 7) (.c (.lit (.slice none 0 0)))⟩,
    ⟨none,.mv (some 8) (.c (.lit (.int .i64 11)))⟩]
def f73_14:AC:=.ops [6,7,8] [6] f73_14l
theorem f73_14e:OP f73_14 f73_14l [6,7,8] [6]:=rfl
def f73_13:AC:=.seq f73_14 .ret
theorem f73_13e:SQ f73_13 f73_14 .ret:=rfl
def f73_12:AC:=.cond (.r 30) f73_13 .skip
theorem f73_12e:CN f73_12 30 f73_13 .skip:=rfl
def f73_10:AC:=.seq f73_11 f73_12
theorem f73_10e:SQ f73_10 f73_11 f73_12:=rfl
def f73_17l:List GI:=[vv 32 1,
    vd 33 3 2,
    ⟨none,.ixA (some 34) (.r 33) (.r 32) 64 1⟩,
    vl 35 34,
    vv 36 2,
    ⟨none,.bin (some 37) .num .lss (.r 35) (.r 36)⟩]
def f73_17:AC:=.ops [1,2,3,6,37] [3,6] f73_17l
theorem f73_17e:OP f73_17 f73_17l [1,2,3,6,37] [3,6]:=rfl
def f73_20l:List GI:=[⟨none,.load (some 38) (.r 3) (some 67)⟩,
    ⟨none,.store 67 (.r 6) (.r 38)⟩,
    ⟨none,.mv (some 7) (.c (.lit (.slice none 0 0)))⟩,
    ⟨none,.mv (some 8) (.c (.lit (.int .i64 9)))⟩]
def f73_20:AC:=.ops [6,7,8] [6] f73_20l
theorem f73_20e:OP f73_20 f73_20l [6,7,8] [6]:=rfl
def f73_19:AC:=.seq f73_20 .ret
theorem f73_19e:SQ f73_19 f73_20 .ret:=rfl
def f73_18:AC:=.cond (.r 37) f73_19 .skip
theorem f73_18e:CN f73_18 37 f73_19 .skip:=rfl
def f73_16:AC:=.seq f73_17 f73_18
theorem f73_16e:SQ f73_16 f73_17 f73_18:=rfl
def f73_22l:List GI:=[vv 39 1,
    vv 40 1,
    vd 41 3 2,
    ⟨none,.ixA (some 42) (.r 41) (.r 40) 64 1⟩,
    vl 43 42,
    vv 44 2,
    ⟨none,.bin (some 45) .num .sub (.r 43) (.r 44)⟩,
    vd 46 3 2,
    ⟨none,.ixA (some 47) (.r 46) (.r 39) 64 1⟩,
    ⟨none,.store 1 (.r 47) (.r 45)⟩]
def f73_22:AC:=.ops [3,6] [3,6] f73_22l
theorem f73_22e:OP f73_22 f73_22l [3,6] [3,6]:=rfl
def f73_24l:List GI:=[⟨none,.load (some 49) (.r 3) (some 67)⟩,
    ⟨none,.call (some 50) false (.f 80) [(.r 49),(.c (.lit (.slice none 0 0)))]⟩,
    vv 48 50,
    ve 51 48 0,
    ve 52 48 1,
    ⟨none,.store 67 (.r 3) (.r 51)⟩,
    vo 9 52]
def f73_24:AC:=.ops [3,6,9] [3,6] f73_24l
theorem f73_24e:OP f73_24 f73_24l [3,6,9] [3,6]:=rfl
def f73_26l:List GI:=[⟨none,.load (some 53) (.r 3) (some 67)⟩,
    vv 54 9,
    ⟨none,.store 67 (.r 6) (.r 53)⟩,
    vo 7 54,
    ⟨none,.mv (some 8) (.c (.lit (.int .i64 0)))⟩]
def f73_26:AC:=.ops [6,7,8] [6] f73_26l
theorem f73_26e:OP f73_26 f73_26l [6,7,8] [6]:=rfl
def f73_25:AC:=.seq f73_26 .ret
theorem f73_25e:SQ f73_25 f73_26 .ret:=rfl
def f73_23:AC:=.seq f73_24 f73_25
theorem f73_23e:SQ f73_23 f73_24 f73_25:=rfl
def f73_21:AC:=.seq f73_22 f73_23
theorem f73_21e:SQ f73_21 f73_22 f73_23:=rfl
def f73_15:AC:=.seq f73_16 f73_21
theorem f73_15e:SQ f73_15 f73_16 f73_21:=rfl
def f73_9:AC:=.seq f73_10 f73_15
theorem f73_9e:SQ f73_9 f73_10 f73_15:=rfl
def f73_3:AC:=.seq f73_4 f73_9
theorem f73_3e:SQ f73_3 f73_4 f73_9:=rfl
def f73_1:AC:=.seq f73_2 f73_3
theorem f73_1e:SQ f73_1 f73_2 f73_3:=rfl
def c_f73:AFun:=⟨55,[.cell 6 (some 67),.tmp 7,.tmp 8],f73_1⟩
theorem k_f73:bT Go.Proofs.Try.prog x_f73 73 = some c_f73:=by kernel_rfl
theorem e_f73:aX Go.Proofs.Try.prog 73 = true:=by kernel_rfl

def n_f74:Nat:=74
def x_f74:Cx:=⟨some,id,31,fun s=>([0,1,5,6,7,8,9,10,11,12,13,15,16,17,18,19,21,22,23,24,25,26,27,28,29,30]:List Nat).contains s,fun s=>([]:List Nat).contains s,msOf [(2,[1,2,4],[2,4]),(12,[1,2,4,14],[2,4]),(52,[4,5,6],[4]),(14,[2,4,7],[2,4]),(60,[2,4,7,20],[2,4]),(244,[4,5,6],[4]),(62,[2,4,8],[2,4]),(126,[4,5,6],[4])]⟩
def f74_2l:List GI:=[⟨none,.boxL 2 67 (.r 0)⟩,
    ⟨none,.newL 4 [(.lit (.int .i64 0)),(.lit (.int .u64 0)),(.lit (.int .i64 0)),(.lit (.int .i64 0)),(.lit (.int .i64 0)),(.lit (.int .i64 0)),(.lit (.int .i64 0)),(.lit (.int .i64 0)),(.lit (.int .i64 0)),(.lit (.int .i64 0)),(.lit (.int .i64 0)),(.lit (.int .i64 0)),(.lit (.int .i64 0)),(.lit (.int .i64 0)),(.lit (.int .i64 0)),(.lit (.int .i64 0)),(.lit (.int .i64 0)),(.lit (.int .i64 0)),(.lit (.int .i64 0)),(.lit (.int .i64 0)),(.lit (.int .i64 0)),(.lit (.int .i64 0)),(.lit (.int .i64 0)),(.lit (.int .i64 0)),(.lit (.int .i64 0)),(.lit (.int .i64 0)),(.lit (.int .i64 0)),(.lit (.int .i64 0)),(.lit (.int .i64 0)),(.lit (.int .i64 0)),(.lit (.int .i64 0)),(.lit (.int .i64 0)),(.lit (.int .i64 0)),(.lit (.int .i64 0)),(.lit (.int .i64 0)),(.lit (.int .i64 0)),(.lit (.int .i64 0)),(.lit (.int .i64 0)),(.lit (.int .i64 0)),(.lit (.int .i64 0)),(.lit (.int .i64 0)),(.lit (.int .i64 0)),(.lit (.int .i64 0)),(.lit (.int .i64 0)),(.lit (.int .i64 0)),(.lit (.int .i64 0)),(.lit (.int .i64 0)),(.lit (.int .i64 0)),(.lit (.int .i64 0)),(.lit (.int .i64 0)),(.lit (.int .i64 0)),(.lit (.int .i64 0)),(.lit (.int .i64 0)),(.lit (.int .i64 0)),(.lit (.int .i64 0)),(.lit (.int .i64 0)),(.lit (.int .i64 0)),(.lit (.int .i64 0)),(.lit (.int .i64 0)),(.lit (.int .i64 0)),(.lit (.int .i64 0)),(.lit (.int .i64 0)),(.lit (.int .i64 0)),(.lit (.int .i64 0)),(.lit (.int .i64 0)),(.lit (.int .i64 0)),(.lit (.slice none 0 0))]⟩,
    ⟨none,.mv (some 5) (.c (.lit (.slice none 0 0)))⟩,
    ⟨none,.mv (some 6) (.c (.lit (.int .i64 0)))⟩]
def f74_2:AC:=.ops [1,2,4] [2,4] f74_2l
theorem f74_2e:OP f74_2 f74_2l [1,2,4] [2,4]:=rfl
def f74_5l:List GI:=[vv 9 1,
    vb 10 .lss 9 0,
    vv 11 10,
    ⟨some (11,false),.mv (some 12) (.r 1)⟩,
    ⟨some (11,false),.bin (some 13) .num .geq (.r 12) (.c (.lit (.int .i64 64)))⟩,
    ⟨none,.pick (some 14) (.r 11) (.c (.lit (.bool true))) (.r 13)⟩]
def f74_5:AC:=.ops [1,2,4,14] [2,4] f74_5l
theorem f74_5e:OP f74_5 f74_5l [1,2,4,14] [2,4]:=rfl
def f74_8l:List GI:=[⟨none,.load (some 15) (.r 2) (some 67)⟩,
    ⟨none,.store 67 (.r 4) (.r 15)⟩,
    ⟨none,.mv (some 5) (.c (.lit (.slice none 0 0)))⟩,
    ⟨none,.mv (some 6) (.c (.lit (.int .i64 2)))⟩]
def f74_8:AC:=.ops [4,5,6] [4] f74_8l
theorem f74_8e:OP f74_8 f74_8l [4,5,6] [4]:=rfl
def f74_7:AC:=.seq f74_8 .ret
theorem f74_7e:SQ f74_7 f74_8 .ret:=rfl
def f74_6:AC:=.cond (.r 14) f74_7 .skip
theorem f74_6e:CN f74_6 14 f74_7 .skip:=rfl
def f74_4:AC:=.seq f74_5 f74_6
theorem f74_4e:SQ f74_4 f74_5 f74_6:=rfl
def f74_10l:List GI:=[⟨none,.load (some 16) (.r 2) (some 67)⟩,
    vv 17 1,
    ⟨none,.call (some 18) false (.f 79) [(.r 16),(.r 17)]⟩,
    vo 7 18]
def f74_10:AC:=.ops [2,4,7] [2,4] f74_10l
theorem f74_10e:OP f74_10 f74_10l [2,4,7] [2,4]:=rfl
def f74_13l:List GI:=[vv 19 7,
    vb 20 .lss 19 0]
def f74_13:AC:=.ops [2,4,7,20] [2,4] f74_13l
theorem f74_13e:OP f74_13 f74_13l [2,4,7,20] [2,4]:=rfl
def f74_16l:List GI:=[⟨none,.load (some 21) (.r 2) (some 67)⟩,
    ⟨none,.store 67 (.r 4) (.r 21)⟩,
    ⟨none,.mv (some 5) (.c (.lit (.slice none 0 0)))⟩,
    ⟨none,.mv (some 6) (.c (.lit (.int .i64 9)))⟩]
def f74_16:AC:=.ops [4,5,6] [4] f74_16l
theorem f74_16e:OP f74_16 f74_16l [4,5,6] [4]:=rfl
def f74_15:AC:=.seq f74_16 .ret
theorem f74_15e:SQ f74_15 f74_16 .ret:=rfl
def f74_14:AC:=.cond (.r 20) f74_15 .skip
theorem f74_14e:CN f74_14 20 f74_15 .skip:=rfl
def f74_12:AC:=.seq f74_13 f74_14
theorem f74_12e:SQ f74_12 f74_13 f74_14:=rfl
def f74_18l:List GI:=[⟨none,.load (some 23) (.r 2) (some 67)⟩,
    vv 24 7,
    ⟨none,.call (some 25) false (.f 81) [(.r 23),(.r 24)]⟩,
    ⟨none,.call (some 26) false (.f 80) [(.r 25),(.c (.lit (.slice none 0 0)))]⟩,
    vv 22 26,
    ve 27 22 0,
    ve 28 22 1,
    ⟨none,.store 67 (.r 2) (.r 27)⟩,
    vo 8 28]
def f74_18:AC:=.ops [2,4,8] [2,4] f74_18l
theorem f74_18e:OP f74_18 f74_18l [2,4,8] [2,4]:=rfl
def f74_20l:List GI:=[⟨none,.load (some 29) (.r 2) (some 67)⟩,
    vv 30 8,
    ⟨none,.store 67 (.r 4) (.r 29)⟩,
    vo 5 30,
    ⟨none,.mv (some 6) (.c (.lit (.int .i64 0)))⟩]
def f74_20:AC:=.ops [4,5,6] [4] f74_20l
theorem f74_20e:OP f74_20 f74_20l [4,5,6] [4]:=rfl
def f74_19:AC:=.seq f74_20 .ret
theorem f74_19e:SQ f74_19 f74_20 .ret:=rfl
def f74_17:AC:=.seq f74_18 f74_19
theorem f74_17e:SQ f74_17 f74_18 f74_19:=rfl
def f74_11:AC:=.seq f74_12 f74_17
theorem f74_11e:SQ f74_11 f74_12 f74_17:=rfl
def f74_9:AC:=.seq f74_10 f74_11
theorem f74_9e:SQ f74_9 f74_10 f74_11:=rfl
def f74_3:AC:=.seq f74_4 f74_9
theorem f74_3e:SQ f74_3 f74_4 f74_9:=rfl
def f74_1:AC:=.seq f74_2 f74_3
theorem f74_1e:SQ f74_1 f74_2 f74_3:=rfl
def c_f74:AFun:=⟨31,[.cell 4 (some 67),.tmp 5,.tmp 6],f74_1⟩
theorem k_f74:bT Go.Proofs.Try.prog x_f74 74 = some c_f74:=by kernel_rfl
theorem e_f74:aX Go.Proofs.Try.prog 74 = true:=by kernel_rfl

def n_f75:Nat:=75
def x_f75:Cx:=⟨some,id,63,fun s=>([0,1,5,6,7,8,9,10,12,13,14,15,16,18,19,20,21,23,24,25,27,28,32,35,36,38,39,40,43,46,47,48,49,50,51,52,53,54,55,56,57,58,59,61,62]:List Nat).contains s,fun s=>([49]:List Nat).contains s,msOf [(2,[1,2,4],[2,4]),(12,[1,2,4,17],[2,4]),(52,[4,5,6],[4]),(14,[1,2,4,7],[2,4]),(60,[1,2,4,7],[2,4]),(480,[1,2,4,7,22],[2,4]),(963,[1,2,4,7],[2,4]),(964,[1,2,4,7,8],[2,4]),(3860,[1,2,4,7,8,9],[2,4]),(7722,[1,2,4,7,8,9],[2,4]),(61776,[1,2,4,7,8,9,29],[2,4]),(123555,[1,2,4,7],[2,4]),(247112,[1,2,4,7,8,9,37],[2,4]),(988452,[1,2,4,7,8,9],[2,4]),(988453,[1,2,4,7,8,9],[2,4]),(247114,[1,2,4,7,8,9],[2,4]),(247115,[1,2,4,7,8,9],[2,4]),(1931,[1,2,4,7],[2,4]),(62,[2,4,7],[2,4]),(126,[4,5,6],[4])]⟩
def f75_2l:List GI:=[⟨none,.boxL 2 67 (.r 0)⟩,
    ⟨none,.newL 4 [(.lit (.int .i64 0)),(.lit (.int .u64 0)),(.lit (.int .i64 0)),(.lit (.int .i64 0)),(.lit (.int .i64 0)),(.lit (.int .i64 0)),(.lit (.int .i64 0)),(.lit (.int .i64 0)),(.lit (.int .i64 0)),(.lit (.int .i64 0)),(.lit (.int .i64 0)),(.lit (.int .i64 0)),(.lit (.int .i64 0)),(.lit (.int .i64 0)),(.lit (.int .i64 0)),(.lit (.int .i64 0)),(.lit (.int .i64 0)),(.lit (.int .i64 0)),(.lit (.int .i64 0)),(.lit (.int .i64 0)),(.lit (.int .i64 0)),(.lit (.int .i64 0)),(.lit (.int .i64 0)),(.lit (.int .i64 0)),(.lit (.int .i64 0)),(.lit (.int .i64 0)),(.lit (.int .i64 0)),(.lit (.int .i64 0)),(.lit (.int .i64 0)),(.lit (.int .i64 0)),(.lit (.int .i64 0)),(.lit (.int .i64 0)),(.lit (.int .i64 0)),(.lit (.int .i64 0)),(.lit (.int .i64 0)),(.lit (.int .i64 0)),(.lit (.int .i64 0)),(.lit (.int .i64 0)),(.lit (.int .i64 0)),(.lit (.int .i64 0)),(.lit (.int .i64 0)),(.lit (.int .i64 0)),(.lit (.int .i64 0)),(.lit (.int .i64 0)),(.lit (.int .i64 0)),(.lit (.int .i64 0)),(.lit (.int .i64 0)),(.lit (.int .i64 0)),(.lit (.int .i64 0)),(.lit (.int .i64 0)),(.lit (.int .i64 0)),(.lit (.int .i64 0)),(.lit (.int .i64 0)),(.lit (.int .i64 0)),(.lit (.int .i64 0)),(.lit (.int .i64 0)),(.lit (.int .i64 0)),(.lit (.int .i64 0)),(.lit (.int .i64 0)),(.lit (.int .i64 0)),(.lit (.int .i64 0)),(.lit (.int .i64 0)),(.lit (.int .i64 0)),(.lit (.int .i64 0)),(.lit (.int .i64 0)),(.lit (.int .i64 0)),(.lit (.slice none 0 0))]⟩,
    ⟨none,.mv (some 5) (.c (.lit (.slice none 0 0)))⟩,
    ⟨none,.mv (some 6) (.c (.lit (.int .i64 0)))⟩]
def f75_2:AC:=.ops [1,2,4] [2,4] f75_2l
theorem f75_2e:OP f75_2 f75_2l [1,2,4] [2,4]:=rfl
def f75_5l:List GI:=[vv 10 1,
    vd 11 2 1,
    vl 12 11,
    ⟨none,.bin (some 13) .num .lss (.r 10) (.r 12)⟩,
    vv 14 13,
    ⟨some (14,false),.mv (some 15) (.r 1)⟩,
    ⟨some (14,false),.bin (some 16) .num .eql (.r 15) (.c (.lit (.int .u64 18446744073709551615)))⟩,
    ⟨none,.pick (some 17) (.r 14) (.c (.lit (.bool true))) (.r 16)⟩]
def f75_5:AC:=.ops [1,2,4,17] [2,4] f75_5l
theorem f75_5e:OP f75_5 f75_5l [1,2,4,17] [2,4]:=rfl
def f75_8l:List GI:=[⟨none,.load (some 18) (.r 2) (some 67)⟩,
    ⟨none,.store 67 (.r 4) (.r 18)⟩,
    ⟨none,.mv (some 5) (.c (.lit (.slice none 0 0)))⟩,
    ⟨none,.mv (some 6) (.c (.lit (.int .i64 3)))⟩]
def f75_8:AC:=.ops [4,5,6] [4] f75_8l
theorem f75_8e:OP f75_8 f75_8l [4,5,6] [4]:=rfl
def f75_7:AC:=.seq f75_8 .ret
theorem f75_7e:SQ f75_7 f75_8 .ret:=rfl
def f75_6:AC:=.cond (.r 17) f75_7 .skip
theorem f75_6e:CN f75_6 17 f75_7 .skip:=rfl
def f75_4:AC:=.seq f75_5 f75_6
theorem f75_4e:SQ f75_4 f75_5 f75_6:=rfl
def f75_10l:List GI:=[⟨none,.mv (some 7) (.c (.lit (.slice none 0 0)))⟩]
def f75_10:AC:=.ops [1,2,4,7] [2,4] f75_10l
theorem f75_10e:OP f75_10 f75_10l [1,2,4,7] [2,4]:=rfl
def f75_16l:List GI:=[⟨none,.load (some 19) (.r 2) (some 67)⟩,
    ⟨none,.call (some 20) false (.f 57) [(.r 19)]⟩,
    vv 21 1,
    ⟨none,.bin (some 22) .num .leq (.r 20) (.r 21)⟩]
def f75_16:AC:=.ops [1,2,4,7,22] [2,4] f75_16l
theorem f75_16e:OP f75_16 f75_16l [1,2,4,7,22] [2,4]:=rfl
def f75_17:AC:=.cond (.r 22) .skip (.exit [1,2,4,7] [2,4] 0)
theorem f75_17e:CN f75_17 22 .skip (.exit [1,2,4,7] [2,4] 0):=rfl
def f75_15:AC:=.seq f75_16 f75_17
theorem f75_15e:SQ f75_15 f75_16 f75_17:=rfl
def f75_20l:List GI:=[⟨none,.load (some 23) (.r 2) (some 67)⟩,
    ⟨none,.call (some 24) false (.f 57) [(.r 23)]⟩,
    vo 8 24]
def f75_20:AC:=.ops [1,2,4,7,8] [2,4] f75_20l
theorem f75_20e:OP f75_20 f75_20l [1,2,4,7,8] [2,4]:=rfl
def f75_23l:List GI:=[⟨none,.mv (some 9) (.c (.lit (.int .i64 0)))⟩]
def f75_23:AC:=.ops [1,2,4,7,8,9] [2,4] f75_23l
theorem f75_23e:OP f75_23 f75_23l [1,2,4,7,8,9] [2,4]:=rfl
def f75_28l:List GI:=[vv 25 9,
    vd 26 2 66,
    vl 27 26,
    ⟨none,.len (some 28) .sl (.r 27)⟩,
    ⟨none,.bin (some 29) .num .lss (.r 25) (.r 28)⟩]
def f75_28:AC:=.ops [1,2,4,7,8,9,29] [2,4] f75_28l
theorem f75_28e:OP f75_28 f75_28l [1,2,4,7,8,9,29] [2,4]:=rfl
def f75_29:AC:=.cond (.r 29) .skip (.exit [1,2,4,7] [2,4] 2)
theorem f75_29e:CN f75_29 29 .skip (.exit [1,2,4,7] [2,4] 2):=rfl
def f75_27:AC:=.seq f75_28 f75_29
theorem f75_27e:SQ f75_27 f75_28 f75_29:=rfl
def f75_33l:List GI:=[vd 30 2 66,
    vl 31 30,
    vv 32 9,
    ⟨none,.ixS (some 33) (.r 31) (.r 32) 3⟩,
    vd 34 33 2,
    vl 35 34,
    vv 36 8,
    ⟨none,.bin (some 37) .num .neq (.r 35) (.r 36)⟩]
def f75_33:AC:=.ops [1,2,4,7,8,9,37] [2,4] f75_33l
theorem f75_33e:OP f75_33 f75_33l [1,2,4,7,8,9,37] [2,4]:=rfl
def f75_36l:List GI:=[vv 38 9,
    vb 39 .add 38 1,
    vo 9 39]
def f75_36:AC:=.ops [1,2,4,7,8,9] [2,4] f75_36l
theorem f75_36e:OP f75_36 f75_36l [1,2,4,7,8,9] [2,4]:=rfl
def f75_35:AC:=.seq f75_36 (.exit [1,2,4,7,8,9] [2,4] 3)
theorem f75_35e:SQ f75_35 f75_36 (.exit [1,2,4,7,8,9] [2,4] 3):=rfl
def f75_34:AC:=.cond (.r 37) f75_35 .skip
theorem f75_34e:CN f75_34 37 f75_35 .skip:=rfl
def f75_32:AC:=.seq f75_33 f75_34
theorem f75_32e:SQ f75_32 f75_33 f75_34:=rfl
def f75_38l:List GI:=[vo 40 7,
    vd 41 2 66,
    vl 42 41,
    vv 43 9,
    ⟨none,.ixS (some 44) (.r 42) (.r 43) 3⟩,
    vd 45 44 0,
    vl 46 45,
    ⟨none,.bst (some 47) [(0,1),(1,1)] (.agg [(.lit (.int .i64 0)),(.lit (.int .i64 0))]) [(0,(.r 46)),(1,(.c (.lit (.int .i64 12))))]⟩,
    ⟨none,.bsl (some 48) 2 1 (.agg [(.lit (.int .i64 0)),(.lit (.int .i64 0))]) [(0,(.r 47))]⟩,
    ⟨none,.x (some 49) (.appB (.r 40) 2 16 (.r 48))⟩,
    vo 7 49]
def f75_38:AC:=.ops [1,2,4,7,8,9] [2,4] f75_38l
theorem f75_38e:OP f75_38 f75_38l [1,2,4,7,8,9] [2,4]:=rfl
def f75_39l:List GI:=[⟨none,.load (some 50) (.r 2) (some 67)⟩,
    vv 51 9,
    ⟨none,.call (some 52) false (.f 81) [(.r 50),(.r 51)]⟩,
    ⟨none,.store 67 (.r 2) (.r 52)⟩]
def f75_39:AC:=.ops [1,2,4,7,8,9] [2,4] f75_39l
theorem f75_39e:OP f75_39 f75_39l [1,2,4,7,8,9] [2,4]:=rfl
def f75_37:AC:=.seq f75_38 f75_39
theorem f75_37e:SQ f75_37 f75_38 f75_39:=rfl
def f75_31:AC:=.seq f75_32 f75_37
theorem f75_31e:SQ f75_31 f75_32 f75_37:=rfl
def f75_30:AC:=.block 3 f75_31
theorem f75_30e:BL f75_30 f75_31 3:=rfl
def f75_26:AC:=.seq f75_27 f75_30
theorem f75_26e:SQ f75_26 f75_27 f75_30:=rfl
def f75_25:AC:=.loop [1,2,4,7,8,9] [2,4] f75_26
theorem f75_25w:aC P id m f75_25 sf st Q = cd (aC P id m f75_26) [1,2,4,7,8,9] [2,4] sf st Q:=rfl
def f75_24:AC:=.block 2 f75_25
theorem f75_24e:BL f75_24 f75_25 2:=rfl
def f75_22:AC:=.seq f75_23 f75_24
theorem f75_22e:SQ f75_22 f75_23 f75_24:=rfl
def f75_40l:List GI:=[⟨none,.load (some 54) (.r 2) (some 67)⟩,
    vv 55 7,
    ⟨none,.call (some 56) false (.f 80) [(.r 54),(.r 55)]⟩,
    vv 53 56,
    ve 57 53 0,
    ve 58 53 1,
    ⟨none,.store 67 (.r 2) (.r 57)⟩,
    vo 7 58]
def f75_40:AC:=.ops [1,2,4,7] [2,4] f75_40l
theorem f75_40e:OP f75_40 f75_40l [1,2,4,7] [2,4]:=rfl
def f75_21:AC:=.seq f75_22 f75_40
theorem f75_21e:SQ f75_21 f75_22 f75_40:=rfl
def f75_19:AC:=.seq f75_20 f75_21
theorem f75_19e:SQ f75_19 f75_20 f75_21:=rfl
def f75_18:AC:=.block 1 f75_19
theorem f75_18e:BL f75_18 f75_19 1:=rfl
def f75_14:AC:=.seq f75_15 f75_18
theorem f75_14e:SQ f75_14 f75_15 f75_18:=rfl
def f75_13:AC:=.loop [1,2,4,7] [2,4] f75_14
theorem f75_13w:aC P id m f75_13 sf st Q = cd (aC P id m f75_14) [1,2,4,7] [2,4] sf st Q:=rfl
def f75_12:AC:=.block 0 f75_13
theorem f75_12e:BL f75_12 f75_13 0:=rfl
def f75_42l:List GI:=[vv 59 1,
    vd 60 2 1,
    ⟨none,.store 1 (.r 60) (.r 59)⟩]
def f75_42:AC:=.ops [2,4,7] [2,4] f75_42l
theorem f75_42e:OP f75_42 f75_42l [2,4,7] [2,4]:=rfl
def f75_44l:List GI:=[⟨none,.load (some 61) (.r 2) (some 67)⟩,
    vv 62 7,
    ⟨none,.store 67 (.r 4) (.r 61)⟩,
    vo 5 62,
    ⟨none,.mv (some 6) (.c (.lit (.int .i64 0)))⟩]
def f75_44:AC:=.ops [4,5,6] [4] f75_44l
theorem f75_44e:OP f75_44 f75_44l [4,5,6] [4]:=rfl
def f75_43:AC:=.seq f75_44 .ret
theorem f75_43e:SQ f75_43 f75_44 .ret:=rfl
def f75_41:AC:=.seq f75_42 f75_43
theorem f75_41e:SQ f75_41 f75_42 f75_43:=rfl
def f75_11:AC:=.seq f75_12 f75_41
theorem f75_11e:SQ f75_11 f75_12 f75_41:=rfl
def f75_9:AC:=.seq f75_10 f75_11
theorem f75_9e:SQ f75_9 f75_10 f75_11:=rfl
def f75_3:AC:=.seq f75_4 f75_9
theorem f75_3e:SQ f75_3 f75_4 f75_9:=rfl
def f75_1:AC:=.seq f75_2 f75_3
theorem f75_1e:SQ f75_1 f75_2 f75_3:=rfl
def c_f75:AFun:=⟨63,[.cell 4 (some 67),.tmp 5,.tmp 6],f75_1⟩
theorem k_f75:bT Go.Proofs.Try.prog x_f75 75 = some c_f75:=by kernel_rfl
theorem e_f75:aX Go.Proofs.Try.prog 75 = true:=by kernel_rfl

def n_f76:Nat:=76
def x_f76:Cx:=⟨some,id,25,fun s=>([0,2,3,4,5,6,8,11,12,13,14,16,17,18,20,22,23,24]:List Nat).contains s,fun s=>([]:List Nat).contains s,msOf [(2,[0],[]),(12,[0,7],[]),(26,[0],[]),(14,[0,3],[]),(60,[0,3,4],[]),(122,[0,3,4],[]),(976,[0,3,4,15],[]),(1955,[3],[]),(1956,[0,3,4],[]),(979,[0,3,4],[]),(62,[2],[])]⟩
def f76_2l:List GI:=[⟨none,.mv (some 2) (.c (.lit (.int .u64 0)))⟩]
def f76_2:AC:=.ops [0] [] f76_2l
theorem f76_2e:OP f76_2 f76_2l [0] []:=rfl
def f76_5l:List GI:=[vv 5 0,
    ⟨none,.len (some 6) .sl (.r 5)⟩,
    vb 7 .lss 6 1]
def f76_5:AC:=.ops [0,7] [] f76_5l
theorem f76_5e:OP f76_5 f76_5l [0,7] []:=rfl
def f76_7l:List GI:=[⟨none,.mkif (some 8) 9 (.c (.lit (.string ⟨#[115,108,105,99,101,115,46,77,105,110,58,32,101,109,112,116,121,32,108,105,115,116]⟩)))⟩,
    ⟨none,.x none .bad⟩]
def f76_7:AC:=.ops [0] [] f76_7l
theorem f76_7e:OP f76_7 f76_7l [0] []:=rfl
def f76_6:AC:=.cond (.r 7) f76_7 .skip
theorem f76_6e:CN f76_6 7 f76_7 .skip:=rfl
def f76_4:AC:=.seq f76_5 f76_6
theorem f76_4e:SQ f76_4 f76_5 f76_6:=rfl
def f76_9l:List GI:=[vv 9 0,
    ⟨none,.ixS (some 10) (.r 9) (.c (.lit (.int .i64 0))) 1⟩,
    vl 11 10,
    vo 3 11]
def f76_9:AC:=.ops [0,3] [] f76_9l
theorem f76_9e:OP f76_9 f76_9l [0,3] []:=rfl
def f76_12l:List GI:=[⟨none,.mv (some 4) (.c (.lit (.int .i64 1)))⟩]
def f76_12:AC:=.ops [0,3,4] [] f76_12l
theorem f76_12e:OP f76_12 f76_12l [0,3,4] []:=rfl
def f76_17l:List GI:=[vv 12 4,
    vv 13 0,
    ⟨none,.len (some 14) .sl (.r 13)⟩,
    ⟨none,.bin (some 15) .num .lss (.r 12) (.r 14)⟩]
def f76_17:AC:=.ops [0,3,4,15] [] f76_17l
theorem f76_17e:OP f76_17 f76_17l [0,3,4,15] []:=rfl
def f76_18:AC:=.cond (.r 15) .skip (.exit [3] [] 0)
theorem f76_18e:CN f76_18 15 .skip (.exit [3] [] 0):=rfl
def f76_16:AC:=.seq f76_17 f76_18
theorem f76_16e:SQ f76_16 f76_17 f76_18:=rfl
def f76_21l:List GI:=[vv 18 3,
    vv 19 0,
    vv 20 4,
    ⟨none,.ixS (some 21) (.r 19) (.r 20) 1⟩,
    vl 22 21,
    ⟨none,.mn (some 23) true (.r 18) (.r 22)⟩,
    vo 3 23]
def f76_21:AC:=.ops [0,3,4] [] f76_21l
theorem f76_21e:OP f76_21 f76_21l [0,3,4] []:=rfl
def f76_20:AC:=.block 1 f76_21
theorem f76_20e:BL f76_20 f76_21 1:=rfl
def f76_22l:List GI:=[vv 16 4,
    vb 17 .add 16 1,
    vo 4 17]
def f76_22:AC:=.ops [0,3,4] [] f76_22l
theorem f76_22e:OP f76_22 f76_22l [0,3,4] []:=rfl
def f76_19:AC:=.seq f76_20 f76_22
theorem f76_19e:SQ f76_19 f76_20 f76_22:=rfl
def f76_15:AC:=.seq f76_16 f76_19
theorem f76_15e:SQ f76_15 f76_16 f76_19:=rfl
def f76_14:AC:=.loop [0,3,4] [] f76_15
theorem f76_14w:aC P id m f76_14 sf st Q = cd (aC P id m f76_15) [0,3,4] [] sf st Q:=rfl
def f76_13:AC:=.block 0 f76_14
theorem f76_13e:BL f76_13 f76_14 0:=rfl
def f76_11:AC:=.seq f76_12 f76_13
theorem f76_11e:SQ f76_11 f76_12 f76_13:=rfl
def f76_24l:List GI:=[vv 24 3,
    vo 2 24]
def f76_24:AC:=.ops [2] [] f76_24l
theorem f76_24e:OP f76_24 f76_24l [2] []:=rfl
def f76_23:AC:=.seq f76_24 .ret
theorem f76_23e:SQ f76_23 f76_24 .ret:=rfl
def f76_10:AC:=.seq f76_11 f76_23
theorem f76_10e:SQ f76_10 f76_11 f76_23:=rfl
def f76_8:AC:=.seq f76_9 f76_10
theorem f76_8e:SQ f76_8 f76_9 f76_10:=rfl
def f76_3:AC:=.seq f76_4 f76_8
theorem f76_3e:SQ f76_3 f76_4 f76_8:=rfl
def f76_1:AC:=.seq f76_2 f76_3
theorem f76_1e:SQ f76_1 f76_2 f76_3:=rfl
def c_f76:AFun:=⟨25,[.tmp 2],f76_1⟩
theorem k_f76:bT Go.Proofs.Try.prog x_f76 76 = some c_f76:=by kernel_rfl
theorem e_f76:aX Go.Proofs.Try.prog 76 = true:=by kernel_rfl

def n_f77:Nat:=77
def x_f77:Cx:=⟨some,id,9,fun s=>([0,2,3,5,6,7,8]:List Nat).contains s,fun s=>([]:List Nat).contains s,msOf [(2,[0],[]),(12,[0,4],[]),(52,[2],[]),(14,[2],[])]⟩
def f77_2l:List GI:=[⟨none,.mv (some 2) (.c (.lit (.map none)))⟩]
def f77_2:AC:=.ops [0] [] f77_2l
theorem f77_2e:OP f77_2 f77_2l [0] []:=rfl
def f77_5l:List GI:=[vv 3 0,
    ⟨none,.bin (some 4) (.nil .mp) .eql (.r 3) (.c (.lit (.map none)))⟩]
def f77_5:AC:=.ops [0,4] [] f77_5l
theorem f77_5e:OP f77_5 f77_5l [0,4] []:=rfl
def f77_8l:List GI:=[⟨none,.mv (some 2) (.c (.lit (.map none)))⟩]
def f77_8:AC:=.ops [2] [] f77_8l
theorem f77_8e:OP f77_8 f77_8l [2] []:=rfl
def f77_7:AC:=.seq f77_8 .ret
theorem f77_7e:SQ f77_7 f77_8 .ret:=rfl
def f77_6:AC:=.cond (.r 4) f77_7 .skip
theorem f77_6e:CN f77_6 4 f77_7 .skip:=rfl
def f77_4:AC:=.seq f77_5 f77_6
theorem f77_4e:SQ f77_4 f77_5 f77_6:=rfl
def f77_10l:List GI:=[vv 5 0,
    ⟨none,.mkif (some 6) 116 (.r 5)⟩,
    ⟨none,.x (some 7) (.mclone (.r 6))⟩,
    ⟨none,.tas (some 8) 116 (.r 7)⟩,
    vo 2 8]
def f77_10:AC:=.ops [2] [] f77_10l
theorem f77_10e:OP f77_10 f77_10l [2] []:=rfl
def f77_9:AC:=.seq f77_10 .ret
theorem f77_9e:SQ f77_9 f77_10 .ret:=rfl
def f77_3:AC:=.seq f77_4 f77_9
theorem f77_3e:SQ f77_3 f77_4 f77_9:=rfl
def f77_1:AC:=.seq f77_2 f77_3
theorem f77_1e:SQ f77_1 f77_2 f77_3:=rfl
def c_f77:AFun:=⟨9,[.tmp 2],f77_1⟩
theorem k_f77:bT Go.Proofs.Try.prog x_f77 77 = some c_f77:=by kernel_rfl
theorem e_f77:aX Go.Proofs.Try.prog 77 = true:=by kernel_rfl

def n_f78:Nat:=78
def x_f78:Cx:=⟨some,id,36,fun s=>([0,1,2,6,7,8,9,10,11,12,13,14,15,16,17,18,20,21,23,24,25,27,30,31,32,34]:List Nat).contains s,fun s=>([]:List Nat).contains s,msOf [(2,[1,2,3],[3]),(12,[1,2,3,22],[3]),(52,[6],[]),(28,[1,2,3,26],[3]),(116,[6],[]),(60,[35],[]),(244,[6],[]),(62,[6],[])]⟩
def f78_2l:List GI:=[⟨none,.boxL 3 67 (.r 0)⟩,
    ⟨none,.mv (some 6) (.c (.lit (.int .i64 0)))⟩]
def f78_2:AC:=.ops [1,2,3] [3] f78_2l
theorem f78_2e:OP f78_2 f78_2l [1,2,3] [3]:=rfl
def f78_5l:List GI:=[vv 7 1,
    vb 8 .lss 7 0,
    vv 9 8,
    ⟨some (9,false),.mv (some 10) (.r 1)⟩,
    ⟨some (9,false),.bin (some 11) .num .geq (.r 10) (.c (.lit (.int .i64 64)))⟩,
    ⟨none,.pick (some 12) (.r 9) (.c (.lit (.bool true))) (.r 11)⟩,
    vv 13 12,
    ⟨some (13,false),.mv (some 14) (.r 2)⟩,
    ⟨some (13,false),.bin (some 15) .num .lss (.r 14) (.c (.lit (.int .i64 1)))⟩,
    ⟨none,.pick (some 16) (.r 13) (.c (.lit (.bool true))) (.r 15)⟩,
    vv 17 16,
    ⟨some (17,false),.mv (some 18) (.r 2)⟩,
    ⟨some (17,false),.addr (some 19) (.r 3) 0⟩,
    ⟨some (17,false),.load (some 20) (.r 19) none⟩,
    ⟨some (17,false),.bin (some 21) .num .gtr (.r 18) (.r 20)⟩,
    ⟨none,.pick (some 22) (.r 17) (.c (.lit (.bool true))) (.r 21)⟩]
def f78_5:AC:=.ops [1,2,3,22] [3] f78_5l
theorem f78_5e:OP f78_5 f78_5l [1,2,3,22] [3]:=rfl
def f78_8l:List GI:=[⟨none,.mv (some 6) (.c (.lit (.int .i64 2)))⟩]
def f78_8:AC:=.ops [6] [] f78_8l
theorem f78_8e:OP f78_8 f78_8l [6] []:=rfl
def f78_7:AC:=.seq f78_8 .ret
theorem f78_7e:SQ f78_7 f78_8 .ret:=rfl
def f78_6:AC:=.cond (.r 22) f78_7 .skip
theorem f78_6e:CN f78_6 22 f78_7 .skip:=rfl
def f78_4:AC:=.seq f78_5 f78_6
theorem f78_4e:SQ f78_4 f78_5 f78_6:=rfl
def f78_11l:List GI:=[⟨none,.load (some 23) (.r 3) (some 67)⟩,
    vv 24 1,
    ⟨none,.call (some 25) false (.f 79) [(.r 23),(.r 24)]⟩,
    vb 26 .geq 25 0]
def f78_11:AC:=.ops [1,2,3,26] [3] f78_11l
theorem f78_11e:OP f78_11 f78_11l [1,2,3,26] [3]:=rfl
def f78_14l:List GI:=[⟨none,.mv (some 6) (.c (.lit (.int .i64 11)))⟩]
def f78_14:AC:=.ops [6] [] f78_14l
theorem f78_14e:OP f78_14 f78_14l [6] []:=rfl
def f78_13:AC:=.seq f78_14 .ret
theorem f78_13e:SQ f78_13 f78_14 .ret:=rfl
def f78_12:AC:=.cond (.r 26) f78_13 .skip
theorem f78_12e:CN f78_12 26 f78_13 .skip:=rfl
def f78_10:AC:=.seq f78_11 f78_12
theorem f78_10e:SQ f78_10 f78_11 f78_12:=rfl
def f78_17h:List GI:=[vv 27 1,
    vd 28 3 2,
    ⟨none,.ixA (some 29) (.r 28) (.r 27) 64 1⟩,
    vl 30 29,
    vv 31 2,
    ⟨none,.bin (some 32) .num .add (.r 30) (.r 31)⟩,
    vd 33 3 0,
    vl 34 33]
def f78_17l:List GI:=[⟨none,.bin (some 35) .num .gtr (.r 32) (.r 34)⟩]
def f78_17:AC:=.draw [35] [] [] f78_17h f78_17l
theorem f78_17e:aC P id m f78_17 sf st Q = a9 P id sf.locs st f78_17h (cx P id m [] [35] [] f78_17l Q st) [] ⟨sf.regs,bu [] sf.locs⟩:=rfl
def f78_20l:List GI:=[⟨none,.mv (some 6) (.c (.lit (.int .i64 7)))⟩]
def f78_20:AC:=.ops [6] [] f78_20l
theorem f78_20e:OP f78_20 f78_20l [6] []:=rfl
def f78_19:AC:=.seq f78_20 .ret
theorem f78_19e:SQ f78_19 f78_20 .ret:=rfl
def f78_18:AC:=.cond (.r 35) f78_19 .skip
theorem f78_18e:CN f78_18 35 f78_19 .skip:=rfl
def f78_16:AC:=.seq f78_17 f78_18
theorem f78_16e:SQ f78_16 f78_17 f78_18:=rfl
def f78_22l:List GI:=[⟨none,.mv (some 6) (.c (.lit (.int .i64 0)))⟩]
def f78_22:AC:=.ops [6] [] f78_22l
theorem f78_22e:OP f78_22 f78_22l [6] []:=rfl
def f78_21:AC:=.seq f78_22 .ret
theorem f78_21e:SQ f78_21 f78_22 .ret:=rfl
def f78_15:AC:=.seq f78_16 f78_21
theorem f78_15e:SQ f78_15 f78_16 f78_21:=rfl
def f78_9:AC:=.seq f78_10 f78_15
theorem f78_9e:SQ f78_9 f78_10 f78_15:=rfl
def f78_3:AC:=.seq f78_4 f78_9
theorem f78_3e:SQ f78_3 f78_4 f78_9:=rfl
def f78_1:AC:=.seq f78_2 f78_3
theorem f78_1e:SQ f78_1 f78_2 f78_3:=rfl
def c_f78:AFun:=⟨36,[.tmp 6],f78_1⟩
theorem k_f78:bT Go.Proofs.Try.prog x_f78 78 = some c_f78:=by kernel_rfl
theorem e_f78:aX Go.Proofs.Try.prog 78 = true:=by kernel_rfl

def n_f79:Nat:=79
def x_f79:Cx:=⟨some,id,22,fun s=>([0,1,4,5,6,8,9,11,12,15,18,19,21]:List Nat).contains s,fun s=>([]:List Nat).contains s,msOf [(2,[1,2],[2]),(12,[1,2,5],[2]),(26,[1,2,5],[2]),(208,[1,2,5,10],[2]),(419,[],[]),(840,[1,2,5,20],[2]),(3364,[4],[]),(211,[1,2,5],[2]),(14,[4],[])]⟩
def f79_2l:List GI:=[⟨none,.boxL 2 67 (.r 0)⟩,
    ⟨none,.mv (some 4) (.c (.lit (.int .i64 0)))⟩]
def f79_2:AC:=.ops [1,2] [2] f79_2l
theorem f79_2e:OP f79_2 f79_2l [1,2] [2]:=rfl
def f79_5l:List GI:=[⟨none,.mv (some 5) (.c (.lit (.int .i64 0)))⟩]
def f79_5:AC:=.ops [1,2,5] [2] f79_5l
theorem f79_5e:OP f79_5 f79_5l [1,2,5] [2]:=rfl
def f79_10l:List GI:=[vv 6 5,
    vd 7 2 66,
    vl 8 7,
    ⟨none,.len (some 9) .sl (.r 8)⟩,
    ⟨none,.bin (some 10) .num .lss (.r 6) (.r 9)⟩]
def f79_10:AC:=.ops [1,2,5,10] [2] f79_10l
theorem f79_10e:OP f79_10 f79_10l [1,2,5,10] [2]:=rfl
def f79_11:AC:=.cond (.r 10) .skip (.exit [] [] 0)
theorem f79_11e:CN f79_11 10 .skip (.exit [] [] 0):=rfl
def f79_9:AC:=.seq f79_10 f79_11
theorem f79_9e:SQ f79_9 f79_10 f79_11:=rfl
def f79_15l:List GI:=[vd 13 2 66,
    vl 14 13,
    vv 15 5,
    ⟨none,.ixS (some 16) (.r 14) (.r 15) 3⟩,
    vd 17 16 0,
    vl 18 17,
    vv 19 1,
    ⟨none,.bin (some 20) .num .eql (.r 18) (.r 19)⟩]
def f79_15:AC:=.ops [1,2,5,20] [2] f79_15l
theorem f79_15e:OP f79_15 f79_15l [1,2,5,20] [2]:=rfl
def f79_18l:List GI:=[vv 21 5,
    vo 4 21]
def f79_18:AC:=.ops [4] [] f79_18l
theorem f79_18e:OP f79_18 f79_18l [4] []:=rfl
def f79_17:AC:=.seq f79_18 .ret
theorem f79_17e:SQ f79_17 f79_18 .ret:=rfl
def f79_16:AC:=.cond (.r 20) f79_17 .skip
theorem f79_16e:CN f79_16 20 f79_17 .skip:=rfl
def f79_14:AC:=.seq f79_15 f79_16
theorem f79_14e:SQ f79_14 f79_15 f79_16:=rfl
def f79_13:AC:=.block 1 f79_14
theorem f79_13e:BL f79_13 f79_14 1:=rfl
def f79_19l:List GI:=[vv 11 5,
    vb 12 .add 11 1,
    vo 5 12]
def f79_19:AC:=.ops [1,2,5] [2] f79_19l
theorem f79_19e:OP f79_19 f79_19l [1,2,5] [2]:=rfl
def f79_12:AC:=.seq f79_13 f79_19
theorem f79_12e:SQ f79_12 f79_13 f79_19:=rfl
def f79_8:AC:=.seq f79_9 f79_12
theorem f79_8e:SQ f79_8 f79_9 f79_12:=rfl
def f79_7:AC:=.loop [1,2,5] [2] f79_8
theorem f79_7w:aC P id m f79_7 sf st Q = cd (aC P id m f79_8) [1,2,5] [2] sf st Q:=rfl
def f79_6:AC:=.block 0 f79_7
theorem f79_6e:BL f79_6 f79_7 0:=rfl
def f79_4:AC:=.seq f79_5 f79_6
theorem f79_4e:SQ f79_4 f79_5 f79_6:=rfl
def f79_21l:List GI:=[⟨none,.mv (some 4) (.c (.lit (.int .i64 (-1))))⟩]
def f79_21:AC:=.ops [4] [] f79_21l
theorem f79_21e:OP f79_21 f79_21l [4] []:=rfl
def f79_20:AC:=.seq f79_21 .ret
theorem f79_20e:SQ f79_20 f79_21 .ret:=rfl
def f79_3:AC:=.seq f79_4 f79_20
theorem f79_3e:SQ f79_3 f79_4 f79_20:=rfl
def f79_1:AC:=.seq f79_2 f79_3
theorem f79_1e:SQ f79_1 f79_2 f79_3:=rfl
def c_f79:AFun:=⟨22,[.tmp 4],f79_1⟩
theorem k_f79:bT Go.Proofs.Try.prog x_f79 79 = some c_f79:=by kernel_rfl
theorem e_f79:aX Go.Proofs.Try.prog 79 = true:=by kernel_rfl

def n_f80:Nat:=80
def x_f80:Cx:=⟨some,id,47,fun s=>([0,1,5,8,9,10,11,16,17,18,19,24,26,28,31,33,34,37,38,39,41,42,43,44,45,46]:List Nat).contains s,fun s=>([44]:List Nat).contains s,msOf [(2,[1,2,4],[2,4]),(12,[1,2,4],[2,4]),(96,[1,2,4,20],[2,4]),(195,[1,2,4],[2,4]),(196,[1,2,4,6],[2,4,6]),(394,[1,2,4,6],[2,4,6]),(790,[1,2,4,6],[2,4,6]),(791,[1,2,4],[2,4]),(14,[4,5],[4])]⟩
def f80_2l:List GI:=[⟨none,.boxL 2 67 (.r 0)⟩,
    ⟨none,.newL 4 [(.lit (.int .i64 0)),(.lit (.int .u64 0)),(.lit (.int .i64 0)),(.lit (.int .i64 0)),(.lit (.int .i64 0)),(.lit (.int .i64 0)),(.lit (.int .i64 0)),(.lit (.int .i64 0)),(.lit (.int .i64 0)),(.lit (.int .i64 0)),(.lit (.int .i64 0)),(.lit (.int .i64 0)),(.lit (.int .i64 0)),(.lit (.int .i64 0)),(.lit (.int .i64 0)),(.lit (.int .i64 0)),(.lit (.int .i64 0)),(.lit (.int .i64 0)),(.lit (.int .i64 0)),(.lit (.int .i64 0)),(.lit (.int .i64 0)),(.lit (.int .i64 0)),(.lit (.int .i64 0)),(.lit (.int .i64 0)),(.lit (.int .i64 0)),(.lit (.int .i64 0)),(.lit (.int .i64 0)),(.lit (.int .i64 0)),(.lit (.int .i64 0)),(.lit (.int .i64 0)),(.lit (.int .i64 0)),(.lit (.int .i64 0)),(.lit (.int .i64 0)),(.lit (.int .i64 0)),(.lit (.int .i64 0)),(.lit (.int .i64 0)),(.lit (.int .i64 0)),(.lit (.int .i64 0)),(.lit (.int .i64 0)),(.lit (.int .i64 0)),(.lit (.int .i64 0)),(.lit (.int .i64 0)),(.lit (.int .i64 0)),(.lit (.int .i64 0)),(.lit (.int .i64 0)),(.lit (.int .i64 0)),(.lit (.int .i64 0)),(.lit (.int .i64 0)),(.lit (.int .i64 0)),(.lit (.int .i64 0)),(.lit (.int .i64 0)),(.lit (.int .i64 0)),(.lit (.int .i64 0)),(.lit (.int .i64 0)),(.lit (.int .i64 0)),(.lit (.int .i64 0)),(.lit (.int .i64 0)),(.lit (.int .i64 0)),(.lit (.int .i64 0)),(.lit (.int .i64 0)),(.lit (.int .i64 0)),(.lit (.int .i64 0)),(.lit (.int .i64 0)),(.lit (.int .i64 0)),(.lit (.int .i64 0)),(.lit (.int .i64 0)),(.lit (.slice none 0 0))]⟩,
    ⟨none,.mv (some 5) (.c (.lit (.slice none 0 0)))⟩]
def f80_2:AC:=.ops [1,2,4] [2,4] f80_2l
theorem f80_2e:OP f80_2 f80_2l [1,2,4] [2,4]:=rfl
def f80_8h:List GI:=[vd 7 2 66,
    vl 8 7,
    ⟨none,.len (some 9) .sl (.r 8)⟩,
    vb 10 .gtr 9 0,
    vv 11 10,
    ⟨some (11,true),.addr (some 12) (.r 2) 66⟩,
    ⟨some (11,true),.load (some 13) (.r 12) none⟩,
    ⟨some (11,true),.ixS (some 14) (.r 13) (.c (.lit (.int .i64 0))) 3⟩,
    ⟨some (11,true),.addr (some 15) (.r 14) 1⟩,
    ⟨some (11,true),.load (some 16) (.r 15) none⟩,
    ⟨some (11,true),.load (some 17) (.r 2) (some 67)⟩,
    ⟨some (11,true),.call (some 18) true (.f 55) [(.r 17)]⟩]
def f80_8l:List GI:=[⟨some (11,true),.bin (some 19) .num .leq (.r 16) (.r 18)⟩,
    ⟨none,.pick (some 20) (.r 11) (.r 19) (.c (.lit (.bool false)))⟩]
def f80_8:AC:=.draw [1,2,4,20] [2,4] [] f80_8h f80_8l
theorem f80_8e:aC P id m f80_8 sf st Q = a9 P id sf.locs st f80_8h (cx P id m [] [1,2,4,20] [2,4] f80_8l Q st) [] ⟨sf.regs,bu [] sf.locs⟩:=rfl
def f80_9:AC:=.cond (.r 20) .skip (.exit [1,2,4] [2,4] 0)
theorem f80_9e:CN f80_9 20 .skip (.exit [1,2,4] [2,4] 0):=rfl
def f80_7:AC:=.seq f80_8 f80_9
theorem f80_7e:SQ f80_7 f80_8 f80_9:=rfl
def f80_12l:List GI:=[vd 21 2 66,
    vl 22 21,
    ⟨none,.ixS (some 23) (.r 22) (.c (.lit (.int .i64 0))) 3⟩,
    ⟨none,.load (some 24) (.r 23) (some 3)⟩,
    ⟨none,.newL 6 [(.lit (.int .i64 0)),(.lit (.int .i64 0)),(.lit (.int .u64 0))]⟩,
    ⟨none,.store 3 (.r 6) (.r 24)⟩]
def f80_12:AC:=.ops [1,2,4,6] [2,4,6] f80_12l
theorem f80_12e:OP f80_12 f80_12l [1,2,4,6] [2,4,6]:=rfl
def f80_14h:List GI:=[vd 25 6 0,
    vl 26 25,
    vd 27 6 0,
    vl 28 27,
    vd 29 2 2,
    ⟨none,.ixA (some 30) (.r 29) (.r 28) 64 1⟩,
    vl 31 30,
    vd 32 6 1,
    vl 33 32,
    ⟨none,.bin (some 34) .num .add (.r 31) (.r 33)⟩,
    vd 35 2 2]
def f80_14l:List GI:=[⟨none,.ixA (some 36) (.r 35) (.r 26) 64 1⟩,
    ⟨none,.store 1 (.r 36) (.r 34)⟩]
def f80_14:AC:=.draw [1,2,4,6] [2,4,6] [] f80_14h f80_14l
theorem f80_14e:aC P id m f80_14 sf st Q = a9 P id sf.locs st f80_14h (cx P id m [] [1,2,4,6] [2,4,6] f80_14l Q st) [] ⟨sf.regs,bu [] sf.locs⟩:=rfl
def f80_16l:List GI:=[⟨none,.load (some 37) (.r 2) (some 67)⟩,
    ⟨none,.call (some 38) false (.f 81) [(.r 37),(.c (.lit (.int .i64 0)))]⟩,
    ⟨none,.store 67 (.r 2) (.r 38)⟩]
def f80_16:AC:=.ops [1,2,4,6] [2,4,6] f80_16l
theorem f80_16e:OP f80_16 f80_16l [1,2,4,6] [2,4,6]:=rfl
def f80_17l:List GI:=[vo 39 1,
    vd 40 6 0,
    vl 41 40,
    ⟨none,.bst (some 42) [(0,1),(1,1)] (.agg [(.lit (.int .i64 0)),(.lit (.int .i64 0))]) [(0,(.r 41))]⟩,
    ⟨none,.bsl (some 43) 2 1 (.agg [(.lit (.int .i64 0)),(.lit (.int .i64 0))]) [(0,(.r 42))]⟩,
    ⟨none,.x (some 44) (.appB (.r 39) 2 16 (.r 43))⟩,
    vo 1 44]
def f80_17:AC:=.ops [1,2,4] [2,4] f80_17l
theorem f80_17e:OP f80_17 f80_17l [1,2,4] [2,4]:=rfl
def f80_15:AC:=.seq f80_16 f80_17
theorem f80_15e:SQ f80_15 f80_16 f80_17:=rfl
def f80_13:AC:=.seq f80_14 f80_15
theorem f80_13e:SQ f80_13 f80_14 f80_15:=rfl
def f80_11:AC:=.seq f80_12 f80_13
theorem f80_11e:SQ f80_11 f80_12 f80_13:=rfl
def f80_10:AC:=.block 1 f80_11
theorem f80_10e:BL f80_10 f80_11 1:=rfl
def f80_6:AC:=.seq f80_7 f80_10
theorem f80_6e:SQ f80_6 f80_7 f80_10:=rfl
def f80_5:AC:=.loop [1,2,4] [2,4] f80_6
theorem f80_5w:aC P id m f80_5 sf st Q = cd (aC P id m f80_6) [1,2,4] [2,4] sf st Q:=rfl
def f80_4:AC:=.block 0 f80_5
theorem f80_4e:BL f80_4 f80_5 0:=rfl
def f80_19l:List GI:=[⟨none,.load (some 45) (.r 2) (some 67)⟩,
    vv 46 1,
    ⟨none,.store 67 (.r 4) (.r 45)⟩,
    vo 5 46]
def f80_19:AC:=.ops [4,5] [4] f80_19l
theorem f80_19e:OP f80_19 f80_19l [4,5] [4]:=rfl
def f80_18:AC:=.seq f80_19 .ret
theorem f80_18e:SQ f80_18 f80_19 .ret:=rfl
def f80_3:AC:=.seq f80_4 f80_18
theorem f80_3e:SQ f80_3 f80_4 f80_18:=rfl
def f80_1:AC:=.seq f80_2 f80_3
theorem f80_1e:SQ f80_1 f80_2 f80_3:=rfl
def c_f80:AFun:=⟨47,[.cell 4 (some 67),.tmp 5],f80_1⟩
theorem k_f80:bT Go.Proofs.Try.prog x_f80 80 = some c_f80:=by kernel_rfl
theorem e_f80:aX Go.Proofs.Try.prog 80 = true:=by kernel_rfl

def n_f81:Nat:=81
def x_f81:Cx:=⟨some,id,18,fun s=>([0,1,6,7,8,9,11,12,13,14,15,17]:List Nat).contains s,fun s=>([]:List Nat).contains s,msOf [(2,[1,2,4],[2,4]),(6,[2,4],[2,4]),(14,[4],[4])]⟩
def f81_2l:List GI:=[⟨none,.boxL 2 67 (.r 0)⟩,
    ⟨none,.newL 4 [(.lit (.int .i64 0)),(.lit (.int .u64 0)),(.lit (.int .i64 0)),(.lit (.int .i64 0)),(.lit (.int .i64 0)),(.lit (.int .i64 0)),(.lit (.int .i64 0)),(.lit (.int .i64 0)),(.lit (.int .i64 0)),(.lit (.int .i64 0)),(.lit (.int .i64 0)),(.lit (.int .i64 0)),(.lit (.int .i64 0)),(.lit (.int .i64 0)),(.lit (.int .i64 0)),(.lit (.int .i64 0)),(.lit (.int .i64 0)),(.lit (.int .i64 0)),(.lit (.int .i64 0)),(.lit (.int .i64 0)),(.lit (.int .i64 0)),(.lit (.int .i64 0)),(.lit (.int .i64 0)),(.lit (.int .i64 0)),(.lit (.int .i64 0)),(.lit (.int .i64 0)),(.lit (.int .i64 0)),(.lit (.int .i64 0)),(.lit (.int .i64 0)),(.lit (.int .i64 0)),(.lit (.int .i64 0)),(.lit (.int .i64 0)),(.lit (.int .i64 0)),(.lit (.int .i64 0)),(.lit (.int .i64 0)),(.lit (.int .i64 0)),(.lit (.int .i64 0)),(.lit (.int .i64 0)),(.lit (.int .i64 0)),(.lit (.int .i64 0)),(.lit (.int .i64 0)),(.lit (.int .i64 0)),(.lit (.int .i64 0)),(.lit (.int .i64 0)),(.lit (.int .i64 0)),(.lit (.int .i64 0)),(.lit (.int .i64 0)),(.lit (.int .i64 0)),(.lit (.int .i64 0)),(.lit (.int .i64 0)),(.lit (.int .i64 0)),(.lit (.int .i64 0)),(.lit (.int .i64 0)),(.lit (.int .i64 0)),(.lit (.int .i64 0)),(.lit (.int .i64 0)),(.lit (.int .i64 0)),(.lit (.int .i64 0)),(.lit (.int .i64 0)),(.lit (.int .i64 0)),(.lit (.int .i64 0)),(.lit (.int .i64 0)),(.lit (.int .i64 0)),(.lit (.int .i64 0)),(.lit (.int .i64 0)),(.lit (.int .i64 0)),(.lit (.slice none 0 0))]⟩]
def f81_2:AC:=.ops [1,2,4] [2,4] f81_2l
theorem f81_2e:OP f81_2 f81_2l [1,2,4] [2,4]:=rfl
def f81_4h:List GI:=[vd 5 2 66,
    vl 6 5,
    vv 7 1,
    ⟨none,.sliS (some 8) (.r 6) none (some (.r 7)) 3⟩,
    ⟨none,.app (some 9) 3 24 (.c (.lit (.slice none 0 0))) (.r 8)⟩,
    vd 10 2 66,
    vl 11 10,
    vv 12 1,
    vb 13 .add 12 1,
    ⟨none,.sliS (some 14) (.r 11) (some (.r 13)) none 3⟩]
def f81_4l:List GI:=[⟨none,.appS 15 9 3 24 (.r 14)⟩,
    vd 16 2 66,
    ⟨none,.store 1 (.r 16) (.r 15)⟩]
def f81_4:AC:=.draw [2,4] [2,4] [] f81_4h f81_4l
theorem f81_4e:aC P id m f81_4 sf st Q = a9 P id sf.locs st f81_4h (cx P id m [] [2,4] [2,4] f81_4l Q st) [] ⟨sf.regs,bu [] sf.locs⟩:=rfl
def f81_6l:List GI:=[⟨none,.load (some 17) (.r 2) (some 67)⟩,
    ⟨none,.store 67 (.r 4) (.r 17)⟩]
def f81_6:AC:=.ops [4] [4] f81_6l
theorem f81_6e:OP f81_6 f81_6l [4] [4]:=rfl
def f81_5:AC:=.seq f81_6 .ret
theorem f81_5e:SQ f81_5 f81_6 .ret:=rfl
def f81_3:AC:=.seq f81_4 f81_5
theorem f81_3e:SQ f81_3 f81_4 f81_5:=rfl
def f81_1:AC:=.seq f81_2 f81_3
theorem f81_1e:SQ f81_1 f81_2 f81_3:=rfl
def c_f81:AFun:=⟨18,[.cell 4 (some 67)],f81_1⟩
theorem k_f81:bT Go.Proofs.Try.prog x_f81 81 = some c_f81:=by kernel_rfl
theorem e_f81:aX Go.Proofs.Try.prog 81 = true:=by kernel_rfl

def tab (q:Nat):Option AFun :=
  if q = 11 then some c_f11 else
  if q = 29 then some c_f29 else
  if q = 30 then some c_f30 else
  if q = 31 then some c_f31 else
  if q = 32 then some c_f32 else
  if q = 33 then some c_f33 else
  if q = 34 then some c_f34 else
  if q = 35 then some c_f35 else
  if q = 36 then some c_f36 else
  if q = 37 then some c_f37 else
  if q = 38 then some c_f38 else
  if q = 39 then some c_f39 else
  if q = 40 then some c_f40 else
  if q = 41 then some c_f41 else
  if q = 42 then some c_f42 else
  if q = 43 then some c_f43 else
  if q = 44 then some c_f44 else
  if q = 45 then some c_f45 else
  if q = 47 then some c_f47 else
  if q = 48 then some c_f48 else
  if q = 49 then some c_f49 else
  if q = 51 then some c_f51 else
  if q = 52 then some c_f52 else
  if q = 53 then some c_f53 else
  if q = 54 then some c_f54 else
  if q = 55 then some c_f55 else
  if q = 56 then some c_f56 else
  if q = 57 then some c_f57 else
  if q = 58 then some c_f58 else
  if q = 59 then some c_f59 else
  if q = 60 then some c_f60 else
  if q = 61 then some c_f61 else
  if q = 62 then some c_f62 else
  if q = 63 then some c_f63 else
  if q = 64 then some c_f64 else
  if q = 65 then some c_f65 else
  if q = 66 then some c_f66 else
  if q = 67 then some c_f67 else
  if q = 68 then some c_f68 else
  if q = 69 then some c_f69 else
  if q = 70 then some c_f70 else
  if q = 71 then some c_f71 else
  if q = 72 then some c_f72 else
  if q = 73 then some c_f73 else
  if q = 74 then some c_f74 else
  if q = 75 then some c_f75 else
  if q = 76 then some c_f76 else
  if q = 77 then some c_f77 else
  if q = 78 then some c_f78 else
  if q = 79 then some c_f79 else
  if q = 80 then some c_f80 else
  if q = 81 then some c_f81 else
  none
theorem tabOk:TabOk Go.Proofs.Try.prog id tab :=
  aE e_f11 k_f11 rfl (
  aE e_f29 k_f29 rfl (
  aE e_f30 k_f30 rfl (
  aE e_f31 k_f31 rfl (
  aE e_f32 k_f32 rfl (
  aE e_f33 k_f33 rfl (
  aE e_f34 k_f34 rfl (
  aE e_f35 k_f35 rfl (
  aE e_f36 k_f36 rfl (
  aE e_f37 k_f37 rfl (
  aE e_f38 k_f38 rfl (
  aE e_f39 k_f39 rfl (
  aE e_f40 k_f40 rfl (
  aE e_f41 k_f41 rfl (
  aE e_f42 k_f42 rfl (
  aE e_f43 k_f43 rfl (
  aE e_f44 k_f44 rfl (
  aE e_f45 k_f45 rfl (
  aE e_f47 k_f47 rfl (
  aE e_f48 k_f48 rfl (
  aE e_f49 k_f49 rfl (
  aE e_f51 k_f51 rfl (
  aE e_f52 k_f52 rfl (
  aE e_f53 k_f53 rfl (
  aE e_f54 k_f54 rfl (
  aE e_f55 k_f55 rfl (
  aE e_f56 k_f56 rfl (
  aE e_f57 k_f57 rfl (
  aE e_f58 k_f58 rfl (
  aE e_f59 k_f59 rfl (
  aE e_f60 k_f60 rfl (
  aE e_f61 k_f61 rfl (
  aE e_f62 k_f62 rfl (
  aE e_f63 k_f63 rfl (
  aE e_f64 k_f64 rfl (
  aE e_f65 k_f65 rfl (
  aE e_f66 k_f66 rfl (
  aE e_f67 k_f67 rfl (
  aE e_f68 k_f68 rfl (
  aE e_f69 k_f69 rfl (
  aE e_f70 k_f70 rfl (
  aE e_f71 k_f71 rfl (
  aE e_f72 k_f72 rfl (
  aE e_f73 k_f73 rfl (
  aE e_f74 k_f74 rfl (
  aE e_f75 k_f75 rfl (
  aE e_f76 k_f76 rfl (
  aE e_f77 k_f77 rfl (
  aE e_f78 k_f78 rfl (
  aE e_f79 k_f79 rfl (
  aE e_f80 k_f80 rfl (
  aE e_f81 k_f81 rfl (
  tabOk_nil))))))))))))))))))))))))))))))))))))))))))))))))))))
theorem hmix:Go.Proofs.Try.prog.follows .mixedOrders = true:=by kernel_rfl
end
end Go.Fx.YtddifejdkiemgaaFx

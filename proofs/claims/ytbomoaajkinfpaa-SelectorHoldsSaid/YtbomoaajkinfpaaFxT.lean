/- The functions that the statement reaches, resolved: printed by a program of ours from the translated code; each is checked here. -/
import Derived.Test.YtbomoaajkinfpaaFxS
set_option maxRecDepth 100000
set_option maxHeartbeats 0
namespace Go.Fx.YtbomoaajkinfpaaFx
open Go Go.Fx
section
variable (P:Program) (m:Bool) (sf:Sf) (st:St) (Q:Exit→Sf→St→Prop)
def n_f32:Nat:=32
def x_f32:=xX 22 [0,1,2,6,7,8,9,10,11,12,13,14,15,16,17,18,19,20,21] [] [(2,[0,1,2],[]),(6,[2,7,8],[]),(14,[6],[])]
abbrev f32_6:AC:=.ops [6] [] [vv 15 8,vb 16 .eql 15 0,vv 17 16,⟨some (17,true),.mv (some 18) (.r 7)⟩,⟨some (17,true),.mv (some 19) (.r 2)⟩,⟨some (17,true),.call (some 20) false (.f 47) [(.r 18),(.r 19)]⟩,⟨none,.pick (some 21) (.r 17) (.r 20) (.c (.lit (.bool false)))⟩,vo 6 21]
abbrev f32_3:AC:=.seq (.ops [2,7,8] [] [vv 10 0,vv 11 1,⟨none,.call (some 12) false (.f 27) [(.r 10),(.r 11)]⟩,vv 9 12,ve 13 9 0,ve 14 9 1,vo 7 13,vo 8 14]) (.seq f32_6 .ret)
abbrev f32_1:AC:=.seq (.ops [0,1,2] [] [⟨none,.mv (some 6) (.c (.lit (.bool false)))⟩]) f32_3
def c_f32:AFun:=⟨22,[.tmp 6],f32_1⟩
theorem k_f32:kX x_f32 32 c_f32:=by delta kX; kernel_rfl
theorem e_f32:eX 32:=by delta eX; kernel_rfl

def n_f33:Nat:=33
def x_f33:=xX 5 [0,3,4] [] [(2,[0,2],[2]),(6,[2],[2])]
abbrev f33_4:AC:=.ops [2] [2] [vv 3 0,⟨none,.bst (some 4) [(0,1),(1,1),(2,1)] (.agg [(.lit (.int .i64 0)),(.lit (.bool false)),(.lit (.int .i64 0))]) [(0,(.r 3))]⟩,⟨none,.store 3 (.r 2) (.r 4)⟩]
abbrev f33_1:AC:=.seq (.ops [0,2] [2] [⟨none,.newL 2 [(.lit (.int .i64 0)),(.lit (.bool false)),(.lit (.int .i64 0))]⟩]) (.seq f33_4 .ret)
def c_f33:AFun:=⟨5,[.cell 2 (some 3)],f33_1⟩
theorem k_f33:kX x_f33 33 c_f33:=by delta kX; kernel_rfl
theorem e_f33:eX 33:=by delta eX; kernel_rfl

def n_f34:Nat:=34
def x_f34:=xX 8 [0,1,5,6,7] [] [(2,[0,1,4],[4]),(6,[4],[4])]
abbrev f34_4:AC:=.ops [4] [4] [vv 5 0,vv 6 1,⟨none,.bst (some 7) [(0,1),(1,1),(2,1)] (.agg [(.lit (.int .i64 0)),(.lit (.bool false)),(.lit (.int .i64 0))]) [(0,(.r 5)),(1,(.c (.lit (.bool true)))),(2,(.r 6))]⟩,⟨none,.store 3 (.r 4) (.r 7)⟩]
abbrev f34_1:AC:=.seq (.ops [0,1,4] [4] [⟨none,.newL 4 [(.lit (.int .i64 0)),(.lit (.bool false)),(.lit (.int .i64 0))]⟩]) (.seq f34_4 .ret)
def c_f34:AFun:=⟨8,[.cell 4 (some 3)],f34_1⟩
theorem k_f34:kX x_f34 34 c_f34:=by delta kX; kernel_rfl
theorem e_f34:eX 34:=by delta eX; kernel_rfl

def n_f35:Nat:=35
def x_f35:=xX 22 [0,1,2,3,4,5,12,13,14,15,16,17,18,19,20,21] [19] [(2,[0,1,2,3,5,10],[10]),(6,[12],[])]
abbrev f35_4:AC:=.drawM [12] [] [vv 13 0,vv 14 1,vv 15 2,vv 16 3,vv 17 5,⟨none,.bst (some 18) [(0,1),(1,1),(2,1),(3,1),(4,1)] (.agg [(.lit (.int .i64 0)),(.lit (.int .i64 0)),(.lit (.int .i64 0)),(.lit (.slice none 0 0)),(.lit (.bool false))]) [(1,(.r 14)),(2,(.r 15)),(4,(.r 16)),(3,(.r 17))]⟩] (some 19) (.f 13) [(.r 13),(.r 18)] [(false,⟨none,.load (some 20) (.r 10) (some 7)⟩)] [⟨none,.call (some 21) false (.f 18) [(.r 19),(.r 20)]⟩,vo 12 21]
abbrev f35_1:AC:=.seq (.ops [0,1,2,3,5,10] [10] [⟨none,.boxL 10 7 (.r 4)⟩,⟨none,.mv (some 12) (.c (.lit (.bool false)))⟩]) (.seq f35_4 .ret)
def c_f35:AFun:=⟨22,[.tmp 12],f35_1⟩
theorem k_f35:kX x_f35 35 c_f35:=by delta kX; kernel_rfl
theorem e_f35:eX 35:=by delta eX; kernel_rfl

def n_f36:Nat:=36
def x_f36:=xX 4 [0,1,2,3] [] [(2,[],[]),(6,[0],[])]
abbrev f36_4:AC:=.ops [0] [] [⟨none,.mkmap 1⟩,⟨none,.bst (some 2) [(0,3),(3,1)] (.agg [(.lit (.int .u64 0)),(.lit (.int .u64 0)),(.lit (.int .u64 0)),(.lit (.map none))]) [(1,(.r 1))]⟩,⟨none,.boxB 3 4 (.r 2)⟩,vo 0 3]
abbrev f36_1:AC:=.seq (.ops [] [] [⟨none,.mv (some 0) (.c (.lit (.pointer none)))⟩]) (.seq f36_4 .ret)
def c_f36:AFun:=⟨4,[.tmp 0],f36_1⟩
theorem k_f36:kX x_f36 36 c_f36:=by delta kX; kernel_rfl
theorem e_f36:eX 36:=by delta eX; kernel_rfl

def n_f37:Nat:=37
def x_f37:=xX 29 [0,1,4,6,7,9,10,11,12,13,15,19,20,21,22,23,24,26,27] [] [(2,[0,1],[]),(12,[0,1,8],[]),(52,[4],[]),(28,[0,1,14],[]),(116,[4],[]),(60,[0,1,6],[]),(122,[0,1,25],[]),(492,[4],[]),(62,[],[]),(126,[4],[])]
abbrev f37_4:AC:=.seq (.ops [0,1,8] [] [vv 7 0,⟨none,.call (some 8) false (.f 51) [(.r 7)]⟩]) (.cond (.r 8) (.seq (.ops [4] [] [⟨none,.mv (some 4) (.c (.lit (.int .i64 1)))⟩]) .ret) .skip)
abbrev f37_11:AC:=.ops [0,1,14] [] [vv 9 1,vb 10 .lss 9 0,vv 11 10,⟨some (11,false),.mv (some 12) (.r 1)⟩,⟨some (11,false),.bin (some 13) .num .geq (.r 12) (.c (.lit (.int .i64 64)))⟩,⟨none,.pick (some 14) (.r 11) (.c (.lit (.bool true))) (.r 13)⟩]
abbrev f37_17:AC:=.ops [0,1,6] [] [vv 16 0,vn 17 16,vd 18 17 2,vl 19 18,vv 20 1,⟨none,.lookup (some 21) (.int .i64) (.lit (.slice none 0 0)) true (.r 19) (.r 20)⟩,vv 15 21,ve 22 15 0,ve 23 15 1,vo 5 22,vo 6 23]
abbrev f37_18:AC:=.seq (.ops [0,1,25] [] [vv 24 6,⟨none,.un (some 25) .not (.r 24)⟩]) (.cond (.r 25) (.seq (.ops [4] [] [⟨none,.mv (some 4) (.c (.lit (.int .i64 9)))⟩]) .ret) .skip)
abbrev f37_23:AC:=.seq (.ops [] [] [vv 26 0,vv 27 1,⟨none,.call (some 28) false (.f 58) [(.r 26),(.r 27),(.c (.lit (.int .i64 (-1))))]⟩]) (.seq (.ops [4] [] [⟨none,.mv (some 4) (.c (.lit (.int .i64 0)))⟩]) .ret)
abbrev f37_3:AC:=.seq f37_4 (.seq (.seq f37_11 (.cond (.r 14) (.seq (.ops [4] [] [⟨none,.mv (some 4) (.c (.lit (.int .i64 2)))⟩]) .ret) .skip)) (.seq (.seq f37_17 f37_18) f37_23))
abbrev f37_1:AC:=.seq (.ops [0,1] [] [⟨none,.mv (some 4) (.c (.lit (.int .i64 0)))⟩]) f37_3
def c_f37:AFun:=⟨29,[.tmp 4],f37_1⟩
theorem k_f37:kX x_f37 37 c_f37:=by delta kX; kernel_rfl
theorem e_f37:eX 37:=by delta eX; kernel_rfl

def n_f38:Nat:=38
def x_f38:=xX 37 [0,1,4,5,6,7,8,10,11,12,13,17,18,19,21,26,28,29,30,31,32,33,34,35,36] [] [(2,[0,1],[]),(12,[0,1,9],[]),(52,[4,5],[]),(28,[0,1,20],[]),(116,[4,5],[]),(30,[0,1,6,7],[]),(62,[4,5],[])]
abbrev f38_4:AC:=.seq (.ops [0,1,9] [] [vv 8 0,⟨none,.call (some 9) false (.f 51) [(.r 8)]⟩]) (.cond (.r 9) (.seq (.ops [4,5] [] [⟨none,.mv (some 4) (.c (.lit (.slice none 0 0)))⟩,⟨none,.mv (some 5) (.c (.lit (.int .i64 1)))⟩]) .ret) .skip)
abbrev f38_11:AC:=.ops [0,1,20] [] [vv 10 1,vb 11 .lss 10 0,vv 12 11,⟨some (12,false),.mv (some 13) (.r 1)⟩,⟨some (12,false),.mv (some 14) (.r 0)⟩,⟨some (12,false),.nilck (some 15) (.r 14)⟩,⟨some (12,false),.addr (some 16) (.r 15) 0⟩,⟨some (12,false),.load (some 17) (.r 16) none⟩,⟨some (12,false),.len (some 18) .sl (.r 17)⟩,⟨some (12,false),.bin (some 19) .num .geq (.r 13) (.r 18)⟩,⟨none,.pick (some 20) (.r 12) (.c (.lit (.bool true))) (.r 19)⟩]
abbrev f38_10:AC:=.seq f38_11 (.cond (.r 20) (.seq (.ops [4,5] [] [⟨none,.mv (some 4) (.c (.lit (.slice none 0 0)))⟩,⟨none,.mv (some 5) (.c (.lit (.int .i64 2)))⟩]) .ret) .skip)
abbrev f38_16:AC:=.ops [0,1,6,7] [] [vv 22 0,vn 23 22,vd 24 23 0,vl 25 24,vv 26 1,⟨none,.ixS (some 27) (.r 25) (.r 26) 1⟩,vl 28 27,⟨none,.call (some 29) false (.f 17) [(.r 28)]⟩,vv 21 29,ve 30 21 0,ve 31 21 1,vo 6 30,vo 7 31]
abbrev f38_15:AC:=.seq f38_16 (.seq (.ops [4,5] [] [vv 32 0,vv 33 1,vv 34 6,⟨none,.call (some 35) false (.f 57) [(.r 32),(.r 33),(.r 34)]⟩,vv 36 7,vo 4 35,vo 5 36]) .ret)
abbrev f38_1:AC:=.seq (.ops [0,1] [] [⟨none,.mv (some 4) (.c (.lit (.slice none 0 0)))⟩,⟨none,.mv (some 5) (.c (.lit (.int .i64 0)))⟩]) (.seq f38_4 (.seq f38_10 f38_15))
def c_f38:AFun:=⟨37,[.tmp 4,.tmp 5],f38_1⟩
theorem k_f38:kX x_f38 38 c_f38:=by delta kX; kernel_rfl
theorem e_f38:eX 38:=by delta eX; kernel_rfl

def n_f39:Nat:=39
def x_f39:=xX 27 [0,1,4,8,9,11,12,13,14,15,16,17,21,22,23,24,25] [] [(2,[0,1],[]),(24,[0,1,7],[]),(100,[4],[]),(102,[0,1,10],[]),(412,[4],[]),(28,[6],[]),(58,[26],[]),(236,[4],[]),(30,[4],[])]
abbrev f39_11:AC:=.ops [0,1,10] [] [vv 11 1,vb 12 .lss 11 0,vv 13 12,⟨some (13,false),.mv (some 14) (.r 1)⟩,⟨some (13,false),.bin (some 15) .num .geq (.r 14) (.c (.lit (.int .i64 64)))⟩,⟨none,.pick (some 16) (.r 13) (.c (.lit (.bool true))) (.r 15)⟩,vo 10 16]
abbrev f39_7:AC:=.cond (.r 7) (.seq (.ops [4] [] [⟨none,.mv (some 4) (.c (.lit (.int .i64 1)))⟩]) .ret) (.seq f39_11 (.cond (.r 10) (.seq (.ops [4] [] [⟨none,.mv (some 4) (.c (.lit (.int .i64 2)))⟩]) .ret) .skip))
abbrev f39_17:AC:=.ops [6] [] [vv 18 0,vn 19 18,vd 20 19 6,vl 21 20,vv 22 1,⟨none,.lookup (some 23) (.int .i64) (.agg [(.lit (.int .i64 0)),(.lit (.int .i64 0)),(.lit (.int .u64 0))]) true (.r 21) (.r 22)⟩,vv 17 23,ve 24 17 0,ve 25 17 1,⟨none,.newL 5 [(.lit (.int .i64 0)),(.lit (.int .i64 0)),(.lit (.int .u64 0))]⟩,⟨none,.store 3 (.r 5) (.r 24)⟩,vo 6 25]
abbrev f39_15:AC:=.seq (.seq f39_17 (.seq (.ops [26] [] [vv 26 6]) (.cond (.r 26) (.seq (.ops [4] [] [⟨none,.mv (some 4) (.c (.lit (.int .i64 11)))⟩]) .ret) .skip))) (.seq (.ops [4] [] [⟨none,.mv (some 4) (.c (.lit (.int .i64 0)))⟩]) .ret)
abbrev f39_1:AC:=.seq (.ops [0,1] [] [⟨none,.mv (some 4) (.c (.lit (.int .i64 0)))⟩]) (.seq (.block 0 (.seq (.ops [0,1,7] [] [vv 8 0,⟨none,.call (some 9) false (.f 44) [(.r 8)]⟩,vo 7 9]) f39_7)) f39_15)
def c_f39:AFun:=⟨27,[.tmp 4],f39_1⟩
theorem k_f39:kX x_f39 39 c_f39:=by delta kX; kernel_rfl
theorem e_f39:eX 39:=by delta eX; kernel_rfl

def n_f40:Nat:=40
def x_f40:=xX 47 [0,1,4,5,6,9,15,16,17,18,19,20,22,23,24,25,26,30,31,35,41,42,43,44] [25,43,44] [(2,[0,1],[]),(12,[0,1,10],[]),(52,[4,5],[]),(28,[0,1,14],[]),(116,[4,5],[]),(60,[0,1,6,8],[]),(122,[0,1,6,21],[]),(492,[4,5],[]),(124,[0,1,36],[]),(500,[],[]),(1002,[4,5],[]),(126,[4,5],[])]
abbrev f40_4:AC:=.seq (.ops [0,1,10] [] [vv 9 0,⟨none,.call (some 10) false (.f 44) [(.r 9)]⟩]) (.cond (.r 10) (.seq (.ops [4,5] [] [⟨none,.mv (some 4) (.c (.lit (.slice none 0 0)))⟩,⟨none,.mv (some 5) (.c (.lit (.int .i64 1)))⟩]) .ret) .skip)
abbrev f40_10:AC:=.seq (.ops [0,1,14] [] [vv 11 0,vn 12 11,vd 13 12 1,vl 14 13]) (.cond (.r 14) (.seq (.ops [4,5] [] [⟨none,.mv (some 4) (.c (.lit (.slice none 0 0)))⟩,⟨none,.mv (some 5) (.c (.lit (.int .i64 14)))⟩]) .ret) .skip)
abbrev f40_17:AC:=.ops [0,1,6,8] [] [vv 16 0,⟨none,.call (some 17) false (.f 45) [(.r 16),(.c (.lit (.int .i64 1)))]⟩,vv 15 17,ve 18 15 0,ve 19 15 1,ve 20 15 2,vo 6 18,vo 7 19,vo 8 20]
abbrev f40_22:AC:=.ops [4,5] [] [vv 22 6,vv 23 1,⟨none,.bst (some 24) [(0,1),(1,1),(2,1),(3,1)] (.agg [(.lit (.int .i64 0)),(.lit (.int .i64 0)),(.lit (.int .i64 0)),(.lit (.int .i64 0))]) [(0,(.r 22)),(2,(.r 23))]⟩,⟨none,.bsl (some 25) 4 1 (.agg [(.lit (.int .i64 0)),(.lit (.int .i64 0)),(.lit (.int .i64 0)),(.lit (.int .i64 0))]) [(0,(.r 24))]⟩,⟨none,.call (some 26) false (.f 59) [(.r 25)]⟩,vo 4 26,⟨none,.mv (some 5) (.c (.lit (.int .i64 0)))⟩]
abbrev f40_25:AC:=.draw [0,1,36] [] [] [vv 27 0,vn 28 27,vd 29 28 3,vl 30 29,⟨none,.len (some 31) .sl (.r 30)⟩,vv 32 0,vn 33 32,vd 34 33 2,vl 35 34] [⟨none,.bin (some 36) .num .lss (.r 31) (.r 35)⟩]
abbrev f40_28:AC:=.ops [] [] [vv 37 0,vv 38 0,vn 39 38,vd 40 39 3,⟨none,.loadOwn 41 (.r 40)⟩,vv 42 1,⟨none,.bsl (some 43) 1 1 (.lit (.int .i64 0)) [(0,(.r 42))]⟩,⟨none,.x (some 44) (.appB (.r 41) 1 8 (.r 43))⟩,vn 45 37,vd 46 45 3,⟨none,.store 1 (.r 46) (.r 44)⟩]
abbrev f40_26:AC:=.cond (.r 36) (.seq f40_28 (.seq (.ops [4,5] [] [⟨none,.mv (some 4) (.c (.lit (.slice none 0 0)))⟩,⟨none,.mv (some 5) (.c (.lit (.int .i64 0)))⟩]) .ret)) .skip
abbrev f40_23:AC:=.seq (.seq f40_25 f40_26) (.seq (.ops [4,5] [] [⟨none,.mv (some 4) (.c (.lit (.slice none 0 0)))⟩,⟨none,.mv (some 5) (.c (.lit (.int .i64 16)))⟩]) .ret)
abbrev f40_1:AC:=.seq (.ops [0,1] [] [⟨none,.mv (some 4) (.c (.lit (.slice none 0 0)))⟩,⟨none,.mv (some 5) (.c (.lit (.int .i64 0)))⟩]) (.seq f40_4 (.seq f40_10 (.seq (.seq f40_17 (.seq (.ops [0,1,6,21] [] [vv 21 8]) (.cond (.r 21) (.seq f40_22 .ret) .skip))) f40_23)))
def c_f40:AFun:=⟨47,[.tmp 4,.tmp 5],f40_1⟩
theorem k_f40:kX x_f40 40 c_f40:=by delta kX; kernel_rfl
theorem e_f40:eX 40:=by delta eX; kernel_rfl

def n_f41:Nat:=41
def x_f41:=xX 34 [1,2,3,8,9,10,11,13,17,18,19,20,21,22,27,28,29,30,31,32,33] [] [(2,[0,1,2,3],[]),(6,[0,1,2,3,9,10],[]),(28,[0,1,2,3,9,10,23],[]),(58,[10],[]),(30,[8],[])]
abbrev f41_4:AC:=.ops [0,1,2,3,9,10] [] [vv 12 0,vv 13 1,vn 14 12,vd 15 14 4,⟨none,.ixA (some 16) (.r 15) (.r 13) 2 1⟩,vl 17 16,vv 18 2,⟨none,.call (some 19) false (.f 60) [(.r 17),(.r 18)]⟩,vv 11 19,ve 20 11 0,ve 21 11 1,vo 9 20,vo 10 21]
abbrev f41_9:AC:=.ops [10] [] [vv 24 0,vn 25 24,vd 26 25 6,vl 27 26,vv 28 2,vv 29 1,vv 30 3,vv 31 9,⟨none,.bst (some 32) [(0,1),(1,1),(2,1)] (.agg [(.lit (.int .i64 0)),(.lit (.int .i64 0)),(.lit (.int .u64 0))]) [(0,(.r 29)),(1,(.r 30)),(2,(.r 31))]⟩,⟨none,.upd (.int .i64) (.r 27) (.r 28) (.r 32)⟩]
abbrev f41_3:AC:=.seq f41_4 (.seq (.seq (.ops [0,1,2,3,9,10,23] [] [vv 22 10,vb 23 .eql 22 0]) (.cond (.r 23) f41_9 .skip)) (.seq (.ops [8] [] [vv 33 10,vo 8 33]) .ret))
abbrev f41_1:AC:=.seq (.ops [0,1,2,3] [] [⟨none,.mv (some 8) (.c (.lit (.int .i64 0)))⟩]) f41_3
def c_f41:AFun:=⟨34,[.tmp 8],f41_1⟩
theorem k_f41:kX x_f41 41 c_f41:=by delta kX; kernel_rfl
theorem e_f41:eX 41:=by delta eX; kernel_rfl

def n_f42:Nat:=42
def x_f42:=xX 58 [0,2,3,4,5,6,8,10,11,12,13,14,15,21,22,23,24,30,31,42,47,48,52,53,54,55,56,57] [23,24,55] [(2,[0],[]),(12,[0,9],[]),(52,[2,3,4],[]),(14,[0,5,6,7],[]),(60,[0,5,6,7,16],[]),(122,[0,5,7],[]),(124,[0,5,7,32],[]),(1000,[36],[]),(4004,[2,3,4],[]),(1002,[2,3,4],[]),(126,[0,5,6,7],[]),(254,[5,6,7],[]),(1020,[5,6,51],[]),(4084,[2,3,4],[]),(1022,[2,3,4],[])]
abbrev f42_2:AC:=.ops [0] [] [⟨none,.mv (some 2) (.c (.lit (.int .i64 0)))⟩,⟨none,.mv (some 3) (.c (.lit (.slice none 0 0)))⟩,⟨none,.mv (some 4) (.c (.lit (.int .i64 0)))⟩]
abbrev f42_8:AC:=.ops [2,3,4] [] [⟨none,.mv (some 2) (.c (.lit (.int .i64 0)))⟩,⟨none,.mv (some 3) (.c (.lit (.slice none 0 0)))⟩,⟨none,.mv (some 4) (.c (.lit (.int .i64 1)))⟩]
abbrev f42_10:AC:=.ops [0,5,6,7] [] [vv 11 0,⟨none,.call (some 12) false (.f 45) [(.r 11),(.c (.lit (.int .i64 0)))]⟩,vv 10 12,ve 13 10 0,ve 14 10 1,ve 15 10 2,vo 5 13,vo 6 14,vo 7 15]
abbrev f42_15:AC:=.ops [0,5,7] [] [vv 17 0,vv 18 0,vn 19 18,vd 20 19 3,⟨none,.loadOwn 21 (.r 20)⟩,vv 22 6,⟨none,.bsl (some 23) 1 1 (.lit (.int .i64 0)) [(0,(.r 22))]⟩,⟨none,.x (some 24) (.appB (.r 21) 1 8 (.r 23))⟩,vn 25 17,vd 26 25 3,⟨none,.store 1 (.r 26) (.r 24)⟩]
abbrev f42_25:AC:=.ops [2,3,4] [] [⟨none,.mv (some 2) (.c (.lit (.int .i64 0)))⟩,⟨none,.mv (some 3) (.c (.lit (.slice none 0 0)))⟩,⟨none,.mv (some 4) (.c (.lit (.int .i64 13)))⟩]
abbrev f42_27:AC:=.ops [2,3,4] [] [⟨none,.mv (some 2) (.c (.lit (.int .i64 0)))⟩,⟨none,.mv (some 3) (.c (.lit (.slice none 0 0)))⟩,⟨none,.mv (some 4) (.c (.lit (.int .i64 16)))⟩]
abbrev f42_17:AC:=.seq (.ops [0,5,7,32] [] [vv 27 0,vn 28 27,vd 29 28 3,vl 30 29,⟨none,.len (some 31) .sl (.r 30)⟩,vb 32 .eql 31 0]) (.cond (.r 32) (.seq (.seq (.ops [36] [] [vv 33 0,vn 34 33,vd 35 34 1,vl 36 35]) (.cond (.r 36) (.seq f42_25 .ret) .skip)) (.seq f42_27 .ret)) .skip)
abbrev f42_31:AC:=.ops [5,6,7] [] [vv 43 0,vv 44 0,vn 45 44,vd 46 45 3,vl 47 46,⟨none,.call (some 48) false (.f 61) [(.r 47),(.c (.lit (.int .i64 0))),(.c (.lit (.int .i64 1)))]⟩,vn 49 43,vd 50 49 3,⟨none,.store 1 (.r 50) (.r 48)⟩]
abbrev f42_37:AC:=.ops [2,3,4] [] [vv 52 6,vv 53 5,⟨none,.bst (some 54) [(0,1),(1,1),(2,1),(3,1)] (.agg [(.lit (.int .i64 0)),(.lit (.int .i64 0)),(.lit (.int .i64 0)),(.lit (.int .i64 0))]) [(0,(.r 53))]⟩,⟨none,.bsl (some 55) 4 1 (.agg [(.lit (.int .i64 0)),(.lit (.int .i64 0)),(.lit (.int .i64 0)),(.lit (.int .i64 0))]) [(0,(.r 54))]⟩,⟨none,.call (some 56) false (.f 59) [(.r 55)]⟩,vo 2 52,vo 3 56,⟨none,.mv (some 4) (.c (.lit (.int .i64 0)))⟩]
abbrev f42_32:AC:=.seq (.seq (.ops [5,6,51] [] [vv 51 7]) (.cond (.r 51) (.seq f42_37 .ret) .skip)) (.seq (.ops [2,3,4] [] [vv 57 6,vo 2 57,⟨none,.mv (some 3) (.c (.lit (.slice none 0 0)))⟩,⟨none,.mv (some 4) (.c (.lit (.int .i64 0)))⟩]) .ret)
abbrev f42_28:AC:=.seq (.ops [0,5,6,7] [] [vv 37 0,vn 38 37,vd 39 38 3,vl 40 39,⟨none,.ixS (some 41) (.r 40) (.c (.lit (.int .i64 0))) 1⟩,vl 42 41,vo 6 42]) (.seq f42_31 f42_32)
def f42_16:AC:=.seq f42_17 f42_28
theorem f42_16e:SQ f42_16 f42_17 f42_28:=rfl
abbrev f42_3:AC:=.seq (.seq (.ops [0,9] [] [vv 8 0,⟨none,.call (some 9) false (.f 44) [(.r 8)]⟩]) (.cond (.r 9) (.seq f42_8 .ret) .skip)) (.seq f42_10 (.seq (.seq (.ops [0,5,6,7,16] [] [vv 16 7]) (.cond (.r 16) f42_15 .skip)) f42_16))
abbrev f42_1:AC:=.seq f42_2 f42_3
def c_f42:AFun:=⟨58,[.tmp 2,.tmp 3,.tmp 4],f42_1⟩
theorem k_f42:kX x_f42 42 c_f42:=by delta kX; kernel_rfl
theorem e_f42:eX 42:=by delta eX; kernel_rfl

def n_f43:Nat:=43
def x_f43:=xX 82 [0,1,4,5,7,10,12,16,17,18,19,20,21,26,27,29,33,40,42,43,45,50,52,53,55,59,66,68,69,71,76,78,79,81] [] [(2,[0,1],[]),(12,[0,1,11],[]),(52,[4,5],[]),(14,[0,1,6,7],[6]),(60,[0,1,6,22],[6]),(244,[4,5],[]),(62,[0,6],[6]),(252,[0,6,30],[6]),(506,[0,6],[6]),(1014,[0,6,8],[6,8]),(2030,[0,6,8],[6,8]),(2031,[0,6],[6]),(508,[0,6,56],[6]),(1018,[6],[6]),(2038,[0,6,9],[6,9]),(4078,[0,6,9],[6,9]),(4079,[6],[6]),(510,[4,5],[])]
abbrev f43_4:AC:=.seq (.ops [0,1,11] [] [vv 10 0,⟨none,.call (some 11) false (.f 62) [(.r 10)]⟩]) (.cond (.r 11) (.seq (.ops [4,5] [] [⟨none,.mv (some 4) (.c (.lit (.int .i64 0)))⟩,⟨none,.mv (some 5) (.c (.lit (.int .i64 1)))⟩]) .ret) .skip)
abbrev f43_10:AC:=.ops [0,1,6,7] [6] [vv 13 0,vn 14 13,vd 15 14 3,vl 16 15,vv 17 1,⟨none,.lookup (some 18) (.int .u64) (.agg [(.lit (.int .i64 0)),(.lit (.int .u64 0)),(.lit (.int .u64 0))]) true (.r 16) (.r 17)⟩,vv 12 18,ve 19 12 0,ve 20 12 1,⟨none,.newL 6 [(.lit (.int .i64 0)),(.lit (.int .u64 0)),(.lit (.int .u64 0))]⟩,⟨none,.store 3 (.r 6) (.r 19)⟩,vo 7 20]
abbrev f43_12:AC:=.seq (.ops [0,1,6,22] [6] [vv 21 7,⟨none,.un (some 22) .not (.r 21)⟩]) (.cond (.r 22) (.seq (.ops [4,5] [] [⟨none,.mv (some 4) (.c (.lit (.int .i64 0)))⟩,⟨none,.mv (some 5) (.c (.lit (.int .i64 9)))⟩]) .ret) .skip)
abbrev f43_25:AC:=.draw [0,6,8] [6,8] [8] [vv 37 0,vn 38 37,vd 39 38 3,vl 40 39,vd 41 6 1,vl 42 41,⟨none,.lookup (some 43) (.int .u64) (.agg [(.lit (.int .i64 0)),(.lit (.int .u64 0)),(.lit (.int .u64 0))]) false (.r 40) (.r 42)⟩,⟨none,.newL 8 [(.lit (.int .i64 0)),(.lit (.int .u64 0)),(.lit (.int .u64 0))]⟩] [⟨none,.store 3 (.r 8) (.r 43)⟩]
abbrev f43_28:AC:=.draw [0,6] [6] [] [vv 47 0,vn 48 47,vd 49 48 3,vl 50 49,vd 51 6 1,vl 52 51,⟨none,.load (some 53) (.r 8) (some 3)⟩] [⟨none,.upd (.int .u64) (.r 50) (.r 52) (.r 53)⟩]
abbrev f43_22:AC:=.cond (.r 30) (.ops [0,6] [6] [vv 31 0,vd 32 6 2,vl 33 32,vn 34 31,vd 35 34 0,vd 36 35 0,⟨none,.store 1 (.r 36) (.r 33)⟩]) (.seq f43_25 (.seq (.ops [0,6,8] [6,8] [vd 44 6 2,vl 45 44,vd 46 8 2,⟨none,.store 1 (.r 46) (.r 45)⟩]) f43_28))
abbrev f43_35:AC:=.draw [0,6,9] [6,9] [9] [vv 63 0,vn 64 63,vd 65 64 3,vl 66 65,vd 67 6 2,vl 68 67,⟨none,.lookup (some 69) (.int .u64) (.agg [(.lit (.int .i64 0)),(.lit (.int .u64 0)),(.lit (.int .u64 0))]) false (.r 66) (.r 68)⟩,⟨none,.newL 9 [(.lit (.int .i64 0)),(.lit (.int .u64 0)),(.lit (.int .u64 0))]⟩] [⟨none,.store 3 (.r 9) (.r 69)⟩]
abbrev f43_38:AC:=.draw [6] [6] [] [vv 73 0,vn 74 73,vd 75 74 3,vl 76 75,vd 77 6 2,vl 78 77,⟨none,.load (some 79) (.r 9) (some 3)⟩] [⟨none,.upd (.int .u64) (.r 76) (.r 78) (.r 79)⟩]
abbrev f43_32:AC:=.cond (.r 56) (.ops [6] [6] [vv 57 0,vd 58 6 1,vl 59 58,vn 60 57,vd 61 60 0,vd 62 61 1,⟨none,.store 1 (.r 62) (.r 59)⟩]) (.seq f43_35 (.seq (.ops [0,6,9] [6,9] [vd 70 6 1,vl 71 70,vd 72 9 1,⟨none,.store 1 (.r 72) (.r 71)⟩]) f43_38))
abbrev f43_29:AC:=.seq (.seq (.ops [0,6,56] [6] [vd 54 6 2,vl 55 54,⟨none,.bin (some 56) .num .eql (.r 55) (.c (.lit (.int .u64 0)))⟩]) f43_32) (.seq (.ops [4,5] [] [vd 80 6 0,vl 81 80,vo 4 81,⟨none,.mv (some 5) (.c (.lit (.int .i64 0)))⟩]) .ret)
abbrev f43_17:AC:=.seq (.ops [0,6] [6] [vv 23 0,vn 24 23,vd 25 24 3,vl 26 25,vv 27 1,⟨none,.del (.int .u64) (.r 26) (.r 27)⟩]) (.seq (.seq (.ops [0,6,30] [6] [vd 28 6 1,vl 29 28,⟨none,.bin (some 30) .num .eql (.r 29) (.c (.lit (.int .u64 0)))⟩]) f43_22) f43_29)
abbrev f43_1:AC:=.seq (.ops [0,1] [] [⟨none,.mv (some 4) (.c (.lit (.int .i64 0)))⟩,⟨none,.mv (some 5) (.c (.lit (.int .i64 0)))⟩]) (.seq f43_4 (.seq f43_10 (.seq f43_12 f43_17)))
def c_f43:AFun:=⟨82,[.tmp 4,.tmp 5],f43_1⟩
theorem k_f43:kX x_f43 43 c_f43:=by delta kX; kernel_rfl
theorem e_f43:eX 43:=by delta eX; kernel_rfl

def n_f44:Nat:=44
def x_f44:=xX 12 [0,2,3,4,5,9,10,11] [] [(2,[0],[]),(6,[2],[])]
abbrev f44_4:AC:=.ops [2] [] [vv 3 0,⟨none,.bin (some 4) (.nil .ptr) .eql (.r 3) (.c (.lit (.pointer none)))⟩,vv 5 4,⟨some (5,false),.mv (some 6) (.r 0)⟩,⟨some (5,false),.nilck (some 7) (.r 6)⟩,⟨some (5,false),.addr (some 8) (.r 7) 0⟩,⟨some (5,false),.load (some 9) (.r 8) none⟩,⟨some (5,false),.un (some 10) .not (.r 9)⟩,⟨none,.pick (some 11) (.r 5) (.c (.lit (.bool true))) (.r 10)⟩,vo 2 11]
abbrev f44_1:AC:=.seq (.ops [0] [] [⟨none,.mv (some 2) (.c (.lit (.bool false)))⟩]) (.seq f44_4 .ret)
def c_f44:AFun:=⟨12,[.tmp 2],f44_1⟩
theorem k_f44:kX x_f44 44 c_f44:=by delta kX; kernel_rfl
theorem e_f44:eX 44:=by delta eX; kernel_rfl

def n_f45:Nat:=45
def x_f45:=xX 36 [1,4,5,6,8,9,11,15,16,17,18,19,20,25,26,27,28,32,33,34,35] [] [(2,[0,1],[]),(6,[0,4,8],[]),(28,[0,4,21],[]),(116,[4,5,6],[]),(30,[0,4,5],[]),(62,[4,5],[]),(126,[4,5,6],[])]
abbrev f45_2:AC:=.ops [0,1] [] [⟨none,.mv (some 4) (.c (.lit (.int .i64 0)))⟩,⟨none,.mv (some 5) (.c (.lit (.int .i64 0)))⟩,⟨none,.mv (some 6) (.c (.lit (.bool false)))⟩]
abbrev f45_4:AC:=.ops [0,4,8] [] [vv 10 0,vv 11 1,vn 12 10,vd 13 12 4,⟨none,.ixA (some 14) (.r 13) (.r 11) 2 1⟩,vl 15 14,⟨none,.call (some 16) false (.f 63) [(.r 15)]⟩,vv 9 16,ve 17 9 0,ve 18 9 1,ve 19 9 2,vo 4 17,vo 7 18,vo 8 19]
abbrev f45_10:AC:=.ops [4,5,6] [] [⟨none,.mv (some 4) (.c (.lit (.int .i64 0)))⟩,⟨none,.mv (some 5) (.c (.lit (.int .i64 0)))⟩,⟨none,.mv (some 6) (.c (.lit (.bool false)))⟩]
abbrev f45_12:AC:=.ops [0,4,5] [] [vv 22 0,vn 23 22,vd 24 23 6,vl 25 24,vv 26 4,⟨none,.lookup (some 27) (.int .i64) (.agg [(.lit (.int .i64 0)),(.lit (.int .i64 0)),(.lit (.int .u64 0))]) false (.r 25) (.r 26)⟩,⟨none,.field (some 28) (.r 27) 1 none⟩,vo 5 28]
abbrev f45_13:AC:=.seq (.ops [4,5] [] [vv 29 0,vn 30 29,vd 31 30 6,vl 32 31,vv 33 4,⟨none,.del (.int .i64) (.r 32) (.r 33)⟩]) (.seq (.ops [4,5,6] [] [vv 34 4,vv 35 5,vo 4 34,vo 5 35,⟨none,.mv (some 6) (.c (.lit (.bool true)))⟩]) .ret)
abbrev f45_1:AC:=.seq f45_2 (.seq f45_4 (.seq (.seq (.ops [0,4,21] [] [vv 20 8,vb 21 .neq 20 0]) (.cond (.r 21) (.seq f45_10 .ret) .skip)) (.seq f45_12 f45_13)))
def c_f45:AFun:=⟨36,[.tmp 4,.tmp 5,.tmp 6],f45_1⟩
theorem k_f45:kX x_f45 45 c_f45:=by delta kX; kernel_rfl
theorem e_f45:eX 45:=by delta eX; kernel_rfl

def n_f47:Nat:=47
def x_f47:=xX 26 [0,1,4,5,6,7,8,9,11,12,13,15,16,18,20,22,24] [] [(2,[0,1],[]),(12,[0,1,10],[]),(52,[4],[]),(28,[0,1,5],[]),(58,[0,1,5],[]),(464,[0,1,5,14],[]),(931,[],[]),(1864,[0,1,5,25],[]),(7460,[4],[]),(467,[0,1,5],[]),(30,[4],[])]
abbrev f47_5:AC:=.ops [0,1,10] [] [vv 6 0,⟨none,.len (some 7) .sl (.r 6)⟩,vv 8 1,⟨none,.len (some 9) .sl (.r 8)⟩,⟨none,.bin (some 10) .num .neq (.r 7) (.r 9)⟩]
abbrev f47_15:AC:=.seq (.ops [0,1,5,14] [] [vv 11 5,vv 12 0,⟨none,.len (some 13) .sl (.r 12)⟩,⟨none,.bin (some 14) .num .lss (.r 11) (.r 13)⟩]) (.cond (.r 14) .skip (.exit [] [] 0))
abbrev f47_21:AC:=.draw [0,1,5,25] [] [] [vv 17 0,vv 18 5,⟨none,.ixS (some 19) (.r 17) (.r 18) 1⟩,vl 20 19,vv 21 1,vv 22 5,⟨none,.ixS (some 23) (.r 21) (.r 22) 1⟩,vl 24 23] [⟨none,.bin (some 25) .num .neq (.r 20) (.r 24)⟩]
abbrev f47_18:AC:=.seq (.block 1 (.seq f47_21 (.cond (.r 25) (.seq (.ops [4] [] [⟨none,.mv (some 4) (.c (.lit (.bool false)))⟩]) .ret) .skip))) (.ops [0,1,5] [] [vv 15 5,vb 16 .add 15 1,vo 5 16])
abbrev f47_14:AC:=.seq f47_15 f47_18
def f47_13:AC:=.loop [0,1,5] [] f47_14
theorem f47_13w:aC P id m f47_13 sf st Q = aB (aC P id m f47_14) [0,1,5] [] sf st Q:=rfl
abbrev f47_9:AC:=.seq (.seq (.ops [0,1,5] [] [⟨none,.mv (some 5) (.c (.lit (.int .i64 0)))⟩]) (.block 0 f47_13)) (.seq (.ops [4] [] [⟨none,.mv (some 4) (.c (.lit (.bool true)))⟩]) .ret)
abbrev f47_1:AC:=.seq (.ops [0,1] [] [⟨none,.mv (some 4) (.c (.lit (.bool false)))⟩]) (.seq (.seq f47_5 (.cond (.r 10) (.seq (.ops [4] [] [⟨none,.mv (some 4) (.c (.lit (.bool false)))⟩]) .ret) .skip)) f47_9)
def c_f47:AFun:=⟨26,[.tmp 4],f47_1⟩
theorem k_f47:kX x_f47 47 c_f47:=by delta kX; kernel_rfl
theorem e_f47:eX 47:=by delta eX; kernel_rfl

def n_f51:Nat:=51
def x_f51:=xX 12 [0,2,3,4,5,9,10,11] [] [(2,[0],[]),(6,[2],[])]
abbrev f51_4:AC:=.ops [2] [] [vv 3 0,⟨none,.bin (some 4) (.nil .ptr) .eql (.r 3) (.c (.lit (.pointer none)))⟩,vv 5 4,⟨some (5,false),.mv (some 6) (.r 0)⟩,⟨some (5,false),.nilck (some 7) (.r 6)⟩,⟨some (5,false),.addr (some 8) (.r 7) 2⟩,⟨some (5,false),.load (some 9) (.r 8) none⟩,⟨some (5,false),.bin (some 10) (.nil .mp) .eql (.r 9) (.c (.lit (.map none)))⟩,⟨none,.pick (some 11) (.r 5) (.c (.lit (.bool true))) (.r 10)⟩,vo 2 11]
abbrev f51_1:AC:=.seq (.ops [0] [] [⟨none,.mv (some 2) (.c (.lit (.bool false)))⟩]) (.seq f51_4 .ret)
def c_f51:AFun:=⟨12,[.tmp 2],f51_1⟩
theorem k_f51:kX x_f51 51 c_f51:=by delta kX; kernel_rfl
theorem e_f51:eX 51:=by delta eX; kernel_rfl

def n_f52:Nat:=52
def x_f52:=xX 8 [0,2,3,5,6,7] [5,7] [(2,[0],[]),(12,[0,4],[]),(52,[2],[]),(14,[2],[])]
abbrev f52_4:AC:=.seq (.ops [0,4] [] [vv 3 0,⟨none,.x (some 4) (.nilU .eql (.r 3) (.c (.lit (.slice none 0 0))))⟩]) (.cond (.r 4) (.seq (.ops [2] [] [⟨none,.mv (some 2) (.c (.lit (.slice none 0 0)))⟩]) .ret) .skip)
abbrev f52_10:AC:=.ops [2] [] [⟨none,.x (some 5) (.mksB 1 8 (.lit (.int .i64 0)) (.c (.lit (.int .i64 0))) (.c (.lit (.int .i64 0))))⟩,vv 6 0,⟨none,.x (some 7) (.appB (.r 5) 1 8 (.r 6))⟩,vo 2 7]
abbrev f52_1:AC:=.seq (.ops [0] [] [⟨none,.mv (some 2) (.c (.lit (.slice none 0 0)))⟩]) (.seq f52_4 (.seq f52_10 .ret))
def c_f52:AFun:=⟨8,[.tmp 2],f52_1⟩
theorem k_f52:kX x_f52 52 c_f52:=by delta kX; kernel_rfl
theorem e_f52:eX 52:=by delta eX; kernel_rfl

def n_f53:Nat:=53
def x_f53:=xX 40 [1,4,8,9,10,13,15,16,17,19,23,24,25,26,27,29,31,34,36,37,38,39] [] [(2,[0,1],[]),(6,[0,1,5],[5]),(28,[0,1,5,8,9,10],[5]),(58,[0,1,5,8,9,10],[5]),(232,[0,1,5,8,9,10,11],[5]),(933,[1],[]),(3736,[0,1,5,7,8,9,10],[5,7]),(14948,[0,1,5,7,8,9,10,32],[5,7]),(59796,[4],[]),(7475,[0,1,5,8,9,10],[5]),(935,[0,1,5,8,9,10],[5]),(30,[4],[])]
abbrev f53_4:AC:=.ops [0,1,5] [5] [⟨none,.newL 5 [(.lit (.bool false)),(.lit (.bool false)),(.lit (.bool false)),(.lit (.bool false)),(.lit (.bool false)),(.lit (.bool false)),(.lit (.bool false)),(.lit (.bool false)),(.lit (.bool false)),(.lit (.bool false)),(.lit (.bool false)),(.lit (.bool false)),(.lit (.bool false)),(.lit (.bool false)),(.lit (.bool false)),(.lit (.bool false))]⟩]
abbrev f53_17:AC:=.ops [0,1,5,7,8,9,10] [5,7] [⟨none,.ixS (some 12) (.r 8) (.r 10) 3⟩,⟨none,.load (some 13) (.r 12) (some 3)⟩,⟨none,.newL 7 [(.lit (.int .i64 0)),(.lit (.bool false)),(.lit (.int .i64 0))]⟩,⟨none,.store 3 (.r 7) (.r 13)⟩]
abbrev f53_20:AC:=.draw [0,1,5,7,8,9,10,32] [5,7] [] [vd 14 7 0,vl 15 14,vb 16 .lss 15 0,vv 17 16,⟨some (17,false),.addr (some 18) (.r 7) 0⟩,⟨some (17,false),.load (some 19) (.r 18) none⟩,⟨some (17,false),.mv (some 20) (.r 0)⟩,⟨some (17,false),.nilck (some 21) (.r 20)⟩,⟨some (17,false),.addr (some 22) (.r 21) 0⟩,⟨some (17,false),.load (some 23) (.r 22) none⟩,⟨some (17,false),.len (some 24) .sl (.r 23)⟩] [⟨some (17,false),.bin (some 25) .num .geq (.r 19) (.r 24)⟩,⟨none,.pick (some 26) (.r 17) (.c (.lit (.bool true))) (.r 25)⟩,vv 27 26,⟨some (27,false),.addr (some 28) (.r 7) 0⟩,⟨some (27,false),.load (some 29) (.r 28) none⟩,⟨some (27,false),.ixA (some 30) (.r 5) (.r 29) 16 1⟩,⟨some (27,false),.load (some 31) (.r 30) none⟩,⟨none,.pick (some 32) (.r 27) (.c (.lit (.bool true))) (.r 31)⟩]
abbrev f53_19:AC:=.seq f53_20 (.cond (.r 32) (.seq (.ops [4] [] [⟨none,.mv (some 4) (.c (.lit (.bool false)))⟩]) .ret) .skip)
abbrev f53_24:AC:=.ops [0,1,5,8,9,10] [5] [vd 33 7 0,vl 34 33,⟨none,.ixA (some 35) (.r 5) (.r 34) 16 1⟩,⟨none,.store 1 (.r 35) (.c (.lit (.bool true)))⟩]
def f53_18:AC:=.seq f53_19 f53_24
theorem f53_18e:SQ f53_18 f53_19 f53_24:=rfl
abbrev f53_10:AC:=.seq (.ops [0,1,5,8,9,10,11] [5] [⟨none,.bin (some 11) .num .lss (.r 10) (.r 9)⟩]) (.seq (.cond (.r 11) .skip (.exit [1] [] 0)) (.seq (.block 1 (.seq f53_17 f53_18)) (.ops [0,1,5,8,9,10] [5] [vb 36 .add 10 1,vv 10 36])))
def f53_9:AC:=.loop [0,1,5,8,9,10] [5] f53_10
theorem f53_9w:aC P id m f53_9 sf st Q = aB (aC P id m f53_10) [0,1,5,8,9,10] [5] sf st Q:=rfl
abbrev f53_5:AC:=.seq (.seq (.ops [0,1,5,8,9,10] [5] [vv 8 1,⟨none,.len (some 9) .sl (.r 8)⟩,⟨none,.mv (some 10) (.c (.lit (.int .i64 0)))⟩]) (.block 0 f53_9)) (.seq (.ops [4] [] [vv 37 1,⟨none,.len (some 38) .sl (.r 37)⟩,vb 39 .gtr 38 0,vo 4 39]) .ret)
abbrev f53_1:AC:=.seq (.ops [0,1] [] [⟨none,.mv (some 4) (.c (.lit (.bool false)))⟩]) (.seq f53_4 f53_5)
def c_f53:AFun:=⟨40,[.tmp 4],f53_1⟩
theorem k_f53:kX x_f53 53 c_f53:=by delta kX; kernel_rfl
theorem e_f53:eX 53:=by delta eX; kernel_rfl

def n_f54:Nat:=54
def x_f54:=xX 65 [1,4,5,6,8,9,10,12,13,14,16,18,24,26,27,28,29,30,31,32,33,34,35,36,37,38,39,40,41,42,45,46,47,48,49,50,51,52,53,54,55,56,57,59,60,61,62,63,64] [] [(2,[0,1],[]),(6,[0,1,5],[]),(28,[0,5,12,13,14],[]),(58,[0,5,12,13,14],[]),(232,[0,5,12,13,14,15],[]),(933,[5],[]),(3736,[0,5,6,7,12,13,14],[7]),(7474,[0,5,6,7,8,12,13,14],[7]),(14950,[0,5,6,7,8,9,10,12,13,14],[7]),(29902,[0,5,6,7,8,10,11,12,13,14],[7]),(119612,[0,5,6,8,10,11,12,13,14,44],[]),(239226,[0,5,6,11,12,13,14],[]),(119614,[0,5,6,12,13,14,58],[]),(239230,[0,5,12,13,14],[]),(935,[0,5,12,13,14],[]),(30,[4],[])]
abbrev f54_17:AC:=.ops [0,5,6,7,12,13,14] [7] [vv 16 14,⟨none,.ixS (some 17) (.r 12) (.r 14) 3⟩,⟨none,.load (some 18) (.r 17) (some 3)⟩,⟨none,.newL 7 [(.lit (.int .i64 0)),(.lit (.bool false)),(.lit (.int .i64 0))]⟩,vo 6 16,⟨none,.store 3 (.r 7) (.r 18)⟩]
abbrev f54_19:AC:=.draw [0,5,6,7,8,12,13,14] [7] [] [vv 19 0,vn 20 19,vd 21 20 0,vl 22 21,vd 23 7 0,vl 24 23] [⟨none,.ixS (some 25) (.r 22) (.r 24) 1⟩,vl 26 25,vo 8 26]
abbrev f54_21:AC:=.ops [0,5,6,7,8,9,10,12,13,14] [7] [vv 28 8,⟨none,.call (some 29) false (.f 68) [(.r 28)]⟩,vv 27 29,ve 30 27 0,ve 31 27 1,vo 9 30,vo 10 31]
abbrev f54_23:AC:=.ops [0,5,6,7,8,10,11,12,13,14] [7] [vv 32 8,⟨none,.call (some 33) false (.f 22) [(.r 32)]⟩,vv 34 33,⟨some (34,false),.mv (some 35) (.r 9)⟩,⟨some (34,false),.bin (some 36) .num .gtr (.r 35) (.c (.lit (.int .i64 0)))⟩,⟨none,.pick (some 37) (.r 34) (.c (.lit (.bool true))) (.r 36)⟩,vv 38 37,⟨some (38,false),.mv (some 39) (.r 8)⟩,⟨some (38,false),.call (some 40) false (.f 20) [(.r 39)]⟩,⟨some (38,false),.bin (some 41) .num .gtr (.r 40) (.c (.lit (.int .i64 0)))⟩,⟨none,.pick (some 42) (.r 38) (.c (.lit (.bool true))) (.r 41)⟩,vo 11 42]
abbrev f54_28:AC:=.ops [0,5,6,11,12,13,14] [] [vv 45 8,⟨none,.call (some 46) false (.f 22) [(.r 45)]⟩,vv 47 46,⟨some (47,false),.mv (some 48) (.r 10)⟩,⟨some (47,false),.bin (some 49) .num .gtr (.r 48) (.c (.lit (.int .i64 0)))⟩,⟨none,.pick (some 50) (.r 47) (.c (.lit (.bool true))) (.r 49)⟩,vv 51 50,⟨some (51,false),.mv (some 52) (.r 8)⟩,⟨some (51,false),.call (some 53) false (.f 20) [(.r 52)]⟩,⟨some (51,false),.mv (some 54) (.r 8)⟩,⟨some (51,false),.call (some 55) false (.f 69) [(.r 54)]⟩,⟨some (51,false),.bin (some 56) .num .lss (.r 53) (.r 55)⟩,⟨none,.pick (some 57) (.r 51) (.c (.lit (.bool true))) (.r 56)⟩,vo 11 57]
abbrev f54_25:AC:=.seq (.ops [0,5,6,8,10,11,12,13,14,44] [] [vd 43 7 1,vl 44 43]) (.cond (.r 44) f54_28 .skip)
abbrev f54_30:AC:=.ops [0,5,6,12,13,14,58] [] [vv 58 11]
abbrev f54_32:AC:=.ops [0,5,12,13,14] [] [vo 59 5,vv 60 6,⟨none,.bsl (some 61) 1 1 (.lit (.int .i64 0)) [(0,(.r 60))]⟩,⟨none,.appS 62 59 1 8 (.r 61)⟩,vo 5 62]
abbrev f54_31:AC:=.cond (.r 58) f54_32 .skip
def f54_29:AC:=.seq f54_30 f54_31
theorem f54_29e:SQ f54_29 f54_30 f54_31:=rfl
def f54_24:AC:=.seq f54_25 f54_29
theorem f54_24e:SQ f54_24 f54_25 f54_29:=rfl
abbrev f54_22:AC:=.seq f54_23 f54_24
def f54_20:AC:=.seq f54_21 f54_22
theorem f54_20e:SQ f54_20 f54_21 f54_22:=rfl
def f54_18:AC:=.seq f54_19 f54_20
theorem f54_18e:SQ f54_18 f54_19 f54_20:=rfl
abbrev f54_10:AC:=.seq (.ops [0,5,12,13,14,15] [] [⟨none,.bin (some 15) .num .lss (.r 14) (.r 13)⟩]) (.seq (.cond (.r 15) .skip (.exit [5] [] 0)) (.seq (.block 1 (.seq f54_17 f54_18)) (.ops [0,5,12,13,14] [] [vb 63 .add 14 1,vv 14 63])))
def f54_9:AC:=.loop [0,5,12,13,14] [] f54_10
theorem f54_9w:aC P id m f54_9 sf st Q = aB (aC P id m f54_10) [0,5,12,13,14] [] sf st Q:=rfl
abbrev f54_5:AC:=.seq (.seq (.ops [0,5,12,13,14] [] [vv 12 1,⟨none,.len (some 13) .sl (.r 12)⟩,⟨none,.mv (some 14) (.c (.lit (.int .i64 0)))⟩]) (.block 0 f54_9)) (.seq (.ops [4] [] [vv 64 5,vo 4 64]) .ret)
abbrev f54_1:AC:=.seq (.ops [0,1] [] [⟨none,.mv (some 4) (.c (.lit (.slice none 0 0)))⟩]) (.seq (.ops [0,1,5] [] [⟨none,.mv (some 5) (.c (.lit (.slice none 0 0)))⟩]) f54_5)
def c_f54:AFun:=⟨65,[.tmp 4],f54_1⟩
theorem k_f54:kX x_f54 54 c_f54:=by delta kX; kernel_rfl
theorem e_f54:eX 54:=by delta eX; kernel_rfl

def n_f55:Nat:=55
def x_f55:=xX 47 [0,2,3,4,6,10,14,15,21,22,27,28,29,31,36,37,38,40,41,42,44,45,46] [22,28] [(2,[0],[]),(12,[0,7],[]),(52,[2],[]),(14,[0,3],[]),(30,[0,3],[]),(62,[0,3],[]),(126,[0,3],[]),(508,[3,37],[]),(1018,[3,37],[]),(4072,[3,37,39],[]),(16293,[3],[]),(32588,[3,4,5,37],[5]),(32589,[3,37],[]),(510,[2],[])]
abbrev f55_4:AC:=.seq (.ops [0,7] [] [vv 6 0,⟨none,.call (some 7) false (.f 44) [(.r 6)]⟩]) (.cond (.r 7) (.seq (.ops [2] [] [⟨none,.mv (some 2) (.c (.lit (.pointer none)))⟩]) .ret) .skip)
abbrev f55_10:AC:=.ops [0,3] [] [vv 8 0,vn 9 8,⟨none,.load (some 10) (.r 9) (some 7)⟩,⟨none,.newB 3 [(.lit (.bool false)),(.lit (.bool false)),(.lit (.int .i64 0)),(.lit (.slice none 0 0)),(.lit (.pointer none)),(.lit (.pointer none)),(.lit (.map none))]⟩,⟨none,.store 7 (.r 3) (.r 10)⟩]
abbrev f55_14:AC:=.drawM [0,3] [] [vv 17 0,vn 18 17,vd 19 18 4,⟨none,.ixA (some 20) (.r 19) (.c (.lit (.int .i64 0))) 2 1⟩,vl 21 20] (some 22) (.f 70) [(.r 21)] [(false,vv 23 0),(false,vn 24 23),(false,vd 25 24 4),(false,⟨none,.ixA (some 26) (.r 25) (.c (.lit (.int .i64 1))) 2 1⟩),(false,vl 27 26)] [⟨none,.call (some 28) false (.f 70) [(.r 27)]⟩,⟨none,.bar (some 29) 1 (.agg [(.lit (.pointer none)),(.lit (.pointer none))]) [(0,(.r 22)),(1,(.r 28))]⟩,vd 30 3 4,⟨none,.store 2 (.r 30) (.r 29)⟩]
abbrev f55_28:AC:=.ops [3,4,5,37] [5] [⟨none,.x (some 40) (.ent 37)⟩,ve 41 40 0,ve 42 40 1,⟨none,.newL 5 [(.lit (.int .i64 0)),(.lit (.int .i64 0)),(.lit (.int .u64 0))]⟩,vo 4 41,⟨none,.store 3 (.r 5) (.r 42)⟩]
abbrev f55_27:AC:=.seq f55_28 (.ops [3,37] [] [vd 43 3 6,vl 44 43,vv 45 4,⟨none,.load (some 46) (.r 5) (some 3)⟩,⟨none,.upd (.int .i64) (.r 44) (.r 45) (.r 46)⟩])
abbrev f55_22:AC:=.seq (.ops [3,37,39] [] [⟨none,.x (some 38) (.nxt 37)⟩,ve 39 38 0]) (.seq (.cond (.r 39) .skip (.exit [3] [] 0)) (.block 1 f55_27))
def f55_21:AC:=.loop [3,37] [] f55_22
theorem f55_21w:aC P id m f55_21 sf st Q = aB (aC P id m f55_22) [3,37] [] sf st Q:=rfl
abbrev f55_17:AC:=.seq (.seq (.ops [3,37] [] [vv 33 0,vn 34 33,vd 35 34 6,vl 36 35,⟨none,.x (some 37) (.rng (.r 36))⟩]) (.block 0 f55_21)) (.seq (.ops [2] [] [vo 2 3]) .ret)
abbrev f55_11:AC:=.seq (.ops [0,3] [] [vv 11 0,vn 12 11,vd 13 12 3,vl 14 13,⟨none,.call (some 15) false (.f 52) [(.r 14)]⟩,vd 16 3 3,⟨none,.store 1 (.r 16) (.r 15)⟩]) (.seq f55_14 (.seq (.ops [0,3] [] [⟨none,.mkmap 31⟩,vd 32 3 6,⟨none,.store 1 (.r 32) (.r 31)⟩]) f55_17))
abbrev f55_1:AC:=.seq (.ops [0] [] [⟨none,.mv (some 2) (.c (.lit (.pointer none)))⟩]) (.seq f55_4 (.seq f55_10 f55_11))
def c_f55:AFun:=⟨47,[.tmp 2],f55_1⟩
theorem k_f55:kX x_f55 55 c_f55:=by delta kX; kernel_rfl
theorem e_f55:eX 55:=by delta eX; kernel_rfl

def n_f56:Nat:=56
def x_f56:=xX 8 [0,2,3,5,6,7] [] [(2,[0],[]),(12,[0,4],[]),(52,[2],[]),(14,[2],[])]
abbrev f56_4:AC:=.seq (.ops [0,4] [] [vv 3 0,⟨none,.x (some 4) (.nilU .eql (.r 3) (.c (.lit (.slice none 0 0))))⟩]) (.cond (.r 4) (.seq (.ops [2] [] [⟨none,.mv (some 2) (.c (.lit (.slice none 0 0)))⟩]) .ret) .skip)
abbrev f56_10:AC:=.ops [2] [] [⟨none,.bsl (some 5) 3 0 (.agg [(.lit (.int .i64 0)),(.lit (.bool false)),(.lit (.int .i64 0))]) []⟩,vv 6 0,⟨none,.appS 7 5 3 24 (.r 6)⟩,vo 2 7]
abbrev f56_1:AC:=.seq (.ops [0] [] [⟨none,.mv (some 2) (.c (.lit (.slice none 0 0)))⟩]) (.seq f56_4 (.seq f56_10 .ret))
def c_f56:AFun:=⟨8,[.tmp 2],f56_1⟩
theorem k_f56:kX x_f56 56 c_f56:=by delta kX; kernel_rfl
theorem e_f56:eX 56:=by delta eX; kernel_rfl

def n_f57:Nat:=57
def x_f57:=xX 37 [0,1,2,4,6,7,10,11,12,15,19,21,22,23,24,26,28,29,31,32,33,34,35,36] [] [(2,[0,2,4],[]),(6,[0,2,4,7],[]),(28,[0,4,7,10,11,12],[]),(58,[0,4,7,10,11,12],[]),(232,[0,4,7,10,11,12,13],[]),(933,[7],[]),(3736,[0,4,7,9,10,11,12],[9]),(7474,[0,4,7,9,10,11,12],[9]),(14950,[0,4,7,9,10,11,12],[9]),(14951,[0,4,7,10,11,12],[]),(935,[0,4,7,10,11,12],[]),(30,[6],[])]
abbrev f57_2:AC:=.ops [0,2,4] [] [⟨none,.boxB 4 1 (.r 1)⟩,⟨none,.mv (some 6) (.c (.lit (.slice none 0 0)))⟩]
abbrev f57_17:AC:=.ops [0,4,7,9,10,11,12] [9] [⟨none,.ixS (some 14) (.r 10) (.r 12) 4⟩,⟨none,.load (some 15) (.r 14) (some 4)⟩,⟨none,.newL 9 [(.lit (.int .i64 0)),(.lit (.int .i64 0)),(.lit (.int .i64 0)),(.lit (.int .i64 0))]⟩,⟨none,.store 4 (.r 9) (.r 15)⟩]
abbrev f57_19:AC:=.draw [0,4,7,9,10,11,12] [9] [] [vv 16 0,vn 17 16,vd 18 17 2,vl 19 18,vd 20 9 0,vl 21 20,⟨none,.lookup (some 22) (.int .i64) (.lit (.slice none 0 0)) false (.r 19) (.r 21)⟩,⟨none,.mkfn (some 23) 72 [] [(.r 4)]⟩] [⟨none,.call (some 24) false (.f 71) [(.r 22),(.r 23)]⟩,vd 25 9 1,⟨none,.store 1 (.r 25) (.r 24)⟩]
abbrev f57_22:AC:=.ops [0,4,7,10,11,12] [] [vo 31 7,⟨none,.load (some 32) (.r 9) (some 4)⟩,⟨none,.bsl (some 33) 4 1 (.agg [(.lit (.int .i64 0)),(.lit (.int .i64 0)),(.lit (.int .i64 0)),(.lit (.int .i64 0))]) [(0,(.r 32))]⟩,⟨none,.appS 34 31 4 32 (.r 33)⟩,vo 7 34]
abbrev f57_20:AC:=.seq (.ops [0,4,7,9,10,11,12] [9] [vv 26 0,vd 27 9 0,vl 28 27,vl 29 4,⟨none,.call (some 30) false (.f 58) [(.r 26),(.r 28),(.r 29)]⟩]) f57_22
abbrev f57_12:AC:=.seq (.cond (.r 13) .skip (.exit [7] [] 0)) (.seq (.block 1 (.seq f57_17 (.seq f57_19 f57_20))) (.ops [0,4,7,10,11,12] [] [vb 35 .add 12 1,vv 12 35]))
abbrev f57_10:AC:=.seq (.ops [0,4,7,10,11,12,13] [] [⟨none,.bin (some 13) .num .lss (.r 12) (.r 11)⟩]) f57_12
def f57_9:AC:=.loop [0,4,7,10,11,12] [] f57_10
theorem f57_9w:aC P id m f57_9 sf st Q = aB (aC P id m f57_10) [0,4,7,10,11,12] [] sf st Q:=rfl
abbrev f57_5:AC:=.seq (.seq (.ops [0,4,7,10,11,12] [] [vv 10 2,⟨none,.len (some 11) .sl (.r 10)⟩,⟨none,.mv (some 12) (.c (.lit (.int .i64 0)))⟩]) (.block 0 f57_9)) (.seq (.ops [6] [] [vv 36 7,vo 6 36]) .ret)
abbrev f57_3:AC:=.seq (.ops [0,2,4,7] [] [⟨none,.mv (some 7) (.c (.lit (.slice none 0 0)))⟩]) f57_5
def f72:AC:=.seq f57_2 f57_3
theorem f57_1e:SQ f72 f57_2 f57_3:=rfl
def c_f57:AFun:=⟨37,[.tmp 6],f72⟩
theorem k_f57:kX x_f57 57 c_f57:=by delta kX; kernel_rfl
theorem e_f57:eX 57:=by delta eX; kernel_rfl

def n_f58:Nat:=58
def x_f58:=xX 48 [1,2,4,11,12,13,14,15,18,20,21,28,30,31,33,37,38,43,44,45] [] [(2,[0,2,4],[]),(12,[0,2,4,13,14,15],[]),(26,[0,2,4,13,14,15],[]),(104,[0,2,4,13,14,15,16],[]),(421,[0,4],[]),(1688,[0,2,4,7,13,14,15],[7]),(3378,[0,2,4,7,13,14,15,22],[7]),(6758,[0,2,4,13,14,15],[]),(423,[0,2,4,13,14,15],[]),(14,[0,4],[]),(15,[],[])]
abbrev f58_2:AC:=.ops [0,2,4] [] [⟨none,.boxB 4 1 (.r 1)⟩]
abbrev f58_5:AC:=.draw [0,2,4,13,14,15] [] [] [vv 8 0,vn 9 8,vd 10 9 2,vl 11 10,vl 12 4,⟨none,.lookup (some 13) (.int .i64) (.lit (.slice none 0 0)) false (.r 11) (.r 12)⟩,⟨none,.len (some 14) .sl (.r 13)⟩,⟨none,.mv (some 15) (.c (.lit (.int .i64 0)))⟩] []
abbrev f58_15:AC:=.ops [0,2,4,7,13,14,15] [7] [⟨none,.ixS (some 17) (.r 13) (.r 15) 3⟩,⟨none,.load (some 18) (.r 17) (some 3)⟩,⟨none,.newL 7 [(.lit (.int .i64 0)),(.lit (.bool false)),(.lit (.int .i64 0))]⟩,⟨none,.store 3 (.r 7) (.r 18)⟩]
abbrev f58_19:AC:=.draw [0,2,4,13,14,15] [] [] [vv 23 0,vn 24 23,vd 25 24 0,vl 26 25,vd 27 7 0,vl 28 27,⟨none,.ixS (some 29) (.r 26) (.r 28) 1⟩,vl 30 29,vl 31 4] [⟨none,.call (some 32) false (.f 16) [(.r 30),(.r 31)]⟩]
abbrev f58_16:AC:=.seq (.ops [0,2,4,7,13,14,15,22] [7] [vd 19 7 0,vl 20 19,vv 21 2,⟨none,.bin (some 22) .num .neq (.r 20) (.r 21)⟩]) (.cond (.r 22) f58_19 .skip)
abbrev f58_8:AC:=.seq (.ops [0,2,4,13,14,15,16] [] [⟨none,.bin (some 16) .num .lss (.r 15) (.r 14)⟩]) (.seq (.cond (.r 16) .skip (.exit [0,4] [] 0)) (.seq (.block 1 (.seq f58_15 f58_16)) (.ops [0,2,4,13,14,15] [] [vb 33 .add 15 1,vv 15 33])))
def f58_7:AC:=.loop [0,2,4,13,14,15] [] f58_8
theorem f58_7w:aC P id m f58_7 sf st Q = aB (aC P id m f58_8) [0,2,4,13,14,15] [] sf st Q:=rfl
abbrev f58_23:AC:=.ops [] [] [vv 39 0,vv 40 0,vn 41 40,vd 42 41 1,vl 43 42,⟨none,.mkfn (some 44) 74 [] [(.r 4)]⟩,⟨none,.call (some 45) false (.f 73) [(.r 43),(.r 44)]⟩,vn 46 39,vd 47 46 1,⟨none,.store 1 (.r 47) (.r 45)⟩]
abbrev f58_3:AC:=.seq (.seq f58_5 (.block 0 f58_7)) (.seq (.draw [0,4] [] [] [vv 34 0,vn 35 34,vd 36 35 2,vl 37 36,vl 38 4] [⟨none,.del (.int .i64) (.r 37) (.r 38)⟩]) f58_23)
def f74:AC:=.seq f58_2 f58_3
theorem f58_1e:SQ f74 f58_2 f58_3:=rfl
def c_f58:AFun:=⟨48,[],f74⟩
theorem k_f58:kX x_f58 58 c_f58:=by delta kX; kernel_rfl
theorem e_f58:eX 58:=by delta eX; kernel_rfl

def n_f59:Nat:=59
def x_f59:=xX 4 [0,2,3] [] [(2,[0],[]),(6,[2],[])]
abbrev f59_1:AC:=.seq (.ops [0] [] [⟨none,.mv (some 2) (.c (.lit (.slice none 0 0)))⟩]) (.seq (.ops [2] [] [vv 3 0,vo 2 3]) .ret)
def c_f59:AFun:=⟨4,[.tmp 2],f59_1⟩
theorem k_f59:kX x_f59 59 c_f59:=by delta kX; kernel_rfl
theorem e_f59:eX 59:=by delta eX; kernel_rfl

def n_f60:Nat:=60
def x_f60:=xX 97 [0,1,4,5,8,9,14,15,16,21,22,29,34,35,40,41,46,53,60,65,66,71,76,81,82,88,96] [] [(2,[0,1],[]),(24,[0,1,7],[]),(100,[4,5],[]),(102,[0,1,10],[]),(412,[4,5],[]),(14,[0,1],[]),(30,[0],[]),(124,[0,47],[]),(250,[0],[]),(502,[0,6],[6]),(1006,[0,6],[6]),(1007,[0],[]),(126,[0],[]),(254,[4,5],[])]
abbrev f60_10:AC:=.seq (.ops [0,1,10] [] [vv 11 0,vn 12 11,vd 13 12 3,vl 14 13,⟨none,.len (some 15) .mp (.r 14)⟩,vb 16 .geq 15 4096,vo 10 16]) (.cond (.r 10) (.seq (.ops [4,5] [] [⟨none,.mv (some 4) (.c (.lit (.int .u64 0)))⟩,⟨none,.mv (some 5) (.c (.lit (.int .i64 7)))⟩]) .ret) .skip)
abbrev f60_5:AC:=.seq (.ops [0,1,7] [] [vv 8 0,⟨none,.call (some 9) false (.f 62) [(.r 8)]⟩,vo 7 9]) (.cond (.r 7) (.seq (.ops [4,5] [] [⟨none,.mv (some 4) (.c (.lit (.int .u64 0)))⟩,⟨none,.mv (some 5) (.c (.lit (.int .i64 1)))⟩]) .ret) f60_10)
abbrev f60_16:AC:=.ops [0,1] [] [vv 17 0,vn 18 17,vd 19 18 0,vd 20 19 2,vl 21 20,⟨none,.bin (some 22) .num .add (.r 21) (.c (.lit (.int .u64 1)))⟩,vn 23 17,vd 24 23 0,vd 25 24 2,⟨none,.store 1 (.r 25) (.r 22)⟩]
abbrev f60_18:AC:=.draw [0] [] [] [vv 26 0,vn 27 26,vd 28 27 3,vl 29 28,vv 30 0,vn 31 30,vd 32 31 0,vd 33 32 2,vl 34 33,vv 35 1,vv 36 0,vn 37 36,vd 38 37 0,vd 39 38 1,vl 40 39,⟨none,.bst (some 41) [(0,1),(1,1),(2,1)] (.agg [(.lit (.int .i64 0)),(.lit (.int .u64 0)),(.lit (.int .u64 0))]) [(0,(.r 35)),(1,(.r 40))]⟩] [⟨none,.upd (.int .u64) (.r 29) (.r 34) (.r 41)⟩]
abbrev f60_25:AC:=.draw [0,6] [6] [6] [vv 57 0,vn 58 57,vd 59 58 3,vl 60 59,vv 61 0,vn 62 61,vd 63 62 0,vd 64 63 1,vl 65 64,⟨none,.lookup (some 66) (.int .u64) (.agg [(.lit (.int .i64 0)),(.lit (.int .u64 0)),(.lit (.int .u64 0))]) false (.r 60) (.r 65)⟩,⟨none,.newL 6 [(.lit (.int .i64 0)),(.lit (.int .u64 0)),(.lit (.int .u64 0))]⟩] [⟨none,.store 3 (.r 6) (.r 66)⟩]
abbrev f60_28:AC:=.draw [0] [] [] [vv 73 0,vn 74 73,vd 75 74 3,vl 76 75,vv 77 0,vn 78 77,vd 79 78 0,vd 80 79 1,vl 81 80,⟨none,.load (some 82) (.r 6) (some 3)⟩] [⟨none,.upd (.int .u64) (.r 76) (.r 81) (.r 82)⟩]
abbrev f60_22:AC:=.cond (.r 47) (.ops [0] [] [vv 48 0,vv 49 0,vn 50 49,vd 51 50 0,vd 52 51 2,vl 53 52,vn 54 48,vd 55 54 0,vd 56 55 0,⟨none,.store 1 (.r 56) (.r 53)⟩]) (.seq f60_25 (.seq (.ops [0,6] [6] [vv 67 0,vn 68 67,vd 69 68 0,vd 70 69 2,vl 71 70,vd 72 6 2,⟨none,.store 1 (.r 72) (.r 71)⟩]) f60_28))
abbrev f60_20:AC:=.seq (.ops [0,47] [] [vv 42 0,vn 43 42,vd 44 43 0,vd 45 44 1,vl 46 45,⟨none,.bin (some 47) .num .eql (.r 46) (.c (.lit (.int .u64 0)))⟩]) f60_22
abbrev f60_29:AC:=.seq (.ops [0] [] [vv 83 0,vv 84 0,vn 85 84,vd 86 85 0,vd 87 86 2,vl 88 87,vn 89 83,vd 90 89 0,vd 91 90 1,⟨none,.store 1 (.r 91) (.r 88)⟩]) (.seq (.ops [4,5] [] [vv 92 0,vn 93 92,vd 94 93 0,vd 95 94 2,vl 96 95,vo 4 96,⟨none,.mv (some 5) (.c (.lit (.int .i64 0)))⟩]) .ret)
abbrev f60_1:AC:=.seq (.ops [0,1] [] [⟨none,.mv (some 4) (.c (.lit (.int .u64 0)))⟩,⟨none,.mv (some 5) (.c (.lit (.int .i64 0)))⟩]) (.seq (.block 0 f60_5) (.seq f60_16 (.seq f60_18 (.seq f60_20 f60_29))))
def c_f60:AFun:=⟨97,[.tmp 4,.tmp 5],f60_1⟩
theorem k_f60:kX x_f60 60 c_f60:=by delta kX; kernel_rfl
theorem e_f60:eX 60:=by delta eX; kernel_rfl

def n_f61:Nat:=61
def x_f61:=xX 33 [0,1,2,6,7,8,9,10,11,12,14,15,17,18,19,20,21,22,23,24,25,26,27,28,29,30,31,32] [0,20,22,26,27,31] [(2,[0,1,2],[]),(6,[0,1,2],[]),(28,[0,1,2,16],[]),(116,[6],[]),(30,[0,1,2,7],[]),(62,[0,7],[]),(126,[0],[]),(254,[6],[])]
abbrev f61_4:AC:=.ops [0,1,2] [] [vv 8 0,vv 9 1,vv 10 2,vv 11 0,⟨none,.len (some 12) .sl (.r 11)⟩,⟨none,.sli3 (some 13) (.r 8) (some (.r 9)) (some (.r 10)) (.r 12) 1⟩]
abbrev f61_6:AC:=.seq (.ops [0,1,2,16] [] [vv 14 1,vv 15 2,⟨none,.bin (some 16) .num .eql (.r 14) (.r 15)⟩]) (.cond (.r 16) (.seq (.ops [6] [] [vv 17 0,vo 6 17]) .ret) .skip)
abbrev f61_14:AC:=.draw [0,7] [] [] [vv 20 0,vv 21 1,⟨none,.sliS (some 22) (.r 20) none (some (.r 21)) 1⟩,vv 23 0,vv 24 2,⟨none,.sliS (some 25) (.r 23) (some (.r 24)) none 1⟩] [⟨none,.x (some 26) (.appB (.r 22) 1 8 (.r 25))⟩,vo 0 26]
abbrev f61_16:AC:=.ops [0] [] [vv 27 0,vv 28 0,⟨none,.len (some 29) .sl (.r 28)⟩,vv 30 7,⟨none,.sliS (some 31) (.r 27) (some (.r 29)) (some (.r 30)) 1⟩,⟨none,.x none (.clrB 1 (.lit (.int .i64 0)) (.r 31))⟩]
abbrev f61_11:AC:=.seq (.ops [0,1,2,7] [] [vv 18 0,⟨none,.len (some 19) .sl (.r 18)⟩,vo 7 19]) (.seq f61_14 (.seq f61_16 (.seq (.ops [6] [] [vv 32 0,vo 6 32]) .ret)))
abbrev f61_1:AC:=.seq (.ops [0,1,2] [] [⟨none,.mv (some 6) (.c (.lit (.slice none 0 0)))⟩]) (.seq f61_4 (.seq f61_6 f61_11))
def c_f61:AFun:=⟨33,[.tmp 6],f61_1⟩
theorem k_f61:kX x_f61 61 c_f61:=by delta kX; kernel_rfl
theorem e_f61:eX 61:=by delta eX; kernel_rfl

def n_f62:Nat:=62
def x_f62:=xX 12 [0,2,3,4,5,9,10,11] [] [(2,[0],[]),(6,[2],[])]
abbrev f62_4:AC:=.ops [2] [] [vv 3 0,⟨none,.bin (some 4) (.nil .ptr) .eql (.r 3) (.c (.lit (.pointer none)))⟩,vv 5 4,⟨some (5,false),.mv (some 6) (.r 0)⟩,⟨some (5,false),.nilck (some 7) (.r 6)⟩,⟨some (5,false),.addr (some 8) (.r 7) 3⟩,⟨some (5,false),.load (some 9) (.r 8) none⟩,⟨some (5,false),.bin (some 10) (.nil .mp) .eql (.r 9) (.c (.lit (.map none)))⟩,⟨none,.pick (some 11) (.r 5) (.c (.lit (.bool true))) (.r 10)⟩,vo 2 11]
abbrev f62_1:AC:=.seq (.ops [0] [] [⟨none,.mv (some 2) (.c (.lit (.bool false)))⟩]) (.seq f62_4 .ret)
def c_f62:AFun:=⟨12,[.tmp 2],f62_1⟩
theorem k_f62:kX x_f62 62 c_f62:=by delta kX; kernel_rfl
theorem e_f62:eX 62:=by delta eX; kernel_rfl

def n_f63:Nat:=63
def x_f63:=xX 22 [0,2,3,4,5,6,7,8,9,10,11,12,13,14,16,17,19,20,21] [] [(2,[0],[]),(6,[0,5,6,7],[]),(28,[0,5,6,7,15],[]),(58,[5,6,7],[]),(30,[2,3,4],[])]
abbrev f63_2:AC:=.ops [0] [] [⟨none,.mv (some 2) (.c (.lit (.int .i64 0)))⟩,⟨none,.mv (some 3) (.c (.lit (.int .u64 0)))⟩,⟨none,.mv (some 4) (.c (.lit (.int .i64 0)))⟩]
abbrev f63_6:AC:=.seq (.ops [0,5,6,7,15] [] [vv 14 7,vb 15 .eql 14 0]) (.cond (.r 15) (.ops [5,6,7] [] [vv 16 0,vv 17 6,⟨none,.call (some 18) false (.f 43) [(.r 16),(.r 17)]⟩]) .skip)
abbrev f63_3:AC:=.seq (.ops [0,5,6,7] [] [vv 9 0,⟨none,.call (some 10) false (.f 75) [(.r 9)]⟩,vv 8 10,ve 11 8 0,ve 12 8 1,ve 13 8 2,vo 5 11,vo 6 12,vo 7 13]) (.seq f63_6 (.seq (.ops [2,3,4] [] [vv 19 5,vv 20 6,vv 21 7,vo 2 19,vo 3 20,vo 4 21]) .ret))
abbrev f63_1:AC:=.seq f63_2 f63_3
def c_f63:AFun:=⟨22,[.tmp 2,.tmp 3,.tmp 4],f63_1⟩
theorem k_f63:kX x_f63 63 c_f63:=by delta kX; kernel_rfl
theorem e_f63:eX 63:=by delta eX; kernel_rfl

def n_f68:Nat:=68
def x_f68:=xX 18 [0,2,3,4,10,11,16,17] [] [(2,[0],[]),(12,[0,5],[]),(52,[2,3],[]),(14,[2,3],[])]
abbrev f68_4:AC:=.seq (.ops [0,5] [] [vv 4 0,⟨none,.call (some 5) false (.f 44) [(.r 4)]⟩]) (.cond (.r 5) (.seq (.ops [2,3] [] [⟨none,.mv (some 2) (.c (.lit (.int .i64 0)))⟩,⟨none,.mv (some 3) (.c (.lit (.int .i64 0)))⟩]) .ret) .skip)
abbrev f68_10:AC:=.draw [2,3] [] [] [vv 6 0,vn 7 6,vd 8 7 4,⟨none,.ixA (some 9) (.r 8) (.c (.lit (.int .i64 0))) 2 1⟩,vl 10 9,⟨none,.call (some 11) true (.f 81) [(.r 10)]⟩,vv 12 0,vn 13 12,vd 14 13 4,⟨none,.ixA (some 15) (.r 14) (.c (.lit (.int .i64 1))) 2 1⟩,vl 16 15] [⟨none,.call (some 17) false (.f 81) [(.r 16)]⟩,vo 2 11,vo 3 17]
abbrev f68_1:AC:=.seq (.ops [0] [] [⟨none,.mv (some 2) (.c (.lit (.int .i64 0)))⟩,⟨none,.mv (some 3) (.c (.lit (.int .i64 0)))⟩]) (.seq f68_4 (.seq f68_10 .ret))
def c_f68:AFun:=⟨18,[.tmp 2,.tmp 3],f68_1⟩
theorem k_f68:kX x_f68 68 c_f68:=by delta kX; kernel_rfl
theorem e_f68:eX 68:=by delta eX; kernel_rfl

def n_f69:Nat:=69
def x_f69:=xX 9 [0,2,3,8] [] [(2,[0],[]),(12,[0,4],[]),(52,[2],[]),(14,[2],[])]
abbrev f69_4:AC:=.seq (.ops [0,4] [] [vv 3 0,⟨none,.call (some 4) false (.f 44) [(.r 3)]⟩]) (.cond (.r 4) (.seq (.ops [2] [] [⟨none,.mv (some 2) (.c (.lit (.int .i64 0)))⟩]) .ret) .skip)
abbrev f69_1:AC:=.seq (.ops [0] [] [⟨none,.mv (some 2) (.c (.lit (.int .i64 0)))⟩]) (.seq f69_4 (.seq (.ops [2] [] [vv 5 0,vn 6 5,vd 7 6 2,vl 8 7,vo 2 8]) .ret))
def c_f69:AFun:=⟨9,[.tmp 2],f69_1⟩
theorem k_f69:kX x_f69 69 c_f69:=by delta kX; kernel_rfl
theorem e_f69:eX 69:=by delta eX; kernel_rfl

def n_f70:Nat:=70
def x_f70:=xX 16 [0,2,3,8,12,13,14,15] [13] [(2,[0],[]),(12,[0,4],[]),(52,[2],[]),(14,[2],[])]
abbrev f70_4:AC:=.seq (.ops [0,4] [] [vv 3 0,⟨none,.call (some 4) false (.f 62) [(.r 3)]⟩]) (.cond (.r 4) (.seq (.ops [2] [] [⟨none,.mv (some 2) (.c (.lit (.pointer none)))⟩]) .ret) .skip)
abbrev f70_10:AC:=.drawM [2] [] [vv 5 0,vn 6 5,vd 7 6 0,⟨none,.load (some 8) (.r 7) (some 3)⟩,vv 9 0,vn 10 9,vd 11 10 3,vl 12 11] (some 13) (.f 82) [(.r 12)] [] [⟨none,.bst (some 14) [(0,3),(3,1)] (.agg [(.lit (.int .u64 0)),(.lit (.int .u64 0)),(.lit (.int .u64 0)),(.lit (.map none))]) [(0,(.r 8)),(1,(.r 13))]⟩,⟨none,.boxB 15 4 (.r 14)⟩,vo 2 15]
abbrev f70_1:AC:=.seq (.ops [0] [] [⟨none,.mv (some 2) (.c (.lit (.pointer none)))⟩]) (.seq f70_4 (.seq f70_10 .ret))
def c_f70:AFun:=⟨16,[.tmp 2],f70_1⟩
theorem k_f70:kX x_f70 70 c_f70:=by delta kX; kernel_rfl
theorem e_f70:eX 70:=by delta eX; kernel_rfl

def n_f71:Nat:=71
def x_f71:=xX 19 [0,1,4,5,6,7,8,10,11,13,15,17,18] [] [(2,[0,1],[]),(12,[0,1,7,8],[]),(26,[0,1,7,8],[]),(104,[0,1,7,8,9],[]),(421,[],[]),(1688,[0,1,5,7,8],[]),(3378,[0,1,5,7,8,16],[]),(13516,[4],[]),(423,[0,1,7,8],[]),(14,[4],[])]
abbrev f71_17:AC:=.ops [0,1,5,7,8,16] [] [vv 11 1,vv 12 0,vv 13 5,⟨none,.ixS (some 14) (.r 12) (.r 13) 3⟩,⟨none,.load (some 15) (.r 14) (some 3)⟩,⟨none,.call (some 16) false (.r 11) [(.r 15)]⟩]
abbrev f71_12:AC:=.seq (.block 1 (.seq (.ops [0,1,5,7,8] [] [vv 10 8,vo 5 10]) (.seq f71_17 (.cond (.r 16) (.seq (.ops [4] [] [vv 17 5,vo 4 17]) .ret) .skip)))) (.ops [0,1,7,8] [] [vb 18 .add 8 1,vv 8 18])
abbrev f71_8:AC:=.seq (.ops [0,1,7,8,9] [] [⟨none,.bin (some 9) .num .lss (.r 8) (.r 7)⟩]) (.seq (.cond (.r 9) .skip (.exit [] [] 0)) f71_12)
def f71_7:AC:=.loop [0,1,7,8] [] f71_8
theorem f71_7w:aC P id m f71_7 sf st Q = aB (aC P id m f71_8) [0,1,7,8] [] sf st Q:=rfl
abbrev f71_3:AC:=.seq (.seq (.ops [0,1,7,8] [] [vv 6 0,⟨none,.len (some 7) .sl (.r 6)⟩,⟨none,.mv (some 8) (.c (.lit (.int .i64 0)))⟩]) (.block 0 f71_7)) (.seq (.ops [4] [] [⟨none,.mv (some 4) (.c (.lit (.int .i64 (-1))))⟩]) .ret)
abbrev f71_1:AC:=.seq (.ops [0,1] [] [⟨none,.mv (some 4) (.c (.lit (.int .i64 0)))⟩]) f71_3
def c_f71:AFun:=⟨19,[.tmp 4],f71_1⟩
theorem k_f71:kX x_f71 71 c_f71:=by delta kX; kernel_rfl
theorem e_f71:eX 71:=by delta eX; kernel_rfl

def n_f72:Nat:=72
def x_f72:=xX 8 [0,3,5,6,7] [] [(2,[1,2],[2]),(6,[3],[])]
abbrev f72_1:AC:=.seq (.ops [1,2] [2] [⟨none,.boxL 2 3 (.r 0)⟩,⟨none,.mv (some 3) (.c (.lit (.bool false)))⟩]) (.seq (.ops [3] [] [vd 4 2 0,vl 5 4,vl 6 1,⟨none,.bin (some 7) .num .eql (.r 5) (.r 6)⟩,vo 3 7]) .ret)
def c_f72:AFun:=⟨8,[.tmp 3],f72_1⟩
theorem k_f72:kX x_f72 72 c_f72:=by delta kX; kernel_rfl
theorem e_f72:eX 72:=by delta eX; kernel_rfl

def n_f73:Nat:=73
def x_f73:=xX 42 [0,1,4,5,6,7,8,9,10,11,13,14,15,16,17,18,20,21,23,25,26,27,28,31,32,34,35,36,37,38,39,40,41] [0,30,36,38] [(2,[0,1],[]),(6,[0,1,5],[]),(28,[0,1,5,12],[]),(116,[4],[]),(60,[0,1,5,6],[]),(122,[0,1,5,6],[]),(976,[0,1,5,6,19],[]),(1955,[0,5],[]),(3912,[0,1,5,6,7],[]),(7826,[0,1,5,6,7,29],[]),(31308,[0,1,5,6],[]),(31309,[0,1,5,6],[]),(979,[0,1,5,6],[]),(62,[0,5],[]),(126,[4],[])]
abbrev f73_6:AC:=.seq (.ops [0,1,5,12] [] [vv 11 5,⟨none,.bin (some 12) .num .eql (.r 11) (.c (.lit (.int .i64 (-1))))⟩]) (.cond (.r 12) (.seq (.ops [4] [] [vv 13 0,vo 4 13]) .ret) .skip)
abbrev f73_17:AC:=.seq (.ops [0,1,5,6,19] [] [vv 16 6,vv 17 0,⟨none,.len (some 18) .sl (.r 17)⟩,⟨none,.bin (some 19) .num .lss (.r 16) (.r 18)⟩]) (.cond (.r 19) .skip (.exit [0,5] [] 0))
abbrev f73_27:AC:=.seq (.ops [0,1,5,6] [] [vv 30 0,vv 31 5,vv 32 7,⟨none,.ixS (some 33) (.r 30) (.r 31) 1⟩,⟨none,.store 1 (.r 33) (.r 32)⟩]) (.ops [0,1,5,6] [] [vv 34 5,vb 35 .add 34 1,vo 5 35])
abbrev f73_24:AC:=.seq (.ops [0,1,5,6,7,29] [] [vv 26 1,vv 27 7,⟨none,.call (some 28) false (.r 26) [(.r 27)]⟩,⟨none,.un (some 29) .not (.r 28)⟩]) (.cond (.r 29) f73_27 .skip)
abbrev f73_20:AC:=.seq (.block 1 (.seq (.ops [0,1,5,6,7] [] [vv 22 0,vv 23 6,⟨none,.ixS (some 24) (.r 22) (.r 23) 1⟩,vl 25 24,vo 7 25]) f73_24)) (.ops [0,1,5,6] [] [vv 20 6,vb 21 .add 20 1,vo 6 21])
abbrev f73_16:AC:=.seq f73_17 f73_20
def f73_15:AC:=.loop [0,1,5,6] [] f73_16
theorem f73_15w:aC P id m f73_15 sf st Q = aB (aC P id m f73_16) [0,1,5,6] [] sf st Q:=rfl
abbrev f73_31:AC:=.seq (.ops [0,5] [] [vv 36 0,vv 37 5,⟨none,.sliOwn 38 36 (.r 37) 1⟩,⟨none,.x none (.clrB 1 (.lit (.int .i64 0)) (.r 38))⟩]) (.seq (.ops [4] [] [vv 39 0,vv 40 5,⟨none,.sliS (some 41) (.r 39) none (some (.r 40)) 1⟩,vo 4 41]) .ret)
abbrev f73_3:AC:=.seq (.ops [0,1,5] [] [vv 8 0,vv 9 1,⟨none,.call (some 10) false (.f 83) [(.r 8),(.r 9)]⟩,vo 5 10]) (.seq f73_6 (.seq (.seq (.ops [0,1,5,6] [] [vv 14 5,vb 15 .add 14 1,vo 6 15]) (.block 0 f73_15)) f73_31))
abbrev f73_1:AC:=.seq (.ops [0,1] [] [⟨none,.mv (some 4) (.c (.lit (.slice none 0 0)))⟩]) f73_3
def c_f73:AFun:=⟨42,[.tmp 4],f73_1⟩
theorem k_f73:kX x_f73 73 c_f73:=by delta kX; kernel_rfl
theorem e_f73:eX 73:=by delta eX; kernel_rfl

def n_f74:Nat:=74
def x_f74:=xX 7 [0,3,4,5,6] [] [(2,[0,1],[]),(6,[3],[])]
abbrev f74_1:AC:=.seq (.ops [0,1] [] [⟨none,.mv (some 3) (.c (.lit (.bool false)))⟩]) (.seq (.ops [3] [] [vv 4 0,vl 5 1,⟨none,.bin (some 6) .num .eql (.r 4) (.r 5)⟩,vo 3 6]) .ret)
def c_f74:AFun:=⟨7,[.tmp 3],f74_1⟩
theorem k_f74:kX x_f74 74 c_f74:=by delta kX; kernel_rfl
theorem e_f74:eX 74:=by delta eX; kernel_rfl

def n_f75:Nat:=75
def x_f75:=xX 31 [0,2,3,4,6,7,13,14,18,23,24,25,30] [] [(2,[0],[]),(24,[0,5],[]),(100,[2,3,4],[]),(102,[0,8],[]),(412,[2,3,4],[]),(14,[2,3,4],[])]
abbrev f75_2:AC:=.ops [0] [] [⟨none,.mv (some 2) (.c (.lit (.int .i64 0)))⟩,⟨none,.mv (some 3) (.c (.lit (.int .u64 0)))⟩,⟨none,.mv (some 4) (.c (.lit (.int .i64 0)))⟩]
abbrev f75_9:AC:=.ops [2,3,4] [] [⟨none,.mv (some 2) (.c (.lit (.int .i64 0)))⟩,⟨none,.mv (some 3) (.c (.lit (.int .u64 0)))⟩,⟨none,.mv (some 4) (.c (.lit (.int .i64 1)))⟩]
abbrev f75_14:AC:=.ops [2,3,4] [] [⟨none,.mv (some 2) (.c (.lit (.int .i64 0)))⟩,⟨none,.mv (some 3) (.c (.lit (.int .u64 0)))⟩,⟨none,.mv (some 4) (.c (.lit (.int .i64 9)))⟩]
abbrev f75_10:AC:=.seq (.ops [0,8] [] [vv 9 0,vn 10 9,vd 11 10 0,vd 12 11 0,vl 13 12,⟨none,.bin (some 14) .num .eql (.r 13) (.c (.lit (.int .u64 0)))⟩,vo 8 14]) (.cond (.r 8) (.seq f75_14 .ret) .skip)
abbrev f75_16:AC:=.draw [2,3,4] [] [] [vv 15 0,vn 16 15,vd 17 16 3,vl 18 17,vv 19 0,vn 20 19,vd 21 20 0,vd 22 21 0,vl 23 22,⟨none,.lookup (some 24) (.int .u64) (.agg [(.lit (.int .i64 0)),(.lit (.int .u64 0)),(.lit (.int .u64 0))]) false (.r 18) (.r 23)⟩,⟨none,.field (some 25) (.r 24) 0 none⟩,vv 26 0,vn 27 26,vd 28 27 0,vd 29 28 0,vl 30 29,vv 2 25] [vo 3 30,⟨none,.mv (some 4) (.c (.lit (.int .i64 0)))⟩]
abbrev f75_3:AC:=.seq (.block 0 (.seq (.ops [0,5] [] [vv 6 0,⟨none,.call (some 7) false (.f 62) [(.r 6)]⟩,vo 5 7]) (.cond (.r 5) (.seq f75_9 .ret) f75_10))) (.seq f75_16 .ret)
abbrev f75_1:AC:=.seq f75_2 f75_3
def c_f75:AFun:=⟨31,[.tmp 2,.tmp 3,.tmp 4],f75_1⟩
theorem k_f75:kX x_f75 75 c_f75:=by delta kX; kernel_rfl
theorem e_f75:eX 75:=by delta eX; kernel_rfl

def n_f81:Nat:=81
def x_f81:=xX 10 [0,2,3,8,9] [] [(2,[0],[]),(12,[0,4],[]),(52,[2],[]),(14,[2],[])]
abbrev f81_4:AC:=.seq (.ops [0,4] [] [vv 3 0,⟨none,.call (some 4) false (.f 62) [(.r 3)]⟩]) (.cond (.r 4) (.seq (.ops [2] [] [⟨none,.mv (some 2) (.c (.lit (.int .i64 0)))⟩]) .ret) .skip)
abbrev f81_1:AC:=.seq (.ops [0] [] [⟨none,.mv (some 2) (.c (.lit (.int .i64 0)))⟩]) (.seq f81_4 (.seq (.ops [2] [] [vv 5 0,vn 6 5,vd 7 6 3,vl 8 7,⟨none,.len (some 9) .mp (.r 8)⟩,vo 2 9]) .ret))
def c_f81:AFun:=⟨10,[.tmp 2],f81_1⟩
theorem k_f81:kX x_f81 81 c_f81:=by delta kX; kernel_rfl
theorem e_f81:eX 81:=by delta eX; kernel_rfl

def n_f82:Nat:=82
def x_f82:=xX 9 [0,2,3,5,6,7,8] [] [(2,[0],[]),(12,[0,4],[]),(52,[2],[]),(14,[2],[])]
abbrev f82_4:AC:=.seq (.ops [0,4] [] [vv 3 0,⟨none,.bin (some 4) (.nil .mp) .eql (.r 3) (.c (.lit (.map none)))⟩]) (.cond (.r 4) (.seq (.ops [2] [] [⟨none,.mv (some 2) (.c (.lit (.map none)))⟩]) .ret) .skip)
abbrev f82_3:AC:=.seq f82_4 (.seq (.ops [2] [] [vv 5 0,⟨none,.mkif (some 6) 115 (.r 5)⟩,⟨none,.x (some 7) (.mclone (.r 6))⟩,⟨none,.tas (some 8) 115 (.r 7)⟩,vo 2 8]) .ret)
abbrev f82_1:AC:=.seq (.ops [0] [] [⟨none,.mv (some 2) (.c (.lit (.map none)))⟩]) f82_3
def c_f82:AFun:=⟨9,[.tmp 2],f82_1⟩
theorem k_f82:kX x_f82 82 c_f82:=by delta kX; kernel_rfl
theorem e_f82:eX 82:=by delta eX; kernel_rfl

def n_f83:Nat:=83
def x_f83:=xX 19 [0,1,4,5,6,7,8,10,11,13,15,17,18] [] [(2,[0,1],[]),(12,[0,1,7,8],[]),(26,[0,1,7,8],[]),(104,[0,1,7,8,9],[]),(421,[],[]),(1688,[0,1,5,7,8],[]),(3378,[0,1,5,7,8,16],[]),(13516,[4],[]),(423,[0,1,7,8],[]),(14,[4],[])]
abbrev f83_17:AC:=.ops [0,1,5,7,8,16] [] [vv 11 1,vv 12 0,vv 13 5,⟨none,.ixS (some 14) (.r 12) (.r 13) 1⟩,vl 15 14,⟨none,.call (some 16) false (.r 11) [(.r 15)]⟩]
abbrev f83_12:AC:=.seq (.block 1 (.seq (.ops [0,1,5,7,8] [] [vv 10 8,vo 5 10]) (.seq f83_17 (.cond (.r 16) (.seq (.ops [4] [] [vv 17 5,vo 4 17]) .ret) .skip)))) (.ops [0,1,7,8] [] [vb 18 .add 8 1,vv 8 18])
abbrev f83_8:AC:=.seq (.ops [0,1,7,8,9] [] [⟨none,.bin (some 9) .num .lss (.r 8) (.r 7)⟩]) (.seq (.cond (.r 9) .skip (.exit [] [] 0)) f83_12)
def f83_7:AC:=.loop [0,1,7,8] [] f83_8
theorem f83_7w:aC P id m f83_7 sf st Q = aB (aC P id m f83_8) [0,1,7,8] [] sf st Q:=rfl
abbrev f83_3:AC:=.seq (.seq (.ops [0,1,7,8] [] [vv 6 0,⟨none,.len (some 7) .sl (.r 6)⟩,⟨none,.mv (some 8) (.c (.lit (.int .i64 0)))⟩]) (.block 0 f83_7)) (.seq (.ops [4] [] [⟨none,.mv (some 4) (.c (.lit (.int .i64 (-1))))⟩]) .ret)
abbrev f83_1:AC:=.seq (.ops [0,1] [] [⟨none,.mv (some 4) (.c (.lit (.int .i64 0)))⟩]) f83_3
def c_f83:AFun:=⟨19,[.tmp 4],f83_1⟩
theorem k_f83:kX x_f83 83 c_f83:=by delta kX; kernel_rfl
theorem e_f83:eX 83:=by delta eX; kernel_rfl

def n_f1052:Nat:=52
def x_f1052:=xX 8 [0,2,3,5,6,7] [] [(2,[0],[]),(12,[0,4],[]),(52,[2],[]),(14,[2],[])]
abbrev f1052_4:AC:=.seq (.ops [0,4] [] [vv 3 0,⟨none,.x (some 4) (.nilU .eql (.r 3) (.c (.lit (.slice none 0 0))))⟩]) (.cond (.r 4) (.seq (.ops [2] [] [⟨none,.mv (some 2) (.c (.lit (.slice none 0 0)))⟩]) .ret) .skip)
abbrev f1052_1:AC:=.seq (.ops [0] [] [⟨none,.mv (some 2) (.c (.lit (.slice none 0 0)))⟩]) (.seq f1052_4 (.seq (.ops [2] [] [⟨none,.bsl (some 5) 1 0 (.lit (.int .i64 0)) []⟩,vv 6 0,⟨none,.appS 7 5 1 8 (.r 6)⟩,vo 2 7]) .ret))
def c_f1052:AFun:=⟨8,[.tmp 2],f1052_1⟩
theorem k_f1052:kX x_f1052 52 c_f1052:=by delta kX; kernel_rfl
theorem e_f1052:eX 52:=by delta eX; kernel_rfl

def tab (q:Nat):Option AFun :=
  if q = 6 then some c_f6 else
  if q = 9 then some c_f9 else
  if q = 10 then some c_f10 else
  if q = 11 then some c_f11 else
  if q = 12 then some c_f12 else
  if q = 13 then some c_f13 else
  if q = 14 then some c_f14 else
  if q = 15 then some c_f15 else
  if q = 16 then some c_f16 else
  if q = 17 then some c_f17 else
  if q = 18 then some c_f18 else
  if q = 20 then some c_f20 else
  if q = 22 then some c_f22 else
  if q = 23 then some c_f23 else
  if q = 26 then some c_f26 else
  if q = 27 then some c_f27 else
  if q = 28 then some c_f28 else
  if q = 29 then some c_f29 else
  if q = 30 then some c_f30 else
  if q = 32 then some c_f32 else
  if q = 33 then some c_f33 else
  if q = 34 then some c_f34 else
  if q = 35 then some c_f35 else
  if q = 36 then some c_f36 else
  if q = 37 then some c_f37 else
  if q = 38 then some c_f38 else
  if q = 39 then some c_f39 else
  if q = 40 then some c_f40 else
  if q = 41 then some c_f41 else
  if q = 42 then some c_f42 else
  if q = 43 then some c_f43 else
  if q = 44 then some c_f44 else
  if q = 45 then some c_f45 else
  if q = 47 then some c_f47 else
  if q = 51 then some c_f51 else
  if q = 52 then some c_f52 else
  if q = 53 then some c_f53 else
  if q = 54 then some c_f54 else
  if q = 55 then some c_f55 else
  if q = 56 then some c_f56 else
  if q = 57 then some c_f57 else
  if q = 58 then some c_f58 else
  if q = 59 then some c_f59 else
  if q = 60 then some c_f60 else
  if q = 61 then some c_f61 else
  if q = 62 then some c_f62 else
  if q = 63 then some c_f63 else
  if q = 68 then some c_f68 else
  if q = 69 then some c_f69 else
  if q = 70 then some c_f70 else
  if q = 71 then some c_f71 else
  if q = 72 then some c_f72 else
  if q = 73 then some c_f73 else
  if q = 74 then some c_f74 else
  if q = 75 then some c_f75 else
  if q = 81 then some c_f81 else
  if q = 82 then some c_f82 else
  if q = 83 then some c_f83 else
  none
theorem tabOk:TabOk Go.Proofs.Try.prog id tab :=
  af e_f6 k_f6 rfl (
  af e_f9 k_f9 rfl (
  af e_f10 k_f10 rfl (
  af e_f11 k_f11 rfl (
  af e_f12 k_f12 rfl (
  af e_f13 k_f13 rfl (
  af e_f14 k_f14 rfl (
  af e_f15 k_f15 rfl (
  af e_f16 k_f16 rfl (
  af e_f17 k_f17 rfl (
  af e_f18 k_f18 rfl (
  af e_f20 k_f20 rfl (
  af e_f22 k_f22 rfl (
  af e_f23 k_f23 rfl (
  af e_f26 k_f26 rfl (
  af e_f27 k_f27 rfl (
  af e_f28 k_f28 rfl (
  af e_f29 k_f29 rfl (
  af e_f30 k_f30 rfl (
  af e_f32 k_f32 rfl (
  af e_f33 k_f33 rfl (
  af e_f34 k_f34 rfl (
  af e_f35 k_f35 rfl (
  af e_f36 k_f36 rfl (
  af e_f37 k_f37 rfl (
  af e_f38 k_f38 rfl (
  af e_f39 k_f39 rfl (
  af e_f40 k_f40 rfl (
  af e_f41 k_f41 rfl (
  af e_f42 k_f42 rfl (
  af e_f43 k_f43 rfl (
  af e_f44 k_f44 rfl (
  af e_f45 k_f45 rfl (
  af e_f47 k_f47 rfl (
  af e_f51 k_f51 rfl (
  af e_f52 k_f52 rfl (
  af e_f53 k_f53 rfl (
  af e_f54 k_f54 rfl (
  af e_f55 k_f55 rfl (
  af e_f56 k_f56 rfl (
  af e_f57 k_f57 rfl (
  af e_f58 k_f58 rfl (
  af e_f59 k_f59 rfl (
  af e_f60 k_f60 rfl (
  af e_f61 k_f61 rfl (
  af e_f62 k_f62 rfl (
  af e_f63 k_f63 rfl (
  af e_f68 k_f68 rfl (
  af e_f69 k_f69 rfl (
  af e_f70 k_f70 rfl (
  af e_f71 k_f71 rfl (
  af e_f72 k_f72 rfl (
  af e_f73 k_f73 rfl (
  af e_f74 k_f74 rfl (
  af e_f75 k_f75 rfl (
  af e_f81 k_f81 rfl (
  af e_f82 k_f82 rfl (
  af e_f83 k_f83 rfl (
  tabOk_nil))))))))))))))))))))))))))))))))))))))))))))))))))))))))))
theorem hmix:Go.Proofs.Try.prog.follows .mixedOrders = true:=by kernel_rfl
end
end Go.Fx.YtbomoaajkinfpaaFx

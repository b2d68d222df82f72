/- The functions that the statement reaches, resolved: printed by a program of ours from the translated code; each is checked here. -/
import Derived.Test.YtgmeefljgbaanaaFxS
set_option maxRecDepth 100000
set_option maxHeartbeats 0
namespace Go.Fx.YtgmeefljgbaanaaFx
open Go Go.Fx
section
variable (P:Program) (m:Bool) (sf:Sf) (st:St) (Q:Exit→Sf→St→Prop)
def n_f46:Nat:=46
def x_f46:=xX 27 [0,1,4,5,6,7,8,9,11,12,13,15,16,18,20,22,24,25] [] [(2,[0,1],[]),(12,[0,1,10],[]),(52,[4],[]),(28,[0,1,5],[]),(58,[0,1,5],[]),(464,[0,1,5,14],[]),(931,[],[]),(1864,[0,1,5,26],[]),(7460,[4],[]),(467,[0,1,5],[]),(30,[4],[])]
abbrev f46_14:AC:=.seq (.seq (.ops [0,1,5,14] [] [vv 11 5,vv 12 0,⟨none,.len (some 13) .sl (.r 12)⟩,⟨none,.bin (some 14) .num .lss (.r 11) (.r 13)⟩]) (.cond (.r 14) .skip (.exit [] [] 0))) (.seq (.block 1 (.seq (.draw [0,1,5,26] [] [] [vv 17 0,vv 18 5,⟨none,.ixS (some 19) (.r 17) (.r 18) 7⟩,⟨none,.load (some 20) (.r 19) (some 7)⟩,vv 21 1,vv 22 5,⟨none,.ixS (some 23) (.r 21) (.r 22) 7⟩,⟨none,.load (some 24) (.r 23) (some 7)⟩] [⟨none,.call (some 25) false (.f 32) [(.r 20),(.r 24)]⟩,⟨none,.un (some 26) .not (.r 25)⟩]) (.cond (.r 26) (.seq (.ops [4] [] [⟨none,.mv (some 4) (.c (.lit (.bool false)))⟩]) .ret) .skip))) (.ops [0,1,5] [] [vv 15 5,vb 16 .add 15 1,vo 5 16]))
def f46_13:AC:=.loop [0,1,5] [] f46_14
theorem f46_13w:aC P id m f46_13 sf st Q=aH (aC P id m f46_14) [0,1,5] [] sf st Q:=rfl
abbrev f46_1:AC:=.seq (.ops [0,1] [] [⟨none,.mv (some 4) (.c (.lit (.bool false)))⟩]) (.seq (.seq (.ops [0,1,10] [] [vv 6 0,⟨none,.len (some 7) .sl (.r 6)⟩,vv 8 1,⟨none,.len (some 9) .sl (.r 8)⟩,⟨none,.bin (some 10) .num .neq (.r 7) (.r 9)⟩]) (.cond (.r 10) (.seq (.ops [4] [] [⟨none,.mv (some 4) (.c (.lit (.bool false)))⟩]) .ret) .skip)) (.seq (.seq (.ops [0,1,5] [] [⟨none,.mv (some 5) (.c (.lit (.int .i64 0)))⟩]) (.block 0 f46_13)) (.seq (.ops [4] [] [⟨none,.mv (some 4) (.c (.lit (.bool true)))⟩]) .ret)))
def c_f46:AFun:=⟨27,[.tmp 4],f46_1⟩
theorem k_f46:kX x_f46 46 c_f46:=by delta kX;kernel_rfl
theorem e_f46:eX 46:=by delta eX;kernel_rfl

def n_f47:Nat:=47
def x_f47:=xX 16 [0,2,4,5,6,8,9,10,11,13,14,15] [] [(2,[1],[1]),(6,[2],[])]
abbrev f47_1:AC:=.seq (.ops [1] [1] [⟨none,.boxL 1 2 (.r 0)⟩,⟨none,.mv (some 2) (.c (.lit (.bool false)))⟩]) (.seq (.ops [2] [] [vd 3 1 0,vl 4 3,⟨none,.call (some 5) false (.f 67) [(.r 4)]⟩,vv 6 5,⟨some (6,true),.addr (some 7) (.r 1) 1⟩,⟨some (6,true),.load (some 8) (.r 7) none⟩,⟨some (6,true),.bin (some 9) .num .geq (.r 8) (.c (.lit (.int .i64 0)))⟩,⟨none,.pick (some 10) (.r 6) (.r 9) (.c (.lit (.bool false)))⟩,vv 11 10,⟨some (11,true),.addr (some 12) (.r 1) 1⟩,⟨some (11,true),.load (some 13) (.r 12) none⟩,⟨some (11,true),.bin (some 14) .num .leq (.r 13) (.c (.lit (.int .i64 65535)))⟩,⟨none,.pick (some 15) (.r 11) (.r 14) (.c (.lit (.bool false)))⟩,vo 2 15]) .ret)
def c_f47:AFun:=⟨16,[.tmp 2],f47_1⟩
theorem k_f47:kX x_f47 47 c_f47:=by delta kX;kernel_rfl
theorem e_f47:eX 47:=by delta eX;kernel_rfl

def n_f48:Nat:=48
def x_f48:=xX 17 [0,1,4,6,8,9,11,13,14,15,16] [] [(2,[2,3],[2,3]),(6,[4],[])]
abbrev f48_1:AC:=.seq (.ops [2,3] [2,3] [⟨none,.boxL 2 2 (.r 0)⟩,⟨none,.boxL 3 2 (.r 1)⟩,⟨none,.mv (some 4) (.c (.lit (.int .i64 0)))⟩]) (.seq (.draw [4] [] [] [vd 5 2 0,vl 6 5,vd 7 3 0,vl 8 7,⟨none,.call (some 9) true (.f 69) [(.r 6),(.r 8)]⟩,vd 10 2 1,vl 11 10,vd 12 3 1,vl 13 12] [⟨none,.call (some 14) false (.f 70) [(.r 11),(.r 13)]⟩,⟨none,.bsl (some 15) 1 2 (.lit (.int .i64 0)) [(0,(.r 9)),(1,(.r 14))]⟩,⟨none,.call (some 16) false (.f 68) [(.r 15)]⟩,vo 4 16]) .ret)
def c_f48:AFun:=⟨17,[.tmp 4],f48_1⟩
theorem k_f48:kX x_f48 48 c_f48:=by delta kX;kernel_rfl
theorem e_f48:eX 48:=by delta eX;kernel_rfl

def n_f49:Nat:=49
def x_f49:=xX 30 [0,1,2,7,9,11,12,13,14,15,16,18,19,20,21,23,24,25,26,29] [] [(2,[0,2,4,6],[4,6]),(6,[0,4,6,7],[4,6]),(14,[4,6,7,8],[4,6,8]),(30,[6,8],[6,8]),(62,[6],[6])]
abbrev f49_1:AC:=.seq (.ops [0,2,4,6] [4,6] [⟨none,.boxL 4 4 (.r 1)⟩,⟨none,.newL 6 [(.lit (.int .i64 0)),(.lit (.string ⟨#[]⟩)),(.lit (.int .i64 0)),(.lit (.slice none 0 0)),(.lit (.int .u64 0)),(.lit (.bool false)),(.lit (.int .i64 0))]⟩]) (.seq (.ops [0,4,6,7] [4,6] [vv 9 2,vd 10 4 2,vl 11 10,⟨none,.len (some 12) .sl (.r 11)⟩,⟨none,.mn (some 13) true (.r 9) (.r 12)⟩,vo 7 13]) (.seq (.ops [4,6,7,8] [4,6,8] [vv 14 0,⟨none,.load (some 15) (.r 4) (some 4)⟩,vv 16 7,vd 17 4 2,vl 18 17,⟨none,.len (some 19) .sl (.r 18)⟩,⟨none,.bin (some 20) .num .lss (.r 16) (.r 19)⟩,⟨none,.bst (some 21) [(0,1),(1,4),(5,1),(6,1)] (.agg [(.lit (.int .i64 0)),(.lit (.string ⟨#[]⟩)),(.lit (.int .i64 0)),(.lit (.slice none 0 0)),(.lit (.int .u64 0)),(.lit (.bool false)),(.lit (.int .i64 0))]) [(0,(.r 14)),(1,(.r 15)),(2,(.r 20))]⟩,⟨none,.newL 8 [(.lit (.int .i64 0)),(.lit (.string ⟨#[]⟩)),(.lit (.int .i64 0)),(.lit (.slice none 0 0)),(.lit (.int .u64 0)),(.lit (.bool false)),(.lit (.int .i64 0))]⟩,⟨none,.store 7 (.r 8) (.r 21)⟩]) (.seq (.ops [6,8] [6,8] [vd 22 4 2,vl 23 22,vv 24 7,⟨none,.sliS (some 25) (.r 23) none (some (.r 24)) 1⟩,⟨none,.call (some 26) false (.f 53) [(.r 25)]⟩,vd 27 8 1,vd 28 27 2,⟨none,.store 1 (.r 28) (.r 26)⟩]) (.seq (.ops [6] [6] [⟨none,.load (some 29) (.r 8) (some 7)⟩,⟨none,.store 7 (.r 6) (.r 29)⟩]) .ret))))
def c_f49:AFun:=⟨30,[.cell 6 (some 7)],f49_1⟩
theorem k_f49:kX x_f49 49 c_f49:=by delta kX;kernel_rfl
theorem e_f49:eX 49:=by delta eX;kernel_rfl

def n_f50:Nat:=50
def x_f50:=xX 29 [9,14,15,21,23,24,25,28] [] [(2,[0,2],[2]),(6,[0,2,3],[2,3]),(14,[0,2,3],[2,3]),(30,[2,3],[2,3]),(62,[2],[2])]
abbrev f50_1:AC:=.seq (.ops [0,2] [2] [⟨none,.newL 2 [(.lit (.string ⟨#[]⟩)),(.lit (.int .i64 0)),(.lit (.slice none 0 0)),(.lit (.int .u64 0))]⟩]) (.seq (.ops [0,2,3] [2,3] [vv 4 0,vn 5 4,vd 6 5 6,vl 7 6,⟨none,.ixS (some 8) (.r 7) (.c (.lit (.int .i64 0))) 4⟩,⟨none,.load (some 9) (.r 8) (some 4)⟩,⟨none,.newL 3 [(.lit (.string ⟨#[]⟩)),(.lit (.int .i64 0)),(.lit (.slice none 0 0)),(.lit (.int .u64 0))]⟩,⟨none,.store 4 (.r 3) (.r 9)⟩]) (.seq (.ops [0,2,3] [2,3] [vv 10 0,vv 11 0,vn 12 11,vd 13 12 6,vl 14 13,⟨none,.call (some 15) false (.f 71) [(.r 14),(.c (.lit (.int .i64 0))),(.c (.lit (.int .i64 1)))]⟩,vn 16 10,vd 17 16 6,⟨none,.store 1 (.r 17) (.r 15)⟩]) (.seq (.draw [2,3] [2,3] [] [vv 18 0,vn 19 18,vd 20 19 7,vl 21 20,vd 22 3 2,vl 23 22,⟨none,.len (some 24) .sl (.r 23)⟩] [⟨none,.bin (some 25) .num .sub (.r 21) (.r 24)⟩,vn 26 18,vd 27 26 7,⟨none,.store 1 (.r 27) (.r 25)⟩]) (.seq (.ops [2] [2] [⟨none,.load (some 28) (.r 3) (some 4)⟩,⟨none,.store 4 (.r 2) (.r 28)⟩]) .ret))))
def c_f50:AFun:=⟨29,[.cell 2 (some 4)],f50_1⟩
theorem k_f50:kX x_f50 50 c_f50:=by delta kX;kernel_rfl
theorem e_f50:eX 50:=by delta eX;kernel_rfl

def n_f51:Nat:=51
def x_f51:=xX 97 [0,1,4,5,8,9,14,15,16,21,22,29,34,35,40,41,46,53,60,65,66,71,76,81,82,88,96] [] [(2,[0,1],[]),(24,[0,1,7],[]),(100,[4,5],[]),(102,[0,1,10],[]),(412,[4,5],[]),(14,[0,1],[]),(30,[0],[]),(124,[0,47],[]),(250,[0],[]),(502,[0,6],[6]),(1006,[0,6],[6]),(1007,[0],[]),(126,[0],[]),(254,[4,5],[])]
abbrev f51_17:AC:=.seq (.draw [0] [] [] [vv 26 0,vn 27 26,vd 28 27 3,vl 29 28,vv 30 0,vn 31 30,vd 32 31 0,vd 33 32 2,vl 34 33,vv 35 1,vv 36 0,vn 37 36,vd 38 37 0,vd 39 38 1,vl 40 39,⟨none,.bst (some 41) [(0,1),(1,1),(2,1)] (.agg [(.lit (.int .i64 0)),(.lit (.int .u64 0)),(.lit (.int .u64 0))]) [(0,(.r 35)),(1,(.r 40))]⟩] [⟨none,.upd (.int .u64) (.r 29) (.r 34) (.r 41)⟩]) (.seq (.seq (.ops [0,47] [] [vv 42 0,vn 43 42,vd 44 43 0,vd 45 44 1,vl 46 45,⟨none,.bin (some 47) .num .eql (.r 46) (.c (.lit (.int .u64 0)))⟩]) (.cond (.r 47) (.ops [0] [] [vv 48 0,vv 49 0,vn 50 49,vd 51 50 0,vd 52 51 2,vl 53 52,vn 54 48,vd 55 54 0,vd 56 55 0,⟨none,.store 1 (.r 56) (.r 53)⟩]) (.seq (.draw [0,6] [6] [6] [vv 57 0,vn 58 57,vd 59 58 3,vl 60 59,vv 61 0,vn 62 61,vd 63 62 0,vd 64 63 1,vl 65 64,⟨none,.lookup (some 66) (.int .u64) (.agg [(.lit (.int .i64 0)),(.lit (.int .u64 0)),(.lit (.int .u64 0))]) false (.r 60) (.r 65)⟩,⟨none,.newL 6 [(.lit (.int .i64 0)),(.lit (.int .u64 0)),(.lit (.int .u64 0))]⟩] [⟨none,.store 3 (.r 6) (.r 66)⟩]) (.seq (.ops [0,6] [6] [vv 67 0,vn 68 67,vd 69 68 0,vd 70 69 2,vl 71 70,vd 72 6 2,⟨none,.store 1 (.r 72) (.r 71)⟩]) (.draw [0] [] [] [vv 73 0,vn 74 73,vd 75 74 3,vl 76 75,vv 77 0,vn 78 77,vd 79 78 0,vd 80 79 1,vl 81 80,⟨none,.load (some 82) (.r 6) (some 3)⟩] [⟨none,.upd (.int .u64) (.r 76) (.r 81) (.r 82)⟩]))))) (.seq (.ops [0] [] [vv 83 0,vv 84 0,vn 85 84,vd 86 85 0,vd 87 86 2,vl 88 87,vn 89 83,vd 90 89 0,vd 91 90 1,⟨none,.store 1 (.r 91) (.r 88)⟩]) (.seq (.ops [4,5] [] [vv 92 0,vn 93 92,vd 94 93 0,vd 95 94 2,vl 96 95,vo 4 96,⟨none,.mv (some 5) (.c (.lit (.int .i64 0)))⟩]) .ret)))
abbrev f51_1:AC:=.seq (.ops [0,1] [] [⟨none,.mv (some 4) (.c (.lit (.int .u64 0)))⟩,⟨none,.mv (some 5) (.c (.lit (.int .i64 0)))⟩]) (.seq (.block 0 (.seq (.ops [0,1,7] [] [vv 8 0,⟨none,.call (some 9) false (.f 58) [(.r 8)]⟩,vo 7 9]) (.cond (.r 7) (.seq (.ops [4,5] [] [⟨none,.mv (some 4) (.c (.lit (.int .u64 0)))⟩,⟨none,.mv (some 5) (.c (.lit (.int .i64 1)))⟩]) .ret) (.seq (.ops [0,1,10] [] [vv 11 0,vn 12 11,vd 13 12 3,vl 14 13,⟨none,.len (some 15) .mp (.r 14)⟩,vb 16 .geq 15 4096,vo 10 16]) (.cond (.r 10) (.seq (.ops [4,5] [] [⟨none,.mv (some 4) (.c (.lit (.int .u64 0)))⟩,⟨none,.mv (some 5) (.c (.lit (.int .i64 7)))⟩]) .ret) .skip))))) (.seq (.ops [0,1] [] [vv 17 0,vn 18 17,vd 19 18 0,vd 20 19 2,vl 21 20,⟨none,.bin (some 22) .num .add (.r 21) (.c (.lit (.int .u64 1)))⟩,vn 23 17,vd 24 23 0,vd 25 24 2,⟨none,.store 1 (.r 25) (.r 22)⟩]) f51_17))
def c_f51:AFun:=⟨97,[.tmp 4,.tmp 5],f51_1⟩
theorem k_f51:kX x_f51 51 c_f51:=by delta kX;kernel_rfl
theorem e_f51:eX 51:=by delta eX;kernel_rfl

def n_f52:Nat:=52
def x_f52:=xX 31 [0,3,4,10,11,16,17,18,19,20,21,25,26,27,28,29] [] [(4,[0,1,5],[]),(6,[0,1,3],[]),(14,[0,1,3],[]),(112,[0,1,3,12],[]),(227,[],[]),(456,[0,1,3,30],[]),(115,[0,1,3],[])]
abbrev f52_9:AC:=.seq (.seq (.ops [0,1,3,12] [] [vv 11 3,⟨none,.bin (some 12) .num .neq (.r 11) (.c (.lit (.int .u64 0)))⟩]) (.cond (.r 12) .skip (.exit [] [] 0))) (.seq (.block 1 (.seq (.ops [0,1,3,30] [] [vv 20 0,vv 21 3,vl 22 1,vn 23 22,vd 24 23 3,vl 25 24,vv 26 3,⟨none,.lookup (some 27) (.int .u64) (.agg [(.lit (.int .i64 0)),(.lit (.int .u64 0)),(.lit (.int .u64 0))]) false (.r 25) (.r 26)⟩,⟨none,.field (some 28) (.r 27) 0 none⟩,⟨none,.call (some 29) false (.r 20) [(.r 21),(.r 28)]⟩,⟨none,.un (some 30) .not (.r 29)⟩]) (.cond (.r 30) .ret .skip))) (.ops [0,1,3] [] [vl 13 1,vn 14 13,vd 15 14 3,vl 16 15,vv 17 3,⟨none,.lookup (some 18) (.int .u64) (.agg [(.lit (.int .i64 0)),(.lit (.int .u64 0)),(.lit (.int .u64 0))]) false (.r 16) (.r 17)⟩,⟨none,.field (some 19) (.r 18) 2 none⟩,vo 3 19]))
def f52_8:AC:=.loop [0,1,3] [] f52_9
theorem f52_8w:aC P id m f52_8 sf st Q=aH (aC P id m f52_9) [0,1,3] [] sf st Q:=rfl
abbrev f52_1:AC:=.seq (.seq (.ops [0,1,5] [] [vl 4 1,⟨none,.bin (some 5) (.nil .ptr) .eql (.r 4) (.c (.lit (.pointer none)))⟩]) (.cond (.r 5) .ret .skip)) (.seq (.ops [0,1,3] [] [vl 6 1,vn 7 6,vd 8 7 0,vd 9 8 0,vl 10 9,vo 3 10]) (.block 0 f52_8))
def c_f52:AFun:=⟨31,[],f52_1⟩
theorem k_f52:kX x_f52 52 c_f52:=by delta kX;kernel_rfl
theorem e_f52:eX 52:=by delta eX;kernel_rfl

def n_f53:Nat:=53
def x_f53:=xX 8 [0,2,3,5,6,7] [] [(2,[0],[]),(12,[0,4],[]),(52,[2],[]),(14,[2],[])]
abbrev f53_1:AC:=.seq (.ops [0] [] [⟨none,.mv (some 2) (.c (.lit (.slice none 0 0)))⟩]) (.seq (.seq (.ops [0,4] [] [vv 3 0,⟨none,.x (some 4) (.nilU .eql (.r 3) (.c (.lit (.slice none 0 0))))⟩]) (.cond (.r 4) (.seq (.ops [2] [] [⟨none,.mv (some 2) (.c (.lit (.slice none 0 0)))⟩]) .ret) .skip)) (.seq (.ops [2] [] [⟨none,.bsl (some 5) 1 0 (.lit (.int .u8 0)) []⟩,vv 6 0,⟨none,.appS 7 5 1 1 (.r 6)⟩,vo 2 7]) .ret))
def c_f53:AFun:=⟨8,[.tmp 2],f53_1⟩
theorem k_f53:kX x_f53 53 c_f53:=by delta kX;kernel_rfl
theorem e_f53:eX 53:=by delta eX;kernel_rfl

def n_f54:Nat:=54
def x_f54:=xX 22 [0,2,3,4,5,6,7,8,9,10,11,12,13,14,16,17,19,20,21] [] [(2,[0],[]),(6,[0,5,6,7],[]),(28,[0,5,6,7,15],[]),(58,[5,6,7],[]),(30,[2,3,4],[])]
abbrev f54_1:AC:=.seq (.ops [0] [] [⟨none,.mv (some 2) (.c (.lit (.int .i64 0)))⟩,⟨none,.mv (some 3) (.c (.lit (.int .u64 0)))⟩,⟨none,.mv (some 4) (.c (.lit (.int .i64 0)))⟩]) (.seq (.ops [0,5,6,7] [] [vv 9 0,⟨none,.call (some 10) false (.f 72) [(.r 9)]⟩,vv 8 10,ve 11 8 0,ve 12 8 1,ve 13 8 2,vo 5 11,vo 6 12,vo 7 13]) (.seq (.seq (.ops [0,5,6,7,15] [] [vv 14 7,vb 15 .eql 14 0]) (.cond (.r 15) (.ops [5,6,7] [] [vv 16 0,vv 17 6,⟨none,.call (some 18) false (.f 56) [(.r 16),(.r 17)]⟩]) .skip)) (.seq (.ops [2,3,4] [] [vv 19 5,vv 20 6,vv 21 7,vo 2 19,vo 3 20,vo 4 21]) .ret)))
def c_f54:AFun:=⟨22,[.tmp 2,.tmp 3,.tmp 4],f54_1⟩
theorem k_f54:kX x_f54 54 c_f54:=by delta kX;kernel_rfl
theorem e_f54:eX 54:=by delta eX;kernel_rfl

def n_f55:Nat:=55
def x_f55:=xX 78 [0,1,5,6,10,15,16,22,23,27,28,29,33,35,36,37,41,42,47,48,54,56,62,63,64,65,71,73,74,75] [65] [(2,[0,3],[3]),(12,[0,3,11],[3]),(52,[],[]),(28,[0,3],[3]),(224,[0,3,43],[3]),(451,[0,3],[3]),(452,[0,3],[3]),(1812,[0,3,55],[3]),(907,[0,3],[3]),(30,[0,3],[3]),(31,[],[])]
abbrev f55_17:AC:=.seq (.ops [0,3] [3] [vv 44 0,vn 45 44,vd 46 45 8,vl 47 46,vb 48 .add 47 1,vn 49 44,vd 50 49 8,⟨none,.store 1 (.r 50) (.r 48)⟩]) (.seq (.seq (.ops [0,3,55] [3] [vv 51 0,vn 52 51,vd 53 52 4,vl 54 53,vb 55 .eql 54 2]) (.cond (.r 55) .ret .skip)) (.ops [0,3] [3] [vv 56 0,⟨none,.call (some 57) false (.f 50) [(.r 56)]⟩]))
def f55_16:AC:=.block 1 f55_17
theorem f55_16e:BL f55_16 f55_17 1:=rfl
abbrev f55_12:AC:=.seq (.seq (.draw [0,3,43] [3] [] [vv 19 0,vn 20 19,vd 21 20 6,vl 22 21,⟨none,.len (some 23) .sl (.r 22)⟩,vv 24 0,vn 25 24,vd 26 25 2,vl 27 26,⟨none,.bin (some 28) .num .geq (.r 23) (.r 27)⟩,vv 29 28,⟨some (29,false),.mv (some 30) (.r 0)⟩,⟨some (29,false),.nilck (some 31) (.r 30)⟩,⟨some (29,false),.addr (some 32) (.r 31) 7⟩,⟨some (29,false),.load (some 33) (.r 32) none⟩,⟨some (29,false),.addr (some 34) (.r 3) 2⟩,⟨some (29,false),.load (some 35) (.r 34) none⟩,⟨some (29,false),.len (some 36) .sl (.r 35)⟩,⟨some (29,false),.bin (some 37) .num .add (.r 33) (.r 36)⟩,⟨some (29,false),.mv (some 38) (.r 0)⟩,⟨some (29,false),.nilck (some 39) (.r 38)⟩,⟨some (29,false),.addr (some 40) (.r 39) 3⟩,⟨some (29,false),.load (some 41) (.r 40) none⟩] [⟨some (29,false),.bin (some 42) .num .gtr (.r 37) (.r 41)⟩,⟨none,.pick (some 43) (.r 29) (.c (.lit (.bool true))) (.r 42)⟩]) (.cond (.r 43) .skip (.exit [0,3] [3] 0))) f55_16
def f55_11:AC:=.loop [0,3] [3] f55_12
theorem f55_11w:aC P id m f55_11 sf st Q=aH (aC P id m f55_12) [0,3] [3] sf st Q:=rfl
def f55_25h:List GI:=[vv 58 0,
  vv 59 0,
  vn 60 59,
  vd 61 60 6,
  vl 62 61,
  ⟨none,.load (some 63) (.r 3) (some 4)⟩,
  ⟨none,.bsl (some 64) 4 1 (.agg [(.lit (.string ⟨#[]⟩)),(.lit (.int .i64 0)),(.lit (.slice none 0 0)),(.lit (.int .u64 0))]) [(0,(.r 63))]⟩]
def f55_25p:List (Bool×GI):=[]
def f55_25l:List GI:=[vn 66 58,
  vd 67 66 6,
  ⟨none,.store 1 (.r 67) (.r 65)⟩]
def f55_25:AC:=.drawA [0,3] [3] f55_25h (some 65) (.r 62) 4 56 (.r 64) f55_25p f55_25l
theorem f55_25e:aC P id m f55_25 sf st Q=(m=false∧drawA P id f55_25h (some 65) (.r 62) 4 56 (.r 64) f55_25p sf st (ni P id m [0,3] [3] f55_25l Q)):=rfl
abbrev f55_26:AC:=.draw [] [] [] [vv 68 0,vn 69 68,vd 70 69 7,vl 71 70,vd 72 3 2,vl 73 72,⟨none,.len (some 74) .sl (.r 73)⟩] [⟨none,.bin (some 75) .num .add (.r 71) (.r 74)⟩,vn 76 68,vd 77 76 7,⟨none,.store 1 (.r 77) (.r 75)⟩]
def f55_24:AC:=.seq f55_25 f55_26
theorem f55_24e:SQ f55_24 f55_25 f55_26:=rfl
abbrev f55_1:AC:=.seq (.ops [0,3] [3] [⟨none,.boxL 3 4 (.r 1)⟩]) (.seq (.seq (.draw [0,3,11] [3] [] [vd 4 3 2,vl 5 4,⟨none,.len (some 6) .sl (.r 5)⟩,vv 7 0,vn 8 7,vd 9 8 3,vl 10 9] [⟨none,.bin (some 11) .num .gtr (.r 6) (.r 10)⟩]) (.cond (.r 11) (.seq (.ops [] [] [vv 12 0,vn 13 12,vd 14 13 8,vl 15 14,vb 16 .add 15 1,vn 17 12,vd 18 17 8,⟨none,.store 1 (.r 18) (.r 16)⟩]) .ret) .skip)) (.seq (.block 0 f55_11) f55_24))
def c_f55:AFun:=⟨78,[],f55_1⟩
theorem k_f55:kX x_f55 55 c_f55:=by delta kX;kernel_rfl
theorem e_f55:eX 55:=by delta eX;kernel_rfl

def n_f56:Nat:=56
def x_f56:=xX 82 [0,1,4,5,7,10,12,16,17,18,19,20,21,26,27,29,33,40,42,43,45,50,52,53,55,59,66,68,69,71,76,78,79,81] [] [(2,[0,1],[]),(12,[0,1,11],[]),(52,[4,5],[]),(14,[0,1,6,7],[6]),(60,[0,1,6,22],[6]),(244,[4,5],[]),(62,[0,6],[6]),(252,[0,6,30],[6]),(506,[0,6],[6]),(1014,[0,6,8],[6,8]),(2030,[0,6,8],[6,8]),(2031,[0,6],[6]),(508,[0,6,56],[6]),(1018,[6],[6]),(2038,[0,6,9],[6,9]),(4078,[0,6,9],[6,9]),(4079,[6],[6]),(510,[4,5],[])]
abbrev f56_19:AC:=.seq (.seq (.ops [0,6,30] [6] [vd 28 6 1,vl 29 28,⟨none,.bin (some 30) .num .eql (.r 29) (.c (.lit (.int .u64 0)))⟩]) (.cond (.r 30) (.ops [0,6] [6] [vv 31 0,vd 32 6 2,vl 33 32,vn 34 31,vd 35 34 0,vd 36 35 0,⟨none,.store 1 (.r 36) (.r 33)⟩]) (.seq (.draw [0,6,8] [6,8] [8] [vv 37 0,vn 38 37,vd 39 38 3,vl 40 39,vd 41 6 1,vl 42 41,⟨none,.lookup (some 43) (.int .u64) (.agg [(.lit (.int .i64 0)),(.lit (.int .u64 0)),(.lit (.int .u64 0))]) false (.r 40) (.r 42)⟩,⟨none,.newL 8 [(.lit (.int .i64 0)),(.lit (.int .u64 0)),(.lit (.int .u64 0))]⟩] [⟨none,.store 3 (.r 8) (.r 43)⟩]) (.seq (.ops [0,6,8] [6,8] [vd 44 6 2,vl 45 44,vd 46 8 2,⟨none,.store 1 (.r 46) (.r 45)⟩]) (.draw [0,6] [6] [] [vv 47 0,vn 48 47,vd 49 48 3,vl 50 49,vd 51 6 1,vl 52 51,⟨none,.load (some 53) (.r 8) (some 3)⟩] [⟨none,.upd (.int .u64) (.r 50) (.r 52) (.r 53)⟩]))))) (.seq (.seq (.ops [0,6,56] [6] [vd 54 6 2,vl 55 54,⟨none,.bin (some 56) .num .eql (.r 55) (.c (.lit (.int .u64 0)))⟩]) (.cond (.r 56) (.ops [6] [6] [vv 57 0,vd 58 6 1,vl 59 58,vn 60 57,vd 61 60 0,vd 62 61 1,⟨none,.store 1 (.r 62) (.r 59)⟩]) (.seq (.draw [0,6,9] [6,9] [9] [vv 63 0,vn 64 63,vd 65 64 3,vl 66 65,vd 67 6 2,vl 68 67,⟨none,.lookup (some 69) (.int .u64) (.agg [(.lit (.int .i64 0)),(.lit (.int .u64 0)),(.lit (.int .u64 0))]) false (.r 66) (.r 68)⟩,⟨none,.newL 9 [(.lit (.int .i64 0)),(.lit (.int .u64 0)),(.lit (.int .u64 0))]⟩] [⟨none,.store 3 (.r 9) (.r 69)⟩]) (.seq (.ops [0,6,9] [6,9] [vd 70 6 1,vl 71 70,vd 72 9 1,⟨none,.store 1 (.r 72) (.r 71)⟩]) (.draw [6] [6] [] [vv 73 0,vn 74 73,vd 75 74 3,vl 76 75,vd 77 6 2,vl 78 77,⟨none,.load (some 79) (.r 9) (some 3)⟩] [⟨none,.upd (.int .u64) (.r 76) (.r 78) (.r 79)⟩]))))) (.seq (.ops [4,5] [] [vd 80 6 0,vl 81 80,vo 4 81,⟨none,.mv (some 5) (.c (.lit (.int .i64 0)))⟩]) .ret))
abbrev f56_1:AC:=.seq (.ops [0,1] [] [⟨none,.mv (some 4) (.c (.lit (.int .i64 0)))⟩,⟨none,.mv (some 5) (.c (.lit (.int .i64 0)))⟩]) (.seq (.seq (.ops [0,1,11] [] [vv 10 0,⟨none,.call (some 11) false (.f 58) [(.r 10)]⟩]) (.cond (.r 11) (.seq (.ops [4,5] [] [⟨none,.mv (some 4) (.c (.lit (.int .i64 0)))⟩,⟨none,.mv (some 5) (.c (.lit (.int .i64 1)))⟩]) .ret) .skip)) (.seq (.ops [0,1,6,7] [6] [vv 13 0,vn 14 13,vd 15 14 3,vl 16 15,vv 17 1,⟨none,.lookup (some 18) (.int .u64) (.agg [(.lit (.int .i64 0)),(.lit (.int .u64 0)),(.lit (.int .u64 0))]) true (.r 16) (.r 17)⟩,vv 12 18,ve 19 12 0,ve 20 12 1,⟨none,.newL 6 [(.lit (.int .i64 0)),(.lit (.int .u64 0)),(.lit (.int .u64 0))]⟩,⟨none,.store 3 (.r 6) (.r 19)⟩,vo 7 20]) (.seq (.seq (.ops [0,1,6,22] [6] [vv 21 7,⟨none,.un (some 22) .not (.r 21)⟩]) (.cond (.r 22) (.seq (.ops [4,5] [] [⟨none,.mv (some 4) (.c (.lit (.int .i64 0)))⟩,⟨none,.mv (some 5) (.c (.lit (.int .i64 9)))⟩]) .ret) .skip)) (.seq (.ops [0,6] [6] [vv 23 0,vn 24 23,vd 25 24 3,vl 26 25,vv 27 1,⟨none,.del (.int .u64) (.r 26) (.r 27)⟩]) f56_19))))
def c_f56:AFun:=⟨82,[.tmp 4,.tmp 5],f56_1⟩
theorem k_f56:kX x_f56 56 c_f56:=by delta kX;kernel_rfl
theorem e_f56:eX 56:=by delta eX;kernel_rfl

def n_f57:Nat:=57
def x_f57:=xX 15 [0,1,4,6,7,8,10,11,12,13,14] [] [(2,[0,1],[]),(24,[0,1,5],[]),(100,[4],[]),(102,[0,1,9],[]),(412,[4],[]),(14,[4],[])]
abbrev f57_1:AC:=.seq (.ops [0,1] [] [⟨none,.mv (some 4) (.c (.lit (.int .u64 0)))⟩]) (.seq (.block 0 (.seq (.ops [0,1,5] [] [vv 6 0,vv 7 1,⟨none,.bin (some 8) .num .leq (.r 6) (.r 7)⟩,vo 5 8]) (.cond (.r 5) (.seq (.ops [4] [] [⟨none,.mv (some 4) (.c (.lit (.int .u64 0)))⟩]) .ret) (.seq (.ops [0,1,9] [] [vv 10 0,⟨none,.bin (some 11) .num .eql (.r 10) (.c (.lit (.int .u64 18446744073709551615)))⟩,vo 9 11]) (.cond (.r 9) (.seq (.ops [4] [] [⟨none,.mv (some 4) (.c (.lit (.int .u64 18446744073709551615)))⟩]) .ret) .skip))))) (.seq (.ops [4] [] [vv 12 0,vv 13 1,⟨none,.bin (some 14) .num .sub (.r 12) (.r 13)⟩,vo 4 14]) .ret))
def c_f57:AFun:=⟨15,[.tmp 4],f57_1⟩
theorem k_f57:kX x_f57 57 c_f57:=by delta kX;kernel_rfl
theorem e_f57:eX 57:=by delta eX;kernel_rfl

def n_f58:Nat:=58
def x_f58:=xX 12 [0,2,3,4,5,9,10,11] [] [(2,[0],[]),(6,[2],[])]
abbrev f58_1:AC:=.seq (.ops [0] [] [⟨none,.mv (some 2) (.c (.lit (.bool false)))⟩]) (.seq (.ops [2] [] [vv 3 0,⟨none,.bin (some 4) (.nil .ptr) .eql (.r 3) (.c (.lit (.pointer none)))⟩,vv 5 4,⟨some (5,false),.mv (some 6) (.r 0)⟩,⟨some (5,false),.nilck (some 7) (.r 6)⟩,⟨some (5,false),.addr (some 8) (.r 7) 3⟩,⟨some (5,false),.load (some 9) (.r 8) none⟩,⟨some (5,false),.bin (some 10) (.nil .mp) .eql (.r 9) (.c (.lit (.map none)))⟩,⟨none,.pick (some 11) (.r 5) (.c (.lit (.bool true))) (.r 10)⟩,vo 2 11]) .ret)
def c_f58:AFun:=⟨12,[.tmp 2],f58_1⟩
theorem k_f58:kX x_f58 58 c_f58:=by delta kX;kernel_rfl
theorem e_f58:eX 58:=by delta eX;kernel_rfl

def n_f59:Nat:=59
def x_f59:=xX 109 [0,1,2,3,4,5,13,14,15,16,17,18,19,20,21,22,23,24,25,26,27,28,29,30,31,32,33,34,35,36,37,38,39,40,41,42,43,44,46,47,48,49,51,53,54,56,57,58,59,61,62,63,65,66,67,68,71,74,75,76,78,79,80,83,85,86,87,89,90,91,92,93,94,95,96,97,98,99,100,101,102,103,104,105,107,108] [] [(2,[2,3,4,5,6,7,12],[6,7,12]),(12,[2,3,4,5,6,7,12,45],[6,7,12]),(52,[12,13,14],[12]),(28,[2,3,4,5,6,7,12,50],[6,7,12]),(116,[12,13,14],[12]),(60,[2,3,4,5,6,7,12,55],[6,7,12]),(244,[12,13,14],[12]),(62,[2,3,4,5,6,7,12,15],[6,7,12]),(252,[2,3,4,5,6,7,12,15],[6,7,12]),(2016,[2,3,4,5,6,7,12,15,60],[6,7,12]),(4035,[2,3,4,5,6,7,12,15],[6,7,12]),(2018,[2,3,4,5,6,7,12,15],[6,7,12]),(254,[2,3,4,5,6,7,12,15,16],[6,7,12]),(1020,[2,3,4,5,6,7,12,15,16,17],[6,7,12]),(2042,[2,3,4,5,6,7,12,15,16,17],[6,7,12]),(16336,[2,3,4,5,6,7,12,15,16,17,77],[6,7,12]),(32675,[2,3,4,5,6,7,12,15,16],[6,7,12]),(32676,[2,3,4,5,6,7,12,15,16,17],[6,7,12]),(16339,[2,3,4,5,6,7,12,15,16,17],[6,7,12]),(1022,[2,3,4,5,6,7,12,15,16,18],[6,7,12]),(2046,[6,12,15,16,18],[6,12]),(4094,[6,12,15],[6,12]),(8190,[12,13,14],[12])]
abbrev f59_4:AC:=.seq (.ops [2,3,4,5,6,7,12,45] [6,7,12] [⟨none,.load (some 19) (.r 7) (some 2)⟩,⟨none,.call (some 20) false (.f 73) [(.r 19)]⟩,⟨none,.un (some 21) .not (.r 20)⟩,vv 22 21,⟨some (22,false),.mv (some 23) (.r 2)⟩,⟨some (22,false),.bin (some 24) .num .lss (.r 23) (.c (.lit (.int .i64 1)))⟩,⟨none,.pick (some 25) (.r 22) (.c (.lit (.bool true))) (.r 24)⟩,vv 26 25,⟨some (26,false),.mv (some 27) (.r 2)⟩,⟨some (26,false),.bin (some 28) .num .gtr (.r 27) (.c (.lit (.int .i64 256)))⟩,⟨none,.pick (some 29) (.r 26) (.c (.lit (.bool true))) (.r 28)⟩,vv 30 29,⟨some (30,false),.mv (some 31) (.r 3)⟩,⟨some (30,false),.bin (some 32) .num .lss (.r 31) (.c (.lit (.int .i64 0)))⟩,⟨none,.pick (some 33) (.r 30) (.c (.lit (.bool true))) (.r 32)⟩,vv 34 33,⟨some (34,false),.mv (some 35) (.r 3)⟩,⟨some (34,false),.bin (some 36) .num .gtr (.r 35) (.c (.lit (.int .i64 65536)))⟩,⟨none,.pick (some 37) (.r 34) (.c (.lit (.bool true))) (.r 36)⟩,vv 38 37,⟨some (38,false),.mv (some 39) (.r 4)⟩,⟨some (38,false),.bin (some 40) .num .lss (.r 39) (.c (.lit (.int .i64 1)))⟩,⟨none,.pick (some 41) (.r 38) (.c (.lit (.bool true))) (.r 40)⟩,vv 42 41,⟨some (42,false),.mv (some 43) (.r 4)⟩,⟨some (42,false),.bin (some 44) .num .gtr (.r 43) (.c (.lit (.int .i64 2)))⟩,⟨none,.pick (some 45) (.r 42) (.c (.lit (.bool true))) (.r 44)⟩]) (.cond (.r 45) (.seq (.ops [12,13,14] [12] [⟨none,.load (some 46) (.r 6) (some 3)⟩,⟨none,.store 3 (.r 12) (.r 46)⟩,⟨none,.mv (some 13) (.c (.lit (.int .i64 0)))⟩,⟨none,.mv (some 14) (.c (.lit (.int .i64 2)))⟩]) .ret) .skip)
abbrev f59_26:AC:=.seq (.seq (.ops [2,3,4,5,6,7,12,15,60] [6,7,12] [⟨none,.load (some 57) (.r 6) (some 3)⟩,vv 58 15,⟨none,.call (some 59) false (.f 41) [(.r 57),(.r 58)]⟩,vb 60 .geq 59 0]) (.cond (.r 60) .skip (.exit [2,3,4,5,6,7,12,15] [6,7,12] 0))) (.block 1 (.ops [2,3,4,5,6,7,12,15] [6,7,12] [vv 61 15,vb 62 .add 61 1,vo 15 62]))
def f59_25:AC:=.loop [2,3,4,5,6,7,12,15] [6,7,12] f59_26
theorem f59_25w:aC P id m f59_25 sf st Q=aH (aC P id m f59_26) [2,3,4,5,6,7,12,15] [6,7,12] sf st Q:=rfl
abbrev f59_39:AC:=.seq (.seq (.ops [2,3,4,5,6,7,12,15,16,17,77] [6,7,12] [vv 63 17,vd 64 6 1,vl 65 64,⟨none,.len (some 66) .sl (.r 65)⟩,⟨none,.bin (some 67) .num .lss (.r 63) (.r 66)⟩,vv 68 67,⟨some (68,true),.addr (some 69) (.r 6) 1⟩,⟨some (68,true),.load (some 70) (.r 69) none⟩,⟨some (68,true),.mv (some 71) (.r 17)⟩,⟨some (68,true),.ixS (some 72) (.r 70) (.r 71) 10⟩,⟨some (68,true),.addr (some 73) (.r 72) 0⟩,⟨some (68,true),.load (some 74) (.r 73) none⟩,⟨some (68,true),.mv (some 75) (.r 15)⟩,⟨some (68,true),.bin (some 76) .num .lss (.r 74) (.r 75)⟩,⟨none,.pick (some 77) (.r 68) (.r 76) (.c (.lit (.bool false)))⟩]) (.cond (.r 77) .skip (.exit [2,3,4,5,6,7,12,15,16] [6,7,12] 2))) (.seq (.block 3 (.ops [2,3,4,5,6,7,12,15,16,17] [6,7,12] [vo 80 16,vd 81 6 1,vl 82 81,vv 83 17,⟨none,.ixS (some 84) (.r 82) (.r 83) 10⟩,⟨none,.load (some 85) (.r 84) (some 10)⟩,⟨none,.bsl (some 86) 10 1 (.agg [(.lit (.int .i64 0)),(.lit (.string ⟨#[]⟩)),(.lit (.int .i64 0)),(.lit (.int .i64 0)),(.lit (.int .i64 0)),(.lit (.int .i64 0)),(.lit (.int .u64 0)),(.lit (.slice none 0 0)),(.lit (.int .i64 0)),(.lit (.int .i64 0))]) [(0,(.r 85))]⟩,⟨none,.appS 87 80 10 104 (.r 86)⟩,vo 16 87])) (.ops [2,3,4,5,6,7,12,15,16,17] [6,7,12] [vv 78 17,vb 79 .add 78 1,vo 17 79]))
def f59_38:AC:=.loop [2,3,4,5,6,7,12,15,16,17] [6,7,12] f59_39
theorem f59_38w:aC P id m f59_38 sf st Q=aH (aC P id m f59_39) [2,3,4,5,6,7,12,15,16,17] [6,7,12] sf st Q:=rfl
abbrev f59_34:AC:=.seq (.seq (.ops [2,3,4,5,6,7,12,15,16,17] [6,7,12] [⟨none,.mv (some 17) (.c (.lit (.int .i64 0)))⟩]) (.block 2 f59_38)) (.seq (.ops [2,3,4,5,6,7,12,15,16,18] [6,7,12] [vd 88 6 1,⟨none,.loadOwn 89 (.r 88)⟩,vv 90 16,⟨none,.len (some 91) .sl (.r 90)⟩,⟨none,.sliOwn 92 89 (.r 91) 10⟩,vo 18 92]) (.seq (.ops [6,12,15,16,18] [6,12] [vo 93 16,vv 94 15,⟨none,.load (some 95) (.r 7) (some 2)⟩,vv 96 2,vv 97 3,vv 98 4,vv 99 5,⟨none,.bst (some 100) [(0,1),(1,2),(3,1),(4,1),(5,1),(6,1),(7,1),(8,1),(9,1)] (.agg [(.lit (.int .i64 0)),(.lit (.string ⟨#[]⟩)),(.lit (.int .i64 0)),(.lit (.int .i64 0)),(.lit (.int .i64 0)),(.lit (.int .i64 0)),(.lit (.int .u64 0)),(.lit (.slice none 0 0)),(.lit (.int .i64 0)),(.lit (.int .i64 0))]) [(0,(.r 94)),(1,(.r 95)),(2,(.r 96)),(3,(.r 97)),(4,(.r 98)),(5,(.r 99))]⟩,⟨none,.bsl (some 101) 10 1 (.agg [(.lit (.int .i64 0)),(.lit (.string ⟨#[]⟩)),(.lit (.int .i64 0)),(.lit (.int .i64 0)),(.lit (.int .i64 0)),(.lit (.int .i64 0)),(.lit (.int .u64 0)),(.lit (.slice none 0 0)),(.lit (.int .i64 0)),(.lit (.int .i64 0))]) [(0,(.r 100))]⟩,⟨none,.appS 102 93 10 104 (.r 101)⟩,vo 16 102]) (.seq (.ops [6,12,15] [6,12] [vo 103 16,vv 104 18,⟨none,.appS 105 103 10 104 (.r 104)⟩,vd 106 6 1,⟨none,.store 1 (.r 106) (.r 105)⟩]) (.seq (.ops [12,13,14] [12] [⟨none,.load (some 107) (.r 6) (some 3)⟩,vv 108 15,⟨none,.store 3 (.r 12) (.r 107)⟩,vo 13 108,⟨none,.mv (some 14) (.c (.lit (.int .i64 0)))⟩]) .ret))))
abbrev f59_1:AC:=.seq (.ops [2,3,4,5,6,7,12] [6,7,12] [⟨none,.boxL 6 3 (.r 0)⟩,⟨none,.boxL 7 2 (.r 1)⟩,⟨none,.newL 12 [(.lit (.int .u64 0)),(.lit (.slice none 0 0)),(.lit (.slice none 0 0))]⟩,⟨none,.mv (some 13) (.c (.lit (.int .i64 0)))⟩,⟨none,.mv (some 14) (.c (.lit (.int .i64 0)))⟩]) (.seq f59_4 (.seq (.seq (.ops [2,3,4,5,6,7,12,50] [6,7,12] [⟨none,.load (some 47) (.r 6) (some 3)⟩,⟨none,.load (some 48) (.r 7) (some 2)⟩,⟨none,.call (some 49) false (.f 74) [(.r 47),(.r 48)]⟩,vb 50 .geq 49 0]) (.cond (.r 50) (.seq (.ops [12,13,14] [12] [⟨none,.load (some 51) (.r 6) (some 3)⟩,⟨none,.store 3 (.r 12) (.r 51)⟩,⟨none,.mv (some 13) (.c (.lit (.int .i64 0)))⟩,⟨none,.mv (some 14) (.c (.lit (.int .i64 11)))⟩]) .ret) .skip)) (.seq (.seq (.ops [2,3,4,5,6,7,12,55] [6,7,12] [vd 52 6 1,vl 53 52,⟨none,.len (some 54) .sl (.r 53)⟩,vb 55 .geq 54 64]) (.cond (.r 55) (.seq (.ops [12,13,14] [12] [⟨none,.load (some 56) (.r 6) (some 3)⟩,⟨none,.store 3 (.r 12) (.r 56)⟩,⟨none,.mv (some 13) (.c (.lit (.int .i64 0)))⟩,⟨none,.mv (some 14) (.c (.lit (.int .i64 7)))⟩]) .ret) .skip)) (.seq (.ops [2,3,4,5,6,7,12,15] [6,7,12] [⟨none,.mv (some 15) (.c (.lit (.int .i64 0)))⟩]) (.seq (.block 0 f59_25) (.seq (.ops [2,3,4,5,6,7,12,15,16] [6,7,12] [⟨none,.mv (some 16) (.c (.lit (.slice none 0 0)))⟩]) f59_34))))))
def c_f59:AFun:=⟨109,[.cell 12 (some 3),.tmp 13,.tmp 14],f59_1⟩
theorem k_f59:kX x_f59 59 c_f59:=by delta kX;kernel_rfl
theorem e_f59:eX 59:=by delta eX;kernel_rfl

def n_f60:Nat:=60
def x_f60:=xX 86 [0,1,2,3,9,10,11,13,14,16,17,19,20,21,23,24,25,26,27,29,32,35,36,37,39,40,41,42,43,44,46,47,50,53,54,55,59,62,63,66,69,70,71,72,73,74,75,76,77,80,82,83,84,85] [] [(2,[1,3,4,6,8],[4,6,8]),(12,[1,3,4,6,8,18],[4,6,8]),(52,[8,9,10],[8]),(28,[1,3,4,6,8,22],[4,6,8]),(116,[8,9,10],[8]),(30,[3,4,6,8,11],[4,6,8]),(124,[3,4,6,8,11,28],[4,6,8]),(500,[8,9,10],[8]),(126,[4,6,8,12],[4,6,8,12]),(254,[4,8,12,13],[4,8,12]),(1020,[4,8,12,13,45],[4,8,12]),(4084,[8,9,10],[8]),(2044,[4,8,12,13,14],[4,8,12]),(4090,[4,8,12,13,14,56],[4,8,12]),(16364,[4,8,14,15],[4,8,15]),(32730,[8,9,10],[8]),(2046,[8,9,10],[8])]
abbrev f60_26:AC:=.ops [4,8,12,13] [4,8,12] [⟨none,.load (some 41) (.r 4) (some 3)⟩,⟨none,.load (some 42) (.r 6) (some 2)⟩,⟨none,.call (some 43) false (.f 74) [(.r 41),(.r 42)]⟩,vo 13 43]
abbrev f60_33:AC:=.seq (.seq (.draw [4,8,12,13,14] [4,8,12] [] [⟨none,.load (some 47) (.r 4) (some 3)⟩,vd 48 4 1,vl 49 48,vv 50 13,⟨none,.ixS (some 51) (.r 49) (.r 50) 10⟩,vd 52 51 0,vl 53 52] [⟨none,.call (some 54) false (.f 75) [(.r 47),(.r 53)]⟩,vo 14 54]) (.seq (.ops [4,8,12,13,14,56] [4,8,12] [vv 55 14,vb 56 .geq 55 0]) (.cond (.r 56) (.seq (.draw [4,8,14,15] [4,8,15] [15] [vd 57 4 2,vl 58 57,vv 59 14,⟨none,.ixS (some 60) (.r 58) (.r 59) 3⟩,vd 61 60 0,vl 62 61,⟨none,.load (some 63) (.r 12) (some 4)⟩,vd 64 4 2,vl 65 64,vv 66 14,⟨none,.ixS (some 67) (.r 65) (.r 66) 3⟩,vd 68 67 2,vl 69 68,⟨none,.call (some 70) true (.f 76) [(.r 62),(.r 63),(.r 69)]⟩,⟨none,.newL 15 [(.lit (.int .i64 0)),(.lit (.string ⟨#[]⟩)),(.lit (.int .i64 0)),(.lit (.slice none 0 0)),(.lit (.int .u64 0)),(.lit (.bool false)),(.lit (.int .i64 0))]⟩] [⟨none,.store 7 (.r 15) (.r 70)⟩]) (.seq (.draw [8,9,10] [8] [8] [⟨none,.load (some 71) (.r 4) (some 3)⟩,vv 72 14,⟨none,.call (some 73) true (.f 77) [(.r 71),(.r 72)]⟩,⟨none,.load (some 74) (.r 15) (some 7)⟩,⟨none,.bsl (some 75) 7 1 (.agg [(.lit (.int .i64 0)),(.lit (.string ⟨#[]⟩)),(.lit (.int .i64 0)),(.lit (.slice none 0 0)),(.lit (.int .u64 0)),(.lit (.bool false)),(.lit (.int .i64 0))]) [(0,(.r 74))]⟩,⟨none,.store 3 (.r 8) (.r 73)⟩] [vo 9 75,⟨none,.mv (some 10) (.c (.lit (.int .i64 0)))⟩]) .ret)) .skip))) (.seq (.draw [8,9,10] [8] [] [⟨none,.load (some 76) (.r 4) (some 3)⟩,vv 77 13,vd 78 4 1,vl 79 78,vv 80 13,⟨none,.ixS (some 81) (.r 79) (.r 80) 10⟩,⟨none,.load (some 82) (.r 81) (some 10)⟩,⟨none,.load (some 83) (.r 12) (some 4)⟩,⟨none,.call (some 84) true (.f 79) [(.r 82),(.r 83)]⟩] [⟨none,.call (some 85) false (.f 78) [(.r 76),(.r 77),(.r 84)]⟩,⟨none,.store 3 (.r 8) (.r 85)⟩,⟨none,.mv (some 9) (.c (.lit (.slice none 0 0)))⟩,⟨none,.mv (some 10) (.c (.lit (.int .i64 0)))⟩]) .ret)
abbrev f60_27:AC:=.seq (.seq (.ops [4,8,12,13,45] [4,8,12] [vv 44 13,vb 45 .lss 44 0]) (.cond (.r 45) (.seq (.ops [8,9,10] [8] [⟨none,.load (some 46) (.r 4) (some 3)⟩,⟨none,.store 3 (.r 8) (.r 46)⟩,⟨none,.mv (some 9) (.c (.lit (.slice none 0 0)))⟩,⟨none,.mv (some 10) (.c (.lit (.int .i64 0)))⟩]) .ret) .skip)) f60_33
def f60_25:AC:=.seq f60_26 f60_27
theorem f60_25e:SQ f60_25 f60_26 f60_27:=rfl
abbrev f60_3:AC:=.seq (.seq (.ops [1,3,4,6,8,18] [4,6,8] [⟨none,.load (some 16) (.r 6) (some 2)⟩,⟨none,.call (some 17) false (.f 73) [(.r 16)]⟩,⟨none,.un (some 18) .not (.r 17)⟩]) (.cond (.r 18) (.seq (.ops [8,9,10] [8] [⟨none,.load (some 19) (.r 4) (some 3)⟩,⟨none,.store 3 (.r 8) (.r 19)⟩,⟨none,.mv (some 9) (.c (.lit (.slice none 0 0)))⟩,⟨none,.mv (some 10) (.c (.lit (.int .i64 2)))⟩]) .ret) .skip)) (.seq (.seq (.ops [1,3,4,6,8,22] [4,6,8] [vv 20 3,⟨none,.len (some 21) .sl (.r 20)⟩,vb 22 .gtr 21 2048]) (.cond (.r 22) (.seq (.ops [8,9,10] [8] [⟨none,.load (some 23) (.r 4) (some 3)⟩,⟨none,.store 3 (.r 8) (.r 23)⟩,⟨none,.mv (some 9) (.c (.lit (.slice none 0 0)))⟩,⟨none,.mv (some 10) (.c (.lit (.int .i64 5)))⟩]) .ret) .skip)) (.seq (.ops [3,4,6,8,11] [4,6,8] [⟨none,.load (some 24) (.r 4) (some 3)⟩,vv 25 1,⟨none,.call (some 26) false (.f 41) [(.r 24),(.r 25)]⟩,vo 11 26]) (.seq (.seq (.ops [3,4,6,8,11,28] [4,6,8] [vv 27 11,vb 28 .lss 27 0]) (.cond (.r 28) (.seq (.ops [8,9,10] [8] [⟨none,.load (some 29) (.r 4) (some 3)⟩,⟨none,.store 3 (.r 8) (.r 29)⟩,⟨none,.mv (some 9) (.c (.lit (.slice none 0 0)))⟩,⟨none,.mv (some 10) (.c (.lit (.int .i64 9)))⟩]) .ret) .skip)) (.seq (.draw [4,6,8,12] [4,6,8,12] [12] [vd 30 4 1,vl 31 30,vv 32 11,⟨none,.ixS (some 33) (.r 31) (.r 32) 10⟩,vd 34 33 1,⟨none,.load (some 35) (.r 34) (some 2)⟩,vv 36 3,⟨none,.app (some 37) 1 1 (.c (.lit (.slice none 0 0))) (.r 36)⟩,vd 38 4 0,vl 39 38,⟨none,.bst (some 40) [(0,2),(2,1),(3,1)] (.agg [(.lit (.string ⟨#[]⟩)),(.lit (.int .i64 0)),(.lit (.slice none 0 0)),(.lit (.int .u64 0))]) [(0,(.r 35)),(1,(.r 37)),(2,(.r 39))]⟩,⟨none,.newL 12 [(.lit (.string ⟨#[]⟩)),(.lit (.int .i64 0)),(.lit (.slice none 0 0)),(.lit (.int .u64 0))]⟩] [⟨none,.store 4 (.r 12) (.r 40)⟩]) f60_25))))
abbrev f60_1:AC:=.seq (.ops [1,3,4,6,8] [4,6,8] [⟨none,.boxL 4 3 (.r 0)⟩,⟨none,.boxL 6 2 (.r 2)⟩,⟨none,.newL 8 [(.lit (.int .u64 0)),(.lit (.slice none 0 0)),(.lit (.slice none 0 0))]⟩,⟨none,.mv (some 9) (.c (.lit (.slice none 0 0)))⟩,⟨none,.mv (some 10) (.c (.lit (.int .i64 0)))⟩]) f60_3
def c_f60:AFun:=⟨86,[.cell 8 (some 3),.tmp 9,.tmp 10],f60_1⟩
theorem k_f60:kX x_f60 60 c_f60:=by delta kX;kernel_rfl
theorem e_f60:eX 60:=by delta eX;kernel_rfl

def n_f61:Nat:=61
def x_f61:=xX 70 [0,1,2,3,10,11,12,14,15,16,17,18,19,20,21,22,24,25,26,27,28,29,31,32,33,34,35,37,38,41,44,45,48,49,50,51,52,53,54,55,57,58,59,60,61,62,63,64,65,66,67,68,69] [] [(2,[1,2,3,4,8,9],[4,8,9]),(12,[1,2,3,4,8,9,23],[4,8,9]),(52,[8,9,10,11],[8,9]),(14,[1,2,3,4,8,9,12],[4,8,9]),(60,[1,2,3,4,8,9,12,30],[4,8,9]),(244,[8,9,10,11],[8,9]),(124,[1,2,3,4,8,9,12,36],[4,8,9]),(500,[8,9,10,11],[8,9]),(252,[1,2,3,4,8,9,12,46],[4,8,9]),(1012,[4,8,9],[4,8,9]),(2026,[8,9,10,11],[8,9]),(254,[1,3,4,8,9,13],[4,8,9,13]),(510,[8,9,10,11],[8,9])]
abbrev f61_23:AC:=.seq (.seq (.ops [1,2,3,4,8,9,12,46] [4,8,9] [vd 39 4 1,vl 40 39,vv 41 12,⟨none,.ixS (some 42) (.r 40) (.r 41) 10⟩,vd 43 42 7,vl 44 43,⟨none,.len (some 45) .sl (.r 44)⟩,vb 46 .eql 45 0]) (.cond (.r 46) (.seq (.ops [4,8,9] [4,8,9] [vd 47 4 2,vl 48 47,⟨none,.app (some 49) 3 24 (.c (.lit (.slice none 0 0))) (.r 48)⟩,vv 50 1,vv 51 2,vv 52 3,⟨none,.bst (some 53) [(0,1),(1,1),(2,1)] (.agg [(.lit (.int .i64 0)),(.lit (.int .i64 0)),(.lit (.int .i64 0))]) [(0,(.r 50)),(1,(.r 51)),(2,(.r 52))]⟩,⟨none,.bsl (some 54) 3 1 (.agg [(.lit (.int .i64 0)),(.lit (.int .i64 0)),(.lit (.int .i64 0))]) [(0,(.r 53))]⟩,⟨none,.appS 55 49 3 24 (.r 54)⟩,vd 56 4 2,⟨none,.store 1 (.r 56) (.r 55)⟩]) (.seq (.ops [8,9,10,11] [8,9] [⟨none,.load (some 57) (.r 4) (some 3)⟩,⟨none,.bst (some 58) [(0,1),(1,4),(5,1),(6,1)] (.agg [(.lit (.int .i64 0)),(.lit (.string ⟨#[]⟩)),(.lit (.int .i64 0)),(.lit (.slice none 0 0)),(.lit (.int .u64 0)),(.lit (.bool false)),(.lit (.int .i64 0))]) []⟩,⟨none,.store 3 (.r 8) (.r 57)⟩,⟨none,.store 7 (.r 9) (.r 58)⟩,⟨none,.mv (some 10) (.c (.lit (.bool false)))⟩,⟨none,.mv (some 11) (.c (.lit (.int .i64 0)))⟩]) .ret)) .skip)) (.seq (.ops [1,3,4,8,9,13] [4,8,9,13] [⟨none,.load (some 60) (.r 4) (some 3)⟩,vv 61 12,⟨none,.call (some 62) false (.f 81) [(.r 60),(.r 61)]⟩,vv 59 62,ve 63 59 0,ve 64 59 1,⟨none,.newL 13 [(.lit (.string ⟨#[]⟩)),(.lit (.int .i64 0)),(.lit (.slice none 0 0)),(.lit (.int .u64 0))]⟩,⟨none,.store 3 (.r 4) (.r 63)⟩,⟨none,.store 4 (.r 13) (.r 64)⟩]) (.seq (.draw [8,9,10,11] [8,9] [] [⟨none,.load (some 65) (.r 4) (some 3)⟩,vv 66 1,⟨none,.load (some 67) (.r 13) (some 4)⟩,vv 68 3,⟨none,.call (some 69) true (.f 76) [(.r 66),(.r 67),(.r 68)]⟩] [⟨none,.store 3 (.r 8) (.r 65)⟩,⟨none,.store 7 (.r 9) (.r 69)⟩,⟨none,.mv (some 10) (.c (.lit (.bool true)))⟩,⟨none,.mv (some 11) (.c (.lit (.int .i64 0)))⟩]) .ret))
abbrev f61_3:AC:=.seq (.seq (.ops [1,2,3,4,8,9,23] [4,8,9] [vv 14 1,vb 15 .lss 14 0,vv 16 15,⟨some (16,false),.mv (some 17) (.r 1)⟩,⟨some (16,false),.bin (some 18) .num .geq (.r 17) (.c (.lit (.int .i64 64)))⟩,⟨none,.pick (some 19) (.r 16) (.c (.lit (.bool true))) (.r 18)⟩,vv 20 19,⟨some (20,false),.mv (some 21) (.r 3)⟩,⟨some (20,false),.bin (some 22) .num .lss (.r 21) (.c (.lit (.int .i64 0)))⟩,⟨none,.pick (some 23) (.r 20) (.c (.lit (.bool true))) (.r 22)⟩]) (.cond (.r 23) (.seq (.ops [8,9,10,11] [8,9] [⟨none,.load (some 24) (.r 4) (some 3)⟩,⟨none,.bst (some 25) [(0,1),(1,4),(5,1),(6,1)] (.agg [(.lit (.int .i64 0)),(.lit (.string ⟨#[]⟩)),(.lit (.int .i64 0)),(.lit (.slice none 0 0)),(.lit (.int .u64 0)),(.lit (.bool false)),(.lit (.int .i64 0))]) []⟩,⟨none,.store 3 (.r 8) (.r 24)⟩,⟨none,.store 7 (.r 9) (.r 25)⟩,⟨none,.mv (some 10) (.c (.lit (.bool false)))⟩,⟨none,.mv (some 11) (.c (.lit (.int .i64 2)))⟩]) .ret) .skip)) (.seq (.ops [1,2,3,4,8,9,12] [4,8,9] [⟨none,.load (some 26) (.r 4) (some 3)⟩,vv 27 2,⟨none,.call (some 28) false (.f 41) [(.r 26),(.r 27)]⟩,vo 12 28]) (.seq (.seq (.ops [1,2,3,4,8,9,12,30] [4,8,9] [vv 29 12,vb 30 .lss 29 0]) (.cond (.r 30) (.seq (.ops [8,9,10,11] [8,9] [⟨none,.load (some 31) (.r 4) (some 3)⟩,⟨none,.bst (some 32) [(0,1),(1,4),(5,1),(6,1)] (.agg [(.lit (.int .i64 0)),(.lit (.string ⟨#[]⟩)),(.lit (.int .i64 0)),(.lit (.slice none 0 0)),(.lit (.int .u64 0)),(.lit (.bool false)),(.lit (.int .i64 0))]) []⟩,⟨none,.store 3 (.r 8) (.r 31)⟩,⟨none,.store 7 (.r 9) (.r 32)⟩,⟨none,.mv (some 10) (.c (.lit (.bool false)))⟩,⟨none,.mv (some 11) (.c (.lit (.int .i64 9)))⟩]) .ret) .skip)) (.seq (.seq (.ops [1,2,3,4,8,9,12,36] [4,8,9] [⟨none,.load (some 33) (.r 4) (some 3)⟩,vv 34 1,⟨none,.call (some 35) false (.f 80) [(.r 33),(.r 34)]⟩,vb 36 .geq 35 0]) (.cond (.r 36) (.seq (.ops [8,9,10,11] [8,9] [⟨none,.load (some 37) (.r 4) (some 3)⟩,⟨none,.bst (some 38) [(0,1),(1,4),(5,1),(6,1)] (.agg [(.lit (.int .i64 0)),(.lit (.string ⟨#[]⟩)),(.lit (.int .i64 0)),(.lit (.slice none 0 0)),(.lit (.int .u64 0)),(.lit (.bool false)),(.lit (.int .i64 0))]) []⟩,⟨none,.store 3 (.r 8) (.r 37)⟩,⟨none,.store 7 (.r 9) (.r 38)⟩,⟨none,.mv (some 10) (.c (.lit (.bool false)))⟩,⟨none,.mv (some 11) (.c (.lit (.int .i64 11)))⟩]) .ret) .skip)) f61_23)))
abbrev f61_1:AC:=.seq (.ops [1,2,3,4,8,9] [4,8,9] [⟨none,.boxL 4 3 (.r 0)⟩,⟨none,.newL 8 [(.lit (.int .u64 0)),(.lit (.slice none 0 0)),(.lit (.slice none 0 0))]⟩,⟨none,.newL 9 [(.lit (.int .i64 0)),(.lit (.string ⟨#[]⟩)),(.lit (.int .i64 0)),(.lit (.slice none 0 0)),(.lit (.int .u64 0)),(.lit (.bool false)),(.lit (.int .i64 0))]⟩,⟨none,.mv (some 10) (.c (.lit (.bool false)))⟩,⟨none,.mv (some 11) (.c (.lit (.int .i64 0)))⟩]) f61_3
def c_f61:AFun:=⟨70,[.cell 8 (some 3),.cell 9 (some 7),.tmp 10,.tmp 11],f61_1⟩
theorem k_f61:kX x_f61 61 c_f61:=by delta kX;kernel_rfl
theorem e_f61:eX 61:=by delta eX;kernel_rfl

def n_f62:Nat:=62
def x_f62:=xX 42 [0,1,2,8,9,11,13,14,15,16,17,18,20,21,24,27,28,30,31,32,33,34,35,36,37,38,39,40,41] [] [(2,[1,2,3,6,7],[3,6,7]),(12,[1,2,3,6,7,12],[3,6,7]),(52,[6,7,8],[6,7]),(14,[2,3,6,7,9],[3,6,7]),(60,[2,3,6,7,9,19],[3,6,7]),(244,[6,7,8],[6,7]),(124,[2,3,6,7,9,29],[3,6,7]),(500,[6,7,8],[6,7]),(126,[2,3,6,7,10],[3,6,7,10]),(254,[6,7,8],[6,7])]
abbrev f62_11:AC:=.seq (.seq (.ops [2,3,6,7,9,19] [3,6,7] [vv 18 9,vb 19 .lss 18 0]) (.cond (.r 19) (.seq (.ops [6,7,8] [6,7] [⟨none,.load (some 20) (.r 3) (some 3)⟩,⟨none,.bst (some 21) [(0,1),(1,4),(5,1),(6,1)] (.agg [(.lit (.int .i64 0)),(.lit (.string ⟨#[]⟩)),(.lit (.int .i64 0)),(.lit (.slice none 0 0)),(.lit (.int .u64 0)),(.lit (.bool false)),(.lit (.int .i64 0))]) []⟩,⟨none,.store 3 (.r 6) (.r 20)⟩,⟨none,.store 7 (.r 7) (.r 21)⟩,⟨none,.mv (some 8) (.c (.lit (.int .i64 9)))⟩]) .ret) .skip)) (.seq (.seq (.ops [2,3,6,7,9,29] [3,6,7] [vd 22 3 1,vl 23 22,vv 24 9,⟨none,.ixS (some 25) (.r 23) (.r 24) 10⟩,vd 26 25 7,vl 27 26,⟨none,.len (some 28) .sl (.r 27)⟩,vb 29 .eql 28 0]) (.cond (.r 29) (.seq (.ops [6,7,8] [6,7] [⟨none,.load (some 30) (.r 3) (some 3)⟩,⟨none,.bst (some 31) [(0,1),(1,4),(5,1),(6,1)] (.agg [(.lit (.int .i64 0)),(.lit (.string ⟨#[]⟩)),(.lit (.int .i64 0)),(.lit (.slice none 0 0)),(.lit (.int .u64 0)),(.lit (.bool false)),(.lit (.int .i64 0))]) []⟩,⟨none,.store 3 (.r 6) (.r 30)⟩,⟨none,.store 7 (.r 7) (.r 31)⟩,⟨none,.mv (some 8) (.c (.lit (.int .i64 16)))⟩]) .ret) .skip)) (.seq (.ops [2,3,6,7,10] [3,6,7,10] [⟨none,.load (some 33) (.r 3) (some 3)⟩,vv 34 9,⟨none,.call (some 35) false (.f 81) [(.r 33),(.r 34)]⟩,vv 32 35,ve 36 32 0,ve 37 32 1,⟨none,.newL 10 [(.lit (.string ⟨#[]⟩)),(.lit (.int .i64 0)),(.lit (.slice none 0 0)),(.lit (.int .u64 0))]⟩,⟨none,.store 3 (.r 3) (.r 36)⟩,⟨none,.store 4 (.r 10) (.r 37)⟩]) (.seq (.draw [6,7,8] [6,7] [] [⟨none,.load (some 38) (.r 3) (some 3)⟩,⟨none,.load (some 39) (.r 10) (some 4)⟩,vv 40 2,⟨none,.call (some 41) true (.f 76) [(.c (.lit (.int .i64 0))),(.r 39),(.r 40)]⟩] [⟨none,.store 3 (.r 6) (.r 38)⟩,⟨none,.store 7 (.r 7) (.r 41)⟩,⟨none,.mv (some 8) (.c (.lit (.int .i64 0)))⟩]) .ret)))
abbrev f62_1:AC:=.seq (.ops [1,2,3,6,7] [3,6,7] [⟨none,.boxL 3 3 (.r 0)⟩,⟨none,.newL 6 [(.lit (.int .u64 0)),(.lit (.slice none 0 0)),(.lit (.slice none 0 0))]⟩,⟨none,.newL 7 [(.lit (.int .i64 0)),(.lit (.string ⟨#[]⟩)),(.lit (.int .i64 0)),(.lit (.slice none 0 0)),(.lit (.int .u64 0)),(.lit (.bool false)),(.lit (.int .i64 0))]⟩,⟨none,.mv (some 8) (.c (.lit (.int .i64 0)))⟩]) (.seq (.seq (.ops [1,2,3,6,7,12] [3,6,7] [vv 11 2,vb 12 .lss 11 0]) (.cond (.r 12) (.seq (.ops [6,7,8] [6,7] [⟨none,.load (some 13) (.r 3) (some 3)⟩,⟨none,.bst (some 14) [(0,1),(1,4),(5,1),(6,1)] (.agg [(.lit (.int .i64 0)),(.lit (.string ⟨#[]⟩)),(.lit (.int .i64 0)),(.lit (.slice none 0 0)),(.lit (.int .u64 0)),(.lit (.bool false)),(.lit (.int .i64 0))]) []⟩,⟨none,.store 3 (.r 6) (.r 13)⟩,⟨none,.store 7 (.r 7) (.r 14)⟩,⟨none,.mv (some 8) (.c (.lit (.int .i64 2)))⟩]) .ret) .skip)) (.seq (.ops [2,3,6,7,9] [3,6,7] [⟨none,.load (some 15) (.r 3) (some 3)⟩,vv 16 1,⟨none,.call (some 17) false (.f 41) [(.r 15),(.r 16)]⟩,vo 9 17]) f62_11))
def c_f62:AFun:=⟨42,[.cell 6 (some 3),.cell 7 (some 7),.tmp 8],f62_1⟩
theorem k_f62:kX x_f62 62 c_f62:=by delta kX;kernel_rfl
theorem e_f62:eX 62:=by delta eX;kernel_rfl

def n_f63:Nat:=63
def x_f63:=xX 23 [0,1,5,6,7,8,9,10,11,13,14,15,16,17,19,20,21,22] [] [(2,[1,2,4],[2,4]),(12,[1,2,4,12],[2,4]),(52,[4,5],[4]),(14,[2,4,6],[2,4]),(60,[2,4,6,18],[2,4]),(244,[4,5],[4]),(62,[4,5],[4])]
abbrev f63_1:AC:=.seq (.ops [1,2,4] [2,4] [⟨none,.boxL 2 3 (.r 0)⟩,⟨none,.newL 4 [(.lit (.int .u64 0)),(.lit (.slice none 0 0)),(.lit (.slice none 0 0))]⟩,⟨none,.mv (some 5) (.c (.lit (.int .i64 0)))⟩]) (.seq (.seq (.ops [1,2,4,12] [2,4] [vv 7 1,vb 8 .lss 7 0,vv 9 8,⟨some (9,false),.mv (some 10) (.r 1)⟩,⟨some (9,false),.bin (some 11) .num .geq (.r 10) (.c (.lit (.int .i64 64)))⟩,⟨none,.pick (some 12) (.r 9) (.c (.lit (.bool true))) (.r 11)⟩]) (.cond (.r 12) (.seq (.ops [4,5] [4] [⟨none,.load (some 13) (.r 2) (some 3)⟩,⟨none,.store 3 (.r 4) (.r 13)⟩,⟨none,.mv (some 5) (.c (.lit (.int .i64 2)))⟩]) .ret) .skip)) (.seq (.ops [2,4,6] [2,4] [⟨none,.load (some 14) (.r 2) (some 3)⟩,vv 15 1,⟨none,.call (some 16) false (.f 80) [(.r 14),(.r 15)]⟩,vo 6 16]) (.seq (.seq (.ops [2,4,6,18] [2,4] [vv 17 6,vb 18 .lss 17 0]) (.cond (.r 18) (.seq (.ops [4,5] [4] [⟨none,.load (some 19) (.r 2) (some 3)⟩,⟨none,.store 3 (.r 4) (.r 19)⟩,⟨none,.mv (some 5) (.c (.lit (.int .i64 9)))⟩]) .ret) .skip)) (.seq (.ops [4,5] [4] [⟨none,.load (some 20) (.r 2) (some 3)⟩,vv 21 6,⟨none,.call (some 22) false (.f 77) [(.r 20),(.r 21)]⟩,⟨none,.store 3 (.r 4) (.r 22)⟩,⟨none,.mv (some 5) (.c (.lit (.int .i64 0)))⟩]) .ret))))
def c_f63:AFun:=⟨23,[.cell 4 (some 3),.tmp 5],f63_1⟩
theorem k_f63:kX x_f63 63 c_f63:=by delta kX;kernel_rfl
theorem e_f63:eX 63:=by delta eX;kernel_rfl

def n_f64:Nat:=64
def x_f64:=xX 51 [0,1,5,6,7,8,9,10,11,12,13,15,16,17,18,19,21,22,23,24,27,30,31,32,33,34,35,36,38,39,40,41,43,44,45,46,47,49,50] [] [(2,[1,2,4],[2,4]),(6,[1,2,4,7],[2,4]),(28,[1,2,4,7,14],[2,4]),(116,[4,5,6],[4]),(30,[1,2,4,7,8],[2,4]),(124,[1,2,4,7,8,9],[2,4]),(250,[1,2,4,7,8,9],[2,4]),(2000,[1,2,4,7,8,9,20],[2,4]),(4003,[2,4,7,8],[2,4]),(8008,[1,2,4,7,8,9],[2,4]),(8009,[1,2,4,7,8],[2,4]),(2003,[1,2,4,7,8,9],[2,4]),(126,[2,4,8],[2,4]),(254,[4,5,6],[4])]
abbrev f64_18:AC:=.seq (.seq (.ops [1,2,4,7,8,9,20] [2,4] [vv 19 9,vb 20 .geq 19 0]) (.cond (.r 20) .skip (.exit [2,4,7,8] [2,4] 0))) (.seq (.block 1 (.seq (.ops [1,2,4,7,8,9] [2,4] [vo 24 8,vd 25 2 2,vl 26 25,vv 27 9,⟨none,.ixS (some 28) (.r 26) (.r 27) 3⟩,vd 29 28 0,vl 30 29,⟨none,.bst (some 31) [(0,1),(1,4),(5,1),(6,1)] (.agg [(.lit (.int .i64 0)),(.lit (.string ⟨#[]⟩)),(.lit (.int .i64 0)),(.lit (.slice none 0 0)),(.lit (.int .u64 0)),(.lit (.bool false)),(.lit (.int .i64 0))]) [(0,(.r 30)),(3,(.c (.lit (.int .i64 14))))]⟩,⟨none,.bsl (some 32) 7 1 (.agg [(.lit (.int .i64 0)),(.lit (.string ⟨#[]⟩)),(.lit (.int .i64 0)),(.lit (.slice none 0 0)),(.lit (.int .u64 0)),(.lit (.bool false)),(.lit (.int .i64 0))]) [(0,(.r 31))]⟩,⟨none,.appS 33 24 7 80 (.r 32)⟩,vo 8 33]) (.ops [1,2,4,7,8] [2,4] [⟨none,.load (some 34) (.r 2) (some 3)⟩,vv 35 9,⟨none,.call (some 36) false (.f 77) [(.r 34),(.r 35)]⟩,⟨none,.store 3 (.r 2) (.r 36)⟩]))) (.ops [1,2,4,7,8,9] [2,4] [⟨none,.load (some 21) (.r 2) (some 3)⟩,vv 22 1,⟨none,.call (some 23) false (.f 75) [(.r 21),(.r 22)]⟩,vo 9 23]))
def f64_17:AC:=.loop [1,2,4,7,8,9] [2,4] f64_18
theorem f64_17w:aC P id m f64_17 sf st Q=aH (aC P id m f64_18) [1,2,4,7,8,9] [2,4] sf st Q:=rfl
abbrev f64_1:AC:=.seq (.ops [1,2,4] [2,4] [⟨none,.boxL 2 3 (.r 0)⟩,⟨none,.newL 4 [(.lit (.int .u64 0)),(.lit (.slice none 0 0)),(.lit (.slice none 0 0))]⟩,⟨none,.mv (some 5) (.c (.lit (.slice none 0 0)))⟩,⟨none,.mv (some 6) (.c (.lit (.int .i64 0)))⟩]) (.seq (.ops [1,2,4,7] [2,4] [⟨none,.load (some 10) (.r 2) (some 3)⟩,vv 11 1,⟨none,.call (some 12) false (.f 41) [(.r 10),(.r 11)]⟩,vo 7 12]) (.seq (.seq (.ops [1,2,4,7,14] [2,4] [vv 13 7,vb 14 .lss 13 0]) (.cond (.r 14) (.seq (.ops [4,5,6] [4] [⟨none,.load (some 15) (.r 2) (some 3)⟩,⟨none,.store 3 (.r 4) (.r 15)⟩,⟨none,.mv (some 5) (.c (.lit (.slice none 0 0)))⟩,⟨none,.mv (some 6) (.c (.lit (.int .i64 9)))⟩]) .ret) .skip)) (.seq (.ops [1,2,4,7,8] [2,4] [⟨none,.mv (some 8) (.c (.lit (.slice none 0 0)))⟩]) (.seq (.seq (.ops [1,2,4,7,8,9] [2,4] [⟨none,.load (some 16) (.r 2) (some 3)⟩,vv 17 1,⟨none,.call (some 18) false (.f 75) [(.r 16),(.r 17)]⟩,vo 9 18]) (.block 0 f64_17)) (.seq (.draw [2,4,8] [2,4] [] [vd 37 2 1,vl 38 37,vv 39 7,⟨none,.sliS (some 40) (.r 38) none (some (.r 39)) 10⟩,⟨none,.app (some 41) 10 104 (.c (.lit (.slice none 0 0))) (.r 40)⟩,vd 42 2 1,vl 43 42,vv 44 7,vb 45 .add 44 1,⟨none,.sliS (some 46) (.r 43) (some (.r 45)) none 10⟩] [⟨none,.appS 47 41 10 104 (.r 46)⟩,vd 48 2 1,⟨none,.store 1 (.r 48) (.r 47)⟩]) (.seq (.ops [4,5,6] [4] [⟨none,.load (some 49) (.r 2) (some 3)⟩,vv 50 8,⟨none,.store 3 (.r 4) (.r 49)⟩,vo 5 50,⟨none,.mv (some 6) (.c (.lit (.int .i64 0)))⟩]) .ret))))))
def c_f64:AFun:=⟨51,[.cell 4 (some 3),.tmp 5,.tmp 6],f64_1⟩
theorem k_f64:kX x_f64 64 c_f64:=by delta kX;kernel_rfl
theorem e_f64:eX 64:=by delta eX;kernel_rfl

def n_f65:Nat:=65
def x_f65:=xX 70 [0,1,5,6,7,8,10,12,13,14,15,16,18,19,21,23,24,26,27,30,32,34,35,36,38,39,40,41,42,43,48,49,51,52,55,56,59,60,62,63,64,65,66,67,68,69] [] [(2,[1,2,4],[2,4]),(12,[1,2,4,17],[2,4]),(52,[4,5,6],[4]),(14,[1,2,4],[2,4]),(30,[1,2,4,7],[2,4]),(124,[1,2,4,7,8],[2,4]),(250,[1,2,4,7,8],[2,4]),(2000,[1,2,4,7,8,25],[2,4]),(4003,[2,4,7],[2,4]),(8008,[1,2,4,7,8,9],[2,4,9]),(32036,[1,2,4,7,8,9],[2,4,9]),(256288,[1,2,4,7,8,9,53],[2,4,9]),(512579,[1,2,4,7,8,9],[2,4,9]),(512580,[1,2,4,7,8,9],[2,4,9]),(1025162,[1,2,4,7,8,9],[2,4,9]),(1025163,[1,2,4,7,8,9],[2,4,9]),(16019,[1,2,4,7,8],[2,4]),(2003,[1,2,4,7,8],[2,4]),(126,[4,5,6],[4])]
abbrev f65_29:AC:=.seq (.seq (.draw [1,2,4,7,8,9,53] [2,4,9] [] [vd 33 9 6,vl 34 33,⟨none,.bin (some 35) .num .gtr (.r 34) (.c (.lit (.int .u64 0)))⟩,vv 36 35,⟨some (36,true),.addr (some 37) (.r 9) 7⟩,⟨some (36,true),.load (some 38) (.r 37) none⟩,⟨some (36,true),.len (some 39) .sl (.r 38)⟩,⟨some (36,true),.bin (some 40) .num .gtr (.r 39) (.c (.lit (.int .i64 0)))⟩,⟨none,.pick (some 41) (.r 36) (.r 40) (.c (.lit (.bool false)))⟩,vv 42 41,⟨some (42,true),.mv (some 43) (.r 1)⟩,⟨some (42,true),.addr (some 44) (.r 9) 7⟩,⟨some (42,true),.load (some 45) (.r 44) none⟩,⟨some (42,true),.ixS (some 46) (.r 45) (.c (.lit (.int .i64 0))) 4⟩,⟨some (42,true),.addr (some 47) (.r 46) 3⟩,⟨some (42,true),.load (some 48) (.r 47) none⟩,⟨some (42,true),.bin (some 49) .num .sub (.r 43) (.r 48)⟩,⟨some (42,true),.addr (some 50) (.r 9) 6⟩,⟨some (42,true),.load (some 51) (.r 50) none⟩] [⟨some (42,true),.bin (some 52) .num .geq (.r 49) (.r 51)⟩,⟨none,.pick (some 53) (.r 42) (.r 52) (.c (.lit (.bool false)))⟩]) (.cond (.r 53) .skip (.exit [1,2,4,7,8,9] [2,4,9] 2))) (.block 3 (.seq (.ops [1,2,4,7,8,9] [2,4,9] [vd 54 9 7,⟨none,.loadOwn 55 (.r 54)⟩,⟨none,.sliOwn 56 55 (.c (.lit (.int .i64 1))) 4⟩,vd 57 9 7,⟨none,.store 1 (.r 57) (.r 56)⟩]) (.seq (.ops [1,2,4,7,8,9] [2,4,9] [vd 58 9 9,vl 59 58,vb 60 .add 59 1,vd 61 9 9,⟨none,.store 1 (.r 61) (.r 60)⟩]) (.ops [1,2,4,7,8,9] [2,4,9] [vv 62 7,vb 63 .add 62 1,vo 7 63]))))
def f65_28:AC:=.loop [1,2,4,7,8,9] [2,4,9] f65_29
theorem f65_28w:aC P id m f65_28 sf st Q=aH (aC P id m f65_29) [1,2,4,7,8,9] [2,4,9] sf st Q:=rfl
abbrev f65_18:AC:=.seq (.seq (.ops [1,2,4,7,8,25] [2,4] [vv 21 8,vd 22 2 1,vl 23 22,⟨none,.len (some 24) .sl (.r 23)⟩,⟨none,.bin (some 25) .num .lss (.r 21) (.r 24)⟩]) (.cond (.r 25) .skip (.exit [2,4,7] [2,4] 0))) (.seq (.block 1 (.seq (.ops [1,2,4,7,8,9] [2,4,9] [vd 28 2 1,vl 29 28,vv 30 8,⟨none,.ixS (some 31) (.r 29) (.r 30) 10⟩,⟨none,.load (some 32) (.r 31) (some 10)⟩,⟨none,.newL 9 [(.lit (.int .i64 0)),(.lit (.string ⟨#[]⟩)),(.lit (.int .i64 0)),(.lit (.int .i64 0)),(.lit (.int .i64 0)),(.lit (.int .i64 0)),(.lit (.int .u64 0)),(.lit (.slice none 0 0)),(.lit (.int .i64 0)),(.lit (.int .i64 0))]⟩,⟨none,.store 10 (.r 9) (.r 32)⟩]) (.seq (.block 2 f65_28) (.ops [1,2,4,7,8] [2,4] [⟨none,.load (some 64) (.r 2) (some 3)⟩,vv 65 8,⟨none,.load (some 66) (.r 9) (some 10)⟩,⟨none,.call (some 67) false (.f 78) [(.r 64),(.r 65),(.r 66)]⟩,⟨none,.store 3 (.r 2) (.r 67)⟩])))) (.ops [1,2,4,7,8] [2,4] [vv 26 8,vb 27 .add 26 1,vo 8 27]))
def f65_17:AC:=.loop [1,2,4,7,8] [2,4] f65_18
theorem f65_17w:aC P id m f65_17 sf st Q=aH (aC P id m f65_18) [1,2,4,7,8] [2,4] sf st Q:=rfl
abbrev f65_1:AC:=.seq (.ops [1,2,4] [2,4] [⟨none,.boxL 2 3 (.r 0)⟩,⟨none,.newL 4 [(.lit (.int .u64 0)),(.lit (.slice none 0 0)),(.lit (.slice none 0 0))]⟩,⟨none,.mv (some 5) (.c (.lit (.int .i64 0)))⟩,⟨none,.mv (some 6) (.c (.lit (.int .i64 0)))⟩]) (.seq (.seq (.ops [1,2,4,17] [2,4] [vv 10 1,vd 11 2 0,vl 12 11,⟨none,.bin (some 13) .num .lss (.r 10) (.r 12)⟩,vv 14 13,⟨some (14,false),.mv (some 15) (.r 1)⟩,⟨some (14,false),.bin (some 16) .num .eql (.r 15) (.c (.lit (.int .u64 18446744073709551615)))⟩,⟨none,.pick (some 17) (.r 14) (.c (.lit (.bool true))) (.r 16)⟩]) (.cond (.r 17) (.seq (.ops [4,5,6] [4] [⟨none,.load (some 18) (.r 2) (some 3)⟩,⟨none,.store 3 (.r 4) (.r 18)⟩,⟨none,.mv (some 5) (.c (.lit (.int .i64 0)))⟩,⟨none,.mv (some 6) (.c (.lit (.int .i64 3)))⟩]) .ret) .skip)) (.seq (.ops [1,2,4] [2,4] [vv 19 1,vd 20 2 0,⟨none,.store 1 (.r 20) (.r 19)⟩]) (.seq (.ops [1,2,4,7] [2,4] [⟨none,.mv (some 7) (.c (.lit (.int .i64 0)))⟩]) (.seq (.seq (.ops [1,2,4,7,8] [2,4] [⟨none,.mv (some 8) (.c (.lit (.int .i64 0)))⟩]) (.block 0 f65_17)) (.seq (.ops [4,5,6] [4] [⟨none,.load (some 68) (.r 2) (some 3)⟩,vv 69 7,⟨none,.store 3 (.r 4) (.r 68)⟩,vo 5 69,⟨none,.mv (some 6) (.c (.lit (.int .i64 0)))⟩]) .ret)))))
def c_f65:AFun:=⟨70,[.cell 4 (some 3),.tmp 5,.tmp 6],f65_1⟩
theorem k_f65:kX x_f65 65 c_f65:=by delta kX;kernel_rfl
theorem e_f65:eX 65:=by delta eX;kernel_rfl

def n_f66:Nat:=66
def x_f66:=xX 9 [0,2,3,5,6,7,8] [] [(2,[0],[]),(12,[0,4],[]),(52,[2],[]),(14,[2],[])]
abbrev f66_1:AC:=.seq (.ops [0] [] [⟨none,.mv (some 2) (.c (.lit (.map none)))⟩]) (.seq (.seq (.ops [0,4] [] [vv 3 0,⟨none,.bin (some 4) (.nil .mp) .eql (.r 3) (.c (.lit (.map none)))⟩]) (.cond (.r 4) (.seq (.ops [2] [] [⟨none,.mv (some 2) (.c (.lit (.map none)))⟩]) .ret) .skip)) (.seq (.ops [2] [] [vv 5 0,⟨none,.mkif (some 6) 106 (.r 5)⟩,⟨none,.x (some 7) (.mclone (.r 6))⟩,⟨none,.tas (some 8) 106 (.r 7)⟩,vo 2 8]) .ret))
def c_f66:AFun:=⟨9,[.tmp 2],f66_1⟩
theorem k_f66:kX x_f66 66 c_f66:=by delta kX;kernel_rfl
theorem e_f66:eX 66:=by delta eX;kernel_rfl

def n_f67:Nat:=67
def x_f67:=xX 57 [0,2,3,4,5,6,7,8,10,11,12,13,14,15,16,17,18,19,20,21,22,23,24,25,26,27,28,29,30,31,32,33,34,35,36,37,38,39,40,41,42,43,44,45,46,47,49,50,51,52,53,54,55,56] [] [(2,[0],[]),(12,[0,7],[]),(26,[0,7],[]),(104,[0,7,8,9],[]),(421,[0],[]),(844,[0,3,4,7],[]),(1690,[0,3,4,5,7],[]),(3382,[0,7,48],[]),(13532,[2],[]),(14,[2],[])]
abbrev f67_15:AC:=.seq (.ops [0,3,4,5,7] [] [vv 12 4,⟨none,.bin (some 13) .num .geq (.r 12) (.c (.lit (.int .i32 65)))⟩,vv 14 13,⟨some (14,true),.mv (some 15) (.r 4)⟩,⟨some (14,true),.bin (some 16) .num .leq (.r 15) (.c (.lit (.int .i32 90)))⟩,⟨none,.pick (some 17) (.r 14) (.r 16) (.c (.lit (.bool false)))⟩,vv 18 17,⟨some (18,false),.mv (some 19) (.r 4)⟩,⟨some (18,false),.bin (some 20) .num .geq (.r 19) (.c (.lit (.int .i32 97)))⟩,⟨some (18,false),.mv (some 21) (.r 20)⟩,⟨some (21,true),.mv (some 22) (.r 4)⟩,⟨some (21,true),.bin (some 23) .num .leq (.r 22) (.c (.lit (.int .i32 122)))⟩,⟨some (18,false),.pick (some 24) (.r 21) (.r 23) (.c (.lit (.bool false)))⟩,⟨none,.pick (some 25) (.r 18) (.c (.lit (.bool true))) (.r 24)⟩,vo 5 25]) (.seq (.ops [0,7,48] [] [vv 26 5,⟨none,.un (some 27) .not (.r 26)⟩,vv 28 27,⟨some (28,true),.mv (some 29) (.r 3)⟩,⟨some (28,true),.bin (some 30) .num .eql (.r 29) (.c (.lit (.int .i64 0)))⟩,⟨some (28,true),.mv (some 31) (.r 30)⟩,⟨some (31,false),.mv (some 32) (.r 4)⟩,⟨some (31,false),.bin (some 33) .num .geq (.r 32) (.c (.lit (.int .i32 48)))⟩,⟨some (31,false),.mv (some 34) (.r 33)⟩,⟨some (34,true),.mv (some 35) (.r 4)⟩,⟨some (34,true),.bin (some 36) .num .leq (.r 35) (.c (.lit (.int .i32 57)))⟩,⟨some (31,false),.pick (some 37) (.r 34) (.r 36) (.c (.lit (.bool false)))⟩,⟨some (31,false),.un (some 38) .not (.r 37)⟩,⟨some (31,false),.mv (some 39) (.r 38)⟩,⟨some (39,true),.mv (some 40) (.r 4)⟩,⟨some (39,true),.bin (some 41) .num .neq (.r 40) (.c (.lit (.int .i32 45)))⟩,⟨some (31,false),.pick (some 42) (.r 39) (.r 41) (.c (.lit (.bool false)))⟩,⟨some (31,false),.mv (some 43) (.r 42)⟩,⟨some (43,true),.mv (some 44) (.r 4)⟩,⟨some (43,true),.bin (some 45) .num .neq (.r 44) (.c (.lit (.int .i32 95)))⟩,⟨some (31,false),.pick (some 46) (.r 43) (.r 45) (.c (.lit (.bool false)))⟩,⟨some (28,true),.pick (some 47) (.r 31) (.c (.lit (.bool true))) (.r 46)⟩,⟨none,.pick (some 48) (.r 28) (.r 47) (.c (.lit (.bool false)))⟩]) (.cond (.r 48) (.seq (.ops [2] [] [⟨none,.mv (some 2) (.c (.lit (.bool false)))⟩]) .ret) .skip))
abbrev f67_8:AC:=.seq (.ops [0,7,8,9] [] [⟨none,.x (some 8) (.nxtS 7)⟩,ve 9 8 0]) (.seq (.cond (.r 9) .skip (.exit [0] [] 0)) (.block 1 (.seq (.ops [0,3,4,7] [] [ve 10 8 1,ve 11 8 2,vo 3 10,vo 4 11]) f67_15)))
def f67_7:AC:=.loop [0,7] [] f67_8
theorem f67_7w:aC P id m f67_7 sf st Q=aH (aC P id m f67_8) [0,7] [] sf st Q:=rfl
abbrev f67_1:AC:=.seq (.ops [0] [] [⟨none,.mv (some 2) (.c (.lit (.bool false)))⟩]) (.seq (.seq (.ops [0,7] [] [vv 6 0,⟨none,.x (some 7) (.rngS (.r 6))⟩]) (.block 0 f67_7)) (.seq (.ops [2] [] [vv 49 0,⟨none,.len (some 50) .str (.r 49)⟩,vb 51 .geq 50 1,vv 52 51,⟨some (52,true),.mv (some 53) (.r 0)⟩,⟨some (52,true),.len (some 54) .str (.r 53)⟩,⟨some (52,true),.bin (some 55) .num .leq (.r 54) (.c (.lit (.int .i64 32)))⟩,⟨none,.pick (some 56) (.r 52) (.r 55) (.c (.lit (.bool false)))⟩,vo 2 56]) .ret))
def c_f67:AFun:=⟨57,[.tmp 2],f67_1⟩
theorem k_f67:kX x_f67 67 c_f67:=by delta kX;kernel_rfl
theorem e_f67:eX 67:=by delta eX;kernel_rfl

def n_f68:Nat:=68
def x_f68:=xX 18 [0,2,3,5,6,7,8,11,12,13,15,16,17] [] [(2,[0],[]),(6,[0,3],[]),(28,[3,6,7,8],[]),(58,[3,6,7,8],[]),(232,[3,6,7,8,9],[]),(933,[3],[]),(3736,[3,5,6,7,8],[]),(7474,[3,5,6,7,8,14],[]),(29900,[2],[]),(935,[3,6,7,8],[]),(30,[2],[])]
abbrev f68_10:AC:=.seq (.ops [3,6,7,8,9] [] [⟨none,.bin (some 9) .num .lss (.r 8) (.r 7)⟩]) (.seq (.cond (.r 9) .skip (.exit [3] [] 0)) (.seq (.block 1 (.seq (.ops [3,5,6,7,8] [] [⟨none,.ixS (some 10) (.r 6) (.r 8) 1⟩,vl 11 10,vo 5 11]) (.seq (.ops [3,5,6,7,8,14] [] [vv 12 5,vv 13 3,⟨none,.bin (some 14) .num .neq (.r 12) (.r 13)⟩]) (.cond (.r 14) (.seq (.ops [2] [] [vv 15 5,vo 2 15]) .ret) .skip)))) (.ops [3,6,7,8] [] [vb 16 .add 8 1,vv 8 16])))
def f68_9:AC:=.loop [3,6,7,8] [] f68_10
theorem f68_9w:aC P id m f68_9 sf st Q=aH (aC P id m f68_10) [3,6,7,8] [] sf st Q:=rfl
abbrev f68_1:AC:=.seq (.ops [0] [] [⟨none,.mv (some 2) (.c (.lit (.int .i64 0)))⟩]) (.seq (.ops [0,3] [] [⟨none,.mv (some 3) (.c (.lit (.int .i64 0)))⟩]) (.seq (.seq (.ops [3,6,7,8] [] [vv 6 0,⟨none,.len (some 7) .sl (.r 6)⟩,⟨none,.mv (some 8) (.c (.lit (.int .i64 0)))⟩]) (.block 0 f68_9)) (.seq (.ops [2] [] [vv 17 3,vo 2 17]) .ret)))
def c_f68:AFun:=⟨18,[.tmp 2],f68_1⟩
theorem k_f68:kX x_f68 68 c_f68:=by delta kX;kernel_rfl
theorem e_f68:eX 68:=by delta eX;kernel_rfl

def n_f69:Nat:=69
def x_f69:=xX 8 [0,1,4,5,6,7] [] [(2,[0,1],[]),(6,[4],[])]
abbrev f69_1:AC:=.seq (.ops [0,1] [] [⟨none,.mv (some 4) (.c (.lit (.int .i64 0)))⟩]) (.seq (.ops [4] [] [vv 5 0,vv 6 1,⟨none,.call (some 7) false (.f 83) [(.r 5),(.r 6)]⟩,vo 4 7]) .ret)
def c_f69:AFun:=⟨8,[.tmp 4],f69_1⟩
theorem k_f69:kX x_f69 69 c_f69:=by delta kX;kernel_rfl
theorem e_f69:eX 69:=by delta eX;kernel_rfl

def n_f70:Nat:=70
def x_f70:=xX 20 [0,1,4,7,8,9,10,14,15,17,18] [] [(2,[0,1],[]),(6,[0,1,5],[]),(14,[0,1,5,6],[]),(60,[0,1,6,11],[]),(488,[12],[]),(1956,[4],[]),(490,[4],[]),(124,[0,1,13],[]),(500,[4],[]),(252,[0,1,16],[]),(1012,[4],[]),(508,[19],[]),(2036,[4],[]),(510,[4],[])]
abbrev f70_1:AC:=.seq (.ops [0,1] [] [⟨none,.mv (some 4) (.c (.lit (.int .i64 0)))⟩]) (.seq (.ops [0,1,5] [] [vv 7 0,⟨none,.call (some 8) false (.f 84) [(.r 7)]⟩,vo 5 8]) (.seq (.ops [0,1,5,6] [] [vv 9 1,⟨none,.call (some 10) false (.f 84) [(.r 9)]⟩,vo 6 10]) (.seq (.seq (.ops [0,1,6,11] [] [vv 11 5]) (.cond (.r 11) (.seq (.seq (.ops [12] [] [vv 12 6]) (.cond (.r 12) (.seq (.ops [4] [] [⟨none,.mv (some 4) (.c (.lit (.int .i64 0)))⟩]) .ret) .skip)) (.seq (.ops [4] [] [⟨none,.mv (some 4) (.c (.lit (.int .i64 (-1))))⟩]) .ret)) .skip)) (.seq (.seq (.ops [0,1,13] [] [vv 13 6]) (.cond (.r 13) (.seq (.ops [4] [] [⟨none,.mv (some 4) (.c (.lit (.int .i64 1)))⟩]) .ret) .skip)) (.seq (.seq (.ops [0,1,16] [] [vv 14 0,vv 15 1,⟨none,.bin (some 16) .num .lss (.r 14) (.r 15)⟩]) (.cond (.r 16) (.seq (.ops [4] [] [⟨none,.mv (some 4) (.c (.lit (.int .i64 (-1))))⟩]) .ret) .skip)) (.seq (.seq (.ops [19] [] [vv 17 0,vv 18 1,⟨none,.bin (some 19) .num .gtr (.r 17) (.r 18)⟩]) (.cond (.r 19) (.seq (.ops [4] [] [⟨none,.mv (some 4) (.c (.lit (.int .i64 1)))⟩]) .ret) .skip)) (.seq (.ops [4] [] [⟨none,.mv (some 4) (.c (.lit (.int .i64 0)))⟩]) .ret)))))))
def c_f70:AFun:=⟨20,[.tmp 4],f70_1⟩
theorem k_f70:kX x_f70 70 c_f70:=by delta kX;kernel_rfl
theorem e_f70:eX 70:=by delta eX;kernel_rfl

def n_f71:Nat:=71
def x_f71:=xX 33 [0,1,2,6,7,8,9,10,11,12,14,15,17,18,19,20,21,22,23,24,25,26,27,28,29,30,31,32] [0,20,22,26,27,31] [(2,[0,1,2],[]),(6,[0,1,2],[]),(28,[0,1,2,16],[]),(116,[6],[]),(30,[0,1,2,7],[]),(62,[0,7],[]),(126,[0],[]),(254,[6],[])]
abbrev f71_1:AC:=.seq (.ops [0,1,2] [] [⟨none,.mv (some 6) (.c (.lit (.slice none 0 0)))⟩]) (.seq (.ops [0,1,2] [] [vv 8 0,vv 9 1,vv 10 2,vv 11 0,⟨none,.len (some 12) .sl (.r 11)⟩,⟨none,.sli3 (some 13) (.r 8) (some (.r 9)) (some (.r 10)) (.r 12) 4⟩]) (.seq (.seq (.ops [0,1,2,16] [] [vv 14 1,vv 15 2,⟨none,.bin (some 16) .num .eql (.r 14) (.r 15)⟩]) (.cond (.r 16) (.seq (.ops [6] [] [vv 17 0,vo 6 17]) .ret) .skip)) (.seq (.ops [0,1,2,7] [] [vv 18 0,⟨none,.len (some 19) .sl (.r 18)⟩,vo 7 19]) (.seq (.draw [0,7] [] [] [vv 20 0,vv 21 1,⟨none,.sliS (some 22) (.r 20) none (some (.r 21)) 4⟩,vv 23 0,vv 24 2,⟨none,.sliS (some 25) (.r 23) (some (.r 24)) none 4⟩] [⟨none,.x (some 26) (.appB (.r 22) 4 56 (.r 25))⟩,vo 0 26]) (.seq (.ops [0] [] [vv 27 0,vv 28 0,⟨none,.len (some 29) .sl (.r 28)⟩,vv 30 7,⟨none,.sliS (some 31) (.r 27) (some (.r 29)) (some (.r 30)) 4⟩,⟨none,.x none (.clrB 4 (.agg [(.lit (.string ⟨#[]⟩)),(.lit (.int .i64 0)),(.lit (.slice none 0 0)),(.lit (.int .u64 0))]) (.r 31))⟩]) (.seq (.ops [6] [] [vv 32 0,vo 6 32]) .ret))))))
def c_f71:AFun:=⟨33,[.tmp 6],f71_1⟩
theorem k_f71:kX x_f71 71 c_f71:=by delta kX;kernel_rfl
theorem e_f71:eX 71:=by delta eX;kernel_rfl

def n_f72:Nat:=72
def x_f72:=xX 31 [0,2,3,4,6,7,13,14,18,23,24,25,30] [] [(2,[0],[]),(24,[0,5],[]),(100,[2,3,4],[]),(102,[0,8],[]),(412,[2,3,4],[]),(14,[2,3,4],[])]
abbrev f72_1:AC:=.seq (.ops [0] [] [⟨none,.mv (some 2) (.c (.lit (.int .i64 0)))⟩,⟨none,.mv (some 3) (.c (.lit (.int .u64 0)))⟩,⟨none,.mv (some 4) (.c (.lit (.int .i64 0)))⟩]) (.seq (.block 0 (.seq (.ops [0,5] [] [vv 6 0,⟨none,.call (some 7) false (.f 58) [(.r 6)]⟩,vo 5 7]) (.cond (.r 5) (.seq (.ops [2,3,4] [] [⟨none,.mv (some 2) (.c (.lit (.int .i64 0)))⟩,⟨none,.mv (some 3) (.c (.lit (.int .u64 0)))⟩,⟨none,.mv (some 4) (.c (.lit (.int .i64 1)))⟩]) .ret) (.seq (.ops [0,8] [] [vv 9 0,vn 10 9,vd 11 10 0,vd 12 11 0,vl 13 12,⟨none,.bin (some 14) .num .eql (.r 13) (.c (.lit (.int .u64 0)))⟩,vo 8 14]) (.cond (.r 8) (.seq (.ops [2,3,4] [] [⟨none,.mv (some 2) (.c (.lit (.int .i64 0)))⟩,⟨none,.mv (some 3) (.c (.lit (.int .u64 0)))⟩,⟨none,.mv (some 4) (.c (.lit (.int .i64 9)))⟩]) .ret) .skip))))) (.seq (.draw [2,3,4] [] [] [vv 15 0,vn 16 15,vd 17 16 3,vl 18 17,vv 19 0,vn 20 19,vd 21 20 0,vd 22 21 0,vl 23 22,⟨none,.lookup (some 24) (.int .u64) (.agg [(.lit (.int .i64 0)),(.lit (.int .u64 0)),(.lit (.int .u64 0))]) false (.r 18) (.r 23)⟩,⟨none,.field (some 25) (.r 24) 0 none⟩,vv 26 0,vn 27 26,vd 28 27 0,vd 29 28 0,vl 30 29,vv 2 25] [vo 3 30,⟨none,.mv (some 4) (.c (.lit (.int .i64 0)))⟩]) .ret))
def c_f72:AFun:=⟨31,[.tmp 2,.tmp 3,.tmp 4],f72_1⟩
theorem k_f72:kX x_f72 72 c_f72:=by delta kX;kernel_rfl
theorem e_f72:eX 72:=by delta eX;kernel_rfl

def n_f73:Nat:=73
def x_f73:=xX 62 [0,2,3,4,6,7,8,9,11,12,13,14,15,17,18,19,20,21,22,24,25,26,27,29,30,32,34,35,37,38,40,41,42,43,44,45,46,47,48,49,50,51,52,53,54,55,56,57,58,59,60] [] [(2,[1],[1]),(12,[1,31],[1]),(52,[2],[]),(28,[1,3],[1]),(58,[1,3],[1]),(464,[1,3,36],[1]),(931,[],[]),(1864,[1,3,4],[1]),(3730,[1,3,61],[1]),(14924,[2],[]),(467,[1,3],[1]),(30,[2],[])]
abbrev f73_14:AC:=.seq (.seq (.ops [1,3,36] [1] [vv 32 3,vd 33 1 0,vl 34 33,⟨none,.len (some 35) .str (.r 34)⟩,⟨none,.bin (some 36) .num .lss (.r 32) (.r 35)⟩]) (.cond (.r 36) .skip (.exit [] [] 0))) (.seq (.block 1 (.seq (.ops [1,3,4] [1] [vd 39 1 0,vl 40 39,vv 41 3,⟨none,.ixStr (some 42) (.r 40) (.r 41)⟩,vo 4 42]) (.seq (.ops [1,3,61] [1] [vv 43 4,⟨none,.call (some 44) false (.f 85) [(.r 43)]⟩,⟨none,.un (some 45) .not (.r 44)⟩,vv 46 45,⟨some (46,true),.mv (some 47) (.r 4)⟩,⟨some (46,true),.bin (some 48) .num .lss (.r 47) (.c (.lit (.int .u8 48)))⟩,⟨some (46,true),.mv (some 49) (.r 48)⟩,⟨some (49,false),.mv (some 50) (.r 4)⟩,⟨some (49,false),.bin (some 51) .num .gtr (.r 50) (.c (.lit (.int .u8 57)))⟩,⟨some (46,true),.pick (some 52) (.r 49) (.c (.lit (.bool true))) (.r 51)⟩,⟨none,.pick (some 53) (.r 46) (.r 52) (.c (.lit (.bool false)))⟩,vv 54 53,⟨some (54,true),.mv (some 55) (.r 4)⟩,⟨some (54,true),.bin (some 56) .num .neq (.r 55) (.c (.lit (.int .u8 45)))⟩,⟨none,.pick (some 57) (.r 54) (.r 56) (.c (.lit (.bool false)))⟩,vv 58 57,⟨some (58,true),.mv (some 59) (.r 4)⟩,⟨some (58,true),.bin (some 60) .num .neq (.r 59) (.c (.lit (.int .u8 95)))⟩,⟨none,.pick (some 61) (.r 58) (.r 60) (.c (.lit (.bool false)))⟩]) (.cond (.r 61) (.seq (.ops [2] [] [⟨none,.mv (some 2) (.c (.lit (.bool false)))⟩]) .ret) .skip)))) (.ops [1,3] [1] [vv 37 3,vb 38 .add 37 1,vo 3 38]))
def f73_13:AC:=.loop [1,3] [1] f73_14
theorem f73_13w:aC P id m f73_13 sf st Q=aH (aC P id m f73_14) [1,3] [1] sf st Q:=rfl
abbrev f73_3:AC:=.seq (.seq (.ops [1,31] [1] [vd 5 1 0,vl 6 5,⟨none,.len (some 7) .str (.r 6)⟩,vb 8 .lss 7 1,vv 9 8,⟨some (9,false),.addr (some 10) (.r 1) 0⟩,⟨some (9,false),.load (some 11) (.r 10) none⟩,⟨some (9,false),.len (some 12) .str (.r 11)⟩,⟨some (9,false),.bin (some 13) .num .gtr (.r 12) (.c (.lit (.int .i64 32)))⟩,⟨none,.pick (some 14) (.r 9) (.c (.lit (.bool true))) (.r 13)⟩,vv 15 14,⟨some (15,false),.addr (some 16) (.r 1) 0⟩,⟨some (15,false),.load (some 17) (.r 16) none⟩,⟨some (15,false),.ixStr (some 18) (.r 17) (.c (.lit (.int .i64 0)))⟩,⟨some (15,false),.call (some 19) false (.f 85) [(.r 18)]⟩,⟨some (15,false),.un (some 20) .not (.r 19)⟩,⟨none,.pick (some 21) (.r 15) (.c (.lit (.bool true))) (.r 20)⟩,vv 22 21,⟨some (22,false),.addr (some 23) (.r 1) 1⟩,⟨some (22,false),.load (some 24) (.r 23) none⟩,⟨some (22,false),.bin (some 25) .num .lss (.r 24) (.c (.lit (.int .i64 1)))⟩,⟨none,.pick (some 26) (.r 22) (.c (.lit (.bool true))) (.r 25)⟩,vv 27 26,⟨some (27,false),.addr (some 28) (.r 1) 1⟩,⟨some (27,false),.load (some 29) (.r 28) none⟩,⟨some (27,false),.bin (some 30) .num .gtr (.r 29) (.c (.lit (.int .i64 65535)))⟩,⟨none,.pick (some 31) (.r 27) (.c (.lit (.bool true))) (.r 30)⟩]) (.cond (.r 31) (.seq (.ops [2] [] [⟨none,.mv (some 2) (.c (.lit (.bool false)))⟩]) .ret) .skip)) (.seq (.seq (.ops [1,3] [1] [⟨none,.mv (some 3) (.c (.lit (.int .i64 1)))⟩]) (.block 0 f73_13)) (.seq (.ops [2] [] [⟨none,.mv (some 2) (.c (.lit (.bool true)))⟩]) .ret))
abbrev f73_1:AC:=.seq (.ops [1] [1] [⟨none,.boxL 1 2 (.r 0)⟩,⟨none,.mv (some 2) (.c (.lit (.bool false)))⟩]) f73_3
def c_f73:AFun:=⟨62,[.tmp 2],f73_1⟩
theorem k_f73:kX x_f73 73 c_f73:=by delta kX;kernel_rfl
theorem e_f73:eX 73:=by delta eX;kernel_rfl

def n_f74:Nat:=74
def x_f74:=xX 22 [0,1,4,5,6,8,9,11,12,15,18,19,21] [] [(2,[2,3],[2,3]),(12,[2,3,5],[2,3]),(26,[2,3,5],[2,3]),(208,[2,3,5,10],[2,3]),(419,[],[]),(840,[2,3,5,20],[2,3]),(3364,[4],[]),(211,[2,3,5],[2,3]),(14,[4],[])]
abbrev f74_8:AC:=.seq (.seq (.ops [2,3,5,10] [2,3] [vv 6 5,vd 7 2 1,vl 8 7,⟨none,.len (some 9) .sl (.r 8)⟩,⟨none,.bin (some 10) .num .lss (.r 6) (.r 9)⟩]) (.cond (.r 10) .skip (.exit [] [] 0))) (.seq (.block 1 (.seq (.draw [2,3,5,20] [2,3] [] [vd 13 2 1,vl 14 13,vv 15 5,⟨none,.ixS (some 16) (.r 14) (.r 15) 10⟩,vd 17 16 1,⟨none,.load (some 18) (.r 17) (some 2)⟩,⟨none,.load (some 19) (.r 3) (some 2)⟩] [⟨none,.bin (some 20) (.agg (.field 0 1 .str (.field 1 1 .int .tt))) .eql (.r 18) (.r 19)⟩]) (.cond (.r 20) (.seq (.ops [4] [] [vv 21 5,vo 4 21]) .ret) .skip))) (.ops [2,3,5] [2,3] [vv 11 5,vb 12 .add 11 1,vo 5 12]))
def f74_7:AC:=.loop [2,3,5] [2,3] f74_8
theorem f74_7w:aC P id m f74_7 sf st Q=aH (aC P id m f74_8) [2,3,5] [2,3] sf st Q:=rfl
abbrev f74_1:AC:=.seq (.ops [2,3] [2,3] [⟨none,.boxL 2 3 (.r 0)⟩,⟨none,.boxL 3 2 (.r 1)⟩,⟨none,.mv (some 4) (.c (.lit (.int .i64 0)))⟩]) (.seq (.seq (.ops [2,3,5] [2,3] [⟨none,.mv (some 5) (.c (.lit (.int .i64 0)))⟩]) (.block 0 f74_7)) (.seq (.ops [4] [] [⟨none,.mv (some 4) (.c (.lit (.int .i64 (-1))))⟩]) .ret))
def c_f74:AFun:=⟨22,[.tmp 4],f74_1⟩
theorem k_f74:kX x_f74 74 c_f74:=by delta kX;kernel_rfl
theorem e_f74:eX 74:=by delta eX;kernel_rfl

def n_f75:Nat:=75
def x_f75:=xX 22 [0,1,4,5,6,8,9,11,12,15,18,19,21] [] [(2,[1,2],[2]),(12,[1,2,5],[2]),(26,[1,2,5],[2]),(208,[1,2,5,10],[2]),(419,[],[]),(840,[1,2,5,20],[2]),(3364,[4],[]),(211,[1,2,5],[2]),(14,[4],[])]
abbrev f75_8:AC:=.seq (.seq (.ops [1,2,5,10] [2] [vv 6 5,vd 7 2 2,vl 8 7,⟨none,.len (some 9) .sl (.r 8)⟩,⟨none,.bin (some 10) .num .lss (.r 6) (.r 9)⟩]) (.cond (.r 10) .skip (.exit [] [] 0))) (.seq (.block 1 (.seq (.ops [1,2,5,20] [2] [vd 13 2 2,vl 14 13,vv 15 5,⟨none,.ixS (some 16) (.r 14) (.r 15) 3⟩,vd 17 16 1,vl 18 17,vv 19 1,⟨none,.bin (some 20) .num .eql (.r 18) (.r 19)⟩]) (.cond (.r 20) (.seq (.ops [4] [] [vv 21 5,vo 4 21]) .ret) .skip))) (.ops [1,2,5] [2] [vv 11 5,vb 12 .add 11 1,vo 5 12]))
def f75_7:AC:=.loop [1,2,5] [2] f75_8
theorem f75_7w:aC P id m f75_7 sf st Q=aH (aC P id m f75_8) [1,2,5] [2] sf st Q:=rfl
abbrev f75_1:AC:=.seq (.ops [1,2] [2] [⟨none,.boxL 2 3 (.r 0)⟩,⟨none,.mv (some 4) (.c (.lit (.int .i64 0)))⟩]) (.seq (.seq (.ops [1,2,5] [2] [⟨none,.mv (some 5) (.c (.lit (.int .i64 0)))⟩]) (.block 0 f75_7)) (.seq (.ops [4] [] [⟨none,.mv (some 4) (.c (.lit (.int .i64 (-1))))⟩]) .ret))
def c_f75:AFun:=⟨22,[.tmp 4],f75_1⟩
theorem k_f75:kX x_f75 75 c_f75:=by delta kX;kernel_rfl
theorem e_f75:eX 75:=by delta eX;kernel_rfl

def n_f76:Nat:=76
def x_f76:=xX 29 [0,1,2,8,9,10,12,13,15,16,17,18,19,22,24,25,26,28] [] [(2,[0,2,4,6],[4,6]),(6,[2,4,6,7],[4,6,7]),(14,[2,4,6,7],[4,6,7]),(30,[6,7],[6,7]),(62,[6],[6])]
abbrev f76_1:AC:=.seq (.ops [0,2,4,6] [4,6] [⟨none,.boxL 4 4 (.r 1)⟩,⟨none,.newL 6 [(.lit (.int .i64 0)),(.lit (.string ⟨#[]⟩)),(.lit (.int .i64 0)),(.lit (.slice none 0 0)),(.lit (.int .u64 0)),(.lit (.bool false)),(.lit (.int .i64 0))]⟩]) (.seq (.ops [2,4,6,7] [4,6,7] [vv 8 0,⟨none,.load (some 9) (.r 4) (some 4)⟩,⟨none,.bst (some 10) [(0,1),(1,4),(5,1),(6,1)] (.agg [(.lit (.int .i64 0)),(.lit (.string ⟨#[]⟩)),(.lit (.int .i64 0)),(.lit (.slice none 0 0)),(.lit (.int .u64 0)),(.lit (.bool false)),(.lit (.int .i64 0))]) [(0,(.r 8)),(1,(.r 9))]⟩,⟨none,.newL 7 [(.lit (.int .i64 0)),(.lit (.string ⟨#[]⟩)),(.lit (.int .i64 0)),(.lit (.slice none 0 0)),(.lit (.int .u64 0)),(.lit (.bool false)),(.lit (.int .i64 0))]⟩,⟨none,.store 7 (.r 7) (.r 10)⟩]) (.seq (.ops [2,4,6,7] [4,6,7] [vd 11 4 2,vl 12 11,vv 13 2,vd 14 4 2,vl 15 14,⟨none,.len (some 16) .sl (.r 15)⟩,⟨none,.mn (some 17) true (.r 13) (.r 16)⟩,⟨none,.sliS (some 18) (.r 12) none (some (.r 17)) 1⟩,⟨none,.app (some 19) 1 1 (.c (.lit (.slice none 0 0))) (.r 18)⟩,vd 20 7 1,vd 21 20 2,⟨none,.store 1 (.r 21) (.r 19)⟩]) (.seq (.ops [6,7] [6,7] [vv 22 2,vd 23 4 2,vl 24 23,⟨none,.len (some 25) .sl (.r 24)⟩,⟨none,.bin (some 26) .num .lss (.r 22) (.r 25)⟩,vd 27 7 5,⟨none,.store 1 (.r 27) (.r 26)⟩]) (.seq (.ops [6] [6] [⟨none,.load (some 28) (.r 7) (some 7)⟩,⟨none,.store 7 (.r 6) (.r 28)⟩]) .ret))))
def c_f76:AFun:=⟨29,[.cell 6 (some 7)],f76_1⟩
theorem k_f76:kX x_f76 76 c_f76:=by delta kX;kernel_rfl
theorem e_f76:eX 76:=by delta eX;kernel_rfl

def n_f77:Nat:=77
def x_f77:=xX 18 [0,1,6,7,8,9,11,12,13,14,15,17] [] [(2,[1,2,4],[2,4]),(6,[2,4],[2,4]),(14,[4],[4])]
abbrev f77_1:AC:=.seq (.ops [1,2,4] [2,4] [⟨none,.boxL 2 3 (.r 0)⟩,⟨none,.newL 4 [(.lit (.int .u64 0)),(.lit (.slice none 0 0)),(.lit (.slice none 0 0))]⟩]) (.seq (.draw [2,4] [2,4] [] [vd 5 2 2,vl 6 5,vv 7 1,⟨none,.sliS (some 8) (.r 6) none (some (.r 7)) 3⟩,⟨none,.app (some 9) 3 24 (.c (.lit (.slice none 0 0))) (.r 8)⟩,vd 10 2 2,vl 11 10,vv 12 1,vb 13 .add 12 1,⟨none,.sliS (some 14) (.r 11) (some (.r 13)) none 3⟩] [⟨none,.appS 15 9 3 24 (.r 14)⟩,vd 16 2 2,⟨none,.store 1 (.r 16) (.r 15)⟩]) (.seq (.ops [4] [4] [⟨none,.load (some 17) (.r 2) (some 3)⟩,⟨none,.store 3 (.r 4) (.r 17)⟩]) .ret))
def c_f77:AFun:=⟨18,[.cell 4 (some 3)],f77_1⟩
theorem k_f77:kX x_f77 77 c_f77:=by delta kX;kernel_rfl
theorem e_f77:eX 77:=by delta eX;kernel_rfl

def n_f78:Nat:=78
def x_f78:=xX 18 [0,1,2,7,9,10,12,13,15,17] [7,10,11] [(2,[1,3,5,6],[3,5,6]),(6,[1,3,5,6,7],[3,5,6]),(14,[3,6,7],[3,6]),(30,[3,6],[3,6]),(62,[6],[6])]
abbrev f78_1:AC:=.seq (.ops [1,3,5,6] [3,5,6] [⟨none,.boxL 3 3 (.r 0)⟩,⟨none,.boxL 5 10 (.r 2)⟩,⟨none,.newL 6 [(.lit (.int .u64 0)),(.lit (.slice none 0 0)),(.lit (.slice none 0 0))]⟩]) (.seq (.ops [1,3,5,6,7] [3,5,6] [vd 8 3 1,vl 9 8,⟨none,.x (some 10) (.appB (.c (.lit (.slice none 0 0))) 10 104 (.r 9))⟩,vo 7 10]) (.seq (.ops [3,6,7] [3,6] [vv 11 7,vv 12 1,⟨none,.load (some 13) (.r 5) (some 10)⟩,⟨none,.ixS (some 14) (.r 11) (.r 12) 10⟩,⟨none,.store 10 (.r 14) (.r 13)⟩]) (.seq (.ops [3,6] [3,6] [vv 15 7,vd 16 3 1,⟨none,.store 1 (.r 16) (.r 15)⟩]) (.seq (.ops [6] [6] [⟨none,.load (some 17) (.r 3) (some 3)⟩,⟨none,.store 3 (.r 6) (.r 17)⟩]) .ret))))
def c_f78:AFun:=⟨18,[.cell 6 (some 3)],f78_1⟩
theorem k_f78:kX x_f78 78 c_f78:=by delta kX;kernel_rfl
theorem e_f78:eX 78:=by delta eX;kernel_rfl

def n_f79:Nat:=79
def x_f79:=xX 54 [0,1,6,7,9,12,13,15,17,18,19,21,22,23,24,25,27,28,29,31,32,35,36,39,41,43,44,47,48,49,50,51,53] [] [(2,[2,3,4],[2,3,4]),(12,[2,3,4,10],[2,3,4]),(52,[2,4],[2,4]),(106,[4],[4]),(28,[2,3,4],[2,3,4]),(224,[2,3,4,33],[2,3,4]),(451,[2,3,4],[2,3,4]),(452,[2,3,4],[2,3,4]),(1812,[2,3,4,40],[2,3,4]),(7252,[4],[4]),(907,[2,3,4],[2,3,4]),(30,[2,4],[2,4]),(62,[4],[4])]
abbrev f79_14:AC:=.seq (.seq (.draw [2,3,4,33] [2,3,4] [] [vd 16 2 7,vl 17 16,⟨none,.len (some 18) .sl (.r 17)⟩,vb 19 .add 18 1,vd 20 2 3,vl 21 20,⟨none,.bin (some 22) .num .gtr (.r 19) (.r 21)⟩,vv 23 22,⟨some (23,false),.load (some 24) (.r 2) (some 10)⟩,⟨some (23,false),.call (some 25) true (.f 86) [(.r 24)]⟩,⟨some (23,false),.addr (some 26) (.r 3) 2⟩,⟨some (23,false),.load (some 27) (.r 26) none⟩,⟨some (23,false),.len (some 28) .sl (.r 27)⟩,⟨some (23,false),.bin (some 29) .num .add (.r 25) (.r 28)⟩,⟨some (23,false),.addr (some 30) (.r 2) 4⟩,⟨some (23,false),.load (some 31) (.r 30) none⟩] [⟨some (23,false),.bin (some 32) .num .gtr (.r 29) (.r 31)⟩,⟨none,.pick (some 33) (.r 23) (.c (.lit (.bool true))) (.r 32)⟩]) (.cond (.r 33) .skip (.exit [2,3,4] [2,3,4] 0))) (.block 1 (.seq (.ops [2,3,4] [2,3,4] [vd 34 2 8,vl 35 34,vb 36 .add 35 1,vd 37 2 8,⟨none,.store 1 (.r 37) (.r 36)⟩]) (.seq (.seq (.ops [2,3,4,40] [2,3,4] [vd 38 2 5,vl 39 38,vb 40 .eql 39 2]) (.cond (.r 40) (.seq (.ops [4] [4] [⟨none,.load (some 41) (.r 2) (some 10)⟩,⟨none,.store 10 (.r 4) (.r 41)⟩]) .ret) .skip)) (.ops [2,3,4] [2,3,4] [vd 42 2 7,⟨none,.loadOwn 43 (.r 42)⟩,⟨none,.sliOwn 44 43 (.c (.lit (.int .i64 1))) 4⟩,vd 45 2 7,⟨none,.store 1 (.r 45) (.r 44)⟩]))))
def f79_13:AC:=.loop [2,3,4] [2,3,4] f79_14
theorem f79_13w:aC P id m f79_13 sf st Q=aH (aC P id m f79_14) [2,3,4] [2,3,4] sf st Q:=rfl
abbrev f79_1:AC:=.seq (.ops [2,3,4] [2,3,4] [⟨none,.boxL 2 10 (.r 0)⟩,⟨none,.boxL 3 4 (.r 1)⟩,⟨none,.newL 4 [(.lit (.int .i64 0)),(.lit (.string ⟨#[]⟩)),(.lit (.int .i64 0)),(.lit (.int .i64 0)),(.lit (.int .i64 0)),(.lit (.int .i64 0)),(.lit (.int .u64 0)),(.lit (.slice none 0 0)),(.lit (.int .i64 0)),(.lit (.int .i64 0))]⟩]) (.seq (.seq (.ops [2,3,4,10] [2,3,4] [vd 5 3 2,vl 6 5,⟨none,.len (some 7) .sl (.r 6)⟩,vd 8 2 4,vl 9 8,⟨none,.bin (some 10) .num .gtr (.r 7) (.r 9)⟩]) (.cond (.r 10) (.seq (.ops [2,4] [2,4] [vd 11 2 8,vl 12 11,vb 13 .add 12 1,vd 14 2 8,⟨none,.store 1 (.r 14) (.r 13)⟩]) (.seq (.ops [4] [4] [⟨none,.load (some 15) (.r 2) (some 10)⟩,⟨none,.store 10 (.r 4) (.r 15)⟩]) .ret)) .skip)) (.seq (.block 0 f79_13) (.seq (.draw [2,4] [2,4] [] [vd 46 2 7,vl 47 46,⟨none,.app (some 48) 4 56 (.c (.lit (.slice none 0 0))) (.r 47)⟩,⟨none,.load (some 49) (.r 3) (some 4)⟩,⟨none,.bsl (some 50) 4 1 (.agg [(.lit (.string ⟨#[]⟩)),(.lit (.int .i64 0)),(.lit (.slice none 0 0)),(.lit (.int .u64 0))]) [(0,(.r 49))]⟩] [⟨none,.appS 51 48 4 56 (.r 50)⟩,vd 52 2 7,⟨none,.store 1 (.r 52) (.r 51)⟩]) (.seq (.ops [4] [4] [⟨none,.load (some 53) (.r 2) (some 10)⟩,⟨none,.store 10 (.r 4) (.r 53)⟩]) .ret))))
def c_f79:AFun:=⟨54,[.cell 4 (some 10)],f79_1⟩
theorem k_f79:kX x_f79 79 c_f79:=by delta kX;kernel_rfl
theorem e_f79:eX 79:=by delta eX;kernel_rfl

def n_f80:Nat:=80
def x_f80:=xX 22 [0,1,4,5,6,8,9,11,12,15,18,19,21] [] [(2,[1,2],[2]),(12,[1,2,5],[2]),(26,[1,2,5],[2]),(208,[1,2,5,10],[2]),(419,[],[]),(840,[1,2,5,20],[2]),(3364,[4],[]),(211,[1,2,5],[2]),(14,[4],[])]
abbrev f80_8:AC:=.seq (.seq (.ops [1,2,5,10] [2] [vv 6 5,vd 7 2 2,vl 8 7,⟨none,.len (some 9) .sl (.r 8)⟩,⟨none,.bin (some 10) .num .lss (.r 6) (.r 9)⟩]) (.cond (.r 10) .skip (.exit [] [] 0))) (.seq (.block 1 (.seq (.ops [1,2,5,20] [2] [vd 13 2 2,vl 14 13,vv 15 5,⟨none,.ixS (some 16) (.r 14) (.r 15) 3⟩,vd 17 16 0,vl 18 17,vv 19 1,⟨none,.bin (some 20) .num .eql (.r 18) (.r 19)⟩]) (.cond (.r 20) (.seq (.ops [4] [] [vv 21 5,vo 4 21]) .ret) .skip))) (.ops [1,2,5] [2] [vv 11 5,vb 12 .add 11 1,vo 5 12]))
def f80_7:AC:=.loop [1,2,5] [2] f80_8
theorem f80_7w:aC P id m f80_7 sf st Q=aH (aC P id m f80_8) [1,2,5] [2] sf st Q:=rfl
abbrev f80_1:AC:=.seq (.ops [1,2] [2] [⟨none,.boxL 2 3 (.r 0)⟩,⟨none,.mv (some 4) (.c (.lit (.int .i64 0)))⟩]) (.seq (.seq (.ops [1,2,5] [2] [⟨none,.mv (some 5) (.c (.lit (.int .i64 0)))⟩]) (.block 0 f80_7)) (.seq (.ops [4] [] [⟨none,.mv (some 4) (.c (.lit (.int .i64 (-1))))⟩]) .ret))
def c_f80:AFun:=⟨22,[.tmp 4],f80_1⟩
theorem k_f80:kX x_f80 80 c_f80:=by delta kX;kernel_rfl
theorem e_f80:eX 80:=by delta eX;kernel_rfl

def n_f81:Nat:=81
def x_f81:=xX 26 [0,1,10,12,16,18,19,21,22,23,24,25] [] [(2,[1,2,4,5],[2,4,5]),(6,[1,2,4,5,6],[2,4,5,6]),(14,[1,2,4,5,6,7],[2,4,5,6,7]),(30,[1,2,4,5,6,7],[2,4,5,6,7]),(62,[4,5],[4,5])]
abbrev f81_1:AC:=.seq (.ops [1,2,4,5] [2,4,5] [⟨none,.boxL 2 3 (.r 0)⟩,⟨none,.newL 4 [(.lit (.int .u64 0)),(.lit (.slice none 0 0)),(.lit (.slice none 0 0))]⟩,⟨none,.newL 5 [(.lit (.string ⟨#[]⟩)),(.lit (.int .i64 0)),(.lit (.slice none 0 0)),(.lit (.int .u64 0))]⟩]) (.seq (.ops [1,2,4,5,6] [2,4,5,6] [vd 8 2 1,vl 9 8,vv 10 1,⟨none,.ixS (some 11) (.r 9) (.r 10) 10⟩,⟨none,.load (some 12) (.r 11) (some 10)⟩,⟨none,.newL 6 [(.lit (.int .i64 0)),(.lit (.string ⟨#[]⟩)),(.lit (.int .i64 0)),(.lit (.int .i64 0)),(.lit (.int .i64 0)),(.lit (.int .i64 0)),(.lit (.int .u64 0)),(.lit (.slice none 0 0)),(.lit (.int .i64 0)),(.lit (.int .i64 0))]⟩,⟨none,.store 10 (.r 6) (.r 12)⟩]) (.seq (.ops [1,2,4,5,6,7] [2,4,5,6,7] [vd 13 6 7,vl 14 13,⟨none,.ixS (some 15) (.r 14) (.c (.lit (.int .i64 0))) 4⟩,⟨none,.load (some 16) (.r 15) (some 4)⟩,⟨none,.newL 7 [(.lit (.string ⟨#[]⟩)),(.lit (.int .i64 0)),(.lit (.slice none 0 0)),(.lit (.int .u64 0))]⟩,⟨none,.store 4 (.r 7) (.r 16)⟩]) (.seq (.ops [1,2,4,5,6,7] [2,4,5,6,7] [vd 17 6 7,⟨none,.loadOwn 18 (.r 17)⟩,⟨none,.sliOwn 19 18 (.c (.lit (.int .i64 1))) 4⟩,vd 20 6 7,⟨none,.store 1 (.r 20) (.r 19)⟩]) (.seq (.draw [4,5] [4,5] [4] [⟨none,.load (some 21) (.r 2) (some 3)⟩,vv 22 1,⟨none,.load (some 23) (.r 6) (some 10)⟩,⟨none,.call (some 24) true (.f 78) [(.r 21),(.r 22),(.r 23)]⟩,⟨none,.load (some 25) (.r 7) (some 4)⟩,⟨none,.store 3 (.r 4) (.r 24)⟩] [⟨none,.store 4 (.r 5) (.r 25)⟩]) .ret))))
def c_f81:AFun:=⟨26,[.cell 4 (some 3),.cell 5 (some 4)],f81_1⟩
theorem k_f81:kX x_f81 81 c_f81:=by delta kX;kernel_rfl
theorem e_f81:eX 81:=by delta eX;kernel_rfl

def n_f83:Nat:=83
def x_f83:=xX 8 [0,1,4,5,6,7] [] [(2,[0,1],[]),(6,[4],[])]
abbrev f83_1:AC:=.seq (.ops [0,1] [] [⟨none,.mv (some 4) (.c (.lit (.int .i64 0)))⟩]) (.seq (.ops [4] [] [vv 5 0,vv 6 1,⟨none,.x (some 7) (.cmpS (.r 5) (.r 6))⟩,vo 4 7]) .ret)
def c_f83:AFun:=⟨8,[.tmp 4],f83_1⟩
theorem k_f83:kX x_f83 83 c_f83:=by delta kX;kernel_rfl
theorem e_f83:eX 83:=by delta eX;kernel_rfl

def n_f84:Nat:=84
def x_f84:=xX 6 [0,2,3,4,5] [] [(2,[0],[]),(6,[2],[])]
abbrev f84_1:AC:=.seq (.ops [0] [] [⟨none,.mv (some 2) (.c (.lit (.bool false)))⟩]) (.seq (.ops [2] [] [vv 3 0,vv 4 0,⟨none,.bin (some 5) .num .neq (.r 3) (.r 4)⟩,vo 2 5]) .ret)
def c_f84:AFun:=⟨6,[.tmp 2],f84_1⟩
theorem k_f84:kX x_f84 84 c_f84:=by delta kX;kernel_rfl
theorem e_f84:eX 84:=by delta eX;kernel_rfl

def n_f85:Nat:=85
def x_f85:=xX 17 [0,2,3,4,5,6,7,8,9,10,11,12,13,14,15,16] [] [(2,[0],[]),(6,[2],[])]
abbrev f85_1:AC:=.seq (.ops [0] [] [⟨none,.mv (some 2) (.c (.lit (.bool false)))⟩]) (.seq (.ops [2] [] [vv 3 0,⟨none,.bin (some 4) .num .geq (.r 3) (.c (.lit (.int .u8 97)))⟩,vv 5 4,⟨some (5,true),.mv (some 6) (.r 0)⟩,⟨some (5,true),.bin (some 7) .num .leq (.r 6) (.c (.lit (.int .u8 122)))⟩,⟨none,.pick (some 8) (.r 5) (.r 7) (.c (.lit (.bool false)))⟩,vv 9 8,⟨some (9,false),.mv (some 10) (.r 0)⟩,⟨some (9,false),.bin (some 11) .num .geq (.r 10) (.c (.lit (.int .u8 65)))⟩,⟨some (9,false),.mv (some 12) (.r 11)⟩,⟨some (12,true),.mv (some 13) (.r 0)⟩,⟨some (12,true),.bin (some 14) .num .leq (.r 13) (.c (.lit (.int .u8 90)))⟩,⟨some (9,false),.pick (some 15) (.r 12) (.r 14) (.c (.lit (.bool false)))⟩,⟨none,.pick (some 16) (.r 9) (.c (.lit (.bool true))) (.r 15)⟩,vo 2 16]) .ret)
def c_f85:AFun:=⟨17,[.tmp 2],f85_1⟩
theorem k_f85:kX x_f85 85 c_f85:=by delta kX;kernel_rfl
theorem e_f85:eX 85:=by delta eX;kernel_rfl

def n_f86:Nat:=86
def x_f86:=xX 22 [0,2,3,4,5,7,8,10,11,12,15,18,19,20,21] [] [(2,[1],[1]),(6,[1,3],[1]),(28,[1,3,4],[1]),(58,[1,3,4],[1]),(464,[1,3,4,9],[1]),(931,[3],[]),(932,[1,3,4],[1]),(467,[1,3,4],[1]),(30,[2],[])]
abbrev f86_10:AC:=.seq (.seq (.ops [1,3,4,9] [1] [vv 5 4,vd 6 1 7,vl 7 6,⟨none,.len (some 8) .sl (.r 7)⟩,⟨none,.bin (some 9) .num .lss (.r 5) (.r 8)⟩]) (.cond (.r 9) .skip (.exit [3] [] 0))) (.seq (.block 1 (.ops [1,3,4] [1] [vv 12 3,vd 13 1 7,vl 14 13,vv 15 4,⟨none,.ixS (some 16) (.r 14) (.r 15) 4⟩,vd 17 16 2,vl 18 17,⟨none,.len (some 19) .sl (.r 18)⟩,⟨none,.bin (some 20) .num .add (.r 12) (.r 19)⟩,vo 3 20])) (.ops [1,3,4] [1] [vv 10 4,vb 11 .add 10 1,vo 4 11]))
def f86_9:AC:=.loop [1,3,4] [1] f86_10
theorem f86_9w:aC P id m f86_9 sf st Q=aH (aC P id m f86_10) [1,3,4] [1] sf st Q:=rfl
abbrev f86_1:AC:=.seq (.ops [1] [1] [⟨none,.boxL 1 10 (.r 0)⟩,⟨none,.mv (some 2) (.c (.lit (.int .i64 0)))⟩]) (.seq (.ops [1,3] [1] [⟨none,.mv (some 3) (.c (.lit (.int .i64 0)))⟩]) (.seq (.seq (.ops [1,3,4] [1] [⟨none,.mv (some 4) (.c (.lit (.int .i64 0)))⟩]) (.block 0 f86_9)) (.seq (.ops [2] [] [vv 21 3,vo 2 21]) .ret)))
def c_f86:AFun:=⟨22,[.tmp 2],f86_1⟩
theorem k_f86:kX x_f86 86 c_f86:=by delta kX;kernel_rfl
theorem e_f86:eX 86:=by delta eX;kernel_rfl

def n_f1053:Nat:=53
def x_f1053:=xX 8 [0,2,3,5,6,7] [5,7] [(2,[0],[]),(12,[0,4],[]),(52,[2],[]),(14,[2],[])]
abbrev f1053_1:AC:=.seq (.ops [0] [] [⟨none,.mv (some 2) (.c (.lit (.slice none 0 0)))⟩]) (.seq (.seq (.ops [0,4] [] [vv 3 0,⟨none,.x (some 4) (.nilU .eql (.r 3) (.c (.lit (.slice none 0 0))))⟩]) (.cond (.r 4) (.seq (.ops [2] [] [⟨none,.mv (some 2) (.c (.lit (.slice none 0 0)))⟩]) .ret) .skip)) (.seq (.ops [2] [] [⟨none,.x (some 5) (.mksB 1 1 (.lit (.int .u8 0)) (.c (.lit (.int .i64 0))) (.c (.lit (.int .i64 0))))⟩,vv 6 0,⟨none,.x (some 7) (.appB (.r 5) 1 1 (.r 6))⟩,vo 2 7]) .ret))
def c_f1053:AFun:=⟨8,[.tmp 2],f1053_1⟩
theorem k_f1053:kX x_f1053 53 c_f1053:=by delta kX;kernel_rfl
theorem e_f1053:eX 53:=by delta eX;kernel_rfl

def tab(q:Nat):Option AFun :=
 if q=6 then some c_f6 else
 if q=8 then some c_f8 else
 if q=9 then some c_f9 else
 if q=10 then some c_f10 else
 if q=11 then some c_f11 else
 if q=12 then some c_f12 else
 if q=13 then some c_f13 else
 if q=14 then some c_f14 else
 if q=15 then some c_f15 else
 if q=16 then some c_f16 else
 if q=17 then some c_f17 else
 if q=18 then some c_f18 else
 if q=20 then some c_f20 else
 if q=21 then some c_f21 else
 if q=22 then some c_f22 else
 if q=23 then some c_f23 else
 if q=24 then some c_f24 else
 if q=25 then some c_f25 else
 if q=26 then some c_f26 else
 if q=27 then some c_f27 else
 if q=28 then some c_f28 else
 if q=29 then some c_f29 else
 if q=30 then some c_f30 else
 if q=31 then some c_f31 else
 if q=32 then some c_f32 else
 if q=33 then some c_f33 else
 if q=34 then some c_f34 else
 if q=35 then some c_f35 else
 if q=36 then some c_f36 else
 if q=37 then some c_f37 else
 if q=38 then some c_f38 else
 if q=39 then some c_f39 else
 if q=40 then some c_f40 else
 if q=41 then some c_f41 else
 if q=42 then some c_f42 else
 if q=43 then some c_f43 else
 if q=44 then some c_f44 else
 if q=45 then some c_f45 else
 if q=46 then some c_f46 else
 if q=47 then some c_f47 else
 if q=48 then some c_f48 else
 if q=49 then some c_f49 else
 if q=50 then some c_f50 else
 if q=51 then some c_f51 else
 if q=52 then some c_f52 else
 if q=53 then some c_f53 else
 if q=54 then some c_f54 else
 if q=55 then some c_f55 else
 if q=56 then some c_f56 else
 if q=57 then some c_f57 else
 if q=58 then some c_f58 else
 if q=59 then some c_f59 else
 if q=60 then some c_f60 else
 if q=61 then some c_f61 else
 if q=62 then some c_f62 else
 if q=63 then some c_f63 else
 if q=64 then some c_f64 else
 if q=65 then some c_f65 else
 if q=66 then some c_f66 else
 if q=67 then some c_f67 else
 if q=68 then some c_f68 else
 if q=69 then some c_f69 else
 if q=70 then some c_f70 else
 if q=71 then some c_f71 else
 if q=72 then some c_f72 else
 if q=73 then some c_f73 else
 if q=74 then some c_f74 else
 if q=75 then some c_f75 else
 if q=76 then some c_f76 else
 if q=77 then some c_f77 else
 if q=78 then some c_f78 else
 if q=79 then some c_f79 else
 if q=80 then some c_f80 else
 if q=81 then some c_f81 else
 if q=83 then some c_f83 else
 if q=84 then some c_f84 else
 if q=85 then some c_f85 else
 if q=86 then some c_f86 else
 none
theorem tabOk:TabOk Go.Proofs.Try.prog id tab :=
 ae e_f6 k_f6 rfl (
 ae e_f8 k_f8 rfl (
 ae e_f9 k_f9 rfl (
 ae e_f10 k_f10 rfl (
 ae e_f11 k_f11 rfl (
 ae e_f12 k_f12 rfl (
 ae e_f13 k_f13 rfl (
 ae e_f14 k_f14 rfl (
 ae e_f15 k_f15 rfl (
 ae e_f16 k_f16 rfl (
 ae e_f17 k_f17 rfl (
 ae e_f18 k_f18 rfl (
 ae e_f20 k_f20 rfl (
 ae e_f21 k_f21 rfl (
 ae e_f22 k_f22 rfl (
 ae e_f23 k_f23 rfl (
 ae e_f24 k_f24 rfl (
 ae e_f25 k_f25 rfl (
 ae e_f26 k_f26 rfl (
 ae e_f27 k_f27 rfl (
 ae e_f28 k_f28 rfl (
 ae e_f29 k_f29 rfl (
 ae e_f30 k_f30 rfl (
 ae e_f31 k_f31 rfl (
 ae e_f32 k_f32 rfl (
 ae e_f33 k_f33 rfl (
 ae e_f34 k_f34 rfl (
 ae e_f35 k_f35 rfl (
 ae e_f36 k_f36 rfl (
 ae e_f37 k_f37 rfl (
 ae e_f38 k_f38 rfl (
 ae e_f39 k_f39 rfl (
 ae e_f40 k_f40 rfl (
 ae e_f41 k_f41 rfl (
 ae e_f42 k_f42 rfl (
 ae e_f43 k_f43 rfl (
 ae e_f44 k_f44 rfl (
 ae e_f45 k_f45 rfl (
 ae e_f46 k_f46 rfl (
 ae e_f47 k_f47 rfl (
 ae e_f48 k_f48 rfl (
 ae e_f49 k_f49 rfl (
 ae e_f50 k_f50 rfl (
 ae e_f51 k_f51 rfl (
 ae e_f52 k_f52 rfl (
 ae e_f53 k_f53 rfl (
 ae e_f54 k_f54 rfl (
 ae e_f55 k_f55 rfl (
 ae e_f56 k_f56 rfl (
 ae e_f57 k_f57 rfl (
 ae e_f58 k_f58 rfl (
 ae e_f59 k_f59 rfl (
 ae e_f60 k_f60 rfl (
 ae e_f61 k_f61 rfl (
 ae e_f62 k_f62 rfl (
 ae e_f63 k_f63 rfl (
 ae e_f64 k_f64 rfl (
 ae e_f65 k_f65 rfl (
 ae e_f66 k_f66 rfl (
 ae e_f67 k_f67 rfl (
 ae e_f68 k_f68 rfl (
 ae e_f69 k_f69 rfl (
 ae e_f70 k_f70 rfl (
 ae e_f71 k_f71 rfl (
 ae e_f72 k_f72 rfl (
 ae e_f73 k_f73 rfl (
 ae e_f74 k_f74 rfl (
 ae e_f75 k_f75 rfl (
 ae e_f76 k_f76 rfl (
 ae e_f77 k_f77 rfl (
 ae e_f78 k_f78 rfl (
 ae e_f79 k_f79 rfl (
 ae e_f80 k_f80 rfl (
 ae e_f81 k_f81 rfl (
 ae e_f83 k_f83 rfl (
 ae e_f84 k_f84 rfl (
 ae e_f85 k_f85 rfl (
 ae e_f86 k_f86 rfl (
 tabOk_nil))))))))))))))))))))))))))))))))))))))))))))))))))))))))))))))))))))))))))))))
theorem hmix:Go.Proofs.Try.prog.follows .mixedOrders=true:=by kernel_rfl
end
end Go.Fx.YtgmeefljgbaanaaFx

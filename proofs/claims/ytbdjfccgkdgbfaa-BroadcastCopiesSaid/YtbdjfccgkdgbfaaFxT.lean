/- The functions that the statement reaches, resolved: printed by a program of ours from the translated code; each is checked here. -/
import Derived.Test.YtbdjfccgkdgbfaaFxS
set_option maxRecDepth 100000
set_option maxHeartbeats 0
namespace Go.Fx.YtbdjfccgkdgbfaaFx
open Go Go.Fx
section
variable (P:Program) (m:Bool) (sf:Sf) (st:St) (Q:Exit→Sf→St→Prop)
def n_f41:Nat:=41
def x_f41:=xX 16 [0,2,3,8,12,13,14,15] [13] [(2,[0],[]),(12,[0,4],[]),(52,[2],[]),(14,[2],[])]
abbrev f41_4:AC:=.seq (.ops [0,4] [] [vv 3 0,⟨none,.call (some 4) false (.f 59) [(.r 3)]⟩]) (.cond (.r 4) (.seq (.ops [2] [] [⟨none,.mv (some 2) (.c (.lit (.pointer none)))⟩]) .ret) .skip)
abbrev f41_10:AC:=.drawM [2] [] [vv 5 0,vn 6 5,vd 7 6 0,⟨none,.load (some 8) (.r 7) (some 3)⟩,vv 9 0,vn 10 9,vd 11 10 3,vl 12 11] (some 13) (.f 60) [(.r 12)] [] [⟨none,.bst (some 14) [(0,3),(3,1)] (.agg [(.lit (.int .u64 0)),(.lit (.int .u64 0)),(.lit (.int .u64 0)),(.lit (.map none))]) [(0,(.r 8)),(1,(.r 13))]⟩,⟨none,.boxB 15 4 (.r 14)⟩,vo 2 15]
abbrev f41_1:AC:=.seq (.ops [0] [] [⟨none,.mv (some 2) (.c (.lit (.pointer none)))⟩]) (.seq f41_4 (.seq f41_10 .ret))
def c_f41:AFun:=⟨16,[.tmp 2],f41_1⟩
theorem k_f41:kX x_f41 41 c_f41:=by delta kX; kernel_rfl
theorem e_f41:eX 41:=by delta eX; kernel_rfl

def n_f42:Nat:=42
def x_f42:=xX 8 [0,2,3,5,6,7] [] [(2,[0],[]),(12,[0,4],[]),(52,[2],[]),(14,[2],[])]
abbrev f42_4:AC:=.seq (.ops [0,4] [] [vv 3 0,⟨none,.x (some 4) (.nilU .eql (.r 3) (.c (.lit (.slice none 0 0))))⟩]) (.cond (.r 4) (.seq (.ops [2] [] [⟨none,.mv (some 2) (.c (.lit (.slice none 0 0)))⟩]) .ret) .skip)
abbrev f42_1:AC:=.seq (.ops [0] [] [⟨none,.mv (some 2) (.c (.lit (.slice none 0 0)))⟩]) (.seq f42_4 (.seq (.ops [2] [] [⟨none,.bsl (some 5) 1 0 (.lit (.int .u8 0)) []⟩,vv 6 0,⟨none,.appS 7 5 1 1 (.r 6)⟩,vo 2 7]) .ret))
def c_f42:AFun:=⟨8,[.tmp 2],f42_1⟩
theorem k_f42:kX x_f42 42 c_f42:=by delta kX; kernel_rfl
theorem e_f42:eX 42:=by delta eX; kernel_rfl

def n_f43:Nat:=43
def x_f43:=xX 26 [0,1,4,5,6,7,8,9,11,12,13,15,16,18,20,22,24] [] [(2,[0,1],[]),(12,[0,1,10],[]),(52,[4],[]),(28,[0,1,5],[]),(58,[0,1,5],[]),(464,[0,1,5,14],[]),(931,[],[]),(1864,[0,1,5,25],[]),(7460,[4],[]),(467,[0,1,5],[]),(30,[4],[])]
abbrev f43_5:AC:=.ops [0,1,10] [] [vv 6 0,⟨none,.len (some 7) .sl (.r 6)⟩,vv 8 1,⟨none,.len (some 9) .sl (.r 8)⟩,⟨none,.bin (some 10) .num .neq (.r 7) (.r 9)⟩]
abbrev f43_15:AC:=.seq (.ops [0,1,5,14] [] [vv 11 5,vv 12 0,⟨none,.len (some 13) .sl (.r 12)⟩,⟨none,.bin (some 14) .num .lss (.r 11) (.r 13)⟩]) (.cond (.r 14) .skip (.exit [] [] 0))
abbrev f43_21:AC:=.draw [0,1,5,25] [] [] [vv 17 0,vv 18 5,⟨none,.ixS (some 19) (.r 17) (.r 18) 4⟩,⟨none,.load (some 20) (.r 19) (some 4)⟩,vv 21 1,vv 22 5,⟨none,.ixS (some 23) (.r 21) (.r 22) 4⟩,⟨none,.load (some 24) (.r 23) (some 4)⟩] [⟨none,.bin (some 25) (.agg (.field 0 1 .int (.field 1 1 .int (.field 2 1 .int (.field 3 1 .int .tt))))) .neq (.r 20) (.r 24)⟩]
abbrev f43_18:AC:=.seq (.block 1 (.seq f43_21 (.cond (.r 25) (.seq (.ops [4] [] [⟨none,.mv (some 4) (.c (.lit (.bool false)))⟩]) .ret) .skip))) (.ops [0,1,5] [] [vv 15 5,vb 16 .add 15 1,vo 5 16])
abbrev f43_14:AC:=.seq f43_15 f43_18
def f43_13:AC:=.loop [0,1,5] [] f43_14
theorem f43_13w:aC P id m f43_13 sf st Q = ar (aC P id m f43_14) [0,1,5] [] sf st Q:=rfl
abbrev f43_9:AC:=.seq (.seq (.ops [0,1,5] [] [⟨none,.mv (some 5) (.c (.lit (.int .i64 0)))⟩]) (.block 0 f43_13)) (.seq (.ops [4] [] [⟨none,.mv (some 4) (.c (.lit (.bool true)))⟩]) .ret)
abbrev f43_1:AC:=.seq (.ops [0,1] [] [⟨none,.mv (some 4) (.c (.lit (.bool false)))⟩]) (.seq (.seq f43_5 (.cond (.r 10) (.seq (.ops [4] [] [⟨none,.mv (some 4) (.c (.lit (.bool false)))⟩]) .ret) .skip)) f43_9)
def c_f43:AFun:=⟨26,[.tmp 4],f43_1⟩
theorem k_f43:kX x_f43 43 c_f43:=by delta kX; kernel_rfl
theorem e_f43:eX 43:=by delta eX; kernel_rfl

def n_f44:Nat:=44
def x_f44:=xX 10 [0,2,3,8,9] [] [(2,[0],[]),(12,[0,4],[]),(52,[2],[]),(14,[2],[])]
abbrev f44_4:AC:=.seq (.ops [0,4] [] [vv 3 0,⟨none,.call (some 4) false (.f 59) [(.r 3)]⟩]) (.cond (.r 4) (.seq (.ops [2] [] [⟨none,.mv (some 2) (.c (.lit (.int .i64 0)))⟩]) .ret) .skip)
abbrev f44_1:AC:=.seq (.ops [0] [] [⟨none,.mv (some 2) (.c (.lit (.int .i64 0)))⟩]) (.seq f44_4 (.seq (.ops [2] [] [vv 5 0,vn 6 5,vd 7 6 3,vl 8 7,⟨none,.len (some 9) .mp (.r 8)⟩,vo 2 9]) .ret))
def c_f44:AFun:=⟨10,[.tmp 2],f44_1⟩
theorem k_f44:kX x_f44 44 c_f44:=by delta kX; kernel_rfl
theorem e_f44:eX 44:=by delta eX; kernel_rfl

def n_f45:Nat:=45
def x_f45:=xX 13 [0,1,2,5,6,7,8,9,10,12] [] [(2,[0,1,5],[]),(6,[0,1,5,7],[]),(14,[7],[]),(30,[6],[])]
abbrev f45_2:AC:=.ops [0,1,5] [] [⟨none,.boxB 5 1 (.r 2)⟩,⟨none,.mv (some 6) (.c (.lit (.bool false)))⟩]
abbrev f45_5:AC:=.seq (.ops [7] [] [vv 8 0,vv 9 1,⟨none,.mkfn (some 10) 62 [] [(.r 5),(.r 7)]⟩,⟨none,.call (some 11) false (.f 61) [(.r 8),(.r 9),(.r 10)]⟩]) (.seq (.ops [6] [] [vl 12 7,vo 6 12]) .ret)
abbrev f45_3:AC:=.seq (.ops [0,1,5,7] [] [⟨none,.newB 7 [(.lit (.bool false))]⟩,⟨none,.store 1 (.r 7) (.c (.lit (.bool true)))⟩]) f45_5
def f62:AC:=.seq f45_2 f45_3
theorem f45_1e:SQ f62 f45_2 f45_3:=rfl
def c_f45:AFun:=⟨13,[.tmp 6],f62⟩
theorem k_f45:kX x_f45 45 c_f45:=by delta kX; kernel_rfl
theorem e_f45:eX 45:=by delta eX; kernel_rfl

def n_f46:Nat:=46
def x_f46:=xX 26 [0,1,2,6,8,9,10,11,12,14,15,16,19,20,21,22,23,25] [] [(2,[0,1,2,6],[]),(6,[2,6],[]),(14,[2,14,15,16],[]),(30,[2,14,15,16],[]),(120,[2,14,15,16,17],[]),(485,[],[]),(1944,[2,8,14,15,16],[]),(3890,[2,9,14,15,16],[]),(3891,[2,14,15,16],[]),(487,[2,14,15,16],[])]
abbrev f46_2:AC:=.ops [0,1,2,6] [] [⟨none,.newB 6 [(.lit (.slice none 0 0))]⟩]
abbrev f46_17:AC:=.seq (.ops [2,9,14,15,16] [] [vv 20 8,⟨none,.mkfn (some 21) 65 [(.r 20)] []⟩,vo 9 21]) (.ops [2,14,15,16] [] [vv 22 9,vv 23 2,⟨none,.call (some 24) false (.r 22) [(.r 23)]⟩])
abbrev f46_13:AC:=.seq (.block 1 (.seq (.ops [2,8,14,15,16] [] [⟨none,.ixS (some 18) (.r 14) (.r 16) 1⟩,vl 19 18,vo 8 19]) f46_17)) (.ops [2,14,15,16] [] [vb 25 .add 16 1,vv 16 25])
abbrev f46_9:AC:=.seq (.ops [2,14,15,16,17] [] [⟨none,.bin (some 17) .num .lss (.r 16) (.r 15)⟩]) (.seq (.cond (.r 17) .skip (.exit [] [] 0)) f46_13)
def f46_8:AC:=.loop [2,14,15,16] [] f46_9
theorem f46_8w:aC P id m f46_8 sf st Q = ar (aC P id m f46_9) [2,14,15,16] [] sf st Q:=rfl
abbrev f46_3:AC:=.seq (.ops [2,6] [] [vv 10 0,vv 11 1,⟨none,.mkfn (some 12) 64 [] [(.r 6)]⟩,⟨none,.call (some 13) false (.f 61) [(.r 10),(.r 11),(.r 12)]⟩]) (.seq (.ops [2,14,15,16] [] [vl 14 6,⟨none,.len (some 15) .sl (.r 14)⟩,⟨none,.mv (some 16) (.c (.lit (.int .i64 0)))⟩]) (.block 0 f46_8))
def f64:AC:=.seq f46_2 f46_3
theorem f46_1e:SQ f64 f46_2 f46_3:=rfl
def c_f46:AFun:=⟨26,[],f64⟩
theorem k_f46:kX x_f46 46 c_f46:=by delta kX; kernel_rfl
theorem e_f46:eX 46:=by delta eX; kernel_rfl

def n_f47:Nat:=47
def x_f47:=xX 97 [0,1,4,5,8,9,14,15,16,21,22,29,34,35,40,41,46,53,60,65,66,71,76,81,82,88,96] [] [(2,[0,1],[]),(24,[0,1,7],[]),(100,[4,5],[]),(102,[0,1,10],[]),(412,[4,5],[]),(14,[0,1],[]),(30,[0],[]),(124,[0,47],[]),(250,[0],[]),(502,[0,6],[6]),(1006,[0,6],[6]),(1007,[0],[]),(126,[0],[]),(254,[4,5],[])]
abbrev f47_10:AC:=.seq (.ops [0,1,10] [] [vv 11 0,vn 12 11,vd 13 12 3,vl 14 13,⟨none,.len (some 15) .mp (.r 14)⟩,vb 16 .geq 15 4096,vo 10 16]) (.cond (.r 10) (.seq (.ops [4,5] [] [⟨none,.mv (some 4) (.c (.lit (.int .u64 0)))⟩,⟨none,.mv (some 5) (.c (.lit (.int .i64 7)))⟩]) .ret) .skip)
abbrev f47_5:AC:=.seq (.ops [0,1,7] [] [vv 8 0,⟨none,.call (some 9) false (.f 59) [(.r 8)]⟩,vo 7 9]) (.cond (.r 7) (.seq (.ops [4,5] [] [⟨none,.mv (some 4) (.c (.lit (.int .u64 0)))⟩,⟨none,.mv (some 5) (.c (.lit (.int .i64 1)))⟩]) .ret) f47_10)
abbrev f47_16:AC:=.ops [0,1] [] [vv 17 0,vn 18 17,vd 19 18 0,vd 20 19 2,vl 21 20,⟨none,.bin (some 22) .num .add (.r 21) (.c (.lit (.int .u64 1)))⟩,vn 23 17,vd 24 23 0,vd 25 24 2,⟨none,.store 1 (.r 25) (.r 22)⟩]
abbrev f47_18:AC:=.draw [0] [] [] [vv 26 0,vn 27 26,vd 28 27 3,vl 29 28,vv 30 0,vn 31 30,vd 32 31 0,vd 33 32 2,vl 34 33,vv 35 1,vv 36 0,vn 37 36,vd 38 37 0,vd 39 38 1,vl 40 39,⟨none,.bst (some 41) [(0,1),(1,1),(2,1)] (.agg [(.lit (.int .i64 0)),(.lit (.int .u64 0)),(.lit (.int .u64 0))]) [(0,(.r 35)),(1,(.r 40))]⟩] [⟨none,.upd (.int .u64) (.r 29) (.r 34) (.r 41)⟩]
abbrev f47_25:AC:=.draw [0,6] [6] [6] [vv 57 0,vn 58 57,vd 59 58 3,vl 60 59,vv 61 0,vn 62 61,vd 63 62 0,vd 64 63 1,vl 65 64,⟨none,.lookup (some 66) (.int .u64) (.agg [(.lit (.int .i64 0)),(.lit (.int .u64 0)),(.lit (.int .u64 0))]) false (.r 60) (.r 65)⟩,⟨none,.newL 6 [(.lit (.int .i64 0)),(.lit (.int .u64 0)),(.lit (.int .u64 0))]⟩] [⟨none,.store 3 (.r 6) (.r 66)⟩]
abbrev f47_28:AC:=.draw [0] [] [] [vv 73 0,vn 74 73,vd 75 74 3,vl 76 75,vv 77 0,vn 78 77,vd 79 78 0,vd 80 79 1,vl 81 80,⟨none,.load (some 82) (.r 6) (some 3)⟩] [⟨none,.upd (.int .u64) (.r 76) (.r 81) (.r 82)⟩]
abbrev f47_22:AC:=.cond (.r 47) (.ops [0] [] [vv 48 0,vv 49 0,vn 50 49,vd 51 50 0,vd 52 51 2,vl 53 52,vn 54 48,vd 55 54 0,vd 56 55 0,⟨none,.store 1 (.r 56) (.r 53)⟩]) (.seq f47_25 (.seq (.ops [0,6] [6] [vv 67 0,vn 68 67,vd 69 68 0,vd 70 69 2,vl 71 70,vd 72 6 2,⟨none,.store 1 (.r 72) (.r 71)⟩]) f47_28))
abbrev f47_20:AC:=.seq (.ops [0,47] [] [vv 42 0,vn 43 42,vd 44 43 0,vd 45 44 1,vl 46 45,⟨none,.bin (some 47) .num .eql (.r 46) (.c (.lit (.int .u64 0)))⟩]) f47_22
abbrev f47_29:AC:=.seq (.ops [0] [] [vv 83 0,vv 84 0,vn 85 84,vd 86 85 0,vd 87 86 2,vl 88 87,vn 89 83,vd 90 89 0,vd 91 90 1,⟨none,.store 1 (.r 91) (.r 88)⟩]) (.seq (.ops [4,5] [] [vv 92 0,vn 93 92,vd 94 93 0,vd 95 94 2,vl 96 95,vo 4 96,⟨none,.mv (some 5) (.c (.lit (.int .i64 0)))⟩]) .ret)
abbrev f47_1:AC:=.seq (.ops [0,1] [] [⟨none,.mv (some 4) (.c (.lit (.int .u64 0)))⟩,⟨none,.mv (some 5) (.c (.lit (.int .i64 0)))⟩]) (.seq (.block 0 f47_5) (.seq f47_16 (.seq f47_18 (.seq f47_20 f47_29))))
def c_f47:AFun:=⟨97,[.tmp 4,.tmp 5],f47_1⟩
theorem k_f47:kX x_f47 47 c_f47:=by delta kX; kernel_rfl
theorem e_f47:eX 47:=by delta eX; kernel_rfl

def n_f48:Nat:=48
def x_f48:=xX 31 [0,2,3,4,6,7,13,14,18,23,24,25,30] [] [(2,[0],[]),(24,[0,5],[]),(100,[2,3,4],[]),(102,[0,8],[]),(412,[2,3,4],[]),(14,[2,3,4],[])]
abbrev f48_2:AC:=.ops [0] [] [⟨none,.mv (some 2) (.c (.lit (.int .i64 0)))⟩,⟨none,.mv (some 3) (.c (.lit (.int .u64 0)))⟩,⟨none,.mv (some 4) (.c (.lit (.int .i64 0)))⟩]
abbrev f48_9:AC:=.ops [2,3,4] [] [⟨none,.mv (some 2) (.c (.lit (.int .i64 0)))⟩,⟨none,.mv (some 3) (.c (.lit (.int .u64 0)))⟩,⟨none,.mv (some 4) (.c (.lit (.int .i64 1)))⟩]
abbrev f48_14:AC:=.ops [2,3,4] [] [⟨none,.mv (some 2) (.c (.lit (.int .i64 0)))⟩,⟨none,.mv (some 3) (.c (.lit (.int .u64 0)))⟩,⟨none,.mv (some 4) (.c (.lit (.int .i64 9)))⟩]
abbrev f48_10:AC:=.seq (.ops [0,8] [] [vv 9 0,vn 10 9,vd 11 10 0,vd 12 11 0,vl 13 12,⟨none,.bin (some 14) .num .eql (.r 13) (.c (.lit (.int .u64 0)))⟩,vo 8 14]) (.cond (.r 8) (.seq f48_14 .ret) .skip)
abbrev f48_16:AC:=.draw [2,3,4] [] [] [vv 15 0,vn 16 15,vd 17 16 3,vl 18 17,vv 19 0,vn 20 19,vd 21 20 0,vd 22 21 0,vl 23 22,⟨none,.lookup (some 24) (.int .u64) (.agg [(.lit (.int .i64 0)),(.lit (.int .u64 0)),(.lit (.int .u64 0))]) false (.r 18) (.r 23)⟩,⟨none,.field (some 25) (.r 24) 0 none⟩,vv 26 0,vn 27 26,vd 28 27 0,vd 29 28 0,vl 30 29,vv 2 25] [vo 3 30,⟨none,.mv (some 4) (.c (.lit (.int .i64 0)))⟩]
abbrev f48_3:AC:=.seq (.block 0 (.seq (.ops [0,5] [] [vv 6 0,⟨none,.call (some 7) false (.f 59) [(.r 6)]⟩,vo 5 7]) (.cond (.r 5) (.seq f48_9 .ret) f48_10))) (.seq f48_16 .ret)
abbrev f48_1:AC:=.seq f48_2 f48_3
def c_f48:AFun:=⟨31,[.tmp 2,.tmp 3,.tmp 4],f48_1⟩
theorem k_f48:kX x_f48 48 c_f48:=by delta kX; kernel_rfl
theorem e_f48:eX 48:=by delta eX; kernel_rfl

def n_f49:Nat:=49
def x_f49:=xX 22 [0,2,3,4,5,6,7,8,9,10,11,12,13,14,16,17,19,20,21] [] [(2,[0],[]),(6,[0,5,6,7],[]),(28,[0,5,6,7,15],[]),(58,[5,6,7],[]),(30,[2,3,4],[])]
abbrev f49_2:AC:=.ops [0] [] [⟨none,.mv (some 2) (.c (.lit (.int .i64 0)))⟩,⟨none,.mv (some 3) (.c (.lit (.int .u64 0)))⟩,⟨none,.mv (some 4) (.c (.lit (.int .i64 0)))⟩]
abbrev f49_6:AC:=.seq (.ops [0,5,6,7,15] [] [vv 14 7,vb 15 .eql 14 0]) (.cond (.r 15) (.ops [5,6,7] [] [vv 16 0,vv 17 6,⟨none,.call (some 18) false (.f 51) [(.r 16),(.r 17)]⟩]) .skip)
abbrev f49_3:AC:=.seq (.ops [0,5,6,7] [] [vv 9 0,⟨none,.call (some 10) false (.f 48) [(.r 9)]⟩,vv 8 10,ve 11 8 0,ve 12 8 1,ve 13 8 2,vo 5 11,vo 6 12,vo 7 13]) (.seq f49_6 (.seq (.ops [2,3,4] [] [vv 19 5,vv 20 6,vv 21 7,vo 2 19,vo 3 20,vo 4 21]) .ret))
abbrev f49_1:AC:=.seq f49_2 f49_3
def c_f49:AFun:=⟨22,[.tmp 2,.tmp 3,.tmp 4],f49_1⟩
theorem k_f49:kX x_f49 49 c_f49:=by delta kX; kernel_rfl
theorem e_f49:eX 49:=by delta eX; kernel_rfl

def n_f50:Nat:=50
def x_f50:=xX 41 [2,5,7,11,12,13,14,15,19,22,23,24,27,28,29,30,31,32,36,37,40] [30] [(2,[0],[]),(6,[0,3],[]),(14,[0,5],[]),(30,[5],[]),(62,[2],[])]
abbrev f50_4:AC:=.ops [0,3] [] [vv 8 0,vn 9 8,vd 10 9 2,vl 11 10,⟨none,.call (some 12) false (.f 66) [(.r 11),(.c (.lit (.int .i64 2)))]⟩,vv 7 12,ve 13 7 0,ve 14 7 1,vo 3 13,vo 4 14]
abbrev f50_6:AC:=.drawM [0,5] [] [vv 16 0,vn 17 16,vd 18 17 2,vl 19 18,vv 20 3,⟨none,.ixS (some 21) (.r 20) (.c (.lit (.int .i64 0))) 1⟩,vl 22 21,⟨none,.conv (some 23) (.int .i64) (.r 22)⟩,⟨none,.bin (some 24) .num .shl (.r 23) (.c (.lit (.int .u64 8)))⟩,vv 25 3,⟨none,.ixS (some 26) (.r 25) (.c (.lit (.int .i64 1))) 1⟩,vl 27 26,⟨none,.conv (some 28) (.int .i64) (.r 27)⟩,⟨none,.bin (some 29) .num .or (.r 24) (.r 28)⟩] (some 30) (.f 66) [(.r 19),(.r 29)] [(true,vv 15 30),(true,ve 31 15 0),(true,ve 32 15 1),(true,vv 5 31)] [vo 6 32]
abbrev f50_7:AC:=.seq (.ops [5] [] [vv 33 0,vn 34 33,vd 35 34 3,vl 36 35,vb 37 .sub 36 1,vn 38 33,vd 39 38 3,⟨none,.store 1 (.r 39) (.r 37)⟩]) (.seq (.ops [2] [] [vv 40 5,vo 2 40]) .ret)
abbrev f50_1:AC:=.seq (.ops [0] [] [⟨none,.mv (some 2) (.c (.lit (.slice none 0 0)))⟩]) (.seq f50_4 (.seq f50_6 f50_7))
def c_f50:AFun:=⟨41,[.tmp 2],f50_1⟩
theorem k_f50:kX x_f50 50 c_f50:=by delta kX; kernel_rfl
theorem e_f50:eX 50:=by delta eX; kernel_rfl

def n_f51:Nat:=51
def x_f51:=xX 82 [0,1,4,5,7,10,12,16,17,18,19,20,21,26,27,29,33,40,42,43,45,50,52,53,55,59,66,68,69,71,76,78,79,81] [] [(2,[0,1],[]),(12,[0,1,11],[]),(52,[4,5],[]),(14,[0,1,6,7],[6]),(60,[0,1,6,22],[6]),(244,[4,5],[]),(62,[0,6],[6]),(252,[0,6,30],[6]),(506,[0,6],[6]),(1014,[0,6,8],[6,8]),(2030,[0,6,8],[6,8]),(2031,[0,6],[6]),(508,[0,6,56],[6]),(1018,[6],[6]),(2038,[0,6,9],[6,9]),(4078,[0,6,9],[6,9]),(4079,[6],[6]),(510,[4,5],[])]
abbrev f51_4:AC:=.seq (.ops [0,1,11] [] [vv 10 0,⟨none,.call (some 11) false (.f 59) [(.r 10)]⟩]) (.cond (.r 11) (.seq (.ops [4,5] [] [⟨none,.mv (some 4) (.c (.lit (.int .i64 0)))⟩,⟨none,.mv (some 5) (.c (.lit (.int .i64 1)))⟩]) .ret) .skip)
abbrev f51_10:AC:=.ops [0,1,6,7] [6] [vv 13 0,vn 14 13,vd 15 14 3,vl 16 15,vv 17 1,⟨none,.lookup (some 18) (.int .u64) (.agg [(.lit (.int .i64 0)),(.lit (.int .u64 0)),(.lit (.int .u64 0))]) true (.r 16) (.r 17)⟩,vv 12 18,ve 19 12 0,ve 20 12 1,⟨none,.newL 6 [(.lit (.int .i64 0)),(.lit (.int .u64 0)),(.lit (.int .u64 0))]⟩,⟨none,.store 3 (.r 6) (.r 19)⟩,vo 7 20]
abbrev f51_12:AC:=.seq (.ops [0,1,6,22] [6] [vv 21 7,⟨none,.un (some 22) .not (.r 21)⟩]) (.cond (.r 22) (.seq (.ops [4,5] [] [⟨none,.mv (some 4) (.c (.lit (.int .i64 0)))⟩,⟨none,.mv (some 5) (.c (.lit (.int .i64 9)))⟩]) .ret) .skip)
abbrev f51_25:AC:=.draw [0,6,8] [6,8] [8] [vv 37 0,vn 38 37,vd 39 38 3,vl 40 39,vd 41 6 1,vl 42 41,⟨none,.lookup (some 43) (.int .u64) (.agg [(.lit (.int .i64 0)),(.lit (.int .u64 0)),(.lit (.int .u64 0))]) false (.r 40) (.r 42)⟩,⟨none,.newL 8 [(.lit (.int .i64 0)),(.lit (.int .u64 0)),(.lit (.int .u64 0))]⟩] [⟨none,.store 3 (.r 8) (.r 43)⟩]
abbrev f51_28:AC:=.draw [0,6] [6] [] [vv 47 0,vn 48 47,vd 49 48 3,vl 50 49,vd 51 6 1,vl 52 51,⟨none,.load (some 53) (.r 8) (some 3)⟩] [⟨none,.upd (.int .u64) (.r 50) (.r 52) (.r 53)⟩]
abbrev f51_22:AC:=.cond (.r 30) (.ops [0,6] [6] [vv 31 0,vd 32 6 2,vl 33 32,vn 34 31,vd 35 34 0,vd 36 35 0,⟨none,.store 1 (.r 36) (.r 33)⟩]) (.seq f51_25 (.seq (.ops [0,6,8] [6,8] [vd 44 6 2,vl 45 44,vd 46 8 2,⟨none,.store 1 (.r 46) (.r 45)⟩]) f51_28))
abbrev f51_35:AC:=.draw [0,6,9] [6,9] [9] [vv 63 0,vn 64 63,vd 65 64 3,vl 66 65,vd 67 6 2,vl 68 67,⟨none,.lookup (some 69) (.int .u64) (.agg [(.lit (.int .i64 0)),(.lit (.int .u64 0)),(.lit (.int .u64 0))]) false (.r 66) (.r 68)⟩,⟨none,.newL 9 [(.lit (.int .i64 0)),(.lit (.int .u64 0)),(.lit (.int .u64 0))]⟩] [⟨none,.store 3 (.r 9) (.r 69)⟩]
abbrev f51_38:AC:=.draw [6] [6] [] [vv 73 0,vn 74 73,vd 75 74 3,vl 76 75,vd 77 6 2,vl 78 77,⟨none,.load (some 79) (.r 9) (some 3)⟩] [⟨none,.upd (.int .u64) (.r 76) (.r 78) (.r 79)⟩]
abbrev f51_32:AC:=.cond (.r 56) (.ops [6] [6] [vv 57 0,vd 58 6 1,vl 59 58,vn 60 57,vd 61 60 0,vd 62 61 1,⟨none,.store 1 (.r 62) (.r 59)⟩]) (.seq f51_35 (.seq (.ops [0,6,9] [6,9] [vd 70 6 1,vl 71 70,vd 72 9 1,⟨none,.store 1 (.r 72) (.r 71)⟩]) f51_38))
abbrev f51_29:AC:=.seq (.seq (.ops [0,6,56] [6] [vd 54 6 2,vl 55 54,⟨none,.bin (some 56) .num .eql (.r 55) (.c (.lit (.int .u64 0)))⟩]) f51_32) (.seq (.ops [4,5] [] [vd 80 6 0,vl 81 80,vo 4 81,⟨none,.mv (some 5) (.c (.lit (.int .i64 0)))⟩]) .ret)
abbrev f51_17:AC:=.seq (.ops [0,6] [6] [vv 23 0,vn 24 23,vd 25 24 3,vl 26 25,vv 27 1,⟨none,.del (.int .u64) (.r 26) (.r 27)⟩]) (.seq (.seq (.ops [0,6,30] [6] [vd 28 6 1,vl 29 28,⟨none,.bin (some 30) .num .eql (.r 29) (.c (.lit (.int .u64 0)))⟩]) f51_22) f51_29)
abbrev f51_1:AC:=.seq (.ops [0,1] [] [⟨none,.mv (some 4) (.c (.lit (.int .i64 0)))⟩,⟨none,.mv (some 5) (.c (.lit (.int .i64 0)))⟩]) (.seq f51_4 (.seq f51_10 (.seq f51_12 f51_17)))
def c_f51:AFun:=⟨82,[.tmp 4,.tmp 5],f51_1⟩
theorem k_f51:kX x_f51 51 c_f51:=by delta kX; kernel_rfl
theorem e_f51:eX 51:=by delta eX; kernel_rfl

def n_f52:Nat:=52
def x_f52:=xX 107 [0,1,2,3,9,10,11,12,13,14,15,16,17,18,19,20,21,22,23,24,25,26,27,28,29,30,31,32,33,34,35,37,39,40,42,43,44,45,47,48,49,51,52,54,55,58,61,62,64,67,69,70,71,72,73,74,75,76,77,78,79,80,82,83,85,86,89,92,93,95,98,100,101,102,103,105,106] [] [(2,[1,2,3,4,8],[4,8]),(12,[1,2,3,4,8,36],[4,8]),(52,[8,9,10],[8]),(28,[1,2,3,4,8,41],[4,8]),(116,[8,9,10],[8]),(30,[1,2,3,4,8,11],[4,8]),(124,[1,2,3,4,8,11],[4,8]),(992,[1,2,3,4,8,11,46],[4,8]),(1987,[1,2,3,4,8,11],[4,8]),(994,[1,2,3,4,8,11],[4,8]),(126,[1,2,3,4,8,11,12],[4,8]),(508,[1,2,3,4,8,11,12,13],[4,8]),(1018,[1,2,3,4,8,11,12,13],[4,8]),(8144,[1,2,3,4,8,11,12,13,53],[4,8]),(16291,[1,2,3,4,8,11,12],[4,8]),(32584,[1,2,3,4,8,11,12,13,63],[4,8]),(65170,[1,2,3,4,8,11,12,13],[4,8]),(8147,[1,2,3,4,8,11,12,13],[4,8]),(510,[4,8,11,12],[4,8]),(2044,[4,8,11,12,14],[4,8]),(4090,[4,8,11,12,14],[4,8]),(32720,[4,8,11,12,14,84],[4,8]),(65443,[4,8,11,12],[4,8]),(130888,[4,8,11,12,14,94],[4,8]),(261778,[4,8,11,12,14],[4,8]),(32723,[4,8,11,12,14],[4,8]),(2046,[4,8,11],[4,8]),(4094,[8,9,10],[8])]
abbrev f52_2:AC:=.ops [1,2,3,4,8] [4,8] [⟨none,.boxL 4 2 (.r 0)⟩,⟨none,.newL 8 [(.lit (.slice none 0 0)),(.lit (.slice none 0 0))]⟩,⟨none,.mv (some 9) (.c (.lit (.int .i64 0)))⟩,⟨none,.mv (some 10) (.c (.lit (.int .i64 0)))⟩]
abbrev f52_5:AC:=.ops [1,2,3,4,8,36] [4,8] [vv 15 1,vb 16 .lss 15 0,vv 17 16,⟨some (17,false),.mv (some 18) (.r 1)⟩,⟨some (17,false),.bin (some 19) .num .geq (.r 18) (.c (.lit (.int .i64 16)))⟩,⟨none,.pick (some 20) (.r 17) (.c (.lit (.bool true))) (.r 19)⟩,vv 21 20,⟨some (21,false),.mv (some 22) (.r 2)⟩,⟨some (21,false),.bin (some 23) .num .lss (.r 22) (.c (.lit (.int .i64 3)))⟩,⟨none,.pick (some 24) (.r 21) (.c (.lit (.bool true))) (.r 23)⟩,vv 25 24,⟨some (25,false),.mv (some 26) (.r 2)⟩,⟨some (25,false),.bin (some 27) .num .gtr (.r 26) (.c (.lit (.int .i64 4096)))⟩,⟨none,.pick (some 28) (.r 25) (.c (.lit (.bool true))) (.r 27)⟩,vv 29 28,⟨some (29,false),.mv (some 30) (.r 3)⟩,⟨some (29,false),.bin (some 31) .num .lss (.r 30) (.c (.lit (.int .i64 1)))⟩,⟨none,.pick (some 32) (.r 29) (.c (.lit (.bool true))) (.r 31)⟩,vv 33 32,⟨some (33,false),.mv (some 34) (.r 3)⟩,⟨some (33,false),.bin (some 35) .num .gtr (.r 34) (.c (.lit (.int .i64 3)))⟩,⟨none,.pick (some 36) (.r 33) (.c (.lit (.bool true))) (.r 35)⟩]
abbrev f52_8:AC:=.ops [8,9,10] [8] [⟨none,.load (some 37) (.r 4) (some 2)⟩,⟨none,.store 2 (.r 8) (.r 37)⟩,⟨none,.mv (some 9) (.c (.lit (.int .i64 0)))⟩,⟨none,.mv (some 10) (.c (.lit (.int .i64 2)))⟩]
abbrev f52_14:AC:=.ops [8,9,10] [8] [⟨none,.load (some 42) (.r 4) (some 2)⟩,⟨none,.store 2 (.r 8) (.r 42)⟩,⟨none,.mv (some 9) (.c (.lit (.int .i64 0)))⟩,⟨none,.mv (some 10) (.c (.lit (.int .i64 7)))⟩]
abbrev f52_10:AC:=.seq (.ops [1,2,3,4,8,41] [4,8] [vd 38 4 0,vl 39 38,⟨none,.len (some 40) .sl (.r 39)⟩,vb 41 .geq 40 64]) (.cond (.r 41) (.seq f52_14 .ret) .skip)
abbrev f52_22:AC:=.ops [1,2,3,4,8,11,46] [4,8] [⟨none,.load (some 43) (.r 4) (some 2)⟩,vv 44 11,⟨none,.call (some 45) false (.f 35) [(.r 43),(.r 44)]⟩,vb 46 .geq 45 0]
abbrev f52_20:AC:=.seq (.seq f52_22 (.cond (.r 46) .skip (.exit [1,2,3,4,8,11] [4,8] 0))) (.block 1 (.ops [1,2,3,4,8,11] [4,8] [vv 47 11,vb 48 .add 47 1,vo 11 48]))
def f52_19:AC:=.loop [1,2,3,4,8,11] [4,8] f52_20
theorem f52_19w:aC P id m f52_19 sf st Q = ar (aC P id m f52_20) [1,2,3,4,8,11] [4,8] sf st Q:=rfl
abbrev f52_35:AC:=.ops [1,2,3,4,8,11,12,13,53] [4,8] [vv 49 13,vd 50 4 0,vl 51 50,⟨none,.len (some 52) .sl (.r 51)⟩,⟨none,.bin (some 53) .num .lss (.r 49) (.r 52)⟩]
abbrev f52_40:AC:=.ops [1,2,3,4,8,11,12,13,63] [4,8] [vd 56 4 0,vl 57 56,vv 58 13,⟨none,.ixS (some 59) (.r 57) (.r 58) 6⟩,vd 60 59 0,vl 61 60,vv 62 11,⟨none,.bin (some 63) .num .lss (.r 61) (.r 62)⟩]
abbrev f52_42:AC:=.ops [1,2,3,4,8,11,12,13] [4,8] [vo 64 12,vd 65 4 0,vl 66 65,vv 67 13,⟨none,.ixS (some 68) (.r 66) (.r 67) 6⟩,⟨none,.load (some 69) (.r 68) (some 6)⟩,⟨none,.bsl (some 70) 6 1 (.agg [(.lit (.int .i64 0)),(.lit (.int .i64 0)),(.lit (.int .i64 0)),(.lit (.int .i64 0)),(.lit (.slice none 0 0)),(.lit (.int .i64 0))]) [(0,(.r 69))]⟩,⟨none,.appS 71 64 6 64 (.r 70)⟩,vo 12 71]
abbrev f52_33:AC:=.seq (.seq f52_35 (.cond (.r 53) .skip (.exit [1,2,3,4,8,11,12] [4,8] 2))) (.seq (.block 3 (.seq f52_40 (.cond (.r 63) f52_42 .skip))) (.ops [1,2,3,4,8,11,12,13] [4,8] [vv 54 13,vb 55 .add 54 1,vo 13 55]))
def f52_32:AC:=.loop [1,2,3,4,8,11,12,13] [4,8] f52_33
theorem f52_32w:aC P id m f52_32 sf st Q = ar (aC P id m f52_33) [1,2,3,4,8,11,12,13] [4,8] sf st Q:=rfl
abbrev f52_45:AC:=.ops [4,8,11,12] [4,8] [vo 72 12,vv 73 11,vv 74 1,vv 75 2,vv 76 3,⟨none,.bst (some 77) [(0,1),(1,1),(2,1),(3,1),(4,1),(5,1)] (.agg [(.lit (.int .i64 0)),(.lit (.int .i64 0)),(.lit (.int .i64 0)),(.lit (.int .i64 0)),(.lit (.slice none 0 0)),(.lit (.int .i64 0))]) [(0,(.r 73)),(1,(.r 74)),(2,(.r 75)),(3,(.r 76))]⟩,⟨none,.bsl (some 78) 6 1 (.agg [(.lit (.int .i64 0)),(.lit (.int .i64 0)),(.lit (.int .i64 0)),(.lit (.int .i64 0)),(.lit (.slice none 0 0)),(.lit (.int .i64 0))]) [(0,(.r 77))]⟩,⟨none,.appS 79 72 6 64 (.r 78)⟩,vo 12 79]
abbrev f52_53:AC:=.ops [4,8,11,12,14,84] [4,8] [vv 80 14,vd 81 4 0,vl 82 81,⟨none,.len (some 83) .sl (.r 82)⟩,⟨none,.bin (some 84) .num .lss (.r 80) (.r 83)⟩]
abbrev f52_52:AC:=.seq f52_53 (.cond (.r 84) .skip (.exit [4,8,11,12] [4,8] 4))
abbrev f52_58:AC:=.ops [4,8,11,12,14,94] [4,8] [vd 87 4 0,vl 88 87,vv 89 14,⟨none,.ixS (some 90) (.r 88) (.r 89) 6⟩,vd 91 90 0,vl 92 91,vv 93 11,⟨none,.bin (some 94) .num .gtr (.r 92) (.r 93)⟩]
abbrev f52_60:AC:=.ops [4,8,11,12,14] [4,8] [vo 95 12,vd 96 4 0,vl 97 96,vv 98 14,⟨none,.ixS (some 99) (.r 97) (.r 98) 6⟩,⟨none,.load (some 100) (.r 99) (some 6)⟩,⟨none,.bsl (some 101) 6 1 (.agg [(.lit (.int .i64 0)),(.lit (.int .i64 0)),(.lit (.int .i64 0)),(.lit (.int .i64 0)),(.lit (.slice none 0 0)),(.lit (.int .i64 0))]) [(0,(.r 100))]⟩,⟨none,.appS 102 95 6 64 (.r 101)⟩,vo 12 102]
abbrev f52_55:AC:=.seq (.block 5 (.seq f52_58 (.cond (.r 94) f52_60 .skip))) (.ops [4,8,11,12,14] [4,8] [vv 85 14,vb 86 .add 85 1,vo 14 86])
def f52_51:AC:=.seq f52_52 f52_55
theorem f52_51e:SQ f52_51 f52_52 f52_55:=rfl
def f52_50:AC:=.loop [4,8,11,12,14] [4,8] f52_51
theorem f52_50w:aC P id m f52_50 sf st Q = ar (aC P id m f52_51) [4,8,11,12,14] [4,8] sf st Q:=rfl
abbrev f52_63:AC:=.ops [4,8,11] [4,8] [vv 103 12,vd 104 4 0,⟨none,.store 1 (.r 104) (.r 103)⟩]
abbrev f52_65:AC:=.ops [8,9,10] [8] [⟨none,.load (some 105) (.r 4) (some 2)⟩,vv 106 11,⟨none,.store 2 (.r 8) (.r 105)⟩,vo 9 106,⟨none,.mv (some 10) (.c (.lit (.int .i64 0)))⟩]
abbrev f52_64:AC:=.seq f52_65 .ret
def f52_62:AC:=.seq f52_63 f52_64
theorem f52_62e:SQ f52_62 f52_63 f52_64:=rfl
abbrev f52_28:AC:=.seq (.seq (.ops [1,2,3,4,8,11,12,13] [4,8] [⟨none,.mv (some 13) (.c (.lit (.int .i64 0)))⟩]) (.block 2 f52_32)) (.seq f52_45 (.seq (.seq (.ops [4,8,11,12,14] [4,8] [⟨none,.mv (some 14) (.c (.lit (.int .i64 0)))⟩]) (.block 4 f52_50)) f52_62))
abbrev f52_15:AC:=.seq (.ops [1,2,3,4,8,11] [4,8] [⟨none,.mv (some 11) (.c (.lit (.int .i64 0)))⟩]) (.seq (.block 0 f52_19) (.seq (.ops [1,2,3,4,8,11,12] [4,8] [⟨none,.mv (some 12) (.c (.lit (.slice none 0 0)))⟩]) f52_28))
abbrev f52_1:AC:=.seq f52_2 (.seq (.seq f52_5 (.cond (.r 36) (.seq f52_8 .ret) .skip)) (.seq f52_10 f52_15))
def c_f52:AFun:=⟨107,[.cell 8 (some 2),.tmp 9,.tmp 10],f52_1⟩
theorem k_f52:kX x_f52 52 c_f52:=by delta kX; kernel_rfl
theorem e_f52:eX 52:=by delta eX; kernel_rfl

def n_f53:Nat:=53
def x_f53:=xX 35 [0,1,2,7,8,9,10,11,12,14,15,16,18,19,20,21,22,23,24,25,26,27,28,30,31,32,33,34] [] [(2,[1,2,3,6],[3,6]),(12,[1,2,3,6,13],[3,6]),(52,[6,7],[6]),(28,[1,2,3,6,17],[3,6]),(116,[6,7],[6]),(60,[1,2,3,6,29],[3,6]),(244,[6,7],[6]),(62,[6,7],[6])]
abbrev f53_2:AC:=.ops [1,2,3,6] [3,6] [⟨none,.boxL 3 2 (.r 0)⟩,⟨none,.newL 6 [(.lit (.slice none 0 0)),(.lit (.slice none 0 0))]⟩,⟨none,.mv (some 7) (.c (.lit (.int .i64 0)))⟩]
abbrev f53_5:AC:=.ops [1,2,3,6,13] [3,6] [vv 8 1,vb 9 .lss 8 0,vv 10 9,⟨some (10,false),.mv (some 11) (.r 1)⟩,⟨some (10,false),.bin (some 12) .num .geq (.r 11) (.c (.lit (.int .i64 16)))⟩,⟨none,.pick (some 13) (.r 10) (.c (.lit (.bool true))) (.r 12)⟩]
abbrev f53_6:AC:=.cond (.r 13) (.seq (.ops [6,7] [6] [⟨none,.load (some 14) (.r 3) (some 2)⟩,⟨none,.store 2 (.r 6) (.r 14)⟩,⟨none,.mv (some 7) (.c (.lit (.int .i64 2)))⟩]) .ret) .skip
abbrev f53_12:AC:=.cond (.r 17) (.seq (.ops [6,7] [6] [⟨none,.load (some 18) (.r 3) (some 2)⟩,⟨none,.store 2 (.r 6) (.r 18)⟩,⟨none,.mv (some 7) (.c (.lit (.int .i64 5)))⟩]) .ret) .skip
abbrev f53_17:AC:=.ops [1,2,3,6,29] [3,6] [⟨none,.load (some 19) (.r 3) (some 2)⟩,vv 20 1,⟨none,.call (some 21) false (.f 67) [(.r 19),(.r 20)]⟩,vb 22 .geq 21 0,vv 23 22,⟨some (23,false),.load (some 24) (.r 3) (some 2)⟩,⟨some (23,false),.mv (some 25) (.r 1)⟩,⟨some (23,false),.mv (some 26) (.r 2)⟩,⟨some (23,false),.call (some 27) false (.f 68) [(.r 24),(.r 25),(.r 26)]⟩,⟨some (23,false),.un (some 28) .not (.r 27)⟩,⟨none,.pick (some 29) (.r 23) (.c (.lit (.bool true))) (.r 28)⟩]
abbrev f53_19:AC:=.seq (.ops [6,7] [6] [⟨none,.load (some 30) (.r 3) (some 2)⟩,⟨none,.store 2 (.r 6) (.r 30)⟩,⟨none,.mv (some 7) (.c (.lit (.int .i64 16)))⟩]) .ret
abbrev f53_22:AC:=.ops [6,7] [6] [⟨none,.load (some 31) (.r 3) (some 2)⟩,vv 32 1,vv 33 2,⟨none,.call (some 34) false (.f 69) [(.r 31),(.r 32),(.r 33)]⟩,⟨none,.store 2 (.r 6) (.r 34)⟩,⟨none,.mv (some 7) (.c (.lit (.int .i64 0)))⟩]
abbrev f53_9:AC:=.seq (.seq (.ops [1,2,3,6,17] [3,6] [vv 15 2,⟨none,.len (some 16) .sl (.r 15)⟩,vb 17 .gtr 16 1024]) f53_12) (.seq (.seq f53_17 (.cond (.r 29) f53_19 .skip)) (.seq f53_22 .ret))
abbrev f53_1:AC:=.seq f53_2 (.seq (.seq f53_5 f53_6) f53_9)
def c_f53:AFun:=⟨35,[.cell 6 (some 2),.tmp 7],f53_1⟩
theorem k_f53:kX x_f53 53 c_f53:=by delta kX; kernel_rfl
theorem e_f53:eX 53:=by delta eX; kernel_rfl

def n_f54:Nat:=54
def x_f54:=xX 59 [0,1,2,3,9,10,12,13,14,15,16,17,18,19,20,21,22,23,24,25,27,28,29,31,32,33,34,36,37,38,39,40,41,42,43,44,46,48,49,50,51,52,53,54,55,56,58] [] [(2,[1,2,3,4,8],[4,8]),(12,[1,2,3,4,8,26],[4,8]),(52,[8,9,10],[8]),(28,[1,2,3,4,8,30],[4,8]),(116,[8,9,10],[8]),(60,[1,2,3,4,8,35],[4,8]),(244,[8,9,10],[8]),(62,[1,2,3,4,8,11,12],[4,8,11]),(252,[1,2,3,4,8,11,45],[4,8,11]),(1012,[8,9,10],[8]),(254,[4,8],[4,8]),(510,[8,9,10],[8])]
abbrev f54_2:AC:=.ops [1,2,3,4,8] [4,8] [⟨none,.boxL 4 2 (.r 0)⟩,⟨none,.newL 8 [(.lit (.slice none 0 0)),(.lit (.slice none 0 0))]⟩,⟨none,.mv (some 9) (.c (.lit (.bool false)))⟩,⟨none,.mv (some 10) (.c (.lit (.int .i64 0)))⟩]
abbrev f54_5:AC:=.ops [1,2,3,4,8,26] [4,8] [vv 13 2,vb 14 .lss 13 0,vv 15 14,⟨some (15,false),.mv (some 16) (.r 2)⟩,⟨some (15,false),.bin (some 17) .num .geq (.r 16) (.c (.lit (.int .i64 16)))⟩,⟨none,.pick (some 18) (.r 15) (.c (.lit (.bool true))) (.r 17)⟩,vv 19 18,⟨some (19,false),.mv (some 20) (.r 1)⟩,⟨some (19,false),.bin (some 21) .num .lss (.r 20) (.c (.lit (.int .i64 0)))⟩,⟨none,.pick (some 22) (.r 19) (.c (.lit (.bool true))) (.r 21)⟩,vv 23 22,⟨some (23,false),.mv (some 24) (.r 1)⟩,⟨some (23,false),.bin (some 25) .num .geq (.r 24) (.c (.lit (.int .i64 64)))⟩,⟨none,.pick (some 26) (.r 23) (.c (.lit (.bool true))) (.r 25)⟩]
abbrev f54_8:AC:=.ops [8,9,10] [8] [⟨none,.load (some 27) (.r 4) (some 2)⟩,⟨none,.store 2 (.r 8) (.r 27)⟩,⟨none,.mv (some 9) (.c (.lit (.bool false)))⟩,⟨none,.mv (some 10) (.c (.lit (.int .i64 2)))⟩]
abbrev f54_14:AC:=.ops [8,9,10] [8] [⟨none,.load (some 31) (.r 4) (some 2)⟩,⟨none,.store 2 (.r 8) (.r 31)⟩,⟨none,.mv (some 9) (.c (.lit (.bool false)))⟩,⟨none,.mv (some 10) (.c (.lit (.int .i64 5)))⟩]
abbrev f54_17:AC:=.ops [1,2,3,4,8,35] [4,8] [⟨none,.load (some 32) (.r 4) (some 2)⟩,vv 33 1,⟨none,.call (some 34) false (.f 70) [(.r 32),(.r 33)]⟩,vb 35 .geq 34 0]
abbrev f54_20:AC:=.ops [8,9,10] [8] [⟨none,.load (some 36) (.r 4) (some 2)⟩,⟨none,.store 2 (.r 8) (.r 36)⟩,⟨none,.mv (some 9) (.c (.lit (.bool false)))⟩,⟨none,.mv (some 10) (.c (.lit (.int .i64 11)))⟩]
abbrev f54_22:AC:=.ops [1,2,3,4,8,11,12] [4,8,11] [⟨none,.load (some 38) (.r 4) (some 2)⟩,vv 39 2,vv 40 3,⟨none,.call (some 41) false (.f 53) [(.r 38),(.r 39),(.r 40)]⟩,vv 37 41,ve 42 37 0,ve 43 37 1,⟨none,.newL 11 [(.lit (.slice none 0 0)),(.lit (.slice none 0 0))]⟩,⟨none,.store 2 (.r 11) (.r 42)⟩,vo 12 43]
abbrev f54_28:AC:=.ops [8,9,10] [8] [⟨none,.load (some 46) (.r 11) (some 2)⟩,⟨none,.store 2 (.r 8) (.r 46)⟩,⟨none,.mv (some 9) (.c (.lit (.bool true)))⟩,⟨none,.mv (some 10) (.c (.lit (.int .i64 0)))⟩]
abbrev f54_30:AC:=.ops [4,8] [4,8] [vd 47 4 1,vl 48 47,⟨none,.app (some 49) 3 40 (.c (.lit (.slice none 0 0))) (.r 48)⟩,vv 50 1,vv 51 2,vv 52 3,⟨none,.app (some 53) 1 1 (.c (.lit (.slice none 0 0))) (.r 52)⟩,⟨none,.bst (some 54) [(0,1),(1,1),(2,1)] (.agg [(.lit (.int .i64 0)),(.lit (.int .i64 0)),(.lit (.slice none 0 0))]) [(0,(.r 50)),(1,(.r 51)),(2,(.r 53))]⟩,⟨none,.bsl (some 55) 3 1 (.agg [(.lit (.int .i64 0)),(.lit (.int .i64 0)),(.lit (.slice none 0 0))]) [(0,(.r 54))]⟩,⟨none,.appS 56 49 3 40 (.r 55)⟩,vd 57 4 1,⟨none,.store 1 (.r 57) (.r 56)⟩]
abbrev f54_32:AC:=.ops [8,9,10] [8] [⟨none,.load (some 58) (.r 4) (some 2)⟩,⟨none,.store 2 (.r 8) (.r 58)⟩,⟨none,.mv (some 9) (.c (.lit (.bool false)))⟩,⟨none,.mv (some 10) (.c (.lit (.int .i64 0)))⟩]
abbrev f54_23:AC:=.seq (.seq (.ops [1,2,3,4,8,11,45] [4,8,11] [vv 44 12,vb 45 .eql 44 0]) (.cond (.r 45) (.seq f54_28 .ret) .skip)) (.seq f54_30 (.seq f54_32 .ret))
abbrev f54_9:AC:=.seq (.seq (.ops [1,2,3,4,8,30] [4,8] [vv 28 3,⟨none,.len (some 29) .sl (.r 28)⟩,vb 30 .gtr 29 1024]) (.cond (.r 30) (.seq f54_14 .ret) .skip)) (.seq (.seq f54_17 (.cond (.r 35) (.seq f54_20 .ret) .skip)) (.seq f54_22 f54_23))
abbrev f54_1:AC:=.seq f54_2 (.seq (.seq f54_5 (.cond (.r 26) (.seq f54_8 .ret) .skip)) f54_9)
def c_f54:AFun:=⟨59,[.cell 8 (some 2),.tmp 9,.tmp 10],f54_1⟩
theorem k_f54:kX x_f54 54 c_f54:=by delta kX; kernel_rfl
theorem e_f54:eX 54:=by delta eX; kernel_rfl

def n_f55:Nat:=55
def x_f55:=xX 62 [0,1,5,6,7,8,9,10,11,12,13,14,15,17,20,23,24,26,28,29,31,36,38,40,43,44,47,49,50,52,55,56,57,58,59,60,61] [9,29,37,56] [(3000000019,[51,52,49,57,58,11],[]),(2,[1,2,4],[2,4]),(6,[2,4,8],[2,4]),(28,[2,4,8,16],[2,4]),(116,[4,5,6,7],[4]),(60,[2,4,8,25],[2,4]),(244,[4,5,6,7],[4]),(62,[2,4,8,9],[2,4]),(126,[2,4,8,9,10],[2,4]),(254,[2,4,8,9,10],[2,4]),(510,[2,4,8,9,10],[2,4]),(1022,[2,4,10,11],[2,4]),(2046,[4,5,6,7],[4])]
abbrev f55_2:AC:=.ops [1,2,4] [2,4] [⟨none,.boxL 2 2 (.r 0)⟩,⟨none,.newL 4 [(.lit (.slice none 0 0)),(.lit (.slice none 0 0))]⟩,⟨none,.mv (some 5) (.c (.lit (.slice none 0 0)))⟩,⟨none,.mv (some 6) (.c (.lit (.slice none 0 0)))⟩,⟨none,.mv (some 7) (.c (.lit (.int .i64 0)))⟩]
abbrev f55_10:AC:=.ops [4,5,6,7] [4] [⟨none,.load (some 17) (.r 2) (some 2)⟩,⟨none,.store 2 (.r 4) (.r 17)⟩,⟨none,.mv (some 5) (.c (.lit (.slice none 0 0)))⟩,⟨none,.mv (some 6) (.c (.lit (.slice none 0 0)))⟩,⟨none,.mv (some 7) (.c (.lit (.int .i64 9)))⟩]
abbrev f55_13:AC:=.ops [2,4,8,25] [2,4] [vd 18 2 0,vl 19 18,vv 20 8,⟨none,.ixS (some 21) (.r 19) (.r 20) 6⟩,vd 22 21 4,vl 23 22,⟨none,.len (some 24) .sl (.r 23)⟩,vb 25 .eql 24 0]
abbrev f55_16:AC:=.ops [4,5,6,7] [4] [⟨none,.load (some 26) (.r 2) (some 2)⟩,⟨none,.store 2 (.r 4) (.r 26)⟩,⟨none,.mv (some 5) (.c (.lit (.slice none 0 0)))⟩,⟨none,.mv (some 6) (.c (.lit (.slice none 0 0)))⟩,⟨none,.mv (some 7) (.c (.lit (.int .i64 16)))⟩]
abbrev f55_20:AC:=.ops [2,4,8,9,10] [2,4] [vv 30 9,vv 31 8,⟨none,.ixS (some 32) (.r 30) (.r 31) 6⟩,vd 33 32 4,vl 34 33,⟨none,.ixS (some 35) (.r 34) (.c (.lit (.int .i64 0))) 1⟩,vl 36 35,vo 10 36]
abbrev f55_22:AC:=.ops [2,4,8,9,10] [2,4] [vv 37 9,vv 38 8,vv 39 9,vv 40 8,⟨none,.ixS (some 41) (.r 39) (.r 40) 6⟩,vd 42 41 4,⟨none,.loadOwn 43 (.r 42)⟩,⟨none,.sliOwn 44 43 (.c (.lit (.int .i64 1))) 1⟩,⟨none,.ixS (some 45) (.r 37) (.r 38) 6⟩,vd 46 45 4,⟨none,.store 1 (.r 46) (.r 44)⟩]
abbrev f55_26:AC:=.draw [2,4,10,11] [2,4] [] [⟨none,.load (some 50) (.r 2) (some 2)⟩,vv 51 9,vv 52 8,⟨none,.ixS (some 53) (.r 51) (.r 52) 6⟩,vd 54 53 1,vl 55 54] [⟨none,.call (some 56) false (.f 71) [(.r 50),(.r 55)]⟩,vv 49 56,ve 57 49 0,ve 58 49 1,⟨none,.store 2 (.r 2) (.r 57)⟩,vo 11 58]
abbrev f55_28:AC:=.ops [4,5,6,7] [4] [⟨none,.load (some 59) (.r 2) (some 2)⟩,vv 60 10,vv 61 11,⟨none,.store 2 (.r 4) (.r 59)⟩,vo 5 60,vo 6 61,⟨none,.mv (some 7) (.c (.lit (.int .i64 0)))⟩]
abbrev f55_19:AC:=.seq f55_20 (.seq f55_22 (.seq (.ops [2,4,8,9,10] [2,4] [vv 47 9,vd 48 2 0,⟨none,.store 1 (.r 48) (.r 47)⟩]) (.seq f55_26 (.seq f55_28 .ret))))
abbrev f55_11:AC:=.seq (.seq f55_13 (.cond (.r 25) (.seq f55_16 .ret) .skip)) (.seq (.ops [2,4,8,9] [2,4] [vd 27 2 0,vl 28 27,⟨none,.x (some 29) (.appB (.c (.lit (.slice none 0 0))) 6 64 (.r 28))⟩,vo 9 29]) f55_19)
abbrev f55_3:AC:=.seq (.ops [2,4,8] [2,4] [⟨none,.load (some 12) (.r 2) (some 2)⟩,vv 13 1,⟨none,.call (some 14) false (.f 35) [(.r 12),(.r 13)]⟩,vo 8 14]) (.seq (.seq (.ops [2,4,8,16] [2,4] [vv 15 8,vb 16 .lss 15 0]) (.cond (.r 16) (.seq f55_10 .ret) .skip)) f55_11)
abbrev f55_1:AC:=.seq f55_2 f55_3
def c_f55:AFun:=⟨62,[.cell 4 (some 2),.tmp 5,.tmp 6,.tmp 7],f55_1⟩
theorem k_f55:kX x_f55 55 c_f55:=by delta kX; kernel_rfl
theorem e_f55:eX 55:=by delta eX; kernel_rfl

def n_f56:Nat:=56
def x_f56:=xX 42 [0,1,5,6,7,8,9,10,11,12,13,15,18,21,23,24,25,26,28,29,30,31,32,34,35,36,37,38,39,40,41] [] [(2,[1,2,4],[2,4]),(6,[2,4,7],[2,4]),(28,[2,4,7,14],[2,4]),(116,[4,5,6],[4]),(30,[2,4,7,8],[2,4]),(62,[2,4,8],[2,4]),(126,[2,4,9],[2,4]),(254,[4,5,6],[4])]
abbrev f56_2:AC:=.ops [1,2,4] [2,4] [⟨none,.boxL 2 2 (.r 0)⟩,⟨none,.newL 4 [(.lit (.slice none 0 0)),(.lit (.slice none 0 0))]⟩,⟨none,.mv (some 5) (.c (.lit (.slice none 0 0)))⟩,⟨none,.mv (some 6) (.c (.lit (.int .i64 0)))⟩]
abbrev f56_10:AC:=.ops [4,5,6] [4] [⟨none,.load (some 15) (.r 2) (some 2)⟩,⟨none,.store 2 (.r 4) (.r 15)⟩,⟨none,.mv (some 5) (.c (.lit (.slice none 0 0)))⟩,⟨none,.mv (some 6) (.c (.lit (.int .i64 9)))⟩]
abbrev f56_14:AC:=.draw [2,4,8] [2,4] [] [vd 22 2 0,vl 23 22,vv 24 7,⟨none,.sliS (some 25) (.r 23) none (some (.r 24)) 6⟩,⟨none,.app (some 26) 6 64 (.c (.lit (.slice none 0 0))) (.r 25)⟩,vd 27 2 0,vl 28 27,vv 29 7,vb 30 .add 29 1,⟨none,.sliS (some 31) (.r 28) (some (.r 30)) none 6⟩] [⟨none,.appS 32 26 6 64 (.r 31)⟩,vd 33 2 0,⟨none,.store 1 (.r 33) (.r 32)⟩]
abbrev f56_16:AC:=.ops [2,4,9] [2,4] [⟨none,.load (some 35) (.r 2) (some 2)⟩,vv 36 8,⟨none,.call (some 37) false (.f 71) [(.r 35),(.r 36)]⟩,vv 34 37,ve 38 34 0,ve 39 34 1,⟨none,.store 2 (.r 2) (.r 38)⟩,vo 9 39]
abbrev f56_18:AC:=.ops [4,5,6] [4] [⟨none,.load (some 40) (.r 2) (some 2)⟩,vv 41 9,⟨none,.store 2 (.r 4) (.r 40)⟩,vo 5 41,⟨none,.mv (some 6) (.c (.lit (.int .i64 0)))⟩]
abbrev f56_11:AC:=.seq (.ops [2,4,7,8] [2,4] [vd 16 2 0,vl 17 16,vv 18 7,⟨none,.ixS (some 19) (.r 17) (.r 18) 6⟩,vd 20 19 1,vl 21 20,vo 8 21]) (.seq f56_14 (.seq f56_16 (.seq f56_18 .ret)))
abbrev f56_3:AC:=.seq (.ops [2,4,7] [2,4] [⟨none,.load (some 10) (.r 2) (some 2)⟩,vv 11 1,⟨none,.call (some 12) false (.f 35) [(.r 10),(.r 11)]⟩,vo 7 12]) (.seq (.seq (.ops [2,4,7,14] [2,4] [vv 13 7,vb 14 .lss 13 0]) (.cond (.r 14) (.seq f56_10 .ret) .skip)) f56_11)
abbrev f56_1:AC:=.seq f56_2 f56_3
def c_f56:AFun:=⟨42,[.cell 4 (some 2),.tmp 5,.tmp 6],f56_1⟩
theorem k_f56:kX x_f56 56 c_f56:=by delta kX; kernel_rfl
theorem e_f56:eX 56:=by delta eX; kernel_rfl

def n_f57:Nat:=57
def x_f57:=xX 39 [0,1,5,6,7,8,9,10,11,12,13,14,16,17,18,19,20,22,25,28,29,30,31,32,33,34,35,36,37,38] [] [(2,[1,2,4],[2,4]),(12,[1,2,4,15],[2,4]),(52,[4,5,6],[4]),(14,[2,4,7],[2,4]),(60,[2,4,7,21],[2,4]),(244,[4,5,6],[4]),(62,[2,4,7,8],[2,4]),(126,[2,4,9],[2,4]),(254,[4,5,6],[4])]
abbrev f57_2:AC:=.ops [1,2,4] [2,4] [⟨none,.boxL 2 2 (.r 0)⟩,⟨none,.newL 4 [(.lit (.slice none 0 0)),(.lit (.slice none 0 0))]⟩,⟨none,.mv (some 5) (.c (.lit (.slice none 0 0)))⟩,⟨none,.mv (some 6) (.c (.lit (.int .i64 0)))⟩]
abbrev f57_5:AC:=.ops [1,2,4,15] [2,4] [vv 10 1,vb 11 .lss 10 0,vv 12 11,⟨some (12,false),.mv (some 13) (.r 1)⟩,⟨some (12,false),.bin (some 14) .num .geq (.r 13) (.c (.lit (.int .i64 64)))⟩,⟨none,.pick (some 15) (.r 12) (.c (.lit (.bool true))) (.r 14)⟩]
abbrev f57_8:AC:=.ops [4,5,6] [4] [⟨none,.load (some 16) (.r 2) (some 2)⟩,⟨none,.store 2 (.r 4) (.r 16)⟩,⟨none,.mv (some 5) (.c (.lit (.slice none 0 0)))⟩,⟨none,.mv (some 6) (.c (.lit (.int .i64 2)))⟩]
abbrev f57_16:AC:=.ops [4,5,6] [4] [⟨none,.load (some 22) (.r 2) (some 2)⟩,⟨none,.store 2 (.r 4) (.r 22)⟩,⟨none,.mv (some 5) (.c (.lit (.slice none 0 0)))⟩,⟨none,.mv (some 6) (.c (.lit (.int .i64 9)))⟩]
abbrev f57_20:AC:=.ops [2,4,9] [2,4] [⟨none,.load (some 30) (.r 2) (some 2)⟩,vv 31 7,⟨none,.call (some 32) false (.f 72) [(.r 30),(.r 31)]⟩,vv 33 8,⟨none,.call (some 34) false (.f 71) [(.r 32),(.r 33)]⟩,vv 29 34,ve 35 29 0,ve 36 29 1,⟨none,.store 2 (.r 2) (.r 35)⟩,vo 9 36]
abbrev f57_22:AC:=.ops [4,5,6] [4] [⟨none,.load (some 37) (.r 2) (some 2)⟩,vv 38 9,⟨none,.store 2 (.r 4) (.r 37)⟩,vo 5 38,⟨none,.mv (some 6) (.c (.lit (.int .i64 0)))⟩]
abbrev f57_17:AC:=.seq (.ops [2,4,7,8] [2,4] [vd 23 2 1,vl 24 23,vv 25 7,⟨none,.ixS (some 26) (.r 24) (.r 25) 3⟩,vd 27 26 1,vl 28 27,vo 8 28]) (.seq f57_20 (.seq f57_22 .ret))
abbrev f57_9:AC:=.seq (.ops [2,4,7] [2,4] [⟨none,.load (some 17) (.r 2) (some 2)⟩,vv 18 1,⟨none,.call (some 19) false (.f 70) [(.r 17),(.r 18)]⟩,vo 7 19]) (.seq (.seq (.ops [2,4,7,21] [2,4] [vv 20 7,vb 21 .lss 20 0]) (.cond (.r 21) (.seq f57_16 .ret) .skip)) f57_17)
abbrev f57_1:AC:=.seq f57_2 (.seq (.seq f57_5 (.cond (.r 15) (.seq f57_8 .ret) .skip)) f57_9)
def c_f57:AFun:=⟨39,[.cell 4 (some 2),.tmp 5,.tmp 6],f57_1⟩
theorem k_f57:kX x_f57 57 c_f57:=by delta kX; kernel_rfl
theorem e_f57:eX 57:=by delta eX; kernel_rfl

def n_f58:Nat:=58
def x_f58:=xX 12 [0,2,3,4,5,9,10,11] [] [(2,[0],[]),(6,[2],[])]
abbrev f58_4:AC:=.ops [2] [] [vv 3 0,⟨none,.bin (some 4) (.nil .ptr) .eql (.r 3) (.c (.lit (.pointer none)))⟩,vv 5 4,⟨some (5,false),.mv (some 6) (.r 0)⟩,⟨some (5,false),.nilck (some 7) (.r 6)⟩,⟨some (5,false),.addr (some 8) (.r 7) 0⟩,⟨some (5,false),.load (some 9) (.r 8) none⟩,⟨some (5,false),.x (some 10) (.nilU .eql (.r 9) (.c (.lit (.slice none 0 0))))⟩,⟨none,.pick (some 11) (.r 5) (.c (.lit (.bool true))) (.r 10)⟩,vo 2 11]
abbrev f58_1:AC:=.seq (.ops [0] [] [⟨none,.mv (some 2) (.c (.lit (.bool false)))⟩]) (.seq f58_4 .ret)
def c_f58:AFun:=⟨12,[.tmp 2],f58_1⟩
theorem k_f58:kX x_f58 58 c_f58:=by delta kX; kernel_rfl
theorem e_f58:eX 58:=by delta eX; kernel_rfl

def n_f59:Nat:=59
def x_f59:=xX 12 [0,2,3,4,5,9,10,11] [] [(2,[0],[]),(6,[2],[])]
abbrev f59_4:AC:=.ops [2] [] [vv 3 0,⟨none,.bin (some 4) (.nil .ptr) .eql (.r 3) (.c (.lit (.pointer none)))⟩,vv 5 4,⟨some (5,false),.mv (some 6) (.r 0)⟩,⟨some (5,false),.nilck (some 7) (.r 6)⟩,⟨some (5,false),.addr (some 8) (.r 7) 3⟩,⟨some (5,false),.load (some 9) (.r 8) none⟩,⟨some (5,false),.bin (some 10) (.nil .mp) .eql (.r 9) (.c (.lit (.map none)))⟩,⟨none,.pick (some 11) (.r 5) (.c (.lit (.bool true))) (.r 10)⟩,vo 2 11]
abbrev f59_1:AC:=.seq (.ops [0] [] [⟨none,.mv (some 2) (.c (.lit (.bool false)))⟩]) (.seq f59_4 .ret)
def c_f59:AFun:=⟨12,[.tmp 2],f59_1⟩
theorem k_f59:kX x_f59 59 c_f59:=by delta kX; kernel_rfl
theorem e_f59:eX 59:=by delta eX; kernel_rfl

def n_f60:Nat:=60
def x_f60:=xX 9 [0,2,3,5,6,7,8] [] [(2,[0],[]),(12,[0,4],[]),(52,[2],[]),(14,[2],[])]
abbrev f60_4:AC:=.seq (.ops [0,4] [] [vv 3 0,⟨none,.bin (some 4) (.nil .mp) .eql (.r 3) (.c (.lit (.map none)))⟩]) (.cond (.r 4) (.seq (.ops [2] [] [⟨none,.mv (some 2) (.c (.lit (.map none)))⟩]) .ret) .skip)
abbrev f60_3:AC:=.seq f60_4 (.seq (.ops [2] [] [vv 5 0,⟨none,.mkif (some 6) 96 (.r 5)⟩,⟨none,.x (some 7) (.mclone (.r 6))⟩,⟨none,.tas (some 8) 96 (.r 7)⟩,vo 2 8]) .ret)
abbrev f60_1:AC:=.seq (.ops [0] [] [⟨none,.mv (some 2) (.c (.lit (.map none)))⟩]) f60_3
def c_f60:AFun:=⟨9,[.tmp 2],f60_1⟩
theorem k_f60:kX x_f60 60 c_f60:=by delta kX; kernel_rfl
theorem e_f60:eX 60:=by delta eX; kernel_rfl

def n_f61:Nat:=61
def x_f61:=xX 29 [1,2,7,11,12,14,15,16,17,21,22,23,25,26,28] [] [(2,[1,2,11,12],[]),(6,[1,2,11,12],[]),(24,[1,2,11,12,13],[]),(101,[],[]),(408,[1,2,7,11,12],[]),(818,[1,2,7,11,12,24],[]),(1638,[1,2,11,12],[]),(103,[1,2,11,12],[])]
abbrev f61_14:AC:=.ops [1,2,7,11,12,24] [] [vv 15 7,⟨none,.bin (some 16) (.nil .ptr) .neq (.r 15) (.c (.lit (.pointer none)))⟩,vv 17 16,⟨some (17,true),.mv (some 18) (.r 7)⟩,⟨some (17,true),.nilck (some 19) (.r 18)⟩,⟨some (17,true),.addr (some 20) (.r 19) 0⟩,⟨some (17,true),.load (some 21) (.r 20) none⟩,⟨some (17,true),.mv (some 22) (.r 1)⟩,⟨some (17,true),.bin (some 23) .num .eql (.r 21) (.r 22)⟩,⟨none,.pick (some 24) (.r 17) (.r 23) (.c (.lit (.bool false)))⟩]
abbrev f61_11:AC:=.seq (.ops [1,2,7,11,12] [] [⟨none,.ixArr (some 14) (.r 11) (.r 12) 64 1 none⟩,vo 7 14]) (.seq f61_14 (.cond (.r 24) (.ops [1,2,11,12] [] [vv 25 2,vv 26 7,⟨none,.call (some 27) false (.r 25) [(.r 26)]⟩]) .skip))
abbrev f61_5:AC:=.seq (.ops [1,2,11,12,13] [] [vb 13 .lss 12 64]) (.seq (.cond (.r 13) .skip (.exit [] [] 0)) (.seq (.block 1 f61_11) (.ops [1,2,11,12] [] [vb 28 .add 12 1,vv 12 28])))
def f61_4:AC:=.loop [1,2,11,12] [] f61_5
theorem f61_4w:aC P id m f61_4 sf st Q = ar (aC P id m f61_5) [1,2,11,12] [] sf st Q:=rfl
abbrev f61_1:AC:=.seq (.ops [1,2,11,12] [] [vv 8 0,vn 9 8,vd 10 9 0,⟨none,.load (some 11) (.r 10) (some 64)⟩,⟨none,.mv (some 12) (.c (.lit (.int .i64 0)))⟩]) (.block 0 f61_4)
def c_f61:AFun:=⟨29,[],f61_1⟩
theorem k_f61:kX x_f61 61 c_f61:=by delta kX; kernel_rfl
theorem e_f61:eX 61:=by delta eX; kernel_rfl

def n_f62:Nat:=62
def x_f62:=xX 24 [0,4,5,6,7,8,9,10,11,15,16,17,18,19,20,21,22] [] [(2,[0,2,4,5],[]),(6,[2,23],[]),(14,[],[])]
abbrev f62_4:AC:=.ops [2,23] [] [vv 12 0,vn 13 12,vd 14 13 1,vl 15 14,vb 16 .eql 15 3,vv 17 16,⟨some (17,true),.mv (some 18) (.r 5)⟩,⟨none,.pick (some 19) (.r 17) (.r 18) (.c (.lit (.bool false)))⟩,vv 20 19,⟨some (20,true),.mv (some 21) (.r 4)⟩,⟨some (20,true),.un (some 22) .not (.r 21)⟩,⟨none,.pick (some 23) (.r 20) (.r 22) (.c (.lit (.bool false)))⟩]
abbrev f62_1:AC:=.seq (.ops [0,2,4,5] [] [vv 7 0,vl 8 1,⟨none,.call (some 9) false (.f 63) [(.r 7),(.r 8)]⟩,vv 6 9,ve 10 6 0,ve 11 6 1,vo 4 10,vo 5 11]) (.seq f62_4 (.cond (.r 23) (.ops [] [] [⟨none,.store 1 (.r 2) (.c (.lit (.bool false)))⟩]) .skip))
def c_f62:AFun:=⟨24,[],f62_1⟩
theorem k_f62:kX x_f62 62 c_f62:=by delta kX; kernel_rfl
theorem e_f62:eX 62:=by delta eX; kernel_rfl

def n_f63:Nat:=63
def x_f63:=xX 24 [1,4,5,6,7,8,9,10,14,15,16,17,21,22,23] [] [(2,[0,1],[]),(6,[0,6],[]),(14,[4,5],[])]
abbrev f63_6:AC:=.draw [4,5] [] [] [vv 10 6,vv 11 0,vn 12 11,vd 13 12 2,vl 14 13,⟨none,.call (some 15) true (.f 74) [(.r 14)]⟩,⟨none,.bin (some 16) .num .leq (.r 10) (.r 15)⟩,vv 17 6,vv 18 0,vn 19 18,vd 20 19 2,vl 21 20,⟨none,.call (some 22) true (.f 75) [(.r 21)]⟩,⟨none,.bin (some 23) .num .leq (.r 17) (.r 22)⟩,vv 4 16] [vo 5 23]
abbrev f63_3:AC:=.seq (.ops [0,6] [] [vv 7 1,⟨none,.len (some 8) .sl (.r 7)⟩,⟨none,.bin (some 9) .num .add (.c (.lit (.int .i64 2))) (.r 8)⟩,vo 6 9]) (.seq f63_6 .ret)
abbrev f63_1:AC:=.seq (.ops [0,1] [] [⟨none,.mv (some 4) (.c (.lit (.bool false)))⟩,⟨none,.mv (some 5) (.c (.lit (.bool false)))⟩]) f63_3
def c_f63:AFun:=⟨24,[.tmp 4,.tmp 5],f63_1⟩
theorem k_f63:kX x_f63 63 c_f63:=by delta kX; kernel_rfl
theorem e_f63:eX 63:=by delta eX; kernel_rfl

def n_f64:Nat:=64
def x_f64:=xX 7 [0,3,4,5,6] [] [(1,[],[])]
abbrev f64_1:AC:=.ops [] [] [⟨none,.loadOwn 3 (.r 1)⟩,vv 4 0,⟨none,.bsl (some 5) 1 1 (.lit (.pointer none)) [(0,(.r 4))]⟩,⟨none,.appS 6 3 1 8 (.r 5)⟩,⟨none,.store 1 (.r 1) (.r 6)⟩]
def c_f64:AFun:=⟨7,[],f64_1⟩
theorem k_f64:kX x_f64 64 c_f64:=by delta kX; kernel_rfl
theorem e_f64:eX 64:=by delta eX; kernel_rfl

def n_f65:Nat:=65
def x_f65:=xX 53 [0,1,4,5,6,7,8,9,10,11,15,16,20,21,22,25,26,30,31,32,33,35,36,37,38,39,41,46,47,50,51] [] [(2,[0,1,4,5],[]),(12,[0,1,4,5,19],[]),(26,[],[]),(54,[0,1,4,24],[]),(440,[0,1,4],[]),(3520,[0,1,34],[]),(7043,[0,1],[]),(14088,[0,1],[]),(14089,[0,1],[]),(3523,[0,1,4],[]),(221,[],[]),(111,[],[])]
abbrev f65_9:AC:=.ops [0,1,4,24] [] [vv 25 5,vv 26 25,⟨some (26,true),.mv (some 27) (.r 0)⟩,⟨some (26,true),.nilck (some 28) (.r 27)⟩,⟨some (26,true),.addr (some 29) (.r 28) 1⟩,⟨some (26,true),.load (some 30) (.r 29) none⟩,⟨some (26,true),.bin (some 31) .num .eql (.r 30) (.c (.lit (.int .i64 1)))⟩,⟨none,.pick (some 32) (.r 26) (.r 31) (.c (.lit (.bool false)))⟩,vo 24 32]
abbrev f65_20:AC:=.seq (.ops [0,1] [] [vv 41 0,⟨none,.call (some 42) false (.f 50) [(.r 41)]⟩]) (.ops [0,1] [] [vv 43 0,vn 44 43,vd 45 44 4,vl 46 45,vb 47 .add 46 1,vn 48 43,vd 49 48 4,⟨none,.store 1 (.r 49) (.r 47)⟩])
abbrev f65_18:AC:=.seq (.block 2 f65_20) (.ops [0,1,4] [] [vv 36 0,vv 37 1,⟨none,.call (some 38) false (.f 63) [(.r 36),(.r 37)]⟩,vv 35 38,ve 39 35 0,ve 40 35 1,vo 4 39])
abbrev f65_14:AC:=.seq (.seq (.ops [0,1,34] [] [vv 33 4,⟨none,.un (some 34) .not (.r 33)⟩]) (.cond (.r 34) .skip (.exit [0,1] [] 1))) f65_18
def f65_13:AC:=.loop [0,1,4] [] f65_14
theorem f65_13w:aC P id m f65_13 sf st Q = ar (aC P id m f65_14) [0,1,4] [] sf st Q:=rfl
abbrev f65_10:AC:=.cond (.r 24) (.seq (.block 1 f65_13) (.ops [] [] [vv 50 0,vv 51 1,⟨none,.call (some 52) false (.f 76) [(.r 50),(.r 51)]⟩])) (.ops [] [] [vv 12 0,vn 13 12,vd 14 13 4,vl 15 14,vb 16 .add 15 1,vn 17 12,vd 18 17 4,⟨none,.store 1 (.r 18) (.r 16)⟩])
abbrev f65_4:AC:=.seq (.ops [0,1,4,5,19] [] [vv 20 4,vo 19 20]) (.cond (.r 19) (.ops [] [] [vv 21 0,vv 22 1,⟨none,.call (some 23) false (.f 76) [(.r 21),(.r 22)]⟩]) (.seq f65_9 f65_10))
abbrev f65_1:AC:=.seq (.ops [0,1,4,5] [] [vv 7 0,vv 8 1,⟨none,.call (some 9) false (.f 63) [(.r 7),(.r 8)]⟩,vv 6 9,ve 10 6 0,ve 11 6 1,vo 4 10,vo 5 11]) (.block 0 f65_4)
def c_f65:AFun:=⟨53,[],f65_1⟩
theorem k_f65:kX x_f65 65 c_f65:=by delta kX; kernel_rfl
theorem e_f65:eX 65:=by delta eX; kernel_rfl

def n_f66:Nat:=66
def x_f66:=xX 22 [0,1,4,5,6,7,8,9,10,11,12,13,14,16,17,18,19,21] [] [(2,[0,1],[]),(6,[0,6,7],[]),(28,[0,6,7,15],[]),(116,[4,5],[]),(30,[6],[]),(62,[4,5],[])]
abbrev f66_4:AC:=.ops [0,6,7] [] [vv 9 0,vv 10 1,⟨none,.call (some 11) false (.f 77) [(.r 9),(.c (.lit (.int .i64 0))),(.r 10)]⟩,vv 8 11,ve 12 8 0,ve 13 8 1,vo 6 12,vo 7 13]
abbrev f66_6:AC:=.seq (.ops [0,6,7,15] [] [vv 14 7,vb 15 .neq 14 0]) (.cond (.r 15) (.seq (.ops [4,5] [] [vv 16 7,⟨none,.mv (some 4) (.c (.lit (.slice none 0 0)))⟩,vo 5 16]) .ret) .skip)
abbrev f66_11:AC:=.seq (.ops [6] [] [vv 17 0,vv 18 6,⟨none,.len (some 19) .sl (.r 18)⟩,⟨none,.call (some 20) false (.f 78) [(.r 17),(.r 19)]⟩]) (.seq (.ops [4,5] [] [vv 21 6,vo 4 21,⟨none,.mv (some 5) (.c (.lit (.int .i64 0)))⟩]) .ret)
abbrev f66_1:AC:=.seq (.ops [0,1] [] [⟨none,.mv (some 4) (.c (.lit (.slice none 0 0)))⟩,⟨none,.mv (some 5) (.c (.lit (.int .i64 0)))⟩]) (.seq f66_4 (.seq f66_6 f66_11))
def c_f66:AFun:=⟨22,[.tmp 4,.tmp 5],f66_1⟩
theorem k_f66:kX x_f66 66 c_f66:=by delta kX; kernel_rfl
theorem e_f66:eX 66:=by delta eX; kernel_rfl

def n_f67:Nat:=67
def x_f67:=xX 22 [0,1,4,5,6,8,9,11,12,15,18,19,21] [] [(2,[1,2],[2]),(12,[1,2,5],[2]),(26,[1,2,5],[2]),(208,[1,2,5,10],[2]),(419,[],[]),(840,[1,2,5,20],[2]),(3364,[4],[]),(211,[1,2,5],[2]),(14,[4],[])]
abbrev f67_9:AC:=.seq (.ops [1,2,5,10] [2] [vv 6 5,vd 7 2 1,vl 8 7,⟨none,.len (some 9) .sl (.r 8)⟩,⟨none,.bin (some 10) .num .lss (.r 6) (.r 9)⟩]) (.cond (.r 10) .skip (.exit [] [] 0))
abbrev f67_15:AC:=.ops [1,2,5,20] [2] [vd 13 2 1,vl 14 13,vv 15 5,⟨none,.ixS (some 16) (.r 14) (.r 15) 3⟩,vd 17 16 1,vl 18 17,vv 19 1,⟨none,.bin (some 20) .num .eql (.r 18) (.r 19)⟩]
abbrev f67_12:AC:=.seq (.block 1 (.seq f67_15 (.cond (.r 20) (.seq (.ops [4] [] [vv 21 5,vo 4 21]) .ret) .skip))) (.ops [1,2,5] [2] [vv 11 5,vb 12 .add 11 1,vo 5 12])
abbrev f67_8:AC:=.seq f67_9 f67_12
def f67_7:AC:=.loop [1,2,5] [2] f67_8
theorem f67_7w:aC P id m f67_7 sf st Q = ar (aC P id m f67_8) [1,2,5] [2] sf st Q:=rfl
abbrev f67_3:AC:=.seq (.seq (.ops [1,2,5] [2] [⟨none,.mv (some 5) (.c (.lit (.int .i64 0)))⟩]) (.block 0 f67_7)) (.seq (.ops [4] [] [⟨none,.mv (some 4) (.c (.lit (.int .i64 (-1))))⟩]) .ret)
abbrev f67_1:AC:=.seq (.ops [1,2] [2] [⟨none,.boxL 2 2 (.r 0)⟩,⟨none,.mv (some 4) (.c (.lit (.int .i64 0)))⟩]) f67_3
def c_f67:AFun:=⟨22,[.tmp 4],f67_1⟩
theorem k_f67:kX x_f67 67 c_f67:=by delta kX; kernel_rfl
theorem e_f67:eX 67:=by delta eX; kernel_rfl

def n_f68:Nat:=68
def x_f68:=xX 49 [0,1,2,6,7,8,10,11,12,13,15,16,18,19,22,24,26,27,28,29,31,32,33,34,35,37,38,39,40,41,42,43,44,46,47] [] [(2,[1,2,3],[3]),(6,[1,3,7],[3]),(28,[1,3,7,8],[3]),(58,[1,3,7,8],[3]),(464,[1,3,7,8,17],[3]),(931,[],[]),(1864,[1,3,7,8,9],[3,9]),(3730,[1,3,7,8,48],[3]),(14924,[6],[]),(467,[1,3,7,8],[3]),(30,[6],[])]
abbrev f68_11:AC:=.seq (.ops [1,3,7,8,17] [3] [vv 13 8,vd 14 3 0,vl 15 14,⟨none,.len (some 16) .sl (.r 15)⟩,⟨none,.bin (some 17) .num .lss (.r 13) (.r 16)⟩]) (.cond (.r 17) .skip (.exit [] [] 0))
abbrev f68_17:AC:=.ops [1,3,7,8,9] [3,9] [vd 20 3 0,vl 21 20,vv 22 8,⟨none,.ixS (some 23) (.r 21) (.r 22) 6⟩,⟨none,.load (some 24) (.r 23) (some 6)⟩,⟨none,.newL 9 [(.lit (.int .i64 0)),(.lit (.int .i64 0)),(.lit (.int .i64 0)),(.lit (.int .i64 0)),(.lit (.slice none 0 0)),(.lit (.int .i64 0))]⟩,⟨none,.store 6 (.r 9) (.r 24)⟩]
abbrev f68_19:AC:=.draw [1,3,7,8,48] [3] [] [vd 25 9 1,vl 26 25,vv 27 1,⟨none,.bin (some 28) .num .eql (.r 26) (.r 27)⟩,vv 29 28,⟨some (29,true),.addr (some 30) (.r 9) 3⟩,⟨some (29,true),.load (some 31) (.r 30) none⟩,⟨some (29,true),.bin (some 32) .num .eql (.r 31) (.c (.lit (.int .i64 3)))⟩,⟨none,.pick (some 33) (.r 29) (.r 32) (.c (.lit (.bool false)))⟩,vv 34 33,⟨some (34,true),.mv (some 35) (.r 7)⟩,⟨some (34,true),.addr (some 36) (.r 9) 2⟩,⟨some (34,true),.load (some 37) (.r 36) none⟩,⟨some (34,true),.bin (some 38) .num .leq (.r 35) (.r 37)⟩,⟨none,.pick (some 39) (.r 34) (.r 38) (.c (.lit (.bool false)))⟩,vv 40 39,⟨some (40,true),.load (some 41) (.r 9) (some 6)⟩,⟨some (40,true),.call (some 42) true (.f 79) [(.r 41)]⟩,⟨some (40,true),.mv (some 43) (.r 7)⟩,⟨some (40,true),.bin (some 44) .num .add (.r 42) (.r 43)⟩,⟨some (40,true),.addr (some 45) (.r 9) 2⟩,⟨some (40,true),.load (some 46) (.r 45) none⟩] [⟨some (40,true),.bin (some 47) .num .gtr (.r 44) (.r 46)⟩,⟨none,.pick (some 48) (.r 40) (.r 47) (.c (.lit (.bool false)))⟩]
abbrev f68_14:AC:=.seq (.block 1 (.seq f68_17 (.seq f68_19 (.cond (.r 48) (.seq (.ops [6] [] [⟨none,.mv (some 6) (.c (.lit (.bool false)))⟩]) .ret) .skip)))) (.ops [1,3,7,8] [3] [vv 18 8,vb 19 .add 18 1,vo 8 19])
abbrev f68_10:AC:=.seq f68_11 f68_14
def f68_9:AC:=.loop [1,3,7,8] [3] f68_10
theorem f68_9w:aC P id m f68_9 sf st Q = ar (aC P id m f68_10) [1,3,7,8] [3] sf st Q:=rfl
abbrev f68_5:AC:=.seq (.seq (.ops [1,3,7,8] [3] [⟨none,.mv (some 8) (.c (.lit (.int .i64 0)))⟩]) (.block 0 f68_9)) (.seq (.ops [6] [] [⟨none,.mv (some 6) (.c (.lit (.bool true)))⟩]) .ret)
abbrev f68_1:AC:=.seq (.ops [1,2,3] [3] [⟨none,.boxL 3 2 (.r 0)⟩,⟨none,.mv (some 6) (.c (.lit (.bool false)))⟩]) (.seq (.ops [1,3,7] [3] [vv 10 2,⟨none,.len (some 11) .sl (.r 10)⟩,vb 12 .add 11 2,vo 7 12]) f68_5)
def c_f68:AFun:=⟨49,[.tmp 6],f68_1⟩
theorem k_f68:kX x_f68 68 c_f68:=by delta kX; kernel_rfl
theorem e_f68:eX 68:=by delta eX; kernel_rfl

def n_f69:Nat:=69
def x_f69:=xX 37 [0,1,2,7,8,10,11,12,13,14,16,17,19,22,23,26,28,30,31,32,34,36] [7,11,25] [(2,[1,2,3,6],[3,6]),(6,[1,2,3,6,7],[3,6]),(28,[1,2,3,6,7,8],[3,6]),(58,[1,2,3,6,7,8],[3,6]),(464,[1,2,3,6,7,8,15],[3,6]),(931,[3,6,7],[3,6]),(1864,[1,2,3,6,7,8,24],[3,6]),(3730,[1,2,3,6,7,8],[3,6]),(467,[1,2,3,6,7,8],[3,6]),(30,[3,6],[3,6]),(62,[6],[6])]
abbrev f69_11:AC:=.seq (.ops [1,2,3,6,7,8,15] [3,6] [vv 12 8,vv 13 7,⟨none,.len (some 14) .sl (.r 13)⟩,⟨none,.bin (some 15) .num .lss (.r 12) (.r 14)⟩]) (.cond (.r 15) .skip (.exit [3,6,7] [3,6] 0))
abbrev f69_17:AC:=.ops [1,2,3,6,7,8,24] [3,6] [vv 18 7,vv 19 8,⟨none,.ixS (some 20) (.r 18) (.r 19) 6⟩,vd 21 20 1,vl 22 21,vv 23 1,⟨none,.bin (some 24) .num .eql (.r 22) (.r 23)⟩]
abbrev f69_19:AC:=.ops [1,2,3,6,7,8] [3,6] [vv 25 7,vv 26 8,vv 27 7,vv 28 8,⟨none,.ixS (some 29) (.r 27) (.r 28) 6⟩,⟨none,.load (some 30) (.r 29) (some 6)⟩,vv 31 2,⟨none,.call (some 32) false (.f 80) [(.r 30),(.r 31)]⟩,⟨none,.ixS (some 33) (.r 25) (.r 26) 6⟩,⟨none,.store 6 (.r 33) (.r 32)⟩]
abbrev f69_10:AC:=.seq f69_11 (.seq (.block 1 (.seq f69_17 (.cond (.r 24) f69_19 .skip))) (.ops [1,2,3,6,7,8] [3,6] [vv 16 8,vb 17 .add 16 1,vo 8 17]))
def f69_9:AC:=.loop [1,2,3,6,7,8] [3,6] f69_10
theorem f69_9w:aC P id m f69_9 sf st Q = ar (aC P id m f69_10) [1,2,3,6,7,8] [3,6] sf st Q:=rfl
abbrev f69_21:AC:=.seq (.ops [3,6] [3,6] [vv 34 7,vd 35 3 0,⟨none,.store 1 (.r 35) (.r 34)⟩]) (.seq (.ops [6] [6] [⟨none,.load (some 36) (.r 3) (some 2)⟩,⟨none,.store 2 (.r 6) (.r 36)⟩]) .ret)
abbrev f69_3:AC:=.seq (.ops [1,2,3,6,7] [3,6] [vd 9 3 0,vl 10 9,⟨none,.x (some 11) (.appB (.c (.lit (.slice none 0 0))) 6 64 (.r 10))⟩,vo 7 11]) (.seq (.seq (.ops [1,2,3,6,7,8] [3,6] [⟨none,.mv (some 8) (.c (.lit (.int .i64 0)))⟩]) (.block 0 f69_9)) f69_21)
abbrev f69_1:AC:=.seq (.ops [1,2,3,6] [3,6] [⟨none,.boxL 3 2 (.r 0)⟩,⟨none,.newL 6 [(.lit (.slice none 0 0)),(.lit (.slice none 0 0))]⟩]) f69_3
def c_f69:AFun:=⟨37,[.cell 6 (some 2)],f69_1⟩
theorem k_f69:kX x_f69 69 c_f69:=by delta kX; kernel_rfl
theorem e_f69:eX 69:=by delta eX; kernel_rfl

def n_f70:Nat:=70
def x_f70:=xX 22 [0,1,4,5,6,8,9,11,12,15,18,19,21] [] [(2,[1,2],[2]),(12,[1,2,5],[2]),(26,[1,2,5],[2]),(208,[1,2,5,10],[2]),(419,[],[]),(840,[1,2,5,20],[2]),(3364,[4],[]),(211,[1,2,5],[2]),(14,[4],[])]
abbrev f70_9:AC:=.seq (.ops [1,2,5,10] [2] [vv 6 5,vd 7 2 1,vl 8 7,⟨none,.len (some 9) .sl (.r 8)⟩,⟨none,.bin (some 10) .num .lss (.r 6) (.r 9)⟩]) (.cond (.r 10) .skip (.exit [] [] 0))
abbrev f70_15:AC:=.ops [1,2,5,20] [2] [vd 13 2 1,vl 14 13,vv 15 5,⟨none,.ixS (some 16) (.r 14) (.r 15) 3⟩,vd 17 16 0,vl 18 17,vv 19 1,⟨none,.bin (some 20) .num .eql (.r 18) (.r 19)⟩]
abbrev f70_12:AC:=.seq (.block 1 (.seq f70_15 (.cond (.r 20) (.seq (.ops [4] [] [vv 21 5,vo 4 21]) .ret) .skip))) (.ops [1,2,5] [2] [vv 11 5,vb 12 .add 11 1,vo 5 12])
abbrev f70_8:AC:=.seq f70_9 f70_12
def f70_7:AC:=.loop [1,2,5] [2] f70_8
theorem f70_7w:aC P id m f70_7 sf st Q = ar (aC P id m f70_8) [1,2,5] [2] sf st Q:=rfl
abbrev f70_3:AC:=.seq (.seq (.ops [1,2,5] [2] [⟨none,.mv (some 5) (.c (.lit (.int .i64 0)))⟩]) (.block 0 f70_7)) (.seq (.ops [4] [] [⟨none,.mv (some 4) (.c (.lit (.int .i64 (-1))))⟩]) .ret)
abbrev f70_1:AC:=.seq (.ops [1,2] [2] [⟨none,.boxL 2 2 (.r 0)⟩,⟨none,.mv (some 4) (.c (.lit (.int .i64 0)))⟩]) f70_3
def c_f70:AFun:=⟨22,[.tmp 4],f70_1⟩
theorem k_f70:kX x_f70 70 c_f70:=by delta kX; kernel_rfl
theorem e_f70:eX 70:=by delta eX; kernel_rfl

def n_f71:Nat:=71
def x_f71:=xX 48 [0,1,5,6,7,9,10,11,12,13,14,15,16,19,22,23,25,26,27,30,32,33,34,35,36,38,39,40,42,43,44,45,46,47] [39] [(2,[1,2,4],[2,4]),(6,[1,2,4,6],[2,4]),(28,[1,2,4,6,7],[2,4]),(58,[1,2,4,6,7],[2,4]),(464,[1,2,4,6,7,24],[2,4]),(931,[2,4,6],[2,4]),(1864,[1,2,4,6,7,8],[2,4,8]),(3730,[1,2,4,6,8],[2,4,8]),(3731,[1,2,4,6],[2,4]),(467,[1,2,4,6,7],[2,4]),(30,[4,5],[4])]
abbrev f71_2:AC:=.ops [1,2,4] [2,4] [⟨none,.boxL 2 2 (.r 0)⟩,⟨none,.newL 4 [(.lit (.slice none 0 0)),(.lit (.slice none 0 0))]⟩,⟨none,.mv (some 5) (.c (.lit (.slice none 0 0)))⟩]
abbrev f71_12:AC:=.draw [1,2,4,6,7,24] [2,4] [] [vv 12 7,vb 13 .geq 12 0,vv 14 13,⟨some (14,true),.load (some 15) (.r 2) (some 2)⟩,⟨some (14,true),.mv (some 16) (.r 1)⟩,⟨some (14,true),.addr (some 17) (.r 2) 1⟩,⟨some (14,true),.load (some 18) (.r 17) none⟩,⟨some (14,true),.mv (some 19) (.r 7)⟩,⟨some (14,true),.ixS (some 20) (.r 18) (.r 19) 3⟩,⟨some (14,true),.addr (some 21) (.r 20) 2⟩,⟨some (14,true),.load (some 22) (.r 21) none⟩] [⟨some (14,true),.call (some 23) false (.f 68) [(.r 15),(.r 16),(.r 22)]⟩,⟨none,.pick (some 24) (.r 14) (.r 23) (.c (.lit (.bool false)))⟩]
abbrev f71_17:AC:=.ops [1,2,4,6,7,8] [2,4,8] [vd 28 2 1,vl 29 28,vv 30 7,⟨none,.ixS (some 31) (.r 29) (.r 30) 3⟩,⟨none,.load (some 32) (.r 31) (some 3)⟩,⟨none,.newL 8 [(.lit (.int .i64 0)),(.lit (.int .i64 0)),(.lit (.slice none 0 0))]⟩,⟨none,.store 3 (.r 8) (.r 32)⟩]
abbrev f71_19:AC:=.draw [1,2,4,6,8] [2,4,8] [] [⟨none,.load (some 33) (.r 2) (some 2)⟩,vv 34 7,⟨none,.call (some 35) true (.f 72) [(.r 33),(.r 34)]⟩,vv 36 1,vd 37 8 2,vl 38 37] [⟨none,.call (some 39) false (.f 69) [(.r 35),(.r 36),(.r 38)]⟩,⟨none,.store 2 (.r 2) (.r 39)⟩]
abbrev f71_20:AC:=.ops [1,2,4,6] [2,4] [vo 40 6,vd 41 8 0,vl 42 41,⟨none,.bst (some 43) [(0,1),(1,1),(2,1),(3,1)] (.agg [(.lit (.int .i64 0)),(.lit (.int .i64 0)),(.lit (.int .i64 0)),(.lit (.int .i64 0))]) [(0,(.r 42))]⟩,⟨none,.bsl (some 44) 4 1 (.agg [(.lit (.int .i64 0)),(.lit (.int .i64 0)),(.lit (.int .i64 0)),(.lit (.int .i64 0))]) [(0,(.r 43))]⟩,⟨none,.appS 45 40 4 32 (.r 44)⟩,vo 6 45]
abbrev f71_14:AC:=.seq (.block 1 (.seq f71_17 (.seq f71_19 f71_20))) (.ops [1,2,4,6,7] [2,4] [⟨none,.load (some 25) (.r 2) (some 2)⟩,vv 26 1,⟨none,.call (some 27) false (.f 67) [(.r 25),(.r 26)]⟩,vo 7 27])
abbrev f71_10:AC:=.seq (.seq f71_12 (.cond (.r 24) .skip (.exit [2,4,6] [2,4] 0))) f71_14
def f71_9:AC:=.loop [1,2,4,6,7] [2,4] f71_10
theorem f71_9w:aC P id m f71_9 sf st Q = ar (aC P id m f71_10) [1,2,4,6,7] [2,4] sf st Q:=rfl
abbrev f71_6:AC:=.seq (.ops [1,2,4,6,7] [2,4] [⟨none,.load (some 9) (.r 2) (some 2)⟩,vv 10 1,⟨none,.call (some 11) false (.f 67) [(.r 9),(.r 10)]⟩,vo 7 11]) (.block 0 f71_9)
abbrev f71_3:AC:=.seq (.ops [1,2,4,6] [2,4] [⟨none,.mv (some 6) (.c (.lit (.slice none 0 0)))⟩]) (.seq f71_6 (.seq (.ops [4,5] [4] [⟨none,.load (some 46) (.r 2) (some 2)⟩,vv 47 6,⟨none,.store 2 (.r 4) (.r 46)⟩,vo 5 47]) .ret))
abbrev f71_1:AC:=.seq f71_2 f71_3
def c_f71:AFun:=⟨48,[.cell 4 (some 2),.tmp 5],f71_1⟩
theorem k_f71:kX x_f71 71 c_f71:=by delta kX; kernel_rfl
theorem e_f71:eX 71:=by delta eX; kernel_rfl

def n_f72:Nat:=72
def x_f72:=xX 18 [0,1,6,7,8,9,11,12,13,14,15,17] [] [(2,[1,2,4],[2,4]),(6,[2,4],[2,4]),(14,[4],[4])]
abbrev f72_4:AC:=.draw [2,4] [2,4] [] [vd 5 2 1,vl 6 5,vv 7 1,⟨none,.sliS (some 8) (.r 6) none (some (.r 7)) 3⟩,⟨none,.app (some 9) 3 40 (.c (.lit (.slice none 0 0))) (.r 8)⟩,vd 10 2 1,vl 11 10,vv 12 1,vb 13 .add 12 1,⟨none,.sliS (some 14) (.r 11) (some (.r 13)) none 3⟩] [⟨none,.appS 15 9 3 40 (.r 14)⟩,vd 16 2 1,⟨none,.store 1 (.r 16) (.r 15)⟩]
abbrev f72_1:AC:=.seq (.ops [1,2,4] [2,4] [⟨none,.boxL 2 2 (.r 0)⟩,⟨none,.newL 4 [(.lit (.slice none 0 0)),(.lit (.slice none 0 0))]⟩]) (.seq f72_4 (.seq (.ops [4] [4] [⟨none,.load (some 17) (.r 2) (some 2)⟩,⟨none,.store 2 (.r 4) (.r 17)⟩]) .ret))
def c_f72:AFun:=⟨18,[.cell 4 (some 2)],f72_1⟩
theorem k_f72:kX x_f72 72 c_f72:=by delta kX; kernel_rfl
theorem e_f72:eX 72:=by delta eX; kernel_rfl

def n_f74:Nat:=74
def x_f74:=xX 8 [0,2,3,4,5,6,7] [] [(2,[0],[]),(6,[2],[])]
abbrev f74_4:AC:=.ops [2] [] [vv 3 0,⟨none,.call (some 4) false (.f 75) [(.r 3)]⟩,vv 5 0,⟨none,.call (some 6) false (.f 81) [(.r 5)]⟩,⟨none,.bin (some 7) .num .sub (.r 4) (.r 6)⟩,vo 2 7]
abbrev f74_1:AC:=.seq (.ops [0] [] [⟨none,.mv (some 2) (.c (.lit (.int .i64 0)))⟩]) (.seq f74_4 .ret)
def c_f74:AFun:=⟨8,[.tmp 2],f74_1⟩
theorem k_f74:kX x_f74 74 c_f74:=by delta kX; kernel_rfl
theorem e_f74:eX 74:=by delta eX; kernel_rfl

def n_f75:Nat:=75
def x_f75:=xX 10 [0,2,3,8,9] [] [(2,[0],[]),(12,[0,4],[]),(52,[2],[]),(14,[2],[])]
abbrev f75_4:AC:=.seq (.ops [0,4] [] [vv 3 0,⟨none,.call (some 4) false (.f 58) [(.r 3)]⟩]) (.cond (.r 4) (.seq (.ops [2] [] [⟨none,.mv (some 2) (.c (.lit (.int .i64 0)))⟩]) .ret) .skip)
abbrev f75_1:AC:=.seq (.ops [0] [] [⟨none,.mv (some 2) (.c (.lit (.int .i64 0)))⟩]) (.seq f75_4 (.seq (.ops [2] [] [vv 5 0,vn 6 5,vd 7 6 0,vl 8 7,⟨none,.len (some 9) .sl (.r 8)⟩,vo 2 9]) .ret))
def c_f75:AFun:=⟨10,[.tmp 2],f75_1⟩
theorem k_f75:kX x_f75 75 c_f75:=by delta kX; kernel_rfl
theorem e_f75:eX 75:=by delta eX; kernel_rfl

def n_f76:Nat:=76
def x_f76:=xX 30 [1,7,8,9,10,11,12,13,14,15,20,21,26,27] [] [(2,[0,1],[]),(6,[0],[]),(7,[],[])]
abbrev f76_2:AC:=.ops [0,1] [] [vv 4 0,vn 5 4,vd 6 5 2,vl 7 6,vv 8 1,⟨none,.len (some 9) .sl (.r 8)⟩,⟨none,.bin (some 10) .num .shr (.r 9) (.c (.lit (.int .u64 8)))⟩,⟨none,.conv (some 11) (.int .u8) (.r 10)⟩,vv 12 1,⟨none,.len (some 13) .sl (.r 12)⟩,⟨none,.conv (some 14) (.int .u8) (.r 13)⟩,⟨none,.bsl (some 15) 1 2 (.lit (.int .u8 0)) [(0,(.r 11)),(1,(.r 14))]⟩,⟨none,.call (some 16) false (.f 82) [(.r 7),(.r 15)]⟩]
abbrev f76_3:AC:=.seq (.ops [0] [] [vv 17 0,vn 18 17,vd 19 18 2,vl 20 19,vv 21 1,⟨none,.call (some 22) false (.f 82) [(.r 20),(.r 21)]⟩]) (.ops [] [] [vv 23 0,vn 24 23,vd 25 24 3,vl 26 25,vb 27 .add 26 1,vn 28 23,vd 29 28 3,⟨none,.store 1 (.r 29) (.r 27)⟩])
abbrev f76_1:AC:=.seq f76_2 f76_3
def c_f76:AFun:=⟨30,[],f76_1⟩
theorem k_f76:kX x_f76 76 c_f76:=by delta kX; kernel_rfl
theorem e_f76:eX 76:=by delta eX; kernel_rfl

def n_f77:Nat:=77
def x_f77:=xX 55 [0,1,2,6,7,8,9,11,13,14,16,17,18,19,20,21,23,27,28,29,33,34,35,36,37,38,39,40,41,42,43,45,46,47,48,49,50,51,52,53,54] [8,37,47,49] [(2,[0,1,2],[]),(24,[0,1,2,12],[]),(100,[6,7],[]),(102,[0,1,2,15],[]),(412,[6,7],[]),(414,[0,1,2,22],[]),(1660,[6,7],[]),(14,[0,1,8],[]),(30,[0,1,8,9],[]),(124,[8,9,42,43],[]),(250,[8,9,42,43],[]),(1000,[8,9,42,43,44],[]),(4005,[8],[]),(16024,[8,9,11,42,43],[]),(16025,[8,9,42,43],[]),(4007,[8,9,42,43],[]),(126,[6,7],[])]
abbrev f77_11:AC:=.ops [0,1,2,15] [] [vv 16 1,vb 17 .lss 16 0,vv 18 17,⟨some (18,false),.mv (some 19) (.r 2)⟩,⟨some (18,false),.bin (some 20) .num .lss (.r 19) (.c (.lit (.int .i64 0)))⟩,⟨none,.pick (some 21) (.r 18) (.c (.lit (.bool true))) (.r 20)⟩,vo 15 21]
abbrev f77_15:AC:=.seq (.ops [0,1,2,22] [] [vv 23 1,vv 24 0,vn 25 24,vd 26 25 2,vl 27 26,⟨none,.bin (some 28) .num .geq (.r 23) (.r 27)⟩,vo 22 28]) (.cond (.r 22) (.seq (.ops [6,7] [] [⟨none,.mv (some 6) (.c (.lit (.slice none 0 0)))⟩,⟨none,.mv (some 7) (.c (.lit (.int .i64 0)))⟩]) .ret) .skip)
abbrev f77_10:AC:=.seq f77_11 (.cond (.r 15) (.seq (.ops [6,7] [] [⟨none,.mv (some 6) (.c (.lit (.slice none 0 0)))⟩,⟨none,.mv (some 7) (.c (.lit (.int .i64 2)))⟩]) .ret) f77_15)
abbrev f77_5:AC:=.seq (.ops [0,1,2,12] [] [vv 13 0,⟨none,.call (some 14) false (.f 58) [(.r 13)]⟩,vo 12 14]) (.cond (.r 12) (.seq (.ops [6,7] [] [⟨none,.mv (some 6) (.c (.lit (.slice none 0 0)))⟩,⟨none,.mv (some 7) (.c (.lit (.int .i64 1)))⟩]) .ret) f77_10)
abbrev f77_21:AC:=.ops [0,1,8] [] [vv 29 2,vv 30 0,vn 31 30,vd 32 31 2,vl 33 32,vv 34 1,⟨none,.bin (some 35) .num .sub (.r 33) (.r 34)⟩,⟨none,.mn (some 36) true (.r 29) (.r 35)⟩,⟨none,.x (some 37) (.mksB 1 1 (.lit (.int .u8 0)) (.r 36) (.r 36))⟩,vo 8 37]
abbrev f77_26:AC:=.ops [8,9,42,43] [] [vv 38 0,vv 39 1,vv 40 8,⟨none,.len (some 41) .sl (.r 40)⟩,⟨none,.call (some 42) false (.f 83) [(.r 38),(.r 39),(.r 41)]⟩,⟨none,.mv (some 43) (.c (.lit (.int .i64 0)))⟩]
abbrev f77_37:AC:=.ops [8,9,42,43] [] [vv 46 9,vv 47 8,vv 48 9,⟨none,.sliOwn 49 47 (.r 48) 1⟩,vv 50 11,⟨none,.x (some 51) (.copyB 1 (.r 49) (.r 50))⟩,⟨none,.bin (some 52) .num .add (.r 46) (.r 51)⟩,vo 9 52]
abbrev f77_33:AC:=.seq (.block 2 (.seq (.ops [8,9,11,42,43] [] [⟨none,.ixArr (some 45) (.r 42) (.r 43) 2 1 none⟩,vo 11 45]) f77_37)) (.ops [8,9,42,43] [] [vb 53 .add 43 1,vv 43 53])
abbrev f77_29:AC:=.seq (.ops [8,9,42,43,44] [] [vb 44 .lss 43 2]) (.seq (.cond (.r 44) .skip (.exit [8] [] 1)) f77_33)
def f77_28:AC:=.loop [8,9,42,43] [] f77_29
theorem f77_28w:aC P id m f77_28 sf st Q = ar (aC P id m f77_29) [8,9,42,43] [] sf st Q:=rfl
abbrev f77_22:AC:=.seq (.ops [0,1,8,9] [] [⟨none,.mv (some 9) (.c (.lit (.int .i64 0)))⟩]) (.seq (.seq f77_26 (.block 1 f77_28)) (.seq (.ops [6,7] [] [vv 54 8,vo 6 54,⟨none,.mv (some 7) (.c (.lit (.int .i64 0)))⟩]) .ret))
abbrev f77_1:AC:=.seq (.ops [0,1,2] [] [⟨none,.mv (some 6) (.c (.lit (.slice none 0 0)))⟩,⟨none,.mv (some 7) (.c (.lit (.int .i64 0)))⟩]) (.seq (.block 0 f77_5) (.seq f77_21 f77_22))
def c_f77:AFun:=⟨55,[.tmp 6,.tmp 7],f77_1⟩
theorem k_f77:kX x_f77 77 c_f77:=by delta kX; kernel_rfl
theorem e_f77:eX 77:=by delta eX; kernel_rfl

def n_f78:Nat:=78
def x_f78:=xX 54 [0,1,4,5,6,8,10,11,13,14,15,19,20,21,22,23,24,26,27,28,34,35,36,40,41,42,46,47,48,53] [8,26,27] [(3000000021,[1],[]),(2,[0,1],[]),(24,[0,1,9],[]),(100,[4,5],[]),(102,[0,1,12],[]),(412,[4,5],[]),(14,[0,6],[]),(60,[0,6,23,24],[]),(122,[0,6,23,24],[]),(488,[0,6,23,24,25],[]),(1957,[0,6],[]),(7832,[0,6,8,23,24],[]),(7833,[0,6,23,24],[]),(1959,[0,6,23,24],[]),(62,[6],[]),(126,[4,5],[])]
abbrev f78_10:AC:=.seq (.ops [0,1,12] [] [vv 13 1,vb 14 .lss 13 0,vo 12 14]) (.cond (.r 12) (.seq (.ops [4,5] [] [⟨none,.mv (some 4) (.c (.lit (.int .i64 0)))⟩,⟨none,.mv (some 5) (.c (.lit (.int .i64 2)))⟩]) .ret) .skip)
abbrev f78_5:AC:=.seq (.ops [0,1,9] [] [vv 10 0,⟨none,.call (some 11) false (.f 58) [(.r 10)]⟩,vo 9 11]) (.cond (.r 9) (.seq (.ops [4,5] [] [⟨none,.mv (some 4) (.c (.lit (.int .i64 0)))⟩,⟨none,.mv (some 5) (.c (.lit (.int .i64 1)))⟩]) .ret) f78_10)
abbrev f78_19:AC:=.ops [0,6,23,24] [] [vv 21 0,vv 22 6,⟨none,.call (some 23) false (.f 83) [(.r 21),(.c (.lit (.int .i64 0))),(.r 22)]⟩,⟨none,.mv (some 24) (.c (.lit (.int .i64 0)))⟩]
abbrev f78_28:AC:=.seq (.ops [0,6,8,23,24] [] [⟨none,.ixArr (some 26) (.r 23) (.r 24) 2 1 none⟩,vo 8 26]) (.ops [0,6,23,24] [] [vv 27 8,⟨none,.x none (.clrB 1 (.lit (.int .u8 0)) (.r 27))⟩])
abbrev f78_22:AC:=.seq (.ops [0,6,23,24,25] [] [vb 25 .lss 24 2]) (.seq (.cond (.r 25) .skip (.exit [0,6] [] 1)) (.seq (.block 2 f78_28) (.ops [0,6,23,24] [] [vb 28 .add 24 1,vv 24 28])))
def f78_21:AC:=.loop [0,6,23,24] [] f78_22
theorem f78_21w:aC P id m f78_21 sf st Q = ar (aC P id m f78_22) [0,6,23,24] [] sf st Q:=rfl
abbrev f78_33:AC:=.draw [6] [] [] [vv 29 0,vv 30 0,vv 31 0,vn 32 31,vd 33 32 1,vl 34 33,vv 35 6,⟨none,.bin (some 36) .num .add (.r 34) (.r 35)⟩,vv 37 0,vn 38 37,vd 39 38 0,vl 40 39,⟨none,.len (some 41) .sl (.r 40)⟩,⟨none,.bin (some 42) .num .rem (.r 36) (.r 41)⟩,vv 43 0,vn 44 43,vd 45 44 2,vl 46 45,vv 47 6,⟨none,.bin (some 48) .num .sub (.r 46) (.r 47)⟩] [vn 49 29,vd 50 49 1,⟨none,.store 1 (.r 50) (.r 42)⟩,vn 51 30,vd 52 51 2,⟨none,.store 1 (.r 52) (.r 48)⟩]
abbrev f78_15:AC:=.seq (.ops [0,6] [] [vv 15 1,vv 16 0,vn 17 16,vd 18 17 2,vl 19 18,⟨none,.mn (some 20) true (.r 15) (.r 19)⟩,vo 6 20]) (.seq (.seq f78_19 (.block 1 f78_21)) (.seq f78_33 (.seq (.ops [4,5] [] [vv 53 6,vo 4 53,⟨none,.mv (some 5) (.c (.lit (.int .i64 0)))⟩]) .ret)))
abbrev f78_1:AC:=.seq (.ops [0,1] [] [⟨none,.mv (some 4) (.c (.lit (.int .i64 0)))⟩,⟨none,.mv (some 5) (.c (.lit (.int .i64 0)))⟩]) (.seq (.block 0 f78_5) f78_15)
def c_f78:AFun:=⟨54,[.tmp 4,.tmp 5],f78_1⟩
theorem k_f78:kX x_f78 78 c_f78:=by delta kX; kernel_rfl
theorem e_f78:eX 78:=by delta eX; kernel_rfl

def n_f79:Nat:=79
def x_f79:=xX 22 [0,2,3,4,5,7,8,10,11,12,15,17,18,19,20,21] [] [(2,[1],[1]),(6,[1,3],[1]),(28,[1,3,4],[1]),(58,[1,3,4],[1]),(464,[1,3,4,9],[1]),(931,[3],[]),(932,[1,3,4],[1]),(467,[1,3,4],[1]),(30,[2],[])]
abbrev f79_11:AC:=.seq (.ops [1,3,4,9] [1] [vv 5 4,vd 6 1 4,vl 7 6,⟨none,.len (some 8) .sl (.r 7)⟩,⟨none,.bin (some 9) .num .lss (.r 5) (.r 8)⟩]) (.cond (.r 9) .skip (.exit [3] [] 0))
abbrev f79_16:AC:=.ops [1,3,4] [1] [vv 12 3,vd 13 1 4,vl 14 13,vv 15 4,⟨none,.ixS (some 16) (.r 14) (.r 15) 1⟩,vl 17 16,⟨none,.len (some 18) .sl (.r 17)⟩,⟨none,.bin (some 19) .num .add (.r 12) (.r 18)⟩,vb 20 .add 19 2,vo 3 20]
abbrev f79_10:AC:=.seq f79_11 (.seq (.block 1 f79_16) (.ops [1,3,4] [1] [vv 10 4,vb 11 .add 10 1,vo 4 11]))
def f79_9:AC:=.loop [1,3,4] [1] f79_10
theorem f79_9w:aC P id m f79_9 sf st Q = ar (aC P id m f79_10) [1,3,4] [1] sf st Q:=rfl
abbrev f79_3:AC:=.seq (.ops [1,3] [1] [⟨none,.mv (some 3) (.c (.lit (.int .i64 0)))⟩]) (.seq (.seq (.ops [1,3,4] [1] [⟨none,.mv (some 4) (.c (.lit (.int .i64 0)))⟩]) (.block 0 f79_9)) (.seq (.ops [2] [] [vv 21 3,vo 2 21]) .ret))
abbrev f79_1:AC:=.seq (.ops [1] [1] [⟨none,.boxL 1 6 (.r 0)⟩,⟨none,.mv (some 2) (.c (.lit (.int .i64 0)))⟩]) f79_3
def c_f79:AFun:=⟨22,[.tmp 2],f79_1⟩
theorem k_f79:kX x_f79 79 c_f79:=by delta kX; kernel_rfl
theorem e_f79:eX 79:=by delta eX; kernel_rfl

def n_f80:Nat:=80
def x_f80:=xX 56 [0,1,5,6,7,8,9,11,12,13,15,16,17,18,19,20,21,23,24,25,28,29,31,32,33,34,35,37,40,41,44,45,48,49,50,51,52,53,55] [] [(2,[1,2,4],[2,4]),(6,[1,2,4,5],[2,4]),(28,[1,2,4,5,26],[2,4]),(116,[2,4],[2,4]),(234,[4],[4]),(60,[1,2,4,5],[2,4]),(480,[1,2,4,5,38],[2,4]),(963,[1,2,4],[2,4]),(964,[1,2,4,5],[2,4]),(965,[1,2,4,5],[2,4]),(62,[2,4],[2,4]),(126,[4],[4])]
abbrev f80_2:AC:=.ops [1,2,4] [2,4] [⟨none,.boxL 2 6 (.r 0)⟩,⟨none,.newL 4 [(.lit (.int .i64 0)),(.lit (.int .i64 0)),(.lit (.int .i64 0)),(.lit (.int .i64 0)),(.lit (.slice none 0 0)),(.lit (.int .i64 0))]⟩]
abbrev f80_7:AC:=.draw [1,2,4,5,26] [2,4] [] [vv 9 5,vd 10 2 2,vl 11 10,⟨none,.bin (some 12) .num .gtr (.r 9) (.r 11)⟩,vv 13 12,⟨some (13,false),.addr (some 14) (.r 2) 3⟩,⟨some (13,false),.load (some 15) (.r 14) none⟩,⟨some (13,false),.bin (some 16) .num .neq (.r 15) (.c (.lit (.int .i64 1)))⟩,⟨some (13,false),.mv (some 17) (.r 16)⟩,⟨some (17,true),.load (some 18) (.r 2) (some 6)⟩,⟨some (17,true),.call (some 19) true (.f 79) [(.r 18)]⟩,⟨some (17,true),.mv (some 20) (.r 5)⟩,⟨some (17,true),.bin (some 21) .num .add (.r 19) (.r 20)⟩,⟨some (17,true),.addr (some 22) (.r 2) 2⟩,⟨some (17,true),.load (some 23) (.r 22) none⟩] [⟨some (17,true),.bin (some 24) .num .gtr (.r 21) (.r 23)⟩,⟨some (13,false),.pick (some 25) (.r 17) (.r 24) (.c (.lit (.bool false)))⟩,⟨none,.pick (some 26) (.r 13) (.c (.lit (.bool true))) (.r 25)⟩]
abbrev f80_9:AC:=.seq (.ops [2,4] [2,4] [vd 27 2 5,vl 28 27,vb 29 .add 28 1,vd 30 2 5,⟨none,.store 1 (.r 30) (.r 29)⟩]) (.seq (.ops [4] [4] [⟨none,.load (some 31) (.r 2) (some 6)⟩,⟨none,.store 6 (.r 4) (.r 31)⟩]) .ret)
abbrev f80_18:AC:=.draw [1,2,4,5,38] [2,4] [] [⟨none,.load (some 32) (.r 2) (some 6)⟩,⟨none,.call (some 33) true (.f 79) [(.r 32)]⟩,vv 34 5,⟨none,.bin (some 35) .num .add (.r 33) (.r 34)⟩,vd 36 2 2,vl 37 36] [⟨none,.bin (some 38) .num .gtr (.r 35) (.r 37)⟩]
abbrev f80_17:AC:=.seq f80_18 (.cond (.r 38) .skip (.exit [1,2,4] [2,4] 0))
abbrev f80_22:AC:=.ops [1,2,4,5] [2,4] [vd 39 2 4,⟨none,.loadOwn 40 (.r 39)⟩,⟨none,.sliOwn 41 40 (.c (.lit (.int .i64 1))) 1⟩,vd 42 2 4,⟨none,.store 1 (.r 42) (.r 41)⟩]
abbrev f80_20:AC:=.block 1 (.seq f80_22 (.ops [1,2,4,5] [2,4] [vd 43 2 5,vl 44 43,vb 45 .add 44 1,vd 46 2 5,⟨none,.store 1 (.r 46) (.r 45)⟩]))
def f80_16:AC:=.seq f80_17 f80_20
theorem f80_16e:SQ f80_16 f80_17 f80_20:=rfl
def f80_15:AC:=.loop [1,2,4,5] [2,4] f80_16
theorem f80_15w:aC P id m f80_15 sf st Q = ar (aC P id m f80_16) [1,2,4,5] [2,4] sf st Q:=rfl
abbrev f80_25:AC:=.ops [2,4] [2,4] [vd 47 2 4,vl 48 47,⟨none,.app (some 49) 1 24 (.c (.lit (.slice none 0 0))) (.r 48)⟩,vv 50 1,⟨none,.app (some 51) 1 1 (.c (.lit (.slice none 0 0))) (.r 50)⟩,⟨none,.bsl (some 52) 1 1 (.lit (.slice none 0 0)) [(0,(.r 51))]⟩,⟨none,.appS 53 49 1 24 (.r 52)⟩,vd 54 2 4,⟨none,.store 1 (.r 54) (.r 53)⟩]
abbrev f80_26:AC:=.seq (.ops [4] [4] [⟨none,.load (some 55) (.r 2) (some 6)⟩,⟨none,.store 6 (.r 4) (.r 55)⟩]) .ret
def f80_24:AC:=.seq f80_25 f80_26
theorem f80_24e:SQ f80_24 f80_25 f80_26:=rfl
abbrev f80_3:AC:=.seq (.ops [1,2,4,5] [2,4] [vv 6 1,⟨none,.len (some 7) .sl (.r 6)⟩,vb 8 .add 7 2,vo 5 8]) (.seq (.seq f80_7 (.cond (.r 26) f80_9 .skip)) (.seq (.block 0 f80_15) f80_24))
abbrev f80_1:AC:=.seq f80_2 f80_3
def c_f80:AFun:=⟨56,[.cell 4 (some 6)],f80_1⟩
theorem k_f80:kX x_f80 80 c_f80:=by delta kX; kernel_rfl
theorem e_f80:eX 80:=by delta eX; kernel_rfl

def n_f81:Nat:=81
def x_f81:=xX 9 [0,2,3,8] [] [(2,[0],[]),(12,[0,4],[]),(52,[2],[]),(14,[2],[])]
abbrev f81_4:AC:=.seq (.ops [0,4] [] [vv 3 0,⟨none,.call (some 4) false (.f 58) [(.r 3)]⟩]) (.cond (.r 4) (.seq (.ops [2] [] [⟨none,.mv (some 2) (.c (.lit (.int .i64 0)))⟩]) .ret) .skip)
abbrev f81_1:AC:=.seq (.ops [0] [] [⟨none,.mv (some 2) (.c (.lit (.int .i64 0)))⟩]) (.seq f81_4 (.seq (.ops [2] [] [vv 5 0,vn 6 5,vd 7 6 2,vl 8 7,vo 2 8]) .ret))
def c_f81:AFun:=⟨9,[.tmp 2],f81_1⟩
theorem k_f81:kX x_f81 81 c_f81:=by delta kX; kernel_rfl
theorem e_f81:eX 81:=by delta eX; kernel_rfl

def n_f82:Nat:=82
def x_f82:=xX 50 [0,1,4,5,6,7,9,11,12,14,15,16,17,18,19,20,21,22,26,27,28,29,31,32,33,34,35,36,37,38,39,40,44,45,46,49] [9,31,33] [(2,[0,1],[]),(24,[0,1,10],[]),(100,[4,5],[]),(102,[0,1,13],[]),(412,[4,5],[]),(14,[0,1,6],[]),(30,[0,1,6,7],[]),(124,[0,1,6,7,28,29],[]),(250,[0,1,6,7,28,29],[]),(1000,[0,1,6,7,28,29,30],[]),(4005,[0,6],[]),(16024,[0,1,6,7,9,28,29],[]),(16025,[0,1,6,7,28,29],[]),(4007,[0,1,6,7,28,29],[]),(126,[6],[]),(254,[4,5],[])]
abbrev f82_10:AC:=.seq (.ops [0,1,13] [] [vv 14 1,⟨none,.len (some 15) .sl (.r 14)⟩,vb 16 .gtr 15 65536,vo 13 16]) (.cond (.r 13) (.seq (.ops [4,5] [] [⟨none,.mv (some 4) (.c (.lit (.int .i64 0)))⟩,⟨none,.mv (some 5) (.c (.lit (.int .i64 5)))⟩]) .ret) .skip)
abbrev f82_5:AC:=.seq (.ops [0,1,10] [] [vv 11 0,⟨none,.call (some 12) false (.f 58) [(.r 11)]⟩,vo 10 12]) (.cond (.r 10) (.seq (.ops [4,5] [] [⟨none,.mv (some 4) (.c (.lit (.int .i64 0)))⟩,⟨none,.mv (some 5) (.c (.lit (.int .i64 1)))⟩]) .ret) f82_10)
abbrev f82_16:AC:=.ops [0,1,6] [] [vv 17 1,⟨none,.len (some 18) .sl (.r 17)⟩,vv 19 0,⟨none,.call (some 20) false (.f 74) [(.r 19)]⟩,⟨none,.mn (some 21) true (.r 18) (.r 20)⟩,vo 6 21]
abbrev f82_21:AC:=.ops [0,1,6,7,28,29] [] [vv 22 0,vv 23 0,vn 24 23,vd 25 24 2,vl 26 25,vv 27 6,⟨none,.call (some 28) false (.f 83) [(.r 22),(.r 26),(.r 27)]⟩,⟨none,.mv (some 29) (.c (.lit (.int .i64 0)))⟩]
abbrev f82_32:AC:=.ops [0,1,6,7,28,29] [] [vv 32 7,vv 33 9,vv 34 1,vv 35 7,vv 36 6,⟨none,.sliS (some 37) (.r 34) (some (.r 35)) (some (.r 36)) 1⟩,⟨none,.x (some 38) (.copyB 1 (.r 33) (.r 37))⟩,⟨none,.bin (some 39) .num .add (.r 32) (.r 38)⟩,vo 7 39]
abbrev f82_28:AC:=.seq (.block 2 (.seq (.ops [0,1,6,7,9,28,29] [] [⟨none,.ixArr (some 31) (.r 28) (.r 29) 2 1 none⟩,vo 9 31]) f82_32)) (.ops [0,1,6,7,28,29] [] [vb 40 .add 29 1,vv 29 40])
abbrev f82_24:AC:=.seq (.ops [0,1,6,7,28,29,30] [] [vb 30 .lss 29 2]) (.seq (.cond (.r 30) .skip (.exit [0,6] [] 1)) f82_28)
def f82_23:AC:=.loop [0,1,6,7,28,29] [] f82_24
theorem f82_23w:aC P id m f82_23 sf st Q = ar (aC P id m f82_24) [0,1,6,7,28,29] [] sf st Q:=rfl
abbrev f82_35:AC:=.ops [6] [] [vv 41 0,vn 42 41,vd 43 42 2,vl 44 43,vv 45 6,⟨none,.bin (some 46) .num .add (.r 44) (.r 45)⟩,vn 47 41,vd 48 47 2,⟨none,.store 1 (.r 48) (.r 46)⟩]
abbrev f82_17:AC:=.seq (.ops [0,1,6,7] [] [⟨none,.mv (some 7) (.c (.lit (.int .i64 0)))⟩]) (.seq (.seq f82_21 (.block 1 f82_23)) (.seq f82_35 (.seq (.ops [4,5] [] [vv 49 6,vo 4 49,⟨none,.mv (some 5) (.c (.lit (.int .i64 0)))⟩]) .ret)))
abbrev f82_1:AC:=.seq (.ops [0,1] [] [⟨none,.mv (some 4) (.c (.lit (.int .i64 0)))⟩,⟨none,.mv (some 5) (.c (.lit (.int .i64 0)))⟩]) (.seq (.block 0 f82_5) (.seq f82_16 f82_17))
def c_f82:AFun:=⟨50,[.tmp 4,.tmp 5],f82_1⟩
theorem k_f82:kX x_f82 82 c_f82:=by delta kX; kernel_rfl
theorem e_f82:eX 82:=by delta eX; kernel_rfl

def n_f83:Nat:=83
def x_f83:=xX 54 [1,2,7,8,12,13,14,18,19,20,21,25,26,27,28,29,33,34,35,36,37,38,39,40,41,45,46,47,48,49,50,51,52,53] [] [(2,[0,1,2,6],[6]),(6,[0,2,6,7],[6]),(14,[0,2,6,7,8],[6]),(30,[6],[6])]
abbrev f83_4:AC:=.draw [0,2,6,7] [6] [] [vv 9 0,vn 10 9,vd 11 10 1,vl 12 11,vv 13 1,⟨none,.bin (some 14) .num .add (.r 12) (.r 13)⟩,vv 15 0,vn 16 15,vd 17 16 0,vl 18 17,⟨none,.len (some 19) .sl (.r 18)⟩] [⟨none,.bin (some 20) .num .rem (.r 14) (.r 19)⟩,vo 7 20]
abbrev f83_6:AC:=.ops [0,2,6,7,8] [6] [vv 21 2,vv 22 0,vn 23 22,vd 24 23 0,vl 25 24,⟨none,.len (some 26) .sl (.r 25)⟩,vv 27 7,⟨none,.bin (some 28) .num .sub (.r 26) (.r 27)⟩,⟨none,.mn (some 29) true (.r 21) (.r 28)⟩,vo 8 29]
abbrev f83_8:AC:=.draw [6] [6] [] [vv 30 0,vn 31 30,vd 32 31 0,vl 33 32,vv 34 7,vv 35 7,vv 36 8,⟨none,.bin (some 37) .num .add (.r 35) (.r 36)⟩,vv 38 7,vv 39 8,⟨none,.bin (some 40) .num .add (.r 38) (.r 39)⟩,⟨none,.sli3 (some 41) (.r 33) (some (.r 34)) (some (.r 37)) (.r 40) 1⟩,vv 42 0,vn 43 42,vd 44 43 0,vl 45 44,vv 46 2,vv 47 8,⟨none,.bin (some 48) .num .sub (.r 46) (.r 47)⟩,vv 49 2,vv 50 8,⟨none,.bin (some 51) .num .sub (.r 49) (.r 50)⟩,⟨none,.sli3 (some 52) (.r 45) none (some (.r 48)) (.r 51) 1⟩] [⟨none,.bar (some 53) 1 (.agg [(.lit (.slice none 0 0)),(.lit (.slice none 0 0))]) [(0,(.r 41)),(1,(.r 52))]⟩,⟨none,.store 2 (.r 6) (.r 53)⟩]
abbrev f83_1:AC:=.seq (.ops [0,1,2,6] [6] [⟨none,.newL 6 [(.lit (.slice none 0 0)),(.lit (.slice none 0 0))]⟩]) (.seq f83_4 (.seq f83_6 (.seq f83_8 .ret)))
def c_f83:AFun:=⟨54,[.cell 6 (some 2)],f83_1⟩
theorem k_f83:kX x_f83 83 c_f83:=by delta kX; kernel_rfl
theorem e_f83:eX 83:=by delta eX; kernel_rfl

def tab (q:Nat):Option AFun :=
 if q = 6 then some c_f6 else
 if q = 8 then some c_f8 else
 if q = 9 then some c_f9 else
 if q = 10 then some c_f10 else
 if q = 11 then some c_f11 else
 if q = 12 then some c_f12 else
 if q = 13 then some c_f13 else
 if q = 14 then some c_f14 else
 if q = 15 then some c_f15 else
 if q = 16 then some c_f16 else
 if q = 17 then some c_f17 else
 if q = 18 then some c_f18 else
 if q = 19 then some c_f19 else
 if q = 20 then some c_f20 else
 if q = 21 then some c_f21 else
 if q = 22 then some c_f22 else
 if q = 23 then some c_f23 else
 if q = 24 then some c_f24 else
 if q = 25 then some c_f25 else
 if q = 26 then some c_f26 else
 if q = 27 then some c_f27 else
 if q = 28 then some c_f28 else
 if q = 29 then some c_f29 else
 if q = 30 then some c_f30 else
 if q = 31 then some c_f31 else
 if q = 32 then some c_f32 else
 if q = 33 then some c_f33 else
 if q = 34 then some c_f34 else
 if q = 35 then some c_f35 else
 if q = 36 then some c_f36 else
 if q = 37 then some c_f37 else
 if q = 38 then some c_f38 else
 if q = 39 then some c_f39 else
 if q = 40 then some c_f40 else
 if q = 41 then some c_f41 else
 if q = 42 then some c_f42 else
 if q = 43 then some c_f43 else
 if q = 44 then some c_f44 else
 if q = 45 then some c_f45 else
 if q = 46 then some c_f46 else
 if q = 47 then some c_f47 else
 if q = 48 then some c_f48 else
 if q = 49 then some c_f49 else
 if q = 50 then some c_f50 else
 if q = 51 then some c_f51 else
 if q = 52 then some c_f52 else
 if q = 53 then some c_f53 else
 if q = 54 then some c_f54 else
 if q = 55 then some c_f55 else
 if q = 56 then some c_f56 else
 if q = 57 then some c_f57 else
 if q = 58 then some c_f58 else
 if q = 59 then some c_f59 else
 if q = 60 then some c_f60 else
 if q = 61 then some c_f61 else
 if q = 62 then some c_f62 else
 if q = 63 then some c_f63 else
 if q = 64 then some c_f64 else
 if q = 65 then some c_f65 else
 if q = 66 then some c_f66 else
 if q = 67 then some c_f67 else
 if q = 68 then some c_f68 else
 if q = 69 then some c_f69 else
 if q = 70 then some c_f70 else
 if q = 71 then some c_f71 else
 if q = 72 then some c_f72 else
 if q = 74 then some c_f74 else
 if q = 75 then some c_f75 else
 if q = 76 then some c_f76 else
 if q = 77 then some c_f77 else
 if q = 78 then some c_f78 else
 if q = 79 then some c_f79 else
 if q = 80 then some c_f80 else
 if q = 81 then some c_f81 else
 if q = 82 then some c_f82 else
 if q = 83 then some c_f83 else
 none
theorem tabOk:TabOk Go.Proofs.Try.prog id tab :=
 ag e_f6 k_f6 rfl (
 ag e_f8 k_f8 rfl (
 ag e_f9 k_f9 rfl (
 ag e_f10 k_f10 rfl (
 ag e_f11 k_f11 rfl (
 ag e_f12 k_f12 rfl (
 ag e_f13 k_f13 rfl (
 ag e_f14 k_f14 rfl (
 ag e_f15 k_f15 rfl (
 ag e_f16 k_f16 rfl (
 ag e_f17 k_f17 rfl (
 ag e_f18 k_f18 rfl (
 ag e_f19 k_f19 rfl (
 ag e_f20 k_f20 rfl (
 ag e_f21 k_f21 rfl (
 ag e_f22 k_f22 rfl (
 ag e_f23 k_f23 rfl (
 ag e_f24 k_f24 rfl (
 ag e_f25 k_f25 rfl (
 ag e_f26 k_f26 rfl (
 ag e_f27 k_f27 rfl (
 ag e_f28 k_f28 rfl (
 ag e_f29 k_f29 rfl (
 ag e_f30 k_f30 rfl (
 ag e_f31 k_f31 rfl (
 ag e_f32 k_f32 rfl (
 ag e_f33 k_f33 rfl (
 ag e_f34 k_f34 rfl (
 ag e_f35 k_f35 rfl (
 ag e_f36 k_f36 rfl (
 ag e_f37 k_f37 rfl (
 ag e_f38 k_f38 rfl (
 ag e_f39 k_f39 rfl (
 ag e_f40 k_f40 rfl (
 ag e_f41 k_f41 rfl (
 ag e_f42 k_f42 rfl (
 ag e_f43 k_f43 rfl (
 ag e_f44 k_f44 rfl (
 ag e_f45 k_f45 rfl (
 ag e_f46 k_f46 rfl (
 ag e_f47 k_f47 rfl (
 ag e_f48 k_f48 rfl (
 ag e_f49 k_f49 rfl (
 ag e_f50 k_f50 rfl (
 ag e_f51 k_f51 rfl (
 ag e_f52 k_f52 rfl (
 ag e_f53 k_f53 rfl (
 ag e_f54 k_f54 rfl (
 ag e_f55 k_f55 rfl (
 ag e_f56 k_f56 rfl (
 ag e_f57 k_f57 rfl (
 ag e_f58 k_f58 rfl (
 ag e_f59 k_f59 rfl (
 ag e_f60 k_f60 rfl (
 ag e_f61 k_f61 rfl (
 ag e_f62 k_f62 rfl (
 ag e_f63 k_f63 rfl (
 ag e_f64 k_f64 rfl (
 ag e_f65 k_f65 rfl (
 ag e_f66 k_f66 rfl (
 ag e_f67 k_f67 rfl (
 ag e_f68 k_f68 rfl (
 ag e_f69 k_f69 rfl (
 ag e_f70 k_f70 rfl (
 ag e_f71 k_f71 rfl (
 ag e_f72 k_f72 rfl (
 ag e_f74 k_f74 rfl (
 ag e_f75 k_f75 rfl (
 ag e_f76 k_f76 rfl (
 ag e_f77 k_f77 rfl (
 ag e_f78 k_f78 rfl (
 ag e_f79 k_f79 rfl (
 ag e_f80 k_f80 rfl (
 ag e_f81 k_f81 rfl (
 ag e_f82 k_f82 rfl (
 ag e_f83 k_f83 rfl (
 tabOk_nil))))))))))))))))))))))))))))))))))))))))))))))))))))))))))))))))))))))))))))
theorem hmix:Go.Proofs.Try.prog.follows .mixedOrders = true:=by kernel_rfl
end
end Go.Fx.YtbdjfccgkdgbfaaFx

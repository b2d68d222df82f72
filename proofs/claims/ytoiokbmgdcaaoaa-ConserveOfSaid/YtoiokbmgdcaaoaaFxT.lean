/- The functions that the statement reaches, resolved: printed by a program of ours from the translated code; each is checked here. -/
import Derived.Test.YtoiokbmgdcaaoaaFxS
set_option maxRecDepth 100000
set_option maxHeartbeats 0
namespace Go.Fx.YtoiokbmgdcaaoaaFx
open Go Go.Fx
section
variable (P:Program) (m:Bool) (sf:Sf) (st:St) (Q:Exit→Sf→St→Prop)
def n_f42:Nat:=42
def x_f42:=xX 92 [0,1,4,5,7,8,9,11,12,13,15,16,17,21,22,23,24,26,27,28,29,30,31,33,34,35,36,37,38,39,40,41,42,43,44,47,48,49,50,51,53,54,55,56,57,58,59,60,61,62,63,64,67,68,69,70,71,72,75,76,77,78,79,80,81,82,83,84,85,86,87,88,89,90,91] [8,60,63,64,77,79,84,86] [(2,[0,1],[]),(12,[0,1,14],[]),(52,[4],[]),(28,[0,1,18],[]),(116,[4],[]),(30,[0,1,5],[]),(124,[0,1,5,25],[]),(1000,[0,1,5,32],[]),(2002,[0,1,5],[]),(501,[0,1,5],[]),(252,[0,1,5,42,43,44],[]),(506,[0,1,5,42,43,44],[]),(2024,[0,1,5,42,43,44,45],[]),(8101,[0,1,5],[]),(32408,[0,1,5,7,42,43,44],[]),(129636,[0,1,5,7,42,43,44,52],[]),(259274,[0,1,5,7,42,43,44],[]),(64819,[0,1,5,42,43,44],[]),(8103,[0,1,5,42,43,44],[]),(254,[0,1,8],[]),(510,[0,1,8,9],[]),(2044,[1,8,9,70,71,72],[]),(4090,[1,8,9,70,71,72],[]),(16360,[1,8,9,70,71,72,73],[]),(65445,[8],[]),(261784,[1,8,9,11,70,71,72],[]),(523570,[1,8,9,11,70,71,72],[]),(523571,[1,8,9,70,71,72],[]),(65447,[1,8,9,70,71,72],[]),(2046,[4],[])]
abbrev f42_32:AC:=.seq (.ops [0,1,5,42,43,44,45] [] [⟨none,.bin (some 45) .num .lss (.r 44) (.r 43)⟩]) (.seq (.cond (.r 45) .skip (.exit [0,1,5] [] 0)) (.seq (.block 1 (.seq (.ops [0,1,5,7,42,43,44] [] [⟨none,.ixS (some 46) (.r 42) (.r 44) 1⟩,vl 47 46,vo 7 47]) (.seq (.seq (.ops [0,1,5,7,42,43,44,52] [] [vv 48 7,⟨none,.len (some 49) .sl (.r 48)⟩,vv 50 5,⟨none,.bin (some 51) .num .sub (.c (.lit (.int .i64 9223372036854775807))) (.r 50)⟩,⟨none,.bin (some 52) .num .gtr (.r 49) (.r 51)⟩]) (.cond (.r 52) (.ops [0,1,5,7,42,43,44] [] [⟨none,.mkif (some 53) 9 (.c (.lit (.string ⟨#[98,121,116,101,115,58,32,74,111,105,110,32,111,117,116,112,117,116,32,108,101,110,103,116,104,32,111,118,101,114,102,108,111,119]⟩)))⟩,⟨none,.x none .bad⟩]) .skip)) (.ops [0,1,5,42,43,44] [] [vv 54 5,vv 55 7,⟨none,.len (some 56) .sl (.r 55)⟩,⟨none,.bin (some 57) .num .add (.r 54) (.r 56)⟩,vo 5 57])))) (.ops [0,1,5,42,43,44] [] [vb 58 .add 44 1,vv 44 58])))
def f42_31:AC:=.loop [0,1,5,42,43,44] [] f42_32
theorem f42_31w:aC P id m f42_31 sf st Q = am (aC P id m f42_32) [0,1,5,42,43,44] [] sf st Q:=rfl
abbrev f42_56:AC:=.seq (.ops [1,8,9,70,71,72,73] [] [⟨none,.bin (some 73) .num .lss (.r 72) (.r 71)⟩]) (.seq (.cond (.r 73) .skip (.exit [8] [] 2)) (.seq (.block 3 (.seq (.ops [1,8,9,11,70,71,72] [] [⟨none,.ixS (some 74) (.r 70) (.r 72) 1⟩,vl 75 74,vo 11 75]) (.seq (.ops [1,8,9,11,70,71,72] [] [vv 76 9,vv 77 8,vv 78 9,⟨none,.sliOwn 79 77 (.r 78) 1⟩,vv 80 1,⟨none,.x (some 81) (.copyB 1 (.r 79) (.r 80))⟩,⟨none,.bin (some 82) .num .add (.r 76) (.r 81)⟩,vo 9 82]) (.ops [1,8,9,70,71,72] [] [vv 83 9,vv 84 8,vv 85 9,⟨none,.sliOwn 86 84 (.r 85) 1⟩,vv 87 11,⟨none,.x (some 88) (.copyB 1 (.r 86) (.r 87))⟩,⟨none,.bin (some 89) .num .add (.r 83) (.r 88)⟩,vo 9 89])))) (.ops [1,8,9,70,71,72] [] [vb 90 .add 72 1,vv 72 90])))
def f42_55:AC:=.loop [1,8,9,70,71,72] [] f42_56
theorem f42_55w:aC P id m f42_55 sf st Q = am (aC P id m f42_56) [1,8,9,70,71,72] [] sf st Q:=rfl
abbrev f42_17:AC:=.seq (.seq (.ops [0,1,5,25] [] [vv 23 1,⟨none,.len (some 24) .sl (.r 23)⟩,vb 25 .gtr 24 0]) (.cond (.r 25) (.seq (.seq (.ops [0,1,5,32] [] [vv 26 1,⟨none,.len (some 27) .sl (.r 26)⟩,vv 28 0,⟨none,.len (some 29) .sl (.r 28)⟩,vb 30 .sub 29 1,⟨none,.bin (some 31) .num .quo (.c (.lit (.int .i64 9223372036854775807))) (.r 30)⟩,⟨none,.bin (some 32) .num .geq (.r 27) (.r 31)⟩]) (.cond (.r 32) (.ops [0,1,5] [] [⟨none,.mkif (some 33) 9 (.c (.lit (.string ⟨#[98,121,116,101,115,58,32,74,111,105,110,32,111,117,116,112,117,116,32,108,101,110,103,116,104,32,111,118,101,114,102,108,111,119]⟩)))⟩,⟨none,.x none .bad⟩]) .skip)) (.ops [0,1,5] [] [vv 34 5,vv 35 1,⟨none,.len (some 36) .sl (.r 35)⟩,vv 37 0,⟨none,.len (some 38) .sl (.r 37)⟩,vb 39 .sub 38 1,⟨none,.bin (some 40) .num .mul (.r 36) (.r 39)⟩,⟨none,.bin (some 41) .num .add (.r 34) (.r 40)⟩,vo 5 41])) .skip)) (.seq (.seq (.ops [0,1,5,42,43,44] [] [vv 42 0,⟨none,.len (some 43) .sl (.r 42)⟩,⟨none,.mv (some 44) (.c (.lit (.int .i64 0)))⟩]) (.block 0 f42_31)) (.seq (.ops [0,1,8] [] [vv 59 5,⟨none,.x (some 60) (.mknz (.r 59))⟩,vv 61 5,vv 62 5,⟨none,.sli3 (some 63) (.r 60) none (some (.r 61)) (.r 62) 1⟩,vo 8 63]) (.seq (.ops [0,1,8,9] [] [vv 64 8,vv 65 0,⟨none,.ixS (some 66) (.r 65) (.c (.lit (.int .i64 0))) 1⟩,vl 67 66,⟨none,.x (some 68) (.copyB 1 (.r 64) (.r 67))⟩,vo 9 68]) (.seq (.seq (.ops [1,8,9,70,71,72] [] [vv 69 0,⟨none,.sliOwn 70 69 (.c (.lit (.int .i64 1))) 1⟩,⟨none,.len (some 71) .sl (.r 70)⟩,⟨none,.mv (some 72) (.c (.lit (.int .i64 0)))⟩]) (.block 2 f42_55)) (.seq (.ops [4] [] [vv 91 8,vo 4 91]) .ret)))))
abbrev f42_1:AC:=.seq (.ops [0,1] [] [⟨none,.mv (some 4) (.c (.lit (.slice none 0 0)))⟩]) (.seq (.seq (.ops [0,1,14] [] [vv 12 0,⟨none,.len (some 13) .sl (.r 12)⟩,vb 14 .eql 13 0]) (.cond (.r 14) (.seq (.ops [4] [] [⟨none,.bsl (some 15) 1 0 (.lit (.int .u8 0)) []⟩,vo 4 15]) .ret) .skip)) (.seq (.seq (.ops [0,1,18] [] [vv 16 0,⟨none,.len (some 17) .sl (.r 16)⟩,vb 18 .eql 17 1]) (.cond (.r 18) (.seq (.ops [4] [] [vv 19 0,⟨none,.ixS (some 20) (.r 19) (.c (.lit (.int .i64 0))) 1⟩,vl 21 20,⟨none,.app (some 22) 1 1 (.c (.lit (.slice none 0 0))) (.r 21)⟩,vo 4 22]) .ret) .skip)) (.seq (.ops [0,1,5] [] [⟨none,.mv (some 5) (.c (.lit (.int .i64 0)))⟩]) f42_17)))
def c_f42:AFun:=⟨92,[.tmp 4],f42_1⟩
theorem k_f42:kX x_f42 42 c_f42:=by delta kX; kernel_rfl
theorem e_f42:eX 42:=by delta eX; kernel_rfl

def n_f43:Nat:=43
def x_f43:=xX 9 [0,1,4,5,6,7,8] [] [(2,[0,1],[]),(6,[4],[])]
abbrev f43_1:AC:=.seq (.ops [0,1] [] [⟨none,.mv (some 4) (.c (.lit (.bool false)))⟩]) (.seq (.ops [4] [] [vv 5 0,vv 6 1,⟨none,.call (some 7) false (.f 58) [(.r 5),(.r 6)]⟩,vb 8 .geq 7 0,vo 4 8]) .ret)
def c_f43:AFun:=⟨9,[.tmp 4],f43_1⟩
theorem k_f43:kX x_f43 43 c_f43:=by delta kX; kernel_rfl
theorem e_f43:eX 43:=by delta eX; kernel_rfl

def n_f44:Nat:=44
def x_f44:=xX 21 [0,3,6,7,8,11,12,13,14,15,18,19,20] [] [(2,[1,2],[2]),(6,[3],[])]
abbrev f44_1:AC:=.seq (.ops [1,2] [2] [⟨none,.boxL 2 25 (.r 0)⟩,⟨none,.mv (some 3) (.c (.lit (.bool false)))⟩]) (.seq (.ops [3] [] [vd 4 2 13,vd 5 4 1,vl 6 5,vb 7 .eql 6 5,vv 8 7,⟨some (8,true),.addr (some 9) (.r 2) 1⟩,⟨some (8,true),.addr (some 10) (.r 9) 1⟩,⟨some (8,true),.load (some 11) (.r 10) (some 2)⟩,⟨some (8,true),.load (some 12) (.r 1) (some 2)⟩,⟨some (8,true),.bin (some 13) (.agg (.field 0 1 .int (.field 1 1 .int .tt))) .eql (.r 11) (.r 12)⟩,⟨none,.pick (some 14) (.r 8) (.r 13) (.c (.lit (.bool false)))⟩,vv 15 14,⟨some (15,true),.addr (some 16) (.r 2) 13⟩,⟨some (15,true),.addr (some 17) (.r 16) 2⟩,⟨some (15,true),.load (some 18) (.r 17) none⟩,⟨some (15,true),.bin (some 19) .num .eql (.r 18) (.c (.lit (.int .i64 13)))⟩,⟨none,.pick (some 20) (.r 15) (.r 19) (.c (.lit (.bool false)))⟩,vo 3 20]) .ret)
def c_f44:AFun:=⟨21,[.tmp 3],f44_1⟩
theorem k_f44:kX x_f44 44 c_f44:=by delta kX; kernel_rfl
theorem e_f44:eX 44:=by delta eX; kernel_rfl

def n_f45:Nat:=45
def x_f45:=xX 9 [0,1,4,5,6,7,8] [] [(2,[0,1],[]),(6,[4],[])]
abbrev f45_1:AC:=.seq (.ops [0,1] [] [⟨none,.mv (some 4) (.c (.lit (.bool false)))⟩]) (.seq (.ops [4] [] [vv 5 0,vv 6 1,⟨none,.call (some 7) false (.f 59) [(.r 5),(.r 6)]⟩,vb 8 .geq 7 0,vo 4 8]) .ret)
def c_f45:AFun:=⟨9,[.tmp 4],f45_1⟩
theorem k_f45:kX x_f45 45 c_f45:=by delta kX; kernel_rfl
theorem e_f45:eX 45:=by delta eX; kernel_rfl

def n_f46:Nat:=46
def x_f46:=xX 33 [0,4,6,7,8,10,11,12,13,16,17,18,19,22,23,24,25,28,29,30,31,32] [] [(2,[1,2,3],[3]),(6,[4],[])]
abbrev f46_1:AC:=.seq (.ops [1,2,3] [3] [⟨none,.boxL 3 30 (.r 0)⟩,⟨none,.mv (some 4) (.c (.lit (.bool false)))⟩]) (.seq (.ops [4] [] [vd 5 3 0,vl 6 5,vb 7 .eql 6 1,vv 8 7,⟨some (8,true),.addr (some 9) (.r 3) 14⟩,⟨some (8,true),.load (some 10) (.r 9) none⟩,⟨some (8,true),.bin (some 11) .num .eql (.r 10) (.c (.lit (.int .i64 0)))⟩,⟨none,.pick (some 12) (.r 8) (.r 11) (.c (.lit (.bool false)))⟩,vv 13 12,⟨some (13,true),.addr (some 14) (.r 3) 2⟩,⟨some (13,true),.addr (some 15) (.r 14) 0⟩,⟨some (13,true),.load (some 16) (.r 15) none⟩,⟨some (13,true),.bin (some 17) .num .eql (.r 16) (.c (.lit (.int .i64 11)))⟩,⟨none,.pick (some 18) (.r 13) (.r 17) (.c (.lit (.bool false)))⟩,vv 19 18,⟨some (19,true),.addr (some 20) (.r 3) 2⟩,⟨some (19,true),.addr (some 21) (.r 20) 1⟩,⟨some (19,true),.load (some 22) (.r 21) (some 2)⟩,⟨some (19,true),.load (some 23) (.r 1) (some 2)⟩,⟨some (19,true),.bin (some 24) (.agg (.field 0 1 .int (.field 1 1 .int .tt))) .eql (.r 22) (.r 23)⟩,⟨some (19,true),.mv (some 25) (.r 24)⟩,⟨some (25,false),.addr (some 26) (.r 3) 2⟩,⟨some (25,false),.addr (some 27) (.r 26) 3⟩,⟨some (25,false),.load (some 28) (.r 27) (some 2)⟩,⟨some (25,false),.load (some 29) (.r 2) (some 2)⟩,⟨some (25,false),.bin (some 30) (.agg (.field 0 1 .int (.field 1 1 .int .tt))) .eql (.r 28) (.r 29)⟩,⟨some (19,true),.pick (some 31) (.r 25) (.c (.lit (.bool true))) (.r 30)⟩,⟨none,.pick (some 32) (.r 19) (.r 31) (.c (.lit (.bool false)))⟩,vo 4 32]) .ret)
def c_f46:AFun:=⟨33,[.tmp 4],f46_1⟩
theorem k_f46:kX x_f46 46 c_f46:=by delta kX; kernel_rfl
theorem e_f46:eX 46:=by delta eX; kernel_rfl

def n_f48:Nat:=48
def x_f48:=xX 18 [0,2,3,4,5,6,7,9,10,11,13,15,16,17] [] [(2,[0],[]),(6,[0,3],[]),(28,[0,3,4],[]),(58,[0,3,4],[]),(464,[0,3,4,8],[]),(931,[3],[]),(932,[0,3,4],[]),(467,[0,3,4],[]),(30,[2],[])]
abbrev f48_10:AC:=.seq (.seq (.ops [0,3,4,8] [] [vv 5 4,vv 6 0,⟨none,.len (some 7) .sl (.r 6)⟩,⟨none,.bin (some 8) .num .lss (.r 5) (.r 7)⟩]) (.cond (.r 8) .skip (.exit [3] [] 0))) (.seq (.block 1 (.ops [0,3,4] [] [vo 11 3,vv 12 0,vv 13 4,⟨none,.ixS (some 14) (.r 12) (.r 13) 1⟩,vl 15 14,⟨none,.appS 16 11 1 1 (.r 15)⟩,vo 3 16])) (.ops [0,3,4] [] [vv 9 4,vb 10 .add 9 1,vo 4 10]))
def f48_9:AC:=.loop [0,3,4] [] f48_10
theorem f48_9w:aC P id m f48_9 sf st Q = am (aC P id m f48_10) [0,3,4] [] sf st Q:=rfl
abbrev f48_1:AC:=.seq (.ops [0] [] [⟨none,.mv (some 2) (.c (.lit (.slice none 0 0)))⟩]) (.seq (.ops [0,3] [] [⟨none,.mv (some 3) (.c (.lit (.slice none 0 0)))⟩]) (.seq (.seq (.ops [0,3,4] [] [⟨none,.mv (some 4) (.c (.lit (.int .i64 0)))⟩]) (.block 0 f48_9)) (.seq (.ops [2] [] [vv 17 3,vo 2 17]) .ret)))
def c_f48:AFun:=⟨18,[.tmp 2],f48_1⟩
theorem k_f48:kX x_f48 48 c_f48:=by delta kX; kernel_rfl
theorem e_f48:eX 48:=by delta eX; kernel_rfl

def n_f49:Nat:=49
def x_f49:=xX 15 [0,1,4,5,6,7,8,10,11,12,13,14] [] [(2,[0,1],[]),(12,[0,1,9],[]),(52,[4,5],[]),(14,[4,5],[])]
abbrev f49_1:AC:=.seq (.ops [0,1] [] [⟨none,.mv (some 4) (.c (.lit (.slice none 0 0)))⟩,⟨none,.mv (some 5) (.c (.lit (.bool false)))⟩]) (.seq (.seq (.ops [0,1,9] [] [vv 6 0,vv 7 1,⟨none,.call (some 8) false (.f 29) [(.r 6),(.r 7)]⟩,⟨none,.un (some 9) .not (.r 8)⟩]) (.cond (.r 9) (.seq (.ops [4,5] [] [vv 10 0,vo 4 10,⟨none,.mv (some 5) (.c (.lit (.bool false)))⟩]) .ret) .skip)) (.seq (.ops [4,5] [] [vo 11 0,vv 12 1,⟨none,.len (some 13) .sl (.r 12)⟩,⟨none,.sliOwn 14 11 (.r 13) 1⟩,vo 4 14,⟨none,.mv (some 5) (.c (.lit (.bool true)))⟩]) .ret))
def c_f49:AFun:=⟨15,[.tmp 4,.tmp 5],f49_1⟩
theorem k_f49:kX x_f49 49 c_f49:=by delta kX; kernel_rfl
theorem e_f49:eX 49:=by delta eX; kernel_rfl

def n_f50:Nat:=50
def x_f50:=xX 9 [0,1,4,5,6,7,8] [] [(2,[0,1],[]),(6,[4],[])]
abbrev f50_1:AC:=.seq (.ops [0,1] [] [⟨none,.mv (some 4) (.c (.lit (.bool false)))⟩]) (.seq (.ops [4] [] [vv 5 0,vv 6 1,⟨none,.call (some 7) false (.f 60) [(.r 5),(.r 6)]⟩,vb 8 .geq 7 0,vo 4 8]) .ret)
def c_f50:AFun:=⟨9,[.tmp 4],f50_1⟩
theorem k_f50:kX x_f50 50 c_f50:=by delta kX; kernel_rfl
theorem e_f50:eX 50:=by delta eX; kernel_rfl

def n_f51:Nat:=51
def x_f51:=xX 7 [0,3,4,5,6] [] [(2,[0,1],[]),(6,[3],[])]
abbrev f51_1:AC:=.seq (.ops [0,1] [] [⟨none,.mv (some 3) (.c (.lit (.bool false)))⟩]) (.seq (.ops [3] [] [vv 4 0,vl 5 1,⟨none,.call (some 6) false (.f 29) [(.r 4),(.r 5)]⟩,vo 3 6]) .ret)
def c_f51:AFun:=⟨7,[.tmp 3],f51_1⟩
theorem k_f51:kX x_f51 51 c_f51:=by delta kX; kernel_rfl
theorem e_f51:eX 51:=by delta eX; kernel_rfl

def n_f52:Nat:=52
def x_f52:=xX 10 [0,1,4,5,6,7,8,9] [] [(2,[0,1],[]),(6,[4],[])]
abbrev f52_1:AC:=.seq (.ops [0,1] [] [⟨none,.mv (some 4) (.c (.lit (.bool false)))⟩]) (.seq (.ops [4] [] [vv 5 0,⟨none,.conv (some 6) .bs (.r 5)⟩,vv 7 1,⟨none,.conv (some 8) .bs (.r 7)⟩,⟨none,.bin (some 9) .num .eql (.r 6) (.r 8)⟩,vo 4 9]) .ret)
def c_f52:AFun:=⟨10,[.tmp 4],f52_1⟩
theorem k_f52:kX x_f52 52 c_f52:=by delta kX; kernel_rfl
theorem e_f52:eX 52:=by delta eX; kernel_rfl

def n_f53:Nat:=53
def x_f53:=xX 19 [0,3,4,5,6,7,9,10,11,12,14,16,17] [] [(2,[0,1,3],[]),(6,[0,1,3],[]),(48,[0,1,3,8],[]),(99,[],[]),(200,[0,1,3,18],[]),(51,[0,1,3],[])]
abbrev f53_5:AC:=.seq (.seq (.ops [0,1,3,8] [] [vv 7 3,vb 8 .geq 7 0]) (.cond (.r 8) .skip (.exit [] [] 0))) (.seq (.block 1 (.seq (.ops [0,1,3,18] [] [vv 11 0,vv 12 3,vl 13 1,vv 14 3,⟨none,.ixS (some 15) (.r 13) (.r 14) 1⟩,vl 16 15,⟨none,.call (some 17) false (.r 11) [(.r 12),(.r 16)]⟩,⟨none,.un (some 18) .not (.r 17)⟩]) (.cond (.r 18) .ret .skip))) (.ops [0,1,3] [] [vv 9 3,vb 10 .sub 9 1,vo 3 10]))
def f53_4:AC:=.loop [0,1,3] [] f53_5
theorem f53_4w:aC P id m f53_4 sf st Q = am (aC P id m f53_5) [0,1,3] [] sf st Q:=rfl
abbrev f53_1:AC:=.seq (.ops [0,1,3] [] [vl 4 1,⟨none,.len (some 5) .sl (.r 4)⟩,vb 6 .sub 5 1,vo 3 6]) (.block 0 f53_4)
def c_f53:AFun:=⟨19,[],f53_1⟩
theorem k_f53:kX x_f53 53 c_f53:=by delta kX; kernel_rfl
theorem e_f53:eX 53:=by delta eX; kernel_rfl

def n_f54:Nat:=54
def x_f54:=xX 134 [0,1,2,3,8,9,10,11,12,13,14,15,16,17,18,19,20,21,22,24,25,26,28,30,31,32,34,36,37,38,40,41,42,43,44,45,46,47,48,49,51,52,53,55,56,57,58,59,60,61,62,63,64,65,66,67,69,70,71,73,74,75,77,78,80,82,84,85,86,88,89,90,91,92,93,94,95,96,97,98,99,100,101,102,103,104,105,106,107,108,109,110,111,112,114,115,116,117,118,119,120,122,123,124,125,126,127,128,129,130,131,133] [] [(2,[0,1,2,3,8],[]),(6,[0,1,2,3,8,9],[]),(14,[0,1,2,3,8,9],[]),(112,[0,1,2,3,8,9,10],[]),(452,[0,1,2,3,8,9,10,23],[]),(1812,[],[]),(908,[0,1,2,3,8,9,10,29],[]),(3636,[],[]),(1820,[0,1,2,3,8,9,10,35],[]),(7284,[0,1,2,3,8,9,10],[]),(7285,[0,1,2,3,8,9,10],[]),(1822,[0,1,2,3,8,9,10,11,12],[]),(7292,[0,1,2,3,8,9,10,11,12,50],[]),(29172,[0,1,2,3,8,9,10,11],[]),(58346,[0,1,2,3,8,9,10,11],[]),(58347,[0,1,2,3,8,9,10,11,12],[]),(14588,[0,1,2,3,8,9,10,11,68],[]),(58356,[0,1,2,3,8,9,10,11,72],[]),(29180,[0,1,2,3,8,9,10,11,87],[]),(116724,[0,2,3,8,9,13],[]),(233450,[0,1,2,3,8,9],[]),(233451,[0,1,2,3,8,9],[]),(29182,[0,1,2,3,10,14,15],[]),(58366,[0,1,2,3,9,10,14],[]),(116734,[0,1,2,3,9,10,14,16,17],[]),(233470,[0,1,2,3,9,14,16,17,18],[]),(466942,[0,1,2,3,9,14,16,17,18,113],[]),(1867772,[0,1,2,3,8,9,14],[]),(3735546,[0,2,3,8,9,14],[]),(3735547,[0,1,2,3,8,9],[]),(1867774,[0,1,2,3,8,9,14],[]),(3735550,[0,1,3,8,9,14],[]),(3735551,[0,1,2,3,8,9],[])]
abbrev f54_47:AC:=.seq (.seq (.draw [0,1,2,3,8,9,10,11,87] [] [] [vv 73 1,vb 74 .gtr 73 0,vv 75 74,⟨some (75,true),.mv (some 76) (.r 0)⟩,⟨some (75,true),.mv (some 77) (.r 1)⟩,⟨some (75,true),.bin (some 78) .num .sub (.r 77) (.c (.lit (.int .i64 1)))⟩,⟨some (75,true),.ixS (some 79) (.r 76) (.r 78) 1⟩,⟨some (75,true),.load (some 80) (.r 79) none⟩,⟨some (75,true),.mv (some 81) (.r 0)⟩,⟨some (75,true),.mv (some 82) (.r 11)⟩,⟨some (75,true),.ixS (some 83) (.r 81) (.r 82) 1⟩,⟨some (75,true),.load (some 84) (.r 83) none⟩] [⟨some (75,true),.call (some 85) false (.f 67) [(.r 80),(.r 84)]⟩,⟨some (75,true),.un (some 86) .not (.r 85)⟩,⟨none,.pick (some 87) (.r 75) (.r 86) (.c (.lit (.bool false)))⟩]) (.cond (.r 87) (.seq (.ops [0,2,3,8,9,13] [] [vv 88 0,vv 89 1,vv 90 2,vv 91 11,⟨none,.call (some 92) false (.f 68) [(.r 88),(.r 89),(.r 90),(.r 91)]⟩,vo 13 92]) (.seq (.ops [0,1,2,3,8,9] [] [vv 93 13,vo 1 93]) (.exit [0,1,2,3,8,9] [] 1))) .skip)) (.seq (.ops [0,1,2,3,10,14,15] [] [vv 95 0,vv 96 1,vv 97 2,vv 98 11,⟨none,.call (some 99) false (.f 69) [(.r 95),(.r 96),(.r 97),(.r 98)]⟩,vv 94 99,ve 100 94 0,ve 101 94 1,vo 14 100,vo 15 101]) (.seq (.ops [0,1,2,3,9,10,14] [] [vv 102 15,vo 9 102]) (.seq (.ops [0,1,2,3,9,10,14,16,17] [] [vv 103 14,vv 104 1,⟨none,.bin (some 105) .num .sub (.r 103) (.r 104)⟩,vv 106 2,vv 107 14,⟨none,.bin (some 108) .num .sub (.r 106) (.r 107)⟩,vo 16 105,vo 17 108]) (.seq (.ops [0,1,2,3,9,14,16,17,18] [] [vv 109 10,vb 110 .quo 109 8,vo 18 110]) (.seq (.ops [0,1,2,3,9,14,16,17,18,113] [] [vv 111 16,vv 112 17,⟨none,.bin (some 113) .num .lss (.r 111) (.r 112)⟩]) (.cond (.r 113) (.seq (.ops [0,1,2,3,8,9,14] [] [vv 114 16,vv 115 18,⟨none,.bin (some 116) .num .geq (.r 114) (.r 115)⟩,vo 8 116]) (.seq (.ops [0,2,3,8,9,14] [] [vv 117 0,vv 118 1,vv 119 14,vv 120 3,⟨none,.call (some 121) false (.f 54) [(.r 117),(.r 118),(.r 119),(.r 120)]⟩]) (.ops [0,1,2,3,8,9] [] [vv 122 14,vb 123 .add 122 1,vo 1 123]))) (.seq (.ops [0,1,2,3,8,9,14] [] [vv 124 17,vv 125 18,⟨none,.bin (some 126) .num .geq (.r 124) (.r 125)⟩,vo 8 126]) (.seq (.ops [0,1,3,8,9,14] [] [vv 127 0,vv 128 14,vb 129 .add 128 1,vv 130 2,vv 131 3,⟨none,.call (some 132) false (.f 54) [(.r 127),(.r 129),(.r 130),(.r 131)]⟩]) (.ops [0,1,2,3,8,9] [] [vv 133 14,vo 2 133])))))))))
abbrev f54_22:AC:=.seq (.seq (.ops [0,1,2,3,8,9,10,35] [] [vv 34 8,⟨none,.un (some 35) .not (.r 34)⟩]) (.cond (.r 35) (.seq (.ops [0,1,2,3,8,9,10] [] [vv 36 0,vv 37 1,vv 38 2,⟨none,.call (some 39) false (.f 63) [(.r 36),(.r 37),(.r 38)]⟩]) (.ops [0,1,2,3,8,9,10] [] [vv 40 3,vb 41 .sub 40 1,vo 3 41])) .skip)) (.seq (.ops [0,1,2,3,8,9,10,11,12] [] [vv 43 0,vv 44 1,vv 45 2,⟨none,.call (some 46) false (.f 64) [(.r 43),(.r 44),(.r 45)]⟩,vv 42 46,ve 47 42 0,ve 48 42 1,vo 11 47,vo 12 48]) (.seq (.seq (.ops [0,1,2,3,8,9,10,11,12,50] [] [vv 49 12,vb 50 .eql 49 2]) (.cond (.r 50) (.seq (.ops [0,1,2,3,8,9,10,11] [] [vv 51 0,vv 52 1,vv 53 2,⟨none,.call (some 54) false (.f 65) [(.r 51),(.r 52),(.r 53)]⟩]) (.seq (.ops [0,1,2,3,8,9,10,11] [] [vv 55 2,vb 56 .sub 55 1,vv 57 11,vv 58 1,⟨none,.bin (some 59) .num .sub (.r 57) (.r 58)⟩,⟨none,.bin (some 60) .num .sub (.r 56) (.r 59)⟩,vo 11 60]) (.ops [0,1,2,3,8,9,10,11,12] [] [⟨none,.mv (some 12) (.c (.lit (.int .i64 1)))⟩]))) .skip)) (.seq (.seq (.ops [0,1,2,3,8,9,10,11,68] [] [vv 61 8,vv 62 61,⟨some (62,true),.mv (some 63) (.r 9)⟩,⟨none,.pick (some 64) (.r 62) (.r 63) (.c (.lit (.bool false)))⟩,vv 65 64,⟨some (65,true),.mv (some 66) (.r 12)⟩,⟨some (65,true),.bin (some 67) .num .eql (.r 66) (.c (.lit (.int .i64 1)))⟩,⟨none,.pick (some 68) (.r 65) (.r 67) (.c (.lit (.bool false)))⟩]) (.cond (.r 68) (.seq (.ops [0,1,2,3,8,9,10,11,72] [] [vv 69 0,vv 70 1,vv 71 2,⟨none,.call (some 72) false (.f 66) [(.r 69),(.r 70),(.r 71)]⟩]) (.cond (.r 72) .ret .skip)) .skip)) f54_47)))
abbrev f54_7:AC:=.block 1 (.seq (.ops [0,1,2,3,8,9,10] [] [vv 19 2,vv 20 1,⟨none,.bin (some 21) .num .sub (.r 19) (.r 20)⟩,vo 10 21]) (.seq (.seq (.ops [0,1,2,3,8,9,10,23] [] [vv 22 10,vb 23 .leq 22 12]) (.cond (.r 23) (.seq (.ops [] [] [vv 24 0,vv 25 1,vv 26 2,⟨none,.call (some 27) false (.f 61) [(.r 24),(.r 25),(.r 26)]⟩]) .ret) .skip)) (.seq (.seq (.ops [0,1,2,3,8,9,10,29] [] [vv 28 3,vb 29 .eql 28 0]) (.cond (.r 29) (.seq (.ops [] [] [vv 30 0,vv 31 1,vv 32 2,⟨none,.call (some 33) false (.f 62) [(.r 30),(.r 31),(.r 32)]⟩]) .ret) .skip)) f54_22)))
def f54_6:AC:=.loop [0,1,2,3,8,9] [] f54_7
theorem f54_6w:aC P id m f54_6 sf st Q = am (aC P id m f54_7) [0,1,2,3,8,9] [] sf st Q:=rfl
abbrev f54_1:AC:=.seq (.ops [0,1,2,3,8] [] [⟨none,.mv (some 8) (.c (.lit (.bool true)))⟩]) (.seq (.ops [0,1,2,3,8,9] [] [⟨none,.mv (some 9) (.c (.lit (.bool true)))⟩]) (.block 0 f54_6))
def c_f54:AFun:=⟨134,[],f54_1⟩
theorem k_f54:kX x_f54 54 c_f54:=by delta kX; kernel_rfl
theorem e_f54:eX 54:=by delta eX; kernel_rfl

def n_f55:Nat:=55
def x_f55:=xX 8 [0,2,3,4,5,6,7] [] [(2,[0],[]),(24,[2],[]),(14,[2],[])]
abbrev f55_1:AC:=.seq (.ops [0] [] [⟨none,.mv (some 2) (.c (.lit (.int .i64 0)))⟩]) (.seq (.cond (.c (.lit (.bool false))) (.seq (.ops [2] [] [vv 3 0,⟨none,.conv (some 4) (.int .u32) (.r 3)⟩,⟨none,.call (some 5) false (.f 70) [(.r 4)]⟩,vo 2 5]) .ret) .skip) (.seq (.ops [2] [] [vv 6 0,⟨none,.call (some 7) false (.f 71) [(.r 6)]⟩,vo 2 7]) .ret))
def c_f55:AFun:=⟨8,[.tmp 2],f55_1⟩
theorem k_f55:kX x_f55 55 c_f55:=by delta kX; kernel_rfl
theorem e_f55:eX 55:=by delta eX; kernel_rfl

def n_f56:Nat:=56
def x_f56:=xX 36 [0,2,3,5,6,8,9,10,11,14,15,16,17,18,19,21,22,23,24,25,26,27,30,31,32,33,34,35] [33] [(2,[0],[]),(6,[0,3],[]),(28,[0,3,9,10,11],[]),(58,[0,3,9,10,11],[]),(232,[0,3,9,10,11,12],[]),(933,[0,3],[]),(3736,[0,3,5,9,10,11],[]),(7474,[0,3,9,10,11],[]),(14950,[0,3,9,10,11,20],[]),(29902,[0,3,9,10,11],[]),(935,[0,3,9,10,11],[]),(30,[0,6],[]),(124,[6,25,26,27],[]),(250,[6,25,26,27],[]),(1000,[6,25,26,27,28],[]),(4005,[6],[]),(16024,[6,8,25,26,27],[]),(16025,[6,25,26,27],[]),(4007,[6,25,26,27],[]),(126,[2],[])]
abbrev f56_10:AC:=.seq (.ops [0,3,9,10,11,12] [] [⟨none,.bin (some 12) .num .lss (.r 11) (.r 10)⟩]) (.seq (.cond (.r 12) .skip (.exit [0,3] [] 0)) (.seq (.block 1 (.seq (.ops [0,3,5,9,10,11] [] [⟨none,.ixS (some 13) (.r 9) (.r 11) 1⟩,vl 14 13,vo 5 14]) (.seq (.ops [0,3,9,10,11] [] [vv 15 3,vv 16 5,⟨none,.len (some 17) .sl (.r 16)⟩,⟨none,.bin (some 18) .num .add (.r 15) (.r 17)⟩,vo 3 18]) (.seq (.ops [0,3,9,10,11,20] [] [vv 19 3,vb 20 .lss 19 0]) (.cond (.r 20) (.ops [0,3,9,10,11] [] [⟨none,.mkif (some 21) 9 (.c (.lit (.string ⟨#[108,101,110,32,111,117,116,32,111,102,32,114,97,110,103,101]⟩)))⟩,⟨none,.x none .bad⟩]) .skip))))) (.ops [0,3,9,10,11] [] [vb 22 .add 11 1,vv 11 22])))
def f56_9:AC:=.loop [0,3,9,10,11] [] f56_10
theorem f56_9w:aC P id m f56_9 sf st Q = am (aC P id m f56_10) [0,3,9,10,11] [] sf st Q:=rfl
abbrev f56_32:AC:=.seq (.ops [6,25,26,27,28] [] [⟨none,.bin (some 28) .num .lss (.r 27) (.r 26)⟩]) (.seq (.cond (.r 28) .skip (.exit [6] [] 2)) (.seq (.block 3 (.seq (.ops [6,8,25,26,27] [] [⟨none,.ixS (some 29) (.r 25) (.r 27) 1⟩,vl 30 29,vo 8 30]) (.ops [6,25,26,27] [] [vo 31 6,vv 32 8,⟨none,.x (some 33) (.appB (.r 31) 1 1 (.r 32))⟩,vo 6 33]))) (.ops [6,25,26,27] [] [vb 34 .add 27 1,vv 27 34])))
def f56_31:AC:=.loop [6,25,26,27] [] f56_32
theorem f56_31w:aC P id m f56_31 sf st Q = am (aC P id m f56_32) [6,25,26,27] [] sf st Q:=rfl
abbrev f56_1:AC:=.seq (.ops [0] [] [⟨none,.mv (some 2) (.c (.lit (.slice none 0 0)))⟩]) (.seq (.ops [0,3] [] [⟨none,.mv (some 3) (.c (.lit (.int .i64 0)))⟩]) (.seq (.seq (.ops [0,3,9,10,11] [] [vv 9 0,⟨none,.len (some 10) .sl (.r 9)⟩,⟨none,.mv (some 11) (.c (.lit (.int .i64 0)))⟩]) (.block 0 f56_9)) (.seq (.ops [0,6] [] [vv 23 3,⟨none,.call (some 24) false (.f 72) [(.c (.lit (.slice none 0 0))),(.r 23)]⟩,vo 6 24]) (.seq (.seq (.ops [6,25,26,27] [] [vv 25 0,⟨none,.len (some 26) .sl (.r 25)⟩,⟨none,.mv (some 27) (.c (.lit (.int .i64 0)))⟩]) (.block 2 f56_31)) (.seq (.ops [2] [] [vv 35 6,vo 2 35]) .ret)))))
def c_f56:AFun:=⟨36,[.tmp 2],f56_1⟩
theorem k_f56:kX x_f56 56 c_f56:=by delta kX; kernel_rfl
theorem e_f56:eX 56:=by delta eX; kernel_rfl

def n_f58:Nat:=58
def x_f58:=xX 19 [0,1,4,5,6,7,8,10,11,13,15,17,18] [] [(2,[0,1],[]),(12,[0,1,7,8],[]),(26,[0,1,7,8],[]),(104,[0,1,7,8,9],[]),(421,[],[]),(1688,[0,1,5,7,8],[]),(3378,[0,1,5,7,8,16],[]),(13516,[4],[]),(423,[0,1,7,8],[]),(14,[4],[])]
abbrev f58_8:AC:=.seq (.ops [0,1,7,8,9] [] [⟨none,.bin (some 9) .num .lss (.r 8) (.r 7)⟩]) (.seq (.cond (.r 9) .skip (.exit [] [] 0)) (.seq (.block 1 (.seq (.ops [0,1,5,7,8] [] [vv 10 8,vo 5 10]) (.seq (.ops [0,1,5,7,8,16] [] [vv 11 1,vv 12 0,vv 13 5,⟨none,.ixS (some 14) (.r 12) (.r 13) 25⟩,⟨none,.load (some 15) (.r 14) (some 25)⟩,⟨none,.call (some 16) false (.r 11) [(.r 15)]⟩]) (.cond (.r 16) (.seq (.ops [4] [] [vv 17 5,vo 4 17]) .ret) .skip)))) (.ops [0,1,7,8] [] [vb 18 .add 8 1,vv 8 18])))
def f58_7:AC:=.loop [0,1,7,8] [] f58_8
theorem f58_7w:aC P id m f58_7 sf st Q = am (aC P id m f58_8) [0,1,7,8] [] sf st Q:=rfl
abbrev f58_1:AC:=.seq (.ops [0,1] [] [⟨none,.mv (some 4) (.c (.lit (.int .i64 0)))⟩]) (.seq (.seq (.ops [0,1,7,8] [] [vv 6 0,⟨none,.len (some 7) .sl (.r 6)⟩,⟨none,.mv (some 8) (.c (.lit (.int .i64 0)))⟩]) (.block 0 f58_7)) (.seq (.ops [4] [] [⟨none,.mv (some 4) (.c (.lit (.int .i64 (-1))))⟩]) .ret))
def c_f58:AFun:=⟨19,[.tmp 4],f58_1⟩
theorem k_f58:kX x_f58 58 c_f58:=by delta kX; kernel_rfl
theorem e_f58:eX 58:=by delta eX; kernel_rfl

def n_f59:Nat:=59
def x_f59:=xX 19 [0,1,4,5,6,7,8,10,11,13,15,17,18] [] [(2,[0,1],[]),(12,[0,1,7,8],[]),(26,[0,1,7,8],[]),(104,[0,1,7,8,9],[]),(421,[],[]),(1688,[0,1,5,7,8],[]),(3378,[0,1,5,7,8,16],[]),(13516,[4],[]),(423,[0,1,7,8],[]),(14,[4],[])]
abbrev f59_8:AC:=.seq (.ops [0,1,7,8,9] [] [⟨none,.bin (some 9) .num .lss (.r 8) (.r 7)⟩]) (.seq (.cond (.r 9) .skip (.exit [] [] 0)) (.seq (.block 1 (.seq (.ops [0,1,5,7,8] [] [vv 10 8,vo 5 10]) (.seq (.ops [0,1,5,7,8,16] [] [vv 11 1,vv 12 0,vv 13 5,⟨none,.ixS (some 14) (.r 12) (.r 13) 30⟩,⟨none,.load (some 15) (.r 14) (some 30)⟩,⟨none,.call (some 16) false (.r 11) [(.r 15)]⟩]) (.cond (.r 16) (.seq (.ops [4] [] [vv 17 5,vo 4 17]) .ret) .skip)))) (.ops [0,1,7,8] [] [vb 18 .add 8 1,vv 8 18])))
def f59_7:AC:=.loop [0,1,7,8] [] f59_8
theorem f59_7w:aC P id m f59_7 sf st Q = am (aC P id m f59_8) [0,1,7,8] [] sf st Q:=rfl
abbrev f59_1:AC:=.seq (.ops [0,1] [] [⟨none,.mv (some 4) (.c (.lit (.int .i64 0)))⟩]) (.seq (.seq (.ops [0,1,7,8] [] [vv 6 0,⟨none,.len (some 7) .sl (.r 6)⟩,⟨none,.mv (some 8) (.c (.lit (.int .i64 0)))⟩]) (.block 0 f59_7)) (.seq (.ops [4] [] [⟨none,.mv (some 4) (.c (.lit (.int .i64 (-1))))⟩]) .ret))
def c_f59:AFun:=⟨19,[.tmp 4],f59_1⟩
theorem k_f59:kX x_f59 59 c_f59:=by delta kX; kernel_rfl
theorem e_f59:eX 59:=by delta eX; kernel_rfl

def n_f60:Nat:=60
def x_f60:=xX 19 [0,1,4,5,6,7,8,10,11,13,15,17,18] [] [(2,[0,1],[]),(12,[0,1,7,8],[]),(26,[0,1,7,8],[]),(104,[0,1,7,8,9],[]),(421,[],[]),(1688,[0,1,5,7,8],[]),(3378,[0,1,5,7,8,16],[]),(13516,[4],[]),(423,[0,1,7,8],[]),(14,[4],[])]
abbrev f60_8:AC:=.seq (.ops [0,1,7,8,9] [] [⟨none,.bin (some 9) .num .lss (.r 8) (.r 7)⟩]) (.seq (.cond (.r 9) .skip (.exit [] [] 0)) (.seq (.block 1 (.seq (.ops [0,1,5,7,8] [] [vv 10 8,vo 5 10]) (.seq (.ops [0,1,5,7,8,16] [] [vv 11 1,vv 12 0,vv 13 5,⟨none,.ixS (some 14) (.r 12) (.r 13) 1⟩,vl 15 14,⟨none,.call (some 16) false (.r 11) [(.r 15)]⟩]) (.cond (.r 16) (.seq (.ops [4] [] [vv 17 5,vo 4 17]) .ret) .skip)))) (.ops [0,1,7,8] [] [vb 18 .add 8 1,vv 8 18])))
def f60_7:AC:=.loop [0,1,7,8] [] f60_8
theorem f60_7w:aC P id m f60_7 sf st Q = am (aC P id m f60_8) [0,1,7,8] [] sf st Q:=rfl
abbrev f60_1:AC:=.seq (.ops [0,1] [] [⟨none,.mv (some 4) (.c (.lit (.int .i64 0)))⟩]) (.seq (.seq (.ops [0,1,7,8] [] [vv 6 0,⟨none,.len (some 7) .sl (.r 6)⟩,⟨none,.mv (some 8) (.c (.lit (.int .i64 0)))⟩]) (.block 0 f60_7)) (.seq (.ops [4] [] [⟨none,.mv (some 4) (.c (.lit (.int .i64 (-1))))⟩]) .ret))
def c_f60:AFun:=⟨19,[.tmp 4],f60_1⟩
theorem k_f60:kX x_f60 60 c_f60:=by delta kX; kernel_rfl
theorem e_f60:eX 60:=by delta eX; kernel_rfl

def n_f61:Nat:=61
def x_f61:=xX 49 [1,2,6,7,8,9,10,11,13,14,15,16,17,18,19,21,23,25,26,28,29,31,32,34,36,37,39,40,42,44,46] [0,33,35] [(2,[0,1,2,6],[]),(6,[0,1,2,6],[]),(48,[0,1,2,6,12],[]),(99,[],[]),(200,[0,1,2,6,7],[]),(402,[0,1,2,6,7],[]),(3216,[0,1,2,6,7,30],[]),(6435,[0,1,2,6],[]),(6436,[0,1,2,6,7],[]),(3219,[0,1,2,6,7],[]),(51,[0,1,2,6],[])]
abbrev f61_15:AC:=.seq (.seq (.draw [0,1,2,6,7,30] [] [] [vv 16 7,vv 17 1,⟨none,.bin (some 18) .num .gtr (.r 16) (.r 17)⟩,vv 19 18,⟨some (19,true),.mv (some 20) (.r 0)⟩,⟨some (19,true),.mv (some 21) (.r 7)⟩,⟨some (19,true),.ixS (some 22) (.r 20) (.r 21) 1⟩,⟨some (19,true),.load (some 23) (.r 22) none⟩,⟨some (19,true),.mv (some 24) (.r 0)⟩,⟨some (19,true),.mv (some 25) (.r 7)⟩,⟨some (19,true),.bin (some 26) .num .sub (.r 25) (.c (.lit (.int .i64 1)))⟩,⟨some (19,true),.ixS (some 27) (.r 24) (.r 26) 1⟩,⟨some (19,true),.load (some 28) (.r 27) none⟩] [⟨some (19,true),.call (some 29) false (.f 67) [(.r 23),(.r 28)]⟩,⟨none,.pick (some 30) (.r 19) (.r 29) (.c (.lit (.bool false)))⟩]) (.cond (.r 30) .skip (.exit [0,1,2,6] [] 2))) (.seq (.block 3 (.draw [0,1,2,6,7] [] [47] [vv 33 0,vv 34 7,vv 35 0,vv 36 7,vb 37 .sub 36 1,vv 38 0,vv 39 7,vb 40 .sub 39 1,⟨none,.ixS (some 41) (.r 38) (.r 40) 1⟩,vl 42 41,vv 43 0,vv 44 7,⟨none,.ixS (some 45) (.r 43) (.r 44) 1⟩,vl 46 45,⟨none,.ixS (some 47) (.r 33) (.r 34) 1⟩,⟨none,.store 1 (.r 47) (.r 42)⟩] [⟨none,.ixS (some 48) (.r 35) (.r 37) 1⟩,⟨none,.store 1 (.r 48) (.r 46)⟩])) (.ops [0,1,2,6,7] [] [vv 31 7,vb 32 .sub 31 1,vo 7 32]))
def f61_14:AC:=.loop [0,1,2,6,7] [] f61_15
theorem f61_14w:aC P id m f61_14 sf st Q = am (aC P id m f61_15) [0,1,2,6,7] [] sf st Q:=rfl
abbrev f61_5:AC:=.seq (.seq (.ops [0,1,2,6,12] [] [vv 10 6,vv 11 2,⟨none,.bin (some 12) .num .lss (.r 10) (.r 11)⟩]) (.cond (.r 12) .skip (.exit [] [] 0))) (.seq (.block 1 (.seq (.ops [0,1,2,6,7] [] [vv 15 6,vo 7 15]) (.block 2 f61_14))) (.ops [0,1,2,6] [] [vv 13 6,vb 14 .add 13 1,vo 6 14]))
def f61_4:AC:=.loop [0,1,2,6] [] f61_5
theorem f61_4w:aC P id m f61_4 sf st Q = am (aC P id m f61_5) [0,1,2,6] [] sf st Q:=rfl
abbrev f61_1:AC:=.seq (.ops [0,1,2,6] [] [vv 8 1,vb 9 .add 8 1,vo 6 9]) (.block 0 f61_4)
def c_f61:AFun:=⟨49,[],f61_1⟩
theorem k_f61:kX x_f61 61 c_f61:=by delta kX; kernel_rfl
theorem e_f61:eX 61:=by delta eX; kernel_rfl

def n_f62:Nat:=62
def x_f62:=xX 56 [0,1,2,6,7,8,9,10,11,12,13,14,15,16,17,18,20,21,22,23,24,25,27,28,29,31,32,34,36,37,38,40,41,42,44,46,48,51,52,53,54] [0,33,35] [(2,[0,1,2,6],[]),(6,[0,1,2,6,7],[]),(14,[0,6,7,8],[]),(60,[0,6,7,8,9],[]),(122,[0,6,7,8,9],[]),(976,[0,6,7,8,9,19],[]),(1955,[0,6,7,8],[]),(1956,[0,6,7,8,9],[]),(979,[0,6,7,8,9],[]),(62,[0,6,7,10],[]),(126,[0,6,7,10],[]),(1008,[0,6,7,10,30],[]),(2019,[],[]),(4040,[0,6,7,10],[]),(4041,[0,6,7,10],[]),(1011,[0,6,7,10],[])]
abbrev f62_12:AC:=.seq (.seq (.ops [0,6,7,8,9,19] [] [vv 18 9,vb 19 .geq 18 0]) (.cond (.r 19) .skip (.exit [0,6,7,8] [] 0))) (.seq (.block 1 (.ops [0,6,7,8,9] [] [vv 22 0,vv 23 9,vv 24 8,vv 25 6,⟨none,.call (some 26) false (.f 73) [(.r 22),(.r 23),(.r 24),(.r 25)]⟩])) (.ops [0,6,7,8,9] [] [vv 20 9,vb 21 .sub 20 1,vo 9 21]))
def f62_11:AC:=.loop [0,6,7,8,9] [] f62_12
theorem f62_11w:aC P id m f62_11 sf st Q = am (aC P id m f62_12) [0,6,7,8,9] [] sf st Q:=rfl
abbrev f62_24:AC:=.seq (.seq (.ops [0,6,7,10,30] [] [vv 29 10,vb 30 .geq 29 0]) (.cond (.r 30) .skip (.exit [] [] 2))) (.seq (.block 3 (.seq (.draw [0,6,7,10] [] [49] [vv 33 0,vv 34 6,vv 35 0,vv 36 6,vv 37 10,⟨none,.bin (some 38) .num .add (.r 36) (.r 37)⟩,vv 39 0,vv 40 6,vv 41 10,⟨none,.bin (some 42) .num .add (.r 40) (.r 41)⟩,⟨none,.ixS (some 43) (.r 39) (.r 42) 1⟩,vl 44 43,vv 45 0,vv 46 6,⟨none,.ixS (some 47) (.r 45) (.r 46) 1⟩,vl 48 47,⟨none,.ixS (some 49) (.r 33) (.r 34) 1⟩,⟨none,.store 1 (.r 49) (.r 44)⟩] [⟨none,.ixS (some 50) (.r 35) (.r 38) 1⟩,⟨none,.store 1 (.r 50) (.r 48)⟩]) (.ops [0,6,7,10] [] [vv 51 0,vv 52 7,vv 53 10,vv 54 6,⟨none,.call (some 55) false (.f 73) [(.r 51),(.r 52),(.r 53),(.r 54)]⟩]))) (.ops [0,6,7,10] [] [vv 31 10,vb 32 .sub 31 1,vo 10 32]))
def f62_23:AC:=.loop [0,6,7,10] [] f62_24
theorem f62_23w:aC P id m f62_23 sf st Q = am (aC P id m f62_24) [0,6,7,10] [] sf st Q:=rfl
abbrev f62_1:AC:=.seq (.ops [0,1,2,6] [] [vv 11 1,vo 6 11]) (.seq (.ops [0,1,2,6,7] [] [⟨none,.mv (some 7) (.c (.lit (.int .i64 0)))⟩]) (.seq (.ops [0,6,7,8] [] [vv 12 2,vv 13 1,⟨none,.bin (some 14) .num .sub (.r 12) (.r 13)⟩,vo 8 14]) (.seq (.seq (.ops [0,6,7,8,9] [] [vv 15 8,vb 16 .sub 15 1,vb 17 .quo 16 2,vo 9 17]) (.block 0 f62_11)) (.seq (.ops [0,6,7,10] [] [vv 27 8,vb 28 .sub 27 1,vo 10 28]) (.block 2 f62_23)))))
def c_f62:AFun:=⟨56,[],f62_1⟩
theorem k_f62:kX x_f62 62 c_f62:=by delta kX; kernel_rfl
theorem e_f62:eX 62:=by delta eX; kernel_rfl

def n_f63:Nat:=63
def x_f63:=xX 65 [1,2,6,7,8,9,10,11,12,13,14,16,17,18,19,20,21,22,23,24,25,26,27,28,29,30,31,32,34,35,36,37,38,39,40,41,42,44,45,46,48,50,51,52,54,55,56,58,60,62] [0,47,49] [(2,[0,1,6],[]),(6,[0,1,6,15],[]),(28,[0,1,6,7],[]),(58,[0,1,6,7,8],[]),(118,[0,1,6,7,8,9],[]),(238,[0,1,6,7,8,9],[]),(1904,[0,1,6,7,8,9,33],[]),(3811,[],[]),(7624,[0,1,6,7,8,9,10],[]),(30500,[0,1,6,7,8,9,10,43],[]),(61002,[0,1,6,7,8,9,10],[]),(15251,[0,1,6,7,8,9],[]),(1907,[0,1,6,7,8,9],[])]
abbrev f63_14:AC:=.seq (.seq (.ops [0,1,6,7,8,9,33] [] [vv 26 9,vv 27 1,vv 28 6,vb 29 .quo 28 4,vb 30 .mul 29 2,⟨none,.bin (some 31) .num .add (.r 27) (.r 30)⟩,vb 32 .add 31 1,⟨none,.bin (some 33) .num .leq (.r 26) (.r 32)⟩]) (.cond (.r 33) .skip (.exit [] [] 0))) (.seq (.block 1 (.seq (.ops [0,1,6,7,8,9,10] [] [⟨none,.call (some 36) false (.f 75) [(.r 7)]⟩,vv 37 8,⟨none,.bin (some 38) .num .sub (.r 37) (.c (.lit (.int .u64 1)))⟩,⟨none,.bin (some 39) .num .and (.r 36) (.r 38)⟩,⟨none,.conv (some 40) (.int .i64) (.r 39)⟩,vo 10 40]) (.seq (.seq (.ops [0,1,6,7,8,9,10,43] [] [vv 41 10,vv 42 6,⟨none,.bin (some 43) .num .geq (.r 41) (.r 42)⟩]) (.cond (.r 43) (.ops [0,1,6,7,8,9,10] [] [vv 44 10,vv 45 6,⟨none,.bin (some 46) .num .sub (.r 44) (.r 45)⟩,vo 10 46]) .skip)) (.draw [0,1,6,7,8,9] [] [63] [vv 47 0,vv 48 9,vv 49 0,vv 50 1,vv 51 10,⟨none,.bin (some 52) .num .add (.r 50) (.r 51)⟩,vv 53 0,vv 54 1,vv 55 10,⟨none,.bin (some 56) .num .add (.r 54) (.r 55)⟩,⟨none,.ixS (some 57) (.r 53) (.r 56) 1⟩,vl 58 57,vv 59 0,vv 60 9,⟨none,.ixS (some 61) (.r 59) (.r 60) 1⟩,vl 62 61,⟨none,.ixS (some 63) (.r 47) (.r 48) 1⟩,⟨none,.store 1 (.r 63) (.r 58)⟩] [⟨none,.ixS (some 64) (.r 49) (.r 52) 1⟩,⟨none,.store 1 (.r 64) (.r 62)⟩])))) (.ops [0,1,6,7,8,9] [] [vv 34 9,vb 35 .add 34 1,vo 9 35]))
def f63_13:AC:=.loop [0,1,6,7,8,9] [] f63_14
theorem f63_13w:aC P id m f63_13 sf st Q = am (aC P id m f63_14) [0,1,6,7,8,9] [] sf st Q:=rfl
abbrev f63_1:AC:=.seq (.ops [0,1,6] [] [vv 11 2,vv 12 1,⟨none,.bin (some 13) .num .sub (.r 11) (.r 12)⟩,vo 6 13]) (.seq (.ops [0,1,6,15] [] [vv 14 6,vb 15 .geq 14 8]) (.cond (.r 15) (.seq (.ops [0,1,6,7] [] [vv 16 6,⟨none,.conv (some 17) (.int .u64) (.r 16)⟩,⟨none,.newB 7 [(.lit (.int .u64 0))]⟩,⟨none,.store 1 (.r 7) (.r 17)⟩]) (.seq (.ops [0,1,6,7,8] [] [vv 18 6,⟨none,.call (some 19) false (.f 74) [(.r 18)]⟩,vo 8 19]) (.seq (.ops [0,1,6,7,8,9] [] [vv 20 1,vv 21 6,vb 22 .quo 21 4,vb 23 .mul 22 2,⟨none,.bin (some 24) .num .add (.r 20) (.r 23)⟩,vb 25 .sub 24 1,vo 9 25]) (.block 0 f63_13)))) .skip))
def c_f63:AFun:=⟨65,[],f63_1⟩
theorem k_f63:kX x_f63 63 c_f63:=by delta kX; kernel_rfl
theorem e_f63:eX 63:=by delta eX; kernel_rfl

def n_f64:Nat:=64
def x_f64:=xX 57 [0,1,2,6,7,8,9,10,11,12,13,14,15,16,17,18,19,20,21,22,23,24,25,26,27,28,29,30,31,33,35,36,37,38,39,40,41,42,43,44,45,46,47,48,49,50,52,53,55,56] [] [(2,[0,1,2],[]),(6,[0,1,8],[]),(14,[0,1,8,9],[]),(30,[0,1,8,9,10],[]),(62,[0,1,8,9,10,11],[]),(126,[0,8,9,10,11,12],[]),(508,[0,8,9,10,11,12,32],[]),(4072,[0,9,10,11,12,34],[]),(16292,[0,9,10,11,12],[]),(32586,[0,9,10,11,12],[]),(32587,[0,9,10,11,12],[]),(2037,[9,11],[]),(510,[11,49],[]),(2044,[11,49,51],[]),(8180,[6,7],[]),(8182,[11,54],[]),(32732,[6,7],[]),(32734,[6,7],[])]
abbrev f64_9:AC:=.seq (.ops [0,1,8,9,10,11] [] [vv 21 1,vv 22 8,vb 23 .quo 22 4,vb 24 .mul 23 2,⟨none,.bin (some 25) .num .add (.r 21) (.r 24)⟩,vo 11 25]) (.seq (.ops [0,8,9,10,11,12] [] [vv 26 1,vv 27 8,vb 28 .quo 27 4,vb 29 .mul 28 3,⟨none,.bin (some 30) .num .add (.r 26) (.r 29)⟩,vo 12 30]) (.seq (.seq (.ops [0,8,9,10,11,12,32] [] [vv 31 8,vb 32 .geq 31 8]) (.cond (.r 32) (.seq (.seq (.ops [0,9,10,11,12,34] [] [vv 33 8,vb 34 .geq 33 50]) (.cond (.r 34) (.seq (.ops [0,9,10,11,12] [] [vv 35 0,vv 36 10,⟨none,.call (some 37) false (.f 76) [(.r 35),(.r 36),(.r 9)]⟩,vo 10 37]) (.seq (.ops [0,9,10,11,12] [] [vv 38 0,vv 39 11,⟨none,.call (some 40) false (.f 76) [(.r 38),(.r 39),(.r 9)]⟩,vo 11 40]) (.ops [0,9,10,11,12] [] [vv 41 0,vv 42 12,⟨none,.call (some 43) false (.f 76) [(.r 41),(.r 42),(.r 9)]⟩,vo 12 43]))) .skip)) (.ops [9,11] [] [vv 44 0,vv 45 10,vv 46 11,vv 47 12,⟨none,.call (some 48) false (.f 77) [(.r 44),(.r 45),(.r 46),(.r 47),(.r 9)]⟩,vo 11 48])) .skip)) (.seq (.ops [11,49] [] [vl 49 9]) (.block 0 (.seq (.ops [11,49,51] [] [vb 52 .eql 49 0,vo 51 52]) (.cond (.r 51) (.seq (.ops [6,7] [] [vv 53 11,vo 6 53,⟨none,.mv (some 7) (.c (.lit (.int .i64 1)))⟩]) .ret) (.seq (.ops [11,54] [] [vb 55 .eql 49 12,vo 54 55]) (.cond (.r 54) (.seq (.ops [6,7] [] [vv 56 11,vo 6 56,⟨none,.mv (some 7) (.c (.lit (.int .i64 2)))⟩]) .ret) (.seq (.ops [6,7] [] [vv 50 11,vo 6 50,⟨none,.mv (some 7) (.c (.lit (.int .i64 0)))⟩]) .ret)))))))))
abbrev f64_1:AC:=.seq (.ops [0,1,2] [] [⟨none,.mv (some 6) (.c (.lit (.int .i64 0)))⟩,⟨none,.mv (some 7) (.c (.lit (.int .i64 0)))⟩]) (.seq (.ops [0,1,8] [] [vv 13 2,vv 14 1,⟨none,.bin (some 15) .num .sub (.r 13) (.r 14)⟩,vo 8 15]) (.seq (.ops [0,1,8,9] [] [⟨none,.newB 9 [(.lit (.int .i64 0))]⟩]) (.seq (.ops [0,1,8,9,10] [] [vv 16 1,vv 17 8,vb 18 .quo 17 4,vb 19 .mul 18 1,⟨none,.bin (some 20) .num .add (.r 16) (.r 19)⟩,vo 10 20]) f64_9)))
def c_f64:AFun:=⟨57,[.tmp 6,.tmp 7],f64_1⟩
theorem k_f64:kX x_f64 64 c_f64:=by delta kX; kernel_rfl
theorem e_f64:eX 64:=by delta eX; kernel_rfl

def n_f65:Nat:=65
def x_f65:=xX 32 [1,2,6,7,8,9,10,11,12,15,17,19,21,23,25,28,29,30,31] [0,14,16] [(2,[0,2,6],[]),(6,[0,6,7],[]),(14,[0,6,7],[]),(112,[0,6,7,13],[]),(227,[],[]),(228,[0,6,7],[]),(458,[0,6,7],[]),(459,[0,6,7],[])]
abbrev f65_7:AC:=.seq (.seq (.ops [0,6,7,13] [] [vv 11 6,vv 12 7,⟨none,.bin (some 13) .num .lss (.r 11) (.r 12)⟩]) (.cond (.r 13) .skip (.exit [] [] 0))) (.block 1 (.seq (.draw [0,6,7] [] [26] [vv 14 0,vv 15 6,vv 16 0,vv 17 7,vv 18 0,vv 19 7,⟨none,.ixS (some 20) (.r 18) (.r 19) 1⟩,vl 21 20,vv 22 0,vv 23 6,⟨none,.ixS (some 24) (.r 22) (.r 23) 1⟩,vl 25 24,⟨none,.ixS (some 26) (.r 14) (.r 15) 1⟩,⟨none,.store 1 (.r 26) (.r 21)⟩] [⟨none,.ixS (some 27) (.r 16) (.r 17) 1⟩,⟨none,.store 1 (.r 27) (.r 25)⟩]) (.seq (.ops [0,6,7] [] [vv 28 6,vb 29 .add 28 1,vo 6 29]) (.ops [0,6,7] [] [vv 30 7,vb 31 .sub 30 1,vo 7 31]))))
def f65_6:AC:=.loop [0,6,7] [] f65_7
theorem f65_6w:aC P id m f65_6 sf st Q = am (aC P id m f65_7) [0,6,7] [] sf st Q:=rfl
abbrev f65_1:AC:=.seq (.ops [0,2,6] [] [vv 8 1,vo 6 8]) (.seq (.ops [0,6,7] [] [vv 9 2,vb 10 .sub 9 1,vo 7 10]) (.block 0 f65_6))
def c_f65:AFun:=⟨32,[],f65_1⟩
theorem k_f65:kX x_f65 65 c_f65:=by delta kX; kernel_rfl
theorem e_f65:eX 65:=by delta eX; kernel_rfl

def n_f66:Nat:=66
def x_f66:=xX 133 [1,2,6,7,8,9,10,11,12,13,15,16,17,18,19,20,22,24,26,27,29,30,31,33,34,35,36,38,39,40,43,45,46,48,49,51,53,55,58,59,60,62,63,64,66,67,69,71,73,74,76,77,80,82,83,85,86,88,90,92,95,96,97,99,100,101,102,104,105,107,109,111,112,114,115,118,120,121,123,124,126,128,130] [0,42,44,79,81,117,119] [(2,[0,1,2],[]),(6,[0,1,2,7],[]),(28,[0,1,2,7,8],[]),(58,[0,1,2,7,8],[]),(464,[0,1,2,7,8,14],[]),(931,[],[]),(3728,[0,1,2,7,8],[]),(29824,[0,1,2,7,8,32],[]),(59651,[0,1,2,7,8],[]),(29826,[0,1,2,7,8],[]),(7460,[0,1,2,7,8,37],[]),(29844,[6],[]),(14924,[0,1,2,7,8,41],[]),(59700,[6],[]),(14926,[0,1,2,7,8],[]),(59708,[0,1,2,7,8,61],[]),(238836,[0,1,2,7,8,9],[]),(477674,[0,1,2,7,8,9],[]),(3821392,[0,1,2,7,8,9,65],[]),(7642787,[0,1,2,7,8],[]),(30571152,[0,1,2,7,8,9,78],[]),(61142306,[0,1,2,7,8],[]),(15285577,[0,1,2,7,8,9],[]),(3821395,[0,1,2,7,8,9],[]),(59710,[0,1,2,7,8,98],[]),(238844,[0,1,2,7,8,10],[]),(477690,[0,1,2,7,8,10],[]),(3821520,[0,1,2,7,8,10,103],[]),(7643043,[0,1,2,7,8],[]),(30572176,[0,1,2,7,8,10,116],[]),(61144354,[0,1,2,7,8],[]),(15286089,[0,1,2,7,8,10],[]),(3821523,[0,1,2,7,8,10],[]),(467,[0,1,2,7,8],[]),(30,[6],[])]
abbrev f66_19:AC:=.seq (.seq (.draw [0,1,2,7,8,32] [] [] [vv 17 7,vv 18 2,⟨none,.bin (some 19) .num .lss (.r 17) (.r 18)⟩,vv 20 19,⟨some (20,true),.mv (some 21) (.r 0)⟩,⟨some (20,true),.mv (some 22) (.r 7)⟩,⟨some (20,true),.ixS (some 23) (.r 21) (.r 22) 1⟩,⟨some (20,true),.load (some 24) (.r 23) none⟩,⟨some (20,true),.mv (some 25) (.r 0)⟩,⟨some (20,true),.mv (some 26) (.r 7)⟩,⟨some (20,true),.bin (some 27) .num .sub (.r 26) (.c (.lit (.int .i64 1)))⟩,⟨some (20,true),.ixS (some 28) (.r 25) (.r 27) 1⟩,⟨some (20,true),.load (some 29) (.r 28) none⟩] [⟨some (20,true),.call (some 30) false (.f 67) [(.r 24),(.r 29)]⟩,⟨some (20,true),.un (some 31) .not (.r 30)⟩,⟨none,.pick (some 32) (.r 20) (.r 31) (.c (.lit (.bool false)))⟩]) (.cond (.r 32) .skip (.exit [0,1,2,7,8] [] 2))) (.block 3 (.ops [0,1,2,7,8] [] [vv 33 7,vb 34 .add 33 1,vo 7 34]))
def f66_18:AC:=.loop [0,1,2,7,8] [] f66_19
theorem f66_18w:aC P id m f66_18 sf st Q = am (aC P id m f66_19) [0,1,2,7,8] [] sf st Q:=rfl
abbrev f66_47:AC:=.seq (.seq (.ops [0,1,2,7,8,9,65] [] [vv 64 9,vb 65 .geq 64 1]) (.cond (.r 65) .skip (.exit [0,1,2,7,8] [] 4))) (.seq (.block 5 (.seq (.seq (.draw [0,1,2,7,8,9,78] [] [] [vv 68 0,vv 69 9,⟨none,.ixS (some 70) (.r 68) (.r 69) 1⟩,vl 71 70,vv 72 0,vv 73 9,vb 74 .sub 73 1,⟨none,.ixS (some 75) (.r 72) (.r 74) 1⟩,vl 76 75] [⟨none,.call (some 77) false (.f 67) [(.r 71),(.r 76)]⟩,⟨none,.un (some 78) .not (.r 77)⟩]) (.cond (.r 78) (.exit [0,1,2,7,8] [] 4) .skip)) (.draw [0,1,2,7,8,9] [] [93] [vv 79 0,vv 80 9,vv 81 0,vv 82 9,vb 83 .sub 82 1,vv 84 0,vv 85 9,vb 86 .sub 85 1,⟨none,.ixS (some 87) (.r 84) (.r 86) 1⟩,vl 88 87,vv 89 0,vv 90 9,⟨none,.ixS (some 91) (.r 89) (.r 90) 1⟩,vl 92 91,⟨none,.ixS (some 93) (.r 79) (.r 80) 1⟩,⟨none,.store 1 (.r 93) (.r 88)⟩] [⟨none,.ixS (some 94) (.r 81) (.r 83) 1⟩,⟨none,.store 1 (.r 94) (.r 92)⟩]))) (.ops [0,1,2,7,8,9] [] [vv 66 9,vb 67 .sub 66 1,vo 9 67]))
def f66_46:AC:=.loop [0,1,2,7,8,9] [] f66_47
theorem f66_46w:aC P id m f66_46 sf st Q = am (aC P id m f66_47) [0,1,2,7,8,9] [] sf st Q:=rfl
abbrev f66_66:AC:=.seq (.seq (.ops [0,1,2,7,8,10,103] [] [vv 101 10,vv 102 2,⟨none,.bin (some 103) .num .lss (.r 101) (.r 102)⟩]) (.cond (.r 103) .skip (.exit [0,1,2,7,8] [] 6))) (.seq (.block 7 (.seq (.seq (.draw [0,1,2,7,8,10,116] [] [] [vv 106 0,vv 107 10,⟨none,.ixS (some 108) (.r 106) (.r 107) 1⟩,vl 109 108,vv 110 0,vv 111 10,vb 112 .sub 111 1,⟨none,.ixS (some 113) (.r 110) (.r 112) 1⟩,vl 114 113] [⟨none,.call (some 115) false (.f 67) [(.r 109),(.r 114)]⟩,⟨none,.un (some 116) .not (.r 115)⟩]) (.cond (.r 116) (.exit [0,1,2,7,8] [] 6) .skip)) (.draw [0,1,2,7,8,10] [] [131] [vv 117 0,vv 118 10,vv 119 0,vv 120 10,vb 121 .sub 120 1,vv 122 0,vv 123 10,vb 124 .sub 123 1,⟨none,.ixS (some 125) (.r 122) (.r 124) 1⟩,vl 126 125,vv 127 0,vv 128 10,⟨none,.ixS (some 129) (.r 127) (.r 128) 1⟩,vl 130 129,⟨none,.ixS (some 131) (.r 117) (.r 118) 1⟩,⟨none,.store 1 (.r 131) (.r 126)⟩] [⟨none,.ixS (some 132) (.r 119) (.r 121) 1⟩,⟨none,.store 1 (.r 132) (.r 130)⟩]))) (.ops [0,1,2,7,8,10] [] [vv 104 10,vb 105 .add 104 1,vo 10 105]))
def f66_65:AC:=.loop [0,1,2,7,8,10] [] f66_66
theorem f66_65w:aC P id m f66_65 sf st Q = am (aC P id m f66_66) [0,1,2,7,8,10] [] sf st Q:=rfl
abbrev f66_10:AC:=.seq (.seq (.ops [0,1,2,7,8,14] [] [vv 13 8,vb 14 .lss 13 5]) (.cond (.r 14) .skip (.exit [] [] 0))) (.seq (.block 1 (.seq (.block 2 f66_18) (.seq (.seq (.ops [0,1,2,7,8,37] [] [vv 35 7,vv 36 2,⟨none,.bin (some 37) .num .eql (.r 35) (.r 36)⟩]) (.cond (.r 37) (.seq (.ops [6] [] [⟨none,.mv (some 6) (.c (.lit (.bool true)))⟩]) .ret) .skip)) (.seq (.seq (.ops [0,1,2,7,8,41] [] [vv 38 2,vv 39 1,⟨none,.bin (some 40) .num .sub (.r 38) (.r 39)⟩,vb 41 .lss 40 50]) (.cond (.r 41) (.seq (.ops [6] [] [⟨none,.mv (some 6) (.c (.lit (.bool false)))⟩]) .ret) .skip)) (.seq (.draw [0,1,2,7,8] [] [56] [vv 42 0,vv 43 7,vv 44 0,vv 45 7,vb 46 .sub 45 1,vv 47 0,vv 48 7,vb 49 .sub 48 1,⟨none,.ixS (some 50) (.r 47) (.r 49) 1⟩,vl 51 50,vv 52 0,vv 53 7,⟨none,.ixS (some 54) (.r 52) (.r 53) 1⟩,vl 55 54,⟨none,.ixS (some 56) (.r 42) (.r 43) 1⟩,⟨none,.store 1 (.r 56) (.r 51)⟩] [⟨none,.ixS (some 57) (.r 44) (.r 46) 1⟩,⟨none,.store 1 (.r 57) (.r 55)⟩]) (.seq (.seq (.ops [0,1,2,7,8,61] [] [vv 58 7,vv 59 1,⟨none,.bin (some 60) .num .sub (.r 58) (.r 59)⟩,vb 61 .geq 60 2]) (.cond (.r 61) (.seq (.ops [0,1,2,7,8,9] [] [vv 62 7,vb 63 .sub 62 1,vo 9 63]) (.block 4 f66_46)) .skip)) (.seq (.ops [0,1,2,7,8,98] [] [vv 95 2,vv 96 7,⟨none,.bin (some 97) .num .sub (.r 95) (.r 96)⟩,vb 98 .geq 97 2]) (.cond (.r 98) (.seq (.ops [0,1,2,7,8,10] [] [vv 99 7,vb 100 .add 99 1,vo 10 100]) (.block 6 f66_65)) .skip)))))))) (.ops [0,1,2,7,8] [] [vv 15 8,vb 16 .add 15 1,vo 8 16]))
def f66_9:AC:=.loop [0,1,2,7,8] [] f66_10
theorem f66_9w:aC P id m f66_9 sf st Q = am (aC P id m f66_10) [0,1,2,7,8] [] sf st Q:=rfl
abbrev f66_1:AC:=.seq (.ops [0,1,2] [] [⟨none,.mv (some 6) (.c (.lit (.bool false)))⟩]) (.seq (.ops [0,1,2,7] [] [vv 11 1,vb 12 .add 11 1,vo 7 12]) (.seq (.seq (.ops [0,1,2,7,8] [] [⟨none,.mv (some 8) (.c (.lit (.int .i64 0)))⟩]) (.block 0 f66_9)) (.seq (.ops [6] [] [⟨none,.mv (some 6) (.c (.lit (.bool false)))⟩]) .ret)))
def c_f66:AFun:=⟨133,[.tmp 6],f66_1⟩
theorem k_f66:kX x_f66 66 c_f66:=by delta kX; kernel_rfl
theorem e_f66:eX 66:=by delta eX; kernel_rfl

def n_f67:Nat:=67
def x_f67:=xX 17 [0,1,4,5,6,7,8,9,10,11,12,13,14,15,16] [] [(2,[0,1],[]),(6,[4],[])]
abbrev f67_1:AC:=.seq (.ops [0,1] [] [⟨none,.mv (some 4) (.c (.lit (.bool false)))⟩]) (.seq (.ops [4] [] [vv 5 0,⟨none,.call (some 6) false (.f 78) [(.r 5)]⟩,vv 7 6,⟨some (7,true),.mv (some 8) (.r 1)⟩,⟨some (7,true),.call (some 9) false (.f 78) [(.r 8)]⟩,⟨some (7,true),.un (some 10) .not (.r 9)⟩,⟨none,.pick (some 11) (.r 7) (.r 10) (.c (.lit (.bool false)))⟩,vv 12 11,⟨some (12,false),.mv (some 13) (.r 0)⟩,⟨some (12,false),.mv (some 14) (.r 1)⟩,⟨some (12,false),.bin (some 15) .num .lss (.r 13) (.r 14)⟩,⟨none,.pick (some 16) (.r 12) (.c (.lit (.bool true))) (.r 15)⟩,vo 4 16]) .ret)
def c_f67:AFun:=⟨17,[.tmp 4],f67_1⟩
theorem k_f67:kX x_f67 67 c_f67:=by delta kX; kernel_rfl
theorem e_f67:eX 67:=by delta eX; kernel_rfl

def n_f68:Nat:=68
def x_f68:=xX 84 [1,2,3,8,9,10,12,14,16,18,20,22,25,26,27,28,29,30,31,32,34,36,38,40,41,42,44,45,46,47,48,49,51,53,55,57,58,60,61,62,63,66,68,70,72,74,76,79,80,81,82,83] [0,11,13,65,67] [(2,[0,1,2,3],[]),(6,[0,1,2],[]),(14,[0,1,9,10],[]),(60,[0,1,9,10],[]),(960,[0,1,9,10],[]),(7680,[0,1,9,10,43],[]),(15363,[0,1,9,10],[]),(7682,[0,1,9,10],[]),(1924,[0,1,9,10],[]),(15392,[0,1,9,10,59],[]),(30787,[0,1,9,10],[]),(15394,[0,1,9,10],[]),(3852,[0,1,9,10,64],[]),(7706,[9],[]),(3854,[0,1,9,10],[]),(7710,[0,1,9,10],[]),(7711,[0,1,9,10],[]),(62,[8],[])]
abbrev f68_14:AC:=.seq (.seq (.draw [0,1,9,10,43] [] [] [vv 29 9,vv 30 10,⟨none,.bin (some 31) .num .leq (.r 29) (.r 30)⟩,vv 32 31,⟨some (32,true),.mv (some 33) (.r 0)⟩,⟨some (32,true),.mv (some 34) (.r 1)⟩,⟨some (32,true),.ixS (some 35) (.r 33) (.r 34) 1⟩,⟨some (32,true),.load (some 36) (.r 35) none⟩,⟨some (32,true),.mv (some 37) (.r 0)⟩,⟨some (32,true),.mv (some 38) (.r 9)⟩,⟨some (32,true),.ixS (some 39) (.r 37) (.r 38) 1⟩,⟨some (32,true),.load (some 40) (.r 39) none⟩] [⟨some (32,true),.call (some 41) false (.f 67) [(.r 36),(.r 40)]⟩,⟨some (32,true),.un (some 42) .not (.r 41)⟩,⟨none,.pick (some 43) (.r 32) (.r 42) (.c (.lit (.bool false)))⟩]) (.cond (.r 43) .skip (.exit [0,1,9,10] [] 2))) (.block 3 (.ops [0,1,9,10] [] [vv 44 9,vb 45 .add 44 1,vo 9 45]))
def f68_13:AC:=.loop [0,1,9,10] [] f68_14
theorem f68_13w:aC P id m f68_13 sf st Q = am (aC P id m f68_14) [0,1,9,10] [] sf st Q:=rfl
abbrev f68_23:AC:=.seq (.seq (.draw [0,1,9,10,59] [] [] [vv 46 9,vv 47 10,⟨none,.bin (some 48) .num .leq (.r 46) (.r 47)⟩,vv 49 48,⟨some (49,true),.mv (some 50) (.r 0)⟩,⟨some (49,true),.mv (some 51) (.r 1)⟩,⟨some (49,true),.ixS (some 52) (.r 50) (.r 51) 1⟩,⟨some (49,true),.load (some 53) (.r 52) none⟩,⟨some (49,true),.mv (some 54) (.r 0)⟩,⟨some (49,true),.mv (some 55) (.r 10)⟩,⟨some (49,true),.ixS (some 56) (.r 54) (.r 55) 1⟩,⟨some (49,true),.load (some 57) (.r 56) none⟩] [⟨some (49,true),.call (some 58) false (.f 67) [(.r 53),(.r 57)]⟩,⟨none,.pick (some 59) (.r 49) (.r 58) (.c (.lit (.bool false)))⟩]) (.cond (.r 59) .skip (.exit [0,1,9,10] [] 4))) (.block 5 (.ops [0,1,9,10] [] [vv 60 10,vb 61 .sub 60 1,vo 10 61]))
def f68_22:AC:=.loop [0,1,9,10] [] f68_23
theorem f68_22w:aC P id m f68_22 sf st Q = am (aC P id m f68_23) [0,1,9,10] [] sf st Q:=rfl
abbrev f68_10:AC:=.block 1 (.seq (.block 2 f68_13) (.seq (.block 4 f68_22) (.seq (.seq (.ops [0,1,9,10,64] [] [vv 62 9,vv 63 10,⟨none,.bin (some 64) .num .gtr (.r 62) (.r 63)⟩]) (.cond (.r 64) (.exit [9] [] 0) .skip)) (.seq (.draw [0,1,9,10] [] [77] [vv 65 0,vv 66 9,vv 67 0,vv 68 10,vv 69 0,vv 70 10,⟨none,.ixS (some 71) (.r 69) (.r 70) 1⟩,vl 72 71,vv 73 0,vv 74 9,⟨none,.ixS (some 75) (.r 73) (.r 74) 1⟩,vl 76 75,⟨none,.ixS (some 77) (.r 65) (.r 66) 1⟩,⟨none,.store 1 (.r 77) (.r 72)⟩] [⟨none,.ixS (some 78) (.r 67) (.r 68) 1⟩,⟨none,.store 1 (.r 78) (.r 76)⟩]) (.seq (.ops [0,1,9,10] [] [vv 79 9,vb 80 .add 79 1,vo 9 80]) (.ops [0,1,9,10] [] [vv 81 10,vb 82 .sub 81 1,vo 10 82]))))))
def f68_9:AC:=.loop [0,1,9,10] [] f68_10
theorem f68_9w:aC P id m f68_9 sf st Q = am (aC P id m f68_10) [0,1,9,10] [] sf st Q:=rfl
abbrev f68_1:AC:=.seq (.ops [0,1,2,3] [] [⟨none,.mv (some 8) (.c (.lit (.int .i64 0)))⟩]) (.seq (.draw [0,1,2] [] [23] [vv 11 0,vv 12 1,vv 13 0,vv 14 3,vv 15 0,vv 16 3,⟨none,.ixS (some 17) (.r 15) (.r 16) 1⟩,vl 18 17,vv 19 0,vv 20 1,⟨none,.ixS (some 21) (.r 19) (.r 20) 1⟩,vl 22 21,⟨none,.ixS (some 23) (.r 11) (.r 12) 1⟩,⟨none,.store 1 (.r 23) (.r 18)⟩] [⟨none,.ixS (some 24) (.r 13) (.r 14) 1⟩,⟨none,.store 1 (.r 24) (.r 22)⟩]) (.seq (.ops [0,1,9,10] [] [vv 25 1,vb 26 .add 25 1,vv 27 2,vb 28 .sub 27 1,vo 9 26,vo 10 28]) (.seq (.block 0 f68_9) (.seq (.ops [8] [] [vv 83 9,vo 8 83]) .ret))))
def c_f68:AFun:=⟨84,[.tmp 8],f68_1⟩
theorem k_f68:kX x_f68 68 c_f68:=by delta kX; kernel_rfl
theorem e_f68:eX 68:=by delta eX; kernel_rfl

def n_f69:Nat:=69
def x_f69:=xX 168 [1,2,3,8,9,10,11,13,15,17,19,21,23,26,27,28,29,30,31,32,33,35,37,39,41,42,44,45,46,47,48,49,51,53,55,57,58,59,61,62,63,64,67,69,71,73,75,77,80,82,84,86,88,90,92,95,96,97,98,99,100,101,102,104,106,108,110,111,113,114,115,116,117,118,120,122,124,126,127,128,130,131,132,133,136,138,140,142,144,146,149,150,151,152,154,156,158,160,162,164,167] [0,12,14,66,68,81,83,135,137,153,155] [(2,[0,1,2,3],[]),(6,[0,1,2],[]),(14,[0,1,10,11],[]),(60,[0,1,10,11],[]),(480,[0,1,10,11,43],[]),(963,[0,1,10,11],[]),(482,[0,1,10,11],[]),(124,[0,1,10,11],[]),(992,[0,1,10,11,60],[]),(1987,[0,1,10,11],[]),(994,[0,1,10,11],[]),(252,[0,1,10,11,65],[]),(1012,[11],[]),(2026,[8,9],[]),(254,[0,1,10,11],[]),(510,[0,1,10,11],[]),(1022,[0,1,10,11],[]),(4092,[0,1,10,11],[]),(65472,[0,1,10,11],[]),(523776,[0,1,10,11,112],[]),(1047555,[0,1,10,11],[]),(523778,[0,1,10,11],[]),(130948,[0,1,10,11],[]),(1047584,[0,1,10,11,129],[]),(2095171,[0,1,10,11],[]),(1047586,[0,1,10,11],[]),(261900,[0,1,10,11,134],[]),(523802,[0,1,11],[]),(261902,[0,1,10,11],[]),(523806,[0,1,10,11],[]),(523807,[0,1,10,11],[]),(4094,[11],[]),(8190,[8,9],[])]
abbrev f69_10:AC:=.seq (.seq (.draw [0,1,10,11,43] [] [] [vv 30 10,vv 31 11,⟨none,.bin (some 32) .num .leq (.r 30) (.r 31)⟩,vv 33 32,⟨some (33,true),.mv (some 34) (.r 0)⟩,⟨some (33,true),.mv (some 35) (.r 10)⟩,⟨some (33,true),.ixS (some 36) (.r 34) (.r 35) 1⟩,⟨some (33,true),.load (some 37) (.r 36) none⟩,⟨some (33,true),.mv (some 38) (.r 0)⟩,⟨some (33,true),.mv (some 39) (.r 1)⟩,⟨some (33,true),.ixS (some 40) (.r 38) (.r 39) 1⟩,⟨some (33,true),.load (some 41) (.r 40) none⟩] [⟨some (33,true),.call (some 42) false (.f 67) [(.r 37),(.r 41)]⟩,⟨none,.pick (some 43) (.r 33) (.r 42) (.c (.lit (.bool false)))⟩]) (.cond (.r 43) .skip (.exit [0,1,10,11] [] 0))) (.block 1 (.ops [0,1,10,11] [] [vv 44 10,vb 45 .add 44 1,vo 10 45]))
def f69_9:AC:=.loop [0,1,10,11] [] f69_10
theorem f69_9w:aC P id m f69_9 sf st Q = am (aC P id m f69_10) [0,1,10,11] [] sf st Q:=rfl
abbrev f69_19:AC:=.seq (.seq (.draw [0,1,10,11,60] [] [] [vv 46 10,vv 47 11,⟨none,.bin (some 48) .num .leq (.r 46) (.r 47)⟩,vv 49 48,⟨some (49,true),.mv (some 50) (.r 0)⟩,⟨some (49,true),.mv (some 51) (.r 11)⟩,⟨some (49,true),.ixS (some 52) (.r 50) (.r 51) 1⟩,⟨some (49,true),.load (some 53) (.r 52) none⟩,⟨some (49,true),.mv (some 54) (.r 0)⟩,⟨some (49,true),.mv (some 55) (.r 1)⟩,⟨some (49,true),.ixS (some 56) (.r 54) (.r 55) 1⟩,⟨some (49,true),.load (some 57) (.r 56) none⟩] [⟨some (49,true),.call (some 58) false (.f 67) [(.r 53),(.r 57)]⟩,⟨some (49,true),.un (some 59) .not (.r 58)⟩,⟨none,.pick (some 60) (.r 49) (.r 59) (.c (.lit (.bool false)))⟩]) (.cond (.r 60) .skip (.exit [0,1,10,11] [] 2))) (.block 3 (.ops [0,1,10,11] [] [vv 61 11,vb 62 .sub 61 1,vo 11 62]))
def f69_18:AC:=.loop [0,1,10,11] [] f69_19
theorem f69_18w:aC P id m f69_18 sf st Q = am (aC P id m f69_19) [0,1,10,11] [] sf st Q:=rfl
abbrev f69_46:AC:=.seq (.seq (.draw [0,1,10,11,112] [] [] [vv 99 10,vv 100 11,⟨none,.bin (some 101) .num .leq (.r 99) (.r 100)⟩,vv 102 101,⟨some (102,true),.mv (some 103) (.r 0)⟩,⟨some (102,true),.mv (some 104) (.r 10)⟩,⟨some (102,true),.ixS (some 105) (.r 103) (.r 104) 1⟩,⟨some (102,true),.load (some 106) (.r 105) none⟩,⟨some (102,true),.mv (some 107) (.r 0)⟩,⟨some (102,true),.mv (some 108) (.r 1)⟩,⟨some (102,true),.ixS (some 109) (.r 107) (.r 108) 1⟩,⟨some (102,true),.load (some 110) (.r 109) none⟩] [⟨some (102,true),.call (some 111) false (.f 67) [(.r 106),(.r 110)]⟩,⟨none,.pick (some 112) (.r 102) (.r 111) (.c (.lit (.bool false)))⟩]) (.cond (.r 112) .skip (.exit [0,1,10,11] [] 6))) (.block 7 (.ops [0,1,10,11] [] [vv 113 10,vb 114 .add 113 1,vo 10 114]))
def f69_45:AC:=.loop [0,1,10,11] [] f69_46
theorem f69_45w:aC P id m f69_45 sf st Q = am (aC P id m f69_46) [0,1,10,11] [] sf st Q:=rfl
abbrev f69_55:AC:=.seq (.seq (.draw [0,1,10,11,129] [] [] [vv 115 10,vv 116 11,⟨none,.bin (some 117) .num .leq (.r 115) (.r 116)⟩,vv 118 117,⟨some (118,true),.mv (some 119) (.r 0)⟩,⟨some (118,true),.mv (some 120) (.r 11)⟩,⟨some (118,true),.ixS (some 121) (.r 119) (.r 120) 1⟩,⟨some (118,true),.load (some 122) (.r 121) none⟩,⟨some (118,true),.mv (some 123) (.r 0)⟩,⟨some (118,true),.mv (some 124) (.r 1)⟩,⟨some (118,true),.ixS (some 125) (.r 123) (.r 124) 1⟩,⟨some (118,true),.load (some 126) (.r 125) none⟩] [⟨some (118,true),.call (some 127) false (.f 67) [(.r 122),(.r 126)]⟩,⟨some (118,true),.un (some 128) .not (.r 127)⟩,⟨none,.pick (some 129) (.r 118) (.r 128) (.c (.lit (.bool false)))⟩]) (.cond (.r 129) .skip (.exit [0,1,10,11] [] 8))) (.block 9 (.ops [0,1,10,11] [] [vv 130 11,vb 131 .sub 130 1,vo 11 131]))
def f69_54:AC:=.loop [0,1,10,11] [] f69_55
theorem f69_54w:aC P id m f69_54 sf st Q = am (aC P id m f69_55) [0,1,10,11] [] sf st Q:=rfl
abbrev f69_42:AC:=.block 5 (.seq (.block 6 f69_45) (.seq (.block 8 f69_54) (.seq (.seq (.ops [0,1,10,11,134] [] [vv 132 10,vv 133 11,⟨none,.bin (some 134) .num .gtr (.r 132) (.r 133)⟩]) (.cond (.r 134) (.exit [0,1,11] [] 4) .skip)) (.seq (.draw [0,1,10,11] [] [147] [vv 135 0,vv 136 10,vv 137 0,vv 138 11,vv 139 0,vv 140 11,⟨none,.ixS (some 141) (.r 139) (.r 140) 1⟩,vl 142 141,vv 143 0,vv 144 10,⟨none,.ixS (some 145) (.r 143) (.r 144) 1⟩,vl 146 145,⟨none,.ixS (some 147) (.r 135) (.r 136) 1⟩,⟨none,.store 1 (.r 147) (.r 142)⟩] [⟨none,.ixS (some 148) (.r 137) (.r 138) 1⟩,⟨none,.store 1 (.r 148) (.r 146)⟩]) (.seq (.ops [0,1,10,11] [] [vv 149 10,vb 150 .add 149 1,vo 10 150]) (.ops [0,1,10,11] [] [vv 151 11,vb 152 .sub 151 1,vo 11 152]))))))
def f69_41:AC:=.loop [0,1,10,11] [] f69_42
theorem f69_41w:aC P id m f69_41 sf st Q = am (aC P id m f69_42) [0,1,10,11] [] sf st Q:=rfl
abbrev f69_25:AC:=.seq (.seq (.ops [0,1,10,11,65] [] [vv 63 10,vv 64 11,⟨none,.bin (some 65) .num .gtr (.r 63) (.r 64)⟩]) (.cond (.r 65) (.seq (.draw [11] [] [78] [vv 66 0,vv 67 11,vv 68 0,vv 69 1,vv 70 0,vv 71 1,⟨none,.ixS (some 72) (.r 70) (.r 71) 1⟩,vl 73 72,vv 74 0,vv 75 11,⟨none,.ixS (some 76) (.r 74) (.r 75) 1⟩,vl 77 76,⟨none,.ixS (some 78) (.r 66) (.r 67) 1⟩,⟨none,.store 1 (.r 78) (.r 73)⟩] [⟨none,.ixS (some 79) (.r 68) (.r 69) 1⟩,⟨none,.store 1 (.r 79) (.r 77)⟩]) (.seq (.ops [8,9] [] [vv 80 11,vo 8 80,⟨none,.mv (some 9) (.c (.lit (.bool true)))⟩]) .ret)) .skip)) (.seq (.draw [0,1,10,11] [] [93] [vv 81 0,vv 82 10,vv 83 0,vv 84 11,vv 85 0,vv 86 11,⟨none,.ixS (some 87) (.r 85) (.r 86) 1⟩,vl 88 87,vv 89 0,vv 90 10,⟨none,.ixS (some 91) (.r 89) (.r 90) 1⟩,vl 92 91,⟨none,.ixS (some 93) (.r 81) (.r 82) 1⟩,⟨none,.store 1 (.r 93) (.r 88)⟩] [⟨none,.ixS (some 94) (.r 83) (.r 84) 1⟩,⟨none,.store 1 (.r 94) (.r 92)⟩]) (.seq (.ops [0,1,10,11] [] [vv 95 10,vb 96 .add 95 1,vo 10 96]) (.seq (.ops [0,1,10,11] [] [vv 97 11,vb 98 .sub 97 1,vo 11 98]) (.seq (.block 4 f69_41) (.seq (.draw [11] [] [165] [vv 153 0,vv 154 11,vv 155 0,vv 156 1,vv 157 0,vv 158 1,⟨none,.ixS (some 159) (.r 157) (.r 158) 1⟩,vl 160 159,vv 161 0,vv 162 11,⟨none,.ixS (some 163) (.r 161) (.r 162) 1⟩,vl 164 163,⟨none,.ixS (some 165) (.r 153) (.r 154) 1⟩,⟨none,.store 1 (.r 165) (.r 160)⟩] [⟨none,.ixS (some 166) (.r 155) (.r 156) 1⟩,⟨none,.store 1 (.r 166) (.r 164)⟩]) (.seq (.ops [8,9] [] [vv 167 11,vo 8 167,⟨none,.mv (some 9) (.c (.lit (.bool false)))⟩]) .ret))))))
abbrev f69_1:AC:=.seq (.ops [0,1,2,3] [] [⟨none,.mv (some 8) (.c (.lit (.int .i64 0)))⟩,⟨none,.mv (some 9) (.c (.lit (.bool false)))⟩]) (.seq (.draw [0,1,2] [] [24] [vv 12 0,vv 13 1,vv 14 0,vv 15 3,vv 16 0,vv 17 3,⟨none,.ixS (some 18) (.r 16) (.r 17) 1⟩,vl 19 18,vv 20 0,vv 21 1,⟨none,.ixS (some 22) (.r 20) (.r 21) 1⟩,vl 23 22,⟨none,.ixS (some 24) (.r 12) (.r 13) 1⟩,⟨none,.store 1 (.r 24) (.r 19)⟩] [⟨none,.ixS (some 25) (.r 14) (.r 15) 1⟩,⟨none,.store 1 (.r 25) (.r 23)⟩]) (.seq (.ops [0,1,10,11] [] [vv 26 1,vb 27 .add 26 1,vv 28 2,vb 29 .sub 28 1,vo 10 27,vo 11 29]) (.seq (.block 0 f69_9) (.seq (.block 2 f69_18) f69_25))))
def c_f69:AFun:=⟨168,[.tmp 8,.tmp 9],f69_1⟩
theorem k_f69:kX x_f69 69 c_f69:=by delta kX; kernel_rfl
theorem e_f69:eX 69:=by delta eX; kernel_rfl

def n_f70:Nat:=70
def x_f70:=xX 19 [0,2,3,5,6,7,9,10,11,12,13,14,15,16,17,18] [] [(2,[0,2],[]),(12,[0,2,4],[]),(52,[0],[]),(53,[0,2],[]),(28,[0,2,8],[]),(116,[0,2],[]),(117,[0,2],[]),(30,[2],[])]
abbrev f70_3:AC:=.seq (.seq (.ops [0,2,4] [] [vv 3 0,⟨none,.bin (some 4) .num .geq (.r 3) (.c (.lit (.int .u32 65536)))⟩]) (.cond (.r 4) (.seq (.ops [0] [] [vv 5 0,⟨none,.bin (some 6) .num .shr (.r 5) (.c (.lit (.int .u64 16)))⟩,vo 0 6]) (.ops [0,2] [] [⟨none,.mv (some 2) (.c (.lit (.int .i64 16)))⟩])) .skip)) (.seq (.seq (.ops [0,2,8] [] [vv 7 0,⟨none,.bin (some 8) .num .geq (.r 7) (.c (.lit (.int .u32 256)))⟩]) (.cond (.r 8) (.seq (.ops [0,2] [] [vv 9 0,⟨none,.bin (some 10) .num .shr (.r 9) (.c (.lit (.int .u64 8)))⟩,vo 0 10]) (.ops [0,2] [] [vv 11 2,vb 12 .add 11 8,vo 2 12])) .skip)) (.seq (.ops [2] [] [vv 13 2,vv 14 0,⟨none,.conv (some 15) (.int .u8) (.r 14)⟩,⟨none,.ixStr (some 16) (.c (.lit (.string ⟨#[0,1,2,2,3,3,3,3,4,4,4,4,4,4,4,4,5,5,5,5,5,5,5,5,5,5,5,5,5,5,5,5,6,6,6,6,6,6,6,6,6,6,6,6,6,6,6,6,6,6,6,6,6,6,6,6,6,6,6,6,6,6,6,6,7,7,7,7,7,7,7,7,7,7,7,7,7,7,7,7,7,7,7,7,7,7,7,7,7,7,7,7,7,7,7,7,7,7,7,7,7,7,7,7,7,7,7,7,7,7,7,7,7,7,7,7,7,7,7,7,7,7,7,7,7,7,7,7,8,8,8,8,8,8,8,8,8,8,8,8,8,8,8,8,8,8,8,8,8,8,8,8,8,8,8,8,8,8,8,8,8,8,8,8,8,8,8,8,8,8,8,8,8,8,8,8,8,8,8,8,8,8,8,8,8,8,8,8,8,8,8,8,8,8,8,8,8,8,8,8,8,8,8,8,8,8,8,8,8,8,8,8,8,8,8,8,8,8,8,8,8,8,8,8,8,8,8,8,8,8,8,8,8,8,8,8,8,8,8,8,8,8,8,8,8,8,8,8,8,8,8,8,8,8,8,8]⟩))) (.r 15)⟩,⟨none,.conv (some 17) (.int .i64) (.r 16)⟩,⟨none,.bin (some 18) .num .add (.r 13) (.r 17)⟩,vo 2 18]) .ret))
abbrev f70_1:AC:=.seq (.ops [0,2] [] [⟨none,.mv (some 2) (.c (.lit (.int .i64 0)))⟩]) f70_3
def c_f70:AFun:=⟨19,[.tmp 2],f70_1⟩
theorem k_f70:kX x_f70 70 c_f70:=by delta kX; kernel_rfl
theorem e_f70:eX 70:=by delta eX; kernel_rfl

def n_f71:Nat:=71
def x_f71:=xX 25 [0,2,3,5,6,7,9,10,11,12,13,15,16,17,18,19,20,21,22,23,24] [] [(2,[0,2],[]),(12,[0,2,4],[]),(52,[0],[]),(53,[0,2],[]),(28,[0,2,8],[]),(116,[0,2],[]),(117,[0,2],[]),(60,[0,2,14],[]),(244,[0,2],[]),(245,[0,2],[]),(62,[2],[])]
abbrev f71_10:AC:=.seq (.seq (.ops [0,2,8] [] [vv 7 0,⟨none,.bin (some 8) .num .geq (.r 7) (.c (.lit (.int .u64 65536)))⟩]) (.cond (.r 8) (.seq (.ops [0,2] [] [vv 9 0,⟨none,.bin (some 10) .num .shr (.r 9) (.c (.lit (.int .u64 16)))⟩,vo 0 10]) (.ops [0,2] [] [vv 11 2,vb 12 .add 11 16,vo 2 12])) .skip)) (.seq (.seq (.ops [0,2,14] [] [vv 13 0,⟨none,.bin (some 14) .num .geq (.r 13) (.c (.lit (.int .u64 256)))⟩]) (.cond (.r 14) (.seq (.ops [0,2] [] [vv 15 0,⟨none,.bin (some 16) .num .shr (.r 15) (.c (.lit (.int .u64 8)))⟩,vo 0 16]) (.ops [0,2] [] [vv 17 2,vb 18 .add 17 8,vo 2 18])) .skip)) (.seq (.ops [2] [] [vv 19 2,vv 20 0,⟨none,.conv (some 21) (.int .u8) (.r 20)⟩,⟨none,.ixStr (some 22) (.c (.lit (.string ⟨#[0,1,2,2,3,3,3,3,4,4,4,4,4,4,4,4,5,5,5,5,5,5,5,5,5,5,5,5,5,5,5,5,6,6,6,6,6,6,6,6,6,6,6,6,6,6,6,6,6,6,6,6,6,6,6,6,6,6,6,6,6,6,6,6,7,7,7,7,7,7,7,7,7,7,7,7,7,7,7,7,7,7,7,7,7,7,7,7,7,7,7,7,7,7,7,7,7,7,7,7,7,7,7,7,7,7,7,7,7,7,7,7,7,7,7,7,7,7,7,7,7,7,7,7,7,7,7,7,8,8,8,8,8,8,8,8,8,8,8,8,8,8,8,8,8,8,8,8,8,8,8,8,8,8,8,8,8,8,8,8,8,8,8,8,8,8,8,8,8,8,8,8,8,8,8,8,8,8,8,8,8,8,8,8,8,8,8,8,8,8,8,8,8,8,8,8,8,8,8,8,8,8,8,8,8,8,8,8,8,8,8,8,8,8,8,8,8,8,8,8,8,8,8,8,8,8,8,8,8,8,8,8,8,8,8,8,8,8,8,8,8,8,8,8,8,8,8,8,8,8,8,8,8,8,8,8]⟩))) (.r 21)⟩,⟨none,.conv (some 23) (.int .i64) (.r 22)⟩,⟨none,.bin (some 24) .num .add (.r 19) (.r 23)⟩,vo 2 24]) .ret))
abbrev f71_1:AC:=.seq (.ops [0,2] [] [⟨none,.mv (some 2) (.c (.lit (.int .i64 0)))⟩]) (.seq (.seq (.ops [0,2,4] [] [vv 3 0,⟨none,.bin (some 4) .num .geq (.r 3) (.c (.lit (.int .u64 4294967296)))⟩]) (.cond (.r 4) (.seq (.ops [0] [] [vv 5 0,⟨none,.bin (some 6) .num .shr (.r 5) (.c (.lit (.int .u64 32)))⟩,vo 0 6]) (.ops [0,2] [] [⟨none,.mv (some 2) (.c (.lit (.int .i64 32)))⟩])) .skip)) f71_10)
def c_f71:AFun:=⟨25,[.tmp 2],f71_1⟩
theorem k_f71:kX x_f71 71 c_f71:=by delta kX; kernel_rfl
theorem e_f71:eX 71:=by delta eX; kernel_rfl

def n_f72:Nat:=72
def x_f72:=xX 27 [0,1,4,5,7,8,9,10,11,12,13,14,15,17,18,19,20,21,22,23,24,25,26] [22] [(2,[0,1],[]),(12,[0,1,6],[]),(26,[0,1],[]),(28,[0,1],[]),(58,[0,1,16],[]),(118,[0],[]),(30,[4],[])]
abbrev f72_1:AC:=.seq (.ops [0,1] [] [⟨none,.mv (some 4) (.c (.lit (.slice none 0 0)))⟩]) (.seq (.seq (.ops [0,1,6] [] [vv 5 1,vb 6 .lss 5 0]) (.cond (.r 6) (.ops [0,1] [] [⟨none,.mkif (some 7) 9 (.c (.lit (.string ⟨#[99,97,110,110,111,116,32,98,101,32,110,101,103,97,116,105,118,101]⟩)))⟩,⟨none,.x none .bad⟩]) .skip)) (.seq (.seq (.ops [0,1] [] [vv 8 1,vv 9 0,⟨none,.x (some 10) (.capU (.r 9))⟩,vv 11 0,⟨none,.len (some 12) .sl (.r 11)⟩,⟨none,.bin (some 13) .num .sub (.r 10) (.r 12)⟩,⟨none,.bin (some 14) .num .sub (.r 8) (.r 13)⟩,vo 1 14]) (.seq (.ops [0,1,16] [] [vv 15 1,vb 16 .gtr 15 0]) (.cond (.r 16) (.ops [0] [] [vv 17 0,vv 18 0,⟨none,.x (some 19) (.capU (.r 18))⟩,⟨none,.sliS (some 20) (.r 17) none (some (.r 19)) 1⟩,vv 21 1,⟨none,.x (some 22) (.appZ 1 1 (.lit (.int .u8 0)) (.r 20) (.r 21))⟩,vv 23 0,⟨none,.len (some 24) .sl (.r 23)⟩,⟨none,.sliS (some 25) (.r 22) none (some (.r 24)) 1⟩,vo 0 25]) .skip))) (.seq (.ops [4] [] [vv 26 0,vo 4 26]) .ret)))
def c_f72:AFun:=⟨27,[.tmp 4],f72_1⟩
theorem k_f72:kX x_f72 72 c_f72:=by delta kX; kernel_rfl
theorem e_f72:eX 72:=by delta eX; kernel_rfl

def n_f73:Nat:=73
def x_f73:=xX 76 [1,2,3,8,9,10,11,12,13,14,15,17,18,19,20,21,23,24,25,27,29,30,31,32,34,35,37,38,40,41,42,44,46,47,48,50,51,54,55,56,58,59,60,62,63,64,66,68,69,70,72,75] [0,53,57] [(2,[0,2,3,8],[]),(6,[0,2,3,8],[]),(48,[0,2,3,8,9],[]),(196,[0,2,3,8,9,16],[]),(394,[],[]),(396,[0,2,3,8,9,36],[]),(794,[0,2,3,8,9],[]),(796,[0,2,3,8,9,52],[]),(798,[0,2,3,9],[]),(799,[0,2,3,8],[])]
abbrev f73_12:AC:=.seq (.seq (.draw [0,2,3,8,9,36] [] [] [vv 17 9,vb 18 .add 17 1,vv 19 2,⟨none,.bin (some 20) .num .lss (.r 18) (.r 19)⟩,vv 21 20,⟨some (21,true),.mv (some 22) (.r 0)⟩,⟨some (21,true),.mv (some 23) (.r 3)⟩,⟨some (21,true),.mv (some 24) (.r 9)⟩,⟨some (21,true),.bin (some 25) .num .add (.r 23) (.r 24)⟩,⟨some (21,true),.ixS (some 26) (.r 22) (.r 25) 1⟩,⟨some (21,true),.load (some 27) (.r 26) none⟩,⟨some (21,true),.mv (some 28) (.r 0)⟩,⟨some (21,true),.mv (some 29) (.r 3)⟩,⟨some (21,true),.mv (some 30) (.r 9)⟩,⟨some (21,true),.bin (some 31) .num .add (.r 29) (.r 30)⟩,⟨some (21,true),.bin (some 32) .num .add (.r 31) (.c (.lit (.int .i64 1)))⟩,⟨some (21,true),.ixS (some 33) (.r 28) (.r 32) 1⟩,⟨some (21,true),.load (some 34) (.r 33) none⟩] [⟨some (21,true),.call (some 35) false (.f 67) [(.r 27),(.r 34)]⟩,⟨none,.pick (some 36) (.r 21) (.r 35) (.c (.lit (.bool false)))⟩]) (.cond (.r 36) (.ops [0,2,3,8,9] [] [vv 37 9,vb 38 .add 37 1,vo 9 38]) .skip)) (.seq (.seq (.draw [0,2,3,8,9,52] [] [] [vv 39 0,vv 40 3,vv 41 8,⟨none,.bin (some 42) .num .add (.r 40) (.r 41)⟩,⟨none,.ixS (some 43) (.r 39) (.r 42) 1⟩,vl 44 43,vv 45 0,vv 46 3,vv 47 9,⟨none,.bin (some 48) .num .add (.r 46) (.r 47)⟩,⟨none,.ixS (some 49) (.r 45) (.r 48) 1⟩,vl 50 49] [⟨none,.call (some 51) false (.f 67) [(.r 44),(.r 50)]⟩,⟨none,.un (some 52) .not (.r 51)⟩]) (.cond (.r 52) .ret .skip)) (.seq (.draw [0,2,3,9] [] [73] [vv 53 0,vv 54 3,vv 55 8,⟨none,.bin (some 56) .num .add (.r 54) (.r 55)⟩,vv 57 0,vv 58 3,vv 59 9,⟨none,.bin (some 60) .num .add (.r 58) (.r 59)⟩,vv 61 0,vv 62 3,vv 63 9,⟨none,.bin (some 64) .num .add (.r 62) (.r 63)⟩,⟨none,.ixS (some 65) (.r 61) (.r 64) 1⟩,vl 66 65,vv 67 0,vv 68 3,vv 69 8,⟨none,.bin (some 70) .num .add (.r 68) (.r 69)⟩,⟨none,.ixS (some 71) (.r 67) (.r 70) 1⟩,vl 72 71,⟨none,.ixS (some 73) (.r 53) (.r 56) 1⟩,⟨none,.store 1 (.r 73) (.r 66)⟩] [⟨none,.ixS (some 74) (.r 57) (.r 60) 1⟩,⟨none,.store 1 (.r 74) (.r 72)⟩]) (.ops [0,2,3,8] [] [vv 75 9,vo 8 75])))
abbrev f73_5:AC:=.block 1 (.seq (.ops [0,2,3,8,9] [] [vv 11 8,⟨none,.bin (some 12) .num .mul (.c (.lit (.int .i64 2))) (.r 11)⟩,vb 13 .add 12 1,vo 9 13]) (.seq (.seq (.ops [0,2,3,8,9,16] [] [vv 14 9,vv 15 2,⟨none,.bin (some 16) .num .geq (.r 14) (.r 15)⟩]) (.cond (.r 16) (.exit [] [] 0) .skip)) f73_12))
def f73_4:AC:=.loop [0,2,3,8] [] f73_5
theorem f73_4w:aC P id m f73_4 sf st Q = am (aC P id m f73_5) [0,2,3,8] [] sf st Q:=rfl
abbrev f73_1:AC:=.seq (.ops [0,2,3,8] [] [vv 10 1,vo 8 10]) (.block 0 f73_4)
def c_f73:AFun:=⟨76,[],f73_1⟩
theorem k_f73:kX x_f73 73 c_f73:=by delta kX; kernel_rfl
theorem e_f73:eX 73:=by delta eX; kernel_rfl

def n_f74:Nat:=74
def x_f74:=xX 7 [0,2,3,4,5,6] [] [(2,[0],[]),(6,[2],[])]
abbrev f74_1:AC:=.seq (.ops [0] [] [⟨none,.mv (some 2) (.c (.lit (.int .u64 0)))⟩]) (.seq (.ops [2] [] [vv 3 0,⟨none,.conv (some 4) (.int .u64) (.r 3)⟩,⟨none,.call (some 5) false (.f 55) [(.r 4)]⟩,⟨none,.bin (some 6) .num .shl (.c (.lit (.int .u64 1))) (.r 5)⟩,vo 2 6]) .ret)
def c_f74:AFun:=⟨7,[.tmp 2],f74_1⟩
theorem k_f74:kX x_f74 74 c_f74:=by delta kX; kernel_rfl
theorem e_f74:eX 74:=by delta eX; kernel_rfl

def n_f75:Nat:=75
def x_f75:=xX 33 [2,5,8,9,10,14,17,18,19,23,26,27,28,32] [] [(2,[0],[]),(6,[0],[]),(14,[0],[]),(30,[0],[]),(62,[2],[])]
abbrev f75_1:AC:=.seq (.ops [0] [] [⟨none,.mv (some 2) (.c (.lit (.int .u64 0)))⟩]) (.seq (.draw [0] [] [] [vv 3 0,vn 4 3,vl 5 4,vv 6 0,vn 7 6,vl 8 7,⟨none,.bin (some 9) .num .shl (.r 8) (.c (.lit (.int .u64 13)))⟩] [⟨none,.bin (some 10) .num .xor (.r 5) (.r 9)⟩,vn 11 3,⟨none,.store 1 (.r 11) (.r 10)⟩]) (.seq (.draw [0] [] [] [vv 12 0,vn 13 12,vl 14 13,vv 15 0,vn 16 15,vl 17 16,⟨none,.bin (some 18) .num .shr (.r 17) (.c (.lit (.int .u64 7)))⟩] [⟨none,.bin (some 19) .num .xor (.r 14) (.r 18)⟩,vn 20 12,⟨none,.store 1 (.r 20) (.r 19)⟩]) (.seq (.draw [0] [] [] [vv 21 0,vn 22 21,vl 23 22,vv 24 0,vn 25 24,vl 26 25,⟨none,.bin (some 27) .num .shl (.r 26) (.c (.lit (.int .u64 17)))⟩] [⟨none,.bin (some 28) .num .xor (.r 23) (.r 27)⟩,vn 29 21,⟨none,.store 1 (.r 29) (.r 28)⟩]) (.seq (.ops [2] [] [vv 30 0,vn 31 30,vl 32 31,vo 2 32]) .ret))))
def c_f75:AFun:=⟨33,[.tmp 2],f75_1⟩
theorem k_f75:kX x_f75 75 c_f75:=by delta kX; kernel_rfl
theorem e_f75:eX 75:=by delta eX; kernel_rfl

def n_f76:Nat:=76
def x_f76:=xX 15 [0,1,2,6,7,8,9,10,11,12,13,14] [] [(2,[0,1,2],[]),(6,[6],[])]
abbrev f76_1:AC:=.seq (.ops [0,1,2] [] [⟨none,.mv (some 6) (.c (.lit (.int .i64 0)))⟩]) (.seq (.ops [6] [] [vv 7 0,vv 8 1,vb 9 .sub 8 1,vv 10 1,vv 11 1,vb 12 .add 11 1,vv 13 2,⟨none,.call (some 14) false (.f 77) [(.r 7),(.r 9),(.r 10),(.r 12),(.r 13)]⟩,vo 6 14]) .ret)
def c_f76:AFun:=⟨15,[.tmp 6],f76_1⟩
theorem k_f76:kX x_f76 76 c_f76:=by delta kX; kernel_rfl
theorem e_f76:eX 76:=by delta eX; kernel_rfl

def n_f77:Nat:=77
def x_f77:=xX 36 [0,1,2,3,4,10,11,12,13,14,15,16,17,18,19,20,21,22,23,24,25,26,27,28,29,30,31,32,33,34,35] [] [(2,[0,1,2,3,4],[]),(6,[0,1,2,3,4],[]),(14,[0,1,2,4],[]),(30,[2],[]),(62,[10],[])]
abbrev f77_1:AC:=.seq (.ops [0,1,2,3,4] [] [⟨none,.mv (some 10) (.c (.lit (.int .i64 0)))⟩]) (.seq (.ops [0,1,2,3,4] [] [vv 12 0,vv 13 1,vv 14 2,vv 15 4,⟨none,.call (some 16) false (.f 79) [(.r 12),(.r 13),(.r 14),(.r 15)]⟩,vv 11 16,ve 17 11 0,ve 18 11 1,vo 1 17,vo 2 18]) (.seq (.ops [0,1,2,4] [] [vv 20 0,vv 21 2,vv 22 3,vv 23 4,⟨none,.call (some 24) false (.f 79) [(.r 20),(.r 21),(.r 22),(.r 23)]⟩,vv 19 24,ve 25 19 0,ve 26 19 1,vo 2 25,vo 3 26]) (.seq (.ops [2] [] [vv 28 0,vv 29 1,vv 30 2,vv 31 4,⟨none,.call (some 32) false (.f 79) [(.r 28),(.r 29),(.r 30),(.r 31)]⟩,vv 27 32,ve 33 27 0,ve 34 27 1,vo 1 33,vo 2 34]) (.seq (.ops [10] [] [vv 35 2,vo 10 35]) .ret))))
def c_f77:AFun:=⟨36,[.tmp 10],f77_1⟩
theorem k_f77:kX x_f77 77 c_f77:=by delta kX; kernel_rfl
theorem e_f77:eX 77:=by delta eX; kernel_rfl

def n_f78:Nat:=78
def x_f78:=xX 6 [0,2,3,4,5] [] [(2,[0],[]),(6,[2],[])]
abbrev f78_1:AC:=.seq (.ops [0] [] [⟨none,.mv (some 2) (.c (.lit (.bool false)))⟩]) (.seq (.ops [2] [] [vv 3 0,vv 4 0,⟨none,.bin (some 5) .num .neq (.r 3) (.r 4)⟩,vo 2 5]) .ret)
def c_f78:AFun:=⟨6,[.tmp 2],f78_1⟩
theorem k_f78:kX x_f78 78 c_f78:=by delta kX; kernel_rfl
theorem e_f78:eX 78:=by delta eX; kernel_rfl

def n_f79:Nat:=79
def x_f79:=xX 28 [1,2,8,9,11,13,15,17,21,22,24,25,26,27] [] [(2,[0,1,2,3],[]),(12,[1,2,3,18],[]),(52,[1,2],[]),(106,[8,9],[]),(14,[8,9],[])]
abbrev f79_1:AC:=.seq (.ops [0,1,2,3] [] [⟨none,.mv (some 8) (.c (.lit (.int .i64 0)))⟩,⟨none,.mv (some 9) (.c (.lit (.int .i64 0)))⟩]) (.seq (.seq (.draw [1,2,3,18] [] [] [vv 10 0,vv 11 2,⟨none,.ixS (some 12) (.r 10) (.r 11) 1⟩,vl 13 12,vv 14 0,vv 15 1,⟨none,.ixS (some 16) (.r 14) (.r 15) 1⟩,vl 17 16] [⟨none,.call (some 18) false (.f 67) [(.r 13),(.r 17)]⟩]) (.cond (.r 18) (.seq (.ops [1,2] [] [vv 19 3,vn 20 19,vl 21 20,vb 22 .add 21 1,vn 23 19,⟨none,.store 1 (.r 23) (.r 22)⟩]) (.seq (.ops [8,9] [] [vv 24 2,vv 25 1,vo 8 24,vo 9 25]) .ret)) .skip)) (.seq (.ops [8,9] [] [vv 26 1,vv 27 2,vo 8 26,vo 9 27]) .ret))
def c_f79:AFun:=⟨28,[.tmp 8,.tmp 9],f79_1⟩
theorem k_f79:kX x_f79 79 c_f79:=by delta kX; kernel_rfl
theorem e_f79:eX 79:=by delta eX; kernel_rfl

def tab (q:Nat):Option AFun :=
 if q = 5 then some c_f5 else
 if q = 7 then some c_f7 else
 if q = 8 then some c_f8 else
 if q = 9 then some c_f9 else
 if q = 11 then some c_f11 else
 if q = 13 then some c_f13 else
 if q = 15 then some c_f15 else
 if q = 16 then some c_f16 else
 if q = 17 then some c_f17 else
 if q = 18 then some c_f18 else
 if q = 19 then some c_f19 else
 if q = 20 then some c_f20 else
 if q = 24 then some c_f24 else
 if q = 25 then some c_f25 else
 if q = 26 then some c_f26 else
 if q = 28 then some c_f28 else
 if q = 29 then some c_f29 else
 if q = 30 then some c_f30 else
 if q = 31 then some c_f31 else
 if q = 32 then some c_f32 else
 if q = 33 then some c_f33 else
 if q = 34 then some c_f34 else
 if q = 35 then some c_f35 else
 if q = 36 then some c_f36 else
 if q = 37 then some c_f37 else
 if q = 38 then some c_f38 else
 if q = 40 then some c_f40 else
 if q = 41 then some c_f41 else
 if q = 42 then some c_f42 else
 if q = 43 then some c_f43 else
 if q = 44 then some c_f44 else
 if q = 45 then some c_f45 else
 if q = 46 then some c_f46 else
 if q = 48 then some c_f48 else
 if q = 49 then some c_f49 else
 if q = 50 then some c_f50 else
 if q = 51 then some c_f51 else
 if q = 52 then some c_f52 else
 if q = 53 then some c_f53 else
 if q = 54 then some c_f54 else
 if q = 55 then some c_f55 else
 if q = 56 then some c_f56 else
 if q = 58 then some c_f58 else
 if q = 59 then some c_f59 else
 if q = 60 then some c_f60 else
 if q = 61 then some c_f61 else
 if q = 62 then some c_f62 else
 if q = 63 then some c_f63 else
 if q = 64 then some c_f64 else
 if q = 65 then some c_f65 else
 if q = 66 then some c_f66 else
 if q = 67 then some c_f67 else
 if q = 68 then some c_f68 else
 if q = 69 then some c_f69 else
 if q = 70 then some c_f70 else
 if q = 71 then some c_f71 else
 if q = 72 then some c_f72 else
 if q = 73 then some c_f73 else
 if q = 74 then some c_f74 else
 if q = 75 then some c_f75 else
 if q = 76 then some c_f76 else
 if q = 77 then some c_f77 else
 if q = 78 then some c_f78 else
 if q = 79 then some c_f79 else
 none
theorem tabOk:pW Go.Proofs.Try.prog id tab :=
 aa e_f5 k_f5 rfl (
 aa e_f7 k_f7 rfl (
 aa e_f8 k_f8 rfl (
 aa e_f9 k_f9 rfl (
 aa e_f11 k_f11 rfl (
 aa e_f13 k_f13 rfl (
 aa e_f15 k_f15 rfl (
 aa e_f16 k_f16 rfl (
 aa e_f17 k_f17 rfl (
 aa e_f18 k_f18 rfl (
 aa e_f19 k_f19 rfl (
 aa e_f20 k_f20 rfl (
 aa e_f24 k_f24 rfl (
 aa e_f25 k_f25 rfl (
 aa e_f26 k_f26 rfl (
 aa e_f28 k_f28 rfl (
 aa e_f29 k_f29 rfl (
 aa e_f30 k_f30 rfl (
 aa e_f31 k_f31 rfl (
 aa e_f32 k_f32 rfl (
 aa e_f33 k_f33 rfl (
 aa e_f34 k_f34 rfl (
 aa e_f35 k_f35 rfl (
 aa e_f36 k_f36 rfl (
 aa e_f37 k_f37 rfl (
 aa e_f38 k_f38 rfl (
 aa e_f40 k_f40 rfl (
 aa e_f41 k_f41 rfl (
 aa e_f42 k_f42 rfl (
 aa e_f43 k_f43 rfl (
 aa e_f44 k_f44 rfl (
 aa e_f45 k_f45 rfl (
 aa e_f46 k_f46 rfl (
 aa e_f48 k_f48 rfl (
 aa e_f49 k_f49 rfl (
 aa e_f50 k_f50 rfl (
 aa e_f51 k_f51 rfl (
 aa e_f52 k_f52 rfl (
 aa e_f53 k_f53 rfl (
 aa e_f54 k_f54 rfl (
 aa e_f55 k_f55 rfl (
 aa e_f56 k_f56 rfl (
 aa e_f58 k_f58 rfl (
 aa e_f59 k_f59 rfl (
 aa e_f60 k_f60 rfl (
 aa e_f61 k_f61 rfl (
 aa e_f62 k_f62 rfl (
 aa e_f63 k_f63 rfl (
 aa e_f64 k_f64 rfl (
 aa e_f65 k_f65 rfl (
 aa e_f66 k_f66 rfl (
 aa e_f67 k_f67 rfl (
 aa e_f68 k_f68 rfl (
 aa e_f69 k_f69 rfl (
 aa e_f70 k_f70 rfl (
 aa e_f71 k_f71 rfl (
 aa e_f72 k_f72 rfl (
 aa e_f73 k_f73 rfl (
 aa e_f74 k_f74 rfl (
 aa e_f75 k_f75 rfl (
 aa e_f76 k_f76 rfl (
 aa e_f77 k_f77 rfl (
 aa e_f78 k_f78 rfl (
 aa e_f79 k_f79 rfl (
 tabOk_nil))))))))))))))))))))))))))))))))))))))))))))))))))))))))))))))))
theorem hmix:Go.Proofs.Try.prog.follows .mixedOrders = true:=by kernel_rfl
end
end Go.Fx.YtoiokbmgdcaaoaaFx

/- The functions that the statement reaches, resolved: printed by a program of ours from the translated code; each is checked here. -/
import Derived.Test.YtgnockaonokmaaaFxS
set_option maxRecDepth 100000
set_option maxHeartbeats 0
namespace Go.Fx.YtgnockaonokmaaaFx
open Go Go.Fx
section
variable (P:Program) (m:Bool) (sf:Sf) (st:St) (Q:Exit→Sf→St→Prop)
def n_f46:Nat:=46
def x_f46:=xX 49 [0,1,4,5,6,7,8,9,10,12,13,14,15,16,17,19,20,21,22,24,26,28,30,31,32,33,34,35,36,37,38,39,40,41,42,44,45,46,47,48] [] [(2,[0,3],[3]),(6,[0,3,5,6],[3]),(14,[3,5,6,7,8],[3]),(60,[5,6,7,8,24],[]),(62464,[5,6,7,8,24,25],[]),(124930,[5,6],[]),(124932,[5,6,7,8,24,27],[]),(249866,[5,6,7,8],[]),(249868,[5,6,24,29],[]),(999478,[5,6,24,29],[]),(3997918,[5,6,24,29],[]),(7995839,[5,6,29],[]),(249870,[5,6],[]),(15617,[],[]),(15620,[4],[]),(7811,[],[]),(1954,[5,6,43],[]),(7820,[4],[]),(980,[4],[]),(491,[],[]),(62,[4],[])]
abbrev f46_11:AC:=.seq (.block 3 (.seq (.block 2 (.seq (.block 1 (.seq (.seq (.seq (.ops [5,6,7,8,24,25] [] [vb 26 .eql 24 2,vo 25 26]) (.cond (.r 25) (.exit [5,6] [] 1) .skip)) (.seq (.seq (.ops [5,6,7,8,24,27] [] [vb 28 .eql 24 11,vo 27 28]) (.cond (.r 27) (.exit [5,6,7,8] [] 2) .skip)) (.seq (.seq (.ops [5,6,24,29] [] [vb 30 .eql 24 5,vo 29 30]) (.cond (.r 29) .skip (.seq (.ops [5,6,24,29] [] [vb 31 .eql 24 6,vo 29 31]) (.cond (.r 29) .skip (.seq (.ops [5,6,24,29] [] [vb 32 .eql 24 8,vo 29 32]) (.cond (.r 29) .skip (.ops [5,6,29] [] [vb 33 .eql 24 9,vo 29 33]))))))) (.cond (.r 29) (.exit [5,6] [] 3) .skip)))) (.exit [] [] 0))) (.seq (.seq (.ops [4] [] [vv 34 6,vv 35 34,⟨some (35,true),.mv (some 36) (.r 5)⟩,⟨some (35,true),.bin (some 37) .num .neq (.r 36) (.c (.lit (.int .i64 1)))⟩,⟨none,.pick (some 38) (.r 35) (.r 37) (.c (.lit (.bool false)))⟩,vo 4 38]) .ret) (.exit [] [] 0)))) (.seq (.ops [5,6,43] [] [vv 39 8,vv 40 39,⟨some (40,true),.mv (some 41) (.r 7)⟩,⟨some (40,true),.bin (some 42) .num .eql (.r 41) (.c (.lit (.int .i64 1)))⟩,⟨none,.pick (some 43) (.r 40) (.r 42) (.c (.lit (.bool false)))⟩]) (.cond (.r 43) (.seq (.ops [4] [] [⟨none,.mv (some 4) (.c (.lit (.bool true)))⟩]) .ret) .skip)))) (.seq (.seq (.ops [4] [] [vv 44 6,vv 45 44,⟨some (45,true),.mv (some 46) (.r 5)⟩,⟨some (45,true),.bin (some 47) .num .eql (.r 46) (.c (.lit (.int .i64 1)))⟩,⟨none,.pick (some 48) (.r 45) (.r 47) (.c (.lit (.bool false)))⟩,vo 4 48]) .ret) (.exit [] [] 0))
abbrev f46_1:AC:=.seq (.ops [0,3] [3] [⟨none,.boxL 3 12 (.r 1)⟩,⟨none,.mv (some 4) (.c (.lit (.bool false)))⟩]) (.seq (.ops [0,3,5,6] [3] [vv 10 0,vd 11 3 1,⟨none,.load (some 12) (.r 11) (some 2)⟩,⟨none,.call (some 13) false (.f 60) [(.r 10),(.r 12)]⟩,vv 9 13,ve 14 9 0,ve 15 9 1,vo 5 14,vo 6 15]) (.seq (.ops [3,5,6,7,8] [3] [vv 17 0,vd 18 3 3,⟨none,.load (some 19) (.r 18) (some 2)⟩,⟨none,.call (some 20) false (.f 60) [(.r 17),(.r 19)]⟩,vv 16 20,ve 21 16 0,ve 22 16 1,vo 7 21,vo 8 22]) (.seq (.seq (.ops [5,6,7,8,24] [] [vd 23 3 0,vl 24 23]) (.block 0 f46_11)) (.seq (.ops [4] [] [⟨none,.mv (some 4) (.c (.lit (.bool false)))⟩]) .ret))))
def c_f46:AFun:=⟨49,[.tmp 4],f46_1⟩
theorem k_f46:kX x_f46 46 c_f46:=by delta kX; kernel_rfl
theorem e_f46:eX 46:=by delta eX; kernel_rfl

def n_f47:Nat:=47
def x_f47:=xX 57 [0,1,4,6,8,10,12,14,16,17,18,20,21,22,23,25,26,27,28,30,31,32,33,34,36,37,38,39,40,42,43,44,45,46,48,49,50,52,54,55,56] [] [(2,[0,3],[3]),(12,[0,3,6],[3]),(212992,[0,3,6,7],[3]),(425986,[0,3],[3]),(425988,[0,3,6,9],[3]),(851978,[0,3],[3]),(851980,[0,3,6,11],[3]),(1703962,[0,3],[3]),(1703964,[0,3,6,13],[3]),(3407930,[0,3],[3]),(3407932,[0,3,6,15],[3]),(6815867,[0,3,15],[3]),(3407934,[0,3],[3]),(53249,[],[]),(53252,[4],[]),(26627,[],[]),(13316,[4],[]),(6659,[],[]),(3332,[4],[]),(1667,[],[]),(418,[0,3,51],[3]),(1676,[4],[]),(212,[4],[]),(107,[],[]),(14,[4],[])]
abbrev f47_11:AC:=.seq (.block 3 (.seq (.block 2 (.seq (.block 1 (.seq (.seq (.seq (.ops [0,3,6,7] [3] [vb 8 .eql 6 2,vo 7 8]) (.cond (.r 7) (.exit [0,3] [3] 1) .skip)) (.seq (.seq (.ops [0,3,6,9] [3] [vb 10 .eql 6 9,vo 9 10]) (.cond (.r 9) (.exit [0,3] [3] 2) .skip)) (.seq (.seq (.ops [0,3,6,11] [3] [vb 12 .eql 6 6,vo 11 12]) (.cond (.r 11) (.exit [0,3] [3] 3) .skip)) (.seq (.seq (.ops [0,3,6,13] [3] [vb 14 .eql 6 11,vo 13 14]) (.cond (.r 13) (.exit [0,3] [3] 4) .skip)) (.seq (.seq (.ops [0,3,6,15] [3] [vb 16 .eql 6 5,vo 15 16]) (.cond (.r 15) .skip (.ops [0,3,15] [3] [vb 17 .eql 6 8,vo 15 17]))) (.cond (.r 15) (.exit [0,3] [3] 5) .skip)))))) (.exit [] [] 0))) (.seq (.seq (.ops [4] [] [vv 18 0,vd 19 3 1,⟨none,.load (some 20) (.r 19) (some 2)⟩,⟨none,.bsl (some 21) 1 1 (.lit (.int .i64 0)) [(0,(.c (.lit (.int .i64 7))))]⟩,⟨none,.call (some 22) false (.f 61) [(.r 18),(.r 20),(.r 21)]⟩,vo 4 22]) .ret) (.exit [] [] 0)))) (.seq (.seq (.ops [4] [] [vv 23 0,vd 24 3 1,⟨none,.load (some 25) (.r 24) (some 2)⟩,⟨none,.bsl (some 26) 1 2 (.lit (.int .i64 0)) [(0,(.c (.lit (.int .i64 7)))),(1,(.c (.lit (.int .i64 9))))]⟩,⟨none,.call (some 27) false (.f 61) [(.r 23),(.r 25),(.r 26)]⟩,vo 4 27]) .ret) (.exit [] [] 0)))) (.seq (.seq (.ops [4] [] [vv 28 0,vd 29 3 1,⟨none,.load (some 30) (.r 29) (some 2)⟩,⟨none,.bsl (some 31) 1 2 (.lit (.int .i64 0)) [(0,(.c (.lit (.int .i64 7)))),(1,(.c (.lit (.int .i64 9))))]⟩,⟨none,.call (some 32) false (.f 61) [(.r 28),(.r 30),(.r 31)]⟩,vv 33 32,⟨some (33,false),.mv (some 34) (.r 0)⟩,⟨some (33,false),.addr (some 35) (.r 3) 1⟩,⟨some (33,false),.load (some 36) (.r 35) (some 2)⟩,⟨some (33,false),.bsl (some 37) 1 2 (.lit (.int .i64 0)) [(0,(.c (.lit (.int .i64 7)))),(1,(.c (.lit (.int .i64 8))))]⟩,⟨some (33,false),.call (some 38) false (.f 48) [(.r 34),(.r 36),(.r 37)]⟩,⟨none,.pick (some 39) (.r 33) (.c (.lit (.bool true))) (.r 38)⟩,vo 4 39]) .ret) (.exit [] [] 0))
abbrev f47_1:AC:=.seq (.ops [0,3] [3] [⟨none,.boxL 3 12 (.r 1)⟩,⟨none,.mv (some 4) (.c (.lit (.bool false)))⟩]) (.seq (.seq (.ops [0,3,6] [3] [vd 5 3 0,vl 6 5]) (.block 0 (.seq (.block 5 (.seq (.block 4 f47_11) (.seq (.ops [0,3,51] [3] [vv 40 0,vd 41 3 3,⟨none,.load (some 42) (.r 41) (some 2)⟩,⟨none,.bsl (some 43) 1 2 (.lit (.int .i64 0)) [(0,(.c (.lit (.int .i64 7)))),(1,(.c (.lit (.int .i64 9))))]⟩,⟨none,.call (some 44) false (.f 61) [(.r 40),(.r 42),(.r 43)]⟩,vv 45 44,⟨some (45,false),.mv (some 46) (.r 0)⟩,⟨some (45,false),.addr (some 47) (.r 3) 3⟩,⟨some (45,false),.load (some 48) (.r 47) (some 2)⟩,⟨some (45,false),.bsl (some 49) 1 2 (.lit (.int .i64 0)) [(0,(.c (.lit (.int .i64 7)))),(1,(.c (.lit (.int .i64 8))))]⟩,⟨some (45,false),.call (some 50) false (.f 48) [(.r 46),(.r 48),(.r 49)]⟩,⟨none,.pick (some 51) (.r 45) (.c (.lit (.bool true))) (.r 50)⟩]) (.cond (.r 51) (.seq (.ops [4] [] [⟨none,.mv (some 4) (.c (.lit (.bool true)))⟩]) .ret) .skip)))) (.seq (.seq (.ops [4] [] [vv 52 0,vd 53 3 1,⟨none,.load (some 54) (.r 53) (some 2)⟩,⟨none,.bsl (some 55) 1 2 (.lit (.int .i64 0)) [(0,(.c (.lit (.int .i64 7)))),(1,(.c (.lit (.int .i64 8))))]⟩,⟨none,.call (some 56) false (.f 61) [(.r 52),(.r 54),(.r 55)]⟩,vo 4 56]) .ret) (.exit [] [] 0))))) (.seq (.ops [4] [] [⟨none,.mv (some 4) (.c (.lit (.bool false)))⟩]) .ret))
def c_f47:AFun:=⟨57,[.tmp 4],f47_1⟩
theorem k_f47:kX x_f47 47 c_f47:=by delta kX; kernel_rfl
theorem e_f47:eX 47:=by delta eX; kernel_rfl

def n_f48:Nat:=48
def x_f48:=xX 46 [0,1,2,3,4,5,6,7,10,11,15,16,17,18,19,22,23,25,26,27,28,29,30,31,32,34,35,36,37,38,39,40,41,45] [] [(2,[3,4,5,6,22],[]),(6,[3,4,5,6,7,22],[]),(28,[3,4,5,6,20,22],[]),(58,[3,6],[]),(1000000065,[3,4,5,6,22],[]),(116,[3,4,5,6,10],[]),(468,[3,5,6,10,23],[]),(1876,[3,5,6,10,23,24],[]),(7508,[],[]),(7510,[3,5,6,10,33],[]),(30044,[],[]),(30,[6],[])]
abbrev f48_10:AC:=.ops [3,4,5,6,10] [] [⟨none,.newB 10 [(.lit (.int .i64 0)),(.lit (.int .i64 0)),(.lit (.int .i64 0)),(.lit (.int .i64 0)),(.lit (.int .i64 0))]⟩,⟨none,.store 5 (.r 10) (.r 22)⟩]
abbrev f48_11:AC:=.block 1 (.seq (.ops [3,5,6,10,23] [] [⟨none,.load (some 23) (.r 4) (some 2)⟩]) (.block 2 (.seq (.ops [3,5,6,10,23,24] [] [vd 25 10 0,⟨none,.load (some 26) (.r 25) (some 2)⟩,⟨none,.bin (some 27) (.agg (.field 0 1 .int (.field 1 1 .int .tt))) .eql (.r 23) (.r 26)⟩,vo 24 27]) (.cond (.r 24) (.seq (.ops [] [] [vl 28 3,vd 29 10 2,⟨none,.load (some 30) (.r 29) (some 2)⟩,vl 31 5,⟨none,.call (some 32) false (.f 61) [(.r 28),(.r 30),(.r 31)]⟩,⟨none,.store 1 (.r 6) (.r 32)⟩]) .ret) (.seq (.ops [3,5,6,10,33] [] [vd 34 10 2,⟨none,.load (some 35) (.r 34) (some 2)⟩,⟨none,.bin (some 36) (.agg (.field 0 1 .int (.field 1 1 .int .tt))) .eql (.r 23) (.r 35)⟩,vo 33 36]) (.cond (.r 33) (.seq (.ops [] [] [vl 37 3,vd 38 10 0,⟨none,.load (some 39) (.r 38) (some 2)⟩,vl 40 5,⟨none,.call (some 41) false (.f 61) [(.r 37),(.r 39),(.r 40)]⟩,⟨none,.store 1 (.r 6) (.r 41)⟩]) .ret) .skip))))))
def f48_9:AC:=.rangeF [3,6] [] (.r 20) [21,22] [3,4,5,6,22] f48_10 f48_11
theorem f48_9w:aC P id m f48_9 sf st Q = (m = false∧lK P (aC P id m f48_10) (aC P id m f48_11) [21,22] [3,4,5,6,22] [3,6] [] (sf.ev id (.r 20)) sf st Q):=rfl
abbrev f48_1:AC:=.seq (.ops [3,4,5,6,22] [] [⟨none,.boxB 3 1 (.r 0)⟩,⟨none,.boxB 4 2 (.r 1)⟩,⟨none,.boxB 5 1 (.r 2)⟩,⟨none,.newB 6 [(.lit (.bool false))]⟩]) (.seq (.ops [3,4,5,6,7,22] [] [vl 12 3,vn 13 12,vd 14 13 0,vl 15 14,⟨none,.call (some 16) false (.f 62) [(.r 15)]⟩,vv 11 16,ve 17 11 0,ve 18 11 1,vo 7 17,vo 8 18]) (.seq (.seq (.ops [3,4,5,6,20,22] [] [vv 19 7,⟨none,.call (some 20) false (.f 63) [(.r 19)]⟩]) (.block 0 f48_9)) (.seq (.ops [6] [] [vl 42 3,vn 43 42,vd 44 43 8,vl 45 44,⟨none,.store 1 (.r 6) (.r 45)⟩]) .ret)))
def c_f48:AFun:=⟨46,[.cell 6 none],f48_1⟩
theorem k_f48:kX x_f48 48 c_f48:=by delta kX; kernel_rfl
theorem e_f48:eX 48:=by delta eX; kernel_rfl

def n_f49:Nat:=49
def x_f49:=xX 8 [0,1,4,5,6,7] [] [(2,[0,1],[]),(6,[4],[])]
abbrev f49_1:AC:=.seq (.ops [0,1] [] [⟨none,.mv (some 4) (.c (.lit (.bool false)))⟩]) (.seq (.ops [4] [] [vv 5 1,vv 6 0,⟨none,.call (some 7) false (.f 64) [(.r 5),(.r 6)]⟩,vo 4 7]) .ret)
def c_f49:AFun:=⟨8,[.tmp 4],f49_1⟩
theorem k_f49:kX x_f49 49 c_f49:=by delta kX; kernel_rfl
theorem e_f49:eX 49:=by delta eX; kernel_rfl

def n_f50:Nat:=50
def x_f50:=xX 46 [1,5,6,7,8,9,11,12,14,17,18,19,21,24,26,29,30,31,32,34,37,38,41,44,45] [] [(2,[0,1,4],[4]),(12,[0,1,4,6],[4]),(26,[0,1,4,6],[4]),(208,[0,1,4,6,10],[4]),(419,[4],[4]),(840,[0,1,4,6,39],[4]),(3364,[4,5],[4]),(211,[0,1,4,6],[4]),(14,[4,5],[4])]
abbrev f50_8:AC:=.seq (.seq (.ops [0,1,4,6,10] [4] [vv 9 6,vb 10 .geq 9 0]) (.cond (.r 10) .skip (.exit [4] [4] 0))) (.seq (.block 1 (.seq (.draw [0,1,4,6,39] [4] [] [vv 13 0,vv 14 6,⟨none,.ixS (some 15) (.r 13) (.r 14) 30⟩,vd 16 15 0,vl 17 16,vb 18 .eql 17 1,vv 19 18,⟨some (19,true),.mv (some 20) (.r 0)⟩,⟨some (19,true),.mv (some 21) (.r 6)⟩,⟨some (19,true),.ixS (some 22) (.r 20) (.r 21) 30⟩,⟨some (19,true),.addr (some 23) (.r 22) 1⟩,⟨some (19,true),.load (some 24) (.r 23) none⟩,⟨some (19,true),.mv (some 25) (.r 0)⟩,⟨some (19,true),.mv (some 26) (.r 1)⟩,⟨some (19,true),.ixS (some 27) (.r 25) (.r 26) 30⟩,⟨some (19,true),.addr (some 28) (.r 27) 1⟩,⟨some (19,true),.load (some 29) (.r 28) none⟩,⟨some (19,true),.bin (some 30) .num .eql (.r 24) (.r 29)⟩,⟨none,.pick (some 31) (.r 19) (.r 30) (.c (.lit (.bool false)))⟩,vv 32 31,⟨some (32,true),.mv (some 33) (.r 0)⟩,⟨some (32,true),.mv (some 34) (.r 6)⟩] [⟨some (32,true),.ixS (some 35) (.r 33) (.r 34) 30⟩,⟨some (32,true),.addr (some 36) (.r 35) 14⟩,⟨some (32,true),.load (some 37) (.r 36) none⟩,⟨some (32,true),.bin (some 38) .num .eql (.r 37) (.c (.lit (.int .i64 0)))⟩,⟨none,.pick (some 39) (.r 32) (.r 38) (.c (.lit (.bool false)))⟩]) (.cond (.r 39) (.seq (.ops [4,5] [4] [vv 40 0,vv 41 6,⟨none,.ixS (some 42) (.r 40) (.r 41) 30⟩,vd 43 42 2,⟨none,.load (some 44) (.r 43) (some 12)⟩,⟨none,.store 12 (.r 4) (.r 44)⟩,⟨none,.mv (some 5) (.c (.lit (.bool true)))⟩]) .ret) .skip))) (.ops [0,1,4,6] [4] [vv 11 6,vb 12 .sub 11 1,vo 6 12]))
def f50_7:AC:=.loop [0,1,4,6] [4] f50_8
theorem f50_7w:aC P id m f50_7 sf st Q = bj (aC P id m f50_8) [0,1,4,6] [4] sf st Q:=rfl
abbrev f50_1:AC:=.seq (.ops [0,1,4] [4] [⟨none,.newL 4 [(.lit (.int .i64 0)),(.lit (.int .i64 0)),(.lit (.int .i64 0)),(.lit (.int .i64 0)),(.lit (.int .i64 0)),(.lit (.string ⟨#[]⟩)),(.lit (.int .i64 0)),(.lit (.slice none 0 0)),(.lit (.int .i64 0)),(.lit (.int .i64 0)),(.lit (.int .i64 0)),(.lit (.int .u64 0))]⟩,⟨none,.mv (some 5) (.c (.lit (.bool false)))⟩]) (.seq (.seq (.ops [0,1,4,6] [4] [vv 7 1,vb 8 .sub 7 1,vo 6 8]) (.block 0 f50_7)) (.seq (.ops [4,5] [4] [⟨none,.bst (some 45) [(0,1),(1,2),(3,2),(5,2),(7,1),(8,1),(9,1),(10,1),(11,1)] (.agg [(.lit (.int .i64 0)),(.lit (.int .i64 0)),(.lit (.int .i64 0)),(.lit (.int .i64 0)),(.lit (.int .i64 0)),(.lit (.string ⟨#[]⟩)),(.lit (.int .i64 0)),(.lit (.slice none 0 0)),(.lit (.int .i64 0)),(.lit (.int .i64 0)),(.lit (.int .i64 0)),(.lit (.int .u64 0))]) []⟩,⟨none,.store 12 (.r 4) (.r 45)⟩,⟨none,.mv (some 5) (.c (.lit (.bool false)))⟩]) .ret))
def c_f50:AFun:=⟨46,[.cell 4 (some 12),.tmp 5],f50_1⟩
theorem k_f50:kX x_f50 50 c_f50:=by delta kX; kernel_rfl
theorem e_f50:eX 50:=by delta eX; kernel_rfl

def n_f56:Nat:=56
def x_f56:=xX 150 [0,1,2,4,6,8,10,12,14,15,17,19,21,23,24,29,30,31,32,38,39,42,44,46,51,52,55,57,59,62,64,66,68,70,75,77,79,80,82,83,84,86,87,88,89,90,99,100,101,107,108,109,111,116,121,124,125,130,133,135,136,137,140,144,146,148,149] [31,32,115] [(3000000019,[25,26,72,112,116,117,121,125,126,130,141],[]),(2,[0,4,5],[5]),(6,[0,4,5,10],[5]),(458752,[0,4,5,10,11],[5]),(917506,[0,4,5],[5]),(1835016,[0,4,5,10,13],[5]),(3670035,[0,4,5,10,13],[5]),(1835018,[0,4,5],[5]),(1835020,[0,4,5,10,16],[5]),(3670042,[0,4,5],[5]),(3670044,[0,4,10,18],[]),(7340090,[0,4],[]),(7340092,[0,4,10,20],[]),(14680186,[0,4],[]),(14680188,[0,4,10,22],[]),(29360379,[0,4,22],[]),(14680190,[0,4],[]),(114689,[],[]),(28673,[0,4,5],[5]),(28676,[0,4,5],[5]),(28677,[],[]),(14339,[],[]),(7172,[0,4,5],[5]),(14346,[0,4,5],[5]),(28694,[0,4,5,65],[5]),(57390,[],[]),(3587,[],[]),(898,[],[]),(899,[],[]),(452,[0,4,6],[]),(906,[0,4,91],[]),(1814,[0,4],[]),(454,[0,4],[]),(910,[0,4,108,109],[]),(1822,[0,4,108,109],[]),(7288,[0,4,108,109,110],[]),(29157,[0,4],[]),(116632,[0,4,8,108,109],[]),(116633,[0,4,108,109],[]),(29159,[0,4,108,109],[]),(58,[],[]),(59,[],[])]
abbrev f56_2:AC:=.ops [0,4,5] [5] [⟨none,.boxB 4 12 (.r 1)⟩,⟨none,.boxL 5 12 (.r 2)⟩]
abbrev f56_4:AC:=.ops [0,4,5,10] [5] [vd 9 4 0,vl 10 9]
abbrev f56_50:AC:=.seq (.ops [0,4,5] [5] [vv 35 0,vn 36 35,vd 37 36 4,vl 38 37,vb 39 .add 38 1,vn 40 35,vd 41 40 4,⟨none,.store 1 (.r 41) (.r 39)⟩]) (.ops [] [] [vv 42 0,vd 43 5 5,⟨none,.load (some 44) (.r 43) (some 2)⟩,vd 45 4 0,vl 46 45,⟨none,.call (some 47) false (.f 68) [(.r 42),(.r 44),(.r 46)]⟩])
def f56_49:AC:=.seq f56_50 (.exit [] [] 0)
theorem f56_49e:SQ f56_49 f56_50 (.exit [] [] 0):=rfl
abbrev f56_54:AC:=.seq (.ops [0,4,5] [5] [vv 48 0,vn 49 48,vd 50 49 4,vl 51 50,vb 52 .add 51 2,vn 53 48,vd 54 53 4,⟨none,.store 1 (.r 54) (.r 52)⟩]) (.seq (.ops [0,4,5] [5] [vv 55 0,vd 56 5 5,⟨none,.load (some 57) (.r 56) (some 2)⟩,vd 58 4 0,vl 59 58,⟨none,.call (some 60) false (.f 68) [(.r 55),(.r 57),(.r 59)]⟩]) (.seq (.ops [0,4,5,65] [5] [vd 61 5 7,⟨none,.load (some 62) (.r 61) (some 2)⟩,vd 63 5 5,⟨none,.load (some 64) (.r 63) (some 2)⟩,⟨none,.bin (some 65) (.agg (.field 0 1 .int (.field 1 1 .int .tt))) .neq (.r 62) (.r 64)⟩]) (.cond (.r 65) (.ops [] [] [vv 66 0,vd 67 5 7,⟨none,.load (some 68) (.r 67) (some 2)⟩,vd 69 4 0,vl 70 69,⟨none,.call (some 71) false (.f 68) [(.r 66),(.r 68),(.r 70)]⟩]) .skip)))
def f56_53:AC:=.seq f56_54 (.exit [] [] 0)
theorem f56_53e:SQ f56_53 f56_54 (.exit [] [] 0):=rfl
abbrev f56_63:AC:=.draw [] [] [] [vv 72 0,vn 73 72,vd 74 73 5,vl 75 74,vd 76 4 1,⟨none,.load (some 77) (.r 76) (some 2)⟩,vd 78 4 10,vl 79 78,⟨none,.bst (some 80) [(0,2),(2,1)] (.agg [(.lit (.int .i64 0)),(.lit (.int .i64 0)),(.lit (.int .i64 0))]) [(0,(.r 77)),(1,(.r 79))]⟩,vd 81 4 11,vl 82 81] [⟨none,.upd (.agg 3) (.r 75) (.r 80) (.r 82)⟩]
def f56_62:AC:=.seq f56_63 (.exit [] [] 0)
theorem f56_62e:SQ f56_62 f56_63 (.exit [] [] 0):=rfl
abbrev f56_9:AC:=.block 5 (.seq (.block 4 (.seq (.block 3 (.seq (.block 2 (.seq (.block 1 (.seq (.seq (.seq (.ops [0,4,5,10,11] [5] [vb 12 .eql 10 1,vo 11 12]) (.cond (.r 11) (.exit [0,4,5] [5] 1) .skip)) (.seq (.seq (.seq (.ops [0,4,5,10,13] [5] [vb 14 .eql 10 2,vo 13 14]) (.cond (.r 13) .skip (.ops [0,4,5,10,13] [5] [vb 15 .eql 10 3,vo 13 15]))) (.cond (.r 13) (.exit [0,4,5] [5] 2) .skip)) (.seq (.seq (.ops [0,4,5,10,16] [5] [vb 17 .eql 10 4,vo 16 17]) (.cond (.r 16) (.exit [0,4,5] [5] 3) .skip)) (.seq (.seq (.ops [0,4,10,18] [] [vb 19 .eql 10 10,vo 18 19]) (.cond (.r 18) (.exit [0,4] [] 4) .skip)) (.seq (.seq (.ops [0,4,10,20] [] [vb 21 .eql 10 7,vo 20 21]) (.cond (.r 20) (.exit [0,4] [] 5) .skip)) (.seq (.seq (.ops [0,4,10,22] [] [vb 23 .eql 10 8,vo 22 23]) (.cond (.r 22) .skip (.ops [0,4,22] [] [vb 24 .eql 10 9,vo 22 24]))) (.cond (.r 22) (.exit [0,4] [] 6) .skip))))))) (.exit [] [] 0))) (.draw [0,4,5] [5] [] [vv 25 0,vv 26 0,vn 27 26,vd 28 27 7,vl 29 28,⟨none,.load (some 30) (.r 5) (some 12)⟩,⟨none,.bsl (some 31) 12 1 (.agg [(.lit (.int .i64 0)),(.lit (.int .i64 0)),(.lit (.int .i64 0)),(.lit (.int .i64 0)),(.lit (.slice none 0 0)),(.lit (.int .i64 0)),(.lit (.int .i64 0)),(.lit (.int .i64 0)),(.lit (.int .i64 0)),(.lit (.string ⟨#[]⟩)),(.lit (.int .i64 0)),(.lit (.int .u64 0))]) [(0,(.r 30))]⟩] [⟨none,.x (some 32) (.appB (.r 29) 12 120 (.r 31))⟩,vn 33 25,vd 34 33 7,⟨none,.store 1 (.r 34) (.r 32)⟩]))) f56_49)) f56_53)) f56_62)
abbrev f56_65:AC:=.seq (.ops [0,4,6] [] [vv 84 0,vd 85 4 1,⟨none,.load (some 86) (.r 85) (some 2)⟩,⟨none,.call (some 87) false (.f 60) [(.r 84),(.r 86)]⟩,vv 83 87,ve 88 83 0,ve 89 83 1,vo 6 88,vo 7 89]) (.seq (.ops [0,4,91] [] [vv 90 6,vb 91 .eql 90 1]) (.cond (.r 91) (.ops [0,4] [] [vv 92 0,vn 93 92,vd 94 93 8,⟨none,.store 1 (.r 94) (.c (.lit (.bool true)))⟩]) .skip))
abbrev f56_72:AC:=.ops [0,4] [] [vv 95 0,vv 96 0,vn 97 96,vd 98 97 7,vl 99 98,⟨none,.mkfn (some 100) 70 [] [(.r 4)]⟩,⟨none,.call (some 101) false (.f 69) [(.r 99),(.r 100)]⟩,vn 102 95,vd 103 102 7,⟨none,.store 1 (.r 103) (.r 101)⟩]
abbrev f56_77:AC:=.seq (.ops [0,4,108,109,110] [] [⟨none,.bin (some 110) .num .lss (.r 109) (.r 108)⟩]) (.seq (.cond (.r 110) .skip (.exit [0,4] [] 7)) (.seq (.block 8 (.seq (.ops [0,4,8,108,109] [] [vv 111 109,vo 8 111]) (.draw [0,4,108,109] [] [] [vv 112 0,vn 113 112,vd 114 113 3,vl 115 114,vv 116 8,vv 117 0,vn 118 117,vd 119 118 3,vl 120 119,vv 121 8,⟨none,.ixS (some 122) (.r 120) (.r 121) 4⟩,vd 123 122 3,vl 124 123,vv 125 124,⟨some (125,true),.mv (some 126) (.r 0)⟩,⟨some (125,true),.nilck (some 127) (.r 126)⟩,⟨some (125,true),.addr (some 128) (.r 127) 3⟩,⟨some (125,true),.load (some 129) (.r 128) none⟩,⟨some (125,true),.mv (some 130) (.r 8)⟩,⟨some (125,true),.ixS (some 131) (.r 129) (.r 130) 4⟩,⟨some (125,true),.addr (some 132) (.r 131) 0⟩,⟨some (125,true),.load (some 133) (.r 132) (some 2)⟩,⟨some (125,true),.addr (some 134) (.r 4) 1⟩,⟨some (125,true),.load (some 135) (.r 134) (some 2)⟩,⟨some (125,true),.bin (some 136) (.agg (.field 0 1 .int (.field 1 1 .int .tt))) .neq (.r 133) (.r 135)⟩,⟨none,.pick (some 137) (.r 125) (.r 136) (.c (.lit (.bool false)))⟩] [⟨none,.ixS (some 138) (.r 115) (.r 116) 4⟩,vd 139 138 3,⟨none,.store 1 (.r 139) (.r 137)⟩]))) (.ops [0,4,108,109] [] [vb 140 .add 109 1,vv 109 140])))
def f56_76:AC:=.loop [0,4,108,109] [] f56_77
theorem f56_76w:aC P id m f56_76 sf st Q = bj (aC P id m f56_77) [0,4,108,109] [] sf st Q:=rfl
abbrev f56_73:AC:=.seq (.ops [0,4,108,109] [] [vv 104 0,vn 105 104,vd 106 105 3,vl 107 106,⟨none,.len (some 108) .sl (.r 107)⟩,⟨none,.mv (some 109) (.c (.lit (.int .i64 0)))⟩]) (.block 7 f56_76)
def f56_71:AC:=.seq f56_72 f56_73
theorem f56_71e:SQ f56_71 f56_72 f56_73:=rfl
def f56_64:AC:=.seq f56_65 f56_71
theorem f56_64e:SQ f56_64 f56_65 f56_71:=rfl
abbrev f56_88:AC:=.draw [] [] [] [vv 141 0,vn 142 141,vd 143 142 6,vl 144 143,vd 145 4 1,⟨none,.load (some 146) (.r 145) (some 2)⟩,vd 147 4 0,vl 148 147,⟨none,.bst (some 149) [(0,2),(2,1)] (.agg [(.lit (.int .i64 0)),(.lit (.int .i64 0)),(.lit (.int .i64 0))]) [(0,(.r 146)),(1,(.r 148))]⟩] [⟨none,.upd (.agg 3) (.r 144) (.r 149) (.c (.lit (.bool true)))⟩]
def f56_87:AC:=.seq f56_88 (.exit [] [] 0)
theorem f56_87e:SQ f56_87 f56_88 (.exit [] [] 0):=rfl
abbrev f56_5:AC:=.block 0 (.seq (.block 6 (.seq f56_9 f56_64)) f56_87)
def f56_3:AC:=.seq f56_4 f56_5
theorem f56_3e:SQ f56_3 f56_4 f56_5:=rfl
def f70:AC:=.seq f56_2 f56_3
theorem f56_1e:SQ f70 f56_2 f56_3:=rfl
def c_f56:AFun:=⟨150,[],f70⟩
theorem k_f56:kX x_f56 56 c_f56:=by delta kX; kernel_rfl
theorem e_f56:eX 56:=by delta eX; kernel_rfl

def n_f57:Nat:=57
def x_f57:=xX 19 [0,1,4,5,6,7,8,10,11,13,15,17,18] [] [(2,[0,1],[]),(12,[0,1,7,8],[]),(26,[0,1,7,8],[]),(104,[0,1,7,8,9],[]),(421,[],[]),(1688,[0,1,5,7,8],[]),(3378,[0,1,5,7,8,16],[]),(13516,[4],[]),(423,[0,1,7,8],[]),(14,[4],[])]
abbrev f57_8:AC:=.seq (.ops [0,1,7,8,9] [] [⟨none,.bin (some 9) .num .lss (.r 8) (.r 7)⟩]) (.seq (.cond (.r 9) .skip (.exit [] [] 0)) (.seq (.block 1 (.seq (.ops [0,1,5,7,8] [] [vv 10 8,vo 5 10]) (.seq (.ops [0,1,5,7,8,16] [] [vv 11 1,vv 12 0,vv 13 5,⟨none,.ixS (some 14) (.r 12) (.r 13) 12⟩,⟨none,.load (some 15) (.r 14) (some 12)⟩,⟨none,.call (some 16) false (.r 11) [(.r 15)]⟩]) (.cond (.r 16) (.seq (.ops [4] [] [vv 17 5,vo 4 17]) .ret) .skip)))) (.ops [0,1,7,8] [] [vb 18 .add 8 1,vv 8 18])))
def f57_7:AC:=.loop [0,1,7,8] [] f57_8
theorem f57_7w:aC P id m f57_7 sf st Q = bj (aC P id m f57_8) [0,1,7,8] [] sf st Q:=rfl
abbrev f57_1:AC:=.seq (.ops [0,1] [] [⟨none,.mv (some 4) (.c (.lit (.int .i64 0)))⟩]) (.seq (.seq (.ops [0,1,7,8] [] [vv 6 0,⟨none,.len (some 7) .sl (.r 6)⟩,⟨none,.mv (some 8) (.c (.lit (.int .i64 0)))⟩]) (.block 0 f57_7)) (.seq (.ops [4] [] [⟨none,.mv (some 4) (.c (.lit (.int .i64 (-1))))⟩]) .ret))
def c_f57:AFun:=⟨19,[.tmp 4],f57_1⟩
theorem k_f57:kX x_f57 57 c_f57:=by delta kX; kernel_rfl
theorem e_f57:eX 57:=by delta eX; kernel_rfl

def n_f58:Nat:=58
def x_f58:=xX 13 [0,1,6,7,8,9,10,11,12] [] [(2,[1,2,3,4],[4]),(6,[6],[])]
abbrev f58_1:AC:=.seq (.ops [1,2,3,4] [4] [⟨none,.boxL 4 2 (.r 0)⟩,⟨none,.mv (some 6) (.c (.lit (.bool false)))⟩]) (.seq (.draw [6] [] [] [vl 7 2,⟨none,.load (some 8) (.r 4) (some 2)⟩,vv 9 1,⟨none,.call (some 10) true (.f 24) [(.r 7),(.r 8),(.r 9)]⟩,vl 11 3] [⟨none,.call (some 12) false (.f 59) [(.r 10),(.r 11)]⟩,vo 6 12]) .ret)
def c_f58:AFun:=⟨13,[.tmp 6],f58_1⟩
theorem k_f58:kX x_f58 58 c_f58:=by delta kX; kernel_rfl
theorem e_f58:eX 58:=by delta eX; kernel_rfl

def n_f59:Nat:=59
def x_f59:=xX 12 [0,1,4,5,6,7,8,9,10,11] [] [(2,[0,1],[]),(6,[4],[])]
abbrev f59_1:AC:=.seq (.ops [0,1] [] [⟨none,.mv (some 4) (.c (.lit (.bool false)))⟩]) (.seq (.ops [4] [] [vv 5 1,⟨none,.bin (some 6) .num .neq (.r 5) (.c (.lit (.int .u64 18446744073709551615)))⟩,vv 7 6,⟨some (7,true),.mv (some 8) (.r 0)⟩,⟨some (7,true),.mv (some 9) (.r 1)⟩,⟨some (7,true),.bin (some 10) .num .leq (.r 8) (.r 9)⟩,⟨none,.pick (some 11) (.r 7) (.r 10) (.c (.lit (.bool false)))⟩,vo 4 11]) .ret)
def c_f59:AFun:=⟨12,[.tmp 4],f59_1⟩
theorem k_f59:kX x_f59 59 c_f59:=by delta kX; kernel_rfl
theorem e_f59:eX 59:=by delta eX; kernel_rfl

def n_f60:Nat:=60
def x_f60:=xX 26 [1,4,5,11,12,13,16,18,19,22,24,25] [] [(2,[0,3],[3]),(12,[3,11,12,13],[3]),(26,[3,11,12,13],[3]),(104,[3,11,12,13,14],[3]),(421,[],[]),(1688,[3,7,11,12,13],[3,7]),(3378,[3,7,11,12,13,20],[3,7]),(13516,[4,5],[]),(423,[3,11,12,13],[3]),(14,[4,5],[])]
abbrev f60_8:AC:=.seq (.ops [3,11,12,13,14] [3] [⟨none,.bin (some 14) .num .lss (.r 13) (.r 12)⟩]) (.seq (.cond (.r 14) .skip (.exit [] [] 0)) (.seq (.block 1 (.seq (.ops [3,7,11,12,13] [3,7] [⟨none,.ixS (some 15) (.r 11) (.r 13) 4⟩,⟨none,.load (some 16) (.r 15) (some 4)⟩,⟨none,.newL 7 [(.lit (.int .i64 0)),(.lit (.int .i64 0)),(.lit (.int .i64 0)),(.lit (.bool false))]⟩,⟨none,.store 4 (.r 7) (.r 16)⟩]) (.seq (.ops [3,7,11,12,13,20] [3,7] [vd 17 7 0,⟨none,.load (some 18) (.r 17) (some 2)⟩,⟨none,.load (some 19) (.r 3) (some 2)⟩,⟨none,.bin (some 20) (.agg (.field 0 1 .int (.field 1 1 .int .tt))) .eql (.r 18) (.r 19)⟩]) (.cond (.r 20) (.seq (.draw [4,5] [] [] [vd 21 7 2,vl 22 21,vd 23 7 3,vl 24 23,vv 4 22] [vo 5 24]) .ret) .skip)))) (.ops [3,11,12,13] [3] [vb 25 .add 13 1,vv 13 25])))
def f60_7:AC:=.loop [3,11,12,13] [3] f60_8
theorem f60_7w:aC P id m f60_7 sf st Q = bj (aC P id m f60_8) [3,11,12,13] [3] sf st Q:=rfl
abbrev f60_1:AC:=.seq (.ops [0,3] [3] [⟨none,.boxL 3 2 (.r 1)⟩,⟨none,.mv (some 4) (.c (.lit (.int .i64 0)))⟩,⟨none,.mv (some 5) (.c (.lit (.bool false)))⟩]) (.seq (.seq (.ops [3,11,12,13] [3] [vv 8 0,vn 9 8,vd 10 9 3,vl 11 10,⟨none,.len (some 12) .sl (.r 11)⟩,⟨none,.mv (some 13) (.c (.lit (.int .i64 0)))⟩]) (.block 0 f60_7)) (.seq (.ops [4,5] [] [⟨none,.mv (some 4) (.c (.lit (.int .i64 0)))⟩,⟨none,.mv (some 5) (.c (.lit (.bool false)))⟩]) .ret))
def c_f60:AFun:=⟨26,[.tmp 4,.tmp 5],f60_1⟩
theorem k_f60:kX x_f60 60 c_f60:=by delta kX; kernel_rfl
theorem e_f60:eX 60:=by delta eX; kernel_rfl

def n_f61:Nat:=61
def x_f61:=xX 10 [0,1,2,3,4,6,7,8,9] [] [(2,[2,3,4],[]),(6,[6],[])]
abbrev f61_2:AC:=.ops [2,3,4] [] [⟨none,.boxB 3 1 (.r 0)⟩,⟨none,.boxB 4 2 (.r 1)⟩,⟨none,.mv (some 6) (.c (.lit (.bool false)))⟩]
abbrev f61_3:AC:=.seq (.ops [6] [] [vv 7 2,⟨none,.mkfn (some 8) 72 [] [(.r 3),(.r 4)]⟩,⟨none,.call (some 9) false (.f 71) [(.r 7),(.r 8)]⟩,vo 6 9]) .ret
def f72:AC:=.seq f61_2 f61_3
theorem f61_1e:SQ f72 f61_2 f61_3:=rfl
def c_f61:AFun:=⟨10,[.tmp 6],f72⟩
theorem k_f61:kX x_f61 61 c_f61:=by delta kX; kernel_rfl
theorem e_f61:eX 61:=by delta eX; kernel_rfl

def n_f62:Nat:=62
def x_f62:=xX 10 [0,2,3,4,5,7,8,9] [] [(2,[0],[]),(12,[0,6],[]),(52,[2,3],[]),(14,[2,3],[])]
abbrev f62_1:AC:=.seq (.ops [0] [] [⟨none,.mv (some 2) (.c (.lit (.slice none 0 0)))⟩,⟨none,.mv (some 3) (.c (.lit (.int .i64 0)))⟩]) (.seq (.seq (.ops [0,6] [] [vv 4 0,⟨none,.len (some 5) .sl (.r 4)⟩,vb 6 .gtr 5 5000]) (.cond (.r 6) (.seq (.ops [2,3] [] [⟨none,.mv (some 2) (.c (.lit (.slice none 0 0)))⟩,⟨none,.mv (some 3) (.c (.lit (.int .i64 7)))⟩]) .ret) .skip)) (.seq (.ops [2,3] [] [vv 7 0,⟨none,.call (some 8) false (.f 74) [(.r 7)]⟩,⟨none,.call (some 9) false (.f 73) [(.r 8)]⟩,vo 2 9,⟨none,.mv (some 3) (.c (.lit (.int .i64 0)))⟩]) .ret))
def c_f62:AFun:=⟨10,[.tmp 2,.tmp 3],f62_1⟩
theorem k_f62:kX x_f62 62 c_f62:=by delta kX; kernel_rfl
theorem e_f62:eX 62:=by delta eX; kernel_rfl

def n_f63:Nat:=63
def x_f63:=xX 4 [0,1,2,3] [] [(2,[1],[]),(6,[2],[])]
abbrev f63_2:AC:=.ops [1] [] [⟨none,.boxB 1 1 (.r 0)⟩,⟨none,.mv (some 2) (.c (.lit .nilFunc))⟩]
abbrev f63_3:AC:=.seq (.ops [2] [] [⟨none,.mkfn (some 3) 75 [] [(.r 1)]⟩,vo 2 3]) .ret
def f75:AC:=.seq f63_2 f63_3
theorem f63_1e:SQ f75 f63_2 f63_3:=rfl
def c_f63:AFun:=⟨4,[.tmp 2],f75⟩
theorem k_f63:kX x_f63 63 c_f63:=by delta kX; kernel_rfl
theorem e_f63:eX 63:=by delta eX; kernel_rfl

def n_f64:Nat:=64
def x_f64:=xX 9 [0,1,4,5,6,7,8] [] [(2,[0,1],[]),(6,[4],[])]
abbrev f64_1:AC:=.seq (.ops [0,1] [] [⟨none,.mv (some 4) (.c (.lit (.bool false)))⟩]) (.seq (.ops [4] [] [vv 5 0,vv 6 1,⟨none,.call (some 7) false (.f 76) [(.r 5),(.r 6)]⟩,vb 8 .geq 7 0,vo 4 8]) .ret)
def c_f64:AFun:=⟨9,[.tmp 4],f64_1⟩
theorem k_f64:kX x_f64 64 c_f64:=by delta kX; kernel_rfl
theorem e_f64:eX 64:=by delta eX; kernel_rfl

def n_f68:Nat:=68
def x_f68:=xX 20 [1,2,4,10,11,12,13,14,15,16,17] [12,16,17] [(3000000019,[6,7,14],[]),(2,[0,2,4],[]),(3,[],[])]
abbrev f68_2:AC:=.ops [0,2,4] [] [⟨none,.boxB 4 2 (.r 1)⟩]
def f68_3h:List GI:=[vv 6 0,
  vv 7 0,
  vn 8 7,
  vd 9 8 3,
  vl 10 9,
  ⟨none,.mkfn (some 11) 79 [] [(.r 4)]⟩]
def f68_3p:List (Bool×GI):=[(false,⟨none,.load (some 13) (.r 4) (some 2)⟩),
  (false,vv 14 2),
  (false,⟨none,.bst (some 15) [(0,2),(2,1),(3,1)] (.agg [(.lit (.int .i64 0)),(.lit (.int .i64 0)),(.lit (.int .i64 0)),(.lit (.bool false))]) [(0,(.r 13)),(1,(.r 14)),(2,(.c (.lit (.bool true))))]⟩),
  (false,⟨none,.bsl (some 16) 4 1 (.agg [(.lit (.int .i64 0)),(.lit (.int .i64 0)),(.lit (.int .i64 0)),(.lit (.bool false))]) [(0,(.r 15))]⟩)]
def f68_3l:List GI:=[⟨none,.x (some 17) (.appB (.r 12) 4 32 (.r 16))⟩,
  vn 18 6,
  vd 19 18 3,
  ⟨none,.store 1 (.r 19) (.r 17)⟩]
def f68_3:AC:=.drawM [] [] f68_3h (some 12) (.f 78) [(.r 10),(.r 11)] f68_3p f68_3l
theorem f68_3e:aC P id m f68_3 sf st Q = (m = false∧drawM P id f68_3h (some 12) (.f 78) [(.r 10),(.r 11)] f68_3p sf st (gw P id m [] [] f68_3l Q)):=rfl
def f79:AC:=.seq f68_2 f68_3
theorem f68_1e:SQ f79 f68_2 f68_3:=rfl
def c_f68:AFun:=⟨20,[],f79⟩
theorem k_f68:kX x_f68 68 c_f68:=by delta kX; kernel_rfl
theorem e_f68:eX 68:=by delta eX; kernel_rfl

def n_f69:Nat:=69
def x_f69:=xX 42 [0,1,4,5,6,8,9,10,11,13,14,15,16,17,18,20,21,23,25,26,27,28,31,32,34,35,36,37,38,39,40,41] [0,30,36,38] [(2,[0,1],[]),(6,[0,1,5],[]),(28,[0,1,5,12],[]),(116,[4],[]),(60,[0,1,5,6],[]),(122,[0,1,5,6],[]),(976,[0,1,5,6,19],[]),(1955,[0,5],[]),(3912,[0,1,5,6,7],[7]),(7826,[0,1,5,6,7,29],[7]),(31308,[0,1,5,6],[]),(31309,[0,1,5,6],[]),(979,[0,1,5,6],[]),(62,[0,5],[]),(126,[4],[])]
abbrev f69_16:AC:=.seq (.seq (.ops [0,1,5,6,19] [] [vv 16 6,vv 17 0,⟨none,.len (some 18) .sl (.r 17)⟩,⟨none,.bin (some 19) .num .lss (.r 16) (.r 18)⟩]) (.cond (.r 19) .skip (.exit [0,5] [] 0))) (.seq (.block 1 (.seq (.ops [0,1,5,6,7] [7] [vv 22 0,vv 23 6,⟨none,.ixS (some 24) (.r 22) (.r 23) 12⟩,⟨none,.load (some 25) (.r 24) (some 12)⟩,⟨none,.newL 7 [(.lit (.int .i64 0)),(.lit (.int .i64 0)),(.lit (.int .i64 0)),(.lit (.int .i64 0)),(.lit (.slice none 0 0)),(.lit (.int .i64 0)),(.lit (.int .i64 0)),(.lit (.int .i64 0)),(.lit (.int .i64 0)),(.lit (.string ⟨#[]⟩)),(.lit (.int .i64 0)),(.lit (.int .u64 0))]⟩,⟨none,.store 12 (.r 7) (.r 25)⟩]) (.seq (.ops [0,1,5,6,7,29] [7] [vv 26 1,⟨none,.load (some 27) (.r 7) (some 12)⟩,⟨none,.call (some 28) false (.r 26) [(.r 27)]⟩,⟨none,.un (some 29) .not (.r 28)⟩]) (.cond (.r 29) (.seq (.ops [0,1,5,6] [] [vv 30 0,vv 31 5,⟨none,.load (some 32) (.r 7) (some 12)⟩,⟨none,.ixS (some 33) (.r 30) (.r 31) 12⟩,⟨none,.store 12 (.r 33) (.r 32)⟩]) (.ops [0,1,5,6] [] [vv 34 5,vb 35 .add 34 1,vo 5 35])) .skip)))) (.ops [0,1,5,6] [] [vv 20 6,vb 21 .add 20 1,vo 6 21]))
def f69_15:AC:=.loop [0,1,5,6] [] f69_16
theorem f69_15w:aC P id m f69_15 sf st Q = bj (aC P id m f69_16) [0,1,5,6] [] sf st Q:=rfl
abbrev f69_1:AC:=.seq (.ops [0,1] [] [⟨none,.mv (some 4) (.c (.lit (.slice none 0 0)))⟩]) (.seq (.ops [0,1,5] [] [vv 8 0,vv 9 1,⟨none,.call (some 10) false (.f 57) [(.r 8),(.r 9)]⟩,vo 5 10]) (.seq (.seq (.ops [0,1,5,12] [] [vv 11 5,⟨none,.bin (some 12) .num .eql (.r 11) (.c (.lit (.int .i64 (-1))))⟩]) (.cond (.r 12) (.seq (.ops [4] [] [vv 13 0,vo 4 13]) .ret) .skip)) (.seq (.seq (.ops [0,1,5,6] [] [vv 14 5,vb 15 .add 14 1,vo 6 15]) (.block 0 f69_15)) (.seq (.ops [0,5] [] [vv 36 0,vv 37 5,⟨none,.sliOwn 38 36 (.r 37) 12⟩,⟨none,.x none (.clrB 12 (.agg [(.lit (.int .i64 0)),(.lit (.int .i64 0)),(.lit (.int .i64 0)),(.lit (.int .i64 0)),(.lit (.slice none 0 0)),(.lit (.int .i64 0)),(.lit (.int .i64 0)),(.lit (.int .i64 0)),(.lit (.int .i64 0)),(.lit (.string ⟨#[]⟩)),(.lit (.int .i64 0)),(.lit (.int .u64 0))]) (.r 38))⟩]) (.seq (.ops [4] [] [vv 39 0,vv 40 5,⟨none,.sliS (some 41) (.r 39) none (some (.r 40)) 12⟩,vo 4 41]) .ret)))))
def c_f69:AFun:=⟨42,[.tmp 4],f69_1⟩
theorem k_f69:kX x_f69 69 c_f69:=by delta kX; kernel_rfl
theorem e_f69:eX 69:=by delta eX; kernel_rfl

def n_f70:Nat:=70
def x_f70:=xX 9 [0,3,5,7,8] [] [(2,[1,2],[2]),(6,[3],[])]
abbrev f70_1:AC:=.seq (.ops [1,2] [2] [⟨none,.boxL 2 12 (.r 0)⟩,⟨none,.mv (some 3) (.c (.lit (.bool false)))⟩]) (.seq (.ops [3] [] [vd 4 2 5,⟨none,.load (some 5) (.r 4) (some 2)⟩,vd 6 1 1,⟨none,.load (some 7) (.r 6) (some 2)⟩,⟨none,.bin (some 8) (.agg (.field 0 1 .int (.field 1 1 .int .tt))) .eql (.r 5) (.r 7)⟩,vo 3 8]) .ret)
def c_f70:AFun:=⟨9,[.tmp 3],f70_1⟩
theorem k_f70:kX x_f70 70 c_f70:=by delta kX; kernel_rfl
theorem e_f70:eX 70:=by delta eX; kernel_rfl

def n_f71:Nat:=71
def x_f71:=xX 9 [0,1,4,5,6,7,8] [] [(2,[0,1],[]),(6,[4],[])]
abbrev f71_1:AC:=.seq (.ops [0,1] [] [⟨none,.mv (some 4) (.c (.lit (.bool false)))⟩]) (.seq (.ops [4] [] [vv 5 0,vv 6 1,⟨none,.call (some 7) false (.f 80) [(.r 5),(.r 6)]⟩,vb 8 .geq 7 0,vo 4 8]) .ret)
def c_f71:AFun:=⟨9,[.tmp 4],f71_1⟩
theorem k_f71:kX x_f71 71 c_f71:=by delta kX; kernel_rfl
theorem e_f71:eX 71:=by delta eX; kernel_rfl

def n_f73:Nat:=73
def x_f73:=xX 147 [0,2,3,4,5,7,10,11,13,14,15,16,19,22,26,28,29,32,35,38,39,40,41,43,44,47,50,51,52,53,54,56,57,58,59,62,67,68,72,75,76,77,80,82,83,84,85,86,92,95,98,99,100,101,105,106,107,108,109,114,115,122,125,127,128,129,130,135,139,140,141,142,145,146] [101] [(2,[0],[]),(6,[0,3],[]),(14,[0,3,4],[]),(30,[0,3,4,5],[]),(124,[3,4,5,14,15,16],[]),(250,[3,4,5,14,15,16],[]),(1000,[3,4,5,14,15,16,17],[]),(4005,[3],[]),(16024,[3,4,5,7,14,15,16],[]),(64100,[3,4,5,7,14,15,16,23],[]),(128202,[3,4,5,14,15,16],[]),(64102,[3,4,5,7,14,15,16,26],[]),(256412,[3,4,5,7,14,15,16,26,27],[]),(512826,[3,4,5,14,15,16],[]),(1025654,[3,4,5,7,14,15,16,26,42],[]),(2051310,[3,4,5,14,15,16],[]),(4102622,[3,4,5,7,14,15,16,26,55],[]),(16410492,[3,4,5,7,14,15,16,57,58,59],[]),(32820986,[3,4,5,7,14,15,16,57,58,59],[]),(131283944,[3,4,5,7,14,15,16,57,58,59,60],[]),(525135781,[3,4,5,14,15,16],[]),(2100543128,[3,4,5,7,9,14,15,16,57,58,59],[]),(2100543129,[3,4,5,7,14,15,16,57,58,59],[]),(525135783,[3,4,5,7,14,15,16,57,58,59],[]),(16410494,[3,4,5,7,14,15,16,26,81],[]),(65641980,[3,4,5,7,10,14,15,16],[]),(131283962,[3,4,5,7,10,14,15,16,87],[]),(262567926,[3,4,5,14,15,16],[]),(65641982,[3,4,5,7,14,15,16,104],[]),(262567932,[3,4,5,7,11,14,15,16],[]),(1050271732,[3,4,5,7,11,14,15,16,110],[]),(2100543466,[3,4,5,14,15,16],[]),(2100543468,[3,4,5,7,11,14,15,16,116],[]),(8402173876,[3,4,5,7,11,12,14,15,16],[12]),(16804347754,[3,4,5,11,12,14,15,16],[12]),(16804347755,[3,4,5,11,14,15,16],[]),(1050271735,[3,4,5,14,15,16],[]),(4007,[3,4,5,14,15,16],[]),(126,[2],[])]
def f73_2l:List GI:=[⟨none,.mv (some 2) (.c (.lit (.slice none 0 0)))⟩]
def f83:AC:=.ops [0] [] f73_2l
theorem f73_2e:OP f83 f73_2l [0] []:=rfl
abbrev f73_4:AC:=.ops [0,3] [] [⟨none,.mv (some 3) (.c (.lit (.slice none 0 0)))⟩]
abbrev f73_44:AC:=.seq (.ops [3,4,5,7,14,15,16,57,58,59,60] [] [⟨none,.bin (some 60) .num .lss (.r 59) (.r 58)⟩]) (.seq (.cond (.r 60) .skip (.exit [3,4,5,14,15,16] [] 3)) (.seq (.block 4 (.seq (.ops [3,4,5,7,9,14,15,16,57,58,59] [] [⟨none,.ixS (some 61) (.r 57) (.r 59) 1⟩,vl 62 61,vo 9 62]) (.draw [3,4,5,7,14,15,16,57,58,59] [] [] [vv 63 9,vv 64 9,vn 65 64,vd 66 65 4,vl 67 66,vv 68 67,⟨some (68,true),.mv (some 69) (.r 9)⟩,⟨some (68,true),.nilck (some 70) (.r 69)⟩,⟨some (68,true),.addr (some 71) (.r 70) 0⟩,⟨some (68,true),.load (some 72) (.r 71) (some 2)⟩,⟨some (68,true),.addr (some 73) (.r 7) 1⟩,⟨some (68,true),.addr (some 74) (.r 73) 1⟩,⟨some (68,true),.load (some 75) (.r 74) (some 2)⟩,⟨some (68,true),.bin (some 76) (.agg (.field 0 1 .int (.field 1 1 .int .tt))) .neq (.r 72) (.r 75)⟩,⟨none,.pick (some 77) (.r 68) (.r 76) (.c (.lit (.bool false)))⟩] [vn 78 63,vd 79 78 4,⟨none,.store 1 (.r 79) (.r 77)⟩]))) (.ops [3,4,5,7,14,15,16,57,58,59] [] [vb 80 .add 59 1,vv 59 80])))
def f73_43:AC:=.loop [3,4,5,7,14,15,16,57,58,59] [] f73_44
theorem f73_43w:aC P id m f73_43 sf st Q = bj (aC P id m f73_44) [3,4,5,7,14,15,16,57,58,59] [] sf st Q:=rfl
def f73_62h:List GI:=[vv 88 10,
  vv 89 10,
  vn 90 89,
  vd 91 90 5,
  vl 92 91,
  vd 93 7 13,
  vd 94 93 5,
  ⟨none,.load (some 95) (.r 94) (some 2)⟩,
  vd 96 7 1,
  vd 97 96 8,
  vl 98 97,
  ⟨none,.bst (some 99) [(0,2),(2,2),(4,1)] (.agg [(.lit (.int .i64 0)),(.lit (.int .i64 0)),(.lit (.int .i64 0)),(.lit (.int .i64 0)),(.lit (.int .i64 0))]) [(0,(.r 95)),(2,(.r 98))]⟩,
  ⟨none,.bsl (some 100) 5 1 (.agg [(.lit (.int .i64 0)),(.lit (.int .i64 0)),(.lit (.int .i64 0)),(.lit (.int .i64 0)),(.lit (.int .i64 0))]) [(0,(.r 99))]⟩]
def f73_62p:List (Bool×GI):=[]
def f73_62l:List GI:=[vn 102 88,
  vd 103 102 5,
  ⟨none,.store 1 (.r 103) (.r 101)⟩]
def f73_62:AC:=.drawA [3,4,5,14,15,16] [] f73_62h (some 101) (.r 92) 5 40 (.r 100) f73_62p f73_62l
theorem f73_62e:aC P id m f73_62 sf st Q = (m = false∧drawA P id f73_62h (some 101) (.r 92) 5 40 (.r 100) f73_62p sf st (gw P id m [3,4,5,14,15,16] [] f73_62l Q)):=rfl
abbrev f73_68:AC:=.seq (.seq (.ops [3,4,5,7,11,14,15,16,110] [] [vv 109 11,⟨none,.bin (some 110) (.nil .ptr) .eql (.r 109) (.c (.lit (.pointer none)))⟩]) (.cond (.r 110) (.exit [3,4,5,14,15,16] [] 1) .skip)) (.seq (.seq (.ops [3,4,5,7,11,14,15,16,116] [] [vv 111 11,vn 112 111,vd 113 112 5,vl 114 113,⟨none,.len (some 115) .sl (.r 114)⟩,vb 116 .gtr 115 0]) (.cond (.r 116) (.seq (.ops [3,4,5,7,11,12,14,15,16] [12] [vv 117 11,vn 118 117,vd 119 118 5,vl 120 119,⟨none,.ixS (some 121) (.r 120) (.c (.lit (.int .i64 0))) 5⟩,⟨none,.load (some 122) (.r 121) (some 5)⟩,⟨none,.newL 12 [(.lit (.int .i64 0)),(.lit (.int .i64 0)),(.lit (.int .i64 0)),(.lit (.int .i64 0)),(.lit (.int .i64 0))]⟩,⟨none,.store 5 (.r 12) (.r 122)⟩]) (.seq (.ops [3,4,5,11,12,14,15,16] [12] [vd 123 7 13,vd 124 123 5,⟨none,.load (some 125) (.r 124) (some 2)⟩,vd 126 12 2,⟨none,.store 2 (.r 126) (.r 125)⟩]) (.ops [3,4,5,11,14,15,16] [] [vo 127 3,⟨none,.load (some 128) (.r 12) (some 5)⟩,⟨none,.bsl (some 129) 5 1 (.agg [(.lit (.int .i64 0)),(.lit (.int .i64 0)),(.lit (.int .i64 0)),(.lit (.int .i64 0)),(.lit (.int .i64 0))]) [(0,(.r 128))]⟩,⟨none,.appS 130 127 5 40 (.r 129)⟩,vo 3 130]))) .skip)) (.draw [3,4,5,14,15,16] [] [] [vv 131 11,vv 132 11,vn 133 132,vd 134 133 5,vl 135 134,vv 136 11,vn 137 136,vd 138 137 5,vl 139 138,⟨none,.len (some 140) .sl (.r 139)⟩,⟨none,.mn (some 141) true (.c (.lit (.int .i64 1))) (.r 140)⟩,⟨none,.sliS (some 142) (.r 135) (some (.r 141)) none 5⟩] [vn 143 131,vd 144 143 5,⟨none,.store 1 (.r 144) (.r 142)⟩]))
abbrev f73_35:AC:=.cond (.r 42) (.ops [3,4,5,14,15,16] [] [⟨none,.loadOwn 44 (.r 4)⟩,vd 45 7 13,vd 46 45 5,⟨none,.load (some 47) (.r 46) (some 2)⟩,vd 48 7 13,vd 49 48 9,⟨none,.load (some 50) (.r 49) (some 2)⟩,⟨none,.bst (some 51) [(0,2),(2,2),(4,1),(5,1)] (.agg [(.lit (.int .i64 0)),(.lit (.int .i64 0)),(.lit (.string ⟨#[]⟩)),(.lit (.int .i64 0)),(.lit (.bool false)),(.lit (.slice none 0 0))]) [(0,(.r 47)),(1,(.r 50)),(2,(.c (.lit (.bool true))))]⟩,⟨none,.boxB 52 6 (.r 51)⟩,⟨none,.bsl (some 53) 1 1 (.lit (.pointer none)) [(0,(.r 52))]⟩,⟨none,.appS 54 44 1 8 (.r 53)⟩,⟨none,.store 1 (.r 4) (.r 54)⟩]) (.seq (.ops [3,4,5,7,14,15,16,26,55] [] [vb 56 .eql 26 7,vo 55 56]) (.cond (.r 55) (.seq (.ops [3,4,5,7,14,15,16,57,58,59] [] [vl 57 4,⟨none,.len (some 58) .sl (.r 57)⟩,⟨none,.mv (some 59) (.c (.lit (.int .i64 0)))⟩]) (.block 3 f73_43)) (.seq (.ops [3,4,5,7,14,15,16,26,81] [] [vb 82 .eql 26 3,vo 81 82]) (.cond (.r 81) (.seq (.ops [3,4,5,7,10,14,15,16] [] [vv 83 5,⟨none,.mkfn (some 84) 83 [] [(.r 7)]⟩,⟨none,.call (some 85) false (.r 83) [(.r 84)]⟩,vo 10 85]) (.seq (.ops [3,4,5,7,10,14,15,16,87] [] [vv 86 10,⟨none,.bin (some 87) (.nil .ptr) .neq (.r 86) (.c (.lit (.pointer none)))⟩]) (.cond (.r 87) f73_62 .skip))) (.seq (.ops [3,4,5,7,14,15,16,104] [] [vb 105 .eql 26 2,vo 104 105]) (.cond (.r 104) (.seq (.ops [3,4,5,7,11,14,15,16] [] [vv 106 5,⟨none,.mkfn (some 107) 84 [] [(.r 7)]⟩,⟨none,.call (some 108) false (.r 106) [(.r 107)]⟩,vo 11 108]) f73_68) .skip))))))
abbrev f73_20:AC:=.seq (.ops [3,4,5,7,14,15,16] [] [⟨none,.ixS (some 18) (.r 14) (.r 16) 25⟩,⟨none,.load (some 19) (.r 18) (some 25)⟩,⟨none,.newB 7 [(.lit (.int .i64 0)),(.lit (.int .i64 0)),(.lit (.int .i64 0)),(.lit (.int .i64 0)),(.lit (.int .i64 0)),(.lit (.int .i64 0)),(.lit (.string ⟨#[]⟩)),(.lit (.int .i64 0)),(.lit (.slice none 0 0)),(.lit (.int .i64 0)),(.lit (.int .i64 0)),(.lit (.int .i64 0)),(.lit (.int .u64 0)),(.lit (.int .i64 0)),(.lit (.int .i64 0)),(.lit (.int .i64 0)),(.lit (.int .i64 0)),(.lit (.slice none 0 0)),(.lit (.int .i64 0)),(.lit (.int .i64 0)),(.lit (.int .i64 0)),(.lit (.int .i64 0)),(.lit (.string ⟨#[]⟩)),(.lit (.int .i64 0)),(.lit (.int .u64 0))]⟩,⟨none,.store 25 (.r 7) (.r 19)⟩]) (.seq (.seq (.ops [3,4,5,7,14,15,16,23] [] [vd 20 7 13,vd 21 20 2,vl 22 21,vb 23 .neq 22 0]) (.cond (.r 23) (.exit [3,4,5,14,15,16] [] 1) .skip)) (.seq (.ops [3,4,5,7,14,15,16,26] [] [vd 24 7 13,vd 25 24 1,vl 26 25]) (.block 2 (.seq (.ops [3,4,5,7,14,15,16,26,27] [] [vb 28 .eql 26 4,vo 27 28]) (.cond (.r 27) (.ops [3,4,5,14,15,16] [] [vo 29 3,vd 30 7 13,vd 31 30 5,⟨none,.load (some 32) (.r 31) (some 2)⟩,vd 33 7 13,vd 34 33 7,⟨none,.load (some 35) (.r 34) (some 2)⟩,vd 36 7 1,vd 37 36 8,vl 38 37,⟨none,.bst (some 39) [(0,2),(2,2),(4,1)] (.agg [(.lit (.int .i64 0)),(.lit (.int .i64 0)),(.lit (.int .i64 0)),(.lit (.int .i64 0)),(.lit (.int .i64 0))]) [(0,(.r 32)),(1,(.r 35)),(2,(.r 38))]⟩,⟨none,.bsl (some 40) 5 1 (.agg [(.lit (.int .i64 0)),(.lit (.int .i64 0)),(.lit (.int .i64 0)),(.lit (.int .i64 0)),(.lit (.int .i64 0))]) [(0,(.r 39))]⟩,⟨none,.appS 41 29 5 40 (.r 40)⟩,vo 3 41]) (.seq (.ops [3,4,5,7,14,15,16,26,42] [] [vb 43 .eql 26 1,vo 42 43]) f73_35))))))
abbrev f73_14:AC:=.seq (.ops [3,4,5,14,15,16,17] [] [⟨none,.bin (some 17) .num .lss (.r 16) (.r 15)⟩]) (.seq (.cond (.r 17) .skip (.exit [3] [] 0)) (.seq (.block 1 f73_20) (.ops [3,4,5,14,15,16] [] [vb 145 .add 16 1,vv 16 145])))
def f73_13:AC:=.loop [3,4,5,14,15,16] [] f73_14
theorem f73_13w:aC P id m f73_13 sf st Q = bj (aC P id m f73_14) [3,4,5,14,15,16] [] sf st Q:=rfl
abbrev f73_5:AC:=.seq (.ops [0,3,4] [] [⟨none,.newB 4 [(.lit (.slice none 0 0))]⟩]) (.seq (.ops [0,3,4,5] [] [⟨none,.mkfn (some 13) 81 [] [(.r 4)]⟩,vo 5 13]) (.seq (.seq (.ops [3,4,5,14,15,16] [] [vv 14 0,⟨none,.len (some 15) .sl (.r 14)⟩,⟨none,.mv (some 16) (.c (.lit (.int .i64 0)))⟩]) (.block 0 f73_13)) (.seq (.ops [2] [] [vv 146 3,vo 2 146]) .ret)))
def f84:AC:=.seq f73_4 f73_5
theorem f73_3e:SQ f84 f73_4 f73_5:=rfl
def f81:AC:=.seq f83 f84
theorem f73_1e:SQ f81 f83 f84:=rfl
def c_f73:AFun:=⟨147,[.tmp 2],f81⟩
theorem k_f73:kX x_f73 73 c_f73:=by delta kX; kernel_rfl
theorem e_f73:eX 73:=by delta eX; kernel_rfl

def n_f74:Nat:=74
def x_f74:=xX 65 [0,2,3,4,5,8,9,10,11,12,14,16,19,20,21,23,24,25,26,28,30,33,34,35,37,38,39,40,42,43,44,45,46,47,49,52,53,55,56,57,59,60,61,62,63,64] [] [(2,[0],[]),(6,[0,3],[]),(14,[0,3,4],[]),(60,[3,4,10,11,12],[]),(122,[3,4,10,11,12],[]),(488,[3,4,10,11,12,13],[]),(1957,[4],[]),(7832,[3,4,5,6,10,11,12],[6]),(31332,[3,4,5,6,10,11,12,17],[6]),(62666,[3,4,10,11,12],[]),(125334,[3,4,5,6,10,11,12,31],[6]),(501340,[3,4,5,6,7,8,10,11,12],[6,7]),(1002682,[3,4,5,6,7,10,11,12,54],[6,7]),(2005366,[3,4,10,11,12],[]),(1959,[3,4,10,11,12],[]),(62,[2],[])]
abbrev f74_30:AC:=.seq (.ops [3,4,5,6,7,10,11,12,54] [6,7] [vv 46 8,vv 47 46,⟨some (47,true),.addr (some 48) (.r 7) 0⟩,⟨some (47,true),.load (some 49) (.r 48) none⟩,⟨some (47,true),.addr (some 50) (.r 6) 16⟩,⟨some (47,true),.addr (some 51) (.r 50) 1⟩,⟨some (47,true),.load (some 52) (.r 51) none⟩,⟨some (47,true),.bin (some 53) .num .eql (.r 49) (.r 52)⟩,⟨none,.pick (some 54) (.r 47) (.r 53) (.c (.lit (.bool false)))⟩]) (.cond (.r 54) (.ops [3,4,10,11,12] [] [vo 55 4,vv 56 5,⟨none,.load (some 57) (.r 7) (some 12)⟩,vd 58 6 16,⟨none,.load (some 59) (.r 58) (some 12)⟩,⟨none,.bst (some 60) [(0,1),(1,12),(13,12)] (.agg [(.lit (.int .i64 0)),(.lit (.int .i64 0)),(.lit (.int .i64 0)),(.lit (.int .i64 0)),(.lit (.int .i64 0)),(.lit (.int .i64 0)),(.lit (.string ⟨#[]⟩)),(.lit (.int .i64 0)),(.lit (.slice none 0 0)),(.lit (.int .i64 0)),(.lit (.int .i64 0)),(.lit (.int .i64 0)),(.lit (.int .u64 0)),(.lit (.int .i64 0)),(.lit (.int .i64 0)),(.lit (.int .i64 0)),(.lit (.int .i64 0)),(.lit (.slice none 0 0)),(.lit (.int .i64 0)),(.lit (.int .i64 0)),(.lit (.int .i64 0)),(.lit (.int .i64 0)),(.lit (.string ⟨#[]⟩)),(.lit (.int .i64 0)),(.lit (.int .u64 0))]) [(0,(.r 56)),(1,(.r 57)),(2,(.r 59))]⟩,⟨none,.bsl (some 61) 25 1 (.agg [(.lit (.int .i64 0)),(.lit (.int .i64 0)),(.lit (.int .i64 0)),(.lit (.int .i64 0)),(.lit (.int .i64 0)),(.lit (.int .i64 0)),(.lit (.string ⟨#[]⟩)),(.lit (.int .i64 0)),(.lit (.slice none 0 0)),(.lit (.int .i64 0)),(.lit (.int .i64 0)),(.lit (.int .i64 0)),(.lit (.int .u64 0)),(.lit (.int .i64 0)),(.lit (.int .i64 0)),(.lit (.int .i64 0)),(.lit (.int .i64 0)),(.lit (.slice none 0 0)),(.lit (.int .i64 0)),(.lit (.int .i64 0)),(.lit (.int .i64 0)),(.lit (.int .i64 0)),(.lit (.string ⟨#[]⟩)),(.lit (.int .i64 0)),(.lit (.int .u64 0))]) [(0,(.r 60))]⟩,⟨none,.appS 62 55 25 248 (.r 61)⟩,vo 4 62]) .skip)
abbrev f74_21:AC:=.seq (.ops [3,4,5,6,10,11,12,17] [6] [vd 18 6 0,vl 19 18,vb 20 .eql 19 1,vv 21 20,⟨some (21,true),.addr (some 22) (.r 6) 14⟩,⟨some (21,true),.load (some 23) (.r 22) none⟩,⟨some (21,true),.bin (some 24) .num .eql (.r 23) (.c (.lit (.int .i64 0)))⟩,⟨none,.pick (some 25) (.r 21) (.r 24) (.c (.lit (.bool false)))⟩,vo 17 25]) (.cond (.r 17) (.ops [3,4,10,11,12] [] [vv 26 3,vd 27 6 1,vl 28 27,vd 29 6 2,⟨none,.load (some 30) (.r 29) (some 12)⟩,⟨none,.upd (.int .i64) (.r 26) (.r 28) (.r 30)⟩]) (.seq (.ops [3,4,5,6,10,11,12,31] [6] [vd 32 6 0,vl 33 32,vb 34 .eql 33 2,vv 35 34,⟨some (35,true),.addr (some 36) (.r 6) 15⟩,⟨some (35,true),.load (some 37) (.r 36) none⟩,⟨none,.pick (some 38) (.r 35) (.r 37) (.c (.lit (.bool false)))⟩,vo 31 38]) (.cond (.r 31) (.seq (.ops [3,4,5,6,7,8,10,11,12] [6,7] [vv 40 3,vd 41 6 1,vl 42 41,⟨none,.lookup (some 43) (.int .i64) (.agg [(.lit (.int .i64 0)),(.lit (.int .i64 0)),(.lit (.int .i64 0)),(.lit (.int .i64 0)),(.lit (.int .i64 0)),(.lit (.string ⟨#[]⟩)),(.lit (.int .i64 0)),(.lit (.slice none 0 0)),(.lit (.int .i64 0)),(.lit (.int .i64 0)),(.lit (.int .i64 0)),(.lit (.int .u64 0))]) true (.r 40) (.r 42)⟩,vv 39 43,ve 44 39 0,ve 45 39 1,⟨none,.newL 7 [(.lit (.int .i64 0)),(.lit (.int .i64 0)),(.lit (.int .i64 0)),(.lit (.int .i64 0)),(.lit (.int .i64 0)),(.lit (.string ⟨#[]⟩)),(.lit (.int .i64 0)),(.lit (.slice none 0 0)),(.lit (.int .i64 0)),(.lit (.int .i64 0)),(.lit (.int .i64 0)),(.lit (.int .u64 0))]⟩,⟨none,.store 12 (.r 7) (.r 44)⟩,vo 8 45]) f74_30) .skip)))
abbrev f74_12:AC:=.seq (.ops [3,4,10,11,12,13] [] [⟨none,.bin (some 13) .num .lss (.r 12) (.r 11)⟩]) (.seq (.cond (.r 13) .skip (.exit [4] [] 0)) (.seq (.block 1 (.seq (.ops [3,4,5,6,10,11,12] [6] [vv 14 12,⟨none,.ixS (some 15) (.r 10) (.r 12) 30⟩,⟨none,.load (some 16) (.r 15) (some 30)⟩,⟨none,.newL 6 [(.lit (.int .i64 0)),(.lit (.int .i64 0)),(.lit (.int .i64 0)),(.lit (.int .i64 0)),(.lit (.int .i64 0)),(.lit (.int .i64 0)),(.lit (.int .i64 0)),(.lit (.string ⟨#[]⟩)),(.lit (.int .i64 0)),(.lit (.slice none 0 0)),(.lit (.int .i64 0)),(.lit (.int .i64 0)),(.lit (.int .i64 0)),(.lit (.int .u64 0)),(.lit (.int .i64 0)),(.lit (.bool false)),(.lit (.int .i64 0)),(.lit (.int .i64 0)),(.lit (.int .i64 0)),(.lit (.int .i64 0)),(.lit (.slice none 0 0)),(.lit (.int .i64 0)),(.lit (.int .i64 0)),(.lit (.int .i64 0)),(.lit (.int .i64 0)),(.lit (.string ⟨#[]⟩)),(.lit (.int .i64 0)),(.lit (.int .u64 0)),(.lit (.slice none 0 0)),(.lit (.int .u64 0))]⟩,vo 5 14,⟨none,.store 30 (.r 6) (.r 16)⟩]) (.block 2 f74_21))) (.ops [3,4,10,11,12] [] [vb 63 .add 12 1,vv 12 63])))
def f74_11:AC:=.loop [3,4,10,11,12] [] f74_12
theorem f74_11w:aC P id m f74_11 sf st Q = bj (aC P id m f74_12) [3,4,10,11,12] [] sf st Q:=rfl
abbrev f74_1:AC:=.seq (.ops [0] [] [⟨none,.mv (some 2) (.c (.lit (.slice none 0 0)))⟩]) (.seq (.ops [0,3] [] [⟨none,.mkmap 9⟩,vo 3 9]) (.seq (.ops [0,3,4] [] [⟨none,.mv (some 4) (.c (.lit (.slice none 0 0)))⟩]) (.seq (.seq (.ops [3,4,10,11,12] [] [vv 10 0,⟨none,.len (some 11) .sl (.r 10)⟩,⟨none,.mv (some 12) (.c (.lit (.int .i64 0)))⟩]) (.block 0 f74_11)) (.seq (.ops [2] [] [vv 64 4,vo 2 64]) .ret))))
def c_f74:AFun:=⟨65,[.tmp 2],f74_1⟩
theorem k_f74:kX x_f74 74 c_f74:=by delta kX; kernel_rfl
theorem e_f74:eX 74:=by delta eX; kernel_rfl

def n_f76:Nat:=76
def x_f76:=xX 19 [0,1,4,5,6,7,8,10,11,13,15,17,18] [] [(2,[0,1],[]),(12,[0,1,7,8],[]),(26,[0,1,7,8],[]),(104,[0,1,7,8,9],[]),(421,[],[]),(1688,[0,1,5,7,8],[]),(3378,[0,1,5,7,8,16],[]),(13516,[4],[]),(423,[0,1,7,8],[]),(14,[4],[])]
abbrev f76_8:AC:=.seq (.ops [0,1,7,8,9] [] [⟨none,.bin (some 9) .num .lss (.r 8) (.r 7)⟩]) (.seq (.cond (.r 9) .skip (.exit [] [] 0)) (.seq (.block 1 (.seq (.ops [0,1,5,7,8] [] [vv 10 8,vo 5 10]) (.seq (.ops [0,1,5,7,8,16] [] [vv 11 1,vv 12 0,vv 13 5,⟨none,.ixS (some 14) (.r 12) (.r 13) 1⟩,vl 15 14,⟨none,.bin (some 16) .num .eql (.r 11) (.r 15)⟩]) (.cond (.r 16) (.seq (.ops [4] [] [vv 17 5,vo 4 17]) .ret) .skip)))) (.ops [0,1,7,8] [] [vb 18 .add 8 1,vv 8 18])))
def f76_7:AC:=.loop [0,1,7,8] [] f76_8
theorem f76_7w:aC P id m f76_7 sf st Q = bj (aC P id m f76_8) [0,1,7,8] [] sf st Q:=rfl
abbrev f76_1:AC:=.seq (.ops [0,1] [] [⟨none,.mv (some 4) (.c (.lit (.int .i64 0)))⟩]) (.seq (.seq (.ops [0,1,7,8] [] [vv 6 0,⟨none,.len (some 7) .sl (.r 6)⟩,⟨none,.mv (some 8) (.c (.lit (.int .i64 0)))⟩]) (.block 0 f76_7)) (.seq (.ops [4] [] [⟨none,.mv (some 4) (.c (.lit (.int .i64 (-1))))⟩]) .ret))
def c_f76:AFun:=⟨19,[.tmp 4],f76_1⟩
theorem k_f76:kX x_f76 76 c_f76:=by delta kX; kernel_rfl
theorem e_f76:eX 76:=by delta eX; kernel_rfl

def n_f78:Nat:=78
def x_f78:=xX 42 [0,1,4,5,6,8,9,10,11,13,14,15,16,17,18,20,21,23,25,26,27,28,31,32,34,35,36,37,38,39,40,41] [0,30,36,38] [(2,[0,1],[]),(6,[0,1,5],[]),(28,[0,1,5,12],[]),(116,[4],[]),(60,[0,1,5,6],[]),(122,[0,1,5,6],[]),(976,[0,1,5,6,19],[]),(1955,[0,5],[]),(3912,[0,1,5,6,7],[7]),(7826,[0,1,5,6,7,29],[7]),(31308,[0,1,5,6],[]),(31309,[0,1,5,6],[]),(979,[0,1,5,6],[]),(62,[0,5],[]),(126,[4],[])]
abbrev f78_16:AC:=.seq (.seq (.ops [0,1,5,6,19] [] [vv 16 6,vv 17 0,⟨none,.len (some 18) .sl (.r 17)⟩,⟨none,.bin (some 19) .num .lss (.r 16) (.r 18)⟩]) (.cond (.r 19) .skip (.exit [0,5] [] 0))) (.seq (.block 1 (.seq (.ops [0,1,5,6,7] [7] [vv 22 0,vv 23 6,⟨none,.ixS (some 24) (.r 22) (.r 23) 4⟩,⟨none,.load (some 25) (.r 24) (some 4)⟩,⟨none,.newL 7 [(.lit (.int .i64 0)),(.lit (.int .i64 0)),(.lit (.int .i64 0)),(.lit (.bool false))]⟩,⟨none,.store 4 (.r 7) (.r 25)⟩]) (.seq (.ops [0,1,5,6,7,29] [7] [vv 26 1,⟨none,.load (some 27) (.r 7) (some 4)⟩,⟨none,.call (some 28) false (.r 26) [(.r 27)]⟩,⟨none,.un (some 29) .not (.r 28)⟩]) (.cond (.r 29) (.seq (.ops [0,1,5,6] [] [vv 30 0,vv 31 5,⟨none,.load (some 32) (.r 7) (some 4)⟩,⟨none,.ixS (some 33) (.r 30) (.r 31) 4⟩,⟨none,.store 4 (.r 33) (.r 32)⟩]) (.ops [0,1,5,6] [] [vv 34 5,vb 35 .add 34 1,vo 5 35])) .skip)))) (.ops [0,1,5,6] [] [vv 20 6,vb 21 .add 20 1,vo 6 21]))
def f78_15:AC:=.loop [0,1,5,6] [] f78_16
theorem f78_15w:aC P id m f78_15 sf st Q = bj (aC P id m f78_16) [0,1,5,6] [] sf st Q:=rfl
abbrev f78_1:AC:=.seq (.ops [0,1] [] [⟨none,.mv (some 4) (.c (.lit (.slice none 0 0)))⟩]) (.seq (.ops [0,1,5] [] [vv 8 0,vv 9 1,⟨none,.call (some 10) false (.f 85) [(.r 8),(.r 9)]⟩,vo 5 10]) (.seq (.seq (.ops [0,1,5,12] [] [vv 11 5,⟨none,.bin (some 12) .num .eql (.r 11) (.c (.lit (.int .i64 (-1))))⟩]) (.cond (.r 12) (.seq (.ops [4] [] [vv 13 0,vo 4 13]) .ret) .skip)) (.seq (.seq (.ops [0,1,5,6] [] [vv 14 5,vb 15 .add 14 1,vo 6 15]) (.block 0 f78_15)) (.seq (.ops [0,5] [] [vv 36 0,vv 37 5,⟨none,.sliOwn 38 36 (.r 37) 4⟩,⟨none,.x none (.clrB 4 (.agg [(.lit (.int .i64 0)),(.lit (.int .i64 0)),(.lit (.int .i64 0)),(.lit (.bool false))]) (.r 38))⟩]) (.seq (.ops [4] [] [vv 39 0,vv 40 5,⟨none,.sliS (some 41) (.r 39) none (some (.r 40)) 4⟩,vo 4 41]) .ret)))))
def c_f78:AFun:=⟨42,[.tmp 4],f78_1⟩
theorem k_f78:kX x_f78 78 c_f78:=by delta kX; kernel_rfl
theorem e_f78:eX 78:=by delta eX; kernel_rfl

def n_f79:Nat:=79
def x_f79:=xX 8 [0,3,5,6,7] [] [(2,[1,2],[2]),(6,[3],[])]
abbrev f79_1:AC:=.seq (.ops [1,2] [2] [⟨none,.boxL 2 4 (.r 0)⟩,⟨none,.mv (some 3) (.c (.lit (.bool false)))⟩]) (.seq (.ops [3] [] [vd 4 2 0,⟨none,.load (some 5) (.r 4) (some 2)⟩,⟨none,.load (some 6) (.r 1) (some 2)⟩,⟨none,.bin (some 7) (.agg (.field 0 1 .int (.field 1 1 .int .tt))) .eql (.r 5) (.r 6)⟩,vo 3 7]) .ret)
def c_f79:AFun:=⟨8,[.tmp 3],f79_1⟩
theorem k_f79:kX x_f79 79 c_f79:=by delta kX; kernel_rfl
theorem e_f79:eX 79:=by delta eX; kernel_rfl

def n_f80:Nat:=80
def x_f80:=xX 19 [0,1,4,5,6,7,8,10,11,13,15,17,18] [] [(2,[0,1],[]),(12,[0,1,7,8],[]),(26,[0,1,7,8],[]),(104,[0,1,7,8,9],[]),(421,[],[]),(1688,[0,1,5,7,8],[]),(3378,[0,1,5,7,8,16],[]),(13516,[4],[]),(423,[0,1,7,8],[]),(14,[4],[])]
abbrev f80_8:AC:=.seq (.ops [0,1,7,8,9] [] [⟨none,.bin (some 9) .num .lss (.r 8) (.r 7)⟩]) (.seq (.cond (.r 9) .skip (.exit [] [] 0)) (.seq (.block 1 (.seq (.ops [0,1,5,7,8] [] [vv 10 8,vo 5 10]) (.seq (.ops [0,1,5,7,8,16] [] [vv 11 1,vv 12 0,vv 13 5,⟨none,.ixS (some 14) (.r 12) (.r 13) 1⟩,vl 15 14,⟨none,.call (some 16) false (.r 11) [(.r 15)]⟩]) (.cond (.r 16) (.seq (.ops [4] [] [vv 17 5,vo 4 17]) .ret) .skip)))) (.ops [0,1,7,8] [] [vb 18 .add 8 1,vv 8 18])))
def f80_7:AC:=.loop [0,1,7,8] [] f80_8
theorem f80_7w:aC P id m f80_7 sf st Q = bj (aC P id m f80_8) [0,1,7,8] [] sf st Q:=rfl
abbrev f80_1:AC:=.seq (.ops [0,1] [] [⟨none,.mv (some 4) (.c (.lit (.int .i64 0)))⟩]) (.seq (.seq (.ops [0,1,7,8] [] [vv 6 0,⟨none,.len (some 7) .sl (.r 6)⟩,⟨none,.mv (some 8) (.c (.lit (.int .i64 0)))⟩]) (.block 0 f80_7)) (.seq (.ops [4] [] [⟨none,.mv (some 4) (.c (.lit (.int .i64 (-1))))⟩]) .ret))
def c_f80:AFun:=⟨19,[.tmp 4],f80_1⟩
theorem k_f80:kX x_f80 80 c_f80:=by delta kX; kernel_rfl
theorem e_f80:eX 80:=by delta eX; kernel_rfl

def n_f85:Nat:=85
def x_f85:=xX 19 [0,1,4,5,6,7,8,10,11,13,15,17,18] [] [(2,[0,1],[]),(12,[0,1,7,8],[]),(26,[0,1,7,8],[]),(104,[0,1,7,8,9],[]),(421,[],[]),(1688,[0,1,5,7,8],[]),(3378,[0,1,5,7,8,16],[]),(13516,[4],[]),(423,[0,1,7,8],[]),(14,[4],[])]
abbrev f85_8:AC:=.seq (.ops [0,1,7,8,9] [] [⟨none,.bin (some 9) .num .lss (.r 8) (.r 7)⟩]) (.seq (.cond (.r 9) .skip (.exit [] [] 0)) (.seq (.block 1 (.seq (.ops [0,1,5,7,8] [] [vv 10 8,vo 5 10]) (.seq (.ops [0,1,5,7,8,16] [] [vv 11 1,vv 12 0,vv 13 5,⟨none,.ixS (some 14) (.r 12) (.r 13) 4⟩,⟨none,.load (some 15) (.r 14) (some 4)⟩,⟨none,.call (some 16) false (.r 11) [(.r 15)]⟩]) (.cond (.r 16) (.seq (.ops [4] [] [vv 17 5,vo 4 17]) .ret) .skip)))) (.ops [0,1,7,8] [] [vb 18 .add 8 1,vv 8 18])))
def f85_7:AC:=.loop [0,1,7,8] [] f85_8
theorem f85_7w:aC P id m f85_7 sf st Q = bj (aC P id m f85_8) [0,1,7,8] [] sf st Q:=rfl
abbrev f85_1:AC:=.seq (.ops [0,1] [] [⟨none,.mv (some 4) (.c (.lit (.int .i64 0)))⟩]) (.seq (.seq (.ops [0,1,7,8] [] [vv 6 0,⟨none,.len (some 7) .sl (.r 6)⟩,⟨none,.mv (some 8) (.c (.lit (.int .i64 0)))⟩]) (.block 0 f85_7)) (.seq (.ops [4] [] [⟨none,.mv (some 4) (.c (.lit (.int .i64 (-1))))⟩]) .ret))
def c_f85:AFun:=⟨19,[.tmp 4],f85_1⟩
theorem k_f85:kX x_f85 85 c_f85:=by delta kX; kernel_rfl
theorem e_f85:eX 85:=by delta eX; kernel_rfl

def tab (q:Nat):Option AFun :=
 if q = 4 then some c_f4 else
 if q = 7 then some c_f7 else
 if q = 8 then some c_f8 else
 if q = 9 then some c_f9 else
 if q = 11 then some c_f11 else
 if q = 12 then some c_f12 else
 if q = 13 then some c_f13 else
 if q = 15 then some c_f15 else
 if q = 16 then some c_f16 else
 if q = 17 then some c_f17 else
 if q = 18 then some c_f18 else
 if q = 19 then some c_f19 else
 if q = 20 then some c_f20 else
 if q = 24 then some c_f24 else
 if q = 25 then some c_f25 else
 if q = 26 then some c_f26 else
 if q = 29 then some c_f29 else
 if q = 37 then some c_f37 else
 if q = 38 then some c_f38 else
 if q = 39 then some c_f39 else
 if q = 41 then some c_f41 else
 if q = 42 then some c_f42 else
 if q = 43 then some c_f43 else
 if q = 44 then some c_f44 else
 if q = 45 then some c_f45 else
 if q = 46 then some c_f46 else
 if q = 47 then some c_f47 else
 if q = 48 then some c_f48 else
 if q = 49 then some c_f49 else
 if q = 50 then some c_f50 else
 if q = 56 then some c_f56 else
 if q = 57 then some c_f57 else
 if q = 58 then some c_f58 else
 if q = 59 then some c_f59 else
 if q = 60 then some c_f60 else
 if q = 61 then some c_f61 else
 if q = 62 then some c_f62 else
 if q = 63 then some c_f63 else
 if q = 64 then some c_f64 else
 if q = 68 then some c_f68 else
 if q = 69 then some c_f69 else
 if q = 70 then some c_f70 else
 if q = 71 then some c_f71 else
 if q = 73 then some c_f73 else
 if q = 74 then some c_f74 else
 if q = 76 then some c_f76 else
 if q = 78 then some c_f78 else
 if q = 79 then some c_f79 else
 if q = 80 then some c_f80 else
 if q = 85 then some c_f85 else
 none
theorem tabOk:lS Go.Proofs.Try.prog id tab :=
 af e_f4 k_f4 rfl (
 af e_f7 k_f7 rfl (
 af e_f8 k_f8 rfl (
 af e_f9 k_f9 rfl (
 af e_f11 k_f11 rfl (
 af e_f12 k_f12 rfl (
 af e_f13 k_f13 rfl (
 af e_f15 k_f15 rfl (
 af e_f16 k_f16 rfl (
 af e_f17 k_f17 rfl (
 af e_f18 k_f18 rfl (
 af e_f19 k_f19 rfl (
 af e_f20 k_f20 rfl (
 af e_f24 k_f24 rfl (
 af e_f25 k_f25 rfl (
 af e_f26 k_f26 rfl (
 af e_f29 k_f29 rfl (
 af e_f37 k_f37 rfl (
 af e_f38 k_f38 rfl (
 af e_f39 k_f39 rfl (
 af e_f41 k_f41 rfl (
 af e_f42 k_f42 rfl (
 af e_f43 k_f43 rfl (
 af e_f44 k_f44 rfl (
 af e_f45 k_f45 rfl (
 af e_f46 k_f46 rfl (
 af e_f47 k_f47 rfl (
 af e_f48 k_f48 rfl (
 af e_f49 k_f49 rfl (
 af e_f50 k_f50 rfl (
 af e_f56 k_f56 rfl (
 af e_f57 k_f57 rfl (
 af e_f58 k_f58 rfl (
 af e_f59 k_f59 rfl (
 af e_f60 k_f60 rfl (
 af e_f61 k_f61 rfl (
 af e_f62 k_f62 rfl (
 af e_f63 k_f63 rfl (
 af e_f64 k_f64 rfl (
 af e_f68 k_f68 rfl (
 af e_f69 k_f69 rfl (
 af e_f70 k_f70 rfl (
 af e_f71 k_f71 rfl (
 af e_f73 k_f73 rfl (
 af e_f74 k_f74 rfl (
 af e_f76 k_f76 rfl (
 af e_f78 k_f78 rfl (
 af e_f79 k_f79 rfl (
 af e_f80 k_f80 rfl (
 af e_f85 k_f85 rfl (
 tabOk_nil))))))))))))))))))))))))))))))))))))))))))))))))))
theorem hmix:Go.Proofs.Try.prog.follows .mixedOrders = true:=by kernel_rfl
end
end Go.Fx.YtgnockaonokmaaaFx

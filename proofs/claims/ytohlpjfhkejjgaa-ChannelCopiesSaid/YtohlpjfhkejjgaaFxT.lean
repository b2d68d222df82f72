/- The functions that the statement reaches, resolved: printed by a program of ours from the translated code; each is checked here. -/
import Derived.Test.YtohlpjfhkejjgaaProg
import Derived.Test.YtohlpjfhkejjgaaFxF
set_option maxRecDepth 100000
set_option maxHeartbeats 0
namespace Go.Fx.YtohlpjfhkejjgaaFx
open Go Go.Fx
abbrev SQ (a b c:AC):Prop:=∀ {P:Program} {m:Bool} {sf:Sf} {st:St} {Q:Exit→Sf→St→Prop},aC P id m a sf st Q = aC P id m b sf st (seqQ (aC P id m c) Q)
abbrev CN (a:AC) (r:Nat) (b c:AC):Prop:=∀ {P:Program} {m:Bool} {sf:Sf} {st:St} {Q:Exit→Sf→St→Prop},aC P id m a sf st Q = iR (.r r) (sf.ev id (.r r)) (aC P id m b) (aC P id m c) sf st Q
abbrev OP (a:AC) (l:List GI) (x y:List Nat):Prop:=∀ {P:Program} {m:Bool} {sf:Sf} {st:St} {Q:Exit→Sf→St→Prop},aC P id m a sf st Q = runI P id m l (opsK x y Q) sf st
abbrev BL (a b:AC) (k:Nat):Prop:=∀ {P:Program} {m:Bool} {sf:Sf} {st:St} {Q:Exit→Sf→St→Prop},aC P id m a sf st Q = aC P id m b sf st (jb k Q)
abbrev KF:Lean.Meta.Simp.Config:={ implicitDefEqProofs:=false,maxSteps:=10000000 }
theorem bZ:type_of% (And.intro @kY (And.intro @seqQ_ret (And.intro @opsK_eq (And.intro @runI_nil (And.intro @nI (And.intro @putP_eq (And.intro @mask_eq (And.intro @nP (And.intro @mj (And.intro @wp_ok (And.intro @bind_ok (And.intro @mg (And.intro @ev_r (And.intro @ev_c (And.intro @o_mv (And.intro @o_bin (And.intro @lu (And.intro @dis_ptr (And.intro @setB_r (And.intro @ml (And.intro @aC_ret (And.intro @aC_skip (And.intro @retQ_ret (And.intro @noL_lit (And.intro @oE (And.intro @oF (And.intro @List.map_cons.{0,0} (@List.map_nil.{0,0})))))))))))))))))))))))))))):=And.intro @kY (And.intro @seqQ_ret (And.intro @opsK_eq (And.intro @runI_nil (And.intro @nI (And.intro @putP_eq (And.intro @mask_eq (And.intro @nP (And.intro @mj (And.intro @wp_ok (And.intro @bind_ok (And.intro @mg (And.intro @ev_r (And.intro @ev_c (And.intro @o_mv (And.intro @o_bin (And.intro @lu (And.intro @dis_ptr (And.intro @setB_r (And.intro @ml (And.intro @aC_ret (And.intro @aC_skip (And.intro @retQ_ret (And.intro @noL_lit (And.intro @oE (And.intro @oF (And.intro @List.map_cons.{0,0} (@List.map_nil.{0,0})))))))))))))))))))))))))))
abbrev vv (d x:Nat):GI:=⟨none,.mv (some d) (.r x)⟩
abbrev vo (d x:Nat):GI:=⟨none,.own d x⟩
abbrev ve (d x k:Nat):GI:=⟨none,.ext (some d) (.r x) k⟩
abbrev vn (d x:Nat):GI:=⟨none,.nilck (some d) (.r x)⟩
abbrev vd (d x k:Nat):GI:=⟨none,.addr (some d) (.r x) k⟩
abbrev vl (d x:Nat):GI:=⟨none,.load (some d) (.r x) none⟩
abbrev vb (d:Nat) (o:BinOp) (x:Nat) (n:Int):GI:=⟨none,.bin (some d) .num o (.r x) (.c (.lit (.int .i64 n)))⟩
section
variable (P:Program) (m:Bool) (sf:Sf) (st:St) (Q:Exit→Sf→St→Prop)
def n_f7:Nat:=7
def x_f7:Cx:=⟨some,id,109,fun s=>([0,1,2,3,8,9,10,12,13,14,17,18,19,20,21,22,23,24,25,26,27,28,29,30,31,32,33,34,35,36,37,38,39,40,41,42,43,45,46,47,48,49,50,51,52,53,54,55,57,58,59,60,61,62,63,64,65,66,67,68,69,70,71,72,73,74,75,76,78,79,80,81,82,83,84,85,86,87,88,89,90,91,92,93,94,95,96,97,98,99,100,101,102,103,104,105,106,107,108]:List Nat).contains s,fun s=>([]:List Nat).contains s,msOf [(2,[0,1,2,3],[]),(6,[0,1,2,3,9,10],[]),(14,[1,2,3,9,10,11,12],[11]),(60,[1,2,3,9,10,11,12,44],[11]),(244,[8],[]),(124,[1,2,3,9,11,56],[11]),(500,[8],[]),(126,[2,3,9,11,13],[11]),(254,[2,3,9,11,13,14],[11]),(1020,[2,3,9,11,14,77],[11]),(4084,[8],[]),(1022,[3,9,11,13,14,15],[11,15]),(2046,[9,13,14,15,16,17],[15,16]),(4094,[8],[])]⟩
def f7_2l:List GI:=[⟨none,.mv (some 8) (.c (.lit (.bool false)))⟩]
def f7_2:AC:=.ops [0,1,2,3] [] f7_2l
theorem f7_2e:OP f7_2 f7_2l [0,1,2,3] []:=rfl
def f7_4l:List GI:=[vv 19 0,
    ⟨none,.call (some 20) false (.f 9) [(.r 19)]⟩,
    vv 18 20,
    ve 21 18 0,
    ve 22 18 1,
    vo 9 21,
    vo 10 22]
def f7_4:AC:=.ops [0,1,2,3,9,10] [] f7_4l
theorem f7_4e:OP f7_4 f7_4l [0,1,2,3,9,10] []:=rfl
def f7_6l:List GI:=[vv 24 0,
    ⟨none,.call (some 25) false (.f 14) [(.r 24)]⟩,
    vv 23 25,
    ve 26 23 0,
    ve 27 23 1,
    ⟨none,.newL 11 [(.lit (.int .i64 0)),(.lit (.slice none 0 0)),(.lit (.slice none 0 0)),(.lit (.slice none 0 0)),(.lit (.bool false))]⟩,
    ⟨none,.store 5 (.r 11) (.r 26)⟩,
    vo 12 27]
def f7_6:AC:=.ops [1,2,3,9,10,11,12] [11] f7_6l
theorem f7_6e:OP f7_6 f7_6l [1,2,3,9,10,11,12] [11]:=rfl
def f7_9l:List GI:=[vv 28 1,
    ⟨none,.len (some 29) .sl (.r 28)⟩,
    vb 30 .gtr 29 30,
    vv 31 30,
    ⟨some (31,false),.mv (some 32) (.r 2)⟩,
    ⟨some (31,false),.len (some 33) .sl (.r 32)⟩,
    ⟨some (31,false),.bin (some 34) .num .gtr (.r 33) (.c (.lit (.int .i64 30)))⟩,
    ⟨none,.pick (some 35) (.r 31) (.c (.lit (.bool true))) (.r 34)⟩,
    vv 36 35,
    ⟨some (36,false),.mv (some 37) (.r 3)⟩,
    ⟨some (36,false),.len (some 38) .sl (.r 37)⟩,
    ⟨some (36,false),.bin (some 39) .num .gtr (.r 38) (.c (.lit (.int .i64 30)))⟩,
    ⟨none,.pick (some 40) (.r 36) (.c (.lit (.bool true))) (.r 39)⟩,
    vv 41 40,
    ⟨some (41,false),.mv (some 42) (.r 12)⟩,
    ⟨some (41,false),.bin (some 43) .num .neq (.r 42) (.c (.lit (.int .i64 0)))⟩,
    ⟨none,.pick (some 44) (.r 41) (.c (.lit (.bool true))) (.r 43)⟩]
def f7_9:AC:=.ops [1,2,3,9,10,11,12,44] [11] f7_9l
theorem f7_9e:OP f7_9 f7_9l [1,2,3,9,10,11,12,44] [11]:=rfl
def f7_12l:List GI:=[vv 45 10,
    vv 46 12,
    ⟨none,.bin (some 47) .num .eql (.r 45) (.r 46)⟩,
    vv 48 47,
    ⟨some (48,true),.call (some 49) false (.f 10) []⟩,
    ⟨none,.pick (some 50) (.r 48) (.r 49) (.c (.lit (.bool false)))⟩,
    vo 8 50]
def f7_12:AC:=.ops [8] [] f7_12l
theorem f7_12e:OP f7_12 f7_12l [8] []:=rfl
def f7_11:AC:=.seq f7_12 .ret
theorem f7_11e:SQ f7_11 f7_12 .ret:=rfl
def f7_10:AC:=.cond (.r 44) f7_11 .skip
theorem f7_10e:CN f7_10 44 f7_11 .skip:=rfl
def f7_8:AC:=.seq f7_9 f7_10
theorem f7_8e:SQ f7_8 f7_9 f7_10:=rfl
def f7_15l:List GI:=[vv 51 10,
    vb 52 .neq 51 0,
    vv 53 52,
    ⟨some (53,false),.mv (some 54) (.r 9)⟩,
    ⟨some (53,false),.bin (some 55) (.nil .ptr) .eql (.r 54) (.c (.lit (.pointer none)))⟩,
    ⟨none,.pick (some 56) (.r 53) (.c (.lit (.bool true))) (.r 55)⟩]
def f7_15:AC:=.ops [1,2,3,9,11,56] [11] f7_15l
theorem f7_15e:OP f7_15 f7_15l [1,2,3,9,11,56] [11]:=rfl
def f7_18l:List GI:=[⟨none,.mv (some 8) (.c (.lit (.bool false)))⟩]
def f7_18:AC:=.ops [8] [] f7_18l
theorem f7_18e:OP f7_18 f7_18l [8] []:=rfl
def f7_17:AC:=.seq f7_18 .ret
theorem f7_17e:SQ f7_17 f7_18 .ret:=rfl
def f7_16:AC:=.cond (.r 56) f7_17 .skip
theorem f7_16e:CN f7_16 56 f7_17 .skip:=rfl
def f7_14:AC:=.seq f7_15 f7_16
theorem f7_14e:SQ f7_14 f7_15 f7_16:=rfl
def f7_20l:List GI:=[vv 58 9,
    ⟨none,.load (some 59) (.r 11) (some 5)⟩,
    vv 60 1,
    ⟨none,.call (some 61) false (.f 16) [(.r 58),(.r 59),(.r 60)]⟩,
    vv 57 61,
    ve 62 57 0,
    ve 63 57 1,
    ⟨none,.store 5 (.r 11) (.r 62)⟩,
    vo 13 63]
def f7_20:AC:=.ops [2,3,9,11,13] [11] f7_20l
theorem f7_20e:OP f7_20 f7_20l [2,3,9,11,13] [11]:=rfl
def f7_22l:List GI:=[vv 64 9,
    ⟨none,.call (some 65) false (.f 22) [(.r 64)]⟩,
    vo 14 65]
def f7_22:AC:=.ops [2,3,9,11,13,14] [11] f7_22l
theorem f7_22e:OP f7_22 f7_22l [2,3,9,11,13,14] [11]:=rfl
def f7_25l:List GI:=[vv 66 13,
    ⟨none,.un (some 67) .not (.r 66)⟩,
    vv 68 67,
    ⟨some (68,false),.mv (some 69) (.r 14)⟩,
    ⟨some (68,false),.bin (some 70) (.nil .ptr) .eql (.r 69) (.c (.lit (.pointer none)))⟩,
    ⟨none,.pick (some 71) (.r 68) (.c (.lit (.bool true))) (.r 70)⟩,
    vv 72 71,
    ⟨some (72,false),.mv (some 73) (.r 14)⟩,
    ⟨some (72,false),.load (some 74) (.r 11) (some 5)⟩,
    ⟨some (72,false),.call (some 75) false (.f 15) [(.r 73),(.r 74)]⟩,
    ⟨some (72,false),.un (some 76) .not (.r 75)⟩,
    ⟨none,.pick (some 77) (.r 72) (.c (.lit (.bool true))) (.r 76)⟩]
def f7_25:AC:=.ops [2,3,9,11,14,77] [11] f7_25l
theorem f7_25e:OP f7_25 f7_25l [2,3,9,11,14,77] [11]:=rfl
def f7_28l:List GI:=[⟨none,.mv (some 8) (.c (.lit (.bool false)))⟩]
def f7_28:AC:=.ops [8] [] f7_28l
theorem f7_28e:OP f7_28 f7_28l [8] []:=rfl
def f7_27:AC:=.seq f7_28 .ret
theorem f7_27e:SQ f7_27 f7_28 .ret:=rfl
def f7_26:AC:=.cond (.r 77) f7_27 .skip
theorem f7_26e:CN f7_26 77 f7_27 .skip:=rfl
def f7_24:AC:=.seq f7_25 f7_26
theorem f7_24e:SQ f7_24 f7_25 f7_26:=rfl
def f7_30l:List GI:=[vv 79 9,
    ⟨none,.load (some 80) (.r 11) (some 5)⟩,
    vv 81 2,
    ⟨none,.call (some 82) false (.f 16) [(.r 79),(.r 80),(.r 81)]⟩,
    vv 78 82,
    ve 83 78 0,
    ve 84 78 1,
    ⟨none,.newL 15 [(.lit (.int .i64 0)),(.lit (.slice none 0 0)),(.lit (.slice none 0 0)),(.lit (.slice none 0 0)),(.lit (.bool false))]⟩,
    ⟨none,.store 5 (.r 15) (.r 83)⟩,
    vo 13 84]
def f7_30:AC:=.ops [3,9,11,13,14,15] [11,15] f7_30l
theorem f7_30e:OP f7_30 f7_30l [3,9,11,13,14,15] [11,15]:=rfl
def f7_32l:List GI:=[vv 86 14,
    ⟨none,.load (some 87) (.r 11) (some 5)⟩,
    vv 88 3,
    ⟨none,.call (some 89) false (.f 16) [(.r 86),(.r 87),(.r 88)]⟩,
    vv 85 89,
    ve 90 85 0,
    ve 91 85 1,
    ⟨none,.newL 16 [(.lit (.int .i64 0)),(.lit (.slice none 0 0)),(.lit (.slice none 0 0)),(.lit (.slice none 0 0)),(.lit (.bool false))]⟩,
    ⟨none,.store 5 (.r 16) (.r 90)⟩,
    vo 17 91]
def f7_32:AC:=.ops [9,13,14,15,16,17] [15,16] f7_32l
theorem f7_32e:OP f7_32 f7_32l [9,13,14,15,16,17] [15,16]:=rfl
def f7_34l:List GI:=[vv 92 13,
    vv 93 92,
    ⟨some (93,true),.mv (some 94) (.r 17)⟩,
    ⟨none,.pick (some 95) (.r 93) (.r 94) (.c (.lit (.bool false)))⟩,
    vv 96 95,
    ⟨some (96,true),.mv (some 97) (.r 9)⟩,
    ⟨some (96,true),.load (some 98) (.r 15) (some 5)⟩,
    ⟨some (96,true),.call (some 99) false (.f 15) [(.r 97),(.r 98)]⟩,
    ⟨none,.pick (some 100) (.r 96) (.r 99) (.c (.lit (.bool false)))⟩,
    vv 101 100,
    ⟨some (101,true),.mv (some 102) (.r 14)⟩,
    ⟨some (101,true),.load (some 103) (.r 16) (some 5)⟩,
    ⟨some (101,true),.call (some 104) false (.f 15) [(.r 102),(.r 103)]⟩,
    ⟨none,.pick (some 105) (.r 101) (.r 104) (.c (.lit (.bool false)))⟩,
    vv 106 105,
    ⟨some (106,true),.call (some 107) false (.f 10) []⟩,
    ⟨none,.pick (some 108) (.r 106) (.r 107) (.c (.lit (.bool false)))⟩,
    vo 8 108]
def f7_34:AC:=.ops [8] [] f7_34l
theorem f7_34e:OP f7_34 f7_34l [8] []:=rfl
def f7_33:AC:=.seq f7_34 .ret
theorem f7_33e:SQ f7_33 f7_34 .ret:=rfl
def f7_31:AC:=.seq f7_32 f7_33
theorem f7_31e:SQ f7_31 f7_32 f7_33:=rfl
def f7_29:AC:=.seq f7_30 f7_31
theorem f7_29e:SQ f7_29 f7_30 f7_31:=rfl
def f7_23:AC:=.seq f7_24 f7_29
theorem f7_23e:SQ f7_23 f7_24 f7_29:=rfl
def f7_21:AC:=.seq f7_22 f7_23
theorem f7_21e:SQ f7_21 f7_22 f7_23:=rfl
def f7_19:AC:=.seq f7_20 f7_21
theorem f7_19e:SQ f7_19 f7_20 f7_21:=rfl
def f7_13:AC:=.seq f7_14 f7_19
theorem f7_13e:SQ f7_13 f7_14 f7_19:=rfl
def f7_7:AC:=.seq f7_8 f7_13
theorem f7_7e:SQ f7_7 f7_8 f7_13:=rfl
def f7_5:AC:=.seq f7_6 f7_7
theorem f7_5e:SQ f7_5 f7_6 f7_7:=rfl
def f7_3:AC:=.seq f7_4 f7_5
theorem f7_3e:SQ f7_3 f7_4 f7_5:=rfl
def f7_1:AC:=.seq f7_2 f7_3
theorem f7_1e:SQ f7_1 f7_2 f7_3:=rfl
def c_f7:AFun:=⟨109,[.tmp 8],f7_1⟩
theorem k_f7:bK Go.Proofs.Try.prog x_f7 7 = some c_f7:=by kernel_rfl
theorem e_f7:aS Go.Proofs.Try.prog 7 = true:=by kernel_rfl

def n_f9:Nat:=9
def x_f9:Cx:=⟨some,id,17,fun s=>([0,2,3,4,5,6,7,8,10,11,12,13,14,15,16]:List Nat).contains s,fun s=>([]:List Nat).contains s,msOf [(2,[0],[]),(12,[0,9],[]),(52,[2,3],[]),(14,[2,3],[])]⟩
def f9_2l:List GI:=[⟨none,.mv (some 2) (.c (.lit (.pointer none)))⟩,
    ⟨none,.mv (some 3) (.c (.lit (.int .i64 0)))⟩]
def f9_2:AC:=.ops [0] [] f9_2l
theorem f9_2e:OP f9_2 f9_2l [0] []:=rfl
def f9_5l:List GI:=[vv 4 0,
    vb 5 .lss 4 0,
    vv 6 5,
    ⟨some (6,false),.mv (some 7) (.r 0)⟩,
    ⟨some (6,false),.bin (some 8) .num .gtr (.r 7) (.c (.lit (.int .i64 4096)))⟩,
    ⟨none,.pick (some 9) (.r 6) (.c (.lit (.bool true))) (.r 8)⟩]
def f9_5:AC:=.ops [0,9] [] f9_5l
theorem f9_5e:OP f9_5 f9_5l [0,9] []:=rfl
def f9_8l:List GI:=[⟨none,.mv (some 2) (.c (.lit (.pointer none)))⟩,
    ⟨none,.mv (some 3) (.c (.lit (.int .i64 2)))⟩]
def f9_8:AC:=.ops [2,3] [] f9_8l
theorem f9_8e:OP f9_8 f9_8l [2,3] []:=rfl
def f9_7:AC:=.seq f9_8 .ret
theorem f9_7e:SQ f9_7 f9_8 .ret:=rfl
def f9_6:AC:=.cond (.r 9) f9_7 .skip
theorem f9_6e:CN f9_6 9 f9_7 .skip:=rfl
def f9_4:AC:=.seq f9_5 f9_6
theorem f9_4e:SQ f9_4 f9_5 f9_6:=rfl
def f9_10l:List GI:=[vv 10 0,
    ⟨none,.call (some 11) false (.f 24) []⟩,
    ⟨none,.call (some 12) false (.f 24) []⟩,
    ⟨none,.bar (some 13) 1 (.agg [(.lit (.pointer none)),(.lit (.pointer none))]) [(0,(.r 11)),(1,(.r 12))]⟩,
    ⟨none,.mkmap 14⟩,
    ⟨none,.bst (some 15) [(0,1),(1,1),(2,1),(3,1),(4,2),(6,1)] (.agg [(.lit (.bool false)),(.lit (.bool false)),(.lit (.int .i64 0)),(.lit (.slice none 0 0)),(.lit (.pointer none)),(.lit (.pointer none)),(.lit (.map none))]) [(0,(.c (.lit (.bool true)))),(2,(.r 10)),(4,(.r 13)),(5,(.r 14))]⟩,
    ⟨none,.boxB 16 7 (.r 15)⟩,
    vo 2 16,
    ⟨none,.mv (some 3) (.c (.lit (.int .i64 0)))⟩]
def f9_10:AC:=.ops [2,3] [] f9_10l
theorem f9_10e:OP f9_10 f9_10l [2,3] []:=rfl
def f9_9:AC:=.seq f9_10 .ret
theorem f9_9e:SQ f9_9 f9_10 .ret:=rfl
def f9_3:AC:=.seq f9_4 f9_9
theorem f9_3e:SQ f9_3 f9_4 f9_9:=rfl
def f9_1:AC:=.seq f9_2 f9_3
theorem f9_1e:SQ f9_1 f9_2 f9_3:=rfl
def c_f9:AFun:=⟨17,[.tmp 2,.tmp 3],f9_1⟩
theorem k_f9:bK Go.Proofs.Try.prog x_f9 9 = some c_f9:=by kernel_rfl
theorem e_f9:aS Go.Proofs.Try.prog 9 = true:=by kernel_rfl

def n_f10:Nat:=10
def x_f10:Cx:=⟨some,id,97,fun s=>([0,1,2,3,4,5,6,7,8,9,10,11,13,14,15,16,17,18,19,20,21,22,23,24,25,26,27,28,29,30,31,32,33,34,35,36,37,39,40,41,42,43,44,45,46,47,48,49,50,51,52,53,54,55,56,57,58,59,60,61,62,63,64,65,66,67,68,69,70,72,73,74,75,76,77,79,80,81,82,83,84,85,86,87,88,89,90,91,92,93,94,95,96]:List Nat).contains s,fun s=>([]:List Nat).contains s,msOf [(2,[],[]),(6,[1,2],[]),(28,[1,12],[]),(116,[0],[]),(60,[1,38],[]),(244,[0],[]),(124,[1,71],[]),(500,[0],[]),(252,[1,78],[]),(1012,[0],[]),(254,[0],[])]⟩
def f10_2l:List GI:=[⟨none,.mv (some 0) (.c (.lit (.bool false)))⟩]
def f10_2:AC:=.ops [] [] f10_2l
theorem f10_2e:OP f10_2 f10_2l [] []:=rfl
def f10_4l:List GI:=[⟨none,.call (some 4) false (.f 9) [(.c (.lit (.int .i64 1)))]⟩,
    vv 3 4,
    ve 5 3 0,
    ve 6 3 1,
    vo 1 5,
    vo 2 6]
def f10_4:AC:=.ops [1,2] [] f10_4l
theorem f10_4e:OP f10_4 f10_4l [1,2] []:=rfl
def f10_7l:List GI:=[vv 7 2,
    vb 8 .neq 7 0,
    vv 9 8,
    ⟨some (9,false),.mv (some 10) (.r 1)⟩,
    ⟨some (9,false),.bin (some 11) (.nil .ptr) .eql (.r 10) (.c (.lit (.pointer none)))⟩,
    ⟨none,.pick (some 12) (.r 9) (.c (.lit (.bool true))) (.r 11)⟩]
def f10_7:AC:=.ops [1,12] [] f10_7l
theorem f10_7e:OP f10_7 f10_7l [1,12] []:=rfl
def f10_10l:List GI:=[⟨none,.mv (some 0) (.c (.lit (.bool false)))⟩]
def f10_10:AC:=.ops [0] [] f10_10l
theorem f10_10e:OP f10_10 f10_10l [0] []:=rfl
def f10_9:AC:=.seq f10_10 .ret
theorem f10_9e:SQ f10_9 f10_10 .ret:=rfl
def f10_8:AC:=.cond (.r 12) f10_9 .skip
theorem f10_8e:CN f10_8 12 f10_9 .skip:=rfl
def f10_6:AC:=.seq f10_7 f10_8
theorem f10_6e:SQ f10_6 f10_7 f10_8:=rfl
def f10_13l:List GI:=[vv 13 1,
    ⟨none,.bst (some 14) [(0,1),(1,1),(2,1)] (.agg [(.lit (.int .i64 0)),(.lit (.int .i64 0)),(.lit (.int .i64 0))]) [(0,(.c (.lit (.int .i64 0)))),(1,(.c (.lit (.int .i64 0)))),(2,(.c (.lit (.int .i64 5))))]⟩,
    ⟨none,.bst (some 15) [(0,1),(1,1),(2,1),(3,1)] (.agg [(.lit (.int .i64 0)),(.lit (.bool false)),(.lit (.slice none 0 0)),(.lit (.int .i64 0))]) [(1,(.c (.lit (.bool true))))]⟩,
    ⟨none,.call (some 16) false (.f 25) [(.r 13),(.r 14),(.r 15)]⟩,
    ⟨none,.un (some 17) .not (.r 16)⟩,
    vv 18 17,
    ⟨some (18,false),.mv (some 19) (.r 1)⟩,
    ⟨some (18,false),.bst (some 20) [(0,1),(1,1),(2,1)] (.agg [(.lit (.int .i64 0)),(.lit (.int .i64 0)),(.lit (.int .i64 0))]) [(0,(.c (.lit (.int .i64 0)))),(1,(.c (.lit (.int .i64 1)))),(2,(.c (.lit (.int .i64 6))))]⟩,
    ⟨some (18,false),.bst (some 21) [(0,1),(1,1),(2,1),(3,1)] (.agg [(.lit (.int .i64 0)),(.lit (.bool false)),(.lit (.slice none 0 0)),(.lit (.int .i64 0))]) []⟩,
    ⟨some (18,false),.call (some 22) false (.f 25) [(.r 19),(.r 20),(.r 21)]⟩,
    ⟨some (18,false),.un (some 23) .not (.r 22)⟩,
    ⟨none,.pick (some 24) (.r 18) (.c (.lit (.bool true))) (.r 23)⟩,
    vv 25 24,
    ⟨some (25,false),.mv (some 26) (.r 1)⟩,
    ⟨some (25,false),.bst (some 27) [(0,1),(1,1),(2,1)] (.agg [(.lit (.int .i64 0)),(.lit (.int .i64 0)),(.lit (.int .i64 0))]) [(0,(.c (.lit (.int .i64 0)))),(1,(.c (.lit (.int .i64 1)))),(2,(.c (.lit (.int .i64 7))))]⟩,
    ⟨some (25,false),.bst (some 28) [(0,1),(1,1),(2,1),(3,1)] (.agg [(.lit (.int .i64 0)),(.lit (.bool false)),(.lit (.slice none 0 0)),(.lit (.int .i64 0))]) [(3,(.c (.lit (.int .i64 11))))]⟩,
    ⟨some (25,false),.call (some 29) false (.f 25) [(.r 26),(.r 27),(.r 28)]⟩,
    ⟨some (25,false),.un (some 30) .not (.r 29)⟩,
    ⟨none,.pick (some 31) (.r 25) (.c (.lit (.bool true))) (.r 30)⟩,
    vv 32 31,
    ⟨some (32,false),.mv (some 33) (.r 1)⟩,
    ⟨some (32,false),.bst (some 34) [(0,1),(1,1),(2,1)] (.agg [(.lit (.int .i64 0)),(.lit (.int .i64 0)),(.lit (.int .i64 0))]) [(0,(.c (.lit (.int .i64 2)))),(1,(.c (.lit (.int .i64 0)))),(2,(.c (.lit (.int .i64 8))))]⟩,
    ⟨some (32,false),.bst (some 35) [(0,1),(1,1),(2,1),(3,1)] (.agg [(.lit (.int .i64 0)),(.lit (.bool false)),(.lit (.slice none 0 0)),(.lit (.int .i64 0))]) [(3,(.c (.lit (.int .i64 16))))]⟩,
    ⟨some (32,false),.call (some 36) false (.f 25) [(.r 33),(.r 34),(.r 35)]⟩,
    ⟨some (32,false),.un (some 37) .not (.r 36)⟩,
    ⟨none,.pick (some 38) (.r 32) (.c (.lit (.bool true))) (.r 37)⟩]
def f10_13:AC:=.ops [1,38] [] f10_13l
theorem f10_13e:OP f10_13 f10_13l [1,38] []:=rfl
def f10_16l:List GI:=[⟨none,.mv (some 0) (.c (.lit (.bool false)))⟩]
def f10_16:AC:=.ops [0] [] f10_16l
theorem f10_16e:OP f10_16 f10_16l [0] []:=rfl
def f10_15:AC:=.seq f10_16 .ret
theorem f10_15e:SQ f10_15 f10_16 .ret:=rfl
def f10_14:AC:=.cond (.r 38) f10_15 .skip
theorem f10_14e:CN f10_14 38 f10_15 .skip:=rfl
def f10_12:AC:=.seq f10_13 f10_14
theorem f10_12e:SQ f10_12 f10_13 f10_14:=rfl
def f10_19l:List GI:=[vv 39 1,
    ⟨none,.bst (some 40) [(0,1),(1,1),(2,1)] (.agg [(.lit (.int .i64 0)),(.lit (.int .i64 0)),(.lit (.int .i64 0))]) [(0,(.c (.lit (.int .i64 1)))),(1,(.c (.lit (.int .i64 2)))),(2,(.c (.lit (.int .i64 0))))]⟩,
    ⟨none,.bst (some 41) [(0,1),(1,1),(2,1),(3,1)] (.agg [(.lit (.int .i64 0)),(.lit (.int .i64 0)),(.lit (.int .i64 0)),(.lit (.int .i64 0))]) [(0,(.c (.lit (.int .i64 1))))]⟩,
    ⟨none,.bsl (some 42) 4 1 (.agg [(.lit (.int .i64 0)),(.lit (.int .i64 0)),(.lit (.int .i64 0)),(.lit (.int .i64 0))]) [(0,(.r 41))]⟩,
    ⟨none,.bst (some 43) [(0,1),(1,1),(2,1),(3,1)] (.agg [(.lit (.int .i64 0)),(.lit (.bool false)),(.lit (.slice none 0 0)),(.lit (.int .i64 0))]) [(0,(.c (.lit (.int .i64 5)))),(1,(.c (.lit (.bool true)))),(2,(.r 42))]⟩,
    ⟨none,.call (some 44) false (.f 25) [(.r 39),(.r 40),(.r 43)]⟩,
    ⟨none,.un (some 45) .not (.r 44)⟩,
    vv 46 45,
    ⟨some (46,false),.mv (some 47) (.r 1)⟩,
    ⟨some (46,false),.call (some 48) false (.f 13) [(.r 47)]⟩,
    ⟨some (46,false),.bin (some 49) .num .neq (.r 48) (.c (.lit (.int .i64 1)))⟩,
    ⟨none,.pick (some 50) (.r 46) (.c (.lit (.bool true))) (.r 49)⟩,
    vv 51 50,
    ⟨some (51,false),.mv (some 52) (.r 1)⟩,
    ⟨some (51,false),.bst (some 53) [(0,1),(1,1),(2,1)] (.agg [(.lit (.int .i64 0)),(.lit (.int .i64 0)),(.lit (.int .i64 0))]) [(0,(.c (.lit (.int .i64 3)))),(1,(.c (.lit (.int .i64 0)))),(2,(.c (.lit (.int .i64 0))))]⟩,
    ⟨some (51,false),.bst (some 54) [(0,1),(1,1),(2,1),(3,1)] (.agg [(.lit (.int .i64 0)),(.lit (.bool false)),(.lit (.slice none 0 0)),(.lit (.int .i64 0))]) [(0,(.c (.lit (.int .i64 6)))),(1,(.c (.lit (.bool true))))]⟩,
    ⟨some (51,false),.call (some 55) false (.f 25) [(.r 52),(.r 53),(.r 54)]⟩,
    ⟨some (51,false),.un (some 56) .not (.r 55)⟩,
    ⟨none,.pick (some 57) (.r 51) (.c (.lit (.bool true))) (.r 56)⟩,
    vv 58 57,
    ⟨some (58,false),.mv (some 59) (.r 1)⟩,
    ⟨some (58,false),.bst (some 60) [(0,1),(1,1),(2,1)] (.agg [(.lit (.int .i64 0)),(.lit (.int .i64 0)),(.lit (.int .i64 0))]) [(0,(.c (.lit (.int .i64 1)))),(1,(.c (.lit (.int .i64 2)))),(2,(.c (.lit (.int .i64 0))))]⟩,
    ⟨some (58,false),.bst (some 61) [(0,1),(1,1),(2,1),(3,1)] (.agg [(.lit (.int .i64 0)),(.lit (.bool false)),(.lit (.slice none 0 0)),(.lit (.int .i64 0))]) []⟩,
    ⟨some (58,false),.call (some 62) false (.f 25) [(.r 59),(.r 60),(.r 61)]⟩,
    ⟨some (58,false),.un (some 63) .not (.r 62)⟩,
    ⟨none,.pick (some 64) (.r 58) (.c (.lit (.bool true))) (.r 63)⟩,
    vv 65 64,
    ⟨some (65,false),.mv (some 66) (.r 1)⟩,
    ⟨some (65,false),.bst (some 67) [(0,1),(1,1),(2,1)] (.agg [(.lit (.int .i64 0)),(.lit (.int .i64 0)),(.lit (.int .i64 0))]) [(0,(.c (.lit (.int .i64 1)))),(1,(.c (.lit (.int .i64 3)))),(2,(.c (.lit (.int .i64 0))))]⟩,
    ⟨some (65,false),.bst (some 68) [(0,1),(1,1),(2,1),(3,1)] (.agg [(.lit (.int .i64 0)),(.lit (.bool false)),(.lit (.slice none 0 0)),(.lit (.int .i64 0))]) []⟩,
    ⟨some (65,false),.call (some 69) false (.f 25) [(.r 66),(.r 67),(.r 68)]⟩,
    ⟨some (65,false),.un (some 70) .not (.r 69)⟩,
    ⟨none,.pick (some 71) (.r 65) (.c (.lit (.bool true))) (.r 70)⟩]
def f10_19:AC:=.ops [1,71] [] f10_19l
theorem f10_19e:OP f10_19 f10_19l [1,71] []:=rfl
def f10_22l:List GI:=[⟨none,.mv (some 0) (.c (.lit (.bool false)))⟩]
def f10_22:AC:=.ops [0] [] f10_22l
theorem f10_22e:OP f10_22 f10_22l [0] []:=rfl
def f10_21:AC:=.seq f10_22 .ret
theorem f10_21e:SQ f10_21 f10_22 .ret:=rfl
def f10_20:AC:=.cond (.r 71) f10_21 .skip
theorem f10_20e:CN f10_20 71 f10_21 .skip:=rfl
def f10_18:AC:=.seq f10_19 f10_20
theorem f10_18e:SQ f10_18 f10_19 f10_20:=rfl
def f10_25l:List GI:=[vv 72 1,
    ⟨none,.bst (some 73) [(0,1),(1,1),(2,1)] (.agg [(.lit (.int .i64 0)),(.lit (.int .i64 0)),(.lit (.int .i64 0))]) [(0,(.c (.lit (.int .i64 0)))),(1,(.c (.lit (.int .i64 0)))),(2,(.c (.lit (.int .i64 9))))]⟩,
    ⟨none,.bst (some 74) [(0,1),(1,1),(2,1),(3,1)] (.agg [(.lit (.int .i64 0)),(.lit (.int .i64 0)),(.lit (.int .i64 0)),(.lit (.int .i64 0))]) [(0,(.c (.lit (.int .i64 2)))),(2,(.c (.lit (.int .i64 9))))]⟩,
    ⟨none,.bsl (some 75) 4 1 (.agg [(.lit (.int .i64 0)),(.lit (.int .i64 0)),(.lit (.int .i64 0)),(.lit (.int .i64 0))]) [(0,(.r 74))]⟩,
    ⟨none,.bst (some 76) [(0,1),(1,1),(2,1),(3,1)] (.agg [(.lit (.int .i64 0)),(.lit (.bool false)),(.lit (.slice none 0 0)),(.lit (.int .i64 0))]) [(1,(.c (.lit (.bool true)))),(2,(.r 75))]⟩,
    ⟨none,.call (some 77) false (.f 25) [(.r 72),(.r 73),(.r 76)]⟩,
    ⟨none,.un (some 78) .not (.r 77)⟩]
def f10_25:AC:=.ops [1,78] [] f10_25l
theorem f10_25e:OP f10_25 f10_25l [1,78] []:=rfl
def f10_28l:List GI:=[⟨none,.mv (some 0) (.c (.lit (.bool false)))⟩]
def f10_28:AC:=.ops [0] [] f10_28l
theorem f10_28e:OP f10_28 f10_28l [0] []:=rfl
def f10_27:AC:=.seq f10_28 .ret
theorem f10_27e:SQ f10_27 f10_28 .ret:=rfl
def f10_26:AC:=.cond (.r 78) f10_27 .skip
theorem f10_26e:CN f10_26 78 f10_27 .skip:=rfl
def f10_24:AC:=.seq f10_25 f10_26
theorem f10_24e:SQ f10_24 f10_25 f10_26:=rfl
def f10_30l:List GI:=[vv 79 1,
    ⟨none,.bst (some 80) [(0,1),(1,1),(2,1)] (.agg [(.lit (.int .i64 0)),(.lit (.int .i64 0)),(.lit (.int .i64 0))]) [(0,(.c (.lit (.int .i64 5)))),(1,(.c (.lit (.int .i64 0)))),(2,(.c (.lit (.int .i64 0))))]⟩,
    ⟨none,.bst (some 81) [(0,1),(1,1),(2,1),(3,1)] (.agg [(.lit (.int .i64 0)),(.lit (.int .i64 0)),(.lit (.int .i64 0)),(.lit (.int .i64 0))]) [(0,(.c (.lit (.int .i64 3)))),(3,(.c (.lit (.int .i64 13))))]⟩,
    ⟨none,.bsl (some 82) 4 1 (.agg [(.lit (.int .i64 0)),(.lit (.int .i64 0)),(.lit (.int .i64 0)),(.lit (.int .i64 0))]) [(0,(.r 81))]⟩,
    ⟨none,.bst (some 83) [(0,1),(1,1),(2,1),(3,1)] (.agg [(.lit (.int .i64 0)),(.lit (.bool false)),(.lit (.slice none 0 0)),(.lit (.int .i64 0))]) [(2,(.r 82))]⟩,
    ⟨none,.call (some 84) false (.f 25) [(.r 79),(.r 80),(.r 83)]⟩,
    vv 85 84,
    ⟨some (85,true),.mv (some 86) (.r 1)⟩,
    ⟨some (85,true),.bst (some 87) [(0,1),(1,1),(2,1)] (.agg [(.lit (.int .i64 0)),(.lit (.int .i64 0)),(.lit (.int .i64 0))]) [(0,(.c (.lit (.int .i64 1)))),(1,(.c (.lit (.int .i64 0)))),(2,(.c (.lit (.int .i64 0))))]⟩,
    ⟨some (85,true),.bst (some 88) [(0,1),(1,1),(2,1),(3,1)] (.agg [(.lit (.int .i64 0)),(.lit (.bool false)),(.lit (.slice none 0 0)),(.lit (.int .i64 0))]) [(3,(.c (.lit (.int .i64 13))))]⟩,
    ⟨some (85,true),.call (some 89) false (.f 25) [(.r 86),(.r 87),(.r 88)]⟩,
    ⟨none,.pick (some 90) (.r 85) (.r 89) (.c (.lit (.bool false)))⟩,
    vv 91 90,
    ⟨some (91,true),.mv (some 92) (.r 1)⟩,
    ⟨some (91,true),.bst (some 93) [(0,1),(1,1),(2,1)] (.agg [(.lit (.int .i64 0)),(.lit (.int .i64 0)),(.lit (.int .i64 0))]) [(0,(.c (.lit (.int .i64 0)))),(1,(.c (.lit (.int .i64 0)))),(2,(.c (.lit (.int .i64 1))))]⟩,
    ⟨some (91,true),.bst (some 94) [(0,1),(1,1),(2,1),(3,1)] (.agg [(.lit (.int .i64 0)),(.lit (.bool false)),(.lit (.slice none 0 0)),(.lit (.int .i64 0))]) [(3,(.c (.lit (.int .i64 14))))]⟩,
    ⟨some (91,true),.call (some 95) false (.f 25) [(.r 92),(.r 93),(.r 94)]⟩,
    ⟨none,.pick (some 96) (.r 91) (.r 95) (.c (.lit (.bool false)))⟩,
    vo 0 96]
def f10_30:AC:=.ops [0] [] f10_30l
theorem f10_30e:OP f10_30 f10_30l [0] []:=rfl
def f10_29:AC:=.seq f10_30 .ret
theorem f10_29e:SQ f10_29 f10_30 .ret:=rfl
def f10_23:AC:=.seq f10_24 f10_29
theorem f10_23e:SQ f10_23 f10_24 f10_29:=rfl
def f10_17:AC:=.seq f10_18 f10_23
theorem f10_17e:SQ f10_17 f10_18 f10_23:=rfl
def f10_11:AC:=.seq f10_12 f10_17
theorem f10_11e:SQ f10_11 f10_12 f10_17:=rfl
def f10_5:AC:=.seq f10_6 f10_11
theorem f10_5e:SQ f10_5 f10_6 f10_11:=rfl
def f10_3:AC:=.seq f10_4 f10_5
theorem f10_3e:SQ f10_3 f10_4 f10_5:=rfl
def f10_1:AC:=.seq f10_2 f10_3
theorem f10_1e:SQ f10_1 f10_2 f10_3:=rfl
def c_f10:AFun:=⟨97,[.tmp 0],f10_1⟩
theorem k_f10:bK Go.Proofs.Try.prog x_f10 10 = some c_f10:=by kernel_rfl
theorem e_f10:aS Go.Proofs.Try.prog 10 = true:=by kernel_rfl

def n_f11:Nat:=11
def x_f11:Cx:=⟨some,id,78,fun s=>([0,1,6,8,9,10,11,12,13,16,17,18,20,22,23,24,25,26,30,31,32,34,35,36,37,38,39,44,45,46,48,49,50,51,53,54,57,58,59,60,61,62,63,66,67,70,71,73,74,75,77]:List Nat).contains s,fun s=>([]:List Nat).contains s,msOf [(2,[0,3,4],[3,4]),(6,[0,3,4,5],[3,4,5]),(14,[0,3,4,5],[3,4,5]),(60,[0,3,4,5,8],[3,4,5]),(244,[0,3,4,5,8,15],[3,4,5]),(490,[4,5,6],[4,5]),(982,[0,3,4,5,8,29],[3,4,5]),(1966,[4,5,6],[4,5]),(3934,[0,3,4,5,8,43],[3,4,5]),(15740,[4,5,6],[4,5]),(15741,[4,5,6],[4,5]),(15742,[0,3,4,5,8,56],[3,4,5]),(62972,[4,5,6],[4,5]),(62973,[4,5,6],[4,5]),(62974,[0,3,4,5,69],[3,4,5]),(125950,[4,5,6],[4,5]),(125951,[4,5,6],[4,5]),(62,[4,5],[4,5]),(126,[4],[4])]⟩
def f11_2l:List GI:=[⟨none,.boxL 3 3 (.r 1)⟩,
    ⟨none,.newL 4 [(.lit (.int .i64 0)),(.lit (.bool false)),(.lit (.slice none 0 0)),(.lit (.int .i64 0))]⟩]
def f11_2:AC:=.ops [0,3,4] [3,4] f11_2l
theorem f11_2e:OP f11_2 f11_2l [0,3,4] [3,4]:=rfl
def f11_4l:List GI:=[⟨none,.newL 5 [(.lit (.int .i64 0)),(.lit (.bool false)),(.lit (.slice none 0 0)),(.lit (.int .i64 0))]⟩]
def f11_4:AC:=.ops [0,3,4,5] [3,4,5] f11_4l
theorem f11_4e:OP f11_4 f11_4l [0,3,4,5] [3,4,5]:=rfl
def f11_6l:List GI:=[⟨none,.mv (some 6) (.c (.lit (.int .i64 0)))⟩]
def f11_6:AC:=.ops [0,3,4,5] [3,4,5] f11_6l
theorem f11_6e:OP f11_6 f11_6l [0,3,4,5] [3,4,5]:=rfl
def f11_9l:List GI:=[vd 7 3 0,
    vl 8 7]
def f11_9:AC:=.ops [0,3,4,5,8] [3,4,5] f11_9l
theorem f11_9e:OP f11_9 f11_9l [0,3,4,5,8] [3,4,5]:=rfl
def f11_12l:List GI:=[vb 16 .eql 8 0,
    vo 15 16]
def f11_12:AC:=.ops [0,3,4,5,8,15] [3,4,5] f11_12l
theorem f11_12e:OP f11_12 f11_12l [0,3,4,5,8,15] [3,4,5]:=rfl
def f11_14l:List GI:=[vv 18 0,
    vd 19 3 1,
    vl 20 19,
    vd 21 3 2,
    vl 22 21,
    ⟨none,.call (some 23) false (.f 26) [(.r 18),(.r 20),(.r 22)]⟩,
    vv 17 23,
    ve 24 17 0,
    ve 25 17 1,
    ve 26 17 2,
    vd 27 5 1,
    ⟨none,.store 1 (.r 27) (.r 24)⟩,
    vd 28 5 2,
    ⟨none,.store 1 (.r 28) (.r 25)⟩,
    vo 6 26]
def f11_14:AC:=.ops [4,5,6] [4,5] f11_14l
theorem f11_14e:OP f11_14 f11_14l [4,5,6] [4,5]:=rfl
def f11_16l:List GI:=[vb 30 .eql 8 1,
    vo 29 30]
def f11_16:AC:=.ops [0,3,4,5,8,29] [3,4,5] f11_16l
theorem f11_16e:OP f11_16 f11_16l [0,3,4,5,8,29] [3,4,5]:=rfl
def f11_18l:List GI:=[vv 32 0,
    vd 33 3 1,
    vl 34 33,
    ⟨none,.call (some 35) false (.f 27) [(.r 32),(.r 34)]⟩,
    vv 31 35,
    ve 36 31 0,
    ve 37 31 1,
    ve 38 31 2,
    ve 39 31 3,
    vd 40 5 0,
    ⟨none,.store 1 (.r 40) (.r 36)⟩,
    vd 41 5 1,
    ⟨none,.store 1 (.r 41) (.r 37)⟩,
    vd 42 5 2,
    ⟨none,.store 1 (.r 42) (.r 38)⟩,
    vo 6 39]
def f11_18:AC:=.ops [4,5,6] [4,5] f11_18l
theorem f11_18e:OP f11_18 f11_18l [4,5,6] [4,5]:=rfl
def f11_20l:List GI:=[vb 44 .eql 8 2,
    vo 43 44]
def f11_20:AC:=.ops [0,3,4,5,8,43] [3,4,5] f11_20l
theorem f11_20e:OP f11_20 f11_20l [0,3,4,5,8,43] [3,4,5]:=rfl
def f11_23l:List GI:=[vv 46 0,
    vd 47 3 2,
    vl 48 47,
    ⟨none,.call (some 49) false (.f 21) [(.r 46),(.r 48)]⟩,
    vv 45 49,
    ve 50 45 0,
    ve 51 45 1,
    vd 52 5 2,
    ⟨none,.store 1 (.r 52) (.r 50)⟩,
    vo 6 51]
def f11_23:AC:=.ops [4,5,6] [4,5] f11_23l
theorem f11_23e:OP f11_23 f11_23l [4,5,6] [4,5]:=rfl
def f11_24l:List GI:=[vv 53 6,
    vb 54 .eql 53 0,
    vd 55 5 1,
    ⟨none,.store 1 (.r 55) (.r 54)⟩]
def f11_24:AC:=.ops [4,5,6] [4,5] f11_24l
theorem f11_24e:OP f11_24 f11_24l [4,5,6] [4,5]:=rfl
def f11_22:AC:=.seq f11_23 f11_24
theorem f11_22e:SQ f11_22 f11_23 f11_24:=rfl
def f11_26l:List GI:=[vb 57 .eql 8 3,
    vo 56 57]
def f11_26:AC:=.ops [0,3,4,5,8,56] [3,4,5] f11_26l
theorem f11_26e:OP f11_26 f11_26l [0,3,4,5,8,56] [3,4,5]:=rfl
def f11_29l:List GI:=[vv 59 0,
    ⟨none,.call (some 60) false (.f 20) [(.r 59)]⟩,
    vv 58 60,
    ve 61 58 0,
    ve 62 58 1,
    ve 63 58 2,
    vd 64 5 0,
    ⟨none,.store 1 (.r 64) (.r 61)⟩,
    vd 65 5 2,
    ⟨none,.store 1 (.r 65) (.r 62)⟩,
    vo 6 63]
def f11_29:AC:=.ops [4,5,6] [4,5] f11_29l
theorem f11_29e:OP f11_29 f11_29l [4,5,6] [4,5]:=rfl
def f11_30l:List GI:=[vv 66 6,
    vb 67 .eql 66 0,
    vd 68 5 1,
    ⟨none,.store 1 (.r 68) (.r 67)⟩]
def f11_30:AC:=.ops [4,5,6] [4,5] f11_30l
theorem f11_30e:OP f11_30 f11_30l [4,5,6] [4,5]:=rfl
def f11_28:AC:=.seq f11_29 f11_30
theorem f11_28e:SQ f11_28 f11_29 f11_30:=rfl
def f11_32l:List GI:=[vb 70 .eql 8 4,
    vo 69 70]
def f11_32:AC:=.ops [0,3,4,5,69] [3,4,5] f11_32l
theorem f11_32e:OP f11_32 f11_32l [0,3,4,5,69] [3,4,5]:=rfl
def f11_34l:List GI:=[vv 71 0,
    vd 72 3 1,
    vl 73 72,
    ⟨none,.call (some 74) false (.f 28) [(.r 71),(.r 73)]⟩,
    vo 6 74]
def f11_34:AC:=.ops [4,5,6] [4,5] f11_34l
theorem f11_34e:OP f11_34 f11_34l [4,5,6] [4,5]:=rfl
def f11_35l:List GI:=[vv 10 0,
    ⟨none,.call (some 11) false (.f 19) [(.r 10)]⟩,
    vv 9 11,
    ve 12 9 0,
    ve 13 9 1,
    vd 14 5 2,
    ⟨none,.store 1 (.r 14) (.r 12)⟩,
    vo 6 13]
def f11_35:AC:=.ops [4,5,6] [4,5] f11_35l
theorem f11_35e:OP f11_35 f11_35l [4,5,6] [4,5]:=rfl
def f11_33:AC:=.cond (.r 69) f11_34 f11_35
theorem f11_33e:CN f11_33 69 f11_34 f11_35:=rfl
def f11_31:AC:=.seq f11_32 f11_33
theorem f11_31e:SQ f11_31 f11_32 f11_33:=rfl
def f11_27:AC:=.cond (.r 56) f11_28 f11_31
theorem f11_27e:CN f11_27 56 f11_28 f11_31:=rfl
def f11_25:AC:=.seq f11_26 f11_27
theorem f11_25e:SQ f11_25 f11_26 f11_27:=rfl
def f11_21:AC:=.cond (.r 43) f11_22 f11_25
theorem f11_21e:CN f11_21 43 f11_22 f11_25:=rfl
def f11_19:AC:=.seq f11_20 f11_21
theorem f11_19e:SQ f11_19 f11_20 f11_21:=rfl
def f11_17:AC:=.cond (.r 29) f11_18 f11_19
theorem f11_17e:CN f11_17 29 f11_18 f11_19:=rfl
def f11_15:AC:=.seq f11_16 f11_17
theorem f11_15e:SQ f11_15 f11_16 f11_17:=rfl
def f11_13:AC:=.cond (.r 15) f11_14 f11_15
theorem f11_13e:CN f11_13 15 f11_14 f11_15:=rfl
def f11_11:AC:=.seq f11_12 f11_13
theorem f11_11e:SQ f11_11 f11_12 f11_13:=rfl
def f11_10:AC:=.block 0 f11_11
theorem f11_10e:BL f11_10 f11_11 0:=rfl
def f11_8:AC:=.seq f11_9 f11_10
theorem f11_8e:SQ f11_8 f11_9 f11_10:=rfl
def f11_37l:List GI:=[vv 75 6,
    vd 76 5 3,
    ⟨none,.store 1 (.r 76) (.r 75)⟩]
def f11_37:AC:=.ops [4,5] [4,5] f11_37l
theorem f11_37e:OP f11_37 f11_37l [4,5] [4,5]:=rfl
def f11_39l:List GI:=[⟨none,.load (some 77) (.r 5) (some 4)⟩,
    ⟨none,.store 4 (.r 4) (.r 77)⟩]
def f11_39:AC:=.ops [4] [4] f11_39l
theorem f11_39e:OP f11_39 f11_39l [4] [4]:=rfl
def f11_38:AC:=.seq f11_39 .ret
theorem f11_38e:SQ f11_38 f11_39 .ret:=rfl
def f11_36:AC:=.seq f11_37 f11_38
theorem f11_36e:SQ f11_36 f11_37 f11_38:=rfl
def f11_7:AC:=.seq f11_8 f11_36
theorem f11_7e:SQ f11_7 f11_8 f11_36:=rfl
def f11_5:AC:=.seq f11_6 f11_7
theorem f11_5e:SQ f11_5 f11_6 f11_7:=rfl
def f11_3:AC:=.seq f11_4 f11_5
theorem f11_3e:SQ f11_3 f11_4 f11_5:=rfl
def f11_1:AC:=.seq f11_2 f11_3
theorem f11_1e:SQ f11_1 f11_2 f11_3:=rfl
def c_f11:AFun:=⟨78,[.cell 4 (some 4)],f11_1⟩
theorem k_f11:bK Go.Proofs.Try.prog x_f11 11 = some c_f11:=by kernel_rfl
theorem e_f11:aS Go.Proofs.Try.prog 11 = true:=by kernel_rfl

def n_f12:Nat:=12
def x_f12:Cx:=⟨some,id,18,fun s=>([0,2,3,4,10,11,16,17]:List Nat).contains s,fun s=>([]:List Nat).contains s,msOf [(2,[0],[]),(12,[0,5],[]),(52,[2,3],[]),(14,[2,3],[])]⟩
def f12_2l:List GI:=[⟨none,.mv (some 2) (.c (.lit (.int .i64 0)))⟩,
    ⟨none,.mv (some 3) (.c (.lit (.int .i64 0)))⟩]
def f12_2:AC:=.ops [0] [] f12_2l
theorem f12_2e:OP f12_2 f12_2l [0] []:=rfl
def f12_5l:List GI:=[vv 4 0,
    ⟨none,.call (some 5) false (.f 29) [(.r 4)]⟩]
def f12_5:AC:=.ops [0,5] [] f12_5l
theorem f12_5e:OP f12_5 f12_5l [0,5] []:=rfl
def f12_8l:List GI:=[⟨none,.mv (some 2) (.c (.lit (.int .i64 0)))⟩,
    ⟨none,.mv (some 3) (.c (.lit (.int .i64 0)))⟩]
def f12_8:AC:=.ops [2,3] [] f12_8l
theorem f12_8e:OP f12_8 f12_8l [2,3] []:=rfl
def f12_7:AC:=.seq f12_8 .ret
theorem f12_7e:SQ f12_7 f12_8 .ret:=rfl
def f12_6:AC:=.cond (.r 5) f12_7 .skip
theorem f12_6e:CN f12_6 5 f12_7 .skip:=rfl
def f12_4:AC:=.seq f12_5 f12_6
theorem f12_4e:SQ f12_4 f12_5 f12_6:=rfl
def f12_10h:List GI:=[vv 6 0,
    vn 7 6,
    vd 8 7 4,
    ⟨none,.ixA (some 9) (.r 8) (.c (.lit (.int .i64 0))) 2 1⟩,
    vl 10 9,
    ⟨none,.call (some 11) true (.f 30) [(.r 10)]⟩,
    vv 12 0,
    vn 13 12,
    vd 14 13 4,
    ⟨none,.ixA (some 15) (.r 14) (.c (.lit (.int .i64 1))) 2 1⟩,
    vl 16 15]
def f12_10l:List GI:=[⟨none,.call (some 17) false (.f 30) [(.r 16)]⟩,
    vo 2 11,
    vo 3 17]
def f12_10:AC:=.draw [2,3] [] [] f12_10h f12_10l
theorem f12_10e:aC P id m f12_10 sf st Q = aY P id sf.locs st f12_10h (cv P id m [] [2,3] [] f12_10l Q st) [] ⟨sf.regs,bk [] sf.locs⟩:=rfl
def f12_9:AC:=.seq f12_10 .ret
theorem f12_9e:SQ f12_9 f12_10 .ret:=rfl
def f12_3:AC:=.seq f12_4 f12_9
theorem f12_3e:SQ f12_3 f12_4 f12_9:=rfl
def f12_1:AC:=.seq f12_2 f12_3
theorem f12_1e:SQ f12_1 f12_2 f12_3:=rfl
def c_f12:AFun:=⟨18,[.tmp 2,.tmp 3],f12_1⟩
theorem k_f12:bK Go.Proofs.Try.prog x_f12 12 = some c_f12:=by kernel_rfl
theorem e_f12:aS Go.Proofs.Try.prog 12 = true:=by kernel_rfl

def n_f13:Nat:=13
def x_f13:Cx:=⟨some,id,10,fun s=>([0,2,3,8,9]:List Nat).contains s,fun s=>([]:List Nat).contains s,msOf [(2,[0],[]),(12,[0,4],[]),(52,[2],[]),(14,[2],[])]⟩
def f13_2l:List GI:=[⟨none,.mv (some 2) (.c (.lit (.int .i64 0)))⟩]
def f13_2:AC:=.ops [0] [] f13_2l
theorem f13_2e:OP f13_2 f13_2l [0] []:=rfl
def f13_5l:List GI:=[vv 3 0,
    ⟨none,.call (some 4) false (.f 29) [(.r 3)]⟩]
def f13_5:AC:=.ops [0,4] [] f13_5l
theorem f13_5e:OP f13_5 f13_5l [0,4] []:=rfl
def f13_8l:List GI:=[⟨none,.mv (some 2) (.c (.lit (.int .i64 0)))⟩]
def f13_8:AC:=.ops [2] [] f13_8l
theorem f13_8e:OP f13_8 f13_8l [2] []:=rfl
def f13_7:AC:=.seq f13_8 .ret
theorem f13_7e:SQ f13_7 f13_8 .ret:=rfl
def f13_6:AC:=.cond (.r 4) f13_7 .skip
theorem f13_6e:CN f13_6 4 f13_7 .skip:=rfl
def f13_4:AC:=.seq f13_5 f13_6
theorem f13_4e:SQ f13_4 f13_5 f13_6:=rfl
def f13_10l:List GI:=[vv 5 0,
    vn 6 5,
    vd 7 6 3,
    vl 8 7,
    ⟨none,.len (some 9) .sl (.r 8)⟩,
    vo 2 9]
def f13_10:AC:=.ops [2] [] f13_10l
theorem f13_10e:OP f13_10 f13_10l [2] []:=rfl
def f13_9:AC:=.seq f13_10 .ret
theorem f13_9e:SQ f13_9 f13_10 .ret:=rfl
def f13_3:AC:=.seq f13_4 f13_9
theorem f13_3e:SQ f13_3 f13_4 f13_9:=rfl
def f13_1:AC:=.seq f13_2 f13_3
theorem f13_1e:SQ f13_1 f13_2 f13_3:=rfl
def c_f13:AFun:=⟨10,[.tmp 2],f13_1⟩
theorem k_f13:bK Go.Proofs.Try.prog x_f13 13 = some c_f13:=by kernel_rfl
theorem e_f13:aS Go.Proofs.Try.prog 13 = true:=by kernel_rfl

def n_f14:Nat:=14
def x_f14:Cx:=⟨some,id,13,fun s=>([0,3,4,5,6,7,8,10,11,12]:List Nat).contains s,fun s=>([]:List Nat).contains s,msOf [(2,[0,2],[2]),(12,[0,2,9],[2]),(52,[2,3],[2]),(14,[2,3],[2])]⟩
def f14_2l:List GI:=[⟨none,.newL 2 [(.lit (.int .i64 0)),(.lit (.slice none 0 0)),(.lit (.slice none 0 0)),(.lit (.slice none 0 0)),(.lit (.bool false))]⟩,
    ⟨none,.mv (some 3) (.c (.lit (.int .i64 0)))⟩]
def f14_2:AC:=.ops [0,2] [2] f14_2l
theorem f14_2e:OP f14_2 f14_2l [0,2] [2]:=rfl
def f14_5l:List GI:=[vv 4 0,
    vb 5 .lss 4 0,
    vv 6 5,
    ⟨some (6,false),.mv (some 7) (.r 0)⟩,
    ⟨some (6,false),.bin (some 8) .num .gtr (.r 7) (.c (.lit (.int .i64 4096)))⟩,
    ⟨none,.pick (some 9) (.r 6) (.c (.lit (.bool true))) (.r 8)⟩]
def f14_5:AC:=.ops [0,2,9] [2] f14_5l
theorem f14_5e:OP f14_5 f14_5l [0,2,9] [2]:=rfl
def f14_8l:List GI:=[⟨none,.bst (some 10) [(0,1),(1,1),(2,1),(3,1),(4,1)] (.agg [(.lit (.int .i64 0)),(.lit (.slice none 0 0)),(.lit (.slice none 0 0)),(.lit (.slice none 0 0)),(.lit (.bool false))]) []⟩,
    ⟨none,.store 5 (.r 2) (.r 10)⟩,
    ⟨none,.mv (some 3) (.c (.lit (.int .i64 2)))⟩]
def f14_8:AC:=.ops [2,3] [2] f14_8l
theorem f14_8e:OP f14_8 f14_8l [2,3] [2]:=rfl
def f14_7:AC:=.seq f14_8 .ret
theorem f14_7e:SQ f14_7 f14_8 .ret:=rfl
def f14_6:AC:=.cond (.r 9) f14_7 .skip
theorem f14_6e:CN f14_6 9 f14_7 .skip:=rfl
def f14_4:AC:=.seq f14_5 f14_6
theorem f14_4e:SQ f14_4 f14_5 f14_6:=rfl
def f14_10l:List GI:=[vv 11 0,
    ⟨none,.bst (some 12) [(0,1),(1,1),(2,1),(3,1),(4,1)] (.agg [(.lit (.int .i64 0)),(.lit (.slice none 0 0)),(.lit (.slice none 0 0)),(.lit (.slice none 0 0)),(.lit (.bool false))]) [(0,(.r 11))]⟩,
    ⟨none,.store 5 (.r 2) (.r 12)⟩,
    ⟨none,.mv (some 3) (.c (.lit (.int .i64 0)))⟩]
def f14_10:AC:=.ops [2,3] [2] f14_10l
theorem f14_10e:OP f14_10 f14_10l [2,3] [2]:=rfl
def f14_9:AC:=.seq f14_10 .ret
theorem f14_9e:SQ f14_9 f14_10 .ret:=rfl
def f14_3:AC:=.seq f14_4 f14_9
theorem f14_3e:SQ f14_3 f14_4 f14_9:=rfl
def f14_1:AC:=.seq f14_2 f14_3
theorem f14_1e:SQ f14_1 f14_2 f14_3:=rfl
def c_f14:AFun:=⟨13,[.cell 2 (some 5),.tmp 3],f14_1⟩
theorem k_f14:bK Go.Proofs.Try.prog x_f14 14 = some c_f14:=by kernel_rfl
theorem e_f14:aS Go.Proofs.Try.prog 14 = true:=by kernel_rfl

def n_f15:Nat:=15
def x_f15:Cx:=⟨some,id,46,fun s=>([0,1,4,5,6,7,8,9,10,11,12,13,15,16,17,18,19,20,22,23,24,25,26,28,29,30,31,32,33,35,36,37,38,39,40,41,43,44,45]:List Nat).contains s,fun s=>([]:List Nat).contains s,msOf [(2,[0,3],[3]),(6,[0,3,5,6],[3]),(14,[4],[])]⟩
def f15_2l:List GI:=[⟨none,.boxL 3 5 (.r 1)⟩,
    ⟨none,.mv (some 4) (.c (.lit (.bool false)))⟩]
def f15_2:AC:=.ops [0,3] [3] f15_2l
theorem f15_2e:OP f15_2 f15_2l [0,3] [3]:=rfl
def f15_4l:List GI:=[vv 8 0,
    ⟨none,.call (some 9) false (.f 12) [(.r 8)]⟩,
    vv 7 9,
    ve 10 7 0,
    ve 11 7 1,
    vo 5 10,
    vo 6 11]
def f15_4:AC:=.ops [0,3,5,6] [3] f15_4l
theorem f15_4e:OP f15_4 f15_4l [0,3,5,6] [3]:=rfl
def f15_6h:List GI:=[vv 12 0,
    ⟨none,.call (some 13) true (.f 13) [(.r 12)]⟩,
    vd 14 3 1,
    vl 15 14,
    ⟨none,.len (some 16) .sl (.r 15)⟩,
    ⟨none,.bin (some 17) .num .eql (.r 13) (.r 16)⟩,
    vv 18 17,
    ⟨some (18,true),.mv (some 19) (.r 0)⟩,
    ⟨some (18,true),.call (some 20) true (.f 17) [(.r 19)]⟩,
    ⟨some (18,true),.addr (some 21) (.r 3) 0⟩,
    ⟨some (18,true),.load (some 22) (.r 21) none⟩,
    ⟨some (18,true),.bin (some 23) .num .eql (.r 20) (.r 22)⟩,
    ⟨none,.pick (some 24) (.r 18) (.r 23) (.c (.lit (.bool false)))⟩,
    vv 25 24,
    ⟨some (25,true),.mv (some 26) (.r 5)⟩,
    ⟨some (25,true),.addr (some 27) (.r 3) 2⟩,
    ⟨some (25,true),.load (some 28) (.r 27) none⟩,
    ⟨some (25,true),.len (some 29) .sl (.r 28)⟩,
    ⟨some (25,true),.bin (some 30) .num .eql (.r 26) (.r 29)⟩,
    ⟨none,.pick (some 31) (.r 25) (.r 30) (.c (.lit (.bool false)))⟩,
    vv 32 31,
    ⟨some (32,true),.mv (some 33) (.r 6)⟩,
    ⟨some (32,true),.addr (some 34) (.r 3) 3⟩,
    ⟨some (32,true),.load (some 35) (.r 34) none⟩,
    ⟨some (32,true),.len (some 36) .sl (.r 35)⟩,
    ⟨some (32,true),.bin (some 37) .num .eql (.r 33) (.r 36)⟩,
    ⟨none,.pick (some 38) (.r 32) (.r 37) (.c (.lit (.bool false)))⟩,
    vv 39 38,
    ⟨some (39,true),.mv (some 40) (.r 0)⟩,
    ⟨some (39,true),.call (some 41) true (.f 18) [(.r 40)]⟩,
    ⟨some (39,true),.addr (some 42) (.r 3) 4⟩,
    ⟨some (39,true),.load (some 43) (.r 42) none⟩]
def f15_6l:List GI:=[⟨some (39,true),.bin (some 44) .bool .eql (.r 41) (.r 43)⟩,
    ⟨none,.pick (some 45) (.r 39) (.r 44) (.c (.lit (.bool false)))⟩,
    vo 4 45]
def f15_6:AC:=.draw [4] [] [] f15_6h f15_6l
theorem f15_6e:aC P id m f15_6 sf st Q = aY P id sf.locs st f15_6h (cv P id m [] [4] [] f15_6l Q st) [] ⟨sf.regs,bk [] sf.locs⟩:=rfl
def f15_5:AC:=.seq f15_6 .ret
theorem f15_5e:SQ f15_5 f15_6 .ret:=rfl
def f15_3:AC:=.seq f15_4 f15_5
theorem f15_3e:SQ f15_3 f15_4 f15_5:=rfl
def f15_1:AC:=.seq f15_2 f15_3
theorem f15_1e:SQ f15_1 f15_2 f15_3:=rfl
def c_f15:AFun:=⟨46,[.tmp 4],f15_1⟩
theorem k_f15:bK Go.Proofs.Try.prog x_f15 15 = some c_f15:=by kernel_rfl
theorem e_f15:aS Go.Proofs.Try.prog 15 = true:=by kernel_rfl

def n_f16:Nat:=16
def x_f16:Cx:=⟨some,id,44,fun s=>([0,1,2,7,8,11,12,13,15,16,17,18,20,22,23,24,25,26,28,30,31,32,33,34,35,36,37,38,39,41,42,43]:List Nat).contains s,fun s=>([31]:List Nat).contains s,msOf [(2,[0,2,4,6],[4,6]),(12,[0,2,4,6,8],[4,6]),(26,[0,2,4,6,8],[4,6]),(208,[0,2,4,6,8,14],[4,6]),(419,[4,6],[4,6]),(840,[0,2,4,6,8,9,10],[4,6,9,10]),(3364,[0,2,4,6,8,9,40],[4,6,9]),(13460,[6,7],[6]),(1683,[0,2,4,6,8],[4,6]),(211,[0,2,4,6,8],[4,6]),(14,[6,7],[6])]⟩
def f16_2l:List GI:=[⟨none,.boxL 4 5 (.r 1)⟩,
    ⟨none,.newL 6 [(.lit (.int .i64 0)),(.lit (.slice none 0 0)),(.lit (.slice none 0 0)),(.lit (.slice none 0 0)),(.lit (.bool false))]⟩,
    ⟨none,.mv (some 7) (.c (.lit (.bool false)))⟩]
def f16_2:AC:=.ops [0,2,4,6] [4,6] f16_2l
theorem f16_2e:OP f16_2 f16_2l [0,2,4,6] [4,6]:=rfl
def f16_5l:List GI:=[⟨none,.mv (some 8) (.c (.lit (.int .i64 0)))⟩]
def f16_5:AC:=.ops [0,2,4,6,8] [4,6] f16_5l
theorem f16_5e:OP f16_5 f16_5l [0,2,4,6,8] [4,6]:=rfl
def f16_10l:List GI:=[vv 11 8,
    vv 12 2,
    ⟨none,.len (some 13) .sl (.r 12)⟩,
    ⟨none,.bin (some 14) .num .lss (.r 11) (.r 13)⟩]
def f16_10:AC:=.ops [0,2,4,6,8,14] [4,6] f16_10l
theorem f16_10e:OP f16_10 f16_10l [0,2,4,6,8,14] [4,6]:=rfl
def f16_11:AC:=.cond (.r 14) .skip (.exit [4,6] [4,6] 0)
theorem f16_11e:CN f16_11 14 .skip (.exit [4,6] [4,6] 0):=rfl
def f16_9:AC:=.seq f16_10 f16_11
theorem f16_9e:SQ f16_9 f16_10 f16_11:=rfl
def f16_15h:List GI:=[⟨none,.load (some 18) (.r 4) (some 5)⟩,
    vv 19 2,
    vv 20 8,
    ⟨none,.ixS (some 21) (.r 19) (.r 20) 3⟩,
    ⟨none,.load (some 22) (.r 21) (some 3)⟩,
    ⟨none,.call (some 23) true (.f 31) [(.r 18),(.r 22)]⟩,
    vv 17 23,
    ve 24 17 0,
    ve 25 17 1,
    ⟨none,.newL 9 [(.lit (.int .i64 0)),(.lit (.slice none 0 0)),(.lit (.slice none 0 0)),(.lit (.slice none 0 0)),(.lit (.bool false))]⟩,
    ⟨none,.newL 10 [(.lit (.int .i64 0)),(.lit (.bool false)),(.lit (.slice none 0 0)),(.lit (.int .i64 0))]⟩,
    ⟨none,.store 5 (.r 9) (.r 24)⟩]
def f16_15l:List GI:=[⟨none,.store 4 (.r 10) (.r 25)⟩]
def f16_15:AC:=.draw [0,2,4,6,8,9,10] [4,6,9,10] [9,10,9] f16_15h f16_15l
theorem f16_15e:aC P id m f16_15 sf st Q = aY P id sf.locs st f16_15h (cv P id m [9,10,9] [0,2,4,6,8,9,10] [4,6,9,10] f16_15l Q st) [] ⟨sf.regs,bk [9,10,9] sf.locs⟩:=rfl
def f16_18h:List GI:=[vv 26 0,
    vv 27 2,
    vv 28 8,
    ⟨none,.ixS (some 29) (.r 27) (.r 28) 3⟩,
    ⟨none,.load (some 30) (.r 29) (some 3)⟩]
def f16_18p:List (Bool×GI):=[(false,⟨none,.load (some 32) (.r 10) (some 4)⟩),
    (true,⟨none,.call (some 33) true (.f 23) [(.r 31),(.r 32)]⟩),
    (true,⟨none,.un (some 34) .not (.r 33)⟩),
    (true,vv 35 34),
    (true,⟨some (35,false),.mv (some 36) (.r 0)⟩),
    (true,⟨some (35,false),.load (some 37) (.r 9) (some 5)⟩)]
def f16_18l:List GI:=[⟨some (35,false),.call (some 38) false (.f 15) [(.r 36),(.r 37)]⟩,
    ⟨some (35,false),.un (some 39) .not (.r 38)⟩,
    ⟨none,.pick (some 40) (.r 35) (.c (.lit (.bool true))) (.r 39)⟩]
def f16_18:AC:=.drawM [0,2,4,6,8,9,40] [4,6,9] f16_18h (some 31) (.f 11) [(.r 26),(.r 30)] f16_18p f16_18l
theorem f16_18e:aC P id m f16_18 sf st Q = (m = false∧drawM P id f16_18h (some 31) (.f 11) [(.r 26),(.r 30)] f16_18p sf st (jI P id m [0,2,4,6,8,9,40] [4,6,9] f16_18l Q)):=rfl
def f16_21l:List GI:=[⟨none,.load (some 41) (.r 4) (some 5)⟩,
    ⟨none,.store 5 (.r 6) (.r 41)⟩,
    ⟨none,.mv (some 7) (.c (.lit (.bool false)))⟩]
def f16_21:AC:=.ops [6,7] [6] f16_21l
theorem f16_21e:OP f16_21 f16_21l [6,7] [6]:=rfl
def f16_20:AC:=.seq f16_21 .ret
theorem f16_20e:SQ f16_20 f16_21 .ret:=rfl
def f16_19:AC:=.cond (.r 40) f16_20 .skip
theorem f16_19e:CN f16_19 40 f16_20 .skip:=rfl
def f16_17:AC:=.seq f16_18 f16_19
theorem f16_17e:SQ f16_17 f16_18 f16_19:=rfl
def f16_22l:List GI:=[⟨none,.load (some 42) (.r 9) (some 5)⟩,
    ⟨none,.store 5 (.r 4) (.r 42)⟩]
def f16_22:AC:=.ops [0,2,4,6,8] [4,6] f16_22l
theorem f16_22e:OP f16_22 f16_22l [0,2,4,6,8] [4,6]:=rfl
def f16_16:AC:=.seq f16_17 f16_22
theorem f16_16e:SQ f16_16 f16_17 f16_22:=rfl
def f16_14:AC:=.seq f16_15 f16_16
theorem f16_14e:SQ f16_14 f16_15 f16_16:=rfl
def f16_13:AC:=.block 1 f16_14
theorem f16_13e:BL f16_13 f16_14 1:=rfl
def f16_23l:List GI:=[vv 15 8,
    vb 16 .add 15 1,
    vo 8 16]
def f16_23:AC:=.ops [0,2,4,6,8] [4,6] f16_23l
theorem f16_23e:OP f16_23 f16_23l [0,2,4,6,8] [4,6]:=rfl
def f16_12:AC:=.seq f16_13 f16_23
theorem f16_12e:SQ f16_12 f16_13 f16_23:=rfl
def f16_8:AC:=.seq f16_9 f16_12
theorem f16_8e:SQ f16_8 f16_9 f16_12:=rfl
def f16_7:AC:=.loop [0,2,4,6,8] [4,6] f16_8
theorem f16_7w:aC P id m f16_7 sf st Q = cF (aC P id m f16_8) [0,2,4,6,8] [4,6] sf st Q:=rfl
def f16_6:AC:=.block 0 f16_7
theorem f16_6e:BL f16_6 f16_7 0:=rfl
def f16_4:AC:=.seq f16_5 f16_6
theorem f16_4e:SQ f16_4 f16_5 f16_6:=rfl
def f16_25l:List GI:=[⟨none,.load (some 43) (.r 4) (some 5)⟩,
    ⟨none,.store 5 (.r 6) (.r 43)⟩,
    ⟨none,.mv (some 7) (.c (.lit (.bool true)))⟩]
def f16_25:AC:=.ops [6,7] [6] f16_25l
theorem f16_25e:OP f16_25 f16_25l [6,7] [6]:=rfl
def f16_24:AC:=.seq f16_25 .ret
theorem f16_24e:SQ f16_24 f16_25 .ret:=rfl
def f16_3:AC:=.seq f16_4 f16_24
theorem f16_3e:SQ f16_3 f16_4 f16_24:=rfl
def f16_1:AC:=.seq f16_2 f16_3
theorem f16_1e:SQ f16_1 f16_2 f16_3:=rfl
def c_f16:AFun:=⟨44,[.cell 6 (some 5),.tmp 7],f16_1⟩
theorem k_f16:bK Go.Proofs.Try.prog x_f16 16 = some c_f16:=by kernel_rfl
theorem e_f16:aS Go.Proofs.Try.prog 16 = true:=by kernel_rfl

def n_f17:Nat:=17
def x_f17:Cx:=⟨some,id,9,fun s=>([0,2,3,8]:List Nat).contains s,fun s=>([]:List Nat).contains s,msOf [(2,[0],[]),(12,[0,4],[]),(52,[2],[]),(14,[2],[])]⟩
def f17_2l:List GI:=[⟨none,.mv (some 2) (.c (.lit (.int .i64 0)))⟩]
def f17_2:AC:=.ops [0] [] f17_2l
theorem f17_2e:OP f17_2 f17_2l [0] []:=rfl
def f17_5l:List GI:=[vv 3 0,
    ⟨none,.call (some 4) false (.f 29) [(.r 3)]⟩]
def f17_5:AC:=.ops [0,4] [] f17_5l
theorem f17_5e:OP f17_5 f17_5l [0,4] []:=rfl
def f17_8l:List GI:=[⟨none,.mv (some 2) (.c (.lit (.int .i64 0)))⟩]
def f17_8:AC:=.ops [2] [] f17_8l
theorem f17_8e:OP f17_8 f17_8l [2] []:=rfl
def f17_7:AC:=.seq f17_8 .ret
theorem f17_7e:SQ f17_7 f17_8 .ret:=rfl
def f17_6:AC:=.cond (.r 4) f17_7 .skip
theorem f17_6e:CN f17_6 4 f17_7 .skip:=rfl
def f17_4:AC:=.seq f17_5 f17_6
theorem f17_4e:SQ f17_4 f17_5 f17_6:=rfl
def f17_10l:List GI:=[vv 5 0,
    vn 6 5,
    vd 7 6 2,
    vl 8 7,
    vo 2 8]
def f17_10:AC:=.ops [2] [] f17_10l
theorem f17_10e:OP f17_10 f17_10l [2] []:=rfl
def f17_9:AC:=.seq f17_10 .ret
theorem f17_9e:SQ f17_9 f17_10 .ret:=rfl
def f17_3:AC:=.seq f17_4 f17_9
theorem f17_3e:SQ f17_3 f17_4 f17_9:=rfl
def f17_1:AC:=.seq f17_2 f17_3
theorem f17_1e:SQ f17_1 f17_2 f17_3:=rfl
def c_f17:AFun:=⟨9,[.tmp 2],f17_1⟩
theorem k_f17:bK Go.Proofs.Try.prog x_f17 17 = some c_f17:=by kernel_rfl
theorem e_f17:aS Go.Proofs.Try.prog 17 = true:=by kernel_rfl

def n_f18:Nat:=18
def x_f18:Cx:=⟨some,id,12,fun s=>([0,2,3,4,5,6,10,11]:List Nat).contains s,fun s=>([]:List Nat).contains s,msOf [(2,[0],[]),(6,[2],[])]⟩
def f18_2l:List GI:=[⟨none,.mv (some 2) (.c (.lit (.bool false)))⟩]
def f18_2:AC:=.ops [0] [] f18_2l
theorem f18_2e:OP f18_2 f18_2l [0] []:=rfl
def f18_4l:List GI:=[vv 3 0,
    ⟨none,.call (some 4) false (.f 29) [(.r 3)]⟩,
    ⟨none,.un (some 5) .not (.r 4)⟩,
    vv 6 5,
    ⟨some (6,true),.mv (some 7) (.r 0)⟩,
    ⟨some (6,true),.nilck (some 8) (.r 7)⟩,
    ⟨some (6,true),.addr (some 9) (.r 8) 1⟩,
    ⟨some (6,true),.load (some 10) (.r 9) none⟩,
    ⟨none,.pick (some 11) (.r 6) (.r 10) (.c (.lit (.bool false)))⟩,
    vo 2 11]
def f18_4:AC:=.ops [2] [] f18_4l
theorem f18_4e:OP f18_4 f18_4l [2] []:=rfl
def f18_3:AC:=.seq f18_4 .ret
theorem f18_3e:SQ f18_3 f18_4 .ret:=rfl
def f18_1:AC:=.seq f18_2 f18_3
theorem f18_1e:SQ f18_1 f18_2 f18_3:=rfl
def c_f18:AFun:=⟨12,[.tmp 2],f18_1⟩
theorem k_f18:bK Go.Proofs.Try.prog x_f18 18 = some c_f18:=by kernel_rfl
theorem e_f18:aS Go.Proofs.Try.prog 18 = true:=by kernel_rfl

def n_f19:Nat:=19
def x_f19:Cx:=⟨some,id,49,fun s=>([0,2,3,4,6,7,8,11,20,21,23,24,26,27,28,29,30,31,32,34,35,36,37,38,40,41,42,43,44,45,46,47,48]:List Nat).contains s,fun s=>([]:List Nat).contains s,msOf [(2,[0],[]),(12,[0,12],[]),(52,[2,3],[]),(28,[0,16],[]),(116,[2,3],[]),(30,[0],[]),(62,[0,4],[]),(252,[0,4,20,21],[]),(506,[0,4,20,21],[]),(2024,[0,4,20,21,22],[]),(8101,[4],[]),(32408,[0,4,6,20,21],[]),(64818,[0,4,6,7,20,21],[]),(259276,[0,4,6,7,20,21,25],[]),(518554,[0,4,6,7,20,21],[]),(259278,[0,4,6,7,8,10,20,21],[]),(518558,[0,4,6,7,8,10,20,21],[]),(4148464,[0,4,6,7,8,20,21,33],[]),(8296931,[0,4,20,21],[]),(8296932,[0,4,6,7,20,21],[]),(4148467,[0,4,6,7,8,10,20,21],[]),(8103,[0,4,20,21],[]),(254,[2,3],[])]⟩
def f19_2l:List GI:=[⟨none,.mv (some 2) (.c (.lit (.slice none 0 0)))⟩,
    ⟨none,.mv (some 3) (.c (.lit (.int .i64 0)))⟩]
def f19_2:AC:=.ops [0] [] f19_2l
theorem f19_2e:OP f19_2 f19_2l [0] []:=rfl
def f19_5l:List GI:=[vv 11 0,
    ⟨none,.call (some 12) false (.f 29) [(.r 11)]⟩]
def f19_5:AC:=.ops [0,12] [] f19_5l
theorem f19_5e:OP f19_5 f19_5l [0,12] []:=rfl
def f19_8l:List GI:=[⟨none,.mv (some 2) (.c (.lit (.slice none 0 0)))⟩,
    ⟨none,.mv (some 3) (.c (.lit (.int .i64 1)))⟩]
def f19_8:AC:=.ops [2,3] [] f19_8l
theorem f19_8e:OP f19_8 f19_8l [2,3] []:=rfl
def f19_7:AC:=.seq f19_8 .ret
theorem f19_7e:SQ f19_7 f19_8 .ret:=rfl
def f19_6:AC:=.cond (.r 12) f19_7 .skip
theorem f19_6e:CN f19_6 12 f19_7 .skip:=rfl
def f19_4:AC:=.seq f19_5 f19_6
theorem f19_4e:SQ f19_4 f19_5 f19_6:=rfl
def f19_11l:List GI:=[vv 13 0,
    vn 14 13,
    vd 15 14 1,
    vl 16 15]
def f19_11:AC:=.ops [0,16] [] f19_11l
theorem f19_11e:OP f19_11 f19_11l [0,16] []:=rfl
def f19_14l:List GI:=[⟨none,.mv (some 2) (.c (.lit (.slice none 0 0)))⟩,
    ⟨none,.mv (some 3) (.c (.lit (.int .i64 14)))⟩]
def f19_14:AC:=.ops [2,3] [] f19_14l
theorem f19_14e:OP f19_14 f19_14l [2,3] []:=rfl
def f19_13:AC:=.seq f19_14 .ret
theorem f19_13e:SQ f19_13 f19_14 .ret:=rfl
def f19_12:AC:=.cond (.r 16) f19_13 .skip
theorem f19_12e:CN f19_12 16 f19_13 .skip:=rfl
def f19_10:AC:=.seq f19_11 f19_12
theorem f19_10e:SQ f19_10 f19_11 f19_12:=rfl
def f19_16l:List GI:=[vv 17 0,
    vn 18 17,
    vd 19 18 1,
    ⟨none,.store 1 (.r 19) (.c (.lit (.bool true)))⟩]
def f19_16:AC:=.ops [0] [] f19_16l
theorem f19_16e:OP f19_16 f19_16l [0] []:=rfl
def f19_18l:List GI:=[⟨none,.mv (some 4) (.c (.lit (.slice none 0 0)))⟩]
def f19_18:AC:=.ops [0,4] [] f19_18l
theorem f19_18e:OP f19_18 f19_18l [0,4] []:=rfl
def f19_21l:List GI:=[⟨none,.bar (some 20) 1 (.agg [(.lit (.int .i64 0)),(.lit (.int .i64 0))]) [(0,(.c (.lit (.int .i64 1)))),(1,(.c (.lit (.int .i64 0))))]⟩,
    ⟨none,.mv (some 21) (.c (.lit (.int .i64 0)))⟩]
def f19_21:AC:=.ops [0,4,20,21] [] f19_21l
theorem f19_21e:OP f19_21 f19_21l [0,4,20,21] []:=rfl
def f19_25l:List GI:=[vb 22 .lss 21 2]
def f19_25:AC:=.ops [0,4,20,21,22] [] f19_25l
theorem f19_25e:OP f19_25 f19_25l [0,4,20,21,22] []:=rfl
def f19_27:AC:=.cond (.r 22) .skip (.exit [4] [] 0)
theorem f19_27e:CN f19_27 22 .skip (.exit [4] [] 0):=rfl
def f19_31l:List GI:=[⟨none,.ixArr (some 23) (.r 20) (.r 21) 2 1 none⟩,
    vo 6 23]
def f19_31:AC:=.ops [0,4,6,20,21] [] f19_31l
theorem f19_31e:OP f19_31 f19_31l [0,4,6,20,21] []:=rfl
def f19_33l:List GI:=[⟨none,.mv (some 7) (.c (.lit (.int .i64 14)))⟩]
def f19_33:AC:=.ops [0,4,6,7,20,21] [] f19_33l
theorem f19_33e:OP f19_33 f19_33l [0,4,6,7,20,21] []:=rfl
def f19_36l:List GI:=[vv 24 6,
    vb 25 .eql 24 1]
def f19_36:AC:=.ops [0,4,6,7,20,21,25] [] f19_36l
theorem f19_36e:OP f19_36 f19_36l [0,4,6,7,20,21,25] []:=rfl
def f19_38l:List GI:=[⟨none,.mv (some 7) (.c (.lit (.int .i64 13)))⟩]
def f19_38:AC:=.ops [0,4,6,7,20,21] [] f19_38l
theorem f19_38e:OP f19_38 f19_38l [0,4,6,7,20,21] []:=rfl
def f19_37:AC:=.cond (.r 25) f19_38 .skip
theorem f19_37e:CN f19_37 25 f19_38 .skip:=rfl
def f19_35:AC:=.seq f19_36 f19_37
theorem f19_35e:SQ f19_35 f19_36 f19_37:=rfl
def f19_40l:List GI:=[vv 27 0,
    vv 28 6,
    ⟨none,.call (some 29) false (.f 32) [(.r 27),(.r 28)]⟩,
    vv 26 29,
    ve 30 26 0,
    ve 31 26 1,
    ve 32 26 2,
    vo 8 30,
    vo 9 31,
    vo 10 32]
def f19_40:AC:=.ops [0,4,6,7,8,10,20,21] [] f19_40l
theorem f19_40e:OP f19_40 f19_40l [0,4,6,7,8,10,20,21] []:=rfl
def f19_45l:List GI:=[vv 33 10]
def f19_45:AC:=.ops [0,4,6,7,8,20,21,33] [] f19_45l
theorem f19_45e:OP f19_45 f19_45l [0,4,6,7,8,20,21,33] []:=rfl
def f19_46:AC:=.cond (.r 33) .skip (.exit [0,4,20,21] [] 2)
theorem f19_46e:CN f19_46 33 .skip (.exit [0,4,20,21] [] 2):=rfl
def f19_44:AC:=.seq f19_45 f19_46
theorem f19_44e:SQ f19_44 f19_45 f19_46:=rfl
def f19_49l:List GI:=[vo 41 4,
    vv 42 8,
    vv 43 7,
    ⟨none,.bst (some 44) [(0,1),(1,1),(2,1),(3,1)] (.agg [(.lit (.int .i64 0)),(.lit (.int .i64 0)),(.lit (.int .i64 0)),(.lit (.int .i64 0))]) [(0,(.r 42)),(3,(.r 43))]⟩,
    ⟨none,.bsl (some 45) 4 1 (.agg [(.lit (.int .i64 0)),(.lit (.int .i64 0)),(.lit (.int .i64 0)),(.lit (.int .i64 0))]) [(0,(.r 44))]⟩,
    ⟨none,.appS 46 41 4 32 (.r 45)⟩,
    vo 4 46]
def f19_49:AC:=.ops [0,4,6,7,20,21] [] f19_49l
theorem f19_49e:OP f19_49 f19_49l [0,4,6,7,20,21] []:=rfl
def f19_48:AC:=.block 3 f19_49
theorem f19_48e:BL f19_48 f19_49 3:=rfl
def f19_50l:List GI:=[vv 35 0,
    vv 36 6,
    ⟨none,.call (some 37) false (.f 32) [(.r 35),(.r 36)]⟩,
    vv 34 37,
    ve 38 34 0,
    ve 39 34 1,
    ve 40 34 2,
    vo 8 38,
    vo 10 40]
def f19_50:AC:=.ops [0,4,6,7,8,10,20,21] [] f19_50l
theorem f19_50e:OP f19_50 f19_50l [0,4,6,7,8,10,20,21] []:=rfl
def f19_47:AC:=.seq f19_48 f19_50
theorem f19_47e:SQ f19_47 f19_48 f19_50:=rfl
def f19_43:AC:=.seq f19_44 f19_47
theorem f19_43e:SQ f19_43 f19_44 f19_47:=rfl
def f19_42:AC:=.loop [0,4,6,7,8,10,20,21] [] f19_43
theorem f19_42w:aC P id m f19_42 sf st Q = cF (aC P id m f19_43) [0,4,6,7,8,10,20,21] [] sf st Q:=rfl
def f19_41:AC:=.block 2 f19_42
theorem f19_41e:BL f19_41 f19_42 2:=rfl
def f19_39:AC:=.seq f19_40 f19_41
theorem f19_39e:SQ f19_39 f19_40 f19_41:=rfl
def f19_34:AC:=.seq f19_35 f19_39
theorem f19_34e:SQ f19_34 f19_35 f19_39:=rfl
def f19_32:AC:=.seq f19_33 f19_34
theorem f19_32e:SQ f19_32 f19_33 f19_34:=rfl
def f19_30:AC:=.seq f19_31 f19_32
theorem f19_30e:SQ f19_30 f19_31 f19_32:=rfl
def f19_29:AC:=.block 1 f19_30
theorem f19_29e:BL f19_29 f19_30 1:=rfl
def f19_51l:List GI:=[vb 47 .add 21 1,
    vv 21 47]
def f19_51:AC:=.ops [0,4,20,21] [] f19_51l
theorem f19_51e:OP f19_51 f19_51l [0,4,20,21] []:=rfl
def f19_28:AC:=.seq f19_29 f19_51
theorem f19_28e:SQ f19_28 f19_29 f19_51:=rfl
def f19_26:AC:=.seq f19_27 f19_28
theorem f19_26e:SQ f19_26 f19_27 f19_28:=rfl
def f19_24:AC:=.seq f19_25 f19_26
theorem f19_24e:SQ f19_24 f19_25 f19_26:=rfl
def f19_23:AC:=.loop [0,4,20,21] [] f19_24
theorem f19_23w:aC P id m f19_23 sf st Q = cF (aC P id m f19_24) [0,4,20,21] [] sf st Q:=rfl
def f19_22:AC:=.block 0 f19_23
theorem f19_22e:BL f19_22 f19_23 0:=rfl
def f19_20:AC:=.seq f19_21 f19_22
theorem f19_20e:SQ f19_20 f19_21 f19_22:=rfl
def f19_53l:List GI:=[vv 48 4,
    vo 2 48,
    ⟨none,.mv (some 3) (.c (.lit (.int .i64 0)))⟩]
def f19_53:AC:=.ops [2,3] [] f19_53l
theorem f19_53e:OP f19_53 f19_53l [2,3] []:=rfl
def f19_52:AC:=.seq f19_53 .ret
theorem f19_52e:SQ f19_52 f19_53 .ret:=rfl
def f19_19:AC:=.seq f19_20 f19_52
theorem f19_19e:SQ f19_19 f19_20 f19_52:=rfl
def f19_17:AC:=.seq f19_18 f19_19
theorem f19_17e:SQ f19_17 f19_18 f19_19:=rfl
def f19_15:AC:=.seq f19_16 f19_17
theorem f19_15e:SQ f19_15 f19_16 f19_17:=rfl
def f19_9:AC:=.seq f19_10 f19_15
theorem f19_9e:SQ f19_9 f19_10 f19_15:=rfl
def f19_3:AC:=.seq f19_4 f19_9
theorem f19_3e:SQ f19_3 f19_4 f19_9:=rfl
def f19_1:AC:=.seq f19_2 f19_3
theorem f19_1e:SQ f19_1 f19_2 f19_3:=rfl
def c_f19:AFun:=⟨49,[.tmp 2,.tmp 3],f19_1⟩
theorem k_f19:bK Go.Proofs.Try.prog x_f19 19 = some c_f19:=by kernel_rfl
theorem e_f19:aS Go.Proofs.Try.prog 19 = true:=by kernel_rfl

def n_f20:Nat:=20
def x_f20:Cx:=⟨some,id,58,fun s=>([0,2,3,4,5,6,8,10,11,12,13,14,15,21,22,23,24,30,31,42,47,48,52,53,54,55,56,57]:List Nat).contains s,fun s=>([23,24,55]:List Nat).contains s,msOf [(2,[0],[]),(12,[0,9],[]),(52,[2,3,4],[]),(14,[0,5,6,7],[]),(60,[0,5,6,7,16],[]),(122,[0,5,7],[]),(124,[0,5,7,32],[]),(1000,[36],[]),(4004,[2,3,4],[]),(1002,[2,3,4],[]),(126,[0,5,6,7],[]),(254,[5,6,7],[]),(1020,[5,6,51],[]),(4084,[2,3,4],[]),(1022,[2,3,4],[])]⟩
def f20_2l:List GI:=[⟨none,.mv (some 2) (.c (.lit (.int .i64 0)))⟩,
    ⟨none,.mv (some 3) (.c (.lit (.slice none 0 0)))⟩,
    ⟨none,.mv (some 4) (.c (.lit (.int .i64 0)))⟩]
def f20_2:AC:=.ops [0] [] f20_2l
theorem f20_2e:OP f20_2 f20_2l [0] []:=rfl
def f20_5l:List GI:=[vv 8 0,
    ⟨none,.call (some 9) false (.f 29) [(.r 8)]⟩]
def f20_5:AC:=.ops [0,9] [] f20_5l
theorem f20_5e:OP f20_5 f20_5l [0,9] []:=rfl
def f20_8l:List GI:=[⟨none,.mv (some 2) (.c (.lit (.int .i64 0)))⟩,
    ⟨none,.mv (some 3) (.c (.lit (.slice none 0 0)))⟩,
    ⟨none,.mv (some 4) (.c (.lit (.int .i64 1)))⟩]
def f20_8:AC:=.ops [2,3,4] [] f20_8l
theorem f20_8e:OP f20_8 f20_8l [2,3,4] []:=rfl
def f20_7:AC:=.seq f20_8 .ret
theorem f20_7e:SQ f20_7 f20_8 .ret:=rfl
def f20_6:AC:=.cond (.r 9) f20_7 .skip
theorem f20_6e:CN f20_6 9 f20_7 .skip:=rfl
def f20_4:AC:=.seq f20_5 f20_6
theorem f20_4e:SQ f20_4 f20_5 f20_6:=rfl
def f20_10l:List GI:=[vv 11 0,
    ⟨none,.call (some 12) false (.f 32) [(.r 11),(.c (.lit (.int .i64 0)))]⟩,
    vv 10 12,
    ve 13 10 0,
    ve 14 10 1,
    ve 15 10 2,
    vo 5 13,
    vo 6 14,
    vo 7 15]
def f20_10:AC:=.ops [0,5,6,7] [] f20_10l
theorem f20_10e:OP f20_10 f20_10l [0,5,6,7] []:=rfl
def f20_13l:List GI:=[vv 16 7]
def f20_13:AC:=.ops [0,5,6,7,16] [] f20_13l
theorem f20_13e:OP f20_13 f20_13l [0,5,6,7,16] []:=rfl
def f20_15l:List GI:=[vv 17 0,
    vv 18 0,
    vn 19 18,
    vd 20 19 3,
    ⟨none,.loadOwn 21 (.r 20)⟩,
    vv 22 6,
    ⟨none,.bsl (some 23) 1 1 (.lit (.int .i64 0)) [(0,(.r 22))]⟩,
    ⟨none,.x (some 24) (.appB (.r 21) 1 8 (.r 23))⟩,
    vn 25 17,
    vd 26 25 3,
    ⟨none,.store 1 (.r 26) (.r 24)⟩]
def f20_15:AC:=.ops [0,5,7] [] f20_15l
theorem f20_15e:OP f20_15 f20_15l [0,5,7] []:=rfl
def f20_14:AC:=.cond (.r 16) f20_15 .skip
theorem f20_14e:CN f20_14 16 f20_15 .skip:=rfl
def f20_12:AC:=.seq f20_13 f20_14
theorem f20_12e:SQ f20_12 f20_13 f20_14:=rfl
def f20_18l:List GI:=[vv 27 0,
    vn 28 27,
    vd 29 28 3,
    vl 30 29,
    ⟨none,.len (some 31) .sl (.r 30)⟩,
    vb 32 .eql 31 0]
def f20_18:AC:=.ops [0,5,7,32] [] f20_18l
theorem f20_18e:OP f20_18 f20_18l [0,5,7,32] []:=rfl
def f20_22l:List GI:=[vv 33 0,
    vn 34 33,
    vd 35 34 1,
    vl 36 35]
def f20_22:AC:=.ops [36] [] f20_22l
theorem f20_22e:OP f20_22 f20_22l [36] []:=rfl
def f20_25l:List GI:=[⟨none,.mv (some 2) (.c (.lit (.int .i64 0)))⟩,
    ⟨none,.mv (some 3) (.c (.lit (.slice none 0 0)))⟩,
    ⟨none,.mv (some 4) (.c (.lit (.int .i64 13)))⟩]
def f20_25:AC:=.ops [2,3,4] [] f20_25l
theorem f20_25e:OP f20_25 f20_25l [2,3,4] []:=rfl
def f20_24:AC:=.seq f20_25 .ret
theorem f20_24e:SQ f20_24 f20_25 .ret:=rfl
def f20_23:AC:=.cond (.r 36) f20_24 .skip
theorem f20_23e:CN f20_23 36 f20_24 .skip:=rfl
def f20_21:AC:=.seq f20_22 f20_23
theorem f20_21e:SQ f20_21 f20_22 f20_23:=rfl
def f20_27l:List GI:=[⟨none,.mv (some 2) (.c (.lit (.int .i64 0)))⟩,
    ⟨none,.mv (some 3) (.c (.lit (.slice none 0 0)))⟩,
    ⟨none,.mv (some 4) (.c (.lit (.int .i64 16)))⟩]
def f20_27:AC:=.ops [2,3,4] [] f20_27l
theorem f20_27e:OP f20_27 f20_27l [2,3,4] []:=rfl
def f20_26:AC:=.seq f20_27 .ret
theorem f20_26e:SQ f20_26 f20_27 .ret:=rfl
def f20_20:AC:=.seq f20_21 f20_26
theorem f20_20e:SQ f20_20 f20_21 f20_26:=rfl
def f20_19:AC:=.cond (.r 32) f20_20 .skip
theorem f20_19e:CN f20_19 32 f20_20 .skip:=rfl
def f20_17:AC:=.seq f20_18 f20_19
theorem f20_17e:SQ f20_17 f20_18 f20_19:=rfl
def f20_29l:List GI:=[vv 37 0,
    vn 38 37,
    vd 39 38 3,
    vl 40 39,
    ⟨none,.ixS (some 41) (.r 40) (.c (.lit (.int .i64 0))) 1⟩,
    vl 42 41,
    vo 6 42]
def f20_29:AC:=.ops [0,5,6,7] [] f20_29l
theorem f20_29e:OP f20_29 f20_29l [0,5,6,7] []:=rfl
def f20_31l:List GI:=[vv 43 0,
    vv 44 0,
    vn 45 44,
    vd 46 45 3,
    vl 47 46,
    ⟨none,.call (some 48) false (.f 33) [(.r 47),(.c (.lit (.int .i64 0))),(.c (.lit (.int .i64 1)))]⟩,
    vn 49 43,
    vd 50 49 3,
    ⟨none,.store 1 (.r 50) (.r 48)⟩]
def f20_31:AC:=.ops [5,6,7] [] f20_31l
theorem f20_31e:OP f20_31 f20_31l [5,6,7] []:=rfl
def f20_34l:List GI:=[vv 51 7]
def f20_34:AC:=.ops [5,6,51] [] f20_34l
theorem f20_34e:OP f20_34 f20_34l [5,6,51] []:=rfl
def f20_37l:List GI:=[vv 52 6,
    vv 53 5,
    ⟨none,.bst (some 54) [(0,1),(1,1),(2,1),(3,1)] (.agg [(.lit (.int .i64 0)),(.lit (.int .i64 0)),(.lit (.int .i64 0)),(.lit (.int .i64 0))]) [(0,(.r 53))]⟩,
    ⟨none,.bsl (some 55) 4 1 (.agg [(.lit (.int .i64 0)),(.lit (.int .i64 0)),(.lit (.int .i64 0)),(.lit (.int .i64 0))]) [(0,(.r 54))]⟩,
    ⟨none,.call (some 56) false (.f 34) [(.r 55)]⟩,
    vo 2 52,
    vo 3 56,
    ⟨none,.mv (some 4) (.c (.lit (.int .i64 0)))⟩]
def f20_37:AC:=.ops [2,3,4] [] f20_37l
theorem f20_37e:OP f20_37 f20_37l [2,3,4] []:=rfl
def f20_36:AC:=.seq f20_37 .ret
theorem f20_36e:SQ f20_36 f20_37 .ret:=rfl
def f20_35:AC:=.cond (.r 51) f20_36 .skip
theorem f20_35e:CN f20_35 51 f20_36 .skip:=rfl
def f20_33:AC:=.seq f20_34 f20_35
theorem f20_33e:SQ f20_33 f20_34 f20_35:=rfl
def f20_39l:List GI:=[vv 57 6,
    vo 2 57,
    ⟨none,.mv (some 3) (.c (.lit (.slice none 0 0)))⟩,
    ⟨none,.mv (some 4) (.c (.lit (.int .i64 0)))⟩]
def f20_39:AC:=.ops [2,3,4] [] f20_39l
theorem f20_39e:OP f20_39 f20_39l [2,3,4] []:=rfl
def f20_38:AC:=.seq f20_39 .ret
theorem f20_38e:SQ f20_38 f20_39 .ret:=rfl
def f20_32:AC:=.seq f20_33 f20_38
theorem f20_32e:SQ f20_32 f20_33 f20_38:=rfl
def f20_30:AC:=.seq f20_31 f20_32
theorem f20_30e:SQ f20_30 f20_31 f20_32:=rfl
def f20_28:AC:=.seq f20_29 f20_30
theorem f20_28e:SQ f20_28 f20_29 f20_30:=rfl
def f20_16:AC:=.seq f20_17 f20_28
theorem f20_16e:SQ f20_16 f20_17 f20_28:=rfl
def f20_11:AC:=.seq f20_12 f20_16
theorem f20_11e:SQ f20_11 f20_12 f20_16:=rfl
def f20_9:AC:=.seq f20_10 f20_11
theorem f20_9e:SQ f20_9 f20_10 f20_11:=rfl
def f20_3:AC:=.seq f20_4 f20_9
theorem f20_3e:SQ f20_3 f20_4 f20_9:=rfl
def f20_1:AC:=.seq f20_2 f20_3
theorem f20_1e:SQ f20_1 f20_2 f20_3:=rfl
def c_f20:AFun:=⟨58,[.tmp 2,.tmp 3,.tmp 4],f20_1⟩
theorem k_f20:bK Go.Proofs.Try.prog x_f20 20 = some c_f20:=by kernel_rfl
theorem e_f20:aS Go.Proofs.Try.prog 20 = true:=by kernel_rfl

def n_f21:Nat:=21
def x_f21:Cx:=⟨some,id,47,fun s=>([0,1,4,5,6,9,15,16,17,18,19,20,22,23,24,25,26,30,31,35,41,42,43,44]:List Nat).contains s,fun s=>([25,43,44]:List Nat).contains s,msOf [(2,[0,1],[]),(12,[0,1,10],[]),(52,[4,5],[]),(28,[0,1,14],[]),(116,[4,5],[]),(60,[0,1,6,8],[]),(122,[0,1,6,21],[]),(492,[4,5],[]),(124,[0,1,36],[]),(500,[],[]),(1002,[4,5],[]),(126,[4,5],[])]⟩
def f21_2l:List GI:=[⟨none,.mv (some 4) (.c (.lit (.slice none 0 0)))⟩,
    ⟨none,.mv (some 5) (.c (.lit (.int .i64 0)))⟩]
def f21_2:AC:=.ops [0,1] [] f21_2l
theorem f21_2e:OP f21_2 f21_2l [0,1] []:=rfl
def f21_5l:List GI:=[vv 9 0,
    ⟨none,.call (some 10) false (.f 29) [(.r 9)]⟩]
def f21_5:AC:=.ops [0,1,10] [] f21_5l
theorem f21_5e:OP f21_5 f21_5l [0,1,10] []:=rfl
def f21_8l:List GI:=[⟨none,.mv (some 4) (.c (.lit (.slice none 0 0)))⟩,
    ⟨none,.mv (some 5) (.c (.lit (.int .i64 1)))⟩]
def f21_8:AC:=.ops [4,5] [] f21_8l
theorem f21_8e:OP f21_8 f21_8l [4,5] []:=rfl
def f21_7:AC:=.seq f21_8 .ret
theorem f21_7e:SQ f21_7 f21_8 .ret:=rfl
def f21_6:AC:=.cond (.r 10) f21_7 .skip
theorem f21_6e:CN f21_6 10 f21_7 .skip:=rfl
def f21_4:AC:=.seq f21_5 f21_6
theorem f21_4e:SQ f21_4 f21_5 f21_6:=rfl
def f21_11l:List GI:=[vv 11 0,
    vn 12 11,
    vd 13 12 1,
    vl 14 13]
def f21_11:AC:=.ops [0,1,14] [] f21_11l
theorem f21_11e:OP f21_11 f21_11l [0,1,14] []:=rfl
def f21_14l:List GI:=[⟨none,.mv (some 4) (.c (.lit (.slice none 0 0)))⟩,
    ⟨none,.mv (some 5) (.c (.lit (.int .i64 14)))⟩]
def f21_14:AC:=.ops [4,5] [] f21_14l
theorem f21_14e:OP f21_14 f21_14l [4,5] []:=rfl
def f21_13:AC:=.seq f21_14 .ret
theorem f21_13e:SQ f21_13 f21_14 .ret:=rfl
def f21_12:AC:=.cond (.r 14) f21_13 .skip
theorem f21_12e:CN f21_12 14 f21_13 .skip:=rfl
def f21_10:AC:=.seq f21_11 f21_12
theorem f21_10e:SQ f21_10 f21_11 f21_12:=rfl
def f21_17l:List GI:=[vv 16 0,
    ⟨none,.call (some 17) false (.f 32) [(.r 16),(.c (.lit (.int .i64 1)))]⟩,
    vv 15 17,
    ve 18 15 0,
    ve 19 15 1,
    ve 20 15 2,
    vo 6 18,
    vo 7 19,
    vo 8 20]
def f21_17:AC:=.ops [0,1,6,8] [] f21_17l
theorem f21_17e:OP f21_17 f21_17l [0,1,6,8] []:=rfl
def f21_19l:List GI:=[vv 21 8]
def f21_19:AC:=.ops [0,1,6,21] [] f21_19l
theorem f21_19e:OP f21_19 f21_19l [0,1,6,21] []:=rfl
def f21_22l:List GI:=[vv 22 6,
    vv 23 1,
    ⟨none,.bst (some 24) [(0,1),(1,1),(2,1),(3,1)] (.agg [(.lit (.int .i64 0)),(.lit (.int .i64 0)),(.lit (.int .i64 0)),(.lit (.int .i64 0))]) [(0,(.r 22)),(2,(.r 23))]⟩,
    ⟨none,.bsl (some 25) 4 1 (.agg [(.lit (.int .i64 0)),(.lit (.int .i64 0)),(.lit (.int .i64 0)),(.lit (.int .i64 0))]) [(0,(.r 24))]⟩,
    ⟨none,.call (some 26) false (.f 34) [(.r 25)]⟩,
    vo 4 26,
    ⟨none,.mv (some 5) (.c (.lit (.int .i64 0)))⟩]
def f21_22:AC:=.ops [4,5] [] f21_22l
theorem f21_22e:OP f21_22 f21_22l [4,5] []:=rfl
def f21_21:AC:=.seq f21_22 .ret
theorem f21_21e:SQ f21_21 f21_22 .ret:=rfl
def f21_20:AC:=.cond (.r 21) f21_21 .skip
theorem f21_20e:CN f21_20 21 f21_21 .skip:=rfl
def f21_18:AC:=.seq f21_19 f21_20
theorem f21_18e:SQ f21_18 f21_19 f21_20:=rfl
def f21_16:AC:=.seq f21_17 f21_18
theorem f21_16e:SQ f21_16 f21_17 f21_18:=rfl
def f21_25h:List GI:=[vv 27 0,
    vn 28 27,
    vd 29 28 3,
    vl 30 29,
    ⟨none,.len (some 31) .sl (.r 30)⟩,
    vv 32 0,
    vn 33 32,
    vd 34 33 2,
    vl 35 34]
def f21_25l:List GI:=[⟨none,.bin (some 36) .num .lss (.r 31) (.r 35)⟩]
def f21_25:AC:=.draw [0,1,36] [] [] f21_25h f21_25l
theorem f21_25e:aC P id m f21_25 sf st Q = aY P id sf.locs st f21_25h (cv P id m [] [0,1,36] [] f21_25l Q st) [] ⟨sf.regs,bk [] sf.locs⟩:=rfl
def f21_28l:List GI:=[vv 37 0,
    vv 38 0,
    vn 39 38,
    vd 40 39 3,
    ⟨none,.loadOwn 41 (.r 40)⟩,
    vv 42 1,
    ⟨none,.bsl (some 43) 1 1 (.lit (.int .i64 0)) [(0,(.r 42))]⟩,
    ⟨none,.x (some 44) (.appB (.r 41) 1 8 (.r 43))⟩,
    vn 45 37,
    vd 46 45 3,
    ⟨none,.store 1 (.r 46) (.r 44)⟩]
def f21_28:AC:=.ops [] [] f21_28l
theorem f21_28e:OP f21_28 f21_28l [] []:=rfl
def f21_30l:List GI:=[⟨none,.mv (some 4) (.c (.lit (.slice none 0 0)))⟩,
    ⟨none,.mv (some 5) (.c (.lit (.int .i64 0)))⟩]
def f21_30:AC:=.ops [4,5] [] f21_30l
theorem f21_30e:OP f21_30 f21_30l [4,5] []:=rfl
def f21_29:AC:=.seq f21_30 .ret
theorem f21_29e:SQ f21_29 f21_30 .ret:=rfl
def f21_27:AC:=.seq f21_28 f21_29
theorem f21_27e:SQ f21_27 f21_28 f21_29:=rfl
def f21_26:AC:=.cond (.r 36) f21_27 .skip
theorem f21_26e:CN f21_26 36 f21_27 .skip:=rfl
def f21_24:AC:=.seq f21_25 f21_26
theorem f21_24e:SQ f21_24 f21_25 f21_26:=rfl
def f21_32l:List GI:=[⟨none,.mv (some 4) (.c (.lit (.slice none 0 0)))⟩,
    ⟨none,.mv (some 5) (.c (.lit (.int .i64 16)))⟩]
def f21_32:AC:=.ops [4,5] [] f21_32l
theorem f21_32e:OP f21_32 f21_32l [4,5] []:=rfl
def f21_31:AC:=.seq f21_32 .ret
theorem f21_31e:SQ f21_31 f21_32 .ret:=rfl
def f21_23:AC:=.seq f21_24 f21_31
theorem f21_23e:SQ f21_23 f21_24 f21_31:=rfl
def f21_15:AC:=.seq f21_16 f21_23
theorem f21_15e:SQ f21_15 f21_16 f21_23:=rfl
def f21_9:AC:=.seq f21_10 f21_15
theorem f21_9e:SQ f21_9 f21_10 f21_15:=rfl
def f21_3:AC:=.seq f21_4 f21_9
theorem f21_3e:SQ f21_3 f21_4 f21_9:=rfl
def f21_1:AC:=.seq f21_2 f21_3
theorem f21_1e:SQ f21_1 f21_2 f21_3:=rfl
def c_f21:AFun:=⟨47,[.tmp 4,.tmp 5],f21_1⟩
theorem k_f21:bK Go.Proofs.Try.prog x_f21 21 = some c_f21:=by kernel_rfl
theorem e_f21:aS Go.Proofs.Try.prog 21 = true:=by kernel_rfl

def n_f22:Nat:=22
def x_f22:Cx:=⟨some,id,47,fun s=>([0,2,3,4,6,10,14,15,21,22,27,28,29,31,36,37,38,40,41,42,44,45,46]:List Nat).contains s,fun s=>([22,28]:List Nat).contains s,msOf [(2,[0],[]),(12,[0,7],[]),(52,[2],[]),(14,[0,3],[]),(30,[0,3],[]),(62,[0,3],[]),(126,[0,3],[]),(508,[3,37],[]),(1018,[3,37],[]),(4072,[3,37,39],[]),(16293,[3],[]),(32588,[3,4,5,37],[5]),(32589,[3,37],[]),(510,[2],[])]⟩
def f22_2l:List GI:=[⟨none,.mv (some 2) (.c (.lit (.pointer none)))⟩]
def f22_2:AC:=.ops [0] [] f22_2l
theorem f22_2e:OP f22_2 f22_2l [0] []:=rfl
def f22_5l:List GI:=[vv 6 0,
    ⟨none,.call (some 7) false (.f 29) [(.r 6)]⟩]
def f22_5:AC:=.ops [0,7] [] f22_5l
theorem f22_5e:OP f22_5 f22_5l [0,7] []:=rfl
def f22_8l:List GI:=[⟨none,.mv (some 2) (.c (.lit (.pointer none)))⟩]
def f22_8:AC:=.ops [2] [] f22_8l
theorem f22_8e:OP f22_8 f22_8l [2] []:=rfl
def f22_7:AC:=.seq f22_8 .ret
theorem f22_7e:SQ f22_7 f22_8 .ret:=rfl
def f22_6:AC:=.cond (.r 7) f22_7 .skip
theorem f22_6e:CN f22_6 7 f22_7 .skip:=rfl
def f22_4:AC:=.seq f22_5 f22_6
theorem f22_4e:SQ f22_4 f22_5 f22_6:=rfl
def f22_10l:List GI:=[vv 8 0,
    vn 9 8,
    ⟨none,.load (some 10) (.r 9) (some 7)⟩,
    ⟨none,.newB 3 [(.lit (.bool false)),(.lit (.bool false)),(.lit (.int .i64 0)),(.lit (.slice none 0 0)),(.lit (.pointer none)),(.lit (.pointer none)),(.lit (.map none))]⟩,
    ⟨none,.store 7 (.r 3) (.r 10)⟩]
def f22_10:AC:=.ops [0,3] [] f22_10l
theorem f22_10e:OP f22_10 f22_10l [0,3] []:=rfl
def f22_12l:List GI:=[vv 11 0,
    vn 12 11,
    vd 13 12 3,
    vl 14 13,
    ⟨none,.call (some 15) false (.f 35) [(.r 14)]⟩,
    vd 16 3 3,
    ⟨none,.store 1 (.r 16) (.r 15)⟩]
def f22_12:AC:=.ops [0,3] [] f22_12l
theorem f22_12e:OP f22_12 f22_12l [0,3] []:=rfl
def f22_14h:List GI:=[vv 17 0,
    vn 18 17,
    vd 19 18 4,
    ⟨none,.ixA (some 20) (.r 19) (.c (.lit (.int .i64 0))) 2 1⟩,
    vl 21 20]
def f22_14p:List (Bool×GI):=[(false,vv 23 0),
    (false,vn 24 23),
    (false,vd 25 24 4),
    (false,⟨none,.ixA (some 26) (.r 25) (.c (.lit (.int .i64 1))) 2 1⟩),
    (false,vl 27 26)]
def f22_14l:List GI:=[⟨none,.call (some 28) false (.f 36) [(.r 27)]⟩,
    ⟨none,.bar (some 29) 1 (.agg [(.lit (.pointer none)),(.lit (.pointer none))]) [(0,(.r 22)),(1,(.r 28))]⟩,
    vd 30 3 4,
    ⟨none,.store 2 (.r 30) (.r 29)⟩]
def f22_14:AC:=.drawM [0,3] [] f22_14h (some 22) (.f 36) [(.r 21)] f22_14p f22_14l
theorem f22_14e:aC P id m f22_14 sf st Q = (m = false∧drawM P id f22_14h (some 22) (.f 36) [(.r 21)] f22_14p sf st (jI P id m [0,3] [] f22_14l Q)):=rfl
def f22_16l:List GI:=[⟨none,.mkmap 31⟩,
    vd 32 3 6,
    ⟨none,.store 1 (.r 32) (.r 31)⟩]
def f22_16:AC:=.ops [0,3] [] f22_16l
theorem f22_16e:OP f22_16 f22_16l [0,3] []:=rfl
def f22_19l:List GI:=[vv 33 0,
    vn 34 33,
    vd 35 34 6,
    vl 36 35,
    ⟨none,.x (some 37) (.rng (.r 36))⟩]
def f22_19:AC:=.ops [3,37] [] f22_19l
theorem f22_19e:OP f22_19 f22_19l [3,37] []:=rfl
def f22_23l:List GI:=[⟨none,.x (some 38) (.nxt 37)⟩,
    ve 39 38 0]
def f22_23:AC:=.ops [3,37,39] [] f22_23l
theorem f22_23e:OP f22_23 f22_23l [3,37,39] []:=rfl
def f22_25:AC:=.cond (.r 39) .skip (.exit [3] [] 0)
theorem f22_25e:CN f22_25 39 .skip (.exit [3] [] 0):=rfl
def f22_28l:List GI:=[⟨none,.x (some 40) (.ent 37)⟩,
    ve 41 40 0,
    ve 42 40 1,
    ⟨none,.newL 5 [(.lit (.int .i64 0)),(.lit (.int .i64 0)),(.lit (.int .u64 0))]⟩,
    vo 4 41,
    ⟨none,.store 3 (.r 5) (.r 42)⟩]
def f22_28:AC:=.ops [3,4,5,37] [5] f22_28l
theorem f22_28e:OP f22_28 f22_28l [3,4,5,37] [5]:=rfl
def f22_29l:List GI:=[vd 43 3 6,
    vl 44 43,
    vv 45 4,
    ⟨none,.load (some 46) (.r 5) (some 3)⟩,
    ⟨none,.upd (.int .i64) (.r 44) (.r 45) (.r 46)⟩]
def f22_29:AC:=.ops [3,37] [] f22_29l
theorem f22_29e:OP f22_29 f22_29l [3,37] []:=rfl
def f22_27:AC:=.seq f22_28 f22_29
theorem f22_27e:SQ f22_27 f22_28 f22_29:=rfl
def f22_26:AC:=.block 1 f22_27
theorem f22_26e:BL f22_26 f22_27 1:=rfl
def f22_24:AC:=.seq f22_25 f22_26
theorem f22_24e:SQ f22_24 f22_25 f22_26:=rfl
def f22_22:AC:=.seq f22_23 f22_24
theorem f22_22e:SQ f22_22 f22_23 f22_24:=rfl
def f22_21:AC:=.loop [3,37] [] f22_22
theorem f22_21w:aC P id m f22_21 sf st Q = cF (aC P id m f22_22) [3,37] [] sf st Q:=rfl
def f22_20:AC:=.block 0 f22_21
theorem f22_20e:BL f22_20 f22_21 0:=rfl
def f22_18:AC:=.seq f22_19 f22_20
theorem f22_18e:SQ f22_18 f22_19 f22_20:=rfl
def f22_31l:List GI:=[vo 2 3]
def f22_31:AC:=.ops [2] [] f22_31l
theorem f22_31e:OP f22_31 f22_31l [2] []:=rfl
def f22_30:AC:=.seq f22_31 .ret
theorem f22_30e:SQ f22_30 f22_31 .ret:=rfl
def f22_17:AC:=.seq f22_18 f22_30
theorem f22_17e:SQ f22_17 f22_18 f22_30:=rfl
def f22_15:AC:=.seq f22_16 f22_17
theorem f22_15e:SQ f22_15 f22_16 f22_17:=rfl
def f22_13:AC:=.seq f22_14 f22_15
theorem f22_13e:SQ f22_13 f22_14 f22_15:=rfl
def f22_11:AC:=.seq f22_12 f22_13
theorem f22_11e:SQ f22_11 f22_12 f22_13:=rfl
def f22_9:AC:=.seq f22_10 f22_11
theorem f22_9e:SQ f22_9 f22_10 f22_11:=rfl
def f22_3:AC:=.seq f22_4 f22_9
theorem f22_3e:SQ f22_3 f22_4 f22_9:=rfl
def f22_1:AC:=.seq f22_2 f22_3
theorem f22_1e:SQ f22_1 f22_2 f22_3:=rfl
def c_f22:AFun:=⟨47,[.tmp 2],f22_1⟩
theorem k_f22:bK Go.Proofs.Try.prog x_f22 22 = some c_f22:=by kernel_rfl
theorem e_f22:aS Go.Proofs.Try.prog 22 = true:=by kernel_rfl

def n_f23:Nat:=23
def x_f23:Cx:=⟨some,id,31,fun s=>([0,1,4,6,8,9,10,12,14,15,16,17,19,21,22,23,24,26,28,29,30]:List Nat).contains s,fun s=>([]:List Nat).contains s,msOf [(2,[2,3],[2,3]),(6,[4],[])]⟩
def f23_2l:List GI:=[⟨none,.boxL 2 4 (.r 0)⟩,
    ⟨none,.boxL 3 4 (.r 1)⟩,
    ⟨none,.mv (some 4) (.c (.lit (.bool false)))⟩]
def f23_2:AC:=.ops [2,3] [2,3] f23_2l
theorem f23_2e:OP f23_2 f23_2l [2,3] [2,3]:=rfl
def f23_4l:List GI:=[vd 5 2 0,
    vl 6 5,
    vd 7 3 0,
    vl 8 7,
    ⟨none,.bin (some 9) .num .eql (.r 6) (.r 8)⟩,
    vv 10 9,
    ⟨some (10,true),.addr (some 11) (.r 2) 1⟩,
    ⟨some (10,true),.load (some 12) (.r 11) none⟩,
    ⟨some (10,true),.addr (some 13) (.r 3) 1⟩,
    ⟨some (10,true),.load (some 14) (.r 13) none⟩,
    ⟨some (10,true),.bin (some 15) .bool .eql (.r 12) (.r 14)⟩,
    ⟨none,.pick (some 16) (.r 10) (.r 15) (.c (.lit (.bool false)))⟩,
    vv 17 16,
    ⟨some (17,true),.addr (some 18) (.r 2) 3⟩,
    ⟨some (17,true),.load (some 19) (.r 18) none⟩,
    ⟨some (17,true),.addr (some 20) (.r 3) 3⟩,
    ⟨some (17,true),.load (some 21) (.r 20) none⟩,
    ⟨some (17,true),.bin (some 22) .num .eql (.r 19) (.r 21)⟩,
    ⟨none,.pick (some 23) (.r 17) (.r 22) (.c (.lit (.bool false)))⟩,
    vv 24 23,
    ⟨some (24,true),.addr (some 25) (.r 2) 2⟩,
    ⟨some (24,true),.load (some 26) (.r 25) none⟩,
    ⟨some (24,true),.addr (some 27) (.r 3) 2⟩,
    ⟨some (24,true),.load (some 28) (.r 27) none⟩,
    ⟨some (24,true),.call (some 29) false (.f 37) [(.r 26),(.r 28)]⟩,
    ⟨none,.pick (some 30) (.r 24) (.r 29) (.c (.lit (.bool false)))⟩,
    vo 4 30]
def f23_4:AC:=.ops [4] [] f23_4l
theorem f23_4e:OP f23_4 f23_4l [4] []:=rfl
def f23_3:AC:=.seq f23_4 .ret
theorem f23_3e:SQ f23_3 f23_4 .ret:=rfl
def f23_1:AC:=.seq f23_2 f23_3
theorem f23_1e:SQ f23_1 f23_2 f23_3:=rfl
def c_f23:AFun:=⟨31,[.tmp 4],f23_1⟩
theorem k_f23:bK Go.Proofs.Try.prog x_f23 23 = some c_f23:=by kernel_rfl
theorem e_f23:aS Go.Proofs.Try.prog 23 = true:=by kernel_rfl

def n_f24:Nat:=24
def x_f24:Cx:=⟨some,id,4,fun s=>([0,1,2,3]:List Nat).contains s,fun s=>([]:List Nat).contains s,msOf [(2,[],[]),(6,[0],[])]⟩
def f24_2l:List GI:=[⟨none,.mv (some 0) (.c (.lit (.pointer none)))⟩]
def f24_2:AC:=.ops [] [] f24_2l
theorem f24_2e:OP f24_2 f24_2l [] []:=rfl
def f24_4l:List GI:=[⟨none,.mkmap 1⟩,
    ⟨none,.bst (some 2) [(0,3),(3,1)] (.agg [(.lit (.int .u64 0)),(.lit (.int .u64 0)),(.lit (.int .u64 0)),(.lit (.map none))]) [(1,(.r 1))]⟩,
    ⟨none,.boxB 3 4 (.r 2)⟩,
    vo 0 3]
def f24_4:AC:=.ops [0] [] f24_4l
theorem f24_4e:OP f24_4 f24_4l [0] []:=rfl
def f24_3:AC:=.seq f24_4 .ret
theorem f24_3e:SQ f24_3 f24_4 .ret:=rfl
def f24_1:AC:=.seq f24_2 f24_3
theorem f24_1e:SQ f24_1 f24_2 f24_3:=rfl
def c_f24:AFun:=⟨4,[.tmp 0],f24_1⟩
theorem k_f24:bK Go.Proofs.Try.prog x_f24 24 = some c_f24:=by kernel_rfl
theorem e_f24:aS Go.Proofs.Try.prog 24 = true:=by kernel_rfl

def n_f25:Nat:=25
def x_f25:Cx:=⟨some,id,12,fun s=>([0,1,2,6,7,8,9,10,11]:List Nat).contains s,fun s=>([9]:List Nat).contains s,msOf [(2,[0,4,5],[4,5]),(6,[6],[])]⟩
def f25_2l:List GI:=[⟨none,.boxL 4 3 (.r 1)⟩,
    ⟨none,.boxL 5 4 (.r 2)⟩,
    ⟨none,.mv (some 6) (.c (.lit (.bool false)))⟩]
def f25_2:AC:=.ops [0,4,5] [4,5] f25_2l
theorem f25_2e:OP f25_2 f25_2l [0,4,5] [4,5]:=rfl
def f25_4h:List GI:=[vv 7 0,
    ⟨none,.load (some 8) (.r 4) (some 3)⟩]
def f25_4p:List (Bool×GI):=[(false,⟨none,.load (some 10) (.r 5) (some 4)⟩)]
def f25_4l:List GI:=[⟨none,.call (some 11) false (.f 23) [(.r 9),(.r 10)]⟩,
    vo 6 11]
def f25_4:AC:=.drawM [6] [] f25_4h (some 9) (.f 11) [(.r 7),(.r 8)] f25_4p f25_4l
theorem f25_4e:aC P id m f25_4 sf st Q = (m = false∧drawM P id f25_4h (some 9) (.f 11) [(.r 7),(.r 8)] f25_4p sf st (jI P id m [6] [] f25_4l Q)):=rfl
def f25_3:AC:=.seq f25_4 .ret
theorem f25_3e:SQ f25_3 f25_4 .ret:=rfl
def f25_1:AC:=.seq f25_2 f25_3
theorem f25_1e:SQ f25_1 f25_2 f25_3:=rfl
def c_f25:AFun:=⟨12,[.tmp 6],f25_1⟩
theorem k_f25:bK Go.Proofs.Try.prog x_f25 25 = some c_f25:=by kernel_rfl
theorem e_f25:aS Go.Proofs.Try.prog 25 = true:=by kernel_rfl

def n_f26:Nat:=26
def x_f26:Cx:=⟨some,id,32,fun s=>([0,1,2,6,7,8,9,10,11,12,13,15,16,17,18,19,20,21,22,24,25,26,27,28,29,30,31]:List Nat).contains s,fun s=>([]:List Nat).contains s,msOf [(2,[0,1,2],[]),(12,[0,1,2,9],[]),(26,[0,1,2,9,14],[]),(108,[6,7,8],[]),(14,[0,1,2,7,8],[]),(60,[0,1,2,7,8,23],[]),(244,[6,7,8],[]),(62,[6,7,8],[])]⟩
def f26_2l:List GI:=[⟨none,.mv (some 6) (.c (.lit (.bool false)))⟩,
    ⟨none,.mv (some 7) (.c (.lit (.slice none 0 0)))⟩,
    ⟨none,.mv (some 8) (.c (.lit (.int .i64 0)))⟩]
def f26_2:AC:=.ops [0,1,2] [] f26_2l
theorem f26_2e:OP f26_2 f26_2l [0,1,2] []:=rfl
def f26_5l:List GI:=[vv 10 0,
    vv 11 1,
    ⟨none,.call (some 12) false (.f 38) [(.r 10),(.r 11)]⟩,
    vo 9 12]
def f26_5:AC:=.ops [0,1,2,9] [] f26_5l
theorem f26_5e:OP f26_5 f26_5l [0,1,2,9] []:=rfl
def f26_7l:List GI:=[vv 13 9,
    vb 14 .neq 13 0]
def f26_7:AC:=.ops [0,1,2,9,14] [] f26_7l
theorem f26_7e:OP f26_7 f26_7l [0,1,2,9,14] []:=rfl
def f26_10l:List GI:=[vv 15 9,
    ⟨none,.mv (some 6) (.c (.lit (.bool false)))⟩,
    ⟨none,.mv (some 7) (.c (.lit (.slice none 0 0)))⟩,
    vo 8 15]
def f26_10:AC:=.ops [6,7,8] [] f26_10l
theorem f26_10e:OP f26_10 f26_10l [6,7,8] []:=rfl
def f26_9:AC:=.seq f26_10 .ret
theorem f26_9e:SQ f26_9 f26_10 .ret:=rfl
def f26_8:AC:=.cond (.r 14) f26_9 .skip
theorem f26_8e:CN f26_8 14 f26_9 .skip:=rfl
def f26_6:AC:=.seq f26_7 f26_8
theorem f26_6e:SQ f26_6 f26_7 f26_8:=rfl
def f26_4:AC:=.seq f26_5 f26_6
theorem f26_4e:SQ f26_4 f26_5 f26_6:=rfl
def f26_12l:List GI:=[vv 17 0,
    vv 18 2,
    ⟨none,.call (some 19) false (.f 21) [(.r 17),(.r 18)]⟩,
    vv 16 19,
    ve 20 16 0,
    ve 21 16 1,
    vo 7 20,
    vo 8 21]
def f26_12:AC:=.ops [0,1,2,7,8] [] f26_12l
theorem f26_12e:OP f26_12 f26_12l [0,1,2,7,8] []:=rfl
def f26_15l:List GI:=[vv 22 8,
    vb 23 .eql 22 16]
def f26_15:AC:=.ops [0,1,2,7,8,23] [] f26_15l
theorem f26_15e:OP f26_15 f26_15l [0,1,2,7,8,23] []:=rfl
def f26_18l:List GI:=[vv 24 0,
    vv 25 1,
    vv 26 2,
    ⟨none,.call (some 27) false (.f 39) [(.r 24),(.c (.lit (.int .i64 0))),(.r 25),(.r 26)]⟩,
    ⟨none,.mv (some 6) (.c (.lit (.bool false)))⟩,
    ⟨none,.mv (some 7) (.c (.lit (.slice none 0 0)))⟩,
    vo 8 27]
def f26_18:AC:=.ops [6,7,8] [] f26_18l
theorem f26_18e:OP f26_18 f26_18l [6,7,8] []:=rfl
def f26_17:AC:=.seq f26_18 .ret
theorem f26_17e:SQ f26_17 f26_18 .ret:=rfl
def f26_16:AC:=.cond (.r 23) f26_17 .skip
theorem f26_16e:CN f26_16 23 f26_17 .skip:=rfl
def f26_14:AC:=.seq f26_15 f26_16
theorem f26_14e:SQ f26_14 f26_15 f26_16:=rfl
def f26_20l:List GI:=[vv 28 8,
    vb 29 .eql 28 0,
    vv 30 7,
    vv 31 8,
    vo 6 29,
    vo 7 30,
    vo 8 31]
def f26_20:AC:=.ops [6,7,8] [] f26_20l
theorem f26_20e:OP f26_20 f26_20l [6,7,8] []:=rfl
def f26_19:AC:=.seq f26_20 .ret
theorem f26_19e:SQ f26_19 f26_20 .ret:=rfl
def f26_13:AC:=.seq f26_14 f26_19
theorem f26_13e:SQ f26_13 f26_14 f26_19:=rfl
def f26_11:AC:=.seq f26_12 f26_13
theorem f26_11e:SQ f26_11 f26_12 f26_13:=rfl
def f26_3:AC:=.seq f26_4 f26_11
theorem f26_3e:SQ f26_3 f26_4 f26_11:=rfl
def f26_1:AC:=.seq f26_2 f26_3
theorem f26_1e:SQ f26_1 f26_2 f26_3:=rfl
def c_f26:AFun:=⟨32,[.tmp 6,.tmp 7,.tmp 8],f26_1⟩
theorem k_f26:bK Go.Proofs.Try.prog x_f26 26 = some c_f26:=by kernel_rfl
theorem e_f26:aS Go.Proofs.Try.prog 26 = true:=by kernel_rfl

def n_f27:Nat:=27
def x_f27:Cx:=⟨some,id,31,fun s=>([0,1,4,5,6,7,8,9,10,11,12,14,15,16,17,18,19,20,21,23,24,25,26,27,28,29,30]:List Nat).contains s,fun s=>([]:List Nat).contains s,msOf [(2,[0,1],[]),(12,[0,1,8],[]),(26,[0,1,8,13],[]),(108,[4,5,6,7],[]),(14,[0,1,4,6,7],[]),(60,[0,1,4,6,7,22],[]),(244,[4,5,6,7],[]),(62,[4,5,6,7],[])]⟩
def f27_2l:List GI:=[⟨none,.mv (some 4) (.c (.lit (.int .i64 0)))⟩,
    ⟨none,.mv (some 5) (.c (.lit (.bool false)))⟩,
    ⟨none,.mv (some 6) (.c (.lit (.slice none 0 0)))⟩,
    ⟨none,.mv (some 7) (.c (.lit (.int .i64 0)))⟩]
def f27_2:AC:=.ops [0,1] [] f27_2l
theorem f27_2e:OP f27_2 f27_2l [0,1] []:=rfl
def f27_5l:List GI:=[vv 9 0,
    vv 10 1,
    ⟨none,.call (some 11) false (.f 38) [(.r 9),(.r 10)]⟩,
    vo 8 11]
def f27_5:AC:=.ops [0,1,8] [] f27_5l
theorem f27_5e:OP f27_5 f27_5l [0,1,8] []:=rfl
def f27_7l:List GI:=[vv 12 8,
    vb 13 .neq 12 0]
def f27_7:AC:=.ops [0,1,8,13] [] f27_7l
theorem f27_7e:OP f27_7 f27_7l [0,1,8,13] []:=rfl
def f27_10l:List GI:=[vv 14 8,
    ⟨none,.mv (some 4) (.c (.lit (.int .i64 0)))⟩,
    ⟨none,.mv (some 5) (.c (.lit (.bool false)))⟩,
    ⟨none,.mv (some 6) (.c (.lit (.slice none 0 0)))⟩,
    vo 7 14]
def f27_10:AC:=.ops [4,5,6,7] [] f27_10l
theorem f27_10e:OP f27_10 f27_10l [4,5,6,7] []:=rfl
def f27_9:AC:=.seq f27_10 .ret
theorem f27_9e:SQ f27_9 f27_10 .ret:=rfl
def f27_8:AC:=.cond (.r 13) f27_9 .skip
theorem f27_8e:CN f27_8 13 f27_9 .skip:=rfl
def f27_6:AC:=.seq f27_7 f27_8
theorem f27_6e:SQ f27_6 f27_7 f27_8:=rfl
def f27_4:AC:=.seq f27_5 f27_6
theorem f27_4e:SQ f27_4 f27_5 f27_6:=rfl
def f27_12l:List GI:=[vv 16 0,
    ⟨none,.call (some 17) false (.f 20) [(.r 16)]⟩,
    vv 15 17,
    ve 18 15 0,
    ve 19 15 1,
    ve 20 15 2,
    vo 4 18,
    vo 6 19,
    vo 7 20]
def f27_12:AC:=.ops [0,1,4,6,7] [] f27_12l
theorem f27_12e:OP f27_12 f27_12l [0,1,4,6,7] []:=rfl
def f27_15l:List GI:=[vv 21 7,
    vb 22 .eql 21 16]
def f27_15:AC:=.ops [0,1,4,6,7,22] [] f27_15l
theorem f27_15e:OP f27_15 f27_15l [0,1,4,6,7,22] []:=rfl
def f27_18l:List GI:=[vv 23 0,
    vv 24 1,
    ⟨none,.call (some 25) false (.f 39) [(.r 23),(.c (.lit (.int .i64 1))),(.r 24),(.c (.lit (.int .i64 0)))]⟩,
    ⟨none,.mv (some 4) (.c (.lit (.int .i64 0)))⟩,
    ⟨none,.mv (some 5) (.c (.lit (.bool false)))⟩,
    ⟨none,.mv (some 6) (.c (.lit (.slice none 0 0)))⟩,
    vo 7 25]
def f27_18:AC:=.ops [4,5,6,7] [] f27_18l
theorem f27_18e:OP f27_18 f27_18l [4,5,6,7] []:=rfl
def f27_17:AC:=.seq f27_18 .ret
theorem f27_17e:SQ f27_17 f27_18 .ret:=rfl
def f27_16:AC:=.cond (.r 22) f27_17 .skip
theorem f27_16e:CN f27_16 22 f27_17 .skip:=rfl
def f27_14:AC:=.seq f27_15 f27_16
theorem f27_14e:SQ f27_14 f27_15 f27_16:=rfl
def f27_20l:List GI:=[vv 26 4,
    vv 27 7,
    vb 28 .eql 27 0,
    vv 29 6,
    vv 30 7,
    vo 4 26,
    vo 5 28,
    vo 6 29,
    vo 7 30]
def f27_20:AC:=.ops [4,5,6,7] [] f27_20l
theorem f27_20e:OP f27_20 f27_20l [4,5,6,7] []:=rfl
def f27_19:AC:=.seq f27_20 .ret
theorem f27_19e:SQ f27_19 f27_20 .ret:=rfl
def f27_13:AC:=.seq f27_14 f27_19
theorem f27_13e:SQ f27_13 f27_14 f27_19:=rfl
def f27_11:AC:=.seq f27_12 f27_13
theorem f27_11e:SQ f27_11 f27_12 f27_13:=rfl
def f27_3:AC:=.seq f27_4 f27_11
theorem f27_3e:SQ f27_3 f27_4 f27_11:=rfl
def f27_1:AC:=.seq f27_2 f27_3
theorem f27_1e:SQ f27_1 f27_2 f27_3:=rfl
def c_f27:AFun:=⟨31,[.tmp 4,.tmp 5,.tmp 6,.tmp 7],f27_1⟩
theorem k_f27:bK Go.Proofs.Try.prog x_f27 27 = some c_f27:=by kernel_rfl
theorem e_f27:aS Go.Proofs.Try.prog 27 = true:=by kernel_rfl

def n_f28:Nat:=28
def x_f28:Cx:=⟨some,id,37,fun s=>([0,1,4,5,7,8,9,10,11,13,15,19,20,21,24,28,30,35,36]:List Nat).contains s,fun s=>([]:List Nat).contains s,msOf [(2,[0,1],[]),(6,[0,1,5],[]),(14,[0,1,5,10],[]),(60,[0,1,5,10,12],[]),(244,[4],[]),(246,[0,1,5,14],[]),(988,[0,1,6],[6]),(1978,[0,1],[]),(3958,[],[]),(7918,[4],[]),(990,[4],[])]⟩
def f28_2l:List GI:=[⟨none,.mv (some 4) (.c (.lit (.int .i64 0)))⟩]
def f28_2:AC:=.ops [0,1] [] f28_2l
theorem f28_2e:OP f28_2 f28_2l [0,1] []:=rfl
def f28_4l:List GI:=[vv 7 0,
    vv 8 1,
    ⟨none,.call (some 9) false (.f 38) [(.r 7),(.r 8)]⟩,
    vo 5 9]
def f28_4:AC:=.ops [0,1,5] [] f28_4l
theorem f28_4e:OP f28_4 f28_4l [0,1,5] []:=rfl
def f28_6l:List GI:=[vv 10 5]
def f28_6:AC:=.ops [0,1,5,10] [] f28_6l
theorem f28_6e:OP f28_6 f28_6l [0,1,5,10] []:=rfl
def f28_9l:List GI:=[vb 13 .eql 10 0,
    vo 12 13]
def f28_9:AC:=.ops [0,1,5,10,12] [] f28_9l
theorem f28_9e:OP f28_9 f28_9l [0,1,5,10,12] []:=rfl
def f28_12l:List GI:=[⟨none,.mv (some 4) (.c (.lit (.int .i64 9)))⟩]
def f28_12:AC:=.ops [4] [] f28_12l
theorem f28_12e:OP f28_12 f28_12l [4] []:=rfl
def f28_11:AC:=.seq f28_12 .ret
theorem f28_11e:SQ f28_11 f28_12 .ret:=rfl
def f28_14l:List GI:=[vb 15 .eql 10 11,
    vo 14 15]
def f28_14:AC:=.ops [0,1,5,14] [] f28_14l
theorem f28_14e:OP f28_14 f28_14l [0,1,5,14] []:=rfl
def f28_17l:List GI:=[vv 16 0,
    vn 17 16,
    vd 18 17 6,
    vl 19 18,
    vv 20 1,
    ⟨none,.lookup (some 21) (.int .i64) (.agg [(.lit (.int .i64 0)),(.lit (.int .i64 0)),(.lit (.int .u64 0))]) false (.r 19) (.r 20)⟩,
    ⟨none,.newL 6 [(.lit (.int .i64 0)),(.lit (.int .i64 0)),(.lit (.int .u64 0))]⟩,
    ⟨none,.store 3 (.r 6) (.r 21)⟩]
def f28_17:AC:=.ops [0,1,6] [6] f28_17l
theorem f28_17e:OP f28_17 f28_17l [0,1,6] [6]:=rfl
def f28_19h:List GI:=[vv 22 0,
    vd 23 6 0,
    vl 24 23,
    vn 25 22,
    vd 26 25 4,
    ⟨none,.ixA (some 27) (.r 26) (.r 24) 2 1⟩,
    vl 28 27,
    vd 29 6 2,
    vl 30 29]
def f28_19l:List GI:=[⟨none,.call (some 31) false (.f 40) [(.r 28),(.r 30)]⟩]
def f28_19:AC:=.draw [0,1] [] [] f28_19h f28_19l
theorem f28_19e:aC P id m f28_19 sf st Q = aY P id sf.locs st f28_19h (cv P id m [] [0,1] [] f28_19l Q st) [] ⟨sf.regs,bk [] sf.locs⟩:=rfl
def f28_21l:List GI:=[vv 32 0,
    vn 33 32,
    vd 34 33 6,
    vl 35 34,
    vv 36 1,
    ⟨none,.del (.int .i64) (.r 35) (.r 36)⟩]
def f28_21:AC:=.ops [] [] f28_21l
theorem f28_21e:OP f28_21 f28_21l [] []:=rfl
def f28_23l:List GI:=[⟨none,.mv (some 4) (.c (.lit (.int .i64 0)))⟩]
def f28_23:AC:=.ops [4] [] f28_23l
theorem f28_23e:OP f28_23 f28_23l [4] []:=rfl
def f28_22:AC:=.seq f28_23 .ret
theorem f28_22e:SQ f28_22 f28_23 .ret:=rfl
def f28_20:AC:=.seq f28_21 f28_22
theorem f28_20e:SQ f28_20 f28_21 f28_22:=rfl
def f28_18:AC:=.seq f28_19 f28_20
theorem f28_18e:SQ f28_18 f28_19 f28_20:=rfl
def f28_16:AC:=.seq f28_17 f28_18
theorem f28_16e:SQ f28_16 f28_17 f28_18:=rfl
def f28_25l:List GI:=[vv 11 5,
    vo 4 11]
def f28_25:AC:=.ops [4] [] f28_25l
theorem f28_25e:OP f28_25 f28_25l [4] []:=rfl
def f28_24:AC:=.seq f28_25 .ret
theorem f28_24e:SQ f28_24 f28_25 .ret:=rfl
def f28_15:AC:=.cond (.r 14) f28_16 f28_24
theorem f28_15e:CN f28_15 14 f28_16 f28_24:=rfl
def f28_13:AC:=.seq f28_14 f28_15
theorem f28_13e:SQ f28_13 f28_14 f28_15:=rfl
def f28_10:AC:=.cond (.r 12) f28_11 f28_13
theorem f28_10e:CN f28_10 12 f28_11 f28_13:=rfl
def f28_8:AC:=.seq f28_9 f28_10
theorem f28_8e:SQ f28_8 f28_9 f28_10:=rfl
def f28_7:AC:=.block 0 f28_8
theorem f28_7e:BL f28_7 f28_8 0:=rfl
def f28_5:AC:=.seq f28_6 f28_7
theorem f28_5e:SQ f28_5 f28_6 f28_7:=rfl
def f28_3:AC:=.seq f28_4 f28_5
theorem f28_3e:SQ f28_3 f28_4 f28_5:=rfl
def f28_1:AC:=.seq f28_2 f28_3
theorem f28_1e:SQ f28_1 f28_2 f28_3:=rfl
def c_f28:AFun:=⟨37,[.tmp 4],f28_1⟩
theorem k_f28:bK Go.Proofs.Try.prog x_f28 28 = some c_f28:=by kernel_rfl
theorem e_f28:aS Go.Proofs.Try.prog 28 = true:=by kernel_rfl

def n_f29:Nat:=29
def x_f29:Cx:=⟨some,id,12,fun s=>([0,2,3,4,5,9,10,11]:List Nat).contains s,fun s=>([]:List Nat).contains s,msOf [(2,[0],[]),(6,[2],[])]⟩
def f29_2l:List GI:=[⟨none,.mv (some 2) (.c (.lit (.bool false)))⟩]
def f29_2:AC:=.ops [0] [] f29_2l
theorem f29_2e:OP f29_2 f29_2l [0] []:=rfl
def f29_4l:List GI:=[vv 3 0,
    ⟨none,.bin (some 4) (.nil .ptr) .eql (.r 3) (.c (.lit (.pointer none)))⟩,
    vv 5 4,
    ⟨some (5,false),.mv (some 6) (.r 0)⟩,
    ⟨some (5,false),.nilck (some 7) (.r 6)⟩,
    ⟨some (5,false),.addr (some 8) (.r 7) 0⟩,
    ⟨some (5,false),.load (some 9) (.r 8) none⟩,
    ⟨some (5,false),.un (some 10) .not (.r 9)⟩,
    ⟨none,.pick (some 11) (.r 5) (.c (.lit (.bool true))) (.r 10)⟩,
    vo 2 11]
def f29_4:AC:=.ops [2] [] f29_4l
theorem f29_4e:OP f29_4 f29_4l [2] []:=rfl
def f29_3:AC:=.seq f29_4 .ret
theorem f29_3e:SQ f29_3 f29_4 .ret:=rfl
def f29_1:AC:=.seq f29_2 f29_3
theorem f29_1e:SQ f29_1 f29_2 f29_3:=rfl
def c_f29:AFun:=⟨12,[.tmp 2],f29_1⟩
theorem k_f29:bK Go.Proofs.Try.prog x_f29 29 = some c_f29:=by kernel_rfl
theorem e_f29:aS Go.Proofs.Try.prog 29 = true:=by kernel_rfl

def n_f30:Nat:=30
def x_f30:Cx:=⟨some,id,10,fun s=>([0,2,3,8,9]:List Nat).contains s,fun s=>([]:List Nat).contains s,msOf [(2,[0],[]),(12,[0,4],[]),(52,[2],[]),(14,[2],[])]⟩
def f30_2l:List GI:=[⟨none,.mv (some 2) (.c (.lit (.int .i64 0)))⟩]
def f30_2:AC:=.ops [0] [] f30_2l
theorem f30_2e:OP f30_2 f30_2l [0] []:=rfl
def f30_5l:List GI:=[vv 3 0,
    ⟨none,.call (some 4) false (.f 41) [(.r 3)]⟩]
def f30_5:AC:=.ops [0,4] [] f30_5l
theorem f30_5e:OP f30_5 f30_5l [0,4] []:=rfl
def f30_8l:List GI:=[⟨none,.mv (some 2) (.c (.lit (.int .i64 0)))⟩]
def f30_8:AC:=.ops [2] [] f30_8l
theorem f30_8e:OP f30_8 f30_8l [2] []:=rfl
def f30_7:AC:=.seq f30_8 .ret
theorem f30_7e:SQ f30_7 f30_8 .ret:=rfl
def f30_6:AC:=.cond (.r 4) f30_7 .skip
theorem f30_6e:CN f30_6 4 f30_7 .skip:=rfl
def f30_4:AC:=.seq f30_5 f30_6
theorem f30_4e:SQ f30_4 f30_5 f30_6:=rfl
def f30_10l:List GI:=[vv 5 0,
    vn 6 5,
    vd 7 6 3,
    vl 8 7,
    ⟨none,.len (some 9) .mp (.r 8)⟩,
    vo 2 9]
def f30_10:AC:=.ops [2] [] f30_10l
theorem f30_10e:OP f30_10 f30_10l [2] []:=rfl
def f30_9:AC:=.seq f30_10 .ret
theorem f30_9e:SQ f30_9 f30_10 .ret:=rfl
def f30_3:AC:=.seq f30_4 f30_9
theorem f30_3e:SQ f30_3 f30_4 f30_9:=rfl
def f30_1:AC:=.seq f30_2 f30_3
theorem f30_1e:SQ f30_1 f30_2 f30_3:=rfl
def c_f30:AFun:=⟨10,[.tmp 2],f30_1⟩
theorem k_f30:bK Go.Proofs.Try.prog x_f30 30 = some c_f30:=by kernel_rfl
theorem e_f30:aS Go.Proofs.Try.prog 30 = true:=by kernel_rfl

def n_f31:Nat:=31
def x_f31:Cx:=⟨some,id,62,fun s=>([0,1,7,9,11,13,14,15,17,19,20,21,22,24,26,28,29,30,32,33,34,35,37,38,40,41,42,43,45,46,47,48,49,51,52,54,55,56,57,58,59,60,61]:List Nat).contains s,fun s=>([]:List Nat).contains s,msOf [(2,[2,3,4,5],[2,3,4,5]),(12,[2,3,4,5,7],[2,3,4,5]),(52,[2,3,4,5,7,8],[2,3,4,5]),(424,[2,3,4,5,12],[2,3,4,5]),(1700,[4,5],[4,5]),(426,[4,5],[4,5]),(214,[2,3,4,5,7,23],[2,3,4,5]),(1720,[2,3,4,5,27],[2,3,4,5]),(6884,[4,5],[4,5]),(1722,[4,5],[4,5]),(862,[2,3,4,5,7,36],[2,3,4,5]),(3452,[4,5],[4,5]),(3454,[2,3,4,5,7,44],[2,3,4,5]),(13820,[4,5],[4,5]),(13822,[2,3,4,5,50],[2,3,4,5]),(55292,[4,5],[4,5]),(14,[4,5],[4,5])]⟩
def f31_2l:List GI:=[⟨none,.boxL 2 5 (.r 0)⟩,
    ⟨none,.boxL 3 3 (.r 1)⟩,
    ⟨none,.newL 4 [(.lit (.int .i64 0)),(.lit (.slice none 0 0)),(.lit (.slice none 0 0)),(.lit (.slice none 0 0)),(.lit (.bool false))]⟩,
    ⟨none,.newL 5 [(.lit (.int .i64 0)),(.lit (.bool false)),(.lit (.slice none 0 0)),(.lit (.int .i64 0))]⟩]
def f31_2:AC:=.ops [2,3,4,5] [2,3,4,5] f31_2l
theorem f31_2e:OP f31_2 f31_2l [2,3,4,5] [2,3,4,5]:=rfl
def f31_5l:List GI:=[vd 6 3 0,
    vl 7 6]
def f31_5:AC:=.ops [2,3,4,5,7] [2,3,4,5] f31_5l
theorem f31_5e:OP f31_5 f31_5l [2,3,4,5,7] [2,3,4,5]:=rfl
def f31_8l:List GI:=[vb 9 .eql 7 0,
    vo 8 9]
def f31_8:AC:=.ops [2,3,4,5,7,8] [2,3,4,5] f31_8l
theorem f31_8e:OP f31_8 f31_8l [2,3,4,5,7,8] [2,3,4,5]:=rfl
def f31_12l:List GI:=[vd 10 3 1,
    vl 11 10,
    vb 12 .lss 11 0]
def f31_12:AC:=.ops [2,3,4,5,12] [2,3,4,5] f31_12l
theorem f31_12e:OP f31_12 f31_12l [2,3,4,5,12] [2,3,4,5]:=rfl
def f31_15l:List GI:=[⟨none,.load (some 13) (.r 2) (some 5)⟩,
    ⟨none,.bst (some 14) [(0,1),(1,1),(2,1),(3,1)] (.agg [(.lit (.int .i64 0)),(.lit (.bool false)),(.lit (.slice none 0 0)),(.lit (.int .i64 0))]) [(3,(.c (.lit (.int .i64 2))))]⟩,
    ⟨none,.store 5 (.r 4) (.r 13)⟩,
    ⟨none,.store 4 (.r 5) (.r 14)⟩]
def f31_15:AC:=.ops [4,5] [4,5] f31_15l
theorem f31_15e:OP f31_15 f31_15l [4,5] [4,5]:=rfl
def f31_14:AC:=.seq f31_15 .ret
theorem f31_14e:SQ f31_14 f31_15 .ret:=rfl
def f31_13:AC:=.cond (.r 12) f31_14 .skip
theorem f31_13e:CN f31_13 12 f31_14 .skip:=rfl
def f31_11:AC:=.seq f31_12 f31_13
theorem f31_11e:SQ f31_11 f31_12 f31_13:=rfl
def f31_17l:List GI:=[⟨none,.load (some 15) (.r 2) (some 5)⟩,
    vd 16 3 1,
    vl 17 16,
    vd 18 3 2,
    vl 19 18,
    ⟨none,.call (some 20) false (.f 42) [(.r 15),(.r 17),(.r 19)]⟩,
    ve 21 20 0,
    ve 22 20 1,
    ⟨none,.store 5 (.r 4) (.r 21)⟩,
    ⟨none,.store 4 (.r 5) (.r 22)⟩]
def f31_17:AC:=.ops [4,5] [4,5] f31_17l
theorem f31_17e:OP f31_17 f31_17l [4,5] [4,5]:=rfl
def f31_16:AC:=.seq f31_17 .ret
theorem f31_16e:SQ f31_16 f31_17 .ret:=rfl
def f31_10:AC:=.seq f31_11 f31_16
theorem f31_10e:SQ f31_10 f31_11 f31_16:=rfl
def f31_19l:List GI:=[vb 24 .eql 7 1,
    vo 23 24]
def f31_19:AC:=.ops [2,3,4,5,7,23] [2,3,4,5] f31_19l
theorem f31_19e:OP f31_19 f31_19l [2,3,4,5,7,23] [2,3,4,5]:=rfl
def f31_23l:List GI:=[vd 25 3 1,
    vl 26 25,
    vb 27 .lss 26 0]
def f31_23:AC:=.ops [2,3,4,5,27] [2,3,4,5] f31_23l
theorem f31_23e:OP f31_23 f31_23l [2,3,4,5,27] [2,3,4,5]:=rfl
def f31_26l:List GI:=[⟨none,.load (some 28) (.r 2) (some 5)⟩,
    ⟨none,.bst (some 29) [(0,1),(1,1),(2,1),(3,1)] (.agg [(.lit (.int .i64 0)),(.lit (.bool false)),(.lit (.slice none 0 0)),(.lit (.int .i64 0))]) [(3,(.c (.lit (.int .i64 2))))]⟩,
    ⟨none,.store 5 (.r 4) (.r 28)⟩,
    ⟨none,.store 4 (.r 5) (.r 29)⟩]
def f31_26:AC:=.ops [4,5] [4,5] f31_26l
theorem f31_26e:OP f31_26 f31_26l [4,5] [4,5]:=rfl
def f31_25:AC:=.seq f31_26 .ret
theorem f31_25e:SQ f31_25 f31_26 .ret:=rfl
def f31_24:AC:=.cond (.r 27) f31_25 .skip
theorem f31_24e:CN f31_24 27 f31_25 .skip:=rfl
def f31_22:AC:=.seq f31_23 f31_24
theorem f31_22e:SQ f31_22 f31_23 f31_24:=rfl
def f31_28l:List GI:=[⟨none,.load (some 30) (.r 2) (some 5)⟩,
    vd 31 3 1,
    vl 32 31,
    ⟨none,.call (some 33) false (.f 43) [(.r 30),(.r 32)]⟩,
    ve 34 33 0,
    ve 35 33 1,
    ⟨none,.store 5 (.r 4) (.r 34)⟩,
    ⟨none,.store 4 (.r 5) (.r 35)⟩]
def f31_28:AC:=.ops [4,5] [4,5] f31_28l
theorem f31_28e:OP f31_28 f31_28l [4,5] [4,5]:=rfl
def f31_27:AC:=.seq f31_28 .ret
theorem f31_27e:SQ f31_27 f31_28 .ret:=rfl
def f31_21:AC:=.seq f31_22 f31_27
theorem f31_21e:SQ f31_21 f31_22 f31_27:=rfl
def f31_30l:List GI:=[vb 37 .eql 7 2,
    vo 36 37]
def f31_30:AC:=.ops [2,3,4,5,7,36] [2,3,4,5] f31_30l
theorem f31_30e:OP f31_30 f31_30l [2,3,4,5,7,36] [2,3,4,5]:=rfl
def f31_33l:List GI:=[⟨none,.load (some 38) (.r 2) (some 5)⟩,
    vd 39 3 2,
    vl 40 39,
    ⟨none,.call (some 41) false (.f 42) [(.r 38),(.c (.lit (.int .i64 (-1)))),(.r 40)]⟩,
    ve 42 41 0,
    ve 43 41 1,
    ⟨none,.store 5 (.r 4) (.r 42)⟩,
    ⟨none,.store 4 (.r 5) (.r 43)⟩]
def f31_33:AC:=.ops [4,5] [4,5] f31_33l
theorem f31_33e:OP f31_33 f31_33l [4,5] [4,5]:=rfl
def f31_32:AC:=.seq f31_33 .ret
theorem f31_32e:SQ f31_32 f31_33 .ret:=rfl
def f31_35l:List GI:=[vb 45 .eql 7 3,
    vo 44 45]
def f31_35:AC:=.ops [2,3,4,5,7,44] [2,3,4,5] f31_35l
theorem f31_35e:OP f31_35 f31_35l [2,3,4,5,7,44] [2,3,4,5]:=rfl
def f31_38l:List GI:=[⟨none,.load (some 46) (.r 2) (some 5)⟩,
    ⟨none,.call (some 47) false (.f 43) [(.r 46),(.c (.lit (.int .i64 (-1))))]⟩,
    ve 48 47 0,
    ve 49 47 1,
    ⟨none,.store 5 (.r 4) (.r 48)⟩,
    ⟨none,.store 4 (.r 5) (.r 49)⟩]
def f31_38:AC:=.ops [4,5] [4,5] f31_38l
theorem f31_38e:OP f31_38 f31_38l [4,5] [4,5]:=rfl
def f31_37:AC:=.seq f31_38 .ret
theorem f31_37e:SQ f31_37 f31_38 .ret:=rfl
def f31_40l:List GI:=[vb 51 .eql 7 4,
    vo 50 51]
def f31_40:AC:=.ops [2,3,4,5,50] [2,3,4,5] f31_40l
theorem f31_40e:OP f31_40 f31_40l [2,3,4,5,50] [2,3,4,5]:=rfl
def f31_43l:List GI:=[⟨none,.load (some 52) (.r 2) (some 5)⟩,
    vd 53 3 1,
    vl 54 53,
    ⟨none,.call (some 55) false (.f 44) [(.r 52),(.r 54)]⟩,
    ve 56 55 0,
    ve 57 55 1,
    ⟨none,.store 5 (.r 4) (.r 56)⟩,
    ⟨none,.store 4 (.r 5) (.r 57)⟩]
def f31_43:AC:=.ops [4,5] [4,5] f31_43l
theorem f31_43e:OP f31_43 f31_43l [4,5] [4,5]:=rfl
def f31_42:AC:=.seq f31_43 .ret
theorem f31_42e:SQ f31_42 f31_43 .ret:=rfl
def f31_41:AC:=.cond (.r 50) f31_42 .skip
theorem f31_41e:CN f31_41 50 f31_42 .skip:=rfl
def f31_39:AC:=.seq f31_40 f31_41
theorem f31_39e:SQ f31_39 f31_40 f31_41:=rfl
def f31_36:AC:=.cond (.r 44) f31_37 f31_39
theorem f31_36e:CN f31_36 44 f31_37 f31_39:=rfl
def f31_34:AC:=.seq f31_35 f31_36
theorem f31_34e:SQ f31_34 f31_35 f31_36:=rfl
def f31_31:AC:=.cond (.r 36) f31_32 f31_34
theorem f31_31e:CN f31_31 36 f31_32 f31_34:=rfl
def f31_29:AC:=.seq f31_30 f31_31
theorem f31_29e:SQ f31_29 f31_30 f31_31:=rfl
def f31_20:AC:=.cond (.r 23) f31_21 f31_29
theorem f31_20e:CN f31_20 23 f31_21 f31_29:=rfl
def f31_18:AC:=.seq f31_19 f31_20
theorem f31_18e:SQ f31_18 f31_19 f31_20:=rfl
def f31_9:AC:=.cond (.r 8) f31_10 f31_18
theorem f31_9e:CN f31_9 8 f31_10 f31_18:=rfl
def f31_7:AC:=.seq f31_8 f31_9
theorem f31_7e:SQ f31_7 f31_8 f31_9:=rfl
def f31_6:AC:=.block 0 f31_7
theorem f31_6e:BL f31_6 f31_7 0:=rfl
def f31_4:AC:=.seq f31_5 f31_6
theorem f31_4e:SQ f31_4 f31_5 f31_6:=rfl
def f31_45l:List GI:=[⟨none,.load (some 58) (.r 2) (some 5)⟩,
    ⟨none,.call (some 59) false (.f 45) [(.r 58)]⟩,
    ve 60 59 0,
    ve 61 59 1,
    ⟨none,.store 5 (.r 4) (.r 60)⟩,
    ⟨none,.store 4 (.r 5) (.r 61)⟩]
def f31_45:AC:=.ops [4,5] [4,5] f31_45l
theorem f31_45e:OP f31_45 f31_45l [4,5] [4,5]:=rfl
def f31_44:AC:=.seq f31_45 .ret
theorem f31_44e:SQ f31_44 f31_45 .ret:=rfl
def f31_3:AC:=.seq f31_4 f31_44
theorem f31_3e:SQ f31_3 f31_4 f31_44:=rfl
def f31_1:AC:=.seq f31_2 f31_3
theorem f31_1e:SQ f31_1 f31_2 f31_3:=rfl
def c_f31:AFun:=⟨62,[.cell 4 (some 5),.cell 5 (some 4)],f31_1⟩
theorem k_f31:bK Go.Proofs.Try.prog x_f31 31 = some c_f31:=by kernel_rfl
theorem e_f31:aS Go.Proofs.Try.prog 31 = true:=by kernel_rfl

def n_f32:Nat:=32
def x_f32:Cx:=⟨some,id,36,fun s=>([1,4,5,6,8,9,11,15,16,17,18,19,20,25,26,27,28,32,33,34,35]:List Nat).contains s,fun s=>([]:List Nat).contains s,msOf [(2,[0,1],[]),(6,[0,4,8],[]),(28,[0,4,21],[]),(116,[4,5,6],[]),(30,[0,4,5],[]),(62,[4,5],[]),(126,[4,5,6],[])]⟩
def f32_2l:List GI:=[⟨none,.mv (some 4) (.c (.lit (.int .i64 0)))⟩,
    ⟨none,.mv (some 5) (.c (.lit (.int .i64 0)))⟩,
    ⟨none,.mv (some 6) (.c (.lit (.bool false)))⟩]
def f32_2:AC:=.ops [0,1] [] f32_2l
theorem f32_2e:OP f32_2 f32_2l [0,1] []:=rfl
def f32_4l:List GI:=[vv 10 0,
    vv 11 1,
    vn 12 10,
    vd 13 12 4,
    ⟨none,.ixA (some 14) (.r 13) (.r 11) 2 1⟩,
    vl 15 14,
    ⟨none,.call (some 16) false (.f 46) [(.r 15)]⟩,
    vv 9 16,
    ve 17 9 0,
    ve 18 9 1,
    ve 19 9 2,
    vo 4 17,
    vo 7 18,
    vo 8 19]
def f32_4:AC:=.ops [0,4,8] [] f32_4l
theorem f32_4e:OP f32_4 f32_4l [0,4,8] []:=rfl
def f32_7l:List GI:=[vv 20 8,
    vb 21 .neq 20 0]
def f32_7:AC:=.ops [0,4,21] [] f32_7l
theorem f32_7e:OP f32_7 f32_7l [0,4,21] []:=rfl
def f32_10l:List GI:=[⟨none,.mv (some 4) (.c (.lit (.int .i64 0)))⟩,
    ⟨none,.mv (some 5) (.c (.lit (.int .i64 0)))⟩,
    ⟨none,.mv (some 6) (.c (.lit (.bool false)))⟩]
def f32_10:AC:=.ops [4,5,6] [] f32_10l
theorem f32_10e:OP f32_10 f32_10l [4,5,6] []:=rfl
def f32_9:AC:=.seq f32_10 .ret
theorem f32_9e:SQ f32_9 f32_10 .ret:=rfl
def f32_8:AC:=.cond (.r 21) f32_9 .skip
theorem f32_8e:CN f32_8 21 f32_9 .skip:=rfl
def f32_6:AC:=.seq f32_7 f32_8
theorem f32_6e:SQ f32_6 f32_7 f32_8:=rfl
def f32_12l:List GI:=[vv 22 0,
    vn 23 22,
    vd 24 23 6,
    vl 25 24,
    vv 26 4,
    ⟨none,.lookup (some 27) (.int .i64) (.agg [(.lit (.int .i64 0)),(.lit (.int .i64 0)),(.lit (.int .u64 0))]) false (.r 25) (.r 26)⟩,
    ⟨none,.field (some 28) (.r 27) 1 none⟩,
    vo 5 28]
def f32_12:AC:=.ops [0,4,5] [] f32_12l
theorem f32_12e:OP f32_12 f32_12l [0,4,5] []:=rfl
def f32_14l:List GI:=[vv 29 0,
    vn 30 29,
    vd 31 30 6,
    vl 32 31,
    vv 33 4,
    ⟨none,.del (.int .i64) (.r 32) (.r 33)⟩]
def f32_14:AC:=.ops [4,5] [] f32_14l
theorem f32_14e:OP f32_14 f32_14l [4,5] []:=rfl
def f32_16l:List GI:=[vv 34 4,
    vv 35 5,
    vo 4 34,
    vo 5 35,
    ⟨none,.mv (some 6) (.c (.lit (.bool true)))⟩]
def f32_16:AC:=.ops [4,5,6] [] f32_16l
theorem f32_16e:OP f32_16 f32_16l [4,5,6] []:=rfl
def f32_15:AC:=.seq f32_16 .ret
theorem f32_15e:SQ f32_15 f32_16 .ret:=rfl
def f32_13:AC:=.seq f32_14 f32_15
theorem f32_13e:SQ f32_13 f32_14 f32_15:=rfl
def f32_11:AC:=.seq f32_12 f32_13
theorem f32_11e:SQ f32_11 f32_12 f32_13:=rfl
def f32_5:AC:=.seq f32_6 f32_11
theorem f32_5e:SQ f32_5 f32_6 f32_11:=rfl
def f32_3:AC:=.seq f32_4 f32_5
theorem f32_3e:SQ f32_3 f32_4 f32_5:=rfl
def f32_1:AC:=.seq f32_2 f32_3
theorem f32_1e:SQ f32_1 f32_2 f32_3:=rfl
def c_f32:AFun:=⟨36,[.tmp 4,.tmp 5,.tmp 6],f32_1⟩
theorem k_f32:bK Go.Proofs.Try.prog x_f32 32 = some c_f32:=by kernel_rfl
theorem e_f32:aS Go.Proofs.Try.prog 32 = true:=by kernel_rfl

def n_f33:Nat:=33
def x_f33:Cx:=⟨some,id,33,fun s=>([0,1,2,6,7,8,9,10,11,12,14,15,17,18,19,20,21,22,23,24,25,26,27,28,29,30,31,32]:List Nat).contains s,fun s=>([0,20,22,26,27,31]:List Nat).contains s,msOf [(2,[0,1,2],[]),(6,[0,1,2],[]),(28,[0,1,2,16],[]),(116,[6],[]),(30,[0,1,2,7],[]),(62,[0,7],[]),(126,[0],[]),(254,[6],[])]⟩
def f33_2l:List GI:=[⟨none,.mv (some 6) (.c (.lit (.slice none 0 0)))⟩]
def f33_2:AC:=.ops [0,1,2] [] f33_2l
theorem f33_2e:OP f33_2 f33_2l [0,1,2] []:=rfl
def f33_4l:List GI:=[vv 8 0,
    vv 9 1,
    vv 10 2,
    vv 11 0,
    ⟨none,.len (some 12) .sl (.r 11)⟩,
    ⟨none,.sli3 (some 13) (.r 8) (some (.r 9)) (some (.r 10)) (.r 12) 1⟩]
def f33_4:AC:=.ops [0,1,2] [] f33_4l
theorem f33_4e:OP f33_4 f33_4l [0,1,2] []:=rfl
def f33_7l:List GI:=[vv 14 1,
    vv 15 2,
    ⟨none,.bin (some 16) .num .eql (.r 14) (.r 15)⟩]
def f33_7:AC:=.ops [0,1,2,16] [] f33_7l
theorem f33_7e:OP f33_7 f33_7l [0,1,2,16] []:=rfl
def f33_10l:List GI:=[vv 17 0,
    vo 6 17]
def f33_10:AC:=.ops [6] [] f33_10l
theorem f33_10e:OP f33_10 f33_10l [6] []:=rfl
def f33_9:AC:=.seq f33_10 .ret
theorem f33_9e:SQ f33_9 f33_10 .ret:=rfl
def f33_8:AC:=.cond (.r 16) f33_9 .skip
theorem f33_8e:CN f33_8 16 f33_9 .skip:=rfl
def f33_6:AC:=.seq f33_7 f33_8
theorem f33_6e:SQ f33_6 f33_7 f33_8:=rfl
def f33_12l:List GI:=[vv 18 0,
    ⟨none,.len (some 19) .sl (.r 18)⟩,
    vo 7 19]
def f33_12:AC:=.ops [0,1,2,7] [] f33_12l
theorem f33_12e:OP f33_12 f33_12l [0,1,2,7] []:=rfl
def f33_14h:List GI:=[vv 20 0,
    vv 21 1,
    ⟨none,.sliS (some 22) (.r 20) none (some (.r 21)) 1⟩,
    vv 23 0,
    vv 24 2,
    ⟨none,.sliS (some 25) (.r 23) (some (.r 24)) none 1⟩]
def f33_14l:List GI:=[⟨none,.x (some 26) (.appB (.r 22) 1 8 (.r 25))⟩,
    vo 0 26]
def f33_14:AC:=.draw [0,7] [] [] f33_14h f33_14l
theorem f33_14e:aC P id m f33_14 sf st Q = aY P id sf.locs st f33_14h (cv P id m [] [0,7] [] f33_14l Q st) [] ⟨sf.regs,bk [] sf.locs⟩:=rfl
def f33_16l:List GI:=[vv 27 0,
    vv 28 0,
    ⟨none,.len (some 29) .sl (.r 28)⟩,
    vv 30 7,
    ⟨none,.sliS (some 31) (.r 27) (some (.r 29)) (some (.r 30)) 1⟩,
    ⟨none,.x none (.clrB 1 (.lit (.int .i64 0)) (.r 31))⟩]
def f33_16:AC:=.ops [0] [] f33_16l
theorem f33_16e:OP f33_16 f33_16l [0] []:=rfl
def f33_18l:List GI:=[vv 32 0,
    vo 6 32]
def f33_18:AC:=.ops [6] [] f33_18l
theorem f33_18e:OP f33_18 f33_18l [6] []:=rfl
def f33_17:AC:=.seq f33_18 .ret
theorem f33_17e:SQ f33_17 f33_18 .ret:=rfl
def f33_15:AC:=.seq f33_16 f33_17
theorem f33_15e:SQ f33_15 f33_16 f33_17:=rfl
def f33_13:AC:=.seq f33_14 f33_15
theorem f33_13e:SQ f33_13 f33_14 f33_15:=rfl
def f33_11:AC:=.seq f33_12 f33_13
theorem f33_11e:SQ f33_11 f33_12 f33_13:=rfl
def f33_5:AC:=.seq f33_6 f33_11
theorem f33_5e:SQ f33_5 f33_6 f33_11:=rfl
def f33_3:AC:=.seq f33_4 f33_5
theorem f33_3e:SQ f33_3 f33_4 f33_5:=rfl
def f33_1:AC:=.seq f33_2 f33_3
theorem f33_1e:SQ f33_1 f33_2 f33_3:=rfl
def c_f33:AFun:=⟨33,[.tmp 6],f33_1⟩
theorem k_f33:bK Go.Proofs.Try.prog x_f33 33 = some c_f33:=by kernel_rfl
theorem e_f33:aS Go.Proofs.Try.prog 33 = true:=by kernel_rfl

def n_f34:Nat:=34
def x_f34:Cx:=⟨some,id,4,fun s=>([0,2,3]:List Nat).contains s,fun s=>([]:List Nat).contains s,msOf [(2,[0],[]),(6,[2],[])]⟩
def f34_2l:List GI:=[⟨none,.mv (some 2) (.c (.lit (.slice none 0 0)))⟩]
def f34_2:AC:=.ops [0] [] f34_2l
theorem f34_2e:OP f34_2 f34_2l [0] []:=rfl
def f34_4l:List GI:=[vv 3 0,
    vo 2 3]
def f34_4:AC:=.ops [2] [] f34_4l
theorem f34_4e:OP f34_4 f34_4l [2] []:=rfl
def f34_3:AC:=.seq f34_4 .ret
theorem f34_3e:SQ f34_3 f34_4 .ret:=rfl
def f34_1:AC:=.seq f34_2 f34_3
theorem f34_1e:SQ f34_1 f34_2 f34_3:=rfl
def c_f34:AFun:=⟨4,[.tmp 2],f34_1⟩
theorem k_f34:bK Go.Proofs.Try.prog x_f34 34 = some c_f34:=by kernel_rfl
theorem e_f34:aS Go.Proofs.Try.prog 34 = true:=by kernel_rfl

def n_f35:Nat:=35
def x_f35:Cx:=⟨some,id,8,fun s=>([0,2,3,5,6,7]:List Nat).contains s,fun s=>([5,7]:List Nat).contains s,msOf [(2,[0],[]),(12,[0,4],[]),(52,[2],[]),(14,[2],[])]⟩
def f35_2l:List GI:=[⟨none,.mv (some 2) (.c (.lit (.slice none 0 0)))⟩]
def f35_2:AC:=.ops [0] [] f35_2l
theorem f35_2e:OP f35_2 f35_2l [0] []:=rfl
def f35_5l:List GI:=[vv 3 0,
    ⟨none,.x (some 4) (.nilU .eql (.r 3) (.c (.lit (.slice none 0 0))))⟩]
def f35_5:AC:=.ops [0,4] [] f35_5l
theorem f35_5e:OP f35_5 f35_5l [0,4] []:=rfl
def f35_8l:List GI:=[⟨none,.mv (some 2) (.c (.lit (.slice none 0 0)))⟩]
def f35_8:AC:=.ops [2] [] f35_8l
theorem f35_8e:OP f35_8 f35_8l [2] []:=rfl
def f35_7:AC:=.seq f35_8 .ret
theorem f35_7e:SQ f35_7 f35_8 .ret:=rfl
def f35_6:AC:=.cond (.r 4) f35_7 .skip
theorem f35_6e:CN f35_6 4 f35_7 .skip:=rfl
def f35_4:AC:=.seq f35_5 f35_6
theorem f35_4e:SQ f35_4 f35_5 f35_6:=rfl
def f35_10l:List GI:=[⟨none,.x (some 5) (.mksB 1 8 (.lit (.int .i64 0)) (.c (.lit (.int .i64 0))) (.c (.lit (.int .i64 0))))⟩,
    vv 6 0,
    ⟨none,.x (some 7) (.appB (.r 5) 1 8 (.r 6))⟩,
    vo 2 7]
def f35_10:AC:=.ops [2] [] f35_10l
theorem f35_10e:OP f35_10 f35_10l [2] []:=rfl
def f35_9:AC:=.seq f35_10 .ret
theorem f35_9e:SQ f35_9 f35_10 .ret:=rfl
def f35_3:AC:=.seq f35_4 f35_9
theorem f35_3e:SQ f35_3 f35_4 f35_9:=rfl
def f35_1:AC:=.seq f35_2 f35_3
theorem f35_1e:SQ f35_1 f35_2 f35_3:=rfl
def c_f35:AFun:=⟨8,[.tmp 2],f35_1⟩
theorem k_f35:bK Go.Proofs.Try.prog x_f35 35 = some c_f35:=by kernel_rfl
theorem e_f35:aS Go.Proofs.Try.prog 35 = true:=by kernel_rfl

def n_f36:Nat:=36
def x_f36:Cx:=⟨some,id,16,fun s=>([0,2,3,8,12,13,14,15]:List Nat).contains s,fun s=>([13]:List Nat).contains s,msOf [(2,[0],[]),(12,[0,4],[]),(52,[2],[]),(14,[2],[])]⟩
def f36_2l:List GI:=[⟨none,.mv (some 2) (.c (.lit (.pointer none)))⟩]
def f36_2:AC:=.ops [0] [] f36_2l
theorem f36_2e:OP f36_2 f36_2l [0] []:=rfl
def f36_5l:List GI:=[vv 3 0,
    ⟨none,.call (some 4) false (.f 41) [(.r 3)]⟩]
def f36_5:AC:=.ops [0,4] [] f36_5l
theorem f36_5e:OP f36_5 f36_5l [0,4] []:=rfl
def f36_8l:List GI:=[⟨none,.mv (some 2) (.c (.lit (.pointer none)))⟩]
def f36_8:AC:=.ops [2] [] f36_8l
theorem f36_8e:OP f36_8 f36_8l [2] []:=rfl
def f36_7:AC:=.seq f36_8 .ret
theorem f36_7e:SQ f36_7 f36_8 .ret:=rfl
def f36_6:AC:=.cond (.r 4) f36_7 .skip
theorem f36_6e:CN f36_6 4 f36_7 .skip:=rfl
def f36_4:AC:=.seq f36_5 f36_6
theorem f36_4e:SQ f36_4 f36_5 f36_6:=rfl
def f36_10h:List GI:=[vv 5 0,
    vn 6 5,
    vd 7 6 0,
    ⟨none,.load (some 8) (.r 7) (some 3)⟩,
    vv 9 0,
    vn 10 9,
    vd 11 10 3,
    vl 12 11]
def f36_10p:List (Bool×GI):=[]
def f36_10l:List GI:=[⟨none,.bst (some 14) [(0,3),(3,1)] (.agg [(.lit (.int .u64 0)),(.lit (.int .u64 0)),(.lit (.int .u64 0)),(.lit (.map none))]) [(0,(.r 8)),(1,(.r 13))]⟩,
    ⟨none,.boxB 15 4 (.r 14)⟩,
    vo 2 15]
def f36_10:AC:=.drawM [2] [] f36_10h (some 13) (.f 47) [(.r 12)] f36_10p f36_10l
theorem f36_10e:aC P id m f36_10 sf st Q = (m = false∧drawM P id f36_10h (some 13) (.f 47) [(.r 12)] f36_10p sf st (jI P id m [2] [] f36_10l Q)):=rfl
def f36_9:AC:=.seq f36_10 .ret
theorem f36_9e:SQ f36_9 f36_10 .ret:=rfl
def f36_3:AC:=.seq f36_4 f36_9
theorem f36_3e:SQ f36_3 f36_4 f36_9:=rfl
def f36_1:AC:=.seq f36_2 f36_3
theorem f36_1e:SQ f36_1 f36_2 f36_3:=rfl
def c_f36:AFun:=⟨16,[.tmp 2],f36_1⟩
theorem k_f36:bK Go.Proofs.Try.prog x_f36 36 = some c_f36:=by kernel_rfl
theorem e_f36:aS Go.Proofs.Try.prog 36 = true:=by kernel_rfl

def n_f37:Nat:=37
def x_f37:Cx:=⟨some,id,26,fun s=>([0,1,4,5,6,7,8,9,11,12,13,15,16,18,20,22,24]:List Nat).contains s,fun s=>([]:List Nat).contains s,msOf [(2,[0,1],[]),(12,[0,1,10],[]),(52,[4],[]),(28,[0,1,5],[]),(58,[0,1,5],[]),(464,[0,1,5,14],[]),(931,[],[]),(1864,[0,1,5,25],[]),(7460,[4],[]),(467,[0,1,5],[]),(30,[4],[])]⟩
def f37_2l:List GI:=[⟨none,.mv (some 4) (.c (.lit (.bool false)))⟩]
def f37_2:AC:=.ops [0,1] [] f37_2l
theorem f37_2e:OP f37_2 f37_2l [0,1] []:=rfl
def f37_5l:List GI:=[vv 6 0,
    ⟨none,.len (some 7) .sl (.r 6)⟩,
    vv 8 1,
    ⟨none,.len (some 9) .sl (.r 8)⟩,
    ⟨none,.bin (some 10) .num .neq (.r 7) (.r 9)⟩]
def f37_5:AC:=.ops [0,1,10] [] f37_5l
theorem f37_5e:OP f37_5 f37_5l [0,1,10] []:=rfl
def f37_8l:List GI:=[⟨none,.mv (some 4) (.c (.lit (.bool false)))⟩]
def f37_8:AC:=.ops [4] [] f37_8l
theorem f37_8e:OP f37_8 f37_8l [4] []:=rfl
def f37_7:AC:=.seq f37_8 .ret
theorem f37_7e:SQ f37_7 f37_8 .ret:=rfl
def f37_6:AC:=.cond (.r 10) f37_7 .skip
theorem f37_6e:CN f37_6 10 f37_7 .skip:=rfl
def f37_4:AC:=.seq f37_5 f37_6
theorem f37_4e:SQ f37_4 f37_5 f37_6:=rfl
def f37_11l:List GI:=[⟨none,.mv (some 5) (.c (.lit (.int .i64 0)))⟩]
def f37_11:AC:=.ops [0,1,5] [] f37_11l
theorem f37_11e:OP f37_11 f37_11l [0,1,5] []:=rfl
def f37_16l:List GI:=[vv 11 5,
    vv 12 0,
    ⟨none,.len (some 13) .sl (.r 12)⟩,
    ⟨none,.bin (some 14) .num .lss (.r 11) (.r 13)⟩]
def f37_16:AC:=.ops [0,1,5,14] [] f37_16l
theorem f37_16e:OP f37_16 f37_16l [0,1,5,14] []:=rfl
def f37_17:AC:=.cond (.r 14) .skip (.exit [] [] 0)
theorem f37_17e:CN f37_17 14 .skip (.exit [] [] 0):=rfl
def f37_15:AC:=.seq f37_16 f37_17
theorem f37_15e:SQ f37_15 f37_16 f37_17:=rfl
def f37_21h:List GI:=[vv 17 0,
    vv 18 5,
    ⟨none,.ixS (some 19) (.r 17) (.r 18) 4⟩,
    ⟨none,.load (some 20) (.r 19) (some 4)⟩,
    vv 21 1,
    vv 22 5,
    ⟨none,.ixS (some 23) (.r 21) (.r 22) 4⟩,
    ⟨none,.load (some 24) (.r 23) (some 4)⟩]
def f37_21l:List GI:=[⟨none,.bin (some 25) (.agg (.field 0 1 .int (.field 1 1 .int (.field 2 1 .int (.field 3 1 .int .tt))))) .neq (.r 20) (.r 24)⟩]
def f37_21:AC:=.draw [0,1,5,25] [] [] f37_21h f37_21l
theorem f37_21e:aC P id m f37_21 sf st Q = aY P id sf.locs st f37_21h (cv P id m [] [0,1,5,25] [] f37_21l Q st) [] ⟨sf.regs,bk [] sf.locs⟩:=rfl
def f37_24l:List GI:=[⟨none,.mv (some 4) (.c (.lit (.bool false)))⟩]
def f37_24:AC:=.ops [4] [] f37_24l
theorem f37_24e:OP f37_24 f37_24l [4] []:=rfl
def f37_23:AC:=.seq f37_24 .ret
theorem f37_23e:SQ f37_23 f37_24 .ret:=rfl
def f37_22:AC:=.cond (.r 25) f37_23 .skip
theorem f37_22e:CN f37_22 25 f37_23 .skip:=rfl
def f37_20:AC:=.seq f37_21 f37_22
theorem f37_20e:SQ f37_20 f37_21 f37_22:=rfl
def f37_19:AC:=.block 1 f37_20
theorem f37_19e:BL f37_19 f37_20 1:=rfl
def f37_25l:List GI:=[vv 15 5,
    vb 16 .add 15 1,
    vo 5 16]
def f37_25:AC:=.ops [0,1,5] [] f37_25l
theorem f37_25e:OP f37_25 f37_25l [0,1,5] []:=rfl
def f37_18:AC:=.seq f37_19 f37_25
theorem f37_18e:SQ f37_18 f37_19 f37_25:=rfl
def f37_14:AC:=.seq f37_15 f37_18
theorem f37_14e:SQ f37_14 f37_15 f37_18:=rfl
def f37_13:AC:=.loop [0,1,5] [] f37_14
theorem f37_13w:aC P id m f37_13 sf st Q = cF (aC P id m f37_14) [0,1,5] [] sf st Q:=rfl
def f37_12:AC:=.block 0 f37_13
theorem f37_12e:BL f37_12 f37_13 0:=rfl
def f37_10:AC:=.seq f37_11 f37_12
theorem f37_10e:SQ f37_10 f37_11 f37_12:=rfl
def f37_27l:List GI:=[⟨none,.mv (some 4) (.c (.lit (.bool true)))⟩]
def f37_27:AC:=.ops [4] [] f37_27l
theorem f37_27e:OP f37_27 f37_27l [4] []:=rfl
def f37_26:AC:=.seq f37_27 .ret
theorem f37_26e:SQ f37_26 f37_27 .ret:=rfl
def f37_9:AC:=.seq f37_10 f37_26
theorem f37_9e:SQ f37_9 f37_10 f37_26:=rfl
def f37_3:AC:=.seq f37_4 f37_9
theorem f37_3e:SQ f37_3 f37_4 f37_9:=rfl
def f37_1:AC:=.seq f37_2 f37_3
theorem f37_1e:SQ f37_1 f37_2 f37_3:=rfl
def c_f37:AFun:=⟨26,[.tmp 4],f37_1⟩
theorem k_f37:bK Go.Proofs.Try.prog x_f37 37 = some c_f37:=by kernel_rfl
theorem e_f37:aS Go.Proofs.Try.prog 37 = true:=by kernel_rfl

def n_f38:Nat:=38
def x_f38:Cx:=⟨some,id,27,fun s=>([0,1,4,8,9,11,12,13,14,15,16,17,21,22,23,24,25]:List Nat).contains s,fun s=>([]:List Nat).contains s,msOf [(2,[0,1],[]),(24,[0,1,7],[]),(100,[4],[]),(102,[0,1,10],[]),(412,[4],[]),(28,[6],[]),(58,[26],[]),(236,[4],[]),(30,[4],[])]⟩
def f38_2l:List GI:=[⟨none,.mv (some 4) (.c (.lit (.int .i64 0)))⟩]
def f38_2:AC:=.ops [0,1] [] f38_2l
theorem f38_2e:OP f38_2 f38_2l [0,1] []:=rfl
def f38_6l:List GI:=[vv 8 0,
    ⟨none,.call (some 9) false (.f 29) [(.r 8)]⟩,
    vo 7 9]
def f38_6:AC:=.ops [0,1,7] [] f38_6l
theorem f38_6e:OP f38_6 f38_6l [0,1,7] []:=rfl
def f38_9l:List GI:=[⟨none,.mv (some 4) (.c (.lit (.int .i64 1)))⟩]
def f38_9:AC:=.ops [4] [] f38_9l
theorem f38_9e:OP f38_9 f38_9l [4] []:=rfl
def f38_8:AC:=.seq f38_9 .ret
theorem f38_8e:SQ f38_8 f38_9 .ret:=rfl
def f38_11l:List GI:=[vv 11 1,
    vb 12 .lss 11 0,
    vv 13 12,
    ⟨some (13,false),.mv (some 14) (.r 1)⟩,
    ⟨some (13,false),.bin (some 15) .num .geq (.r 14) (.c (.lit (.int .i64 64)))⟩,
    ⟨none,.pick (some 16) (.r 13) (.c (.lit (.bool true))) (.r 15)⟩,
    vo 10 16]
def f38_11:AC:=.ops [0,1,10] [] f38_11l
theorem f38_11e:OP f38_11 f38_11l [0,1,10] []:=rfl
def f38_14l:List GI:=[⟨none,.mv (some 4) (.c (.lit (.int .i64 2)))⟩]
def f38_14:AC:=.ops [4] [] f38_14l
theorem f38_14e:OP f38_14 f38_14l [4] []:=rfl
def f38_13:AC:=.seq f38_14 .ret
theorem f38_13e:SQ f38_13 f38_14 .ret:=rfl
def f38_12:AC:=.cond (.r 10) f38_13 .skip
theorem f38_12e:CN f38_12 10 f38_13 .skip:=rfl
def f38_10:AC:=.seq f38_11 f38_12
theorem f38_10e:SQ f38_10 f38_11 f38_12:=rfl
def f38_7:AC:=.cond (.r 7) f38_8 f38_10
theorem f38_7e:CN f38_7 7 f38_8 f38_10:=rfl
def f38_5:AC:=.seq f38_6 f38_7
theorem f38_5e:SQ f38_5 f38_6 f38_7:=rfl
def f38_4:AC:=.block 0 f38_5
theorem f38_4e:BL f38_4 f38_5 0:=rfl
def f38_17l:List GI:=[vv 18 0,
    vn 19 18,
    vd 20 19 6,
    vl 21 20,
    vv 22 1,
    ⟨none,.lookup (some 23) (.int .i64) (.agg [(.lit (.int .i64 0)),(.lit (.int .i64 0)),(.lit (.int .u64 0))]) true (.r 21) (.r 22)⟩,
    vv 17 23,
    ve 24 17 0,
    ve 25 17 1,
    ⟨none,.newL 5 [(.lit (.int .i64 0)),(.lit (.int .i64 0)),(.lit (.int .u64 0))]⟩,
    ⟨none,.store 3 (.r 5) (.r 24)⟩,
    vo 6 25]
def f38_17:AC:=.ops [6] [] f38_17l
theorem f38_17e:OP f38_17 f38_17l [6] []:=rfl
def f38_19l:List GI:=[vv 26 6]
def f38_19:AC:=.ops [26] [] f38_19l
theorem f38_19e:OP f38_19 f38_19l [26] []:=rfl
def f38_22l:List GI:=[⟨none,.mv (some 4) (.c (.lit (.int .i64 11)))⟩]
def f38_22:AC:=.ops [4] [] f38_22l
theorem f38_22e:OP f38_22 f38_22l [4] []:=rfl
def f38_21:AC:=.seq f38_22 .ret
theorem f38_21e:SQ f38_21 f38_22 .ret:=rfl
def f38_20:AC:=.cond (.r 26) f38_21 .skip
theorem f38_20e:CN f38_20 26 f38_21 .skip:=rfl
def f38_18:AC:=.seq f38_19 f38_20
theorem f38_18e:SQ f38_18 f38_19 f38_20:=rfl
def f38_16:AC:=.seq f38_17 f38_18
theorem f38_16e:SQ f38_16 f38_17 f38_18:=rfl
def f38_24l:List GI:=[⟨none,.mv (some 4) (.c (.lit (.int .i64 0)))⟩]
def f38_24:AC:=.ops [4] [] f38_24l
theorem f38_24e:OP f38_24 f38_24l [4] []:=rfl
def f38_23:AC:=.seq f38_24 .ret
theorem f38_23e:SQ f38_23 f38_24 .ret:=rfl
def f38_15:AC:=.seq f38_16 f38_23
theorem f38_15e:SQ f38_15 f38_16 f38_23:=rfl
def f38_3:AC:=.seq f38_4 f38_15
theorem f38_3e:SQ f38_3 f38_4 f38_15:=rfl
def f38_1:AC:=.seq f38_2 f38_3
theorem f38_1e:SQ f38_1 f38_2 f38_3:=rfl
def c_f38:AFun:=⟨27,[.tmp 4],f38_1⟩
theorem k_f38:bK Go.Proofs.Try.prog x_f38 38 = some c_f38:=by kernel_rfl
theorem e_f38:aS Go.Proofs.Try.prog 38 = true:=by kernel_rfl

def n_f39:Nat:=39
def x_f39:Cx:=⟨some,id,34,fun s=>([1,2,3,8,9,10,11,13,17,18,19,20,21,22,27,28,29,30,31,32,33]:List Nat).contains s,fun s=>([]:List Nat).contains s,msOf [(2,[0,1,2,3],[]),(6,[0,1,2,3,9,10],[]),(28,[0,1,2,3,9,10,23],[]),(58,[10],[]),(30,[8],[])]⟩
def f39_2l:List GI:=[⟨none,.mv (some 8) (.c (.lit (.int .i64 0)))⟩]
def f39_2:AC:=.ops [0,1,2,3] [] f39_2l
theorem f39_2e:OP f39_2 f39_2l [0,1,2,3] []:=rfl
def f39_4l:List GI:=[vv 12 0,
    vv 13 1,
    vn 14 12,
    vd 15 14 4,
    ⟨none,.ixA (some 16) (.r 15) (.r 13) 2 1⟩,
    vl 17 16,
    vv 18 2,
    ⟨none,.call (some 19) false (.f 48) [(.r 17),(.r 18)]⟩,
    vv 11 19,
    ve 20 11 0,
    ve 21 11 1,
    vo 9 20,
    vo 10 21]
def f39_4:AC:=.ops [0,1,2,3,9,10] [] f39_4l
theorem f39_4e:OP f39_4 f39_4l [0,1,2,3,9,10] []:=rfl
def f39_7l:List GI:=[vv 22 10,
    vb 23 .eql 22 0]
def f39_7:AC:=.ops [0,1,2,3,9,10,23] [] f39_7l
theorem f39_7e:OP f39_7 f39_7l [0,1,2,3,9,10,23] []:=rfl
def f39_9l:List GI:=[vv 24 0,
    vn 25 24,
    vd 26 25 6,
    vl 27 26,
    vv 28 2,
    vv 29 1,
    vv 30 3,
    vv 31 9,
    ⟨none,.bst (some 32) [(0,1),(1,1),(2,1)] (.agg [(.lit (.int .i64 0)),(.lit (.int .i64 0)),(.lit (.int .u64 0))]) [(0,(.r 29)),(1,(.r 30)),(2,(.r 31))]⟩,
    ⟨none,.upd (.int .i64) (.r 27) (.r 28) (.r 32)⟩]
def f39_9:AC:=.ops [10] [] f39_9l
theorem f39_9e:OP f39_9 f39_9l [10] []:=rfl
def f39_8:AC:=.cond (.r 23) f39_9 .skip
theorem f39_8e:CN f39_8 23 f39_9 .skip:=rfl
def f39_6:AC:=.seq f39_7 f39_8
theorem f39_6e:SQ f39_6 f39_7 f39_8:=rfl
def f39_11l:List GI:=[vv 33 10,
    vo 8 33]
def f39_11:AC:=.ops [8] [] f39_11l
theorem f39_11e:OP f39_11 f39_11l [8] []:=rfl
def f39_10:AC:=.seq f39_11 .ret
theorem f39_10e:SQ f39_10 f39_11 .ret:=rfl
def f39_5:AC:=.seq f39_6 f39_10
theorem f39_5e:SQ f39_5 f39_6 f39_10:=rfl
def f39_3:AC:=.seq f39_4 f39_5
theorem f39_3e:SQ f39_3 f39_4 f39_5:=rfl
def f39_1:AC:=.seq f39_2 f39_3
theorem f39_1e:SQ f39_1 f39_2 f39_3:=rfl
def c_f39:AFun:=⟨34,[.tmp 8],f39_1⟩
theorem k_f39:bK Go.Proofs.Try.prog x_f39 39 = some c_f39:=by kernel_rfl
theorem e_f39:aS Go.Proofs.Try.prog 39 = true:=by kernel_rfl

def n_f40:Nat:=40
def x_f40:Cx:=⟨some,id,82,fun s=>([0,1,4,5,7,10,12,16,17,18,19,20,21,26,27,29,33,40,42,43,45,50,52,53,55,59,66,68,69,71,76,78,79,81]:List Nat).contains s,fun s=>([]:List Nat).contains s,msOf [(2,[0,1],[]),(12,[0,1,11],[]),(52,[4,5],[]),(14,[0,1,6,7],[6]),(60,[0,1,6,22],[6]),(244,[4,5],[]),(62,[0,6],[6]),(252,[0,6,30],[6]),(506,[0,6],[6]),(1014,[0,6,8],[6,8]),(2030,[0,6,8],[6,8]),(2031,[0,6],[6]),(508,[0,6,56],[6]),(1018,[6],[6]),(2038,[0,6,9],[6,9]),(4078,[0,6,9],[6,9]),(4079,[6],[6]),(510,[4,5],[])]⟩
def f40_2l:List GI:=[⟨none,.mv (some 4) (.c (.lit (.int .i64 0)))⟩,
    ⟨none,.mv (some 5) (.c (.lit (.int .i64 0)))⟩]
def f40_2:AC:=.ops [0,1] [] f40_2l
theorem f40_2e:OP f40_2 f40_2l [0,1] []:=rfl
def f40_5l:List GI:=[vv 10 0,
    ⟨none,.call (some 11) false (.f 41) [(.r 10)]⟩]
def f40_5:AC:=.ops [0,1,11] [] f40_5l
theorem f40_5e:OP f40_5 f40_5l [0,1,11] []:=rfl
def f40_8l:List GI:=[⟨none,.mv (some 4) (.c (.lit (.int .i64 0)))⟩,
    ⟨none,.mv (some 5) (.c (.lit (.int .i64 1)))⟩]
def f40_8:AC:=.ops [4,5] [] f40_8l
theorem f40_8e:OP f40_8 f40_8l [4,5] []:=rfl
def f40_7:AC:=.seq f40_8 .ret
theorem f40_7e:SQ f40_7 f40_8 .ret:=rfl
def f40_6:AC:=.cond (.r 11) f40_7 .skip
theorem f40_6e:CN f40_6 11 f40_7 .skip:=rfl
def f40_4:AC:=.seq f40_5 f40_6
theorem f40_4e:SQ f40_4 f40_5 f40_6:=rfl
def f40_10l:List GI:=[vv 13 0,
    vn 14 13,
    vd 15 14 3,
    vl 16 15,
    vv 17 1,
    ⟨none,.lookup (some 18) (.int .u64) (.agg [(.lit (.int .i64 0)),(.lit (.int .u64 0)),(.lit (.int .u64 0))]) true (.r 16) (.r 17)⟩,
    vv 12 18,
    ve 19 12 0,
    ve 20 12 1,
    ⟨none,.newL 6 [(.lit (.int .i64 0)),(.lit (.int .u64 0)),(.lit (.int .u64 0))]⟩,
    ⟨none,.store 3 (.r 6) (.r 19)⟩,
    vo 7 20]
def f40_10:AC:=.ops [0,1,6,7] [6] f40_10l
theorem f40_10e:OP f40_10 f40_10l [0,1,6,7] [6]:=rfl
def f40_13l:List GI:=[vv 21 7,
    ⟨none,.un (some 22) .not (.r 21)⟩]
def f40_13:AC:=.ops [0,1,6,22] [6] f40_13l
theorem f40_13e:OP f40_13 f40_13l [0,1,6,22] [6]:=rfl
def f40_16l:List GI:=[⟨none,.mv (some 4) (.c (.lit (.int .i64 0)))⟩,
    ⟨none,.mv (some 5) (.c (.lit (.int .i64 9)))⟩]
def f40_16:AC:=.ops [4,5] [] f40_16l
theorem f40_16e:OP f40_16 f40_16l [4,5] []:=rfl
def f40_15:AC:=.seq f40_16 .ret
theorem f40_15e:SQ f40_15 f40_16 .ret:=rfl
def f40_14:AC:=.cond (.r 22) f40_15 .skip
theorem f40_14e:CN f40_14 22 f40_15 .skip:=rfl
def f40_12:AC:=.seq f40_13 f40_14
theorem f40_12e:SQ f40_12 f40_13 f40_14:=rfl
def f40_18l:List GI:=[vv 23 0,
    vn 24 23,
    vd 25 24 3,
    vl 26 25,
    vv 27 1,
    ⟨none,.del (.int .u64) (.r 26) (.r 27)⟩]
def f40_18:AC:=.ops [0,6] [6] f40_18l
theorem f40_18e:OP f40_18 f40_18l [0,6] [6]:=rfl
def f40_21l:List GI:=[vd 28 6 1,
    vl 29 28,
    ⟨none,.bin (some 30) .num .eql (.r 29) (.c (.lit (.int .u64 0)))⟩]
def f40_21:AC:=.ops [0,6,30] [6] f40_21l
theorem f40_21e:OP f40_21 f40_21l [0,6,30] [6]:=rfl
def f40_23l:List GI:=[vv 31 0,
    vd 32 6 2,
    vl 33 32,
    vn 34 31,
    vd 35 34 0,
    vd 36 35 0,
    ⟨none,.store 1 (.r 36) (.r 33)⟩]
def f40_23:AC:=.ops [0,6] [6] f40_23l
theorem f40_23e:OP f40_23 f40_23l [0,6] [6]:=rfl
def f40_25h:List GI:=[vv 37 0,
    vn 38 37,
    vd 39 38 3,
    vl 40 39,
    vd 41 6 1,
    vl 42 41,
    ⟨none,.lookup (some 43) (.int .u64) (.agg [(.lit (.int .i64 0)),(.lit (.int .u64 0)),(.lit (.int .u64 0))]) false (.r 40) (.r 42)⟩,
    ⟨none,.newL 8 [(.lit (.int .i64 0)),(.lit (.int .u64 0)),(.lit (.int .u64 0))]⟩]
def f40_25l:List GI:=[⟨none,.store 3 (.r 8) (.r 43)⟩]
def f40_25:AC:=.draw [0,6,8] [6,8] [8] f40_25h f40_25l
theorem f40_25e:aC P id m f40_25 sf st Q = aY P id sf.locs st f40_25h (cv P id m [8] [0,6,8] [6,8] f40_25l Q st) [] ⟨sf.regs,bk [8] sf.locs⟩:=rfl
def f40_27l:List GI:=[vd 44 6 2,
    vl 45 44,
    vd 46 8 2,
    ⟨none,.store 1 (.r 46) (.r 45)⟩]
def f40_27:AC:=.ops [0,6,8] [6,8] f40_27l
theorem f40_27e:OP f40_27 f40_27l [0,6,8] [6,8]:=rfl
def f40_28h:List GI:=[vv 47 0,
    vn 48 47,
    vd 49 48 3,
    vl 50 49,
    vd 51 6 1,
    vl 52 51,
    ⟨none,.load (some 53) (.r 8) (some 3)⟩]
def f40_28l:List GI:=[⟨none,.upd (.int .u64) (.r 50) (.r 52) (.r 53)⟩]
def f40_28:AC:=.draw [0,6] [6] [] f40_28h f40_28l
theorem f40_28e:aC P id m f40_28 sf st Q = aY P id sf.locs st f40_28h (cv P id m [] [0,6] [6] f40_28l Q st) [] ⟨sf.regs,bk [] sf.locs⟩:=rfl
def f40_26:AC:=.seq f40_27 f40_28
theorem f40_26e:SQ f40_26 f40_27 f40_28:=rfl
def f40_24:AC:=.seq f40_25 f40_26
theorem f40_24e:SQ f40_24 f40_25 f40_26:=rfl
def f40_22:AC:=.cond (.r 30) f40_23 f40_24
theorem f40_22e:CN f40_22 30 f40_23 f40_24:=rfl
def f40_20:AC:=.seq f40_21 f40_22
theorem f40_20e:SQ f40_20 f40_21 f40_22:=rfl
def f40_31l:List GI:=[vd 54 6 2,
    vl 55 54,
    ⟨none,.bin (some 56) .num .eql (.r 55) (.c (.lit (.int .u64 0)))⟩]
def f40_31:AC:=.ops [0,6,56] [6] f40_31l
theorem f40_31e:OP f40_31 f40_31l [0,6,56] [6]:=rfl
def f40_33l:List GI:=[vv 57 0,
    vd 58 6 1,
    vl 59 58,
    vn 60 57,
    vd 61 60 0,
    vd 62 61 1,
    ⟨none,.store 1 (.r 62) (.r 59)⟩]
def f40_33:AC:=.ops [6] [6] f40_33l
theorem f40_33e:OP f40_33 f40_33l [6] [6]:=rfl
def f40_35h:List GI:=[vv 63 0,
    vn 64 63,
    vd 65 64 3,
    vl 66 65,
    vd 67 6 2,
    vl 68 67,
    ⟨none,.lookup (some 69) (.int .u64) (.agg [(.lit (.int .i64 0)),(.lit (.int .u64 0)),(.lit (.int .u64 0))]) false (.r 66) (.r 68)⟩,
    ⟨none,.newL 9 [(.lit (.int .i64 0)),(.lit (.int .u64 0)),(.lit (.int .u64 0))]⟩]
def f40_35l:List GI:=[⟨none,.store 3 (.r 9) (.r 69)⟩]
def f40_35:AC:=.draw [0,6,9] [6,9] [9] f40_35h f40_35l
theorem f40_35e:aC P id m f40_35 sf st Q = aY P id sf.locs st f40_35h (cv P id m [9] [0,6,9] [6,9] f40_35l Q st) [] ⟨sf.regs,bk [9] sf.locs⟩:=rfl
def f40_37l:List GI:=[vd 70 6 1,
    vl 71 70,
    vd 72 9 1,
    ⟨none,.store 1 (.r 72) (.r 71)⟩]
def f40_37:AC:=.ops [0,6,9] [6,9] f40_37l
theorem f40_37e:OP f40_37 f40_37l [0,6,9] [6,9]:=rfl
def f40_38h:List GI:=[vv 73 0,
    vn 74 73,
    vd 75 74 3,
    vl 76 75,
    vd 77 6 2,
    vl 78 77,
    ⟨none,.load (some 79) (.r 9) (some 3)⟩]
def f40_38l:List GI:=[⟨none,.upd (.int .u64) (.r 76) (.r 78) (.r 79)⟩]
def f40_38:AC:=.draw [6] [6] [] f40_38h f40_38l
theorem f40_38e:aC P id m f40_38 sf st Q = aY P id sf.locs st f40_38h (cv P id m [] [6] [6] f40_38l Q st) [] ⟨sf.regs,bk [] sf.locs⟩:=rfl
def f40_36:AC:=.seq f40_37 f40_38
theorem f40_36e:SQ f40_36 f40_37 f40_38:=rfl
def f40_34:AC:=.seq f40_35 f40_36
theorem f40_34e:SQ f40_34 f40_35 f40_36:=rfl
def f40_32:AC:=.cond (.r 56) f40_33 f40_34
theorem f40_32e:CN f40_32 56 f40_33 f40_34:=rfl
def f40_30:AC:=.seq f40_31 f40_32
theorem f40_30e:SQ f40_30 f40_31 f40_32:=rfl
def f40_40l:List GI:=[vd 80 6 0,
    vl 81 80,
    vo 4 81,
    ⟨none,.mv (some 5) (.c (.lit (.int .i64 0)))⟩]
def f40_40:AC:=.ops [4,5] [] f40_40l
theorem f40_40e:OP f40_40 f40_40l [4,5] []:=rfl
def f40_39:AC:=.seq f40_40 .ret
theorem f40_39e:SQ f40_39 f40_40 .ret:=rfl
def f40_29:AC:=.seq f40_30 f40_39
theorem f40_29e:SQ f40_29 f40_30 f40_39:=rfl
def f40_19:AC:=.seq f40_20 f40_29
theorem f40_19e:SQ f40_19 f40_20 f40_29:=rfl
def f40_17:AC:=.seq f40_18 f40_19
theorem f40_17e:SQ f40_17 f40_18 f40_19:=rfl
def f40_11:AC:=.seq f40_12 f40_17
theorem f40_11e:SQ f40_11 f40_12 f40_17:=rfl
def f40_9:AC:=.seq f40_10 f40_11
theorem f40_9e:SQ f40_9 f40_10 f40_11:=rfl
def f40_3:AC:=.seq f40_4 f40_9
theorem f40_3e:SQ f40_3 f40_4 f40_9:=rfl
def f40_1:AC:=.seq f40_2 f40_3
theorem f40_1e:SQ f40_1 f40_2 f40_3:=rfl
def c_f40:AFun:=⟨82,[.tmp 4,.tmp 5],f40_1⟩
theorem k_f40:bK Go.Proofs.Try.prog x_f40 40 = some c_f40:=by kernel_rfl
theorem e_f40:aS Go.Proofs.Try.prog 40 = true:=by kernel_rfl

def n_f41:Nat:=41
def x_f41:Cx:=⟨some,id,12,fun s=>([0,2,3,4,5,9,10,11]:List Nat).contains s,fun s=>([]:List Nat).contains s,msOf [(2,[0],[]),(6,[2],[])]⟩
def f41_2l:List GI:=[⟨none,.mv (some 2) (.c (.lit (.bool false)))⟩]
def f41_2:AC:=.ops [0] [] f41_2l
theorem f41_2e:OP f41_2 f41_2l [0] []:=rfl
def f41_4l:List GI:=[vv 3 0,
    ⟨none,.bin (some 4) (.nil .ptr) .eql (.r 3) (.c (.lit (.pointer none)))⟩,
    vv 5 4,
    ⟨some (5,false),.mv (some 6) (.r 0)⟩,
    ⟨some (5,false),.nilck (some 7) (.r 6)⟩,
    ⟨some (5,false),.addr (some 8) (.r 7) 3⟩,
    ⟨some (5,false),.load (some 9) (.r 8) none⟩,
    ⟨some (5,false),.bin (some 10) (.nil .mp) .eql (.r 9) (.c (.lit (.map none)))⟩,
    ⟨none,.pick (some 11) (.r 5) (.c (.lit (.bool true))) (.r 10)⟩,
    vo 2 11]
def f41_4:AC:=.ops [2] [] f41_4l
theorem f41_4e:OP f41_4 f41_4l [2] []:=rfl
def f41_3:AC:=.seq f41_4 .ret
theorem f41_3e:SQ f41_3 f41_4 .ret:=rfl
def f41_1:AC:=.seq f41_2 f41_3
theorem f41_1e:SQ f41_1 f41_2 f41_3:=rfl
def c_f41:AFun:=⟨12,[.tmp 2],f41_1⟩
theorem k_f41:bK Go.Proofs.Try.prog x_f41 41 = some c_f41:=by kernel_rfl
theorem e_f41:aS Go.Proofs.Try.prog 41 = true:=by kernel_rfl

def n_f42:Nat:=42
def x_f42:Cx:=⟨some,id,73,fun s=>([0,1,2,9,10,11,12,13,15,16,17,18,20,21,24,25,27,28,33,35,36,38,40,41,42,43,44,46,47,49,52,53,54,55,56,58,59,60,62,63,65,66,67,68,69,71,72]:List Nat).contains s,fun s=>([]:List Nat).contains s,msOf [(2,[1,2,3,6,7],[3,6,7]),(12,[1,2,3,6,7,14],[3,6,7]),(52,[6,7],[6,7]),(28,[1,2,3,6,7,19],[3,6,7]),(116,[6,7],[6,7]),(60,[1,2,3,6,7,23],[3,6,7]),(244,[6,7],[6,7]),(124,[1,2,3,6,7,29],[3,6,7]),(500,[2,3,6,7,8],[3,6,7,8]),(1002,[2,3,6,7,8],[3,6,7,8]),(2006,[6,7],[6,7]),(252,[1,2,3,6,7,50],[3,6,7]),(1012,[3,6,7],[3,6,7]),(2026,[6,7],[6,7]),(508,[1,2,3,6,7,61],[3,6,7]),(2036,[6,7],[6,7]),(510,[3,6,7],[3,6,7]),(1022,[6,7],[6,7])]⟩
def f42_2l:List GI:=[⟨none,.boxL 3 5 (.r 0)⟩,
    ⟨none,.newL 6 [(.lit (.int .i64 0)),(.lit (.slice none 0 0)),(.lit (.slice none 0 0)),(.lit (.slice none 0 0)),(.lit (.bool false))]⟩,
    ⟨none,.newL 7 [(.lit (.int .i64 0)),(.lit (.bool false)),(.lit (.slice none 0 0)),(.lit (.int .i64 0))]⟩]
def f42_2:AC:=.ops [1,2,3,6,7] [3,6,7] f42_2l
theorem f42_2e:OP f42_2 f42_2l [1,2,3,6,7] [3,6,7]:=rfl
def f42_5l:List GI:=[vv 9 1,
    ⟨none,.bin (some 10) .num .lss (.r 9) (.c (.lit (.int .i64 (-1))))⟩,
    vv 11 10,
    ⟨some (11,false),.mv (some 12) (.r 1)⟩,
    ⟨some (11,false),.bin (some 13) .num .geq (.r 12) (.c (.lit (.int .i64 64)))⟩,
    ⟨none,.pick (some 14) (.r 11) (.c (.lit (.bool true))) (.r 13)⟩]
def f42_5:AC:=.ops [1,2,3,6,7,14] [3,6,7] f42_5l
theorem f42_5e:OP f42_5 f42_5l [1,2,3,6,7,14] [3,6,7]:=rfl
def f42_8l:List GI:=[⟨none,.load (some 15) (.r 3) (some 5)⟩,
    ⟨none,.bst (some 16) [(0,1),(1,1),(2,1),(3,1)] (.agg [(.lit (.int .i64 0)),(.lit (.bool false)),(.lit (.slice none 0 0)),(.lit (.int .i64 0))]) [(3,(.c (.lit (.int .i64 2))))]⟩,
    ⟨none,.store 5 (.r 6) (.r 15)⟩,
    ⟨none,.store 4 (.r 7) (.r 16)⟩]
def f42_8:AC:=.ops [6,7] [6,7] f42_8l
theorem f42_8e:OP f42_8 f42_8l [6,7] [6,7]:=rfl
def f42_7:AC:=.seq f42_8 .ret
theorem f42_7e:SQ f42_7 f42_8 .ret:=rfl
def f42_6:AC:=.cond (.r 14) f42_7 .skip
theorem f42_6e:CN f42_6 14 f42_7 .skip:=rfl
def f42_4:AC:=.seq f42_5 f42_6
theorem f42_4e:SQ f42_4 f42_5 f42_6:=rfl
def f42_11l:List GI:=[⟨none,.load (some 17) (.r 3) (some 5)⟩,
    vv 18 1,
    ⟨none,.call (some 19) false (.f 49) [(.r 17),(.r 18)]⟩]
def f42_11:AC:=.ops [1,2,3,6,7,19] [3,6,7] f42_11l
theorem f42_11e:OP f42_11 f42_11l [1,2,3,6,7,19] [3,6,7]:=rfl
def f42_14l:List GI:=[⟨none,.load (some 20) (.r 3) (some 5)⟩,
    ⟨none,.bst (some 21) [(0,1),(1,1),(2,1),(3,1)] (.agg [(.lit (.int .i64 0)),(.lit (.bool false)),(.lit (.slice none 0 0)),(.lit (.int .i64 0))]) [(3,(.c (.lit (.int .i64 11))))]⟩,
    ⟨none,.store 5 (.r 6) (.r 20)⟩,
    ⟨none,.store 4 (.r 7) (.r 21)⟩]
def f42_14:AC:=.ops [6,7] [6,7] f42_14l
theorem f42_14e:OP f42_14 f42_14l [6,7] [6,7]:=rfl
def f42_13:AC:=.seq f42_14 .ret
theorem f42_13e:SQ f42_13 f42_14 .ret:=rfl
def f42_12:AC:=.cond (.r 19) f42_13 .skip
theorem f42_12e:CN f42_12 19 f42_13 .skip:=rfl
def f42_10:AC:=.seq f42_11 f42_12
theorem f42_10e:SQ f42_10 f42_11 f42_12:=rfl
def f42_17l:List GI:=[vd 22 3 4,
    vl 23 22]
def f42_17:AC:=.ops [1,2,3,6,7,23] [3,6,7] f42_17l
theorem f42_17e:OP f42_17 f42_17l [1,2,3,6,7,23] [3,6,7]:=rfl
def f42_20l:List GI:=[⟨none,.load (some 24) (.r 3) (some 5)⟩,
    ⟨none,.bst (some 25) [(0,1),(1,1),(2,1),(3,1)] (.agg [(.lit (.int .i64 0)),(.lit (.bool false)),(.lit (.slice none 0 0)),(.lit (.int .i64 0))]) [(3,(.c (.lit (.int .i64 14))))]⟩,
    ⟨none,.store 5 (.r 6) (.r 24)⟩,
    ⟨none,.store 4 (.r 7) (.r 25)⟩]
def f42_20:AC:=.ops [6,7] [6,7] f42_20l
theorem f42_20e:OP f42_20 f42_20l [6,7] [6,7]:=rfl
def f42_19:AC:=.seq f42_20 .ret
theorem f42_19e:SQ f42_19 f42_20 .ret:=rfl
def f42_18:AC:=.cond (.r 23) f42_19 .skip
theorem f42_18e:CN f42_18 23 f42_19 .skip:=rfl
def f42_16:AC:=.seq f42_17 f42_18
theorem f42_16e:SQ f42_16 f42_17 f42_18:=rfl
def f42_23l:List GI:=[vd 26 3 3,
    vl 27 26,
    ⟨none,.len (some 28) .sl (.r 27)⟩,
    vb 29 .gtr 28 0]
def f42_23:AC:=.ops [1,2,3,6,7,29] [3,6,7] f42_23l
theorem f42_23e:OP f42_23 f42_23l [1,2,3,6,7,29] [3,6,7]:=rfl
def f42_26l:List GI:=[vd 30 3 3,
    vl 31 30,
    ⟨none,.ixS (some 32) (.r 31) (.c (.lit (.int .i64 0))) 2⟩,
    ⟨none,.load (some 33) (.r 32) (some 2)⟩,
    ⟨none,.newL 8 [(.lit (.int .i64 0)),(.lit (.int .i64 0))]⟩,
    ⟨none,.store 2 (.r 8) (.r 33)⟩]
def f42_26:AC:=.ops [2,3,6,7,8] [3,6,7,8] f42_26l
theorem f42_26e:OP f42_26 f42_26l [2,3,6,7,8] [3,6,7,8]:=rfl
def f42_28l:List GI:=[vd 34 3 3,
    ⟨none,.loadOwn 35 (.r 34)⟩,
    ⟨none,.sliOwn 36 35 (.c (.lit (.int .i64 1))) 2⟩,
    vd 37 3 3,
    ⟨none,.store 1 (.r 37) (.r 36)⟩]
def f42_28:AC:=.ops [2,3,6,7,8] [3,6,7,8] f42_28l
theorem f42_28e:OP f42_28 f42_28l [2,3,6,7,8] [3,6,7,8]:=rfl
def f42_30h:List GI:=[⟨none,.load (some 38) (.r 3) (some 5)⟩,
    vd 39 8 0,
    vl 40 39,
    vv 41 2,
    ⟨none,.bst (some 42) [(0,1),(1,1),(2,1),(3,1)] (.agg [(.lit (.int .i64 0)),(.lit (.int .i64 0)),(.lit (.int .i64 0)),(.lit (.int .i64 0))]) [(0,(.r 40)),(2,(.r 41))]⟩,
    ⟨none,.bsl (some 43) 4 1 (.agg [(.lit (.int .i64 0)),(.lit (.int .i64 0)),(.lit (.int .i64 0)),(.lit (.int .i64 0))]) [(0,(.r 42))]⟩,
    ⟨none,.bst (some 44) [(0,1),(1,1),(2,1),(3,1)] (.agg [(.lit (.int .i64 0)),(.lit (.bool false)),(.lit (.slice none 0 0)),(.lit (.int .i64 0))]) [(1,(.c (.lit (.bool true)))),(2,(.r 43))]⟩,
    ⟨none,.store 5 (.r 6) (.r 38)⟩]
def f42_30l:List GI:=[⟨none,.store 4 (.r 7) (.r 44)⟩]
def f42_30:AC:=.draw [6,7] [6,7] [6] f42_30h f42_30l
theorem f42_30e:aC P id m f42_30 sf st Q = aY P id sf.locs st f42_30h (cv P id m [6] [6,7] [6,7] f42_30l Q st) [] ⟨sf.regs,bk [6] sf.locs⟩:=rfl
def f42_29:AC:=.seq f42_30 .ret
theorem f42_29e:SQ f42_29 f42_30 .ret:=rfl
def f42_27:AC:=.seq f42_28 f42_29
theorem f42_27e:SQ f42_27 f42_28 f42_29:=rfl
def f42_25:AC:=.seq f42_26 f42_27
theorem f42_25e:SQ f42_25 f42_26 f42_27:=rfl
def f42_24:AC:=.cond (.r 29) f42_25 .skip
theorem f42_24e:CN f42_24 29 f42_25 .skip:=rfl
def f42_22:AC:=.seq f42_23 f42_24
theorem f42_22e:SQ f42_22 f42_23 f42_24:=rfl
def f42_33l:List GI:=[vd 45 3 1,
    vl 46 45,
    ⟨none,.len (some 47) .sl (.r 46)⟩,
    vd 48 3 0,
    vl 49 48,
    ⟨none,.bin (some 50) .num .lss (.r 47) (.r 49)⟩]
def f42_33:AC:=.ops [1,2,3,6,7,50] [3,6,7] f42_33l
theorem f42_33e:OP f42_33 f42_33l [1,2,3,6,7,50] [3,6,7]:=rfl
def f42_36l:List GI:=[vd 51 3 1,
    vl 52 51,
    ⟨none,.app (some 53) 1 8 (.c (.lit (.slice none 0 0))) (.r 52)⟩,
    vv 54 2,
    ⟨none,.bsl (some 55) 1 1 (.lit (.int .i64 0)) [(0,(.r 54))]⟩,
    ⟨none,.appS 56 53 1 8 (.r 55)⟩,
    vd 57 3 1,
    ⟨none,.store 1 (.r 57) (.r 56)⟩]
def f42_36:AC:=.ops [3,6,7] [3,6,7] f42_36l
theorem f42_36e:OP f42_36 f42_36l [3,6,7] [3,6,7]:=rfl
def f42_38l:List GI:=[⟨none,.load (some 58) (.r 3) (some 5)⟩,
    ⟨none,.bst (some 59) [(0,1),(1,1),(2,1),(3,1)] (.agg [(.lit (.int .i64 0)),(.lit (.bool false)),(.lit (.slice none 0 0)),(.lit (.int .i64 0))]) [(1,(.c (.lit (.bool true))))]⟩,
    ⟨none,.store 5 (.r 6) (.r 58)⟩,
    ⟨none,.store 4 (.r 7) (.r 59)⟩]
def f42_38:AC:=.ops [6,7] [6,7] f42_38l
theorem f42_38e:OP f42_38 f42_38l [6,7] [6,7]:=rfl
def f42_37:AC:=.seq f42_38 .ret
theorem f42_37e:SQ f42_37 f42_38 .ret:=rfl
def f42_35:AC:=.seq f42_36 f42_37
theorem f42_35e:SQ f42_35 f42_36 f42_37:=rfl
def f42_34:AC:=.cond (.r 50) f42_35 .skip
theorem f42_34e:CN f42_34 50 f42_35 .skip:=rfl
def f42_32:AC:=.seq f42_33 f42_34
theorem f42_32e:SQ f42_32 f42_33 f42_34:=rfl
def f42_41l:List GI:=[vv 60 1,
    vb 61 .lss 60 0]
def f42_41:AC:=.ops [1,2,3,6,7,61] [3,6,7] f42_41l
theorem f42_41e:OP f42_41 f42_41l [1,2,3,6,7,61] [3,6,7]:=rfl
def f42_44l:List GI:=[⟨none,.load (some 62) (.r 3) (some 5)⟩,
    ⟨none,.bst (some 63) [(0,1),(1,1),(2,1),(3,1)] (.agg [(.lit (.int .i64 0)),(.lit (.bool false)),(.lit (.slice none 0 0)),(.lit (.int .i64 0))]) [(3,(.c (.lit (.int .i64 16))))]⟩,
    ⟨none,.store 5 (.r 6) (.r 62)⟩,
    ⟨none,.store 4 (.r 7) (.r 63)⟩]
def f42_44:AC:=.ops [6,7] [6,7] f42_44l
theorem f42_44e:OP f42_44 f42_44l [6,7] [6,7]:=rfl
def f42_43:AC:=.seq f42_44 .ret
theorem f42_43e:SQ f42_43 f42_44 .ret:=rfl
def f42_42:AC:=.cond (.r 61) f42_43 .skip
theorem f42_42e:CN f42_42 61 f42_43 .skip:=rfl
def f42_40:AC:=.seq f42_41 f42_42
theorem f42_40e:SQ f42_40 f42_41 f42_42:=rfl
def f42_46l:List GI:=[vd 64 3 2,
    vl 65 64,
    vv 66 1,
    vv 67 2,
    ⟨none,.bst (some 68) [(0,1),(1,1)] (.agg [(.lit (.int .i64 0)),(.lit (.int .i64 0))]) [(0,(.r 66)),(1,(.r 67))]⟩,
    ⟨none,.call (some 69) false (.f 50) [(.r 65),(.r 68)]⟩,
    vd 70 3 2,
    ⟨none,.store 1 (.r 70) (.r 69)⟩]
def f42_46:AC:=.ops [3,6,7] [3,6,7] f42_46l
theorem f42_46e:OP f42_46 f42_46l [3,6,7] [3,6,7]:=rfl
def f42_48l:List GI:=[⟨none,.load (some 71) (.r 3) (some 5)⟩,
    ⟨none,.bst (some 72) [(0,1),(1,1),(2,1),(3,1)] (.agg [(.lit (.int .i64 0)),(.lit (.bool false)),(.lit (.slice none 0 0)),(.lit (.int .i64 0))]) []⟩,
    ⟨none,.store 5 (.r 6) (.r 71)⟩,
    ⟨none,.store 4 (.r 7) (.r 72)⟩]
def f42_48:AC:=.ops [6,7] [6,7] f42_48l
theorem f42_48e:OP f42_48 f42_48l [6,7] [6,7]:=rfl
def f42_47:AC:=.seq f42_48 .ret
theorem f42_47e:SQ f42_47 f42_48 .ret:=rfl
def f42_45:AC:=.seq f42_46 f42_47
theorem f42_45e:SQ f42_45 f42_46 f42_47:=rfl
def f42_39:AC:=.seq f42_40 f42_45
theorem f42_39e:SQ f42_39 f42_40 f42_45:=rfl
def f42_31:AC:=.seq f42_32 f42_39
theorem f42_31e:SQ f42_31 f42_32 f42_39:=rfl
def f42_21:AC:=.seq f42_22 f42_31
theorem f42_21e:SQ f42_21 f42_22 f42_31:=rfl
def f42_15:AC:=.seq f42_16 f42_21
theorem f42_15e:SQ f42_15 f42_16 f42_21:=rfl
def f42_9:AC:=.seq f42_10 f42_15
theorem f42_9e:SQ f42_9 f42_10 f42_15:=rfl
def f42_3:AC:=.seq f42_4 f42_9
theorem f42_3e:SQ f42_3 f42_4 f42_9:=rfl
def f42_1:AC:=.seq f42_2 f42_3
theorem f42_1e:SQ f42_1 f42_2 f42_3:=rfl
def c_f42:AFun:=⟨73,[.cell 6 (some 5),.cell 7 (some 4)],f42_1⟩
theorem k_f42:bK Go.Proofs.Try.prog x_f42 42 = some c_f42:=by kernel_rfl
theorem e_f42:aS Go.Proofs.Try.prog 42 = true:=by kernel_rfl

def n_f43:Nat:=43
def x_f43:Cx:=⟨some,id,82,fun s=>([0,1,6,8,9,10,11,12,14,15,16,17,19,20,22,23,25,26,27,30,31,32,34,35,37,42,43,44,49,50,51,54,55,59,61,62,64,65,68,69,70,72,73,75,76,77,78,80,81]:List Nat).contains s,fun s=>([]:List Nat).contains s,msOf [(2,[1,2,4,5],[2,4,5]),(12,[1,2,4,5,13],[2,4,5]),(52,[4,5],[4,5]),(28,[1,2,4,5,18],[2,4,5]),(116,[4,5],[4,5]),(60,[1,2,4,5,28],[2,4,5]),(244,[2,4,5,6],[2,4,5]),(490,[2,4,5,6,7],[2,4,5,7]),(1964,[2,4,5,6,7,36],[2,4,5,7]),(7860,[2,4,5,6,7],[2,4,5,7]),(15722,[2,4,5,6,7],[2,4,5,7]),(15723,[2,4,5,6,7],[2,4,5,7]),(1966,[2,4,5,6,7],[2,4,5,7]),(3934,[2,4,5,7],[2,4,5,7]),(7870,[4,5],[4,5]),(124,[1,2,4,5,67],[2,4,5]),(500,[4,5],[4,5]),(252,[1,2,4,5,71],[2,4,5]),(1012,[4,5],[4,5]),(254,[2,4,5],[2,4,5]),(510,[4,5],[4,5])]⟩
def f43_2l:List GI:=[⟨none,.boxL 2 5 (.r 0)⟩,
    ⟨none,.newL 4 [(.lit (.int .i64 0)),(.lit (.slice none 0 0)),(.lit (.slice none 0 0)),(.lit (.slice none 0 0)),(.lit (.bool false))]⟩,
    ⟨none,.newL 5 [(.lit (.int .i64 0)),(.lit (.bool false)),(.lit (.slice none 0 0)),(.lit (.int .i64 0))]⟩]
def f43_2:AC:=.ops [1,2,4,5] [2,4,5] f43_2l
theorem f43_2e:OP f43_2 f43_2l [1,2,4,5] [2,4,5]:=rfl
def f43_5l:List GI:=[vv 8 1,
    ⟨none,.bin (some 9) .num .lss (.r 8) (.c (.lit (.int .i64 (-1))))⟩,
    vv 10 9,
    ⟨some (10,false),.mv (some 11) (.r 1)⟩,
    ⟨some (10,false),.bin (some 12) .num .geq (.r 11) (.c (.lit (.int .i64 64)))⟩,
    ⟨none,.pick (some 13) (.r 10) (.c (.lit (.bool true))) (.r 12)⟩]
def f43_5:AC:=.ops [1,2,4,5,13] [2,4,5] f43_5l
theorem f43_5e:OP f43_5 f43_5l [1,2,4,5,13] [2,4,5]:=rfl
def f43_8l:List GI:=[⟨none,.load (some 14) (.r 2) (some 5)⟩,
    ⟨none,.bst (some 15) [(0,1),(1,1),(2,1),(3,1)] (.agg [(.lit (.int .i64 0)),(.lit (.bool false)),(.lit (.slice none 0 0)),(.lit (.int .i64 0))]) [(3,(.c (.lit (.int .i64 2))))]⟩,
    ⟨none,.store 5 (.r 4) (.r 14)⟩,
    ⟨none,.store 4 (.r 5) (.r 15)⟩]
def f43_8:AC:=.ops [4,5] [4,5] f43_8l
theorem f43_8e:OP f43_8 f43_8l [4,5] [4,5]:=rfl
def f43_7:AC:=.seq f43_8 .ret
theorem f43_7e:SQ f43_7 f43_8 .ret:=rfl
def f43_6:AC:=.cond (.r 13) f43_7 .skip
theorem f43_6e:CN f43_6 13 f43_7 .skip:=rfl
def f43_4:AC:=.seq f43_5 f43_6
theorem f43_4e:SQ f43_4 f43_5 f43_6:=rfl
def f43_11l:List GI:=[⟨none,.load (some 16) (.r 2) (some 5)⟩,
    vv 17 1,
    ⟨none,.call (some 18) false (.f 49) [(.r 16),(.r 17)]⟩]
def f43_11:AC:=.ops [1,2,4,5,18] [2,4,5] f43_11l
theorem f43_11e:OP f43_11 f43_11l [1,2,4,5,18] [2,4,5]:=rfl
def f43_14l:List GI:=[⟨none,.load (some 19) (.r 2) (some 5)⟩,
    ⟨none,.bst (some 20) [(0,1),(1,1),(2,1),(3,1)] (.agg [(.lit (.int .i64 0)),(.lit (.bool false)),(.lit (.slice none 0 0)),(.lit (.int .i64 0))]) [(3,(.c (.lit (.int .i64 11))))]⟩,
    ⟨none,.store 5 (.r 4) (.r 19)⟩,
    ⟨none,.store 4 (.r 5) (.r 20)⟩]
def f43_14:AC:=.ops [4,5] [4,5] f43_14l
theorem f43_14e:OP f43_14 f43_14l [4,5] [4,5]:=rfl
def f43_13:AC:=.seq f43_14 .ret
theorem f43_13e:SQ f43_13 f43_14 .ret:=rfl
def f43_12:AC:=.cond (.r 18) f43_13 .skip
theorem f43_12e:CN f43_12 18 f43_13 .skip:=rfl
def f43_10:AC:=.seq f43_11 f43_12
theorem f43_10e:SQ f43_10 f43_11 f43_12:=rfl
def f43_17l:List GI:=[vd 21 2 1,
    vl 22 21,
    ⟨none,.len (some 23) .sl (.r 22)⟩,
    vd 24 2 2,
    vl 25 24,
    ⟨none,.len (some 26) .sl (.r 25)⟩,
    ⟨none,.bin (some 27) .num .add (.r 23) (.r 26)⟩,
    vb 28 .gtr 27 0]
def f43_17:AC:=.ops [1,2,4,5,28] [2,4,5] f43_17l
theorem f43_17e:OP f43_17 f43_17l [1,2,4,5,28] [2,4,5]:=rfl
def f43_20l:List GI:=[vd 29 2 1,
    vl 30 29,
    ⟨none,.app (some 31) 1 8 (.c (.lit (.slice none 0 0))) (.r 30)⟩,
    vo 6 31]
def f43_20:AC:=.ops [2,4,5,6] [2,4,5] f43_20l
theorem f43_20e:OP f43_20 f43_20l [2,4,5,6] [2,4,5]:=rfl
def f43_22l:List GI:=[⟨none,.bst (some 32) [(0,1),(1,1),(2,1),(3,1)] (.agg [(.lit (.int .i64 0)),(.lit (.bool false)),(.lit (.slice none 0 0)),(.lit (.int .i64 0))]) [(1,(.c (.lit (.bool true))))]⟩,
    ⟨none,.newL 7 [(.lit (.int .i64 0)),(.lit (.bool false)),(.lit (.slice none 0 0)),(.lit (.int .i64 0))]⟩,
    ⟨none,.store 4 (.r 7) (.r 32)⟩]
def f43_22:AC:=.ops [2,4,5,6,7] [2,4,5,7] f43_22l
theorem f43_22e:OP f43_22 f43_22l [2,4,5,6,7] [2,4,5,7]:=rfl
def f43_25l:List GI:=[vd 33 2 2,
    vl 34 33,
    ⟨none,.len (some 35) .sl (.r 34)⟩,
    vb 36 .gtr 35 0]
def f43_25:AC:=.ops [2,4,5,6,7,36] [2,4,5,7] f43_25l
theorem f43_25e:OP f43_25 f43_25l [2,4,5,6,7,36] [2,4,5,7]:=rfl
def f43_28l:List GI:=[vo 37 6,
    vd 38 2 2,
    vl 39 38,
    ⟨none,.ixS (some 40) (.r 39) (.c (.lit (.int .i64 0))) 2⟩,
    vd 41 40 1,
    vl 42 41,
    ⟨none,.bsl (some 43) 1 1 (.lit (.int .i64 0)) [(0,(.r 42))]⟩,
    ⟨none,.appS 44 37 1 8 (.r 43)⟩,
    vo 6 44]
def f43_28:AC:=.ops [2,4,5,6,7] [2,4,5,7] f43_28l
theorem f43_28e:OP f43_28 f43_28l [2,4,5,6,7] [2,4,5,7]:=rfl
def f43_30l:List GI:=[vd 45 2 2,
    vl 46 45,
    ⟨none,.ixS (some 47) (.r 46) (.c (.lit (.int .i64 0))) 2⟩,
    vd 48 47 0,
    vl 49 48,
    ⟨none,.bst (some 50) [(0,1),(1,1),(2,1),(3,1)] (.agg [(.lit (.int .i64 0)),(.lit (.int .i64 0)),(.lit (.int .i64 0)),(.lit (.int .i64 0))]) [(0,(.r 49))]⟩,
    ⟨none,.bsl (some 51) 4 1 (.agg [(.lit (.int .i64 0)),(.lit (.int .i64 0)),(.lit (.int .i64 0)),(.lit (.int .i64 0))]) [(0,(.r 50))]⟩,
    vd 52 7 2,
    ⟨none,.store 1 (.r 52) (.r 51)⟩]
def f43_30:AC:=.ops [2,4,5,6,7] [2,4,5,7] f43_30l
theorem f43_30e:OP f43_30 f43_30l [2,4,5,6,7] [2,4,5,7]:=rfl
def f43_31l:List GI:=[vd 53 2 2,
    ⟨none,.loadOwn 54 (.r 53)⟩,
    ⟨none,.sliOwn 55 54 (.c (.lit (.int .i64 1))) 2⟩,
    vd 56 2 2,
    ⟨none,.store 1 (.r 56) (.r 55)⟩]
def f43_31:AC:=.ops [2,4,5,6,7] [2,4,5,7] f43_31l
theorem f43_31e:OP f43_31 f43_31l [2,4,5,6,7] [2,4,5,7]:=rfl
def f43_29:AC:=.seq f43_30 f43_31
theorem f43_29e:SQ f43_29 f43_30 f43_31:=rfl
def f43_27:AC:=.seq f43_28 f43_29
theorem f43_27e:SQ f43_27 f43_28 f43_29:=rfl
def f43_26:AC:=.cond (.r 36) f43_27 .skip
theorem f43_26e:CN f43_26 36 f43_27 .skip:=rfl
def f43_24:AC:=.seq f43_25 f43_26
theorem f43_24e:SQ f43_24 f43_25 f43_26:=rfl
def f43_33l:List GI:=[vv 57 6,
    ⟨none,.ixS (some 58) (.r 57) (.c (.lit (.int .i64 0))) 1⟩,
    vl 59 58,
    vd 60 7 0,
    ⟨none,.store 1 (.r 60) (.r 59)⟩]
def f43_33:AC:=.ops [2,4,5,6,7] [2,4,5,7] f43_33l
theorem f43_33e:OP f43_33 f43_33l [2,4,5,6,7] [2,4,5,7]:=rfl
def f43_35l:List GI:=[vo 61 6,
    ⟨none,.sliOwn 62 61 (.c (.lit (.int .i64 1))) 1⟩,
    vd 63 2 1,
    ⟨none,.store 1 (.r 63) (.r 62)⟩]
def f43_35:AC:=.ops [2,4,5,7] [2,4,5,7] f43_35l
theorem f43_35e:OP f43_35 f43_35l [2,4,5,7] [2,4,5,7]:=rfl
def f43_37h:List GI:=[⟨none,.load (some 64) (.r 2) (some 5)⟩,
    ⟨none,.load (some 65) (.r 7) (some 4)⟩,
    ⟨none,.store 5 (.r 4) (.r 64)⟩]
def f43_37l:List GI:=[⟨none,.store 4 (.r 5) (.r 65)⟩]
def f43_37:AC:=.draw [4,5] [4,5] [4] f43_37h f43_37l
theorem f43_37e:aC P id m f43_37 sf st Q = aY P id sf.locs st f43_37h (cv P id m [4] [4,5] [4,5] f43_37l Q st) [] ⟨sf.regs,bk [4] sf.locs⟩:=rfl
def f43_36:AC:=.seq f43_37 .ret
theorem f43_36e:SQ f43_36 f43_37 .ret:=rfl
def f43_34:AC:=.seq f43_35 f43_36
theorem f43_34e:SQ f43_34 f43_35 f43_36:=rfl
def f43_32:AC:=.seq f43_33 f43_34
theorem f43_32e:SQ f43_32 f43_33 f43_34:=rfl
def f43_23:AC:=.seq f43_24 f43_32
theorem f43_23e:SQ f43_23 f43_24 f43_32:=rfl
def f43_21:AC:=.seq f43_22 f43_23
theorem f43_21e:SQ f43_21 f43_22 f43_23:=rfl
def f43_19:AC:=.seq f43_20 f43_21
theorem f43_19e:SQ f43_19 f43_20 f43_21:=rfl
def f43_18:AC:=.cond (.r 28) f43_19 .skip
theorem f43_18e:CN f43_18 28 f43_19 .skip:=rfl
def f43_16:AC:=.seq f43_17 f43_18
theorem f43_16e:SQ f43_16 f43_17 f43_18:=rfl
def f43_40l:List GI:=[vd 66 2 4,
    vl 67 66]
def f43_40:AC:=.ops [1,2,4,5,67] [2,4,5] f43_40l
theorem f43_40e:OP f43_40 f43_40l [1,2,4,5,67] [2,4,5]:=rfl
def f43_43l:List GI:=[⟨none,.load (some 68) (.r 2) (some 5)⟩,
    ⟨none,.bst (some 69) [(0,1),(1,1),(2,1),(3,1)] (.agg [(.lit (.int .i64 0)),(.lit (.bool false)),(.lit (.slice none 0 0)),(.lit (.int .i64 0))]) [(3,(.c (.lit (.int .i64 13))))]⟩,
    ⟨none,.store 5 (.r 4) (.r 68)⟩,
    ⟨none,.store 4 (.r 5) (.r 69)⟩]
def f43_43:AC:=.ops [4,5] [4,5] f43_43l
theorem f43_43e:OP f43_43 f43_43l [4,5] [4,5]:=rfl
def f43_42:AC:=.seq f43_43 .ret
theorem f43_42e:SQ f43_42 f43_43 .ret:=rfl
def f43_41:AC:=.cond (.r 67) f43_42 .skip
theorem f43_41e:CN f43_41 67 f43_42 .skip:=rfl
def f43_39:AC:=.seq f43_40 f43_41
theorem f43_39e:SQ f43_39 f43_40 f43_41:=rfl
def f43_46l:List GI:=[vv 70 1,
    vb 71 .lss 70 0]
def f43_46:AC:=.ops [1,2,4,5,71] [2,4,5] f43_46l
theorem f43_46e:OP f43_46 f43_46l [1,2,4,5,71] [2,4,5]:=rfl
def f43_49l:List GI:=[⟨none,.load (some 72) (.r 2) (some 5)⟩,
    ⟨none,.bst (some 73) [(0,1),(1,1),(2,1),(3,1)] (.agg [(.lit (.int .i64 0)),(.lit (.bool false)),(.lit (.slice none 0 0)),(.lit (.int .i64 0))]) [(3,(.c (.lit (.int .i64 16))))]⟩,
    ⟨none,.store 5 (.r 4) (.r 72)⟩,
    ⟨none,.store 4 (.r 5) (.r 73)⟩]
def f43_49:AC:=.ops [4,5] [4,5] f43_49l
theorem f43_49e:OP f43_49 f43_49l [4,5] [4,5]:=rfl
def f43_48:AC:=.seq f43_49 .ret
theorem f43_48e:SQ f43_48 f43_49 .ret:=rfl
def f43_47:AC:=.cond (.r 71) f43_48 .skip
theorem f43_47e:CN f43_47 71 f43_48 .skip:=rfl
def f43_45:AC:=.seq f43_46 f43_47
theorem f43_45e:SQ f43_45 f43_46 f43_47:=rfl
def f43_51l:List GI:=[vd 74 2 3,
    vl 75 74,
    vv 76 1,
    ⟨none,.bst (some 77) [(0,1),(1,1)] (.agg [(.lit (.int .i64 0)),(.lit (.int .i64 0))]) [(0,(.r 76))]⟩,
    ⟨none,.call (some 78) false (.f 50) [(.r 75),(.r 77)]⟩,
    vd 79 2 3,
    ⟨none,.store 1 (.r 79) (.r 78)⟩]
def f43_51:AC:=.ops [2,4,5] [2,4,5] f43_51l
theorem f43_51e:OP f43_51 f43_51l [2,4,5] [2,4,5]:=rfl
def f43_53l:List GI:=[⟨none,.load (some 80) (.r 2) (some 5)⟩,
    ⟨none,.bst (some 81) [(0,1),(1,1),(2,1),(3,1)] (.agg [(.lit (.int .i64 0)),(.lit (.bool false)),(.lit (.slice none 0 0)),(.lit (.int .i64 0))]) []⟩,
    ⟨none,.store 5 (.r 4) (.r 80)⟩,
    ⟨none,.store 4 (.r 5) (.r 81)⟩]
def f43_53:AC:=.ops [4,5] [4,5] f43_53l
theorem f43_53e:OP f43_53 f43_53l [4,5] [4,5]:=rfl
def f43_52:AC:=.seq f43_53 .ret
theorem f43_52e:SQ f43_52 f43_53 .ret:=rfl
def f43_50:AC:=.seq f43_51 f43_52
theorem f43_50e:SQ f43_50 f43_51 f43_52:=rfl
def f43_44:AC:=.seq f43_45 f43_50
theorem f43_44e:SQ f43_44 f43_45 f43_50:=rfl
def f43_38:AC:=.seq f43_39 f43_44
theorem f43_38e:SQ f43_38 f43_39 f43_44:=rfl
def f43_15:AC:=.seq f43_16 f43_38
theorem f43_15e:SQ f43_15 f43_16 f43_38:=rfl
def f43_9:AC:=.seq f43_10 f43_15
theorem f43_9e:SQ f43_9 f43_10 f43_15:=rfl
def f43_3:AC:=.seq f43_4 f43_9
theorem f43_3e:SQ f43_3 f43_4 f43_9:=rfl
def f43_1:AC:=.seq f43_2 f43_3
theorem f43_1e:SQ f43_1 f43_2 f43_3:=rfl
def c_f43:AFun:=⟨82,[.cell 4 (some 5),.cell 5 (some 4)],f43_1⟩
theorem k_f43:bK Go.Proofs.Try.prog x_f43 43 = some c_f43:=by kernel_rfl
theorem e_f43:aS Go.Proofs.Try.prog 43 = true:=by kernel_rfl

def n_f44:Nat:=44
def x_f44:Cx:=⟨some,id,32,fun s=>([0,1,6,7,8,9,10,12,13,14,15,16,18,19,21,22,23,25,26,27,30,31]:List Nat).contains s,fun s=>([]:List Nat).contains s,msOf [(2,[1,2,4,5],[2,4,5]),(12,[1,2,4,5,11],[2,4,5]),(52,[4,5],[4,5]),(28,[1,2,4,5,17],[2,4,5]),(116,[4,5],[4,5]),(30,[2,4,5],[2,4,5]),(62,[4,5],[4,5])]⟩
def f44_2l:List GI:=[⟨none,.boxL 2 5 (.r 0)⟩,
    ⟨none,.newL 4 [(.lit (.int .i64 0)),(.lit (.slice none 0 0)),(.lit (.slice none 0 0)),(.lit (.slice none 0 0)),(.lit (.bool false))]⟩,
    ⟨none,.newL 5 [(.lit (.int .i64 0)),(.lit (.bool false)),(.lit (.slice none 0 0)),(.lit (.int .i64 0))]⟩]
def f44_2:AC:=.ops [1,2,4,5] [2,4,5] f44_2l
theorem f44_2e:OP f44_2 f44_2l [1,2,4,5] [2,4,5]:=rfl
def f44_5l:List GI:=[vv 6 1,
    vb 7 .lss 6 0,
    vv 8 7,
    ⟨some (8,false),.mv (some 9) (.r 1)⟩,
    ⟨some (8,false),.bin (some 10) .num .geq (.r 9) (.c (.lit (.int .i64 64)))⟩,
    ⟨none,.pick (some 11) (.r 8) (.c (.lit (.bool true))) (.r 10)⟩]
def f44_5:AC:=.ops [1,2,4,5,11] [2,4,5] f44_5l
theorem f44_5e:OP f44_5 f44_5l [1,2,4,5,11] [2,4,5]:=rfl
def f44_8l:List GI:=[⟨none,.load (some 12) (.r 2) (some 5)⟩,
    ⟨none,.bst (some 13) [(0,1),(1,1),(2,1),(3,1)] (.agg [(.lit (.int .i64 0)),(.lit (.bool false)),(.lit (.slice none 0 0)),(.lit (.int .i64 0))]) [(3,(.c (.lit (.int .i64 2))))]⟩,
    ⟨none,.store 5 (.r 4) (.r 12)⟩,
    ⟨none,.store 4 (.r 5) (.r 13)⟩]
def f44_8:AC:=.ops [4,5] [4,5] f44_8l
theorem f44_8e:OP f44_8 f44_8l [4,5] [4,5]:=rfl
def f44_7:AC:=.seq f44_8 .ret
theorem f44_7e:SQ f44_7 f44_8 .ret:=rfl
def f44_6:AC:=.cond (.r 11) f44_7 .skip
theorem f44_6e:CN f44_6 11 f44_7 .skip:=rfl
def f44_4:AC:=.seq f44_5 f44_6
theorem f44_4e:SQ f44_4 f44_5 f44_6:=rfl
def f44_11l:List GI:=[⟨none,.load (some 14) (.r 2) (some 5)⟩,
    vv 15 1,
    ⟨none,.call (some 16) false (.f 49) [(.r 14),(.r 15)]⟩,
    ⟨none,.un (some 17) .not (.r 16)⟩]
def f44_11:AC:=.ops [1,2,4,5,17] [2,4,5] f44_11l
theorem f44_11e:OP f44_11 f44_11l [1,2,4,5,17] [2,4,5]:=rfl
def f44_14l:List GI:=[⟨none,.load (some 18) (.r 2) (some 5)⟩,
    ⟨none,.bst (some 19) [(0,1),(1,1),(2,1),(3,1)] (.agg [(.lit (.int .i64 0)),(.lit (.bool false)),(.lit (.slice none 0 0)),(.lit (.int .i64 0))]) [(3,(.c (.lit (.int .i64 9))))]⟩,
    ⟨none,.store 5 (.r 4) (.r 18)⟩,
    ⟨none,.store 4 (.r 5) (.r 19)⟩]
def f44_14:AC:=.ops [4,5] [4,5] f44_14l
theorem f44_14e:OP f44_14 f44_14l [4,5] [4,5]:=rfl
def f44_13:AC:=.seq f44_14 .ret
theorem f44_13e:SQ f44_13 f44_14 .ret:=rfl
def f44_12:AC:=.cond (.r 17) f44_13 .skip
theorem f44_12e:CN f44_12 17 f44_13 .skip:=rfl
def f44_10:AC:=.seq f44_11 f44_12
theorem f44_10e:SQ f44_10 f44_11 f44_12:=rfl
def f44_16h:List GI:=[vd 20 2 2,
    vl 21 20,
    vv 22 1,
    ⟨none,.call (some 23) true (.f 51) [(.r 21),(.r 22)]⟩,
    vd 24 2 3,
    vl 25 24,
    vv 26 1,
    ⟨none,.call (some 27) true (.f 51) [(.r 25),(.r 26)]⟩,
    vd 28 2 2]
def f44_16l:List GI:=[⟨none,.store 1 (.r 28) (.r 23)⟩,
    vd 29 2 3,
    ⟨none,.store 1 (.r 29) (.r 27)⟩]
def f44_16:AC:=.draw [2,4,5] [2,4,5] [] f44_16h f44_16l
theorem f44_16e:aC P id m f44_16 sf st Q = aY P id sf.locs st f44_16h (cv P id m [] [2,4,5] [2,4,5] f44_16l Q st) [] ⟨sf.regs,bk [] sf.locs⟩:=rfl
def f44_18l:List GI:=[⟨none,.load (some 30) (.r 2) (some 5)⟩,
    ⟨none,.bst (some 31) [(0,1),(1,1),(2,1),(3,1)] (.agg [(.lit (.int .i64 0)),(.lit (.bool false)),(.lit (.slice none 0 0)),(.lit (.int .i64 0))]) []⟩,
    ⟨none,.store 5 (.r 4) (.r 30)⟩,
    ⟨none,.store 4 (.r 5) (.r 31)⟩]
def f44_18:AC:=.ops [4,5] [4,5] f44_18l
theorem f44_18e:OP f44_18 f44_18l [4,5] [4,5]:=rfl
def f44_17:AC:=.seq f44_18 .ret
theorem f44_17e:SQ f44_17 f44_18 .ret:=rfl
def f44_15:AC:=.seq f44_16 f44_17
theorem f44_15e:SQ f44_15 f44_16 f44_17:=rfl
def f44_9:AC:=.seq f44_10 f44_15
theorem f44_9e:SQ f44_9 f44_10 f44_15:=rfl
def f44_3:AC:=.seq f44_4 f44_9
theorem f44_3e:SQ f44_3 f44_4 f44_9:=rfl
def f44_1:AC:=.seq f44_2 f44_3
theorem f44_1e:SQ f44_1 f44_2 f44_3:=rfl
def c_f44:AFun:=⟨32,[.cell 4 (some 5),.cell 5 (some 4)],f44_1⟩
theorem k_f44:bK Go.Proofs.Try.prog x_f44 44 = some c_f44:=by kernel_rfl
theorem e_f44:aS Go.Proofs.Try.prog 44 = true:=by kernel_rfl

def n_f45:Nat:=45
def x_f45:Cx:=⟨some,id,54,fun s=>([0,5,6,9,10,11,13,14,16,17,19,22,25,26,27,28,30,32,33,35,36,38,41,44,45,46,47,52,53]:List Nat).contains s,fun s=>([28,47]:List Nat).contains s,msOf [(2,[1,2,3],[1,2,3]),(12,[1,2,3,8],[1,2,3]),(52,[2,3],[2,3]),(14,[1,2,3,4],[1,2,3,4]),(60,[1,2,3,4,5],[1,2,3,4]),(122,[1,2,3,4,5],[1,2,3,4]),(976,[1,2,3,4,5,15],[1,2,3,4]),(1955,[1,2,3,4],[1,2,3,4]),(1956,[1,2,3,4,5],[1,2,3,4]),(979,[1,2,3,4,5],[1,2,3,4]),(124,[1,2,3,4,6],[1,2,3,4]),(250,[1,2,3,4,6],[1,2,3,4]),(2000,[1,2,3,4,6,34],[1,2,3,4]),(4003,[1,2,3,4],[1,2,3,4]),(4004,[1,2,3,4,6],[1,2,3,4]),(2003,[1,2,3,4,6],[1,2,3,4]),(126,[1,2,3,4],[1,2,3,4]),(254,[2,3],[2,3])]⟩
def f45_2l:List GI:=[⟨none,.boxL 1 5 (.r 0)⟩,
    ⟨none,.newL 2 [(.lit (.int .i64 0)),(.lit (.slice none 0 0)),(.lit (.slice none 0 0)),(.lit (.slice none 0 0)),(.lit (.bool false))]⟩,
    ⟨none,.newL 3 [(.lit (.int .i64 0)),(.lit (.bool false)),(.lit (.slice none 0 0)),(.lit (.int .i64 0))]⟩]
def f45_2:AC:=.ops [1,2,3] [1,2,3] f45_2l
theorem f45_2e:OP f45_2 f45_2l [1,2,3] [1,2,3]:=rfl
def f45_5l:List GI:=[vd 7 1 4,
    vl 8 7]
def f45_5:AC:=.ops [1,2,3,8] [1,2,3] f45_5l
theorem f45_5e:OP f45_5 f45_5l [1,2,3,8] [1,2,3]:=rfl
def f45_8l:List GI:=[⟨none,.load (some 9) (.r 1) (some 5)⟩,
    ⟨none,.bst (some 10) [(0,1),(1,1),(2,1),(3,1)] (.agg [(.lit (.int .i64 0)),(.lit (.bool false)),(.lit (.slice none 0 0)),(.lit (.int .i64 0))]) [(3,(.c (.lit (.int .i64 14))))]⟩,
    ⟨none,.store 5 (.r 2) (.r 9)⟩,
    ⟨none,.store 4 (.r 3) (.r 10)⟩]
def f45_8:AC:=.ops [2,3] [2,3] f45_8l
theorem f45_8e:OP f45_8 f45_8l [2,3] [2,3]:=rfl
def f45_7:AC:=.seq f45_8 .ret
theorem f45_7e:SQ f45_7 f45_8 .ret:=rfl
def f45_6:AC:=.cond (.r 8) f45_7 .skip
theorem f45_6e:CN f45_6 8 f45_7 .skip:=rfl
def f45_4:AC:=.seq f45_5 f45_6
theorem f45_4e:SQ f45_4 f45_5 f45_6:=rfl
def f45_10l:List GI:=[⟨none,.newL 4 [(.lit (.int .i64 0)),(.lit (.bool false)),(.lit (.slice none 0 0)),(.lit (.int .i64 0))]⟩]
def f45_10:AC:=.ops [1,2,3,4] [1,2,3,4] f45_10l
theorem f45_10e:OP f45_10 f45_10l [1,2,3,4] [1,2,3,4]:=rfl
def f45_13l:List GI:=[⟨none,.mv (some 5) (.c (.lit (.int .i64 0)))⟩]
def f45_13:AC:=.ops [1,2,3,4,5] [1,2,3,4] f45_13l
theorem f45_13e:OP f45_13 f45_13l [1,2,3,4,5] [1,2,3,4]:=rfl
def f45_18l:List GI:=[vv 11 5,
    vd 12 1 3,
    vl 13 12,
    ⟨none,.len (some 14) .sl (.r 13)⟩,
    ⟨none,.bin (some 15) .num .lss (.r 11) (.r 14)⟩]
def f45_18:AC:=.ops [1,2,3,4,5,15] [1,2,3,4] f45_18l
theorem f45_18e:OP f45_18 f45_18l [1,2,3,4,5,15] [1,2,3,4]:=rfl
def f45_19:AC:=.cond (.r 15) .skip (.exit [1,2,3,4] [1,2,3,4] 0)
theorem f45_19e:CN f45_19 15 .skip (.exit [1,2,3,4] [1,2,3,4] 0):=rfl
def f45_17:AC:=.seq f45_18 f45_19
theorem f45_17e:SQ f45_17 f45_18 f45_19:=rfl
def f45_22h:List GI:=[vd 18 4 2,
    vl 19 18,
    vd 20 1 3,
    vl 21 20,
    vv 22 5,
    ⟨none,.ixS (some 23) (.r 21) (.r 22) 2⟩,
    vd 24 23 0,
    vl 25 24,
    ⟨none,.bst (some 26) [(0,1),(1,1),(2,1),(3,1)] (.agg [(.lit (.int .i64 0)),(.lit (.int .i64 0)),(.lit (.int .i64 0)),(.lit (.int .i64 0))]) [(0,(.r 25)),(3,(.c (.lit (.int .i64 13))))]⟩,
    ⟨none,.bsl (some 27) 4 1 (.agg [(.lit (.int .i64 0)),(.lit (.int .i64 0)),(.lit (.int .i64 0)),(.lit (.int .i64 0))]) [(0,(.r 26))]⟩]
def f45_22l:List GI:=[⟨none,.x (some 28) (.appB (.r 19) 4 32 (.r 27))⟩,
    vd 29 4 2,
    ⟨none,.store 1 (.r 29) (.r 28)⟩]
def f45_22:AC:=.draw [1,2,3,4,5] [1,2,3,4] [] f45_22h f45_22l
theorem f45_22e:aC P id m f45_22 sf st Q = aY P id sf.locs st f45_22h (cv P id m [] [1,2,3,4,5] [1,2,3,4] f45_22l Q st) [] ⟨sf.regs,bk [] sf.locs⟩:=rfl
def f45_21:AC:=.block 1 f45_22
theorem f45_21e:BL f45_21 f45_22 1:=rfl
def f45_23l:List GI:=[vv 16 5,
    vb 17 .add 16 1,
    vo 5 17]
def f45_23:AC:=.ops [1,2,3,4,5] [1,2,3,4] f45_23l
theorem f45_23e:OP f45_23 f45_23l [1,2,3,4,5] [1,2,3,4]:=rfl
def f45_20:AC:=.seq f45_21 f45_23
theorem f45_20e:SQ f45_20 f45_21 f45_23:=rfl
def f45_16:AC:=.seq f45_17 f45_20
theorem f45_16e:SQ f45_16 f45_17 f45_20:=rfl
def f45_15:AC:=.loop [1,2,3,4,5] [1,2,3,4] f45_16
theorem f45_15w:aC P id m f45_15 sf st Q = cF (aC P id m f45_16) [1,2,3,4,5] [1,2,3,4] sf st Q:=rfl
def f45_14:AC:=.block 0 f45_15
theorem f45_14e:BL f45_14 f45_15 0:=rfl
def f45_12:AC:=.seq f45_13 f45_14
theorem f45_12e:SQ f45_12 f45_13 f45_14:=rfl
def f45_26l:List GI:=[⟨none,.mv (some 6) (.c (.lit (.int .i64 0)))⟩]
def f45_26:AC:=.ops [1,2,3,4,6] [1,2,3,4] f45_26l
theorem f45_26e:OP f45_26 f45_26l [1,2,3,4,6] [1,2,3,4]:=rfl
def f45_31l:List GI:=[vv 30 6,
    vd 31 1 2,
    vl 32 31,
    ⟨none,.len (some 33) .sl (.r 32)⟩,
    ⟨none,.bin (some 34) .num .lss (.r 30) (.r 33)⟩]
def f45_31:AC:=.ops [1,2,3,4,6,34] [1,2,3,4] f45_31l
theorem f45_31e:OP f45_31 f45_31l [1,2,3,4,6,34] [1,2,3,4]:=rfl
def f45_32:AC:=.cond (.r 34) .skip (.exit [1,2,3,4] [1,2,3,4] 2)
theorem f45_32e:CN f45_32 34 .skip (.exit [1,2,3,4] [1,2,3,4] 2):=rfl
def f45_30:AC:=.seq f45_31 f45_32
theorem f45_30e:SQ f45_30 f45_31 f45_32:=rfl
def f45_35h:List GI:=[vd 37 4 2,
    vl 38 37,
    vd 39 1 2,
    vl 40 39,
    vv 41 6,
    ⟨none,.ixS (some 42) (.r 40) (.r 41) 2⟩,
    vd 43 42 0,
    vl 44 43,
    ⟨none,.bst (some 45) [(0,1),(1,1),(2,1),(3,1)] (.agg [(.lit (.int .i64 0)),(.lit (.int .i64 0)),(.lit (.int .i64 0)),(.lit (.int .i64 0))]) [(0,(.r 44)),(3,(.c (.lit (.int .i64 14))))]⟩,
    ⟨none,.bsl (some 46) 4 1 (.agg [(.lit (.int .i64 0)),(.lit (.int .i64 0)),(.lit (.int .i64 0)),(.lit (.int .i64 0))]) [(0,(.r 45))]⟩]
def f45_35l:List GI:=[⟨none,.x (some 47) (.appB (.r 38) 4 32 (.r 46))⟩,
    vd 48 4 2,
    ⟨none,.store 1 (.r 48) (.r 47)⟩]
def f45_35:AC:=.draw [1,2,3,4,6] [1,2,3,4] [] f45_35h f45_35l
theorem f45_35e:aC P id m f45_35 sf st Q = aY P id sf.locs st f45_35h (cv P id m [] [1,2,3,4,6] [1,2,3,4] f45_35l Q st) [] ⟨sf.regs,bk [] sf.locs⟩:=rfl
def f45_34:AC:=.block 3 f45_35
theorem f45_34e:BL f45_34 f45_35 3:=rfl
def f45_36l:List GI:=[vv 35 6,
    vb 36 .add 35 1,
    vo 6 36]
def f45_36:AC:=.ops [1,2,3,4,6] [1,2,3,4] f45_36l
theorem f45_36e:OP f45_36 f45_36l [1,2,3,4,6] [1,2,3,4]:=rfl
def f45_33:AC:=.seq f45_34 f45_36
theorem f45_33e:SQ f45_33 f45_34 f45_36:=rfl
def f45_29:AC:=.seq f45_30 f45_33
theorem f45_29e:SQ f45_29 f45_30 f45_33:=rfl
def f45_28:AC:=.loop [1,2,3,4,6] [1,2,3,4] f45_29
theorem f45_28w:aC P id m f45_28 sf st Q = cF (aC P id m f45_29) [1,2,3,4,6] [1,2,3,4] sf st Q:=rfl
def f45_27:AC:=.block 2 f45_28
theorem f45_27e:BL f45_27 f45_28 2:=rfl
def f45_25:AC:=.seq f45_26 f45_27
theorem f45_25e:SQ f45_25 f45_26 f45_27:=rfl
def f45_38l:List GI:=[vd 49 1 3,
    ⟨none,.store 1 (.r 49) (.c (.lit (.slice none 0 0)))⟩,
    vd 50 1 2,
    ⟨none,.store 1 (.r 50) (.c (.lit (.slice none 0 0)))⟩,
    vd 51 1 4,
    ⟨none,.store 1 (.r 51) (.c (.lit (.bool true)))⟩]
def f45_38:AC:=.ops [1,2,3,4] [1,2,3,4] f45_38l
theorem f45_38e:OP f45_38 f45_38l [1,2,3,4] [1,2,3,4]:=rfl
def f45_40h:List GI:=[⟨none,.load (some 52) (.r 1) (some 5)⟩,
    ⟨none,.load (some 53) (.r 4) (some 4)⟩,
    ⟨none,.store 5 (.r 2) (.r 52)⟩]
def f45_40l:List GI:=[⟨none,.store 4 (.r 3) (.r 53)⟩]
def f45_40:AC:=.draw [2,3] [2,3] [2] f45_40h f45_40l
theorem f45_40e:aC P id m f45_40 sf st Q = aY P id sf.locs st f45_40h (cv P id m [2] [2,3] [2,3] f45_40l Q st) [] ⟨sf.regs,bk [2] sf.locs⟩:=rfl
def f45_39:AC:=.seq f45_40 .ret
theorem f45_39e:SQ f45_39 f45_40 .ret:=rfl
def f45_37:AC:=.seq f45_38 f45_39
theorem f45_37e:SQ f45_37 f45_38 f45_39:=rfl
def f45_24:AC:=.seq f45_25 f45_37
theorem f45_24e:SQ f45_24 f45_25 f45_37:=rfl
def f45_11:AC:=.seq f45_12 f45_24
theorem f45_11e:SQ f45_11 f45_12 f45_24:=rfl
def f45_9:AC:=.seq f45_10 f45_11
theorem f45_9e:SQ f45_9 f45_10 f45_11:=rfl
def f45_3:AC:=.seq f45_4 f45_9
theorem f45_3e:SQ f45_3 f45_4 f45_9:=rfl
def f45_1:AC:=.seq f45_2 f45_3
theorem f45_1e:SQ f45_1 f45_2 f45_3:=rfl
def c_f45:AFun:=⟨54,[.cell 2 (some 5),.cell 3 (some 4)],f45_1⟩
theorem k_f45:bK Go.Proofs.Try.prog x_f45 45 = some c_f45:=by kernel_rfl
theorem e_f45:aS Go.Proofs.Try.prog 45 = true:=by kernel_rfl

def n_f46:Nat:=46
def x_f46:Cx:=⟨some,id,22,fun s=>([0,2,3,4,5,6,7,8,9,10,11,12,13,14,16,17,19,20,21]:List Nat).contains s,fun s=>([]:List Nat).contains s,msOf [(2,[0],[]),(6,[0,5,6,7],[]),(28,[0,5,6,7,15],[]),(58,[5,6,7],[]),(30,[2,3,4],[])]⟩
def f46_2l:List GI:=[⟨none,.mv (some 2) (.c (.lit (.int .i64 0)))⟩,
    ⟨none,.mv (some 3) (.c (.lit (.int .u64 0)))⟩,
    ⟨none,.mv (some 4) (.c (.lit (.int .i64 0)))⟩]
def f46_2:AC:=.ops [0] [] f46_2l
theorem f46_2e:OP f46_2 f46_2l [0] []:=rfl
def f46_4l:List GI:=[vv 9 0,
    ⟨none,.call (some 10) false (.f 52) [(.r 9)]⟩,
    vv 8 10,
    ve 11 8 0,
    ve 12 8 1,
    ve 13 8 2,
    vo 5 11,
    vo 6 12,
    vo 7 13]
def f46_4:AC:=.ops [0,5,6,7] [] f46_4l
theorem f46_4e:OP f46_4 f46_4l [0,5,6,7] []:=rfl
def f46_7l:List GI:=[vv 14 7,
    vb 15 .eql 14 0]
def f46_7:AC:=.ops [0,5,6,7,15] [] f46_7l
theorem f46_7e:OP f46_7 f46_7l [0,5,6,7,15] []:=rfl
def f46_9l:List GI:=[vv 16 0,
    vv 17 6,
    ⟨none,.call (some 18) false (.f 40) [(.r 16),(.r 17)]⟩]
def f46_9:AC:=.ops [5,6,7] [] f46_9l
theorem f46_9e:OP f46_9 f46_9l [5,6,7] []:=rfl
def f46_8:AC:=.cond (.r 15) f46_9 .skip
theorem f46_8e:CN f46_8 15 f46_9 .skip:=rfl
def f46_6:AC:=.seq f46_7 f46_8
theorem f46_6e:SQ f46_6 f46_7 f46_8:=rfl
def f46_11l:List GI:=[vv 19 5,
    vv 20 6,
    vv 21 7,
    vo 2 19,
    vo 3 20,
    vo 4 21]
def f46_11:AC:=.ops [2,3,4] [] f46_11l
theorem f46_11e:OP f46_11 f46_11l [2,3,4] []:=rfl
def f46_10:AC:=.seq f46_11 .ret
theorem f46_10e:SQ f46_10 f46_11 .ret:=rfl
def f46_5:AC:=.seq f46_6 f46_10
theorem f46_5e:SQ f46_5 f46_6 f46_10:=rfl
def f46_3:AC:=.seq f46_4 f46_5
theorem f46_3e:SQ f46_3 f46_4 f46_5:=rfl
def f46_1:AC:=.seq f46_2 f46_3
theorem f46_1e:SQ f46_1 f46_2 f46_3:=rfl
def c_f46:AFun:=⟨22,[.tmp 2,.tmp 3,.tmp 4],f46_1⟩
theorem k_f46:bK Go.Proofs.Try.prog x_f46 46 = some c_f46:=by kernel_rfl
theorem e_f46:aS Go.Proofs.Try.prog 46 = true:=by kernel_rfl

def n_f47:Nat:=47
def x_f47:Cx:=⟨some,id,9,fun s=>([0,2,3,5,6,7,8]:List Nat).contains s,fun s=>([]:List Nat).contains s,msOf [(2,[0],[]),(12,[0,4],[]),(52,[2],[]),(14,[2],[])]⟩
def f47_2l:List GI:=[⟨none,.mv (some 2) (.c (.lit (.map none)))⟩]
def f47_2:AC:=.ops [0] [] f47_2l
theorem f47_2e:OP f47_2 f47_2l [0] []:=rfl
def f47_5l:List GI:=[vv 3 0,
    ⟨none,.bin (some 4) (.nil .mp) .eql (.r 3) (.c (.lit (.map none)))⟩]
def f47_5:AC:=.ops [0,4] [] f47_5l
theorem f47_5e:OP f47_5 f47_5l [0,4] []:=rfl
def f47_8l:List GI:=[⟨none,.mv (some 2) (.c (.lit (.map none)))⟩]
def f47_8:AC:=.ops [2] [] f47_8l
theorem f47_8e:OP f47_8 f47_8l [2] []:=rfl
def f47_7:AC:=.seq f47_8 .ret
theorem f47_7e:SQ f47_7 f47_8 .ret:=rfl
def f47_6:AC:=.cond (.r 4) f47_7 .skip
theorem f47_6e:CN f47_6 4 f47_7 .skip:=rfl
def f47_4:AC:=.seq f47_5 f47_6
theorem f47_4e:SQ f47_4 f47_5 f47_6:=rfl
def f47_10l:List GI:=[vv 5 0,
    ⟨none,.mkif (some 6) 83 (.r 5)⟩,
    ⟨none,.x (some 7) (.mclone (.r 6))⟩,
    ⟨none,.tas (some 8) 83 (.r 7)⟩,
    vo 2 8]
def f47_10:AC:=.ops [2] [] f47_10l
theorem f47_10e:OP f47_10 f47_10l [2] []:=rfl
def f47_9:AC:=.seq f47_10 .ret
theorem f47_9e:SQ f47_9 f47_10 .ret:=rfl
def f47_3:AC:=.seq f47_4 f47_9
theorem f47_3e:SQ f47_3 f47_4 f47_9:=rfl
def f47_1:AC:=.seq f47_2 f47_3
theorem f47_1e:SQ f47_1 f47_2 f47_3:=rfl
def c_f47:AFun:=⟨9,[.tmp 2],f47_1⟩
theorem k_f47:bK Go.Proofs.Try.prog x_f47 47 = some c_f47:=by kernel_rfl
theorem e_f47:aS Go.Proofs.Try.prog 47 = true:=by kernel_rfl

def n_f48:Nat:=48
def x_f48:Cx:=⟨some,id,97,fun s=>([0,1,4,5,8,9,14,15,16,21,22,29,34,35,40,41,46,53,60,65,66,71,76,81,82,88,96]:List Nat).contains s,fun s=>([]:List Nat).contains s,msOf [(2,[0,1],[]),(24,[0,1,7],[]),(100,[4,5],[]),(102,[0,1,10],[]),(412,[4,5],[]),(14,[0,1],[]),(30,[0],[]),(124,[0,47],[]),(250,[0],[]),(502,[0,6],[6]),(1006,[0,6],[6]),(1007,[0],[]),(126,[0],[]),(254,[4,5],[])]⟩
def f48_2l:List GI:=[⟨none,.mv (some 4) (.c (.lit (.int .u64 0)))⟩,
    ⟨none,.mv (some 5) (.c (.lit (.int .i64 0)))⟩]
def f48_2:AC:=.ops [0,1] [] f48_2l
theorem f48_2e:OP f48_2 f48_2l [0,1] []:=rfl
def f48_6l:List GI:=[vv 8 0,
    ⟨none,.call (some 9) false (.f 41) [(.r 8)]⟩,
    vo 7 9]
def f48_6:AC:=.ops [0,1,7] [] f48_6l
theorem f48_6e:OP f48_6 f48_6l [0,1,7] []:=rfl
def f48_9l:List GI:=[⟨none,.mv (some 4) (.c (.lit (.int .u64 0)))⟩,
    ⟨none,.mv (some 5) (.c (.lit (.int .i64 1)))⟩]
def f48_9:AC:=.ops [4,5] [] f48_9l
theorem f48_9e:OP f48_9 f48_9l [4,5] []:=rfl
def f48_8:AC:=.seq f48_9 .ret
theorem f48_8e:SQ f48_8 f48_9 .ret:=rfl
def f48_11l:List GI:=[vv 11 0,
    vn 12 11,
    vd 13 12 3,
    vl 14 13,
    ⟨none,.len (some 15) .mp (.r 14)⟩,
    vb 16 .geq 15 4096,
    vo 10 16]
def f48_11:AC:=.ops [0,1,10] [] f48_11l
theorem f48_11e:OP f48_11 f48_11l [0,1,10] []:=rfl
def f48_14l:List GI:=[⟨none,.mv (some 4) (.c (.lit (.int .u64 0)))⟩,
    ⟨none,.mv (some 5) (.c (.lit (.int .i64 7)))⟩]
def f48_14:AC:=.ops [4,5] [] f48_14l
theorem f48_14e:OP f48_14 f48_14l [4,5] []:=rfl
def f48_13:AC:=.seq f48_14 .ret
theorem f48_13e:SQ f48_13 f48_14 .ret:=rfl
def f48_12:AC:=.cond (.r 10) f48_13 .skip
theorem f48_12e:CN f48_12 10 f48_13 .skip:=rfl
def f48_10:AC:=.seq f48_11 f48_12
theorem f48_10e:SQ f48_10 f48_11 f48_12:=rfl
def f48_7:AC:=.cond (.r 7) f48_8 f48_10
theorem f48_7e:CN f48_7 7 f48_8 f48_10:=rfl
def f48_5:AC:=.seq f48_6 f48_7
theorem f48_5e:SQ f48_5 f48_6 f48_7:=rfl
def f48_4:AC:=.block 0 f48_5
theorem f48_4e:BL f48_4 f48_5 0:=rfl
def f48_16l:List GI:=[vv 17 0,
    vn 18 17,
    vd 19 18 0,
    vd 20 19 2,
    vl 21 20,
    ⟨none,.bin (some 22) .num .add (.r 21) (.c (.lit (.int .u64 1)))⟩,
    vn 23 17,
    vd 24 23 0,
    vd 25 24 2,
    ⟨none,.store 1 (.r 25) (.r 22)⟩]
def f48_16:AC:=.ops [0,1] [] f48_16l
theorem f48_16e:OP f48_16 f48_16l [0,1] []:=rfl
def f48_18h:List GI:=[vv 26 0,
    vn 27 26,
    vd 28 27 3,
    vl 29 28,
    vv 30 0,
    vn 31 30,
    vd 32 31 0,
    vd 33 32 2,
    vl 34 33,
    vv 35 1,
    vv 36 0,
    vn 37 36,
    vd 38 37 0,
    vd 39 38 1,
    vl 40 39,
    ⟨none,.bst (some 41) [(0,1),(1,1),(2,1)] (.agg [(.lit (.int .i64 0)),(.lit (.int .u64 0)),(.lit (.int .u64 0))]) [(0,(.r 35)),(1,(.r 40))]⟩]
def f48_18l:List GI:=[⟨none,.upd (.int .u64) (.r 29) (.r 34) (.r 41)⟩]
def f48_18:AC:=.draw [0] [] [] f48_18h f48_18l
theorem f48_18e:aC P id m f48_18 sf st Q = aY P id sf.locs st f48_18h (cv P id m [] [0] [] f48_18l Q st) [] ⟨sf.regs,bk [] sf.locs⟩:=rfl
def f48_21l:List GI:=[vv 42 0,
    vn 43 42,
    vd 44 43 0,
    vd 45 44 1,
    vl 46 45,
    ⟨none,.bin (some 47) .num .eql (.r 46) (.c (.lit (.int .u64 0)))⟩]
def f48_21:AC:=.ops [0,47] [] f48_21l
theorem f48_21e:OP f48_21 f48_21l [0,47] []:=rfl
def f48_23l:List GI:=[vv 48 0,
    vv 49 0,
    vn 50 49,
    vd 51 50 0,
    vd 52 51 2,
    vl 53 52,
    vn 54 48,
    vd 55 54 0,
    vd 56 55 0,
    ⟨none,.store 1 (.r 56) (.r 53)⟩]
def f48_23:AC:=.ops [0] [] f48_23l
theorem f48_23e:OP f48_23 f48_23l [0] []:=rfl
def f48_25h:List GI:=[vv 57 0,
    vn 58 57,
    vd 59 58 3,
    vl 60 59,
    vv 61 0,
    vn 62 61,
    vd 63 62 0,
    vd 64 63 1,
    vl 65 64,
    ⟨none,.lookup (some 66) (.int .u64) (.agg [(.lit (.int .i64 0)),(.lit (.int .u64 0)),(.lit (.int .u64 0))]) false (.r 60) (.r 65)⟩,
    ⟨none,.newL 6 [(.lit (.int .i64 0)),(.lit (.int .u64 0)),(.lit (.int .u64 0))]⟩]
def f48_25l:List GI:=[⟨none,.store 3 (.r 6) (.r 66)⟩]
def f48_25:AC:=.draw [0,6] [6] [6] f48_25h f48_25l
theorem f48_25e:aC P id m f48_25 sf st Q = aY P id sf.locs st f48_25h (cv P id m [6] [0,6] [6] f48_25l Q st) [] ⟨sf.regs,bk [6] sf.locs⟩:=rfl
def f48_27l:List GI:=[vv 67 0,
    vn 68 67,
    vd 69 68 0,
    vd 70 69 2,
    vl 71 70,
    vd 72 6 2,
    ⟨none,.store 1 (.r 72) (.r 71)⟩]
def f48_27:AC:=.ops [0,6] [6] f48_27l
theorem f48_27e:OP f48_27 f48_27l [0,6] [6]:=rfl
def f48_28h:List GI:=[vv 73 0,
    vn 74 73,
    vd 75 74 3,
    vl 76 75,
    vv 77 0,
    vn 78 77,
    vd 79 78 0,
    vd 80 79 1,
    vl 81 80,
    ⟨none,.load (some 82) (.r 6) (some 3)⟩]
def f48_28l:List GI:=[⟨none,.upd (.int .u64) (.r 76) (.r 81) (.r 82)⟩]
def f48_28:AC:=.draw [0] [] [] f48_28h f48_28l
theorem f48_28e:aC P id m f48_28 sf st Q = aY P id sf.locs st f48_28h (cv P id m [] [0] [] f48_28l Q st) [] ⟨sf.regs,bk [] sf.locs⟩:=rfl
def f48_26:AC:=.seq f48_27 f48_28
theorem f48_26e:SQ f48_26 f48_27 f48_28:=rfl
def f48_24:AC:=.seq f48_25 f48_26
theorem f48_24e:SQ f48_24 f48_25 f48_26:=rfl
def f48_22:AC:=.cond (.r 47) f48_23 f48_24
theorem f48_22e:CN f48_22 47 f48_23 f48_24:=rfl
def f48_20:AC:=.seq f48_21 f48_22
theorem f48_20e:SQ f48_20 f48_21 f48_22:=rfl
def f48_30l:List GI:=[vv 83 0,
    vv 84 0,
    vn 85 84,
    vd 86 85 0,
    vd 87 86 2,
    vl 88 87,
    vn 89 83,
    vd 90 89 0,
    vd 91 90 1,
    ⟨none,.store 1 (.r 91) (.r 88)⟩]
def f48_30:AC:=.ops [0] [] f48_30l
theorem f48_30e:OP f48_30 f48_30l [0] []:=rfl
def f48_32l:List GI:=[vv 92 0,
    vn 93 92,
    vd 94 93 0,
    vd 95 94 2,
    vl 96 95,
    vo 4 96,
    ⟨none,.mv (some 5) (.c (.lit (.int .i64 0)))⟩]
def f48_32:AC:=.ops [4,5] [] f48_32l
theorem f48_32e:OP f48_32 f48_32l [4,5] []:=rfl
def f48_31:AC:=.seq f48_32 .ret
theorem f48_31e:SQ f48_31 f48_32 .ret:=rfl
def f48_29:AC:=.seq f48_30 f48_31
theorem f48_29e:SQ f48_29 f48_30 f48_31:=rfl
def f48_19:AC:=.seq f48_20 f48_29
theorem f48_19e:SQ f48_19 f48_20 f48_29:=rfl
def f48_17:AC:=.seq f48_18 f48_19
theorem f48_17e:SQ f48_17 f48_18 f48_19:=rfl
def f48_15:AC:=.seq f48_16 f48_17
theorem f48_15e:SQ f48_15 f48_16 f48_17:=rfl
def f48_3:AC:=.seq f48_4 f48_15
theorem f48_3e:SQ f48_3 f48_4 f48_15:=rfl
def f48_1:AC:=.seq f48_2 f48_3
theorem f48_1e:SQ f48_1 f48_2 f48_3:=rfl
def c_f48:AFun:=⟨97,[.tmp 4,.tmp 5],f48_1⟩
theorem k_f48:bK Go.Proofs.Try.prog x_f48 48 = some c_f48:=by kernel_rfl
theorem e_f48:aS Go.Proofs.Try.prog 48 = true:=by kernel_rfl

def n_f49:Nat:=49
def x_f49:Cx:=⟨some,id,17,fun s=>([0,1,4,6,7,8,9,10,12,13,14,15,16]:List Nat).contains s,fun s=>([]:List Nat).contains s,msOf [(2,[1,2],[2]),(6,[4],[])]⟩
def f49_2l:List GI:=[⟨none,.boxL 2 5 (.r 0)⟩,
    ⟨none,.mv (some 4) (.c (.lit (.bool false)))⟩]
def f49_2:AC:=.ops [1,2] [2] f49_2l
theorem f49_2e:OP f49_2 f49_2l [1,2] [2]:=rfl
def f49_4l:List GI:=[vd 5 2 2,
    vl 6 5,
    vv 7 1,
    ⟨none,.call (some 8) false (.f 54) [(.r 6),(.r 7)]⟩,
    vb 9 .geq 8 0,
    vv 10 9,
    ⟨some (10,false),.addr (some 11) (.r 2) 3⟩,
    ⟨some (10,false),.load (some 12) (.r 11) none⟩,
    ⟨some (10,false),.mv (some 13) (.r 1)⟩,
    ⟨some (10,false),.call (some 14) false (.f 54) [(.r 12),(.r 13)]⟩,
    ⟨some (10,false),.bin (some 15) .num .geq (.r 14) (.c (.lit (.int .i64 0)))⟩,
    ⟨none,.pick (some 16) (.r 10) (.c (.lit (.bool true))) (.r 15)⟩,
    vo 4 16]
def f49_4:AC:=.ops [4] [] f49_4l
theorem f49_4e:OP f49_4 f49_4l [4] []:=rfl
def f49_3:AC:=.seq f49_4 .ret
theorem f49_3e:SQ f49_3 f49_4 .ret:=rfl
def f49_1:AC:=.seq f49_2 f49_3
theorem f49_1e:SQ f49_1 f49_2 f49_3:=rfl
def c_f49:AFun:=⟨17,[.tmp 4],f49_1⟩
theorem k_f49:bK Go.Proofs.Try.prog x_f49 49 = some c_f49:=by kernel_rfl
theorem e_f49:aS Go.Proofs.Try.prog 49 = true:=by kernel_rfl

def n_f50:Nat:=50
def x_f50:Cx:=⟨some,id,10,fun s=>([0,1,4,5,6,7,8,9]:List Nat).contains s,fun s=>([]:List Nat).contains s,msOf [(2,[0,3],[3]),(6,[4],[])]⟩
def f50_2l:List GI:=[⟨none,.boxL 3 2 (.r 1)⟩,
    ⟨none,.mv (some 4) (.c (.lit (.slice none 0 0)))⟩]
def f50_2:AC:=.ops [0,3] [3] f50_2l
theorem f50_2e:OP f50_2 f50_2l [0,3] [3]:=rfl
def f50_4h:List GI:=[vv 5 0,
    ⟨none,.app (some 6) 2 16 (.c (.lit (.slice none 0 0))) (.r 5)⟩,
    ⟨none,.load (some 7) (.r 3) (some 2)⟩,
    ⟨none,.bsl (some 8) 2 1 (.agg [(.lit (.int .i64 0)),(.lit (.int .i64 0))]) [(0,(.r 7))]⟩]
def f50_4l:List GI:=[⟨none,.appS 9 6 2 16 (.r 8)⟩,
    vo 4 9]
def f50_4:AC:=.draw [4] [] [] f50_4h f50_4l
theorem f50_4e:aC P id m f50_4 sf st Q = aY P id sf.locs st f50_4h (cv P id m [] [4] [] f50_4l Q st) [] ⟨sf.regs,bk [] sf.locs⟩:=rfl
def f50_3:AC:=.seq f50_4 .ret
theorem f50_3e:SQ f50_3 f50_4 .ret:=rfl
def f50_1:AC:=.seq f50_2 f50_3
theorem f50_1e:SQ f50_1 f50_2 f50_3:=rfl
def c_f50:AFun:=⟨10,[.tmp 4],f50_1⟩
theorem k_f50:bK Go.Proofs.Try.prog x_f50 50 = some c_f50:=by kernel_rfl
theorem e_f50:aS Go.Proofs.Try.prog 50 = true:=by kernel_rfl

def n_f51:Nat:=51
def x_f51:Cx:=⟨some,id,21,fun s=>([0,1,4,5,6,7,8,9,11,12,13,14,15,16,17,18,19,20]:List Nat).contains s,fun s=>([]:List Nat).contains s,msOf [(2,[0,1],[]),(6,[0,5],[]),(28,[0,5,10],[]),(116,[4],[]),(30,[4],[])]⟩
def f51_2l:List GI:=[⟨none,.mv (some 4) (.c (.lit (.slice none 0 0)))⟩]
def f51_2:AC:=.ops [0,1] [] f51_2l
theorem f51_2e:OP f51_2 f51_2l [0,1] []:=rfl
def f51_4l:List GI:=[vv 6 0,
    vv 7 1,
    ⟨none,.call (some 8) false (.f 54) [(.r 6),(.r 7)]⟩,
    vo 5 8]
def f51_4:AC:=.ops [0,5] [] f51_4l
theorem f51_4e:OP f51_4 f51_4l [0,5] []:=rfl
def f51_7l:List GI:=[vv 9 5,
    vb 10 .lss 9 0]
def f51_7:AC:=.ops [0,5,10] [] f51_7l
theorem f51_7e:OP f51_7 f51_7l [0,5,10] []:=rfl
def f51_10l:List GI:=[vv 11 0,
    vo 4 11]
def f51_10:AC:=.ops [4] [] f51_10l
theorem f51_10e:OP f51_10 f51_10l [4] []:=rfl
def f51_9:AC:=.seq f51_10 .ret
theorem f51_9e:SQ f51_9 f51_10 .ret:=rfl
def f51_8:AC:=.cond (.r 10) f51_9 .skip
theorem f51_8e:CN f51_8 10 f51_9 .skip:=rfl
def f51_6:AC:=.seq f51_7 f51_8
theorem f51_6e:SQ f51_6 f51_7 f51_8:=rfl
def f51_12h:List GI:=[vv 12 0,
    vv 13 5,
    ⟨none,.sliS (some 14) (.r 12) none (some (.r 13)) 2⟩,
    ⟨none,.app (some 15) 2 16 (.c (.lit (.slice none 0 0))) (.r 14)⟩,
    vv 16 0,
    vv 17 5,
    vb 18 .add 17 1,
    ⟨none,.sliS (some 19) (.r 16) (some (.r 18)) none 2⟩]
def f51_12l:List GI:=[⟨none,.appS 20 15 2 16 (.r 19)⟩,
    vo 4 20]
def f51_12:AC:=.draw [4] [] [] f51_12h f51_12l
theorem f51_12e:aC P id m f51_12 sf st Q = aY P id sf.locs st f51_12h (cv P id m [] [4] [] f51_12l Q st) [] ⟨sf.regs,bk [] sf.locs⟩:=rfl
def f51_11:AC:=.seq f51_12 .ret
theorem f51_11e:SQ f51_11 f51_12 .ret:=rfl
def f51_5:AC:=.seq f51_6 f51_11
theorem f51_5e:SQ f51_5 f51_6 f51_11:=rfl
def f51_3:AC:=.seq f51_4 f51_5
theorem f51_3e:SQ f51_3 f51_4 f51_5:=rfl
def f51_1:AC:=.seq f51_2 f51_3
theorem f51_1e:SQ f51_1 f51_2 f51_3:=rfl
def c_f51:AFun:=⟨21,[.tmp 4],f51_1⟩
theorem k_f51:bK Go.Proofs.Try.prog x_f51 51 = some c_f51:=by kernel_rfl
theorem e_f51:aS Go.Proofs.Try.prog 51 = true:=by kernel_rfl

def n_f52:Nat:=52
def x_f52:Cx:=⟨some,id,31,fun s=>([0,2,3,4,6,7,13,14,18,23,24,25,30]:List Nat).contains s,fun s=>([]:List Nat).contains s,msOf [(2,[0],[]),(24,[0,5],[]),(100,[2,3,4],[]),(102,[0,8],[]),(412,[2,3,4],[]),(14,[2,3,4],[])]⟩
def f52_2l:List GI:=[⟨none,.mv (some 2) (.c (.lit (.int .i64 0)))⟩,
    ⟨none,.mv (some 3) (.c (.lit (.int .u64 0)))⟩,
    ⟨none,.mv (some 4) (.c (.lit (.int .i64 0)))⟩]
def f52_2:AC:=.ops [0] [] f52_2l
theorem f52_2e:OP f52_2 f52_2l [0] []:=rfl
def f52_6l:List GI:=[vv 6 0,
    ⟨none,.call (some 7) false (.f 41) [(.r 6)]⟩,
    vo 5 7]
def f52_6:AC:=.ops [0,5] [] f52_6l
theorem f52_6e:OP f52_6 f52_6l [0,5] []:=rfl
def f52_9l:List GI:=[⟨none,.mv (some 2) (.c (.lit (.int .i64 0)))⟩,
    ⟨none,.mv (some 3) (.c (.lit (.int .u64 0)))⟩,
    ⟨none,.mv (some 4) (.c (.lit (.int .i64 1)))⟩]
def f52_9:AC:=.ops [2,3,4] [] f52_9l
theorem f52_9e:OP f52_9 f52_9l [2,3,4] []:=rfl
def f52_8:AC:=.seq f52_9 .ret
theorem f52_8e:SQ f52_8 f52_9 .ret:=rfl
def f52_11l:List GI:=[vv 9 0,
    vn 10 9,
    vd 11 10 0,
    vd 12 11 0,
    vl 13 12,
    ⟨none,.bin (some 14) .num .eql (.r 13) (.c (.lit (.int .u64 0)))⟩,
    vo 8 14]
def f52_11:AC:=.ops [0,8] [] f52_11l
theorem f52_11e:OP f52_11 f52_11l [0,8] []:=rfl
def f52_14l:List GI:=[⟨none,.mv (some 2) (.c (.lit (.int .i64 0)))⟩,
    ⟨none,.mv (some 3) (.c (.lit (.int .u64 0)))⟩,
    ⟨none,.mv (some 4) (.c (.lit (.int .i64 9)))⟩]
def f52_14:AC:=.ops [2,3,4] [] f52_14l
theorem f52_14e:OP f52_14 f52_14l [2,3,4] []:=rfl
def f52_13:AC:=.seq f52_14 .ret
theorem f52_13e:SQ f52_13 f52_14 .ret:=rfl
def f52_12:AC:=.cond (.r 8) f52_13 .skip
theorem f52_12e:CN f52_12 8 f52_13 .skip:=rfl
def f52_10:AC:=.seq f52_11 f52_12
theorem f52_10e:SQ f52_10 f52_11 f52_12:=rfl
def f52_7:AC:=.cond (.r 5) f52_8 f52_10
theorem f52_7e:CN f52_7 5 f52_8 f52_10:=rfl
def f52_5:AC:=.seq f52_6 f52_7
theorem f52_5e:SQ f52_5 f52_6 f52_7:=rfl
def f52_4:AC:=.block 0 f52_5
theorem f52_4e:BL f52_4 f52_5 0:=rfl
def f52_16h:List GI:=[vv 15 0,
    vn 16 15,
    vd 17 16 3,
    vl 18 17,
    vv 19 0,
    vn 20 19,
    vd 21 20 0,
    vd 22 21 0,
    vl 23 22,
    ⟨none,.lookup (some 24) (.int .u64) (.agg [(.lit (.int .i64 0)),(.lit (.int .u64 0)),(.lit (.int .u64 0))]) false (.r 18) (.r 23)⟩,
    ⟨none,.field (some 25) (.r 24) 0 none⟩,
    vv 26 0,
    vn 27 26,
    vd 28 27 0,
    vd 29 28 0,
    vl 30 29,
    vv 2 25]
def f52_16l:List GI:=[vo 3 30,
    ⟨none,.mv (some 4) (.c (.lit (.int .i64 0)))⟩]
def f52_16:AC:=.draw [2,3,4] [] [] f52_16h f52_16l
theorem f52_16e:aC P id m f52_16 sf st Q = aY P id sf.locs st f52_16h (cv P id m [] [2,3,4] [] f52_16l Q st) [] ⟨sf.regs,bk [] sf.locs⟩:=rfl
def f52_15:AC:=.seq f52_16 .ret
theorem f52_15e:SQ f52_15 f52_16 .ret:=rfl
def f52_3:AC:=.seq f52_4 f52_15
theorem f52_3e:SQ f52_3 f52_4 f52_15:=rfl
def f52_1:AC:=.seq f52_2 f52_3
theorem f52_1e:SQ f52_1 f52_2 f52_3:=rfl
def c_f52:AFun:=⟨31,[.tmp 2,.tmp 3,.tmp 4],f52_1⟩
theorem k_f52:bK Go.Proofs.Try.prog x_f52 52 = some c_f52:=by kernel_rfl
theorem e_f52:aS Go.Proofs.Try.prog 52 = true:=by kernel_rfl

def n_f54:Nat:=54
def x_f54:Cx:=⟨some,id,20,fun s=>([0,1,4,5,6,7,8,10,11,13,16,17,19]:List Nat).contains s,fun s=>([]:List Nat).contains s,msOf [(2,[0,1],[]),(12,[0,1,5],[]),(26,[0,1,5],[]),(208,[0,1,5,9],[]),(419,[],[]),(840,[0,1,5,18],[]),(3364,[4],[]),(211,[0,1,5],[]),(14,[4],[])]⟩
def f54_2l:List GI:=[⟨none,.mv (some 4) (.c (.lit (.int .i64 0)))⟩]
def f54_2:AC:=.ops [0,1] [] f54_2l
theorem f54_2e:OP f54_2 f54_2l [0,1] []:=rfl
def f54_5l:List GI:=[⟨none,.mv (some 5) (.c (.lit (.int .i64 0)))⟩]
def f54_5:AC:=.ops [0,1,5] [] f54_5l
theorem f54_5e:OP f54_5 f54_5l [0,1,5] []:=rfl
def f54_10l:List GI:=[vv 6 5,
    vv 7 0,
    ⟨none,.len (some 8) .sl (.r 7)⟩,
    ⟨none,.bin (some 9) .num .lss (.r 6) (.r 8)⟩]
def f54_10:AC:=.ops [0,1,5,9] [] f54_10l
theorem f54_10e:OP f54_10 f54_10l [0,1,5,9] []:=rfl
def f54_11:AC:=.cond (.r 9) .skip (.exit [] [] 0)
theorem f54_11e:CN f54_11 9 .skip (.exit [] [] 0):=rfl
def f54_9:AC:=.seq f54_10 f54_11
theorem f54_9e:SQ f54_9 f54_10 f54_11:=rfl
def f54_15l:List GI:=[vv 12 0,
    vv 13 5,
    ⟨none,.ixS (some 14) (.r 12) (.r 13) 2⟩,
    vd 15 14 0,
    vl 16 15,
    vv 17 1,
    ⟨none,.bin (some 18) .num .eql (.r 16) (.r 17)⟩]
def f54_15:AC:=.ops [0,1,5,18] [] f54_15l
theorem f54_15e:OP f54_15 f54_15l [0,1,5,18] []:=rfl
def f54_18l:List GI:=[vv 19 5,
    vo 4 19]
def f54_18:AC:=.ops [4] [] f54_18l
theorem f54_18e:OP f54_18 f54_18l [4] []:=rfl
def f54_17:AC:=.seq f54_18 .ret
theorem f54_17e:SQ f54_17 f54_18 .ret:=rfl
def f54_16:AC:=.cond (.r 18) f54_17 .skip
theorem f54_16e:CN f54_16 18 f54_17 .skip:=rfl
def f54_14:AC:=.seq f54_15 f54_16
theorem f54_14e:SQ f54_14 f54_15 f54_16:=rfl
def f54_13:AC:=.block 1 f54_14
theorem f54_13e:BL f54_13 f54_14 1:=rfl
def f54_19l:List GI:=[vv 10 5,
    vb 11 .add 10 1,
    vo 5 11]
def f54_19:AC:=.ops [0,1,5] [] f54_19l
theorem f54_19e:OP f54_19 f54_19l [0,1,5] []:=rfl
def f54_12:AC:=.seq f54_13 f54_19
theorem f54_12e:SQ f54_12 f54_13 f54_19:=rfl
def f54_8:AC:=.seq f54_9 f54_12
theorem f54_8e:SQ f54_8 f54_9 f54_12:=rfl
def f54_7:AC:=.loop [0,1,5] [] f54_8
theorem f54_7w:aC P id m f54_7 sf st Q = cF (aC P id m f54_8) [0,1,5] [] sf st Q:=rfl
def f54_6:AC:=.block 0 f54_7
theorem f54_6e:BL f54_6 f54_7 0:=rfl
def f54_4:AC:=.seq f54_5 f54_6
theorem f54_4e:SQ f54_4 f54_5 f54_6:=rfl
def f54_21l:List GI:=[⟨none,.mv (some 4) (.c (.lit (.int .i64 (-1))))⟩]
def f54_21:AC:=.ops [4] [] f54_21l
theorem f54_21e:OP f54_21 f54_21l [4] []:=rfl
def f54_20:AC:=.seq f54_21 .ret
theorem f54_20e:SQ f54_20 f54_21 .ret:=rfl
def f54_3:AC:=.seq f54_4 f54_20
theorem f54_3e:SQ f54_3 f54_4 f54_20:=rfl
def f54_1:AC:=.seq f54_2 f54_3
theorem f54_1e:SQ f54_1 f54_2 f54_3:=rfl
def c_f54:AFun:=⟨20,[.tmp 4],f54_1⟩
theorem k_f54:bK Go.Proofs.Try.prog x_f54 54 = some c_f54:=by kernel_rfl
theorem e_f54:aS Go.Proofs.Try.prog 54 = true:=by kernel_rfl

def tab (q:Nat):Option AFun :=
  if q = 7 then some c_f7 else
  if q = 9 then some c_f9 else
  if q = 10 then some c_f10 else
  if q = 11 then some c_f11 else
  if q = 12 then some c_f12 else
  if q = 13 then some c_f13 else
  if q = 14 then some c_f14 else
  if q = 15 then some c_f15 else
  if q = 16 then some c_f16 else
  if q = 17 then some c_f17 else
  if q = 18 then some c_f18 else
  if q = 19 then some c_f19 else
  if q = 20 then some c_f20 else
  if q = 21 then some c_f21 else
  if q = 22 then some c_f22 else
  if q = 23 then some c_f23 else
  if q = 24 then some c_f24 else
  if q = 25 then some c_f25 else
  if q = 26 then some c_f26 else
  if q = 27 then some c_f27 else
  if q = 28 then some c_f28 else
  if q = 29 then some c_f29 else
  if q = 30 then some c_f30 else
  if q = 31 then some c_f31 else
  if q = 32 then some c_f32 else
  if q = 33 then some c_f33 else
  if q = 34 then some c_f34 else
  if q = 35 then some c_f35 else
  if q = 36 then some c_f36 else
  if q = 37 then some c_f37 else
  if q = 38 then some c_f38 else
  if q = 39 then some c_f39 else
  if q = 40 then some c_f40 else
  if q = 41 then some c_f41 else
  if q = 42 then some c_f42 else
  if q = 43 then some c_f43 else
  if q = 44 then some c_f44 else
  if q = 45 then some c_f45 else
  if q = 46 then some c_f46 else
  if q = 47 then some c_f47 else
  if q = 48 then some c_f48 else
  if q = 49 then some c_f49 else
  if q = 50 then some c_f50 else
  if q = 51 then some c_f51 else
  if q = 52 then some c_f52 else
  if q = 54 then some c_f54 else
  none
theorem tabOk:TabOk Go.Proofs.Try.prog id tab :=
  aH e_f7 k_f7 rfl (
  aH e_f9 k_f9 rfl (
  aH e_f10 k_f10 rfl (
  aH e_f11 k_f11 rfl (
  aH e_f12 k_f12 rfl (
  aH e_f13 k_f13 rfl (
  aH e_f14 k_f14 rfl (
  aH e_f15 k_f15 rfl (
  aH e_f16 k_f16 rfl (
  aH e_f17 k_f17 rfl (
  aH e_f18 k_f18 rfl (
  aH e_f19 k_f19 rfl (
  aH e_f20 k_f20 rfl (
  aH e_f21 k_f21 rfl (
  aH e_f22 k_f22 rfl (
  aH e_f23 k_f23 rfl (
  aH e_f24 k_f24 rfl (
  aH e_f25 k_f25 rfl (
  aH e_f26 k_f26 rfl (
  aH e_f27 k_f27 rfl (
  aH e_f28 k_f28 rfl (
  aH e_f29 k_f29 rfl (
  aH e_f30 k_f30 rfl (
  aH e_f31 k_f31 rfl (
  aH e_f32 k_f32 rfl (
  aH e_f33 k_f33 rfl (
  aH e_f34 k_f34 rfl (
  aH e_f35 k_f35 rfl (
  aH e_f36 k_f36 rfl (
  aH e_f37 k_f37 rfl (
  aH e_f38 k_f38 rfl (
  aH e_f39 k_f39 rfl (
  aH e_f40 k_f40 rfl (
  aH e_f41 k_f41 rfl (
  aH e_f42 k_f42 rfl (
  aH e_f43 k_f43 rfl (
  aH e_f44 k_f44 rfl (
  aH e_f45 k_f45 rfl (
  aH e_f46 k_f46 rfl (
  aH e_f47 k_f47 rfl (
  aH e_f48 k_f48 rfl (
  aH e_f49 k_f49 rfl (
  aH e_f50 k_f50 rfl (
  aH e_f51 k_f51 rfl (
  aH e_f52 k_f52 rfl (
  aH e_f54 k_f54 rfl (
  tabOk_nil))))))))))))))))))))))))))))))))))))))))))))))
theorem hmix:Go.Proofs.Try.prog.follows .mixedOrders = true:=by kernel_rfl
end
end Go.Fx.YtohlpjfhkejjgaaFx

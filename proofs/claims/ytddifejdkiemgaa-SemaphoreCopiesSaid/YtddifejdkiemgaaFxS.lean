/- The functions that the statement reaches, resolved: printed by a program of ours from the translated code; each is checked here. -/
import Derived.Test.YtddifejdkiemgaaProg
import Derived.Test.YtddifejdkiemgaaFxE
set_option maxRecDepth 100000
set_option maxHeartbeats 0
namespace Go.Fx.YtddifejdkiemgaaFx
open Go Go.Fx
abbrev SQ (a b c:AC):Prop:=∀ {P:Program} {m:Bool} {sf:Sf} {st:St} {Q:Exit→Sf→St→Prop},aC P id m a sf st Q = aC P id m b sf st (seqQ (aC P id m c) Q)
abbrev CN (a:AC) (r:Nat) (b c:AC):Prop:=∀ {P:Program} {m:Bool} {sf:Sf} {st:St} {Q:Exit→Sf→St→Prop},aC P id m a sf st Q = j1 (.r r) (sf.ev id (.r r)) (aC P id m b) (aC P id m c) sf st Q
abbrev OP (a:AC) (l:List GI) (x y:List Nat):Prop:=∀ {P:Program} {m:Bool} {sf:Sf} {st:St} {Q:Exit→Sf→St→Prop},aC P id m a sf st Q = runI P id m l (opsK x y Q) sf st
abbrev BL (a b:AC) (k:Nat):Prop:=∀ {P:Program} {m:Bool} {sf:Sf} {st:St} {Q:Exit→Sf→St→Prop},aC P id m a sf st Q = aC P id m b sf st (fF k Q)
abbrev KF:Lean.Meta.Simp.Config:={ implicitDefEqProofs:=false,maxSteps:=10000000 }
theorem bZ:type_of% (And.intro @lk (And.intro @seqQ_ret (And.intro @opsK_eq (And.intro @runI_nil (And.intro @n7 (And.intro @putP_eq (And.intro @mask_eq (And.intro @oc (And.intro @mG (And.intro @wp_ok (And.intro @bind_ok (And.intro @mD (And.intro @ev_r (And.intro @ev_c (And.intro @o_mv (And.intro @o_bin (And.intro @bH (And.intro @eP (And.intro @setB_r (And.intro @mH (And.intro @aC_ret (And.intro @aC_skip (And.intro @retQ_ret (And.intro @noL_lit (And.intro @oV (And.intro @oW (And.intro @List.map_cons.{0,0} (@List.map_nil.{0,0})))))))))))))))))))))))))))):=And.intro @lk (And.intro @seqQ_ret (And.intro @opsK_eq (And.intro @runI_nil (And.intro @n7 (And.intro @putP_eq (And.intro @mask_eq (And.intro @oc (And.intro @mG (And.intro @wp_ok (And.intro @bind_ok (And.intro @mD (And.intro @ev_r (And.intro @ev_c (And.intro @o_mv (And.intro @o_bin (And.intro @bH (And.intro @eP (And.intro @setB_r (And.intro @mH (And.intro @aC_ret (And.intro @aC_skip (And.intro @retQ_ret (And.intro @noL_lit (And.intro @oV (And.intro @oW (And.intro @List.map_cons.{0,0} (@List.map_nil.{0,0})))))))))))))))))))))))))))
abbrev vv (d x:Nat):GI:=⟨none,.mv (some d) (.r x)⟩
abbrev vo (d x:Nat):GI:=⟨none,.own d x⟩
abbrev ve (d x k:Nat):GI:=⟨none,.ext (some d) (.r x) k⟩
abbrev vn (d x:Nat):GI:=⟨none,.nilck (some d) (.r x)⟩
abbrev vd (d x k:Nat):GI:=⟨none,.addr (some d) (.r x) k⟩
abbrev vl (d x:Nat):GI:=⟨none,.load (some d) (.r x) none⟩
abbrev vb (d:Nat) (o:BinOp) (x:Nat) (n:Int):GI:=⟨none,.bin (some d) .num o (.r x) (.c (.lit (.int .i64 n)))⟩
section
variable (P:Program) (m:Bool) (sf:Sf) (st:St) (Q:Exit→Sf→St→Prop)
def n_f11:Nat:=11
def x_f11:Cx:=⟨some,id,109,fun s=>([0,1,2,3,8,9,10,12,13,14,17,18,19,20,21,22,23,24,25,26,27,28,29,30,31,32,33,34,35,36,37,38,39,40,41,42,43,45,46,47,48,49,50,51,52,53,54,55,57,58,59,60,61,62,63,64,65,66,67,68,69,70,71,72,73,74,75,76,78,79,80,81,82,83,84,85,86,87,88,89,90,91,92,93,94,95,96,97,98,99,100,101,102,103,104,105,106,107,108]:List Nat).contains s,fun s=>([]:List Nat).contains s,msOf [(2,[0,1,2,3],[]),(6,[0,1,2,3,9,10],[]),(14,[1,2,3,9,10,11,12],[11]),(60,[1,2,3,9,10,11,12,44],[11]),(244,[8],[]),(124,[1,2,3,9,11,56],[11]),(500,[8],[]),(126,[2,3,9,11,13],[11]),(254,[2,3,9,11,13,14],[11]),(1020,[2,3,9,11,14,77],[11]),(4084,[8],[]),(1022,[3,9,11,13,14,15],[11,15]),(2046,[9,13,14,15,16,17],[15,16]),(4094,[8],[])]⟩
def f11_2l:List GI:=[⟨none,.mv (some 8) (.c (.lit (.bool false)))⟩]
def f11_2:AC:=.ops [0,1,2,3] [] f11_2l
theorem f11_2e:OP f11_2 f11_2l [0,1,2,3] []:=rfl
def f11_4l:List GI:=[vv 19 0,
    ⟨none,.call (some 20) false (.f 29) [(.r 19),(.c (.lit (.int .u64 5)))]⟩,
    vv 18 20,
    ve 21 18 0,
    ve 22 18 1,
    vo 9 21,
    vo 10 22]
def f11_4:AC:=.ops [0,1,2,3,9,10] [] f11_4l
theorem f11_4e:OP f11_4 f11_4l [0,1,2,3,9,10] []:=rfl
def f11_6l:List GI:=[vv 24 0,
    ⟨none,.call (some 25) false (.f 30) [(.r 24),(.c (.lit (.int .u64 5)))]⟩,
    vv 23 25,
    ve 26 23 0,
    ve 27 23 1,
    ⟨none,.newL 11 [(.lit (.int .i64 0)),(.lit (.int .u64 0)),(.lit (.int .i64 0)),(.lit (.int .i64 0)),(.lit (.int .i64 0)),(.lit (.int .i64 0)),(.lit (.int .i64 0)),(.lit (.int .i64 0)),(.lit (.int .i64 0)),(.lit (.int .i64 0)),(.lit (.int .i64 0)),(.lit (.int .i64 0)),(.lit (.int .i64 0)),(.lit (.int .i64 0)),(.lit (.int .i64 0)),(.lit (.int .i64 0)),(.lit (.int .i64 0)),(.lit (.int .i64 0)),(.lit (.int .i64 0)),(.lit (.int .i64 0)),(.lit (.int .i64 0)),(.lit (.int .i64 0)),(.lit (.int .i64 0)),(.lit (.int .i64 0)),(.lit (.int .i64 0)),(.lit (.int .i64 0)),(.lit (.int .i64 0)),(.lit (.int .i64 0)),(.lit (.int .i64 0)),(.lit (.int .i64 0)),(.lit (.int .i64 0)),(.lit (.int .i64 0)),(.lit (.int .i64 0)),(.lit (.int .i64 0)),(.lit (.int .i64 0)),(.lit (.int .i64 0)),(.lit (.int .i64 0)),(.lit (.int .i64 0)),(.lit (.int .i64 0)),(.lit (.int .i64 0)),(.lit (.int .i64 0)),(.lit (.int .i64 0)),(.lit (.int .i64 0)),(.lit (.int .i64 0)),(.lit (.int .i64 0)),(.lit (.int .i64 0)),(.lit (.int .i64 0)),(.lit (.int .i64 0)),(.lit (.int .i64 0)),(.lit (.int .i64 0)),(.lit (.int .i64 0)),(.lit (.int .i64 0)),(.lit (.int .i64 0)),(.lit (.int .i64 0)),(.lit (.int .i64 0)),(.lit (.int .i64 0)),(.lit (.int .i64 0)),(.lit (.int .i64 0)),(.lit (.int .i64 0)),(.lit (.int .i64 0)),(.lit (.int .i64 0)),(.lit (.int .i64 0)),(.lit (.int .i64 0)),(.lit (.int .i64 0)),(.lit (.int .i64 0)),(.lit (.int .i64 0)),(.lit (.slice none 0 0))]⟩,
    ⟨none,.store 67 (.r 11) (.r 26)⟩,
    vo 12 27]
def f11_6:AC:=.ops [1,2,3,9,10,11,12] [11] f11_6l
theorem f11_6e:OP f11_6 f11_6l [1,2,3,9,10,11,12] [11]:=rfl
def f11_9l:List GI:=[vv 28 1,
    ⟨none,.len (some 29) .sl (.r 28)⟩,
    vb 30 .gtr 29 20,
    vv 31 30,
    ⟨some (31,false),.mv (some 32) (.r 2)⟩,
    ⟨some (31,false),.len (some 33) .sl (.r 32)⟩,
    ⟨some (31,false),.bin (some 34) .num .gtr (.r 33) (.c (.lit (.int .i64 20)))⟩,
    ⟨none,.pick (some 35) (.r 31) (.c (.lit (.bool true))) (.r 34)⟩,
    vv 36 35,
    ⟨some (36,false),.mv (some 37) (.r 3)⟩,
    ⟨some (36,false),.len (some 38) .sl (.r 37)⟩,
    ⟨some (36,false),.bin (some 39) .num .gtr (.r 38) (.c (.lit (.int .i64 20)))⟩,
    ⟨none,.pick (some 40) (.r 36) (.c (.lit (.bool true))) (.r 39)⟩,
    vv 41 40,
    ⟨some (41,false),.mv (some 42) (.r 12)⟩,
    ⟨some (41,false),.bin (some 43) .num .neq (.r 42) (.c (.lit (.int .i64 0)))⟩,
    ⟨none,.pick (some 44) (.r 41) (.c (.lit (.bool true))) (.r 43)⟩]
def f11_9:AC:=.ops [1,2,3,9,10,11,12,44] [11] f11_9l
theorem f11_9e:OP f11_9 f11_9l [1,2,3,9,10,11,12,44] [11]:=rfl
def f11_12l:List GI:=[vv 45 10,
    vv 46 12,
    ⟨none,.bin (some 47) .num .eql (.r 45) (.r 46)⟩,
    vv 48 47,
    ⟨some (48,true),.call (some 49) false (.f 31) []⟩,
    ⟨none,.pick (some 50) (.r 48) (.r 49) (.c (.lit (.bool false)))⟩,
    vo 8 50]
def f11_12:AC:=.ops [8] [] f11_12l
theorem f11_12e:OP f11_12 f11_12l [8] []:=rfl
def f11_11:AC:=.seq f11_12 .ret
theorem f11_11e:SQ f11_11 f11_12 .ret:=rfl
def f11_10:AC:=.cond (.r 44) f11_11 .skip
theorem f11_10e:CN f11_10 44 f11_11 .skip:=rfl
def f11_8:AC:=.seq f11_9 f11_10
theorem f11_8e:SQ f11_8 f11_9 f11_10:=rfl
def f11_15l:List GI:=[vv 51 10,
    vb 52 .neq 51 0,
    vv 53 52,
    ⟨some (53,false),.mv (some 54) (.r 9)⟩,
    ⟨some (53,false),.bin (some 55) (.nil .ptr) .eql (.r 54) (.c (.lit (.pointer none)))⟩,
    ⟨none,.pick (some 56) (.r 53) (.c (.lit (.bool true))) (.r 55)⟩]
def f11_15:AC:=.ops [1,2,3,9,11,56] [11] f11_15l
theorem f11_15e:OP f11_15 f11_15l [1,2,3,9,11,56] [11]:=rfl
def f11_18l:List GI:=[⟨none,.mv (some 8) (.c (.lit (.bool false)))⟩]
def f11_18:AC:=.ops [8] [] f11_18l
theorem f11_18e:OP f11_18 f11_18l [8] []:=rfl
def f11_17:AC:=.seq f11_18 .ret
theorem f11_17e:SQ f11_17 f11_18 .ret:=rfl
def f11_16:AC:=.cond (.r 56) f11_17 .skip
theorem f11_16e:CN f11_16 56 f11_17 .skip:=rfl
def f11_14:AC:=.seq f11_15 f11_16
theorem f11_14e:SQ f11_14 f11_15 f11_16:=rfl
def f11_20l:List GI:=[vv 58 9,
    ⟨none,.load (some 59) (.r 11) (some 67)⟩,
    vv 60 1,
    ⟨none,.call (some 61) false (.f 33) [(.r 58),(.r 59),(.r 60)]⟩,
    vv 57 61,
    ve 62 57 0,
    ve 63 57 1,
    ⟨none,.store 67 (.r 11) (.r 62)⟩,
    vo 13 63]
def f11_20:AC:=.ops [2,3,9,11,13] [11] f11_20l
theorem f11_20e:OP f11_20 f11_20l [2,3,9,11,13] [11]:=rfl
def f11_22l:List GI:=[vv 64 9,
    ⟨none,.call (some 65) false (.f 44) [(.r 64)]⟩,
    vo 14 65]
def f11_22:AC:=.ops [2,3,9,11,13,14] [11] f11_22l
theorem f11_22e:OP f11_22 f11_22l [2,3,9,11,13,14] [11]:=rfl
def f11_25l:List GI:=[vv 66 13,
    ⟨none,.un (some 67) .not (.r 66)⟩,
    vv 68 67,
    ⟨some (68,false),.mv (some 69) (.r 14)⟩,
    ⟨some (68,false),.bin (some 70) (.nil .ptr) .eql (.r 69) (.c (.lit (.pointer none)))⟩,
    ⟨none,.pick (some 71) (.r 68) (.c (.lit (.bool true))) (.r 70)⟩,
    vv 72 71,
    ⟨some (72,false),.mv (some 73) (.r 14)⟩,
    ⟨some (72,false),.load (some 74) (.r 11) (some 67)⟩,
    ⟨some (72,false),.call (some 75) false (.f 32) [(.r 73),(.r 74)]⟩,
    ⟨some (72,false),.un (some 76) .not (.r 75)⟩,
    ⟨none,.pick (some 77) (.r 72) (.c (.lit (.bool true))) (.r 76)⟩]
def f11_25:AC:=.ops [2,3,9,11,14,77] [11] f11_25l
theorem f11_25e:OP f11_25 f11_25l [2,3,9,11,14,77] [11]:=rfl
def f11_28l:List GI:=[⟨none,.mv (some 8) (.c (.lit (.bool false)))⟩]
def f11_28:AC:=.ops [8] [] f11_28l
theorem f11_28e:OP f11_28 f11_28l [8] []:=rfl
def f11_27:AC:=.seq f11_28 .ret
theorem f11_27e:SQ f11_27 f11_28 .ret:=rfl
def f11_26:AC:=.cond (.r 77) f11_27 .skip
theorem f11_26e:CN f11_26 77 f11_27 .skip:=rfl
def f11_24:AC:=.seq f11_25 f11_26
theorem f11_24e:SQ f11_24 f11_25 f11_26:=rfl
def f11_30l:List GI:=[vv 79 9,
    ⟨none,.load (some 80) (.r 11) (some 67)⟩,
    vv 81 2,
    ⟨none,.call (some 82) false (.f 33) [(.r 79),(.r 80),(.r 81)]⟩,
    vv 78 82,
    ve 83 78 0,
    ve 84 78 1,
    ⟨none,.newL 15 [(.lit (.int .i64 0)),(.lit (.int .u64 0)),(.lit (.int .i64 0)),(.lit (.int .i64 0)),(.lit (.int .i64 0)),(.lit (.int .i64 0)),(.lit (.int .i64 0)),(.lit (.int .i64 0)),(.lit (.int .i64 0)),(.lit (.int .i64 0)),(.lit (.int .i64 0)),(.lit (.int .i64 0)),(.lit (.int .i64 0)),(.lit (.int .i64 0)),(.lit (.int .i64 0)),(.lit (.int .i64 0)),(.lit (.int .i64 0)),(.lit (.int .i64 0)),(.lit (.int .i64 0)),(.lit (.int .i64 0)),(.lit (.int .i64 0)),(.lit (.int .i64 0)),(.lit (.int .i64 0)),(.lit (.int .i64 0)),(.lit (.int .i64 0)),(.lit (.int .i64 0)),(.lit (.int .i64 0)),(.lit (.int .i64 0)),(.lit (.int .i64 0)),(.lit (.int .i64 0)),(.lit (.int .i64 0)),(.lit (.int .i64 0)),(.lit (.int .i64 0)),(.lit (.int .i64 0)),(.lit (.int .i64 0)),(.lit (.int .i64 0)),(.lit (.int .i64 0)),(.lit (.int .i64 0)),(.lit (.int .i64 0)),(.lit (.int .i64 0)),(.lit (.int .i64 0)),(.lit (.int .i64 0)),(.lit (.int .i64 0)),(.lit (.int .i64 0)),(.lit (.int .i64 0)),(.lit (.int .i64 0)),(.lit (.int .i64 0)),(.lit (.int .i64 0)),(.lit (.int .i64 0)),(.lit (.int .i64 0)),(.lit (.int .i64 0)),(.lit (.int .i64 0)),(.lit (.int .i64 0)),(.lit (.int .i64 0)),(.lit (.int .i64 0)),(.lit (.int .i64 0)),(.lit (.int .i64 0)),(.lit (.int .i64 0)),(.lit (.int .i64 0)),(.lit (.int .i64 0)),(.lit (.int .i64 0)),(.lit (.int .i64 0)),(.lit (.int .i64 0)),(.lit (.int .i64 0)),(.lit (.int .i64 0)),(.lit (.int .i64 0)),(.lit (.slice none 0 0))]⟩,
    ⟨none,.store 67 (.r 15) (.r 83)⟩,
    vo 13 84]
def f11_30:AC:=.ops [3,9,11,13,14,15] [11,15] f11_30l
theorem f11_30e:OP f11_30 f11_30l [3,9,11,13,14,15] [11,15]:=rfl
def f11_32l:List GI:=[vv 86 14,
    ⟨none,.load (some 87) (.r 11) (some 67)⟩,
    vv 88 3,
    ⟨none,.call (some 89) false (.f 33) [(.r 86),(.r 87),(.r 88)]⟩,
    vv 85 89,
    ve 90 85 0,
    ve 91 85 1,
    ⟨none,.newL 16 [(.lit (.int .i64 0)),(.lit (.int .u64 0)),(.lit (.int .i64 0)),(.lit (.int .i64 0)),(.lit (.int .i64 0)),(.lit (.int .i64 0)),(.lit (.int .i64 0)),(.lit (.int .i64 0)),(.lit (.int .i64 0)),(.lit (.int .i64 0)),(.lit (.int .i64 0)),(.lit (.int .i64 0)),(.lit (.int .i64 0)),(.lit (.int .i64 0)),(.lit (.int .i64 0)),(.lit (.int .i64 0)),(.lit (.int .i64 0)),(.lit (.int .i64 0)),(.lit (.int .i64 0)),(.lit (.int .i64 0)),(.lit (.int .i64 0)),(.lit (.int .i64 0)),(.lit (.int .i64 0)),(.lit (.int .i64 0)),(.lit (.int .i64 0)),(.lit (.int .i64 0)),(.lit (.int .i64 0)),(.lit (.int .i64 0)),(.lit (.int .i64 0)),(.lit (.int .i64 0)),(.lit (.int .i64 0)),(.lit (.int .i64 0)),(.lit (.int .i64 0)),(.lit (.int .i64 0)),(.lit (.int .i64 0)),(.lit (.int .i64 0)),(.lit (.int .i64 0)),(.lit (.int .i64 0)),(.lit (.int .i64 0)),(.lit (.int .i64 0)),(.lit (.int .i64 0)),(.lit (.int .i64 0)),(.lit (.int .i64 0)),(.lit (.int .i64 0)),(.lit (.int .i64 0)),(.lit (.int .i64 0)),(.lit (.int .i64 0)),(.lit (.int .i64 0)),(.lit (.int .i64 0)),(.lit (.int .i64 0)),(.lit (.int .i64 0)),(.lit (.int .i64 0)),(.lit (.int .i64 0)),(.lit (.int .i64 0)),(.lit (.int .i64 0)),(.lit (.int .i64 0)),(.lit (.int .i64 0)),(.lit (.int .i64 0)),(.lit (.int .i64 0)),(.lit (.int .i64 0)),(.lit (.int .i64 0)),(.lit (.int .i64 0)),(.lit (.int .i64 0)),(.lit (.int .i64 0)),(.lit (.int .i64 0)),(.lit (.int .i64 0)),(.lit (.slice none 0 0))]⟩,
    ⟨none,.store 67 (.r 16) (.r 90)⟩,
    vo 17 91]
def f11_32:AC:=.ops [9,13,14,15,16,17] [15,16] f11_32l
theorem f11_32e:OP f11_32 f11_32l [9,13,14,15,16,17] [15,16]:=rfl
def f11_34l:List GI:=[vv 92 13,
    vv 93 92,
    ⟨some (93,true),.mv (some 94) (.r 17)⟩,
    ⟨none,.pick (some 95) (.r 93) (.r 94) (.c (.lit (.bool false)))⟩,
    vv 96 95,
    ⟨some (96,true),.mv (some 97) (.r 9)⟩,
    ⟨some (96,true),.load (some 98) (.r 15) (some 67)⟩,
    ⟨some (96,true),.call (some 99) false (.f 32) [(.r 97),(.r 98)]⟩,
    ⟨none,.pick (some 100) (.r 96) (.r 99) (.c (.lit (.bool false)))⟩,
    vv 101 100,
    ⟨some (101,true),.mv (some 102) (.r 14)⟩,
    ⟨some (101,true),.load (some 103) (.r 16) (some 67)⟩,
    ⟨some (101,true),.call (some 104) false (.f 32) [(.r 102),(.r 103)]⟩,
    ⟨none,.pick (some 105) (.r 101) (.r 104) (.c (.lit (.bool false)))⟩,
    vv 106 105,
    ⟨some (106,true),.call (some 107) false (.f 31) []⟩,
    ⟨none,.pick (some 108) (.r 106) (.r 107) (.c (.lit (.bool false)))⟩,
    vo 8 108]
def f11_34:AC:=.ops [8] [] f11_34l
theorem f11_34e:OP f11_34 f11_34l [8] []:=rfl
def f11_33:AC:=.seq f11_34 .ret
theorem f11_33e:SQ f11_33 f11_34 .ret:=rfl
def f11_31:AC:=.seq f11_32 f11_33
theorem f11_31e:SQ f11_31 f11_32 f11_33:=rfl
def f11_29:AC:=.seq f11_30 f11_31
theorem f11_29e:SQ f11_29 f11_30 f11_31:=rfl
def f11_23:AC:=.seq f11_24 f11_29
theorem f11_23e:SQ f11_23 f11_24 f11_29:=rfl
def f11_21:AC:=.seq f11_22 f11_23
theorem f11_21e:SQ f11_21 f11_22 f11_23:=rfl
def f11_19:AC:=.seq f11_20 f11_21
theorem f11_19e:SQ f11_19 f11_20 f11_21:=rfl
def f11_13:AC:=.seq f11_14 f11_19
theorem f11_13e:SQ f11_13 f11_14 f11_19:=rfl
def f11_7:AC:=.seq f11_8 f11_13
theorem f11_7e:SQ f11_7 f11_8 f11_13:=rfl
def f11_5:AC:=.seq f11_6 f11_7
theorem f11_5e:SQ f11_5 f11_6 f11_7:=rfl
def f11_3:AC:=.seq f11_4 f11_5
theorem f11_3e:SQ f11_3 f11_4 f11_5:=rfl
def f11_1:AC:=.seq f11_2 f11_3
theorem f11_1e:SQ f11_1 f11_2 f11_3:=rfl
def c_f11:AFun:=⟨109,[.tmp 8],f11_1⟩
theorem k_f11:bT Go.Proofs.Try.prog x_f11 11 = some c_f11:=by kernel_rfl
theorem e_f11:aX Go.Proofs.Try.prog 11 = true:=by kernel_rfl

def n_f29:Nat:=29
def x_f29:Cx:=⟨some,id,23,fun s=>([0,1,4,5,6,7,8,9,10,11,12,13,14,16,17,18,19,20,21,22]:List Nat).contains s,fun s=>([]:List Nat).contains s,msOf [(2,[0,1],[]),(12,[0,1,15],[]),(52,[4,5],[]),(14,[4,5],[])]⟩
def f29_2l:List GI:=[⟨none,.mv (some 4) (.c (.lit (.pointer none)))⟩,
    ⟨none,.mv (some 5) (.c (.lit (.int .i64 0)))⟩]
def f29_2:AC:=.ops [0,1] [] f29_2l
theorem f29_2e:OP f29_2 f29_2l [0,1] []:=rfl
def f29_5l:List GI:=[vv 6 0,
    vb 7 .lss 6 1,
    vv 8 7,
    ⟨some (8,false),.mv (some 9) (.r 0)⟩,
    ⟨some (8,false),.bin (some 10) .num .gtr (.r 9) (.c (.lit (.int .i64 1048576)))⟩,
    ⟨none,.pick (some 11) (.r 8) (.c (.lit (.bool true))) (.r 10)⟩,
    vv 12 11,
    ⟨some (12,false),.mv (some 13) (.r 1)⟩,
    ⟨some (12,false),.bin (some 14) .num .eql (.r 13) (.c (.lit (.int .u64 18446744073709551615)))⟩,
    ⟨none,.pick (some 15) (.r 12) (.c (.lit (.bool true))) (.r 14)⟩]
def f29_5:AC:=.ops [0,1,15] [] f29_5l
theorem f29_5e:OP f29_5 f29_5l [0,1,15] []:=rfl
def f29_8l:List GI:=[⟨none,.mv (some 4) (.c (.lit (.pointer none)))⟩,
    ⟨none,.mv (some 5) (.c (.lit (.int .i64 2)))⟩]
def f29_8:AC:=.ops [4,5] [] f29_8l
theorem f29_8e:OP f29_8 f29_8l [4,5] []:=rfl
def f29_7:AC:=.seq f29_8 .ret
theorem f29_7e:SQ f29_7 f29_8 .ret:=rfl
def f29_6:AC:=.cond (.r 15) f29_7 .skip
theorem f29_6e:CN f29_6 15 f29_7 .skip:=rfl
def f29_4:AC:=.seq f29_5 f29_6
theorem f29_4e:SQ f29_4 f29_5 f29_6:=rfl
def f29_10l:List GI:=[vv 16 0,
    vv 17 0,
    vv 18 1,
    ⟨none,.call (some 19) false (.f 45) []⟩,
    ⟨none,.mkmap 20⟩,
    ⟨none,.bst (some 21) [(0,1),(1,1),(2,1),(3,64),(67,1),(68,1)] (.agg [(.lit (.int .i64 0)),(.lit (.int .i64 0)),(.lit (.int .u64 0)),(.lit (.int .i64 0)),(.lit (.int .i64 0)),(.lit (.int .i64 0)),(.lit (.int .i64 0)),(.lit (.int .i64 0)),(.lit (.int .i64 0)),(.lit (.int .i64 0)),(.lit (.int .i64 0)),(.lit (.int .i64 0)),(.lit (.int .i64 0)),(.lit (.int .i64 0)),(.lit (.int .i64 0)),(.lit (.int .i64 0)),(.lit (.int .i64 0)),(.lit (.int .i64 0)),(.lit (.int .i64 0)),(.lit (.int .i64 0)),(.lit (.int .i64 0)),(.lit (.int .i64 0)),(.lit (.int .i64 0)),(.lit (.int .i64 0)),(.lit (.int .i64 0)),(.lit (.int .i64 0)),(.lit (.int .i64 0)),(.lit (.int .i64 0)),(.lit (.int .i64 0)),(.lit (.int .i64 0)),(.lit (.int .i64 0)),(.lit (.int .i64 0)),(.lit (.int .i64 0)),(.lit (.int .i64 0)),(.lit (.int .i64 0)),(.lit (.int .i64 0)),(.lit (.int .i64 0)),(.lit (.int .i64 0)),(.lit (.int .i64 0)),(.lit (.int .i64 0)),(.lit (.int .i64 0)),(.lit (.int .i64 0)),(.lit (.int .i64 0)),(.lit (.int .i64 0)),(.lit (.int .i64 0)),(.lit (.int .i64 0)),(.lit (.int .i64 0)),(.lit (.int .i64 0)),(.lit (.int .i64 0)),(.lit (.int .i64 0)),(.lit (.int .i64 0)),(.lit (.int .i64 0)),(.lit (.int .i64 0)),(.lit (.int .i64 0)),(.lit (.int .i64 0)),(.lit (.int .i64 0)),(.lit (.int .i64 0)),(.lit (.int .i64 0)),(.lit (.int .i64 0)),(.lit (.int .i64 0)),(.lit (.int .i64 0)),(.lit (.int .i64 0)),(.lit (.int .i64 0)),(.lit (.int .i64 0)),(.lit (.int .i64 0)),(.lit (.int .i64 0)),(.lit (.int .i64 0)),(.lit (.pointer none)),(.lit (.map none))]) [(0,(.r 16)),(1,(.r 17)),(2,(.r 18)),(4,(.r 19)),(5,(.r 20))]⟩,
    ⟨none,.boxB 22 69 (.r 21)⟩,
    vo 4 22,
    ⟨none,.mv (some 5) (.c (.lit (.int .i64 0)))⟩]
def f29_10:AC:=.ops [4,5] [] f29_10l
theorem f29_10e:OP f29_10 f29_10l [4,5] []:=rfl
def f29_9:AC:=.seq f29_10 .ret
theorem f29_9e:SQ f29_9 f29_10 .ret:=rfl
def f29_3:AC:=.seq f29_4 f29_9
theorem f29_3e:SQ f29_3 f29_4 f29_9:=rfl
def f29_1:AC:=.seq f29_2 f29_3
theorem f29_1e:SQ f29_1 f29_2 f29_3:=rfl
def c_f29:AFun:=⟨23,[.tmp 4,.tmp 5],f29_1⟩
theorem k_f29:bT Go.Proofs.Try.prog x_f29 29 = some c_f29:=by kernel_rfl
theorem e_f29:aX Go.Proofs.Try.prog 29 = true:=by kernel_rfl

def n_f30:Nat:=30
def x_f30:Cx:=⟨some,id,20,fun s=>([0,1,5,6,7,8,9,10,11,12,13,14,16,17,18,19]:List Nat).contains s,fun s=>([]:List Nat).contains s,msOf [(2,[0,1,4],[4]),(12,[0,1,4,15],[4]),(52,[4,5],[4]),(14,[4,5],[4])]⟩
def f30_2l:List GI:=[⟨none,.newL 4 [(.lit (.int .i64 0)),(.lit (.int .u64 0)),(.lit (.int .i64 0)),(.lit (.int .i64 0)),(.lit (.int .i64 0)),(.lit (.int .i64 0)),(.lit (.int .i64 0)),(.lit (.int .i64 0)),(.lit (.int .i64 0)),(.lit (.int .i64 0)),(.lit (.int .i64 0)),(.lit (.int .i64 0)),(.lit (.int .i64 0)),(.lit (.int .i64 0)),(.lit (.int .i64 0)),(.lit (.int .i64 0)),(.lit (.int .i64 0)),(.lit (.int .i64 0)),(.lit (.int .i64 0)),(.lit (.int .i64 0)),(.lit (.int .i64 0)),(.lit (.int .i64 0)),(.lit (.int .i64 0)),(.lit (.int .i64 0)),(.lit (.int .i64 0)),(.lit (.int .i64 0)),(.lit (.int .i64 0)),(.lit (.int .i64 0)),(.lit (.int .i64 0)),(.lit (.int .i64 0)),(.lit (.int .i64 0)),(.lit (.int .i64 0)),(.lit (.int .i64 0)),(.lit (.int .i64 0)),(.lit (.int .i64 0)),(.lit (.int .i64 0)),(.lit (.int .i64 0)),(.lit (.int .i64 0)),(.lit (.int .i64 0)),(.lit (.int .i64 0)),(.lit (.int .i64 0)),(.lit (.int .i64 0)),(.lit (.int .i64 0)),(.lit (.int .i64 0)),(.lit (.int .i64 0)),(.lit (.int .i64 0)),(.lit (.int .i64 0)),(.lit (.int .i64 0)),(.lit (.int .i64 0)),(.lit (.int .i64 0)),(.lit (.int .i64 0)),(.lit (.int .i64 0)),(.lit (.int .i64 0)),(.lit (.int .i64 0)),(.lit (.int .i64 0)),(.lit (.int .i64 0)),(.lit (.int .i64 0)),(.lit (.int .i64 0)),(.lit (.int .i64 0)),(.lit (.int .i64 0)),(.lit (.int .i64 0)),(.lit (.int .i64 0)),(.lit (.int .i64 0)),(.lit (.int .i64 0)),(.lit (.int .i64 0)),(.lit (.int .i64 0)),(.lit (.slice none 0 0))]⟩,
    ⟨none,.mv (some 5) (.c (.lit (.int .i64 0)))⟩]
def f30_2:AC:=.ops [0,1,4] [4] f30_2l
theorem f30_2e:OP f30_2 f30_2l [0,1,4] [4]:=rfl
def f30_5l:List GI:=[vv 6 0,
    vb 7 .lss 6 1,
    vv 8 7,
    ⟨some (8,false),.mv (some 9) (.r 0)⟩,
    ⟨some (8,false),.bin (some 10) .num .gtr (.r 9) (.c (.lit (.int .i64 1048576)))⟩,
    ⟨none,.pick (some 11) (.r 8) (.c (.lit (.bool true))) (.r 10)⟩,
    vv 12 11,
    ⟨some (12,false),.mv (some 13) (.r 1)⟩,
    ⟨some (12,false),.bin (some 14) .num .eql (.r 13) (.c (.lit (.int .u64 18446744073709551615)))⟩,
    ⟨none,.pick (some 15) (.r 12) (.c (.lit (.bool true))) (.r 14)⟩]
def f30_5:AC:=.ops [0,1,4,15] [4] f30_5l
theorem f30_5e:OP f30_5 f30_5l [0,1,4,15] [4]:=rfl
def f30_8l:List GI:=[⟨none,.bst (some 16) [(0,1),(1,1),(2,64),(66,1)] (.agg [(.lit (.int .i64 0)),(.lit (.int .u64 0)),(.lit (.int .i64 0)),(.lit (.int .i64 0)),(.lit (.int .i64 0)),(.lit (.int .i64 0)),(.lit (.int .i64 0)),(.lit (.int .i64 0)),(.lit (.int .i64 0)),(.lit (.int .i64 0)),(.lit (.int .i64 0)),(.lit (.int .i64 0)),(.lit (.int .i64 0)),(.lit (.int .i64 0)),(.lit (.int .i64 0)),(.lit (.int .i64 0)),(.lit (.int .i64 0)),(.lit (.int .i64 0)),(.lit (.int .i64 0)),(.lit (.int .i64 0)),(.lit (.int .i64 0)),(.lit (.int .i64 0)),(.lit (.int .i64 0)),(.lit (.int .i64 0)),(.lit (.int .i64 0)),(.lit (.int .i64 0)),(.lit (.int .i64 0)),(.lit (.int .i64 0)),(.lit (.int .i64 0)),(.lit (.int .i64 0)),(.lit (.int .i64 0)),(.lit (.int .i64 0)),(.lit (.int .i64 0)),(.lit (.int .i64 0)),(.lit (.int .i64 0)),(.lit (.int .i64 0)),(.lit (.int .i64 0)),(.lit (.int .i64 0)),(.lit (.int .i64 0)),(.lit (.int .i64 0)),(.lit (.int .i64 0)),(.lit (.int .i64 0)),(.lit (.int .i64 0)),(.lit (.int .i64 0)),(.lit (.int .i64 0)),(.lit (.int .i64 0)),(.lit (.int .i64 0)),(.lit (.int .i64 0)),(.lit (.int .i64 0)),(.lit (.int .i64 0)),(.lit (.int .i64 0)),(.lit (.int .i64 0)),(.lit (.int .i64 0)),(.lit (.int .i64 0)),(.lit (.int .i64 0)),(.lit (.int .i64 0)),(.lit (.int .i64 0)),(.lit (.int .i64 0)),(.lit (.int .i64 0)),(.lit (.int .i64 0)),(.lit (.int .i64 0)),(.lit (.int .i64 0)),(.lit (.int .i64 0)),(.lit (.int .i64 0)),(.lit (.int .i64 0)),(.lit (.int .i64 0)),(.lit (.slice none 0 0))]) []⟩,
    ⟨none,.store 67 (.r 4) (.r 16)⟩,
    ⟨none,.mv (some 5) (.c (.lit (.int .i64 2)))⟩]
def f30_8:AC:=.ops [4,5] [4] f30_8l
theorem f30_8e:OP f30_8 f30_8l [4,5] [4]:=rfl
def f30_7:AC:=.seq f30_8 .ret
theorem f30_7e:SQ f30_7 f30_8 .ret:=rfl
def f30_6:AC:=.cond (.r 15) f30_7 .skip
theorem f30_6e:CN f30_6 15 f30_7 .skip:=rfl
def f30_4:AC:=.seq f30_5 f30_6
theorem f30_4e:SQ f30_4 f30_5 f30_6:=rfl
def f30_10l:List GI:=[vv 17 0,
    vv 18 1,
    ⟨none,.bst (some 19) [(0,1),(1,1),(2,64),(66,1)] (.agg [(.lit (.int .i64 0)),(.lit (.int .u64 0)),(.lit (.int .i64 0)),(.lit (.int .i64 0)),(.lit (.int .i64 0)),(.lit (.int .i64 0)),(.lit (.int .i64 0)),(.lit (.int .i64 0)),(.lit (.int .i64 0)),(.lit (.int .i64 0)),(.lit (.int .i64 0)),(.lit (.int .i64 0)),(.lit (.int .i64 0)),(.lit (.int .i64 0)),(.lit (.int .i64 0)),(.lit (.int .i64 0)),(.lit (.int .i64 0)),(.lit (.int .i64 0)),(.lit (.int .i64 0)),(.lit (.int .i64 0)),(.lit (.int .i64 0)),(.lit (.int .i64 0)),(.lit (.int .i64 0)),(.lit (.int .i64 0)),(.lit (.int .i64 0)),(.lit (.int .i64 0)),(.lit (.int .i64 0)),(.lit (.int .i64 0)),(.lit (.int .i64 0)),(.lit (.int .i64 0)),(.lit (.int .i64 0)),(.lit (.int .i64 0)),(.lit (.int .i64 0)),(.lit (.int .i64 0)),(.lit (.int .i64 0)),(.lit (.int .i64 0)),(.lit (.int .i64 0)),(.lit (.int .i64 0)),(.lit (.int .i64 0)),(.lit (.int .i64 0)),(.lit (.int .i64 0)),(.lit (.int .i64 0)),(.lit (.int .i64 0)),(.lit (.int .i64 0)),(.lit (.int .i64 0)),(.lit (.int .i64 0)),(.lit (.int .i64 0)),(.lit (.int .i64 0)),(.lit (.int .i64 0)),(.lit (.int .i64 0)),(.lit (.int .i64 0)),(.lit (.int .i64 0)),(.lit (.int .i64 0)),(.lit (.int .i64 0)),(.lit (.int .i64 0)),(.lit (.int .i64 0)),(.lit (.int .i64 0)),(.lit (.int .i64 0)),(.lit (.int .i64 0)),(.lit (.int .i64 0)),(.lit (.int .i64 0)),(.lit (.int .i64 0)),(.lit (.int .i64 0)),(.lit (.int .i64 0)),(.lit (.int .i64 0)),(.lit (.int .i64 0)),(.lit (.slice none 0 0))]) [(0,(.r 17)),(1,(.r 18))]⟩,
    ⟨none,.store 67 (.r 4) (.r 19)⟩,
    ⟨none,.mv (some 5) (.c (.lit (.int .i64 0)))⟩]
def f30_10:AC:=.ops [4,5] [4] f30_10l
theorem f30_10e:OP f30_10 f30_10l [4,5] [4]:=rfl
def f30_9:AC:=.seq f30_10 .ret
theorem f30_9e:SQ f30_9 f30_10 .ret:=rfl
def f30_3:AC:=.seq f30_4 f30_9
theorem f30_3e:SQ f30_3 f30_4 f30_9:=rfl
def f30_1:AC:=.seq f30_2 f30_3
theorem f30_1e:SQ f30_1 f30_2 f30_3:=rfl
def c_f30:AFun:=⟨20,[.cell 4 (some 67),.tmp 5],f30_1⟩
theorem k_f30:bT Go.Proofs.Try.prog x_f30 30 = some c_f30:=by kernel_rfl
theorem e_f30:aX Go.Proofs.Try.prog 30 = true:=by kernel_rfl

def n_f31:Nat:=31
def x_f31:Cx:=⟨some,id,122,fun s=>([0,1,2,3,5,6,7,8,10,11,12,13,14,15,16,17,18,19,20,21,22,23,24,25,26,27,28,29,30,31,32,33,34,35,36,37,38,39,41,42,43,44,45,46,47,48,49,50,51,52,53,54,55,56,57,58,59,60,61,62,63,64,65,66,67,68,69,71,72,73,74,75,76,77,78,79,80,81,82,83,84,86,87,88,89,90,91,92,93,94,95,96,97,98,99,100,101,102,103,104,105,106,107,108,109,110,111,112,113,114,115,116,117,118,119,120,121]:List Nat).contains s,fun s=>([]:List Nat).contains s,msOf [(2,[],[]),(6,[1,2],[]),(28,[1,40],[]),(116,[0],[]),(60,[1,70],[]),(244,[0],[]),(62,[1,2,3],[]),(252,[1,85],[]),(1012,[0],[]),(254,[1,5],[]),(510,[1,5,6,7],[]),(1022,[1,5,6,7,8],[]),(2046,[5,6,7,8,10],[]),(4094,[0],[])]⟩
def f31_2l:List GI:=[⟨none,.mv (some 0) (.c (.lit (.bool false)))⟩]
def f31_2:AC:=.ops [] [] f31_2l
theorem f31_2e:OP f31_2 f31_2l [] []:=rfl
def f31_4l:List GI:=[⟨none,.call (some 12) false (.f 29) [(.c (.lit (.int .i64 3))),(.c (.lit (.int .u64 10)))]⟩,
    vv 11 12,
    ve 13 11 0,
    ve 14 11 1,
    vo 1 13,
    vo 2 14]
def f31_4:AC:=.ops [1,2] [] f31_4l
theorem f31_4e:OP f31_4 f31_4l [1,2] []:=rfl
def f31_7l:List GI:=[vv 15 2,
    vb 16 .neq 15 0,
    vv 17 16,
    ⟨some (17,false),.mv (some 18) (.r 1)⟩,
    ⟨some (17,false),.bin (some 19) (.nil .ptr) .eql (.r 18) (.c (.lit (.pointer none)))⟩,
    ⟨none,.pick (some 20) (.r 17) (.c (.lit (.bool true))) (.r 19)⟩,
    vv 21 20,
    ⟨some (21,false),.mv (some 22) (.r 1)⟩,
    ⟨some (21,false),.call (some 23) false (.f 52) [(.r 22),(.c (.lit (.int .i64 0))),(.c (.lit (.int .i64 2))),(.c (.lit (.int .u64 18446744073709551615))),(.c (.lit (.bool true))),(.c (.lit (.int .i64 0)))]⟩,
    ⟨some (21,false),.un (some 24) .not (.r 23)⟩,
    ⟨none,.pick (some 25) (.r 21) (.c (.lit (.bool true))) (.r 24)⟩,
    vv 26 25,
    ⟨some (26,false),.mv (some 27) (.r 1)⟩,
    ⟨some (26,false),.call (some 28) false (.f 52) [(.r 27),(.c (.lit (.int .i64 1))),(.c (.lit (.int .i64 2))),(.c (.lit (.int .u64 20))),(.c (.lit (.bool false))),(.c (.lit (.int .i64 0)))]⟩,
    ⟨some (26,false),.un (some 29) .not (.r 28)⟩,
    ⟨none,.pick (some 30) (.r 26) (.c (.lit (.bool true))) (.r 29)⟩,
    vv 31 30,
    ⟨some (31,false),.mv (some 32) (.r 1)⟩,
    ⟨some (31,false),.call (some 33) false (.f 52) [(.r 32),(.c (.lit (.int .i64 2))),(.c (.lit (.int .i64 1))),(.c (.lit (.int .u64 18446744073709551615))),(.c (.lit (.bool false))),(.c (.lit (.int .i64 0)))]⟩,
    ⟨some (31,false),.un (some 34) .not (.r 33)⟩,
    ⟨none,.pick (some 35) (.r 31) (.c (.lit (.bool true))) (.r 34)⟩,
    vv 36 35,
    ⟨some (36,false),.mv (some 37) (.r 1)⟩,
    ⟨some (36,false),.call (some 38) false (.f 36) [(.r 37),(.c (.lit (.int .i64 3))),(.c (.lit (.int .i64 1)))]⟩,
    ⟨some (36,false),.bin (some 39) .num .neq (.r 38) (.c (.lit (.int .i64 16)))⟩,
    ⟨none,.pick (some 40) (.r 36) (.c (.lit (.bool true))) (.r 39)⟩]
def f31_7:AC:=.ops [1,40] [] f31_7l
theorem f31_7e:OP f31_7 f31_7l [1,40] []:=rfl
def f31_10l:List GI:=[⟨none,.mv (some 0) (.c (.lit (.bool false)))⟩]
def f31_10:AC:=.ops [0] [] f31_10l
theorem f31_10e:OP f31_10 f31_10l [0] []:=rfl
def f31_9:AC:=.seq f31_10 .ret
theorem f31_9e:SQ f31_9 f31_10 .ret:=rfl
def f31_8:AC:=.cond (.r 40) f31_9 .skip
theorem f31_8e:CN f31_8 40 f31_9 .skip:=rfl
def f31_6:AC:=.seq f31_7 f31_8
theorem f31_6e:SQ f31_6 f31_7 f31_8:=rfl
def f31_13l:List GI:=[vv 41 1,
    ⟨none,.call (some 42) false (.f 41) [(.r 41)]⟩,
    vb 43 .neq 42 1,
    vv 44 43,
    ⟨some (44,false),.mv (some 45) (.r 1)⟩,
    ⟨some (44,false),.call (some 46) false (.f 34) [(.r 45)]⟩,
    ⟨some (44,false),.bsl (some 47) 1 2 (.lit (.int .i64 0)) [(0,(.c (.lit (.int .i64 1)))),(1,(.c (.lit (.int .i64 2))))]⟩,
    ⟨some (44,false),.call (some 48) false (.f 53) [(.r 46),(.r 47)]⟩,
    ⟨some (44,false),.un (some 49) .not (.r 48)⟩,
    ⟨none,.pick (some 50) (.r 44) (.c (.lit (.bool true))) (.r 49)⟩,
    vv 51 50,
    ⟨some (51,false),.mv (some 52) (.r 1)⟩,
    ⟨some (51,false),.call (some 53) false (.f 42) [(.r 52)]⟩,
    ⟨some (51,false),.bin (some 54) .num .neq (.r 53) (.c (.lit (.int .u64 20)))⟩,
    ⟨none,.pick (some 55) (.r 51) (.c (.lit (.bool true))) (.r 54)⟩,
    vv 56 55,
    ⟨some (56,false),.mv (some 57) (.r 1)⟩,
    ⟨some (56,false),.call (some 58) false (.f 52) [(.r 57),(.c (.lit (.int .i64 1))),(.c (.lit (.int .i64 1))),(.c (.lit (.int .u64 18446744073709551615))),(.c (.lit (.bool false))),(.c (.lit (.int .i64 11)))]⟩,
    ⟨some (56,false),.un (some 59) .not (.r 58)⟩,
    ⟨none,.pick (some 60) (.r 56) (.c (.lit (.bool true))) (.r 59)⟩,
    vv 61 60,
    ⟨some (61,false),.mv (some 62) (.r 1)⟩,
    ⟨some (61,false),.call (some 63) false (.f 52) [(.r 62),(.c (.lit (.int .i64 4))),(.c (.lit (.int .i64 4))),(.c (.lit (.int .u64 18446744073709551615))),(.c (.lit (.bool false))),(.c (.lit (.int .i64 2)))]⟩,
    ⟨some (61,false),.un (some 64) .not (.r 63)⟩,
    ⟨none,.pick (some 65) (.r 61) (.c (.lit (.bool true))) (.r 64)⟩,
    vv 66 65,
    ⟨some (66,false),.mv (some 67) (.r 1)⟩,
    ⟨some (66,false),.call (some 68) false (.f 52) [(.r 67),(.c (.lit (.int .i64 4))),(.c (.lit (.int .i64 1))),(.c (.lit (.int .u64 10))),(.c (.lit (.bool false))),(.c (.lit (.int .i64 12)))]⟩,
    ⟨some (66,false),.un (some 69) .not (.r 68)⟩,
    ⟨none,.pick (some 70) (.r 66) (.c (.lit (.bool true))) (.r 69)⟩]
def f31_13:AC:=.ops [1,70] [] f31_13l
theorem f31_13e:OP f31_13 f31_13l [1,70] []:=rfl
def f31_16l:List GI:=[⟨none,.mv (some 0) (.c (.lit (.bool false)))⟩]
def f31_16:AC:=.ops [0] [] f31_16l
theorem f31_16e:OP f31_16 f31_16l [0] []:=rfl
def f31_15:AC:=.seq f31_16 .ret
theorem f31_15e:SQ f31_15 f31_16 .ret:=rfl
def f31_14:AC:=.cond (.r 70) f31_15 .skip
theorem f31_14e:CN f31_14 70 f31_15 .skip:=rfl
def f31_12:AC:=.seq f31_13 f31_14
theorem f31_12e:SQ f31_12 f31_13 f31_14:=rfl
def f31_18l:List GI:=[vv 72 1,
    ⟨none,.call (some 73) false (.f 39) [(.r 72),(.c (.lit (.int .u64 20)))]⟩,
    vv 71 73,
    ve 74 71 0,
    ve 75 71 1,
    vo 3 74,
    vo 2 75]
def f31_18:AC:=.ops [1,2,3] [] f31_18l
theorem f31_18e:OP f31_18 f31_18l [1,2,3] []:=rfl
def f31_21l:List GI:=[vv 76 2,
    vb 77 .neq 76 0,
    vv 78 77,
    ⟨some (78,false),.mv (some 79) (.r 3)⟩,
    ⟨some (78,false),.bst (some 80) [(0,1),(1,1)] (.agg [(.lit (.int .i64 0)),(.lit (.int .i64 0))]) [(0,(.c (.lit (.int .i64 1)))),(1,(.c (.lit (.int .i64 12))))]⟩,
    ⟨some (78,false),.bst (some 81) [(0,1),(1,1)] (.agg [(.lit (.int .i64 0)),(.lit (.int .i64 0))]) [(0,(.c (.lit (.int .i64 2))))]⟩,
    ⟨some (78,false),.bsl (some 82) 2 2 (.agg [(.lit (.int .i64 0)),(.lit (.int .i64 0))]) [(0,(.r 80)),(1,(.r 81))]⟩,
    ⟨some (78,false),.call (some 83) false (.f 54) [(.r 79),(.r 82)]⟩,
    ⟨some (78,false),.un (some 84) .not (.r 83)⟩,
    ⟨none,.pick (some 85) (.r 78) (.c (.lit (.bool true))) (.r 84)⟩]
def f31_21:AC:=.ops [1,85] [] f31_21l
theorem f31_21e:OP f31_21 f31_21l [1,85] []:=rfl
def f31_24l:List GI:=[⟨none,.mv (some 0) (.c (.lit (.bool false)))⟩]
def f31_24:AC:=.ops [0] [] f31_24l
theorem f31_24e:OP f31_24 f31_24l [0] []:=rfl
def f31_23:AC:=.seq f31_24 .ret
theorem f31_23e:SQ f31_23 f31_24 .ret:=rfl
def f31_22:AC:=.cond (.r 85) f31_23 .skip
theorem f31_22e:CN f31_22 85 f31_23 .skip:=rfl
def f31_20:AC:=.seq f31_21 f31_22
theorem f31_20e:SQ f31_20 f31_21 f31_22:=rfl
def f31_26l:List GI:=[vv 87 1,
    ⟨none,.call (some 88) false (.f 37) [(.r 87),(.c (.lit (.int .i64 0))),(.c (.lit (.int .i64 3)))]⟩,
    vv 86 88,
    ve 89 86 0,
    ve 90 86 1,
    vo 4 89,
    vo 5 90]
def f31_26:AC:=.ops [1,5] [] f31_26l
theorem f31_26e:OP f31_26 f31_26l [1,5] []:=rfl
def f31_28l:List GI:=[vv 92 1,
    ⟨none,.call (some 93) false (.f 37) [(.r 92),(.c (.lit (.int .i64 0))),(.c (.lit (.int .i64 2)))]⟩,
    vv 91 93,
    ve 94 91 0,
    ve 95 91 1,
    vo 6 94,
    vo 7 95]
def f31_28:AC:=.ops [1,5,6,7] [] f31_28l
theorem f31_28e:OP f31_28 f31_28l [1,5,6,7] []:=rfl
def f31_30l:List GI:=[vv 96 1,
    ⟨none,.call (some 97) false (.f 41) [(.r 96)]⟩,
    vo 8 97]
def f31_30:AC:=.ops [1,5,6,7,8] [] f31_30l
theorem f31_30e:OP f31_30 f31_30l [1,5,6,7,8] []:=rfl
def f31_32l:List GI:=[vv 99 1,
    ⟨none,.call (some 100) false (.f 39) [(.r 99),(.c (.lit (.int .u64 19)))]⟩,
    vv 98 100,
    ve 101 98 0,
    ve 102 98 1,
    vo 9 101,
    vo 10 102]
def f31_32:AC:=.ops [5,6,7,8,10] [] f31_32l
theorem f31_32e:OP f31_32 f31_32l [5,6,7,8,10] []:=rfl
def f31_34l:List GI:=[vv 103 5,
    vb 104 .eql 103 9,
    vv 105 104,
    ⟨some (105,true),.mv (some 106) (.r 7)⟩,
    ⟨some (105,true),.bin (some 107) .num .eql (.r 106) (.c (.lit (.int .i64 0)))⟩,
    ⟨none,.pick (some 108) (.r 105) (.r 107) (.c (.lit (.bool false)))⟩,
    vv 109 108,
    ⟨some (109,true),.mv (some 110) (.r 6)⟩,
    ⟨some (109,true),.len (some 111) .sl (.r 110)⟩,
    ⟨some (109,true),.bin (some 112) .num .eql (.r 111) (.c (.lit (.int .i64 0)))⟩,
    ⟨none,.pick (some 113) (.r 109) (.r 112) (.c (.lit (.bool false)))⟩,
    vv 114 113,
    ⟨some (114,true),.mv (some 115) (.r 8)⟩,
    ⟨some (114,true),.bin (some 116) .num .eql (.r 115) (.c (.lit (.int .i64 2)))⟩,
    ⟨none,.pick (some 117) (.r 114) (.r 116) (.c (.lit (.bool false)))⟩,
    vv 118 117,
    ⟨some (118,true),.mv (some 119) (.r 10)⟩,
    ⟨some (118,true),.bin (some 120) .num .eql (.r 119) (.c (.lit (.int .i64 3)))⟩,
    ⟨none,.pick (some 121) (.r 118) (.r 120) (.c (.lit (.bool false)))⟩,
    vo 0 121]
def f31_34:AC:=.ops [0] [] f31_34l
theorem f31_34e:OP f31_34 f31_34l [0] []:=rfl
def f31_33:AC:=.seq f31_34 .ret
theorem f31_33e:SQ f31_33 f31_34 .ret:=rfl
def f31_31:AC:=.seq f31_32 f31_33
theorem f31_31e:SQ f31_31 f31_32 f31_33:=rfl
def f31_29:AC:=.seq f31_30 f31_31
theorem f31_29e:SQ f31_29 f31_30 f31_31:=rfl
def f31_27:AC:=.seq f31_28 f31_29
theorem f31_27e:SQ f31_27 f31_28 f31_29:=rfl
def f31_25:AC:=.seq f31_26 f31_27
theorem f31_25e:SQ f31_25 f31_26 f31_27:=rfl
def f31_19:AC:=.seq f31_20 f31_25
theorem f31_19e:SQ f31_19 f31_20 f31_25:=rfl
def f31_17:AC:=.seq f31_18 f31_19
theorem f31_17e:SQ f31_17 f31_18 f31_19:=rfl
def f31_11:AC:=.seq f31_12 f31_17
theorem f31_11e:SQ f31_11 f31_12 f31_17:=rfl
def f31_5:AC:=.seq f31_6 f31_11
theorem f31_5e:SQ f31_5 f31_6 f31_11:=rfl
def f31_3:AC:=.seq f31_4 f31_5
theorem f31_3e:SQ f31_3 f31_4 f31_5:=rfl
def f31_1:AC:=.seq f31_2 f31_3
theorem f31_1e:SQ f31_1 f31_2 f31_3:=rfl
def c_f31:AFun:=⟨122,[.tmp 0],f31_1⟩
theorem k_f31:bT Go.Proofs.Try.prog x_f31 31 = some c_f31:=by kernel_rfl
theorem e_f31:aX Go.Proofs.Try.prog 31 = true:=by kernel_rfl

def n_f32:Nat:=32
def x_f32:Cx:=⟨some,id,54,fun s=>([0,1,4,5,6,8,9,10,11,12,13,16,18,19,20,21,22,23,24,25,26,27,28,29,30,31,32,33,34,35,36,37,38,39,40,41,42,43,44,45,46,47,48,49,51,52,53]:List Nat).contains s,fun s=>([35]:List Nat).contains s,msOf [(2,[0,3],[3]),(12,[0,3,5],[3]),(26,[0,3,5],[3]),(208,[0,3,5,7],[3]),(419,[0,3],[3]),(840,[0,3,5,17],[3]),(3364,[4],[]),(211,[0,3,5],[3]),(14,[4],[])]⟩
def f32_2l:List GI:=[⟨none,.boxL 3 67 (.r 1)⟩,
    ⟨none,.mv (some 4) (.c (.lit (.bool false)))⟩]
def f32_2:AC:=.ops [0,3] [3] f32_2l
theorem f32_2e:OP f32_2 f32_2l [0,3] [3]:=rfl
def f32_5l:List GI:=[⟨none,.mv (some 5) (.c (.lit (.int .i64 0)))⟩]
def f32_5:AC:=.ops [0,3,5] [3] f32_5l
theorem f32_5e:OP f32_5 f32_5l [0,3,5] [3]:=rfl
def f32_10l:List GI:=[vv 6 5,
    vb 7 .lss 6 64]
def f32_10:AC:=.ops [0,3,5,7] [3] f32_10l
theorem f32_10e:OP f32_10 f32_10l [0,3,5,7] [3]:=rfl
def f32_11:AC:=.cond (.r 7) .skip (.exit [0,3] [3] 0)
theorem f32_11e:CN f32_11 7 .skip (.exit [0,3] [3] 0):=rfl
def f32_9:AC:=.seq f32_10 f32_11
theorem f32_9e:SQ f32_9 f32_10 f32_11:=rfl
def f32_15h:List GI:=[vv 10 0,
    vv 11 5,
    ⟨none,.call (some 12) true (.f 40) [(.r 10),(.r 11)]⟩,
    vv 13 5,
    vd 14 3 2,
    ⟨none,.ixA (some 15) (.r 14) (.r 13) 64 1⟩,
    vl 16 15]
def f32_15l:List GI:=[⟨none,.bin (some 17) .num .neq (.r 12) (.r 16)⟩]
def f32_15:AC:=.draw [0,3,5,17] [3] [] f32_15h f32_15l
theorem f32_15e:aC P id m f32_15 sf st Q = a9 P id sf.locs st f32_15h (cx P id m [] [0,3,5,17] [3] f32_15l Q st) [] ⟨sf.regs,bu [] sf.locs⟩:=rfl
def f32_18l:List GI:=[⟨none,.mv (some 4) (.c (.lit (.bool false)))⟩]
def f32_18:AC:=.ops [4] [] f32_18l
theorem f32_18e:OP f32_18 f32_18l [4] []:=rfl
def f32_17:AC:=.seq f32_18 .ret
theorem f32_17e:SQ f32_17 f32_18 .ret:=rfl
def f32_16:AC:=.cond (.r 17) f32_17 .skip
theorem f32_16e:CN f32_16 17 f32_17 .skip:=rfl
def f32_14:AC:=.seq f32_15 f32_16
theorem f32_14e:SQ f32_14 f32_15 f32_16:=rfl
def f32_13:AC:=.block 1 f32_14
theorem f32_13e:BL f32_13 f32_14 1:=rfl
def f32_19l:List GI:=[vv 8 5,
    vb 9 .add 8 1,
    vo 5 9]
def f32_19:AC:=.ops [0,3,5] [3] f32_19l
theorem f32_19e:OP f32_19 f32_19l [0,3,5] [3]:=rfl
def f32_12:AC:=.seq f32_13 f32_19
theorem f32_12e:SQ f32_12 f32_13 f32_19:=rfl
def f32_8:AC:=.seq f32_9 f32_12
theorem f32_8e:SQ f32_8 f32_9 f32_12:=rfl
def f32_7:AC:=.loop [0,3,5] [3] f32_8
theorem f32_7w:aC P id m f32_7 sf st Q = cd (aC P id m f32_8) [0,3,5] [3] sf st Q:=rfl
def f32_6:AC:=.block 0 f32_7
theorem f32_6e:BL f32_6 f32_7 0:=rfl
def f32_4:AC:=.seq f32_5 f32_6
theorem f32_4e:SQ f32_4 f32_5 f32_6:=rfl
def f32_21h:List (Bool×GI):=[(false,vv 18 0),
    (false,⟨none,.call (some 19) true (.f 40) [(.r 18),(.c (.lit (.int .i64 (-1))))]⟩),
    (false,vb 20 .eql 19 0),
    (false,vv 21 20),
    (false,⟨some (21,true),.mv (some 22) (.r 0)⟩),
    (false,⟨some (21,true),.call (some 23) true (.f 40) [(.r 22),(.c (.lit (.int .i64 64)))]⟩),
    (false,⟨some (21,true),.bin (some 24) .num .eql (.r 23) (.c (.lit (.int .i64 0)))⟩),
    (false,⟨none,.pick (some 25) (.r 21) (.r 24) (.c (.lit (.bool false)))⟩),
    (false,vv 26 25),
    (false,⟨some (26,true),.mv (some 27) (.r 0)⟩),
    (false,⟨some (26,true),.call (some 28) true (.f 41) [(.r 27)]⟩),
    (false,⟨some (26,true),.load (some 29) (.r 3) (some 67)⟩),
    (false,⟨some (26,true),.call (some 30) true (.f 55) [(.r 29)]⟩),
    (false,⟨some (26,true),.bin (some 31) .num .eql (.r 28) (.r 30)⟩),
    (false,⟨none,.pick (some 32) (.r 26) (.r 31) (.c (.lit (.bool false)))⟩),
    (false,vv 33 32),
    (false,⟨some (33,true),.mv (some 34) (.r 0)⟩),
    (true,⟨some (33,true),.call (some 35) true (.f 34) [(.r 34)]⟩),
    (false,⟨some (33,true),.load (some 36) (.r 3) (some 67)⟩),
    (false,⟨some (33,true),.call (some 37) true (.f 56) [(.r 36)]⟩),
    (false,⟨some (33,true),.call (some 38) true (.f 53) [(.r 35),(.r 37)]⟩),
    (false,⟨none,.pick (some 39) (.r 33) (.r 38) (.c (.lit (.bool false)))⟩),
    (false,vv 40 39),
    (false,⟨some (40,true),.mv (some 41) (.r 0)⟩),
    (false,⟨some (40,true),.call (some 42) true (.f 42) [(.r 41)]⟩),
    (false,⟨some (40,true),.load (some 43) (.r 3) (some 67)⟩),
    (false,⟨some (40,true),.call (some 44) true (.f 57) [(.r 43)]⟩),
    (false,⟨some (40,true),.bin (some 45) .num .eql (.r 42) (.r 44)⟩),
    (false,⟨none,.pick (some 46) (.r 40) (.r 45) (.c (.lit (.bool false)))⟩),
    (false,vv 47 46),
    (false,⟨some (47,true),.mv (some 48) (.r 0)⟩),
    (false,⟨some (47,true),.call (some 49) true (.f 43) [(.r 48)]⟩),
    (false,⟨some (47,true),.addr (some 50) (.r 3) 1⟩),
    (false,⟨some (47,true),.load (some 51) (.r 50) none⟩)]
def f32_21l:List GI:=[⟨some (47,true),.bin (some 52) .num .eql (.r 49) (.r 51)⟩,
    ⟨none,.pick (some 53) (.r 47) (.r 52) (.c (.lit (.bool false)))⟩,
    vo 4 53]
def f32_21:AC:=.drawG [4] [] [] f32_21h f32_21l
theorem f32_21e:aC P id m f32_21 sf st Q = (m = false∧preG P id sf.locs st f32_21h (tailG P id m [] [4] [] f32_21l Q st) [] ⟨sf.regs,bu [] sf.locs⟩):=rfl
def f32_20:AC:=.seq f32_21 .ret
theorem f32_20e:SQ f32_20 f32_21 .ret:=rfl
def f32_3:AC:=.seq f32_4 f32_20
theorem f32_3e:SQ f32_3 f32_4 f32_20:=rfl
def f32_1:AC:=.seq f32_2 f32_3
theorem f32_1e:SQ f32_1 f32_2 f32_3:=rfl
def c_f32:AFun:=⟨54,[.tmp 4],f32_1⟩
theorem k_f32:bT Go.Proofs.Try.prog x_f32 32 = some c_f32:=by kernel_rfl
theorem e_f32:aX Go.Proofs.Try.prog 32 = true:=by kernel_rfl

def n_f33:Nat:=33
def x_f33:Cx:=⟨some,id,38,fun s=>([0,1,2,7,8,10,11,12,13,15,16,17,18,19,21,23,24,25,26,27,28,29,30,31,32,33,35,36,37]:List Nat).contains s,fun s=>([24]:List Nat).contains s,msOf [(2,[0,2,4,6],[4,6]),(12,[0,2,4,6,8],[4,6]),(26,[0,2,4,6,8],[4,6]),(208,[0,2,4,6,8,14],[4,6]),(419,[4,6],[4,6]),(840,[0,2,4,6,8,9,10],[4,6,9]),(3364,[0,2,4,6,8,9,34],[4,6,9]),(13460,[6,7],[6]),(1683,[0,2,4,6,8],[4,6]),(211,[0,2,4,6,8],[4,6]),(14,[6,7],[6])]⟩
def f33_2l:List GI:=[⟨none,.boxL 4 67 (.r 1)⟩,
    ⟨none,.newL 6 [(.lit (.int .i64 0)),(.lit (.int .u64 0)),(.lit (.int .i64 0)),(.lit (.int .i64 0)),(.lit (.int .i64 0)),(.lit (.int .i64 0)),(.lit (.int .i64 0)),(.lit (.int .i64 0)),(.lit (.int .i64 0)),(.lit (.int .i64 0)),(.lit (.int .i64 0)),(.lit (.int .i64 0)),(.lit (.int .i64 0)),(.lit (.int .i64 0)),(.lit (.int .i64 0)),(.lit (.int .i64 0)),(.lit (.int .i64 0)),(.lit (.int .i64 0)),(.lit (.int .i64 0)),(.lit (.int .i64 0)),(.lit (.int .i64 0)),(.lit (.int .i64 0)),(.lit (.int .i64 0)),(.lit (.int .i64 0)),(.lit (.int .i64 0)),(.lit (.int .i64 0)),(.lit (.int .i64 0)),(.lit (.int .i64 0)),(.lit (.int .i64 0)),(.lit (.int .i64 0)),(.lit (.int .i64 0)),(.lit (.int .i64 0)),(.lit (.int .i64 0)),(.lit (.int .i64 0)),(.lit (.int .i64 0)),(.lit (.int .i64 0)),(.lit (.int .i64 0)),(.lit (.int .i64 0)),(.lit (.int .i64 0)),(.lit (.int .i64 0)),(.lit (.int .i64 0)),(.lit (.int .i64 0)),(.lit (.int .i64 0)),(.lit (.int .i64 0)),(.lit (.int .i64 0)),(.lit (.int .i64 0)),(.lit (.int .i64 0)),(.lit (.int .i64 0)),(.lit (.int .i64 0)),(.lit (.int .i64 0)),(.lit (.int .i64 0)),(.lit (.int .i64 0)),(.lit (.int .i64 0)),(.lit (.int .i64 0)),(.lit (.int .i64 0)),(.lit (.int .i64 0)),(.lit (.int .i64 0)),(.lit (.int .i64 0)),(.lit (.int .i64 0)),(.lit (.int .i64 0)),(.lit (.int .i64 0)),(.lit (.int .i64 0)),(.lit (.int .i64 0)),(.lit (.int .i64 0)),(.lit (.int .i64 0)),(.lit (.int .i64 0)),(.lit (.slice none 0 0))]⟩,
    ⟨none,.mv (some 7) (.c (.lit (.bool false)))⟩]
def f33_2:AC:=.ops [0,2,4,6] [4,6] f33_2l
theorem f33_2e:OP f33_2 f33_2l [0,2,4,6] [4,6]:=rfl
def f33_5l:List GI:=[⟨none,.mv (some 8) (.c (.lit (.int .i64 0)))⟩]
def f33_5:AC:=.ops [0,2,4,6,8] [4,6] f33_5l
theorem f33_5e:OP f33_5 f33_5l [0,2,4,6,8] [4,6]:=rfl
def f33_10l:List GI:=[vv 11 8,
    vv 12 2,
    ⟨none,.len (some 13) .sl (.r 12)⟩,
    ⟨none,.bin (some 14) .num .lss (.r 11) (.r 13)⟩]
def f33_10:AC:=.ops [0,2,4,6,8,14] [4,6] f33_10l
theorem f33_10e:OP f33_10 f33_10l [0,2,4,6,8,14] [4,6]:=rfl
def f33_11:AC:=.cond (.r 14) .skip (.exit [4,6] [4,6] 0)
theorem f33_11e:CN f33_11 14 .skip (.exit [4,6] [4,6] 0):=rfl
def f33_9:AC:=.seq f33_10 f33_11
theorem f33_9e:SQ f33_9 f33_10 f33_11:=rfl
def f33_15h:List GI:=[vv 18 0,
    ⟨none,.load (some 19) (.r 4) (some 67)⟩,
    vv 20 2,
    vv 21 8,
    ⟨none,.ixS (some 22) (.r 20) (.r 21) 4⟩,
    ⟨none,.load (some 23) (.r 22) (some 4)⟩]
def f33_15p:List (Bool×GI):=[(true,vv 17 24),
    (true,ve 25 17 0),
    (true,ve 26 17 1),
    (false,⟨none,.newL 9 [(.lit (.int .i64 0)),(.lit (.int .u64 0)),(.lit (.int .i64 0)),(.lit (.int .i64 0)),(.lit (.int .i64 0)),(.lit (.int .i64 0)),(.lit (.int .i64 0)),(.lit (.int .i64 0)),(.lit (.int .i64 0)),(.lit (.int .i64 0)),(.lit (.int .i64 0)),(.lit (.int .i64 0)),(.lit (.int .i64 0)),(.lit (.int .i64 0)),(.lit (.int .i64 0)),(.lit (.int .i64 0)),(.lit (.int .i64 0)),(.lit (.int .i64 0)),(.lit (.int .i64 0)),(.lit (.int .i64 0)),(.lit (.int .i64 0)),(.lit (.int .i64 0)),(.lit (.int .i64 0)),(.lit (.int .i64 0)),(.lit (.int .i64 0)),(.lit (.int .i64 0)),(.lit (.int .i64 0)),(.lit (.int .i64 0)),(.lit (.int .i64 0)),(.lit (.int .i64 0)),(.lit (.int .i64 0)),(.lit (.int .i64 0)),(.lit (.int .i64 0)),(.lit (.int .i64 0)),(.lit (.int .i64 0)),(.lit (.int .i64 0)),(.lit (.int .i64 0)),(.lit (.int .i64 0)),(.lit (.int .i64 0)),(.lit (.int .i64 0)),(.lit (.int .i64 0)),(.lit (.int .i64 0)),(.lit (.int .i64 0)),(.lit (.int .i64 0)),(.lit (.int .i64 0)),(.lit (.int .i64 0)),(.lit (.int .i64 0)),(.lit (.int .i64 0)),(.lit (.int .i64 0)),(.lit (.int .i64 0)),(.lit (.int .i64 0)),(.lit (.int .i64 0)),(.lit (.int .i64 0)),(.lit (.int .i64 0)),(.lit (.int .i64 0)),(.lit (.int .i64 0)),(.lit (.int .i64 0)),(.lit (.int .i64 0)),(.lit (.int .i64 0)),(.lit (.int .i64 0)),(.lit (.int .i64 0)),(.lit (.int .i64 0)),(.lit (.int .i64 0)),(.lit (.int .i64 0)),(.lit (.int .i64 0)),(.lit (.int .i64 0)),(.lit (.slice none 0 0))]⟩),
    (true,⟨none,.store 67 (.r 9) (.r 25)⟩)]
def f33_15l:List GI:=[vo 10 26]
def f33_15:AC:=.drawM [0,2,4,6,8,9,10] [4,6,9] f33_15h (some 24) (.f 58) [(.r 18),(.r 19),(.r 23)] f33_15p f33_15l
theorem f33_15e:aC P id m f33_15 sf st Q = (m = false∧drawM P id f33_15h (some 24) (.f 58) [(.r 18),(.r 19),(.r 23)] f33_15p sf st (nY P id m [0,2,4,6,8,9,10] [4,6,9] f33_15l Q)):=rfl
def f33_18l:List GI:=[vv 27 10,
    ⟨none,.un (some 28) .not (.r 27)⟩,
    vv 29 28,
    ⟨some (29,false),.mv (some 30) (.r 0)⟩,
    ⟨some (29,false),.load (some 31) (.r 9) (some 67)⟩,
    ⟨some (29,false),.call (some 32) false (.f 32) [(.r 30),(.r 31)]⟩,
    ⟨some (29,false),.un (some 33) .not (.r 32)⟩,
    ⟨none,.pick (some 34) (.r 29) (.c (.lit (.bool true))) (.r 33)⟩]
def f33_18:AC:=.ops [0,2,4,6,8,9,34] [4,6,9] f33_18l
theorem f33_18e:OP f33_18 f33_18l [0,2,4,6,8,9,34] [4,6,9]:=rfl
def f33_21l:List GI:=[⟨none,.load (some 35) (.r 4) (some 67)⟩,
    ⟨none,.store 67 (.r 6) (.r 35)⟩,
    ⟨none,.mv (some 7) (.c (.lit (.bool false)))⟩]
def f33_21:AC:=.ops [6,7] [6] f33_21l
theorem f33_21e:OP f33_21 f33_21l [6,7] [6]:=rfl
def f33_20:AC:=.seq f33_21 .ret
theorem f33_20e:SQ f33_20 f33_21 .ret:=rfl
def f33_19:AC:=.cond (.r 34) f33_20 .skip
theorem f33_19e:CN f33_19 34 f33_20 .skip:=rfl
def f33_17:AC:=.seq f33_18 f33_19
theorem f33_17e:SQ f33_17 f33_18 f33_19:=rfl
def f33_22l:List GI:=[⟨none,.load (some 36) (.r 9) (some 67)⟩,
    ⟨none,.store 67 (.r 4) (.r 36)⟩]
def f33_22:AC:=.ops [0,2,4,6,8] [4,6] f33_22l
theorem f33_22e:OP f33_22 f33_22l [0,2,4,6,8] [4,6]:=rfl
def f33_16:AC:=.seq f33_17 f33_22
theorem f33_16e:SQ f33_16 f33_17 f33_22:=rfl
def f33_14:AC:=.seq f33_15 f33_16
theorem f33_14e:SQ f33_14 f33_15 f33_16:=rfl
def f33_13:AC:=.block 1 f33_14
theorem f33_13e:BL f33_13 f33_14 1:=rfl
def f33_23l:List GI:=[vv 15 8,
    vb 16 .add 15 1,
    vo 8 16]
def f33_23:AC:=.ops [0,2,4,6,8] [4,6] f33_23l
theorem f33_23e:OP f33_23 f33_23l [0,2,4,6,8] [4,6]:=rfl
def f33_12:AC:=.seq f33_13 f33_23
theorem f33_12e:SQ f33_12 f33_13 f33_23:=rfl
def f33_8:AC:=.seq f33_9 f33_12
theorem f33_8e:SQ f33_8 f33_9 f33_12:=rfl
def f33_7:AC:=.loop [0,2,4,6,8] [4,6] f33_8
theorem f33_7w:aC P id m f33_7 sf st Q = cd (aC P id m f33_8) [0,2,4,6,8] [4,6] sf st Q:=rfl
def f33_6:AC:=.block 0 f33_7
theorem f33_6e:BL f33_6 f33_7 0:=rfl
def f33_4:AC:=.seq f33_5 f33_6
theorem f33_4e:SQ f33_4 f33_5 f33_6:=rfl
def f33_25l:List GI:=[⟨none,.load (some 37) (.r 4) (some 67)⟩,
    ⟨none,.store 67 (.r 6) (.r 37)⟩,
    ⟨none,.mv (some 7) (.c (.lit (.bool true)))⟩]
def f33_25:AC:=.ops [6,7] [6] f33_25l
theorem f33_25e:OP f33_25 f33_25l [6,7] [6]:=rfl
def f33_24:AC:=.seq f33_25 .ret
theorem f33_24e:SQ f33_24 f33_25 .ret:=rfl
def f33_3:AC:=.seq f33_4 f33_24
theorem f33_3e:SQ f33_3 f33_4 f33_24:=rfl
def f33_1:AC:=.seq f33_2 f33_3
theorem f33_1e:SQ f33_1 f33_2 f33_3:=rfl
def c_f33:AFun:=⟨38,[.cell 6 (some 67),.tmp 7],f33_1⟩
theorem k_f33:bT Go.Proofs.Try.prog x_f33 33 = some c_f33:=by kernel_rfl
theorem e_f33:aX Go.Proofs.Try.prog 33 = true:=by kernel_rfl

def n_f34:Nat:=34
def x_f34:Cx:=⟨some,id,21,fun s=>([0,2,3,5,6,11,14,15,16,17,18,19,20]:List Nat).contains s,fun s=>([]:List Nat).contains s,msOf [(2,[0,14],[]),(12,[0,7,14],[]),(52,[2],[]),(14,[0,3,14],[]),(60,[3,12,14],[]),(122,[3],[]),(1000000129,[3,14],[]),(244,[3,5],[]),(490,[],[]),(62,[2],[])]⟩
def f34_2l:List GI:=[⟨none,.mv (some 2) (.c (.lit (.slice none 0 0)))⟩]
def f34_2:AC:=.ops [0,14] [] f34_2l
theorem f34_2e:OP f34_2 f34_2l [0,14] []:=rfl
def f34_5l:List GI:=[vv 6 0,
    ⟨none,.call (some 7) false (.f 59) [(.r 6)]⟩]
def f34_5:AC:=.ops [0,7,14] [] f34_5l
theorem f34_5e:OP f34_5 f34_5l [0,7,14] []:=rfl
def f34_8l:List GI:=[⟨none,.mv (some 2) (.c (.lit (.slice none 0 0)))⟩]
def f34_8:AC:=.ops [2] [] f34_8l
theorem f34_8e:OP f34_8 f34_8l [2] []:=rfl
def f34_7:AC:=.seq f34_8 .ret
theorem f34_7e:SQ f34_7 f34_8 .ret:=rfl
def f34_6:AC:=.cond (.r 7) f34_7 .skip
theorem f34_6e:CN f34_6 7 f34_7 .skip:=rfl
def f34_4:AC:=.seq f34_5 f34_6
theorem f34_4e:SQ f34_4 f34_5 f34_6:=rfl
def f34_10l:List GI:=[⟨none,.newB 3 [(.lit (.slice none 0 0))]⟩]
def f34_10:AC:=.ops [0,3,14] [] f34_10l
theorem f34_10e:OP f34_10 f34_10l [0,3,14] []:=rfl
def f34_13l:List GI:=[vv 8 0,
    vn 9 8,
    vd 10 9 67,
    vl 11 10,
    ⟨none,.call (some 12) false (.f 49) [(.r 11)]⟩]
def f34_13:AC:=.ops [3,12,14] [] f34_13l
theorem f34_13e:OP f34_13 f34_13l [3,12,14] []:=rfl
def f34_16l:List GI:=[vo 5 14]
def f34_16:AC:=.ops [3,5] [] f34_16l
theorem f34_16e:OP f34_16 f34_16l [3,5] []:=rfl
def f34_18l:List GI:=[⟨none,.loadOwn 15 (.r 3)⟩,
    vv 16 5,
    ⟨none,.bsl (some 17) 1 1 (.lit (.int .i64 0)) [(0,(.r 16))]⟩,
    ⟨none,.appS 18 15 1 8 (.r 17)⟩,
    ⟨none,.store 1 (.r 3) (.r 18)⟩]
def f34_18:AC:=.ops [] [] f34_18l
theorem f34_18e:OP f34_18 f34_18l [] []:=rfl
def f34_17:AC:=.block 1 f34_18
theorem f34_17e:BL f34_17 f34_18 1:=rfl
def f34_15:AC:=.rangeF [3] [] (.r 12) [13,14] [3,14] f34_16 f34_17
theorem f34_15w:aC P id m f34_15 sf st Q = (m = false∧kI P (aC P id m f34_16) (aC P id m f34_17) [13,14] [3,14] [3] [] (sf.ev id (.r 12)) sf st Q):=rfl
def f34_14:AC:=.block 0 f34_15
theorem f34_14e:BL f34_14 f34_15 0:=rfl
def f34_12:AC:=.seq f34_13 f34_14
theorem f34_12e:SQ f34_12 f34_13 f34_14:=rfl
def f34_20l:List GI:=[vl 19 3,
    ⟨none,.call (some 20) false (.f 60) [(.r 19)]⟩,
    vo 2 20]
def f34_20:AC:=.ops [2] [] f34_20l
theorem f34_20e:OP f34_20 f34_20l [2] []:=rfl
def f34_19:AC:=.seq f34_20 .ret
theorem f34_19e:SQ f34_19 f34_20 .ret:=rfl
def f34_11:AC:=.seq f34_12 f34_19
theorem f34_11e:SQ f34_11 f34_12 f34_19:=rfl
def f34_9:AC:=.seq f34_10 f34_11
theorem f34_9e:SQ f34_9 f34_10 f34_11:=rfl
def f34_3:AC:=.seq f34_4 f34_9
theorem f34_3e:SQ f34_3 f34_4 f34_9:=rfl
def f34_1:AC:=.seq f34_2 f34_3
theorem f34_1e:SQ f34_1 f34_2 f34_3:=rfl
def c_f34:AFun:=⟨21,[.tmp 2],f34_1⟩
theorem k_f34:bT Go.Proofs.Try.prog x_f34 34 = some c_f34:=by kernel_rfl
theorem e_f34:aX Go.Proofs.Try.prog 34 = true:=by kernel_rfl

def n_f35:Nat:=35
def x_f35:Cx:=⟨some,id,78,fun s=>([0,1,2,3,8,9,10,11,12,13,14,15,16,17,19,21,25,26,27,31,33,37,42,43,44,45,46,50,51,53,54,55,57,61,62,63,64,65,66,68,72,73,74,75,76,77]:List Nat).contains s,fun s=>([]:List Nat).contains s,msOf [(2,[0,1,2,3],[]),(12,[0,1,2,3,10],[]),(26,[0,1,2,3,10,18],[]),(108,[8,9],[]),(28,[0,1,2,3,32],[]),(116,[8,9],[]),(60,[0,1,2,3,38],[]),(244,[8,9],[]),(124,[0,1,2,3,52],[]),(500,[],[]),(1002,[8,9],[]),(126,[0,1,2,3,11,12],[]),(508,[0,1,2,3,11,12,67],[]),(2036,[8,9],[]),(510,[],[]),(1022,[8,9],[])]⟩
def f35_2l:List GI:=[⟨none,.mv (some 8) (.c (.lit (.bool false)))⟩,
    ⟨none,.mv (some 9) (.c (.lit (.int .i64 0)))⟩]
def f35_2:AC:=.ops [0,1,2,3] [] f35_2l
theorem f35_2e:OP f35_2 f35_2l [0,1,2,3] []:=rfl
def f35_5l:List GI:=[vv 13 0,
    vv 14 1,
    vv 15 2,
    ⟨none,.call (some 16) false (.f 61) [(.r 13),(.r 14),(.r 15)]⟩,
    vo 10 16]
def f35_5:AC:=.ops [0,1,2,3,10] [] f35_5l
theorem f35_5e:OP f35_5 f35_5l [0,1,2,3,10] []:=rfl
def f35_7l:List GI:=[vv 17 10,
    vb 18 .neq 17 0]
def f35_7:AC:=.ops [0,1,2,3,10,18] [] f35_7l
theorem f35_7e:OP f35_7 f35_7l [0,1,2,3,10,18] []:=rfl
def f35_10l:List GI:=[vv 19 10,
    ⟨none,.mv (some 8) (.c (.lit (.bool false)))⟩,
    vo 9 19]
def f35_10:AC:=.ops [8,9] [] f35_10l
theorem f35_10e:OP f35_10 f35_10l [8,9] []:=rfl
def f35_9:AC:=.seq f35_10 .ret
theorem f35_9e:SQ f35_9 f35_10 .ret:=rfl
def f35_8:AC:=.cond (.r 18) f35_9 .skip
theorem f35_8e:CN f35_8 18 f35_9 .skip:=rfl
def f35_6:AC:=.seq f35_7 f35_8
theorem f35_6e:SQ f35_6 f35_7 f35_8:=rfl
def f35_4:AC:=.seq f35_5 f35_6
theorem f35_4e:SQ f35_4 f35_5 f35_6:=rfl
def f35_13h:List GI:=[vv 20 0,
    vv 21 1,
    vn 22 20,
    vd 23 22 3,
    ⟨none,.ixA (some 24) (.r 23) (.r 21) 64 1⟩,
    vl 25 24,
    vv 26 2,
    ⟨none,.bin (some 27) .num .add (.r 25) (.r 26)⟩,
    vv 28 0,
    vn 29 28,
    vd 30 29 0,
    vl 31 30]
def f35_13l:List GI:=[⟨none,.bin (some 32) .num .gtr (.r 27) (.r 31)⟩]
def f35_13:AC:=.draw [0,1,2,3,32] [] [] f35_13h f35_13l
theorem f35_13e:aC P id m f35_13 sf st Q = a9 P id sf.locs st f35_13h (cx P id m [] [0,1,2,3,32] [] f35_13l Q st) [] ⟨sf.regs,bu [] sf.locs⟩:=rfl
def f35_16l:List GI:=[⟨none,.mv (some 8) (.c (.lit (.bool false)))⟩,
    ⟨none,.mv (some 9) (.c (.lit (.int .i64 7)))⟩]
def f35_16:AC:=.ops [8,9] [] f35_16l
theorem f35_16e:OP f35_16 f35_16l [8,9] []:=rfl
def f35_15:AC:=.seq f35_16 .ret
theorem f35_15e:SQ f35_15 f35_16 .ret:=rfl
def f35_14:AC:=.cond (.r 32) f35_15 .skip
theorem f35_14e:CN f35_14 32 f35_15 .skip:=rfl
def f35_12:AC:=.seq f35_13 f35_14
theorem f35_12e:SQ f35_12 f35_13 f35_14:=rfl
def f35_19l:List GI:=[vv 33 3,
    vv 34 0,
    vn 35 34,
    vd 36 35 2,
    vl 37 36,
    ⟨none,.call (some 38) false (.f 62) [(.r 33),(.r 37)]⟩]
def f35_19:AC:=.ops [0,1,2,3,38] [] f35_19l
theorem f35_19e:OP f35_19 f35_19l [0,1,2,3,38] []:=rfl
def f35_22l:List GI:=[⟨none,.mv (some 8) (.c (.lit (.bool false)))⟩,
    ⟨none,.mv (some 9) (.c (.lit (.int .i64 12)))⟩]
def f35_22:AC:=.ops [8,9] [] f35_22l
theorem f35_22e:OP f35_22 f35_22l [8,9] []:=rfl
def f35_21:AC:=.seq f35_22 .ret
theorem f35_21e:SQ f35_21 f35_22 .ret:=rfl
def f35_20:AC:=.cond (.r 38) f35_21 .skip
theorem f35_20e:CN f35_20 38 f35_21 .skip:=rfl
def f35_18:AC:=.seq f35_19 f35_20
theorem f35_18e:SQ f35_18 f35_19 f35_20:=rfl
def f35_25l:List GI:=[vv 39 0,
    vn 40 39,
    vd 41 40 67,
    vl 42 41,
    ⟨none,.call (some 43) false (.f 47) [(.r 42)]⟩,
    vb 44 .eql 43 0,
    vv 45 44,
    ⟨some (45,true),.mv (some 46) (.r 2)⟩,
    ⟨some (45,true),.mv (some 47) (.r 0)⟩,
    ⟨some (45,true),.nilck (some 48) (.r 47)⟩,
    ⟨some (45,true),.addr (some 49) (.r 48) 1⟩,
    ⟨some (45,true),.load (some 50) (.r 49) none⟩,
    ⟨some (45,true),.bin (some 51) .num .leq (.r 46) (.r 50)⟩,
    ⟨none,.pick (some 52) (.r 45) (.r 51) (.c (.lit (.bool false)))⟩]
def f35_25:AC:=.ops [0,1,2,3,52] [] f35_25l
theorem f35_25e:OP f35_25 f35_25l [0,1,2,3,52] []:=rfl
def f35_28l:List GI:=[vv 53 0,
    vv 54 1,
    vv 55 2,
    ⟨none,.call (some 56) false (.f 63) [(.r 53),(.r 54),(.r 55)]⟩]
def f35_28:AC:=.ops [] [] f35_28l
theorem f35_28e:OP f35_28 f35_28l [] []:=rfl
def f35_30l:List GI:=[⟨none,.mv (some 8) (.c (.lit (.bool true)))⟩,
    ⟨none,.mv (some 9) (.c (.lit (.int .i64 0)))⟩]
def f35_30:AC:=.ops [8,9] [] f35_30l
theorem f35_30e:OP f35_30 f35_30l [8,9] []:=rfl
def f35_29:AC:=.seq f35_30 .ret
theorem f35_29e:SQ f35_29 f35_30 .ret:=rfl
def f35_27:AC:=.seq f35_28 f35_29
theorem f35_27e:SQ f35_27 f35_28 f35_29:=rfl
def f35_26:AC:=.cond (.r 52) f35_27 .skip
theorem f35_26e:CN f35_26 52 f35_27 .skip:=rfl
def f35_24:AC:=.seq f35_25 f35_26
theorem f35_24e:SQ f35_24 f35_25 f35_26:=rfl
def f35_32l:List GI:=[vv 58 0,
    vn 59 58,
    vd 60 59 67,
    vl 61 60,
    vv 62 1,
    ⟨none,.call (some 63) false (.f 48) [(.r 61),(.r 62)]⟩,
    vv 57 63,
    ve 64 57 0,
    ve 65 57 1,
    vo 11 64,
    vo 12 65]
def f35_32:AC:=.ops [0,1,2,3,11,12] [] f35_32l
theorem f35_32e:OP f35_32 f35_32l [0,1,2,3,11,12] []:=rfl
def f35_35l:List GI:=[vv 66 12,
    vb 67 .neq 66 0]
def f35_35:AC:=.ops [0,1,2,3,11,12,67] [] f35_35l
theorem f35_35e:OP f35_35 f35_35l [0,1,2,3,11,12,67] []:=rfl
def f35_38l:List GI:=[vv 68 12,
    ⟨none,.mv (some 8) (.c (.lit (.bool false)))⟩,
    vo 9 68]
def f35_38:AC:=.ops [8,9] [] f35_38l
theorem f35_38e:OP f35_38 f35_38l [8,9] []:=rfl
def f35_37:AC:=.seq f35_38 .ret
theorem f35_37e:SQ f35_37 f35_38 .ret:=rfl
def f35_36:AC:=.cond (.r 67) f35_37 .skip
theorem f35_36e:CN f35_36 67 f35_37 .skip:=rfl
def f35_34:AC:=.seq f35_35 f35_36
theorem f35_34e:SQ f35_34 f35_35 f35_36:=rfl
def f35_40l:List GI:=[vv 69 0,
    vn 70 69,
    vd 71 70 68,
    vl 72 71,
    vv 73 1,
    vv 74 2,
    vv 75 3,
    vv 76 11,
    ⟨none,.bst (some 77) [(0,1),(1,1),(2,1)] (.agg [(.lit (.int .i64 0)),(.lit (.int .u64 0)),(.lit (.int .u64 0))]) [(0,(.r 74)),(1,(.r 75)),(2,(.r 76))]⟩,
    ⟨none,.upd (.int .i64) (.r 72) (.r 73) (.r 77)⟩]
def f35_40:AC:=.ops [] [] f35_40l
theorem f35_40e:OP f35_40 f35_40l [] []:=rfl
def f35_42l:List GI:=[⟨none,.mv (some 8) (.c (.lit (.bool false)))⟩,
    ⟨none,.mv (some 9) (.c (.lit (.int .i64 0)))⟩]
def f35_42:AC:=.ops [8,9] [] f35_42l
theorem f35_42e:OP f35_42 f35_42l [8,9] []:=rfl
def f35_41:AC:=.seq f35_42 .ret
theorem f35_41e:SQ f35_41 f35_42 .ret:=rfl
def f35_39:AC:=.seq f35_40 f35_41
theorem f35_39e:SQ f35_39 f35_40 f35_41:=rfl
def f35_33:AC:=.seq f35_34 f35_39
theorem f35_33e:SQ f35_33 f35_34 f35_39:=rfl
def f35_31:AC:=.seq f35_32 f35_33
theorem f35_31e:SQ f35_31 f35_32 f35_33:=rfl
def f35_23:AC:=.seq f35_24 f35_31
theorem f35_23e:SQ f35_23 f35_24 f35_31:=rfl
def f35_17:AC:=.seq f35_18 f35_23
theorem f35_17e:SQ f35_17 f35_18 f35_23:=rfl
def f35_11:AC:=.seq f35_12 f35_17
theorem f35_11e:SQ f35_11 f35_12 f35_17:=rfl
def f35_3:AC:=.seq f35_4 f35_11
theorem f35_3e:SQ f35_3 f35_4 f35_11:=rfl
def f35_1:AC:=.seq f35_2 f35_3
theorem f35_1e:SQ f35_1 f35_2 f35_3:=rfl
def c_f35:AFun:=⟨78,[.tmp 8,.tmp 9],f35_1⟩
theorem k_f35:bT Go.Proofs.Try.prog x_f35 35 = some c_f35:=by kernel_rfl
theorem e_f35:aX Go.Proofs.Try.prog 35 = true:=by kernel_rfl

def n_f36:Nat:=36
def x_f36:Cx:=⟨some,id,46,fun s=>([0,1,2,6,7,8,9,10,11,12,14,16,20,21,22,26,31,32,33,34,35,39,40,42,43,44]:List Nat).contains s,fun s=>([]:List Nat).contains s,msOf [(2,[0,1,2],[]),(12,[0,1,2,7],[]),(26,[0,1,2,7,13],[]),(108,[6],[]),(28,[0,1,2,27],[]),(116,[6],[]),(60,[0,1,2,41],[]),(244,[6],[]),(62,[],[]),(126,[6],[])]⟩
def f36_2l:List GI:=[⟨none,.mv (some 6) (.c (.lit (.int .i64 0)))⟩]
def f36_2:AC:=.ops [0,1,2] [] f36_2l
theorem f36_2e:OP f36_2 f36_2l [0,1,2] []:=rfl
def f36_5l:List GI:=[vv 8 0,
    vv 9 1,
    vv 10 2,
    ⟨none,.call (some 11) false (.f 61) [(.r 8),(.r 9),(.r 10)]⟩,
    vo 7 11]
def f36_5:AC:=.ops [0,1,2,7] [] f36_5l
theorem f36_5e:OP f36_5 f36_5l [0,1,2,7] []:=rfl
def f36_7l:List GI:=[vv 12 7,
    vb 13 .neq 12 0]
def f36_7:AC:=.ops [0,1,2,7,13] [] f36_7l
theorem f36_7e:OP f36_7 f36_7l [0,1,2,7,13] []:=rfl
def f36_10l:List GI:=[vv 14 7,
    vo 6 14]
def f36_10:AC:=.ops [6] [] f36_10l
theorem f36_10e:OP f36_10 f36_10l [6] []:=rfl
def f36_9:AC:=.seq f36_10 .ret
theorem f36_9e:SQ f36_9 f36_10 .ret:=rfl
def f36_8:AC:=.cond (.r 13) f36_9 .skip
theorem f36_8e:CN f36_8 13 f36_9 .skip:=rfl
def f36_6:AC:=.seq f36_7 f36_8
theorem f36_6e:SQ f36_6 f36_7 f36_8:=rfl
def f36_4:AC:=.seq f36_5 f36_6
theorem f36_4e:SQ f36_4 f36_5 f36_6:=rfl
def f36_13h:List GI:=[vv 15 0,
    vv 16 1,
    vn 17 15,
    vd 18 17 3,
    ⟨none,.ixA (some 19) (.r 18) (.r 16) 64 1⟩,
    vl 20 19,
    vv 21 2,
    ⟨none,.bin (some 22) .num .add (.r 20) (.r 21)⟩,
    vv 23 0,
    vn 24 23,
    vd 25 24 0,
    vl 26 25]
def f36_13l:List GI:=[⟨none,.bin (some 27) .num .gtr (.r 22) (.r 26)⟩]
def f36_13:AC:=.draw [0,1,2,27] [] [] f36_13h f36_13l
theorem f36_13e:aC P id m f36_13 sf st Q = a9 P id sf.locs st f36_13h (cx P id m [] [0,1,2,27] [] f36_13l Q st) [] ⟨sf.regs,bu [] sf.locs⟩:=rfl
def f36_16l:List GI:=[⟨none,.mv (some 6) (.c (.lit (.int .i64 7)))⟩]
def f36_16:AC:=.ops [6] [] f36_16l
theorem f36_16e:OP f36_16 f36_16l [6] []:=rfl
def f36_15:AC:=.seq f36_16 .ret
theorem f36_15e:SQ f36_15 f36_16 .ret:=rfl
def f36_14:AC:=.cond (.r 27) f36_15 .skip
theorem f36_14e:CN f36_14 27 f36_15 .skip:=rfl
def f36_12:AC:=.seq f36_13 f36_14
theorem f36_12e:SQ f36_12 f36_13 f36_14:=rfl
def f36_19l:List GI:=[vv 28 0,
    vn 29 28,
    vd 30 29 67,
    vl 31 30,
    ⟨none,.call (some 32) false (.f 47) [(.r 31)]⟩,
    vb 33 .gtr 32 0,
    vv 34 33,
    ⟨some (34,false),.mv (some 35) (.r 2)⟩,
    ⟨some (34,false),.mv (some 36) (.r 0)⟩,
    ⟨some (34,false),.nilck (some 37) (.r 36)⟩,
    ⟨some (34,false),.addr (some 38) (.r 37) 1⟩,
    ⟨some (34,false),.load (some 39) (.r 38) none⟩,
    ⟨some (34,false),.bin (some 40) .num .gtr (.r 35) (.r 39)⟩,
    ⟨none,.pick (some 41) (.r 34) (.c (.lit (.bool true))) (.r 40)⟩]
def f36_19:AC:=.ops [0,1,2,41] [] f36_19l
theorem f36_19e:OP f36_19 f36_19l [0,1,2,41] []:=rfl
def f36_22l:List GI:=[⟨none,.mv (some 6) (.c (.lit (.int .i64 16)))⟩]
def f36_22:AC:=.ops [6] [] f36_22l
theorem f36_22e:OP f36_22 f36_22l [6] []:=rfl
def f36_21:AC:=.seq f36_22 .ret
theorem f36_21e:SQ f36_21 f36_22 .ret:=rfl
def f36_20:AC:=.cond (.r 41) f36_21 .skip
theorem f36_20e:CN f36_20 41 f36_21 .skip:=rfl
def f36_18:AC:=.seq f36_19 f36_20
theorem f36_18e:SQ f36_18 f36_19 f36_20:=rfl
def f36_24l:List GI:=[vv 42 0,
    vv 43 1,
    vv 44 2,
    ⟨none,.call (some 45) false (.f 63) [(.r 42),(.r 43),(.r 44)]⟩]
def f36_24:AC:=.ops [] [] f36_24l
theorem f36_24e:OP f36_24 f36_24l [] []:=rfl
def f36_26l:List GI:=[⟨none,.mv (some 6) (.c (.lit (.int .i64 0)))⟩]
def f36_26:AC:=.ops [6] [] f36_26l
theorem f36_26e:OP f36_26 f36_26l [6] []:=rfl
def f36_25:AC:=.seq f36_26 .ret
theorem f36_25e:SQ f36_25 f36_26 .ret:=rfl
def f36_23:AC:=.seq f36_24 f36_25
theorem f36_23e:SQ f36_23 f36_24 f36_25:=rfl
def f36_17:AC:=.seq f36_18 f36_23
theorem f36_17e:SQ f36_17 f36_18 f36_23:=rfl
def f36_11:AC:=.seq f36_12 f36_17
theorem f36_11e:SQ f36_11 f36_12 f36_17:=rfl
def f36_3:AC:=.seq f36_4 f36_11
theorem f36_3e:SQ f36_3 f36_4 f36_11:=rfl
def f36_1:AC:=.seq f36_2 f36_3
theorem f36_1e:SQ f36_1 f36_2 f36_3:=rfl
def c_f36:AFun:=⟨46,[.tmp 6],f36_1⟩
theorem k_f36:bT Go.Proofs.Try.prog x_f36 36 = some c_f36:=by kernel_rfl
theorem e_f36:aX Go.Proofs.Try.prog 36 = true:=by kernel_rfl

def n_f37:Nat:=37
def x_f37:Cx:=⟨some,id,31,fun s=>([0,1,2,6,7,8,9,10,11,12,13,15,17,21,22,24,25,26,27,29,30]:List Nat).contains s,fun s=>([]:List Nat).contains s,msOf [(2,[0,1,2],[]),(12,[0,1,2,8],[]),(26,[0,1,2,8,14],[]),(108,[6,7],[]),(28,[0,1,2,23],[]),(116,[6,7],[]),(30,[0],[]),(62,[6,7],[])]⟩
def f37_2l:List GI:=[⟨none,.mv (some 6) (.c (.lit (.slice none 0 0)))⟩,
    ⟨none,.mv (some 7) (.c (.lit (.int .i64 0)))⟩]
def f37_2:AC:=.ops [0,1,2] [] f37_2l
theorem f37_2e:OP f37_2 f37_2l [0,1,2] []:=rfl
def f37_5l:List GI:=[vv 9 0,
    vv 10 1,
    vv 11 2,
    ⟨none,.call (some 12) false (.f 61) [(.r 9),(.r 10),(.r 11)]⟩,
    vo 8 12]
def f37_5:AC:=.ops [0,1,2,8] [] f37_5l
theorem f37_5e:OP f37_5 f37_5l [0,1,2,8] []:=rfl
def f37_7l:List GI:=[vv 13 8,
    vb 14 .neq 13 0]
def f37_7:AC:=.ops [0,1,2,8,14] [] f37_7l
theorem f37_7e:OP f37_7 f37_7l [0,1,2,8,14] []:=rfl
def f37_10l:List GI:=[vv 15 8,
    ⟨none,.mv (some 6) (.c (.lit (.slice none 0 0)))⟩,
    vo 7 15]
def f37_10:AC:=.ops [6,7] [] f37_10l
theorem f37_10e:OP f37_10 f37_10l [6,7] []:=rfl
def f37_9:AC:=.seq f37_10 .ret
theorem f37_9e:SQ f37_9 f37_10 .ret:=rfl
def f37_8:AC:=.cond (.r 14) f37_9 .skip
theorem f37_8e:CN f37_8 14 f37_9 .skip:=rfl
def f37_6:AC:=.seq f37_7 f37_8
theorem f37_6e:SQ f37_6 f37_7 f37_8:=rfl
def f37_4:AC:=.seq f37_5 f37_6
theorem f37_4e:SQ f37_4 f37_5 f37_6:=rfl
def f37_13l:List GI:=[vv 16 0,
    vv 17 1,
    vn 18 16,
    vd 19 18 3,
    ⟨none,.ixA (some 20) (.r 19) (.r 17) 64 1⟩,
    vl 21 20,
    vv 22 2,
    ⟨none,.bin (some 23) .num .lss (.r 21) (.r 22)⟩]
def f37_13:AC:=.ops [0,1,2,23] [] f37_13l
theorem f37_13e:OP f37_13 f37_13l [0,1,2,23] []:=rfl
def f37_16l:List GI:=[⟨none,.mv (some 6) (.c (.lit (.slice none 0 0)))⟩,
    ⟨none,.mv (some 7) (.c (.lit (.int .i64 9)))⟩]
def f37_16:AC:=.ops [6,7] [] f37_16l
theorem f37_16e:OP f37_16 f37_16l [6,7] []:=rfl
def f37_15:AC:=.seq f37_16 .ret
theorem f37_15e:SQ f37_15 f37_16 .ret:=rfl
def f37_14:AC:=.cond (.r 23) f37_15 .skip
theorem f37_14e:CN f37_14 23 f37_15 .skip:=rfl
def f37_12:AC:=.seq f37_13 f37_14
theorem f37_12e:SQ f37_12 f37_13 f37_14:=rfl
def f37_18l:List GI:=[vv 24 0,
    vv 25 1,
    vv 26 2,
    ⟨none,.un (some 27) .neg (.r 26)⟩,
    ⟨none,.call (some 28) false (.f 63) [(.r 24),(.r 25),(.r 27)]⟩]
def f37_18:AC:=.ops [0] [] f37_18l
theorem f37_18e:OP f37_18 f37_18l [0] []:=rfl
def f37_20l:List GI:=[vv 29 0,
    ⟨none,.call (some 30) false (.f 64) [(.r 29),(.c (.lit (.slice none 0 0)))]⟩,
    vo 6 30,
    ⟨none,.mv (some 7) (.c (.lit (.int .i64 0)))⟩]
def f37_20:AC:=.ops [6,7] [] f37_20l
theorem f37_20e:OP f37_20 f37_20l [6,7] []:=rfl
def f37_19:AC:=.seq f37_20 .ret
theorem f37_19e:SQ f37_19 f37_20 .ret:=rfl
def f37_17:AC:=.seq f37_18 f37_19
theorem f37_17e:SQ f37_17 f37_18 f37_19:=rfl
def f37_11:AC:=.seq f37_12 f37_17
theorem f37_11e:SQ f37_11 f37_12 f37_17:=rfl
def f37_3:AC:=.seq f37_4 f37_11
theorem f37_3e:SQ f37_3 f37_4 f37_11:=rfl
def f37_1:AC:=.seq f37_2 f37_3
theorem f37_1e:SQ f37_1 f37_2 f37_3:=rfl
def c_f37:AFun:=⟨31,[.tmp 6,.tmp 7],f37_1⟩
theorem k_f37:bT Go.Proofs.Try.prog x_f37 37 = some c_f37:=by kernel_rfl
theorem e_f37:aX Go.Proofs.Try.prog 37 = true:=by kernel_rfl

def n_f38:Nat:=38
def x_f38:Cx:=⟨some,id,32,fun s=>([0,1,4,5,7,8,10,11,12,13,14,16,20,21,22,23,24,25,27,28,30,31]:List Nat).contains s,fun s=>([]:List Nat).contains s,msOf [(2,[0,1],[]),(12,[0,1,9],[]),(52,[4,5],[]),(28,[0,1,15],[]),(116,[4,5],[]),(60,[0,1,7],[]),(122,[0,1,26],[]),(492,[4,5],[]),(62,[0],[]),(126,[4,5],[])]⟩
def f38_2l:List GI:=[⟨none,.mv (some 4) (.c (.lit (.slice none 0 0)))⟩,
    ⟨none,.mv (some 5) (.c (.lit (.int .i64 0)))⟩]
def f38_2:AC:=.ops [0,1] [] f38_2l
theorem f38_2e:OP f38_2 f38_2l [0,1] []:=rfl
def f38_5l:List GI:=[vv 8 0,
    ⟨none,.call (some 9) false (.f 59) [(.r 8)]⟩]
def f38_5:AC:=.ops [0,1,9] [] f38_5l
theorem f38_5e:OP f38_5 f38_5l [0,1,9] []:=rfl
def f38_8l:List GI:=[⟨none,.mv (some 4) (.c (.lit (.slice none 0 0)))⟩,
    ⟨none,.mv (some 5) (.c (.lit (.int .i64 1)))⟩]
def f38_8:AC:=.ops [4,5] [] f38_8l
theorem f38_8e:OP f38_8 f38_8l [4,5] []:=rfl
def f38_7:AC:=.seq f38_8 .ret
theorem f38_7e:SQ f38_7 f38_8 .ret:=rfl
def f38_6:AC:=.cond (.r 9) f38_7 .skip
theorem f38_6e:CN f38_6 9 f38_7 .skip:=rfl
def f38_4:AC:=.seq f38_5 f38_6
theorem f38_4e:SQ f38_4 f38_5 f38_6:=rfl
def f38_11l:List GI:=[vv 10 1,
    vb 11 .lss 10 0,
    vv 12 11,
    ⟨some (12,false),.mv (some 13) (.r 1)⟩,
    ⟨some (12,false),.bin (some 14) .num .geq (.r 13) (.c (.lit (.int .i64 64)))⟩,
    ⟨none,.pick (some 15) (.r 12) (.c (.lit (.bool true))) (.r 14)⟩]
def f38_11:AC:=.ops [0,1,15] [] f38_11l
theorem f38_11e:OP f38_11 f38_11l [0,1,15] []:=rfl
def f38_14l:List GI:=[⟨none,.mv (some 4) (.c (.lit (.slice none 0 0)))⟩,
    ⟨none,.mv (some 5) (.c (.lit (.int .i64 2)))⟩]
def f38_14:AC:=.ops [4,5] [] f38_14l
theorem f38_14e:OP f38_14 f38_14l [4,5] []:=rfl
def f38_13:AC:=.seq f38_14 .ret
theorem f38_13e:SQ f38_13 f38_14 .ret:=rfl
def f38_12:AC:=.cond (.r 15) f38_13 .skip
theorem f38_12e:CN f38_12 15 f38_13 .skip:=rfl
def f38_10:AC:=.seq f38_11 f38_12
theorem f38_10e:SQ f38_10 f38_11 f38_12:=rfl
def f38_17l:List GI:=[vv 17 0,
    vn 18 17,
    vd 19 18 68,
    vl 20 19,
    vv 21 1,
    ⟨none,.lookup (some 22) (.int .i64) (.agg [(.lit (.int .i64 0)),(.lit (.int .u64 0)),(.lit (.int .u64 0))]) true (.r 20) (.r 21)⟩,
    vv 16 22,
    ve 23 16 0,
    ve 24 16 1,
    ⟨none,.newL 6 [(.lit (.int .i64 0)),(.lit (.int .u64 0)),(.lit (.int .u64 0))]⟩,
    ⟨none,.store 3 (.r 6) (.r 23)⟩,
    vo 7 24]
def f38_17:AC:=.ops [0,1,7] [] f38_17l
theorem f38_17e:OP f38_17 f38_17l [0,1,7] []:=rfl
def f38_19l:List GI:=[vv 25 7,
    ⟨none,.un (some 26) .not (.r 25)⟩]
def f38_19:AC:=.ops [0,1,26] [] f38_19l
theorem f38_19e:OP f38_19 f38_19l [0,1,26] []:=rfl
def f38_22l:List GI:=[⟨none,.mv (some 4) (.c (.lit (.slice none 0 0)))⟩,
    ⟨none,.mv (some 5) (.c (.lit (.int .i64 9)))⟩]
def f38_22:AC:=.ops [4,5] [] f38_22l
theorem f38_22e:OP f38_22 f38_22l [4,5] []:=rfl
def f38_21:AC:=.seq f38_22 .ret
theorem f38_21e:SQ f38_21 f38_22 .ret:=rfl
def f38_20:AC:=.cond (.r 26) f38_21 .skip
theorem f38_20e:CN f38_20 26 f38_21 .skip:=rfl
def f38_18:AC:=.seq f38_19 f38_20
theorem f38_18e:SQ f38_18 f38_19 f38_20:=rfl
def f38_16:AC:=.seq f38_17 f38_18
theorem f38_16e:SQ f38_16 f38_17 f38_18:=rfl
def f38_24l:List GI:=[vv 27 0,
    vv 28 1,
    ⟨none,.call (some 29) false (.f 65) [(.r 27),(.r 28)]⟩]
def f38_24:AC:=.ops [0] [] f38_24l
theorem f38_24e:OP f38_24 f38_24l [0] []:=rfl
def f38_26l:List GI:=[vv 30 0,
    ⟨none,.call (some 31) false (.f 64) [(.r 30),(.c (.lit (.slice none 0 0)))]⟩,
    vo 4 31,
    ⟨none,.mv (some 5) (.c (.lit (.int .i64 0)))⟩]
def f38_26:AC:=.ops [4,5] [] f38_26l
theorem f38_26e:OP f38_26 f38_26l [4,5] []:=rfl
def f38_25:AC:=.seq f38_26 .ret
theorem f38_25e:SQ f38_25 f38_26 .ret:=rfl
def f38_23:AC:=.seq f38_24 f38_25
theorem f38_23e:SQ f38_23 f38_24 f38_25:=rfl
def f38_15:AC:=.seq f38_16 f38_23
theorem f38_15e:SQ f38_15 f38_16 f38_23:=rfl
def f38_9:AC:=.seq f38_10 f38_15
theorem f38_9e:SQ f38_9 f38_10 f38_15:=rfl
def f38_3:AC:=.seq f38_4 f38_9
theorem f38_3e:SQ f38_3 f38_4 f38_9:=rfl
def f38_1:AC:=.seq f38_2 f38_3
theorem f38_1e:SQ f38_1 f38_2 f38_3:=rfl
def c_f38:AFun:=⟨32,[.tmp 4,.tmp 5],f38_1⟩
theorem k_f38:bT Go.Proofs.Try.prog x_f38 38 = some c_f38:=by kernel_rfl
theorem e_f38:aX Go.Proofs.Try.prog 38 = true:=by kernel_rfl

def n_f39:Nat:=39
def x_f39:Cx:=⟨some,id,62,fun s=>([0,1,4,5,6,7,9,10,12,16,17,18,19,20,22,23,24,25,27,28,29,30,31,32,35,39,40,41,42,43,45,46,48,49,50,51,52,53,54,55,56,58,61]:List Nat).contains s,fun s=>([52]:List Nat).contains s,msOf [(2,[0,1],[]),(12,[0,1,11],[]),(52,[4,5],[]),(28,[0,1,21],[]),(116,[4,5],[]),(30,[0,1,6],[]),(124,[0,1,6,7],[]),(250,[0,1,6,7],[]),(2000,[0,1,6,7,26],[]),(4003,[0,1,6],[]),(16016,[0,1,6,7,30,31,32],[]),(32034,[0,1,6,7,30,31,32],[]),(128136,[0,1,6,7,30,31,32,33],[]),(512549,[0,1,6],[]),(2050200,[0,1,6,7,9,30,31,32],[]),(4100402,[0,1,6,7,9,30,31,32,44],[]),(16401612,[0,1,6,7,9,30,31,32],[]),(16401613,[0,1,6,7,30,31,32],[]),(512551,[0,1,6,7,30,31,32],[]),(8009,[0,1,6],[]),(2003,[0,1,6,7],[]),(126,[6],[]),(254,[4,5],[])]⟩
def f39_2l:List GI:=[⟨none,.mv (some 4) (.c (.lit (.slice none 0 0)))⟩,
    ⟨none,.mv (some 5) (.c (.lit (.int .i64 0)))⟩]
def f39_2:AC:=.ops [0,1] [] f39_2l
theorem f39_2e:OP f39_2 f39_2l [0,1] []:=rfl
def f39_5l:List GI:=[vv 10 0,
    ⟨none,.call (some 11) false (.f 59) [(.r 10)]⟩]
def f39_5:AC:=.ops [0,1,11] [] f39_5l
theorem f39_5e:OP f39_5 f39_5l [0,1,11] []:=rfl
def f39_8l:List GI:=[⟨none,.mv (some 4) (.c (.lit (.slice none 0 0)))⟩,
    ⟨none,.mv (some 5) (.c (.lit (.int .i64 1)))⟩]
def f39_8:AC:=.ops [4,5] [] f39_8l
theorem f39_8e:OP f39_8 f39_8l [4,5] []:=rfl
def f39_7:AC:=.seq f39_8 .ret
theorem f39_7e:SQ f39_7 f39_8 .ret:=rfl
def f39_6:AC:=.cond (.r 11) f39_7 .skip
theorem f39_6e:CN f39_6 11 f39_7 .skip:=rfl
def f39_4:AC:=.seq f39_5 f39_6
theorem f39_4e:SQ f39_4 f39_5 f39_6:=rfl
def f39_11l:List GI:=[vv 12 1,
    vv 13 0,
    vn 14 13,
    vd 15 14 2,
    vl 16 15,
    ⟨none,.bin (some 17) .num .lss (.r 12) (.r 16)⟩,
    vv 18 17,
    ⟨some (18,false),.mv (some 19) (.r 1)⟩,
    ⟨some (18,false),.bin (some 20) .num .eql (.r 19) (.c (.lit (.int .u64 18446744073709551615)))⟩,
    ⟨none,.pick (some 21) (.r 18) (.c (.lit (.bool true))) (.r 20)⟩]
def f39_11:AC:=.ops [0,1,21] [] f39_11l
theorem f39_11e:OP f39_11 f39_11l [0,1,21] []:=rfl
def f39_14l:List GI:=[⟨none,.mv (some 4) (.c (.lit (.slice none 0 0)))⟩,
    ⟨none,.mv (some 5) (.c (.lit (.int .i64 3)))⟩]
def f39_14:AC:=.ops [4,5] [] f39_14l
theorem f39_14e:OP f39_14 f39_14l [4,5] []:=rfl
def f39_13:AC:=.seq f39_14 .ret
theorem f39_13e:SQ f39_13 f39_14 .ret:=rfl
def f39_12:AC:=.cond (.r 21) f39_13 .skip
theorem f39_12e:CN f39_12 21 f39_13 .skip:=rfl
def f39_10:AC:=.seq f39_11 f39_12
theorem f39_10e:SQ f39_10 f39_11 f39_12:=rfl
def f39_16l:List GI:=[⟨none,.mv (some 6) (.c (.lit (.slice none 0 0)))⟩]
def f39_16:AC:=.ops [0,1,6] [] f39_16l
theorem f39_16e:OP f39_16 f39_16l [0,1,6] []:=rfl
def f39_19l:List GI:=[vv 22 0,
    ⟨none,.call (some 23) false (.f 42) [(.r 22)]⟩,
    vo 7 23]
def f39_19:AC:=.ops [0,1,6,7] [] f39_19l
theorem f39_19e:OP f39_19 f39_19l [0,1,6,7] []:=rfl
def f39_24l:List GI:=[vv 24 7,
    vv 25 1,
    ⟨none,.bin (some 26) .num .leq (.r 24) (.r 25)⟩]
def f39_24:AC:=.ops [0,1,6,7,26] [] f39_24l
theorem f39_24e:OP f39_24 f39_24l [0,1,6,7,26] []:=rfl
def f39_25:AC:=.cond (.r 26) .skip (.exit [0,1,6] [] 0)
theorem f39_25e:CN f39_25 26 .skip (.exit [0,1,6] [] 0):=rfl
def f39_23:AC:=.seq f39_24 f39_25
theorem f39_23e:SQ f39_23 f39_24 f39_25:=rfl
def f39_30l:List GI:=[vv 29 0,
    ⟨none,.call (some 30) false (.f 34) [(.r 29)]⟩,
    ⟨none,.len (some 31) .sl (.r 30)⟩,
    ⟨none,.mv (some 32) (.c (.lit (.int .i64 0)))⟩]
def f39_30:AC:=.ops [0,1,6,7,30,31,32] [] f39_30l
theorem f39_30e:OP f39_30 f39_30l [0,1,6,7,30,31,32] []:=rfl
def f39_34l:List GI:=[⟨none,.bin (some 33) .num .lss (.r 32) (.r 31)⟩]
def f39_34:AC:=.ops [0,1,6,7,30,31,32,33] [] f39_34l
theorem f39_34e:OP f39_34 f39_34l [0,1,6,7,30,31,32,33] []:=rfl
def f39_36:AC:=.cond (.r 33) .skip (.exit [0,1,6] [] 2)
theorem f39_36e:CN f39_36 33 .skip (.exit [0,1,6] [] 2):=rfl
def f39_40l:List GI:=[⟨none,.ixS (some 34) (.r 30) (.r 32) 1⟩,
    vl 35 34,
    vo 9 35]
def f39_40:AC:=.ops [0,1,6,7,9,30,31,32] [] f39_40l
theorem f39_40e:OP f39_40 f39_40l [0,1,6,7,9,30,31,32] []:=rfl
def f39_42l:List GI:=[vv 36 0,
    vn 37 36,
    vd 38 37 68,
    vl 39 38,
    vv 40 9,
    ⟨none,.lookup (some 41) (.int .i64) (.agg [(.lit (.int .i64 0)),(.lit (.int .u64 0)),(.lit (.int .u64 0))]) false (.r 39) (.r 40)⟩,
    ⟨none,.field (some 42) (.r 41) 1 none⟩,
    vv 43 7,
    ⟨none,.bin (some 44) .num .eql (.r 42) (.r 43)⟩]
def f39_42:AC:=.ops [0,1,6,7,9,30,31,32,44] [] f39_42l
theorem f39_42e:OP f39_42 f39_42l [0,1,6,7,9,30,31,32,44] []:=rfl
def f39_45l:List GI:=[vv 45 0,
    vv 46 9,
    ⟨none,.call (some 47) false (.f 65) [(.r 45),(.r 46)]⟩]
def f39_45:AC:=.ops [0,1,6,7,9,30,31,32] [] f39_45l
theorem f39_45e:OP f39_45 f39_45l [0,1,6,7,9,30,31,32] []:=rfl
def f39_46l:List GI:=[vo 48 6,
    vv 49 9,
    ⟨none,.bst (some 50) [(0,1),(1,1)] (.agg [(.lit (.int .i64 0)),(.lit (.int .i64 0))]) [(0,(.r 49)),(1,(.c (.lit (.int .i64 12))))]⟩,
    ⟨none,.bsl (some 51) 2 1 (.agg [(.lit (.int .i64 0)),(.lit (.int .i64 0))]) [(0,(.r 50))]⟩,
    ⟨none,.x (some 52) (.appB (.r 48) 2 16 (.r 51))⟩,
    vo 6 52]
def f39_46:AC:=.ops [0,1,6,7,30,31,32] [] f39_46l
theorem f39_46e:OP f39_46 f39_46l [0,1,6,7,30,31,32] []:=rfl
def f39_44:AC:=.seq f39_45 f39_46
theorem f39_44e:SQ f39_44 f39_45 f39_46:=rfl
def f39_43:AC:=.cond (.r 44) f39_44 .skip
theorem f39_43e:CN f39_43 44 f39_44 .skip:=rfl
def f39_41:AC:=.seq f39_42 f39_43
theorem f39_41e:SQ f39_41 f39_42 f39_43:=rfl
def f39_39:AC:=.seq f39_40 f39_41
theorem f39_39e:SQ f39_39 f39_40 f39_41:=rfl
def f39_38:AC:=.block 3 f39_39
theorem f39_38e:BL f39_38 f39_39 3:=rfl
def f39_47l:List GI:=[vb 53 .add 32 1,
    vv 32 53]
def f39_47:AC:=.ops [0,1,6,7,30,31,32] [] f39_47l
theorem f39_47e:OP f39_47 f39_47l [0,1,6,7,30,31,32] []:=rfl
def f39_37:AC:=.seq f39_38 f39_47
theorem f39_37e:SQ f39_37 f39_38 f39_47:=rfl
def f39_35:AC:=.seq f39_36 f39_37
theorem f39_35e:SQ f39_35 f39_36 f39_37:=rfl
def f39_33:AC:=.seq f39_34 f39_35
theorem f39_33e:SQ f39_33 f39_34 f39_35:=rfl
def f39_32:AC:=.loop [0,1,6,7,30,31,32] [] f39_33
theorem f39_32w:aC P id m f39_32 sf st Q = cd (aC P id m f39_33) [0,1,6,7,30,31,32] [] sf st Q:=rfl
def f39_31:AC:=.block 2 f39_32
theorem f39_31e:BL f39_31 f39_32 2:=rfl
def f39_29:AC:=.seq f39_30 f39_31
theorem f39_29e:SQ f39_29 f39_30 f39_31:=rfl
def f39_48l:List GI:=[vv 54 0,
    vv 55 6,
    ⟨none,.call (some 56) false (.f 64) [(.r 54),(.r 55)]⟩,
    vo 6 56]
def f39_48:AC:=.ops [0,1,6] [] f39_48l
theorem f39_48e:OP f39_48 f39_48l [0,1,6] []:=rfl
def f39_28:AC:=.seq f39_29 f39_48
theorem f39_28e:SQ f39_28 f39_29 f39_48:=rfl
def f39_27:AC:=.block 1 f39_28
theorem f39_27e:BL f39_27 f39_28 1:=rfl
def f39_49l:List GI:=[vv 27 0,
    ⟨none,.call (some 28) false (.f 42) [(.r 27)]⟩,
    vo 7 28]
def f39_49:AC:=.ops [0,1,6,7] [] f39_49l
theorem f39_49e:OP f39_49 f39_49l [0,1,6,7] []:=rfl
def f39_26:AC:=.seq f39_27 f39_49
theorem f39_26e:SQ f39_26 f39_27 f39_49:=rfl
def f39_22:AC:=.seq f39_23 f39_26
theorem f39_22e:SQ f39_22 f39_23 f39_26:=rfl
def f39_21:AC:=.loop [0,1,6,7] [] f39_22
theorem f39_21w:aC P id m f39_21 sf st Q = cd (aC P id m f39_22) [0,1,6,7] [] sf st Q:=rfl
def f39_20:AC:=.block 0 f39_21
theorem f39_20e:BL f39_20 f39_21 0:=rfl
def f39_18:AC:=.seq f39_19 f39_20
theorem f39_18e:SQ f39_18 f39_19 f39_20:=rfl
def f39_51l:List GI:=[vv 57 0,
    vv 58 1,
    vn 59 57,
    vd 60 59 2,
    ⟨none,.store 1 (.r 60) (.r 58)⟩]
def f39_51:AC:=.ops [6] [] f39_51l
theorem f39_51e:OP f39_51 f39_51l [6] []:=rfl
def f39_53l:List GI:=[vv 61 6,
    vo 4 61,
    ⟨none,.mv (some 5) (.c (.lit (.int .i64 0)))⟩]
def f39_53:AC:=.ops [4,5] [] f39_53l
theorem f39_53e:OP f39_53 f39_53l [4,5] []:=rfl
def f39_52:AC:=.seq f39_53 .ret
theorem f39_52e:SQ f39_52 f39_53 .ret:=rfl
def f39_50:AC:=.seq f39_51 f39_52
theorem f39_50e:SQ f39_50 f39_51 f39_52:=rfl
def f39_17:AC:=.seq f39_18 f39_50
theorem f39_17e:SQ f39_17 f39_18 f39_50:=rfl
def f39_15:AC:=.seq f39_16 f39_17
theorem f39_15e:SQ f39_15 f39_16 f39_17:=rfl
def f39_9:AC:=.seq f39_10 f39_15
theorem f39_9e:SQ f39_9 f39_10 f39_15:=rfl
def f39_3:AC:=.seq f39_4 f39_9
theorem f39_3e:SQ f39_3 f39_4 f39_9:=rfl
def f39_1:AC:=.seq f39_2 f39_3
theorem f39_1e:SQ f39_1 f39_2 f39_3:=rfl
def c_f39:AFun:=⟨62,[.tmp 4,.tmp 5],f39_1⟩
theorem k_f39:bT Go.Proofs.Try.prog x_f39 39 = some c_f39:=by kernel_rfl
theorem e_f39:aX Go.Proofs.Try.prog 39 = true:=by kernel_rfl

def n_f40:Nat:=40
def x_f40:Cx:=⟨some,id,21,fun s=>([0,1,4,5,6,7,8,9,10,11,12,13,16,20]:List Nat).contains s,fun s=>([]:List Nat).contains s,msOf [(2,[0,1],[]),(12,[0,1,14],[]),(52,[4],[]),(14,[4],[])]⟩
def f40_2l:List GI:=[⟨none,.mv (some 4) (.c (.lit (.int .i64 0)))⟩]
def f40_2:AC:=.ops [0,1] [] f40_2l
theorem f40_2e:OP f40_2 f40_2l [0,1] []:=rfl
def f40_5l:List GI:=[vv 5 0,
    ⟨none,.call (some 6) false (.f 59) [(.r 5)]⟩,
    vv 7 6,
    ⟨some (7,false),.mv (some 8) (.r 1)⟩,
    ⟨some (7,false),.bin (some 9) .num .lss (.r 8) (.c (.lit (.int .i64 0)))⟩,
    ⟨none,.pick (some 10) (.r 7) (.c (.lit (.bool true))) (.r 9)⟩,
    vv 11 10,
    ⟨some (11,false),.mv (some 12) (.r 1)⟩,
    ⟨some (11,false),.bin (some 13) .num .geq (.r 12) (.c (.lit (.int .i64 64)))⟩,
    ⟨none,.pick (some 14) (.r 11) (.c (.lit (.bool true))) (.r 13)⟩]
def f40_5:AC:=.ops [0,1,14] [] f40_5l
theorem f40_5e:OP f40_5 f40_5l [0,1,14] []:=rfl
def f40_8l:List GI:=[⟨none,.mv (some 4) (.c (.lit (.int .i64 0)))⟩]
def f40_8:AC:=.ops [4] [] f40_8l
theorem f40_8e:OP f40_8 f40_8l [4] []:=rfl
def f40_7:AC:=.seq f40_8 .ret
theorem f40_7e:SQ f40_7 f40_8 .ret:=rfl
def f40_6:AC:=.cond (.r 14) f40_7 .skip
theorem f40_6e:CN f40_6 14 f40_7 .skip:=rfl
def f40_4:AC:=.seq f40_5 f40_6
theorem f40_4e:SQ f40_4 f40_5 f40_6:=rfl
def f40_10l:List GI:=[vv 15 0,
    vv 16 1,
    vn 17 15,
    vd 18 17 3,
    ⟨none,.ixA (some 19) (.r 18) (.r 16) 64 1⟩,
    vl 20 19,
    vo 4 20]
def f40_10:AC:=.ops [4] [] f40_10l
theorem f40_10e:OP f40_10 f40_10l [4] []:=rfl
def f40_9:AC:=.seq f40_10 .ret
theorem f40_9e:SQ f40_9 f40_10 .ret:=rfl
def f40_3:AC:=.seq f40_4 f40_9
theorem f40_3e:SQ f40_3 f40_4 f40_9:=rfl
def f40_1:AC:=.seq f40_2 f40_3
theorem f40_1e:SQ f40_1 f40_2 f40_3:=rfl
def c_f40:AFun:=⟨21,[.tmp 4],f40_1⟩
theorem k_f40:bT Go.Proofs.Try.prog x_f40 40 = some c_f40:=by kernel_rfl
theorem e_f40:aX Go.Proofs.Try.prog 40 = true:=by kernel_rfl

def n_f41:Nat:=41
def x_f41:Cx:=⟨some,id,9,fun s=>([0,2,3,8]:List Nat).contains s,fun s=>([]:List Nat).contains s,msOf [(2,[0],[]),(12,[0,4],[]),(52,[2],[]),(14,[2],[])]⟩
def f41_2l:List GI:=[⟨none,.mv (some 2) (.c (.lit (.int .i64 0)))⟩]
def f41_2:AC:=.ops [0] [] f41_2l
theorem f41_2e:OP f41_2 f41_2l [0] []:=rfl
def f41_5l:List GI:=[vv 3 0,
    ⟨none,.call (some 4) false (.f 59) [(.r 3)]⟩]
def f41_5:AC:=.ops [0,4] [] f41_5l
theorem f41_5e:OP f41_5 f41_5l [0,4] []:=rfl
def f41_8l:List GI:=[⟨none,.mv (some 2) (.c (.lit (.int .i64 0)))⟩]
def f41_8:AC:=.ops [2] [] f41_8l
theorem f41_8e:OP f41_8 f41_8l [2] []:=rfl
def f41_7:AC:=.seq f41_8 .ret
theorem f41_7e:SQ f41_7 f41_8 .ret:=rfl
def f41_6:AC:=.cond (.r 4) f41_7 .skip
theorem f41_6e:CN f41_6 4 f41_7 .skip:=rfl
def f41_4:AC:=.seq f41_5 f41_6
theorem f41_4e:SQ f41_4 f41_5 f41_6:=rfl
def f41_10l:List GI:=[vv 5 0,
    vn 6 5,
    vd 7 6 1,
    vl 8 7,
    vo 2 8]
def f41_10:AC:=.ops [2] [] f41_10l
theorem f41_10e:OP f41_10 f41_10l [2] []:=rfl
def f41_9:AC:=.seq f41_10 .ret
theorem f41_9e:SQ f41_9 f41_10 .ret:=rfl
def f41_3:AC:=.seq f41_4 f41_9
theorem f41_3e:SQ f41_3 f41_4 f41_9:=rfl
def f41_1:AC:=.seq f41_2 f41_3
theorem f41_1e:SQ f41_1 f41_2 f41_3:=rfl
def c_f41:AFun:=⟨9,[.tmp 2],f41_1⟩
theorem k_f41:bT Go.Proofs.Try.prog x_f41 41 = some c_f41:=by kernel_rfl
theorem e_f41:aX Go.Proofs.Try.prog 41 = true:=by kernel_rfl

def n_f42:Nat:=42
def x_f42:Cx:=⟨some,id,23,fun s=>([0,2,3,6,11,12,13,15,16,17,19,20,21,22]:List Nat).contains s,fun s=>([]:List Nat).contains s,msOf [(2,[0],[]),(12,[0,7],[]),(52,[2],[]),(14,[0,3],[]),(60,[3,12],[]),(122,[3,12],[]),(488,[3,12,14],[]),(1957,[3],[]),(3916,[3,5,12],[5]),(3917,[3,12],[]),(62,[2],[])]⟩
def f42_2l:List GI:=[⟨none,.mv (some 2) (.c (.lit (.int .u64 0)))⟩]
def f42_2:AC:=.ops [0] [] f42_2l
theorem f42_2e:OP f42_2 f42_2l [0] []:=rfl
def f42_5l:List GI:=[vv 6 0,
    ⟨none,.call (some 7) false (.f 59) [(.r 6)]⟩]
def f42_5:AC:=.ops [0,7] [] f42_5l
theorem f42_5e:OP f42_5 f42_5l [0,7] []:=rfl
def f42_8l:List GI:=[⟨none,.mv (some 2) (.c (.lit (.int .u64 18446744073709551615)))⟩]
def f42_8:AC:=.ops [2] [] f42_8l
theorem f42_8e:OP f42_8 f42_8l [2] []:=rfl
def f42_7:AC:=.seq f42_8 .ret
theorem f42_7e:SQ f42_7 f42_8 .ret:=rfl
def f42_6:AC:=.cond (.r 7) f42_7 .skip
theorem f42_6e:CN f42_6 7 f42_7 .skip:=rfl
def f42_4:AC:=.seq f42_5 f42_6
theorem f42_4e:SQ f42_4 f42_5 f42_6:=rfl
def f42_10l:List GI:=[⟨none,.mv (some 3) (.c (.lit (.int .u64 18446744073709551615)))⟩]
def f42_10:AC:=.ops [0,3] [] f42_10l
theorem f42_10e:OP f42_10 f42_10l [0,3] []:=rfl
def f42_13l:List GI:=[vv 8 0,
    vn 9 8,
    vd 10 9 68,
    vl 11 10,
    ⟨none,.x (some 12) (.rng (.r 11))⟩]
def f42_13:AC:=.ops [3,12] [] f42_13l
theorem f42_13e:OP f42_13 f42_13l [3,12] []:=rfl
def f42_17l:List GI:=[⟨none,.x (some 13) (.nxt 12)⟩,
    ve 14 13 0]
def f42_17:AC:=.ops [3,12,14] [] f42_17l
theorem f42_17e:OP f42_17 f42_17l [3,12,14] []:=rfl
def f42_19:AC:=.cond (.r 14) .skip (.exit [3] [] 0)
theorem f42_19e:CN f42_19 14 .skip (.exit [3] [] 0):=rfl
def f42_22l:List GI:=[⟨none,.x (some 15) (.ent 12)⟩,
    ve 16 15 1,
    ⟨none,.newL 5 [(.lit (.int .i64 0)),(.lit (.int .u64 0)),(.lit (.int .u64 0))]⟩,
    ⟨none,.store 3 (.r 5) (.r 16)⟩]
def f42_22:AC:=.ops [3,5,12] [5] f42_22l
theorem f42_22e:OP f42_22 f42_22l [3,5,12] [5]:=rfl
def f42_23l:List GI:=[vv 17 3,
    vd 18 5 1,
    vl 19 18,
    ⟨none,.bsl (some 20) 1 2 (.lit (.int .u64 0)) [(0,(.r 17)),(1,(.r 19))]⟩,
    ⟨none,.call (some 21) false (.f 66) [(.r 20)]⟩,
    vo 3 21]
def f42_23:AC:=.ops [3,12] [] f42_23l
theorem f42_23e:OP f42_23 f42_23l [3,12] []:=rfl
def f42_21:AC:=.seq f42_22 f42_23
theorem f42_21e:SQ f42_21 f42_22 f42_23:=rfl
def f42_20:AC:=.block 1 f42_21
theorem f42_20e:BL f42_20 f42_21 1:=rfl
def f42_18:AC:=.seq f42_19 f42_20
theorem f42_18e:SQ f42_18 f42_19 f42_20:=rfl
def f42_16:AC:=.seq f42_17 f42_18
theorem f42_16e:SQ f42_16 f42_17 f42_18:=rfl
def f42_15:AC:=.loop [3,12] [] f42_16
theorem f42_15w:aC P id m f42_15 sf st Q = cd (aC P id m f42_16) [3,12] [] sf st Q:=rfl
def f42_14:AC:=.block 0 f42_15
theorem f42_14e:BL f42_14 f42_15 0:=rfl
def f42_12:AC:=.seq f42_13 f42_14
theorem f42_12e:SQ f42_12 f42_13 f42_14:=rfl
def f42_25l:List GI:=[vv 22 3,
    vo 2 22]
def f42_25:AC:=.ops [2] [] f42_25l
theorem f42_25e:OP f42_25 f42_25l [2] []:=rfl
def f42_24:AC:=.seq f42_25 .ret
theorem f42_24e:SQ f42_24 f42_25 .ret:=rfl
def f42_11:AC:=.seq f42_12 f42_24
theorem f42_11e:SQ f42_11 f42_12 f42_24:=rfl
def f42_9:AC:=.seq f42_10 f42_11
theorem f42_9e:SQ f42_9 f42_10 f42_11:=rfl
def f42_3:AC:=.seq f42_4 f42_9
theorem f42_3e:SQ f42_3 f42_4 f42_9:=rfl
def f42_1:AC:=.seq f42_2 f42_3
theorem f42_1e:SQ f42_1 f42_2 f42_3:=rfl
def c_f42:AFun:=⟨23,[.tmp 2],f42_1⟩
theorem k_f42:bT Go.Proofs.Try.prog x_f42 42 = some c_f42:=by kernel_rfl
theorem e_f42:aX Go.Proofs.Try.prog 42 = true:=by kernel_rfl

def n_f43:Nat:=43
def x_f43:Cx:=⟨some,id,9,fun s=>([0,2,3,8]:List Nat).contains s,fun s=>([]:List Nat).contains s,msOf [(2,[0],[]),(12,[0,4],[]),(52,[2],[]),(14,[2],[])]⟩
def f43_2l:List GI:=[⟨none,.mv (some 2) (.c (.lit (.int .u64 0)))⟩]
def f43_2:AC:=.ops [0] [] f43_2l
theorem f43_2e:OP f43_2 f43_2l [0] []:=rfl
def f43_5l:List GI:=[vv 3 0,
    ⟨none,.call (some 4) false (.f 59) [(.r 3)]⟩]
def f43_5:AC:=.ops [0,4] [] f43_5l
theorem f43_5e:OP f43_5 f43_5l [0,4] []:=rfl
def f43_8l:List GI:=[⟨none,.mv (some 2) (.c (.lit (.int .u64 0)))⟩]
def f43_8:AC:=.ops [2] [] f43_8l
theorem f43_8e:OP f43_8 f43_8l [2] []:=rfl
def f43_7:AC:=.seq f43_8 .ret
theorem f43_7e:SQ f43_7 f43_8 .ret:=rfl
def f43_6:AC:=.cond (.r 4) f43_7 .skip
theorem f43_6e:CN f43_6 4 f43_7 .skip:=rfl
def f43_4:AC:=.seq f43_5 f43_6
theorem f43_4e:SQ f43_4 f43_5 f43_6:=rfl
def f43_10l:List GI:=[vv 5 0,
    vn 6 5,
    vd 7 6 2,
    vl 8 7,
    vo 2 8]
def f43_10:AC:=.ops [2] [] f43_10l
theorem f43_10e:OP f43_10 f43_10l [2] []:=rfl
def f43_9:AC:=.seq f43_10 .ret
theorem f43_9e:SQ f43_9 f43_10 .ret:=rfl
def f43_3:AC:=.seq f43_4 f43_9
theorem f43_3e:SQ f43_3 f43_4 f43_9:=rfl
def f43_1:AC:=.seq f43_2 f43_3
theorem f43_1e:SQ f43_1 f43_2 f43_3:=rfl
def c_f43:AFun:=⟨9,[.tmp 2],f43_1⟩
theorem k_f43:bT Go.Proofs.Try.prog x_f43 43 = some c_f43:=by kernel_rfl
theorem e_f43:aX Go.Proofs.Try.prog 43 = true:=by kernel_rfl

def n_f44:Nat:=44
def x_f44:Cx:=⟨some,id,33,fun s=>([0,2,3,4,6,10,14,15,17,22,23,24,26,27,28,30,31,32]:List Nat).contains s,fun s=>([]:List Nat).contains s,msOf [(2,[0],[]),(12,[0,7],[]),(52,[2],[]),(14,[0,3],[]),(30,[0,3],[]),(62,[0,3],[]),(252,[3,23],[]),(506,[3,23],[]),(2024,[3,23,25],[]),(8101,[3],[]),(16204,[3,4,5,23],[5]),(16205,[3,23],[]),(254,[2],[])]⟩
def f44_2l:List GI:=[⟨none,.mv (some 2) (.c (.lit (.pointer none)))⟩]
def f44_2:AC:=.ops [0] [] f44_2l
theorem f44_2e:OP f44_2 f44_2l [0] []:=rfl
def f44_5l:List GI:=[vv 6 0,
    ⟨none,.call (some 7) false (.f 59) [(.r 6)]⟩]
def f44_5:AC:=.ops [0,7] [] f44_5l
theorem f44_5e:OP f44_5 f44_5l [0,7] []:=rfl
def f44_8l:List GI:=[⟨none,.mv (some 2) (.c (.lit (.pointer none)))⟩]
def f44_8:AC:=.ops [2] [] f44_8l
theorem f44_8e:OP f44_8 f44_8l [2] []:=rfl
def f44_7:AC:=.seq f44_8 .ret
theorem f44_7e:SQ f44_7 f44_8 .ret:=rfl
def f44_6:AC:=.cond (.r 7) f44_7 .skip
theorem f44_6e:CN f44_6 7 f44_7 .skip:=rfl
def f44_4:AC:=.seq f44_5 f44_6
theorem f44_4e:SQ f44_4 f44_5 f44_6:=rfl
def f44_10l:List GI:=[vv 8 0,
    vn 9 8,
    ⟨none,.load (some 10) (.r 9) (some 69)⟩,
    ⟨none,.newB 3 [(.lit (.int .i64 0)),(.lit (.int .i64 0)),(.lit (.int .u64 0)),(.lit (.int .i64 0)),(.lit (.int .i64 0)),(.lit (.int .i64 0)),(.lit (.int .i64 0)),(.lit (.int .i64 0)),(.lit (.int .i64 0)),(.lit (.int .i64 0)),(.lit (.int .i64 0)),(.lit (.int .i64 0)),(.lit (.int .i64 0)),(.lit (.int .i64 0)),(.lit (.int .i64 0)),(.lit (.int .i64 0)),(.lit (.int .i64 0)),(.lit (.int .i64 0)),(.lit (.int .i64 0)),(.lit (.int .i64 0)),(.lit (.int .i64 0)),(.lit (.int .i64 0)),(.lit (.int .i64 0)),(.lit (.int .i64 0)),(.lit (.int .i64 0)),(.lit (.int .i64 0)),(.lit (.int .i64 0)),(.lit (.int .i64 0)),(.lit (.int .i64 0)),(.lit (.int .i64 0)),(.lit (.int .i64 0)),(.lit (.int .i64 0)),(.lit (.int .i64 0)),(.lit (.int .i64 0)),(.lit (.int .i64 0)),(.lit (.int .i64 0)),(.lit (.int .i64 0)),(.lit (.int .i64 0)),(.lit (.int .i64 0)),(.lit (.int .i64 0)),(.lit (.int .i64 0)),(.lit (.int .i64 0)),(.lit (.int .i64 0)),(.lit (.int .i64 0)),(.lit (.int .i64 0)),(.lit (.int .i64 0)),(.lit (.int .i64 0)),(.lit (.int .i64 0)),(.lit (.int .i64 0)),(.lit (.int .i64 0)),(.lit (.int .i64 0)),(.lit (.int .i64 0)),(.lit (.int .i64 0)),(.lit (.int .i64 0)),(.lit (.int .i64 0)),(.lit (.int .i64 0)),(.lit (.int .i64 0)),(.lit (.int .i64 0)),(.lit (.int .i64 0)),(.lit (.int .i64 0)),(.lit (.int .i64 0)),(.lit (.int .i64 0)),(.lit (.int .i64 0)),(.lit (.int .i64 0)),(.lit (.int .i64 0)),(.lit (.int .i64 0)),(.lit (.int .i64 0)),(.lit (.pointer none)),(.lit (.map none))]⟩,
    ⟨none,.store 69 (.r 3) (.r 10)⟩]
def f44_10:AC:=.ops [0,3] [] f44_10l
theorem f44_10e:OP f44_10 f44_10l [0,3] []:=rfl
def f44_12l:List GI:=[vv 11 0,
    vn 12 11,
    vd 13 12 67,
    vl 14 13,
    ⟨none,.call (some 15) false (.f 67) [(.r 14)]⟩,
    vd 16 3 67,
    ⟨none,.store 1 (.r 16) (.r 15)⟩]
def f44_12:AC:=.ops [0,3] [] f44_12l
theorem f44_12e:OP f44_12 f44_12l [0,3] []:=rfl
def f44_14l:List GI:=[⟨none,.mkmap 17⟩,
    vd 18 3 68,
    ⟨none,.store 1 (.r 18) (.r 17)⟩]
def f44_14:AC:=.ops [0,3] [] f44_14l
theorem f44_14e:OP f44_14 f44_14l [0,3] []:=rfl
def f44_17l:List GI:=[vv 19 0,
    vn 20 19,
    vd 21 20 68,
    vl 22 21,
    ⟨none,.x (some 23) (.rng (.r 22))⟩]
def f44_17:AC:=.ops [3,23] [] f44_17l
theorem f44_17e:OP f44_17 f44_17l [3,23] []:=rfl
def f44_21l:List GI:=[⟨none,.x (some 24) (.nxt 23)⟩,
    ve 25 24 0]
def f44_21:AC:=.ops [3,23,25] [] f44_21l
theorem f44_21e:OP f44_21 f44_21l [3,23,25] []:=rfl
def f44_23:AC:=.cond (.r 25) .skip (.exit [3] [] 0)
theorem f44_23e:CN f44_23 25 .skip (.exit [3] [] 0):=rfl
def f44_26l:List GI:=[⟨none,.x (some 26) (.ent 23)⟩,
    ve 27 26 0,
    ve 28 26 1,
    ⟨none,.newL 5 [(.lit (.int .i64 0)),(.lit (.int .u64 0)),(.lit (.int .u64 0))]⟩,
    vo 4 27,
    ⟨none,.store 3 (.r 5) (.r 28)⟩]
def f44_26:AC:=.ops [3,4,5,23] [5] f44_26l
theorem f44_26e:OP f44_26 f44_26l [3,4,5,23] [5]:=rfl
def f44_27l:List GI:=[vd 29 3 68,
    vl 30 29,
    vv 31 4,
    ⟨none,.load (some 32) (.r 5) (some 3)⟩,
    ⟨none,.upd (.int .i64) (.r 30) (.r 31) (.r 32)⟩]
def f44_27:AC:=.ops [3,23] [] f44_27l
theorem f44_27e:OP f44_27 f44_27l [3,23] []:=rfl
def f44_25:AC:=.seq f44_26 f44_27
theorem f44_25e:SQ f44_25 f44_26 f44_27:=rfl
def f44_24:AC:=.block 1 f44_25
theorem f44_24e:BL f44_24 f44_25 1:=rfl
def f44_22:AC:=.seq f44_23 f44_24
theorem f44_22e:SQ f44_22 f44_23 f44_24:=rfl
def f44_20:AC:=.seq f44_21 f44_22
theorem f44_20e:SQ f44_20 f44_21 f44_22:=rfl
def f44_19:AC:=.loop [3,23] [] f44_20
theorem f44_19w:aC P id m f44_19 sf st Q = cd (aC P id m f44_20) [3,23] [] sf st Q:=rfl
def f44_18:AC:=.block 0 f44_19
theorem f44_18e:BL f44_18 f44_19 0:=rfl
def f44_16:AC:=.seq f44_17 f44_18
theorem f44_16e:SQ f44_16 f44_17 f44_18:=rfl
def f44_29l:List GI:=[vo 2 3]
def f44_29:AC:=.ops [2] [] f44_29l
theorem f44_29e:OP f44_29 f44_29l [2] []:=rfl
def f44_28:AC:=.seq f44_29 .ret
theorem f44_28e:SQ f44_28 f44_29 .ret:=rfl
def f44_15:AC:=.seq f44_16 f44_28
theorem f44_15e:SQ f44_15 f44_16 f44_28:=rfl
def f44_13:AC:=.seq f44_14 f44_15
theorem f44_13e:SQ f44_13 f44_14 f44_15:=rfl
def f44_11:AC:=.seq f44_12 f44_13
theorem f44_11e:SQ f44_11 f44_12 f44_13:=rfl
def f44_9:AC:=.seq f44_10 f44_11
theorem f44_9e:SQ f44_9 f44_10 f44_11:=rfl
def f44_3:AC:=.seq f44_4 f44_9
theorem f44_3e:SQ f44_3 f44_4 f44_9:=rfl
def f44_1:AC:=.seq f44_2 f44_3
theorem f44_1e:SQ f44_1 f44_2 f44_3:=rfl
def c_f44:AFun:=⟨33,[.tmp 2],f44_1⟩
theorem k_f44:bT Go.Proofs.Try.prog x_f44 44 = some c_f44:=by kernel_rfl
theorem e_f44:aX Go.Proofs.Try.prog 44 = true:=by kernel_rfl

def n_f45:Nat:=45
def x_f45:Cx:=⟨some,id,4,fun s=>([0,1,2,3]:List Nat).contains s,fun s=>([]:List Nat).contains s,msOf [(2,[],[]),(6,[0],[])]⟩
def f45_2l:List GI:=[⟨none,.mv (some 0) (.c (.lit (.pointer none)))⟩]
def f45_2:AC:=.ops [] [] f45_2l
theorem f45_2e:OP f45_2 f45_2l [] []:=rfl
def f45_4l:List GI:=[⟨none,.mkmap 1⟩,
    ⟨none,.bst (some 2) [(0,3),(3,1)] (.agg [(.lit (.int .u64 0)),(.lit (.int .u64 0)),(.lit (.int .u64 0)),(.lit (.map none))]) [(1,(.r 1))]⟩,
    ⟨none,.boxB 3 4 (.r 2)⟩,
    vo 0 3]
def f45_4:AC:=.ops [0] [] f45_4l
theorem f45_4e:OP f45_4 f45_4l [0] []:=rfl
def f45_3:AC:=.seq f45_4 .ret
theorem f45_3e:SQ f45_3 f45_4 .ret:=rfl
def f45_1:AC:=.seq f45_2 f45_3
theorem f45_1e:SQ f45_1 f45_2 f45_3:=rfl
def c_f45:AFun:=⟨4,[.tmp 0],f45_1⟩
theorem k_f45:bT Go.Proofs.Try.prog x_f45 45 = some c_f45:=by kernel_rfl
theorem e_f45:aX Go.Proofs.Try.prog 45 = true:=by kernel_rfl

def n_f47:Nat:=47
def x_f47:Cx:=⟨some,id,10,fun s=>([0,2,3,8,9]:List Nat).contains s,fun s=>([]:List Nat).contains s,msOf [(2,[0],[]),(12,[0,4],[]),(52,[2],[]),(14,[2],[])]⟩
def f47_2l:List GI:=[⟨none,.mv (some 2) (.c (.lit (.int .i64 0)))⟩]
def f47_2:AC:=.ops [0] [] f47_2l
theorem f47_2e:OP f47_2 f47_2l [0] []:=rfl
def f47_5l:List GI:=[vv 3 0,
    ⟨none,.call (some 4) false (.f 68) [(.r 3)]⟩]
def f47_5:AC:=.ops [0,4] [] f47_5l
theorem f47_5e:OP f47_5 f47_5l [0,4] []:=rfl
def f47_8l:List GI:=[⟨none,.mv (some 2) (.c (.lit (.int .i64 0)))⟩]
def f47_8:AC:=.ops [2] [] f47_8l
theorem f47_8e:OP f47_8 f47_8l [2] []:=rfl
def f47_7:AC:=.seq f47_8 .ret
theorem f47_7e:SQ f47_7 f47_8 .ret:=rfl
def f47_6:AC:=.cond (.r 4) f47_7 .skip
theorem f47_6e:CN f47_6 4 f47_7 .skip:=rfl
def f47_4:AC:=.seq f47_5 f47_6
theorem f47_4e:SQ f47_4 f47_5 f47_6:=rfl
def f47_10l:List GI:=[vv 5 0,
    vn 6 5,
    vd 7 6 3,
    vl 8 7,
    ⟨none,.len (some 9) .mp (.r 8)⟩,
    vo 2 9]
def f47_10:AC:=.ops [2] [] f47_10l
theorem f47_10e:OP f47_10 f47_10l [2] []:=rfl
def f47_9:AC:=.seq f47_10 .ret
theorem f47_9e:SQ f47_9 f47_10 .ret:=rfl
def f47_3:AC:=.seq f47_4 f47_9
theorem f47_3e:SQ f47_3 f47_4 f47_9:=rfl
def f47_1:AC:=.seq f47_2 f47_3
theorem f47_1e:SQ f47_1 f47_2 f47_3:=rfl
def c_f47:AFun:=⟨10,[.tmp 2],f47_1⟩
theorem k_f47:bT Go.Proofs.Try.prog x_f47 47 = some c_f47:=by kernel_rfl
theorem e_f47:aX Go.Proofs.Try.prog 47 = true:=by kernel_rfl

def n_f48:Nat:=48
def x_f48:Cx:=⟨some,id,97,fun s=>([0,1,4,5,8,9,14,15,16,21,22,29,34,35,40,41,46,53,60,65,66,71,76,81,82,88,96]:List Nat).contains s,fun s=>([]:List Nat).contains s,msOf [(2,[0,1],[]),(24,[0,1,7],[]),(100,[4,5],[]),(102,[0,1,10],[]),(412,[4,5],[]),(14,[0,1],[]),(30,[0],[]),(124,[0,47],[]),(250,[0],[]),(502,[0,6],[6]),(1006,[0,6],[6]),(1007,[0],[]),(126,[0],[]),(254,[4,5],[])]⟩
def f48_2l:List GI:=[⟨none,.mv (some 4) (.c (.lit (.int .u64 0)))⟩,
    ⟨none,.mv (some 5) (.c (.lit (.int .i64 0)))⟩]
def f48_2:AC:=.ops [0,1] [] f48_2l
theorem f48_2e:OP f48_2 f48_2l [0,1] []:=rfl
def f48_6l:List GI:=[vv 8 0,
    ⟨none,.call (some 9) false (.f 68) [(.r 8)]⟩,
    vo 7 9]
def f48_6:AC:=.ops [0,1,7] [] f48_6l
theorem f48_6e:OP f48_6 f48_6l [0,1,7] []:=rfl
def f48_9l:List GI:=[⟨none,.mv (some 4) (.c (.lit (.int .u64 0)))⟩,
    ⟨none,.mv (some 5) (.c (.lit (.int .i64 1)))⟩]
def f48_9:AC:=.ops [4,5] [] f48_9l
theorem f48_9e:OP f48_9 f48_9l [4,5] []:=rfl
def f48_8:AC:=.seq f48_9 .ret
theorem f48_8e:SQ f48_8 f48_9 .ret:=rfl
def f48_11l:List GI:=[vv 11 0,
    vn 12 11,
    vd 13 12 3,
    vl 14 13,
    ⟨none,.len (some 15) .mp (.r 14)⟩,
    vb 16 .geq 15 4096,
    vo 10 16]
def f48_11:AC:=.ops [0,1,10] [] f48_11l
theorem f48_11e:OP f48_11 f48_11l [0,1,10] []:=rfl
def f48_14l:List GI:=[⟨none,.mv (some 4) (.c (.lit (.int .u64 0)))⟩,
    ⟨none,.mv (some 5) (.c (.lit (.int .i64 7)))⟩]
def f48_14:AC:=.ops [4,5] [] f48_14l
theorem f48_14e:OP f48_14 f48_14l [4,5] []:=rfl
def f48_13:AC:=.seq f48_14 .ret
theorem f48_13e:SQ f48_13 f48_14 .ret:=rfl
def f48_12:AC:=.cond (.r 10) f48_13 .skip
theorem f48_12e:CN f48_12 10 f48_13 .skip:=rfl
def f48_10:AC:=.seq f48_11 f48_12
theorem f48_10e:SQ f48_10 f48_11 f48_12:=rfl
def f48_7:AC:=.cond (.r 7) f48_8 f48_10
theorem f48_7e:CN f48_7 7 f48_8 f48_10:=rfl
def f48_5:AC:=.seq f48_6 f48_7
theorem f48_5e:SQ f48_5 f48_6 f48_7:=rfl
def f48_4:AC:=.block 0 f48_5
theorem f48_4e:BL f48_4 f48_5 0:=rfl
def f48_16l:List GI:=[vv 17 0,
    vn 18 17,
    vd 19 18 0,
    vd 20 19 2,
    vl 21 20,
    ⟨none,.bin (some 22) .num .add (.r 21) (.c (.lit (.int .u64 1)))⟩,
    vn 23 17,
    vd 24 23 0,
    vd 25 24 2,
    ⟨none,.store 1 (.r 25) (.r 22)⟩]
def f48_16:AC:=.ops [0,1] [] f48_16l
theorem f48_16e:OP f48_16 f48_16l [0,1] []:=rfl
def f48_18h:List GI:=[vv 26 0,
    vn 27 26,
    vd 28 27 3,
    vl 29 28,
    vv 30 0,
    vn 31 30,
    vd 32 31 0,
    vd 33 32 2,
    vl 34 33,
    vv 35 1,
    vv 36 0,
    vn 37 36,
    vd 38 37 0,
    vd 39 38 1,
    vl 40 39,
    ⟨none,.bst (some 41) [(0,1),(1,1),(2,1)] (.agg [(.lit (.int .i64 0)),(.lit (.int .u64 0)),(.lit (.int .u64 0))]) [(0,(.r 35)),(1,(.r 40))]⟩]
def f48_18l:List GI:=[⟨none,.upd (.int .u64) (.r 29) (.r 34) (.r 41)⟩]
def f48_18:AC:=.draw [0] [] [] f48_18h f48_18l
theorem f48_18e:aC P id m f48_18 sf st Q = a9 P id sf.locs st f48_18h (cx P id m [] [0] [] f48_18l Q st) [] ⟨sf.regs,bu [] sf.locs⟩:=rfl
def f48_21l:List GI:=[vv 42 0,
    vn 43 42,
    vd 44 43 0,
    vd 45 44 1,
    vl 46 45,
    ⟨none,.bin (some 47) .num .eql (.r 46) (.c (.lit (.int .u64 0)))⟩]
def f48_21:AC:=.ops [0,47] [] f48_21l
theorem f48_21e:OP f48_21 f48_21l [0,47] []:=rfl
def f48_23l:List GI:=[vv 48 0,
    vv 49 0,
    vn 50 49,
    vd 51 50 0,
    vd 52 51 2,
    vl 53 52,
    vn 54 48,
    vd 55 54 0,
    vd 56 55 0,
    ⟨none,.store 1 (.r 56) (.r 53)⟩]
def f48_23:AC:=.ops [0] [] f48_23l
theorem f48_23e:OP f48_23 f48_23l [0] []:=rfl
def f48_25h:List GI:=[vv 57 0,
    vn 58 57,
    vd 59 58 3,
    vl 60 59,
    vv 61 0,
    vn 62 61,
    vd 63 62 0,
    vd 64 63 1,
    vl 65 64,
    ⟨none,.lookup (some 66) (.int .u64) (.agg [(.lit (.int .i64 0)),(.lit (.int .u64 0)),(.lit (.int .u64 0))]) false (.r 60) (.r 65)⟩,
    ⟨none,.newL 6 [(.lit (.int .i64 0)),(.lit (.int .u64 0)),(.lit (.int .u64 0))]⟩]
def f48_25l:List GI:=[⟨none,.store 3 (.r 6) (.r 66)⟩]
def f48_25:AC:=.draw [0,6] [6] [6] f48_25h f48_25l
theorem f48_25e:aC P id m f48_25 sf st Q = a9 P id sf.locs st f48_25h (cx P id m [6] [0,6] [6] f48_25l Q st) [] ⟨sf.regs,bu [6] sf.locs⟩:=rfl
def f48_27l:List GI:=[vv 67 0,
    vn 68 67,
    vd 69 68 0,
    vd 70 69 2,
    vl 71 70,
    vd 72 6 2,
    ⟨none,.store 1 (.r 72) (.r 71)⟩]
def f48_27:AC:=.ops [0,6] [6] f48_27l
theorem f48_27e:OP f48_27 f48_27l [0,6] [6]:=rfl
def f48_28h:List GI:=[vv 73 0,
    vn 74 73,
    vd 75 74 3,
    vl 76 75,
    vv 77 0,
    vn 78 77,
    vd 79 78 0,
    vd 80 79 1,
    vl 81 80,
    ⟨none,.load (some 82) (.r 6) (some 3)⟩]
def f48_28l:List GI:=[⟨none,.upd (.int .u64) (.r 76) (.r 81) (.r 82)⟩]
def f48_28:AC:=.draw [0] [] [] f48_28h f48_28l
theorem f48_28e:aC P id m f48_28 sf st Q = a9 P id sf.locs st f48_28h (cx P id m [] [0] [] f48_28l Q st) [] ⟨sf.regs,bu [] sf.locs⟩:=rfl
def f48_26:AC:=.seq f48_27 f48_28
theorem f48_26e:SQ f48_26 f48_27 f48_28:=rfl
def f48_24:AC:=.seq f48_25 f48_26
theorem f48_24e:SQ f48_24 f48_25 f48_26:=rfl
def f48_22:AC:=.cond (.r 47) f48_23 f48_24
theorem f48_22e:CN f48_22 47 f48_23 f48_24:=rfl
def f48_20:AC:=.seq f48_21 f48_22
theorem f48_20e:SQ f48_20 f48_21 f48_22:=rfl
def f48_30l:List GI:=[vv 83 0,
    vv 84 0,
    vn 85 84,
    vd 86 85 0,
    vd 87 86 2,
    vl 88 87,
    vn 89 83,
    vd 90 89 0,
    vd 91 90 1,
    ⟨none,.store 1 (.r 91) (.r 88)⟩]
def f48_30:AC:=.ops [0] [] f48_30l
theorem f48_30e:OP f48_30 f48_30l [0] []:=rfl
def f48_32l:List GI:=[vv 92 0,
    vn 93 92,
    vd 94 93 0,
    vd 95 94 2,
    vl 96 95,
    vo 4 96,
    ⟨none,.mv (some 5) (.c (.lit (.int .i64 0)))⟩]
def f48_32:AC:=.ops [4,5] [] f48_32l
theorem f48_32e:OP f48_32 f48_32l [4,5] []:=rfl
def f48_31:AC:=.seq f48_32 .ret
theorem f48_31e:SQ f48_31 f48_32 .ret:=rfl
def f48_29:AC:=.seq f48_30 f48_31
theorem f48_29e:SQ f48_29 f48_30 f48_31:=rfl
def f48_19:AC:=.seq f48_20 f48_29
theorem f48_19e:SQ f48_19 f48_20 f48_29:=rfl
def f48_17:AC:=.seq f48_18 f48_19
theorem f48_17e:SQ f48_17 f48_18 f48_19:=rfl
def f48_15:AC:=.seq f48_16 f48_17
theorem f48_15e:SQ f48_15 f48_16 f48_17:=rfl
def f48_3:AC:=.seq f48_4 f48_15
theorem f48_3e:SQ f48_3 f48_4 f48_15:=rfl
def f48_1:AC:=.seq f48_2 f48_3
theorem f48_1e:SQ f48_1 f48_2 f48_3:=rfl
def c_f48:AFun:=⟨97,[.tmp 4,.tmp 5],f48_1⟩
theorem k_f48:bT Go.Proofs.Try.prog x_f48 48 = some c_f48:=by kernel_rfl
theorem e_f48:aX Go.Proofs.Try.prog 48 = true:=by kernel_rfl

def n_f49:Nat:=49
def x_f49:Cx:=⟨some,id,7,fun s=>([0,2,3,4,5,6]:List Nat).contains s,fun s=>([]:List Nat).contains s,msOf [(2,[0],[]),(6,[3],[]),(14,[2],[])]⟩
def f49_2l:List GI:=[⟨none,.mv (some 2) (.c (.lit .nilFunc))⟩]
def f49_2:AC:=.ops [0] [] f49_2l
theorem f49_2e:OP f49_2 f49_2l [0] []:=rfl
def f49_4l:List GI:=[vv 4 0,
    ⟨none,.call (some 5) false (.f 67) [(.r 4)]⟩,
    ⟨none,.newB 3 [(.lit (.pointer none))]⟩,
    ⟨none,.store 1 (.r 3) (.r 5)⟩]
def f49_4:AC:=.ops [3] [] f49_4l
theorem f49_4e:OP f49_4 f49_4l [3] []:=rfl
def f49_6l:List GI:=[⟨none,.mkfn (some 6) 69 [] [(.r 3)]⟩,
    vo 2 6]
def f49_6:AC:=.ops [2] [] f49_6l
theorem f49_6e:OP f49_6 f49_6l [2] []:=rfl
def f49_5:AC:=.seq f49_6 .ret
theorem f49_5e:SQ f49_5 f49_6 .ret:=rfl
def f49_3:AC:=.seq f49_4 f49_5
theorem f49_3e:SQ f49_3 f49_4 f49_5:=rfl
def f69:AC:=.seq f49_2 f49_3
theorem f49_1e:SQ f69 f49_2 f49_3:=rfl
def c_f49:AFun:=⟨7,[.tmp 2],f69⟩
theorem k_f49:bT Go.Proofs.Try.prog x_f49 49 = some c_f49:=by kernel_rfl
theorem e_f49:aX Go.Proofs.Try.prog 49 = true:=by kernel_rfl

def n_f51:Nat:=51
def x_f51:Cx:=⟨some,id,82,fun s=>([0,1,4,5,7,10,12,16,17,18,19,20,21,26,27,29,33,40,42,43,45,50,52,53,55,59,66,68,69,71,76,78,79,81]:List Nat).contains s,fun s=>([]:List Nat).contains s,msOf [(2,[0,1],[]),(12,[0,1,11],[]),(52,[4,5],[]),(14,[0,1,6,7],[6]),(60,[0,1,6,22],[6]),(244,[4,5],[]),(62,[0,6],[6]),(252,[0,6,30],[6]),(506,[0,6],[6]),(1014,[0,6,8],[6,8]),(2030,[0,6,8],[6,8]),(2031,[0,6],[6]),(508,[0,6,56],[6]),(1018,[6],[6]),(2038,[0,6,9],[6,9]),(4078,[0,6,9],[6,9]),(4079,[6],[6]),(510,[4,5],[])]⟩
def f51_2l:List GI:=[⟨none,.mv (some 4) (.c (.lit (.int .i64 0)))⟩,
    ⟨none,.mv (some 5) (.c (.lit (.int .i64 0)))⟩]
def f51_2:AC:=.ops [0,1] [] f51_2l
theorem f51_2e:OP f51_2 f51_2l [0,1] []:=rfl
def f51_5l:List GI:=[vv 10 0,
    ⟨none,.call (some 11) false (.f 68) [(.r 10)]⟩]
def f51_5:AC:=.ops [0,1,11] [] f51_5l
theorem f51_5e:OP f51_5 f51_5l [0,1,11] []:=rfl
def f51_8l:List GI:=[⟨none,.mv (some 4) (.c (.lit (.int .i64 0)))⟩,
    ⟨none,.mv (some 5) (.c (.lit (.int .i64 1)))⟩]
def f51_8:AC:=.ops [4,5] [] f51_8l
theorem f51_8e:OP f51_8 f51_8l [4,5] []:=rfl
def f51_7:AC:=.seq f51_8 .ret
theorem f51_7e:SQ f51_7 f51_8 .ret:=rfl
def f51_6:AC:=.cond (.r 11) f51_7 .skip
theorem f51_6e:CN f51_6 11 f51_7 .skip:=rfl
def f51_4:AC:=.seq f51_5 f51_6
theorem f51_4e:SQ f51_4 f51_5 f51_6:=rfl
def f51_10l:List GI:=[vv 13 0,
    vn 14 13,
    vd 15 14 3,
    vl 16 15,
    vv 17 1,
    ⟨none,.lookup (some 18) (.int .u64) (.agg [(.lit (.int .i64 0)),(.lit (.int .u64 0)),(.lit (.int .u64 0))]) true (.r 16) (.r 17)⟩,
    vv 12 18,
    ve 19 12 0,
    ve 20 12 1,
    ⟨none,.newL 6 [(.lit (.int .i64 0)),(.lit (.int .u64 0)),(.lit (.int .u64 0))]⟩,
    ⟨none,.store 3 (.r 6) (.r 19)⟩,
    vo 7 20]
def f51_10:AC:=.ops [0,1,6,7] [6] f51_10l
theorem f51_10e:OP f51_10 f51_10l [0,1,6,7] [6]:=rfl
def f51_13l:List GI:=[vv 21 7,
    ⟨none,.un (some 22) .not (.r 21)⟩]
def f51_13:AC:=.ops [0,1,6,22] [6] f51_13l
theorem f51_13e:OP f51_13 f51_13l [0,1,6,22] [6]:=rfl
def f51_16l:List GI:=[⟨none,.mv (some 4) (.c (.lit (.int .i64 0)))⟩,
    ⟨none,.mv (some 5) (.c (.lit (.int .i64 9)))⟩]
def f51_16:AC:=.ops [4,5] [] f51_16l
theorem f51_16e:OP f51_16 f51_16l [4,5] []:=rfl
def f51_15:AC:=.seq f51_16 .ret
theorem f51_15e:SQ f51_15 f51_16 .ret:=rfl
def f51_14:AC:=.cond (.r 22) f51_15 .skip
theorem f51_14e:CN f51_14 22 f51_15 .skip:=rfl
def f51_12:AC:=.seq f51_13 f51_14
theorem f51_12e:SQ f51_12 f51_13 f51_14:=rfl
def f51_18l:List GI:=[vv 23 0,
    vn 24 23,
    vd 25 24 3,
    vl 26 25,
    vv 27 1,
    ⟨none,.del (.int .u64) (.r 26) (.r 27)⟩]
def f51_18:AC:=.ops [0,6] [6] f51_18l
theorem f51_18e:OP f51_18 f51_18l [0,6] [6]:=rfl
def f51_21l:List GI:=[vd 28 6 1,
    vl 29 28,
    ⟨none,.bin (some 30) .num .eql (.r 29) (.c (.lit (.int .u64 0)))⟩]
def f51_21:AC:=.ops [0,6,30] [6] f51_21l
theorem f51_21e:OP f51_21 f51_21l [0,6,30] [6]:=rfl
def f51_23l:List GI:=[vv 31 0,
    vd 32 6 2,
    vl 33 32,
    vn 34 31,
    vd 35 34 0,
    vd 36 35 0,
    ⟨none,.store 1 (.r 36) (.r 33)⟩]
def f51_23:AC:=.ops [0,6] [6] f51_23l
theorem f51_23e:OP f51_23 f51_23l [0,6] [6]:=rfl
def f51_25h:List GI:=[vv 37 0,
    vn 38 37,
    vd 39 38 3,
    vl 40 39,
    vd 41 6 1,
    vl 42 41,
    ⟨none,.lookup (some 43) (.int .u64) (.agg [(.lit (.int .i64 0)),(.lit (.int .u64 0)),(.lit (.int .u64 0))]) false (.r 40) (.r 42)⟩,
    ⟨none,.newL 8 [(.lit (.int .i64 0)),(.lit (.int .u64 0)),(.lit (.int .u64 0))]⟩]
def f51_25l:List GI:=[⟨none,.store 3 (.r 8) (.r 43)⟩]
def f51_25:AC:=.draw [0,6,8] [6,8] [8] f51_25h f51_25l
theorem f51_25e:aC P id m f51_25 sf st Q = a9 P id sf.locs st f51_25h (cx P id m [8] [0,6,8] [6,8] f51_25l Q st) [] ⟨sf.regs,bu [8] sf.locs⟩:=rfl
def f51_27l:List GI:=[vd 44 6 2,
    vl 45 44,
    vd 46 8 2,
    ⟨none,.store 1 (.r 46) (.r 45)⟩]
def f51_27:AC:=.ops [0,6,8] [6,8] f51_27l
theorem f51_27e:OP f51_27 f51_27l [0,6,8] [6,8]:=rfl
def f51_28h:List GI:=[vv 47 0,
    vn 48 47,
    vd 49 48 3,
    vl 50 49,
    vd 51 6 1,
    vl 52 51,
    ⟨none,.load (some 53) (.r 8) (some 3)⟩]
def f51_28l:List GI:=[⟨none,.upd (.int .u64) (.r 50) (.r 52) (.r 53)⟩]
def f51_28:AC:=.draw [0,6] [6] [] f51_28h f51_28l
theorem f51_28e:aC P id m f51_28 sf st Q = a9 P id sf.locs st f51_28h (cx P id m [] [0,6] [6] f51_28l Q st) [] ⟨sf.regs,bu [] sf.locs⟩:=rfl
def f51_26:AC:=.seq f51_27 f51_28
theorem f51_26e:SQ f51_26 f51_27 f51_28:=rfl
def f51_24:AC:=.seq f51_25 f51_26
theorem f51_24e:SQ f51_24 f51_25 f51_26:=rfl
def f51_22:AC:=.cond (.r 30) f51_23 f51_24
theorem f51_22e:CN f51_22 30 f51_23 f51_24:=rfl
def f51_20:AC:=.seq f51_21 f51_22
theorem f51_20e:SQ f51_20 f51_21 f51_22:=rfl
def f51_31l:List GI:=[vd 54 6 2,
    vl 55 54,
    ⟨none,.bin (some 56) .num .eql (.r 55) (.c (.lit (.int .u64 0)))⟩]
def f51_31:AC:=.ops [0,6,56] [6] f51_31l
theorem f51_31e:OP f51_31 f51_31l [0,6,56] [6]:=rfl
def f51_33l:List GI:=[vv 57 0,
    vd 58 6 1,
    vl 59 58,
    vn 60 57,
    vd 61 60 0,
    vd 62 61 1,
    ⟨none,.store 1 (.r 62) (.r 59)⟩]
def f51_33:AC:=.ops [6] [6] f51_33l
theorem f51_33e:OP f51_33 f51_33l [6] [6]:=rfl
def f51_35h:List GI:=[vv 63 0,
    vn 64 63,
    vd 65 64 3,
    vl 66 65,
    vd 67 6 2,
    vl 68 67,
    ⟨none,.lookup (some 69) (.int .u64) (.agg [(.lit (.int .i64 0)),(.lit (.int .u64 0)),(.lit (.int .u64 0))]) false (.r 66) (.r 68)⟩,
    ⟨none,.newL 9 [(.lit (.int .i64 0)),(.lit (.int .u64 0)),(.lit (.int .u64 0))]⟩]
def f51_35l:List GI:=[⟨none,.store 3 (.r 9) (.r 69)⟩]
def f51_35:AC:=.draw [0,6,9] [6,9] [9] f51_35h f51_35l
theorem f51_35e:aC P id m f51_35 sf st Q = a9 P id sf.locs st f51_35h (cx P id m [9] [0,6,9] [6,9] f51_35l Q st) [] ⟨sf.regs,bu [9] sf.locs⟩:=rfl
def f51_37l:List GI:=[vd 70 6 1,
    vl 71 70,
    vd 72 9 1,
    ⟨none,.store 1 (.r 72) (.r 71)⟩]
def f51_37:AC:=.ops [0,6,9] [6,9] f51_37l
theorem f51_37e:OP f51_37 f51_37l [0,6,9] [6,9]:=rfl
def f51_38h:List GI:=[vv 73 0,
    vn 74 73,
    vd 75 74 3,
    vl 76 75,
    vd 77 6 2,
    vl 78 77,
    ⟨none,.load (some 79) (.r 9) (some 3)⟩]
def f51_38l:List GI:=[⟨none,.upd (.int .u64) (.r 76) (.r 78) (.r 79)⟩]
def f51_38:AC:=.draw [6] [6] [] f51_38h f51_38l
theorem f51_38e:aC P id m f51_38 sf st Q = a9 P id sf.locs st f51_38h (cx P id m [] [6] [6] f51_38l Q st) [] ⟨sf.regs,bu [] sf.locs⟩:=rfl
def f51_36:AC:=.seq f51_37 f51_38
theorem f51_36e:SQ f51_36 f51_37 f51_38:=rfl
def f51_34:AC:=.seq f51_35 f51_36
theorem f51_34e:SQ f51_34 f51_35 f51_36:=rfl
def f51_32:AC:=.cond (.r 56) f51_33 f51_34
theorem f51_32e:CN f51_32 56 f51_33 f51_34:=rfl
def f51_30:AC:=.seq f51_31 f51_32
theorem f51_30e:SQ f51_30 f51_31 f51_32:=rfl
def f51_40l:List GI:=[vd 80 6 0,
    vl 81 80,
    vo 4 81,
    ⟨none,.mv (some 5) (.c (.lit (.int .i64 0)))⟩]
def f51_40:AC:=.ops [4,5] [] f51_40l
theorem f51_40e:OP f51_40 f51_40l [4,5] []:=rfl
def f51_39:AC:=.seq f51_40 .ret
theorem f51_39e:SQ f51_39 f51_40 .ret:=rfl
def f51_29:AC:=.seq f51_30 f51_39
theorem f51_29e:SQ f51_29 f51_30 f51_39:=rfl
def f51_19:AC:=.seq f51_20 f51_29
theorem f51_19e:SQ f51_19 f51_20 f51_29:=rfl
def f51_17:AC:=.seq f51_18 f51_19
theorem f51_17e:SQ f51_17 f51_18 f51_19:=rfl
def f51_11:AC:=.seq f51_12 f51_17
theorem f51_11e:SQ f51_11 f51_12 f51_17:=rfl
def f51_9:AC:=.seq f51_10 f51_11
theorem f51_9e:SQ f51_9 f51_10 f51_11:=rfl
def f51_3:AC:=.seq f51_4 f51_9
theorem f51_3e:SQ f51_3 f51_4 f51_9:=rfl
def f51_1:AC:=.seq f51_2 f51_3
theorem f51_1e:SQ f51_1 f51_2 f51_3:=rfl
def c_f51:AFun:=⟨82,[.tmp 4,.tmp 5],f51_1⟩
theorem k_f51:bT Go.Proofs.Try.prog x_f51 51 = some c_f51:=by kernel_rfl
theorem e_f51:aX Go.Proofs.Try.prog 51 = true:=by kernel_rfl

def n_f52:Nat:=52
def x_f52:Cx:=⟨some,id,31,fun s=>([0,1,2,3,4,5,12,13,14,15,16,17,18,19,20,21,22,23,24,25,26,27,28,29,30]:List Nat).contains s,fun s=>([]:List Nat).contains s,msOf [(2,[0,1,2,3,4,5],[]),(6,[4,5,13,14],[]),(14,[12],[])]⟩
def f52_2l:List GI:=[⟨none,.mv (some 12) (.c (.lit (.bool false)))⟩]
def f52_2:AC:=.ops [0,1,2,3,4,5] [] f52_2l
theorem f52_2e:OP f52_2 f52_2l [0,1,2,3,4,5] []:=rfl
def f52_4l:List GI:=[vv 16 0,
    vv 17 1,
    vv 18 2,
    vv 19 3,
    ⟨none,.call (some 20) false (.f 35) [(.r 16),(.r 17),(.r 18),(.r 19)]⟩,
    vv 15 20,
    ve 21 15 0,
    ve 22 15 1,
    vo 13 21,
    vo 14 22]
def f52_4:AC:=.ops [4,5,13,14] [] f52_4l
theorem f52_4e:OP f52_4 f52_4l [4,5,13,14] []:=rfl
def f52_6l:List GI:=[vv 23 13,
    vv 24 4,
    ⟨none,.bin (some 25) .bool .eql (.r 23) (.r 24)⟩,
    vv 26 25,
    ⟨some (26,true),.mv (some 27) (.r 14)⟩,
    ⟨some (26,true),.mv (some 28) (.r 5)⟩,
    ⟨some (26,true),.bin (some 29) .num .eql (.r 27) (.r 28)⟩,
    ⟨none,.pick (some 30) (.r 26) (.r 29) (.c (.lit (.bool false)))⟩,
    vo 12 30]
def f52_6:AC:=.ops [12] [] f52_6l
theorem f52_6e:OP f52_6 f52_6l [12] []:=rfl
def f52_5:AC:=.seq f52_6 .ret
theorem f52_5e:SQ f52_5 f52_6 .ret:=rfl
def f52_3:AC:=.seq f52_4 f52_5
theorem f52_3e:SQ f52_3 f52_4 f52_5:=rfl
def f52_1:AC:=.seq f52_2 f52_3
theorem f52_1e:SQ f52_1 f52_2 f52_3:=rfl
def c_f52:AFun:=⟨31,[.tmp 12],f52_1⟩
theorem k_f52:bT Go.Proofs.Try.prog x_f52 52 = some c_f52:=by kernel_rfl
theorem e_f52:aX Go.Proofs.Try.prog 52 = true:=by kernel_rfl

def n_f53:Nat:=53
def x_f53:Cx:=⟨some,id,26,fun s=>([0,1,4,5,6,7,8,9,11,12,13,15,16,18,20,22,24]:List Nat).contains s,fun s=>([]:List Nat).contains s,msOf [(2,[0,1],[]),(12,[0,1,10],[]),(52,[4],[]),(28,[0,1,5],[]),(58,[0,1,5],[]),(464,[0,1,5,14],[]),(931,[],[]),(1864,[0,1,5,25],[]),(7460,[4],[]),(467,[0,1,5],[]),(30,[4],[])]⟩
def f53_2l:List GI:=[⟨none,.mv (some 4) (.c (.lit (.bool false)))⟩]
def f53_2:AC:=.ops [0,1] [] f53_2l
theorem f53_2e:OP f53_2 f53_2l [0,1] []:=rfl
def f53_5l:List GI:=[vv 6 0,
    ⟨none,.len (some 7) .sl (.r 6)⟩,
    vv 8 1,
    ⟨none,.len (some 9) .sl (.r 8)⟩,
    ⟨none,.bin (some 10) .num .neq (.r 7) (.r 9)⟩]
def f53_5:AC:=.ops [0,1,10] [] f53_5l
theorem f53_5e:OP f53_5 f53_5l [0,1,10] []:=rfl
def f53_8l:List GI:=[⟨none,.mv (some 4) (.c (.lit (.bool false)))⟩]
def f53_8:AC:=.ops [4] [] f53_8l
theorem f53_8e:OP f53_8 f53_8l [4] []:=rfl
def f53_7:AC:=.seq f53_8 .ret
theorem f53_7e:SQ f53_7 f53_8 .ret:=rfl
def f53_6:AC:=.cond (.r 10) f53_7 .skip
theorem f53_6e:CN f53_6 10 f53_7 .skip:=rfl
def f53_4:AC:=.seq f53_5 f53_6
theorem f53_4e:SQ f53_4 f53_5 f53_6:=rfl
def f53_11l:List GI:=[⟨none,.mv (some 5) (.c (.lit (.int .i64 0)))⟩]
def f53_11:AC:=.ops [0,1,5] [] f53_11l
theorem f53_11e:OP f53_11 f53_11l [0,1,5] []:=rfl
def f53_16l:List GI:=[vv 11 5,
    vv 12 0,
    ⟨none,.len (some 13) .sl (.r 12)⟩,
    ⟨none,.bin (some 14) .num .lss (.r 11) (.r 13)⟩]
def f53_16:AC:=.ops [0,1,5,14] [] f53_16l
theorem f53_16e:OP f53_16 f53_16l [0,1,5,14] []:=rfl
def f53_17:AC:=.cond (.r 14) .skip (.exit [] [] 0)
theorem f53_17e:CN f53_17 14 .skip (.exit [] [] 0):=rfl
def f53_15:AC:=.seq f53_16 f53_17
theorem f53_15e:SQ f53_15 f53_16 f53_17:=rfl
def f53_21h:List GI:=[vv 17 0,
    vv 18 5,
    ⟨none,.ixS (some 19) (.r 17) (.r 18) 1⟩,
    vl 20 19,
    vv 21 1,
    vv 22 5,
    ⟨none,.ixS (some 23) (.r 21) (.r 22) 1⟩,
    vl 24 23]
def f53_21l:List GI:=[⟨none,.bin (some 25) .num .neq (.r 20) (.r 24)⟩]
def f53_21:AC:=.draw [0,1,5,25] [] [] f53_21h f53_21l
theorem f53_21e:aC P id m f53_21 sf st Q = a9 P id sf.locs st f53_21h (cx P id m [] [0,1,5,25] [] f53_21l Q st) [] ⟨sf.regs,bu [] sf.locs⟩:=rfl
def f53_24l:List GI:=[⟨none,.mv (some 4) (.c (.lit (.bool false)))⟩]
def f53_24:AC:=.ops [4] [] f53_24l
theorem f53_24e:OP f53_24 f53_24l [4] []:=rfl
def f53_23:AC:=.seq f53_24 .ret
theorem f53_23e:SQ f53_23 f53_24 .ret:=rfl
def f53_22:AC:=.cond (.r 25) f53_23 .skip
theorem f53_22e:CN f53_22 25 f53_23 .skip:=rfl
def f53_20:AC:=.seq f53_21 f53_22
theorem f53_20e:SQ f53_20 f53_21 f53_22:=rfl
def f53_19:AC:=.block 1 f53_20
theorem f53_19e:BL f53_19 f53_20 1:=rfl
def f53_25l:List GI:=[vv 15 5,
    vb 16 .add 15 1,
    vo 5 16]
def f53_25:AC:=.ops [0,1,5] [] f53_25l
theorem f53_25e:OP f53_25 f53_25l [0,1,5] []:=rfl
def f53_18:AC:=.seq f53_19 f53_25
theorem f53_18e:SQ f53_18 f53_19 f53_25:=rfl
def f53_14:AC:=.seq f53_15 f53_18
theorem f53_14e:SQ f53_14 f53_15 f53_18:=rfl
def f53_13:AC:=.loop [0,1,5] [] f53_14
theorem f53_13w:aC P id m f53_13 sf st Q = cd (aC P id m f53_14) [0,1,5] [] sf st Q:=rfl
def f53_12:AC:=.block 0 f53_13
theorem f53_12e:BL f53_12 f53_13 0:=rfl
def f53_10:AC:=.seq f53_11 f53_12
theorem f53_10e:SQ f53_10 f53_11 f53_12:=rfl
def f53_27l:List GI:=[⟨none,.mv (some 4) (.c (.lit (.bool true)))⟩]
def f53_27:AC:=.ops [4] [] f53_27l
theorem f53_27e:OP f53_27 f53_27l [4] []:=rfl
def f53_26:AC:=.seq f53_27 .ret
theorem f53_26e:SQ f53_26 f53_27 .ret:=rfl
def f53_9:AC:=.seq f53_10 f53_26
theorem f53_9e:SQ f53_9 f53_10 f53_26:=rfl
def f53_3:AC:=.seq f53_4 f53_9
theorem f53_3e:SQ f53_3 f53_4 f53_9:=rfl
def f53_1:AC:=.seq f53_2 f53_3
theorem f53_1e:SQ f53_1 f53_2 f53_3:=rfl
def c_f53:AFun:=⟨26,[.tmp 4],f53_1⟩
theorem k_f53:bT Go.Proofs.Try.prog x_f53 53 = some c_f53:=by kernel_rfl
theorem e_f53:aX Go.Proofs.Try.prog 53 = true:=by kernel_rfl

end
end Go.Fx.YtddifejdkiemgaaFx

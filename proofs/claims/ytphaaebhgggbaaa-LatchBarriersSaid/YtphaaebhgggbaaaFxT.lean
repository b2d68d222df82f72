/- The functions that the statement reaches, resolved: printed by a program of ours from the translated code; each is checked here. -/
import Derived.Test.YtphaaebhgggbaaaProg
import Derived.Test.YtphaaebhgggbaaaFxF
set_option maxRecDepth 100000
set_option maxHeartbeats 0
namespace Go.Fx.YtphaaebhgggbaaaFx
open Go Go.Fx
abbrev SQ (a b c:AC):Prop:=∀ {P:Program} {m:Bool} {sf:Sf} {st:St} {Q:Exit→Sf→St→Prop},aC P id m a sf st Q = aC P id m b sf st (seqQ (aC P id m c) Q)
abbrev CN (a:AC) (r:Nat) (b c:AC):Prop:=∀ {P:Program} {m:Bool} {sf:Sf} {st:St} {Q:Exit→Sf→St→Prop},aC P id m a sf st Q = iQ (.r r) (sf.ev id (.r r)) (aC P id m b) (aC P id m c) sf st Q
abbrev OP (a:AC) (l:List GI) (x y:List Nat):Prop:=∀ {P:Program} {m:Bool} {sf:Sf} {st:St} {Q:Exit→Sf→St→Prop},aC P id m a sf st Q = runI P id m l (opsK x y Q) sf st
abbrev BL (a b:AC) (k:Nat):Prop:=∀ {P:Program} {m:Bool} {sf:Sf} {st:St} {Q:Exit→Sf→St→Prop},aC P id m a sf st Q = aC P id m b sf st (gW k Q)
abbrev KF:Lean.Meta.Simp.Config:={ implicitDefEqProofs:=false,maxSteps:=10000000 }
theorem bZ:type_of% (And.intro @kH (And.intro @seqQ_ret (And.intro @opsK_eq (And.intro @runI_nil (And.intro @nf (And.intro @putP_eq (And.intro @mask_eq (And.intro @ni (And.intro @l5 (And.intro @wp_ok (And.intro @bind_ok (And.intro @lY (And.intro @ev_r (And.intro @ev_c (And.intro @o_mv (And.intro @o_bin (And.intro @nU (And.intro @dis_ptr (And.intro @setB_r (And.intro @l6 (And.intro @aC_ret (And.intro @aC_skip (And.intro @retQ_ret (And.intro @noL_lit (And.intro @nX (And.intro @nY (And.intro @List.map_cons.{0,0} (@List.map_nil.{0,0})))))))))))))))))))))))))))):=And.intro @kH (And.intro @seqQ_ret (And.intro @opsK_eq (And.intro @runI_nil (And.intro @nf (And.intro @putP_eq (And.intro @mask_eq (And.intro @ni (And.intro @l5 (And.intro @wp_ok (And.intro @bind_ok (And.intro @lY (And.intro @ev_r (And.intro @ev_c (And.intro @o_mv (And.intro @o_bin (And.intro @nU (And.intro @dis_ptr (And.intro @setB_r (And.intro @l6 (And.intro @aC_ret (And.intro @aC_skip (And.intro @retQ_ret (And.intro @noL_lit (And.intro @nX (And.intro @nY (And.intro @List.map_cons.{0,0} (@List.map_nil.{0,0})))))))))))))))))))))))))))
abbrev vv (d x:Nat):GI:=⟨none,.mv (some d) (.r x)⟩
abbrev vo (d x:Nat):GI:=⟨none,.own d x⟩
abbrev ve (d x k:Nat):GI:=⟨none,.ext (some d) (.r x) k⟩
abbrev vn (d x:Nat):GI:=⟨none,.nilck (some d) (.r x)⟩
abbrev vd (d x k:Nat):GI:=⟨none,.addr (some d) (.r x) k⟩
abbrev vl (d x:Nat):GI:=⟨none,.load (some d) (.r x) none⟩
abbrev vb (d:Nat) (o:BinOp) (x:Nat) (n:Int):GI:=⟨none,.bin (some d) .num o (.r x) (.c (.lit (.int .i64 n)))⟩
section
variable (P:Program) (m:Bool) (sf:Sf) (st:St) (Q:Exit→Sf→St→Prop)
def n_f4:Nat:=4
def x_f4:Cx:=⟨some,id,121,fun s=>([0,1,4,5,6,8,11,12,13,14,15,16,17,18,19,20,21,22,23,24,25,26,28,29,30,31,32,33,34,35,36,37,38,39,40,41,42,43,44,45,46,47,48,49,50,51,53,54,55,56,57,59,60,62,64,66,67,68,70,71,73,74,75,76,78,80,82,85,87,88,90,91,92,93,94,95,97,98,99,100,101,102,103,104,105,107,108,110,111,112,113,114,116,117,118,120]:List Nat).contains s,fun s=>([103]:List Nat).contains s,msOf [(2,[0,1],[]),(6,[0,1,5,6],[]),(28,[0,1,5,6,27],[]),(116,[4],[]),(60,[0,1,5,52],[]),(244,[4],[]),(62,[1,5,7],[7]),(252,[1,5,7,8],[7]),(506,[1,5,7,8],[7]),(4048,[1,5,7,8,58],[7]),(8099,[],[]),(16200,[1,5,7,8,9],[7,9]),(32402,[1,5,7,8,9,10],[7,9,10]),(129612,[1,5,7,8,9,10,72],[7,9,10]),(518452,[1,5,7,8,9,11],[7,9]),(1036906,[1,5,7,8,9,11],[7,9]),(2073814,[1,5,7,8,11],[7]),(4147630,[1,5,7,8],[7]),(8295262,[1,5,7,8,83],[7]),(33181052,[4],[]),(1036908,[1,5,7,8,9,10,86],[7,9,10]),(2073818,[1,5,7,8,9,10],[7,9,10]),(2073819,[1,5,7,8,9,10],[7,9,10]),(1036910,[1,5,7,8,106],[7]),(4147644,[4],[]),(129614,[1,5,7,8,119],[7]),(518460,[4],[]),(4051,[1,5,7,8],[7]),(254,[4],[])]⟩
def f4_2l:List GI:=[⟨none,.mv (some 4) (.c (.lit (.bool false)))⟩]
def f4_2:AC:=.ops [0,1] [] f4_2l
theorem f4_2e:OP f4_2 f4_2l [0,1] []:=rfl
def f4_4l:List GI:=[vv 13 0,
    ⟨none,.call (some 14) false (.f 9) [(.r 13)]⟩,
    vv 12 14,
    ve 15 12 0,
    ve 16 12 1,
    vo 5 15,
    vo 6 16]
def f4_4:AC:=.ops [0,1,5,6] [] f4_4l
theorem f4_4e:OP f4_4 f4_4l [0,1,5,6] []:=rfl
def f4_7l:List GI:=[vv 17 1,
    ⟨none,.len (some 18) .sl (.r 17)⟩,
    vb 19 .gtr 18 40,
    vv 20 19,
    ⟨some (20,false),.mv (some 21) (.r 0)⟩,
    ⟨some (20,false),.bin (some 22) .num .lss (.r 21) (.c (.lit (.int .i64 1)))⟩,
    ⟨none,.pick (some 23) (.r 20) (.c (.lit (.bool true))) (.r 22)⟩,
    vv 24 23,
    ⟨some (24,false),.mv (some 25) (.r 0)⟩,
    ⟨some (24,false),.bin (some 26) .num .gtr (.r 25) (.c (.lit (.int .i64 64)))⟩,
    ⟨none,.pick (some 27) (.r 24) (.c (.lit (.bool true))) (.r 26)⟩]
def f4_7:AC:=.ops [0,1,5,6,27] [] f4_7l
theorem f4_7e:OP f4_7 f4_7l [0,1,5,6,27] []:=rfl
def f4_10l:List GI:=[vv 28 6,
    vb 29 .eql 28 2,
    vv 30 0,
    vb 31 .lss 30 1,
    vv 32 31,
    ⟨some (32,false),.mv (some 33) (.r 0)⟩,
    ⟨some (32,false),.bin (some 34) .num .gtr (.r 33) (.c (.lit (.int .i64 64)))⟩,
    ⟨none,.pick (some 35) (.r 32) (.c (.lit (.bool true))) (.r 34)⟩,
    ⟨none,.bin (some 36) .bool .eql (.r 29) (.r 35)⟩,
    vv 37 36,
    ⟨some (37,true),.mv (some 38) (.r 5)⟩,
    ⟨some (37,true),.bin (some 39) (.nil .ptr) .eql (.r 38) (.c (.lit (.pointer none)))⟩,
    ⟨some (37,true),.mv (some 40) (.r 6)⟩,
    ⟨some (37,true),.bin (some 41) .num .neq (.r 40) (.c (.lit (.int .i64 0)))⟩,
    ⟨some (37,true),.bin (some 42) .bool .eql (.r 39) (.r 41)⟩,
    ⟨none,.pick (some 43) (.r 37) (.r 42) (.c (.lit (.bool false)))⟩,
    vv 44 43,
    ⟨some (44,true),.call (some 45) false (.f 10) []⟩,
    ⟨none,.pick (some 46) (.r 44) (.r 45) (.c (.lit (.bool false)))⟩,
    vo 4 46]
def f4_10:AC:=.ops [4] [] f4_10l
theorem f4_10e:OP f4_10 f4_10l [4] []:=rfl
def f4_9:AC:=.seq f4_10 .ret
theorem f4_9e:SQ f4_9 f4_10 .ret:=rfl
def f4_8:AC:=.cond (.r 27) f4_9 .skip
theorem f4_8e:CN f4_8 27 f4_9 .skip:=rfl
def f4_6:AC:=.seq f4_7 f4_8
theorem f4_6e:SQ f4_6 f4_7 f4_8:=rfl
def f4_13l:List GI:=[vv 47 6,
    vb 48 .neq 47 0,
    vv 49 48,
    ⟨some (49,false),.mv (some 50) (.r 5)⟩,
    ⟨some (49,false),.bin (some 51) (.nil .ptr) .eql (.r 50) (.c (.lit (.pointer none)))⟩,
    ⟨none,.pick (some 52) (.r 49) (.c (.lit (.bool true))) (.r 51)⟩]
def f4_13:AC:=.ops [0,1,5,52] [] f4_13l
theorem f4_13e:OP f4_13 f4_13l [0,1,5,52] []:=rfl
def f4_16l:List GI:=[⟨none,.mv (some 4) (.c (.lit (.bool false)))⟩]
def f4_16:AC:=.ops [4] [] f4_16l
theorem f4_16e:OP f4_16 f4_16l [4] []:=rfl
def f4_15:AC:=.seq f4_16 .ret
theorem f4_15e:SQ f4_15 f4_16 .ret:=rfl
def f4_14:AC:=.cond (.r 52) f4_15 .skip
theorem f4_14e:CN f4_14 52 f4_15 .skip:=rfl
def f4_12:AC:=.seq f4_13 f4_14
theorem f4_12e:SQ f4_12 f4_13 f4_14:=rfl
def f4_18l:List GI:=[vv 53 0,
    ⟨none,.bst (some 54) [(0,1),(1,1),(2,1),(3,1),(4,1),(5,1),(6,1)] (.agg [(.lit (.int .i64 0)),(.lit (.int .i64 0)),(.lit (.int .i64 0)),(.lit (.int .i64 0)),(.lit (.bool false)),(.lit (.slice none 0 0)),(.lit (.slice none 0 0))]) [(1,(.r 53)),(3,(.c (.lit (.int .i64 (-1)))))]⟩,
    ⟨none,.newL 7 [(.lit (.int .i64 0)),(.lit (.int .i64 0)),(.lit (.int .i64 0)),(.lit (.int .i64 0)),(.lit (.bool false)),(.lit (.slice none 0 0)),(.lit (.slice none 0 0))]⟩,
    ⟨none,.store 7 (.r 7) (.r 54)⟩]
def f4_18:AC:=.ops [1,5,7] [7] f4_18l
theorem f4_18e:OP f4_18 f4_18l [1,5,7] [7]:=rfl
def f4_21l:List GI:=[⟨none,.mv (some 8) (.c (.lit (.int .i64 0)))⟩]
def f4_21:AC:=.ops [1,5,7,8] [7] f4_21l
theorem f4_21e:OP f4_21 f4_21l [1,5,7,8] [7]:=rfl
def f4_26l:List GI:=[vv 55 8,
    vv 56 1,
    ⟨none,.len (some 57) .sl (.r 56)⟩,
    ⟨none,.bin (some 58) .num .lss (.r 55) (.r 57)⟩]
def f4_26:AC:=.ops [1,5,7,8,58] [7] f4_26l
theorem f4_26e:OP f4_26 f4_26l [1,5,7,8,58] [7]:=rfl
def f4_27:AC:=.cond (.r 58) .skip (.exit [] [] 0)
theorem f4_27e:CN f4_27 58 .skip (.exit [] [] 0):=rfl
def f4_25:AC:=.seq f4_26 f4_27
theorem f4_25e:SQ f4_25 f4_26 f4_27:=rfl
def f4_31l:List GI:=[vv 61 1,
    vv 62 8,
    ⟨none,.ixS (some 63) (.r 61) (.r 62) 4⟩,
    ⟨none,.load (some 64) (.r 63) (some 4)⟩,
    ⟨none,.newL 9 [(.lit (.int .i64 0)),(.lit (.int .i64 0)),(.lit (.int .i64 0)),(.lit (.bool false))]⟩,
    ⟨none,.store 4 (.r 9) (.r 64)⟩]
def f4_31:AC:=.ops [1,5,7,8,9] [7,9] f4_31l
theorem f4_31e:OP f4_31 f4_31l [1,5,7,8,9] [7,9]:=rfl
def f4_33l:List GI:=[⟨none,.newL 10 [(.lit (.bool false)),(.lit (.bool false)),(.lit (.slice none 0 0)),(.lit (.int .i64 0))]⟩]
def f4_33:AC:=.ops [1,5,7,8,9,10] [7,9,10] f4_33l
theorem f4_33e:OP f4_33 f4_33l [1,5,7,8,9,10] [7,9,10]:=rfl
def f4_36l:List GI:=[vd 65 9 0,
    vl 66 65,
    vb 67 .lss 66 0,
    vv 68 67,
    ⟨some (68,false),.addr (some 69) (.r 9) 0⟩,
    ⟨some (68,false),.load (some 70) (.r 69) none⟩,
    ⟨some (68,false),.bin (some 71) .num .gtr (.r 70) (.c (.lit (.int .i64 1)))⟩,
    ⟨none,.pick (some 72) (.r 68) (.c (.lit (.bool true))) (.r 71)⟩]
def f4_36:AC:=.ops [1,5,7,8,9,10,72] [7,9,10] f4_36l
theorem f4_36e:OP f4_36 f4_36l [1,5,7,8,9,10,72] [7,9,10]:=rfl
def f4_39l:List GI:=[vv 73 5,
    vo 11 73]
def f4_39:AC:=.ops [1,5,7,8,9,11] [7,9] f4_39l
theorem f4_39e:OP f4_39 f4_39l [1,5,7,8,9,11] [7,9]:=rfl
def f4_41l:List GI:=[vv 74 5,
    ⟨none,.call (some 75) false (.f 24) [(.r 74)]⟩,
    vo 5 75]
def f4_41:AC:=.ops [1,5,7,8,9,11] [7,9] f4_41l
theorem f4_41e:OP f4_41 f4_41l [1,5,7,8,9,11] [7,9]:=rfl
def f4_43l:List GI:=[vv 76 11,
    vd 77 9 1,
    vl 78 77,
    ⟨none,.call (some 79) false (.f 25) [(.r 76),(.r 78)]⟩]
def f4_43:AC:=.ops [1,5,7,8,11] [7] f4_43l
theorem f4_43e:OP f4_43 f4_43l [1,5,7,8,11] [7]:=rfl
def f4_45l:List GI:=[vv 80 11,
    ⟨none,.call (some 81) false (.f 25) [(.r 80),(.c (.lit (.int .i64 63)))]⟩]
def f4_45:AC:=.ops [1,5,7,8] [7] f4_45l
theorem f4_45e:OP f4_45 f4_45l [1,5,7,8] [7]:=rfl
def f4_47l:List GI:=[vv 82 5,
    ⟨none,.bin (some 83) (.nil .ptr) .eql (.r 82) (.c (.lit (.pointer none)))⟩]
def f4_47:AC:=.ops [1,5,7,8,83] [7] f4_47l
theorem f4_47e:OP f4_47 f4_47l [1,5,7,8,83] [7]:=rfl
def f4_50l:List GI:=[⟨none,.mv (some 4) (.c (.lit (.bool false)))⟩]
def f4_50:AC:=.ops [4] [] f4_50l
theorem f4_50e:OP f4_50 f4_50l [4] []:=rfl
def f4_49:AC:=.seq f4_50 .ret
theorem f4_49e:SQ f4_49 f4_50 .ret:=rfl
def f4_48:AC:=.cond (.r 83) f4_49 .skip
theorem f4_48e:CN f4_48 83 f4_49 .skip:=rfl
def f4_46:AC:=.seq f4_47 f4_48
theorem f4_46e:SQ f4_46 f4_47 f4_48:=rfl
def f4_44:AC:=.seq f4_45 f4_46
theorem f4_44e:SQ f4_44 f4_45 f4_46:=rfl
def f4_42:AC:=.seq f4_43 f4_44
theorem f4_42e:SQ f4_42 f4_43 f4_44:=rfl
def f4_40:AC:=.seq f4_41 f4_42
theorem f4_40e:SQ f4_40 f4_41 f4_42:=rfl
def f4_38:AC:=.seq f4_39 f4_40
theorem f4_38e:SQ f4_38 f4_39 f4_40:=rfl
def f4_53l:List GI:=[vd 84 9 0,
    vl 85 84,
    vb 86 .eql 85 0]
def f4_53:AC:=.ops [1,5,7,8,9,10,86] [7,9,10] f4_53l
theorem f4_53e:OP f4_53 f4_53l [1,5,7,8,9,10,86] [7,9,10]:=rfl
def f4_55l:List GI:=[⟨none,.load (some 88) (.r 7) (some 7)⟩,
    vd 89 9 1,
    vl 90 89,
    ⟨none,.call (some 91) false (.f 26) [(.r 88),(.r 90)]⟩,
    vv 87 91,
    ve 92 87 0,
    ve 93 87 1,
    ⟨none,.store 7 (.r 7) (.r 92)⟩,
    ⟨none,.store 4 (.r 10) (.r 93)⟩]
def f4_55:AC:=.ops [1,5,7,8,9,10] [7,9,10] f4_55l
theorem f4_55e:OP f4_55 f4_55l [1,5,7,8,9,10] [7,9,10]:=rfl
def f4_56l:List GI:=[⟨none,.load (some 95) (.r 7) (some 7)⟩,
    vd 96 9 1,
    vl 97 96,
    ⟨none,.call (some 98) false (.f 27) [(.r 95),(.r 97)]⟩,
    vv 94 98,
    ve 99 94 0,
    ve 100 94 1,
    ⟨none,.store 7 (.r 7) (.r 99)⟩,
    ⟨none,.store 4 (.r 10) (.r 100)⟩]
def f4_56:AC:=.ops [1,5,7,8,9,10] [7,9,10] f4_56l
theorem f4_56e:OP f4_56 f4_56l [1,5,7,8,9,10] [7,9,10]:=rfl
def f4_54:AC:=.cond (.r 86) f4_55 f4_56
theorem f4_54e:CN f4_54 86 f4_55 f4_56:=rfl
def f4_52:AC:=.seq f4_53 f4_54
theorem f4_52e:SQ f4_52 f4_53 f4_54:=rfl
def f4_58h:List GI:=[vv 101 5,
    ⟨none,.load (some 102) (.r 9) (some 4)⟩]
def f4_58p:List (Bool×GI):=[(false,⟨none,.load (some 104) (.r 10) (some 4)⟩)]
def f4_58l:List GI:=[⟨none,.call (some 105) false (.f 28) [(.r 103),(.r 104)]⟩,
    ⟨none,.un (some 106) .not (.r 105)⟩]
def f4_58:AC:=.drawM [1,5,7,8,106] [7] f4_58h (some 103) (.f 13) [(.r 101),(.r 102)] f4_58p f4_58l
theorem f4_58e:aC P id m f4_58 sf st Q = (m = false∧drawM P id f4_58h (some 103) (.f 13) [(.r 101),(.r 102)] f4_58p sf st (ge P id m [1,5,7,8,106] [7] f4_58l Q)):=rfl
def f4_61l:List GI:=[⟨none,.mv (some 4) (.c (.lit (.bool false)))⟩]
def f4_61:AC:=.ops [4] [] f4_61l
theorem f4_61e:OP f4_61 f4_61l [4] []:=rfl
def f4_60:AC:=.seq f4_61 .ret
theorem f4_60e:SQ f4_60 f4_61 .ret:=rfl
def f4_59:AC:=.cond (.r 106) f4_60 .skip
theorem f4_59e:CN f4_59 106 f4_60 .skip:=rfl
def f4_57:AC:=.seq f4_58 f4_59
theorem f4_57e:SQ f4_57 f4_58 f4_59:=rfl
def f4_51:AC:=.seq f4_52 f4_57
theorem f4_51e:SQ f4_51 f4_52 f4_57:=rfl
def f4_37:AC:=.cond (.r 72) f4_38 f4_51
theorem f4_37e:CN f4_37 72 f4_38 f4_51:=rfl
def f4_35:AC:=.seq f4_36 f4_37
theorem f4_35e:SQ f4_35 f4_36 f4_37:=rfl
def f4_63h:List GI:=[vv 107 5,
    ⟨none,.call (some 108) true (.f 15) [(.r 107)]⟩,
    vd 109 7 2,
    vl 110 109,
    ⟨none,.bin (some 111) .num .neq (.r 108) (.r 110)⟩,
    vv 112 111,
    ⟨some (112,false),.mv (some 113) (.r 5)⟩,
    ⟨some (112,false),.call (some 114) true (.f 14) [(.r 113)]⟩,
    ⟨some (112,false),.addr (some 115) (.r 7) 5⟩,
    ⟨some (112,false),.load (some 116) (.r 115) none⟩,
    ⟨some (112,false),.len (some 117) .sl (.r 116)⟩]
def f4_63l:List GI:=[⟨some (112,false),.bin (some 118) .num .neq (.r 114) (.r 117)⟩,
    ⟨none,.pick (some 119) (.r 112) (.c (.lit (.bool true))) (.r 118)⟩]
def f4_63:AC:=.draw [1,5,7,8,119] [7] [] f4_63h f4_63l
theorem f4_63e:aC P id m f4_63 sf st Q = br P id sf.locs st f4_63h (cX P id m [] [1,5,7,8,119] [7] f4_63l Q st) [] ⟨sf.regs,bE [] sf.locs⟩:=rfl
def f4_66l:List GI:=[⟨none,.mv (some 4) (.c (.lit (.bool false)))⟩]
def f4_66:AC:=.ops [4] [] f4_66l
theorem f4_66e:OP f4_66 f4_66l [4] []:=rfl
def f4_65:AC:=.seq f4_66 .ret
theorem f4_65e:SQ f4_65 f4_66 .ret:=rfl
def f4_64:AC:=.cond (.r 119) f4_65 .skip
theorem f4_64e:CN f4_64 119 f4_65 .skip:=rfl
def f4_62:AC:=.seq f4_63 f4_64
theorem f4_62e:SQ f4_62 f4_63 f4_64:=rfl
def f4_34:AC:=.seq f4_35 f4_62
theorem f4_34e:SQ f4_34 f4_35 f4_62:=rfl
def f4_32:AC:=.seq f4_33 f4_34
theorem f4_32e:SQ f4_32 f4_33 f4_34:=rfl
def f4_30:AC:=.seq f4_31 f4_32
theorem f4_30e:SQ f4_30 f4_31 f4_32:=rfl
def f4_29:AC:=.block 1 f4_30
theorem f4_29e:BL f4_29 f4_30 1:=rfl
def f4_67l:List GI:=[vv 59 8,
    vb 60 .add 59 1,
    vo 8 60]
def f4_67:AC:=.ops [1,5,7,8] [7] f4_67l
theorem f4_67e:OP f4_67 f4_67l [1,5,7,8] [7]:=rfl
def f4_28:AC:=.seq f4_29 f4_67
theorem f4_28e:SQ f4_28 f4_29 f4_67:=rfl
def f4_24:AC:=.seq f4_25 f4_28
theorem f4_24e:SQ f4_24 f4_25 f4_28:=rfl
def f4_23:AC:=.loop [1,5,7,8] [7] f4_24
theorem f4_23w:aC P id m f4_23 sf st Q = cR (aC P id m f4_24) [1,5,7,8] [7] sf st Q:=rfl
def f4_22:AC:=.block 0 f4_23
theorem f4_22e:BL f4_22 f4_23 0:=rfl
def f4_20:AC:=.seq f4_21 f4_22
theorem f4_20e:SQ f4_20 f4_21 f4_22:=rfl
def f4_69l:List GI:=[⟨none,.call (some 120) false (.f 10) []⟩,
    vo 4 120]
def f4_69:AC:=.ops [4] [] f4_69l
theorem f4_69e:OP f4_69 f4_69l [4] []:=rfl
def f4_68:AC:=.seq f4_69 .ret
theorem f4_68e:SQ f4_68 f4_69 .ret:=rfl
def f4_19:AC:=.seq f4_20 f4_68
theorem f4_19e:SQ f4_19 f4_20 f4_68:=rfl
def f4_17:AC:=.seq f4_18 f4_19
theorem f4_17e:SQ f4_17 f4_18 f4_19:=rfl
def f4_11:AC:=.seq f4_12 f4_17
theorem f4_11e:SQ f4_11 f4_12 f4_17:=rfl
def f4_5:AC:=.seq f4_6 f4_11
theorem f4_5e:SQ f4_5 f4_6 f4_11:=rfl
def f4_3:AC:=.seq f4_4 f4_5
theorem f4_3e:SQ f4_3 f4_4 f4_5:=rfl
def f4_1:AC:=.seq f4_2 f4_3
theorem f4_1e:SQ f4_1 f4_2 f4_3:=rfl
def c_f4:AFun:=⟨121,[.tmp 4],f4_1⟩
theorem k_f4:a7 Go.Proofs.Try.prog x_f4 4 = some c_f4:=by kernel_rfl
theorem e_f4:aJ Go.Proofs.Try.prog 4 = true:=by kernel_rfl

def n_f9:Nat:=9
def x_f9:Cx:=⟨some,id,14,fun s=>([0,2,3,4,5,6,7,8,10,11,12,13]:List Nat).contains s,fun s=>([]:List Nat).contains s,msOf [(2,[0],[]),(12,[0,9],[]),(52,[2,3],[]),(14,[2,3],[])]⟩
def f9_2l:List GI:=[⟨none,.mv (some 2) (.c (.lit (.pointer none)))⟩,
    ⟨none,.mv (some 3) (.c (.lit (.int .i64 0)))⟩]
def f9_2:AC:=.ops [0] [] f9_2l
theorem f9_2e:OP f9_2 f9_2l [0] []:=rfl
def f9_5l:List GI:=[vv 4 0,
    vb 5 .lss 4 1,
    vv 6 5,
    ⟨some (6,false),.mv (some 7) (.r 0)⟩,
    ⟨some (6,false),.bin (some 8) .num .gtr (.r 7) (.c (.lit (.int .i64 64)))⟩,
    ⟨none,.pick (some 9) (.r 6) (.c (.lit (.bool true))) (.r 8)⟩]
def f9_5:AC:=.ops [0,9] [] f9_5l
theorem f9_5e:OP f9_5 f9_5l [0,9] []:=rfl
def f9_8l:List GI:=[⟨none,.mv (some 2) (.c (.lit (.pointer none)))⟩,
    ⟨none,.mv (some 3) (.c (.lit (.int .i64 2)))⟩]
def f9_8:AC:=.ops [2,3] [] f9_8l
theorem f9_8e:OP f9_8 f9_8l [2,3] []:=rfl
def f9_7:AC:=.seq f9_8 .ret
theorem f9_7e:SQ f9_7 f9_8 .ret:=rfl
def f9_6:AC:=.cond (.r 9) f9_7 .skip
theorem f9_6e:CN f9_6 9 f9_7 .skip:=rfl
def f9_4:AC:=.seq f9_5 f9_6
theorem f9_4e:SQ f9_4 f9_5 f9_6:=rfl
def f9_10l:List GI:=[vv 10 0,
    ⟨none,.call (some 11) false (.f 51) []⟩,
    ⟨none,.bst (some 12) [(0,1),(1,1),(2,1)] (.agg [(.lit (.int .i64 0)),(.lit (.int .i64 0)),(.lit (.pointer none))]) [(0,(.r 10)),(1,(.c (.lit (.int .i64 0)))),(2,(.r 11))]⟩,
    ⟨none,.boxB 13 3 (.r 12)⟩,
    vo 2 13,
    ⟨none,.mv (some 3) (.c (.lit (.int .i64 0)))⟩]
def f9_10:AC:=.ops [2,3] [] f9_10l
theorem f9_10e:OP f9_10 f9_10l [2,3] []:=rfl
def f9_9:AC:=.seq f9_10 .ret
theorem f9_9e:SQ f9_9 f9_10 .ret:=rfl
def f9_3:AC:=.seq f9_4 f9_9
theorem f9_3e:SQ f9_3 f9_4 f9_9:=rfl
def f9_1:AC:=.seq f9_2 f9_3
theorem f9_1e:SQ f9_1 f9_2 f9_3:=rfl
def c_f9:AFun:=⟨14,[.tmp 2,.tmp 3],f9_1⟩
theorem k_f9:a7 Go.Proofs.Try.prog x_f9 9 = some c_f9:=by kernel_rfl
theorem e_f9:aJ Go.Proofs.Try.prog 9 = true:=by kernel_rfl

def n_f10:Nat:=10
def x_f10:Cx:=⟨some,id,176,fun s=>([0,1,2,3,4,5,6,7,9,10,11,12,13,14,15,16,17,18,19,20,21,22,23,24,25,26,27,28,29,30,31,32,33,34,35,36,37,38,39,40,41,42,43,45,46,47,48,49,50,51,52,53,54,55,56,57,58,59,60,62,63,64,66,68,69,71,73,74,76,77,78,79,80,81,82,83,84,85,86,87,88,89,91,92,93,95,97,98,100,102,103,105,106,107,108,109,110,111,112,113,114,115,116,117,118,119,120,121,122,123,125,126,127,129,131,132,134,136,137,139,140,141,142,143,144,145,146,147,148,149,150,151,152,153,154,155,156,157,159,160,161,163,165,166,168,170,171,173,174,175]:List Nat).contains s,fun s=>([69,98,132,166]:List Nat).contains s,msOf [(2,[],[]),(6,[1,2],[]),(14,[1,2,3,4],[]),(30,[1,2,3,4,5,6],[]),(124,[1,3,5,6,44],[]),(500,[0],[]),(126,[1,3,5,6,7],[]),(254,[1,3,5,6,7,8],[]),(1020,[1,3,5,6,7,8,9],[]),(2042,[1,3,5,6,7,8,9],[]),(16336,[1,3,5,6,7,8,9,61],[]),(32675,[3,5,6],[]),(65352,[1,3,5,6,7,8,9,75],[]),(261412,[0],[]),(16339,[1,3,5,6,7,8,9],[]),(1022,[3,5,6,7],[]),(2046,[3,5,6,7,8],[]),(8188,[3,5,6,7,8,10],[]),(16378,[3,5,6,7,8,10],[]),(131024,[3,5,6,7,8,10,90],[]),(262051,[3,5,6],[]),(524104,[3,5,6,7,8,10,104],[]),(2096420,[0],[]),(131027,[3,5,6,7,8,10],[]),(8190,[3,5,6,7],[]),(16382,[3,5,6,7,8],[]),(65532,[3,5,6,7,8,11],[]),(131066,[3,5,6,7,8,11],[]),(1048528,[3,5,6,7,8,11,124],[]),(2097059,[3,6],[]),(4194120,[3,5,6,7,8,11,138],[]),(16776484,[0],[]),(1048531,[3,5,6,7,8,11],[]),(65534,[3,6,7],[]),(131070,[3,6,7,8],[]),(524284,[3,6,7,8,12],[]),(1048570,[3,6,7,8,12],[]),(8388560,[3,6,7,8,12,158],[]),(16777123,[3],[]),(33554248,[3,6,7,8,12,172],[]),(134216996,[0],[]),(8388563,[3,6,7,8,12],[]),(524286,[0],[])]⟩
def f10_2l:List GI:=[⟨none,.mv (some 0) (.c (.lit (.bool false)))⟩]
def f10_2:AC:=.ops [] [] f10_2l
theorem f10_2e:OP f10_2 f10_2l [] []:=rfl
def f10_4l:List GI:=[⟨none,.call (some 14) false (.f 35) [(.c (.lit (.int .i64 2)))]⟩,
    vv 13 14,
    ve 15 13 0,
    ve 16 13 1,
    vo 1 15,
    vo 2 16]
def f10_4:AC:=.ops [1,2] [] f10_4l
theorem f10_4e:OP f10_4 f10_4l [1,2] []:=rfl
def f10_6l:List GI:=[⟨none,.call (some 18) false (.f 9) [(.c (.lit (.int .i64 3)))]⟩,
    vv 17 18,
    ve 19 17 0,
    ve 20 17 1,
    vo 3 19,
    vo 4 20]
def f10_6:AC:=.ops [1,2,3,4] [] f10_6l
theorem f10_6e:OP f10_6 f10_6l [1,2,3,4] []:=rfl
def f10_8l:List GI:=[⟨none,.call (some 21) false (.f 11) []⟩,
    ⟨none,.call (some 22) false (.f 12) []⟩,
    vo 5 21,
    vo 6 22]
def f10_8:AC:=.ops [1,2,3,4,5,6] [] f10_8l
theorem f10_8e:OP f10_8 f10_8l [1,2,3,4,5,6] []:=rfl
def f10_11l:List GI:=[vv 23 2,
    vb 24 .neq 23 0,
    vv 25 24,
    ⟨some (25,false),.mv (some 26) (.r 4)⟩,
    ⟨some (25,false),.bin (some 27) .num .neq (.r 26) (.c (.lit (.int .i64 0)))⟩,
    ⟨none,.pick (some 28) (.r 25) (.c (.lit (.bool true))) (.r 27)⟩,
    vv 29 28,
    ⟨some (29,false),.mv (some 30) (.r 1)⟩,
    ⟨some (29,false),.bin (some 31) (.nil .ptr) .eql (.r 30) (.c (.lit (.pointer none)))⟩,
    ⟨none,.pick (some 32) (.r 29) (.c (.lit (.bool true))) (.r 31)⟩,
    vv 33 32,
    ⟨some (33,false),.mv (some 34) (.r 3)⟩,
    ⟨some (33,false),.bin (some 35) (.nil .ptr) .eql (.r 34) (.c (.lit (.pointer none)))⟩,
    ⟨none,.pick (some 36) (.r 33) (.c (.lit (.bool true))) (.r 35)⟩,
    vv 37 36,
    ⟨some (37,false),.mv (some 38) (.r 5)⟩,
    ⟨some (37,false),.bin (some 39) (.nil .ptr) .eql (.r 38) (.c (.lit (.pointer none)))⟩,
    ⟨none,.pick (some 40) (.r 37) (.c (.lit (.bool true))) (.r 39)⟩,
    vv 41 40,
    ⟨some (41,false),.mv (some 42) (.r 6)⟩,
    ⟨some (41,false),.bin (some 43) (.nil .ptr) .eql (.r 42) (.c (.lit (.pointer none)))⟩,
    ⟨none,.pick (some 44) (.r 41) (.c (.lit (.bool true))) (.r 43)⟩]
def f10_11:AC:=.ops [1,3,5,6,44] [] f10_11l
theorem f10_11e:OP f10_11 f10_11l [1,3,5,6,44] []:=rfl
def f10_14l:List GI:=[⟨none,.mv (some 0) (.c (.lit (.bool false)))⟩]
def f10_14:AC:=.ops [0] [] f10_14l
theorem f10_14e:OP f10_14 f10_14l [0] []:=rfl
def f10_13:AC:=.seq f10_14 .ret
theorem f10_13e:SQ f10_13 f10_14 .ret:=rfl
def f10_12:AC:=.cond (.r 44) f10_13 .skip
theorem f10_12e:CN f10_12 44 f10_13 .skip:=rfl
def f10_10:AC:=.seq f10_11 f10_12
theorem f10_10e:SQ f10_10 f10_11 f10_12:=rfl
def f10_16l:List GI:=[⟨none,.bst (some 45) [(0,1),(1,1),(2,1),(3,1)] (.agg [(.lit (.int .i64 0)),(.lit (.int .i64 0)),(.lit (.int .i64 0)),(.lit (.bool false))]) [(0,(.c (.lit (.int .i64 0)))),(1,(.c (.lit (.int .i64 5)))),(2,(.c (.lit (.int .i64 0)))),(3,(.c (.lit (.bool false))))]⟩,
    ⟨none,.bst (some 46) [(0,1),(1,1),(2,1),(3,1)] (.agg [(.lit (.int .i64 0)),(.lit (.int .i64 0)),(.lit (.int .i64 0)),(.lit (.bool false))]) [(0,(.c (.lit (.int .i64 1)))),(1,(.c (.lit (.int .i64 0)))),(2,(.c (.lit (.int .i64 1)))),(3,(.c (.lit (.bool false))))]⟩,
    ⟨none,.bst (some 47) [(0,1),(1,1),(2,1),(3,1)] (.agg [(.lit (.int .i64 0)),(.lit (.int .i64 0)),(.lit (.int .i64 0)),(.lit (.bool false))]) [(0,(.c (.lit (.int .i64 1)))),(1,(.c (.lit (.int .i64 0)))),(2,(.c (.lit (.int .i64 2)))),(3,(.c (.lit (.bool false))))]⟩,
    ⟨none,.bst (some 48) [(0,1),(1,1),(2,1),(3,1)] (.agg [(.lit (.int .i64 0)),(.lit (.int .i64 0)),(.lit (.int .i64 0)),(.lit (.bool false))]) [(0,(.c (.lit (.int .i64 1)))),(1,(.c (.lit (.int .i64 0)))),(2,(.c (.lit (.int .i64 1)))),(3,(.c (.lit (.bool false))))]⟩,
    ⟨none,.bst (some 49) [(0,1),(1,1),(2,1),(3,1)] (.agg [(.lit (.int .i64 0)),(.lit (.int .i64 0)),(.lit (.int .i64 0)),(.lit (.bool false))]) [(0,(.c (.lit (.int .i64 0)))),(1,(.c (.lit (.int .i64 5)))),(2,(.c (.lit (.int .i64 0)))),(3,(.c (.lit (.bool false))))]⟩,
    ⟨none,.bsl (some 50) 4 5 (.agg [(.lit (.int .i64 0)),(.lit (.int .i64 0)),(.lit (.int .i64 0)),(.lit (.bool false))]) [(0,(.r 45)),(1,(.r 46)),(2,(.r 47)),(3,(.r 48)),(4,(.r 49))]⟩,
    vo 7 50]
def f10_16:AC:=.ops [1,3,5,6,7] [] f10_16l
theorem f10_16e:OP f10_16 f10_16l [1,3,5,6,7] []:=rfl
def f10_18l:List GI:=[⟨none,.bst (some 51) [(0,1),(1,1),(2,1),(3,1)] (.agg [(.lit (.bool false)),(.lit (.bool false)),(.lit (.slice none 0 0)),(.lit (.int .i64 0))]) []⟩,
    ⟨none,.bst (some 52) [(0,1),(1,1),(2,1),(3,1)] (.agg [(.lit (.bool false)),(.lit (.bool false)),(.lit (.slice none 0 0)),(.lit (.int .i64 0))]) []⟩,
    ⟨none,.call (some 53) false (.f 50) [(.c (.lit (.int .i64 3)))]⟩,
    ⟨none,.bsl (some 54) 1 1 (.lit (.int .i64 0)) [(0,(.c (.lit (.int .i64 5))))]⟩,
    ⟨none,.call (some 55) false (.f 52) [(.r 54)]⟩,
    ⟨none,.bst (some 56) [(0,1),(1,1),(2,1),(3,1)] (.agg [(.lit (.bool false)),(.lit (.bool false)),(.lit (.slice none 0 0)),(.lit (.int .i64 0))]) [(1,(.c (.lit (.bool true))))]⟩,
    ⟨none,.bsl (some 57) 4 5 (.agg [(.lit (.bool false)),(.lit (.bool false)),(.lit (.slice none 0 0)),(.lit (.int .i64 0))]) [(0,(.r 51)),(1,(.r 52)),(2,(.r 53)),(3,(.r 55)),(4,(.r 56))]⟩,
    vo 8 57]
def f10_18:AC:=.ops [1,3,5,6,7,8] [] f10_18l
theorem f10_18e:OP f10_18 f10_18l [1,3,5,6,7,8] []:=rfl
def f10_21l:List GI:=[⟨none,.mv (some 9) (.c (.lit (.int .i64 0)))⟩]
def f10_21:AC:=.ops [1,3,5,6,7,8,9] [] f10_21l
theorem f10_21e:OP f10_21 f10_21l [1,3,5,6,7,8,9] []:=rfl
def f10_26l:List GI:=[vv 58 9,
    vv 59 7,
    ⟨none,.len (some 60) .sl (.r 59)⟩,
    ⟨none,.bin (some 61) .num .lss (.r 58) (.r 60)⟩]
def f10_26:AC:=.ops [1,3,5,6,7,8,9,61] [] f10_26l
theorem f10_26e:OP f10_26 f10_26l [1,3,5,6,7,8,9,61] []:=rfl
def f10_27:AC:=.cond (.r 61) .skip (.exit [3,5,6] [] 0)
theorem f10_27e:CN f10_27 61 .skip (.exit [3,5,6] [] 0):=rfl
def f10_25:AC:=.seq f10_26 f10_27
theorem f10_25e:SQ f10_25 f10_26 f10_27:=rfl
def f10_31h:List GI:=[vv 64 1,
    vv 65 7,
    vv 66 9,
    ⟨none,.ixS (some 67) (.r 65) (.r 66) 4⟩,
    ⟨none,.load (some 68) (.r 67) (some 4)⟩]
def f10_31p:List (Bool×GI):=[(false,vv 70 8),
    (false,vv 71 9),
    (false,⟨none,.ixS (some 72) (.r 70) (.r 71) 4⟩),
    (false,⟨none,.load (some 73) (.r 72) (some 4)⟩)]
def f10_31l:List GI:=[⟨none,.call (some 74) false (.f 28) [(.r 69),(.r 73)]⟩,
    ⟨none,.un (some 75) .not (.r 74)⟩]
def f10_31:AC:=.drawM [1,3,5,6,7,8,9,75] [] f10_31h (some 69) (.f 41) [(.r 64),(.r 68)] f10_31p f10_31l
theorem f10_31e:aC P id m f10_31 sf st Q = (m = false∧drawM P id f10_31h (some 69) (.f 41) [(.r 64),(.r 68)] f10_31p sf st (ge P id m [1,3,5,6,7,8,9,75] [] f10_31l Q)):=rfl
def f10_34l:List GI:=[⟨none,.mv (some 0) (.c (.lit (.bool false)))⟩]
def f10_34:AC:=.ops [0] [] f10_34l
theorem f10_34e:OP f10_34 f10_34l [0] []:=rfl
def f10_33:AC:=.seq f10_34 .ret
theorem f10_33e:SQ f10_33 f10_34 .ret:=rfl
def f10_32:AC:=.cond (.r 75) f10_33 .skip
theorem f10_32e:CN f10_32 75 f10_33 .skip:=rfl
def f10_30:AC:=.seq f10_31 f10_32
theorem f10_30e:SQ f10_30 f10_31 f10_32:=rfl
def f10_29:AC:=.block 1 f10_30
theorem f10_29e:BL f10_29 f10_30 1:=rfl
def f10_35l:List GI:=[vv 62 9,
    vb 63 .add 62 1,
    vo 9 63]
def f10_35:AC:=.ops [1,3,5,6,7,8,9] [] f10_35l
theorem f10_35e:OP f10_35 f10_35l [1,3,5,6,7,8,9] []:=rfl
def f10_28:AC:=.seq f10_29 f10_35
theorem f10_28e:SQ f10_28 f10_29 f10_35:=rfl
def f10_24:AC:=.seq f10_25 f10_28
theorem f10_24e:SQ f10_24 f10_25 f10_28:=rfl
def f10_23:AC:=.loop [1,3,5,6,7,8,9] [] f10_24
theorem f10_23w:aC P id m f10_23 sf st Q = cR (aC P id m f10_24) [1,3,5,6,7,8,9] [] sf st Q:=rfl
def f10_22:AC:=.block 0 f10_23
theorem f10_22e:BL f10_22 f10_23 0:=rfl
def f10_20:AC:=.seq f10_21 f10_22
theorem f10_20e:SQ f10_20 f10_21 f10_22:=rfl
def f10_37l:List GI:=[⟨none,.bst (some 76) [(0,1),(1,1),(2,1),(3,1)] (.agg [(.lit (.int .i64 0)),(.lit (.int .i64 0)),(.lit (.int .i64 0)),(.lit (.bool false))]) [(0,(.c (.lit (.int .i64 0)))),(1,(.c (.lit (.int .i64 1)))),(2,(.c (.lit (.int .i64 0)))),(3,(.c (.lit (.bool false))))]⟩,
    ⟨none,.bst (some 77) [(0,1),(1,1),(2,1),(3,1)] (.agg [(.lit (.int .i64 0)),(.lit (.int .i64 0)),(.lit (.int .i64 0)),(.lit (.bool false))]) [(0,(.c (.lit (.int .i64 0)))),(1,(.c (.lit (.int .i64 2)))),(2,(.c (.lit (.int .i64 0)))),(3,(.c (.lit (.bool false))))]⟩,
    ⟨none,.bst (some 78) [(0,1),(1,1),(2,1),(3,1)] (.agg [(.lit (.int .i64 0)),(.lit (.int .i64 0)),(.lit (.int .i64 0)),(.lit (.bool false))]) [(0,(.c (.lit (.int .i64 0)))),(1,(.c (.lit (.int .i64 1)))),(2,(.c (.lit (.int .i64 0)))),(3,(.c (.lit (.bool false))))]⟩,
    ⟨none,.bst (some 79) [(0,1),(1,1),(2,1),(3,1)] (.agg [(.lit (.int .i64 0)),(.lit (.int .i64 0)),(.lit (.int .i64 0)),(.lit (.bool false))]) [(0,(.c (.lit (.int .i64 0)))),(1,(.c (.lit (.int .i64 0)))),(2,(.c (.lit (.int .i64 0)))),(3,(.c (.lit (.bool false))))]⟩,
    ⟨none,.bsl (some 80) 4 4 (.agg [(.lit (.int .i64 0)),(.lit (.int .i64 0)),(.lit (.int .i64 0)),(.lit (.bool false))]) [(0,(.r 76)),(1,(.r 77)),(2,(.r 78)),(3,(.r 79))]⟩,
    vo 7 80]
def f10_37:AC:=.ops [3,5,6,7] [] f10_37l
theorem f10_37e:OP f10_37 f10_37l [3,5,6,7] []:=rfl
def f10_39l:List GI:=[⟨none,.bst (some 81) [(0,1),(1,1),(2,1),(3,1)] (.agg [(.lit (.bool false)),(.lit (.bool false)),(.lit (.slice none 0 0)),(.lit (.int .i64 0))]) []⟩,
    ⟨none,.bst (some 82) [(0,1),(1,1),(2,1),(3,1)] (.agg [(.lit (.bool false)),(.lit (.bool false)),(.lit (.slice none 0 0)),(.lit (.int .i64 0))]) []⟩,
    ⟨none,.call (some 83) false (.f 50) [(.c (.lit (.int .i64 11)))]⟩,
    ⟨none,.bsl (some 84) 1 2 (.lit (.int .i64 0)) [(0,(.c (.lit (.int .i64 1)))),(1,(.c (.lit (.int .i64 2))))]⟩,
    ⟨none,.bst (some 85) [(0,1),(1,1),(2,1),(3,1)] (.agg [(.lit (.bool false)),(.lit (.bool false)),(.lit (.slice none 0 0)),(.lit (.int .i64 0))]) [(1,(.c (.lit (.bool true)))),(2,(.r 84))]⟩,
    ⟨none,.bsl (some 86) 4 4 (.agg [(.lit (.bool false)),(.lit (.bool false)),(.lit (.slice none 0 0)),(.lit (.int .i64 0))]) [(0,(.r 81)),(1,(.r 82)),(2,(.r 83)),(3,(.r 85))]⟩,
    vo 8 86]
def f10_39:AC:=.ops [3,5,6,7,8] [] f10_39l
theorem f10_39e:OP f10_39 f10_39l [3,5,6,7,8] []:=rfl
def f10_42l:List GI:=[⟨none,.mv (some 10) (.c (.lit (.int .i64 0)))⟩]
def f10_42:AC:=.ops [3,5,6,7,8,10] [] f10_42l
theorem f10_42e:OP f10_42 f10_42l [3,5,6,7,8,10] []:=rfl
def f10_47l:List GI:=[vv 87 10,
    vv 88 7,
    ⟨none,.len (some 89) .sl (.r 88)⟩,
    ⟨none,.bin (some 90) .num .lss (.r 87) (.r 89)⟩]
def f10_47:AC:=.ops [3,5,6,7,8,10,90] [] f10_47l
theorem f10_47e:OP f10_47 f10_47l [3,5,6,7,8,10,90] []:=rfl
def f10_48:AC:=.cond (.r 90) .skip (.exit [3,5,6] [] 2)
theorem f10_48e:CN f10_48 90 .skip (.exit [3,5,6] [] 2):=rfl
def f10_46:AC:=.seq f10_47 f10_48
theorem f10_46e:SQ f10_46 f10_47 f10_48:=rfl
def f10_52h:List GI:=[vv 93 3,
    vv 94 7,
    vv 95 10,
    ⟨none,.ixS (some 96) (.r 94) (.r 95) 4⟩,
    ⟨none,.load (some 97) (.r 96) (some 4)⟩]
def f10_52p:List (Bool×GI):=[(false,vv 99 8),
    (false,vv 100 10),
    (false,⟨none,.ixS (some 101) (.r 99) (.r 100) 4⟩),
    (false,⟨none,.load (some 102) (.r 101) (some 4)⟩)]
def f10_52l:List GI:=[⟨none,.call (some 103) false (.f 28) [(.r 98),(.r 102)]⟩,
    ⟨none,.un (some 104) .not (.r 103)⟩]
def f10_52:AC:=.drawM [3,5,6,7,8,10,104] [] f10_52h (some 98) (.f 13) [(.r 93),(.r 97)] f10_52p f10_52l
theorem f10_52e:aC P id m f10_52 sf st Q = (m = false∧drawM P id f10_52h (some 98) (.f 13) [(.r 93),(.r 97)] f10_52p sf st (ge P id m [3,5,6,7,8,10,104] [] f10_52l Q)):=rfl
def f10_55l:List GI:=[⟨none,.mv (some 0) (.c (.lit (.bool false)))⟩]
def f10_55:AC:=.ops [0] [] f10_55l
theorem f10_55e:OP f10_55 f10_55l [0] []:=rfl
def f10_54:AC:=.seq f10_55 .ret
theorem f10_54e:SQ f10_54 f10_55 .ret:=rfl
def f10_53:AC:=.cond (.r 104) f10_54 .skip
theorem f10_53e:CN f10_53 104 f10_54 .skip:=rfl
def f10_51:AC:=.seq f10_52 f10_53
theorem f10_51e:SQ f10_51 f10_52 f10_53:=rfl
def f10_50:AC:=.block 3 f10_51
theorem f10_50e:BL f10_50 f10_51 3:=rfl
def f10_56l:List GI:=[vv 91 10,
    vb 92 .add 91 1,
    vo 10 92]
def f10_56:AC:=.ops [3,5,6,7,8,10] [] f10_56l
theorem f10_56e:OP f10_56 f10_56l [3,5,6,7,8,10] []:=rfl
def f10_49:AC:=.seq f10_50 f10_56
theorem f10_49e:SQ f10_49 f10_50 f10_56:=rfl
def f10_45:AC:=.seq f10_46 f10_49
theorem f10_45e:SQ f10_45 f10_46 f10_49:=rfl
def f10_44:AC:=.loop [3,5,6,7,8,10] [] f10_45
theorem f10_44w:aC P id m f10_44 sf st Q = cR (aC P id m f10_45) [3,5,6,7,8,10] [] sf st Q:=rfl
def f10_43:AC:=.block 2 f10_44
theorem f10_43e:BL f10_43 f10_44 2:=rfl
def f10_41:AC:=.seq f10_42 f10_43
theorem f10_41e:SQ f10_41 f10_42 f10_43:=rfl
def f10_58l:List GI:=[⟨none,.bst (some 105) [(0,1),(1,1),(2,1),(3,1)] (.agg [(.lit (.int .i64 0)),(.lit (.int .i64 0)),(.lit (.int .i64 0)),(.lit (.bool false))]) [(0,(.c (.lit (.int .i64 0)))),(1,(.c (.lit (.int .i64 1)))),(2,(.c (.lit (.int .i64 0)))),(3,(.c (.lit (.bool false))))]⟩,
    ⟨none,.bst (some 106) [(0,1),(1,1),(2,1),(3,1)] (.agg [(.lit (.int .i64 0)),(.lit (.int .i64 0)),(.lit (.int .i64 0)),(.lit (.bool false))]) [(0,(.c (.lit (.int .i64 0)))),(1,(.c (.lit (.int .i64 2)))),(2,(.c (.lit (.int .i64 0)))),(3,(.c (.lit (.bool false))))]⟩,
    ⟨none,.bst (some 107) [(0,1),(1,1),(2,1),(3,1)] (.agg [(.lit (.int .i64 0)),(.lit (.int .i64 0)),(.lit (.int .i64 0)),(.lit (.bool false))]) [(0,(.c (.lit (.int .i64 0)))),(1,(.c (.lit (.int .i64 3)))),(2,(.c (.lit (.int .i64 0)))),(3,(.c (.lit (.bool false))))]⟩,
    ⟨none,.bst (some 108) [(0,1),(1,1),(2,1),(3,1)] (.agg [(.lit (.int .i64 0)),(.lit (.int .i64 0)),(.lit (.int .i64 0)),(.lit (.bool false))]) [(0,(.c (.lit (.int .i64 1)))),(1,(.c (.lit (.int .i64 1)))),(2,(.c (.lit (.int .i64 0)))),(3,(.c (.lit (.bool false))))]⟩,
    ⟨none,.bst (some 109) [(0,1),(1,1),(2,1),(3,1)] (.agg [(.lit (.int .i64 0)),(.lit (.int .i64 0)),(.lit (.int .i64 0)),(.lit (.bool false))]) [(0,(.c (.lit (.int .i64 1)))),(1,(.c (.lit (.int .i64 2)))),(2,(.c (.lit (.int .i64 0)))),(3,(.c (.lit (.bool true))))]⟩,
    ⟨none,.bst (some 110) [(0,1),(1,1),(2,1),(3,1)] (.agg [(.lit (.int .i64 0)),(.lit (.int .i64 0)),(.lit (.int .i64 0)),(.lit (.bool false))]) [(0,(.c (.lit (.int .i64 0)))),(1,(.c (.lit (.int .i64 1)))),(2,(.c (.lit (.int .i64 0)))),(3,(.c (.lit (.bool false))))]⟩,
    ⟨none,.bsl (some 111) 4 6 (.agg [(.lit (.int .i64 0)),(.lit (.int .i64 0)),(.lit (.int .i64 0)),(.lit (.bool false))]) [(0,(.r 105)),(1,(.r 106)),(2,(.r 107)),(3,(.r 108)),(4,(.r 109)),(5,(.r 110))]⟩,
    vo 7 111]
def f10_58:AC:=.ops [3,5,6,7] [] f10_58l
theorem f10_58e:OP f10_58 f10_58l [3,5,6,7] []:=rfl
def f10_60l:List GI:=[⟨none,.bst (some 112) [(0,1),(1,1),(2,1),(3,1)] (.agg [(.lit (.bool false)),(.lit (.bool false)),(.lit (.slice none 0 0)),(.lit (.int .i64 0))]) [(0,(.c (.lit (.bool true))))]⟩,
    ⟨none,.bst (some 113) [(0,1),(1,1),(2,1),(3,1)] (.agg [(.lit (.bool false)),(.lit (.bool false)),(.lit (.slice none 0 0)),(.lit (.int .i64 0))]) []⟩,
    ⟨none,.bst (some 114) [(0,1),(1,1),(2,1),(3,1)] (.agg [(.lit (.bool false)),(.lit (.bool false)),(.lit (.slice none 0 0)),(.lit (.int .i64 0))]) []⟩,
    ⟨none,.bsl (some 115) 1 1 (.lit (.int .i64 0)) [(0,(.c (.lit (.int .i64 2))))]⟩,
    ⟨none,.call (some 116) false (.f 52) [(.r 115)]⟩,
    ⟨none,.bsl (some 117) 1 1 (.lit (.int .i64 0)) [(0,(.c (.lit (.int .i64 3))))]⟩,
    ⟨none,.call (some 118) false (.f 52) [(.r 117)]⟩,
    ⟨none,.bst (some 119) [(0,1),(1,1),(2,1),(3,1)] (.agg [(.lit (.bool false)),(.lit (.bool false)),(.lit (.slice none 0 0)),(.lit (.int .i64 0))]) [(1,(.c (.lit (.bool true))))]⟩,
    ⟨none,.bsl (some 120) 4 6 (.agg [(.lit (.bool false)),(.lit (.bool false)),(.lit (.slice none 0 0)),(.lit (.int .i64 0))]) [(0,(.r 112)),(1,(.r 113)),(2,(.r 114)),(3,(.r 116)),(4,(.r 118)),(5,(.r 119))]⟩,
    vo 8 120]
def f10_60:AC:=.ops [3,5,6,7,8] [] f10_60l
theorem f10_60e:OP f10_60 f10_60l [3,5,6,7,8] []:=rfl
def f10_63l:List GI:=[⟨none,.mv (some 11) (.c (.lit (.int .i64 0)))⟩]
def f10_63:AC:=.ops [3,5,6,7,8,11] [] f10_63l
theorem f10_63e:OP f10_63 f10_63l [3,5,6,7,8,11] []:=rfl
def f10_68l:List GI:=[vv 121 11,
    vv 122 7,
    ⟨none,.len (some 123) .sl (.r 122)⟩,
    ⟨none,.bin (some 124) .num .lss (.r 121) (.r 123)⟩]
def f10_68:AC:=.ops [3,5,6,7,8,11,124] [] f10_68l
theorem f10_68e:OP f10_68 f10_68l [3,5,6,7,8,11,124] []:=rfl
def f10_69:AC:=.cond (.r 124) .skip (.exit [3,6] [] 4)
theorem f10_69e:CN f10_69 124 .skip (.exit [3,6] [] 4):=rfl
def f10_67:AC:=.seq f10_68 f10_69
theorem f10_67e:SQ f10_67 f10_68 f10_69:=rfl
def f10_73h:List GI:=[vv 127 5,
    vv 128 7,
    vv 129 11,
    ⟨none,.ixS (some 130) (.r 128) (.r 129) 4⟩,
    ⟨none,.load (some 131) (.r 130) (some 4)⟩]
def f10_73p:List (Bool×GI):=[(false,vv 133 8),
    (false,vv 134 11),
    (false,⟨none,.ixS (some 135) (.r 133) (.r 134) 4⟩),
    (false,⟨none,.load (some 136) (.r 135) (some 4)⟩)]
def f10_73l:List GI:=[⟨none,.call (some 137) false (.f 28) [(.r 132),(.r 136)]⟩,
    ⟨none,.un (some 138) .not (.r 137)⟩]
def f10_73:AC:=.drawM [3,5,6,7,8,11,138] [] f10_73h (some 132) (.f 16) [(.r 127),(.r 131)] f10_73p f10_73l
theorem f10_73e:aC P id m f10_73 sf st Q = (m = false∧drawM P id f10_73h (some 132) (.f 16) [(.r 127),(.r 131)] f10_73p sf st (ge P id m [3,5,6,7,8,11,138] [] f10_73l Q)):=rfl
def f10_76l:List GI:=[⟨none,.mv (some 0) (.c (.lit (.bool false)))⟩]
def f10_76:AC:=.ops [0] [] f10_76l
theorem f10_76e:OP f10_76 f10_76l [0] []:=rfl
def f10_75:AC:=.seq f10_76 .ret
theorem f10_75e:SQ f10_75 f10_76 .ret:=rfl
def f10_74:AC:=.cond (.r 138) f10_75 .skip
theorem f10_74e:CN f10_74 138 f10_75 .skip:=rfl
def f10_72:AC:=.seq f10_73 f10_74
theorem f10_72e:SQ f10_72 f10_73 f10_74:=rfl
def f10_71:AC:=.block 5 f10_72
theorem f10_71e:BL f10_71 f10_72 5:=rfl
def f10_77l:List GI:=[vv 125 11,
    vb 126 .add 125 1,
    vo 11 126]
def f10_77:AC:=.ops [3,5,6,7,8,11] [] f10_77l
theorem f10_77e:OP f10_77 f10_77l [3,5,6,7,8,11] []:=rfl
def f10_70:AC:=.seq f10_71 f10_77
theorem f10_70e:SQ f10_70 f10_71 f10_77:=rfl
def f10_66:AC:=.seq f10_67 f10_70
theorem f10_66e:SQ f10_66 f10_67 f10_70:=rfl
def f10_65:AC:=.loop [3,5,6,7,8,11] [] f10_66
theorem f10_65w:aC P id m f10_65 sf st Q = cR (aC P id m f10_66) [3,5,6,7,8,11] [] sf st Q:=rfl
def f10_64:AC:=.block 4 f10_65
theorem f10_64e:BL f10_64 f10_65 4:=rfl
def f10_62:AC:=.seq f10_63 f10_64
theorem f10_62e:SQ f10_62 f10_63 f10_64:=rfl
def f10_79l:List GI:=[⟨none,.bst (some 139) [(0,1),(1,1),(2,1),(3,1)] (.agg [(.lit (.int .i64 0)),(.lit (.int .i64 0)),(.lit (.int .i64 0)),(.lit (.bool false))]) [(0,(.c (.lit (.int .i64 0)))),(1,(.c (.lit (.int .i64 1)))),(2,(.c (.lit (.int .i64 0)))),(3,(.c (.lit (.bool false))))]⟩,
    ⟨none,.bst (some 140) [(0,1),(1,1),(2,1),(3,1)] (.agg [(.lit (.int .i64 0)),(.lit (.int .i64 0)),(.lit (.int .i64 0)),(.lit (.bool false))]) [(0,(.c (.lit (.int .i64 0)))),(1,(.c (.lit (.int .i64 2)))),(2,(.c (.lit (.int .i64 0)))),(3,(.c (.lit (.bool false))))]⟩,
    ⟨none,.bst (some 141) [(0,1),(1,1),(2,1),(3,1)] (.agg [(.lit (.int .i64 0)),(.lit (.int .i64 0)),(.lit (.int .i64 0)),(.lit (.bool false))]) [(0,(.c (.lit (.int .i64 2)))),(1,(.c (.lit (.int .i64 1)))),(2,(.c (.lit (.int .i64 0)))),(3,(.c (.lit (.bool false))))]⟩,
    ⟨none,.bst (some 142) [(0,1),(1,1),(2,1),(3,1)] (.agg [(.lit (.int .i64 0)),(.lit (.int .i64 0)),(.lit (.int .i64 0)),(.lit (.bool false))]) [(0,(.c (.lit (.int .i64 3)))),(1,(.c (.lit (.int .i64 0)))),(2,(.c (.lit (.int .i64 0)))),(3,(.c (.lit (.bool false))))]⟩,
    ⟨none,.bst (some 143) [(0,1),(1,1),(2,1),(3,1)] (.agg [(.lit (.int .i64 0)),(.lit (.int .i64 0)),(.lit (.int .i64 0)),(.lit (.bool false))]) [(0,(.c (.lit (.int .i64 1)))),(1,(.c (.lit (.int .i64 2)))),(2,(.c (.lit (.int .i64 0)))),(3,(.c (.lit (.bool false))))]⟩,
    ⟨none,.bst (some 144) [(0,1),(1,1),(2,1),(3,1)] (.agg [(.lit (.int .i64 0)),(.lit (.int .i64 0)),(.lit (.int .i64 0)),(.lit (.bool false))]) [(0,(.c (.lit (.int .i64 1)))),(1,(.c (.lit (.int .i64 2)))),(2,(.c (.lit (.int .i64 0)))),(3,(.c (.lit (.bool false))))]⟩,
    ⟨none,.bsl (some 145) 4 6 (.agg [(.lit (.int .i64 0)),(.lit (.int .i64 0)),(.lit (.int .i64 0)),(.lit (.bool false))]) [(0,(.r 139)),(1,(.r 140)),(2,(.r 141)),(3,(.r 142)),(4,(.r 143)),(5,(.r 144))]⟩,
    vo 7 145]
def f10_79:AC:=.ops [3,6,7] [] f10_79l
theorem f10_79e:OP f10_79 f10_79l [3,6,7] []:=rfl
def f10_81l:List GI:=[⟨none,.bst (some 146) [(0,1),(1,1),(2,1),(3,1)] (.agg [(.lit (.bool false)),(.lit (.bool false)),(.lit (.slice none 0 0)),(.lit (.int .i64 0))]) [(1,(.c (.lit (.bool true))))]⟩,
    ⟨none,.bst (some 147) [(0,1),(1,1),(2,1),(3,1)] (.agg [(.lit (.bool false)),(.lit (.bool false)),(.lit (.slice none 0 0)),(.lit (.int .i64 0))]) []⟩,
    ⟨none,.bsl (some 148) 1 1 (.lit (.int .i64 0)) [(0,(.c (.lit (.int .i64 2))))]⟩,
    ⟨none,.call (some 149) false (.f 52) [(.r 148)]⟩,
    ⟨none,.bst (some 150) [(0,1),(1,1),(2,1),(3,1)] (.agg [(.lit (.bool false)),(.lit (.bool false)),(.lit (.slice none 0 0)),(.lit (.int .i64 0))]) []⟩,
    ⟨none,.bsl (some 151) 1 1 (.lit (.int .i64 0)) [(0,(.c (.lit (.int .i64 1))))]⟩,
    ⟨none,.call (some 152) false (.f 52) [(.r 151)]⟩,
    ⟨none,.call (some 153) false (.f 50) [(.c (.lit (.int .i64 8)))]⟩,
    ⟨none,.bsl (some 154) 4 6 (.agg [(.lit (.bool false)),(.lit (.bool false)),(.lit (.slice none 0 0)),(.lit (.int .i64 0))]) [(0,(.r 146)),(1,(.r 147)),(2,(.r 149)),(3,(.r 150)),(4,(.r 152)),(5,(.r 153))]⟩,
    vo 8 154]
def f10_81:AC:=.ops [3,6,7,8] [] f10_81l
theorem f10_81e:OP f10_81 f10_81l [3,6,7,8] []:=rfl
def f10_84l:List GI:=[⟨none,.mv (some 12) (.c (.lit (.int .i64 0)))⟩]
def f10_84:AC:=.ops [3,6,7,8,12] [] f10_84l
theorem f10_84e:OP f10_84 f10_84l [3,6,7,8,12] []:=rfl
def f10_89l:List GI:=[vv 155 12,
    vv 156 7,
    ⟨none,.len (some 157) .sl (.r 156)⟩,
    ⟨none,.bin (some 158) .num .lss (.r 155) (.r 157)⟩]
def f10_89:AC:=.ops [3,6,7,8,12,158] [] f10_89l
theorem f10_89e:OP f10_89 f10_89l [3,6,7,8,12,158] []:=rfl
def f10_90:AC:=.cond (.r 158) .skip (.exit [3] [] 6)
theorem f10_90e:CN f10_90 158 .skip (.exit [3] [] 6):=rfl
def f10_88:AC:=.seq f10_89 f10_90
theorem f10_88e:SQ f10_88 f10_89 f10_90:=rfl
def f10_94h:List GI:=[vv 161 6,
    vv 162 7,
    vv 163 12,
    ⟨none,.ixS (some 164) (.r 162) (.r 163) 4⟩,
    ⟨none,.load (some 165) (.r 164) (some 4)⟩]
def f10_94p:List (Bool×GI):=[(false,vv 167 8),
    (false,vv 168 12),
    (false,⟨none,.ixS (some 169) (.r 167) (.r 168) 4⟩),
    (false,⟨none,.load (some 170) (.r 169) (some 4)⟩)]
def f10_94l:List GI:=[⟨none,.call (some 171) false (.f 28) [(.r 166),(.r 170)]⟩,
    ⟨none,.un (some 172) .not (.r 171)⟩]
def f10_94:AC:=.drawM [3,6,7,8,12,172] [] f10_94h (some 166) (.f 18) [(.r 161),(.r 165)] f10_94p f10_94l
theorem f10_94e:aC P id m f10_94 sf st Q = (m = false∧drawM P id f10_94h (some 166) (.f 18) [(.r 161),(.r 165)] f10_94p sf st (ge P id m [3,6,7,8,12,172] [] f10_94l Q)):=rfl
def f10_97l:List GI:=[⟨none,.mv (some 0) (.c (.lit (.bool false)))⟩]
def f10_97:AC:=.ops [0] [] f10_97l
theorem f10_97e:OP f10_97 f10_97l [0] []:=rfl
def f10_96:AC:=.seq f10_97 .ret
theorem f10_96e:SQ f10_96 f10_97 .ret:=rfl
def f10_95:AC:=.cond (.r 172) f10_96 .skip
theorem f10_95e:CN f10_95 172 f10_96 .skip:=rfl
def f10_93:AC:=.seq f10_94 f10_95
theorem f10_93e:SQ f10_93 f10_94 f10_95:=rfl
def f10_92:AC:=.block 7 f10_93
theorem f10_92e:BL f10_92 f10_93 7:=rfl
def f10_98l:List GI:=[vv 159 12,
    vb 160 .add 159 1,
    vo 12 160]
def f10_98:AC:=.ops [3,6,7,8,12] [] f10_98l
theorem f10_98e:OP f10_98 f10_98l [3,6,7,8,12] []:=rfl
def f10_91:AC:=.seq f10_92 f10_98
theorem f10_91e:SQ f10_91 f10_92 f10_98:=rfl
def f10_87:AC:=.seq f10_88 f10_91
theorem f10_87e:SQ f10_87 f10_88 f10_91:=rfl
def f10_86:AC:=.loop [3,6,7,8,12] [] f10_87
theorem f10_86w:aC P id m f10_86 sf st Q = cR (aC P id m f10_87) [3,6,7,8,12] [] sf st Q:=rfl
def f10_85:AC:=.block 6 f10_86
theorem f10_85e:BL f10_85 f10_86 6:=rfl
def f10_83:AC:=.seq f10_84 f10_85
theorem f10_83e:SQ f10_83 f10_84 f10_85:=rfl
def f10_100l:List GI:=[vv 173 3,
    ⟨none,.call (some 174) false (.f 15) [(.r 173)]⟩,
    vb 175 .eql 174 1,
    vo 0 175]
def f10_100:AC:=.ops [0] [] f10_100l
theorem f10_100e:OP f10_100 f10_100l [0] []:=rfl
def f10_99:AC:=.seq f10_100 .ret
theorem f10_99e:SQ f10_99 f10_100 .ret:=rfl
def f10_82:AC:=.seq f10_83 f10_99
theorem f10_82e:SQ f10_82 f10_83 f10_99:=rfl
def f10_80:AC:=.seq f10_81 f10_82
theorem f10_80e:SQ f10_80 f10_81 f10_82:=rfl
def f10_78:AC:=.seq f10_79 f10_80
theorem f10_78e:SQ f10_78 f10_79 f10_80:=rfl
def f10_61:AC:=.seq f10_62 f10_78
theorem f10_61e:SQ f10_61 f10_62 f10_78:=rfl
def f10_59:AC:=.seq f10_60 f10_61
theorem f10_59e:SQ f10_59 f10_60 f10_61:=rfl
def f10_57:AC:=.seq f10_58 f10_59
theorem f10_57e:SQ f10_57 f10_58 f10_59:=rfl
def f10_40:AC:=.seq f10_41 f10_57
theorem f10_40e:SQ f10_40 f10_41 f10_57:=rfl
def f10_38:AC:=.seq f10_39 f10_40
theorem f10_38e:SQ f10_38 f10_39 f10_40:=rfl
def f10_36:AC:=.seq f10_37 f10_38
theorem f10_36e:SQ f10_36 f10_37 f10_38:=rfl
def f10_19:AC:=.seq f10_20 f10_36
theorem f10_19e:SQ f10_19 f10_20 f10_36:=rfl
def f10_17:AC:=.seq f10_18 f10_19
theorem f10_17e:SQ f10_17 f10_18 f10_19:=rfl
def f10_15:AC:=.seq f10_16 f10_17
theorem f10_15e:SQ f10_15 f10_16 f10_17:=rfl
def f10_9:AC:=.seq f10_10 f10_15
theorem f10_9e:SQ f10_9 f10_10 f10_15:=rfl
def f10_7:AC:=.seq f10_8 f10_9
theorem f10_7e:SQ f10_7 f10_8 f10_9:=rfl
def f10_5:AC:=.seq f10_6 f10_7
theorem f10_5e:SQ f10_5 f10_6 f10_7:=rfl
def f10_3:AC:=.seq f10_4 f10_5
theorem f10_3e:SQ f10_3 f10_4 f10_5:=rfl
def f10_1:AC:=.seq f10_2 f10_3
theorem f10_1e:SQ f10_1 f10_2 f10_3:=rfl
def c_f10:AFun:=⟨176,[.tmp 0],f10_1⟩
theorem k_f10:a7 Go.Proofs.Try.prog x_f10 10 = some c_f10:=by kernel_rfl
theorem e_f10:aJ Go.Proofs.Try.prog 10 = true:=by kernel_rfl

def n_f11:Nat:=11
def x_f11:Cx:=⟨some,id,5,fun s=>([0,1,2,3,4]:List Nat).contains s,fun s=>([]:List Nat).contains s,msOf [(2,[],[]),(6,[0],[])]⟩
def f11_2l:List GI:=[⟨none,.mv (some 0) (.c (.lit (.pointer none)))⟩]
def f11_2:AC:=.ops [] [] f11_2l
theorem f11_2e:OP f11_2 f11_2l [] []:=rfl
def f11_4l:List GI:=[⟨none,.call (some 1) false (.f 51) []⟩,
    ⟨none,.bst (some 2) [(0,1),(1,1)] (.agg [(.lit (.int .i64 0)),(.lit (.pointer none))]) [(0,(.c (.lit (.int .i64 (-1))))),(1,(.r 1))]⟩,
    ⟨none,.bst (some 3) [(0,2),(2,1)] (.agg [(.lit (.int .i64 0)),(.lit (.pointer none)),(.lit (.bool false))]) [(0,(.r 2))]⟩,
    ⟨none,.boxB 4 3 (.r 3)⟩,
    vo 0 4]
def f11_4:AC:=.ops [0] [] f11_4l
theorem f11_4e:OP f11_4 f11_4l [0] []:=rfl
def f11_3:AC:=.seq f11_4 .ret
theorem f11_3e:SQ f11_3 f11_4 .ret:=rfl
def f11_1:AC:=.seq f11_2 f11_3
theorem f11_1e:SQ f11_1 f11_2 f11_3:=rfl
def c_f11:AFun:=⟨5,[.tmp 0],f11_1⟩
theorem k_f11:a7 Go.Proofs.Try.prog x_f11 11 = some c_f11:=by kernel_rfl
theorem e_f11:aJ Go.Proofs.Try.prog 11 = true:=by kernel_rfl

def n_f12:Nat:=12
def x_f12:Cx:=⟨some,id,6,fun s=>([0,1,2,3,4,5]:List Nat).contains s,fun s=>([]:List Nat).contains s,msOf [(2,[],[]),(6,[0],[])]⟩
def f12_2l:List GI:=[⟨none,.mv (some 0) (.c (.lit (.pointer none)))⟩]
def f12_2:AC:=.ops [] [] f12_2l
theorem f12_2e:OP f12_2 f12_2l [] []:=rfl
def f12_4l:List GI:=[⟨none,.call (some 1) false (.f 51) []⟩,
    ⟨none,.bst (some 2) [(0,1),(1,1)] (.agg [(.lit (.int .i64 0)),(.lit (.pointer none))]) [(0,(.c (.lit (.int .i64 (-1))))),(1,(.r 1))]⟩,
    ⟨none,.call (some 3) false (.f 51) []⟩,
    ⟨none,.bst (some 4) [(0,2),(2,1)] (.agg [(.lit (.int .i64 0)),(.lit (.pointer none)),(.lit (.pointer none))]) [(0,(.r 2)),(1,(.r 3))]⟩,
    ⟨none,.boxB 5 3 (.r 4)⟩,
    vo 0 5]
def f12_4:AC:=.ops [0] [] f12_4l
theorem f12_4e:OP f12_4 f12_4l [0] []:=rfl
def f12_3:AC:=.seq f12_4 .ret
theorem f12_3e:SQ f12_3 f12_4 .ret:=rfl
def f12_1:AC:=.seq f12_2 f12_3
theorem f12_1e:SQ f12_1 f12_2 f12_3:=rfl
def c_f12:AFun:=⟨6,[.tmp 0],f12_1⟩
theorem k_f12:a7 Go.Proofs.Try.prog x_f12 12 = some c_f12:=by kernel_rfl
theorem e_f12:aJ Go.Proofs.Try.prog 12 = true:=by kernel_rfl

def n_f13:Nat:=13
def x_f13:Cx:=⟨some,id,28,fun s=>([0,1,5,6,7,9,11,12,14,15,16,17,18,19,20,21,22,23,25,26,27]:List Nat).contains s,fun s=>([]:List Nat).contains s,msOf [(2,[0,3,4],[3,4]),(12,[0,3,4,10],[3,4]),(52,[4,5,6,7],[4]),(106,[4],[4]),(14,[4],[4])]⟩
def f13_2l:List GI:=[⟨none,.boxL 3 4 (.r 1)⟩,
    ⟨none,.newL 4 [(.lit (.bool false)),(.lit (.bool false)),(.lit (.slice none 0 0)),(.lit (.int .i64 0))]⟩]
def f13_2:AC:=.ops [0,3,4] [3,4] f13_2l
theorem f13_2e:OP f13_2 f13_2l [0,3,4] [3,4]:=rfl
def f13_5l:List GI:=[vd 8 3 0,
    vl 9 8,
    vb 10 .eql 9 0]
def f13_5:AC:=.ops [0,3,4,10] [3,4] f13_5l
theorem f13_5e:OP f13_5 f13_5l [0,3,4,10] [3,4]:=rfl
def f13_8l:List GI:=[vv 12 0,
    vd 13 3 1,
    vl 14 13,
    ⟨none,.call (some 15) false (.f 25) [(.r 12),(.r 14)]⟩,
    vv 11 15,
    ve 16 11 0,
    ve 17 11 1,
    ve 18 11 2,
    vo 5 16,
    vo 6 17,
    vo 7 18]
def f13_8:AC:=.ops [4,5,6,7] [4] f13_8l
theorem f13_8e:OP f13_8 f13_8l [4,5,6,7] [4]:=rfl
def f13_10l:List GI:=[vv 19 5,
    vv 20 6,
    vv 21 7,
    ⟨none,.bst (some 22) [(0,1),(1,1),(2,1),(3,1)] (.agg [(.lit (.bool false)),(.lit (.bool false)),(.lit (.slice none 0 0)),(.lit (.int .i64 0))]) [(1,(.r 19)),(2,(.r 20)),(3,(.r 21))]⟩,
    ⟨none,.store 4 (.r 4) (.r 22)⟩]
def f13_10:AC:=.ops [4] [4] f13_10l
theorem f13_10e:OP f13_10 f13_10l [4] [4]:=rfl
def f13_9:AC:=.seq f13_10 .ret
theorem f13_9e:SQ f13_9 f13_10 .ret:=rfl
def f13_7:AC:=.seq f13_8 f13_9
theorem f13_7e:SQ f13_7 f13_8 f13_9:=rfl
def f13_6:AC:=.cond (.r 10) f13_7 .skip
theorem f13_6e:CN f13_6 10 f13_7 .skip:=rfl
def f13_4:AC:=.seq f13_5 f13_6
theorem f13_4e:SQ f13_4 f13_5 f13_6:=rfl
def f13_12l:List GI:=[vv 23 0,
    vd 24 3 1,
    vl 25 24,
    ⟨none,.call (some 26) false (.f 53) [(.r 23),(.r 25)]⟩,
    ⟨none,.bst (some 27) [(0,1),(1,1),(2,1),(3,1)] (.agg [(.lit (.bool false)),(.lit (.bool false)),(.lit (.slice none 0 0)),(.lit (.int .i64 0))]) [(3,(.r 26))]⟩,
    ⟨none,.store 4 (.r 4) (.r 27)⟩]
def f13_12:AC:=.ops [4] [4] f13_12l
theorem f13_12e:OP f13_12 f13_12l [4] [4]:=rfl
def f13_11:AC:=.seq f13_12 .ret
theorem f13_11e:SQ f13_11 f13_12 .ret:=rfl
def f13_3:AC:=.seq f13_4 f13_11
theorem f13_3e:SQ f13_3 f13_4 f13_11:=rfl
def f13_1:AC:=.seq f13_2 f13_3
theorem f13_1e:SQ f13_1 f13_2 f13_3:=rfl
def c_f13:AFun:=⟨28,[.cell 4 (some 4)],f13_1⟩
theorem k_f13:a7 Go.Proofs.Try.prog x_f13 13 = some c_f13:=by kernel_rfl
theorem e_f13:aJ Go.Proofs.Try.prog 13 = true:=by kernel_rfl

def n_f14:Nat:=14
def x_f14:Cx:=⟨some,id,13,fun s=>([0,2,3,11,12]:List Nat).contains s,fun s=>([]:List Nat).contains s,msOf [(2,[0],[]),(12,[0,4],[]),(52,[2],[]),(14,[2],[])]⟩
def f14_2l:List GI:=[⟨none,.mv (some 2) (.c (.lit (.int .i64 0)))⟩]
def f14_2:AC:=.ops [0] [] f14_2l
theorem f14_2e:OP f14_2 f14_2l [0] []:=rfl
def f14_5l:List GI:=[vv 3 0,
    ⟨none,.call (some 4) false (.f 54) [(.r 3)]⟩]
def f14_5:AC:=.ops [0,4] [] f14_5l
theorem f14_5e:OP f14_5 f14_5l [0,4] []:=rfl
def f14_8l:List GI:=[⟨none,.mv (some 2) (.c (.lit (.int .i64 0)))⟩]
def f14_8:AC:=.ops [2] [] f14_8l
theorem f14_8e:OP f14_8 f14_8l [2] []:=rfl
def f14_7:AC:=.seq f14_8 .ret
theorem f14_7e:SQ f14_7 f14_8 .ret:=rfl
def f14_6:AC:=.cond (.r 4) f14_7 .skip
theorem f14_6e:CN f14_6 4 f14_7 .skip:=rfl
def f14_4:AC:=.seq f14_5 f14_6
theorem f14_4e:SQ f14_4 f14_5 f14_6:=rfl
def f14_10l:List GI:=[vv 5 0,
    vn 6 5,
    vd 7 6 2,
    vl 8 7,
    vn 9 8,
    vd 10 9 0,
    vl 11 10,
    ⟨none,.call (some 12) false (.f 55) [(.r 11)]⟩,
    vo 2 12]
def f14_10:AC:=.ops [2] [] f14_10l
theorem f14_10e:OP f14_10 f14_10l [2] []:=rfl
def f14_9:AC:=.seq f14_10 .ret
theorem f14_9e:SQ f14_9 f14_10 .ret:=rfl
def f14_3:AC:=.seq f14_4 f14_9
theorem f14_3e:SQ f14_3 f14_4 f14_9:=rfl
def f14_1:AC:=.seq f14_2 f14_3
theorem f14_1e:SQ f14_1 f14_2 f14_3:=rfl
def c_f14:AFun:=⟨13,[.tmp 2],f14_1⟩
theorem k_f14:a7 Go.Proofs.Try.prog x_f14 14 = some c_f14:=by kernel_rfl
theorem e_f14:aJ Go.Proofs.Try.prog 14 = true:=by kernel_rfl

def n_f15:Nat:=15
def x_f15:Cx:=⟨some,id,9,fun s=>([0,2,3,8]:List Nat).contains s,fun s=>([]:List Nat).contains s,msOf [(2,[0],[]),(12,[0,4],[]),(52,[2],[]),(14,[2],[])]⟩
def f15_2l:List GI:=[⟨none,.mv (some 2) (.c (.lit (.int .i64 0)))⟩]
def f15_2:AC:=.ops [0] [] f15_2l
theorem f15_2e:OP f15_2 f15_2l [0] []:=rfl
def f15_5l:List GI:=[vv 3 0,
    ⟨none,.call (some 4) false (.f 54) [(.r 3)]⟩]
def f15_5:AC:=.ops [0,4] [] f15_5l
theorem f15_5e:OP f15_5 f15_5l [0,4] []:=rfl
def f15_8l:List GI:=[⟨none,.mv (some 2) (.c (.lit (.int .i64 0)))⟩]
def f15_8:AC:=.ops [2] [] f15_8l
theorem f15_8e:OP f15_8 f15_8l [2] []:=rfl
def f15_7:AC:=.seq f15_8 .ret
theorem f15_7e:SQ f15_7 f15_8 .ret:=rfl
def f15_6:AC:=.cond (.r 4) f15_7 .skip
theorem f15_6e:CN f15_6 4 f15_7 .skip:=rfl
def f15_4:AC:=.seq f15_5 f15_6
theorem f15_4e:SQ f15_4 f15_5 f15_6:=rfl
def f15_10l:List GI:=[vv 5 0,
    vn 6 5,
    vd 7 6 1,
    vl 8 7,
    vo 2 8]
def f15_10:AC:=.ops [2] [] f15_10l
theorem f15_10e:OP f15_10 f15_10l [2] []:=rfl
def f15_9:AC:=.seq f15_10 .ret
theorem f15_9e:SQ f15_9 f15_10 .ret:=rfl
def f15_3:AC:=.seq f15_4 f15_9
theorem f15_3e:SQ f15_3 f15_4 f15_9:=rfl
def f15_1:AC:=.seq f15_2 f15_3
theorem f15_1e:SQ f15_1 f15_2 f15_3:=rfl
def c_f15:AFun:=⟨9,[.tmp 2],f15_1⟩
theorem k_f15:a7 Go.Proofs.Try.prog x_f15 15 = some c_f15:=by kernel_rfl
theorem e_f15:aJ Go.Proofs.Try.prog 15 = true:=by kernel_rfl

def n_f16:Nat:=16
def x_f16:Cx:=⟨some,id,45,fun s=>([0,1,5,6,7,8,9,11,13,14,15,17,18,19,20,21,22,23,24,25,27,28,29,31,33,34,35,36,37,38,39,40,42,43,44]:List Nat).contains s,fun s=>([]:List Nat).contains s,msOf [(2,[0,3,4],[3,4]),(12,[0,3,4,11],[3,4]),(52,[0,3,4,11,12],[3,4]),(212,[4,5,6,7],[4]),(426,[4],[4]),(214,[0,3,4,26],[3,4]),(860,[4,8,9],[4]),(1722,[4],[4]),(14,[4],[4])]⟩
def f16_2l:List GI:=[⟨none,.boxL 3 4 (.r 1)⟩,
    ⟨none,.newL 4 [(.lit (.bool false)),(.lit (.bool false)),(.lit (.slice none 0 0)),(.lit (.int .i64 0))]⟩]
def f16_2:AC:=.ops [0,3,4] [3,4] f16_2l
theorem f16_2e:OP f16_2 f16_2l [0,3,4] [3,4]:=rfl
def f16_5l:List GI:=[vd 10 3 0,
    vl 11 10]
def f16_5:AC:=.ops [0,3,4,11] [3,4] f16_5l
theorem f16_5e:OP f16_5 f16_5l [0,3,4,11] [3,4]:=rfl
def f16_8l:List GI:=[vb 13 .eql 11 0,
    vo 12 13]
def f16_8:AC:=.ops [0,3,4,11,12] [3,4] f16_8l
theorem f16_8e:OP f16_8 f16_8l [0,3,4,11,12] [3,4]:=rfl
def f16_11l:List GI:=[vv 15 0,
    vd 16 3 1,
    vl 17 16,
    ⟨none,.call (some 18) false (.f 30) [(.r 15),(.r 17)]⟩,
    vv 14 18,
    ve 19 14 0,
    ve 20 14 1,
    ve 21 14 2,
    vo 5 19,
    vo 6 20,
    vo 7 21]
def f16_11:AC:=.ops [4,5,6,7] [4] f16_11l
theorem f16_11e:OP f16_11 f16_11l [4,5,6,7] [4]:=rfl
def f16_13l:List GI:=[vv 22 5,
    vv 23 6,
    vv 24 7,
    ⟨none,.bst (some 25) [(0,1),(1,1),(2,1),(3,1)] (.agg [(.lit (.bool false)),(.lit (.bool false)),(.lit (.slice none 0 0)),(.lit (.int .i64 0))]) [(0,(.r 22)),(1,(.r 23)),(3,(.r 24))]⟩,
    ⟨none,.store 4 (.r 4) (.r 25)⟩]
def f16_13:AC:=.ops [4] [4] f16_13l
theorem f16_13e:OP f16_13 f16_13l [4] [4]:=rfl
def f16_12:AC:=.seq f16_13 .ret
theorem f16_12e:SQ f16_12 f16_13 .ret:=rfl
def f16_10:AC:=.seq f16_11 f16_12
theorem f16_10e:SQ f16_10 f16_11 f16_12:=rfl
def f16_15l:List GI:=[vb 27 .eql 11 1,
    vo 26 27]
def f16_15:AC:=.ops [0,3,4,26] [3,4] f16_15l
theorem f16_15e:OP f16_15 f16_15l [0,3,4,26] [3,4]:=rfl
def f16_18l:List GI:=[vv 29 0,
    vd 30 3 1,
    vl 31 30,
    vd 32 3 3,
    vl 33 32,
    ⟨none,.call (some 34) false (.f 31) [(.r 29),(.r 31),(.r 33)]⟩,
    vv 28 34,
    ve 35 28 0,
    ve 36 28 1,
    vo 8 35,
    vo 9 36]
def f16_18:AC:=.ops [4,8,9] [4] f16_18l
theorem f16_18e:OP f16_18 f16_18l [4,8,9] [4]:=rfl
def f16_20l:List GI:=[vv 37 8,
    vv 38 9,
    ⟨none,.bst (some 39) [(0,1),(1,1),(2,1),(3,1)] (.agg [(.lit (.bool false)),(.lit (.bool false)),(.lit (.slice none 0 0)),(.lit (.int .i64 0))]) [(2,(.r 37)),(3,(.r 38))]⟩,
    ⟨none,.store 4 (.r 4) (.r 39)⟩]
def f16_20:AC:=.ops [4] [4] f16_20l
theorem f16_20e:OP f16_20 f16_20l [4] [4]:=rfl
def f16_19:AC:=.seq f16_20 .ret
theorem f16_19e:SQ f16_19 f16_20 .ret:=rfl
def f16_17:AC:=.seq f16_18 f16_19
theorem f16_17e:SQ f16_17 f16_18 f16_19:=rfl
def f16_16:AC:=.cond (.r 26) f16_17 .skip
theorem f16_16e:CN f16_16 26 f16_17 .skip:=rfl
def f16_14:AC:=.seq f16_15 f16_16
theorem f16_14e:SQ f16_14 f16_15 f16_16:=rfl
def f16_9:AC:=.cond (.r 12) f16_10 f16_14
theorem f16_9e:CN f16_9 12 f16_10 f16_14:=rfl
def f16_7:AC:=.seq f16_8 f16_9
theorem f16_7e:SQ f16_7 f16_8 f16_9:=rfl
def f16_6:AC:=.block 0 f16_7
theorem f16_6e:BL f16_6 f16_7 0:=rfl
def f16_4:AC:=.seq f16_5 f16_6
theorem f16_4e:SQ f16_4 f16_5 f16_6:=rfl
def f16_22l:List GI:=[vv 40 0,
    vd 41 3 1,
    vl 42 41,
    ⟨none,.call (some 43) false (.f 56) [(.r 40),(.r 42)]⟩,
    ⟨none,.bst (some 44) [(0,1),(1,1),(2,1),(3,1)] (.agg [(.lit (.bool false)),(.lit (.bool false)),(.lit (.slice none 0 0)),(.lit (.int .i64 0))]) [(3,(.r 43))]⟩,
    ⟨none,.store 4 (.r 4) (.r 44)⟩]
def f16_22:AC:=.ops [4] [4] f16_22l
theorem f16_22e:OP f16_22 f16_22l [4] [4]:=rfl
def f16_21:AC:=.seq f16_22 .ret
theorem f16_21e:SQ f16_21 f16_22 .ret:=rfl
def f16_3:AC:=.seq f16_4 f16_21
theorem f16_3e:SQ f16_3 f16_4 f16_21:=rfl
def f16_1:AC:=.seq f16_2 f16_3
theorem f16_1e:SQ f16_1 f16_2 f16_3:=rfl
def c_f16:AFun:=⟨45,[.cell 4 (some 4)],f16_1⟩
theorem k_f16:a7 Go.Proofs.Try.prog x_f16 16 = some c_f16:=by kernel_rfl
theorem e_f16:aJ Go.Proofs.Try.prog 16 = true:=by kernel_rfl

def n_f18:Nat:=18
def x_f18:Cx:=⟨some,id,62,fun s=>([0,1,6,8,9,11,12,14,15,16,18,19,20,21,24,25,26,28,29,30,31,34,35,36,38,39,40,41,44,45,46,47,48,49,52,53,54,55,56,57,59,61]:List Nat).contains s,fun s=>([]:List Nat).contains s,msOf [(2,[0,3,4],[3,4]),(6,[0,3,4,5],[3,4,5]),(14,[0,3,4,5],[3,4,5]),(60,[0,3,4,5,8],[3,4,5]),(244,[0,3,4,5,8,13],[3,4,5]),(490,[4,5,6],[4,5]),(982,[0,3,4,5,8,23],[3,4,5]),(1966,[4,5,6],[4,5]),(3934,[0,3,4,5,8,33],[3,4,5]),(7870,[4,5,6],[4,5]),(15742,[0,3,4,5,8,43],[3,4,5]),(31486,[4,5,6],[4,5]),(62974,[0,3,4,5,51],[3,4,5]),(125950,[4,5,6],[4,5]),(125951,[4,5,6],[4,5]),(62,[4,5],[4,5]),(126,[4],[4])]⟩
def f18_2l:List GI:=[⟨none,.boxL 3 4 (.r 1)⟩,
    ⟨none,.newL 4 [(.lit (.bool false)),(.lit (.bool false)),(.lit (.slice none 0 0)),(.lit (.int .i64 0))]⟩]
def f18_2:AC:=.ops [0,3,4] [3,4] f18_2l
theorem f18_2e:OP f18_2 f18_2l [0,3,4] [3,4]:=rfl
def f18_4l:List GI:=[⟨none,.newL 5 [(.lit (.bool false)),(.lit (.bool false)),(.lit (.slice none 0 0)),(.lit (.int .i64 0))]⟩]
def f18_4:AC:=.ops [0,3,4,5] [3,4,5] f18_4l
theorem f18_4e:OP f18_4 f18_4l [0,3,4,5] [3,4,5]:=rfl
def f18_6l:List GI:=[⟨none,.mv (some 6) (.c (.lit (.int .i64 0)))⟩]
def f18_6:AC:=.ops [0,3,4,5] [3,4,5] f18_6l
theorem f18_6e:OP f18_6 f18_6l [0,3,4,5] [3,4,5]:=rfl
def f18_9l:List GI:=[vd 7 3 0,
    vl 8 7]
def f18_9:AC:=.ops [0,3,4,5,8] [3,4,5] f18_9l
theorem f18_9e:OP f18_9 f18_9l [0,3,4,5,8] [3,4,5]:=rfl
def f18_12l:List GI:=[vb 14 .eql 8 0,
    vo 13 14]
def f18_12:AC:=.ops [0,3,4,5,8,13] [3,4,5] f18_12l
theorem f18_12e:OP f18_12 f18_12l [0,3,4,5,8,13] [3,4,5]:=rfl
def f18_14l:List GI:=[vv 16 0,
    vd 17 3 1,
    vl 18 17,
    ⟨none,.call (some 19) false (.f 45) [(.r 16),(.r 18)]⟩,
    vv 15 19,
    ve 20 15 0,
    ve 21 15 1,
    vd 22 5 1,
    ⟨none,.store 1 (.r 22) (.r 20)⟩,
    vo 6 21]
def f18_14:AC:=.ops [4,5,6] [4,5] f18_14l
theorem f18_14e:OP f18_14 f18_14l [4,5,6] [4,5]:=rfl
def f18_16l:List GI:=[vb 24 .eql 8 1,
    vo 23 24]
def f18_16:AC:=.ops [0,3,4,5,8,23] [3,4,5] f18_16l
theorem f18_16e:OP f18_16 f18_16l [0,3,4,5,8,23] [3,4,5]:=rfl
def f18_18l:List GI:=[vv 26 0,
    vd 27 3 1,
    vl 28 27,
    ⟨none,.call (some 29) false (.f 58) [(.r 26),(.r 28)]⟩,
    vv 25 29,
    ve 30 25 0,
    ve 31 25 1,
    vd 32 5 2,
    ⟨none,.store 1 (.r 32) (.r 30)⟩,
    vo 6 31]
def f18_18:AC:=.ops [4,5,6] [4,5] f18_18l
theorem f18_18e:OP f18_18 f18_18l [4,5,6] [4,5]:=rfl
def f18_20l:List GI:=[vb 34 .eql 8 2,
    vo 33 34]
def f18_20:AC:=.ops [0,3,4,5,8,33] [3,4,5] f18_20l
theorem f18_20e:OP f18_20 f18_20l [0,3,4,5,8,33] [3,4,5]:=rfl
def f18_22l:List GI:=[vv 36 0,
    vd 37 3 1,
    vl 38 37,
    ⟨none,.call (some 39) false (.f 59) [(.r 36),(.r 38)]⟩,
    vv 35 39,
    ve 40 35 0,
    ve 41 35 1,
    vd 42 5 2,
    ⟨none,.store 1 (.r 42) (.r 40)⟩,
    vo 6 41]
def f18_22:AC:=.ops [4,5,6] [4,5] f18_22l
theorem f18_22e:OP f18_22 f18_22l [4,5,6] [4,5]:=rfl
def f18_24l:List GI:=[vb 44 .eql 8 3,
    vo 43 44]
def f18_24:AC:=.ops [0,3,4,5,8,43] [3,4,5] f18_24l
theorem f18_24e:OP f18_24 f18_24l [0,3,4,5,8,43] [3,4,5]:=rfl
def f18_26l:List GI:=[vv 46 0,
    ⟨none,.call (some 47) false (.f 60) [(.r 46)]⟩,
    vv 45 47,
    ve 48 45 0,
    ve 49 45 1,
    vd 50 5 2,
    ⟨none,.store 1 (.r 50) (.r 48)⟩,
    vo 6 49]
def f18_26:AC:=.ops [4,5,6] [4,5] f18_26l
theorem f18_26e:OP f18_26 f18_26l [4,5,6] [4,5]:=rfl
def f18_28l:List GI:=[vb 52 .eql 8 4,
    vo 51 52]
def f18_28:AC:=.ops [0,3,4,5,51] [3,4,5] f18_28l
theorem f18_28e:OP f18_28 f18_28l [0,3,4,5,51] [3,4,5]:=rfl
def f18_30l:List GI:=[vv 54 0,
    ⟨none,.call (some 55) false (.f 46) [(.r 54)]⟩,
    vv 53 55,
    ve 56 53 0,
    ve 57 53 1,
    vd 58 5 2,
    ⟨none,.store 1 (.r 58) (.r 56)⟩,
    vo 6 57]
def f18_30:AC:=.ops [4,5,6] [4,5] f18_30l
theorem f18_30e:OP f18_30 f18_30l [4,5,6] [4,5]:=rfl
def f18_31l:List GI:=[vv 9 0,
    vd 10 3 1,
    vl 11 10,
    ⟨none,.call (some 12) false (.f 61) [(.r 9),(.r 11)]⟩,
    vo 6 12]
def f18_31:AC:=.ops [4,5,6] [4,5] f18_31l
theorem f18_31e:OP f18_31 f18_31l [4,5,6] [4,5]:=rfl
def f18_29:AC:=.cond (.r 51) f18_30 f18_31
theorem f18_29e:CN f18_29 51 f18_30 f18_31:=rfl
def f18_27:AC:=.seq f18_28 f18_29
theorem f18_27e:SQ f18_27 f18_28 f18_29:=rfl
def f18_25:AC:=.cond (.r 43) f18_26 f18_27
theorem f18_25e:CN f18_25 43 f18_26 f18_27:=rfl
def f18_23:AC:=.seq f18_24 f18_25
theorem f18_23e:SQ f18_23 f18_24 f18_25:=rfl
def f18_21:AC:=.cond (.r 33) f18_22 f18_23
theorem f18_21e:CN f18_21 33 f18_22 f18_23:=rfl
def f18_19:AC:=.seq f18_20 f18_21
theorem f18_19e:SQ f18_19 f18_20 f18_21:=rfl
def f18_17:AC:=.cond (.r 23) f18_18 f18_19
theorem f18_17e:CN f18_17 23 f18_18 f18_19:=rfl
def f18_15:AC:=.seq f18_16 f18_17
theorem f18_15e:SQ f18_15 f18_16 f18_17:=rfl
def f18_13:AC:=.cond (.r 13) f18_14 f18_15
theorem f18_13e:CN f18_13 13 f18_14 f18_15:=rfl
def f18_11:AC:=.seq f18_12 f18_13
theorem f18_11e:SQ f18_11 f18_12 f18_13:=rfl
def f18_10:AC:=.block 0 f18_11
theorem f18_10e:BL f18_10 f18_11 0:=rfl
def f18_8:AC:=.seq f18_9 f18_10
theorem f18_8e:SQ f18_8 f18_9 f18_10:=rfl
def f18_33l:List GI:=[vv 59 6,
    vd 60 5 3,
    ⟨none,.store 1 (.r 60) (.r 59)⟩]
def f18_33:AC:=.ops [4,5] [4,5] f18_33l
theorem f18_33e:OP f18_33 f18_33l [4,5] [4,5]:=rfl
def f18_35l:List GI:=[⟨none,.load (some 61) (.r 5) (some 4)⟩,
    ⟨none,.store 4 (.r 4) (.r 61)⟩]
def f18_35:AC:=.ops [4] [4] f18_35l
theorem f18_35e:OP f18_35 f18_35l [4] [4]:=rfl
def f18_34:AC:=.seq f18_35 .ret
theorem f18_34e:SQ f18_34 f18_35 .ret:=rfl
def f18_32:AC:=.seq f18_33 f18_34
theorem f18_32e:SQ f18_32 f18_33 f18_34:=rfl
def f18_7:AC:=.seq f18_8 f18_32
theorem f18_7e:SQ f18_7 f18_8 f18_32:=rfl
def f18_5:AC:=.seq f18_6 f18_7
theorem f18_5e:SQ f18_5 f18_6 f18_7:=rfl
def f18_3:AC:=.seq f18_4 f18_5
theorem f18_3e:SQ f18_3 f18_4 f18_5:=rfl
def f18_1:AC:=.seq f18_2 f18_3
theorem f18_1e:SQ f18_1 f18_2 f18_3:=rfl
def c_f18:AFun:=⟨62,[.cell 4 (some 4)],f18_1⟩
theorem k_f18:a7 Go.Proofs.Try.prog x_f18 18 = some c_f18:=by kernel_rfl
theorem e_f18:aJ Go.Proofs.Try.prog 18 = true:=by kernel_rfl

def n_f21:Nat:=21
def x_f21:Cx:=⟨some,id,10,fun s=>([0,1,4,5,6,7,8,9]:List Nat).contains s,fun s=>([]:List Nat).contains s,msOf [(2,[0,1],[]),(6,[4],[])]⟩
def f21_2l:List GI:=[⟨none,.mv (some 4) (.c (.lit (.slice none 0 0)))⟩]
def f21_2:AC:=.ops [0,1] [] f21_2l
theorem f21_2e:OP f21_2 f21_2l [0,1] []:=rfl
def f21_4l:List GI:=[vv 5 0,
    ⟨none,.app (some 6) 1 8 (.c (.lit (.slice none 0 0))) (.r 5)⟩,
    vv 7 1,
    ⟨none,.bsl (some 8) 1 1 (.lit (.int .i64 0)) [(0,(.r 7))]⟩,
    ⟨none,.appS 9 6 1 8 (.r 8)⟩,
    vo 4 9]
def f21_4:AC:=.ops [4] [] f21_4l
theorem f21_4e:OP f21_4 f21_4l [4] []:=rfl
def f21_3:AC:=.seq f21_4 .ret
theorem f21_3e:SQ f21_3 f21_4 .ret:=rfl
def f21_1:AC:=.seq f21_2 f21_3
theorem f21_1e:SQ f21_1 f21_2 f21_3:=rfl
def c_f21:AFun:=⟨10,[.tmp 4],f21_1⟩
theorem k_f21:a7 Go.Proofs.Try.prog x_f21 21 = some c_f21:=by kernel_rfl
theorem e_f21:aJ Go.Proofs.Try.prog 21 = true:=by kernel_rfl

def n_f22:Nat:=22
def x_f22:Cx:=⟨some,id,18,fun s=>([0,1,4,5,6,7,8,10,11,13,15,16]:List Nat).contains s,fun s=>([]:List Nat).contains s,msOf [(2,[0,1],[]),(12,[0,1,5],[]),(26,[0,1,5],[]),(208,[0,1,5,9],[]),(419,[],[]),(840,[0,1,5,17],[]),(3364,[4],[]),(211,[0,1,5],[]),(14,[4],[])]⟩
def f22_2l:List GI:=[⟨none,.mv (some 4) (.c (.lit (.bool false)))⟩]
def f22_2:AC:=.ops [0,1] [] f22_2l
theorem f22_2e:OP f22_2 f22_2l [0,1] []:=rfl
def f22_5l:List GI:=[⟨none,.mv (some 5) (.c (.lit (.int .i64 0)))⟩]
def f22_5:AC:=.ops [0,1,5] [] f22_5l
theorem f22_5e:OP f22_5 f22_5l [0,1,5] []:=rfl
def f22_10l:List GI:=[vv 6 5,
    vv 7 0,
    ⟨none,.len (some 8) .sl (.r 7)⟩,
    ⟨none,.bin (some 9) .num .lss (.r 6) (.r 8)⟩]
def f22_10:AC:=.ops [0,1,5,9] [] f22_10l
theorem f22_10e:OP f22_10 f22_10l [0,1,5,9] []:=rfl
def f22_11:AC:=.cond (.r 9) .skip (.exit [] [] 0)
theorem f22_11e:CN f22_11 9 .skip (.exit [] [] 0):=rfl
def f22_9:AC:=.seq f22_10 f22_11
theorem f22_9e:SQ f22_9 f22_10 f22_11:=rfl
def f22_15l:List GI:=[vv 12 0,
    vv 13 5,
    ⟨none,.ixS (some 14) (.r 12) (.r 13) 1⟩,
    vl 15 14,
    vv 16 1,
    ⟨none,.bin (some 17) .num .eql (.r 15) (.r 16)⟩]
def f22_15:AC:=.ops [0,1,5,17] [] f22_15l
theorem f22_15e:OP f22_15 f22_15l [0,1,5,17] []:=rfl
def f22_18l:List GI:=[⟨none,.mv (some 4) (.c (.lit (.bool true)))⟩]
def f22_18:AC:=.ops [4] [] f22_18l
theorem f22_18e:OP f22_18 f22_18l [4] []:=rfl
def f22_17:AC:=.seq f22_18 .ret
theorem f22_17e:SQ f22_17 f22_18 .ret:=rfl
def f22_16:AC:=.cond (.r 17) f22_17 .skip
theorem f22_16e:CN f22_16 17 f22_17 .skip:=rfl
def f22_14:AC:=.seq f22_15 f22_16
theorem f22_14e:SQ f22_14 f22_15 f22_16:=rfl
def f22_13:AC:=.block 1 f22_14
theorem f22_13e:BL f22_13 f22_14 1:=rfl
def f22_19l:List GI:=[vv 10 5,
    vb 11 .add 10 1,
    vo 5 11]
def f22_19:AC:=.ops [0,1,5] [] f22_19l
theorem f22_19e:OP f22_19 f22_19l [0,1,5] []:=rfl
def f22_12:AC:=.seq f22_13 f22_19
theorem f22_12e:SQ f22_12 f22_13 f22_19:=rfl
def f22_8:AC:=.seq f22_9 f22_12
theorem f22_8e:SQ f22_8 f22_9 f22_12:=rfl
def f22_7:AC:=.loop [0,1,5] [] f22_8
theorem f22_7w:aC P id m f22_7 sf st Q = cR (aC P id m f22_8) [0,1,5] [] sf st Q:=rfl
def f22_6:AC:=.block 0 f22_7
theorem f22_6e:BL f22_6 f22_7 0:=rfl
def f22_4:AC:=.seq f22_5 f22_6
theorem f22_4e:SQ f22_4 f22_5 f22_6:=rfl
def f22_21l:List GI:=[⟨none,.mv (some 4) (.c (.lit (.bool false)))⟩]
def f22_21:AC:=.ops [4] [] f22_21l
theorem f22_21e:OP f22_21 f22_21l [4] []:=rfl
def f22_20:AC:=.seq f22_21 .ret
theorem f22_20e:SQ f22_20 f22_21 .ret:=rfl
def f22_3:AC:=.seq f22_4 f22_20
theorem f22_3e:SQ f22_3 f22_4 f22_20:=rfl
def f22_1:AC:=.seq f22_2 f22_3
theorem f22_1e:SQ f22_1 f22_2 f22_3:=rfl
def c_f22:AFun:=⟨18,[.tmp 4],f22_1⟩
theorem k_f22:a7 Go.Proofs.Try.prog x_f22 22 = some c_f22:=by kernel_rfl
theorem e_f22:aJ Go.Proofs.Try.prog 22 = true:=by kernel_rfl

def n_f23:Nat:=23
def x_f23:Cx:=⟨some,id,27,fun s=>([0,1,4,5,6,7,8,9,11,12,14,16,17,19,21,23,24,25,26]:List Nat).contains s,fun s=>([]:List Nat).contains s,msOf [(2,[0,1],[]),(6,[0,1,5],[]),(28,[0,1,5,6],[]),(58,[0,1,5,6],[]),(464,[0,1,5,6,10],[]),(931,[5],[]),(1864,[0,1,5,6,18],[]),(3730,[0,1,5,6],[]),(467,[0,1,5,6],[]),(30,[4],[])]⟩
def f23_2l:List GI:=[⟨none,.mv (some 4) (.c (.lit (.slice none 0 0)))⟩]
def f23_2:AC:=.ops [0,1] [] f23_2l
theorem f23_2e:OP f23_2 f23_2l [0,1] []:=rfl
def f23_4l:List GI:=[⟨none,.mv (some 5) (.c (.lit (.slice none 0 0)))⟩]
def f23_4:AC:=.ops [0,1,5] [] f23_4l
theorem f23_4e:OP f23_4 f23_4l [0,1,5] []:=rfl
def f23_7l:List GI:=[⟨none,.mv (some 6) (.c (.lit (.int .i64 0)))⟩]
def f23_7:AC:=.ops [0,1,5,6] [] f23_7l
theorem f23_7e:OP f23_7 f23_7l [0,1,5,6] []:=rfl
def f23_12l:List GI:=[vv 7 6,
    vv 8 0,
    ⟨none,.len (some 9) .sl (.r 8)⟩,
    ⟨none,.bin (some 10) .num .lss (.r 7) (.r 9)⟩]
def f23_12:AC:=.ops [0,1,5,6,10] [] f23_12l
theorem f23_12e:OP f23_12 f23_12l [0,1,5,6,10] []:=rfl
def f23_13:AC:=.cond (.r 10) .skip (.exit [5] [] 0)
theorem f23_13e:CN f23_13 10 .skip (.exit [5] [] 0):=rfl
def f23_11:AC:=.seq f23_12 f23_13
theorem f23_11e:SQ f23_11 f23_12 f23_13:=rfl
def f23_17l:List GI:=[vv 13 0,
    vv 14 6,
    ⟨none,.ixS (some 15) (.r 13) (.r 14) 1⟩,
    vl 16 15,
    vv 17 1,
    ⟨none,.bin (some 18) .num .neq (.r 16) (.r 17)⟩]
def f23_17:AC:=.ops [0,1,5,6,18] [] f23_17l
theorem f23_17e:OP f23_17 f23_17l [0,1,5,6,18] []:=rfl
def f23_19l:List GI:=[vo 19 5,
    vv 20 0,
    vv 21 6,
    ⟨none,.ixS (some 22) (.r 20) (.r 21) 1⟩,
    vl 23 22,
    ⟨none,.bsl (some 24) 1 1 (.lit (.int .i64 0)) [(0,(.r 23))]⟩,
    ⟨none,.appS 25 19 1 8 (.r 24)⟩,
    vo 5 25]
def f23_19:AC:=.ops [0,1,5,6] [] f23_19l
theorem f23_19e:OP f23_19 f23_19l [0,1,5,6] []:=rfl
def f23_18:AC:=.cond (.r 18) f23_19 .skip
theorem f23_18e:CN f23_18 18 f23_19 .skip:=rfl
def f23_16:AC:=.seq f23_17 f23_18
theorem f23_16e:SQ f23_16 f23_17 f23_18:=rfl
def f23_15:AC:=.block 1 f23_16
theorem f23_15e:BL f23_15 f23_16 1:=rfl
def f23_20l:List GI:=[vv 11 6,
    vb 12 .add 11 1,
    vo 6 12]
def f23_20:AC:=.ops [0,1,5,6] [] f23_20l
theorem f23_20e:OP f23_20 f23_20l [0,1,5,6] []:=rfl
def f23_14:AC:=.seq f23_15 f23_20
theorem f23_14e:SQ f23_14 f23_15 f23_20:=rfl
def f23_10:AC:=.seq f23_11 f23_14
theorem f23_10e:SQ f23_10 f23_11 f23_14:=rfl
def f23_9:AC:=.loop [0,1,5,6] [] f23_10
theorem f23_9w:aC P id m f23_9 sf st Q = cR (aC P id m f23_10) [0,1,5,6] [] sf st Q:=rfl
def f23_8:AC:=.block 0 f23_9
theorem f23_8e:BL f23_8 f23_9 0:=rfl
def f23_6:AC:=.seq f23_7 f23_8
theorem f23_6e:SQ f23_6 f23_7 f23_8:=rfl
def f23_22l:List GI:=[vv 26 5,
    vo 4 26]
def f23_22:AC:=.ops [4] [] f23_22l
theorem f23_22e:OP f23_22 f23_22l [4] []:=rfl
def f23_21:AC:=.seq f23_22 .ret
theorem f23_21e:SQ f23_21 f23_22 .ret:=rfl
def f23_5:AC:=.seq f23_6 f23_21
theorem f23_5e:SQ f23_5 f23_6 f23_21:=rfl
def f23_3:AC:=.seq f23_4 f23_5
theorem f23_3e:SQ f23_3 f23_4 f23_5:=rfl
def f23_1:AC:=.seq f23_2 f23_3
theorem f23_1e:SQ f23_1 f23_2 f23_3:=rfl
def c_f23:AFun:=⟨27,[.tmp 4],f23_1⟩
theorem k_f23:a7 Go.Proofs.Try.prog x_f23 23 = some c_f23:=by kernel_rfl
theorem e_f23:aJ Go.Proofs.Try.prog 23 = true:=by kernel_rfl

def n_f24:Nat:=24
def x_f24:Cx:=⟨some,id,20,fun s=>([0,2,3,8,12,16,17,18,19]:List Nat).contains s,fun s=>([17]:List Nat).contains s,msOf [(2,[0],[]),(12,[0,4],[]),(52,[2],[]),(14,[2],[])]⟩
def f24_2l:List GI:=[⟨none,.mv (some 2) (.c (.lit (.pointer none)))⟩]
def f24_2:AC:=.ops [0] [] f24_2l
theorem f24_2e:OP f24_2 f24_2l [0] []:=rfl
def f24_5l:List GI:=[vv 3 0,
    ⟨none,.call (some 4) false (.f 54) [(.r 3)]⟩]
def f24_5:AC:=.ops [0,4] [] f24_5l
theorem f24_5e:OP f24_5 f24_5l [0,4] []:=rfl
def f24_8l:List GI:=[⟨none,.mv (some 2) (.c (.lit (.pointer none)))⟩]
def f24_8:AC:=.ops [2] [] f24_8l
theorem f24_8e:OP f24_8 f24_8l [2] []:=rfl
def f24_7:AC:=.seq f24_8 .ret
theorem f24_7e:SQ f24_7 f24_8 .ret:=rfl
def f24_6:AC:=.cond (.r 4) f24_7 .skip
theorem f24_6e:CN f24_6 4 f24_7 .skip:=rfl
def f24_4:AC:=.seq f24_5 f24_6
theorem f24_4e:SQ f24_4 f24_5 f24_6:=rfl
def f24_10h:List GI:=[vv 5 0,
    vn 6 5,
    vd 7 6 0,
    vl 8 7,
    vv 9 0,
    vn 10 9,
    vd 11 10 1,
    vl 12 11,
    vv 13 0,
    vn 14 13,
    vd 15 14 2,
    vl 16 15]
def f24_10p:List (Bool×GI):=[]
def f24_10l:List GI:=[⟨none,.bst (some 18) [(0,1),(1,1),(2,1)] (.agg [(.lit (.int .i64 0)),(.lit (.int .i64 0)),(.lit (.pointer none))]) [(0,(.r 8)),(1,(.r 12)),(2,(.r 17))]⟩,
    ⟨none,.boxB 19 3 (.r 18)⟩,
    vo 2 19]
def f24_10:AC:=.drawM [2] [] f24_10h (some 17) (.f 63) [(.r 16)] f24_10p f24_10l
theorem f24_10e:aC P id m f24_10 sf st Q = (m = false∧drawM P id f24_10h (some 17) (.f 63) [(.r 16)] f24_10p sf st (ge P id m [2] [] f24_10l Q)):=rfl
def f24_9:AC:=.seq f24_10 .ret
theorem f24_9e:SQ f24_9 f24_10 .ret:=rfl
def f24_3:AC:=.seq f24_4 f24_9
theorem f24_3e:SQ f24_3 f24_4 f24_9:=rfl
def f24_1:AC:=.seq f24_2 f24_3
theorem f24_1e:SQ f24_1 f24_2 f24_3:=rfl
def c_f24:AFun:=⟨20,[.tmp 2],f24_1⟩
theorem k_f24:a7 Go.Proofs.Try.prog x_f24 24 = some c_f24:=by kernel_rfl
theorem e_f24:aJ Go.Proofs.Try.prog 24 = true:=by kernel_rfl

def n_f25:Nat:=25
def x_f25:Cx:=⟨some,id,52,fun s=>([0,1,4,5,6,7,8,10,14,15,16,17,19,26,27,28,32,37,38,43,44,50,51]:List Nat).contains s,fun s=>([]:List Nat).contains s,msOf [(2,[0,1],[]),(12,[0,1,9],[]),(52,[4,5,6],[]),(28,[0,1,7],[]),(58,[0,1,7,18],[]),(236,[4,5,6],[]),(60,[0,1,33],[]),(244,[],[]),(490,[4,5,6],[]),(62,[0],[]),(126,[4,5,6],[])]⟩
def f25_2l:List GI:=[⟨none,.mv (some 4) (.c (.lit (.bool false)))⟩,
    ⟨none,.mv (some 5) (.c (.lit (.slice none 0 0)))⟩,
    ⟨none,.mv (some 6) (.c (.lit (.int .i64 0)))⟩]
def f25_2:AC:=.ops [0,1] [] f25_2l
theorem f25_2e:OP f25_2 f25_2l [0,1] []:=rfl
def f25_5l:List GI:=[vv 8 0,
    ⟨none,.call (some 9) false (.f 54) [(.r 8)]⟩]
def f25_5:AC:=.ops [0,1,9] [] f25_5l
theorem f25_5e:OP f25_5 f25_5l [0,1,9] []:=rfl
def f25_8l:List GI:=[⟨none,.mv (some 4) (.c (.lit (.bool false)))⟩,
    ⟨none,.mv (some 5) (.c (.lit (.slice none 0 0)))⟩,
    ⟨none,.mv (some 6) (.c (.lit (.int .i64 1)))⟩]
def f25_8:AC:=.ops [4,5,6] [] f25_8l
theorem f25_8e:OP f25_8 f25_8l [4,5,6] []:=rfl
def f25_7:AC:=.seq f25_8 .ret
theorem f25_7e:SQ f25_7 f25_8 .ret:=rfl
def f25_6:AC:=.cond (.r 9) f25_7 .skip
theorem f25_6e:CN f25_6 9 f25_7 .skip:=rfl
def f25_4:AC:=.seq f25_5 f25_6
theorem f25_4e:SQ f25_4 f25_5 f25_6:=rfl
def f25_11l:List GI:=[vv 10 1,
    vv 11 0,
    vn 12 11,
    vd 13 12 2,
    vl 14 13,
    ⟨none,.bsl (some 15) 1 1 (.lit (.pointer none)) [(0,(.r 14))]⟩,
    ⟨none,.call (some 16) false (.f 64) [(.r 10),(.r 15)]⟩,
    vo 7 16]
def f25_11:AC:=.ops [0,1,7] [] f25_11l
theorem f25_11e:OP f25_11 f25_11l [0,1,7] []:=rfl
def f25_13l:List GI:=[vv 17 7,
    vb 18 .neq 17 0]
def f25_13:AC:=.ops [0,1,7,18] [] f25_13l
theorem f25_13e:OP f25_13 f25_13l [0,1,7,18] []:=rfl
def f25_16l:List GI:=[vv 19 7,
    ⟨none,.mv (some 4) (.c (.lit (.bool false)))⟩,
    ⟨none,.mv (some 5) (.c (.lit (.slice none 0 0)))⟩,
    vo 6 19]
def f25_16:AC:=.ops [4,5,6] [] f25_16l
theorem f25_16e:OP f25_16 f25_16l [4,5,6] []:=rfl
def f25_15:AC:=.seq f25_16 .ret
theorem f25_15e:SQ f25_15 f25_16 .ret:=rfl
def f25_14:AC:=.cond (.r 18) f25_15 .skip
theorem f25_14e:CN f25_14 18 f25_15 .skip:=rfl
def f25_12:AC:=.seq f25_13 f25_14
theorem f25_12e:SQ f25_12 f25_13 f25_14:=rfl
def f25_10:AC:=.seq f25_11 f25_12
theorem f25_10e:SQ f25_10 f25_11 f25_12:=rfl
def f25_19h:List GI:=[vv 20 0,
    vn 21 20,
    vd 22 21 2,
    vl 23 22,
    vn 24 23,
    vd 25 24 0,
    vl 26 25,
    ⟨none,.call (some 27) true (.f 55) [(.r 26)]⟩,
    vb 28 .add 27 1,
    vv 29 0,
    vn 30 29,
    vd 31 30 0,
    vl 32 31]
def f25_19l:List GI:=[⟨none,.bin (some 33) .num .lss (.r 28) (.r 32)⟩]
def f25_19:AC:=.draw [0,1,33] [] [] f25_19h f25_19l
theorem f25_19e:aC P id m f25_19 sf st Q = br P id sf.locs st f25_19h (cX P id m [] [0,1,33] [] f25_19l Q st) [] ⟨sf.regs,bE [] sf.locs⟩:=rfl
def f25_22l:List GI:=[vv 34 0,
    vn 35 34,
    vd 36 35 2,
    vl 37 36,
    vv 38 1,
    ⟨none,.call (some 39) false (.f 65) [(.r 37),(.r 38)]⟩]
def f25_22:AC:=.ops [] [] f25_22l
theorem f25_22e:OP f25_22 f25_22l [] []:=rfl
def f25_24l:List GI:=[⟨none,.mv (some 4) (.c (.lit (.bool false)))⟩,
    ⟨none,.mv (some 5) (.c (.lit (.slice none 0 0)))⟩,
    ⟨none,.mv (some 6) (.c (.lit (.int .i64 0)))⟩]
def f25_24:AC:=.ops [4,5,6] [] f25_24l
theorem f25_24e:OP f25_24 f25_24l [4,5,6] []:=rfl
def f25_23:AC:=.seq f25_24 .ret
theorem f25_23e:SQ f25_23 f25_24 .ret:=rfl
def f25_21:AC:=.seq f25_22 f25_23
theorem f25_21e:SQ f25_21 f25_22 f25_23:=rfl
def f25_20:AC:=.cond (.r 33) f25_21 .skip
theorem f25_20e:CN f25_20 33 f25_21 .skip:=rfl
def f25_18:AC:=.seq f25_19 f25_20
theorem f25_18e:SQ f25_18 f25_19 f25_20:=rfl
def f25_26l:List GI:=[vv 40 0,
    vn 41 40,
    vd 42 41 1,
    vl 43 42,
    vb 44 .add 43 1,
    vn 45 40,
    vd 46 45 1,
    ⟨none,.store 1 (.r 46) (.r 44)⟩]
def f25_26:AC:=.ops [0] [] f25_26l
theorem f25_26e:OP f25_26 f25_26l [0] []:=rfl
def f25_28l:List GI:=[vv 47 0,
    vn 48 47,
    vd 49 48 2,
    vl 50 49,
    ⟨none,.call (some 51) false (.f 66) [(.r 50)]⟩,
    ⟨none,.mv (some 4) (.c (.lit (.bool true)))⟩,
    vo 5 51,
    ⟨none,.mv (some 6) (.c (.lit (.int .i64 0)))⟩]
def f25_28:AC:=.ops [4,5,6] [] f25_28l
theorem f25_28e:OP f25_28 f25_28l [4,5,6] []:=rfl
def f25_27:AC:=.seq f25_28 .ret
theorem f25_27e:SQ f25_27 f25_28 .ret:=rfl
def f25_25:AC:=.seq f25_26 f25_27
theorem f25_25e:SQ f25_25 f25_26 f25_27:=rfl
def f25_17:AC:=.seq f25_18 f25_25
theorem f25_17e:SQ f25_17 f25_18 f25_25:=rfl
def f25_9:AC:=.seq f25_10 f25_17
theorem f25_9e:SQ f25_9 f25_10 f25_17:=rfl
def f25_3:AC:=.seq f25_4 f25_9
theorem f25_3e:SQ f25_3 f25_4 f25_9:=rfl
def f25_1:AC:=.seq f25_2 f25_3
theorem f25_1e:SQ f25_1 f25_2 f25_3:=rfl
def c_f25:AFun:=⟨52,[.tmp 4,.tmp 5,.tmp 6],f25_1⟩
theorem k_f25:a7 Go.Proofs.Try.prog x_f25 25 = some c_f25:=by kernel_rfl
theorem e_f25:aJ Go.Proofs.Try.prog 25 = true:=by kernel_rfl

def n_f26:Nat:=26
def x_f26:Cx:=⟨some,id,40,fun s=>([0,1,6,7,8,9,10,11,13,14,15,17,18,19,21,24,25,26,28,29,31,34,35,37,38,39]:List Nat).contains s,fun s=>([]:List Nat).contains s,msOf [(2,[1,2,4,5],[2,4,5]),(12,[1,2,4,5,6],[2,4,5]),(26,[1,2,4,5,6,12],[2,4,5]),(108,[4,5],[4,5]),(28,[1,2,4,5,22],[2,4,5]),(116,[2,4,5],[2,4,5]),(234,[4,5],[4,5]),(30,[2,4,5,7],[2,4,5]),(62,[2,4,5,7],[2,4,5]),(126,[2,4,5,7],[2,4,5]),(254,[4,5],[4,5])]⟩
def f26_2l:List GI:=[⟨none,.boxL 2 7 (.r 0)⟩,
    ⟨none,.newL 4 [(.lit (.int .i64 0)),(.lit (.int .i64 0)),(.lit (.int .i64 0)),(.lit (.int .i64 0)),(.lit (.bool false)),(.lit (.slice none 0 0)),(.lit (.slice none 0 0))]⟩,
    ⟨none,.newL 5 [(.lit (.bool false)),(.lit (.bool false)),(.lit (.slice none 0 0)),(.lit (.int .i64 0))]⟩]
def f26_2:AC:=.ops [1,2,4,5] [2,4,5] f26_2l
theorem f26_2e:OP f26_2 f26_2l [1,2,4,5] [2,4,5]:=rfl
def f26_5l:List GI:=[⟨none,.load (some 8) (.r 2) (some 7)⟩,
    vv 9 1,
    ⟨none,.call (some 10) false (.f 67) [(.r 8),(.r 9)]⟩,
    vo 6 10]
def f26_5:AC:=.ops [1,2,4,5,6] [2,4,5] f26_5l
theorem f26_5e:OP f26_5 f26_5l [1,2,4,5,6] [2,4,5]:=rfl
def f26_7l:List GI:=[vv 11 6,
    vb 12 .neq 11 0]
def f26_7:AC:=.ops [1,2,4,5,6,12] [2,4,5] f26_7l
theorem f26_7e:OP f26_7 f26_7l [1,2,4,5,6,12] [2,4,5]:=rfl
def f26_10l:List GI:=[⟨none,.load (some 13) (.r 2) (some 7)⟩,
    vv 14 6,
    ⟨none,.bst (some 15) [(0,1),(1,1),(2,1),(3,1)] (.agg [(.lit (.bool false)),(.lit (.bool false)),(.lit (.slice none 0 0)),(.lit (.int .i64 0))]) [(3,(.r 14))]⟩,
    ⟨none,.store 7 (.r 4) (.r 13)⟩,
    ⟨none,.store 4 (.r 5) (.r 15)⟩]
def f26_10:AC:=.ops [4,5] [4,5] f26_10l
theorem f26_10e:OP f26_10 f26_10l [4,5] [4,5]:=rfl
def f26_9:AC:=.seq f26_10 .ret
theorem f26_9e:SQ f26_9 f26_10 .ret:=rfl
def f26_8:AC:=.cond (.r 12) f26_9 .skip
theorem f26_8e:CN f26_8 12 f26_9 .skip:=rfl
def f26_6:AC:=.seq f26_7 f26_8
theorem f26_6e:SQ f26_6 f26_7 f26_8:=rfl
def f26_4:AC:=.seq f26_5 f26_6
theorem f26_4e:SQ f26_4 f26_5 f26_6:=rfl
def f26_13l:List GI:=[vd 16 2 5,
    vl 17 16,
    ⟨none,.len (some 18) .sl (.r 17)⟩,
    vb 19 .add 18 1,
    vd 20 2 1,
    vl 21 20,
    ⟨none,.bin (some 22) .num .lss (.r 19) (.r 21)⟩]
def f26_13:AC:=.ops [1,2,4,5,22] [2,4,5] f26_13l
theorem f26_13e:OP f26_13 f26_13l [1,2,4,5,22] [2,4,5]:=rfl
def f26_16l:List GI:=[vd 23 2 5,
    vl 24 23,
    vv 25 1,
    ⟨none,.call (some 26) false (.f 21) [(.r 24),(.r 25)]⟩,
    vd 27 2 5,
    ⟨none,.store 1 (.r 27) (.r 26)⟩]
def f26_16:AC:=.ops [2,4,5] [2,4,5] f26_16l
theorem f26_16e:OP f26_16 f26_16l [2,4,5] [2,4,5]:=rfl
def f26_18l:List GI:=[⟨none,.load (some 28) (.r 2) (some 7)⟩,
    ⟨none,.bst (some 29) [(0,1),(1,1),(2,1),(3,1)] (.agg [(.lit (.bool false)),(.lit (.bool false)),(.lit (.slice none 0 0)),(.lit (.int .i64 0))]) []⟩,
    ⟨none,.store 7 (.r 4) (.r 28)⟩,
    ⟨none,.store 4 (.r 5) (.r 29)⟩]
def f26_18:AC:=.ops [4,5] [4,5] f26_18l
theorem f26_18e:OP f26_18 f26_18l [4,5] [4,5]:=rfl
def f26_17:AC:=.seq f26_18 .ret
theorem f26_17e:SQ f26_17 f26_18 .ret:=rfl
def f26_15:AC:=.seq f26_16 f26_17
theorem f26_15e:SQ f26_15 f26_16 f26_17:=rfl
def f26_14:AC:=.cond (.r 22) f26_15 .skip
theorem f26_14e:CN f26_14 22 f26_15 .skip:=rfl
def f26_12:AC:=.seq f26_13 f26_14
theorem f26_12e:SQ f26_12 f26_13 f26_14:=rfl
def f26_20l:List GI:=[vd 30 2 5,
    vl 31 30,
    vo 7 31]
def f26_20:AC:=.ops [2,4,5,7] [2,4,5] f26_20l
theorem f26_20e:OP f26_20 f26_20l [2,4,5,7] [2,4,5]:=rfl
def f26_22l:List GI:=[vd 32 2 5,
    ⟨none,.store 1 (.r 32) (.c (.lit (.slice none 0 0)))⟩]
def f26_22:AC:=.ops [2,4,5,7] [2,4,5] f26_22l
theorem f26_22e:OP f26_22 f26_22l [2,4,5,7] [2,4,5]:=rfl
def f26_24l:List GI:=[vd 33 2 2,
    vl 34 33,
    vb 35 .add 34 1,
    vd 36 2 2,
    ⟨none,.store 1 (.r 36) (.r 35)⟩]
def f26_24:AC:=.ops [2,4,5,7] [2,4,5] f26_24l
theorem f26_24e:OP f26_24 f26_24l [2,4,5,7] [2,4,5]:=rfl
def f26_26l:List GI:=[⟨none,.load (some 37) (.r 2) (some 7)⟩,
    vv 38 7,
    ⟨none,.bst (some 39) [(0,1),(1,1),(2,1),(3,1)] (.agg [(.lit (.bool false)),(.lit (.bool false)),(.lit (.slice none 0 0)),(.lit (.int .i64 0))]) [(1,(.c (.lit (.bool true)))),(2,(.r 38))]⟩,
    ⟨none,.store 7 (.r 4) (.r 37)⟩,
    ⟨none,.store 4 (.r 5) (.r 39)⟩]
def f26_26:AC:=.ops [4,5] [4,5] f26_26l
theorem f26_26e:OP f26_26 f26_26l [4,5] [4,5]:=rfl
def f26_25:AC:=.seq f26_26 .ret
theorem f26_25e:SQ f26_25 f26_26 .ret:=rfl
def f26_23:AC:=.seq f26_24 f26_25
theorem f26_23e:SQ f26_23 f26_24 f26_25:=rfl
def f26_21:AC:=.seq f26_22 f26_23
theorem f26_21e:SQ f26_21 f26_22 f26_23:=rfl
def f26_19:AC:=.seq f26_20 f26_21
theorem f26_19e:SQ f26_19 f26_20 f26_21:=rfl
def f26_11:AC:=.seq f26_12 f26_19
theorem f26_11e:SQ f26_11 f26_12 f26_19:=rfl
def f26_3:AC:=.seq f26_4 f26_11
theorem f26_3e:SQ f26_3 f26_4 f26_11:=rfl
def f26_1:AC:=.seq f26_2 f26_3
theorem f26_1e:SQ f26_1 f26_2 f26_3:=rfl
def c_f26:AFun:=⟨40,[.cell 4 (some 7),.cell 5 (some 4)],f26_1⟩
theorem k_f26:a7 Go.Proofs.Try.prog x_f26 26 = some c_f26:=by kernel_rfl
theorem e_f26:aJ Go.Proofs.Try.prog 26 = true:=by kernel_rfl

def n_f27:Nat:=27
def x_f27:Cx:=⟨some,id,37,fun s=>([0,1,6,7,9,10,12,13,14,15,16,18,19,20,21,23,24,26,27,28,30,31,32,35,36]:List Nat).contains s,fun s=>([]:List Nat).contains s,msOf [(2,[1,2,4,5],[2,4,5]),(12,[1,2,4,5,8],[2,4,5]),(52,[4,5],[4,5]),(28,[1,2,4,5,22],[2,4,5]),(116,[4,5],[4,5]),(30,[2,4,5],[2,4,5]),(62,[4,5],[4,5])]⟩
def f27_2l:List GI:=[⟨none,.boxL 2 7 (.r 0)⟩,
    ⟨none,.newL 4 [(.lit (.int .i64 0)),(.lit (.int .i64 0)),(.lit (.int .i64 0)),(.lit (.int .i64 0)),(.lit (.bool false)),(.lit (.slice none 0 0)),(.lit (.slice none 0 0))]⟩,
    ⟨none,.newL 5 [(.lit (.bool false)),(.lit (.bool false)),(.lit (.slice none 0 0)),(.lit (.int .i64 0))]⟩]
def f27_2:AC:=.ops [1,2,4,5] [2,4,5] f27_2l
theorem f27_2e:OP f27_2 f27_2l [1,2,4,5] [2,4,5]:=rfl
def f27_5l:List GI:=[vv 6 1,
    ⟨none,.call (some 7) false (.f 68) [(.r 6)]⟩,
    ⟨none,.un (some 8) .not (.r 7)⟩]
def f27_5:AC:=.ops [1,2,4,5,8] [2,4,5] f27_5l
theorem f27_5e:OP f27_5 f27_5l [1,2,4,5,8] [2,4,5]:=rfl
def f27_8l:List GI:=[⟨none,.load (some 9) (.r 2) (some 7)⟩,
    ⟨none,.bst (some 10) [(0,1),(1,1),(2,1),(3,1)] (.agg [(.lit (.bool false)),(.lit (.bool false)),(.lit (.slice none 0 0)),(.lit (.int .i64 0))]) [(3,(.c (.lit (.int .i64 2))))]⟩,
    ⟨none,.store 7 (.r 4) (.r 9)⟩,
    ⟨none,.store 4 (.r 5) (.r 10)⟩]
def f27_8:AC:=.ops [4,5] [4,5] f27_8l
theorem f27_8e:OP f27_8 f27_8l [4,5] [4,5]:=rfl
def f27_7:AC:=.seq f27_8 .ret
theorem f27_7e:SQ f27_7 f27_8 .ret:=rfl
def f27_6:AC:=.cond (.r 8) f27_7 .skip
theorem f27_6e:CN f27_6 8 f27_7 .skip:=rfl
def f27_4:AC:=.seq f27_5 f27_6
theorem f27_4e:SQ f27_4 f27_5 f27_6:=rfl
def f27_11l:List GI:=[vd 11 2 5,
    vl 12 11,
    vv 13 1,
    ⟨none,.call (some 14) false (.f 22) [(.r 12),(.r 13)]⟩,
    ⟨none,.un (some 15) .not (.r 14)⟩,
    vv 16 15,
    ⟨some (16,true),.addr (some 17) (.r 2) 6⟩,
    ⟨some (16,true),.load (some 18) (.r 17) none⟩,
    ⟨some (16,true),.mv (some 19) (.r 1)⟩,
    ⟨some (16,true),.call (some 20) false (.f 22) [(.r 18),(.r 19)]⟩,
    ⟨some (16,true),.un (some 21) .not (.r 20)⟩,
    ⟨none,.pick (some 22) (.r 16) (.r 21) (.c (.lit (.bool false)))⟩]
def f27_11:AC:=.ops [1,2,4,5,22] [2,4,5] f27_11l
theorem f27_11e:OP f27_11 f27_11l [1,2,4,5,22] [2,4,5]:=rfl
def f27_14l:List GI:=[⟨none,.load (some 23) (.r 2) (some 7)⟩,
    ⟨none,.bst (some 24) [(0,1),(1,1),(2,1),(3,1)] (.agg [(.lit (.bool false)),(.lit (.bool false)),(.lit (.slice none 0 0)),(.lit (.int .i64 0))]) [(3,(.c (.lit (.int .i64 9))))]⟩,
    ⟨none,.store 7 (.r 4) (.r 23)⟩,
    ⟨none,.store 4 (.r 5) (.r 24)⟩]
def f27_14:AC:=.ops [4,5] [4,5] f27_14l
theorem f27_14e:OP f27_14 f27_14l [4,5] [4,5]:=rfl
def f27_13:AC:=.seq f27_14 .ret
theorem f27_13e:SQ f27_13 f27_14 .ret:=rfl
def f27_12:AC:=.cond (.r 22) f27_13 .skip
theorem f27_12e:CN f27_12 22 f27_13 .skip:=rfl
def f27_10:AC:=.seq f27_11 f27_12
theorem f27_10e:SQ f27_10 f27_11 f27_12:=rfl
def f27_16h:List GI:=[vd 25 2 5,
    vl 26 25,
    vv 27 1,
    ⟨none,.call (some 28) true (.f 23) [(.r 26),(.r 27)]⟩,
    vd 29 2 6,
    vl 30 29,
    vv 31 1,
    ⟨none,.call (some 32) true (.f 23) [(.r 30),(.r 31)]⟩,
    vd 33 2 5]
def f27_16l:List GI:=[⟨none,.store 1 (.r 33) (.r 28)⟩,
    vd 34 2 6,
    ⟨none,.store 1 (.r 34) (.r 32)⟩]
def f27_16:AC:=.draw [2,4,5] [2,4,5] [] f27_16h f27_16l
theorem f27_16e:aC P id m f27_16 sf st Q = br P id sf.locs st f27_16h (cX P id m [] [2,4,5] [2,4,5] f27_16l Q st) [] ⟨sf.regs,bE [] sf.locs⟩:=rfl
def f27_18l:List GI:=[⟨none,.load (some 35) (.r 2) (some 7)⟩,
    ⟨none,.bst (some 36) [(0,1),(1,1),(2,1),(3,1)] (.agg [(.lit (.bool false)),(.lit (.bool false)),(.lit (.slice none 0 0)),(.lit (.int .i64 0))]) []⟩,
    ⟨none,.store 7 (.r 4) (.r 35)⟩,
    ⟨none,.store 4 (.r 5) (.r 36)⟩]
def f27_18:AC:=.ops [4,5] [4,5] f27_18l
theorem f27_18e:OP f27_18 f27_18l [4,5] [4,5]:=rfl
def f27_17:AC:=.seq f27_18 .ret
theorem f27_17e:SQ f27_17 f27_18 .ret:=rfl
def f27_15:AC:=.seq f27_16 f27_17
theorem f27_15e:SQ f27_15 f27_16 f27_17:=rfl
def f27_9:AC:=.seq f27_10 f27_15
theorem f27_9e:SQ f27_9 f27_10 f27_15:=rfl
def f27_3:AC:=.seq f27_4 f27_9
theorem f27_3e:SQ f27_3 f27_4 f27_9:=rfl
def f27_1:AC:=.seq f27_2 f27_3
theorem f27_1e:SQ f27_1 f27_2 f27_3:=rfl
def c_f27:AFun:=⟨37,[.cell 4 (some 7),.cell 5 (some 4)],f27_1⟩
theorem k_f27:a7 Go.Proofs.Try.prog x_f27 27 = some c_f27:=by kernel_rfl
theorem e_f27:aJ Go.Proofs.Try.prog 27 = true:=by kernel_rfl

def n_f28:Nat:=28
def x_f28:Cx:=⟨some,id,31,fun s=>([0,1,4,6,8,9,10,12,14,15,16,17,19,21,22,23,24,26,28,29,30]:List Nat).contains s,fun s=>([]:List Nat).contains s,msOf [(2,[2,3],[2,3]),(6,[4],[])]⟩
def f28_2l:List GI:=[⟨none,.boxL 2 4 (.r 0)⟩,
    ⟨none,.boxL 3 4 (.r 1)⟩,
    ⟨none,.mv (some 4) (.c (.lit (.bool false)))⟩]
def f28_2:AC:=.ops [2,3] [2,3] f28_2l
theorem f28_2e:OP f28_2 f28_2l [2,3] [2,3]:=rfl
def f28_4l:List GI:=[vd 5 2 0,
    vl 6 5,
    vd 7 3 0,
    vl 8 7,
    ⟨none,.bin (some 9) .bool .eql (.r 6) (.r 8)⟩,
    vv 10 9,
    ⟨some (10,true),.addr (some 11) (.r 2) 1⟩,
    ⟨some (10,true),.load (some 12) (.r 11) none⟩,
    ⟨some (10,true),.addr (some 13) (.r 3) 1⟩,
    ⟨some (10,true),.load (some 14) (.r 13) none⟩,
    ⟨some (10,true),.bin (some 15) .bool .eql (.r 12) (.r 14)⟩,
    ⟨none,.pick (some 16) (.r 10) (.r 15) (.c (.lit (.bool false)))⟩,
    vv 17 16,
    ⟨some (17,true),.addr (some 18) (.r 2) 3⟩,
    ⟨some (17,true),.load (some 19) (.r 18) none⟩,
    ⟨some (17,true),.addr (some 20) (.r 3) 3⟩,
    ⟨some (17,true),.load (some 21) (.r 20) none⟩,
    ⟨some (17,true),.bin (some 22) .num .eql (.r 19) (.r 21)⟩,
    ⟨none,.pick (some 23) (.r 17) (.r 22) (.c (.lit (.bool false)))⟩,
    vv 24 23,
    ⟨some (24,true),.addr (some 25) (.r 2) 2⟩,
    ⟨some (24,true),.load (some 26) (.r 25) none⟩,
    ⟨some (24,true),.addr (some 27) (.r 3) 2⟩,
    ⟨some (24,true),.load (some 28) (.r 27) none⟩,
    ⟨some (24,true),.call (some 29) false (.f 69) [(.r 26),(.r 28)]⟩,
    ⟨none,.pick (some 30) (.r 24) (.r 29) (.c (.lit (.bool false)))⟩,
    vo 4 30]
def f28_4:AC:=.ops [4] [] f28_4l
theorem f28_4e:OP f28_4 f28_4l [4] []:=rfl
def f28_3:AC:=.seq f28_4 .ret
theorem f28_3e:SQ f28_3 f28_4 .ret:=rfl
def f28_1:AC:=.seq f28_2 f28_3
theorem f28_1e:SQ f28_1 f28_2 f28_3:=rfl
def c_f28:AFun:=⟨31,[.tmp 4],f28_1⟩
theorem k_f28:a7 Go.Proofs.Try.prog x_f28 28 = some c_f28:=by kernel_rfl
theorem e_f28:aJ Go.Proofs.Try.prog 28 = true:=by kernel_rfl

def n_f30:Nat:=30
def x_f30:Cx:=⟨some,id,28,fun s=>([0,1,4,5,6,7,13,14,15,16,17,18,19,20,21,22,23,24,25,26,27]:List Nat).contains s,fun s=>([]:List Nat).contains s,msOf [(2,[0,1],[]),(12,[0,1,8],[]),(52,[4,5,6],[]),(28,[0,1,12],[]),(116,[6],[]),(234,[4,5,6],[]),(30,[4,6],[]),(62,[4,5,6],[])]⟩
def f30_2l:List GI:=[⟨none,.mv (some 4) (.c (.lit (.bool false)))⟩,
    ⟨none,.mv (some 5) (.c (.lit (.bool false)))⟩,
    ⟨none,.mv (some 6) (.c (.lit (.int .i64 0)))⟩]
def f30_2:AC:=.ops [0,1] [] f30_2l
theorem f30_2e:OP f30_2 f30_2l [0,1] []:=rfl
def f30_5l:List GI:=[vv 7 0,
    ⟨none,.call (some 8) false (.f 57) [(.r 7)]⟩]
def f30_5:AC:=.ops [0,1,8] [] f30_5l
theorem f30_5e:OP f30_5 f30_5l [0,1,8] []:=rfl
def f30_8l:List GI:=[⟨none,.mv (some 4) (.c (.lit (.bool false)))⟩,
    ⟨none,.mv (some 5) (.c (.lit (.bool false)))⟩,
    ⟨none,.mv (some 6) (.c (.lit (.int .i64 1)))⟩]
def f30_8:AC:=.ops [4,5,6] [] f30_8l
theorem f30_8e:OP f30_8 f30_8l [4,5,6] []:=rfl
def f30_7:AC:=.seq f30_8 .ret
theorem f30_7e:SQ f30_7 f30_8 .ret:=rfl
def f30_6:AC:=.cond (.r 8) f30_7 .skip
theorem f30_6e:CN f30_6 8 f30_7 .skip:=rfl
def f30_4:AC:=.seq f30_5 f30_6
theorem f30_4e:SQ f30_4 f30_5 f30_6:=rfl
def f30_11l:List GI:=[vv 9 0,
    vn 10 9,
    vd 11 10 2,
    vl 12 11]
def f30_11:AC:=.ops [0,1,12] [] f30_11l
theorem f30_11e:OP f30_11 f30_11l [0,1,12] []:=rfl
def f30_14l:List GI:=[vv 13 1,
    ⟨none,.call (some 14) false (.f 64) [(.r 13),(.c (.lit (.slice none 0 0)))]⟩,
    vo 6 14]
def f30_14:AC:=.ops [6] [] f30_14l
theorem f30_14e:OP f30_14 f30_14l [6] []:=rfl
def f30_16l:List GI:=[vv 15 6,
    vb 16 .eql 15 0,
    vv 17 6,
    ⟨none,.mv (some 4) (.c (.lit (.bool false)))⟩,
    vo 5 16,
    vo 6 17]
def f30_16:AC:=.ops [4,5,6] [] f30_16l
theorem f30_16e:OP f30_16 f30_16l [4,5,6] []:=rfl
def f30_15:AC:=.seq f30_16 .ret
theorem f30_15e:SQ f30_15 f30_16 .ret:=rfl
def f30_13:AC:=.seq f30_14 f30_15
theorem f30_13e:SQ f30_13 f30_14 f30_15:=rfl
def f30_12:AC:=.cond (.r 12) f30_13 .skip
theorem f30_12e:CN f30_12 12 f30_13 .skip:=rfl
def f30_10:AC:=.seq f30_11 f30_12
theorem f30_10e:SQ f30_10 f30_11 f30_12:=rfl
def f30_18l:List GI:=[vv 19 0,
    vn 20 19,
    vd 21 20 0,
    vv 22 1,
    ⟨none,.call (some 23) false (.f 70) [(.r 21),(.r 22),(.c (.lit (.slice none 0 0)))]⟩,
    vv 18 23,
    ve 24 18 0,
    ve 25 18 1,
    vo 4 24,
    vo 6 25]
def f30_18:AC:=.ops [4,6] [] f30_18l
theorem f30_18e:OP f30_18 f30_18l [4,6] []:=rfl
def f30_20l:List GI:=[vv 26 4,
    vv 27 6,
    vo 4 26,
    ⟨none,.mv (some 5) (.c (.lit (.bool false)))⟩,
    vo 6 27]
def f30_20:AC:=.ops [4,5,6] [] f30_20l
theorem f30_20e:OP f30_20 f30_20l [4,5,6] []:=rfl
def f30_19:AC:=.seq f30_20 .ret
theorem f30_19e:SQ f30_19 f30_20 .ret:=rfl
def f30_17:AC:=.seq f30_18 f30_19
theorem f30_17e:SQ f30_17 f30_18 f30_19:=rfl
def f30_9:AC:=.seq f30_10 f30_17
theorem f30_9e:SQ f30_9 f30_10 f30_17:=rfl
def f30_3:AC:=.seq f30_4 f30_9
theorem f30_3e:SQ f30_3 f30_4 f30_9:=rfl
def f30_1:AC:=.seq f30_2 f30_3
theorem f30_1e:SQ f30_1 f30_2 f30_3:=rfl
def c_f30:AFun:=⟨28,[.tmp 4,.tmp 5,.tmp 6],f30_1⟩
theorem k_f30:a7 Go.Proofs.Try.prog x_f30 30 = some c_f30:=by kernel_rfl
theorem e_f30:aJ Go.Proofs.Try.prog 30 = true:=by kernel_rfl

def n_f31:Nat:=31
def x_f31:Cx:=⟨some,id,33,fun s=>([0,1,6,7,8,9,11,12,13,14,15,16,18,27,28,29,30,31,32]:List Nat).contains s,fun s=>([]:List Nat).contains s,msOf [(2,[0,1,2],[]),(12,[0,1,2,10],[]),(52,[6,7],[]),(28,[0,2,8],[]),(58,[0,2,8,17],[]),(236,[6,7],[]),(60,[0,19],[]),(244,[0],[]),(490,[6,7],[]),(62,[6,7],[])]⟩
def f31_2l:List GI:=[⟨none,.mv (some 6) (.c (.lit (.slice none 0 0)))⟩,
    ⟨none,.mv (some 7) (.c (.lit (.int .i64 0)))⟩]
def f31_2:AC:=.ops [0,1,2] [] f31_2l
theorem f31_2e:OP f31_2 f31_2l [0,1,2] []:=rfl
def f31_5l:List GI:=[vv 9 0,
    ⟨none,.call (some 10) false (.f 57) [(.r 9)]⟩]
def f31_5:AC:=.ops [0,1,2,10] [] f31_5l
theorem f31_5e:OP f31_5 f31_5l [0,1,2,10] []:=rfl
def f31_8l:List GI:=[⟨none,.mv (some 6) (.c (.lit (.slice none 0 0)))⟩,
    ⟨none,.mv (some 7) (.c (.lit (.int .i64 1)))⟩]
def f31_8:AC:=.ops [6,7] [] f31_8l
theorem f31_8e:OP f31_8 f31_8l [6,7] []:=rfl
def f31_7:AC:=.seq f31_8 .ret
theorem f31_7e:SQ f31_7 f31_8 .ret:=rfl
def f31_6:AC:=.cond (.r 10) f31_7 .skip
theorem f31_6e:CN f31_6 10 f31_7 .skip:=rfl
def f31_4:AC:=.seq f31_5 f31_6
theorem f31_4e:SQ f31_4 f31_5 f31_6:=rfl
def f31_11l:List GI:=[vv 11 0,
    vn 12 11,
    vd 13 12 0,
    vv 14 1,
    ⟨none,.call (some 15) false (.f 71) [(.r 13),(.r 14)]⟩,
    vo 8 15]
def f31_11:AC:=.ops [0,2,8] [] f31_11l
theorem f31_11e:OP f31_11 f31_11l [0,2,8] []:=rfl
def f31_13l:List GI:=[vv 16 8,
    vb 17 .neq 16 0]
def f31_13:AC:=.ops [0,2,8,17] [] f31_13l
theorem f31_13e:OP f31_13 f31_13l [0,2,8,17] []:=rfl
def f31_16l:List GI:=[vv 18 8,
    ⟨none,.mv (some 6) (.c (.lit (.slice none 0 0)))⟩,
    vo 7 18]
def f31_16:AC:=.ops [6,7] [] f31_16l
theorem f31_16e:OP f31_16 f31_16l [6,7] []:=rfl
def f31_15:AC:=.seq f31_16 .ret
theorem f31_15e:SQ f31_15 f31_16 .ret:=rfl
def f31_14:AC:=.cond (.r 17) f31_15 .skip
theorem f31_14e:CN f31_14 17 f31_15 .skip:=rfl
def f31_12:AC:=.seq f31_13 f31_14
theorem f31_12e:SQ f31_12 f31_13 f31_14:=rfl
def f31_10:AC:=.seq f31_11 f31_12
theorem f31_10e:SQ f31_10 f31_11 f31_12:=rfl
def f31_19l:List GI:=[vv 19 2]
def f31_19:AC:=.ops [0,19] [] f31_19l
theorem f31_19e:OP f31_19 f31_19l [0,19] []:=rfl
def f31_22l:List GI:=[vv 20 0,
    vn 21 20,
    vd 22 21 2,
    ⟨none,.store 1 (.r 22) (.c (.lit (.bool true)))⟩]
def f31_22:AC:=.ops [0] [] f31_22l
theorem f31_22e:OP f31_22 f31_22l [0] []:=rfl
def f31_24l:List GI:=[vv 23 0,
    vn 24 23,
    vd 25 24 0,
    vd 26 25 1,
    vl 27 26,
    ⟨none,.call (some 28) false (.f 66) [(.r 27)]⟩,
    vo 6 28,
    ⟨none,.mv (some 7) (.c (.lit (.int .i64 0)))⟩]
def f31_24:AC:=.ops [6,7] [] f31_24l
theorem f31_24e:OP f31_24 f31_24l [6,7] []:=rfl
def f31_23:AC:=.seq f31_24 .ret
theorem f31_23e:SQ f31_23 f31_24 .ret:=rfl
def f31_21:AC:=.seq f31_22 f31_23
theorem f31_21e:SQ f31_21 f31_22 f31_23:=rfl
def f31_20:AC:=.cond (.r 19) f31_21 .skip
theorem f31_20e:CN f31_20 19 f31_21 .skip:=rfl
def f31_18:AC:=.seq f31_19 f31_20
theorem f31_18e:SQ f31_18 f31_19 f31_20:=rfl
def f31_26l:List GI:=[vv 29 0,
    vn 30 29,
    vd 31 30 0,
    ⟨none,.call (some 32) false (.f 72) [(.r 31)]⟩,
    vo 6 32,
    ⟨none,.mv (some 7) (.c (.lit (.int .i64 0)))⟩]
def f31_26:AC:=.ops [6,7] [] f31_26l
theorem f31_26e:OP f31_26 f31_26l [6,7] []:=rfl
def f31_25:AC:=.seq f31_26 .ret
theorem f31_25e:SQ f31_25 f31_26 .ret:=rfl
def f31_17:AC:=.seq f31_18 f31_25
theorem f31_17e:SQ f31_17 f31_18 f31_25:=rfl
def f31_9:AC:=.seq f31_10 f31_17
theorem f31_9e:SQ f31_9 f31_10 f31_17:=rfl
def f31_3:AC:=.seq f31_4 f31_9
theorem f31_3e:SQ f31_3 f31_4 f31_9:=rfl
def f31_1:AC:=.seq f31_2 f31_3
theorem f31_1e:SQ f31_1 f31_2 f31_3:=rfl
def c_f31:AFun:=⟨33,[.tmp 6,.tmp 7],f31_1⟩
theorem k_f31:a7 Go.Proofs.Try.prog x_f31 31 = some c_f31:=by kernel_rfl
theorem e_f31:aJ Go.Proofs.Try.prog 31 = true:=by kernel_rfl

def n_f35:Nat:=35
def x_f35:Cx:=⟨some,id,14,fun s=>([0,2,3,4,5,6,7,8,10,11,12,13]:List Nat).contains s,fun s=>([]:List Nat).contains s,msOf [(2,[0],[]),(12,[0,9],[]),(52,[2,3],[]),(14,[2,3],[])]⟩
def f35_2l:List GI:=[⟨none,.mv (some 2) (.c (.lit (.pointer none)))⟩,
    ⟨none,.mv (some 3) (.c (.lit (.int .i64 0)))⟩]
def f35_2:AC:=.ops [0] [] f35_2l
theorem f35_2e:OP f35_2 f35_2l [0] []:=rfl
def f35_5l:List GI:=[vv 4 0,
    vb 5 .lss 4 1,
    vv 6 5,
    ⟨some (6,false),.mv (some 7) (.r 0)⟩,
    ⟨some (6,false),.bin (some 8) .num .gtr (.r 7) (.c (.lit (.int .i64 1048576)))⟩,
    ⟨none,.pick (some 9) (.r 6) (.c (.lit (.bool true))) (.r 8)⟩]
def f35_5:AC:=.ops [0,9] [] f35_5l
theorem f35_5e:OP f35_5 f35_5l [0,9] []:=rfl
def f35_8l:List GI:=[⟨none,.mv (some 2) (.c (.lit (.pointer none)))⟩,
    ⟨none,.mv (some 3) (.c (.lit (.int .i64 2)))⟩]
def f35_8:AC:=.ops [2,3] [] f35_8l
theorem f35_8e:OP f35_8 f35_8l [2,3] []:=rfl
def f35_7:AC:=.seq f35_8 .ret
theorem f35_7e:SQ f35_7 f35_8 .ret:=rfl
def f35_6:AC:=.cond (.r 9) f35_7 .skip
theorem f35_6e:CN f35_6 9 f35_7 .skip:=rfl
def f35_4:AC:=.seq f35_5 f35_6
theorem f35_4e:SQ f35_4 f35_5 f35_6:=rfl
def f35_10l:List GI:=[vv 10 0,
    ⟨none,.call (some 11) false (.f 51) []⟩,
    ⟨none,.bst (some 12) [(0,1),(1,1)] (.agg [(.lit (.int .i64 0)),(.lit (.pointer none))]) [(0,(.r 10)),(1,(.r 11))]⟩,
    ⟨none,.boxB 13 2 (.r 12)⟩,
    vo 2 13,
    ⟨none,.mv (some 3) (.c (.lit (.int .i64 0)))⟩]
def f35_10:AC:=.ops [2,3] [] f35_10l
theorem f35_10e:OP f35_10 f35_10l [2,3] []:=rfl
def f35_9:AC:=.seq f35_10 .ret
theorem f35_9e:SQ f35_9 f35_10 .ret:=rfl
def f35_3:AC:=.seq f35_4 f35_9
theorem f35_3e:SQ f35_3 f35_4 f35_9:=rfl
def f35_1:AC:=.seq f35_2 f35_3
theorem f35_1e:SQ f35_1 f35_2 f35_3:=rfl
def c_f35:AFun:=⟨14,[.tmp 2,.tmp 3],f35_1⟩
theorem k_f35:a7 Go.Proofs.Try.prog x_f35 35 = some c_f35:=by kernel_rfl
theorem e_f35:aJ Go.Proofs.Try.prog 35 = true:=by kernel_rfl

def n_f37:Nat:=37
def x_f37:Cx:=⟨some,id,37,fun s=>([0,1,4,5,7,8,10,11,13,17,18,22,23,24,30,35,36]:List Nat).contains s,fun s=>([]:List Nat).contains s,msOf [(2,[0,1],[]),(24,[0,1,6],[]),(100,[4,5],[]),(102,[0,1,9],[]),(412,[4,5],[]),(414,[0,1,12],[]),(1660,[4,5],[]),(14,[0],[]),(60,[0,31],[]),(244,[4,5],[]),(62,[4,5],[])]⟩
def f37_2l:List GI:=[⟨none,.mv (some 4) (.c (.lit (.slice none 0 0)))⟩,
    ⟨none,.mv (some 5) (.c (.lit (.int .i64 0)))⟩]
def f37_2:AC:=.ops [0,1] [] f37_2l
theorem f37_2e:OP f37_2 f37_2l [0,1] []:=rfl
def f37_6l:List GI:=[vv 7 0,
    ⟨none,.call (some 8) false (.f 74) [(.r 7)]⟩,
    vo 6 8]
def f37_6:AC:=.ops [0,1,6] [] f37_6l
theorem f37_6e:OP f37_6 f37_6l [0,1,6] []:=rfl
def f37_9l:List GI:=[⟨none,.mv (some 4) (.c (.lit (.slice none 0 0)))⟩,
    ⟨none,.mv (some 5) (.c (.lit (.int .i64 1)))⟩]
def f37_9:AC:=.ops [4,5] [] f37_9l
theorem f37_9e:OP f37_9 f37_9l [4,5] []:=rfl
def f37_8:AC:=.seq f37_9 .ret
theorem f37_8e:SQ f37_8 f37_9 .ret:=rfl
def f37_11l:List GI:=[vv 10 1,
    vb 11 .lss 10 1,
    vo 9 11]
def f37_11:AC:=.ops [0,1,9] [] f37_11l
theorem f37_11e:OP f37_11 f37_11l [0,1,9] []:=rfl
def f37_14l:List GI:=[⟨none,.mv (some 4) (.c (.lit (.slice none 0 0)))⟩,
    ⟨none,.mv (some 5) (.c (.lit (.int .i64 2)))⟩]
def f37_14:AC:=.ops [4,5] [] f37_14l
theorem f37_14e:OP f37_14 f37_14l [4,5] []:=rfl
def f37_13:AC:=.seq f37_14 .ret
theorem f37_13e:SQ f37_13 f37_14 .ret:=rfl
def f37_16l:List GI:=[vv 13 1,
    vv 14 0,
    vn 15 14,
    vd 16 15 0,
    vl 17 16,
    ⟨none,.bin (some 18) .num .gtr (.r 13) (.r 17)⟩,
    vo 12 18]
def f37_16:AC:=.ops [0,1,12] [] f37_16l
theorem f37_16e:OP f37_16 f37_16l [0,1,12] []:=rfl
def f37_19l:List GI:=[⟨none,.mv (some 4) (.c (.lit (.slice none 0 0)))⟩,
    ⟨none,.mv (some 5) (.c (.lit (.int .i64 3)))⟩]
def f37_19:AC:=.ops [4,5] [] f37_19l
theorem f37_19e:OP f37_19 f37_19l [4,5] []:=rfl
def f37_18:AC:=.seq f37_19 .ret
theorem f37_18e:SQ f37_18 f37_19 .ret:=rfl
def f37_17:AC:=.cond (.r 12) f37_18 .skip
theorem f37_17e:CN f37_17 12 f37_18 .skip:=rfl
def f37_15:AC:=.seq f37_16 f37_17
theorem f37_15e:SQ f37_15 f37_16 f37_17:=rfl
def f37_12:AC:=.cond (.r 9) f37_13 f37_15
theorem f37_12e:CN f37_12 9 f37_13 f37_15:=rfl
def f37_10:AC:=.seq f37_11 f37_12
theorem f37_10e:SQ f37_10 f37_11 f37_12:=rfl
def f37_7:AC:=.cond (.r 6) f37_8 f37_10
theorem f37_7e:CN f37_7 6 f37_8 f37_10:=rfl
def f37_5:AC:=.seq f37_6 f37_7
theorem f37_5e:SQ f37_5 f37_6 f37_7:=rfl
def f37_4:AC:=.block 0 f37_5
theorem f37_4e:BL f37_4 f37_5 0:=rfl
def f37_21l:List GI:=[vv 19 0,
    vn 20 19,
    vd 21 20 0,
    vl 22 21,
    vv 23 1,
    ⟨none,.bin (some 24) .num .sub (.r 22) (.r 23)⟩,
    vn 25 19,
    vd 26 25 0,
    ⟨none,.store 1 (.r 26) (.r 24)⟩]
def f37_21:AC:=.ops [0] [] f37_21l
theorem f37_21e:OP f37_21 f37_21l [0] []:=rfl
def f37_24l:List GI:=[vv 27 0,
    vn 28 27,
    vd 29 28 0,
    vl 30 29,
    vb 31 .gtr 30 0]
def f37_24:AC:=.ops [0,31] [] f37_24l
theorem f37_24e:OP f37_24 f37_24l [0,31] []:=rfl
def f37_27l:List GI:=[⟨none,.mv (some 4) (.c (.lit (.slice none 0 0)))⟩,
    ⟨none,.mv (some 5) (.c (.lit (.int .i64 0)))⟩]
def f37_27:AC:=.ops [4,5] [] f37_27l
theorem f37_27e:OP f37_27 f37_27l [4,5] []:=rfl
def f37_26:AC:=.seq f37_27 .ret
theorem f37_26e:SQ f37_26 f37_27 .ret:=rfl
def f37_25:AC:=.cond (.r 31) f37_26 .skip
theorem f37_25e:CN f37_25 31 f37_26 .skip:=rfl
def f37_23:AC:=.seq f37_24 f37_25
theorem f37_23e:SQ f37_23 f37_24 f37_25:=rfl
def f37_29l:List GI:=[vv 32 0,
    vn 33 32,
    vd 34 33 1,
    vl 35 34,
    ⟨none,.call (some 36) false (.f 66) [(.r 35)]⟩,
    vo 4 36,
    ⟨none,.mv (some 5) (.c (.lit (.int .i64 0)))⟩]
def f37_29:AC:=.ops [4,5] [] f37_29l
theorem f37_29e:OP f37_29 f37_29l [4,5] []:=rfl
def f37_28:AC:=.seq f37_29 .ret
theorem f37_28e:SQ f37_28 f37_29 .ret:=rfl
def f37_22:AC:=.seq f37_23 f37_28
theorem f37_22e:SQ f37_22 f37_23 f37_28:=rfl
def f37_20:AC:=.seq f37_21 f37_22
theorem f37_20e:SQ f37_20 f37_21 f37_22:=rfl
def f37_3:AC:=.seq f37_4 f37_20
theorem f37_3e:SQ f37_3 f37_4 f37_20:=rfl
def f37_1:AC:=.seq f37_2 f37_3
theorem f37_1e:SQ f37_1 f37_2 f37_3:=rfl
def c_f37:AFun:=⟨37,[.tmp 4,.tmp 5],f37_1⟩
theorem k_f37:a7 Go.Proofs.Try.prog x_f37 37 = some c_f37:=by kernel_rfl
theorem e_f37:aJ Go.Proofs.Try.prog 37 = true:=by kernel_rfl

def n_f38:Nat:=38
def x_f38:Cx:=⟨some,id,13,fun s=>([0,1,4,5,10,11,12]:List Nat).contains s,fun s=>([]:List Nat).contains s,msOf [(2,[0,1],[]),(12,[0,1,6],[]),(52,[4],[]),(14,[4],[])]⟩
def f38_2l:List GI:=[⟨none,.mv (some 4) (.c (.lit (.int .i64 0)))⟩]
def f38_2:AC:=.ops [0,1] [] f38_2l
theorem f38_2e:OP f38_2 f38_2l [0,1] []:=rfl
def f38_5l:List GI:=[vv 5 0,
    ⟨none,.call (some 6) false (.f 74) [(.r 5)]⟩]
def f38_5:AC:=.ops [0,1,6] [] f38_5l
theorem f38_5e:OP f38_5 f38_5l [0,1,6] []:=rfl
def f38_8l:List GI:=[⟨none,.mv (some 4) (.c (.lit (.int .i64 1)))⟩]
def f38_8:AC:=.ops [4] [] f38_8l
theorem f38_8e:OP f38_8 f38_8l [4] []:=rfl
def f38_7:AC:=.seq f38_8 .ret
theorem f38_7e:SQ f38_7 f38_8 .ret:=rfl
def f38_6:AC:=.cond (.r 6) f38_7 .skip
theorem f38_6e:CN f38_6 6 f38_7 .skip:=rfl
def f38_4:AC:=.seq f38_5 f38_6
theorem f38_4e:SQ f38_4 f38_5 f38_6:=rfl
def f38_10l:List GI:=[vv 7 0,
    vn 8 7,
    vd 9 8 1,
    vl 10 9,
    vv 11 1,
    ⟨none,.call (some 12) false (.f 75) [(.r 10),(.r 11)]⟩,
    vo 4 12]
def f38_10:AC:=.ops [4] [] f38_10l
theorem f38_10e:OP f38_10 f38_10l [4] []:=rfl
def f38_9:AC:=.seq f38_10 .ret
theorem f38_9e:SQ f38_9 f38_10 .ret:=rfl
def f38_3:AC:=.seq f38_4 f38_9
theorem f38_3e:SQ f38_3 f38_4 f38_9:=rfl
def f38_1:AC:=.seq f38_2 f38_3
theorem f38_1e:SQ f38_1 f38_2 f38_3:=rfl
def c_f38:AFun:=⟨13,[.tmp 4],f38_1⟩
theorem k_f38:a7 Go.Proofs.Try.prog x_f38 38 = some c_f38:=by kernel_rfl
theorem e_f38:aJ Go.Proofs.Try.prog 38 = true:=by kernel_rfl

def n_f41:Nat:=41
def x_f41:Cx:=⟨some,id,40,fun s=>([0,1,5,6,7,8,10,12,13,14,16,17,18,19,20,21,22,24,25,26,28,29,30,31,32,33,34,35,37,38,39]:List Nat).contains s,fun s=>([]:List Nat).contains s,msOf [(2,[0,3,4],[3,4]),(12,[0,3,4,10],[3,4]),(52,[0,3,4,10,11],[3,4]),(212,[4,5,6],[4]),(426,[4],[4]),(214,[0,3,4,23],[3,4]),(860,[4,7,8],[4]),(1722,[4],[4]),(14,[4],[4])]⟩
def f41_2l:List GI:=[⟨none,.boxL 3 4 (.r 1)⟩,
    ⟨none,.newL 4 [(.lit (.bool false)),(.lit (.bool false)),(.lit (.slice none 0 0)),(.lit (.int .i64 0))]⟩]
def f41_2:AC:=.ops [0,3,4] [3,4] f41_2l
theorem f41_2e:OP f41_2 f41_2l [0,3,4] [3,4]:=rfl
def f41_5l:List GI:=[vd 9 3 0,
    vl 10 9]
def f41_5:AC:=.ops [0,3,4,10] [3,4] f41_5l
theorem f41_5e:OP f41_5 f41_5l [0,3,4,10] [3,4]:=rfl
def f41_8l:List GI:=[vb 12 .eql 10 0,
    vo 11 12]
def f41_8:AC:=.ops [0,3,4,10,11] [3,4] f41_8l
theorem f41_8e:OP f41_8 f41_8l [0,3,4,10,11] [3,4]:=rfl
def f41_11l:List GI:=[vv 14 0,
    vd 15 3 1,
    vl 16 15,
    ⟨none,.call (some 17) false (.f 76) [(.r 14),(.r 16)]⟩,
    vv 13 17,
    ve 18 13 0,
    ve 19 13 1,
    vo 5 18,
    vo 6 19]
def f41_11:AC:=.ops [4,5,6] [4] f41_11l
theorem f41_11e:OP f41_11 f41_11l [4,5,6] [4]:=rfl
def f41_13l:List GI:=[vv 20 5,
    vv 21 6,
    ⟨none,.bst (some 22) [(0,1),(1,1),(2,1),(3,1)] (.agg [(.lit (.bool false)),(.lit (.bool false)),(.lit (.slice none 0 0)),(.lit (.int .i64 0))]) [(1,(.r 20)),(3,(.r 21))]⟩,
    ⟨none,.store 4 (.r 4) (.r 22)⟩]
def f41_13:AC:=.ops [4] [4] f41_13l
theorem f41_13e:OP f41_13 f41_13l [4] [4]:=rfl
def f41_12:AC:=.seq f41_13 .ret
theorem f41_12e:SQ f41_12 f41_13 .ret:=rfl
def f41_10:AC:=.seq f41_11 f41_12
theorem f41_10e:SQ f41_10 f41_11 f41_12:=rfl
def f41_15l:List GI:=[vb 24 .eql 10 1,
    vo 23 24]
def f41_15:AC:=.ops [0,3,4,23] [3,4] f41_15l
theorem f41_15e:OP f41_15 f41_15l [0,3,4,23] [3,4]:=rfl
def f41_18l:List GI:=[vv 26 0,
    vd 27 3 2,
    vl 28 27,
    ⟨none,.call (some 29) false (.f 37) [(.r 26),(.r 28)]⟩,
    vv 25 29,
    ve 30 25 0,
    ve 31 25 1,
    vo 7 30,
    vo 8 31]
def f41_18:AC:=.ops [4,7,8] [4] f41_18l
theorem f41_18e:OP f41_18 f41_18l [4,7,8] [4]:=rfl
def f41_20l:List GI:=[vv 32 7,
    vv 33 8,
    ⟨none,.bst (some 34) [(0,1),(1,1),(2,1),(3,1)] (.agg [(.lit (.bool false)),(.lit (.bool false)),(.lit (.slice none 0 0)),(.lit (.int .i64 0))]) [(2,(.r 32)),(3,(.r 33))]⟩,
    ⟨none,.store 4 (.r 4) (.r 34)⟩]
def f41_20:AC:=.ops [4] [4] f41_20l
theorem f41_20e:OP f41_20 f41_20l [4] [4]:=rfl
def f41_19:AC:=.seq f41_20 .ret
theorem f41_19e:SQ f41_19 f41_20 .ret:=rfl
def f41_17:AC:=.seq f41_18 f41_19
theorem f41_17e:SQ f41_17 f41_18 f41_19:=rfl
def f41_16:AC:=.cond (.r 23) f41_17 .skip
theorem f41_16e:CN f41_16 23 f41_17 .skip:=rfl
def f41_14:AC:=.seq f41_15 f41_16
theorem f41_14e:SQ f41_14 f41_15 f41_16:=rfl
def f41_9:AC:=.cond (.r 11) f41_10 f41_14
theorem f41_9e:CN f41_9 11 f41_10 f41_14:=rfl
def f41_7:AC:=.seq f41_8 f41_9
theorem f41_7e:SQ f41_7 f41_8 f41_9:=rfl
def f41_6:AC:=.block 0 f41_7
theorem f41_6e:BL f41_6 f41_7 0:=rfl
def f41_4:AC:=.seq f41_5 f41_6
theorem f41_4e:SQ f41_4 f41_5 f41_6:=rfl
def f41_22l:List GI:=[vv 35 0,
    vd 36 3 1,
    vl 37 36,
    ⟨none,.call (some 38) false (.f 38) [(.r 35),(.r 37)]⟩,
    ⟨none,.bst (some 39) [(0,1),(1,1),(2,1),(3,1)] (.agg [(.lit (.bool false)),(.lit (.bool false)),(.lit (.slice none 0 0)),(.lit (.int .i64 0))]) [(3,(.r 38))]⟩,
    ⟨none,.store 4 (.r 4) (.r 39)⟩]
def f41_22:AC:=.ops [4] [4] f41_22l
theorem f41_22e:OP f41_22 f41_22l [4] [4]:=rfl
def f41_21:AC:=.seq f41_22 .ret
theorem f41_21e:SQ f41_21 f41_22 .ret:=rfl
def f41_3:AC:=.seq f41_4 f41_21
theorem f41_3e:SQ f41_3 f41_4 f41_21:=rfl
def f41_1:AC:=.seq f41_2 f41_3
theorem f41_1e:SQ f41_1 f41_2 f41_3:=rfl
def c_f41:AFun:=⟨40,[.cell 4 (some 4)],f41_1⟩
theorem k_f41:a7 Go.Proofs.Try.prog x_f41 41 = some c_f41:=by kernel_rfl
theorem e_f41:aJ Go.Proofs.Try.prog 41 = true:=by kernel_rfl

def n_f45:Nat:=45
def x_f45:Cx:=⟨some,id,20,fun s=>([0,1,4,5,6,8,9,10,11,15,16,17,18,19]:List Nat).contains s,fun s=>([16,17]:List Nat).contains s,msOf [(2,[0,1],[]),(12,[0,1,7],[]),(52,[4,5],[]),(14,[4,5],[])]⟩
def f45_2l:List GI:=[⟨none,.mv (some 4) (.c (.lit (.bool false)))⟩,
    ⟨none,.mv (some 5) (.c (.lit (.int .i64 0)))⟩]
def f45_2:AC:=.ops [0,1] [] f45_2l
theorem f45_2e:OP f45_2 f45_2l [0,1] []:=rfl
def f45_5l:List GI:=[vv 6 0,
    ⟨none,.call (some 7) false (.f 62) [(.r 6)]⟩]
def f45_5:AC:=.ops [0,1,7] [] f45_5l
theorem f45_5e:OP f45_5 f45_5l [0,1,7] []:=rfl
def f45_8l:List GI:=[⟨none,.mv (some 4) (.c (.lit (.bool false)))⟩,
    ⟨none,.mv (some 5) (.c (.lit (.int .i64 1)))⟩]
def f45_8:AC:=.ops [4,5] [] f45_8l
theorem f45_8e:OP f45_8 f45_8l [4,5] []:=rfl
def f45_7:AC:=.seq f45_8 .ret
theorem f45_7e:SQ f45_7 f45_8 .ret:=rfl
def f45_6:AC:=.cond (.r 7) f45_7 .skip
theorem f45_6e:CN f45_6 7 f45_7 .skip:=rfl
def f45_4:AC:=.seq f45_5 f45_6
theorem f45_4e:SQ f45_4 f45_5 f45_6:=rfl
def f45_10h:List GI:=[vv 8 0,
    vn 9 8,
    vd 10 9 0,
    vv 11 1,
    vv 12 0,
    vn 13 12,
    vd 14 13 2,
    vl 15 14,
    ⟨none,.bsl (some 16) 1 1 (.lit (.pointer none)) [(0,(.r 15))]⟩]
def f45_10p:List GI:=[ve 18 17 0,
    ve 19 17 1]
def f45_10l:List GI:=[vo 4 18,
    vo 5 19]
def f45_10:AC:=.drawC [4,5] [] f45_10h (some 17) (.f 70) [(.r 10),(.r 11),(.r 16)] f45_10p f45_10l
theorem f45_10e:aC P id m f45_10 sf st Q = (m = false∧drawC P id f45_10h (some 17) (.f 70) [(.r 10),(.r 11),(.r 16)] f45_10p sf st (ge P id m [4,5] [] f45_10l Q)):=rfl
def f45_9:AC:=.seq f45_10 .ret
theorem f45_9e:SQ f45_9 f45_10 .ret:=rfl
def f45_3:AC:=.seq f45_4 f45_9
theorem f45_3e:SQ f45_3 f45_4 f45_9:=rfl
def f45_1:AC:=.seq f45_2 f45_3
theorem f45_1e:SQ f45_1 f45_2 f45_3:=rfl
def c_f45:AFun:=⟨20,[.tmp 4,.tmp 5],f45_1⟩
theorem k_f45:a7 Go.Proofs.Try.prog x_f45 45 = some c_f45:=by kernel_rfl
theorem e_f45:aJ Go.Proofs.Try.prog 45 = true:=by kernel_rfl

def n_f46:Nat:=46
def x_f46:Cx:=⟨some,id,8,fun s=>([0,2,3,4,5,6,7]:List Nat).contains s,fun s=>([]:List Nat).contains s,msOf [(2,[0],[]),(6,[2,3],[])]⟩
def f46_2l:List GI:=[⟨none,.mv (some 2) (.c (.lit (.slice none 0 0)))⟩,
    ⟨none,.mv (some 3) (.c (.lit (.int .i64 0)))⟩]
def f46_2:AC:=.ops [0] [] f46_2l
theorem f46_2e:OP f46_2 f46_2l [0] []:=rfl
def f46_4l:List GI:=[vv 4 0,
    ⟨none,.call (some 5) false (.f 77) [(.r 4),(.c (.lit (.int .i64 64)))]⟩,
    ve 6 5 0,
    ve 7 5 1,
    vo 2 6,
    vo 3 7]
def f46_4:AC:=.ops [2,3] [] f46_4l
theorem f46_4e:OP f46_4 f46_4l [2,3] []:=rfl
def f46_3:AC:=.seq f46_4 .ret
theorem f46_3e:SQ f46_3 f46_4 .ret:=rfl
def f46_1:AC:=.seq f46_2 f46_3
theorem f46_1e:SQ f46_1 f46_2 f46_3:=rfl
def c_f46:AFun:=⟨8,[.tmp 2,.tmp 3],f46_1⟩
theorem k_f46:a7 Go.Proofs.Try.prog x_f46 46 = some c_f46:=by kernel_rfl
theorem e_f46:aJ Go.Proofs.Try.prog 46 = true:=by kernel_rfl

def n_f50:Nat:=50
def x_f50:Cx:=⟨some,id,5,fun s=>([0,3,4]:List Nat).contains s,fun s=>([]:List Nat).contains s,msOf [(2,[0,2],[2]),(6,[2],[2])]⟩
def f50_2l:List GI:=[⟨none,.newL 2 [(.lit (.bool false)),(.lit (.bool false)),(.lit (.slice none 0 0)),(.lit (.int .i64 0))]⟩]
def f50_2:AC:=.ops [0,2] [2] f50_2l
theorem f50_2e:OP f50_2 f50_2l [0,2] [2]:=rfl
def f50_4l:List GI:=[vv 3 0,
    ⟨none,.bst (some 4) [(0,1),(1,1),(2,1),(3,1)] (.agg [(.lit (.bool false)),(.lit (.bool false)),(.lit (.slice none 0 0)),(.lit (.int .i64 0))]) [(3,(.r 3))]⟩,
    ⟨none,.store 4 (.r 2) (.r 4)⟩]
def f50_4:AC:=.ops [2] [2] f50_4l
theorem f50_4e:OP f50_4 f50_4l [2] [2]:=rfl
def f50_3:AC:=.seq f50_4 .ret
theorem f50_3e:SQ f50_3 f50_4 .ret:=rfl
def f50_1:AC:=.seq f50_2 f50_3
theorem f50_1e:SQ f50_1 f50_2 f50_3:=rfl
def c_f50:AFun:=⟨5,[.cell 2 (some 4)],f50_1⟩
theorem k_f50:a7 Go.Proofs.Try.prog x_f50 50 = some c_f50:=by kernel_rfl
theorem e_f50:aJ Go.Proofs.Try.prog 50 = true:=by kernel_rfl

def n_f51:Nat:=51
def x_f51:Cx:=⟨some,id,5,fun s=>([0,1,2,3,4]:List Nat).contains s,fun s=>([]:List Nat).contains s,msOf [(2,[],[]),(6,[0],[])]⟩
def f51_2l:List GI:=[⟨none,.mv (some 0) (.c (.lit (.pointer none)))⟩]
def f51_2:AC:=.ops [] [] f51_2l
theorem f51_2e:OP f51_2 f51_2l [] []:=rfl
def f51_4l:List GI:=[⟨none,.call (some 1) false (.f 78) []⟩,
    ⟨none,.mkmap 2⟩,
    ⟨none,.bst (some 3) [(0,1),(1,1)] (.agg [(.lit (.pointer none)),(.lit (.map none))]) [(0,(.r 1)),(1,(.r 2))]⟩,
    ⟨none,.boxB 4 2 (.r 3)⟩,
    vo 0 4]
def f51_4:AC:=.ops [0] [] f51_4l
theorem f51_4e:OP f51_4 f51_4l [0] []:=rfl
def f51_3:AC:=.seq f51_4 .ret
theorem f51_3e:SQ f51_3 f51_4 .ret:=rfl
def f51_1:AC:=.seq f51_2 f51_3
theorem f51_1e:SQ f51_1 f51_2 f51_3:=rfl
def c_f51:AFun:=⟨5,[.tmp 0],f51_1⟩
theorem k_f51:a7 Go.Proofs.Try.prog x_f51 51 = some c_f51:=by kernel_rfl
theorem e_f51:aJ Go.Proofs.Try.prog 51 = true:=by kernel_rfl

def n_f52:Nat:=52
def x_f52:Cx:=⟨some,id,5,fun s=>([0,3,4]:List Nat).contains s,fun s=>([]:List Nat).contains s,msOf [(2,[0,2],[2]),(6,[2],[2])]⟩
def f52_2l:List GI:=[⟨none,.newL 2 [(.lit (.bool false)),(.lit (.bool false)),(.lit (.slice none 0 0)),(.lit (.int .i64 0))]⟩]
def f52_2:AC:=.ops [0,2] [2] f52_2l
theorem f52_2e:OP f52_2 f52_2l [0,2] [2]:=rfl
def f52_4l:List GI:=[vv 3 0,
    ⟨none,.bst (some 4) [(0,1),(1,1),(2,1),(3,1)] (.agg [(.lit (.bool false)),(.lit (.bool false)),(.lit (.slice none 0 0)),(.lit (.int .i64 0))]) [(2,(.r 3))]⟩,
    ⟨none,.store 4 (.r 2) (.r 4)⟩]
def f52_4:AC:=.ops [2] [2] f52_4l
theorem f52_4e:OP f52_4 f52_4l [2] [2]:=rfl
def f52_3:AC:=.seq f52_4 .ret
theorem f52_3e:SQ f52_3 f52_4 .ret:=rfl
def f52_1:AC:=.seq f52_2 f52_3
theorem f52_1e:SQ f52_1 f52_2 f52_3:=rfl
def c_f52:AFun:=⟨5,[.cell 2 (some 4)],f52_1⟩
theorem k_f52:a7 Go.Proofs.Try.prog x_f52 52 = some c_f52:=by kernel_rfl
theorem e_f52:aJ Go.Proofs.Try.prog 52 = true:=by kernel_rfl

def n_f53:Nat:=53
def x_f53:Cx:=⟨some,id,13,fun s=>([0,1,4,5,10,11,12]:List Nat).contains s,fun s=>([]:List Nat).contains s,msOf [(2,[0,1],[]),(12,[0,1,6],[]),(52,[4],[]),(14,[4],[])]⟩
def f53_2l:List GI:=[⟨none,.mv (some 4) (.c (.lit (.int .i64 0)))⟩]
def f53_2:AC:=.ops [0,1] [] f53_2l
theorem f53_2e:OP f53_2 f53_2l [0,1] []:=rfl
def f53_5l:List GI:=[vv 5 0,
    ⟨none,.call (some 6) false (.f 54) [(.r 5)]⟩]
def f53_5:AC:=.ops [0,1,6] [] f53_5l
theorem f53_5e:OP f53_5 f53_5l [0,1,6] []:=rfl
def f53_8l:List GI:=[⟨none,.mv (some 4) (.c (.lit (.int .i64 1)))⟩]
def f53_8:AC:=.ops [4] [] f53_8l
theorem f53_8e:OP f53_8 f53_8l [4] []:=rfl
def f53_7:AC:=.seq f53_8 .ret
theorem f53_7e:SQ f53_7 f53_8 .ret:=rfl
def f53_6:AC:=.cond (.r 6) f53_7 .skip
theorem f53_6e:CN f53_6 6 f53_7 .skip:=rfl
def f53_4:AC:=.seq f53_5 f53_6
theorem f53_4e:SQ f53_4 f53_5 f53_6:=rfl
def f53_10l:List GI:=[vv 7 0,
    vn 8 7,
    vd 9 8 2,
    vl 10 9,
    vv 11 1,
    ⟨none,.call (some 12) false (.f 75) [(.r 10),(.r 11)]⟩,
    vo 4 12]
def f53_10:AC:=.ops [4] [] f53_10l
theorem f53_10e:OP f53_10 f53_10l [4] []:=rfl
def f53_9:AC:=.seq f53_10 .ret
theorem f53_9e:SQ f53_9 f53_10 .ret:=rfl
def f53_3:AC:=.seq f53_4 f53_9
theorem f53_3e:SQ f53_3 f53_4 f53_9:=rfl
def f53_1:AC:=.seq f53_2 f53_3
theorem f53_1e:SQ f53_1 f53_2 f53_3:=rfl
def c_f53:AFun:=⟨13,[.tmp 4],f53_1⟩
theorem k_f53:a7 Go.Proofs.Try.prog x_f53 53 = some c_f53:=by kernel_rfl
theorem e_f53:aJ Go.Proofs.Try.prog 53 = true:=by kernel_rfl

def n_f54:Nat:=54
def x_f54:Cx:=⟨some,id,12,fun s=>([0,2,3,4,5,9,10,11]:List Nat).contains s,fun s=>([]:List Nat).contains s,msOf [(2,[0],[]),(6,[2],[])]⟩
def f54_2l:List GI:=[⟨none,.mv (some 2) (.c (.lit (.bool false)))⟩]
def f54_2:AC:=.ops [0] [] f54_2l
theorem f54_2e:OP f54_2 f54_2l [0] []:=rfl
def f54_4l:List GI:=[vv 3 0,
    ⟨none,.bin (some 4) (.nil .ptr) .eql (.r 3) (.c (.lit (.pointer none)))⟩,
    vv 5 4,
    ⟨some (5,false),.mv (some 6) (.r 0)⟩,
    ⟨some (5,false),.nilck (some 7) (.r 6)⟩,
    ⟨some (5,false),.addr (some 8) (.r 7) 2⟩,
    ⟨some (5,false),.load (some 9) (.r 8) none⟩,
    ⟨some (5,false),.bin (some 10) (.nil .ptr) .eql (.r 9) (.c (.lit (.pointer none)))⟩,
    ⟨none,.pick (some 11) (.r 5) (.c (.lit (.bool true))) (.r 10)⟩,
    vo 2 11]
def f54_4:AC:=.ops [2] [] f54_4l
theorem f54_4e:OP f54_4 f54_4l [2] []:=rfl
def f54_3:AC:=.seq f54_4 .ret
theorem f54_3e:SQ f54_3 f54_4 .ret:=rfl
def f54_1:AC:=.seq f54_2 f54_3
theorem f54_1e:SQ f54_1 f54_2 f54_3:=rfl
def c_f54:AFun:=⟨12,[.tmp 2],f54_1⟩
theorem k_f54:a7 Go.Proofs.Try.prog x_f54 54 = some c_f54:=by kernel_rfl
theorem e_f54:aJ Go.Proofs.Try.prog 54 = true:=by kernel_rfl

def n_f55:Nat:=55
def x_f55:Cx:=⟨some,id,10,fun s=>([0,2,3,8,9]:List Nat).contains s,fun s=>([]:List Nat).contains s,msOf [(2,[0],[]),(12,[0,4],[]),(52,[2],[]),(14,[2],[])]⟩
def f55_2l:List GI:=[⟨none,.mv (some 2) (.c (.lit (.int .i64 0)))⟩]
def f55_2:AC:=.ops [0] [] f55_2l
theorem f55_2e:OP f55_2 f55_2l [0] []:=rfl
def f55_5l:List GI:=[vv 3 0,
    ⟨none,.call (some 4) false (.f 79) [(.r 3)]⟩]
def f55_5:AC:=.ops [0,4] [] f55_5l
theorem f55_5e:OP f55_5 f55_5l [0,4] []:=rfl
def f55_8l:List GI:=[⟨none,.mv (some 2) (.c (.lit (.int .i64 0)))⟩]
def f55_8:AC:=.ops [2] [] f55_8l
theorem f55_8e:OP f55_8 f55_8l [2] []:=rfl
def f55_7:AC:=.seq f55_8 .ret
theorem f55_7e:SQ f55_7 f55_8 .ret:=rfl
def f55_6:AC:=.cond (.r 4) f55_7 .skip
theorem f55_6e:CN f55_6 4 f55_7 .skip:=rfl
def f55_4:AC:=.seq f55_5 f55_6
theorem f55_4e:SQ f55_4 f55_5 f55_6:=rfl
def f55_10l:List GI:=[vv 5 0,
    vn 6 5,
    vd 7 6 3,
    vl 8 7,
    ⟨none,.len (some 9) .mp (.r 8)⟩,
    vo 2 9]
def f55_10:AC:=.ops [2] [] f55_10l
theorem f55_10e:OP f55_10 f55_10l [2] []:=rfl
def f55_9:AC:=.seq f55_10 .ret
theorem f55_9e:SQ f55_9 f55_10 .ret:=rfl
def f55_3:AC:=.seq f55_4 f55_9
theorem f55_3e:SQ f55_3 f55_4 f55_9:=rfl
def f55_1:AC:=.seq f55_2 f55_3
theorem f55_1e:SQ f55_1 f55_2 f55_3:=rfl
def c_f55:AFun:=⟨10,[.tmp 2],f55_1⟩
theorem k_f55:a7 Go.Proofs.Try.prog x_f55 55 = some c_f55:=by kernel_rfl
theorem e_f55:aJ Go.Proofs.Try.prog 55 = true:=by kernel_rfl

def n_f56:Nat:=56
def x_f56:Cx:=⟨some,id,14,fun s=>([0,1,4,5,11,12,13]:List Nat).contains s,fun s=>([]:List Nat).contains s,msOf [(2,[0,1],[]),(12,[0,1,6],[]),(52,[4],[]),(14,[4],[])]⟩
def f56_2l:List GI:=[⟨none,.mv (some 4) (.c (.lit (.int .i64 0)))⟩]
def f56_2:AC:=.ops [0,1] [] f56_2l
theorem f56_2e:OP f56_2 f56_2l [0,1] []:=rfl
def f56_5l:List GI:=[vv 5 0,
    ⟨none,.call (some 6) false (.f 57) [(.r 5)]⟩]
def f56_5:AC:=.ops [0,1,6] [] f56_5l
theorem f56_5e:OP f56_5 f56_5l [0,1,6] []:=rfl
def f56_8l:List GI:=[⟨none,.mv (some 4) (.c (.lit (.int .i64 1)))⟩]
def f56_8:AC:=.ops [4] [] f56_8l
theorem f56_8e:OP f56_8 f56_8l [4] []:=rfl
def f56_7:AC:=.seq f56_8 .ret
theorem f56_7e:SQ f56_7 f56_8 .ret:=rfl
def f56_6:AC:=.cond (.r 6) f56_7 .skip
theorem f56_6e:CN f56_6 6 f56_7 .skip:=rfl
def f56_4:AC:=.seq f56_5 f56_6
theorem f56_4e:SQ f56_4 f56_5 f56_6:=rfl
def f56_10l:List GI:=[vv 7 0,
    vn 8 7,
    vd 9 8 0,
    vd 10 9 1,
    vl 11 10,
    vv 12 1,
    ⟨none,.call (some 13) false (.f 75) [(.r 11),(.r 12)]⟩,
    vo 4 13]
def f56_10:AC:=.ops [4] [] f56_10l
theorem f56_10e:OP f56_10 f56_10l [4] []:=rfl
def f56_9:AC:=.seq f56_10 .ret
theorem f56_9e:SQ f56_9 f56_10 .ret:=rfl
def f56_3:AC:=.seq f56_4 f56_9
theorem f56_3e:SQ f56_3 f56_4 f56_9:=rfl
def f56_1:AC:=.seq f56_2 f56_3
theorem f56_1e:SQ f56_1 f56_2 f56_3:=rfl
def c_f56:AFun:=⟨14,[.tmp 4],f56_1⟩
theorem k_f56:a7 Go.Proofs.Try.prog x_f56 56 = some c_f56:=by kernel_rfl
theorem e_f56:aJ Go.Proofs.Try.prog 56 = true:=by kernel_rfl

def n_f57:Nat:=57
def x_f57:Cx:=⟨some,id,13,fun s=>([0,2,3,4,5,10,11,12]:List Nat).contains s,fun s=>([]:List Nat).contains s,msOf [(2,[0],[]),(6,[2],[])]⟩
def f57_2l:List GI:=[⟨none,.mv (some 2) (.c (.lit (.bool false)))⟩]
def f57_2:AC:=.ops [0] [] f57_2l
theorem f57_2e:OP f57_2 f57_2l [0] []:=rfl
def f57_4l:List GI:=[vv 3 0,
    ⟨none,.bin (some 4) (.nil .ptr) .eql (.r 3) (.c (.lit (.pointer none)))⟩,
    vv 5 4,
    ⟨some (5,false),.mv (some 6) (.r 0)⟩,
    ⟨some (5,false),.nilck (some 7) (.r 6)⟩,
    ⟨some (5,false),.addr (some 8) (.r 7) 0⟩,
    ⟨some (5,false),.addr (some 9) (.r 8) 1⟩,
    ⟨some (5,false),.load (some 10) (.r 9) none⟩,
    ⟨some (5,false),.bin (some 11) (.nil .ptr) .eql (.r 10) (.c (.lit (.pointer none)))⟩,
    ⟨none,.pick (some 12) (.r 5) (.c (.lit (.bool true))) (.r 11)⟩,
    vo 2 12]
def f57_4:AC:=.ops [2] [] f57_4l
theorem f57_4e:OP f57_4 f57_4l [2] []:=rfl
def f57_3:AC:=.seq f57_4 .ret
theorem f57_3e:SQ f57_3 f57_4 .ret:=rfl
def f57_1:AC:=.seq f57_2 f57_3
theorem f57_1e:SQ f57_1 f57_2 f57_3:=rfl
def c_f57:AFun:=⟨13,[.tmp 2],f57_1⟩
theorem k_f57:a7 Go.Proofs.Try.prog x_f57 57 = some c_f57:=by kernel_rfl
theorem e_f57:aJ Go.Proofs.Try.prog 57 = true:=by kernel_rfl

def n_f58:Nat:=58
def x_f58:Cx:=⟨some,id,21,fun s=>([0,1,4,5,6,7,9,10,11,12,13,14,16,17,18,19,20]:List Nat).contains s,fun s=>([]:List Nat).contains s,msOf [(2,[0,1],[]),(12,[0,1,8],[]),(52,[4,5],[]),(28,[0,6],[]),(58,[0,6,15],[]),(236,[4,5],[]),(30,[4,5],[])]⟩
def f58_2l:List GI:=[⟨none,.mv (some 4) (.c (.lit (.slice none 0 0)))⟩,
    ⟨none,.mv (some 5) (.c (.lit (.int .i64 0)))⟩]
def f58_2:AC:=.ops [0,1] [] f58_2l
theorem f58_2e:OP f58_2 f58_2l [0,1] []:=rfl
def f58_5l:List GI:=[vv 7 0,
    ⟨none,.call (some 8) false (.f 62) [(.r 7)]⟩]
def f58_5:AC:=.ops [0,1,8] [] f58_5l
theorem f58_5e:OP f58_5 f58_5l [0,1,8] []:=rfl
def f58_8l:List GI:=[⟨none,.mv (some 4) (.c (.lit (.slice none 0 0)))⟩,
    ⟨none,.mv (some 5) (.c (.lit (.int .i64 1)))⟩]
def f58_8:AC:=.ops [4,5] [] f58_8l
theorem f58_8e:OP f58_8 f58_8l [4,5] []:=rfl
def f58_7:AC:=.seq f58_8 .ret
theorem f58_7e:SQ f58_7 f58_8 .ret:=rfl
def f58_6:AC:=.cond (.r 8) f58_7 .skip
theorem f58_6e:CN f58_6 8 f58_7 .skip:=rfl
def f58_4:AC:=.seq f58_5 f58_6
theorem f58_4e:SQ f58_4 f58_5 f58_6:=rfl
def f58_11l:List GI:=[vv 9 0,
    vn 10 9,
    vd 11 10 0,
    vv 12 1,
    ⟨none,.call (some 13) false (.f 71) [(.r 11),(.r 12)]⟩,
    vo 6 13]
def f58_11:AC:=.ops [0,6] [] f58_11l
theorem f58_11e:OP f58_11 f58_11l [0,6] []:=rfl
def f58_13l:List GI:=[vv 14 6,
    vb 15 .neq 14 0]
def f58_13:AC:=.ops [0,6,15] [] f58_13l
theorem f58_13e:OP f58_13 f58_13l [0,6,15] []:=rfl
def f58_16l:List GI:=[vv 16 6,
    ⟨none,.mv (some 4) (.c (.lit (.slice none 0 0)))⟩,
    vo 5 16]
def f58_16:AC:=.ops [4,5] [] f58_16l
theorem f58_16e:OP f58_16 f58_16l [4,5] []:=rfl
def f58_15:AC:=.seq f58_16 .ret
theorem f58_15e:SQ f58_15 f58_16 .ret:=rfl
def f58_14:AC:=.cond (.r 15) f58_15 .skip
theorem f58_14e:CN f58_14 15 f58_15 .skip:=rfl
def f58_12:AC:=.seq f58_13 f58_14
theorem f58_12e:SQ f58_12 f58_13 f58_14:=rfl
def f58_10:AC:=.seq f58_11 f58_12
theorem f58_10e:SQ f58_10 f58_11 f58_12:=rfl
def f58_18l:List GI:=[vv 17 0,
    vn 18 17,
    vd 19 18 0,
    ⟨none,.call (some 20) false (.f 72) [(.r 19)]⟩,
    vo 4 20,
    ⟨none,.mv (some 5) (.c (.lit (.int .i64 0)))⟩]
def f58_18:AC:=.ops [4,5] [] f58_18l
theorem f58_18e:OP f58_18 f58_18l [4,5] []:=rfl
def f58_17:AC:=.seq f58_18 .ret
theorem f58_17e:SQ f58_17 f58_18 .ret:=rfl
def f58_9:AC:=.seq f58_10 f58_17
theorem f58_9e:SQ f58_9 f58_10 f58_17:=rfl
def f58_3:AC:=.seq f58_4 f58_9
theorem f58_3e:SQ f58_3 f58_4 f58_9:=rfl
def f58_1:AC:=.seq f58_2 f58_3
theorem f58_1e:SQ f58_1 f58_2 f58_3:=rfl
def c_f58:AFun:=⟨21,[.tmp 4,.tmp 5],f58_1⟩
theorem k_f58:a7 Go.Proofs.Try.prog x_f58 58 = some c_f58:=by kernel_rfl
theorem e_f58:aJ Go.Proofs.Try.prog 58 = true:=by kernel_rfl

def n_f59:Nat:=59
def x_f59:Cx:=⟨some,id,24,fun s=>([0,1,4,5,6,7,8,9,10,11,12,13,14,19,20,22,23]:List Nat).contains s,fun s=>([]:List Nat).contains s,msOf [(2,[0,1],[]),(6,[0,1,6,7],[]),(28,[0,1,6,7,15],[]),(58,[6,7],[]),(30,[4,5],[])]⟩
def f59_2l:List GI:=[⟨none,.mv (some 4) (.c (.lit (.slice none 0 0)))⟩,
    ⟨none,.mv (some 5) (.c (.lit (.int .i64 0)))⟩]
def f59_2:AC:=.ops [0,1] [] f59_2l
theorem f59_2e:OP f59_2 f59_2l [0,1] []:=rfl
def f59_4l:List GI:=[vv 9 0,
    vv 10 1,
    ⟨none,.call (some 11) false (.f 58) [(.r 9),(.r 10)]⟩,
    vv 8 11,
    ve 12 8 0,
    ve 13 8 1,
    vo 6 12,
    vo 7 13]
def f59_4:AC:=.ops [0,1,6,7] [] f59_4l
theorem f59_4e:OP f59_4 f59_4l [0,1,6,7] []:=rfl
def f59_7l:List GI:=[vv 14 7,
    vb 15 .eql 14 0]
def f59_7:AC:=.ops [0,1,6,7,15] [] f59_7l
theorem f59_7e:OP f59_7 f59_7l [0,1,6,7,15] []:=rfl
def f59_9l:List GI:=[vv 16 0,
    vn 17 16,
    vd 18 17 2,
    vl 19 18,
    vv 20 1,
    ⟨none,.call (some 21) false (.f 65) [(.r 19),(.r 20)]⟩]
def f59_9:AC:=.ops [6,7] [] f59_9l
theorem f59_9e:OP f59_9 f59_9l [6,7] []:=rfl
def f59_8:AC:=.cond (.r 15) f59_9 .skip
theorem f59_8e:CN f59_8 15 f59_9 .skip:=rfl
def f59_6:AC:=.seq f59_7 f59_8
theorem f59_6e:SQ f59_6 f59_7 f59_8:=rfl
def f59_11l:List GI:=[vv 22 6,
    vv 23 7,
    vo 4 22,
    vo 5 23]
def f59_11:AC:=.ops [4,5] [] f59_11l
theorem f59_11e:OP f59_11 f59_11l [4,5] []:=rfl
def f59_10:AC:=.seq f59_11 .ret
theorem f59_10e:SQ f59_10 f59_11 .ret:=rfl
def f59_5:AC:=.seq f59_6 f59_10
theorem f59_5e:SQ f59_5 f59_6 f59_10:=rfl
def f59_3:AC:=.seq f59_4 f59_5
theorem f59_3e:SQ f59_3 f59_4 f59_5:=rfl
def f59_1:AC:=.seq f59_2 f59_3
theorem f59_1e:SQ f59_1 f59_2 f59_3:=rfl
def c_f59:AFun:=⟨24,[.tmp 4,.tmp 5],f59_1⟩
theorem k_f59:a7 Go.Proofs.Try.prog x_f59 59 = some c_f59:=by kernel_rfl
theorem e_f59:aJ Go.Proofs.Try.prog 59 = true:=by kernel_rfl

def n_f60:Nat:=60
def x_f60:Cx:=⟨some,id,8,fun s=>([0,2,3,4,5,6,7]:List Nat).contains s,fun s=>([]:List Nat).contains s,msOf [(2,[0],[]),(6,[2,3],[])]⟩
def f60_2l:List GI:=[⟨none,.mv (some 2) (.c (.lit (.slice none 0 0)))⟩,
    ⟨none,.mv (some 3) (.c (.lit (.int .i64 0)))⟩]
def f60_2:AC:=.ops [0] [] f60_2l
theorem f60_2e:OP f60_2 f60_2l [0] []:=rfl
def f60_4l:List GI:=[vv 4 0,
    ⟨none,.call (some 5) false (.f 77) [(.r 4),(.c (.lit (.int .i64 1)))]⟩,
    ve 6 5 0,
    ve 7 5 1,
    vo 2 6,
    vo 3 7]
def f60_4:AC:=.ops [2,3] [] f60_4l
theorem f60_4e:OP f60_4 f60_4l [2,3] []:=rfl
def f60_3:AC:=.seq f60_4 .ret
theorem f60_3e:SQ f60_3 f60_4 .ret:=rfl
def f60_1:AC:=.seq f60_2 f60_3
theorem f60_1e:SQ f60_1 f60_2 f60_3:=rfl
def c_f60:AFun:=⟨8,[.tmp 2,.tmp 3],f60_1⟩
theorem k_f60:a7 Go.Proofs.Try.prog x_f60 60 = some c_f60:=by kernel_rfl
theorem e_f60:aJ Go.Proofs.Try.prog 60 = true:=by kernel_rfl

def n_f61:Nat:=61
def x_f61:Cx:=⟨some,id,24,fun s=>([0,1,4,5,6,12,13,14,15,17,21,22,23]:List Nat).contains s,fun s=>([]:List Nat).contains s,msOf [(2,[0,1],[]),(12,[0,1,7],[]),(52,[4],[]),(28,[0,1,5],[]),(58,[0,1,5,16],[]),(236,[4],[]),(30,[4],[])]⟩
def f61_2l:List GI:=[⟨none,.mv (some 4) (.c (.lit (.int .i64 0)))⟩]
def f61_2:AC:=.ops [0,1] [] f61_2l
theorem f61_2e:OP f61_2 f61_2l [0,1] []:=rfl
def f61_5l:List GI:=[vv 6 0,
    ⟨none,.call (some 7) false (.f 62) [(.r 6)]⟩]
def f61_5:AC:=.ops [0,1,7] [] f61_5l
theorem f61_5e:OP f61_5 f61_5l [0,1,7] []:=rfl
def f61_8l:List GI:=[⟨none,.mv (some 4) (.c (.lit (.int .i64 1)))⟩]
def f61_8:AC:=.ops [4] [] f61_8l
theorem f61_8e:OP f61_8 f61_8l [4] []:=rfl
def f61_7:AC:=.seq f61_8 .ret
theorem f61_7e:SQ f61_7 f61_8 .ret:=rfl
def f61_6:AC:=.cond (.r 7) f61_7 .skip
theorem f61_6e:CN f61_6 7 f61_7 .skip:=rfl
def f61_4:AC:=.seq f61_5 f61_6
theorem f61_4e:SQ f61_4 f61_5 f61_6:=rfl
def f61_11l:List GI:=[vv 8 0,
    vn 9 8,
    vd 10 9 0,
    vd 11 10 1,
    vl 12 11,
    vv 13 1,
    ⟨none,.call (some 14) false (.f 75) [(.r 12),(.r 13)]⟩,
    vo 5 14]
def f61_11:AC:=.ops [0,1,5] [] f61_11l
theorem f61_11e:OP f61_11 f61_11l [0,1,5] []:=rfl
def f61_13l:List GI:=[vv 15 5,
    vb 16 .neq 15 9]
def f61_13:AC:=.ops [0,1,5,16] [] f61_13l
theorem f61_13e:OP f61_13 f61_13l [0,1,5,16] []:=rfl
def f61_16l:List GI:=[vv 17 5,
    vo 4 17]
def f61_16:AC:=.ops [4] [] f61_16l
theorem f61_16e:OP f61_16 f61_16l [4] []:=rfl
def f61_15:AC:=.seq f61_16 .ret
theorem f61_15e:SQ f61_15 f61_16 .ret:=rfl
def f61_14:AC:=.cond (.r 16) f61_15 .skip
theorem f61_14e:CN f61_14 16 f61_15 .skip:=rfl
def f61_12:AC:=.seq f61_13 f61_14
theorem f61_12e:SQ f61_12 f61_13 f61_14:=rfl
def f61_10:AC:=.seq f61_11 f61_12
theorem f61_10e:SQ f61_10 f61_11 f61_12:=rfl
def f61_18l:List GI:=[vv 18 0,
    vn 19 18,
    vd 20 19 2,
    vl 21 20,
    vv 22 1,
    ⟨none,.call (some 23) false (.f 75) [(.r 21),(.r 22)]⟩,
    vo 4 23]
def f61_18:AC:=.ops [4] [] f61_18l
theorem f61_18e:OP f61_18 f61_18l [4] []:=rfl
def f61_17:AC:=.seq f61_18 .ret
theorem f61_17e:SQ f61_17 f61_18 .ret:=rfl
def f61_9:AC:=.seq f61_10 f61_17
theorem f61_9e:SQ f61_9 f61_10 f61_17:=rfl
def f61_3:AC:=.seq f61_4 f61_9
theorem f61_3e:SQ f61_3 f61_4 f61_9:=rfl
def f61_1:AC:=.seq f61_2 f61_3
theorem f61_1e:SQ f61_1 f61_2 f61_3:=rfl
def c_f61:AFun:=⟨24,[.tmp 4],f61_1⟩
theorem k_f61:a7 Go.Proofs.Try.prog x_f61 61 = some c_f61:=by kernel_rfl
theorem e_f61:aJ Go.Proofs.Try.prog 61 = true:=by kernel_rfl

def n_f62:Nat:=62
def x_f62:Cx:=⟨some,id,13,fun s=>([0,2,3,4,5,10,11,12]:List Nat).contains s,fun s=>([]:List Nat).contains s,msOf [(2,[0],[]),(6,[2],[])]⟩
def f62_2l:List GI:=[⟨none,.mv (some 2) (.c (.lit (.bool false)))⟩]
def f62_2:AC:=.ops [0] [] f62_2l
theorem f62_2e:OP f62_2 f62_2l [0] []:=rfl
def f62_4l:List GI:=[vv 3 0,
    ⟨none,.bin (some 4) (.nil .ptr) .eql (.r 3) (.c (.lit (.pointer none)))⟩,
    vv 5 4,
    ⟨some (5,false),.mv (some 6) (.r 0)⟩,
    ⟨some (5,false),.nilck (some 7) (.r 6)⟩,
    ⟨some (5,false),.addr (some 8) (.r 7) 0⟩,
    ⟨some (5,false),.addr (some 9) (.r 8) 1⟩,
    ⟨some (5,false),.load (some 10) (.r 9) none⟩,
    ⟨some (5,false),.bin (some 11) (.nil .ptr) .eql (.r 10) (.c (.lit (.pointer none)))⟩,
    ⟨none,.pick (some 12) (.r 5) (.c (.lit (.bool true))) (.r 11)⟩,
    vo 2 12]
def f62_4:AC:=.ops [2] [] f62_4l
theorem f62_4e:OP f62_4 f62_4l [2] []:=rfl
def f62_3:AC:=.seq f62_4 .ret
theorem f62_3e:SQ f62_3 f62_4 .ret:=rfl
def f62_1:AC:=.seq f62_2 f62_3
theorem f62_1e:SQ f62_1 f62_2 f62_3:=rfl
def c_f62:AFun:=⟨13,[.tmp 2],f62_1⟩
theorem k_f62:a7 Go.Proofs.Try.prog x_f62 62 = some c_f62:=by kernel_rfl
theorem e_f62:aJ Go.Proofs.Try.prog 62 = true:=by kernel_rfl

def n_f63:Nat:=63
def x_f63:Cx:=⟨some,id,31,fun s=>([2,3,4,5,9,10,11,12,13,17,18,19,21,22,23,27,28,29,30]:List Nat).contains s,fun s=>([]:List Nat).contains s,msOf [(2,[0],[]),(6,[0,3],[]),(28,[3,18],[]),(58,[3,18],[]),(232,[3,18,20],[]),(933,[3],[]),(1868,[3,4,5,18],[]),(1869,[3,18],[]),(30,[2],[])]⟩
def f63_2l:List GI:=[⟨none,.mv (some 2) (.c (.lit (.pointer none)))⟩]
def f63_2:AC:=.ops [0] [] f63_2l
theorem f63_2e:OP f63_2 f63_2l [0] []:=rfl
def f63_4l:List GI:=[vv 6 0,
    vn 7 6,
    vd 8 7 0,
    vl 9 8,
    ⟨none,.call (some 10) false (.f 80) [(.r 9)]⟩,
    ⟨none,.mkmap 11⟩,
    ⟨none,.bst (some 12) [(0,1),(1,1)] (.agg [(.lit (.pointer none)),(.lit (.map none))]) [(0,(.r 10)),(1,(.r 11))]⟩,
    ⟨none,.boxB 13 2 (.r 12)⟩,
    vo 3 13]
def f63_4:AC:=.ops [0,3] [] f63_4l
theorem f63_4e:OP f63_4 f63_4l [0,3] []:=rfl
def f63_7l:List GI:=[vv 14 0,
    vn 15 14,
    vd 16 15 1,
    vl 17 16,
    ⟨none,.x (some 18) (.rng (.r 17))⟩]
def f63_7:AC:=.ops [3,18] [] f63_7l
theorem f63_7e:OP f63_7 f63_7l [3,18] []:=rfl
def f63_11l:List GI:=[⟨none,.x (some 19) (.nxt 18)⟩,
    ve 20 19 0]
def f63_11:AC:=.ops [3,18,20] [] f63_11l
theorem f63_11e:OP f63_11 f63_11l [3,18,20] []:=rfl
def f63_13:AC:=.cond (.r 20) .skip (.exit [3] [] 0)
theorem f63_13e:CN f63_13 20 .skip (.exit [3] [] 0):=rfl
def f63_16l:List GI:=[⟨none,.x (some 21) (.ent 18)⟩,
    ve 22 21 0,
    ve 23 21 1,
    vo 4 22,
    vo 5 23]
def f63_16:AC:=.ops [3,4,5,18] [] f63_16l
theorem f63_16e:OP f63_16 f63_16l [3,4,5,18] []:=rfl
def f63_17l:List GI:=[vv 24 3,
    vn 25 24,
    vd 26 25 1,
    vl 27 26,
    vv 28 4,
    vv 29 5,
    ⟨none,.upd (.int .i64) (.r 27) (.r 28) (.r 29)⟩]
def f63_17:AC:=.ops [3,18] [] f63_17l
theorem f63_17e:OP f63_17 f63_17l [3,18] []:=rfl
def f63_15:AC:=.seq f63_16 f63_17
theorem f63_15e:SQ f63_15 f63_16 f63_17:=rfl
def f63_14:AC:=.block 1 f63_15
theorem f63_14e:BL f63_14 f63_15 1:=rfl
def f63_12:AC:=.seq f63_13 f63_14
theorem f63_12e:SQ f63_12 f63_13 f63_14:=rfl
def f63_10:AC:=.seq f63_11 f63_12
theorem f63_10e:SQ f63_10 f63_11 f63_12:=rfl
def f63_9:AC:=.loop [3,18] [] f63_10
theorem f63_9w:aC P id m f63_9 sf st Q = cR (aC P id m f63_10) [3,18] [] sf st Q:=rfl
def f63_8:AC:=.block 0 f63_9
theorem f63_8e:BL f63_8 f63_9 0:=rfl
def f63_6:AC:=.seq f63_7 f63_8
theorem f63_6e:SQ f63_6 f63_7 f63_8:=rfl
def f63_19l:List GI:=[vv 30 3,
    vo 2 30]
def f63_19:AC:=.ops [2] [] f63_19l
theorem f63_19e:OP f63_19 f63_19l [2] []:=rfl
def f63_18:AC:=.seq f63_19 .ret
theorem f63_18e:SQ f63_18 f63_19 .ret:=rfl
def f63_5:AC:=.seq f63_6 f63_18
theorem f63_5e:SQ f63_5 f63_6 f63_18:=rfl
def f63_3:AC:=.seq f63_4 f63_5
theorem f63_3e:SQ f63_3 f63_4 f63_5:=rfl
def f63_1:AC:=.seq f63_2 f63_3
theorem f63_1e:SQ f63_1 f63_2 f63_3:=rfl
def c_f63:AFun:=⟨31,[.tmp 2],f63_1⟩
theorem k_f63:a7 Go.Proofs.Try.prog x_f63 63 = some c_f63:=by kernel_rfl
theorem e_f63:aJ Go.Proofs.Try.prog 63 = true:=by kernel_rfl

def n_f64:Nat:=64
def x_f64:Cx:=⟨some,id,23,fun s=>([0,1,4,6,7,8,9,10,11,13,14,15,18,19,20,22]:List Nat).contains s,fun s=>([]:List Nat).contains s,msOf [(2,[0,1],[]),(12,[0,1,12],[]),(52,[4],[]),(28,[0,13,14,15],[]),(58,[0,13,14,15],[]),(232,[0,13,14,15,16],[]),(933,[],[]),(3736,[0,6,13,14,15],[]),(7474,[0,13,14,15,21],[]),(29900,[4],[]),(935,[0,13,14,15],[]),(30,[4],[])]⟩
def f64_2l:List GI:=[⟨none,.mv (some 4) (.c (.lit (.int .i64 0)))⟩]
def f64_2:AC:=.ops [0,1] [] f64_2l
theorem f64_2e:OP f64_2 f64_2l [0,1] []:=rfl
def f64_5l:List GI:=[vv 7 0,
    vb 8 .lss 7 0,
    vv 9 8,
    ⟨some (9,false),.mv (some 10) (.r 0)⟩,
    ⟨some (9,false),.bin (some 11) .num .geq (.r 10) (.c (.lit (.int .i64 64)))⟩,
    ⟨none,.pick (some 12) (.r 9) (.c (.lit (.bool true))) (.r 11)⟩]
def f64_5:AC:=.ops [0,1,12] [] f64_5l
theorem f64_5e:OP f64_5 f64_5l [0,1,12] []:=rfl
def f64_8l:List GI:=[⟨none,.mv (some 4) (.c (.lit (.int .i64 2)))⟩]
def f64_8:AC:=.ops [4] [] f64_8l
theorem f64_8e:OP f64_8 f64_8l [4] []:=rfl
def f64_7:AC:=.seq f64_8 .ret
theorem f64_7e:SQ f64_7 f64_8 .ret:=rfl
def f64_6:AC:=.cond (.r 12) f64_7 .skip
theorem f64_6e:CN f64_6 12 f64_7 .skip:=rfl
def f64_4:AC:=.seq f64_5 f64_6
theorem f64_4e:SQ f64_4 f64_5 f64_6:=rfl
def f64_11l:List GI:=[vv 13 1,
    ⟨none,.len (some 14) .sl (.r 13)⟩,
    ⟨none,.mv (some 15) (.c (.lit (.int .i64 0)))⟩]
def f64_11:AC:=.ops [0,13,14,15] [] f64_11l
theorem f64_11e:OP f64_11 f64_11l [0,13,14,15] []:=rfl
def f64_15l:List GI:=[⟨none,.bin (some 16) .num .lss (.r 15) (.r 14)⟩]
def f64_15:AC:=.ops [0,13,14,15,16] [] f64_15l
theorem f64_15e:OP f64_15 f64_15l [0,13,14,15,16] []:=rfl
def f64_17:AC:=.cond (.r 16) .skip (.exit [] [] 0)
theorem f64_17e:CN f64_17 16 .skip (.exit [] [] 0):=rfl
def f64_21l:List GI:=[⟨none,.ixS (some 17) (.r 13) (.r 15) 1⟩,
    vl 18 17,
    vo 6 18]
def f64_21:AC:=.ops [0,6,13,14,15] [] f64_21l
theorem f64_21e:OP f64_21 f64_21l [0,6,13,14,15] []:=rfl
def f64_23l:List GI:=[vv 19 6,
    vv 20 0,
    ⟨none,.call (some 21) false (.f 81) [(.r 19),(.r 20)]⟩]
def f64_23:AC:=.ops [0,13,14,15,21] [] f64_23l
theorem f64_23e:OP f64_23 f64_23l [0,13,14,15,21] []:=rfl
def f64_26l:List GI:=[⟨none,.mv (some 4) (.c (.lit (.int .i64 11)))⟩]
def f64_26:AC:=.ops [4] [] f64_26l
theorem f64_26e:OP f64_26 f64_26l [4] []:=rfl
def f64_25:AC:=.seq f64_26 .ret
theorem f64_25e:SQ f64_25 f64_26 .ret:=rfl
def f64_24:AC:=.cond (.r 21) f64_25 .skip
theorem f64_24e:CN f64_24 21 f64_25 .skip:=rfl
def f64_22:AC:=.seq f64_23 f64_24
theorem f64_22e:SQ f64_22 f64_23 f64_24:=rfl
def f64_20:AC:=.seq f64_21 f64_22
theorem f64_20e:SQ f64_20 f64_21 f64_22:=rfl
def f64_19:AC:=.block 1 f64_20
theorem f64_19e:BL f64_19 f64_20 1:=rfl
def f64_27l:List GI:=[vb 22 .add 15 1,
    vv 15 22]
def f64_27:AC:=.ops [0,13,14,15] [] f64_27l
theorem f64_27e:OP f64_27 f64_27l [0,13,14,15] []:=rfl
def f64_18:AC:=.seq f64_19 f64_27
theorem f64_18e:SQ f64_18 f64_19 f64_27:=rfl
def f64_16:AC:=.seq f64_17 f64_18
theorem f64_16e:SQ f64_16 f64_17 f64_18:=rfl
def f64_14:AC:=.seq f64_15 f64_16
theorem f64_14e:SQ f64_14 f64_15 f64_16:=rfl
def f64_13:AC:=.loop [0,13,14,15] [] f64_14
theorem f64_13w:aC P id m f64_13 sf st Q = cR (aC P id m f64_14) [0,13,14,15] [] sf st Q:=rfl
def f64_12:AC:=.block 0 f64_13
theorem f64_12e:BL f64_12 f64_13 0:=rfl
def f64_10:AC:=.seq f64_11 f64_12
theorem f64_10e:SQ f64_10 f64_11 f64_12:=rfl
def f64_29l:List GI:=[⟨none,.mv (some 4) (.c (.lit (.int .i64 0)))⟩]
def f64_29:AC:=.ops [4] [] f64_29l
theorem f64_29e:OP f64_29 f64_29l [4] []:=rfl
def f64_28:AC:=.seq f64_29 .ret
theorem f64_28e:SQ f64_28 f64_29 .ret:=rfl
def f64_9:AC:=.seq f64_10 f64_28
theorem f64_9e:SQ f64_9 f64_10 f64_28:=rfl
def f64_3:AC:=.seq f64_4 f64_9
theorem f64_3e:SQ f64_3 f64_4 f64_9:=rfl
def f64_1:AC:=.seq f64_2 f64_3
theorem f64_1e:SQ f64_1 f64_2 f64_3:=rfl
def c_f64:AFun:=⟨23,[.tmp 4],f64_1⟩
theorem k_f64:a7 Go.Proofs.Try.prog x_f64 64 = some c_f64:=by kernel_rfl
theorem e_f64:aJ Go.Proofs.Try.prog 64 = true:=by kernel_rfl

def n_f65:Nat:=65
def x_f65:Cx:=⟨some,id,21,fun s=>([1,4,6,10,11,12,13,14,18,19,20]:List Nat).contains s,fun s=>([]:List Nat).contains s,msOf [(2,[0,1,4],[]),(3,[],[])]⟩
def f65_2l:List GI:=[vv 7 0,
    vn 8 7,
    vd 9 8 0,
    vl 10 9,
    vv 11 1,
    ⟨none,.call (some 12) false (.f 82) [(.r 10),(.r 11)]⟩,
    vv 6 12,
    ve 13 6 0,
    ve 14 6 1,
    vo 4 13,
    vo 5 14]
def f65_2:AC:=.ops [0,1,4] [] f65_2l
theorem f65_2e:OP f65_2 f65_2l [0,1,4] []:=rfl
def f65_3l:List GI:=[vv 15 0,
    vn 16 15,
    vd 17 16 1,
    vl 18 17,
    vv 19 1,
    vv 20 4,
    ⟨none,.upd (.int .i64) (.r 18) (.r 19) (.r 20)⟩]
def f65_3:AC:=.ops [] [] f65_3l
theorem f65_3e:OP f65_3 f65_3l [] []:=rfl
def f65_1:AC:=.seq f65_2 f65_3
theorem f65_1e:SQ f65_1 f65_2 f65_3:=rfl
def c_f65:AFun:=⟨21,[],f65_1⟩
theorem k_f65:a7 Go.Proofs.Try.prog x_f65 65 = some c_f65:=by kernel_rfl
theorem e_f65:aJ Go.Proofs.Try.prog 65 = true:=by kernel_rfl

def n_f66:Nat:=66
def x_f66:Cx:=⟨some,id,22,fun s=>([0,2,3,4,6,7,8,9,10,12,13,14,15,16,17,18,19,20,21]:List Nat).contains s,fun s=>([]:List Nat).contains s,msOf [(2,[0],[]),(6,[0,3],[]),(28,[0,3,4,5],[]),(58,[0,3,4,5],[]),(464,[0,3,4,11],[]),(931,[3],[]),(932,[0,3],[]),(467,[0,3,4,5],[]),(30,[2],[])]⟩
def f66_2l:List GI:=[⟨none,.mv (some 2) (.c (.lit (.slice none 0 0)))⟩]
def f66_2:AC:=.ops [0] [] f66_2l
theorem f66_2e:OP f66_2 f66_2l [0] []:=rfl
def f66_4l:List GI:=[⟨none,.mv (some 3) (.c (.lit (.slice none 0 0)))⟩]
def f66_4:AC:=.ops [0,3] [] f66_4l
theorem f66_4e:OP f66_4 f66_4l [0,3] []:=rfl
def f66_7l:List GI:=[vv 7 0,
    ⟨none,.call (some 8) false (.f 83) [(.r 7)]⟩,
    vv 6 8,
    ve 9 6 0,
    ve 10 6 1,
    vo 4 9,
    vo 5 10]
def f66_7:AC:=.ops [0,3,4,5] [] f66_7l
theorem f66_7e:OP f66_7 f66_7l [0,3,4,5] []:=rfl
def f66_12l:List GI:=[vv 11 5]
def f66_12:AC:=.ops [0,3,4,11] [] f66_12l
theorem f66_12e:OP f66_12 f66_12l [0,3,4,11] []:=rfl
def f66_13:AC:=.cond (.r 11) .skip (.exit [3] [] 0)
theorem f66_13e:CN f66_13 11 .skip (.exit [3] [] 0):=rfl
def f66_11:AC:=.seq f66_12 f66_13
theorem f66_11e:SQ f66_11 f66_12 f66_13:=rfl
def f66_16l:List GI:=[vo 17 3,
    vv 18 4,
    ⟨none,.bsl (some 19) 1 1 (.lit (.int .i64 0)) [(0,(.r 18))]⟩,
    ⟨none,.appS 20 17 1 8 (.r 19)⟩,
    vo 3 20]
def f66_16:AC:=.ops [0,3] [] f66_16l
theorem f66_16e:OP f66_16 f66_16l [0,3] []:=rfl
def f66_15:AC:=.block 1 f66_16
theorem f66_15e:BL f66_15 f66_16 1:=rfl
def f66_17l:List GI:=[vv 13 0,
    ⟨none,.call (some 14) false (.f 83) [(.r 13)]⟩,
    vv 12 14,
    ve 15 12 0,
    ve 16 12 1,
    vo 4 15,
    vo 5 16]
def f66_17:AC:=.ops [0,3,4,5] [] f66_17l
theorem f66_17e:OP f66_17 f66_17l [0,3,4,5] []:=rfl
def f66_14:AC:=.seq f66_15 f66_17
theorem f66_14e:SQ f66_14 f66_15 f66_17:=rfl
def f66_10:AC:=.seq f66_11 f66_14
theorem f66_10e:SQ f66_10 f66_11 f66_14:=rfl
def f66_9:AC:=.loop [0,3,4,5] [] f66_10
theorem f66_9w:aC P id m f66_9 sf st Q = cR (aC P id m f66_10) [0,3,4,5] [] sf st Q:=rfl
def f66_8:AC:=.block 0 f66_9
theorem f66_8e:BL f66_8 f66_9 0:=rfl
def f66_6:AC:=.seq f66_7 f66_8
theorem f66_6e:SQ f66_6 f66_7 f66_8:=rfl
def f66_19l:List GI:=[vv 21 3,
    vo 2 21]
def f66_19:AC:=.ops [2] [] f66_19l
theorem f66_19e:OP f66_19 f66_19l [2] []:=rfl
def f66_18:AC:=.seq f66_19 .ret
theorem f66_18e:SQ f66_18 f66_19 .ret:=rfl
def f66_5:AC:=.seq f66_6 f66_18
theorem f66_5e:SQ f66_5 f66_6 f66_18:=rfl
def f66_3:AC:=.seq f66_4 f66_5
theorem f66_3e:SQ f66_3 f66_4 f66_5:=rfl
def f66_1:AC:=.seq f66_2 f66_3
theorem f66_1e:SQ f66_1 f66_2 f66_3:=rfl
def c_f66:AFun:=⟨22,[.tmp 2],f66_1⟩
theorem k_f66:a7 Go.Proofs.Try.prog x_f66 66 = some c_f66:=by kernel_rfl
theorem e_f66:aJ Go.Proofs.Try.prog 66 = true:=by kernel_rfl

def n_f67:Nat:=67
def x_f67:Cx:=⟨some,id,24,fun s=>([0,1,4,5,6,9,10,11,12,14,15,16,17,18,20,21,22]:List Nat).contains s,fun s=>([]:List Nat).contains s,msOf [(2,[1,2],[2]),(12,[1,2,7],[2]),(52,[4],[]),(28,[23],[]),(116,[4],[]),(30,[4],[])]⟩
def f67_2l:List GI:=[⟨none,.boxL 2 7 (.r 0)⟩,
    ⟨none,.mv (some 4) (.c (.lit (.int .i64 0)))⟩]
def f67_2:AC:=.ops [1,2] [2] f67_2l
theorem f67_2e:OP f67_2 f67_2l [1,2] [2]:=rfl
def f67_5l:List GI:=[vv 5 1,
    ⟨none,.call (some 6) false (.f 68) [(.r 5)]⟩,
    ⟨none,.un (some 7) .not (.r 6)⟩]
def f67_5:AC:=.ops [1,2,7] [2] f67_5l
theorem f67_5e:OP f67_5 f67_5l [1,2,7] [2]:=rfl
def f67_8l:List GI:=[⟨none,.mv (some 4) (.c (.lit (.int .i64 2)))⟩]
def f67_8:AC:=.ops [4] [] f67_8l
theorem f67_8e:OP f67_8 f67_8l [4] []:=rfl
def f67_7:AC:=.seq f67_8 .ret
theorem f67_7e:SQ f67_7 f67_8 .ret:=rfl
def f67_6:AC:=.cond (.r 7) f67_7 .skip
theorem f67_6e:CN f67_6 7 f67_7 .skip:=rfl
def f67_4:AC:=.seq f67_5 f67_6
theorem f67_4e:SQ f67_4 f67_5 f67_6:=rfl
def f67_11l:List GI:=[vd 8 2 5,
    vl 9 8,
    vv 10 1,
    ⟨none,.call (some 11) false (.f 22) [(.r 9),(.r 10)]⟩,
    vv 12 11,
    ⟨some (12,false),.addr (some 13) (.r 2) 6⟩,
    ⟨some (12,false),.load (some 14) (.r 13) none⟩,
    ⟨some (12,false),.mv (some 15) (.r 1)⟩,
    ⟨some (12,false),.call (some 16) false (.f 22) [(.r 14),(.r 15)]⟩,
    ⟨none,.pick (some 17) (.r 12) (.c (.lit (.bool true))) (.r 16)⟩,
    vv 18 17,
    ⟨some (18,false),.addr (some 19) (.r 2) 3⟩,
    ⟨some (18,false),.load (some 20) (.r 19) none⟩,
    ⟨some (18,false),.mv (some 21) (.r 1)⟩,
    ⟨some (18,false),.bin (some 22) .num .eql (.r 20) (.r 21)⟩,
    ⟨none,.pick (some 23) (.r 18) (.c (.lit (.bool true))) (.r 22)⟩]
def f67_11:AC:=.ops [23] [] f67_11l
theorem f67_11e:OP f67_11 f67_11l [23] []:=rfl
def f67_14l:List GI:=[⟨none,.mv (some 4) (.c (.lit (.int .i64 11)))⟩]
def f67_14:AC:=.ops [4] [] f67_14l
theorem f67_14e:OP f67_14 f67_14l [4] []:=rfl
def f67_13:AC:=.seq f67_14 .ret
theorem f67_13e:SQ f67_13 f67_14 .ret:=rfl
def f67_12:AC:=.cond (.r 23) f67_13 .skip
theorem f67_12e:CN f67_12 23 f67_13 .skip:=rfl
def f67_10:AC:=.seq f67_11 f67_12
theorem f67_10e:SQ f67_10 f67_11 f67_12:=rfl
def f67_16l:List GI:=[⟨none,.mv (some 4) (.c (.lit (.int .i64 0)))⟩]
def f67_16:AC:=.ops [4] [] f67_16l
theorem f67_16e:OP f67_16 f67_16l [4] []:=rfl
def f67_15:AC:=.seq f67_16 .ret
theorem f67_15e:SQ f67_15 f67_16 .ret:=rfl
def f67_9:AC:=.seq f67_10 f67_15
theorem f67_9e:SQ f67_9 f67_10 f67_15:=rfl
def f67_3:AC:=.seq f67_4 f67_9
theorem f67_3e:SQ f67_3 f67_4 f67_9:=rfl
def f67_1:AC:=.seq f67_2 f67_3
theorem f67_1e:SQ f67_1 f67_2 f67_3:=rfl
def c_f67:AFun:=⟨24,[.tmp 4],f67_1⟩
theorem k_f67:a7 Go.Proofs.Try.prog x_f67 67 = some c_f67:=by kernel_rfl
theorem e_f67:aJ Go.Proofs.Try.prog 67 = true:=by kernel_rfl

def n_f68:Nat:=68
def x_f68:Cx:=⟨some,id,9,fun s=>([0,2,3,4,5,6,7,8]:List Nat).contains s,fun s=>([]:List Nat).contains s,msOf [(2,[0],[]),(6,[2],[])]⟩
def f68_2l:List GI:=[⟨none,.mv (some 2) (.c (.lit (.bool false)))⟩]
def f68_2:AC:=.ops [0] [] f68_2l
theorem f68_2e:OP f68_2 f68_2l [0] []:=rfl
def f68_4l:List GI:=[vv 3 0,
    vb 4 .geq 3 0,
    vv 5 4,
    ⟨some (5,true),.mv (some 6) (.r 0)⟩,
    ⟨some (5,true),.bin (some 7) .num .lss (.r 6) (.c (.lit (.int .i64 64)))⟩,
    ⟨none,.pick (some 8) (.r 5) (.r 7) (.c (.lit (.bool false)))⟩,
    vo 2 8]
def f68_4:AC:=.ops [2] [] f68_4l
theorem f68_4e:OP f68_4 f68_4l [2] []:=rfl
def f68_3:AC:=.seq f68_4 .ret
theorem f68_3e:SQ f68_3 f68_4 .ret:=rfl
def f68_1:AC:=.seq f68_2 f68_3
theorem f68_1e:SQ f68_1 f68_2 f68_3:=rfl
def c_f68:AFun:=⟨9,[.tmp 2],f68_1⟩
theorem k_f68:a7 Go.Proofs.Try.prog x_f68 68 = some c_f68:=by kernel_rfl
theorem e_f68:aJ Go.Proofs.Try.prog 68 = true:=by kernel_rfl

def n_f69:Nat:=69
def x_f69:Cx:=⟨some,id,26,fun s=>([0,1,4,5,6,7,8,9,11,12,13,15,16,18,20,22,24]:List Nat).contains s,fun s=>([]:List Nat).contains s,msOf [(2,[0,1],[]),(12,[0,1,10],[]),(52,[4],[]),(28,[0,1,5],[]),(58,[0,1,5],[]),(464,[0,1,5,14],[]),(931,[],[]),(1864,[0,1,5,25],[]),(7460,[4],[]),(467,[0,1,5],[]),(30,[4],[])]⟩
def f69_2l:List GI:=[⟨none,.mv (some 4) (.c (.lit (.bool false)))⟩]
def f69_2:AC:=.ops [0,1] [] f69_2l
theorem f69_2e:OP f69_2 f69_2l [0,1] []:=rfl
def f69_5l:List GI:=[vv 6 0,
    ⟨none,.len (some 7) .sl (.r 6)⟩,
    vv 8 1,
    ⟨none,.len (some 9) .sl (.r 8)⟩,
    ⟨none,.bin (some 10) .num .neq (.r 7) (.r 9)⟩]
def f69_5:AC:=.ops [0,1,10] [] f69_5l
theorem f69_5e:OP f69_5 f69_5l [0,1,10] []:=rfl
def f69_8l:List GI:=[⟨none,.mv (some 4) (.c (.lit (.bool false)))⟩]
def f69_8:AC:=.ops [4] [] f69_8l
theorem f69_8e:OP f69_8 f69_8l [4] []:=rfl
def f69_7:AC:=.seq f69_8 .ret
theorem f69_7e:SQ f69_7 f69_8 .ret:=rfl
def f69_6:AC:=.cond (.r 10) f69_7 .skip
theorem f69_6e:CN f69_6 10 f69_7 .skip:=rfl
def f69_4:AC:=.seq f69_5 f69_6
theorem f69_4e:SQ f69_4 f69_5 f69_6:=rfl
def f69_11l:List GI:=[⟨none,.mv (some 5) (.c (.lit (.int .i64 0)))⟩]
def f69_11:AC:=.ops [0,1,5] [] f69_11l
theorem f69_11e:OP f69_11 f69_11l [0,1,5] []:=rfl
def f69_16l:List GI:=[vv 11 5,
    vv 12 0,
    ⟨none,.len (some 13) .sl (.r 12)⟩,
    ⟨none,.bin (some 14) .num .lss (.r 11) (.r 13)⟩]
def f69_16:AC:=.ops [0,1,5,14] [] f69_16l
theorem f69_16e:OP f69_16 f69_16l [0,1,5,14] []:=rfl
def f69_17:AC:=.cond (.r 14) .skip (.exit [] [] 0)
theorem f69_17e:CN f69_17 14 .skip (.exit [] [] 0):=rfl
def f69_15:AC:=.seq f69_16 f69_17
theorem f69_15e:SQ f69_15 f69_16 f69_17:=rfl
def f69_21h:List GI:=[vv 17 0,
    vv 18 5,
    ⟨none,.ixS (some 19) (.r 17) (.r 18) 1⟩,
    vl 20 19,
    vv 21 1,
    vv 22 5,
    ⟨none,.ixS (some 23) (.r 21) (.r 22) 1⟩,
    vl 24 23]
def f69_21l:List GI:=[⟨none,.bin (some 25) .num .neq (.r 20) (.r 24)⟩]
def f69_21:AC:=.draw [0,1,5,25] [] [] f69_21h f69_21l
theorem f69_21e:aC P id m f69_21 sf st Q = br P id sf.locs st f69_21h (cX P id m [] [0,1,5,25] [] f69_21l Q st) [] ⟨sf.regs,bE [] sf.locs⟩:=rfl
def f69_24l:List GI:=[⟨none,.mv (some 4) (.c (.lit (.bool false)))⟩]
def f69_24:AC:=.ops [4] [] f69_24l
theorem f69_24e:OP f69_24 f69_24l [4] []:=rfl
def f69_23:AC:=.seq f69_24 .ret
theorem f69_23e:SQ f69_23 f69_24 .ret:=rfl
def f69_22:AC:=.cond (.r 25) f69_23 .skip
theorem f69_22e:CN f69_22 25 f69_23 .skip:=rfl
def f69_20:AC:=.seq f69_21 f69_22
theorem f69_20e:SQ f69_20 f69_21 f69_22:=rfl
def f69_19:AC:=.block 1 f69_20
theorem f69_19e:BL f69_19 f69_20 1:=rfl
def f69_25l:List GI:=[vv 15 5,
    vb 16 .add 15 1,
    vo 5 16]
def f69_25:AC:=.ops [0,1,5] [] f69_25l
theorem f69_25e:OP f69_25 f69_25l [0,1,5] []:=rfl
def f69_18:AC:=.seq f69_19 f69_25
theorem f69_18e:SQ f69_18 f69_19 f69_25:=rfl
def f69_14:AC:=.seq f69_15 f69_18
theorem f69_14e:SQ f69_14 f69_15 f69_18:=rfl
def f69_13:AC:=.loop [0,1,5] [] f69_14
theorem f69_13w:aC P id m f69_13 sf st Q = cR (aC P id m f69_14) [0,1,5] [] sf st Q:=rfl
def f69_12:AC:=.block 0 f69_13
theorem f69_12e:BL f69_12 f69_13 0:=rfl
def f69_10:AC:=.seq f69_11 f69_12
theorem f69_10e:SQ f69_10 f69_11 f69_12:=rfl
def f69_27l:List GI:=[⟨none,.mv (some 4) (.c (.lit (.bool true)))⟩]
def f69_27:AC:=.ops [4] [] f69_27l
theorem f69_27e:OP f69_27 f69_27l [4] []:=rfl
def f69_26:AC:=.seq f69_27 .ret
theorem f69_26e:SQ f69_26 f69_27 .ret:=rfl
def f69_9:AC:=.seq f69_10 f69_26
theorem f69_9e:SQ f69_9 f69_10 f69_26:=rfl
def f69_3:AC:=.seq f69_4 f69_9
theorem f69_3e:SQ f69_3 f69_4 f69_9:=rfl
def f69_1:AC:=.seq f69_2 f69_3
theorem f69_1e:SQ f69_1 f69_2 f69_3:=rfl
def c_f69:AFun:=⟨26,[.tmp 4],f69_1⟩
theorem k_f69:a7 Go.Proofs.Try.prog x_f69 69 = some c_f69:=by kernel_rfl
theorem e_f69:aJ Go.Proofs.Try.prog 69 = true:=by kernel_rfl

def n_f70:Nat:=70
def x_f70:Cx:=⟨some,id,44,fun s=>([1,2,6,7,8,9,10,14,15,16,17,18,20,25,26,27,32,33,35,41,42]:List Nat).contains s,fun s=>([]:List Nat).contains s,msOf [(2,[0,1,2],[]),(12,[0,1,8],[]),(26,[0,1,8,19],[]),(108,[6,7],[]),(56,[0,1,21],[]),(228,[6,7],[]),(230,[0,1,28],[]),(924,[],[]),(1850,[6,7],[]),(30,[],[]),(62,[6,7],[])]⟩
def f70_2l:List GI:=[⟨none,.mv (some 6) (.c (.lit (.bool false)))⟩,
    ⟨none,.mv (some 7) (.c (.lit (.int .i64 0)))⟩]
def f70_2:AC:=.ops [0,1,2] [] f70_2l
theorem f70_2e:OP f70_2 f70_2l [0,1,2] []:=rfl
def f70_5l:List GI:=[vv 9 1,
    vo 10 2,
    vv 11 0,
    vn 12 11,
    vd 13 12 1,
    vl 14 13,
    ⟨none,.bsl (some 15) 1 1 (.lit (.pointer none)) [(0,(.r 14))]⟩,
    ⟨none,.appS 16 10 1 8 (.r 15)⟩,
    ⟨none,.call (some 17) false (.f 64) [(.r 9),(.r 16)]⟩,
    vo 8 17]
def f70_5:AC:=.ops [0,1,8] [] f70_5l
theorem f70_5e:OP f70_5 f70_5l [0,1,8] []:=rfl
def f70_7l:List GI:=[vv 18 8,
    vb 19 .neq 18 0]
def f70_7:AC:=.ops [0,1,8,19] [] f70_7l
theorem f70_7e:OP f70_7 f70_7l [0,1,8,19] []:=rfl
def f70_10l:List GI:=[vv 20 8,
    ⟨none,.mv (some 6) (.c (.lit (.bool false)))⟩,
    vo 7 20]
def f70_10:AC:=.ops [6,7] [] f70_10l
theorem f70_10e:OP f70_10 f70_10l [6,7] []:=rfl
def f70_9:AC:=.seq f70_10 .ret
theorem f70_9e:SQ f70_9 f70_10 .ret:=rfl
def f70_8:AC:=.cond (.r 19) f70_9 .skip
theorem f70_8e:CN f70_8 19 f70_9 .skip:=rfl
def f70_6:AC:=.seq f70_7 f70_8
theorem f70_6e:SQ f70_6 f70_7 f70_8:=rfl
def f70_4:AC:=.seq f70_5 f70_6
theorem f70_4e:SQ f70_4 f70_5 f70_6:=rfl
def f70_14l:List GI:=[vv 22 0,
    vn 23 22,
    vd 24 23 0,
    vl 25 24,
    vv 26 1,
    ⟨none,.bin (some 27) .num .eql (.r 25) (.r 26)⟩,
    vo 21 27]
def f70_14:AC:=.ops [0,1,21] [] f70_14l
theorem f70_14e:OP f70_14 f70_14l [0,1,21] []:=rfl
def f70_17l:List GI:=[⟨none,.mv (some 6) (.c (.lit (.bool false)))⟩,
    ⟨none,.mv (some 7) (.c (.lit (.int .i64 11)))⟩]
def f70_17:AC:=.ops [6,7] [] f70_17l
theorem f70_17e:OP f70_17 f70_17l [6,7] []:=rfl
def f70_16:AC:=.seq f70_17 .ret
theorem f70_16e:SQ f70_16 f70_17 .ret:=rfl
def f70_19l:List GI:=[vv 29 0,
    vn 30 29,
    vd 31 30 0,
    vl 32 31,
    vb 33 .lss 32 0,
    vo 28 33]
def f70_19:AC:=.ops [0,1,28] [] f70_19l
theorem f70_19e:OP f70_19 f70_19l [0,1,28] []:=rfl
def f70_22l:List GI:=[vv 34 0,
    vv 35 1,
    vn 36 34,
    vd 37 36 0,
    ⟨none,.store 1 (.r 37) (.r 35)⟩]
def f70_22:AC:=.ops [] [] f70_22l
theorem f70_22e:OP f70_22 f70_22l [] []:=rfl
def f70_24l:List GI:=[⟨none,.mv (some 6) (.c (.lit (.bool true)))⟩,
    ⟨none,.mv (some 7) (.c (.lit (.int .i64 0)))⟩]
def f70_24:AC:=.ops [6,7] [] f70_24l
theorem f70_24e:OP f70_24 f70_24l [6,7] []:=rfl
def f70_23:AC:=.seq f70_24 .ret
theorem f70_23e:SQ f70_23 f70_24 .ret:=rfl
def f70_21:AC:=.seq f70_22 f70_23
theorem f70_21e:SQ f70_21 f70_22 f70_23:=rfl
def f70_20:AC:=.cond (.r 28) f70_21 .skip
theorem f70_20e:CN f70_20 28 f70_21 .skip:=rfl
def f70_18:AC:=.seq f70_19 f70_20
theorem f70_18e:SQ f70_18 f70_19 f70_20:=rfl
def f70_15:AC:=.cond (.r 21) f70_16 f70_18
theorem f70_15e:CN f70_15 21 f70_16 f70_18:=rfl
def f70_13:AC:=.seq f70_14 f70_15
theorem f70_13e:SQ f70_13 f70_14 f70_15:=rfl
def f70_12:AC:=.block 0 f70_13
theorem f70_12e:BL f70_12 f70_13 0:=rfl
def f70_26l:List GI:=[vv 38 0,
    vn 39 38,
    vd 40 39 1,
    vl 41 40,
    vv 42 1,
    ⟨none,.call (some 43) false (.f 65) [(.r 41),(.r 42)]⟩]
def f70_26:AC:=.ops [] [] f70_26l
theorem f70_26e:OP f70_26 f70_26l [] []:=rfl
def f70_28l:List GI:=[⟨none,.mv (some 6) (.c (.lit (.bool false)))⟩,
    ⟨none,.mv (some 7) (.c (.lit (.int .i64 0)))⟩]
def f70_28:AC:=.ops [6,7] [] f70_28l
theorem f70_28e:OP f70_28 f70_28l [6,7] []:=rfl
def f70_27:AC:=.seq f70_28 .ret
theorem f70_27e:SQ f70_27 f70_28 .ret:=rfl
def f70_25:AC:=.seq f70_26 f70_27
theorem f70_25e:SQ f70_25 f70_26 f70_27:=rfl
def f70_11:AC:=.seq f70_12 f70_25
theorem f70_11e:SQ f70_11 f70_12 f70_25:=rfl
def f70_3:AC:=.seq f70_4 f70_11
theorem f70_3e:SQ f70_3 f70_4 f70_11:=rfl
def f70_1:AC:=.seq f70_2 f70_3
theorem f70_1e:SQ f70_1 f70_2 f70_3:=rfl
def c_f70:AFun:=⟨44,[.tmp 6,.tmp 7],f70_1⟩
theorem k_f70:a7 Go.Proofs.Try.prog x_f70 70 = some c_f70:=by kernel_rfl
theorem e_f70:aJ Go.Proofs.Try.prog 70 = true:=by kernel_rfl

def n_f71:Nat:=71
def x_f71:Cx:=⟨some,id,20,fun s=>([1,4,5,6,7,8,10,14,15]:List Nat).contains s,fun s=>([]:List Nat).contains s,msOf [(2,[0,1],[]),(12,[0,1,5],[]),(26,[0,1,5,9],[]),(108,[4],[]),(28,[0,16],[]),(116,[4],[]),(30,[],[]),(62,[4],[])]⟩
def f71_2l:List GI:=[⟨none,.mv (some 4) (.c (.lit (.int .i64 0)))⟩]
def f71_2:AC:=.ops [0,1] [] f71_2l
theorem f71_2e:OP f71_2 f71_2l [0,1] []:=rfl
def f71_5l:List GI:=[vv 6 1,
    ⟨none,.call (some 7) false (.f 64) [(.r 6),(.c (.lit (.slice none 0 0)))]⟩,
    vo 5 7]
def f71_5:AC:=.ops [0,1,5] [] f71_5l
theorem f71_5e:OP f71_5 f71_5l [0,1,5] []:=rfl
def f71_7l:List GI:=[vv 8 5,
    vb 9 .neq 8 0]
def f71_7:AC:=.ops [0,1,5,9] [] f71_7l
theorem f71_7e:OP f71_7 f71_7l [0,1,5,9] []:=rfl
def f71_10l:List GI:=[vv 10 5,
    vo 4 10]
def f71_10:AC:=.ops [4] [] f71_10l
theorem f71_10e:OP f71_10 f71_10l [4] []:=rfl
def f71_9:AC:=.seq f71_10 .ret
theorem f71_9e:SQ f71_9 f71_10 .ret:=rfl
def f71_8:AC:=.cond (.r 9) f71_9 .skip
theorem f71_8e:CN f71_8 9 f71_9 .skip:=rfl
def f71_6:AC:=.seq f71_7 f71_8
theorem f71_6e:SQ f71_6 f71_7 f71_8:=rfl
def f71_4:AC:=.seq f71_5 f71_6
theorem f71_4e:SQ f71_4 f71_5 f71_6:=rfl
def f71_13l:List GI:=[vv 11 0,
    vn 12 11,
    vd 13 12 0,
    vl 14 13,
    vv 15 1,
    ⟨none,.bin (some 16) .num .neq (.r 14) (.r 15)⟩]
def f71_13:AC:=.ops [0,16] [] f71_13l
theorem f71_13e:OP f71_13 f71_13l [0,16] []:=rfl
def f71_16l:List GI:=[⟨none,.mv (some 4) (.c (.lit (.int .i64 8)))⟩]
def f71_16:AC:=.ops [4] [] f71_16l
theorem f71_16e:OP f71_16 f71_16l [4] []:=rfl
def f71_15:AC:=.seq f71_16 .ret
theorem f71_15e:SQ f71_15 f71_16 .ret:=rfl
def f71_14:AC:=.cond (.r 16) f71_15 .skip
theorem f71_14e:CN f71_14 16 f71_15 .skip:=rfl
def f71_12:AC:=.seq f71_13 f71_14
theorem f71_12e:SQ f71_12 f71_13 f71_14:=rfl
def f71_18l:List GI:=[vv 17 0,
    vn 18 17,
    vd 19 18 0,
    ⟨none,.store 1 (.r 19) (.c (.lit (.int .i64 (-1))))⟩]
def f71_18:AC:=.ops [] [] f71_18l
theorem f71_18e:OP f71_18 f71_18l [] []:=rfl
def f71_20l:List GI:=[⟨none,.mv (some 4) (.c (.lit (.int .i64 0)))⟩]
def f71_20:AC:=.ops [4] [] f71_20l
theorem f71_20e:OP f71_20 f71_20l [4] []:=rfl
def f71_19:AC:=.seq f71_20 .ret
theorem f71_19e:SQ f71_19 f71_20 .ret:=rfl
def f71_17:AC:=.seq f71_18 f71_19
theorem f71_17e:SQ f71_17 f71_18 f71_19:=rfl
def f71_11:AC:=.seq f71_12 f71_17
theorem f71_11e:SQ f71_11 f71_12 f71_17:=rfl
def f71_3:AC:=.seq f71_4 f71_11
theorem f71_3e:SQ f71_3 f71_4 f71_11:=rfl
def f71_1:AC:=.seq f71_2 f71_3
theorem f71_1e:SQ f71_1 f71_2 f71_3:=rfl
def c_f71:AFun:=⟨20,[.tmp 4],f71_1⟩
theorem k_f71:a7 Go.Proofs.Try.prog x_f71 71 = some c_f71:=by kernel_rfl
theorem e_f71:aJ Go.Proofs.Try.prog 71 = true:=by kernel_rfl

def n_f72:Nat:=72
def x_f72:Cx:=⟨some,id,26,fun s=>([2,3,4,8,10,14,15,16,17,18,21,24,25]:List Nat).contains s,fun s=>([]:List Nat).contains s,msOf [(2,[0],[]),(12,[0,9],[]),(52,[2],[]),(14,[0,3,4],[]),(60,[0,3,19],[]),(244,[2],[]),(62,[3],[]),(126,[2],[])]⟩
def f72_2l:List GI:=[⟨none,.mv (some 2) (.c (.lit (.slice none 0 0)))⟩]
def f72_2:AC:=.ops [0] [] f72_2l
theorem f72_2e:OP f72_2 f72_2l [0] []:=rfl
def f72_5l:List GI:=[vv 5 0,
    vn 6 5,
    vd 7 6 0,
    vl 8 7,
    vb 9 .geq 8 0]
def f72_5:AC:=.ops [0,9] [] f72_5l
theorem f72_5e:OP f72_5 f72_5l [0,9] []:=rfl
def f72_8l:List GI:=[⟨none,.mv (some 2) (.c (.lit (.slice none 0 0)))⟩]
def f72_8:AC:=.ops [2] [] f72_8l
theorem f72_8e:OP f72_8 f72_8l [2] []:=rfl
def f72_7:AC:=.seq f72_8 .ret
theorem f72_7e:SQ f72_7 f72_8 .ret:=rfl
def f72_6:AC:=.cond (.r 9) f72_7 .skip
theorem f72_6e:CN f72_6 9 f72_7 .skip:=rfl
def f72_4:AC:=.seq f72_5 f72_6
theorem f72_4e:SQ f72_4 f72_5 f72_6:=rfl
def f72_10l:List GI:=[vv 11 0,
    vn 12 11,
    vd 13 12 1,
    vl 14 13,
    ⟨none,.call (some 15) false (.f 83) [(.r 14)]⟩,
    vv 10 15,
    ve 16 10 0,
    ve 17 10 1,
    vo 3 16,
    vo 4 17]
def f72_10:AC:=.ops [0,3,4] [] f72_10l
theorem f72_10e:OP f72_10 f72_10l [0,3,4] []:=rfl
def f72_13l:List GI:=[vv 18 4,
    ⟨none,.un (some 19) .not (.r 18)⟩]
def f72_13:AC:=.ops [0,3,19] [] f72_13l
theorem f72_13e:OP f72_13 f72_13l [0,3,19] []:=rfl
def f72_16l:List GI:=[⟨none,.mv (some 2) (.c (.lit (.slice none 0 0)))⟩]
def f72_16:AC:=.ops [2] [] f72_16l
theorem f72_16e:OP f72_16 f72_16l [2] []:=rfl
def f72_15:AC:=.seq f72_16 .ret
theorem f72_15e:SQ f72_15 f72_16 .ret:=rfl
def f72_14:AC:=.cond (.r 19) f72_15 .skip
theorem f72_14e:CN f72_14 19 f72_15 .skip:=rfl
def f72_12:AC:=.seq f72_13 f72_14
theorem f72_12e:SQ f72_12 f72_13 f72_14:=rfl
def f72_18l:List GI:=[vv 20 0,
    vv 21 3,
    vn 22 20,
    vd 23 22 0,
    ⟨none,.store 1 (.r 23) (.r 21)⟩]
def f72_18:AC:=.ops [3] [] f72_18l
theorem f72_18e:OP f72_18 f72_18l [3] []:=rfl
def f72_20l:List GI:=[vv 24 3,
    ⟨none,.bsl (some 25) 1 1 (.lit (.int .i64 0)) [(0,(.r 24))]⟩,
    vo 2 25]
def f72_20:AC:=.ops [2] [] f72_20l
theorem f72_20e:OP f72_20 f72_20l [2] []:=rfl
def f72_19:AC:=.seq f72_20 .ret
theorem f72_19e:SQ f72_19 f72_20 .ret:=rfl
def f72_17:AC:=.seq f72_18 f72_19
theorem f72_17e:SQ f72_17 f72_18 f72_19:=rfl
def f72_11:AC:=.seq f72_12 f72_17
theorem f72_11e:SQ f72_11 f72_12 f72_17:=rfl
def f72_9:AC:=.seq f72_10 f72_11
theorem f72_9e:SQ f72_9 f72_10 f72_11:=rfl
def f72_3:AC:=.seq f72_4 f72_9
theorem f72_3e:SQ f72_3 f72_4 f72_9:=rfl
def f72_1:AC:=.seq f72_2 f72_3
theorem f72_1e:SQ f72_1 f72_2 f72_3:=rfl
def c_f72:AFun:=⟨26,[.tmp 2],f72_1⟩
theorem k_f72:a7 Go.Proofs.Try.prog x_f72 72 = some c_f72:=by kernel_rfl
theorem e_f72:aJ Go.Proofs.Try.prog 72 = true:=by kernel_rfl

def n_f74:Nat:=74
def x_f74:Cx:=⟨some,id,12,fun s=>([0,2,3,4,5,9,10,11]:List Nat).contains s,fun s=>([]:List Nat).contains s,msOf [(2,[0],[]),(6,[2],[])]⟩
def f74_2l:List GI:=[⟨none,.mv (some 2) (.c (.lit (.bool false)))⟩]
def f74_2:AC:=.ops [0] [] f74_2l
theorem f74_2e:OP f74_2 f74_2l [0] []:=rfl
def f74_4l:List GI:=[vv 3 0,
    ⟨none,.bin (some 4) (.nil .ptr) .eql (.r 3) (.c (.lit (.pointer none)))⟩,
    vv 5 4,
    ⟨some (5,false),.mv (some 6) (.r 0)⟩,
    ⟨some (5,false),.nilck (some 7) (.r 6)⟩,
    ⟨some (5,false),.addr (some 8) (.r 7) 1⟩,
    ⟨some (5,false),.load (some 9) (.r 8) none⟩,
    ⟨some (5,false),.bin (some 10) (.nil .ptr) .eql (.r 9) (.c (.lit (.pointer none)))⟩,
    ⟨none,.pick (some 11) (.r 5) (.c (.lit (.bool true))) (.r 10)⟩,
    vo 2 11]
def f74_4:AC:=.ops [2] [] f74_4l
theorem f74_4e:OP f74_4 f74_4l [2] []:=rfl
def f74_3:AC:=.seq f74_4 .ret
theorem f74_3e:SQ f74_3 f74_4 .ret:=rfl
def f74_1:AC:=.seq f74_2 f74_3
theorem f74_1e:SQ f74_1 f74_2 f74_3:=rfl
def c_f74:AFun:=⟨12,[.tmp 2],f74_1⟩
theorem k_f74:a7 Go.Proofs.Try.prog x_f74 74 = some c_f74:=by kernel_rfl
theorem e_f74:aJ Go.Proofs.Try.prog 74 = true:=by kernel_rfl

def n_f75:Nat:=75
def x_f75:Cx:=⟨some,id,31,fun s=>([0,1,4,5,6,7,8,9,11,12,13,18,22,23,24,29,30]:List Nat).contains s,fun s=>([]:List Nat).contains s,msOf [(2,[0,1],[]),(12,[0,1,10],[]),(52,[4],[]),(28,[0,1,14],[]),(116,[4],[]),(30,[0,1],[]),(62,[],[]),(126,[4],[])]⟩
def f75_2l:List GI:=[⟨none,.mv (some 4) (.c (.lit (.int .i64 0)))⟩]
def f75_2:AC:=.ops [0,1] [] f75_2l
theorem f75_2e:OP f75_2 f75_2l [0,1] []:=rfl
def f75_5l:List GI:=[vv 5 1,
    vb 6 .lss 5 0,
    vv 7 6,
    ⟨some (7,false),.mv (some 8) (.r 1)⟩,
    ⟨some (7,false),.bin (some 9) .num .geq (.r 8) (.c (.lit (.int .i64 64)))⟩,
    ⟨none,.pick (some 10) (.r 7) (.c (.lit (.bool true))) (.r 9)⟩]
def f75_5:AC:=.ops [0,1,10] [] f75_5l
theorem f75_5e:OP f75_5 f75_5l [0,1,10] []:=rfl
def f75_8l:List GI:=[⟨none,.mv (some 4) (.c (.lit (.int .i64 2)))⟩]
def f75_8:AC:=.ops [4] [] f75_8l
theorem f75_8e:OP f75_8 f75_8l [4] []:=rfl
def f75_7:AC:=.seq f75_8 .ret
theorem f75_7e:SQ f75_7 f75_8 .ret:=rfl
def f75_6:AC:=.cond (.r 10) f75_7 .skip
theorem f75_6e:CN f75_6 10 f75_7 .skip:=rfl
def f75_4:AC:=.seq f75_5 f75_6
theorem f75_4e:SQ f75_4 f75_5 f75_6:=rfl
def f75_11l:List GI:=[vv 11 0,
    vv 12 1,
    ⟨none,.call (some 13) false (.f 81) [(.r 11),(.r 12)]⟩,
    ⟨none,.un (some 14) .not (.r 13)⟩]
def f75_11:AC:=.ops [0,1,14] [] f75_11l
theorem f75_11e:OP f75_11 f75_11l [0,1,14] []:=rfl
def f75_14l:List GI:=[⟨none,.mv (some 4) (.c (.lit (.int .i64 9)))⟩]
def f75_14:AC:=.ops [4] [] f75_14l
theorem f75_14e:OP f75_14 f75_14l [4] []:=rfl
def f75_13:AC:=.seq f75_14 .ret
theorem f75_13e:SQ f75_13 f75_14 .ret:=rfl
def f75_12:AC:=.cond (.r 14) f75_13 .skip
theorem f75_12e:CN f75_12 14 f75_13 .skip:=rfl
def f75_10:AC:=.seq f75_11 f75_12
theorem f75_10e:SQ f75_10 f75_11 f75_12:=rfl
def f75_16h:List GI:=[vv 15 0,
    vn 16 15,
    vd 17 16 0,
    vl 18 17,
    vv 19 0,
    vn 20 19,
    vd 21 20 1,
    vl 22 21,
    vv 23 1,
    ⟨none,.lookup (some 24) (.int .i64) (.lit (.int .u64 0)) false (.r 22) (.r 23)⟩]
def f75_16l:List GI:=[⟨none,.call (some 25) false (.f 84) [(.r 18),(.r 24)]⟩]
def f75_16:AC:=.draw [0,1] [] [] f75_16h f75_16l
theorem f75_16e:aC P id m f75_16 sf st Q = br P id sf.locs st f75_16h (cX P id m [] [0,1] [] f75_16l Q st) [] ⟨sf.regs,bE [] sf.locs⟩:=rfl
def f75_18l:List GI:=[vv 26 0,
    vn 27 26,
    vd 28 27 1,
    vl 29 28,
    vv 30 1,
    ⟨none,.del (.int .i64) (.r 29) (.r 30)⟩]
def f75_18:AC:=.ops [] [] f75_18l
theorem f75_18e:OP f75_18 f75_18l [] []:=rfl
def f75_20l:List GI:=[⟨none,.mv (some 4) (.c (.lit (.int .i64 0)))⟩]
def f75_20:AC:=.ops [4] [] f75_20l
theorem f75_20e:OP f75_20 f75_20l [4] []:=rfl
def f75_19:AC:=.seq f75_20 .ret
theorem f75_19e:SQ f75_19 f75_20 .ret:=rfl
def f75_17:AC:=.seq f75_18 f75_19
theorem f75_17e:SQ f75_17 f75_18 f75_19:=rfl
def f75_15:AC:=.seq f75_16 f75_17
theorem f75_15e:SQ f75_15 f75_16 f75_17:=rfl
def f75_9:AC:=.seq f75_10 f75_15
theorem f75_9e:SQ f75_9 f75_10 f75_15:=rfl
def f75_3:AC:=.seq f75_4 f75_9
theorem f75_3e:SQ f75_3 f75_4 f75_9:=rfl
def f75_1:AC:=.seq f75_2 f75_3
theorem f75_1e:SQ f75_1 f75_2 f75_3:=rfl
def c_f75:AFun:=⟨31,[.tmp 4],f75_1⟩
theorem k_f75:a7 Go.Proofs.Try.prog x_f75 75 = some c_f75:=by kernel_rfl
theorem e_f75:aJ Go.Proofs.Try.prog 75 = true:=by kernel_rfl

def n_f76:Nat:=76
def x_f76:Cx:=⟨some,id,35,fun s=>([0,1,4,5,6,7,9,13,14,15,16,18,22,27,28,33,34]:List Nat).contains s,fun s=>([]:List Nat).contains s,msOf [(2,[0,1],[]),(12,[0,1,8],[]),(52,[4,5],[]),(28,[0,1,6],[]),(58,[0,1,6,17],[]),(236,[4,5],[]),(60,[0,1,23],[]),(122,[0],[]),(62,[4,5],[])]⟩
def f76_2l:List GI:=[⟨none,.mv (some 4) (.c (.lit (.bool false)))⟩,
    ⟨none,.mv (some 5) (.c (.lit (.int .i64 0)))⟩]
def f76_2:AC:=.ops [0,1] [] f76_2l
theorem f76_2e:OP f76_2 f76_2l [0,1] []:=rfl
def f76_5l:List GI:=[vv 7 0,
    ⟨none,.call (some 8) false (.f 74) [(.r 7)]⟩]
def f76_5:AC:=.ops [0,1,8] [] f76_5l
theorem f76_5e:OP f76_5 f76_5l [0,1,8] []:=rfl
def f76_8l:List GI:=[⟨none,.mv (some 4) (.c (.lit (.bool false)))⟩,
    ⟨none,.mv (some 5) (.c (.lit (.int .i64 1)))⟩]
def f76_8:AC:=.ops [4,5] [] f76_8l
theorem f76_8e:OP f76_8 f76_8l [4,5] []:=rfl
def f76_7:AC:=.seq f76_8 .ret
theorem f76_7e:SQ f76_7 f76_8 .ret:=rfl
def f76_6:AC:=.cond (.r 8) f76_7 .skip
theorem f76_6e:CN f76_6 8 f76_7 .skip:=rfl
def f76_4:AC:=.seq f76_5 f76_6
theorem f76_4e:SQ f76_4 f76_5 f76_6:=rfl
def f76_11l:List GI:=[vv 9 1,
    vv 10 0,
    vn 11 10,
    vd 12 11 1,
    vl 13 12,
    ⟨none,.bsl (some 14) 1 1 (.lit (.pointer none)) [(0,(.r 13))]⟩,
    ⟨none,.call (some 15) false (.f 64) [(.r 9),(.r 14)]⟩,
    vo 6 15]
def f76_11:AC:=.ops [0,1,6] [] f76_11l
theorem f76_11e:OP f76_11 f76_11l [0,1,6] []:=rfl
def f76_13l:List GI:=[vv 16 6,
    vb 17 .neq 16 0]
def f76_13:AC:=.ops [0,1,6,17] [] f76_13l
theorem f76_13e:OP f76_13 f76_13l [0,1,6,17] []:=rfl
def f76_16l:List GI:=[vv 18 6,
    ⟨none,.mv (some 4) (.c (.lit (.bool false)))⟩,
    vo 5 18]
def f76_16:AC:=.ops [4,5] [] f76_16l
theorem f76_16e:OP f76_16 f76_16l [4,5] []:=rfl
def f76_15:AC:=.seq f76_16 .ret
theorem f76_15e:SQ f76_15 f76_16 .ret:=rfl
def f76_14:AC:=.cond (.r 17) f76_15 .skip
theorem f76_14e:CN f76_14 17 f76_15 .skip:=rfl
def f76_12:AC:=.seq f76_13 f76_14
theorem f76_12e:SQ f76_12 f76_13 f76_14:=rfl
def f76_10:AC:=.seq f76_11 f76_12
theorem f76_10e:SQ f76_10 f76_11 f76_12:=rfl
def f76_19l:List GI:=[vv 19 0,
    vn 20 19,
    vd 21 20 0,
    vl 22 21,
    vb 23 .gtr 22 0]
def f76_19:AC:=.ops [0,1,23] [] f76_19l
theorem f76_19e:OP f76_19 f76_19l [0,1,23] []:=rfl
def f76_21l:List GI:=[vv 24 0,
    vn 25 24,
    vd 26 25 1,
    vl 27 26,
    vv 28 1,
    ⟨none,.call (some 29) false (.f 65) [(.r 27),(.r 28)]⟩]
def f76_21:AC:=.ops [0] [] f76_21l
theorem f76_21e:OP f76_21 f76_21l [0] []:=rfl
def f76_20:AC:=.cond (.r 23) f76_21 .skip
theorem f76_20e:CN f76_20 23 f76_21 .skip:=rfl
def f76_18:AC:=.seq f76_19 f76_20
theorem f76_18e:SQ f76_18 f76_19 f76_20:=rfl
def f76_23l:List GI:=[vv 30 0,
    vn 31 30,
    vd 32 31 0,
    vl 33 32,
    vb 34 .eql 33 0,
    vo 4 34,
    ⟨none,.mv (some 5) (.c (.lit (.int .i64 0)))⟩]
def f76_23:AC:=.ops [4,5] [] f76_23l
theorem f76_23e:OP f76_23 f76_23l [4,5] []:=rfl
def f76_22:AC:=.seq f76_23 .ret
theorem f76_22e:SQ f76_22 f76_23 .ret:=rfl
def f76_17:AC:=.seq f76_18 f76_22
theorem f76_17e:SQ f76_17 f76_18 f76_22:=rfl
def f76_9:AC:=.seq f76_10 f76_17
theorem f76_9e:SQ f76_9 f76_10 f76_17:=rfl
def f76_3:AC:=.seq f76_4 f76_9
theorem f76_3e:SQ f76_3 f76_4 f76_9:=rfl
def f76_1:AC:=.seq f76_2 f76_3
theorem f76_1e:SQ f76_1 f76_2 f76_3:=rfl
def c_f76:AFun:=⟨35,[.tmp 4,.tmp 5],f76_1⟩
theorem k_f76:a7 Go.Proofs.Try.prog x_f76 76 = some c_f76:=by kernel_rfl
theorem e_f76:aJ Go.Proofs.Try.prog 76 = true:=by kernel_rfl

def n_f77:Nat:=77
def x_f77:Cx:=⟨some,id,35,fun s=>([0,1,4,5,6,7,8,10,11,13,17,18,19,20,21,27,28,30,31,32,33,34]:List Nat).contains s,fun s=>([]:List Nat).contains s,msOf [(2,[0,1],[]),(12,[0,1,9],[]),(52,[4,5],[]),(28,[0,10,11],[]),(58,[0,10,11],[]),(232,[0,10,11,12],[]),(933,[0],[]),(3736,[0,6,7,10,11],[]),(14948,[0,6,10,11,22],[]),(29898,[0],[]),(7475,[0,10,11],[]),(935,[0,10,11],[]),(30,[4,5],[])]⟩
def f77_2l:List GI:=[⟨none,.mv (some 4) (.c (.lit (.slice none 0 0)))⟩,
    ⟨none,.mv (some 5) (.c (.lit (.int .i64 0)))⟩]
def f77_2:AC:=.ops [0,1] [] f77_2l
theorem f77_2e:OP f77_2 f77_2l [0,1] []:=rfl
def f77_5l:List GI:=[vv 8 0,
    ⟨none,.call (some 9) false (.f 62) [(.r 8)]⟩]
def f77_5:AC:=.ops [0,1,9] [] f77_5l
theorem f77_5e:OP f77_5 f77_5l [0,1,9] []:=rfl
def f77_8l:List GI:=[⟨none,.mv (some 4) (.c (.lit (.slice none 0 0)))⟩,
    ⟨none,.mv (some 5) (.c (.lit (.int .i64 1)))⟩]
def f77_8:AC:=.ops [4,5] [] f77_8l
theorem f77_8e:OP f77_8 f77_8l [4,5] []:=rfl
def f77_7:AC:=.seq f77_8 .ret
theorem f77_7e:SQ f77_7 f77_8 .ret:=rfl
def f77_6:AC:=.cond (.r 9) f77_7 .skip
theorem f77_6e:CN f77_6 9 f77_7 .skip:=rfl
def f77_4:AC:=.seq f77_5 f77_6
theorem f77_4e:SQ f77_4 f77_5 f77_6:=rfl
def f77_11l:List GI:=[vv 10 1,
    ⟨none,.mv (some 11) (.c (.lit (.int .i64 0)))⟩]
def f77_11:AC:=.ops [0,10,11] [] f77_11l
theorem f77_11e:OP f77_11 f77_11l [0,10,11] []:=rfl
def f77_15l:List GI:=[⟨none,.bin (some 12) .num .lss (.r 11) (.r 10)⟩]
def f77_15:AC:=.ops [0,10,11,12] [] f77_15l
theorem f77_15e:OP f77_15 f77_15l [0,10,11,12] []:=rfl
def f77_17:AC:=.cond (.r 12) .skip (.exit [0] [] 0)
theorem f77_17e:CN f77_17 12 .skip (.exit [0] [] 0):=rfl
def f77_21l:List GI:=[vv 14 0,
    vn 15 14,
    vd 16 15 2,
    vl 17 16,
    ⟨none,.call (some 18) false (.f 83) [(.r 17)]⟩,
    vv 13 18,
    ve 19 13 0,
    ve 20 13 1,
    vo 6 19,
    vo 7 20]
def f77_21:AC:=.ops [0,6,7,10,11] [] f77_21l
theorem f77_21e:OP f77_21 f77_21l [0,6,7,10,11] []:=rfl
def f77_24l:List GI:=[vv 21 7,
    ⟨none,.un (some 22) .not (.r 21)⟩]
def f77_24:AC:=.ops [0,6,10,11,22] [] f77_24l
theorem f77_24e:OP f77_24 f77_24l [0,6,10,11,22] []:=rfl
def f77_25:AC:=.cond (.r 22) (.exit [0] [] 0) .skip
theorem f77_25e:CN f77_25 22 (.exit [0] [] 0) .skip:=rfl
def f77_23:AC:=.seq f77_24 f77_25
theorem f77_23e:SQ f77_23 f77_24 f77_25:=rfl
def f77_26l:List GI:=[vv 23 0,
    vn 24 23,
    vd 25 24 0,
    vd 26 25 1,
    vl 27 26,
    vv 28 6,
    ⟨none,.call (some 29) false (.f 65) [(.r 27),(.r 28)]⟩]
def f77_26:AC:=.ops [0,10,11] [] f77_26l
theorem f77_26e:OP f77_26 f77_26l [0,10,11] []:=rfl
def f77_22:AC:=.seq f77_23 f77_26
theorem f77_22e:SQ f77_22 f77_23 f77_26:=rfl
def f77_20:AC:=.seq f77_21 f77_22
theorem f77_20e:SQ f77_20 f77_21 f77_22:=rfl
def f77_19:AC:=.block 1 f77_20
theorem f77_19e:BL f77_19 f77_20 1:=rfl
def f77_27l:List GI:=[vb 30 .add 11 1,
    vv 11 30]
def f77_27:AC:=.ops [0,10,11] [] f77_27l
theorem f77_27e:OP f77_27 f77_27l [0,10,11] []:=rfl
def f77_18:AC:=.seq f77_19 f77_27
theorem f77_18e:SQ f77_18 f77_19 f77_27:=rfl
def f77_16:AC:=.seq f77_17 f77_18
theorem f77_16e:SQ f77_16 f77_17 f77_18:=rfl
def f77_14:AC:=.seq f77_15 f77_16
theorem f77_14e:SQ f77_14 f77_15 f77_16:=rfl
def f77_13:AC:=.loop [0,10,11] [] f77_14
theorem f77_13w:aC P id m f77_13 sf st Q = cR (aC P id m f77_14) [0,10,11] [] sf st Q:=rfl
def f77_12:AC:=.block 0 f77_13
theorem f77_12e:BL f77_12 f77_13 0:=rfl
def f77_10:AC:=.seq f77_11 f77_12
theorem f77_10e:SQ f77_10 f77_11 f77_12:=rfl
def f77_29l:List GI:=[vv 31 0,
    vn 32 31,
    vd 33 32 0,
    ⟨none,.call (some 34) false (.f 72) [(.r 33)]⟩,
    vo 4 34,
    ⟨none,.mv (some 5) (.c (.lit (.int .i64 0)))⟩]
def f77_29:AC:=.ops [4,5] [] f77_29l
theorem f77_29e:OP f77_29 f77_29l [4,5] []:=rfl
def f77_28:AC:=.seq f77_29 .ret
theorem f77_28e:SQ f77_28 f77_29 .ret:=rfl
def f77_9:AC:=.seq f77_10 f77_28
theorem f77_9e:SQ f77_9 f77_10 f77_28:=rfl
def f77_3:AC:=.seq f77_4 f77_9
theorem f77_3e:SQ f77_3 f77_4 f77_9:=rfl
def f77_1:AC:=.seq f77_2 f77_3
theorem f77_1e:SQ f77_1 f77_2 f77_3:=rfl
def c_f77:AFun:=⟨35,[.tmp 4,.tmp 5],f77_1⟩
theorem k_f77:a7 Go.Proofs.Try.prog x_f77 77 = some c_f77:=by kernel_rfl
theorem e_f77:aJ Go.Proofs.Try.prog 77 = true:=by kernel_rfl

def n_f78:Nat:=78
def x_f78:Cx:=⟨some,id,4,fun s=>([0,1,2,3]:List Nat).contains s,fun s=>([]:List Nat).contains s,msOf [(2,[],[]),(6,[0],[])]⟩
def f78_2l:List GI:=[⟨none,.mv (some 0) (.c (.lit (.pointer none)))⟩]
def f78_2:AC:=.ops [] [] f78_2l
theorem f78_2e:OP f78_2 f78_2l [] []:=rfl
def f78_4l:List GI:=[⟨none,.mkmap 1⟩,
    ⟨none,.bst (some 2) [(0,3),(3,1)] (.agg [(.lit (.int .u64 0)),(.lit (.int .u64 0)),(.lit (.int .u64 0)),(.lit (.map none))]) [(1,(.r 1))]⟩,
    ⟨none,.boxB 3 4 (.r 2)⟩,
    vo 0 3]
def f78_4:AC:=.ops [0] [] f78_4l
theorem f78_4e:OP f78_4 f78_4l [0] []:=rfl
def f78_3:AC:=.seq f78_4 .ret
theorem f78_3e:SQ f78_3 f78_4 .ret:=rfl
def f78_1:AC:=.seq f78_2 f78_3
theorem f78_1e:SQ f78_1 f78_2 f78_3:=rfl
def c_f78:AFun:=⟨4,[.tmp 0],f78_1⟩
theorem k_f78:a7 Go.Proofs.Try.prog x_f78 78 = some c_f78:=by kernel_rfl
theorem e_f78:aJ Go.Proofs.Try.prog 78 = true:=by kernel_rfl

def n_f79:Nat:=79
def x_f79:Cx:=⟨some,id,12,fun s=>([0,2,3,4,5,9,10,11]:List Nat).contains s,fun s=>([]:List Nat).contains s,msOf [(2,[0],[]),(6,[2],[])]⟩
def f79_2l:List GI:=[⟨none,.mv (some 2) (.c (.lit (.bool false)))⟩]
def f79_2:AC:=.ops [0] [] f79_2l
theorem f79_2e:OP f79_2 f79_2l [0] []:=rfl
def f79_4l:List GI:=[vv 3 0,
    ⟨none,.bin (some 4) (.nil .ptr) .eql (.r 3) (.c (.lit (.pointer none)))⟩,
    vv 5 4,
    ⟨some (5,false),.mv (some 6) (.r 0)⟩,
    ⟨some (5,false),.nilck (some 7) (.r 6)⟩,
    ⟨some (5,false),.addr (some 8) (.r 7) 3⟩,
    ⟨some (5,false),.load (some 9) (.r 8) none⟩,
    ⟨some (5,false),.bin (some 10) (.nil .mp) .eql (.r 9) (.c (.lit (.map none)))⟩,
    ⟨none,.pick (some 11) (.r 5) (.c (.lit (.bool true))) (.r 10)⟩,
    vo 2 11]
def f79_4:AC:=.ops [2] [] f79_4l
theorem f79_4e:OP f79_4 f79_4l [2] []:=rfl
def f79_3:AC:=.seq f79_4 .ret
theorem f79_3e:SQ f79_3 f79_4 .ret:=rfl
def f79_1:AC:=.seq f79_2 f79_3
theorem f79_1e:SQ f79_1 f79_2 f79_3:=rfl
def c_f79:AFun:=⟨12,[.tmp 2],f79_1⟩
theorem k_f79:a7 Go.Proofs.Try.prog x_f79 79 = some c_f79:=by kernel_rfl
theorem e_f79:aJ Go.Proofs.Try.prog 79 = true:=by kernel_rfl

def n_f80:Nat:=80
def x_f80:Cx:=⟨some,id,16,fun s=>([0,2,3,8,12,13,14,15]:List Nat).contains s,fun s=>([13]:List Nat).contains s,msOf [(2,[0],[]),(12,[0,4],[]),(52,[2],[]),(14,[2],[])]⟩
def f80_2l:List GI:=[⟨none,.mv (some 2) (.c (.lit (.pointer none)))⟩]
def f80_2:AC:=.ops [0] [] f80_2l
theorem f80_2e:OP f80_2 f80_2l [0] []:=rfl
def f80_5l:List GI:=[vv 3 0,
    ⟨none,.call (some 4) false (.f 79) [(.r 3)]⟩]
def f80_5:AC:=.ops [0,4] [] f80_5l
theorem f80_5e:OP f80_5 f80_5l [0,4] []:=rfl
def f80_8l:List GI:=[⟨none,.mv (some 2) (.c (.lit (.pointer none)))⟩]
def f80_8:AC:=.ops [2] [] f80_8l
theorem f80_8e:OP f80_8 f80_8l [2] []:=rfl
def f80_7:AC:=.seq f80_8 .ret
theorem f80_7e:SQ f80_7 f80_8 .ret:=rfl
def f80_6:AC:=.cond (.r 4) f80_7 .skip
theorem f80_6e:CN f80_6 4 f80_7 .skip:=rfl
def f80_4:AC:=.seq f80_5 f80_6
theorem f80_4e:SQ f80_4 f80_5 f80_6:=rfl
def f80_10h:List GI:=[vv 5 0,
    vn 6 5,
    vd 7 6 0,
    ⟨none,.load (some 8) (.r 7) (some 3)⟩,
    vv 9 0,
    vn 10 9,
    vd 11 10 3,
    vl 12 11]
def f80_10p:List (Bool×GI):=[]
def f80_10l:List GI:=[⟨none,.bst (some 14) [(0,3),(3,1)] (.agg [(.lit (.int .u64 0)),(.lit (.int .u64 0)),(.lit (.int .u64 0)),(.lit (.map none))]) [(0,(.r 8)),(1,(.r 13))]⟩,
    ⟨none,.boxB 15 4 (.r 14)⟩,
    vo 2 15]
def f80_10:AC:=.drawM [2] [] f80_10h (some 13) (.f 85) [(.r 12)] f80_10p f80_10l
theorem f80_10e:aC P id m f80_10 sf st Q = (m = false∧drawM P id f80_10h (some 13) (.f 85) [(.r 12)] f80_10p sf st (ge P id m [2] [] f80_10l Q)):=rfl
def f80_9:AC:=.seq f80_10 .ret
theorem f80_9e:SQ f80_9 f80_10 .ret:=rfl
def f80_3:AC:=.seq f80_4 f80_9
theorem f80_3e:SQ f80_3 f80_4 f80_9:=rfl
def f80_1:AC:=.seq f80_2 f80_3
theorem f80_1e:SQ f80_1 f80_2 f80_3:=rfl
def c_f80:AFun:=⟨16,[.tmp 2],f80_1⟩
theorem k_f80:a7 Go.Proofs.Try.prog x_f80 80 = some c_f80:=by kernel_rfl
theorem e_f80:aJ Go.Proofs.Try.prog 80 = true:=by kernel_rfl

def n_f81:Nat:=81
def x_f81:Cx:=⟨some,id,17,fun s=>([1,4,6,7,11,12,13,14,15,16]:List Nat).contains s,fun s=>([]:List Nat).contains s,msOf [(2,[0,1],[]),(6,[6],[]),(14,[4],[])]⟩
def f81_2l:List GI:=[⟨none,.mv (some 4) (.c (.lit (.bool false)))⟩]
def f81_2:AC:=.ops [0,1] [] f81_2l
theorem f81_2e:OP f81_2 f81_2l [0,1] []:=rfl
def f81_4l:List GI:=[vv 8 0,
    vn 9 8,
    vd 10 9 1,
    vl 11 10,
    vv 12 1,
    ⟨none,.lookup (some 13) (.int .i64) (.lit (.int .u64 0)) true (.r 11) (.r 12)⟩,
    vv 7 13,
    ve 14 7 0,
    ve 15 7 1,
    vo 5 14,
    vo 6 15]
def f81_4:AC:=.ops [6] [] f81_4l
theorem f81_4e:OP f81_4 f81_4l [6] []:=rfl
def f81_6l:List GI:=[vv 16 6,
    vo 4 16]
def f81_6:AC:=.ops [4] [] f81_6l
theorem f81_6e:OP f81_6 f81_6l [4] []:=rfl
def f81_5:AC:=.seq f81_6 .ret
theorem f81_5e:SQ f81_5 f81_6 .ret:=rfl
def f81_3:AC:=.seq f81_4 f81_5
theorem f81_3e:SQ f81_3 f81_4 f81_5:=rfl
def f81_1:AC:=.seq f81_2 f81_3
theorem f81_1e:SQ f81_1 f81_2 f81_3:=rfl
def c_f81:AFun:=⟨17,[.tmp 4],f81_1⟩
theorem k_f81:a7 Go.Proofs.Try.prog x_f81 81 = some c_f81:=by kernel_rfl
theorem e_f81:aJ Go.Proofs.Try.prog 81 = true:=by kernel_rfl

def n_f82:Nat:=82
def x_f82:Cx:=⟨some,id,97,fun s=>([0,1,4,5,8,9,14,15,16,21,22,29,34,35,40,41,46,53,60,65,66,71,76,81,82,88,96]:List Nat).contains s,fun s=>([]:List Nat).contains s,msOf [(2,[0,1],[]),(24,[0,1,7],[]),(100,[4,5],[]),(102,[0,1,10],[]),(412,[4,5],[]),(14,[0,1],[]),(30,[0],[]),(124,[0,47],[]),(250,[0],[]),(502,[0,6],[6]),(1006,[0,6],[6]),(1007,[0],[]),(126,[0],[]),(254,[4,5],[])]⟩
def f82_2l:List GI:=[⟨none,.mv (some 4) (.c (.lit (.int .u64 0)))⟩,
    ⟨none,.mv (some 5) (.c (.lit (.int .i64 0)))⟩]
def f82_2:AC:=.ops [0,1] [] f82_2l
theorem f82_2e:OP f82_2 f82_2l [0,1] []:=rfl
def f82_6l:List GI:=[vv 8 0,
    ⟨none,.call (some 9) false (.f 79) [(.r 8)]⟩,
    vo 7 9]
def f82_6:AC:=.ops [0,1,7] [] f82_6l
theorem f82_6e:OP f82_6 f82_6l [0,1,7] []:=rfl
def f82_9l:List GI:=[⟨none,.mv (some 4) (.c (.lit (.int .u64 0)))⟩,
    ⟨none,.mv (some 5) (.c (.lit (.int .i64 1)))⟩]
def f82_9:AC:=.ops [4,5] [] f82_9l
theorem f82_9e:OP f82_9 f82_9l [4,5] []:=rfl
def f82_8:AC:=.seq f82_9 .ret
theorem f82_8e:SQ f82_8 f82_9 .ret:=rfl
def f82_11l:List GI:=[vv 11 0,
    vn 12 11,
    vd 13 12 3,
    vl 14 13,
    ⟨none,.len (some 15) .mp (.r 14)⟩,
    vb 16 .geq 15 4096,
    vo 10 16]
def f82_11:AC:=.ops [0,1,10] [] f82_11l
theorem f82_11e:OP f82_11 f82_11l [0,1,10] []:=rfl
def f82_14l:List GI:=[⟨none,.mv (some 4) (.c (.lit (.int .u64 0)))⟩,
    ⟨none,.mv (some 5) (.c (.lit (.int .i64 7)))⟩]
def f82_14:AC:=.ops [4,5] [] f82_14l
theorem f82_14e:OP f82_14 f82_14l [4,5] []:=rfl
def f82_13:AC:=.seq f82_14 .ret
theorem f82_13e:SQ f82_13 f82_14 .ret:=rfl
def f82_12:AC:=.cond (.r 10) f82_13 .skip
theorem f82_12e:CN f82_12 10 f82_13 .skip:=rfl
def f82_10:AC:=.seq f82_11 f82_12
theorem f82_10e:SQ f82_10 f82_11 f82_12:=rfl
def f82_7:AC:=.cond (.r 7) f82_8 f82_10
theorem f82_7e:CN f82_7 7 f82_8 f82_10:=rfl
def f82_5:AC:=.seq f82_6 f82_7
theorem f82_5e:SQ f82_5 f82_6 f82_7:=rfl
def f82_4:AC:=.block 0 f82_5
theorem f82_4e:BL f82_4 f82_5 0:=rfl
def f82_16l:List GI:=[vv 17 0,
    vn 18 17,
    vd 19 18 0,
    vd 20 19 2,
    vl 21 20,
    ⟨none,.bin (some 22) .num .add (.r 21) (.c (.lit (.int .u64 1)))⟩,
    vn 23 17,
    vd 24 23 0,
    vd 25 24 2,
    ⟨none,.store 1 (.r 25) (.r 22)⟩]
def f82_16:AC:=.ops [0,1] [] f82_16l
theorem f82_16e:OP f82_16 f82_16l [0,1] []:=rfl
def f82_18h:List GI:=[vv 26 0,
    vn 27 26,
    vd 28 27 3,
    vl 29 28,
    vv 30 0,
    vn 31 30,
    vd 32 31 0,
    vd 33 32 2,
    vl 34 33,
    vv 35 1,
    vv 36 0,
    vn 37 36,
    vd 38 37 0,
    vd 39 38 1,
    vl 40 39,
    ⟨none,.bst (some 41) [(0,1),(1,1),(2,1)] (.agg [(.lit (.int .i64 0)),(.lit (.int .u64 0)),(.lit (.int .u64 0))]) [(0,(.r 35)),(1,(.r 40))]⟩]
def f82_18l:List GI:=[⟨none,.upd (.int .u64) (.r 29) (.r 34) (.r 41)⟩]
def f82_18:AC:=.draw [0] [] [] f82_18h f82_18l
theorem f82_18e:aC P id m f82_18 sf st Q = br P id sf.locs st f82_18h (cX P id m [] [0] [] f82_18l Q st) [] ⟨sf.regs,bE [] sf.locs⟩:=rfl
def f82_21l:List GI:=[vv 42 0,
    vn 43 42,
    vd 44 43 0,
    vd 45 44 1,
    vl 46 45,
    ⟨none,.bin (some 47) .num .eql (.r 46) (.c (.lit (.int .u64 0)))⟩]
def f82_21:AC:=.ops [0,47] [] f82_21l
theorem f82_21e:OP f82_21 f82_21l [0,47] []:=rfl
def f82_23l:List GI:=[vv 48 0,
    vv 49 0,
    vn 50 49,
    vd 51 50 0,
    vd 52 51 2,
    vl 53 52,
    vn 54 48,
    vd 55 54 0,
    vd 56 55 0,
    ⟨none,.store 1 (.r 56) (.r 53)⟩]
def f82_23:AC:=.ops [0] [] f82_23l
theorem f82_23e:OP f82_23 f82_23l [0] []:=rfl
def f82_25h:List GI:=[vv 57 0,
    vn 58 57,
    vd 59 58 3,
    vl 60 59,
    vv 61 0,
    vn 62 61,
    vd 63 62 0,
    vd 64 63 1,
    vl 65 64,
    ⟨none,.lookup (some 66) (.int .u64) (.agg [(.lit (.int .i64 0)),(.lit (.int .u64 0)),(.lit (.int .u64 0))]) false (.r 60) (.r 65)⟩,
    ⟨none,.newL 6 [(.lit (.int .i64 0)),(.lit (.int .u64 0)),(.lit (.int .u64 0))]⟩]
def f82_25l:List GI:=[⟨none,.store 3 (.r 6) (.r 66)⟩]
def f82_25:AC:=.draw [0,6] [6] [6] f82_25h f82_25l
theorem f82_25e:aC P id m f82_25 sf st Q = br P id sf.locs st f82_25h (cX P id m [6] [0,6] [6] f82_25l Q st) [] ⟨sf.regs,bE [6] sf.locs⟩:=rfl
def f82_27l:List GI:=[vv 67 0,
    vn 68 67,
    vd 69 68 0,
    vd 70 69 2,
    vl 71 70,
    vd 72 6 2,
    ⟨none,.store 1 (.r 72) (.r 71)⟩]
def f82_27:AC:=.ops [0,6] [6] f82_27l
theorem f82_27e:OP f82_27 f82_27l [0,6] [6]:=rfl
def f82_28h:List GI:=[vv 73 0,
    vn 74 73,
    vd 75 74 3,
    vl 76 75,
    vv 77 0,
    vn 78 77,
    vd 79 78 0,
    vd 80 79 1,
    vl 81 80,
    ⟨none,.load (some 82) (.r 6) (some 3)⟩]
def f82_28l:List GI:=[⟨none,.upd (.int .u64) (.r 76) (.r 81) (.r 82)⟩]
def f82_28:AC:=.draw [0] [] [] f82_28h f82_28l
theorem f82_28e:aC P id m f82_28 sf st Q = br P id sf.locs st f82_28h (cX P id m [] [0] [] f82_28l Q st) [] ⟨sf.regs,bE [] sf.locs⟩:=rfl
def f82_26:AC:=.seq f82_27 f82_28
theorem f82_26e:SQ f82_26 f82_27 f82_28:=rfl
def f82_24:AC:=.seq f82_25 f82_26
theorem f82_24e:SQ f82_24 f82_25 f82_26:=rfl
def f82_22:AC:=.cond (.r 47) f82_23 f82_24
theorem f82_22e:CN f82_22 47 f82_23 f82_24:=rfl
def f82_20:AC:=.seq f82_21 f82_22
theorem f82_20e:SQ f82_20 f82_21 f82_22:=rfl
def f82_30l:List GI:=[vv 83 0,
    vv 84 0,
    vn 85 84,
    vd 86 85 0,
    vd 87 86 2,
    vl 88 87,
    vn 89 83,
    vd 90 89 0,
    vd 91 90 1,
    ⟨none,.store 1 (.r 91) (.r 88)⟩]
def f82_30:AC:=.ops [0] [] f82_30l
theorem f82_30e:OP f82_30 f82_30l [0] []:=rfl
def f82_32l:List GI:=[vv 92 0,
    vn 93 92,
    vd 94 93 0,
    vd 95 94 2,
    vl 96 95,
    vo 4 96,
    ⟨none,.mv (some 5) (.c (.lit (.int .i64 0)))⟩]
def f82_32:AC:=.ops [4,5] [] f82_32l
theorem f82_32e:OP f82_32 f82_32l [4,5] []:=rfl
def f82_31:AC:=.seq f82_32 .ret
theorem f82_31e:SQ f82_31 f82_32 .ret:=rfl
def f82_29:AC:=.seq f82_30 f82_31
theorem f82_29e:SQ f82_29 f82_30 f82_31:=rfl
def f82_19:AC:=.seq f82_20 f82_29
theorem f82_19e:SQ f82_19 f82_20 f82_29:=rfl
def f82_17:AC:=.seq f82_18 f82_19
theorem f82_17e:SQ f82_17 f82_18 f82_19:=rfl
def f82_15:AC:=.seq f82_16 f82_17
theorem f82_15e:SQ f82_15 f82_16 f82_17:=rfl
def f82_3:AC:=.seq f82_4 f82_15
theorem f82_3e:SQ f82_3 f82_4 f82_15:=rfl
def f82_1:AC:=.seq f82_2 f82_3
theorem f82_1e:SQ f82_1 f82_2 f82_3:=rfl
def c_f82:AFun:=⟨97,[.tmp 4,.tmp 5],f82_1⟩
theorem k_f82:a7 Go.Proofs.Try.prog x_f82 82 = some c_f82:=by kernel_rfl
theorem e_f82:aJ Go.Proofs.Try.prog 82 = true:=by kernel_rfl

def n_f83:Nat:=83
def x_f83:Cx:=⟨some,id,24,fun s=>([2,3,4,6,7,11,12,13,14,15,19,20,21,22,23]:List Nat).contains s,fun s=>([]:List Nat).contains s,msOf [(2,[0],[]),(6,[0,4,6],[]),(14,[4,6],[]),(30,[2,3],[])]⟩
def f83_2l:List GI:=[⟨none,.mv (some 2) (.c (.lit (.int .i64 0)))⟩,
    ⟨none,.mv (some 3) (.c (.lit (.bool false)))⟩]
def f83_2:AC:=.ops [0] [] f83_2l
theorem f83_2e:OP f83_2 f83_2l [0] []:=rfl
def f83_4l:List GI:=[vv 8 0,
    vn 9 8,
    vd 10 9 0,
    vl 11 10,
    ⟨none,.call (some 12) false (.f 86) [(.r 11)]⟩,
    vv 7 12,
    ve 13 7 0,
    ve 14 7 1,
    ve 15 7 2,
    vo 4 13,
    vo 5 14,
    vo 6 15]
def f83_4:AC:=.ops [0,4,6] [] f83_4l
theorem f83_4e:OP f83_4 f83_4l [0,4,6] []:=rfl
def f83_6l:List GI:=[vv 16 0,
    vn 17 16,
    vd 18 17 1,
    vl 19 18,
    vv 20 4,
    ⟨none,.del (.int .i64) (.r 19) (.r 20)⟩]
def f83_6:AC:=.ops [4,6] [] f83_6l
theorem f83_6e:OP f83_6 f83_6l [4,6] []:=rfl
def f83_8l:List GI:=[vv 21 4,
    vv 22 6,
    vb 23 .eql 22 0,
    vo 2 21,
    vo 3 23]
def f83_8:AC:=.ops [2,3] [] f83_8l
theorem f83_8e:OP f83_8 f83_8l [2,3] []:=rfl
def f83_7:AC:=.seq f83_8 .ret
theorem f83_7e:SQ f83_7 f83_8 .ret:=rfl
def f83_5:AC:=.seq f83_6 f83_7
theorem f83_5e:SQ f83_5 f83_6 f83_7:=rfl
def f83_3:AC:=.seq f83_4 f83_5
theorem f83_3e:SQ f83_3 f83_4 f83_5:=rfl
def f83_1:AC:=.seq f83_2 f83_3
theorem f83_1e:SQ f83_1 f83_2 f83_3:=rfl
def c_f83:AFun:=⟨24,[.tmp 2,.tmp 3],f83_1⟩
theorem k_f83:a7 Go.Proofs.Try.prog x_f83 83 = some c_f83:=by kernel_rfl
theorem e_f83:aJ Go.Proofs.Try.prog 83 = true:=by kernel_rfl

def n_f84:Nat:=84
def x_f84:Cx:=⟨some,id,82,fun s=>([0,1,4,5,7,10,12,16,17,18,19,20,21,26,27,29,33,40,42,43,45,50,52,53,55,59,66,68,69,71,76,78,79,81]:List Nat).contains s,fun s=>([]:List Nat).contains s,msOf [(2,[0,1],[]),(12,[0,1,11],[]),(52,[4,5],[]),(14,[0,1,6,7],[6]),(60,[0,1,6,22],[6]),(244,[4,5],[]),(62,[0,6],[6]),(252,[0,6,30],[6]),(506,[0,6],[6]),(1014,[0,6,8],[6,8]),(2030,[0,6,8],[6,8]),(2031,[0,6],[6]),(508,[0,6,56],[6]),(1018,[6],[6]),(2038,[0,6,9],[6,9]),(4078,[0,6,9],[6,9]),(4079,[6],[6]),(510,[4,5],[])]⟩
def f84_2l:List GI:=[⟨none,.mv (some 4) (.c (.lit (.int .i64 0)))⟩,
    ⟨none,.mv (some 5) (.c (.lit (.int .i64 0)))⟩]
def f84_2:AC:=.ops [0,1] [] f84_2l
theorem f84_2e:OP f84_2 f84_2l [0,1] []:=rfl
def f84_5l:List GI:=[vv 10 0,
    ⟨none,.call (some 11) false (.f 79) [(.r 10)]⟩]
def f84_5:AC:=.ops [0,1,11] [] f84_5l
theorem f84_5e:OP f84_5 f84_5l [0,1,11] []:=rfl
def f84_8l:List GI:=[⟨none,.mv (some 4) (.c (.lit (.int .i64 0)))⟩,
    ⟨none,.mv (some 5) (.c (.lit (.int .i64 1)))⟩]
def f84_8:AC:=.ops [4,5] [] f84_8l
theorem f84_8e:OP f84_8 f84_8l [4,5] []:=rfl
def f84_7:AC:=.seq f84_8 .ret
theorem f84_7e:SQ f84_7 f84_8 .ret:=rfl
def f84_6:AC:=.cond (.r 11) f84_7 .skip
theorem f84_6e:CN f84_6 11 f84_7 .skip:=rfl
def f84_4:AC:=.seq f84_5 f84_6
theorem f84_4e:SQ f84_4 f84_5 f84_6:=rfl
def f84_10l:List GI:=[vv 13 0,
    vn 14 13,
    vd 15 14 3,
    vl 16 15,
    vv 17 1,
    ⟨none,.lookup (some 18) (.int .u64) (.agg [(.lit (.int .i64 0)),(.lit (.int .u64 0)),(.lit (.int .u64 0))]) true (.r 16) (.r 17)⟩,
    vv 12 18,
    ve 19 12 0,
    ve 20 12 1,
    ⟨none,.newL 6 [(.lit (.int .i64 0)),(.lit (.int .u64 0)),(.lit (.int .u64 0))]⟩,
    ⟨none,.store 3 (.r 6) (.r 19)⟩,
    vo 7 20]
def f84_10:AC:=.ops [0,1,6,7] [6] f84_10l
theorem f84_10e:OP f84_10 f84_10l [0,1,6,7] [6]:=rfl
def f84_13l:List GI:=[vv 21 7,
    ⟨none,.un (some 22) .not (.r 21)⟩]
def f84_13:AC:=.ops [0,1,6,22] [6] f84_13l
theorem f84_13e:OP f84_13 f84_13l [0,1,6,22] [6]:=rfl
def f84_16l:List GI:=[⟨none,.mv (some 4) (.c (.lit (.int .i64 0)))⟩,
    ⟨none,.mv (some 5) (.c (.lit (.int .i64 9)))⟩]
def f84_16:AC:=.ops [4,5] [] f84_16l
theorem f84_16e:OP f84_16 f84_16l [4,5] []:=rfl
def f84_15:AC:=.seq f84_16 .ret
theorem f84_15e:SQ f84_15 f84_16 .ret:=rfl
def f84_14:AC:=.cond (.r 22) f84_15 .skip
theorem f84_14e:CN f84_14 22 f84_15 .skip:=rfl
def f84_12:AC:=.seq f84_13 f84_14
theorem f84_12e:SQ f84_12 f84_13 f84_14:=rfl
def f84_18l:List GI:=[vv 23 0,
    vn 24 23,
    vd 25 24 3,
    vl 26 25,
    vv 27 1,
    ⟨none,.del (.int .u64) (.r 26) (.r 27)⟩]
def f84_18:AC:=.ops [0,6] [6] f84_18l
theorem f84_18e:OP f84_18 f84_18l [0,6] [6]:=rfl
def f84_21l:List GI:=[vd 28 6 1,
    vl 29 28,
    ⟨none,.bin (some 30) .num .eql (.r 29) (.c (.lit (.int .u64 0)))⟩]
def f84_21:AC:=.ops [0,6,30] [6] f84_21l
theorem f84_21e:OP f84_21 f84_21l [0,6,30] [6]:=rfl
def f84_23l:List GI:=[vv 31 0,
    vd 32 6 2,
    vl 33 32,
    vn 34 31,
    vd 35 34 0,
    vd 36 35 0,
    ⟨none,.store 1 (.r 36) (.r 33)⟩]
def f84_23:AC:=.ops [0,6] [6] f84_23l
theorem f84_23e:OP f84_23 f84_23l [0,6] [6]:=rfl
def f84_25h:List GI:=[vv 37 0,
    vn 38 37,
    vd 39 38 3,
    vl 40 39,
    vd 41 6 1,
    vl 42 41,
    ⟨none,.lookup (some 43) (.int .u64) (.agg [(.lit (.int .i64 0)),(.lit (.int .u64 0)),(.lit (.int .u64 0))]) false (.r 40) (.r 42)⟩,
    ⟨none,.newL 8 [(.lit (.int .i64 0)),(.lit (.int .u64 0)),(.lit (.int .u64 0))]⟩]
def f84_25l:List GI:=[⟨none,.store 3 (.r 8) (.r 43)⟩]
def f84_25:AC:=.draw [0,6,8] [6,8] [8] f84_25h f84_25l
theorem f84_25e:aC P id m f84_25 sf st Q = br P id sf.locs st f84_25h (cX P id m [8] [0,6,8] [6,8] f84_25l Q st) [] ⟨sf.regs,bE [8] sf.locs⟩:=rfl
def f84_27l:List GI:=[vd 44 6 2,
    vl 45 44,
    vd 46 8 2,
    ⟨none,.store 1 (.r 46) (.r 45)⟩]
def f84_27:AC:=.ops [0,6,8] [6,8] f84_27l
theorem f84_27e:OP f84_27 f84_27l [0,6,8] [6,8]:=rfl
def f84_28h:List GI:=[vv 47 0,
    vn 48 47,
    vd 49 48 3,
    vl 50 49,
    vd 51 6 1,
    vl 52 51,
    ⟨none,.load (some 53) (.r 8) (some 3)⟩]
def f84_28l:List GI:=[⟨none,.upd (.int .u64) (.r 50) (.r 52) (.r 53)⟩]
def f84_28:AC:=.draw [0,6] [6] [] f84_28h f84_28l
theorem f84_28e:aC P id m f84_28 sf st Q = br P id sf.locs st f84_28h (cX P id m [] [0,6] [6] f84_28l Q st) [] ⟨sf.regs,bE [] sf.locs⟩:=rfl
def f84_26:AC:=.seq f84_27 f84_28
theorem f84_26e:SQ f84_26 f84_27 f84_28:=rfl
def f84_24:AC:=.seq f84_25 f84_26
theorem f84_24e:SQ f84_24 f84_25 f84_26:=rfl
def f84_22:AC:=.cond (.r 30) f84_23 f84_24
theorem f84_22e:CN f84_22 30 f84_23 f84_24:=rfl
def f84_20:AC:=.seq f84_21 f84_22
theorem f84_20e:SQ f84_20 f84_21 f84_22:=rfl
def f84_31l:List GI:=[vd 54 6 2,
    vl 55 54,
    ⟨none,.bin (some 56) .num .eql (.r 55) (.c (.lit (.int .u64 0)))⟩]
def f84_31:AC:=.ops [0,6,56] [6] f84_31l
theorem f84_31e:OP f84_31 f84_31l [0,6,56] [6]:=rfl
def f84_33l:List GI:=[vv 57 0,
    vd 58 6 1,
    vl 59 58,
    vn 60 57,
    vd 61 60 0,
    vd 62 61 1,
    ⟨none,.store 1 (.r 62) (.r 59)⟩]
def f84_33:AC:=.ops [6] [6] f84_33l
theorem f84_33e:OP f84_33 f84_33l [6] [6]:=rfl
def f84_35h:List GI:=[vv 63 0,
    vn 64 63,
    vd 65 64 3,
    vl 66 65,
    vd 67 6 2,
    vl 68 67,
    ⟨none,.lookup (some 69) (.int .u64) (.agg [(.lit (.int .i64 0)),(.lit (.int .u64 0)),(.lit (.int .u64 0))]) false (.r 66) (.r 68)⟩,
    ⟨none,.newL 9 [(.lit (.int .i64 0)),(.lit (.int .u64 0)),(.lit (.int .u64 0))]⟩]
def f84_35l:List GI:=[⟨none,.store 3 (.r 9) (.r 69)⟩]
def f84_35:AC:=.draw [0,6,9] [6,9] [9] f84_35h f84_35l
theorem f84_35e:aC P id m f84_35 sf st Q = br P id sf.locs st f84_35h (cX P id m [9] [0,6,9] [6,9] f84_35l Q st) [] ⟨sf.regs,bE [9] sf.locs⟩:=rfl
def f84_37l:List GI:=[vd 70 6 1,
    vl 71 70,
    vd 72 9 1,
    ⟨none,.store 1 (.r 72) (.r 71)⟩]
def f84_37:AC:=.ops [0,6,9] [6,9] f84_37l
theorem f84_37e:OP f84_37 f84_37l [0,6,9] [6,9]:=rfl
def f84_38h:List GI:=[vv 73 0,
    vn 74 73,
    vd 75 74 3,
    vl 76 75,
    vd 77 6 2,
    vl 78 77,
    ⟨none,.load (some 79) (.r 9) (some 3)⟩]
def f84_38l:List GI:=[⟨none,.upd (.int .u64) (.r 76) (.r 78) (.r 79)⟩]
def f84_38:AC:=.draw [6] [6] [] f84_38h f84_38l
theorem f84_38e:aC P id m f84_38 sf st Q = br P id sf.locs st f84_38h (cX P id m [] [6] [6] f84_38l Q st) [] ⟨sf.regs,bE [] sf.locs⟩:=rfl
def f84_36:AC:=.seq f84_37 f84_38
theorem f84_36e:SQ f84_36 f84_37 f84_38:=rfl
def f84_34:AC:=.seq f84_35 f84_36
theorem f84_34e:SQ f84_34 f84_35 f84_36:=rfl
def f84_32:AC:=.cond (.r 56) f84_33 f84_34
theorem f84_32e:CN f84_32 56 f84_33 f84_34:=rfl
def f84_30:AC:=.seq f84_31 f84_32
theorem f84_30e:SQ f84_30 f84_31 f84_32:=rfl
def f84_40l:List GI:=[vd 80 6 0,
    vl 81 80,
    vo 4 81,
    ⟨none,.mv (some 5) (.c (.lit (.int .i64 0)))⟩]
def f84_40:AC:=.ops [4,5] [] f84_40l
theorem f84_40e:OP f84_40 f84_40l [4,5] []:=rfl
def f84_39:AC:=.seq f84_40 .ret
theorem f84_39e:SQ f84_39 f84_40 .ret:=rfl
def f84_29:AC:=.seq f84_30 f84_39
theorem f84_29e:SQ f84_29 f84_30 f84_39:=rfl
def f84_19:AC:=.seq f84_20 f84_29
theorem f84_19e:SQ f84_19 f84_20 f84_29:=rfl
def f84_17:AC:=.seq f84_18 f84_19
theorem f84_17e:SQ f84_17 f84_18 f84_19:=rfl
def f84_11:AC:=.seq f84_12 f84_17
theorem f84_11e:SQ f84_11 f84_12 f84_17:=rfl
def f84_9:AC:=.seq f84_10 f84_11
theorem f84_9e:SQ f84_9 f84_10 f84_11:=rfl
def f84_3:AC:=.seq f84_4 f84_9
theorem f84_3e:SQ f84_3 f84_4 f84_9:=rfl
def f84_1:AC:=.seq f84_2 f84_3
theorem f84_1e:SQ f84_1 f84_2 f84_3:=rfl
def c_f84:AFun:=⟨82,[.tmp 4,.tmp 5],f84_1⟩
theorem k_f84:a7 Go.Proofs.Try.prog x_f84 84 = some c_f84:=by kernel_rfl
theorem e_f84:aJ Go.Proofs.Try.prog 84 = true:=by kernel_rfl

def n_f85:Nat:=85
def x_f85:Cx:=⟨some,id,9,fun s=>([0,2,3,5,6,7,8]:List Nat).contains s,fun s=>([]:List Nat).contains s,msOf [(2,[0],[]),(12,[0,4],[]),(52,[2],[]),(14,[2],[])]⟩
def f85_2l:List GI:=[⟨none,.mv (some 2) (.c (.lit (.map none)))⟩]
def f85_2:AC:=.ops [0] [] f85_2l
theorem f85_2e:OP f85_2 f85_2l [0] []:=rfl
def f85_5l:List GI:=[vv 3 0,
    ⟨none,.bin (some 4) (.nil .mp) .eql (.r 3) (.c (.lit (.map none)))⟩]
def f85_5:AC:=.ops [0,4] [] f85_5l
theorem f85_5e:OP f85_5 f85_5l [0,4] []:=rfl
def f85_8l:List GI:=[⟨none,.mv (some 2) (.c (.lit (.map none)))⟩]
def f85_8:AC:=.ops [2] [] f85_8l
theorem f85_8e:OP f85_8 f85_8l [2] []:=rfl
def f85_7:AC:=.seq f85_8 .ret
theorem f85_7e:SQ f85_7 f85_8 .ret:=rfl
def f85_6:AC:=.cond (.r 4) f85_7 .skip
theorem f85_6e:CN f85_6 4 f85_7 .skip:=rfl
def f85_4:AC:=.seq f85_5 f85_6
theorem f85_4e:SQ f85_4 f85_5 f85_6:=rfl
def f85_10l:List GI:=[vv 5 0,
    ⟨none,.mkif (some 6) 105 (.r 5)⟩,
    ⟨none,.x (some 7) (.mclone (.r 6))⟩,
    ⟨none,.tas (some 8) 105 (.r 7)⟩,
    vo 2 8]
def f85_10:AC:=.ops [2] [] f85_10l
theorem f85_10e:OP f85_10 f85_10l [2] []:=rfl
def f85_9:AC:=.seq f85_10 .ret
theorem f85_9e:SQ f85_9 f85_10 .ret:=rfl
def f85_3:AC:=.seq f85_4 f85_9
theorem f85_3e:SQ f85_3 f85_4 f85_9:=rfl
def f85_1:AC:=.seq f85_2 f85_3
theorem f85_1e:SQ f85_1 f85_2 f85_3:=rfl
def c_f85:AFun:=⟨9,[.tmp 2],f85_1⟩
theorem k_f85:a7 Go.Proofs.Try.prog x_f85 85 = some c_f85:=by kernel_rfl
theorem e_f85:aJ Go.Proofs.Try.prog 85 = true:=by kernel_rfl

def n_f86:Nat:=86
def x_f86:Cx:=⟨some,id,22,fun s=>([0,2,3,4,5,6,7,8,9,10,11,12,13,14,16,17,19,20,21]:List Nat).contains s,fun s=>([]:List Nat).contains s,msOf [(2,[0],[]),(6,[0,5,6,7],[]),(28,[0,5,6,7,15],[]),(58,[5,6,7],[]),(30,[2,3,4],[])]⟩
def f86_2l:List GI:=[⟨none,.mv (some 2) (.c (.lit (.int .i64 0)))⟩,
    ⟨none,.mv (some 3) (.c (.lit (.int .u64 0)))⟩,
    ⟨none,.mv (some 4) (.c (.lit (.int .i64 0)))⟩]
def f86_2:AC:=.ops [0] [] f86_2l
theorem f86_2e:OP f86_2 f86_2l [0] []:=rfl
def f86_4l:List GI:=[vv 9 0,
    ⟨none,.call (some 10) false (.f 88) [(.r 9)]⟩,
    vv 8 10,
    ve 11 8 0,
    ve 12 8 1,
    ve 13 8 2,
    vo 5 11,
    vo 6 12,
    vo 7 13]
def f86_4:AC:=.ops [0,5,6,7] [] f86_4l
theorem f86_4e:OP f86_4 f86_4l [0,5,6,7] []:=rfl
def f86_7l:List GI:=[vv 14 7,
    vb 15 .eql 14 0]
def f86_7:AC:=.ops [0,5,6,7,15] [] f86_7l
theorem f86_7e:OP f86_7 f86_7l [0,5,6,7,15] []:=rfl
def f86_9l:List GI:=[vv 16 0,
    vv 17 6,
    ⟨none,.call (some 18) false (.f 84) [(.r 16),(.r 17)]⟩]
def f86_9:AC:=.ops [5,6,7] [] f86_9l
theorem f86_9e:OP f86_9 f86_9l [5,6,7] []:=rfl
def f86_8:AC:=.cond (.r 15) f86_9 .skip
theorem f86_8e:CN f86_8 15 f86_9 .skip:=rfl
def f86_6:AC:=.seq f86_7 f86_8
theorem f86_6e:SQ f86_6 f86_7 f86_8:=rfl
def f86_11l:List GI:=[vv 19 5,
    vv 20 6,
    vv 21 7,
    vo 2 19,
    vo 3 20,
    vo 4 21]
def f86_11:AC:=.ops [2,3,4] [] f86_11l
theorem f86_11e:OP f86_11 f86_11l [2,3,4] []:=rfl
def f86_10:AC:=.seq f86_11 .ret
theorem f86_10e:SQ f86_10 f86_11 .ret:=rfl
def f86_5:AC:=.seq f86_6 f86_10
theorem f86_5e:SQ f86_5 f86_6 f86_10:=rfl
def f86_3:AC:=.seq f86_4 f86_5
theorem f86_3e:SQ f86_3 f86_4 f86_5:=rfl
def f86_1:AC:=.seq f86_2 f86_3
theorem f86_1e:SQ f86_1 f86_2 f86_3:=rfl
def c_f86:AFun:=⟨22,[.tmp 2,.tmp 3,.tmp 4],f86_1⟩
theorem k_f86:a7 Go.Proofs.Try.prog x_f86 86 = some c_f86:=by kernel_rfl
theorem e_f86:aJ Go.Proofs.Try.prog 86 = true:=by kernel_rfl

def n_f88:Nat:=88
def x_f88:Cx:=⟨some,id,31,fun s=>([0,2,3,4,6,7,13,14,18,23,24,25,30]:List Nat).contains s,fun s=>([]:List Nat).contains s,msOf [(2,[0],[]),(24,[0,5],[]),(100,[2,3,4],[]),(102,[0,8],[]),(412,[2,3,4],[]),(14,[2,3,4],[])]⟩
def f88_2l:List GI:=[⟨none,.mv (some 2) (.c (.lit (.int .i64 0)))⟩,
    ⟨none,.mv (some 3) (.c (.lit (.int .u64 0)))⟩,
    ⟨none,.mv (some 4) (.c (.lit (.int .i64 0)))⟩]
def f88_2:AC:=.ops [0] [] f88_2l
theorem f88_2e:OP f88_2 f88_2l [0] []:=rfl
def f88_6l:List GI:=[vv 6 0,
    ⟨none,.call (some 7) false (.f 79) [(.r 6)]⟩,
    vo 5 7]
def f88_6:AC:=.ops [0,5] [] f88_6l
theorem f88_6e:OP f88_6 f88_6l [0,5] []:=rfl
def f88_9l:List GI:=[⟨none,.mv (some 2) (.c (.lit (.int .i64 0)))⟩,
    ⟨none,.mv (some 3) (.c (.lit (.int .u64 0)))⟩,
    ⟨none,.mv (some 4) (.c (.lit (.int .i64 1)))⟩]
def f88_9:AC:=.ops [2,3,4] [] f88_9l
theorem f88_9e:OP f88_9 f88_9l [2,3,4] []:=rfl
def f88_8:AC:=.seq f88_9 .ret
theorem f88_8e:SQ f88_8 f88_9 .ret:=rfl
def f88_11l:List GI:=[vv 9 0,
    vn 10 9,
    vd 11 10 0,
    vd 12 11 0,
    vl 13 12,
    ⟨none,.bin (some 14) .num .eql (.r 13) (.c (.lit (.int .u64 0)))⟩,
    vo 8 14]
def f88_11:AC:=.ops [0,8] [] f88_11l
theorem f88_11e:OP f88_11 f88_11l [0,8] []:=rfl
def f88_14l:List GI:=[⟨none,.mv (some 2) (.c (.lit (.int .i64 0)))⟩,
    ⟨none,.mv (some 3) (.c (.lit (.int .u64 0)))⟩,
    ⟨none,.mv (some 4) (.c (.lit (.int .i64 9)))⟩]
def f88_14:AC:=.ops [2,3,4] [] f88_14l
theorem f88_14e:OP f88_14 f88_14l [2,3,4] []:=rfl
def f88_13:AC:=.seq f88_14 .ret
theorem f88_13e:SQ f88_13 f88_14 .ret:=rfl
def f88_12:AC:=.cond (.r 8) f88_13 .skip
theorem f88_12e:CN f88_12 8 f88_13 .skip:=rfl
def f88_10:AC:=.seq f88_11 f88_12
theorem f88_10e:SQ f88_10 f88_11 f88_12:=rfl
def f88_7:AC:=.cond (.r 5) f88_8 f88_10
theorem f88_7e:CN f88_7 5 f88_8 f88_10:=rfl
def f88_5:AC:=.seq f88_6 f88_7
theorem f88_5e:SQ f88_5 f88_6 f88_7:=rfl
def f88_4:AC:=.block 0 f88_5
theorem f88_4e:BL f88_4 f88_5 0:=rfl
def f88_16h:List GI:=[vv 15 0,
    vn 16 15,
    vd 17 16 3,
    vl 18 17,
    vv 19 0,
    vn 20 19,
    vd 21 20 0,
    vd 22 21 0,
    vl 23 22,
    ⟨none,.lookup (some 24) (.int .u64) (.agg [(.lit (.int .i64 0)),(.lit (.int .u64 0)),(.lit (.int .u64 0))]) false (.r 18) (.r 23)⟩,
    ⟨none,.field (some 25) (.r 24) 0 none⟩,
    vv 26 0,
    vn 27 26,
    vd 28 27 0,
    vd 29 28 0,
    vl 30 29,
    vv 2 25]
def f88_16l:List GI:=[vo 3 30,
    ⟨none,.mv (some 4) (.c (.lit (.int .i64 0)))⟩]
def f88_16:AC:=.draw [2,3,4] [] [] f88_16h f88_16l
theorem f88_16e:aC P id m f88_16 sf st Q = br P id sf.locs st f88_16h (cX P id m [] [2,3,4] [] f88_16l Q st) [] ⟨sf.regs,bE [] sf.locs⟩:=rfl
def f88_15:AC:=.seq f88_16 .ret
theorem f88_15e:SQ f88_15 f88_16 .ret:=rfl
def f88_3:AC:=.seq f88_4 f88_15
theorem f88_3e:SQ f88_3 f88_4 f88_15:=rfl
def f88_1:AC:=.seq f88_2 f88_3
theorem f88_1e:SQ f88_1 f88_2 f88_3:=rfl
def c_f88:AFun:=⟨31,[.tmp 2,.tmp 3,.tmp 4],f88_1⟩
theorem k_f88:a7 Go.Proofs.Try.prog x_f88 88 = some c_f88:=by kernel_rfl
theorem e_f88:aJ Go.Proofs.Try.prog 88 = true:=by kernel_rfl

def tab (q:Nat):Option AFun :=
  if q = 4 then some c_f4 else
  if q = 9 then some c_f9 else
  if q = 10 then some c_f10 else
  if q = 11 then some c_f11 else
  if q = 12 then some c_f12 else
  if q = 13 then some c_f13 else
  if q = 14 then some c_f14 else
  if q = 15 then some c_f15 else
  if q = 16 then some c_f16 else
  if q = 18 then some c_f18 else
  if q = 21 then some c_f21 else
  if q = 22 then some c_f22 else
  if q = 23 then some c_f23 else
  if q = 24 then some c_f24 else
  if q = 25 then some c_f25 else
  if q = 26 then some c_f26 else
  if q = 27 then some c_f27 else
  if q = 28 then some c_f28 else
  if q = 30 then some c_f30 else
  if q = 31 then some c_f31 else
  if q = 35 then some c_f35 else
  if q = 37 then some c_f37 else
  if q = 38 then some c_f38 else
  if q = 41 then some c_f41 else
  if q = 45 then some c_f45 else
  if q = 46 then some c_f46 else
  if q = 50 then some c_f50 else
  if q = 51 then some c_f51 else
  if q = 52 then some c_f52 else
  if q = 53 then some c_f53 else
  if q = 54 then some c_f54 else
  if q = 55 then some c_f55 else
  if q = 56 then some c_f56 else
  if q = 57 then some c_f57 else
  if q = 58 then some c_f58 else
  if q = 59 then some c_f59 else
  if q = 60 then some c_f60 else
  if q = 61 then some c_f61 else
  if q = 62 then some c_f62 else
  if q = 63 then some c_f63 else
  if q = 64 then some c_f64 else
  if q = 65 then some c_f65 else
  if q = 66 then some c_f66 else
  if q = 67 then some c_f67 else
  if q = 68 then some c_f68 else
  if q = 69 then some c_f69 else
  if q = 70 then some c_f70 else
  if q = 71 then some c_f71 else
  if q = 72 then some c_f72 else
  if q = 74 then some c_f74 else
  if q = 75 then some c_f75 else
  if q = 76 then some c_f76 else
  if q = 77 then some c_f77 else
  if q = 78 then some c_f78 else
  if q = 79 then some c_f79 else
  if q = 80 then some c_f80 else
  if q = 81 then some c_f81 else
  if q = 82 then some c_f82 else
  if q = 83 then some c_f83 else
  if q = 84 then some c_f84 else
  if q = 85 then some c_f85 else
  if q = 86 then some c_f86 else
  if q = 88 then some c_f88 else
  none
theorem tabOk:TabOk Go.Proofs.Try.prog id tab :=
  ao e_f4 k_f4 rfl (
  ao e_f9 k_f9 rfl (
  ao e_f10 k_f10 rfl (
  ao e_f11 k_f11 rfl (
  ao e_f12 k_f12 rfl (
  ao e_f13 k_f13 rfl (
  ao e_f14 k_f14 rfl (
  ao e_f15 k_f15 rfl (
  ao e_f16 k_f16 rfl (
  ao e_f18 k_f18 rfl (
  ao e_f21 k_f21 rfl (
  ao e_f22 k_f22 rfl (
  ao e_f23 k_f23 rfl (
  ao e_f24 k_f24 rfl (
  ao e_f25 k_f25 rfl (
  ao e_f26 k_f26 rfl (
  ao e_f27 k_f27 rfl (
  ao e_f28 k_f28 rfl (
  ao e_f30 k_f30 rfl (
  ao e_f31 k_f31 rfl (
  ao e_f35 k_f35 rfl (
  ao e_f37 k_f37 rfl (
  ao e_f38 k_f38 rfl (
  ao e_f41 k_f41 rfl (
  ao e_f45 k_f45 rfl (
  ao e_f46 k_f46 rfl (
  ao e_f50 k_f50 rfl (
  ao e_f51 k_f51 rfl (
  ao e_f52 k_f52 rfl (
  ao e_f53 k_f53 rfl (
  ao e_f54 k_f54 rfl (
  ao e_f55 k_f55 rfl (
  ao e_f56 k_f56 rfl (
  ao e_f57 k_f57 rfl (
  ao e_f58 k_f58 rfl (
  ao e_f59 k_f59 rfl (
  ao e_f60 k_f60 rfl (
  ao e_f61 k_f61 rfl (
  ao e_f62 k_f62 rfl (
  ao e_f63 k_f63 rfl (
  ao e_f64 k_f64 rfl (
  ao e_f65 k_f65 rfl (
  ao e_f66 k_f66 rfl (
  ao e_f67 k_f67 rfl (
  ao e_f68 k_f68 rfl (
  ao e_f69 k_f69 rfl (
  ao e_f70 k_f70 rfl (
  ao e_f71 k_f71 rfl (
  ao e_f72 k_f72 rfl (
  ao e_f74 k_f74 rfl (
  ao e_f75 k_f75 rfl (
  ao e_f76 k_f76 rfl (
  ao e_f77 k_f77 rfl (
  ao e_f78 k_f78 rfl (
  ao e_f79 k_f79 rfl (
  ao e_f80 k_f80 rfl (
  ao e_f81 k_f81 rfl (
  ao e_f82 k_f82 rfl (
  ao e_f83 k_f83 rfl (
  ao e_f84 k_f84 rfl (
  ao e_f85 k_f85 rfl (
  ao e_f86 k_f86 rfl (
  ao e_f88 k_f88 rfl (
  tabOk_nil)))))))))))))))))))))))))))))))))))))))))))))))))))))))))))))))
theorem hmix:Go.Proofs.Try.prog.follows .mixedOrders = true:=by kernel_rfl
end
end Go.Fx.YtphaaebhgggbaaaFx

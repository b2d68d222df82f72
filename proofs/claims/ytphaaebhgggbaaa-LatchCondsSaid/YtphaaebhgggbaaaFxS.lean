/- The functions that the statement reaches, resolved: printed by a program of ours from the translated code; each is checked here. -/
import Derived.Test.YtphaaebhgggbaaaProg
import Derived.Test.YtphaaebhgggbaaaFxF
set_option maxRecDepth 100000
set_option maxHeartbeats 0
namespace Go.Fx.YtphaaebhgggbaaaFx
open Go Go.Fx
abbrev SQ (a b c:AC):Prop:=∀ {P:Program} {m:Bool} {sf:Sf} {st:St} {Q:Exit→Sf→St→Prop},aC P id m a sf st Q = aC P id m b sf st (seqQ (aC P id m c) Q)
abbrev CN (a:AC) (r:Nat) (b c:AC):Prop:=∀ {P:Program} {m:Bool} {sf:Sf} {st:St} {Q:Exit→Sf→St→Prop},aC P id m a sf st Q = ji (.r r) (sf.ev id (.r r)) (aC P id m b) (aC P id m c) sf st Q
abbrev OP (a:AC) (l:List GI) (x y:List Nat):Prop:=∀ {P:Program} {m:Bool} {sf:Sf} {st:St} {Q:Exit→Sf→St→Prop},aC P id m a sf st Q = runI P id m l (opsK x y Q) sf st
abbrev BL (a b:AC) (k:Nat):Prop:=∀ {P:Program} {m:Bool} {sf:Sf} {st:St} {Q:Exit→Sf→St→Prop},aC P id m a sf st Q = aC P id m b sf st (iD k Q)
abbrev KF:Lean.Meta.Simp.Config:={ implicitDefEqProofs:=false,maxSteps:=10000000 }
theorem bZ:type_of% (And.intro @lj (And.intro @seqQ_ret (And.intro @opsK_eq (And.intro @runI_nil (And.intro @nO (And.intro @putP_eq (And.intro @mask_eq (And.intro @nR (And.intro @mJ (And.intro @wp_ok (And.intro @bind_ok (And.intro @mG (And.intro @ev_r (And.intro @ev_c (And.intro @o_mv (And.intro @o_bin (And.intro @oG (And.intro @dis_ptr (And.intro @setB_r (And.intro @mK (And.intro @aC_ret (And.intro @aC_skip (And.intro @retQ_ret (And.intro @noL_lit (And.intro @oH (And.intro @oI (And.intro @List.map_cons.{0,0} (@List.map_nil.{0,0})))))))))))))))))))))))))))):=And.intro @lj (And.intro @seqQ_ret (And.intro @opsK_eq (And.intro @runI_nil (And.intro @nO (And.intro @putP_eq (And.intro @mask_eq (And.intro @nR (And.intro @mJ (And.intro @wp_ok (And.intro @bind_ok (And.intro @mG (And.intro @ev_r (And.intro @ev_c (And.intro @o_mv (And.intro @o_bin (And.intro @oG (And.intro @dis_ptr (And.intro @setB_r (And.intro @mK (And.intro @aC_ret (And.intro @aC_skip (And.intro @retQ_ret (And.intro @noL_lit (And.intro @oH (And.intro @oI (And.intro @List.map_cons.{0,0} (@List.map_nil.{0,0})))))))))))))))))))))))))))
abbrev vv (d x:Nat):GI:=⟨none,.mv (some d) (.r x)⟩
abbrev vo (d x:Nat):GI:=⟨none,.own d x⟩
abbrev ve (d x k:Nat):GI:=⟨none,.ext (some d) (.r x) k⟩
abbrev vn (d x:Nat):GI:=⟨none,.nilck (some d) (.r x)⟩
abbrev vd (d x k:Nat):GI:=⟨none,.addr (some d) (.r x) k⟩
abbrev vl (d x:Nat):GI:=⟨none,.load (some d) (.r x) none⟩
abbrev vb (d:Nat) (o:BinOp) (x:Nat) (n:Int):GI:=⟨none,.bin (some d) .num o (.r x) (.c (.lit (.int .i64 n)))⟩
section
variable (P:Program) (m:Bool) (sf:Sf) (st:St) (Q:Exit→Sf→St→Prop)
def n_f7:Nat:=7
def x_f7:Cx:=⟨some,id,135,fun s=>([0,2,3,5,8,9,10,11,12,13,14,16,17,18,20,21,22,23,25,26,28,30,32,33,34,36,37,39,40,41,42,44,46,48,51,52,53,55,56,57,58,60,61,62,64,65,66,67,69,70,71,72,74,76,77,78,79,80,82,83,84,85,87,88,89,90,91,92,93,94,95,96,98,99,100,101,102,103,104,105,106,107,108,110,111,112,113,114,116,117,118,119,120,121,123,124,125,126,127,128,130,131,132,134]:List Nat).contains s,fun s=>([94]:List Nat).contains s,msOf [(2,[0],[]),(12,[0,15],[]),(52,[2],[]),(14,[0,3],[]),(60,[0,3,19],[]),(244,[2],[]),(62,[0,3,4],[4]),(252,[0,3,4,5],[4]),(506,[0,3,4,5],[4]),(4048,[0,3,4,5,24],[4]),(8099,[],[]),(16200,[0,3,4,5,6],[4,6]),(32402,[0,3,4,5,6,7],[4,6,7]),(129612,[0,3,4,5,6,7,38],[4,6,7]),(518452,[0,3,4,5,6,8],[4,6]),(1036906,[0,3,4,5,6,8],[4,6]),(2073814,[0,3,4,5,8],[4]),(4147630,[0,3,4,5],[4]),(8295262,[0,3,4,5,49],[4]),(33181052,[2],[]),(1036908,[0,3,4,5,6,7,51],[4,6,7]),(4147636,[0,3,4,5,6,7,51,59],[4,6,7]),(8295274,[0,3,4,5,6,7],[4,6,7]),(33181100,[0,3,4,5,6,7,51,68],[4,6,7]),(66362203,[0,3,4,5,6,7,51,68],[4,6,7]),(33181102,[0,3,4,5,6,7],[4,6,7]),(132724412,[0,3,4,5,6,7,51,81],[4,6,7]),(265448827,[0,3,4,5,6,7,81],[4,6,7]),(132724414,[0,3,4,5,6,7],[4,6,7]),(132724415,[0,3,4,5,6,7],[4,6,7]),(1036910,[0,3,4,5,97],[4]),(4147644,[2],[]),(129614,[0,3,4,5,9,10],[4]),(259230,[0,3,4,5,9,10,11,12],[4]),(518462,[0,3,4,5,133],[4]),(2073852,[2],[]),(4051,[0,3,4,5],[4]),(254,[2],[])]⟩
def f7_2l:List GI:=[⟨none,.mv (some 2) (.c (.lit (.bool false)))⟩]
def f7_2:AC:=.ops [0] [] f7_2l
theorem f7_2e:OP f7_2 f7_2l [0] []:=rfl
def f7_5l:List GI:=[vv 13 0,
    ⟨none,.len (some 14) .sl (.r 13)⟩,
    vb 15 .gtr 14 60]
def f7_5:AC:=.ops [0,15] [] f7_5l
theorem f7_5e:OP f7_5 f7_5l [0,15] []:=rfl
def f7_8l:List GI:=[⟨none,.call (some 16) false (.f 10) []⟩,
    vo 2 16]
def f7_8:AC:=.ops [2] [] f7_8l
theorem f7_8e:OP f7_8 f7_8l [2] []:=rfl
def f7_7:AC:=.seq f7_8 .ret
theorem f7_7e:SQ f7_7 f7_8 .ret:=rfl
def f7_6:AC:=.cond (.r 15) f7_7 .skip
theorem f7_6e:CN f7_6 15 f7_7 .skip:=rfl
def f7_4:AC:=.seq f7_5 f7_6
theorem f7_4e:SQ f7_4 f7_5 f7_6:=rfl
def f7_10l:List GI:=[⟨none,.call (some 17) false (.f 12) []⟩,
    vo 3 17]
def f7_10:AC:=.ops [0,3] [] f7_10l
theorem f7_10e:OP f7_10 f7_10l [0,3] []:=rfl
def f7_13l:List GI:=[vv 18 3,
    ⟨none,.bin (some 19) (.nil .ptr) .eql (.r 18) (.c (.lit (.pointer none)))⟩]
def f7_13:AC:=.ops [0,3,19] [] f7_13l
theorem f7_13e:OP f7_13 f7_13l [0,3,19] []:=rfl
def f7_16l:List GI:=[⟨none,.mv (some 2) (.c (.lit (.bool false)))⟩]
def f7_16:AC:=.ops [2] [] f7_16l
theorem f7_16e:OP f7_16 f7_16l [2] []:=rfl
def f7_15:AC:=.seq f7_16 .ret
theorem f7_15e:SQ f7_15 f7_16 .ret:=rfl
def f7_14:AC:=.cond (.r 19) f7_15 .skip
theorem f7_14e:CN f7_14 19 f7_15 .skip:=rfl
def f7_12:AC:=.seq f7_13 f7_14
theorem f7_12e:SQ f7_12 f7_13 f7_14:=rfl
def f7_18l:List GI:=[⟨none,.bst (some 20) [(0,1),(1,1),(2,1),(3,1),(4,1),(5,1),(6,1)] (.agg [(.lit (.int .i64 0)),(.lit (.int .i64 0)),(.lit (.int .i64 0)),(.lit (.int .i64 0)),(.lit (.bool false)),(.lit (.slice none 0 0)),(.lit (.slice none 0 0))]) [(3,(.c (.lit (.int .i64 (-1)))))]⟩,
    ⟨none,.newL 4 [(.lit (.int .i64 0)),(.lit (.int .i64 0)),(.lit (.int .i64 0)),(.lit (.int .i64 0)),(.lit (.bool false)),(.lit (.slice none 0 0)),(.lit (.slice none 0 0))]⟩,
    ⟨none,.store 7 (.r 4) (.r 20)⟩]
def f7_18:AC:=.ops [0,3,4] [4] f7_18l
theorem f7_18e:OP f7_18 f7_18l [0,3,4] [4]:=rfl
def f7_21l:List GI:=[⟨none,.mv (some 5) (.c (.lit (.int .i64 0)))⟩]
def f7_21:AC:=.ops [0,3,4,5] [4] f7_21l
theorem f7_21e:OP f7_21 f7_21l [0,3,4,5] [4]:=rfl
def f7_26l:List GI:=[vv 21 5,
    vv 22 0,
    ⟨none,.len (some 23) .sl (.r 22)⟩,
    ⟨none,.bin (some 24) .num .lss (.r 21) (.r 23)⟩]
def f7_26:AC:=.ops [0,3,4,5,24] [4] f7_26l
theorem f7_26e:OP f7_26 f7_26l [0,3,4,5,24] [4]:=rfl
def f7_27:AC:=.cond (.r 24) .skip (.exit [] [] 0)
theorem f7_27e:CN f7_27 24 .skip (.exit [] [] 0):=rfl
def f7_25:AC:=.seq f7_26 f7_27
theorem f7_25e:SQ f7_25 f7_26 f7_27:=rfl
def f7_31l:List GI:=[vv 27 0,
    vv 28 5,
    ⟨none,.ixS (some 29) (.r 27) (.r 28) 4⟩,
    ⟨none,.load (some 30) (.r 29) (some 4)⟩,
    ⟨none,.newL 6 [(.lit (.int .i64 0)),(.lit (.int .i64 0)),(.lit (.int .i64 0)),(.lit (.bool false))]⟩,
    ⟨none,.store 4 (.r 6) (.r 30)⟩]
def f7_31:AC:=.ops [0,3,4,5,6] [4,6] f7_31l
theorem f7_31e:OP f7_31 f7_31l [0,3,4,5,6] [4,6]:=rfl
def f7_33l:List GI:=[⟨none,.newL 7 [(.lit (.bool false)),(.lit (.bool false)),(.lit (.slice none 0 0)),(.lit (.int .i64 0))]⟩]
def f7_33:AC:=.ops [0,3,4,5,6,7] [4,6,7] f7_33l
theorem f7_33e:OP f7_33 f7_33l [0,3,4,5,6,7] [4,6,7]:=rfl
def f7_36l:List GI:=[vd 31 6 0,
    vl 32 31,
    vb 33 .lss 32 0,
    vv 34 33,
    ⟨some (34,false),.addr (some 35) (.r 6) 0⟩,
    ⟨some (34,false),.load (some 36) (.r 35) none⟩,
    ⟨some (34,false),.bin (some 37) .num .gtr (.r 36) (.c (.lit (.int .i64 5)))⟩,
    ⟨none,.pick (some 38) (.r 34) (.c (.lit (.bool true))) (.r 37)⟩]
def f7_36:AC:=.ops [0,3,4,5,6,7,38] [4,6,7] f7_36l
theorem f7_36e:OP f7_36 f7_36l [0,3,4,5,6,7,38] [4,6,7]:=rfl
def f7_39l:List GI:=[vv 39 3,
    vo 8 39]
def f7_39:AC:=.ops [0,3,4,5,6,8] [4,6] f7_39l
theorem f7_39e:OP f7_39 f7_39l [0,3,4,5,6,8] [4,6]:=rfl
def f7_41l:List GI:=[vv 40 3,
    ⟨none,.call (some 41) false (.f 44) [(.r 40)]⟩,
    vo 3 41]
def f7_41:AC:=.ops [0,3,4,5,6,8] [4,6] f7_41l
theorem f7_41e:OP f7_41 f7_41l [0,3,4,5,6,8] [4,6]:=rfl
def f7_43l:List GI:=[vv 42 8,
    vd 43 6 1,
    vl 44 43,
    ⟨none,.call (some 45) false (.f 45) [(.r 42),(.r 44)]⟩]
def f7_43:AC:=.ops [0,3,4,5,8] [4] f7_43l
theorem f7_43e:OP f7_43 f7_43l [0,3,4,5,8] [4]:=rfl
def f7_45l:List GI:=[vv 46 8,
    ⟨none,.call (some 47) false (.f 46) [(.r 46)]⟩]
def f7_45:AC:=.ops [0,3,4,5] [4] f7_45l
theorem f7_45e:OP f7_45 f7_45l [0,3,4,5] [4]:=rfl
def f7_47l:List GI:=[vv 48 3,
    ⟨none,.bin (some 49) (.nil .ptr) .eql (.r 48) (.c (.lit (.pointer none)))⟩]
def f7_47:AC:=.ops [0,3,4,5,49] [4] f7_47l
theorem f7_47e:OP f7_47 f7_47l [0,3,4,5,49] [4]:=rfl
def f7_50l:List GI:=[⟨none,.mv (some 2) (.c (.lit (.bool false)))⟩]
def f7_50:AC:=.ops [2] [] f7_50l
theorem f7_50e:OP f7_50 f7_50l [2] []:=rfl
def f7_49:AC:=.seq f7_50 .ret
theorem f7_49e:SQ f7_49 f7_50 .ret:=rfl
def f7_48:AC:=.cond (.r 49) f7_49 .skip
theorem f7_48e:CN f7_48 49 f7_49 .skip:=rfl
def f7_46:AC:=.seq f7_47 f7_48
theorem f7_46e:SQ f7_46 f7_47 f7_48:=rfl
def f7_44:AC:=.seq f7_45 f7_46
theorem f7_44e:SQ f7_44 f7_45 f7_46:=rfl
def f7_42:AC:=.seq f7_43 f7_44
theorem f7_42e:SQ f7_42 f7_43 f7_44:=rfl
def f7_40:AC:=.seq f7_41 f7_42
theorem f7_40e:SQ f7_40 f7_41 f7_42:=rfl
def f7_38:AC:=.seq f7_39 f7_40
theorem f7_38e:SQ f7_38 f7_39 f7_40:=rfl
def f7_53l:List GI:=[vd 50 6 0,
    vl 51 50]
def f7_53:AC:=.ops [0,3,4,5,6,7,51] [4,6,7] f7_53l
theorem f7_53e:OP f7_53 f7_53l [0,3,4,5,6,7,51] [4,6,7]:=rfl
def f7_56l:List GI:=[vb 60 .eql 51 0,
    vo 59 60]
def f7_56:AC:=.ops [0,3,4,5,6,7,51,59] [4,6,7] f7_56l
theorem f7_56e:OP f7_56 f7_56l [0,3,4,5,6,7,51,59] [4,6,7]:=rfl
def f7_58l:List GI:=[⟨none,.load (some 62) (.r 4) (some 7)⟩,
    vd 63 6 1,
    vl 64 63,
    ⟨none,.call (some 65) false (.f 47) [(.r 62),(.r 64)]⟩,
    vv 61 65,
    ve 66 61 0,
    ve 67 61 1,
    ⟨none,.store 7 (.r 4) (.r 66)⟩,
    ⟨none,.store 4 (.r 7) (.r 67)⟩]
def f7_58:AC:=.ops [0,3,4,5,6,7] [4,6,7] f7_58l
theorem f7_58e:OP f7_58 f7_58l [0,3,4,5,6,7] [4,6,7]:=rfl
def f7_61l:List GI:=[vb 69 .eql 51 1,
    vo 68 69]
def f7_61:AC:=.ops [0,3,4,5,6,7,51,68] [4,6,7] f7_61l
theorem f7_61e:OP f7_61 f7_61l [0,3,4,5,6,7,51,68] [4,6,7]:=rfl
def f7_63l:List GI:=[vb 70 .eql 51 2,
    vo 68 70]
def f7_63:AC:=.ops [0,3,4,5,6,7,51,68] [4,6,7] f7_63l
theorem f7_63e:OP f7_63 f7_63l [0,3,4,5,6,7,51,68] [4,6,7]:=rfl
def f7_62:AC:=.cond (.r 68) .skip f7_63
theorem f7_62e:CN f7_62 68 .skip f7_63:=rfl
def f7_60:AC:=.seq f7_61 f7_62
theorem f7_60e:SQ f7_60 f7_61 f7_62:=rfl
def f7_65l:List GI:=[⟨none,.load (some 72) (.r 4) (some 7)⟩,
    vd 73 6 1,
    vl 74 73,
    vd 75 6 0,
    vl 76 75,
    vb 77 .eql 76 2,
    ⟨none,.call (some 78) false (.f 48) [(.r 72),(.r 74),(.r 77)]⟩,
    vv 71 78,
    ve 79 71 0,
    ve 80 71 1,
    ⟨none,.store 7 (.r 4) (.r 79)⟩,
    ⟨none,.store 4 (.r 7) (.r 80)⟩]
def f7_65:AC:=.ops [0,3,4,5,6,7] [4,6,7] f7_65l
theorem f7_65e:OP f7_65 f7_65l [0,3,4,5,6,7] [4,6,7]:=rfl
def f7_68l:List GI:=[vb 82 .eql 51 3,
    vo 81 82]
def f7_68:AC:=.ops [0,3,4,5,6,7,51,81] [4,6,7] f7_68l
theorem f7_68e:OP f7_68 f7_68l [0,3,4,5,6,7,51,81] [4,6,7]:=rfl
def f7_70l:List GI:=[vb 83 .eql 51 4,
    vo 81 83]
def f7_70:AC:=.ops [0,3,4,5,6,7,81] [4,6,7] f7_70l
theorem f7_70e:OP f7_70 f7_70l [0,3,4,5,6,7,81] [4,6,7]:=rfl
def f7_69:AC:=.cond (.r 81) .skip f7_70
theorem f7_69e:CN f7_69 81 .skip f7_70:=rfl
def f7_67:AC:=.seq f7_68 f7_69
theorem f7_67e:SQ f7_67 f7_68 f7_69:=rfl
def f7_72l:List GI:=[⟨none,.load (some 85) (.r 4) (some 7)⟩,
    vd 86 6 0,
    vl 87 86,
    vb 88 .eql 87 4,
    ⟨none,.call (some 89) false (.f 49) [(.r 85),(.r 88)]⟩,
    vv 84 89,
    ve 90 84 0,
    ve 91 84 1,
    ⟨none,.store 7 (.r 4) (.r 90)⟩,
    ⟨none,.store 4 (.r 7) (.r 91)⟩]
def f7_72:AC:=.ops [0,3,4,5,6,7] [4,6,7] f7_72l
theorem f7_72e:OP f7_72 f7_72l [0,3,4,5,6,7] [4,6,7]:=rfl
def f7_73l:List GI:=[⟨none,.load (some 53) (.r 4) (some 7)⟩,
    vd 54 6 1,
    vl 55 54,
    ⟨none,.call (some 56) false (.f 27) [(.r 53),(.r 55)]⟩,
    vv 52 56,
    ve 57 52 0,
    ve 58 52 1,
    ⟨none,.store 7 (.r 4) (.r 57)⟩,
    ⟨none,.store 4 (.r 7) (.r 58)⟩]
def f7_73:AC:=.ops [0,3,4,5,6,7] [4,6,7] f7_73l
theorem f7_73e:OP f7_73 f7_73l [0,3,4,5,6,7] [4,6,7]:=rfl
def f7_71:AC:=.cond (.r 81) f7_72 f7_73
theorem f7_71e:CN f7_71 81 f7_72 f7_73:=rfl
def f7_66:AC:=.seq f7_67 f7_71
theorem f7_66e:SQ f7_66 f7_67 f7_71:=rfl
def f7_64:AC:=.cond (.r 68) f7_65 f7_66
theorem f7_64e:CN f7_64 68 f7_65 f7_66:=rfl
def f7_59:AC:=.seq f7_60 f7_64
theorem f7_59e:SQ f7_59 f7_60 f7_64:=rfl
def f7_57:AC:=.cond (.r 59) f7_58 f7_59
theorem f7_57e:CN f7_57 59 f7_58 f7_59:=rfl
def f7_55:AC:=.seq f7_56 f7_57
theorem f7_55e:SQ f7_55 f7_56 f7_57:=rfl
def f7_54:AC:=.block 2 f7_55
theorem f7_54e:BL f7_54 f7_55 2:=rfl
def f7_52:AC:=.seq f7_53 f7_54
theorem f7_52e:SQ f7_52 f7_53 f7_54:=rfl
def f7_75h:List GI:=[vv 92 3,
    ⟨none,.load (some 93) (.r 6) (some 4)⟩]
def f7_75p:List (Bool×GI):=[(false,⟨none,.load (some 95) (.r 7) (some 4)⟩)]
def f7_75l:List GI:=[⟨none,.call (some 96) false (.f 28) [(.r 94),(.r 95)]⟩,
    ⟨none,.un (some 97) .not (.r 96)⟩]
def f7_75:AC:=.drawM [0,3,4,5,97] [4] f7_75h (some 94) (.f 18) [(.r 92),(.r 93)] f7_75p f7_75l
theorem f7_75e:aC P id m f7_75 sf st Q = (m = false∧drawM P id f7_75h (some 94) (.f 18) [(.r 92),(.r 93)] f7_75p sf st (im P id m [0,3,4,5,97] [4] f7_75l Q)):=rfl
def f7_78l:List GI:=[⟨none,.mv (some 2) (.c (.lit (.bool false)))⟩]
def f7_78:AC:=.ops [2] [] f7_78l
theorem f7_78e:OP f7_78 f7_78l [2] []:=rfl
def f7_77:AC:=.seq f7_78 .ret
theorem f7_77e:SQ f7_77 f7_78 .ret:=rfl
def f7_76:AC:=.cond (.r 97) f7_77 .skip
theorem f7_76e:CN f7_76 97 f7_77 .skip:=rfl
def f7_74:AC:=.seq f7_75 f7_76
theorem f7_74e:SQ f7_74 f7_75 f7_76:=rfl
def f7_51:AC:=.seq f7_52 f7_74
theorem f7_51e:SQ f7_51 f7_52 f7_74:=rfl
def f7_37:AC:=.cond (.r 38) f7_38 f7_51
theorem f7_37e:CN f7_37 38 f7_38 f7_51:=rfl
def f7_35:AC:=.seq f7_36 f7_37
theorem f7_35e:SQ f7_35 f7_36 f7_37:=rfl
def f7_80l:List GI:=[vv 99 3,
    ⟨none,.call (some 100) false (.f 19) [(.r 99)]⟩,
    vv 98 100,
    ve 101 98 0,
    ve 102 98 1,
    vo 9 101,
    vo 10 102]
def f7_80:AC:=.ops [0,3,4,5,9,10] [4] f7_80l
theorem f7_80e:OP f7_80 f7_80l [0,3,4,5,9,10] [4]:=rfl
def f7_82l:List GI:=[vv 104 3,
    ⟨none,.call (some 105) false (.f 20) [(.r 104)]⟩,
    vv 103 105,
    ve 106 103 0,
    ve 107 103 1,
    vo 11 106,
    vo 12 107]
def f7_82:AC:=.ops [0,3,4,5,9,10,11,12] [4] f7_82l
theorem f7_82e:OP f7_82 f7_82l [0,3,4,5,9,10,11,12] [4]:=rfl
def f7_84l:List GI:=[vv 108 10,
    vd 109 4 3,
    vl 110 109,
    vb 111 .geq 110 0,
    ⟨none,.bin (some 112) .bool .neq (.r 108) (.r 111)⟩,
    vv 113 112,
    ⟨some (113,false),.mv (some 114) (.r 9)⟩,
    ⟨some (113,false),.addr (some 115) (.r 4) 3⟩,
    ⟨some (113,false),.load (some 116) (.r 115) none⟩,
    ⟨some (113,false),.mn (some 117) false (.c (.lit (.int .i64 0))) (.r 116)⟩,
    ⟨some (113,false),.bin (some 118) .num .neq (.r 114) (.r 117)⟩,
    ⟨none,.pick (some 119) (.r 113) (.c (.lit (.bool true))) (.r 118)⟩,
    vv 120 119,
    ⟨some (120,false),.mv (some 121) (.r 11)⟩,
    ⟨some (120,false),.addr (some 122) (.r 4) 5⟩,
    ⟨some (120,false),.load (some 123) (.r 122) none⟩,
    ⟨some (120,false),.len (some 124) .sl (.r 123)⟩,
    ⟨some (120,false),.bin (some 125) .num .neq (.r 121) (.r 124)⟩,
    ⟨none,.pick (some 126) (.r 120) (.c (.lit (.bool true))) (.r 125)⟩,
    vv 127 126,
    ⟨some (127,false),.mv (some 128) (.r 12)⟩,
    ⟨some (127,false),.addr (some 129) (.r 4) 6⟩,
    ⟨some (127,false),.load (some 130) (.r 129) none⟩,
    ⟨some (127,false),.len (some 131) .sl (.r 130)⟩,
    ⟨some (127,false),.bin (some 132) .num .neq (.r 128) (.r 131)⟩,
    ⟨none,.pick (some 133) (.r 127) (.c (.lit (.bool true))) (.r 132)⟩]
def f7_84:AC:=.ops [0,3,4,5,133] [4] f7_84l
theorem f7_84e:OP f7_84 f7_84l [0,3,4,5,133] [4]:=rfl
def f7_87l:List GI:=[⟨none,.mv (some 2) (.c (.lit (.bool false)))⟩]
def f7_87:AC:=.ops [2] [] f7_87l
theorem f7_87e:OP f7_87 f7_87l [2] []:=rfl
def f7_86:AC:=.seq f7_87 .ret
theorem f7_86e:SQ f7_86 f7_87 .ret:=rfl
def f7_85:AC:=.cond (.r 133) f7_86 .skip
theorem f7_85e:CN f7_85 133 f7_86 .skip:=rfl
def f7_83:AC:=.seq f7_84 f7_85
theorem f7_83e:SQ f7_83 f7_84 f7_85:=rfl
def f7_81:AC:=.seq f7_82 f7_83
theorem f7_81e:SQ f7_81 f7_82 f7_83:=rfl
def f7_79:AC:=.seq f7_80 f7_81
theorem f7_79e:SQ f7_79 f7_80 f7_81:=rfl
def f7_34:AC:=.seq f7_35 f7_79
theorem f7_34e:SQ f7_34 f7_35 f7_79:=rfl
def f7_32:AC:=.seq f7_33 f7_34
theorem f7_32e:SQ f7_32 f7_33 f7_34:=rfl
def f7_30:AC:=.seq f7_31 f7_32
theorem f7_30e:SQ f7_30 f7_31 f7_32:=rfl
def f7_29:AC:=.block 1 f7_30
theorem f7_29e:BL f7_29 f7_30 1:=rfl
def f7_88l:List GI:=[vv 25 5,
    vb 26 .add 25 1,
    vo 5 26]
def f7_88:AC:=.ops [0,3,4,5] [4] f7_88l
theorem f7_88e:OP f7_88 f7_88l [0,3,4,5] [4]:=rfl
def f7_28:AC:=.seq f7_29 f7_88
theorem f7_28e:SQ f7_28 f7_29 f7_88:=rfl
def f7_24:AC:=.seq f7_25 f7_28
theorem f7_24e:SQ f7_24 f7_25 f7_28:=rfl
def f7_23:AC:=.loop [0,3,4,5] [4] f7_24
theorem f7_23w:aC P id m f7_23 sf st Q = cO (aC P id m f7_24) [0,3,4,5] [4] sf st Q:=rfl
def f7_22:AC:=.block 0 f7_23
theorem f7_22e:BL f7_22 f7_23 0:=rfl
def f7_20:AC:=.seq f7_21 f7_22
theorem f7_20e:SQ f7_20 f7_21 f7_22:=rfl
def f7_90l:List GI:=[⟨none,.call (some 134) false (.f 10) []⟩,
    vo 2 134]
def f7_90:AC:=.ops [2] [] f7_90l
theorem f7_90e:OP f7_90 f7_90l [2] []:=rfl
def f7_89:AC:=.seq f7_90 .ret
theorem f7_89e:SQ f7_89 f7_90 .ret:=rfl
def f7_19:AC:=.seq f7_20 f7_89
theorem f7_19e:SQ f7_19 f7_20 f7_89:=rfl
def f7_17:AC:=.seq f7_18 f7_19
theorem f7_17e:SQ f7_17 f7_18 f7_19:=rfl
def f7_11:AC:=.seq f7_12 f7_17
theorem f7_11e:SQ f7_11 f7_12 f7_17:=rfl
def f7_9:AC:=.seq f7_10 f7_11
theorem f7_9e:SQ f7_9 f7_10 f7_11:=rfl
def f7_3:AC:=.seq f7_4 f7_9
theorem f7_3e:SQ f7_3 f7_4 f7_9:=rfl
def f7_1:AC:=.seq f7_2 f7_3
theorem f7_1e:SQ f7_1 f7_2 f7_3:=rfl
def c_f7:AFun:=⟨135,[.tmp 2],f7_1⟩
theorem k_f7:bj Go.Proofs.Try.prog x_f7 7 = some c_f7:=by kernel_rfl
theorem e_f7:aQ Go.Proofs.Try.prog 7 = true:=by kernel_rfl

def n_f9:Nat:=9
def x_f9:Cx:=⟨some,id,14,fun s=>([0,2,3,4,5,6,7,8,10,11,12,13]:List Nat).contains s,fun s=>([]:List Nat).contains s,msOf [(2,[0],[]),(12,[0,9],[]),(52,[2,3],[]),(14,[2,3],[])]⟩
def f9_2l:List GI:=[⟨none,.mv (some 2) (.c (.lit (.pointer none)))⟩,
    ⟨none,.mv (some 3) (.c (.lit (.int .i64 0)))⟩]
def f9_2:AC:=.ops [0] [] f9_2l
theorem f9_2e:OP f9_2 f9_2l [0] []:=rfl
def f9_5l:List GI:=[vv 4 0,
    vb 5 .lss 4 1,
    vv 6 5,
    ⟨some (6,false),.mv (some 7) (.r 0)⟩,
    ⟨some (6,false),.bin (some 8) .num .gtr (.r 7) (.c (.lit (.int .i64 64)))⟩,
    ⟨none,.pick (some 9) (.r 6) (.c (.lit (.bool true))) (.r 8)⟩]
def f9_5:AC:=.ops [0,9] [] f9_5l
theorem f9_5e:OP f9_5 f9_5l [0,9] []:=rfl
def f9_8l:List GI:=[⟨none,.mv (some 2) (.c (.lit (.pointer none)))⟩,
    ⟨none,.mv (some 3) (.c (.lit (.int .i64 2)))⟩]
def f9_8:AC:=.ops [2,3] [] f9_8l
theorem f9_8e:OP f9_8 f9_8l [2,3] []:=rfl
def f9_7:AC:=.seq f9_8 .ret
theorem f9_7e:SQ f9_7 f9_8 .ret:=rfl
def f9_6:AC:=.cond (.r 9) f9_7 .skip
theorem f9_6e:CN f9_6 9 f9_7 .skip:=rfl
def f9_4:AC:=.seq f9_5 f9_6
theorem f9_4e:SQ f9_4 f9_5 f9_6:=rfl
def f9_10l:List GI:=[vv 10 0,
    ⟨none,.call (some 11) false (.f 51) []⟩,
    ⟨none,.bst (some 12) [(0,1),(1,1),(2,1)] (.agg [(.lit (.int .i64 0)),(.lit (.int .i64 0)),(.lit (.pointer none))]) [(0,(.r 10)),(1,(.c (.lit (.int .i64 0)))),(2,(.r 11))]⟩,
    ⟨none,.boxB 13 3 (.r 12)⟩,
    vo 2 13,
    ⟨none,.mv (some 3) (.c (.lit (.int .i64 0)))⟩]
def f9_10:AC:=.ops [2,3] [] f9_10l
theorem f9_10e:OP f9_10 f9_10l [2,3] []:=rfl
def f9_9:AC:=.seq f9_10 .ret
theorem f9_9e:SQ f9_9 f9_10 .ret:=rfl
def f9_3:AC:=.seq f9_4 f9_9
theorem f9_3e:SQ f9_3 f9_4 f9_9:=rfl
def f9_1:AC:=.seq f9_2 f9_3
theorem f9_1e:SQ f9_1 f9_2 f9_3:=rfl
def c_f9:AFun:=⟨14,[.tmp 2,.tmp 3],f9_1⟩
theorem k_f9:bj Go.Proofs.Try.prog x_f9 9 = some c_f9:=by kernel_rfl
theorem e_f9:aQ Go.Proofs.Try.prog 9 = true:=by kernel_rfl

def n_f10:Nat:=10
def x_f10:Cx:=⟨some,id,176,fun s=>([0,1,2,3,4,5,6,7,9,10,11,12,13,14,15,16,17,18,19,20,21,22,23,24,25,26,27,28,29,30,31,32,33,34,35,36,37,38,39,40,41,42,43,45,46,47,48,49,50,51,52,53,54,55,56,57,58,59,60,62,63,64,66,68,69,71,73,74,76,77,78,79,80,81,82,83,84,85,86,87,88,89,91,92,93,95,97,98,100,102,103,105,106,107,108,109,110,111,112,113,114,115,116,117,118,119,120,121,122,123,125,126,127,129,131,132,134,136,137,139,140,141,142,143,144,145,146,147,148,149,150,151,152,153,154,155,156,157,159,160,161,163,165,166,168,170,171,173,174,175]:List Nat).contains s,fun s=>([69,98,132,166]:List Nat).contains s,msOf [(2,[],[]),(6,[1,2],[]),(14,[1,2,3,4],[]),(30,[1,2,3,4,5,6],[]),(124,[1,3,5,6,44],[]),(500,[0],[]),(126,[1,3,5,6,7],[]),(254,[1,3,5,6,7,8],[]),(1020,[1,3,5,6,7,8,9],[]),(2042,[1,3,5,6,7,8,9],[]),(16336,[1,3,5,6,7,8,9,61],[]),(32675,[3,5,6],[]),(65352,[1,3,5,6,7,8,9,75],[]),(261412,[0],[]),(16339,[1,3,5,6,7,8,9],[]),(1022,[3,5,6,7],[]),(2046,[3,5,6,7,8],[]),(8188,[3,5,6,7,8,10],[]),(16378,[3,5,6,7,8,10],[]),(131024,[3,5,6,7,8,10,90],[]),(262051,[3,5,6],[]),(524104,[3,5,6,7,8,10,104],[]),(2096420,[0],[]),(131027,[3,5,6,7,8,10],[]),(8190,[3,5,6,7],[]),(16382,[3,5,6,7,8],[]),(65532,[3,5,6,7,8,11],[]),(131066,[3,5,6,7,8,11],[]),(1048528,[3,5,6,7,8,11,124],[]),(2097059,[3,6],[]),(4194120,[3,5,6,7,8,11,138],[]),(16776484,[0],[]),(1048531,[3,5,6,7,8,11],[]),(65534,[3,6,7],[]),(131070,[3,6,7,8],[]),(524284,[3,6,7,8,12],[]),(1048570,[3,6,7,8,12],[]),(8388560,[3,6,7,8,12,158],[]),(16777123,[3],[]),(33554248,[3,6,7,8,12,172],[]),(134216996,[0],[]),(8388563,[3,6,7,8,12],[]),(524286,[0],[])]⟩
def f10_2l:List GI:=[⟨none,.mv (some 0) (.c (.lit (.bool false)))⟩]
def f10_2:AC:=.ops [] [] f10_2l
theorem f10_2e:OP f10_2 f10_2l [] []:=rfl
def f10_4l:List GI:=[⟨none,.call (some 14) false (.f 35) [(.c (.lit (.int .i64 2)))]⟩,
    vv 13 14,
    ve 15 13 0,
    ve 16 13 1,
    vo 1 15,
    vo 2 16]
def f10_4:AC:=.ops [1,2] [] f10_4l
theorem f10_4e:OP f10_4 f10_4l [1,2] []:=rfl
def f10_6l:List GI:=[⟨none,.call (some 18) false (.f 9) [(.c (.lit (.int .i64 3)))]⟩,
    vv 17 18,
    ve 19 17 0,
    ve 20 17 1,
    vo 3 19,
    vo 4 20]
def f10_6:AC:=.ops [1,2,3,4] [] f10_6l
theorem f10_6e:OP f10_6 f10_6l [1,2,3,4] []:=rfl
def f10_8l:List GI:=[⟨none,.call (some 21) false (.f 11) []⟩,
    ⟨none,.call (some 22) false (.f 12) []⟩,
    vo 5 21,
    vo 6 22]
def f10_8:AC:=.ops [1,2,3,4,5,6] [] f10_8l
theorem f10_8e:OP f10_8 f10_8l [1,2,3,4,5,6] []:=rfl
def f10_11l:List GI:=[vv 23 2,
    vb 24 .neq 23 0,
    vv 25 24,
    ⟨some (25,false),.mv (some 26) (.r 4)⟩,
    ⟨some (25,false),.bin (some 27) .num .neq (.r 26) (.c (.lit (.int .i64 0)))⟩,
    ⟨none,.pick (some 28) (.r 25) (.c (.lit (.bool true))) (.r 27)⟩,
    vv 29 28,
    ⟨some (29,false),.mv (some 30) (.r 1)⟩,
    ⟨some (29,false),.bin (some 31) (.nil .ptr) .eql (.r 30) (.c (.lit (.pointer none)))⟩,
    ⟨none,.pick (some 32) (.r 29) (.c (.lit (.bool true))) (.r 31)⟩,
    vv 33 32,
    ⟨some (33,false),.mv (some 34) (.r 3)⟩,
    ⟨some (33,false),.bin (some 35) (.nil .ptr) .eql (.r 34) (.c (.lit (.pointer none)))⟩,
    ⟨none,.pick (some 36) (.r 33) (.c (.lit (.bool true))) (.r 35)⟩,
    vv 37 36,
    ⟨some (37,false),.mv (some 38) (.r 5)⟩,
    ⟨some (37,false),.bin (some 39) (.nil .ptr) .eql (.r 38) (.c (.lit (.pointer none)))⟩,
    ⟨none,.pick (some 40) (.r 37) (.c (.lit (.bool true))) (.r 39)⟩,
    vv 41 40,
    ⟨some (41,false),.mv (some 42) (.r 6)⟩,
    ⟨some (41,false),.bin (some 43) (.nil .ptr) .eql (.r 42) (.c (.lit (.pointer none)))⟩,
    ⟨none,.pick (some 44) (.r 41) (.c (.lit (.bool true))) (.r 43)⟩]
def f10_11:AC:=.ops [1,3,5,6,44] [] f10_11l
theorem f10_11e:OP f10_11 f10_11l [1,3,5,6,44] []:=rfl
def f10_14l:List GI:=[⟨none,.mv (some 0) (.c (.lit (.bool false)))⟩]
def f10_14:AC:=.ops [0] [] f10_14l
theorem f10_14e:OP f10_14 f10_14l [0] []:=rfl
def f10_13:AC:=.seq f10_14 .ret
theorem f10_13e:SQ f10_13 f10_14 .ret:=rfl
def f10_12:AC:=.cond (.r 44) f10_13 .skip
theorem f10_12e:CN f10_12 44 f10_13 .skip:=rfl
def f10_10:AC:=.seq f10_11 f10_12
theorem f10_10e:SQ f10_10 f10_11 f10_12:=rfl
def f10_16l:List GI:=[⟨none,.bst (some 45) [(0,1),(1,1),(2,1),(3,1)] (.agg [(.lit (.int .i64 0)),(.lit (.int .i64 0)),(.lit (.int .i64 0)),(.lit (.bool false))]) [(0,(.c (.lit (.int .i64 0)))),(1,(.c (.lit (.int .i64 5)))),(2,(.c (.lit (.int .i64 0)))),(3,(.c (.lit (.bool false))))]⟩,
    ⟨none,.bst (some 46) [(0,1),(1,1),(2,1),(3,1)] (.agg [(.lit (.int .i64 0)),(.lit (.int .i64 0)),(.lit (.int .i64 0)),(.lit (.bool false))]) [(0,(.c (.lit (.int .i64 1)))),(1,(.c (.lit (.int .i64 0)))),(2,(.c (.lit (.int .i64 1)))),(3,(.c (.lit (.bool false))))]⟩,
    ⟨none,.bst (some 47) [(0,1),(1,1),(2,1),(3,1)] (.agg [(.lit (.int .i64 0)),(.lit (.int .i64 0)),(.lit (.int .i64 0)),(.lit (.bool false))]) [(0,(.c (.lit (.int .i64 1)))),(1,(.c (.lit (.int .i64 0)))),(2,(.c (.lit (.int .i64 2)))),(3,(.c (.lit (.bool false))))]⟩,
    ⟨none,.bst (some 48) [(0,1),(1,1),(2,1),(3,1)] (.agg [(.lit (.int .i64 0)),(.lit (.int .i64 0)),(.lit (.int .i64 0)),(.lit (.bool false))]) [(0,(.c (.lit (.int .i64 1)))),(1,(.c (.lit (.int .i64 0)))),(2,(.c (.lit (.int .i64 1)))),(3,(.c (.lit (.bool false))))]⟩,
    ⟨none,.bst (some 49) [(0,1),(1,1),(2,1),(3,1)] (.agg [(.lit (.int .i64 0)),(.lit (.int .i64 0)),(.lit (.int .i64 0)),(.lit (.bool false))]) [(0,(.c (.lit (.int .i64 0)))),(1,(.c (.lit (.int .i64 5)))),(2,(.c (.lit (.int .i64 0)))),(3,(.c (.lit (.bool false))))]⟩,
    ⟨none,.bsl (some 50) 4 5 (.agg [(.lit (.int .i64 0)),(.lit (.int .i64 0)),(.lit (.int .i64 0)),(.lit (.bool false))]) [(0,(.r 45)),(1,(.r 46)),(2,(.r 47)),(3,(.r 48)),(4,(.r 49))]⟩,
    vo 7 50]
def f10_16:AC:=.ops [1,3,5,6,7] [] f10_16l
theorem f10_16e:OP f10_16 f10_16l [1,3,5,6,7] []:=rfl
def f10_18l:List GI:=[⟨none,.bst (some 51) [(0,1),(1,1),(2,1),(3,1)] (.agg [(.lit (.bool false)),(.lit (.bool false)),(.lit (.slice none 0 0)),(.lit (.int .i64 0))]) []⟩,
    ⟨none,.bst (some 52) [(0,1),(1,1),(2,1),(3,1)] (.agg [(.lit (.bool false)),(.lit (.bool false)),(.lit (.slice none 0 0)),(.lit (.int .i64 0))]) []⟩,
    ⟨none,.call (some 53) false (.f 50) [(.c (.lit (.int .i64 3)))]⟩,
    ⟨none,.bsl (some 54) 1 1 (.lit (.int .i64 0)) [(0,(.c (.lit (.int .i64 5))))]⟩,
    ⟨none,.call (some 55) false (.f 52) [(.r 54)]⟩,
    ⟨none,.bst (some 56) [(0,1),(1,1),(2,1),(3,1)] (.agg [(.lit (.bool false)),(.lit (.bool false)),(.lit (.slice none 0 0)),(.lit (.int .i64 0))]) [(1,(.c (.lit (.bool true))))]⟩,
    ⟨none,.bsl (some 57) 4 5 (.agg [(.lit (.bool false)),(.lit (.bool false)),(.lit (.slice none 0 0)),(.lit (.int .i64 0))]) [(0,(.r 51)),(1,(.r 52)),(2,(.r 53)),(3,(.r 55)),(4,(.r 56))]⟩,
    vo 8 57]
def f10_18:AC:=.ops [1,3,5,6,7,8] [] f10_18l
theorem f10_18e:OP f10_18 f10_18l [1,3,5,6,7,8] []:=rfl
def f10_21l:List GI:=[⟨none,.mv (some 9) (.c (.lit (.int .i64 0)))⟩]
def f10_21:AC:=.ops [1,3,5,6,7,8,9] [] f10_21l
theorem f10_21e:OP f10_21 f10_21l [1,3,5,6,7,8,9] []:=rfl
def f10_26l:List GI:=[vv 58 9,
    vv 59 7,
    ⟨none,.len (some 60) .sl (.r 59)⟩,
    ⟨none,.bin (some 61) .num .lss (.r 58) (.r 60)⟩]
def f10_26:AC:=.ops [1,3,5,6,7,8,9,61] [] f10_26l
theorem f10_26e:OP f10_26 f10_26l [1,3,5,6,7,8,9,61] []:=rfl
def f10_27:AC:=.cond (.r 61) .skip (.exit [3,5,6] [] 0)
theorem f10_27e:CN f10_27 61 .skip (.exit [3,5,6] [] 0):=rfl
def f10_25:AC:=.seq f10_26 f10_27
theorem f10_25e:SQ f10_25 f10_26 f10_27:=rfl
def f10_31h:List GI:=[vv 64 1,
    vv 65 7,
    vv 66 9,
    ⟨none,.ixS (some 67) (.r 65) (.r 66) 4⟩,
    ⟨none,.load (some 68) (.r 67) (some 4)⟩]
def f10_31p:List (Bool×GI):=[(false,vv 70 8),
    (false,vv 71 9),
    (false,⟨none,.ixS (some 72) (.r 70) (.r 71) 4⟩),
    (false,⟨none,.load (some 73) (.r 72) (some 4)⟩)]
def f10_31l:List GI:=[⟨none,.call (some 74) false (.f 28) [(.r 69),(.r 73)]⟩,
    ⟨none,.un (some 75) .not (.r 74)⟩]
def f10_31:AC:=.drawM [1,3,5,6,7,8,9,75] [] f10_31h (some 69) (.f 41) [(.r 64),(.r 68)] f10_31p f10_31l
theorem f10_31e:aC P id m f10_31 sf st Q = (m = false∧drawM P id f10_31h (some 69) (.f 41) [(.r 64),(.r 68)] f10_31p sf st (im P id m [1,3,5,6,7,8,9,75] [] f10_31l Q)):=rfl
def f10_34l:List GI:=[⟨none,.mv (some 0) (.c (.lit (.bool false)))⟩]
def f10_34:AC:=.ops [0] [] f10_34l
theorem f10_34e:OP f10_34 f10_34l [0] []:=rfl
def f10_33:AC:=.seq f10_34 .ret
theorem f10_33e:SQ f10_33 f10_34 .ret:=rfl
def f10_32:AC:=.cond (.r 75) f10_33 .skip
theorem f10_32e:CN f10_32 75 f10_33 .skip:=rfl
def f10_30:AC:=.seq f10_31 f10_32
theorem f10_30e:SQ f10_30 f10_31 f10_32:=rfl
def f10_29:AC:=.block 1 f10_30
theorem f10_29e:BL f10_29 f10_30 1:=rfl
def f10_35l:List GI:=[vv 62 9,
    vb 63 .add 62 1,
    vo 9 63]
def f10_35:AC:=.ops [1,3,5,6,7,8,9] [] f10_35l
theorem f10_35e:OP f10_35 f10_35l [1,3,5,6,7,8,9] []:=rfl
def f10_28:AC:=.seq f10_29 f10_35
theorem f10_28e:SQ f10_28 f10_29 f10_35:=rfl
def f10_24:AC:=.seq f10_25 f10_28
theorem f10_24e:SQ f10_24 f10_25 f10_28:=rfl
def f10_23:AC:=.loop [1,3,5,6,7,8,9] [] f10_24
theorem f10_23w:aC P id m f10_23 sf st Q = cO (aC P id m f10_24) [1,3,5,6,7,8,9] [] sf st Q:=rfl
def f10_22:AC:=.block 0 f10_23
theorem f10_22e:BL f10_22 f10_23 0:=rfl
def f10_20:AC:=.seq f10_21 f10_22
theorem f10_20e:SQ f10_20 f10_21 f10_22:=rfl
def f10_37l:List GI:=[⟨none,.bst (some 76) [(0,1),(1,1),(2,1),(3,1)] (.agg [(.lit (.int .i64 0)),(.lit (.int .i64 0)),(.lit (.int .i64 0)),(.lit (.bool false))]) [(0,(.c (.lit (.int .i64 0)))),(1,(.c (.lit (.int .i64 1)))),(2,(.c (.lit (.int .i64 0)))),(3,(.c (.lit (.bool false))))]⟩,
    ⟨none,.bst (some 77) [(0,1),(1,1),(2,1),(3,1)] (.agg [(.lit (.int .i64 0)),(.lit (.int .i64 0)),(.lit (.int .i64 0)),(.lit (.bool false))]) [(0,(.c (.lit (.int .i64 0)))),(1,(.c (.lit (.int .i64 2)))),(2,(.c (.lit (.int .i64 0)))),(3,(.c (.lit (.bool false))))]⟩,
    ⟨none,.bst (some 78) [(0,1),(1,1),(2,1),(3,1)] (.agg [(.lit (.int .i64 0)),(.lit (.int .i64 0)),(.lit (.int .i64 0)),(.lit (.bool false))]) [(0,(.c (.lit (.int .i64 0)))),(1,(.c (.lit (.int .i64 1)))),(2,(.c (.lit (.int .i64 0)))),(3,(.c (.lit (.bool false))))]⟩,
    ⟨none,.bst (some 79) [(0,1),(1,1),(2,1),(3,1)] (.agg [(.lit (.int .i64 0)),(.lit (.int .i64 0)),(.lit (.int .i64 0)),(.lit (.bool false))]) [(0,(.c (.lit (.int .i64 0)))),(1,(.c (.lit (.int .i64 0)))),(2,(.c (.lit (.int .i64 0)))),(3,(.c (.lit (.bool false))))]⟩,
    ⟨none,.bsl (some 80) 4 4 (.agg [(.lit (.int .i64 0)),(.lit (.int .i64 0)),(.lit (.int .i64 0)),(.lit (.bool false))]) [(0,(.r 76)),(1,(.r 77)),(2,(.r 78)),(3,(.r 79))]⟩,
    vo 7 80]
def f10_37:AC:=.ops [3,5,6,7] [] f10_37l
theorem f10_37e:OP f10_37 f10_37l [3,5,6,7] []:=rfl
def f10_39l:List GI:=[⟨none,.bst (some 81) [(0,1),(1,1),(2,1),(3,1)] (.agg [(.lit (.bool false)),(.lit (.bool false)),(.lit (.slice none 0 0)),(.lit (.int .i64 0))]) []⟩,
    ⟨none,.bst (some 82) [(0,1),(1,1),(2,1),(3,1)] (.agg [(.lit (.bool false)),(.lit (.bool false)),(.lit (.slice none 0 0)),(.lit (.int .i64 0))]) []⟩,
    ⟨none,.call (some 83) false (.f 50) [(.c (.lit (.int .i64 11)))]⟩,
    ⟨none,.bsl (some 84) 1 2 (.lit (.int .i64 0)) [(0,(.c (.lit (.int .i64 1)))),(1,(.c (.lit (.int .i64 2))))]⟩,
    ⟨none,.bst (some 85) [(0,1),(1,1),(2,1),(3,1)] (.agg [(.lit (.bool false)),(.lit (.bool false)),(.lit (.slice none 0 0)),(.lit (.int .i64 0))]) [(1,(.c (.lit (.bool true)))),(2,(.r 84))]⟩,
    ⟨none,.bsl (some 86) 4 4 (.agg [(.lit (.bool false)),(.lit (.bool false)),(.lit (.slice none 0 0)),(.lit (.int .i64 0))]) [(0,(.r 81)),(1,(.r 82)),(2,(.r 83)),(3,(.r 85))]⟩,
    vo 8 86]
def f10_39:AC:=.ops [3,5,6,7,8] [] f10_39l
theorem f10_39e:OP f10_39 f10_39l [3,5,6,7,8] []:=rfl
def f10_42l:List GI:=[⟨none,.mv (some 10) (.c (.lit (.int .i64 0)))⟩]
def f10_42:AC:=.ops [3,5,6,7,8,10] [] f10_42l
theorem f10_42e:OP f10_42 f10_42l [3,5,6,7,8,10] []:=rfl
def f10_47l:List GI:=[vv 87 10,
    vv 88 7,
    ⟨none,.len (some 89) .sl (.r 88)⟩,
    ⟨none,.bin (some 90) .num .lss (.r 87) (.r 89)⟩]
def f10_47:AC:=.ops [3,5,6,7,8,10,90] [] f10_47l
theorem f10_47e:OP f10_47 f10_47l [3,5,6,7,8,10,90] []:=rfl
def f10_48:AC:=.cond (.r 90) .skip (.exit [3,5,6] [] 2)
theorem f10_48e:CN f10_48 90 .skip (.exit [3,5,6] [] 2):=rfl
def f10_46:AC:=.seq f10_47 f10_48
theorem f10_46e:SQ f10_46 f10_47 f10_48:=rfl
def f10_52h:List GI:=[vv 93 3,
    vv 94 7,
    vv 95 10,
    ⟨none,.ixS (some 96) (.r 94) (.r 95) 4⟩,
    ⟨none,.load (some 97) (.r 96) (some 4)⟩]
def f10_52p:List (Bool×GI):=[(false,vv 99 8),
    (false,vv 100 10),
    (false,⟨none,.ixS (some 101) (.r 99) (.r 100) 4⟩),
    (false,⟨none,.load (some 102) (.r 101) (some 4)⟩)]
def f10_52l:List GI:=[⟨none,.call (some 103) false (.f 28) [(.r 98),(.r 102)]⟩,
    ⟨none,.un (some 104) .not (.r 103)⟩]
def f10_52:AC:=.drawM [3,5,6,7,8,10,104] [] f10_52h (some 98) (.f 13) [(.r 93),(.r 97)] f10_52p f10_52l
theorem f10_52e:aC P id m f10_52 sf st Q = (m = false∧drawM P id f10_52h (some 98) (.f 13) [(.r 93),(.r 97)] f10_52p sf st (im P id m [3,5,6,7,8,10,104] [] f10_52l Q)):=rfl
def f10_55l:List GI:=[⟨none,.mv (some 0) (.c (.lit (.bool false)))⟩]
def f10_55:AC:=.ops [0] [] f10_55l
theorem f10_55e:OP f10_55 f10_55l [0] []:=rfl
def f10_54:AC:=.seq f10_55 .ret
theorem f10_54e:SQ f10_54 f10_55 .ret:=rfl
def f10_53:AC:=.cond (.r 104) f10_54 .skip
theorem f10_53e:CN f10_53 104 f10_54 .skip:=rfl
def f10_51:AC:=.seq f10_52 f10_53
theorem f10_51e:SQ f10_51 f10_52 f10_53:=rfl
def f10_50:AC:=.block 3 f10_51
theorem f10_50e:BL f10_50 f10_51 3:=rfl
def f10_56l:List GI:=[vv 91 10,
    vb 92 .add 91 1,
    vo 10 92]
def f10_56:AC:=.ops [3,5,6,7,8,10] [] f10_56l
theorem f10_56e:OP f10_56 f10_56l [3,5,6,7,8,10] []:=rfl
def f10_49:AC:=.seq f10_50 f10_56
theorem f10_49e:SQ f10_49 f10_50 f10_56:=rfl
def f10_45:AC:=.seq f10_46 f10_49
theorem f10_45e:SQ f10_45 f10_46 f10_49:=rfl
def f10_44:AC:=.loop [3,5,6,7,8,10] [] f10_45
theorem f10_44w:aC P id m f10_44 sf st Q = cO (aC P id m f10_45) [3,5,6,7,8,10] [] sf st Q:=rfl
def f10_43:AC:=.block 2 f10_44
theorem f10_43e:BL f10_43 f10_44 2:=rfl
def f10_41:AC:=.seq f10_42 f10_43
theorem f10_41e:SQ f10_41 f10_42 f10_43:=rfl
def f10_58l:List GI:=[⟨none,.bst (some 105) [(0,1),(1,1),(2,1),(3,1)] (.agg [(.lit (.int .i64 0)),(.lit (.int .i64 0)),(.lit (.int .i64 0)),(.lit (.bool false))]) [(0,(.c (.lit (.int .i64 0)))),(1,(.c (.lit (.int .i64 1)))),(2,(.c (.lit (.int .i64 0)))),(3,(.c (.lit (.bool false))))]⟩,
    ⟨none,.bst (some 106) [(0,1),(1,1),(2,1),(3,1)] (.agg [(.lit (.int .i64 0)),(.lit (.int .i64 0)),(.lit (.int .i64 0)),(.lit (.bool false))]) [(0,(.c (.lit (.int .i64 0)))),(1,(.c (.lit (.int .i64 2)))),(2,(.c (.lit (.int .i64 0)))),(3,(.c (.lit (.bool false))))]⟩,
    ⟨none,.bst (some 107) [(0,1),(1,1),(2,1),(3,1)] (.agg [(.lit (.int .i64 0)),(.lit (.int .i64 0)),(.lit (.int .i64 0)),(.lit (.bool false))]) [(0,(.c (.lit (.int .i64 0)))),(1,(.c (.lit (.int .i64 3)))),(2,(.c (.lit (.int .i64 0)))),(3,(.c (.lit (.bool false))))]⟩,
    ⟨none,.bst (some 108) [(0,1),(1,1),(2,1),(3,1)] (.agg [(.lit (.int .i64 0)),(.lit (.int .i64 0)),(.lit (.int .i64 0)),(.lit (.bool false))]) [(0,(.c (.lit (.int .i64 1)))),(1,(.c (.lit (.int .i64 1)))),(2,(.c (.lit (.int .i64 0)))),(3,(.c (.lit (.bool false))))]⟩,
    ⟨none,.bst (some 109) [(0,1),(1,1),(2,1),(3,1)] (.agg [(.lit (.int .i64 0)),(.lit (.int .i64 0)),(.lit (.int .i64 0)),(.lit (.bool false))]) [(0,(.c (.lit (.int .i64 1)))),(1,(.c (.lit (.int .i64 2)))),(2,(.c (.lit (.int .i64 0)))),(3,(.c (.lit (.bool true))))]⟩,
    ⟨none,.bst (some 110) [(0,1),(1,1),(2,1),(3,1)] (.agg [(.lit (.int .i64 0)),(.lit (.int .i64 0)),(.lit (.int .i64 0)),(.lit (.bool false))]) [(0,(.c (.lit (.int .i64 0)))),(1,(.c (.lit (.int .i64 1)))),(2,(.c (.lit (.int .i64 0)))),(3,(.c (.lit (.bool false))))]⟩,
    ⟨none,.bsl (some 111) 4 6 (.agg [(.lit (.int .i64 0)),(.lit (.int .i64 0)),(.lit (.int .i64 0)),(.lit (.bool false))]) [(0,(.r 105)),(1,(.r 106)),(2,(.r 107)),(3,(.r 108)),(4,(.r 109)),(5,(.r 110))]⟩,
    vo 7 111]
def f10_58:AC:=.ops [3,5,6,7] [] f10_58l
theorem f10_58e:OP f10_58 f10_58l [3,5,6,7] []:=rfl
def f10_60l:List GI:=[⟨none,.bst (some 112) [(0,1),(1,1),(2,1),(3,1)] (.agg [(.lit (.bool false)),(.lit (.bool false)),(.lit (.slice none 0 0)),(.lit (.int .i64 0))]) [(0,(.c (.lit (.bool true))))]⟩,
    ⟨none,.bst (some 113) [(0,1),(1,1),(2,1),(3,1)] (.agg [(.lit (.bool false)),(.lit (.bool false)),(.lit (.slice none 0 0)),(.lit (.int .i64 0))]) []⟩,
    ⟨none,.bst (some 114) [(0,1),(1,1),(2,1),(3,1)] (.agg [(.lit (.bool false)),(.lit (.bool false)),(.lit (.slice none 0 0)),(.lit (.int .i64 0))]) []⟩,
    ⟨none,.bsl (some 115) 1 1 (.lit (.int .i64 0)) [(0,(.c (.lit (.int .i64 2))))]⟩,
    ⟨none,.call (some 116) false (.f 52) [(.r 115)]⟩,
    ⟨none,.bsl (some 117) 1 1 (.lit (.int .i64 0)) [(0,(.c (.lit (.int .i64 3))))]⟩,
    ⟨none,.call (some 118) false (.f 52) [(.r 117)]⟩,
    ⟨none,.bst (some 119) [(0,1),(1,1),(2,1),(3,1)] (.agg [(.lit (.bool false)),(.lit (.bool false)),(.lit (.slice none 0 0)),(.lit (.int .i64 0))]) [(1,(.c (.lit (.bool true))))]⟩,
    ⟨none,.bsl (some 120) 4 6 (.agg [(.lit (.bool false)),(.lit (.bool false)),(.lit (.slice none 0 0)),(.lit (.int .i64 0))]) [(0,(.r 112)),(1,(.r 113)),(2,(.r 114)),(3,(.r 116)),(4,(.r 118)),(5,(.r 119))]⟩,
    vo 8 120]
def f10_60:AC:=.ops [3,5,6,7,8] [] f10_60l
theorem f10_60e:OP f10_60 f10_60l [3,5,6,7,8] []:=rfl
def f10_63l:List GI:=[⟨none,.mv (some 11) (.c (.lit (.int .i64 0)))⟩]
def f10_63:AC:=.ops [3,5,6,7,8,11] [] f10_63l
theorem f10_63e:OP f10_63 f10_63l [3,5,6,7,8,11] []:=rfl
def f10_68l:List GI:=[vv 121 11,
    vv 122 7,
    ⟨none,.len (some 123) .sl (.r 122)⟩,
    ⟨none,.bin (some 124) .num .lss (.r 121) (.r 123)⟩]
def f10_68:AC:=.ops [3,5,6,7,8,11,124] [] f10_68l
theorem f10_68e:OP f10_68 f10_68l [3,5,6,7,8,11,124] []:=rfl
def f10_69:AC:=.cond (.r 124) .skip (.exit [3,6] [] 4)
theorem f10_69e:CN f10_69 124 .skip (.exit [3,6] [] 4):=rfl
def f10_67:AC:=.seq f10_68 f10_69
theorem f10_67e:SQ f10_67 f10_68 f10_69:=rfl
def f10_73h:List GI:=[vv 127 5,
    vv 128 7,
    vv 129 11,
    ⟨none,.ixS (some 130) (.r 128) (.r 129) 4⟩,
    ⟨none,.load (some 131) (.r 130) (some 4)⟩]
def f10_73p:List (Bool×GI):=[(false,vv 133 8),
    (false,vv 134 11),
    (false,⟨none,.ixS (some 135) (.r 133) (.r 134) 4⟩),
    (false,⟨none,.load (some 136) (.r 135) (some 4)⟩)]
def f10_73l:List GI:=[⟨none,.call (some 137) false (.f 28) [(.r 132),(.r 136)]⟩,
    ⟨none,.un (some 138) .not (.r 137)⟩]
def f10_73:AC:=.drawM [3,5,6,7,8,11,138] [] f10_73h (some 132) (.f 16) [(.r 127),(.r 131)] f10_73p f10_73l
theorem f10_73e:aC P id m f10_73 sf st Q = (m = false∧drawM P id f10_73h (some 132) (.f 16) [(.r 127),(.r 131)] f10_73p sf st (im P id m [3,5,6,7,8,11,138] [] f10_73l Q)):=rfl
def f10_76l:List GI:=[⟨none,.mv (some 0) (.c (.lit (.bool false)))⟩]
def f10_76:AC:=.ops [0] [] f10_76l
theorem f10_76e:OP f10_76 f10_76l [0] []:=rfl
def f10_75:AC:=.seq f10_76 .ret
theorem f10_75e:SQ f10_75 f10_76 .ret:=rfl
def f10_74:AC:=.cond (.r 138) f10_75 .skip
theorem f10_74e:CN f10_74 138 f10_75 .skip:=rfl
def f10_72:AC:=.seq f10_73 f10_74
theorem f10_72e:SQ f10_72 f10_73 f10_74:=rfl
def f10_71:AC:=.block 5 f10_72
theorem f10_71e:BL f10_71 f10_72 5:=rfl
def f10_77l:List GI:=[vv 125 11,
    vb 126 .add 125 1,
    vo 11 126]
def f10_77:AC:=.ops [3,5,6,7,8,11] [] f10_77l
theorem f10_77e:OP f10_77 f10_77l [3,5,6,7,8,11] []:=rfl
def f10_70:AC:=.seq f10_71 f10_77
theorem f10_70e:SQ f10_70 f10_71 f10_77:=rfl
def f10_66:AC:=.seq f10_67 f10_70
theorem f10_66e:SQ f10_66 f10_67 f10_70:=rfl
def f10_65:AC:=.loop [3,5,6,7,8,11] [] f10_66
theorem f10_65w:aC P id m f10_65 sf st Q = cO (aC P id m f10_66) [3,5,6,7,8,11] [] sf st Q:=rfl
def f10_64:AC:=.block 4 f10_65
theorem f10_64e:BL f10_64 f10_65 4:=rfl
def f10_62:AC:=.seq f10_63 f10_64
theorem f10_62e:SQ f10_62 f10_63 f10_64:=rfl
def f10_79l:List GI:=[⟨none,.bst (some 139) [(0,1),(1,1),(2,1),(3,1)] (.agg [(.lit (.int .i64 0)),(.lit (.int .i64 0)),(.lit (.int .i64 0)),(.lit (.bool false))]) [(0,(.c (.lit (.int .i64 0)))),(1,(.c (.lit (.int .i64 1)))),(2,(.c (.lit (.int .i64 0)))),(3,(.c (.lit (.bool false))))]⟩,
    ⟨none,.bst (some 140) [(0,1),(1,1),(2,1),(3,1)] (.agg [(.lit (.int .i64 0)),(.lit (.int .i64 0)),(.lit (.int .i64 0)),(.lit (.bool false))]) [(0,(.c (.lit (.int .i64 0)))),(1,(.c (.lit (.int .i64 2)))),(2,(.c (.lit (.int .i64 0)))),(3,(.c (.lit (.bool false))))]⟩,
    ⟨none,.bst (some 141) [(0,1),(1,1),(2,1),(3,1)] (.agg [(.lit (.int .i64 0)),(.lit (.int .i64 0)),(.lit (.int .i64 0)),(.lit (.bool false))]) [(0,(.c (.lit (.int .i64 2)))),(1,(.c (.lit (.int .i64 1)))),(2,(.c (.lit (.int .i64 0)))),(3,(.c (.lit (.bool false))))]⟩,
    ⟨none,.bst (some 142) [(0,1),(1,1),(2,1),(3,1)] (.agg [(.lit (.int .i64 0)),(.lit (.int .i64 0)),(.lit (.int .i64 0)),(.lit (.bool false))]) [(0,(.c (.lit (.int .i64 3)))),(1,(.c (.lit (.int .i64 0)))),(2,(.c (.lit (.int .i64 0)))),(3,(.c (.lit (.bool false))))]⟩,
    ⟨none,.bst (some 143) [(0,1),(1,1),(2,1),(3,1)] (.agg [(.lit (.int .i64 0)),(.lit (.int .i64 0)),(.lit (.int .i64 0)),(.lit (.bool false))]) [(0,(.c (.lit (.int .i64 1)))),(1,(.c (.lit (.int .i64 2)))),(2,(.c (.lit (.int .i64 0)))),(3,(.c (.lit (.bool false))))]⟩,
    ⟨none,.bst (some 144) [(0,1),(1,1),(2,1),(3,1)] (.agg [(.lit (.int .i64 0)),(.lit (.int .i64 0)),(.lit (.int .i64 0)),(.lit (.bool false))]) [(0,(.c (.lit (.int .i64 1)))),(1,(.c (.lit (.int .i64 2)))),(2,(.c (.lit (.int .i64 0)))),(3,(.c (.lit (.bool false))))]⟩,
    ⟨none,.bsl (some 145) 4 6 (.agg [(.lit (.int .i64 0)),(.lit (.int .i64 0)),(.lit (.int .i64 0)),(.lit (.bool false))]) [(0,(.r 139)),(1,(.r 140)),(2,(.r 141)),(3,(.r 142)),(4,(.r 143)),(5,(.r 144))]⟩,
    vo 7 145]
def f10_79:AC:=.ops [3,6,7] [] f10_79l
theorem f10_79e:OP f10_79 f10_79l [3,6,7] []:=rfl
def f10_81l:List GI:=[⟨none,.bst (some 146) [(0,1),(1,1),(2,1),(3,1)] (.agg [(.lit (.bool false)),(.lit (.bool false)),(.lit (.slice none 0 0)),(.lit (.int .i64 0))]) [(1,(.c (.lit (.bool true))))]⟩,
    ⟨none,.bst (some 147) [(0,1),(1,1),(2,1),(3,1)] (.agg [(.lit (.bool false)),(.lit (.bool false)),(.lit (.slice none 0 0)),(.lit (.int .i64 0))]) []⟩,
    ⟨none,.bsl (some 148) 1 1 (.lit (.int .i64 0)) [(0,(.c (.lit (.int .i64 2))))]⟩,
    ⟨none,.call (some 149) false (.f 52) [(.r 148)]⟩,
    ⟨none,.bst (some 150) [(0,1),(1,1),(2,1),(3,1)] (.agg [(.lit (.bool false)),(.lit (.bool false)),(.lit (.slice none 0 0)),(.lit (.int .i64 0))]) []⟩,
    ⟨none,.bsl (some 151) 1 1 (.lit (.int .i64 0)) [(0,(.c (.lit (.int .i64 1))))]⟩,
    ⟨none,.call (some 152) false (.f 52) [(.r 151)]⟩,
    ⟨none,.call (some 153) false (.f 50) [(.c (.lit (.int .i64 8)))]⟩,
    ⟨none,.bsl (some 154) 4 6 (.agg [(.lit (.bool false)),(.lit (.bool false)),(.lit (.slice none 0 0)),(.lit (.int .i64 0))]) [(0,(.r 146)),(1,(.r 147)),(2,(.r 149)),(3,(.r 150)),(4,(.r 152)),(5,(.r 153))]⟩,
    vo 8 154]
def f10_81:AC:=.ops [3,6,7,8] [] f10_81l
theorem f10_81e:OP f10_81 f10_81l [3,6,7,8] []:=rfl
def f10_84l:List GI:=[⟨none,.mv (some 12) (.c (.lit (.int .i64 0)))⟩]
def f10_84:AC:=.ops [3,6,7,8,12] [] f10_84l
theorem f10_84e:OP f10_84 f10_84l [3,6,7,8,12] []:=rfl
def f10_89l:List GI:=[vv 155 12,
    vv 156 7,
    ⟨none,.len (some 157) .sl (.r 156)⟩,
    ⟨none,.bin (some 158) .num .lss (.r 155) (.r 157)⟩]
def f10_89:AC:=.ops [3,6,7,8,12,158] [] f10_89l
theorem f10_89e:OP f10_89 f10_89l [3,6,7,8,12,158] []:=rfl
def f10_90:AC:=.cond (.r 158) .skip (.exit [3] [] 6)
theorem f10_90e:CN f10_90 158 .skip (.exit [3] [] 6):=rfl
def f10_88:AC:=.seq f10_89 f10_90
theorem f10_88e:SQ f10_88 f10_89 f10_90:=rfl
def f10_94h:List GI:=[vv 161 6,
    vv 162 7,
    vv 163 12,
    ⟨none,.ixS (some 164) (.r 162) (.r 163) 4⟩,
    ⟨none,.load (some 165) (.r 164) (some 4)⟩]
def f10_94p:List (Bool×GI):=[(false,vv 167 8),
    (false,vv 168 12),
    (false,⟨none,.ixS (some 169) (.r 167) (.r 168) 4⟩),
    (false,⟨none,.load (some 170) (.r 169) (some 4)⟩)]
def f10_94l:List GI:=[⟨none,.call (some 171) false (.f 28) [(.r 166),(.r 170)]⟩,
    ⟨none,.un (some 172) .not (.r 171)⟩]
def f10_94:AC:=.drawM [3,6,7,8,12,172] [] f10_94h (some 166) (.f 18) [(.r 161),(.r 165)] f10_94p f10_94l
theorem f10_94e:aC P id m f10_94 sf st Q = (m = false∧drawM P id f10_94h (some 166) (.f 18) [(.r 161),(.r 165)] f10_94p sf st (im P id m [3,6,7,8,12,172] [] f10_94l Q)):=rfl
def f10_97l:List GI:=[⟨none,.mv (some 0) (.c (.lit (.bool false)))⟩]
def f10_97:AC:=.ops [0] [] f10_97l
theorem f10_97e:OP f10_97 f10_97l [0] []:=rfl
def f10_96:AC:=.seq f10_97 .ret
theorem f10_96e:SQ f10_96 f10_97 .ret:=rfl
def f10_95:AC:=.cond (.r 172) f10_96 .skip
theorem f10_95e:CN f10_95 172 f10_96 .skip:=rfl
def f10_93:AC:=.seq f10_94 f10_95
theorem f10_93e:SQ f10_93 f10_94 f10_95:=rfl
def f10_92:AC:=.block 7 f10_93
theorem f10_92e:BL f10_92 f10_93 7:=rfl
def f10_98l:List GI:=[vv 159 12,
    vb 160 .add 159 1,
    vo 12 160]
def f10_98:AC:=.ops [3,6,7,8,12] [] f10_98l
theorem f10_98e:OP f10_98 f10_98l [3,6,7,8,12] []:=rfl
def f10_91:AC:=.seq f10_92 f10_98
theorem f10_91e:SQ f10_91 f10_92 f10_98:=rfl
def f10_87:AC:=.seq f10_88 f10_91
theorem f10_87e:SQ f10_87 f10_88 f10_91:=rfl
def f10_86:AC:=.loop [3,6,7,8,12] [] f10_87
theorem f10_86w:aC P id m f10_86 sf st Q = cO (aC P id m f10_87) [3,6,7,8,12] [] sf st Q:=rfl
def f10_85:AC:=.block 6 f10_86
theorem f10_85e:BL f10_85 f10_86 6:=rfl
def f10_83:AC:=.seq f10_84 f10_85
theorem f10_83e:SQ f10_83 f10_84 f10_85:=rfl
def f10_100l:List GI:=[vv 173 3,
    ⟨none,.call (some 174) false (.f 15) [(.r 173)]⟩,
    vb 175 .eql 174 1,
    vo 0 175]
def f10_100:AC:=.ops [0] [] f10_100l
theorem f10_100e:OP f10_100 f10_100l [0] []:=rfl
def f10_99:AC:=.seq f10_100 .ret
theorem f10_99e:SQ f10_99 f10_100 .ret:=rfl
def f10_82:AC:=.seq f10_83 f10_99
theorem f10_82e:SQ f10_82 f10_83 f10_99:=rfl
def f10_80:AC:=.seq f10_81 f10_82
theorem f10_80e:SQ f10_80 f10_81 f10_82:=rfl
def f10_78:AC:=.seq f10_79 f10_80
theorem f10_78e:SQ f10_78 f10_79 f10_80:=rfl
def f10_61:AC:=.seq f10_62 f10_78
theorem f10_61e:SQ f10_61 f10_62 f10_78:=rfl
def f10_59:AC:=.seq f10_60 f10_61
theorem f10_59e:SQ f10_59 f10_60 f10_61:=rfl
def f10_57:AC:=.seq f10_58 f10_59
theorem f10_57e:SQ f10_57 f10_58 f10_59:=rfl
def f10_40:AC:=.seq f10_41 f10_57
theorem f10_40e:SQ f10_40 f10_41 f10_57:=rfl
def f10_38:AC:=.seq f10_39 f10_40
theorem f10_38e:SQ f10_38 f10_39 f10_40:=rfl
def f10_36:AC:=.seq f10_37 f10_38
theorem f10_36e:SQ f10_36 f10_37 f10_38:=rfl
def f10_19:AC:=.seq f10_20 f10_36
theorem f10_19e:SQ f10_19 f10_20 f10_36:=rfl
def f10_17:AC:=.seq f10_18 f10_19
theorem f10_17e:SQ f10_17 f10_18 f10_19:=rfl
def f10_15:AC:=.seq f10_16 f10_17
theorem f10_15e:SQ f10_15 f10_16 f10_17:=rfl
def f10_9:AC:=.seq f10_10 f10_15
theorem f10_9e:SQ f10_9 f10_10 f10_15:=rfl
def f10_7:AC:=.seq f10_8 f10_9
theorem f10_7e:SQ f10_7 f10_8 f10_9:=rfl
def f10_5:AC:=.seq f10_6 f10_7
theorem f10_5e:SQ f10_5 f10_6 f10_7:=rfl
def f10_3:AC:=.seq f10_4 f10_5
theorem f10_3e:SQ f10_3 f10_4 f10_5:=rfl
def f10_1:AC:=.seq f10_2 f10_3
theorem f10_1e:SQ f10_1 f10_2 f10_3:=rfl
def c_f10:AFun:=⟨176,[.tmp 0],f10_1⟩
theorem k_f10:bj Go.Proofs.Try.prog x_f10 10 = some c_f10:=by kernel_rfl
theorem e_f10:aQ Go.Proofs.Try.prog 10 = true:=by kernel_rfl

def n_f11:Nat:=11
def x_f11:Cx:=⟨some,id,5,fun s=>([0,1,2,3,4]:List Nat).contains s,fun s=>([]:List Nat).contains s,msOf [(2,[],[]),(6,[0],[])]⟩
def f11_2l:List GI:=[⟨none,.mv (some 0) (.c (.lit (.pointer none)))⟩]
def f11_2:AC:=.ops [] [] f11_2l
theorem f11_2e:OP f11_2 f11_2l [] []:=rfl
def f11_4l:List GI:=[⟨none,.call (some 1) false (.f 51) []⟩,
    ⟨none,.bst (some 2) [(0,1),(1,1)] (.agg [(.lit (.int .i64 0)),(.lit (.pointer none))]) [(0,(.c (.lit (.int .i64 (-1))))),(1,(.r 1))]⟩,
    ⟨none,.bst (some 3) [(0,2),(2,1)] (.agg [(.lit (.int .i64 0)),(.lit (.pointer none)),(.lit (.bool false))]) [(0,(.r 2))]⟩,
    ⟨none,.boxB 4 3 (.r 3)⟩,
    vo 0 4]
def f11_4:AC:=.ops [0] [] f11_4l
theorem f11_4e:OP f11_4 f11_4l [0] []:=rfl
def f11_3:AC:=.seq f11_4 .ret
theorem f11_3e:SQ f11_3 f11_4 .ret:=rfl
def f11_1:AC:=.seq f11_2 f11_3
theorem f11_1e:SQ f11_1 f11_2 f11_3:=rfl
def c_f11:AFun:=⟨5,[.tmp 0],f11_1⟩
theorem k_f11:bj Go.Proofs.Try.prog x_f11 11 = some c_f11:=by kernel_rfl
theorem e_f11:aQ Go.Proofs.Try.prog 11 = true:=by kernel_rfl

def n_f12:Nat:=12
def x_f12:Cx:=⟨some,id,6,fun s=>([0,1,2,3,4,5]:List Nat).contains s,fun s=>([]:List Nat).contains s,msOf [(2,[],[]),(6,[0],[])]⟩
def f12_2l:List GI:=[⟨none,.mv (some 0) (.c (.lit (.pointer none)))⟩]
def f12_2:AC:=.ops [] [] f12_2l
theorem f12_2e:OP f12_2 f12_2l [] []:=rfl
def f12_4l:List GI:=[⟨none,.call (some 1) false (.f 51) []⟩,
    ⟨none,.bst (some 2) [(0,1),(1,1)] (.agg [(.lit (.int .i64 0)),(.lit (.pointer none))]) [(0,(.c (.lit (.int .i64 (-1))))),(1,(.r 1))]⟩,
    ⟨none,.call (some 3) false (.f 51) []⟩,
    ⟨none,.bst (some 4) [(0,2),(2,1)] (.agg [(.lit (.int .i64 0)),(.lit (.pointer none)),(.lit (.pointer none))]) [(0,(.r 2)),(1,(.r 3))]⟩,
    ⟨none,.boxB 5 3 (.r 4)⟩,
    vo 0 5]
def f12_4:AC:=.ops [0] [] f12_4l
theorem f12_4e:OP f12_4 f12_4l [0] []:=rfl
def f12_3:AC:=.seq f12_4 .ret
theorem f12_3e:SQ f12_3 f12_4 .ret:=rfl
def f12_1:AC:=.seq f12_2 f12_3
theorem f12_1e:SQ f12_1 f12_2 f12_3:=rfl
def c_f12:AFun:=⟨6,[.tmp 0],f12_1⟩
theorem k_f12:bj Go.Proofs.Try.prog x_f12 12 = some c_f12:=by kernel_rfl
theorem e_f12:aQ Go.Proofs.Try.prog 12 = true:=by kernel_rfl

def n_f13:Nat:=13
def x_f13:Cx:=⟨some,id,28,fun s=>([0,1,5,6,7,9,11,12,14,15,16,17,18,19,20,21,22,23,25,26,27]:List Nat).contains s,fun s=>([]:List Nat).contains s,msOf [(2,[0,3,4],[3,4]),(12,[0,3,4,10],[3,4]),(52,[4,5,6,7],[4]),(106,[4],[4]),(14,[4],[4])]⟩
def f13_2l:List GI:=[⟨none,.boxL 3 4 (.r 1)⟩,
    ⟨none,.newL 4 [(.lit (.bool false)),(.lit (.bool false)),(.lit (.slice none 0 0)),(.lit (.int .i64 0))]⟩]
def f13_2:AC:=.ops [0,3,4] [3,4] f13_2l
theorem f13_2e:OP f13_2 f13_2l [0,3,4] [3,4]:=rfl
def f13_5l:List GI:=[vd 8 3 0,
    vl 9 8,
    vb 10 .eql 9 0]
def f13_5:AC:=.ops [0,3,4,10] [3,4] f13_5l
theorem f13_5e:OP f13_5 f13_5l [0,3,4,10] [3,4]:=rfl
def f13_8l:List GI:=[vv 12 0,
    vd 13 3 1,
    vl 14 13,
    ⟨none,.call (some 15) false (.f 25) [(.r 12),(.r 14)]⟩,
    vv 11 15,
    ve 16 11 0,
    ve 17 11 1,
    ve 18 11 2,
    vo 5 16,
    vo 6 17,
    vo 7 18]
def f13_8:AC:=.ops [4,5,6,7] [4] f13_8l
theorem f13_8e:OP f13_8 f13_8l [4,5,6,7] [4]:=rfl
def f13_10l:List GI:=[vv 19 5,
    vv 20 6,
    vv 21 7,
    ⟨none,.bst (some 22) [(0,1),(1,1),(2,1),(3,1)] (.agg [(.lit (.bool false)),(.lit (.bool false)),(.lit (.slice none 0 0)),(.lit (.int .i64 0))]) [(1,(.r 19)),(2,(.r 20)),(3,(.r 21))]⟩,
    ⟨none,.store 4 (.r 4) (.r 22)⟩]
def f13_10:AC:=.ops [4] [4] f13_10l
theorem f13_10e:OP f13_10 f13_10l [4] [4]:=rfl
def f13_9:AC:=.seq f13_10 .ret
theorem f13_9e:SQ f13_9 f13_10 .ret:=rfl
def f13_7:AC:=.seq f13_8 f13_9
theorem f13_7e:SQ f13_7 f13_8 f13_9:=rfl
def f13_6:AC:=.cond (.r 10) f13_7 .skip
theorem f13_6e:CN f13_6 10 f13_7 .skip:=rfl
def f13_4:AC:=.seq f13_5 f13_6
theorem f13_4e:SQ f13_4 f13_5 f13_6:=rfl
def f13_12l:List GI:=[vv 23 0,
    vd 24 3 1,
    vl 25 24,
    ⟨none,.call (some 26) false (.f 53) [(.r 23),(.r 25)]⟩,
    ⟨none,.bst (some 27) [(0,1),(1,1),(2,1),(3,1)] (.agg [(.lit (.bool false)),(.lit (.bool false)),(.lit (.slice none 0 0)),(.lit (.int .i64 0))]) [(3,(.r 26))]⟩,
    ⟨none,.store 4 (.r 4) (.r 27)⟩]
def f13_12:AC:=.ops [4] [4] f13_12l
theorem f13_12e:OP f13_12 f13_12l [4] [4]:=rfl
def f13_11:AC:=.seq f13_12 .ret
theorem f13_11e:SQ f13_11 f13_12 .ret:=rfl
def f13_3:AC:=.seq f13_4 f13_11
theorem f13_3e:SQ f13_3 f13_4 f13_11:=rfl
def f13_1:AC:=.seq f13_2 f13_3
theorem f13_1e:SQ f13_1 f13_2 f13_3:=rfl
def c_f13:AFun:=⟨28,[.cell 4 (some 4)],f13_1⟩
theorem k_f13:bj Go.Proofs.Try.prog x_f13 13 = some c_f13:=by kernel_rfl
theorem e_f13:aQ Go.Proofs.Try.prog 13 = true:=by kernel_rfl

def n_f15:Nat:=15
def x_f15:Cx:=⟨some,id,9,fun s=>([0,2,3,8]:List Nat).contains s,fun s=>([]:List Nat).contains s,msOf [(2,[0],[]),(12,[0,4],[]),(52,[2],[]),(14,[2],[])]⟩
def f15_2l:List GI:=[⟨none,.mv (some 2) (.c (.lit (.int .i64 0)))⟩]
def f15_2:AC:=.ops [0] [] f15_2l
theorem f15_2e:OP f15_2 f15_2l [0] []:=rfl
def f15_5l:List GI:=[vv 3 0,
    ⟨none,.call (some 4) false (.f 54) [(.r 3)]⟩]
def f15_5:AC:=.ops [0,4] [] f15_5l
theorem f15_5e:OP f15_5 f15_5l [0,4] []:=rfl
def f15_8l:List GI:=[⟨none,.mv (some 2) (.c (.lit (.int .i64 0)))⟩]
def f15_8:AC:=.ops [2] [] f15_8l
theorem f15_8e:OP f15_8 f15_8l [2] []:=rfl
def f15_7:AC:=.seq f15_8 .ret
theorem f15_7e:SQ f15_7 f15_8 .ret:=rfl
def f15_6:AC:=.cond (.r 4) f15_7 .skip
theorem f15_6e:CN f15_6 4 f15_7 .skip:=rfl
def f15_4:AC:=.seq f15_5 f15_6
theorem f15_4e:SQ f15_4 f15_5 f15_6:=rfl
def f15_10l:List GI:=[vv 5 0,
    vn 6 5,
    vd 7 6 1,
    vl 8 7,
    vo 2 8]
def f15_10:AC:=.ops [2] [] f15_10l
theorem f15_10e:OP f15_10 f15_10l [2] []:=rfl
def f15_9:AC:=.seq f15_10 .ret
theorem f15_9e:SQ f15_9 f15_10 .ret:=rfl
def f15_3:AC:=.seq f15_4 f15_9
theorem f15_3e:SQ f15_3 f15_4 f15_9:=rfl
def f15_1:AC:=.seq f15_2 f15_3
theorem f15_1e:SQ f15_1 f15_2 f15_3:=rfl
def c_f15:AFun:=⟨9,[.tmp 2],f15_1⟩
theorem k_f15:bj Go.Proofs.Try.prog x_f15 15 = some c_f15:=by kernel_rfl
theorem e_f15:aQ Go.Proofs.Try.prog 15 = true:=by kernel_rfl

def n_f16:Nat:=16
def x_f16:Cx:=⟨some,id,45,fun s=>([0,1,5,6,7,8,9,11,13,14,15,17,18,19,20,21,22,23,24,25,27,28,29,31,33,34,35,36,37,38,39,40,42,43,44]:List Nat).contains s,fun s=>([]:List Nat).contains s,msOf [(2,[0,3,4],[3,4]),(12,[0,3,4,11],[3,4]),(52,[0,3,4,11,12],[3,4]),(212,[4,5,6,7],[4]),(426,[4],[4]),(214,[0,3,4,26],[3,4]),(860,[4,8,9],[4]),(1722,[4],[4]),(14,[4],[4])]⟩
def f16_2l:List GI:=[⟨none,.boxL 3 4 (.r 1)⟩,
    ⟨none,.newL 4 [(.lit (.bool false)),(.lit (.bool false)),(.lit (.slice none 0 0)),(.lit (.int .i64 0))]⟩]
def f16_2:AC:=.ops [0,3,4] [3,4] f16_2l
theorem f16_2e:OP f16_2 f16_2l [0,3,4] [3,4]:=rfl
def f16_5l:List GI:=[vd 10 3 0,
    vl 11 10]
def f16_5:AC:=.ops [0,3,4,11] [3,4] f16_5l
theorem f16_5e:OP f16_5 f16_5l [0,3,4,11] [3,4]:=rfl
def f16_8l:List GI:=[vb 13 .eql 11 0,
    vo 12 13]
def f16_8:AC:=.ops [0,3,4,11,12] [3,4] f16_8l
theorem f16_8e:OP f16_8 f16_8l [0,3,4,11,12] [3,4]:=rfl
def f16_11l:List GI:=[vv 15 0,
    vd 16 3 1,
    vl 17 16,
    ⟨none,.call (some 18) false (.f 30) [(.r 15),(.r 17)]⟩,
    vv 14 18,
    ve 19 14 0,
    ve 20 14 1,
    ve 21 14 2,
    vo 5 19,
    vo 6 20,
    vo 7 21]
def f16_11:AC:=.ops [4,5,6,7] [4] f16_11l
theorem f16_11e:OP f16_11 f16_11l [4,5,6,7] [4]:=rfl
def f16_13l:List GI:=[vv 22 5,
    vv 23 6,
    vv 24 7,
    ⟨none,.bst (some 25) [(0,1),(1,1),(2,1),(3,1)] (.agg [(.lit (.bool false)),(.lit (.bool false)),(.lit (.slice none 0 0)),(.lit (.int .i64 0))]) [(0,(.r 22)),(1,(.r 23)),(3,(.r 24))]⟩,
    ⟨none,.store 4 (.r 4) (.r 25)⟩]
def f16_13:AC:=.ops [4] [4] f16_13l
theorem f16_13e:OP f16_13 f16_13l [4] [4]:=rfl
def f16_12:AC:=.seq f16_13 .ret
theorem f16_12e:SQ f16_12 f16_13 .ret:=rfl
def f16_10:AC:=.seq f16_11 f16_12
theorem f16_10e:SQ f16_10 f16_11 f16_12:=rfl
def f16_15l:List GI:=[vb 27 .eql 11 1,
    vo 26 27]
def f16_15:AC:=.ops [0,3,4,26] [3,4] f16_15l
theorem f16_15e:OP f16_15 f16_15l [0,3,4,26] [3,4]:=rfl
def f16_18l:List GI:=[vv 29 0,
    vd 30 3 1,
    vl 31 30,
    vd 32 3 3,
    vl 33 32,
    ⟨none,.call (some 34) false (.f 31) [(.r 29),(.r 31),(.r 33)]⟩,
    vv 28 34,
    ve 35 28 0,
    ve 36 28 1,
    vo 8 35,
    vo 9 36]
def f16_18:AC:=.ops [4,8,9] [4] f16_18l
theorem f16_18e:OP f16_18 f16_18l [4,8,9] [4]:=rfl
def f16_20l:List GI:=[vv 37 8,
    vv 38 9,
    ⟨none,.bst (some 39) [(0,1),(1,1),(2,1),(3,1)] (.agg [(.lit (.bool false)),(.lit (.bool false)),(.lit (.slice none 0 0)),(.lit (.int .i64 0))]) [(2,(.r 37)),(3,(.r 38))]⟩,
    ⟨none,.store 4 (.r 4) (.r 39)⟩]
def f16_20:AC:=.ops [4] [4] f16_20l
theorem f16_20e:OP f16_20 f16_20l [4] [4]:=rfl
def f16_19:AC:=.seq f16_20 .ret
theorem f16_19e:SQ f16_19 f16_20 .ret:=rfl
def f16_17:AC:=.seq f16_18 f16_19
theorem f16_17e:SQ f16_17 f16_18 f16_19:=rfl
def f16_16:AC:=.cond (.r 26) f16_17 .skip
theorem f16_16e:CN f16_16 26 f16_17 .skip:=rfl
def f16_14:AC:=.seq f16_15 f16_16
theorem f16_14e:SQ f16_14 f16_15 f16_16:=rfl
def f16_9:AC:=.cond (.r 12) f16_10 f16_14
theorem f16_9e:CN f16_9 12 f16_10 f16_14:=rfl
def f16_7:AC:=.seq f16_8 f16_9
theorem f16_7e:SQ f16_7 f16_8 f16_9:=rfl
def f16_6:AC:=.block 0 f16_7
theorem f16_6e:BL f16_6 f16_7 0:=rfl
def f16_4:AC:=.seq f16_5 f16_6
theorem f16_4e:SQ f16_4 f16_5 f16_6:=rfl
def f16_22l:List GI:=[vv 40 0,
    vd 41 3 1,
    vl 42 41,
    ⟨none,.call (some 43) false (.f 56) [(.r 40),(.r 42)]⟩,
    ⟨none,.bst (some 44) [(0,1),(1,1),(2,1),(3,1)] (.agg [(.lit (.bool false)),(.lit (.bool false)),(.lit (.slice none 0 0)),(.lit (.int .i64 0))]) [(3,(.r 43))]⟩,
    ⟨none,.store 4 (.r 4) (.r 44)⟩]
def f16_22:AC:=.ops [4] [4] f16_22l
theorem f16_22e:OP f16_22 f16_22l [4] [4]:=rfl
def f16_21:AC:=.seq f16_22 .ret
theorem f16_21e:SQ f16_21 f16_22 .ret:=rfl
def f16_3:AC:=.seq f16_4 f16_21
theorem f16_3e:SQ f16_3 f16_4 f16_21:=rfl
def f16_1:AC:=.seq f16_2 f16_3
theorem f16_1e:SQ f16_1 f16_2 f16_3:=rfl
def c_f16:AFun:=⟨45,[.cell 4 (some 4)],f16_1⟩
theorem k_f16:bj Go.Proofs.Try.prog x_f16 16 = some c_f16:=by kernel_rfl
theorem e_f16:aQ Go.Proofs.Try.prog 16 = true:=by kernel_rfl

def n_f18:Nat:=18
def x_f18:Cx:=⟨some,id,62,fun s=>([0,1,6,8,9,11,12,14,15,16,18,19,20,21,24,25,26,28,29,30,31,34,35,36,38,39,40,41,44,45,46,47,48,49,52,53,54,55,56,57,59,61]:List Nat).contains s,fun s=>([]:List Nat).contains s,msOf [(2,[0,3,4],[3,4]),(6,[0,3,4,5],[3,4,5]),(14,[0,3,4,5],[3,4,5]),(60,[0,3,4,5,8],[3,4,5]),(244,[0,3,4,5,8,13],[3,4,5]),(490,[4,5,6],[4,5]),(982,[0,3,4,5,8,23],[3,4,5]),(1966,[4,5,6],[4,5]),(3934,[0,3,4,5,8,33],[3,4,5]),(7870,[4,5,6],[4,5]),(15742,[0,3,4,5,8,43],[3,4,5]),(31486,[4,5,6],[4,5]),(62974,[0,3,4,5,51],[3,4,5]),(125950,[4,5,6],[4,5]),(125951,[4,5,6],[4,5]),(62,[4,5],[4,5]),(126,[4],[4])]⟩
def f18_2l:List GI:=[⟨none,.boxL 3 4 (.r 1)⟩,
    ⟨none,.newL 4 [(.lit (.bool false)),(.lit (.bool false)),(.lit (.slice none 0 0)),(.lit (.int .i64 0))]⟩]
def f18_2:AC:=.ops [0,3,4] [3,4] f18_2l
theorem f18_2e:OP f18_2 f18_2l [0,3,4] [3,4]:=rfl
def f18_4l:List GI:=[⟨none,.newL 5 [(.lit (.bool false)),(.lit (.bool false)),(.lit (.slice none 0 0)),(.lit (.int .i64 0))]⟩]
def f18_4:AC:=.ops [0,3,4,5] [3,4,5] f18_4l
theorem f18_4e:OP f18_4 f18_4l [0,3,4,5] [3,4,5]:=rfl
def f18_6l:List GI:=[⟨none,.mv (some 6) (.c (.lit (.int .i64 0)))⟩]
def f18_6:AC:=.ops [0,3,4,5] [3,4,5] f18_6l
theorem f18_6e:OP f18_6 f18_6l [0,3,4,5] [3,4,5]:=rfl
def f18_9l:List GI:=[vd 7 3 0,
    vl 8 7]
def f18_9:AC:=.ops [0,3,4,5,8] [3,4,5] f18_9l
theorem f18_9e:OP f18_9 f18_9l [0,3,4,5,8] [3,4,5]:=rfl
def f18_12l:List GI:=[vb 14 .eql 8 0,
    vo 13 14]
def f18_12:AC:=.ops [0,3,4,5,8,13] [3,4,5] f18_12l
theorem f18_12e:OP f18_12 f18_12l [0,3,4,5,8,13] [3,4,5]:=rfl
def f18_14l:List GI:=[vv 16 0,
    vd 17 3 1,
    vl 18 17,
    ⟨none,.call (some 19) false (.f 45) [(.r 16),(.r 18)]⟩,
    vv 15 19,
    ve 20 15 0,
    ve 21 15 1,
    vd 22 5 1,
    ⟨none,.store 1 (.r 22) (.r 20)⟩,
    vo 6 21]
def f18_14:AC:=.ops [4,5,6] [4,5] f18_14l
theorem f18_14e:OP f18_14 f18_14l [4,5,6] [4,5]:=rfl
def f18_16l:List GI:=[vb 24 .eql 8 1,
    vo 23 24]
def f18_16:AC:=.ops [0,3,4,5,8,23] [3,4,5] f18_16l
theorem f18_16e:OP f18_16 f18_16l [0,3,4,5,8,23] [3,4,5]:=rfl
def f18_18l:List GI:=[vv 26 0,
    vd 27 3 1,
    vl 28 27,
    ⟨none,.call (some 29) false (.f 58) [(.r 26),(.r 28)]⟩,
    vv 25 29,
    ve 30 25 0,
    ve 31 25 1,
    vd 32 5 2,
    ⟨none,.store 1 (.r 32) (.r 30)⟩,
    vo 6 31]
def f18_18:AC:=.ops [4,5,6] [4,5] f18_18l
theorem f18_18e:OP f18_18 f18_18l [4,5,6] [4,5]:=rfl
def f18_20l:List GI:=[vb 34 .eql 8 2,
    vo 33 34]
def f18_20:AC:=.ops [0,3,4,5,8,33] [3,4,5] f18_20l
theorem f18_20e:OP f18_20 f18_20l [0,3,4,5,8,33] [3,4,5]:=rfl
def f18_22l:List GI:=[vv 36 0,
    vd 37 3 1,
    vl 38 37,
    ⟨none,.call (some 39) false (.f 59) [(.r 36),(.r 38)]⟩,
    vv 35 39,
    ve 40 35 0,
    ve 41 35 1,
    vd 42 5 2,
    ⟨none,.store 1 (.r 42) (.r 40)⟩,
    vo 6 41]
def f18_22:AC:=.ops [4,5,6] [4,5] f18_22l
theorem f18_22e:OP f18_22 f18_22l [4,5,6] [4,5]:=rfl
def f18_24l:List GI:=[vb 44 .eql 8 3,
    vo 43 44]
def f18_24:AC:=.ops [0,3,4,5,8,43] [3,4,5] f18_24l
theorem f18_24e:OP f18_24 f18_24l [0,3,4,5,8,43] [3,4,5]:=rfl
def f18_26l:List GI:=[vv 46 0,
    ⟨none,.call (some 47) false (.f 60) [(.r 46)]⟩,
    vv 45 47,
    ve 48 45 0,
    ve 49 45 1,
    vd 50 5 2,
    ⟨none,.store 1 (.r 50) (.r 48)⟩,
    vo 6 49]
def f18_26:AC:=.ops [4,5,6] [4,5] f18_26l
theorem f18_26e:OP f18_26 f18_26l [4,5,6] [4,5]:=rfl
def f18_28l:List GI:=[vb 52 .eql 8 4,
    vo 51 52]
def f18_28:AC:=.ops [0,3,4,5,51] [3,4,5] f18_28l
theorem f18_28e:OP f18_28 f18_28l [0,3,4,5,51] [3,4,5]:=rfl
def f18_30l:List GI:=[vv 54 0,
    ⟨none,.call (some 55) false (.f 46) [(.r 54)]⟩,
    vv 53 55,
    ve 56 53 0,
    ve 57 53 1,
    vd 58 5 2,
    ⟨none,.store 1 (.r 58) (.r 56)⟩,
    vo 6 57]
def f18_30:AC:=.ops [4,5,6] [4,5] f18_30l
theorem f18_30e:OP f18_30 f18_30l [4,5,6] [4,5]:=rfl
def f18_31l:List GI:=[vv 9 0,
    vd 10 3 1,
    vl 11 10,
    ⟨none,.call (some 12) false (.f 61) [(.r 9),(.r 11)]⟩,
    vo 6 12]
def f18_31:AC:=.ops [4,5,6] [4,5] f18_31l
theorem f18_31e:OP f18_31 f18_31l [4,5,6] [4,5]:=rfl
def f18_29:AC:=.cond (.r 51) f18_30 f18_31
theorem f18_29e:CN f18_29 51 f18_30 f18_31:=rfl
def f18_27:AC:=.seq f18_28 f18_29
theorem f18_27e:SQ f18_27 f18_28 f18_29:=rfl
def f18_25:AC:=.cond (.r 43) f18_26 f18_27
theorem f18_25e:CN f18_25 43 f18_26 f18_27:=rfl
def f18_23:AC:=.seq f18_24 f18_25
theorem f18_23e:SQ f18_23 f18_24 f18_25:=rfl
def f18_21:AC:=.cond (.r 33) f18_22 f18_23
theorem f18_21e:CN f18_21 33 f18_22 f18_23:=rfl
def f18_19:AC:=.seq f18_20 f18_21
theorem f18_19e:SQ f18_19 f18_20 f18_21:=rfl
def f18_17:AC:=.cond (.r 23) f18_18 f18_19
theorem f18_17e:CN f18_17 23 f18_18 f18_19:=rfl
def f18_15:AC:=.seq f18_16 f18_17
theorem f18_15e:SQ f18_15 f18_16 f18_17:=rfl
def f18_13:AC:=.cond (.r 13) f18_14 f18_15
theorem f18_13e:CN f18_13 13 f18_14 f18_15:=rfl
def f18_11:AC:=.seq f18_12 f18_13
theorem f18_11e:SQ f18_11 f18_12 f18_13:=rfl
def f18_10:AC:=.block 0 f18_11
theorem f18_10e:BL f18_10 f18_11 0:=rfl
def f18_8:AC:=.seq f18_9 f18_10
theorem f18_8e:SQ f18_8 f18_9 f18_10:=rfl
def f18_33l:List GI:=[vv 59 6,
    vd 60 5 3,
    ⟨none,.store 1 (.r 60) (.r 59)⟩]
def f18_33:AC:=.ops [4,5] [4,5] f18_33l
theorem f18_33e:OP f18_33 f18_33l [4,5] [4,5]:=rfl
def f18_35l:List GI:=[⟨none,.load (some 61) (.r 5) (some 4)⟩,
    ⟨none,.store 4 (.r 4) (.r 61)⟩]
def f18_35:AC:=.ops [4] [4] f18_35l
theorem f18_35e:OP f18_35 f18_35l [4] [4]:=rfl
def f18_34:AC:=.seq f18_35 .ret
theorem f18_34e:SQ f18_34 f18_35 .ret:=rfl
def f18_32:AC:=.seq f18_33 f18_34
theorem f18_32e:SQ f18_32 f18_33 f18_34:=rfl
def f18_7:AC:=.seq f18_8 f18_32
theorem f18_7e:SQ f18_7 f18_8 f18_32:=rfl
def f18_5:AC:=.seq f18_6 f18_7
theorem f18_5e:SQ f18_5 f18_6 f18_7:=rfl
def f18_3:AC:=.seq f18_4 f18_5
theorem f18_3e:SQ f18_3 f18_4 f18_5:=rfl
def f18_1:AC:=.seq f18_2 f18_3
theorem f18_1e:SQ f18_1 f18_2 f18_3:=rfl
def c_f18:AFun:=⟨62,[.cell 4 (some 4)],f18_1⟩
theorem k_f18:bj Go.Proofs.Try.prog x_f18 18 = some c_f18:=by kernel_rfl
theorem e_f18:aQ Go.Proofs.Try.prog 18 = true:=by kernel_rfl

def n_f19:Nat:=19
def x_f19:Cx:=⟨some,id,19,fun s=>([0,2,3,4,5,6,11,12,18]:List Nat).contains s,fun s=>([]:List Nat).contains s,msOf [(2,[0],[]),(12,[0,13],[]),(52,[2,3],[]),(14,[2,3],[])]⟩
def f19_2l:List GI:=[⟨none,.mv (some 2) (.c (.lit (.int .i64 0)))⟩,
    ⟨none,.mv (some 3) (.c (.lit (.bool false)))⟩]
def f19_2:AC:=.ops [0] [] f19_2l
theorem f19_2e:OP f19_2 f19_2l [0] []:=rfl
def f19_5l:List GI:=[vv 4 0,
    ⟨none,.call (some 5) false (.f 62) [(.r 4)]⟩,
    vv 6 5,
    ⟨some (6,false),.mv (some 7) (.r 0)⟩,
    ⟨some (6,false),.nilck (some 8) (.r 7)⟩,
    ⟨some (6,false),.addr (some 9) (.r 8) 0⟩,
    ⟨some (6,false),.addr (some 10) (.r 9) 0⟩,
    ⟨some (6,false),.load (some 11) (.r 10) none⟩,
    ⟨some (6,false),.bin (some 12) .num .lss (.r 11) (.c (.lit (.int .i64 0)))⟩,
    ⟨none,.pick (some 13) (.r 6) (.c (.lit (.bool true))) (.r 12)⟩]
def f19_5:AC:=.ops [0,13] [] f19_5l
theorem f19_5e:OP f19_5 f19_5l [0,13] []:=rfl
def f19_8l:List GI:=[⟨none,.mv (some 2) (.c (.lit (.int .i64 0)))⟩,
    ⟨none,.mv (some 3) (.c (.lit (.bool false)))⟩]
def f19_8:AC:=.ops [2,3] [] f19_8l
theorem f19_8e:OP f19_8 f19_8l [2,3] []:=rfl
def f19_7:AC:=.seq f19_8 .ret
theorem f19_7e:SQ f19_7 f19_8 .ret:=rfl
def f19_6:AC:=.cond (.r 13) f19_7 .skip
theorem f19_6e:CN f19_6 13 f19_7 .skip:=rfl
def f19_4:AC:=.seq f19_5 f19_6
theorem f19_4e:SQ f19_4 f19_5 f19_6:=rfl
def f19_10l:List GI:=[vv 14 0,
    vn 15 14,
    vd 16 15 0,
    vd 17 16 0,
    vl 18 17,
    vo 2 18,
    ⟨none,.mv (some 3) (.c (.lit (.bool true)))⟩]
def f19_10:AC:=.ops [2,3] [] f19_10l
theorem f19_10e:OP f19_10 f19_10l [2,3] []:=rfl
def f19_9:AC:=.seq f19_10 .ret
theorem f19_9e:SQ f19_9 f19_10 .ret:=rfl
def f19_3:AC:=.seq f19_4 f19_9
theorem f19_3e:SQ f19_3 f19_4 f19_9:=rfl
def f19_1:AC:=.seq f19_2 f19_3
theorem f19_1e:SQ f19_1 f19_2 f19_3:=rfl
def c_f19:AFun:=⟨19,[.tmp 2,.tmp 3],f19_1⟩
theorem k_f19:bj Go.Proofs.Try.prog x_f19 19 = some c_f19:=by kernel_rfl
theorem e_f19:aQ Go.Proofs.Try.prog 19 = true:=by kernel_rfl

def n_f20:Nat:=20
def x_f20:Cx:=⟨some,id,23,fun s=>([0,2,3,4,13,14,21,22]:List Nat).contains s,fun s=>([]:List Nat).contains s,msOf [(2,[0],[]),(12,[0,5],[]),(52,[2,3],[]),(14,[2,3],[])]⟩
def f20_2l:List GI:=[⟨none,.mv (some 2) (.c (.lit (.int .i64 0)))⟩,
    ⟨none,.mv (some 3) (.c (.lit (.int .i64 0)))⟩]
def f20_2:AC:=.ops [0] [] f20_2l
theorem f20_2e:OP f20_2 f20_2l [0] []:=rfl
def f20_5l:List GI:=[vv 4 0,
    ⟨none,.call (some 5) false (.f 62) [(.r 4)]⟩]
def f20_5:AC:=.ops [0,5] [] f20_5l
theorem f20_5e:OP f20_5 f20_5l [0,5] []:=rfl
def f20_8l:List GI:=[⟨none,.mv (some 2) (.c (.lit (.int .i64 0)))⟩,
    ⟨none,.mv (some 3) (.c (.lit (.int .i64 0)))⟩]
def f20_8:AC:=.ops [2,3] [] f20_8l
theorem f20_8e:OP f20_8 f20_8l [2,3] []:=rfl
def f20_7:AC:=.seq f20_8 .ret
theorem f20_7e:SQ f20_7 f20_8 .ret:=rfl
def f20_6:AC:=.cond (.r 5) f20_7 .skip
theorem f20_6e:CN f20_6 5 f20_7 .skip:=rfl
def f20_4:AC:=.seq f20_5 f20_6
theorem f20_4e:SQ f20_4 f20_5 f20_6:=rfl
def f20_10h:List GI:=[vv 6 0,
    vn 7 6,
    vd 8 7 0,
    vd 9 8 1,
    vl 10 9,
    vn 11 10,
    vd 12 11 0,
    vl 13 12,
    ⟨none,.call (some 14) true (.f 55) [(.r 13)]⟩,
    vv 15 0,
    vn 16 15,
    vd 17 16 2,
    vl 18 17,
    vn 19 18,
    vd 20 19 0,
    vl 21 20]
def f20_10l:List GI:=[⟨none,.call (some 22) false (.f 55) [(.r 21)]⟩,
    vo 2 14,
    vo 3 22]
def f20_10:AC:=.draw [2,3] [] [] f20_10h f20_10l
theorem f20_10e:aC P id m f20_10 sf st Q = bD P id sf.locs st f20_10h (cR P id m [] [2,3] [] f20_10l Q st) [] ⟨sf.regs,br [] sf.locs⟩:=rfl
def f20_9:AC:=.seq f20_10 .ret
theorem f20_9e:SQ f20_9 f20_10 .ret:=rfl
def f20_3:AC:=.seq f20_4 f20_9
theorem f20_3e:SQ f20_3 f20_4 f20_9:=rfl
def f20_1:AC:=.seq f20_2 f20_3
theorem f20_1e:SQ f20_1 f20_2 f20_3:=rfl
def c_f20:AFun:=⟨23,[.tmp 2,.tmp 3],f20_1⟩
theorem k_f20:bj Go.Proofs.Try.prog x_f20 20 = some c_f20:=by kernel_rfl
theorem e_f20:aQ Go.Proofs.Try.prog 20 = true:=by kernel_rfl

def n_f21:Nat:=21
def x_f21:Cx:=⟨some,id,10,fun s=>([0,1,4,5,6,7,8,9]:List Nat).contains s,fun s=>([]:List Nat).contains s,msOf [(2,[0,1],[]),(6,[4],[])]⟩
def f21_2l:List GI:=[⟨none,.mv (some 4) (.c (.lit (.slice none 0 0)))⟩]
def f21_2:AC:=.ops [0,1] [] f21_2l
theorem f21_2e:OP f21_2 f21_2l [0,1] []:=rfl
def f21_4l:List GI:=[vv 5 0,
    ⟨none,.app (some 6) 1 8 (.c (.lit (.slice none 0 0))) (.r 5)⟩,
    vv 7 1,
    ⟨none,.bsl (some 8) 1 1 (.lit (.int .i64 0)) [(0,(.r 7))]⟩,
    ⟨none,.appS 9 6 1 8 (.r 8)⟩,
    vo 4 9]
def f21_4:AC:=.ops [4] [] f21_4l
theorem f21_4e:OP f21_4 f21_4l [4] []:=rfl
def f21_3:AC:=.seq f21_4 .ret
theorem f21_3e:SQ f21_3 f21_4 .ret:=rfl
def f21_1:AC:=.seq f21_2 f21_3
theorem f21_1e:SQ f21_1 f21_2 f21_3:=rfl
def c_f21:AFun:=⟨10,[.tmp 4],f21_1⟩
theorem k_f21:bj Go.Proofs.Try.prog x_f21 21 = some c_f21:=by kernel_rfl
theorem e_f21:aQ Go.Proofs.Try.prog 21 = true:=by kernel_rfl

def n_f22:Nat:=22
def x_f22:Cx:=⟨some,id,18,fun s=>([0,1,4,5,6,7,8,10,11,13,15,16]:List Nat).contains s,fun s=>([]:List Nat).contains s,msOf [(2,[0,1],[]),(12,[0,1,5],[]),(26,[0,1,5],[]),(208,[0,1,5,9],[]),(419,[],[]),(840,[0,1,5,17],[]),(3364,[4],[]),(211,[0,1,5],[]),(14,[4],[])]⟩
def f22_2l:List GI:=[⟨none,.mv (some 4) (.c (.lit (.bool false)))⟩]
def f22_2:AC:=.ops [0,1] [] f22_2l
theorem f22_2e:OP f22_2 f22_2l [0,1] []:=rfl
def f22_5l:List GI:=[⟨none,.mv (some 5) (.c (.lit (.int .i64 0)))⟩]
def f22_5:AC:=.ops [0,1,5] [] f22_5l
theorem f22_5e:OP f22_5 f22_5l [0,1,5] []:=rfl
def f22_10l:List GI:=[vv 6 5,
    vv 7 0,
    ⟨none,.len (some 8) .sl (.r 7)⟩,
    ⟨none,.bin (some 9) .num .lss (.r 6) (.r 8)⟩]
def f22_10:AC:=.ops [0,1,5,9] [] f22_10l
theorem f22_10e:OP f22_10 f22_10l [0,1,5,9] []:=rfl
def f22_11:AC:=.cond (.r 9) .skip (.exit [] [] 0)
theorem f22_11e:CN f22_11 9 .skip (.exit [] [] 0):=rfl
def f22_9:AC:=.seq f22_10 f22_11
theorem f22_9e:SQ f22_9 f22_10 f22_11:=rfl
def f22_15l:List GI:=[vv 12 0,
    vv 13 5,
    ⟨none,.ixS (some 14) (.r 12) (.r 13) 1⟩,
    vl 15 14,
    vv 16 1,
    ⟨none,.bin (some 17) .num .eql (.r 15) (.r 16)⟩]
def f22_15:AC:=.ops [0,1,5,17] [] f22_15l
theorem f22_15e:OP f22_15 f22_15l [0,1,5,17] []:=rfl
def f22_18l:List GI:=[⟨none,.mv (some 4) (.c (.lit (.bool true)))⟩]
def f22_18:AC:=.ops [4] [] f22_18l
theorem f22_18e:OP f22_18 f22_18l [4] []:=rfl
def f22_17:AC:=.seq f22_18 .ret
theorem f22_17e:SQ f22_17 f22_18 .ret:=rfl
def f22_16:AC:=.cond (.r 17) f22_17 .skip
theorem f22_16e:CN f22_16 17 f22_17 .skip:=rfl
def f22_14:AC:=.seq f22_15 f22_16
theorem f22_14e:SQ f22_14 f22_15 f22_16:=rfl
def f22_13:AC:=.block 1 f22_14
theorem f22_13e:BL f22_13 f22_14 1:=rfl
def f22_19l:List GI:=[vv 10 5,
    vb 11 .add 10 1,
    vo 5 11]
def f22_19:AC:=.ops [0,1,5] [] f22_19l
theorem f22_19e:OP f22_19 f22_19l [0,1,5] []:=rfl
def f22_12:AC:=.seq f22_13 f22_19
theorem f22_12e:SQ f22_12 f22_13 f22_19:=rfl
def f22_8:AC:=.seq f22_9 f22_12
theorem f22_8e:SQ f22_8 f22_9 f22_12:=rfl
def f22_7:AC:=.loop [0,1,5] [] f22_8
theorem f22_7w:aC P id m f22_7 sf st Q = cO (aC P id m f22_8) [0,1,5] [] sf st Q:=rfl
def f22_6:AC:=.block 0 f22_7
theorem f22_6e:BL f22_6 f22_7 0:=rfl
def f22_4:AC:=.seq f22_5 f22_6
theorem f22_4e:SQ f22_4 f22_5 f22_6:=rfl
def f22_21l:List GI:=[⟨none,.mv (some 4) (.c (.lit (.bool false)))⟩]
def f22_21:AC:=.ops [4] [] f22_21l
theorem f22_21e:OP f22_21 f22_21l [4] []:=rfl
def f22_20:AC:=.seq f22_21 .ret
theorem f22_20e:SQ f22_20 f22_21 .ret:=rfl
def f22_3:AC:=.seq f22_4 f22_20
theorem f22_3e:SQ f22_3 f22_4 f22_20:=rfl
def f22_1:AC:=.seq f22_2 f22_3
theorem f22_1e:SQ f22_1 f22_2 f22_3:=rfl
def c_f22:AFun:=⟨18,[.tmp 4],f22_1⟩
theorem k_f22:bj Go.Proofs.Try.prog x_f22 22 = some c_f22:=by kernel_rfl
theorem e_f22:aQ Go.Proofs.Try.prog 22 = true:=by kernel_rfl

def n_f23:Nat:=23
def x_f23:Cx:=⟨some,id,27,fun s=>([0,1,4,5,6,7,8,9,11,12,14,16,17,19,21,23,24,25,26]:List Nat).contains s,fun s=>([]:List Nat).contains s,msOf [(2,[0,1],[]),(6,[0,1,5],[]),(28,[0,1,5,6],[]),(58,[0,1,5,6],[]),(464,[0,1,5,6,10],[]),(931,[5],[]),(1864,[0,1,5,6,18],[]),(3730,[0,1,5,6],[]),(467,[0,1,5,6],[]),(30,[4],[])]⟩
def f23_2l:List GI:=[⟨none,.mv (some 4) (.c (.lit (.slice none 0 0)))⟩]
def f23_2:AC:=.ops [0,1] [] f23_2l
theorem f23_2e:OP f23_2 f23_2l [0,1] []:=rfl
def f23_4l:List GI:=[⟨none,.mv (some 5) (.c (.lit (.slice none 0 0)))⟩]
def f23_4:AC:=.ops [0,1,5] [] f23_4l
theorem f23_4e:OP f23_4 f23_4l [0,1,5] []:=rfl
def f23_7l:List GI:=[⟨none,.mv (some 6) (.c (.lit (.int .i64 0)))⟩]
def f23_7:AC:=.ops [0,1,5,6] [] f23_7l
theorem f23_7e:OP f23_7 f23_7l [0,1,5,6] []:=rfl
def f23_12l:List GI:=[vv 7 6,
    vv 8 0,
    ⟨none,.len (some 9) .sl (.r 8)⟩,
    ⟨none,.bin (some 10) .num .lss (.r 7) (.r 9)⟩]
def f23_12:AC:=.ops [0,1,5,6,10] [] f23_12l
theorem f23_12e:OP f23_12 f23_12l [0,1,5,6,10] []:=rfl
def f23_13:AC:=.cond (.r 10) .skip (.exit [5] [] 0)
theorem f23_13e:CN f23_13 10 .skip (.exit [5] [] 0):=rfl
def f23_11:AC:=.seq f23_12 f23_13
theorem f23_11e:SQ f23_11 f23_12 f23_13:=rfl
def f23_17l:List GI:=[vv 13 0,
    vv 14 6,
    ⟨none,.ixS (some 15) (.r 13) (.r 14) 1⟩,
    vl 16 15,
    vv 17 1,
    ⟨none,.bin (some 18) .num .neq (.r 16) (.r 17)⟩]
def f23_17:AC:=.ops [0,1,5,6,18] [] f23_17l
theorem f23_17e:OP f23_17 f23_17l [0,1,5,6,18] []:=rfl
def f23_19l:List GI:=[vo 19 5,
    vv 20 0,
    vv 21 6,
    ⟨none,.ixS (some 22) (.r 20) (.r 21) 1⟩,
    vl 23 22,
    ⟨none,.bsl (some 24) 1 1 (.lit (.int .i64 0)) [(0,(.r 23))]⟩,
    ⟨none,.appS 25 19 1 8 (.r 24)⟩,
    vo 5 25]
def f23_19:AC:=.ops [0,1,5,6] [] f23_19l
theorem f23_19e:OP f23_19 f23_19l [0,1,5,6] []:=rfl
def f23_18:AC:=.cond (.r 18) f23_19 .skip
theorem f23_18e:CN f23_18 18 f23_19 .skip:=rfl
def f23_16:AC:=.seq f23_17 f23_18
theorem f23_16e:SQ f23_16 f23_17 f23_18:=rfl
def f23_15:AC:=.block 1 f23_16
theorem f23_15e:BL f23_15 f23_16 1:=rfl
def f23_20l:List GI:=[vv 11 6,
    vb 12 .add 11 1,
    vo 6 12]
def f23_20:AC:=.ops [0,1,5,6] [] f23_20l
theorem f23_20e:OP f23_20 f23_20l [0,1,5,6] []:=rfl
def f23_14:AC:=.seq f23_15 f23_20
theorem f23_14e:SQ f23_14 f23_15 f23_20:=rfl
def f23_10:AC:=.seq f23_11 f23_14
theorem f23_10e:SQ f23_10 f23_11 f23_14:=rfl
def f23_9:AC:=.loop [0,1,5,6] [] f23_10
theorem f23_9w:aC P id m f23_9 sf st Q = cO (aC P id m f23_10) [0,1,5,6] [] sf st Q:=rfl
def f23_8:AC:=.block 0 f23_9
theorem f23_8e:BL f23_8 f23_9 0:=rfl
def f23_6:AC:=.seq f23_7 f23_8
theorem f23_6e:SQ f23_6 f23_7 f23_8:=rfl
def f23_22l:List GI:=[vv 26 5,
    vo 4 26]
def f23_22:AC:=.ops [4] [] f23_22l
theorem f23_22e:OP f23_22 f23_22l [4] []:=rfl
def f23_21:AC:=.seq f23_22 .ret
theorem f23_21e:SQ f23_21 f23_22 .ret:=rfl
def f23_5:AC:=.seq f23_6 f23_21
theorem f23_5e:SQ f23_5 f23_6 f23_21:=rfl
def f23_3:AC:=.seq f23_4 f23_5
theorem f23_3e:SQ f23_3 f23_4 f23_5:=rfl
def f23_1:AC:=.seq f23_2 f23_3
theorem f23_1e:SQ f23_1 f23_2 f23_3:=rfl
def c_f23:AFun:=⟨27,[.tmp 4],f23_1⟩
theorem k_f23:bj Go.Proofs.Try.prog x_f23 23 = some c_f23:=by kernel_rfl
theorem e_f23:aQ Go.Proofs.Try.prog 23 = true:=by kernel_rfl

def n_f25:Nat:=25
def x_f25:Cx:=⟨some,id,52,fun s=>([0,1,4,5,6,7,8,10,14,15,16,17,19,26,27,28,32,37,38,43,44,50,51]:List Nat).contains s,fun s=>([]:List Nat).contains s,msOf [(2,[0,1],[]),(12,[0,1,9],[]),(52,[4,5,6],[]),(28,[0,1,7],[]),(58,[0,1,7,18],[]),(236,[4,5,6],[]),(60,[0,1,33],[]),(244,[],[]),(490,[4,5,6],[]),(62,[0],[]),(126,[4,5,6],[])]⟩
def f25_2l:List GI:=[⟨none,.mv (some 4) (.c (.lit (.bool false)))⟩,
    ⟨none,.mv (some 5) (.c (.lit (.slice none 0 0)))⟩,
    ⟨none,.mv (some 6) (.c (.lit (.int .i64 0)))⟩]
def f25_2:AC:=.ops [0,1] [] f25_2l
theorem f25_2e:OP f25_2 f25_2l [0,1] []:=rfl
def f25_5l:List GI:=[vv 8 0,
    ⟨none,.call (some 9) false (.f 54) [(.r 8)]⟩]
def f25_5:AC:=.ops [0,1,9] [] f25_5l
theorem f25_5e:OP f25_5 f25_5l [0,1,9] []:=rfl
def f25_8l:List GI:=[⟨none,.mv (some 4) (.c (.lit (.bool false)))⟩,
    ⟨none,.mv (some 5) (.c (.lit (.slice none 0 0)))⟩,
    ⟨none,.mv (some 6) (.c (.lit (.int .i64 1)))⟩]
def f25_8:AC:=.ops [4,5,6] [] f25_8l
theorem f25_8e:OP f25_8 f25_8l [4,5,6] []:=rfl
def f25_7:AC:=.seq f25_8 .ret
theorem f25_7e:SQ f25_7 f25_8 .ret:=rfl
def f25_6:AC:=.cond (.r 9) f25_7 .skip
theorem f25_6e:CN f25_6 9 f25_7 .skip:=rfl
def f25_4:AC:=.seq f25_5 f25_6
theorem f25_4e:SQ f25_4 f25_5 f25_6:=rfl
def f25_11l:List GI:=[vv 10 1,
    vv 11 0,
    vn 12 11,
    vd 13 12 2,
    vl 14 13,
    ⟨none,.bsl (some 15) 1 1 (.lit (.pointer none)) [(0,(.r 14))]⟩,
    ⟨none,.call (some 16) false (.f 64) [(.r 10),(.r 15)]⟩,
    vo 7 16]
def f25_11:AC:=.ops [0,1,7] [] f25_11l
theorem f25_11e:OP f25_11 f25_11l [0,1,7] []:=rfl
def f25_13l:List GI:=[vv 17 7,
    vb 18 .neq 17 0]
def f25_13:AC:=.ops [0,1,7,18] [] f25_13l
theorem f25_13e:OP f25_13 f25_13l [0,1,7,18] []:=rfl
def f25_16l:List GI:=[vv 19 7,
    ⟨none,.mv (some 4) (.c (.lit (.bool false)))⟩,
    ⟨none,.mv (some 5) (.c (.lit (.slice none 0 0)))⟩,
    vo 6 19]
def f25_16:AC:=.ops [4,5,6] [] f25_16l
theorem f25_16e:OP f25_16 f25_16l [4,5,6] []:=rfl
def f25_15:AC:=.seq f25_16 .ret
theorem f25_15e:SQ f25_15 f25_16 .ret:=rfl
def f25_14:AC:=.cond (.r 18) f25_15 .skip
theorem f25_14e:CN f25_14 18 f25_15 .skip:=rfl
def f25_12:AC:=.seq f25_13 f25_14
theorem f25_12e:SQ f25_12 f25_13 f25_14:=rfl
def f25_10:AC:=.seq f25_11 f25_12
theorem f25_10e:SQ f25_10 f25_11 f25_12:=rfl
def f25_19h:List GI:=[vv 20 0,
    vn 21 20,
    vd 22 21 2,
    vl 23 22,
    vn 24 23,
    vd 25 24 0,
    vl 26 25,
    ⟨none,.call (some 27) true (.f 55) [(.r 26)]⟩,
    vb 28 .add 27 1,
    vv 29 0,
    vn 30 29,
    vd 31 30 0,
    vl 32 31]
def f25_19l:List GI:=[⟨none,.bin (some 33) .num .lss (.r 28) (.r 32)⟩]
def f25_19:AC:=.draw [0,1,33] [] [] f25_19h f25_19l
theorem f25_19e:aC P id m f25_19 sf st Q = bD P id sf.locs st f25_19h (cR P id m [] [0,1,33] [] f25_19l Q st) [] ⟨sf.regs,br [] sf.locs⟩:=rfl
def f25_22l:List GI:=[vv 34 0,
    vn 35 34,
    vd 36 35 2,
    vl 37 36,
    vv 38 1,
    ⟨none,.call (some 39) false (.f 65) [(.r 37),(.r 38)]⟩]
def f25_22:AC:=.ops [] [] f25_22l
theorem f25_22e:OP f25_22 f25_22l [] []:=rfl
def f25_24l:List GI:=[⟨none,.mv (some 4) (.c (.lit (.bool false)))⟩,
    ⟨none,.mv (some 5) (.c (.lit (.slice none 0 0)))⟩,
    ⟨none,.mv (some 6) (.c (.lit (.int .i64 0)))⟩]
def f25_24:AC:=.ops [4,5,6] [] f25_24l
theorem f25_24e:OP f25_24 f25_24l [4,5,6] []:=rfl
def f25_23:AC:=.seq f25_24 .ret
theorem f25_23e:SQ f25_23 f25_24 .ret:=rfl
def f25_21:AC:=.seq f25_22 f25_23
theorem f25_21e:SQ f25_21 f25_22 f25_23:=rfl
def f25_20:AC:=.cond (.r 33) f25_21 .skip
theorem f25_20e:CN f25_20 33 f25_21 .skip:=rfl
def f25_18:AC:=.seq f25_19 f25_20
theorem f25_18e:SQ f25_18 f25_19 f25_20:=rfl
def f25_26l:List GI:=[vv 40 0,
    vn 41 40,
    vd 42 41 1,
    vl 43 42,
    vb 44 .add 43 1,
    vn 45 40,
    vd 46 45 1,
    ⟨none,.store 1 (.r 46) (.r 44)⟩]
def f25_26:AC:=.ops [0] [] f25_26l
theorem f25_26e:OP f25_26 f25_26l [0] []:=rfl
def f25_28l:List GI:=[vv 47 0,
    vn 48 47,
    vd 49 48 2,
    vl 50 49,
    ⟨none,.call (some 51) false (.f 66) [(.r 50)]⟩,
    ⟨none,.mv (some 4) (.c (.lit (.bool true)))⟩,
    vo 5 51,
    ⟨none,.mv (some 6) (.c (.lit (.int .i64 0)))⟩]
def f25_28:AC:=.ops [4,5,6] [] f25_28l
theorem f25_28e:OP f25_28 f25_28l [4,5,6] []:=rfl
def f25_27:AC:=.seq f25_28 .ret
theorem f25_27e:SQ f25_27 f25_28 .ret:=rfl
def f25_25:AC:=.seq f25_26 f25_27
theorem f25_25e:SQ f25_25 f25_26 f25_27:=rfl
def f25_17:AC:=.seq f25_18 f25_25
theorem f25_17e:SQ f25_17 f25_18 f25_25:=rfl
def f25_9:AC:=.seq f25_10 f25_17
theorem f25_9e:SQ f25_9 f25_10 f25_17:=rfl
def f25_3:AC:=.seq f25_4 f25_9
theorem f25_3e:SQ f25_3 f25_4 f25_9:=rfl
def f25_1:AC:=.seq f25_2 f25_3
theorem f25_1e:SQ f25_1 f25_2 f25_3:=rfl
def c_f25:AFun:=⟨52,[.tmp 4,.tmp 5,.tmp 6],f25_1⟩
theorem k_f25:bj Go.Proofs.Try.prog x_f25 25 = some c_f25:=by kernel_rfl
theorem e_f25:aQ Go.Proofs.Try.prog 25 = true:=by kernel_rfl

def n_f27:Nat:=27
def x_f27:Cx:=⟨some,id,37,fun s=>([0,1,6,7,9,10,12,13,14,15,16,18,19,20,21,23,24,26,27,28,30,31,32,35,36]:List Nat).contains s,fun s=>([]:List Nat).contains s,msOf [(2,[1,2,4,5],[2,4,5]),(12,[1,2,4,5,8],[2,4,5]),(52,[4,5],[4,5]),(28,[1,2,4,5,22],[2,4,5]),(116,[4,5],[4,5]),(30,[2,4,5],[2,4,5]),(62,[4,5],[4,5])]⟩
def f27_2l:List GI:=[⟨none,.boxL 2 7 (.r 0)⟩,
    ⟨none,.newL 4 [(.lit (.int .i64 0)),(.lit (.int .i64 0)),(.lit (.int .i64 0)),(.lit (.int .i64 0)),(.lit (.bool false)),(.lit (.slice none 0 0)),(.lit (.slice none 0 0))]⟩,
    ⟨none,.newL 5 [(.lit (.bool false)),(.lit (.bool false)),(.lit (.slice none 0 0)),(.lit (.int .i64 0))]⟩]
def f27_2:AC:=.ops [1,2,4,5] [2,4,5] f27_2l
theorem f27_2e:OP f27_2 f27_2l [1,2,4,5] [2,4,5]:=rfl
def f27_5l:List GI:=[vv 6 1,
    ⟨none,.call (some 7) false (.f 68) [(.r 6)]⟩,
    ⟨none,.un (some 8) .not (.r 7)⟩]
def f27_5:AC:=.ops [1,2,4,5,8] [2,4,5] f27_5l
theorem f27_5e:OP f27_5 f27_5l [1,2,4,5,8] [2,4,5]:=rfl
def f27_8l:List GI:=[⟨none,.load (some 9) (.r 2) (some 7)⟩,
    ⟨none,.bst (some 10) [(0,1),(1,1),(2,1),(3,1)] (.agg [(.lit (.bool false)),(.lit (.bool false)),(.lit (.slice none 0 0)),(.lit (.int .i64 0))]) [(3,(.c (.lit (.int .i64 2))))]⟩,
    ⟨none,.store 7 (.r 4) (.r 9)⟩,
    ⟨none,.store 4 (.r 5) (.r 10)⟩]
def f27_8:AC:=.ops [4,5] [4,5] f27_8l
theorem f27_8e:OP f27_8 f27_8l [4,5] [4,5]:=rfl
def f27_7:AC:=.seq f27_8 .ret
theorem f27_7e:SQ f27_7 f27_8 .ret:=rfl
def f27_6:AC:=.cond (.r 8) f27_7 .skip
theorem f27_6e:CN f27_6 8 f27_7 .skip:=rfl
def f27_4:AC:=.seq f27_5 f27_6
theorem f27_4e:SQ f27_4 f27_5 f27_6:=rfl
def f27_11l:List GI:=[vd 11 2 5,
    vl 12 11,
    vv 13 1,
    ⟨none,.call (some 14) false (.f 22) [(.r 12),(.r 13)]⟩,
    ⟨none,.un (some 15) .not (.r 14)⟩,
    vv 16 15,
    ⟨some (16,true),.addr (some 17) (.r 2) 6⟩,
    ⟨some (16,true),.load (some 18) (.r 17) none⟩,
    ⟨some (16,true),.mv (some 19) (.r 1)⟩,
    ⟨some (16,true),.call (some 20) false (.f 22) [(.r 18),(.r 19)]⟩,
    ⟨some (16,true),.un (some 21) .not (.r 20)⟩,
    ⟨none,.pick (some 22) (.r 16) (.r 21) (.c (.lit (.bool false)))⟩]
def f27_11:AC:=.ops [1,2,4,5,22] [2,4,5] f27_11l
theorem f27_11e:OP f27_11 f27_11l [1,2,4,5,22] [2,4,5]:=rfl
def f27_14l:List GI:=[⟨none,.load (some 23) (.r 2) (some 7)⟩,
    ⟨none,.bst (some 24) [(0,1),(1,1),(2,1),(3,1)] (.agg [(.lit (.bool false)),(.lit (.bool false)),(.lit (.slice none 0 0)),(.lit (.int .i64 0))]) [(3,(.c (.lit (.int .i64 9))))]⟩,
    ⟨none,.store 7 (.r 4) (.r 23)⟩,
    ⟨none,.store 4 (.r 5) (.r 24)⟩]
def f27_14:AC:=.ops [4,5] [4,5] f27_14l
theorem f27_14e:OP f27_14 f27_14l [4,5] [4,5]:=rfl
def f27_13:AC:=.seq f27_14 .ret
theorem f27_13e:SQ f27_13 f27_14 .ret:=rfl
def f27_12:AC:=.cond (.r 22) f27_13 .skip
theorem f27_12e:CN f27_12 22 f27_13 .skip:=rfl
def f27_10:AC:=.seq f27_11 f27_12
theorem f27_10e:SQ f27_10 f27_11 f27_12:=rfl
def f27_16h:List GI:=[vd 25 2 5,
    vl 26 25,
    vv 27 1,
    ⟨none,.call (some 28) true (.f 23) [(.r 26),(.r 27)]⟩,
    vd 29 2 6,
    vl 30 29,
    vv 31 1,
    ⟨none,.call (some 32) true (.f 23) [(.r 30),(.r 31)]⟩,
    vd 33 2 5]
def f27_16l:List GI:=[⟨none,.store 1 (.r 33) (.r 28)⟩,
    vd 34 2 6,
    ⟨none,.store 1 (.r 34) (.r 32)⟩]
def f27_16:AC:=.draw [2,4,5] [2,4,5] [] f27_16h f27_16l
theorem f27_16e:aC P id m f27_16 sf st Q = bD P id sf.locs st f27_16h (cR P id m [] [2,4,5] [2,4,5] f27_16l Q st) [] ⟨sf.regs,br [] sf.locs⟩:=rfl
def f27_18l:List GI:=[⟨none,.load (some 35) (.r 2) (some 7)⟩,
    ⟨none,.bst (some 36) [(0,1),(1,1),(2,1),(3,1)] (.agg [(.lit (.bool false)),(.lit (.bool false)),(.lit (.slice none 0 0)),(.lit (.int .i64 0))]) []⟩,
    ⟨none,.store 7 (.r 4) (.r 35)⟩,
    ⟨none,.store 4 (.r 5) (.r 36)⟩]
def f27_18:AC:=.ops [4,5] [4,5] f27_18l
theorem f27_18e:OP f27_18 f27_18l [4,5] [4,5]:=rfl
def f27_17:AC:=.seq f27_18 .ret
theorem f27_17e:SQ f27_17 f27_18 .ret:=rfl
def f27_15:AC:=.seq f27_16 f27_17
theorem f27_15e:SQ f27_15 f27_16 f27_17:=rfl
def f27_9:AC:=.seq f27_10 f27_15
theorem f27_9e:SQ f27_9 f27_10 f27_15:=rfl
def f27_3:AC:=.seq f27_4 f27_9
theorem f27_3e:SQ f27_3 f27_4 f27_9:=rfl
def f27_1:AC:=.seq f27_2 f27_3
theorem f27_1e:SQ f27_1 f27_2 f27_3:=rfl
def c_f27:AFun:=⟨37,[.cell 4 (some 7),.cell 5 (some 4)],f27_1⟩
theorem k_f27:bj Go.Proofs.Try.prog x_f27 27 = some c_f27:=by kernel_rfl
theorem e_f27:aQ Go.Proofs.Try.prog 27 = true:=by kernel_rfl

def n_f28:Nat:=28
def x_f28:Cx:=⟨some,id,31,fun s=>([0,1,4,6,8,9,10,12,14,15,16,17,19,21,22,23,24,26,28,29,30]:List Nat).contains s,fun s=>([]:List Nat).contains s,msOf [(2,[2,3],[2,3]),(6,[4],[])]⟩
def f28_2l:List GI:=[⟨none,.boxL 2 4 (.r 0)⟩,
    ⟨none,.boxL 3 4 (.r 1)⟩,
    ⟨none,.mv (some 4) (.c (.lit (.bool false)))⟩]
def f28_2:AC:=.ops [2,3] [2,3] f28_2l
theorem f28_2e:OP f28_2 f28_2l [2,3] [2,3]:=rfl
def f28_4l:List GI:=[vd 5 2 0,
    vl 6 5,
    vd 7 3 0,
    vl 8 7,
    ⟨none,.bin (some 9) .bool .eql (.r 6) (.r 8)⟩,
    vv 10 9,
    ⟨some (10,true),.addr (some 11) (.r 2) 1⟩,
    ⟨some (10,true),.load (some 12) (.r 11) none⟩,
    ⟨some (10,true),.addr (some 13) (.r 3) 1⟩,
    ⟨some (10,true),.load (some 14) (.r 13) none⟩,
    ⟨some (10,true),.bin (some 15) .bool .eql (.r 12) (.r 14)⟩,
    ⟨none,.pick (some 16) (.r 10) (.r 15) (.c (.lit (.bool false)))⟩,
    vv 17 16,
    ⟨some (17,true),.addr (some 18) (.r 2) 3⟩,
    ⟨some (17,true),.load (some 19) (.r 18) none⟩,
    ⟨some (17,true),.addr (some 20) (.r 3) 3⟩,
    ⟨some (17,true),.load (some 21) (.r 20) none⟩,
    ⟨some (17,true),.bin (some 22) .num .eql (.r 19) (.r 21)⟩,
    ⟨none,.pick (some 23) (.r 17) (.r 22) (.c (.lit (.bool false)))⟩,
    vv 24 23,
    ⟨some (24,true),.addr (some 25) (.r 2) 2⟩,
    ⟨some (24,true),.load (some 26) (.r 25) none⟩,
    ⟨some (24,true),.addr (some 27) (.r 3) 2⟩,
    ⟨some (24,true),.load (some 28) (.r 27) none⟩,
    ⟨some (24,true),.call (some 29) false (.f 69) [(.r 26),(.r 28)]⟩,
    ⟨none,.pick (some 30) (.r 24) (.r 29) (.c (.lit (.bool false)))⟩,
    vo 4 30]
def f28_4:AC:=.ops [4] [] f28_4l
theorem f28_4e:OP f28_4 f28_4l [4] []:=rfl
def f28_3:AC:=.seq f28_4 .ret
theorem f28_3e:SQ f28_3 f28_4 .ret:=rfl
def f28_1:AC:=.seq f28_2 f28_3
theorem f28_1e:SQ f28_1 f28_2 f28_3:=rfl
def c_f28:AFun:=⟨31,[.tmp 4],f28_1⟩
theorem k_f28:bj Go.Proofs.Try.prog x_f28 28 = some c_f28:=by kernel_rfl
theorem e_f28:aQ Go.Proofs.Try.prog 28 = true:=by kernel_rfl

def n_f30:Nat:=30
def x_f30:Cx:=⟨some,id,28,fun s=>([0,1,4,5,6,7,13,14,15,16,17,18,19,20,21,22,23,24,25,26,27]:List Nat).contains s,fun s=>([]:List Nat).contains s,msOf [(2,[0,1],[]),(12,[0,1,8],[]),(52,[4,5,6],[]),(28,[0,1,12],[]),(116,[6],[]),(234,[4,5,6],[]),(30,[4,6],[]),(62,[4,5,6],[])]⟩
def f30_2l:List GI:=[⟨none,.mv (some 4) (.c (.lit (.bool false)))⟩,
    ⟨none,.mv (some 5) (.c (.lit (.bool false)))⟩,
    ⟨none,.mv (some 6) (.c (.lit (.int .i64 0)))⟩]
def f30_2:AC:=.ops [0,1] [] f30_2l
theorem f30_2e:OP f30_2 f30_2l [0,1] []:=rfl
def f30_5l:List GI:=[vv 7 0,
    ⟨none,.call (some 8) false (.f 57) [(.r 7)]⟩]
def f30_5:AC:=.ops [0,1,8] [] f30_5l
theorem f30_5e:OP f30_5 f30_5l [0,1,8] []:=rfl
def f30_8l:List GI:=[⟨none,.mv (some 4) (.c (.lit (.bool false)))⟩,
    ⟨none,.mv (some 5) (.c (.lit (.bool false)))⟩,
    ⟨none,.mv (some 6) (.c (.lit (.int .i64 1)))⟩]
def f30_8:AC:=.ops [4,5,6] [] f30_8l
theorem f30_8e:OP f30_8 f30_8l [4,5,6] []:=rfl
def f30_7:AC:=.seq f30_8 .ret
theorem f30_7e:SQ f30_7 f30_8 .ret:=rfl
def f30_6:AC:=.cond (.r 8) f30_7 .skip
theorem f30_6e:CN f30_6 8 f30_7 .skip:=rfl
def f30_4:AC:=.seq f30_5 f30_6
theorem f30_4e:SQ f30_4 f30_5 f30_6:=rfl
def f30_11l:List GI:=[vv 9 0,
    vn 10 9,
    vd 11 10 2,
    vl 12 11]
def f30_11:AC:=.ops [0,1,12] [] f30_11l
theorem f30_11e:OP f30_11 f30_11l [0,1,12] []:=rfl
def f30_14l:List GI:=[vv 13 1,
    ⟨none,.call (some 14) false (.f 64) [(.r 13),(.c (.lit (.slice none 0 0)))]⟩,
    vo 6 14]
def f30_14:AC:=.ops [6] [] f30_14l
theorem f30_14e:OP f30_14 f30_14l [6] []:=rfl
def f30_16l:List GI:=[vv 15 6,
    vb 16 .eql 15 0,
    vv 17 6,
    ⟨none,.mv (some 4) (.c (.lit (.bool false)))⟩,
    vo 5 16,
    vo 6 17]
def f30_16:AC:=.ops [4,5,6] [] f30_16l
theorem f30_16e:OP f30_16 f30_16l [4,5,6] []:=rfl
def f30_15:AC:=.seq f30_16 .ret
theorem f30_15e:SQ f30_15 f30_16 .ret:=rfl
def f30_13:AC:=.seq f30_14 f30_15
theorem f30_13e:SQ f30_13 f30_14 f30_15:=rfl
def f30_12:AC:=.cond (.r 12) f30_13 .skip
theorem f30_12e:CN f30_12 12 f30_13 .skip:=rfl
def f30_10:AC:=.seq f30_11 f30_12
theorem f30_10e:SQ f30_10 f30_11 f30_12:=rfl
def f30_18l:List GI:=[vv 19 0,
    vn 20 19,
    vd 21 20 0,
    vv 22 1,
    ⟨none,.call (some 23) false (.f 70) [(.r 21),(.r 22),(.c (.lit (.slice none 0 0)))]⟩,
    vv 18 23,
    ve 24 18 0,
    ve 25 18 1,
    vo 4 24,
    vo 6 25]
def f30_18:AC:=.ops [4,6] [] f30_18l
theorem f30_18e:OP f30_18 f30_18l [4,6] []:=rfl
def f30_20l:List GI:=[vv 26 4,
    vv 27 6,
    vo 4 26,
    ⟨none,.mv (some 5) (.c (.lit (.bool false)))⟩,
    vo 6 27]
def f30_20:AC:=.ops [4,5,6] [] f30_20l
theorem f30_20e:OP f30_20 f30_20l [4,5,6] []:=rfl
def f30_19:AC:=.seq f30_20 .ret
theorem f30_19e:SQ f30_19 f30_20 .ret:=rfl
def f30_17:AC:=.seq f30_18 f30_19
theorem f30_17e:SQ f30_17 f30_18 f30_19:=rfl
def f30_9:AC:=.seq f30_10 f30_17
theorem f30_9e:SQ f30_9 f30_10 f30_17:=rfl
def f30_3:AC:=.seq f30_4 f30_9
theorem f30_3e:SQ f30_3 f30_4 f30_9:=rfl
def f30_1:AC:=.seq f30_2 f30_3
theorem f30_1e:SQ f30_1 f30_2 f30_3:=rfl
def c_f30:AFun:=⟨28,[.tmp 4,.tmp 5,.tmp 6],f30_1⟩
theorem k_f30:bj Go.Proofs.Try.prog x_f30 30 = some c_f30:=by kernel_rfl
theorem e_f30:aQ Go.Proofs.Try.prog 30 = true:=by kernel_rfl

def n_f31:Nat:=31
def x_f31:Cx:=⟨some,id,33,fun s=>([0,1,6,7,8,9,11,12,13,14,15,16,18,27,28,29,30,31,32]:List Nat).contains s,fun s=>([]:List Nat).contains s,msOf [(2,[0,1,2],[]),(12,[0,1,2,10],[]),(52,[6,7],[]),(28,[0,2,8],[]),(58,[0,2,8,17],[]),(236,[6,7],[]),(60,[0,19],[]),(244,[0],[]),(490,[6,7],[]),(62,[6,7],[])]⟩
def f31_2l:List GI:=[⟨none,.mv (some 6) (.c (.lit (.slice none 0 0)))⟩,
    ⟨none,.mv (some 7) (.c (.lit (.int .i64 0)))⟩]
def f31_2:AC:=.ops [0,1,2] [] f31_2l
theorem f31_2e:OP f31_2 f31_2l [0,1,2] []:=rfl
def f31_5l:List GI:=[vv 9 0,
    ⟨none,.call (some 10) false (.f 57) [(.r 9)]⟩]
def f31_5:AC:=.ops [0,1,2,10] [] f31_5l
theorem f31_5e:OP f31_5 f31_5l [0,1,2,10] []:=rfl
def f31_8l:List GI:=[⟨none,.mv (some 6) (.c (.lit (.slice none 0 0)))⟩,
    ⟨none,.mv (some 7) (.c (.lit (.int .i64 1)))⟩]
def f31_8:AC:=.ops [6,7] [] f31_8l
theorem f31_8e:OP f31_8 f31_8l [6,7] []:=rfl
def f31_7:AC:=.seq f31_8 .ret
theorem f31_7e:SQ f31_7 f31_8 .ret:=rfl
def f31_6:AC:=.cond (.r 10) f31_7 .skip
theorem f31_6e:CN f31_6 10 f31_7 .skip:=rfl
def f31_4:AC:=.seq f31_5 f31_6
theorem f31_4e:SQ f31_4 f31_5 f31_6:=rfl
def f31_11l:List GI:=[vv 11 0,
    vn 12 11,
    vd 13 12 0,
    vv 14 1,
    ⟨none,.call (some 15) false (.f 71) [(.r 13),(.r 14)]⟩,
    vo 8 15]
def f31_11:AC:=.ops [0,2,8] [] f31_11l
theorem f31_11e:OP f31_11 f31_11l [0,2,8] []:=rfl
def f31_13l:List GI:=[vv 16 8,
    vb 17 .neq 16 0]
def f31_13:AC:=.ops [0,2,8,17] [] f31_13l
theorem f31_13e:OP f31_13 f31_13l [0,2,8,17] []:=rfl
def f31_16l:List GI:=[vv 18 8,
    ⟨none,.mv (some 6) (.c (.lit (.slice none 0 0)))⟩,
    vo 7 18]
def f31_16:AC:=.ops [6,7] [] f31_16l
theorem f31_16e:OP f31_16 f31_16l [6,7] []:=rfl
def f31_15:AC:=.seq f31_16 .ret
theorem f31_15e:SQ f31_15 f31_16 .ret:=rfl
def f31_14:AC:=.cond (.r 17) f31_15 .skip
theorem f31_14e:CN f31_14 17 f31_15 .skip:=rfl
def f31_12:AC:=.seq f31_13 f31_14
theorem f31_12e:SQ f31_12 f31_13 f31_14:=rfl
def f31_10:AC:=.seq f31_11 f31_12
theorem f31_10e:SQ f31_10 f31_11 f31_12:=rfl
def f31_19l:List GI:=[vv 19 2]
def f31_19:AC:=.ops [0,19] [] f31_19l
theorem f31_19e:OP f31_19 f31_19l [0,19] []:=rfl
def f31_22l:List GI:=[vv 20 0,
    vn 21 20,
    vd 22 21 2,
    ⟨none,.store 1 (.r 22) (.c (.lit (.bool true)))⟩]
def f31_22:AC:=.ops [0] [] f31_22l
theorem f31_22e:OP f31_22 f31_22l [0] []:=rfl
def f31_24l:List GI:=[vv 23 0,
    vn 24 23,
    vd 25 24 0,
    vd 26 25 1,
    vl 27 26,
    ⟨none,.call (some 28) false (.f 66) [(.r 27)]⟩,
    vo 6 28,
    ⟨none,.mv (some 7) (.c (.lit (.int .i64 0)))⟩]
def f31_24:AC:=.ops [6,7] [] f31_24l
theorem f31_24e:OP f31_24 f31_24l [6,7] []:=rfl
def f31_23:AC:=.seq f31_24 .ret
theorem f31_23e:SQ f31_23 f31_24 .ret:=rfl
def f31_21:AC:=.seq f31_22 f31_23
theorem f31_21e:SQ f31_21 f31_22 f31_23:=rfl
def f31_20:AC:=.cond (.r 19) f31_21 .skip
theorem f31_20e:CN f31_20 19 f31_21 .skip:=rfl
def f31_18:AC:=.seq f31_19 f31_20
theorem f31_18e:SQ f31_18 f31_19 f31_20:=rfl
def f31_26l:List GI:=[vv 29 0,
    vn 30 29,
    vd 31 30 0,
    ⟨none,.call (some 32) false (.f 72) [(.r 31)]⟩,
    vo 6 32,
    ⟨none,.mv (some 7) (.c (.lit (.int .i64 0)))⟩]
def f31_26:AC:=.ops [6,7] [] f31_26l
theorem f31_26e:OP f31_26 f31_26l [6,7] []:=rfl
def f31_25:AC:=.seq f31_26 .ret
theorem f31_25e:SQ f31_25 f31_26 .ret:=rfl
def f31_17:AC:=.seq f31_18 f31_25
theorem f31_17e:SQ f31_17 f31_18 f31_25:=rfl
def f31_9:AC:=.seq f31_10 f31_17
theorem f31_9e:SQ f31_9 f31_10 f31_17:=rfl
def f31_3:AC:=.seq f31_4 f31_9
theorem f31_3e:SQ f31_3 f31_4 f31_9:=rfl
def f31_1:AC:=.seq f31_2 f31_3
theorem f31_1e:SQ f31_1 f31_2 f31_3:=rfl
def c_f31:AFun:=⟨33,[.tmp 6,.tmp 7],f31_1⟩
theorem k_f31:bj Go.Proofs.Try.prog x_f31 31 = some c_f31:=by kernel_rfl
theorem e_f31:aQ Go.Proofs.Try.prog 31 = true:=by kernel_rfl

def n_f35:Nat:=35
def x_f35:Cx:=⟨some,id,14,fun s=>([0,2,3,4,5,6,7,8,10,11,12,13]:List Nat).contains s,fun s=>([]:List Nat).contains s,msOf [(2,[0],[]),(12,[0,9],[]),(52,[2,3],[]),(14,[2,3],[])]⟩
def f35_2l:List GI:=[⟨none,.mv (some 2) (.c (.lit (.pointer none)))⟩,
    ⟨none,.mv (some 3) (.c (.lit (.int .i64 0)))⟩]
def f35_2:AC:=.ops [0] [] f35_2l
theorem f35_2e:OP f35_2 f35_2l [0] []:=rfl
def f35_5l:List GI:=[vv 4 0,
    vb 5 .lss 4 1,
    vv 6 5,
    ⟨some (6,false),.mv (some 7) (.r 0)⟩,
    ⟨some (6,false),.bin (some 8) .num .gtr (.r 7) (.c (.lit (.int .i64 1048576)))⟩,
    ⟨none,.pick (some 9) (.r 6) (.c (.lit (.bool true))) (.r 8)⟩]
def f35_5:AC:=.ops [0,9] [] f35_5l
theorem f35_5e:OP f35_5 f35_5l [0,9] []:=rfl
def f35_8l:List GI:=[⟨none,.mv (some 2) (.c (.lit (.pointer none)))⟩,
    ⟨none,.mv (some 3) (.c (.lit (.int .i64 2)))⟩]
def f35_8:AC:=.ops [2,3] [] f35_8l
theorem f35_8e:OP f35_8 f35_8l [2,3] []:=rfl
def f35_7:AC:=.seq f35_8 .ret
theorem f35_7e:SQ f35_7 f35_8 .ret:=rfl
def f35_6:AC:=.cond (.r 9) f35_7 .skip
theorem f35_6e:CN f35_6 9 f35_7 .skip:=rfl
def f35_4:AC:=.seq f35_5 f35_6
theorem f35_4e:SQ f35_4 f35_5 f35_6:=rfl
def f35_10l:List GI:=[vv 10 0,
    ⟨none,.call (some 11) false (.f 51) []⟩,
    ⟨none,.bst (some 12) [(0,1),(1,1)] (.agg [(.lit (.int .i64 0)),(.lit (.pointer none))]) [(0,(.r 10)),(1,(.r 11))]⟩,
    ⟨none,.boxB 13 2 (.r 12)⟩,
    vo 2 13,
    ⟨none,.mv (some 3) (.c (.lit (.int .i64 0)))⟩]
def f35_10:AC:=.ops [2,3] [] f35_10l
theorem f35_10e:OP f35_10 f35_10l [2,3] []:=rfl
def f35_9:AC:=.seq f35_10 .ret
theorem f35_9e:SQ f35_9 f35_10 .ret:=rfl
def f35_3:AC:=.seq f35_4 f35_9
theorem f35_3e:SQ f35_3 f35_4 f35_9:=rfl
def f35_1:AC:=.seq f35_2 f35_3
theorem f35_1e:SQ f35_1 f35_2 f35_3:=rfl
def c_f35:AFun:=⟨14,[.tmp 2,.tmp 3],f35_1⟩
theorem k_f35:bj Go.Proofs.Try.prog x_f35 35 = some c_f35:=by kernel_rfl
theorem e_f35:aQ Go.Proofs.Try.prog 35 = true:=by kernel_rfl

def n_f37:Nat:=37
def x_f37:Cx:=⟨some,id,37,fun s=>([0,1,4,5,7,8,10,11,13,17,18,22,23,24,30,35,36]:List Nat).contains s,fun s=>([]:List Nat).contains s,msOf [(2,[0,1],[]),(24,[0,1,6],[]),(100,[4,5],[]),(102,[0,1,9],[]),(412,[4,5],[]),(414,[0,1,12],[]),(1660,[4,5],[]),(14,[0],[]),(60,[0,31],[]),(244,[4,5],[]),(62,[4,5],[])]⟩
def f37_2l:List GI:=[⟨none,.mv (some 4) (.c (.lit (.slice none 0 0)))⟩,
    ⟨none,.mv (some 5) (.c (.lit (.int .i64 0)))⟩]
def f37_2:AC:=.ops [0,1] [] f37_2l
theorem f37_2e:OP f37_2 f37_2l [0,1] []:=rfl
def f37_6l:List GI:=[vv 7 0,
    ⟨none,.call (some 8) false (.f 74) [(.r 7)]⟩,
    vo 6 8]
def f37_6:AC:=.ops [0,1,6] [] f37_6l
theorem f37_6e:OP f37_6 f37_6l [0,1,6] []:=rfl
def f37_9l:List GI:=[⟨none,.mv (some 4) (.c (.lit (.slice none 0 0)))⟩,
    ⟨none,.mv (some 5) (.c (.lit (.int .i64 1)))⟩]
def f37_9:AC:=.ops [4,5] [] f37_9l
theorem f37_9e:OP f37_9 f37_9l [4,5] []:=rfl
def f37_8:AC:=.seq f37_9 .ret
theorem f37_8e:SQ f37_8 f37_9 .ret:=rfl
def f37_11l:List GI:=[vv 10 1,
    vb 11 .lss 10 1,
    vo 9 11]
def f37_11:AC:=.ops [0,1,9] [] f37_11l
theorem f37_11e:OP f37_11 f37_11l [0,1,9] []:=rfl
def f37_14l:List GI:=[⟨none,.mv (some 4) (.c (.lit (.slice none 0 0)))⟩,
    ⟨none,.mv (some 5) (.c (.lit (.int .i64 2)))⟩]
def f37_14:AC:=.ops [4,5] [] f37_14l
theorem f37_14e:OP f37_14 f37_14l [4,5] []:=rfl
def f37_13:AC:=.seq f37_14 .ret
theorem f37_13e:SQ f37_13 f37_14 .ret:=rfl
def f37_16l:List GI:=[vv 13 1,
    vv 14 0,
    vn 15 14,
    vd 16 15 0,
    vl 17 16,
    ⟨none,.bin (some 18) .num .gtr (.r 13) (.r 17)⟩,
    vo 12 18]
def f37_16:AC:=.ops [0,1,12] [] f37_16l
theorem f37_16e:OP f37_16 f37_16l [0,1,12] []:=rfl
def f37_19l:List GI:=[⟨none,.mv (some 4) (.c (.lit (.slice none 0 0)))⟩,
    ⟨none,.mv (some 5) (.c (.lit (.int .i64 3)))⟩]
def f37_19:AC:=.ops [4,5] [] f37_19l
theorem f37_19e:OP f37_19 f37_19l [4,5] []:=rfl
def f37_18:AC:=.seq f37_19 .ret
theorem f37_18e:SQ f37_18 f37_19 .ret:=rfl
def f37_17:AC:=.cond (.r 12) f37_18 .skip
theorem f37_17e:CN f37_17 12 f37_18 .skip:=rfl
def f37_15:AC:=.seq f37_16 f37_17
theorem f37_15e:SQ f37_15 f37_16 f37_17:=rfl
def f37_12:AC:=.cond (.r 9) f37_13 f37_15
theorem f37_12e:CN f37_12 9 f37_13 f37_15:=rfl
def f37_10:AC:=.seq f37_11 f37_12
theorem f37_10e:SQ f37_10 f37_11 f37_12:=rfl
def f37_7:AC:=.cond (.r 6) f37_8 f37_10
theorem f37_7e:CN f37_7 6 f37_8 f37_10:=rfl
def f37_5:AC:=.seq f37_6 f37_7
theorem f37_5e:SQ f37_5 f37_6 f37_7:=rfl
def f37_4:AC:=.block 0 f37_5
theorem f37_4e:BL f37_4 f37_5 0:=rfl
def f37_21l:List GI:=[vv 19 0,
    vn 20 19,
    vd 21 20 0,
    vl 22 21,
    vv 23 1,
    ⟨none,.bin (some 24) .num .sub (.r 22) (.r 23)⟩,
    vn 25 19,
    vd 26 25 0,
    ⟨none,.store 1 (.r 26) (.r 24)⟩]
def f37_21:AC:=.ops [0] [] f37_21l
theorem f37_21e:OP f37_21 f37_21l [0] []:=rfl
def f37_24l:List GI:=[vv 27 0,
    vn 28 27,
    vd 29 28 0,
    vl 30 29,
    vb 31 .gtr 30 0]
def f37_24:AC:=.ops [0,31] [] f37_24l
theorem f37_24e:OP f37_24 f37_24l [0,31] []:=rfl
def f37_27l:List GI:=[⟨none,.mv (some 4) (.c (.lit (.slice none 0 0)))⟩,
    ⟨none,.mv (some 5) (.c (.lit (.int .i64 0)))⟩]
def f37_27:AC:=.ops [4,5] [] f37_27l
theorem f37_27e:OP f37_27 f37_27l [4,5] []:=rfl
def f37_26:AC:=.seq f37_27 .ret
theorem f37_26e:SQ f37_26 f37_27 .ret:=rfl
def f37_25:AC:=.cond (.r 31) f37_26 .skip
theorem f37_25e:CN f37_25 31 f37_26 .skip:=rfl
def f37_23:AC:=.seq f37_24 f37_25
theorem f37_23e:SQ f37_23 f37_24 f37_25:=rfl
def f37_29l:List GI:=[vv 32 0,
    vn 33 32,
    vd 34 33 1,
    vl 35 34,
    ⟨none,.call (some 36) false (.f 66) [(.r 35)]⟩,
    vo 4 36,
    ⟨none,.mv (some 5) (.c (.lit (.int .i64 0)))⟩]
def f37_29:AC:=.ops [4,5] [] f37_29l
theorem f37_29e:OP f37_29 f37_29l [4,5] []:=rfl
def f37_28:AC:=.seq f37_29 .ret
theorem f37_28e:SQ f37_28 f37_29 .ret:=rfl
def f37_22:AC:=.seq f37_23 f37_28
theorem f37_22e:SQ f37_22 f37_23 f37_28:=rfl
def f37_20:AC:=.seq f37_21 f37_22
theorem f37_20e:SQ f37_20 f37_21 f37_22:=rfl
def f37_3:AC:=.seq f37_4 f37_20
theorem f37_3e:SQ f37_3 f37_4 f37_20:=rfl
def f37_1:AC:=.seq f37_2 f37_3
theorem f37_1e:SQ f37_1 f37_2 f37_3:=rfl
def c_f37:AFun:=⟨37,[.tmp 4,.tmp 5],f37_1⟩
theorem k_f37:bj Go.Proofs.Try.prog x_f37 37 = some c_f37:=by kernel_rfl
theorem e_f37:aQ Go.Proofs.Try.prog 37 = true:=by kernel_rfl

def n_f38:Nat:=38
def x_f38:Cx:=⟨some,id,13,fun s=>([0,1,4,5,10,11,12]:List Nat).contains s,fun s=>([]:List Nat).contains s,msOf [(2,[0,1],[]),(12,[0,1,6],[]),(52,[4],[]),(14,[4],[])]⟩
def f38_2l:List GI:=[⟨none,.mv (some 4) (.c (.lit (.int .i64 0)))⟩]
def f38_2:AC:=.ops [0,1] [] f38_2l
theorem f38_2e:OP f38_2 f38_2l [0,1] []:=rfl
def f38_5l:List GI:=[vv 5 0,
    ⟨none,.call (some 6) false (.f 74) [(.r 5)]⟩]
def f38_5:AC:=.ops [0,1,6] [] f38_5l
theorem f38_5e:OP f38_5 f38_5l [0,1,6] []:=rfl
def f38_8l:List GI:=[⟨none,.mv (some 4) (.c (.lit (.int .i64 1)))⟩]
def f38_8:AC:=.ops [4] [] f38_8l
theorem f38_8e:OP f38_8 f38_8l [4] []:=rfl
def f38_7:AC:=.seq f38_8 .ret
theorem f38_7e:SQ f38_7 f38_8 .ret:=rfl
def f38_6:AC:=.cond (.r 6) f38_7 .skip
theorem f38_6e:CN f38_6 6 f38_7 .skip:=rfl
def f38_4:AC:=.seq f38_5 f38_6
theorem f38_4e:SQ f38_4 f38_5 f38_6:=rfl
def f38_10l:List GI:=[vv 7 0,
    vn 8 7,
    vd 9 8 1,
    vl 10 9,
    vv 11 1,
    ⟨none,.call (some 12) false (.f 75) [(.r 10),(.r 11)]⟩,
    vo 4 12]
def f38_10:AC:=.ops [4] [] f38_10l
theorem f38_10e:OP f38_10 f38_10l [4] []:=rfl
def f38_9:AC:=.seq f38_10 .ret
theorem f38_9e:SQ f38_9 f38_10 .ret:=rfl
def f38_3:AC:=.seq f38_4 f38_9
theorem f38_3e:SQ f38_3 f38_4 f38_9:=rfl
def f38_1:AC:=.seq f38_2 f38_3
theorem f38_1e:SQ f38_1 f38_2 f38_3:=rfl
def c_f38:AFun:=⟨13,[.tmp 4],f38_1⟩
theorem k_f38:bj Go.Proofs.Try.prog x_f38 38 = some c_f38:=by kernel_rfl
theorem e_f38:aQ Go.Proofs.Try.prog 38 = true:=by kernel_rfl

def n_f41:Nat:=41
def x_f41:Cx:=⟨some,id,40,fun s=>([0,1,5,6,7,8,10,12,13,14,16,17,18,19,20,21,22,24,25,26,28,29,30,31,32,33,34,35,37,38,39]:List Nat).contains s,fun s=>([]:List Nat).contains s,msOf [(2,[0,3,4],[3,4]),(12,[0,3,4,10],[3,4]),(52,[0,3,4,10,11],[3,4]),(212,[4,5,6],[4]),(426,[4],[4]),(214,[0,3,4,23],[3,4]),(860,[4,7,8],[4]),(1722,[4],[4]),(14,[4],[4])]⟩
def f41_2l:List GI:=[⟨none,.boxL 3 4 (.r 1)⟩,
    ⟨none,.newL 4 [(.lit (.bool false)),(.lit (.bool false)),(.lit (.slice none 0 0)),(.lit (.int .i64 0))]⟩]
def f41_2:AC:=.ops [0,3,4] [3,4] f41_2l
theorem f41_2e:OP f41_2 f41_2l [0,3,4] [3,4]:=rfl
def f41_5l:List GI:=[vd 9 3 0,
    vl 10 9]
def f41_5:AC:=.ops [0,3,4,10] [3,4] f41_5l
theorem f41_5e:OP f41_5 f41_5l [0,3,4,10] [3,4]:=rfl
def f41_8l:List GI:=[vb 12 .eql 10 0,
    vo 11 12]
def f41_8:AC:=.ops [0,3,4,10,11] [3,4] f41_8l
theorem f41_8e:OP f41_8 f41_8l [0,3,4,10,11] [3,4]:=rfl
def f41_11l:List GI:=[vv 14 0,
    vd 15 3 1,
    vl 16 15,
    ⟨none,.call (some 17) false (.f 76) [(.r 14),(.r 16)]⟩,
    vv 13 17,
    ve 18 13 0,
    ve 19 13 1,
    vo 5 18,
    vo 6 19]
def f41_11:AC:=.ops [4,5,6] [4] f41_11l
theorem f41_11e:OP f41_11 f41_11l [4,5,6] [4]:=rfl
def f41_13l:List GI:=[vv 20 5,
    vv 21 6,
    ⟨none,.bst (some 22) [(0,1),(1,1),(2,1),(3,1)] (.agg [(.lit (.bool false)),(.lit (.bool false)),(.lit (.slice none 0 0)),(.lit (.int .i64 0))]) [(1,(.r 20)),(3,(.r 21))]⟩,
    ⟨none,.store 4 (.r 4) (.r 22)⟩]
def f41_13:AC:=.ops [4] [4] f41_13l
theorem f41_13e:OP f41_13 f41_13l [4] [4]:=rfl
def f41_12:AC:=.seq f41_13 .ret
theorem f41_12e:SQ f41_12 f41_13 .ret:=rfl
def f41_10:AC:=.seq f41_11 f41_12
theorem f41_10e:SQ f41_10 f41_11 f41_12:=rfl
def f41_15l:List GI:=[vb 24 .eql 10 1,
    vo 23 24]
def f41_15:AC:=.ops [0,3,4,23] [3,4] f41_15l
theorem f41_15e:OP f41_15 f41_15l [0,3,4,23] [3,4]:=rfl
def f41_18l:List GI:=[vv 26 0,
    vd 27 3 2,
    vl 28 27,
    ⟨none,.call (some 29) false (.f 37) [(.r 26),(.r 28)]⟩,
    vv 25 29,
    ve 30 25 0,
    ve 31 25 1,
    vo 7 30,
    vo 8 31]
def f41_18:AC:=.ops [4,7,8] [4] f41_18l
theorem f41_18e:OP f41_18 f41_18l [4,7,8] [4]:=rfl
def f41_20l:List GI:=[vv 32 7,
    vv 33 8,
    ⟨none,.bst (some 34) [(0,1),(1,1),(2,1),(3,1)] (.agg [(.lit (.bool false)),(.lit (.bool false)),(.lit (.slice none 0 0)),(.lit (.int .i64 0))]) [(2,(.r 32)),(3,(.r 33))]⟩,
    ⟨none,.store 4 (.r 4) (.r 34)⟩]
def f41_20:AC:=.ops [4] [4] f41_20l
theorem f41_20e:OP f41_20 f41_20l [4] [4]:=rfl
def f41_19:AC:=.seq f41_20 .ret
theorem f41_19e:SQ f41_19 f41_20 .ret:=rfl
def f41_17:AC:=.seq f41_18 f41_19
theorem f41_17e:SQ f41_17 f41_18 f41_19:=rfl
def f41_16:AC:=.cond (.r 23) f41_17 .skip
theorem f41_16e:CN f41_16 23 f41_17 .skip:=rfl
def f41_14:AC:=.seq f41_15 f41_16
theorem f41_14e:SQ f41_14 f41_15 f41_16:=rfl
def f41_9:AC:=.cond (.r 11) f41_10 f41_14
theorem f41_9e:CN f41_9 11 f41_10 f41_14:=rfl
def f41_7:AC:=.seq f41_8 f41_9
theorem f41_7e:SQ f41_7 f41_8 f41_9:=rfl
def f41_6:AC:=.block 0 f41_7
theorem f41_6e:BL f41_6 f41_7 0:=rfl
def f41_4:AC:=.seq f41_5 f41_6
theorem f41_4e:SQ f41_4 f41_5 f41_6:=rfl
def f41_22l:List GI:=[vv 35 0,
    vd 36 3 1,
    vl 37 36,
    ⟨none,.call (some 38) false (.f 38) [(.r 35),(.r 37)]⟩,
    ⟨none,.bst (some 39) [(0,1),(1,1),(2,1),(3,1)] (.agg [(.lit (.bool false)),(.lit (.bool false)),(.lit (.slice none 0 0)),(.lit (.int .i64 0))]) [(3,(.r 38))]⟩,
    ⟨none,.store 4 (.r 4) (.r 39)⟩]
def f41_22:AC:=.ops [4] [4] f41_22l
theorem f41_22e:OP f41_22 f41_22l [4] [4]:=rfl
def f41_21:AC:=.seq f41_22 .ret
theorem f41_21e:SQ f41_21 f41_22 .ret:=rfl
def f41_3:AC:=.seq f41_4 f41_21
theorem f41_3e:SQ f41_3 f41_4 f41_21:=rfl
def f41_1:AC:=.seq f41_2 f41_3
theorem f41_1e:SQ f41_1 f41_2 f41_3:=rfl
def c_f41:AFun:=⟨40,[.cell 4 (some 4)],f41_1⟩
theorem k_f41:bj Go.Proofs.Try.prog x_f41 41 = some c_f41:=by kernel_rfl
theorem e_f41:aQ Go.Proofs.Try.prog 41 = true:=by kernel_rfl

def n_f44:Nat:=44
def x_f44:Cx:=⟨some,id,24,fun s=>([0,2,3,9,14,15,16,20,21,22,23]:List Nat).contains s,fun s=>([15,21]:List Nat).contains s,msOf [(2,[0],[]),(12,[0,4],[]),(52,[2],[]),(14,[2],[])]⟩
def f44_2l:List GI:=[⟨none,.mv (some 2) (.c (.lit (.pointer none)))⟩]
def f44_2:AC:=.ops [0] [] f44_2l
theorem f44_2e:OP f44_2 f44_2l [0] []:=rfl
def f44_5l:List GI:=[vv 3 0,
    ⟨none,.call (some 4) false (.f 62) [(.r 3)]⟩]
def f44_5:AC:=.ops [0,4] [] f44_5l
theorem f44_5e:OP f44_5 f44_5l [0,4] []:=rfl
def f44_8l:List GI:=[⟨none,.mv (some 2) (.c (.lit (.pointer none)))⟩]
def f44_8:AC:=.ops [2] [] f44_8l
theorem f44_8e:OP f44_8 f44_8l [2] []:=rfl
def f44_7:AC:=.seq f44_8 .ret
theorem f44_7e:SQ f44_7 f44_8 .ret:=rfl
def f44_6:AC:=.cond (.r 4) f44_7 .skip
theorem f44_6e:CN f44_6 4 f44_7 .skip:=rfl
def f44_4:AC:=.seq f44_5 f44_6
theorem f44_4e:SQ f44_4 f44_5 f44_6:=rfl
def f44_10h:List (Bool×GI):=[(false,vv 5 0),
    (false,vn 6 5),
    (false,vd 7 6 0),
    (false,vd 8 7 0),
    (false,vl 9 8),
    (false,vv 10 0),
    (false,vn 11 10),
    (false,vd 12 11 0),
    (false,vd 13 12 1),
    (false,vl 14 13),
    (true,⟨none,.call (some 15) true (.f 63) [(.r 14)]⟩),
    (false,⟨none,.bst (some 16) [(0,1),(1,1)] (.agg [(.lit (.int .i64 0)),(.lit (.pointer none))]) [(0,(.r 9)),(1,(.r 15))]⟩),
    (false,vv 17 0),
    (false,vn 18 17),
    (false,vd 19 18 2),
    (false,vl 20 19),
    (true,⟨none,.call (some 21) true (.f 63) [(.r 20)]⟩)]
def f44_10l:List GI:=[⟨none,.bst (some 22) [(0,2),(2,1)] (.agg [(.lit (.int .i64 0)),(.lit (.pointer none)),(.lit (.pointer none))]) [(0,(.r 16)),(1,(.r 21))]⟩,
    ⟨none,.boxB 23 3 (.r 22)⟩,
    vo 2 23]
def f44_10:AC:=.drawG [2] [] [] f44_10h f44_10l
theorem f44_10e:aC P id m f44_10 sf st Q = (m = false∧drawX P id sf.locs st f44_10h (tailX P id m [] [2] [] f44_10l Q) ⟨sf.regs,br [] sf.locs⟩):=rfl
def f44_9:AC:=.seq f44_10 .ret
theorem f44_9e:SQ f44_9 f44_10 .ret:=rfl
def f44_3:AC:=.seq f44_4 f44_9
theorem f44_3e:SQ f44_3 f44_4 f44_9:=rfl
def f44_1:AC:=.seq f44_2 f44_3
theorem f44_1e:SQ f44_1 f44_2 f44_3:=rfl
def c_f44:AFun:=⟨24,[.tmp 2],f44_1⟩
theorem k_f44:bj Go.Proofs.Try.prog x_f44 44 = some c_f44:=by kernel_rfl
theorem e_f44:aQ Go.Proofs.Try.prog 44 = true:=by kernel_rfl

def n_f45:Nat:=45
def x_f45:Cx:=⟨some,id,20,fun s=>([0,1,4,5,6,8,9,10,11,15,16,17,18,19]:List Nat).contains s,fun s=>([16,17]:List Nat).contains s,msOf [(2,[0,1],[]),(12,[0,1,7],[]),(52,[4,5],[]),(14,[4,5],[])]⟩
def f45_2l:List GI:=[⟨none,.mv (some 4) (.c (.lit (.bool false)))⟩,
    ⟨none,.mv (some 5) (.c (.lit (.int .i64 0)))⟩]
def f45_2:AC:=.ops [0,1] [] f45_2l
theorem f45_2e:OP f45_2 f45_2l [0,1] []:=rfl
def f45_5l:List GI:=[vv 6 0,
    ⟨none,.call (some 7) false (.f 62) [(.r 6)]⟩]
def f45_5:AC:=.ops [0,1,7] [] f45_5l
theorem f45_5e:OP f45_5 f45_5l [0,1,7] []:=rfl
def f45_8l:List GI:=[⟨none,.mv (some 4) (.c (.lit (.bool false)))⟩,
    ⟨none,.mv (some 5) (.c (.lit (.int .i64 1)))⟩]
def f45_8:AC:=.ops [4,5] [] f45_8l
theorem f45_8e:OP f45_8 f45_8l [4,5] []:=rfl
def f45_7:AC:=.seq f45_8 .ret
theorem f45_7e:SQ f45_7 f45_8 .ret:=rfl
def f45_6:AC:=.cond (.r 7) f45_7 .skip
theorem f45_6e:CN f45_6 7 f45_7 .skip:=rfl
def f45_4:AC:=.seq f45_5 f45_6
theorem f45_4e:SQ f45_4 f45_5 f45_6:=rfl
def f45_10h:List GI:=[vv 8 0,
    vn 9 8,
    vd 10 9 0,
    vv 11 1,
    vv 12 0,
    vn 13 12,
    vd 14 13 2,
    vl 15 14,
    ⟨none,.bsl (some 16) 1 1 (.lit (.pointer none)) [(0,(.r 15))]⟩]
def f45_10p:List GI:=[ve 18 17 0,
    ve 19 17 1]
def f45_10l:List GI:=[vo 4 18,
    vo 5 19]
def f45_10:AC:=.drawC [4,5] [] f45_10h (some 17) (.f 70) [(.r 10),(.r 11),(.r 16)] f45_10p f45_10l
theorem f45_10e:aC P id m f45_10 sf st Q = (m = false∧drawC P id f45_10h (some 17) (.f 70) [(.r 10),(.r 11),(.r 16)] f45_10p sf st (im P id m [4,5] [] f45_10l Q)):=rfl
def f45_9:AC:=.seq f45_10 .ret
theorem f45_9e:SQ f45_9 f45_10 .ret:=rfl
def f45_3:AC:=.seq f45_4 f45_9
theorem f45_3e:SQ f45_3 f45_4 f45_9:=rfl
def f45_1:AC:=.seq f45_2 f45_3
theorem f45_1e:SQ f45_1 f45_2 f45_3:=rfl
def c_f45:AFun:=⟨20,[.tmp 4,.tmp 5],f45_1⟩
theorem k_f45:bj Go.Proofs.Try.prog x_f45 45 = some c_f45:=by kernel_rfl
theorem e_f45:aQ Go.Proofs.Try.prog 45 = true:=by kernel_rfl

def n_f46:Nat:=46
def x_f46:Cx:=⟨some,id,8,fun s=>([0,2,3,4,5,6,7]:List Nat).contains s,fun s=>([]:List Nat).contains s,msOf [(2,[0],[]),(6,[2,3],[])]⟩
def f46_2l:List GI:=[⟨none,.mv (some 2) (.c (.lit (.slice none 0 0)))⟩,
    ⟨none,.mv (some 3) (.c (.lit (.int .i64 0)))⟩]
def f46_2:AC:=.ops [0] [] f46_2l
theorem f46_2e:OP f46_2 f46_2l [0] []:=rfl
def f46_4l:List GI:=[vv 4 0,
    ⟨none,.call (some 5) false (.f 77) [(.r 4),(.c (.lit (.int .i64 64)))]⟩,
    ve 6 5 0,
    ve 7 5 1,
    vo 2 6,
    vo 3 7]
def f46_4:AC:=.ops [2,3] [] f46_4l
theorem f46_4e:OP f46_4 f46_4l [2,3] []:=rfl
def f46_3:AC:=.seq f46_4 .ret
theorem f46_3e:SQ f46_3 f46_4 .ret:=rfl
def f46_1:AC:=.seq f46_2 f46_3
theorem f46_1e:SQ f46_1 f46_2 f46_3:=rfl
def c_f46:AFun:=⟨8,[.tmp 2,.tmp 3],f46_1⟩
theorem k_f46:bj Go.Proofs.Try.prog x_f46 46 = some c_f46:=by kernel_rfl
theorem e_f46:aQ Go.Proofs.Try.prog 46 = true:=by kernel_rfl

end
end Go.Fx.YtphaaebhgggbaaaFx

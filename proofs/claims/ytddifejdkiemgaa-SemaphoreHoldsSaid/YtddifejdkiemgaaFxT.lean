/- The functions that the statement reaches, resolved: printed by a program of ours from the translated code; each is checked here. -/
import Derived.Test.YtddifejdkiemgaaProg
import Derived.Test.YtddifejdkiemgaaFxE
set_option maxRecDepth 100000
set_option maxHeartbeats 0
namespace Go.Fx.YtddifejdkiemgaaFx
open Go Go.Fx
abbrev SQ (a b c:AC):Prop:=∀ {P:Program} {m:Bool} {sf:Sf} {st:St} {Q:Exit→Sf→St→Prop},aC P id m a sf st Q = aC P id m b sf st (seqQ (aC P id m c) Q)
abbrev CN (a:AC) (r:Nat) (b c:AC):Prop:=∀ {P:Program} {m:Bool} {sf:Sf} {st:St} {Q:Exit→Sf→St→Prop},aC P id m a sf st Q = m4 (.r r) (sf.ev id (.r r)) (aC P id m b) (aC P id m c) sf st Q
abbrev OP (a:AC) (l:List GI) (x y:List Nat):Prop:=∀ {P:Program} {m:Bool} {sf:Sf} {st:St} {Q:Exit→Sf→St→Prop},aC P id m a sf st Q = runI P id m l (opsK x y Q) sf st
abbrev BL (a b:AC) (k:Nat):Prop:=∀ {P:Program} {m:Bool} {sf:Sf} {st:St} {Q:Exit→Sf→St→Prop},aC P id m a sf st Q = aC P id m b sf st (jL k Q)
abbrev KF:Lean.Meta.Simp.Config:={ implicitDefEqProofs:=false,maxSteps:=10000000 }
theorem bZ:type_of% (And.intro @oE (And.intro @m6 (And.intro @oT (And.intro @m8 (And.intro @rm (And.intro @oX (And.intro @o2 (And.intro @rx (And.intro @p5 (And.intro @rq (And.intro @o0 (And.intro @pX (And.intro @ev_r (And.intro @ev_c (And.intro @o_mv (And.intro @o_bin (And.intro @r8 (And.intro @dis_ptr (And.intro @sc (And.intro @p6 (And.intro @r7 (And.intro @oS (And.intro @m7 (And.intro @o1 (And.intro @sg (And.intro @sh (And.intro @List.map_cons.{0,0} (@List.map_nil.{0,0})))))))))))))))))))))))))))):=And.intro @oE (And.intro @m6 (And.intro @oT (And.intro @m8 (And.intro @rm (And.intro @oX (And.intro @o2 (And.intro @rx (And.intro @p5 (And.intro @rq (And.intro @o0 (And.intro @pX (And.intro @ev_r (And.intro @ev_c (And.intro @o_mv (And.intro @o_bin (And.intro @r8 (And.intro @dis_ptr (And.intro @sc (And.intro @p6 (And.intro @r7 (And.intro @oS (And.intro @m7 (And.intro @o1 (And.intro @sg (And.intro @sh (And.intro @List.map_cons.{0,0} (@List.map_nil.{0,0})))))))))))))))))))))))))))
abbrev vv (d x:Nat):GI:=⟨none,.mv (some d) (.r x)⟩
abbrev vo (d x:Nat):GI:=⟨none,.own d x⟩
abbrev ve (d x k:Nat):GI:=⟨none,.ext (some d) (.r x) k⟩
abbrev vn (d x:Nat):GI:=⟨none,.nilck (some d) (.r x)⟩
abbrev vd (d x k:Nat):GI:=⟨none,.addr (some d) (.r x) k⟩
abbrev vl (d x:Nat):GI:=⟨none,.load (some d) (.r x) none⟩
abbrev vb (d:Nat) (o:BinOp) (x:Nat) (n:Int):GI:=⟨none,.bin (some d) .num o (.r x) (.c (.lit (.int .i64 n)))⟩
section
variable (P:Program) (m:Bool) (sf:Sf) (st:St) (Q:Exit→Sf→St→Prop)
def n_f10:Nat:=10
def x_f10:Cx:=⟨some,id,192,fun s=>([0,1,4,5,6,7,8,10,11,12,13,14,15,16,17,18,19,20,21,22,23,24,25,26,27,28,29,31,32,33,34,35,36,38,39,40,42,43,44,45,47,49,51,52,53,55,56,57,60,61,63,65,67,70,71,73,75,78,79,80,82,84,85,86,89,90,91,93,94,95,97,99,100,101,102,103,104,105,106,107,108,109,110,111,112,113,114,115,116,117,118,119,120,121,122,123,124,125,126,127,128,130,131,132,134,135,136,137,138,139,140,141,142,143,144,145,146,149,152,153,154,155,157,158,159,161,162,164,167,169,170,171,172,173,175,177,179,182,183,185,186,187,188,189,191]:List Nat).contains s,fun s=>([140,147]:List Nat).contains s,msOf [(2,[0,1],[]),(6,[0,1,5,6],[]),(28,[0,1,5,6,30],[]),(116,[4],[]),(60,[0,1,5,37],[]),(244,[4],[]),(124,[0,1,5,7],[]),(250,[0,1,5,7],[]),(2000,[0,1,5,7,41],[]),(4003,[],[]),(8008,[0,1,5,7,8],[]),(16018,[0,1,5,7,8,9],[9]),(32038,[0,1,5,7,8,9,10],[9]),(128156,[0,1,5,7,8,9,10,51],[9]),(512628,[0,1,5,7,8,9,10,51,59],[9]),(1025258,[0,1,5,7,8,9,10],[9]),(2050518,[0,1,5,7,8,9,10,51,69],[9]),(4101038,[0,1,5,7,8,9,10],[9]),(8202078,[0,1,5,7,8,9,51,77],[9]),(16404158,[0,1,5,7,8,9,10],[9]),(32808318,[0,1,5,7,8,9,88],[9]),(65616638,[0,1,5,7,8,9,10],[9]),(65616639,[0,1,5,7,8,9,10],[9]),(128158,[0,1,5,7,8,9,10,11],[9]),(512636,[0,1,5,7,8,9,10,11,12],[9]),(1025274,[0,1,5,7,8,9,10,11,12],[9]),(8202192,[0,1,5,7,8,9,10,11,12,98],[9]),(16404387,[0,1,5,7,8,9,10,11],[9]),(16404388,[0,1,5,7,8,9,10,11,12],[9]),(8202195,[0,1,5,7,8,9,10,11,12],[9]),(1025276,[0,1,5,7,8,10,156],[]),(4101108,[4],[]),(1025278,[0,1,5,7,8,10,13],[]),(2050558,[0,1,5,7,8,10,13,14],[]),(4101118,[0,1,5,7,8,10,13,14],[]),(32808944,[0,1,5,7,8,10,13,14,160],[]),(65617891,[0,1,5,7],[]),(262471568,[0,1,5,7,8,10,13,14,168],[]),(524943138,[0,1,5,7,8,10,13,14],[]),(524943140,[0,1,5,7,8,10,13,14],[]),(4199545120,[0,1,5,7,8,10,13,14,184],[]),(8399090243,[0,1,5,7,8,10,13,14],[]),(4199545122,[0,1,5,7,8,10,13,14],[]),(524943142,[0,1,5,7,8,10,13,14,190],[]),(2099772572,[4],[]),(32808947,[0,1,5,7,8,10,13,14],[]),(2003,[0,1,5,7],[]),(126,[4],[])]⟩
def f10_2l:List GI:=[⟨none,.mv (some 4) (.c (.lit (.bool false)))⟩]
def f10_2:AC:=.ops [0,1] [] f10_2l
theorem f10_2e:OP f10_2 f10_2l [0,1] []:=rfl
def f10_4l:List GI:=[vv 16 0,
    ⟨none,.call (some 17) false (.f 29) [(.r 16),(.c (.lit (.int .u64 0)))]⟩,
    vv 15 17,
    ve 18 15 0,
    ve 19 15 1,
    vo 5 18,
    vo 6 19]
def f10_4:AC:=.ops [0,1,5,6] [] f10_4l
theorem f10_4e:OP f10_4 f10_4l [0,1,5,6] []:=rfl
def f10_7l:List GI:=[vv 20 0,
    vb 21 .lss 20 1,
    vv 22 21,
    ⟨some (22,false),.mv (some 23) (.r 0)⟩,
    ⟨some (22,false),.bin (some 24) .num .gtr (.r 23) (.c (.lit (.int .i64 1000)))⟩,
    ⟨none,.pick (some 25) (.r 22) (.c (.lit (.bool true))) (.r 24)⟩,
    vv 26 25,
    ⟨some (26,false),.mv (some 27) (.r 1)⟩,
    ⟨some (26,false),.len (some 28) .sl (.r 27)⟩,
    ⟨some (26,false),.bin (some 29) .num .gtr (.r 28) (.c (.lit (.int .i64 40)))⟩,
    ⟨none,.pick (some 30) (.r 26) (.c (.lit (.bool true))) (.r 29)⟩]
def f10_7:AC:=.ops [0,1,5,6,30] [] f10_7l
theorem f10_7e:OP f10_7 f10_7l [0,1,5,6,30] []:=rfl
def f10_10l:List GI:=[⟨none,.call (some 31) false (.f 31) []⟩,
    vo 4 31]
def f10_10:AC:=.ops [4] [] f10_10l
theorem f10_10e:OP f10_10 f10_10l [4] []:=rfl
def f10_9:AC:=.seq f10_10 .ret
theorem f10_9e:SQ f10_9 f10_10 .ret:=rfl
def f10_8:AC:=.cond (.r 30) f10_9 .skip
theorem f10_8e:CN f10_8 30 f10_9 .skip:=rfl
def f10_6:AC:=.seq f10_7 f10_8
theorem f10_6e:SQ f10_6 f10_7 f10_8:=rfl
def f10_13l:List GI:=[vv 32 6,
    vb 33 .neq 32 0,
    vv 34 33,
    ⟨some (34,false),.mv (some 35) (.r 5)⟩,
    ⟨some (34,false),.bin (some 36) (.nil .ptr) .eql (.r 35) (.c (.lit (.pointer none)))⟩,
    ⟨none,.pick (some 37) (.r 34) (.c (.lit (.bool true))) (.r 36)⟩]
def f10_13:AC:=.ops [0,1,5,37] [] f10_13l
theorem f10_13e:OP f10_13 f10_13l [0,1,5,37] []:=rfl
def f10_16l:List GI:=[⟨none,.mv (some 4) (.c (.lit (.bool false)))⟩]
def f10_16:AC:=.ops [4] [] f10_16l
theorem f10_16e:OP f10_16 f10_16l [4] []:=rfl
def f10_15:AC:=.seq f10_16 .ret
theorem f10_15e:SQ f10_15 f10_16 .ret:=rfl
def f10_14:AC:=.cond (.r 37) f10_15 .skip
theorem f10_14e:CN f10_14 37 f10_15 .skip:=rfl
def f10_12:AC:=.seq f10_13 f10_14
theorem f10_12e:SQ f10_12 f10_13 f10_14:=rfl
def f10_19l:List GI:=[⟨none,.mv (some 7) (.c (.lit (.int .i64 0)))⟩]
def f10_19:AC:=.ops [0,1,5,7] [] f10_19l
theorem f10_19e:OP f10_19 f10_19l [0,1,5,7] []:=rfl
def f10_24l:List GI:=[vv 38 7,
    vv 39 1,
    ⟨none,.len (some 40) .sl (.r 39)⟩,
    ⟨none,.bin (some 41) .num .lss (.r 38) (.r 40)⟩]
def f10_24:AC:=.ops [0,1,5,7,41] [] f10_24l
theorem f10_24e:OP f10_24 f10_24l [0,1,5,7,41] []:=rfl
def f10_25:AC:=.cond (.r 41) .skip (.exit [] [] 0)
theorem f10_25e:CN f10_25 41 .skip (.exit [] [] 0):=rfl
def f10_23:AC:=.seq f10_24 f10_25
theorem f10_23e:SQ f10_23 f10_24 f10_25:=rfl
def f10_29l:List GI:=[vv 44 5,
    ⟨none,.call (some 45) false (.f 34) [(.r 44)]⟩,
    vo 8 45]
def f10_29:AC:=.ops [0,1,5,7,8] [] f10_29l
theorem f10_29e:OP f10_29 f10_29l [0,1,5,7,8] []:=rfl
def f10_31l:List GI:=[vv 46 1,
    vv 47 7,
    ⟨none,.ixS (some 48) (.r 46) (.r 47) 4⟩,
    ⟨none,.load (some 49) (.r 48) (some 4)⟩,
    ⟨none,.newL 9 [(.lit (.int .i64 0)),(.lit (.int .i64 0)),(.lit (.int .i64 0)),(.lit (.int .u64 0))]⟩,
    ⟨none,.store 4 (.r 9) (.r 49)⟩]
def f10_31:AC:=.ops [0,1,5,7,8,9] [9] f10_31l
theorem f10_31e:OP f10_31 f10_31l [0,1,5,7,8,9] [9]:=rfl
def f10_33l:List GI:=[⟨none,.mv (some 10) (.c (.lit (.slice none 0 0)))⟩]
def f10_33:AC:=.ops [0,1,5,7,8,9,10] [9] f10_33l
theorem f10_33e:OP f10_33 f10_33l [0,1,5,7,8,9,10] [9]:=rfl
def f10_36l:List GI:=[vd 50 9 0,
    vl 51 50]
def f10_36:AC:=.ops [0,1,5,7,8,9,10,51] [9] f10_36l
theorem f10_36e:OP f10_36 f10_36l [0,1,5,7,8,9,10,51] [9]:=rfl
def f10_39l:List GI:=[vb 60 .eql 51 0,
    vo 59 60]
def f10_39:AC:=.ops [0,1,5,7,8,9,10,51,59] [9] f10_39l
theorem f10_39e:OP f10_39 f10_39l [0,1,5,7,8,9,10,51,59] [9]:=rfl
def f10_41l:List GI:=[vv 61 5,
    vd 62 9 1,
    vl 63 62,
    vd 64 9 2,
    vl 65 64,
    vd 66 9 3,
    vl 67 66,
    ⟨none,.call (some 68) false (.f 35) [(.r 61),(.r 63),(.r 65),(.r 67)]⟩]
def f10_41:AC:=.ops [0,1,5,7,8,9,10] [9] f10_41l
theorem f10_41e:OP f10_41 f10_41l [0,1,5,7,8,9,10] [9]:=rfl
def f10_43l:List GI:=[vb 70 .eql 51 1,
    vo 69 70]
def f10_43:AC:=.ops [0,1,5,7,8,9,10,51,69] [9] f10_43l
theorem f10_43e:OP f10_43 f10_43l [0,1,5,7,8,9,10,51,69] [9]:=rfl
def f10_45l:List GI:=[vv 71 5,
    vd 72 9 1,
    vl 73 72,
    vd 74 9 2,
    vl 75 74,
    ⟨none,.call (some 76) false (.f 36) [(.r 71),(.r 73),(.r 75)]⟩]
def f10_45:AC:=.ops [0,1,5,7,8,9,10] [9] f10_45l
theorem f10_45e:OP f10_45 f10_45l [0,1,5,7,8,9,10] [9]:=rfl
def f10_47l:List GI:=[vb 78 .eql 51 2,
    vo 77 78]
def f10_47:AC:=.ops [0,1,5,7,8,9,51,77] [9] f10_47l
theorem f10_47e:OP f10_47 f10_47l [0,1,5,7,8,9,51,77] [9]:=rfl
def f10_49l:List GI:=[vv 80 5,
    vd 81 9 1,
    vl 82 81,
    vd 83 9 2,
    vl 84 83,
    ⟨none,.call (some 85) false (.f 37) [(.r 80),(.r 82),(.r 84)]⟩,
    vv 79 85,
    ve 86 79 0,
    ve 87 79 1,
    vo 10 86]
def f10_49:AC:=.ops [0,1,5,7,8,9,10] [9] f10_49l
theorem f10_49e:OP f10_49 f10_49l [0,1,5,7,8,9,10] [9]:=rfl
def f10_51l:List GI:=[vb 89 .eql 51 3,
    vo 88 89]
def f10_51:AC:=.ops [0,1,5,7,8,9,88] [9] f10_51l
theorem f10_51e:OP f10_51 f10_51l [0,1,5,7,8,9,88] [9]:=rfl
def f10_53l:List GI:=[vv 91 5,
    vd 92 9 1,
    vl 93 92,
    ⟨none,.call (some 94) false (.f 38) [(.r 91),(.r 93)]⟩,
    vv 90 94,
    ve 95 90 0,
    ve 96 90 1,
    vo 10 95]
def f10_53:AC:=.ops [0,1,5,7,8,9,10] [9] f10_53l
theorem f10_53e:OP f10_53 f10_53l [0,1,5,7,8,9,10] [9]:=rfl
def f10_54l:List GI:=[vv 53 5,
    vd 54 9 3,
    vl 55 54,
    ⟨none,.call (some 56) false (.f 39) [(.r 53),(.r 55)]⟩,
    vv 52 56,
    ve 57 52 0,
    ve 58 52 1,
    vo 10 57]
def f10_54:AC:=.ops [0,1,5,7,8,9,10] [9] f10_54l
theorem f10_54e:OP f10_54 f10_54l [0,1,5,7,8,9,10] [9]:=rfl
def f10_52:AC:=.cond (.r 88) f10_53 f10_54
theorem f10_52e:CN f10_52 88 f10_53 f10_54:=rfl
def f10_50:AC:=.seq f10_51 f10_52
theorem f10_50e:SQ f10_50 f10_51 f10_52:=rfl
def f10_48:AC:=.cond (.r 77) f10_49 f10_50
theorem f10_48e:CN f10_48 77 f10_49 f10_50:=rfl
def f10_46:AC:=.seq f10_47 f10_48
theorem f10_46e:SQ f10_46 f10_47 f10_48:=rfl
def f10_44:AC:=.cond (.r 69) f10_45 f10_46
theorem f10_44e:CN f10_44 69 f10_45 f10_46:=rfl
def f10_42:AC:=.seq f10_43 f10_44
theorem f10_42e:SQ f10_42 f10_43 f10_44:=rfl
def f10_40:AC:=.cond (.r 59) f10_41 f10_42
theorem f10_40e:CN f10_40 59 f10_41 f10_42:=rfl
def f10_38:AC:=.seq f10_39 f10_40
theorem f10_38e:SQ f10_38 f10_39 f10_40:=rfl
def f10_37:AC:=.block 2 f10_38
theorem f10_37e:BL f10_37 f10_38 2:=rfl
def f10_35:AC:=.seq f10_36 f10_37
theorem f10_35e:SQ f10_35 f10_36 f10_37:=rfl
def f10_56l:List GI:=[⟨none,.mv (some 11) (.c (.lit (.int .i64 0)))⟩]
def f10_56:AC:=.ops [0,1,5,7,8,9,10,11] [9] f10_56l
theorem f10_56e:OP f10_56 f10_56l [0,1,5,7,8,9,10,11] [9]:=rfl
def f10_59l:List GI:=[⟨none,.mv (some 12) (.c (.lit (.int .i64 0)))⟩]
def f10_59:AC:=.ops [0,1,5,7,8,9,10,11,12] [9] f10_59l
theorem f10_59e:OP f10_59 f10_59l [0,1,5,7,8,9,10,11,12] [9]:=rfl
def f10_64l:List GI:=[vv 97 12,
    vb 98 .lss 97 64]
def f10_64:AC:=.ops [0,1,5,7,8,9,10,11,12,98] [9] f10_64l
theorem f10_64e:OP f10_64 f10_64l [0,1,5,7,8,9,10,11,12,98] [9]:=rfl
def f10_65:AC:=.cond (.r 98) .skip (.exit [0,1,5,7,8,9,10,11] [9] 3)
theorem f10_65e:CN f10_65 98 .skip (.exit [0,1,5,7,8,9,10,11] [9] 3):=rfl
def f10_63:AC:=.seq f10_64 f10_65
theorem f10_63e:SQ f10_63 f10_64 f10_65:=rfl
def f10_68l:List GI:=[vv 101 11,
    vv 102 5,
    vv 103 12,
    ⟨none,.call (some 104) false (.f 40) [(.r 102),(.r 103)]⟩,
    ⟨none,.bin (some 105) .num .add (.r 101) (.r 104)⟩,
    vo 11 105]
def f10_68:AC:=.ops [0,1,5,7,8,9,10,11,12] [9] f10_68l
theorem f10_68e:OP f10_68 f10_68l [0,1,5,7,8,9,10,11,12] [9]:=rfl
def f10_67:AC:=.block 4 f10_68
theorem f10_67e:BL f10_67 f10_68 4:=rfl
def f10_69l:List GI:=[vv 99 12,
    vb 100 .add 99 1,
    vo 12 100]
def f10_69:AC:=.ops [0,1,5,7,8,9,10,11,12] [9] f10_69l
theorem f10_69e:OP f10_69 f10_69l [0,1,5,7,8,9,10,11,12] [9]:=rfl
def f10_66:AC:=.seq f10_67 f10_69
theorem f10_66e:SQ f10_66 f10_67 f10_69:=rfl
def f10_62:AC:=.seq f10_63 f10_66
theorem f10_62e:SQ f10_62 f10_63 f10_66:=rfl
def f10_61:AC:=.loop [0,1,5,7,8,9,10,11,12] [9] f10_62
theorem f10_61w:aC P id m f10_61 sf st Q = ep (aC P id m f10_62) [0,1,5,7,8,9,10,11,12] [9] sf st Q:=rfl
def f10_60:AC:=.block 3 f10_61
theorem f10_60e:BL f10_60 f10_61 3:=rfl
def f10_58:AC:=.seq f10_59 f10_60
theorem f10_58e:SQ f10_58 f10_59 f10_60:=rfl
def f10_72h:List (Bool×GI):=[(false,vv 106 11),
    (false,vv 107 5),
    (false,⟨none,.call (some 108) true (.f 41) [(.r 107)]⟩),
    (false,⟨none,.bin (some 109) .num .add (.r 106) (.r 108)⟩),
    (false,vv 110 0),
    (false,⟨none,.bin (some 111) .num .neq (.r 109) (.r 110)⟩),
    (false,vv 112 111),
    (false,⟨some (112,false),.mv (some 113) (.r 5)⟩),
    (false,⟨some (112,false),.call (some 114) true (.f 41) [(.r 113)]⟩),
    (false,⟨some (112,false),.bin (some 115) .num .lss (.r 114) (.c (.lit (.int .i64 0)))⟩),
    (false,⟨none,.pick (some 116) (.r 112) (.c (.lit (.bool true))) (.r 115)⟩),
    (false,vv 117 116),
    (false,⟨some (117,false),.mv (some 118) (.r 5)⟩),
    (false,⟨some (117,false),.call (some 119) true (.f 42) [(.r 118)]⟩),
    (false,⟨some (117,false),.mv (some 120) (.r 5)⟩),
    (false,⟨some (117,false),.call (some 121) true (.f 43) [(.r 120)]⟩),
    (false,⟨some (117,false),.bin (some 122) .num .leq (.r 119) (.r 121)⟩),
    (false,⟨none,.pick (some 123) (.r 117) (.c (.lit (.bool true))) (.r 122)⟩),
    (false,vv 124 123),
    (false,⟨some (124,false),.mv (some 125) (.r 8)⟩),
    (false,⟨some (124,false),.len (some 126) .sl (.r 125)⟩),
    (false,⟨some (124,false),.bin (some 127) .num .gtr (.r 126) (.c (.lit (.int .i64 0)))⟩),
    (false,⟨some (124,false),.mv (some 128) (.r 127)⟩),
    (false,⟨some (128,true),.addr (some 129) (.r 9) 0⟩),
    (false,⟨some (128,true),.load (some 130) (.r 129) none⟩),
    (false,⟨some (128,true),.bin (some 131) .num .eql (.r 130) (.c (.lit (.int .i64 0)))⟩),
    (false,⟨some (128,true),.mv (some 132) (.r 131)⟩),
    (false,⟨some (132,false),.addr (some 133) (.r 9) 0⟩),
    (false,⟨some (132,false),.load (some 134) (.r 133) none⟩),
    (false,⟨some (132,false),.bin (some 135) .num .eql (.r 134) (.c (.lit (.int .i64 1)))⟩),
    (false,⟨some (128,true),.pick (some 136) (.r 132) (.c (.lit (.bool true))) (.r 135)⟩),
    (false,⟨some (124,false),.pick (some 137) (.r 128) (.r 136) (.c (.lit (.bool false)))⟩),
    (false,⟨some (124,false),.mv (some 138) (.r 137)⟩),
    (false,⟨some (138,true),.mv (some 139) (.r 5)⟩),
    (true,⟨some (138,true),.call (some 140) true (.f 34) [(.r 139)]⟩),
    (false,⟨some (138,true),.len (some 141) .sl (.r 140)⟩),
    (false,⟨some (138,true),.mv (some 142) (.r 8)⟩),
    (false,⟨some (138,true),.len (some 143) .sl (.r 142)⟩),
    (false,⟨some (138,true),.bin (some 144) .num .lss (.r 141) (.r 143)⟩),
    (false,⟨some (138,true),.mv (some 145) (.r 144)⟩),
    (false,⟨some (145,false),.mv (some 146) (.r 5)⟩),
    (true,⟨some (145,false),.call (some 147) true (.f 34) [(.r 146)]⟩),
    (false,⟨some (145,false),.ixS (some 148) (.r 147) (.c (.lit (.int .i64 0))) 1⟩),
    (false,⟨some (145,false),.load (some 149) (.r 148) none⟩),
    (false,⟨some (145,false),.mv (some 150) (.r 8)⟩),
    (false,⟨some (145,false),.ixS (some 151) (.r 150) (.c (.lit (.int .i64 0))) 1⟩),
    (false,⟨some (145,false),.load (some 152) (.r 151) none⟩)]
def f10_72l:List GI:=[⟨some (145,false),.bin (some 153) .num .neq (.r 149) (.r 152)⟩,
    ⟨some (138,true),.pick (some 154) (.r 145) (.c (.lit (.bool true))) (.r 153)⟩,
    ⟨some (124,false),.pick (some 155) (.r 138) (.r 154) (.c (.lit (.bool false)))⟩,
    ⟨none,.pick (some 156) (.r 124) (.c (.lit (.bool true))) (.r 155)⟩]
def f10_72:AC:=.drawG [0,1,5,7,8,10,156] [] [] f10_72h f10_72l
theorem f10_72e:aC P id m f10_72 sf st Q = (m = false∧preG P id sf.locs st f10_72h (tailG P id m [] [0,1,5,7,8,10,156] [] f10_72l Q st) [] ⟨sf.regs,dn [] sf.locs⟩):=rfl
def f10_75l:List GI:=[⟨none,.mv (some 4) (.c (.lit (.bool false)))⟩]
def f10_75:AC:=.ops [4] [] f10_75l
theorem f10_75e:OP f10_75 f10_75l [4] []:=rfl
def f10_74:AC:=.seq f10_75 .ret
theorem f10_74e:SQ f10_74 f10_75 .ret:=rfl
def f10_73:AC:=.cond (.r 156) f10_74 .skip
theorem f10_73e:CN f10_73 156 f10_74 .skip:=rfl
def f10_71:AC:=.seq f10_72 f10_73
theorem f10_71e:SQ f10_71 f10_72 f10_73:=rfl
def f10_77l:List GI:=[⟨none,.mv (some 13) (.c (.lit (.int .i64 0)))⟩]
def f10_77:AC:=.ops [0,1,5,7,8,10,13] [] f10_77l
theorem f10_77e:OP f10_77 f10_77l [0,1,5,7,8,10,13] []:=rfl
def f10_79l:List GI:=[⟨none,.mv (some 14) (.c (.lit (.int .i64 0)))⟩]
def f10_79:AC:=.ops [0,1,5,7,8,10,13,14] [] f10_79l
theorem f10_79e:OP f10_79 f10_79l [0,1,5,7,8,10,13,14] []:=rfl
def f10_84l:List GI:=[vv 157 14,
    vv 158 10,
    ⟨none,.len (some 159) .sl (.r 158)⟩,
    ⟨none,.bin (some 160) .num .lss (.r 157) (.r 159)⟩]
def f10_84:AC:=.ops [0,1,5,7,8,10,13,14,160] [] f10_84l
theorem f10_84e:OP f10_84 f10_84l [0,1,5,7,8,10,13,14,160] []:=rfl
def f10_85:AC:=.cond (.r 160) .skip (.exit [0,1,5,7] [] 5)
theorem f10_85e:CN f10_85 160 .skip (.exit [0,1,5,7] [] 5):=rfl
def f10_83:AC:=.seq f10_84 f10_85
theorem f10_83e:SQ f10_83 f10_84 f10_85:=rfl
def f10_90l:List GI:=[vv 163 10,
    vv 164 14,
    ⟨none,.ixS (some 165) (.r 163) (.r 164) 2⟩,
    vd 166 165 1,
    vl 167 166,
    vb 168 .neq 167 0]
def f10_90:AC:=.ops [0,1,5,7,8,10,13,14,168] [] f10_90l
theorem f10_90e:OP f10_90 f10_90l [0,1,5,7,8,10,13,14,168] []:=rfl
def f10_91:AC:=.cond (.r 168) (.exit [0,1,5,7,8,10,13,14] [] 6) .skip
theorem f10_91e:CN f10_91 168 (.exit [0,1,5,7,8,10,13,14] [] 6) .skip:=rfl
def f10_89:AC:=.seq f10_90 f10_91
theorem f10_89e:SQ f10_89 f10_90 f10_91:=rfl
def f10_97h:List GI:=[vv 169 13,
    vv 170 8,
    ⟨none,.len (some 171) .sl (.r 170)⟩,
    ⟨none,.bin (some 172) .num .lss (.r 169) (.r 171)⟩,
    vv 173 172,
    ⟨some (173,true),.mv (some 174) (.r 8)⟩,
    ⟨some (173,true),.mv (some 175) (.r 13)⟩,
    ⟨some (173,true),.ixS (some 176) (.r 174) (.r 175) 1⟩,
    ⟨some (173,true),.load (some 177) (.r 176) none⟩,
    ⟨some (173,true),.mv (some 178) (.r 10)⟩,
    ⟨some (173,true),.mv (some 179) (.r 14)⟩,
    ⟨some (173,true),.ixS (some 180) (.r 178) (.r 179) 2⟩,
    ⟨some (173,true),.addr (some 181) (.r 180) 0⟩,
    ⟨some (173,true),.load (some 182) (.r 181) none⟩]
def f10_97l:List GI:=[⟨some (173,true),.bin (some 183) .num .neq (.r 177) (.r 182)⟩,
    ⟨none,.pick (some 184) (.r 173) (.r 183) (.c (.lit (.bool false)))⟩]
def f10_97:AC:=.draw [0,1,5,7,8,10,13,14,184] [] [] f10_97h f10_97l
theorem f10_97e:aC P id m f10_97 sf st Q = dg P id sf.locs st f10_97h (eH P id m [] [0,1,5,7,8,10,13,14,184] [] f10_97l Q st) [] ⟨sf.regs,dn [] sf.locs⟩:=rfl
def f10_98:AC:=.cond (.r 184) .skip (.exit [0,1,5,7,8,10,13,14] [] 7)
theorem f10_98e:CN f10_98 184 .skip (.exit [0,1,5,7,8,10,13,14] [] 7):=rfl
def f10_96:AC:=.seq f10_97 f10_98
theorem f10_96e:SQ f10_96 f10_97 f10_98:=rfl
def f10_100l:List GI:=[vv 185 13,
    vb 186 .add 185 1,
    vo 13 186]
def f10_100:AC:=.ops [0,1,5,7,8,10,13,14] [] f10_100l
theorem f10_100e:OP f10_100 f10_100l [0,1,5,7,8,10,13,14] []:=rfl
def f10_99:AC:=.block 8 f10_100
theorem f10_99e:BL f10_99 f10_100 8:=rfl
def f10_95:AC:=.seq f10_96 f10_99
theorem f10_95e:SQ f10_95 f10_96 f10_99:=rfl
def f10_94:AC:=.loop [0,1,5,7,8,10,13,14] [] f10_95
theorem f10_94w:aC P id m f10_94 sf st Q = ep (aC P id m f10_95) [0,1,5,7,8,10,13,14] [] sf st Q:=rfl
def f10_93:AC:=.block 7 f10_94
theorem f10_93e:BL f10_93 f10_94 7:=rfl
def f10_102l:List GI:=[vv 187 13,
    vv 188 8,
    ⟨none,.len (some 189) .sl (.r 188)⟩,
    ⟨none,.bin (some 190) .num .geq (.r 187) (.r 189)⟩]
def f10_102:AC:=.ops [0,1,5,7,8,10,13,14,190] [] f10_102l
theorem f10_102e:OP f10_102 f10_102l [0,1,5,7,8,10,13,14,190] []:=rfl
def f10_105l:List GI:=[⟨none,.mv (some 4) (.c (.lit (.bool false)))⟩]
def f10_105:AC:=.ops [4] [] f10_105l
theorem f10_105e:OP f10_105 f10_105l [4] []:=rfl
def f10_104:AC:=.seq f10_105 .ret
theorem f10_104e:SQ f10_104 f10_105 .ret:=rfl
def f10_103:AC:=.cond (.r 190) f10_104 .skip
theorem f10_103e:CN f10_103 190 f10_104 .skip:=rfl
def f10_101:AC:=.seq f10_102 f10_103
theorem f10_101e:SQ f10_101 f10_102 f10_103:=rfl
def f10_92:AC:=.seq f10_93 f10_101
theorem f10_92e:SQ f10_92 f10_93 f10_101:=rfl
def f10_88:AC:=.seq f10_89 f10_92
theorem f10_88e:SQ f10_88 f10_89 f10_92:=rfl
def f10_87:AC:=.block 6 f10_88
theorem f10_87e:BL f10_87 f10_88 6:=rfl
def f10_106l:List GI:=[vv 161 14,
    vb 162 .add 161 1,
    vo 14 162]
def f10_106:AC:=.ops [0,1,5,7,8,10,13,14] [] f10_106l
theorem f10_106e:OP f10_106 f10_106l [0,1,5,7,8,10,13,14] []:=rfl
def f10_86:AC:=.seq f10_87 f10_106
theorem f10_86e:SQ f10_86 f10_87 f10_106:=rfl
def f10_82:AC:=.seq f10_83 f10_86
theorem f10_82e:SQ f10_82 f10_83 f10_86:=rfl
def f10_81:AC:=.loop [0,1,5,7,8,10,13,14] [] f10_82
theorem f10_81w:aC P id m f10_81 sf st Q = ep (aC P id m f10_82) [0,1,5,7,8,10,13,14] [] sf st Q:=rfl
def f10_80:AC:=.block 5 f10_81
theorem f10_80e:BL f10_80 f10_81 5:=rfl
def f10_78:AC:=.seq f10_79 f10_80
theorem f10_78e:SQ f10_78 f10_79 f10_80:=rfl
def f10_76:AC:=.seq f10_77 f10_78
theorem f10_76e:SQ f10_76 f10_77 f10_78:=rfl
def f10_70:AC:=.seq f10_71 f10_76
theorem f10_70e:SQ f10_70 f10_71 f10_76:=rfl
def f10_57:AC:=.seq f10_58 f10_70
theorem f10_57e:SQ f10_57 f10_58 f10_70:=rfl
def f10_55:AC:=.seq f10_56 f10_57
theorem f10_55e:SQ f10_55 f10_56 f10_57:=rfl
def f10_34:AC:=.seq f10_35 f10_55
theorem f10_34e:SQ f10_34 f10_35 f10_55:=rfl
def f10_32:AC:=.seq f10_33 f10_34
theorem f10_32e:SQ f10_32 f10_33 f10_34:=rfl
def f10_30:AC:=.seq f10_31 f10_32
theorem f10_30e:SQ f10_30 f10_31 f10_32:=rfl
def f10_28:AC:=.seq f10_29 f10_30
theorem f10_28e:SQ f10_28 f10_29 f10_30:=rfl
def f10_27:AC:=.block 1 f10_28
theorem f10_27e:BL f10_27 f10_28 1:=rfl
def f10_107l:List GI:=[vv 42 7,
    vb 43 .add 42 1,
    vo 7 43]
def f10_107:AC:=.ops [0,1,5,7] [] f10_107l
theorem f10_107e:OP f10_107 f10_107l [0,1,5,7] []:=rfl
def f10_26:AC:=.seq f10_27 f10_107
theorem f10_26e:SQ f10_26 f10_27 f10_107:=rfl
def f10_22:AC:=.seq f10_23 f10_26
theorem f10_22e:SQ f10_22 f10_23 f10_26:=rfl
def f10_21:AC:=.loop [0,1,5,7] [] f10_22
theorem f10_21w:aC P id m f10_21 sf st Q = ep (aC P id m f10_22) [0,1,5,7] [] sf st Q:=rfl
def f10_20:AC:=.block 0 f10_21
theorem f10_20e:BL f10_20 f10_21 0:=rfl
def f10_18:AC:=.seq f10_19 f10_20
theorem f10_18e:SQ f10_18 f10_19 f10_20:=rfl
def f10_109l:List GI:=[⟨none,.call (some 191) false (.f 31) []⟩,
    vo 4 191]
def f10_109:AC:=.ops [4] [] f10_109l
theorem f10_109e:OP f10_109 f10_109l [4] []:=rfl
def f10_108:AC:=.seq f10_109 .ret
theorem f10_108e:SQ f10_108 f10_109 .ret:=rfl
def f10_17:AC:=.seq f10_18 f10_108
theorem f10_17e:SQ f10_17 f10_18 f10_108:=rfl
def f10_11:AC:=.seq f10_12 f10_17
theorem f10_11e:SQ f10_11 f10_12 f10_17:=rfl
def f10_5:AC:=.seq f10_6 f10_11
theorem f10_5e:SQ f10_5 f10_6 f10_11:=rfl
def f10_3:AC:=.seq f10_4 f10_5
theorem f10_3e:SQ f10_3 f10_4 f10_5:=rfl
def f10_1:AC:=.seq f10_2 f10_3
theorem f10_1e:SQ f10_1 f10_2 f10_3:=rfl
def c_f10:AFun:=⟨192,[.tmp 4],f10_1⟩
theorem k_f10:dX Go.Proofs.Try.prog x_f10 10 = some c_f10:=by kernel_rfl
theorem e_f10:cQ Go.Proofs.Try.prog 10 = true:=by kernel_rfl

def n_f29:Nat:=29
def x_f29:Cx:=⟨some,id,23,fun s=>([0,1,4,5,6,7,8,9,10,11,12,13,14,16,17,18,19,20,21,22]:List Nat).contains s,fun s=>([]:List Nat).contains s,msOf [(2,[0,1],[]),(12,[0,1,15],[]),(52,[4,5],[]),(14,[4,5],[])]⟩
def f29_2l:List GI:=[⟨none,.mv (some 4) (.c (.lit (.pointer none)))⟩,
    ⟨none,.mv (some 5) (.c (.lit (.int .i64 0)))⟩]
def f29_2:AC:=.ops [0,1] [] f29_2l
theorem f29_2e:OP f29_2 f29_2l [0,1] []:=rfl
def f29_5l:List GI:=[vv 6 0,
    vb 7 .lss 6 1,
    vv 8 7,
    ⟨some (8,false),.mv (some 9) (.r 0)⟩,
    ⟨some (8,false),.bin (some 10) .num .gtr (.r 9) (.c (.lit (.int .i64 1048576)))⟩,
    ⟨none,.pick (some 11) (.r 8) (.c (.lit (.bool true))) (.r 10)⟩,
    vv 12 11,
    ⟨some (12,false),.mv (some 13) (.r 1)⟩,
    ⟨some (12,false),.bin (some 14) .num .eql (.r 13) (.c (.lit (.int .u64 18446744073709551615)))⟩,
    ⟨none,.pick (some 15) (.r 12) (.c (.lit (.bool true))) (.r 14)⟩]
def f29_5:AC:=.ops [0,1,15] [] f29_5l
theorem f29_5e:OP f29_5 f29_5l [0,1,15] []:=rfl
def f29_8l:List GI:=[⟨none,.mv (some 4) (.c (.lit (.pointer none)))⟩,
    ⟨none,.mv (some 5) (.c (.lit (.int .i64 2)))⟩]
def f29_8:AC:=.ops [4,5] [] f29_8l
theorem f29_8e:OP f29_8 f29_8l [4,5] []:=rfl
def f29_7:AC:=.seq f29_8 .ret
theorem f29_7e:SQ f29_7 f29_8 .ret:=rfl
def f29_6:AC:=.cond (.r 15) f29_7 .skip
theorem f29_6e:CN f29_6 15 f29_7 .skip:=rfl
def f29_4:AC:=.seq f29_5 f29_6
theorem f29_4e:SQ f29_4 f29_5 f29_6:=rfl
def f29_10l:List GI:=[vv 16 0,
    vv 17 0,
    vv 18 1,
    ⟨none,.call (some 19) false (.f 45) []⟩,
    ⟨none,.mkmap 20⟩,
    ⟨none,.bst (some 21) [(0,1),(1,1),(2,1),(3,64),(67,1),(68,1)] (.agg [(.lit (.int .i64 0)),(.lit (.int .i64 0)),(.lit (.int .u64 0)),(.lit (.int .i64 0)),(.lit (.int .i64 0)),(.lit (.int .i64 0)),(.lit (.int .i64 0)),(.lit (.int .i64 0)),(.lit (.int .i64 0)),(.lit (.int .i64 0)),(.lit (.int .i64 0)),(.lit (.int .i64 0)),(.lit (.int .i64 0)),(.lit (.int .i64 0)),(.lit (.int .i64 0)),(.lit (.int .i64 0)),(.lit (.int .i64 0)),(.lit (.int .i64 0)),(.lit (.int .i64 0)),(.lit (.int .i64 0)),(.lit (.int .i64 0)),(.lit (.int .i64 0)),(.lit (.int .i64 0)),(.lit (.int .i64 0)),(.lit (.int .i64 0)),(.lit (.int .i64 0)),(.lit (.int .i64 0)),(.lit (.int .i64 0)),(.lit (.int .i64 0)),(.lit (.int .i64 0)),(.lit (.int .i64 0)),(.lit (.int .i64 0)),(.lit (.int .i64 0)),(.lit (.int .i64 0)),(.lit (.int .i64 0)),(.lit (.int .i64 0)),(.lit (.int .i64 0)),(.lit (.int .i64 0)),(.lit (.int .i64 0)),(.lit (.int .i64 0)),(.lit (.int .i64 0)),(.lit (.int .i64 0)),(.lit (.int .i64 0)),(.lit (.int .i64 0)),(.lit (.int .i64 0)),(.lit (.int .i64 0)),(.lit (.int .i64 0)),(.lit (.int .i64 0)),(.lit (.int .i64 0)),(.lit (.int .i64 0)),(.lit (.int .i64 0)),(.lit (.int .i64 0)),(.lit (.int .i64 0)),(.lit (.int .i64 0)),(.lit (.int .i64 0)),(.lit (.int .i64 0)),(.lit (.int .i64 0)),(.lit (.int .i64 0)),(.lit (.int .i64 0)),(.lit (.int .i64 0)),(.lit (.int .i64 0)),(.lit (.int .i64 0)),(.lit (.int .i64 0)),(.lit (.int .i64 0)),(.lit (.int .i64 0)),(.lit (.int .i64 0)),(.lit (.int .i64 0)),(.lit (.pointer none)),(.lit (.map none))]) [(0,(.r 16)),(1,(.r 17)),(2,(.r 18)),(4,(.r 19)),(5,(.r 20))]⟩,
    ⟨none,.boxB 22 69 (.r 21)⟩,
    vo 4 22,
    ⟨none,.mv (some 5) (.c (.lit (.int .i64 0)))⟩]
def f29_10:AC:=.ops [4,5] [] f29_10l
theorem f29_10e:OP f29_10 f29_10l [4,5] []:=rfl
def f29_9:AC:=.seq f29_10 .ret
theorem f29_9e:SQ f29_9 f29_10 .ret:=rfl
def f29_3:AC:=.seq f29_4 f29_9
theorem f29_3e:SQ f29_3 f29_4 f29_9:=rfl
def f29_1:AC:=.seq f29_2 f29_3
theorem f29_1e:SQ f29_1 f29_2 f29_3:=rfl
def c_f29:AFun:=⟨23,[.tmp 4,.tmp 5],f29_1⟩
theorem k_f29:dX Go.Proofs.Try.prog x_f29 29 = some c_f29:=by kernel_rfl
theorem e_f29:cQ Go.Proofs.Try.prog 29 = true:=by kernel_rfl

def n_f31:Nat:=31
def x_f31:Cx:=⟨some,id,122,fun s=>([0,1,2,3,5,6,7,8,10,11,12,13,14,15,16,17,18,19,20,21,22,23,24,25,26,27,28,29,30,31,32,33,34,35,36,37,38,39,41,42,43,44,45,46,47,48,49,50,51,52,53,54,55,56,57,58,59,60,61,62,63,64,65,66,67,68,69,71,72,73,74,75,76,77,78,79,80,81,82,83,84,86,87,88,89,90,91,92,93,94,95,96,97,98,99,100,101,102,103,104,105,106,107,108,109,110,111,112,113,114,115,116,117,118,119,120,121]:List Nat).contains s,fun s=>([]:List Nat).contains s,msOf [(2,[],[]),(6,[1,2],[]),(28,[1,40],[]),(116,[0],[]),(60,[1,70],[]),(244,[0],[]),(62,[1,2,3],[]),(252,[1,85],[]),(1012,[0],[]),(254,[1,5],[]),(510,[1,5,6,7],[]),(1022,[1,5,6,7,8],[]),(2046,[5,6,7,8,10],[]),(4094,[0],[])]⟩
def f31_2l:List GI:=[⟨none,.mv (some 0) (.c (.lit (.bool false)))⟩]
def f31_2:AC:=.ops [] [] f31_2l
theorem f31_2e:OP f31_2 f31_2l [] []:=rfl
def f31_4l:List GI:=[⟨none,.call (some 12) false (.f 29) [(.c (.lit (.int .i64 3))),(.c (.lit (.int .u64 10)))]⟩,
    vv 11 12,
    ve 13 11 0,
    ve 14 11 1,
    vo 1 13,
    vo 2 14]
def f31_4:AC:=.ops [1,2] [] f31_4l
theorem f31_4e:OP f31_4 f31_4l [1,2] []:=rfl
def f31_7l:List GI:=[vv 15 2,
    vb 16 .neq 15 0,
    vv 17 16,
    ⟨some (17,false),.mv (some 18) (.r 1)⟩,
    ⟨some (17,false),.bin (some 19) (.nil .ptr) .eql (.r 18) (.c (.lit (.pointer none)))⟩,
    ⟨none,.pick (some 20) (.r 17) (.c (.lit (.bool true))) (.r 19)⟩,
    vv 21 20,
    ⟨some (21,false),.mv (some 22) (.r 1)⟩,
    ⟨some (21,false),.call (some 23) false (.f 52) [(.r 22),(.c (.lit (.int .i64 0))),(.c (.lit (.int .i64 2))),(.c (.lit (.int .u64 18446744073709551615))),(.c (.lit (.bool true))),(.c (.lit (.int .i64 0)))]⟩,
    ⟨some (21,false),.un (some 24) .not (.r 23)⟩,
    ⟨none,.pick (some 25) (.r 21) (.c (.lit (.bool true))) (.r 24)⟩,
    vv 26 25,
    ⟨some (26,false),.mv (some 27) (.r 1)⟩,
    ⟨some (26,false),.call (some 28) false (.f 52) [(.r 27),(.c (.lit (.int .i64 1))),(.c (.lit (.int .i64 2))),(.c (.lit (.int .u64 20))),(.c (.lit (.bool false))),(.c (.lit (.int .i64 0)))]⟩,
    ⟨some (26,false),.un (some 29) .not (.r 28)⟩,
    ⟨none,.pick (some 30) (.r 26) (.c (.lit (.bool true))) (.r 29)⟩,
    vv 31 30,
    ⟨some (31,false),.mv (some 32) (.r 1)⟩,
    ⟨some (31,false),.call (some 33) false (.f 52) [(.r 32),(.c (.lit (.int .i64 2))),(.c (.lit (.int .i64 1))),(.c (.lit (.int .u64 18446744073709551615))),(.c (.lit (.bool false))),(.c (.lit (.int .i64 0)))]⟩,
    ⟨some (31,false),.un (some 34) .not (.r 33)⟩,
    ⟨none,.pick (some 35) (.r 31) (.c (.lit (.bool true))) (.r 34)⟩,
    vv 36 35,
    ⟨some (36,false),.mv (some 37) (.r 1)⟩,
    ⟨some (36,false),.call (some 38) false (.f 36) [(.r 37),(.c (.lit (.int .i64 3))),(.c (.lit (.int .i64 1)))]⟩,
    ⟨some (36,false),.bin (some 39) .num .neq (.r 38) (.c (.lit (.int .i64 16)))⟩,
    ⟨none,.pick (some 40) (.r 36) (.c (.lit (.bool true))) (.r 39)⟩]
def f31_7:AC:=.ops [1,40] [] f31_7l
theorem f31_7e:OP f31_7 f31_7l [1,40] []:=rfl
def f31_10l:List GI:=[⟨none,.mv (some 0) (.c (.lit (.bool false)))⟩]
def f31_10:AC:=.ops [0] [] f31_10l
theorem f31_10e:OP f31_10 f31_10l [0] []:=rfl
def f31_9:AC:=.seq f31_10 .ret
theorem f31_9e:SQ f31_9 f31_10 .ret:=rfl
def f31_8:AC:=.cond (.r 40) f31_9 .skip
theorem f31_8e:CN f31_8 40 f31_9 .skip:=rfl
def f31_6:AC:=.seq f31_7 f31_8
theorem f31_6e:SQ f31_6 f31_7 f31_8:=rfl
def f31_13l:List GI:=[vv 41 1,
    ⟨none,.call (some 42) false (.f 41) [(.r 41)]⟩,
    vb 43 .neq 42 1,
    vv 44 43,
    ⟨some (44,false),.mv (some 45) (.r 1)⟩,
    ⟨some (44,false),.call (some 46) false (.f 34) [(.r 45)]⟩,
    ⟨some (44,false),.bsl (some 47) 1 2 (.lit (.int .i64 0)) [(0,(.c (.lit (.int .i64 1)))),(1,(.c (.lit (.int .i64 2))))]⟩,
    ⟨some (44,false),.call (some 48) false (.f 53) [(.r 46),(.r 47)]⟩,
    ⟨some (44,false),.un (some 49) .not (.r 48)⟩,
    ⟨none,.pick (some 50) (.r 44) (.c (.lit (.bool true))) (.r 49)⟩,
    vv 51 50,
    ⟨some (51,false),.mv (some 52) (.r 1)⟩,
    ⟨some (51,false),.call (some 53) false (.f 42) [(.r 52)]⟩,
    ⟨some (51,false),.bin (some 54) .num .neq (.r 53) (.c (.lit (.int .u64 20)))⟩,
    ⟨none,.pick (some 55) (.r 51) (.c (.lit (.bool true))) (.r 54)⟩,
    vv 56 55,
    ⟨some (56,false),.mv (some 57) (.r 1)⟩,
    ⟨some (56,false),.call (some 58) false (.f 52) [(.r 57),(.c (.lit (.int .i64 1))),(.c (.lit (.int .i64 1))),(.c (.lit (.int .u64 18446744073709551615))),(.c (.lit (.bool false))),(.c (.lit (.int .i64 11)))]⟩,
    ⟨some (56,false),.un (some 59) .not (.r 58)⟩,
    ⟨none,.pick (some 60) (.r 56) (.c (.lit (.bool true))) (.r 59)⟩,
    vv 61 60,
    ⟨some (61,false),.mv (some 62) (.r 1)⟩,
    ⟨some (61,false),.call (some 63) false (.f 52) [(.r 62),(.c (.lit (.int .i64 4))),(.c (.lit (.int .i64 4))),(.c (.lit (.int .u64 18446744073709551615))),(.c (.lit (.bool false))),(.c (.lit (.int .i64 2)))]⟩,
    ⟨some (61,false),.un (some 64) .not (.r 63)⟩,
    ⟨none,.pick (some 65) (.r 61) (.c (.lit (.bool true))) (.r 64)⟩,
    vv 66 65,
    ⟨some (66,false),.mv (some 67) (.r 1)⟩,
    ⟨some (66,false),.call (some 68) false (.f 52) [(.r 67),(.c (.lit (.int .i64 4))),(.c (.lit (.int .i64 1))),(.c (.lit (.int .u64 10))),(.c (.lit (.bool false))),(.c (.lit (.int .i64 12)))]⟩,
    ⟨some (66,false),.un (some 69) .not (.r 68)⟩,
    ⟨none,.pick (some 70) (.r 66) (.c (.lit (.bool true))) (.r 69)⟩]
def f31_13:AC:=.ops [1,70] [] f31_13l
theorem f31_13e:OP f31_13 f31_13l [1,70] []:=rfl
def f31_16l:List GI:=[⟨none,.mv (some 0) (.c (.lit (.bool false)))⟩]
def f31_16:AC:=.ops [0] [] f31_16l
theorem f31_16e:OP f31_16 f31_16l [0] []:=rfl
def f31_15:AC:=.seq f31_16 .ret
theorem f31_15e:SQ f31_15 f31_16 .ret:=rfl
def f31_14:AC:=.cond (.r 70) f31_15 .skip
theorem f31_14e:CN f31_14 70 f31_15 .skip:=rfl
def f31_12:AC:=.seq f31_13 f31_14
theorem f31_12e:SQ f31_12 f31_13 f31_14:=rfl
def f31_18l:List GI:=[vv 72 1,
    ⟨none,.call (some 73) false (.f 39) [(.r 72),(.c (.lit (.int .u64 20)))]⟩,
    vv 71 73,
    ve 74 71 0,
    ve 75 71 1,
    vo 3 74,
    vo 2 75]
def f31_18:AC:=.ops [1,2,3] [] f31_18l
theorem f31_18e:OP f31_18 f31_18l [1,2,3] []:=rfl
def f31_21l:List GI:=[vv 76 2,
    vb 77 .neq 76 0,
    vv 78 77,
    ⟨some (78,false),.mv (some 79) (.r 3)⟩,
    ⟨some (78,false),.bst (some 80) [(0,1),(1,1)] (.agg [(.lit (.int .i64 0)),(.lit (.int .i64 0))]) [(0,(.c (.lit (.int .i64 1)))),(1,(.c (.lit (.int .i64 12))))]⟩,
    ⟨some (78,false),.bst (some 81) [(0,1),(1,1)] (.agg [(.lit (.int .i64 0)),(.lit (.int .i64 0))]) [(0,(.c (.lit (.int .i64 2))))]⟩,
    ⟨some (78,false),.bsl (some 82) 2 2 (.agg [(.lit (.int .i64 0)),(.lit (.int .i64 0))]) [(0,(.r 80)),(1,(.r 81))]⟩,
    ⟨some (78,false),.call (some 83) false (.f 54) [(.r 79),(.r 82)]⟩,
    ⟨some (78,false),.un (some 84) .not (.r 83)⟩,
    ⟨none,.pick (some 85) (.r 78) (.c (.lit (.bool true))) (.r 84)⟩]
def f31_21:AC:=.ops [1,85] [] f31_21l
theorem f31_21e:OP f31_21 f31_21l [1,85] []:=rfl
def f31_24l:List GI:=[⟨none,.mv (some 0) (.c (.lit (.bool false)))⟩]
def f31_24:AC:=.ops [0] [] f31_24l
theorem f31_24e:OP f31_24 f31_24l [0] []:=rfl
def f31_23:AC:=.seq f31_24 .ret
theorem f31_23e:SQ f31_23 f31_24 .ret:=rfl
def f31_22:AC:=.cond (.r 85) f31_23 .skip
theorem f31_22e:CN f31_22 85 f31_23 .skip:=rfl
def f31_20:AC:=.seq f31_21 f31_22
theorem f31_20e:SQ f31_20 f31_21 f31_22:=rfl
def f31_26l:List GI:=[vv 87 1,
    ⟨none,.call (some 88) false (.f 37) [(.r 87),(.c (.lit (.int .i64 0))),(.c (.lit (.int .i64 3)))]⟩,
    vv 86 88,
    ve 89 86 0,
    ve 90 86 1,
    vo 4 89,
    vo 5 90]
def f31_26:AC:=.ops [1,5] [] f31_26l
theorem f31_26e:OP f31_26 f31_26l [1,5] []:=rfl
def f31_28l:List GI:=[vv 92 1,
    ⟨none,.call (some 93) false (.f 37) [(.r 92),(.c (.lit (.int .i64 0))),(.c (.lit (.int .i64 2)))]⟩,
    vv 91 93,
    ve 94 91 0,
    ve 95 91 1,
    vo 6 94,
    vo 7 95]
def f31_28:AC:=.ops [1,5,6,7] [] f31_28l
theorem f31_28e:OP f31_28 f31_28l [1,5,6,7] []:=rfl
def f31_30l:List GI:=[vv 96 1,
    ⟨none,.call (some 97) false (.f 41) [(.r 96)]⟩,
    vo 8 97]
def f31_30:AC:=.ops [1,5,6,7,8] [] f31_30l
theorem f31_30e:OP f31_30 f31_30l [1,5,6,7,8] []:=rfl
def f31_32l:List GI:=[vv 99 1,
    ⟨none,.call (some 100) false (.f 39) [(.r 99),(.c (.lit (.int .u64 19)))]⟩,
    vv 98 100,
    ve 101 98 0,
    ve 102 98 1,
    vo 9 101,
    vo 10 102]
def f31_32:AC:=.ops [5,6,7,8,10] [] f31_32l
theorem f31_32e:OP f31_32 f31_32l [5,6,7,8,10] []:=rfl
def f31_34l:List GI:=[vv 103 5,
    vb 104 .eql 103 9,
    vv 105 104,
    ⟨some (105,true),.mv (some 106) (.r 7)⟩,
    ⟨some (105,true),.bin (some 107) .num .eql (.r 106) (.c (.lit (.int .i64 0)))⟩,
    ⟨none,.pick (some 108) (.r 105) (.r 107) (.c (.lit (.bool false)))⟩,
    vv 109 108,
    ⟨some (109,true),.mv (some 110) (.r 6)⟩,
    ⟨some (109,true),.len (some 111) .sl (.r 110)⟩,
    ⟨some (109,true),.bin (some 112) .num .eql (.r 111) (.c (.lit (.int .i64 0)))⟩,
    ⟨none,.pick (some 113) (.r 109) (.r 112) (.c (.lit (.bool false)))⟩,
    vv 114 113,
    ⟨some (114,true),.mv (some 115) (.r 8)⟩,
    ⟨some (114,true),.bin (some 116) .num .eql (.r 115) (.c (.lit (.int .i64 2)))⟩,
    ⟨none,.pick (some 117) (.r 114) (.r 116) (.c (.lit (.bool false)))⟩,
    vv 118 117,
    ⟨some (118,true),.mv (some 119) (.r 10)⟩,
    ⟨some (118,true),.bin (some 120) .num .eql (.r 119) (.c (.lit (.int .i64 3)))⟩,
    ⟨none,.pick (some 121) (.r 118) (.r 120) (.c (.lit (.bool false)))⟩,
    vo 0 121]
def f31_34:AC:=.ops [0] [] f31_34l
theorem f31_34e:OP f31_34 f31_34l [0] []:=rfl
def f31_33:AC:=.seq f31_34 .ret
theorem f31_33e:SQ f31_33 f31_34 .ret:=rfl
def f31_31:AC:=.seq f31_32 f31_33
theorem f31_31e:SQ f31_31 f31_32 f31_33:=rfl
def f31_29:AC:=.seq f31_30 f31_31
theorem f31_29e:SQ f31_29 f31_30 f31_31:=rfl
def f31_27:AC:=.seq f31_28 f31_29
theorem f31_27e:SQ f31_27 f31_28 f31_29:=rfl
def f31_25:AC:=.seq f31_26 f31_27
theorem f31_25e:SQ f31_25 f31_26 f31_27:=rfl
def f31_19:AC:=.seq f31_20 f31_25
theorem f31_19e:SQ f31_19 f31_20 f31_25:=rfl
def f31_17:AC:=.seq f31_18 f31_19
theorem f31_17e:SQ f31_17 f31_18 f31_19:=rfl
def f31_11:AC:=.seq f31_12 f31_17
theorem f31_11e:SQ f31_11 f31_12 f31_17:=rfl
def f31_5:AC:=.seq f31_6 f31_11
theorem f31_5e:SQ f31_5 f31_6 f31_11:=rfl
def f31_3:AC:=.seq f31_4 f31_5
theorem f31_3e:SQ f31_3 f31_4 f31_5:=rfl
def f31_1:AC:=.seq f31_2 f31_3
theorem f31_1e:SQ f31_1 f31_2 f31_3:=rfl
def c_f31:AFun:=⟨122,[.tmp 0],f31_1⟩
theorem k_f31:dX Go.Proofs.Try.prog x_f31 31 = some c_f31:=by kernel_rfl
theorem e_f31:cQ Go.Proofs.Try.prog 31 = true:=by kernel_rfl

def n_f34:Nat:=34
def x_f34:Cx:=⟨some,id,21,fun s=>([0,2,3,5,6,11,14,15,16,17,18,19,20]:List Nat).contains s,fun s=>([]:List Nat).contains s,msOf [(2,[0,14],[]),(12,[0,7,14],[]),(52,[2],[]),(14,[0,3,14],[]),(60,[3,12,14],[]),(122,[3],[]),(1000000129,[3,14],[]),(244,[3,5],[]),(490,[],[]),(62,[2],[])]⟩
def f34_2l:List GI:=[⟨none,.mv (some 2) (.c (.lit (.slice none 0 0)))⟩]
def f34_2:AC:=.ops [0,14] [] f34_2l
theorem f34_2e:OP f34_2 f34_2l [0,14] []:=rfl
def f34_5l:List GI:=[vv 6 0,
    ⟨none,.call (some 7) false (.f 59) [(.r 6)]⟩]
def f34_5:AC:=.ops [0,7,14] [] f34_5l
theorem f34_5e:OP f34_5 f34_5l [0,7,14] []:=rfl
def f34_8l:List GI:=[⟨none,.mv (some 2) (.c (.lit (.slice none 0 0)))⟩]
def f34_8:AC:=.ops [2] [] f34_8l
theorem f34_8e:OP f34_8 f34_8l [2] []:=rfl
def f34_7:AC:=.seq f34_8 .ret
theorem f34_7e:SQ f34_7 f34_8 .ret:=rfl
def f34_6:AC:=.cond (.r 7) f34_7 .skip
theorem f34_6e:CN f34_6 7 f34_7 .skip:=rfl
def f34_4:AC:=.seq f34_5 f34_6
theorem f34_4e:SQ f34_4 f34_5 f34_6:=rfl
def f34_10l:List GI:=[⟨none,.newB 3 [(.lit (.slice none 0 0))]⟩]
def f34_10:AC:=.ops [0,3,14] [] f34_10l
theorem f34_10e:OP f34_10 f34_10l [0,3,14] []:=rfl
def f34_13l:List GI:=[vv 8 0,
    vn 9 8,
    vd 10 9 67,
    vl 11 10,
    ⟨none,.call (some 12) false (.f 49) [(.r 11)]⟩]
def f34_13:AC:=.ops [3,12,14] [] f34_13l
theorem f34_13e:OP f34_13 f34_13l [3,12,14] []:=rfl
def f34_16l:List GI:=[vo 5 14]
def f34_16:AC:=.ops [3,5] [] f34_16l
theorem f34_16e:OP f34_16 f34_16l [3,5] []:=rfl
def f34_18l:List GI:=[⟨none,.loadOwn 15 (.r 3)⟩,
    vv 16 5,
    ⟨none,.bsl (some 17) 1 1 (.lit (.int .i64 0)) [(0,(.r 16))]⟩,
    ⟨none,.appS 18 15 1 8 (.r 17)⟩,
    ⟨none,.store 1 (.r 3) (.r 18)⟩]
def f34_18:AC:=.ops [] [] f34_18l
theorem f34_18e:OP f34_18 f34_18l [] []:=rfl
def f34_17:AC:=.block 1 f34_18
theorem f34_17e:BL f34_17 f34_18 1:=rfl
def f34_15:AC:=.rangeF [3] [] (.r 12) [13,14] [3,14] f34_16 f34_17
theorem f34_15w:aC P id m f34_15 sf st Q = (m = false∧nW P (aC P id m f34_16) (aC P id m f34_17) [13,14] [3,14] [3] [] (sf.ev id (.r 12)) sf st Q):=rfl
def f34_14:AC:=.block 0 f34_15
theorem f34_14e:BL f34_14 f34_15 0:=rfl
def f34_12:AC:=.seq f34_13 f34_14
theorem f34_12e:SQ f34_12 f34_13 f34_14:=rfl
def f34_20l:List GI:=[vl 19 3,
    ⟨none,.call (some 20) false (.f 60) [(.r 19)]⟩,
    vo 2 20]
def f34_20:AC:=.ops [2] [] f34_20l
theorem f34_20e:OP f34_20 f34_20l [2] []:=rfl
def f34_19:AC:=.seq f34_20 .ret
theorem f34_19e:SQ f34_19 f34_20 .ret:=rfl
def f34_11:AC:=.seq f34_12 f34_19
theorem f34_11e:SQ f34_11 f34_12 f34_19:=rfl
def f34_9:AC:=.seq f34_10 f34_11
theorem f34_9e:SQ f34_9 f34_10 f34_11:=rfl
def f34_3:AC:=.seq f34_4 f34_9
theorem f34_3e:SQ f34_3 f34_4 f34_9:=rfl
def f34_1:AC:=.seq f34_2 f34_3
theorem f34_1e:SQ f34_1 f34_2 f34_3:=rfl
def c_f34:AFun:=⟨21,[.tmp 2],f34_1⟩
theorem k_f34:dX Go.Proofs.Try.prog x_f34 34 = some c_f34:=by kernel_rfl
theorem e_f34:cQ Go.Proofs.Try.prog 34 = true:=by kernel_rfl

def n_f35:Nat:=35
def x_f35:Cx:=⟨some,id,78,fun s=>([0,1,2,3,8,9,10,11,12,13,14,15,16,17,19,21,25,26,27,31,33,37,42,43,44,45,46,50,51,53,54,55,57,61,62,63,64,65,66,68,72,73,74,75,76,77]:List Nat).contains s,fun s=>([]:List Nat).contains s,msOf [(2,[0,1,2,3],[]),(12,[0,1,2,3,10],[]),(26,[0,1,2,3,10,18],[]),(108,[8,9],[]),(28,[0,1,2,3,32],[]),(116,[8,9],[]),(60,[0,1,2,3,38],[]),(244,[8,9],[]),(124,[0,1,2,3,52],[]),(500,[],[]),(1002,[8,9],[]),(126,[0,1,2,3,11,12],[]),(508,[0,1,2,3,11,12,67],[]),(2036,[8,9],[]),(510,[],[]),(1022,[8,9],[])]⟩
def f35_2l:List GI:=[⟨none,.mv (some 8) (.c (.lit (.bool false)))⟩,
    ⟨none,.mv (some 9) (.c (.lit (.int .i64 0)))⟩]
def f35_2:AC:=.ops [0,1,2,3] [] f35_2l
theorem f35_2e:OP f35_2 f35_2l [0,1,2,3] []:=rfl
def f35_5l:List GI:=[vv 13 0,
    vv 14 1,
    vv 15 2,
    ⟨none,.call (some 16) false (.f 61) [(.r 13),(.r 14),(.r 15)]⟩,
    vo 10 16]
def f35_5:AC:=.ops [0,1,2,3,10] [] f35_5l
theorem f35_5e:OP f35_5 f35_5l [0,1,2,3,10] []:=rfl
def f35_7l:List GI:=[vv 17 10,
    vb 18 .neq 17 0]
def f35_7:AC:=.ops [0,1,2,3,10,18] [] f35_7l
theorem f35_7e:OP f35_7 f35_7l [0,1,2,3,10,18] []:=rfl
def f35_10l:List GI:=[vv 19 10,
    ⟨none,.mv (some 8) (.c (.lit (.bool false)))⟩,
    vo 9 19]
def f35_10:AC:=.ops [8,9] [] f35_10l
theorem f35_10e:OP f35_10 f35_10l [8,9] []:=rfl
def f35_9:AC:=.seq f35_10 .ret
theorem f35_9e:SQ f35_9 f35_10 .ret:=rfl
def f35_8:AC:=.cond (.r 18) f35_9 .skip
theorem f35_8e:CN f35_8 18 f35_9 .skip:=rfl
def f35_6:AC:=.seq f35_7 f35_8
theorem f35_6e:SQ f35_6 f35_7 f35_8:=rfl
def f35_4:AC:=.seq f35_5 f35_6
theorem f35_4e:SQ f35_4 f35_5 f35_6:=rfl
def f35_13h:List GI:=[vv 20 0,
    vv 21 1,
    vn 22 20,
    vd 23 22 3,
    ⟨none,.ixA (some 24) (.r 23) (.r 21) 64 1⟩,
    vl 25 24,
    vv 26 2,
    ⟨none,.bin (some 27) .num .add (.r 25) (.r 26)⟩,
    vv 28 0,
    vn 29 28,
    vd 30 29 0,
    vl 31 30]
def f35_13l:List GI:=[⟨none,.bin (some 32) .num .gtr (.r 27) (.r 31)⟩]
def f35_13:AC:=.draw [0,1,2,3,32] [] [] f35_13h f35_13l
theorem f35_13e:aC P id m f35_13 sf st Q = dg P id sf.locs st f35_13h (eH P id m [] [0,1,2,3,32] [] f35_13l Q st) [] ⟨sf.regs,dn [] sf.locs⟩:=rfl
def f35_16l:List GI:=[⟨none,.mv (some 8) (.c (.lit (.bool false)))⟩,
    ⟨none,.mv (some 9) (.c (.lit (.int .i64 7)))⟩]
def f35_16:AC:=.ops [8,9] [] f35_16l
theorem f35_16e:OP f35_16 f35_16l [8,9] []:=rfl
def f35_15:AC:=.seq f35_16 .ret
theorem f35_15e:SQ f35_15 f35_16 .ret:=rfl
def f35_14:AC:=.cond (.r 32) f35_15 .skip
theorem f35_14e:CN f35_14 32 f35_15 .skip:=rfl
def f35_12:AC:=.seq f35_13 f35_14
theorem f35_12e:SQ f35_12 f35_13 f35_14:=rfl
def f35_19l:List GI:=[vv 33 3,
    vv 34 0,
    vn 35 34,
    vd 36 35 2,
    vl 37 36,
    ⟨none,.call (some 38) false (.f 62) [(.r 33),(.r 37)]⟩]
def f35_19:AC:=.ops [0,1,2,3,38] [] f35_19l
theorem f35_19e:OP f35_19 f35_19l [0,1,2,3,38] []:=rfl
def f35_22l:List GI:=[⟨none,.mv (some 8) (.c (.lit (.bool false)))⟩,
    ⟨none,.mv (some 9) (.c (.lit (.int .i64 12)))⟩]
def f35_22:AC:=.ops [8,9] [] f35_22l
theorem f35_22e:OP f35_22 f35_22l [8,9] []:=rfl
def f35_21:AC:=.seq f35_22 .ret
theorem f35_21e:SQ f35_21 f35_22 .ret:=rfl
def f35_20:AC:=.cond (.r 38) f35_21 .skip
theorem f35_20e:CN f35_20 38 f35_21 .skip:=rfl
def f35_18:AC:=.seq f35_19 f35_20
theorem f35_18e:SQ f35_18 f35_19 f35_20:=rfl
def f35_25l:List GI:=[vv 39 0,
    vn 40 39,
    vd 41 40 67,
    vl 42 41,
    ⟨none,.call (some 43) false (.f 47) [(.r 42)]⟩,
    vb 44 .eql 43 0,
    vv 45 44,
    ⟨some (45,true),.mv (some 46) (.r 2)⟩,
    ⟨some (45,true),.mv (some 47) (.r 0)⟩,
    ⟨some (45,true),.nilck (some 48) (.r 47)⟩,
    ⟨some (45,true),.addr (some 49) (.r 48) 1⟩,
    ⟨some (45,true),.load (some 50) (.r 49) none⟩,
    ⟨some (45,true),.bin (some 51) .num .leq (.r 46) (.r 50)⟩,
    ⟨none,.pick (some 52) (.r 45) (.r 51) (.c (.lit (.bool false)))⟩]
def f35_25:AC:=.ops [0,1,2,3,52] [] f35_25l
theorem f35_25e:OP f35_25 f35_25l [0,1,2,3,52] []:=rfl
def f35_28l:List GI:=[vv 53 0,
    vv 54 1,
    vv 55 2,
    ⟨none,.call (some 56) false (.f 63) [(.r 53),(.r 54),(.r 55)]⟩]
def f35_28:AC:=.ops [] [] f35_28l
theorem f35_28e:OP f35_28 f35_28l [] []:=rfl
def f35_30l:List GI:=[⟨none,.mv (some 8) (.c (.lit (.bool true)))⟩,
    ⟨none,.mv (some 9) (.c (.lit (.int .i64 0)))⟩]
def f35_30:AC:=.ops [8,9] [] f35_30l
theorem f35_30e:OP f35_30 f35_30l [8,9] []:=rfl
def f35_29:AC:=.seq f35_30 .ret
theorem f35_29e:SQ f35_29 f35_30 .ret:=rfl
def f35_27:AC:=.seq f35_28 f35_29
theorem f35_27e:SQ f35_27 f35_28 f35_29:=rfl
def f35_26:AC:=.cond (.r 52) f35_27 .skip
theorem f35_26e:CN f35_26 52 f35_27 .skip:=rfl
def f35_24:AC:=.seq f35_25 f35_26
theorem f35_24e:SQ f35_24 f35_25 f35_26:=rfl
def f35_32l:List GI:=[vv 58 0,
    vn 59 58,
    vd 60 59 67,
    vl 61 60,
    vv 62 1,
    ⟨none,.call (some 63) false (.f 48) [(.r 61),(.r 62)]⟩,
    vv 57 63,
    ve 64 57 0,
    ve 65 57 1,
    vo 11 64,
    vo 12 65]
def f35_32:AC:=.ops [0,1,2,3,11,12] [] f35_32l
theorem f35_32e:OP f35_32 f35_32l [0,1,2,3,11,12] []:=rfl
def f35_35l:List GI:=[vv 66 12,
    vb 67 .neq 66 0]
def f35_35:AC:=.ops [0,1,2,3,11,12,67] [] f35_35l
theorem f35_35e:OP f35_35 f35_35l [0,1,2,3,11,12,67] []:=rfl
def f35_38l:List GI:=[vv 68 12,
    ⟨none,.mv (some 8) (.c (.lit (.bool false)))⟩,
    vo 9 68]
def f35_38:AC:=.ops [8,9] [] f35_38l
theorem f35_38e:OP f35_38 f35_38l [8,9] []:=rfl
def f35_37:AC:=.seq f35_38 .ret
theorem f35_37e:SQ f35_37 f35_38 .ret:=rfl
def f35_36:AC:=.cond (.r 67) f35_37 .skip
theorem f35_36e:CN f35_36 67 f35_37 .skip:=rfl
def f35_34:AC:=.seq f35_35 f35_36
theorem f35_34e:SQ f35_34 f35_35 f35_36:=rfl
def f35_40l:List GI:=[vv 69 0,
    vn 70 69,
    vd 71 70 68,
    vl 72 71,
    vv 73 1,
    vv 74 2,
    vv 75 3,
    vv 76 11,
    ⟨none,.bst (some 77) [(0,1),(1,1),(2,1)] (.agg [(.lit (.int .i64 0)),(.lit (.int .u64 0)),(.lit (.int .u64 0))]) [(0,(.r 74)),(1,(.r 75)),(2,(.r 76))]⟩,
    ⟨none,.upd (.int .i64) (.r 72) (.r 73) (.r 77)⟩]
def f35_40:AC:=.ops [] [] f35_40l
theorem f35_40e:OP f35_40 f35_40l [] []:=rfl
def f35_42l:List GI:=[⟨none,.mv (some 8) (.c (.lit (.bool false)))⟩,
    ⟨none,.mv (some 9) (.c (.lit (.int .i64 0)))⟩]
def f35_42:AC:=.ops [8,9] [] f35_42l
theorem f35_42e:OP f35_42 f35_42l [8,9] []:=rfl
def f35_41:AC:=.seq f35_42 .ret
theorem f35_41e:SQ f35_41 f35_42 .ret:=rfl
def f35_39:AC:=.seq f35_40 f35_41
theorem f35_39e:SQ f35_39 f35_40 f35_41:=rfl
def f35_33:AC:=.seq f35_34 f35_39
theorem f35_33e:SQ f35_33 f35_34 f35_39:=rfl
def f35_31:AC:=.seq f35_32 f35_33
theorem f35_31e:SQ f35_31 f35_32 f35_33:=rfl
def f35_23:AC:=.seq f35_24 f35_31
theorem f35_23e:SQ f35_23 f35_24 f35_31:=rfl
def f35_17:AC:=.seq f35_18 f35_23
theorem f35_17e:SQ f35_17 f35_18 f35_23:=rfl
def f35_11:AC:=.seq f35_12 f35_17
theorem f35_11e:SQ f35_11 f35_12 f35_17:=rfl
def f35_3:AC:=.seq f35_4 f35_11
theorem f35_3e:SQ f35_3 f35_4 f35_11:=rfl
def f35_1:AC:=.seq f35_2 f35_3
theorem f35_1e:SQ f35_1 f35_2 f35_3:=rfl
def c_f35:AFun:=⟨78,[.tmp 8,.tmp 9],f35_1⟩
theorem k_f35:dX Go.Proofs.Try.prog x_f35 35 = some c_f35:=by kernel_rfl
theorem e_f35:cQ Go.Proofs.Try.prog 35 = true:=by kernel_rfl

def n_f36:Nat:=36
def x_f36:Cx:=⟨some,id,46,fun s=>([0,1,2,6,7,8,9,10,11,12,14,16,20,21,22,26,31,32,33,34,35,39,40,42,43,44]:List Nat).contains s,fun s=>([]:List Nat).contains s,msOf [(2,[0,1,2],[]),(12,[0,1,2,7],[]),(26,[0,1,2,7,13],[]),(108,[6],[]),(28,[0,1,2,27],[]),(116,[6],[]),(60,[0,1,2,41],[]),(244,[6],[]),(62,[],[]),(126,[6],[])]⟩
def f36_2l:List GI:=[⟨none,.mv (some 6) (.c (.lit (.int .i64 0)))⟩]
def f36_2:AC:=.ops [0,1,2] [] f36_2l
theorem f36_2e:OP f36_2 f36_2l [0,1,2] []:=rfl
def f36_5l:List GI:=[vv 8 0,
    vv 9 1,
    vv 10 2,
    ⟨none,.call (some 11) false (.f 61) [(.r 8),(.r 9),(.r 10)]⟩,
    vo 7 11]
def f36_5:AC:=.ops [0,1,2,7] [] f36_5l
theorem f36_5e:OP f36_5 f36_5l [0,1,2,7] []:=rfl
def f36_7l:List GI:=[vv 12 7,
    vb 13 .neq 12 0]
def f36_7:AC:=.ops [0,1,2,7,13] [] f36_7l
theorem f36_7e:OP f36_7 f36_7l [0,1,2,7,13] []:=rfl
def f36_10l:List GI:=[vv 14 7,
    vo 6 14]
def f36_10:AC:=.ops [6] [] f36_10l
theorem f36_10e:OP f36_10 f36_10l [6] []:=rfl
def f36_9:AC:=.seq f36_10 .ret
theorem f36_9e:SQ f36_9 f36_10 .ret:=rfl
def f36_8:AC:=.cond (.r 13) f36_9 .skip
theorem f36_8e:CN f36_8 13 f36_9 .skip:=rfl
def f36_6:AC:=.seq f36_7 f36_8
theorem f36_6e:SQ f36_6 f36_7 f36_8:=rfl
def f36_4:AC:=.seq f36_5 f36_6
theorem f36_4e:SQ f36_4 f36_5 f36_6:=rfl
def f36_13h:List GI:=[vv 15 0,
    vv 16 1,
    vn 17 15,
    vd 18 17 3,
    ⟨none,.ixA (some 19) (.r 18) (.r 16) 64 1⟩,
    vl 20 19,
    vv 21 2,
    ⟨none,.bin (some 22) .num .add (.r 20) (.r 21)⟩,
    vv 23 0,
    vn 24 23,
    vd 25 24 0,
    vl 26 25]
def f36_13l:List GI:=[⟨none,.bin (some 27) .num .gtr (.r 22) (.r 26)⟩]
def f36_13:AC:=.draw [0,1,2,27] [] [] f36_13h f36_13l
theorem f36_13e:aC P id m f36_13 sf st Q = dg P id sf.locs st f36_13h (eH P id m [] [0,1,2,27] [] f36_13l Q st) [] ⟨sf.regs,dn [] sf.locs⟩:=rfl
def f36_16l:List GI:=[⟨none,.mv (some 6) (.c (.lit (.int .i64 7)))⟩]
def f36_16:AC:=.ops [6] [] f36_16l
theorem f36_16e:OP f36_16 f36_16l [6] []:=rfl
def f36_15:AC:=.seq f36_16 .ret
theorem f36_15e:SQ f36_15 f36_16 .ret:=rfl
def f36_14:AC:=.cond (.r 27) f36_15 .skip
theorem f36_14e:CN f36_14 27 f36_15 .skip:=rfl
def f36_12:AC:=.seq f36_13 f36_14
theorem f36_12e:SQ f36_12 f36_13 f36_14:=rfl
def f36_19l:List GI:=[vv 28 0,
    vn 29 28,
    vd 30 29 67,
    vl 31 30,
    ⟨none,.call (some 32) false (.f 47) [(.r 31)]⟩,
    vb 33 .gtr 32 0,
    vv 34 33,
    ⟨some (34,false),.mv (some 35) (.r 2)⟩,
    ⟨some (34,false),.mv (some 36) (.r 0)⟩,
    ⟨some (34,false),.nilck (some 37) (.r 36)⟩,
    ⟨some (34,false),.addr (some 38) (.r 37) 1⟩,
    ⟨some (34,false),.load (some 39) (.r 38) none⟩,
    ⟨some (34,false),.bin (some 40) .num .gtr (.r 35) (.r 39)⟩,
    ⟨none,.pick (some 41) (.r 34) (.c (.lit (.bool true))) (.r 40)⟩]
def f36_19:AC:=.ops [0,1,2,41] [] f36_19l
theorem f36_19e:OP f36_19 f36_19l [0,1,2,41] []:=rfl
def f36_22l:List GI:=[⟨none,.mv (some 6) (.c (.lit (.int .i64 16)))⟩]
def f36_22:AC:=.ops [6] [] f36_22l
theorem f36_22e:OP f36_22 f36_22l [6] []:=rfl
def f36_21:AC:=.seq f36_22 .ret
theorem f36_21e:SQ f36_21 f36_22 .ret:=rfl
def f36_20:AC:=.cond (.r 41) f36_21 .skip
theorem f36_20e:CN f36_20 41 f36_21 .skip:=rfl
def f36_18:AC:=.seq f36_19 f36_20
theorem f36_18e:SQ f36_18 f36_19 f36_20:=rfl
def f36_24l:List GI:=[vv 42 0,
    vv 43 1,
    vv 44 2,
    ⟨none,.call (some 45) false (.f 63) [(.r 42),(.r 43),(.r 44)]⟩]
def f36_24:AC:=.ops [] [] f36_24l
theorem f36_24e:OP f36_24 f36_24l [] []:=rfl
def f36_26l:List GI:=[⟨none,.mv (some 6) (.c (.lit (.int .i64 0)))⟩]
def f36_26:AC:=.ops [6] [] f36_26l
theorem f36_26e:OP f36_26 f36_26l [6] []:=rfl
def f36_25:AC:=.seq f36_26 .ret
theorem f36_25e:SQ f36_25 f36_26 .ret:=rfl
def f36_23:AC:=.seq f36_24 f36_25
theorem f36_23e:SQ f36_23 f36_24 f36_25:=rfl
def f36_17:AC:=.seq f36_18 f36_23
theorem f36_17e:SQ f36_17 f36_18 f36_23:=rfl
def f36_11:AC:=.seq f36_12 f36_17
theorem f36_11e:SQ f36_11 f36_12 f36_17:=rfl
def f36_3:AC:=.seq f36_4 f36_11
theorem f36_3e:SQ f36_3 f36_4 f36_11:=rfl
def f36_1:AC:=.seq f36_2 f36_3
theorem f36_1e:SQ f36_1 f36_2 f36_3:=rfl
def c_f36:AFun:=⟨46,[.tmp 6],f36_1⟩
theorem k_f36:dX Go.Proofs.Try.prog x_f36 36 = some c_f36:=by kernel_rfl
theorem e_f36:cQ Go.Proofs.Try.prog 36 = true:=by kernel_rfl

def n_f37:Nat:=37
def x_f37:Cx:=⟨some,id,31,fun s=>([0,1,2,6,7,8,9,10,11,12,13,15,17,21,22,24,25,26,27,29,30]:List Nat).contains s,fun s=>([]:List Nat).contains s,msOf [(2,[0,1,2],[]),(12,[0,1,2,8],[]),(26,[0,1,2,8,14],[]),(108,[6,7],[]),(28,[0,1,2,23],[]),(116,[6,7],[]),(30,[0],[]),(62,[6,7],[])]⟩
def f37_2l:List GI:=[⟨none,.mv (some 6) (.c (.lit (.slice none 0 0)))⟩,
    ⟨none,.mv (some 7) (.c (.lit (.int .i64 0)))⟩]
def f37_2:AC:=.ops [0,1,2] [] f37_2l
theorem f37_2e:OP f37_2 f37_2l [0,1,2] []:=rfl
def f37_5l:List GI:=[vv 9 0,
    vv 10 1,
    vv 11 2,
    ⟨none,.call (some 12) false (.f 61) [(.r 9),(.r 10),(.r 11)]⟩,
    vo 8 12]
def f37_5:AC:=.ops [0,1,2,8] [] f37_5l
theorem f37_5e:OP f37_5 f37_5l [0,1,2,8] []:=rfl
def f37_7l:List GI:=[vv 13 8,
    vb 14 .neq 13 0]
def f37_7:AC:=.ops [0,1,2,8,14] [] f37_7l
theorem f37_7e:OP f37_7 f37_7l [0,1,2,8,14] []:=rfl
def f37_10l:List GI:=[vv 15 8,
    ⟨none,.mv (some 6) (.c (.lit (.slice none 0 0)))⟩,
    vo 7 15]
def f37_10:AC:=.ops [6,7] [] f37_10l
theorem f37_10e:OP f37_10 f37_10l [6,7] []:=rfl
def f37_9:AC:=.seq f37_10 .ret
theorem f37_9e:SQ f37_9 f37_10 .ret:=rfl
def f37_8:AC:=.cond (.r 14) f37_9 .skip
theorem f37_8e:CN f37_8 14 f37_9 .skip:=rfl
def f37_6:AC:=.seq f37_7 f37_8
theorem f37_6e:SQ f37_6 f37_7 f37_8:=rfl
def f37_4:AC:=.seq f37_5 f37_6
theorem f37_4e:SQ f37_4 f37_5 f37_6:=rfl
def f37_13l:List GI:=[vv 16 0,
    vv 17 1,
    vn 18 16,
    vd 19 18 3,
    ⟨none,.ixA (some 20) (.r 19) (.r 17) 64 1⟩,
    vl 21 20,
    vv 22 2,
    ⟨none,.bin (some 23) .num .lss (.r 21) (.r 22)⟩]
def f37_13:AC:=.ops [0,1,2,23] [] f37_13l
theorem f37_13e:OP f37_13 f37_13l [0,1,2,23] []:=rfl
def f37_16l:List GI:=[⟨none,.mv (some 6) (.c (.lit (.slice none 0 0)))⟩,
    ⟨none,.mv (some 7) (.c (.lit (.int .i64 9)))⟩]
def f37_16:AC:=.ops [6,7] [] f37_16l
theorem f37_16e:OP f37_16 f37_16l [6,7] []:=rfl
def f37_15:AC:=.seq f37_16 .ret
theorem f37_15e:SQ f37_15 f37_16 .ret:=rfl
def f37_14:AC:=.cond (.r 23) f37_15 .skip
theorem f37_14e:CN f37_14 23 f37_15 .skip:=rfl
def f37_12:AC:=.seq f37_13 f37_14
theorem f37_12e:SQ f37_12 f37_13 f37_14:=rfl
def f37_18l:List GI:=[vv 24 0,
    vv 25 1,
    vv 26 2,
    ⟨none,.un (some 27) .neg (.r 26)⟩,
    ⟨none,.call (some 28) false (.f 63) [(.r 24),(.r 25),(.r 27)]⟩]
def f37_18:AC:=.ops [0] [] f37_18l
theorem f37_18e:OP f37_18 f37_18l [0] []:=rfl
def f37_20l:List GI:=[vv 29 0,
    ⟨none,.call (some 30) false (.f 64) [(.r 29),(.c (.lit (.slice none 0 0)))]⟩,
    vo 6 30,
    ⟨none,.mv (some 7) (.c (.lit (.int .i64 0)))⟩]
def f37_20:AC:=.ops [6,7] [] f37_20l
theorem f37_20e:OP f37_20 f37_20l [6,7] []:=rfl
def f37_19:AC:=.seq f37_20 .ret
theorem f37_19e:SQ f37_19 f37_20 .ret:=rfl
def f37_17:AC:=.seq f37_18 f37_19
theorem f37_17e:SQ f37_17 f37_18 f37_19:=rfl
def f37_11:AC:=.seq f37_12 f37_17
theorem f37_11e:SQ f37_11 f37_12 f37_17:=rfl
def f37_3:AC:=.seq f37_4 f37_11
theorem f37_3e:SQ f37_3 f37_4 f37_11:=rfl
def f37_1:AC:=.seq f37_2 f37_3
theorem f37_1e:SQ f37_1 f37_2 f37_3:=rfl
def c_f37:AFun:=⟨31,[.tmp 6,.tmp 7],f37_1⟩
theorem k_f37:dX Go.Proofs.Try.prog x_f37 37 = some c_f37:=by kernel_rfl
theorem e_f37:cQ Go.Proofs.Try.prog 37 = true:=by kernel_rfl

def n_f38:Nat:=38
def x_f38:Cx:=⟨some,id,32,fun s=>([0,1,4,5,7,8,10,11,12,13,14,16,20,21,22,23,24,25,27,28,30,31]:List Nat).contains s,fun s=>([]:List Nat).contains s,msOf [(2,[0,1],[]),(12,[0,1,9],[]),(52,[4,5],[]),(28,[0,1,15],[]),(116,[4,5],[]),(60,[0,1,7],[]),(122,[0,1,26],[]),(492,[4,5],[]),(62,[0],[]),(126,[4,5],[])]⟩
def f38_2l:List GI:=[⟨none,.mv (some 4) (.c (.lit (.slice none 0 0)))⟩,
    ⟨none,.mv (some 5) (.c (.lit (.int .i64 0)))⟩]
def f38_2:AC:=.ops [0,1] [] f38_2l
theorem f38_2e:OP f38_2 f38_2l [0,1] []:=rfl
def f38_5l:List GI:=[vv 8 0,
    ⟨none,.call (some 9) false (.f 59) [(.r 8)]⟩]
def f38_5:AC:=.ops [0,1,9] [] f38_5l
theorem f38_5e:OP f38_5 f38_5l [0,1,9] []:=rfl
def f38_8l:List GI:=[⟨none,.mv (some 4) (.c (.lit (.slice none 0 0)))⟩,
    ⟨none,.mv (some 5) (.c (.lit (.int .i64 1)))⟩]
def f38_8:AC:=.ops [4,5] [] f38_8l
theorem f38_8e:OP f38_8 f38_8l [4,5] []:=rfl
def f38_7:AC:=.seq f38_8 .ret
theorem f38_7e:SQ f38_7 f38_8 .ret:=rfl
def f38_6:AC:=.cond (.r 9) f38_7 .skip
theorem f38_6e:CN f38_6 9 f38_7 .skip:=rfl
def f38_4:AC:=.seq f38_5 f38_6
theorem f38_4e:SQ f38_4 f38_5 f38_6:=rfl
def f38_11l:List GI:=[vv 10 1,
    vb 11 .lss 10 0,
    vv 12 11,
    ⟨some (12,false),.mv (some 13) (.r 1)⟩,
    ⟨some (12,false),.bin (some 14) .num .geq (.r 13) (.c (.lit (.int .i64 64)))⟩,
    ⟨none,.pick (some 15) (.r 12) (.c (.lit (.bool true))) (.r 14)⟩]
def f38_11:AC:=.ops [0,1,15] [] f38_11l
theorem f38_11e:OP f38_11 f38_11l [0,1,15] []:=rfl
def f38_14l:List GI:=[⟨none,.mv (some 4) (.c (.lit (.slice none 0 0)))⟩,
    ⟨none,.mv (some 5) (.c (.lit (.int .i64 2)))⟩]
def f38_14:AC:=.ops [4,5] [] f38_14l
theorem f38_14e:OP f38_14 f38_14l [4,5] []:=rfl
def f38_13:AC:=.seq f38_14 .ret
theorem f38_13e:SQ f38_13 f38_14 .ret:=rfl
def f38_12:AC:=.cond (.r 15) f38_13 .skip
theorem f38_12e:CN f38_12 15 f38_13 .skip:=rfl
def f38_10:AC:=.seq f38_11 f38_12
theorem f38_10e:SQ f38_10 f38_11 f38_12:=rfl
def f38_17l:List GI:=[vv 17 0,
    vn 18 17,
    vd 19 18 68,
    vl 20 19,
    vv 21 1,
    ⟨none,.lookup (some 22) (.int .i64) (.agg [(.lit (.int .i64 0)),(.lit (.int .u64 0)),(.lit (.int .u64 0))]) true (.r 20) (.r 21)⟩,
    vv 16 22,
    ve 23 16 0,
    ve 24 16 1,
    ⟨none,.newL 6 [(.lit (.int .i64 0)),(.lit (.int .u64 0)),(.lit (.int .u64 0))]⟩,
    ⟨none,.store 3 (.r 6) (.r 23)⟩,
    vo 7 24]
def f38_17:AC:=.ops [0,1,7] [] f38_17l
theorem f38_17e:OP f38_17 f38_17l [0,1,7] []:=rfl
def f38_19l:List GI:=[vv 25 7,
    ⟨none,.un (some 26) .not (.r 25)⟩]
def f38_19:AC:=.ops [0,1,26] [] f38_19l
theorem f38_19e:OP f38_19 f38_19l [0,1,26] []:=rfl
def f38_22l:List GI:=[⟨none,.mv (some 4) (.c (.lit (.slice none 0 0)))⟩,
    ⟨none,.mv (some 5) (.c (.lit (.int .i64 9)))⟩]
def f38_22:AC:=.ops [4,5] [] f38_22l
theorem f38_22e:OP f38_22 f38_22l [4,5] []:=rfl
def f38_21:AC:=.seq f38_22 .ret
theorem f38_21e:SQ f38_21 f38_22 .ret:=rfl
def f38_20:AC:=.cond (.r 26) f38_21 .skip
theorem f38_20e:CN f38_20 26 f38_21 .skip:=rfl
def f38_18:AC:=.seq f38_19 f38_20
theorem f38_18e:SQ f38_18 f38_19 f38_20:=rfl
def f38_16:AC:=.seq f38_17 f38_18
theorem f38_16e:SQ f38_16 f38_17 f38_18:=rfl
def f38_24l:List GI:=[vv 27 0,
    vv 28 1,
    ⟨none,.call (some 29) false (.f 65) [(.r 27),(.r 28)]⟩]
def f38_24:AC:=.ops [0] [] f38_24l
theorem f38_24e:OP f38_24 f38_24l [0] []:=rfl
def f38_26l:List GI:=[vv 30 0,
    ⟨none,.call (some 31) false (.f 64) [(.r 30),(.c (.lit (.slice none 0 0)))]⟩,
    vo 4 31,
    ⟨none,.mv (some 5) (.c (.lit (.int .i64 0)))⟩]
def f38_26:AC:=.ops [4,5] [] f38_26l
theorem f38_26e:OP f38_26 f38_26l [4,5] []:=rfl
def f38_25:AC:=.seq f38_26 .ret
theorem f38_25e:SQ f38_25 f38_26 .ret:=rfl
def f38_23:AC:=.seq f38_24 f38_25
theorem f38_23e:SQ f38_23 f38_24 f38_25:=rfl
def f38_15:AC:=.seq f38_16 f38_23
theorem f38_15e:SQ f38_15 f38_16 f38_23:=rfl
def f38_9:AC:=.seq f38_10 f38_15
theorem f38_9e:SQ f38_9 f38_10 f38_15:=rfl
def f38_3:AC:=.seq f38_4 f38_9
theorem f38_3e:SQ f38_3 f38_4 f38_9:=rfl
def f38_1:AC:=.seq f38_2 f38_3
theorem f38_1e:SQ f38_1 f38_2 f38_3:=rfl
def c_f38:AFun:=⟨32,[.tmp 4,.tmp 5],f38_1⟩
theorem k_f38:dX Go.Proofs.Try.prog x_f38 38 = some c_f38:=by kernel_rfl
theorem e_f38:cQ Go.Proofs.Try.prog 38 = true:=by kernel_rfl

def n_f39:Nat:=39
def x_f39:Cx:=⟨some,id,62,fun s=>([0,1,4,5,6,7,9,10,12,16,17,18,19,20,22,23,24,25,27,28,29,30,31,32,35,39,40,41,42,43,45,46,48,49,50,51,52,53,54,55,56,58,61]:List Nat).contains s,fun s=>([52]:List Nat).contains s,msOf [(2,[0,1],[]),(12,[0,1,11],[]),(52,[4,5],[]),(28,[0,1,21],[]),(116,[4,5],[]),(30,[0,1,6],[]),(124,[0,1,6,7],[]),(250,[0,1,6,7],[]),(2000,[0,1,6,7,26],[]),(4003,[0,1,6],[]),(16016,[0,1,6,7,30,31,32],[]),(32034,[0,1,6,7,30,31,32],[]),(128136,[0,1,6,7,30,31,32,33],[]),(512549,[0,1,6],[]),(2050200,[0,1,6,7,9,30,31,32],[]),(4100402,[0,1,6,7,9,30,31,32,44],[]),(16401612,[0,1,6,7,9,30,31,32],[]),(16401613,[0,1,6,7,30,31,32],[]),(512551,[0,1,6,7,30,31,32],[]),(8009,[0,1,6],[]),(2003,[0,1,6,7],[]),(126,[6],[]),(254,[4,5],[])]⟩
def f39_2l:List GI:=[⟨none,.mv (some 4) (.c (.lit (.slice none 0 0)))⟩,
    ⟨none,.mv (some 5) (.c (.lit (.int .i64 0)))⟩]
def f39_2:AC:=.ops [0,1] [] f39_2l
theorem f39_2e:OP f39_2 f39_2l [0,1] []:=rfl
def f39_5l:List GI:=[vv 10 0,
    ⟨none,.call (some 11) false (.f 59) [(.r 10)]⟩]
def f39_5:AC:=.ops [0,1,11] [] f39_5l
theorem f39_5e:OP f39_5 f39_5l [0,1,11] []:=rfl
def f39_8l:List GI:=[⟨none,.mv (some 4) (.c (.lit (.slice none 0 0)))⟩,
    ⟨none,.mv (some 5) (.c (.lit (.int .i64 1)))⟩]
def f39_8:AC:=.ops [4,5] [] f39_8l
theorem f39_8e:OP f39_8 f39_8l [4,5] []:=rfl
def f39_7:AC:=.seq f39_8 .ret
theorem f39_7e:SQ f39_7 f39_8 .ret:=rfl
def f39_6:AC:=.cond (.r 11) f39_7 .skip
theorem f39_6e:CN f39_6 11 f39_7 .skip:=rfl
def f39_4:AC:=.seq f39_5 f39_6
theorem f39_4e:SQ f39_4 f39_5 f39_6:=rfl
def f39_11l:List GI:=[vv 12 1,
    vv 13 0,
    vn 14 13,
    vd 15 14 2,
    vl 16 15,
    ⟨none,.bin (some 17) .num .lss (.r 12) (.r 16)⟩,
    vv 18 17,
    ⟨some (18,false),.mv (some 19) (.r 1)⟩,
    ⟨some (18,false),.bin (some 20) .num .eql (.r 19) (.c (.lit (.int .u64 18446744073709551615)))⟩,
    ⟨none,.pick (some 21) (.r 18) (.c (.lit (.bool true))) (.r 20)⟩]
def f39_11:AC:=.ops [0,1,21] [] f39_11l
theorem f39_11e:OP f39_11 f39_11l [0,1,21] []:=rfl
def f39_14l:List GI:=[⟨none,.mv (some 4) (.c (.lit (.slice none 0 0)))⟩,
    ⟨none,.mv (some 5) (.c (.lit (.int .i64 3)))⟩]
def f39_14:AC:=.ops [4,5] [] f39_14l
theorem f39_14e:OP f39_14 f39_14l [4,5] []:=rfl
def f39_13:AC:=.seq f39_14 .ret
theorem f39_13e:SQ f39_13 f39_14 .ret:=rfl
def f39_12:AC:=.cond (.r 21) f39_13 .skip
theorem f39_12e:CN f39_12 21 f39_13 .skip:=rfl
def f39_10:AC:=.seq f39_11 f39_12
theorem f39_10e:SQ f39_10 f39_11 f39_12:=rfl
def f39_16l:List GI:=[⟨none,.mv (some 6) (.c (.lit (.slice none 0 0)))⟩]
def f39_16:AC:=.ops [0,1,6] [] f39_16l
theorem f39_16e:OP f39_16 f39_16l [0,1,6] []:=rfl
def f39_19l:List GI:=[vv 22 0,
    ⟨none,.call (some 23) false (.f 42) [(.r 22)]⟩,
    vo 7 23]
def f39_19:AC:=.ops [0,1,6,7] [] f39_19l
theorem f39_19e:OP f39_19 f39_19l [0,1,6,7] []:=rfl
def f39_24l:List GI:=[vv 24 7,
    vv 25 1,
    ⟨none,.bin (some 26) .num .leq (.r 24) (.r 25)⟩]
def f39_24:AC:=.ops [0,1,6,7,26] [] f39_24l
theorem f39_24e:OP f39_24 f39_24l [0,1,6,7,26] []:=rfl
def f39_25:AC:=.cond (.r 26) .skip (.exit [0,1,6] [] 0)
theorem f39_25e:CN f39_25 26 .skip (.exit [0,1,6] [] 0):=rfl
def f39_23:AC:=.seq f39_24 f39_25
theorem f39_23e:SQ f39_23 f39_24 f39_25:=rfl
def f39_30l:List GI:=[vv 29 0,
    ⟨none,.call (some 30) false (.f 34) [(.r 29)]⟩,
    ⟨none,.len (some 31) .sl (.r 30)⟩,
    ⟨none,.mv (some 32) (.c (.lit (.int .i64 0)))⟩]
def f39_30:AC:=.ops [0,1,6,7,30,31,32] [] f39_30l
theorem f39_30e:OP f39_30 f39_30l [0,1,6,7,30,31,32] []:=rfl
def f39_34l:List GI:=[⟨none,.bin (some 33) .num .lss (.r 32) (.r 31)⟩]
def f39_34:AC:=.ops [0,1,6,7,30,31,32,33] [] f39_34l
theorem f39_34e:OP f39_34 f39_34l [0,1,6,7,30,31,32,33] []:=rfl
def f39_36:AC:=.cond (.r 33) .skip (.exit [0,1,6] [] 2)
theorem f39_36e:CN f39_36 33 .skip (.exit [0,1,6] [] 2):=rfl
def f39_40l:List GI:=[⟨none,.ixS (some 34) (.r 30) (.r 32) 1⟩,
    vl 35 34,
    vo 9 35]
def f39_40:AC:=.ops [0,1,6,7,9,30,31,32] [] f39_40l
theorem f39_40e:OP f39_40 f39_40l [0,1,6,7,9,30,31,32] []:=rfl
def f39_42l:List GI:=[vv 36 0,
    vn 37 36,
    vd 38 37 68,
    vl 39 38,
    vv 40 9,
    ⟨none,.lookup (some 41) (.int .i64) (.agg [(.lit (.int .i64 0)),(.lit (.int .u64 0)),(.lit (.int .u64 0))]) false (.r 39) (.r 40)⟩,
    ⟨none,.field (some 42) (.r 41) 1 none⟩,
    vv 43 7,
    ⟨none,.bin (some 44) .num .eql (.r 42) (.r 43)⟩]
def f39_42:AC:=.ops [0,1,6,7,9,30,31,32,44] [] f39_42l
theorem f39_42e:OP f39_42 f39_42l [0,1,6,7,9,30,31,32,44] []:=rfl
def f39_45l:List GI:=[vv 45 0,
    vv 46 9,
    ⟨none,.call (some 47) false (.f 65) [(.r 45),(.r 46)]⟩]
def f39_45:AC:=.ops [0,1,6,7,9,30,31,32] [] f39_45l
theorem f39_45e:OP f39_45 f39_45l [0,1,6,7,9,30,31,32] []:=rfl
def f39_46l:List GI:=[vo 48 6,
    vv 49 9,
    ⟨none,.bst (some 50) [(0,1),(1,1)] (.agg [(.lit (.int .i64 0)),(.lit (.int .i64 0))]) [(0,(.r 49)),(1,(.c (.lit (.int .i64 12))))]⟩,
    ⟨none,.bsl (some 51) 2 1 (.agg [(.lit (.int .i64 0)),(.lit (.int .i64 0))]) [(0,(.r 50))]⟩,
    ⟨none,.x (some 52) (.appB (.r 48) 2 16 (.r 51))⟩,
    vo 6 52]
def f39_46:AC:=.ops [0,1,6,7,30,31,32] [] f39_46l
theorem f39_46e:OP f39_46 f39_46l [0,1,6,7,30,31,32] []:=rfl
def f39_44:AC:=.seq f39_45 f39_46
theorem f39_44e:SQ f39_44 f39_45 f39_46:=rfl
def f39_43:AC:=.cond (.r 44) f39_44 .skip
theorem f39_43e:CN f39_43 44 f39_44 .skip:=rfl
def f39_41:AC:=.seq f39_42 f39_43
theorem f39_41e:SQ f39_41 f39_42 f39_43:=rfl
def f39_39:AC:=.seq f39_40 f39_41
theorem f39_39e:SQ f39_39 f39_40 f39_41:=rfl
def f39_38:AC:=.block 3 f39_39
theorem f39_38e:BL f39_38 f39_39 3:=rfl
def f39_47l:List GI:=[vb 53 .add 32 1,
    vv 32 53]
def f39_47:AC:=.ops [0,1,6,7,30,31,32] [] f39_47l
theorem f39_47e:OP f39_47 f39_47l [0,1,6,7,30,31,32] []:=rfl
def f39_37:AC:=.seq f39_38 f39_47
theorem f39_37e:SQ f39_37 f39_38 f39_47:=rfl
def f39_35:AC:=.seq f39_36 f39_37
theorem f39_35e:SQ f39_35 f39_36 f39_37:=rfl
def f39_33:AC:=.seq f39_34 f39_35
theorem f39_33e:SQ f39_33 f39_34 f39_35:=rfl
def f39_32:AC:=.loop [0,1,6,7,30,31,32] [] f39_33
theorem f39_32w:aC P id m f39_32 sf st Q = ep (aC P id m f39_33) [0,1,6,7,30,31,32] [] sf st Q:=rfl
def f39_31:AC:=.block 2 f39_32
theorem f39_31e:BL f39_31 f39_32 2:=rfl
def f39_29:AC:=.seq f39_30 f39_31
theorem f39_29e:SQ f39_29 f39_30 f39_31:=rfl
def f39_48l:List GI:=[vv 54 0,
    vv 55 6,
    ⟨none,.call (some 56) false (.f 64) [(.r 54),(.r 55)]⟩,
    vo 6 56]
def f39_48:AC:=.ops [0,1,6] [] f39_48l
theorem f39_48e:OP f39_48 f39_48l [0,1,6] []:=rfl
def f39_28:AC:=.seq f39_29 f39_48
theorem f39_28e:SQ f39_28 f39_29 f39_48:=rfl
def f39_27:AC:=.block 1 f39_28
theorem f39_27e:BL f39_27 f39_28 1:=rfl
def f39_49l:List GI:=[vv 27 0,
    ⟨none,.call (some 28) false (.f 42) [(.r 27)]⟩,
    vo 7 28]
def f39_49:AC:=.ops [0,1,6,7] [] f39_49l
theorem f39_49e:OP f39_49 f39_49l [0,1,6,7] []:=rfl
def f39_26:AC:=.seq f39_27 f39_49
theorem f39_26e:SQ f39_26 f39_27 f39_49:=rfl
def f39_22:AC:=.seq f39_23 f39_26
theorem f39_22e:SQ f39_22 f39_23 f39_26:=rfl
def f39_21:AC:=.loop [0,1,6,7] [] f39_22
theorem f39_21w:aC P id m f39_21 sf st Q = ep (aC P id m f39_22) [0,1,6,7] [] sf st Q:=rfl
def f39_20:AC:=.block 0 f39_21
theorem f39_20e:BL f39_20 f39_21 0:=rfl
def f39_18:AC:=.seq f39_19 f39_20
theorem f39_18e:SQ f39_18 f39_19 f39_20:=rfl
def f39_51l:List GI:=[vv 57 0,
    vv 58 1,
    vn 59 57,
    vd 60 59 2,
    ⟨none,.store 1 (.r 60) (.r 58)⟩]
def f39_51:AC:=.ops [6] [] f39_51l
theorem f39_51e:OP f39_51 f39_51l [6] []:=rfl
def f39_53l:List GI:=[vv 61 6,
    vo 4 61,
    ⟨none,.mv (some 5) (.c (.lit (.int .i64 0)))⟩]
def f39_53:AC:=.ops [4,5] [] f39_53l
theorem f39_53e:OP f39_53 f39_53l [4,5] []:=rfl
def f39_52:AC:=.seq f39_53 .ret
theorem f39_52e:SQ f39_52 f39_53 .ret:=rfl
def f39_50:AC:=.seq f39_51 f39_52
theorem f39_50e:SQ f39_50 f39_51 f39_52:=rfl
def f39_17:AC:=.seq f39_18 f39_50
theorem f39_17e:SQ f39_17 f39_18 f39_50:=rfl
def f39_15:AC:=.seq f39_16 f39_17
theorem f39_15e:SQ f39_15 f39_16 f39_17:=rfl
def f39_9:AC:=.seq f39_10 f39_15
theorem f39_9e:SQ f39_9 f39_10 f39_15:=rfl
def f39_3:AC:=.seq f39_4 f39_9
theorem f39_3e:SQ f39_3 f39_4 f39_9:=rfl
def f39_1:AC:=.seq f39_2 f39_3
theorem f39_1e:SQ f39_1 f39_2 f39_3:=rfl
def c_f39:AFun:=⟨62,[.tmp 4,.tmp 5],f39_1⟩
theorem k_f39:dX Go.Proofs.Try.prog x_f39 39 = some c_f39:=by kernel_rfl
theorem e_f39:cQ Go.Proofs.Try.prog 39 = true:=by kernel_rfl

def n_f40:Nat:=40
def x_f40:Cx:=⟨some,id,21,fun s=>([0,1,4,5,6,7,8,9,10,11,12,13,16,20]:List Nat).contains s,fun s=>([]:List Nat).contains s,msOf [(2,[0,1],[]),(12,[0,1,14],[]),(52,[4],[]),(14,[4],[])]⟩
def f40_2l:List GI:=[⟨none,.mv (some 4) (.c (.lit (.int .i64 0)))⟩]
def f40_2:AC:=.ops [0,1] [] f40_2l
theorem f40_2e:OP f40_2 f40_2l [0,1] []:=rfl
def f40_5l:List GI:=[vv 5 0,
    ⟨none,.call (some 6) false (.f 59) [(.r 5)]⟩,
    vv 7 6,
    ⟨some (7,false),.mv (some 8) (.r 1)⟩,
    ⟨some (7,false),.bin (some 9) .num .lss (.r 8) (.c (.lit (.int .i64 0)))⟩,
    ⟨none,.pick (some 10) (.r 7) (.c (.lit (.bool true))) (.r 9)⟩,
    vv 11 10,
    ⟨some (11,false),.mv (some 12) (.r 1)⟩,
    ⟨some (11,false),.bin (some 13) .num .geq (.r 12) (.c (.lit (.int .i64 64)))⟩,
    ⟨none,.pick (some 14) (.r 11) (.c (.lit (.bool true))) (.r 13)⟩]
def f40_5:AC:=.ops [0,1,14] [] f40_5l
theorem f40_5e:OP f40_5 f40_5l [0,1,14] []:=rfl
def f40_8l:List GI:=[⟨none,.mv (some 4) (.c (.lit (.int .i64 0)))⟩]
def f40_8:AC:=.ops [4] [] f40_8l
theorem f40_8e:OP f40_8 f40_8l [4] []:=rfl
def f40_7:AC:=.seq f40_8 .ret
theorem f40_7e:SQ f40_7 f40_8 .ret:=rfl
def f40_6:AC:=.cond (.r 14) f40_7 .skip
theorem f40_6e:CN f40_6 14 f40_7 .skip:=rfl
def f40_4:AC:=.seq f40_5 f40_6
theorem f40_4e:SQ f40_4 f40_5 f40_6:=rfl
def f40_10l:List GI:=[vv 15 0,
    vv 16 1,
    vn 17 15,
    vd 18 17 3,
    ⟨none,.ixA (some 19) (.r 18) (.r 16) 64 1⟩,
    vl 20 19,
    vo 4 20]
def f40_10:AC:=.ops [4] [] f40_10l
theorem f40_10e:OP f40_10 f40_10l [4] []:=rfl
def f40_9:AC:=.seq f40_10 .ret
theorem f40_9e:SQ f40_9 f40_10 .ret:=rfl
def f40_3:AC:=.seq f40_4 f40_9
theorem f40_3e:SQ f40_3 f40_4 f40_9:=rfl
def f40_1:AC:=.seq f40_2 f40_3
theorem f40_1e:SQ f40_1 f40_2 f40_3:=rfl
def c_f40:AFun:=⟨21,[.tmp 4],f40_1⟩
theorem k_f40:dX Go.Proofs.Try.prog x_f40 40 = some c_f40:=by kernel_rfl
theorem e_f40:cQ Go.Proofs.Try.prog 40 = true:=by kernel_rfl

def n_f41:Nat:=41
def x_f41:Cx:=⟨some,id,9,fun s=>([0,2,3,8]:List Nat).contains s,fun s=>([]:List Nat).contains s,msOf [(2,[0],[]),(12,[0,4],[]),(52,[2],[]),(14,[2],[])]⟩
def f41_2l:List GI:=[⟨none,.mv (some 2) (.c (.lit (.int .i64 0)))⟩]
def f41_2:AC:=.ops [0] [] f41_2l
theorem f41_2e:OP f41_2 f41_2l [0] []:=rfl
def f41_5l:List GI:=[vv 3 0,
    ⟨none,.call (some 4) false (.f 59) [(.r 3)]⟩]
def f41_5:AC:=.ops [0,4] [] f41_5l
theorem f41_5e:OP f41_5 f41_5l [0,4] []:=rfl
def f41_8l:List GI:=[⟨none,.mv (some 2) (.c (.lit (.int .i64 0)))⟩]
def f41_8:AC:=.ops [2] [] f41_8l
theorem f41_8e:OP f41_8 f41_8l [2] []:=rfl
def f41_7:AC:=.seq f41_8 .ret
theorem f41_7e:SQ f41_7 f41_8 .ret:=rfl
def f41_6:AC:=.cond (.r 4) f41_7 .skip
theorem f41_6e:CN f41_6 4 f41_7 .skip:=rfl
def f41_4:AC:=.seq f41_5 f41_6
theorem f41_4e:SQ f41_4 f41_5 f41_6:=rfl
def f41_10l:List GI:=[vv 5 0,
    vn 6 5,
    vd 7 6 1,
    vl 8 7,
    vo 2 8]
def f41_10:AC:=.ops [2] [] f41_10l
theorem f41_10e:OP f41_10 f41_10l [2] []:=rfl
def f41_9:AC:=.seq f41_10 .ret
theorem f41_9e:SQ f41_9 f41_10 .ret:=rfl
def f41_3:AC:=.seq f41_4 f41_9
theorem f41_3e:SQ f41_3 f41_4 f41_9:=rfl
def f41_1:AC:=.seq f41_2 f41_3
theorem f41_1e:SQ f41_1 f41_2 f41_3:=rfl
def c_f41:AFun:=⟨9,[.tmp 2],f41_1⟩
theorem k_f41:dX Go.Proofs.Try.prog x_f41 41 = some c_f41:=by kernel_rfl
theorem e_f41:cQ Go.Proofs.Try.prog 41 = true:=by kernel_rfl

def n_f42:Nat:=42
def x_f42:Cx:=⟨some,id,23,fun s=>([0,2,3,6,11,12,13,15,16,17,19,20,21,22]:List Nat).contains s,fun s=>([]:List Nat).contains s,msOf [(2,[0],[]),(12,[0,7],[]),(52,[2],[]),(14,[0,3],[]),(60,[3,12],[]),(122,[3,12],[]),(488,[3,12,14],[]),(1957,[3],[]),(3916,[3,5,12],[5]),(3917,[3,12],[]),(62,[2],[])]⟩
def f42_2l:List GI:=[⟨none,.mv (some 2) (.c (.lit (.int .u64 0)))⟩]
def f42_2:AC:=.ops [0] [] f42_2l
theorem f42_2e:OP f42_2 f42_2l [0] []:=rfl
def f42_5l:List GI:=[vv 6 0,
    ⟨none,.call (some 7) false (.f 59) [(.r 6)]⟩]
def f42_5:AC:=.ops [0,7] [] f42_5l
theorem f42_5e:OP f42_5 f42_5l [0,7] []:=rfl
def f42_8l:List GI:=[⟨none,.mv (some 2) (.c (.lit (.int .u64 18446744073709551615)))⟩]
def f42_8:AC:=.ops [2] [] f42_8l
theorem f42_8e:OP f42_8 f42_8l [2] []:=rfl
def f42_7:AC:=.seq f42_8 .ret
theorem f42_7e:SQ f42_7 f42_8 .ret:=rfl
def f42_6:AC:=.cond (.r 7) f42_7 .skip
theorem f42_6e:CN f42_6 7 f42_7 .skip:=rfl
def f42_4:AC:=.seq f42_5 f42_6
theorem f42_4e:SQ f42_4 f42_5 f42_6:=rfl
def f42_10l:List GI:=[⟨none,.mv (some 3) (.c (.lit (.int .u64 18446744073709551615)))⟩]
def f42_10:AC:=.ops [0,3] [] f42_10l
theorem f42_10e:OP f42_10 f42_10l [0,3] []:=rfl
def f42_13l:List GI:=[vv 8 0,
    vn 9 8,
    vd 10 9 68,
    vl 11 10,
    ⟨none,.x (some 12) (.rng (.r 11))⟩]
def f42_13:AC:=.ops [3,12] [] f42_13l
theorem f42_13e:OP f42_13 f42_13l [3,12] []:=rfl
def f42_17l:List GI:=[⟨none,.x (some 13) (.nxt 12)⟩,
    ve 14 13 0]
def f42_17:AC:=.ops [3,12,14] [] f42_17l
theorem f42_17e:OP f42_17 f42_17l [3,12,14] []:=rfl
def f42_19:AC:=.cond (.r 14) .skip (.exit [3] [] 0)
theorem f42_19e:CN f42_19 14 .skip (.exit [3] [] 0):=rfl
def f42_22l:List GI:=[⟨none,.x (some 15) (.ent 12)⟩,
    ve 16 15 1,
    ⟨none,.newL 5 [(.lit (.int .i64 0)),(.lit (.int .u64 0)),(.lit (.int .u64 0))]⟩,
    ⟨none,.store 3 (.r 5) (.r 16)⟩]
def f42_22:AC:=.ops [3,5,12] [5] f42_22l
theorem f42_22e:OP f42_22 f42_22l [3,5,12] [5]:=rfl
def f42_23l:List GI:=[vv 17 3,
    vd 18 5 1,
    vl 19 18,
    ⟨none,.bsl (some 20) 1 2 (.lit (.int .u64 0)) [(0,(.r 17)),(1,(.r 19))]⟩,
    ⟨none,.call (some 21) false (.f 66) [(.r 20)]⟩,
    vo 3 21]
def f42_23:AC:=.ops [3,12] [] f42_23l
theorem f42_23e:OP f42_23 f42_23l [3,12] []:=rfl
def f42_21:AC:=.seq f42_22 f42_23
theorem f42_21e:SQ f42_21 f42_22 f42_23:=rfl
def f42_20:AC:=.block 1 f42_21
theorem f42_20e:BL f42_20 f42_21 1:=rfl
def f42_18:AC:=.seq f42_19 f42_20
theorem f42_18e:SQ f42_18 f42_19 f42_20:=rfl
def f42_16:AC:=.seq f42_17 f42_18
theorem f42_16e:SQ f42_16 f42_17 f42_18:=rfl
def f42_15:AC:=.loop [3,12] [] f42_16
theorem f42_15w:aC P id m f42_15 sf st Q = ep (aC P id m f42_16) [3,12] [] sf st Q:=rfl
def f42_14:AC:=.block 0 f42_15
theorem f42_14e:BL f42_14 f42_15 0:=rfl
def f42_12:AC:=.seq f42_13 f42_14
theorem f42_12e:SQ f42_12 f42_13 f42_14:=rfl
def f42_25l:List GI:=[vv 22 3,
    vo 2 22]
def f42_25:AC:=.ops [2] [] f42_25l
theorem f42_25e:OP f42_25 f42_25l [2] []:=rfl
def f42_24:AC:=.seq f42_25 .ret
theorem f42_24e:SQ f42_24 f42_25 .ret:=rfl
def f42_11:AC:=.seq f42_12 f42_24
theorem f42_11e:SQ f42_11 f42_12 f42_24:=rfl
def f42_9:AC:=.seq f42_10 f42_11
theorem f42_9e:SQ f42_9 f42_10 f42_11:=rfl
def f42_3:AC:=.seq f42_4 f42_9
theorem f42_3e:SQ f42_3 f42_4 f42_9:=rfl
def f42_1:AC:=.seq f42_2 f42_3
theorem f42_1e:SQ f42_1 f42_2 f42_3:=rfl
def c_f42:AFun:=⟨23,[.tmp 2],f42_1⟩
theorem k_f42:dX Go.Proofs.Try.prog x_f42 42 = some c_f42:=by kernel_rfl
theorem e_f42:cQ Go.Proofs.Try.prog 42 = true:=by kernel_rfl

def n_f43:Nat:=43
def x_f43:Cx:=⟨some,id,9,fun s=>([0,2,3,8]:List Nat).contains s,fun s=>([]:List Nat).contains s,msOf [(2,[0],[]),(12,[0,4],[]),(52,[2],[]),(14,[2],[])]⟩
def f43_2l:List GI:=[⟨none,.mv (some 2) (.c (.lit (.int .u64 0)))⟩]
def f43_2:AC:=.ops [0] [] f43_2l
theorem f43_2e:OP f43_2 f43_2l [0] []:=rfl
def f43_5l:List GI:=[vv 3 0,
    ⟨none,.call (some 4) false (.f 59) [(.r 3)]⟩]
def f43_5:AC:=.ops [0,4] [] f43_5l
theorem f43_5e:OP f43_5 f43_5l [0,4] []:=rfl
def f43_8l:List GI:=[⟨none,.mv (some 2) (.c (.lit (.int .u64 0)))⟩]
def f43_8:AC:=.ops [2] [] f43_8l
theorem f43_8e:OP f43_8 f43_8l [2] []:=rfl
def f43_7:AC:=.seq f43_8 .ret
theorem f43_7e:SQ f43_7 f43_8 .ret:=rfl
def f43_6:AC:=.cond (.r 4) f43_7 .skip
theorem f43_6e:CN f43_6 4 f43_7 .skip:=rfl
def f43_4:AC:=.seq f43_5 f43_6
theorem f43_4e:SQ f43_4 f43_5 f43_6:=rfl
def f43_10l:List GI:=[vv 5 0,
    vn 6 5,
    vd 7 6 2,
    vl 8 7,
    vo 2 8]
def f43_10:AC:=.ops [2] [] f43_10l
theorem f43_10e:OP f43_10 f43_10l [2] []:=rfl
def f43_9:AC:=.seq f43_10 .ret
theorem f43_9e:SQ f43_9 f43_10 .ret:=rfl
def f43_3:AC:=.seq f43_4 f43_9
theorem f43_3e:SQ f43_3 f43_4 f43_9:=rfl
def f43_1:AC:=.seq f43_2 f43_3
theorem f43_1e:SQ f43_1 f43_2 f43_3:=rfl
def c_f43:AFun:=⟨9,[.tmp 2],f43_1⟩
theorem k_f43:dX Go.Proofs.Try.prog x_f43 43 = some c_f43:=by kernel_rfl
theorem e_f43:cQ Go.Proofs.Try.prog 43 = true:=by kernel_rfl

def n_f45:Nat:=45
def x_f45:Cx:=⟨some,id,4,fun s=>([0,1,2,3]:List Nat).contains s,fun s=>([]:List Nat).contains s,msOf [(2,[],[]),(6,[0],[])]⟩
def f45_2l:List GI:=[⟨none,.mv (some 0) (.c (.lit (.pointer none)))⟩]
def f45_2:AC:=.ops [] [] f45_2l
theorem f45_2e:OP f45_2 f45_2l [] []:=rfl
def f45_4l:List GI:=[⟨none,.mkmap 1⟩,
    ⟨none,.bst (some 2) [(0,3),(3,1)] (.agg [(.lit (.int .u64 0)),(.lit (.int .u64 0)),(.lit (.int .u64 0)),(.lit (.map none))]) [(1,(.r 1))]⟩,
    ⟨none,.boxB 3 4 (.r 2)⟩,
    vo 0 3]
def f45_4:AC:=.ops [0] [] f45_4l
theorem f45_4e:OP f45_4 f45_4l [0] []:=rfl
def f45_3:AC:=.seq f45_4 .ret
theorem f45_3e:SQ f45_3 f45_4 .ret:=rfl
def f45_1:AC:=.seq f45_2 f45_3
theorem f45_1e:SQ f45_1 f45_2 f45_3:=rfl
def c_f45:AFun:=⟨4,[.tmp 0],f45_1⟩
theorem k_f45:dX Go.Proofs.Try.prog x_f45 45 = some c_f45:=by kernel_rfl
theorem e_f45:cQ Go.Proofs.Try.prog 45 = true:=by kernel_rfl

def n_f47:Nat:=47
def x_f47:Cx:=⟨some,id,10,fun s=>([0,2,3,8,9]:List Nat).contains s,fun s=>([]:List Nat).contains s,msOf [(2,[0],[]),(12,[0,4],[]),(52,[2],[]),(14,[2],[])]⟩
def f47_2l:List GI:=[⟨none,.mv (some 2) (.c (.lit (.int .i64 0)))⟩]
def f47_2:AC:=.ops [0] [] f47_2l
theorem f47_2e:OP f47_2 f47_2l [0] []:=rfl
def f47_5l:List GI:=[vv 3 0,
    ⟨none,.call (some 4) false (.f 68) [(.r 3)]⟩]
def f47_5:AC:=.ops [0,4] [] f47_5l
theorem f47_5e:OP f47_5 f47_5l [0,4] []:=rfl
def f47_8l:List GI:=[⟨none,.mv (some 2) (.c (.lit (.int .i64 0)))⟩]
def f47_8:AC:=.ops [2] [] f47_8l
theorem f47_8e:OP f47_8 f47_8l [2] []:=rfl
def f47_7:AC:=.seq f47_8 .ret
theorem f47_7e:SQ f47_7 f47_8 .ret:=rfl
def f47_6:AC:=.cond (.r 4) f47_7 .skip
theorem f47_6e:CN f47_6 4 f47_7 .skip:=rfl
def f47_4:AC:=.seq f47_5 f47_6
theorem f47_4e:SQ f47_4 f47_5 f47_6:=rfl
def f47_10l:List GI:=[vv 5 0,
    vn 6 5,
    vd 7 6 3,
    vl 8 7,
    ⟨none,.len (some 9) .mp (.r 8)⟩,
    vo 2 9]
def f47_10:AC:=.ops [2] [] f47_10l
theorem f47_10e:OP f47_10 f47_10l [2] []:=rfl
def f47_9:AC:=.seq f47_10 .ret
theorem f47_9e:SQ f47_9 f47_10 .ret:=rfl
def f47_3:AC:=.seq f47_4 f47_9
theorem f47_3e:SQ f47_3 f47_4 f47_9:=rfl
def f47_1:AC:=.seq f47_2 f47_3
theorem f47_1e:SQ f47_1 f47_2 f47_3:=rfl
def c_f47:AFun:=⟨10,[.tmp 2],f47_1⟩
theorem k_f47:dX Go.Proofs.Try.prog x_f47 47 = some c_f47:=by kernel_rfl
theorem e_f47:cQ Go.Proofs.Try.prog 47 = true:=by kernel_rfl

def n_f48:Nat:=48
def x_f48:Cx:=⟨some,id,97,fun s=>([0,1,4,5,8,9,14,15,16,21,22,29,34,35,40,41,46,53,60,65,66,71,76,81,82,88,96]:List Nat).contains s,fun s=>([]:List Nat).contains s,msOf [(2,[0,1],[]),(24,[0,1,7],[]),(100,[4,5],[]),(102,[0,1,10],[]),(412,[4,5],[]),(14,[0,1],[]),(30,[0],[]),(124,[0,47],[]),(250,[0],[]),(502,[0,6],[6]),(1006,[0,6],[6]),(1007,[0],[]),(126,[0],[]),(254,[4,5],[])]⟩
def f48_2l:List GI:=[⟨none,.mv (some 4) (.c (.lit (.int .u64 0)))⟩,
    ⟨none,.mv (some 5) (.c (.lit (.int .i64 0)))⟩]
def f48_2:AC:=.ops [0,1] [] f48_2l
theorem f48_2e:OP f48_2 f48_2l [0,1] []:=rfl
def f48_6l:List GI:=[vv 8 0,
    ⟨none,.call (some 9) false (.f 68) [(.r 8)]⟩,
    vo 7 9]
def f48_6:AC:=.ops [0,1,7] [] f48_6l
theorem f48_6e:OP f48_6 f48_6l [0,1,7] []:=rfl
def f48_9l:List GI:=[⟨none,.mv (some 4) (.c (.lit (.int .u64 0)))⟩,
    ⟨none,.mv (some 5) (.c (.lit (.int .i64 1)))⟩]
def f48_9:AC:=.ops [4,5] [] f48_9l
theorem f48_9e:OP f48_9 f48_9l [4,5] []:=rfl
def f48_8:AC:=.seq f48_9 .ret
theorem f48_8e:SQ f48_8 f48_9 .ret:=rfl
def f48_11l:List GI:=[vv 11 0,
    vn 12 11,
    vd 13 12 3,
    vl 14 13,
    ⟨none,.len (some 15) .mp (.r 14)⟩,
    vb 16 .geq 15 4096,
    vo 10 16]
def f48_11:AC:=.ops [0,1,10] [] f48_11l
theorem f48_11e:OP f48_11 f48_11l [0,1,10] []:=rfl
def f48_14l:List GI:=[⟨none,.mv (some 4) (.c (.lit (.int .u64 0)))⟩,
    ⟨none,.mv (some 5) (.c (.lit (.int .i64 7)))⟩]
def f48_14:AC:=.ops [4,5] [] f48_14l
theorem f48_14e:OP f48_14 f48_14l [4,5] []:=rfl
def f48_13:AC:=.seq f48_14 .ret
theorem f48_13e:SQ f48_13 f48_14 .ret:=rfl
def f48_12:AC:=.cond (.r 10) f48_13 .skip
theorem f48_12e:CN f48_12 10 f48_13 .skip:=rfl
def f48_10:AC:=.seq f48_11 f48_12
theorem f48_10e:SQ f48_10 f48_11 f48_12:=rfl
def f48_7:AC:=.cond (.r 7) f48_8 f48_10
theorem f48_7e:CN f48_7 7 f48_8 f48_10:=rfl
def f48_5:AC:=.seq f48_6 f48_7
theorem f48_5e:SQ f48_5 f48_6 f48_7:=rfl
def f48_4:AC:=.block 0 f48_5
theorem f48_4e:BL f48_4 f48_5 0:=rfl
def f48_16l:List GI:=[vv 17 0,
    vn 18 17,
    vd 19 18 0,
    vd 20 19 2,
    vl 21 20,
    ⟨none,.bin (some 22) .num .add (.r 21) (.c (.lit (.int .u64 1)))⟩,
    vn 23 17,
    vd 24 23 0,
    vd 25 24 2,
    ⟨none,.store 1 (.r 25) (.r 22)⟩]
def f48_16:AC:=.ops [0,1] [] f48_16l
theorem f48_16e:OP f48_16 f48_16l [0,1] []:=rfl
def f48_18h:List GI:=[vv 26 0,
    vn 27 26,
    vd 28 27 3,
    vl 29 28,
    vv 30 0,
    vn 31 30,
    vd 32 31 0,
    vd 33 32 2,
    vl 34 33,
    vv 35 1,
    vv 36 0,
    vn 37 36,
    vd 38 37 0,
    vd 39 38 1,
    vl 40 39,
    ⟨none,.bst (some 41) [(0,1),(1,1),(2,1)] (.agg [(.lit (.int .i64 0)),(.lit (.int .u64 0)),(.lit (.int .u64 0))]) [(0,(.r 35)),(1,(.r 40))]⟩]
def f48_18l:List GI:=[⟨none,.upd (.int .u64) (.r 29) (.r 34) (.r 41)⟩]
def f48_18:AC:=.draw [0] [] [] f48_18h f48_18l
theorem f48_18e:aC P id m f48_18 sf st Q = dg P id sf.locs st f48_18h (eH P id m [] [0] [] f48_18l Q st) [] ⟨sf.regs,dn [] sf.locs⟩:=rfl
def f48_21l:List GI:=[vv 42 0,
    vn 43 42,
    vd 44 43 0,
    vd 45 44 1,
    vl 46 45,
    ⟨none,.bin (some 47) .num .eql (.r 46) (.c (.lit (.int .u64 0)))⟩]
def f48_21:AC:=.ops [0,47] [] f48_21l
theorem f48_21e:OP f48_21 f48_21l [0,47] []:=rfl
def f48_23l:List GI:=[vv 48 0,
    vv 49 0,
    vn 50 49,
    vd 51 50 0,
    vd 52 51 2,
    vl 53 52,
    vn 54 48,
    vd 55 54 0,
    vd 56 55 0,
    ⟨none,.store 1 (.r 56) (.r 53)⟩]
def f48_23:AC:=.ops [0] [] f48_23l
theorem f48_23e:OP f48_23 f48_23l [0] []:=rfl
def f48_25h:List GI:=[vv 57 0,
    vn 58 57,
    vd 59 58 3,
    vl 60 59,
    vv 61 0,
    vn 62 61,
    vd 63 62 0,
    vd 64 63 1,
    vl 65 64,
    ⟨none,.lookup (some 66) (.int .u64) (.agg [(.lit (.int .i64 0)),(.lit (.int .u64 0)),(.lit (.int .u64 0))]) false (.r 60) (.r 65)⟩,
    ⟨none,.newL 6 [(.lit (.int .i64 0)),(.lit (.int .u64 0)),(.lit (.int .u64 0))]⟩]
def f48_25l:List GI:=[⟨none,.store 3 (.r 6) (.r 66)⟩]
def f48_25:AC:=.draw [0,6] [6] [6] f48_25h f48_25l
theorem f48_25e:aC P id m f48_25 sf st Q = dg P id sf.locs st f48_25h (eH P id m [6] [0,6] [6] f48_25l Q st) [] ⟨sf.regs,dn [6] sf.locs⟩:=rfl
def f48_27l:List GI:=[vv 67 0,
    vn 68 67,
    vd 69 68 0,
    vd 70 69 2,
    vl 71 70,
    vd 72 6 2,
    ⟨none,.store 1 (.r 72) (.r 71)⟩]
def f48_27:AC:=.ops [0,6] [6] f48_27l
theorem f48_27e:OP f48_27 f48_27l [0,6] [6]:=rfl
def f48_28h:List GI:=[vv 73 0,
    vn 74 73,
    vd 75 74 3,
    vl 76 75,
    vv 77 0,
    vn 78 77,
    vd 79 78 0,
    vd 80 79 1,
    vl 81 80,
    ⟨none,.load (some 82) (.r 6) (some 3)⟩]
def f48_28l:List GI:=[⟨none,.upd (.int .u64) (.r 76) (.r 81) (.r 82)⟩]
def f48_28:AC:=.draw [0] [] [] f48_28h f48_28l
theorem f48_28e:aC P id m f48_28 sf st Q = dg P id sf.locs st f48_28h (eH P id m [] [0] [] f48_28l Q st) [] ⟨sf.regs,dn [] sf.locs⟩:=rfl
def f48_26:AC:=.seq f48_27 f48_28
theorem f48_26e:SQ f48_26 f48_27 f48_28:=rfl
def f48_24:AC:=.seq f48_25 f48_26
theorem f48_24e:SQ f48_24 f48_25 f48_26:=rfl
def f48_22:AC:=.cond (.r 47) f48_23 f48_24
theorem f48_22e:CN f48_22 47 f48_23 f48_24:=rfl
def f48_20:AC:=.seq f48_21 f48_22
theorem f48_20e:SQ f48_20 f48_21 f48_22:=rfl
def f48_30l:List GI:=[vv 83 0,
    vv 84 0,
    vn 85 84,
    vd 86 85 0,
    vd 87 86 2,
    vl 88 87,
    vn 89 83,
    vd 90 89 0,
    vd 91 90 1,
    ⟨none,.store 1 (.r 91) (.r 88)⟩]
def f48_30:AC:=.ops [0] [] f48_30l
theorem f48_30e:OP f48_30 f48_30l [0] []:=rfl
def f48_32l:List GI:=[vv 92 0,
    vn 93 92,
    vd 94 93 0,
    vd 95 94 2,
    vl 96 95,
    vo 4 96,
    ⟨none,.mv (some 5) (.c (.lit (.int .i64 0)))⟩]
def f48_32:AC:=.ops [4,5] [] f48_32l
theorem f48_32e:OP f48_32 f48_32l [4,5] []:=rfl
def f48_31:AC:=.seq f48_32 .ret
theorem f48_31e:SQ f48_31 f48_32 .ret:=rfl
def f48_29:AC:=.seq f48_30 f48_31
theorem f48_29e:SQ f48_29 f48_30 f48_31:=rfl
def f48_19:AC:=.seq f48_20 f48_29
theorem f48_19e:SQ f48_19 f48_20 f48_29:=rfl
def f48_17:AC:=.seq f48_18 f48_19
theorem f48_17e:SQ f48_17 f48_18 f48_19:=rfl
def f48_15:AC:=.seq f48_16 f48_17
theorem f48_15e:SQ f48_15 f48_16 f48_17:=rfl
def f48_3:AC:=.seq f48_4 f48_15
theorem f48_3e:SQ f48_3 f48_4 f48_15:=rfl
def f48_1:AC:=.seq f48_2 f48_3
theorem f48_1e:SQ f48_1 f48_2 f48_3:=rfl
def c_f48:AFun:=⟨97,[.tmp 4,.tmp 5],f48_1⟩
theorem k_f48:dX Go.Proofs.Try.prog x_f48 48 = some c_f48:=by kernel_rfl
theorem e_f48:cQ Go.Proofs.Try.prog 48 = true:=by kernel_rfl

def n_f49:Nat:=49
def x_f49:Cx:=⟨some,id,7,fun s=>([0,2,3,4,5,6]:List Nat).contains s,fun s=>([]:List Nat).contains s,msOf [(2,[0],[]),(6,[3],[]),(14,[2],[])]⟩
def f49_2l:List GI:=[⟨none,.mv (some 2) (.c (.lit .nilFunc))⟩]
def f49_2:AC:=.ops [0] [] f49_2l
theorem f49_2e:OP f49_2 f49_2l [0] []:=rfl
def f49_4l:List GI:=[vv 4 0,
    ⟨none,.call (some 5) false (.f 67) [(.r 4)]⟩,
    ⟨none,.newB 3 [(.lit (.pointer none))]⟩,
    ⟨none,.store 1 (.r 3) (.r 5)⟩]
def f49_4:AC:=.ops [3] [] f49_4l
theorem f49_4e:OP f49_4 f49_4l [3] []:=rfl
def f49_6l:List GI:=[⟨none,.mkfn (some 6) 69 [] [(.r 3)]⟩,
    vo 2 6]
def f49_6:AC:=.ops [2] [] f49_6l
theorem f49_6e:OP f49_6 f49_6l [2] []:=rfl
def f49_5:AC:=.seq f49_6 .ret
theorem f49_5e:SQ f49_5 f49_6 .ret:=rfl
def f49_3:AC:=.seq f49_4 f49_5
theorem f49_3e:SQ f49_3 f49_4 f49_5:=rfl
def f69:AC:=.seq f49_2 f49_3
theorem f49_1e:SQ f69 f49_2 f49_3:=rfl
def c_f49:AFun:=⟨7,[.tmp 2],f69⟩
theorem k_f49:dX Go.Proofs.Try.prog x_f49 49 = some c_f49:=by kernel_rfl
theorem e_f49:cQ Go.Proofs.Try.prog 49 = true:=by kernel_rfl

def n_f51:Nat:=51
def x_f51:Cx:=⟨some,id,82,fun s=>([0,1,4,5,7,10,12,16,17,18,19,20,21,26,27,29,33,40,42,43,45,50,52,53,55,59,66,68,69,71,76,78,79,81]:List Nat).contains s,fun s=>([]:List Nat).contains s,msOf [(2,[0,1],[]),(12,[0,1,11],[]),(52,[4,5],[]),(14,[0,1,6,7],[6]),(60,[0,1,6,22],[6]),(244,[4,5],[]),(62,[0,6],[6]),(252,[0,6,30],[6]),(506,[0,6],[6]),(1014,[0,6,8],[6,8]),(2030,[0,6,8],[6,8]),(2031,[0,6],[6]),(508,[0,6,56],[6]),(1018,[6],[6]),(2038,[0,6,9],[6,9]),(4078,[0,6,9],[6,9]),(4079,[6],[6]),(510,[4,5],[])]⟩
def f51_2l:List GI:=[⟨none,.mv (some 4) (.c (.lit (.int .i64 0)))⟩,
    ⟨none,.mv (some 5) (.c (.lit (.int .i64 0)))⟩]
def f51_2:AC:=.ops [0,1] [] f51_2l
theorem f51_2e:OP f51_2 f51_2l [0,1] []:=rfl
def f51_5l:List GI:=[vv 10 0,
    ⟨none,.call (some 11) false (.f 68) [(.r 10)]⟩]
def f51_5:AC:=.ops [0,1,11] [] f51_5l
theorem f51_5e:OP f51_5 f51_5l [0,1,11] []:=rfl
def f51_8l:List GI:=[⟨none,.mv (some 4) (.c (.lit (.int .i64 0)))⟩,
    ⟨none,.mv (some 5) (.c (.lit (.int .i64 1)))⟩]
def f51_8:AC:=.ops [4,5] [] f51_8l
theorem f51_8e:OP f51_8 f51_8l [4,5] []:=rfl
def f51_7:AC:=.seq f51_8 .ret
theorem f51_7e:SQ f51_7 f51_8 .ret:=rfl
def f51_6:AC:=.cond (.r 11) f51_7 .skip
theorem f51_6e:CN f51_6 11 f51_7 .skip:=rfl
def f51_4:AC:=.seq f51_5 f51_6
theorem f51_4e:SQ f51_4 f51_5 f51_6:=rfl
def f51_10l:List GI:=[vv 13 0,
    vn 14 13,
    vd 15 14 3,
    vl 16 15,
    vv 17 1,
    ⟨none,.lookup (some 18) (.int .u64) (.agg [(.lit (.int .i64 0)),(.lit (.int .u64 0)),(.lit (.int .u64 0))]) true (.r 16) (.r 17)⟩,
    vv 12 18,
    ve 19 12 0,
    ve 20 12 1,
    ⟨none,.newL 6 [(.lit (.int .i64 0)),(.lit (.int .u64 0)),(.lit (.int .u64 0))]⟩,
    ⟨none,.store 3 (.r 6) (.r 19)⟩,
    vo 7 20]
def f51_10:AC:=.ops [0,1,6,7] [6] f51_10l
theorem f51_10e:OP f51_10 f51_10l [0,1,6,7] [6]:=rfl
def f51_13l:List GI:=[vv 21 7,
    ⟨none,.un (some 22) .not (.r 21)⟩]
def f51_13:AC:=.ops [0,1,6,22] [6] f51_13l
theorem f51_13e:OP f51_13 f51_13l [0,1,6,22] [6]:=rfl
def f51_16l:List GI:=[⟨none,.mv (some 4) (.c (.lit (.int .i64 0)))⟩,
    ⟨none,.mv (some 5) (.c (.lit (.int .i64 9)))⟩]
def f51_16:AC:=.ops [4,5] [] f51_16l
theorem f51_16e:OP f51_16 f51_16l [4,5] []:=rfl
def f51_15:AC:=.seq f51_16 .ret
theorem f51_15e:SQ f51_15 f51_16 .ret:=rfl
def f51_14:AC:=.cond (.r 22) f51_15 .skip
theorem f51_14e:CN f51_14 22 f51_15 .skip:=rfl
def f51_12:AC:=.seq f51_13 f51_14
theorem f51_12e:SQ f51_12 f51_13 f51_14:=rfl
def f51_18l:List GI:=[vv 23 0,
    vn 24 23,
    vd 25 24 3,
    vl 26 25,
    vv 27 1,
    ⟨none,.del (.int .u64) (.r 26) (.r 27)⟩]
def f51_18:AC:=.ops [0,6] [6] f51_18l
theorem f51_18e:OP f51_18 f51_18l [0,6] [6]:=rfl
def f51_21l:List GI:=[vd 28 6 1,
    vl 29 28,
    ⟨none,.bin (some 30) .num .eql (.r 29) (.c (.lit (.int .u64 0)))⟩]
def f51_21:AC:=.ops [0,6,30] [6] f51_21l
theorem f51_21e:OP f51_21 f51_21l [0,6,30] [6]:=rfl
def f51_23l:List GI:=[vv 31 0,
    vd 32 6 2,
    vl 33 32,
    vn 34 31,
    vd 35 34 0,
    vd 36 35 0,
    ⟨none,.store 1 (.r 36) (.r 33)⟩]
def f51_23:AC:=.ops [0,6] [6] f51_23l
theorem f51_23e:OP f51_23 f51_23l [0,6] [6]:=rfl
def f51_25h:List GI:=[vv 37 0,
    vn 38 37,
    vd 39 38 3,
    vl 40 39,
    vd 41 6 1,
    vl 42 41,
    ⟨none,.lookup (some 43) (.int .u64) (.agg [(.lit (.int .i64 0)),(.lit (.int .u64 0)),(.lit (.int .u64 0))]) false (.r 40) (.r 42)⟩,
    ⟨none,.newL 8 [(.lit (.int .i64 0)),(.lit (.int .u64 0)),(.lit (.int .u64 0))]⟩]
def f51_25l:List GI:=[⟨none,.store 3 (.r 8) (.r 43)⟩]
def f51_25:AC:=.draw [0,6,8] [6,8] [8] f51_25h f51_25l
theorem f51_25e:aC P id m f51_25 sf st Q = dg P id sf.locs st f51_25h (eH P id m [8] [0,6,8] [6,8] f51_25l Q st) [] ⟨sf.regs,dn [8] sf.locs⟩:=rfl
def f51_27l:List GI:=[vd 44 6 2,
    vl 45 44,
    vd 46 8 2,
    ⟨none,.store 1 (.r 46) (.r 45)⟩]
def f51_27:AC:=.ops [0,6,8] [6,8] f51_27l
theorem f51_27e:OP f51_27 f51_27l [0,6,8] [6,8]:=rfl
def f51_28h:List GI:=[vv 47 0,
    vn 48 47,
    vd 49 48 3,
    vl 50 49,
    vd 51 6 1,
    vl 52 51,
    ⟨none,.load (some 53) (.r 8) (some 3)⟩]
def f51_28l:List GI:=[⟨none,.upd (.int .u64) (.r 50) (.r 52) (.r 53)⟩]
def f51_28:AC:=.draw [0,6] [6] [] f51_28h f51_28l
theorem f51_28e:aC P id m f51_28 sf st Q = dg P id sf.locs st f51_28h (eH P id m [] [0,6] [6] f51_28l Q st) [] ⟨sf.regs,dn [] sf.locs⟩:=rfl
def f51_26:AC:=.seq f51_27 f51_28
theorem f51_26e:SQ f51_26 f51_27 f51_28:=rfl
def f51_24:AC:=.seq f51_25 f51_26
theorem f51_24e:SQ f51_24 f51_25 f51_26:=rfl
def f51_22:AC:=.cond (.r 30) f51_23 f51_24
theorem f51_22e:CN f51_22 30 f51_23 f51_24:=rfl
def f51_20:AC:=.seq f51_21 f51_22
theorem f51_20e:SQ f51_20 f51_21 f51_22:=rfl
def f51_31l:List GI:=[vd 54 6 2,
    vl 55 54,
    ⟨none,.bin (some 56) .num .eql (.r 55) (.c (.lit (.int .u64 0)))⟩]
def f51_31:AC:=.ops [0,6,56] [6] f51_31l
theorem f51_31e:OP f51_31 f51_31l [0,6,56] [6]:=rfl
def f51_33l:List GI:=[vv 57 0,
    vd 58 6 1,
    vl 59 58,
    vn 60 57,
    vd 61 60 0,
    vd 62 61 1,
    ⟨none,.store 1 (.r 62) (.r 59)⟩]
def f51_33:AC:=.ops [6] [6] f51_33l
theorem f51_33e:OP f51_33 f51_33l [6] [6]:=rfl
def f51_35h:List GI:=[vv 63 0,
    vn 64 63,
    vd 65 64 3,
    vl 66 65,
    vd 67 6 2,
    vl 68 67,
    ⟨none,.lookup (some 69) (.int .u64) (.agg [(.lit (.int .i64 0)),(.lit (.int .u64 0)),(.lit (.int .u64 0))]) false (.r 66) (.r 68)⟩,
    ⟨none,.newL 9 [(.lit (.int .i64 0)),(.lit (.int .u64 0)),(.lit (.int .u64 0))]⟩]
def f51_35l:List GI:=[⟨none,.store 3 (.r 9) (.r 69)⟩]
def f51_35:AC:=.draw [0,6,9] [6,9] [9] f51_35h f51_35l
theorem f51_35e:aC P id m f51_35 sf st Q = dg P id sf.locs st f51_35h (eH P id m [9] [0,6,9] [6,9] f51_35l Q st) [] ⟨sf.regs,dn [9] sf.locs⟩:=rfl
def f51_37l:List GI:=[vd 70 6 1,
    vl 71 70,
    vd 72 9 1,
    ⟨none,.store 1 (.r 72) (.r 71)⟩]
def f51_37:AC:=.ops [0,6,9] [6,9] f51_37l
theorem f51_37e:OP f51_37 f51_37l [0,6,9] [6,9]:=rfl
def f51_38h:List GI:=[vv 73 0,
    vn 74 73,
    vd 75 74 3,
    vl 76 75,
    vd 77 6 2,
    vl 78 77,
    ⟨none,.load (some 79) (.r 9) (some 3)⟩]
def f51_38l:List GI:=[⟨none,.upd (.int .u64) (.r 76) (.r 78) (.r 79)⟩]
def f51_38:AC:=.draw [6] [6] [] f51_38h f51_38l
theorem f51_38e:aC P id m f51_38 sf st Q = dg P id sf.locs st f51_38h (eH P id m [] [6] [6] f51_38l Q st) [] ⟨sf.regs,dn [] sf.locs⟩:=rfl
def f51_36:AC:=.seq f51_37 f51_38
theorem f51_36e:SQ f51_36 f51_37 f51_38:=rfl
def f51_34:AC:=.seq f51_35 f51_36
theorem f51_34e:SQ f51_34 f51_35 f51_36:=rfl
def f51_32:AC:=.cond (.r 56) f51_33 f51_34
theorem f51_32e:CN f51_32 56 f51_33 f51_34:=rfl
def f51_30:AC:=.seq f51_31 f51_32
theorem f51_30e:SQ f51_30 f51_31 f51_32:=rfl
def f51_40l:List GI:=[vd 80 6 0,
    vl 81 80,
    vo 4 81,
    ⟨none,.mv (some 5) (.c (.lit (.int .i64 0)))⟩]
def f51_40:AC:=.ops [4,5] [] f51_40l
theorem f51_40e:OP f51_40 f51_40l [4,5] []:=rfl
def f51_39:AC:=.seq f51_40 .ret
theorem f51_39e:SQ f51_39 f51_40 .ret:=rfl
def f51_29:AC:=.seq f51_30 f51_39
theorem f51_29e:SQ f51_29 f51_30 f51_39:=rfl
def f51_19:AC:=.seq f51_20 f51_29
theorem f51_19e:SQ f51_19 f51_20 f51_29:=rfl
def f51_17:AC:=.seq f51_18 f51_19
theorem f51_17e:SQ f51_17 f51_18 f51_19:=rfl
def f51_11:AC:=.seq f51_12 f51_17
theorem f51_11e:SQ f51_11 f51_12 f51_17:=rfl
def f51_9:AC:=.seq f51_10 f51_11
theorem f51_9e:SQ f51_9 f51_10 f51_11:=rfl
def f51_3:AC:=.seq f51_4 f51_9
theorem f51_3e:SQ f51_3 f51_4 f51_9:=rfl
def f51_1:AC:=.seq f51_2 f51_3
theorem f51_1e:SQ f51_1 f51_2 f51_3:=rfl
def c_f51:AFun:=⟨82,[.tmp 4,.tmp 5],f51_1⟩
theorem k_f51:dX Go.Proofs.Try.prog x_f51 51 = some c_f51:=by kernel_rfl
theorem e_f51:cQ Go.Proofs.Try.prog 51 = true:=by kernel_rfl

def n_f52:Nat:=52
def x_f52:Cx:=⟨some,id,31,fun s=>([0,1,2,3,4,5,12,13,14,15,16,17,18,19,20,21,22,23,24,25,26,27,28,29,30]:List Nat).contains s,fun s=>([]:List Nat).contains s,msOf [(2,[0,1,2,3,4,5],[]),(6,[4,5,13,14],[]),(14,[12],[])]⟩
def f52_2l:List GI:=[⟨none,.mv (some 12) (.c (.lit (.bool false)))⟩]
def f52_2:AC:=.ops [0,1,2,3,4,5] [] f52_2l
theorem f52_2e:OP f52_2 f52_2l [0,1,2,3,4,5] []:=rfl
def f52_4l:List GI:=[vv 16 0,
    vv 17 1,
    vv 18 2,
    vv 19 3,
    ⟨none,.call (some 20) false (.f 35) [(.r 16),(.r 17),(.r 18),(.r 19)]⟩,
    vv 15 20,
    ve 21 15 0,
    ve 22 15 1,
    vo 13 21,
    vo 14 22]
def f52_4:AC:=.ops [4,5,13,14] [] f52_4l
theorem f52_4e:OP f52_4 f52_4l [4,5,13,14] []:=rfl
def f52_6l:List GI:=[vv 23 13,
    vv 24 4,
    ⟨none,.bin (some 25) .bool .eql (.r 23) (.r 24)⟩,
    vv 26 25,
    ⟨some (26,true),.mv (some 27) (.r 14)⟩,
    ⟨some (26,true),.mv (some 28) (.r 5)⟩,
    ⟨some (26,true),.bin (some 29) .num .eql (.r 27) (.r 28)⟩,
    ⟨none,.pick (some 30) (.r 26) (.r 29) (.c (.lit (.bool false)))⟩,
    vo 12 30]
def f52_6:AC:=.ops [12] [] f52_6l
theorem f52_6e:OP f52_6 f52_6l [12] []:=rfl
def f52_5:AC:=.seq f52_6 .ret
theorem f52_5e:SQ f52_5 f52_6 .ret:=rfl
def f52_3:AC:=.seq f52_4 f52_5
theorem f52_3e:SQ f52_3 f52_4 f52_5:=rfl
def f52_1:AC:=.seq f52_2 f52_3
theorem f52_1e:SQ f52_1 f52_2 f52_3:=rfl
def c_f52:AFun:=⟨31,[.tmp 12],f52_1⟩
theorem k_f52:dX Go.Proofs.Try.prog x_f52 52 = some c_f52:=by kernel_rfl
theorem e_f52:cQ Go.Proofs.Try.prog 52 = true:=by kernel_rfl

def n_f53:Nat:=53
def x_f53:Cx:=⟨some,id,26,fun s=>([0,1,4,5,6,7,8,9,11,12,13,15,16,18,20,22,24]:List Nat).contains s,fun s=>([]:List Nat).contains s,msOf [(2,[0,1],[]),(12,[0,1,10],[]),(52,[4],[]),(28,[0,1,5],[]),(58,[0,1,5],[]),(464,[0,1,5,14],[]),(931,[],[]),(1864,[0,1,5,25],[]),(7460,[4],[]),(467,[0,1,5],[]),(30,[4],[])]⟩
def f53_2l:List GI:=[⟨none,.mv (some 4) (.c (.lit (.bool false)))⟩]
def f53_2:AC:=.ops [0,1] [] f53_2l
theorem f53_2e:OP f53_2 f53_2l [0,1] []:=rfl
def f53_5l:List GI:=[vv 6 0,
    ⟨none,.len (some 7) .sl (.r 6)⟩,
    vv 8 1,
    ⟨none,.len (some 9) .sl (.r 8)⟩,
    ⟨none,.bin (some 10) .num .neq (.r 7) (.r 9)⟩]
def f53_5:AC:=.ops [0,1,10] [] f53_5l
theorem f53_5e:OP f53_5 f53_5l [0,1,10] []:=rfl
def f53_8l:List GI:=[⟨none,.mv (some 4) (.c (.lit (.bool false)))⟩]
def f53_8:AC:=.ops [4] [] f53_8l
theorem f53_8e:OP f53_8 f53_8l [4] []:=rfl
def f53_7:AC:=.seq f53_8 .ret
theorem f53_7e:SQ f53_7 f53_8 .ret:=rfl
def f53_6:AC:=.cond (.r 10) f53_7 .skip
theorem f53_6e:CN f53_6 10 f53_7 .skip:=rfl
def f53_4:AC:=.seq f53_5 f53_6
theorem f53_4e:SQ f53_4 f53_5 f53_6:=rfl
def f53_11l:List GI:=[⟨none,.mv (some 5) (.c (.lit (.int .i64 0)))⟩]
def f53_11:AC:=.ops [0,1,5] [] f53_11l
theorem f53_11e:OP f53_11 f53_11l [0,1,5] []:=rfl
def f53_16l:List GI:=[vv 11 5,
    vv 12 0,
    ⟨none,.len (some 13) .sl (.r 12)⟩,
    ⟨none,.bin (some 14) .num .lss (.r 11) (.r 13)⟩]
def f53_16:AC:=.ops [0,1,5,14] [] f53_16l
theorem f53_16e:OP f53_16 f53_16l [0,1,5,14] []:=rfl
def f53_17:AC:=.cond (.r 14) .skip (.exit [] [] 0)
theorem f53_17e:CN f53_17 14 .skip (.exit [] [] 0):=rfl
def f53_15:AC:=.seq f53_16 f53_17
theorem f53_15e:SQ f53_15 f53_16 f53_17:=rfl
def f53_21h:List GI:=[vv 17 0,
    vv 18 5,
    ⟨none,.ixS (some 19) (.r 17) (.r 18) 1⟩,
    vl 20 19,
    vv 21 1,
    vv 22 5,
    ⟨none,.ixS (some 23) (.r 21) (.r 22) 1⟩,
    vl 24 23]
def f53_21l:List GI:=[⟨none,.bin (some 25) .num .neq (.r 20) (.r 24)⟩]
def f53_21:AC:=.draw [0,1,5,25] [] [] f53_21h f53_21l
theorem f53_21e:aC P id m f53_21 sf st Q = dg P id sf.locs st f53_21h (eH P id m [] [0,1,5,25] [] f53_21l Q st) [] ⟨sf.regs,dn [] sf.locs⟩:=rfl
def f53_24l:List GI:=[⟨none,.mv (some 4) (.c (.lit (.bool false)))⟩]
def f53_24:AC:=.ops [4] [] f53_24l
theorem f53_24e:OP f53_24 f53_24l [4] []:=rfl
def f53_23:AC:=.seq f53_24 .ret
theorem f53_23e:SQ f53_23 f53_24 .ret:=rfl
def f53_22:AC:=.cond (.r 25) f53_23 .skip
theorem f53_22e:CN f53_22 25 f53_23 .skip:=rfl
def f53_20:AC:=.seq f53_21 f53_22
theorem f53_20e:SQ f53_20 f53_21 f53_22:=rfl
def f53_19:AC:=.block 1 f53_20
theorem f53_19e:BL f53_19 f53_20 1:=rfl
def f53_25l:List GI:=[vv 15 5,
    vb 16 .add 15 1,
    vo 5 16]
def f53_25:AC:=.ops [0,1,5] [] f53_25l
theorem f53_25e:OP f53_25 f53_25l [0,1,5] []:=rfl
def f53_18:AC:=.seq f53_19 f53_25
theorem f53_18e:SQ f53_18 f53_19 f53_25:=rfl
def f53_14:AC:=.seq f53_15 f53_18
theorem f53_14e:SQ f53_14 f53_15 f53_18:=rfl
def f53_13:AC:=.loop [0,1,5] [] f53_14
theorem f53_13w:aC P id m f53_13 sf st Q = ep (aC P id m f53_14) [0,1,5] [] sf st Q:=rfl
def f53_12:AC:=.block 0 f53_13
theorem f53_12e:BL f53_12 f53_13 0:=rfl
def f53_10:AC:=.seq f53_11 f53_12
theorem f53_10e:SQ f53_10 f53_11 f53_12:=rfl
def f53_27l:List GI:=[⟨none,.mv (some 4) (.c (.lit (.bool true)))⟩]
def f53_27:AC:=.ops [4] [] f53_27l
theorem f53_27e:OP f53_27 f53_27l [4] []:=rfl
def f53_26:AC:=.seq f53_27 .ret
theorem f53_26e:SQ f53_26 f53_27 .ret:=rfl
def f53_9:AC:=.seq f53_10 f53_26
theorem f53_9e:SQ f53_9 f53_10 f53_26:=rfl
def f53_3:AC:=.seq f53_4 f53_9
theorem f53_3e:SQ f53_3 f53_4 f53_9:=rfl
def f53_1:AC:=.seq f53_2 f53_3
theorem f53_1e:SQ f53_1 f53_2 f53_3:=rfl
def c_f53:AFun:=⟨26,[.tmp 4],f53_1⟩
theorem k_f53:dX Go.Proofs.Try.prog x_f53 53 = some c_f53:=by kernel_rfl
theorem e_f53:cQ Go.Proofs.Try.prog 53 = true:=by kernel_rfl

def n_f54:Nat:=54
def x_f54:Cx:=⟨some,id,26,fun s=>([0,1,4,5,6,7,8,9,11,12,13,15,16,18,20,22,24]:List Nat).contains s,fun s=>([]:List Nat).contains s,msOf [(2,[0,1],[]),(12,[0,1,10],[]),(52,[4],[]),(28,[0,1,5],[]),(58,[0,1,5],[]),(464,[0,1,5,14],[]),(931,[],[]),(1864,[0,1,5,25],[]),(7460,[4],[]),(467,[0,1,5],[]),(30,[4],[])]⟩
def f54_2l:List GI:=[⟨none,.mv (some 4) (.c (.lit (.bool false)))⟩]
def f54_2:AC:=.ops [0,1] [] f54_2l
theorem f54_2e:OP f54_2 f54_2l [0,1] []:=rfl
def f54_5l:List GI:=[vv 6 0,
    ⟨none,.len (some 7) .sl (.r 6)⟩,
    vv 8 1,
    ⟨none,.len (some 9) .sl (.r 8)⟩,
    ⟨none,.bin (some 10) .num .neq (.r 7) (.r 9)⟩]
def f54_5:AC:=.ops [0,1,10] [] f54_5l
theorem f54_5e:OP f54_5 f54_5l [0,1,10] []:=rfl
def f54_8l:List GI:=[⟨none,.mv (some 4) (.c (.lit (.bool false)))⟩]
def f54_8:AC:=.ops [4] [] f54_8l
theorem f54_8e:OP f54_8 f54_8l [4] []:=rfl
def f54_7:AC:=.seq f54_8 .ret
theorem f54_7e:SQ f54_7 f54_8 .ret:=rfl
def f54_6:AC:=.cond (.r 10) f54_7 .skip
theorem f54_6e:CN f54_6 10 f54_7 .skip:=rfl
def f54_4:AC:=.seq f54_5 f54_6
theorem f54_4e:SQ f54_4 f54_5 f54_6:=rfl
def f54_11l:List GI:=[⟨none,.mv (some 5) (.c (.lit (.int .i64 0)))⟩]
def f54_11:AC:=.ops [0,1,5] [] f54_11l
theorem f54_11e:OP f54_11 f54_11l [0,1,5] []:=rfl
def f54_16l:List GI:=[vv 11 5,
    vv 12 0,
    ⟨none,.len (some 13) .sl (.r 12)⟩,
    ⟨none,.bin (some 14) .num .lss (.r 11) (.r 13)⟩]
def f54_16:AC:=.ops [0,1,5,14] [] f54_16l
theorem f54_16e:OP f54_16 f54_16l [0,1,5,14] []:=rfl
def f54_17:AC:=.cond (.r 14) .skip (.exit [] [] 0)
theorem f54_17e:CN f54_17 14 .skip (.exit [] [] 0):=rfl
def f54_15:AC:=.seq f54_16 f54_17
theorem f54_15e:SQ f54_15 f54_16 f54_17:=rfl
def f54_21h:List GI:=[vv 17 0,
    vv 18 5,
    ⟨none,.ixS (some 19) (.r 17) (.r 18) 2⟩,
    ⟨none,.load (some 20) (.r 19) (some 2)⟩,
    vv 21 1,
    vv 22 5,
    ⟨none,.ixS (some 23) (.r 21) (.r 22) 2⟩,
    ⟨none,.load (some 24) (.r 23) (some 2)⟩]
def f54_21l:List GI:=[⟨none,.bin (some 25) (.agg (.field 0 1 .int (.field 1 1 .int .tt))) .neq (.r 20) (.r 24)⟩]
def f54_21:AC:=.draw [0,1,5,25] [] [] f54_21h f54_21l
theorem f54_21e:aC P id m f54_21 sf st Q = dg P id sf.locs st f54_21h (eH P id m [] [0,1,5,25] [] f54_21l Q st) [] ⟨sf.regs,dn [] sf.locs⟩:=rfl
def f54_24l:List GI:=[⟨none,.mv (some 4) (.c (.lit (.bool false)))⟩]
def f54_24:AC:=.ops [4] [] f54_24l
theorem f54_24e:OP f54_24 f54_24l [4] []:=rfl
def f54_23:AC:=.seq f54_24 .ret
theorem f54_23e:SQ f54_23 f54_24 .ret:=rfl
def f54_22:AC:=.cond (.r 25) f54_23 .skip
theorem f54_22e:CN f54_22 25 f54_23 .skip:=rfl
def f54_20:AC:=.seq f54_21 f54_22
theorem f54_20e:SQ f54_20 f54_21 f54_22:=rfl
def f54_19:AC:=.block 1 f54_20
theorem f54_19e:BL f54_19 f54_20 1:=rfl
def f54_25l:List GI:=[vv 15 5,
    vb 16 .add 15 1,
    vo 5 16]
def f54_25:AC:=.ops [0,1,5] [] f54_25l
theorem f54_25e:OP f54_25 f54_25l [0,1,5] []:=rfl
def f54_18:AC:=.seq f54_19 f54_25
theorem f54_18e:SQ f54_18 f54_19 f54_25:=rfl
def f54_14:AC:=.seq f54_15 f54_18
theorem f54_14e:SQ f54_14 f54_15 f54_18:=rfl
def f54_13:AC:=.loop [0,1,5] [] f54_14
theorem f54_13w:aC P id m f54_13 sf st Q = ep (aC P id m f54_14) [0,1,5] [] sf st Q:=rfl
def f54_12:AC:=.block 0 f54_13
theorem f54_12e:BL f54_12 f54_13 0:=rfl
def f54_10:AC:=.seq f54_11 f54_12
theorem f54_10e:SQ f54_10 f54_11 f54_12:=rfl
def f54_27l:List GI:=[⟨none,.mv (some 4) (.c (.lit (.bool true)))⟩]
def f54_27:AC:=.ops [4] [] f54_27l
theorem f54_27e:OP f54_27 f54_27l [4] []:=rfl
def f54_26:AC:=.seq f54_27 .ret
theorem f54_26e:SQ f54_26 f54_27 .ret:=rfl
def f54_9:AC:=.seq f54_10 f54_26
theorem f54_9e:SQ f54_9 f54_10 f54_26:=rfl
def f54_3:AC:=.seq f54_4 f54_9
theorem f54_3e:SQ f54_3 f54_4 f54_9:=rfl
def f54_1:AC:=.seq f54_2 f54_3
theorem f54_1e:SQ f54_1 f54_2 f54_3:=rfl
def c_f54:AFun:=⟨26,[.tmp 4],f54_1⟩
theorem k_f54:dX Go.Proofs.Try.prog x_f54 54 = some c_f54:=by kernel_rfl
theorem e_f54:cQ Go.Proofs.Try.prog 54 = true:=by kernel_rfl

def n_f59:Nat:=59
def x_f59:Cx:=⟨some,id,12,fun s=>([0,2,3,4,5,9,10,11]:List Nat).contains s,fun s=>([]:List Nat).contains s,msOf [(2,[0],[]),(6,[2],[])]⟩
def f59_2l:List GI:=[⟨none,.mv (some 2) (.c (.lit (.bool false)))⟩]
def f59_2:AC:=.ops [0] [] f59_2l
theorem f59_2e:OP f59_2 f59_2l [0] []:=rfl
def f59_4l:List GI:=[vv 3 0,
    ⟨none,.bin (some 4) (.nil .ptr) .eql (.r 3) (.c (.lit (.pointer none)))⟩,
    vv 5 4,
    ⟨some (5,false),.mv (some 6) (.r 0)⟩,
    ⟨some (5,false),.nilck (some 7) (.r 6)⟩,
    ⟨some (5,false),.addr (some 8) (.r 7) 0⟩,
    ⟨some (5,false),.load (some 9) (.r 8) none⟩,
    ⟨some (5,false),.bin (some 10) .num .eql (.r 9) (.c (.lit (.int .i64 0)))⟩,
    ⟨none,.pick (some 11) (.r 5) (.c (.lit (.bool true))) (.r 10)⟩,
    vo 2 11]
def f59_4:AC:=.ops [2] [] f59_4l
theorem f59_4e:OP f59_4 f59_4l [2] []:=rfl
def f59_3:AC:=.seq f59_4 .ret
theorem f59_3e:SQ f59_3 f59_4 .ret:=rfl
def f59_1:AC:=.seq f59_2 f59_3
theorem f59_1e:SQ f59_1 f59_2 f59_3:=rfl
def c_f59:AFun:=⟨12,[.tmp 2],f59_1⟩
theorem k_f59:dX Go.Proofs.Try.prog x_f59 59 = some c_f59:=by kernel_rfl
theorem e_f59:cQ Go.Proofs.Try.prog 59 = true:=by kernel_rfl

def n_f60:Nat:=60
def x_f60:Cx:=⟨some,id,9,fun s=>([0,2,3,4,5,6,7,8]:List Nat).contains s,fun s=>([]:List Nat).contains s,msOf [(2,[0],[]),(6,[2],[])]⟩
def f60_2l:List GI:=[⟨none,.mv (some 2) (.c (.lit (.slice none 0 0)))⟩]
def f60_2:AC:=.ops [0] [] f60_2l
theorem f60_2e:OP f60_2 f60_2l [0] []:=rfl
def f60_4l:List GI:=[vv 3 0,
    vv 4 0,
    ⟨none,.len (some 5) .sl (.r 4)⟩,
    vv 6 0,
    ⟨none,.len (some 7) .sl (.r 6)⟩,
    ⟨none,.sli3 (some 8) (.r 3) none (some (.r 5)) (.r 7) 1⟩,
    vo 2 8]
def f60_4:AC:=.ops [2] [] f60_4l
theorem f60_4e:OP f60_4 f60_4l [2] []:=rfl
def f60_3:AC:=.seq f60_4 .ret
theorem f60_3e:SQ f60_3 f60_4 .ret:=rfl
def f60_1:AC:=.seq f60_2 f60_3
theorem f60_1e:SQ f60_1 f60_2 f60_3:=rfl
def c_f60:AFun:=⟨9,[.tmp 2],f60_1⟩
theorem k_f60:dX Go.Proofs.Try.prog x_f60 60 = some c_f60:=by kernel_rfl
theorem e_f60:cQ Go.Proofs.Try.prog 60 = true:=by kernel_rfl

def n_f61:Nat:=61
def x_f61:Cx:=⟨some,id,41,fun s=>([0,1,2,6,10,11,13,14,15,16,17,18,19,20,21,22,23,24,28,29,30,31,35,36,37,38,39]:List Nat).contains s,fun s=>([]:List Nat).contains s,msOf [(2,[0,1,2],[]),(24,[0,1,2,9],[]),(100,[6],[]),(102,[0,1,12],[]),(412,[6],[]),(28,[8],[]),(58,[40],[]),(236,[6],[]),(30,[6],[])]⟩
def f61_2l:List GI:=[⟨none,.mv (some 6) (.c (.lit (.int .i64 0)))⟩]
def f61_2:AC:=.ops [0,1,2] [] f61_2l
theorem f61_2e:OP f61_2 f61_2l [0,1,2] []:=rfl
def f61_6l:List GI:=[vv 10 0,
    ⟨none,.call (some 11) false (.f 59) [(.r 10)]⟩,
    vo 9 11]
def f61_6:AC:=.ops [0,1,2,9] [] f61_6l
theorem f61_6e:OP f61_6 f61_6l [0,1,2,9] []:=rfl
def f61_9l:List GI:=[⟨none,.mv (some 6) (.c (.lit (.int .i64 1)))⟩]
def f61_9:AC:=.ops [6] [] f61_9l
theorem f61_9e:OP f61_9 f61_9l [6] []:=rfl
def f61_8:AC:=.seq f61_9 .ret
theorem f61_8e:SQ f61_8 f61_9 .ret:=rfl
def f61_11l:List GI:=[vv 13 1,
    vb 14 .lss 13 0,
    vv 15 14,
    ⟨some (15,false),.mv (some 16) (.r 1)⟩,
    ⟨some (15,false),.bin (some 17) .num .geq (.r 16) (.c (.lit (.int .i64 64)))⟩,
    ⟨none,.pick (some 18) (.r 15) (.c (.lit (.bool true))) (.r 17)⟩,
    vv 19 18,
    ⟨some (19,false),.mv (some 20) (.r 2)⟩,
    ⟨some (19,false),.bin (some 21) .num .lss (.r 20) (.c (.lit (.int .i64 1)))⟩,
    ⟨none,.pick (some 22) (.r 19) (.c (.lit (.bool true))) (.r 21)⟩,
    vv 23 22,
    ⟨some (23,false),.mv (some 24) (.r 2)⟩,
    ⟨some (23,false),.mv (some 25) (.r 0)⟩,
    ⟨some (23,false),.nilck (some 26) (.r 25)⟩,
    ⟨some (23,false),.addr (some 27) (.r 26) 0⟩,
    ⟨some (23,false),.load (some 28) (.r 27) none⟩,
    ⟨some (23,false),.bin (some 29) .num .gtr (.r 24) (.r 28)⟩,
    ⟨none,.pick (some 30) (.r 23) (.c (.lit (.bool true))) (.r 29)⟩,
    vo 12 30]
def f61_11:AC:=.ops [0,1,12] [] f61_11l
theorem f61_11e:OP f61_11 f61_11l [0,1,12] []:=rfl
def f61_14l:List GI:=[⟨none,.mv (some 6) (.c (.lit (.int .i64 2)))⟩]
def f61_14:AC:=.ops [6] [] f61_14l
theorem f61_14e:OP f61_14 f61_14l [6] []:=rfl
def f61_13:AC:=.seq f61_14 .ret
theorem f61_13e:SQ f61_13 f61_14 .ret:=rfl
def f61_12:AC:=.cond (.r 12) f61_13 .skip
theorem f61_12e:CN f61_12 12 f61_13 .skip:=rfl
def f61_10:AC:=.seq f61_11 f61_12
theorem f61_10e:SQ f61_10 f61_11 f61_12:=rfl
def f61_7:AC:=.cond (.r 9) f61_8 f61_10
theorem f61_7e:CN f61_7 9 f61_8 f61_10:=rfl
def f61_5:AC:=.seq f61_6 f61_7
theorem f61_5e:SQ f61_5 f61_6 f61_7:=rfl
def f61_4:AC:=.block 0 f61_5
theorem f61_4e:BL f61_4 f61_5 0:=rfl
def f61_17l:List GI:=[vv 32 0,
    vn 33 32,
    vd 34 33 68,
    vl 35 34,
    vv 36 1,
    ⟨none,.lookup (some 37) (.int .i64) (.agg [(.lit (.int .i64 0)),(.lit (.int .u64 0)),(.lit (.int .u64 0))]) true (.r 35) (.r 36)⟩,
    vv 31 37,
    ve 38 31 0,
    ve 39 31 1,
    ⟨none,.newL 7 [(.lit (.int .i64 0)),(.lit (.int .u64 0)),(.lit (.int .u64 0))]⟩,
    ⟨none,.store 3 (.r 7) (.r 38)⟩,
    vo 8 39]
def f61_17:AC:=.ops [8] [] f61_17l
theorem f61_17e:OP f61_17 f61_17l [8] []:=rfl
def f61_19l:List GI:=[vv 40 8]
def f61_19:AC:=.ops [40] [] f61_19l
theorem f61_19e:OP f61_19 f61_19l [40] []:=rfl
def f61_22l:List GI:=[⟨none,.mv (some 6) (.c (.lit (.int .i64 11)))⟩]
def f61_22:AC:=.ops [6] [] f61_22l
theorem f61_22e:OP f61_22 f61_22l [6] []:=rfl
def f61_21:AC:=.seq f61_22 .ret
theorem f61_21e:SQ f61_21 f61_22 .ret:=rfl
def f61_20:AC:=.cond (.r 40) f61_21 .skip
theorem f61_20e:CN f61_20 40 f61_21 .skip:=rfl
def f61_18:AC:=.seq f61_19 f61_20
theorem f61_18e:SQ f61_18 f61_19 f61_20:=rfl
def f61_16:AC:=.seq f61_17 f61_18
theorem f61_16e:SQ f61_16 f61_17 f61_18:=rfl
def f61_24l:List GI:=[⟨none,.mv (some 6) (.c (.lit (.int .i64 0)))⟩]
def f61_24:AC:=.ops [6] [] f61_24l
theorem f61_24e:OP f61_24 f61_24l [6] []:=rfl
def f61_23:AC:=.seq f61_24 .ret
theorem f61_23e:SQ f61_23 f61_24 .ret:=rfl
def f61_15:AC:=.seq f61_16 f61_23
theorem f61_15e:SQ f61_15 f61_16 f61_23:=rfl
def f61_3:AC:=.seq f61_4 f61_15
theorem f61_3e:SQ f61_3 f61_4 f61_15:=rfl
def f61_1:AC:=.seq f61_2 f61_3
theorem f61_1e:SQ f61_1 f61_2 f61_3:=rfl
def c_f61:AFun:=⟨41,[.tmp 6],f61_1⟩
theorem k_f61:dX Go.Proofs.Try.prog x_f61 61 = some c_f61:=by kernel_rfl
theorem e_f61:cQ Go.Proofs.Try.prog 61 = true:=by kernel_rfl

def n_f62:Nat:=62
def x_f62:Cx:=⟨some,id,12,fun s=>([0,1,4,5,6,7,8,9,10,11]:List Nat).contains s,fun s=>([]:List Nat).contains s,msOf [(2,[0,1],[]),(6,[4],[])]⟩
def f62_2l:List GI:=[⟨none,.mv (some 4) (.c (.lit (.bool false)))⟩]
def f62_2:AC:=.ops [0,1] [] f62_2l
theorem f62_2e:OP f62_2 f62_2l [0,1] []:=rfl
def f62_4l:List GI:=[vv 5 1,
    ⟨none,.bin (some 6) .num .neq (.r 5) (.c (.lit (.int .u64 18446744073709551615)))⟩,
    vv 7 6,
    ⟨some (7,true),.mv (some 8) (.r 0)⟩,
    ⟨some (7,true),.mv (some 9) (.r 1)⟩,
    ⟨some (7,true),.bin (some 10) .num .leq (.r 8) (.r 9)⟩,
    ⟨none,.pick (some 11) (.r 7) (.r 10) (.c (.lit (.bool false)))⟩,
    vo 4 11]
def f62_4:AC:=.ops [4] [] f62_4l
theorem f62_4e:OP f62_4 f62_4l [4] []:=rfl
def f62_3:AC:=.seq f62_4 .ret
theorem f62_3e:SQ f62_3 f62_4 .ret:=rfl
def f62_1:AC:=.seq f62_2 f62_3
theorem f62_1e:SQ f62_1 f62_2 f62_3:=rfl
def c_f62:AFun:=⟨12,[.tmp 4],f62_1⟩
theorem k_f62:dX Go.Proofs.Try.prog x_f62 62 = some c_f62:=by kernel_rfl
theorem e_f62:cQ Go.Proofs.Try.prog 62 = true:=by kernel_rfl

def n_f63:Nat:=63
def x_f63:Cx:=⟨some,id,25,fun s=>([1,2,7,11,12,13,20,21,22]:List Nat).contains s,fun s=>([]:List Nat).contains s,msOf [(2,[0,2],[]),(3,[],[])]⟩
def f63_2h:List GI:=[vv 6 0,
    vv 7 1,
    vn 8 6,
    vd 9 8 3,
    ⟨none,.ixA (some 10) (.r 9) (.r 7) 64 1⟩,
    vl 11 10,
    vv 12 2,
    ⟨none,.bin (some 13) .num .add (.r 11) (.r 12)⟩,
    vn 14 6,
    vd 15 14 3]
def f63_2l:List GI:=[⟨none,.ixA (some 16) (.r 15) (.r 7) 64 1⟩,
    ⟨none,.store 1 (.r 16) (.r 13)⟩]
def f63_2:AC:=.draw [0,2] [] [] f63_2h f63_2l
theorem f63_2e:aC P id m f63_2 sf st Q = dg P id sf.locs st f63_2h (eH P id m [] [0,2] [] f63_2l Q st) [] ⟨sf.regs,dn [] sf.locs⟩:=rfl
def f63_3l:List GI:=[vv 17 0,
    vn 18 17,
    vd 19 18 1,
    vl 20 19,
    vv 21 2,
    ⟨none,.bin (some 22) .num .sub (.r 20) (.r 21)⟩,
    vn 23 17,
    vd 24 23 1,
    ⟨none,.store 1 (.r 24) (.r 22)⟩]
def f63_3:AC:=.ops [] [] f63_3l
theorem f63_3e:OP f63_3 f63_3l [] []:=rfl
def f63_1:AC:=.seq f63_2 f63_3
theorem f63_1e:SQ f63_1 f63_2 f63_3:=rfl
def c_f63:AFun:=⟨25,[],f63_1⟩
theorem k_f63:dX Go.Proofs.Try.prog x_f63 63 = some c_f63:=by kernel_rfl
theorem e_f63:cQ Go.Proofs.Try.prog 63 = true:=by kernel_rfl

def n_f64:Nat:=64
def x_f64:Cx:=⟨some,id,51,fun s=>([0,1,4,5,12,13,15,19,20,21,22,23,27,28,29,31,35,37,38,40,41,43,45,46,47,48,49,50]:List Nat).contains s,fun s=>([49]:List Nat).contains s,msOf [(2,[0,1],[]),(12,[0,1],[]),(96,[0,1,14],[]),(195,[1],[]),(196,[0,1,5],[]),(394,[0,1,5,8],[8]),(1580,[0,1,5,8,36],[8]),(3162,[1],[]),(1582,[0,1,5,8],[8]),(3166,[0,1,5],[]),(3167,[0,1],[]),(14,[4],[])]⟩
def f64_2l:List GI:=[⟨none,.mv (some 4) (.c (.lit (.slice none 0 0)))⟩]
def f64_2:AC:=.ops [0,1] [] f64_2l
theorem f64_2e:OP f64_2 f64_2l [0,1] []:=rfl
def f64_8l:List GI:=[vv 9 0,
    vn 10 9,
    vd 11 10 67,
    vl 12 11,
    ⟨none,.call (some 13) false (.f 47) [(.r 12)]⟩,
    vb 14 .gtr 13 0]
def f64_8:AC:=.ops [0,1,14] [] f64_8l
theorem f64_8e:OP f64_8 f64_8l [0,1,14] []:=rfl
def f64_9:AC:=.cond (.r 14) .skip (.exit [1] [] 0)
theorem f64_9e:CN f64_9 14 .skip (.exit [1] [] 0):=rfl
def f64_7:AC:=.seq f64_8 f64_9
theorem f64_7e:SQ f64_7 f64_8 f64_9:=rfl
def f64_12l:List GI:=[vv 16 0,
    vn 17 16,
    vd 18 17 67,
    vl 19 18,
    ⟨none,.call (some 20) false (.f 70) [(.r 19)]⟩,
    vv 15 20,
    ve 21 15 0,
    ve 22 15 1,
    ve 23 15 2,
    vo 5 21,
    vo 6 22,
    vo 7 23]
def f64_12:AC:=.ops [0,1,5] [] f64_12l
theorem f64_12e:OP f64_12 f64_12l [0,1,5] []:=rfl
def f64_14l:List GI:=[vv 24 0,
    vn 25 24,
    vd 26 25 68,
    vl 27 26,
    vv 28 5,
    ⟨none,.lookup (some 29) (.int .i64) (.agg [(.lit (.int .i64 0)),(.lit (.int .u64 0)),(.lit (.int .u64 0))]) false (.r 27) (.r 28)⟩,
    ⟨none,.newL 8 [(.lit (.int .i64 0)),(.lit (.int .u64 0)),(.lit (.int .u64 0))]⟩,
    ⟨none,.store 3 (.r 8) (.r 29)⟩]
def f64_14:AC:=.ops [0,1,5,8] [8] f64_14l
theorem f64_14e:OP f64_14 f64_14l [0,1,5,8] [8]:=rfl
def f64_17h:List GI:=[vd 30 8 0,
    vl 31 30,
    vv 32 0,
    vn 33 32,
    vd 34 33 1,
    vl 35 34]
def f64_17l:List GI:=[⟨none,.bin (some 36) .num .gtr (.r 31) (.r 35)⟩]
def f64_17:AC:=.draw [0,1,5,8,36] [8] [] f64_17h f64_17l
theorem f64_17e:aC P id m f64_17 sf st Q = dg P id sf.locs st f64_17h (eH P id m [] [0,1,5,8,36] [8] f64_17l Q st) [] ⟨sf.regs,dn [] sf.locs⟩:=rfl
def f64_18:AC:=.cond (.r 36) (.exit [1] [] 0) .skip
theorem f64_18e:CN f64_18 36 (.exit [1] [] 0) .skip:=rfl
def f64_16:AC:=.seq f64_17 f64_18
theorem f64_16e:SQ f64_16 f64_17 f64_18:=rfl
def f64_20l:List GI:=[vv 37 0,
    vv 38 5,
    ⟨none,.call (some 39) false (.f 65) [(.r 37),(.r 38)]⟩]
def f64_20:AC:=.ops [0,1,5,8] [8] f64_20l
theorem f64_20e:OP f64_20 f64_20l [0,1,5,8] [8]:=rfl
def f64_22l:List GI:=[vv 40 0,
    vv 41 5,
    vd 42 8 0,
    vl 43 42,
    ⟨none,.call (some 44) false (.f 63) [(.r 40),(.r 41),(.r 43)]⟩]
def f64_22:AC:=.ops [0,1,5] [] f64_22l
theorem f64_22e:OP f64_22 f64_22l [0,1,5] []:=rfl
def f64_23l:List GI:=[vo 45 1,
    vv 46 5,
    ⟨none,.bst (some 47) [(0,1),(1,1)] (.agg [(.lit (.int .i64 0)),(.lit (.int .i64 0))]) [(0,(.r 46))]⟩,
    ⟨none,.bsl (some 48) 2 1 (.agg [(.lit (.int .i64 0)),(.lit (.int .i64 0))]) [(0,(.r 47))]⟩,
    ⟨none,.x (some 49) (.appB (.r 45) 2 16 (.r 48))⟩,
    vo 1 49]
def f64_23:AC:=.ops [0,1] [] f64_23l
theorem f64_23e:OP f64_23 f64_23l [0,1] []:=rfl
def f64_21:AC:=.seq f64_22 f64_23
theorem f64_21e:SQ f64_21 f64_22 f64_23:=rfl
def f64_19:AC:=.seq f64_20 f64_21
theorem f64_19e:SQ f64_19 f64_20 f64_21:=rfl
def f64_15:AC:=.seq f64_16 f64_19
theorem f64_15e:SQ f64_15 f64_16 f64_19:=rfl
def f64_13:AC:=.seq f64_14 f64_15
theorem f64_13e:SQ f64_13 f64_14 f64_15:=rfl
def f64_11:AC:=.seq f64_12 f64_13
theorem f64_11e:SQ f64_11 f64_12 f64_13:=rfl
def f64_10:AC:=.block 1 f64_11
theorem f64_10e:BL f64_10 f64_11 1:=rfl
def f64_6:AC:=.seq f64_7 f64_10
theorem f64_6e:SQ f64_6 f64_7 f64_10:=rfl
def f64_5:AC:=.loop [0,1] [] f64_6
theorem f64_5w:aC P id m f64_5 sf st Q = ep (aC P id m f64_6) [0,1] [] sf st Q:=rfl
def f64_4:AC:=.block 0 f64_5
theorem f64_4e:BL f64_4 f64_5 0:=rfl
def f64_25l:List GI:=[vv 50 1,
    vo 4 50]
def f64_25:AC:=.ops [4] [] f64_25l
theorem f64_25e:OP f64_25 f64_25l [4] []:=rfl
def f64_24:AC:=.seq f64_25 .ret
theorem f64_24e:SQ f64_24 f64_25 .ret:=rfl
def f64_3:AC:=.seq f64_4 f64_24
theorem f64_3e:SQ f64_3 f64_4 f64_24:=rfl
def f64_1:AC:=.seq f64_2 f64_3
theorem f64_1e:SQ f64_1 f64_2 f64_3:=rfl
def c_f64:AFun:=⟨51,[.tmp 4],f64_1⟩
theorem k_f64:dX Go.Proofs.Try.prog x_f64 64 = some c_f64:=by kernel_rfl
theorem e_f64:cQ Go.Proofs.Try.prog 64 = true:=by kernel_rfl

def n_f65:Nat:=65
def x_f65:Cx:=⟨some,id,21,fun s=>([1,7,11,12,13,14,19,20]:List Nat).contains s,fun s=>([]:List Nat).contains s,msOf [(2,[0,1],[]),(3,[],[])]⟩
def f65_2h:List GI:=[vv 4 0,
    vn 5 4,
    vd 6 5 67,
    vl 7 6,
    vv 8 0,
    vn 9 8,
    vd 10 9 68,
    vl 11 10,
    vv 12 1,
    ⟨none,.lookup (some 13) (.int .i64) (.agg [(.lit (.int .i64 0)),(.lit (.int .u64 0)),(.lit (.int .u64 0))]) false (.r 11) (.r 12)⟩,
    ⟨none,.field (some 14) (.r 13) 2 none⟩]
def f65_2l:List GI:=[⟨none,.call (some 15) false (.f 51) [(.r 7),(.r 14)]⟩]
def f65_2:AC:=.draw [0,1] [] [] f65_2h f65_2l
theorem f65_2e:aC P id m f65_2 sf st Q = dg P id sf.locs st f65_2h (eH P id m [] [0,1] [] f65_2l Q st) [] ⟨sf.regs,dn [] sf.locs⟩:=rfl
def f65_3l:List GI:=[vv 16 0,
    vn 17 16,
    vd 18 17 68,
    vl 19 18,
    vv 20 1,
    ⟨none,.del (.int .i64) (.r 19) (.r 20)⟩]
def f65_3:AC:=.ops [] [] f65_3l
theorem f65_3e:OP f65_3 f65_3l [] []:=rfl
def f65_1:AC:=.seq f65_2 f65_3
theorem f65_1e:SQ f65_1 f65_2 f65_3:=rfl
def c_f65:AFun:=⟨21,[],f65_1⟩
theorem k_f65:dX Go.Proofs.Try.prog x_f65 65 = some c_f65:=by kernel_rfl
theorem e_f65:cQ Go.Proofs.Try.prog 65 = true:=by kernel_rfl

def n_f66:Nat:=66
def x_f66:Cx:=⟨some,id,8,fun s=>([0,2,3,4,6,7]:List Nat).contains s,fun s=>([]:List Nat).contains s,msOf [(2,[0],[]),(12,[0,5],[]),(52,[2],[]),(14,[2],[])]⟩
def f66_2l:List GI:=[⟨none,.mv (some 2) (.c (.lit (.int .u64 0)))⟩]
def f66_2:AC:=.ops [0] [] f66_2l
theorem f66_2e:OP f66_2 f66_2l [0] []:=rfl
def f66_5l:List GI:=[vv 3 0,
    ⟨none,.len (some 4) .sl (.r 3)⟩,
    vb 5 .eql 4 0]
def f66_5:AC:=.ops [0,5] [] f66_5l
theorem f66_5e:OP f66_5 f66_5l [0,5] []:=rfl
def f66_8l:List GI:=[⟨none,.mv (some 2) (.c (.lit (.int .u64 18446744073709551615)))⟩]
def f66_8:AC:=.ops [2] [] f66_8l
theorem f66_8e:OP f66_8 f66_8l [2] []:=rfl
def f66_7:AC:=.seq f66_8 .ret
theorem f66_7e:SQ f66_7 f66_8 .ret:=rfl
def f66_6:AC:=.cond (.r 5) f66_7 .skip
theorem f66_6e:CN f66_6 5 f66_7 .skip:=rfl
def f66_4:AC:=.seq f66_5 f66_6
theorem f66_4e:SQ f66_4 f66_5 f66_6:=rfl
def f66_10l:List GI:=[vv 6 0,
    ⟨none,.call (some 7) false (.f 76) [(.r 6)]⟩,
    vo 2 7]
def f66_10:AC:=.ops [2] [] f66_10l
theorem f66_10e:OP f66_10 f66_10l [2] []:=rfl
def f66_9:AC:=.seq f66_10 .ret
theorem f66_9e:SQ f66_9 f66_10 .ret:=rfl
def f66_3:AC:=.seq f66_4 f66_9
theorem f66_3e:SQ f66_3 f66_4 f66_9:=rfl
def f66_1:AC:=.seq f66_2 f66_3
theorem f66_1e:SQ f66_1 f66_2 f66_3:=rfl
def c_f66:AFun:=⟨8,[.tmp 2],f66_1⟩
theorem k_f66:dX Go.Proofs.Try.prog x_f66 66 = some c_f66:=by kernel_rfl
theorem e_f66:cQ Go.Proofs.Try.prog 66 = true:=by kernel_rfl

def n_f67:Nat:=67
def x_f67:Cx:=⟨some,id,16,fun s=>([0,2,3,8,12,13,14,15]:List Nat).contains s,fun s=>([13]:List Nat).contains s,msOf [(2,[0],[]),(12,[0,4],[]),(52,[2],[]),(14,[2],[])]⟩
def f67_2l:List GI:=[⟨none,.mv (some 2) (.c (.lit (.pointer none)))⟩]
def f67_2:AC:=.ops [0] [] f67_2l
theorem f67_2e:OP f67_2 f67_2l [0] []:=rfl
def f67_5l:List GI:=[vv 3 0,
    ⟨none,.call (some 4) false (.f 68) [(.r 3)]⟩]
def f67_5:AC:=.ops [0,4] [] f67_5l
theorem f67_5e:OP f67_5 f67_5l [0,4] []:=rfl
def f67_8l:List GI:=[⟨none,.mv (some 2) (.c (.lit (.pointer none)))⟩]
def f67_8:AC:=.ops [2] [] f67_8l
theorem f67_8e:OP f67_8 f67_8l [2] []:=rfl
def f67_7:AC:=.seq f67_8 .ret
theorem f67_7e:SQ f67_7 f67_8 .ret:=rfl
def f67_6:AC:=.cond (.r 4) f67_7 .skip
theorem f67_6e:CN f67_6 4 f67_7 .skip:=rfl
def f67_4:AC:=.seq f67_5 f67_6
theorem f67_4e:SQ f67_4 f67_5 f67_6:=rfl
def f67_10h:List GI:=[vv 5 0,
    vn 6 5,
    vd 7 6 0,
    ⟨none,.load (some 8) (.r 7) (some 3)⟩,
    vv 9 0,
    vn 10 9,
    vd 11 10 3,
    vl 12 11]
def f67_10p:List (Bool×GI):=[]
def f67_10l:List GI:=[⟨none,.bst (some 14) [(0,3),(3,1)] (.agg [(.lit (.int .u64 0)),(.lit (.int .u64 0)),(.lit (.int .u64 0)),(.lit (.map none))]) [(0,(.r 8)),(1,(.r 13))]⟩,
    ⟨none,.boxB 15 4 (.r 14)⟩,
    vo 2 15]
def f67_10:AC:=.drawM [2] [] f67_10h (some 13) (.f 77) [(.r 12)] f67_10p f67_10l
theorem f67_10e:aC P id m f67_10 sf st Q = (m = false∧drawM P id f67_10h (some 13) (.f 77) [(.r 12)] f67_10p sf st (tailM P id m [2] [] f67_10l Q)):=rfl
def f67_9:AC:=.seq f67_10 .ret
theorem f67_9e:SQ f67_9 f67_10 .ret:=rfl
def f67_3:AC:=.seq f67_4 f67_9
theorem f67_3e:SQ f67_3 f67_4 f67_9:=rfl
def f67_1:AC:=.seq f67_2 f67_3
theorem f67_1e:SQ f67_1 f67_2 f67_3:=rfl
def c_f67:AFun:=⟨16,[.tmp 2],f67_1⟩
theorem k_f67:dX Go.Proofs.Try.prog x_f67 67 = some c_f67:=by kernel_rfl
theorem e_f67:cQ Go.Proofs.Try.prog 67 = true:=by kernel_rfl

def n_f68:Nat:=68
def x_f68:Cx:=⟨some,id,12,fun s=>([0,2,3,4,5,9,10,11]:List Nat).contains s,fun s=>([]:List Nat).contains s,msOf [(2,[0],[]),(6,[2],[])]⟩
def f68_2l:List GI:=[⟨none,.mv (some 2) (.c (.lit (.bool false)))⟩]
def f68_2:AC:=.ops [0] [] f68_2l
theorem f68_2e:OP f68_2 f68_2l [0] []:=rfl
def f68_4l:List GI:=[vv 3 0,
    ⟨none,.bin (some 4) (.nil .ptr) .eql (.r 3) (.c (.lit (.pointer none)))⟩,
    vv 5 4,
    ⟨some (5,false),.mv (some 6) (.r 0)⟩,
    ⟨some (5,false),.nilck (some 7) (.r 6)⟩,
    ⟨some (5,false),.addr (some 8) (.r 7) 3⟩,
    ⟨some (5,false),.load (some 9) (.r 8) none⟩,
    ⟨some (5,false),.bin (some 10) (.nil .mp) .eql (.r 9) (.c (.lit (.map none)))⟩,
    ⟨none,.pick (some 11) (.r 5) (.c (.lit (.bool true))) (.r 10)⟩,
    vo 2 11]
def f68_4:AC:=.ops [2] [] f68_4l
theorem f68_4e:OP f68_4 f68_4l [2] []:=rfl
def f68_3:AC:=.seq f68_4 .ret
theorem f68_3e:SQ f68_3 f68_4 .ret:=rfl
def f68_1:AC:=.seq f68_2 f68_3
theorem f68_1e:SQ f68_1 f68_2 f68_3:=rfl
def c_f68:AFun:=⟨12,[.tmp 2],f68_1⟩
theorem k_f68:dX Go.Proofs.Try.prog x_f68 68 = some c_f68:=by kernel_rfl
theorem e_f68:cQ Go.Proofs.Try.prog 68 = true:=by kernel_rfl

def n_f69:Nat:=69
def x_f69:Cx:=⟨some,id,31,fun s=>([0,3,4,10,11,16,17,18,19,20,21,25,26,27,28,29]:List Nat).contains s,fun s=>([]:List Nat).contains s,msOf [(4,[0,1,5],[]),(6,[0,1,3],[]),(14,[0,1,3],[]),(112,[0,1,3,12],[]),(227,[],[]),(456,[0,1,3,30],[]),(115,[0,1,3],[])]⟩
def f69_3l:List GI:=[vl 4 1,
    ⟨none,.bin (some 5) (.nil .ptr) .eql (.r 4) (.c (.lit (.pointer none)))⟩]
def f69_3:AC:=.ops [0,1,5] [] f69_3l
theorem f69_3e:OP f69_3 f69_3l [0,1,5] []:=rfl
def f69_4:AC:=.cond (.r 5) .ret .skip
theorem f69_4e:CN f69_4 5 .ret .skip:=rfl
def f69_2:AC:=.seq f69_3 f69_4
theorem f69_2e:SQ f69_2 f69_3 f69_4:=rfl
def f69_6l:List GI:=[vl 6 1,
    vn 7 6,
    vd 8 7 0,
    vd 9 8 0,
    vl 10 9,
    vo 3 10]
def f69_6:AC:=.ops [0,1,3] [] f69_6l
theorem f69_6e:OP f69_6 f69_6l [0,1,3] []:=rfl
def f69_11l:List GI:=[vv 11 3,
    ⟨none,.bin (some 12) .num .neq (.r 11) (.c (.lit (.int .u64 0)))⟩]
def f69_11:AC:=.ops [0,1,3,12] [] f69_11l
theorem f69_11e:OP f69_11 f69_11l [0,1,3,12] []:=rfl
def f69_12:AC:=.cond (.r 12) .skip (.exit [] [] 0)
theorem f69_12e:CN f69_12 12 .skip (.exit [] [] 0):=rfl
def f69_10:AC:=.seq f69_11 f69_12
theorem f69_10e:SQ f69_10 f69_11 f69_12:=rfl
def f69_16l:List GI:=[vv 20 0,
    vv 21 3,
    vl 22 1,
    vn 23 22,
    vd 24 23 3,
    vl 25 24,
    vv 26 3,
    ⟨none,.lookup (some 27) (.int .u64) (.agg [(.lit (.int .i64 0)),(.lit (.int .u64 0)),(.lit (.int .u64 0))]) false (.r 25) (.r 26)⟩,
    ⟨none,.field (some 28) (.r 27) 0 none⟩,
    ⟨none,.call (some 29) false (.r 20) [(.r 21),(.r 28)]⟩,
    ⟨none,.un (some 30) .not (.r 29)⟩]
def f69_16:AC:=.ops [0,1,3,30] [] f69_16l
theorem f69_16e:OP f69_16 f69_16l [0,1,3,30] []:=rfl
def f69_17:AC:=.cond (.r 30) .ret .skip
theorem f69_17e:CN f69_17 30 .ret .skip:=rfl
def f69_15:AC:=.seq f69_16 f69_17
theorem f69_15e:SQ f69_15 f69_16 f69_17:=rfl
def f69_14:AC:=.block 1 f69_15
theorem f69_14e:BL f69_14 f69_15 1:=rfl
def f69_18l:List GI:=[vl 13 1,
    vn 14 13,
    vd 15 14 3,
    vl 16 15,
    vv 17 3,
    ⟨none,.lookup (some 18) (.int .u64) (.agg [(.lit (.int .i64 0)),(.lit (.int .u64 0)),(.lit (.int .u64 0))]) false (.r 16) (.r 17)⟩,
    ⟨none,.field (some 19) (.r 18) 2 none⟩,
    vo 3 19]
def f69_18:AC:=.ops [0,1,3] [] f69_18l
theorem f69_18e:OP f69_18 f69_18l [0,1,3] []:=rfl
def f69_13:AC:=.seq f69_14 f69_18
theorem f69_13e:SQ f69_13 f69_14 f69_18:=rfl
def f69_9:AC:=.seq f69_10 f69_13
theorem f69_9e:SQ f69_9 f69_10 f69_13:=rfl
def f69_8:AC:=.loop [0,1,3] [] f69_9
theorem f69_8w:aC P id m f69_8 sf st Q = ep (aC P id m f69_9) [0,1,3] [] sf st Q:=rfl
def f69_7:AC:=.block 0 f69_8
theorem f69_7e:BL f69_7 f69_8 0:=rfl
def f69_5:AC:=.seq f69_6 f69_7
theorem f69_5e:SQ f69_5 f69_6 f69_7:=rfl
def f69_1:AC:=.seq f69_2 f69_5
theorem f69_1e:SQ f69_1 f69_2 f69_5:=rfl
def c_f69:AFun:=⟨31,[],f69_1⟩
theorem k_f69:dX Go.Proofs.Try.prog x_f69 69 = some c_f69:=by kernel_rfl
theorem e_f69:cQ Go.Proofs.Try.prog 69 = true:=by kernel_rfl

def n_f70:Nat:=70
def x_f70:Cx:=⟨some,id,31,fun s=>([0,2,3,4,6,7,13,14,18,23,24,25,30]:List Nat).contains s,fun s=>([]:List Nat).contains s,msOf [(2,[0],[]),(24,[0,5],[]),(100,[2,3,4],[]),(102,[0,8],[]),(412,[2,3,4],[]),(14,[2,3,4],[])]⟩
def f70_2l:List GI:=[⟨none,.mv (some 2) (.c (.lit (.int .i64 0)))⟩,
    ⟨none,.mv (some 3) (.c (.lit (.int .u64 0)))⟩,
    ⟨none,.mv (some 4) (.c (.lit (.int .i64 0)))⟩]
def f70_2:AC:=.ops [0] [] f70_2l
theorem f70_2e:OP f70_2 f70_2l [0] []:=rfl
def f70_6l:List GI:=[vv 6 0,
    ⟨none,.call (some 7) false (.f 68) [(.r 6)]⟩,
    vo 5 7]
def f70_6:AC:=.ops [0,5] [] f70_6l
theorem f70_6e:OP f70_6 f70_6l [0,5] []:=rfl
def f70_9l:List GI:=[⟨none,.mv (some 2) (.c (.lit (.int .i64 0)))⟩,
    ⟨none,.mv (some 3) (.c (.lit (.int .u64 0)))⟩,
    ⟨none,.mv (some 4) (.c (.lit (.int .i64 1)))⟩]
def f70_9:AC:=.ops [2,3,4] [] f70_9l
theorem f70_9e:OP f70_9 f70_9l [2,3,4] []:=rfl
def f70_8:AC:=.seq f70_9 .ret
theorem f70_8e:SQ f70_8 f70_9 .ret:=rfl
def f70_11l:List GI:=[vv 9 0,
    vn 10 9,
    vd 11 10 0,
    vd 12 11 0,
    vl 13 12,
    ⟨none,.bin (some 14) .num .eql (.r 13) (.c (.lit (.int .u64 0)))⟩,
    vo 8 14]
def f70_11:AC:=.ops [0,8] [] f70_11l
theorem f70_11e:OP f70_11 f70_11l [0,8] []:=rfl
def f70_14l:List GI:=[⟨none,.mv (some 2) (.c (.lit (.int .i64 0)))⟩,
    ⟨none,.mv (some 3) (.c (.lit (.int .u64 0)))⟩,
    ⟨none,.mv (some 4) (.c (.lit (.int .i64 9)))⟩]
def f70_14:AC:=.ops [2,3,4] [] f70_14l
theorem f70_14e:OP f70_14 f70_14l [2,3,4] []:=rfl
def f70_13:AC:=.seq f70_14 .ret
theorem f70_13e:SQ f70_13 f70_14 .ret:=rfl
def f70_12:AC:=.cond (.r 8) f70_13 .skip
theorem f70_12e:CN f70_12 8 f70_13 .skip:=rfl
def f70_10:AC:=.seq f70_11 f70_12
theorem f70_10e:SQ f70_10 f70_11 f70_12:=rfl
def f70_7:AC:=.cond (.r 5) f70_8 f70_10
theorem f70_7e:CN f70_7 5 f70_8 f70_10:=rfl
def f70_5:AC:=.seq f70_6 f70_7
theorem f70_5e:SQ f70_5 f70_6 f70_7:=rfl
def f70_4:AC:=.block 0 f70_5
theorem f70_4e:BL f70_4 f70_5 0:=rfl
def f70_16h:List GI:=[vv 15 0,
    vn 16 15,
    vd 17 16 3,
    vl 18 17,
    vv 19 0,
    vn 20 19,
    vd 21 20 0,
    vd 22 21 0,
    vl 23 22,
    ⟨none,.lookup (some 24) (.int .u64) (.agg [(.lit (.int .i64 0)),(.lit (.int .u64 0)),(.lit (.int .u64 0))]) false (.r 18) (.r 23)⟩,
    ⟨none,.field (some 25) (.r 24) 0 none⟩,
    vv 26 0,
    vn 27 26,
    vd 28 27 0,
    vd 29 28 0,
    vl 30 29,
    vv 2 25]
def f70_16l:List GI:=[vo 3 30,
    ⟨none,.mv (some 4) (.c (.lit (.int .i64 0)))⟩]
def f70_16:AC:=.draw [2,3,4] [] [] f70_16h f70_16l
theorem f70_16e:aC P id m f70_16 sf st Q = dg P id sf.locs st f70_16h (eH P id m [] [2,3,4] [] f70_16l Q st) [] ⟨sf.regs,dn [] sf.locs⟩:=rfl
def f70_15:AC:=.seq f70_16 .ret
theorem f70_15e:SQ f70_15 f70_16 .ret:=rfl
def f70_3:AC:=.seq f70_4 f70_15
theorem f70_3e:SQ f70_3 f70_4 f70_15:=rfl
def f70_1:AC:=.seq f70_2 f70_3
theorem f70_1e:SQ f70_1 f70_2 f70_3:=rfl
def c_f70:AFun:=⟨31,[.tmp 2,.tmp 3,.tmp 4],f70_1⟩
theorem k_f70:dX Go.Proofs.Try.prog x_f70 70 = some c_f70:=by kernel_rfl
theorem e_f70:cQ Go.Proofs.Try.prog 70 = true:=by kernel_rfl

def n_f76:Nat:=76
def x_f76:Cx:=⟨some,id,25,fun s=>([0,2,3,4,5,6,8,11,12,13,14,16,17,18,20,22,23,24]:List Nat).contains s,fun s=>([]:List Nat).contains s,msOf [(2,[0],[]),(12,[0,7],[]),(26,[0],[]),(14,[0,3],[]),(60,[0,3,4],[]),(122,[0,3,4],[]),(976,[0,3,4,15],[]),(1955,[3],[]),(1956,[0,3,4],[]),(979,[0,3,4],[]),(62,[2],[])]⟩
def f76_2l:List GI:=[⟨none,.mv (some 2) (.c (.lit (.int .u64 0)))⟩]
def f76_2:AC:=.ops [0] [] f76_2l
theorem f76_2e:OP f76_2 f76_2l [0] []:=rfl
def f76_5l:List GI:=[vv 5 0,
    ⟨none,.len (some 6) .sl (.r 5)⟩,
    vb 7 .lss 6 1]
def f76_5:AC:=.ops [0,7] [] f76_5l
theorem f76_5e:OP f76_5 f76_5l [0,7] []:=rfl
def f76_7l:List GI:=[⟨none,.mkif (some 8) 9 (.c (.lit (.string ⟨#[115,108,105,99,101,115,46,77,105,110,58,32,101,109,112,116,121,32,108,105,115,116]⟩)))⟩,
    ⟨none,.x none .bad⟩]
def f76_7:AC:=.ops [0] [] f76_7l
theorem f76_7e:OP f76_7 f76_7l [0] []:=rfl
def f76_6:AC:=.cond (.r 7) f76_7 .skip
theorem f76_6e:CN f76_6 7 f76_7 .skip:=rfl
def f76_4:AC:=.seq f76_5 f76_6
theorem f76_4e:SQ f76_4 f76_5 f76_6:=rfl
def f76_9l:List GI:=[vv 9 0,
    ⟨none,.ixS (some 10) (.r 9) (.c (.lit (.int .i64 0))) 1⟩,
    vl 11 10,
    vo 3 11]
def f76_9:AC:=.ops [0,3] [] f76_9l
theorem f76_9e:OP f76_9 f76_9l [0,3] []:=rfl
def f76_12l:List GI:=[⟨none,.mv (some 4) (.c (.lit (.int .i64 1)))⟩]
def f76_12:AC:=.ops [0,3,4] [] f76_12l
theorem f76_12e:OP f76_12 f76_12l [0,3,4] []:=rfl
def f76_17l:List GI:=[vv 12 4,
    vv 13 0,
    ⟨none,.len (some 14) .sl (.r 13)⟩,
    ⟨none,.bin (some 15) .num .lss (.r 12) (.r 14)⟩]
def f76_17:AC:=.ops [0,3,4,15] [] f76_17l
theorem f76_17e:OP f76_17 f76_17l [0,3,4,15] []:=rfl
def f76_18:AC:=.cond (.r 15) .skip (.exit [3] [] 0)
theorem f76_18e:CN f76_18 15 .skip (.exit [3] [] 0):=rfl
def f76_16:AC:=.seq f76_17 f76_18
theorem f76_16e:SQ f76_16 f76_17 f76_18:=rfl
def f76_21l:List GI:=[vv 18 3,
    vv 19 0,
    vv 20 4,
    ⟨none,.ixS (some 21) (.r 19) (.r 20) 1⟩,
    vl 22 21,
    ⟨none,.mn (some 23) true (.r 18) (.r 22)⟩,
    vo 3 23]
def f76_21:AC:=.ops [0,3,4] [] f76_21l
theorem f76_21e:OP f76_21 f76_21l [0,3,4] []:=rfl
def f76_20:AC:=.block 1 f76_21
theorem f76_20e:BL f76_20 f76_21 1:=rfl
def f76_22l:List GI:=[vv 16 4,
    vb 17 .add 16 1,
    vo 4 17]
def f76_22:AC:=.ops [0,3,4] [] f76_22l
theorem f76_22e:OP f76_22 f76_22l [0,3,4] []:=rfl
def f76_19:AC:=.seq f76_20 f76_22
theorem f76_19e:SQ f76_19 f76_20 f76_22:=rfl
def f76_15:AC:=.seq f76_16 f76_19
theorem f76_15e:SQ f76_15 f76_16 f76_19:=rfl
def f76_14:AC:=.loop [0,3,4] [] f76_15
theorem f76_14w:aC P id m f76_14 sf st Q = ep (aC P id m f76_15) [0,3,4] [] sf st Q:=rfl
def f76_13:AC:=.block 0 f76_14
theorem f76_13e:BL f76_13 f76_14 0:=rfl
def f76_11:AC:=.seq f76_12 f76_13
theorem f76_11e:SQ f76_11 f76_12 f76_13:=rfl
def f76_24l:List GI:=[vv 24 3,
    vo 2 24]
def f76_24:AC:=.ops [2] [] f76_24l
theorem f76_24e:OP f76_24 f76_24l [2] []:=rfl
def f76_23:AC:=.seq f76_24 .ret
theorem f76_23e:SQ f76_23 f76_24 .ret:=rfl
def f76_10:AC:=.seq f76_11 f76_23
theorem f76_10e:SQ f76_10 f76_11 f76_23:=rfl
def f76_8:AC:=.seq f76_9 f76_10
theorem f76_8e:SQ f76_8 f76_9 f76_10:=rfl
def f76_3:AC:=.seq f76_4 f76_8
theorem f76_3e:SQ f76_3 f76_4 f76_8:=rfl
def f76_1:AC:=.seq f76_2 f76_3
theorem f76_1e:SQ f76_1 f76_2 f76_3:=rfl
def c_f76:AFun:=⟨25,[.tmp 2],f76_1⟩
theorem k_f76:dX Go.Proofs.Try.prog x_f76 76 = some c_f76:=by kernel_rfl
theorem e_f76:cQ Go.Proofs.Try.prog 76 = true:=by kernel_rfl

def n_f77:Nat:=77
def x_f77:Cx:=⟨some,id,9,fun s=>([0,2,3,5,6,7,8]:List Nat).contains s,fun s=>([]:List Nat).contains s,msOf [(2,[0],[]),(12,[0,4],[]),(52,[2],[]),(14,[2],[])]⟩
def f77_2l:List GI:=[⟨none,.mv (some 2) (.c (.lit (.map none)))⟩]
def f77_2:AC:=.ops [0] [] f77_2l
theorem f77_2e:OP f77_2 f77_2l [0] []:=rfl
def f77_5l:List GI:=[vv 3 0,
    ⟨none,.bin (some 4) (.nil .mp) .eql (.r 3) (.c (.lit (.map none)))⟩]
def f77_5:AC:=.ops [0,4] [] f77_5l
theorem f77_5e:OP f77_5 f77_5l [0,4] []:=rfl
def f77_8l:List GI:=[⟨none,.mv (some 2) (.c (.lit (.map none)))⟩]
def f77_8:AC:=.ops [2] [] f77_8l
theorem f77_8e:OP f77_8 f77_8l [2] []:=rfl
def f77_7:AC:=.seq f77_8 .ret
theorem f77_7e:SQ f77_7 f77_8 .ret:=rfl
def f77_6:AC:=.cond (.r 4) f77_7 .skip
theorem f77_6e:CN f77_6 4 f77_7 .skip:=rfl
def f77_4:AC:=.seq f77_5 f77_6
theorem f77_4e:SQ f77_4 f77_5 f77_6:=rfl
def f77_10l:List GI:=[vv 5 0,
    ⟨none,.mkif (some 6) 116 (.r 5)⟩,
    ⟨none,.x (some 7) (.mclone (.r 6))⟩,
    ⟨none,.tas (some 8) 116 (.r 7)⟩,
    vo 2 8]
def f77_10:AC:=.ops [2] [] f77_10l
theorem f77_10e:OP f77_10 f77_10l [2] []:=rfl
def f77_9:AC:=.seq f77_10 .ret
theorem f77_9e:SQ f77_9 f77_10 .ret:=rfl
def f77_3:AC:=.seq f77_4 f77_9
theorem f77_3e:SQ f77_3 f77_4 f77_9:=rfl
def f77_1:AC:=.seq f77_2 f77_3
theorem f77_1e:SQ f77_1 f77_2 f77_3:=rfl
def c_f77:AFun:=⟨9,[.tmp 2],f77_1⟩
theorem k_f77:dX Go.Proofs.Try.prog x_f77 77 = some c_f77:=by kernel_rfl
theorem e_f77:cQ Go.Proofs.Try.prog 77 = true:=by kernel_rfl

def tab (q:Nat):Option AFun :=
  if q = 10 then some c_f10 else
  if q = 29 then some c_f29 else
  if q = 31 then some c_f31 else
  if q = 34 then some c_f34 else
  if q = 35 then some c_f35 else
  if q = 36 then some c_f36 else
  if q = 37 then some c_f37 else
  if q = 38 then some c_f38 else
  if q = 39 then some c_f39 else
  if q = 40 then some c_f40 else
  if q = 41 then some c_f41 else
  if q = 42 then some c_f42 else
  if q = 43 then some c_f43 else
  if q = 45 then some c_f45 else
  if q = 47 then some c_f47 else
  if q = 48 then some c_f48 else
  if q = 49 then some c_f49 else
  if q = 51 then some c_f51 else
  if q = 52 then some c_f52 else
  if q = 53 then some c_f53 else
  if q = 54 then some c_f54 else
  if q = 59 then some c_f59 else
  if q = 60 then some c_f60 else
  if q = 61 then some c_f61 else
  if q = 62 then some c_f62 else
  if q = 63 then some c_f63 else
  if q = 64 then some c_f64 else
  if q = 65 then some c_f65 else
  if q = 66 then some c_f66 else
  if q = 67 then some c_f67 else
  if q = 68 then some c_f68 else
  if q = 69 then some c_f69 else
  if q = 70 then some c_f70 else
  if q = 76 then some c_f76 else
  if q = 77 then some c_f77 else
  none
theorem tabOk:TabOk Go.Proofs.Try.prog id tab :=
  cb e_f10 k_f10 rfl (
  cb e_f29 k_f29 rfl (
  cb e_f31 k_f31 rfl (
  cb e_f34 k_f34 rfl (
  cb e_f35 k_f35 rfl (
  cb e_f36 k_f36 rfl (
  cb e_f37 k_f37 rfl (
  cb e_f38 k_f38 rfl (
  cb e_f39 k_f39 rfl (
  cb e_f40 k_f40 rfl (
  cb e_f41 k_f41 rfl (
  cb e_f42 k_f42 rfl (
  cb e_f43 k_f43 rfl (
  cb e_f45 k_f45 rfl (
  cb e_f47 k_f47 rfl (
  cb e_f48 k_f48 rfl (
  cb e_f49 k_f49 rfl (
  cb e_f51 k_f51 rfl (
  cb e_f52 k_f52 rfl (
  cb e_f53 k_f53 rfl (
  cb e_f54 k_f54 rfl (
  cb e_f59 k_f59 rfl (
  cb e_f60 k_f60 rfl (
  cb e_f61 k_f61 rfl (
  cb e_f62 k_f62 rfl (
  cb e_f63 k_f63 rfl (
  cb e_f64 k_f64 rfl (
  cb e_f65 k_f65 rfl (
  cb e_f66 k_f66 rfl (
  cb e_f67 k_f67 rfl (
  cb e_f68 k_f68 rfl (
  cb e_f69 k_f69 rfl (
  cb e_f70 k_f70 rfl (
  cb e_f76 k_f76 rfl (
  cb e_f77 k_f77 rfl (
  tabOk_nil)))))))))))))))))))))))))))))))))))
theorem hmix:Go.Proofs.Try.prog.follows .mixedOrders = true:=by kernel_rfl
end
end Go.Fx.YtddifejdkiemgaaFx

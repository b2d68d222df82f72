/- The functions that the statement reaches, resolved: printed by a program of ours from the translated code; each is checked here. -/
import Derived.Test.YtenijlfcfmhmkaaProg
import Derived.Test.YtenijlfcfmhmkaaFxF
set_option maxRecDepth 100000
set_option maxHeartbeats 0
namespace Go.Fx.YtenijlfcfmhmkaaFx
open Go Go.Fx
def xX (n:Nat) (h u:List Nat) (q:List (Nat×List Nat×List Nat)):Cx:=⟨some,id,n,fun s=>h.contains s,fun s=>u.contains s,msOf q⟩
abbrev kX (x:Cx) (n:Nat) (c:AFun):Prop:=jG Go.Proofs.Try.prog x n = some c
abbrev eX (n:Nat):Prop:=aZ Go.Proofs.Try.prog n = true
abbrev SQ (a b c:AC):Prop:=∀ {P:Program} {m:Bool} {sf:Sf} {st:St} {Q:Exit→Sf→St→Prop},aC P id m a sf st Q = aC P id m b sf st (seqQ (aC P id m c) Q)
abbrev SO (a:AC) (l:List GI) (x y:List Nat) (c:AC):Prop:=∀ {P:Program} {m:Bool} {sf:Sf} {st:St} {Q:Exit→Sf→St→Prop},aC P id m a sf st Q = runI P id m l (opsK x y (seqQ (aC P id m c) Q)) sf st
abbrev CN (a:AC) (r:Nat) (b c:AC):Prop:=∀ {P:Program} {m:Bool} {sf:Sf} {st:St} {Q:Exit→Sf→St→Prop},aC P id m a sf st Q = fo (.r r) (sf.ev id (.r r)) (aC P id m b) (aC P id m c) sf st Q
abbrev OP (a:AC) (l:List GI) (x y:List Nat):Prop:=∀ {P:Program} {m:Bool} {sf:Sf} {st:St} {Q:Exit→Sf→St→Prop},aC P id m a sf st Q = runI P id m l (opsK x y Q) sf st
abbrev BL (a b:AC) (k:Nat):Prop:=∀ {P:Program} {m:Bool} {sf:Sf} {st:St} {Q:Exit→Sf→St→Prop},aC P id m a sf st Q = aC P id m b sf st (e7 k Q)
abbrev KF:Lean.Meta.Simp.Config:={ implicitDefEqProofs:=false,maxSteps:=10000000 }
section
variable {P:Program} {F:Nat→FuncId} {m:Bool} {sf:Sf} {st:St} {Q:Exit→Sf→St→Prop} {a b:AC} {x:Opd} {k:Nat} {l t:List GI} {u v w:List Nat} {d:Option Nat} {xs:List Opd} {q:List (Bool×GI)}
theorem aA1:aC P F m (.seq a b) sf st Q = aC P F m a sf st (seqQ (aC P F m b) Q):=rfl
theorem aA2:aC P F m (.cond x a b) sf st Q = fo x (sf.ev F x) (aC P F m a) (aC P F m b) sf st Q:=rfl
theorem aA3:aC P F m (.ops u v l) sf st Q = runI P F m l (opsK u v Q) sf st:=rfl
theorem aA4:aC P F m (.block k a) sf st Q = aC P F m a sf st (e7 k Q):=rfl
theorem aA5:aC P F m (.scope a) sf st Q = aC P F m a sf st (scopeQ Q):=rfl
theorem aA6:aC P F m (.draw u v w l t) sf st Q = ap P F sf.locs st l (cZ P F m w u v t Q st) [] ⟨sf.regs,a8 w sf.locs⟩:=rfl
theorem aA7:aC P F m (.drawM u v l d x xs q t) sf st Q = (m = false∧drawM P F l d x xs q sf st (jE P F m u v t Q)):=rfl
end
theorem bZ:type_of% (And.intro (And.intro (And.intro (And.intro (And.intro (And.intro (@jI) (And.intro (@seqQ_ret) (@opsK_eq))) (And.intro (And.intro (@runI_nil) (@je)) (And.intro (@putP_eq) (@mask_eq)))) (And.intro (And.intro (@mc) (And.intro (@kR) (@wp_ok))) (And.intro (And.intro (@mT) (@gT)) (And.intro (@ev_r) (@ev_c))))) (And.intro (And.intro (And.intro (@o_mv) (And.intro (@o_bin) (@mW))) (And.intro (And.intro (@mX) (@setB_r)) (And.intro (@kS) (@aC_ret)))) (And.intro (And.intro (@aC_skip) (And.intro (@retQ_ret) (@noL_lit))) (And.intro (And.intro (@mZ) (@m2)) (And.intro (@List.map_cons.{0,0}) (@List.map_nil.{0,0})))))) (And.intro (And.intro (And.intro (And.intro (@Bool.true_and) (And.intro (@List.length_cons.{0}) (@List.length_nil.{0}))) (And.intro (And.intro (@Sf.set.eq_1) (@Sf.reg.eq_1)) (And.intro (@List.drop_zero.{0}) (@Nat.zero_add)))) (And.intro (And.intro (@Sf.disAt.eq_1) (And.intro (@List.set_cons_zero.{0}) (@Bool.and_true))) (And.intro (And.intro (@Int.cast_ofNat_Int) (@true_and)) (And.intro (@List.all_cons.{0}) (@List.set_cons_succ.{0}))))) (And.intro (And.intro (And.intro (@List.all_nil.{0}) (And.intro (@List.drop_succ_cons.{0}) (@getR.eq_1))) (And.intro (And.intro (@getR.eq_2) (@putS)) (And.intro (@setR.eq_1) (@setR.eq_2)))) (And.intro (And.intro (@decide_true) (And.intro (@List.getElem?_cons_zero.{0}) (@fO.eq_1))) (And.intro (And.intro (@fO.eq_2) (@List.take_succ_cons.{0})) (And.intro (@IntWalk.i64_in) (@Int.toNat_natCast))))))) (And.intro (And.intro (And.intro (And.intro (And.intro (@and_true) (And.intro (@kN) (@Bool.false_eq_true))) (And.intro (And.intro (@List.take_zero.{0}) (@List.getElem?_cons_succ.{0})) (And.intro (@o_own) (@Nat.add_zero)))) (And.intro (And.intro (@dis_sl) (And.intro (@kM) (@fR.eq_1))) (And.intro (And.intro (@Sf.setLoc.eq_1) (@bind_req)) (And.intro (@Int.toNat_zero) (@List.contains_nil.{0}))))) (And.intro (And.intro (And.intro (@o_load) (And.intro (@dX.eq_1) (@dX.eq_2))) (And.intro (And.intro (@req_tt) (@look.eq_1)) (And.intro (@look.eq_2) (@List.getD_cons_zero.{0})))) (And.intro (And.intro (@gE.eq_1) (And.intro (@gE.eq_2) (@Int.toNat_one))) (And.intro (And.intro (@solid_eq) (@List.length_map.{0,0})) (And.intro (@List.getD_cons_succ.{0}) (@mf)))))) (And.intro (And.intro (And.intro (And.intro (@Sf.newLoc.eq_1) (And.intro (@l9) (@ma))) (And.intro (And.intro (@boxX.eq_1) (@evOwn_r)) (And.intro (@decide_false) (@gF)))) (And.intro (And.intro (@disOp_r) (And.intro (@kV) (@req_dec))) (And.intro (And.intro (@o_len) (@o_addr)) (And.intro (@dis_agg) (@cd))))) (And.intro (And.intro (And.intro (@o_store) (And.intro (@ixA.eq_1) (@ixA.eq_2))) (And.intro (And.intro (@n_neq) (@ev_f)) (And.intro (@List.length_append.{0}) (@and_self)))) (And.intro (And.intro (And.intro (@and_pre) (@aA1)) (And.intro (@aA2) (@aA3))) (And.intro (And.intro (@aA4) (@aA5)) (And.intro (@aA6) (@aA7)))))))):=And.intro (And.intro (And.intro (And.intro (And.intro (And.intro (@jI) (And.intro (@seqQ_ret) (@opsK_eq))) (And.intro (And.intro (@runI_nil) (@je)) (And.intro (@putP_eq) (@mask_eq)))) (And.intro (And.intro (@mc) (And.intro (@kR) (@wp_ok))) (And.intro (And.intro (@mT) (@gT)) (And.intro (@ev_r) (@ev_c))))) (And.intro (And.intro (And.intro (@o_mv) (And.intro (@o_bin) (@mW))) (And.intro (And.intro (@mX) (@setB_r)) (And.intro (@kS) (@aC_ret)))) (And.intro (And.intro (@aC_skip) (And.intro (@retQ_ret) (@noL_lit))) (And.intro (And.intro (@mZ) (@m2)) (And.intro (@List.map_cons.{0,0}) (@List.map_nil.{0,0})))))) (And.intro (And.intro (And.intro (And.intro (@Bool.true_and) (And.intro (@List.length_cons.{0}) (@List.length_nil.{0}))) (And.intro (And.intro (@Sf.set.eq_1) (@Sf.reg.eq_1)) (And.intro (@List.drop_zero.{0}) (@Nat.zero_add)))) (And.intro (And.intro (@Sf.disAt.eq_1) (And.intro (@List.set_cons_zero.{0}) (@Bool.and_true))) (And.intro (And.intro (@Int.cast_ofNat_Int) (@true_and)) (And.intro (@List.all_cons.{0}) (@List.set_cons_succ.{0}))))) (And.intro (And.intro (And.intro (@List.all_nil.{0}) (And.intro (@List.drop_succ_cons.{0}) (@getR.eq_1))) (And.intro (And.intro (@getR.eq_2) (@putS)) (And.intro (@setR.eq_1) (@setR.eq_2)))) (And.intro (And.intro (@decide_true) (And.intro (@List.getElem?_cons_zero.{0}) (@fO.eq_1))) (And.intro (And.intro (@fO.eq_2) (@List.take_succ_cons.{0})) (And.intro (@IntWalk.i64_in) (@Int.toNat_natCast))))))) (And.intro (And.intro (And.intro (And.intro (And.intro (@and_true) (And.intro (@kN) (@Bool.false_eq_true))) (And.intro (And.intro (@List.take_zero.{0}) (@List.getElem?_cons_succ.{0})) (And.intro (@o_own) (@Nat.add_zero)))) (And.intro (And.intro (@dis_sl) (And.intro (@kM) (@fR.eq_1))) (And.intro (And.intro (@Sf.setLoc.eq_1) (@bind_req)) (And.intro (@Int.toNat_zero) (@List.contains_nil.{0}))))) (And.intro (And.intro (And.intro (@o_load) (And.intro (@dX.eq_1) (@dX.eq_2))) (And.intro (And.intro (@req_tt) (@look.eq_1)) (And.intro (@look.eq_2) (@List.getD_cons_zero.{0})))) (And.intro (And.intro (@gE.eq_1) (And.intro (@gE.eq_2) (@Int.toNat_one))) (And.intro (And.intro (@solid_eq) (@List.length_map.{0,0})) (And.intro (@List.getD_cons_succ.{0}) (@mf)))))) (And.intro (And.intro (And.intro (And.intro (@Sf.newLoc.eq_1) (And.intro (@l9) (@ma))) (And.intro (And.intro (@boxX.eq_1) (@evOwn_r)) (And.intro (@decide_false) (@gF)))) (And.intro (And.intro (@disOp_r) (And.intro (@kV) (@req_dec))) (And.intro (And.intro (@o_len) (@o_addr)) (And.intro (@dis_agg) (@cd))))) (And.intro (And.intro (And.intro (@o_store) (And.intro (@ixA.eq_1) (@ixA.eq_2))) (And.intro (And.intro (@n_neq) (@ev_f)) (And.intro (@List.length_append.{0}) (@and_self)))) (And.intro (And.intro (And.intro (@and_pre) (@aA1)) (And.intro (@aA2) (@aA3))) (And.intro (And.intro (@aA4) (@aA5)) (And.intro (@aA6) (@aA7)))))))
abbrev vv (d x:Nat):GI:=⟨none,.mv (some d) (.r x)⟩
abbrev vo (d x:Nat):GI:=⟨none,.own d x⟩
abbrev ve (d x k:Nat):GI:=⟨none,.ext (some d) (.r x) k⟩
abbrev vn (d x:Nat):GI:=⟨none,.nilck (some d) (.r x)⟩
abbrev vd (d x k:Nat):GI:=⟨none,.addr (some d) (.r x) k⟩
abbrev vl (d x:Nat):GI:=⟨none,.load (some d) (.r x) none⟩
abbrev vb (d:Nat) (o:BinOp) (x:Nat) (n:Int):GI:=⟨none,.bin (some d) .num o (.r x) (.c (.lit (.int .i64 n)))⟩
section
variable (P:Program) (m:Bool) (sf:Sf) (st:St) (Q:Exit→Sf→St→Prop)
def n_f12:Nat:=12
def x_f12:=xX 139 [0,2,3,4,5,6,7,8,9,11,12,14,15,16,17,18,20,21,22,23,24,25,27,28,30,33,34,36,38,41,42,43,44,46,47,49,51,53,55,58,59,60,61,62,63,64,65,67,68,70,72,74,75,77,79,81,83,85,88,89,91,92,93,94,95,96,97,98,99,100,101,102,103,104,106,107,108,109,110,111,112,113,114,115,116,117,118,119,120,121,123,124,125,126,127,128,129,130,131,132,133,134,135,136,138] [7,59,69] [(2,[0],[]),(12,[0,19],[]),(52,[2],[]),(14,[0,3],[]),(30,[0,3,4],[]),(62,[0,3,4,5],[]),(252,[0,3,4,5,6],[]),(506,[0,3,4,5,6],[]),(4048,[0,3,4,5,6,26],[]),(8099,[],[]),(32400,[0,3,4,5,6,35],[]),(129604,[2],[]),(64804,[0,3,4,5,6,41],[]),(259220,[0,3,4,5,6,41,52],[]),(1036884,[0,3,4,5,6,7],[]),(2073770,[0,3,4,5,6,7,8],[]),(8295084,[0,3,4,5,6,7,8,9],[]),(16590170,[0,3,4,5,6,7,8,9],[]),(132721360,[0,3,4,5,6,7,8,9,66],[]),(265442723,[0,3,4,5,6,8],[]),(265442724,[0,3,4,5,6,7,8,9],[]),(132721363,[0,3,4,5,6,7,8,9],[]),(8295086,[0,3,4,5,6,8,78],[]),(33180348,[0,3,4,5,6,80],[]),(132721396,[2],[]),(33180350,[0,3,4,5,6,82],[]),(132721404,[2],[]),(66360703,[0,3,4,5,6],[]),(1036886,[0,3,4,5,6,90],[]),(4147548,[0,3,4,5,6,10,11,12],[10]),(8295098,[0,3,4,5,6,10,11,12,13,14,15],[10,13]),(33180396,[0,3,4,5,6,10,11,12,13,14,15,105],[10,13]),(66360794,[0,3,4,6,10,11,12,13,14,15],[10,13]),(66360796,[0,3,4,6,14,15,122],[]),(265443188,[2],[]),(33180399,[0,3,4,5,6],[]),(4147550,[0,3,4,5,6,16],[]),(16590204,[0,3,4,5,6,16,45],[]),(66360820,[2],[]),(16590206,[0,3,4,5,6,16],[]),(33180414,[0,4,5,6,16],[]),(33180415,[0,3,4,5,6],[]),(64806,[0,3,4,5,6,137],[]),(259228,[2],[]),(4051,[0,3,4,5,6],[]),(254,[2],[])]
abbrev f12_2:AC:=.ops [0] [] [⟨none,.mv (some 2) (.c (.lit (.bool false)))⟩]
abbrev f12_5:AC:=.ops [0,19] [] [vv 17 0,⟨none,.len (some 18) .sl (.r 17)⟩,vb 19 .gtr 18 24]
abbrev f12_8:AC:=.ops [2] [] [⟨none,.call (some 20) false (.f 14) []⟩,vo 2 20]
abbrev f12_7:AC:=.seq f12_8 .ret
abbrev f12_6:AC:=.cond (.r 19) f12_7 .skip
abbrev f12_4:AC:=.seq f12_5 f12_6
abbrev f12_10:AC:=.ops [0,3] [] [⟨none,.bst (some 21) [(0,1),(1,1)] (.agg [(.lit (.slice none 0 0)),(.lit (.int .i64 0))]) []⟩,⟨none,.boxB 22 2 (.r 21)⟩,vo 3 22]
abbrev f12_12:AC:=.ops [0,3,4] [] [⟨none,.mv (some 4) (.c (.lit (.slice none 0 0)))⟩]
abbrev f12_14:AC:=.ops [0,3,4,5] [] [⟨none,.mv (some 5) (.c (.lit (.int .i64 0)))⟩]
abbrev f12_17:AC:=.ops [0,3,4,5,6] [] [⟨none,.mv (some 6) (.c (.lit (.int .i64 0)))⟩]
abbrev f12_22:AC:=.ops [0,3,4,5,6,26] [] [vv 23 6,vv 24 0,⟨none,.len (some 25) .sl (.r 24)⟩,⟨none,.bin (some 26) .num .lss (.r 23) (.r 25)⟩]
abbrev f12_23:AC:=.cond (.r 26) .skip (.exit [] [] 0)
abbrev f12_21:AC:=.seq f12_22 f12_23
abbrev f12_28:AC:=.ops [0,3,4,5,6,35] [] [vv 29 0,vv 30 6,⟨none,.ixS (some 31) (.r 29) (.r 30) 2⟩,vd 32 31 1,vl 33 32,⟨none,.len (some 34) .sl (.r 33)⟩,vb 35 .gtr 34 200]
abbrev f12_31:AC:=.ops [2] [] [⟨none,.call (some 36) false (.f 14) []⟩,vo 2 36]
abbrev f12_30:AC:=.seq f12_31 .ret
abbrev f12_29:AC:=.cond (.r 35) f12_30 .skip
abbrev f12_27:AC:=.seq f12_28 f12_29
abbrev f12_34:AC:=.ops [0,3,4,5,6,41] [] [vv 37 0,vv 38 6,⟨none,.ixS (some 39) (.r 37) (.r 38) 2⟩,vd 40 39 0,vl 41 40]
abbrev f12_37:AC:=.ops [0,3,4,5,6,41,52] [] [vb 53 .eql 41 0,vo 52 53]
abbrev f12_40:AC:=.ops [0,3,4,5,6,7] [] [vv 54 0,vv 55 6,⟨none,.ixS (some 56) (.r 54) (.r 55) 2⟩,vd 57 56 1,vl 58 57,⟨none,.x (some 59) (.appB (.c (.lit (.slice none 0 0))) 1 1 (.r 58))⟩,vo 7 59]
abbrev f12_42:AC:=.ops [0,3,4,5,6,7,8] [] [vv 60 3,vv 61 7,⟨none,.call (some 62) false (.f 38) [(.r 60),(.r 61)]⟩,vo 8 62]
abbrev f12_45:AC:=.ops [0,3,4,5,6,7,8,9] [] [⟨none,.mv (some 9) (.c (.lit (.int .i64 0)))⟩]
abbrev f12_50:AC:=.ops [0,3,4,5,6,7,8,9,66] [] [vv 63 9,vv 64 7,⟨none,.len (some 65) .sl (.r 64)⟩,⟨none,.bin (some 66) .num .lss (.r 63) (.r 65)⟩]
abbrev f12_51:AC:=.cond (.r 66) .skip (.exit [0,3,4,5,6,8] [] 3)
abbrev f12_49:AC:=.seq f12_50 f12_51
abbrev f12_54:AC:=.ops [0,3,4,5,6,7,8,9] [] [vv 69 7,vv 70 9,vv 71 7,vv 72 9,⟨none,.ixS (some 73) (.r 71) (.r 72) 1⟩,vl 74 73,⟨none,.un (some 75) .xor (.r 74)⟩,⟨none,.ixS (some 76) (.r 69) (.r 70) 1⟩,⟨none,.store 1 (.r 76) (.r 75)⟩]
abbrev f12_53:AC:=.block 4 f12_54
abbrev f12_55:AC:=.ops [0,3,4,5,6,7,8,9] [] [vv 67 9,vb 68 .add 67 1,vo 9 68]
abbrev f12_52:AC:=.seq f12_53 f12_55
abbrev f12_48:AC:=.seq f12_49 f12_52
def f12_47:AC:=.loop [0,3,4,5,6,7,8,9] [] f12_48
theorem f12_47w:aC P id m f12_47 sf st Q = br (aC P id m f12_48) [0,3,4,5,6,7,8,9] [] sf st Q:=rfl
abbrev f12_46:AC:=.block 3 f12_47
abbrev f12_44:AC:=.seq f12_45 f12_46
abbrev f12_57:AC:=.ops [0,3,4,5,6,8,78] [] [vv 77 5,vb 78 .neq 77 0]
abbrev f12_60:AC:=.ops [0,3,4,5,6,80] [] [vv 79 8,vb 80 .neq 79 8]
abbrev f12_63:AC:=.ops [2] [] [⟨none,.mv (some 2) (.c (.lit (.bool false)))⟩]
abbrev f12_62:AC:=.seq f12_63 .ret
abbrev f12_61:AC:=.cond (.r 80) f12_62 .skip
abbrev f12_59:AC:=.seq f12_60 f12_61
abbrev f12_65:AC:=.ops [0,3,4,5,6,82] [] [vv 81 8,vb 82 .neq 81 0]
abbrev f12_68:AC:=.ops [2] [] [⟨none,.mv (some 2) (.c (.lit (.bool false)))⟩]
abbrev f12_67:AC:=.seq f12_68 .ret
abbrev f12_69:AC:=.ops [0,3,4,5,6] [] [vo 83 4,vv 84 0,vv 85 6,⟨none,.ixS (some 86) (.r 84) (.r 85) 2⟩,vd 87 86 1,vl 88 87,⟨none,.appS 89 83 1 1 (.r 88)⟩,vo 4 89]
abbrev f12_66:AC:=.cond (.r 82) f12_67 f12_69
abbrev f12_64:AC:=.seq f12_65 f12_66
abbrev f12_58:AC:=.cond (.r 78) f12_59 f12_64
abbrev f12_56:AC:=.seq f12_57 f12_58
abbrev f12_43:AC:=.seq f12_44 f12_56
abbrev f12_41:AC:=.seq f12_42 f12_43
abbrev f12_39:AC:=.seq f12_40 f12_41
abbrev f12_71:AC:=.ops [0,3,4,5,6,90] [] [vb 91 .eql 41 1,vo 90 91]
abbrev f12_74:AC:=.ops [0,3,4,5,6,10,11,12] [10] [vv 93 3,⟨none,.call (some 94) false (.f 40) [(.r 93)]⟩,vv 92 94,ve 95 92 0,ve 96 92 1,ve 97 92 2,⟨none,.newL 10 [(.lit (.int .u8 0)),(.lit (.slice none 0 0))]⟩,⟨none,.store 2 (.r 10) (.r 95)⟩,vo 11 96,vo 12 97]
abbrev f12_76:AC:=.ops [0,3,4,5,6,10,11,12,13,14,15] [10,13] [vv 99 4,⟨none,.call (some 100) false (.f 42) [(.r 99)]⟩,vv 98 100,ve 101 98 0,ve 102 98 1,ve 103 98 2,⟨none,.newL 13 [(.lit (.int .u8 0)),(.lit (.slice none 0 0))]⟩,⟨none,.store 2 (.r 13) (.r 101)⟩,vo 14 102,vo 15 103]
abbrev f12_79:AC:=.ops [0,3,4,5,6,10,11,12,13,14,15,105] [10,13] [vv 104 5,vb 105 .neq 104 0]
abbrev f12_81:AC:=.ops [0,3,4,6,10,11,12,13,14,15] [10,13] [⟨none,.bst (some 106) [(0,1),(1,1)] (.agg [(.lit (.int .u8 0)),(.lit (.slice none 0 0))]) []⟩,vv 107 5,⟨none,.store 2 (.r 13) (.r 106)⟩,⟨none,.mv (some 14) (.c (.lit (.int .i64 0)))⟩,vo 15 107]
abbrev f12_80:AC:=.cond (.r 105) f12_81 .skip
abbrev f12_78:AC:=.seq f12_79 f12_80
abbrev f12_84:AC:=.ops [0,3,4,6,14,15,122] [] [⟨none,.load (some 108) (.r 10) (some 2)⟩,⟨none,.load (some 109) (.r 13) (some 2)⟩,⟨none,.call (some 110) false (.f 41) [(.r 108),(.r 109)]⟩,⟨none,.un (some 111) .not (.r 110)⟩,vv 112 111,⟨some (112,false),.mv (some 113) (.r 11)⟩,⟨some (112,false),.mv (some 114) (.r 14)⟩,⟨some (112,false),.bin (some 115) .num .gtr (.r 114) (.c (.lit (.int .i64 0)))⟩,⟨some (112,false),.bin (some 116) .bool .neq (.r 113) (.r 115)⟩,⟨none,.pick (some 117) (.r 112) (.c (.lit (.bool true))) (.r 116)⟩,vv 118 117,⟨some (118,false),.mv (some 119) (.r 12)⟩,⟨some (118,false),.mv (some 120) (.r 15)⟩,⟨some (118,false),.bin (some 121) .num .neq (.r 119) (.r 120)⟩,⟨none,.pick (some 122) (.r 118) (.c (.lit (.bool true))) (.r 121)⟩]
abbrev f12_87:AC:=.ops [2] [] [⟨none,.mv (some 2) (.c (.lit (.bool false)))⟩]
abbrev f12_86:AC:=.seq f12_87 .ret
abbrev f12_85:AC:=.cond (.r 122) f12_86 .skip
abbrev f12_83:AC:=.seq f12_84 f12_85
abbrev f12_88:AC:=.ops [0,3,4,5,6] [] [vo 123 4,vv 124 14,⟨none,.sliOwn 125 123 (.r 124) 1⟩,vv 126 15,vo 4 125,vo 5 126]
abbrev f12_82:AC:=.seq f12_83 f12_88
abbrev f12_77:AC:=.seq f12_78 f12_82
abbrev f12_75:AC:=.seq f12_76 f12_77
abbrev f12_73:AC:=.seq f12_74 f12_75
abbrev f12_90:AC:=.ops [0,3,4,5,6,16] [] [vv 42 3,⟨none,.call (some 43) false (.f 43) [(.r 42)]⟩,vo 16 43]
abbrev f12_93:AC:=.ops [0,3,4,5,6,16,45] [] [vv 44 16,⟨none,.bin (some 45) (.nil .ptr) .eql (.r 44) (.c (.lit (.pointer none)))⟩]
abbrev f12_96:AC:=.ops [2] [] [⟨none,.mv (some 2) (.c (.lit (.bool false)))⟩]
abbrev f12_95:AC:=.seq f12_96 .ret
abbrev f12_94:AC:=.cond (.r 45) f12_95 .skip
abbrev f12_92:AC:=.seq f12_93 f12_94
abbrev f12_98:AC:=.ops [0,3,4,5,6,16] [] [vv 46 3,⟨none,.bsl (some 47) 1 3 (.lit (.int .u8 0)) [(0,(.c (.lit (.int .u8 1)))),(1,(.c (.lit (.int .u8 2)))),(2,(.c (.lit (.int .u8 3))))]⟩,⟨none,.call (some 48) false (.f 38) [(.r 46),(.r 47)]⟩]
abbrev f12_100:AC:=.ops [0,4,5,6,16] [] [vv 49 3,⟨none,.call (some 50) false (.f 40) [(.r 49)]⟩]
abbrev f12_101:AC:=.ops [0,3,4,5,6] [] [vv 51 16,vo 3 51]
abbrev f12_99:AC:=.seq f12_100 f12_101
abbrev f12_97:AC:=.seq f12_98 f12_99
abbrev f12_91:AC:=.seq f12_92 f12_97
abbrev f12_89:AC:=.seq f12_90 f12_91
abbrev f12_72:AC:=.cond (.r 90) f12_73 f12_89
abbrev f12_70:AC:=.seq f12_71 f12_72
abbrev f12_38:AC:=.cond (.r 52) f12_39 f12_70
abbrev f12_36:AC:=.seq f12_37 f12_38
abbrev f12_35:AC:=.block 2 f12_36
def f12_33:AC:=.seq f12_34 f12_35
theorem f12_33e:SQ f12_33 f12_34 f12_35:=rfl
abbrev f12_103:AC:=.ops [0,3,4,5,6,137] [] [vv 127 3,⟨none,.call (some 128) false (.f 39) [(.r 127)]⟩,vv 129 4,⟨none,.len (some 130) .sl (.r 129)⟩,⟨none,.bin (some 131) .num .neq (.r 128) (.r 130)⟩,vv 132 131,⟨some (132,false),.mv (some 133) (.r 3)⟩,⟨some (132,false),.call (some 134) false (.f 44) [(.r 133)]⟩,⟨some (132,false),.mv (some 135) (.r 5)⟩,⟨some (132,false),.bin (some 136) .num .neq (.r 134) (.r 135)⟩,⟨none,.pick (some 137) (.r 132) (.c (.lit (.bool true))) (.r 136)⟩]
abbrev f12_106:AC:=.ops [2] [] [⟨none,.mv (some 2) (.c (.lit (.bool false)))⟩]
abbrev f12_105:AC:=.seq f12_106 .ret
abbrev f12_104:AC:=.cond (.r 137) f12_105 .skip
def f12_102:AC:=.seq f12_103 f12_104
theorem f12_102e:SQ f12_102 f12_103 f12_104:=rfl
abbrev f12_32:AC:=.seq f12_33 f12_102
abbrev f12_26:AC:=.seq f12_27 f12_32
abbrev f12_25:AC:=.block 1 f12_26
abbrev f12_107:AC:=.ops [0,3,4,5,6] [] [vv 27 6,vb 28 .add 27 1,vo 6 28]
abbrev f12_24:AC:=.seq f12_25 f12_107
abbrev f12_20:AC:=.seq f12_21 f12_24
def f12_19:AC:=.loop [0,3,4,5,6] [] f12_20
theorem f12_19w:aC P id m f12_19 sf st Q = br (aC P id m f12_20) [0,3,4,5,6] [] sf st Q:=rfl
abbrev f12_18:AC:=.block 0 f12_19
abbrev f12_16:AC:=.seq f12_17 f12_18
abbrev f12_109:AC:=.ops [2] [] [⟨none,.call (some 138) false (.f 14) []⟩,vo 2 138]
abbrev f12_108:AC:=.seq f12_109 .ret
abbrev f12_15:AC:=.seq f12_16 f12_108
abbrev f12_13:AC:=.seq f12_14 f12_15
abbrev f12_11:AC:=.seq f12_12 f12_13
abbrev f12_9:AC:=.seq f12_10 f12_11
abbrev f12_3:AC:=.seq f12_4 f12_9
abbrev f12_1:AC:=.seq f12_2 f12_3
def c_f12:AFun:=⟨139,[.tmp 2],f12_1⟩
theorem k_f12:kX x_f12 12 c_f12:=by delta kX; kernel_rfl
theorem e_f12:eX 12:=by delta eX; kernel_rfl

def n_f14:Nat:=14
def x_f14:=xX 104 [0,1,2,3,4,5,6,7,10,13,16,17,18,19,20,21,22,23,24,25,26,27,28,29,30,31,32,33,34,35,36,37,38,39,40,41,42,43,44,45,46,47,48,49,50,51,52,53,54,55,56,57,58,59,60,61,62,63,64,65,66,67,68,69,70,71,72,73,74,75,76,77,80,81,82,83,84,85,86,87,88,89,90,91,92,93,94,95,96,97,98,99,100,101,102,103] [] [(2,[],[]),(6,[1,2],[]),(14,[1,2,3,4],[]),(30,[1,2,3,4,5,6,7],[]),(62,[1,2,3,4,5,6,7,10],[]),(126,[1,2,3,4,5,6,7,10,13],[]),(254,[1,2,3,4,5,6,7,10,13,16],[]),(510,[0],[])]
abbrev f14_2:AC:=.ops [] [] [⟨none,.mv (some 0) (.c (.lit (.bool false)))⟩]
abbrev f14_4:AC:=.ops [1,2] [] [⟨none,.bst (some 18) [(0,1),(1,1)] (.agg [(.lit (.int .u8 0)),(.lit (.slice none 0 0))]) [(0,(.c (.lit (.int .u8 7))))]⟩,⟨none,.call (some 19) false (.f 20) [(.r 18)]⟩,vv 17 19,ve 20 17 0,ve 21 17 1,vo 1 20,vo 2 21]
abbrev f14_6:AC:=.ops [1,2,3,4] [] [⟨none,.bsl (some 23) 1 1 (.lit (.int .u8 0)) [(0,(.c (.lit (.int .u8 1))))]⟩,⟨none,.bst (some 24) [(0,1),(1,1)] (.agg [(.lit (.int .u8 0)),(.lit (.slice none 0 0))]) [(1,(.r 23))]⟩,⟨none,.call (some 25) false (.f 20) [(.r 24)]⟩,vv 22 25,ve 26 22 0,ve 27 22 1,vo 3 26,vo 4 27]
abbrev f14_8:AC:=.ops [1,2,3,4,5,6,7] [] [⟨none,.bsl (some 29) 1 7 (.lit (.int .u8 0)) [(0,(.c (.lit (.int .u8 197)))),(1,(.c (.lit (.int .u8 7)))),(2,(.c (.lit (.int .u8 0)))),(3,(.c (.lit (.int .u8 0)))),(4,(.c (.lit (.int .u8 142)))),(5,(.c (.lit (.int .u8 166)))),(6,(.c (.lit (.int .u8 197))))]⟩,⟨none,.call (some 30) false (.f 16) [(.r 29)]⟩,vv 28 30,ve 31 28 0,ve 32 28 1,ve 33 28 2,vo 5 31,vo 6 32,vo 7 33]
abbrev f14_10:AC:=.ops [1,2,3,4,5,6,7,10] [] [⟨none,.bsl (some 35) 1 1 (.lit (.int .u8 0)) [(0,(.c (.lit (.int .u8 7))))]⟩,⟨none,.call (some 36) false (.f 16) [(.r 35)]⟩,vv 34 36,ve 37 34 0,ve 38 34 1,ve 39 34 2,vo 8 37,vo 9 38,vo 10 39]
abbrev f14_12:AC:=.ops [1,2,3,4,5,6,7,10,13] [] [⟨none,.bsl (some 41) 1 4 (.lit (.int .u8 0)) [(0,(.c (.lit (.int .u8 197)))),(1,(.c (.lit (.int .u8 0)))),(2,(.c (.lit (.int .u8 4)))),(3,(.c (.lit (.int .u8 1))))]⟩,⟨none,.call (some 42) false (.f 16) [(.r 41)]⟩,vv 40 42,ve 43 40 0,ve 44 40 1,ve 45 40 2,vo 11 43,vo 12 44,vo 13 45]
abbrev f14_14:AC:=.ops [1,2,3,4,5,6,7,10,13,16] [] [⟨none,.bsl (some 47) 1 6 (.lit (.int .u8 0)) [(0,(.c (.lit (.int .u8 197)))),(1,(.c (.lit (.int .u8 7)))),(2,(.c (.lit (.int .u8 0)))),(3,(.c (.lit (.int .u8 0)))),(4,(.c (.lit (.int .u8 142)))),(5,(.c (.lit (.int .u8 165))))]⟩,⟨none,.call (some 48) false (.f 16) [(.r 47)]⟩,vv 46 48,ve 49 46 0,ve 50 46 1,ve 51 46 2,vo 14 49,vo 15 50,vo 16 51]
abbrev f14_16:AC:=.ops [0] [] [vv 52 1,⟨none,.conv (some 53) .bs (.r 52)⟩,⟨none,.bsl (some 54) 1 6 (.lit (.int .u8 0)) [(0,(.c (.lit (.int .u8 197)))),(1,(.c (.lit (.int .u8 7)))),(2,(.c (.lit (.int .u8 0)))),(3,(.c (.lit (.int .u8 0)))),(4,(.c (.lit (.int .u8 142)))),(5,(.c (.lit (.int .u8 166))))]⟩,⟨none,.conv (some 55) .bs (.r 54)⟩,⟨none,.bin (some 56) .num .eql (.r 53) (.r 55)⟩,vv 57 56,⟨some (57,true),.mv (some 58) (.r 2)⟩,⟨some (57,true),.bin (some 59) .num .eql (.r 58) (.c (.lit (.int .i64 0)))⟩,⟨none,.pick (some 60) (.r 57) (.r 59) (.c (.lit (.bool false)))⟩,vv 61 60,⟨some (61,true),.mv (some 62) (.r 3)⟩,⟨some (61,true),.conv (some 63) .bs (.r 62)⟩,⟨some (61,true),.bsl (some 64) 1 7 (.lit (.int .u8 0)) [(0,(.c (.lit (.int .u8 197)))),(1,(.c (.lit (.int .u8 0)))),(2,(.c (.lit (.int .u8 0)))),(3,(.c (.lit (.int .u8 1)))),(4,(.c (.lit (.int .u8 1)))),(5,(.c (.lit (.int .u8 24)))),(6,(.c (.lit (.int .u8 115))))]⟩,⟨some (61,true),.conv (some 65) .bs (.r 64)⟩,⟨some (61,true),.bin (some 66) .num .eql (.r 63) (.r 65)⟩,⟨none,.pick (some 67) (.r 61) (.r 66) (.c (.lit (.bool false)))⟩,vv 68 67,⟨some (68,true),.mv (some 69) (.r 4)⟩,⟨some (68,true),.bin (some 70) .num .eql (.r 69) (.c (.lit (.int .i64 0)))⟩,⟨none,.pick (some 71) (.r 68) (.r 70) (.c (.lit (.bool false)))⟩,vv 72 71,⟨some (72,true),.mv (some 73) (.r 5)⟩,⟨some (72,true),.len (some 74) .sl (.r 73)⟩,⟨some (72,true),.bin (some 75) .num .eql (.r 74) (.c (.lit (.int .i64 1)))⟩,⟨none,.pick (some 76) (.r 72) (.r 75) (.c (.lit (.bool false)))⟩,vv 77 76,⟨some (77,true),.mv (some 78) (.r 5)⟩,⟨some (77,true),.ixS (some 79) (.r 78) (.c (.lit (.int .i64 0))) 2⟩,⟨some (77,true),.load (some 80) (.r 79) (some 2)⟩,⟨some (77,true),.bst (some 81) [(0,1),(1,1)] (.agg [(.lit (.int .u8 0)),(.lit (.slice none 0 0))]) [(0,(.c (.lit (.int .u8 7))))]⟩,⟨some (77,true),.call (some 82) false (.f 41) [(.r 80),(.r 81)]⟩,⟨none,.pick (some 83) (.r 77) (.r 82) (.c (.lit (.bool false)))⟩,vv 84 83,⟨some (84,true),.mv (some 85) (.r 6)⟩,⟨some (84,true),.bin (some 86) .num .eql (.r 85) (.c (.lit (.int .i64 6)))⟩,⟨none,.pick (some 87) (.r 84) (.r 86) (.c (.lit (.bool false)))⟩,vv 88 87,⟨some (88,true),.mv (some 89) (.r 7)⟩,⟨some (88,true),.bin (some 90) .num .eql (.r 89) (.c (.lit (.int .i64 0)))⟩,⟨none,.pick (some 91) (.r 88) (.r 90) (.c (.lit (.bool false)))⟩,vv 92 91,⟨some (92,true),.mv (some 93) (.r 10)⟩,⟨some (92,true),.bin (some 94) .num .eql (.r 93) (.c (.lit (.int .i64 6)))⟩,⟨none,.pick (some 95) (.r 92) (.r 94) (.c (.lit (.bool false)))⟩,vv 96 95,⟨some (96,true),.mv (some 97) (.r 13)⟩,⟨some (96,true),.bin (some 98) .num .eql (.r 97) (.c (.lit (.int .i64 5)))⟩,⟨none,.pick (some 99) (.r 96) (.r 98) (.c (.lit (.bool false)))⟩,vv 100 99,⟨some (100,true),.mv (some 101) (.r 16)⟩,⟨some (100,true),.bin (some 102) .num .eql (.r 101) (.c (.lit (.int .i64 10)))⟩,⟨none,.pick (some 103) (.r 100) (.r 102) (.c (.lit (.bool false)))⟩,vo 0 103]
abbrev f14_15:AC:=.seq f14_16 .ret
abbrev f14_13:AC:=.seq f14_14 f14_15
abbrev f14_11:AC:=.seq f14_12 f14_13
abbrev f14_9:AC:=.seq f14_10 f14_11
abbrev f14_7:AC:=.seq f14_8 f14_9
abbrev f14_5:AC:=.seq f14_6 f14_7
abbrev f14_3:AC:=.seq f14_4 f14_5
abbrev f14_1:AC:=.seq f14_2 f14_3
def c_f14:AFun:=⟨104,[.tmp 0],f14_1⟩
theorem k_f14:kX x_f14 14 c_f14:=by delta kX; kernel_rfl
theorem e_f14:eX 14:=by delta eX; kernel_rfl

def n_f15:Nat:=15
def x_f15:=xX 59 [0,2,3,4,5,6,8,10,11,12,13,15,16,17,18,19,20,22,23,25,26,27,30,32,33,34,35,36,37,39,40,41,42,44,46,47,48,49,50,51,52,53,54,55,56,57,58] [] [(2,[1],[1]),(6,[1,3],[1]),(28,[1,3,4],[1]),(58,[1,3,4],[1]),(464,[1,3,4,24],[1]),(931,[3],[]),(932,[1,3,4],[1]),(467,[1,3,4],[1]),(30,[3,5],[]),(124,[3,5,6],[]),(250,[3,5,6],[]),(2000,[3,5,6,38],[]),(4003,[3,5],[]),(4004,[3,5,6],[]),(2003,[3,5,6],[]),(126,[2],[])]
abbrev f15_2:AC:=.ops [1] [1] [⟨none,.boxL 1 2 (.r 0)⟩,⟨none,.mv (some 2) (.c (.lit (.slice none 0 0)))⟩]
abbrev f15_4:AC:=.ops [1,3] [1] [vd 7 1 0,vl 8 7,vd 9 1 1,vl 10 9,⟨none,.len (some 11) .sl (.r 10)⟩,vb 12 .quo 11 256,⟨none,.conv (some 13) (.int .u8) (.r 12)⟩,vd 14 1 1,vl 15 14,⟨none,.len (some 16) .sl (.r 15)⟩,vb 17 .rem 16 256,⟨none,.conv (some 18) (.int .u8) (.r 17)⟩,⟨none,.bsl (some 19) 1 4 (.lit (.int .u8 0)) [(0,(.c (.lit (.int .u8 197)))),(1,(.r 8)),(2,(.r 13)),(3,(.r 18))]⟩,vo 3 19]
abbrev f15_7:AC:=.ops [1,3,4] [1] [⟨none,.mv (some 4) (.c (.lit (.int .i64 0)))⟩]
abbrev f15_12:AC:=.ops [1,3,4,24] [1] [vv 20 4,vd 21 1 1,vl 22 21,⟨none,.len (some 23) .sl (.r 22)⟩,⟨none,.bin (some 24) .num .lss (.r 20) (.r 23)⟩]
abbrev f15_13:AC:=.cond (.r 24) .skip (.exit [3] [] 0)
abbrev f15_11:AC:=.seq f15_12 f15_13
abbrev f15_16:AC:=.ops [1,3,4] [1] [vo 27 3,vd 28 1 1,vl 29 28,vv 30 4,⟨none,.ixS (some 31) (.r 29) (.r 30) 1⟩,vl 32 31,⟨none,.bsl (some 33) 1 1 (.lit (.int .u8 0)) [(0,(.r 32))]⟩,⟨none,.appS 34 27 1 1 (.r 33)⟩,vo 3 34]
abbrev f15_15:AC:=.block 1 f15_16
abbrev f15_17:AC:=.ops [1,3,4] [1] [vv 25 4,vb 26 .add 25 1,vo 4 26]
abbrev f15_14:AC:=.seq f15_15 f15_17
abbrev f15_10:AC:=.seq f15_11 f15_14
def f15_9:AC:=.loop [1,3,4] [1] f15_10
theorem f15_9w:aC P id m f15_9 sf st Q = br (aC P id m f15_10) [1,3,4] [1] sf st Q:=rfl
abbrev f15_8:AC:=.block 0 f15_9
abbrev f15_6:AC:=.seq f15_7 f15_8
abbrev f15_19:AC:=.ops [3,5] [] [⟨none,.mv (some 5) (.c (.lit (.int .i64 1)))⟩]
abbrev f15_22:AC:=.ops [3,5,6] [] [⟨none,.mv (some 6) (.c (.lit (.int .i64 1)))⟩]
abbrev f15_27:AC:=.ops [3,5,6,38] [] [vv 35 6,vv 36 3,⟨none,.len (some 37) .sl (.r 36)⟩,⟨none,.bin (some 38) .num .lss (.r 35) (.r 37)⟩]
abbrev f15_28:AC:=.cond (.r 38) .skip (.exit [3,5] [] 2)
abbrev f15_26:AC:=.seq f15_27 f15_28
abbrev f15_31:AC:=.ops [3,5,6] [] [vv 41 5,vb 42 .mul 41 31,vv 43 3,vv 44 6,⟨none,.ixS (some 45) (.r 43) (.r 44) 1⟩,vl 46 45,⟨none,.conv (some 47) (.int .i64) (.r 46)⟩,⟨none,.bin (some 48) .num .add (.r 42) (.r 47)⟩,vb 49 .rem 48 65521,vo 5 49]
abbrev f15_30:AC:=.block 3 f15_31
abbrev f15_32:AC:=.ops [3,5,6] [] [vv 39 6,vb 40 .add 39 1,vo 6 40]
abbrev f15_29:AC:=.seq f15_30 f15_32
abbrev f15_25:AC:=.seq f15_26 f15_29
def f15_24:AC:=.loop [3,5,6] [] f15_25
theorem f15_24w:aC P id m f15_24 sf st Q = br (aC P id m f15_25) [3,5,6] [] sf st Q:=rfl
abbrev f15_23:AC:=.block 2 f15_24
abbrev f15_21:AC:=.seq f15_22 f15_23
abbrev f15_34:AC:=.ops [2] [] [vo 50 3,vv 51 5,vb 52 .quo 51 256,⟨none,.conv (some 53) (.int .u8) (.r 52)⟩,vv 54 5,vb 55 .rem 54 256,⟨none,.conv (some 56) (.int .u8) (.r 55)⟩,⟨none,.bsl (some 57) 1 2 (.lit (.int .u8 0)) [(0,(.r 53)),(1,(.r 56))]⟩,⟨none,.appS 58 50 1 1 (.r 57)⟩,vo 2 58]
abbrev f15_33:AC:=.seq f15_34 .ret
abbrev f15_20:AC:=.seq f15_21 f15_33
abbrev f15_18:AC:=.seq f15_19 f15_20
abbrev f15_5:AC:=.seq f15_6 f15_18
abbrev f15_3:AC:=.seq f15_4 f15_5
abbrev f15_1:AC:=.seq f15_2 f15_3
def c_f15:AFun:=⟨59,[.tmp 2],f15_1⟩
theorem k_f15:kX x_f15 15 c_f15:=by delta kX; kernel_rfl
theorem e_f15:eX 15:=by delta eX; kernel_rfl

def n_f16:Nat:=16
def x_f16:=xX 33 [0,2,3,4,6,7,8,9,10,11,12,13,14,15,17,18,19,20,22,23,24,25,26,27,28,29,30,31,32] [] [(2,[0,2,3],[]),(6,[0,2,3],[]),(48,[0,2,3,5,6,7],[5]),(392,[0,2,3,5,6,7,16],[5]),(1572,[2,3,4],[]),(1574,[0,2,3,5,6,21],[5]),(6300,[2,3,4],[]),(99,[0,2,3],[])]
abbrev f16_2:AC:=.ops [0,2,3] [] [⟨none,.mv (some 2) (.c (.lit (.slice none 0 0)))⟩,⟨none,.mv (some 3) (.c (.lit (.int .i64 0)))⟩,⟨none,.mv (some 4) (.c (.lit (.int .i64 0)))⟩]
abbrev f16_7:AC:=.ops [0,2,3,5,6,7] [5] [vv 9 0,vv 10 3,⟨none,.sliOwn 11 9 (.r 10) 1⟩,⟨none,.call (some 12) false (.f 45) [(.r 11)]⟩,vv 8 12,ve 13 8 0,ve 14 8 1,ve 15 8 2,⟨none,.newL 5 [(.lit (.int .u8 0)),(.lit (.slice none 0 0))]⟩,⟨none,.store 2 (.r 5) (.r 13)⟩,vo 6 14,vo 7 15]
abbrev f16_11:AC:=.ops [0,2,3,5,6,7,16] [5] [vv 17 7,vb 18 .neq 17 0,vo 16 18]
abbrev f16_14:AC:=.ops [2,3,4] [] [vv 19 3,vv 20 7,⟨none,.mv (some 2) (.c (.lit (.slice none 0 0)))⟩,vo 3 19,vo 4 20]
abbrev f16_13:AC:=.seq f16_14 .ret
abbrev f16_16:AC:=.ops [0,2,3,5,6,21] [5] [vv 22 6,vb 23 .eql 22 0,vo 21 23]
abbrev f16_19:AC:=.ops [2,3,4] [] [vv 24 2,vv 25 3,vo 2 24,vo 3 25,⟨none,.mv (some 4) (.c (.lit (.int .i64 0)))⟩]
abbrev f16_18:AC:=.seq f16_19 .ret
abbrev f16_17:AC:=.cond (.r 21) f16_18 .skip
abbrev f16_15:AC:=.seq f16_16 f16_17
abbrev f16_12:AC:=.cond (.r 16) f16_13 f16_15
abbrev f16_10:AC:=.seq f16_11 f16_12
abbrev f16_9:AC:=.block 2 f16_10
abbrev f16_20:AC:=.ops [0,2,3] [] [vo 26 2,⟨none,.load (some 27) (.r 5) (some 2)⟩,⟨none,.bsl (some 28) 2 1 (.agg [(.lit (.int .u8 0)),(.lit (.slice none 0 0))]) [(0,(.r 27))]⟩,⟨none,.appS 29 26 2 32 (.r 28)⟩,vv 30 3,vv 31 6,⟨none,.bin (some 32) .num .add (.r 30) (.r 31)⟩,vo 2 29,vo 3 32]
abbrev f16_8:AC:=.seq f16_9 f16_20
abbrev f16_6:AC:=.seq f16_7 f16_8
abbrev f16_5:AC:=.block 1 f16_6
def f16_4:AC:=.loop [0,2,3] [] f16_5
theorem f16_4w:aC P id m f16_4 sf st Q = br (aC P id m f16_5) [0,2,3] [] sf st Q:=rfl
abbrev f16_3:AC:=.block 0 f16_4
abbrev f16_1:AC:=.seq f16_2 f16_3
def c_f16:AFun:=⟨33,[.tmp 2,.tmp 3,.tmp 4],f16_1⟩
theorem k_f16:kX x_f16 16 c_f16:=by delta kX; kernel_rfl
theorem e_f16:eX 16:=by delta eX; kernel_rfl

def n_f20:Nat:=20
def x_f20:=xX 27 [0,2,3,4,6,7,10,11,13,14,15,17,18,19,20,21,22,23,24,25,26] [] [(2,[1],[1]),(12,[1,8],[1]),(52,[2,3],[]),(14,[4],[]),(30,[2,3],[])]
abbrev f20_2:AC:=.ops [1] [1] [⟨none,.boxL 1 2 (.r 0)⟩,⟨none,.mv (some 2) (.c (.lit (.slice none 0 0)))⟩,⟨none,.mv (some 3) (.c (.lit (.int .i64 0)))⟩]
abbrev f20_5:AC:=.ops [1,8] [1] [vd 5 1 1,vl 6 5,⟨none,.len (some 7) .sl (.r 6)⟩,vb 8 .gtr 7 1024]
abbrev f20_8:AC:=.ops [2,3] [] [⟨none,.mv (some 2) (.c (.lit (.slice none 0 0)))⟩,⟨none,.mv (some 3) (.c (.lit (.int .i64 5)))⟩]
abbrev f20_7:AC:=.seq f20_8 .ret
abbrev f20_6:AC:=.cond (.r 8) f20_7 .skip
abbrev f20_4:AC:=.seq f20_5 f20_6
abbrev f20_10:AC:=.draw [4] [] [] [vd 9 1 0,vl 10 9,⟨none,.bsl (some 11) 1 1 (.lit (.int .u8 0)) [(0,(.r 10))]⟩,vd 12 1 1,vl 13 12,⟨none,.len (some 14) .sl (.r 13)⟩,⟨none,.call (some 15) true (.f 47) [(.r 14)]⟩,vd 16 1 1,vl 17 16] [⟨none,.bsl (some 18) 1 3 (.lit (.slice none 0 0)) [(0,(.r 11)),(1,(.r 15)),(2,(.r 17))]⟩,⟨none,.call (some 19) false (.f 46) [(.r 18)]⟩,vo 4 19]
abbrev f20_12:AC:=.ops [2,3] [] [⟨none,.bsl (some 20) 1 1 (.lit (.int .u8 0)) [(0,(.c (.lit (.int .u8 197))))]⟩,vv 21 4,vv 22 4,⟨none,.call (some 23) false (.f 48) [(.r 22)]⟩,⟨none,.call (some 24) false (.f 47) [(.r 23)]⟩,⟨none,.bsl (some 25) 1 3 (.lit (.slice none 0 0)) [(0,(.r 20)),(1,(.r 21)),(2,(.r 24))]⟩,⟨none,.call (some 26) false (.f 46) [(.r 25)]⟩,vo 2 26,⟨none,.mv (some 3) (.c (.lit (.int .i64 0)))⟩]
abbrev f20_11:AC:=.seq f20_12 .ret
abbrev f20_9:AC:=.seq f20_10 f20_11
abbrev f20_3:AC:=.seq f20_4 f20_9
abbrev f20_1:AC:=.seq f20_2 f20_3
def c_f20:AFun:=⟨27,[.tmp 2,.tmp 3],f20_1⟩
theorem k_f20:kX x_f20 20 c_f20:=by delta kX; kernel_rfl
theorem e_f20:eX 20:=by delta eX; kernel_rfl

def n_f38:Nat:=38
def x_f38:=xX 33 [0,1,4,6,7,12,13,15,16,20,21,22,23,28,29,30] [] [(2,[0,1],[]),(24,[0,1,5],[]),(100,[4],[]),(102,[0,1,8],[]),(412,[4],[]),(414,[0,1,14],[]),(1660,[4],[]),(14,[],[]),(30,[4],[])]
abbrev f38_2:AC:=.ops [0,1] [] [⟨none,.mv (some 4) (.c (.lit (.int .i64 0)))⟩]
abbrev f38_6:AC:=.ops [0,1,5] [] [vv 6 0,⟨none,.bin (some 7) (.nil .ptr) .eql (.r 6) (.c (.lit (.pointer none)))⟩,vo 5 7]
abbrev f38_9:AC:=.ops [4] [] [⟨none,.mv (some 4) (.c (.lit (.int .i64 1)))⟩]
abbrev f38_8:AC:=.seq f38_9 .ret
abbrev f38_11:AC:=.ops [0,1,8] [] [vv 9 0,vn 10 9,vd 11 10 1,vl 12 11,vb 13 .neq 12 0,vo 8 13]
abbrev f38_14:AC:=.ops [4] [] [⟨none,.mv (some 4) (.c (.lit (.int .i64 8)))⟩]
abbrev f38_13:AC:=.seq f38_14 .ret
abbrev f38_16:AC:=.ops [0,1,14] [] [vv 15 1,⟨none,.len (some 16) .sl (.r 15)⟩,vv 17 0,vn 18 17,vd 19 18 0,vl 20 19,⟨none,.len (some 21) .sl (.r 20)⟩,⟨none,.bin (some 22) .num .sub (.c (.lit (.int .i64 65536))) (.r 21)⟩,⟨none,.bin (some 23) .num .gtr (.r 16) (.r 22)⟩,vo 14 23]
abbrev f38_19:AC:=.ops [4] [] [⟨none,.mv (some 4) (.c (.lit (.int .i64 7)))⟩]
abbrev f38_18:AC:=.seq f38_19 .ret
abbrev f38_17:AC:=.cond (.r 14) f38_18 .skip
abbrev f38_15:AC:=.seq f38_16 f38_17
abbrev f38_12:AC:=.cond (.r 8) f38_13 f38_15
abbrev f38_10:AC:=.seq f38_11 f38_12
abbrev f38_7:AC:=.cond (.r 5) f38_8 f38_10
abbrev f38_5:AC:=.seq f38_6 f38_7
abbrev f38_4:AC:=.block 0 f38_5
abbrev f38_21:AC:=.ops [] [] [vv 24 0,vv 25 0,vn 26 25,vd 27 26 0,⟨none,.loadOwn 28 (.r 27)⟩,vv 29 1,⟨none,.appS 30 28 1 1 (.r 29)⟩,vn 31 24,vd 32 31 0,⟨none,.store 1 (.r 32) (.r 30)⟩]
abbrev f38_23:AC:=.ops [4] [] [⟨none,.mv (some 4) (.c (.lit (.int .i64 0)))⟩]
abbrev f38_22:AC:=.seq f38_23 .ret
abbrev f38_20:AC:=.seq f38_21 f38_22
abbrev f38_3:AC:=.seq f38_4 f38_20
abbrev f38_1:AC:=.seq f38_2 f38_3
def c_f38:AFun:=⟨33,[.tmp 4],f38_1⟩
theorem k_f38:kX x_f38 38 c_f38:=by delta kX; kernel_rfl
theorem e_f38:eX 38:=by delta eX; kernel_rfl

def n_f39:Nat:=39
def x_f39:=xX 10 [0,2,3,8,9] [] [(2,[0],[]),(12,[0,4],[]),(52,[2],[]),(14,[2],[])]
abbrev f39_2:AC:=.ops [0] [] [⟨none,.mv (some 2) (.c (.lit (.int .i64 0)))⟩]
abbrev f39_5:AC:=.ops [0,4] [] [vv 3 0,⟨none,.bin (some 4) (.nil .ptr) .eql (.r 3) (.c (.lit (.pointer none)))⟩]
abbrev f39_8:AC:=.ops [2] [] [⟨none,.mv (some 2) (.c (.lit (.int .i64 0)))⟩]
abbrev f39_7:AC:=.seq f39_8 .ret
abbrev f39_6:AC:=.cond (.r 4) f39_7 .skip
abbrev f39_4:AC:=.seq f39_5 f39_6
abbrev f39_10:AC:=.ops [2] [] [vv 5 0,vn 6 5,vd 7 6 0,vl 8 7,⟨none,.len (some 9) .sl (.r 8)⟩,vo 2 9]
abbrev f39_9:AC:=.seq f39_10 .ret
abbrev f39_3:AC:=.seq f39_4 f39_9
abbrev f39_1:AC:=.seq f39_2 f39_3
def c_f39:AFun:=⟨10,[.tmp 2],f39_1⟩
theorem k_f39:kX x_f39 39 c_f39:=by delta kX; kernel_rfl
theorem e_f39:eX 39:=by delta eX; kernel_rfl

def n_f40:Nat:=40
def x_f40:=xX 50 [0,3,4,5,7,8,9,14,15,16,20,21,25,26,27,28,29,30,33,36,37,42,43,44,47,48,49] [] [(2,[0,2],[2]),(24,[0,2,6],[2]),(100,[2,3,4],[2]),(102,[0,2,10],[2]),(412,[2,3,4],[2]),(14,[0,2,4,5],[2]),(60,[0,2,4,5,31],[2]),(244,[2,4],[2]),(490,[2,3,4],[2]),(62,[2,5],[2]),(126,[2,3,4],[2])]
abbrev f40_2:AC:=.ops [0,2] [2] [⟨none,.newL 2 [(.lit (.int .u8 0)),(.lit (.slice none 0 0))]⟩,⟨none,.mv (some 3) (.c (.lit (.bool false)))⟩,⟨none,.mv (some 4) (.c (.lit (.int .i64 0)))⟩]
abbrev f40_6:AC:=.ops [0,2,6] [2] [vv 7 0,⟨none,.bin (some 8) (.nil .ptr) .eql (.r 7) (.c (.lit (.pointer none)))⟩,vo 6 8]
abbrev f40_9:AC:=.ops [2,3,4] [2] [⟨none,.load (some 9) (.r 2) (some 2)⟩,⟨none,.store 2 (.r 2) (.r 9)⟩,⟨none,.mv (some 3) (.c (.lit (.bool false)))⟩,⟨none,.mv (some 4) (.c (.lit (.int .i64 1)))⟩]
abbrev f40_8:AC:=.seq f40_9 .ret
abbrev f40_11:AC:=.ops [0,2,10] [2] [vv 11 0,vn 12 11,vd 13 12 1,vl 14 13,vb 15 .neq 14 0,vo 10 15]
abbrev f40_14:AC:=.draw [2,3,4] [2] [2] [⟨none,.x (some 16) (.ldF (.r 2) (some 2))⟩,vv 17 0,vn 18 17,vd 19 18 1,vl 20 19,⟨none,.store 2 (.r 2) (.r 16)⟩,⟨none,.mv (some 3) (.c (.lit (.bool false)))⟩] [vo 4 20]
abbrev f40_13:AC:=.seq f40_14 .ret
abbrev f40_12:AC:=.cond (.r 10) f40_13 .skip
abbrev f40_10:AC:=.seq f40_11 f40_12
abbrev f40_7:AC:=.cond (.r 6) f40_8 f40_10
abbrev f40_5:AC:=.seq f40_6 f40_7
abbrev f40_4:AC:=.block 0 f40_5
abbrev f40_16:AC:=.ops [0,2,4,5] [2] [vv 22 0,vn 23 22,vd 24 23 0,vl 25 24,⟨none,.call (some 26) false (.f 45) [(.r 25)]⟩,vv 21 26,ve 27 21 0,ve 28 21 1,ve 29 21 2,⟨none,.store 2 (.r 2) (.r 27)⟩,vo 5 28,vo 4 29]
abbrev f40_19:AC:=.ops [0,2,4,5,31] [2] [vv 30 4,vb 31 .neq 30 0]
abbrev f40_22:AC:=.ops [2,4] [2] [vv 32 0,vv 33 4,vn 34 32,vd 35 34 1,⟨none,.store 1 (.r 35) (.r 33)⟩]
abbrev f40_24:AC:=.ops [2,3,4] [2] [⟨none,.bst (some 36) [(0,1),(1,1)] (.agg [(.lit (.int .u8 0)),(.lit (.slice none 0 0))]) []⟩,vv 37 4,⟨none,.store 2 (.r 2) (.r 36)⟩,⟨none,.mv (some 3) (.c (.lit (.bool false)))⟩,vo 4 37]
abbrev f40_23:AC:=.seq f40_24 .ret
abbrev f40_21:AC:=.seq f40_22 f40_23
abbrev f40_20:AC:=.cond (.r 31) f40_21 .skip
abbrev f40_18:AC:=.seq f40_19 f40_20
abbrev f40_26:AC:=.ops [2,5] [2] [vv 38 0,vv 39 0,vn 40 39,vd 41 40 0,⟨none,.loadOwn 42 (.r 41)⟩,vv 43 5,⟨none,.sliOwn 44 42 (.r 43) 1⟩,vn 45 38,vd 46 45 0,⟨none,.store 1 (.r 46) (.r 44)⟩]
abbrev f40_28:AC:=.ops [2,3,4] [2] [⟨none,.load (some 47) (.r 2) (some 2)⟩,vv 48 5,vb 49 .gtr 48 0,⟨none,.store 2 (.r 2) (.r 47)⟩,vo 3 49,⟨none,.mv (some 4) (.c (.lit (.int .i64 0)))⟩]
abbrev f40_27:AC:=.seq f40_28 .ret
abbrev f40_25:AC:=.seq f40_26 f40_27
abbrev f40_17:AC:=.seq f40_18 f40_25
abbrev f40_15:AC:=.seq f40_16 f40_17
abbrev f40_3:AC:=.seq f40_4 f40_15
abbrev f40_1:AC:=.seq f40_2 f40_3
def c_f40:AFun:=⟨50,[.cell 2 (some 2),.tmp 3,.tmp 4],f40_1⟩
theorem k_f40:kX x_f40 40 c_f40:=by delta kX; kernel_rfl
theorem e_f40:eX 40:=by delta eX; kernel_rfl

def n_f41:Nat:=41
def x_f41:=xX 19 [0,1,4,6,8,9,10,12,13,15,16,17,18] [] [(2,[2,3],[2,3]),(6,[4],[])]
abbrev f41_2:AC:=.ops [2,3] [2,3] [⟨none,.boxL 2 2 (.r 0)⟩,⟨none,.boxL 3 2 (.r 1)⟩,⟨none,.mv (some 4) (.c (.lit (.bool false)))⟩]
abbrev f41_4:AC:=.ops [4] [] [vd 5 2 0,vl 6 5,vd 7 3 0,vl 8 7,⟨none,.bin (some 9) .num .eql (.r 6) (.r 8)⟩,vv 10 9,⟨some (10,true),.addr (some 11) (.r 2) 1⟩,⟨some (10,true),.load (some 12) (.r 11) none⟩,⟨some (10,true),.conv (some 13) .bs (.r 12)⟩,⟨some (10,true),.addr (some 14) (.r 3) 1⟩,⟨some (10,true),.load (some 15) (.r 14) none⟩,⟨some (10,true),.conv (some 16) .bs (.r 15)⟩,⟨some (10,true),.bin (some 17) .num .eql (.r 13) (.r 16)⟩,⟨none,.pick (some 18) (.r 10) (.r 17) (.c (.lit (.bool false)))⟩,vo 4 18]
abbrev f41_3:AC:=.seq f41_4 .ret
abbrev f41_1:AC:=.seq f41_2 f41_3
def c_f41:AFun:=⟨19,[.tmp 4],f41_1⟩
theorem k_f41:kX x_f41 41 c_f41:=by delta kX; kernel_rfl
theorem e_f41:eX 41:=by delta eX; kernel_rfl

def n_f42:Nat:=42
def x_f42:=xX 73 [0,3,4,5,7,8,9,10,11,14,15,17,18,19,21,24,25,26,29,30,31,32,34,35,36,37,38,40,43,44,45,46,48,49,51,53,54,56,57,58,60,61,62,63,64,65,66,67,69,70,71,72] [58] [(2,[0,2],[2]),(12,[0,2,16],[2]),(52,[2,3,4],[2]),(28,[0,2,20],[2]),(116,[2,3,4],[2]),(30,[0,2,5],[2]),(124,[0,2,5,33],[2]),(500,[2,3,4],[2]),(252,[0,2,5,39],[2]),(1012,[2,3,4],[2]),(254,[0,2,5,6],[2,6]),(1020,[0,2,5,6,7],[2,6]),(2042,[0,2,5,6,7],[2,6]),(16336,[0,2,5,6,7,47],[2,6]),(32675,[0,2,5,6],[2,6]),(32676,[0,2,5,6,7],[2,6]),(16339,[0,2,5,6,7],[2,6]),(2044,[2,5,6,68],[2,6]),(8180,[2,3,4],[2]),(2046,[2,3,4],[2])]
abbrev f42_2:AC:=.ops [0,2] [2] [⟨none,.newL 2 [(.lit (.int .u8 0)),(.lit (.slice none 0 0))]⟩,⟨none,.mv (some 3) (.c (.lit (.int .i64 0)))⟩,⟨none,.mv (some 4) (.c (.lit (.int .i64 0)))⟩]
abbrev f42_5:AC:=.ops [0,2,16] [2] [vv 8 0,⟨none,.len (some 9) .sl (.r 8)⟩,vb 10 .gtr 9 0,vv 11 10,⟨some (11,true),.mv (some 12) (.r 0)⟩,⟨some (11,true),.ixS (some 13) (.r 12) (.c (.lit (.int .i64 0))) 1⟩,⟨some (11,true),.load (some 14) (.r 13) none⟩,⟨some (11,true),.bin (some 15) .num .neq (.r 14) (.c (.lit (.int .u8 197)))⟩,⟨none,.pick (some 16) (.r 11) (.r 15) (.c (.lit (.bool false)))⟩]
abbrev f42_8:AC:=.ops [2,3,4] [2] [⟨none,.bst (some 17) [(0,1),(1,1)] (.agg [(.lit (.int .u8 0)),(.lit (.slice none 0 0))]) []⟩,⟨none,.store 2 (.r 2) (.r 17)⟩,⟨none,.mv (some 3) (.c (.lit (.int .i64 0)))⟩,⟨none,.mv (some 4) (.c (.lit (.int .i64 6)))⟩]
abbrev f42_7:AC:=.seq f42_8 .ret
abbrev f42_6:AC:=.cond (.r 16) f42_7 .skip
abbrev f42_4:AC:=.seq f42_5 f42_6
abbrev f42_11:AC:=.ops [0,2,20] [2] [vv 18 0,⟨none,.len (some 19) .sl (.r 18)⟩,vb 20 .lss 19 4]
abbrev f42_14:AC:=.ops [2,3,4] [2] [⟨none,.bst (some 21) [(0,1),(1,1)] (.agg [(.lit (.int .u8 0)),(.lit (.slice none 0 0))]) []⟩,⟨none,.store 2 (.r 2) (.r 21)⟩,⟨none,.mv (some 3) (.c (.lit (.int .i64 0)))⟩,⟨none,.mv (some 4) (.c (.lit (.int .i64 0)))⟩]
abbrev f42_13:AC:=.seq f42_14 .ret
abbrev f42_12:AC:=.cond (.r 20) f42_13 .skip
abbrev f42_10:AC:=.seq f42_11 f42_12
abbrev f42_16:AC:=.draw [0,2,5] [2] [] [vv 22 0,⟨none,.ixS (some 23) (.r 22) (.c (.lit (.int .i64 2))) 1⟩,vl 24 23,⟨none,.conv (some 25) (.int .i64) (.r 24)⟩,⟨none,.bin (some 26) .num .mul (.c (.lit (.int .i64 256))) (.r 25)⟩,vv 27 0,⟨none,.ixS (some 28) (.r 27) (.c (.lit (.int .i64 3))) 1⟩,vl 29 28,⟨none,.conv (some 30) (.int .i64) (.r 29)⟩] [⟨none,.bin (some 31) .num .add (.r 26) (.r 30)⟩,vo 5 31]
abbrev f42_19:AC:=.ops [0,2,5,33] [2] [vv 32 5,vb 33 .gtr 32 1024]
abbrev f42_22:AC:=.ops [2,3,4] [2] [⟨none,.bst (some 34) [(0,1),(1,1)] (.agg [(.lit (.int .u8 0)),(.lit (.slice none 0 0))]) []⟩,⟨none,.store 2 (.r 2) (.r 34)⟩,⟨none,.mv (some 3) (.c (.lit (.int .i64 0)))⟩,⟨none,.mv (some 4) (.c (.lit (.int .i64 5)))⟩]
abbrev f42_21:AC:=.seq f42_22 .ret
abbrev f42_20:AC:=.cond (.r 33) f42_21 .skip
abbrev f42_18:AC:=.seq f42_19 f42_20
abbrev f42_25:AC:=.ops [0,2,5,39] [2] [vv 35 0,⟨none,.len (some 36) .sl (.r 35)⟩,vv 37 5,vb 38 .add 37 6,⟨none,.bin (some 39) .num .lss (.r 36) (.r 38)⟩]
abbrev f42_28:AC:=.ops [2,3,4] [2] [⟨none,.bst (some 40) [(0,1),(1,1)] (.agg [(.lit (.int .u8 0)),(.lit (.slice none 0 0))]) []⟩,⟨none,.store 2 (.r 2) (.r 40)⟩,⟨none,.mv (some 3) (.c (.lit (.int .i64 0)))⟩,⟨none,.mv (some 4) (.c (.lit (.int .i64 0)))⟩]
abbrev f42_27:AC:=.seq f42_28 .ret
abbrev f42_26:AC:=.cond (.r 39) f42_27 .skip
abbrev f42_24:AC:=.seq f42_25 f42_26
abbrev f42_30:AC:=.ops [0,2,5,6] [2,6] [vv 41 0,⟨none,.ixS (some 42) (.r 41) (.c (.lit (.int .i64 1))) 1⟩,vl 43 42,⟨none,.bst (some 44) [(0,1),(1,1)] (.agg [(.lit (.int .u8 0)),(.lit (.slice none 0 0))]) [(0,(.r 43))]⟩,⟨none,.newL 6 [(.lit (.int .u8 0)),(.lit (.slice none 0 0))]⟩,⟨none,.store 2 (.r 6) (.r 44)⟩]
abbrev f42_33:AC:=.ops [0,2,5,6,7] [2,6] [⟨none,.mv (some 7) (.c (.lit (.int .i64 0)))⟩]
abbrev f42_38:AC:=.ops [0,2,5,6,7,47] [2,6] [vv 45 7,vv 46 5,⟨none,.bin (some 47) .num .lss (.r 45) (.r 46)⟩]
abbrev f42_39:AC:=.cond (.r 47) .skip (.exit [0,2,5,6] [2,6] 0)
abbrev f42_37:AC:=.seq f42_38 f42_39
abbrev f42_42:AC:=.draw [0,2,5,6,7] [2,6] [] [vd 50 6 1,vl 51 50,vv 52 0,vv 53 7,⟨none,.bin (some 54) .num .add (.c (.lit (.int .i64 4))) (.r 53)⟩,⟨none,.ixS (some 55) (.r 52) (.r 54) 1⟩,vl 56 55,⟨none,.bsl (some 57) 1 1 (.lit (.int .u8 0)) [(0,(.r 56))]⟩] [⟨none,.x (some 58) (.appB (.r 51) 1 1 (.r 57))⟩,vd 59 6 1,⟨none,.store 1 (.r 59) (.r 58)⟩]
abbrev f42_41:AC:=.block 1 f42_42
abbrev f42_43:AC:=.ops [0,2,5,6,7] [2,6] [vv 48 7,vb 49 .add 48 1,vo 7 49]
abbrev f42_40:AC:=.seq f42_41 f42_43
abbrev f42_36:AC:=.seq f42_37 f42_40
def f42_35:AC:=.loop [0,2,5,6,7] [2,6] f42_36
theorem f42_35w:aC P id m f42_35 sf st Q = br (aC P id m f42_36) [0,2,5,6,7] [2,6] sf st Q:=rfl
abbrev f42_34:AC:=.block 0 f42_35
abbrev f42_32:AC:=.seq f42_33 f42_34
abbrev f42_46:AC:=.draw [2,5,6,68] [2,6] [] [⟨none,.load (some 60) (.r 6) (some 2)⟩,⟨none,.call (some 61) true (.f 15) [(.r 60)]⟩,⟨none,.conv (some 62) .bs (.r 61)⟩,vv 63 0,vv 64 5,vb 65 .add 64 6,⟨none,.sliS (some 66) (.r 63) none (some (.r 65)) 1⟩,⟨none,.conv (some 67) .bs (.r 66)⟩] [⟨none,.bin (some 68) .num .neq (.r 62) (.r 67)⟩]
abbrev f42_49:AC:=.ops [2,3,4] [2] [⟨none,.bst (some 69) [(0,1),(1,1)] (.agg [(.lit (.int .u8 0)),(.lit (.slice none 0 0))]) []⟩,⟨none,.store 2 (.r 2) (.r 69)⟩,⟨none,.mv (some 3) (.c (.lit (.int .i64 0)))⟩,⟨none,.mv (some 4) (.c (.lit (.int .i64 10)))⟩]
abbrev f42_48:AC:=.seq f42_49 .ret
abbrev f42_47:AC:=.cond (.r 68) f42_48 .skip
abbrev f42_45:AC:=.seq f42_46 f42_47
abbrev f42_51:AC:=.ops [2,3,4] [2] [⟨none,.load (some 70) (.r 6) (some 2)⟩,vv 71 5,vb 72 .add 71 6,⟨none,.store 2 (.r 2) (.r 70)⟩,vo 3 72,⟨none,.mv (some 4) (.c (.lit (.int .i64 0)))⟩]
abbrev f42_50:AC:=.seq f42_51 .ret
abbrev f42_44:AC:=.seq f42_45 f42_50
abbrev f42_31:AC:=.seq f42_32 f42_44
abbrev f42_29:AC:=.seq f42_30 f42_31
abbrev f42_23:AC:=.seq f42_24 f42_29
abbrev f42_17:AC:=.seq f42_18 f42_23
abbrev f42_15:AC:=.seq f42_16 f42_17
abbrev f42_9:AC:=.seq f42_10 f42_15
abbrev f42_3:AC:=.seq f42_4 f42_9
abbrev f42_1:AC:=.seq f42_2 f42_3
def c_f42:AFun:=⟨73,[.cell 2 (some 2),.tmp 3,.tmp 4],f42_1⟩
theorem k_f42:kX x_f42 42 c_f42:=by delta kX; kernel_rfl
theorem e_f42:eX 42:=by delta eX; kernel_rfl

def n_f43:Nat:=43
def x_f43:=xX 16 [0,2,3,8,9,13,14,15] [] [(2,[0],[]),(12,[0,4],[]),(52,[2],[]),(14,[2],[])]
abbrev f43_2:AC:=.ops [0] [] [⟨none,.mv (some 2) (.c (.lit (.pointer none)))⟩]
abbrev f43_5:AC:=.ops [0,4] [] [vv 3 0,⟨none,.bin (some 4) (.nil .ptr) .eql (.r 3) (.c (.lit (.pointer none)))⟩]
abbrev f43_8:AC:=.ops [2] [] [⟨none,.mv (some 2) (.c (.lit (.pointer none)))⟩]
abbrev f43_7:AC:=.seq f43_8 .ret
abbrev f43_6:AC:=.cond (.r 4) f43_7 .skip
abbrev f43_4:AC:=.seq f43_5 f43_6
abbrev f43_10:AC:=.draw [2] [] [] [vv 5 0,vn 6 5,vd 7 6 0,vl 8 7,⟨none,.call (some 9) true (.f 57) [(.r 8)]⟩,vv 10 0,vn 11 10,vd 12 11 1,vl 13 12] [⟨none,.bst (some 14) [(0,1),(1,1)] (.agg [(.lit (.slice none 0 0)),(.lit (.int .i64 0))]) [(0,(.r 9)),(1,(.r 13))]⟩,⟨none,.boxB 15 2 (.r 14)⟩,vo 2 15]
abbrev f43_9:AC:=.seq f43_10 .ret
abbrev f43_3:AC:=.seq f43_4 f43_9
abbrev f43_1:AC:=.seq f43_2 f43_3
def c_f43:AFun:=⟨16,[.tmp 2],f43_1⟩
theorem k_f43:kX x_f43 43 c_f43:=by delta kX; kernel_rfl
theorem e_f43:eX 43:=by delta eX; kernel_rfl

def n_f44:Nat:=44
def x_f44:=xX 9 [0,2,3,8] [] [(2,[0],[]),(12,[0,4],[]),(52,[2],[]),(14,[2],[])]
abbrev f44_2:AC:=.ops [0] [] [⟨none,.mv (some 2) (.c (.lit (.int .i64 0)))⟩]
abbrev f44_5:AC:=.ops [0,4] [] [vv 3 0,⟨none,.bin (some 4) (.nil .ptr) .eql (.r 3) (.c (.lit (.pointer none)))⟩]
abbrev f44_8:AC:=.ops [2] [] [⟨none,.mv (some 2) (.c (.lit (.int .i64 1)))⟩]
abbrev f44_7:AC:=.seq f44_8 .ret
abbrev f44_6:AC:=.cond (.r 4) f44_7 .skip
abbrev f44_4:AC:=.seq f44_5 f44_6
abbrev f44_10:AC:=.ops [2] [] [vv 5 0,vn 6 5,vd 7 6 1,vl 8 7,vo 2 8]
abbrev f44_9:AC:=.seq f44_10 .ret
abbrev f44_3:AC:=.seq f44_4 f44_9
abbrev f44_1:AC:=.seq f44_2 f44_3
def c_f44:AFun:=⟨9,[.tmp 2],f44_1⟩
theorem k_f44:kX x_f44 44 c_f44:=by delta kX; kernel_rfl
theorem e_f44:eX 44:=by delta eX; kernel_rfl

def n_f45:Nat:=45
def x_f45:=xX 67 [0,3,4,5,6,7,9,12,14,15,16,18,21,22,23,26,27,28,30,31,32,34,35,36,37,38,39,41,42,43,44,45,46,47,48,49,50,51,52,53,54,55,58,59,60,61,62,63,64,65,66] [] [(2,[0,2],[2]),(12,[0,2,8],[2]),(52,[2,3,4],[2]),(28,[0,2,13],[2]),(116,[2,3,4],[2]),(60,[0,2,17],[2]),(244,[2,3,4],[2]),(62,[0,2,5],[2]),(504,[0,2,5,29],[2]),(2020,[2,3,4],[2]),(2022,[0,2,5,33],[2]),(8092,[2,3,4],[2]),(8094,[0,2,5,40],[2]),(32380,[2,3,4],[2]),(254,[2,3,4],[2])]
abbrev f45_2:AC:=.ops [0,2] [2] [⟨none,.newL 2 [(.lit (.int .u8 0)),(.lit (.slice none 0 0))]⟩,⟨none,.mv (some 3) (.c (.lit (.int .i64 0)))⟩,⟨none,.mv (some 4) (.c (.lit (.int .i64 0)))⟩]
abbrev f45_5:AC:=.ops [0,2,8] [2] [vv 6 0,⟨none,.len (some 7) .sl (.r 6)⟩,vb 8 .eql 7 0]
abbrev f45_8:AC:=.ops [2,3,4] [2] [⟨none,.load (some 9) (.r 2) (some 2)⟩,⟨none,.store 2 (.r 2) (.r 9)⟩,⟨none,.mv (some 3) (.c (.lit (.int .i64 0)))⟩,⟨none,.mv (some 4) (.c (.lit (.int .i64 0)))⟩]
abbrev f45_7:AC:=.seq f45_8 .ret
abbrev f45_6:AC:=.cond (.r 8) f45_7 .skip
abbrev f45_4:AC:=.seq f45_5 f45_6
abbrev f45_11:AC:=.ops [0,2,13] [2] [vv 10 0,⟨none,.ixS (some 11) (.r 10) (.c (.lit (.int .i64 0))) 1⟩,vl 12 11,⟨none,.bin (some 13) .num .neq (.r 12) (.c (.lit (.int .u8 197)))⟩]
abbrev f45_14:AC:=.ops [2,3,4] [2] [⟨none,.load (some 14) (.r 2) (some 2)⟩,⟨none,.store 2 (.r 2) (.r 14)⟩,⟨none,.mv (some 3) (.c (.lit (.int .i64 0)))⟩,⟨none,.mv (some 4) (.c (.lit (.int .i64 6)))⟩]
abbrev f45_13:AC:=.seq f45_14 .ret
abbrev f45_12:AC:=.cond (.r 13) f45_13 .skip
abbrev f45_10:AC:=.seq f45_11 f45_12
abbrev f45_17:AC:=.ops [0,2,17] [2] [vv 15 0,⟨none,.len (some 16) .sl (.r 15)⟩,vb 17 .lss 16 4]
abbrev f45_20:AC:=.ops [2,3,4] [2] [⟨none,.load (some 18) (.r 2) (some 2)⟩,⟨none,.store 2 (.r 2) (.r 18)⟩,⟨none,.mv (some 3) (.c (.lit (.int .i64 0)))⟩,⟨none,.mv (some 4) (.c (.lit (.int .i64 0)))⟩]
abbrev f45_19:AC:=.seq f45_20 .ret
abbrev f45_18:AC:=.cond (.r 17) f45_19 .skip
abbrev f45_16:AC:=.seq f45_17 f45_18
abbrev f45_22:AC:=.draw [0,2,5] [2] [] [vv 19 0,⟨none,.ixS (some 20) (.r 19) (.c (.lit (.int .i64 2))) 1⟩,vl 21 20,⟨none,.conv (some 22) (.int .i64) (.r 21)⟩,⟨none,.bin (some 23) .num .shl (.r 22) (.c (.lit (.int .u64 8)))⟩,vv 24 0,⟨none,.ixS (some 25) (.r 24) (.c (.lit (.int .i64 3))) 1⟩,vl 26 25,⟨none,.conv (some 27) (.int .i64) (.r 26)⟩] [⟨none,.bin (some 28) .num .or (.r 23) (.r 27)⟩,vo 5 28]
abbrev f45_26:AC:=.ops [0,2,5,29] [2] [vv 30 5,vb 31 .gtr 30 1024,vo 29 31]
abbrev f45_29:AC:=.ops [2,3,4] [2] [⟨none,.load (some 32) (.r 2) (some 2)⟩,⟨none,.store 2 (.r 2) (.r 32)⟩,⟨none,.mv (some 3) (.c (.lit (.int .i64 0)))⟩,⟨none,.mv (some 4) (.c (.lit (.int .i64 5)))⟩]
abbrev f45_28:AC:=.seq f45_29 .ret
abbrev f45_31:AC:=.ops [0,2,5,33] [2] [vv 34 0,⟨none,.len (some 35) .sl (.r 34)⟩,vv 36 5,vb 37 .add 36 6,⟨none,.bin (some 38) .num .lss (.r 35) (.r 37)⟩,vo 33 38]
abbrev f45_34:AC:=.ops [2,3,4] [2] [⟨none,.load (some 39) (.r 2) (some 2)⟩,⟨none,.store 2 (.r 2) (.r 39)⟩,⟨none,.mv (some 3) (.c (.lit (.int .i64 0)))⟩,⟨none,.mv (some 4) (.c (.lit (.int .i64 0)))⟩]
abbrev f45_33:AC:=.seq f45_34 .ret
abbrev f45_36:AC:=.draw [0,2,5,40] [2] [] [vv 41 0,vv 42 5,⟨none,.bin (some 43) .num .add (.c (.lit (.int .i64 4))) (.r 42)⟩,⟨none,.sliS (some 44) (.r 41) (some (.c (.lit (.int .i64 1)))) (some (.r 43)) 1⟩,⟨none,.call (some 45) true (.f 48) [(.r 44)]⟩,⟨none,.call (some 46) true (.f 47) [(.r 45)]⟩,vv 47 0,vv 48 5,⟨none,.bin (some 49) .num .add (.c (.lit (.int .i64 4))) (.r 48)⟩,vv 50 5,⟨none,.bin (some 51) .num .add (.c (.lit (.int .i64 6))) (.r 50)⟩,⟨none,.sliS (some 52) (.r 47) (some (.r 49)) (some (.r 51)) 1⟩] [⟨none,.call (some 53) false (.f 58) [(.r 46),(.r 52)]⟩,⟨none,.un (some 54) .not (.r 53)⟩,vo 40 54]
abbrev f45_39:AC:=.ops [2,3,4] [2] [⟨none,.load (some 55) (.r 2) (some 2)⟩,⟨none,.store 2 (.r 2) (.r 55)⟩,⟨none,.mv (some 3) (.c (.lit (.int .i64 0)))⟩,⟨none,.mv (some 4) (.c (.lit (.int .i64 10)))⟩]
abbrev f45_38:AC:=.seq f45_39 .ret
abbrev f45_37:AC:=.cond (.r 40) f45_38 .skip
abbrev f45_35:AC:=.seq f45_36 f45_37
abbrev f45_32:AC:=.cond (.r 33) f45_33 f45_35
abbrev f45_30:AC:=.seq f45_31 f45_32
abbrev f45_27:AC:=.cond (.r 29) f45_28 f45_30
abbrev f45_25:AC:=.seq f45_26 f45_27
abbrev f45_24:AC:=.block 0 f45_25
abbrev f45_41:AC:=.draw [2,3,4] [2] [2] [vv 56 0,⟨none,.ixS (some 57) (.r 56) (.c (.lit (.int .i64 1))) 1⟩,vl 58 57,vv 59 0,vv 60 5,⟨none,.bin (some 61) .num .add (.c (.lit (.int .i64 4))) (.r 60)⟩,⟨none,.sliS (some 62) (.r 59) (some (.c (.lit (.int .i64 4)))) (some (.r 61)) 1⟩,⟨none,.call (some 63) true (.f 57) [(.r 62)]⟩,⟨none,.bst (some 64) [(0,1),(1,1)] (.agg [(.lit (.int .u8 0)),(.lit (.slice none 0 0))]) [(0,(.r 58)),(1,(.r 63))]⟩,vv 65 5,vb 66 .add 65 6,⟨none,.store 2 (.r 2) (.r 64)⟩] [vo 3 66,⟨none,.mv (some 4) (.c (.lit (.int .i64 0)))⟩]
abbrev f45_40:AC:=.seq f45_41 .ret
abbrev f45_23:AC:=.seq f45_24 f45_40
abbrev f45_21:AC:=.seq f45_22 f45_23
abbrev f45_15:AC:=.seq f45_16 f45_21
abbrev f45_9:AC:=.seq f45_10 f45_15
abbrev f45_3:AC:=.seq f45_4 f45_9
abbrev f45_1:AC:=.seq f45_2 f45_3
def c_f45:AFun:=⟨67,[.cell 2 (some 2),.tmp 3,.tmp 4],f45_1⟩
theorem k_f45:kX x_f45 45 c_f45:=by delta kX; kernel_rfl
theorem e_f45:eX 45:=by delta eX; kernel_rfl

def n_f46:Nat:=46
def x_f46:=xX 5 [0,2,3,4] [] [(2,[0],[]),(6,[2],[])]
abbrev f46_2:AC:=.ops [0] [] [⟨none,.mv (some 2) (.c (.lit (.slice none 0 0)))⟩]
abbrev f46_4:AC:=.ops [2] [] [vv 3 0,⟨none,.call (some 4) false (.f 59) [(.r 3),(.c (.lit (.slice none 0 0)))]⟩,vo 2 4]
abbrev f46_3:AC:=.seq f46_4 .ret
abbrev f46_1:AC:=.seq f46_2 f46_3
def c_f46:AFun:=⟨5,[.tmp 2],f46_1⟩
theorem k_f46:kX x_f46 46 c_f46:=by delta kX; kernel_rfl
theorem e_f46:eX 46:=by delta eX; kernel_rfl

def n_f47:Nat:=47
def x_f47:=xX 9 [0,2,3,4,5,6,7,8] [] [(2,[0],[]),(6,[2],[])]
abbrev f47_2:AC:=.ops [0] [] [⟨none,.mv (some 2) (.c (.lit (.slice none 0 0)))⟩]
abbrev f47_4:AC:=.ops [2] [] [vv 3 0,⟨none,.bin (some 4) .num .shr (.r 3) (.c (.lit (.int .u64 8)))⟩,⟨none,.conv (some 5) (.int .u8) (.r 4)⟩,vv 6 0,⟨none,.conv (some 7) (.int .u8) (.r 6)⟩,⟨none,.bsl (some 8) 1 2 (.lit (.int .u8 0)) [(0,(.r 5)),(1,(.r 7))]⟩,vo 2 8]
abbrev f47_3:AC:=.seq f47_4 .ret
abbrev f47_1:AC:=.seq f47_2 f47_3
def c_f47:AFun:=⟨9,[.tmp 2],f47_1⟩
theorem k_f47:kX x_f47 47 c_f47:=by delta kX; kernel_rfl
theorem e_f47:eX 47:=by delta eX; kernel_rfl

def n_f48:Nat:=48
def x_f48:=xX 20 [0,2,3,5,6,7,8,11,12,13,14,15,16,17,18,19] [] [(2,[0],[]),(6,[0,3],[]),(28,[3,6,7,8],[]),(58,[3,6,7,8],[]),(232,[3,6,7,8,9],[]),(933,[3],[]),(3736,[3,5,6,7,8],[]),(3737,[3,6,7,8],[]),(935,[3,6,7,8],[]),(30,[2],[])]
abbrev f48_2:AC:=.ops [0] [] [⟨none,.mv (some 2) (.c (.lit (.int .i64 0)))⟩]
abbrev f48_4:AC:=.ops [0,3] [] [⟨none,.mv (some 3) (.c (.lit (.int .i64 1)))⟩]
abbrev f48_7:AC:=.ops [3,6,7,8] [] [vv 6 0,⟨none,.len (some 7) .sl (.r 6)⟩,⟨none,.mv (some 8) (.c (.lit (.int .i64 0)))⟩]
abbrev f48_11:AC:=.ops [3,6,7,8,9] [] [⟨none,.bin (some 9) .num .lss (.r 8) (.r 7)⟩]
abbrev f48_13:AC:=.cond (.r 9) .skip (.exit [3] [] 0)
abbrev f48_17:AC:=.ops [3,5,6,7,8] [] [⟨none,.ixS (some 10) (.r 6) (.r 8) 1⟩,vl 11 10,vo 5 11]
abbrev f48_18:AC:=.ops [3,6,7,8] [] [vv 12 3,⟨none,.bin (some 13) .num .mul (.c (.lit (.int .i64 31))) (.r 12)⟩,vv 14 5,⟨none,.conv (some 15) (.int .i64) (.r 14)⟩,⟨none,.bin (some 16) .num .add (.r 13) (.r 15)⟩,vb 17 .rem 16 65521,vo 3 17]
abbrev f48_16:AC:=.seq f48_17 f48_18
abbrev f48_15:AC:=.block 1 f48_16
abbrev f48_19:AC:=.ops [3,6,7,8] [] [vb 18 .add 8 1,vv 8 18]
abbrev f48_14:AC:=.seq f48_15 f48_19
abbrev f48_12:AC:=.seq f48_13 f48_14
abbrev f48_10:AC:=.seq f48_11 f48_12
def f48_9:AC:=.loop [3,6,7,8] [] f48_10
theorem f48_9w:aC P id m f48_9 sf st Q = br (aC P id m f48_10) [3,6,7,8] [] sf st Q:=rfl
abbrev f48_8:AC:=.block 0 f48_9
abbrev f48_6:AC:=.seq f48_7 f48_8
abbrev f48_21:AC:=.ops [2] [] [vv 19 3,vo 2 19]
abbrev f48_20:AC:=.seq f48_21 .ret
abbrev f48_5:AC:=.seq f48_6 f48_20
abbrev f48_3:AC:=.seq f48_4 f48_5
abbrev f48_1:AC:=.seq f48_2 f48_3
def c_f48:AFun:=⟨20,[.tmp 2],f48_1⟩
theorem k_f48:kX x_f48 48 c_f48:=by delta kX; kernel_rfl
theorem e_f48:eX 48:=by delta eX; kernel_rfl

def n_f57:Nat:=57
def x_f57:=xX 8 [0,2,3,5,6,7] [] [(2,[0],[]),(12,[0,4],[]),(52,[2],[]),(14,[2],[])]
abbrev f57_2:AC:=.ops [0] [] [⟨none,.mv (some 2) (.c (.lit (.slice none 0 0)))⟩]
abbrev f57_5:AC:=.ops [0,4] [] [vv 3 0,⟨none,.x (some 4) (.nilU .eql (.r 3) (.c (.lit (.slice none 0 0))))⟩]
abbrev f57_8:AC:=.ops [2] [] [⟨none,.mv (some 2) (.c (.lit (.slice none 0 0)))⟩]
abbrev f57_7:AC:=.seq f57_8 .ret
abbrev f57_6:AC:=.cond (.r 4) f57_7 .skip
abbrev f57_4:AC:=.seq f57_5 f57_6
abbrev f57_10:AC:=.ops [2] [] [⟨none,.bsl (some 5) 1 0 (.lit (.int .u8 0)) []⟩,vv 6 0,⟨none,.appS 7 5 1 1 (.r 6)⟩,vo 2 7]
abbrev f57_9:AC:=.seq f57_10 .ret
abbrev f57_3:AC:=.seq f57_4 f57_9
abbrev f57_1:AC:=.seq f57_2 f57_3
def c_f57:AFun:=⟨8,[.tmp 2],f57_1⟩
theorem k_f57:kX x_f57 57 c_f57:=by delta kX; kernel_rfl
theorem e_f57:eX 57:=by delta eX; kernel_rfl

def n_f58:Nat:=58
def x_f58:=xX 10 [0,1,4,5,6,7,8,9] [] [(2,[0,1],[]),(6,[4],[])]
abbrev f58_2:AC:=.ops [0,1] [] [⟨none,.mv (some 4) (.c (.lit (.bool false)))⟩]
abbrev f58_4:AC:=.ops [4] [] [vv 5 0,⟨none,.conv (some 6) .bs (.r 5)⟩,vv 7 1,⟨none,.conv (some 8) .bs (.r 7)⟩,⟨none,.bin (some 9) .num .eql (.r 6) (.r 8)⟩,vo 4 9]
abbrev f58_3:AC:=.seq f58_4 .ret
abbrev f58_1:AC:=.seq f58_2 f58_3
def c_f58:AFun:=⟨10,[.tmp 4],f58_1⟩
theorem k_f58:kX x_f58 58 c_f58:=by delta kX; kernel_rfl
theorem e_f58:eX 58:=by delta eX; kernel_rfl

def n_f59:Nat:=59
def x_f59:=xX 92 [0,1,4,5,7,8,9,11,12,13,15,16,17,21,22,23,24,26,27,28,29,30,31,33,34,35,36,37,38,39,40,41,42,43,44,47,48,49,50,51,53,54,55,56,57,58,59,60,61,62,63,64,67,68,69,70,71,72,75,76,77,78,79,80,81,82,83,84,85,86,87,88,89,90,91] [8,60,63,64,77,79,84,86] [(2,[0,1],[]),(12,[0,1,14],[]),(52,[4],[]),(28,[0,1,18],[]),(116,[4],[]),(30,[0,1,5],[]),(124,[0,1,5,25],[]),(1000,[0,1,5,32],[]),(2002,[0,1,5],[]),(501,[0,1,5],[]),(252,[0,1,5,42,43,44],[]),(506,[0,1,5,42,43,44],[]),(2024,[0,1,5,42,43,44,45],[]),(8101,[0,1,5],[]),(32408,[0,1,5,7,42,43,44],[]),(129636,[0,1,5,7,42,43,44,52],[]),(259274,[0,1,5,7,42,43,44],[]),(64819,[0,1,5,42,43,44],[]),(8103,[0,1,5,42,43,44],[]),(254,[0,1,8],[]),(510,[0,1,8,9],[]),(2044,[1,8,9,70,71,72],[]),(4090,[1,8,9,70,71,72],[]),(16360,[1,8,9,70,71,72,73],[]),(65445,[8],[]),(261784,[1,8,9,11,70,71,72],[]),(523570,[1,8,9,11,70,71,72],[]),(523571,[1,8,9,70,71,72],[]),(65447,[1,8,9,70,71,72],[]),(2046,[4],[])]
abbrev f59_2:AC:=.ops [0,1] [] [⟨none,.mv (some 4) (.c (.lit (.slice none 0 0)))⟩]
abbrev f59_5:AC:=.ops [0,1,14] [] [vv 12 0,⟨none,.len (some 13) .sl (.r 12)⟩,vb 14 .eql 13 0]
abbrev f59_8:AC:=.ops [4] [] [⟨none,.bsl (some 15) 1 0 (.lit (.int .u8 0)) []⟩,vo 4 15]
abbrev f59_7:AC:=.seq f59_8 .ret
abbrev f59_6:AC:=.cond (.r 14) f59_7 .skip
abbrev f59_4:AC:=.seq f59_5 f59_6
abbrev f59_11:AC:=.ops [0,1,18] [] [vv 16 0,⟨none,.len (some 17) .sl (.r 16)⟩,vb 18 .eql 17 1]
abbrev f59_14:AC:=.ops [4] [] [vv 19 0,⟨none,.ixS (some 20) (.r 19) (.c (.lit (.int .i64 0))) 1⟩,vl 21 20,⟨none,.app (some 22) 1 1 (.c (.lit (.slice none 0 0))) (.r 21)⟩,vo 4 22]
abbrev f59_13:AC:=.seq f59_14 .ret
abbrev f59_12:AC:=.cond (.r 18) f59_13 .skip
abbrev f59_10:AC:=.seq f59_11 f59_12
abbrev f59_16:AC:=.ops [0,1,5] [] [⟨none,.mv (some 5) (.c (.lit (.int .i64 0)))⟩]
abbrev f59_19:AC:=.ops [0,1,5,25] [] [vv 23 1,⟨none,.len (some 24) .sl (.r 23)⟩,vb 25 .gtr 24 0]
abbrev f59_23:AC:=.ops [0,1,5,32] [] [vv 26 1,⟨none,.len (some 27) .sl (.r 26)⟩,vv 28 0,⟨none,.len (some 29) .sl (.r 28)⟩,vb 30 .sub 29 1,⟨none,.bin (some 31) .num .quo (.c (.lit (.int .i64 9223372036854775807))) (.r 30)⟩,⟨none,.bin (some 32) .num .geq (.r 27) (.r 31)⟩]
abbrev f59_25:AC:=.ops [0,1,5] [] [⟨none,.mkif (some 33) 9 (.c (.lit (.string ⟨#[98,121,116,101,115,58,32,74,111,105,110,32,111,117,116,112,117,116,32,108,101,110,103,116,104,32,111,118,101,114,102,108,111,119]⟩)))⟩,⟨none,.x none .bad⟩]
abbrev f59_24:AC:=.cond (.r 32) f59_25 .skip
abbrev f59_22:AC:=.seq f59_23 f59_24
abbrev f59_26:AC:=.ops [0,1,5] [] [vv 34 5,vv 35 1,⟨none,.len (some 36) .sl (.r 35)⟩,vv 37 0,⟨none,.len (some 38) .sl (.r 37)⟩,vb 39 .sub 38 1,⟨none,.bin (some 40) .num .mul (.r 36) (.r 39)⟩,⟨none,.bin (some 41) .num .add (.r 34) (.r 40)⟩,vo 5 41]
abbrev f59_21:AC:=.seq f59_22 f59_26
abbrev f59_20:AC:=.cond (.r 25) f59_21 .skip
abbrev f59_18:AC:=.seq f59_19 f59_20
abbrev f59_29:AC:=.ops [0,1,5,42,43,44] [] [vv 42 0,⟨none,.len (some 43) .sl (.r 42)⟩,⟨none,.mv (some 44) (.c (.lit (.int .i64 0)))⟩]
abbrev f59_33:AC:=.ops [0,1,5,42,43,44,45] [] [⟨none,.bin (some 45) .num .lss (.r 44) (.r 43)⟩]
abbrev f59_35:AC:=.cond (.r 45) .skip (.exit [0,1,5] [] 0)
abbrev f59_39:AC:=.ops [0,1,5,7,42,43,44] [] [⟨none,.ixS (some 46) (.r 42) (.r 44) 1⟩,vl 47 46,vo 7 47]
abbrev f59_42:AC:=.ops [0,1,5,7,42,43,44,52] [] [vv 48 7,⟨none,.len (some 49) .sl (.r 48)⟩,vv 50 5,⟨none,.bin (some 51) .num .sub (.c (.lit (.int .i64 9223372036854775807))) (.r 50)⟩,⟨none,.bin (some 52) .num .gtr (.r 49) (.r 51)⟩]
abbrev f59_44:AC:=.ops [0,1,5,7,42,43,44] [] [⟨none,.mkif (some 53) 9 (.c (.lit (.string ⟨#[98,121,116,101,115,58,32,74,111,105,110,32,111,117,116,112,117,116,32,108,101,110,103,116,104,32,111,118,101,114,102,108,111,119]⟩)))⟩,⟨none,.x none .bad⟩]
abbrev f59_43:AC:=.cond (.r 52) f59_44 .skip
abbrev f59_41:AC:=.seq f59_42 f59_43
abbrev f59_45:AC:=.ops [0,1,5,42,43,44] [] [vv 54 5,vv 55 7,⟨none,.len (some 56) .sl (.r 55)⟩,⟨none,.bin (some 57) .num .add (.r 54) (.r 56)⟩,vo 5 57]
abbrev f59_40:AC:=.seq f59_41 f59_45
abbrev f59_38:AC:=.seq f59_39 f59_40
abbrev f59_37:AC:=.block 1 f59_38
abbrev f59_46:AC:=.ops [0,1,5,42,43,44] [] [vb 58 .add 44 1,vv 44 58]
abbrev f59_36:AC:=.seq f59_37 f59_46
abbrev f59_34:AC:=.seq f59_35 f59_36
abbrev f59_32:AC:=.seq f59_33 f59_34
def f59_31:AC:=.loop [0,1,5,42,43,44] [] f59_32
theorem f59_31w:aC P id m f59_31 sf st Q = br (aC P id m f59_32) [0,1,5,42,43,44] [] sf st Q:=rfl
abbrev f59_30:AC:=.block 0 f59_31
abbrev f59_28:AC:=.seq f59_29 f59_30
abbrev f59_48:AC:=.ops [0,1,8] [] [vv 59 5,⟨none,.x (some 60) (.mknz (.r 59))⟩,vv 61 5,vv 62 5,⟨none,.sli3 (some 63) (.r 60) none (some (.r 61)) (.r 62) 1⟩,vo 8 63]
abbrev f59_50:AC:=.ops [0,1,8,9] [] [vv 64 8,vv 65 0,⟨none,.ixS (some 66) (.r 65) (.c (.lit (.int .i64 0))) 1⟩,vl 67 66,⟨none,.x (some 68) (.copyB 1 (.r 64) (.r 67))⟩,vo 9 68]
abbrev f59_53:AC:=.ops [1,8,9,70,71,72] [] [vv 69 0,⟨none,.sliOwn 70 69 (.c (.lit (.int .i64 1))) 1⟩,⟨none,.len (some 71) .sl (.r 70)⟩,⟨none,.mv (some 72) (.c (.lit (.int .i64 0)))⟩]
abbrev f59_57:AC:=.ops [1,8,9,70,71,72,73] [] [⟨none,.bin (some 73) .num .lss (.r 72) (.r 71)⟩]
abbrev f59_59:AC:=.cond (.r 73) .skip (.exit [8] [] 2)
abbrev f59_63:AC:=.ops [1,8,9,11,70,71,72] [] [⟨none,.ixS (some 74) (.r 70) (.r 72) 1⟩,vl 75 74,vo 11 75]
abbrev f59_65:AC:=.ops [1,8,9,11,70,71,72] [] [vv 76 9,vv 77 8,vv 78 9,⟨none,.sliOwn 79 77 (.r 78) 1⟩,vv 80 1,⟨none,.x (some 81) (.copyB 1 (.r 79) (.r 80))⟩,⟨none,.bin (some 82) .num .add (.r 76) (.r 81)⟩,vo 9 82]
abbrev f59_66:AC:=.ops [1,8,9,70,71,72] [] [vv 83 9,vv 84 8,vv 85 9,⟨none,.sliOwn 86 84 (.r 85) 1⟩,vv 87 11,⟨none,.x (some 88) (.copyB 1 (.r 86) (.r 87))⟩,⟨none,.bin (some 89) .num .add (.r 83) (.r 88)⟩,vo 9 89]
abbrev f59_64:AC:=.seq f59_65 f59_66
abbrev f59_62:AC:=.seq f59_63 f59_64
abbrev f59_61:AC:=.block 3 f59_62
abbrev f59_67:AC:=.ops [1,8,9,70,71,72] [] [vb 90 .add 72 1,vv 72 90]
abbrev f59_60:AC:=.seq f59_61 f59_67
abbrev f59_58:AC:=.seq f59_59 f59_60
abbrev f59_56:AC:=.seq f59_57 f59_58
def f59_55:AC:=.loop [1,8,9,70,71,72] [] f59_56
theorem f59_55w:aC P id m f59_55 sf st Q = br (aC P id m f59_56) [1,8,9,70,71,72] [] sf st Q:=rfl
abbrev f59_54:AC:=.block 2 f59_55
abbrev f59_52:AC:=.seq f59_53 f59_54
abbrev f59_69:AC:=.ops [4] [] [vv 91 8,vo 4 91]
abbrev f59_68:AC:=.seq f59_69 .ret
abbrev f59_51:AC:=.seq f59_52 f59_68
abbrev f59_49:AC:=.seq f59_50 f59_51
abbrev f59_47:AC:=.seq f59_48 f59_49
abbrev f59_27:AC:=.seq f59_28 f59_47
abbrev f59_17:AC:=.seq f59_18 f59_27
abbrev f59_15:AC:=.seq f59_16 f59_17
abbrev f59_9:AC:=.seq f59_10 f59_15
abbrev f59_3:AC:=.seq f59_4 f59_9
abbrev f59_1:AC:=.seq f59_2 f59_3
def c_f59:AFun:=⟨92,[.tmp 4],f59_1⟩
theorem k_f59:kX x_f59 59 c_f59:=by delta kX; kernel_rfl
theorem e_f59:eX 59:=by delta eX; kernel_rfl

def n_f1043:Nat:=43
def x_f1043:=xX 16 [0,2,3,8,9,13,14,15] [9,14] [(2,[0],[]),(12,[0,4],[]),(52,[2],[]),(14,[2],[])]
abbrev f1043_2:AC:=.ops [0] [] [⟨none,.mv (some 2) (.c (.lit (.pointer none)))⟩]
abbrev f1043_5:AC:=.ops [0,4] [] [vv 3 0,⟨none,.bin (some 4) (.nil .ptr) .eql (.r 3) (.c (.lit (.pointer none)))⟩]
abbrev f1043_8:AC:=.ops [2] [] [⟨none,.mv (some 2) (.c (.lit (.pointer none)))⟩]
abbrev f1043_7:AC:=.seq f1043_8 .ret
abbrev f1043_6:AC:=.cond (.r 4) f1043_7 .skip
abbrev f1043_4:AC:=.seq f1043_5 f1043_6
abbrev f1043_10:AC:=.drawM [2] [] [vv 5 0,vn 6 5,vd 7 6 0,vl 8 7] (some 9) (.f 57) [(.r 8)] [(false,vv 10 0),(false,vn 11 10),(false,vd 12 11 1),(false,vl 13 12)] [⟨none,.x (some 14) (.bstO [(0,1),(1,1)] (.agg [(.lit (.slice none 0 0)),(.lit (.int .i64 0))]) [(0,(.r 9)),(1,(.r 13))])⟩,⟨none,.boxB 15 2 (.r 14)⟩,vo 2 15]
abbrev f1043_9:AC:=.seq f1043_10 .ret
abbrev f1043_3:AC:=.seq f1043_4 f1043_9
abbrev f1043_1:AC:=.seq f1043_2 f1043_3
def c_f1043:AFun:=⟨16,[.tmp 2],f1043_1⟩
theorem k_f1043:kX x_f1043 43 c_f1043:=by delta kX; kernel_rfl
theorem e_f1043:eX 43:=by delta eX; kernel_rfl

def tab (q:Nat):Option AFun :=
  if q = 12 then some c_f12 else
  if q = 14 then some c_f14 else
  if q = 15 then some c_f15 else
  if q = 16 then some c_f16 else
  if q = 20 then some c_f20 else
  if q = 38 then some c_f38 else
  if q = 39 then some c_f39 else
  if q = 40 then some c_f40 else
  if q = 41 then some c_f41 else
  if q = 42 then some c_f42 else
  if q = 43 then some c_f43 else
  if q = 44 then some c_f44 else
  if q = 45 then some c_f45 else
  if q = 46 then some c_f46 else
  if q = 47 then some c_f47 else
  if q = 48 then some c_f48 else
  if q = 57 then some c_f57 else
  if q = 58 then some c_f58 else
  if q = 59 then some c_f59 else
  none
theorem tabOk:kL Go.Proofs.Try.prog id tab :=
  ao e_f12 k_f12 rfl (
  ao e_f14 k_f14 rfl (
  ao e_f15 k_f15 rfl (
  ao e_f16 k_f16 rfl (
  ao e_f20 k_f20 rfl (
  ao e_f38 k_f38 rfl (
  ao e_f39 k_f39 rfl (
  ao e_f40 k_f40 rfl (
  ao e_f41 k_f41 rfl (
  ao e_f42 k_f42 rfl (
  ao e_f43 k_f43 rfl (
  ao e_f44 k_f44 rfl (
  ao e_f45 k_f45 rfl (
  ao e_f46 k_f46 rfl (
  ao e_f47 k_f47 rfl (
  ao e_f48 k_f48 rfl (
  ao e_f57 k_f57 rfl (
  ao e_f58 k_f58 rfl (
  ao e_f59 k_f59 rfl (
  tabOk_nil)))))))))))))))))))
theorem hmix:Go.Proofs.Try.prog.follows .mixedOrders = true:=by kernel_rfl
end
end Go.Fx.YtenijlfcfmhmkaaFx

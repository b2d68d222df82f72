/- The functions that the statement reaches, resolved: printed by a program of ours from the translated code; each is checked here. -/
import Derived.Test.YtgnockaonokmaaaProg
import Derived.Test.YtgnockaonokmaaaFxF
set_option maxRecDepth 100000
set_option maxHeartbeats 0
namespace Go.Fx.YtgnockaonokmaaaFx
open Go Go.Fx
def xX (n:Nat) (h u:List Nat) (q:List (Nat×List Nat×List Nat)):Cx:=⟨some,id,n,fun s=>h.contains s,fun s=>u.contains s,msOf q⟩
abbrev kX (x:Cx) (n:Nat) (c:AFun):Prop:=gZ Go.Proofs.Try.prog x n = some c
abbrev eX (n:Nat):Prop:=bD Go.Proofs.Try.prog n = true
abbrev SQ (a b c:AC):Prop:=∀ {P:Program} {m:Bool} {sf:Sf} {st:St} {Q:Exit→Sf→St→Prop},aC P id m a sf st Q = aC P id m b sf st (seqQ (aC P id m c) Q)
abbrev SO (a:AC) (l:List GI) (x y:List Nat) (c:AC):Prop:=∀ {P:Program} {m:Bool} {sf:Sf} {st:St} {Q:Exit→Sf→St→Prop},aC P id m a sf st Q = runI P id m l (opsK x y (seqQ (aC P id m c) Q)) sf st
abbrev CN (a:AC) (r:Nat) (b c:AC):Prop:=∀ {P:Program} {m:Bool} {sf:Sf} {st:St} {Q:Exit→Sf→St→Prop},aC P id m a sf st Q = fM (.r r) (sf.ev id (.r r)) (aC P id m b) (aC P id m c) sf st Q
abbrev OP (a:AC) (l:List GI) (x y:List Nat):Prop:=∀ {P:Program} {m:Bool} {sf:Sf} {st:St} {Q:Exit→Sf→St→Prop},aC P id m a sf st Q = runI P id m l (opsK x y Q) sf st
abbrev BL (a b:AC) (k:Nat):Prop:=∀ {P:Program} {m:Bool} {sf:Sf} {st:St} {Q:Exit→Sf→St→Prop},aC P id m a sf st Q = aC P id m b sf st (cq k Q)
abbrev KF:Lean.Meta.Simp.Config:={ implicitDefEqProofs:=false,maxSteps:=10000000 }
section
variable {P:Program} {F:Nat→FuncId} {m:Bool} {sf:Sf} {st:St} {Q:Exit→Sf→St→Prop} {a b:AC} {x:Opd} {k:Nat} {l t:List GI} {u v w:List Nat} {d:Option Nat} {xs:List Opd} {q:List (Bool×GI)}
theorem aA1:aC P F m (.seq a b) sf st Q = aC P F m a sf st (seqQ (aC P F m b) Q):=rfl
theorem aA2:aC P F m (.cond x a b) sf st Q = fM x (sf.ev F x) (aC P F m a) (aC P F m b) sf st Q:=rfl
theorem aA3:aC P F m (.ops u v l) sf st Q = runI P F m l (opsK u v Q) sf st:=rfl
theorem aA4:aC P F m (.block k a) sf st Q = aC P F m a sf st (cq k Q):=rfl
theorem aA5:aC P F m (.scope a) sf st Q = aC P F m a sf st (scopeQ Q):=rfl
theorem aA6:aC P F m (.draw u v w l t) sf st Q = az P F sf.locs st l (cO P F m w u v t Q st) [] ⟨sf.regs,aH w sf.locs⟩:=rfl
theorem aA7:aC P F m (.drawM u v l d x xs q t) sf st Q = (m = false∧drawM P F l d x xs q sf st (gf P F m u v t Q)):=rfl
end
theorem bZ:type_of% (And.intro (And.intro (And.intro (And.intro (And.intro (And.intro (@kc) (And.intro (@seqQ_ret) (@opsK_eq))) (And.intro (And.intro (@runI_nil) (@jG)) (And.intro (@putP_eq) (@mask_eq)))) (And.intro (And.intro (And.intro (@mW) (@lJ)) (And.intro (@wp_ok) (@bind_ok))) (And.intro (And.intro (@lB) (@ev_r)) (And.intro (@ev_c) (@o_mv))))) (And.intro (And.intro (And.intro (@o_bin) (And.intro (@iX) (@dis_ptr))) (And.intro (And.intro (@setB_r) (@lK)) (And.intro (@aC_ret) (@aC_skip)))) (And.intro (And.intro (And.intro (@retQ_ret) (@cI)) (And.intro (@nM) (@nN))) (And.intro (And.intro (@List.map_cons.{0,0}) (@List.map_nil.{0,0})) (And.intro (@Bool.true_and) (@Sf.set.eq_1)))))) (And.intro (And.intro (And.intro (And.intro (@Sf.reg.eq_1) (And.intro (@Nat.zero_add) (@List.length_cons.{0}))) (And.intro (And.intro (@List.length_nil.{0}) (@List.all_nil.{0})) (And.intro (@Sf.disAt.eq_1) (@Bool.and_true)))) (And.intro (And.intro (And.intro (@List.all_cons.{0}) (@true_and)) (And.intro (@List.drop_zero.{0}) (@List.take_succ_cons.{0}))) (And.intro (And.intro (@setR.eq_1) (@setR.eq_2)) (And.intro (@getR.eq_1) (@getR.eq_2))))) (And.intro (And.intro (And.intro (And.intro (@List.drop_succ_cons.{0}) (@List.getElem?_cons_zero.{0})) (And.intro (@List.getElem?_cons_succ.{0}) (@putS))) (And.intro (And.intro (@gc.eq_1) (@gc.eq_2)) (And.intro (@decide_true) (@and_true)))) (And.intro (And.intro (And.intro (@List.take_zero.{0}) (@List.set_cons_zero.{0})) (And.intro (@ew) (@ik))) (And.intro (And.intro (@Int.toNat_natCast) (@Bool.false_eq_true)) (And.intro (@List.set_cons_succ.{0}) (@Nat.add_zero))))))) (And.intro (And.intro (And.intro (And.intro (And.intro (@o_own) (And.intro (@IntWalk.i64_in) (@Sf.newLoc.eq_1))) (And.intro (And.intro (@gY.eq_1) (@gY.eq_2)) (And.intro (@List.contains_nil.{0}) (@look.eq_1)))) (And.intro (And.intro (And.intro (@look.eq_2) (@loadV.eq_1)) (And.intro (@gI) (@o_call))) (And.intro (And.intro (@ev_f) (@own2_lit)) (And.intro (@lF) (@bind_req))))) (And.intro (And.intro (And.intro (And.intro (@ei.eq_1) (@ei.eq_2)) (And.intro (@jJ) (@o_load))) (And.intro (And.intro (@boxX.eq_1) (@dis_sl)) (And.intro (@evOwn_r) (@Bool.not_false)))) (And.intro (And.intro (And.intro (@req_tt) (@o_addr)) (And.intro (@lL) (@Int.cast_ofNat_Int))) (And.intro (And.intro (@gU.eq_1) (@gU.eq_2)) (And.intro (@kill_agg) (@disOp_r)))))) (And.intro (And.intro (And.intro (And.intro (@Option.map_some.{0,0}) (And.intro (@Option.map_none.{0,0}) (@and_pre))) (And.intro (And.intro (@n_eql) (@gH)) (And.intro (@kill_ptr) (@o_pick)))) (And.intro (And.intro (And.intro (@resL.eq_1) (@resL.eq_2)) (And.intro (@noL_tup) (@mX))) (And.intro (And.intro (@req_dec) (@lG)) (And.intro (@Sf.setLoc.eq_1) (@nO))))) (And.intro (And.intro (And.intro (And.intro (@n_lss) (@n_neq)) (And.intro (@aC_exit) (@gh))) (And.intro (And.intro (@n_add) (@o_store)) (And.intro (@extV.eq_1) (@extV.eq_2)))) (And.intro (And.intro (And.intro (@dis_tup) (@aA1)) (And.intro (@aA2) (@aA3))) (And.intro (And.intro (@aA4) (@aA5)) (And.intro (@aA6) (@aA7)))))))):=And.intro (And.intro (And.intro (And.intro (And.intro (And.intro (@kc) (And.intro (@seqQ_ret) (@opsK_eq))) (And.intro (And.intro (@runI_nil) (@jG)) (And.intro (@putP_eq) (@mask_eq)))) (And.intro (And.intro (And.intro (@mW) (@lJ)) (And.intro (@wp_ok) (@bind_ok))) (And.intro (And.intro (@lB) (@ev_r)) (And.intro (@ev_c) (@o_mv))))) (And.intro (And.intro (And.intro (@o_bin) (And.intro (@iX) (@dis_ptr))) (And.intro (And.intro (@setB_r) (@lK)) (And.intro (@aC_ret) (@aC_skip)))) (And.intro (And.intro (And.intro (@retQ_ret) (@cI)) (And.intro (@nM) (@nN))) (And.intro (And.intro (@List.map_cons.{0,0}) (@List.map_nil.{0,0})) (And.intro (@Bool.true_and) (@Sf.set.eq_1)))))) (And.intro (And.intro (And.intro (And.intro (@Sf.reg.eq_1) (And.intro (@Nat.zero_add) (@List.length_cons.{0}))) (And.intro (And.intro (@List.length_nil.{0}) (@List.all_nil.{0})) (And.intro (@Sf.disAt.eq_1) (@Bool.and_true)))) (And.intro (And.intro (And.intro (@List.all_cons.{0}) (@true_and)) (And.intro (@List.drop_zero.{0}) (@List.take_succ_cons.{0}))) (And.intro (And.intro (@setR.eq_1) (@setR.eq_2)) (And.intro (@getR.eq_1) (@getR.eq_2))))) (And.intro (And.intro (And.intro (And.intro (@List.drop_succ_cons.{0}) (@List.getElem?_cons_zero.{0})) (And.intro (@List.getElem?_cons_succ.{0}) (@putS))) (And.intro (And.intro (@gc.eq_1) (@gc.eq_2)) (And.intro (@decide_true) (@and_true)))) (And.intro (And.intro (And.intro (@List.take_zero.{0}) (@List.set_cons_zero.{0})) (And.intro (@ew) (@ik))) (And.intro (And.intro (@Int.toNat_natCast) (@Bool.false_eq_true)) (And.intro (@List.set_cons_succ.{0}) (@Nat.add_zero))))))) (And.intro (And.intro (And.intro (And.intro (And.intro (@o_own) (And.intro (@IntWalk.i64_in) (@Sf.newLoc.eq_1))) (And.intro (And.intro (@gY.eq_1) (@gY.eq_2)) (And.intro (@List.contains_nil.{0}) (@look.eq_1)))) (And.intro (And.intro (And.intro (@look.eq_2) (@loadV.eq_1)) (And.intro (@gI) (@o_call))) (And.intro (And.intro (@ev_f) (@own2_lit)) (And.intro (@lF) (@bind_req))))) (And.intro (And.intro (And.intro (And.intro (@ei.eq_1) (@ei.eq_2)) (And.intro (@jJ) (@o_load))) (And.intro (And.intro (@boxX.eq_1) (@dis_sl)) (And.intro (@evOwn_r) (@Bool.not_false)))) (And.intro (And.intro (And.intro (@req_tt) (@o_addr)) (And.intro (@lL) (@Int.cast_ofNat_Int))) (And.intro (And.intro (@gU.eq_1) (@gU.eq_2)) (And.intro (@kill_agg) (@disOp_r)))))) (And.intro (And.intro (And.intro (And.intro (@Option.map_some.{0,0}) (And.intro (@Option.map_none.{0,0}) (@and_pre))) (And.intro (And.intro (@n_eql) (@gH)) (And.intro (@kill_ptr) (@o_pick)))) (And.intro (And.intro (And.intro (@resL.eq_1) (@resL.eq_2)) (And.intro (@noL_tup) (@mX))) (And.intro (And.intro (@req_dec) (@lG)) (And.intro (@Sf.setLoc.eq_1) (@nO))))) (And.intro (And.intro (And.intro (And.intro (@n_lss) (@n_neq)) (And.intro (@aC_exit) (@gh))) (And.intro (And.intro (@n_add) (@o_store)) (And.intro (@extV.eq_1) (@extV.eq_2)))) (And.intro (And.intro (And.intro (@dis_tup) (@aA1)) (And.intro (@aA2) (@aA3))) (And.intro (And.intro (@aA4) (@aA5)) (And.intro (@aA6) (@aA7)))))))
abbrev vv (d x:Nat):GI:=⟨none,.mv (some d) (.r x)⟩
abbrev vo (d x:Nat):GI:=⟨none,.own d x⟩
abbrev ve (d x k:Nat):GI:=⟨none,.ext (some d) (.r x) k⟩
abbrev vn (d x:Nat):GI:=⟨none,.nilck (some d) (.r x)⟩
abbrev vd (d x k:Nat):GI:=⟨none,.addr (some d) (.r x) k⟩
abbrev vl (d x:Nat):GI:=⟨none,.load (some d) (.r x) none⟩
abbrev vb (d:Nat) (o:BinOp) (x:Nat) (n:Int):GI:=⟨none,.bin (some d) .num o (.r x) (.c (.lit (.int .i64 n)))⟩
section
variable (P:Program) (m:Bool) (sf:Sf) (st:St) (Q:Exit→Sf→St→Prop)
def n_f6:Nat:=6
def x_f6:=xX 123 [0,2,3,4,5,6,7,8,9,10,11,12,13,14,15,16,17,18,20,21,22,23,24,25,26,27,28,29,30,31,32,33,34,35,36,37,38,39,40,41,42,43,44,45,46,47,48,49,50,51,52,53,54,55,56,57,58,60,62,63,64,65,66,67,68,69,70,71,72,73,74,75,76,77,78,79,80,81,82,83,84,85,86,87,88,89,90,91,92,93,94,95,96,97,98,99,100,101,102,103,104,105,106,107,108,109,110,111,112,113,114,115,116,117,118,119,120,121,122] [] [(2,[0],[]),(12,[0,19],[]),(52,[2],[]),(14,[0,3],[]),(30,[0,3,4,5],[]),(62,[0,3,4,5,6,7],[]),(126,[0,3,4,5,6,7,8,9],[]),(254,[0,3,4,5,6,7,8,9,10,11],[]),(510,[0,4,5,6,7,8,9,10,11,12,13],[]),(2044,[0,5,7,9,10,11,12,13,59],[]),(8180,[2],[]),(4092,[0,5,7,9,10,11,12,13,61],[]),(16372,[2],[]),(4094,[2],[])]
abbrev f6_28:AC:=.seq (.ops [0,5,7,9,10,11,12,13,61] [] [vv 60 0,vb 61 .gtr 60 5000]) (.cond (.r 61) (.seq (.ops [2] [] [vv 62 5,vb 63 .eql 62 7,vv 64 63,⟨some (64,true),.mv (some 65) (.r 7)⟩,⟨some (64,true),.bin (some 66) .num .eql (.r 65) (.c (.lit (.int .i64 7)))⟩,⟨none,.pick (some 67) (.r 64) (.r 66) (.c (.lit (.bool false)))⟩,vv 68 67,⟨some (68,true),.mv (some 69) (.r 9)⟩,⟨some (68,true),.bin (some 70) .num .eql (.r 69) (.c (.lit (.int .i64 7)))⟩,⟨none,.pick (some 71) (.r 68) (.r 70) (.c (.lit (.bool false)))⟩,vv 72 71,⟨some (72,true),.mv (some 73) (.r 10)⟩,⟨some (72,true),.len (some 74) .sl (.r 73)⟩,⟨some (72,true),.bin (some 75) .num .eql (.r 74) (.c (.lit (.int .i64 0)))⟩,⟨none,.pick (some 76) (.r 72) (.r 75) (.c (.lit (.bool false)))⟩,vv 77 76,⟨some (77,true),.mv (some 78) (.r 11)⟩,⟨some (77,true),.bin (some 79) .num .eql (.r 78) (.c (.lit (.int .i64 7)))⟩,⟨none,.pick (some 80) (.r 77) (.r 79) (.c (.lit (.bool false)))⟩,vv 81 80,⟨some (81,true),.mv (some 82) (.r 12)⟩,⟨some (81,true),.bin (some 83) .num .eql (.r 82) (.c (.lit (.int .i64 0)))⟩,⟨none,.pick (some 84) (.r 81) (.r 83) (.c (.lit (.bool false)))⟩,vv 85 84,⟨some (85,true),.mv (some 86) (.r 13)⟩,⟨some (85,true),.bin (some 87) .num .eql (.r 86) (.c (.lit (.int .i64 7)))⟩,⟨none,.pick (some 88) (.r 85) (.r 87) (.c (.lit (.bool false)))⟩,vv 89 88,⟨some (89,true),.call (some 90) false (.f 7) []⟩,⟨none,.pick (some 91) (.r 89) (.r 90) (.c (.lit (.bool false)))⟩,vo 2 91]) .ret) .skip)
abbrev f6_33:AC:=.seq (.ops [2] [] [vv 92 5,vb 93 .eql 92 3,vv 94 93,⟨some (94,true),.mv (some 95) (.r 7)⟩,⟨some (94,true),.bin (some 96) .num .eql (.r 95) (.c (.lit (.int .i64 3)))⟩,⟨none,.pick (some 97) (.r 94) (.r 96) (.c (.lit (.bool false)))⟩,vv 98 97,⟨some (98,true),.mv (some 99) (.r 9)⟩,⟨some (98,true),.bin (some 100) .num .eql (.r 99) (.c (.lit (.int .i64 3)))⟩,⟨none,.pick (some 101) (.r 98) (.r 100) (.c (.lit (.bool false)))⟩,vv 102 101,⟨some (102,true),.mv (some 103) (.r 10)⟩,⟨some (102,true),.len (some 104) .sl (.r 103)⟩,⟨some (102,true),.mv (some 105) (.r 0)⟩,⟨some (102,true),.bin (some 106) .num .eql (.r 104) (.r 105)⟩,⟨none,.pick (some 107) (.r 102) (.r 106) (.c (.lit (.bool false)))⟩,vv 108 107,⟨some (108,true),.mv (some 109) (.r 11)⟩,⟨some (108,true),.bin (some 110) .num .eql (.r 109) (.c (.lit (.int .i64 0)))⟩,⟨none,.pick (some 111) (.r 108) (.r 110) (.c (.lit (.bool false)))⟩,vv 112 111,⟨some (112,true),.mv (some 113) (.r 12)⟩,⟨some (112,true),.bin (some 114) .num .eql (.r 113) (.c (.lit (.int .i64 (-1))))⟩,⟨none,.pick (some 115) (.r 112) (.r 114) (.c (.lit (.bool false)))⟩,vv 116 115,⟨some (116,true),.mv (some 117) (.r 13)⟩,⟨some (116,true),.bin (some 118) .num .eql (.r 117) (.c (.lit (.int .i64 0)))⟩,⟨none,.pick (some 119) (.r 116) (.r 118) (.c (.lit (.bool false)))⟩,vv 120 119,⟨some (120,true),.call (some 121) false (.f 7) []⟩,⟨none,.pick (some 122) (.r 120) (.r 121) (.c (.lit (.bool false)))⟩,vo 2 122]) .ret
abbrev f6_11:AC:=.seq (.ops [0,3,4,5] [] [vv 24 3,⟨none,.call (some 25) false (.f 8) [(.r 24),(.c (.lit (.int .i64 (-1))))]⟩,vv 23 25,ve 26 23 0,ve 27 23 1,vo 4 26,vo 5 27]) (.seq (.ops [0,3,4,5,6,7] [] [vv 29 3,⟨none,.bst (some 30) [(0,1),(1,1)] (.agg [(.lit (.int .i64 0)),(.lit (.int .i64 0))]) []⟩,⟨none,.call (some 31) false (.f 11) [(.r 29),(.c (.lit (.int .i64 (-1)))),(.r 30),(.c (.lit (.int .i64 7)))]⟩,vv 28 31,ve 32 28 0,ve 33 28 1,vo 6 32,vo 7 33]) (.seq (.ops [0,3,4,5,6,7,8,9] [] [vv 35 3,⟨none,.call (some 36) false (.f 13) [(.r 35),(.c (.lit (.int .i64 (-1))))]⟩,vv 34 36,ve 37 34 0,ve 38 34 1,vo 8 37,vo 9 38]) (.seq (.ops [0,3,4,5,6,7,8,9,10,11] [] [vv 40 3,⟨none,.call (some 41) false (.f 15) [(.r 40)]⟩,vv 39 41,ve 42 39 0,ve 43 39 1,vo 10 42,vo 11 43]) (.seq (.ops [0,4,5,6,7,8,9,10,11,12,13] [] [vv 45 3,⟨none,.call (some 46) false (.f 16) [(.r 45)]⟩,vv 44 46,ve 47 44 0,ve 48 44 1,vo 12 47,vo 13 48]) (.seq (.seq (.ops [0,5,7,9,10,11,12,13,59] [] [vv 49 4,⟨none,.len (some 50) .sl (.r 49)⟩,vb 51 .neq 50 0,vv 52 51,⟨some (52,false),.mv (some 53) (.r 6)⟩,⟨some (52,false),.bin (some 54) .num .neq (.r 53) (.c (.lit (.int .u64 0)))⟩,⟨none,.pick (some 55) (.r 52) (.c (.lit (.bool true))) (.r 54)⟩,vv 56 55,⟨some (56,false),.mv (some 57) (.r 8)⟩,⟨some (56,false),.bin (some 58) .num .neq (.r 57) (.c (.lit (.int .i64 0)))⟩,⟨none,.pick (some 59) (.r 56) (.c (.lit (.bool true))) (.r 58)⟩]) (.cond (.r 59) (.seq (.ops [2] [] [⟨none,.mv (some 2) (.c (.lit (.bool false)))⟩]) .ret) .skip)) (.seq f6_28 f6_33))))))
abbrev f6_1:AC:=.seq (.ops [0] [] [⟨none,.mv (some 2) (.c (.lit (.bool false)))⟩]) (.seq (.seq (.ops [0,19] [] [vv 14 0,vb 15 .lss 14 4998,vv 16 15,⟨some (16,false),.mv (some 17) (.r 0)⟩,⟨some (16,false),.bin (some 18) .num .gtr (.r 17) (.c (.lit (.int .i64 5003)))⟩,⟨none,.pick (some 19) (.r 16) (.c (.lit (.bool true))) (.r 18)⟩]) (.cond (.r 19) (.seq (.ops [2] [] [⟨none,.call (some 20) false (.f 7) []⟩,vo 2 20]) .ret) .skip)) (.seq (.ops [0,3] [] [vv 21 0,⟨none,.x (some 22) (.mks 30 304 (.agg [(.lit (.int .i64 0)),(.lit (.int .i64 0)),(.lit (.int .i64 0)),(.lit (.int .i64 0)),(.lit (.int .i64 0)),(.lit (.int .i64 0)),(.lit (.int .i64 0)),(.lit (.string ⟨#[]⟩)),(.lit (.int .i64 0)),(.lit (.slice none 0 0)),(.lit (.int .i64 0)),(.lit (.int .i64 0)),(.lit (.int .i64 0)),(.lit (.int .u64 0)),(.lit (.int .i64 0)),(.lit (.bool false)),(.lit (.int .i64 0)),(.lit (.int .i64 0)),(.lit (.int .i64 0)),(.lit (.int .i64 0)),(.lit (.slice none 0 0)),(.lit (.int .i64 0)),(.lit (.int .i64 0)),(.lit (.int .i64 0)),(.lit (.int .i64 0)),(.lit (.string ⟨#[]⟩)),(.lit (.int .i64 0)),(.lit (.int .u64 0)),(.lit (.slice none 0 0)),(.lit (.int .u64 0))]) (.r 21) (.r 21))⟩,vo 3 22]) f6_11))
def c_f6:AFun:=⟨123,[.tmp 2],f6_1⟩
theorem k_f6:kX x_f6 6 c_f6:=by delta kX; kernel_rfl
theorem e_f6:eX 6:=by delta eX; kernel_rfl

def n_f7:Nat:=7
def x_f7:=xX 93 [0,1,3,4,5,6,7,8,9,10,11,12,13,14,15,16,17,18,19,20,21,22,23,24,25,26,27,28,29,30,31,32,33,34,35,36,37,38,39,40,41,42,43,44,45,46,47,48,49,50,51,52,53,54,56,57,58,59,60,61,62,63,64,65,66,67,68,69,70,71,72,73,74,75,76,77,78,79,80,81,82,83,84,85,86,87,88,89,90,91,92] [] [(2,[],[]),(6,[1,2],[2]),(14,[1,2,3,4],[2]),(30,[1,2,3,4,5,6],[2]),(62,[1,2,3,4,5,6,7,8],[2]),(252,[1,55],[]),(1012,[0],[]),(254,[1,4,9],[]),(510,[1,4,6,9,10],[]),(1022,[0],[])]
abbrev f7_19:AC:=.seq (.ops [1,4,6,9,10] [] [vv 62 1,⟨none,.sliOwn 63 62 (.c (.lit (.int .i64 5))) 30⟩,⟨none,.call (some 64) false (.f 16) [(.r 63)]⟩,vv 61 64,ve 65 61 0,ve 66 61 1,vo 10 65,vo 6 66]) (.seq (.ops [0] [] [vv 67 1,⟨none,.call (some 68) false (.f 18) [(.r 67),(.c (.lit (.int .i64 6))),(.c (.lit (.int .i64 2)))]⟩,vv 69 68,⟨some (69,true),.mv (some 70) (.r 1)⟩,⟨some (69,true),.call (some 71) false (.f 18) [(.r 70),(.c (.lit (.int .i64 8))),(.c (.lit (.int .i64 3)))]⟩,⟨none,.pick (some 72) (.r 69) (.r 71) (.c (.lit (.bool false)))⟩,vv 73 72,⟨some (73,true),.mv (some 74) (.r 1)⟩,⟨some (73,true),.call (some 75) false (.f 18) [(.r 74),(.c (.lit (.int .i64 3))),(.c (.lit (.int .i64 0)))]⟩,⟨none,.pick (some 76) (.r 73) (.r 75) (.c (.lit (.bool false)))⟩,vv 77 76,⟨some (77,true),.mv (some 78) (.r 4)⟩,⟨some (77,true),.bin (some 79) .num .eql (.r 78) (.c (.lit (.int .i64 0)))⟩,⟨none,.pick (some 80) (.r 77) (.r 79) (.c (.lit (.bool false)))⟩,vv 81 80,⟨some (81,true),.mv (some 82) (.r 9)⟩,⟨some (81,true),.bin (some 83) .num .eql (.r 82) (.c (.lit (.int .i64 (-1))))⟩,⟨none,.pick (some 84) (.r 81) (.r 83) (.c (.lit (.bool false)))⟩,vv 85 84,⟨some (85,true),.mv (some 86) (.r 6)⟩,⟨some (85,true),.bin (some 87) .num .eql (.r 86) (.c (.lit (.int .i64 0)))⟩,⟨none,.pick (some 88) (.r 85) (.r 87) (.c (.lit (.bool false)))⟩,vv 89 88,⟨some (89,true),.mv (some 90) (.r 10)⟩,⟨some (89,true),.bin (some 91) .num .eql (.r 90) (.c (.lit (.int .i64 1)))⟩,⟨none,.pick (some 92) (.r 89) (.r 91) (.c (.lit (.bool false)))⟩,vo 0 92]) .ret)
abbrev f7_11:AC:=.seq (.seq (.ops [1,55] [] [vv 30 4,vb 31 .neq 30 0,vv 32 31,⟨some (32,false),.mv (some 33) (.r 3)⟩,⟨some (32,false),.bst (some 34) [(0,1),(1,1)] (.agg [(.lit (.int .i64 0)),(.lit (.int .i64 0))]) []⟩,⟨some (32,false),.load (some 35) (.r 2) (some 2)⟩,⟨some (32,false),.bsl (some 36) 2 2 (.agg [(.lit (.int .i64 0)),(.lit (.int .i64 0))]) [(0,(.r 34)),(1,(.r 35))]⟩,⟨some (32,false),.call (some 37) false (.f 9) [(.r 33),(.r 36)]⟩,⟨some (32,false),.un (some 38) .not (.r 37)⟩,⟨none,.pick (some 39) (.r 32) (.c (.lit (.bool true))) (.r 38)⟩,vv 40 39,⟨some (40,false),.mv (some 41) (.r 6)⟩,⟨some (40,false),.bin (some 42) .num .neq (.r 41) (.c (.lit (.int .i64 0)))⟩,⟨none,.pick (some 43) (.r 40) (.c (.lit (.bool true))) (.r 42)⟩,vv 44 43,⟨some (44,false),.mv (some 45) (.r 5)⟩,⟨some (44,false),.bin (some 46) .num .neq (.r 45) (.c (.lit (.int .u64 5)))⟩,⟨none,.pick (some 47) (.r 44) (.c (.lit (.bool true))) (.r 46)⟩,vv 48 47,⟨some (48,false),.mv (some 49) (.r 8)⟩,⟨some (48,false),.bin (some 50) .num .neq (.r 49) (.c (.lit (.int .i64 0)))⟩,⟨none,.pick (some 51) (.r 48) (.c (.lit (.bool true))) (.r 50)⟩,vv 52 51,⟨some (52,false),.mv (some 53) (.r 7)⟩,⟨some (52,false),.bin (some 54) .num .neq (.r 53) (.c (.lit (.int .u64 18446744073709551615)))⟩,⟨none,.pick (some 55) (.r 52) (.c (.lit (.bool true))) (.r 54)⟩]) (.cond (.r 55) (.seq (.ops [0] [] [⟨none,.mv (some 0) (.c (.lit (.bool false)))⟩]) .ret) .skip)) (.seq (.ops [1,4,9] [] [vv 57 1,⟨none,.call (some 58) false (.f 16) [(.r 57)]⟩,vv 56 58,ve 59 56 0,ve 60 56 1,vo 9 59,vo 4 60]) f7_19)
abbrev f7_1:AC:=.seq (.ops [] [] [⟨none,.mv (some 0) (.c (.lit (.bool false)))⟩]) (.seq (.ops [1,2] [2] [⟨none,.call (some 11) false (.f 17) []⟩,⟨none,.bst (some 12) [(0,1),(1,1)] (.agg [(.lit (.int .i64 0)),(.lit (.int .i64 0))]) [(0,(.c (.lit (.int .i64 1))))]⟩,⟨none,.newL 2 [(.lit (.int .i64 0)),(.lit (.int .i64 0))]⟩,vo 1 11,⟨none,.store 2 (.r 2) (.r 12)⟩]) (.seq (.ops [1,2,3,4] [2] [vv 14 1,⟨none,.call (some 15) false (.f 8) [(.r 14),(.c (.lit (.int .i64 2)))]⟩,vv 13 15,ve 16 13 0,ve 17 13 1,vo 3 16,vo 4 17]) (.seq (.ops [1,2,3,4,5,6] [2] [vv 19 1,⟨none,.load (some 20) (.r 2) (some 2)⟩,⟨none,.call (some 21) false (.f 11) [(.r 19),(.c (.lit (.int .i64 4))),(.r 20),(.c (.lit (.int .i64 0)))]⟩,vv 18 21,ve 22 18 0,ve 23 18 1,vo 5 22,vo 6 23]) (.seq (.ops [1,2,3,4,5,6,7,8] [2] [vv 25 1,⟨none,.load (some 26) (.r 2) (some 2)⟩,⟨none,.call (some 27) false (.f 11) [(.r 25),(.c (.lit (.int .i64 3))),(.r 26),(.c (.lit (.int .i64 0)))]⟩,vv 24 27,ve 28 24 0,ve 29 24 1,vo 7 28,vo 8 29]) f7_11))))
def c_f7:AFun:=⟨93,[.tmp 0],f7_1⟩
theorem k_f7:kX x_f7 7 c_f7:=by delta kX; kernel_rfl
theorem e_f7:eX 7:=by delta eX; kernel_rfl

def n_f8:Nat:=8
def x_f8:=xX 38 [0,1,4,5,6,7,10,11,12,13,14,15,17,18,19,23,24,25,28,31,33,34,35,36,37] [] [(2,[0,1],[]),(12,[0,1,6],[]),(26,[0,1,6,16],[]),(108,[4,5],[]),(14,[0,1,7],[]),(60,[7,23,24,25],[]),(122,[7,23,24,25],[]),(488,[7,23,24,25,26],[]),(1957,[7],[]),(7832,[7,9,23,24,25],[9]),(15666,[7,9,23,24,25,30],[9]),(31334,[7,23,24,25],[]),(1959,[7,23,24,25],[]),(62,[4,5],[])]
abbrev f8_18:AC:=.seq (.ops [7,23,24,25,26] [] [⟨none,.bin (some 26) .num .lss (.r 25) (.r 24)⟩]) (.seq (.cond (.r 26) .skip (.exit [7] [] 0)) (.seq (.block 1 (.seq (.ops [7,9,23,24,25] [9] [⟨none,.ixS (some 27) (.r 23) (.r 25) 4⟩,⟨none,.load (some 28) (.r 27) (some 4)⟩,⟨none,.newL 9 [(.lit (.int .i64 0)),(.lit (.int .i64 0)),(.lit (.int .i64 0)),(.lit (.bool false))]⟩,⟨none,.store 4 (.r 9) (.r 28)⟩]) (.seq (.ops [7,9,23,24,25,30] [9] [vd 29 9 3,vl 30 29]) (.cond (.r 30) (.ops [7,23,24,25] [] [vo 31 7,vd 32 9 0,⟨none,.load (some 33) (.r 32) (some 2)⟩,⟨none,.bsl (some 34) 2 1 (.agg [(.lit (.int .i64 0)),(.lit (.int .i64 0))]) [(0,(.r 33))]⟩,⟨none,.appS 35 31 2 16 (.r 34)⟩,vo 7 35]) .skip)))) (.ops [7,23,24,25] [] [vb 36 .add 25 1,vv 25 36])))
def f8_17:AC:=.loop [7,23,24,25] [] f8_18
theorem f8_17w:aC P id m f8_17 sf st Q = bA (aC P id m f8_18) [7,23,24,25] [] sf st Q:=rfl
abbrev f8_1:AC:=.seq (.ops [0,1] [] [⟨none,.mv (some 4) (.c (.lit (.slice none 0 0)))⟩,⟨none,.mv (some 5) (.c (.lit (.int .i64 0)))⟩]) (.seq (.seq (.ops [0,1,6] [] [vv 10 0,vv 11 1,vv 12 0,⟨none,.len (some 13) .sl (.r 12)⟩,⟨none,.call (some 14) false (.f 19) [(.r 10),(.r 11),(.r 13)]⟩,vo 6 14]) (.seq (.ops [0,1,6,16] [] [vv 15 6,vb 16 .neq 15 0]) (.cond (.r 16) (.seq (.ops [4,5] [] [vv 17 6,⟨none,.mv (some 4) (.c (.lit (.slice none 0 0)))⟩,vo 5 17]) .ret) .skip))) (.seq (.ops [0,1,7] [] [⟨none,.mv (some 7) (.c (.lit (.slice none 0 0)))⟩]) (.seq (.seq (.ops [7,23,24,25] [] [vv 18 0,vv 19 1,⟨none,.call (some 20) false (.f 20) [(.r 18),(.r 19)]⟩,vn 21 20,vd 22 21 3,vl 23 22,⟨none,.len (some 24) .sl (.r 23)⟩,⟨none,.mv (some 25) (.c (.lit (.int .i64 0)))⟩]) (.block 0 f8_17)) (.seq (.ops [4,5] [] [vv 37 7,vo 4 37,⟨none,.mv (some 5) (.c (.lit (.int .i64 0)))⟩]) .ret))))
def c_f8:AFun:=⟨38,[.tmp 4,.tmp 5],f8_1⟩
theorem k_f8:kX x_f8 8 c_f8:=by delta kX; kernel_rfl
theorem e_f8:eX 8:=by delta eX; kernel_rfl

def n_f9:Nat:=9
def x_f9:=xX 26 [0,1,4,5,6,7,8,9,11,12,13,15,16,18,20,22,24] [] [(2,[0,1],[]),(12,[0,1,10],[]),(52,[4],[]),(28,[0,1,5],[]),(58,[0,1,5],[]),(464,[0,1,5,14],[]),(931,[],[]),(1864,[0,1,5,25],[]),(7460,[4],[]),(467,[0,1,5],[]),(30,[4],[])]
abbrev f9_14:AC:=.seq (.seq (.ops [0,1,5,14] [] [vv 11 5,vv 12 0,⟨none,.len (some 13) .sl (.r 12)⟩,⟨none,.bin (some 14) .num .lss (.r 11) (.r 13)⟩]) (.cond (.r 14) .skip (.exit [] [] 0))) (.seq (.block 1 (.seq (.draw [0,1,5,25] [] [] [vv 17 0,vv 18 5,⟨none,.ixS (some 19) (.r 17) (.r 18) 2⟩,⟨none,.load (some 20) (.r 19) (some 2)⟩,vv 21 1,vv 22 5,⟨none,.ixS (some 23) (.r 21) (.r 22) 2⟩,⟨none,.load (some 24) (.r 23) (some 2)⟩] [⟨none,.bin (some 25) (.agg (.field 0 1 .int (.field 1 1 .int .tt))) .neq (.r 20) (.r 24)⟩]) (.cond (.r 25) (.seq (.ops [4] [] [⟨none,.mv (some 4) (.c (.lit (.bool false)))⟩]) .ret) .skip))) (.ops [0,1,5] [] [vv 15 5,vb 16 .add 15 1,vo 5 16]))
def f9_13:AC:=.loop [0,1,5] [] f9_14
theorem f9_13w:aC P id m f9_13 sf st Q = bA (aC P id m f9_14) [0,1,5] [] sf st Q:=rfl
abbrev f9_1:AC:=.seq (.ops [0,1] [] [⟨none,.mv (some 4) (.c (.lit (.bool false)))⟩]) (.seq (.seq (.ops [0,1,10] [] [vv 6 0,⟨none,.len (some 7) .sl (.r 6)⟩,vv 8 1,⟨none,.len (some 9) .sl (.r 8)⟩,⟨none,.bin (some 10) .num .neq (.r 7) (.r 9)⟩]) (.cond (.r 10) (.seq (.ops [4] [] [⟨none,.mv (some 4) (.c (.lit (.bool false)))⟩]) .ret) .skip)) (.seq (.seq (.ops [0,1,5] [] [⟨none,.mv (some 5) (.c (.lit (.int .i64 0)))⟩]) (.block 0 f9_13)) (.seq (.ops [4] [] [⟨none,.mv (some 4) (.c (.lit (.bool true)))⟩]) .ret)))
def c_f9:AFun:=⟨26,[.tmp 4],f9_1⟩
theorem k_f9:kX x_f9 9 c_f9:=by delta kX; kernel_rfl
theorem e_f9:eX 9:=by delta eX; kernel_rfl

def n_f11:Nat:=11
def x_f11:=xX 31 [0,1,2,3,8,9,10,11,12,13,14,15,16,18,19,20,21,22,23,25,26,27,28,29,30] [27] [(2,[0,1,3,6],[6]),(12,[0,1,3,6,10],[6]),(26,[0,1,3,6,10,17],[6]),(108,[8,9],[]),(28,[0,1,3,6,24],[6]),(116,[8,9],[]),(30,[8,9],[])]
abbrev f11_18:AC:=.drawM [8,9] [] [vv 25 0,vv 26 1] (some 27) (.f 20) [(.r 25),(.r 26)] [(false,⟨none,.load (some 28) (.r 6) (some 2)⟩),(false,vv 29 3)] [⟨none,.call (some 30) false (.f 24) [(.r 27),(.r 28),(.r 29)]⟩,vo 8 30,⟨none,.mv (some 9) (.c (.lit (.int .i64 0)))⟩]
def f11_17:AC:=.seq f11_18 .ret
theorem f11_17e:SQ f11_17 f11_18 .ret:=rfl
abbrev f11_1:AC:=.seq (.ops [0,1,3,6] [6] [⟨none,.boxL 6 2 (.r 2)⟩,⟨none,.mv (some 8) (.c (.lit (.int .u64 0)))⟩,⟨none,.mv (some 9) (.c (.lit (.int .i64 0)))⟩]) (.seq (.seq (.ops [0,1,3,6,10] [6] [vv 11 0,vv 12 1,vv 13 0,⟨none,.len (some 14) .sl (.r 13)⟩,⟨none,.call (some 15) false (.f 19) [(.r 11),(.r 12),(.r 14)]⟩,vo 10 15]) (.seq (.ops [0,1,3,6,10,17] [6] [vv 16 10,vb 17 .neq 16 0]) (.cond (.r 17) (.seq (.ops [8,9] [] [vv 18 10,⟨none,.mv (some 8) (.c (.lit (.int .u64 0)))⟩,vo 9 18]) .ret) .skip))) (.seq (.seq (.ops [0,1,3,6,24] [6] [vv 19 3,vb 20 .neq 19 0,vv 21 20,⟨some (21,true),.mv (some 22) (.r 3)⟩,⟨some (21,true),.bin (some 23) .num .neq (.r 22) (.c (.lit (.int .i64 1)))⟩,⟨none,.pick (some 24) (.r 21) (.r 23) (.c (.lit (.bool false)))⟩]) (.cond (.r 24) (.seq (.ops [8,9] [] [⟨none,.mv (some 8) (.c (.lit (.int .u64 0)))⟩,⟨none,.mv (some 9) (.c (.lit (.int .i64 2)))⟩]) .ret) .skip)) f11_17))
def c_f11:AFun:=⟨31,[.tmp 8,.tmp 9],f11_1⟩
theorem k_f11:kX x_f11 11 c_f11:=by delta kX; kernel_rfl
theorem e_f11:eX 11:=by delta eX; kernel_rfl

def n_f13:Nat:=13
def x_f13:=xX 24 [0,1,4,5,6,7,8,9,10,11,12,13,15,16,17,18,20,22,23] [18] [(2,[0,1],[]),(12,[0,1,6],[]),(26,[0,1,6,14],[]),(108,[4,5],[]),(14,[4,5],[])]
def f13_12h:List GI:=[vv 16 0,
  vv 17 1]
def f13_12p:List (Bool×GI):=[(false,vv 19 0),
  (false,vv 20 1),
  (false,⟨none,.ixS (some 21) (.r 19) (.r 20) 30⟩),
  (false,⟨none,.load (some 22) (.r 21) (some 30)⟩)]
def f13_12l:List GI:=[⟨none,.call (some 23) false (.f 26) [(.r 18),(.r 22)]⟩,
  vo 4 23,
  ⟨none,.mv (some 5) (.c (.lit (.int .i64 0)))⟩]
def f13_12:AC:=.drawM [4,5] [] f13_12h (some 18) (.f 20) [(.r 16),(.r 17)] f13_12p f13_12l
theorem f13_12e:aC P id m f13_12 sf st Q = (m = false∧drawM P id f13_12h (some 18) (.f 20) [(.r 16),(.r 17)] f13_12p sf st (gf P id m [4,5] [] f13_12l Q)):=rfl
abbrev f13_1:AC:=.seq (.ops [0,1] [] [⟨none,.mv (some 4) (.c (.lit (.int .i64 0)))⟩,⟨none,.mv (some 5) (.c (.lit (.int .i64 0)))⟩]) (.seq (.seq (.ops [0,1,6] [] [vv 7 0,vv 8 1,vv 9 0,⟨none,.len (some 10) .sl (.r 9)⟩,vb 11 .sub 10 1,⟨none,.call (some 12) false (.f 19) [(.r 7),(.r 8),(.r 11)]⟩,vo 6 12]) (.seq (.ops [0,1,6,14] [] [vv 13 6,vb 14 .neq 13 0]) (.cond (.r 14) (.seq (.ops [4,5] [] [vv 15 6,⟨none,.mv (some 4) (.c (.lit (.int .i64 0)))⟩,vo 5 15]) .ret) .skip))) (.seq f13_12 .ret))
def c_f13:AFun:=⟨24,[.tmp 4,.tmp 5],f13_1⟩
theorem k_f13:kX x_f13 13 c_f13:=by delta kX; kernel_rfl
theorem e_f13:eX 13:=by delta eX; kernel_rfl

def n_f15:Nat:=15
def x_f15:=xX 37 [0,2,3,4,5,6,7,9,10,11,13,14,15,16,17,18,19,20,22,24,25,26,27,28,29,30,31,32,33,35,36] [17,30] [(2,[0],[]),(12,[0,4],[]),(26,[0,4,12],[]),(108,[2,3],[]),(14,[0,5],[]),(30,[0,5,6],[]),(124,[0,5,6,18,19,20],[]),(250,[0,5,6,18,19,20],[]),(1000,[0,5,6,18,19,20,21],[]),(4005,[6],[]),(16024,[0,5,6,7,8,18,19,20],[8]),(32050,[0,5,6,7,18,19,20],[]),(32051,[0,5,6,18,19,20],[]),(4007,[0,5,6,18,19,20],[]),(126,[2,3],[])]
abbrev f15_20:AC:=.seq (.ops [0,5,6,18,19,20,21] [] [⟨none,.bin (some 21) .num .lss (.r 20) (.r 19)⟩]) (.seq (.cond (.r 21) .skip (.exit [6] [] 0)) (.seq (.block 1 (.seq (.ops [0,5,6,7,8,18,19,20] [8] [vv 22 20,⟨none,.ixS (some 23) (.r 18) (.r 20) 30⟩,⟨none,.load (some 24) (.r 23) (some 30)⟩,⟨none,.newL 8 [(.lit (.int .i64 0)),(.lit (.int .i64 0)),(.lit (.int .i64 0)),(.lit (.int .i64 0)),(.lit (.int .i64 0)),(.lit (.int .i64 0)),(.lit (.int .i64 0)),(.lit (.string ⟨#[]⟩)),(.lit (.int .i64 0)),(.lit (.slice none 0 0)),(.lit (.int .i64 0)),(.lit (.int .i64 0)),(.lit (.int .i64 0)),(.lit (.int .u64 0)),(.lit (.int .i64 0)),(.lit (.bool false)),(.lit (.int .i64 0)),(.lit (.int .i64 0)),(.lit (.int .i64 0)),(.lit (.int .i64 0)),(.lit (.slice none 0 0)),(.lit (.int .i64 0)),(.lit (.int .i64 0)),(.lit (.int .i64 0)),(.lit (.int .i64 0)),(.lit (.string ⟨#[]⟩)),(.lit (.int .i64 0)),(.lit (.int .u64 0)),(.lit (.slice none 0 0)),(.lit (.int .u64 0))]⟩,vo 7 22,⟨none,.store 30 (.r 8) (.r 24)⟩]) (.seq (.ops [0,5,6,7,18,19,20] [] [vo 25 6,vv 26 5,⟨none,.load (some 27) (.r 8) (some 30)⟩,⟨none,.call (some 28) false (.f 26) [(.r 26),(.r 27)]⟩,⟨none,.bsl (some 29) 1 1 (.lit (.int .i64 0)) [(0,(.r 28))]⟩,⟨none,.x (some 30) (.appB (.r 25) 1 8 (.r 29))⟩,vo 6 30]) (.ops [0,5,6,18,19,20] [] [vv 31 5,vv 32 0,vv 33 7,⟨none,.call (some 34) false (.f 38) [(.r 31),(.r 32),(.r 33)]⟩])))) (.ops [0,5,6,18,19,20] [] [vb 35 .add 20 1,vv 20 35])))
def f15_19:AC:=.loop [0,5,6,18,19,20] [] f15_20
theorem f15_19w:aC P id m f15_19 sf st Q = bA (aC P id m f15_20) [0,5,6,18,19,20] [] sf st Q:=rfl
abbrev f15_1:AC:=.seq (.ops [0] [] [⟨none,.mv (some 2) (.c (.lit (.slice none 0 0)))⟩,⟨none,.mv (some 3) (.c (.lit (.int .i64 0)))⟩]) (.seq (.seq (.ops [0,4] [] [vv 9 0,⟨none,.call (some 10) false (.f 19) [(.r 9),(.c (.lit (.int .i64 0))),(.c (.lit (.int .i64 0)))]⟩,vo 4 10]) (.seq (.ops [0,4,12] [] [vv 11 4,vb 12 .neq 11 0]) (.cond (.r 12) (.seq (.ops [2,3] [] [vv 13 4,⟨none,.mv (some 2) (.c (.lit (.slice none 0 0)))⟩,vo 3 13]) .ret) .skip))) (.seq (.ops [0,5] [] [⟨none,.call (some 14) false (.f 37) []⟩,vo 5 14]) (.seq (.ops [0,5,6] [] [vv 15 0,⟨none,.len (some 16) .sl (.r 15)⟩,⟨none,.x (some 17) (.mksB 1 8 (.lit (.int .i64 0)) (.c (.lit (.int .i64 0))) (.r 16))⟩,vo 6 17]) (.seq (.seq (.ops [0,5,6,18,19,20] [] [vv 18 0,⟨none,.len (some 19) .sl (.r 18)⟩,⟨none,.mv (some 20) (.c (.lit (.int .i64 0)))⟩]) (.block 0 f15_19)) (.seq (.ops [2,3] [] [vv 36 6,vo 2 36,⟨none,.mv (some 3) (.c (.lit (.int .i64 0)))⟩]) .ret)))))
def c_f15:AFun:=⟨37,[.tmp 2,.tmp 3],f15_1⟩
theorem k_f15:kX x_f15 15 c_f15:=by delta kX; kernel_rfl
theorem e_f15:eX 15:=by delta eX; kernel_rfl

def n_f16:Nat:=16
def x_f16:=xX 15 [0,2,3,4,5,6,7,8,9,10,12,13,14] [] [(2,[0],[]),(6,[3,4],[]),(28,[3,4,11],[]),(116,[2,3],[]),(30,[2,3],[])]
abbrev f16_1:AC:=.seq (.ops [0] [] [⟨none,.mv (some 2) (.c (.lit (.int .i64 0)))⟩,⟨none,.mv (some 3) (.c (.lit (.int .i64 0)))⟩]) (.seq (.ops [3,4] [] [vv 6 0,⟨none,.call (some 7) false (.f 15) [(.r 6)]⟩,vv 5 7,ve 8 5 0,ve 9 5 1,vo 4 8,vo 3 9]) (.seq (.seq (.ops [3,4,11] [] [vv 10 3,vb 11 .neq 10 0]) (.cond (.r 11) (.seq (.ops [2,3] [] [vv 12 3,⟨none,.mv (some 2) (.c (.lit (.int .i64 0)))⟩,vo 3 12]) .ret) .skip)) (.seq (.ops [2,3] [] [vv 13 4,⟨none,.call (some 14) false (.f 39) [(.r 13),(.c (.lit (.int .i64 1)))]⟩,vo 2 14,⟨none,.mv (some 3) (.c (.lit (.int .i64 0)))⟩]) .ret)))
def c_f16:AFun:=⟨15,[.tmp 2,.tmp 3],f16_1⟩
theorem k_f16:kX x_f16 16 c_f16:=by delta kX; kernel_rfl
theorem e_f16:eX 16:=by delta eX; kernel_rfl

def n_f17:Nat:=17
def x_f17:=xX 25 [0,2,3,4,5,6,7,8,9,10,11,12,13,14,15,16,17,18,19,20,21,22,23,24] [] [(2,[],[]),(6,[1],[1]),(14,[0],[])]
abbrev f17_6:AC:=.ops [0] [] [⟨none,.bst (some 3) [(0,1),(1,2),(3,2),(5,2),(7,1),(8,1),(9,1),(10,1),(11,1)] (.agg [(.lit (.int .i64 0)),(.lit (.int .i64 0)),(.lit (.int .i64 0)),(.lit (.int .i64 0)),(.lit (.int .i64 0)),(.lit (.string ⟨#[]⟩)),(.lit (.int .i64 0)),(.lit (.slice none 0 0)),(.lit (.int .i64 0)),(.lit (.int .i64 0)),(.lit (.int .i64 0)),(.lit (.int .u64 0))]) [(0,(.c (.lit (.int .i64 4)))),(5,(.c (.lit (.int .i64 3))))]⟩,⟨none,.bst (some 4) [(0,1),(1,1),(2,12),(14,1),(15,1),(16,12),(28,1),(29,1)] (.agg [(.lit (.int .i64 0)),(.lit (.int .i64 0)),(.lit (.int .i64 0)),(.lit (.int .i64 0)),(.lit (.int .i64 0)),(.lit (.int .i64 0)),(.lit (.int .i64 0)),(.lit (.string ⟨#[]⟩)),(.lit (.int .i64 0)),(.lit (.slice none 0 0)),(.lit (.int .i64 0)),(.lit (.int .i64 0)),(.lit (.int .i64 0)),(.lit (.int .u64 0)),(.lit (.int .i64 0)),(.lit (.bool false)),(.lit (.int .i64 0)),(.lit (.int .i64 0)),(.lit (.int .i64 0)),(.lit (.int .i64 0)),(.lit (.slice none 0 0)),(.lit (.int .i64 0)),(.lit (.int .i64 0)),(.lit (.int .i64 0)),(.lit (.int .i64 0)),(.lit (.string ⟨#[]⟩)),(.lit (.int .i64 0)),(.lit (.int .u64 0)),(.lit (.slice none 0 0)),(.lit (.int .u64 0))]) [(0,(.c (.lit (.int .i64 1)))),(2,(.r 3))]⟩,⟨none,.load (some 5) (.r 1) (some 2)⟩,⟨none,.bst (some 6) [(0,1),(1,1),(2,1),(3,1),(4,1),(5,2),(7,2),(9,2),(11,1)] (.agg [(.lit (.int .i64 0)),(.lit (.int .i64 0)),(.lit (.int .i64 0)),(.lit (.int .i64 0)),(.lit (.slice none 0 0)),(.lit (.int .i64 0)),(.lit (.int .i64 0)),(.lit (.int .i64 0)),(.lit (.int .i64 0)),(.lit (.string ⟨#[]⟩)),(.lit (.int .i64 0)),(.lit (.int .u64 0))]) [(1,(.c (.lit (.int .i64 4)))),(6,(.r 5))]⟩,⟨none,.bst (some 7) [(0,1),(1,1),(2,12),(14,1),(15,1),(16,12),(28,1),(29,1)] (.agg [(.lit (.int .i64 0)),(.lit (.int .i64 0)),(.lit (.int .i64 0)),(.lit (.int .i64 0)),(.lit (.int .i64 0)),(.lit (.int .i64 0)),(.lit (.int .i64 0)),(.lit (.string ⟨#[]⟩)),(.lit (.int .i64 0)),(.lit (.slice none 0 0)),(.lit (.int .i64 0)),(.lit (.int .i64 0)),(.lit (.int .i64 0)),(.lit (.int .u64 0)),(.lit (.int .i64 0)),(.lit (.bool false)),(.lit (.int .i64 0)),(.lit (.int .i64 0)),(.lit (.int .i64 0)),(.lit (.int .i64 0)),(.lit (.slice none 0 0)),(.lit (.int .i64 0)),(.lit (.int .i64 0)),(.lit (.int .i64 0)),(.lit (.int .i64 0)),(.lit (.string ⟨#[]⟩)),(.lit (.int .i64 0)),(.lit (.int .u64 0)),(.lit (.slice none 0 0)),(.lit (.int .u64 0))]) [(0,(.c (.lit (.int .i64 2)))),(4,(.c (.lit (.bool true)))),(5,(.r 6))]⟩,⟨none,.load (some 8) (.r 1) (some 2)⟩,⟨none,.bst (some 9) [(0,1),(1,2),(3,2),(5,2),(7,1),(8,1),(9,1),(10,1),(11,1)] (.agg [(.lit (.int .i64 0)),(.lit (.int .i64 0)),(.lit (.int .i64 0)),(.lit (.int .i64 0)),(.lit (.int .i64 0)),(.lit (.string ⟨#[]⟩)),(.lit (.int .i64 0)),(.lit (.slice none 0 0)),(.lit (.int .i64 0)),(.lit (.int .i64 0)),(.lit (.int .i64 0)),(.lit (.int .u64 0))]) [(0,(.c (.lit (.int .i64 10)))),(1,(.r 8)),(8,(.c (.lit (.int .u64 5))))]⟩,⟨none,.bst (some 10) [(0,1),(1,1),(2,12),(14,1),(15,1),(16,12),(28,1),(29,1)] (.agg [(.lit (.int .i64 0)),(.lit (.int .i64 0)),(.lit (.int .i64 0)),(.lit (.int .i64 0)),(.lit (.int .i64 0)),(.lit (.int .i64 0)),(.lit (.int .i64 0)),(.lit (.string ⟨#[]⟩)),(.lit (.int .i64 0)),(.lit (.slice none 0 0)),(.lit (.int .i64 0)),(.lit (.int .i64 0)),(.lit (.int .i64 0)),(.lit (.int .u64 0)),(.lit (.int .i64 0)),(.lit (.bool false)),(.lit (.int .i64 0)),(.lit (.int .i64 0)),(.lit (.int .i64 0)),(.lit (.int .i64 0)),(.lit (.slice none 0 0)),(.lit (.int .i64 0)),(.lit (.int .i64 0)),(.lit (.int .i64 0)),(.lit (.int .i64 0)),(.lit (.string ⟨#[]⟩)),(.lit (.int .i64 0)),(.lit (.int .u64 0)),(.lit (.slice none 0 0)),(.lit (.int .u64 0))]) [(0,(.c (.lit (.int .i64 1)))),(2,(.r 9))]⟩,⟨none,.bst (some 11) [(0,1),(1,1),(2,1),(3,1),(4,1),(5,2),(7,2),(9,2),(11,1)] (.agg [(.lit (.int .i64 0)),(.lit (.int .i64 0)),(.lit (.int .i64 0)),(.lit (.int .i64 0)),(.lit (.slice none 0 0)),(.lit (.int .i64 0)),(.lit (.int .i64 0)),(.lit (.int .i64 0)),(.lit (.int .i64 0)),(.lit (.string ⟨#[]⟩)),(.lit (.int .i64 0)),(.lit (.int .u64 0))]) [(1,(.c (.lit (.int .i64 10))))]⟩,⟨none,.bst (some 12) [(0,1),(1,1),(2,12),(14,1),(15,1),(16,12),(28,1),(29,1)] (.agg [(.lit (.int .i64 0)),(.lit (.int .i64 0)),(.lit (.int .i64 0)),(.lit (.int .i64 0)),(.lit (.int .i64 0)),(.lit (.int .i64 0)),(.lit (.int .i64 0)),(.lit (.string ⟨#[]⟩)),(.lit (.int .i64 0)),(.lit (.slice none 0 0)),(.lit (.int .i64 0)),(.lit (.int .i64 0)),(.lit (.int .i64 0)),(.lit (.int .u64 0)),(.lit (.int .i64 0)),(.lit (.bool false)),(.lit (.int .i64 0)),(.lit (.int .i64 0)),(.lit (.int .i64 0)),(.lit (.int .i64 0)),(.lit (.slice none 0 0)),(.lit (.int .i64 0)),(.lit (.int .i64 0)),(.lit (.int .i64 0)),(.lit (.int .i64 0)),(.lit (.string ⟨#[]⟩)),(.lit (.int .i64 0)),(.lit (.int .u64 0)),(.lit (.slice none 0 0)),(.lit (.int .u64 0))]) [(0,(.c (.lit (.int .i64 2)))),(4,(.c (.lit (.bool true)))),(5,(.r 11))]⟩,⟨none,.bst (some 13) [(0,1),(1,1),(2,12),(14,1),(15,1),(16,12),(28,1),(29,1)] (.agg [(.lit (.int .i64 0)),(.lit (.int .i64 0)),(.lit (.int .i64 0)),(.lit (.int .i64 0)),(.lit (.int .i64 0)),(.lit (.int .i64 0)),(.lit (.int .i64 0)),(.lit (.string ⟨#[]⟩)),(.lit (.int .i64 0)),(.lit (.slice none 0 0)),(.lit (.int .i64 0)),(.lit (.int .i64 0)),(.lit (.int .i64 0)),(.lit (.int .u64 0)),(.lit (.int .i64 0)),(.lit (.bool false)),(.lit (.int .i64 0)),(.lit (.int .i64 0)),(.lit (.int .i64 0)),(.lit (.int .i64 0)),(.lit (.slice none 0 0)),(.lit (.int .i64 0)),(.lit (.int .i64 0)),(.lit (.int .i64 0)),(.lit (.int .i64 0)),(.lit (.string ⟨#[]⟩)),(.lit (.int .i64 0)),(.lit (.int .u64 0)),(.lit (.slice none 0 0)),(.lit (.int .u64 0))]) [(0,(.c (.lit (.int .i64 3)))),(7,(.c (.lit (.int .u64 5))))]⟩,⟨none,.load (some 14) (.r 1) (some 2)⟩,⟨none,.bst (some 15) [(0,1),(1,2),(3,2),(5,2),(7,1),(8,1),(9,1),(10,1),(11,1)] (.agg [(.lit (.int .i64 0)),(.lit (.int .i64 0)),(.lit (.int .i64 0)),(.lit (.int .i64 0)),(.lit (.int .i64 0)),(.lit (.string ⟨#[]⟩)),(.lit (.int .i64 0)),(.lit (.slice none 0 0)),(.lit (.int .i64 0)),(.lit (.int .i64 0)),(.lit (.int .i64 0)),(.lit (.int .u64 0))]) [(0,(.c (.lit (.int .i64 5)))),(1,(.r 14)),(5,(.c (.lit (.int .i64 9))))]⟩,⟨none,.bst (some 16) [(0,1),(1,1),(2,12),(14,1),(15,1),(16,12),(28,1),(29,1)] (.agg [(.lit (.int .i64 0)),(.lit (.int .i64 0)),(.lit (.int .i64 0)),(.lit (.int .i64 0)),(.lit (.int .i64 0)),(.lit (.int .i64 0)),(.lit (.int .i64 0)),(.lit (.string ⟨#[]⟩)),(.lit (.int .i64 0)),(.lit (.slice none 0 0)),(.lit (.int .i64 0)),(.lit (.int .i64 0)),(.lit (.int .i64 0)),(.lit (.int .u64 0)),(.lit (.int .i64 0)),(.lit (.bool false)),(.lit (.int .i64 0)),(.lit (.int .i64 0)),(.lit (.int .i64 0)),(.lit (.int .i64 0)),(.lit (.slice none 0 0)),(.lit (.int .i64 0)),(.lit (.int .i64 0)),(.lit (.int .i64 0)),(.lit (.int .i64 0)),(.lit (.string ⟨#[]⟩)),(.lit (.int .i64 0)),(.lit (.int .u64 0)),(.lit (.slice none 0 0)),(.lit (.int .u64 0))]) [(0,(.c (.lit (.int .i64 1)))),(1,(.c (.lit (.int .i64 1)))),(2,(.r 15)),(7,(.c (.lit (.int .u64 5))))]⟩,⟨none,.bst (some 17) [(0,1),(1,1),(2,1),(3,1),(4,1),(5,2),(7,2),(9,2),(11,1)] (.agg [(.lit (.int .i64 0)),(.lit (.int .i64 0)),(.lit (.int .i64 0)),(.lit (.int .i64 0)),(.lit (.slice none 0 0)),(.lit (.int .i64 0)),(.lit (.int .i64 0)),(.lit (.int .i64 0)),(.lit (.int .i64 0)),(.lit (.string ⟨#[]⟩)),(.lit (.int .i64 0)),(.lit (.int .u64 0))]) [(0,(.c (.lit (.int .i64 1)))),(1,(.c (.lit (.int .i64 5)))),(2,(.c (.lit (.int .i64 12)))),(8,(.c (.lit (.int .u64 5))))]⟩,⟨none,.bst (some 18) [(0,1),(1,1),(2,12),(14,1),(15,1),(16,12),(28,1),(29,1)] (.agg [(.lit (.int .i64 0)),(.lit (.int .i64 0)),(.lit (.int .i64 0)),(.lit (.int .i64 0)),(.lit (.int .i64 0)),(.lit (.int .i64 0)),(.lit (.int .i64 0)),(.lit (.string ⟨#[]⟩)),(.lit (.int .i64 0)),(.lit (.slice none 0 0)),(.lit (.int .i64 0)),(.lit (.int .i64 0)),(.lit (.int .i64 0)),(.lit (.int .u64 0)),(.lit (.int .i64 0)),(.lit (.bool false)),(.lit (.int .i64 0)),(.lit (.int .i64 0)),(.lit (.int .i64 0)),(.lit (.int .i64 0)),(.lit (.slice none 0 0)),(.lit (.int .i64 0)),(.lit (.int .i64 0)),(.lit (.int .i64 0)),(.lit (.int .i64 0)),(.lit (.string ⟨#[]⟩)),(.lit (.int .i64 0)),(.lit (.int .u64 0)),(.lit (.slice none 0 0)),(.lit (.int .u64 0))]) [(0,(.c (.lit (.int .i64 2)))),(1,(.c (.lit (.int .i64 1)))),(4,(.c (.lit (.bool true)))),(5,(.r 17)),(7,(.c (.lit (.int .u64 5))))]⟩,⟨none,.bst (some 19) [(0,1),(1,1)] (.agg [(.lit (.int .i64 0)),(.lit (.int .i64 0))]) [(0,(.c (.lit (.int .i64 9))))]⟩,⟨none,.bst (some 20) [(0,1),(1,2),(3,2),(5,2),(7,1),(8,1),(9,1),(10,1),(11,1)] (.agg [(.lit (.int .i64 0)),(.lit (.int .i64 0)),(.lit (.int .i64 0)),(.lit (.int .i64 0)),(.lit (.int .i64 0)),(.lit (.string ⟨#[]⟩)),(.lit (.int .i64 0)),(.lit (.slice none 0 0)),(.lit (.int .i64 0)),(.lit (.int .i64 0)),(.lit (.int .i64 0)),(.lit (.int .u64 0))]) [(0,(.c (.lit (.int .i64 5)))),(1,(.r 19)),(5,(.c (.lit (.int .i64 1))))]⟩,⟨none,.bst (some 21) [(0,1),(1,1),(2,12),(14,1),(15,1),(16,12),(28,1),(29,1)] (.agg [(.lit (.int .i64 0)),(.lit (.int .i64 0)),(.lit (.int .i64 0)),(.lit (.int .i64 0)),(.lit (.int .i64 0)),(.lit (.int .i64 0)),(.lit (.int .i64 0)),(.lit (.string ⟨#[]⟩)),(.lit (.int .i64 0)),(.lit (.slice none 0 0)),(.lit (.int .i64 0)),(.lit (.int .i64 0)),(.lit (.int .i64 0)),(.lit (.int .u64 0)),(.lit (.int .i64 0)),(.lit (.bool false)),(.lit (.int .i64 0)),(.lit (.int .i64 0)),(.lit (.int .i64 0)),(.lit (.int .i64 0)),(.lit (.slice none 0 0)),(.lit (.int .i64 0)),(.lit (.int .i64 0)),(.lit (.int .i64 0)),(.lit (.int .i64 0)),(.lit (.string ⟨#[]⟩)),(.lit (.int .i64 0)),(.lit (.int .u64 0)),(.lit (.slice none 0 0)),(.lit (.int .u64 0))]) [(0,(.c (.lit (.int .i64 1)))),(2,(.r 20)),(7,(.c (.lit (.int .u64 5))))]⟩,⟨none,.bst (some 22) [(0,1),(1,1),(2,1),(3,1),(4,1),(5,2),(7,2),(9,2),(11,1)] (.agg [(.lit (.int .i64 0)),(.lit (.int .i64 0)),(.lit (.int .i64 0)),(.lit (.int .i64 0)),(.lit (.slice none 0 0)),(.lit (.int .i64 0)),(.lit (.int .i64 0)),(.lit (.int .i64 0)),(.lit (.int .i64 0)),(.lit (.string ⟨#[]⟩)),(.lit (.int .i64 0)),(.lit (.int .u64 0))]) [(1,(.c (.lit (.int .i64 5)))),(2,(.c (.lit (.int .i64 9)))),(8,(.c (.lit (.int .u64 5))))]⟩,⟨none,.bst (some 23) [(0,1),(1,1),(2,12),(14,1),(15,1),(16,12),(28,1),(29,1)] (.agg [(.lit (.int .i64 0)),(.lit (.int .i64 0)),(.lit (.int .i64 0)),(.lit (.int .i64 0)),(.lit (.int .i64 0)),(.lit (.int .i64 0)),(.lit (.int .i64 0)),(.lit (.string ⟨#[]⟩)),(.lit (.int .i64 0)),(.lit (.slice none 0 0)),(.lit (.int .i64 0)),(.lit (.int .i64 0)),(.lit (.int .i64 0)),(.lit (.int .u64 0)),(.lit (.int .i64 0)),(.lit (.bool false)),(.lit (.int .i64 0)),(.lit (.int .i64 0)),(.lit (.int .i64 0)),(.lit (.int .i64 0)),(.lit (.slice none 0 0)),(.lit (.int .i64 0)),(.lit (.int .i64 0)),(.lit (.int .i64 0)),(.lit (.int .i64 0)),(.lit (.string ⟨#[]⟩)),(.lit (.int .i64 0)),(.lit (.int .u64 0)),(.lit (.slice none 0 0)),(.lit (.int .u64 0))]) [(0,(.c (.lit (.int .i64 2)))),(4,(.c (.lit (.bool true)))),(5,(.r 22)),(7,(.c (.lit (.int .u64 5))))]⟩,⟨none,.bsl (some 24) 30 9 (.agg [(.lit (.int .i64 0)),(.lit (.int .i64 0)),(.lit (.int .i64 0)),(.lit (.int .i64 0)),(.lit (.int .i64 0)),(.lit (.int .i64 0)),(.lit (.int .i64 0)),(.lit (.string ⟨#[]⟩)),(.lit (.int .i64 0)),(.lit (.slice none 0 0)),(.lit (.int .i64 0)),(.lit (.int .i64 0)),(.lit (.int .i64 0)),(.lit (.int .u64 0)),(.lit (.int .i64 0)),(.lit (.bool false)),(.lit (.int .i64 0)),(.lit (.int .i64 0)),(.lit (.int .i64 0)),(.lit (.int .i64 0)),(.lit (.slice none 0 0)),(.lit (.int .i64 0)),(.lit (.int .i64 0)),(.lit (.int .i64 0)),(.lit (.int .i64 0)),(.lit (.string ⟨#[]⟩)),(.lit (.int .i64 0)),(.lit (.int .u64 0)),(.lit (.slice none 0 0)),(.lit (.int .u64 0))]) [(0,(.r 4)),(1,(.r 7)),(2,(.r 10)),(3,(.r 12)),(4,(.r 13)),(5,(.r 16)),(6,(.r 18)),(7,(.r 21)),(8,(.r 23))]⟩,vo 0 24]
abbrev f17_1:AC:=.seq (.ops [] [] [⟨none,.mv (some 0) (.c (.lit (.slice none 0 0)))⟩]) (.seq (.ops [1] [1] [⟨none,.bst (some 2) [(0,1),(1,1)] (.agg [(.lit (.int .i64 0)),(.lit (.int .i64 0))]) [(0,(.c (.lit (.int .i64 1))))]⟩,⟨none,.newL 1 [(.lit (.int .i64 0)),(.lit (.int .i64 0))]⟩,⟨none,.store 2 (.r 1) (.r 2)⟩]) (.seq f17_6 .ret))
def c_f17:AFun:=⟨25,[.tmp 0],f17_1⟩
theorem k_f17:kX x_f17 17 c_f17:=by delta kX; kernel_rfl
theorem e_f17:eX 17:=by delta eX; kernel_rfl

def n_f18:Nat:=18
def x_f18:=xX 22 [0,1,2,6,7,8,9,10,11,12,13,14,15,16,17,18,19,20,21] [] [(2,[0,1,2],[]),(6,[2,7,8],[]),(14,[6],[])]
abbrev f18_1:AC:=.seq (.ops [0,1,2] [] [⟨none,.mv (some 6) (.c (.lit (.bool false)))⟩]) (.seq (.ops [2,7,8] [] [vv 10 0,vv 11 1,⟨none,.call (some 12) false (.f 13) [(.r 10),(.r 11)]⟩,vv 9 12,ve 13 9 0,ve 14 9 1,vo 7 13,vo 8 14]) (.seq (.ops [6] [] [vv 15 8,vb 16 .eql 15 0,vv 17 16,⟨some (17,true),.mv (some 18) (.r 7)⟩,⟨some (17,true),.mv (some 19) (.r 2)⟩,⟨some (17,true),.bin (some 20) .num .eql (.r 18) (.r 19)⟩,⟨none,.pick (some 21) (.r 17) (.r 20) (.c (.lit (.bool false)))⟩,vo 6 21]) .ret))
def c_f18:AFun:=⟨22,[.tmp 6],f18_1⟩
theorem k_f18:kX x_f18 18 c_f18:=by delta kX; kernel_rfl
theorem e_f18:eX 18:=by delta eX; kernel_rfl

def n_f19:Nat:=19
def x_f19:=xX 19 [0,1,2,6,8,9,10,12,13,14,15,16,17,18] [] [(2,[0,1,2],[]),(24,[1,2,7],[]),(100,[6],[]),(102,[11],[]),(412,[6],[]),(14,[6],[])]
abbrev f19_1:AC:=.seq (.ops [0,1,2] [] [⟨none,.mv (some 6) (.c (.lit (.int .i64 0)))⟩]) (.seq (.block 0 (.seq (.ops [1,2,7] [] [vv 8 0,⟨none,.len (some 9) .sl (.r 8)⟩,vb 10 .gtr 9 5000,vo 7 10]) (.cond (.r 7) (.seq (.ops [6] [] [⟨none,.mv (some 6) (.c (.lit (.int .i64 7)))⟩]) .ret) (.seq (.ops [11] [] [vv 12 1,vb 13 .lss 12 0,vv 14 13,⟨some (14,false),.mv (some 15) (.r 1)⟩,⟨some (14,false),.mv (some 16) (.r 2)⟩,⟨some (14,false),.bin (some 17) .num .gtr (.r 15) (.r 16)⟩,⟨none,.pick (some 18) (.r 14) (.c (.lit (.bool true))) (.r 17)⟩,vo 11 18]) (.cond (.r 11) (.seq (.ops [6] [] [⟨none,.mv (some 6) (.c (.lit (.int .i64 3)))⟩]) .ret) .skip))))) (.seq (.ops [6] [] [⟨none,.mv (some 6) (.c (.lit (.int .i64 0)))⟩]) .ret))
def c_f19:AFun:=⟨19,[.tmp 6],f19_1⟩
theorem k_f19:kX x_f19 19 c_f19:=by delta kX; kernel_rfl
theorem e_f19:eX 19:=by delta eX; kernel_rfl

def n_f20:Nat:=20
def x_f20:=xX 18 [0,1,4,5,6,7,8,9,11,12,13,14,16,17] [] [(2,[0,1],[]),(6,[0,1,5],[]),(28,[0,5,8,9],[]),(58,[0,5,8,9],[]),(232,[0,5,8,9,10],[]),(933,[5],[]),(3736,[0,5,6,8,9],[]),(3737,[0,5,8,9],[]),(935,[0,5,8,9],[]),(30,[4],[])]
abbrev f20_10:AC:=.seq (.ops [0,5,8,9,10] [] [⟨none,.bin (some 10) .num .lss (.r 9) (.r 8)⟩]) (.seq (.cond (.r 10) .skip (.exit [5] [] 0)) (.seq (.block 1 (.seq (.ops [0,5,6,8,9] [] [vv 11 9,vo 6 11]) (.ops [0,5,8,9] [] [vv 12 5,vv 13 0,vv 14 6,⟨none,.call (some 15) false (.f 38) [(.r 12),(.r 13),(.r 14)]⟩]))) (.ops [0,5,8,9] [] [vb 16 .add 9 1,vv 9 16])))
def f20_9:AC:=.loop [0,5,8,9] [] f20_10
theorem f20_9w:aC P id m f20_9 sf st Q = bA (aC P id m f20_10) [0,5,8,9] [] sf st Q:=rfl
abbrev f20_1:AC:=.seq (.ops [0,1] [] [⟨none,.mv (some 4) (.c (.lit (.pointer none)))⟩]) (.seq (.ops [0,1,5] [] [⟨none,.call (some 7) false (.f 37) []⟩,vo 5 7]) (.seq (.seq (.ops [0,5,8,9] [] [vv 8 1,⟨none,.mv (some 9) (.c (.lit (.int .i64 0)))⟩]) (.block 0 f20_9)) (.seq (.ops [4] [] [vv 17 5,vo 4 17]) .ret)))
def c_f20:AFun:=⟨18,[.tmp 4],f20_1⟩
theorem k_f20:kX x_f20 20 c_f20:=by delta kX; kernel_rfl
theorem e_f20:eX 20:=by delta eX; kernel_rfl

def n_f24:Nat:=24
def x_f24:=xX 22 [1,2,6,7,9,13,14,15,16,17,18,19,21] [] [(2,[0,2,4],[4]),(12,[7,8],[]),(26,[7,20],[]),(108,[6],[]),(14,[6],[])]
abbrev f24_1:AC:=.seq (.ops [0,2,4] [4] [⟨none,.boxL 4 2 (.r 1)⟩,⟨none,.mv (some 6) (.c (.lit (.int .u64 0)))⟩]) (.seq (.seq (.draw [7,8] [] [] [vv 10 0,vn 11 10,vd 12 11 5,vl 13 12,⟨none,.load (some 14) (.r 4) (some 2)⟩,vv 15 2,⟨none,.bst (some 16) [(0,2),(2,1)] (.agg [(.lit (.int .i64 0)),(.lit (.int .i64 0)),(.lit (.int .i64 0))]) [(0,(.r 14)),(1,(.r 15))]⟩,⟨none,.lookup (some 17) (.agg 3) (.lit (.int .u64 0)) true (.r 13) (.r 16)⟩,vv 9 17,ve 18 9 0,ve 19 9 1,vv 7 18] [vo 8 19]) (.seq (.ops [7,20] [] [vv 20 8]) (.cond (.r 20) (.seq (.ops [6] [] [vv 21 7,vo 6 21]) .ret) .skip))) (.seq (.ops [6] [] [⟨none,.mv (some 6) (.c (.lit (.int .u64 18446744073709551615)))⟩]) .ret))
def c_f24:AFun:=⟨22,[.tmp 6],f24_1⟩
theorem k_f24:kX x_f24 24 c_f24:=by delta kX; kernel_rfl
theorem e_f24:eX 24:=by delta eX; kernel_rfl

def n_f26:Nat:=26
def x_f26:=xX 154 [0,1,4,5,6,7,8,10,11,12,14,15,17,19,20,21,25,27,28,29,30,32,33,34,36,37,38,39,42,43,45,49,51,52,53,54,55,56,57,59,62,63,68,69,70,73,75,76,77,78,80,81,82,84,85,86,87,88,89,91,92,93,94,95,96,98,99,100,101,102,103,105,106,108,109,110,111,113,114,115,116,117,119,120,124,125,126,128,129,130,131,132,134,135,137,138,139,140,141,142,144,145,147,148,149,150,151,152,153] [] [(3000000019,[17,21,22,4,46,45,53,54,7],[]),(2,[0,3],[3]),(6,[0,3,5],[3]),(28,[0,3,5,16],[3]),(116,[4],[]),(60,[0,3,5,44],[3]),(244,[4],[]),(62,[0,3,5,6,7],[3]),(252,[0,3,5,6,64],[3]),(1012,[4],[]),(254,[0,3,5,6,8],[3]),(1020,[0,3,5,6,8,73],[3]),(4084,[0,3,5,6,8,73,74],[3]),(16340,[4],[]),(16342,[0,5,6,8,73,83],[]),(65372,[4],[]),(65374,[0,5,6,8,73,90],[]),(261500,[4],[]),(261502,[0,5,6,8,73,97],[]),(1046012,[4],[]),(1046014,[0,5,6,8,73,104],[]),(4184060,[4],[]),(4184062,[0,5,6,8,73,118],[]),(16736252,[4],[]),(16736254,[5,6,8,73,133],[]),(66945020,[4],[]),(66945022,[5,6,8,143],[]),(267780092,[4],[]),(1022,[4],[])]
def f26_2l:List GI:=[⟨none,.boxL 3 30 (.r 1)⟩,
  ⟨none,.mv (some 4) (.c (.lit (.int .i64 0)))⟩]
def f43:AC:=.ops [0,3] [3] f26_2l
theorem f26_2e:OP f43 f26_2l [0,3] [3]:=rfl
def f26_18h:List (Bool×GI):=[(false,vv 46 0),
  (false,vn 47 46),
  (false,vd 48 47 1),
  (false,vl 49 48),
  (false,vd 50 3 1),
  (false,vl 51 50),
  (false,⟨none,.lookup (some 52) (.int .i64) (.agg [(.lit (.int .i64 0)),(.lit (.int .i64 0)),(.lit (.int .i64 0)),(.lit (.int .i64 0)),(.lit (.int .i64 0)),(.lit (.string ⟨#[]⟩)),(.lit (.int .i64 0)),(.lit (.slice none 0 0)),(.lit (.int .i64 0)),(.lit (.int .i64 0)),(.lit (.int .i64 0)),(.lit (.int .u64 0))]) true (.r 49) (.r 51)⟩),
  (false,vv 45 52),
  (false,ve 53 45 0),
  (false,ve 54 45 1),
  (true,⟨none,.newB 6 [(.lit (.int .i64 0)),(.lit (.int .i64 0)),(.lit (.int .i64 0)),(.lit (.int .i64 0)),(.lit (.int .i64 0)),(.lit (.string ⟨#[]⟩)),(.lit (.int .i64 0)),(.lit (.slice none 0 0)),(.lit (.int .i64 0)),(.lit (.int .i64 0)),(.lit (.int .i64 0)),(.lit (.int .u64 0))]⟩)]
def f26_18l:List GI:=[⟨none,.store 12 (.r 6) (.r 53)⟩,
  vo 7 54]
def f26_18:AC:=.drawG [0,3,5,6,7] [3] [6] f26_18h f26_18l
theorem f26_18e:aC P id m f26_18 sf st Q = (m = false∧drawX P id sf.locs st f26_18h (tailX P id m [6] [0,3,5,6,7] [3] f26_18l Q) ⟨sf.regs,aH [6] sf.locs⟩):=rfl
abbrev f26_20:AC:=.seq (.ops [0,3,5,6,64] [3] [vv 55 7,⟨none,.un (some 56) .not (.r 55)⟩,vv 57 56,⟨some (57,false),.addr (some 58) (.r 6) 0⟩,⟨some (57,false),.load (some 59) (.r 58) none⟩,⟨some (57,false),.addr (some 60) (.r 3) 16⟩,⟨some (57,false),.addr (some 61) (.r 60) 1⟩,⟨some (57,false),.load (some 62) (.r 61) none⟩,⟨some (57,false),.bin (some 63) .num .neq (.r 59) (.r 62)⟩,⟨none,.pick (some 64) (.r 57) (.c (.lit (.bool true))) (.r 63)⟩]) (.cond (.r 64) (.seq (.ops [4] [] [⟨none,.mv (some 4) (.c (.lit (.int .i64 1)))⟩]) .ret) .skip)
abbrev f26_56:AC:=.seq (.ops [0,5,6,8,73,118] [] [vb 119 .eql 73 7,vo 118 119]) (.cond (.r 118) (.seq (.ops [4] [] [vv 120 5,vv 121 0,vn 122 121,vd 123 122 4,vl 124 123,vb 125 .geq 124 127,vv 126 125,⟨some (126,true),.addr (some 127) (.r 6) 0⟩,⟨some (126,true),.load (some 128) (.r 127) none⟩,⟨some (126,true),.bsl (some 129) 1 4 (.lit (.int .i64 0)) [(0,(.c (.lit (.int .i64 1)))),(1,(.c (.lit (.int .i64 2)))),(2,(.c (.lit (.int .i64 3)))),(3,(.c (.lit (.int .i64 4))))]⟩,⟨some (126,true),.call (some 130) false (.f 49) [(.r 128),(.r 129)]⟩,⟨none,.pick (some 131) (.r 126) (.r 130) (.c (.lit (.bool false)))⟩,⟨none,.call (some 132) false (.r 120) [(.r 131),(.c (.lit (.int .i64 7)))]⟩,vo 4 132]) .ret) (.seq (.ops [5,6,8,73,133] [] [vb 134 .eql 73 11,vo 133 134]) (.cond (.r 133) (.seq (.ops [4] [] [vv 135 5,vd 136 6 0,vl 137 136,vb 138 .eql 137 1,vv 139 138,⟨some (139,true),.mv (some 140) (.r 8)⟩,⟨none,.pick (some 141) (.r 139) (.r 140) (.c (.lit (.bool false)))⟩,⟨none,.call (some 142) false (.r 135) [(.r 141),(.c (.lit (.int .i64 8)))]⟩,vo 4 142]) .ret) (.seq (.ops [5,6,8,143] [] [vb 144 .eql 73 15,vo 143 144]) (.cond (.r 143) (.seq (.ops [4] [] [vv 145 5,vd 146 6 0,vl 147 146,vb 148 .eql 147 3,vv 149 148,⟨some (149,true),.mv (some 150) (.r 8)⟩,⟨some (149,true),.un (some 151) .not (.r 150)⟩,⟨none,.pick (some 152) (.r 149) (.r 151) (.c (.lit (.bool false)))⟩,⟨none,.call (some 153) false (.r 145) [(.r 152),(.c (.lit (.int .i64 9)))]⟩,vo 4 153]) .ret) .skip)))))
abbrev f26_38:AC:=.cond (.r 83) (.seq (.ops [4] [] [vv 85 5,vv 86 0,⟨none,.load (some 87) (.r 6) (some 12)⟩,⟨none,.call (some 88) false (.f 45) [(.r 86),(.r 87)]⟩,⟨none,.call (some 89) false (.r 85) [(.r 88),(.c (.lit (.int .i64 3)))]⟩,vo 4 89]) .ret) (.seq (.ops [0,5,6,8,73,90] [] [vb 91 .eql 73 8,vo 90 91]) (.cond (.r 90) (.seq (.ops [4] [] [vv 92 5,vv 93 0,⟨none,.load (some 94) (.r 6) (some 12)⟩,⟨none,.call (some 95) false (.f 46) [(.r 93),(.r 94)]⟩,⟨none,.call (some 96) false (.r 92) [(.r 95),(.c (.lit (.int .i64 4)))]⟩,vo 4 96]) .ret) (.seq (.ops [0,5,6,8,73,97] [] [vb 98 .eql 73 14,vo 97 98]) (.cond (.r 97) (.seq (.ops [4] [] [vv 99 5,vv 100 0,⟨none,.load (some 101) (.r 6) (some 12)⟩,⟨none,.call (some 102) false (.f 47) [(.r 100),(.r 101)]⟩,⟨none,.call (some 103) false (.r 99) [(.r 102),(.c (.lit (.int .i64 5)))]⟩,vo 4 103]) .ret) (.seq (.ops [0,5,6,8,73,104] [] [vb 105 .eql 73 13,vo 104 105]) (.cond (.r 104) (.seq (.ops [4] [] [vv 106 5,vd 107 6 0,vl 108 107,vb 109 .eql 108 5,vv 110 109,⟨some (110,true),.mv (some 111) (.r 0)⟩,⟨some (110,true),.addr (some 112) (.r 6) 1⟩,⟨some (110,true),.load (some 113) (.r 112) (some 2)⟩,⟨some (110,true),.bsl (some 114) 1 2 (.lit (.int .i64 0)) [(0,(.c (.lit (.int .i64 7)))),(1,(.c (.lit (.int .i64 9))))]⟩,⟨some (110,true),.call (some 115) false (.f 48) [(.r 111),(.r 113),(.r 114)]⟩,⟨none,.pick (some 116) (.r 110) (.r 115) (.c (.lit (.bool false)))⟩,⟨none,.call (some 117) false (.r 106) [(.r 116),(.c (.lit (.int .i64 6)))]⟩,vo 4 117]) .ret) f26_56))))))
abbrev f26_25:AC:=.seq (.ops [0,3,5,6,8] [3] [vv 65 0,vn 66 65,vd 67 66 7,vl 68 67,⟨none,.mkfn (some 69) 43 [] [(.r 6)]⟩,⟨none,.call (some 70) false (.f 42) [(.r 68),(.r 69)]⟩,vo 8 70]) (.seq (.seq (.ops [0,3,5,6,8,73] [3] [vd 71 3 16,vd 72 71 2,vl 73 72]) (.block 0 (.seq (.ops [0,3,5,6,8,73,74] [3] [vb 75 .eql 73 12,vo 74 75]) (.cond (.r 74) (.seq (.ops [4] [] [vv 76 5,vv 77 0,⟨none,.load (some 78) (.r 6) (some 12)⟩,vd 79 3 29,vl 80 79,⟨none,.call (some 81) false (.f 44) [(.r 77),(.r 78),(.r 80)]⟩,⟨none,.call (some 82) false (.r 76) [(.r 81),(.c (.lit (.int .i64 2)))]⟩,vo 4 82]) .ret) (.seq (.ops [0,5,6,8,73,83] [] [vb 84 .eql 73 9,vo 83 84]) f26_38))))) (.seq (.ops [4] [] [⟨none,.mv (some 4) (.c (.lit (.int .i64 1)))⟩]) .ret))
def f26_19:AC:=.seq f26_20 f26_25
theorem f26_19e:SQ f26_19 f26_20 f26_25:=rfl
abbrev f26_5:AC:=.seq (.seq (.ops [0,3,5,16] [3] [vd 9 3 0,vl 10 9,vb 11 .eql 10 1,vv 12 11,⟨some (12,true),.addr (some 13) (.r 3) 14⟩,⟨some (12,true),.load (some 14) (.r 13) none⟩,⟨some (12,true),.bin (some 15) .num .neq (.r 14) (.c (.lit (.int .i64 0)))⟩,⟨none,.pick (some 16) (.r 12) (.r 15) (.c (.lit (.bool false)))⟩]) (.cond (.r 16) (.seq (.draw [4] [] [] [vv 17 5,vd 18 3 14,vl 19 18,vb 20 .eql 19 8,vv 21 20,⟨some (21,true),.mv (some 22) (.r 0)⟩,⟨some (21,true),.nilck (some 23) (.r 22)⟩,⟨some (21,true),.addr (some 24) (.r 23) 2⟩,⟨some (21,true),.load (some 25) (.r 24) none⟩,⟨some (21,true),.addr (some 26) (.r 3) 1⟩,⟨some (21,true),.load (some 27) (.r 26) none⟩] [⟨some (21,true),.lookup (some 28) (.int .i64) (.lit (.bool false)) false (.r 25) (.r 27)⟩,⟨none,.pick (some 29) (.r 21) (.r 28) (.c (.lit (.bool false)))⟩,⟨none,.call (some 30) false (.r 17) [(.r 29),(.c (.lit (.int .i64 8)))]⟩,vo 4 30]) .ret) .skip)) (.seq (.seq (.ops [0,3,5,44] [3] [vd 31 3 0,vl 32 31,vb 33 .neq 32 2,vv 34 33,⟨some (34,false),.addr (some 35) (.r 3) 15⟩,⟨some (34,false),.load (some 36) (.r 35) none⟩,⟨some (34,false),.un (some 37) .not (.r 36)⟩,⟨none,.pick (some 38) (.r 34) (.c (.lit (.bool true))) (.r 37)⟩,vv 39 38,⟨some (39,false),.addr (some 40) (.r 3) 16⟩,⟨some (39,false),.addr (some 41) (.r 40) 2⟩,⟨some (39,false),.load (some 42) (.r 41) none⟩,⟨some (39,false),.bin (some 43) .num .eql (.r 42) (.c (.lit (.int .i64 0)))⟩,⟨none,.pick (some 44) (.r 39) (.c (.lit (.bool true))) (.r 43)⟩]) (.cond (.r 44) (.seq (.ops [4] [] [⟨none,.mv (some 4) (.c (.lit (.int .i64 0)))⟩]) .ret) .skip)) (.seq f26_18 f26_19))
abbrev f26_3:AC:=.seq (.ops [0,3,5] [3] [⟨none,.mv (some 5) (.f 41)⟩]) f26_5
def f41:AC:=.seq f43 f26_3
theorem f26_1e:SQ f41 f43 f26_3:=rfl
def c_f26:AFun:=⟨154,[.tmp 4],f41⟩
theorem k_f26:kX x_f26 26 c_f26:=by delta kX; kernel_rfl
theorem e_f26:eX 26:=by delta eX; kernel_rfl

def n_f37:Nat:=37
def x_f37:=xX 7 [0,1,2,3,4,5,6] [] [(2,[],[]),(6,[0],[])]
abbrev f37_1:AC:=.seq (.ops [] [] [⟨none,.mv (some 0) (.c (.lit (.pointer none)))⟩]) (.seq (.ops [0] [] [⟨none,.mkmap 1⟩,⟨none,.mkmap 2⟩,⟨none,.mkmap 3⟩,⟨none,.mkmap 4⟩,⟨none,.bst (some 5) [(0,1),(1,1),(2,1),(3,1),(4,1),(5,1),(6,1),(7,1),(8,1)] (.agg [(.lit (.slice none 0 0)),(.lit (.map none)),(.lit (.map none)),(.lit (.slice none 0 0)),(.lit (.int .i64 0)),(.lit (.map none)),(.lit (.map none)),(.lit (.slice none 0 0)),(.lit (.bool false))]) [(1,(.r 1)),(2,(.r 2)),(5,(.r 3)),(6,(.r 4))]⟩,⟨none,.boxB 6 9 (.r 5)⟩,vo 0 6]) .ret)
def c_f37:AFun:=⟨7,[.tmp 0],f37_1⟩
theorem k_f37:kX x_f37 37 c_f37:=by delta kX; kernel_rfl
theorem e_f37:eX 37:=by delta eX; kernel_rfl

def n_f38:Nat:=38
def x_f38:=xX 87 [0,1,2,8,10,12,15,16,17,19,20,21,25,27,29,33,35,38,39,40,42,43,47,49,50,54,56,57,58,59,60,61,63,66,67,68,69,72,73,75,76,78,81,82,83,84] [] [(2,[0,1,2,6],[6]),(24,[0,1,2,6,13],[6]),(100,[0,1,2,6],[6]),(101,[0,1,2],[]),(102,[0,1,2,6,36],[6]),(412,[0,1,2,6],[6]),(826,[0,1,2,6,7,8],[6,7]),(1654,[0,1,2,6,7,74],[6,7]),(3310,[0,1,2],[]),(7,[],[])]
abbrev f38_16:AC:=.seq (.draw [0,1,2,6,7,8] [6,7] [7,7] [vv 51 0,vn 52 51,vd 53 52 1,vl 54 53,vd 55 6 1,vl 56 55,⟨none,.lookup (some 57) (.int .i64) (.agg [(.lit (.int .i64 0)),(.lit (.int .i64 0)),(.lit (.int .i64 0)),(.lit (.int .i64 0)),(.lit (.int .i64 0)),(.lit (.string ⟨#[]⟩)),(.lit (.int .i64 0)),(.lit (.slice none 0 0)),(.lit (.int .i64 0)),(.lit (.int .i64 0)),(.lit (.int .i64 0)),(.lit (.int .u64 0))]) true (.r 54) (.r 56)⟩,vv 50 57,ve 58 50 0,ve 59 50 1,⟨none,.newL 7 [(.lit (.int .i64 0)),(.lit (.int .i64 0)),(.lit (.int .i64 0)),(.lit (.int .i64 0)),(.lit (.int .i64 0)),(.lit (.string ⟨#[]⟩)),(.lit (.int .i64 0)),(.lit (.slice none 0 0)),(.lit (.int .i64 0)),(.lit (.int .i64 0)),(.lit (.int .i64 0)),(.lit (.int .u64 0))]⟩,⟨none,.store 12 (.r 7) (.r 58)⟩] [vo 8 59]) (.seq (.ops [0,1,2,6,7,74] [6,7] [vv 60 8,vv 61 60,⟨some (61,true),.addr (some 62) (.r 7) 0⟩,⟨some (61,true),.load (some 63) (.r 62) none⟩,⟨some (61,true),.addr (some 64) (.r 6) 16⟩,⟨some (61,true),.addr (some 65) (.r 64) 1⟩,⟨some (61,true),.load (some 66) (.r 65) none⟩,⟨some (61,true),.bin (some 67) .num .eql (.r 63) (.r 66)⟩,⟨none,.pick (some 68) (.r 61) (.r 67) (.c (.lit (.bool false)))⟩,vv 69 68,⟨some (69,true),.addr (some 70) (.r 6) 16⟩,⟨some (69,true),.addr (some 71) (.r 70) 2⟩,⟨some (69,true),.load (some 72) (.r 71) none⟩,⟨some (69,true),.bin (some 73) .num .eql (.r 72) (.c (.lit (.int .i64 0)))⟩,⟨none,.pick (some 74) (.r 69) (.r 73) (.c (.lit (.bool false)))⟩]) (.cond (.r 74) (.ops [0,1,2] [] [vv 75 0,⟨none,.load (some 76) (.r 7) (some 12)⟩,vd 77 6 16,⟨none,.load (some 78) (.r 77) (some 12)⟩,⟨none,.call (some 79) false (.f 56) [(.r 75),(.r 76),(.r 78)]⟩]) .skip))
abbrev f38_1:AC:=.seq (.ops [0,1,2,6] [6] [vv 9 1,vv 10 2,⟨none,.ixS (some 11) (.r 9) (.r 10) 30⟩,⟨none,.load (some 12) (.r 11) (some 30)⟩,⟨none,.newL 6 [(.lit (.int .i64 0)),(.lit (.int .i64 0)),(.lit (.int .i64 0)),(.lit (.int .i64 0)),(.lit (.int .i64 0)),(.lit (.int .i64 0)),(.lit (.int .i64 0)),(.lit (.string ⟨#[]⟩)),(.lit (.int .i64 0)),(.lit (.slice none 0 0)),(.lit (.int .i64 0)),(.lit (.int .i64 0)),(.lit (.int .i64 0)),(.lit (.int .u64 0)),(.lit (.int .i64 0)),(.lit (.bool false)),(.lit (.int .i64 0)),(.lit (.int .i64 0)),(.lit (.int .i64 0)),(.lit (.int .i64 0)),(.lit (.slice none 0 0)),(.lit (.int .i64 0)),(.lit (.int .i64 0)),(.lit (.int .i64 0)),(.lit (.int .i64 0)),(.lit (.string ⟨#[]⟩)),(.lit (.int .i64 0)),(.lit (.int .u64 0)),(.lit (.slice none 0 0)),(.lit (.int .u64 0))]⟩,⟨none,.store 30 (.r 6) (.r 12)⟩]) (.seq (.block 0 (.seq (.ops [0,1,2,6,13] [6] [vd 14 6 0,vl 15 14,vb 16 .eql 15 1,vv 17 16,⟨some (17,true),.addr (some 18) (.r 6) 14⟩,⟨some (17,true),.load (some 19) (.r 18) none⟩,⟨some (17,true),.bin (some 20) .num .eql (.r 19) (.c (.lit (.int .i64 0)))⟩,⟨none,.pick (some 21) (.r 17) (.r 20) (.c (.lit (.bool false)))⟩,vo 13 21]) (.cond (.r 13) (.seq (.draw [0,1,2,6] [6] [] [vv 22 0,vn 23 22,vd 24 23 1,vl 25 24,vd 26 6 1,vl 27 26,vd 28 6 2,⟨none,.load (some 29) (.r 28) (some 12)⟩] [⟨none,.upd (.int .i64) (.r 25) (.r 27) (.r 29)⟩]) (.draw [0,1,2] [] [] [vv 30 0,vn 31 30,vd 32 31 2,vl 33 32,vd 34 6 1,vl 35 34] [⟨none,.upd (.int .i64) (.r 33) (.r 35) (.c (.lit (.bool true)))⟩])) (.seq (.ops [0,1,2,6,36] [6] [vd 37 6 0,vl 38 37,vb 39 .eql 38 2,vv 40 39,⟨some (40,true),.addr (some 41) (.r 6) 15⟩,⟨some (40,true),.load (some 42) (.r 41) none⟩,⟨none,.pick (some 43) (.r 40) (.r 42) (.c (.lit (.bool false)))⟩,vo 36 43]) (.cond (.r 36) (.seq (.draw [0,1,2,6] [6] [] [vv 44 0,vn 45 44,vd 46 45 2,vl 47 46,vd 48 6 1,vl 49 48] [⟨none,.del (.int .i64) (.r 47) (.r 49)⟩]) f38_16) .skip))))) (.ops [] [] [vv 80 0,vv 81 1,vv 82 2,vb 83 .add 82 1,⟨none,.sliS (some 84) (.r 81) none (some (.r 83)) 30⟩,vn 85 80,vd 86 85 0,⟨none,.store 1 (.r 86) (.r 84)⟩]))
def c_f38:AFun:=⟨87,[],f38_1⟩
theorem k_f38:kX x_f38 38 c_f38:=by delta kX; kernel_rfl
theorem e_f38:eX 38:=by delta eX; kernel_rfl

def n_f39:Nat:=39
def x_f39:=xX 19 [0,1,4,5,6,7,8,10,11,13,15,17,18] [] [(2,[0,1],[]),(12,[0,1,7,8],[]),(26,[0,1,7,8],[]),(104,[0,1,7,8,9],[]),(421,[],[]),(1688,[0,1,5,7,8],[]),(3378,[0,1,5,7,8,16],[]),(13516,[4],[]),(423,[0,1,7,8],[]),(14,[4],[])]
abbrev f39_8:AC:=.seq (.ops [0,1,7,8,9] [] [⟨none,.bin (some 9) .num .lss (.r 8) (.r 7)⟩]) (.seq (.cond (.r 9) .skip (.exit [] [] 0)) (.seq (.block 1 (.seq (.ops [0,1,5,7,8] [] [vv 10 8,vo 5 10]) (.seq (.ops [0,1,5,7,8,16] [] [vv 11 1,vv 12 0,vv 13 5,⟨none,.ixS (some 14) (.r 12) (.r 13) 1⟩,vl 15 14,⟨none,.bin (some 16) .num .eql (.r 11) (.r 15)⟩]) (.cond (.r 16) (.seq (.ops [4] [] [vv 17 5,vo 4 17]) .ret) .skip)))) (.ops [0,1,7,8] [] [vb 18 .add 8 1,vv 8 18])))
def f39_7:AC:=.loop [0,1,7,8] [] f39_8
theorem f39_7w:aC P id m f39_7 sf st Q = bA (aC P id m f39_8) [0,1,7,8] [] sf st Q:=rfl
abbrev f39_1:AC:=.seq (.ops [0,1] [] [⟨none,.mv (some 4) (.c (.lit (.int .i64 0)))⟩]) (.seq (.seq (.ops [0,1,7,8] [] [vv 6 0,⟨none,.len (some 7) .sl (.r 6)⟩,⟨none,.mv (some 8) (.c (.lit (.int .i64 0)))⟩]) (.block 0 f39_7)) (.seq (.ops [4] [] [⟨none,.mv (some 4) (.c (.lit (.int .i64 (-1))))⟩]) .ret))
def c_f39:AFun:=⟨19,[.tmp 4],f39_1⟩
theorem k_f39:kX x_f39 39 c_f39:=by delta kX; kernel_rfl
theorem e_f39:eX 39:=by delta eX; kernel_rfl

def n_f41:Nat:=41
def x_f41:=xX 7 [1,4,6] [] [(2,[0,1],[]),(12,[1,5],[]),(52,[4],[]),(14,[4],[])]
abbrev f41_1:AC:=.seq (.ops [0,1] [] [⟨none,.mv (some 4) (.c (.lit (.int .i64 0)))⟩]) (.seq (.seq (.ops [1,5] [] [vv 5 0]) (.cond (.r 5) (.seq (.ops [4] [] [vv 6 1,vo 4 6]) .ret) .skip)) (.seq (.ops [4] [] [⟨none,.mv (some 4) (.c (.lit (.int .i64 1)))⟩]) .ret))
def c_f41:AFun:=⟨7,[.tmp 4],f41_1⟩
theorem k_f41:kX x_f41 41 c_f41:=by delta kX; kernel_rfl
theorem e_f41:eX 41:=by delta eX; kernel_rfl

def n_f42:Nat:=42
def x_f42:=xX 9 [0,1,4,5,6,7,8] [] [(2,[0,1],[]),(6,[4],[])]
abbrev f42_1:AC:=.seq (.ops [0,1] [] [⟨none,.mv (some 4) (.c (.lit (.bool false)))⟩]) (.seq (.ops [4] [] [vv 5 0,vv 6 1,⟨none,.call (some 7) false (.f 57) [(.r 5),(.r 6)]⟩,vb 8 .geq 7 0,vo 4 8]) .ret)
def c_f42:AFun:=⟨9,[.tmp 4],f42_1⟩
theorem k_f42:kX x_f42 42 c_f42:=by delta kX; kernel_rfl
theorem e_f42:eX 42:=by delta eX; kernel_rfl

def n_f43:Nat:=43
def x_f43:=xX 9 [0,3,5,7,8] [] [(2,[1,2],[2]),(6,[3],[])]
abbrev f43_1:AC:=.seq (.ops [1,2] [2] [⟨none,.boxL 2 12 (.r 0)⟩,⟨none,.mv (some 3) (.c (.lit (.bool false)))⟩]) (.seq (.ops [3] [] [vd 4 2 9,⟨none,.load (some 5) (.r 4) (some 2)⟩,vd 6 1 5,⟨none,.load (some 7) (.r 6) (some 2)⟩,⟨none,.bin (some 8) (.agg (.field 0 1 .str (.field 1 1 .int .tt))) .eql (.r 5) (.r 7)⟩,vo 3 8]) .ret)
def c_f43:AFun:=⟨9,[.tmp 3],f43_1⟩
theorem k_f43:kX x_f43 43 c_f43:=by delta kX; kernel_rfl
theorem e_f43:eX 43:=by delta eX; kernel_rfl

def n_f44:Nat:=44
def x_f44:=xX 36 [0,1,2,3,5,6,7,8,10,12,14,16,18,19,21,22,23,24,26,27,28,30,32,34,35] [] [(2,[3,4,5],[4]),(6,[4,5,7],[4]),(28,[4,5,7,10],[4]),(118784,[4,5,7,10,11],[4]),(237570,[4,5],[4]),(237572,[4,7,10,13],[4]),(475146,[4,7],[4]),(475148,[4,7,10,15],[4]),(950298,[4,7],[4]),(950300,[4,7,10,17],[4]),(1900603,[4,7,17],[4]),(950302,[4,7],[4]),(29697,[],[]),(29700,[6],[]),(14851,[],[]),(7428,[6],[]),(3715,[],[]),(930,[4,7,31],[4]),(3724,[6],[]),(468,[6],[]),(235,[],[]),(30,[6],[])]
abbrev f44_2:AC:=.ops [3,4,5] [4] [⟨none,.boxB 3 1 (.r 0)⟩,⟨none,.boxL 4 12 (.r 1)⟩,⟨none,.boxB 5 1 (.r 2)⟩,⟨none,.mv (some 6) (.c (.lit (.bool false)))⟩]
abbrev f44_6:AC:=.seq (.ops [4,5,7,10] [4] [vd 9 4 0,vl 10 9]) (.block 0 (.seq (.block 4 (.seq (.block 3 (.seq (.block 2 (.seq (.block 1 (.seq (.seq (.seq (.ops [4,5,7,10,11] [4] [vb 12 .eql 10 3,vo 11 12]) (.cond (.r 11) (.exit [4,5] [4] 1) .skip)) (.seq (.seq (.ops [4,7,10,13] [4] [vb 14 .eql 10 6,vo 13 14]) (.cond (.r 13) (.exit [4,7] [4] 2) .skip)) (.seq (.seq (.ops [4,7,10,15] [4] [vb 16 .eql 10 11,vo 15 16]) (.cond (.r 15) (.exit [4,7] [4] 3) .skip)) (.seq (.seq (.ops [4,7,10,17] [4] [vb 18 .eql 10 2,vo 17 18]) (.cond (.r 17) .skip (.ops [4,7,17] [4] [vb 19 .eql 10 5,vo 17 19]))) (.cond (.r 17) (.exit [4,7] [4] 4) .skip))))) (.exit [] [] 0))) (.seq (.seq (.ops [6] [] [vd 20 4 11,vl 21 20,vl 22 5,⟨none,.call (some 23) false (.f 59) [(.r 21),(.r 22)]⟩,vo 6 23]) .ret) (.exit [] [] 0)))) (.seq (.seq (.ops [6] [] [vv 24 7,vd 25 4 1,⟨none,.load (some 26) (.r 25) (some 2)⟩,⟨none,.call (some 27) false (.r 24) [(.r 26),(.c (.lit (.int .i64 1)))]⟩,vo 6 27]) .ret) (.exit [] [] 0)))) (.seq (.ops [4,7,31] [4] [vv 28 7,vd 29 4 3,⟨none,.load (some 30) (.r 29) (some 2)⟩,⟨none,.call (some 31) false (.r 28) [(.r 30),(.c (.lit (.int .i64 1)))]⟩]) (.cond (.r 31) (.seq (.ops [6] [] [⟨none,.mv (some 6) (.c (.lit (.bool true)))⟩]) .ret) .skip)))) (.seq (.seq (.ops [6] [] [vv 32 7,vd 33 4 1,⟨none,.load (some 34) (.r 33) (some 2)⟩,⟨none,.call (some 35) false (.r 32) [(.r 34),(.c (.lit (.int .i64 0)))]⟩,vo 6 35]) .ret) (.exit [] [] 0))))
abbrev f44_50:AC:=.seq (.ops [6] [] [⟨none,.mv (some 6) (.c (.lit (.bool false)))⟩]) .ret
def f44_5:AC:=.seq f44_6 f44_50
theorem f44_5e:SQ f44_5 f44_6 f44_50:=rfl
abbrev f44_3:AC:=.seq (.ops [4,5,7] [4] [⟨none,.mkfn (some 8) 58 [] [(.r 3),(.r 5)]⟩,vo 7 8]) f44_5
def f58:AC:=.seq f44_2 f44_3
theorem f44_1e:SQ f58 f44_2 f44_3:=rfl
def c_f44:AFun:=⟨36,[.tmp 6],f58⟩
theorem k_f44:kX x_f44 44 c_f44:=by delta kX; kernel_rfl
theorem e_f44:eX 44:=by delta eX; kernel_rfl

def n_f45:Nat:=45
def x_f45:=xX 40 [0,1,4,6,8,9,10,12,13,14,15,17,19,20,22,23,24,25,26,27,28,29,30,31,32,33,34,36,37,38,39] [] [(2,[0,3],[3]),(6,[0,3,6],[3]),(28,[0,3,6,18],[3]),(116,[6,8],[]),(234,[4],[]),(30,[4],[])]
abbrev f45_1:AC:=.seq (.ops [0,3] [3] [⟨none,.boxL 3 12 (.r 1)⟩,⟨none,.mv (some 4) (.c (.lit (.bool false)))⟩]) (.seq (.ops [0,3,6] [3] [vv 10 0,vd 11 3 1,⟨none,.load (some 12) (.r 11) (some 2)⟩,⟨none,.call (some 13) false (.f 60) [(.r 10),(.r 12)]⟩,vv 9 13,ve 14 9 0,ve 15 9 1,vo 5 14,vo 6 15]) (.seq (.seq (.ops [0,3,6,18] [3] [vd 16 3 0,vl 17 16,vb 18 .eql 17 11]) (.cond (.r 18) (.seq (.ops [6,8] [] [vv 20 0,vd 21 3 3,⟨none,.load (some 22) (.r 21) (some 2)⟩,⟨none,.call (some 23) false (.f 60) [(.r 20),(.r 22)]⟩,vv 19 23,ve 24 19 0,ve 25 19 1,vo 7 24,vo 8 25]) (.seq (.ops [4] [] [vv 26 6,⟨none,.un (some 27) .not (.r 26)⟩,vv 28 27,⟨some (28,false),.mv (some 29) (.r 8)⟩,⟨some (28,false),.un (some 30) .not (.r 29)⟩,⟨none,.pick (some 31) (.r 28) (.c (.lit (.bool true))) (.r 30)⟩,vo 4 31]) .ret)) .skip)) (.seq (.ops [4] [] [vv 32 6,⟨none,.un (some 33) .not (.r 32)⟩,vv 34 33,⟨some (34,true),.addr (some 35) (.r 3) 0⟩,⟨some (34,true),.load (some 36) (.r 35) none⟩,⟨some (34,true),.bsl (some 37) 1 7 (.lit (.int .i64 0)) [(0,(.c (.lit (.int .i64 2)))),(1,(.c (.lit (.int .i64 5)))),(2,(.c (.lit (.int .i64 6)))),(3,(.c (.lit (.int .i64 7)))),(4,(.c (.lit (.int .i64 8)))),(5,(.c (.lit (.int .i64 9)))),(6,(.c (.lit (.int .i64 10))))]⟩,⟨some (34,true),.call (some 38) false (.f 49) [(.r 36),(.r 37)]⟩,⟨none,.pick (some 39) (.r 34) (.r 38) (.c (.lit (.bool false)))⟩,vo 4 39]) .ret)))
def c_f45:AFun:=⟨40,[.tmp 4],f45_1⟩
theorem k_f45:kX x_f45 45 c_f45:=by delta kX; kernel_rfl
theorem e_f45:eX 45:=by delta eX; kernel_rfl

def n_f46:Nat:=46
def x_f46:=xX 49 [0,1,4,5,6,7,8,9,10,12,13,14,15,16,17,19,20,21,22,24,26,28,30,31,32,33,34,35,36,37,38,39,40,41,42,44,45,46,47,48] [] [(2,[0,3],[3]),(6,[0,3,5,6],[3]),(14,[3,5,6,7,8],[3]),(60,[5,6,7,8,24],[]),(62464,[5,6,7,8,24,25],[]),(124930,[5,6],[]),(124932,[5,6,7,8,24,27],[]),(249866,[5,6,7,8],[]),(249868,[5,6,24,29],[]),(999478,[5,6,24,29],[]),(3997918,[5,6,24,29],[]),(7995839,[5,6,29],[]),(249870,[5,6],[]),(15617,[],[]),(15620,[4],[]),(7811,[],[]),(1954,[5,6,43],[]),(7820,[4],[]),(980,[4],[]),(491,[],[]),(62,[4],[])]
abbrev f46_11:AC:=.seq (.block 3 (.seq (.block 2 (.seq (.block 1 (.seq (.seq (.seq (.ops [5,6,7,8,24,25] [] [vb 26 .eql 24 2,vo 25 26]) (.cond (.r 25) (.exit [5,6] [] 1) .skip)) (.seq (.seq (.ops [5,6,7,8,24,27] [] [vb 28 .eql 24 11,vo 27 28]) (.cond (.r 27) (.exit [5,6,7,8] [] 2) .skip)) (.seq (.seq (.ops [5,6,24,29] [] [vb 30 .eql 24 5,vo 29 30]) (.cond (.r 29) .skip (.seq (.ops [5,6,24,29] [] [vb 31 .eql 24 6,vo 29 31]) (.cond (.r 29) .skip (.seq (.ops [5,6,24,29] [] [vb 32 .eql 24 8,vo 29 32]) (.cond (.r 29) .skip (.ops [5,6,29] [] [vb 33 .eql 24 9,vo 29 33]))))))) (.cond (.r 29) (.exit [5,6] [] 3) .skip)))) (.exit [] [] 0))) (.seq (.seq (.ops [4] [] [vv 34 6,vv 35 34,⟨some (35,true),.mv (some 36) (.r 5)⟩,⟨some (35,true),.bin (some 37) .num .neq (.r 36) (.c (.lit (.int .i64 1)))⟩,⟨none,.pick (some 38) (.r 35) (.r 37) (.c (.lit (.bool false)))⟩,vo 4 38]) .ret) (.exit [] [] 0)))) (.seq (.ops [5,6,43] [] [vv 39 8,vv 40 39,⟨some (40,true),.mv (some 41) (.r 7)⟩,⟨some (40,true),.bin (some 42) .num .eql (.r 41) (.c (.lit (.int .i64 1)))⟩,⟨none,.pick (some 43) (.r 40) (.r 42) (.c (.lit (.bool false)))⟩]) (.cond (.r 43) (.seq (.ops [4] [] [⟨none,.mv (some 4) (.c (.lit (.bool true)))⟩]) .ret) .skip)))) (.seq (.seq (.ops [4] [] [vv 44 6,vv 45 44,⟨some (45,true),.mv (some 46) (.r 5)⟩,⟨some (45,true),.bin (some 47) .num .eql (.r 46) (.c (.lit (.int .i64 1)))⟩,⟨none,.pick (some 48) (.r 45) (.r 47) (.c (.lit (.bool false)))⟩,vo 4 48]) .ret) (.exit [] [] 0))
abbrev f46_1:AC:=.seq (.ops [0,3] [3] [⟨none,.boxL 3 12 (.r 1)⟩,⟨none,.mv (some 4) (.c (.lit (.bool false)))⟩]) (.seq (.ops [0,3,5,6] [3] [vv 10 0,vd 11 3 1,⟨none,.load (some 12) (.r 11) (some 2)⟩,⟨none,.call (some 13) false (.f 60) [(.r 10),(.r 12)]⟩,vv 9 13,ve 14 9 0,ve 15 9 1,vo 5 14,vo 6 15]) (.seq (.ops [3,5,6,7,8] [3] [vv 17 0,vd 18 3 3,⟨none,.load (some 19) (.r 18) (some 2)⟩,⟨none,.call (some 20) false (.f 60) [(.r 17),(.r 19)]⟩,vv 16 20,ve 21 16 0,ve 22 16 1,vo 7 21,vo 8 22]) (.seq (.seq (.ops [5,6,7,8,24] [] [vd 23 3 0,vl 24 23]) (.block 0 f46_11)) (.seq (.ops [4] [] [⟨none,.mv (some 4) (.c (.lit (.bool false)))⟩]) .ret))))
def c_f46:AFun:=⟨49,[.tmp 4],f46_1⟩
theorem k_f46:kX x_f46 46 c_f46:=by delta kX; kernel_rfl
theorem e_f46:eX 46:=by delta eX; kernel_rfl

def n_f47:Nat:=47
def x_f47:=xX 57 [0,1,4,6,8,10,12,14,16,17,18,20,21,22,23,25,26,27,28,30,31,32,33,34,36,37,38,39,40,42,43,44,45,46,48,49,50,52,54,55,56] [] [(2,[0,3],[3]),(12,[0,3,6],[3]),(212992,[0,3,6,7],[3]),(425986,[0,3],[3]),(425988,[0,3,6,9],[3]),(851978,[0,3],[3]),(851980,[0,3,6,11],[3]),(1703962,[0,3],[3]),(1703964,[0,3,6,13],[3]),(3407930,[0,3],[3]),(3407932,[0,3,6,15],[3]),(6815867,[0,3,15],[3]),(3407934,[0,3],[3]),(53249,[],[]),(53252,[4],[]),(26627,[],[]),(13316,[4],[]),(6659,[],[]),(3332,[4],[]),(1667,[],[]),(418,[0,3,51],[3]),(1676,[4],[]),(212,[4],[]),(107,[],[]),(14,[4],[])]
abbrev f47_11:AC:=.seq (.block 3 (.seq (.block 2 (.seq (.block 1 (.seq (.seq (.seq (.ops [0,3,6,7] [3] [vb 8 .eql 6 2,vo 7 8]) (.cond (.r 7) (.exit [0,3] [3] 1) .skip)) (.seq (.seq (.ops [0,3,6,9] [3] [vb 10 .eql 6 9,vo 9 10]) (.cond (.r 9) (.exit [0,3] [3] 2) .skip)) (.seq (.seq (.ops [0,3,6,11] [3] [vb 12 .eql 6 6,vo 11 12]) (.cond (.r 11) (.exit [0,3] [3] 3) .skip)) (.seq (.seq (.ops [0,3,6,13] [3] [vb 14 .eql 6 11,vo 13 14]) (.cond (.r 13) (.exit [0,3] [3] 4) .skip)) (.seq (.seq (.ops [0,3,6,15] [3] [vb 16 .eql 6 5,vo 15 16]) (.cond (.r 15) .skip (.ops [0,3,15] [3] [vb 17 .eql 6 8,vo 15 17]))) (.cond (.r 15) (.exit [0,3] [3] 5) .skip)))))) (.exit [] [] 0))) (.seq (.seq (.ops [4] [] [vv 18 0,vd 19 3 1,⟨none,.load (some 20) (.r 19) (some 2)⟩,⟨none,.bsl (some 21) 1 1 (.lit (.int .i64 0)) [(0,(.c (.lit (.int .i64 7))))]⟩,⟨none,.call (some 22) false (.f 61) [(.r 18),(.r 20),(.r 21)]⟩,vo 4 22]) .ret) (.exit [] [] 0)))) (.seq (.seq (.ops [4] [] [vv 23 0,vd 24 3 1,⟨none,.load (some 25) (.r 24) (some 2)⟩,⟨none,.bsl (some 26) 1 2 (.lit (.int .i64 0)) [(0,(.c (.lit (.int .i64 7)))),(1,(.c (.lit (.int .i64 9))))]⟩,⟨none,.call (some 27) false (.f 61) [(.r 23),(.r 25),(.r 26)]⟩,vo 4 27]) .ret) (.exit [] [] 0)))) (.seq (.seq (.ops [4] [] [vv 28 0,vd 29 3 1,⟨none,.load (some 30) (.r 29) (some 2)⟩,⟨none,.bsl (some 31) 1 2 (.lit (.int .i64 0)) [(0,(.c (.lit (.int .i64 7)))),(1,(.c (.lit (.int .i64 9))))]⟩,⟨none,.call (some 32) false (.f 61) [(.r 28),(.r 30),(.r 31)]⟩,vv 33 32,⟨some (33,false),.mv (some 34) (.r 0)⟩,⟨some (33,false),.addr (some 35) (.r 3) 1⟩,⟨some (33,false),.load (some 36) (.r 35) (some 2)⟩,⟨some (33,false),.bsl (some 37) 1 2 (.lit (.int .i64 0)) [(0,(.c (.lit (.int .i64 7)))),(1,(.c (.lit (.int .i64 8))))]⟩,⟨some (33,false),.call (some 38) false (.f 48) [(.r 34),(.r 36),(.r 37)]⟩,⟨none,.pick (some 39) (.r 33) (.c (.lit (.bool true))) (.r 38)⟩,vo 4 39]) .ret) (.exit [] [] 0))
abbrev f47_1:AC:=.seq (.ops [0,3] [3] [⟨none,.boxL 3 12 (.r 1)⟩,⟨none,.mv (some 4) (.c (.lit (.bool false)))⟩]) (.seq (.seq (.ops [0,3,6] [3] [vd 5 3 0,vl 6 5]) (.block 0 (.seq (.block 5 (.seq (.block 4 f47_11) (.seq (.ops [0,3,51] [3] [vv 40 0,vd 41 3 3,⟨none,.load (some 42) (.r 41) (some 2)⟩,⟨none,.bsl (some 43) 1 2 (.lit (.int .i64 0)) [(0,(.c (.lit (.int .i64 7)))),(1,(.c (.lit (.int .i64 9))))]⟩,⟨none,.call (some 44) false (.f 61) [(.r 40),(.r 42),(.r 43)]⟩,vv 45 44,⟨some (45,false),.mv (some 46) (.r 0)⟩,⟨some (45,false),.addr (some 47) (.r 3) 3⟩,⟨some (45,false),.load (some 48) (.r 47) (some 2)⟩,⟨some (45,false),.bsl (some 49) 1 2 (.lit (.int .i64 0)) [(0,(.c (.lit (.int .i64 7)))),(1,(.c (.lit (.int .i64 8))))]⟩,⟨some (45,false),.call (some 50) false (.f 48) [(.r 46),(.r 48),(.r 49)]⟩,⟨none,.pick (some 51) (.r 45) (.c (.lit (.bool true))) (.r 50)⟩]) (.cond (.r 51) (.seq (.ops [4] [] [⟨none,.mv (some 4) (.c (.lit (.bool true)))⟩]) .ret) .skip)))) (.seq (.seq (.ops [4] [] [vv 52 0,vd 53 3 1,⟨none,.load (some 54) (.r 53) (some 2)⟩,⟨none,.bsl (some 55) 1 2 (.lit (.int .i64 0)) [(0,(.c (.lit (.int .i64 7)))),(1,(.c (.lit (.int .i64 8))))]⟩,⟨none,.call (some 56) false (.f 61) [(.r 52),(.r 54),(.r 55)]⟩,vo 4 56]) .ret) (.exit [] [] 0))))) (.seq (.ops [4] [] [⟨none,.mv (some 4) (.c (.lit (.bool false)))⟩]) .ret))
def c_f47:AFun:=⟨57,[.tmp 4],f47_1⟩
theorem k_f47:kX x_f47 47 c_f47:=by delta kX; kernel_rfl
theorem e_f47:eX 47:=by delta eX; kernel_rfl

def n_f48:Nat:=48
def x_f48:=xX 46 [0,1,2,3,4,5,6,7,10,11,15,16,17,18,19,22,23,25,26,27,28,29,30,31,32,34,35,36,37,38,39,40,41,45] [] [(2,[3,4,5,6,22],[]),(6,[3,4,5,6,7,22],[]),(28,[3,4,5,6,20,22],[]),(58,[3,6],[]),(1000000065,[3,4,5,6,22],[]),(116,[3,4,5,6,10],[]),(468,[3,5,6,10,23],[]),(1876,[3,5,6,10,23,24],[]),(7508,[],[]),(7510,[3,5,6,10,33],[]),(30044,[],[]),(30,[6],[])]
abbrev f48_10:AC:=.ops [3,4,5,6,10] [] [⟨none,.newB 10 [(.lit (.int .i64 0)),(.lit (.int .i64 0)),(.lit (.int .i64 0)),(.lit (.int .i64 0)),(.lit (.int .i64 0))]⟩,⟨none,.store 5 (.r 10) (.r 22)⟩]
abbrev f48_11:AC:=.block 1 (.seq (.ops [3,5,6,10,23] [] [⟨none,.load (some 23) (.r 4) (some 2)⟩]) (.block 2 (.seq (.ops [3,5,6,10,23,24] [] [vd 25 10 0,⟨none,.load (some 26) (.r 25) (some 2)⟩,⟨none,.bin (some 27) (.agg (.field 0 1 .int (.field 1 1 .int .tt))) .eql (.r 23) (.r 26)⟩,vo 24 27]) (.cond (.r 24) (.seq (.ops [] [] [vl 28 3,vd 29 10 2,⟨none,.load (some 30) (.r 29) (some 2)⟩,vl 31 5,⟨none,.call (some 32) false (.f 61) [(.r 28),(.r 30),(.r 31)]⟩,⟨none,.store 1 (.r 6) (.r 32)⟩]) .ret) (.seq (.ops [3,5,6,10,33] [] [vd 34 10 2,⟨none,.load (some 35) (.r 34) (some 2)⟩,⟨none,.bin (some 36) (.agg (.field 0 1 .int (.field 1 1 .int .tt))) .eql (.r 23) (.r 35)⟩,vo 33 36]) (.cond (.r 33) (.seq (.ops [] [] [vl 37 3,vd 38 10 0,⟨none,.load (some 39) (.r 38) (some 2)⟩,vl 40 5,⟨none,.call (some 41) false (.f 61) [(.r 37),(.r 39),(.r 40)]⟩,⟨none,.store 1 (.r 6) (.r 41)⟩]) .ret) .skip))))))
def f48_9:AC:=.rangeF [3,6] [] (.r 20) [21,22] [3,4,5,6,22] f48_10 f48_11
theorem f48_9w:aC P id m f48_9 sf st Q = (m = false∧lw P (aC P id m f48_10) (aC P id m f48_11) [21,22] [3,4,5,6,22] [3,6] [] (sf.ev id (.r 20)) sf st Q):=rfl
abbrev f48_1:AC:=.seq (.ops [3,4,5,6,22] [] [⟨none,.boxB 3 1 (.r 0)⟩,⟨none,.boxB 4 2 (.r 1)⟩,⟨none,.boxB 5 1 (.r 2)⟩,⟨none,.newB 6 [(.lit (.bool false))]⟩]) (.seq (.ops [3,4,5,6,7,22] [] [vl 12 3,vn 13 12,vd 14 13 0,vl 15 14,⟨none,.call (some 16) false (.f 62) [(.r 15)]⟩,vv 11 16,ve 17 11 0,ve 18 11 1,vo 7 17,vo 8 18]) (.seq (.seq (.ops [3,4,5,6,20,22] [] [vv 19 7,⟨none,.call (some 20) false (.f 63) [(.r 19)]⟩]) (.block 0 f48_9)) (.seq (.ops [6] [] [vl 42 3,vn 43 42,vd 44 43 8,vl 45 44,⟨none,.store 1 (.r 6) (.r 45)⟩]) .ret)))
def c_f48:AFun:=⟨46,[.cell 6 none],f48_1⟩
theorem k_f48:kX x_f48 48 c_f48:=by delta kX; kernel_rfl
theorem e_f48:eX 48:=by delta eX; kernel_rfl

def n_f49:Nat:=49
def x_f49:=xX 8 [0,1,4,5,6,7] [] [(2,[0,1],[]),(6,[4],[])]
abbrev f49_1:AC:=.seq (.ops [0,1] [] [⟨none,.mv (some 4) (.c (.lit (.bool false)))⟩]) (.seq (.ops [4] [] [vv 5 1,vv 6 0,⟨none,.call (some 7) false (.f 64) [(.r 5),(.r 6)]⟩,vo 4 7]) .ret)
def c_f49:AFun:=⟨8,[.tmp 4],f49_1⟩
theorem k_f49:kX x_f49 49 c_f49:=by delta kX; kernel_rfl
theorem e_f49:eX 49:=by delta eX; kernel_rfl

def n_f56:Nat:=56
def x_f56:=xX 150 [0,1,2,4,6,8,10,12,14,15,17,19,21,23,24,29,30,31,32,38,39,42,44,46,51,52,55,57,59,62,64,66,68,70,75,77,79,80,82,83,84,86,87,88,89,90,99,100,101,107,108,109,111,116,121,124,125,130,133,135,136,137,140,144,146,148,149] [31,32,115] [(3000000019,[25,26,72,112,116,117,121,125,126,130,141],[]),(2,[0,4,5],[5]),(6,[0,4,5,10],[5]),(458752,[0,4,5,10,11],[5]),(917506,[0,4,5],[5]),(1835016,[0,4,5,10,13],[5]),(3670035,[0,4,5,10,13],[5]),(1835018,[0,4,5],[5]),(1835020,[0,4,5,10,16],[5]),(3670042,[0,4,5],[5]),(3670044,[0,4,10,18],[]),(7340090,[0,4],[]),(7340092,[0,4,10,20],[]),(14680186,[0,4],[]),(14680188,[0,4,10,22],[]),(29360379,[0,4,22],[]),(14680190,[0,4],[]),(114689,[],[]),(28673,[0,4,5],[5]),(28676,[0,4,5],[5]),(28677,[],[]),(14339,[],[]),(7172,[0,4,5],[5]),(14346,[0,4,5],[5]),(28694,[0,4,5,65],[5]),(57390,[],[]),(3587,[],[]),(898,[],[]),(899,[],[]),(452,[0,4,6],[]),(906,[0,4,91],[]),(1814,[0,4],[]),(454,[0,4],[]),(910,[0,4,108,109],[]),(1822,[0,4,108,109],[]),(7288,[0,4,108,109,110],[]),(29157,[0,4],[]),(116632,[0,4,8,108,109],[]),(116633,[0,4,108,109],[]),(29159,[0,4,108,109],[]),(58,[],[]),(59,[],[])]
abbrev f56_2:AC:=.ops [0,4,5] [5] [⟨none,.boxB 4 12 (.r 1)⟩,⟨none,.boxL 5 12 (.r 2)⟩]
abbrev f56_4:AC:=.ops [0,4,5,10] [5] [vd 9 4 0,vl 10 9]
abbrev f56_50:AC:=.seq (.ops [0,4,5] [5] [vv 35 0,vn 36 35,vd 37 36 4,vl 38 37,vb 39 .add 38 1,vn 40 35,vd 41 40 4,⟨none,.store 1 (.r 41) (.r 39)⟩]) (.ops [] [] [vv 42 0,vd 43 5 5,⟨none,.load (some 44) (.r 43) (some 2)⟩,vd 45 4 0,vl 46 45,⟨none,.call (some 47) false (.f 68) [(.r 42),(.r 44),(.r 46)]⟩])
def f56_49:AC:=.seq f56_50 (.exit [] [] 0)
theorem f56_49e:SQ f56_49 f56_50 (.exit [] [] 0):=rfl
abbrev f56_54:AC:=.seq (.ops [0,4,5] [5] [vv 48 0,vn 49 48,vd 50 49 4,vl 51 50,vb 52 .add 51 2,vn 53 48,vd 54 53 4,⟨none,.store 1 (.r 54) (.r 52)⟩]) (.seq (.ops [0,4,5] [5] [vv 55 0,vd 56 5 5,⟨none,.load (some 57) (.r 56) (some 2)⟩,vd 58 4 0,vl 59 58,⟨none,.call (some 60) false (.f 68) [(.r 55),(.r 57),(.r 59)]⟩]) (.seq (.ops [0,4,5,65] [5] [vd 61 5 7,⟨none,.load (some 62) (.r 61) (some 2)⟩,vd 63 5 5,⟨none,.load (some 64) (.r 63) (some 2)⟩,⟨none,.bin (some 65) (.agg (.field 0 1 .int (.field 1 1 .int .tt))) .neq (.r 62) (.r 64)⟩]) (.cond (.r 65) (.ops [] [] [vv 66 0,vd 67 5 7,⟨none,.load (some 68) (.r 67) (some 2)⟩,vd 69 4 0,vl 70 69,⟨none,.call (some 71) false (.f 68) [(.r 66),(.r 68),(.r 70)]⟩]) .skip)))
def f56_53:AC:=.seq f56_54 (.exit [] [] 0)
theorem f56_53e:SQ f56_53 f56_54 (.exit [] [] 0):=rfl
abbrev f56_63:AC:=.draw [] [] [] [vv 72 0,vn 73 72,vd 74 73 5,vl 75 74,vd 76 4 1,⟨none,.load (some 77) (.r 76) (some 2)⟩,vd 78 4 10,vl 79 78,⟨none,.bst (some 80) [(0,2),(2,1)] (.agg [(.lit (.int .i64 0)),(.lit (.int .i64 0)),(.lit (.int .i64 0))]) [(0,(.r 77)),(1,(.r 79))]⟩,vd 81 4 11,vl 82 81] [⟨none,.upd (.agg 3) (.r 75) (.r 80) (.r 82)⟩]
def f56_62:AC:=.seq f56_63 (.exit [] [] 0)
theorem f56_62e:SQ f56_62 f56_63 (.exit [] [] 0):=rfl
abbrev f56_9:AC:=.block 5 (.seq (.block 4 (.seq (.block 3 (.seq (.block 2 (.seq (.block 1 (.seq (.seq (.seq (.ops [0,4,5,10,11] [5] [vb 12 .eql 10 1,vo 11 12]) (.cond (.r 11) (.exit [0,4,5] [5] 1) .skip)) (.seq (.seq (.seq (.ops [0,4,5,10,13] [5] [vb 14 .eql 10 2,vo 13 14]) (.cond (.r 13) .skip (.ops [0,4,5,10,13] [5] [vb 15 .eql 10 3,vo 13 15]))) (.cond (.r 13) (.exit [0,4,5] [5] 2) .skip)) (.seq (.seq (.ops [0,4,5,10,16] [5] [vb 17 .eql 10 4,vo 16 17]) (.cond (.r 16) (.exit [0,4,5] [5] 3) .skip)) (.seq (.seq (.ops [0,4,10,18] [] [vb 19 .eql 10 10,vo 18 19]) (.cond (.r 18) (.exit [0,4] [] 4) .skip)) (.seq (.seq (.ops [0,4,10,20] [] [vb 21 .eql 10 7,vo 20 21]) (.cond (.r 20) (.exit [0,4] [] 5) .skip)) (.seq (.seq (.ops [0,4,10,22] [] [vb 23 .eql 10 8,vo 22 23]) (.cond (.r 22) .skip (.ops [0,4,22] [] [vb 24 .eql 10 9,vo 22 24]))) (.cond (.r 22) (.exit [0,4] [] 6) .skip))))))) (.exit [] [] 0))) (.draw [0,4,5] [5] [] [vv 25 0,vv 26 0,vn 27 26,vd 28 27 7,vl 29 28,⟨none,.load (some 30) (.r 5) (some 12)⟩,⟨none,.bsl (some 31) 12 1 (.agg [(.lit (.int .i64 0)),(.lit (.int .i64 0)),(.lit (.int .i64 0)),(.lit (.int .i64 0)),(.lit (.slice none 0 0)),(.lit (.int .i64 0)),(.lit (.int .i64 0)),(.lit (.int .i64 0)),(.lit (.int .i64 0)),(.lit (.string ⟨#[]⟩)),(.lit (.int .i64 0)),(.lit (.int .u64 0))]) [(0,(.r 30))]⟩] [⟨none,.x (some 32) (.appB (.r 29) 12 120 (.r 31))⟩,vn 33 25,vd 34 33 7,⟨none,.store 1 (.r 34) (.r 32)⟩]))) f56_49)) f56_53)) f56_62)
abbrev f56_65:AC:=.seq (.ops [0,4,6] [] [vv 84 0,vd 85 4 1,⟨none,.load (some 86) (.r 85) (some 2)⟩,⟨none,.call (some 87) false (.f 60) [(.r 84),(.r 86)]⟩,vv 83 87,ve 88 83 0,ve 89 83 1,vo 6 88,vo 7 89]) (.seq (.ops [0,4,91] [] [vv 90 6,vb 91 .eql 90 1]) (.cond (.r 91) (.ops [0,4] [] [vv 92 0,vn 93 92,vd 94 93 8,⟨none,.store 1 (.r 94) (.c (.lit (.bool true)))⟩]) .skip))
abbrev f56_72:AC:=.ops [0,4] [] [vv 95 0,vv 96 0,vn 97 96,vd 98 97 7,vl 99 98,⟨none,.mkfn (some 100) 70 [] [(.r 4)]⟩,⟨none,.call (some 101) false (.f 69) [(.r 99),(.r 100)]⟩,vn 102 95,vd 103 102 7,⟨none,.store 1 (.r 103) (.r 101)⟩]
abbrev f56_77:AC:=.seq (.ops [0,4,108,109,110] [] [⟨none,.bin (some 110) .num .lss (.r 109) (.r 108)⟩]) (.seq (.cond (.r 110) .skip (.exit [0,4] [] 7)) (.seq (.block 8 (.seq (.ops [0,4,8,108,109] [] [vv 111 109,vo 8 111]) (.draw [0,4,108,109] [] [] [vv 112 0,vn 113 112,vd 114 113 3,vl 115 114,vv 116 8,vv 117 0,vn 118 117,vd 119 118 3,vl 120 119,vv 121 8,⟨none,.ixS (some 122) (.r 120) (.r 121) 4⟩,vd 123 122 3,vl 124 123,vv 125 124,⟨some (125,true),.mv (some 126) (.r 0)⟩,⟨some (125,true),.nilck (some 127) (.r 126)⟩,⟨some (125,true),.addr (some 128) (.r 127) 3⟩,⟨some (125,true),.load (some 129) (.r 128) none⟩,⟨some (125,true),.mv (some 130) (.r 8)⟩,⟨some (125,true),.ixS (some 131) (.r 129) (.r 130) 4⟩,⟨some (125,true),.addr (some 132) (.r 131) 0⟩,⟨some (125,true),.load (some 133) (.r 132) (some 2)⟩,⟨some (125,true),.addr (some 134) (.r 4) 1⟩,⟨some (125,true),.load (some 135) (.r 134) (some 2)⟩,⟨some (125,true),.bin (some 136) (.agg (.field 0 1 .int (.field 1 1 .int .tt))) .neq (.r 133) (.r 135)⟩,⟨none,.pick (some 137) (.r 125) (.r 136) (.c (.lit (.bool false)))⟩] [⟨none,.ixS (some 138) (.r 115) (.r 116) 4⟩,vd 139 138 3,⟨none,.store 1 (.r 139) (.r 137)⟩]))) (.ops [0,4,108,109] [] [vb 140 .add 109 1,vv 109 140])))
def f56_76:AC:=.loop [0,4,108,109] [] f56_77
theorem f56_76w:aC P id m f56_76 sf st Q = bA (aC P id m f56_77) [0,4,108,109] [] sf st Q:=rfl
abbrev f56_73:AC:=.seq (.ops [0,4,108,109] [] [vv 104 0,vn 105 104,vd 106 105 3,vl 107 106,⟨none,.len (some 108) .sl (.r 107)⟩,⟨none,.mv (some 109) (.c (.lit (.int .i64 0)))⟩]) (.block 7 f56_76)
def f56_71:AC:=.seq f56_72 f56_73
theorem f56_71e:SQ f56_71 f56_72 f56_73:=rfl
def f56_64:AC:=.seq f56_65 f56_71
theorem f56_64e:SQ f56_64 f56_65 f56_71:=rfl
abbrev f56_88:AC:=.draw [] [] [] [vv 141 0,vn 142 141,vd 143 142 6,vl 144 143,vd 145 4 1,⟨none,.load (some 146) (.r 145) (some 2)⟩,vd 147 4 0,vl 148 147,⟨none,.bst (some 149) [(0,2),(2,1)] (.agg [(.lit (.int .i64 0)),(.lit (.int .i64 0)),(.lit (.int .i64 0))]) [(0,(.r 146)),(1,(.r 148))]⟩] [⟨none,.upd (.agg 3) (.r 144) (.r 149) (.c (.lit (.bool true)))⟩]
def f56_87:AC:=.seq f56_88 (.exit [] [] 0)
theorem f56_87e:SQ f56_87 f56_88 (.exit [] [] 0):=rfl
abbrev f56_5:AC:=.block 0 (.seq (.block 6 (.seq f56_9 f56_64)) f56_87)
def f56_3:AC:=.seq f56_4 f56_5
theorem f56_3e:SQ f56_3 f56_4 f56_5:=rfl
def f70:AC:=.seq f56_2 f56_3
theorem f56_1e:SQ f70 f56_2 f56_3:=rfl
def c_f56:AFun:=⟨150,[],f70⟩
theorem k_f56:kX x_f56 56 c_f56:=by delta kX; kernel_rfl
theorem e_f56:eX 56:=by delta eX; kernel_rfl

def n_f57:Nat:=57
def x_f57:=xX 19 [0,1,4,5,6,7,8,10,11,13,15,17,18] [] [(2,[0,1],[]),(12,[0,1,7,8],[]),(26,[0,1,7,8],[]),(104,[0,1,7,8,9],[]),(421,[],[]),(1688,[0,1,5,7,8],[]),(3378,[0,1,5,7,8,16],[]),(13516,[4],[]),(423,[0,1,7,8],[]),(14,[4],[])]
abbrev f57_8:AC:=.seq (.ops [0,1,7,8,9] [] [⟨none,.bin (some 9) .num .lss (.r 8) (.r 7)⟩]) (.seq (.cond (.r 9) .skip (.exit [] [] 0)) (.seq (.block 1 (.seq (.ops [0,1,5,7,8] [] [vv 10 8,vo 5 10]) (.seq (.ops [0,1,5,7,8,16] [] [vv 11 1,vv 12 0,vv 13 5,⟨none,.ixS (some 14) (.r 12) (.r 13) 12⟩,⟨none,.load (some 15) (.r 14) (some 12)⟩,⟨none,.call (some 16) false (.r 11) [(.r 15)]⟩]) (.cond (.r 16) (.seq (.ops [4] [] [vv 17 5,vo 4 17]) .ret) .skip)))) (.ops [0,1,7,8] [] [vb 18 .add 8 1,vv 8 18])))
def f57_7:AC:=.loop [0,1,7,8] [] f57_8
theorem f57_7w:aC P id m f57_7 sf st Q = bA (aC P id m f57_8) [0,1,7,8] [] sf st Q:=rfl
abbrev f57_1:AC:=.seq (.ops [0,1] [] [⟨none,.mv (some 4) (.c (.lit (.int .i64 0)))⟩]) (.seq (.seq (.ops [0,1,7,8] [] [vv 6 0,⟨none,.len (some 7) .sl (.r 6)⟩,⟨none,.mv (some 8) (.c (.lit (.int .i64 0)))⟩]) (.block 0 f57_7)) (.seq (.ops [4] [] [⟨none,.mv (some 4) (.c (.lit (.int .i64 (-1))))⟩]) .ret))
def c_f57:AFun:=⟨19,[.tmp 4],f57_1⟩
theorem k_f57:kX x_f57 57 c_f57:=by delta kX; kernel_rfl
theorem e_f57:eX 57:=by delta eX; kernel_rfl

def n_f58:Nat:=58
def x_f58:=xX 13 [0,1,6,7,8,9,10,11,12] [] [(2,[1,2,3,4],[4]),(6,[6],[])]
abbrev f58_1:AC:=.seq (.ops [1,2,3,4] [4] [⟨none,.boxL 4 2 (.r 0)⟩,⟨none,.mv (some 6) (.c (.lit (.bool false)))⟩]) (.seq (.draw [6] [] [] [vl 7 2,⟨none,.load (some 8) (.r 4) (some 2)⟩,vv 9 1,⟨none,.call (some 10) true (.f 24) [(.r 7),(.r 8),(.r 9)]⟩,vl 11 3] [⟨none,.call (some 12) false (.f 59) [(.r 10),(.r 11)]⟩,vo 6 12]) .ret)
def c_f58:AFun:=⟨13,[.tmp 6],f58_1⟩
theorem k_f58:kX x_f58 58 c_f58:=by delta kX; kernel_rfl
theorem e_f58:eX 58:=by delta eX; kernel_rfl

def n_f59:Nat:=59
def x_f59:=xX 12 [0,1,4,5,6,7,8,9,10,11] [] [(2,[0,1],[]),(6,[4],[])]
abbrev f59_1:AC:=.seq (.ops [0,1] [] [⟨none,.mv (some 4) (.c (.lit (.bool false)))⟩]) (.seq (.ops [4] [] [vv 5 1,⟨none,.bin (some 6) .num .neq (.r 5) (.c (.lit (.int .u64 18446744073709551615)))⟩,vv 7 6,⟨some (7,true),.mv (some 8) (.r 0)⟩,⟨some (7,true),.mv (some 9) (.r 1)⟩,⟨some (7,true),.bin (some 10) .num .leq (.r 8) (.r 9)⟩,⟨none,.pick (some 11) (.r 7) (.r 10) (.c (.lit (.bool false)))⟩,vo 4 11]) .ret)
def c_f59:AFun:=⟨12,[.tmp 4],f59_1⟩
theorem k_f59:kX x_f59 59 c_f59:=by delta kX; kernel_rfl
theorem e_f59:eX 59:=by delta eX; kernel_rfl

def n_f60:Nat:=60
def x_f60:=xX 26 [1,4,5,11,12,13,16,18,19,22,24,25] [] [(2,[0,3],[3]),(12,[3,11,12,13],[3]),(26,[3,11,12,13],[3]),(104,[3,11,12,13,14],[3]),(421,[],[]),(1688,[3,7,11,12,13],[3,7]),(3378,[3,7,11,12,13,20],[3,7]),(13516,[4,5],[]),(423,[3,11,12,13],[3]),(14,[4,5],[])]
abbrev f60_8:AC:=.seq (.ops [3,11,12,13,14] [3] [⟨none,.bin (some 14) .num .lss (.r 13) (.r 12)⟩]) (.seq (.cond (.r 14) .skip (.exit [] [] 0)) (.seq (.block 1 (.seq (.ops [3,7,11,12,13] [3,7] [⟨none,.ixS (some 15) (.r 11) (.r 13) 4⟩,⟨none,.load (some 16) (.r 15) (some 4)⟩,⟨none,.newL 7 [(.lit (.int .i64 0)),(.lit (.int .i64 0)),(.lit (.int .i64 0)),(.lit (.bool false))]⟩,⟨none,.store 4 (.r 7) (.r 16)⟩]) (.seq (.ops [3,7,11,12,13,20] [3,7] [vd 17 7 0,⟨none,.load (some 18) (.r 17) (some 2)⟩,⟨none,.load (some 19) (.r 3) (some 2)⟩,⟨none,.bin (some 20) (.agg (.field 0 1 .int (.field 1 1 .int .tt))) .eql (.r 18) (.r 19)⟩]) (.cond (.r 20) (.seq (.draw [4,5] [] [] [vd 21 7 2,vl 22 21,vd 23 7 3,vl 24 23,vv 4 22] [vo 5 24]) .ret) .skip)))) (.ops [3,11,12,13] [3] [vb 25 .add 13 1,vv 13 25])))
def f60_7:AC:=.loop [3,11,12,13] [3] f60_8
theorem f60_7w:aC P id m f60_7 sf st Q = bA (aC P id m f60_8) [3,11,12,13] [3] sf st Q:=rfl
abbrev f60_1:AC:=.seq (.ops [0,3] [3] [⟨none,.boxL 3 2 (.r 1)⟩,⟨none,.mv (some 4) (.c (.lit (.int .i64 0)))⟩,⟨none,.mv (some 5) (.c (.lit (.bool false)))⟩]) (.seq (.seq (.ops [3,11,12,13] [3] [vv 8 0,vn 9 8,vd 10 9 3,vl 11 10,⟨none,.len (some 12) .sl (.r 11)⟩,⟨none,.mv (some 13) (.c (.lit (.int .i64 0)))⟩]) (.block 0 f60_7)) (.seq (.ops [4,5] [] [⟨none,.mv (some 4) (.c (.lit (.int .i64 0)))⟩,⟨none,.mv (some 5) (.c (.lit (.bool false)))⟩]) .ret))
def c_f60:AFun:=⟨26,[.tmp 4,.tmp 5],f60_1⟩
theorem k_f60:kX x_f60 60 c_f60:=by delta kX; kernel_rfl
theorem e_f60:eX 60:=by delta eX; kernel_rfl

def n_f61:Nat:=61
def x_f61:=xX 10 [0,1,2,3,4,6,7,8,9] [] [(2,[2,3,4],[]),(6,[6],[])]
abbrev f61_2:AC:=.ops [2,3,4] [] [⟨none,.boxB 3 1 (.r 0)⟩,⟨none,.boxB 4 2 (.r 1)⟩,⟨none,.mv (some 6) (.c (.lit (.bool false)))⟩]
abbrev f61_3:AC:=.seq (.ops [6] [] [vv 7 2,⟨none,.mkfn (some 8) 72 [] [(.r 3),(.r 4)]⟩,⟨none,.call (some 9) false (.f 71) [(.r 7),(.r 8)]⟩,vo 6 9]) .ret
def f72:AC:=.seq f61_2 f61_3
theorem f61_1e:SQ f72 f61_2 f61_3:=rfl
def c_f61:AFun:=⟨10,[.tmp 6],f72⟩
theorem k_f61:kX x_f61 61 c_f61:=by delta kX; kernel_rfl
theorem e_f61:eX 61:=by delta eX; kernel_rfl

def n_f62:Nat:=62
def x_f62:=xX 10 [0,2,3,4,5,7,8,9] [] [(2,[0],[]),(12,[0,6],[]),(52,[2,3],[]),(14,[2,3],[])]
abbrev f62_1:AC:=.seq (.ops [0] [] [⟨none,.mv (some 2) (.c (.lit (.slice none 0 0)))⟩,⟨none,.mv (some 3) (.c (.lit (.int .i64 0)))⟩]) (.seq (.seq (.ops [0,6] [] [vv 4 0,⟨none,.len (some 5) .sl (.r 4)⟩,vb 6 .gtr 5 5000]) (.cond (.r 6) (.seq (.ops [2,3] [] [⟨none,.mv (some 2) (.c (.lit (.slice none 0 0)))⟩,⟨none,.mv (some 3) (.c (.lit (.int .i64 7)))⟩]) .ret) .skip)) (.seq (.ops [2,3] [] [vv 7 0,⟨none,.call (some 8) false (.f 74) [(.r 7)]⟩,⟨none,.call (some 9) false (.f 73) [(.r 8)]⟩,vo 2 9,⟨none,.mv (some 3) (.c (.lit (.int .i64 0)))⟩]) .ret))
def c_f62:AFun:=⟨10,[.tmp 2,.tmp 3],f62_1⟩
theorem k_f62:kX x_f62 62 c_f62:=by delta kX; kernel_rfl
theorem e_f62:eX 62:=by delta eX; kernel_rfl

def n_f63:Nat:=63
def x_f63:=xX 4 [0,1,2,3] [] [(2,[1],[]),(6,[2],[])]
abbrev f63_2:AC:=.ops [1] [] [⟨none,.boxB 1 1 (.r 0)⟩,⟨none,.mv (some 2) (.c (.lit .nilFunc))⟩]
abbrev f63_3:AC:=.seq (.ops [2] [] [⟨none,.mkfn (some 3) 75 [] [(.r 1)]⟩,vo 2 3]) .ret
def f75:AC:=.seq f63_2 f63_3
theorem f63_1e:SQ f75 f63_2 f63_3:=rfl
def c_f63:AFun:=⟨4,[.tmp 2],f75⟩
theorem k_f63:kX x_f63 63 c_f63:=by delta kX; kernel_rfl
theorem e_f63:eX 63:=by delta eX; kernel_rfl

def n_f64:Nat:=64
def x_f64:=xX 9 [0,1,4,5,6,7,8] [] [(2,[0,1],[]),(6,[4],[])]
abbrev f64_1:AC:=.seq (.ops [0,1] [] [⟨none,.mv (some 4) (.c (.lit (.bool false)))⟩]) (.seq (.ops [4] [] [vv 5 0,vv 6 1,⟨none,.call (some 7) false (.f 76) [(.r 5),(.r 6)]⟩,vb 8 .geq 7 0,vo 4 8]) .ret)
def c_f64:AFun:=⟨9,[.tmp 4],f64_1⟩
theorem k_f64:kX x_f64 64 c_f64:=by delta kX; kernel_rfl
theorem e_f64:eX 64:=by delta eX; kernel_rfl

def n_f68:Nat:=68
def x_f68:=xX 20 [1,2,4,10,11,12,13,14,15,16,17] [12,16,17] [(3000000019,[6,7,14],[]),(2,[0,2,4],[]),(3,[],[])]
abbrev f68_2:AC:=.ops [0,2,4] [] [⟨none,.boxB 4 2 (.r 1)⟩]
def f68_3h:List GI:=[vv 6 0,
  vv 7 0,
  vn 8 7,
  vd 9 8 3,
  vl 10 9,
  ⟨none,.mkfn (some 11) 79 [] [(.r 4)]⟩]
def f68_3p:List (Bool×GI):=[(false,⟨none,.load (some 13) (.r 4) (some 2)⟩),
  (false,vv 14 2),
  (false,⟨none,.bst (some 15) [(0,2),(2,1),(3,1)] (.agg [(.lit (.int .i64 0)),(.lit (.int .i64 0)),(.lit (.int .i64 0)),(.lit (.bool false))]) [(0,(.r 13)),(1,(.r 14)),(2,(.c (.lit (.bool true))))]⟩),
  (false,⟨none,.bsl (some 16) 4 1 (.agg [(.lit (.int .i64 0)),(.lit (.int .i64 0)),(.lit (.int .i64 0)),(.lit (.bool false))]) [(0,(.r 15))]⟩)]
def f68_3l:List GI:=[⟨none,.x (some 17) (.appB (.r 12) 4 32 (.r 16))⟩,
  vn 18 6,
  vd 19 18 3,
  ⟨none,.store 1 (.r 19) (.r 17)⟩]
def f68_3:AC:=.drawM [] [] f68_3h (some 12) (.f 78) [(.r 10),(.r 11)] f68_3p f68_3l
theorem f68_3e:aC P id m f68_3 sf st Q = (m = false∧drawM P id f68_3h (some 12) (.f 78) [(.r 10),(.r 11)] f68_3p sf st (gf P id m [] [] f68_3l Q)):=rfl
def f79:AC:=.seq f68_2 f68_3
theorem f68_1e:SQ f79 f68_2 f68_3:=rfl
def c_f68:AFun:=⟨20,[],f79⟩
theorem k_f68:kX x_f68 68 c_f68:=by delta kX; kernel_rfl
theorem e_f68:eX 68:=by delta eX; kernel_rfl

def n_f69:Nat:=69
def x_f69:=xX 42 [0,1,4,5,6,8,9,10,11,13,14,15,16,17,18,20,21,23,25,26,27,28,31,32,34,35,36,37,38,39,40,41] [0,30,36,38] [(2,[0,1],[]),(6,[0,1,5],[]),(28,[0,1,5,12],[]),(116,[4],[]),(60,[0,1,5,6],[]),(122,[0,1,5,6],[]),(976,[0,1,5,6,19],[]),(1955,[0,5],[]),(3912,[0,1,5,6,7],[7]),(7826,[0,1,5,6,7,29],[7]),(31308,[0,1,5,6],[]),(31309,[0,1,5,6],[]),(979,[0,1,5,6],[]),(62,[0,5],[]),(126,[4],[])]
abbrev f69_16:AC:=.seq (.seq (.ops [0,1,5,6,19] [] [vv 16 6,vv 17 0,⟨none,.len (some 18) .sl (.r 17)⟩,⟨none,.bin (some 19) .num .lss (.r 16) (.r 18)⟩]) (.cond (.r 19) .skip (.exit [0,5] [] 0))) (.seq (.block 1 (.seq (.ops [0,1,5,6,7] [7] [vv 22 0,vv 23 6,⟨none,.ixS (some 24) (.r 22) (.r 23) 12⟩,⟨none,.load (some 25) (.r 24) (some 12)⟩,⟨none,.newL 7 [(.lit (.int .i64 0)),(.lit (.int .i64 0)),(.lit (.int .i64 0)),(.lit (.int .i64 0)),(.lit (.slice none 0 0)),(.lit (.int .i64 0)),(.lit (.int .i64 0)),(.lit (.int .i64 0)),(.lit (.int .i64 0)),(.lit (.string ⟨#[]⟩)),(.lit (.int .i64 0)),(.lit (.int .u64 0))]⟩,⟨none,.store 12 (.r 7) (.r 25)⟩]) (.seq (.ops [0,1,5,6,7,29] [7] [vv 26 1,⟨none,.load (some 27) (.r 7) (some 12)⟩,⟨none,.call (some 28) false (.r 26) [(.r 27)]⟩,⟨none,.un (some 29) .not (.r 28)⟩]) (.cond (.r 29) (.seq (.ops [0,1,5,6] [] [vv 30 0,vv 31 5,⟨none,.load (some 32) (.r 7) (some 12)⟩,⟨none,.ixS (some 33) (.r 30) (.r 31) 12⟩,⟨none,.store 12 (.r 33) (.r 32)⟩]) (.ops [0,1,5,6] [] [vv 34 5,vb 35 .add 34 1,vo 5 35])) .skip)))) (.ops [0,1,5,6] [] [vv 20 6,vb 21 .add 20 1,vo 6 21]))
def f69_15:AC:=.loop [0,1,5,6] [] f69_16
theorem f69_15w:aC P id m f69_15 sf st Q = bA (aC P id m f69_16) [0,1,5,6] [] sf st Q:=rfl
abbrev f69_1:AC:=.seq (.ops [0,1] [] [⟨none,.mv (some 4) (.c (.lit (.slice none 0 0)))⟩]) (.seq (.ops [0,1,5] [] [vv 8 0,vv 9 1,⟨none,.call (some 10) false (.f 57) [(.r 8),(.r 9)]⟩,vo 5 10]) (.seq (.seq (.ops [0,1,5,12] [] [vv 11 5,⟨none,.bin (some 12) .num .eql (.r 11) (.c (.lit (.int .i64 (-1))))⟩]) (.cond (.r 12) (.seq (.ops [4] [] [vv 13 0,vo 4 13]) .ret) .skip)) (.seq (.seq (.ops [0,1,5,6] [] [vv 14 5,vb 15 .add 14 1,vo 6 15]) (.block 0 f69_15)) (.seq (.ops [0,5] [] [vv 36 0,vv 37 5,⟨none,.sliOwn 38 36 (.r 37) 12⟩,⟨none,.x none (.clrB 12 (.agg [(.lit (.int .i64 0)),(.lit (.int .i64 0)),(.lit (.int .i64 0)),(.lit (.int .i64 0)),(.lit (.slice none 0 0)),(.lit (.int .i64 0)),(.lit (.int .i64 0)),(.lit (.int .i64 0)),(.lit (.int .i64 0)),(.lit (.string ⟨#[]⟩)),(.lit (.int .i64 0)),(.lit (.int .u64 0))]) (.r 38))⟩]) (.seq (.ops [4] [] [vv 39 0,vv 40 5,⟨none,.sliS (some 41) (.r 39) none (some (.r 40)) 12⟩,vo 4 41]) .ret)))))
def c_f69:AFun:=⟨42,[.tmp 4],f69_1⟩
theorem k_f69:kX x_f69 69 c_f69:=by delta kX; kernel_rfl
theorem e_f69:eX 69:=by delta eX; kernel_rfl

def n_f70:Nat:=70
def x_f70:=xX 9 [0,3,5,7,8] [] [(2,[1,2],[2]),(6,[3],[])]
abbrev f70_1:AC:=.seq (.ops [1,2] [2] [⟨none,.boxL 2 12 (.r 0)⟩,⟨none,.mv (some 3) (.c (.lit (.bool false)))⟩]) (.seq (.ops [3] [] [vd 4 2 5,⟨none,.load (some 5) (.r 4) (some 2)⟩,vd 6 1 1,⟨none,.load (some 7) (.r 6) (some 2)⟩,⟨none,.bin (some 8) (.agg (.field 0 1 .int (.field 1 1 .int .tt))) .eql (.r 5) (.r 7)⟩,vo 3 8]) .ret)
def c_f70:AFun:=⟨9,[.tmp 3],f70_1⟩
theorem k_f70:kX x_f70 70 c_f70:=by delta kX; kernel_rfl
theorem e_f70:eX 70:=by delta eX; kernel_rfl

def n_f71:Nat:=71
def x_f71:=xX 9 [0,1,4,5,6,7,8] [] [(2,[0,1],[]),(6,[4],[])]
abbrev f71_1:AC:=.seq (.ops [0,1] [] [⟨none,.mv (some 4) (.c (.lit (.bool false)))⟩]) (.seq (.ops [4] [] [vv 5 0,vv 6 1,⟨none,.call (some 7) false (.f 80) [(.r 5),(.r 6)]⟩,vb 8 .geq 7 0,vo 4 8]) .ret)
def c_f71:AFun:=⟨9,[.tmp 4],f71_1⟩
theorem k_f71:kX x_f71 71 c_f71:=by delta kX; kernel_rfl
theorem e_f71:eX 71:=by delta eX; kernel_rfl

def n_f73:Nat:=73
def x_f73:=xX 147 [0,2,3,4,5,7,10,11,13,14,15,16,19,22,26,28,29,32,35,38,39,40,41,43,44,47,50,51,52,53,54,56,57,58,59,62,67,68,72,75,76,77,80,82,83,84,85,86,92,95,98,99,100,101,105,106,107,108,109,114,115,122,125,127,128,129,130,135,139,140,141,142,145,146] [101] [(2,[0],[]),(6,[0,3],[]),(14,[0,3,4],[]),(30,[0,3,4,5],[]),(124,[3,4,5,14,15,16],[]),(250,[3,4,5,14,15,16],[]),(1000,[3,4,5,14,15,16,17],[]),(4005,[3],[]),(16024,[3,4,5,7,14,15,16],[]),(64100,[3,4,5,7,14,15,16,23],[]),(128202,[3,4,5,14,15,16],[]),(64102,[3,4,5,7,14,15,16,26],[]),(256412,[3,4,5,7,14,15,16,26,27],[]),(512826,[3,4,5,14,15,16],[]),(1025654,[3,4,5,7,14,15,16,26,42],[]),(2051310,[3,4,5,14,15,16],[]),(4102622,[3,4,5,7,14,15,16,26,55],[]),(16410492,[3,4,5,7,14,15,16,57,58,59],[]),(32820986,[3,4,5,7,14,15,16,57,58,59],[]),(131283944,[3,4,5,7,14,15,16,57,58,59,60],[]),(525135781,[3,4,5,14,15,16],[]),(2100543128,[3,4,5,7,9,14,15,16,57,58,59],[]),(2100543129,[3,4,5,7,14,15,16,57,58,59],[]),(525135783,[3,4,5,7,14,15,16,57,58,59],[]),(16410494,[3,4,5,7,14,15,16,26,81],[]),(65641980,[3,4,5,7,10,14,15,16],[]),(131283962,[3,4,5,7,10,14,15,16,87],[]),(262567926,[3,4,5,14,15,16],[]),(65641982,[3,4,5,7,14,15,16,104],[]),(262567932,[3,4,5,7,11,14,15,16],[]),(1050271732,[3,4,5,7,11,14,15,16,110],[]),(2100543466,[3,4,5,14,15,16],[]),(2100543468,[3,4,5,7,11,14,15,16,116],[]),(8402173876,[3,4,5,7,11,12,14,15,16],[12]),(16804347754,[3,4,5,11,12,14,15,16],[12]),(16804347755,[3,4,5,11,14,15,16],[]),(1050271735,[3,4,5,14,15,16],[]),(4007,[3,4,5,14,15,16],[]),(126,[2],[])]
def f73_2l:List GI:=[⟨none,.mv (some 2) (.c (.lit (.slice none 0 0)))⟩]
def f83:AC:=.ops [0] [] f73_2l
theorem f73_2e:OP f83 f73_2l [0] []:=rfl
abbrev f73_4:AC:=.ops [0,3] [] [⟨none,.mv (some 3) (.c (.lit (.slice none 0 0)))⟩]
abbrev f73_44:AC:=.seq (.ops [3,4,5,7,14,15,16,57,58,59,60] [] [⟨none,.bin (some 60) .num .lss (.r 59) (.r 58)⟩]) (.seq (.cond (.r 60) .skip (.exit [3,4,5,14,15,16] [] 3)) (.seq (.block 4 (.seq (.ops [3,4,5,7,9,14,15,16,57,58,59] [] [⟨none,.ixS (some 61) (.r 57) (.r 59) 1⟩,vl 62 61,vo 9 62]) (.draw [3,4,5,7,14,15,16,57,58,59] [] [] [vv 63 9,vv 64 9,vn 65 64,vd 66 65 4,vl 67 66,vv 68 67,⟨some (68,true),.mv (some 69) (.r 9)⟩,⟨some (68,true),.nilck (some 70) (.r 69)⟩,⟨some (68,true),.addr (some 71) (.r 70) 0⟩,⟨some (68,true),.load (some 72) (.r 71) (some 2)⟩,⟨some (68,true),.addr (some 73) (.r 7) 1⟩,⟨some (68,true),.addr (some 74) (.r 73) 1⟩,⟨some (68,true),.load (some 75) (.r 74) (some 2)⟩,⟨some (68,true),.bin (some 76) (.agg (.field 0 1 .int (.field 1 1 .int .tt))) .neq (.r 72) (.r 75)⟩,⟨none,.pick (some 77) (.r 68) (.r 76) (.c (.lit (.bool false)))⟩] [vn 78 63,vd 79 78 4,⟨none,.store 1 (.r 79) (.r 77)⟩]))) (.ops [3,4,5,7,14,15,16,57,58,59] [] [vb 80 .add 59 1,vv 59 80])))
def f73_43:AC:=.loop [3,4,5,7,14,15,16,57,58,59] [] f73_44
theorem f73_43w:aC P id m f73_43 sf st Q = bA (aC P id m f73_44) [3,4,5,7,14,15,16,57,58,59] [] sf st Q:=rfl
def f73_62h:List GI:=[vv 88 10,
  vv 89 10,
  vn 90 89,
  vd 91 90 5,
  vl 92 91,
  vd 93 7 13,
  vd 94 93 5,
  ⟨none,.load (some 95) (.r 94) (some 2)⟩,
  vd 96 7 1,
  vd 97 96 8,
  vl 98 97,
  ⟨none,.bst (some 99) [(0,2),(2,2),(4,1)] (.agg [(.lit (.int .i64 0)),(.lit (.int .i64 0)),(.lit (.int .i64 0)),(.lit (.int .i64 0)),(.lit (.int .i64 0))]) [(0,(.r 95)),(2,(.r 98))]⟩,
  ⟨none,.bsl (some 100) 5 1 (.agg [(.lit (.int .i64 0)),(.lit (.int .i64 0)),(.lit (.int .i64 0)),(.lit (.int .i64 0)),(.lit (.int .i64 0))]) [(0,(.r 99))]⟩]
def f73_62p:List (Bool×GI):=[]
def f73_62l:List GI:=[vn 102 88,
  vd 103 102 5,
  ⟨none,.store 1 (.r 103) (.r 101)⟩]
def f73_62:AC:=.drawA [3,4,5,14,15,16] [] f73_62h (some 101) (.r 92) 5 40 (.r 100) f73_62p f73_62l
theorem f73_62e:aC P id m f73_62 sf st Q = (m = false∧drawA P id f73_62h (some 101) (.r 92) 5 40 (.r 100) f73_62p sf st (gf P id m [3,4,5,14,15,16] [] f73_62l Q)):=rfl
abbrev f73_68:AC:=.seq (.seq (.ops [3,4,5,7,11,14,15,16,110] [] [vv 109 11,⟨none,.bin (some 110) (.nil .ptr) .eql (.r 109) (.c (.lit (.pointer none)))⟩]) (.cond (.r 110) (.exit [3,4,5,14,15,16] [] 1) .skip)) (.seq (.seq (.ops [3,4,5,7,11,14,15,16,116] [] [vv 111 11,vn 112 111,vd 113 112 5,vl 114 113,⟨none,.len (some 115) .sl (.r 114)⟩,vb 116 .gtr 115 0]) (.cond (.r 116) (.seq (.ops [3,4,5,7,11,12,14,15,16] [12] [vv 117 11,vn 118 117,vd 119 118 5,vl 120 119,⟨none,.ixS (some 121) (.r 120) (.c (.lit (.int .i64 0))) 5⟩,⟨none,.load (some 122) (.r 121) (some 5)⟩,⟨none,.newL 12 [(.lit (.int .i64 0)),(.lit (.int .i64 0)),(.lit (.int .i64 0)),(.lit (.int .i64 0)),(.lit (.int .i64 0))]⟩,⟨none,.store 5 (.r 12) (.r 122)⟩]) (.seq (.ops [3,4,5,11,12,14,15,16] [12] [vd 123 7 13,vd 124 123 5,⟨none,.load (some 125) (.r 124) (some 2)⟩,vd 126 12 2,⟨none,.store 2 (.r 126) (.r 125)⟩]) (.ops [3,4,5,11,14,15,16] [] [vo 127 3,⟨none,.load (some 128) (.r 12) (some 5)⟩,⟨none,.bsl (some 129) 5 1 (.agg [(.lit (.int .i64 0)),(.lit (.int .i64 0)),(.lit (.int .i64 0)),(.lit (.int .i64 0)),(.lit (.int .i64 0))]) [(0,(.r 128))]⟩,⟨none,.appS 130 127 5 40 (.r 129)⟩,vo 3 130]))) .skip)) (.draw [3,4,5,14,15,16] [] [] [vv 131 11,vv 132 11,vn 133 132,vd 134 133 5,vl 135 134,vv 136 11,vn 137 136,vd 138 137 5,vl 139 138,⟨none,.len (some 140) .sl (.r 139)⟩,⟨none,.mn (some 141) true (.c (.lit (.int .i64 1))) (.r 140)⟩,⟨none,.sliS (some 142) (.r 135) (some (.r 141)) none 5⟩] [vn 143 131,vd 144 143 5,⟨none,.store 1 (.r 144) (.r 142)⟩]))
abbrev f73_35:AC:=.cond (.r 42) (.ops [3,4,5,14,15,16] [] [⟨none,.loadOwn 44 (.r 4)⟩,vd 45 7 13,vd 46 45 5,⟨none,.load (some 47) (.r 46) (some 2)⟩,vd 48 7 13,vd 49 48 9,⟨none,.load (some 50) (.r 49) (some 2)⟩,⟨none,.bst (some 51) [(0,2),(2,2),(4,1),(5,1)] (.agg [(.lit (.int .i64 0)),(.lit (.int .i64 0)),(.lit (.string ⟨#[]⟩)),(.lit (.int .i64 0)),(.lit (.bool false)),(.lit (.slice none 0 0))]) [(0,(.r 47)),(1,(.r 50)),(2,(.c (.lit (.bool true))))]⟩,⟨none,.boxB 52 6 (.r 51)⟩,⟨none,.bsl (some 53) 1 1 (.lit (.pointer none)) [(0,(.r 52))]⟩,⟨none,.appS 54 44 1 8 (.r 53)⟩,⟨none,.store 1 (.r 4) (.r 54)⟩]) (.seq (.ops [3,4,5,7,14,15,16,26,55] [] [vb 56 .eql 26 7,vo 55 56]) (.cond (.r 55) (.seq (.ops [3,4,5,7,14,15,16,57,58,59] [] [vl 57 4,⟨none,.len (some 58) .sl (.r 57)⟩,⟨none,.mv (some 59) (.c (.lit (.int .i64 0)))⟩]) (.block 3 f73_43)) (.seq (.ops [3,4,5,7,14,15,16,26,81] [] [vb 82 .eql 26 3,vo 81 82]) (.cond (.r 81) (.seq (.ops [3,4,5,7,10,14,15,16] [] [vv 83 5,⟨none,.mkfn (some 84) 83 [] [(.r 7)]⟩,⟨none,.call (some 85) false (.r 83) [(.r 84)]⟩,vo 10 85]) (.seq (.ops [3,4,5,7,10,14,15,16,87] [] [vv 86 10,⟨none,.bin (some 87) (.nil .ptr) .neq (.r 86) (.c (.lit (.pointer none)))⟩]) (.cond (.r 87) f73_62 .skip))) (.seq (.ops [3,4,5,7,14,15,16,104] [] [vb 105 .eql 26 2,vo 104 105]) (.cond (.r 104) (.seq (.ops [3,4,5,7,11,14,15,16] [] [vv 106 5,⟨none,.mkfn (some 107) 84 [] [(.r 7)]⟩,⟨none,.call (some 108) false (.r 106) [(.r 107)]⟩,vo 11 108]) f73_68) .skip))))))
abbrev f73_20:AC:=.seq (.ops [3,4,5,7,14,15,16] [] [⟨none,.ixS (some 18) (.r 14) (.r 16) 25⟩,⟨none,.load (some 19) (.r 18) (some 25)⟩,⟨none,.newB 7 [(.lit (.int .i64 0)),(.lit (.int .i64 0)),(.lit (.int .i64 0)),(.lit (.int .i64 0)),(.lit (.int .i64 0)),(.lit (.int .i64 0)),(.lit (.string ⟨#[]⟩)),(.lit (.int .i64 0)),(.lit (.slice none 0 0)),(.lit (.int .i64 0)),(.lit (.int .i64 0)),(.lit (.int .i64 0)),(.lit (.int .u64 0)),(.lit (.int .i64 0)),(.lit (.int .i64 0)),(.lit (.int .i64 0)),(.lit (.int .i64 0)),(.lit (.slice none 0 0)),(.lit (.int .i64 0)),(.lit (.int .i64 0)),(.lit (.int .i64 0)),(.lit (.int .i64 0)),(.lit (.string ⟨#[]⟩)),(.lit (.int .i64 0)),(.lit (.int .u64 0))]⟩,⟨none,.store 25 (.r 7) (.r 19)⟩]) (.seq (.seq (.ops [3,4,5,7,14,15,16,23] [] [vd 20 7 13,vd 21 20 2,vl 22 21,vb 23 .neq 22 0]) (.cond (.r 23) (.exit [3,4,5,14,15,16] [] 1) .skip)) (.seq (.ops [3,4,5,7,14,15,16,26] [] [vd 24 7 13,vd 25 24 1,vl 26 25]) (.block 2 (.seq (.ops [3,4,5,7,14,15,16,26,27] [] [vb 28 .eql 26 4,vo 27 28]) (.cond (.r 27) (.ops [3,4,5,14,15,16] [] [vo 29 3,vd 30 7 13,vd 31 30 5,⟨none,.load (some 32) (.r 31) (some 2)⟩,vd 33 7 13,vd 34 33 7,⟨none,.load (some 35) (.r 34) (some 2)⟩,vd 36 7 1,vd 37 36 8,vl 38 37,⟨none,.bst (some 39) [(0,2),(2,2),(4,1)] (.agg [(.lit (.int .i64 0)),(.lit (.int .i64 0)),(.lit (.int .i64 0)),(.lit (.int .i64 0)),(.lit (.int .i64 0))]) [(0,(.r 32)),(1,(.r 35)),(2,(.r 38))]⟩,⟨none,.bsl (some 40) 5 1 (.agg [(.lit (.int .i64 0)),(.lit (.int .i64 0)),(.lit (.int .i64 0)),(.lit (.int .i64 0)),(.lit (.int .i64 0))]) [(0,(.r 39))]⟩,⟨none,.appS 41 29 5 40 (.r 40)⟩,vo 3 41]) (.seq (.ops [3,4,5,7,14,15,16,26,42] [] [vb 43 .eql 26 1,vo 42 43]) f73_35))))))
abbrev f73_14:AC:=.seq (.ops [3,4,5,14,15,16,17] [] [⟨none,.bin (some 17) .num .lss (.r 16) (.r 15)⟩]) (.seq (.cond (.r 17) .skip (.exit [3] [] 0)) (.seq (.block 1 f73_20) (.ops [3,4,5,14,15,16] [] [vb 145 .add 16 1,vv 16 145])))
def f73_13:AC:=.loop [3,4,5,14,15,16] [] f73_14
theorem f73_13w:aC P id m f73_13 sf st Q = bA (aC P id m f73_14) [3,4,5,14,15,16] [] sf st Q:=rfl
abbrev f73_5:AC:=.seq (.ops [0,3,4] [] [⟨none,.newB 4 [(.lit (.slice none 0 0))]⟩]) (.seq (.ops [0,3,4,5] [] [⟨none,.mkfn (some 13) 81 [] [(.r 4)]⟩,vo 5 13]) (.seq (.seq (.ops [3,4,5,14,15,16] [] [vv 14 0,⟨none,.len (some 15) .sl (.r 14)⟩,⟨none,.mv (some 16) (.c (.lit (.int .i64 0)))⟩]) (.block 0 f73_13)) (.seq (.ops [2] [] [vv 146 3,vo 2 146]) .ret)))
def f84:AC:=.seq f73_4 f73_5
theorem f73_3e:SQ f84 f73_4 f73_5:=rfl
def f81:AC:=.seq f83 f84
theorem f73_1e:SQ f81 f83 f84:=rfl
def c_f73:AFun:=⟨147,[.tmp 2],f81⟩
theorem k_f73:kX x_f73 73 c_f73:=by delta kX; kernel_rfl
theorem e_f73:eX 73:=by delta eX; kernel_rfl

def n_f74:Nat:=74
def x_f74:=xX 65 [0,2,3,4,5,8,9,10,11,12,14,16,19,20,21,23,24,25,26,28,30,33,34,35,37,38,39,40,42,43,44,45,46,47,49,52,53,55,56,57,59,60,61,62,63,64] [] [(2,[0],[]),(6,[0,3],[]),(14,[0,3,4],[]),(60,[3,4,10,11,12],[]),(122,[3,4,10,11,12],[]),(488,[3,4,10,11,12,13],[]),(1957,[4],[]),(7832,[3,4,5,6,10,11,12],[6]),(31332,[3,4,5,6,10,11,12,17],[6]),(62666,[3,4,10,11,12],[]),(125334,[3,4,5,6,10,11,12,31],[6]),(501340,[3,4,5,6,7,8,10,11,12],[6,7]),(1002682,[3,4,5,6,7,10,11,12,54],[6,7]),(2005366,[3,4,10,11,12],[]),(1959,[3,4,10,11,12],[]),(62,[2],[])]
abbrev f74_30:AC:=.seq (.ops [3,4,5,6,7,10,11,12,54] [6,7] [vv 46 8,vv 47 46,⟨some (47,true),.addr (some 48) (.r 7) 0⟩,⟨some (47,true),.load (some 49) (.r 48) none⟩,⟨some (47,true),.addr (some 50) (.r 6) 16⟩,⟨some (47,true),.addr (some 51) (.r 50) 1⟩,⟨some (47,true),.load (some 52) (.r 51) none⟩,⟨some (47,true),.bin (some 53) .num .eql (.r 49) (.r 52)⟩,⟨none,.pick (some 54) (.r 47) (.r 53) (.c (.lit (.bool false)))⟩]) (.cond (.r 54) (.ops [3,4,10,11,12] [] [vo 55 4,vv 56 5,⟨none,.load (some 57) (.r 7) (some 12)⟩,vd 58 6 16,⟨none,.load (some 59) (.r 58) (some 12)⟩,⟨none,.bst (some 60) [(0,1),(1,12),(13,12)] (.agg [(.lit (.int .i64 0)),(.lit (.int .i64 0)),(.lit (.int .i64 0)),(.lit (.int .i64 0)),(.lit (.int .i64 0)),(.lit (.int .i64 0)),(.lit (.string ⟨#[]⟩)),(.lit (.int .i64 0)),(.lit (.slice none 0 0)),(.lit (.int .i64 0)),(.lit (.int .i64 0)),(.lit (.int .i64 0)),(.lit (.int .u64 0)),(.lit (.int .i64 0)),(.lit (.int .i64 0)),(.lit (.int .i64 0)),(.lit (.int .i64 0)),(.lit (.slice none 0 0)),(.lit (.int .i64 0)),(.lit (.int .i64 0)),(.lit (.int .i64 0)),(.lit (.int .i64 0)),(.lit (.string ⟨#[]⟩)),(.lit (.int .i64 0)),(.lit (.int .u64 0))]) [(0,(.r 56)),(1,(.r 57)),(2,(.r 59))]⟩,⟨none,.bsl (some 61) 25 1 (.agg [(.lit (.int .i64 0)),(.lit (.int .i64 0)),(.lit (.int .i64 0)),(.lit (.int .i64 0)),(.lit (.int .i64 0)),(.lit (.int .i64 0)),(.lit (.string ⟨#[]⟩)),(.lit (.int .i64 0)),(.lit (.slice none 0 0)),(.lit (.int .i64 0)),(.lit (.int .i64 0)),(.lit (.int .i64 0)),(.lit (.int .u64 0)),(.lit (.int .i64 0)),(.lit (.int .i64 0)),(.lit (.int .i64 0)),(.lit (.int .i64 0)),(.lit (.slice none 0 0)),(.lit (.int .i64 0)),(.lit (.int .i64 0)),(.lit (.int .i64 0)),(.lit (.int .i64 0)),(.lit (.string ⟨#[]⟩)),(.lit (.int .i64 0)),(.lit (.int .u64 0))]) [(0,(.r 60))]⟩,⟨none,.appS 62 55 25 248 (.r 61)⟩,vo 4 62]) .skip)
abbrev f74_21:AC:=.seq (.ops [3,4,5,6,10,11,12,17] [6] [vd 18 6 0,vl 19 18,vb 20 .eql 19 1,vv 21 20,⟨some (21,true),.addr (some 22) (.r 6) 14⟩,⟨some (21,true),.load (some 23) (.r 22) none⟩,⟨some (21,true),.bin (some 24) .num .eql (.r 23) (.c (.lit (.int .i64 0)))⟩,⟨none,.pick (some 25) (.r 21) (.r 24) (.c (.lit (.bool false)))⟩,vo 17 25]) (.cond (.r 17) (.ops [3,4,10,11,12] [] [vv 26 3,vd 27 6 1,vl 28 27,vd 29 6 2,⟨none,.load (some 30) (.r 29) (some 12)⟩,⟨none,.upd (.int .i64) (.r 26) (.r 28) (.r 30)⟩]) (.seq (.ops [3,4,5,6,10,11,12,31] [6] [vd 32 6 0,vl 33 32,vb 34 .eql 33 2,vv 35 34,⟨some (35,true),.addr (some 36) (.r 6) 15⟩,⟨some (35,true),.load (some 37) (.r 36) none⟩,⟨none,.pick (some 38) (.r 35) (.r 37) (.c (.lit (.bool false)))⟩,vo 31 38]) (.cond (.r 31) (.seq (.ops [3,4,5,6,7,8,10,11,12] [6,7] [vv 40 3,vd 41 6 1,vl 42 41,⟨none,.lookup (some 43) (.int .i64) (.agg [(.lit (.int .i64 0)),(.lit (.int .i64 0)),(.lit (.int .i64 0)),(.lit (.int .i64 0)),(.lit (.int .i64 0)),(.lit (.string ⟨#[]⟩)),(.lit (.int .i64 0)),(.lit (.slice none 0 0)),(.lit (.int .i64 0)),(.lit (.int .i64 0)),(.lit (.int .i64 0)),(.lit (.int .u64 0))]) true (.r 40) (.r 42)⟩,vv 39 43,ve 44 39 0,ve 45 39 1,⟨none,.newL 7 [(.lit (.int .i64 0)),(.lit (.int .i64 0)),(.lit (.int .i64 0)),(.lit (.int .i64 0)),(.lit (.int .i64 0)),(.lit (.string ⟨#[]⟩)),(.lit (.int .i64 0)),(.lit (.slice none 0 0)),(.lit (.int .i64 0)),(.lit (.int .i64 0)),(.lit (.int .i64 0)),(.lit (.int .u64 0))]⟩,⟨none,.store 12 (.r 7) (.r 44)⟩,vo 8 45]) f74_30) .skip)))
abbrev f74_12:AC:=.seq (.ops [3,4,10,11,12,13] [] [⟨none,.bin (some 13) .num .lss (.r 12) (.r 11)⟩]) (.seq (.cond (.r 13) .skip (.exit [4] [] 0)) (.seq (.block 1 (.seq (.ops [3,4,5,6,10,11,12] [6] [vv 14 12,⟨none,.ixS (some 15) (.r 10) (.r 12) 30⟩,⟨none,.load (some 16) (.r 15) (some 30)⟩,⟨none,.newL 6 [(.lit (.int .i64 0)),(.lit (.int .i64 0)),(.lit (.int .i64 0)),(.lit (.int .i64 0)),(.lit (.int .i64 0)),(.lit (.int .i64 0)),(.lit (.int .i64 0)),(.lit (.string ⟨#[]⟩)),(.lit (.int .i64 0)),(.lit (.slice none 0 0)),(.lit (.int .i64 0)),(.lit (.int .i64 0)),(.lit (.int .i64 0)),(.lit (.int .u64 0)),(.lit (.int .i64 0)),(.lit (.bool false)),(.lit (.int .i64 0)),(.lit (.int .i64 0)),(.lit (.int .i64 0)),(.lit (.int .i64 0)),(.lit (.slice none 0 0)),(.lit (.int .i64 0)),(.lit (.int .i64 0)),(.lit (.int .i64 0)),(.lit (.int .i64 0)),(.lit (.string ⟨#[]⟩)),(.lit (.int .i64 0)),(.lit (.int .u64 0)),(.lit (.slice none 0 0)),(.lit (.int .u64 0))]⟩,vo 5 14,⟨none,.store 30 (.r 6) (.r 16)⟩]) (.block 2 f74_21))) (.ops [3,4,10,11,12] [] [vb 63 .add 12 1,vv 12 63])))
def f74_11:AC:=.loop [3,4,10,11,12] [] f74_12
theorem f74_11w:aC P id m f74_11 sf st Q = bA (aC P id m f74_12) [3,4,10,11,12] [] sf st Q:=rfl
abbrev f74_1:AC:=.seq (.ops [0] [] [⟨none,.mv (some 2) (.c (.lit (.slice none 0 0)))⟩]) (.seq (.ops [0,3] [] [⟨none,.mkmap 9⟩,vo 3 9]) (.seq (.ops [0,3,4] [] [⟨none,.mv (some 4) (.c (.lit (.slice none 0 0)))⟩]) (.seq (.seq (.ops [3,4,10,11,12] [] [vv 10 0,⟨none,.len (some 11) .sl (.r 10)⟩,⟨none,.mv (some 12) (.c (.lit (.int .i64 0)))⟩]) (.block 0 f74_11)) (.seq (.ops [2] [] [vv 64 4,vo 2 64]) .ret))))
def c_f74:AFun:=⟨65,[.tmp 2],f74_1⟩
theorem k_f74:kX x_f74 74 c_f74:=by delta kX; kernel_rfl
theorem e_f74:eX 74:=by delta eX; kernel_rfl

def n_f76:Nat:=76
def x_f76:=xX 19 [0,1,4,5,6,7,8,10,11,13,15,17,18] [] [(2,[0,1],[]),(12,[0,1,7,8],[]),(26,[0,1,7,8],[]),(104,[0,1,7,8,9],[]),(421,[],[]),(1688,[0,1,5,7,8],[]),(3378,[0,1,5,7,8,16],[]),(13516,[4],[]),(423,[0,1,7,8],[]),(14,[4],[])]
abbrev f76_8:AC:=.seq (.ops [0,1,7,8,9] [] [⟨none,.bin (some 9) .num .lss (.r 8) (.r 7)⟩]) (.seq (.cond (.r 9) .skip (.exit [] [] 0)) (.seq (.block 1 (.seq (.ops [0,1,5,7,8] [] [vv 10 8,vo 5 10]) (.seq (.ops [0,1,5,7,8,16] [] [vv 11 1,vv 12 0,vv 13 5,⟨none,.ixS (some 14) (.r 12) (.r 13) 1⟩,vl 15 14,⟨none,.bin (some 16) .num .eql (.r 11) (.r 15)⟩]) (.cond (.r 16) (.seq (.ops [4] [] [vv 17 5,vo 4 17]) .ret) .skip)))) (.ops [0,1,7,8] [] [vb 18 .add 8 1,vv 8 18])))
def f76_7:AC:=.loop [0,1,7,8] [] f76_8
theorem f76_7w:aC P id m f76_7 sf st Q = bA (aC P id m f76_8) [0,1,7,8] [] sf st Q:=rfl
abbrev f76_1:AC:=.seq (.ops [0,1] [] [⟨none,.mv (some 4) (.c (.lit (.int .i64 0)))⟩]) (.seq (.seq (.ops [0,1,7,8] [] [vv 6 0,⟨none,.len (some 7) .sl (.r 6)⟩,⟨none,.mv (some 8) (.c (.lit (.int .i64 0)))⟩]) (.block 0 f76_7)) (.seq (.ops [4] [] [⟨none,.mv (some 4) (.c (.lit (.int .i64 (-1))))⟩]) .ret))
def c_f76:AFun:=⟨19,[.tmp 4],f76_1⟩
theorem k_f76:kX x_f76 76 c_f76:=by delta kX; kernel_rfl
theorem e_f76:eX 76:=by delta eX; kernel_rfl

def n_f78:Nat:=78
def x_f78:=xX 42 [0,1,4,5,6,8,9,10,11,13,14,15,16,17,18,20,21,23,25,26,27,28,31,32,34,35,36,37,38,39,40,41] [0,30,36,38] [(2,[0,1],[]),(6,[0,1,5],[]),(28,[0,1,5,12],[]),(116,[4],[]),(60,[0,1,5,6],[]),(122,[0,1,5,6],[]),(976,[0,1,5,6,19],[]),(1955,[0,5],[]),(3912,[0,1,5,6,7],[7]),(7826,[0,1,5,6,7,29],[7]),(31308,[0,1,5,6],[]),(31309,[0,1,5,6],[]),(979,[0,1,5,6],[]),(62,[0,5],[]),(126,[4],[])]
abbrev f78_16:AC:=.seq (.seq (.ops [0,1,5,6,19] [] [vv 16 6,vv 17 0,⟨none,.len (some 18) .sl (.r 17)⟩,⟨none,.bin (some 19) .num .lss (.r 16) (.r 18)⟩]) (.cond (.r 19) .skip (.exit [0,5] [] 0))) (.seq (.block 1 (.seq (.ops [0,1,5,6,7] [7] [vv 22 0,vv 23 6,⟨none,.ixS (some 24) (.r 22) (.r 23) 4⟩,⟨none,.load (some 25) (.r 24) (some 4)⟩,⟨none,.newL 7 [(.lit (.int .i64 0)),(.lit (.int .i64 0)),(.lit (.int .i64 0)),(.lit (.bool false))]⟩,⟨none,.store 4 (.r 7) (.r 25)⟩]) (.seq (.ops [0,1,5,6,7,29] [7] [vv 26 1,⟨none,.load (some 27) (.r 7) (some 4)⟩,⟨none,.call (some 28) false (.r 26) [(.r 27)]⟩,⟨none,.un (some 29) .not (.r 28)⟩]) (.cond (.r 29) (.seq (.ops [0,1,5,6] [] [vv 30 0,vv 31 5,⟨none,.load (some 32) (.r 7) (some 4)⟩,⟨none,.ixS (some 33) (.r 30) (.r 31) 4⟩,⟨none,.store 4 (.r 33) (.r 32)⟩]) (.ops [0,1,5,6] [] [vv 34 5,vb 35 .add 34 1,vo 5 35])) .skip)))) (.ops [0,1,5,6] [] [vv 20 6,vb 21 .add 20 1,vo 6 21]))
def f78_15:AC:=.loop [0,1,5,6] [] f78_16
theorem f78_15w:aC P id m f78_15 sf st Q = bA (aC P id m f78_16) [0,1,5,6] [] sf st Q:=rfl
abbrev f78_1:AC:=.seq (.ops [0,1] [] [⟨none,.mv (some 4) (.c (.lit (.slice none 0 0)))⟩]) (.seq (.ops [0,1,5] [] [vv 8 0,vv 9 1,⟨none,.call (some 10) false (.f 85) [(.r 8),(.r 9)]⟩,vo 5 10]) (.seq (.seq (.ops [0,1,5,12] [] [vv 11 5,⟨none,.bin (some 12) .num .eql (.r 11) (.c (.lit (.int .i64 (-1))))⟩]) (.cond (.r 12) (.seq (.ops [4] [] [vv 13 0,vo 4 13]) .ret) .skip)) (.seq (.seq (.ops [0,1,5,6] [] [vv 14 5,vb 15 .add 14 1,vo 6 15]) (.block 0 f78_15)) (.seq (.ops [0,5] [] [vv 36 0,vv 37 5,⟨none,.sliOwn 38 36 (.r 37) 4⟩,⟨none,.x none (.clrB 4 (.agg [(.lit (.int .i64 0)),(.lit (.int .i64 0)),(.lit (.int .i64 0)),(.lit (.bool false))]) (.r 38))⟩]) (.seq (.ops [4] [] [vv 39 0,vv 40 5,⟨none,.sliS (some 41) (.r 39) none (some (.r 40)) 4⟩,vo 4 41]) .ret)))))
def c_f78:AFun:=⟨42,[.tmp 4],f78_1⟩
theorem k_f78:kX x_f78 78 c_f78:=by delta kX; kernel_rfl
theorem e_f78:eX 78:=by delta eX; kernel_rfl

def n_f79:Nat:=79
def x_f79:=xX 8 [0,3,5,6,7] [] [(2,[1,2],[2]),(6,[3],[])]
abbrev f79_1:AC:=.seq (.ops [1,2] [2] [⟨none,.boxL 2 4 (.r 0)⟩,⟨none,.mv (some 3) (.c (.lit (.bool false)))⟩]) (.seq (.ops [3] [] [vd 4 2 0,⟨none,.load (some 5) (.r 4) (some 2)⟩,⟨none,.load (some 6) (.r 1) (some 2)⟩,⟨none,.bin (some 7) (.agg (.field 0 1 .int (.field 1 1 .int .tt))) .eql (.r 5) (.r 6)⟩,vo 3 7]) .ret)
def c_f79:AFun:=⟨8,[.tmp 3],f79_1⟩
theorem k_f79:kX x_f79 79 c_f79:=by delta kX; kernel_rfl
theorem e_f79:eX 79:=by delta eX; kernel_rfl

def n_f80:Nat:=80
def x_f80:=xX 19 [0,1,4,5,6,7,8,10,11,13,15,17,18] [] [(2,[0,1],[]),(12,[0,1,7,8],[]),(26,[0,1,7,8],[]),(104,[0,1,7,8,9],[]),(421,[],[]),(1688,[0,1,5,7,8],[]),(3378,[0,1,5,7,8,16],[]),(13516,[4],[]),(423,[0,1,7,8],[]),(14,[4],[])]
abbrev f80_8:AC:=.seq (.ops [0,1,7,8,9] [] [⟨none,.bin (some 9) .num .lss (.r 8) (.r 7)⟩]) (.seq (.cond (.r 9) .skip (.exit [] [] 0)) (.seq (.block 1 (.seq (.ops [0,1,5,7,8] [] [vv 10 8,vo 5 10]) (.seq (.ops [0,1,5,7,8,16] [] [vv 11 1,vv 12 0,vv 13 5,⟨none,.ixS (some 14) (.r 12) (.r 13) 1⟩,vl 15 14,⟨none,.call (some 16) false (.r 11) [(.r 15)]⟩]) (.cond (.r 16) (.seq (.ops [4] [] [vv 17 5,vo 4 17]) .ret) .skip)))) (.ops [0,1,7,8] [] [vb 18 .add 8 1,vv 8 18])))
def f80_7:AC:=.loop [0,1,7,8] [] f80_8
theorem f80_7w:aC P id m f80_7 sf st Q = bA (aC P id m f80_8) [0,1,7,8] [] sf st Q:=rfl
abbrev f80_1:AC:=.seq (.ops [0,1] [] [⟨none,.mv (some 4) (.c (.lit (.int .i64 0)))⟩]) (.seq (.seq (.ops [0,1,7,8] [] [vv 6 0,⟨none,.len (some 7) .sl (.r 6)⟩,⟨none,.mv (some 8) (.c (.lit (.int .i64 0)))⟩]) (.block 0 f80_7)) (.seq (.ops [4] [] [⟨none,.mv (some 4) (.c (.lit (.int .i64 (-1))))⟩]) .ret))
def c_f80:AFun:=⟨19,[.tmp 4],f80_1⟩
theorem k_f80:kX x_f80 80 c_f80:=by delta kX; kernel_rfl
theorem e_f80:eX 80:=by delta eX; kernel_rfl

def n_f85:Nat:=85
def x_f85:=xX 19 [0,1,4,5,6,7,8,10,11,13,15,17,18] [] [(2,[0,1],[]),(12,[0,1,7,8],[]),(26,[0,1,7,8],[]),(104,[0,1,7,8,9],[]),(421,[],[]),(1688,[0,1,5,7,8],[]),(3378,[0,1,5,7,8,16],[]),(13516,[4],[]),(423,[0,1,7,8],[]),(14,[4],[])]
abbrev f85_8:AC:=.seq (.ops [0,1,7,8,9] [] [⟨none,.bin (some 9) .num .lss (.r 8) (.r 7)⟩]) (.seq (.cond (.r 9) .skip (.exit [] [] 0)) (.seq (.block 1 (.seq (.ops [0,1,5,7,8] [] [vv 10 8,vo 5 10]) (.seq (.ops [0,1,5,7,8,16] [] [vv 11 1,vv 12 0,vv 13 5,⟨none,.ixS (some 14) (.r 12) (.r 13) 4⟩,⟨none,.load (some 15) (.r 14) (some 4)⟩,⟨none,.call (some 16) false (.r 11) [(.r 15)]⟩]) (.cond (.r 16) (.seq (.ops [4] [] [vv 17 5,vo 4 17]) .ret) .skip)))) (.ops [0,1,7,8] [] [vb 18 .add 8 1,vv 8 18])))
def f85_7:AC:=.loop [0,1,7,8] [] f85_8
theorem f85_7w:aC P id m f85_7 sf st Q = bA (aC P id m f85_8) [0,1,7,8] [] sf st Q:=rfl
abbrev f85_1:AC:=.seq (.ops [0,1] [] [⟨none,.mv (some 4) (.c (.lit (.int .i64 0)))⟩]) (.seq (.seq (.ops [0,1,7,8] [] [vv 6 0,⟨none,.len (some 7) .sl (.r 6)⟩,⟨none,.mv (some 8) (.c (.lit (.int .i64 0)))⟩]) (.block 0 f85_7)) (.seq (.ops [4] [] [⟨none,.mv (some 4) (.c (.lit (.int .i64 (-1))))⟩]) .ret))
def c_f85:AFun:=⟨19,[.tmp 4],f85_1⟩
theorem k_f85:kX x_f85 85 c_f85:=by delta kX; kernel_rfl
theorem e_f85:eX 85:=by delta eX; kernel_rfl

def tab (q:Nat):Option AFun :=
 if q = 6 then some c_f6 else
 if q = 7 then some c_f7 else
 if q = 8 then some c_f8 else
 if q = 9 then some c_f9 else
 if q = 11 then some c_f11 else
 if q = 13 then some c_f13 else
 if q = 15 then some c_f15 else
 if q = 16 then some c_f16 else
 if q = 17 then some c_f17 else
 if q = 18 then some c_f18 else
 if q = 19 then some c_f19 else
 if q = 20 then some c_f20 else
 if q = 24 then some c_f24 else
 if q = 26 then some c_f26 else
 if q = 37 then some c_f37 else
 if q = 38 then some c_f38 else
 if q = 39 then some c_f39 else
 if q = 41 then some c_f41 else
 if q = 42 then some c_f42 else
 if q = 43 then some c_f43 else
 if q = 44 then some c_f44 else
 if q = 45 then some c_f45 else
 if q = 46 then some c_f46 else
 if q = 47 then some c_f47 else
 if q = 48 then some c_f48 else
 if q = 49 then some c_f49 else
 if q = 56 then some c_f56 else
 if q = 57 then some c_f57 else
 if q = 58 then some c_f58 else
 if q = 59 then some c_f59 else
 if q = 60 then some c_f60 else
 if q = 61 then some c_f61 else
 if q = 62 then some c_f62 else
 if q = 63 then some c_f63 else
 if q = 64 then some c_f64 else
 if q = 68 then some c_f68 else
 if q = 69 then some c_f69 else
 if q = 70 then some c_f70 else
 if q = 71 then some c_f71 else
 if q = 73 then some c_f73 else
 if q = 74 then some c_f74 else
 if q = 76 then some c_f76 else
 if q = 78 then some c_f78 else
 if q = 79 then some c_f79 else
 if q = 80 then some c_f80 else
 if q = 85 then some c_f85 else
 none
theorem tabOk:lE Go.Proofs.Try.prog id tab :=
 ag e_f6 k_f6 rfl (
 ag e_f7 k_f7 rfl (
 ag e_f8 k_f8 rfl (
 ag e_f9 k_f9 rfl (
 ag e_f11 k_f11 rfl (
 ag e_f13 k_f13 rfl (
 ag e_f15 k_f15 rfl (
 ag e_f16 k_f16 rfl (
 ag e_f17 k_f17 rfl (
 ag e_f18 k_f18 rfl (
 ag e_f19 k_f19 rfl (
 ag e_f20 k_f20 rfl (
 ag e_f24 k_f24 rfl (
 ag e_f26 k_f26 rfl (
 ag e_f37 k_f37 rfl (
 ag e_f38 k_f38 rfl (
 ag e_f39 k_f39 rfl (
 ag e_f41 k_f41 rfl (
 ag e_f42 k_f42 rfl (
 ag e_f43 k_f43 rfl (
 ag e_f44 k_f44 rfl (
 ag e_f45 k_f45 rfl (
 ag e_f46 k_f46 rfl (
 ag e_f47 k_f47 rfl (
 ag e_f48 k_f48 rfl (
 ag e_f49 k_f49 rfl (
 ag e_f56 k_f56 rfl (
 ag e_f57 k_f57 rfl (
 ag e_f58 k_f58 rfl (
 ag e_f59 k_f59 rfl (
 ag e_f60 k_f60 rfl (
 ag e_f61 k_f61 rfl (
 ag e_f62 k_f62 rfl (
 ag e_f63 k_f63 rfl (
 ag e_f64 k_f64 rfl (
 ag e_f68 k_f68 rfl (
 ag e_f69 k_f69 rfl (
 ag e_f70 k_f70 rfl (
 ag e_f71 k_f71 rfl (
 ag e_f73 k_f73 rfl (
 ag e_f74 k_f74 rfl (
 ag e_f76 k_f76 rfl (
 ag e_f78 k_f78 rfl (
 ag e_f79 k_f79 rfl (
 ag e_f80 k_f80 rfl (
 ag e_f85 k_f85 rfl (
 tabOk_nil))))))))))))))))))))))))))))))))))))))))))))))
theorem hmix:Go.Proofs.Try.prog.follows .mixedOrders = true:=by kernel_rfl
end
end Go.Fx.YtgnockaonokmaaaFx

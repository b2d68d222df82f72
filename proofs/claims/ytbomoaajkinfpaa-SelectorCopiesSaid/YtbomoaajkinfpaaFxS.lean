/- The functions that the statement reaches, resolved: printed by a program of ours from the translated code; each is checked here. -/
import Derived.Test.YtbomoaajkinfpaaProg
import Derived.Test.YtbomoaajkinfpaaFxE
set_option maxRecDepth 100000
set_option maxHeartbeats 0
namespace Go.Fx.YtbomoaajkinfpaaFx
open Go Go.Fx
def xX (n:Nat) (h u:List Nat) (q:List (Nat×List Nat×List Nat)):Cx:=⟨some,id,n,fun s=>h.contains s,fun s=>u.contains s,msOf q⟩
abbrev kX (x:Cx) (n:Nat) (c:AFun):Prop:=jb Go.Proofs.Try.prog x n = some c
abbrev eX (n:Nat):Prop:=db Go.Proofs.Try.prog n = true
abbrev SQ (a b c:AC):Prop:=∀ {P:Program} {m:Bool} {sf:Sf} {st:St} {Q:Exit→Sf→St→Prop},aC P id m a sf st Q = aC P id m b sf st (seqQ (aC P id m c) Q)
abbrev SO (a:AC) (l:List GI) (x y:List Nat) (c:AC):Prop:=∀ {P:Program} {m:Bool} {sf:Sf} {st:St} {Q:Exit→Sf→St→Prop},aC P id m a sf st Q = runI P id m l (opsK x y (seqQ (aC P id m c) Q)) sf st
abbrev CN (a:AC) (r:Nat) (b c:AC):Prop:=∀ {P:Program} {m:Bool} {sf:Sf} {st:St} {Q:Exit→Sf→St→Prop},aC P id m a sf st Q = ij (.r r) (sf.ev id (.r r)) (aC P id m b) (aC P id m c) sf st Q
abbrev OP (a:AC) (l:List GI) (x y:List Nat):Prop:=∀ {P:Program} {m:Bool} {sf:Sf} {st:St} {Q:Exit→Sf→St→Prop},aC P id m a sf st Q = runI P id m l (opsK x y Q) sf st
abbrev BL (a b:AC) (k:Nat):Prop:=∀ {P:Program} {m:Bool} {sf:Sf} {st:St} {Q:Exit→Sf→St→Prop},aC P id m a sf st Q = aC P id m b sf st (gK k Q)
abbrev KF:Lean.Meta.Simp.Config:={ implicitDefEqProofs:=false,maxSteps:=10000000 }
section
variable {P:Program} {F:Nat→FuncId} {m:Bool} {sf:Sf} {st:St} {Q:Exit→Sf→St→Prop} {a b:AC} {x:Opd} {k:Nat} {l t:List GI} {u v w:List Nat} {d:Option Nat} {xs:List Opd} {q:List (Bool×GI)}
theorem aA1:aC P F m (.seq a b) sf st Q = aC P F m a sf st (seqQ (aC P F m b) Q):=rfl
theorem aA2:aC P F m (.cond x a b) sf st Q = ij x (sf.ev F x) (aC P F m a) (aC P F m b) sf st Q:=rfl
theorem aA3:aC P F m (.ops u v l) sf st Q = runI P F m l (opsK u v Q) sf st:=rfl
theorem aA4:aC P F m (.block k a) sf st Q = aC P F m a sf st (gK k Q):=rfl
theorem aA5:aC P F m (.scope a) sf st Q = aC P F m a sf st (scopeQ Q):=rfl
theorem aA6:aC P F m (.draw u v w l t) sf st Q = aB P F sf.locs st l (dG P F m w u v t Q st) [] ⟨sf.regs,dV w sf.locs⟩:=rfl
theorem aA7:aC P F m (.drawM u v l d x xs q t) sf st Q = (m = false∧drawM P F l d x xs q sf st (tailM P F m u v t Q)):=rfl
end
theorem bZ:type_of% (And.intro (And.intro (And.intro (And.intro (And.intro (And.intro (And.intro (@lk) (@seqQ_ret)) (And.intro (@opsK_eq) (And.intro (@runI_nil) (@oU)))) (And.intro (And.intro (@putP_eq) (And.intro (@mask_eq) (@pb))) (And.intro (@nf) (And.intro (@wp_ok) (@bind_ok))))) (And.intro (And.intro (And.intro (@mV) (@ev_r)) (And.intro (@ev_c) (And.intro (@o_mv) (@o_bin)))) (And.intro (And.intro (@lX) (And.intro (@lY) (@setB_r))) (And.intro (@nh) (And.intro (@aC_ret) (@aC_skip)))))) (And.intro (And.intro (And.intro (And.intro (@retQ_ret) (@jW)) (And.intro (@pT) (And.intro (@pU) (@List.map_cons.{0,0})))) (And.intro (And.intro (@List.map_nil.{0,0}) (And.intro (@Sf.set.eq_1) (@Sf.reg.eq_1))) (And.intro (@Nat.zero_add) (And.intro (@Bool.true_and) (@List.drop_zero.{0}))))) (And.intro (And.intro (And.intro (@List.length_cons.{0}) (@List.length_nil.{0})) (And.intro (@Bool.false_eq_true) (And.intro (@Bool.and_true) (@List.all_cons.{0})))) (And.intro (And.intro (@List.all_nil.{0}) (And.intro (@List.set_cons_zero.{0}) (@true_and))) (And.intro (@Sf.disAt.eq_1) (And.intro (@getR.eq_1) (@getR.eq_2))))))) (And.intro (And.intro (And.intro (And.intro (And.intro (@List.getElem?_cons_zero.{0}) (@List.drop_succ_cons.{0})) (And.intro (@setR.eq_1) (And.intro (@setR.eq_2) (@putS)))) (And.intro (And.intro (@List.getElem?_cons_succ.{0}) (And.intro (@List.set_cons_succ.{0}) (@List.take_succ_cons.{0}))) (And.intro (@ii.eq_1) (And.intro (@ii.eq_2) (@and_true))))) (And.intro (And.intro (And.intro (@decide_true) (@List.take_zero.{0})) (And.intro (@mZ) (And.intro (@Int.toNat_natCast) (@fD)))) (And.intro (And.intro (@look.eq_1) (And.intro (@look.eq_2) (@List.contains_nil.{0}))) (And.intro (@Nat.add_zero) (And.intro (@jd.eq_1) (@Sf.setLoc.eq_1)))))) (And.intro (And.intro (And.intro (And.intro (@o_own) (@ev_f)) (And.intro (@o_load) (And.intro (@Int.cast_ofNat_Int) (@fp.eq_1)))) (And.intro (And.intro (@fp.eq_2) (And.intro (@bind_req) (@solid_eq))) (And.intro (@eS) (And.intro (@Bool.not_false) (@IntWalk.i64_in))))) (And.intro (And.intro (And.intro (@o_call) (And.intro (@o_addr) (@oZ))) (And.intro (@List.length_map.{0,0}) (And.intro (@jS.eq_1) (@jS.eq_2)))) (And.intro (And.intro (@Sf.newLoc.eq_1) (And.intro (@req_tt) (@oV))) (And.intro (@boxX.eq_1) (And.intro (@evOwn_r) (@pe)))))))) (And.intro (And.intro (And.intro (And.intro (And.intro (And.intro (@nn) (@own2_lit)) (And.intro (@Bool.not_true) (And.intro (@disOp_r) (@Nat.mul_one)))) (And.intro (And.intro (@ni) (And.intro (@o_store) (@o_pick))) (And.intro (@resI.eq_1) (And.intro (@resI.eq_2) (@dis_sl))))) (And.intro (And.intro (And.intro (@and_self) (@resL.eq_1)) (And.intro (@resL.eq_2) (And.intro (@noL_tup) (@List.contains_cons.{0})))) (And.intro (And.intro (@kI) (And.intro (@na) (@o_len))) (And.intro (@ixA.eq_1) (And.intro (@ixA.eq_2) (@o_nilck)))))) (And.intro (And.intro (And.intro (And.intro (@n_lss) (@and_pre)) (And.intro (@pick_ff) (And.intro (@req_dec) (@val_head)))) (And.intro (And.intro (@extV.eq_1) (And.intro (@extV.eq_2) (@h_none))) (And.intro (@o_ext) (And.intro (@hh_mv) (@hh_load))))) (And.intro (And.intro (And.intro (@Bool.or_false) (And.intro (@cz.eq_1) (@cz.eq_2))) (And.intro (@dV.eq_1) (And.intro (@dV.eq_2) (@bstV.eq_1)))) (And.intro (And.intro (@iZ.eq_1) (And.intro (@iZ.eq_2) (@dis_tup))) (And.intro (@h_nil) (And.intro (@jc) (@o_bst))))))) (And.intro (And.intro (And.intro (And.intro (And.intro (@pick_tt) (@kill_agg)) (And.intro (@m9) (And.intro (@n_eql) (@tail_nil)))) (And.intro (And.intro (@iH) (And.intro (@hh_addr) (@List.append_nil.{0}))) (And.intro (@n_add) (And.intro (@up_addL) (@kill_lit))))) (And.intro (And.intro (And.intro (@mT) (@skipI_eq)) (And.intro (@Int.toNat_zero) (And.intro (@o_newL) (@dis_map)))) (And.intro (And.intro (@o_ixS) (And.intro (@o_un) (@Int.toNat_one))) (And.intro (@kill_ptr) (And.intro (@decide_false) (@pV)))))) (And.intro (And.intro (And.intro (And.intro (@List.isEmpty_cons.{0}) (@m8)) (And.intro (@bslV.eq_1) (And.intro (@gb.eq_1) (@gb.eq_2)))) (And.intro (And.intro (@lm) (And.intro (@o9) (@o8))) (And.intro (@dis_bs) (And.intro (@oT) (@aC_exit))))) (And.intro (And.intro (And.intro (@n_neq) (And.intro (@o_x) (@o_bsl))) (And.intro (@Option.map_some.{0,0}) (And.intro (@Option.map_none.{0,0}) (@aA1)))) (And.intro (And.intro (@aA2) (And.intro (@aA3) (@aA4))) (And.intro (@aA5) (And.intro (@aA6) (@aA7))))))))):=And.intro (And.intro (And.intro (And.intro (And.intro (And.intro (And.intro (@lk) (@seqQ_ret)) (And.intro (@opsK_eq) (And.intro (@runI_nil) (@oU)))) (And.intro (And.intro (@putP_eq) (And.intro (@mask_eq) (@pb))) (And.intro (@nf) (And.intro (@wp_ok) (@bind_ok))))) (And.intro (And.intro (And.intro (@mV) (@ev_r)) (And.intro (@ev_c) (And.intro (@o_mv) (@o_bin)))) (And.intro (And.intro (@lX) (And.intro (@lY) (@setB_r))) (And.intro (@nh) (And.intro (@aC_ret) (@aC_skip)))))) (And.intro (And.intro (And.intro (And.intro (@retQ_ret) (@jW)) (And.intro (@pT) (And.intro (@pU) (@List.map_cons.{0,0})))) (And.intro (And.intro (@List.map_nil.{0,0}) (And.intro (@Sf.set.eq_1) (@Sf.reg.eq_1))) (And.intro (@Nat.zero_add) (And.intro (@Bool.true_and) (@List.drop_zero.{0}))))) (And.intro (And.intro (And.intro (@List.length_cons.{0}) (@List.length_nil.{0})) (And.intro (@Bool.false_eq_true) (And.intro (@Bool.and_true) (@List.all_cons.{0})))) (And.intro (And.intro (@List.all_nil.{0}) (And.intro (@List.set_cons_zero.{0}) (@true_and))) (And.intro (@Sf.disAt.eq_1) (And.intro (@getR.eq_1) (@getR.eq_2))))))) (And.intro (And.intro (And.intro (And.intro (And.intro (@List.getElem?_cons_zero.{0}) (@List.drop_succ_cons.{0})) (And.intro (@setR.eq_1) (And.intro (@setR.eq_2) (@putS)))) (And.intro (And.intro (@List.getElem?_cons_succ.{0}) (And.intro (@List.set_cons_succ.{0}) (@List.take_succ_cons.{0}))) (And.intro (@ii.eq_1) (And.intro (@ii.eq_2) (@and_true))))) (And.intro (And.intro (And.intro (@decide_true) (@List.take_zero.{0})) (And.intro (@mZ) (And.intro (@Int.toNat_natCast) (@fD)))) (And.intro (And.intro (@look.eq_1) (And.intro (@look.eq_2) (@List.contains_nil.{0}))) (And.intro (@Nat.add_zero) (And.intro (@jd.eq_1) (@Sf.setLoc.eq_1)))))) (And.intro (And.intro (And.intro (And.intro (@o_own) (@ev_f)) (And.intro (@o_load) (And.intro (@Int.cast_ofNat_Int) (@fp.eq_1)))) (And.intro (And.intro (@fp.eq_2) (And.intro (@bind_req) (@solid_eq))) (And.intro (@eS) (And.intro (@Bool.not_false) (@IntWalk.i64_in))))) (And.intro (And.intro (And.intro (@o_call) (And.intro (@o_addr) (@oZ))) (And.intro (@List.length_map.{0,0}) (And.intro (@jS.eq_1) (@jS.eq_2)))) (And.intro (And.intro (@Sf.newLoc.eq_1) (And.intro (@req_tt) (@oV))) (And.intro (@boxX.eq_1) (And.intro (@evOwn_r) (@pe)))))))) (And.intro (And.intro (And.intro (And.intro (And.intro (And.intro (@nn) (@own2_lit)) (And.intro (@Bool.not_true) (And.intro (@disOp_r) (@Nat.mul_one)))) (And.intro (And.intro (@ni) (And.intro (@o_store) (@o_pick))) (And.intro (@resI.eq_1) (And.intro (@resI.eq_2) (@dis_sl))))) (And.intro (And.intro (And.intro (@and_self) (@resL.eq_1)) (And.intro (@resL.eq_2) (And.intro (@noL_tup) (@List.contains_cons.{0})))) (And.intro (And.intro (@kI) (And.intro (@na) (@o_len))) (And.intro (@ixA.eq_1) (And.intro (@ixA.eq_2) (@o_nilck)))))) (And.intro (And.intro (And.intro (And.intro (@n_lss) (@and_pre)) (And.intro (@pick_ff) (And.intro (@req_dec) (@val_head)))) (And.intro (And.intro (@extV.eq_1) (And.intro (@extV.eq_2) (@h_none))) (And.intro (@o_ext) (And.intro (@hh_mv) (@hh_load))))) (And.intro (And.intro (And.intro (@Bool.or_false) (And.intro (@cz.eq_1) (@cz.eq_2))) (And.intro (@dV.eq_1) (And.intro (@dV.eq_2) (@bstV.eq_1)))) (And.intro (And.intro (@iZ.eq_1) (And.intro (@iZ.eq_2) (@dis_tup))) (And.intro (@h_nil) (And.intro (@jc) (@o_bst))))))) (And.intro (And.intro (And.intro (And.intro (And.intro (@pick_tt) (@kill_agg)) (And.intro (@m9) (And.intro (@n_eql) (@tail_nil)))) (And.intro (And.intro (@iH) (And.intro (@hh_addr) (@List.append_nil.{0}))) (And.intro (@n_add) (And.intro (@up_addL) (@kill_lit))))) (And.intro (And.intro (And.intro (@mT) (@skipI_eq)) (And.intro (@Int.toNat_zero) (And.intro (@o_newL) (@dis_map)))) (And.intro (And.intro (@o_ixS) (And.intro (@o_un) (@Int.toNat_one))) (And.intro (@kill_ptr) (And.intro (@decide_false) (@pV)))))) (And.intro (And.intro (And.intro (And.intro (@List.isEmpty_cons.{0}) (@m8)) (And.intro (@bslV.eq_1) (And.intro (@gb.eq_1) (@gb.eq_2)))) (And.intro (And.intro (@lm) (And.intro (@o9) (@o8))) (And.intro (@dis_bs) (And.intro (@oT) (@aC_exit))))) (And.intro (And.intro (And.intro (@n_neq) (And.intro (@o_x) (@o_bsl))) (And.intro (@Option.map_some.{0,0}) (And.intro (@Option.map_none.{0,0}) (@aA1)))) (And.intro (And.intro (@aA2) (And.intro (@aA3) (@aA4))) (And.intro (@aA5) (And.intro (@aA6) (@aA7))))))))
abbrev vv (d x:Nat):GI:=⟨none,.mv (some d) (.r x)⟩
abbrev vo (d x:Nat):GI:=⟨none,.own d x⟩
abbrev ve (d x k:Nat):GI:=⟨none,.ext (some d) (.r x) k⟩
abbrev vn (d x:Nat):GI:=⟨none,.nilck (some d) (.r x)⟩
abbrev vd (d x k:Nat):GI:=⟨none,.addr (some d) (.r x) k⟩
abbrev vl (d x:Nat):GI:=⟨none,.load (some d) (.r x) none⟩
abbrev vb (d:Nat) (o:BinOp) (x:Nat) (n:Int):GI:=⟨none,.bin (some d) .num o (.r x) (.c (.lit (.int .i64 n)))⟩
section
variable (P:Program) (m:Bool) (sf:Sf) (st:St) (Q:Exit→Sf→St→Prop)
def n_f7:Nat:=7
def x_f7:=xX 128 [0,1,2,3,8,9,10,12,13,14,17,18,19,20,21,22,23,24,25,26,27,28,29,30,31,32,33,34,35,36,37,38,39,40,41,42,43,44,45,46,47,48,49,51,52,53,54,55,56,57,58,59,60,61,62,64,65,66,67,68,69,70,71,72,73,74,76,77,78,79,80,81,82,83,84,85,86,87,88,89,90,91,92,93,94,95,97,98,99,100,101,102,103,104,105,106,107,108,109,110,111,112,113,114,115,116,117,118,119,120,121,122,123,124,125,126,127] [] [(2,[0,1,2,3],[]),(12,[0,1,2,3,50],[]),(52,[8],[]),(14,[0,1,2,3,9,10],[]),(30,[1,2,3,9,10,11,12],[11]),(124,[1,2,3,9,10,11,12,63],[11]),(500,[8],[]),(252,[1,2,3,9,11,75],[11]),(1012,[8],[]),(254,[2,3,9,11,13],[11]),(510,[2,3,9,11,13,14],[11]),(2044,[2,3,9,11,14,96],[11]),(8180,[8],[]),(2046,[3,9,11,13,14,15],[11,15]),(4094,[9,13,14,15,16,17],[15,16]),(8190,[8],[])]
abbrev f7_5:AC:=.ops [0,1,2,3,50] [] [vv 18 0,⟨none,.len (some 19) .sl (.r 18)⟩,vb 20 .gtr 19 20,vv 21 20,⟨some (21,false),.mv (some 22) (.r 1)⟩,⟨some (21,false),.len (some 23) .sl (.r 22)⟩,⟨some (21,false),.bin (some 24) .num .gtr (.r 23) (.c (.lit (.int .i64 20)))⟩,⟨none,.pick (some 25) (.r 21) (.c (.lit (.bool true))) (.r 24)⟩,vv 26 25,⟨some (26,false),.mv (some 27) (.r 2)⟩,⟨some (26,false),.len (some 28) .sl (.r 27)⟩,⟨some (26,false),.bin (some 29) .num .gtr (.r 28) (.c (.lit (.int .i64 20)))⟩,⟨none,.pick (some 30) (.r 26) (.c (.lit (.bool true))) (.r 29)⟩,vv 31 30,⟨some (31,false),.mv (some 32) (.r 3)⟩,⟨some (31,false),.len (some 33) .sl (.r 32)⟩,⟨some (31,false),.bin (some 34) .num .gtr (.r 33) (.c (.lit (.int .i64 20)))⟩,⟨none,.pick (some 35) (.r 31) (.c (.lit (.bool true))) (.r 34)⟩,vv 36 35,⟨some (36,false),.mv (some 37) (.r 1)⟩,⟨some (36,false),.call (some 38) false (.f 9) [(.r 37)]⟩,⟨some (36,false),.un (some 39) .not (.r 38)⟩,⟨none,.pick (some 40) (.r 36) (.c (.lit (.bool true))) (.r 39)⟩,vv 41 40,⟨some (41,false),.mv (some 42) (.r 2)⟩,⟨some (41,false),.call (some 43) false (.f 9) [(.r 42)]⟩,⟨some (41,false),.un (some 44) .not (.r 43)⟩,⟨none,.pick (some 45) (.r 41) (.c (.lit (.bool true))) (.r 44)⟩,vv 46 45,⟨some (46,false),.mv (some 47) (.r 3)⟩,⟨some (46,false),.call (some 48) false (.f 9) [(.r 47)]⟩,⟨some (46,false),.un (some 49) .not (.r 48)⟩,⟨none,.pick (some 50) (.r 46) (.c (.lit (.bool true))) (.r 49)⟩]
abbrev f7_12:AC:=.ops [1,2,3,9,10,11,12] [11] [vv 58 0,⟨none,.call (some 59) false (.f 23) [(.r 58)]⟩,vv 57 59,ve 60 57 0,ve 61 57 1,⟨none,.newL 11 [(.lit (.slice none 0 0)),(.lit (.slice none 0 0))]⟩,⟨none,.store 2 (.r 11) (.r 60)⟩,vo 12 61]
abbrev f7_18:AC:=.ops [8] [] [vv 64 10,vv 65 12,⟨none,.bin (some 66) .num .eql (.r 64) (.r 65)⟩,vv 67 66,⟨some (67,true),.call (some 68) false (.f 10) []⟩,⟨none,.pick (some 69) (.r 67) (.r 68) (.c (.lit (.bool false)))⟩,vo 8 69]
abbrev f7_21:AC:=.ops [1,2,3,9,11,75] [11] [vv 70 10,vb 71 .neq 70 0,vv 72 71,⟨some (72,false),.mv (some 73) (.r 9)⟩,⟨some (72,false),.bin (some 74) (.nil .ptr) .eql (.r 73) (.c (.lit (.pointer none)))⟩,⟨none,.pick (some 75) (.r 72) (.c (.lit (.bool true))) (.r 74)⟩]
abbrev f7_26:AC:=.ops [2,3,9,11,13] [11] [vv 77 9,⟨none,.load (some 78) (.r 11) (some 2)⟩,vv 79 1,⟨none,.call (some 80) false (.f 25) [(.r 77),(.r 78),(.r 79)]⟩,vv 76 80,ve 81 76 0,ve 82 76 1,⟨none,.store 2 (.r 11) (.r 81)⟩,vo 13 82]
abbrev f7_31:AC:=.ops [2,3,9,11,14,96] [11] [vv 85 13,⟨none,.un (some 86) .not (.r 85)⟩,vv 87 86,⟨some (87,false),.mv (some 88) (.r 14)⟩,⟨some (87,false),.bin (some 89) (.nil .ptr) .eql (.r 88) (.c (.lit (.pointer none)))⟩,⟨none,.pick (some 90) (.r 87) (.c (.lit (.bool true))) (.r 89)⟩,vv 91 90,⟨some (91,false),.mv (some 92) (.r 14)⟩,⟨some (91,false),.load (some 93) (.r 11) (some 2)⟩,⟨some (91,false),.call (some 94) false (.f 24) [(.r 92),(.r 93)]⟩,⟨some (91,false),.un (some 95) .not (.r 94)⟩,⟨none,.pick (some 96) (.r 91) (.c (.lit (.bool true))) (.r 95)⟩]
abbrev f7_36:AC:=.ops [3,9,11,13,14,15] [11,15] [vv 98 9,⟨none,.load (some 99) (.r 11) (some 2)⟩,vv 100 2,⟨none,.call (some 101) false (.f 25) [(.r 98),(.r 99),(.r 100)]⟩,vv 97 101,ve 102 97 0,ve 103 97 1,⟨none,.newL 15 [(.lit (.slice none 0 0)),(.lit (.slice none 0 0))]⟩,⟨none,.store 2 (.r 15) (.r 102)⟩,vo 13 103]
abbrev f7_38:AC:=.ops [9,13,14,15,16,17] [15,16] [vv 105 14,⟨none,.load (some 106) (.r 11) (some 2)⟩,vv 107 3,⟨none,.call (some 108) false (.f 25) [(.r 105),(.r 106),(.r 107)]⟩,vv 104 108,ve 109 104 0,ve 110 104 1,⟨none,.newL 16 [(.lit (.slice none 0 0)),(.lit (.slice none 0 0))]⟩,⟨none,.store 2 (.r 16) (.r 109)⟩,vo 17 110]
abbrev f7_40:AC:=.ops [8] [] [vv 111 13,vv 112 111,⟨some (112,true),.mv (some 113) (.r 17)⟩,⟨none,.pick (some 114) (.r 112) (.r 113) (.c (.lit (.bool false)))⟩,vv 115 114,⟨some (115,true),.mv (some 116) (.r 9)⟩,⟨some (115,true),.load (some 117) (.r 15) (some 2)⟩,⟨some (115,true),.call (some 118) false (.f 24) [(.r 116),(.r 117)]⟩,⟨none,.pick (some 119) (.r 115) (.r 118) (.c (.lit (.bool false)))⟩,vv 120 119,⟨some (120,true),.mv (some 121) (.r 14)⟩,⟨some (120,true),.load (some 122) (.r 16) (some 2)⟩,⟨some (120,true),.call (some 123) false (.f 24) [(.r 121),(.r 122)]⟩,⟨none,.pick (some 124) (.r 120) (.r 123) (.c (.lit (.bool false)))⟩,vv 125 124,⟨some (125,true),.call (some 126) false (.f 10) []⟩,⟨none,.pick (some 127) (.r 125) (.r 126) (.c (.lit (.bool false)))⟩,vo 8 127]
abbrev f7_29:AC:=.seq (.seq f7_31 (.cond (.r 96) (.seq (.ops [8] [] [⟨none,.mv (some 8) (.c (.lit (.bool false)))⟩]) .ret) .skip)) (.seq f7_36 (.seq f7_38 (.seq f7_40 .ret)))
abbrev f7_19:AC:=.seq (.seq f7_21 (.cond (.r 75) (.seq (.ops [8] [] [⟨none,.mv (some 8) (.c (.lit (.bool false)))⟩]) .ret) .skip)) (.seq f7_26 (.seq (.ops [2,3,9,11,13,14] [11] [vv 83 9,⟨none,.call (some 84) false (.f 29) [(.r 83)]⟩,vo 14 84]) f7_29))
abbrev f7_9:AC:=.seq (.ops [0,1,2,3,9,10] [] [vv 53 0,⟨none,.call (some 54) false (.f 11) [(.r 53)]⟩,vv 52 54,ve 55 52 0,ve 56 52 1,vo 9 55,vo 10 56]) (.seq f7_12 (.seq (.seq (.ops [1,2,3,9,10,11,12,63] [11] [vv 62 12,vb 63 .neq 62 0]) (.cond (.r 63) (.seq f7_18 .ret) .skip)) f7_19))
abbrev f7_1:AC:=.seq (.ops [0,1,2,3] [] [⟨none,.mv (some 8) (.c (.lit (.bool false)))⟩]) (.seq (.seq f7_5 (.cond (.r 50) (.seq (.ops [8] [] [⟨none,.call (some 51) false (.f 10) []⟩,vo 8 51]) .ret) .skip)) f7_9)
def c_f7:AFun:=⟨128,[.tmp 8],f7_1⟩
theorem k_f7:kX x_f7 7 c_f7:=by delta kX; kernel_rfl
theorem e_f7:eX 7:=by delta eX; kernel_rfl

def n_f9:Nat:=9
def x_f9:=xX 17 [0,2,3,4,5,6,8,9,11,14,15] [] [(2,[0],[]),(12,[0,3],[]),(26,[0,3],[]),(208,[0,3,7],[]),(419,[],[]),(840,[0,3,16],[]),(3364,[2],[]),(211,[0,3],[]),(14,[2],[])]
abbrev f9_9:AC:=.seq (.ops [0,3,7] [] [vv 4 3,vv 5 0,⟨none,.len (some 6) .sl (.r 5)⟩,⟨none,.bin (some 7) .num .lss (.r 4) (.r 6)⟩]) (.cond (.r 7) .skip (.exit [] [] 0))
abbrev f9_15:AC:=.ops [0,3,16] [] [vv 10 0,vv 11 3,⟨none,.ixS (some 12) (.r 10) (.r 11) 5⟩,vd 13 12 3,vl 14 13,⟨none,.len (some 15) .sl (.r 14)⟩,vb 16 .gtr 15 20]
abbrev f9_12:AC:=.seq (.block 1 (.seq f9_15 (.cond (.r 16) (.seq (.ops [2] [] [⟨none,.mv (some 2) (.c (.lit (.bool false)))⟩]) .ret) .skip))) (.ops [0,3] [] [vv 8 3,vb 9 .add 8 1,vo 3 9])
abbrev f9_8:AC:=.seq f9_9 f9_12
def f9_7:AC:=.loop [0,3] [] f9_8
theorem f9_7w:aC P id m f9_7 sf st Q = aE (aC P id m f9_8) [0,3] [] sf st Q:=rfl
abbrev f9_3:AC:=.seq (.seq (.ops [0,3] [] [⟨none,.mv (some 3) (.c (.lit (.int .i64 0)))⟩]) (.block 0 f9_7)) (.seq (.ops [2] [] [⟨none,.mv (some 2) (.c (.lit (.bool true)))⟩]) .ret)
abbrev f9_1:AC:=.seq (.ops [0] [] [⟨none,.mv (some 2) (.c (.lit (.bool false)))⟩]) f9_3
def c_f9:AFun:=⟨17,[.tmp 2],f9_1⟩
theorem k_f9:kX x_f9 9 c_f9:=by delta kX; kernel_rfl
theorem e_f9:eX 9:=by delta eX; kernel_rfl

def n_f10:Nat:=10
def x_f10:=xX 99 [0,1,2,3,4,5,6,7,8,9,10,11,12,13,14,15,16,17,18,19,20,21,22,23,24,25,26,27,28,29,30,31,33,34,35,36,37,38,39,40,41,42,43,44,45,46,47,48,49,51,52,53,54,55,56,57,58,59,60,61,62,63,64,65,66,67,68,69,71,72,73,74,75,76,77,78,79,80,81,82,83,84,85,86,88,89,90,91,92,93,94,95,96,97,98] [] [(2,[],[]),(6,[1,2],[]),(28,[1,32],[]),(116,[0],[]),(30,[1,3],[]),(124,[1,50],[]),(500,[0],[]),(252,[1,70],[]),(1012,[0],[]),(508,[1,87],[]),(2036,[0],[]),(510,[0],[])]
abbrev f10_4:AC:=.ops [1,2] [] [⟨none,.bsl (some 5) 1 2 (.lit (.int .i64 0)) [(0,(.c (.lit (.int .i64 0)))),(1,(.c (.lit (.int .i64 1))))]⟩,⟨none,.call (some 6) false (.f 11) [(.r 5)]⟩,vv 4 6,ve 7 4 0,ve 8 4 1,vo 1 7,vo 2 8]
abbrev f10_7:AC:=.ops [1,32] [] [vv 9 2,vb 10 .neq 9 0,vv 11 10,⟨some (11,false),.mv (some 12) (.r 1)⟩,⟨some (11,false),.bin (some 13) (.nil .ptr) .eql (.r 12) (.c (.lit (.pointer none)))⟩,⟨none,.pick (some 14) (.r 11) (.c (.lit (.bool true))) (.r 13)⟩,vv 15 14,⟨some (15,false),.mv (some 16) (.r 1)⟩,⟨some (15,false),.call (some 17) false (.f 33) [(.c (.lit (.int .i64 0)))]⟩,⟨some (15,false),.call (some 18) false (.f 34) [(.c (.lit (.int .i64 1))),(.c (.lit (.int .i64 7)))]⟩,⟨some (15,false),.bsl (some 19) 3 2 (.agg [(.lit (.int .i64 0)),(.lit (.bool false)),(.lit (.int .i64 0))]) [(0,(.r 17)),(1,(.r 18))]⟩,⟨some (15,false),.bsl (some 20) 1 1 (.lit (.int .i64 0)) [(0,(.c (.lit (.int .i64 1))))]⟩,⟨some (15,false),.call (some 21) false (.f 32) [(.r 16),(.r 19),(.r 20)]⟩,⟨some (15,false),.un (some 22) .not (.r 21)⟩,⟨none,.pick (some 23) (.r 15) (.c (.lit (.bool true))) (.r 22)⟩,vv 24 23,⟨some (24,false),.mv (some 25) (.r 1)⟩,⟨some (24,false),.bst (some 26) [(0,4),(4,1),(5,1),(6,1)] (.agg [(.lit (.int .i64 0)),(.lit (.int .i64 0)),(.lit (.int .i64 0)),(.lit (.int .i64 0)),(.lit (.bool false)),(.lit (.slice none 0 0)),(.lit (.int .i64 0))]) []⟩,⟨some (24,false),.call (some 27) false (.f 33) [(.c (.lit (.int .i64 0)))]⟩,⟨some (24,false),.call (some 28) false (.f 33) [(.c (.lit (.int .i64 1)))]⟩,⟨some (24,false),.bsl (some 29) 3 2 (.agg [(.lit (.int .i64 0)),(.lit (.bool false)),(.lit (.int .i64 0))]) [(0,(.r 27)),(1,(.r 28))]⟩,⟨some (24,false),.call (some 30) false (.f 35) [(.r 25),(.c (.lit (.int .i64 0))),(.c (.lit (.int .i64 0))),(.c (.lit (.bool true))),(.r 26),(.r 29)]⟩,⟨some (24,false),.un (some 31) .not (.r 30)⟩,⟨none,.pick (some 32) (.r 24) (.c (.lit (.bool true))) (.r 31)⟩]
abbrev f10_12:AC:=.ops [1,3] [] [⟨none,.call (some 33) false (.f 34) [(.c (.lit (.int .i64 0))),(.c (.lit (.int .i64 5)))]⟩,⟨none,.call (some 34) false (.f 34) [(.c (.lit (.int .i64 1))),(.c (.lit (.int .i64 6)))]⟩,⟨none,.bsl (some 35) 3 2 (.agg [(.lit (.int .i64 0)),(.lit (.bool false)),(.lit (.int .i64 0))]) [(0,(.r 33)),(1,(.r 34))]⟩,vo 3 35]
abbrev f10_15:AC:=.ops [1,50] [] [vv 36 1,vv 37 3,⟨none,.bsl (some 38) 1 2 (.lit (.int .i64 0)) [(0,(.c (.lit (.int .i64 0)))),(1,(.c (.lit (.int .i64 1))))]⟩,⟨none,.call (some 39) false (.f 32) [(.r 36),(.r 37),(.r 38)]⟩,⟨none,.un (some 40) .not (.r 39)⟩,vv 41 40,⟨some (41,false),.mv (some 42) (.r 1)⟩,⟨some (41,false),.bst (some 43) [(0,1),(1,1),(2,1),(3,1)] (.agg [(.lit (.int .i64 0)),(.lit (.int .i64 0)),(.lit (.int .i64 0)),(.lit (.int .i64 0))]) [(0,(.c (.lit (.int .i64 1)))),(1,(.c (.lit (.int .i64 1))))]⟩,⟨some (41,false),.bst (some 44) [(0,1),(1,1),(2,1),(3,1)] (.agg [(.lit (.int .i64 0)),(.lit (.int .i64 0)),(.lit (.int .i64 0)),(.lit (.int .i64 0))]) [(0,(.c (.lit (.int .i64 0)))),(1,(.c (.lit (.int .i64 1)))),(2,(.c (.lit (.int .i64 6))))]⟩,⟨some (41,false),.bsl (some 45) 4 1 (.agg [(.lit (.int .i64 0)),(.lit (.int .i64 0)),(.lit (.int .i64 0)),(.lit (.int .i64 0))]) [(0,(.r 44))]⟩,⟨some (41,false),.bst (some 46) [(0,4),(4,1),(5,1),(6,1)] (.agg [(.lit (.int .i64 0)),(.lit (.int .i64 0)),(.lit (.int .i64 0)),(.lit (.int .i64 0)),(.lit (.bool false)),(.lit (.slice none 0 0)),(.lit (.int .i64 0))]) [(0,(.r 43)),(1,(.c (.lit (.bool true)))),(2,(.r 45))]⟩,⟨some (41,false),.mv (some 47) (.r 3)⟩,⟨some (41,false),.call (some 48) false (.f 35) [(.r 42),(.c (.lit (.int .i64 1))),(.c (.lit (.int .i64 3))),(.c (.lit (.bool true))),(.r 46),(.r 47)]⟩,⟨some (41,false),.un (some 49) .not (.r 48)⟩,⟨none,.pick (some 50) (.r 41) (.c (.lit (.bool true))) (.r 49)⟩]
abbrev f10_21:AC:=.ops [1,70] [] [vv 51 1,⟨none,.call (some 52) false (.f 26) [(.r 51)]⟩,⟨none,.len (some 53) .sl (.r 52)⟩,vb 54 .neq 53 0,vv 55 54,⟨some (55,false),.mv (some 56) (.r 1)⟩,⟨some (55,false),.bst (some 57) [(0,4),(4,1),(5,1),(6,1)] (.agg [(.lit (.int .i64 0)),(.lit (.int .i64 0)),(.lit (.int .i64 0)),(.lit (.int .i64 0)),(.lit (.bool false)),(.lit (.slice none 0 0)),(.lit (.int .i64 0))]) [(3,(.c (.lit (.int .i64 16))))]⟩,⟨some (55,false),.call (some 58) false (.f 34) [(.c (.lit (.int .i64 0))),(.c (.lit (.int .i64 5)))]⟩,⟨some (55,false),.bsl (some 59) 3 1 (.agg [(.lit (.int .i64 0)),(.lit (.bool false)),(.lit (.int .i64 0))]) [(0,(.r 58))]⟩,⟨some (55,false),.call (some 60) false (.f 35) [(.r 56),(.c (.lit (.int .i64 1))),(.c (.lit (.int .i64 0))),(.c (.lit (.bool false))),(.r 57),(.r 59)]⟩,⟨some (55,false),.un (some 61) .not (.r 60)⟩,⟨none,.pick (some 62) (.r 55) (.c (.lit (.bool true))) (.r 61)⟩,vv 63 62,⟨some (63,false),.mv (some 64) (.r 1)⟩,⟨some (63,false),.bst (some 65) [(0,4),(4,1),(5,1),(6,1)] (.agg [(.lit (.int .i64 0)),(.lit (.int .i64 0)),(.lit (.int .i64 0)),(.lit (.int .i64 0)),(.lit (.bool false)),(.lit (.slice none 0 0)),(.lit (.int .i64 0))]) []⟩,⟨some (63,false),.call (some 66) false (.f 34) [(.c (.lit (.int .i64 0))),(.c (.lit (.int .i64 8)))]⟩,⟨some (63,false),.bsl (some 67) 3 1 (.agg [(.lit (.int .i64 0)),(.lit (.bool false)),(.lit (.int .i64 0))]) [(0,(.r 66))]⟩,⟨some (63,false),.call (some 68) false (.f 35) [(.r 64),(.c (.lit (.int .i64 2))),(.c (.lit (.int .i64 0))),(.c (.lit (.bool true))),(.r 65),(.r 67)]⟩,⟨some (63,false),.un (some 69) .not (.r 68)⟩,⟨none,.pick (some 70) (.r 63) (.c (.lit (.bool true))) (.r 69)⟩]
abbrev f10_27:AC:=.ops [1,87] [] [vv 71 1,⟨none,.bst (some 72) [(0,1),(1,1),(2,1),(3,1),(4,1)] (.agg [(.lit (.int .i64 0)),(.lit (.int .i64 0)),(.lit (.int .i64 0)),(.lit (.slice none 0 0)),(.lit (.bool false))]) [(0,(.c (.lit (.int .i64 2)))),(2,(.c (.lit (.int .i64 0))))]⟩,⟨none,.call (some 73) false (.f 13) [(.r 71),(.r 72)]⟩,⟨none,.bst (some 74) [(0,1),(1,1),(2,1),(3,1)] (.agg [(.lit (.int .i64 0)),(.lit (.int .i64 0)),(.lit (.int .i64 0)),(.lit (.int .i64 0))]) [(0,(.c (.lit (.int .i64 2)))),(1,(.c (.lit (.int .i64 0)))),(3,(.c (.lit (.int .i64 14))))]⟩,⟨none,.bsl (some 75) 4 1 (.agg [(.lit (.int .i64 0)),(.lit (.int .i64 0)),(.lit (.int .i64 0)),(.lit (.int .i64 0))]) [(0,(.r 74))]⟩,⟨none,.bst (some 76) [(0,4),(4,1),(5,1),(6,1)] (.agg [(.lit (.int .i64 0)),(.lit (.int .i64 0)),(.lit (.int .i64 0)),(.lit (.int .i64 0)),(.lit (.bool false)),(.lit (.slice none 0 0)),(.lit (.int .i64 0))]) [(2,(.r 75))]⟩,⟨none,.call (some 77) false (.f 18) [(.r 73),(.r 76)]⟩,⟨none,.un (some 78) .not (.r 77)⟩,vv 79 78,⟨some (79,false),.mv (some 80) (.r 1)⟩,⟨some (79,false),.bst (some 81) [(0,1),(1,1),(2,1),(3,1)] (.agg [(.lit (.int .i64 0)),(.lit (.int .i64 0)),(.lit (.int .i64 0)),(.lit (.int .i64 0))]) [(0,(.c (.lit (.int .i64 3)))),(3,(.c (.lit (.int .i64 13))))]⟩,⟨some (79,false),.bst (some 82) [(0,4),(4,1),(5,1),(6,1)] (.agg [(.lit (.int .i64 0)),(.lit (.int .i64 0)),(.lit (.int .i64 0)),(.lit (.int .i64 0)),(.lit (.bool false)),(.lit (.slice none 0 0)),(.lit (.int .i64 0))]) [(0,(.r 81)),(1,(.c (.lit (.bool true))))]⟩,⟨some (79,false),.call (some 83) false (.f 33) [(.c (.lit (.int .i64 0)))]⟩,⟨some (79,false),.bsl (some 84) 3 1 (.agg [(.lit (.int .i64 0)),(.lit (.bool false)),(.lit (.int .i64 0))]) [(0,(.r 83))]⟩,⟨some (79,false),.call (some 85) false (.f 35) [(.r 80),(.c (.lit (.int .i64 3))),(.c (.lit (.int .i64 0))),(.c (.lit (.bool true))),(.r 82),(.r 84)]⟩,⟨some (79,false),.un (some 86) .not (.r 85)⟩,⟨none,.pick (some 87) (.r 79) (.c (.lit (.bool true))) (.r 86)⟩]
abbrev f10_32:AC:=.ops [0] [] [vv 88 1,⟨none,.bst (some 89) [(0,4),(4,1),(5,1),(6,1)] (.agg [(.lit (.int .i64 0)),(.lit (.int .i64 0)),(.lit (.int .i64 0)),(.lit (.int .i64 0)),(.lit (.bool false)),(.lit (.slice none 0 0)),(.lit (.int .i64 0))]) [(3,(.c (.lit (.int .i64 2))))]⟩,⟨none,.call (some 90) false (.f 33) [(.c (.lit (.int .i64 1)))]⟩,⟨none,.call (some 91) false (.f 34) [(.c (.lit (.int .i64 1))),(.c (.lit (.int .i64 1)))]⟩,⟨none,.bsl (some 92) 3 2 (.agg [(.lit (.int .i64 0)),(.lit (.bool false)),(.lit (.int .i64 0))]) [(0,(.r 90)),(1,(.r 91))]⟩,⟨none,.call (some 93) false (.f 35) [(.r 88),(.c (.lit (.int .i64 3))),(.c (.lit (.int .i64 0))),(.c (.lit (.bool true))),(.r 89),(.r 92)]⟩,vv 94 93,⟨some (94,true),.mv (some 95) (.r 1)⟩,⟨some (94,true),.bst (some 96) [(0,4),(4,1),(5,1),(6,1)] (.agg [(.lit (.int .i64 0)),(.lit (.int .i64 0)),(.lit (.int .i64 0)),(.lit (.int .i64 0)),(.lit (.bool false)),(.lit (.slice none 0 0)),(.lit (.int .i64 0))]) [(3,(.c (.lit (.int .i64 2))))]⟩,⟨some (94,true),.call (some 97) false (.f 35) [(.r 95),(.c (.lit (.int .i64 3))),(.c (.lit (.int .i64 0))),(.c (.lit (.bool true))),(.r 96),(.c (.lit (.slice none 0 0)))]⟩,⟨none,.pick (some 98) (.r 94) (.r 97) (.c (.lit (.bool false)))⟩,vo 0 98]
abbrev f10_19:AC:=.seq (.seq f10_21 (.cond (.r 70) (.seq (.ops [0] [] [⟨none,.mv (some 0) (.c (.lit (.bool false)))⟩]) .ret) .skip)) (.seq (.seq f10_27 (.cond (.r 87) (.seq (.ops [0] [] [⟨none,.mv (some 0) (.c (.lit (.bool false)))⟩]) .ret) .skip)) (.seq f10_32 .ret))
abbrev f10_5:AC:=.seq (.seq f10_7 (.cond (.r 32) (.seq (.ops [0] [] [⟨none,.mv (some 0) (.c (.lit (.bool false)))⟩]) .ret) .skip)) (.seq f10_12 (.seq (.seq f10_15 (.cond (.r 50) (.seq (.ops [0] [] [⟨none,.mv (some 0) (.c (.lit (.bool false)))⟩]) .ret) .skip)) f10_19))
abbrev f10_1:AC:=.seq (.ops [] [] [⟨none,.mv (some 0) (.c (.lit (.bool false)))⟩]) (.seq f10_4 f10_5)
def c_f10:AFun:=⟨99,[.tmp 0],f10_1⟩
theorem k_f10:kX x_f10 10 c_f10:=by delta kX; kernel_rfl
theorem e_f10:eX 10:=by delta eX; kernel_rfl

def n_f11:Nat:=11
def x_f11:=xX 46 [0,2,3,4,6,7,8,9,10,11,12,13,14,15,17,18,19,20,21,22,25,26,27,28,29,30,31,33,38,39,40,41,44,45] [40,41] [(2,[0],[]),(12,[0,16],[]),(52,[2,3],[]),(14,[0,4],[]),(60,[4,20,21,22],[]),(122,[4,20,21,22],[]),(488,[4,20,21,22,23],[]),(1957,[4],[]),(7832,[4,6,20,21,22],[]),(15666,[4,7,8,20,21,22],[]),(62668,[4,7,8,20,21,22,32],[]),(250676,[2,3],[]),(31335,[4,20,21,22],[]),(1959,[4,20,21,22],[]),(62,[2,3],[])]
abbrev f11_5:AC:=.ops [0,16] [] [vv 9 0,⟨none,.len (some 10) .sl (.r 9)⟩,vb 11 .lss 10 1,vv 12 11,⟨some (12,false),.mv (some 13) (.r 0)⟩,⟨some (12,false),.len (some 14) .sl (.r 13)⟩,⟨some (12,false),.bin (some 15) .num .gtr (.r 14) (.c (.lit (.int .i64 16)))⟩,⟨none,.pick (some 16) (.r 12) (.c (.lit (.bool true))) (.r 15)⟩]
abbrev f11_4:AC:=.seq f11_5 (.cond (.r 16) (.seq (.ops [2,3] [] [⟨none,.mv (some 2) (.c (.lit (.pointer none)))⟩,⟨none,.mv (some 3) (.c (.lit (.int .i64 2)))⟩]) .ret) .skip)
abbrev f11_10:AC:=.ops [0,4] [] [⟨none,.mkmap 17⟩,⟨none,.bst (some 18) [(0,1),(1,1),(2,1)] (.agg [(.lit (.slice none 0 0)),(.lit (.slice none 0 0)),(.lit (.map none))]) [(2,(.r 17))]⟩,⟨none,.boxB 19 3 (.r 18)⟩,vo 4 19]
abbrev f11_27:AC:=.seq (.ops [4,7,8,20,21,22,32] [] [vv 31 8,vb 32 .neq 31 0]) (.cond (.r 32) (.seq (.ops [2,3] [] [vv 33 8,⟨none,.mv (some 2) (.c (.lit (.pointer none)))⟩,vo 3 33]) .ret) .skip)
abbrev f11_32:AC:=.ops [4,20,21,22] [] [vv 34 4,vv 35 4,vn 36 35,vd 37 36 0,⟨none,.loadOwn 38 (.r 37)⟩,vv 39 7,⟨none,.bsl (some 40) 1 1 (.lit (.pointer none)) [(0,(.r 39))]⟩,⟨none,.x (some 41) (.appB (.r 38) 1 8 (.r 40))⟩,vn 42 34,vd 43 42 0,⟨none,.store 1 (.r 43) (.r 41)⟩]
abbrev f11_24:AC:=.seq (.ops [4,7,8,20,21,22] [] [vv 27 6,⟨none,.call (some 28) false (.f 12) [(.r 27)]⟩,vv 26 28,ve 29 26 0,ve 30 26 1,vo 7 29,vo 8 30]) (.seq f11_27 f11_32)
abbrev f11_20:AC:=.seq (.block 1 (.seq (.ops [4,6,20,21,22] [] [⟨none,.ixS (some 24) (.r 20) (.r 22) 1⟩,vl 25 24,vo 6 25]) f11_24)) (.ops [4,20,21,22] [] [vb 44 .add 22 1,vv 22 44])
abbrev f11_16:AC:=.seq (.ops [4,20,21,22,23] [] [⟨none,.bin (some 23) .num .lss (.r 22) (.r 21)⟩]) (.seq (.cond (.r 23) .skip (.exit [4] [] 0)) f11_20)
def f11_15:AC:=.loop [4,20,21,22] [] f11_16
theorem f11_15w:aC P id m f11_15 sf st Q = aE (aC P id m f11_16) [4,20,21,22] [] sf st Q:=rfl
abbrev f11_11:AC:=.seq (.seq (.ops [4,20,21,22] [] [vv 20 0,⟨none,.len (some 21) .sl (.r 20)⟩,⟨none,.mv (some 22) (.c (.lit (.int .i64 0)))⟩]) (.block 0 f11_15)) (.seq (.ops [2,3] [] [vv 45 4,vo 2 45,⟨none,.mv (some 3) (.c (.lit (.int .i64 0)))⟩]) .ret)
abbrev f11_1:AC:=.seq (.ops [0] [] [⟨none,.mv (some 2) (.c (.lit (.pointer none)))⟩,⟨none,.mv (some 3) (.c (.lit (.int .i64 0)))⟩]) (.seq f11_4 (.seq f11_10 f11_11))
def c_f11:AFun:=⟨46,[.tmp 2,.tmp 3],f11_1⟩
theorem k_f11:kX x_f11 11 c_f11:=by delta kX; kernel_rfl
theorem e_f11:eX 11:=by delta eX; kernel_rfl

def n_f12:Nat:=12
def x_f12:=xX 17 [0,2,3,4,5,6,7,8,10,11,12,13,14,15,16] [] [(2,[0],[]),(12,[0,9],[]),(52,[2,3],[]),(14,[2,3],[])]
abbrev f12_5:AC:=.ops [0,9] [] [vv 4 0,vb 5 .lss 4 0,vv 6 5,⟨some (6,false),.mv (some 7) (.r 0)⟩,⟨some (6,false),.bin (some 8) .num .gtr (.r 7) (.c (.lit (.int .i64 4096)))⟩,⟨none,.pick (some 9) (.r 6) (.c (.lit (.bool true))) (.r 8)⟩]
abbrev f12_4:AC:=.seq f12_5 (.cond (.r 9) (.seq (.ops [2,3] [] [⟨none,.mv (some 2) (.c (.lit (.pointer none)))⟩,⟨none,.mv (some 3) (.c (.lit (.int .i64 2)))⟩]) .ret) .skip)
abbrev f12_10:AC:=.ops [2,3] [] [vv 10 0,⟨none,.call (some 11) false (.f 36) []⟩,⟨none,.call (some 12) false (.f 36) []⟩,⟨none,.bar (some 13) 1 (.agg [(.lit (.pointer none)),(.lit (.pointer none))]) [(0,(.r 11)),(1,(.r 12))]⟩,⟨none,.mkmap 14⟩,⟨none,.bst (some 15) [(0,1),(1,1),(2,1),(3,1),(4,2),(6,1)] (.agg [(.lit (.bool false)),(.lit (.bool false)),(.lit (.int .i64 0)),(.lit (.slice none 0 0)),(.lit (.pointer none)),(.lit (.pointer none)),(.lit (.map none))]) [(0,(.c (.lit (.bool true)))),(2,(.r 10)),(4,(.r 13)),(5,(.r 14))]⟩,⟨none,.boxB 16 7 (.r 15)⟩,vo 2 16,⟨none,.mv (some 3) (.c (.lit (.int .i64 0)))⟩]
abbrev f12_1:AC:=.seq (.ops [0] [] [⟨none,.mv (some 2) (.c (.lit (.pointer none)))⟩,⟨none,.mv (some 3) (.c (.lit (.int .i64 0)))⟩]) (.seq f12_4 (.seq f12_10 .ret))
def c_f12:AFun:=⟨17,[.tmp 2,.tmp 3],f12_1⟩
theorem k_f12:kX x_f12 12 c_f12:=by delta kX; kernel_rfl
theorem e_f12:eX 12:=by delta eX; kernel_rfl

def n_f13:Nat:=13
def x_f13:=xX 46 [0,1,6,8,9,10,12,13,14,15,18,19,20,22,24,26,28,29,30,31,32,33,38,39,41,42,43,45] [] [(2,[0,3,4],[3,4]),(6,[0,3,4,5],[3,4,5]),(14,[0,3,4,5],[3,4,5]),(60,[0,3,4,5,8],[3,4,5]),(244,[0,3,4,5,8,17],[3,4,5]),(490,[4,5,6],[4,5]),(982,[0,3,4,5,37],[3,4,5]),(1966,[4,5,6],[4,5]),(1967,[4,5,6],[4,5]),(62,[4,5],[4,5]),(126,[4],[4])]
abbrev f13_2:AC:=.ops [0,3,4] [3,4] [⟨none,.boxL 3 5 (.r 1)⟩,⟨none,.newL 4 [(.lit (.int .i64 0)),(.lit (.int .i64 0)),(.lit (.int .i64 0)),(.lit (.int .i64 0)),(.lit (.bool false)),(.lit (.slice none 0 0)),(.lit (.int .i64 0))]⟩]
abbrev f13_4:AC:=.ops [0,3,4,5] [3,4,5] [⟨none,.newL 5 [(.lit (.int .i64 0)),(.lit (.int .i64 0)),(.lit (.int .i64 0)),(.lit (.int .i64 0)),(.lit (.bool false)),(.lit (.slice none 0 0)),(.lit (.int .i64 0))]⟩]
abbrev f13_14:AC:=.ops [4,5,6] [4,5] [vv 20 0,vd 21 3 1,vl 22 21,vd 23 3 3,vl 24 23,vd 25 3 2,vl 26 25,vd 27 3 4,vl 28 27,⟨none,.call (some 29) false (.f 30) [(.r 20),(.r 22),(.r 24),(.r 26),(.r 28)]⟩,vv 19 29,ve 30 19 0,ve 31 19 1,ve 32 19 2,ve 33 19 3,vd 34 5 0,⟨none,.store 4 (.r 34) (.r 30)⟩,vd 35 5 4,⟨none,.store 1 (.r 35) (.r 31)⟩,vd 36 5 5,⟨none,.store 1 (.r 36) (.r 32)⟩,vo 6 33]
abbrev f13_19:AC:=.ops [4,5,6] [4,5] [vv 10 0,vd 11 3 2,vl 12 11,⟨none,.call (some 13) false (.f 38) [(.r 10),(.r 12)]⟩,vv 9 13,ve 14 9 0,ve 15 9 1,vd 16 5 5,⟨none,.store 1 (.r 16) (.r 14)⟩,vo 6 15]
abbrev f13_15:AC:=.seq (.ops [0,3,4,5,37] [3,4,5] [vb 38 .eql 8 1,vo 37 38]) (.cond (.r 37) (.ops [4,5,6] [4,5] [vv 39 0,vd 40 3 1,vl 41 40,⟨none,.call (some 42) false (.f 37) [(.r 39),(.r 41)]⟩,vo 6 42]) f13_19)
abbrev f13_8:AC:=.seq (.ops [0,3,4,5,8] [3,4,5] [vd 7 3 0,vl 8 7]) (.block 0 (.seq (.ops [0,3,4,5,8,17] [3,4,5] [vb 18 .eql 8 0,vo 17 18]) (.cond (.r 17) f13_14 f13_15)))
abbrev f13_20:AC:=.seq (.ops [4,5] [4,5] [vv 43 6,vd 44 5 6,⟨none,.store 1 (.r 44) (.r 43)⟩]) (.seq (.ops [4] [4] [⟨none,.load (some 45) (.r 5) (some 7)⟩,⟨none,.store 7 (.r 4) (.r 45)⟩]) .ret)
abbrev f13_1:AC:=.seq f13_2 (.seq f13_4 (.seq (.ops [0,3,4,5] [3,4,5] [⟨none,.mv (some 6) (.c (.lit (.int .i64 0)))⟩]) (.seq f13_8 f13_20)))
def c_f13:AFun:=⟨46,[.cell 4 (some 7)],f13_1⟩
theorem k_f13:kX x_f13 13 c_f13:=by delta kX; kernel_rfl
theorem e_f13:eX 13:=by delta eX; kernel_rfl

def n_f14:Nat:=14
def x_f14:=xX 32 [0,1,2,6,7,8,9,10,11,12,13,15,16,17,18,19,20,21,22,24,25,26,27,28,29,30,31] [] [(2,[0,1,2],[]),(12,[0,1,2,9],[]),(26,[0,1,2,9,14],[]),(108,[6,7,8],[]),(14,[0,1,2,7,8],[]),(60,[0,1,2,7,8,23],[]),(244,[6,7,8],[]),(62,[6,7,8],[])]
abbrev f14_2:AC:=.ops [0,1,2] [] [⟨none,.mv (some 6) (.c (.lit (.bool false)))⟩,⟨none,.mv (some 7) (.c (.lit (.slice none 0 0)))⟩,⟨none,.mv (some 8) (.c (.lit (.int .i64 0)))⟩]
abbrev f14_8:AC:=.cond (.r 14) (.seq (.ops [6,7,8] [] [vv 15 9,⟨none,.mv (some 6) (.c (.lit (.bool false)))⟩,⟨none,.mv (some 7) (.c (.lit (.slice none 0 0)))⟩,vo 8 15]) .ret) .skip
abbrev f14_4:AC:=.seq (.ops [0,1,2,9] [] [vv 10 0,vv 11 1,⟨none,.call (some 12) false (.f 39) [(.r 10),(.r 11)]⟩,vo 9 12]) (.seq (.ops [0,1,2,9,14] [] [vv 13 9,vb 14 .neq 13 0]) f14_8)
abbrev f14_12:AC:=.ops [0,1,2,7,8] [] [vv 17 0,vv 18 2,⟨none,.call (some 19) false (.f 40) [(.r 17),(.r 18)]⟩,vv 16 19,ve 20 16 0,ve 21 16 1,vo 7 20,vo 8 21]
abbrev f14_18:AC:=.ops [6,7,8] [] [vv 24 0,vv 25 1,vv 26 2,⟨none,.call (some 27) false (.f 41) [(.r 24),(.c (.lit (.int .i64 0))),(.r 25),(.r 26)]⟩,⟨none,.mv (some 6) (.c (.lit (.bool false)))⟩,⟨none,.mv (some 7) (.c (.lit (.slice none 0 0)))⟩,vo 8 27]
abbrev f14_13:AC:=.seq (.seq (.ops [0,1,2,7,8,23] [] [vv 22 8,vb 23 .eql 22 16]) (.cond (.r 23) (.seq f14_18 .ret) .skip)) (.seq (.ops [6,7,8] [] [vv 28 8,vb 29 .eql 28 0,vv 30 7,vv 31 8,vo 6 29,vo 7 30,vo 8 31]) .ret)
abbrev f14_1:AC:=.seq f14_2 (.seq f14_4 (.seq f14_12 f14_13))
def c_f14:AFun:=⟨32,[.tmp 6,.tmp 7,.tmp 8],f14_1⟩
theorem k_f14:kX x_f14 14 c_f14:=by delta kX; kernel_rfl
theorem e_f14:eX 14:=by delta eX; kernel_rfl

def n_f15:Nat:=15
def x_f15:=xX 31 [0,1,4,5,6,7,8,9,10,11,12,14,15,16,17,18,19,20,21,23,24,25,26,27,28,29,30] [] [(2,[0,1],[]),(12,[0,1,8],[]),(26,[0,1,8,13],[]),(108,[4,5,6,7],[]),(14,[0,1,4,6,7],[]),(60,[0,1,4,6,7,22],[]),(244,[4,5,6,7],[]),(62,[4,5,6,7],[])]
abbrev f15_2:AC:=.ops [0,1] [] [⟨none,.mv (some 4) (.c (.lit (.int .i64 0)))⟩,⟨none,.mv (some 5) (.c (.lit (.bool false)))⟩,⟨none,.mv (some 6) (.c (.lit (.slice none 0 0)))⟩,⟨none,.mv (some 7) (.c (.lit (.int .i64 0)))⟩]
abbrev f15_10:AC:=.ops [4,5,6,7] [] [vv 14 8,⟨none,.mv (some 4) (.c (.lit (.int .i64 0)))⟩,⟨none,.mv (some 5) (.c (.lit (.bool false)))⟩,⟨none,.mv (some 6) (.c (.lit (.slice none 0 0)))⟩,vo 7 14]
abbrev f15_4:AC:=.seq (.ops [0,1,8] [] [vv 9 0,vv 10 1,⟨none,.call (some 11) false (.f 39) [(.r 9),(.r 10)]⟩,vo 8 11]) (.seq (.ops [0,1,8,13] [] [vv 12 8,vb 13 .neq 12 0]) (.cond (.r 13) (.seq f15_10 .ret) .skip))
abbrev f15_12:AC:=.ops [0,1,4,6,7] [] [vv 16 0,⟨none,.call (some 17) false (.f 42) [(.r 16)]⟩,vv 15 17,ve 18 15 0,ve 19 15 1,ve 20 15 2,vo 4 18,vo 6 19,vo 7 20]
abbrev f15_18:AC:=.ops [4,5,6,7] [] [vv 23 0,vv 24 1,⟨none,.call (some 25) false (.f 41) [(.r 23),(.c (.lit (.int .i64 1))),(.r 24),(.c (.lit (.int .i64 0)))]⟩,⟨none,.mv (some 4) (.c (.lit (.int .i64 0)))⟩,⟨none,.mv (some 5) (.c (.lit (.bool false)))⟩,⟨none,.mv (some 6) (.c (.lit (.slice none 0 0)))⟩,vo 7 25]
abbrev f15_13:AC:=.seq (.seq (.ops [0,1,4,6,7,22] [] [vv 21 7,vb 22 .eql 21 16]) (.cond (.r 22) (.seq f15_18 .ret) .skip)) (.seq (.ops [4,5,6,7] [] [vv 26 4,vv 27 7,vb 28 .eql 27 0,vv 29 6,vv 30 7,vo 4 26,vo 5 28,vo 6 29,vo 7 30]) .ret)
abbrev f15_1:AC:=.seq f15_2 (.seq f15_4 (.seq f15_12 f15_13))
def c_f15:AFun:=⟨31,[.tmp 4,.tmp 5,.tmp 6,.tmp 7],f15_1⟩
theorem k_f15:kX x_f15 15 c_f15:=by delta kX; kernel_rfl
theorem e_f15:eX 15:=by delta eX; kernel_rfl

def n_f16:Nat:=16
def x_f16:=xX 37 [0,1,4,5,7,8,9,10,11,13,15,19,20,21,24,28,30,35,36] [] [(2,[0,1],[]),(6,[0,1,5],[]),(14,[0,1,5,10],[]),(60,[0,1,5,10,12],[]),(244,[4],[]),(246,[0,1,5,14],[]),(988,[0,1,6],[6]),(1978,[0,1],[]),(3958,[],[]),(7918,[4],[]),(990,[4],[])]
abbrev f16_17:AC:=.ops [0,1,6] [6] [vv 16 0,vn 17 16,vd 18 17 6,vl 19 18,vv 20 1,⟨none,.lookup (some 21) (.int .i64) (.agg [(.lit (.int .i64 0)),(.lit (.int .i64 0)),(.lit (.int .u64 0))]) false (.r 19) (.r 20)⟩,⟨none,.newL 6 [(.lit (.int .i64 0)),(.lit (.int .i64 0)),(.lit (.int .u64 0))]⟩,⟨none,.store 3 (.r 6) (.r 21)⟩]
abbrev f16_19:AC:=.draw [0,1] [] [] [vv 22 0,vd 23 6 0,vl 24 23,vn 25 22,vd 26 25 4,⟨none,.ixA (some 27) (.r 26) (.r 24) 2 1⟩,vl 28 27,vd 29 6 2,vl 30 29] [⟨none,.call (some 31) false (.f 43) [(.r 28),(.r 30)]⟩]
abbrev f16_20:AC:=.seq (.ops [] [] [vv 32 0,vn 33 32,vd 34 33 6,vl 35 34,vv 36 1,⟨none,.del (.int .i64) (.r 35) (.r 36)⟩]) (.seq (.ops [4] [] [⟨none,.mv (some 4) (.c (.lit (.int .i64 0)))⟩]) .ret)
abbrev f16_13:AC:=.seq (.ops [0,1,5,14] [] [vb 15 .eql 10 11,vo 14 15]) (.cond (.r 14) (.seq f16_17 (.seq f16_19 f16_20)) (.seq (.ops [4] [] [vv 11 5,vo 4 11]) .ret))
abbrev f16_8:AC:=.seq (.ops [0,1,5,10,12] [] [vb 13 .eql 10 0,vo 12 13]) (.cond (.r 12) (.seq (.ops [4] [] [⟨none,.mv (some 4) (.c (.lit (.int .i64 9)))⟩]) .ret) f16_13)
abbrev f16_3:AC:=.seq (.ops [0,1,5] [] [vv 7 0,vv 8 1,⟨none,.call (some 9) false (.f 39) [(.r 7),(.r 8)]⟩,vo 5 9]) (.seq (.ops [0,1,5,10] [] [vv 10 5]) (.block 0 f16_8))
abbrev f16_1:AC:=.seq (.ops [0,1] [] [⟨none,.mv (some 4) (.c (.lit (.int .i64 0)))⟩]) f16_3
def c_f16:AFun:=⟨37,[.tmp 4],f16_1⟩
theorem k_f16:kX x_f16 16 c_f16:=by delta kX; kernel_rfl
theorem e_f16:eX 16:=by delta eX; kernel_rfl

def n_f17:Nat:=17
def x_f17:=xX 49 [0,2,3,4,6,7,8,11,20,21,23,24,26,27,28,29,30,31,32,34,35,36,37,38,40,41,42,43,44,45,46,47,48] [] [(2,[0],[]),(12,[0,12],[]),(52,[2,3],[]),(28,[0,16],[]),(116,[2,3],[]),(30,[0],[]),(62,[0,4],[]),(252,[0,4,20,21],[]),(506,[0,4,20,21],[]),(2024,[0,4,20,21,22],[]),(8101,[4],[]),(32408,[0,4,6,20,21],[]),(64818,[0,4,6,7,20,21],[]),(259276,[0,4,6,7,20,21,25],[]),(518554,[0,4,6,7,20,21],[]),(259278,[0,4,6,7,8,10,20,21],[]),(518558,[0,4,6,7,8,10,20,21],[]),(4148464,[0,4,6,7,8,20,21,33],[]),(8296931,[0,4,20,21],[]),(8296932,[0,4,6,7,20,21],[]),(4148467,[0,4,6,7,8,10,20,21],[]),(8103,[0,4,20,21],[]),(254,[2,3],[])]
abbrev f17_4:AC:=.seq (.ops [0,12] [] [vv 11 0,⟨none,.call (some 12) false (.f 44) [(.r 11)]⟩]) (.cond (.r 12) (.seq (.ops [2,3] [] [⟨none,.mv (some 2) (.c (.lit (.slice none 0 0)))⟩,⟨none,.mv (some 3) (.c (.lit (.int .i64 1)))⟩]) .ret) .skip)
abbrev f17_10:AC:=.seq (.ops [0,16] [] [vv 13 0,vn 14 13,vd 15 14 1,vl 16 15]) (.cond (.r 16) (.seq (.ops [2,3] [] [⟨none,.mv (some 2) (.c (.lit (.slice none 0 0)))⟩,⟨none,.mv (some 3) (.c (.lit (.int .i64 14)))⟩]) .ret) .skip)
abbrev f17_21:AC:=.ops [0,4,20,21] [] [⟨none,.bar (some 20) 1 (.agg [(.lit (.int .i64 0)),(.lit (.int .i64 0))]) [(0,(.c (.lit (.int .i64 1)))),(1,(.c (.lit (.int .i64 0))))]⟩,⟨none,.mv (some 21) (.c (.lit (.int .i64 0)))⟩]
abbrev f17_35:AC:=.seq (.ops [0,4,6,7,20,21,25] [] [vv 24 6,vb 25 .eql 24 1]) (.cond (.r 25) (.ops [0,4,6,7,20,21] [] [⟨none,.mv (some 7) (.c (.lit (.int .i64 13)))⟩]) .skip)
abbrev f17_40:AC:=.ops [0,4,6,7,8,10,20,21] [] [vv 27 0,vv 28 6,⟨none,.call (some 29) false (.f 45) [(.r 27),(.r 28)]⟩,vv 26 29,ve 30 26 0,ve 31 26 1,ve 32 26 2,vo 8 30,vo 9 31,vo 10 32]
abbrev f17_49:AC:=.ops [0,4,6,7,20,21] [] [vo 41 4,vv 42 8,vv 43 7,⟨none,.bst (some 44) [(0,1),(1,1),(2,1),(3,1)] (.agg [(.lit (.int .i64 0)),(.lit (.int .i64 0)),(.lit (.int .i64 0)),(.lit (.int .i64 0))]) [(0,(.r 42)),(3,(.r 43))]⟩,⟨none,.bsl (some 45) 4 1 (.agg [(.lit (.int .i64 0)),(.lit (.int .i64 0)),(.lit (.int .i64 0)),(.lit (.int .i64 0))]) [(0,(.r 44))]⟩,⟨none,.appS 46 41 4 32 (.r 45)⟩,vo 4 46]
abbrev f17_50:AC:=.ops [0,4,6,7,8,10,20,21] [] [vv 35 0,vv 36 6,⟨none,.call (some 37) false (.f 45) [(.r 35),(.r 36)]⟩,vv 34 37,ve 38 34 0,ve 39 34 1,ve 40 34 2,vo 8 38,vo 10 40]
abbrev f17_43:AC:=.seq (.seq (.ops [0,4,6,7,8,20,21,33] [] [vv 33 10]) (.cond (.r 33) .skip (.exit [0,4,20,21] [] 2))) (.seq (.block 3 f17_49) f17_50)
def f17_42:AC:=.loop [0,4,6,7,8,10,20,21] [] f17_43
theorem f17_42w:aC P id m f17_42 sf st Q = aE (aC P id m f17_43) [0,4,6,7,8,10,20,21] [] sf st Q:=rfl
abbrev f17_30:AC:=.seq (.ops [0,4,6,20,21] [] [⟨none,.ixArr (some 23) (.r 20) (.r 21) 2 1 none⟩,vo 6 23]) (.seq (.ops [0,4,6,7,20,21] [] [⟨none,.mv (some 7) (.c (.lit (.int .i64 14)))⟩]) (.seq f17_35 (.seq f17_40 (.block 2 f17_42))))
abbrev f17_24:AC:=.seq (.ops [0,4,20,21,22] [] [vb 22 .lss 21 2]) (.seq (.cond (.r 22) .skip (.exit [4] [] 0)) (.seq (.block 1 f17_30) (.ops [0,4,20,21] [] [vb 47 .add 21 1,vv 21 47])))
def f17_23:AC:=.loop [0,4,20,21] [] f17_24
theorem f17_23w:aC P id m f17_23 sf st Q = aE (aC P id m f17_24) [0,4,20,21] [] sf st Q:=rfl
abbrev f17_17:AC:=.seq (.ops [0,4] [] [⟨none,.mv (some 4) (.c (.lit (.slice none 0 0)))⟩]) (.seq (.seq f17_21 (.block 0 f17_23)) (.seq (.ops [2,3] [] [vv 48 4,vo 2 48,⟨none,.mv (some 3) (.c (.lit (.int .i64 0)))⟩]) .ret))
abbrev f17_1:AC:=.seq (.ops [0] [] [⟨none,.mv (some 2) (.c (.lit (.slice none 0 0)))⟩,⟨none,.mv (some 3) (.c (.lit (.int .i64 0)))⟩]) (.seq f17_4 (.seq f17_10 (.seq (.ops [0] [] [vv 17 0,vn 18 17,vd 19 18 1,⟨none,.store 1 (.r 19) (.c (.lit (.bool true)))⟩]) f17_17)))
def c_f17:AFun:=⟨49,[.tmp 2,.tmp 3],f17_1⟩
theorem k_f17:kX x_f17 17 c_f17:=by delta kX; kernel_rfl
theorem e_f17:eX 17:=by delta eX; kernel_rfl

def n_f18:Nat:=18
def x_f18:=xX 52 [0,1,4,5,7,9,10,11,13,15,16,17,18,20,22,23,24,25,27,28,30,31,32,34,36,37,39,40,43,45,48,50] [] [(2,[2,3],[2,3]),(12,[2,3,33],[2,3]),(52,[4],[]),(28,[2,3,5],[2,3]),(58,[2,3,5],[2,3]),(464,[2,3,5,38],[2,3]),(931,[],[]),(1864,[2,3,5,51],[2,3]),(7460,[4],[]),(467,[2,3,5],[2,3]),(30,[4],[])]
abbrev f18_5:AC:=.ops [2,3,33] [2,3] [vd 6 2 0,⟨none,.load (some 7) (.r 6) (some 4)⟩,vd 8 3 0,⟨none,.load (some 9) (.r 8) (some 4)⟩,⟨none,.bin (some 10) (.agg (.field 0 1 .int (.field 1 1 .int (.field 2 1 .int (.field 3 1 .int .tt))))) .neq (.r 7) (.r 9)⟩,vv 11 10,⟨some (11,false),.addr (some 12) (.r 2) 4⟩,⟨some (11,false),.load (some 13) (.r 12) none⟩,⟨some (11,false),.addr (some 14) (.r 3) 4⟩,⟨some (11,false),.load (some 15) (.r 14) none⟩,⟨some (11,false),.bin (some 16) .bool .neq (.r 13) (.r 15)⟩,⟨none,.pick (some 17) (.r 11) (.c (.lit (.bool true))) (.r 16)⟩,vv 18 17,⟨some (18,false),.addr (some 19) (.r 2) 6⟩,⟨some (18,false),.load (some 20) (.r 19) none⟩,⟨some (18,false),.addr (some 21) (.r 3) 6⟩,⟨some (18,false),.load (some 22) (.r 21) none⟩,⟨some (18,false),.bin (some 23) .num .neq (.r 20) (.r 22)⟩,⟨none,.pick (some 24) (.r 18) (.c (.lit (.bool true))) (.r 23)⟩,vv 25 24,⟨some (25,false),.addr (some 26) (.r 2) 5⟩,⟨some (25,false),.load (some 27) (.r 26) none⟩,⟨some (25,false),.len (some 28) .sl (.r 27)⟩,⟨some (25,false),.addr (some 29) (.r 3) 5⟩,⟨some (25,false),.load (some 30) (.r 29) none⟩,⟨some (25,false),.len (some 31) .sl (.r 30)⟩,⟨some (25,false),.bin (some 32) .num .neq (.r 28) (.r 31)⟩,⟨none,.pick (some 33) (.r 25) (.c (.lit (.bool true))) (.r 32)⟩]
abbrev f18_15:AC:=.seq (.ops [2,3,5,38] [2,3] [vv 34 5,vd 35 2 5,vl 36 35,⟨none,.len (some 37) .sl (.r 36)⟩,⟨none,.bin (some 38) .num .lss (.r 34) (.r 37)⟩]) (.cond (.r 38) .skip (.exit [] [] 0))
abbrev f18_21:AC:=.draw [2,3,5,51] [2,3] [] [vd 41 2 5,vl 42 41,vv 43 5,⟨none,.ixS (some 44) (.r 42) (.r 43) 4⟩,⟨none,.load (some 45) (.r 44) (some 4)⟩,vd 46 3 5,vl 47 46,vv 48 5,⟨none,.ixS (some 49) (.r 47) (.r 48) 4⟩,⟨none,.load (some 50) (.r 49) (some 4)⟩] [⟨none,.bin (some 51) (.agg (.field 0 1 .int (.field 1 1 .int (.field 2 1 .int (.field 3 1 .int .tt))))) .neq (.r 45) (.r 50)⟩]
abbrev f18_18:AC:=.seq (.block 1 (.seq f18_21 (.cond (.r 51) (.seq (.ops [4] [] [⟨none,.mv (some 4) (.c (.lit (.bool false)))⟩]) .ret) .skip))) (.ops [2,3,5] [2,3] [vv 39 5,vb 40 .add 39 1,vo 5 40])
abbrev f18_14:AC:=.seq f18_15 f18_18
def f18_13:AC:=.loop [2,3,5] [2,3] f18_14
theorem f18_13w:aC P id m f18_13 sf st Q = aE (aC P id m f18_14) [2,3,5] [2,3] sf st Q:=rfl
abbrev f18_9:AC:=.seq (.seq (.ops [2,3,5] [2,3] [⟨none,.mv (some 5) (.c (.lit (.int .i64 0)))⟩]) (.block 0 f18_13)) (.seq (.ops [4] [] [⟨none,.mv (some 4) (.c (.lit (.bool true)))⟩]) .ret)
abbrev f18_1:AC:=.seq (.ops [2,3] [2,3] [⟨none,.boxL 2 7 (.r 0)⟩,⟨none,.boxL 3 7 (.r 1)⟩,⟨none,.mv (some 4) (.c (.lit (.bool false)))⟩]) (.seq (.seq f18_5 (.cond (.r 33) (.seq (.ops [4] [] [⟨none,.mv (some 4) (.c (.lit (.bool false)))⟩]) .ret) .skip)) f18_9)
def c_f18:AFun:=⟨52,[.tmp 4],f18_1⟩
theorem k_f18:kX x_f18 18 c_f18:=by delta kX; kernel_rfl
theorem e_f18:eX 18:=by delta eX; kernel_rfl

def n_f19:Nat:=19
def x_f19:=xX 9 [0,1,4,5,6,7,8] [] [(2,[0,1],[]),(6,[4],[])]
abbrev f19_1:AC:=.seq (.ops [0,1] [] [⟨none,.mv (some 4) (.c (.lit (.int .i64 0)))⟩]) (.seq (.ops [4] [] [vv 5 0,vv 6 1,⟨none,.call (some 7) false (.f 46) [(.r 5),(.r 6)]⟩,⟨none,.call (some 8) false (.f 20) [(.r 7)]⟩,vo 4 8]) .ret)
def c_f19:AFun:=⟨9,[.tmp 4],f19_1⟩
theorem k_f19:kX x_f19 19 c_f19:=by delta kX; kernel_rfl
theorem e_f19:eX 19:=by delta eX; kernel_rfl

def n_f20:Nat:=20
def x_f20:=xX 10 [0,2,3,8,9] [] [(2,[0],[]),(12,[0,4],[]),(52,[2],[]),(14,[2],[])]
abbrev f20_4:AC:=.seq (.ops [0,4] [] [vv 3 0,⟨none,.call (some 4) false (.f 44) [(.r 3)]⟩]) (.cond (.r 4) (.seq (.ops [2] [] [⟨none,.mv (some 2) (.c (.lit (.int .i64 0)))⟩]) .ret) .skip)
abbrev f20_1:AC:=.seq (.ops [0] [] [⟨none,.mv (some 2) (.c (.lit (.int .i64 0)))⟩]) (.seq f20_4 (.seq (.ops [2] [] [vv 5 0,vn 6 5,vd 7 6 3,vl 8 7,⟨none,.len (some 9) .sl (.r 8)⟩,vo 2 9]) .ret))
def c_f20:AFun:=⟨10,[.tmp 2],f20_1⟩
theorem k_f20:kX x_f20 20 c_f20:=by delta kX; kernel_rfl
theorem e_f20:eX 20:=by delta eX; kernel_rfl

def n_f21:Nat:=21
def x_f21:=xX 9 [0,1,4,5,6,7,8] [] [(2,[0,1],[]),(6,[4],[])]
abbrev f21_1:AC:=.seq (.ops [0,1] [] [⟨none,.mv (some 4) (.c (.lit (.bool false)))⟩]) (.seq (.ops [4] [] [vv 5 0,vv 6 1,⟨none,.call (some 7) false (.f 46) [(.r 5),(.r 6)]⟩,⟨none,.call (some 8) false (.f 22) [(.r 7)]⟩,vo 4 8]) .ret)
def c_f21:AFun:=⟨9,[.tmp 4],f21_1⟩
theorem k_f21:kX x_f21 21 c_f21:=by delta kX; kernel_rfl
theorem e_f21:eX 21:=by delta eX; kernel_rfl

def n_f22:Nat:=22
def x_f22:=xX 12 [0,2,3,4,5,6,10,11] [] [(2,[0],[]),(6,[2],[])]
abbrev f22_4:AC:=.ops [2] [] [vv 3 0,⟨none,.call (some 4) false (.f 44) [(.r 3)]⟩,⟨none,.un (some 5) .not (.r 4)⟩,vv 6 5,⟨some (6,true),.mv (some 7) (.r 0)⟩,⟨some (6,true),.nilck (some 8) (.r 7)⟩,⟨some (6,true),.addr (some 9) (.r 8) 1⟩,⟨some (6,true),.load (some 10) (.r 9) none⟩,⟨none,.pick (some 11) (.r 6) (.r 10) (.c (.lit (.bool false)))⟩,vo 2 11]
abbrev f22_1:AC:=.seq (.ops [0] [] [⟨none,.mv (some 2) (.c (.lit (.bool false)))⟩]) (.seq f22_4 .ret)
def c_f22:AFun:=⟨12,[.tmp 2],f22_1⟩
theorem k_f22:kX x_f22 22 c_f22:=by delta kX; kernel_rfl
theorem e_f22:eX 22:=by delta eX; kernel_rfl

def n_f23:Nat:=23
def x_f23:=xX 45 [0,3,5,6,7,8,9,10,11,12,14,15,16,17,19,20,22,24,25,26,28,30,31,33,35,37,39,40,41,42,44] [42] [(2,[0,2],[2]),(12,[0,2,13],[2]),(52,[2,3],[2]),(14,[0,2,4],[2,4]),(60,[0,2,4,5],[2,4]),(122,[0,2,4,5],[2,4]),(976,[0,2,4,5,18],[2,4]),(1955,[2,4],[2,4]),(7824,[0,2,4,5,32],[2,4]),(31300,[2,3],[2]),(3913,[0,2,4,5],[2,4]),(979,[0,2,4,5],[2,4]),(62,[2,3],[2])]
abbrev f23_5:AC:=.ops [0,2,13] [2] [vv 6 0,⟨none,.len (some 7) .sl (.r 6)⟩,vb 8 .lss 7 1,vv 9 8,⟨some (9,false),.mv (some 10) (.r 0)⟩,⟨some (9,false),.len (some 11) .sl (.r 10)⟩,⟨some (9,false),.bin (some 12) .num .gtr (.r 11) (.c (.lit (.int .i64 16)))⟩,⟨none,.pick (some 13) (.r 9) (.c (.lit (.bool true))) (.r 12)⟩]
abbrev f23_8:AC:=.ops [2,3] [2] [⟨none,.bst (some 14) [(0,1),(1,1)] (.agg [(.lit (.slice none 0 0)),(.lit (.slice none 0 0))]) []⟩,⟨none,.store 2 (.r 2) (.r 14)⟩,⟨none,.mv (some 3) (.c (.lit (.int .i64 2)))⟩]
abbrev f23_17:AC:=.seq (.ops [0,2,4,5,18] [2,4] [vv 15 5,vv 16 0,⟨none,.len (some 17) .sl (.r 16)⟩,⟨none,.bin (some 18) .num .lss (.r 15) (.r 17)⟩]) (.cond (.r 18) .skip (.exit [2,4] [2,4] 0))
abbrev f23_24:AC:=.ops [0,2,4,5,32] [2,4] [vv 21 0,vv 22 5,⟨none,.ixS (some 23) (.r 21) (.r 22) 1⟩,vl 24 23,vb 25 .lss 24 0,vv 26 25,⟨some (26,false),.mv (some 27) (.r 0)⟩,⟨some (26,false),.mv (some 28) (.r 5)⟩,⟨some (26,false),.ixS (some 29) (.r 27) (.r 28) 1⟩,⟨some (26,false),.load (some 30) (.r 29) none⟩,⟨some (26,false),.bin (some 31) .num .gtr (.r 30) (.c (.lit (.int .i64 4096)))⟩,⟨none,.pick (some 32) (.r 26) (.c (.lit (.bool true))) (.r 31)⟩]
abbrev f23_27:AC:=.ops [2,3] [2] [⟨none,.bst (some 33) [(0,1),(1,1)] (.agg [(.lit (.slice none 0 0)),(.lit (.slice none 0 0))]) []⟩,⟨none,.store 2 (.r 2) (.r 33)⟩,⟨none,.mv (some 3) (.c (.lit (.int .i64 2)))⟩]
abbrev f23_28:AC:=.draw [0,2,4,5] [2,4] [] [vd 34 4 0,vl 35 34,vv 36 0,vv 37 5,⟨none,.ixS (some 38) (.r 36) (.r 37) 1⟩,vl 39 38,⟨none,.bst (some 40) [(0,1),(1,1),(2,1)] (.agg [(.lit (.int .i64 0)),(.lit (.slice none 0 0)),(.lit (.bool false))]) [(0,(.r 39))]⟩,⟨none,.bsl (some 41) 3 1 (.agg [(.lit (.int .i64 0)),(.lit (.slice none 0 0)),(.lit (.bool false))]) [(0,(.r 40))]⟩] [⟨none,.x (some 42) (.appB (.r 35) 3 40 (.r 41))⟩,vd 43 4 0,⟨none,.store 1 (.r 43) (.r 42)⟩]
abbrev f23_16:AC:=.seq f23_17 (.seq (.block 1 (.seq (.seq f23_24 (.cond (.r 32) (.seq f23_27 .ret) .skip)) f23_28)) (.ops [0,2,4,5] [2,4] [vv 19 5,vb 20 .add 19 1,vo 5 20]))
def f23_15:AC:=.loop [0,2,4,5] [2,4] f23_16
theorem f23_15w:aC P id m f23_15 sf st Q = aE (aC P id m f23_16) [0,2,4,5] [2,4] sf st Q:=rfl
abbrev f23_11:AC:=.seq (.seq (.ops [0,2,4,5] [2,4] [⟨none,.mv (some 5) (.c (.lit (.int .i64 0)))⟩]) (.block 0 f23_15)) (.seq (.ops [2,3] [2] [⟨none,.load (some 44) (.r 4) (some 2)⟩,⟨none,.store 2 (.r 2) (.r 44)⟩,⟨none,.mv (some 3) (.c (.lit (.int .i64 0)))⟩]) .ret)
abbrev f23_3:AC:=.seq (.seq f23_5 (.cond (.r 13) (.seq f23_8 .ret) .skip)) (.seq (.ops [0,2,4] [2,4] [⟨none,.newL 4 [(.lit (.slice none 0 0)),(.lit (.slice none 0 0))]⟩]) f23_11)
abbrev f23_1:AC:=.seq (.ops [0,2] [2] [⟨none,.newL 2 [(.lit (.slice none 0 0)),(.lit (.slice none 0 0))]⟩,⟨none,.mv (some 3) (.c (.lit (.int .i64 0)))⟩]) f23_3
def c_f23:AFun:=⟨45,[.cell 2 (some 2),.tmp 3],f23_1⟩
theorem k_f23:kX x_f23 23 c_f23:=by delta kX; kernel_rfl
theorem e_f23:eX 23:=by delta eX; kernel_rfl

def n_f24:Nat:=24
def x_f24:=xX 74 [0,1,4,5,6,7,9,10,11,12,13,14,15,16,17,18,19,20,21,22,23,24,25,26,28,29,30,31,32,33,34,35,36,37,38,40,41,42,44,46,47,49,50,51,52,53,56,59,60,61,62,63,64,65,68,71,72] [] [(2,[0,3],[3]),(12,[0,3,43],[3]),(52,[4],[]),(28,[0,3,5],[3]),(58,[0,3,5],[3]),(464,[0,3,5,48],[3]),(931,[],[]),(1864,[0,3,5,73],[3]),(7460,[4],[]),(467,[0,3,5],[3]),(30,[4],[])]
abbrev f24_5:AC:=.draw [0,3,43] [3] [] [vv 6 0,⟨none,.call (some 7) true (.f 31) [(.r 6)]⟩,vd 8 3 0,vl 9 8,⟨none,.len (some 10) .sl (.r 9)⟩,⟨none,.bin (some 11) .num .neq (.r 7) (.r 10)⟩,vv 12 11,⟨some (12,false),.mv (some 13) (.r 0)⟩,⟨some (12,false),.call (some 14) true (.f 26) [(.r 13)]⟩,⟨some (12,false),.load (some 15) (.r 3) (some 2)⟩,⟨some (12,false),.call (some 16) true (.f 48) [(.r 15)]⟩,⟨some (12,false),.call (some 17) true (.f 47) [(.r 14),(.r 16)]⟩,⟨some (12,false),.un (some 18) .not (.r 17)⟩,⟨none,.pick (some 19) (.r 12) (.c (.lit (.bool true))) (.r 18)⟩,vv 20 19,⟨some (20,false),.mv (some 21) (.r 0)⟩,⟨some (20,false),.call (some 22) true (.f 19) [(.r 21),(.c (.lit (.int .i64 (-1))))]⟩,⟨some (20,false),.bin (some 23) .num .neq (.r 22) (.c (.lit (.int .i64 0)))⟩,⟨none,.pick (some 24) (.r 20) (.c (.lit (.bool true))) (.r 23)⟩,vv 25 24,⟨some (25,false),.mv (some 26) (.r 0)⟩,⟨some (25,false),.addr (some 27) (.r 3) 0⟩,⟨some (25,false),.load (some 28) (.r 27) none⟩,⟨some (25,false),.len (some 29) .sl (.r 28)⟩,⟨some (25,false),.call (some 30) true (.f 19) [(.r 26),(.r 29)]⟩,⟨some (25,false),.bin (some 31) .num .neq (.r 30) (.c (.lit (.int .i64 0)))⟩,⟨none,.pick (some 32) (.r 25) (.c (.lit (.bool true))) (.r 31)⟩,vv 33 32,⟨some (33,false),.mv (some 34) (.r 0)⟩,⟨some (33,false),.call (some 35) true (.f 21) [(.r 34),(.c (.lit (.int .i64 (-1))))]⟩,⟨none,.pick (some 36) (.r 33) (.c (.lit (.bool true))) (.r 35)⟩,vv 37 36,⟨some (37,false),.mv (some 38) (.r 0)⟩,⟨some (37,false),.addr (some 39) (.r 3) 0⟩,⟨some (37,false),.load (some 40) (.r 39) none⟩,⟨some (37,false),.len (some 41) .sl (.r 40)⟩] [⟨some (37,false),.call (some 42) false (.f 21) [(.r 38),(.r 41)]⟩,⟨none,.pick (some 43) (.r 37) (.c (.lit (.bool true))) (.r 42)⟩]
abbrev f24_15:AC:=.seq (.ops [0,3,5,48] [3] [vv 44 5,vd 45 3 0,vl 46 45,⟨none,.len (some 47) .sl (.r 46)⟩,⟨none,.bin (some 48) .num .lss (.r 44) (.r 47)⟩]) (.cond (.r 48) .skip (.exit [] [] 0))
abbrev f24_21:AC:=.draw [0,3,5,73] [3] [] [vv 51 0,vv 52 5,⟨none,.call (some 53) true (.f 19) [(.r 51),(.r 52)]⟩,vd 54 3 0,vl 55 54,vv 56 5,⟨none,.ixS (some 57) (.r 55) (.r 56) 3⟩,vd 58 57 1,vl 59 58,⟨none,.len (some 60) .sl (.r 59)⟩,⟨none,.bin (some 61) .num .neq (.r 53) (.r 60)⟩,vv 62 61,⟨some (62,false),.mv (some 63) (.r 0)⟩,⟨some (62,false),.mv (some 64) (.r 5)⟩,⟨some (62,false),.call (some 65) true (.f 21) [(.r 63),(.r 64)]⟩,⟨some (62,false),.addr (some 66) (.r 3) 0⟩,⟨some (62,false),.load (some 67) (.r 66) none⟩,⟨some (62,false),.mv (some 68) (.r 5)⟩,⟨some (62,false),.ixS (some 69) (.r 67) (.r 68) 3⟩,⟨some (62,false),.addr (some 70) (.r 69) 2⟩,⟨some (62,false),.load (some 71) (.r 70) none⟩] [⟨some (62,false),.bin (some 72) .bool .neq (.r 65) (.r 71)⟩,⟨none,.pick (some 73) (.r 62) (.c (.lit (.bool true))) (.r 72)⟩]
abbrev f24_18:AC:=.seq (.block 1 (.seq f24_21 (.cond (.r 73) (.seq (.ops [4] [] [⟨none,.mv (some 4) (.c (.lit (.bool false)))⟩]) .ret) .skip))) (.ops [0,3,5] [3] [vv 49 5,vb 50 .add 49 1,vo 5 50])
abbrev f24_14:AC:=.seq f24_15 f24_18
def f24_13:AC:=.loop [0,3,5] [3] f24_14
theorem f24_13w:aC P id m f24_13 sf st Q = aE (aC P id m f24_14) [0,3,5] [3] sf st Q:=rfl
abbrev f24_9:AC:=.seq (.seq (.ops [0,3,5] [3] [⟨none,.mv (some 5) (.c (.lit (.int .i64 0)))⟩]) (.block 0 f24_13)) (.seq (.ops [4] [] [⟨none,.mv (some 4) (.c (.lit (.bool true)))⟩]) .ret)
abbrev f24_1:AC:=.seq (.ops [0,3] [3] [⟨none,.boxL 3 2 (.r 1)⟩,⟨none,.mv (some 4) (.c (.lit (.bool false)))⟩]) (.seq (.seq f24_5 (.cond (.r 43) (.seq (.ops [4] [] [⟨none,.mv (some 4) (.c (.lit (.bool false)))⟩]) .ret) .skip)) f24_9)
def c_f24:AFun:=⟨74,[.tmp 4],f24_1⟩
theorem k_f24:kX x_f24 24 c_f24:=by delta kX; kernel_rfl
theorem e_f24:eX 24:=by delta eX; kernel_rfl

def n_f25:Nat:=25
def x_f25:=xX 106 [0,1,2,7,8,10,11,14,15,16,17,19,20,22,24,26,29,30,32,33,35,36,37,38,39,41,44,45,47,48,49,50,51,52,54,55,56,57,58,59,61,64,65,66,67,69,70,71,73,75,76,77,78,79,80,81,82,83,84,85,86,87,88,89,91,92,94,95,97,98,101,102,104,105] [30,76,81,100] [(2,[0,2,4,6],[4,6]),(12,[0,2,4,6,8],[4,6]),(26,[0,2,4,6,8],[4,6]),(208,[0,2,4,6,8,18],[4,6]),(419,[4,6],[4,6]),(840,[0,2,4,6,8,9],[4,6,9]),(1682,[0,2,4,6,8,9],[4,6,9]),(3366,[0,2,4,6,8,9,10,11],[4,6,9]),(13468,[0,2,4,6,8,9,10,11,46],[4,6,9]),(53876,[0,2,4,6,8,9,53],[4,6,9]),(215508,[6,7],[6]),(53878,[0,2,4,6,8,9,68],[4,6,9]),(215516,[6,7],[6]),(13470,[0,2,4,6,8,9,12,13],[4,6,9,12,13]),(53884,[0,2,4,6,8,9,12,90],[4,6,9,12]),(215540,[6,7],[6]),(107772,[0,2,4,6,8,9,12,14],[4,6,9,12]),(215546,[0,2,4,6,8,9,12,14],[4,6,9,12]),(1724368,[0,2,4,6,8,9,12,14,96],[4,6,9,12]),(3448739,[0,2,4,6,8,12],[4,6,12]),(3448740,[0,2,4,6,8,9,12,14],[4,6,9,12]),(1724371,[0,2,4,6,8,9,12,14],[4,6,9,12]),(53887,[0,2,4,6,8],[4,6]),(211,[0,2,4,6,8],[4,6]),(14,[6,7],[6])]
abbrev f25_2:AC:=.ops [0,2,4,6] [4,6] [⟨none,.boxL 4 2 (.r 1)⟩,⟨none,.newL 6 [(.lit (.slice none 0 0)),(.lit (.slice none 0 0))]⟩,⟨none,.mv (some 7) (.c (.lit (.bool false)))⟩]
abbrev f25_9:AC:=.seq (.ops [0,2,4,6,8,18] [4,6] [vv 15 8,vv 16 2,⟨none,.len (some 17) .sl (.r 16)⟩,⟨none,.bin (some 18) .num .lss (.r 15) (.r 17)⟩]) (.cond (.r 18) .skip (.exit [4,6] [4,6] 0))
abbrev f25_15:AC:=.ops [0,2,4,6,8,9] [4,6,9] [vv 21 2,vv 22 8,⟨none,.ixS (some 23) (.r 21) (.r 22) 5⟩,⟨none,.load (some 24) (.r 23) (some 5)⟩,⟨none,.newL 9 [(.lit (.int .i64 0)),(.lit (.int .i64 0)),(.lit (.int .i64 0)),(.lit (.slice none 0 0)),(.lit (.bool false))]⟩,⟨none,.store 5 (.r 9) (.r 24)⟩]
abbrev f25_17:AC:=.ops [0,2,4,6,8,9] [4,6,9] [vv 25 2,vv 26 8,⟨none,.ixS (some 27) (.r 25) (.r 26) 5⟩,vd 28 27 3,vl 29 28,⟨none,.x (some 30) (.appB (.c (.lit (.slice none 0 0))) 3 24 (.r 29))⟩,vd 31 9 3,⟨none,.store 1 (.r 31) (.r 30)⟩]
abbrev f25_19:AC:=.ops [0,2,4,6,8,9,10,11] [4,6,9] [vv 33 0,vd 34 9 3,vl 35 34,⟨none,.call (some 36) false (.f 27) [(.r 33),(.r 35)]⟩,vv 32 36,ve 37 32 0,ve 38 32 1,vo 10 37,vo 11 38]
abbrev f25_22:AC:=.draw [0,2,4,6,8,9,10,11,46] [4,6,9] [] [⟨none,.load (some 39) (.r 4) (some 2)⟩,vv 40 2,vv 41 8,⟨none,.ixS (some 42) (.r 40) (.r 41) 5⟩,vd 43 42 3,vl 44 43] [⟨none,.call (some 45) false (.f 28) [(.r 39),(.r 44)]⟩,⟨none,.un (some 46) .not (.r 45)⟩]
abbrev f25_25:AC:=.ops [0,2,4,6,8,9,53] [4,6,9] [vv 47 10,⟨none,.len (some 48) .sl (.r 47)⟩,vb 49 .neq 48 0,vv 50 49,⟨some (50,false),.mv (some 51) (.r 11)⟩,⟨some (50,false),.bin (some 52) .num .neq (.r 51) (.c (.lit (.int .i64 2)))⟩,⟨none,.pick (some 53) (.r 50) (.c (.lit (.bool true))) (.r 52)⟩]
abbrev f25_26:AC:=.cond (.r 53) (.seq (.ops [6,7] [6] [⟨none,.load (some 54) (.r 4) (some 2)⟩,⟨none,.store 2 (.r 6) (.r 54)⟩,⟨none,.mv (some 7) (.c (.lit (.bool false)))⟩]) .ret) .skip
abbrev f25_30:AC:=.draw [0,2,4,6,8,9,68] [4,6,9] [] [vv 55 11,vb 56 .neq 55 0,vv 57 56,⟨some (57,false),.mv (some 58) (.r 10)⟩,⟨some (57,false),.load (some 59) (.r 4) (some 2)⟩,⟨some (57,false),.mv (some 60) (.r 2)⟩,⟨some (57,false),.mv (some 61) (.r 8)⟩,⟨some (57,false),.ixS (some 62) (.r 60) (.r 61) 5⟩,⟨some (57,false),.addr (some 63) (.r 62) 3⟩,⟨some (57,false),.load (some 64) (.r 63) none⟩,⟨some (57,false),.call (some 65) true (.f 49) [(.r 59),(.r 64)]⟩] [⟨some (57,false),.call (some 66) false (.f 47) [(.r 58),(.r 65)]⟩,⟨some (57,false),.un (some 67) .not (.r 66)⟩,⟨none,.pick (some 68) (.r 57) (.c (.lit (.bool true))) (.r 67)⟩]
abbrev f25_31:AC:=.cond (.r 68) (.seq (.ops [6,7] [6] [⟨none,.load (some 69) (.r 4) (some 2)⟩,⟨none,.store 2 (.r 6) (.r 69)⟩,⟨none,.mv (some 7) (.c (.lit (.bool false)))⟩]) .ret) .skip
abbrev f25_35:AC:=.drawM [0,2,4,6,8,9,12,13] [4,6,9,12,13] [⟨none,.load (some 71) (.r 4) (some 2)⟩,vv 72 2,vv 73 8,⟨none,.ixS (some 74) (.r 72) (.r 73) 5⟩,⟨none,.load (some 75) (.r 74) (some 5)⟩] (some 76) (.f 50) [(.r 71),(.r 75)] [(true,vv 70 76),(true,ve 77 70 0),(true,ve 78 70 1),(false,⟨none,.newL 12 [(.lit (.slice none 0 0)),(.lit (.slice none 0 0))]⟩),(false,⟨none,.newL 13 [(.lit (.int .i64 0)),(.lit (.int .i64 0)),(.lit (.int .i64 0)),(.lit (.int .i64 0)),(.lit (.bool false)),(.lit (.slice none 0 0)),(.lit (.int .i64 0))]⟩),(true,⟨none,.store 2 (.r 12) (.r 77)⟩)] [⟨none,.store 7 (.r 13) (.r 78)⟩]
abbrev f25_38:AC:=.drawM [0,2,4,6,8,9,12,90] [4,6,9,12] [vv 79 0,⟨none,.load (some 80) (.r 9) (some 5)⟩] (some 81) (.f 13) [(.r 79),(.r 80)] [(false,⟨none,.load (some 82) (.r 13) (some 7)⟩),(true,⟨none,.call (some 83) true (.f 18) [(.r 81),(.r 82)]⟩),(true,⟨none,.un (some 84) .not (.r 83)⟩),(true,vv 85 84),(true,⟨some (85,false),.mv (some 86) (.r 0)⟩),(true,⟨some (85,false),.load (some 87) (.r 12) (some 2)⟩)] [⟨some (85,false),.call (some 88) false (.f 24) [(.r 86),(.r 87)]⟩,⟨some (85,false),.un (some 89) .not (.r 88)⟩,⟨none,.pick (some 90) (.r 85) (.c (.lit (.bool true))) (.r 89)⟩]
abbrev f25_39:AC:=.cond (.r 90) (.seq (.ops [6,7] [6] [⟨none,.load (some 91) (.r 4) (some 2)⟩,⟨none,.store 2 (.r 6) (.r 91)⟩,⟨none,.mv (some 7) (.c (.lit (.bool false)))⟩]) .ret) .skip
abbrev f25_49:AC:=.ops [0,2,4,6,8,9,12,14,96] [4,6,9,12] [vv 92 14,vd 93 9 3,vl 94 93,⟨none,.len (some 95) .sl (.r 94)⟩,⟨none,.bin (some 96) .num .lss (.r 92) (.r 95)⟩]
abbrev f25_53:AC:=.ops [0,2,4,6,8,9,12,14] [4,6,9,12] [vd 99 9 3,vl 100 99,vv 101 14,⟨none,.bst (some 102) [(0,1),(1,1),(2,1)] (.agg [(.lit (.int .i64 0)),(.lit (.bool false)),(.lit (.int .i64 0))]) [(0,(.c (.lit (.int .i64 (-1)))))]⟩,⟨none,.ixS (some 103) (.r 100) (.r 101) 3⟩,⟨none,.store 3 (.r 103) (.r 102)⟩]
abbrev f25_47:AC:=.seq (.seq f25_49 (.cond (.r 96) .skip (.exit [0,2,4,6,8,12] [4,6,12] 2))) (.seq (.block 3 f25_53) (.ops [0,2,4,6,8,9,12,14] [4,6,9,12] [vv 97 14,vb 98 .add 97 1,vo 14 98]))
def f25_46:AC:=.loop [0,2,4,6,8,9,12,14] [4,6,9,12] f25_47
theorem f25_46w:aC P id m f25_46 sf st Q = aE (aC P id m f25_47) [0,2,4,6,8,9,12,14] [4,6,9,12] sf st Q:=rfl
abbrev f25_42:AC:=.seq (.seq (.ops [0,2,4,6,8,9,12,14] [4,6,9,12] [⟨none,.mv (some 14) (.c (.lit (.int .i64 0)))⟩]) (.block 2 f25_46)) (.ops [0,2,4,6,8] [4,6] [⟨none,.load (some 104) (.r 12) (some 2)⟩,⟨none,.store 2 (.r 4) (.r 104)⟩])
abbrev f25_36:AC:=.seq (.seq f25_38 f25_39) f25_42
def f25_34:AC:=.seq f25_35 f25_36
theorem f25_34e:SQ f25_34 f25_35 f25_36:=rfl
def f25_56l:List GI:=[vv 19 8,
    vb 20 .add 19 1,
    vo 8 20]
def f25_56:AC:=.ops [0,2,4,6,8] [4,6] f25_56l
theorem f25_56e:OP f25_56 f25_56l [0,2,4,6,8] [4,6]:=rfl
abbrev f25_8:AC:=.seq f25_9 (.seq (.block 1 (.seq f25_15 (.seq f25_17 (.seq f25_19 (.seq (.seq f25_22 (.cond (.r 46) (.seq f25_25 f25_26) (.seq f25_30 f25_31))) f25_34))))) f25_56)
def f25_7:AC:=.loop [0,2,4,6,8] [4,6] f25_8
theorem f25_7w:aC P id m f25_7 sf st Q = aE (aC P id m f25_8) [0,2,4,6,8] [4,6] sf st Q:=rfl
abbrev f25_57:AC:=.seq (.ops [6,7] [6] [⟨none,.load (some 105) (.r 4) (some 2)⟩,⟨none,.store 2 (.r 6) (.r 105)⟩,⟨none,.mv (some 7) (.c (.lit (.bool true)))⟩]) .ret
abbrev f25_1:AC:=.seq f25_2 (.seq (.seq (.ops [0,2,4,6,8] [4,6] [⟨none,.mv (some 8) (.c (.lit (.int .i64 0)))⟩]) (.block 0 f25_7)) f25_57)
def c_f25:AFun:=⟨106,[.cell 6 (some 2),.tmp 7],f25_1⟩
theorem k_f25:kX x_f25 25 c_f25:=by delta kX; kernel_rfl
theorem e_f25:eX 25:=by delta eX; kernel_rfl

def n_f26:Nat:=26
def x_f26:=xX 10 [0,2,3,8,9] [] [(2,[0],[]),(12,[0,4],[]),(52,[2],[]),(14,[2],[])]
abbrev f26_4:AC:=.seq (.ops [0,4] [] [vv 3 0,⟨none,.call (some 4) false (.f 51) [(.r 3)]⟩]) (.cond (.r 4) (.seq (.ops [2] [] [⟨none,.mv (some 2) (.c (.lit (.slice none 0 0)))⟩]) .ret) .skip)
abbrev f26_1:AC:=.seq (.ops [0] [] [⟨none,.mv (some 2) (.c (.lit (.slice none 0 0)))⟩]) (.seq f26_4 (.seq (.ops [2] [] [vv 5 0,vn 6 5,vd 7 6 1,vl 8 7,⟨none,.call (some 9) false (.f 52) [(.r 8)]⟩,vo 2 9]) .ret))
def c_f26:AFun:=⟨10,[.tmp 2],f26_1⟩
theorem k_f26:kX x_f26 26 c_f26:=by delta kX; kernel_rfl
theorem e_f26:eX 26:=by delta eX; kernel_rfl

def n_f27:Nat:=27
def x_f27:=xX 15 [0,1,4,5,6,8,9,10,12,13,14] [] [(2,[0,1],[]),(12,[0,1,7],[]),(52,[4,5],[]),(28,[0,1,11],[]),(116,[4,5],[]),(30,[4,5],[])]
abbrev f27_4:AC:=.seq (.ops [0,1,7] [] [vv 6 0,⟨none,.call (some 7) false (.f 51) [(.r 6)]⟩]) (.cond (.r 7) (.seq (.ops [4,5] [] [⟨none,.mv (some 4) (.c (.lit (.slice none 0 0)))⟩,⟨none,.mv (some 5) (.c (.lit (.int .i64 1)))⟩]) .ret) .skip)
abbrev f27_10:AC:=.seq (.ops [0,1,11] [] [vv 8 0,vv 9 1,⟨none,.call (some 10) false (.f 53) [(.r 8),(.r 9)]⟩,⟨none,.un (some 11) .not (.r 10)⟩]) (.cond (.r 11) (.seq (.ops [4,5] [] [⟨none,.mv (some 4) (.c (.lit (.slice none 0 0)))⟩,⟨none,.mv (some 5) (.c (.lit (.int .i64 2)))⟩]) .ret) .skip)
abbrev f27_15:AC:=.seq (.ops [4,5] [] [vv 12 0,vv 13 1,⟨none,.call (some 14) false (.f 54) [(.r 12),(.r 13)]⟩,vo 4 14,⟨none,.mv (some 5) (.c (.lit (.int .i64 0)))⟩]) .ret
abbrev f27_1:AC:=.seq (.ops [0,1] [] [⟨none,.mv (some 4) (.c (.lit (.slice none 0 0)))⟩,⟨none,.mv (some 5) (.c (.lit (.int .i64 0)))⟩]) (.seq f27_4 (.seq f27_10 f27_15))
def c_f27:AFun:=⟨15,[.tmp 4,.tmp 5],f27_1⟩
theorem k_f27:kX x_f27 27 c_f27:=by delta kX; kernel_rfl
theorem e_f27:eX 27:=by delta eX; kernel_rfl

def n_f28:Nat:=28
def x_f28:=xX 54 [0,1,4,5,6,7,8,9,11,12,14,17,18,19,21,24,26,27,28,30,31,33,34,36,39,41,44,46,47,48,49,50,51,52,53] [] [(2,[1,2],[2]),(12,[1,2,5],[2]),(26,[1,2,5],[2]),(208,[1,2,5,10],[2]),(419,[1],[]),(1680,[1,2,5,29],[2]),(6724,[4],[]),(1682,[1,2,5,6],[2]),(3366,[1,2,5,6],[2]),(26928,[1,2,5,6,32],[2]),(53859,[1,2,5],[2]),(107720,[1,2,5,6,45],[2]),(430884,[4],[]),(26931,[1,2,5,6],[2]),(211,[1,2,5],[2]),(14,[4],[])]
abbrev f28_9:AC:=.seq (.ops [1,2,5,10] [2] [vv 7 5,vv 8 1,⟨none,.len (some 9) .sl (.r 8)⟩,⟨none,.bin (some 10) .num .lss (.r 7) (.r 9)⟩]) (.cond (.r 10) .skip (.exit [1] [] 0))
abbrev f28_16:AC:=.draw [1,2,5,29] [2] [] [vv 13 1,vv 14 5,⟨none,.ixS (some 15) (.r 13) (.r 14) 3⟩,vd 16 15 0,vl 17 16,vb 18 .lss 17 0,vv 19 18,⟨some (19,false),.mv (some 20) (.r 1)⟩,⟨some (19,false),.mv (some 21) (.r 5)⟩,⟨some (19,false),.ixS (some 22) (.r 20) (.r 21) 3⟩,⟨some (19,false),.addr (some 23) (.r 22) 0⟩,⟨some (19,false),.load (some 24) (.r 23) none⟩,⟨some (19,false),.addr (some 25) (.r 2) 0⟩,⟨some (19,false),.load (some 26) (.r 25) none⟩,⟨some (19,false),.len (some 27) .sl (.r 26)⟩] [⟨some (19,false),.bin (some 28) .num .geq (.r 24) (.r 27)⟩,⟨none,.pick (some 29) (.r 19) (.c (.lit (.bool true))) (.r 28)⟩]
abbrev f28_31:AC:=.draw [1,2,5,6,45] [2] [] [vv 35 1,vv 36 6,⟨none,.ixS (some 37) (.r 35) (.r 36) 3⟩,vd 38 37 0,vl 39 38,vv 40 1,vv 41 5,⟨none,.ixS (some 42) (.r 40) (.r 41) 3⟩,vd 43 42 0,vl 44 43] [⟨none,.bin (some 45) .num .eql (.r 39) (.r 44)⟩]
abbrev f28_28:AC:=.seq (.block 3 (.seq f28_31 (.cond (.r 45) (.seq (.ops [4] [] [⟨none,.mv (some 4) (.c (.lit (.bool false)))⟩]) .ret) .skip))) (.ops [1,2,5,6] [2] [vv 33 6,vb 34 .add 33 1,vo 6 34])
abbrev f28_24:AC:=.seq (.seq (.ops [1,2,5,6,32] [2] [vv 30 6,vv 31 5,⟨none,.bin (some 32) .num .lss (.r 30) (.r 31)⟩]) (.cond (.r 32) .skip (.exit [1,2,5] [2] 2))) f28_28
def f28_23:AC:=.loop [1,2,5,6] [2] f28_24
theorem f28_23w:aC P id m f28_23 sf st Q = aE (aC P id m f28_24) [1,2,5,6] [2] sf st Q:=rfl
abbrev f28_14:AC:=.seq (.seq f28_16 (.cond (.r 29) (.seq (.ops [4] [] [⟨none,.mv (some 4) (.c (.lit (.bool false)))⟩]) .ret) .skip)) (.seq (.ops [1,2,5,6] [2] [⟨none,.mv (some 6) (.c (.lit (.int .i64 0)))⟩]) (.block 2 f28_23))
abbrev f28_8:AC:=.seq f28_9 (.seq (.block 1 f28_14) (.ops [1,2,5] [2] [vv 11 5,vb 12 .add 11 1,vo 5 12]))
def f28_7:AC:=.loop [1,2,5] [2] f28_8
theorem f28_7w:aC P id m f28_7 sf st Q = aE (aC P id m f28_8) [1,2,5] [2] sf st Q:=rfl
abbrev f28_38:AC:=.ops [4] [] [vv 46 1,⟨none,.len (some 47) .sl (.r 46)⟩,vb 48 .geq 47 1,vv 49 48,⟨some (49,true),.mv (some 50) (.r 1)⟩,⟨some (49,true),.len (some 51) .sl (.r 50)⟩,⟨some (49,true),.bin (some 52) .num .leq (.r 51) (.c (.lit (.int .i64 16)))⟩,⟨none,.pick (some 53) (.r 49) (.r 52) (.c (.lit (.bool false)))⟩,vo 4 53]
abbrev f28_1:AC:=.seq (.ops [1,2] [2] [⟨none,.boxL 2 2 (.r 0)⟩,⟨none,.mv (some 4) (.c (.lit (.bool false)))⟩]) (.seq (.seq (.ops [1,2,5] [2] [⟨none,.mv (some 5) (.c (.lit (.int .i64 0)))⟩]) (.block 0 f28_7)) (.seq f28_38 .ret))
def c_f28:AFun:=⟨54,[.tmp 4],f28_1⟩
theorem k_f28:kX x_f28 28 c_f28:=by delta kX; kernel_rfl
theorem e_f28:eX 28:=by delta eX; kernel_rfl

def n_f29:Nat:=29
def x_f29:=xX 57 [0,2,3,5,6,7,8,13,14,15,16,17,21,22,23,26,31,32,33,34,35,38,42,43,44,46,47,48,52,53,54,55,56] [33,35] [(3000000019,[27,28,32,49,53,54],[]),(2,[0],[]),(12,[0,9],[]),(52,[2],[]),(14,[0,3],[]),(60,[0,3,21,22,23],[]),(122,[0,3,21,22,23],[]),(488,[0,3,21,22,23,24],[]),(1957,[0,3],[]),(7832,[0,3,5,21,22,23],[]),(7833,[0,3,21,22,23],[]),(1959,[0,3,21,22,23],[]),(124,[3,43],[]),(250,[3,43],[]),(1000,[3,43,45],[]),(4005,[3],[]),(8012,[3,6,7,43],[]),(8013,[3,43],[]),(126,[2],[])]
abbrev f29_4:AC:=.seq (.ops [0,9] [] [vv 8 0,⟨none,.call (some 9) false (.f 51) [(.r 8)]⟩]) (.cond (.r 9) (.seq (.ops [2] [] [⟨none,.mv (some 2) (.c (.lit (.pointer none)))⟩]) .ret) .skip)
abbrev f29_10:AC:=.ops [0,3] [] [vv 10 0,vn 11 10,vd 12 11 1,vl 13 12,⟨none,.call (some 14) false (.f 52) [(.r 13)]⟩,⟨none,.mkmap 15⟩,⟨none,.bst (some 16) [(0,1),(1,1),(2,1)] (.agg [(.lit (.slice none 0 0)),(.lit (.slice none 0 0)),(.lit (.map none))]) [(1,(.r 14)),(2,(.r 15))]⟩,⟨none,.boxB 17 3 (.r 16)⟩,vo 3 17]
abbrev f29_13:AC:=.ops [0,3,21,22,23] [] [vv 18 0,vn 19 18,vd 20 19 0,vl 21 20,⟨none,.len (some 22) .sl (.r 21)⟩,⟨none,.mv (some 23) (.c (.lit (.int .i64 0)))⟩]
abbrev f29_24:AC:=.drawM [0,3,21,22,23] [] [vv 27 3,vv 28 3,vn 29 28,vd 30 29 0,vl 31 30,vv 32 5] (some 33) (.f 55) [(.r 32)] [(true,⟨none,.bsl (some 34) 1 1 (.lit (.pointer none)) [(0,(.r 33))]⟩)] [⟨none,.x (some 35) (.appB (.r 31) 1 8 (.r 34))⟩,vn 36 27,vd 37 36 0,⟨none,.store 1 (.r 37) (.r 35)⟩]
abbrev f29_20:AC:=.seq (.block 1 (.seq (.ops [0,3,5,21,22,23] [] [⟨none,.ixS (some 25) (.r 21) (.r 23) 1⟩,vl 26 25,vo 5 26]) f29_24)) (.ops [0,3,21,22,23] [] [vb 38 .add 23 1,vv 23 38])
abbrev f29_16:AC:=.seq (.ops [0,3,21,22,23,24] [] [⟨none,.bin (some 24) .num .lss (.r 23) (.r 22)⟩]) (.seq (.cond (.r 24) .skip (.exit [0,3] [] 0)) f29_20)
def f29_15:AC:=.loop [0,3,21,22,23] [] f29_16
theorem f29_15w:aC P id m f29_15 sf st Q = aE (aC P id m f29_16) [0,3,21,22,23] [] sf st Q:=rfl
abbrev f29_38:AC:=.draw [3,43] [] [] [vv 49 3,vn 50 49,vd 51 50 2,vl 52 51,vv 53 6,vv 54 7,⟨none,.call (some 55) true (.f 56) [(.r 54)]⟩] [⟨none,.upd (.int .i64) (.r 52) (.r 53) (.r 55)⟩]
abbrev f29_33:AC:=.seq (.cond (.r 45) .skip (.exit [3] [] 2)) (.block 3 (.seq (.ops [3,6,7,43] [] [⟨none,.x (some 46) (.ent 43)⟩,ve 47 46 0,ve 48 46 1,vo 6 47,vo 7 48]) f29_38))
abbrev f29_31:AC:=.seq (.ops [3,43,45] [] [⟨none,.x (some 44) (.nxt 43)⟩,ve 45 44 0]) f29_33
def f29_30:AC:=.loop [3,43] [] f29_31
theorem f29_30w:aC P id m f29_30 sf st Q = aE (aC P id m f29_31) [3,43] [] sf st Q:=rfl
abbrev f29_26:AC:=.seq (.seq (.ops [3,43] [] [vv 39 0,vn 40 39,vd 41 40 2,vl 42 41,⟨none,.x (some 43) (.rng (.r 42))⟩]) (.block 2 f29_30)) (.seq (.ops [2] [] [vv 56 3,vo 2 56]) .ret)
abbrev f29_1:AC:=.seq (.ops [0] [] [⟨none,.mv (some 2) (.c (.lit (.pointer none)))⟩]) (.seq f29_4 (.seq f29_10 (.seq (.seq f29_13 (.block 0 f29_15)) f29_26)))
def c_f29:AFun:=⟨57,[.tmp 2],f29_1⟩
theorem k_f29:kX x_f29 29 c_f29:=by delta kX; kernel_rfl
theorem e_f29:eX 29:=by delta eX; kernel_rfl

def n_f30:Nat:=30
def x_f30:=xX 161 [0,1,2,3,4,11,12,13,16,20,22,23,24,25,26,27,28,29,30,31,32,33,34,35,36,37,39,40,44,45,46,47,48,50,51,52,53,54,55,57,59,60,61,62,65,73,75,76,78,85,87,88,90,94,95,96,97,102,103,104,105,108,109,111,112,113,114,116,117,120,122,125,131,133,135,136,137,138,140,146,148,149,150,151,152,155,156,158,159,160] [105,160] [(3000000019,[68,76,80,88,91,95,96,126,125,137,138,12,141,140,150,151,152,12,156,159,11,12,13],[]),(2,[0,1,2,3,4,10],[10]),(12,[0,1,2,3,4,10,21],[10]),(52,[10,11,12,13],[10]),(28,[0,1,2,3,4,10,38],[10]),(116,[10,11,12,13],[10]),(60,[0,1,2,3,4,10,15],[10]),(122,[0,1,2,3,4,10,49],[10]),(492,[10,11,12,13],[10]),(62,[0,1,2,3,4,10,16],[10]),(252,[0,1,2,3,4,10,16,56],[10]),(2024,[0,1,2,10,58],[10]),(8100,[10,11,12,13],[10]),(4052,[0,1,2,10,60,61,62],[10]),(8106,[0,1,2,10,60,61,62],[10]),(32424,[0,1,2,10,60,61,62,63],[10]),(129701,[0,1,2,10],[10]),(518808,[0,1,2,10,18,60,61,62],[10,18]),(1037618,[0,1,2,10,18,60,61,62,67],[10,18]),(2075238,[0,1,2,10,60,61,62],[10]),(2075239,[0,1,2,10,60,61,62],[10]),(129703,[0,1,2,10,60,61,62],[10]),(4054,[0,1,10],[10]),(8110,[10],[10]),(16222,[10,11,12,13],[10]),(254,[0,2,10],[10]),(510,[0,10,19],[10,19]),(2044,[0,10,19,124],[10,19]),(4090,[0,10,12,19],[10,19]),(4091,[0,10,12,19],[10,19]),(2046,[10,11,12,13],[10])]
abbrev f30_2:AC:=.ops [0,1,2,3,4,10] [10] [⟨none,.newL 10 [(.lit (.int .i64 0)),(.lit (.int .i64 0)),(.lit (.int .i64 0)),(.lit (.int .i64 0))]⟩,⟨none,.mv (some 11) (.c (.lit (.bool false)))⟩,⟨none,.mv (some 12) (.c (.lit (.slice none 0 0)))⟩,⟨none,.mv (some 13) (.c (.lit (.int .i64 0)))⟩]
abbrev f30_8:AC:=.ops [10,11,12,13] [10] [⟨none,.bst (some 22) [(0,1),(1,1),(2,1),(3,1)] (.agg [(.lit (.int .i64 0)),(.lit (.int .i64 0)),(.lit (.int .i64 0)),(.lit (.int .i64 0))]) []⟩,⟨none,.store 4 (.r 10) (.r 22)⟩,⟨none,.mv (some 11) (.c (.lit (.bool false)))⟩,⟨none,.mv (some 12) (.c (.lit (.slice none 0 0)))⟩,⟨none,.mv (some 13) (.c (.lit (.int .i64 1)))⟩]
abbrev f30_11:AC:=.ops [0,1,2,3,4,10,38] [10] [vv 23 1,vb 24 .lss 23 0,vv 25 24,⟨some (25,false),.mv (some 26) (.r 1)⟩,⟨some (25,false),.bin (some 27) .num .geq (.r 26) (.c (.lit (.int .i64 64)))⟩,⟨none,.pick (some 28) (.r 25) (.c (.lit (.bool true))) (.r 27)⟩,vv 29 28,⟨some (29,false),.mv (some 30) (.r 0)⟩,⟨some (29,false),.mv (some 31) (.r 2)⟩,⟨some (29,false),.call (some 32) false (.f 53) [(.r 30),(.r 31)]⟩,⟨some (29,false),.un (some 33) .not (.r 32)⟩,⟨none,.pick (some 34) (.r 29) (.c (.lit (.bool true))) (.r 33)⟩,vv 35 34,⟨some (35,false),.mv (some 36) (.r 3)⟩,⟨some (35,false),.bin (some 37) .num .lss (.r 36) (.c (.lit (.int .i64 0)))⟩,⟨none,.pick (some 38) (.r 35) (.c (.lit (.bool true))) (.r 37)⟩]
abbrev f30_14:AC:=.ops [10,11,12,13] [10] [⟨none,.bst (some 39) [(0,1),(1,1),(2,1),(3,1)] (.agg [(.lit (.int .i64 0)),(.lit (.int .i64 0)),(.lit (.int .i64 0)),(.lit (.int .i64 0))]) []⟩,⟨none,.store 4 (.r 10) (.r 39)⟩,⟨none,.mv (some 11) (.c (.lit (.bool false)))⟩,⟨none,.mv (some 12) (.c (.lit (.slice none 0 0)))⟩,⟨none,.mv (some 13) (.c (.lit (.int .i64 2)))⟩]
abbrev f30_17:AC:=.ops [0,1,2,3,4,10,15] [10] [vv 41 0,vn 42 41,vd 43 42 2,vl 44 43,vv 45 1,⟨none,.lookup (some 46) (.int .i64) (.lit (.slice none 0 0)) true (.r 44) (.r 45)⟩,vv 40 46,ve 47 40 0,ve 48 40 1,vo 14 47,vo 15 48]
abbrev f30_22:AC:=.ops [10,11,12,13] [10] [⟨none,.bst (some 50) [(0,1),(1,1),(2,1),(3,1)] (.agg [(.lit (.int .i64 0)),(.lit (.int .i64 0)),(.lit (.int .i64 0)),(.lit (.int .i64 0))]) []⟩,⟨none,.store 4 (.r 10) (.r 50)⟩,⟨none,.mv (some 11) (.c (.lit (.bool false)))⟩,⟨none,.mv (some 12) (.c (.lit (.slice none 0 0)))⟩,⟨none,.mv (some 13) (.c (.lit (.int .i64 11)))⟩]
abbrev f30_34:AC:=.ops [10,11,12,13] [10] [⟨none,.bst (some 59) [(0,1),(1,1),(2,1),(3,1)] (.agg [(.lit (.int .i64 0)),(.lit (.int .i64 0)),(.lit (.int .i64 0)),(.lit (.int .i64 0))]) []⟩,⟨none,.store 4 (.r 10) (.r 59)⟩,⟨none,.mv (some 11) (.c (.lit (.bool false)))⟩,⟨none,.mv (some 12) (.c (.lit (.slice none 0 0)))⟩,⟨none,.mv (some 13) (.c (.lit (.int .i64 16)))⟩]
abbrev f30_47:AC:=.ops [0,1,2,10,18,60,61,62] [10,18] [⟨none,.ixS (some 64) (.r 60) (.r 62) 3⟩,⟨none,.load (some 65) (.r 64) (some 3)⟩,⟨none,.newL 18 [(.lit (.int .i64 0)),(.lit (.bool false)),(.lit (.int .i64 0))]⟩,⟨none,.store 3 (.r 18) (.r 65)⟩]
abbrev f30_51:AC:=.draw [0,1,2,10,60,61,62] [10] [] [vv 68 0,vn 69 68,vd 70 69 0,vl 71 70,vd 72 18 0,vl 73 72,⟨none,.ixS (some 74) (.r 71) (.r 73) 1⟩,vl 75 74,vv 76 1,vd 77 18 2,vl 78 77] [⟨none,.call (some 79) false (.f 14) [(.r 75),(.r 76),(.r 78)]⟩]
abbrev f30_52:AC:=.draw [0,1,2,10,60,61,62] [10] [] [vv 80 0,vn 81 80,vd 82 81 0,vl 83 82,vd 84 18 0,vl 85 84,⟨none,.ixS (some 86) (.r 83) (.r 85) 1⟩,vl 87 86,vv 88 1] [⟨none,.call (some 89) false (.f 15) [(.r 87),(.r 88)]⟩]
def f30_50:AC:=.cond (.r 67) f30_51 f30_52
theorem f30_50e:CN f30_50 67 f30_51 f30_52:=rfl
abbrev f30_44:AC:=.seq (.block 1 (.seq f30_47 (.seq (.ops [0,1,2,10,18,60,61,62,67] [10,18] [vd 66 18 1,vl 67 66]) f30_50))) (.ops [0,1,2,10,60,61,62] [10] [vb 90 .add 62 1,vv 62 90])
abbrev f30_40:AC:=.seq (.ops [0,1,2,10,60,61,62,63] [10] [⟨none,.bin (some 63) .num .lss (.r 62) (.r 61)⟩]) (.seq (.cond (.r 63) .skip (.exit [0,1,2,10] [10] 0)) f30_44)
def f30_39:AC:=.loop [0,1,2,10,60,61,62] [10] f30_40
theorem f30_39w:aC P id m f30_39 sf st Q = aE (aC P id m f30_40) [0,1,2,10,60,61,62] [10] sf st Q:=rfl
abbrev f30_36:AC:=.seq (.ops [0,1,2,10,60,61,62] [10] [vv 60 2,⟨none,.len (some 61) .sl (.r 60)⟩,⟨none,.mv (some 62) (.c (.lit (.int .i64 0)))⟩]) (.block 0 f30_39)
abbrev f30_55:AC:=.draw [0,1,10] [10] [] [vv 91 0,vn 92 91,vd 93 92 2,vl 94 93,vv 95 1,vv 96 2,⟨none,.call (some 97) true (.f 56) [(.r 96)]⟩] [⟨none,.upd (.int .i64) (.r 94) (.r 95) (.r 97)⟩]
abbrev f30_57:AC:=.ops [10] [10] [vv 98 0,vv 99 0,vn 100 99,vd 101 100 1,⟨none,.loadOwn 102 (.r 101)⟩,vv 103 1,⟨none,.bsl (some 104) 1 1 (.lit (.int .i64 0)) [(0,(.r 103))]⟩,⟨none,.x (some 105) (.appB (.r 102) 1 8 (.r 104))⟩,vn 106 98,vd 107 106 1,⟨none,.store 1 (.r 107) (.r 105)⟩]
abbrev f30_59:AC:=.ops [10,11,12,13] [10] [⟨none,.bst (some 108) [(0,1),(1,1),(2,1),(3,1)] (.agg [(.lit (.int .i64 0)),(.lit (.int .i64 0)),(.lit (.int .i64 0)),(.lit (.int .i64 0))]) []⟩,⟨none,.store 4 (.r 10) (.r 108)⟩,⟨none,.mv (some 11) (.c (.lit (.bool false)))⟩,⟨none,.mv (some 12) (.c (.lit (.slice none 0 0)))⟩,⟨none,.mv (some 13) (.c (.lit (.int .i64 0)))⟩]
abbrev f30_29:AC:=.seq (.seq (.ops [0,1,2,10,58] [10] [vv 57 4,⟨none,.un (some 58) .not (.r 57)⟩]) (.cond (.r 58) (.seq f30_34 .ret) .skip)) (.seq f30_36 (.seq f30_55 (.seq f30_57 (.seq f30_59 .ret))))
abbrev f30_61:AC:=.ops [0,2,10] [10] [vv 109 1,vv 110 16,vv 111 3,vv 112 16,⟨none,.len (some 113) .sl (.r 112)⟩,⟨none,.bin (some 114) .num .rem (.r 111) (.r 113)⟩,⟨none,.ixS (some 115) (.r 110) (.r 114) 1⟩,vl 116 115,⟨none,.bst (some 117) [(0,1),(1,1),(2,1),(3,1)] (.agg [(.lit (.int .i64 0)),(.lit (.int .i64 0)),(.lit (.int .i64 0)),(.lit (.int .i64 0))]) [(0,(.r 109)),(1,(.r 116))]⟩,⟨none,.store 4 (.r 10) (.r 117)⟩]
abbrev f30_63:AC:=.ops [0,10,19] [10,19] [vv 118 2,vd 119 10 1,vl 120 119,⟨none,.ixS (some 121) (.r 118) (.r 120) 3⟩,⟨none,.load (some 122) (.r 121) (some 3)⟩,⟨none,.newL 19 [(.lit (.int .i64 0)),(.lit (.bool false)),(.lit (.int .i64 0))]⟩,⟨none,.store 3 (.r 19) (.r 122)⟩]
abbrev f30_68:AC:=.draw [0,10,12,19] [10,19] [] [vv 126 0,vn 127 126,vd 128 127 0,vl 129 128,vd 130 19 0,vl 131 130,⟨none,.ixS (some 132) (.r 129) (.r 131) 1⟩,vl 133 132,vd 134 19 2,vl 135 134] [⟨none,.call (some 136) false (.f 40) [(.r 133),(.r 135)]⟩,vv 125 136,ve 137 125 0,ve 138 125 1,vo 12 137,vd 139 10 3,⟨none,.store 1 (.r 139) (.r 138)⟩]
abbrev f30_69:AC:=.draw [0,10,12,19] [10,19] [] [vv 141 0,vn 142 141,vd 143 142 0,vl 144 143,vd 145 19 0,vl 146 145] [⟨none,.ixS (some 147) (.r 144) (.r 146) 1⟩,vl 148 147,⟨none,.call (some 149) false (.f 42) [(.r 148)]⟩,vv 140 149,ve 150 140 0,ve 151 140 1,ve 152 140 2,vd 153 10 2,⟨none,.store 1 (.r 153) (.r 150)⟩,vo 12 151,vd 154 10 3,⟨none,.store 1 (.r 154) (.r 152)⟩]
abbrev f30_65:AC:=.seq (.ops [0,10,19,124] [10,19] [vd 123 19 1,vl 124 123]) (.cond (.r 124) f30_68 f30_69)
abbrev f30_71:AC:=.drawM [10,11,12,13] [10] [⟨none,.load (some 155) (.r 10) (some 4)⟩,vv 156 0,vd 157 19 0,vl 158 157,vv 159 12] (some 160) (.f 57) [(.r 156),(.r 158),(.r 159)] [] [⟨none,.store 4 (.r 10) (.r 155)⟩,⟨none,.mv (some 11) (.c (.lit (.bool true)))⟩,vo 12 160,⟨none,.mv (some 13) (.c (.lit (.int .i64 0)))⟩]
def f30_70:AC:=.seq f30_71 .ret
theorem f30_70e:SQ f30_70 f30_71 .ret:=rfl
def f30_64:AC:=.seq f30_65 f30_70
theorem f30_64e:SQ f30_64 f30_65 f30_70:=rfl
abbrev f30_25:AC:=.seq (.seq (.ops [0,1,2,3,4,10,16,56] [10] [vv 54 16,⟨none,.len (some 55) .sl (.r 54)⟩,vb 56 .eql 55 0]) (.cond (.r 56) f30_29 .skip)) (.seq f30_61 (.seq f30_63 f30_64))
abbrev f30_15:AC:=.seq (.seq f30_17 (.seq (.ops [0,1,2,3,4,10,49] [10] [vv 49 15]) (.cond (.r 49) (.seq f30_22 .ret) .skip))) (.seq (.ops [0,1,2,3,4,10,16] [10] [vv 51 0,vv 52 2,⟨none,.call (some 53) false (.f 54) [(.r 51),(.r 52)]⟩,vo 16 53]) f30_25)
abbrev f30_3:AC:=.seq (.seq (.ops [0,1,2,3,4,10,21] [10] [vv 20 0,⟨none,.call (some 21) false (.f 51) [(.r 20)]⟩]) (.cond (.r 21) (.seq f30_8 .ret) .skip)) (.seq (.seq f30_11 (.cond (.r 38) (.seq f30_14 .ret) .skip)) f30_15)
abbrev f30_1:AC:=.seq f30_2 f30_3
def c_f30:AFun:=⟨161,[.cell 10 (some 4),.tmp 11,.tmp 12,.tmp 13],f30_1⟩
theorem k_f30:kX x_f30 30 c_f30:=by delta kX; kernel_rfl
theorem e_f30:eX 30:=by delta eX; kernel_rfl

def n_f31:Nat:=31
def x_f31:=xX 10 [0,2,3,8,9] [] [(2,[0],[]),(12,[0,4],[]),(52,[2],[]),(14,[2],[])]
abbrev f31_4:AC:=.seq (.ops [0,4] [] [vv 3 0,⟨none,.call (some 4) false (.f 51) [(.r 3)]⟩]) (.cond (.r 4) (.seq (.ops [2] [] [⟨none,.mv (some 2) (.c (.lit (.int .i64 0)))⟩]) .ret) .skip)
abbrev f31_1:AC:=.seq (.ops [0] [] [⟨none,.mv (some 2) (.c (.lit (.int .i64 0)))⟩]) (.seq f31_4 (.seq (.ops [2] [] [vv 5 0,vn 6 5,vd 7 6 0,vl 8 7,⟨none,.len (some 9) .sl (.r 8)⟩,vo 2 9]) .ret))
def c_f31:AFun:=⟨10,[.tmp 2],f31_1⟩
theorem k_f31:kX x_f31 31 c_f31:=by delta kX; kernel_rfl
theorem e_f31:eX 31:=by delta eX; kernel_rfl

def n_f32:Nat:=32
def x_f32:=xX 22 [0,1,2,6,7,8,9,10,11,12,13,14,15,16,17,18,19,20,21] [] [(2,[0,1,2],[]),(6,[2,7,8],[]),(14,[6],[])]
abbrev f32_6:AC:=.ops [6] [] [vv 15 8,vb 16 .eql 15 0,vv 17 16,⟨some (17,true),.mv (some 18) (.r 7)⟩,⟨some (17,true),.mv (some 19) (.r 2)⟩,⟨some (17,true),.call (some 20) false (.f 47) [(.r 18),(.r 19)]⟩,⟨none,.pick (some 21) (.r 17) (.r 20) (.c (.lit (.bool false)))⟩,vo 6 21]
abbrev f32_3:AC:=.seq (.ops [2,7,8] [] [vv 10 0,vv 11 1,⟨none,.call (some 12) false (.f 27) [(.r 10),(.r 11)]⟩,vv 9 12,ve 13 9 0,ve 14 9 1,vo 7 13,vo 8 14]) (.seq f32_6 .ret)
abbrev f32_1:AC:=.seq (.ops [0,1,2] [] [⟨none,.mv (some 6) (.c (.lit (.bool false)))⟩]) f32_3
def c_f32:AFun:=⟨22,[.tmp 6],f32_1⟩
theorem k_f32:kX x_f32 32 c_f32:=by delta kX; kernel_rfl
theorem e_f32:eX 32:=by delta eX; kernel_rfl

def n_f33:Nat:=33
def x_f33:=xX 5 [0,3,4] [] [(2,[0,2],[2]),(6,[2],[2])]
abbrev f33_4:AC:=.ops [2] [2] [vv 3 0,⟨none,.bst (some 4) [(0,1),(1,1),(2,1)] (.agg [(.lit (.int .i64 0)),(.lit (.bool false)),(.lit (.int .i64 0))]) [(0,(.r 3))]⟩,⟨none,.store 3 (.r 2) (.r 4)⟩]
abbrev f33_1:AC:=.seq (.ops [0,2] [2] [⟨none,.newL 2 [(.lit (.int .i64 0)),(.lit (.bool false)),(.lit (.int .i64 0))]⟩]) (.seq f33_4 .ret)
def c_f33:AFun:=⟨5,[.cell 2 (some 3)],f33_1⟩
theorem k_f33:kX x_f33 33 c_f33:=by delta kX; kernel_rfl
theorem e_f33:eX 33:=by delta eX; kernel_rfl

def n_f34:Nat:=34
def x_f34:=xX 8 [0,1,5,6,7] [] [(2,[0,1,4],[4]),(6,[4],[4])]
abbrev f34_4:AC:=.ops [4] [4] [vv 5 0,vv 6 1,⟨none,.bst (some 7) [(0,1),(1,1),(2,1)] (.agg [(.lit (.int .i64 0)),(.lit (.bool false)),(.lit (.int .i64 0))]) [(0,(.r 5)),(1,(.c (.lit (.bool true)))),(2,(.r 6))]⟩,⟨none,.store 3 (.r 4) (.r 7)⟩]
abbrev f34_1:AC:=.seq (.ops [0,1,4] [4] [⟨none,.newL 4 [(.lit (.int .i64 0)),(.lit (.bool false)),(.lit (.int .i64 0))]⟩]) (.seq f34_4 .ret)
def c_f34:AFun:=⟨8,[.cell 4 (some 3)],f34_1⟩
theorem k_f34:kX x_f34 34 c_f34:=by delta kX; kernel_rfl
theorem e_f34:eX 34:=by delta eX; kernel_rfl

def n_f35:Nat:=35
def x_f35:=xX 22 [0,1,2,3,4,5,12,13,14,15,16,17,18,19,20,21] [19] [(2,[0,1,2,3,5,10],[10]),(6,[12],[])]
abbrev f35_4:AC:=.drawM [12] [] [vv 13 0,vv 14 1,vv 15 2,vv 16 3,vv 17 5,⟨none,.bst (some 18) [(0,1),(1,1),(2,1),(3,1),(4,1)] (.agg [(.lit (.int .i64 0)),(.lit (.int .i64 0)),(.lit (.int .i64 0)),(.lit (.slice none 0 0)),(.lit (.bool false))]) [(1,(.r 14)),(2,(.r 15)),(4,(.r 16)),(3,(.r 17))]⟩] (some 19) (.f 13) [(.r 13),(.r 18)] [(false,⟨none,.load (some 20) (.r 10) (some 7)⟩)] [⟨none,.call (some 21) false (.f 18) [(.r 19),(.r 20)]⟩,vo 12 21]
abbrev f35_1:AC:=.seq (.ops [0,1,2,3,5,10] [10] [⟨none,.boxL 10 7 (.r 4)⟩,⟨none,.mv (some 12) (.c (.lit (.bool false)))⟩]) (.seq f35_4 .ret)
def c_f35:AFun:=⟨22,[.tmp 12],f35_1⟩
theorem k_f35:kX x_f35 35 c_f35:=by delta kX; kernel_rfl
theorem e_f35:eX 35:=by delta eX; kernel_rfl

def n_f36:Nat:=36
def x_f36:=xX 4 [0,1,2,3] [] [(2,[],[]),(6,[0],[])]
abbrev f36_4:AC:=.ops [0] [] [⟨none,.mkmap 1⟩,⟨none,.bst (some 2) [(0,3),(3,1)] (.agg [(.lit (.int .u64 0)),(.lit (.int .u64 0)),(.lit (.int .u64 0)),(.lit (.map none))]) [(1,(.r 1))]⟩,⟨none,.boxB 3 4 (.r 2)⟩,vo 0 3]
abbrev f36_1:AC:=.seq (.ops [] [] [⟨none,.mv (some 0) (.c (.lit (.pointer none)))⟩]) (.seq f36_4 .ret)
def c_f36:AFun:=⟨4,[.tmp 0],f36_1⟩
theorem k_f36:kX x_f36 36 c_f36:=by delta kX; kernel_rfl
theorem e_f36:eX 36:=by delta eX; kernel_rfl

def n_f37:Nat:=37
def x_f37:=xX 29 [0,1,4,6,7,9,10,11,12,13,15,19,20,21,22,23,24,26,27] [] [(2,[0,1],[]),(12,[0,1,8],[]),(52,[4],[]),(28,[0,1,14],[]),(116,[4],[]),(60,[0,1,6],[]),(122,[0,1,25],[]),(492,[4],[]),(62,[],[]),(126,[4],[])]
abbrev f37_4:AC:=.seq (.ops [0,1,8] [] [vv 7 0,⟨none,.call (some 8) false (.f 51) [(.r 7)]⟩]) (.cond (.r 8) (.seq (.ops [4] [] [⟨none,.mv (some 4) (.c (.lit (.int .i64 1)))⟩]) .ret) .skip)
abbrev f37_11:AC:=.ops [0,1,14] [] [vv 9 1,vb 10 .lss 9 0,vv 11 10,⟨some (11,false),.mv (some 12) (.r 1)⟩,⟨some (11,false),.bin (some 13) .num .geq (.r 12) (.c (.lit (.int .i64 64)))⟩,⟨none,.pick (some 14) (.r 11) (.c (.lit (.bool true))) (.r 13)⟩]
abbrev f37_17:AC:=.ops [0,1,6] [] [vv 16 0,vn 17 16,vd 18 17 2,vl 19 18,vv 20 1,⟨none,.lookup (some 21) (.int .i64) (.lit (.slice none 0 0)) true (.r 19) (.r 20)⟩,vv 15 21,ve 22 15 0,ve 23 15 1,vo 5 22,vo 6 23]
abbrev f37_18:AC:=.seq (.ops [0,1,25] [] [vv 24 6,⟨none,.un (some 25) .not (.r 24)⟩]) (.cond (.r 25) (.seq (.ops [4] [] [⟨none,.mv (some 4) (.c (.lit (.int .i64 9)))⟩]) .ret) .skip)
abbrev f37_23:AC:=.seq (.ops [] [] [vv 26 0,vv 27 1,⟨none,.call (some 28) false (.f 58) [(.r 26),(.r 27),(.c (.lit (.int .i64 (-1))))]⟩]) (.seq (.ops [4] [] [⟨none,.mv (some 4) (.c (.lit (.int .i64 0)))⟩]) .ret)
abbrev f37_3:AC:=.seq f37_4 (.seq (.seq f37_11 (.cond (.r 14) (.seq (.ops [4] [] [⟨none,.mv (some 4) (.c (.lit (.int .i64 2)))⟩]) .ret) .skip)) (.seq (.seq f37_17 f37_18) f37_23))
abbrev f37_1:AC:=.seq (.ops [0,1] [] [⟨none,.mv (some 4) (.c (.lit (.int .i64 0)))⟩]) f37_3
def c_f37:AFun:=⟨29,[.tmp 4],f37_1⟩
theorem k_f37:kX x_f37 37 c_f37:=by delta kX; kernel_rfl
theorem e_f37:eX 37:=by delta eX; kernel_rfl

def n_f38:Nat:=38
def x_f38:=xX 37 [0,1,4,5,6,7,8,10,11,12,13,17,18,19,21,26,28,29,30,31,32,33,34,35,36] [] [(2,[0,1],[]),(12,[0,1,9],[]),(52,[4,5],[]),(28,[0,1,20],[]),(116,[4,5],[]),(30,[0,1,6,7],[]),(62,[4,5],[])]
abbrev f38_4:AC:=.seq (.ops [0,1,9] [] [vv 8 0,⟨none,.call (some 9) false (.f 51) [(.r 8)]⟩]) (.cond (.r 9) (.seq (.ops [4,5] [] [⟨none,.mv (some 4) (.c (.lit (.slice none 0 0)))⟩,⟨none,.mv (some 5) (.c (.lit (.int .i64 1)))⟩]) .ret) .skip)
abbrev f38_11:AC:=.ops [0,1,20] [] [vv 10 1,vb 11 .lss 10 0,vv 12 11,⟨some (12,false),.mv (some 13) (.r 1)⟩,⟨some (12,false),.mv (some 14) (.r 0)⟩,⟨some (12,false),.nilck (some 15) (.r 14)⟩,⟨some (12,false),.addr (some 16) (.r 15) 0⟩,⟨some (12,false),.load (some 17) (.r 16) none⟩,⟨some (12,false),.len (some 18) .sl (.r 17)⟩,⟨some (12,false),.bin (some 19) .num .geq (.r 13) (.r 18)⟩,⟨none,.pick (some 20) (.r 12) (.c (.lit (.bool true))) (.r 19)⟩]
abbrev f38_10:AC:=.seq f38_11 (.cond (.r 20) (.seq (.ops [4,5] [] [⟨none,.mv (some 4) (.c (.lit (.slice none 0 0)))⟩,⟨none,.mv (some 5) (.c (.lit (.int .i64 2)))⟩]) .ret) .skip)
abbrev f38_16:AC:=.ops [0,1,6,7] [] [vv 22 0,vn 23 22,vd 24 23 0,vl 25 24,vv 26 1,⟨none,.ixS (some 27) (.r 25) (.r 26) 1⟩,vl 28 27,⟨none,.call (some 29) false (.f 17) [(.r 28)]⟩,vv 21 29,ve 30 21 0,ve 31 21 1,vo 6 30,vo 7 31]
abbrev f38_15:AC:=.seq f38_16 (.seq (.ops [4,5] [] [vv 32 0,vv 33 1,vv 34 6,⟨none,.call (some 35) false (.f 57) [(.r 32),(.r 33),(.r 34)]⟩,vv 36 7,vo 4 35,vo 5 36]) .ret)
abbrev f38_1:AC:=.seq (.ops [0,1] [] [⟨none,.mv (some 4) (.c (.lit (.slice none 0 0)))⟩,⟨none,.mv (some 5) (.c (.lit (.int .i64 0)))⟩]) (.seq f38_4 (.seq f38_10 f38_15))
def c_f38:AFun:=⟨37,[.tmp 4,.tmp 5],f38_1⟩
theorem k_f38:kX x_f38 38 c_f38:=by delta kX; kernel_rfl
theorem e_f38:eX 38:=by delta eX; kernel_rfl

def n_f39:Nat:=39
def x_f39:=xX 27 [0,1,4,8,9,11,12,13,14,15,16,17,21,22,23,24,25] [] [(2,[0,1],[]),(24,[0,1,7],[]),(100,[4],[]),(102,[0,1,10],[]),(412,[4],[]),(28,[6],[]),(58,[26],[]),(236,[4],[]),(30,[4],[])]
abbrev f39_11:AC:=.ops [0,1,10] [] [vv 11 1,vb 12 .lss 11 0,vv 13 12,⟨some (13,false),.mv (some 14) (.r 1)⟩,⟨some (13,false),.bin (some 15) .num .geq (.r 14) (.c (.lit (.int .i64 64)))⟩,⟨none,.pick (some 16) (.r 13) (.c (.lit (.bool true))) (.r 15)⟩,vo 10 16]
abbrev f39_7:AC:=.cond (.r 7) (.seq (.ops [4] [] [⟨none,.mv (some 4) (.c (.lit (.int .i64 1)))⟩]) .ret) (.seq f39_11 (.cond (.r 10) (.seq (.ops [4] [] [⟨none,.mv (some 4) (.c (.lit (.int .i64 2)))⟩]) .ret) .skip))
abbrev f39_17:AC:=.ops [6] [] [vv 18 0,vn 19 18,vd 20 19 6,vl 21 20,vv 22 1,⟨none,.lookup (some 23) (.int .i64) (.agg [(.lit (.int .i64 0)),(.lit (.int .i64 0)),(.lit (.int .u64 0))]) true (.r 21) (.r 22)⟩,vv 17 23,ve 24 17 0,ve 25 17 1,⟨none,.newL 5 [(.lit (.int .i64 0)),(.lit (.int .i64 0)),(.lit (.int .u64 0))]⟩,⟨none,.store 3 (.r 5) (.r 24)⟩,vo 6 25]
abbrev f39_15:AC:=.seq (.seq f39_17 (.seq (.ops [26] [] [vv 26 6]) (.cond (.r 26) (.seq (.ops [4] [] [⟨none,.mv (some 4) (.c (.lit (.int .i64 11)))⟩]) .ret) .skip))) (.seq (.ops [4] [] [⟨none,.mv (some 4) (.c (.lit (.int .i64 0)))⟩]) .ret)
abbrev f39_1:AC:=.seq (.ops [0,1] [] [⟨none,.mv (some 4) (.c (.lit (.int .i64 0)))⟩]) (.seq (.block 0 (.seq (.ops [0,1,7] [] [vv 8 0,⟨none,.call (some 9) false (.f 44) [(.r 8)]⟩,vo 7 9]) f39_7)) f39_15)
def c_f39:AFun:=⟨27,[.tmp 4],f39_1⟩
theorem k_f39:kX x_f39 39 c_f39:=by delta kX; kernel_rfl
theorem e_f39:eX 39:=by delta eX; kernel_rfl

def n_f40:Nat:=40
def x_f40:=xX 47 [0,1,4,5,6,9,15,16,17,18,19,20,22,23,24,25,26,30,31,35,41,42,43,44] [25,43,44] [(2,[0,1],[]),(12,[0,1,10],[]),(52,[4,5],[]),(28,[0,1,14],[]),(116,[4,5],[]),(60,[0,1,6,8],[]),(122,[0,1,6,21],[]),(492,[4,5],[]),(124,[0,1,36],[]),(500,[],[]),(1002,[4,5],[]),(126,[4,5],[])]
abbrev f40_4:AC:=.seq (.ops [0,1,10] [] [vv 9 0,⟨none,.call (some 10) false (.f 44) [(.r 9)]⟩]) (.cond (.r 10) (.seq (.ops [4,5] [] [⟨none,.mv (some 4) (.c (.lit (.slice none 0 0)))⟩,⟨none,.mv (some 5) (.c (.lit (.int .i64 1)))⟩]) .ret) .skip)
abbrev f40_10:AC:=.seq (.ops [0,1,14] [] [vv 11 0,vn 12 11,vd 13 12 1,vl 14 13]) (.cond (.r 14) (.seq (.ops [4,5] [] [⟨none,.mv (some 4) (.c (.lit (.slice none 0 0)))⟩,⟨none,.mv (some 5) (.c (.lit (.int .i64 14)))⟩]) .ret) .skip)
abbrev f40_17:AC:=.ops [0,1,6,8] [] [vv 16 0,⟨none,.call (some 17) false (.f 45) [(.r 16),(.c (.lit (.int .i64 1)))]⟩,vv 15 17,ve 18 15 0,ve 19 15 1,ve 20 15 2,vo 6 18,vo 7 19,vo 8 20]
abbrev f40_22:AC:=.ops [4,5] [] [vv 22 6,vv 23 1,⟨none,.bst (some 24) [(0,1),(1,1),(2,1),(3,1)] (.agg [(.lit (.int .i64 0)),(.lit (.int .i64 0)),(.lit (.int .i64 0)),(.lit (.int .i64 0))]) [(0,(.r 22)),(2,(.r 23))]⟩,⟨none,.bsl (some 25) 4 1 (.agg [(.lit (.int .i64 0)),(.lit (.int .i64 0)),(.lit (.int .i64 0)),(.lit (.int .i64 0))]) [(0,(.r 24))]⟩,⟨none,.call (some 26) false (.f 59) [(.r 25)]⟩,vo 4 26,⟨none,.mv (some 5) (.c (.lit (.int .i64 0)))⟩]
abbrev f40_25:AC:=.draw [0,1,36] [] [] [vv 27 0,vn 28 27,vd 29 28 3,vl 30 29,⟨none,.len (some 31) .sl (.r 30)⟩,vv 32 0,vn 33 32,vd 34 33 2,vl 35 34] [⟨none,.bin (some 36) .num .lss (.r 31) (.r 35)⟩]
abbrev f40_28:AC:=.ops [] [] [vv 37 0,vv 38 0,vn 39 38,vd 40 39 3,⟨none,.loadOwn 41 (.r 40)⟩,vv 42 1,⟨none,.bsl (some 43) 1 1 (.lit (.int .i64 0)) [(0,(.r 42))]⟩,⟨none,.x (some 44) (.appB (.r 41) 1 8 (.r 43))⟩,vn 45 37,vd 46 45 3,⟨none,.store 1 (.r 46) (.r 44)⟩]
abbrev f40_26:AC:=.cond (.r 36) (.seq f40_28 (.seq (.ops [4,5] [] [⟨none,.mv (some 4) (.c (.lit (.slice none 0 0)))⟩,⟨none,.mv (some 5) (.c (.lit (.int .i64 0)))⟩]) .ret)) .skip
abbrev f40_23:AC:=.seq (.seq f40_25 f40_26) (.seq (.ops [4,5] [] [⟨none,.mv (some 4) (.c (.lit (.slice none 0 0)))⟩,⟨none,.mv (some 5) (.c (.lit (.int .i64 16)))⟩]) .ret)
abbrev f40_1:AC:=.seq (.ops [0,1] [] [⟨none,.mv (some 4) (.c (.lit (.slice none 0 0)))⟩,⟨none,.mv (some 5) (.c (.lit (.int .i64 0)))⟩]) (.seq f40_4 (.seq f40_10 (.seq (.seq f40_17 (.seq (.ops [0,1,6,21] [] [vv 21 8]) (.cond (.r 21) (.seq f40_22 .ret) .skip))) f40_23)))
def c_f40:AFun:=⟨47,[.tmp 4,.tmp 5],f40_1⟩
theorem k_f40:kX x_f40 40 c_f40:=by delta kX; kernel_rfl
theorem e_f40:eX 40:=by delta eX; kernel_rfl

def n_f41:Nat:=41
def x_f41:=xX 34 [1,2,3,8,9,10,11,13,17,18,19,20,21,22,27,28,29,30,31,32,33] [] [(2,[0,1,2,3],[]),(6,[0,1,2,3,9,10],[]),(28,[0,1,2,3,9,10,23],[]),(58,[10],[]),(30,[8],[])]
abbrev f41_4:AC:=.ops [0,1,2,3,9,10] [] [vv 12 0,vv 13 1,vn 14 12,vd 15 14 4,⟨none,.ixA (some 16) (.r 15) (.r 13) 2 1⟩,vl 17 16,vv 18 2,⟨none,.call (some 19) false (.f 60) [(.r 17),(.r 18)]⟩,vv 11 19,ve 20 11 0,ve 21 11 1,vo 9 20,vo 10 21]
abbrev f41_9:AC:=.ops [10] [] [vv 24 0,vn 25 24,vd 26 25 6,vl 27 26,vv 28 2,vv 29 1,vv 30 3,vv 31 9,⟨none,.bst (some 32) [(0,1),(1,1),(2,1)] (.agg [(.lit (.int .i64 0)),(.lit (.int .i64 0)),(.lit (.int .u64 0))]) [(0,(.r 29)),(1,(.r 30)),(2,(.r 31))]⟩,⟨none,.upd (.int .i64) (.r 27) (.r 28) (.r 32)⟩]
abbrev f41_3:AC:=.seq f41_4 (.seq (.seq (.ops [0,1,2,3,9,10,23] [] [vv 22 10,vb 23 .eql 22 0]) (.cond (.r 23) f41_9 .skip)) (.seq (.ops [8] [] [vv 33 10,vo 8 33]) .ret))
abbrev f41_1:AC:=.seq (.ops [0,1,2,3] [] [⟨none,.mv (some 8) (.c (.lit (.int .i64 0)))⟩]) f41_3
def c_f41:AFun:=⟨34,[.tmp 8],f41_1⟩
theorem k_f41:kX x_f41 41 c_f41:=by delta kX; kernel_rfl
theorem e_f41:eX 41:=by delta eX; kernel_rfl

def n_f42:Nat:=42
def x_f42:=xX 58 [0,2,3,4,5,6,8,10,11,12,13,14,15,21,22,23,24,30,31,42,47,48,52,53,54,55,56,57] [23,24,55] [(2,[0],[]),(12,[0,9],[]),(52,[2,3,4],[]),(14,[0,5,6,7],[]),(60,[0,5,6,7,16],[]),(122,[0,5,7],[]),(124,[0,5,7,32],[]),(1000,[36],[]),(4004,[2,3,4],[]),(1002,[2,3,4],[]),(126,[0,5,6,7],[]),(254,[5,6,7],[]),(1020,[5,6,51],[]),(4084,[2,3,4],[]),(1022,[2,3,4],[])]
abbrev f42_2:AC:=.ops [0] [] [⟨none,.mv (some 2) (.c (.lit (.int .i64 0)))⟩,⟨none,.mv (some 3) (.c (.lit (.slice none 0 0)))⟩,⟨none,.mv (some 4) (.c (.lit (.int .i64 0)))⟩]
abbrev f42_8:AC:=.ops [2,3,4] [] [⟨none,.mv (some 2) (.c (.lit (.int .i64 0)))⟩,⟨none,.mv (some 3) (.c (.lit (.slice none 0 0)))⟩,⟨none,.mv (some 4) (.c (.lit (.int .i64 1)))⟩]
abbrev f42_10:AC:=.ops [0,5,6,7] [] [vv 11 0,⟨none,.call (some 12) false (.f 45) [(.r 11),(.c (.lit (.int .i64 0)))]⟩,vv 10 12,ve 13 10 0,ve 14 10 1,ve 15 10 2,vo 5 13,vo 6 14,vo 7 15]
abbrev f42_15:AC:=.ops [0,5,7] [] [vv 17 0,vv 18 0,vn 19 18,vd 20 19 3,⟨none,.loadOwn 21 (.r 20)⟩,vv 22 6,⟨none,.bsl (some 23) 1 1 (.lit (.int .i64 0)) [(0,(.r 22))]⟩,⟨none,.x (some 24) (.appB (.r 21) 1 8 (.r 23))⟩,vn 25 17,vd 26 25 3,⟨none,.store 1 (.r 26) (.r 24)⟩]
abbrev f42_25:AC:=.ops [2,3,4] [] [⟨none,.mv (some 2) (.c (.lit (.int .i64 0)))⟩,⟨none,.mv (some 3) (.c (.lit (.slice none 0 0)))⟩,⟨none,.mv (some 4) (.c (.lit (.int .i64 13)))⟩]
abbrev f42_27:AC:=.ops [2,3,4] [] [⟨none,.mv (some 2) (.c (.lit (.int .i64 0)))⟩,⟨none,.mv (some 3) (.c (.lit (.slice none 0 0)))⟩,⟨none,.mv (some 4) (.c (.lit (.int .i64 16)))⟩]
abbrev f42_17:AC:=.seq (.ops [0,5,7,32] [] [vv 27 0,vn 28 27,vd 29 28 3,vl 30 29,⟨none,.len (some 31) .sl (.r 30)⟩,vb 32 .eql 31 0]) (.cond (.r 32) (.seq (.seq (.ops [36] [] [vv 33 0,vn 34 33,vd 35 34 1,vl 36 35]) (.cond (.r 36) (.seq f42_25 .ret) .skip)) (.seq f42_27 .ret)) .skip)
abbrev f42_31:AC:=.ops [5,6,7] [] [vv 43 0,vv 44 0,vn 45 44,vd 46 45 3,vl 47 46,⟨none,.call (some 48) false (.f 61) [(.r 47),(.c (.lit (.int .i64 0))),(.c (.lit (.int .i64 1)))]⟩,vn 49 43,vd 50 49 3,⟨none,.store 1 (.r 50) (.r 48)⟩]
abbrev f42_37:AC:=.ops [2,3,4] [] [vv 52 6,vv 53 5,⟨none,.bst (some 54) [(0,1),(1,1),(2,1),(3,1)] (.agg [(.lit (.int .i64 0)),(.lit (.int .i64 0)),(.lit (.int .i64 0)),(.lit (.int .i64 0))]) [(0,(.r 53))]⟩,⟨none,.bsl (some 55) 4 1 (.agg [(.lit (.int .i64 0)),(.lit (.int .i64 0)),(.lit (.int .i64 0)),(.lit (.int .i64 0))]) [(0,(.r 54))]⟩,⟨none,.call (some 56) false (.f 59) [(.r 55)]⟩,vo 2 52,vo 3 56,⟨none,.mv (some 4) (.c (.lit (.int .i64 0)))⟩]
abbrev f42_32:AC:=.seq (.seq (.ops [5,6,51] [] [vv 51 7]) (.cond (.r 51) (.seq f42_37 .ret) .skip)) (.seq (.ops [2,3,4] [] [vv 57 6,vo 2 57,⟨none,.mv (some 3) (.c (.lit (.slice none 0 0)))⟩,⟨none,.mv (some 4) (.c (.lit (.int .i64 0)))⟩]) .ret)
abbrev f42_28:AC:=.seq (.ops [0,5,6,7] [] [vv 37 0,vn 38 37,vd 39 38 3,vl 40 39,⟨none,.ixS (some 41) (.r 40) (.c (.lit (.int .i64 0))) 1⟩,vl 42 41,vo 6 42]) (.seq f42_31 f42_32)
def f42_16:AC:=.seq f42_17 f42_28
theorem f42_16e:SQ f42_16 f42_17 f42_28:=rfl
abbrev f42_3:AC:=.seq (.seq (.ops [0,9] [] [vv 8 0,⟨none,.call (some 9) false (.f 44) [(.r 8)]⟩]) (.cond (.r 9) (.seq f42_8 .ret) .skip)) (.seq f42_10 (.seq (.seq (.ops [0,5,6,7,16] [] [vv 16 7]) (.cond (.r 16) f42_15 .skip)) f42_16))
abbrev f42_1:AC:=.seq f42_2 f42_3
def c_f42:AFun:=⟨58,[.tmp 2,.tmp 3,.tmp 4],f42_1⟩
theorem k_f42:kX x_f42 42 c_f42:=by delta kX; kernel_rfl
theorem e_f42:eX 42:=by delta eX; kernel_rfl

end
end Go.Fx.YtbomoaajkinfpaaFx

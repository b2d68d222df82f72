/- The functions that the statement reaches, resolved: printed by a program of ours from the translated code; each is checked here. -/
import Derived.Test.YtbdjfccgkdgbfaaProg
import Derived.Test.YtbdjfccgkdgbfaaFxF
set_option maxRecDepth 100000
set_option maxHeartbeats 0
namespace Go.Fx.YtbdjfccgkdgbfaaFx
open Go Go.Fx
def xX (n:Nat) (h u:List Nat) (q:List (Nat×List Nat×List Nat)):Cx:=⟨some,id,n,fun s=>h.contains s,fun s=>u.contains s,msOf q⟩
abbrev kX (x:Cx) (n:Nat) (c:AFun):Prop:=ir Go.Proofs.Try.prog x n = some c
abbrev eX (n:Nat):Prop:=dl Go.Proofs.Try.prog n = true
abbrev SQ (a b c:AC):Prop:=∀ {P:Program} {m:Bool} {sf:Sf} {st:St} {Q:Exit→Sf→St→Prop},aC P id m a sf st Q = aC P id m b sf st (seqQ (aC P id m c) Q)
abbrev SO (a:AC) (l:List GI) (x y:List Nat) (c:AC):Prop:=∀ {P:Program} {m:Bool} {sf:Sf} {st:St} {Q:Exit→Sf→St→Prop},aC P id m a sf st Q = runI P id m l (opsK x y (seqQ (aC P id m c) Q)) sf st
abbrev CN (a:AC) (r:Nat) (b c:AC):Prop:=∀ {P:Program} {m:Bool} {sf:Sf} {st:St} {Q:Exit→Sf→St→Prop},aC P id m a sf st Q = iq (.r r) (sf.ev id (.r r)) (aC P id m b) (aC P id m c) sf st Q
abbrev OP (a:AC) (l:List GI) (x y:List Nat):Prop:=∀ {P:Program} {m:Bool} {sf:Sf} {st:St} {Q:Exit→Sf→St→Prop},aC P id m a sf st Q = runI P id m l (opsK x y Q) sf st
abbrev BL (a b:AC) (k:Nat):Prop:=∀ {P:Program} {m:Bool} {sf:Sf} {st:St} {Q:Exit→Sf→St→Prop},aC P id m a sf st Q = aC P id m b sf st (ga k Q)
abbrev KF:Lean.Meta.Simp.Config:={ implicitDefEqProofs:=false,maxSteps:=10000000 }
section
variable {P:Program} {F:Nat→FuncId} {m:Bool} {sf:Sf} {st:St} {Q:Exit→Sf→St→Prop} {a b:AC} {x:Opd} {k:Nat} {l t:List GI} {u v w:List Nat} {d:Option Nat} {xs:List Opd} {q:List (Bool×GI)}
theorem aA1:aC P F m (.seq a b) sf st Q = aC P F m a sf st (seqQ (aC P F m b) Q):=rfl
theorem aA2:aC P F m (.cond x a b) sf st Q = iq x (sf.ev F x) (aC P F m a) (aC P F m b) sf st Q:=rfl
theorem aA3:aC P F m (.ops u v l) sf st Q = runI P F m l (opsK u v Q) sf st:=rfl
theorem aA4:aC P F m (.block k a) sf st Q = aC P F m a sf st (ga k Q):=rfl
theorem aA5:aC P F m (.scope a) sf st Q = aC P F m a sf st (scopeQ Q):=rfl
theorem aA6:aC P F m (.draw u v w l t) sf st Q = az P F sf.locs st l (dT P F m w u v t Q st) [] ⟨sf.regs,cX w sf.locs⟩:=rfl
theorem aA7:aC P F m (.drawM u v l d x xs q t) sf st Q = (m = false∧drawM P F l d x xs q sf st (nx P F m u v t Q)):=rfl
end
theorem bZ:type_of% (And.intro (And.intro (And.intro (And.intro (And.intro (And.intro (And.intro (@l4) (@seqQ_ret)) (And.intro (@opsK_eq) (And.intro (@runI_nil) (@pj)))) (And.intro (And.intro (@putP_eq) (And.intro (@mask_eq) (@pr))) (And.intro (@nP) (And.intro (@wp_ok) (@qd))))) (And.intro (And.intro (And.intro (@jN) (@ev_r)) (And.intro (@ev_c) (And.intro (@o_mv) (@o_bin)))) (And.intro (And.intro (@aL) (And.intro (@cQ) (@setB_r))) (And.intro (@nQ) (And.intro (@aC_ret) (@aC_skip)))))) (And.intro (And.intro (And.intro (And.intro (@retQ_ret) (@aD)) (And.intro (@qi) (And.intro (@qj) (@List.map_cons.{0,0})))) (And.intro (And.intro (@List.map_nil.{0,0}) (And.intro (@Nat.zero_add) (@Sf.set.eq_1))) (And.intro (@Sf.reg.eq_1) (And.intro (@Bool.true_and) (@List.drop_zero.{0}))))) (And.intro (And.intro (And.intro (@List.length_cons.{0}) (And.intro (@List.length_nil.{0}) (@Bool.and_true))) (And.intro (@List.all_cons.{0}) (And.intro (@Sf.disAt.eq_1) (@List.all_nil.{0})))) (And.intro (And.intro (@Bool.false_eq_true) (And.intro (@List.drop_succ_cons.{0}) (@List.set_cons_zero.{0}))) (And.intro (@List.take_succ_cons.{0}) (And.intro (@true_and) (@getR.eq_1))))))) (And.intro (And.intro (And.intro (And.intro (And.intro (@getR.eq_2) (@setR.eq_1)) (And.intro (@setR.eq_2) (And.intro (@putS) (@List.set_cons_succ.{0})))) (And.intro (And.intro (@ip.eq_1) (And.intro (@ip.eq_2) (@List.take_zero.{0}))) (And.intro (@and_true) (And.intro (@decide_true) (@List.getElem?_cons_zero.{0}))))) (And.intro (And.intro (And.intro (@List.getElem?_cons_succ.{0}) (@Int.toNat_natCast)) (And.intro (@IntWalk.i64_in) (And.intro (@Int.cast_ofNat_Int) (@nG)))) (And.intro (And.intro (@jv.eq_1) (And.intro (@Nat.add_zero) (@o_own))) (And.intro (@Sf.setLoc.eq_1) (And.intro (@List.contains_nil.{0}) (@look.eq_1)))))) (And.intro (And.intro (And.intro (And.intro (@look.eq_2) (@o_load)) (And.intro (@bind_req) (And.intro (@bY) (@o_addr)))) (And.intro (And.intro (@fw.eq_1) (And.intro (@fw.eq_2) (@ev_f))) (And.intro (@nI) (And.intro (@aH) (@o_call))))) (And.intro (And.intro (And.intro (@po) (And.intro (@Sf.newLoc.eq_1) (@Bool.not_false))) (And.intro (@kB.eq_1) (And.intro (@kB.eq_2) (@List.length_map.{0,0})))) (And.intro (And.intro (@req_tt) (And.intro (@boxX.eq_1) (@evOwn_r))) (And.intro (@pp) (And.intro (@bN) (@List.isEmpty_cons.{0})))))))) (And.intro (And.intro (And.intro (And.intro (And.intro (And.intro (@nR) (@disOp_r)) (And.intro (@Nat.mul_one) (And.intro (@o_store) (@pk)))) (And.intro (And.intro (@n_lss) (And.intro (@qe) (@o_pick))) (And.intro (@resI.eq_1) (And.intro (@resI.eq_2) (@and_pre))))) (And.intro (And.intro (And.intro (@nN) (@Bool.not_true)) (And.intro (@o_len) (And.intro (@own2_lit) (@resL.eq_1)))) (And.intro (And.intro (@resL.eq_2) (And.intro (@noL_tup) (@ju))) (And.intro (@req_dec) (And.intro (@n_add) (@ixA.eq_1)))))) (And.intro (And.intro (And.intro (And.intro (@ixA.eq_2) (@pick_ff)) (And.intro (@lh) (And.intro (@List.isEmpty_nil.{0}) (@o_nilck)))) (And.intro (And.intro (@val_head) (And.intro (@up_addL) (@and_self))) (And.intro (@qk) (And.intro (@aI) (@nL))))) (And.intro (And.intro (And.intro (@jr.eq_1) (And.intro (@jr.eq_2) (@List.contains_cons.{0}))) (And.intro (@h_none) (And.intro (@kill_agg) (@hh_load)))) (And.intro (And.intro (@n_eql) (And.intro (@cX.eq_1) (@cX.eq_2))) (And.intro (@hh_mv) (And.intro (@kill_lit) (@Option.map_some.{0,0}))))))) (And.intro (And.intro (And.intro (And.intro (And.intro (@h_nil) (@own2_agg)) (And.intro (@extV.eq_1) (And.intro (@extV.eq_2) (@Option.map_none.{0,0})))) (And.intro (And.intro (@o_newL) (And.intro (@List.append_nil.{0}) (@o_ext))) (And.intro (@Bool.or_false) (And.intro (@dis_tup) (@l5))))) (And.intro (And.intro (And.intro (@tail_nil) (And.intro (@hh_addr) (@pq))) (And.intro (@pick_tt) (And.intro (@o_un) (@o_ixS)))) (And.intro (And.intro (@decide_false) (And.intro (@o_appS) (@o_bsl))) (And.intro (@bslV.eq_1) (And.intro (@gc.eq_1) (@gc.eq_2)))))) (And.intro (And.intro (And.intro (And.intro (@mq) (@Int.toNat_zero)) (And.intro (@nM) (And.intro (@pi) (@aC_exit)))) (And.intro (And.intro (@o_boxL) (And.intro (@n_gtr) (@hh_bin))) (And.intro (@dis_bs) (And.intro (@skipI_eq) (@cells_sl))))) (And.intro (And.intro (And.intro (@nB) (And.intro (@n_neq) (@o_x))) (And.intro (@Int.toNat_one) (And.intro (@nH) (@aA1)))) (And.intro (And.intro (@aA2) (And.intro (@aA3) (@aA4))) (And.intro (@aA5) (And.intro (@aA6) (@aA7))))))))):=And.intro (And.intro (And.intro (And.intro (And.intro (And.intro (And.intro (@l4) (@seqQ_ret)) (And.intro (@opsK_eq) (And.intro (@runI_nil) (@pj)))) (And.intro (And.intro (@putP_eq) (And.intro (@mask_eq) (@pr))) (And.intro (@nP) (And.intro (@wp_ok) (@qd))))) (And.intro (And.intro (And.intro (@jN) (@ev_r)) (And.intro (@ev_c) (And.intro (@o_mv) (@o_bin)))) (And.intro (And.intro (@aL) (And.intro (@cQ) (@setB_r))) (And.intro (@nQ) (And.intro (@aC_ret) (@aC_skip)))))) (And.intro (And.intro (And.intro (And.intro (@retQ_ret) (@aD)) (And.intro (@qi) (And.intro (@qj) (@List.map_cons.{0,0})))) (And.intro (And.intro (@List.map_nil.{0,0}) (And.intro (@Nat.zero_add) (@Sf.set.eq_1))) (And.intro (@Sf.reg.eq_1) (And.intro (@Bool.true_and) (@List.drop_zero.{0}))))) (And.intro (And.intro (And.intro (@List.length_cons.{0}) (And.intro (@List.length_nil.{0}) (@Bool.and_true))) (And.intro (@List.all_cons.{0}) (And.intro (@Sf.disAt.eq_1) (@List.all_nil.{0})))) (And.intro (And.intro (@Bool.false_eq_true) (And.intro (@List.drop_succ_cons.{0}) (@List.set_cons_zero.{0}))) (And.intro (@List.take_succ_cons.{0}) (And.intro (@true_and) (@getR.eq_1))))))) (And.intro (And.intro (And.intro (And.intro (And.intro (@getR.eq_2) (@setR.eq_1)) (And.intro (@setR.eq_2) (And.intro (@putS) (@List.set_cons_succ.{0})))) (And.intro (And.intro (@ip.eq_1) (And.intro (@ip.eq_2) (@List.take_zero.{0}))) (And.intro (@and_true) (And.intro (@decide_true) (@List.getElem?_cons_zero.{0}))))) (And.intro (And.intro (And.intro (@List.getElem?_cons_succ.{0}) (@Int.toNat_natCast)) (And.intro (@IntWalk.i64_in) (And.intro (@Int.cast_ofNat_Int) (@nG)))) (And.intro (And.intro (@jv.eq_1) (And.intro (@Nat.add_zero) (@o_own))) (And.intro (@Sf.setLoc.eq_1) (And.intro (@List.contains_nil.{0}) (@look.eq_1)))))) (And.intro (And.intro (And.intro (And.intro (@look.eq_2) (@o_load)) (And.intro (@bind_req) (And.intro (@bY) (@o_addr)))) (And.intro (And.intro (@fw.eq_1) (And.intro (@fw.eq_2) (@ev_f))) (And.intro (@nI) (And.intro (@aH) (@o_call))))) (And.intro (And.intro (And.intro (@po) (And.intro (@Sf.newLoc.eq_1) (@Bool.not_false))) (And.intro (@kB.eq_1) (And.intro (@kB.eq_2) (@List.length_map.{0,0})))) (And.intro (And.intro (@req_tt) (And.intro (@boxX.eq_1) (@evOwn_r))) (And.intro (@pp) (And.intro (@bN) (@List.isEmpty_cons.{0})))))))) (And.intro (And.intro (And.intro (And.intro (And.intro (And.intro (@nR) (@disOp_r)) (And.intro (@Nat.mul_one) (And.intro (@o_store) (@pk)))) (And.intro (And.intro (@n_lss) (And.intro (@qe) (@o_pick))) (And.intro (@resI.eq_1) (And.intro (@resI.eq_2) (@and_pre))))) (And.intro (And.intro (And.intro (@nN) (@Bool.not_true)) (And.intro (@o_len) (And.intro (@own2_lit) (@resL.eq_1)))) (And.intro (And.intro (@resL.eq_2) (And.intro (@noL_tup) (@ju))) (And.intro (@req_dec) (And.intro (@n_add) (@ixA.eq_1)))))) (And.intro (And.intro (And.intro (And.intro (@ixA.eq_2) (@pick_ff)) (And.intro (@lh) (And.intro (@List.isEmpty_nil.{0}) (@o_nilck)))) (And.intro (And.intro (@val_head) (And.intro (@up_addL) (@and_self))) (And.intro (@qk) (And.intro (@aI) (@nL))))) (And.intro (And.intro (And.intro (@jr.eq_1) (And.intro (@jr.eq_2) (@List.contains_cons.{0}))) (And.intro (@h_none) (And.intro (@kill_agg) (@hh_load)))) (And.intro (And.intro (@n_eql) (And.intro (@cX.eq_1) (@cX.eq_2))) (And.intro (@hh_mv) (And.intro (@kill_lit) (@Option.map_some.{0,0}))))))) (And.intro (And.intro (And.intro (And.intro (And.intro (@h_nil) (@own2_agg)) (And.intro (@extV.eq_1) (And.intro (@extV.eq_2) (@Option.map_none.{0,0})))) (And.intro (And.intro (@o_newL) (And.intro (@List.append_nil.{0}) (@o_ext))) (And.intro (@Bool.or_false) (And.intro (@dis_tup) (@l5))))) (And.intro (And.intro (And.intro (@tail_nil) (And.intro (@hh_addr) (@pq))) (And.intro (@pick_tt) (And.intro (@o_un) (@o_ixS)))) (And.intro (And.intro (@decide_false) (And.intro (@o_appS) (@o_bsl))) (And.intro (@bslV.eq_1) (And.intro (@gc.eq_1) (@gc.eq_2)))))) (And.intro (And.intro (And.intro (And.intro (@mq) (@Int.toNat_zero)) (And.intro (@nM) (And.intro (@pi) (@aC_exit)))) (And.intro (And.intro (@o_boxL) (And.intro (@n_gtr) (@hh_bin))) (And.intro (@dis_bs) (And.intro (@skipI_eq) (@cells_sl))))) (And.intro (And.intro (And.intro (@nB) (And.intro (@n_neq) (@o_x))) (And.intro (@Int.toNat_one) (And.intro (@nH) (@aA1)))) (And.intro (And.intro (@aA2) (And.intro (@aA3) (@aA4))) (And.intro (@aA5) (And.intro (@aA6) (@aA7))))))))
abbrev vv (d x:Nat):GI:=⟨none,.mv (some d) (.r x)⟩
abbrev vo (d x:Nat):GI:=⟨none,.own d x⟩
abbrev ve (d x k:Nat):GI:=⟨none,.ext (some d) (.r x) k⟩
abbrev vn (d x:Nat):GI:=⟨none,.nilck (some d) (.r x)⟩
abbrev vd (d x k:Nat):GI:=⟨none,.addr (some d) (.r x) k⟩
abbrev vl (d x:Nat):GI:=⟨none,.load (some d) (.r x) none⟩
abbrev vb (d:Nat) (o:BinOp) (x:Nat) (n:Int):GI:=⟨none,.bin (some d) .num o (.r x) (.c (.lit (.int .i64 n)))⟩
section
variable (P:Program) (m:Bool) (sf:Sf) (st:St) (Q:Exit→Sf→St→Prop)
def n_f6:Nat:=6
def x_f6:=xX 98 [0,1,2,6,7,9,10,13,14,15,16,17,18,19,20,21,22,23,24,25,26,27,28,29,30,31,32,33,34,35,36,37,38,39,40,42,43,44,46,47,48,49,50,51,52,53,54,55,56,57,58,59,60,61,62,63,64,65,67,68,69,70,71,72,73,74,75,76,77,78,79,80,81,82,83,84,85,86,87,88,89,90,91,92,93,94,95,96,97] [] [(2,[0,1,2],[]),(12,[0,1,2,41],[]),(52,[6],[]),(14,[0,1,2,7],[]),(60,[0,1,2,7,45],[]),(244,[6],[]),(62,[1,2,7,8,9],[8]),(126,[1,2,7,8,9,10],[8]),(508,[1,2,7,8,10,66],[8]),(2036,[6],[]),(510,[2,7,8,9,10,11],[8,11]),(1022,[7,9,10,11,12,13],[11,12]),(2046,[6],[])]
abbrev f6_5:AC:=.ops [0,1,2,41] [] [vv 14 0,⟨none,.len (some 15) .sl (.r 14)⟩,vb 16 .gtr 15 30,vv 17 16,⟨some (17,false),.mv (some 18) (.r 1)⟩,⟨some (17,false),.len (some 19) .sl (.r 18)⟩,⟨some (17,false),.bin (some 20) .num .gtr (.r 19) (.c (.lit (.int .i64 20)))⟩,⟨none,.pick (some 21) (.r 17) (.c (.lit (.bool true))) (.r 20)⟩,vv 22 21,⟨some (22,false),.mv (some 23) (.r 2)⟩,⟨some (22,false),.len (some 24) .sl (.r 23)⟩,⟨some (22,false),.bin (some 25) .num .gtr (.r 24) (.c (.lit (.int .i64 20)))⟩,⟨none,.pick (some 26) (.r 22) (.c (.lit (.bool true))) (.r 25)⟩,vv 27 26,⟨some (27,false),.mv (some 28) (.r 0)⟩,⟨some (27,false),.call (some 29) false (.f 12) [(.r 28)]⟩,⟨some (27,false),.un (some 30) .not (.r 29)⟩,⟨none,.pick (some 31) (.r 27) (.c (.lit (.bool true))) (.r 30)⟩,vv 32 31,⟨some (32,false),.mv (some 33) (.r 1)⟩,⟨some (32,false),.call (some 34) false (.f 12) [(.r 33)]⟩,⟨some (32,false),.un (some 35) .not (.r 34)⟩,⟨none,.pick (some 36) (.r 32) (.c (.lit (.bool true))) (.r 35)⟩,vv 37 36,⟨some (37,false),.mv (some 38) (.r 2)⟩,⟨some (37,false),.call (some 39) false (.f 12) [(.r 38)]⟩,⟨some (37,false),.un (some 40) .not (.r 39)⟩,⟨none,.pick (some 41) (.r 37) (.c (.lit (.bool true))) (.r 40)⟩]
abbrev f6_10:AC:=.ops [0,1,2,7] [] [⟨none,.call (some 43) false (.f 8) []⟩,vo 7 43]
abbrev f6_12:AC:=.seq (.ops [0,1,2,7,45] [] [vv 44 7,⟨none,.bin (some 45) (.nil .ptr) .eql (.r 44) (.c (.lit (.pointer none)))⟩]) (.cond (.r 45) (.seq (.ops [6] [] [⟨none,.mv (some 6) (.c (.lit (.bool false)))⟩]) .ret) .skip)
abbrev f6_18:AC:=.ops [1,2,7,8,9] [8] [vv 47 7,⟨none,.bst (some 48) [(0,1),(1,1)] (.agg [(.lit (.slice none 0 0)),(.lit (.slice none 0 0))]) []⟩,vv 49 0,⟨none,.call (some 50) false (.f 18) [(.r 47),(.r 48),(.r 49)]⟩,vv 46 50,ve 51 46 0,ve 52 46 1,⟨none,.newL 8 [(.lit (.slice none 0 0)),(.lit (.slice none 0 0))]⟩,⟨none,.store 2 (.r 8) (.r 51)⟩,vo 9 52]
abbrev f6_23:AC:=.ops [1,2,7,8,10,66] [8] [vv 55 9,⟨none,.un (some 56) .not (.r 55)⟩,vv 57 56,⟨some (57,false),.mv (some 58) (.r 10)⟩,⟨some (57,false),.bin (some 59) (.nil .ptr) .eql (.r 58) (.c (.lit (.pointer none)))⟩,⟨none,.pick (some 60) (.r 57) (.c (.lit (.bool true))) (.r 59)⟩,vv 61 60,⟨some (61,false),.mv (some 62) (.r 10)⟩,⟨some (61,false),.load (some 63) (.r 8) (some 2)⟩,⟨some (61,false),.call (some 64) false (.f 17) [(.r 62),(.r 63)]⟩,⟨some (61,false),.un (some 65) .not (.r 64)⟩,⟨none,.pick (some 66) (.r 61) (.c (.lit (.bool true))) (.r 65)⟩]
abbrev f6_28:AC:=.ops [2,7,8,9,10,11] [8,11] [vv 68 7,⟨none,.load (some 69) (.r 8) (some 2)⟩,vv 70 1,⟨none,.call (some 71) false (.f 18) [(.r 68),(.r 69),(.r 70)]⟩,vv 67 71,ve 72 67 0,ve 73 67 1,⟨none,.newL 11 [(.lit (.slice none 0 0)),(.lit (.slice none 0 0))]⟩,⟨none,.store 2 (.r 11) (.r 72)⟩,vo 9 73]
abbrev f6_30:AC:=.ops [7,9,10,11,12,13] [11,12] [vv 75 10,⟨none,.load (some 76) (.r 8) (some 2)⟩,vv 77 2,⟨none,.call (some 78) false (.f 18) [(.r 75),(.r 76),(.r 77)]⟩,vv 74 78,ve 79 74 0,ve 80 74 1,⟨none,.newL 12 [(.lit (.slice none 0 0)),(.lit (.slice none 0 0))]⟩,⟨none,.store 2 (.r 12) (.r 79)⟩,vo 13 80]
abbrev f6_32:AC:=.ops [6] [] [vv 81 9,vv 82 81,⟨some (82,true),.mv (some 83) (.r 13)⟩,⟨none,.pick (some 84) (.r 82) (.r 83) (.c (.lit (.bool false)))⟩,vv 85 84,⟨some (85,true),.mv (some 86) (.r 7)⟩,⟨some (85,true),.load (some 87) (.r 11) (some 2)⟩,⟨some (85,true),.call (some 88) false (.f 17) [(.r 86),(.r 87)]⟩,⟨none,.pick (some 89) (.r 85) (.r 88) (.c (.lit (.bool false)))⟩,vv 90 89,⟨some (90,true),.mv (some 91) (.r 10)⟩,⟨some (90,true),.load (some 92) (.r 12) (some 2)⟩,⟨some (90,true),.call (some 93) false (.f 17) [(.r 91),(.r 92)]⟩,⟨none,.pick (some 94) (.r 90) (.r 93) (.c (.lit (.bool false)))⟩,vv 95 94,⟨some (95,true),.call (some 96) false (.f 10) []⟩,⟨none,.pick (some 97) (.r 95) (.r 96) (.c (.lit (.bool false)))⟩,vo 6 97]
abbrev f6_21:AC:=.seq (.seq f6_23 (.cond (.r 66) (.seq (.ops [6] [] [⟨none,.mv (some 6) (.c (.lit (.bool false)))⟩]) .ret) .skip)) (.seq f6_28 (.seq f6_30 (.seq f6_32 .ret)))
abbrev f6_11:AC:=.seq f6_12 (.seq f6_18 (.seq (.ops [1,2,7,8,9,10] [8] [vv 53 7,⟨none,.call (some 54) false (.f 19) [(.r 53)]⟩,vo 10 54]) f6_21))
def f6_9:AC:=.seq f6_10 f6_11
theorem f6_9e:SQ f6_9 f6_10 f6_11:=rfl
abbrev f6_1:AC:=.seq (.ops [0,1,2] [] [⟨none,.mv (some 6) (.c (.lit (.bool false)))⟩]) (.seq (.seq f6_5 (.cond (.r 41) (.seq (.ops [6] [] [⟨none,.call (some 42) false (.f 10) []⟩,vo 6 42]) .ret) .skip)) f6_9)
def c_f6:AFun:=⟨98,[.tmp 6],f6_1⟩
theorem k_f6:kX x_f6 6 c_f6:=by delta kX; kernel_rfl
theorem e_f6:eX 6:=by delta eX; kernel_rfl

def n_f8:Nat:=8
def x_f8:=xX 17 [0,1,2,3,4,5,6,8,10,11,15,16] [11] [(2,[],[]),(6,[1],[]),(28,[1,6],[]),(58,[1,6],[]),(232,[1,6,7],[]),(933,[1],[]),(3736,[1,2,6],[]),(3737,[1,6],[]),(935,[1,6],[]),(30,[0],[])]
abbrev f8_4:AC:=.ops [1] [] [⟨none,.mkmap 3⟩,⟨none,.bst (some 4) [(0,64),(64,16),(80,1)] (.agg [(.lit (.pointer none)),(.lit (.pointer none)),(.lit (.pointer none)),(.lit (.pointer none)),(.lit (.pointer none)),(.lit (.pointer none)),(.lit (.pointer none)),(.lit (.pointer none)),(.lit (.pointer none)),(.lit (.pointer none)),(.lit (.pointer none)),(.lit (.pointer none)),(.lit (.pointer none)),(.lit (.pointer none)),(.lit (.pointer none)),(.lit (.pointer none)),(.lit (.pointer none)),(.lit (.pointer none)),(.lit (.pointer none)),(.lit (.pointer none)),(.lit (.pointer none)),(.lit (.pointer none)),(.lit (.pointer none)),(.lit (.pointer none)),(.lit (.pointer none)),(.lit (.pointer none)),(.lit (.pointer none)),(.lit (.pointer none)),(.lit (.pointer none)),(.lit (.pointer none)),(.lit (.pointer none)),(.lit (.pointer none)),(.lit (.pointer none)),(.lit (.pointer none)),(.lit (.pointer none)),(.lit (.pointer none)),(.lit (.pointer none)),(.lit (.pointer none)),(.lit (.pointer none)),(.lit (.pointer none)),(.lit (.pointer none)),(.lit (.pointer none)),(.lit (.pointer none)),(.lit (.pointer none)),(.lit (.pointer none)),(.lit (.pointer none)),(.lit (.pointer none)),(.lit (.pointer none)),(.lit (.pointer none)),(.lit (.pointer none)),(.lit (.pointer none)),(.lit (.pointer none)),(.lit (.pointer none)),(.lit (.pointer none)),(.lit (.pointer none)),(.lit (.pointer none)),(.lit (.pointer none)),(.lit (.pointer none)),(.lit (.pointer none)),(.lit (.pointer none)),(.lit (.pointer none)),(.lit (.pointer none)),(.lit (.pointer none)),(.lit (.pointer none)),(.lit (.pointer none)),(.lit (.pointer none)),(.lit (.pointer none)),(.lit (.pointer none)),(.lit (.pointer none)),(.lit (.pointer none)),(.lit (.pointer none)),(.lit (.pointer none)),(.lit (.pointer none)),(.lit (.pointer none)),(.lit (.pointer none)),(.lit (.pointer none)),(.lit (.pointer none)),(.lit (.pointer none)),(.lit (.pointer none)),(.lit (.pointer none)),(.lit (.map none))]) [(2,(.r 3))]⟩,⟨none,.boxB 5 81 (.r 4)⟩,vo 1 5]
abbrev f8_18:AC:=.drawM [1,6] [] [vv 9 1,vv 10 2] (some 11) (.f 23) [] [(false,vn 12 9),(false,vd 13 12 64)] [⟨none,.ixA (some 14) (.r 13) (.r 10) 16 1⟩,⟨none,.store 1 (.r 14) (.r 11)⟩]
abbrev f8_12:AC:=.seq (.cond (.r 7) .skip (.exit [1] [] 0)) (.seq (.block 1 (.seq (.ops [1,2,6] [] [vv 8 6,vo 2 8]) f8_18)) (.ops [1,6] [] [vb 15 .add 6 1,vv 6 15]))
abbrev f8_10:AC:=.seq (.ops [1,6,7] [] [vb 7 .lss 6 16]) f8_12
def f8_9:AC:=.loop [1,6] [] f8_10
theorem f8_9w:aC P id m f8_9 sf st Q = ar (aC P id m f8_10) [1,6] [] sf st Q:=rfl
abbrev f8_1:AC:=.seq (.ops [] [] [⟨none,.mv (some 0) (.c (.lit (.pointer none)))⟩]) (.seq f8_4 (.seq (.seq (.ops [1,6] [] [⟨none,.mv (some 6) (.c (.lit (.int .i64 0)))⟩]) (.block 0 f8_9)) (.seq (.ops [0] [] [vv 16 1,vo 0 16]) .ret)))
def c_f8:AFun:=⟨17,[.tmp 0],f8_1⟩
theorem k_f8:kX x_f8 8 c_f8:=by delta kX; kernel_rfl
theorem e_f8:eX 8:=by delta eX; kernel_rfl

def n_f9:Nat:=9
def x_f9:=xX 60 [0,1,2,3,8,9,10,11,12,13,15,16,17,18,19,20,21,22,23,24,25,26,27,28,29,30,31,32,34,35,36,37,38,39,41,42,43,44,45,46,48,50,51,52,53,54,55,59] [] [(2,[0,1,2,3],[]),(12,[0,1,2,3,14],[]),(52,[8,9],[]),(28,[0,1,2,3,33],[]),(116,[8,9],[]),(30,[0,1,2,3,10],[]),(124,[0,1,2,3,10,40],[]),(500,[8,9],[]),(126,[0,1,3,10,11,12],[]),(508,[0,1,3,10,11,12,47],[]),(2036,[8,9],[]),(510,[10],[]),(1022,[8,9],[])]
abbrev f9_4:AC:=.seq (.ops [0,1,2,3,14] [] [vv 13 0,⟨none,.call (some 14) false (.f 24) [(.r 13)]⟩]) (.cond (.r 14) (.seq (.ops [8,9] [] [⟨none,.mv (some 8) (.c (.lit (.int .i64 0)))⟩,⟨none,.mv (some 9) (.c (.lit (.int .i64 1)))⟩]) .ret) .skip)
abbrev f9_11:AC:=.ops [0,1,2,3,33] [] [vv 15 1,⟨none,.call (some 16) false (.f 25) [(.r 15),(.c (.lit (.int .i64 16)))]⟩,⟨none,.un (some 17) .not (.r 16)⟩,vv 18 17,⟨some (18,false),.mv (some 19) (.r 2)⟩,⟨some (18,false),.bin (some 20) .num .leq (.r 19) (.c (.lit (.int .i64 2)))⟩,⟨none,.pick (some 21) (.r 18) (.c (.lit (.bool true))) (.r 20)⟩,vv 22 21,⟨some (22,false),.mv (some 23) (.r 2)⟩,⟨some (22,false),.bin (some 24) .num .gtr (.r 23) (.c (.lit (.int .i64 4096)))⟩,⟨none,.pick (some 25) (.r 22) (.c (.lit (.bool true))) (.r 24)⟩,vv 26 25,⟨some (26,false),.mv (some 27) (.r 3)⟩,⟨some (26,false),.bin (some 28) .num .lss (.r 27) (.c (.lit (.int .i64 1)))⟩,⟨none,.pick (some 29) (.r 26) (.c (.lit (.bool true))) (.r 28)⟩,vv 30 29,⟨some (30,false),.mv (some 31) (.r 3)⟩,⟨some (30,false),.bin (some 32) .num .gtr (.r 31) (.c (.lit (.int .i64 3)))⟩,⟨none,.pick (some 33) (.r 30) (.c (.lit (.bool true))) (.r 32)⟩]
abbrev f9_10:AC:=.seq f9_11 (.cond (.r 33) (.seq (.ops [8,9] [] [⟨none,.mv (some 8) (.c (.lit (.int .i64 0)))⟩,⟨none,.mv (some 9) (.c (.lit (.int .i64 2)))⟩]) .ret) .skip)
abbrev f9_16:AC:=.ops [0,1,2,3,10] [] [vv 34 0,vn 35 34,vd 36 35 0,⟨none,.x (some 37) (.slA 64 1 (.r 36) none none none)⟩,⟨none,.call (some 38) false (.f 26) [(.r 37),(.c (.lit (.pointer none)))]⟩,vo 10 38]
abbrev f9_18:AC:=.seq (.ops [0,1,2,3,10,40] [] [vv 39 10,vb 40 .lss 39 0]) (.cond (.r 40) (.seq (.ops [8,9] [] [⟨none,.mv (some 8) (.c (.lit (.int .i64 0)))⟩,⟨none,.mv (some 9) (.c (.lit (.int .i64 7)))⟩]) .ret) .skip)
abbrev f9_26:AC:=.seq (.ops [0,1,3,10,11,12,47] [] [vv 46 12,vb 47 .neq 46 0]) (.cond (.r 47) (.seq (.ops [8,9] [] [vv 48 12,⟨none,.mv (some 8) (.c (.lit (.int .i64 0)))⟩,vo 9 48]) .ret) .skip)
abbrev f9_32:AC:=.ops [10] [] [vv 49 0,vv 50 10,vv 51 1,vv 52 3,vv 53 11,⟨none,.bst (some 54) [(0,1),(1,1),(2,1),(3,1),(4,1)] (.agg [(.lit (.int .i64 0)),(.lit (.int .i64 0)),(.lit (.pointer none)),(.lit (.int .i64 0)),(.lit (.int .i64 0))]) [(0,(.r 51)),(1,(.r 52)),(2,(.r 53))]⟩,⟨none,.boxB 55 5 (.r 54)⟩,vn 56 49,vd 57 56 0,⟨none,.ixA (some 58) (.r 57) (.r 50) 64 1⟩,⟨none,.store 1 (.r 58) (.r 55)⟩]
abbrev f9_23:AC:=.seq (.ops [0,1,3,10,11,12] [] [vv 42 2,⟨none,.call (some 43) false (.f 27) [(.r 42)]⟩,vv 41 43,ve 44 41 0,ve 45 41 1,vo 11 44,vo 12 45]) (.seq f9_26 (.seq f9_32 (.seq (.ops [8,9] [] [vv 59 10,vo 8 59,⟨none,.mv (some 9) (.c (.lit (.int .i64 0)))⟩]) .ret)))
abbrev f9_1:AC:=.seq (.ops [0,1,2,3] [] [⟨none,.mv (some 8) (.c (.lit (.int .i64 0)))⟩,⟨none,.mv (some 9) (.c (.lit (.int .i64 0)))⟩]) (.seq f9_4 (.seq f9_10 (.seq f9_16 (.seq f9_18 f9_23))))
def c_f9:AFun:=⟨60,[.tmp 8,.tmp 9],f9_1⟩
theorem k_f9:kX x_f9 9 c_f9:=by delta kX; kernel_rfl
theorem e_f9:eX 9:=by delta eX; kernel_rfl

def n_f10:Nat:=10
def x_f10:=xX 140 [0,1,2,3,4,5,6,7,8,9,10,12,13,14,15,16,17,18,19,20,21,22,23,24,25,26,27,28,29,30,31,32,33,34,35,36,37,38,39,40,41,42,43,44,45,46,47,48,49,50,51,52,53,54,55,56,57,58,59,60,61,63,64,65,66,67,68,69,70,71,72,73,74,75,76,77,78,79,80,81,82,83,84,85,86,87,88,89,90,91,92,93,94,95,96,97,98,99,100,102,103,104,105,106,107,108,109,110,111,112,113,114,115,116,117,118,120,121,122,123,124,125,126,127,128,129,130,131,132,133,134,135,136,137,138,139] [] [(2,[],[]),(6,[1],[]),(28,[1,11],[]),(116,[0],[]),(30,[1,2,3],[]),(62,[1,2,3,4,5],[]),(126,[1,2,3,4,5,6,7],[]),(508,[1,62],[]),(2036,[0],[]),(510,[1,3,8],[]),(2044,[1,101],[]),(8180,[0],[]),(4092,[1,119],[]),(16372,[0],[]),(4094,[0],[])]
abbrev f10_6:AC:=.seq (.ops [1,11] [] [vv 10 1,⟨none,.bin (some 11) (.nil .ptr) .eql (.r 10) (.c (.lit (.pointer none)))⟩]) (.cond (.r 11) (.seq (.ops [0] [] [⟨none,.mv (some 0) (.c (.lit (.bool false)))⟩]) .ret) .skip)
abbrev f10_12:AC:=.ops [1,2,3] [] [vv 13 1,⟨none,.call (some 14) false (.f 9) [(.r 13),(.c (.lit (.int .i64 2))),(.c (.lit (.int .i64 8))),(.c (.lit (.int .i64 1)))]⟩,vv 12 14,ve 15 12 0,ve 16 12 1,vo 2 15,vo 3 16]
abbrev f10_14:AC:=.ops [1,2,3,4,5] [] [vv 18 1,⟨none,.call (some 19) false (.f 9) [(.r 18),(.c (.lit (.int .i64 2))),(.c (.lit (.int .i64 5))),(.c (.lit (.int .i64 3)))]⟩,vv 17 19,ve 20 17 0,ve 21 17 1,vo 4 20,vo 5 21]
abbrev f10_16:AC:=.ops [1,2,3,4,5,6,7] [] [vv 23 1,⟨none,.call (some 24) false (.f 9) [(.r 23),(.c (.lit (.int .i64 2))),(.c (.lit (.int .i64 8))),(.c (.lit (.int .i64 2)))]⟩,vv 22 24,ve 25 22 0,ve 26 22 1,vo 6 25,vo 7 26]
abbrev f10_19:AC:=.ops [1,62] [] [vv 27 3,vb 28 .neq 27 0,vv 29 28,⟨some (29,false),.mv (some 30) (.r 5)⟩,⟨some (29,false),.bin (some 31) .num .neq (.r 30) (.c (.lit (.int .i64 0)))⟩,⟨none,.pick (some 32) (.r 29) (.c (.lit (.bool true))) (.r 31)⟩,vv 33 32,⟨some (33,false),.mv (some 34) (.r 7)⟩,⟨some (33,false),.bin (some 35) .num .neq (.r 34) (.c (.lit (.int .i64 0)))⟩,⟨none,.pick (some 36) (.r 33) (.c (.lit (.bool true))) (.r 35)⟩,vv 37 36,⟨some (37,false),.mv (some 38) (.r 2)⟩,⟨some (37,false),.bin (some 39) .num .neq (.r 38) (.c (.lit (.int .i64 0)))⟩,⟨none,.pick (some 40) (.r 37) (.c (.lit (.bool true))) (.r 39)⟩,vv 41 40,⟨some (41,false),.mv (some 42) (.r 4)⟩,⟨some (41,false),.bin (some 43) .num .neq (.r 42) (.c (.lit (.int .i64 1)))⟩,⟨none,.pick (some 44) (.r 41) (.c (.lit (.bool true))) (.r 43)⟩,vv 45 44,⟨some (45,false),.mv (some 46) (.r 6)⟩,⟨some (45,false),.bin (some 47) .num .neq (.r 46) (.c (.lit (.int .i64 2)))⟩,⟨none,.pick (some 48) (.r 45) (.c (.lit (.bool true))) (.r 47)⟩,vv 49 48,⟨some (49,false),.mv (some 50) (.r 1)⟩,⟨some (49,false),.bsl (some 51) 1 3 (.lit (.int .u8 0)) [(0,(.c (.lit (.int .u8 97)))),(1,(.c (.lit (.int .u8 98)))),(2,(.c (.lit (.int .u8 99))))]⟩,⟨some (49,false),.x (some 52) (.mark 51)⟩,⟨some (49,false),.call (some 53) false (.f 28) [(.r 50),(.c (.lit (.int .i64 2))),(.r 52)]⟩,⟨some (49,false),.bin (some 54) .num .neq (.r 53) (.c (.lit (.int .i64 0)))⟩,⟨none,.pick (some 55) (.r 49) (.c (.lit (.bool true))) (.r 54)⟩,vv 56 55,⟨some (56,false),.mv (some 57) (.r 1)⟩,⟨some (56,false),.bsl (some 58) 1 1 (.lit (.int .u8 0)) [(0,(.c (.lit (.int .u8 120))))]⟩,⟨some (56,false),.x (some 59) (.mark 58)⟩,⟨some (56,false),.call (some 60) false (.f 28) [(.r 57),(.c (.lit (.int .i64 2))),(.r 59)]⟩,⟨some (56,false),.bin (some 61) .num .neq (.r 60) (.c (.lit (.int .i64 16)))⟩,⟨none,.pick (some 62) (.r 56) (.c (.lit (.bool true))) (.r 61)⟩]
abbrev f10_24:AC:=.ops [1,3,8] [] [vv 64 1,⟨none,.bsl (some 65) 1 2 (.lit (.int .u8 0)) [(0,(.c (.lit (.int .u8 100)))),(1,(.c (.lit (.int .u8 101))))]⟩,⟨none,.x (some 66) (.mark 65)⟩,⟨none,.call (some 67) false (.f 29) [(.r 64),(.c (.lit (.int .i64 7))),(.c (.lit (.int .i64 2))),(.r 66)]⟩,vv 63 67,ve 68 63 0,ve 69 63 1,vo 8 68,vo 3 69]
abbrev f10_27:AC:=.ops [1,101] [] [vv 70 8,vv 71 70,⟨some (71,false),.mv (some 72) (.r 3)⟩,⟨some (71,false),.bin (some 73) .num .neq (.r 72) (.c (.lit (.int .i64 0)))⟩,⟨none,.pick (some 74) (.r 71) (.c (.lit (.bool true))) (.r 73)⟩,vv 75 74,⟨some (75,false),.mv (some 76) (.r 1)⟩,⟨some (75,false),.bst (some 77) [(0,1),(1,1),(2,1),(3,1)] (.agg [(.lit (.int .i64 0)),(.lit (.int .i64 0)),(.lit (.int .i64 0)),(.lit (.int .i64 0))]) [(0,(.c (.lit (.int .i64 7))))]⟩,⟨some (75,false),.bsl (some 78) 4 1 (.agg [(.lit (.int .i64 0)),(.lit (.int .i64 0)),(.lit (.int .i64 0)),(.lit (.int .i64 0))]) [(0,(.r 77))]⟩,⟨some (75,false),.call (some 79) false (.f 30) [(.r 76),(.c (.lit (.int .i64 1))),(.c (.lit (.string ⟨#[97,98,99]⟩))),(.r 78),(.c (.lit (.int .i64 0)))]⟩,⟨some (75,false),.un (some 80) .not (.r 79)⟩,⟨none,.pick (some 81) (.r 75) (.c (.lit (.bool true))) (.r 80)⟩,vv 82 81,⟨some (82,false),.mv (some 83) (.r 1)⟩,⟨some (82,false),.call (some 84) false (.f 15) [(.r 83),(.c (.lit (.int .i64 0)))]⟩,⟨some (82,false),.bin (some 85) .num .neq (.r 84) (.c (.lit (.int .i64 1)))⟩,⟨none,.pick (some 86) (.r 82) (.c (.lit (.bool true))) (.r 85)⟩,vv 87 86,⟨some (87,false),.mv (some 88) (.r 1)⟩,⟨some (87,false),.call (some 89) false (.f 14) [(.r 88),(.c (.lit (.int .i64 0)))]⟩,⟨some (87,false),.bin (some 90) .num .neq (.r 89) (.c (.lit (.int .i64 1)))⟩,⟨none,.pick (some 91) (.r 87) (.c (.lit (.bool true))) (.r 90)⟩,vv 92 91,⟨some (92,false),.mv (some 93) (.r 1)⟩,⟨some (92,false),.call (some 94) false (.f 15) [(.r 93),(.c (.lit (.int .i64 2)))]⟩,⟨some (92,false),.bin (some 95) .num .neq (.r 94) (.c (.lit (.int .i64 1)))⟩,⟨none,.pick (some 96) (.r 92) (.c (.lit (.bool true))) (.r 95)⟩,vv 97 96,⟨some (97,false),.mv (some 98) (.r 1)⟩,⟨some (97,false),.call (some 99) false (.f 14) [(.r 98),(.c (.lit (.int .i64 2)))]⟩,⟨some (97,false),.bin (some 100) .num .neq (.r 99) (.c (.lit (.int .i64 1)))⟩,⟨none,.pick (some 101) (.r 97) (.c (.lit (.bool true))) (.r 100)⟩]
abbrev f10_33:AC:=.ops [1,119] [] [vv 102 1,⟨none,.call (some 103) false (.f 30) [(.r 102),(.c (.lit (.int .i64 0))),(.c (.lit (.string ⟨#[100,101]⟩))),(.c (.lit (.slice none 0 0))),(.c (.lit (.int .i64 0)))]⟩,⟨none,.un (some 104) .not (.r 103)⟩,vv 105 104,⟨some (105,false),.mv (some 106) (.r 1)⟩,⟨some (105,false),.call (some 107) false (.f 30) [(.r 106),(.c (.lit (.int .i64 0))),(.c (.lit (.string ⟨#[]⟩))),(.c (.lit (.slice none 0 0))),(.c (.lit (.int .i64 16)))]⟩,⟨some (105,false),.un (some 108) .not (.r 107)⟩,⟨none,.pick (some 109) (.r 105) (.c (.lit (.bool true))) (.r 108)⟩,vv 110 109,⟨some (110,false),.mv (some 111) (.r 1)⟩,⟨some (110,false),.call (some 112) false (.f 30) [(.r 111),(.c (.lit (.int .i64 2))),(.c (.lit (.string ⟨#[97,98,99]⟩))),(.c (.lit (.slice none 0 0))),(.c (.lit (.int .i64 0)))]⟩,⟨some (110,false),.un (some 113) .not (.r 112)⟩,⟨none,.pick (some 114) (.r 110) (.c (.lit (.bool true))) (.r 113)⟩,vv 115 114,⟨some (115,false),.mv (some 116) (.r 1)⟩,⟨some (115,false),.call (some 117) false (.f 30) [(.r 116),(.c (.lit (.int .i64 3))),(.c (.lit (.string ⟨#[]⟩))),(.c (.lit (.slice none 0 0))),(.c (.lit (.int .i64 9)))]⟩,⟨some (115,false),.un (some 118) .not (.r 117)⟩,⟨none,.pick (some 119) (.r 115) (.c (.lit (.bool true))) (.r 118)⟩]
abbrev f10_38:AC:=.ops [0] [] [vv 120 1,⟨none,.bsl (some 121) 1 5 (.lit (.int .u8 0)) [(0,(.c (.lit (.int .u8 49)))),(1,(.c (.lit (.int .u8 50)))),(2,(.c (.lit (.int .u8 51)))),(3,(.c (.lit (.int .u8 52)))),(4,(.c (.lit (.int .u8 53))))]⟩,⟨none,.x (some 122) (.mark 121)⟩,⟨none,.call (some 123) false (.f 28) [(.r 120),(.c (.lit (.int .i64 2))),(.r 122)]⟩,vb 124 .eql 123 0,vv 125 124,⟨some (125,true),.mv (some 126) (.r 1)⟩,⟨some (125,true),.call (some 127) false (.f 14) [(.r 126),(.c (.lit (.int .i64 0)))]⟩,⟨some (125,true),.bin (some 128) .num .eql (.r 127) (.c (.lit (.int .i64 1)))⟩,⟨none,.pick (some 129) (.r 125) (.r 128) (.c (.lit (.bool false)))⟩,vv 130 129,⟨some (130,true),.mv (some 131) (.r 1)⟩,⟨some (130,true),.call (some 132) false (.f 14) [(.r 131),(.c (.lit (.int .i64 1)))]⟩,⟨some (130,true),.bin (some 133) .num .eql (.r 132) (.c (.lit (.int .i64 1)))⟩,⟨none,.pick (some 134) (.r 130) (.r 133) (.c (.lit (.bool false)))⟩,vv 135 134,⟨some (135,true),.mv (some 136) (.r 1)⟩,⟨some (135,true),.call (some 137) false (.f 15) [(.r 136),(.c (.lit (.int .i64 2)))]⟩,⟨some (135,true),.bin (some 138) .num .eql (.r 137) (.c (.lit (.int .i64 1)))⟩,⟨none,.pick (some 139) (.r 135) (.r 138) (.c (.lit (.bool false)))⟩,vo 0 139]
abbrev f10_25:AC:=.seq (.seq f10_27 (.cond (.r 101) (.seq (.ops [0] [] [⟨none,.mv (some 0) (.c (.lit (.bool false)))⟩]) .ret) .skip)) (.seq (.seq f10_33 (.cond (.r 119) (.seq (.ops [0] [] [⟨none,.mv (some 0) (.c (.lit (.bool false)))⟩]) .ret) .skip)) (.seq f10_38 .ret))
abbrev f10_13:AC:=.seq f10_14 (.seq f10_16 (.seq (.seq f10_19 (.cond (.r 62) (.seq (.ops [0] [] [⟨none,.mv (some 0) (.c (.lit (.bool false)))⟩]) .ret) .skip)) (.seq f10_24 f10_25)))
abbrev f10_1:AC:=.seq (.ops [] [] [⟨none,.mv (some 0) (.c (.lit (.bool false)))⟩]) (.seq (.ops [1] [] [⟨none,.call (some 9) false (.f 8) []⟩,vo 1 9]) (.seq f10_6 (.seq f10_12 f10_13)))
def c_f10:AFun:=⟨140,[.tmp 0],f10_1⟩
theorem k_f10:kX x_f10 10 c_f10:=by delta kX; kernel_rfl
theorem e_f10:eX 10:=by delta eX; kernel_rfl

def n_f11:Nat:=11
def x_f11:=xX 25 [0,1,4,5,6,7,9,10,11,12,15,19,23,24] [] [(2,[0,1],[]),(12,[0,1,8],[]),(52,[4,5],[]),(14,[0,1,6],[]),(60,[0,1,6,13],[]),(244,[4,5],[]),(62,[0,6],[]),(126,[4,5],[])]
abbrev f11_4:AC:=.seq (.ops [0,1,8] [] [vv 7 0,⟨none,.call (some 8) false (.f 24) [(.r 7)]⟩]) (.cond (.r 8) (.seq (.ops [4,5] [] [⟨none,.mv (some 4) (.c (.lit (.slice none 0 0)))⟩,⟨none,.mv (some 5) (.c (.lit (.int .i64 1)))⟩]) .ret) .skip)
abbrev f11_12:AC:=.seq (.ops [0,1,6,13] [] [vv 12 6,⟨none,.bin (some 13) (.nil .ptr) .eql (.r 12) (.c (.lit (.pointer none)))⟩]) (.cond (.r 13) (.seq (.ops [4,5] [] [⟨none,.mv (some 4) (.c (.lit (.slice none 0 0)))⟩,⟨none,.mv (some 5) (.c (.lit (.int .i64 9)))⟩]) .ret) .skip)
abbrev f11_18:AC:=.ops [0,6] [] [vv 14 0,vv 15 1,vn 16 14,vd 17 16 0,⟨none,.ixA (some 18) (.r 17) (.r 15) 64 1⟩,⟨none,.store 1 (.r 18) (.c (.lit (.pointer none)))⟩]
abbrev f11_20:AC:=.ops [4,5] [] [vv 19 0,vv 20 6,vn 21 20,vd 22 21 0,vl 23 22,⟨none,.call (some 24) false (.f 32) [(.r 19),(.r 23)]⟩,vo 4 24,⟨none,.mv (some 5) (.c (.lit (.int .i64 0)))⟩]
abbrev f11_9:AC:=.seq (.ops [0,1,6] [] [vv 9 0,vv 10 1,⟨none,.call (some 11) false (.f 31) [(.r 9),(.r 10)]⟩,vo 6 11]) (.seq f11_12 (.seq f11_18 (.seq f11_20 .ret)))
abbrev f11_1:AC:=.seq (.ops [0,1] [] [⟨none,.mv (some 4) (.c (.lit (.slice none 0 0)))⟩,⟨none,.mv (some 5) (.c (.lit (.int .i64 0)))⟩]) (.seq f11_4 f11_9)
def c_f11:AFun:=⟨25,[.tmp 4,.tmp 5],f11_1⟩
theorem k_f11:kX x_f11 11 c_f11:=by delta kX; kernel_rfl
theorem e_f11:eX 11:=by delta eX; kernel_rfl

def n_f12:Nat:=12
def x_f12:=xX 17 [0,2,3,4,5,6,8,9,11,14,15] [] [(2,[0],[]),(12,[0,3],[]),(26,[0,3],[]),(208,[0,3,7],[]),(419,[],[]),(840,[0,3,16],[]),(3364,[2],[]),(211,[0,3],[]),(14,[2],[])]
abbrev f12_9:AC:=.seq (.ops [0,3,7] [] [vv 4 3,vv 5 0,⟨none,.len (some 6) .sl (.r 5)⟩,⟨none,.bin (some 7) .num .lss (.r 4) (.r 6)⟩]) (.cond (.r 7) .skip (.exit [] [] 0))
abbrev f12_15:AC:=.ops [0,3,16] [] [vv 10 0,vv 11 3,⟨none,.ixS (some 12) (.r 10) (.r 11) 6⟩,vd 13 12 5,vl 14 13,⟨none,.len (some 15) .sl (.r 14)⟩,vb 16 .gtr 15 1030]
abbrev f12_12:AC:=.seq (.block 1 (.seq f12_15 (.cond (.r 16) (.seq (.ops [2] [] [⟨none,.mv (some 2) (.c (.lit (.bool false)))⟩]) .ret) .skip))) (.ops [0,3] [] [vv 8 3,vb 9 .add 8 1,vo 3 9])
abbrev f12_8:AC:=.seq f12_9 f12_12
def f12_7:AC:=.loop [0,3] [] f12_8
theorem f12_7w:aC P id m f12_7 sf st Q = ar (aC P id m f12_8) [0,3] [] sf st Q:=rfl
abbrev f12_3:AC:=.seq (.seq (.ops [0,3] [] [⟨none,.mv (some 3) (.c (.lit (.int .i64 0)))⟩]) (.block 0 f12_7)) (.seq (.ops [2] [] [⟨none,.mv (some 2) (.c (.lit (.bool true)))⟩]) .ret)
abbrev f12_1:AC:=.seq (.ops [0] [] [⟨none,.mv (some 2) (.c (.lit (.bool false)))⟩]) f12_3
def c_f12:AFun:=⟨17,[.tmp 2],f12_1⟩
theorem k_f12:kX x_f12 12 c_f12:=by delta kX; kernel_rfl
theorem e_f12:eX 12:=by delta eX; kernel_rfl

def n_f13:Nat:=13
def x_f13:=xX 78 [0,1,6,8,9,10,12,13,14,15,18,19,20,22,24,26,27,28,29,32,33,35,37,38,40,41,42,44,46,48,49,50,51,54,55,56,58,59,60,61,62,66,67,68,70,71,72,73,75,77] [] [(2,[0,3,4],[3,4]),(6,[0,3,4,5],[3,4,5]),(14,[0,3,4,5],[3,4,5]),(60,[0,3,4,5,8],[3,4,5]),(244,[0,3,4,5,8,17],[3,4,5]),(490,[4,5,6],[4,5]),(982,[0,3,4,5,8,31],[3,4,5]),(1966,[4,5,6],[4,5]),(3934,[0,3,4,5,8,39],[3,4,5]),(7870,[4,5,6],[4,5]),(15742,[0,3,4,5,8,53],[3,4,5]),(31486,[4,5,6],[4,5]),(62974,[0,3,4,5,65],[3,4,5]),(125950,[4,5,6],[4,5]),(125951,[4,5,6],[4,5]),(62,[4,5],[4,5]),(126,[4],[4])]
abbrev f13_2:AC:=.ops [0,3,4] [3,4] [⟨none,.boxL 3 6 (.r 1)⟩,⟨none,.newL 4 [(.lit (.int .i64 0)),(.lit (.bool false)),(.lit (.slice none 0 0)),(.lit (.slice none 0 0)),(.lit (.int .i64 0))]⟩]
abbrev f13_4:AC:=.ops [0,3,4,5] [3,4,5] [⟨none,.newL 5 [(.lit (.int .i64 0)),(.lit (.bool false)),(.lit (.slice none 0 0)),(.lit (.slice none 0 0)),(.lit (.int .i64 0))]⟩]
abbrev f13_14:AC:=.ops [4,5,6] [4,5] [vv 20 0,vd 21 3 2,vl 22 21,vd 23 3 3,vl 24 23,vd 25 3 4,vl 26 25,⟨none,.call (some 27) false (.f 9) [(.r 20),(.r 22),(.r 24),(.r 26)]⟩,vv 19 27,ve 28 19 0,ve 29 19 1,vd 30 5 0,⟨none,.store 1 (.r 30) (.r 28)⟩,vo 6 29]
abbrev f13_22:AC:=.ops [4,5,6] [4,5] [vv 42 0,vd 43 3 1,vl 44 43,vd 45 3 2,vl 46 45,vd 47 3 5,vl 48 47,⟨none,.call (some 49) false (.f 29) [(.r 42),(.r 44),(.r 46),(.r 48)]⟩,vv 41 49,ve 50 41 0,ve 51 41 1,vd 52 5 1,⟨none,.store 1 (.r 52) (.r 50)⟩,vo 6 51]
abbrev f13_26:AC:=.ops [4,5,6] [4,5] [vv 56 0,vd 57 3 3,vl 58 57,⟨none,.call (some 59) false (.f 33) [(.r 56),(.r 58)]⟩,vv 55 59,ve 60 55 0,ve 61 55 1,ve 62 55 2,vd 63 5 2,⟨none,.store 1 (.r 63) (.r 60)⟩,vd 64 5 3,⟨none,.store 1 (.r 64) (.r 61)⟩,vo 6 62]
abbrev f13_30:AC:=.ops [4,5,6] [4,5] [vv 68 0,vd 69 3 3,vl 70 69,⟨none,.call (some 71) false (.f 11) [(.r 68),(.r 70)]⟩,vv 67 71,ve 72 67 0,ve 73 67 1,vd 74 5 3,⟨none,.store 1 (.r 74) (.r 72)⟩,vo 6 73]
abbrev f13_31:AC:=.ops [4,5,6] [4,5] [vv 10 0,vd 11 3 1,vl 12 11,⟨none,.call (some 13) false (.f 34) [(.r 10),(.r 12)]⟩,vv 9 13,ve 14 9 0,ve 15 9 1,vd 16 5 3,⟨none,.store 1 (.r 16) (.r 14)⟩,vo 6 15]
abbrev f13_23:AC:=.seq (.ops [0,3,4,5,8,53] [3,4,5] [vb 54 .eql 8 3,vo 53 54]) (.cond (.r 53) f13_26 (.seq (.ops [0,3,4,5,65] [3,4,5] [vb 66 .eql 8 4,vo 65 66]) (.cond (.r 65) f13_30 f13_31)))
abbrev f13_17:AC:=.cond (.r 31) (.ops [4,5,6] [4,5] [vv 33 0,vd 34 3 2,vl 35 34,vd 36 3 5,vl 37 36,⟨none,.call (some 38) false (.f 28) [(.r 33),(.r 35),(.r 37)]⟩,vo 6 38]) (.seq (.ops [0,3,4,5,8,39] [3,4,5] [vb 40 .eql 8 2,vo 39 40]) (.cond (.r 39) f13_22 f13_23))
abbrev f13_11:AC:=.seq (.ops [0,3,4,5,8,17] [3,4,5] [vb 18 .eql 8 0,vo 17 18]) (.cond (.r 17) f13_14 (.seq (.ops [0,3,4,5,8,31] [3,4,5] [vb 32 .eql 8 1,vo 31 32]) f13_17))
abbrev f13_32:AC:=.seq (.ops [4,5] [4,5] [vv 75 6,vd 76 5 4,⟨none,.store 1 (.r 76) (.r 75)⟩]) (.seq (.ops [4] [4] [⟨none,.load (some 77) (.r 5) (some 5)⟩,⟨none,.store 5 (.r 4) (.r 77)⟩]) .ret)
abbrev f13_5:AC:=.seq (.ops [0,3,4,5] [3,4,5] [⟨none,.mv (some 6) (.c (.lit (.int .i64 0)))⟩]) (.seq (.seq (.ops [0,3,4,5,8] [3,4,5] [vd 7 3 0,vl 8 7]) (.block 0 f13_11)) f13_32)
abbrev f13_1:AC:=.seq f13_2 (.seq f13_4 f13_5)
def c_f13:AFun:=⟨78,[.cell 4 (some 5)],f13_1⟩
theorem k_f13:kX x_f13 13 c_f13:=by delta kX; kernel_rfl
theorem e_f13:eX 13:=by delta eX; kernel_rfl

def n_f14:Nat:=14
def x_f14:=xX 15 [0,1,4,5,6,7,8,9,14] [] [(2,[0,1],[]),(12,[5],[]),(26,[5,10],[]),(108,[4],[]),(14,[4],[])]
abbrev f14_6:AC:=.seq (.ops [5,10] [] [vv 9 5,⟨none,.bin (some 10) (.nil .ptr) .neq (.r 9) (.c (.lit (.pointer none)))⟩]) (.cond (.r 10) (.seq (.ops [4] [] [vv 11 5,vn 12 11,vd 13 12 4,vl 14 13,vo 4 14]) .ret) .skip)
abbrev f14_3:AC:=.seq (.seq (.ops [5] [] [vv 6 0,vv 7 1,⟨none,.call (some 8) false (.f 31) [(.r 6),(.r 7)]⟩,vo 5 8]) f14_6) (.seq (.ops [4] [] [⟨none,.mv (some 4) (.c (.lit (.int .i64 0)))⟩]) .ret)
abbrev f14_1:AC:=.seq (.ops [0,1] [] [⟨none,.mv (some 4) (.c (.lit (.int .i64 0)))⟩]) f14_3
def c_f14:AFun:=⟨15,[.tmp 4],f14_1⟩
theorem k_f14:kX x_f14 14 c_f14:=by delta kX; kernel_rfl
theorem e_f14:eX 14:=by delta eX; kernel_rfl

def n_f15:Nat:=15
def x_f15:=xX 15 [0,1,4,5,6,7,8,9,14] [] [(2,[0,1],[]),(12,[5],[]),(26,[5,10],[]),(108,[4],[]),(14,[4],[])]
abbrev f15_6:AC:=.seq (.ops [5,10] [] [vv 9 5,⟨none,.bin (some 10) (.nil .ptr) .neq (.r 9) (.c (.lit (.pointer none)))⟩]) (.cond (.r 10) (.seq (.ops [4] [] [vv 11 5,vn 12 11,vd 13 12 3,vl 14 13,vo 4 14]) .ret) .skip)
abbrev f15_3:AC:=.seq (.seq (.ops [5] [] [vv 6 0,vv 7 1,⟨none,.call (some 8) false (.f 31) [(.r 6),(.r 7)]⟩,vo 5 8]) f15_6) (.seq (.ops [4] [] [⟨none,.mv (some 4) (.c (.lit (.int .i64 0)))⟩]) .ret)
abbrev f15_1:AC:=.seq (.ops [0,1] [] [⟨none,.mv (some 4) (.c (.lit (.int .i64 0)))⟩]) f15_3
def c_f15:AFun:=⟨15,[.tmp 4],f15_1⟩
theorem k_f15:kX x_f15 15 c_f15:=by delta kX; kernel_rfl
theorem e_f15:eX 15:=by delta eX; kernel_rfl

def n_f16:Nat:=16
def x_f16:=xX 10 [0,1,4,5,6,7,8,9] [] [(2,[0,1],[]),(6,[4],[])]
abbrev f16_4:AC:=.ops [4] [] [vv 5 0,⟨none,.conv (some 6) .bs (.r 5)⟩,vv 7 1,⟨none,.conv (some 8) .bs (.r 7)⟩,⟨none,.bin (some 9) .num .eql (.r 6) (.r 8)⟩,vo 4 9]
abbrev f16_1:AC:=.seq (.ops [0,1] [] [⟨none,.mv (some 4) (.c (.lit (.bool false)))⟩]) (.seq f16_4 .ret)
def c_f16:AFun:=⟨10,[.tmp 4],f16_1⟩
theorem k_f16:kX x_f16 16 c_f16:=by delta kX; kernel_rfl
theorem e_f16:eX 16:=by delta eX; kernel_rfl

def n_f17:Nat:=17
def x_f17:=xX 65 [0,1,4,5,6,7,8,9,10,12,13,14,15,16,17,21,24,25,28,31,32,33,34,35,36,37,38,39,40,41,42,44,46,47,48,49,50,51,52,53,54,55,56,57,58,59,60,61,62,63] [] [(2,[0,3],[3]),(12,[0,3,5],[3]),(26,[0,3,5],[3]),(208,[0,3,5,11],[3]),(419,[0,3],[3]),(840,[0,3,5,6,7],[3]),(3364,[0,3,5,6,7,8],[3]),(6730,[0,3,5,6,7,8,18],[3]),(13462,[0,3,5,6,7],[3]),(3366,[0,3,5,43],[3]),(13468,[4],[]),(211,[0,3,5],[3]),(28,[0,3,9],[3]),(58,[0,3,9],[3]),(464,[0,3,9,45],[3]),(931,[],[]),(1864,[0,3,9,64],[3]),(7460,[4],[]),(467,[0,3,9],[3]),(30,[4],[])]
abbrev f17_22:AC:=.draw [0,3,5,6,7] [3] [] [vd 19 3 0,vl 20 19,vv 21 8,⟨none,.ixS (some 22) (.r 20) (.r 21) 6⟩,vd 23 22 4,vl 24 23,⟨none,.len (some 25) .sl (.r 24)⟩,vd 26 3 0,vl 27 26,vv 28 8,⟨none,.ixS (some 29) (.r 27) (.r 28) 6⟩,vd 30 29 5,vl 31 30,vv 6 25] [vo 7 31]
abbrev f17_17:AC:=.seq (.ops [0,3,5,6,7,8] [3] [⟨none,.load (some 14) (.r 3) (some 2)⟩,vv 15 5,⟨none,.call (some 16) false (.f 35) [(.r 14),(.r 15)]⟩,vo 8 16]) (.seq (.ops [0,3,5,6,7,8,18] [3] [vv 17 8,vb 18 .geq 17 0]) (.cond (.r 18) f17_22 .skip))
abbrev f17_24:AC:=.ops [0,3,5,43] [3] [vv 32 0,vv 33 5,⟨none,.call (some 34) false (.f 15) [(.r 32),(.r 33)]⟩,vv 35 6,⟨none,.bin (some 36) .num .neq (.r 34) (.r 35)⟩,vv 37 36,⟨some (37,false),.mv (some 38) (.r 0)⟩,⟨some (37,false),.mv (some 39) (.r 5)⟩,⟨some (37,false),.call (some 40) false (.f 14) [(.r 38),(.r 39)]⟩,⟨some (37,false),.mv (some 41) (.r 7)⟩,⟨some (37,false),.bin (some 42) .num .neq (.r 40) (.r 41)⟩,⟨none,.pick (some 43) (.r 37) (.c (.lit (.bool true))) (.r 42)⟩]
abbrev f17_14:AC:=.seq (.ops [0,3,5,6,7] [3] [⟨none,.mv (some 6) (.c (.lit (.int .i64 0)))⟩,⟨none,.mv (some 7) (.c (.lit (.int .i64 0)))⟩]) (.seq f17_17 (.seq f17_24 (.cond (.r 43) (.seq (.ops [4] [] [⟨none,.mv (some 4) (.c (.lit (.bool false)))⟩]) .ret) .skip)))
abbrev f17_8:AC:=.seq (.seq (.ops [0,3,5,11] [3] [vv 10 5,vb 11 .leq 10 64]) (.cond (.r 11) .skip (.exit [0,3] [3] 0))) (.seq (.block 1 f17_14) (.ops [0,3,5] [3] [vv 12 5,vb 13 .add 12 1,vo 5 13]))
def f17_7:AC:=.loop [0,3,5] [3] f17_8
theorem f17_7w:aC P id m f17_7 sf st Q = ar (aC P id m f17_8) [0,3,5] [3] sf st Q:=rfl
abbrev f17_41:AC:=.draw [0,3,9,64] [3] [] [vv 48 0,vv 49 9,⟨none,.call (some 50) true (.f 21) [(.r 48),(.r 49)]⟩,⟨none,.load (some 51) (.r 3) (some 2)⟩,vv 52 9,⟨none,.call (some 53) true (.f 36) [(.r 51),(.r 52)]⟩,⟨none,.bin (some 54) .num .neq (.r 50) (.r 53)⟩,vv 55 54,⟨some (55,false),.mv (some 56) (.r 0)⟩,⟨some (55,false),.mv (some 57) (.r 9)⟩,⟨some (55,false),.call (some 58) true (.f 22) [(.r 56),(.r 57)]⟩,⟨some (55,false),.load (some 59) (.r 3) (some 2)⟩,⟨some (55,false),.mv (some 60) (.r 9)⟩] [⟨some (55,false),.call (some 61) false (.f 38) [(.r 59),(.r 60)]⟩,⟨some (55,false),.call (some 62) false (.f 37) [(.r 58),(.r 61)]⟩,⟨some (55,false),.un (some 63) .not (.r 62)⟩,⟨none,.pick (some 64) (.r 55) (.c (.lit (.bool true))) (.r 63)⟩]
abbrev f17_38:AC:=.seq (.block 3 (.seq f17_41 (.cond (.r 64) (.seq (.ops [4] [] [⟨none,.mv (some 4) (.c (.lit (.bool false)))⟩]) .ret) .skip))) (.ops [0,3,9] [3] [vv 46 9,vb 47 .add 46 1,vo 9 47])
abbrev f17_34:AC:=.seq (.seq (.ops [0,3,9,45] [3] [vv 44 9,vb 45 .leq 44 16]) (.cond (.r 45) .skip (.exit [] [] 2))) f17_38
def f17_33:AC:=.loop [0,3,9] [3] f17_34
theorem f17_33w:aC P id m f17_33 sf st Q = ar (aC P id m f17_34) [0,3,9] [3] sf st Q:=rfl
abbrev f17_29:AC:=.seq (.seq (.ops [0,3,9] [3] [⟨none,.mv (some 9) (.c (.lit (.int .i64 (-1))))⟩]) (.block 2 f17_33)) (.seq (.ops [4] [] [⟨none,.mv (some 4) (.c (.lit (.bool true)))⟩]) .ret)
abbrev f17_1:AC:=.seq (.ops [0,3] [3] [⟨none,.boxL 3 2 (.r 1)⟩,⟨none,.mv (some 4) (.c (.lit (.bool false)))⟩]) (.seq (.seq (.ops [0,3,5] [3] [⟨none,.mv (some 5) (.c (.lit (.int .i64 (-1))))⟩]) (.block 0 f17_7)) f17_29)
def c_f17:AFun:=⟨65,[.tmp 4],f17_1⟩
theorem k_f17:kX x_f17 17 c_f17:=by delta kX; kernel_rfl
theorem e_f17:eX 17:=by delta eX; kernel_rfl

def n_f18:Nat:=18
def x_f18:=xX 85 [0,1,2,7,8,13,14,15,16,17,19,20,22,24,26,29,30,32,33,35,37,38,39,40,41,42,43,44,46,47,49,50,53,55,56,58,59,60,61,62,63,64,65,66,68,69,71,72,74,75,78,80,81,83,84] [30,38,52,77] [(2,[0,2,4,6],[4,6]),(12,[0,2,4,6,8],[4,6]),(26,[0,2,4,6,8],[4,6]),(208,[0,2,4,6,8,18],[4,6]),(419,[4,6],[4,6]),(840,[0,2,4,6,8,9],[4,6,9]),(1682,[0,2,4,6,8,9],[4,6,9]),(3366,[0,2,4,6,8,9,10,11],[4,6,9,10,11]),(6734,[0,2,4,6,8,9,10,11,12],[4,6,9,10,11,12]),(26940,[0,2,4,6,8,9,10,11,12,13],[4,6,9,10,11,12]),(53882,[0,2,4,6,8,9,10,11,12,13],[4,6,9,10,11,12]),(431056,[0,2,4,6,8,9,10,11,12,13,48],[4,6,9,10,11,12]),(862115,[0,2,4,6,8,10,11,12],[4,6,10,11,12]),(862116,[0,2,4,6,8,9,10,11,12,13],[4,6,9,10,11,12]),(431059,[0,2,4,6,8,9,10,11,12,13],[4,6,9,10,11,12]),(53884,[0,2,4,6,8,10,12,67],[4,6,10,12]),(215540,[6,7],[6]),(107772,[0,2,4,6,8,10,12,14],[4,6,10,12]),(215546,[0,2,4,6,8,10,12,14],[4,6,10,12]),(1724368,[0,2,4,6,8,10,12,14,73],[4,6,10,12]),(3448739,[0,2,4,6,8,10],[4,6,10]),(3448740,[0,2,4,6,8,10,12,14],[4,6,10,12]),(1724371,[0,2,4,6,8,10,12,14],[4,6,10,12]),(53887,[0,2,4,6,8],[4,6]),(211,[0,2,4,6,8],[4,6]),(14,[6,7],[6])]
abbrev f18_2:AC:=.ops [0,2,4,6] [4,6] [⟨none,.boxL 4 2 (.r 1)⟩,⟨none,.newL 6 [(.lit (.slice none 0 0)),(.lit (.slice none 0 0))]⟩,⟨none,.mv (some 7) (.c (.lit (.bool false)))⟩]
abbrev f18_9:AC:=.seq (.ops [0,2,4,6,8,18] [4,6] [vv 15 8,vv 16 2,⟨none,.len (some 17) .sl (.r 16)⟩,⟨none,.bin (some 18) .num .lss (.r 15) (.r 17)⟩]) (.cond (.r 18) .skip (.exit [4,6] [4,6] 0))
abbrev f18_15:AC:=.ops [0,2,4,6,8,9] [4,6,9] [vv 21 2,vv 22 8,⟨none,.ixS (some 23) (.r 21) (.r 22) 6⟩,⟨none,.load (some 24) (.r 23) (some 6)⟩,⟨none,.newL 9 [(.lit (.int .i64 0)),(.lit (.int .i64 0)),(.lit (.int .i64 0)),(.lit (.int .i64 0)),(.lit (.int .i64 0)),(.lit (.slice none 0 0))]⟩,⟨none,.store 6 (.r 9) (.r 24)⟩]
abbrev f18_17:AC:=.ops [0,2,4,6,8,9] [4,6,9] [vv 25 2,vv 26 8,⟨none,.ixS (some 27) (.r 25) (.r 26) 6⟩,vd 28 27 5,vl 29 28,⟨none,.x (some 30) (.appB (.c (.lit (.slice none 0 0))) 1 1 (.r 29))⟩,vd 31 9 5,⟨none,.store 1 (.r 31) (.r 30)⟩]
abbrev f18_19:AC:=.drawM [0,2,4,6,8,9,10,11] [4,6,9,10,11] [⟨none,.load (some 33) (.r 4) (some 2)⟩,vv 34 2,vv 35 8,⟨none,.ixS (some 36) (.r 34) (.r 35) 6⟩,⟨none,.load (some 37) (.r 36) (some 6)⟩] (some 38) (.f 39) [(.r 33),(.r 37)] [(true,vv 32 38),(true,ve 39 32 0),(true,ve 40 32 1),(false,⟨none,.newL 10 [(.lit (.slice none 0 0)),(.lit (.slice none 0 0))]⟩),(false,⟨none,.newL 11 [(.lit (.int .i64 0)),(.lit (.bool false)),(.lit (.slice none 0 0)),(.lit (.slice none 0 0)),(.lit (.int .i64 0))]⟩),(true,⟨none,.store 2 (.r 10) (.r 39)⟩)] [⟨none,.store 5 (.r 11) (.r 40)⟩]
abbrev f18_21:AC:=.ops [0,2,4,6,8,9,10,11,12] [4,6,9,10,11,12] [vv 41 0,⟨none,.load (some 42) (.r 9) (some 6)⟩,⟨none,.call (some 43) false (.f 13) [(.r 41),(.r 42)]⟩,⟨none,.newL 12 [(.lit (.int .i64 0)),(.lit (.bool false)),(.lit (.slice none 0 0)),(.lit (.slice none 0 0)),(.lit (.int .i64 0))]⟩,⟨none,.store 5 (.r 12) (.r 43)⟩]
abbrev f18_29:AC:=.ops [0,2,4,6,8,9,10,11,12,13,48] [4,6,9,10,11,12] [vv 44 13,vd 45 9 5,vl 46 45,⟨none,.len (some 47) .sl (.r 46)⟩,⟨none,.bin (some 48) .num .lss (.r 44) (.r 47)⟩]
abbrev f18_33:AC:=.ops [0,2,4,6,8,9,10,11,12,13] [4,6,9,10,11,12] [vd 51 9 5,vl 52 51,vv 53 13,⟨none,.ixS (some 54) (.r 52) (.r 53) 1⟩,vl 55 54,⟨none,.bin (some 56) .num .add (.r 55) (.c (.lit (.int .u8 1)))⟩,⟨none,.ixS (some 57) (.r 52) (.r 53) 1⟩,⟨none,.store 1 (.r 57) (.r 56)⟩]
abbrev f18_27:AC:=.seq (.seq f18_29 (.cond (.r 48) .skip (.exit [0,2,4,6,8,10,11,12] [4,6,10,11,12] 2))) (.seq (.block 3 f18_33) (.ops [0,2,4,6,8,9,10,11,12,13] [4,6,9,10,11,12] [vv 49 13,vb 50 .add 49 1,vo 13 50]))
def f18_26:AC:=.loop [0,2,4,6,8,9,10,11,12,13] [4,6,9,10,11,12] f18_27
theorem f18_26w:aC P id m f18_26 sf st Q = ar (aC P id m f18_27) [0,2,4,6,8,9,10,11,12,13] [4,6,9,10,11,12] sf st Q:=rfl
abbrev f18_37:AC:=.ops [0,2,4,6,8,10,12,67] [4,6,10,12] [⟨none,.load (some 58) (.r 12) (some 5)⟩,⟨none,.load (some 59) (.r 11) (some 5)⟩,⟨none,.call (some 60) false (.f 20) [(.r 58),(.r 59)]⟩,⟨none,.un (some 61) .not (.r 60)⟩,vv 62 61,⟨some (62,false),.mv (some 63) (.r 0)⟩,⟨some (62,false),.load (some 64) (.r 10) (some 2)⟩,⟨some (62,false),.call (some 65) false (.f 17) [(.r 63),(.r 64)]⟩,⟨some (62,false),.un (some 66) .not (.r 65)⟩,⟨none,.pick (some 67) (.r 62) (.c (.lit (.bool true))) (.r 66)⟩]
abbrev f18_38:AC:=.cond (.r 67) (.seq (.ops [6,7] [6] [⟨none,.load (some 68) (.r 4) (some 2)⟩,⟨none,.store 2 (.r 6) (.r 68)⟩,⟨none,.mv (some 7) (.c (.lit (.bool false)))⟩]) .ret) .skip
abbrev f18_48:AC:=.ops [0,2,4,6,8,10,12,14,73] [4,6,10,12] [vv 69 14,vd 70 12 2,vl 71 70,⟨none,.len (some 72) .sl (.r 71)⟩,⟨none,.bin (some 73) .num .lss (.r 69) (.r 72)⟩]
abbrev f18_52:AC:=.ops [0,2,4,6,8,10,12,14] [4,6,10,12] [vd 76 12 2,vl 77 76,vv 78 14,⟨none,.ixS (some 79) (.r 77) (.r 78) 1⟩,vl 80 79,⟨none,.bin (some 81) .num .add (.r 80) (.c (.lit (.int .u8 1)))⟩,⟨none,.ixS (some 82) (.r 77) (.r 78) 1⟩,⟨none,.store 1 (.r 82) (.r 81)⟩]
abbrev f18_46:AC:=.seq (.seq f18_48 (.cond (.r 73) .skip (.exit [0,2,4,6,8,10] [4,6,10] 4))) (.seq (.block 5 f18_52) (.ops [0,2,4,6,8,10,12,14] [4,6,10,12] [vv 74 14,vb 75 .add 74 1,vo 14 75]))
def f18_45:AC:=.loop [0,2,4,6,8,10,12,14] [4,6,10,12] f18_46
theorem f18_45w:aC P id m f18_45 sf st Q = ar (aC P id m f18_46) [0,2,4,6,8,10,12,14] [4,6,10,12] sf st Q:=rfl
abbrev f18_41:AC:=.seq (.seq (.ops [0,2,4,6,8,10,12,14] [4,6,10,12] [⟨none,.mv (some 14) (.c (.lit (.int .i64 0)))⟩]) (.block 4 f18_45)) (.ops [0,2,4,6,8] [4,6] [⟨none,.load (some 83) (.r 10) (some 2)⟩,⟨none,.store 2 (.r 4) (.r 83)⟩])
abbrev f18_22:AC:=.seq (.seq (.ops [0,2,4,6,8,9,10,11,12,13] [4,6,9,10,11,12] [⟨none,.mv (some 13) (.c (.lit (.int .i64 0)))⟩]) (.block 2 f18_26)) (.seq (.seq f18_37 f18_38) f18_41)
abbrev f18_8:AC:=.seq f18_9 (.seq (.block 1 (.seq f18_15 (.seq f18_17 (.seq f18_19 (.seq f18_21 f18_22))))) (.ops [0,2,4,6,8] [4,6] [vv 19 8,vb 20 .add 19 1,vo 8 20]))
def f18_7:AC:=.loop [0,2,4,6,8] [4,6] f18_8
theorem f18_7w:aC P id m f18_7 sf st Q = ar (aC P id m f18_8) [0,2,4,6,8] [4,6] sf st Q:=rfl
abbrev f18_3:AC:=.seq (.seq (.ops [0,2,4,6,8] [4,6] [⟨none,.mv (some 8) (.c (.lit (.int .i64 0)))⟩]) (.block 0 f18_7)) (.seq (.ops [6,7] [6] [⟨none,.load (some 84) (.r 4) (some 2)⟩,⟨none,.store 2 (.r 6) (.r 84)⟩,⟨none,.mv (some 7) (.c (.lit (.bool true)))⟩]) .ret)
abbrev f18_1:AC:=.seq f18_2 f18_3
def c_f18:AFun:=⟨85,[.cell 6 (some 2),.tmp 7],f18_1⟩
theorem k_f18:kX x_f18 18 c_f18:=by delta kX; kernel_rfl
theorem e_f18:eX 18:=by delta eX; kernel_rfl

def n_f19:Nat:=19
def x_f19:=xX 79 [0,2,3,4,5,6,7,8,9,11,13,17,18,20,21,22,26,30,31,34,38,42,43,45,46,48,49,50,54,58,59,60,62,63,64,68,69,71,73,75,76,77,78] [50] [(2,[0],[]),(12,[0,12],[]),(52,[2],[]),(14,[0,3],[]),(60,[0,3,17,18],[]),(122,[0,3,17,18],[]),(488,[0,3,17,18,19],[]),(1957,[0,3],[]),(7832,[0,3,4,5,17,18],[]),(15666,[0,3,4,5,17,18,23],[]),(62668,[0,3,4,5,6,17,18],[]),(125338,[0,3,4,6,17,18],[]),(125339,[0,3,17,18],[]),(1959,[0,3,17,18],[]),(124,[0,3,42,43],[]),(250,[0,3,42,43],[]),(1000,[0,3,42,43,44],[]),(4005,[0,3],[]),(16024,[0,3,7,8,42,43],[]),(16025,[0,3,42,43],[]),(4007,[0,3,42,43],[]),(252,[3,59],[]),(506,[3,59],[]),(2024,[3,59,61],[]),(8101,[3],[]),(16204,[3,9,10,59],[10]),(16205,[3,59],[]),(254,[2],[])]
abbrev f19_4:AC:=.seq (.ops [0,12] [] [vv 11 0,⟨none,.call (some 12) false (.f 24) [(.r 11)]⟩]) (.cond (.r 12) (.seq (.ops [2] [] [⟨none,.mv (some 2) (.c (.lit (.pointer none)))⟩]) .ret) .skip)
abbrev f19_28:AC:=.ops [0,3,4,5,6,17,18] [] [vv 24 5,vn 25 24,⟨none,.load (some 26) (.r 25) (some 5)⟩,⟨none,.newB 6 [(.lit (.int .i64 0)),(.lit (.int .i64 0)),(.lit (.pointer none)),(.lit (.int .i64 0)),(.lit (.int .i64 0))]⟩,⟨none,.store 5 (.r 6) (.r 26)⟩]
abbrev f19_30:AC:=.ops [0,3,4,6,17,18] [] [vv 27 5,vn 28 27,vd 29 28 2,vl 30 29,⟨none,.call (some 31) false (.f 40) [(.r 30)]⟩,vd 32 6 2,⟨none,.store 1 (.r 32) (.r 31)⟩]
abbrev f19_29:AC:=.seq f19_30 (.ops [0,3,17,18] [] [vv 33 3,vv 34 4,vn 35 33,vd 36 35 0,⟨none,.ixA (some 37) (.r 36) (.r 34) 64 1⟩,⟨none,.store 1 (.r 37) (.r 6)⟩])
abbrev f19_24:AC:=.seq (.ops [0,3,4,5,17,18,23] [] [vv 22 5,⟨none,.bin (some 23) (.nil .ptr) .neq (.r 22) (.c (.lit (.pointer none)))⟩]) (.cond (.r 23) (.seq f19_28 f19_29) .skip)
abbrev f19_20:AC:=.seq (.block 1 (.seq (.ops [0,3,4,5,17,18] [] [vv 20 18,⟨none,.ixArr (some 21) (.r 17) (.r 18) 64 1 none⟩,vo 4 20,vo 5 21]) f19_24)) (.ops [0,3,17,18] [] [vb 38 .add 18 1,vv 18 38])
abbrev f19_16:AC:=.seq (.ops [0,3,17,18,19] [] [vb 19 .lss 18 64]) (.seq (.cond (.r 19) .skip (.exit [0,3] [] 0)) f19_20)
def f19_15:AC:=.loop [0,3,17,18] [] f19_16
theorem f19_15w:aC P id m f19_15 sf st Q = ar (aC P id m f19_16) [0,3,17,18] [] sf st Q:=rfl
abbrev f19_12:AC:=.seq (.ops [0,3,17,18] [] [vv 14 0,vn 15 14,vd 16 15 0,⟨none,.load (some 17) (.r 16) (some 64)⟩,⟨none,.mv (some 18) (.c (.lit (.int .i64 0)))⟩]) (.block 0 f19_15)
abbrev f19_46:AC:=.drawM [0,3,42,43] [] [vv 47 3,vv 48 7,vv 49 8] (some 50) (.f 41) [(.r 49)] [(false,vn 51 47),(false,vd 52 51 64)] [⟨none,.ixA (some 53) (.r 52) (.r 48) 16 1⟩,⟨none,.store 1 (.r 53) (.r 50)⟩]
abbrev f19_42:AC:=.seq (.block 3 (.seq (.ops [0,3,7,8,42,43] [] [vv 45 43,⟨none,.ixArr (some 46) (.r 42) (.r 43) 16 1 none⟩,vo 7 45,vo 8 46]) f19_46)) (.ops [0,3,42,43] [] [vb 54 .add 43 1,vv 43 54])
abbrev f19_38:AC:=.seq (.ops [0,3,42,43,44] [] [vb 44 .lss 43 16]) (.seq (.cond (.r 44) .skip (.exit [0,3] [] 2)) f19_42)
def f19_37:AC:=.loop [0,3,42,43] [] f19_38
theorem f19_37w:aC P id m f19_37 sf st Q = ar (aC P id m f19_38) [0,3,42,43] [] sf st Q:=rfl
abbrev f19_34:AC:=.seq (.ops [0,3,42,43] [] [vv 39 0,vn 40 39,vd 41 40 64,⟨none,.load (some 42) (.r 41) (some 16)⟩,⟨none,.mv (some 43) (.c (.lit (.int .i64 0)))⟩]) (.block 2 f19_37)
abbrev f19_59:AC:=.ops [3,9,10,59] [10] [⟨none,.x (some 62) (.ent 59)⟩,ve 63 62 0,ve 64 62 1,⟨none,.newL 10 [(.lit (.int .i64 0)),(.lit (.int .u64 0)),(.lit (.slice none 0 0))]⟩,vo 9 63,⟨none,.store 3 (.r 10) (.r 64)⟩]
abbrev f19_60:AC:=.draw [3,59] [] [] [vv 65 3,vn 66 65,vd 67 66 80,vl 68 67,vv 69 9,vd 70 10 0,vl 71 70,vd 72 10 1,vl 73 72,vd 74 10 2,vl 75 74,⟨none,.call (some 76) true (.f 42) [(.r 75)]⟩,⟨none,.bst (some 77) [(0,1),(1,1),(2,1)] (.agg [(.lit (.int .i64 0)),(.lit (.int .u64 0)),(.lit (.slice none 0 0))]) [(0,(.r 71)),(1,(.r 73)),(2,(.r 76))]⟩] [⟨none,.upd (.int .i64) (.r 68) (.r 69) (.r 77)⟩]
abbrev f19_53:AC:=.seq (.ops [3,59,61] [] [⟨none,.x (some 60) (.nxt 59)⟩,ve 61 60 0]) (.seq (.cond (.r 61) .skip (.exit [3] [] 4)) (.block 5 (.seq f19_59 f19_60)))
def f19_52:AC:=.loop [3,59] [] f19_53
theorem f19_52w:aC P id m f19_52 sf st Q = ar (aC P id m f19_53) [3,59] [] sf st Q:=rfl
abbrev f19_48:AC:=.seq (.seq (.ops [3,59] [] [vv 55 0,vn 56 55,vd 57 56 80,vl 58 57,⟨none,.x (some 59) (.rng (.r 58))⟩]) (.block 4 f19_52)) (.seq (.ops [2] [] [vv 78 3,vo 2 78]) .ret)
abbrev f19_1:AC:=.seq (.ops [0] [] [⟨none,.mv (some 2) (.c (.lit (.pointer none)))⟩]) (.seq f19_4 (.seq (.ops [0,3] [] [⟨none,.call (some 13) false (.f 8) []⟩,vo 3 13]) (.seq f19_12 (.seq f19_34 f19_48))))
def c_f19:AFun:=⟨79,[.tmp 2],f19_1⟩
theorem k_f19:kX x_f19 19 c_f19:=by delta kX; kernel_rfl
theorem e_f19:eX 19:=by delta eX; kernel_rfl

def n_f20:Nat:=20
def x_f20:=xX 38 [0,1,4,6,8,9,10,12,14,15,16,17,19,21,22,23,24,26,28,29,30,31,33,35,36,37] [] [(2,[2,3],[2,3]),(6,[4],[])]
abbrev f20_4:AC:=.ops [4] [] [vd 5 2 0,vl 6 5,vd 7 3 0,vl 8 7,⟨none,.bin (some 9) .num .eql (.r 6) (.r 8)⟩,vv 10 9,⟨some (10,true),.addr (some 11) (.r 2) 1⟩,⟨some (10,true),.load (some 12) (.r 11) none⟩,⟨some (10,true),.addr (some 13) (.r 3) 1⟩,⟨some (10,true),.load (some 14) (.r 13) none⟩,⟨some (10,true),.bin (some 15) .bool .eql (.r 12) (.r 14)⟩,⟨none,.pick (some 16) (.r 10) (.r 15) (.c (.lit (.bool false)))⟩,vv 17 16,⟨some (17,true),.addr (some 18) (.r 2) 2⟩,⟨some (17,true),.load (some 19) (.r 18) none⟩,⟨some (17,true),.addr (some 20) (.r 3) 2⟩,⟨some (17,true),.load (some 21) (.r 20) none⟩,⟨some (17,true),.call (some 22) false (.f 16) [(.r 19),(.r 21)]⟩,⟨none,.pick (some 23) (.r 17) (.r 22) (.c (.lit (.bool false)))⟩,vv 24 23,⟨some (24,true),.addr (some 25) (.r 2) 3⟩,⟨some (24,true),.load (some 26) (.r 25) none⟩,⟨some (24,true),.addr (some 27) (.r 3) 3⟩,⟨some (24,true),.load (some 28) (.r 27) none⟩,⟨some (24,true),.call (some 29) false (.f 43) [(.r 26),(.r 28)]⟩,⟨none,.pick (some 30) (.r 24) (.r 29) (.c (.lit (.bool false)))⟩,vv 31 30,⟨some (31,true),.addr (some 32) (.r 2) 4⟩,⟨some (31,true),.load (some 33) (.r 32) none⟩,⟨some (31,true),.addr (some 34) (.r 3) 4⟩,⟨some (31,true),.load (some 35) (.r 34) none⟩,⟨some (31,true),.bin (some 36) .num .eql (.r 33) (.r 35)⟩,⟨none,.pick (some 37) (.r 31) (.r 36) (.c (.lit (.bool false)))⟩,vo 4 37]
abbrev f20_1:AC:=.seq (.ops [2,3] [2,3] [⟨none,.boxL 2 5 (.r 0)⟩,⟨none,.boxL 3 5 (.r 1)⟩,⟨none,.mv (some 4) (.c (.lit (.bool false)))⟩]) (.seq f20_4 .ret)
def c_f20:AFun:=⟨38,[.tmp 4],f20_1⟩
theorem k_f20:kX x_f20 20 c_f20:=by delta kX; kernel_rfl
theorem e_f20:eX 20:=by delta eX; kernel_rfl

def n_f21:Nat:=21
def x_f21:=xX 19 [0,1,4,5,6,7,8,9,10,13,17,18] [] [(2,[0,1],[]),(12,[0,1,11],[]),(52,[4],[]),(14,[4],[])]
abbrev f21_5:AC:=.ops [0,1,11] [] [vv 5 0,⟨none,.call (some 6) false (.f 24) [(.r 5)]⟩,vv 7 6,⟨some (7,false),.mv (some 8) (.r 1)⟩,⟨some (7,false),.call (some 9) false (.f 25) [(.r 8),(.c (.lit (.int .i64 16)))]⟩,⟨some (7,false),.un (some 10) .not (.r 9)⟩,⟨none,.pick (some 11) (.r 7) (.c (.lit (.bool true))) (.r 10)⟩]
abbrev f21_10:AC:=.ops [4] [] [vv 12 0,vv 13 1,vn 14 12,vd 15 14 64,⟨none,.ixA (some 16) (.r 15) (.r 13) 16 1⟩,vl 17 16,⟨none,.call (some 18) false (.f 44) [(.r 17)]⟩,vo 4 18]
abbrev f21_1:AC:=.seq (.ops [0,1] [] [⟨none,.mv (some 4) (.c (.lit (.int .i64 0)))⟩]) (.seq (.seq f21_5 (.cond (.r 11) (.seq (.ops [4] [] [⟨none,.mv (some 4) (.c (.lit (.int .i64 0)))⟩]) .ret) .skip)) (.seq f21_10 .ret))
def c_f21:AFun:=⟨19,[.tmp 4],f21_1⟩
theorem k_f21:kX x_f21 21 c_f21:=by delta kX; kernel_rfl
theorem e_f21:eX 21:=by delta eX; kernel_rfl

def n_f22:Nat:=22
def x_f22:=xX 34 [0,1,4,5,6,7,8,13,14,16,17,18,19,20,24,25,26,28,29,30,31,32,33] [] [(2,[0,1],[]),(12,[0,1,9],[]),(52,[4],[]),(14,[0,1,5],[]),(60,[1,5,13,14],[]),(122,[1,5,13,14],[]),(488,[1,5,13,14,15],[]),(1957,[5],[]),(7832,[1,5,6,7,13,14],[]),(15666,[1,5,6,13,14,27],[]),(31334,[1,5,13,14],[]),(1959,[1,5,13,14],[]),(62,[4],[])]
abbrev f22_4:AC:=.seq (.ops [0,1,9] [] [vv 8 0,⟨none,.call (some 9) false (.f 24) [(.r 8)]⟩]) (.cond (.r 9) (.seq (.ops [4] [] [⟨none,.mv (some 4) (.c (.lit (.slice none 0 0)))⟩]) .ret) .skip)
abbrev f22_25:AC:=.ops [1,5,6,13,14,27] [] [vv 18 7,⟨none,.bin (some 19) (.nil .ptr) .neq (.r 18) (.c (.lit (.pointer none)))⟩,vv 20 19,⟨some (20,true),.mv (some 21) (.r 7)⟩,⟨some (20,true),.nilck (some 22) (.r 21)⟩,⟨some (20,true),.addr (some 23) (.r 22) 0⟩,⟨some (20,true),.load (some 24) (.r 23) none⟩,⟨some (20,true),.mv (some 25) (.r 1)⟩,⟨some (20,true),.bin (some 26) .num .eql (.r 24) (.r 25)⟩,⟨none,.pick (some 27) (.r 20) (.r 26) (.c (.lit (.bool false)))⟩]
abbrev f22_26:AC:=.cond (.r 27) (.ops [1,5,13,14] [] [vo 28 5,vv 29 6,⟨none,.bsl (some 30) 1 1 (.lit (.int .i64 0)) [(0,(.r 29))]⟩,⟨none,.appS 31 28 1 8 (.r 30)⟩,vo 5 31]) .skip
abbrev f22_20:AC:=.seq (.block 1 (.seq (.ops [1,5,6,7,13,14] [] [vv 16 14,⟨none,.ixArr (some 17) (.r 13) (.r 14) 64 1 none⟩,vo 6 16,vo 7 17]) (.seq f22_25 f22_26))) (.ops [1,5,13,14] [] [vb 32 .add 14 1,vv 14 32])
abbrev f22_16:AC:=.seq (.ops [1,5,13,14,15] [] [vb 15 .lss 14 64]) (.seq (.cond (.r 15) .skip (.exit [5] [] 0)) f22_20)
def f22_15:AC:=.loop [1,5,13,14] [] f22_16
theorem f22_15w:aC P id m f22_15 sf st Q = ar (aC P id m f22_16) [1,5,13,14] [] sf st Q:=rfl
abbrev f22_12:AC:=.seq (.ops [1,5,13,14] [] [vv 10 0,vn 11 10,vd 12 11 0,⟨none,.load (some 13) (.r 12) (some 64)⟩,⟨none,.mv (some 14) (.c (.lit (.int .i64 0)))⟩]) (.block 0 f22_15)
abbrev f22_1:AC:=.seq (.ops [0,1] [] [⟨none,.mv (some 4) (.c (.lit (.slice none 0 0)))⟩]) (.seq f22_4 (.seq (.ops [0,1,5] [] [⟨none,.mv (some 5) (.c (.lit (.slice none 0 0)))⟩]) (.seq f22_12 (.seq (.ops [4] [] [vv 33 5,vo 4 33]) .ret))))
def c_f22:AFun:=⟨34,[.tmp 4],f22_1⟩
theorem k_f22:kX x_f22 22 c_f22:=by delta kX; kernel_rfl
theorem e_f22:eX 22:=by delta eX; kernel_rfl

def n_f23:Nat:=23
def x_f23:=xX 4 [0,1,2,3] [] [(2,[],[]),(6,[0],[])]
abbrev f23_4:AC:=.ops [0] [] [⟨none,.mkmap 1⟩,⟨none,.bst (some 2) [(0,3),(3,1)] (.agg [(.lit (.int .u64 0)),(.lit (.int .u64 0)),(.lit (.int .u64 0)),(.lit (.map none))]) [(1,(.r 1))]⟩,⟨none,.boxB 3 4 (.r 2)⟩,vo 0 3]
abbrev f23_1:AC:=.seq (.ops [] [] [⟨none,.mv (some 0) (.c (.lit (.pointer none)))⟩]) (.seq f23_4 .ret)
def c_f23:AFun:=⟨4,[.tmp 0],f23_1⟩
theorem k_f23:kX x_f23 23 c_f23:=by delta kX; kernel_rfl
theorem e_f23:eX 23:=by delta eX; kernel_rfl

def n_f24:Nat:=24
def x_f24:=xX 12 [0,2,3,4,5,9,10,11] [] [(2,[0],[]),(6,[2],[])]
abbrev f24_4:AC:=.ops [2] [] [vv 3 0,⟨none,.bin (some 4) (.nil .ptr) .eql (.r 3) (.c (.lit (.pointer none)))⟩,vv 5 4,⟨some (5,false),.mv (some 6) (.r 0)⟩,⟨some (5,false),.nilck (some 7) (.r 6)⟩,⟨some (5,false),.addr (some 8) (.r 7) 80⟩,⟨some (5,false),.load (some 9) (.r 8) none⟩,⟨some (5,false),.bin (some 10) (.nil .mp) .eql (.r 9) (.c (.lit (.map none)))⟩,⟨none,.pick (some 11) (.r 5) (.c (.lit (.bool true))) (.r 10)⟩,vo 2 11]
abbrev f24_1:AC:=.seq (.ops [0] [] [⟨none,.mv (some 2) (.c (.lit (.bool false)))⟩]) (.seq f24_4 .ret)
def c_f24:AFun:=⟨12,[.tmp 2],f24_1⟩
theorem k_f24:kX x_f24 24 c_f24:=by delta kX; kernel_rfl
theorem e_f24:eX 24:=by delta eX; kernel_rfl

def n_f25:Nat:=25
def x_f25:=xX 12 [0,1,4,5,6,7,8,9,10,11] [] [(2,[0,1],[]),(6,[4],[])]
abbrev f25_4:AC:=.ops [4] [] [vv 5 0,vb 6 .geq 5 0,vv 7 6,⟨some (7,true),.mv (some 8) (.r 0)⟩,⟨some (7,true),.mv (some 9) (.r 1)⟩,⟨some (7,true),.bin (some 10) .num .lss (.r 8) (.r 9)⟩,⟨none,.pick (some 11) (.r 7) (.r 10) (.c (.lit (.bool false)))⟩,vo 4 11]
abbrev f25_1:AC:=.seq (.ops [0,1] [] [⟨none,.mv (some 4) (.c (.lit (.bool false)))⟩]) (.seq f25_4 .ret)
def c_f25:AFun:=⟨12,[.tmp 4],f25_1⟩
theorem k_f25:kX x_f25 25 c_f25:=by delta kX; kernel_rfl
theorem e_f25:eX 25:=by delta eX; kernel_rfl

def n_f26:Nat:=26
def x_f26:=xX 19 [0,1,4,5,6,7,8,10,11,13,15,17,18] [] [(2,[0,1],[]),(12,[0,1,7,8],[]),(26,[0,1,7,8],[]),(104,[0,1,7,8,9],[]),(421,[],[]),(1688,[0,1,5,7,8],[]),(3378,[0,1,5,7,8,16],[]),(13516,[4],[]),(423,[0,1,7,8],[]),(14,[4],[])]
abbrev f26_17:AC:=.ops [0,1,5,7,8,16] [] [vv 11 1,vv 12 0,vv 13 5,⟨none,.ixS (some 14) (.r 12) (.r 13) 1⟩,vl 15 14,⟨none,.bin (some 16) (.nil .ptr) .eql (.r 11) (.r 15)⟩]
abbrev f26_12:AC:=.seq (.block 1 (.seq (.ops [0,1,5,7,8] [] [vv 10 8,vo 5 10]) (.seq f26_17 (.cond (.r 16) (.seq (.ops [4] [] [vv 17 5,vo 4 17]) .ret) .skip)))) (.ops [0,1,7,8] [] [vb 18 .add 8 1,vv 8 18])
abbrev f26_8:AC:=.seq (.ops [0,1,7,8,9] [] [⟨none,.bin (some 9) .num .lss (.r 8) (.r 7)⟩]) (.seq (.cond (.r 9) .skip (.exit [] [] 0)) f26_12)
def f26_7:AC:=.loop [0,1,7,8] [] f26_8
theorem f26_7w:aC P id m f26_7 sf st Q = ar (aC P id m f26_8) [0,1,7,8] [] sf st Q:=rfl
abbrev f26_3:AC:=.seq (.seq (.ops [0,1,7,8] [] [vv 6 0,⟨none,.len (some 7) .sl (.r 6)⟩,⟨none,.mv (some 8) (.c (.lit (.int .i64 0)))⟩]) (.block 0 f26_7)) (.seq (.ops [4] [] [⟨none,.mv (some 4) (.c (.lit (.int .i64 (-1))))⟩]) .ret)
abbrev f26_1:AC:=.seq (.ops [0,1] [] [⟨none,.mv (some 4) (.c (.lit (.int .i64 0)))⟩]) f26_3
def c_f26:AFun:=⟨19,[.tmp 4],f26_1⟩
theorem k_f26:kX x_f26 26 c_f26:=by delta kX; kernel_rfl
theorem e_f26:eX 26:=by delta eX; kernel_rfl

def n_f27:Nat:=27
def x_f27:=xX 14 [0,2,3,4,5,6,7,8,10,11,12,13] [11] [(2,[0],[]),(12,[0,9],[]),(52,[2,3],[]),(14,[2,3],[])]
abbrev f27_5:AC:=.ops [0,9] [] [vv 4 0,vb 5 .lss 4 1,vv 6 5,⟨some (6,false),.mv (some 7) (.r 0)⟩,⟨some (6,false),.bin (some 8) .num .gtr (.r 7) (.c (.lit (.int .i64 4096)))⟩,⟨none,.pick (some 9) (.r 6) (.c (.lit (.bool true))) (.r 8)⟩]
abbrev f27_4:AC:=.seq f27_5 (.cond (.r 9) (.seq (.ops [2,3] [] [⟨none,.mv (some 2) (.c (.lit (.pointer none)))⟩,⟨none,.mv (some 3) (.c (.lit (.int .i64 2)))⟩]) .ret) .skip)
abbrev f27_10:AC:=.ops [2,3] [] [vv 10 0,⟨none,.x (some 11) (.mksB 1 1 (.lit (.int .u8 0)) (.r 10) (.r 10))⟩,⟨none,.bst (some 12) [(0,1),(1,1),(2,1)] (.agg [(.lit (.slice none 0 0)),(.lit (.int .i64 0)),(.lit (.int .i64 0))]) [(0,(.r 11))]⟩,⟨none,.boxB 13 3 (.r 12)⟩,vo 2 13,⟨none,.mv (some 3) (.c (.lit (.int .i64 0)))⟩]
abbrev f27_1:AC:=.seq (.ops [0] [] [⟨none,.mv (some 2) (.c (.lit (.pointer none)))⟩,⟨none,.mv (some 3) (.c (.lit (.int .i64 0)))⟩]) (.seq f27_4 (.seq f27_10 .ret))
def c_f27:AFun:=⟨14,[.tmp 2,.tmp 3],f27_1⟩
theorem k_f27:kX x_f27 27 c_f27:=by delta kX; kernel_rfl
theorem e_f27:eX 27:=by delta eX; kernel_rfl

def n_f28:Nat:=28
def x_f28:=xX 38 [0,1,2,6,8,9,11,12,13,15,16,17,20,24,25,26,27,28,29,30,31,32,33,34,35,36] [] [(2,[0,1,2],[]),(24,[0,1,2,7],[]),(100,[6],[]),(102,[0,1,2,10],[]),(412,[6],[]),(414,[0,1,2,14],[]),(1660,[6],[]),(1662,[0,1,2,18],[]),(6652,[6],[]),(14,[],[]),(30,[6],[])]
abbrev f28_11:AC:=.ops [0,1,2,10] [] [vv 11 1,⟨none,.call (some 12) false (.f 25) [(.r 11),(.c (.lit (.int .i64 16)))]⟩,⟨none,.un (some 13) .not (.r 12)⟩,vo 10 13]
abbrev f28_21:AC:=.ops [0,1,2,18] [] [vv 19 0,vv 20 1,vn 21 19,vd 22 21 64,⟨none,.ixA (some 23) (.r 22) (.r 20) 16 1⟩,vl 24 23,⟨none,.call (some 25) false (.f 44) [(.r 24)]⟩,vb 26 .gtr 25 0,vv 27 26,⟨some (27,false),.mv (some 28) (.r 0)⟩,⟨some (27,false),.mv (some 29) (.r 1)⟩,⟨some (27,false),.mv (some 30) (.r 2)⟩,⟨some (27,false),.call (some 31) false (.f 45) [(.r 28),(.r 29),(.r 30)]⟩,⟨some (27,false),.un (some 32) .not (.r 31)⟩,⟨none,.pick (some 33) (.r 27) (.c (.lit (.bool true))) (.r 32)⟩,vo 18 33]
abbrev f28_17:AC:=.cond (.r 14) (.seq (.ops [6] [] [⟨none,.mv (some 6) (.c (.lit (.int .i64 5)))⟩]) .ret) (.seq f28_21 (.cond (.r 18) (.seq (.ops [6] [] [⟨none,.mv (some 6) (.c (.lit (.int .i64 16)))⟩]) .ret) .skip))
abbrev f28_12:AC:=.cond (.r 10) (.seq (.ops [6] [] [⟨none,.mv (some 6) (.c (.lit (.int .i64 2)))⟩]) .ret) (.seq (.ops [0,1,2,14] [] [vv 15 2,⟨none,.len (some 16) .sl (.r 15)⟩,vb 17 .gtr 16 1024,vo 14 17]) f28_17)
abbrev f28_5:AC:=.seq (.ops [0,1,2,7] [] [vv 8 0,⟨none,.call (some 9) false (.f 24) [(.r 8)]⟩,vo 7 9]) (.cond (.r 7) (.seq (.ops [6] [] [⟨none,.mv (some 6) (.c (.lit (.int .i64 1)))⟩]) .ret) (.seq f28_11 f28_12))
abbrev f28_25:AC:=.seq (.ops [] [] [vv 34 0,vv 35 1,vv 36 2,⟨none,.call (some 37) false (.f 46) [(.r 34),(.r 35),(.r 36)]⟩]) (.seq (.ops [6] [] [⟨none,.mv (some 6) (.c (.lit (.int .i64 0)))⟩]) .ret)
abbrev f28_1:AC:=.seq (.ops [0,1,2] [] [⟨none,.mv (some 6) (.c (.lit (.int .i64 0)))⟩]) (.seq (.block 0 f28_5) f28_25)
def c_f28:AFun:=⟨38,[.tmp 6],f28_1⟩
theorem k_f28:kX x_f28 28 c_f28:=by delta kX; kernel_rfl
theorem e_f28:eX 28:=by delta eX; kernel_rfl

def n_f29:Nat:=29
def x_f29:=xX 69 [0,1,2,3,8,9,12,13,15,16,18,19,20,21,22,23,24,25,27,28,29,30,34,35,36,37,38,40,41,42,43,45,47,51,52,53,54,55,56,58,62,63,64,65,66,67,68] [] [(2,[0,1,2,3],[]),(24,[0,1,2,3,14],[]),(100,[8,9],[]),(102,[0,1,2,3,17],[]),(412,[8,9],[]),(414,[0,1,2,3,26],[]),(1660,[8,9],[]),(28,[0,1,2,3,11],[]),(58,[0,1,2,3,39],[]),(236,[8,9],[]),(60,[0,1,2,3,44],[]),(244,[8,9],[]),(62,[0,1,2,3,12,13],[]),(252,[0,1,2,3,12,13,57],[]),(1012,[8,9],[]),(254,[],[]),(510,[8,9],[])]
abbrev f29_11:AC:=.ops [0,1,2,3,17] [] [vv 18 2,⟨none,.call (some 19) false (.f 25) [(.r 18),(.c (.lit (.int .i64 16)))]⟩,⟨none,.un (some 20) .not (.r 19)⟩,vv 21 20,⟨some (21,false),.mv (some 22) (.r 1)⟩,⟨some (21,false),.call (some 23) false (.f 25) [(.r 22),(.c (.lit (.int .i64 64)))]⟩,⟨some (21,false),.un (some 24) .not (.r 23)⟩,⟨none,.pick (some 25) (.r 21) (.c (.lit (.bool true))) (.r 24)⟩,vo 17 25]
abbrev f29_15:AC:=.seq (.ops [0,1,2,3,26] [] [vv 27 3,⟨none,.len (some 28) .sl (.r 27)⟩,vb 29 .gtr 28 1024,vo 26 29]) (.cond (.r 26) (.seq (.ops [8,9] [] [⟨none,.mv (some 8) (.c (.lit (.bool false)))⟩,⟨none,.mv (some 9) (.c (.lit (.int .i64 5)))⟩]) .ret) .skip)
abbrev f29_10:AC:=.seq f29_11 (.cond (.r 17) (.seq (.ops [8,9] [] [⟨none,.mv (some 8) (.c (.lit (.bool false)))⟩,⟨none,.mv (some 9) (.c (.lit (.int .i64 2)))⟩]) .ret) f29_15)
abbrev f29_5:AC:=.seq (.ops [0,1,2,3,14] [] [vv 15 0,⟨none,.call (some 16) false (.f 24) [(.r 15)]⟩,vo 14 16]) (.cond (.r 14) (.seq (.ops [8,9] [] [⟨none,.mv (some 8) (.c (.lit (.bool false)))⟩,⟨none,.mv (some 9) (.c (.lit (.int .i64 1)))⟩]) .ret) f29_10)
abbrev f29_22:AC:=.ops [0,1,2,3,11] [] [vv 31 0,vn 32 31,vd 33 32 80,vl 34 33,vv 35 1,⟨none,.lookup (some 36) (.int .i64) (.agg [(.lit (.int .i64 0)),(.lit (.int .u64 0)),(.lit (.slice none 0 0))]) true (.r 34) (.r 35)⟩,vv 30 36,ve 37 30 0,ve 38 30 1,⟨none,.newL 10 [(.lit (.int .i64 0)),(.lit (.int .u64 0)),(.lit (.slice none 0 0))]⟩,⟨none,.store 3 (.r 10) (.r 37)⟩,vo 11 38]
abbrev f29_23:AC:=.seq (.ops [0,1,2,3,39] [] [vv 39 11]) (.cond (.r 39) (.seq (.ops [8,9] [] [⟨none,.mv (some 8) (.c (.lit (.bool false)))⟩,⟨none,.mv (some 9) (.c (.lit (.int .i64 11)))⟩]) .ret) .skip)
abbrev f29_29:AC:=.seq (.ops [0,1,2,3,44] [] [vv 40 0,vv 41 2,vv 42 3,⟨none,.call (some 43) false (.f 28) [(.r 40),(.r 41),(.r 42)]⟩,vb 44 .eql 43 0]) (.cond (.r 44) (.seq (.ops [8,9] [] [⟨none,.mv (some 8) (.c (.lit (.bool true)))⟩,⟨none,.mv (some 9) (.c (.lit (.int .i64 0)))⟩]) .ret) .skip)
abbrev f29_35:AC:=.ops [0,1,2,3,12,13] [] [vv 46 0,vv 47 2,vn 48 46,vd 49 48 64,⟨none,.ixA (some 50) (.r 49) (.r 47) 16 1⟩,vl 51 50,vv 52 1,⟨none,.call (some 53) false (.f 47) [(.r 51),(.r 52)]⟩,vv 45 53,ve 54 45 0,ve 55 45 1,vo 12 54,vo 13 55]
abbrev f29_37:AC:=.seq (.ops [0,1,2,3,12,13,57] [] [vv 56 13,vb 57 .neq 56 0]) (.cond (.r 57) (.seq (.ops [8,9] [] [vv 58 13,⟨none,.mv (some 8) (.c (.lit (.bool false)))⟩,vo 9 58]) .ret) .skip)
abbrev f29_43:AC:=.draw [] [] [] [vv 59 0,vn 60 59,vd 61 60 80,vl 62 61,vv 63 1,vv 64 2,vv 65 12,vv 66 3,⟨none,.call (some 67) true (.f 42) [(.r 66)]⟩,⟨none,.bst (some 68) [(0,1),(1,1),(2,1)] (.agg [(.lit (.int .i64 0)),(.lit (.int .u64 0)),(.lit (.slice none 0 0))]) [(0,(.r 64)),(1,(.r 65)),(2,(.r 67))]⟩] [⟨none,.upd (.int .i64) (.r 62) (.r 63) (.r 68)⟩]
abbrev f29_36:AC:=.seq f29_37 (.seq f29_43 (.seq (.ops [8,9] [] [⟨none,.mv (some 8) (.c (.lit (.bool false)))⟩,⟨none,.mv (some 9) (.c (.lit (.int .i64 0)))⟩]) .ret))
abbrev f29_1:AC:=.seq (.ops [0,1,2,3] [] [⟨none,.mv (some 8) (.c (.lit (.bool false)))⟩,⟨none,.mv (some 9) (.c (.lit (.int .i64 0)))⟩]) (.seq (.block 0 f29_5) (.seq (.seq f29_22 f29_23) (.seq f29_29 (.seq f29_35 f29_36))))
def c_f29:AFun:=⟨69,[.tmp 8,.tmp 9],f29_1⟩
theorem k_f29:kX x_f29 29 c_f29:=by delta kX; kernel_rfl
theorem e_f29:eX 29:=by delta eX; kernel_rfl

def n_f30:Nat:=30
def x_f30:=xX 35 [0,1,2,3,4,10,11,12,13,14,15,16,17,18,19,20,21,22,23,24,25,26,27,28,29,30,31,32,33,34] [] [(2,[0,1,2,3,4],[]),(6,[2,3,4,11,12,13],[]),(14,[10],[])]
abbrev f30_4:AC:=.ops [2,3,4,11,12,13] [] [vv 15 0,vv 16 1,⟨none,.call (some 17) false (.f 33) [(.r 15),(.r 16)]⟩,vv 14 17,ve 18 14 0,ve 19 14 1,ve 20 14 2,vo 11 18,vo 12 19,vo 13 20]
abbrev f30_6:AC:=.ops [10] [] [vv 21 11,⟨none,.conv (some 22) .bs (.r 21)⟩,vv 23 2,⟨none,.bin (some 24) .num .eql (.r 22) (.r 23)⟩,vv 25 24,⟨some (25,true),.mv (some 26) (.r 12)⟩,⟨some (25,true),.mv (some 27) (.r 3)⟩,⟨some (25,true),.call (some 28) false (.f 43) [(.r 26),(.r 27)]⟩,⟨none,.pick (some 29) (.r 25) (.r 28) (.c (.lit (.bool false)))⟩,vv 30 29,⟨some (30,true),.mv (some 31) (.r 13)⟩,⟨some (30,true),.mv (some 32) (.r 4)⟩,⟨some (30,true),.bin (some 33) .num .eql (.r 31) (.r 32)⟩,⟨none,.pick (some 34) (.r 30) (.r 33) (.c (.lit (.bool false)))⟩,vo 10 34]
abbrev f30_1:AC:=.seq (.ops [0,1,2,3,4] [] [⟨none,.mv (some 10) (.c (.lit (.bool false)))⟩]) (.seq f30_4 (.seq f30_6 .ret))
def c_f30:AFun:=⟨35,[.tmp 10],f30_1⟩
theorem k_f30:kX x_f30 30 c_f30:=by delta kX; kernel_rfl
theorem e_f30:eX 30:=by delta eX; kernel_rfl

def n_f31:Nat:=31
def x_f31:=xX 18 [0,1,4,5,6,7,8,9,10,13,17] [] [(2,[0,1],[]),(12,[0,1,11],[]),(52,[4],[]),(14,[4],[])]
abbrev f31_5:AC:=.ops [0,1,11] [] [vv 5 0,⟨none,.call (some 6) false (.f 24) [(.r 5)]⟩,vv 7 6,⟨some (7,false),.mv (some 8) (.r 1)⟩,⟨some (7,false),.call (some 9) false (.f 25) [(.r 8),(.c (.lit (.int .i64 64)))]⟩,⟨some (7,false),.un (some 10) .not (.r 9)⟩,⟨none,.pick (some 11) (.r 7) (.c (.lit (.bool true))) (.r 10)⟩]
abbrev f31_3:AC:=.seq (.seq f31_5 (.cond (.r 11) (.seq (.ops [4] [] [⟨none,.mv (some 4) (.c (.lit (.pointer none)))⟩]) .ret) .skip)) (.seq (.ops [4] [] [vv 12 0,vv 13 1,vn 14 12,vd 15 14 0,⟨none,.ixA (some 16) (.r 15) (.r 13) 64 1⟩,vl 17 16,vo 4 17]) .ret)
abbrev f31_1:AC:=.seq (.ops [0,1] [] [⟨none,.mv (some 4) (.c (.lit (.pointer none)))⟩]) f31_3
def c_f31:AFun:=⟨18,[.tmp 4],f31_1⟩
theorem k_f31:kX x_f31 31 c_f31:=by delta kX; kernel_rfl
theorem e_f31:eX 31:=by delta eX; kernel_rfl

def n_f32:Nat:=32
def x_f32:=xX 63 [0,1,4,5,6,8,9,11,15,16,17,18,19,20,21,22,23,24,28,29,30,31,32,33,35,37,41,43,44,48,49,50,51,56,57,58,59,60,61,62] [] [(2,[0,1],[]),(6,[0,1,5],[]),(14,[0,1,5],[]),(112,[0,1,5,6,8],[]),(452,[0,1,5,6,34],[]),(1812,[4],[]),(454,[0,1,5,6],[]),(910,[0,1,5,6],[]),(1822,[0,1,5,6],[]),(1823,[0,1,5],[])]
abbrev f32_9:AC:=.ops [0,1,5,6,8] [] [vv 10 0,vv 11 1,vn 12 10,vd 13 12 64,⟨none,.ixA (some 14) (.r 13) (.r 11) 16 1⟩,vl 15 14,⟨none,.call (some 16) false (.f 48) [(.r 15)]⟩,vv 9 16,ve 17 9 0,ve 18 9 1,ve 19 9 2,vo 6 17,vo 7 18,vo 8 19]
abbrev f32_12:AC:=.ops [0,1,5,6,34] [] [vv 20 8,vb 21 .neq 20 0,vv 22 21,⟨some (22,false),.mv (some 23) (.r 0)⟩,⟨some (22,false),.mv (some 24) (.r 1)⟩,⟨some (22,false),.mv (some 25) (.r 0)⟩,⟨some (22,false),.nilck (some 26) (.r 25)⟩,⟨some (22,false),.addr (some 27) (.r 26) 80⟩,⟨some (22,false),.load (some 28) (.r 27) none⟩,⟨some (22,false),.mv (some 29) (.r 6)⟩,⟨some (22,false),.lookup (some 30) (.int .i64) (.agg [(.lit (.int .i64 0)),(.lit (.int .u64 0)),(.lit (.slice none 0 0))]) false (.r 28) (.r 29)⟩,⟨some (22,false),.field (some 31) (.r 30) 2 none⟩,⟨some (22,false),.call (some 32) false (.f 45) [(.r 23),(.r 24),(.r 31)]⟩,⟨some (22,false),.un (some 33) .not (.r 32)⟩,⟨none,.pick (some 34) (.r 22) (.c (.lit (.bool true))) (.r 33)⟩]
abbrev f32_17:AC:=.ops [0,1,5,6] [] [vv 36 0,vv 37 1,vn 38 36,vd 39 38 64,⟨none,.ixA (some 40) (.r 39) (.r 37) 16 1⟩,vl 41 40,⟨none,.call (some 42) false (.f 49) [(.r 41)]⟩]
abbrev f32_19:AC:=.ops [0,1,5,6] [] [vv 43 0,vv 44 1,vv 45 0,vn 46 45,vd 47 46 80,vl 48 47,vv 49 6,⟨none,.lookup (some 50) (.int .i64) (.agg [(.lit (.int .i64 0)),(.lit (.int .u64 0)),(.lit (.slice none 0 0))]) false (.r 48) (.r 49)⟩,⟨none,.field (some 51) (.r 50) 2 none⟩,⟨none,.call (some 52) false (.f 46) [(.r 43),(.r 44),(.r 51)]⟩]
abbrev f32_22:AC:=.ops [0,1,5] [] [vo 58 5,vv 59 6,⟨none,.bst (some 60) [(0,1),(1,1),(2,1),(3,1)] (.agg [(.lit (.int .i64 0)),(.lit (.int .i64 0)),(.lit (.int .i64 0)),(.lit (.int .i64 0))]) [(0,(.r 59))]⟩,⟨none,.bsl (some 61) 4 1 (.agg [(.lit (.int .i64 0)),(.lit (.int .i64 0)),(.lit (.int .i64 0)),(.lit (.int .i64 0))]) [(0,(.r 60))]⟩,⟨none,.appS 62 58 4 32 (.r 61)⟩,vo 5 62]
abbrev f32_16:AC:=.seq f32_17 (.seq f32_19 (.seq (.ops [0,1,5,6] [] [vv 53 0,vn 54 53,vd 55 54 80,vl 56 55,vv 57 6,⟨none,.del (.int .i64) (.r 56) (.r 57)⟩]) f32_22))
abbrev f32_7:AC:=.block 1 (.seq f32_9 (.seq (.seq f32_12 (.cond (.r 34) (.seq (.ops [4] [] [vv 35 5,vo 4 35]) .ret) .skip)) f32_16))
def f32_6:AC:=.loop [0,1,5] [] f32_7
theorem f32_6w:aC P id m f32_6 sf st Q = ar (aC P id m f32_7) [0,1,5] [] sf st Q:=rfl
abbrev f32_1:AC:=.seq (.ops [0,1] [] [⟨none,.mv (some 4) (.c (.lit (.slice none 0 0)))⟩]) (.seq (.ops [0,1,5] [] [⟨none,.mv (some 5) (.c (.lit (.slice none 0 0)))⟩]) (.block 0 f32_6))
def c_f32:AFun:=⟨63,[.tmp 4],f32_1⟩
theorem k_f32:kX x_f32 32 c_f32:=by delta kX; kernel_rfl
theorem e_f32:eX 32:=by delta eX; kernel_rfl

def n_f33:Nat:=33
def x_f33:=xX 30 [0,1,4,5,6,7,8,9,11,12,13,14,19,21,22,23,24,28,29] [] [(2,[0,1],[]),(12,[0,1,10],[]),(52,[4,5,6],[]),(14,[0,7],[]),(60,[0,7,15],[]),(244,[4,5,6],[]),(124,[0,7,20],[]),(500,[4,5,6],[]),(126,[0,7,8],[]),(254,[4,5,6],[])]
abbrev f33_2:AC:=.ops [0,1] [] [⟨none,.mv (some 4) (.c (.lit (.slice none 0 0)))⟩,⟨none,.mv (some 5) (.c (.lit (.slice none 0 0)))⟩,⟨none,.mv (some 6) (.c (.lit (.int .i64 0)))⟩]
abbrev f33_8:AC:=.ops [4,5,6] [] [⟨none,.mv (some 4) (.c (.lit (.slice none 0 0)))⟩,⟨none,.mv (some 5) (.c (.lit (.slice none 0 0)))⟩,⟨none,.mv (some 6) (.c (.lit (.int .i64 1)))⟩]
abbrev f33_16:AC:=.ops [4,5,6] [] [⟨none,.mv (some 4) (.c (.lit (.slice none 0 0)))⟩,⟨none,.mv (some 5) (.c (.lit (.slice none 0 0)))⟩,⟨none,.mv (some 6) (.c (.lit (.int .i64 9)))⟩]
abbrev f33_12:AC:=.seq (.ops [0,7,15] [] [vv 14 7,⟨none,.bin (some 15) (.nil .ptr) .eql (.r 14) (.c (.lit (.pointer none)))⟩]) (.cond (.r 15) (.seq f33_16 .ret) .skip)
abbrev f33_22:AC:=.ops [4,5,6] [] [⟨none,.mv (some 4) (.c (.lit (.slice none 0 0)))⟩,⟨none,.mv (some 5) (.c (.lit (.slice none 0 0)))⟩,⟨none,.mv (some 6) (.c (.lit (.int .i64 16)))⟩]
abbrev f33_26:AC:=.ops [4,5,6] [] [vv 23 8,vv 24 0,vv 25 7,vn 26 25,vd 27 26 0,vl 28 27,⟨none,.call (some 29) false (.f 32) [(.r 24),(.r 28)]⟩,vo 4 23,vo 5 29,⟨none,.mv (some 6) (.c (.lit (.int .i64 0)))⟩]
abbrev f33_17:AC:=.seq (.seq (.ops [0,7,20] [] [vv 16 7,vn 17 16,vd 18 17 3,vl 19 18,vb 20 .eql 19 0]) (.cond (.r 20) (.seq f33_22 .ret) .skip)) (.seq (.ops [0,7,8] [] [vv 21 7,⟨none,.call (some 22) false (.f 50) [(.r 21)]⟩,vo 8 22]) (.seq f33_26 .ret))
abbrev f33_3:AC:=.seq (.seq (.ops [0,1,10] [] [vv 9 0,⟨none,.call (some 10) false (.f 24) [(.r 9)]⟩]) (.cond (.r 10) (.seq f33_8 .ret) .skip)) (.seq (.ops [0,7] [] [vv 11 0,vv 12 1,⟨none,.call (some 13) false (.f 31) [(.r 11),(.r 12)]⟩,vo 7 13]) (.seq f33_12 f33_17))
abbrev f33_1:AC:=.seq f33_2 f33_3
def c_f33:AFun:=⟨30,[.tmp 4,.tmp 5,.tmp 6],f33_1⟩
theorem k_f33:kX x_f33 33 c_f33:=by delta kX; kernel_rfl
theorem e_f33:eX 33:=by delta eX; kernel_rfl

def n_f34:Nat:=34
def x_f34:=xX 43 [0,1,4,5,7,8,10,11,13,17,18,19,20,21,22,26,30,32,37,38,39,41,42] [] [(2,[0,1],[]),(12,[0,1,9],[]),(52,[4,5],[]),(28,[0,1,12],[]),(116,[4,5],[]),(30,[0,1,6,7],[6]),(124,[0,1,6,23],[6]),(500,[4,5],[]),(126,[0,1,6],[6]),(254,[0,6],[6]),(510,[4,5],[])]
abbrev f34_4:AC:=.seq (.ops [0,1,9] [] [vv 8 0,⟨none,.call (some 9) false (.f 24) [(.r 8)]⟩]) (.cond (.r 9) (.seq (.ops [4,5] [] [⟨none,.mv (some 4) (.c (.lit (.slice none 0 0)))⟩,⟨none,.mv (some 5) (.c (.lit (.int .i64 1)))⟩]) .ret) .skip)
abbrev f34_10:AC:=.seq (.ops [0,1,12] [] [vv 10 1,⟨none,.call (some 11) false (.f 25) [(.r 10),(.c (.lit (.int .i64 64)))]⟩,⟨none,.un (some 12) .not (.r 11)⟩]) (.cond (.r 12) (.seq (.ops [4,5] [] [⟨none,.mv (some 4) (.c (.lit (.slice none 0 0)))⟩,⟨none,.mv (some 5) (.c (.lit (.int .i64 2)))⟩]) .ret) .skip)
abbrev f34_16:AC:=.ops [0,1,6,7] [6] [vv 14 0,vn 15 14,vd 16 15 80,vl 17 16,vv 18 1,⟨none,.lookup (some 19) (.int .i64) (.agg [(.lit (.int .i64 0)),(.lit (.int .u64 0)),(.lit (.slice none 0 0))]) true (.r 17) (.r 18)⟩,vv 13 19,ve 20 13 0,ve 21 13 1,⟨none,.newL 6 [(.lit (.int .i64 0)),(.lit (.int .u64 0)),(.lit (.slice none 0 0))]⟩,⟨none,.store 3 (.r 6) (.r 20)⟩,vo 7 21]
abbrev f34_18:AC:=.seq (.ops [0,1,6,23] [6] [vv 22 7,⟨none,.un (some 23) .not (.r 22)⟩]) (.cond (.r 23) (.seq (.ops [4,5] [] [⟨none,.mv (some 4) (.c (.lit (.slice none 0 0)))⟩,⟨none,.mv (some 5) (.c (.lit (.int .i64 9)))⟩]) .ret) .skip)
abbrev f34_24:AC:=.draw [0,1,6] [6] [] [vv 24 0,vd 25 6 0,vl 26 25,vn 27 24,vd 28 27 64,⟨none,.ixA (some 29) (.r 28) (.r 26) 16 1⟩,vl 30 29,vd 31 6 1,vl 32 31] [⟨none,.call (some 33) false (.f 51) [(.r 30),(.r 32)]⟩]
abbrev f34_28:AC:=.ops [4,5] [] [vv 39 0,vd 40 6 0,vl 41 40,⟨none,.call (some 42) false (.f 32) [(.r 39),(.r 41)]⟩,vo 4 42,⟨none,.mv (some 5) (.c (.lit (.int .i64 0)))⟩]
abbrev f34_17:AC:=.seq f34_18 (.seq f34_24 (.seq (.ops [0,6] [6] [vv 34 0,vn 35 34,vd 36 35 80,vl 37 36,vv 38 1,⟨none,.del (.int .i64) (.r 37) (.r 38)⟩]) (.seq f34_28 .ret)))
abbrev f34_1:AC:=.seq (.ops [0,1] [] [⟨none,.mv (some 4) (.c (.lit (.slice none 0 0)))⟩,⟨none,.mv (some 5) (.c (.lit (.int .i64 0)))⟩]) (.seq f34_4 (.seq f34_10 (.seq f34_16 f34_17)))
def c_f34:AFun:=⟨43,[.tmp 4,.tmp 5],f34_1⟩
theorem k_f34:kX x_f34 34 c_f34:=by delta kX; kernel_rfl
theorem e_f34:eX 34:=by delta eX; kernel_rfl

def n_f35:Nat:=35
def x_f35:=xX 22 [0,1,4,5,6,8,9,11,12,15,18,19,21] [] [(2,[1,2],[2]),(12,[1,2,5],[2]),(26,[1,2,5],[2]),(208,[1,2,5,10],[2]),(419,[],[]),(840,[1,2,5,20],[2]),(3364,[4],[]),(211,[1,2,5],[2]),(14,[4],[])]
abbrev f35_9:AC:=.seq (.ops [1,2,5,10] [2] [vv 6 5,vd 7 2 0,vl 8 7,⟨none,.len (some 9) .sl (.r 8)⟩,⟨none,.bin (some 10) .num .lss (.r 6) (.r 9)⟩]) (.cond (.r 10) .skip (.exit [] [] 0))
abbrev f35_15:AC:=.ops [1,2,5,20] [2] [vd 13 2 0,vl 14 13,vv 15 5,⟨none,.ixS (some 16) (.r 14) (.r 15) 6⟩,vd 17 16 0,vl 18 17,vv 19 1,⟨none,.bin (some 20) .num .eql (.r 18) (.r 19)⟩]
abbrev f35_12:AC:=.seq (.block 1 (.seq f35_15 (.cond (.r 20) (.seq (.ops [4] [] [vv 21 5,vo 4 21]) .ret) .skip))) (.ops [1,2,5] [2] [vv 11 5,vb 12 .add 11 1,vo 5 12])
abbrev f35_8:AC:=.seq f35_9 f35_12
def f35_7:AC:=.loop [1,2,5] [2] f35_8
theorem f35_7w:aC P id m f35_7 sf st Q = ar (aC P id m f35_8) [1,2,5] [2] sf st Q:=rfl
abbrev f35_3:AC:=.seq (.seq (.ops [1,2,5] [2] [⟨none,.mv (some 5) (.c (.lit (.int .i64 0)))⟩]) (.block 0 f35_7)) (.seq (.ops [4] [] [⟨none,.mv (some 4) (.c (.lit (.int .i64 (-1))))⟩]) .ret)
abbrev f35_1:AC:=.seq (.ops [1,2] [2] [⟨none,.boxL 2 2 (.r 0)⟩,⟨none,.mv (some 4) (.c (.lit (.int .i64 0)))⟩]) f35_3
def c_f35:AFun:=⟨22,[.tmp 4],f35_1⟩
theorem k_f35:kX x_f35 35 c_f35:=by delta kX; kernel_rfl
theorem e_f35:eX 35:=by delta eX; kernel_rfl

def n_f36:Nat:=36
def x_f36:=xX 25 [0,1,4,5,6,7,9,10,12,13,16,19,20,22,23,24] [] [(2,[1,2],[2]),(6,[1,2,5],[2]),(28,[1,2,5,6],[2]),(58,[1,2,5,6],[2]),(464,[1,2,5,6,11],[2]),(931,[5],[]),(1864,[1,2,5,6,21],[2]),(3730,[1,2,5,6],[2]),(467,[1,2,5,6],[2]),(30,[4],[])]
abbrev f36_11:AC:=.seq (.ops [1,2,5,6,11] [2] [vv 7 6,vd 8 2 1,vl 9 8,⟨none,.len (some 10) .sl (.r 9)⟩,⟨none,.bin (some 11) .num .lss (.r 7) (.r 10)⟩]) (.cond (.r 11) .skip (.exit [5] [] 0))
abbrev f36_17:AC:=.ops [1,2,5,6,21] [2] [vd 14 2 1,vl 15 14,vv 16 6,⟨none,.ixS (some 17) (.r 15) (.r 16) 3⟩,vd 18 17 1,vl 19 18,vv 20 1,⟨none,.bin (some 21) .num .eql (.r 19) (.r 20)⟩]
abbrev f36_14:AC:=.seq (.block 1 (.seq f36_17 (.cond (.r 21) (.ops [1,2,5,6] [2] [vv 22 5,vb 23 .add 22 1,vo 5 23]) .skip))) (.ops [1,2,5,6] [2] [vv 12 6,vb 13 .add 12 1,vo 6 13])
abbrev f36_10:AC:=.seq f36_11 f36_14
def f36_9:AC:=.loop [1,2,5,6] [2] f36_10
theorem f36_9w:aC P id m f36_9 sf st Q = ar (aC P id m f36_10) [1,2,5,6] [2] sf st Q:=rfl
abbrev f36_3:AC:=.seq (.ops [1,2,5] [2] [⟨none,.mv (some 5) (.c (.lit (.int .i64 0)))⟩]) (.seq (.seq (.ops [1,2,5,6] [2] [⟨none,.mv (some 6) (.c (.lit (.int .i64 0)))⟩]) (.block 0 f36_9)) (.seq (.ops [4] [] [vv 24 5,vo 4 24]) .ret))
abbrev f36_1:AC:=.seq (.ops [1,2] [2] [⟨none,.boxL 2 2 (.r 0)⟩,⟨none,.mv (some 4) (.c (.lit (.int .i64 0)))⟩]) f36_3
def c_f36:AFun:=⟨25,[.tmp 4],f36_1⟩
theorem k_f36:kX x_f36 36 c_f36:=by delta kX; kernel_rfl
theorem e_f36:eX 36:=by delta eX; kernel_rfl

def n_f37:Nat:=37
def x_f37:=xX 26 [0,1,4,5,6,7,8,9,11,12,13,15,16,18,20,22,24] [] [(2,[0,1],[]),(12,[0,1,10],[]),(52,[4],[]),(28,[0,1,5],[]),(58,[0,1,5],[]),(464,[0,1,5,14],[]),(931,[],[]),(1864,[0,1,5,25],[]),(7460,[4],[]),(467,[0,1,5],[]),(30,[4],[])]
abbrev f37_5:AC:=.ops [0,1,10] [] [vv 6 0,⟨none,.len (some 7) .sl (.r 6)⟩,vv 8 1,⟨none,.len (some 9) .sl (.r 8)⟩,⟨none,.bin (some 10) .num .neq (.r 7) (.r 9)⟩]
abbrev f37_15:AC:=.seq (.ops [0,1,5,14] [] [vv 11 5,vv 12 0,⟨none,.len (some 13) .sl (.r 12)⟩,⟨none,.bin (some 14) .num .lss (.r 11) (.r 13)⟩]) (.cond (.r 14) .skip (.exit [] [] 0))
abbrev f37_21:AC:=.draw [0,1,5,25] [] [] [vv 17 0,vv 18 5,⟨none,.ixS (some 19) (.r 17) (.r 18) 1⟩,vl 20 19,vv 21 1,vv 22 5,⟨none,.ixS (some 23) (.r 21) (.r 22) 1⟩,vl 24 23] [⟨none,.bin (some 25) .num .neq (.r 20) (.r 24)⟩]
abbrev f37_18:AC:=.seq (.block 1 (.seq f37_21 (.cond (.r 25) (.seq (.ops [4] [] [⟨none,.mv (some 4) (.c (.lit (.bool false)))⟩]) .ret) .skip))) (.ops [0,1,5] [] [vv 15 5,vb 16 .add 15 1,vo 5 16])
abbrev f37_14:AC:=.seq f37_15 f37_18
def f37_13:AC:=.loop [0,1,5] [] f37_14
theorem f37_13w:aC P id m f37_13 sf st Q = ar (aC P id m f37_14) [0,1,5] [] sf st Q:=rfl
abbrev f37_9:AC:=.seq (.seq (.ops [0,1,5] [] [⟨none,.mv (some 5) (.c (.lit (.int .i64 0)))⟩]) (.block 0 f37_13)) (.seq (.ops [4] [] [⟨none,.mv (some 4) (.c (.lit (.bool true)))⟩]) .ret)
abbrev f37_1:AC:=.seq (.ops [0,1] [] [⟨none,.mv (some 4) (.c (.lit (.bool false)))⟩]) (.seq (.seq f37_5 (.cond (.r 10) (.seq (.ops [4] [] [⟨none,.mv (some 4) (.c (.lit (.bool false)))⟩]) .ret) .skip)) f37_9)
def c_f37:AFun:=⟨26,[.tmp 4],f37_1⟩
theorem k_f37:kX x_f37 37 c_f37:=by delta kX; kernel_rfl
theorem e_f37:eX 37:=by delta eX; kernel_rfl

def n_f38:Nat:=38
def x_f38:=xX 32 [0,1,4,5,6,7,9,10,12,13,16,19,20,22,25,28,29,30,31] [] [(2,[1,2],[2]),(6,[1,2,5],[2]),(28,[1,2,5,6],[2]),(58,[1,2,5,6],[2]),(464,[1,2,5,6,11],[2]),(931,[5],[]),(1864,[1,2,5,6,21],[2]),(3730,[1,2,5,6],[2]),(467,[1,2,5,6],[2]),(30,[4],[])]
abbrev f38_11:AC:=.seq (.ops [1,2,5,6,11] [2] [vv 7 6,vd 8 2 0,vl 9 8,⟨none,.len (some 10) .sl (.r 9)⟩,⟨none,.bin (some 11) .num .lss (.r 7) (.r 10)⟩]) (.cond (.r 11) .skip (.exit [5] [] 0))
abbrev f38_17:AC:=.ops [1,2,5,6,21] [2] [vd 14 2 0,vl 15 14,vv 16 6,⟨none,.ixS (some 17) (.r 15) (.r 16) 6⟩,vd 18 17 1,vl 19 18,vv 20 1,⟨none,.bin (some 21) .num .eql (.r 19) (.r 20)⟩]
abbrev f38_19:AC:=.ops [1,2,5,6] [2] [vo 22 5,vd 23 2 0,vl 24 23,vv 25 6,⟨none,.ixS (some 26) (.r 24) (.r 25) 6⟩,vd 27 26 0,vl 28 27,⟨none,.bsl (some 29) 1 1 (.lit (.int .i64 0)) [(0,(.r 28))]⟩,⟨none,.appS 30 22 1 8 (.r 29)⟩,vo 5 30]
abbrev f38_10:AC:=.seq f38_11 (.seq (.block 1 (.seq f38_17 (.cond (.r 21) f38_19 .skip))) (.ops [1,2,5,6] [2] [vv 12 6,vb 13 .add 12 1,vo 6 13]))
def f38_9:AC:=.loop [1,2,5,6] [2] f38_10
theorem f38_9w:aC P id m f38_9 sf st Q = ar (aC P id m f38_10) [1,2,5,6] [2] sf st Q:=rfl
abbrev f38_3:AC:=.seq (.ops [1,2,5] [2] [⟨none,.mv (some 5) (.c (.lit (.slice none 0 0)))⟩]) (.seq (.seq (.ops [1,2,5,6] [2] [⟨none,.mv (some 6) (.c (.lit (.int .i64 0)))⟩]) (.block 0 f38_9)) (.seq (.ops [4] [] [vv 31 5,vo 4 31]) .ret))
abbrev f38_1:AC:=.seq (.ops [1,2] [2] [⟨none,.boxL 2 2 (.r 0)⟩,⟨none,.mv (some 4) (.c (.lit (.slice none 0 0)))⟩]) f38_3
def c_f38:AFun:=⟨32,[.tmp 4],f38_1⟩
theorem k_f38:kX x_f38 38 c_f38:=by delta kX; kernel_rfl
theorem e_f38:eX 38:=by delta eX; kernel_rfl

def n_f39:Nat:=39
def x_f39:=xX 91 [0,1,8,9,10,12,13,14,15,16,20,21,22,24,26,28,29,30,31,32,36,37,38,40,42,43,44,45,48,49,50,52,54,56,57,58,59,60,64,65,66,68,69,70,71,72,73,78,79,80,82,83,84,85,86,89,90] [] [(2,[2,3,4,5],[2,3,4,5]),(6,[2,3,4,5,6],[2,3,4,5,6]),(28,[2,3,4,5,6,8],[2,3,4,5,6]),(116,[2,3,4,5,6,8,19],[2,3,4,5,6]),(234,[2,4,5,6],[2,4,5,6]),(470,[2,3,4,5,6,8,35],[2,3,4,5,6]),(942,[2,4,5,6],[2,4,5,6]),(1886,[2,3,4,5,6,8,47],[2,3,4,5,6]),(3774,[2,4,5,6],[2,4,5,6]),(7550,[2,3,4,5,6,8,63],[2,3,4,5,6]),(15102,[2,4,5,6],[2,4,5,6]),(30206,[2,3,4,5,6,77],[2,3,4,5,6]),(60414,[2,4,5,6],[2,4,5,6]),(60415,[2,4,5,6],[2,4,5,6]),(30,[4,5],[4,5])]
abbrev f39_2:AC:=.ops [2,3,4,5] [2,3,4,5] [⟨none,.boxL 2 2 (.r 0)⟩,⟨none,.boxL 3 6 (.r 1)⟩,⟨none,.newL 4 [(.lit (.slice none 0 0)),(.lit (.slice none 0 0))]⟩,⟨none,.newL 5 [(.lit (.int .i64 0)),(.lit (.bool false)),(.lit (.slice none 0 0)),(.lit (.slice none 0 0)),(.lit (.int .i64 0))]⟩]
abbrev f39_4:AC:=.ops [2,3,4,5,6] [2,3,4,5,6] [⟨none,.newL 6 [(.lit (.int .i64 0)),(.lit (.bool false)),(.lit (.slice none 0 0)),(.lit (.slice none 0 0)),(.lit (.int .i64 0))]⟩]
abbrev f39_12:AC:=.ops [2,4,5,6] [2,4,5,6] [⟨none,.load (some 22) (.r 2) (some 2)⟩,vd 23 3 2,vl 24 23,vd 25 3 3,vl 26 25,vd 27 3 4,vl 28 27,⟨none,.call (some 29) false (.f 52) [(.r 22),(.r 24),(.r 26),(.r 28)]⟩,vv 21 29,ve 30 21 0,ve 31 21 1,ve 32 21 2,⟨none,.store 2 (.r 2) (.r 30)⟩,vd 33 6 0,⟨none,.store 1 (.r 33) (.r 31)⟩,vd 34 6 4,⟨none,.store 1 (.r 34) (.r 32)⟩]
abbrev f39_16:AC:=.ops [2,4,5,6] [2,4,5,6] [⟨none,.load (some 38) (.r 2) (some 2)⟩,vd 39 3 2,vl 40 39,vd 41 3 5,vl 42 41,⟨none,.call (some 43) false (.f 53) [(.r 38),(.r 40),(.r 42)]⟩,vv 37 43,ve 44 37 0,ve 45 37 1,⟨none,.store 2 (.r 2) (.r 44)⟩,vd 46 6 4,⟨none,.store 1 (.r 46) (.r 45)⟩]
abbrev f39_20:AC:=.ops [2,4,5,6] [2,4,5,6] [⟨none,.load (some 50) (.r 2) (some 2)⟩,vd 51 3 1,vl 52 51,vd 53 3 2,vl 54 53,vd 55 3 5,vl 56 55,⟨none,.call (some 57) false (.f 54) [(.r 50),(.r 52),(.r 54),(.r 56)]⟩,vv 49 57,ve 58 49 0,ve 59 49 1,ve 60 49 2,⟨none,.store 2 (.r 2) (.r 58)⟩,vd 61 6 1,⟨none,.store 1 (.r 61) (.r 59)⟩,vd 62 6 4,⟨none,.store 1 (.r 62) (.r 60)⟩]
abbrev f39_24:AC:=.ops [2,4,5,6] [2,4,5,6] [⟨none,.load (some 66) (.r 2) (some 2)⟩,vd 67 3 3,vl 68 67,⟨none,.call (some 69) false (.f 55) [(.r 66),(.r 68)]⟩,vv 65 69,ve 70 65 0,ve 71 65 1,ve 72 65 2,ve 73 65 3,⟨none,.store 2 (.r 2) (.r 70)⟩,vd 74 6 2,⟨none,.store 1 (.r 74) (.r 71)⟩,vd 75 6 3,⟨none,.store 1 (.r 75) (.r 72)⟩,vd 76 6 4,⟨none,.store 1 (.r 76) (.r 73)⟩]
abbrev f39_28:AC:=.ops [2,4,5,6] [2,4,5,6] [⟨none,.load (some 80) (.r 2) (some 2)⟩,vd 81 3 3,vl 82 81,⟨none,.call (some 83) false (.f 56) [(.r 80),(.r 82)]⟩,vv 79 83,ve 84 79 0,ve 85 79 1,ve 86 79 2,⟨none,.store 2 (.r 2) (.r 84)⟩,vd 87 6 3,⟨none,.store 1 (.r 87) (.r 85)⟩,vd 88 6 4,⟨none,.store 1 (.r 88) (.r 86)⟩]
abbrev f39_29:AC:=.ops [2,4,5,6] [2,4,5,6] [⟨none,.load (some 10) (.r 2) (some 2)⟩,vd 11 3 1,vl 12 11,⟨none,.call (some 13) false (.f 57) [(.r 10),(.r 12)]⟩,vv 9 13,ve 14 9 0,ve 15 9 1,ve 16 9 2,⟨none,.store 2 (.r 2) (.r 14)⟩,vd 17 6 3,⟨none,.store 1 (.r 17) (.r 15)⟩,vd 18 6 4,⟨none,.store 1 (.r 18) (.r 16)⟩]
abbrev f39_21:AC:=.seq (.ops [2,3,4,5,6,8,63] [2,3,4,5,6] [vb 64 .eql 8 3,vo 63 64]) (.cond (.r 63) f39_24 (.seq (.ops [2,3,4,5,6,77] [2,3,4,5,6] [vb 78 .eql 8 4,vo 77 78]) (.cond (.r 77) f39_28 f39_29)))
abbrev f39_13:AC:=.seq (.ops [2,3,4,5,6,8,35] [2,3,4,5,6] [vb 36 .eql 8 1,vo 35 36]) (.cond (.r 35) f39_16 (.seq (.ops [2,3,4,5,6,8,47] [2,3,4,5,6] [vb 48 .eql 8 2,vo 47 48]) (.cond (.r 47) f39_20 f39_21)))
abbrev f39_6:AC:=.seq (.ops [2,3,4,5,6,8] [2,3,4,5,6] [vd 7 3 0,vl 8 7]) (.block 0 (.seq (.ops [2,3,4,5,6,8,19] [2,3,4,5,6] [vb 20 .eql 8 0,vo 19 20]) (.cond (.r 19) f39_12 f39_13)))
abbrev f39_31:AC:=.draw [4,5] [4,5] [4] [⟨none,.load (some 89) (.r 2) (some 2)⟩,⟨none,.load (some 90) (.r 6) (some 5)⟩,⟨none,.store 2 (.r 4) (.r 89)⟩] [⟨none,.store 5 (.r 5) (.r 90)⟩]
abbrev f39_1:AC:=.seq f39_2 (.seq f39_4 (.seq f39_6 (.seq f39_31 .ret)))
def c_f39:AFun:=⟨91,[.cell 4 (some 2),.cell 5 (some 5)],f39_1⟩
theorem k_f39:kX x_f39 39 c_f39:=by delta kX; kernel_rfl
theorem e_f39:eX 39:=by delta eX; kernel_rfl

def n_f40:Nat:=40
def x_f40:=xX 20 [0,2,3,8,9,13,17,18,19] [9] [(3000000019,[5,10,14,2],[]),(2,[0],[]),(12,[0,4],[]),(52,[2],[]),(14,[2],[])]
abbrev f40_4:AC:=.seq (.ops [0,4] [] [vv 3 0,⟨none,.call (some 4) false (.f 58) [(.r 3)]⟩]) (.cond (.r 4) (.seq (.ops [2] [] [⟨none,.mv (some 2) (.c (.lit (.pointer none)))⟩]) .ret) .skip)
def f40_10h:List GI:=[vv 5 0,
  vn 6 5,
  vd 7 6 0,
  vl 8 7]
def f40_10p:List (Bool×GI):=[(false,vv 10 0),
  (false,vn 11 10),
  (false,vd 12 11 1),
  (false,vl 13 12),
  (false,vv 14 0),
  (false,vn 15 14),
  (false,vd 16 15 2),
  (false,vl 17 16)]
def f40_10l:List GI:=[⟨none,.bst (some 18) [(0,1),(1,1),(2,1)] (.agg [(.lit (.slice none 0 0)),(.lit (.int .i64 0)),(.lit (.int .i64 0))]) [(0,(.r 9)),(1,(.r 13)),(2,(.r 17))]⟩,
  ⟨none,.boxB 19 3 (.r 18)⟩,
  vo 2 19]
def f40_10:AC:=.drawA [2] [] f40_10h (some 9) (.c (.lit (.slice none 0 0))) 1 1 (.r 8) f40_10p f40_10l
theorem f40_10e:aC P id m f40_10 sf st Q = (m = false∧drawA P id f40_10h (some 9) (.c (.lit (.slice none 0 0))) 1 1 (.r 8) f40_10p sf st (nx P id m [2] [] f40_10l Q)):=rfl
abbrev f40_1:AC:=.seq (.ops [0] [] [⟨none,.mv (some 2) (.c (.lit (.pointer none)))⟩]) (.seq f40_4 (.seq f40_10 .ret))
def c_f40:AFun:=⟨20,[.tmp 2],f40_1⟩
theorem k_f40:kX x_f40 40 c_f40:=by delta kX; kernel_rfl
theorem e_f40:eX 40:=by delta eX; kernel_rfl

end
end Go.Fx.YtbdjfccgkdgbfaaFx

/- The functions that the statement reaches, resolved: printed by a program of ours from the translated code; each is checked here. -/
import Derived.Test.YtgmeefljgbaanaaProg
import Derived.Test.YtgmeefljgbaanaaFxF
set_option maxRecDepth 100000
set_option maxHeartbeats 0
namespace Go.Fx.YtgmeefljgbaanaaFx
open Go Go.Fx
def xX (n:Nat) (h u:List Nat) (q:List (Nat×List Nat×List Nat)):Cx:=⟨some,id,n,fun s=>h.contains s,fun s=>u.contains s,msOf q⟩
abbrev kX (x:Cx) (n:Nat) (c:AFun):Prop:=io Go.Proofs.Try.prog x n = some c
abbrev eX (n:Nat):Prop:=bR Go.Proofs.Try.prog n = true
abbrev SQ (a b c:AC):Prop:=∀ {P:Program} {m:Bool} {sf:Sf} {st:St} {Q:Exit→Sf→St→Prop},aC P id m a sf st Q = aC P id m b sf st (seqQ (aC P id m c) Q)
abbrev SO (a:AC) (l:List GI) (x y:List Nat) (c:AC):Prop:=∀ {P:Program} {m:Bool} {sf:Sf} {st:St} {Q:Exit→Sf→St→Prop},aC P id m a sf st Q = runI P id m l (opsK x y (seqQ (aC P id m c) Q)) sf st
abbrev CN (a:AC) (r:Nat) (b c:AC):Prop:=∀ {P:Program} {m:Bool} {sf:Sf} {st:St} {Q:Exit→Sf→St→Prop},aC P id m a sf st Q = im (.r r) (sf.ev id (.r r)) (aC P id m b) (aC P id m c) sf st Q
abbrev OP (a:AC) (l:List GI) (x y:List Nat):Prop:=∀ {P:Program} {m:Bool} {sf:Sf} {st:St} {Q:Exit→Sf→St→Prop},aC P id m a sf st Q = runI P id m l (opsK x y Q) sf st
abbrev BL (a b:AC) (k:Nat):Prop:=∀ {P:Program} {m:Bool} {sf:Sf} {st:St} {Q:Exit→Sf→St→Prop},aC P id m a sf st Q = aC P id m b sf st (eu k Q)
abbrev KF:Lean.Meta.Simp.Config:={ implicitDefEqProofs:=false,maxSteps:=10000000 }
section
variable {P:Program} {F:Nat→FuncId} {m:Bool} {sf:Sf} {st:St} {Q:Exit→Sf→St→Prop} {a b:AC} {x:Opd} {k:Nat} {l t:List GI} {u v w:List Nat} {d:Option Nat} {xs:List Opd} {q:List (Bool×GI)}
theorem aA1:aC P F m (.seq a b) sf st Q = aC P F m a sf st (seqQ (aC P F m b) Q):=rfl
theorem aA2:aC P F m (.cond x a b) sf st Q = im x (sf.ev F x) (aC P F m a) (aC P F m b) sf st Q:=rfl
theorem aA3:aC P F m (.ops u v l) sf st Q = runI P F m l (opsK u v Q) sf st:=rfl
theorem aA4:aC P F m (.block k a) sf st Q = aC P F m a sf st (eu k Q):=rfl
theorem aA5:aC P F m (.scope a) sf st Q = aC P F m a sf st (scopeQ Q):=rfl
theorem aA6:aC P F m (.draw u v w l t) sf st Q = aF P F sf.locs st l (dI P F m w u v t Q st) [] ⟨sf.regs,cy w sf.locs⟩:=rfl
theorem aA7:aC P F m (.drawM u v l d x xs q t) sf st Q = (m = false∧drawM P F l d x xs q sf st (j9 P F m u v t Q)):=rfl
end
theorem bZ:type_of% (And.intro (And.intro (And.intro (And.intro (And.intro (And.intro (And.intro (@lQ) (@seqQ_ret)) (And.intro (@opsK_eq) (@runI_nil))) (And.intro (And.intro (@oQ) (@putP_eq)) (And.intro (@mask_eq) (And.intro (@o7) (@nn))))) (And.intro (And.intro (And.intro (@oV) (@p9)) (And.intro (@jy) (@ev_r))) (And.intro (And.intro (@ev_c) (@o_mv)) (And.intro (@o_bin) (And.intro (@gu) (@l7)))))) (And.intro (And.intro (And.intro (And.intro (@setB_r) (@nr)) (And.intro (@aC_ret) (@aC_skip))) (And.intro (And.intro (@retQ_ret) (@iM)) (And.intro (@qc) (And.intro (@qd) (@List.map_cons.{0,0}))))) (And.intro (And.intro (And.intro (@List.map_nil.{0,0}) (@Sf.set.eq_1)) (And.intro (@Bool.true_and) (@Sf.reg.eq_1))) (And.intro (And.intro (@Nat.zero_add) (@List.drop_zero.{0})) (And.intro (@List.drop_succ_cons.{0}) (And.intro (@List.length_cons.{0}) (@List.length_nil.{0}))))))) (And.intro (And.intro (And.intro (And.intro (And.intro (@Sf.disAt.eq_1) (@Bool.false_eq_true)) (And.intro (@true_and) (@getR.eq_1))) (And.intro (And.intro (@getR.eq_2) (@Bool.and_true)) (And.intro (@setR.eq_1) (And.intro (@setR.eq_2) (@putS))))) (And.intro (And.intro (And.intro (@List.all_cons.{0}) (@List.all_nil.{0})) (And.intro (@List.set_cons_zero.{0}) (@il.eq_1))) (And.intro (And.intro (@il.eq_2) (@List.take_succ_cons.{0})) (And.intro (@List.set_cons_succ.{0}) (And.intro (@List.getElem?_cons_zero.{0}) (@decide_true)))))) (And.intro (And.intro (And.intro (And.intro (@List.getElem?_cons_succ.{0}) (@and_true)) (And.intro (@List.take_zero.{0}) (@ng))) (And.intro (And.intro (@eg) (@o_own)) (And.intro (@look.eq_1) (And.intro (@look.eq_2) (@jh.eq_1))))) (And.intro (And.intro (And.intro (@Nat.add_zero) (@o_load)) (And.intro (@Int.cast_ofNat_Int) (@ev_f))) (And.intro (And.intro (@o_call) (@Sf.setLoc.eq_1)) (And.intro (@o_addr) (And.intro (@oR) (@ka.eq_1)))))))) (And.intro (And.intro (And.intro (And.intro (And.intro (And.intro (@ka.eq_2) (@Sf.newLoc.eq_1)) (And.intro (@List.contains_nil.{0}) (@Bool.not_true))) (And.intro (And.intro (@o_pick) (@fH)) (And.intro (@IntWalk.i64_in) (And.intro (@fg.eq_1) (@fg.eq_2))))) (And.intro (And.intro (And.intro (@solid_eq) (@Bool.not_false)) (And.intro (@req_tt) (@bind_req))) (And.intro (And.intro (@oX) (@boxX.eq_1)) (And.intro (@evOwn_r) (And.intro (@ni) (@Int.toNat_natCast)))))) (And.intro (And.intro (And.intro (And.intro (@o9) (@nu)) (And.intro (@pick_ff) (@disOp_r))) (And.intro (And.intro (@nt) (@own2_lit)) (And.intro (@o_store) (And.intro (@o_nilck) (@qa))))) (And.intro (And.intro (And.intro (@dis_map) (@nh)) (And.intro (@List.length_map.{0,0}) (@resI.eq_1))) (And.intro (And.intro (@resI.eq_2) (@n_eql)) (And.intro (@pick_tt) (And.intro (@resL.eq_1) (@resL.eq_2))))))) (And.intro (And.intro (And.intro (And.intro (And.intro (@noL_tup) (@skipI_eq)) (And.intro (@k8) (@jc.eq_1))) (And.intro (And.intro (@jc.eq_2) (@oY)) (And.intro (@List.append_nil.{0}) (And.intro (@n_lss) (@val_head))))) (And.intro (And.intro (And.intro (@kill_agg) (@o_len)) (And.intro (@jg) (@decide_false))) (And.intro (And.intro (@o_un) (@o_ext)) (And.intro (@extV.eq_1) (And.intro (@extV.eq_2) (@and_self)))))) (And.intro (And.intro (And.intro (And.intro (@cy.eq_1) (@cy.eq_2)) (And.intro (@kill_ptr) (@h_none))) (And.intro (And.intro (@hh_mv) (@kill_lit)) (And.intro (@Int.toNat_zero) (And.intro (@h_nil) (@n_neq))))) (And.intro (And.intro (And.intro (@List.contains_cons.{0}) (@fO.eq_1)) (And.intro (@Bool.or_false) (And.intro (@aA1) (@aA2)))) (And.intro (And.intro (@aA3) (@aA4)) (And.intro (@aA5) (And.intro (@aA6) (@aA7))))))))):=And.intro (And.intro (And.intro (And.intro (And.intro (And.intro (And.intro (@lQ) (@seqQ_ret)) (And.intro (@opsK_eq) (@runI_nil))) (And.intro (And.intro (@oQ) (@putP_eq)) (And.intro (@mask_eq) (And.intro (@o7) (@nn))))) (And.intro (And.intro (And.intro (@oV) (@p9)) (And.intro (@jy) (@ev_r))) (And.intro (And.intro (@ev_c) (@o_mv)) (And.intro (@o_bin) (And.intro (@gu) (@l7)))))) (And.intro (And.intro (And.intro (And.intro (@setB_r) (@nr)) (And.intro (@aC_ret) (@aC_skip))) (And.intro (And.intro (@retQ_ret) (@iM)) (And.intro (@qc) (And.intro (@qd) (@List.map_cons.{0,0}))))) (And.intro (And.intro (And.intro (@List.map_nil.{0,0}) (@Sf.set.eq_1)) (And.intro (@Bool.true_and) (@Sf.reg.eq_1))) (And.intro (And.intro (@Nat.zero_add) (@List.drop_zero.{0})) (And.intro (@List.drop_succ_cons.{0}) (And.intro (@List.length_cons.{0}) (@List.length_nil.{0}))))))) (And.intro (And.intro (And.intro (And.intro (And.intro (@Sf.disAt.eq_1) (@Bool.false_eq_true)) (And.intro (@true_and) (@getR.eq_1))) (And.intro (And.intro (@getR.eq_2) (@Bool.and_true)) (And.intro (@setR.eq_1) (And.intro (@setR.eq_2) (@putS))))) (And.intro (And.intro (And.intro (@List.all_cons.{0}) (@List.all_nil.{0})) (And.intro (@List.set_cons_zero.{0}) (@il.eq_1))) (And.intro (And.intro (@il.eq_2) (@List.take_succ_cons.{0})) (And.intro (@List.set_cons_succ.{0}) (And.intro (@List.getElem?_cons_zero.{0}) (@decide_true)))))) (And.intro (And.intro (And.intro (And.intro (@List.getElem?_cons_succ.{0}) (@and_true)) (And.intro (@List.take_zero.{0}) (@ng))) (And.intro (And.intro (@eg) (@o_own)) (And.intro (@look.eq_1) (And.intro (@look.eq_2) (@jh.eq_1))))) (And.intro (And.intro (And.intro (@Nat.add_zero) (@o_load)) (And.intro (@Int.cast_ofNat_Int) (@ev_f))) (And.intro (And.intro (@o_call) (@Sf.setLoc.eq_1)) (And.intro (@o_addr) (And.intro (@oR) (@ka.eq_1)))))))) (And.intro (And.intro (And.intro (And.intro (And.intro (And.intro (@ka.eq_2) (@Sf.newLoc.eq_1)) (And.intro (@List.contains_nil.{0}) (@Bool.not_true))) (And.intro (And.intro (@o_pick) (@fH)) (And.intro (@IntWalk.i64_in) (And.intro (@fg.eq_1) (@fg.eq_2))))) (And.intro (And.intro (And.intro (@solid_eq) (@Bool.not_false)) (And.intro (@req_tt) (@bind_req))) (And.intro (And.intro (@oX) (@boxX.eq_1)) (And.intro (@evOwn_r) (And.intro (@ni) (@Int.toNat_natCast)))))) (And.intro (And.intro (And.intro (And.intro (@o9) (@nu)) (And.intro (@pick_ff) (@disOp_r))) (And.intro (And.intro (@nt) (@own2_lit)) (And.intro (@o_store) (And.intro (@o_nilck) (@qa))))) (And.intro (And.intro (And.intro (@dis_map) (@nh)) (And.intro (@List.length_map.{0,0}) (@resI.eq_1))) (And.intro (And.intro (@resI.eq_2) (@n_eql)) (And.intro (@pick_tt) (And.intro (@resL.eq_1) (@resL.eq_2))))))) (And.intro (And.intro (And.intro (And.intro (And.intro (@noL_tup) (@skipI_eq)) (And.intro (@k8) (@jc.eq_1))) (And.intro (And.intro (@jc.eq_2) (@oY)) (And.intro (@List.append_nil.{0}) (And.intro (@n_lss) (@val_head))))) (And.intro (And.intro (And.intro (@kill_agg) (@o_len)) (And.intro (@jg) (@decide_false))) (And.intro (And.intro (@o_un) (@o_ext)) (And.intro (@extV.eq_1) (And.intro (@extV.eq_2) (@and_self)))))) (And.intro (And.intro (And.intro (And.intro (@cy.eq_1) (@cy.eq_2)) (And.intro (@kill_ptr) (@h_none))) (And.intro (And.intro (@hh_mv) (@kill_lit)) (And.intro (@Int.toNat_zero) (And.intro (@h_nil) (@n_neq))))) (And.intro (And.intro (And.intro (@List.contains_cons.{0}) (@fO.eq_1)) (And.intro (@Bool.or_false) (And.intro (@aA1) (@aA2)))) (And.intro (And.intro (@aA3) (@aA4)) (And.intro (@aA5) (And.intro (@aA6) (@aA7))))))))
abbrev vv (d x:Nat):GI:=⟨none,.mv (some d) (.r x)⟩
abbrev vo (d x:Nat):GI:=⟨none,.own d x⟩
abbrev ve (d x k:Nat):GI:=⟨none,.ext (some d) (.r x) k⟩
abbrev vn (d x:Nat):GI:=⟨none,.nilck (some d) (.r x)⟩
abbrev vd (d x k:Nat):GI:=⟨none,.addr (some d) (.r x) k⟩
abbrev vl (d x:Nat):GI:=⟨none,.load (some d) (.r x) none⟩
abbrev vb (d:Nat) (o:BinOp) (x:Nat) (n:Int):GI:=⟨none,.bin (some d) .num o (.r x) (.c (.lit (.int .i64 n)))⟩
section
variable (P:Program) (m:Bool) (sf:Sf) (st:St) (Q:Exit→Sf→St→Prop)
def n_f4:Nat:=4
def x_f4:=xX 225 [0,1,2,3,4,10,11,12,14,15,16,17,20,21,23,24,25,26,27,28,29,30,31,32,33,34,35,36,37,38,39,40,41,42,43,44,45,46,47,48,49,50,51,52,53,55,56,57,58,59,60,61,62,63,64,66,67,68,69,70,71,72,73,74,75,76,77,78,79,80,81,83,84,85,87,88,90,92,94,95,96,98,99,100,101,103,104,107,109,112,113,114,116,119,121,123,124,125,127,128,129,131,132,133,135,136,138,140,141,142,143,145,146,147,148,149,150,151,152,153,154,155,156,157,158,159,160,161,162,163,164,165,166,167,168,169,170,171,172,173,174,175,177,178,179,181,182,184,186,187,188,189,190,191,193,195,198,200,201,202,204,205,206,207,208,209,210,213,214,215,216,217,219,220,222,223,224] [] [(2,[0,1,2,3,4],[]),(12,[0,1,2,3,4,54],[]),(52,[10],[]),(14,[0,1,2,3,4,11,12],[]),(60,[0,1,2,3,4,11,65],[]),(244,[10],[]),(62,[0,1,2,3,4,11,13],[13]),(126,[0,4,11,12,13,14],[13]),(508,[0,4,11,13,82],[13]),(2036,[10],[]),(510,[0,4,11,13,15],[13]),(1022,[0,4,11,13,15,16],[13]),(4092,[0,4,11,13,15,16,17],[13]),(8186,[0,4,11,13,15,16,17],[13]),(65488,[0,4,11,13,15,16,17,86],[13]),(130979,[13,15,16],[13]),(261960,[0,4,11,13,15,16,17,18],[13,18]),(1047844,[0,4,11,13,15,16,17,18,105],[13,18]),(2095690,[0,4,11,13,15,16,17],[13]),(2095692,[0,4,11,13,15,16,17,18,108],[13,18]),(4191386,[0,4,11,13,15,16,17,18],[13,18]),(2095694,[0,4,11,13,15,16,17,18,19],[13,18,19]),(8382780,[0,4,11,13,15,16,17,18,19,117],[13,18,19]),(16765562,[0,4,11,13,15,16,17],[13]),(16765564,[0,4,11,13,15,16,17,18,19,120],[13,18,19]),(33531130,[0,4,11,13,15,16,17,18,19],[13,18,19]),(33531132,[0,4,11,13,15,16,17,19,137],[13,19]),(67062266,[0,4,11,13,15,16,17,19],[13,19]),(33531134,[0,4,11,13,15,16,17],[13]),(67062270,[0,4,11,13,15,16,17,176],[13]),(268249084,[10],[]),(65491,[0,4,11,13,15,16,17],[13]),(4094,[13,15,16,20],[13]),(16380,[13,15,16,20,21],[13]),(32762,[13,15,16,20,21],[13]),(262096,[13,15,16,20,21,180],[13]),(524195,[],[]),(1048392,[13,15,16,20,21,22],[13,22]),(4193572,[13,15,16,20,21,22],[13,22]),(33548576,[13,15,16,20,21,22,203],[13,22]),(67097155,[13,15,16,20,21,22],[13,22]),(33548578,[13,15,16,20,21,22],[13,22]),(8387148,[13,15,16,20,21,221],[13]),(33548596,[10],[]),(4193575,[13,15,16,20,21],[13]),(262099,[13,15,16,20,21],[13]),(16382,[10],[])]
abbrev f4_2:AC:=.ops [0,1,2,3,4] [] [⟨none,.mv (some 10) (.c (.lit (.bool false)))⟩]
abbrev f4_5:AC:=.ops [0,1,2,3,4,54] [] [vv 23 4,⟨none,.len (some 24) .sl (.r 23)⟩,vb 25 .gtr 24 60,vv 26 25,⟨some (26,false),.mv (some 27) (.r 4)⟩,⟨some (26,false),.call (some 28) false (.f 13) [(.r 27)]⟩,⟨some (26,false),.un (some 29) .not (.r 28)⟩,⟨none,.pick (some 30) (.r 26) (.c (.lit (.bool true))) (.r 29)⟩,vv 31 30,⟨some (31,false),.mv (some 32) (.r 0)⟩,⟨some (31,false),.bin (some 33) .num .lss (.r 32) (.c (.lit (.int .i64 1)))⟩,⟨none,.pick (some 34) (.r 31) (.c (.lit (.bool true))) (.r 33)⟩,vv 35 34,⟨some (35,false),.mv (some 36) (.r 0)⟩,⟨some (35,false),.bin (some 37) .num .gtr (.r 36) (.c (.lit (.int .i64 256)))⟩,⟨none,.pick (some 38) (.r 35) (.c (.lit (.bool true))) (.r 37)⟩,vv 39 38,⟨some (39,false),.mv (some 40) (.r 1)⟩,⟨some (39,false),.bin (some 41) .num .lss (.r 40) (.c (.lit (.int .i64 0)))⟩,⟨none,.pick (some 42) (.r 39) (.c (.lit (.bool true))) (.r 41)⟩,vv 43 42,⟨some (43,false),.mv (some 44) (.r 1)⟩,⟨some (43,false),.bin (some 45) .num .gtr (.r 44) (.c (.lit (.int .i64 65536)))⟩,⟨none,.pick (some 46) (.r 43) (.c (.lit (.bool true))) (.r 45)⟩,vv 47 46,⟨some (47,false),.mv (some 48) (.r 2)⟩,⟨some (47,false),.bin (some 49) .num .lss (.r 48) (.c (.lit (.int .i64 1)))⟩,⟨none,.pick (some 50) (.r 47) (.c (.lit (.bool true))) (.r 49)⟩,vv 51 50,⟨some (51,false),.mv (some 52) (.r 2)⟩,⟨some (51,false),.bin (some 53) .num .gtr (.r 52) (.c (.lit (.int .i64 2)))⟩,⟨none,.pick (some 54) (.r 51) (.c (.lit (.bool true))) (.r 53)⟩]
abbrev f4_8:AC:=.ops [10] [] [⟨none,.call (some 55) false (.f 11) []⟩,vo 10 55]
abbrev f4_7:AC:=.seq f4_8 .ret
abbrev f4_6:AC:=.cond (.r 54) f4_7 .skip
abbrev f4_4:AC:=.seq f4_5 f4_6
abbrev f4_10:AC:=.ops [0,1,2,3,4,11,12] [] [⟨none,.call (some 57) false (.f 8) [(.c (.lit (.int .u64 0)))]⟩,vv 56 57,ve 58 56 0,ve 59 56 1,vo 11 58,vo 12 59]
abbrev f4_13:AC:=.ops [0,1,2,3,4,11,65] [] [vv 60 12,vb 61 .neq 60 0,vv 62 61,⟨some (62,false),.mv (some 63) (.r 11)⟩,⟨some (62,false),.bin (some 64) (.nil .ptr) .eql (.r 63) (.c (.lit (.pointer none)))⟩,⟨none,.pick (some 65) (.r 62) (.c (.lit (.bool true))) (.r 64)⟩]
abbrev f4_16:AC:=.ops [10] [] [⟨none,.mv (some 10) (.c (.lit (.bool false)))⟩]
abbrev f4_15:AC:=.seq f4_16 .ret
abbrev f4_14:AC:=.cond (.r 65) f4_15 .skip
abbrev f4_12:AC:=.seq f4_13 f4_14
abbrev f4_18:AC:=.ops [0,1,2,3,4,11,13] [13] [⟨none,.call (some 66) false (.f 10) [(.c (.lit (.string ⟨#[109,101]⟩))),(.c (.lit (.int .i64 5)))]⟩,⟨none,.newL 13 [(.lit (.string ⟨#[]⟩)),(.lit (.int .i64 0))]⟩,⟨none,.store 2 (.r 13) (.r 66)⟩]
abbrev f4_20:AC:=.ops [0,4,11,12,13,14] [13] [vv 68 11,⟨none,.load (some 69) (.r 13) (some 2)⟩,vv 70 0,vv 71 1,vv 72 2,vv 73 3,⟨none,.call (some 74) false (.f 9) [(.r 68),(.r 69),(.r 70),(.r 71),(.r 72),(.r 73)]⟩,vv 67 74,ve 75 67 0,ve 76 67 1,vo 14 75,vo 12 76]
abbrev f4_23:AC:=.ops [0,4,11,13,82] [13] [vv 77 12,vb 78 .neq 77 0,vv 79 78,⟨some (79,false),.mv (some 80) (.r 14)⟩,⟨some (79,false),.bin (some 81) .num .neq (.r 80) (.c (.lit (.int .i64 0)))⟩,⟨none,.pick (some 82) (.r 79) (.c (.lit (.bool true))) (.r 81)⟩]
abbrev f4_26:AC:=.ops [10] [] [⟨none,.mv (some 10) (.c (.lit (.bool false)))⟩]
abbrev f4_25:AC:=.seq f4_26 .ret
abbrev f4_24:AC:=.cond (.r 82) f4_25 .skip
abbrev f4_22:AC:=.seq f4_23 f4_24
abbrev f4_28:AC:=.ops [0,4,11,13,15] [13] [⟨none,.mv (some 15) (.c (.lit (.slice none 0 0)))⟩]
abbrev f4_30:AC:=.ops [0,4,11,13,15,16] [13] [⟨none,.mv (some 16) (.c (.lit (.slice none 0 0)))⟩]
abbrev f4_33:AC:=.ops [0,4,11,13,15,16,17] [13] [⟨none,.mv (some 17) (.c (.lit (.int .i64 0)))⟩]
abbrev f4_38:AC:=.ops [0,4,11,13,15,16,17,86] [13] [vv 83 17,vv 84 4,⟨none,.len (some 85) .sl (.r 84)⟩,⟨none,.bin (some 86) .num .lss (.r 83) (.r 85)⟩]
abbrev f4_39:AC:=.cond (.r 86) .skip (.exit [13,15,16] [13] 0)
abbrev f4_37:AC:=.seq f4_38 f4_39
abbrev f4_43:AC:=.ops [0,4,11,13,15,16,17,18] [13,18] [vv 89 4,vv 90 17,⟨none,.ixS (some 91) (.r 89) (.r 90) 10⟩,⟨none,.load (some 92) (.r 91) (some 10)⟩,⟨none,.newL 18 [(.lit (.int .i64 0)),(.lit (.int .i64 0)),(.lit (.int .i64 0)),(.lit (.int .i64 0)),(.lit (.string ⟨#[]⟩)),(.lit (.int .i64 0)),(.lit (.int .i64 0)),(.lit (.int .u64 0)),(.lit (.slice none 0 0)),(.lit (.int .u64 0))]⟩,⟨none,.store 10 (.r 18) (.r 92)⟩]
abbrev f4_46:AC:=.ops [0,4,11,13,15,16,17,18,105] [13,18] [vd 93 18 0,vl 94 93,vb 95 .eql 94 0,vv 96 95,⟨some (96,false),.addr (some 97) (.r 18) 0⟩,⟨some (96,false),.load (some 98) (.r 97) none⟩,⟨some (96,false),.bin (some 99) .num .eql (.r 98) (.c (.lit (.int .i64 5)))⟩,⟨none,.pick (some 100) (.r 96) (.c (.lit (.bool true))) (.r 99)⟩,vv 101 100,⟨some (101,false),.addr (some 102) (.r 18) 0⟩,⟨some (101,false),.load (some 103) (.r 102) none⟩,⟨some (101,false),.bin (some 104) .num .lss (.r 103) (.c (.lit (.int .i64 0)))⟩,⟨none,.pick (some 105) (.r 101) (.c (.lit (.bool true))) (.r 104)⟩]
abbrev f4_47:AC:=.cond (.r 105) (.exit [0,4,11,13,15,16,17] [13] 1) .skip
abbrev f4_45:AC:=.seq f4_46 f4_47
abbrev f4_50:AC:=.ops [0,4,11,13,15,16,17,18,108] [13,18] [vd 106 18 0,vl 107 106,vb 108 .leq 107 3]
abbrev f4_52:AC:=.draw [0,4,11,13,15,16,17,18] [13,18] [18] [⟨none,.load (some 109) (.r 13) (some 2)⟩,vd 110 18 2,⟨none,.store 1 (.r 110) (.c (.lit (.int .i64 0)))⟩] [vd 111 18 4,⟨none,.store 2 (.r 111) (.r 109)⟩]
abbrev f4_51:AC:=.cond (.r 108) f4_52 .skip
abbrev f4_49:AC:=.seq f4_50 f4_51
abbrev f4_54:AC:=.ops [0,4,11,13,15,16,17,18,19] [13,18,19] [vv 112 11,⟨none,.load (some 113) (.r 18) (some 10)⟩,⟨none,.call (some 114) false (.f 14) [(.r 112),(.r 113)]⟩,⟨none,.newL 19 [(.lit (.int .i64 0)),(.lit (.bool false)),(.lit (.int .i64 0)),(.lit (.string ⟨#[]⟩)),(.lit (.int .i64 0)),(.lit (.slice none 0 0)),(.lit (.int .u64 0)),(.lit (.bool false)),(.lit (.int .i64 0)),(.lit (.slice none 0 0)),(.lit (.int .i64 0))]⟩,⟨none,.store 11 (.r 19) (.r 114)⟩]
abbrev f4_57:AC:=.ops [0,4,11,13,15,16,17,18,19,117] [13,18,19] [vd 115 19 10,vl 116 115,vb 117 .neq 116 0]
abbrev f4_58:AC:=.cond (.r 117) (.exit [0,4,11,13,15,16,17] [13] 1) .skip
abbrev f4_56:AC:=.seq f4_57 f4_58
abbrev f4_61:AC:=.ops [0,4,11,13,15,16,17,18,19,120] [13,18,19] [vd 118 18 0,vl 119 118,vb 120 .eql 119 1]
abbrev f4_63:AC:=.ops [0,4,11,13,15,16,17,18,19] [13,18,19] [vo 121 15,vd 122 18 8,vl 123 122,⟨none,.bsl (some 124) 1 1 (.lit (.slice none 0 0)) [(0,(.r 123))]⟩,⟨none,.appS 125 121 1 24 (.r 124)⟩,vo 15 125]
abbrev f4_62:AC:=.cond (.r 120) f4_63 .skip
abbrev f4_60:AC:=.seq f4_61 f4_62
abbrev f4_66:AC:=.ops [0,4,11,13,15,16,17,19,137] [13,19] [vd 126 18 0,vl 127 126,vb 128 .eql 127 2,vv 129 128,⟨some (129,true),.addr (some 130) (.r 19) 1⟩,⟨some (129,true),.load (some 131) (.r 130) none⟩,⟨none,.pick (some 132) (.r 129) (.r 131) (.c (.lit (.bool false)))⟩,vv 133 132,⟨some (133,false),.addr (some 134) (.r 18) 0⟩,⟨some (133,false),.load (some 135) (.r 134) none⟩,⟨some (133,false),.bin (some 136) .num .eql (.r 135) (.c (.lit (.int .i64 3)))⟩,⟨none,.pick (some 137) (.r 133) (.c (.lit (.bool true))) (.r 136)⟩]
abbrev f4_68:AC:=.ops [0,4,11,13,15,16,17,19] [13,19] [vo 138 16,vd 139 19 2,⟨none,.load (some 140) (.r 139) (some 7)⟩,⟨none,.bsl (some 141) 7 1 (.agg [(.lit (.int .i64 0)),(.lit (.string ⟨#[]⟩)),(.lit (.int .i64 0)),(.lit (.slice none 0 0)),(.lit (.int .u64 0)),(.lit (.bool false)),(.lit (.int .i64 0))]) [(0,(.r 140))]⟩,⟨none,.appS 142 138 7 80 (.r 141)⟩,vo 16 142]
def f4_67:AC:=.cond (.r 137) f4_68 .skip
theorem f4_67e:CN f4_67 137 f4_68 .skip:=rfl
abbrev f4_65:AC:=.seq f4_66 f4_67
abbrev f4_70:AC:=.ops [0,4,11,13,15,16,17] [13] [vo 143 16,vd 144 19 9,vl 145 144,⟨none,.appS 146 143 7 80 (.r 145)⟩,vo 16 146]
abbrev f4_72:AC:=.ops [0,4,11,13,15,16,17,176] [13] [vv 147 11,⟨none,.call (some 148) false (.f 15) [(.r 147),(.c (.lit (.int .i64 0)))]⟩,vv 149 0,⟨none,.bin (some 150) .num .gtr (.r 148) (.r 149)⟩,vv 151 150,⟨some (151,false),.mv (some 152) (.r 11)⟩,⟨some (151,false),.call (some 153) false (.f 15) [(.r 152),(.c (.lit (.int .i64 0)))]⟩,⟨some (151,false),.bin (some 154) .num .gtr (.r 153) (.c (.lit (.int .i64 0)))⟩,⟨some (151,false),.mv (some 155) (.r 154)⟩,⟨some (155,true),.mv (some 156) (.r 11)⟩,⟨some (155,true),.call (some 157) false (.f 16) [(.r 156),(.c (.lit (.int .i64 0)))]⟩,⟨some (155,true),.bin (some 158) .num .gtr (.r 157) (.c (.lit (.int .i64 0)))⟩,⟨some (151,false),.pick (some 159) (.r 155) (.r 158) (.c (.lit (.bool false)))⟩,⟨none,.pick (some 160) (.r 151) (.c (.lit (.bool true))) (.r 159)⟩,vv 161 160,⟨some (161,false),.mv (some 162) (.r 15)⟩,⟨some (161,false),.len (some 163) .sl (.r 162)⟩,⟨some (161,false),.mv (some 164) (.r 16)⟩,⟨some (161,false),.len (some 165) .sl (.r 164)⟩,⟨some (161,false),.mv (some 166) (.r 11)⟩,⟨some (161,false),.call (some 167) false (.f 15) [(.r 166),(.c (.lit (.int .i64 0)))]⟩,⟨some (161,false),.bin (some 168) .num .add (.r 165) (.r 167)⟩,⟨some (161,false),.mv (some 169) (.r 11)⟩,⟨some (161,false),.call (some 170) false (.f 17) [(.r 169),(.c (.lit (.int .i64 0)))]⟩,⟨some (161,false),.bin (some 171) .num .add (.r 168) (.r 170)⟩,⟨some (161,false),.mv (some 172) (.r 11)⟩,⟨some (161,false),.call (some 173) false (.f 18) [(.r 172),(.c (.lit (.int .i64 0)))]⟩,⟨some (161,false),.bin (some 174) .num .add (.r 171) (.r 173)⟩,⟨some (161,false),.bin (some 175) .num .neq (.r 163) (.r 174)⟩,⟨none,.pick (some 176) (.r 161) (.c (.lit (.bool true))) (.r 175)⟩]
abbrev f4_75:AC:=.ops [10] [] [⟨none,.mv (some 10) (.c (.lit (.bool false)))⟩]
abbrev f4_74:AC:=.seq f4_75 .ret
abbrev f4_73:AC:=.cond (.r 176) f4_74 .skip
def f4_71:AC:=.seq f4_72 f4_73
theorem f4_71e:SQ f4_71 f4_72 f4_73:=rfl
def f4_69:AC:=.seq f4_70 f4_71
theorem f4_69e:SQ f4_69 f4_70 f4_71:=rfl
abbrev f4_64:AC:=.seq f4_65 f4_69
abbrev f4_59:AC:=.seq f4_60 f4_64
def f4_55:AC:=.seq f4_56 f4_59
theorem f4_55e:SQ f4_55 f4_56 f4_59:=rfl
abbrev f4_53:AC:=.seq f4_54 f4_55
abbrev f4_48:AC:=.seq f4_49 f4_53
abbrev f4_44:AC:=.seq f4_45 f4_48
abbrev f4_42:AC:=.seq f4_43 f4_44
abbrev f4_41:AC:=.block 1 f4_42
def f4_76l:List GI:=[vv 87 17,
    vb 88 .add 87 1,
    vo 17 88]
def f4_76:AC:=.ops [0,4,11,13,15,16,17] [13] f4_76l
theorem f4_76e:OP f4_76 f4_76l [0,4,11,13,15,16,17] [13]:=rfl
abbrev f4_40:AC:=.seq f4_41 f4_76
abbrev f4_36:AC:=.seq f4_37 f4_40
def f4_35:AC:=.loop [0,4,11,13,15,16,17] [13] f4_36
theorem f4_35w:aC P id m f4_35 sf st Q = a9 (aC P id m f4_36) [0,4,11,13,15,16,17] [13] sf st Q:=rfl
abbrev f4_34:AC:=.block 0 f4_35
def f4_32:AC:=.seq f4_33 f4_34
theorem f4_32e:SQ f4_32 f4_33 f4_34:=rfl
abbrev f4_78:AC:=.ops [13,15,16,20] [13] [⟨none,.mv (some 20) (.c (.lit (.int .i64 0)))⟩]
abbrev f4_81:AC:=.ops [13,15,16,20,21] [13] [⟨none,.mv (some 21) (.c (.lit (.int .i64 0)))⟩]
abbrev f4_86:AC:=.ops [13,15,16,20,21,180] [13] [vv 177 21,vv 178 16,⟨none,.len (some 179) .sl (.r 178)⟩,⟨none,.bin (some 180) .num .lss (.r 177) (.r 179)⟩]
abbrev f4_87:AC:=.cond (.r 180) .skip (.exit [] [] 2)
abbrev f4_85:AC:=.seq f4_86 f4_87
abbrev f4_91:AC:=.ops [13,15,16,20,21,22] [13,22] [vv 183 16,vv 184 21,⟨none,.ixS (some 185) (.r 183) (.r 184) 7⟩,⟨none,.load (some 186) (.r 185) (some 7)⟩,⟨none,.newL 22 [(.lit (.int .i64 0)),(.lit (.string ⟨#[]⟩)),(.lit (.int .i64 0)),(.lit (.slice none 0 0)),(.lit (.int .u64 0)),(.lit (.bool false)),(.lit (.int .i64 0))]⟩,⟨none,.store 7 (.r 22) (.r 186)⟩]
abbrev f4_97:AC:=.draw [13,15,16,20,21,22,203] [13,22] [] [vv 187 20,vv 188 15,⟨none,.len (some 189) .sl (.r 188)⟩,⟨none,.bin (some 190) .num .lss (.r 187) (.r 189)⟩,vv 191 190,⟨some (191,true),.mv (some 192) (.r 15)⟩,⟨some (191,true),.mv (some 193) (.r 20)⟩,⟨some (191,true),.ixS (some 194) (.r 192) (.r 193) 1⟩,⟨some (191,true),.load (some 195) (.r 194) none⟩,⟨some (191,true),.addr (some 196) (.r 22) 1⟩,⟨some (191,true),.addr (some 197) (.r 196) 2⟩,⟨some (191,true),.load (some 198) (.r 197) none⟩,⟨some (191,true),.addr (some 199) (.r 22) 5⟩,⟨some (191,true),.load (some 200) (.r 199) none⟩] [⟨some (191,true),.call (some 201) false (.f 19) [(.r 195),(.r 198),(.r 200)]⟩,⟨some (191,true),.un (some 202) .not (.r 201)⟩,⟨none,.pick (some 203) (.r 191) (.r 202) (.c (.lit (.bool false)))⟩]
abbrev f4_98:AC:=.cond (.r 203) .skip (.exit [13,15,16,20,21,22] [13,22] 4)
abbrev f4_96:AC:=.seq f4_97 f4_98
abbrev f4_100:AC:=.ops [13,15,16,20,21,22] [13,22] [vv 204 20,vb 205 .add 204 1,vo 20 205]
abbrev f4_99:AC:=.block 5 f4_100
abbrev f4_95:AC:=.seq f4_96 f4_99
def f4_94:AC:=.loop [13,15,16,20,21,22] [13,22] f4_95
theorem f4_94w:aC P id m f4_94 sf st Q = a9 (aC P id m f4_95) [13,15,16,20,21,22] [13,22] sf st Q:=rfl
abbrev f4_93:AC:=.block 4 f4_94
abbrev f4_103:AC:=.ops [13,15,16,20,21,221] [13] [vv 206 20,vv 207 15,⟨none,.len (some 208) .sl (.r 207)⟩,⟨none,.bin (some 209) .num .geq (.r 206) (.r 208)⟩,vv 210 209,⟨some (210,false),.addr (some 211) (.r 22) 1⟩,⟨some (210,false),.addr (some 212) (.r 211) 0⟩,⟨some (210,false),.load (some 213) (.r 212) (some 2)⟩,⟨some (210,false),.load (some 214) (.r 13) (some 2)⟩,⟨some (210,false),.bin (some 215) (.agg (.field 0 1 .str (.field 1 1 .int .tt))) .neq (.r 213) (.r 214)⟩,⟨none,.pick (some 216) (.r 210) (.c (.lit (.bool true))) (.r 215)⟩,vv 217 216,⟨some (217,false),.addr (some 218) (.r 22) 6⟩,⟨some (217,false),.load (some 219) (.r 218) none⟩,⟨some (217,false),.bin (some 220) .num .neq (.r 219) (.c (.lit (.int .i64 0)))⟩,⟨none,.pick (some 221) (.r 217) (.c (.lit (.bool true))) (.r 220)⟩]
abbrev f4_106:AC:=.ops [10] [] [⟨none,.mv (some 10) (.c (.lit (.bool false)))⟩]
abbrev f4_105:AC:=.seq f4_106 .ret
abbrev f4_104:AC:=.cond (.r 221) f4_105 .skip
abbrev f4_102:AC:=.seq f4_103 f4_104
abbrev f4_107:AC:=.ops [13,15,16,20,21] [13] [vv 222 20,vb 223 .add 222 1,vo 20 223]
abbrev f4_101:AC:=.seq f4_102 f4_107
abbrev f4_92:AC:=.seq f4_93 f4_101
abbrev f4_90:AC:=.seq f4_91 f4_92
abbrev f4_89:AC:=.block 3 f4_90
abbrev f4_108:AC:=.ops [13,15,16,20,21] [13] [vv 181 21,vb 182 .add 181 1,vo 21 182]
abbrev f4_88:AC:=.seq f4_89 f4_108
abbrev f4_84:AC:=.seq f4_85 f4_88
def f4_83:AC:=.loop [13,15,16,20,21] [13] f4_84
theorem f4_83w:aC P id m f4_83 sf st Q = a9 (aC P id m f4_84) [13,15,16,20,21] [13] sf st Q:=rfl
abbrev f4_82:AC:=.block 2 f4_83
abbrev f4_80:AC:=.seq f4_81 f4_82
abbrev f4_110:AC:=.ops [10] [] [⟨none,.call (some 224) false (.f 11) []⟩,vo 10 224]
abbrev f4_109:AC:=.seq f4_110 .ret
abbrev f4_79:AC:=.seq f4_80 f4_109
def f4_77:AC:=.seq f4_78 f4_79
theorem f4_77e:SQ f4_77 f4_78 f4_79:=rfl
abbrev f4_31:AC:=.seq f4_32 f4_77
abbrev f4_29:AC:=.seq f4_30 f4_31
abbrev f4_27:AC:=.seq f4_28 f4_29
abbrev f4_21:AC:=.seq f4_22 f4_27
abbrev f4_19:AC:=.seq f4_20 f4_21
abbrev f4_17:AC:=.seq f4_18 f4_19
abbrev f4_11:AC:=.seq f4_12 f4_17
abbrev f4_9:AC:=.seq f4_10 f4_11
abbrev f4_3:AC:=.seq f4_4 f4_9
abbrev f4_1:AC:=.seq f4_2 f4_3
def c_f4:AFun:=⟨225,[.tmp 10],f4_1⟩
theorem k_f4:kX x_f4 4 c_f4:=by delta kX; kernel_rfl
theorem e_f4:eX 4:=by delta eX; kernel_rfl

def n_f8:Nat:=8
def x_f8:=xX 11 [0,2,3,4,6,7,8,9,10] [] [(2,[0],[]),(12,[0,5],[]),(52,[2,3],[]),(14,[2,3],[])]
abbrev f8_2:AC:=.ops [0] [] [⟨none,.mv (some 2) (.c (.lit (.pointer none)))⟩,⟨none,.mv (some 3) (.c (.lit (.int .i64 0)))⟩]
abbrev f8_5:AC:=.ops [0,5] [] [vv 4 0,⟨none,.bin (some 5) .num .eql (.r 4) (.c (.lit (.int .u64 18446744073709551615)))⟩]
abbrev f8_8:AC:=.ops [2,3] [] [⟨none,.mv (some 2) (.c (.lit (.pointer none)))⟩,⟨none,.mv (some 3) (.c (.lit (.int .i64 2)))⟩]
abbrev f8_7:AC:=.seq f8_8 .ret
abbrev f8_6:AC:=.cond (.r 5) f8_7 .skip
abbrev f8_4:AC:=.seq f8_5 f8_6
abbrev f8_10:AC:=.ops [2,3] [] [vv 6 0,⟨none,.mkmap 7⟩,⟨none,.mkmap 8⟩,⟨none,.bst (some 9) [(0,1),(1,1),(2,1)] (.agg [(.lit (.int .u64 0)),(.lit (.map none)),(.lit (.map none))]) [(0,(.r 6)),(1,(.r 7)),(2,(.r 8))]⟩,⟨none,.boxB 10 3 (.r 9)⟩,vo 2 10,⟨none,.mv (some 3) (.c (.lit (.int .i64 0)))⟩]
abbrev f8_9:AC:=.seq f8_10 .ret
abbrev f8_3:AC:=.seq f8_4 f8_9
abbrev f8_1:AC:=.seq f8_2 f8_3
def c_f8:AFun:=⟨11,[.tmp 2,.tmp 3],f8_1⟩
theorem k_f8:kX x_f8 8 c_f8:=by delta kX; kernel_rfl
theorem e_f8:eX 8:=by delta eX; kernel_rfl

def n_f9:Nat:=9
def x_f9:=xX 81 [0,1,2,3,4,5,12,13,14,16,17,19,20,21,22,23,24,25,26,27,28,29,30,31,32,33,34,35,36,37,38,39,40,41,42,43,44,45,47,48,49,50,55,56,57,61,62,63,65,66,70,71,72,73,74,75,76,77,78,79,80] [77] [(2,[0,2,3,4,5,7],[7]),(24,[0,2,3,4,5,7,15],[7]),(100,[12,13],[]),(102,[0,2,3,4,5,7,18],[7]),(412,[12,13],[]),(414,[0,2,3,4,5,7,46],[7]),(1660,[12,13],[]),(1662,[0,2,3,4,5,7,51],[7]),(6652,[12,13],[]),(14,[0,2,3,4,5,7,14],[7]),(60,[0,2,3,4,5,7,14],[7]),(480,[0,2,3,4,5,7,14,64],[7]),(963,[0,2,3,4,5,7,14],[7]),(482,[0,2,3,4,5,7,14],[7]),(62,[14],[]),(126,[12,13],[])]
abbrev f9_2:AC:=.ops [0,2,3,4,5,7] [7] [⟨none,.boxL 7 2 (.r 1)⟩,⟨none,.mv (some 12) (.c (.lit (.int .i64 0)))⟩,⟨none,.mv (some 13) (.c (.lit (.int .i64 0)))⟩]
abbrev f9_6:AC:=.ops [0,2,3,4,5,7,15] [7] [vv 16 0,⟨none,.call (some 17) false (.f 26) [(.r 16)]⟩,vo 15 17]
abbrev f9_9:AC:=.ops [12,13] [] [⟨none,.mv (some 12) (.c (.lit (.int .i64 0)))⟩,⟨none,.mv (some 13) (.c (.lit (.int .i64 1)))⟩]
abbrev f9_8:AC:=.seq f9_9 .ret
abbrev f9_11:AC:=.ops [0,2,3,4,5,7,18] [7] [⟨none,.load (some 19) (.r 7) (some 2)⟩,⟨none,.call (some 20) false (.f 27) [(.r 19)]⟩,⟨none,.un (some 21) .not (.r 20)⟩,vv 22 21,⟨some (22,false),.mv (some 23) (.r 2)⟩,⟨some (22,false),.bin (some 24) .num .lss (.r 23) (.c (.lit (.int .i64 1)))⟩,⟨none,.pick (some 25) (.r 22) (.c (.lit (.bool true))) (.r 24)⟩,vv 26 25,⟨some (26,false),.mv (some 27) (.r 2)⟩,⟨some (26,false),.bin (some 28) .num .gtr (.r 27) (.c (.lit (.int .i64 256)))⟩,⟨none,.pick (some 29) (.r 26) (.c (.lit (.bool true))) (.r 28)⟩,vv 30 29,⟨some (30,false),.mv (some 31) (.r 3)⟩,⟨some (30,false),.bin (some 32) .num .lss (.r 31) (.c (.lit (.int .i64 0)))⟩,⟨none,.pick (some 33) (.r 30) (.c (.lit (.bool true))) (.r 32)⟩,vv 34 33,⟨some (34,false),.mv (some 35) (.r 3)⟩,⟨some (34,false),.bin (some 36) .num .gtr (.r 35) (.c (.lit (.int .i64 65536)))⟩,⟨none,.pick (some 37) (.r 34) (.c (.lit (.bool true))) (.r 36)⟩,vv 38 37,⟨some (38,false),.mv (some 39) (.r 4)⟩,⟨some (38,false),.bin (some 40) .num .neq (.r 39) (.c (.lit (.int .i64 1)))⟩,⟨some (38,false),.mv (some 41) (.r 40)⟩,⟨some (41,true),.mv (some 42) (.r 4)⟩,⟨some (41,true),.bin (some 43) .num .neq (.r 42) (.c (.lit (.int .i64 2)))⟩,⟨some (38,false),.pick (some 44) (.r 41) (.r 43) (.c (.lit (.bool false)))⟩,⟨none,.pick (some 45) (.r 38) (.c (.lit (.bool true))) (.r 44)⟩,vo 18 45]
abbrev f9_14:AC:=.ops [12,13] [] [⟨none,.mv (some 12) (.c (.lit (.int .i64 0)))⟩,⟨none,.mv (some 13) (.c (.lit (.int .i64 2)))⟩]
abbrev f9_13:AC:=.seq f9_14 .ret
abbrev f9_16:AC:=.ops [0,2,3,4,5,7,46] [7] [vv 47 0,⟨none,.load (some 48) (.r 7) (some 2)⟩,⟨none,.call (some 49) false (.f 28) [(.r 47),(.r 48)]⟩,vb 50 .geq 49 0,vo 46 50]
abbrev f9_19:AC:=.ops [12,13] [] [⟨none,.mv (some 12) (.c (.lit (.int .i64 0)))⟩,⟨none,.mv (some 13) (.c (.lit (.int .i64 11)))⟩]
abbrev f9_18:AC:=.seq f9_19 .ret
abbrev f9_21:AC:=.ops [0,2,3,4,5,7,51] [7] [vv 52 0,vn 53 52,vd 54 53 1,vl 55 54,⟨none,.len (some 56) .mp (.r 55)⟩,vb 57 .geq 56 64,vo 51 57]
abbrev f9_24:AC:=.ops [12,13] [] [⟨none,.mv (some 12) (.c (.lit (.int .i64 0)))⟩,⟨none,.mv (some 13) (.c (.lit (.int .i64 7)))⟩]
abbrev f9_23:AC:=.seq f9_24 .ret
abbrev f9_22:AC:=.cond (.r 51) f9_23 .skip
abbrev f9_20:AC:=.seq f9_21 f9_22
abbrev f9_17:AC:=.cond (.r 46) f9_18 f9_20
def f9_15:AC:=.seq f9_16 f9_17
theorem f9_15e:SQ f9_15 f9_16 f9_17:=rfl
abbrev f9_12:AC:=.cond (.r 18) f9_13 f9_15
abbrev f9_10:AC:=.seq f9_11 f9_12
abbrev f9_7:AC:=.cond (.r 15) f9_8 f9_10
abbrev f9_5:AC:=.seq f9_6 f9_7
abbrev f9_4:AC:=.block 0 f9_5
abbrev f9_26:AC:=.ops [0,2,3,4,5,7,14] [7] [⟨none,.mv (some 14) (.c (.lit (.int .i64 0)))⟩]
abbrev f9_32:AC:=.ops [0,2,3,4,5,7,14,64] [7] [vv 58 0,vn 59 58,vd 60 59 1,vl 61 60,vv 62 14,⟨none,.lookup (some 63) (.int .i64) (.lit (.pointer none)) false (.r 61) (.r 62)⟩,⟨none,.bin (some 64) (.nil .ptr) .neq (.r 63) (.c (.lit (.pointer none)))⟩]
abbrev f9_33:AC:=.cond (.r 64) .skip (.exit [0,2,3,4,5,7,14] [7] 1)
abbrev f9_31:AC:=.seq f9_32 f9_33
abbrev f9_35:AC:=.ops [0,2,3,4,5,7,14] [7] [vv 65 14,vb 66 .add 65 1,vo 14 66]
abbrev f9_34:AC:=.block 2 f9_35
abbrev f9_30:AC:=.seq f9_31 f9_34
def f9_29:AC:=.loop [0,2,3,4,5,7,14] [7] f9_30
theorem f9_29w:aC P id m f9_29 sf st Q = a9 (aC P id m f9_30) [0,2,3,4,5,7,14] [7] sf st Q:=rfl
abbrev f9_28:AC:=.block 1 f9_29
def f9_37h:List (Bool×GI):=[(false,vv 67 0),
    (false,vn 68 67),
    (false,vd 69 68 1),
    (false,vl 70 69),
    (false,vv 71 14),
    (false,⟨none,.load (some 72) (.r 7) (some 2)⟩),
    (false,vv 73 2),
    (false,vv 74 3),
    (false,vv 75 4),
    (false,vv 76 5),
    (true,⟨none,.call (some 77) true (.f 29) []⟩),
    (false,⟨none,.bst (some 78) [(0,2),(2,1),(3,1),(4,1),(5,1),(6,1),(7,1),(8,1),(9,1),(10,1)] (.agg [(.lit (.string ⟨#[]⟩)),(.lit (.int .i64 0)),(.lit (.int .i64 0)),(.lit (.int .i64 0)),(.lit (.int .i64 0)),(.lit (.int .u64 0)),(.lit (.slice none 0 0)),(.lit (.int .i64 0)),(.lit (.int .i64 0)),(.lit (.int .i64 0)),(.lit (.pointer none))]) [(0,(.r 72)),(1,(.r 73)),(2,(.r 74)),(3,(.r 75)),(4,(.r 76)),(9,(.r 77))]⟩),
    (true,⟨none,.boxB 79 11 (.r 78)⟩)]
def f9_37l:List GI:=[⟨none,.upd (.int .i64) (.r 70) (.r 71) (.r 79)⟩]
def f9_37:AC:=.drawG [14] [] [] f9_37h f9_37l
theorem f9_37e:aC P id m f9_37 sf st Q = (m = false∧drawX P id sf.locs st f9_37h (tailX P id m [] [14] [] f9_37l Q) ⟨sf.regs,cy [] sf.locs⟩):=rfl
abbrev f9_39:AC:=.ops [12,13] [] [vv 80 14,vo 12 80,⟨none,.mv (some 13) (.c (.lit (.int .i64 0)))⟩]
abbrev f9_38:AC:=.seq f9_39 .ret
abbrev f9_36:AC:=.seq f9_37 f9_38
abbrev f9_27:AC:=.seq f9_28 f9_36
def f9_25:AC:=.seq f9_26 f9_27
theorem f9_25e:SQ f9_25 f9_26 f9_27:=rfl
abbrev f9_3:AC:=.seq f9_4 f9_25
abbrev f9_1:AC:=.seq f9_2 f9_3
def c_f9:AFun:=⟨81,[.tmp 12,.tmp 13],f9_1⟩
theorem k_f9:kX x_f9 9 c_f9:=by delta kX; kernel_rfl
theorem e_f9:eX 9:=by delta eX; kernel_rfl

def n_f10:Nat:=10
def x_f10:=xX 8 [0,1,5,6,7] [] [(2,[0,1,4],[4]),(6,[4],[4])]
abbrev f10_2:AC:=.ops [0,1,4] [4] [⟨none,.newL 4 [(.lit (.string ⟨#[]⟩)),(.lit (.int .i64 0))]⟩]
abbrev f10_4:AC:=.ops [4] [4] [vv 5 0,vv 6 1,⟨none,.bst (some 7) [(0,1),(1,1)] (.agg [(.lit (.string ⟨#[]⟩)),(.lit (.int .i64 0))]) [(0,(.r 5)),(1,(.r 6))]⟩,⟨none,.store 2 (.r 4) (.r 7)⟩]
abbrev f10_3:AC:=.seq f10_4 .ret
abbrev f10_1:AC:=.seq f10_2 f10_3
def c_f10:AFun:=⟨8,[.cell 4 (some 2)],f10_1⟩
theorem k_f10:kX x_f10 10 c_f10:=by delta kX; kernel_rfl
theorem e_f10:eX 10:=by delta eX; kernel_rfl

def n_f11:Nat:=11
def x_f11:=xX 159 [0,1,2,5,6,7,10,11,12,13,14,15,16,17,18,19,21,22,23,24,25,26,27,28,29,30,31,32,33,34,35,36,37,38,39,40,41,42,43,44,45,46,47,48,49,50,51,52,53,54,55,56,57,58,59,60,61,62,63,64,65,66,67,68,69,70,71,72,73,74,75,77,78,79,80,81,82,83,84,85,86,87,88,89,90,91,92,93,94,95,96,97,98,99,100,101,102,103,104,105,106,107,109,110,111,113,114,115,116,117,118,119,120,121,122,123,124,125,126,127,128,129,130,131,132,133,134,135,136,137,138,139,141,142,143,144,145,146,147,148,149,150,151,152,153,154,155,156,157,158] [] [(2,[],[]),(6,[1,2],[]),(28,[1,20],[]),(116,[0],[]),(30,[1,3,4],[3,4]),(62,[1,2,3,4,5],[3,4]),(126,[1,2,3,4,5,6,7],[3,4]),(508,[1,3,4,76],[3,4]),(2036,[0],[]),(510,[1,2,3,4,8],[3,4,8]),(2044,[1,3,4,108],[3,4]),(8180,[0],[]),(2046,[1,2,3,4],[3,4]),(4094,[1,2,3,4,7,10],[3,4]),(16380,[1,4,140],[4]),(65524,[0],[]),(16382,[0],[])]
abbrev f11_2:AC:=.ops [] [] [⟨none,.mv (some 0) (.c (.lit (.bool false)))⟩]
abbrev f11_4:AC:=.ops [1,2] [] [⟨none,.call (some 12) false (.f 8) [(.c (.lit (.int .u64 100)))]⟩,vv 11 12,ve 13 11 0,ve 14 11 1,vo 1 13,vo 2 14]
abbrev f11_7:AC:=.ops [1,20] [] [vv 15 2,vb 16 .neq 15 0,vv 17 16,⟨some (17,false),.mv (some 18) (.r 1)⟩,⟨some (17,false),.bin (some 19) (.nil .ptr) .eql (.r 18) (.c (.lit (.pointer none)))⟩,⟨none,.pick (some 20) (.r 17) (.c (.lit (.bool true))) (.r 19)⟩]
abbrev f11_10:AC:=.ops [0] [] [⟨none,.mv (some 0) (.c (.lit (.bool false)))⟩]
abbrev f11_9:AC:=.seq f11_10 .ret
abbrev f11_8:AC:=.cond (.r 20) f11_9 .skip
abbrev f11_6:AC:=.seq f11_7 f11_8
abbrev f11_12:AC:=.ops [1,3,4] [3,4] [⟨none,.call (some 21) false (.f 10) [(.c (.lit (.string ⟨#[97]⟩))),(.c (.lit (.int .i64 1)))]⟩,⟨none,.call (some 22) false (.f 10) [(.c (.lit (.string ⟨#[98]⟩))),(.c (.lit (.int .i64 7)))]⟩,⟨none,.newL 3 [(.lit (.string ⟨#[]⟩)),(.lit (.int .i64 0))]⟩,⟨none,.newL 4 [(.lit (.string ⟨#[]⟩)),(.lit (.int .i64 0))]⟩,⟨none,.store 2 (.r 3) (.r 21)⟩,⟨none,.store 2 (.r 4) (.r 22)⟩]
abbrev f11_14:AC:=.ops [1,2,3,4,5] [3,4] [vv 24 1,⟨none,.load (some 25) (.r 3) (some 2)⟩,⟨none,.call (some 26) false (.f 9) [(.r 24),(.r 25),(.c (.lit (.int .i64 2))),(.c (.lit (.int .i64 8))),(.c (.lit (.int .i64 1))),(.c (.lit (.int .u64 10)))]⟩,vv 23 26,ve 27 23 0,ve 28 23 1,vo 5 27,vo 2 28]
abbrev f11_16:AC:=.ops [1,2,3,4,5,6,7] [3,4] [vv 30 1,⟨none,.load (some 31) (.r 4) (some 2)⟩,⟨none,.call (some 32) false (.f 9) [(.r 30),(.r 31),(.c (.lit (.int .i64 2))),(.c (.lit (.int .i64 4))),(.c (.lit (.int .i64 2))),(.c (.lit (.int .u64 0)))]⟩,vv 29 32,ve 33 29 0,ve 34 29 1,vo 6 33,vo 7 34]
abbrev f11_19:AC:=.ops [1,3,4,76] [3,4] [vv 35 2,vb 36 .neq 35 0,vv 37 36,⟨some (37,false),.mv (some 38) (.r 7)⟩,⟨some (37,false),.bin (some 39) .num .neq (.r 38) (.c (.lit (.int .i64 0)))⟩,⟨none,.pick (some 40) (.r 37) (.c (.lit (.bool true))) (.r 39)⟩,vv 41 40,⟨some (41,false),.mv (some 42) (.r 5)⟩,⟨some (41,false),.bin (some 43) .num .neq (.r 42) (.c (.lit (.int .i64 0)))⟩,⟨none,.pick (some 44) (.r 41) (.c (.lit (.bool true))) (.r 43)⟩,vv 45 44,⟨some (45,false),.mv (some 46) (.r 6)⟩,⟨some (45,false),.bin (some 47) .num .neq (.r 46) (.c (.lit (.int .i64 1)))⟩,⟨none,.pick (some 48) (.r 45) (.c (.lit (.bool true))) (.r 47)⟩,vv 49 48,⟨some (49,false),.mv (some 50) (.r 1)⟩,⟨some (49,false),.load (some 51) (.r 3) (some 2)⟩,⟨some (49,false),.call (some 52) false (.f 30) [(.r 50),(.c (.lit (.int .i64 1))),(.r 51),(.c (.lit (.string ⟨#[97,98,99]⟩))),(.c (.lit (.slice none 0 0)))]⟩,⟨some (49,false),.un (some 53) .not (.r 52)⟩,⟨none,.pick (some 54) (.r 49) (.c (.lit (.bool true))) (.r 53)⟩,vv 55 54,⟨some (55,false),.mv (some 56) (.r 1)⟩,⟨some (55,false),.load (some 57) (.r 3) (some 2)⟩,⟨some (55,false),.call (some 58) false (.f 30) [(.r 56),(.c (.lit (.int .i64 1))),(.r 57),(.c (.lit (.string ⟨#[100,101,102]⟩))),(.c (.lit (.slice none 0 0)))]⟩,⟨some (55,false),.un (some 59) .not (.r 58)⟩,⟨none,.pick (some 60) (.r 55) (.c (.lit (.bool true))) (.r 59)⟩,vv 61 60,⟨some (61,false),.mv (some 62) (.r 1)⟩,⟨some (61,false),.load (some 63) (.r 3) (some 2)⟩,⟨some (61,false),.call (some 64) false (.f 30) [(.r 62),(.c (.lit (.int .i64 1))),(.r 63),(.c (.lit (.string ⟨#[103,104,105]⟩))),(.c (.lit (.slice none 0 0)))]⟩,⟨some (61,false),.un (some 65) .not (.r 64)⟩,⟨none,.pick (some 66) (.r 61) (.c (.lit (.bool true))) (.r 65)⟩,vv 67 66,⟨some (67,false),.mv (some 68) (.r 1)⟩,⟨some (67,false),.call (some 69) false (.f 15) [(.r 68),(.c (.lit (.int .i64 0)))]⟩,⟨some (67,false),.bin (some 70) .num .neq (.r 69) (.c (.lit (.int .i64 2)))⟩,⟨none,.pick (some 71) (.r 67) (.c (.lit (.bool true))) (.r 70)⟩,vv 72 71,⟨some (72,false),.mv (some 73) (.r 1)⟩,⟨some (72,false),.call (some 74) false (.f 17) [(.r 73),(.c (.lit (.int .i64 0)))]⟩,⟨some (72,false),.bin (some 75) .num .neq (.r 74) (.c (.lit (.int .i64 1)))⟩,⟨none,.pick (some 76) (.r 72) (.c (.lit (.bool true))) (.r 75)⟩]
abbrev f11_22:AC:=.ops [0] [] [⟨none,.mv (some 0) (.c (.lit (.bool false)))⟩]
abbrev f11_21:AC:=.seq f11_22 .ret
abbrev f11_20:AC:=.cond (.r 76) f11_21 .skip
abbrev f11_18:AC:=.seq f11_19 f11_20
abbrev f11_24:AC:=.ops [1,2,3,4,8] [3,4,8] [vv 78 1,⟨none,.call (some 79) false (.f 31) [(.r 78),(.c (.lit (.int .i64 0))),(.c (.lit (.int .i64 2)))]⟩,vv 77 79,ve 80 77 0,ve 81 77 1,⟨none,.newL 8 [(.lit (.int .i64 0)),(.lit (.string ⟨#[]⟩)),(.lit (.int .i64 0)),(.lit (.slice none 0 0)),(.lit (.int .u64 0)),(.lit (.bool false)),(.lit (.int .i64 0))]⟩,⟨none,.store 7 (.r 8) (.r 80)⟩,vo 2 81]
abbrev f11_27:AC:=.ops [1,3,4,108] [3,4] [vv 82 2,vb 83 .neq 82 0,vv 84 83,⟨some (84,false),.load (some 85) (.r 8) (some 7)⟩,⟨some (84,false),.load (some 86) (.r 4) (some 2)⟩,⟨some (84,false),.bsl (some 87) 1 2 (.lit (.int .u8 0)) [(0,(.c (.lit (.int .u8 100)))),(1,(.c (.lit (.int .u8 101))))]⟩,⟨some (84,false),.x (some 88) (.mark 87)⟩,⟨some (84,false),.bst (some 89) [(0,2),(2,1),(3,1)] (.agg [(.lit (.string ⟨#[]⟩)),(.lit (.int .i64 0)),(.lit (.slice none 0 0)),(.lit (.int .u64 0))]) [(0,(.r 86)),(1,(.r 88)),(2,(.c (.lit (.int .u64 100))))]⟩,⟨some (84,false),.bst (some 90) [(0,1),(1,4),(5,1),(6,1)] (.agg [(.lit (.int .i64 0)),(.lit (.string ⟨#[]⟩)),(.lit (.int .i64 0)),(.lit (.slice none 0 0)),(.lit (.int .u64 0)),(.lit (.bool false)),(.lit (.int .i64 0))]) [(1,(.r 89)),(2,(.c (.lit (.bool true))))]⟩,⟨some (84,false),.call (some 91) false (.f 32) [(.r 85),(.r 90)]⟩,⟨some (84,false),.un (some 92) .not (.r 91)⟩,⟨none,.pick (some 93) (.r 84) (.c (.lit (.bool true))) (.r 92)⟩,vv 94 93,⟨some (94,false),.mv (some 95) (.r 1)⟩,⟨some (94,false),.call (some 96) false (.f 33) [(.r 95),(.c (.lit (.int .u64 109))),(.c (.lit (.int .i64 0)))]⟩,⟨some (94,false),.un (some 97) .not (.r 96)⟩,⟨none,.pick (some 98) (.r 94) (.c (.lit (.bool true))) (.r 97)⟩,vv 99 98,⟨some (99,false),.mv (some 100) (.r 1)⟩,⟨some (99,false),.call (some 101) false (.f 33) [(.r 100),(.c (.lit (.int .u64 110))),(.c (.lit (.int .i64 1)))]⟩,⟨some (99,false),.un (some 102) .not (.r 101)⟩,⟨none,.pick (some 103) (.r 99) (.c (.lit (.bool true))) (.r 102)⟩,vv 104 103,⟨some (104,false),.mv (some 105) (.r 1)⟩,⟨some (104,false),.call (some 106) false (.f 18) [(.r 105),(.c (.lit (.int .i64 0)))]⟩,⟨some (104,false),.bin (some 107) .num .neq (.r 106) (.c (.lit (.int .i64 1)))⟩,⟨none,.pick (some 108) (.r 104) (.c (.lit (.bool true))) (.r 107)⟩]
abbrev f11_30:AC:=.ops [0] [] [⟨none,.mv (some 0) (.c (.lit (.bool false)))⟩]
abbrev f11_29:AC:=.seq f11_30 .ret
abbrev f11_28:AC:=.cond (.r 108) f11_29 .skip
abbrev f11_26:AC:=.seq f11_27 f11_28
abbrev f11_32:AC:=.ops [1,2,3,4] [3,4] [vv 110 1,⟨none,.call (some 111) false (.f 31) [(.r 110),(.c (.lit (.int .i64 0))),(.c (.lit (.int .i64 9)))]⟩,vv 109 111,ve 112 109 0,ve 113 109 1,vo 2 113]
abbrev f11_34:AC:=.ops [1,2,3,4,7,10] [3,4] [vv 115 1,⟨none,.call (some 116) false (.f 34) [(.r 115),(.c (.lit (.int .i64 5))),(.c (.lit (.int .i64 0))),(.c (.lit (.int .i64 9)))]⟩,vv 114 116,ve 117 114 0,ve 118 114 1,ve 119 114 2,⟨none,.newL 9 [(.lit (.int .i64 0)),(.lit (.string ⟨#[]⟩)),(.lit (.int .i64 0)),(.lit (.slice none 0 0)),(.lit (.int .u64 0)),(.lit (.bool false)),(.lit (.int .i64 0))]⟩,⟨none,.store 7 (.r 9) (.r 117)⟩,vo 10 118,vo 7 119]
abbrev f11_37:AC:=.ops [1,4,140] [4] [vv 120 2,vb 121 .neq 120 16,vv 122 121,⟨some (122,false),.mv (some 123) (.r 7)⟩,⟨some (122,false),.bin (some 124) .num .neq (.r 123) (.c (.lit (.int .i64 0)))⟩,⟨none,.pick (some 125) (.r 122) (.c (.lit (.bool true))) (.r 124)⟩,vv 126 125,⟨some (126,false),.mv (some 127) (.r 10)⟩,⟨none,.pick (some 128) (.r 126) (.c (.lit (.bool true))) (.r 127)⟩,vv 129 128,⟨some (129,false),.mv (some 130) (.r 1)⟩,⟨some (129,false),.load (some 131) (.r 3) (some 2)⟩,⟨some (129,false),.load (some 132) (.r 3) (some 2)⟩,⟨some (129,false),.bsl (some 133) 1 3 (.lit (.int .u8 0)) [(0,(.c (.lit (.int .u8 120)))),(1,(.c (.lit (.int .u8 121)))),(2,(.c (.lit (.int .u8 122))))]⟩,⟨some (129,false),.x (some 134) (.mark 133)⟩,⟨some (129,false),.bst (some 135) [(0,2),(2,1),(3,1)] (.agg [(.lit (.string ⟨#[]⟩)),(.lit (.int .i64 0)),(.lit (.slice none 0 0)),(.lit (.int .u64 0))]) [(0,(.r 132)),(1,(.r 134)),(2,(.c (.lit (.int .u64 110))))]⟩,⟨some (129,false),.bst (some 136) [(0,1),(1,4),(5,1),(6,1)] (.agg [(.lit (.int .i64 0)),(.lit (.string ⟨#[]⟩)),(.lit (.int .i64 0)),(.lit (.slice none 0 0)),(.lit (.int .u64 0)),(.lit (.bool false)),(.lit (.int .i64 0))]) [(0,(.c (.lit (.int .i64 5)))),(1,(.r 135))]⟩,⟨some (129,false),.bsl (some 137) 7 1 (.agg [(.lit (.int .i64 0)),(.lit (.string ⟨#[]⟩)),(.lit (.int .i64 0)),(.lit (.slice none 0 0)),(.lit (.int .u64 0)),(.lit (.bool false)),(.lit (.int .i64 0))]) [(0,(.r 136))]⟩,⟨some (129,false),.call (some 138) false (.f 30) [(.r 130),(.c (.lit (.int .i64 0))),(.r 131),(.c (.lit (.string ⟨#[120,121,122]⟩))),(.r 137)]⟩,⟨some (129,false),.un (some 139) .not (.r 138)⟩,⟨none,.pick (some 140) (.r 129) (.c (.lit (.bool true))) (.r 139)⟩]
abbrev f11_40:AC:=.ops [0] [] [⟨none,.mv (some 0) (.c (.lit (.bool false)))⟩]
abbrev f11_39:AC:=.seq f11_40 .ret
abbrev f11_38:AC:=.cond (.r 140) f11_39 .skip
abbrev f11_36:AC:=.seq f11_37 f11_38
abbrev f11_42:AC:=.ops [0] [] [vv 141 1,⟨none,.load (some 142) (.r 4) (some 2)⟩,⟨none,.call (some 143) false (.f 30) [(.r 141),(.c (.lit (.int .i64 0))),(.r 142),(.c (.lit (.string ⟨#[49,50,51,52,53]⟩))),(.c (.lit (.slice none 0 0)))]⟩,vv 144 143,⟨some (144,true),.mv (some 145) (.r 1)⟩,⟨some (144,true),.call (some 146) false (.f 10) [(.c (.lit (.string ⟨#[99]⟩))),(.c (.lit (.int .i64 9)))]⟩,⟨some (144,true),.call (some 147) false (.f 30) [(.r 145),(.c (.lit (.int .i64 0))),(.r 146),(.c (.lit (.string ⟨#[49]⟩))),(.c (.lit (.slice none 0 0)))]⟩,⟨none,.pick (some 148) (.r 144) (.r 147) (.c (.lit (.bool false)))⟩,vv 149 148,⟨some (149,true),.mv (some 150) (.r 1)⟩,⟨some (149,true),.call (some 151) false (.f 17) [(.r 150),(.c (.lit (.int .i64 1)))]⟩,⟨some (149,true),.bin (some 152) .num .eql (.r 151) (.c (.lit (.int .i64 1)))⟩,⟨none,.pick (some 153) (.r 149) (.r 152) (.c (.lit (.bool false)))⟩,vv 154 153,⟨some (154,true),.mv (some 155) (.r 1)⟩,⟨some (154,true),.call (some 156) false (.f 15) [(.r 155),(.c (.lit (.int .i64 1)))]⟩,⟨some (154,true),.bin (some 157) .num .eql (.r 156) (.c (.lit (.int .i64 0)))⟩,⟨none,.pick (some 158) (.r 154) (.r 157) (.c (.lit (.bool false)))⟩,vo 0 158]
abbrev f11_41:AC:=.seq f11_42 .ret
abbrev f11_35:AC:=.seq f11_36 f11_41
abbrev f11_33:AC:=.seq f11_34 f11_35
abbrev f11_31:AC:=.seq f11_32 f11_33
abbrev f11_25:AC:=.seq f11_26 f11_31
abbrev f11_23:AC:=.seq f11_24 f11_25
abbrev f11_17:AC:=.seq f11_18 f11_23
abbrev f11_15:AC:=.seq f11_16 f11_17
abbrev f11_13:AC:=.seq f11_14 f11_15
abbrev f11_11:AC:=.seq f11_12 f11_13
abbrev f11_5:AC:=.seq f11_6 f11_11
abbrev f11_3:AC:=.seq f11_4 f11_5
abbrev f11_1:AC:=.seq f11_2 f11_3
def c_f11:AFun:=⟨159,[.tmp 0],f11_1⟩
theorem k_f11:kX x_f11 11 c_f11:=by delta kX; kernel_rfl
theorem e_f11:eX 11:=by delta eX; kernel_rfl

def n_f12:Nat:=12
def x_f12:=xX 43 [0,1,2,4,5,6,7,9,10,15,16,17,18,23,26,27,28,29,30,31,32,33,34,35,36,40,41,42] [] [(2,[1,2,26],[]),(12,[1,2,11,26],[]),(52,[4,5],[]),(14,[1,2,6,26],[]),(60,[1,2,6,19,26],[]),(244,[4,5],[]),(62,[1,2,6,7,26],[]),(252,[1,2,7,24,26],[]),(506,[1,2,7],[]),(1000000513,[2,7,26],[]),(1012,[2,7,9],[]),(4052,[2,9],[]),(4053,[],[]),(254,[7],[]),(510,[4,5],[])]
abbrev f12_2:AC:=.ops [1,2,26] [] [⟨none,.boxB 2 1 (.r 0)⟩,⟨none,.mv (some 4) (.c (.lit (.slice none 0 0)))⟩,⟨none,.mv (some 5) (.c (.lit (.int .i64 0)))⟩]
abbrev f12_5:AC:=.ops [1,2,11,26] [] [vl 10 2,⟨none,.call (some 11) false (.f 26) [(.r 10)]⟩]
abbrev f12_8:AC:=.ops [4,5] [] [⟨none,.mv (some 4) (.c (.lit (.slice none 0 0)))⟩,⟨none,.mv (some 5) (.c (.lit (.int .i64 1)))⟩]
abbrev f12_7:AC:=.seq f12_8 .ret
abbrev f12_6:AC:=.cond (.r 11) f12_7 .skip
abbrev f12_4:AC:=.seq f12_5 f12_6
abbrev f12_10:AC:=.ops [1,2,6,26] [] [vl 12 2,vn 13 12,vd 14 13 1,vl 15 14,vv 16 1,⟨none,.lookup (some 17) (.int .i64) (.lit (.pointer none)) false (.r 15) (.r 16)⟩,vo 6 17]
abbrev f12_13:AC:=.ops [1,2,6,19,26] [] [vv 18 6,⟨none,.bin (some 19) (.nil .ptr) .eql (.r 18) (.c (.lit (.pointer none)))⟩]
abbrev f12_16:AC:=.ops [4,5] [] [⟨none,.mv (some 4) (.c (.lit (.slice none 0 0)))⟩,⟨none,.mv (some 5) (.c (.lit (.int .i64 9)))⟩]
abbrev f12_15:AC:=.seq f12_16 .ret
abbrev f12_14:AC:=.cond (.r 19) f12_15 .skip
abbrev f12_12:AC:=.seq f12_13 f12_14
abbrev f12_18:AC:=.ops [1,2,6,7,26] [] [⟨none,.newB 7 [(.lit (.slice none 0 0))]⟩]
abbrev f12_21:AC:=.ops [1,2,7,24,26] [] [vv 20 6,vn 21 20,vd 22 21 10,vl 23 22,⟨none,.call (some 24) false (.f 35) [(.r 23)]⟩]
abbrev f12_24:AC:=.ops [2,7,9] [] [vo 9 26]
abbrev f12_27:AC:=.ops [2,9] [] [⟨none,.loadOwn 27 (.r 7)⟩,vv 28 9,⟨none,.bst (some 29) [(0,1),(1,4),(5,1),(6,1)] (.agg [(.lit (.int .i64 0)),(.lit (.string ⟨#[]⟩)),(.lit (.int .i64 0)),(.lit (.slice none 0 0)),(.lit (.int .u64 0)),(.lit (.bool false)),(.lit (.int .i64 0))]) [(0,(.r 28)),(3,(.c (.lit (.int .i64 14))))]⟩,⟨none,.bsl (some 30) 7 1 (.agg [(.lit (.int .i64 0)),(.lit (.string ⟨#[]⟩)),(.lit (.int .i64 0)),(.lit (.slice none 0 0)),(.lit (.int .u64 0)),(.lit (.bool false)),(.lit (.int .i64 0))]) [(0,(.r 29))]⟩,⟨none,.appS 31 27 7 80 (.r 30)⟩,⟨none,.store 1 (.r 7) (.r 31)⟩]
abbrev f12_28:AC:=.ops [] [] [vl 32 2,vn 33 32,vd 34 33 2,vl 35 34,vv 36 9,⟨none,.del (.int .i64) (.r 35) (.r 36)⟩]
abbrev f12_26:AC:=.seq f12_27 f12_28
abbrev f12_25:AC:=.block 1 f12_26
def f12_23:AC:=.rangeF [1,2,7] [] (.r 24) [25,26] [2,7,26] f12_24 f12_25
theorem f12_23w:aC P id m f12_23 sf st Q = (m = false∧kV P (aC P id m f12_24) (aC P id m f12_25) [25,26] [2,7,26] [1,2,7] [] (sf.ev id (.r 24)) sf st Q):=rfl
abbrev f12_22:AC:=.block 0 f12_23
abbrev f12_20:AC:=.seq f12_21 f12_22
abbrev f12_30:AC:=.ops [7] [] [vl 37 2,vn 38 37,vd 39 38 1,vl 40 39,vv 41 1,⟨none,.del (.int .i64) (.r 40) (.r 41)⟩]
abbrev f12_32:AC:=.ops [4,5] [] [vl 42 7,vo 4 42,⟨none,.mv (some 5) (.c (.lit (.int .i64 0)))⟩]
abbrev f12_31:AC:=.seq f12_32 .ret
abbrev f12_29:AC:=.seq f12_30 f12_31
abbrev f12_19:AC:=.seq f12_20 f12_29
abbrev f12_17:AC:=.seq f12_18 f12_19
abbrev f12_11:AC:=.seq f12_12 f12_17
abbrev f12_9:AC:=.seq f12_10 f12_11
abbrev f12_3:AC:=.seq f12_4 f12_9
abbrev f12_1:AC:=.seq f12_2 f12_3
def c_f12:AFun:=⟨43,[.tmp 4,.tmp 5],f12_1⟩
theorem k_f12:kX x_f12 12 c_f12:=by delta kX; kernel_rfl
theorem e_f12:eX 12:=by delta eX; kernel_rfl

def n_f13:Nat:=13
def x_f13:=xX 27 [0,2,3,4,5,6,8,9,11,14,15,16,17,19,23,24,25] [] [(2,[0],[]),(12,[0,3],[]),(26,[0,3],[]),(208,[0,3,7],[]),(419,[],[]),(840,[0,3,26],[]),(3364,[2],[]),(211,[0,3],[]),(14,[2],[])]
abbrev f13_2:AC:=.ops [0] [] [⟨none,.mv (some 2) (.c (.lit (.bool false)))⟩]
abbrev f13_5:AC:=.ops [0,3] [] [⟨none,.mv (some 3) (.c (.lit (.int .i64 0)))⟩]
abbrev f13_10:AC:=.ops [0,3,7] [] [vv 4 3,vv 5 0,⟨none,.len (some 6) .sl (.r 5)⟩,⟨none,.bin (some 7) .num .lss (.r 4) (.r 6)⟩]
abbrev f13_11:AC:=.cond (.r 7) .skip (.exit [] [] 0)
abbrev f13_9:AC:=.seq f13_10 f13_11
abbrev f13_15:AC:=.ops [0,3,26] [] [vv 10 0,vv 11 3,⟨none,.ixS (some 12) (.r 10) (.r 11) 10⟩,vd 13 12 8,vl 14 13,⟨none,.len (some 15) .sl (.r 14)⟩,vb 16 .gtr 15 2060,vv 17 16,⟨some (17,false),.mv (some 18) (.r 0)⟩,⟨some (17,false),.mv (some 19) (.r 3)⟩,⟨some (17,false),.ixS (some 20) (.r 18) (.r 19) 10⟩,⟨some (17,false),.addr (some 21) (.r 20) 4⟩,⟨some (17,false),.addr (some 22) (.r 21) 0⟩,⟨some (17,false),.load (some 23) (.r 22) none⟩,⟨some (17,false),.len (some 24) .str (.r 23)⟩,⟨some (17,false),.bin (some 25) .num .gtr (.r 24) (.c (.lit (.int .i64 50)))⟩,⟨none,.pick (some 26) (.r 17) (.c (.lit (.bool true))) (.r 25)⟩]
abbrev f13_18:AC:=.ops [2] [] [⟨none,.mv (some 2) (.c (.lit (.bool false)))⟩]
abbrev f13_17:AC:=.seq f13_18 .ret
abbrev f13_16:AC:=.cond (.r 26) f13_17 .skip
abbrev f13_14:AC:=.seq f13_15 f13_16
abbrev f13_13:AC:=.block 1 f13_14
abbrev f13_19:AC:=.ops [0,3] [] [vv 8 3,vb 9 .add 8 1,vo 3 9]
abbrev f13_12:AC:=.seq f13_13 f13_19
abbrev f13_8:AC:=.seq f13_9 f13_12
def f13_7:AC:=.loop [0,3] [] f13_8
theorem f13_7w:aC P id m f13_7 sf st Q = a9 (aC P id m f13_8) [0,3] [] sf st Q:=rfl
abbrev f13_6:AC:=.block 0 f13_7
abbrev f13_4:AC:=.seq f13_5 f13_6
abbrev f13_21:AC:=.ops [2] [] [⟨none,.mv (some 2) (.c (.lit (.bool true)))⟩]
abbrev f13_20:AC:=.seq f13_21 .ret
abbrev f13_3:AC:=.seq f13_4 f13_20
abbrev f13_1:AC:=.seq f13_2 f13_3
def c_f13:AFun:=⟨27,[.tmp 2],f13_1⟩
theorem k_f13:kX x_f13 13 c_f13:=by delta kX; kernel_rfl
theorem e_f13:eX 13:=by delta eX; kernel_rfl

def n_f14:Nat:=14
def x_f14:=xX 96 [0,1,6,8,9,10,12,13,14,15,18,19,20,22,24,26,28,30,31,32,33,36,37,38,40,42,44,45,46,47,50,51,52,54,56,58,59,60,61,62,66,67,68,70,72,73,74,75,78,79,81,82,84,85,86,88,89,90,91,93,95] [] [(2,[0,3,4],[3,4]),(6,[0,3,4,5],[3,4,5]),(14,[0,3,4,5],[3,4,5]),(60,[0,3,4,5,8],[3,4,5]),(244,[0,3,4,5,8,17],[3,4,5]),(490,[4,5,6],[4,5]),(982,[0,3,4,5,8,35],[3,4,5]),(1966,[4,5,6],[4,5]),(3934,[0,3,4,5,8,49],[3,4,5]),(7870,[4,5,6],[4,5]),(15742,[0,3,4,5,8,65],[3,4,5]),(31486,[4,5,6],[4,5]),(62974,[0,3,4,5,8,77],[3,4,5]),(125950,[4,5,6],[4,5]),(251902,[0,3,4,5,83],[3,4,5]),(503806,[4,5,6],[4,5]),(503807,[4,5,6],[4,5]),(62,[4,5],[4,5]),(126,[4],[4])]
abbrev f14_2:AC:=.ops [0,3,4] [3,4] [⟨none,.boxL 3 10 (.r 1)⟩,⟨none,.newL 4 [(.lit (.int .i64 0)),(.lit (.bool false)),(.lit (.int .i64 0)),(.lit (.string ⟨#[]⟩)),(.lit (.int .i64 0)),(.lit (.slice none 0 0)),(.lit (.int .u64 0)),(.lit (.bool false)),(.lit (.int .i64 0)),(.lit (.slice none 0 0)),(.lit (.int .i64 0))]⟩]
abbrev f14_4:AC:=.ops [0,3,4,5] [3,4,5] [⟨none,.newL 5 [(.lit (.int .i64 0)),(.lit (.bool false)),(.lit (.int .i64 0)),(.lit (.string ⟨#[]⟩)),(.lit (.int .i64 0)),(.lit (.slice none 0 0)),(.lit (.int .u64 0)),(.lit (.bool false)),(.lit (.int .i64 0)),(.lit (.slice none 0 0)),(.lit (.int .i64 0))]⟩]
abbrev f14_6:AC:=.ops [0,3,4,5] [3,4,5] [⟨none,.mv (some 6) (.c (.lit (.int .i64 0)))⟩]
abbrev f14_9:AC:=.ops [0,3,4,5,8] [3,4,5] [vd 7 3 0,vl 8 7]
abbrev f14_12:AC:=.ops [0,3,4,5,8,17] [3,4,5] [vb 18 .eql 8 0,vo 17 18]
abbrev f14_14:AC:=.ops [4,5,6] [4,5] [vv 20 0,vd 21 3 4,⟨none,.load (some 22) (.r 21) (some 2)⟩,vd 23 3 2,vl 24 23,vd 25 3 3,vl 26 25,vd 27 3 6,vl 28 27,vd 29 3 7,vl 30 29,⟨none,.call (some 31) false (.f 9) [(.r 20),(.r 22),(.r 24),(.r 26),(.r 28),(.r 30)]⟩,vv 19 31,ve 32 19 0,ve 33 19 1,vd 34 5 0,⟨none,.store 1 (.r 34) (.r 32)⟩,vo 6 33]
abbrev f14_16:AC:=.ops [0,3,4,5,8,35] [3,4,5] [vb 36 .eql 8 1,vo 35 36]
abbrev f14_18:AC:=.ops [4,5,6] [4,5] [vv 38 0,vd 39 3 2,vl 40 39,vd 41 3 4,⟨none,.load (some 42) (.r 41) (some 2)⟩,vd 43 3 8,vl 44 43,⟨none,.call (some 45) false (.f 36) [(.r 38),(.r 40),(.r 42),(.r 44)]⟩,vv 37 45,ve 46 37 0,ve 47 37 1,vd 48 5 9,⟨none,.store 1 (.r 48) (.r 46)⟩,vo 6 47]
abbrev f14_20:AC:=.ops [0,3,4,5,8,49] [3,4,5] [vb 50 .eql 8 2,vo 49 50]
abbrev f14_22:AC:=.ops [4,5,6] [4,5] [vv 52 0,vd 53 3 1,vl 54 53,vd 55 3 2,vl 56 55,vd 57 3 3,vl 58 57,⟨none,.call (some 59) false (.f 34) [(.r 52),(.r 54),(.r 56),(.r 58)]⟩,vv 51 59,ve 60 51 0,ve 61 51 1,ve 62 51 2,vd 63 5 2,⟨none,.store 7 (.r 63) (.r 60)⟩,vd 64 5 1,⟨none,.store 1 (.r 64) (.r 61)⟩,vo 6 62]
abbrev f14_24:AC:=.ops [0,3,4,5,8,65] [3,4,5] [vb 66 .eql 8 3,vo 65 66]
abbrev f14_26:AC:=.ops [4,5,6] [4,5] [vv 68 0,vd 69 3 2,vl 70 69,vd 71 3 3,vl 72 71,⟨none,.call (some 73) false (.f 31) [(.r 68),(.r 70),(.r 72)]⟩,vv 67 73,ve 74 67 0,ve 75 67 1,vd 76 5 2,⟨none,.store 7 (.r 76) (.r 74)⟩,vo 6 75]
abbrev f14_28:AC:=.ops [0,3,4,5,8,77] [3,4,5] [vb 78 .eql 8 4,vo 77 78]
abbrev f14_30:AC:=.ops [4,5,6] [4,5] [vv 79 0,vd 80 3 1,vl 81 80,⟨none,.call (some 82) false (.f 37) [(.r 79),(.r 81)]⟩,vo 6 82]
abbrev f14_32:AC:=.ops [0,3,4,5,83] [3,4,5] [vb 84 .eql 8 5,vo 83 84]
abbrev f14_34:AC:=.ops [4,5,6] [4,5] [vv 86 0,vd 87 3 2,vl 88 87,⟨none,.call (some 89) false (.f 12) [(.r 86),(.r 88)]⟩,vv 85 89,ve 90 85 0,ve 91 85 1,vd 92 5 9,⟨none,.store 1 (.r 92) (.r 90)⟩,vo 6 91]
abbrev f14_35:AC:=.ops [4,5,6] [4,5] [vv 10 0,vd 11 3 9,vl 12 11,⟨none,.call (some 13) false (.f 38) [(.r 10),(.r 12)]⟩,vv 9 13,ve 14 9 0,ve 15 9 1,vd 16 5 0,⟨none,.store 1 (.r 16) (.r 14)⟩,vo 6 15]
abbrev f14_33:AC:=.cond (.r 83) f14_34 f14_35
abbrev f14_31:AC:=.seq f14_32 f14_33
abbrev f14_29:AC:=.cond (.r 77) f14_30 f14_31
abbrev f14_27:AC:=.seq f14_28 f14_29
abbrev f14_25:AC:=.cond (.r 65) f14_26 f14_27
abbrev f14_23:AC:=.seq f14_24 f14_25
abbrev f14_21:AC:=.cond (.r 49) f14_22 f14_23
abbrev f14_19:AC:=.seq f14_20 f14_21
abbrev f14_17:AC:=.cond (.r 35) f14_18 f14_19
abbrev f14_15:AC:=.seq f14_16 f14_17
abbrev f14_13:AC:=.cond (.r 17) f14_14 f14_15
abbrev f14_11:AC:=.seq f14_12 f14_13
abbrev f14_10:AC:=.block 0 f14_11
abbrev f14_8:AC:=.seq f14_9 f14_10
abbrev f14_37:AC:=.ops [4,5] [4,5] [vv 93 6,vd 94 5 10,⟨none,.store 1 (.r 94) (.r 93)⟩]
abbrev f14_39:AC:=.ops [4] [4] [⟨none,.load (some 95) (.r 5) (some 11)⟩,⟨none,.store 11 (.r 4) (.r 95)⟩]
abbrev f14_38:AC:=.seq f14_39 .ret
abbrev f14_36:AC:=.seq f14_37 f14_38
abbrev f14_7:AC:=.seq f14_8 f14_36
abbrev f14_5:AC:=.seq f14_6 f14_7
abbrev f14_3:AC:=.seq f14_4 f14_5
abbrev f14_1:AC:=.seq f14_2 f14_3
def c_f14:AFun:=⟨96,[.cell 4 (some 11)],f14_1⟩
theorem k_f14:kX x_f14 14 c_f14:=by delta kX; kernel_rfl
theorem e_f14:eX 14:=by delta eX; kernel_rfl

def n_f15:Nat:=15
def x_f15:=xX 10 [0,1,4,5,6,7,8,9] [] [(2,[0,1],[]),(6,[4],[])]
abbrev f15_2:AC:=.ops [0,1] [] [⟨none,.mv (some 4) (.c (.lit (.int .i64 0)))⟩]
abbrev f15_4:AC:=.ops [4] [] [vv 5 0,vv 6 1,⟨none,.call (some 7) false (.f 39) [(.r 5),(.r 6)]⟩,⟨none,.field (some 8) (.r 7) 6 none⟩,⟨none,.len (some 9) .sl (.r 8)⟩,vo 4 9]
abbrev f15_3:AC:=.seq f15_4 .ret
abbrev f15_1:AC:=.seq f15_2 f15_3
def c_f15:AFun:=⟨10,[.tmp 4],f15_1⟩
theorem k_f15:kX x_f15 15 c_f15:=by delta kX; kernel_rfl
theorem e_f15:eX 15:=by delta eX; kernel_rfl

def n_f16:Nat:=16
def x_f16:=xX 10 [0,1,4,5,6,7,8,9] [] [(2,[0,1],[]),(6,[4],[])]
abbrev f16_2:AC:=.ops [0,1] [] [⟨none,.mv (some 4) (.c (.lit (.int .i64 0)))⟩]
abbrev f16_4:AC:=.ops [4] [] [vv 5 0,vv 6 1,⟨none,.call (some 7) false (.f 39) [(.r 5),(.r 6)]⟩,⟨none,.field (some 8) (.r 7) 10 none⟩,⟨none,.call (some 9) false (.f 40) [(.r 8)]⟩,vo 4 9]
abbrev f16_3:AC:=.seq f16_4 .ret
abbrev f16_1:AC:=.seq f16_2 f16_3
def c_f16:AFun:=⟨10,[.tmp 4],f16_1⟩
theorem k_f16:kX x_f16 16 c_f16:=by delta kX; kernel_rfl
theorem e_f16:eX 16:=by delta eX; kernel_rfl

def n_f17:Nat:=17
def x_f17:=xX 9 [0,1,4,5,6,7,8] [] [(2,[0,1],[]),(6,[4],[])]
abbrev f17_2:AC:=.ops [0,1] [] [⟨none,.mv (some 4) (.c (.lit (.int .i64 0)))⟩]
abbrev f17_4:AC:=.ops [4] [] [vv 5 0,vv 6 1,⟨none,.call (some 7) false (.f 39) [(.r 5),(.r 6)]⟩,⟨none,.field (some 8) (.r 7) 8 none⟩,vo 4 8]
abbrev f17_3:AC:=.seq f17_4 .ret
abbrev f17_1:AC:=.seq f17_2 f17_3
def c_f17:AFun:=⟨9,[.tmp 4],f17_1⟩
theorem k_f17:kX x_f17 17 c_f17:=by delta kX; kernel_rfl
theorem e_f17:eX 17:=by delta eX; kernel_rfl

def n_f18:Nat:=18
def x_f18:=xX 9 [0,1,4,5,6,7,8] [] [(2,[0,1],[]),(6,[4],[])]
abbrev f18_2:AC:=.ops [0,1] [] [⟨none,.mv (some 4) (.c (.lit (.int .i64 0)))⟩]
abbrev f18_4:AC:=.ops [4] [] [vv 5 0,vv 6 1,⟨none,.call (some 7) false (.f 39) [(.r 5),(.r 6)]⟩,⟨none,.field (some 8) (.r 7) 9 none⟩,vo 4 8]
abbrev f18_3:AC:=.seq f18_4 .ret
abbrev f18_1:AC:=.seq f18_2 f18_3
def c_f18:AFun:=⟨9,[.tmp 4],f18_1⟩
theorem k_f18:kX x_f18 18 c_f18:=by delta kX; kernel_rfl
theorem e_f18:eX 18:=by delta eX; kernel_rfl

def n_f19:Nat:=19
def x_f19:=xX 29 [0,1,2,6,7,9,10,11,12,13,14,15,16,17,18,19,20,21,22,23,24,25,26,27,28] [] [(2,[0,1,2],[]),(12,[0,1,8],[]),(52,[6],[]),(14,[6],[])]
abbrev f19_2:AC:=.ops [0,1,2] [] [⟨none,.mv (some 6) (.c (.lit (.bool false)))⟩]
abbrev f19_5:AC:=.ops [0,1,8] [] [vv 7 2,⟨none,.un (some 8) .not (.r 7)⟩]
abbrev f19_8:AC:=.ops [6] [] [vv 9 0,⟨none,.conv (some 10) .bs (.r 9)⟩,vv 11 1,⟨none,.conv (some 12) .bs (.r 11)⟩,⟨none,.bin (some 13) .num .eql (.r 10) (.r 12)⟩,vo 6 13]
abbrev f19_7:AC:=.seq f19_8 .ret
abbrev f19_6:AC:=.cond (.r 8) f19_7 .skip
abbrev f19_4:AC:=.seq f19_5 f19_6
abbrev f19_10:AC:=.draw [6] [] [] [vv 14 1,⟨none,.len (some 15) .sl (.r 14)⟩,vv 16 0,⟨none,.len (some 17) .sl (.r 16)⟩,⟨none,.bin (some 18) .num .lss (.r 15) (.r 17)⟩,vv 19 18,⟨some (19,true),.mv (some 20) (.r 0)⟩,⟨some (19,true),.mv (some 21) (.r 1)⟩,⟨some (19,true),.len (some 22) .sl (.r 21)⟩,⟨some (19,true),.sliS (some 23) (.r 20) none (some (.r 22)) 1⟩,⟨some (19,true),.conv (some 24) .bs (.r 23)⟩,⟨some (19,true),.mv (some 25) (.r 1)⟩,⟨some (19,true),.conv (some 26) .bs (.r 25)⟩] [⟨some (19,true),.bin (some 27) .num .eql (.r 24) (.r 26)⟩,⟨none,.pick (some 28) (.r 19) (.r 27) (.c (.lit (.bool false)))⟩,vo 6 28]
abbrev f19_9:AC:=.seq f19_10 .ret
abbrev f19_3:AC:=.seq f19_4 f19_9
abbrev f19_1:AC:=.seq f19_2 f19_3
def c_f19:AFun:=⟨29,[.tmp 6],f19_1⟩
theorem k_f19:kX x_f19 19 c_f19:=by delta kX; kernel_rfl
theorem e_f19:eX 19:=by delta eX; kernel_rfl

def n_f26:Nat:=26
def x_f26:=xX 12 [0,2,3,4,5,9,10,11] [] [(2,[0],[]),(6,[2],[])]
abbrev f26_2:AC:=.ops [0] [] [⟨none,.mv (some 2) (.c (.lit (.bool false)))⟩]
abbrev f26_4:AC:=.ops [2] [] [vv 3 0,⟨none,.bin (some 4) (.nil .ptr) .eql (.r 3) (.c (.lit (.pointer none)))⟩,vv 5 4,⟨some (5,false),.mv (some 6) (.r 0)⟩,⟨some (5,false),.nilck (some 7) (.r 6)⟩,⟨some (5,false),.addr (some 8) (.r 7) 1⟩,⟨some (5,false),.load (some 9) (.r 8) none⟩,⟨some (5,false),.bin (some 10) (.nil .mp) .eql (.r 9) (.c (.lit (.map none)))⟩,⟨none,.pick (some 11) (.r 5) (.c (.lit (.bool true))) (.r 10)⟩,vo 2 11]
abbrev f26_3:AC:=.seq f26_4 .ret
abbrev f26_1:AC:=.seq f26_2 f26_3
def c_f26:AFun:=⟨12,[.tmp 2],f26_1⟩
theorem k_f26:kX x_f26 26 c_f26:=by delta kX; kernel_rfl
theorem e_f26:eX 26:=by delta eX; kernel_rfl

def n_f27:Nat:=27
def x_f27:=xX 10 [0,2,3,4,5,7,8,9] [] [(2,[1],[1]),(6,[2],[])]
abbrev f27_2:AC:=.ops [1] [1] [⟨none,.boxL 1 2 (.r 0)⟩,⟨none,.mv (some 2) (.c (.lit (.bool false)))⟩]
abbrev f27_4:AC:=.ops [2] [] [⟨none,.load (some 3) (.r 1) (some 2)⟩,⟨none,.call (some 4) false (.f 47) [(.r 3)]⟩,vv 5 4,⟨some (5,true),.addr (some 6) (.r 1) 1⟩,⟨some (5,true),.load (some 7) (.r 6) none⟩,⟨some (5,true),.bin (some 8) .num .gtr (.r 7) (.c (.lit (.int .i64 0)))⟩,⟨none,.pick (some 9) (.r 5) (.r 8) (.c (.lit (.bool false)))⟩,vo 2 9]
abbrev f27_3:AC:=.seq f27_4 .ret
abbrev f27_1:AC:=.seq f27_2 f27_3
def c_f27:AFun:=⟨10,[.tmp 2],f27_1⟩
theorem k_f27:kX x_f27 27 c_f27:=by delta kX; kernel_rfl
theorem e_f27:eX 27:=by delta eX; kernel_rfl

def n_f28:Nat:=28
def x_f28:=xX 29 [1,4,5,6,7,9,13,14,15,16,17,18,22,23,24,25,27,28] [] [(2,[0,3],[3]),(12,[0,3,7],[3]),(26,[0,3,7],[3]),(104,[0,3,7,8],[3]),(421,[],[]),(1688,[0,3,5,7],[3]),(3378,[0,3,5,6,7],[3]),(6758,[0,3,5,7,26],[3]),(27036,[4],[]),(423,[0,3,7],[3]),(14,[4],[])]
abbrev f28_2:AC:=.ops [0,3] [3] [⟨none,.boxL 3 2 (.r 1)⟩,⟨none,.mv (some 4) (.c (.lit (.int .i64 0)))⟩]
abbrev f28_5:AC:=.ops [0,3,7] [3] [⟨none,.mv (some 7) (.c (.lit (.int .i64 0)))⟩]
abbrev f28_9:AC:=.ops [0,3,7,8] [3] [vb 8 .lss 7 64]
abbrev f28_11:AC:=.cond (.r 8) .skip (.exit [] [] 0)
abbrev f28_15:AC:=.ops [0,3,5,7] [3] [vv 9 7,vo 5 9]
abbrev f28_17:AC:=.ops [0,3,5,6,7] [3] [vv 10 0,vn 11 10,vd 12 11 1,vl 13 12,vv 14 5,⟨none,.lookup (some 15) (.int .i64) (.lit (.pointer none)) false (.r 13) (.r 14)⟩,vo 6 15]
abbrev f28_19:AC:=.draw [0,3,5,7,26] [3] [] [vv 16 6,⟨none,.bin (some 17) (.nil .ptr) .neq (.r 16) (.c (.lit (.pointer none)))⟩,vv 18 17,⟨some (18,true),.mv (some 19) (.r 6)⟩,⟨some (18,true),.nilck (some 20) (.r 19)⟩,⟨some (18,true),.addr (some 21) (.r 20) 0⟩,⟨some (18,true),.load (some 22) (.r 21) (some 2)⟩,⟨some (18,true),.load (some 23) (.r 3) (some 2)⟩] [⟨some (18,true),.call (some 24) false (.f 48) [(.r 22),(.r 23)]⟩,⟨some (18,true),.bin (some 25) .num .eql (.r 24) (.c (.lit (.int .i64 0)))⟩,⟨none,.pick (some 26) (.r 18) (.r 25) (.c (.lit (.bool false)))⟩]
abbrev f28_22:AC:=.ops [4] [] [vv 27 5,vo 4 27]
abbrev f28_21:AC:=.seq f28_22 .ret
abbrev f28_20:AC:=.cond (.r 26) f28_21 .skip
abbrev f28_18:AC:=.seq f28_19 f28_20
abbrev f28_16:AC:=.seq f28_17 f28_18
abbrev f28_14:AC:=.seq f28_15 f28_16
abbrev f28_13:AC:=.block 1 f28_14
abbrev f28_23:AC:=.ops [0,3,7] [3] [vb 28 .add 7 1,vv 7 28]
abbrev f28_12:AC:=.seq f28_13 f28_23
abbrev f28_10:AC:=.seq f28_11 f28_12
abbrev f28_8:AC:=.seq f28_9 f28_10
def f28_7:AC:=.loop [0,3,7] [3] f28_8
theorem f28_7w:aC P id m f28_7 sf st Q = a9 (aC P id m f28_8) [0,3,7] [3] sf st Q:=rfl
abbrev f28_6:AC:=.block 0 f28_7
abbrev f28_4:AC:=.seq f28_5 f28_6
abbrev f28_25:AC:=.ops [4] [] [⟨none,.mv (some 4) (.c (.lit (.int .i64 (-1))))⟩]
abbrev f28_24:AC:=.seq f28_25 .ret
abbrev f28_3:AC:=.seq f28_4 f28_24
abbrev f28_1:AC:=.seq f28_2 f28_3
def c_f28:AFun:=⟨29,[.tmp 4],f28_1⟩
theorem k_f28:kX x_f28 28 c_f28:=by delta kX; kernel_rfl
theorem e_f28:eX 28:=by delta eX; kernel_rfl

def n_f29:Nat:=29
def x_f29:=xX 4 [0,1,2,3] [] [(2,[],[]),(6,[0],[])]
abbrev f29_2:AC:=.ops [] [] [⟨none,.mv (some 0) (.c (.lit (.pointer none)))⟩]
abbrev f29_4:AC:=.ops [0] [] [⟨none,.mkmap 1⟩,⟨none,.bst (some 2) [(0,3),(3,1)] (.agg [(.lit (.int .u64 0)),(.lit (.int .u64 0)),(.lit (.int .u64 0)),(.lit (.map none))]) [(1,(.r 1))]⟩,⟨none,.boxB 3 4 (.r 2)⟩,vo 0 3]
abbrev f29_3:AC:=.seq f29_4 .ret
abbrev f29_1:AC:=.seq f29_2 f29_3
def c_f29:AFun:=⟨4,[.tmp 0],f29_1⟩
theorem k_f29:kX x_f29 29 c_f29:=by delta kX; kernel_rfl
theorem e_f29:eX 29:=by delta eX; kernel_rfl

def n_f30:Nat:=30
def x_f30:=xX 29 [0,1,2,3,4,10,11,12,13,14,15,16,17,18,19,20,21,22,23,24,25,26,27,28] [] [(2,[0,1,3,4,7],[7]),(6,[4,11,12],[]),(14,[10],[])]
abbrev f30_2:AC:=.ops [0,1,3,4,7] [7] [⟨none,.boxL 7 2 (.r 2)⟩,⟨none,.mv (some 10) (.c (.lit (.bool false)))⟩]
abbrev f30_4:AC:=.ops [4,11,12] [] [vv 14 0,vv 15 1,⟨none,.load (some 16) (.r 7) (some 2)⟩,vv 17 3,⟨none,.conv (some 18) .sb (.r 17)⟩,⟨none,.call (some 19) false (.f 36) [(.r 14),(.r 15),(.r 16),(.r 18)]⟩,vv 13 19,ve 20 13 0,ve 21 13 1,vo 11 20,vo 12 21]
abbrev f30_6:AC:=.ops [10] [] [vv 22 12,vb 23 .eql 22 0,vv 24 23,⟨some (24,true),.mv (some 25) (.r 11)⟩,⟨some (24,true),.mv (some 26) (.r 4)⟩,⟨some (24,true),.call (some 27) false (.f 46) [(.r 25),(.r 26)]⟩,⟨none,.pick (some 28) (.r 24) (.r 27) (.c (.lit (.bool false)))⟩,vo 10 28]
abbrev f30_5:AC:=.seq f30_6 .ret
abbrev f30_3:AC:=.seq f30_4 f30_5
abbrev f30_1:AC:=.seq f30_2 f30_3
def c_f30:AFun:=⟨29,[.tmp 10],f30_1⟩
theorem k_f30:kX x_f30 30 c_f30:=by delta kX; kernel_rfl
theorem e_f30:eX 30:=by delta eX; kernel_rfl

def n_f31:Nat:=31
def x_f31:=xX 35 [0,1,2,7,8,9,11,12,14,18,19,20,21,23,27,28,30,31,32,33,34] [] [(2,[0,1,2,6],[6]),(12,[0,1,2,6,10],[6]),(52,[6,7],[6]),(28,[0,1,2,6,13],[6]),(116,[6,7],[6]),(30,[2,6,8],[6]),(124,[2,6,8,22],[6]),(500,[6,7],[6]),(252,[2,6,8,29],[6]),(1012,[6,7],[6]),(254,[6,7],[6])]
abbrev f31_2:AC:=.ops [0,1,2,6] [6] [⟨none,.newL 6 [(.lit (.int .i64 0)),(.lit (.string ⟨#[]⟩)),(.lit (.int .i64 0)),(.lit (.slice none 0 0)),(.lit (.int .u64 0)),(.lit (.bool false)),(.lit (.int .i64 0))]⟩,⟨none,.mv (some 7) (.c (.lit (.int .i64 0)))⟩]
abbrev f31_5:AC:=.ops [0,1,2,6,10] [6] [vv 9 0,⟨none,.call (some 10) false (.f 26) [(.r 9)]⟩]
abbrev f31_8:AC:=.ops [6,7] [6] [⟨none,.bst (some 11) [(0,1),(1,4),(5,1),(6,1)] (.agg [(.lit (.int .i64 0)),(.lit (.string ⟨#[]⟩)),(.lit (.int .i64 0)),(.lit (.slice none 0 0)),(.lit (.int .u64 0)),(.lit (.bool false)),(.lit (.int .i64 0))]) []⟩,⟨none,.store 7 (.r 6) (.r 11)⟩,⟨none,.mv (some 7) (.c (.lit (.int .i64 1)))⟩]
abbrev f31_7:AC:=.seq f31_8 .ret
abbrev f31_6:AC:=.cond (.r 10) f31_7 .skip
abbrev f31_4:AC:=.seq f31_5 f31_6
abbrev f31_11:AC:=.ops [0,1,2,6,13] [6] [vv 12 2,vb 13 .lss 12 0]
abbrev f31_14:AC:=.ops [6,7] [6] [⟨none,.bst (some 14) [(0,1),(1,4),(5,1),(6,1)] (.agg [(.lit (.int .i64 0)),(.lit (.string ⟨#[]⟩)),(.lit (.int .i64 0)),(.lit (.slice none 0 0)),(.lit (.int .u64 0)),(.lit (.bool false)),(.lit (.int .i64 0))]) []⟩,⟨none,.store 7 (.r 6) (.r 14)⟩,⟨none,.mv (some 7) (.c (.lit (.int .i64 2)))⟩]
abbrev f31_13:AC:=.seq f31_14 .ret
abbrev f31_12:AC:=.cond (.r 13) f31_13 .skip
abbrev f31_10:AC:=.seq f31_11 f31_12
abbrev f31_16:AC:=.ops [2,6,8] [6] [vv 15 0,vn 16 15,vd 17 16 1,vl 18 17,vv 19 1,⟨none,.lookup (some 20) (.int .i64) (.lit (.pointer none)) false (.r 18) (.r 19)⟩,vo 8 20]
abbrev f31_19:AC:=.ops [2,6,8,22] [6] [vv 21 8,⟨none,.bin (some 22) (.nil .ptr) .eql (.r 21) (.c (.lit (.pointer none)))⟩]
abbrev f31_22:AC:=.ops [6,7] [6] [⟨none,.bst (some 23) [(0,1),(1,4),(5,1),(6,1)] (.agg [(.lit (.int .i64 0)),(.lit (.string ⟨#[]⟩)),(.lit (.int .i64 0)),(.lit (.slice none 0 0)),(.lit (.int .u64 0)),(.lit (.bool false)),(.lit (.int .i64 0))]) []⟩,⟨none,.store 7 (.r 6) (.r 23)⟩,⟨none,.mv (some 7) (.c (.lit (.int .i64 9)))⟩]
abbrev f31_21:AC:=.seq f31_22 .ret
abbrev f31_20:AC:=.cond (.r 22) f31_21 .skip
abbrev f31_18:AC:=.seq f31_19 f31_20
abbrev f31_25:AC:=.ops [2,6,8,29] [6] [vv 24 8,vn 25 24,vd 26 25 6,vl 27 26,⟨none,.len (some 28) .sl (.r 27)⟩,vb 29 .eql 28 0]
abbrev f31_28:AC:=.ops [6,7] [6] [⟨none,.bst (some 30) [(0,1),(1,4),(5,1),(6,1)] (.agg [(.lit (.int .i64 0)),(.lit (.string ⟨#[]⟩)),(.lit (.int .i64 0)),(.lit (.slice none 0 0)),(.lit (.int .u64 0)),(.lit (.bool false)),(.lit (.int .i64 0))]) []⟩,⟨none,.store 7 (.r 6) (.r 30)⟩,⟨none,.mv (some 7) (.c (.lit (.int .i64 16)))⟩]
abbrev f31_27:AC:=.seq f31_28 .ret
abbrev f31_26:AC:=.cond (.r 29) f31_27 .skip
abbrev f31_24:AC:=.seq f31_25 f31_26
abbrev f31_30:AC:=.ops [6,7] [6] [vv 31 8,⟨none,.call (some 32) false (.f 50) [(.r 31)]⟩,vv 33 2,⟨none,.call (some 34) false (.f 49) [(.c (.lit (.int .i64 0))),(.r 32),(.r 33)]⟩,⟨none,.store 7 (.r 6) (.r 34)⟩,⟨none,.mv (some 7) (.c (.lit (.int .i64 0)))⟩]
abbrev f31_29:AC:=.seq f31_30 .ret
abbrev f31_23:AC:=.seq f31_24 f31_29
abbrev f31_17:AC:=.seq f31_18 f31_23
abbrev f31_15:AC:=.seq f31_16 f31_17
abbrev f31_9:AC:=.seq f31_10 f31_15
abbrev f31_3:AC:=.seq f31_4 f31_9
abbrev f31_1:AC:=.seq f31_2 f31_3
def c_f31:AFun:=⟨35,[.cell 6 (some 7),.tmp 7],f31_1⟩
theorem k_f31:kX x_f31 31 c_f31:=by delta kX; kernel_rfl
theorem e_f31:eX 31:=by delta eX; kernel_rfl

def n_f32:Nat:=32
def x_f32:=xX 53 [0,1,4,6,8,9,10,13,16,17,18,19,22,23,26,27,28,29,30,33,36,37,38,39,41,43,44,45,46,48,50,51,52] [] [(2,[2,3],[2,3]),(6,[4],[])]
abbrev f32_2:AC:=.ops [2,3] [2,3] [⟨none,.boxL 2 7 (.r 0)⟩,⟨none,.boxL 3 7 (.r 1)⟩,⟨none,.mv (some 4) (.c (.lit (.bool false)))⟩]
abbrev f32_4:AC:=.ops [4] [] [vd 5 2 0,vl 6 5,vd 7 3 0,vl 8 7,⟨none,.bin (some 9) .num .eql (.r 6) (.r 8)⟩,vv 10 9,⟨some (10,true),.addr (some 11) (.r 2) 1⟩,⟨some (10,true),.addr (some 12) (.r 11) 0⟩,⟨some (10,true),.load (some 13) (.r 12) (some 2)⟩,⟨some (10,true),.addr (some 14) (.r 3) 1⟩,⟨some (10,true),.addr (some 15) (.r 14) 0⟩,⟨some (10,true),.load (some 16) (.r 15) (some 2)⟩,⟨some (10,true),.bin (some 17) (.agg (.field 0 1 .str (.field 1 1 .int .tt))) .eql (.r 13) (.r 16)⟩,⟨none,.pick (some 18) (.r 10) (.r 17) (.c (.lit (.bool false)))⟩,vv 19 18,⟨some (19,true),.addr (some 20) (.r 2) 1⟩,⟨some (19,true),.addr (some 21) (.r 20) 2⟩,⟨some (19,true),.load (some 22) (.r 21) none⟩,⟨some (19,true),.conv (some 23) .bs (.r 22)⟩,⟨some (19,true),.addr (some 24) (.r 3) 1⟩,⟨some (19,true),.addr (some 25) (.r 24) 2⟩,⟨some (19,true),.load (some 26) (.r 25) none⟩,⟨some (19,true),.conv (some 27) .bs (.r 26)⟩,⟨some (19,true),.bin (some 28) .num .eql (.r 23) (.r 27)⟩,⟨none,.pick (some 29) (.r 19) (.r 28) (.c (.lit (.bool false)))⟩,vv 30 29,⟨some (30,true),.addr (some 31) (.r 2) 1⟩,⟨some (30,true),.addr (some 32) (.r 31) 3⟩,⟨some (30,true),.load (some 33) (.r 32) none⟩,⟨some (30,true),.addr (some 34) (.r 3) 1⟩,⟨some (30,true),.addr (some 35) (.r 34) 3⟩,⟨some (30,true),.load (some 36) (.r 35) none⟩,⟨some (30,true),.bin (some 37) .num .eql (.r 33) (.r 36)⟩,⟨none,.pick (some 38) (.r 30) (.r 37) (.c (.lit (.bool false)))⟩,vv 39 38,⟨some (39,true),.addr (some 40) (.r 2) 5⟩,⟨some (39,true),.load (some 41) (.r 40) none⟩,⟨some (39,true),.addr (some 42) (.r 3) 5⟩,⟨some (39,true),.load (some 43) (.r 42) none⟩,⟨some (39,true),.bin (some 44) .bool .eql (.r 41) (.r 43)⟩,⟨none,.pick (some 45) (.r 39) (.r 44) (.c (.lit (.bool false)))⟩,vv 46 45,⟨some (46,true),.addr (some 47) (.r 2) 6⟩,⟨some (46,true),.load (some 48) (.r 47) none⟩,⟨some (46,true),.addr (some 49) (.r 3) 6⟩,⟨some (46,true),.load (some 50) (.r 49) none⟩,⟨some (46,true),.bin (some 51) .num .eql (.r 48) (.r 50)⟩,⟨none,.pick (some 52) (.r 46) (.r 51) (.c (.lit (.bool false)))⟩,vo 4 52]
abbrev f32_3:AC:=.seq f32_4 .ret
abbrev f32_1:AC:=.seq f32_2 f32_3
def c_f32:AFun:=⟨53,[.tmp 4],f32_1⟩
theorem k_f32:kX x_f32 32 c_f32:=by delta kX; kernel_rfl
theorem e_f32:eX 32:=by delta eX; kernel_rfl

def n_f33:Nat:=33
def x_f33:=xX 22 [0,1,2,6,7,8,9,10,11,12,13,14,15,16,17,18,19,20,21] [] [(2,[0,1,2],[]),(6,[2,7,8],[]),(14,[6],[])]
abbrev f33_2:AC:=.ops [0,1,2] [] [⟨none,.mv (some 6) (.c (.lit (.bool false)))⟩]
abbrev f33_4:AC:=.ops [2,7,8] [] [vv 10 0,vv 11 1,⟨none,.call (some 12) false (.f 38) [(.r 10),(.r 11)]⟩,vv 9 12,ve 13 9 0,ve 14 9 1,vo 7 13,vo 8 14]
abbrev f33_6:AC:=.ops [6] [] [vv 15 8,vb 16 .eql 15 0,vv 17 16,⟨some (17,true),.mv (some 18) (.r 7)⟩,⟨some (17,true),.mv (some 19) (.r 2)⟩,⟨some (17,true),.bin (some 20) .num .eql (.r 18) (.r 19)⟩,⟨none,.pick (some 21) (.r 17) (.r 20) (.c (.lit (.bool false)))⟩,vo 6 21]
abbrev f33_5:AC:=.seq f33_6 .ret
abbrev f33_3:AC:=.seq f33_4 f33_5
abbrev f33_1:AC:=.seq f33_2 f33_3
def c_f33:AFun:=⟨22,[.tmp 6],f33_1⟩
theorem k_f33:kX x_f33 33 c_f33:=by delta kX; kernel_rfl
theorem e_f33:eX 33:=by delta eX; kernel_rfl

def n_f34:Nat:=34
def x_f34:=xX 82 [0,1,2,3,9,10,11,14,15,17,18,19,20,21,22,23,24,25,26,28,32,33,34,35,37,38,42,43,44,45,46,48,52,53,55,56,57,58,59,60,64,65,66,67,68,69,74,75,76,77,78,79,80,81] [] [(2,[0,1,2,3,8],[8]),(12,[0,1,2,3,8,16],[8]),(52,[8,9,10],[8]),(28,[0,1,2,3,8,27],[8]),(116,[8,9,10],[8]),(30,[0,1,2,3,8,11],[8]),(124,[0,1,2,3,8,11,36],[8]),(500,[8,9,10],[8]),(252,[0,1,2,3,8,11,13],[8]),(506,[0,1,2,3,8,11,47],[8]),(2028,[8,9,10],[8]),(508,[0,1,2,3,8,11,54],[8]),(2036,[8,9,10],[8]),(510,[0,1,2,3,8,10,14],[8]),(2044,[0,1,2,3,8,10,14,70],[8]),(4090,[8,10],[8]),(2046,[8,9,10],[8])]
abbrev f34_2:AC:=.ops [0,1,2,3,8] [8] [⟨none,.newL 8 [(.lit (.int .i64 0)),(.lit (.string ⟨#[]⟩)),(.lit (.int .i64 0)),(.lit (.slice none 0 0)),(.lit (.int .u64 0)),(.lit (.bool false)),(.lit (.int .i64 0))]⟩,⟨none,.mv (some 9) (.c (.lit (.bool false)))⟩,⟨none,.mv (some 10) (.c (.lit (.int .i64 0)))⟩]
abbrev f34_5:AC:=.ops [0,1,2,3,8,16] [8] [vv 15 0,⟨none,.call (some 16) false (.f 26) [(.r 15)]⟩]
abbrev f34_8:AC:=.ops [8,9,10] [8] [⟨none,.bst (some 17) [(0,1),(1,4),(5,1),(6,1)] (.agg [(.lit (.int .i64 0)),(.lit (.string ⟨#[]⟩)),(.lit (.int .i64 0)),(.lit (.slice none 0 0)),(.lit (.int .u64 0)),(.lit (.bool false)),(.lit (.int .i64 0))]) []⟩,⟨none,.store 7 (.r 8) (.r 17)⟩,⟨none,.mv (some 9) (.c (.lit (.bool false)))⟩,⟨none,.mv (some 10) (.c (.lit (.int .i64 1)))⟩]
abbrev f34_7:AC:=.seq f34_8 .ret
abbrev f34_6:AC:=.cond (.r 16) f34_7 .skip
abbrev f34_4:AC:=.seq f34_5 f34_6
abbrev f34_11:AC:=.ops [0,1,2,3,8,27] [8] [vv 18 1,vb 19 .lss 18 0,vv 20 19,⟨some (20,false),.mv (some 21) (.r 1)⟩,⟨some (20,false),.bin (some 22) .num .geq (.r 21) (.c (.lit (.int .i64 64)))⟩,⟨none,.pick (some 23) (.r 20) (.c (.lit (.bool true))) (.r 22)⟩,vv 24 23,⟨some (24,false),.mv (some 25) (.r 3)⟩,⟨some (24,false),.bin (some 26) .num .lss (.r 25) (.c (.lit (.int .i64 0)))⟩,⟨none,.pick (some 27) (.r 24) (.c (.lit (.bool true))) (.r 26)⟩]
abbrev f34_14:AC:=.ops [8,9,10] [8] [⟨none,.bst (some 28) [(0,1),(1,4),(5,1),(6,1)] (.agg [(.lit (.int .i64 0)),(.lit (.string ⟨#[]⟩)),(.lit (.int .i64 0)),(.lit (.slice none 0 0)),(.lit (.int .u64 0)),(.lit (.bool false)),(.lit (.int .i64 0))]) []⟩,⟨none,.store 7 (.r 8) (.r 28)⟩,⟨none,.mv (some 9) (.c (.lit (.bool false)))⟩,⟨none,.mv (some 10) (.c (.lit (.int .i64 2)))⟩]
abbrev f34_13:AC:=.seq f34_14 .ret
abbrev f34_12:AC:=.cond (.r 27) f34_13 .skip
abbrev f34_10:AC:=.seq f34_11 f34_12
abbrev f34_16:AC:=.ops [0,1,2,3,8,11] [8] [vv 29 0,vn 30 29,vd 31 30 1,vl 32 31,vv 33 2,⟨none,.lookup (some 34) (.int .i64) (.lit (.pointer none)) false (.r 32) (.r 33)⟩,vo 11 34]
abbrev f34_19:AC:=.ops [0,1,2,3,8,11,36] [8] [vv 35 11,⟨none,.bin (some 36) (.nil .ptr) .eql (.r 35) (.c (.lit (.pointer none)))⟩]
abbrev f34_22:AC:=.ops [8,9,10] [8] [⟨none,.bst (some 37) [(0,1),(1,4),(5,1),(6,1)] (.agg [(.lit (.int .i64 0)),(.lit (.string ⟨#[]⟩)),(.lit (.int .i64 0)),(.lit (.slice none 0 0)),(.lit (.int .u64 0)),(.lit (.bool false)),(.lit (.int .i64 0))]) []⟩,⟨none,.store 7 (.r 8) (.r 37)⟩,⟨none,.mv (some 9) (.c (.lit (.bool false)))⟩,⟨none,.mv (some 10) (.c (.lit (.int .i64 9)))⟩]
abbrev f34_21:AC:=.seq f34_22 .ret
abbrev f34_20:AC:=.cond (.r 36) f34_21 .skip
abbrev f34_18:AC:=.seq f34_19 f34_20
abbrev f34_25:AC:=.ops [0,1,2,3,8,11,13] [8] [vv 39 0,vn 40 39,vd 41 40 2,vl 42 41,vv 43 1,⟨none,.lookup (some 44) (.int .i64) (.agg [(.lit (.int .i64 0)),(.lit (.int .i64 0)),(.lit (.int .u64 0))]) true (.r 42) (.r 43)⟩,vv 38 44,ve 45 38 0,ve 46 38 1,⟨none,.newL 12 [(.lit (.int .i64 0)),(.lit (.int .i64 0)),(.lit (.int .u64 0))]⟩,⟨none,.store 3 (.r 12) (.r 45)⟩,vo 13 46]
abbrev f34_27:AC:=.ops [0,1,2,3,8,11,47] [8] [vv 47 13]
abbrev f34_30:AC:=.ops [8,9,10] [8] [⟨none,.bst (some 48) [(0,1),(1,4),(5,1),(6,1)] (.agg [(.lit (.int .i64 0)),(.lit (.string ⟨#[]⟩)),(.lit (.int .i64 0)),(.lit (.slice none 0 0)),(.lit (.int .u64 0)),(.lit (.bool false)),(.lit (.int .i64 0))]) []⟩,⟨none,.store 7 (.r 8) (.r 48)⟩,⟨none,.mv (some 9) (.c (.lit (.bool false)))⟩,⟨none,.mv (some 10) (.c (.lit (.int .i64 11)))⟩]
abbrev f34_29:AC:=.seq f34_30 .ret
abbrev f34_28:AC:=.cond (.r 47) f34_29 .skip
abbrev f34_26:AC:=.seq f34_27 f34_28
abbrev f34_24:AC:=.seq f34_25 f34_26
abbrev f34_33:AC:=.ops [0,1,2,3,8,11,54] [8] [vv 49 11,vn 50 49,vd 51 50 6,vl 52 51,⟨none,.len (some 53) .sl (.r 52)⟩,vb 54 .gtr 53 0]
abbrev f34_36:AC:=.ops [8,9,10] [8] [vv 55 1,vv 56 11,⟨none,.call (some 57) false (.f 50) [(.r 56)]⟩,vv 58 3,⟨none,.call (some 59) false (.f 49) [(.r 55),(.r 57),(.r 58)]⟩,⟨none,.store 7 (.r 8) (.r 59)⟩,⟨none,.mv (some 9) (.c (.lit (.bool true)))⟩,⟨none,.mv (some 10) (.c (.lit (.int .i64 0)))⟩]
abbrev f34_35:AC:=.seq f34_36 .ret
abbrev f34_34:AC:=.cond (.r 54) f34_35 .skip
abbrev f34_32:AC:=.seq f34_33 f34_34
abbrev f34_38:AC:=.ops [0,1,2,3,8,10,14] [8] [vv 61 11,vn 62 61,vd 63 62 10,vl 64 63,vv 65 1,⟨none,.call (some 66) false (.f 51) [(.r 64),(.r 65)]⟩,vv 60 66,ve 67 60 0,ve 68 60 1,vo 14 67,vo 10 68]
abbrev f34_41:AC:=.ops [0,1,2,3,8,10,14,70] [8] [vv 69 10,vb 70 .eql 69 0]
abbrev f34_43:AC:=.ops [8,10] [8] [vv 71 0,vn 72 71,vd 73 72 2,vl 74 73,vv 75 1,vv 76 2,vv 77 3,vv 78 14,⟨none,.bst (some 79) [(0,1),(1,1),(2,1)] (.agg [(.lit (.int .i64 0)),(.lit (.int .i64 0)),(.lit (.int .u64 0))]) [(0,(.r 76)),(1,(.r 77)),(2,(.r 78))]⟩,⟨none,.upd (.int .i64) (.r 74) (.r 75) (.r 79)⟩]
abbrev f34_42:AC:=.cond (.r 70) f34_43 .skip
abbrev f34_40:AC:=.seq f34_41 f34_42
abbrev f34_45:AC:=.ops [8,9,10] [8] [⟨none,.bst (some 80) [(0,1),(1,4),(5,1),(6,1)] (.agg [(.lit (.int .i64 0)),(.lit (.string ⟨#[]⟩)),(.lit (.int .i64 0)),(.lit (.slice none 0 0)),(.lit (.int .u64 0)),(.lit (.bool false)),(.lit (.int .i64 0))]) []⟩,vv 81 10,⟨none,.store 7 (.r 8) (.r 80)⟩,⟨none,.mv (some 9) (.c (.lit (.bool false)))⟩,vo 10 81]
abbrev f34_44:AC:=.seq f34_45 .ret
abbrev f34_39:AC:=.seq f34_40 f34_44
abbrev f34_37:AC:=.seq f34_38 f34_39
abbrev f34_31:AC:=.seq f34_32 f34_37
abbrev f34_23:AC:=.seq f34_24 f34_31
abbrev f34_17:AC:=.seq f34_18 f34_23
def f34_15:AC:=.seq f34_16 f34_17
theorem f34_15e:SQ f34_15 f34_16 f34_17:=rfl
abbrev f34_9:AC:=.seq f34_10 f34_15
abbrev f34_3:AC:=.seq f34_4 f34_9
abbrev f34_1:AC:=.seq f34_2 f34_3
def c_f34:AFun:=⟨82,[.cell 8 (some 7),.tmp 9,.tmp 10],f34_1⟩
theorem k_f34:kX x_f34 34 c_f34:=by delta kX; kernel_rfl
theorem e_f34:eX 34:=by delta eX; kernel_rfl

def n_f35:Nat:=35
def x_f35:=xX 7 [0,2,3,4,5,6] [] [(2,[0],[]),(6,[3],[]),(14,[2],[])]
abbrev f35_2:AC:=.ops [0] [] [⟨none,.mv (some 2) (.c (.lit .nilFunc))⟩]
abbrev f35_4:AC:=.ops [3] [] [vv 4 0,⟨none,.call (some 5) false (.f 45) [(.r 4)]⟩,⟨none,.newB 3 [(.lit (.pointer none))]⟩,⟨none,.store 1 (.r 3) (.r 5)⟩]
abbrev f35_6:AC:=.ops [2] [] [⟨none,.mkfn (some 6) 52 [] [(.r 3)]⟩,vo 2 6]
abbrev f35_5:AC:=.seq f35_6 .ret
abbrev f35_3:AC:=.seq f35_4 f35_5
def f52:AC:=.seq f35_2 f35_3
theorem f35_1e:SQ f52 f35_2 f35_3:=rfl
def c_f35:AFun:=⟨7,[.tmp 2],f52⟩
theorem k_f35:kX x_f35 35 c_f35:=by delta kX; kernel_rfl
theorem e_f35:eX 35:=by delta eX; kernel_rfl

def n_f36:Nat:=36
def x_f36:=xX 94 [0,1,2,3,8,9,10,12,13,15,18,19,21,22,23,25,26,27,32,33,34,35,36,37,38,39,44,45,49,50,51,55,56,60,61,62,63,67,68,69,70,71,72,74,75,80,81,82,86,87,88,89,91,92,93] [] [(2,[0,1,3,6],[6]),(24,[0,1,3,6,17],[6]),(100,[8,9],[]),(102,[0,1,3,6,20],[6]),(412,[8,9],[]),(414,[0,1,3,6,24],[6]),(1660,[8,9],[]),(1662,[0,1,3,6,28],[6]),(6652,[8,9],[]),(14,[0,1,3,10],[]),(60,[0,1,3,10,40],[]),(244,[8,9],[]),(62,[0,10,11],[11]),(126,[0,11,12],[11]),(254,[0,11,12,13,15],[11]),(1020,[0,11,12,13,73],[11]),(4084,[],[]),(8170,[8,9],[]),(1022,[0,11,13,16],[11,16]),(2046,[11,13,16],[11,16]),(4094,[8,9],[])]
abbrev f36_2:AC:=.ops [0,1,3,6] [6] [⟨none,.boxL 6 2 (.r 2)⟩,⟨none,.mv (some 8) (.c (.lit (.slice none 0 0)))⟩,⟨none,.mv (some 9) (.c (.lit (.int .i64 0)))⟩]
abbrev f36_6:AC:=.ops [0,1,3,6,17] [6] [vv 18 0,⟨none,.call (some 19) false (.f 26) [(.r 18)]⟩,vo 17 19]
abbrev f36_9:AC:=.ops [8,9] [] [⟨none,.mv (some 8) (.c (.lit (.slice none 0 0)))⟩,⟨none,.mv (some 9) (.c (.lit (.int .i64 1)))⟩]
abbrev f36_8:AC:=.seq f36_9 .ret
abbrev f36_11:AC:=.ops [0,1,3,6,20] [6] [⟨none,.load (some 21) (.r 6) (some 2)⟩,⟨none,.call (some 22) false (.f 27) [(.r 21)]⟩,⟨none,.un (some 23) .not (.r 22)⟩,vo 20 23]
abbrev f36_14:AC:=.ops [8,9] [] [⟨none,.mv (some 8) (.c (.lit (.slice none 0 0)))⟩,⟨none,.mv (some 9) (.c (.lit (.int .i64 2)))⟩]
abbrev f36_13:AC:=.seq f36_14 .ret
abbrev f36_16:AC:=.ops [0,1,3,6,24] [6] [vv 25 3,⟨none,.len (some 26) .sl (.r 25)⟩,vb 27 .gtr 26 2048,vo 24 27]
abbrev f36_19:AC:=.ops [8,9] [] [⟨none,.mv (some 8) (.c (.lit (.slice none 0 0)))⟩,⟨none,.mv (some 9) (.c (.lit (.int .i64 5)))⟩]
abbrev f36_18:AC:=.seq f36_19 .ret
abbrev f36_21:AC:=.ops [0,1,3,6,28] [6] [vv 29 0,vn 30 29,vd 31 30 1,vl 32 31,vv 33 1,⟨none,.lookup (some 34) (.int .i64) (.lit (.pointer none)) false (.r 32) (.r 33)⟩,⟨none,.bin (some 35) (.nil .ptr) .eql (.r 34) (.c (.lit (.pointer none)))⟩,vo 28 35]
abbrev f36_24:AC:=.ops [8,9] [] [⟨none,.mv (some 8) (.c (.lit (.slice none 0 0)))⟩,⟨none,.mv (some 9) (.c (.lit (.int .i64 9)))⟩]
abbrev f36_23:AC:=.seq f36_24 .ret
abbrev f36_22:AC:=.cond (.r 28) f36_23 .skip
abbrev f36_20:AC:=.seq f36_21 f36_22
abbrev f36_17:AC:=.cond (.r 24) f36_18 f36_20
abbrev f36_15:AC:=.seq f36_16 f36_17
abbrev f36_12:AC:=.cond (.r 20) f36_13 f36_15
abbrev f36_10:AC:=.seq f36_11 f36_12
abbrev f36_7:AC:=.cond (.r 17) f36_8 f36_10
abbrev f36_5:AC:=.seq f36_6 f36_7
abbrev f36_4:AC:=.block 0 f36_5
abbrev f36_26:AC:=.ops [0,1,3,10] [] [vv 36 0,⟨none,.load (some 37) (.r 6) (some 2)⟩,⟨none,.call (some 38) false (.f 28) [(.r 36),(.r 37)]⟩,vo 10 38]
abbrev f36_29:AC:=.ops [0,1,3,10,40] [] [vv 39 10,vb 40 .lss 39 0]
abbrev f36_32:AC:=.ops [8,9] [] [⟨none,.mv (some 8) (.c (.lit (.slice none 0 0)))⟩,⟨none,.mv (some 9) (.c (.lit (.int .i64 0)))⟩]
abbrev f36_31:AC:=.seq f36_32 .ret
abbrev f36_30:AC:=.cond (.r 40) f36_31 .skip
abbrev f36_28:AC:=.seq f36_29 f36_30
abbrev f36_34:AC:=.draw [0,10,11] [11] [11] [vv 41 0,vn 42 41,vd 43 42 1,vl 44 43,vv 45 1,⟨none,.lookup (some 46) (.int .i64) (.lit (.pointer none)) false (.r 44) (.r 45)⟩,vn 47 46,vd 48 47 0,⟨none,.load (some 49) (.r 48) (some 2)⟩,vv 50 3,⟨none,.call (some 51) true (.f 53) [(.r 50)]⟩,vv 52 0,vn 53 52,vd 54 53 0,vl 55 54,⟨none,.bst (some 56) [(0,2),(2,1),(3,1)] (.agg [(.lit (.string ⟨#[]⟩)),(.lit (.int .i64 0)),(.lit (.slice none 0 0)),(.lit (.int .u64 0))]) [(0,(.r 49)),(1,(.r 51)),(2,(.r 55))]⟩,⟨none,.newL 11 [(.lit (.string ⟨#[]⟩)),(.lit (.int .i64 0)),(.lit (.slice none 0 0)),(.lit (.int .u64 0))]⟩] [⟨none,.store 4 (.r 11) (.r 56)⟩]
abbrev f36_36:AC:=.ops [0,11,12] [11] [vv 57 0,vn 58 57,vd 59 58 1,vl 60 59,vv 61 10,⟨none,.lookup (some 62) (.int .i64) (.lit (.pointer none)) false (.r 60) (.r 61)⟩,vo 12 62]
abbrev f36_38:AC:=.ops [0,11,12,13,15] [11] [vv 64 12,vn 65 64,vd 66 65 10,vl 67 66,⟨none,.call (some 68) false (.f 54) [(.r 67)]⟩,vv 63 68,ve 69 63 0,ve 70 63 1,ve 71 63 2,vo 13 69,vo 14 70,vo 15 71]
abbrev f36_41:AC:=.ops [0,11,12,13,73] [11] [vv 72 15,vb 73 .neq 72 0]
abbrev f36_44:AC:=.ops [] [] [vv 74 12,⟨none,.load (some 75) (.r 11) (some 4)⟩,⟨none,.call (some 76) false (.f 55) [(.r 74),(.r 75)]⟩]
abbrev f36_46:AC:=.ops [8,9] [] [⟨none,.mv (some 8) (.c (.lit (.slice none 0 0)))⟩,⟨none,.mv (some 9) (.c (.lit (.int .i64 0)))⟩]
abbrev f36_45:AC:=.seq f36_46 .ret
abbrev f36_43:AC:=.seq f36_44 f36_45
abbrev f36_42:AC:=.cond (.r 73) f36_43 .skip
abbrev f36_40:AC:=.seq f36_41 f36_42
abbrev f36_48:AC:=.ops [0,11,13,16] [11,16] [vv 77 0,vn 78 77,vd 79 78 2,vl 80 79,vv 81 13,⟨none,.lookup (some 82) (.int .i64) (.agg [(.lit (.int .i64 0)),(.lit (.int .i64 0)),(.lit (.int .u64 0))]) false (.r 80) (.r 81)⟩,⟨none,.newL 16 [(.lit (.int .i64 0)),(.lit (.int .i64 0)),(.lit (.int .u64 0))]⟩,⟨none,.store 3 (.r 16) (.r 82)⟩]
abbrev f36_50:AC:=.ops [11,13,16] [11,16] [vv 83 0,vn 84 83,vd 85 84 2,vl 86 85,vv 87 13,⟨none,.del (.int .i64) (.r 86) (.r 87)⟩]
abbrev f36_52:AC:=.ops [8,9] [] [vv 88 13,⟨none,.load (some 89) (.r 11) (some 4)⟩,vd 90 16 1,vl 91 90,⟨none,.call (some 92) false (.f 49) [(.r 88),(.r 89),(.r 91)]⟩,⟨none,.bsl (some 93) 7 1 (.agg [(.lit (.int .i64 0)),(.lit (.string ⟨#[]⟩)),(.lit (.int .i64 0)),(.lit (.slice none 0 0)),(.lit (.int .u64 0)),(.lit (.bool false)),(.lit (.int .i64 0))]) [(0,(.r 92))]⟩,vo 8 93,⟨none,.mv (some 9) (.c (.lit (.int .i64 0)))⟩]
abbrev f36_51:AC:=.seq f36_52 .ret
abbrev f36_49:AC:=.seq f36_50 f36_51
abbrev f36_47:AC:=.seq f36_48 f36_49
abbrev f36_39:AC:=.seq f36_40 f36_47
abbrev f36_37:AC:=.seq f36_38 f36_39
abbrev f36_35:AC:=.seq f36_36 f36_37
abbrev f36_33:AC:=.seq f36_34 f36_35
abbrev f36_27:AC:=.seq f36_28 f36_33
abbrev f36_25:AC:=.seq f36_26 f36_27
abbrev f36_3:AC:=.seq f36_4 f36_25
abbrev f36_1:AC:=.seq f36_2 f36_3
def c_f36:AFun:=⟨94,[.tmp 8,.tmp 9],f36_1⟩
theorem k_f36:kX x_f36 36 c_f36:=by delta kX; kernel_rfl
theorem e_f36:eX 36:=by delta eX; kernel_rfl

def n_f37:Nat:=37
def x_f37:=xX 44 [0,1,4,6,7,9,10,11,12,13,15,19,20,21,22,23,24,29,31,35,37,42,43] [] [(2,[0,1],[]),(12,[0,1,8],[]),(52,[4],[]),(28,[0,1,14],[]),(116,[4],[]),(30,[0,1,5,6],[5]),(124,[0,1,5,25],[5]),(500,[4],[]),(126,[0,1],[]),(254,[],[]),(510,[4],[])]
abbrev f37_2:AC:=.ops [0,1] [] [⟨none,.mv (some 4) (.c (.lit (.int .i64 0)))⟩]
abbrev f37_5:AC:=.ops [0,1,8] [] [vv 7 0,⟨none,.call (some 8) false (.f 26) [(.r 7)]⟩]
abbrev f37_8:AC:=.ops [4] [] [⟨none,.mv (some 4) (.c (.lit (.int .i64 1)))⟩]
abbrev f37_7:AC:=.seq f37_8 .ret
abbrev f37_6:AC:=.cond (.r 8) f37_7 .skip
abbrev f37_4:AC:=.seq f37_5 f37_6
abbrev f37_11:AC:=.ops [0,1,14] [] [vv 9 1,vb 10 .lss 9 0,vv 11 10,⟨some (11,false),.mv (some 12) (.r 1)⟩,⟨some (11,false),.bin (some 13) .num .geq (.r 12) (.c (.lit (.int .i64 64)))⟩,⟨none,.pick (some 14) (.r 11) (.c (.lit (.bool true))) (.r 13)⟩]
abbrev f37_14:AC:=.ops [4] [] [⟨none,.mv (some 4) (.c (.lit (.int .i64 2)))⟩]
abbrev f37_13:AC:=.seq f37_14 .ret
abbrev f37_12:AC:=.cond (.r 14) f37_13 .skip
abbrev f37_10:AC:=.seq f37_11 f37_12
abbrev f37_16:AC:=.ops [0,1,5,6] [5] [vv 16 0,vn 17 16,vd 18 17 2,vl 19 18,vv 20 1,⟨none,.lookup (some 21) (.int .i64) (.agg [(.lit (.int .i64 0)),(.lit (.int .i64 0)),(.lit (.int .u64 0))]) true (.r 19) (.r 20)⟩,vv 15 21,ve 22 15 0,ve 23 15 1,⟨none,.newL 5 [(.lit (.int .i64 0)),(.lit (.int .i64 0)),(.lit (.int .u64 0))]⟩,⟨none,.store 3 (.r 5) (.r 22)⟩,vo 6 23]
abbrev f37_19:AC:=.ops [0,1,5,25] [5] [vv 24 6,⟨none,.un (some 25) .not (.r 24)⟩]
abbrev f37_22:AC:=.ops [4] [] [⟨none,.mv (some 4) (.c (.lit (.int .i64 9)))⟩]
abbrev f37_21:AC:=.seq f37_22 .ret
abbrev f37_20:AC:=.cond (.r 25) f37_21 .skip
abbrev f37_18:AC:=.seq f37_19 f37_20
abbrev f37_24:AC:=.draw [0,1] [] [] [vv 26 0,vn 27 26,vd 28 27 1,vl 29 28,vd 30 5 0,vl 31 30,⟨none,.lookup (some 32) (.int .i64) (.lit (.pointer none)) false (.r 29) (.r 31)⟩,vn 33 32,vd 34 33 10,vl 35 34,vd 36 5 2,vl 37 36] [⟨none,.call (some 38) false (.f 56) [(.r 35),(.r 37)]⟩]
abbrev f37_26:AC:=.ops [] [] [vv 39 0,vn 40 39,vd 41 40 2,vl 42 41,vv 43 1,⟨none,.del (.int .i64) (.r 42) (.r 43)⟩]
abbrev f37_28:AC:=.ops [4] [] [⟨none,.mv (some 4) (.c (.lit (.int .i64 0)))⟩]
abbrev f37_27:AC:=.seq f37_28 .ret
abbrev f37_25:AC:=.seq f37_26 f37_27
abbrev f37_23:AC:=.seq f37_24 f37_25
abbrev f37_17:AC:=.seq f37_18 f37_23
def f37_15:AC:=.seq f37_16 f37_17
theorem f37_15e:SQ f37_15 f37_16 f37_17:=rfl
abbrev f37_9:AC:=.seq f37_10 f37_15
abbrev f37_3:AC:=.seq f37_4 f37_9
abbrev f37_1:AC:=.seq f37_2 f37_3
def c_f37:AFun:=⟨44,[.tmp 4],f37_1⟩
theorem k_f37:kX x_f37 37 c_f37:=by delta kX; kernel_rfl
theorem e_f37:eX 37:=by delta eX; kernel_rfl

def n_f38:Nat:=38
def x_f38:=xX 75 [0,1,4,5,6,8,9,11,15,16,17,18,19,22,28,29,30,32,33,37,38,39,43,44,45,46,47,48,55,56,60,61,63,68,69,72,73,74] [] [(2,[0,1],[]),(12,[0,1,10],[]),(52,[4,5],[]),(28,[0,1,20],[]),(116,[4,5],[]),(30,[0,1],[]),(62,[0,1,6],[]),(252,[1,6,29],[]),(506,[1,6,29],[]),(2024,[1,6,29,31],[]),(8101,[6],[]),(16204,[1,6,8,29],[]),(32410,[1,6,8,29],[]),(259280,[1,6,8,29,62],[]),(518563,[1,6,29],[]),(518564,[1,6,8,29],[]),(1037130,[1,6,8,29],[]),(1037131,[1,6,8,29],[]),(254,[4,5],[])]
abbrev f38_2:AC:=.ops [0,1] [] [⟨none,.mv (some 4) (.c (.lit (.int .i64 0)))⟩,⟨none,.mv (some 5) (.c (.lit (.int .i64 0)))⟩]
abbrev f38_5:AC:=.ops [0,1,10] [] [vv 9 0,⟨none,.call (some 10) false (.f 26) [(.r 9)]⟩]
abbrev f38_8:AC:=.ops [4,5] [] [⟨none,.mv (some 4) (.c (.lit (.int .i64 0)))⟩,⟨none,.mv (some 5) (.c (.lit (.int .i64 1)))⟩]
abbrev f38_7:AC:=.seq f38_8 .ret
abbrev f38_6:AC:=.cond (.r 10) f38_7 .skip
abbrev f38_4:AC:=.seq f38_5 f38_6
abbrev f38_11:AC:=.ops [0,1,20] [] [vv 11 1,vv 12 0,vn 13 12,vd 14 13 0,vl 15 14,⟨none,.bin (some 16) .num .lss (.r 11) (.r 15)⟩,vv 17 16,⟨some (17,false),.mv (some 18) (.r 1)⟩,⟨some (17,false),.bin (some 19) .num .eql (.r 18) (.c (.lit (.int .u64 18446744073709551615)))⟩,⟨none,.pick (some 20) (.r 17) (.c (.lit (.bool true))) (.r 19)⟩]
abbrev f38_14:AC:=.ops [4,5] [] [⟨none,.mv (some 4) (.c (.lit (.int .i64 0)))⟩,⟨none,.mv (some 5) (.c (.lit (.int .i64 3)))⟩]
abbrev f38_13:AC:=.seq f38_14 .ret
abbrev f38_12:AC:=.cond (.r 20) f38_13 .skip
abbrev f38_10:AC:=.seq f38_11 f38_12
abbrev f38_16:AC:=.ops [0,1] [] [vv 21 0,vv 22 1,vn 23 21,vd 24 23 0,⟨none,.store 1 (.r 24) (.r 22)⟩]
abbrev f38_18:AC:=.ops [0,1,6] [] [⟨none,.mv (some 6) (.c (.lit (.int .i64 0)))⟩]
abbrev f38_21:AC:=.ops [1,6,29] [] [vv 25 0,vn 26 25,vd 27 26 1,vl 28 27,⟨none,.x (some 29) (.rng (.r 28))⟩]
abbrev f38_25:AC:=.ops [1,6,29,31] [] [⟨none,.x (some 30) (.nxt 29)⟩,ve 31 30 0]
abbrev f38_27:AC:=.cond (.r 31) .skip (.exit [6] [] 0)
abbrev f38_30:AC:=.ops [1,6,8,29] [] [⟨none,.x (some 32) (.ent 29)⟩,ve 33 32 1,vo 8 33]
abbrev f38_35:AC:=.draw [1,6,8,29,62] [] [] [vv 34 8,vn 35 34,vd 36 35 5,vl 37 36,⟨none,.bin (some 38) .num .gtr (.r 37) (.c (.lit (.int .u64 0)))⟩,vv 39 38,⟨some (39,true),.mv (some 40) (.r 8)⟩,⟨some (39,true),.nilck (some 41) (.r 40)⟩,⟨some (39,true),.addr (some 42) (.r 41) 6⟩,⟨some (39,true),.load (some 43) (.r 42) none⟩,⟨some (39,true),.len (some 44) .sl (.r 43)⟩,⟨some (39,true),.bin (some 45) .num .gtr (.r 44) (.c (.lit (.int .i64 0)))⟩,⟨none,.pick (some 46) (.r 39) (.r 45) (.c (.lit (.bool false)))⟩,vv 47 46,⟨some (47,true),.mv (some 48) (.r 1)⟩,⟨some (47,true),.mv (some 49) (.r 8)⟩,⟨some (47,true),.nilck (some 50) (.r 49)⟩,⟨some (47,true),.addr (some 51) (.r 50) 6⟩,⟨some (47,true),.load (some 52) (.r 51) none⟩,⟨some (47,true),.ixS (some 53) (.r 52) (.c (.lit (.int .i64 0))) 4⟩,⟨some (47,true),.addr (some 54) (.r 53) 3⟩,⟨some (47,true),.load (some 55) (.r 54) none⟩,⟨some (47,true),.call (some 56) true (.f 57) [(.r 48),(.r 55)]⟩,⟨some (47,true),.mv (some 57) (.r 8)⟩,⟨some (47,true),.nilck (some 58) (.r 57)⟩,⟨some (47,true),.addr (some 59) (.r 58) 5⟩,⟨some (47,true),.load (some 60) (.r 59) none⟩] [⟨some (47,true),.bin (some 61) .num .geq (.r 56) (.r 60)⟩,⟨none,.pick (some 62) (.r 47) (.r 61) (.c (.lit (.bool false)))⟩]
abbrev f38_36:AC:=.cond (.r 62) .skip (.exit [1,6,29] [] 2)
abbrev f38_34:AC:=.seq f38_35 f38_36
abbrev f38_39:AC:=.ops [1,6,8,29] [] [vv 63 8,⟨none,.call (some 64) false (.f 50) [(.r 63)]⟩]
abbrev f38_41:AC:=.ops [1,6,8,29] [] [vv 65 8,vn 66 65,vd 67 66 9,vl 68 67,vb 69 .add 68 1,vn 70 65,vd 71 70 9,⟨none,.store 1 (.r 71) (.r 69)⟩]
abbrev f38_42:AC:=.ops [1,6,8,29] [] [vv 72 6,vb 73 .add 72 1,vo 6 73]
abbrev f38_40:AC:=.seq f38_41 f38_42
abbrev f38_38:AC:=.seq f38_39 f38_40
abbrev f38_37:AC:=.block 3 f38_38
def f38_33:AC:=.seq f38_34 f38_37
theorem f38_33e:SQ f38_33 f38_34 f38_37:=rfl
def f38_32:AC:=.loop [1,6,8,29] [] f38_33
theorem f38_32w:aC P id m f38_32 sf st Q = a9 (aC P id m f38_33) [1,6,8,29] [] sf st Q:=rfl
abbrev f38_31:AC:=.block 2 f38_32
abbrev f38_29:AC:=.seq f38_30 f38_31
abbrev f38_28:AC:=.block 1 f38_29
abbrev f38_26:AC:=.seq f38_27 f38_28
abbrev f38_24:AC:=.seq f38_25 f38_26
def f38_23:AC:=.loop [1,6,29] [] f38_24
theorem f38_23w:aC P id m f38_23 sf st Q = a9 (aC P id m f38_24) [1,6,29] [] sf st Q:=rfl
abbrev f38_22:AC:=.block 0 f38_23
abbrev f38_20:AC:=.seq f38_21 f38_22
abbrev f38_44:AC:=.ops [4,5] [] [vv 74 6,vo 4 74,⟨none,.mv (some 5) (.c (.lit (.int .i64 0)))⟩]
abbrev f38_43:AC:=.seq f38_44 .ret
abbrev f38_19:AC:=.seq f38_20 f38_43
abbrev f38_17:AC:=.seq f38_18 f38_19
def f38_15:AC:=.seq f38_16 f38_17
theorem f38_15e:SQ f38_15 f38_16 f38_17:=rfl
abbrev f38_9:AC:=.seq f38_10 f38_15
abbrev f38_3:AC:=.seq f38_4 f38_9
abbrev f38_1:AC:=.seq f38_2 f38_3
def c_f38:AFun:=⟨75,[.tmp 4,.tmp 5],f38_1⟩
theorem k_f38:kX x_f38 38 c_f38:=by delta kX; kernel_rfl
theorem e_f38:eX 38:=by delta eX; kernel_rfl

def n_f39:Nat:=39
def x_f39:=xX 25 [0,1,5,6,7,11,12,13,14,16,20,21,24] [] [(2,[0,1,4],[4]),(12,[0,1,4,15],[4]),(52,[4],[4]),(14,[4],[4])]
abbrev f39_2:AC:=.ops [0,1,4] [4] [⟨none,.newL 4 [(.lit (.string ⟨#[]⟩)),(.lit (.int .i64 0)),(.lit (.int .i64 0)),(.lit (.int .i64 0)),(.lit (.int .i64 0)),(.lit (.int .u64 0)),(.lit (.slice none 0 0)),(.lit (.int .i64 0)),(.lit (.int .i64 0)),(.lit (.int .i64 0)),(.lit (.pointer none))]⟩]
abbrev f39_5:AC:=.ops [0,1,4,15] [4] [vv 5 0,⟨none,.call (some 6) false (.f 26) [(.r 5)]⟩,vv 7 6,⟨some (7,false),.mv (some 8) (.r 0)⟩,⟨some (7,false),.nilck (some 9) (.r 8)⟩,⟨some (7,false),.addr (some 10) (.r 9) 1⟩,⟨some (7,false),.load (some 11) (.r 10) none⟩,⟨some (7,false),.mv (some 12) (.r 1)⟩,⟨some (7,false),.lookup (some 13) (.int .i64) (.lit (.pointer none)) false (.r 11) (.r 12)⟩,⟨some (7,false),.bin (some 14) (.nil .ptr) .eql (.r 13) (.c (.lit (.pointer none)))⟩,⟨none,.pick (some 15) (.r 7) (.c (.lit (.bool true))) (.r 14)⟩]
abbrev f39_8:AC:=.ops [4] [4] [⟨none,.bst (some 16) [(0,2),(2,1),(3,1),(4,1),(5,1),(6,1),(7,1),(8,1),(9,1),(10,1)] (.agg [(.lit (.string ⟨#[]⟩)),(.lit (.int .i64 0)),(.lit (.int .i64 0)),(.lit (.int .i64 0)),(.lit (.int .i64 0)),(.lit (.int .u64 0)),(.lit (.slice none 0 0)),(.lit (.int .i64 0)),(.lit (.int .i64 0)),(.lit (.int .i64 0)),(.lit (.pointer none))]) []⟩,⟨none,.store 11 (.r 4) (.r 16)⟩]
abbrev f39_7:AC:=.seq f39_8 .ret
abbrev f39_6:AC:=.cond (.r 15) f39_7 .skip
abbrev f39_4:AC:=.seq f39_5 f39_6
abbrev f39_10:AC:=.ops [4] [4] [vv 17 0,vn 18 17,vd 19 18 1,vl 20 19,vv 21 1,⟨none,.lookup (some 22) (.int .i64) (.lit (.pointer none)) false (.r 20) (.r 21)⟩,vn 23 22,⟨none,.load (some 24) (.r 23) (some 11)⟩,⟨none,.store 11 (.r 4) (.r 24)⟩]
abbrev f39_9:AC:=.seq f39_10 .ret
abbrev f39_3:AC:=.seq f39_4 f39_9
abbrev f39_1:AC:=.seq f39_2 f39_3
def c_f39:AFun:=⟨25,[.cell 4 (some 11)],f39_1⟩
theorem k_f39:kX x_f39 39 c_f39:=by delta kX; kernel_rfl
theorem e_f39:eX 39:=by delta eX; kernel_rfl

def n_f40:Nat:=40
def x_f40:=xX 10 [0,2,3,8,9] [] [(2,[0],[]),(12,[0,4],[]),(52,[2],[]),(14,[2],[])]
abbrev f40_2:AC:=.ops [0] [] [⟨none,.mv (some 2) (.c (.lit (.int .i64 0)))⟩]
abbrev f40_5:AC:=.ops [0,4] [] [vv 3 0,⟨none,.call (some 4) false (.f 58) [(.r 3)]⟩]
abbrev f40_8:AC:=.ops [2] [] [⟨none,.mv (some 2) (.c (.lit (.int .i64 0)))⟩]
abbrev f40_7:AC:=.seq f40_8 .ret
abbrev f40_6:AC:=.cond (.r 4) f40_7 .skip
abbrev f40_4:AC:=.seq f40_5 f40_6
abbrev f40_10:AC:=.ops [2] [] [vv 5 0,vn 6 5,vd 7 6 3,vl 8 7,⟨none,.len (some 9) .mp (.r 8)⟩,vo 2 9]
abbrev f40_9:AC:=.seq f40_10 .ret
abbrev f40_3:AC:=.seq f40_4 f40_9
abbrev f40_1:AC:=.seq f40_2 f40_3
def c_f40:AFun:=⟨10,[.tmp 2],f40_1⟩
theorem k_f40:kX x_f40 40 c_f40:=by delta kX; kernel_rfl
theorem e_f40:eX 40:=by delta eX; kernel_rfl

def n_f45:Nat:=45
def x_f45:=xX 16 [0,2,3,8,12,13,14,15] [13] [(2,[0],[]),(12,[0,4],[]),(52,[2],[]),(14,[2],[])]
abbrev f45_2:AC:=.ops [0] [] [⟨none,.mv (some 2) (.c (.lit (.pointer none)))⟩]
abbrev f45_5:AC:=.ops [0,4] [] [vv 3 0,⟨none,.call (some 4) false (.f 58) [(.r 3)]⟩]
abbrev f45_8:AC:=.ops [2] [] [⟨none,.mv (some 2) (.c (.lit (.pointer none)))⟩]
abbrev f45_7:AC:=.seq f45_8 .ret
abbrev f45_6:AC:=.cond (.r 4) f45_7 .skip
abbrev f45_4:AC:=.seq f45_5 f45_6
abbrev f45_10:AC:=.drawM [2] [] [vv 5 0,vn 6 5,vd 7 6 0,⟨none,.load (some 8) (.r 7) (some 3)⟩,vv 9 0,vn 10 9,vd 11 10 3,vl 12 11] (some 13) (.f 66) [(.r 12)] [] [⟨none,.bst (some 14) [(0,3),(3,1)] (.agg [(.lit (.int .u64 0)),(.lit (.int .u64 0)),(.lit (.int .u64 0)),(.lit (.map none))]) [(0,(.r 8)),(1,(.r 13))]⟩,⟨none,.boxB 15 4 (.r 14)⟩,vo 2 15]
abbrev f45_9:AC:=.seq f45_10 .ret
abbrev f45_3:AC:=.seq f45_4 f45_9
abbrev f45_1:AC:=.seq f45_2 f45_3
def c_f45:AFun:=⟨16,[.tmp 2],f45_1⟩
theorem k_f45:kX x_f45 45 c_f45:=by delta kX; kernel_rfl
theorem e_f45:eX 45:=by delta eX; kernel_rfl

def n_f46:Nat:=46
def x_f46:=xX 27 [0,1,4,5,6,7,8,9,11,12,13,15,16,18,20,22,24,25] [] [(2,[0,1],[]),(12,[0,1,10],[]),(52,[4],[]),(28,[0,1,5],[]),(58,[0,1,5],[]),(464,[0,1,5,14],[]),(931,[],[]),(1864,[0,1,5,26],[]),(7460,[4],[]),(467,[0,1,5],[]),(30,[4],[])]
abbrev f46_2:AC:=.ops [0,1] [] [⟨none,.mv (some 4) (.c (.lit (.bool false)))⟩]
abbrev f46_5:AC:=.ops [0,1,10] [] [vv 6 0,⟨none,.len (some 7) .sl (.r 6)⟩,vv 8 1,⟨none,.len (some 9) .sl (.r 8)⟩,⟨none,.bin (some 10) .num .neq (.r 7) (.r 9)⟩]
abbrev f46_8:AC:=.ops [4] [] [⟨none,.mv (some 4) (.c (.lit (.bool false)))⟩]
abbrev f46_7:AC:=.seq f46_8 .ret
abbrev f46_6:AC:=.cond (.r 10) f46_7 .skip
abbrev f46_4:AC:=.seq f46_5 f46_6
abbrev f46_11:AC:=.ops [0,1,5] [] [⟨none,.mv (some 5) (.c (.lit (.int .i64 0)))⟩]
abbrev f46_16:AC:=.ops [0,1,5,14] [] [vv 11 5,vv 12 0,⟨none,.len (some 13) .sl (.r 12)⟩,⟨none,.bin (some 14) .num .lss (.r 11) (.r 13)⟩]
abbrev f46_17:AC:=.cond (.r 14) .skip (.exit [] [] 0)
abbrev f46_15:AC:=.seq f46_16 f46_17
abbrev f46_21:AC:=.draw [0,1,5,26] [] [] [vv 17 0,vv 18 5,⟨none,.ixS (some 19) (.r 17) (.r 18) 7⟩,⟨none,.load (some 20) (.r 19) (some 7)⟩,vv 21 1,vv 22 5,⟨none,.ixS (some 23) (.r 21) (.r 22) 7⟩,⟨none,.load (some 24) (.r 23) (some 7)⟩] [⟨none,.call (some 25) false (.f 32) [(.r 20),(.r 24)]⟩,⟨none,.un (some 26) .not (.r 25)⟩]
abbrev f46_24:AC:=.ops [4] [] [⟨none,.mv (some 4) (.c (.lit (.bool false)))⟩]
abbrev f46_23:AC:=.seq f46_24 .ret
abbrev f46_22:AC:=.cond (.r 26) f46_23 .skip
abbrev f46_20:AC:=.seq f46_21 f46_22
abbrev f46_19:AC:=.block 1 f46_20
abbrev f46_25:AC:=.ops [0,1,5] [] [vv 15 5,vb 16 .add 15 1,vo 5 16]
abbrev f46_18:AC:=.seq f46_19 f46_25
abbrev f46_14:AC:=.seq f46_15 f46_18
def f46_13:AC:=.loop [0,1,5] [] f46_14
theorem f46_13w:aC P id m f46_13 sf st Q = a9 (aC P id m f46_14) [0,1,5] [] sf st Q:=rfl
abbrev f46_12:AC:=.block 0 f46_13
abbrev f46_10:AC:=.seq f46_11 f46_12
abbrev f46_27:AC:=.ops [4] [] [⟨none,.mv (some 4) (.c (.lit (.bool true)))⟩]
abbrev f46_26:AC:=.seq f46_27 .ret
abbrev f46_9:AC:=.seq f46_10 f46_26
abbrev f46_3:AC:=.seq f46_4 f46_9
abbrev f46_1:AC:=.seq f46_2 f46_3
def c_f46:AFun:=⟨27,[.tmp 4],f46_1⟩
theorem k_f46:kX x_f46 46 c_f46:=by delta kX; kernel_rfl
theorem e_f46:eX 46:=by delta eX; kernel_rfl

def n_f47:Nat:=47
def x_f47:=xX 16 [0,2,4,5,6,8,9,10,11,13,14,15] [] [(2,[1],[1]),(6,[2],[])]
abbrev f47_2:AC:=.ops [1] [1] [⟨none,.boxL 1 2 (.r 0)⟩,⟨none,.mv (some 2) (.c (.lit (.bool false)))⟩]
abbrev f47_4:AC:=.ops [2] [] [vd 3 1 0,vl 4 3,⟨none,.call (some 5) false (.f 67) [(.r 4)]⟩,vv 6 5,⟨some (6,true),.addr (some 7) (.r 1) 1⟩,⟨some (6,true),.load (some 8) (.r 7) none⟩,⟨some (6,true),.bin (some 9) .num .geq (.r 8) (.c (.lit (.int .i64 0)))⟩,⟨none,.pick (some 10) (.r 6) (.r 9) (.c (.lit (.bool false)))⟩,vv 11 10,⟨some (11,true),.addr (some 12) (.r 1) 1⟩,⟨some (11,true),.load (some 13) (.r 12) none⟩,⟨some (11,true),.bin (some 14) .num .leq (.r 13) (.c (.lit (.int .i64 65535)))⟩,⟨none,.pick (some 15) (.r 11) (.r 14) (.c (.lit (.bool false)))⟩,vo 2 15]
abbrev f47_3:AC:=.seq f47_4 .ret
abbrev f47_1:AC:=.seq f47_2 f47_3
def c_f47:AFun:=⟨16,[.tmp 2],f47_1⟩
theorem k_f47:kX x_f47 47 c_f47:=by delta kX; kernel_rfl
theorem e_f47:eX 47:=by delta eX; kernel_rfl

def n_f48:Nat:=48
def x_f48:=xX 17 [0,1,4,6,8,9,11,13,14,15,16] [] [(2,[2,3],[2,3]),(6,[4],[])]
abbrev f48_2:AC:=.ops [2,3] [2,3] [⟨none,.boxL 2 2 (.r 0)⟩,⟨none,.boxL 3 2 (.r 1)⟩,⟨none,.mv (some 4) (.c (.lit (.int .i64 0)))⟩]
abbrev f48_4:AC:=.draw [4] [] [] [vd 5 2 0,vl 6 5,vd 7 3 0,vl 8 7,⟨none,.call (some 9) true (.f 69) [(.r 6),(.r 8)]⟩,vd 10 2 1,vl 11 10,vd 12 3 1,vl 13 12] [⟨none,.call (some 14) false (.f 70) [(.r 11),(.r 13)]⟩,⟨none,.bsl (some 15) 1 2 (.lit (.int .i64 0)) [(0,(.r 9)),(1,(.r 14))]⟩,⟨none,.call (some 16) false (.f 68) [(.r 15)]⟩,vo 4 16]
abbrev f48_3:AC:=.seq f48_4 .ret
abbrev f48_1:AC:=.seq f48_2 f48_3
def c_f48:AFun:=⟨17,[.tmp 4],f48_1⟩
theorem k_f48:kX x_f48 48 c_f48:=by delta kX; kernel_rfl
theorem e_f48:eX 48:=by delta eX; kernel_rfl

def n_f49:Nat:=49
def x_f49:=xX 30 [0,1,2,7,9,11,12,13,14,15,16,18,19,20,21,23,24,25,26,29] [] [(2,[0,2,4,6],[4,6]),(6,[0,4,6,7],[4,6]),(14,[4,6,7,8],[4,6,8]),(30,[6,8],[6,8]),(62,[6],[6])]
abbrev f49_2:AC:=.ops [0,2,4,6] [4,6] [⟨none,.boxL 4 4 (.r 1)⟩,⟨none,.newL 6 [(.lit (.int .i64 0)),(.lit (.string ⟨#[]⟩)),(.lit (.int .i64 0)),(.lit (.slice none 0 0)),(.lit (.int .u64 0)),(.lit (.bool false)),(.lit (.int .i64 0))]⟩]
abbrev f49_4:AC:=.ops [0,4,6,7] [4,6] [vv 9 2,vd 10 4 2,vl 11 10,⟨none,.len (some 12) .sl (.r 11)⟩,⟨none,.mn (some 13) true (.r 9) (.r 12)⟩,vo 7 13]
abbrev f49_6:AC:=.ops [4,6,7,8] [4,6,8] [vv 14 0,⟨none,.load (some 15) (.r 4) (some 4)⟩,vv 16 7,vd 17 4 2,vl 18 17,⟨none,.len (some 19) .sl (.r 18)⟩,⟨none,.bin (some 20) .num .lss (.r 16) (.r 19)⟩,⟨none,.bst (some 21) [(0,1),(1,4),(5,1),(6,1)] (.agg [(.lit (.int .i64 0)),(.lit (.string ⟨#[]⟩)),(.lit (.int .i64 0)),(.lit (.slice none 0 0)),(.lit (.int .u64 0)),(.lit (.bool false)),(.lit (.int .i64 0))]) [(0,(.r 14)),(1,(.r 15)),(2,(.r 20))]⟩,⟨none,.newL 8 [(.lit (.int .i64 0)),(.lit (.string ⟨#[]⟩)),(.lit (.int .i64 0)),(.lit (.slice none 0 0)),(.lit (.int .u64 0)),(.lit (.bool false)),(.lit (.int .i64 0))]⟩,⟨none,.store 7 (.r 8) (.r 21)⟩]
abbrev f49_8:AC:=.ops [6,8] [6,8] [vd 22 4 2,vl 23 22,vv 24 7,⟨none,.sliS (some 25) (.r 23) none (some (.r 24)) 1⟩,⟨none,.call (some 26) false (.f 53) [(.r 25)]⟩,vd 27 8 1,vd 28 27 2,⟨none,.store 1 (.r 28) (.r 26)⟩]
abbrev f49_10:AC:=.ops [6] [6] [⟨none,.load (some 29) (.r 8) (some 7)⟩,⟨none,.store 7 (.r 6) (.r 29)⟩]
abbrev f49_9:AC:=.seq f49_10 .ret
abbrev f49_7:AC:=.seq f49_8 f49_9
abbrev f49_5:AC:=.seq f49_6 f49_7
abbrev f49_3:AC:=.seq f49_4 f49_5
abbrev f49_1:AC:=.seq f49_2 f49_3
def c_f49:AFun:=⟨30,[.cell 6 (some 7)],f49_1⟩
theorem k_f49:kX x_f49 49 c_f49:=by delta kX; kernel_rfl
theorem e_f49:eX 49:=by delta eX; kernel_rfl

def n_f50:Nat:=50
def x_f50:=xX 29 [9,14,15,21,23,24,25,28] [] [(2,[0,2],[2]),(6,[0,2,3],[2,3]),(14,[0,2,3],[2,3]),(30,[2,3],[2,3]),(62,[2],[2])]
abbrev f50_2:AC:=.ops [0,2] [2] [⟨none,.newL 2 [(.lit (.string ⟨#[]⟩)),(.lit (.int .i64 0)),(.lit (.slice none 0 0)),(.lit (.int .u64 0))]⟩]
abbrev f50_4:AC:=.ops [0,2,3] [2,3] [vv 4 0,vn 5 4,vd 6 5 6,vl 7 6,⟨none,.ixS (some 8) (.r 7) (.c (.lit (.int .i64 0))) 4⟩,⟨none,.load (some 9) (.r 8) (some 4)⟩,⟨none,.newL 3 [(.lit (.string ⟨#[]⟩)),(.lit (.int .i64 0)),(.lit (.slice none 0 0)),(.lit (.int .u64 0))]⟩,⟨none,.store 4 (.r 3) (.r 9)⟩]
abbrev f50_6:AC:=.ops [0,2,3] [2,3] [vv 10 0,vv 11 0,vn 12 11,vd 13 12 6,vl 14 13,⟨none,.call (some 15) false (.f 71) [(.r 14),(.c (.lit (.int .i64 0))),(.c (.lit (.int .i64 1)))]⟩,vn 16 10,vd 17 16 6,⟨none,.store 1 (.r 17) (.r 15)⟩]
abbrev f50_8:AC:=.draw [2,3] [2,3] [] [vv 18 0,vn 19 18,vd 20 19 7,vl 21 20,vd 22 3 2,vl 23 22,⟨none,.len (some 24) .sl (.r 23)⟩] [⟨none,.bin (some 25) .num .sub (.r 21) (.r 24)⟩,vn 26 18,vd 27 26 7,⟨none,.store 1 (.r 27) (.r 25)⟩]
abbrev f50_10:AC:=.ops [2] [2] [⟨none,.load (some 28) (.r 3) (some 4)⟩,⟨none,.store 4 (.r 2) (.r 28)⟩]
abbrev f50_9:AC:=.seq f50_10 .ret
abbrev f50_7:AC:=.seq f50_8 f50_9
abbrev f50_5:AC:=.seq f50_6 f50_7
abbrev f50_3:AC:=.seq f50_4 f50_5
abbrev f50_1:AC:=.seq f50_2 f50_3
def c_f50:AFun:=⟨29,[.cell 2 (some 4)],f50_1⟩
theorem k_f50:kX x_f50 50 c_f50:=by delta kX; kernel_rfl
theorem e_f50:eX 50:=by delta eX; kernel_rfl

def n_f51:Nat:=51
def x_f51:=xX 97 [0,1,4,5,8,9,14,15,16,21,22,29,34,35,40,41,46,53,60,65,66,71,76,81,82,88,96] [] [(2,[0,1],[]),(24,[0,1,7],[]),(100,[4,5],[]),(102,[0,1,10],[]),(412,[4,5],[]),(14,[0,1],[]),(30,[0],[]),(124,[0,47],[]),(250,[0],[]),(502,[0,6],[6]),(1006,[0,6],[6]),(1007,[0],[]),(126,[0],[]),(254,[4,5],[])]
abbrev f51_2:AC:=.ops [0,1] [] [⟨none,.mv (some 4) (.c (.lit (.int .u64 0)))⟩,⟨none,.mv (some 5) (.c (.lit (.int .i64 0)))⟩]
abbrev f51_6:AC:=.ops [0,1,7] [] [vv 8 0,⟨none,.call (some 9) false (.f 58) [(.r 8)]⟩,vo 7 9]
abbrev f51_9:AC:=.ops [4,5] [] [⟨none,.mv (some 4) (.c (.lit (.int .u64 0)))⟩,⟨none,.mv (some 5) (.c (.lit (.int .i64 1)))⟩]
abbrev f51_8:AC:=.seq f51_9 .ret
abbrev f51_11:AC:=.ops [0,1,10] [] [vv 11 0,vn 12 11,vd 13 12 3,vl 14 13,⟨none,.len (some 15) .mp (.r 14)⟩,vb 16 .geq 15 4096,vo 10 16]
abbrev f51_14:AC:=.ops [4,5] [] [⟨none,.mv (some 4) (.c (.lit (.int .u64 0)))⟩,⟨none,.mv (some 5) (.c (.lit (.int .i64 7)))⟩]
abbrev f51_13:AC:=.seq f51_14 .ret
abbrev f51_12:AC:=.cond (.r 10) f51_13 .skip
abbrev f51_10:AC:=.seq f51_11 f51_12
abbrev f51_7:AC:=.cond (.r 7) f51_8 f51_10
abbrev f51_5:AC:=.seq f51_6 f51_7
abbrev f51_4:AC:=.block 0 f51_5
abbrev f51_16:AC:=.ops [0,1] [] [vv 17 0,vn 18 17,vd 19 18 0,vd 20 19 2,vl 21 20,⟨none,.bin (some 22) .num .add (.r 21) (.c (.lit (.int .u64 1)))⟩,vn 23 17,vd 24 23 0,vd 25 24 2,⟨none,.store 1 (.r 25) (.r 22)⟩]
abbrev f51_18:AC:=.draw [0] [] [] [vv 26 0,vn 27 26,vd 28 27 3,vl 29 28,vv 30 0,vn 31 30,vd 32 31 0,vd 33 32 2,vl 34 33,vv 35 1,vv 36 0,vn 37 36,vd 38 37 0,vd 39 38 1,vl 40 39,⟨none,.bst (some 41) [(0,1),(1,1),(2,1)] (.agg [(.lit (.int .i64 0)),(.lit (.int .u64 0)),(.lit (.int .u64 0))]) [(0,(.r 35)),(1,(.r 40))]⟩] [⟨none,.upd (.int .u64) (.r 29) (.r 34) (.r 41)⟩]
abbrev f51_21:AC:=.ops [0,47] [] [vv 42 0,vn 43 42,vd 44 43 0,vd 45 44 1,vl 46 45,⟨none,.bin (some 47) .num .eql (.r 46) (.c (.lit (.int .u64 0)))⟩]
abbrev f51_23:AC:=.ops [0] [] [vv 48 0,vv 49 0,vn 50 49,vd 51 50 0,vd 52 51 2,vl 53 52,vn 54 48,vd 55 54 0,vd 56 55 0,⟨none,.store 1 (.r 56) (.r 53)⟩]
abbrev f51_25:AC:=.draw [0,6] [6] [6] [vv 57 0,vn 58 57,vd 59 58 3,vl 60 59,vv 61 0,vn 62 61,vd 63 62 0,vd 64 63 1,vl 65 64,⟨none,.lookup (some 66) (.int .u64) (.agg [(.lit (.int .i64 0)),(.lit (.int .u64 0)),(.lit (.int .u64 0))]) false (.r 60) (.r 65)⟩,⟨none,.newL 6 [(.lit (.int .i64 0)),(.lit (.int .u64 0)),(.lit (.int .u64 0))]⟩] [⟨none,.store 3 (.r 6) (.r 66)⟩]
abbrev f51_27:AC:=.ops [0,6] [6] [vv 67 0,vn 68 67,vd 69 68 0,vd 70 69 2,vl 71 70,vd 72 6 2,⟨none,.store 1 (.r 72) (.r 71)⟩]
abbrev f51_28:AC:=.draw [0] [] [] [vv 73 0,vn 74 73,vd 75 74 3,vl 76 75,vv 77 0,vn 78 77,vd 79 78 0,vd 80 79 1,vl 81 80,⟨none,.load (some 82) (.r 6) (some 3)⟩] [⟨none,.upd (.int .u64) (.r 76) (.r 81) (.r 82)⟩]
abbrev f51_26:AC:=.seq f51_27 f51_28
abbrev f51_24:AC:=.seq f51_25 f51_26
abbrev f51_22:AC:=.cond (.r 47) f51_23 f51_24
abbrev f51_20:AC:=.seq f51_21 f51_22
abbrev f51_30:AC:=.ops [0] [] [vv 83 0,vv 84 0,vn 85 84,vd 86 85 0,vd 87 86 2,vl 88 87,vn 89 83,vd 90 89 0,vd 91 90 1,⟨none,.store 1 (.r 91) (.r 88)⟩]
abbrev f51_32:AC:=.ops [4,5] [] [vv 92 0,vn 93 92,vd 94 93 0,vd 95 94 2,vl 96 95,vo 4 96,⟨none,.mv (some 5) (.c (.lit (.int .i64 0)))⟩]
abbrev f51_31:AC:=.seq f51_32 .ret
abbrev f51_29:AC:=.seq f51_30 f51_31
abbrev f51_19:AC:=.seq f51_20 f51_29
abbrev f51_17:AC:=.seq f51_18 f51_19
abbrev f51_15:AC:=.seq f51_16 f51_17
abbrev f51_3:AC:=.seq f51_4 f51_15
abbrev f51_1:AC:=.seq f51_2 f51_3
def c_f51:AFun:=⟨97,[.tmp 4,.tmp 5],f51_1⟩
theorem k_f51:kX x_f51 51 c_f51:=by delta kX; kernel_rfl
theorem e_f51:eX 51:=by delta eX; kernel_rfl

def n_f52:Nat:=52
def x_f52:=xX 31 [0,3,4,10,11,16,17,18,19,20,21,25,26,27,28,29] [] [(4,[0,1,5],[]),(6,[0,1,3],[]),(14,[0,1,3],[]),(112,[0,1,3,12],[]),(227,[],[]),(456,[0,1,3,30],[]),(115,[0,1,3],[])]
abbrev f52_3:AC:=.ops [0,1,5] [] [vl 4 1,⟨none,.bin (some 5) (.nil .ptr) .eql (.r 4) (.c (.lit (.pointer none)))⟩]
abbrev f52_4:AC:=.cond (.r 5) .ret .skip
abbrev f52_2:AC:=.seq f52_3 f52_4
abbrev f52_6:AC:=.ops [0,1,3] [] [vl 6 1,vn 7 6,vd 8 7 0,vd 9 8 0,vl 10 9,vo 3 10]
abbrev f52_11:AC:=.ops [0,1,3,12] [] [vv 11 3,⟨none,.bin (some 12) .num .neq (.r 11) (.c (.lit (.int .u64 0)))⟩]
abbrev f52_12:AC:=.cond (.r 12) .skip (.exit [] [] 0)
abbrev f52_10:AC:=.seq f52_11 f52_12
abbrev f52_16:AC:=.ops [0,1,3,30] [] [vv 20 0,vv 21 3,vl 22 1,vn 23 22,vd 24 23 3,vl 25 24,vv 26 3,⟨none,.lookup (some 27) (.int .u64) (.agg [(.lit (.int .i64 0)),(.lit (.int .u64 0)),(.lit (.int .u64 0))]) false (.r 25) (.r 26)⟩,⟨none,.field (some 28) (.r 27) 0 none⟩,⟨none,.call (some 29) false (.r 20) [(.r 21),(.r 28)]⟩,⟨none,.un (some 30) .not (.r 29)⟩]
abbrev f52_17:AC:=.cond (.r 30) .ret .skip
abbrev f52_15:AC:=.seq f52_16 f52_17
abbrev f52_14:AC:=.block 1 f52_15
abbrev f52_18:AC:=.ops [0,1,3] [] [vl 13 1,vn 14 13,vd 15 14 3,vl 16 15,vv 17 3,⟨none,.lookup (some 18) (.int .u64) (.agg [(.lit (.int .i64 0)),(.lit (.int .u64 0)),(.lit (.int .u64 0))]) false (.r 16) (.r 17)⟩,⟨none,.field (some 19) (.r 18) 2 none⟩,vo 3 19]
abbrev f52_13:AC:=.seq f52_14 f52_18
abbrev f52_9:AC:=.seq f52_10 f52_13
def f52_8:AC:=.loop [0,1,3] [] f52_9
theorem f52_8w:aC P id m f52_8 sf st Q = a9 (aC P id m f52_9) [0,1,3] [] sf st Q:=rfl
abbrev f52_7:AC:=.block 0 f52_8
abbrev f52_5:AC:=.seq f52_6 f52_7
abbrev f52_1:AC:=.seq f52_2 f52_5
def c_f52:AFun:=⟨31,[],f52_1⟩
theorem k_f52:kX x_f52 52 c_f52:=by delta kX; kernel_rfl
theorem e_f52:eX 52:=by delta eX; kernel_rfl

def n_f53:Nat:=53
def x_f53:=xX 8 [0,2,3,5,6,7] [] [(2,[0],[]),(12,[0,4],[]),(52,[2],[]),(14,[2],[])]
abbrev f53_2:AC:=.ops [0] [] [⟨none,.mv (some 2) (.c (.lit (.slice none 0 0)))⟩]
abbrev f53_5:AC:=.ops [0,4] [] [vv 3 0,⟨none,.x (some 4) (.nilU .eql (.r 3) (.c (.lit (.slice none 0 0))))⟩]
abbrev f53_8:AC:=.ops [2] [] [⟨none,.mv (some 2) (.c (.lit (.slice none 0 0)))⟩]
abbrev f53_7:AC:=.seq f53_8 .ret
abbrev f53_6:AC:=.cond (.r 4) f53_7 .skip
abbrev f53_4:AC:=.seq f53_5 f53_6
abbrev f53_10:AC:=.ops [2] [] [⟨none,.bsl (some 5) 1 0 (.lit (.int .u8 0)) []⟩,vv 6 0,⟨none,.appS 7 5 1 1 (.r 6)⟩,vo 2 7]
abbrev f53_9:AC:=.seq f53_10 .ret
abbrev f53_3:AC:=.seq f53_4 f53_9
abbrev f53_1:AC:=.seq f53_2 f53_3
def c_f53:AFun:=⟨8,[.tmp 2],f53_1⟩
theorem k_f53:kX x_f53 53 c_f53:=by delta kX; kernel_rfl
theorem e_f53:eX 53:=by delta eX; kernel_rfl

def n_f54:Nat:=54
def x_f54:=xX 22 [0,2,3,4,5,6,7,8,9,10,11,12,13,14,16,17,19,20,21] [] [(2,[0],[]),(6,[0,5,6,7],[]),(28,[0,5,6,7,15],[]),(58,[5,6,7],[]),(30,[2,3,4],[])]
abbrev f54_2:AC:=.ops [0] [] [⟨none,.mv (some 2) (.c (.lit (.int .i64 0)))⟩,⟨none,.mv (some 3) (.c (.lit (.int .u64 0)))⟩,⟨none,.mv (some 4) (.c (.lit (.int .i64 0)))⟩]
abbrev f54_4:AC:=.ops [0,5,6,7] [] [vv 9 0,⟨none,.call (some 10) false (.f 72) [(.r 9)]⟩,vv 8 10,ve 11 8 0,ve 12 8 1,ve 13 8 2,vo 5 11,vo 6 12,vo 7 13]
abbrev f54_7:AC:=.ops [0,5,6,7,15] [] [vv 14 7,vb 15 .eql 14 0]
abbrev f54_9:AC:=.ops [5,6,7] [] [vv 16 0,vv 17 6,⟨none,.call (some 18) false (.f 56) [(.r 16),(.r 17)]⟩]
abbrev f54_8:AC:=.cond (.r 15) f54_9 .skip
abbrev f54_6:AC:=.seq f54_7 f54_8
abbrev f54_11:AC:=.ops [2,3,4] [] [vv 19 5,vv 20 6,vv 21 7,vo 2 19,vo 3 20,vo 4 21]
abbrev f54_10:AC:=.seq f54_11 .ret
abbrev f54_5:AC:=.seq f54_6 f54_10
abbrev f54_3:AC:=.seq f54_4 f54_5
abbrev f54_1:AC:=.seq f54_2 f54_3
def c_f54:AFun:=⟨22,[.tmp 2,.tmp 3,.tmp 4],f54_1⟩
theorem k_f54:kX x_f54 54 c_f54:=by delta kX; kernel_rfl
theorem e_f54:eX 54:=by delta eX; kernel_rfl

def n_f55:Nat:=55
def x_f55:=xX 78 [0,1,5,6,10,15,16,22,23,27,28,29,33,35,36,37,41,42,47,48,54,56,62,63,64,65,71,73,74,75] [65] [(2,[0,3],[3]),(12,[0,3,11],[3]),(52,[],[]),(28,[0,3],[3]),(224,[0,3,43],[3]),(451,[0,3],[3]),(452,[0,3],[3]),(1812,[0,3,55],[3]),(907,[0,3],[3]),(30,[0,3],[3]),(31,[],[])]
abbrev f55_2:AC:=.ops [0,3] [3] [⟨none,.boxL 3 4 (.r 1)⟩]
abbrev f55_5:AC:=.draw [0,3,11] [3] [] [vd 4 3 2,vl 5 4,⟨none,.len (some 6) .sl (.r 5)⟩,vv 7 0,vn 8 7,vd 9 8 3,vl 10 9] [⟨none,.bin (some 11) .num .gtr (.r 6) (.r 10)⟩]
abbrev f55_8:AC:=.ops [] [] [vv 12 0,vn 13 12,vd 14 13 8,vl 15 14,vb 16 .add 15 1,vn 17 12,vd 18 17 8,⟨none,.store 1 (.r 18) (.r 16)⟩]
abbrev f55_7:AC:=.seq f55_8 .ret
abbrev f55_6:AC:=.cond (.r 11) f55_7 .skip
abbrev f55_4:AC:=.seq f55_5 f55_6
abbrev f55_14:AC:=.draw [0,3,43] [3] [] [vv 19 0,vn 20 19,vd 21 20 6,vl 22 21,⟨none,.len (some 23) .sl (.r 22)⟩,vv 24 0,vn 25 24,vd 26 25 2,vl 27 26,⟨none,.bin (some 28) .num .geq (.r 23) (.r 27)⟩,vv 29 28,⟨some (29,false),.mv (some 30) (.r 0)⟩,⟨some (29,false),.nilck (some 31) (.r 30)⟩,⟨some (29,false),.addr (some 32) (.r 31) 7⟩,⟨some (29,false),.load (some 33) (.r 32) none⟩,⟨some (29,false),.addr (some 34) (.r 3) 2⟩,⟨some (29,false),.load (some 35) (.r 34) none⟩,⟨some (29,false),.len (some 36) .sl (.r 35)⟩,⟨some (29,false),.bin (some 37) .num .add (.r 33) (.r 36)⟩,⟨some (29,false),.mv (some 38) (.r 0)⟩,⟨some (29,false),.nilck (some 39) (.r 38)⟩,⟨some (29,false),.addr (some 40) (.r 39) 3⟩,⟨some (29,false),.load (some 41) (.r 40) none⟩] [⟨some (29,false),.bin (some 42) .num .gtr (.r 37) (.r 41)⟩,⟨none,.pick (some 43) (.r 29) (.c (.lit (.bool true))) (.r 42)⟩]
abbrev f55_15:AC:=.cond (.r 43) .skip (.exit [0,3] [3] 0)
abbrev f55_13:AC:=.seq f55_14 f55_15
abbrev f55_18:AC:=.ops [0,3] [3] [vv 44 0,vn 45 44,vd 46 45 8,vl 47 46,vb 48 .add 47 1,vn 49 44,vd 50 49 8,⟨none,.store 1 (.r 50) (.r 48)⟩]
abbrev f55_21:AC:=.ops [0,3,55] [3] [vv 51 0,vn 52 51,vd 53 52 4,vl 54 53,vb 55 .eql 54 2]
abbrev f55_22:AC:=.cond (.r 55) .ret .skip
abbrev f55_20:AC:=.seq f55_21 f55_22
abbrev f55_23:AC:=.ops [0,3] [3] [vv 56 0,⟨none,.call (some 57) false (.f 50) [(.r 56)]⟩]
abbrev f55_19:AC:=.seq f55_20 f55_23
abbrev f55_17:AC:=.seq f55_18 f55_19
def f55_16:AC:=.block 1 f55_17
theorem f55_16e:BL f55_16 f55_17 1:=rfl
abbrev f55_12:AC:=.seq f55_13 f55_16
def f55_11:AC:=.loop [0,3] [3] f55_12
theorem f55_11w:aC P id m f55_11 sf st Q = a9 (aC P id m f55_12) [0,3] [3] sf st Q:=rfl
abbrev f55_10:AC:=.block 0 f55_11
def f55_25h:List GI:=[vv 58 0,
    vv 59 0,
    vn 60 59,
    vd 61 60 6,
    vl 62 61,
    ⟨none,.load (some 63) (.r 3) (some 4)⟩,
    ⟨none,.bsl (some 64) 4 1 (.agg [(.lit (.string ⟨#[]⟩)),(.lit (.int .i64 0)),(.lit (.slice none 0 0)),(.lit (.int .u64 0))]) [(0,(.r 63))]⟩]
def f55_25p:List (Bool×GI):=[]
def f55_25l:List GI:=[vn 66 58,
    vd 67 66 6,
    ⟨none,.store 1 (.r 67) (.r 65)⟩]
def f55_25:AC:=.drawA [0,3] [3] f55_25h (some 65) (.r 62) 4 56 (.r 64) f55_25p f55_25l
theorem f55_25e:aC P id m f55_25 sf st Q = (m = false∧drawA P id f55_25h (some 65) (.r 62) 4 56 (.r 64) f55_25p sf st (j9 P id m [0,3] [3] f55_25l Q)):=rfl
abbrev f55_26:AC:=.draw [] [] [] [vv 68 0,vn 69 68,vd 70 69 7,vl 71 70,vd 72 3 2,vl 73 72,⟨none,.len (some 74) .sl (.r 73)⟩] [⟨none,.bin (some 75) .num .add (.r 71) (.r 74)⟩,vn 76 68,vd 77 76 7,⟨none,.store 1 (.r 77) (.r 75)⟩]
def f55_24:AC:=.seq f55_25 f55_26
theorem f55_24e:SQ f55_24 f55_25 f55_26:=rfl
abbrev f55_9:AC:=.seq f55_10 f55_24
abbrev f55_3:AC:=.seq f55_4 f55_9
abbrev f55_1:AC:=.seq f55_2 f55_3
def c_f55:AFun:=⟨78,[],f55_1⟩
theorem k_f55:kX x_f55 55 c_f55:=by delta kX; kernel_rfl
theorem e_f55:eX 55:=by delta eX; kernel_rfl

def n_f56:Nat:=56
def x_f56:=xX 82 [0,1,4,5,7,10,12,16,17,18,19,20,21,26,27,29,33,40,42,43,45,50,52,53,55,59,66,68,69,71,76,78,79,81] [] [(2,[0,1],[]),(12,[0,1,11],[]),(52,[4,5],[]),(14,[0,1,6,7],[6]),(60,[0,1,6,22],[6]),(244,[4,5],[]),(62,[0,6],[6]),(252,[0,6,30],[6]),(506,[0,6],[6]),(1014,[0,6,8],[6,8]),(2030,[0,6,8],[6,8]),(2031,[0,6],[6]),(508,[0,6,56],[6]),(1018,[6],[6]),(2038,[0,6,9],[6,9]),(4078,[0,6,9],[6,9]),(4079,[6],[6]),(510,[4,5],[])]
abbrev f56_2:AC:=.ops [0,1] [] [⟨none,.mv (some 4) (.c (.lit (.int .i64 0)))⟩,⟨none,.mv (some 5) (.c (.lit (.int .i64 0)))⟩]
abbrev f56_5:AC:=.ops [0,1,11] [] [vv 10 0,⟨none,.call (some 11) false (.f 58) [(.r 10)]⟩]
abbrev f56_8:AC:=.ops [4,5] [] [⟨none,.mv (some 4) (.c (.lit (.int .i64 0)))⟩,⟨none,.mv (some 5) (.c (.lit (.int .i64 1)))⟩]
abbrev f56_7:AC:=.seq f56_8 .ret
abbrev f56_6:AC:=.cond (.r 11) f56_7 .skip
abbrev f56_4:AC:=.seq f56_5 f56_6
abbrev f56_10:AC:=.ops [0,1,6,7] [6] [vv 13 0,vn 14 13,vd 15 14 3,vl 16 15,vv 17 1,⟨none,.lookup (some 18) (.int .u64) (.agg [(.lit (.int .i64 0)),(.lit (.int .u64 0)),(.lit (.int .u64 0))]) true (.r 16) (.r 17)⟩,vv 12 18,ve 19 12 0,ve 20 12 1,⟨none,.newL 6 [(.lit (.int .i64 0)),(.lit (.int .u64 0)),(.lit (.int .u64 0))]⟩,⟨none,.store 3 (.r 6) (.r 19)⟩,vo 7 20]
abbrev f56_13:AC:=.ops [0,1,6,22] [6] [vv 21 7,⟨none,.un (some 22) .not (.r 21)⟩]
abbrev f56_16:AC:=.ops [4,5] [] [⟨none,.mv (some 4) (.c (.lit (.int .i64 0)))⟩,⟨none,.mv (some 5) (.c (.lit (.int .i64 9)))⟩]
abbrev f56_15:AC:=.seq f56_16 .ret
abbrev f56_14:AC:=.cond (.r 22) f56_15 .skip
abbrev f56_12:AC:=.seq f56_13 f56_14
abbrev f56_18:AC:=.ops [0,6] [6] [vv 23 0,vn 24 23,vd 25 24 3,vl 26 25,vv 27 1,⟨none,.del (.int .u64) (.r 26) (.r 27)⟩]
abbrev f56_21:AC:=.ops [0,6,30] [6] [vd 28 6 1,vl 29 28,⟨none,.bin (some 30) .num .eql (.r 29) (.c (.lit (.int .u64 0)))⟩]
abbrev f56_23:AC:=.ops [0,6] [6] [vv 31 0,vd 32 6 2,vl 33 32,vn 34 31,vd 35 34 0,vd 36 35 0,⟨none,.store 1 (.r 36) (.r 33)⟩]
abbrev f56_25:AC:=.draw [0,6,8] [6,8] [8] [vv 37 0,vn 38 37,vd 39 38 3,vl 40 39,vd 41 6 1,vl 42 41,⟨none,.lookup (some 43) (.int .u64) (.agg [(.lit (.int .i64 0)),(.lit (.int .u64 0)),(.lit (.int .u64 0))]) false (.r 40) (.r 42)⟩,⟨none,.newL 8 [(.lit (.int .i64 0)),(.lit (.int .u64 0)),(.lit (.int .u64 0))]⟩] [⟨none,.store 3 (.r 8) (.r 43)⟩]
abbrev f56_27:AC:=.ops [0,6,8] [6,8] [vd 44 6 2,vl 45 44,vd 46 8 2,⟨none,.store 1 (.r 46) (.r 45)⟩]
abbrev f56_28:AC:=.draw [0,6] [6] [] [vv 47 0,vn 48 47,vd 49 48 3,vl 50 49,vd 51 6 1,vl 52 51,⟨none,.load (some 53) (.r 8) (some 3)⟩] [⟨none,.upd (.int .u64) (.r 50) (.r 52) (.r 53)⟩]
abbrev f56_26:AC:=.seq f56_27 f56_28
abbrev f56_24:AC:=.seq f56_25 f56_26
abbrev f56_22:AC:=.cond (.r 30) f56_23 f56_24
abbrev f56_20:AC:=.seq f56_21 f56_22
abbrev f56_31:AC:=.ops [0,6,56] [6] [vd 54 6 2,vl 55 54,⟨none,.bin (some 56) .num .eql (.r 55) (.c (.lit (.int .u64 0)))⟩]
abbrev f56_33:AC:=.ops [6] [6] [vv 57 0,vd 58 6 1,vl 59 58,vn 60 57,vd 61 60 0,vd 62 61 1,⟨none,.store 1 (.r 62) (.r 59)⟩]
abbrev f56_35:AC:=.draw [0,6,9] [6,9] [9] [vv 63 0,vn 64 63,vd 65 64 3,vl 66 65,vd 67 6 2,vl 68 67,⟨none,.lookup (some 69) (.int .u64) (.agg [(.lit (.int .i64 0)),(.lit (.int .u64 0)),(.lit (.int .u64 0))]) false (.r 66) (.r 68)⟩,⟨none,.newL 9 [(.lit (.int .i64 0)),(.lit (.int .u64 0)),(.lit (.int .u64 0))]⟩] [⟨none,.store 3 (.r 9) (.r 69)⟩]
abbrev f56_37:AC:=.ops [0,6,9] [6,9] [vd 70 6 1,vl 71 70,vd 72 9 1,⟨none,.store 1 (.r 72) (.r 71)⟩]
abbrev f56_38:AC:=.draw [6] [6] [] [vv 73 0,vn 74 73,vd 75 74 3,vl 76 75,vd 77 6 2,vl 78 77,⟨none,.load (some 79) (.r 9) (some 3)⟩] [⟨none,.upd (.int .u64) (.r 76) (.r 78) (.r 79)⟩]
abbrev f56_36:AC:=.seq f56_37 f56_38
abbrev f56_34:AC:=.seq f56_35 f56_36
abbrev f56_32:AC:=.cond (.r 56) f56_33 f56_34
abbrev f56_30:AC:=.seq f56_31 f56_32
abbrev f56_40:AC:=.ops [4,5] [] [vd 80 6 0,vl 81 80,vo 4 81,⟨none,.mv (some 5) (.c (.lit (.int .i64 0)))⟩]
abbrev f56_39:AC:=.seq f56_40 .ret
abbrev f56_29:AC:=.seq f56_30 f56_39
abbrev f56_19:AC:=.seq f56_20 f56_29
abbrev f56_17:AC:=.seq f56_18 f56_19
abbrev f56_11:AC:=.seq f56_12 f56_17
abbrev f56_9:AC:=.seq f56_10 f56_11
abbrev f56_3:AC:=.seq f56_4 f56_9
abbrev f56_1:AC:=.seq f56_2 f56_3
def c_f56:AFun:=⟨82,[.tmp 4,.tmp 5],f56_1⟩
theorem k_f56:kX x_f56 56 c_f56:=by delta kX; kernel_rfl
theorem e_f56:eX 56:=by delta eX; kernel_rfl

def n_f57:Nat:=57
def x_f57:=xX 15 [0,1,4,6,7,8,10,11,12,13,14] [] [(2,[0,1],[]),(24,[0,1,5],[]),(100,[4],[]),(102,[0,1,9],[]),(412,[4],[]),(14,[4],[])]
abbrev f57_2:AC:=.ops [0,1] [] [⟨none,.mv (some 4) (.c (.lit (.int .u64 0)))⟩]
abbrev f57_6:AC:=.ops [0,1,5] [] [vv 6 0,vv 7 1,⟨none,.bin (some 8) .num .leq (.r 6) (.r 7)⟩,vo 5 8]
abbrev f57_9:AC:=.ops [4] [] [⟨none,.mv (some 4) (.c (.lit (.int .u64 0)))⟩]
abbrev f57_8:AC:=.seq f57_9 .ret
abbrev f57_11:AC:=.ops [0,1,9] [] [vv 10 0,⟨none,.bin (some 11) .num .eql (.r 10) (.c (.lit (.int .u64 18446744073709551615)))⟩,vo 9 11]
abbrev f57_14:AC:=.ops [4] [] [⟨none,.mv (some 4) (.c (.lit (.int .u64 18446744073709551615)))⟩]
abbrev f57_13:AC:=.seq f57_14 .ret
abbrev f57_12:AC:=.cond (.r 9) f57_13 .skip
abbrev f57_10:AC:=.seq f57_11 f57_12
abbrev f57_7:AC:=.cond (.r 5) f57_8 f57_10
abbrev f57_5:AC:=.seq f57_6 f57_7
abbrev f57_4:AC:=.block 0 f57_5
abbrev f57_16:AC:=.ops [4] [] [vv 12 0,vv 13 1,⟨none,.bin (some 14) .num .sub (.r 12) (.r 13)⟩,vo 4 14]
abbrev f57_15:AC:=.seq f57_16 .ret
abbrev f57_3:AC:=.seq f57_4 f57_15
abbrev f57_1:AC:=.seq f57_2 f57_3
def c_f57:AFun:=⟨15,[.tmp 4],f57_1⟩
theorem k_f57:kX x_f57 57 c_f57:=by delta kX; kernel_rfl
theorem e_f57:eX 57:=by delta eX; kernel_rfl

def n_f58:Nat:=58
def x_f58:=xX 12 [0,2,3,4,5,9,10,11] [] [(2,[0],[]),(6,[2],[])]
abbrev f58_2:AC:=.ops [0] [] [⟨none,.mv (some 2) (.c (.lit (.bool false)))⟩]
abbrev f58_4:AC:=.ops [2] [] [vv 3 0,⟨none,.bin (some 4) (.nil .ptr) .eql (.r 3) (.c (.lit (.pointer none)))⟩,vv 5 4,⟨some (5,false),.mv (some 6) (.r 0)⟩,⟨some (5,false),.nilck (some 7) (.r 6)⟩,⟨some (5,false),.addr (some 8) (.r 7) 3⟩,⟨some (5,false),.load (some 9) (.r 8) none⟩,⟨some (5,false),.bin (some 10) (.nil .mp) .eql (.r 9) (.c (.lit (.map none)))⟩,⟨none,.pick (some 11) (.r 5) (.c (.lit (.bool true))) (.r 10)⟩,vo 2 11]
abbrev f58_3:AC:=.seq f58_4 .ret
abbrev f58_1:AC:=.seq f58_2 f58_3
def c_f58:AFun:=⟨12,[.tmp 2],f58_1⟩
theorem k_f58:kX x_f58 58 c_f58:=by delta kX; kernel_rfl
theorem e_f58:eX 58:=by delta eX; kernel_rfl

def n_f66:Nat:=66
def x_f66:=xX 9 [0,2,3,5,6,7,8] [] [(2,[0],[]),(12,[0,4],[]),(52,[2],[]),(14,[2],[])]
abbrev f66_2:AC:=.ops [0] [] [⟨none,.mv (some 2) (.c (.lit (.map none)))⟩]
abbrev f66_5:AC:=.ops [0,4] [] [vv 3 0,⟨none,.bin (some 4) (.nil .mp) .eql (.r 3) (.c (.lit (.map none)))⟩]
abbrev f66_8:AC:=.ops [2] [] [⟨none,.mv (some 2) (.c (.lit (.map none)))⟩]
abbrev f66_7:AC:=.seq f66_8 .ret
abbrev f66_6:AC:=.cond (.r 4) f66_7 .skip
abbrev f66_4:AC:=.seq f66_5 f66_6
abbrev f66_10:AC:=.ops [2] [] [vv 5 0,⟨none,.mkif (some 6) 106 (.r 5)⟩,⟨none,.x (some 7) (.mclone (.r 6))⟩,⟨none,.tas (some 8) 106 (.r 7)⟩,vo 2 8]
abbrev f66_9:AC:=.seq f66_10 .ret
abbrev f66_3:AC:=.seq f66_4 f66_9
abbrev f66_1:AC:=.seq f66_2 f66_3
def c_f66:AFun:=⟨9,[.tmp 2],f66_1⟩
theorem k_f66:kX x_f66 66 c_f66:=by delta kX; kernel_rfl
theorem e_f66:eX 66:=by delta eX; kernel_rfl

def n_f67:Nat:=67
def x_f67:=xX 57 [0,2,3,4,5,6,7,8,10,11,12,13,14,15,16,17,18,19,20,21,22,23,24,25,26,27,28,29,30,31,32,33,34,35,36,37,38,39,40,41,42,43,44,45,46,47,49,50,51,52,53,54,55,56] [] [(2,[0],[]),(12,[0,7],[]),(26,[0,7],[]),(104,[0,7,8,9],[]),(421,[0],[]),(844,[0,3,4,7],[]),(1690,[0,3,4,5,7],[]),(3382,[0,7,48],[]),(13532,[2],[]),(14,[2],[])]
abbrev f67_2:AC:=.ops [0] [] [⟨none,.mv (some 2) (.c (.lit (.bool false)))⟩]
abbrev f67_5:AC:=.ops [0,7] [] [vv 6 0,⟨none,.x (some 7) (.rngS (.r 6))⟩]
abbrev f67_9:AC:=.ops [0,7,8,9] [] [⟨none,.x (some 8) (.nxtS 7)⟩,ve 9 8 0]
abbrev f67_11:AC:=.cond (.r 9) .skip (.exit [0] [] 0)
abbrev f67_14:AC:=.ops [0,3,4,7] [] [ve 10 8 1,ve 11 8 2,vo 3 10,vo 4 11]
abbrev f67_16:AC:=.ops [0,3,4,5,7] [] [vv 12 4,⟨none,.bin (some 13) .num .geq (.r 12) (.c (.lit (.int .i32 65)))⟩,vv 14 13,⟨some (14,true),.mv (some 15) (.r 4)⟩,⟨some (14,true),.bin (some 16) .num .leq (.r 15) (.c (.lit (.int .i32 90)))⟩,⟨none,.pick (some 17) (.r 14) (.r 16) (.c (.lit (.bool false)))⟩,vv 18 17,⟨some (18,false),.mv (some 19) (.r 4)⟩,⟨some (18,false),.bin (some 20) .num .geq (.r 19) (.c (.lit (.int .i32 97)))⟩,⟨some (18,false),.mv (some 21) (.r 20)⟩,⟨some (21,true),.mv (some 22) (.r 4)⟩,⟨some (21,true),.bin (some 23) .num .leq (.r 22) (.c (.lit (.int .i32 122)))⟩,⟨some (18,false),.pick (some 24) (.r 21) (.r 23) (.c (.lit (.bool false)))⟩,⟨none,.pick (some 25) (.r 18) (.c (.lit (.bool true))) (.r 24)⟩,vo 5 25]
abbrev f67_18:AC:=.ops [0,7,48] [] [vv 26 5,⟨none,.un (some 27) .not (.r 26)⟩,vv 28 27,⟨some (28,true),.mv (some 29) (.r 3)⟩,⟨some (28,true),.bin (some 30) .num .eql (.r 29) (.c (.lit (.int .i64 0)))⟩,⟨some (28,true),.mv (some 31) (.r 30)⟩,⟨some (31,false),.mv (some 32) (.r 4)⟩,⟨some (31,false),.bin (some 33) .num .geq (.r 32) (.c (.lit (.int .i32 48)))⟩,⟨some (31,false),.mv (some 34) (.r 33)⟩,⟨some (34,true),.mv (some 35) (.r 4)⟩,⟨some (34,true),.bin (some 36) .num .leq (.r 35) (.c (.lit (.int .i32 57)))⟩,⟨some (31,false),.pick (some 37) (.r 34) (.r 36) (.c (.lit (.bool false)))⟩,⟨some (31,false),.un (some 38) .not (.r 37)⟩,⟨some (31,false),.mv (some 39) (.r 38)⟩,⟨some (39,true),.mv (some 40) (.r 4)⟩,⟨some (39,true),.bin (some 41) .num .neq (.r 40) (.c (.lit (.int .i32 45)))⟩,⟨some (31,false),.pick (some 42) (.r 39) (.r 41) (.c (.lit (.bool false)))⟩,⟨some (31,false),.mv (some 43) (.r 42)⟩,⟨some (43,true),.mv (some 44) (.r 4)⟩,⟨some (43,true),.bin (some 45) .num .neq (.r 44) (.c (.lit (.int .i32 95)))⟩,⟨some (31,false),.pick (some 46) (.r 43) (.r 45) (.c (.lit (.bool false)))⟩,⟨some (28,true),.pick (some 47) (.r 31) (.c (.lit (.bool true))) (.r 46)⟩,⟨none,.pick (some 48) (.r 28) (.r 47) (.c (.lit (.bool false)))⟩]
abbrev f67_21:AC:=.ops [2] [] [⟨none,.mv (some 2) (.c (.lit (.bool false)))⟩]
abbrev f67_20:AC:=.seq f67_21 .ret
abbrev f67_19:AC:=.cond (.r 48) f67_20 .skip
abbrev f67_17:AC:=.seq f67_18 f67_19
abbrev f67_15:AC:=.seq f67_16 f67_17
abbrev f67_13:AC:=.seq f67_14 f67_15
abbrev f67_12:AC:=.block 1 f67_13
abbrev f67_10:AC:=.seq f67_11 f67_12
abbrev f67_8:AC:=.seq f67_9 f67_10
def f67_7:AC:=.loop [0,7] [] f67_8
theorem f67_7w:aC P id m f67_7 sf st Q = a9 (aC P id m f67_8) [0,7] [] sf st Q:=rfl
abbrev f67_6:AC:=.block 0 f67_7
abbrev f67_4:AC:=.seq f67_5 f67_6
abbrev f67_23:AC:=.ops [2] [] [vv 49 0,⟨none,.len (some 50) .str (.r 49)⟩,vb 51 .geq 50 1,vv 52 51,⟨some (52,true),.mv (some 53) (.r 0)⟩,⟨some (52,true),.len (some 54) .str (.r 53)⟩,⟨some (52,true),.bin (some 55) .num .leq (.r 54) (.c (.lit (.int .i64 32)))⟩,⟨none,.pick (some 56) (.r 52) (.r 55) (.c (.lit (.bool false)))⟩,vo 2 56]
abbrev f67_22:AC:=.seq f67_23 .ret
abbrev f67_3:AC:=.seq f67_4 f67_22
abbrev f67_1:AC:=.seq f67_2 f67_3
def c_f67:AFun:=⟨57,[.tmp 2],f67_1⟩
theorem k_f67:kX x_f67 67 c_f67:=by delta kX; kernel_rfl
theorem e_f67:eX 67:=by delta eX; kernel_rfl

def n_f68:Nat:=68
def x_f68:=xX 18 [0,2,3,5,6,7,8,11,12,13,15,16,17] [] [(2,[0],[]),(6,[0,3],[]),(28,[3,6,7,8],[]),(58,[3,6,7,8],[]),(232,[3,6,7,8,9],[]),(933,[3],[]),(3736,[3,5,6,7,8],[]),(7474,[3,5,6,7,8,14],[]),(29900,[2],[]),(935,[3,6,7,8],[]),(30,[2],[])]
abbrev f68_2:AC:=.ops [0] [] [⟨none,.mv (some 2) (.c (.lit (.int .i64 0)))⟩]
abbrev f68_4:AC:=.ops [0,3] [] [⟨none,.mv (some 3) (.c (.lit (.int .i64 0)))⟩]
abbrev f68_7:AC:=.ops [3,6,7,8] [] [vv 6 0,⟨none,.len (some 7) .sl (.r 6)⟩,⟨none,.mv (some 8) (.c (.lit (.int .i64 0)))⟩]
abbrev f68_11:AC:=.ops [3,6,7,8,9] [] [⟨none,.bin (some 9) .num .lss (.r 8) (.r 7)⟩]
abbrev f68_13:AC:=.cond (.r 9) .skip (.exit [3] [] 0)
abbrev f68_17:AC:=.ops [3,5,6,7,8] [] [⟨none,.ixS (some 10) (.r 6) (.r 8) 1⟩,vl 11 10,vo 5 11]
abbrev f68_19:AC:=.ops [3,5,6,7,8,14] [] [vv 12 5,vv 13 3,⟨none,.bin (some 14) .num .neq (.r 12) (.r 13)⟩]
abbrev f68_22:AC:=.ops [2] [] [vv 15 5,vo 2 15]
abbrev f68_21:AC:=.seq f68_22 .ret
abbrev f68_20:AC:=.cond (.r 14) f68_21 .skip
abbrev f68_18:AC:=.seq f68_19 f68_20
abbrev f68_16:AC:=.seq f68_17 f68_18
abbrev f68_15:AC:=.block 1 f68_16
abbrev f68_23:AC:=.ops [3,6,7,8] [] [vb 16 .add 8 1,vv 8 16]
abbrev f68_14:AC:=.seq f68_15 f68_23
abbrev f68_12:AC:=.seq f68_13 f68_14
abbrev f68_10:AC:=.seq f68_11 f68_12
def f68_9:AC:=.loop [3,6,7,8] [] f68_10
theorem f68_9w:aC P id m f68_9 sf st Q = a9 (aC P id m f68_10) [3,6,7,8] [] sf st Q:=rfl
abbrev f68_8:AC:=.block 0 f68_9
abbrev f68_6:AC:=.seq f68_7 f68_8
abbrev f68_25:AC:=.ops [2] [] [vv 17 3,vo 2 17]
abbrev f68_24:AC:=.seq f68_25 .ret
abbrev f68_5:AC:=.seq f68_6 f68_24
abbrev f68_3:AC:=.seq f68_4 f68_5
abbrev f68_1:AC:=.seq f68_2 f68_3
def c_f68:AFun:=⟨18,[.tmp 2],f68_1⟩
theorem k_f68:kX x_f68 68 c_f68:=by delta kX; kernel_rfl
theorem e_f68:eX 68:=by delta eX; kernel_rfl

def n_f69:Nat:=69
def x_f69:=xX 8 [0,1,4,5,6,7] [] [(2,[0,1],[]),(6,[4],[])]
abbrev f69_2:AC:=.ops [0,1] [] [⟨none,.mv (some 4) (.c (.lit (.int .i64 0)))⟩]
abbrev f69_4:AC:=.ops [4] [] [vv 5 0,vv 6 1,⟨none,.call (some 7) false (.f 83) [(.r 5),(.r 6)]⟩,vo 4 7]
abbrev f69_3:AC:=.seq f69_4 .ret
abbrev f69_1:AC:=.seq f69_2 f69_3
def c_f69:AFun:=⟨8,[.tmp 4],f69_1⟩
theorem k_f69:kX x_f69 69 c_f69:=by delta kX; kernel_rfl
theorem e_f69:eX 69:=by delta eX; kernel_rfl

def n_f70:Nat:=70
def x_f70:=xX 20 [0,1,4,7,8,9,10,14,15,17,18] [] [(2,[0,1],[]),(6,[0,1,5],[]),(14,[0,1,5,6],[]),(60,[0,1,6,11],[]),(488,[12],[]),(1956,[4],[]),(490,[4],[]),(124,[0,1,13],[]),(500,[4],[]),(252,[0,1,16],[]),(1012,[4],[]),(508,[19],[]),(2036,[4],[]),(510,[4],[])]
abbrev f70_2:AC:=.ops [0,1] [] [⟨none,.mv (some 4) (.c (.lit (.int .i64 0)))⟩]
abbrev f70_4:AC:=.ops [0,1,5] [] [vv 7 0,⟨none,.call (some 8) false (.f 84) [(.r 7)]⟩,vo 5 8]
abbrev f70_6:AC:=.ops [0,1,5,6] [] [vv 9 1,⟨none,.call (some 10) false (.f 84) [(.r 9)]⟩,vo 6 10]
abbrev f70_9:AC:=.ops [0,1,6,11] [] [vv 11 5]
abbrev f70_13:AC:=.ops [12] [] [vv 12 6]
abbrev f70_16:AC:=.ops [4] [] [⟨none,.mv (some 4) (.c (.lit (.int .i64 0)))⟩]
abbrev f70_15:AC:=.seq f70_16 .ret
abbrev f70_14:AC:=.cond (.r 12) f70_15 .skip
abbrev f70_12:AC:=.seq f70_13 f70_14
abbrev f70_18:AC:=.ops [4] [] [⟨none,.mv (some 4) (.c (.lit (.int .i64 (-1))))⟩]
abbrev f70_17:AC:=.seq f70_18 .ret
abbrev f70_11:AC:=.seq f70_12 f70_17
abbrev f70_10:AC:=.cond (.r 11) f70_11 .skip
abbrev f70_8:AC:=.seq f70_9 f70_10
abbrev f70_21:AC:=.ops [0,1,13] [] [vv 13 6]
abbrev f70_24:AC:=.ops [4] [] [⟨none,.mv (some 4) (.c (.lit (.int .i64 1)))⟩]
abbrev f70_23:AC:=.seq f70_24 .ret
abbrev f70_22:AC:=.cond (.r 13) f70_23 .skip
abbrev f70_20:AC:=.seq f70_21 f70_22
abbrev f70_27:AC:=.ops [0,1,16] [] [vv 14 0,vv 15 1,⟨none,.bin (some 16) .num .lss (.r 14) (.r 15)⟩]
abbrev f70_30:AC:=.ops [4] [] [⟨none,.mv (some 4) (.c (.lit (.int .i64 (-1))))⟩]
abbrev f70_29:AC:=.seq f70_30 .ret
abbrev f70_28:AC:=.cond (.r 16) f70_29 .skip
abbrev f70_26:AC:=.seq f70_27 f70_28
abbrev f70_33:AC:=.ops [19] [] [vv 17 0,vv 18 1,⟨none,.bin (some 19) .num .gtr (.r 17) (.r 18)⟩]
abbrev f70_36:AC:=.ops [4] [] [⟨none,.mv (some 4) (.c (.lit (.int .i64 1)))⟩]
abbrev f70_35:AC:=.seq f70_36 .ret
abbrev f70_34:AC:=.cond (.r 19) f70_35 .skip
abbrev f70_32:AC:=.seq f70_33 f70_34
abbrev f70_38:AC:=.ops [4] [] [⟨none,.mv (some 4) (.c (.lit (.int .i64 0)))⟩]
abbrev f70_37:AC:=.seq f70_38 .ret
abbrev f70_31:AC:=.seq f70_32 f70_37
abbrev f70_25:AC:=.seq f70_26 f70_31
abbrev f70_19:AC:=.seq f70_20 f70_25
abbrev f70_7:AC:=.seq f70_8 f70_19
abbrev f70_5:AC:=.seq f70_6 f70_7
abbrev f70_3:AC:=.seq f70_4 f70_5
abbrev f70_1:AC:=.seq f70_2 f70_3
def c_f70:AFun:=⟨20,[.tmp 4],f70_1⟩
theorem k_f70:kX x_f70 70 c_f70:=by delta kX; kernel_rfl
theorem e_f70:eX 70:=by delta eX; kernel_rfl

def n_f71:Nat:=71
def x_f71:=xX 33 [0,1,2,6,7,8,9,10,11,12,14,15,17,18,19,20,21,22,23,24,25,26,27,28,29,30,31,32] [0,20,22,26,27,31] [(2,[0,1,2],[]),(6,[0,1,2],[]),(28,[0,1,2,16],[]),(116,[6],[]),(30,[0,1,2,7],[]),(62,[0,7],[]),(126,[0],[]),(254,[6],[])]
abbrev f71_2:AC:=.ops [0,1,2] [] [⟨none,.mv (some 6) (.c (.lit (.slice none 0 0)))⟩]
abbrev f71_4:AC:=.ops [0,1,2] [] [vv 8 0,vv 9 1,vv 10 2,vv 11 0,⟨none,.len (some 12) .sl (.r 11)⟩,⟨none,.sli3 (some 13) (.r 8) (some (.r 9)) (some (.r 10)) (.r 12) 4⟩]
abbrev f71_7:AC:=.ops [0,1,2,16] [] [vv 14 1,vv 15 2,⟨none,.bin (some 16) .num .eql (.r 14) (.r 15)⟩]
abbrev f71_10:AC:=.ops [6] [] [vv 17 0,vo 6 17]
abbrev f71_9:AC:=.seq f71_10 .ret
abbrev f71_8:AC:=.cond (.r 16) f71_9 .skip
abbrev f71_6:AC:=.seq f71_7 f71_8
abbrev f71_12:AC:=.ops [0,1,2,7] [] [vv 18 0,⟨none,.len (some 19) .sl (.r 18)⟩,vo 7 19]
abbrev f71_14:AC:=.draw [0,7] [] [] [vv 20 0,vv 21 1,⟨none,.sliS (some 22) (.r 20) none (some (.r 21)) 4⟩,vv 23 0,vv 24 2,⟨none,.sliS (some 25) (.r 23) (some (.r 24)) none 4⟩] [⟨none,.x (some 26) (.appB (.r 22) 4 56 (.r 25))⟩,vo 0 26]
abbrev f71_16:AC:=.ops [0] [] [vv 27 0,vv 28 0,⟨none,.len (some 29) .sl (.r 28)⟩,vv 30 7,⟨none,.sliS (some 31) (.r 27) (some (.r 29)) (some (.r 30)) 4⟩,⟨none,.x none (.clrB 4 (.agg [(.lit (.string ⟨#[]⟩)),(.lit (.int .i64 0)),(.lit (.slice none 0 0)),(.lit (.int .u64 0))]) (.r 31))⟩]
abbrev f71_18:AC:=.ops [6] [] [vv 32 0,vo 6 32]
abbrev f71_17:AC:=.seq f71_18 .ret
abbrev f71_15:AC:=.seq f71_16 f71_17
abbrev f71_13:AC:=.seq f71_14 f71_15
abbrev f71_11:AC:=.seq f71_12 f71_13
abbrev f71_5:AC:=.seq f71_6 f71_11
abbrev f71_3:AC:=.seq f71_4 f71_5
abbrev f71_1:AC:=.seq f71_2 f71_3
def c_f71:AFun:=⟨33,[.tmp 6],f71_1⟩
theorem k_f71:kX x_f71 71 c_f71:=by delta kX; kernel_rfl
theorem e_f71:eX 71:=by delta eX; kernel_rfl

def n_f72:Nat:=72
def x_f72:=xX 31 [0,2,3,4,6,7,13,14,18,23,24,25,30] [] [(2,[0],[]),(24,[0,5],[]),(100,[2,3,4],[]),(102,[0,8],[]),(412,[2,3,4],[]),(14,[2,3,4],[])]
abbrev f72_2:AC:=.ops [0] [] [⟨none,.mv (some 2) (.c (.lit (.int .i64 0)))⟩,⟨none,.mv (some 3) (.c (.lit (.int .u64 0)))⟩,⟨none,.mv (some 4) (.c (.lit (.int .i64 0)))⟩]
abbrev f72_6:AC:=.ops [0,5] [] [vv 6 0,⟨none,.call (some 7) false (.f 58) [(.r 6)]⟩,vo 5 7]
abbrev f72_9:AC:=.ops [2,3,4] [] [⟨none,.mv (some 2) (.c (.lit (.int .i64 0)))⟩,⟨none,.mv (some 3) (.c (.lit (.int .u64 0)))⟩,⟨none,.mv (some 4) (.c (.lit (.int .i64 1)))⟩]
abbrev f72_8:AC:=.seq f72_9 .ret
abbrev f72_11:AC:=.ops [0,8] [] [vv 9 0,vn 10 9,vd 11 10 0,vd 12 11 0,vl 13 12,⟨none,.bin (some 14) .num .eql (.r 13) (.c (.lit (.int .u64 0)))⟩,vo 8 14]
abbrev f72_14:AC:=.ops [2,3,4] [] [⟨none,.mv (some 2) (.c (.lit (.int .i64 0)))⟩,⟨none,.mv (some 3) (.c (.lit (.int .u64 0)))⟩,⟨none,.mv (some 4) (.c (.lit (.int .i64 9)))⟩]
abbrev f72_13:AC:=.seq f72_14 .ret
abbrev f72_12:AC:=.cond (.r 8) f72_13 .skip
abbrev f72_10:AC:=.seq f72_11 f72_12
abbrev f72_7:AC:=.cond (.r 5) f72_8 f72_10
abbrev f72_5:AC:=.seq f72_6 f72_7
abbrev f72_4:AC:=.block 0 f72_5
abbrev f72_16:AC:=.draw [2,3,4] [] [] [vv 15 0,vn 16 15,vd 17 16 3,vl 18 17,vv 19 0,vn 20 19,vd 21 20 0,vd 22 21 0,vl 23 22,⟨none,.lookup (some 24) (.int .u64) (.agg [(.lit (.int .i64 0)),(.lit (.int .u64 0)),(.lit (.int .u64 0))]) false (.r 18) (.r 23)⟩,⟨none,.field (some 25) (.r 24) 0 none⟩,vv 26 0,vn 27 26,vd 28 27 0,vd 29 28 0,vl 30 29,vv 2 25] [vo 3 30,⟨none,.mv (some 4) (.c (.lit (.int .i64 0)))⟩]
abbrev f72_15:AC:=.seq f72_16 .ret
abbrev f72_3:AC:=.seq f72_4 f72_15
abbrev f72_1:AC:=.seq f72_2 f72_3
def c_f72:AFun:=⟨31,[.tmp 2,.tmp 3,.tmp 4],f72_1⟩
theorem k_f72:kX x_f72 72 c_f72:=by delta kX; kernel_rfl
theorem e_f72:eX 72:=by delta eX; kernel_rfl

def n_f83:Nat:=83
def x_f83:=xX 8 [0,1,4,5,6,7] [] [(2,[0,1],[]),(6,[4],[])]
abbrev f83_2:AC:=.ops [0,1] [] [⟨none,.mv (some 4) (.c (.lit (.int .i64 0)))⟩]
abbrev f83_4:AC:=.ops [4] [] [vv 5 0,vv 6 1,⟨none,.x (some 7) (.cmpS (.r 5) (.r 6))⟩,vo 4 7]
abbrev f83_3:AC:=.seq f83_4 .ret
abbrev f83_1:AC:=.seq f83_2 f83_3
def c_f83:AFun:=⟨8,[.tmp 4],f83_1⟩
theorem k_f83:kX x_f83 83 c_f83:=by delta kX; kernel_rfl
theorem e_f83:eX 83:=by delta eX; kernel_rfl

def n_f84:Nat:=84
def x_f84:=xX 6 [0,2,3,4,5] [] [(2,[0],[]),(6,[2],[])]
abbrev f84_2:AC:=.ops [0] [] [⟨none,.mv (some 2) (.c (.lit (.bool false)))⟩]
abbrev f84_4:AC:=.ops [2] [] [vv 3 0,vv 4 0,⟨none,.bin (some 5) .num .neq (.r 3) (.r 4)⟩,vo 2 5]
abbrev f84_3:AC:=.seq f84_4 .ret
abbrev f84_1:AC:=.seq f84_2 f84_3
def c_f84:AFun:=⟨6,[.tmp 2],f84_1⟩
theorem k_f84:kX x_f84 84 c_f84:=by delta kX; kernel_rfl
theorem e_f84:eX 84:=by delta eX; kernel_rfl

def n_f1053:Nat:=53
def x_f1053:=xX 8 [0,2,3,5,6,7] [5,7] [(2,[0],[]),(12,[0,4],[]),(52,[2],[]),(14,[2],[])]
abbrev f1053_2:AC:=.ops [0] [] [⟨none,.mv (some 2) (.c (.lit (.slice none 0 0)))⟩]
abbrev f1053_5:AC:=.ops [0,4] [] [vv 3 0,⟨none,.x (some 4) (.nilU .eql (.r 3) (.c (.lit (.slice none 0 0))))⟩]
abbrev f1053_8:AC:=.ops [2] [] [⟨none,.mv (some 2) (.c (.lit (.slice none 0 0)))⟩]
abbrev f1053_7:AC:=.seq f1053_8 .ret
abbrev f1053_6:AC:=.cond (.r 4) f1053_7 .skip
abbrev f1053_4:AC:=.seq f1053_5 f1053_6
abbrev f1053_10:AC:=.ops [2] [] [⟨none,.x (some 5) (.mksB 1 1 (.lit (.int .u8 0)) (.c (.lit (.int .i64 0))) (.c (.lit (.int .i64 0))))⟩,vv 6 0,⟨none,.x (some 7) (.appB (.r 5) 1 1 (.r 6))⟩,vo 2 7]
abbrev f1053_9:AC:=.seq f1053_10 .ret
abbrev f1053_3:AC:=.seq f1053_4 f1053_9
abbrev f1053_1:AC:=.seq f1053_2 f1053_3
def c_f1053:AFun:=⟨8,[.tmp 2],f1053_1⟩
theorem k_f1053:kX x_f1053 53 c_f1053:=by delta kX; kernel_rfl
theorem e_f1053:eX 53:=by delta eX; kernel_rfl

def tab (q:Nat):Option AFun :=
  if q = 4 then some c_f4 else
  if q = 8 then some c_f8 else
  if q = 9 then some c_f9 else
  if q = 10 then some c_f10 else
  if q = 11 then some c_f11 else
  if q = 12 then some c_f12 else
  if q = 13 then some c_f13 else
  if q = 14 then some c_f14 else
  if q = 15 then some c_f15 else
  if q = 16 then some c_f16 else
  if q = 17 then some c_f17 else
  if q = 18 then some c_f18 else
  if q = 19 then some c_f19 else
  if q = 26 then some c_f26 else
  if q = 27 then some c_f27 else
  if q = 28 then some c_f28 else
  if q = 29 then some c_f29 else
  if q = 30 then some c_f30 else
  if q = 31 then some c_f31 else
  if q = 32 then some c_f32 else
  if q = 33 then some c_f33 else
  if q = 34 then some c_f34 else
  if q = 35 then some c_f35 else
  if q = 36 then some c_f36 else
  if q = 37 then some c_f37 else
  if q = 38 then some c_f38 else
  if q = 39 then some c_f39 else
  if q = 40 then some c_f40 else
  if q = 45 then some c_f45 else
  if q = 46 then some c_f46 else
  if q = 47 then some c_f47 else
  if q = 48 then some c_f48 else
  if q = 49 then some c_f49 else
  if q = 50 then some c_f50 else
  if q = 51 then some c_f51 else
  if q = 52 then some c_f52 else
  if q = 53 then some c_f53 else
  if q = 54 then some c_f54 else
  if q = 55 then some c_f55 else
  if q = 56 then some c_f56 else
  if q = 57 then some c_f57 else
  if q = 58 then some c_f58 else
  if q = 66 then some c_f66 else
  if q = 67 then some c_f67 else
  if q = 68 then some c_f68 else
  if q = 69 then some c_f69 else
  if q = 70 then some c_f70 else
  if q = 71 then some c_f71 else
  if q = 72 then some c_f72 else
  if q = 83 then some c_f83 else
  if q = 84 then some c_f84 else
  none
theorem tabOk:TabOk Go.Proofs.Try.prog id tab :=
  af e_f4 k_f4 rfl (
  af e_f8 k_f8 rfl (
  af e_f9 k_f9 rfl (
  af e_f10 k_f10 rfl (
  af e_f11 k_f11 rfl (
  af e_f12 k_f12 rfl (
  af e_f13 k_f13 rfl (
  af e_f14 k_f14 rfl (
  af e_f15 k_f15 rfl (
  af e_f16 k_f16 rfl (
  af e_f17 k_f17 rfl (
  af e_f18 k_f18 rfl (
  af e_f19 k_f19 rfl (
  af e_f26 k_f26 rfl (
  af e_f27 k_f27 rfl (
  af e_f28 k_f28 rfl (
  af e_f29 k_f29 rfl (
  af e_f30 k_f30 rfl (
  af e_f31 k_f31 rfl (
  af e_f32 k_f32 rfl (
  af e_f33 k_f33 rfl (
  af e_f34 k_f34 rfl (
  af e_f35 k_f35 rfl (
  af e_f36 k_f36 rfl (
  af e_f37 k_f37 rfl (
  af e_f38 k_f38 rfl (
  af e_f39 k_f39 rfl (
  af e_f40 k_f40 rfl (
  af e_f45 k_f45 rfl (
  af e_f46 k_f46 rfl (
  af e_f47 k_f47 rfl (
  af e_f48 k_f48 rfl (
  af e_f49 k_f49 rfl (
  af e_f50 k_f50 rfl (
  af e_f51 k_f51 rfl (
  af e_f52 k_f52 rfl (
  af e_f53 k_f53 rfl (
  af e_f54 k_f54 rfl (
  af e_f55 k_f55 rfl (
  af e_f56 k_f56 rfl (
  af e_f57 k_f57 rfl (
  af e_f58 k_f58 rfl (
  af e_f66 k_f66 rfl (
  af e_f67 k_f67 rfl (
  af e_f68 k_f68 rfl (
  af e_f69 k_f69 rfl (
  af e_f70 k_f70 rfl (
  af e_f71 k_f71 rfl (
  af e_f72 k_f72 rfl (
  af e_f83 k_f83 rfl (
  af e_f84 k_f84 rfl (
  tabOk_nil)))))))))))))))))))))))))))))))))))))))))))))))))))
theorem hmix:Go.Proofs.Try.prog.follows .mixedOrders = true:=by kernel_rfl
end
end Go.Fx.YtgmeefljgbaanaaFx

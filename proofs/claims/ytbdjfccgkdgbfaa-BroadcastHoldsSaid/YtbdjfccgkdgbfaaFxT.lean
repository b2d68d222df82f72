/- The functions that the statement reaches, resolved: printed by a program of ours from the translated code; each is checked here. -/
import Derived.Test.YtbdjfccgkdgbfaaProg
import Derived.Test.YtbdjfccgkdgbfaaFxF
set_option maxRecDepth 100000
set_option maxHeartbeats 0
namespace Go.Fx.YtbdjfccgkdgbfaaFx
open Go Go.Fx
def xX (n:Nat) (h u:List Nat) (q:List (Nat×List Nat×List Nat)):Cx:=⟨some,id,n,fun s=>h.contains s,fun s=>u.contains s,msOf q⟩
abbrev kX (x:Cx) (n:Nat) (c:AFun):Prop:=gR Go.Proofs.Try.prog x n = some c
abbrev eX (n:Nat):Prop:=cS Go.Proofs.Try.prog n = true
abbrev SQ (a b c:AC):Prop:=∀ {P:Program} {m:Bool} {sf:Sf} {st:St} {Q:Exit→Sf→St→Prop},aC P id m a sf st Q = aC P id m b sf st (seqQ (aC P id m c) Q)
abbrev SO (a:AC) (l:List GI) (x y:List Nat) (c:AC):Prop:=∀ {P:Program} {m:Bool} {sf:Sf} {st:St} {Q:Exit→Sf→St→Prop},aC P id m a sf st Q = runI P id m l (opsK x y (seqQ (aC P id m c) Q)) sf st
abbrev CN (a:AC) (r:Nat) (b c:AC):Prop:=∀ {P:Program} {m:Bool} {sf:Sf} {st:St} {Q:Exit→Sf→St→Prop},aC P id m a sf st Q = gQ (.r r) (sf.ev id (.r r)) (aC P id m b) (aC P id m c) sf st Q
abbrev OP (a:AC) (l:List GI) (x y:List Nat):Prop:=∀ {P:Program} {m:Bool} {sf:Sf} {st:St} {Q:Exit→Sf→St→Prop},aC P id m a sf st Q = runI P id m l (opsK x y Q) sf st
abbrev BL (a b:AC) (k:Nat):Prop:=∀ {P:Program} {m:Bool} {sf:Sf} {st:St} {Q:Exit→Sf→St→Prop},aC P id m a sf st Q = aC P id m b sf st (e7 k Q)
abbrev KF:Lean.Meta.Simp.Config:={ implicitDefEqProofs:=false,maxSteps:=10000000 }
section
variable {P:Program} {F:Nat→FuncId} {m:Bool} {sf:Sf} {st:St} {Q:Exit→Sf→St→Prop} {a b:AC} {x:Opd} {k:Nat} {l t:List GI} {u v w:List Nat} {d:Option Nat} {xs:List Opd} {q:List (Bool×GI)}
theorem aA1:aC P F m (.seq a b) sf st Q = aC P F m a sf st (seqQ (aC P F m b) Q):=rfl
theorem aA2:aC P F m (.cond x a b) sf st Q = gQ x (sf.ev F x) (aC P F m a) (aC P F m b) sf st Q:=rfl
theorem aA3:aC P F m (.ops u v l) sf st Q = runI P F m l (opsK u v Q) sf st:=rfl
theorem aA4:aC P F m (.block k a) sf st Q = aC P F m a sf st (e7 k Q):=rfl
theorem aA5:aC P F m (.scope a) sf st Q = aC P F m a sf st (scopeQ Q):=rfl
theorem aA6:aC P F m (.draw u v w l t) sf st Q = au P F sf.locs st l (ea P F m w u v t Q st) [] ⟨sf.regs,bd w sf.locs⟩:=rfl
theorem aA7:aC P F m (.drawM u v l d x xs q t) sf st Q = (m = false∧drawM P F l d x xs q sf st (mI P F m u v t Q)):=rfl
end
theorem bZ:type_of% (And.intro (And.intro (And.intro (And.intro (And.intro (And.intro (And.intro (@lm) (@seqQ_ret)) (And.intro (@opsK_eq) (@runI_nil))) (And.intro (And.intro (@oz) (@putP_eq)) (And.intro (@mask_eq) (@oI)))) (And.intro (And.intro (And.intro (@m9) (@wp_ok)) (And.intro (@pp) (@jh))) (And.intro (And.intro (@ev_r) (@ev_c)) (And.intro (@o_mv) (And.intro (@o_bin) (@eu)))))) (And.intro (And.intro (And.intro (And.intro (@eF) (@setB_r)) (And.intro (@na) (@aC_ret))) (And.intro (And.intro (@aC_skip) (@retQ_ret)) (And.intro (@eG) (@pu)))) (And.intro (And.intro (And.intro (@pv) (@List.map_cons.{0,0})) (And.intro (@List.map_nil.{0,0}) (@Sf.set.eq_1))) (And.intro (And.intro (@Sf.reg.eq_1) (@Nat.zero_add)) (And.intro (@Bool.true_and) (And.intro (@Sf.disAt.eq_1) (@List.drop_zero.{0}))))))) (And.intro (And.intro (And.intro (And.intro (And.intro (@List.drop_succ_cons.{0}) (@Bool.false_eq_true)) (And.intro (@Bool.and_true) (@setR.eq_1))) (And.intro (And.intro (@setR.eq_2) (@putS)) (And.intro (@getR.eq_1) (@getR.eq_2)))) (And.intro (And.intro (And.intro (@List.all_nil.{0}) (@List.all_cons.{0})) (And.intro (@true_and) (@List.length_nil.{0}))) (And.intro (And.intro (@Int.cast_ofNat_Int) (@List.length_cons.{0})) (And.intro (@gP.eq_1) (And.intro (@gP.eq_2) (@List.set_cons_zero.{0})))))) (And.intro (And.intro (And.intro (And.intro (@List.getElem?_cons_zero.{0}) (@and_true)) (And.intro (@List.getElem?_cons_succ.{0}) (@List.set_cons_succ.{0}))) (And.intro (And.intro (@Int.toNat_natCast) (@decide_true)) (And.intro (@IntWalk.i64_in) (@o_own)))) (And.intro (And.intro (And.intro (@mV) (@Nat.mul_one)) (And.intro (@Nat.add_zero) (@iV.eq_1))) (And.intro (And.intro (@ev_f) (@o_call)) (And.intro (@o_load) (And.intro (@Bool.not_false) (@o_addr)))))))) (And.intro (And.intro (And.intro (And.intro (And.intro (And.intro (@List.contains_nil.{0}) (@List.take_succ_cons.{0})) (And.intro (@jJ.eq_1) (@jJ.eq_2))) (And.intro (And.intro (@look.eq_1) (@look.eq_2)) (And.intro (@oA) (@List.take_zero.{0})))) (And.intro (And.intro (And.intro (@Bool.not_true) (@o_pick)) (And.intro (@own2_lit) (@mX))) (And.intro (And.intro (@mT) (@bind_req)) (And.intro (@m7) (And.intro (@o_nilck) (@n_lss)))))) (And.intro (And.intro (And.intro (And.intro (@Sf.setLoc.eq_1) (@pick_ff)) (And.intro (@and_pre) (@List.length_map.{0,0}))) (And.intro (And.intro (@iz) (@ng)) (And.intro (@req_tt) (@boxX.eq_1)))) (And.intro (And.intro (And.intro (@resL.eq_1) (@resL.eq_2)) (And.intro (@noL_tup) (@iU))) (And.intro (And.intro (@evOwn_r) (@disOp_r)) (And.intro (@resI.eq_1) (And.intro (@resI.eq_2) (@ixA.eq_1))))))) (And.intro (And.intro (And.intro (And.intro (And.intro (@ixA.eq_2) (@o_store)) (And.intro (@decide_false) (@Sf.newLoc.eq_1))) (And.intro (And.intro (@and_self) (@o_len)) (And.intro (@pq) (@Int.toNat_zero)))) (And.intro (And.intro (And.intro (@n_add) (@List.append_nil.{0})) (And.intro (@req_dec) (@kE))) (And.intro (And.intro (@eU.eq_1) (@eU.eq_2)) (And.intro (@oF) (And.intro (@n_eql) (@o_un)))))) (And.intro (And.intro (And.intro (And.intro (@oG) (@dis_agg)) (And.intro (@pw) (@dis_bs))) (And.intro (And.intro (@m6) (@extV.eq_1)) (And.intro (@extV.eq_2) (@dis_tup)))) (And.intro (And.intro (And.intro (@o_ext) (@Int.toNat_one)) (And.intro (@aA1) (@aA2))) (And.intro (And.intro (@aA3) (@aA4)) (And.intro (@aA5) (And.intro (@aA6) (@aA7))))))))):=And.intro (And.intro (And.intro (And.intro (And.intro (And.intro (And.intro (@lm) (@seqQ_ret)) (And.intro (@opsK_eq) (@runI_nil))) (And.intro (And.intro (@oz) (@putP_eq)) (And.intro (@mask_eq) (@oI)))) (And.intro (And.intro (And.intro (@m9) (@wp_ok)) (And.intro (@pp) (@jh))) (And.intro (And.intro (@ev_r) (@ev_c)) (And.intro (@o_mv) (And.intro (@o_bin) (@eu)))))) (And.intro (And.intro (And.intro (And.intro (@eF) (@setB_r)) (And.intro (@na) (@aC_ret))) (And.intro (And.intro (@aC_skip) (@retQ_ret)) (And.intro (@eG) (@pu)))) (And.intro (And.intro (And.intro (@pv) (@List.map_cons.{0,0})) (And.intro (@List.map_nil.{0,0}) (@Sf.set.eq_1))) (And.intro (And.intro (@Sf.reg.eq_1) (@Nat.zero_add)) (And.intro (@Bool.true_and) (And.intro (@Sf.disAt.eq_1) (@List.drop_zero.{0}))))))) (And.intro (And.intro (And.intro (And.intro (And.intro (@List.drop_succ_cons.{0}) (@Bool.false_eq_true)) (And.intro (@Bool.and_true) (@setR.eq_1))) (And.intro (And.intro (@setR.eq_2) (@putS)) (And.intro (@getR.eq_1) (@getR.eq_2)))) (And.intro (And.intro (And.intro (@List.all_nil.{0}) (@List.all_cons.{0})) (And.intro (@true_and) (@List.length_nil.{0}))) (And.intro (And.intro (@Int.cast_ofNat_Int) (@List.length_cons.{0})) (And.intro (@gP.eq_1) (And.intro (@gP.eq_2) (@List.set_cons_zero.{0})))))) (And.intro (And.intro (And.intro (And.intro (@List.getElem?_cons_zero.{0}) (@and_true)) (And.intro (@List.getElem?_cons_succ.{0}) (@List.set_cons_succ.{0}))) (And.intro (And.intro (@Int.toNat_natCast) (@decide_true)) (And.intro (@IntWalk.i64_in) (@o_own)))) (And.intro (And.intro (And.intro (@mV) (@Nat.mul_one)) (And.intro (@Nat.add_zero) (@iV.eq_1))) (And.intro (And.intro (@ev_f) (@o_call)) (And.intro (@o_load) (And.intro (@Bool.not_false) (@o_addr)))))))) (And.intro (And.intro (And.intro (And.intro (And.intro (And.intro (@List.contains_nil.{0}) (@List.take_succ_cons.{0})) (And.intro (@jJ.eq_1) (@jJ.eq_2))) (And.intro (And.intro (@look.eq_1) (@look.eq_2)) (And.intro (@oA) (@List.take_zero.{0})))) (And.intro (And.intro (And.intro (@Bool.not_true) (@o_pick)) (And.intro (@own2_lit) (@mX))) (And.intro (And.intro (@mT) (@bind_req)) (And.intro (@m7) (And.intro (@o_nilck) (@n_lss)))))) (And.intro (And.intro (And.intro (And.intro (@Sf.setLoc.eq_1) (@pick_ff)) (And.intro (@and_pre) (@List.length_map.{0,0}))) (And.intro (And.intro (@iz) (@ng)) (And.intro (@req_tt) (@boxX.eq_1)))) (And.intro (And.intro (And.intro (@resL.eq_1) (@resL.eq_2)) (And.intro (@noL_tup) (@iU))) (And.intro (And.intro (@evOwn_r) (@disOp_r)) (And.intro (@resI.eq_1) (And.intro (@resI.eq_2) (@ixA.eq_1))))))) (And.intro (And.intro (And.intro (And.intro (And.intro (@ixA.eq_2) (@o_store)) (And.intro (@decide_false) (@Sf.newLoc.eq_1))) (And.intro (And.intro (@and_self) (@o_len)) (And.intro (@pq) (@Int.toNat_zero)))) (And.intro (And.intro (And.intro (@n_add) (@List.append_nil.{0})) (And.intro (@req_dec) (@kE))) (And.intro (And.intro (@eU.eq_1) (@eU.eq_2)) (And.intro (@oF) (And.intro (@n_eql) (@o_un)))))) (And.intro (And.intro (And.intro (And.intro (@oG) (@dis_agg)) (And.intro (@pw) (@dis_bs))) (And.intro (And.intro (@m6) (@extV.eq_1)) (And.intro (@extV.eq_2) (@dis_tup)))) (And.intro (And.intro (And.intro (@o_ext) (@Int.toNat_one)) (And.intro (@aA1) (@aA2))) (And.intro (And.intro (@aA3) (@aA4)) (And.intro (@aA5) (And.intro (@aA6) (@aA7))))))))
abbrev vv (d x:Nat):GI:=⟨none,.mv (some d) (.r x)⟩
abbrev vo (d x:Nat):GI:=⟨none,.own d x⟩
abbrev ve (d x k:Nat):GI:=⟨none,.ext (some d) (.r x) k⟩
abbrev vn (d x:Nat):GI:=⟨none,.nilck (some d) (.r x)⟩
abbrev vd (d x k:Nat):GI:=⟨none,.addr (some d) (.r x) k⟩
abbrev vl (d x:Nat):GI:=⟨none,.load (some d) (.r x) none⟩
abbrev vb (d:Nat) (o:BinOp) (x:Nat) (n:Int):GI:=⟨none,.bin (some d) .num o (.r x) (.c (.lit (.int .i64 n)))⟩
section
variable (P:Program) (m:Bool) (sf:Sf) (st:St) (Q:Exit→Sf→St→Prop)
def n_f4:Nat:=4
def x_f4:=xX 268 [0,1,2,3,8,9,10,11,12,13,14,17,20,21,22,23,24,25,26,27,28,29,30,31,32,33,34,35,36,37,38,39,40,41,42,43,44,45,46,47,48,49,50,51,52,53,54,55,56,57,59,60,62,63,64,65,66,67,68,69,70,71,72,73,74,75,76,77,78,79,80,81,82,83,84,85,86,87,89,90,91,92,94,95,97,99,102,103,104,106,107,108,109,111,112,113,115,116,117,119,120,121,122,124,125,126,128,131,132,133,135,136,137,139,140,142,144,145,146,148,149,150,152,153,157,159,162,165,167,169,171,172,173,175,177,178,180,181,182,186,189,191,192,193,194,195,196,198,199,201,203,204,205,206,208,209,210,211,212,214,216,217,218,220,221,222,223,224,225,226,227,228,229,230,231,233,234,236,237,239,240,241,242,243,244,245,247,249,250,253,255,256,257,259,260,261,262,263,265,266,267] [15,89,155,173] [(2,[0,1,2,3],[]),(6,[0,1,2,3,9],[]),(28,[0,1,2,3,9,58],[]),(116,[8],[]),(60,[0,1,2,3,9,61],[]),(244,[8],[]),(62,[2,3,9,10,11],[]),(126,[2,3,9,10,11,12,13],[]),(508,[2,3,9,88],[]),(2036,[8],[]),(510,[2,3,9,14],[]),(1022,[2,3,9,14,15],[]),(2046,[2,3,9,14,15,16],[16]),(8188,[2,3,9,14,15,16,17],[16]),(16378,[2,3,9,14,15,16,17],[16]),(131024,[2,3,9,14,15,16,17,93],[16]),(262051,[2,9,14,16],[16]),(524104,[2,3,9,14,15,16,17,18],[16,18]),(1048210,[2,3,9,14,15,16,17,18],[16,18]),(4192844,[2,3,9,14,15,16,17,18,123],[16,18]),(8385690,[2,3,9,14,15,16,17],[16]),(4192846,[2,3,9,14,15,16,17,18,19],[16,18,19]),(16771388,[2,3,9,14,15,16,17,18,19,129],[16,18,19]),(33542778,[2,3,9,14,15,16,17],[16]),(33542780,[2,3,9,14,15,16,17,18,19,141],[16,18,19]),(67085562,[2,3,9,14,15,16,17,18,19],[16,18,19]),(67085564,[2,3,9,14,15,16,17,18,19,154],[16,18,19]),(134171130,[2,3,9,14,15,16,17,18,19],[16,18,19]),(134171132,[2,3,9,14,15,16,17,18,19,163],[16,18,19]),(268342266,[2,3,9,14,15,16,17,19],[16,19]),(134171134,[2,3,9,14,15,16,17,19,20],[16,19]),(268342270,[2,3,9,14,15,16,17,19,20],[16,19]),(2146738160,[2,3,9,14,15,16,17,19,20,179],[16,19]),(4293476323,[2,3,9,14,15,16,17],[16]),(4293476324,[2,3,9,14,15,16,17,19,20],[16,19]),(2146738163,[2,3,9,14,15,16,17,19,20],[16,19]),(131027,[2,3,9,14,15,16,17],[16]),(8190,[2,9,14,16,21],[16]),(32764,[2,9,14,16,21,22],[16]),(65530,[2,9,14,16,21,22],[16]),(524240,[2,9,14,16,21,22,197],[16]),(1048483,[9,14,16,21],[16]),(2096968,[2,9,14,16,21,22,207],[16]),(4193938,[2,9,14,16,21,22],[16]),(524243,[2,9,14,16,21,22],[16]),(65532,[9,14,16,213],[16]),(262132,[8],[]),(131068,[9,14,16,23],[16]),(262138,[9,14,16,23],[16]),(2097104,[9,14,16,23,215],[16]),(4194211,[],[]),(16776848,[9,14,16,23,232],[16]),(67107396,[8],[]),(16776850,[9,14,16,23,24],[16]),(33553702,[9,14,16,23,24,25],[16]),(67107406,[9,14,16,23,24,25],[16]),(536859248,[9,14,16,23,24,25,238],[16]),(1073718499,[9,14,16,23],[16]),(4294874000,[9,14,16,23,24,25],[16]),(34358992000,[9,14,16,23,24,25,258],[16]),(68717984003,[9,14,16,23,24,25],[16]),(34358992002,[9,14,16,23,24,25],[16]),(8589748004,[9,14,16,23,24,25,264],[16]),(34358992020,[8],[]),(4294874003,[9,14,16,23,24,25],[16]),(536859251,[9,14,16,23,24,25],[16]),(2097107,[9,14,16,23],[16]),(131070,[8],[])]
abbrev f4_2:AC:=.ops [0,1,2,3] [] [⟨none,.mv (some 8) (.c (.lit (.bool false)))⟩]
abbrev f4_4:AC:=.ops [0,1,2,3,9] [] [⟨none,.call (some 26) false (.f 8) []⟩,vo 9 26]
abbrev f4_7:AC:=.ops [0,1,2,3,9,58] [] [vv 27 3,⟨none,.len (some 28) .sl (.r 27)⟩,vb 29 .gtr 28 60,vv 30 29,⟨some (30,false),.mv (some 31) (.r 3)⟩,⟨some (30,false),.call (some 32) false (.f 12) [(.r 31)]⟩,⟨some (30,false),.un (some 33) .not (.r 32)⟩,⟨none,.pick (some 34) (.r 30) (.c (.lit (.bool true))) (.r 33)⟩,vv 35 34,⟨some (35,false),.mv (some 36) (.r 0)⟩,⟨some (35,false),.bin (some 37) .num .lss (.r 36) (.c (.lit (.int .i64 3)))⟩,⟨none,.pick (some 38) (.r 35) (.c (.lit (.bool true))) (.r 37)⟩,vv 39 38,⟨some (39,false),.mv (some 40) (.r 0)⟩,⟨some (39,false),.bin (some 41) .num .gtr (.r 40) (.c (.lit (.int .i64 4096)))⟩,⟨none,.pick (some 42) (.r 39) (.c (.lit (.bool true))) (.r 41)⟩,vv 43 42,⟨some (43,false),.mv (some 44) (.r 1)⟩,⟨some (43,false),.bin (some 45) .num .lss (.r 44) (.c (.lit (.int .i64 1)))⟩,⟨none,.pick (some 46) (.r 43) (.c (.lit (.bool true))) (.r 45)⟩,vv 47 46,⟨some (47,false),.mv (some 48) (.r 1)⟩,⟨some (47,false),.bin (some 49) .num .gtr (.r 48) (.c (.lit (.int .i64 3)))⟩,⟨none,.pick (some 50) (.r 47) (.c (.lit (.bool true))) (.r 49)⟩,vv 51 50,⟨some (51,false),.mv (some 52) (.r 2)⟩,⟨some (51,false),.bin (some 53) .num .lss (.r 52) (.c (.lit (.int .i64 3)))⟩,⟨none,.pick (some 54) (.r 51) (.c (.lit (.bool true))) (.r 53)⟩,vv 55 54,⟨some (55,false),.mv (some 56) (.r 2)⟩,⟨some (55,false),.bin (some 57) .num .gtr (.r 56) (.c (.lit (.int .i64 4096)))⟩,⟨none,.pick (some 58) (.r 55) (.c (.lit (.bool true))) (.r 57)⟩]
abbrev f4_10:AC:=.ops [8] [] [⟨none,.call (some 59) false (.f 10) []⟩,vo 8 59]
abbrev f4_9:AC:=.seq f4_10 .ret
abbrev f4_8:AC:=.cond (.r 58) f4_9 .skip
abbrev f4_6:AC:=.seq f4_7 f4_8
abbrev f4_13:AC:=.ops [0,1,2,3,9,61] [] [vv 60 9,⟨none,.bin (some 61) (.nil .ptr) .eql (.r 60) (.c (.lit (.pointer none)))⟩]
abbrev f4_16:AC:=.ops [8] [] [⟨none,.mv (some 8) (.c (.lit (.bool false)))⟩]
abbrev f4_15:AC:=.seq f4_16 .ret
abbrev f4_14:AC:=.cond (.r 61) f4_15 .skip
abbrev f4_12:AC:=.seq f4_13 f4_14
abbrev f4_18:AC:=.ops [2,3,9,10,11] [] [vv 63 9,vv 64 0,vv 65 1,⟨none,.call (some 66) false (.f 9) [(.r 63),(.c (.lit (.int .i64 3))),(.r 64),(.r 65)]⟩,vv 62 66,ve 67 62 0,ve 68 62 1,vo 10 67,vo 11 68]
abbrev f4_20:AC:=.ops [2,3,9,10,11,12,13] [] [vv 70 9,vv 71 2,⟨none,.call (some 72) false (.f 9) [(.r 70),(.c (.lit (.int .i64 3))),(.r 71),(.c (.lit (.int .i64 3)))]⟩,vv 69 72,ve 73 69 0,ve 74 69 1,vo 12 73,vo 13 74]
abbrev f4_23:AC:=.ops [2,3,9,88] [] [vv 75 11,vb 76 .neq 75 0,vv 77 76,⟨some (77,false),.mv (some 78) (.r 13)⟩,⟨some (77,false),.bin (some 79) .num .neq (.r 78) (.c (.lit (.int .i64 0)))⟩,⟨none,.pick (some 80) (.r 77) (.c (.lit (.bool true))) (.r 79)⟩,vv 81 80,⟨some (81,false),.mv (some 82) (.r 10)⟩,⟨some (81,false),.bin (some 83) .num .neq (.r 82) (.c (.lit (.int .i64 0)))⟩,⟨none,.pick (some 84) (.r 81) (.c (.lit (.bool true))) (.r 83)⟩,vv 85 84,⟨some (85,false),.mv (some 86) (.r 12)⟩,⟨some (85,false),.bin (some 87) .num .neq (.r 86) (.c (.lit (.int .i64 1)))⟩,⟨none,.pick (some 88) (.r 85) (.c (.lit (.bool true))) (.r 87)⟩]
abbrev f4_26:AC:=.ops [8] [] [⟨none,.mv (some 8) (.c (.lit (.bool false)))⟩]
abbrev f4_25:AC:=.seq f4_26 .ret
abbrev f4_24:AC:=.cond (.r 88) f4_25 .skip
abbrev f4_22:AC:=.seq f4_23 f4_24
abbrev f4_28:AC:=.ops [2,3,9,14] [] [⟨none,.mv (some 14) (.c (.lit (.slice none 0 0)))⟩]
abbrev f4_30:AC:=.ops [2,3,9,14,15] [] [⟨none,.x (some 89) (.mksB 1 24 (.lit (.slice none 0 0)) (.c (.lit (.int .i64 64))) (.c (.lit (.int .i64 64))))⟩,vo 15 89]
abbrev f4_32:AC:=.ops [2,3,9,14,15,16] [16] [⟨none,.newL 16 [(.lit (.slice none 0 0)),(.lit (.slice none 0 0))]⟩]
abbrev f4_35:AC:=.ops [2,3,9,14,15,16,17] [16] [⟨none,.mv (some 17) (.c (.lit (.int .i64 0)))⟩]
abbrev f4_40:AC:=.ops [2,3,9,14,15,16,17,93] [16] [vv 90 17,vv 91 3,⟨none,.len (some 92) .sl (.r 91)⟩,⟨none,.bin (some 93) .num .lss (.r 90) (.r 92)⟩]
abbrev f4_41:AC:=.cond (.r 93) .skip (.exit [2,9,14,16] [16] 0)
abbrev f4_39:AC:=.seq f4_40 f4_41
abbrev f4_45:AC:=.ops [2,3,9,14,15,16,17,18] [16,18] [vv 96 3,vv 97 17,⟨none,.ixS (some 98) (.r 96) (.r 97) 6⟩,⟨none,.load (some 99) (.r 98) (some 6)⟩,⟨none,.newL 18 [(.lit (.int .i64 0)),(.lit (.int .i64 0)),(.lit (.int .i64 0)),(.lit (.int .i64 0)),(.lit (.int .i64 0)),(.lit (.slice none 0 0))]⟩,⟨none,.store 6 (.r 18) (.r 99)⟩]
abbrev f4_47:AC:=.ops [2,3,9,14,15,16,17,18] [16,18] [vd 100 18 2,⟨none,.store 1 (.r 100) (.c (.lit (.int .i64 3)))⟩]
abbrev f4_50:AC:=.ops [2,3,9,14,15,16,17,18,123] [16,18] [vd 101 18 0,vl 102 101,vb 103 .lss 102 1,vv 104 103,⟨some (104,false),.addr (some 105) (.r 18) 0⟩,⟨some (104,false),.load (some 106) (.r 105) none⟩,⟨some (104,false),.bin (some 107) .num .eql (.r 106) (.c (.lit (.int .i64 4)))⟩,⟨none,.pick (some 108) (.r 104) (.c (.lit (.bool true))) (.r 107)⟩,vv 109 108,⟨some (109,false),.addr (some 110) (.r 18) 0⟩,⟨some (109,false),.load (some 111) (.r 110) none⟩,⟨some (109,false),.bin (some 112) .num .eql (.r 111) (.c (.lit (.int .i64 3)))⟩,⟨some (109,false),.mv (some 113) (.r 112)⟩,⟨some (113,true),.addr (some 114) (.r 18) 3⟩,⟨some (113,true),.load (some 115) (.r 114) none⟩,⟨some (113,true),.bin (some 116) .num .lss (.r 115) (.c (.lit (.int .i64 0)))⟩,⟨some (113,true),.mv (some 117) (.r 116)⟩,⟨some (117,false),.addr (some 118) (.r 18) 3⟩,⟨some (117,false),.load (some 119) (.r 118) none⟩,⟨some (117,false),.bin (some 120) .num .gtr (.r 119) (.c (.lit (.int .i64 1)))⟩,⟨some (113,true),.pick (some 121) (.r 117) (.c (.lit (.bool true))) (.r 120)⟩,⟨some (109,false),.pick (some 122) (.r 113) (.r 121) (.c (.lit (.bool false)))⟩,⟨none,.pick (some 123) (.r 109) (.c (.lit (.bool true))) (.r 122)⟩]
abbrev f4_51:AC:=.cond (.r 123) (.exit [2,3,9,14,15,16,17] [16] 1) .skip
abbrev f4_49:AC:=.seq f4_50 f4_51
abbrev f4_53:AC:=.ops [2,3,9,14,15,16,17,18,19] [16,18,19] [vv 124 9,⟨none,.load (some 125) (.r 18) (some 6)⟩,⟨none,.call (some 126) false (.f 13) [(.r 124),(.r 125)]⟩,⟨none,.newL 19 [(.lit (.int .i64 0)),(.lit (.bool false)),(.lit (.slice none 0 0)),(.lit (.slice none 0 0)),(.lit (.int .i64 0))]⟩,⟨none,.store 5 (.r 19) (.r 126)⟩]
abbrev f4_56:AC:=.ops [2,3,9,14,15,16,17,18,19,129] [16,18,19] [vd 127 19 4,vl 128 127,vb 129 .neq 128 0]
abbrev f4_57:AC:=.cond (.r 129) (.exit [2,3,9,14,15,16,17] [16] 1) .skip
abbrev f4_55:AC:=.seq f4_56 f4_57
abbrev f4_60:AC:=.ops [2,3,9,14,15,16,17,18,19,141] [16,18,19] [vd 130 18 0,vl 131 130,vb 132 .eql 131 1,vv 133 132,⟨some (133,false),.addr (some 134) (.r 18) 0⟩,⟨some (133,false),.load (some 135) (.r 134) none⟩,⟨some (133,false),.bin (some 136) .num .eql (.r 135) (.c (.lit (.int .i64 2)))⟩,⟨some (133,false),.mv (some 137) (.r 136)⟩,⟨some (137,true),.addr (some 138) (.r 19) 1⟩,⟨some (137,true),.load (some 139) (.r 138) none⟩,⟨some (133,false),.pick (some 140) (.r 137) (.r 139) (.c (.lit (.bool false)))⟩,⟨none,.pick (some 141) (.r 133) (.c (.lit (.bool true))) (.r 140)⟩]
abbrev f4_62:AC:=.ops [2,3,9,14,15,16,17,18,19] [16,18,19] [vo 142 14,vd 143 18 5,vl 144 143,⟨none,.bsl (some 145) 1 1 (.lit (.slice none 0 0)) [(0,(.r 144))]⟩,⟨none,.appS 146 142 1 24 (.r 145)⟩,vo 14 146]
abbrev f4_61:AC:=.cond (.r 141) f4_62 .skip
abbrev f4_59:AC:=.seq f4_60 f4_61
abbrev f4_65:AC:=.ops [2,3,9,14,15,16,17,18,19,154] [16,18,19] [vd 147 18 0,vl 148 147,vb 149 .eql 148 2,vv 150 149,⟨some (150,true),.addr (some 151) (.r 19) 1⟩,⟨some (150,true),.load (some 152) (.r 151) none⟩,⟨some (150,true),.un (some 153) .not (.r 152)⟩,⟨none,.pick (some 154) (.r 150) (.r 153) (.c (.lit (.bool false)))⟩]
abbrev f4_67:AC:=.ops [2,3,9,14,15,16,17,18,19] [16,18,19] [vv 155 15,vd 156 18 1,vl 157 156,vd 158 18 5,vl 159 158,⟨none,.ixS (some 160) (.r 155) (.r 157) 1⟩,⟨none,.store 1 (.r 160) (.r 159)⟩]
abbrev f4_66:AC:=.cond (.r 154) f4_67 .skip
abbrev f4_64:AC:=.seq f4_65 f4_66
abbrev f4_70:AC:=.ops [2,3,9,14,15,16,17,18,19,163] [16,18,19] [vd 161 18 0,vl 162 161,vb 163 .eql 162 3]
def f4_72h:List GI:=[vd 164 18 3,
    vl 165 164,
    vd 166 18 3,
    vl 167 166,
    ⟨none,.ixA (some 168) (.r 16) (.r 167) 2 1⟩,
    vl 169 168,
    vd 170 19 2,
    vl 171 170,
    ⟨none,.bsl (some 172) 1 1 (.lit (.slice none 0 0)) [(0,(.r 171))]⟩]
def f4_72p:List (Bool×GI):=[]
def f4_72l:List GI:=[⟨none,.ixA (some 174) (.r 16) (.r 165) 2 1⟩,
    ⟨none,.store 1 (.r 174) (.r 173)⟩]
def f4_72:AC:=.drawA [2,3,9,14,15,16,17,19] [16,19] f4_72h (some 173) (.r 169) 1 24 (.r 172) f4_72p f4_72l
theorem f4_72e:aC P id m f4_72 sf st Q = (m = false∧drawA P id f4_72h (some 173) (.r 169) 1 24 (.r 172) f4_72p sf st (mI P id m [2,3,9,14,15,16,17,19] [16,19] f4_72l Q)):=rfl
abbrev f4_71:AC:=.cond (.r 163) f4_72 .skip
abbrev f4_69:AC:=.seq f4_70 f4_71
abbrev f4_74:AC:=.ops [2,3,9,14,15,16,17,19,20] [16,19] [⟨none,.mv (some 20) (.c (.lit (.int .i64 0)))⟩]
abbrev f4_79:AC:=.ops [2,3,9,14,15,16,17,19,20,179] [16,19] [vv 175 20,vd 176 19 3,vl 177 176,⟨none,.len (some 178) .sl (.r 177)⟩,⟨none,.bin (some 179) .num .lss (.r 175) (.r 178)⟩]
abbrev f4_80:AC:=.cond (.r 179) .skip (.exit [2,3,9,14,15,16,17] [16] 2)
abbrev f4_78:AC:=.seq f4_79 f4_80
abbrev f4_83:AC:=.ops [2,3,9,14,15,16,17,19,20] [16,19] [vo 182 14,vv 183 15,vd 184 19 3,vl 185 184,vv 186 20,⟨none,.ixS (some 187) (.r 185) (.r 186) 4⟩,vd 188 187 0,vl 189 188,⟨none,.ixS (some 190) (.r 183) (.r 189) 1⟩,vl 191 190,⟨none,.bsl (some 192) 1 1 (.lit (.slice none 0 0)) [(0,(.r 191))]⟩,⟨none,.appS 193 182 1 24 (.r 192)⟩,vo 14 193]
abbrev f4_82:AC:=.block 3 f4_83
abbrev f4_84:AC:=.ops [2,3,9,14,15,16,17,19,20] [16,19] [vv 180 20,vb 181 .add 180 1,vo 20 181]
abbrev f4_81:AC:=.seq f4_82 f4_84
def f4_77:AC:=.seq f4_78 f4_81
theorem f4_77e:SQ f4_77 f4_78 f4_81:=rfl
def f4_76:AC:=.loop [2,3,9,14,15,16,17,19,20] [16,19] f4_77
theorem f4_76w:aC P id m f4_76 sf st Q = aH (aC P id m f4_77) [2,3,9,14,15,16,17,19,20] [16,19] sf st Q:=rfl
abbrev f4_75:AC:=.block 2 f4_76
abbrev f4_73:AC:=.seq f4_74 f4_75
abbrev f4_68:AC:=.seq f4_69 f4_73
abbrev f4_63:AC:=.seq f4_64 f4_68
abbrev f4_58:AC:=.seq f4_59 f4_63
abbrev f4_54:AC:=.seq f4_55 f4_58
def f4_52:AC:=.seq f4_53 f4_54
theorem f4_52e:SQ f4_52 f4_53 f4_54:=rfl
abbrev f4_48:AC:=.seq f4_49 f4_52
abbrev f4_46:AC:=.seq f4_47 f4_48
abbrev f4_44:AC:=.seq f4_45 f4_46
abbrev f4_43:AC:=.block 1 f4_44
def f4_85l:List GI:=[vv 94 17,
    vb 95 .add 94 1,
    vo 17 95]
def f4_85:AC:=.ops [2,3,9,14,15,16,17] [16] f4_85l
theorem f4_85e:OP f4_85 f4_85l [2,3,9,14,15,16,17] [16]:=rfl
abbrev f4_42:AC:=.seq f4_43 f4_85
abbrev f4_38:AC:=.seq f4_39 f4_42
def f4_37:AC:=.loop [2,3,9,14,15,16,17] [16] f4_38
theorem f4_37w:aC P id m f4_37 sf st Q = aH (aC P id m f4_38) [2,3,9,14,15,16,17] [16] sf st Q:=rfl
abbrev f4_36:AC:=.block 0 f4_37
abbrev f4_34:AC:=.seq f4_35 f4_36
abbrev f4_87:AC:=.ops [2,9,14,16,21] [16] [⟨none,.mv (some 21) (.c (.lit (.int .i64 0)))⟩]
abbrev f4_90:AC:=.ops [2,9,14,16,21,22] [16] [⟨none,.mv (some 22) (.c (.lit (.int .i64 0)))⟩]
abbrev f4_95:AC:=.ops [2,9,14,16,21,22,197] [16] [vv 194 22,vv 195 14,⟨none,.len (some 196) .sl (.r 195)⟩,⟨none,.bin (some 197) .num .lss (.r 194) (.r 196)⟩]
abbrev f4_96:AC:=.cond (.r 197) .skip (.exit [9,14,16,21] [16] 4)
abbrev f4_94:AC:=.seq f4_95 f4_96
abbrev f4_100:AC:=.ops [2,9,14,16,21,22,207] [16] [vv 200 14,vv 201 22,⟨none,.ixS (some 202) (.r 200) (.r 201) 1⟩,vl 203 202,⟨none,.len (some 204) .sl (.r 203)⟩,vb 205 .add 204 2,vv 206 2,⟨none,.bin (some 207) .num .gtr (.r 205) (.r 206)⟩]
abbrev f4_102:AC:=.ops [2,9,14,16,21,22] [16] [vv 208 21,vb 209 .add 208 1,vo 21 209]
abbrev f4_101:AC:=.cond (.r 207) f4_102 .skip
abbrev f4_99:AC:=.seq f4_100 f4_101
abbrev f4_98:AC:=.block 5 f4_99
abbrev f4_103:AC:=.ops [2,9,14,16,21,22] [16] [vv 198 22,vb 199 .add 198 1,vo 22 199]
abbrev f4_97:AC:=.seq f4_98 f4_103
abbrev f4_93:AC:=.seq f4_94 f4_97
def f4_92:AC:=.loop [2,9,14,16,21,22] [16] f4_93
theorem f4_92w:aC P id m f4_92 sf st Q = aH (aC P id m f4_93) [2,9,14,16,21,22] [16] sf st Q:=rfl
abbrev f4_91:AC:=.block 4 f4_92
abbrev f4_89:AC:=.seq f4_90 f4_91
abbrev f4_106:AC:=.ops [9,14,16,213] [16] [vv 210 9,⟨none,.call (some 211) false (.f 14) [(.r 210),(.c (.lit (.int .i64 1)))]⟩,vv 212 21,⟨none,.bin (some 213) .num .neq (.r 211) (.r 212)⟩]
abbrev f4_109:AC:=.ops [8] [] [⟨none,.mv (some 8) (.c (.lit (.bool false)))⟩]
abbrev f4_108:AC:=.seq f4_109 .ret
abbrev f4_107:AC:=.cond (.r 213) f4_108 .skip
abbrev f4_105:AC:=.seq f4_106 f4_107
abbrev f4_112:AC:=.ops [9,14,16,23] [16] [⟨none,.mv (some 23) (.c (.lit (.int .i64 0)))⟩]
abbrev f4_117:AC:=.ops [9,14,16,23,215] [16] [vv 214 23,vb 215 .lss 214 2]
abbrev f4_118:AC:=.cond (.r 215) .skip (.exit [] [] 6)
abbrev f4_116:AC:=.seq f4_117 f4_118
abbrev f4_123:AC:=.draw [9,14,16,23,232] [16] [] [vv 218 23,⟨none,.ixA (some 219) (.r 16) (.r 218) 2 1⟩,vl 220 219,⟨none,.len (some 221) .sl (.r 220)⟩,vv 222 9,vv 223 23,⟨none,.call (some 224) true (.f 15) [(.r 222),(.r 223)]⟩,⟨none,.bin (some 225) .num .add (.r 221) (.r 224)⟩,vv 226 9,vv 227 23,⟨none,.call (some 228) true (.f 14) [(.r 226),(.r 227)]⟩,⟨none,.bin (some 229) .num .add (.r 225) (.r 228)⟩,vv 230 14,⟨none,.len (some 231) .sl (.r 230)⟩] [⟨none,.bin (some 232) .num .neq (.r 229) (.r 231)⟩]
abbrev f4_126:AC:=.ops [8] [] [⟨none,.mv (some 8) (.c (.lit (.bool false)))⟩]
abbrev f4_125:AC:=.seq f4_126 .ret
abbrev f4_124:AC:=.cond (.r 232) f4_125 .skip
abbrev f4_122:AC:=.seq f4_123 f4_124
abbrev f4_128:AC:=.ops [9,14,16,23,24] [16] [⟨none,.mv (some 24) (.c (.lit (.int .i64 0)))⟩]
abbrev f4_130:AC:=.ops [9,14,16,23,24,25] [16] [⟨none,.mv (some 25) (.c (.lit (.int .i64 0)))⟩]
abbrev f4_135:AC:=.ops [9,14,16,23,24,25,238] [16] [vv 233 25,vv 234 23,⟨none,.ixA (some 235) (.r 16) (.r 234) 2 1⟩,vl 236 235,⟨none,.len (some 237) .sl (.r 236)⟩,⟨none,.bin (some 238) .num .lss (.r 233) (.r 237)⟩]
abbrev f4_136:AC:=.cond (.r 238) .skip (.exit [9,14,16,23] [16] 8)
abbrev f4_134:AC:=.seq f4_135 f4_136
abbrev f4_144:AC:=.draw [9,14,16,23,24,25,258] [16] [] [vv 241 24,vv 242 14,⟨none,.len (some 243) .sl (.r 242)⟩,⟨none,.bin (some 244) .num .lss (.r 241) (.r 243)⟩,vv 245 244,⟨some (245,true),.mv (some 246) (.r 14)⟩,⟨some (245,true),.mv (some 247) (.r 24)⟩,⟨some (245,true),.ixS (some 248) (.r 246) (.r 247) 1⟩,⟨some (245,true),.load (some 249) (.r 248) none⟩,⟨some (245,true),.mv (some 250) (.r 23)⟩,⟨some (245,true),.ixA (some 251) (.r 16) (.r 250) 2 1⟩,⟨some (245,true),.load (some 252) (.r 251) none⟩,⟨some (245,true),.mv (some 253) (.r 25)⟩,⟨some (245,true),.ixS (some 254) (.r 252) (.r 253) 1⟩,⟨some (245,true),.load (some 255) (.r 254) none⟩] [⟨some (245,true),.call (some 256) false (.f 16) [(.r 249),(.r 255)]⟩,⟨some (245,true),.un (some 257) .not (.r 256)⟩,⟨none,.pick (some 258) (.r 245) (.r 257) (.c (.lit (.bool false)))⟩]
abbrev f4_145:AC:=.cond (.r 258) .skip (.exit [9,14,16,23,24,25] [16] 10)
abbrev f4_143:AC:=.seq f4_144 f4_145
abbrev f4_147:AC:=.ops [9,14,16,23,24,25] [16] [vv 259 24,vb 260 .add 259 1,vo 24 260]
abbrev f4_146:AC:=.block 11 f4_147
abbrev f4_142:AC:=.seq f4_143 f4_146
def f4_141:AC:=.loop [9,14,16,23,24,25] [16] f4_142
theorem f4_141w:aC P id m f4_141 sf st Q = aH (aC P id m f4_142) [9,14,16,23,24,25] [16] sf st Q:=rfl
abbrev f4_140:AC:=.block 10 f4_141
abbrev f4_150:AC:=.ops [9,14,16,23,24,25,264] [16] [vv 261 24,vv 262 14,⟨none,.len (some 263) .sl (.r 262)⟩,⟨none,.bin (some 264) .num .geq (.r 261) (.r 263)⟩]
abbrev f4_153:AC:=.ops [8] [] [⟨none,.mv (some 8) (.c (.lit (.bool false)))⟩]
abbrev f4_152:AC:=.seq f4_153 .ret
abbrev f4_151:AC:=.cond (.r 264) f4_152 .skip
abbrev f4_149:AC:=.seq f4_150 f4_151
abbrev f4_154:AC:=.ops [9,14,16,23,24,25] [16] [vv 265 24,vb 266 .add 265 1,vo 24 266]
abbrev f4_148:AC:=.seq f4_149 f4_154
abbrev f4_139:AC:=.seq f4_140 f4_148
abbrev f4_138:AC:=.block 9 f4_139
abbrev f4_155:AC:=.ops [9,14,16,23,24,25] [16] [vv 239 25,vb 240 .add 239 1,vo 25 240]
abbrev f4_137:AC:=.seq f4_138 f4_155
abbrev f4_133:AC:=.seq f4_134 f4_137
def f4_132:AC:=.loop [9,14,16,23,24,25] [16] f4_133
theorem f4_132w:aC P id m f4_132 sf st Q = aH (aC P id m f4_133) [9,14,16,23,24,25] [16] sf st Q:=rfl
abbrev f4_131:AC:=.block 8 f4_132
abbrev f4_129:AC:=.seq f4_130 f4_131
def f4_127:AC:=.seq f4_128 f4_129
theorem f4_127e:SQ f4_127 f4_128 f4_129:=rfl
abbrev f4_121:AC:=.seq f4_122 f4_127
abbrev f4_120:AC:=.block 7 f4_121
abbrev f4_156:AC:=.ops [9,14,16,23] [16] [vv 216 23,vb 217 .add 216 1,vo 23 217]
def f4_119:AC:=.seq f4_120 f4_156
theorem f4_119e:SQ f4_119 f4_120 f4_156:=rfl
abbrev f4_115:AC:=.seq f4_116 f4_119
def f4_114:AC:=.loop [9,14,16,23] [16] f4_115
theorem f4_114w:aC P id m f4_114 sf st Q = aH (aC P id m f4_115) [9,14,16,23] [16] sf st Q:=rfl
abbrev f4_113:AC:=.block 6 f4_114
abbrev f4_111:AC:=.seq f4_112 f4_113
abbrev f4_158:AC:=.ops [8] [] [⟨none,.call (some 267) false (.f 10) []⟩,vo 8 267]
abbrev f4_157:AC:=.seq f4_158 .ret
abbrev f4_110:AC:=.seq f4_111 f4_157
abbrev f4_104:AC:=.seq f4_105 f4_110
abbrev f4_88:AC:=.seq f4_89 f4_104
def f4_86:AC:=.seq f4_87 f4_88
theorem f4_86e:SQ f4_86 f4_87 f4_88:=rfl
abbrev f4_33:AC:=.seq f4_34 f4_86
abbrev f4_31:AC:=.seq f4_32 f4_33
def f4_29:AC:=.seq f4_30 f4_31
theorem f4_29e:SQ f4_29 f4_30 f4_31:=rfl
abbrev f4_27:AC:=.seq f4_28 f4_29
abbrev f4_21:AC:=.seq f4_22 f4_27
abbrev f4_19:AC:=.seq f4_20 f4_21
abbrev f4_17:AC:=.seq f4_18 f4_19
def f4_11:AC:=.seq f4_12 f4_17
theorem f4_11e:SQ f4_11 f4_12 f4_17:=rfl
abbrev f4_5:AC:=.seq f4_6 f4_11
abbrev f4_3:AC:=.seq f4_4 f4_5
abbrev f4_1:AC:=.seq f4_2 f4_3
def c_f4:AFun:=⟨268,[.tmp 8],f4_1⟩
theorem k_f4:kX x_f4 4 c_f4:=by delta kX; kernel_rfl
theorem e_f4:eX 4:=by delta eX; kernel_rfl

def n_f8:Nat:=8
def x_f8:=xX 17 [0,1,2,3,4,5,6,8,10,11,15,16] [11] [(2,[],[]),(6,[1],[]),(28,[1,6],[]),(58,[1,6],[]),(232,[1,6,7],[]),(933,[1],[]),(3736,[1,2,6],[]),(3737,[1,6],[]),(935,[1,6],[]),(30,[0],[])]
abbrev f8_2:AC:=.ops [] [] [⟨none,.mv (some 0) (.c (.lit (.pointer none)))⟩]
abbrev f8_4:AC:=.ops [1] [] [⟨none,.mkmap 3⟩,⟨none,.bst (some 4) [(0,64),(64,16),(80,1)] (.agg [(.lit (.pointer none)),(.lit (.pointer none)),(.lit (.pointer none)),(.lit (.pointer none)),(.lit (.pointer none)),(.lit (.pointer none)),(.lit (.pointer none)),(.lit (.pointer none)),(.lit (.pointer none)),(.lit (.pointer none)),(.lit (.pointer none)),(.lit (.pointer none)),(.lit (.pointer none)),(.lit (.pointer none)),(.lit (.pointer none)),(.lit (.pointer none)),(.lit (.pointer none)),(.lit (.pointer none)),(.lit (.pointer none)),(.lit (.pointer none)),(.lit (.pointer none)),(.lit (.pointer none)),(.lit (.pointer none)),(.lit (.pointer none)),(.lit (.pointer none)),(.lit (.pointer none)),(.lit (.pointer none)),(.lit (.pointer none)),(.lit (.pointer none)),(.lit (.pointer none)),(.lit (.pointer none)),(.lit (.pointer none)),(.lit (.pointer none)),(.lit (.pointer none)),(.lit (.pointer none)),(.lit (.pointer none)),(.lit (.pointer none)),(.lit (.pointer none)),(.lit (.pointer none)),(.lit (.pointer none)),(.lit (.pointer none)),(.lit (.pointer none)),(.lit (.pointer none)),(.lit (.pointer none)),(.lit (.pointer none)),(.lit (.pointer none)),(.lit (.pointer none)),(.lit (.pointer none)),(.lit (.pointer none)),(.lit (.pointer none)),(.lit (.pointer none)),(.lit (.pointer none)),(.lit (.pointer none)),(.lit (.pointer none)),(.lit (.pointer none)),(.lit (.pointer none)),(.lit (.pointer none)),(.lit (.pointer none)),(.lit (.pointer none)),(.lit (.pointer none)),(.lit (.pointer none)),(.lit (.pointer none)),(.lit (.pointer none)),(.lit (.pointer none)),(.lit (.pointer none)),(.lit (.pointer none)),(.lit (.pointer none)),(.lit (.pointer none)),(.lit (.pointer none)),(.lit (.pointer none)),(.lit (.pointer none)),(.lit (.pointer none)),(.lit (.pointer none)),(.lit (.pointer none)),(.lit (.pointer none)),(.lit (.pointer none)),(.lit (.pointer none)),(.lit (.pointer none)),(.lit (.pointer none)),(.lit (.pointer none)),(.lit (.map none))]) [(2,(.r 3))]⟩,⟨none,.boxB 5 81 (.r 4)⟩,vo 1 5]
abbrev f8_7:AC:=.ops [1,6] [] [⟨none,.mv (some 6) (.c (.lit (.int .i64 0)))⟩]
abbrev f8_11:AC:=.ops [1,6,7] [] [vb 7 .lss 6 16]
abbrev f8_13:AC:=.cond (.r 7) .skip (.exit [1] [] 0)
abbrev f8_17:AC:=.ops [1,2,6] [] [vv 8 6,vo 2 8]
abbrev f8_18:AC:=.drawM [1,6] [] [vv 9 1,vv 10 2] (some 11) (.f 23) [] [(false,vn 12 9),(false,vd 13 12 64)] [⟨none,.ixA (some 14) (.r 13) (.r 10) 16 1⟩,⟨none,.store 1 (.r 14) (.r 11)⟩]
abbrev f8_16:AC:=.seq f8_17 f8_18
abbrev f8_15:AC:=.block 1 f8_16
abbrev f8_19:AC:=.ops [1,6] [] [vb 15 .add 6 1,vv 6 15]
abbrev f8_14:AC:=.seq f8_15 f8_19
abbrev f8_12:AC:=.seq f8_13 f8_14
abbrev f8_10:AC:=.seq f8_11 f8_12
def f8_9:AC:=.loop [1,6] [] f8_10
theorem f8_9w:aC P id m f8_9 sf st Q = aH (aC P id m f8_10) [1,6] [] sf st Q:=rfl
abbrev f8_8:AC:=.block 0 f8_9
abbrev f8_6:AC:=.seq f8_7 f8_8
abbrev f8_21:AC:=.ops [0] [] [vv 16 1,vo 0 16]
abbrev f8_20:AC:=.seq f8_21 .ret
abbrev f8_5:AC:=.seq f8_6 f8_20
abbrev f8_3:AC:=.seq f8_4 f8_5
abbrev f8_1:AC:=.seq f8_2 f8_3
def c_f8:AFun:=⟨17,[.tmp 0],f8_1⟩
theorem k_f8:kX x_f8 8 c_f8:=by delta kX; kernel_rfl
theorem e_f8:eX 8:=by delta eX; kernel_rfl

def n_f9:Nat:=9
def x_f9:=xX 60 [0,1,2,3,8,9,10,11,12,13,15,16,17,18,19,20,21,22,23,24,25,26,27,28,29,30,31,32,34,35,36,37,38,39,41,42,43,44,45,46,48,50,51,52,53,54,55,59] [] [(2,[0,1,2,3],[]),(12,[0,1,2,3,14],[]),(52,[8,9],[]),(28,[0,1,2,3,33],[]),(116,[8,9],[]),(30,[0,1,2,3,10],[]),(124,[0,1,2,3,10,40],[]),(500,[8,9],[]),(126,[0,1,3,10,11,12],[]),(508,[0,1,3,10,11,12,47],[]),(2036,[8,9],[]),(510,[10],[]),(1022,[8,9],[])]
abbrev f9_2:AC:=.ops [0,1,2,3] [] [⟨none,.mv (some 8) (.c (.lit (.int .i64 0)))⟩,⟨none,.mv (some 9) (.c (.lit (.int .i64 0)))⟩]
abbrev f9_5:AC:=.ops [0,1,2,3,14] [] [vv 13 0,⟨none,.call (some 14) false (.f 24) [(.r 13)]⟩]
abbrev f9_8:AC:=.ops [8,9] [] [⟨none,.mv (some 8) (.c (.lit (.int .i64 0)))⟩,⟨none,.mv (some 9) (.c (.lit (.int .i64 1)))⟩]
abbrev f9_7:AC:=.seq f9_8 .ret
abbrev f9_6:AC:=.cond (.r 14) f9_7 .skip
abbrev f9_4:AC:=.seq f9_5 f9_6
abbrev f9_11:AC:=.ops [0,1,2,3,33] [] [vv 15 1,⟨none,.call (some 16) false (.f 25) [(.r 15),(.c (.lit (.int .i64 16)))]⟩,⟨none,.un (some 17) .not (.r 16)⟩,vv 18 17,⟨some (18,false),.mv (some 19) (.r 2)⟩,⟨some (18,false),.bin (some 20) .num .leq (.r 19) (.c (.lit (.int .i64 2)))⟩,⟨none,.pick (some 21) (.r 18) (.c (.lit (.bool true))) (.r 20)⟩,vv 22 21,⟨some (22,false),.mv (some 23) (.r 2)⟩,⟨some (22,false),.bin (some 24) .num .gtr (.r 23) (.c (.lit (.int .i64 4096)))⟩,⟨none,.pick (some 25) (.r 22) (.c (.lit (.bool true))) (.r 24)⟩,vv 26 25,⟨some (26,false),.mv (some 27) (.r 3)⟩,⟨some (26,false),.bin (some 28) .num .lss (.r 27) (.c (.lit (.int .i64 1)))⟩,⟨none,.pick (some 29) (.r 26) (.c (.lit (.bool true))) (.r 28)⟩,vv 30 29,⟨some (30,false),.mv (some 31) (.r 3)⟩,⟨some (30,false),.bin (some 32) .num .gtr (.r 31) (.c (.lit (.int .i64 3)))⟩,⟨none,.pick (some 33) (.r 30) (.c (.lit (.bool true))) (.r 32)⟩]
abbrev f9_14:AC:=.ops [8,9] [] [⟨none,.mv (some 8) (.c (.lit (.int .i64 0)))⟩,⟨none,.mv (some 9) (.c (.lit (.int .i64 2)))⟩]
abbrev f9_13:AC:=.seq f9_14 .ret
abbrev f9_12:AC:=.cond (.r 33) f9_13 .skip
abbrev f9_10:AC:=.seq f9_11 f9_12
abbrev f9_16:AC:=.ops [0,1,2,3,10] [] [vv 34 0,vn 35 34,vd 36 35 0,⟨none,.x (some 37) (.slA 64 1 (.r 36) none none none)⟩,⟨none,.call (some 38) false (.f 26) [(.r 37),(.c (.lit (.pointer none)))]⟩,vo 10 38]
abbrev f9_19:AC:=.ops [0,1,2,3,10,40] [] [vv 39 10,vb 40 .lss 39 0]
abbrev f9_22:AC:=.ops [8,9] [] [⟨none,.mv (some 8) (.c (.lit (.int .i64 0)))⟩,⟨none,.mv (some 9) (.c (.lit (.int .i64 7)))⟩]
abbrev f9_21:AC:=.seq f9_22 .ret
abbrev f9_20:AC:=.cond (.r 40) f9_21 .skip
abbrev f9_18:AC:=.seq f9_19 f9_20
abbrev f9_24:AC:=.ops [0,1,3,10,11,12] [] [vv 42 2,⟨none,.call (some 43) false (.f 27) [(.r 42)]⟩,vv 41 43,ve 44 41 0,ve 45 41 1,vo 11 44,vo 12 45]
abbrev f9_27:AC:=.ops [0,1,3,10,11,12,47] [] [vv 46 12,vb 47 .neq 46 0]
abbrev f9_30:AC:=.ops [8,9] [] [vv 48 12,⟨none,.mv (some 8) (.c (.lit (.int .i64 0)))⟩,vo 9 48]
abbrev f9_29:AC:=.seq f9_30 .ret
abbrev f9_28:AC:=.cond (.r 47) f9_29 .skip
abbrev f9_26:AC:=.seq f9_27 f9_28
abbrev f9_32:AC:=.ops [10] [] [vv 49 0,vv 50 10,vv 51 1,vv 52 3,vv 53 11,⟨none,.bst (some 54) [(0,1),(1,1),(2,1),(3,1),(4,1)] (.agg [(.lit (.int .i64 0)),(.lit (.int .i64 0)),(.lit (.pointer none)),(.lit (.int .i64 0)),(.lit (.int .i64 0))]) [(0,(.r 51)),(1,(.r 52)),(2,(.r 53))]⟩,⟨none,.boxB 55 5 (.r 54)⟩,vn 56 49,vd 57 56 0,⟨none,.ixA (some 58) (.r 57) (.r 50) 64 1⟩,⟨none,.store 1 (.r 58) (.r 55)⟩]
abbrev f9_34:AC:=.ops [8,9] [] [vv 59 10,vo 8 59,⟨none,.mv (some 9) (.c (.lit (.int .i64 0)))⟩]
abbrev f9_33:AC:=.seq f9_34 .ret
abbrev f9_31:AC:=.seq f9_32 f9_33
abbrev f9_25:AC:=.seq f9_26 f9_31
abbrev f9_23:AC:=.seq f9_24 f9_25
abbrev f9_17:AC:=.seq f9_18 f9_23
abbrev f9_15:AC:=.seq f9_16 f9_17
abbrev f9_9:AC:=.seq f9_10 f9_15
abbrev f9_3:AC:=.seq f9_4 f9_9
abbrev f9_1:AC:=.seq f9_2 f9_3
def c_f9:AFun:=⟨60,[.tmp 8,.tmp 9],f9_1⟩
theorem k_f9:kX x_f9 9 c_f9:=by delta kX; kernel_rfl
theorem e_f9:eX 9:=by delta eX; kernel_rfl

def n_f10:Nat:=10
def x_f10:=xX 140 [0,1,2,3,4,5,6,7,8,9,10,12,13,14,15,16,17,18,19,20,21,22,23,24,25,26,27,28,29,30,31,32,33,34,35,36,37,38,39,40,41,42,43,44,45,46,47,48,49,50,51,52,53,54,55,56,57,58,59,60,61,63,64,65,66,67,68,69,70,71,72,73,74,75,76,77,78,79,80,81,82,83,84,85,86,87,88,89,90,91,92,93,94,95,96,97,98,99,100,102,103,104,105,106,107,108,109,110,111,112,113,114,115,116,117,118,120,121,122,123,124,125,126,127,128,129,130,131,132,133,134,135,136,137,138,139] [] [(2,[],[]),(6,[1],[]),(28,[1,11],[]),(116,[0],[]),(30,[1,2,3],[]),(62,[1,2,3,4,5],[]),(126,[1,2,3,4,5,6,7],[]),(508,[1,62],[]),(2036,[0],[]),(510,[1,3,8],[]),(2044,[1,101],[]),(8180,[0],[]),(4092,[1,119],[]),(16372,[0],[]),(4094,[0],[])]
abbrev f10_2:AC:=.ops [] [] [⟨none,.mv (some 0) (.c (.lit (.bool false)))⟩]
abbrev f10_4:AC:=.ops [1] [] [⟨none,.call (some 9) false (.f 8) []⟩,vo 1 9]
abbrev f10_7:AC:=.ops [1,11] [] [vv 10 1,⟨none,.bin (some 11) (.nil .ptr) .eql (.r 10) (.c (.lit (.pointer none)))⟩]
abbrev f10_10:AC:=.ops [0] [] [⟨none,.mv (some 0) (.c (.lit (.bool false)))⟩]
abbrev f10_9:AC:=.seq f10_10 .ret
abbrev f10_8:AC:=.cond (.r 11) f10_9 .skip
abbrev f10_6:AC:=.seq f10_7 f10_8
abbrev f10_12:AC:=.ops [1,2,3] [] [vv 13 1,⟨none,.call (some 14) false (.f 9) [(.r 13),(.c (.lit (.int .i64 2))),(.c (.lit (.int .i64 8))),(.c (.lit (.int .i64 1)))]⟩,vv 12 14,ve 15 12 0,ve 16 12 1,vo 2 15,vo 3 16]
abbrev f10_14:AC:=.ops [1,2,3,4,5] [] [vv 18 1,⟨none,.call (some 19) false (.f 9) [(.r 18),(.c (.lit (.int .i64 2))),(.c (.lit (.int .i64 5))),(.c (.lit (.int .i64 3)))]⟩,vv 17 19,ve 20 17 0,ve 21 17 1,vo 4 20,vo 5 21]
abbrev f10_16:AC:=.ops [1,2,3,4,5,6,7] [] [vv 23 1,⟨none,.call (some 24) false (.f 9) [(.r 23),(.c (.lit (.int .i64 2))),(.c (.lit (.int .i64 8))),(.c (.lit (.int .i64 2)))]⟩,vv 22 24,ve 25 22 0,ve 26 22 1,vo 6 25,vo 7 26]
abbrev f10_19:AC:=.ops [1,62] [] [vv 27 3,vb 28 .neq 27 0,vv 29 28,⟨some (29,false),.mv (some 30) (.r 5)⟩,⟨some (29,false),.bin (some 31) .num .neq (.r 30) (.c (.lit (.int .i64 0)))⟩,⟨none,.pick (some 32) (.r 29) (.c (.lit (.bool true))) (.r 31)⟩,vv 33 32,⟨some (33,false),.mv (some 34) (.r 7)⟩,⟨some (33,false),.bin (some 35) .num .neq (.r 34) (.c (.lit (.int .i64 0)))⟩,⟨none,.pick (some 36) (.r 33) (.c (.lit (.bool true))) (.r 35)⟩,vv 37 36,⟨some (37,false),.mv (some 38) (.r 2)⟩,⟨some (37,false),.bin (some 39) .num .neq (.r 38) (.c (.lit (.int .i64 0)))⟩,⟨none,.pick (some 40) (.r 37) (.c (.lit (.bool true))) (.r 39)⟩,vv 41 40,⟨some (41,false),.mv (some 42) (.r 4)⟩,⟨some (41,false),.bin (some 43) .num .neq (.r 42) (.c (.lit (.int .i64 1)))⟩,⟨none,.pick (some 44) (.r 41) (.c (.lit (.bool true))) (.r 43)⟩,vv 45 44,⟨some (45,false),.mv (some 46) (.r 6)⟩,⟨some (45,false),.bin (some 47) .num .neq (.r 46) (.c (.lit (.int .i64 2)))⟩,⟨none,.pick (some 48) (.r 45) (.c (.lit (.bool true))) (.r 47)⟩,vv 49 48,⟨some (49,false),.mv (some 50) (.r 1)⟩,⟨some (49,false),.bsl (some 51) 1 3 (.lit (.int .u8 0)) [(0,(.c (.lit (.int .u8 97)))),(1,(.c (.lit (.int .u8 98)))),(2,(.c (.lit (.int .u8 99))))]⟩,⟨some (49,false),.x (some 52) (.mark 51)⟩,⟨some (49,false),.call (some 53) false (.f 28) [(.r 50),(.c (.lit (.int .i64 2))),(.r 52)]⟩,⟨some (49,false),.bin (some 54) .num .neq (.r 53) (.c (.lit (.int .i64 0)))⟩,⟨none,.pick (some 55) (.r 49) (.c (.lit (.bool true))) (.r 54)⟩,vv 56 55,⟨some (56,false),.mv (some 57) (.r 1)⟩,⟨some (56,false),.bsl (some 58) 1 1 (.lit (.int .u8 0)) [(0,(.c (.lit (.int .u8 120))))]⟩,⟨some (56,false),.x (some 59) (.mark 58)⟩,⟨some (56,false),.call (some 60) false (.f 28) [(.r 57),(.c (.lit (.int .i64 2))),(.r 59)]⟩,⟨some (56,false),.bin (some 61) .num .neq (.r 60) (.c (.lit (.int .i64 16)))⟩,⟨none,.pick (some 62) (.r 56) (.c (.lit (.bool true))) (.r 61)⟩]
abbrev f10_22:AC:=.ops [0] [] [⟨none,.mv (some 0) (.c (.lit (.bool false)))⟩]
abbrev f10_21:AC:=.seq f10_22 .ret
abbrev f10_20:AC:=.cond (.r 62) f10_21 .skip
abbrev f10_18:AC:=.seq f10_19 f10_20
abbrev f10_24:AC:=.ops [1,3,8] [] [vv 64 1,⟨none,.bsl (some 65) 1 2 (.lit (.int .u8 0)) [(0,(.c (.lit (.int .u8 100)))),(1,(.c (.lit (.int .u8 101))))]⟩,⟨none,.x (some 66) (.mark 65)⟩,⟨none,.call (some 67) false (.f 29) [(.r 64),(.c (.lit (.int .i64 7))),(.c (.lit (.int .i64 2))),(.r 66)]⟩,vv 63 67,ve 68 63 0,ve 69 63 1,vo 8 68,vo 3 69]
abbrev f10_27:AC:=.ops [1,101] [] [vv 70 8,vv 71 70,⟨some (71,false),.mv (some 72) (.r 3)⟩,⟨some (71,false),.bin (some 73) .num .neq (.r 72) (.c (.lit (.int .i64 0)))⟩,⟨none,.pick (some 74) (.r 71) (.c (.lit (.bool true))) (.r 73)⟩,vv 75 74,⟨some (75,false),.mv (some 76) (.r 1)⟩,⟨some (75,false),.bst (some 77) [(0,1),(1,1),(2,1),(3,1)] (.agg [(.lit (.int .i64 0)),(.lit (.int .i64 0)),(.lit (.int .i64 0)),(.lit (.int .i64 0))]) [(0,(.c (.lit (.int .i64 7))))]⟩,⟨some (75,false),.bsl (some 78) 4 1 (.agg [(.lit (.int .i64 0)),(.lit (.int .i64 0)),(.lit (.int .i64 0)),(.lit (.int .i64 0))]) [(0,(.r 77))]⟩,⟨some (75,false),.call (some 79) false (.f 30) [(.r 76),(.c (.lit (.int .i64 1))),(.c (.lit (.string ⟨#[97,98,99]⟩))),(.r 78),(.c (.lit (.int .i64 0)))]⟩,⟨some (75,false),.un (some 80) .not (.r 79)⟩,⟨none,.pick (some 81) (.r 75) (.c (.lit (.bool true))) (.r 80)⟩,vv 82 81,⟨some (82,false),.mv (some 83) (.r 1)⟩,⟨some (82,false),.call (some 84) false (.f 15) [(.r 83),(.c (.lit (.int .i64 0)))]⟩,⟨some (82,false),.bin (some 85) .num .neq (.r 84) (.c (.lit (.int .i64 1)))⟩,⟨none,.pick (some 86) (.r 82) (.c (.lit (.bool true))) (.r 85)⟩,vv 87 86,⟨some (87,false),.mv (some 88) (.r 1)⟩,⟨some (87,false),.call (some 89) false (.f 14) [(.r 88),(.c (.lit (.int .i64 0)))]⟩,⟨some (87,false),.bin (some 90) .num .neq (.r 89) (.c (.lit (.int .i64 1)))⟩,⟨none,.pick (some 91) (.r 87) (.c (.lit (.bool true))) (.r 90)⟩,vv 92 91,⟨some (92,false),.mv (some 93) (.r 1)⟩,⟨some (92,false),.call (some 94) false (.f 15) [(.r 93),(.c (.lit (.int .i64 2)))]⟩,⟨some (92,false),.bin (some 95) .num .neq (.r 94) (.c (.lit (.int .i64 1)))⟩,⟨none,.pick (some 96) (.r 92) (.c (.lit (.bool true))) (.r 95)⟩,vv 97 96,⟨some (97,false),.mv (some 98) (.r 1)⟩,⟨some (97,false),.call (some 99) false (.f 14) [(.r 98),(.c (.lit (.int .i64 2)))]⟩,⟨some (97,false),.bin (some 100) .num .neq (.r 99) (.c (.lit (.int .i64 1)))⟩,⟨none,.pick (some 101) (.r 97) (.c (.lit (.bool true))) (.r 100)⟩]
abbrev f10_30:AC:=.ops [0] [] [⟨none,.mv (some 0) (.c (.lit (.bool false)))⟩]
abbrev f10_29:AC:=.seq f10_30 .ret
abbrev f10_28:AC:=.cond (.r 101) f10_29 .skip
abbrev f10_26:AC:=.seq f10_27 f10_28
abbrev f10_33:AC:=.ops [1,119] [] [vv 102 1,⟨none,.call (some 103) false (.f 30) [(.r 102),(.c (.lit (.int .i64 0))),(.c (.lit (.string ⟨#[100,101]⟩))),(.c (.lit (.slice none 0 0))),(.c (.lit (.int .i64 0)))]⟩,⟨none,.un (some 104) .not (.r 103)⟩,vv 105 104,⟨some (105,false),.mv (some 106) (.r 1)⟩,⟨some (105,false),.call (some 107) false (.f 30) [(.r 106),(.c (.lit (.int .i64 0))),(.c (.lit (.string ⟨#[]⟩))),(.c (.lit (.slice none 0 0))),(.c (.lit (.int .i64 16)))]⟩,⟨some (105,false),.un (some 108) .not (.r 107)⟩,⟨none,.pick (some 109) (.r 105) (.c (.lit (.bool true))) (.r 108)⟩,vv 110 109,⟨some (110,false),.mv (some 111) (.r 1)⟩,⟨some (110,false),.call (some 112) false (.f 30) [(.r 111),(.c (.lit (.int .i64 2))),(.c (.lit (.string ⟨#[97,98,99]⟩))),(.c (.lit (.slice none 0 0))),(.c (.lit (.int .i64 0)))]⟩,⟨some (110,false),.un (some 113) .not (.r 112)⟩,⟨none,.pick (some 114) (.r 110) (.c (.lit (.bool true))) (.r 113)⟩,vv 115 114,⟨some (115,false),.mv (some 116) (.r 1)⟩,⟨some (115,false),.call (some 117) false (.f 30) [(.r 116),(.c (.lit (.int .i64 3))),(.c (.lit (.string ⟨#[]⟩))),(.c (.lit (.slice none 0 0))),(.c (.lit (.int .i64 9)))]⟩,⟨some (115,false),.un (some 118) .not (.r 117)⟩,⟨none,.pick (some 119) (.r 115) (.c (.lit (.bool true))) (.r 118)⟩]
abbrev f10_36:AC:=.ops [0] [] [⟨none,.mv (some 0) (.c (.lit (.bool false)))⟩]
abbrev f10_35:AC:=.seq f10_36 .ret
abbrev f10_34:AC:=.cond (.r 119) f10_35 .skip
abbrev f10_32:AC:=.seq f10_33 f10_34
abbrev f10_38:AC:=.ops [0] [] [vv 120 1,⟨none,.bsl (some 121) 1 5 (.lit (.int .u8 0)) [(0,(.c (.lit (.int .u8 49)))),(1,(.c (.lit (.int .u8 50)))),(2,(.c (.lit (.int .u8 51)))),(3,(.c (.lit (.int .u8 52)))),(4,(.c (.lit (.int .u8 53))))]⟩,⟨none,.x (some 122) (.mark 121)⟩,⟨none,.call (some 123) false (.f 28) [(.r 120),(.c (.lit (.int .i64 2))),(.r 122)]⟩,vb 124 .eql 123 0,vv 125 124,⟨some (125,true),.mv (some 126) (.r 1)⟩,⟨some (125,true),.call (some 127) false (.f 14) [(.r 126),(.c (.lit (.int .i64 0)))]⟩,⟨some (125,true),.bin (some 128) .num .eql (.r 127) (.c (.lit (.int .i64 1)))⟩,⟨none,.pick (some 129) (.r 125) (.r 128) (.c (.lit (.bool false)))⟩,vv 130 129,⟨some (130,true),.mv (some 131) (.r 1)⟩,⟨some (130,true),.call (some 132) false (.f 14) [(.r 131),(.c (.lit (.int .i64 1)))]⟩,⟨some (130,true),.bin (some 133) .num .eql (.r 132) (.c (.lit (.int .i64 1)))⟩,⟨none,.pick (some 134) (.r 130) (.r 133) (.c (.lit (.bool false)))⟩,vv 135 134,⟨some (135,true),.mv (some 136) (.r 1)⟩,⟨some (135,true),.call (some 137) false (.f 15) [(.r 136),(.c (.lit (.int .i64 2)))]⟩,⟨some (135,true),.bin (some 138) .num .eql (.r 137) (.c (.lit (.int .i64 1)))⟩,⟨none,.pick (some 139) (.r 135) (.r 138) (.c (.lit (.bool false)))⟩,vo 0 139]
abbrev f10_37:AC:=.seq f10_38 .ret
abbrev f10_31:AC:=.seq f10_32 f10_37
abbrev f10_25:AC:=.seq f10_26 f10_31
abbrev f10_23:AC:=.seq f10_24 f10_25
abbrev f10_17:AC:=.seq f10_18 f10_23
abbrev f10_15:AC:=.seq f10_16 f10_17
abbrev f10_13:AC:=.seq f10_14 f10_15
abbrev f10_11:AC:=.seq f10_12 f10_13
abbrev f10_5:AC:=.seq f10_6 f10_11
abbrev f10_3:AC:=.seq f10_4 f10_5
abbrev f10_1:AC:=.seq f10_2 f10_3
def c_f10:AFun:=⟨140,[.tmp 0],f10_1⟩
theorem k_f10:kX x_f10 10 c_f10:=by delta kX; kernel_rfl
theorem e_f10:eX 10:=by delta eX; kernel_rfl

def n_f11:Nat:=11
def x_f11:=xX 25 [0,1,4,5,6,7,9,10,11,12,15,19,23,24] [] [(2,[0,1],[]),(12,[0,1,8],[]),(52,[4,5],[]),(14,[0,1,6],[]),(60,[0,1,6,13],[]),(244,[4,5],[]),(62,[0,6],[]),(126,[4,5],[])]
abbrev f11_2:AC:=.ops [0,1] [] [⟨none,.mv (some 4) (.c (.lit (.slice none 0 0)))⟩,⟨none,.mv (some 5) (.c (.lit (.int .i64 0)))⟩]
abbrev f11_5:AC:=.ops [0,1,8] [] [vv 7 0,⟨none,.call (some 8) false (.f 24) [(.r 7)]⟩]
abbrev f11_8:AC:=.ops [4,5] [] [⟨none,.mv (some 4) (.c (.lit (.slice none 0 0)))⟩,⟨none,.mv (some 5) (.c (.lit (.int .i64 1)))⟩]
abbrev f11_7:AC:=.seq f11_8 .ret
abbrev f11_6:AC:=.cond (.r 8) f11_7 .skip
abbrev f11_4:AC:=.seq f11_5 f11_6
abbrev f11_10:AC:=.ops [0,1,6] [] [vv 9 0,vv 10 1,⟨none,.call (some 11) false (.f 31) [(.r 9),(.r 10)]⟩,vo 6 11]
abbrev f11_13:AC:=.ops [0,1,6,13] [] [vv 12 6,⟨none,.bin (some 13) (.nil .ptr) .eql (.r 12) (.c (.lit (.pointer none)))⟩]
abbrev f11_16:AC:=.ops [4,5] [] [⟨none,.mv (some 4) (.c (.lit (.slice none 0 0)))⟩,⟨none,.mv (some 5) (.c (.lit (.int .i64 9)))⟩]
abbrev f11_15:AC:=.seq f11_16 .ret
abbrev f11_14:AC:=.cond (.r 13) f11_15 .skip
abbrev f11_12:AC:=.seq f11_13 f11_14
abbrev f11_18:AC:=.ops [0,6] [] [vv 14 0,vv 15 1,vn 16 14,vd 17 16 0,⟨none,.ixA (some 18) (.r 17) (.r 15) 64 1⟩,⟨none,.store 1 (.r 18) (.c (.lit (.pointer none)))⟩]
abbrev f11_20:AC:=.ops [4,5] [] [vv 19 0,vv 20 6,vn 21 20,vd 22 21 0,vl 23 22,⟨none,.call (some 24) false (.f 32) [(.r 19),(.r 23)]⟩,vo 4 24,⟨none,.mv (some 5) (.c (.lit (.int .i64 0)))⟩]
abbrev f11_19:AC:=.seq f11_20 .ret
abbrev f11_17:AC:=.seq f11_18 f11_19
abbrev f11_11:AC:=.seq f11_12 f11_17
abbrev f11_9:AC:=.seq f11_10 f11_11
abbrev f11_3:AC:=.seq f11_4 f11_9
abbrev f11_1:AC:=.seq f11_2 f11_3
def c_f11:AFun:=⟨25,[.tmp 4,.tmp 5],f11_1⟩
theorem k_f11:kX x_f11 11 c_f11:=by delta kX; kernel_rfl
theorem e_f11:eX 11:=by delta eX; kernel_rfl

def n_f12:Nat:=12
def x_f12:=xX 17 [0,2,3,4,5,6,8,9,11,14,15] [] [(2,[0],[]),(12,[0,3],[]),(26,[0,3],[]),(208,[0,3,7],[]),(419,[],[]),(840,[0,3,16],[]),(3364,[2],[]),(211,[0,3],[]),(14,[2],[])]
abbrev f12_2:AC:=.ops [0] [] [⟨none,.mv (some 2) (.c (.lit (.bool false)))⟩]
abbrev f12_5:AC:=.ops [0,3] [] [⟨none,.mv (some 3) (.c (.lit (.int .i64 0)))⟩]
abbrev f12_10:AC:=.ops [0,3,7] [] [vv 4 3,vv 5 0,⟨none,.len (some 6) .sl (.r 5)⟩,⟨none,.bin (some 7) .num .lss (.r 4) (.r 6)⟩]
abbrev f12_11:AC:=.cond (.r 7) .skip (.exit [] [] 0)
abbrev f12_9:AC:=.seq f12_10 f12_11
abbrev f12_15:AC:=.ops [0,3,16] [] [vv 10 0,vv 11 3,⟨none,.ixS (some 12) (.r 10) (.r 11) 6⟩,vd 13 12 5,vl 14 13,⟨none,.len (some 15) .sl (.r 14)⟩,vb 16 .gtr 15 1030]
abbrev f12_18:AC:=.ops [2] [] [⟨none,.mv (some 2) (.c (.lit (.bool false)))⟩]
abbrev f12_17:AC:=.seq f12_18 .ret
abbrev f12_16:AC:=.cond (.r 16) f12_17 .skip
abbrev f12_14:AC:=.seq f12_15 f12_16
abbrev f12_13:AC:=.block 1 f12_14
abbrev f12_19:AC:=.ops [0,3] [] [vv 8 3,vb 9 .add 8 1,vo 3 9]
abbrev f12_12:AC:=.seq f12_13 f12_19
abbrev f12_8:AC:=.seq f12_9 f12_12
def f12_7:AC:=.loop [0,3] [] f12_8
theorem f12_7w:aC P id m f12_7 sf st Q = aH (aC P id m f12_8) [0,3] [] sf st Q:=rfl
abbrev f12_6:AC:=.block 0 f12_7
abbrev f12_4:AC:=.seq f12_5 f12_6
abbrev f12_21:AC:=.ops [2] [] [⟨none,.mv (some 2) (.c (.lit (.bool true)))⟩]
abbrev f12_20:AC:=.seq f12_21 .ret
abbrev f12_3:AC:=.seq f12_4 f12_20
abbrev f12_1:AC:=.seq f12_2 f12_3
def c_f12:AFun:=⟨17,[.tmp 2],f12_1⟩
theorem k_f12:kX x_f12 12 c_f12:=by delta kX; kernel_rfl
theorem e_f12:eX 12:=by delta eX; kernel_rfl

def n_f13:Nat:=13
def x_f13:=xX 78 [0,1,6,8,9,10,12,13,14,15,18,19,20,22,24,26,27,28,29,32,33,35,37,38,40,41,42,44,46,48,49,50,51,54,55,56,58,59,60,61,62,66,67,68,70,71,72,73,75,77] [] [(2,[0,3,4],[3,4]),(6,[0,3,4,5],[3,4,5]),(14,[0,3,4,5],[3,4,5]),(60,[0,3,4,5,8],[3,4,5]),(244,[0,3,4,5,8,17],[3,4,5]),(490,[4,5,6],[4,5]),(982,[0,3,4,5,8,31],[3,4,5]),(1966,[4,5,6],[4,5]),(3934,[0,3,4,5,8,39],[3,4,5]),(7870,[4,5,6],[4,5]),(15742,[0,3,4,5,8,53],[3,4,5]),(31486,[4,5,6],[4,5]),(62974,[0,3,4,5,65],[3,4,5]),(125950,[4,5,6],[4,5]),(125951,[4,5,6],[4,5]),(62,[4,5],[4,5]),(126,[4],[4])]
abbrev f13_2:AC:=.ops [0,3,4] [3,4] [⟨none,.boxL 3 6 (.r 1)⟩,⟨none,.newL 4 [(.lit (.int .i64 0)),(.lit (.bool false)),(.lit (.slice none 0 0)),(.lit (.slice none 0 0)),(.lit (.int .i64 0))]⟩]
abbrev f13_4:AC:=.ops [0,3,4,5] [3,4,5] [⟨none,.newL 5 [(.lit (.int .i64 0)),(.lit (.bool false)),(.lit (.slice none 0 0)),(.lit (.slice none 0 0)),(.lit (.int .i64 0))]⟩]
abbrev f13_6:AC:=.ops [0,3,4,5] [3,4,5] [⟨none,.mv (some 6) (.c (.lit (.int .i64 0)))⟩]
abbrev f13_9:AC:=.ops [0,3,4,5,8] [3,4,5] [vd 7 3 0,vl 8 7]
abbrev f13_12:AC:=.ops [0,3,4,5,8,17] [3,4,5] [vb 18 .eql 8 0,vo 17 18]
abbrev f13_14:AC:=.ops [4,5,6] [4,5] [vv 20 0,vd 21 3 2,vl 22 21,vd 23 3 3,vl 24 23,vd 25 3 4,vl 26 25,⟨none,.call (some 27) false (.f 9) [(.r 20),(.r 22),(.r 24),(.r 26)]⟩,vv 19 27,ve 28 19 0,ve 29 19 1,vd 30 5 0,⟨none,.store 1 (.r 30) (.r 28)⟩,vo 6 29]
abbrev f13_16:AC:=.ops [0,3,4,5,8,31] [3,4,5] [vb 32 .eql 8 1,vo 31 32]
abbrev f13_18:AC:=.ops [4,5,6] [4,5] [vv 33 0,vd 34 3 2,vl 35 34,vd 36 3 5,vl 37 36,⟨none,.call (some 38) false (.f 28) [(.r 33),(.r 35),(.r 37)]⟩,vo 6 38]
abbrev f13_20:AC:=.ops [0,3,4,5,8,39] [3,4,5] [vb 40 .eql 8 2,vo 39 40]
abbrev f13_22:AC:=.ops [4,5,6] [4,5] [vv 42 0,vd 43 3 1,vl 44 43,vd 45 3 2,vl 46 45,vd 47 3 5,vl 48 47,⟨none,.call (some 49) false (.f 29) [(.r 42),(.r 44),(.r 46),(.r 48)]⟩,vv 41 49,ve 50 41 0,ve 51 41 1,vd 52 5 1,⟨none,.store 1 (.r 52) (.r 50)⟩,vo 6 51]
abbrev f13_24:AC:=.ops [0,3,4,5,8,53] [3,4,5] [vb 54 .eql 8 3,vo 53 54]
abbrev f13_26:AC:=.ops [4,5,6] [4,5] [vv 56 0,vd 57 3 3,vl 58 57,⟨none,.call (some 59) false (.f 33) [(.r 56),(.r 58)]⟩,vv 55 59,ve 60 55 0,ve 61 55 1,ve 62 55 2,vd 63 5 2,⟨none,.store 1 (.r 63) (.r 60)⟩,vd 64 5 3,⟨none,.store 1 (.r 64) (.r 61)⟩,vo 6 62]
abbrev f13_28:AC:=.ops [0,3,4,5,65] [3,4,5] [vb 66 .eql 8 4,vo 65 66]
abbrev f13_30:AC:=.ops [4,5,6] [4,5] [vv 68 0,vd 69 3 3,vl 70 69,⟨none,.call (some 71) false (.f 11) [(.r 68),(.r 70)]⟩,vv 67 71,ve 72 67 0,ve 73 67 1,vd 74 5 3,⟨none,.store 1 (.r 74) (.r 72)⟩,vo 6 73]
abbrev f13_31:AC:=.ops [4,5,6] [4,5] [vv 10 0,vd 11 3 1,vl 12 11,⟨none,.call (some 13) false (.f 34) [(.r 10),(.r 12)]⟩,vv 9 13,ve 14 9 0,ve 15 9 1,vd 16 5 3,⟨none,.store 1 (.r 16) (.r 14)⟩,vo 6 15]
abbrev f13_29:AC:=.cond (.r 65) f13_30 f13_31
abbrev f13_27:AC:=.seq f13_28 f13_29
abbrev f13_25:AC:=.cond (.r 53) f13_26 f13_27
abbrev f13_23:AC:=.seq f13_24 f13_25
abbrev f13_21:AC:=.cond (.r 39) f13_22 f13_23
abbrev f13_19:AC:=.seq f13_20 f13_21
abbrev f13_17:AC:=.cond (.r 31) f13_18 f13_19
abbrev f13_15:AC:=.seq f13_16 f13_17
abbrev f13_13:AC:=.cond (.r 17) f13_14 f13_15
abbrev f13_11:AC:=.seq f13_12 f13_13
abbrev f13_10:AC:=.block 0 f13_11
abbrev f13_8:AC:=.seq f13_9 f13_10
abbrev f13_33:AC:=.ops [4,5] [4,5] [vv 75 6,vd 76 5 4,⟨none,.store 1 (.r 76) (.r 75)⟩]
abbrev f13_35:AC:=.ops [4] [4] [⟨none,.load (some 77) (.r 5) (some 5)⟩,⟨none,.store 5 (.r 4) (.r 77)⟩]
abbrev f13_34:AC:=.seq f13_35 .ret
abbrev f13_32:AC:=.seq f13_33 f13_34
abbrev f13_7:AC:=.seq f13_8 f13_32
abbrev f13_5:AC:=.seq f13_6 f13_7
abbrev f13_3:AC:=.seq f13_4 f13_5
abbrev f13_1:AC:=.seq f13_2 f13_3
def c_f13:AFun:=⟨78,[.cell 4 (some 5)],f13_1⟩
theorem k_f13:kX x_f13 13 c_f13:=by delta kX; kernel_rfl
theorem e_f13:eX 13:=by delta eX; kernel_rfl

def n_f14:Nat:=14
def x_f14:=xX 15 [0,1,4,5,6,7,8,9,14] [] [(2,[0,1],[]),(12,[5],[]),(26,[5,10],[]),(108,[4],[]),(14,[4],[])]
abbrev f14_2:AC:=.ops [0,1] [] [⟨none,.mv (some 4) (.c (.lit (.int .i64 0)))⟩]
abbrev f14_5:AC:=.ops [5] [] [vv 6 0,vv 7 1,⟨none,.call (some 8) false (.f 31) [(.r 6),(.r 7)]⟩,vo 5 8]
abbrev f14_7:AC:=.ops [5,10] [] [vv 9 5,⟨none,.bin (some 10) (.nil .ptr) .neq (.r 9) (.c (.lit (.pointer none)))⟩]
abbrev f14_10:AC:=.ops [4] [] [vv 11 5,vn 12 11,vd 13 12 4,vl 14 13,vo 4 14]
abbrev f14_9:AC:=.seq f14_10 .ret
abbrev f14_8:AC:=.cond (.r 10) f14_9 .skip
abbrev f14_6:AC:=.seq f14_7 f14_8
abbrev f14_4:AC:=.seq f14_5 f14_6
abbrev f14_12:AC:=.ops [4] [] [⟨none,.mv (some 4) (.c (.lit (.int .i64 0)))⟩]
abbrev f14_11:AC:=.seq f14_12 .ret
abbrev f14_3:AC:=.seq f14_4 f14_11
abbrev f14_1:AC:=.seq f14_2 f14_3
def c_f14:AFun:=⟨15,[.tmp 4],f14_1⟩
theorem k_f14:kX x_f14 14 c_f14:=by delta kX; kernel_rfl
theorem e_f14:eX 14:=by delta eX; kernel_rfl

def n_f15:Nat:=15
def x_f15:=xX 15 [0,1,4,5,6,7,8,9,14] [] [(2,[0,1],[]),(12,[5],[]),(26,[5,10],[]),(108,[4],[]),(14,[4],[])]
abbrev f15_2:AC:=.ops [0,1] [] [⟨none,.mv (some 4) (.c (.lit (.int .i64 0)))⟩]
abbrev f15_5:AC:=.ops [5] [] [vv 6 0,vv 7 1,⟨none,.call (some 8) false (.f 31) [(.r 6),(.r 7)]⟩,vo 5 8]
abbrev f15_7:AC:=.ops [5,10] [] [vv 9 5,⟨none,.bin (some 10) (.nil .ptr) .neq (.r 9) (.c (.lit (.pointer none)))⟩]
abbrev f15_10:AC:=.ops [4] [] [vv 11 5,vn 12 11,vd 13 12 3,vl 14 13,vo 4 14]
abbrev f15_9:AC:=.seq f15_10 .ret
abbrev f15_8:AC:=.cond (.r 10) f15_9 .skip
abbrev f15_6:AC:=.seq f15_7 f15_8
abbrev f15_4:AC:=.seq f15_5 f15_6
abbrev f15_12:AC:=.ops [4] [] [⟨none,.mv (some 4) (.c (.lit (.int .i64 0)))⟩]
abbrev f15_11:AC:=.seq f15_12 .ret
abbrev f15_3:AC:=.seq f15_4 f15_11
abbrev f15_1:AC:=.seq f15_2 f15_3
def c_f15:AFun:=⟨15,[.tmp 4],f15_1⟩
theorem k_f15:kX x_f15 15 c_f15:=by delta kX; kernel_rfl
theorem e_f15:eX 15:=by delta eX; kernel_rfl

def n_f16:Nat:=16
def x_f16:=xX 10 [0,1,4,5,6,7,8,9] [] [(2,[0,1],[]),(6,[4],[])]
abbrev f16_2:AC:=.ops [0,1] [] [⟨none,.mv (some 4) (.c (.lit (.bool false)))⟩]
abbrev f16_4:AC:=.ops [4] [] [vv 5 0,⟨none,.conv (some 6) .bs (.r 5)⟩,vv 7 1,⟨none,.conv (some 8) .bs (.r 7)⟩,⟨none,.bin (some 9) .num .eql (.r 6) (.r 8)⟩,vo 4 9]
abbrev f16_3:AC:=.seq f16_4 .ret
abbrev f16_1:AC:=.seq f16_2 f16_3
def c_f16:AFun:=⟨10,[.tmp 4],f16_1⟩
theorem k_f16:kX x_f16 16 c_f16:=by delta kX; kernel_rfl
theorem e_f16:eX 16:=by delta eX; kernel_rfl

def n_f23:Nat:=23
def x_f23:=xX 4 [0,1,2,3] [] [(2,[],[]),(6,[0],[])]
abbrev f23_2:AC:=.ops [] [] [⟨none,.mv (some 0) (.c (.lit (.pointer none)))⟩]
abbrev f23_4:AC:=.ops [0] [] [⟨none,.mkmap 1⟩,⟨none,.bst (some 2) [(0,3),(3,1)] (.agg [(.lit (.int .u64 0)),(.lit (.int .u64 0)),(.lit (.int .u64 0)),(.lit (.map none))]) [(1,(.r 1))]⟩,⟨none,.boxB 3 4 (.r 2)⟩,vo 0 3]
abbrev f23_3:AC:=.seq f23_4 .ret
abbrev f23_1:AC:=.seq f23_2 f23_3
def c_f23:AFun:=⟨4,[.tmp 0],f23_1⟩
theorem k_f23:kX x_f23 23 c_f23:=by delta kX; kernel_rfl
theorem e_f23:eX 23:=by delta eX; kernel_rfl

def n_f24:Nat:=24
def x_f24:=xX 12 [0,2,3,4,5,9,10,11] [] [(2,[0],[]),(6,[2],[])]
abbrev f24_2:AC:=.ops [0] [] [⟨none,.mv (some 2) (.c (.lit (.bool false)))⟩]
abbrev f24_4:AC:=.ops [2] [] [vv 3 0,⟨none,.bin (some 4) (.nil .ptr) .eql (.r 3) (.c (.lit (.pointer none)))⟩,vv 5 4,⟨some (5,false),.mv (some 6) (.r 0)⟩,⟨some (5,false),.nilck (some 7) (.r 6)⟩,⟨some (5,false),.addr (some 8) (.r 7) 80⟩,⟨some (5,false),.load (some 9) (.r 8) none⟩,⟨some (5,false),.bin (some 10) (.nil .mp) .eql (.r 9) (.c (.lit (.map none)))⟩,⟨none,.pick (some 11) (.r 5) (.c (.lit (.bool true))) (.r 10)⟩,vo 2 11]
abbrev f24_3:AC:=.seq f24_4 .ret
abbrev f24_1:AC:=.seq f24_2 f24_3
def c_f24:AFun:=⟨12,[.tmp 2],f24_1⟩
theorem k_f24:kX x_f24 24 c_f24:=by delta kX; kernel_rfl
theorem e_f24:eX 24:=by delta eX; kernel_rfl

def n_f25:Nat:=25
def x_f25:=xX 12 [0,1,4,5,6,7,8,9,10,11] [] [(2,[0,1],[]),(6,[4],[])]
abbrev f25_2:AC:=.ops [0,1] [] [⟨none,.mv (some 4) (.c (.lit (.bool false)))⟩]
abbrev f25_4:AC:=.ops [4] [] [vv 5 0,vb 6 .geq 5 0,vv 7 6,⟨some (7,true),.mv (some 8) (.r 0)⟩,⟨some (7,true),.mv (some 9) (.r 1)⟩,⟨some (7,true),.bin (some 10) .num .lss (.r 8) (.r 9)⟩,⟨none,.pick (some 11) (.r 7) (.r 10) (.c (.lit (.bool false)))⟩,vo 4 11]
abbrev f25_3:AC:=.seq f25_4 .ret
abbrev f25_1:AC:=.seq f25_2 f25_3
def c_f25:AFun:=⟨12,[.tmp 4],f25_1⟩
theorem k_f25:kX x_f25 25 c_f25:=by delta kX; kernel_rfl
theorem e_f25:eX 25:=by delta eX; kernel_rfl

def n_f26:Nat:=26
def x_f26:=xX 19 [0,1,4,5,6,7,8,10,11,13,15,17,18] [] [(2,[0,1],[]),(12,[0,1,7,8],[]),(26,[0,1,7,8],[]),(104,[0,1,7,8,9],[]),(421,[],[]),(1688,[0,1,5,7,8],[]),(3378,[0,1,5,7,8,16],[]),(13516,[4],[]),(423,[0,1,7,8],[]),(14,[4],[])]
abbrev f26_2:AC:=.ops [0,1] [] [⟨none,.mv (some 4) (.c (.lit (.int .i64 0)))⟩]
abbrev f26_5:AC:=.ops [0,1,7,8] [] [vv 6 0,⟨none,.len (some 7) .sl (.r 6)⟩,⟨none,.mv (some 8) (.c (.lit (.int .i64 0)))⟩]
abbrev f26_9:AC:=.ops [0,1,7,8,9] [] [⟨none,.bin (some 9) .num .lss (.r 8) (.r 7)⟩]
abbrev f26_11:AC:=.cond (.r 9) .skip (.exit [] [] 0)
abbrev f26_15:AC:=.ops [0,1,5,7,8] [] [vv 10 8,vo 5 10]
abbrev f26_17:AC:=.ops [0,1,5,7,8,16] [] [vv 11 1,vv 12 0,vv 13 5,⟨none,.ixS (some 14) (.r 12) (.r 13) 1⟩,vl 15 14,⟨none,.bin (some 16) (.nil .ptr) .eql (.r 11) (.r 15)⟩]
abbrev f26_20:AC:=.ops [4] [] [vv 17 5,vo 4 17]
abbrev f26_19:AC:=.seq f26_20 .ret
abbrev f26_18:AC:=.cond (.r 16) f26_19 .skip
abbrev f26_16:AC:=.seq f26_17 f26_18
abbrev f26_14:AC:=.seq f26_15 f26_16
abbrev f26_13:AC:=.block 1 f26_14
abbrev f26_21:AC:=.ops [0,1,7,8] [] [vb 18 .add 8 1,vv 8 18]
abbrev f26_12:AC:=.seq f26_13 f26_21
abbrev f26_10:AC:=.seq f26_11 f26_12
abbrev f26_8:AC:=.seq f26_9 f26_10
def f26_7:AC:=.loop [0,1,7,8] [] f26_8
theorem f26_7w:aC P id m f26_7 sf st Q = aH (aC P id m f26_8) [0,1,7,8] [] sf st Q:=rfl
abbrev f26_6:AC:=.block 0 f26_7
abbrev f26_4:AC:=.seq f26_5 f26_6
abbrev f26_23:AC:=.ops [4] [] [⟨none,.mv (some 4) (.c (.lit (.int .i64 (-1))))⟩]
abbrev f26_22:AC:=.seq f26_23 .ret
abbrev f26_3:AC:=.seq f26_4 f26_22
abbrev f26_1:AC:=.seq f26_2 f26_3
def c_f26:AFun:=⟨19,[.tmp 4],f26_1⟩
theorem k_f26:kX x_f26 26 c_f26:=by delta kX; kernel_rfl
theorem e_f26:eX 26:=by delta eX; kernel_rfl

def n_f27:Nat:=27
def x_f27:=xX 14 [0,2,3,4,5,6,7,8,10,11,12,13] [11] [(2,[0],[]),(12,[0,9],[]),(52,[2,3],[]),(14,[2,3],[])]
abbrev f27_2:AC:=.ops [0] [] [⟨none,.mv (some 2) (.c (.lit (.pointer none)))⟩,⟨none,.mv (some 3) (.c (.lit (.int .i64 0)))⟩]
abbrev f27_5:AC:=.ops [0,9] [] [vv 4 0,vb 5 .lss 4 1,vv 6 5,⟨some (6,false),.mv (some 7) (.r 0)⟩,⟨some (6,false),.bin (some 8) .num .gtr (.r 7) (.c (.lit (.int .i64 4096)))⟩,⟨none,.pick (some 9) (.r 6) (.c (.lit (.bool true))) (.r 8)⟩]
abbrev f27_8:AC:=.ops [2,3] [] [⟨none,.mv (some 2) (.c (.lit (.pointer none)))⟩,⟨none,.mv (some 3) (.c (.lit (.int .i64 2)))⟩]
abbrev f27_7:AC:=.seq f27_8 .ret
abbrev f27_6:AC:=.cond (.r 9) f27_7 .skip
abbrev f27_4:AC:=.seq f27_5 f27_6
abbrev f27_10:AC:=.ops [2,3] [] [vv 10 0,⟨none,.x (some 11) (.mksB 1 1 (.lit (.int .u8 0)) (.r 10) (.r 10))⟩,⟨none,.bst (some 12) [(0,1),(1,1),(2,1)] (.agg [(.lit (.slice none 0 0)),(.lit (.int .i64 0)),(.lit (.int .i64 0))]) [(0,(.r 11))]⟩,⟨none,.boxB 13 3 (.r 12)⟩,vo 2 13,⟨none,.mv (some 3) (.c (.lit (.int .i64 0)))⟩]
abbrev f27_9:AC:=.seq f27_10 .ret
abbrev f27_3:AC:=.seq f27_4 f27_9
abbrev f27_1:AC:=.seq f27_2 f27_3
def c_f27:AFun:=⟨14,[.tmp 2,.tmp 3],f27_1⟩
theorem k_f27:kX x_f27 27 c_f27:=by delta kX; kernel_rfl
theorem e_f27:eX 27:=by delta eX; kernel_rfl

def n_f28:Nat:=28
def x_f28:=xX 38 [0,1,2,6,8,9,11,12,13,15,16,17,20,24,25,26,27,28,29,30,31,32,33,34,35,36] [] [(2,[0,1,2],[]),(24,[0,1,2,7],[]),(100,[6],[]),(102,[0,1,2,10],[]),(412,[6],[]),(414,[0,1,2,14],[]),(1660,[6],[]),(1662,[0,1,2,18],[]),(6652,[6],[]),(14,[],[]),(30,[6],[])]
abbrev f28_2:AC:=.ops [0,1,2] [] [⟨none,.mv (some 6) (.c (.lit (.int .i64 0)))⟩]
abbrev f28_6:AC:=.ops [0,1,2,7] [] [vv 8 0,⟨none,.call (some 9) false (.f 24) [(.r 8)]⟩,vo 7 9]
abbrev f28_9:AC:=.ops [6] [] [⟨none,.mv (some 6) (.c (.lit (.int .i64 1)))⟩]
abbrev f28_8:AC:=.seq f28_9 .ret
abbrev f28_11:AC:=.ops [0,1,2,10] [] [vv 11 1,⟨none,.call (some 12) false (.f 25) [(.r 11),(.c (.lit (.int .i64 16)))]⟩,⟨none,.un (some 13) .not (.r 12)⟩,vo 10 13]
abbrev f28_14:AC:=.ops [6] [] [⟨none,.mv (some 6) (.c (.lit (.int .i64 2)))⟩]
abbrev f28_13:AC:=.seq f28_14 .ret
abbrev f28_16:AC:=.ops [0,1,2,14] [] [vv 15 2,⟨none,.len (some 16) .sl (.r 15)⟩,vb 17 .gtr 16 1024,vo 14 17]
abbrev f28_19:AC:=.ops [6] [] [⟨none,.mv (some 6) (.c (.lit (.int .i64 5)))⟩]
abbrev f28_18:AC:=.seq f28_19 .ret
abbrev f28_21:AC:=.ops [0,1,2,18] [] [vv 19 0,vv 20 1,vn 21 19,vd 22 21 64,⟨none,.ixA (some 23) (.r 22) (.r 20) 16 1⟩,vl 24 23,⟨none,.call (some 25) false (.f 44) [(.r 24)]⟩,vb 26 .gtr 25 0,vv 27 26,⟨some (27,false),.mv (some 28) (.r 0)⟩,⟨some (27,false),.mv (some 29) (.r 1)⟩,⟨some (27,false),.mv (some 30) (.r 2)⟩,⟨some (27,false),.call (some 31) false (.f 45) [(.r 28),(.r 29),(.r 30)]⟩,⟨some (27,false),.un (some 32) .not (.r 31)⟩,⟨none,.pick (some 33) (.r 27) (.c (.lit (.bool true))) (.r 32)⟩,vo 18 33]
abbrev f28_24:AC:=.ops [6] [] [⟨none,.mv (some 6) (.c (.lit (.int .i64 16)))⟩]
abbrev f28_23:AC:=.seq f28_24 .ret
abbrev f28_22:AC:=.cond (.r 18) f28_23 .skip
abbrev f28_20:AC:=.seq f28_21 f28_22
abbrev f28_17:AC:=.cond (.r 14) f28_18 f28_20
abbrev f28_15:AC:=.seq f28_16 f28_17
abbrev f28_12:AC:=.cond (.r 10) f28_13 f28_15
abbrev f28_10:AC:=.seq f28_11 f28_12
abbrev f28_7:AC:=.cond (.r 7) f28_8 f28_10
abbrev f28_5:AC:=.seq f28_6 f28_7
abbrev f28_4:AC:=.block 0 f28_5
abbrev f28_26:AC:=.ops [] [] [vv 34 0,vv 35 1,vv 36 2,⟨none,.call (some 37) false (.f 46) [(.r 34),(.r 35),(.r 36)]⟩]
abbrev f28_28:AC:=.ops [6] [] [⟨none,.mv (some 6) (.c (.lit (.int .i64 0)))⟩]
abbrev f28_27:AC:=.seq f28_28 .ret
abbrev f28_25:AC:=.seq f28_26 f28_27
abbrev f28_3:AC:=.seq f28_4 f28_25
abbrev f28_1:AC:=.seq f28_2 f28_3
def c_f28:AFun:=⟨38,[.tmp 6],f28_1⟩
theorem k_f28:kX x_f28 28 c_f28:=by delta kX; kernel_rfl
theorem e_f28:eX 28:=by delta eX; kernel_rfl

def n_f29:Nat:=29
def x_f29:=xX 69 [0,1,2,3,8,9,12,13,15,16,18,19,20,21,22,23,24,25,27,28,29,30,34,35,36,37,38,40,41,42,43,45,47,51,52,53,54,55,56,58,62,63,64,65,66,67,68] [] [(2,[0,1,2,3],[]),(24,[0,1,2,3,14],[]),(100,[8,9],[]),(102,[0,1,2,3,17],[]),(412,[8,9],[]),(414,[0,1,2,3,26],[]),(1660,[8,9],[]),(28,[0,1,2,3,11],[]),(58,[0,1,2,3,39],[]),(236,[8,9],[]),(60,[0,1,2,3,44],[]),(244,[8,9],[]),(62,[0,1,2,3,12,13],[]),(252,[0,1,2,3,12,13,57],[]),(1012,[8,9],[]),(254,[],[]),(510,[8,9],[])]
abbrev f29_2:AC:=.ops [0,1,2,3] [] [⟨none,.mv (some 8) (.c (.lit (.bool false)))⟩,⟨none,.mv (some 9) (.c (.lit (.int .i64 0)))⟩]
abbrev f29_6:AC:=.ops [0,1,2,3,14] [] [vv 15 0,⟨none,.call (some 16) false (.f 24) [(.r 15)]⟩,vo 14 16]
abbrev f29_9:AC:=.ops [8,9] [] [⟨none,.mv (some 8) (.c (.lit (.bool false)))⟩,⟨none,.mv (some 9) (.c (.lit (.int .i64 1)))⟩]
abbrev f29_8:AC:=.seq f29_9 .ret
abbrev f29_11:AC:=.ops [0,1,2,3,17] [] [vv 18 2,⟨none,.call (some 19) false (.f 25) [(.r 18),(.c (.lit (.int .i64 16)))]⟩,⟨none,.un (some 20) .not (.r 19)⟩,vv 21 20,⟨some (21,false),.mv (some 22) (.r 1)⟩,⟨some (21,false),.call (some 23) false (.f 25) [(.r 22),(.c (.lit (.int .i64 64)))]⟩,⟨some (21,false),.un (some 24) .not (.r 23)⟩,⟨none,.pick (some 25) (.r 21) (.c (.lit (.bool true))) (.r 24)⟩,vo 17 25]
abbrev f29_14:AC:=.ops [8,9] [] [⟨none,.mv (some 8) (.c (.lit (.bool false)))⟩,⟨none,.mv (some 9) (.c (.lit (.int .i64 2)))⟩]
abbrev f29_13:AC:=.seq f29_14 .ret
abbrev f29_16:AC:=.ops [0,1,2,3,26] [] [vv 27 3,⟨none,.len (some 28) .sl (.r 27)⟩,vb 29 .gtr 28 1024,vo 26 29]
abbrev f29_19:AC:=.ops [8,9] [] [⟨none,.mv (some 8) (.c (.lit (.bool false)))⟩,⟨none,.mv (some 9) (.c (.lit (.int .i64 5)))⟩]
abbrev f29_18:AC:=.seq f29_19 .ret
abbrev f29_17:AC:=.cond (.r 26) f29_18 .skip
abbrev f29_15:AC:=.seq f29_16 f29_17
abbrev f29_12:AC:=.cond (.r 17) f29_13 f29_15
abbrev f29_10:AC:=.seq f29_11 f29_12
abbrev f29_7:AC:=.cond (.r 14) f29_8 f29_10
abbrev f29_5:AC:=.seq f29_6 f29_7
abbrev f29_4:AC:=.block 0 f29_5
abbrev f29_22:AC:=.ops [0,1,2,3,11] [] [vv 31 0,vn 32 31,vd 33 32 80,vl 34 33,vv 35 1,⟨none,.lookup (some 36) (.int .i64) (.agg [(.lit (.int .i64 0)),(.lit (.int .u64 0)),(.lit (.slice none 0 0))]) true (.r 34) (.r 35)⟩,vv 30 36,ve 37 30 0,ve 38 30 1,⟨none,.newL 10 [(.lit (.int .i64 0)),(.lit (.int .u64 0)),(.lit (.slice none 0 0))]⟩,⟨none,.store 3 (.r 10) (.r 37)⟩,vo 11 38]
abbrev f29_24:AC:=.ops [0,1,2,3,39] [] [vv 39 11]
abbrev f29_27:AC:=.ops [8,9] [] [⟨none,.mv (some 8) (.c (.lit (.bool false)))⟩,⟨none,.mv (some 9) (.c (.lit (.int .i64 11)))⟩]
abbrev f29_26:AC:=.seq f29_27 .ret
abbrev f29_25:AC:=.cond (.r 39) f29_26 .skip
abbrev f29_23:AC:=.seq f29_24 f29_25
abbrev f29_21:AC:=.seq f29_22 f29_23
abbrev f29_30:AC:=.ops [0,1,2,3,44] [] [vv 40 0,vv 41 2,vv 42 3,⟨none,.call (some 43) false (.f 28) [(.r 40),(.r 41),(.r 42)]⟩,vb 44 .eql 43 0]
abbrev f29_33:AC:=.ops [8,9] [] [⟨none,.mv (some 8) (.c (.lit (.bool true)))⟩,⟨none,.mv (some 9) (.c (.lit (.int .i64 0)))⟩]
abbrev f29_32:AC:=.seq f29_33 .ret
abbrev f29_31:AC:=.cond (.r 44) f29_32 .skip
abbrev f29_29:AC:=.seq f29_30 f29_31
abbrev f29_35:AC:=.ops [0,1,2,3,12,13] [] [vv 46 0,vv 47 2,vn 48 46,vd 49 48 64,⟨none,.ixA (some 50) (.r 49) (.r 47) 16 1⟩,vl 51 50,vv 52 1,⟨none,.call (some 53) false (.f 47) [(.r 51),(.r 52)]⟩,vv 45 53,ve 54 45 0,ve 55 45 1,vo 12 54,vo 13 55]
abbrev f29_38:AC:=.ops [0,1,2,3,12,13,57] [] [vv 56 13,vb 57 .neq 56 0]
abbrev f29_41:AC:=.ops [8,9] [] [vv 58 13,⟨none,.mv (some 8) (.c (.lit (.bool false)))⟩,vo 9 58]
abbrev f29_40:AC:=.seq f29_41 .ret
abbrev f29_39:AC:=.cond (.r 57) f29_40 .skip
abbrev f29_37:AC:=.seq f29_38 f29_39
abbrev f29_43:AC:=.draw [] [] [] [vv 59 0,vn 60 59,vd 61 60 80,vl 62 61,vv 63 1,vv 64 2,vv 65 12,vv 66 3,⟨none,.call (some 67) true (.f 42) [(.r 66)]⟩,⟨none,.bst (some 68) [(0,1),(1,1),(2,1)] (.agg [(.lit (.int .i64 0)),(.lit (.int .u64 0)),(.lit (.slice none 0 0))]) [(0,(.r 64)),(1,(.r 65)),(2,(.r 67))]⟩] [⟨none,.upd (.int .i64) (.r 62) (.r 63) (.r 68)⟩]
abbrev f29_45:AC:=.ops [8,9] [] [⟨none,.mv (some 8) (.c (.lit (.bool false)))⟩,⟨none,.mv (some 9) (.c (.lit (.int .i64 0)))⟩]
abbrev f29_44:AC:=.seq f29_45 .ret
abbrev f29_42:AC:=.seq f29_43 f29_44
abbrev f29_36:AC:=.seq f29_37 f29_42
abbrev f29_34:AC:=.seq f29_35 f29_36
abbrev f29_28:AC:=.seq f29_29 f29_34
abbrev f29_20:AC:=.seq f29_21 f29_28
abbrev f29_3:AC:=.seq f29_4 f29_20
abbrev f29_1:AC:=.seq f29_2 f29_3
def c_f29:AFun:=⟨69,[.tmp 8,.tmp 9],f29_1⟩
theorem k_f29:kX x_f29 29 c_f29:=by delta kX; kernel_rfl
theorem e_f29:eX 29:=by delta eX; kernel_rfl

def n_f30:Nat:=30
def x_f30:=xX 35 [0,1,2,3,4,10,11,12,13,14,15,16,17,18,19,20,21,22,23,24,25,26,27,28,29,30,31,32,33,34] [] [(2,[0,1,2,3,4],[]),(6,[2,3,4,11,12,13],[]),(14,[10],[])]
abbrev f30_2:AC:=.ops [0,1,2,3,4] [] [⟨none,.mv (some 10) (.c (.lit (.bool false)))⟩]
abbrev f30_4:AC:=.ops [2,3,4,11,12,13] [] [vv 15 0,vv 16 1,⟨none,.call (some 17) false (.f 33) [(.r 15),(.r 16)]⟩,vv 14 17,ve 18 14 0,ve 19 14 1,ve 20 14 2,vo 11 18,vo 12 19,vo 13 20]
abbrev f30_6:AC:=.ops [10] [] [vv 21 11,⟨none,.conv (some 22) .bs (.r 21)⟩,vv 23 2,⟨none,.bin (some 24) .num .eql (.r 22) (.r 23)⟩,vv 25 24,⟨some (25,true),.mv (some 26) (.r 12)⟩,⟨some (25,true),.mv (some 27) (.r 3)⟩,⟨some (25,true),.call (some 28) false (.f 43) [(.r 26),(.r 27)]⟩,⟨none,.pick (some 29) (.r 25) (.r 28) (.c (.lit (.bool false)))⟩,vv 30 29,⟨some (30,true),.mv (some 31) (.r 13)⟩,⟨some (30,true),.mv (some 32) (.r 4)⟩,⟨some (30,true),.bin (some 33) .num .eql (.r 31) (.r 32)⟩,⟨none,.pick (some 34) (.r 30) (.r 33) (.c (.lit (.bool false)))⟩,vo 10 34]
abbrev f30_5:AC:=.seq f30_6 .ret
abbrev f30_3:AC:=.seq f30_4 f30_5
abbrev f30_1:AC:=.seq f30_2 f30_3
def c_f30:AFun:=⟨35,[.tmp 10],f30_1⟩
theorem k_f30:kX x_f30 30 c_f30:=by delta kX; kernel_rfl
theorem e_f30:eX 30:=by delta eX; kernel_rfl

def n_f31:Nat:=31
def x_f31:=xX 18 [0,1,4,5,6,7,8,9,10,13,17] [] [(2,[0,1],[]),(12,[0,1,11],[]),(52,[4],[]),(14,[4],[])]
abbrev f31_2:AC:=.ops [0,1] [] [⟨none,.mv (some 4) (.c (.lit (.pointer none)))⟩]
abbrev f31_5:AC:=.ops [0,1,11] [] [vv 5 0,⟨none,.call (some 6) false (.f 24) [(.r 5)]⟩,vv 7 6,⟨some (7,false),.mv (some 8) (.r 1)⟩,⟨some (7,false),.call (some 9) false (.f 25) [(.r 8),(.c (.lit (.int .i64 64)))]⟩,⟨some (7,false),.un (some 10) .not (.r 9)⟩,⟨none,.pick (some 11) (.r 7) (.c (.lit (.bool true))) (.r 10)⟩]
abbrev f31_8:AC:=.ops [4] [] [⟨none,.mv (some 4) (.c (.lit (.pointer none)))⟩]
abbrev f31_7:AC:=.seq f31_8 .ret
abbrev f31_6:AC:=.cond (.r 11) f31_7 .skip
abbrev f31_4:AC:=.seq f31_5 f31_6
abbrev f31_10:AC:=.ops [4] [] [vv 12 0,vv 13 1,vn 14 12,vd 15 14 0,⟨none,.ixA (some 16) (.r 15) (.r 13) 64 1⟩,vl 17 16,vo 4 17]
abbrev f31_9:AC:=.seq f31_10 .ret
abbrev f31_3:AC:=.seq f31_4 f31_9
abbrev f31_1:AC:=.seq f31_2 f31_3
def c_f31:AFun:=⟨18,[.tmp 4],f31_1⟩
theorem k_f31:kX x_f31 31 c_f31:=by delta kX; kernel_rfl
theorem e_f31:eX 31:=by delta eX; kernel_rfl

def n_f32:Nat:=32
def x_f32:=xX 63 [0,1,4,5,6,8,9,11,15,16,17,18,19,20,21,22,23,24,28,29,30,31,32,33,35,37,41,43,44,48,49,50,51,56,57,58,59,60,61,62] [] [(2,[0,1],[]),(6,[0,1,5],[]),(14,[0,1,5],[]),(112,[0,1,5,6,8],[]),(452,[0,1,5,6,34],[]),(1812,[4],[]),(454,[0,1,5,6],[]),(910,[0,1,5,6],[]),(1822,[0,1,5,6],[]),(1823,[0,1,5],[])]
abbrev f32_2:AC:=.ops [0,1] [] [⟨none,.mv (some 4) (.c (.lit (.slice none 0 0)))⟩]
abbrev f32_4:AC:=.ops [0,1,5] [] [⟨none,.mv (some 5) (.c (.lit (.slice none 0 0)))⟩]
abbrev f32_9:AC:=.ops [0,1,5,6,8] [] [vv 10 0,vv 11 1,vn 12 10,vd 13 12 64,⟨none,.ixA (some 14) (.r 13) (.r 11) 16 1⟩,vl 15 14,⟨none,.call (some 16) false (.f 48) [(.r 15)]⟩,vv 9 16,ve 17 9 0,ve 18 9 1,ve 19 9 2,vo 6 17,vo 7 18,vo 8 19]
abbrev f32_12:AC:=.ops [0,1,5,6,34] [] [vv 20 8,vb 21 .neq 20 0,vv 22 21,⟨some (22,false),.mv (some 23) (.r 0)⟩,⟨some (22,false),.mv (some 24) (.r 1)⟩,⟨some (22,false),.mv (some 25) (.r 0)⟩,⟨some (22,false),.nilck (some 26) (.r 25)⟩,⟨some (22,false),.addr (some 27) (.r 26) 80⟩,⟨some (22,false),.load (some 28) (.r 27) none⟩,⟨some (22,false),.mv (some 29) (.r 6)⟩,⟨some (22,false),.lookup (some 30) (.int .i64) (.agg [(.lit (.int .i64 0)),(.lit (.int .u64 0)),(.lit (.slice none 0 0))]) false (.r 28) (.r 29)⟩,⟨some (22,false),.field (some 31) (.r 30) 2 none⟩,⟨some (22,false),.call (some 32) false (.f 45) [(.r 23),(.r 24),(.r 31)]⟩,⟨some (22,false),.un (some 33) .not (.r 32)⟩,⟨none,.pick (some 34) (.r 22) (.c (.lit (.bool true))) (.r 33)⟩]
abbrev f32_15:AC:=.ops [4] [] [vv 35 5,vo 4 35]
abbrev f32_14:AC:=.seq f32_15 .ret
abbrev f32_13:AC:=.cond (.r 34) f32_14 .skip
abbrev f32_11:AC:=.seq f32_12 f32_13
abbrev f32_17:AC:=.ops [0,1,5,6] [] [vv 36 0,vv 37 1,vn 38 36,vd 39 38 64,⟨none,.ixA (some 40) (.r 39) (.r 37) 16 1⟩,vl 41 40,⟨none,.call (some 42) false (.f 49) [(.r 41)]⟩]
abbrev f32_19:AC:=.ops [0,1,5,6] [] [vv 43 0,vv 44 1,vv 45 0,vn 46 45,vd 47 46 80,vl 48 47,vv 49 6,⟨none,.lookup (some 50) (.int .i64) (.agg [(.lit (.int .i64 0)),(.lit (.int .u64 0)),(.lit (.slice none 0 0))]) false (.r 48) (.r 49)⟩,⟨none,.field (some 51) (.r 50) 2 none⟩,⟨none,.call (some 52) false (.f 46) [(.r 43),(.r 44),(.r 51)]⟩]
abbrev f32_21:AC:=.ops [0,1,5,6] [] [vv 53 0,vn 54 53,vd 55 54 80,vl 56 55,vv 57 6,⟨none,.del (.int .i64) (.r 56) (.r 57)⟩]
abbrev f32_22:AC:=.ops [0,1,5] [] [vo 58 5,vv 59 6,⟨none,.bst (some 60) [(0,1),(1,1),(2,1),(3,1)] (.agg [(.lit (.int .i64 0)),(.lit (.int .i64 0)),(.lit (.int .i64 0)),(.lit (.int .i64 0))]) [(0,(.r 59))]⟩,⟨none,.bsl (some 61) 4 1 (.agg [(.lit (.int .i64 0)),(.lit (.int .i64 0)),(.lit (.int .i64 0)),(.lit (.int .i64 0))]) [(0,(.r 60))]⟩,⟨none,.appS 62 58 4 32 (.r 61)⟩,vo 5 62]
abbrev f32_20:AC:=.seq f32_21 f32_22
abbrev f32_18:AC:=.seq f32_19 f32_20
abbrev f32_16:AC:=.seq f32_17 f32_18
abbrev f32_10:AC:=.seq f32_11 f32_16
abbrev f32_8:AC:=.seq f32_9 f32_10
abbrev f32_7:AC:=.block 1 f32_8
def f32_6:AC:=.loop [0,1,5] [] f32_7
theorem f32_6w:aC P id m f32_6 sf st Q = aH (aC P id m f32_7) [0,1,5] [] sf st Q:=rfl
abbrev f32_5:AC:=.block 0 f32_6
abbrev f32_3:AC:=.seq f32_4 f32_5
abbrev f32_1:AC:=.seq f32_2 f32_3
def c_f32:AFun:=⟨63,[.tmp 4],f32_1⟩
theorem k_f32:kX x_f32 32 c_f32:=by delta kX; kernel_rfl
theorem e_f32:eX 32:=by delta eX; kernel_rfl

def n_f33:Nat:=33
def x_f33:=xX 30 [0,1,4,5,6,7,8,9,11,12,13,14,19,21,22,23,24,28,29] [] [(2,[0,1],[]),(12,[0,1,10],[]),(52,[4,5,6],[]),(14,[0,7],[]),(60,[0,7,15],[]),(244,[4,5,6],[]),(124,[0,7,20],[]),(500,[4,5,6],[]),(126,[0,7,8],[]),(254,[4,5,6],[])]
abbrev f33_2:AC:=.ops [0,1] [] [⟨none,.mv (some 4) (.c (.lit (.slice none 0 0)))⟩,⟨none,.mv (some 5) (.c (.lit (.slice none 0 0)))⟩,⟨none,.mv (some 6) (.c (.lit (.int .i64 0)))⟩]
abbrev f33_5:AC:=.ops [0,1,10] [] [vv 9 0,⟨none,.call (some 10) false (.f 24) [(.r 9)]⟩]
abbrev f33_8:AC:=.ops [4,5,6] [] [⟨none,.mv (some 4) (.c (.lit (.slice none 0 0)))⟩,⟨none,.mv (some 5) (.c (.lit (.slice none 0 0)))⟩,⟨none,.mv (some 6) (.c (.lit (.int .i64 1)))⟩]
abbrev f33_7:AC:=.seq f33_8 .ret
abbrev f33_6:AC:=.cond (.r 10) f33_7 .skip
abbrev f33_4:AC:=.seq f33_5 f33_6
abbrev f33_10:AC:=.ops [0,7] [] [vv 11 0,vv 12 1,⟨none,.call (some 13) false (.f 31) [(.r 11),(.r 12)]⟩,vo 7 13]
abbrev f33_13:AC:=.ops [0,7,15] [] [vv 14 7,⟨none,.bin (some 15) (.nil .ptr) .eql (.r 14) (.c (.lit (.pointer none)))⟩]
abbrev f33_16:AC:=.ops [4,5,6] [] [⟨none,.mv (some 4) (.c (.lit (.slice none 0 0)))⟩,⟨none,.mv (some 5) (.c (.lit (.slice none 0 0)))⟩,⟨none,.mv (some 6) (.c (.lit (.int .i64 9)))⟩]
abbrev f33_15:AC:=.seq f33_16 .ret
abbrev f33_14:AC:=.cond (.r 15) f33_15 .skip
abbrev f33_12:AC:=.seq f33_13 f33_14
abbrev f33_19:AC:=.ops [0,7,20] [] [vv 16 7,vn 17 16,vd 18 17 3,vl 19 18,vb 20 .eql 19 0]
abbrev f33_22:AC:=.ops [4,5,6] [] [⟨none,.mv (some 4) (.c (.lit (.slice none 0 0)))⟩,⟨none,.mv (some 5) (.c (.lit (.slice none 0 0)))⟩,⟨none,.mv (some 6) (.c (.lit (.int .i64 16)))⟩]
abbrev f33_21:AC:=.seq f33_22 .ret
abbrev f33_20:AC:=.cond (.r 20) f33_21 .skip
abbrev f33_18:AC:=.seq f33_19 f33_20
abbrev f33_24:AC:=.ops [0,7,8] [] [vv 21 7,⟨none,.call (some 22) false (.f 50) [(.r 21)]⟩,vo 8 22]
abbrev f33_26:AC:=.ops [4,5,6] [] [vv 23 8,vv 24 0,vv 25 7,vn 26 25,vd 27 26 0,vl 28 27,⟨none,.call (some 29) false (.f 32) [(.r 24),(.r 28)]⟩,vo 4 23,vo 5 29,⟨none,.mv (some 6) (.c (.lit (.int .i64 0)))⟩]
abbrev f33_25:AC:=.seq f33_26 .ret
abbrev f33_23:AC:=.seq f33_24 f33_25
abbrev f33_17:AC:=.seq f33_18 f33_23
abbrev f33_11:AC:=.seq f33_12 f33_17
abbrev f33_9:AC:=.seq f33_10 f33_11
abbrev f33_3:AC:=.seq f33_4 f33_9
abbrev f33_1:AC:=.seq f33_2 f33_3
def c_f33:AFun:=⟨30,[.tmp 4,.tmp 5,.tmp 6],f33_1⟩
theorem k_f33:kX x_f33 33 c_f33:=by delta kX; kernel_rfl
theorem e_f33:eX 33:=by delta eX; kernel_rfl

def n_f34:Nat:=34
def x_f34:=xX 43 [0,1,4,5,7,8,10,11,13,17,18,19,20,21,22,26,30,32,37,38,39,41,42] [] [(2,[0,1],[]),(12,[0,1,9],[]),(52,[4,5],[]),(28,[0,1,12],[]),(116,[4,5],[]),(30,[0,1,6,7],[6]),(124,[0,1,6,23],[6]),(500,[4,5],[]),(126,[0,1,6],[6]),(254,[0,6],[6]),(510,[4,5],[])]
abbrev f34_2:AC:=.ops [0,1] [] [⟨none,.mv (some 4) (.c (.lit (.slice none 0 0)))⟩,⟨none,.mv (some 5) (.c (.lit (.int .i64 0)))⟩]
abbrev f34_5:AC:=.ops [0,1,9] [] [vv 8 0,⟨none,.call (some 9) false (.f 24) [(.r 8)]⟩]
abbrev f34_8:AC:=.ops [4,5] [] [⟨none,.mv (some 4) (.c (.lit (.slice none 0 0)))⟩,⟨none,.mv (some 5) (.c (.lit (.int .i64 1)))⟩]
abbrev f34_7:AC:=.seq f34_8 .ret
abbrev f34_6:AC:=.cond (.r 9) f34_7 .skip
abbrev f34_4:AC:=.seq f34_5 f34_6
abbrev f34_11:AC:=.ops [0,1,12] [] [vv 10 1,⟨none,.call (some 11) false (.f 25) [(.r 10),(.c (.lit (.int .i64 64)))]⟩,⟨none,.un (some 12) .not (.r 11)⟩]
abbrev f34_14:AC:=.ops [4,5] [] [⟨none,.mv (some 4) (.c (.lit (.slice none 0 0)))⟩,⟨none,.mv (some 5) (.c (.lit (.int .i64 2)))⟩]
abbrev f34_13:AC:=.seq f34_14 .ret
abbrev f34_12:AC:=.cond (.r 12) f34_13 .skip
abbrev f34_10:AC:=.seq f34_11 f34_12
abbrev f34_16:AC:=.ops [0,1,6,7] [6] [vv 14 0,vn 15 14,vd 16 15 80,vl 17 16,vv 18 1,⟨none,.lookup (some 19) (.int .i64) (.agg [(.lit (.int .i64 0)),(.lit (.int .u64 0)),(.lit (.slice none 0 0))]) true (.r 17) (.r 18)⟩,vv 13 19,ve 20 13 0,ve 21 13 1,⟨none,.newL 6 [(.lit (.int .i64 0)),(.lit (.int .u64 0)),(.lit (.slice none 0 0))]⟩,⟨none,.store 3 (.r 6) (.r 20)⟩,vo 7 21]
abbrev f34_19:AC:=.ops [0,1,6,23] [6] [vv 22 7,⟨none,.un (some 23) .not (.r 22)⟩]
abbrev f34_22:AC:=.ops [4,5] [] [⟨none,.mv (some 4) (.c (.lit (.slice none 0 0)))⟩,⟨none,.mv (some 5) (.c (.lit (.int .i64 9)))⟩]
abbrev f34_21:AC:=.seq f34_22 .ret
abbrev f34_20:AC:=.cond (.r 23) f34_21 .skip
abbrev f34_18:AC:=.seq f34_19 f34_20
abbrev f34_24:AC:=.draw [0,1,6] [6] [] [vv 24 0,vd 25 6 0,vl 26 25,vn 27 24,vd 28 27 64,⟨none,.ixA (some 29) (.r 28) (.r 26) 16 1⟩,vl 30 29,vd 31 6 1,vl 32 31] [⟨none,.call (some 33) false (.f 51) [(.r 30),(.r 32)]⟩]
abbrev f34_26:AC:=.ops [0,6] [6] [vv 34 0,vn 35 34,vd 36 35 80,vl 37 36,vv 38 1,⟨none,.del (.int .i64) (.r 37) (.r 38)⟩]
abbrev f34_28:AC:=.ops [4,5] [] [vv 39 0,vd 40 6 0,vl 41 40,⟨none,.call (some 42) false (.f 32) [(.r 39),(.r 41)]⟩,vo 4 42,⟨none,.mv (some 5) (.c (.lit (.int .i64 0)))⟩]
abbrev f34_27:AC:=.seq f34_28 .ret
abbrev f34_25:AC:=.seq f34_26 f34_27
abbrev f34_23:AC:=.seq f34_24 f34_25
abbrev f34_17:AC:=.seq f34_18 f34_23
abbrev f34_15:AC:=.seq f34_16 f34_17
abbrev f34_9:AC:=.seq f34_10 f34_15
abbrev f34_3:AC:=.seq f34_4 f34_9
abbrev f34_1:AC:=.seq f34_2 f34_3
def c_f34:AFun:=⟨43,[.tmp 4,.tmp 5],f34_1⟩
theorem k_f34:kX x_f34 34 c_f34:=by delta kX; kernel_rfl
theorem e_f34:eX 34:=by delta eX; kernel_rfl

def n_f42:Nat:=42
def x_f42:=xX 8 [0,2,3,5,6,7] [] [(2,[0],[]),(12,[0,4],[]),(52,[2],[]),(14,[2],[])]
abbrev f42_2:AC:=.ops [0] [] [⟨none,.mv (some 2) (.c (.lit (.slice none 0 0)))⟩]
abbrev f42_5:AC:=.ops [0,4] [] [vv 3 0,⟨none,.x (some 4) (.nilU .eql (.r 3) (.c (.lit (.slice none 0 0))))⟩]
abbrev f42_8:AC:=.ops [2] [] [⟨none,.mv (some 2) (.c (.lit (.slice none 0 0)))⟩]
abbrev f42_7:AC:=.seq f42_8 .ret
abbrev f42_6:AC:=.cond (.r 4) f42_7 .skip
abbrev f42_4:AC:=.seq f42_5 f42_6
abbrev f42_10:AC:=.ops [2] [] [⟨none,.bsl (some 5) 1 0 (.lit (.int .u8 0)) []⟩,vv 6 0,⟨none,.appS 7 5 1 1 (.r 6)⟩,vo 2 7]
abbrev f42_9:AC:=.seq f42_10 .ret
abbrev f42_3:AC:=.seq f42_4 f42_9
abbrev f42_1:AC:=.seq f42_2 f42_3
def c_f42:AFun:=⟨8,[.tmp 2],f42_1⟩
theorem k_f42:kX x_f42 42 c_f42:=by delta kX; kernel_rfl
theorem e_f42:eX 42:=by delta eX; kernel_rfl

def n_f43:Nat:=43
def x_f43:=xX 26 [0,1,4,5,6,7,8,9,11,12,13,15,16,18,20,22,24] [] [(2,[0,1],[]),(12,[0,1,10],[]),(52,[4],[]),(28,[0,1,5],[]),(58,[0,1,5],[]),(464,[0,1,5,14],[]),(931,[],[]),(1864,[0,1,5,25],[]),(7460,[4],[]),(467,[0,1,5],[]),(30,[4],[])]
abbrev f43_2:AC:=.ops [0,1] [] [⟨none,.mv (some 4) (.c (.lit (.bool false)))⟩]
abbrev f43_5:AC:=.ops [0,1,10] [] [vv 6 0,⟨none,.len (some 7) .sl (.r 6)⟩,vv 8 1,⟨none,.len (some 9) .sl (.r 8)⟩,⟨none,.bin (some 10) .num .neq (.r 7) (.r 9)⟩]
abbrev f43_8:AC:=.ops [4] [] [⟨none,.mv (some 4) (.c (.lit (.bool false)))⟩]
abbrev f43_7:AC:=.seq f43_8 .ret
abbrev f43_6:AC:=.cond (.r 10) f43_7 .skip
abbrev f43_4:AC:=.seq f43_5 f43_6
abbrev f43_11:AC:=.ops [0,1,5] [] [⟨none,.mv (some 5) (.c (.lit (.int .i64 0)))⟩]
abbrev f43_16:AC:=.ops [0,1,5,14] [] [vv 11 5,vv 12 0,⟨none,.len (some 13) .sl (.r 12)⟩,⟨none,.bin (some 14) .num .lss (.r 11) (.r 13)⟩]
abbrev f43_17:AC:=.cond (.r 14) .skip (.exit [] [] 0)
abbrev f43_15:AC:=.seq f43_16 f43_17
abbrev f43_21:AC:=.draw [0,1,5,25] [] [] [vv 17 0,vv 18 5,⟨none,.ixS (some 19) (.r 17) (.r 18) 4⟩,⟨none,.load (some 20) (.r 19) (some 4)⟩,vv 21 1,vv 22 5,⟨none,.ixS (some 23) (.r 21) (.r 22) 4⟩,⟨none,.load (some 24) (.r 23) (some 4)⟩] [⟨none,.bin (some 25) (.agg (.field 0 1 .int (.field 1 1 .int (.field 2 1 .int (.field 3 1 .int .tt))))) .neq (.r 20) (.r 24)⟩]
abbrev f43_24:AC:=.ops [4] [] [⟨none,.mv (some 4) (.c (.lit (.bool false)))⟩]
abbrev f43_23:AC:=.seq f43_24 .ret
abbrev f43_22:AC:=.cond (.r 25) f43_23 .skip
abbrev f43_20:AC:=.seq f43_21 f43_22
abbrev f43_19:AC:=.block 1 f43_20
abbrev f43_25:AC:=.ops [0,1,5] [] [vv 15 5,vb 16 .add 15 1,vo 5 16]
abbrev f43_18:AC:=.seq f43_19 f43_25
abbrev f43_14:AC:=.seq f43_15 f43_18
def f43_13:AC:=.loop [0,1,5] [] f43_14
theorem f43_13w:aC P id m f43_13 sf st Q = aH (aC P id m f43_14) [0,1,5] [] sf st Q:=rfl
abbrev f43_12:AC:=.block 0 f43_13
abbrev f43_10:AC:=.seq f43_11 f43_12
abbrev f43_27:AC:=.ops [4] [] [⟨none,.mv (some 4) (.c (.lit (.bool true)))⟩]
abbrev f43_26:AC:=.seq f43_27 .ret
abbrev f43_9:AC:=.seq f43_10 f43_26
abbrev f43_3:AC:=.seq f43_4 f43_9
abbrev f43_1:AC:=.seq f43_2 f43_3
def c_f43:AFun:=⟨26,[.tmp 4],f43_1⟩
theorem k_f43:kX x_f43 43 c_f43:=by delta kX; kernel_rfl
theorem e_f43:eX 43:=by delta eX; kernel_rfl

def n_f44:Nat:=44
def x_f44:=xX 10 [0,2,3,8,9] [] [(2,[0],[]),(12,[0,4],[]),(52,[2],[]),(14,[2],[])]
abbrev f44_2:AC:=.ops [0] [] [⟨none,.mv (some 2) (.c (.lit (.int .i64 0)))⟩]
abbrev f44_5:AC:=.ops [0,4] [] [vv 3 0,⟨none,.call (some 4) false (.f 59) [(.r 3)]⟩]
abbrev f44_8:AC:=.ops [2] [] [⟨none,.mv (some 2) (.c (.lit (.int .i64 0)))⟩]
abbrev f44_7:AC:=.seq f44_8 .ret
abbrev f44_6:AC:=.cond (.r 4) f44_7 .skip
abbrev f44_4:AC:=.seq f44_5 f44_6
abbrev f44_10:AC:=.ops [2] [] [vv 5 0,vn 6 5,vd 7 6 3,vl 8 7,⟨none,.len (some 9) .mp (.r 8)⟩,vo 2 9]
abbrev f44_9:AC:=.seq f44_10 .ret
abbrev f44_3:AC:=.seq f44_4 f44_9
abbrev f44_1:AC:=.seq f44_2 f44_3
def c_f44:AFun:=⟨10,[.tmp 2],f44_1⟩
theorem k_f44:kX x_f44 44 c_f44:=by delta kX; kernel_rfl
theorem e_f44:eX 44:=by delta eX; kernel_rfl

def n_f45:Nat:=45
def x_f45:=xX 13 [0,1,2,5,6,7,8,9,10,12] [] [(2,[0,1,5],[]),(6,[0,1,5,7],[]),(14,[7],[]),(30,[6],[])]
abbrev f45_2:AC:=.ops [0,1,5] [] [⟨none,.boxB 5 1 (.r 2)⟩,⟨none,.mv (some 6) (.c (.lit (.bool false)))⟩]
abbrev f45_4:AC:=.ops [0,1,5,7] [] [⟨none,.newB 7 [(.lit (.bool false))]⟩,⟨none,.store 1 (.r 7) (.c (.lit (.bool true)))⟩]
abbrev f45_6:AC:=.ops [7] [] [vv 8 0,vv 9 1,⟨none,.mkfn (some 10) 62 [] [(.r 5),(.r 7)]⟩,⟨none,.call (some 11) false (.f 61) [(.r 8),(.r 9),(.r 10)]⟩]
abbrev f45_8:AC:=.ops [6] [] [vl 12 7,vo 6 12]
abbrev f45_7:AC:=.seq f45_8 .ret
abbrev f45_5:AC:=.seq f45_6 f45_7
abbrev f45_3:AC:=.seq f45_4 f45_5
def f62:AC:=.seq f45_2 f45_3
theorem f45_1e:SQ f62 f45_2 f45_3:=rfl
def c_f45:AFun:=⟨13,[.tmp 6],f62⟩
theorem k_f45:kX x_f45 45 c_f45:=by delta kX; kernel_rfl
theorem e_f45:eX 45:=by delta eX; kernel_rfl

def n_f46:Nat:=46
def x_f46:=xX 26 [0,1,2,6,8,9,10,11,12,14,15,16,19,20,21,22,23,25] [] [(2,[0,1,2,6],[]),(6,[2,6],[]),(14,[2,14,15,16],[]),(30,[2,14,15,16],[]),(120,[2,14,15,16,17],[]),(485,[],[]),(1944,[2,8,14,15,16],[]),(3890,[2,9,14,15,16],[]),(3891,[2,14,15,16],[]),(487,[2,14,15,16],[])]
abbrev f46_2:AC:=.ops [0,1,2,6] [] [⟨none,.newB 6 [(.lit (.slice none 0 0))]⟩]
abbrev f46_4:AC:=.ops [2,6] [] [vv 10 0,vv 11 1,⟨none,.mkfn (some 12) 64 [] [(.r 6)]⟩,⟨none,.call (some 13) false (.f 61) [(.r 10),(.r 11),(.r 12)]⟩]
abbrev f46_6:AC:=.ops [2,14,15,16] [] [vl 14 6,⟨none,.len (some 15) .sl (.r 14)⟩,⟨none,.mv (some 16) (.c (.lit (.int .i64 0)))⟩]
abbrev f46_10:AC:=.ops [2,14,15,16,17] [] [⟨none,.bin (some 17) .num .lss (.r 16) (.r 15)⟩]
abbrev f46_12:AC:=.cond (.r 17) .skip (.exit [] [] 0)
abbrev f46_16:AC:=.ops [2,8,14,15,16] [] [⟨none,.ixS (some 18) (.r 14) (.r 16) 1⟩,vl 19 18,vo 8 19]
abbrev f46_18:AC:=.ops [2,9,14,15,16] [] [vv 20 8,⟨none,.mkfn (some 21) 65 [(.r 20)] []⟩,vo 9 21]
abbrev f46_19:AC:=.ops [2,14,15,16] [] [vv 22 9,vv 23 2,⟨none,.call (some 24) false (.r 22) [(.r 23)]⟩]
abbrev f46_17:AC:=.seq f46_18 f46_19
abbrev f46_15:AC:=.seq f46_16 f46_17
abbrev f46_14:AC:=.block 1 f46_15
abbrev f46_20:AC:=.ops [2,14,15,16] [] [vb 25 .add 16 1,vv 16 25]
abbrev f46_13:AC:=.seq f46_14 f46_20
abbrev f46_11:AC:=.seq f46_12 f46_13
abbrev f46_9:AC:=.seq f46_10 f46_11
def f46_8:AC:=.loop [2,14,15,16] [] f46_9
theorem f46_8w:aC P id m f46_8 sf st Q = aH (aC P id m f46_9) [2,14,15,16] [] sf st Q:=rfl
abbrev f46_7:AC:=.block 0 f46_8
abbrev f46_5:AC:=.seq f46_6 f46_7
abbrev f46_3:AC:=.seq f46_4 f46_5
def f64:AC:=.seq f46_2 f46_3
theorem f46_1e:SQ f64 f46_2 f46_3:=rfl
def c_f46:AFun:=⟨26,[],f64⟩
theorem k_f46:kX x_f46 46 c_f46:=by delta kX; kernel_rfl
theorem e_f46:eX 46:=by delta eX; kernel_rfl

def n_f47:Nat:=47
def x_f47:=xX 97 [0,1,4,5,8,9,14,15,16,21,22,29,34,35,40,41,46,53,60,65,66,71,76,81,82,88,96] [] [(2,[0,1],[]),(24,[0,1,7],[]),(100,[4,5],[]),(102,[0,1,10],[]),(412,[4,5],[]),(14,[0,1],[]),(30,[0],[]),(124,[0,47],[]),(250,[0],[]),(502,[0,6],[6]),(1006,[0,6],[6]),(1007,[0],[]),(126,[0],[]),(254,[4,5],[])]
abbrev f47_2:AC:=.ops [0,1] [] [⟨none,.mv (some 4) (.c (.lit (.int .u64 0)))⟩,⟨none,.mv (some 5) (.c (.lit (.int .i64 0)))⟩]
abbrev f47_6:AC:=.ops [0,1,7] [] [vv 8 0,⟨none,.call (some 9) false (.f 59) [(.r 8)]⟩,vo 7 9]
abbrev f47_9:AC:=.ops [4,5] [] [⟨none,.mv (some 4) (.c (.lit (.int .u64 0)))⟩,⟨none,.mv (some 5) (.c (.lit (.int .i64 1)))⟩]
abbrev f47_8:AC:=.seq f47_9 .ret
abbrev f47_11:AC:=.ops [0,1,10] [] [vv 11 0,vn 12 11,vd 13 12 3,vl 14 13,⟨none,.len (some 15) .mp (.r 14)⟩,vb 16 .geq 15 4096,vo 10 16]
abbrev f47_14:AC:=.ops [4,5] [] [⟨none,.mv (some 4) (.c (.lit (.int .u64 0)))⟩,⟨none,.mv (some 5) (.c (.lit (.int .i64 7)))⟩]
abbrev f47_13:AC:=.seq f47_14 .ret
abbrev f47_12:AC:=.cond (.r 10) f47_13 .skip
abbrev f47_10:AC:=.seq f47_11 f47_12
abbrev f47_7:AC:=.cond (.r 7) f47_8 f47_10
abbrev f47_5:AC:=.seq f47_6 f47_7
abbrev f47_4:AC:=.block 0 f47_5
abbrev f47_16:AC:=.ops [0,1] [] [vv 17 0,vn 18 17,vd 19 18 0,vd 20 19 2,vl 21 20,⟨none,.bin (some 22) .num .add (.r 21) (.c (.lit (.int .u64 1)))⟩,vn 23 17,vd 24 23 0,vd 25 24 2,⟨none,.store 1 (.r 25) (.r 22)⟩]
abbrev f47_18:AC:=.draw [0] [] [] [vv 26 0,vn 27 26,vd 28 27 3,vl 29 28,vv 30 0,vn 31 30,vd 32 31 0,vd 33 32 2,vl 34 33,vv 35 1,vv 36 0,vn 37 36,vd 38 37 0,vd 39 38 1,vl 40 39,⟨none,.bst (some 41) [(0,1),(1,1),(2,1)] (.agg [(.lit (.int .i64 0)),(.lit (.int .u64 0)),(.lit (.int .u64 0))]) [(0,(.r 35)),(1,(.r 40))]⟩] [⟨none,.upd (.int .u64) (.r 29) (.r 34) (.r 41)⟩]
abbrev f47_21:AC:=.ops [0,47] [] [vv 42 0,vn 43 42,vd 44 43 0,vd 45 44 1,vl 46 45,⟨none,.bin (some 47) .num .eql (.r 46) (.c (.lit (.int .u64 0)))⟩]
abbrev f47_23:AC:=.ops [0] [] [vv 48 0,vv 49 0,vn 50 49,vd 51 50 0,vd 52 51 2,vl 53 52,vn 54 48,vd 55 54 0,vd 56 55 0,⟨none,.store 1 (.r 56) (.r 53)⟩]
abbrev f47_25:AC:=.draw [0,6] [6] [6] [vv 57 0,vn 58 57,vd 59 58 3,vl 60 59,vv 61 0,vn 62 61,vd 63 62 0,vd 64 63 1,vl 65 64,⟨none,.lookup (some 66) (.int .u64) (.agg [(.lit (.int .i64 0)),(.lit (.int .u64 0)),(.lit (.int .u64 0))]) false (.r 60) (.r 65)⟩,⟨none,.newL 6 [(.lit (.int .i64 0)),(.lit (.int .u64 0)),(.lit (.int .u64 0))]⟩] [⟨none,.store 3 (.r 6) (.r 66)⟩]
abbrev f47_27:AC:=.ops [0,6] [6] [vv 67 0,vn 68 67,vd 69 68 0,vd 70 69 2,vl 71 70,vd 72 6 2,⟨none,.store 1 (.r 72) (.r 71)⟩]
abbrev f47_28:AC:=.draw [0] [] [] [vv 73 0,vn 74 73,vd 75 74 3,vl 76 75,vv 77 0,vn 78 77,vd 79 78 0,vd 80 79 1,vl 81 80,⟨none,.load (some 82) (.r 6) (some 3)⟩] [⟨none,.upd (.int .u64) (.r 76) (.r 81) (.r 82)⟩]
abbrev f47_26:AC:=.seq f47_27 f47_28
abbrev f47_24:AC:=.seq f47_25 f47_26
abbrev f47_22:AC:=.cond (.r 47) f47_23 f47_24
abbrev f47_20:AC:=.seq f47_21 f47_22
abbrev f47_30:AC:=.ops [0] [] [vv 83 0,vv 84 0,vn 85 84,vd 86 85 0,vd 87 86 2,vl 88 87,vn 89 83,vd 90 89 0,vd 91 90 1,⟨none,.store 1 (.r 91) (.r 88)⟩]
abbrev f47_32:AC:=.ops [4,5] [] [vv 92 0,vn 93 92,vd 94 93 0,vd 95 94 2,vl 96 95,vo 4 96,⟨none,.mv (some 5) (.c (.lit (.int .i64 0)))⟩]
abbrev f47_31:AC:=.seq f47_32 .ret
abbrev f47_29:AC:=.seq f47_30 f47_31
abbrev f47_19:AC:=.seq f47_20 f47_29
abbrev f47_17:AC:=.seq f47_18 f47_19
abbrev f47_15:AC:=.seq f47_16 f47_17
abbrev f47_3:AC:=.seq f47_4 f47_15
abbrev f47_1:AC:=.seq f47_2 f47_3
def c_f47:AFun:=⟨97,[.tmp 4,.tmp 5],f47_1⟩
theorem k_f47:kX x_f47 47 c_f47:=by delta kX; kernel_rfl
theorem e_f47:eX 47:=by delta eX; kernel_rfl

def n_f48:Nat:=48
def x_f48:=xX 31 [0,2,3,4,6,7,13,14,18,23,24,25,30] [] [(2,[0],[]),(24,[0,5],[]),(100,[2,3,4],[]),(102,[0,8],[]),(412,[2,3,4],[]),(14,[2,3,4],[])]
abbrev f48_2:AC:=.ops [0] [] [⟨none,.mv (some 2) (.c (.lit (.int .i64 0)))⟩,⟨none,.mv (some 3) (.c (.lit (.int .u64 0)))⟩,⟨none,.mv (some 4) (.c (.lit (.int .i64 0)))⟩]
abbrev f48_6:AC:=.ops [0,5] [] [vv 6 0,⟨none,.call (some 7) false (.f 59) [(.r 6)]⟩,vo 5 7]
abbrev f48_9:AC:=.ops [2,3,4] [] [⟨none,.mv (some 2) (.c (.lit (.int .i64 0)))⟩,⟨none,.mv (some 3) (.c (.lit (.int .u64 0)))⟩,⟨none,.mv (some 4) (.c (.lit (.int .i64 1)))⟩]
abbrev f48_8:AC:=.seq f48_9 .ret
abbrev f48_11:AC:=.ops [0,8] [] [vv 9 0,vn 10 9,vd 11 10 0,vd 12 11 0,vl 13 12,⟨none,.bin (some 14) .num .eql (.r 13) (.c (.lit (.int .u64 0)))⟩,vo 8 14]
abbrev f48_14:AC:=.ops [2,3,4] [] [⟨none,.mv (some 2) (.c (.lit (.int .i64 0)))⟩,⟨none,.mv (some 3) (.c (.lit (.int .u64 0)))⟩,⟨none,.mv (some 4) (.c (.lit (.int .i64 9)))⟩]
abbrev f48_13:AC:=.seq f48_14 .ret
abbrev f48_12:AC:=.cond (.r 8) f48_13 .skip
abbrev f48_10:AC:=.seq f48_11 f48_12
abbrev f48_7:AC:=.cond (.r 5) f48_8 f48_10
abbrev f48_5:AC:=.seq f48_6 f48_7
abbrev f48_4:AC:=.block 0 f48_5
abbrev f48_16:AC:=.draw [2,3,4] [] [] [vv 15 0,vn 16 15,vd 17 16 3,vl 18 17,vv 19 0,vn 20 19,vd 21 20 0,vd 22 21 0,vl 23 22,⟨none,.lookup (some 24) (.int .u64) (.agg [(.lit (.int .i64 0)),(.lit (.int .u64 0)),(.lit (.int .u64 0))]) false (.r 18) (.r 23)⟩,⟨none,.field (some 25) (.r 24) 0 none⟩,vv 26 0,vn 27 26,vd 28 27 0,vd 29 28 0,vl 30 29,vv 2 25] [vo 3 30,⟨none,.mv (some 4) (.c (.lit (.int .i64 0)))⟩]
abbrev f48_15:AC:=.seq f48_16 .ret
abbrev f48_3:AC:=.seq f48_4 f48_15
abbrev f48_1:AC:=.seq f48_2 f48_3
def c_f48:AFun:=⟨31,[.tmp 2,.tmp 3,.tmp 4],f48_1⟩
theorem k_f48:kX x_f48 48 c_f48:=by delta kX; kernel_rfl
theorem e_f48:eX 48:=by delta eX; kernel_rfl

def n_f49:Nat:=49
def x_f49:=xX 22 [0,2,3,4,5,6,7,8,9,10,11,12,13,14,16,17,19,20,21] [] [(2,[0],[]),(6,[0,5,6,7],[]),(28,[0,5,6,7,15],[]),(58,[5,6,7],[]),(30,[2,3,4],[])]
abbrev f49_2:AC:=.ops [0] [] [⟨none,.mv (some 2) (.c (.lit (.int .i64 0)))⟩,⟨none,.mv (some 3) (.c (.lit (.int .u64 0)))⟩,⟨none,.mv (some 4) (.c (.lit (.int .i64 0)))⟩]
abbrev f49_4:AC:=.ops [0,5,6,7] [] [vv 9 0,⟨none,.call (some 10) false (.f 48) [(.r 9)]⟩,vv 8 10,ve 11 8 0,ve 12 8 1,ve 13 8 2,vo 5 11,vo 6 12,vo 7 13]
abbrev f49_7:AC:=.ops [0,5,6,7,15] [] [vv 14 7,vb 15 .eql 14 0]
abbrev f49_9:AC:=.ops [5,6,7] [] [vv 16 0,vv 17 6,⟨none,.call (some 18) false (.f 51) [(.r 16),(.r 17)]⟩]
abbrev f49_8:AC:=.cond (.r 15) f49_9 .skip
abbrev f49_6:AC:=.seq f49_7 f49_8
abbrev f49_11:AC:=.ops [2,3,4] [] [vv 19 5,vv 20 6,vv 21 7,vo 2 19,vo 3 20,vo 4 21]
abbrev f49_10:AC:=.seq f49_11 .ret
abbrev f49_5:AC:=.seq f49_6 f49_10
abbrev f49_3:AC:=.seq f49_4 f49_5
abbrev f49_1:AC:=.seq f49_2 f49_3
def c_f49:AFun:=⟨22,[.tmp 2,.tmp 3,.tmp 4],f49_1⟩
theorem k_f49:kX x_f49 49 c_f49:=by delta kX; kernel_rfl
theorem e_f49:eX 49:=by delta eX; kernel_rfl

def n_f50:Nat:=50
def x_f50:=xX 41 [2,5,7,11,12,13,14,15,19,22,23,24,27,28,29,30,31,32,36,37,40] [30] [(2,[0],[]),(6,[0,3],[]),(14,[0,5],[]),(30,[5],[]),(62,[2],[])]
abbrev f50_2:AC:=.ops [0] [] [⟨none,.mv (some 2) (.c (.lit (.slice none 0 0)))⟩]
abbrev f50_4:AC:=.ops [0,3] [] [vv 8 0,vn 9 8,vd 10 9 2,vl 11 10,⟨none,.call (some 12) false (.f 66) [(.r 11),(.c (.lit (.int .i64 2)))]⟩,vv 7 12,ve 13 7 0,ve 14 7 1,vo 3 13,vo 4 14]
abbrev f50_6:AC:=.drawM [0,5] [] [vv 16 0,vn 17 16,vd 18 17 2,vl 19 18,vv 20 3,⟨none,.ixS (some 21) (.r 20) (.c (.lit (.int .i64 0))) 1⟩,vl 22 21,⟨none,.conv (some 23) (.int .i64) (.r 22)⟩,⟨none,.bin (some 24) .num .shl (.r 23) (.c (.lit (.int .u64 8)))⟩,vv 25 3,⟨none,.ixS (some 26) (.r 25) (.c (.lit (.int .i64 1))) 1⟩,vl 27 26,⟨none,.conv (some 28) (.int .i64) (.r 27)⟩,⟨none,.bin (some 29) .num .or (.r 24) (.r 28)⟩] (some 30) (.f 66) [(.r 19),(.r 29)] [(true,vv 15 30),(true,ve 31 15 0),(true,ve 32 15 1),(true,vv 5 31)] [vo 6 32]
abbrev f50_8:AC:=.ops [5] [] [vv 33 0,vn 34 33,vd 35 34 3,vl 36 35,vb 37 .sub 36 1,vn 38 33,vd 39 38 3,⟨none,.store 1 (.r 39) (.r 37)⟩]
abbrev f50_10:AC:=.ops [2] [] [vv 40 5,vo 2 40]
abbrev f50_9:AC:=.seq f50_10 .ret
abbrev f50_7:AC:=.seq f50_8 f50_9
abbrev f50_5:AC:=.seq f50_6 f50_7
abbrev f50_3:AC:=.seq f50_4 f50_5
abbrev f50_1:AC:=.seq f50_2 f50_3
def c_f50:AFun:=⟨41,[.tmp 2],f50_1⟩
theorem k_f50:kX x_f50 50 c_f50:=by delta kX; kernel_rfl
theorem e_f50:eX 50:=by delta eX; kernel_rfl

def n_f51:Nat:=51
def x_f51:=xX 82 [0,1,4,5,7,10,12,16,17,18,19,20,21,26,27,29,33,40,42,43,45,50,52,53,55,59,66,68,69,71,76,78,79,81] [] [(2,[0,1],[]),(12,[0,1,11],[]),(52,[4,5],[]),(14,[0,1,6,7],[6]),(60,[0,1,6,22],[6]),(244,[4,5],[]),(62,[0,6],[6]),(252,[0,6,30],[6]),(506,[0,6],[6]),(1014,[0,6,8],[6,8]),(2030,[0,6,8],[6,8]),(2031,[0,6],[6]),(508,[0,6,56],[6]),(1018,[6],[6]),(2038,[0,6,9],[6,9]),(4078,[0,6,9],[6,9]),(4079,[6],[6]),(510,[4,5],[])]
abbrev f51_2:AC:=.ops [0,1] [] [⟨none,.mv (some 4) (.c (.lit (.int .i64 0)))⟩,⟨none,.mv (some 5) (.c (.lit (.int .i64 0)))⟩]
abbrev f51_5:AC:=.ops [0,1,11] [] [vv 10 0,⟨none,.call (some 11) false (.f 59) [(.r 10)]⟩]
abbrev f51_8:AC:=.ops [4,5] [] [⟨none,.mv (some 4) (.c (.lit (.int .i64 0)))⟩,⟨none,.mv (some 5) (.c (.lit (.int .i64 1)))⟩]
abbrev f51_7:AC:=.seq f51_8 .ret
abbrev f51_6:AC:=.cond (.r 11) f51_7 .skip
abbrev f51_4:AC:=.seq f51_5 f51_6
abbrev f51_10:AC:=.ops [0,1,6,7] [6] [vv 13 0,vn 14 13,vd 15 14 3,vl 16 15,vv 17 1,⟨none,.lookup (some 18) (.int .u64) (.agg [(.lit (.int .i64 0)),(.lit (.int .u64 0)),(.lit (.int .u64 0))]) true (.r 16) (.r 17)⟩,vv 12 18,ve 19 12 0,ve 20 12 1,⟨none,.newL 6 [(.lit (.int .i64 0)),(.lit (.int .u64 0)),(.lit (.int .u64 0))]⟩,⟨none,.store 3 (.r 6) (.r 19)⟩,vo 7 20]
abbrev f51_13:AC:=.ops [0,1,6,22] [6] [vv 21 7,⟨none,.un (some 22) .not (.r 21)⟩]
abbrev f51_16:AC:=.ops [4,5] [] [⟨none,.mv (some 4) (.c (.lit (.int .i64 0)))⟩,⟨none,.mv (some 5) (.c (.lit (.int .i64 9)))⟩]
abbrev f51_15:AC:=.seq f51_16 .ret
abbrev f51_14:AC:=.cond (.r 22) f51_15 .skip
abbrev f51_12:AC:=.seq f51_13 f51_14
abbrev f51_18:AC:=.ops [0,6] [6] [vv 23 0,vn 24 23,vd 25 24 3,vl 26 25,vv 27 1,⟨none,.del (.int .u64) (.r 26) (.r 27)⟩]
abbrev f51_21:AC:=.ops [0,6,30] [6] [vd 28 6 1,vl 29 28,⟨none,.bin (some 30) .num .eql (.r 29) (.c (.lit (.int .u64 0)))⟩]
abbrev f51_23:AC:=.ops [0,6] [6] [vv 31 0,vd 32 6 2,vl 33 32,vn 34 31,vd 35 34 0,vd 36 35 0,⟨none,.store 1 (.r 36) (.r 33)⟩]
abbrev f51_25:AC:=.draw [0,6,8] [6,8] [8] [vv 37 0,vn 38 37,vd 39 38 3,vl 40 39,vd 41 6 1,vl 42 41,⟨none,.lookup (some 43) (.int .u64) (.agg [(.lit (.int .i64 0)),(.lit (.int .u64 0)),(.lit (.int .u64 0))]) false (.r 40) (.r 42)⟩,⟨none,.newL 8 [(.lit (.int .i64 0)),(.lit (.int .u64 0)),(.lit (.int .u64 0))]⟩] [⟨none,.store 3 (.r 8) (.r 43)⟩]
abbrev f51_27:AC:=.ops [0,6,8] [6,8] [vd 44 6 2,vl 45 44,vd 46 8 2,⟨none,.store 1 (.r 46) (.r 45)⟩]
abbrev f51_28:AC:=.draw [0,6] [6] [] [vv 47 0,vn 48 47,vd 49 48 3,vl 50 49,vd 51 6 1,vl 52 51,⟨none,.load (some 53) (.r 8) (some 3)⟩] [⟨none,.upd (.int .u64) (.r 50) (.r 52) (.r 53)⟩]
abbrev f51_26:AC:=.seq f51_27 f51_28
abbrev f51_24:AC:=.seq f51_25 f51_26
abbrev f51_22:AC:=.cond (.r 30) f51_23 f51_24
abbrev f51_20:AC:=.seq f51_21 f51_22
abbrev f51_31:AC:=.ops [0,6,56] [6] [vd 54 6 2,vl 55 54,⟨none,.bin (some 56) .num .eql (.r 55) (.c (.lit (.int .u64 0)))⟩]
abbrev f51_33:AC:=.ops [6] [6] [vv 57 0,vd 58 6 1,vl 59 58,vn 60 57,vd 61 60 0,vd 62 61 1,⟨none,.store 1 (.r 62) (.r 59)⟩]
abbrev f51_35:AC:=.draw [0,6,9] [6,9] [9] [vv 63 0,vn 64 63,vd 65 64 3,vl 66 65,vd 67 6 2,vl 68 67,⟨none,.lookup (some 69) (.int .u64) (.agg [(.lit (.int .i64 0)),(.lit (.int .u64 0)),(.lit (.int .u64 0))]) false (.r 66) (.r 68)⟩,⟨none,.newL 9 [(.lit (.int .i64 0)),(.lit (.int .u64 0)),(.lit (.int .u64 0))]⟩] [⟨none,.store 3 (.r 9) (.r 69)⟩]
abbrev f51_37:AC:=.ops [0,6,9] [6,9] [vd 70 6 1,vl 71 70,vd 72 9 1,⟨none,.store 1 (.r 72) (.r 71)⟩]
abbrev f51_38:AC:=.draw [6] [6] [] [vv 73 0,vn 74 73,vd 75 74 3,vl 76 75,vd 77 6 2,vl 78 77,⟨none,.load (some 79) (.r 9) (some 3)⟩] [⟨none,.upd (.int .u64) (.r 76) (.r 78) (.r 79)⟩]
abbrev f51_36:AC:=.seq f51_37 f51_38
abbrev f51_34:AC:=.seq f51_35 f51_36
abbrev f51_32:AC:=.cond (.r 56) f51_33 f51_34
abbrev f51_30:AC:=.seq f51_31 f51_32
abbrev f51_40:AC:=.ops [4,5] [] [vd 80 6 0,vl 81 80,vo 4 81,⟨none,.mv (some 5) (.c (.lit (.int .i64 0)))⟩]
abbrev f51_39:AC:=.seq f51_40 .ret
abbrev f51_29:AC:=.seq f51_30 f51_39
abbrev f51_19:AC:=.seq f51_20 f51_29
abbrev f51_17:AC:=.seq f51_18 f51_19
abbrev f51_11:AC:=.seq f51_12 f51_17
abbrev f51_9:AC:=.seq f51_10 f51_11
abbrev f51_3:AC:=.seq f51_4 f51_9
abbrev f51_1:AC:=.seq f51_2 f51_3
def c_f51:AFun:=⟨82,[.tmp 4,.tmp 5],f51_1⟩
theorem k_f51:kX x_f51 51 c_f51:=by delta kX; kernel_rfl
theorem e_f51:eX 51:=by delta eX; kernel_rfl

def n_f58:Nat:=58
def x_f58:=xX 12 [0,2,3,4,5,9,10,11] [] [(2,[0],[]),(6,[2],[])]
abbrev f58_2:AC:=.ops [0] [] [⟨none,.mv (some 2) (.c (.lit (.bool false)))⟩]
abbrev f58_4:AC:=.ops [2] [] [vv 3 0,⟨none,.bin (some 4) (.nil .ptr) .eql (.r 3) (.c (.lit (.pointer none)))⟩,vv 5 4,⟨some (5,false),.mv (some 6) (.r 0)⟩,⟨some (5,false),.nilck (some 7) (.r 6)⟩,⟨some (5,false),.addr (some 8) (.r 7) 0⟩,⟨some (5,false),.load (some 9) (.r 8) none⟩,⟨some (5,false),.x (some 10) (.nilU .eql (.r 9) (.c (.lit (.slice none 0 0))))⟩,⟨none,.pick (some 11) (.r 5) (.c (.lit (.bool true))) (.r 10)⟩,vo 2 11]
abbrev f58_3:AC:=.seq f58_4 .ret
abbrev f58_1:AC:=.seq f58_2 f58_3
def c_f58:AFun:=⟨12,[.tmp 2],f58_1⟩
theorem k_f58:kX x_f58 58 c_f58:=by delta kX; kernel_rfl
theorem e_f58:eX 58:=by delta eX; kernel_rfl

def n_f59:Nat:=59
def x_f59:=xX 12 [0,2,3,4,5,9,10,11] [] [(2,[0],[]),(6,[2],[])]
abbrev f59_2:AC:=.ops [0] [] [⟨none,.mv (some 2) (.c (.lit (.bool false)))⟩]
abbrev f59_4:AC:=.ops [2] [] [vv 3 0,⟨none,.bin (some 4) (.nil .ptr) .eql (.r 3) (.c (.lit (.pointer none)))⟩,vv 5 4,⟨some (5,false),.mv (some 6) (.r 0)⟩,⟨some (5,false),.nilck (some 7) (.r 6)⟩,⟨some (5,false),.addr (some 8) (.r 7) 3⟩,⟨some (5,false),.load (some 9) (.r 8) none⟩,⟨some (5,false),.bin (some 10) (.nil .mp) .eql (.r 9) (.c (.lit (.map none)))⟩,⟨none,.pick (some 11) (.r 5) (.c (.lit (.bool true))) (.r 10)⟩,vo 2 11]
abbrev f59_3:AC:=.seq f59_4 .ret
abbrev f59_1:AC:=.seq f59_2 f59_3
def c_f59:AFun:=⟨12,[.tmp 2],f59_1⟩
theorem k_f59:kX x_f59 59 c_f59:=by delta kX; kernel_rfl
theorem e_f59:eX 59:=by delta eX; kernel_rfl

def n_f61:Nat:=61
def x_f61:=xX 29 [1,2,7,11,12,14,15,16,17,21,22,23,25,26,28] [] [(2,[1,2,11,12],[]),(6,[1,2,11,12],[]),(24,[1,2,11,12,13],[]),(101,[],[]),(408,[1,2,7,11,12],[]),(818,[1,2,7,11,12,24],[]),(1638,[1,2,11,12],[]),(103,[1,2,11,12],[])]
abbrev f61_2:AC:=.ops [1,2,11,12] [] [vv 8 0,vn 9 8,vd 10 9 0,⟨none,.load (some 11) (.r 10) (some 64)⟩,⟨none,.mv (some 12) (.c (.lit (.int .i64 0)))⟩]
abbrev f61_6:AC:=.ops [1,2,11,12,13] [] [vb 13 .lss 12 64]
abbrev f61_8:AC:=.cond (.r 13) .skip (.exit [] [] 0)
abbrev f61_12:AC:=.ops [1,2,7,11,12] [] [⟨none,.ixArr (some 14) (.r 11) (.r 12) 64 1 none⟩,vo 7 14]
abbrev f61_14:AC:=.ops [1,2,7,11,12,24] [] [vv 15 7,⟨none,.bin (some 16) (.nil .ptr) .neq (.r 15) (.c (.lit (.pointer none)))⟩,vv 17 16,⟨some (17,true),.mv (some 18) (.r 7)⟩,⟨some (17,true),.nilck (some 19) (.r 18)⟩,⟨some (17,true),.addr (some 20) (.r 19) 0⟩,⟨some (17,true),.load (some 21) (.r 20) none⟩,⟨some (17,true),.mv (some 22) (.r 1)⟩,⟨some (17,true),.bin (some 23) .num .eql (.r 21) (.r 22)⟩,⟨none,.pick (some 24) (.r 17) (.r 23) (.c (.lit (.bool false)))⟩]
abbrev f61_16:AC:=.ops [1,2,11,12] [] [vv 25 2,vv 26 7,⟨none,.call (some 27) false (.r 25) [(.r 26)]⟩]
abbrev f61_15:AC:=.cond (.r 24) f61_16 .skip
abbrev f61_13:AC:=.seq f61_14 f61_15
abbrev f61_11:AC:=.seq f61_12 f61_13
abbrev f61_10:AC:=.block 1 f61_11
abbrev f61_17:AC:=.ops [1,2,11,12] [] [vb 28 .add 12 1,vv 12 28]
abbrev f61_9:AC:=.seq f61_10 f61_17
abbrev f61_7:AC:=.seq f61_8 f61_9
abbrev f61_5:AC:=.seq f61_6 f61_7
def f61_4:AC:=.loop [1,2,11,12] [] f61_5
theorem f61_4w:aC P id m f61_4 sf st Q = aH (aC P id m f61_5) [1,2,11,12] [] sf st Q:=rfl
abbrev f61_3:AC:=.block 0 f61_4
abbrev f61_1:AC:=.seq f61_2 f61_3
def c_f61:AFun:=⟨29,[],f61_1⟩
theorem k_f61:kX x_f61 61 c_f61:=by delta kX; kernel_rfl
theorem e_f61:eX 61:=by delta eX; kernel_rfl

def n_f62:Nat:=62
def x_f62:=xX 24 [0,4,5,6,7,8,9,10,11,15,16,17,18,19,20,21,22] [] [(2,[0,2,4,5],[]),(6,[2,23],[]),(14,[],[])]
abbrev f62_2:AC:=.ops [0,2,4,5] [] [vv 7 0,vl 8 1,⟨none,.call (some 9) false (.f 63) [(.r 7),(.r 8)]⟩,vv 6 9,ve 10 6 0,ve 11 6 1,vo 4 10,vo 5 11]
abbrev f62_4:AC:=.ops [2,23] [] [vv 12 0,vn 13 12,vd 14 13 1,vl 15 14,vb 16 .eql 15 3,vv 17 16,⟨some (17,true),.mv (some 18) (.r 5)⟩,⟨none,.pick (some 19) (.r 17) (.r 18) (.c (.lit (.bool false)))⟩,vv 20 19,⟨some (20,true),.mv (some 21) (.r 4)⟩,⟨some (20,true),.un (some 22) .not (.r 21)⟩,⟨none,.pick (some 23) (.r 20) (.r 22) (.c (.lit (.bool false)))⟩]
abbrev f62_6:AC:=.ops [] [] [⟨none,.store 1 (.r 2) (.c (.lit (.bool false)))⟩]
abbrev f62_5:AC:=.cond (.r 23) f62_6 .skip
abbrev f62_3:AC:=.seq f62_4 f62_5
abbrev f62_1:AC:=.seq f62_2 f62_3
def c_f62:AFun:=⟨24,[],f62_1⟩
theorem k_f62:kX x_f62 62 c_f62:=by delta kX; kernel_rfl
theorem e_f62:eX 62:=by delta eX; kernel_rfl

def n_f63:Nat:=63
def x_f63:=xX 24 [1,4,5,6,7,8,9,10,14,15,16,17,21,22,23] [] [(2,[0,1],[]),(6,[0,6],[]),(14,[4,5],[])]
abbrev f63_2:AC:=.ops [0,1] [] [⟨none,.mv (some 4) (.c (.lit (.bool false)))⟩,⟨none,.mv (some 5) (.c (.lit (.bool false)))⟩]
abbrev f63_4:AC:=.ops [0,6] [] [vv 7 1,⟨none,.len (some 8) .sl (.r 7)⟩,⟨none,.bin (some 9) .num .add (.c (.lit (.int .i64 2))) (.r 8)⟩,vo 6 9]
abbrev f63_6:AC:=.draw [4,5] [] [] [vv 10 6,vv 11 0,vn 12 11,vd 13 12 2,vl 14 13,⟨none,.call (some 15) true (.f 74) [(.r 14)]⟩,⟨none,.bin (some 16) .num .leq (.r 10) (.r 15)⟩,vv 17 6,vv 18 0,vn 19 18,vd 20 19 2,vl 21 20,⟨none,.call (some 22) true (.f 75) [(.r 21)]⟩,⟨none,.bin (some 23) .num .leq (.r 17) (.r 22)⟩,vv 4 16] [vo 5 23]
abbrev f63_5:AC:=.seq f63_6 .ret
abbrev f63_3:AC:=.seq f63_4 f63_5
abbrev f63_1:AC:=.seq f63_2 f63_3
def c_f63:AFun:=⟨24,[.tmp 4,.tmp 5],f63_1⟩
theorem k_f63:kX x_f63 63 c_f63:=by delta kX; kernel_rfl
theorem e_f63:eX 63:=by delta eX; kernel_rfl

def n_f64:Nat:=64
def x_f64:=xX 7 [0,3,4,5,6] [] [(1,[],[])]
abbrev f64_1:AC:=.ops [] [] [⟨none,.loadOwn 3 (.r 1)⟩,vv 4 0,⟨none,.bsl (some 5) 1 1 (.lit (.pointer none)) [(0,(.r 4))]⟩,⟨none,.appS 6 3 1 8 (.r 5)⟩,⟨none,.store 1 (.r 1) (.r 6)⟩]
def c_f64:AFun:=⟨7,[],f64_1⟩
theorem k_f64:kX x_f64 64 c_f64:=by delta kX; kernel_rfl
theorem e_f64:eX 64:=by delta eX; kernel_rfl

def n_f65:Nat:=65
def x_f65:=xX 53 [0,1,4,5,6,7,8,9,10,11,15,16,20,21,22,25,26,30,31,32,33,35,36,37,38,39,41,46,47,50,51] [] [(2,[0,1,4,5],[]),(12,[0,1,4,5,19],[]),(26,[],[]),(54,[0,1,4,24],[]),(440,[0,1,4],[]),(3520,[0,1,34],[]),(7043,[0,1],[]),(14088,[0,1],[]),(14089,[0,1],[]),(3523,[0,1,4],[]),(221,[],[]),(111,[],[])]
abbrev f65_2:AC:=.ops [0,1,4,5] [] [vv 7 0,vv 8 1,⟨none,.call (some 9) false (.f 63) [(.r 7),(.r 8)]⟩,vv 6 9,ve 10 6 0,ve 11 6 1,vo 4 10,vo 5 11]
abbrev f65_5:AC:=.ops [0,1,4,5,19] [] [vv 20 4,vo 19 20]
abbrev f65_7:AC:=.ops [] [] [vv 21 0,vv 22 1,⟨none,.call (some 23) false (.f 76) [(.r 21),(.r 22)]⟩]
abbrev f65_9:AC:=.ops [0,1,4,24] [] [vv 25 5,vv 26 25,⟨some (26,true),.mv (some 27) (.r 0)⟩,⟨some (26,true),.nilck (some 28) (.r 27)⟩,⟨some (26,true),.addr (some 29) (.r 28) 1⟩,⟨some (26,true),.load (some 30) (.r 29) none⟩,⟨some (26,true),.bin (some 31) .num .eql (.r 30) (.c (.lit (.int .i64 1)))⟩,⟨none,.pick (some 32) (.r 26) (.r 31) (.c (.lit (.bool false)))⟩,vo 24 32]
abbrev f65_16:AC:=.ops [0,1,34] [] [vv 33 4,⟨none,.un (some 34) .not (.r 33)⟩]
abbrev f65_17:AC:=.cond (.r 34) .skip (.exit [0,1] [] 1)
abbrev f65_15:AC:=.seq f65_16 f65_17
abbrev f65_21:AC:=.ops [0,1] [] [vv 41 0,⟨none,.call (some 42) false (.f 50) [(.r 41)]⟩]
abbrev f65_22:AC:=.ops [0,1] [] [vv 43 0,vn 44 43,vd 45 44 4,vl 46 45,vb 47 .add 46 1,vn 48 43,vd 49 48 4,⟨none,.store 1 (.r 49) (.r 47)⟩]
abbrev f65_20:AC:=.seq f65_21 f65_22
abbrev f65_19:AC:=.block 2 f65_20
abbrev f65_23:AC:=.ops [0,1,4] [] [vv 36 0,vv 37 1,⟨none,.call (some 38) false (.f 63) [(.r 36),(.r 37)]⟩,vv 35 38,ve 39 35 0,ve 40 35 1,vo 4 39]
abbrev f65_18:AC:=.seq f65_19 f65_23
abbrev f65_14:AC:=.seq f65_15 f65_18
def f65_13:AC:=.loop [0,1,4] [] f65_14
theorem f65_13w:aC P id m f65_13 sf st Q = aH (aC P id m f65_14) [0,1,4] [] sf st Q:=rfl
abbrev f65_12:AC:=.block 1 f65_13
abbrev f65_24:AC:=.ops [] [] [vv 50 0,vv 51 1,⟨none,.call (some 52) false (.f 76) [(.r 50),(.r 51)]⟩]
abbrev f65_11:AC:=.seq f65_12 f65_24
abbrev f65_25:AC:=.ops [] [] [vv 12 0,vn 13 12,vd 14 13 4,vl 15 14,vb 16 .add 15 1,vn 17 12,vd 18 17 4,⟨none,.store 1 (.r 18) (.r 16)⟩]
abbrev f65_10:AC:=.cond (.r 24) f65_11 f65_25
abbrev f65_8:AC:=.seq f65_9 f65_10
abbrev f65_6:AC:=.cond (.r 19) f65_7 f65_8
abbrev f65_4:AC:=.seq f65_5 f65_6
abbrev f65_3:AC:=.block 0 f65_4
abbrev f65_1:AC:=.seq f65_2 f65_3
def c_f65:AFun:=⟨53,[],f65_1⟩
theorem k_f65:kX x_f65 65 c_f65:=by delta kX; kernel_rfl
theorem e_f65:eX 65:=by delta eX; kernel_rfl

def n_f66:Nat:=66
def x_f66:=xX 22 [0,1,4,5,6,7,8,9,10,11,12,13,14,16,17,18,19,21] [] [(2,[0,1],[]),(6,[0,6,7],[]),(28,[0,6,7,15],[]),(116,[4,5],[]),(30,[6],[]),(62,[4,5],[])]
abbrev f66_2:AC:=.ops [0,1] [] [⟨none,.mv (some 4) (.c (.lit (.slice none 0 0)))⟩,⟨none,.mv (some 5) (.c (.lit (.int .i64 0)))⟩]
abbrev f66_4:AC:=.ops [0,6,7] [] [vv 9 0,vv 10 1,⟨none,.call (some 11) false (.f 77) [(.r 9),(.c (.lit (.int .i64 0))),(.r 10)]⟩,vv 8 11,ve 12 8 0,ve 13 8 1,vo 6 12,vo 7 13]
abbrev f66_7:AC:=.ops [0,6,7,15] [] [vv 14 7,vb 15 .neq 14 0]
abbrev f66_10:AC:=.ops [4,5] [] [vv 16 7,⟨none,.mv (some 4) (.c (.lit (.slice none 0 0)))⟩,vo 5 16]
abbrev f66_9:AC:=.seq f66_10 .ret
abbrev f66_8:AC:=.cond (.r 15) f66_9 .skip
abbrev f66_6:AC:=.seq f66_7 f66_8
abbrev f66_12:AC:=.ops [6] [] [vv 17 0,vv 18 6,⟨none,.len (some 19) .sl (.r 18)⟩,⟨none,.call (some 20) false (.f 78) [(.r 17),(.r 19)]⟩]
abbrev f66_14:AC:=.ops [4,5] [] [vv 21 6,vo 4 21,⟨none,.mv (some 5) (.c (.lit (.int .i64 0)))⟩]
abbrev f66_13:AC:=.seq f66_14 .ret
abbrev f66_11:AC:=.seq f66_12 f66_13
abbrev f66_5:AC:=.seq f66_6 f66_11
abbrev f66_3:AC:=.seq f66_4 f66_5
abbrev f66_1:AC:=.seq f66_2 f66_3
def c_f66:AFun:=⟨22,[.tmp 4,.tmp 5],f66_1⟩
theorem k_f66:kX x_f66 66 c_f66:=by delta kX; kernel_rfl
theorem e_f66:eX 66:=by delta eX; kernel_rfl

def n_f74:Nat:=74
def x_f74:=xX 8 [0,2,3,4,5,6,7] [] [(2,[0],[]),(6,[2],[])]
abbrev f74_2:AC:=.ops [0] [] [⟨none,.mv (some 2) (.c (.lit (.int .i64 0)))⟩]
abbrev f74_4:AC:=.ops [2] [] [vv 3 0,⟨none,.call (some 4) false (.f 75) [(.r 3)]⟩,vv 5 0,⟨none,.call (some 6) false (.f 81) [(.r 5)]⟩,⟨none,.bin (some 7) .num .sub (.r 4) (.r 6)⟩,vo 2 7]
abbrev f74_3:AC:=.seq f74_4 .ret
abbrev f74_1:AC:=.seq f74_2 f74_3
def c_f74:AFun:=⟨8,[.tmp 2],f74_1⟩
theorem k_f74:kX x_f74 74 c_f74:=by delta kX; kernel_rfl
theorem e_f74:eX 74:=by delta eX; kernel_rfl

def n_f75:Nat:=75
def x_f75:=xX 10 [0,2,3,8,9] [] [(2,[0],[]),(12,[0,4],[]),(52,[2],[]),(14,[2],[])]
abbrev f75_2:AC:=.ops [0] [] [⟨none,.mv (some 2) (.c (.lit (.int .i64 0)))⟩]
abbrev f75_5:AC:=.ops [0,4] [] [vv 3 0,⟨none,.call (some 4) false (.f 58) [(.r 3)]⟩]
abbrev f75_8:AC:=.ops [2] [] [⟨none,.mv (some 2) (.c (.lit (.int .i64 0)))⟩]
abbrev f75_7:AC:=.seq f75_8 .ret
abbrev f75_6:AC:=.cond (.r 4) f75_7 .skip
abbrev f75_4:AC:=.seq f75_5 f75_6
abbrev f75_10:AC:=.ops [2] [] [vv 5 0,vn 6 5,vd 7 6 0,vl 8 7,⟨none,.len (some 9) .sl (.r 8)⟩,vo 2 9]
abbrev f75_9:AC:=.seq f75_10 .ret
abbrev f75_3:AC:=.seq f75_4 f75_9
abbrev f75_1:AC:=.seq f75_2 f75_3
def c_f75:AFun:=⟨10,[.tmp 2],f75_1⟩
theorem k_f75:kX x_f75 75 c_f75:=by delta kX; kernel_rfl
theorem e_f75:eX 75:=by delta eX; kernel_rfl

def n_f76:Nat:=76
def x_f76:=xX 30 [1,7,8,9,10,11,12,13,14,15,20,21,26,27] [] [(2,[0,1],[]),(6,[0],[]),(7,[],[])]
abbrev f76_2:AC:=.ops [0,1] [] [vv 4 0,vn 5 4,vd 6 5 2,vl 7 6,vv 8 1,⟨none,.len (some 9) .sl (.r 8)⟩,⟨none,.bin (some 10) .num .shr (.r 9) (.c (.lit (.int .u64 8)))⟩,⟨none,.conv (some 11) (.int .u8) (.r 10)⟩,vv 12 1,⟨none,.len (some 13) .sl (.r 12)⟩,⟨none,.conv (some 14) (.int .u8) (.r 13)⟩,⟨none,.bsl (some 15) 1 2 (.lit (.int .u8 0)) [(0,(.r 11)),(1,(.r 14))]⟩,⟨none,.call (some 16) false (.f 82) [(.r 7),(.r 15)]⟩]
abbrev f76_4:AC:=.ops [0] [] [vv 17 0,vn 18 17,vd 19 18 2,vl 20 19,vv 21 1,⟨none,.call (some 22) false (.f 82) [(.r 20),(.r 21)]⟩]
abbrev f76_5:AC:=.ops [] [] [vv 23 0,vn 24 23,vd 25 24 3,vl 26 25,vb 27 .add 26 1,vn 28 23,vd 29 28 3,⟨none,.store 1 (.r 29) (.r 27)⟩]
abbrev f76_3:AC:=.seq f76_4 f76_5
abbrev f76_1:AC:=.seq f76_2 f76_3
def c_f76:AFun:=⟨30,[],f76_1⟩
theorem k_f76:kX x_f76 76 c_f76:=by delta kX; kernel_rfl
theorem e_f76:eX 76:=by delta eX; kernel_rfl

def n_f77:Nat:=77
def x_f77:=xX 55 [0,1,2,6,7,8,9,11,13,14,16,17,18,19,20,21,23,27,28,29,33,34,35,36,37,38,39,40,41,42,43,45,46,47,48,49,50,51,52,53,54] [8,37,47,49] [(2,[0,1,2],[]),(24,[0,1,2,12],[]),(100,[6,7],[]),(102,[0,1,2,15],[]),(412,[6,7],[]),(414,[0,1,2,22],[]),(1660,[6,7],[]),(14,[0,1,8],[]),(30,[0,1,8,9],[]),(124,[8,9,42,43],[]),(250,[8,9,42,43],[]),(1000,[8,9,42,43,44],[]),(4005,[8],[]),(16024,[8,9,11,42,43],[]),(16025,[8,9,42,43],[]),(4007,[8,9,42,43],[]),(126,[6,7],[])]
abbrev f77_2:AC:=.ops [0,1,2] [] [⟨none,.mv (some 6) (.c (.lit (.slice none 0 0)))⟩,⟨none,.mv (some 7) (.c (.lit (.int .i64 0)))⟩]
abbrev f77_6:AC:=.ops [0,1,2,12] [] [vv 13 0,⟨none,.call (some 14) false (.f 58) [(.r 13)]⟩,vo 12 14]
abbrev f77_9:AC:=.ops [6,7] [] [⟨none,.mv (some 6) (.c (.lit (.slice none 0 0)))⟩,⟨none,.mv (some 7) (.c (.lit (.int .i64 1)))⟩]
abbrev f77_8:AC:=.seq f77_9 .ret
abbrev f77_11:AC:=.ops [0,1,2,15] [] [vv 16 1,vb 17 .lss 16 0,vv 18 17,⟨some (18,false),.mv (some 19) (.r 2)⟩,⟨some (18,false),.bin (some 20) .num .lss (.r 19) (.c (.lit (.int .i64 0)))⟩,⟨none,.pick (some 21) (.r 18) (.c (.lit (.bool true))) (.r 20)⟩,vo 15 21]
abbrev f77_14:AC:=.ops [6,7] [] [⟨none,.mv (some 6) (.c (.lit (.slice none 0 0)))⟩,⟨none,.mv (some 7) (.c (.lit (.int .i64 2)))⟩]
abbrev f77_13:AC:=.seq f77_14 .ret
abbrev f77_16:AC:=.ops [0,1,2,22] [] [vv 23 1,vv 24 0,vn 25 24,vd 26 25 2,vl 27 26,⟨none,.bin (some 28) .num .geq (.r 23) (.r 27)⟩,vo 22 28]
abbrev f77_19:AC:=.ops [6,7] [] [⟨none,.mv (some 6) (.c (.lit (.slice none 0 0)))⟩,⟨none,.mv (some 7) (.c (.lit (.int .i64 0)))⟩]
abbrev f77_18:AC:=.seq f77_19 .ret
abbrev f77_17:AC:=.cond (.r 22) f77_18 .skip
abbrev f77_15:AC:=.seq f77_16 f77_17
abbrev f77_12:AC:=.cond (.r 15) f77_13 f77_15
abbrev f77_10:AC:=.seq f77_11 f77_12
abbrev f77_7:AC:=.cond (.r 12) f77_8 f77_10
abbrev f77_5:AC:=.seq f77_6 f77_7
abbrev f77_4:AC:=.block 0 f77_5
abbrev f77_21:AC:=.ops [0,1,8] [] [vv 29 2,vv 30 0,vn 31 30,vd 32 31 2,vl 33 32,vv 34 1,⟨none,.bin (some 35) .num .sub (.r 33) (.r 34)⟩,⟨none,.mn (some 36) true (.r 29) (.r 35)⟩,⟨none,.x (some 37) (.mksB 1 1 (.lit (.int .u8 0)) (.r 36) (.r 36))⟩,vo 8 37]
abbrev f77_23:AC:=.ops [0,1,8,9] [] [⟨none,.mv (some 9) (.c (.lit (.int .i64 0)))⟩]
abbrev f77_26:AC:=.ops [8,9,42,43] [] [vv 38 0,vv 39 1,vv 40 8,⟨none,.len (some 41) .sl (.r 40)⟩,⟨none,.call (some 42) false (.f 83) [(.r 38),(.r 39),(.r 41)]⟩,⟨none,.mv (some 43) (.c (.lit (.int .i64 0)))⟩]
abbrev f77_30:AC:=.ops [8,9,42,43,44] [] [vb 44 .lss 43 2]
abbrev f77_32:AC:=.cond (.r 44) .skip (.exit [8] [] 1)
abbrev f77_36:AC:=.ops [8,9,11,42,43] [] [⟨none,.ixArr (some 45) (.r 42) (.r 43) 2 1 none⟩,vo 11 45]
abbrev f77_37:AC:=.ops [8,9,42,43] [] [vv 46 9,vv 47 8,vv 48 9,⟨none,.sliOwn 49 47 (.r 48) 1⟩,vv 50 11,⟨none,.x (some 51) (.copyB 1 (.r 49) (.r 50))⟩,⟨none,.bin (some 52) .num .add (.r 46) (.r 51)⟩,vo 9 52]
abbrev f77_35:AC:=.seq f77_36 f77_37
abbrev f77_34:AC:=.block 2 f77_35
abbrev f77_38:AC:=.ops [8,9,42,43] [] [vb 53 .add 43 1,vv 43 53]
abbrev f77_33:AC:=.seq f77_34 f77_38
abbrev f77_31:AC:=.seq f77_32 f77_33
abbrev f77_29:AC:=.seq f77_30 f77_31
def f77_28:AC:=.loop [8,9,42,43] [] f77_29
theorem f77_28w:aC P id m f77_28 sf st Q = aH (aC P id m f77_29) [8,9,42,43] [] sf st Q:=rfl
abbrev f77_27:AC:=.block 1 f77_28
abbrev f77_25:AC:=.seq f77_26 f77_27
abbrev f77_40:AC:=.ops [6,7] [] [vv 54 8,vo 6 54,⟨none,.mv (some 7) (.c (.lit (.int .i64 0)))⟩]
abbrev f77_39:AC:=.seq f77_40 .ret
abbrev f77_24:AC:=.seq f77_25 f77_39
abbrev f77_22:AC:=.seq f77_23 f77_24
abbrev f77_20:AC:=.seq f77_21 f77_22
abbrev f77_3:AC:=.seq f77_4 f77_20
abbrev f77_1:AC:=.seq f77_2 f77_3
def c_f77:AFun:=⟨55,[.tmp 6,.tmp 7],f77_1⟩
theorem k_f77:kX x_f77 77 c_f77:=by delta kX; kernel_rfl
theorem e_f77:eX 77:=by delta eX; kernel_rfl

def n_f78:Nat:=78
def x_f78:=xX 54 [0,1,4,5,6,8,10,11,13,14,15,19,20,21,22,23,24,26,27,28,34,35,36,40,41,42,46,47,48,53] [8,26,27] [(3000000021,[1],[]),(2,[0,1],[]),(24,[0,1,9],[]),(100,[4,5],[]),(102,[0,1,12],[]),(412,[4,5],[]),(14,[0,6],[]),(60,[0,6,23,24],[]),(122,[0,6,23,24],[]),(488,[0,6,23,24,25],[]),(1957,[0,6],[]),(7832,[0,6,8,23,24],[]),(7833,[0,6,23,24],[]),(1959,[0,6,23,24],[]),(62,[6],[]),(126,[4,5],[])]
abbrev f78_2:AC:=.ops [0,1] [] [⟨none,.mv (some 4) (.c (.lit (.int .i64 0)))⟩,⟨none,.mv (some 5) (.c (.lit (.int .i64 0)))⟩]
abbrev f78_6:AC:=.ops [0,1,9] [] [vv 10 0,⟨none,.call (some 11) false (.f 58) [(.r 10)]⟩,vo 9 11]
abbrev f78_9:AC:=.ops [4,5] [] [⟨none,.mv (some 4) (.c (.lit (.int .i64 0)))⟩,⟨none,.mv (some 5) (.c (.lit (.int .i64 1)))⟩]
abbrev f78_8:AC:=.seq f78_9 .ret
abbrev f78_11:AC:=.ops [0,1,12] [] [vv 13 1,vb 14 .lss 13 0,vo 12 14]
abbrev f78_14:AC:=.ops [4,5] [] [⟨none,.mv (some 4) (.c (.lit (.int .i64 0)))⟩,⟨none,.mv (some 5) (.c (.lit (.int .i64 2)))⟩]
abbrev f78_13:AC:=.seq f78_14 .ret
abbrev f78_12:AC:=.cond (.r 12) f78_13 .skip
abbrev f78_10:AC:=.seq f78_11 f78_12
abbrev f78_7:AC:=.cond (.r 9) f78_8 f78_10
abbrev f78_5:AC:=.seq f78_6 f78_7
abbrev f78_4:AC:=.block 0 f78_5
abbrev f78_16:AC:=.ops [0,6] [] [vv 15 1,vv 16 0,vn 17 16,vd 18 17 2,vl 19 18,⟨none,.mn (some 20) true (.r 15) (.r 19)⟩,vo 6 20]
abbrev f78_19:AC:=.ops [0,6,23,24] [] [vv 21 0,vv 22 6,⟨none,.call (some 23) false (.f 83) [(.r 21),(.c (.lit (.int .i64 0))),(.r 22)]⟩,⟨none,.mv (some 24) (.c (.lit (.int .i64 0)))⟩]
abbrev f78_23:AC:=.ops [0,6,23,24,25] [] [vb 25 .lss 24 2]
abbrev f78_25:AC:=.cond (.r 25) .skip (.exit [0,6] [] 1)
abbrev f78_29:AC:=.ops [0,6,8,23,24] [] [⟨none,.ixArr (some 26) (.r 23) (.r 24) 2 1 none⟩,vo 8 26]
abbrev f78_30:AC:=.ops [0,6,23,24] [] [vv 27 8,⟨none,.x none (.clrB 1 (.lit (.int .u8 0)) (.r 27))⟩]
abbrev f78_28:AC:=.seq f78_29 f78_30
abbrev f78_27:AC:=.block 2 f78_28
abbrev f78_31:AC:=.ops [0,6,23,24] [] [vb 28 .add 24 1,vv 24 28]
abbrev f78_26:AC:=.seq f78_27 f78_31
abbrev f78_24:AC:=.seq f78_25 f78_26
abbrev f78_22:AC:=.seq f78_23 f78_24
def f78_21:AC:=.loop [0,6,23,24] [] f78_22
theorem f78_21w:aC P id m f78_21 sf st Q = aH (aC P id m f78_22) [0,6,23,24] [] sf st Q:=rfl
abbrev f78_20:AC:=.block 1 f78_21
abbrev f78_18:AC:=.seq f78_19 f78_20
abbrev f78_33:AC:=.draw [6] [] [] [vv 29 0,vv 30 0,vv 31 0,vn 32 31,vd 33 32 1,vl 34 33,vv 35 6,⟨none,.bin (some 36) .num .add (.r 34) (.r 35)⟩,vv 37 0,vn 38 37,vd 39 38 0,vl 40 39,⟨none,.len (some 41) .sl (.r 40)⟩,⟨none,.bin (some 42) .num .rem (.r 36) (.r 41)⟩,vv 43 0,vn 44 43,vd 45 44 2,vl 46 45,vv 47 6,⟨none,.bin (some 48) .num .sub (.r 46) (.r 47)⟩] [vn 49 29,vd 50 49 1,⟨none,.store 1 (.r 50) (.r 42)⟩,vn 51 30,vd 52 51 2,⟨none,.store 1 (.r 52) (.r 48)⟩]
abbrev f78_35:AC:=.ops [4,5] [] [vv 53 6,vo 4 53,⟨none,.mv (some 5) (.c (.lit (.int .i64 0)))⟩]
abbrev f78_34:AC:=.seq f78_35 .ret
abbrev f78_32:AC:=.seq f78_33 f78_34
abbrev f78_17:AC:=.seq f78_18 f78_32
abbrev f78_15:AC:=.seq f78_16 f78_17
abbrev f78_3:AC:=.seq f78_4 f78_15
abbrev f78_1:AC:=.seq f78_2 f78_3
def c_f78:AFun:=⟨54,[.tmp 4,.tmp 5],f78_1⟩
theorem k_f78:kX x_f78 78 c_f78:=by delta kX; kernel_rfl
theorem e_f78:eX 78:=by delta eX; kernel_rfl

def n_f81:Nat:=81
def x_f81:=xX 9 [0,2,3,8] [] [(2,[0],[]),(12,[0,4],[]),(52,[2],[]),(14,[2],[])]
abbrev f81_2:AC:=.ops [0] [] [⟨none,.mv (some 2) (.c (.lit (.int .i64 0)))⟩]
abbrev f81_5:AC:=.ops [0,4] [] [vv 3 0,⟨none,.call (some 4) false (.f 58) [(.r 3)]⟩]
abbrev f81_8:AC:=.ops [2] [] [⟨none,.mv (some 2) (.c (.lit (.int .i64 0)))⟩]
abbrev f81_7:AC:=.seq f81_8 .ret
abbrev f81_6:AC:=.cond (.r 4) f81_7 .skip
abbrev f81_4:AC:=.seq f81_5 f81_6
abbrev f81_10:AC:=.ops [2] [] [vv 5 0,vn 6 5,vd 7 6 2,vl 8 7,vo 2 8]
abbrev f81_9:AC:=.seq f81_10 .ret
abbrev f81_3:AC:=.seq f81_4 f81_9
abbrev f81_1:AC:=.seq f81_2 f81_3
def c_f81:AFun:=⟨9,[.tmp 2],f81_1⟩
theorem k_f81:kX x_f81 81 c_f81:=by delta kX; kernel_rfl
theorem e_f81:eX 81:=by delta eX; kernel_rfl

def n_f82:Nat:=82
def x_f82:=xX 50 [0,1,4,5,6,7,9,11,12,14,15,16,17,18,19,20,21,22,26,27,28,29,31,32,33,34,35,36,37,38,39,40,44,45,46,49] [9,31,33] [(2,[0,1],[]),(24,[0,1,10],[]),(100,[4,5],[]),(102,[0,1,13],[]),(412,[4,5],[]),(14,[0,1,6],[]),(30,[0,1,6,7],[]),(124,[0,1,6,7,28,29],[]),(250,[0,1,6,7,28,29],[]),(1000,[0,1,6,7,28,29,30],[]),(4005,[0,6],[]),(16024,[0,1,6,7,9,28,29],[]),(16025,[0,1,6,7,28,29],[]),(4007,[0,1,6,7,28,29],[]),(126,[6],[]),(254,[4,5],[])]
abbrev f82_2:AC:=.ops [0,1] [] [⟨none,.mv (some 4) (.c (.lit (.int .i64 0)))⟩,⟨none,.mv (some 5) (.c (.lit (.int .i64 0)))⟩]
abbrev f82_6:AC:=.ops [0,1,10] [] [vv 11 0,⟨none,.call (some 12) false (.f 58) [(.r 11)]⟩,vo 10 12]
abbrev f82_9:AC:=.ops [4,5] [] [⟨none,.mv (some 4) (.c (.lit (.int .i64 0)))⟩,⟨none,.mv (some 5) (.c (.lit (.int .i64 1)))⟩]
abbrev f82_8:AC:=.seq f82_9 .ret
abbrev f82_11:AC:=.ops [0,1,13] [] [vv 14 1,⟨none,.len (some 15) .sl (.r 14)⟩,vb 16 .gtr 15 65536,vo 13 16]
abbrev f82_14:AC:=.ops [4,5] [] [⟨none,.mv (some 4) (.c (.lit (.int .i64 0)))⟩,⟨none,.mv (some 5) (.c (.lit (.int .i64 5)))⟩]
abbrev f82_13:AC:=.seq f82_14 .ret
abbrev f82_12:AC:=.cond (.r 13) f82_13 .skip
abbrev f82_10:AC:=.seq f82_11 f82_12
abbrev f82_7:AC:=.cond (.r 10) f82_8 f82_10
abbrev f82_5:AC:=.seq f82_6 f82_7
abbrev f82_4:AC:=.block 0 f82_5
abbrev f82_16:AC:=.ops [0,1,6] [] [vv 17 1,⟨none,.len (some 18) .sl (.r 17)⟩,vv 19 0,⟨none,.call (some 20) false (.f 74) [(.r 19)]⟩,⟨none,.mn (some 21) true (.r 18) (.r 20)⟩,vo 6 21]
abbrev f82_18:AC:=.ops [0,1,6,7] [] [⟨none,.mv (some 7) (.c (.lit (.int .i64 0)))⟩]
abbrev f82_21:AC:=.ops [0,1,6,7,28,29] [] [vv 22 0,vv 23 0,vn 24 23,vd 25 24 2,vl 26 25,vv 27 6,⟨none,.call (some 28) false (.f 83) [(.r 22),(.r 26),(.r 27)]⟩,⟨none,.mv (some 29) (.c (.lit (.int .i64 0)))⟩]
abbrev f82_25:AC:=.ops [0,1,6,7,28,29,30] [] [vb 30 .lss 29 2]
abbrev f82_27:AC:=.cond (.r 30) .skip (.exit [0,6] [] 1)
abbrev f82_31:AC:=.ops [0,1,6,7,9,28,29] [] [⟨none,.ixArr (some 31) (.r 28) (.r 29) 2 1 none⟩,vo 9 31]
abbrev f82_32:AC:=.ops [0,1,6,7,28,29] [] [vv 32 7,vv 33 9,vv 34 1,vv 35 7,vv 36 6,⟨none,.sliS (some 37) (.r 34) (some (.r 35)) (some (.r 36)) 1⟩,⟨none,.x (some 38) (.copyB 1 (.r 33) (.r 37))⟩,⟨none,.bin (some 39) .num .add (.r 32) (.r 38)⟩,vo 7 39]
abbrev f82_30:AC:=.seq f82_31 f82_32
abbrev f82_29:AC:=.block 2 f82_30
abbrev f82_33:AC:=.ops [0,1,6,7,28,29] [] [vb 40 .add 29 1,vv 29 40]
abbrev f82_28:AC:=.seq f82_29 f82_33
abbrev f82_26:AC:=.seq f82_27 f82_28
abbrev f82_24:AC:=.seq f82_25 f82_26
def f82_23:AC:=.loop [0,1,6,7,28,29] [] f82_24
theorem f82_23w:aC P id m f82_23 sf st Q = aH (aC P id m f82_24) [0,1,6,7,28,29] [] sf st Q:=rfl
abbrev f82_22:AC:=.block 1 f82_23
abbrev f82_20:AC:=.seq f82_21 f82_22
abbrev f82_35:AC:=.ops [6] [] [vv 41 0,vn 42 41,vd 43 42 2,vl 44 43,vv 45 6,⟨none,.bin (some 46) .num .add (.r 44) (.r 45)⟩,vn 47 41,vd 48 47 2,⟨none,.store 1 (.r 48) (.r 46)⟩]
abbrev f82_37:AC:=.ops [4,5] [] [vv 49 6,vo 4 49,⟨none,.mv (some 5) (.c (.lit (.int .i64 0)))⟩]
abbrev f82_36:AC:=.seq f82_37 .ret
abbrev f82_34:AC:=.seq f82_35 f82_36
abbrev f82_19:AC:=.seq f82_20 f82_34
abbrev f82_17:AC:=.seq f82_18 f82_19
abbrev f82_15:AC:=.seq f82_16 f82_17
abbrev f82_3:AC:=.seq f82_4 f82_15
abbrev f82_1:AC:=.seq f82_2 f82_3
def c_f82:AFun:=⟨50,[.tmp 4,.tmp 5],f82_1⟩
theorem k_f82:kX x_f82 82 c_f82:=by delta kX; kernel_rfl
theorem e_f82:eX 82:=by delta eX; kernel_rfl

def n_f83:Nat:=83
def x_f83:=xX 54 [1,2,7,8,12,13,14,18,19,20,21,25,26,27,28,29,33,34,35,36,37,38,39,40,41,45,46,47,48,49,50,51,52,53] [] [(2,[0,1,2,6],[6]),(6,[0,2,6,7],[6]),(14,[0,2,6,7,8],[6]),(30,[6],[6])]
abbrev f83_2:AC:=.ops [0,1,2,6] [6] [⟨none,.newL 6 [(.lit (.slice none 0 0)),(.lit (.slice none 0 0))]⟩]
abbrev f83_4:AC:=.draw [0,2,6,7] [6] [] [vv 9 0,vn 10 9,vd 11 10 1,vl 12 11,vv 13 1,⟨none,.bin (some 14) .num .add (.r 12) (.r 13)⟩,vv 15 0,vn 16 15,vd 17 16 0,vl 18 17,⟨none,.len (some 19) .sl (.r 18)⟩] [⟨none,.bin (some 20) .num .rem (.r 14) (.r 19)⟩,vo 7 20]
abbrev f83_6:AC:=.ops [0,2,6,7,8] [6] [vv 21 2,vv 22 0,vn 23 22,vd 24 23 0,vl 25 24,⟨none,.len (some 26) .sl (.r 25)⟩,vv 27 7,⟨none,.bin (some 28) .num .sub (.r 26) (.r 27)⟩,⟨none,.mn (some 29) true (.r 21) (.r 28)⟩,vo 8 29]
abbrev f83_8:AC:=.draw [6] [6] [] [vv 30 0,vn 31 30,vd 32 31 0,vl 33 32,vv 34 7,vv 35 7,vv 36 8,⟨none,.bin (some 37) .num .add (.r 35) (.r 36)⟩,vv 38 7,vv 39 8,⟨none,.bin (some 40) .num .add (.r 38) (.r 39)⟩,⟨none,.sli3 (some 41) (.r 33) (some (.r 34)) (some (.r 37)) (.r 40) 1⟩,vv 42 0,vn 43 42,vd 44 43 0,vl 45 44,vv 46 2,vv 47 8,⟨none,.bin (some 48) .num .sub (.r 46) (.r 47)⟩,vv 49 2,vv 50 8,⟨none,.bin (some 51) .num .sub (.r 49) (.r 50)⟩,⟨none,.sli3 (some 52) (.r 45) none (some (.r 48)) (.r 51) 1⟩] [⟨none,.bar (some 53) 1 (.agg [(.lit (.slice none 0 0)),(.lit (.slice none 0 0))]) [(0,(.r 41)),(1,(.r 52))]⟩,⟨none,.store 2 (.r 6) (.r 53)⟩]
abbrev f83_7:AC:=.seq f83_8 .ret
abbrev f83_5:AC:=.seq f83_6 f83_7
abbrev f83_3:AC:=.seq f83_4 f83_5
abbrev f83_1:AC:=.seq f83_2 f83_3
def c_f83:AFun:=⟨54,[.cell 6 (some 2)],f83_1⟩
theorem k_f83:kX x_f83 83 c_f83:=by delta kX; kernel_rfl
theorem e_f83:eX 83:=by delta eX; kernel_rfl

def tab (q:Nat):Option AFun :=
  if q = 4 then some c_f4 else
  if q = 8 then some c_f8 else
  if q = 9 then some c_f9 else
  if q = 10 then some c_f10 else
  if q = 11 then some c_f11 else
  if q = 12 then some c_f12 else
  if q = 13 then some c_f13 else
  if q = 14 then some c_f14 else
  if q = 15 then some c_f15 else
  if q = 16 then some c_f16 else
  if q = 23 then some c_f23 else
  if q = 24 then some c_f24 else
  if q = 25 then some c_f25 else
  if q = 26 then some c_f26 else
  if q = 27 then some c_f27 else
  if q = 28 then some c_f28 else
  if q = 29 then some c_f29 else
  if q = 30 then some c_f30 else
  if q = 31 then some c_f31 else
  if q = 32 then some c_f32 else
  if q = 33 then some c_f33 else
  if q = 34 then some c_f34 else
  if q = 42 then some c_f42 else
  if q = 43 then some c_f43 else
  if q = 44 then some c_f44 else
  if q = 45 then some c_f45 else
  if q = 46 then some c_f46 else
  if q = 47 then some c_f47 else
  if q = 48 then some c_f48 else
  if q = 49 then some c_f49 else
  if q = 50 then some c_f50 else
  if q = 51 then some c_f51 else
  if q = 58 then some c_f58 else
  if q = 59 then some c_f59 else
  if q = 61 then some c_f61 else
  if q = 62 then some c_f62 else
  if q = 63 then some c_f63 else
  if q = 64 then some c_f64 else
  if q = 65 then some c_f65 else
  if q = 66 then some c_f66 else
  if q = 74 then some c_f74 else
  if q = 75 then some c_f75 else
  if q = 76 then some c_f76 else
  if q = 77 then some c_f77 else
  if q = 78 then some c_f78 else
  if q = 81 then some c_f81 else
  if q = 82 then some c_f82 else
  if q = 83 then some c_f83 else
  none
theorem tabOk:TabOk Go.Proofs.Try.prog id tab :=
  ae e_f4 k_f4 rfl (
  ae e_f8 k_f8 rfl (
  ae e_f9 k_f9 rfl (
  ae e_f10 k_f10 rfl (
  ae e_f11 k_f11 rfl (
  ae e_f12 k_f12 rfl (
  ae e_f13 k_f13 rfl (
  ae e_f14 k_f14 rfl (
  ae e_f15 k_f15 rfl (
  ae e_f16 k_f16 rfl (
  ae e_f23 k_f23 rfl (
  ae e_f24 k_f24 rfl (
  ae e_f25 k_f25 rfl (
  ae e_f26 k_f26 rfl (
  ae e_f27 k_f27 rfl (
  ae e_f28 k_f28 rfl (
  ae e_f29 k_f29 rfl (
  ae e_f30 k_f30 rfl (
  ae e_f31 k_f31 rfl (
  ae e_f32 k_f32 rfl (
  ae e_f33 k_f33 rfl (
  ae e_f34 k_f34 rfl (
  ae e_f42 k_f42 rfl (
  ae e_f43 k_f43 rfl (
  ae e_f44 k_f44 rfl (
  ae e_f45 k_f45 rfl (
  ae e_f46 k_f46 rfl (
  ae e_f47 k_f47 rfl (
  ae e_f48 k_f48 rfl (
  ae e_f49 k_f49 rfl (
  ae e_f50 k_f50 rfl (
  ae e_f51 k_f51 rfl (
  ae e_f58 k_f58 rfl (
  ae e_f59 k_f59 rfl (
  ae e_f61 k_f61 rfl (
  ae e_f62 k_f62 rfl (
  ae e_f63 k_f63 rfl (
  ae e_f64 k_f64 rfl (
  ae e_f65 k_f65 rfl (
  ae e_f66 k_f66 rfl (
  ae e_f74 k_f74 rfl (
  ae e_f75 k_f75 rfl (
  ae e_f76 k_f76 rfl (
  ae e_f77 k_f77 rfl (
  ae e_f78 k_f78 rfl (
  ae e_f81 k_f81 rfl (
  ae e_f82 k_f82 rfl (
  ae e_f83 k_f83 rfl (
  tabOk_nil))))))))))))))))))))))))))))))))))))))))))))))))
theorem hmix:Go.Proofs.Try.prog.follows .mixedOrders = true:=by kernel_rfl
end
end Go.Fx.YtbdjfccgkdgbfaaFx

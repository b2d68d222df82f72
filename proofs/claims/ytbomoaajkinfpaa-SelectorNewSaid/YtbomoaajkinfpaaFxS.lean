/- The functions that the statement reaches, resolved: printed by a program of ours from the translated code; each is checked here. -/
import Derived.Test.YtbomoaajkinfpaaProg
import Derived.Test.YtbomoaajkinfpaaFxF
set_option maxRecDepth 100000
set_option maxHeartbeats 0
namespace Go.Fx.YtbomoaajkinfpaaFx
open Go Go.Fx
abbrev SQ (a b c:AC):Prop:=∀ {P:Program} {m:Bool} {sf:Sf} {st:St} {Q:Exit→Sf→St→Prop},aC P id m a sf st Q = aC P id m b sf st (seqQ (aC P id m c) Q)
abbrev SO (a:AC) (l:List GI) (x y:List Nat) (c:AC):Prop:=∀ {P:Program} {m:Bool} {sf:Sf} {st:St} {Q:Exit→Sf→St→Prop},aC P id m a sf st Q = runI P id m l (opsK x y (seqQ (aC P id m c) Q)) sf st
abbrev CN (a:AC) (r:Nat) (b c:AC):Prop:=∀ {P:Program} {m:Bool} {sf:Sf} {st:St} {Q:Exit→Sf→St→Prop},aC P id m a sf st Q = ii (.r r) (sf.ev id (.r r)) (aC P id m b) (aC P id m c) sf st Q
abbrev OP (a:AC) (l:List GI) (x y:List Nat):Prop:=∀ {P:Program} {m:Bool} {sf:Sf} {st:St} {Q:Exit→Sf→St→Prop},aC P id m a sf st Q = runI P id m l (opsK x y Q) sf st
abbrev BL (a b:AC) (k:Nat):Prop:=∀ {P:Program} {m:Bool} {sf:Sf} {st:St} {Q:Exit→Sf→St→Prop},aC P id m a sf st Q = aC P id m b sf st (iA k Q)
abbrev KF:Lean.Meta.Simp.Config:={ implicitDefEqProofs:=false,maxSteps:=10000000 }
theorem bZ:type_of% (And.intro (And.intro (And.intro (And.intro (And.intro (And.intro (And.intro (@kB) (@seqQ_ret)) (And.intro (@opsK_eq) (@runI_nil))) (And.intro (And.intro (@nJ) (@putP_eq)) (And.intro (@mask_eq) (@nR)))) (And.intro (And.intro (And.intro (@mg) (@wp_ok)) (And.intro (@bind_ok) (@l6))) (And.intro (And.intro (@ev_r) (@ev_c)) (And.intro (@o_mv) (And.intro (@o_bin) (@kZ)))))) (And.intro (And.intro (And.intro (And.intro (@oV) (@setB_r)) (And.intro (@mh) (@aC_ret))) (And.intro (And.intro (@aC_skip) (@retQ_ret)) (And.intro (@oW) (And.intro (@oX) (@oY))))) (And.intro (And.intro (And.intro (@List.map_cons.{0,0}) (@List.map_nil.{0,0})) (And.intro (@Sf.set.eq_1) (@Sf.reg.eq_1))) (And.intro (And.intro (@Bool.true_and) (@Nat.zero_add)) (And.intro (@List.drop_zero.{0}) (And.intro (@Bool.and_true) (@List.all_cons.{0}))))))) (And.intro (And.intro (And.intro (And.intro (And.intro (@Bool.false_eq_true) (@List.all_nil.{0})) (And.intro (@List.length_nil.{0}) (@List.length_cons.{0}))) (And.intro (And.intro (@getR.eq_1) (@getR.eq_2)) (And.intro (@Sf.disAt.eq_1) (And.intro (@setR.eq_1) (@setR.eq_2))))) (And.intro (And.intro (And.intro (@putS) (@true_and)) (And.intro (@List.set_cons_zero.{0}) (@List.getElem?_cons_zero.{0}))) (And.intro (And.intro (@List.drop_succ_cons.{0}) (@List.getElem?_cons_succ.{0})) (And.intro (@gB.eq_1) (And.intro (@gB.eq_2) (@List.set_cons_succ.{0})))))) (And.intro (And.intro (And.intro (And.intro (@and_true) (@ma)) (And.intro (@decide_true) (@List.take_succ_cons.{0}))) (And.intro (And.intro (@Nat.add_zero) (@Int.toNat_natCast)) (And.intro (@o_own) (And.intro (@jl) (@List.take_zero.{0}))))) (And.intro (And.intro (And.intro (@ev_f) (@Int.cast_ofNat_Int)) (And.intro (@ik.eq_1) (@o_call))) (And.intro (And.intro (@look.eq_1) (@look.eq_2)) (And.intro (@jg.eq_1) (And.intro (@jg.eq_2) (@List.contains_nil.{0})))))))) (And.intro (And.intro (And.intro (And.intro (And.intro (And.intro (@Sf.setLoc.eq_1) (@o_load)) (And.intro (@Nat.mul_one) (@IntWalk.i64_in))) (And.intro (And.intro (@o_addr) (@own2_lit)) (And.intro (@solid_eq) (And.intro (@nK) (@bind_req))))) (And.intro (And.intro (And.intro (@Sf.newLoc.eq_1) (@eQ.eq_1)) (And.intro (@eQ.eq_2) (@nP))) (And.intro (And.intro (@nT) (@ml)) (And.intro (@k7) (And.intro (@Bool.not_true) (@boxX.eq_1)))))) (And.intro (And.intro (And.intro (And.intro (@Bool.not_false) (@evOwn_r)) (And.intro (@o_pick) (@o_nilck))) (And.intro (And.intro (@resI.eq_1) (@resI.eq_2)) (And.intro (@req_tt) (And.intro (@disOp_r) (@resL.eq_1))))) (And.intro (And.intro (And.intro (@resL.eq_2) (@noL_tup)) (And.intro (@o_store) (@jZ))) (And.intro (And.intro (@and_self) (@List.length_map.{0,0})) (And.intro (@me) (And.intro (@ixA.eq_1) (@ixA.eq_2))))))) (And.intro (And.intro (And.intro (And.intro (And.intro (@o_len) (@n_lss)) (And.intro (@o_ext) (@extV.eq_1))) (And.intro (And.intro (@extV.eq_2) (@dis_tup)) (And.intro (@val_head) (And.intro (@pick_ff) (@hh_mv))))) (And.intro (And.intro (And.intro (@mi) (@h_none)) (And.intro (@n_eql) (@req_dec))) (And.intro (And.intro (@and_pre) (@cq.eq_1)) (And.intro (@cq.eq_2) (And.intro (@Int.toNat_zero) (@bstV.eq_1)))))) (And.intro (And.intro (And.intro (And.intro (@hh_load) (@ij)) (And.intro (@dis_sl) (@aY.eq_1))) (And.intro (And.intro (@aY.eq_2) (@o_bst)) (And.intro (@h_nil) (And.intro (@tail_nil) (@ib.eq_1))))) (And.intro (And.intro (And.intro (@ib.eq_2) (@dis_map)) (And.intro (@hh_addr) (@decide_false))) (And.intro (And.intro (@up_addL) (@n_add)) (And.intro (@mc) (And.intro (@pick_tt) (@Int.toNat_one))))))))):=And.intro (And.intro (And.intro (And.intro (And.intro (And.intro (And.intro (@kB) (@seqQ_ret)) (And.intro (@opsK_eq) (@runI_nil))) (And.intro (And.intro (@nJ) (@putP_eq)) (And.intro (@mask_eq) (@nR)))) (And.intro (And.intro (And.intro (@mg) (@wp_ok)) (And.intro (@bind_ok) (@l6))) (And.intro (And.intro (@ev_r) (@ev_c)) (And.intro (@o_mv) (And.intro (@o_bin) (@kZ)))))) (And.intro (And.intro (And.intro (And.intro (@oV) (@setB_r)) (And.intro (@mh) (@aC_ret))) (And.intro (And.intro (@aC_skip) (@retQ_ret)) (And.intro (@oW) (And.intro (@oX) (@oY))))) (And.intro (And.intro (And.intro (@List.map_cons.{0,0}) (@List.map_nil.{0,0})) (And.intro (@Sf.set.eq_1) (@Sf.reg.eq_1))) (And.intro (And.intro (@Bool.true_and) (@Nat.zero_add)) (And.intro (@List.drop_zero.{0}) (And.intro (@Bool.and_true) (@List.all_cons.{0}))))))) (And.intro (And.intro (And.intro (And.intro (And.intro (@Bool.false_eq_true) (@List.all_nil.{0})) (And.intro (@List.length_nil.{0}) (@List.length_cons.{0}))) (And.intro (And.intro (@getR.eq_1) (@getR.eq_2)) (And.intro (@Sf.disAt.eq_1) (And.intro (@setR.eq_1) (@setR.eq_2))))) (And.intro (And.intro (And.intro (@putS) (@true_and)) (And.intro (@List.set_cons_zero.{0}) (@List.getElem?_cons_zero.{0}))) (And.intro (And.intro (@List.drop_succ_cons.{0}) (@List.getElem?_cons_succ.{0})) (And.intro (@gB.eq_1) (And.intro (@gB.eq_2) (@List.set_cons_succ.{0})))))) (And.intro (And.intro (And.intro (And.intro (@and_true) (@ma)) (And.intro (@decide_true) (@List.take_succ_cons.{0}))) (And.intro (And.intro (@Nat.add_zero) (@Int.toNat_natCast)) (And.intro (@o_own) (And.intro (@jl) (@List.take_zero.{0}))))) (And.intro (And.intro (And.intro (@ev_f) (@Int.cast_ofNat_Int)) (And.intro (@ik.eq_1) (@o_call))) (And.intro (And.intro (@look.eq_1) (@look.eq_2)) (And.intro (@jg.eq_1) (And.intro (@jg.eq_2) (@List.contains_nil.{0})))))))) (And.intro (And.intro (And.intro (And.intro (And.intro (And.intro (@Sf.setLoc.eq_1) (@o_load)) (And.intro (@Nat.mul_one) (@IntWalk.i64_in))) (And.intro (And.intro (@o_addr) (@own2_lit)) (And.intro (@solid_eq) (And.intro (@nK) (@bind_req))))) (And.intro (And.intro (And.intro (@Sf.newLoc.eq_1) (@eQ.eq_1)) (And.intro (@eQ.eq_2) (@nP))) (And.intro (And.intro (@nT) (@ml)) (And.intro (@k7) (And.intro (@Bool.not_true) (@boxX.eq_1)))))) (And.intro (And.intro (And.intro (And.intro (@Bool.not_false) (@evOwn_r)) (And.intro (@o_pick) (@o_nilck))) (And.intro (And.intro (@resI.eq_1) (@resI.eq_2)) (And.intro (@req_tt) (And.intro (@disOp_r) (@resL.eq_1))))) (And.intro (And.intro (And.intro (@resL.eq_2) (@noL_tup)) (And.intro (@o_store) (@jZ))) (And.intro (And.intro (@and_self) (@List.length_map.{0,0})) (And.intro (@me) (And.intro (@ixA.eq_1) (@ixA.eq_2))))))) (And.intro (And.intro (And.intro (And.intro (And.intro (@o_len) (@n_lss)) (And.intro (@o_ext) (@extV.eq_1))) (And.intro (And.intro (@extV.eq_2) (@dis_tup)) (And.intro (@val_head) (And.intro (@pick_ff) (@hh_mv))))) (And.intro (And.intro (And.intro (@mi) (@h_none)) (And.intro (@n_eql) (@req_dec))) (And.intro (And.intro (@and_pre) (@cq.eq_1)) (And.intro (@cq.eq_2) (And.intro (@Int.toNat_zero) (@bstV.eq_1)))))) (And.intro (And.intro (And.intro (And.intro (@hh_load) (@ij)) (And.intro (@dis_sl) (@aY.eq_1))) (And.intro (And.intro (@aY.eq_2) (@o_bst)) (And.intro (@h_nil) (And.intro (@tail_nil) (@ib.eq_1))))) (And.intro (And.intro (And.intro (@ib.eq_2) (@dis_map)) (And.intro (@hh_addr) (@decide_false))) (And.intro (And.intro (@up_addL) (@n_add)) (And.intro (@mc) (And.intro (@pick_tt) (@Int.toNat_one))))))))
abbrev vv (d x:Nat):GI:=⟨none,.mv (some d) (.r x)⟩
abbrev vo (d x:Nat):GI:=⟨none,.own d x⟩
abbrev ve (d x k:Nat):GI:=⟨none,.ext (some d) (.r x) k⟩
abbrev vn (d x:Nat):GI:=⟨none,.nilck (some d) (.r x)⟩
abbrev vd (d x k:Nat):GI:=⟨none,.addr (some d) (.r x) k⟩
abbrev vl (d x:Nat):GI:=⟨none,.load (some d) (.r x) none⟩
abbrev vb (d:Nat) (o:BinOp) (x:Nat) (n:Int):GI:=⟨none,.bin (some d) .num o (.r x) (.c (.lit (.int .i64 n)))⟩
section
variable (P:Program) (m:Bool) (sf:Sf) (st:St) (Q:Exit→Sf→St→Prop)
def n_f4:Nat:=4
def x_f4:Cx:=⟨some,id,41,fun s=>([0,2,3,4,6,7,8,10,11,12,13,14,15,16,17,18,19,20,21,22,24,26,27,28,29,30,31,32,33,34,35,36,37,38,39,40]:List Nat).contains s,fun s=>([]:List Nat).contains s,msOf [(2,[0],[]),(12,[0,9],[]),(52,[2],[]),(14,[0,3,4],[]),(30,[3,4,5,6],[5]),(124,[3,5,6,23],[5]),(500,[2],[]),(252,[3,5,25],[5]),(1012,[2],[]),(254,[2],[])]⟩
def f4_2l:List GI:=[⟨none,.mv (some 2) (.c (.lit (.bool false)))⟩]
def f4_5l:List GI:=[vv 7 0,
    ⟨none,.len (some 8) .sl (.r 7)⟩,
    vb 9 .gtr 8 20]
def f4_8l:List GI:=[⟨none,.call (some 10) false (.f 10) []⟩,
    vo 2 10]
def f4_7:AC:=.seq (.ops [2] [] f4_8l) .ret
theorem f4_7e:SO f4_7 f4_8l [2] [] .ret:=rfl
def f4_6:AC:=.cond (.r 9) f4_7 .skip
theorem f4_6e:CN f4_6 9 f4_7 .skip:=rfl
def f4_4:AC:=.seq (.ops [0,9] [] f4_5l) f4_6
theorem f4_4e:SO f4_4 f4_5l [0,9] [] f4_6:=rfl
def f4_10l:List GI:=[vv 12 0,
    ⟨none,.call (some 13) false (.f 11) [(.r 12)]⟩,
    vv 11 13,
    ve 14 11 0,
    ve 15 11 1,
    vo 3 14,
    vo 4 15]
def f4_12l:List GI:=[vv 17 0,
    ⟨none,.call (some 18) false (.f 23) [(.r 17)]⟩,
    vv 16 18,
    ve 19 16 0,
    ve 20 16 1,
    ⟨none,.newL 5 [(.lit (.slice none 0 0)),(.lit (.slice none 0 0))]⟩,
    ⟨none,.store 2 (.r 5) (.r 19)⟩,
    vo 6 20]
def f4_15l:List GI:=[vv 21 4,
    vv 22 6,
    ⟨none,.bin (some 23) .num .neq (.r 21) (.r 22)⟩]
def f4_18l:List GI:=[⟨none,.mv (some 2) (.c (.lit (.bool false)))⟩]
def f4_17:AC:=.seq (.ops [2] [] f4_18l) .ret
theorem f4_17e:SO f4_17 f4_18l [2] [] .ret:=rfl
def f4_16:AC:=.cond (.r 23) f4_17 .skip
theorem f4_16e:CN f4_16 23 f4_17 .skip:=rfl
def f4_14:AC:=.seq (.ops [3,5,6,23] [5] f4_15l) f4_16
theorem f4_14e:SO f4_14 f4_15l [3,5,6,23] [5] f4_16:=rfl
def f4_21l:List GI:=[vv 24 6,
    vb 25 .neq 24 0]
def f4_24l:List GI:=[vv 26 3,
    ⟨none,.bin (some 27) (.nil .ptr) .eql (.r 26) (.c (.lit (.pointer none)))⟩,
    vv 28 27,
    ⟨some (28,true),.call (some 29) false (.f 10) []⟩,
    ⟨none,.pick (some 30) (.r 28) (.r 29) (.c (.lit (.bool false)))⟩,
    vo 2 30]
def f4_23:AC:=.seq (.ops [2] [] f4_24l) .ret
theorem f4_23e:SO f4_23 f4_24l [2] [] .ret:=rfl
def f4_22:AC:=.cond (.r 25) f4_23 .skip
theorem f4_22e:CN f4_22 25 f4_23 .skip:=rfl
def f4_20:AC:=.seq (.ops [3,5,25] [5] f4_21l) f4_22
theorem f4_20e:SO f4_20 f4_21l [3,5,25] [5] f4_22:=rfl
def f4_26l:List GI:=[vv 31 3,
    ⟨none,.bin (some 32) (.nil .ptr) .neq (.r 31) (.c (.lit (.pointer none)))⟩,
    vv 33 32,
    ⟨some (33,true),.mv (some 34) (.r 3)⟩,
    ⟨some (33,true),.load (some 35) (.r 5) (some 2)⟩,
    ⟨some (33,true),.call (some 36) false (.f 24) [(.r 34),(.r 35)]⟩,
    ⟨none,.pick (some 37) (.r 33) (.r 36) (.c (.lit (.bool false)))⟩,
    vv 38 37,
    ⟨some (38,true),.call (some 39) false (.f 10) []⟩,
    ⟨none,.pick (some 40) (.r 38) (.r 39) (.c (.lit (.bool false)))⟩,
    vo 2 40]
def f4_25:AC:=.seq (.ops [2] [] f4_26l) .ret
theorem f4_25e:SO f4_25 f4_26l [2] [] .ret:=rfl
def f4_19:AC:=.seq f4_20 f4_25
theorem f4_19e:SQ f4_19 f4_20 f4_25:=rfl
def f4_13:AC:=.seq f4_14 f4_19
theorem f4_13e:SQ f4_13 f4_14 f4_19:=rfl
def f4_11:AC:=.seq (.ops [3,4,5,6] [5] f4_12l) f4_13
theorem f4_11e:SO f4_11 f4_12l [3,4,5,6] [5] f4_13:=rfl
def f4_9:AC:=.seq (.ops [0,3,4] [] f4_10l) f4_11
theorem f4_9e:SO f4_9 f4_10l [0,3,4] [] f4_11:=rfl
def f4_3:AC:=.seq f4_4 f4_9
theorem f4_3e:SQ f4_3 f4_4 f4_9:=rfl
def f4_1:AC:=.seq (.ops [0] [] f4_2l) f4_3
theorem f4_1e:SO f4_1 f4_2l [0] [] f4_3:=rfl
def c_f4:AFun:=⟨41,[.tmp 2],f4_1⟩
theorem k_f4:aH Go.Proofs.Try.prog x_f4 4 = some c_f4:=by kernel_rfl
theorem e_f4:al Go.Proofs.Try.prog 4 = true:=by kernel_rfl

def n_f10:Nat:=10
def x_f10:Cx:=⟨some,id,99,fun s=>([0,1,2,3,4,5,6,7,8,9,10,11,12,13,14,15,16,17,18,19,20,21,22,23,24,25,26,27,28,29,30,31,33,34,35,36,37,38,39,40,41,42,43,44,45,46,47,48,49,51,52,53,54,55,56,57,58,59,60,61,62,63,64,65,66,67,68,69,71,72,73,74,75,76,77,78,79,80,81,82,83,84,85,86,88,89,90,91,92,93,94,95,96,97,98]:List Nat).contains s,fun s=>([]:List Nat).contains s,msOf [(2,[],[]),(6,[1,2],[]),(28,[1,32],[]),(116,[0],[]),(30,[1,3],[]),(124,[1,50],[]),(500,[0],[]),(252,[1,70],[]),(1012,[0],[]),(508,[1,87],[]),(2036,[0],[]),(510,[0],[])]⟩
def f10_2l:List GI:=[⟨none,.mv (some 0) (.c (.lit (.bool false)))⟩]
def f10_4l:List GI:=[⟨none,.bsl (some 5) 1 2 (.lit (.int .i64 0)) [(0,(.c (.lit (.int .i64 0)))),(1,(.c (.lit (.int .i64 1))))]⟩,
    ⟨none,.call (some 6) false (.f 11) [(.r 5)]⟩,
    vv 4 6,
    ve 7 4 0,
    ve 8 4 1,
    vo 1 7,
    vo 2 8]
def f10_7l:List GI:=[vv 9 2,
    vb 10 .neq 9 0,
    vv 11 10,
    ⟨some (11,false),.mv (some 12) (.r 1)⟩,
    ⟨some (11,false),.bin (some 13) (.nil .ptr) .eql (.r 12) (.c (.lit (.pointer none)))⟩,
    ⟨none,.pick (some 14) (.r 11) (.c (.lit (.bool true))) (.r 13)⟩,
    vv 15 14,
    ⟨some (15,false),.mv (some 16) (.r 1)⟩,
    ⟨some (15,false),.call (some 17) false (.f 33) [(.c (.lit (.int .i64 0)))]⟩,
    ⟨some (15,false),.call (some 18) false (.f 34) [(.c (.lit (.int .i64 1))),(.c (.lit (.int .i64 7)))]⟩,
    ⟨some (15,false),.bsl (some 19) 3 2 (.agg [(.lit (.int .i64 0)),(.lit (.bool false)),(.lit (.int .i64 0))]) [(0,(.r 17)),(1,(.r 18))]⟩,
    ⟨some (15,false),.bsl (some 20) 1 1 (.lit (.int .i64 0)) [(0,(.c (.lit (.int .i64 1))))]⟩,
    ⟨some (15,false),.call (some 21) false (.f 32) [(.r 16),(.r 19),(.r 20)]⟩,
    ⟨some (15,false),.un (some 22) .not (.r 21)⟩,
    ⟨none,.pick (some 23) (.r 15) (.c (.lit (.bool true))) (.r 22)⟩,
    vv 24 23,
    ⟨some (24,false),.mv (some 25) (.r 1)⟩,
    ⟨some (24,false),.bst (some 26) [(0,4),(4,1),(5,1),(6,1)] (.agg [(.lit (.int .i64 0)),(.lit (.int .i64 0)),(.lit (.int .i64 0)),(.lit (.int .i64 0)),(.lit (.bool false)),(.lit (.slice none 0 0)),(.lit (.int .i64 0))]) []⟩,
    ⟨some (24,false),.call (some 27) false (.f 33) [(.c (.lit (.int .i64 0)))]⟩,
    ⟨some (24,false),.call (some 28) false (.f 33) [(.c (.lit (.int .i64 1)))]⟩,
    ⟨some (24,false),.bsl (some 29) 3 2 (.agg [(.lit (.int .i64 0)),(.lit (.bool false)),(.lit (.int .i64 0))]) [(0,(.r 27)),(1,(.r 28))]⟩,
    ⟨some (24,false),.call (some 30) false (.f 35) [(.r 25),(.c (.lit (.int .i64 0))),(.c (.lit (.int .i64 0))),(.c (.lit (.bool true))),(.r 26),(.r 29)]⟩,
    ⟨some (24,false),.un (some 31) .not (.r 30)⟩,
    ⟨none,.pick (some 32) (.r 24) (.c (.lit (.bool true))) (.r 31)⟩]
def f10_10l:List GI:=[⟨none,.mv (some 0) (.c (.lit (.bool false)))⟩]
def f10_9:AC:=.seq (.ops [0] [] f10_10l) .ret
theorem f10_9e:SO f10_9 f10_10l [0] [] .ret:=rfl
def f10_8:AC:=.cond (.r 32) f10_9 .skip
theorem f10_8e:CN f10_8 32 f10_9 .skip:=rfl
def f10_6:AC:=.seq (.ops [1,32] [] f10_7l) f10_8
theorem f10_6e:SO f10_6 f10_7l [1,32] [] f10_8:=rfl
def f10_12l:List GI:=[⟨none,.call (some 33) false (.f 34) [(.c (.lit (.int .i64 0))),(.c (.lit (.int .i64 5)))]⟩,
    ⟨none,.call (some 34) false (.f 34) [(.c (.lit (.int .i64 1))),(.c (.lit (.int .i64 6)))]⟩,
    ⟨none,.bsl (some 35) 3 2 (.agg [(.lit (.int .i64 0)),(.lit (.bool false)),(.lit (.int .i64 0))]) [(0,(.r 33)),(1,(.r 34))]⟩,
    vo 3 35]
def f10_15l:List GI:=[vv 36 1,
    vv 37 3,
    ⟨none,.bsl (some 38) 1 2 (.lit (.int .i64 0)) [(0,(.c (.lit (.int .i64 0)))),(1,(.c (.lit (.int .i64 1))))]⟩,
    ⟨none,.call (some 39) false (.f 32) [(.r 36),(.r 37),(.r 38)]⟩,
    ⟨none,.un (some 40) .not (.r 39)⟩,
    vv 41 40,
    ⟨some (41,false),.mv (some 42) (.r 1)⟩,
    ⟨some (41,false),.bst (some 43) [(0,1),(1,1),(2,1),(3,1)] (.agg [(.lit (.int .i64 0)),(.lit (.int .i64 0)),(.lit (.int .i64 0)),(.lit (.int .i64 0))]) [(0,(.c (.lit (.int .i64 1)))),(1,(.c (.lit (.int .i64 1))))]⟩,
    ⟨some (41,false),.bst (some 44) [(0,1),(1,1),(2,1),(3,1)] (.agg [(.lit (.int .i64 0)),(.lit (.int .i64 0)),(.lit (.int .i64 0)),(.lit (.int .i64 0))]) [(0,(.c (.lit (.int .i64 0)))),(1,(.c (.lit (.int .i64 1)))),(2,(.c (.lit (.int .i64 6))))]⟩,
    ⟨some (41,false),.bsl (some 45) 4 1 (.agg [(.lit (.int .i64 0)),(.lit (.int .i64 0)),(.lit (.int .i64 0)),(.lit (.int .i64 0))]) [(0,(.r 44))]⟩,
    ⟨some (41,false),.bst (some 46) [(0,4),(4,1),(5,1),(6,1)] (.agg [(.lit (.int .i64 0)),(.lit (.int .i64 0)),(.lit (.int .i64 0)),(.lit (.int .i64 0)),(.lit (.bool false)),(.lit (.slice none 0 0)),(.lit (.int .i64 0))]) [(0,(.r 43)),(1,(.c (.lit (.bool true)))),(2,(.r 45))]⟩,
    ⟨some (41,false),.mv (some 47) (.r 3)⟩,
    ⟨some (41,false),.call (some 48) false (.f 35) [(.r 42),(.c (.lit (.int .i64 1))),(.c (.lit (.int .i64 3))),(.c (.lit (.bool true))),(.r 46),(.r 47)]⟩,
    ⟨some (41,false),.un (some 49) .not (.r 48)⟩,
    ⟨none,.pick (some 50) (.r 41) (.c (.lit (.bool true))) (.r 49)⟩]
def f10_18l:List GI:=[⟨none,.mv (some 0) (.c (.lit (.bool false)))⟩]
def f10_17:AC:=.seq (.ops [0] [] f10_18l) .ret
theorem f10_17e:SO f10_17 f10_18l [0] [] .ret:=rfl
def f10_16:AC:=.cond (.r 50) f10_17 .skip
theorem f10_16e:CN f10_16 50 f10_17 .skip:=rfl
def f10_14:AC:=.seq (.ops [1,50] [] f10_15l) f10_16
theorem f10_14e:SO f10_14 f10_15l [1,50] [] f10_16:=rfl
def f10_21l:List GI:=[vv 51 1,
    ⟨none,.call (some 52) false (.f 26) [(.r 51)]⟩,
    ⟨none,.len (some 53) .sl (.r 52)⟩,
    vb 54 .neq 53 0,
    vv 55 54,
    ⟨some (55,false),.mv (some 56) (.r 1)⟩,
    ⟨some (55,false),.bst (some 57) [(0,4),(4,1),(5,1),(6,1)] (.agg [(.lit (.int .i64 0)),(.lit (.int .i64 0)),(.lit (.int .i64 0)),(.lit (.int .i64 0)),(.lit (.bool false)),(.lit (.slice none 0 0)),(.lit (.int .i64 0))]) [(3,(.c (.lit (.int .i64 16))))]⟩,
    ⟨some (55,false),.call (some 58) false (.f 34) [(.c (.lit (.int .i64 0))),(.c (.lit (.int .i64 5)))]⟩,
    ⟨some (55,false),.bsl (some 59) 3 1 (.agg [(.lit (.int .i64 0)),(.lit (.bool false)),(.lit (.int .i64 0))]) [(0,(.r 58))]⟩,
    ⟨some (55,false),.call (some 60) false (.f 35) [(.r 56),(.c (.lit (.int .i64 1))),(.c (.lit (.int .i64 0))),(.c (.lit (.bool false))),(.r 57),(.r 59)]⟩,
    ⟨some (55,false),.un (some 61) .not (.r 60)⟩,
    ⟨none,.pick (some 62) (.r 55) (.c (.lit (.bool true))) (.r 61)⟩,
    vv 63 62,
    ⟨some (63,false),.mv (some 64) (.r 1)⟩,
    ⟨some (63,false),.bst (some 65) [(0,4),(4,1),(5,1),(6,1)] (.agg [(.lit (.int .i64 0)),(.lit (.int .i64 0)),(.lit (.int .i64 0)),(.lit (.int .i64 0)),(.lit (.bool false)),(.lit (.slice none 0 0)),(.lit (.int .i64 0))]) []⟩,
    ⟨some (63,false),.call (some 66) false (.f 34) [(.c (.lit (.int .i64 0))),(.c (.lit (.int .i64 8)))]⟩,
    ⟨some (63,false),.bsl (some 67) 3 1 (.agg [(.lit (.int .i64 0)),(.lit (.bool false)),(.lit (.int .i64 0))]) [(0,(.r 66))]⟩,
    ⟨some (63,false),.call (some 68) false (.f 35) [(.r 64),(.c (.lit (.int .i64 2))),(.c (.lit (.int .i64 0))),(.c (.lit (.bool true))),(.r 65),(.r 67)]⟩,
    ⟨some (63,false),.un (some 69) .not (.r 68)⟩,
    ⟨none,.pick (some 70) (.r 63) (.c (.lit (.bool true))) (.r 69)⟩]
def f10_24l:List GI:=[⟨none,.mv (some 0) (.c (.lit (.bool false)))⟩]
def f10_23:AC:=.seq (.ops [0] [] f10_24l) .ret
theorem f10_23e:SO f10_23 f10_24l [0] [] .ret:=rfl
def f10_22:AC:=.cond (.r 70) f10_23 .skip
theorem f10_22e:CN f10_22 70 f10_23 .skip:=rfl
def f10_20:AC:=.seq (.ops [1,70] [] f10_21l) f10_22
theorem f10_20e:SO f10_20 f10_21l [1,70] [] f10_22:=rfl
def f10_27l:List GI:=[vv 71 1,
    ⟨none,.bst (some 72) [(0,1),(1,1),(2,1),(3,1),(4,1)] (.agg [(.lit (.int .i64 0)),(.lit (.int .i64 0)),(.lit (.int .i64 0)),(.lit (.slice none 0 0)),(.lit (.bool false))]) [(0,(.c (.lit (.int .i64 2)))),(2,(.c (.lit (.int .i64 0))))]⟩,
    ⟨none,.call (some 73) false (.f 13) [(.r 71),(.r 72)]⟩,
    ⟨none,.bst (some 74) [(0,1),(1,1),(2,1),(3,1)] (.agg [(.lit (.int .i64 0)),(.lit (.int .i64 0)),(.lit (.int .i64 0)),(.lit (.int .i64 0))]) [(0,(.c (.lit (.int .i64 2)))),(1,(.c (.lit (.int .i64 0)))),(3,(.c (.lit (.int .i64 14))))]⟩,
    ⟨none,.bsl (some 75) 4 1 (.agg [(.lit (.int .i64 0)),(.lit (.int .i64 0)),(.lit (.int .i64 0)),(.lit (.int .i64 0))]) [(0,(.r 74))]⟩,
    ⟨none,.bst (some 76) [(0,4),(4,1),(5,1),(6,1)] (.agg [(.lit (.int .i64 0)),(.lit (.int .i64 0)),(.lit (.int .i64 0)),(.lit (.int .i64 0)),(.lit (.bool false)),(.lit (.slice none 0 0)),(.lit (.int .i64 0))]) [(2,(.r 75))]⟩,
    ⟨none,.call (some 77) false (.f 18) [(.r 73),(.r 76)]⟩,
    ⟨none,.un (some 78) .not (.r 77)⟩,
    vv 79 78,
    ⟨some (79,false),.mv (some 80) (.r 1)⟩,
    ⟨some (79,false),.bst (some 81) [(0,1),(1,1),(2,1),(3,1)] (.agg [(.lit (.int .i64 0)),(.lit (.int .i64 0)),(.lit (.int .i64 0)),(.lit (.int .i64 0))]) [(0,(.c (.lit (.int .i64 3)))),(3,(.c (.lit (.int .i64 13))))]⟩,
    ⟨some (79,false),.bst (some 82) [(0,4),(4,1),(5,1),(6,1)] (.agg [(.lit (.int .i64 0)),(.lit (.int .i64 0)),(.lit (.int .i64 0)),(.lit (.int .i64 0)),(.lit (.bool false)),(.lit (.slice none 0 0)),(.lit (.int .i64 0))]) [(0,(.r 81)),(1,(.c (.lit (.bool true))))]⟩,
    ⟨some (79,false),.call (some 83) false (.f 33) [(.c (.lit (.int .i64 0)))]⟩,
    ⟨some (79,false),.bsl (some 84) 3 1 (.agg [(.lit (.int .i64 0)),(.lit (.bool false)),(.lit (.int .i64 0))]) [(0,(.r 83))]⟩,
    ⟨some (79,false),.call (some 85) false (.f 35) [(.r 80),(.c (.lit (.int .i64 3))),(.c (.lit (.int .i64 0))),(.c (.lit (.bool true))),(.r 82),(.r 84)]⟩,
    ⟨some (79,false),.un (some 86) .not (.r 85)⟩,
    ⟨none,.pick (some 87) (.r 79) (.c (.lit (.bool true))) (.r 86)⟩]
def f10_30l:List GI:=[⟨none,.mv (some 0) (.c (.lit (.bool false)))⟩]
def f10_29:AC:=.seq (.ops [0] [] f10_30l) .ret
theorem f10_29e:SO f10_29 f10_30l [0] [] .ret:=rfl
def f10_28:AC:=.cond (.r 87) f10_29 .skip
theorem f10_28e:CN f10_28 87 f10_29 .skip:=rfl
def f10_26:AC:=.seq (.ops [1,87] [] f10_27l) f10_28
theorem f10_26e:SO f10_26 f10_27l [1,87] [] f10_28:=rfl
def f10_32l:List GI:=[vv 88 1,
    ⟨none,.bst (some 89) [(0,4),(4,1),(5,1),(6,1)] (.agg [(.lit (.int .i64 0)),(.lit (.int .i64 0)),(.lit (.int .i64 0)),(.lit (.int .i64 0)),(.lit (.bool false)),(.lit (.slice none 0 0)),(.lit (.int .i64 0))]) [(3,(.c (.lit (.int .i64 2))))]⟩,
    ⟨none,.call (some 90) false (.f 33) [(.c (.lit (.int .i64 1)))]⟩,
    ⟨none,.call (some 91) false (.f 34) [(.c (.lit (.int .i64 1))),(.c (.lit (.int .i64 1)))]⟩,
    ⟨none,.bsl (some 92) 3 2 (.agg [(.lit (.int .i64 0)),(.lit (.bool false)),(.lit (.int .i64 0))]) [(0,(.r 90)),(1,(.r 91))]⟩,
    ⟨none,.call (some 93) false (.f 35) [(.r 88),(.c (.lit (.int .i64 3))),(.c (.lit (.int .i64 0))),(.c (.lit (.bool true))),(.r 89),(.r 92)]⟩,
    vv 94 93,
    ⟨some (94,true),.mv (some 95) (.r 1)⟩,
    ⟨some (94,true),.bst (some 96) [(0,4),(4,1),(5,1),(6,1)] (.agg [(.lit (.int .i64 0)),(.lit (.int .i64 0)),(.lit (.int .i64 0)),(.lit (.int .i64 0)),(.lit (.bool false)),(.lit (.slice none 0 0)),(.lit (.int .i64 0))]) [(3,(.c (.lit (.int .i64 2))))]⟩,
    ⟨some (94,true),.call (some 97) false (.f 35) [(.r 95),(.c (.lit (.int .i64 3))),(.c (.lit (.int .i64 0))),(.c (.lit (.bool true))),(.r 96),(.c (.lit (.slice none 0 0)))]⟩,
    ⟨none,.pick (some 98) (.r 94) (.r 97) (.c (.lit (.bool false)))⟩,
    vo 0 98]
def f10_31:AC:=.seq (.ops [0] [] f10_32l) .ret
theorem f10_31e:SO f10_31 f10_32l [0] [] .ret:=rfl
def f10_25:AC:=.seq f10_26 f10_31
theorem f10_25e:SQ f10_25 f10_26 f10_31:=rfl
def f10_19:AC:=.seq f10_20 f10_25
theorem f10_19e:SQ f10_19 f10_20 f10_25:=rfl
def f10_13:AC:=.seq f10_14 f10_19
theorem f10_13e:SQ f10_13 f10_14 f10_19:=rfl
def f10_11:AC:=.seq (.ops [1,3] [] f10_12l) f10_13
theorem f10_11e:SO f10_11 f10_12l [1,3] [] f10_13:=rfl
def f10_5:AC:=.seq f10_6 f10_11
theorem f10_5e:SQ f10_5 f10_6 f10_11:=rfl
def f10_3:AC:=.seq (.ops [1,2] [] f10_4l) f10_5
theorem f10_3e:SO f10_3 f10_4l [1,2] [] f10_5:=rfl
def f10_1:AC:=.seq (.ops [] [] f10_2l) f10_3
theorem f10_1e:SO f10_1 f10_2l [] [] f10_3:=rfl
def c_f10:AFun:=⟨99,[.tmp 0],f10_1⟩
theorem k_f10:aH Go.Proofs.Try.prog x_f10 10 = some c_f10:=by kernel_rfl
theorem e_f10:al Go.Proofs.Try.prog 10 = true:=by kernel_rfl

def n_f11:Nat:=11
def x_f11:Cx:=⟨some,id,46,fun s=>([0,2,3,4,6,7,8,9,10,11,12,13,14,15,17,18,19,20,21,22,25,26,27,28,29,30,31,33,38,39,40,41,44,45]:List Nat).contains s,fun s=>([40,41]:List Nat).contains s,msOf [(2,[0],[]),(12,[0,16],[]),(52,[2,3],[]),(14,[0,4],[]),(60,[4,20,21,22],[]),(122,[4,20,21,22],[]),(488,[4,20,21,22,23],[]),(1957,[4],[]),(7832,[4,6,20,21,22],[]),(15666,[4,7,8,20,21,22],[]),(62668,[4,7,8,20,21,22,32],[]),(250676,[2,3],[]),(31335,[4,20,21,22],[]),(1959,[4,20,21,22],[]),(62,[2,3],[])]⟩
def f11_2l:List GI:=[⟨none,.mv (some 2) (.c (.lit (.pointer none)))⟩,
    ⟨none,.mv (some 3) (.c (.lit (.int .i64 0)))⟩]
def f11_5l:List GI:=[vv 9 0,
    ⟨none,.len (some 10) .sl (.r 9)⟩,
    vb 11 .lss 10 1,
    vv 12 11,
    ⟨some (12,false),.mv (some 13) (.r 0)⟩,
    ⟨some (12,false),.len (some 14) .sl (.r 13)⟩,
    ⟨some (12,false),.bin (some 15) .num .gtr (.r 14) (.c (.lit (.int .i64 16)))⟩,
    ⟨none,.pick (some 16) (.r 12) (.c (.lit (.bool true))) (.r 15)⟩]
def f11_8l:List GI:=[⟨none,.mv (some 2) (.c (.lit (.pointer none)))⟩,
    ⟨none,.mv (some 3) (.c (.lit (.int .i64 2)))⟩]
def f11_7:AC:=.seq (.ops [2,3] [] f11_8l) .ret
theorem f11_7e:SO f11_7 f11_8l [2,3] [] .ret:=rfl
def f11_6:AC:=.cond (.r 16) f11_7 .skip
theorem f11_6e:CN f11_6 16 f11_7 .skip:=rfl
def f11_4:AC:=.seq (.ops [0,16] [] f11_5l) f11_6
theorem f11_4e:SO f11_4 f11_5l [0,16] [] f11_6:=rfl
def f11_10l:List GI:=[⟨none,.mkmap 17⟩,
    ⟨none,.bst (some 18) [(0,1),(1,1),(2,1)] (.agg [(.lit (.slice none 0 0)),(.lit (.slice none 0 0)),(.lit (.map none))]) [(2,(.r 17))]⟩,
    ⟨none,.boxB 19 3 (.r 18)⟩,
    vo 4 19]
def f11_13l:List GI:=[vv 20 0,
    ⟨none,.len (some 21) .sl (.r 20)⟩,
    ⟨none,.mv (some 22) (.c (.lit (.int .i64 0)))⟩]
def f11_17l:List GI:=[⟨none,.bin (some 23) .num .lss (.r 22) (.r 21)⟩]
def f11_19:AC:=.cond (.r 23) .skip (.exit [4] [] 0)
theorem f11_19e:CN f11_19 23 .skip (.exit [4] [] 0):=rfl
def f11_23l:List GI:=[⟨none,.ixS (some 24) (.r 20) (.r 22) 1⟩,
    vl 25 24,
    vo 6 25]
def f11_25l:List GI:=[vv 27 6,
    ⟨none,.call (some 28) false (.f 12) [(.r 27)]⟩,
    vv 26 28,
    ve 29 26 0,
    ve 30 26 1,
    vo 7 29,
    vo 8 30]
def f11_28l:List GI:=[vv 31 8,
    vb 32 .neq 31 0]
def f11_31l:List GI:=[vv 33 8,
    ⟨none,.mv (some 2) (.c (.lit (.pointer none)))⟩,
    vo 3 33]
def f11_30:AC:=.seq (.ops [2,3] [] f11_31l) .ret
theorem f11_30e:SO f11_30 f11_31l [2,3] [] .ret:=rfl
def f11_29:AC:=.cond (.r 32) f11_30 .skip
theorem f11_29e:CN f11_29 32 f11_30 .skip:=rfl
def f11_27:AC:=.seq (.ops [4,7,8,20,21,22,32] [] f11_28l) f11_29
theorem f11_27e:SO f11_27 f11_28l [4,7,8,20,21,22,32] [] f11_29:=rfl
def f11_32l:List GI:=[vv 34 4,
    vv 35 4,
    vn 36 35,
    vd 37 36 0,
    ⟨none,.loadOwn 38 (.r 37)⟩,
    vv 39 7,
    ⟨none,.bsl (some 40) 1 1 (.lit (.pointer none)) [(0,(.r 39))]⟩,
    ⟨none,.x (some 41) (.appB (.r 38) 1 8 (.r 40))⟩,
    vn 42 34,
    vd 43 42 0,
    ⟨none,.store 1 (.r 43) (.r 41)⟩]
def f11_32:AC:=.ops [4,20,21,22] [] f11_32l
theorem f11_32e:OP f11_32 f11_32l [4,20,21,22] []:=rfl
def f11_26:AC:=.seq f11_27 f11_32
theorem f11_26e:SQ f11_26 f11_27 f11_32:=rfl
def f11_24:AC:=.seq (.ops [4,7,8,20,21,22] [] f11_25l) f11_26
theorem f11_24e:SO f11_24 f11_25l [4,7,8,20,21,22] [] f11_26:=rfl
def f11_22:AC:=.seq (.ops [4,6,20,21,22] [] f11_23l) f11_24
theorem f11_22e:SO f11_22 f11_23l [4,6,20,21,22] [] f11_24:=rfl
def f11_21:AC:=.block 1 f11_22
theorem f11_21e:BL f11_21 f11_22 1:=rfl
def f11_33l:List GI:=[vb 44 .add 22 1,
    vv 22 44]
def f11_33:AC:=.ops [4,20,21,22] [] f11_33l
theorem f11_33e:OP f11_33 f11_33l [4,20,21,22] []:=rfl
def f11_20:AC:=.seq f11_21 f11_33
theorem f11_20e:SQ f11_20 f11_21 f11_33:=rfl
def f11_18:AC:=.seq f11_19 f11_20
theorem f11_18e:SQ f11_18 f11_19 f11_20:=rfl
def f11_16:AC:=.seq (.ops [4,20,21,22,23] [] f11_17l) f11_18
theorem f11_16e:SO f11_16 f11_17l [4,20,21,22,23] [] f11_18:=rfl
def f11_15:AC:=.loop [4,20,21,22] [] f11_16
theorem f11_15w:aC P id m f11_15 sf st Q = aO (aC P id m f11_16) [4,20,21,22] [] sf st Q:=rfl
def f11_14:AC:=.block 0 f11_15
theorem f11_14e:BL f11_14 f11_15 0:=rfl
def f11_12:AC:=.seq (.ops [4,20,21,22] [] f11_13l) f11_14
theorem f11_12e:SO f11_12 f11_13l [4,20,21,22] [] f11_14:=rfl
def f11_35l:List GI:=[vv 45 4,
    vo 2 45,
    ⟨none,.mv (some 3) (.c (.lit (.int .i64 0)))⟩]
def f11_34:AC:=.seq (.ops [2,3] [] f11_35l) .ret
theorem f11_34e:SO f11_34 f11_35l [2,3] [] .ret:=rfl
def f11_11:AC:=.seq f11_12 f11_34
theorem f11_11e:SQ f11_11 f11_12 f11_34:=rfl
def f11_9:AC:=.seq (.ops [0,4] [] f11_10l) f11_11
theorem f11_9e:SO f11_9 f11_10l [0,4] [] f11_11:=rfl
def f11_3:AC:=.seq f11_4 f11_9
theorem f11_3e:SQ f11_3 f11_4 f11_9:=rfl
def f11_1:AC:=.seq (.ops [0] [] f11_2l) f11_3
theorem f11_1e:SO f11_1 f11_2l [0] [] f11_3:=rfl
def c_f11:AFun:=⟨46,[.tmp 2,.tmp 3],f11_1⟩
theorem k_f11:aH Go.Proofs.Try.prog x_f11 11 = some c_f11:=by kernel_rfl
theorem e_f11:al Go.Proofs.Try.prog 11 = true:=by kernel_rfl

def n_f12:Nat:=12
def x_f12:Cx:=⟨some,id,17,fun s=>([0,2,3,4,5,6,7,8,10,11,12,13,14,15,16]:List Nat).contains s,fun s=>([]:List Nat).contains s,msOf [(2,[0],[]),(12,[0,9],[]),(52,[2,3],[]),(14,[2,3],[])]⟩
def f12_2l:List GI:=[⟨none,.mv (some 2) (.c (.lit (.pointer none)))⟩,
    ⟨none,.mv (some 3) (.c (.lit (.int .i64 0)))⟩]
def f12_5l:List GI:=[vv 4 0,
    vb 5 .lss 4 0,
    vv 6 5,
    ⟨some (6,false),.mv (some 7) (.r 0)⟩,
    ⟨some (6,false),.bin (some 8) .num .gtr (.r 7) (.c (.lit (.int .i64 4096)))⟩,
    ⟨none,.pick (some 9) (.r 6) (.c (.lit (.bool true))) (.r 8)⟩]
def f12_8l:List GI:=[⟨none,.mv (some 2) (.c (.lit (.pointer none)))⟩,
    ⟨none,.mv (some 3) (.c (.lit (.int .i64 2)))⟩]
def f12_7:AC:=.seq (.ops [2,3] [] f12_8l) .ret
theorem f12_7e:SO f12_7 f12_8l [2,3] [] .ret:=rfl
def f12_6:AC:=.cond (.r 9) f12_7 .skip
theorem f12_6e:CN f12_6 9 f12_7 .skip:=rfl
def f12_4:AC:=.seq (.ops [0,9] [] f12_5l) f12_6
theorem f12_4e:SO f12_4 f12_5l [0,9] [] f12_6:=rfl
def f12_10l:List GI:=[vv 10 0,
    ⟨none,.call (some 11) false (.f 36) []⟩,
    ⟨none,.call (some 12) false (.f 36) []⟩,
    ⟨none,.bar (some 13) 1 (.agg [(.lit (.pointer none)),(.lit (.pointer none))]) [(0,(.r 11)),(1,(.r 12))]⟩,
    ⟨none,.mkmap 14⟩,
    ⟨none,.bst (some 15) [(0,1),(1,1),(2,1),(3,1),(4,2),(6,1)] (.agg [(.lit (.bool false)),(.lit (.bool false)),(.lit (.int .i64 0)),(.lit (.slice none 0 0)),(.lit (.pointer none)),(.lit (.pointer none)),(.lit (.map none))]) [(0,(.c (.lit (.bool true)))),(2,(.r 10)),(4,(.r 13)),(5,(.r 14))]⟩,
    ⟨none,.boxB 16 7 (.r 15)⟩,
    vo 2 16,
    ⟨none,.mv (some 3) (.c (.lit (.int .i64 0)))⟩]
def f12_9:AC:=.seq (.ops [2,3] [] f12_10l) .ret
theorem f12_9e:SO f12_9 f12_10l [2,3] [] .ret:=rfl
def f12_3:AC:=.seq f12_4 f12_9
theorem f12_3e:SQ f12_3 f12_4 f12_9:=rfl
def f12_1:AC:=.seq (.ops [0] [] f12_2l) f12_3
theorem f12_1e:SO f12_1 f12_2l [0] [] f12_3:=rfl
def c_f12:AFun:=⟨17,[.tmp 2,.tmp 3],f12_1⟩
theorem k_f12:aH Go.Proofs.Try.prog x_f12 12 = some c_f12:=by kernel_rfl
theorem e_f12:al Go.Proofs.Try.prog 12 = true:=by kernel_rfl

def n_f13:Nat:=13
def x_f13:Cx:=⟨some,id,46,fun s=>([0,1,6,8,9,10,12,13,14,15,18,19,20,22,24,26,28,29,30,31,32,33,38,39,41,42,43,45]:List Nat).contains s,fun s=>([]:List Nat).contains s,msOf [(2,[0,3,4],[3,4]),(6,[0,3,4,5],[3,4,5]),(14,[0,3,4,5],[3,4,5]),(60,[0,3,4,5,8],[3,4,5]),(244,[0,3,4,5,8,17],[3,4,5]),(490,[4,5,6],[4,5]),(982,[0,3,4,5,37],[3,4,5]),(1966,[4,5,6],[4,5]),(1967,[4,5,6],[4,5]),(62,[4,5],[4,5]),(126,[4],[4])]⟩
def f13_2l:List GI:=[⟨none,.boxL 3 5 (.r 1)⟩,
    ⟨none,.newL 4 [(.lit (.int .i64 0)),(.lit (.int .i64 0)),(.lit (.int .i64 0)),(.lit (.int .i64 0)),(.lit (.bool false)),(.lit (.slice none 0 0)),(.lit (.int .i64 0))]⟩]
def f13_4l:List GI:=[⟨none,.newL 5 [(.lit (.int .i64 0)),(.lit (.int .i64 0)),(.lit (.int .i64 0)),(.lit (.int .i64 0)),(.lit (.bool false)),(.lit (.slice none 0 0)),(.lit (.int .i64 0))]⟩]
def f13_6l:List GI:=[⟨none,.mv (some 6) (.c (.lit (.int .i64 0)))⟩]
def f13_9l:List GI:=[vd 7 3 0,
    vl 8 7]
def f13_12l:List GI:=[vb 18 .eql 8 0,
    vo 17 18]
def f13_14l:List GI:=[vv 20 0,
    vd 21 3 1,
    vl 22 21,
    vd 23 3 3,
    vl 24 23,
    vd 25 3 2,
    vl 26 25,
    vd 27 3 4,
    vl 28 27,
    ⟨none,.call (some 29) false (.f 30) [(.r 20),(.r 22),(.r 24),(.r 26),(.r 28)]⟩,
    vv 19 29,
    ve 30 19 0,
    ve 31 19 1,
    ve 32 19 2,
    ve 33 19 3,
    vd 34 5 0,
    ⟨none,.store 4 (.r 34) (.r 30)⟩,
    vd 35 5 4,
    ⟨none,.store 1 (.r 35) (.r 31)⟩,
    vd 36 5 5,
    ⟨none,.store 1 (.r 36) (.r 32)⟩,
    vo 6 33]
def f13_14:AC:=.ops [4,5,6] [4,5] f13_14l
theorem f13_14e:OP f13_14 f13_14l [4,5,6] [4,5]:=rfl
def f13_16l:List GI:=[vb 38 .eql 8 1,
    vo 37 38]
def f13_18l:List GI:=[vv 39 0,
    vd 40 3 1,
    vl 41 40,
    ⟨none,.call (some 42) false (.f 37) [(.r 39),(.r 41)]⟩,
    vo 6 42]
def f13_18:AC:=.ops [4,5,6] [4,5] f13_18l
theorem f13_18e:OP f13_18 f13_18l [4,5,6] [4,5]:=rfl
def f13_19l:List GI:=[vv 10 0,
    vd 11 3 2,
    vl 12 11,
    ⟨none,.call (some 13) false (.f 38) [(.r 10),(.r 12)]⟩,
    vv 9 13,
    ve 14 9 0,
    ve 15 9 1,
    vd 16 5 5,
    ⟨none,.store 1 (.r 16) (.r 14)⟩,
    vo 6 15]
def f13_19:AC:=.ops [4,5,6] [4,5] f13_19l
theorem f13_19e:OP f13_19 f13_19l [4,5,6] [4,5]:=rfl
def f13_17:AC:=.cond (.r 37) f13_18 f13_19
theorem f13_17e:CN f13_17 37 f13_18 f13_19:=rfl
def f13_15:AC:=.seq (.ops [0,3,4,5,37] [3,4,5] f13_16l) f13_17
theorem f13_15e:SO f13_15 f13_16l [0,3,4,5,37] [3,4,5] f13_17:=rfl
def f13_13:AC:=.cond (.r 17) f13_14 f13_15
theorem f13_13e:CN f13_13 17 f13_14 f13_15:=rfl
def f13_11:AC:=.seq (.ops [0,3,4,5,8,17] [3,4,5] f13_12l) f13_13
theorem f13_11e:SO f13_11 f13_12l [0,3,4,5,8,17] [3,4,5] f13_13:=rfl
def f13_10:AC:=.block 0 f13_11
theorem f13_10e:BL f13_10 f13_11 0:=rfl
def f13_8:AC:=.seq (.ops [0,3,4,5,8] [3,4,5] f13_9l) f13_10
theorem f13_8e:SO f13_8 f13_9l [0,3,4,5,8] [3,4,5] f13_10:=rfl
def f13_21l:List GI:=[vv 43 6,
    vd 44 5 6,
    ⟨none,.store 1 (.r 44) (.r 43)⟩]
def f13_23l:List GI:=[⟨none,.load (some 45) (.r 5) (some 7)⟩,
    ⟨none,.store 7 (.r 4) (.r 45)⟩]
def f13_22:AC:=.seq (.ops [4] [4] f13_23l) .ret
theorem f13_22e:SO f13_22 f13_23l [4] [4] .ret:=rfl
def f13_20:AC:=.seq (.ops [4,5] [4,5] f13_21l) f13_22
theorem f13_20e:SO f13_20 f13_21l [4,5] [4,5] f13_22:=rfl
def f13_7:AC:=.seq f13_8 f13_20
theorem f13_7e:SQ f13_7 f13_8 f13_20:=rfl
def f13_5:AC:=.seq (.ops [0,3,4,5] [3,4,5] f13_6l) f13_7
theorem f13_5e:SO f13_5 f13_6l [0,3,4,5] [3,4,5] f13_7:=rfl
def f13_3:AC:=.seq (.ops [0,3,4,5] [3,4,5] f13_4l) f13_5
theorem f13_3e:SO f13_3 f13_4l [0,3,4,5] [3,4,5] f13_5:=rfl
def f13_1:AC:=.seq (.ops [0,3,4] [3,4] f13_2l) f13_3
theorem f13_1e:SO f13_1 f13_2l [0,3,4] [3,4] f13_3:=rfl
def c_f13:AFun:=⟨46,[.cell 4 (some 7)],f13_1⟩
theorem k_f13:aH Go.Proofs.Try.prog x_f13 13 = some c_f13:=by kernel_rfl
theorem e_f13:al Go.Proofs.Try.prog 13 = true:=by kernel_rfl

def n_f14:Nat:=14
def x_f14:Cx:=⟨some,id,32,fun s=>([0,1,2,6,7,8,9,10,11,12,13,15,16,17,18,19,20,21,22,24,25,26,27,28,29,30,31]:List Nat).contains s,fun s=>([]:List Nat).contains s,msOf [(2,[0,1,2],[]),(12,[0,1,2,9],[]),(26,[0,1,2,9,14],[]),(108,[6,7,8],[]),(14,[0,1,2,7,8],[]),(60,[0,1,2,7,8,23],[]),(244,[6,7,8],[]),(62,[6,7,8],[])]⟩
def f14_2l:List GI:=[⟨none,.mv (some 6) (.c (.lit (.bool false)))⟩,
    ⟨none,.mv (some 7) (.c (.lit (.slice none 0 0)))⟩,
    ⟨none,.mv (some 8) (.c (.lit (.int .i64 0)))⟩]
def f14_5l:List GI:=[vv 10 0,
    vv 11 1,
    ⟨none,.call (some 12) false (.f 39) [(.r 10),(.r 11)]⟩,
    vo 9 12]
def f14_7l:List GI:=[vv 13 9,
    vb 14 .neq 13 0]
def f14_10l:List GI:=[vv 15 9,
    ⟨none,.mv (some 6) (.c (.lit (.bool false)))⟩,
    ⟨none,.mv (some 7) (.c (.lit (.slice none 0 0)))⟩,
    vo 8 15]
def f14_9:AC:=.seq (.ops [6,7,8] [] f14_10l) .ret
theorem f14_9e:SO f14_9 f14_10l [6,7,8] [] .ret:=rfl
def f14_8:AC:=.cond (.r 14) f14_9 .skip
theorem f14_8e:CN f14_8 14 f14_9 .skip:=rfl
def f14_6:AC:=.seq (.ops [0,1,2,9,14] [] f14_7l) f14_8
theorem f14_6e:SO f14_6 f14_7l [0,1,2,9,14] [] f14_8:=rfl
def f14_4:AC:=.seq (.ops [0,1,2,9] [] f14_5l) f14_6
theorem f14_4e:SO f14_4 f14_5l [0,1,2,9] [] f14_6:=rfl
def f14_12l:List GI:=[vv 17 0,
    vv 18 2,
    ⟨none,.call (some 19) false (.f 40) [(.r 17),(.r 18)]⟩,
    vv 16 19,
    ve 20 16 0,
    ve 21 16 1,
    vo 7 20,
    vo 8 21]
def f14_15l:List GI:=[vv 22 8,
    vb 23 .eql 22 16]
def f14_18l:List GI:=[vv 24 0,
    vv 25 1,
    vv 26 2,
    ⟨none,.call (some 27) false (.f 41) [(.r 24),(.c (.lit (.int .i64 0))),(.r 25),(.r 26)]⟩,
    ⟨none,.mv (some 6) (.c (.lit (.bool false)))⟩,
    ⟨none,.mv (some 7) (.c (.lit (.slice none 0 0)))⟩,
    vo 8 27]
def f14_17:AC:=.seq (.ops [6,7,8] [] f14_18l) .ret
theorem f14_17e:SO f14_17 f14_18l [6,7,8] [] .ret:=rfl
def f14_16:AC:=.cond (.r 23) f14_17 .skip
theorem f14_16e:CN f14_16 23 f14_17 .skip:=rfl
def f14_14:AC:=.seq (.ops [0,1,2,7,8,23] [] f14_15l) f14_16
theorem f14_14e:SO f14_14 f14_15l [0,1,2,7,8,23] [] f14_16:=rfl
def f14_20l:List GI:=[vv 28 8,
    vb 29 .eql 28 0,
    vv 30 7,
    vv 31 8,
    vo 6 29,
    vo 7 30,
    vo 8 31]
def f14_19:AC:=.seq (.ops [6,7,8] [] f14_20l) .ret
theorem f14_19e:SO f14_19 f14_20l [6,7,8] [] .ret:=rfl
def f14_13:AC:=.seq f14_14 f14_19
theorem f14_13e:SQ f14_13 f14_14 f14_19:=rfl
def f14_11:AC:=.seq (.ops [0,1,2,7,8] [] f14_12l) f14_13
theorem f14_11e:SO f14_11 f14_12l [0,1,2,7,8] [] f14_13:=rfl
def f14_3:AC:=.seq f14_4 f14_11
theorem f14_3e:SQ f14_3 f14_4 f14_11:=rfl
def f14_1:AC:=.seq (.ops [0,1,2] [] f14_2l) f14_3
theorem f14_1e:SO f14_1 f14_2l [0,1,2] [] f14_3:=rfl
def c_f14:AFun:=⟨32,[.tmp 6,.tmp 7,.tmp 8],f14_1⟩
theorem k_f14:aH Go.Proofs.Try.prog x_f14 14 = some c_f14:=by kernel_rfl
theorem e_f14:al Go.Proofs.Try.prog 14 = true:=by kernel_rfl

def n_f15:Nat:=15
def x_f15:Cx:=⟨some,id,31,fun s=>([0,1,4,5,6,7,8,9,10,11,12,14,15,16,17,18,19,20,21,23,24,25,26,27,28,29,30]:List Nat).contains s,fun s=>([]:List Nat).contains s,msOf [(2,[0,1],[]),(12,[0,1,8],[]),(26,[0,1,8,13],[]),(108,[4,5,6,7],[]),(14,[0,1,4,6,7],[]),(60,[0,1,4,6,7,22],[]),(244,[4,5,6,7],[]),(62,[4,5,6,7],[])]⟩
def f15_2l:List GI:=[⟨none,.mv (some 4) (.c (.lit (.int .i64 0)))⟩,
    ⟨none,.mv (some 5) (.c (.lit (.bool false)))⟩,
    ⟨none,.mv (some 6) (.c (.lit (.slice none 0 0)))⟩,
    ⟨none,.mv (some 7) (.c (.lit (.int .i64 0)))⟩]
def f15_5l:List GI:=[vv 9 0,
    vv 10 1,
    ⟨none,.call (some 11) false (.f 39) [(.r 9),(.r 10)]⟩,
    vo 8 11]
def f15_7l:List GI:=[vv 12 8,
    vb 13 .neq 12 0]
def f15_10l:List GI:=[vv 14 8,
    ⟨none,.mv (some 4) (.c (.lit (.int .i64 0)))⟩,
    ⟨none,.mv (some 5) (.c (.lit (.bool false)))⟩,
    ⟨none,.mv (some 6) (.c (.lit (.slice none 0 0)))⟩,
    vo 7 14]
def f15_9:AC:=.seq (.ops [4,5,6,7] [] f15_10l) .ret
theorem f15_9e:SO f15_9 f15_10l [4,5,6,7] [] .ret:=rfl
def f15_8:AC:=.cond (.r 13) f15_9 .skip
theorem f15_8e:CN f15_8 13 f15_9 .skip:=rfl
def f15_6:AC:=.seq (.ops [0,1,8,13] [] f15_7l) f15_8
theorem f15_6e:SO f15_6 f15_7l [0,1,8,13] [] f15_8:=rfl
def f15_4:AC:=.seq (.ops [0,1,8] [] f15_5l) f15_6
theorem f15_4e:SO f15_4 f15_5l [0,1,8] [] f15_6:=rfl
def f15_12l:List GI:=[vv 16 0,
    ⟨none,.call (some 17) false (.f 42) [(.r 16)]⟩,
    vv 15 17,
    ve 18 15 0,
    ve 19 15 1,
    ve 20 15 2,
    vo 4 18,
    vo 6 19,
    vo 7 20]
def f15_15l:List GI:=[vv 21 7,
    vb 22 .eql 21 16]
def f15_18l:List GI:=[vv 23 0,
    vv 24 1,
    ⟨none,.call (some 25) false (.f 41) [(.r 23),(.c (.lit (.int .i64 1))),(.r 24),(.c (.lit (.int .i64 0)))]⟩,
    ⟨none,.mv (some 4) (.c (.lit (.int .i64 0)))⟩,
    ⟨none,.mv (some 5) (.c (.lit (.bool false)))⟩,
    ⟨none,.mv (some 6) (.c (.lit (.slice none 0 0)))⟩,
    vo 7 25]
def f15_17:AC:=.seq (.ops [4,5,6,7] [] f15_18l) .ret
theorem f15_17e:SO f15_17 f15_18l [4,5,6,7] [] .ret:=rfl
def f15_16:AC:=.cond (.r 22) f15_17 .skip
theorem f15_16e:CN f15_16 22 f15_17 .skip:=rfl
def f15_14:AC:=.seq (.ops [0,1,4,6,7,22] [] f15_15l) f15_16
theorem f15_14e:SO f15_14 f15_15l [0,1,4,6,7,22] [] f15_16:=rfl
def f15_20l:List GI:=[vv 26 4,
    vv 27 7,
    vb 28 .eql 27 0,
    vv 29 6,
    vv 30 7,
    vo 4 26,
    vo 5 28,
    vo 6 29,
    vo 7 30]
def f15_19:AC:=.seq (.ops [4,5,6,7] [] f15_20l) .ret
theorem f15_19e:SO f15_19 f15_20l [4,5,6,7] [] .ret:=rfl
def f15_13:AC:=.seq f15_14 f15_19
theorem f15_13e:SQ f15_13 f15_14 f15_19:=rfl
def f15_11:AC:=.seq (.ops [0,1,4,6,7] [] f15_12l) f15_13
theorem f15_11e:SO f15_11 f15_12l [0,1,4,6,7] [] f15_13:=rfl
def f15_3:AC:=.seq f15_4 f15_11
theorem f15_3e:SQ f15_3 f15_4 f15_11:=rfl
def f15_1:AC:=.seq (.ops [0,1] [] f15_2l) f15_3
theorem f15_1e:SO f15_1 f15_2l [0,1] [] f15_3:=rfl
def c_f15:AFun:=⟨31,[.tmp 4,.tmp 5,.tmp 6,.tmp 7],f15_1⟩
theorem k_f15:aH Go.Proofs.Try.prog x_f15 15 = some c_f15:=by kernel_rfl
theorem e_f15:al Go.Proofs.Try.prog 15 = true:=by kernel_rfl

def n_f16:Nat:=16
def x_f16:Cx:=⟨some,id,37,fun s=>([0,1,4,5,7,8,9,10,11,13,15,19,20,21,24,28,30,35,36]:List Nat).contains s,fun s=>([]:List Nat).contains s,msOf [(2,[0,1],[]),(6,[0,1,5],[]),(14,[0,1,5,10],[]),(60,[0,1,5,10,12],[]),(244,[4],[]),(246,[0,1,5,14],[]),(988,[0,1,6],[6]),(1978,[0,1],[]),(3958,[],[]),(7918,[4],[]),(990,[4],[])]⟩
def f16_2l:List GI:=[⟨none,.mv (some 4) (.c (.lit (.int .i64 0)))⟩]
def f16_4l:List GI:=[vv 7 0,
    vv 8 1,
    ⟨none,.call (some 9) false (.f 39) [(.r 7),(.r 8)]⟩,
    vo 5 9]
def f16_6l:List GI:=[vv 10 5]
def f16_9l:List GI:=[vb 13 .eql 10 0,
    vo 12 13]
def f16_12l:List GI:=[⟨none,.mv (some 4) (.c (.lit (.int .i64 9)))⟩]
def f16_11:AC:=.seq (.ops [4] [] f16_12l) .ret
theorem f16_11e:SO f16_11 f16_12l [4] [] .ret:=rfl
def f16_14l:List GI:=[vb 15 .eql 10 11,
    vo 14 15]
def f16_17l:List GI:=[vv 16 0,
    vn 17 16,
    vd 18 17 6,
    vl 19 18,
    vv 20 1,
    ⟨none,.lookup (some 21) (.int .i64) (.agg [(.lit (.int .i64 0)),(.lit (.int .i64 0)),(.lit (.int .u64 0))]) false (.r 19) (.r 20)⟩,
    ⟨none,.newL 6 [(.lit (.int .i64 0)),(.lit (.int .i64 0)),(.lit (.int .u64 0))]⟩,
    ⟨none,.store 3 (.r 6) (.r 21)⟩]
def f16_19h:List GI:=[vv 22 0,
    vd 23 6 0,
    vl 24 23,
    vn 25 22,
    vd 26 25 4,
    ⟨none,.ixA (some 27) (.r 26) (.r 24) 2 1⟩,
    vl 28 27,
    vd 29 6 2,
    vl 30 29]
def f16_19l:List GI:=[⟨none,.call (some 31) false (.f 43) [(.r 28),(.r 30)]⟩]
def f16_19:AC:=.draw [0,1] [] [] f16_19h f16_19l
theorem f16_19e:aC P id m f16_19 sf st Q = ap P id sf.locs st f16_19h (aZ P id m [] [0,1] [] f16_19l Q st) [] ⟨sf.regs,aY [] sf.locs⟩:=rfl
def f16_21l:List GI:=[vv 32 0,
    vn 33 32,
    vd 34 33 6,
    vl 35 34,
    vv 36 1,
    ⟨none,.del (.int .i64) (.r 35) (.r 36)⟩]
def f16_23l:List GI:=[⟨none,.mv (some 4) (.c (.lit (.int .i64 0)))⟩]
def f16_22:AC:=.seq (.ops [4] [] f16_23l) .ret
theorem f16_22e:SO f16_22 f16_23l [4] [] .ret:=rfl
def f16_20:AC:=.seq (.ops [] [] f16_21l) f16_22
theorem f16_20e:SO f16_20 f16_21l [] [] f16_22:=rfl
def f16_18:AC:=.seq f16_19 f16_20
theorem f16_18e:SQ f16_18 f16_19 f16_20:=rfl
def f16_16:AC:=.seq (.ops [0,1,6] [6] f16_17l) f16_18
theorem f16_16e:SO f16_16 f16_17l [0,1,6] [6] f16_18:=rfl
def f16_25l:List GI:=[vv 11 5,
    vo 4 11]
def f16_24:AC:=.seq (.ops [4] [] f16_25l) .ret
theorem f16_24e:SO f16_24 f16_25l [4] [] .ret:=rfl
def f16_15:AC:=.cond (.r 14) f16_16 f16_24
theorem f16_15e:CN f16_15 14 f16_16 f16_24:=rfl
def f16_13:AC:=.seq (.ops [0,1,5,14] [] f16_14l) f16_15
theorem f16_13e:SO f16_13 f16_14l [0,1,5,14] [] f16_15:=rfl
def f16_10:AC:=.cond (.r 12) f16_11 f16_13
theorem f16_10e:CN f16_10 12 f16_11 f16_13:=rfl
def f16_8:AC:=.seq (.ops [0,1,5,10,12] [] f16_9l) f16_10
theorem f16_8e:SO f16_8 f16_9l [0,1,5,10,12] [] f16_10:=rfl
def f16_7:AC:=.block 0 f16_8
theorem f16_7e:BL f16_7 f16_8 0:=rfl
def f16_5:AC:=.seq (.ops [0,1,5,10] [] f16_6l) f16_7
theorem f16_5e:SO f16_5 f16_6l [0,1,5,10] [] f16_7:=rfl
def f16_3:AC:=.seq (.ops [0,1,5] [] f16_4l) f16_5
theorem f16_3e:SO f16_3 f16_4l [0,1,5] [] f16_5:=rfl
def f16_1:AC:=.seq (.ops [0,1] [] f16_2l) f16_3
theorem f16_1e:SO f16_1 f16_2l [0,1] [] f16_3:=rfl
def c_f16:AFun:=⟨37,[.tmp 4],f16_1⟩
theorem k_f16:aH Go.Proofs.Try.prog x_f16 16 = some c_f16:=by kernel_rfl
theorem e_f16:al Go.Proofs.Try.prog 16 = true:=by kernel_rfl

def n_f17:Nat:=17
def x_f17:Cx:=⟨some,id,49,fun s=>([0,2,3,4,6,7,8,11,20,21,23,24,26,27,28,29,30,31,32,34,35,36,37,38,40,41,42,43,44,45,46,47,48]:List Nat).contains s,fun s=>([]:List Nat).contains s,msOf [(2,[0],[]),(12,[0,12],[]),(52,[2,3],[]),(28,[0,16],[]),(116,[2,3],[]),(30,[0],[]),(62,[0,4],[]),(252,[0,4,20,21],[]),(506,[0,4,20,21],[]),(2024,[0,4,20,21,22],[]),(8101,[4],[]),(32408,[0,4,6,20,21],[]),(64818,[0,4,6,7,20,21],[]),(259276,[0,4,6,7,20,21,25],[]),(518554,[0,4,6,7,20,21],[]),(259278,[0,4,6,7,8,10,20,21],[]),(518558,[0,4,6,7,8,10,20,21],[]),(4148464,[0,4,6,7,8,20,21,33],[]),(8296931,[0,4,20,21],[]),(8296932,[0,4,6,7,20,21],[]),(4148467,[0,4,6,7,8,10,20,21],[]),(8103,[0,4,20,21],[]),(254,[2,3],[])]⟩
def f17_2l:List GI:=[⟨none,.mv (some 2) (.c (.lit (.slice none 0 0)))⟩,
    ⟨none,.mv (some 3) (.c (.lit (.int .i64 0)))⟩]
def f17_5l:List GI:=[vv 11 0,
    ⟨none,.call (some 12) false (.f 44) [(.r 11)]⟩]
def f17_8l:List GI:=[⟨none,.mv (some 2) (.c (.lit (.slice none 0 0)))⟩,
    ⟨none,.mv (some 3) (.c (.lit (.int .i64 1)))⟩]
def f17_7:AC:=.seq (.ops [2,3] [] f17_8l) .ret
theorem f17_7e:SO f17_7 f17_8l [2,3] [] .ret:=rfl
def f17_6:AC:=.cond (.r 12) f17_7 .skip
theorem f17_6e:CN f17_6 12 f17_7 .skip:=rfl
def f17_4:AC:=.seq (.ops [0,12] [] f17_5l) f17_6
theorem f17_4e:SO f17_4 f17_5l [0,12] [] f17_6:=rfl
def f17_11l:List GI:=[vv 13 0,
    vn 14 13,
    vd 15 14 1,
    vl 16 15]
def f17_14l:List GI:=[⟨none,.mv (some 2) (.c (.lit (.slice none 0 0)))⟩,
    ⟨none,.mv (some 3) (.c (.lit (.int .i64 14)))⟩]
def f17_13:AC:=.seq (.ops [2,3] [] f17_14l) .ret
theorem f17_13e:SO f17_13 f17_14l [2,3] [] .ret:=rfl
def f17_12:AC:=.cond (.r 16) f17_13 .skip
theorem f17_12e:CN f17_12 16 f17_13 .skip:=rfl
def f17_10:AC:=.seq (.ops [0,16] [] f17_11l) f17_12
theorem f17_10e:SO f17_10 f17_11l [0,16] [] f17_12:=rfl
def f17_16l:List GI:=[vv 17 0,
    vn 18 17,
    vd 19 18 1,
    ⟨none,.store 1 (.r 19) (.c (.lit (.bool true)))⟩]
def f17_18l:List GI:=[⟨none,.mv (some 4) (.c (.lit (.slice none 0 0)))⟩]
def f17_21l:List GI:=[⟨none,.bar (some 20) 1 (.agg [(.lit (.int .i64 0)),(.lit (.int .i64 0))]) [(0,(.c (.lit (.int .i64 1)))),(1,(.c (.lit (.int .i64 0))))]⟩,
    ⟨none,.mv (some 21) (.c (.lit (.int .i64 0)))⟩]
def f17_25l:List GI:=[vb 22 .lss 21 2]
def f17_27:AC:=.cond (.r 22) .skip (.exit [4] [] 0)
theorem f17_27e:CN f17_27 22 .skip (.exit [4] [] 0):=rfl
def f17_31l:List GI:=[⟨none,.ixArr (some 23) (.r 20) (.r 21) 2 1 none⟩,
    vo 6 23]
def f17_33l:List GI:=[⟨none,.mv (some 7) (.c (.lit (.int .i64 14)))⟩]
def f17_36l:List GI:=[vv 24 6,
    vb 25 .eql 24 1]
def f17_38l:List GI:=[⟨none,.mv (some 7) (.c (.lit (.int .i64 13)))⟩]
def f17_38:AC:=.ops [0,4,6,7,20,21] [] f17_38l
theorem f17_38e:OP f17_38 f17_38l [0,4,6,7,20,21] []:=rfl
def f17_37:AC:=.cond (.r 25) f17_38 .skip
theorem f17_37e:CN f17_37 25 f17_38 .skip:=rfl
def f17_35:AC:=.seq (.ops [0,4,6,7,20,21,25] [] f17_36l) f17_37
theorem f17_35e:SO f17_35 f17_36l [0,4,6,7,20,21,25] [] f17_37:=rfl
def f17_40l:List GI:=[vv 27 0,
    vv 28 6,
    ⟨none,.call (some 29) false (.f 45) [(.r 27),(.r 28)]⟩,
    vv 26 29,
    ve 30 26 0,
    ve 31 26 1,
    ve 32 26 2,
    vo 8 30,
    vo 9 31,
    vo 10 32]
def f17_45l:List GI:=[vv 33 10]
def f17_46:AC:=.cond (.r 33) .skip (.exit [0,4,20,21] [] 2)
theorem f17_46e:CN f17_46 33 .skip (.exit [0,4,20,21] [] 2):=rfl
def f17_44:AC:=.seq (.ops [0,4,6,7,8,20,21,33] [] f17_45l) f17_46
theorem f17_44e:SO f17_44 f17_45l [0,4,6,7,8,20,21,33] [] f17_46:=rfl
def f17_49l:List GI:=[vo 41 4,
    vv 42 8,
    vv 43 7,
    ⟨none,.bst (some 44) [(0,1),(1,1),(2,1),(3,1)] (.agg [(.lit (.int .i64 0)),(.lit (.int .i64 0)),(.lit (.int .i64 0)),(.lit (.int .i64 0))]) [(0,(.r 42)),(3,(.r 43))]⟩,
    ⟨none,.bsl (some 45) 4 1 (.agg [(.lit (.int .i64 0)),(.lit (.int .i64 0)),(.lit (.int .i64 0)),(.lit (.int .i64 0))]) [(0,(.r 44))]⟩,
    ⟨none,.appS 46 41 4 32 (.r 45)⟩,
    vo 4 46]
def f17_49:AC:=.ops [0,4,6,7,20,21] [] f17_49l
theorem f17_49e:OP f17_49 f17_49l [0,4,6,7,20,21] []:=rfl
def f17_48:AC:=.block 3 f17_49
theorem f17_48e:BL f17_48 f17_49 3:=rfl
def f17_50l:List GI:=[vv 35 0,
    vv 36 6,
    ⟨none,.call (some 37) false (.f 45) [(.r 35),(.r 36)]⟩,
    vv 34 37,
    ve 38 34 0,
    ve 39 34 1,
    ve 40 34 2,
    vo 8 38,
    vo 10 40]
def f17_50:AC:=.ops [0,4,6,7,8,10,20,21] [] f17_50l
theorem f17_50e:OP f17_50 f17_50l [0,4,6,7,8,10,20,21] []:=rfl
def f17_47:AC:=.seq f17_48 f17_50
theorem f17_47e:SQ f17_47 f17_48 f17_50:=rfl
def f17_43:AC:=.seq f17_44 f17_47
theorem f17_43e:SQ f17_43 f17_44 f17_47:=rfl
def f17_42:AC:=.loop [0,4,6,7,8,10,20,21] [] f17_43
theorem f17_42w:aC P id m f17_42 sf st Q = aO (aC P id m f17_43) [0,4,6,7,8,10,20,21] [] sf st Q:=rfl
def f17_41:AC:=.block 2 f17_42
theorem f17_41e:BL f17_41 f17_42 2:=rfl
def f17_39:AC:=.seq (.ops [0,4,6,7,8,10,20,21] [] f17_40l) f17_41
theorem f17_39e:SO f17_39 f17_40l [0,4,6,7,8,10,20,21] [] f17_41:=rfl
def f17_34:AC:=.seq f17_35 f17_39
theorem f17_34e:SQ f17_34 f17_35 f17_39:=rfl
def f17_32:AC:=.seq (.ops [0,4,6,7,20,21] [] f17_33l) f17_34
theorem f17_32e:SO f17_32 f17_33l [0,4,6,7,20,21] [] f17_34:=rfl
def f17_30:AC:=.seq (.ops [0,4,6,20,21] [] f17_31l) f17_32
theorem f17_30e:SO f17_30 f17_31l [0,4,6,20,21] [] f17_32:=rfl
def f17_29:AC:=.block 1 f17_30
theorem f17_29e:BL f17_29 f17_30 1:=rfl
def f17_51l:List GI:=[vb 47 .add 21 1,
    vv 21 47]
def f17_51:AC:=.ops [0,4,20,21] [] f17_51l
theorem f17_51e:OP f17_51 f17_51l [0,4,20,21] []:=rfl
def f17_28:AC:=.seq f17_29 f17_51
theorem f17_28e:SQ f17_28 f17_29 f17_51:=rfl
def f17_26:AC:=.seq f17_27 f17_28
theorem f17_26e:SQ f17_26 f17_27 f17_28:=rfl
def f17_24:AC:=.seq (.ops [0,4,20,21,22] [] f17_25l) f17_26
theorem f17_24e:SO f17_24 f17_25l [0,4,20,21,22] [] f17_26:=rfl
def f17_23:AC:=.loop [0,4,20,21] [] f17_24
theorem f17_23w:aC P id m f17_23 sf st Q = aO (aC P id m f17_24) [0,4,20,21] [] sf st Q:=rfl
def f17_22:AC:=.block 0 f17_23
theorem f17_22e:BL f17_22 f17_23 0:=rfl
def f17_20:AC:=.seq (.ops [0,4,20,21] [] f17_21l) f17_22
theorem f17_20e:SO f17_20 f17_21l [0,4,20,21] [] f17_22:=rfl
def f17_53l:List GI:=[vv 48 4,
    vo 2 48,
    ⟨none,.mv (some 3) (.c (.lit (.int .i64 0)))⟩]
def f17_52:AC:=.seq (.ops [2,3] [] f17_53l) .ret
theorem f17_52e:SO f17_52 f17_53l [2,3] [] .ret:=rfl
def f17_19:AC:=.seq f17_20 f17_52
theorem f17_19e:SQ f17_19 f17_20 f17_52:=rfl
def f17_17:AC:=.seq (.ops [0,4] [] f17_18l) f17_19
theorem f17_17e:SO f17_17 f17_18l [0,4] [] f17_19:=rfl
def f17_15:AC:=.seq (.ops [0] [] f17_16l) f17_17
theorem f17_15e:SO f17_15 f17_16l [0] [] f17_17:=rfl
def f17_9:AC:=.seq f17_10 f17_15
theorem f17_9e:SQ f17_9 f17_10 f17_15:=rfl
def f17_3:AC:=.seq f17_4 f17_9
theorem f17_3e:SQ f17_3 f17_4 f17_9:=rfl
def f17_1:AC:=.seq (.ops [0] [] f17_2l) f17_3
theorem f17_1e:SO f17_1 f17_2l [0] [] f17_3:=rfl
def c_f17:AFun:=⟨49,[.tmp 2,.tmp 3],f17_1⟩
theorem k_f17:aH Go.Proofs.Try.prog x_f17 17 = some c_f17:=by kernel_rfl
theorem e_f17:al Go.Proofs.Try.prog 17 = true:=by kernel_rfl

def n_f18:Nat:=18
def x_f18:Cx:=⟨some,id,52,fun s=>([0,1,4,5,7,9,10,11,13,15,16,17,18,20,22,23,24,25,27,28,30,31,32,34,36,37,39,40,43,45,48,50]:List Nat).contains s,fun s=>([]:List Nat).contains s,msOf [(2,[2,3],[2,3]),(12,[2,3,33],[2,3]),(52,[4],[]),(28,[2,3,5],[2,3]),(58,[2,3,5],[2,3]),(464,[2,3,5,38],[2,3]),(931,[],[]),(1864,[2,3,5,51],[2,3]),(7460,[4],[]),(467,[2,3,5],[2,3]),(30,[4],[])]⟩
def f18_2l:List GI:=[⟨none,.boxL 2 7 (.r 0)⟩,
    ⟨none,.boxL 3 7 (.r 1)⟩,
    ⟨none,.mv (some 4) (.c (.lit (.bool false)))⟩]
def f18_5l:List GI:=[vd 6 2 0,
    ⟨none,.load (some 7) (.r 6) (some 4)⟩,
    vd 8 3 0,
    ⟨none,.load (some 9) (.r 8) (some 4)⟩,
    ⟨none,.bin (some 10) (.agg (.field 0 1 .int (.field 1 1 .int (.field 2 1 .int (.field 3 1 .int .tt))))) .neq (.r 7) (.r 9)⟩,
    vv 11 10,
    ⟨some (11,false),.addr (some 12) (.r 2) 4⟩,
    ⟨some (11,false),.load (some 13) (.r 12) none⟩,
    ⟨some (11,false),.addr (some 14) (.r 3) 4⟩,
    ⟨some (11,false),.load (some 15) (.r 14) none⟩,
    ⟨some (11,false),.bin (some 16) .bool .neq (.r 13) (.r 15)⟩,
    ⟨none,.pick (some 17) (.r 11) (.c (.lit (.bool true))) (.r 16)⟩,
    vv 18 17,
    ⟨some (18,false),.addr (some 19) (.r 2) 6⟩,
    ⟨some (18,false),.load (some 20) (.r 19) none⟩,
    ⟨some (18,false),.addr (some 21) (.r 3) 6⟩,
    ⟨some (18,false),.load (some 22) (.r 21) none⟩,
    ⟨some (18,false),.bin (some 23) .num .neq (.r 20) (.r 22)⟩,
    ⟨none,.pick (some 24) (.r 18) (.c (.lit (.bool true))) (.r 23)⟩,
    vv 25 24,
    ⟨some (25,false),.addr (some 26) (.r 2) 5⟩,
    ⟨some (25,false),.load (some 27) (.r 26) none⟩,
    ⟨some (25,false),.len (some 28) .sl (.r 27)⟩,
    ⟨some (25,false),.addr (some 29) (.r 3) 5⟩,
    ⟨some (25,false),.load (some 30) (.r 29) none⟩,
    ⟨some (25,false),.len (some 31) .sl (.r 30)⟩,
    ⟨some (25,false),.bin (some 32) .num .neq (.r 28) (.r 31)⟩,
    ⟨none,.pick (some 33) (.r 25) (.c (.lit (.bool true))) (.r 32)⟩]
def f18_8l:List GI:=[⟨none,.mv (some 4) (.c (.lit (.bool false)))⟩]
def f18_7:AC:=.seq (.ops [4] [] f18_8l) .ret
theorem f18_7e:SO f18_7 f18_8l [4] [] .ret:=rfl
def f18_6:AC:=.cond (.r 33) f18_7 .skip
theorem f18_6e:CN f18_6 33 f18_7 .skip:=rfl
def f18_4:AC:=.seq (.ops [2,3,33] [2,3] f18_5l) f18_6
theorem f18_4e:SO f18_4 f18_5l [2,3,33] [2,3] f18_6:=rfl
def f18_11l:List GI:=[⟨none,.mv (some 5) (.c (.lit (.int .i64 0)))⟩]
def f18_16l:List GI:=[vv 34 5,
    vd 35 2 5,
    vl 36 35,
    ⟨none,.len (some 37) .sl (.r 36)⟩,
    ⟨none,.bin (some 38) .num .lss (.r 34) (.r 37)⟩]
def f18_17:AC:=.cond (.r 38) .skip (.exit [] [] 0)
theorem f18_17e:CN f18_17 38 .skip (.exit [] [] 0):=rfl
def f18_15:AC:=.seq (.ops [2,3,5,38] [2,3] f18_16l) f18_17
theorem f18_15e:SO f18_15 f18_16l [2,3,5,38] [2,3] f18_17:=rfl
def f18_21h:List GI:=[vd 41 2 5,
    vl 42 41,
    vv 43 5,
    ⟨none,.ixS (some 44) (.r 42) (.r 43) 4⟩,
    ⟨none,.load (some 45) (.r 44) (some 4)⟩,
    vd 46 3 5,
    vl 47 46,
    vv 48 5,
    ⟨none,.ixS (some 49) (.r 47) (.r 48) 4⟩,
    ⟨none,.load (some 50) (.r 49) (some 4)⟩]
def f18_21l:List GI:=[⟨none,.bin (some 51) (.agg (.field 0 1 .int (.field 1 1 .int (.field 2 1 .int (.field 3 1 .int .tt))))) .neq (.r 45) (.r 50)⟩]
def f18_21:AC:=.draw [2,3,5,51] [2,3] [] f18_21h f18_21l
theorem f18_21e:aC P id m f18_21 sf st Q = ap P id sf.locs st f18_21h (aZ P id m [] [2,3,5,51] [2,3] f18_21l Q st) [] ⟨sf.regs,aY [] sf.locs⟩:=rfl
def f18_24l:List GI:=[⟨none,.mv (some 4) (.c (.lit (.bool false)))⟩]
def f18_23:AC:=.seq (.ops [4] [] f18_24l) .ret
theorem f18_23e:SO f18_23 f18_24l [4] [] .ret:=rfl
def f18_22:AC:=.cond (.r 51) f18_23 .skip
theorem f18_22e:CN f18_22 51 f18_23 .skip:=rfl
def f18_20:AC:=.seq f18_21 f18_22
theorem f18_20e:SQ f18_20 f18_21 f18_22:=rfl
def f18_19:AC:=.block 1 f18_20
theorem f18_19e:BL f18_19 f18_20 1:=rfl
def f18_25l:List GI:=[vv 39 5,
    vb 40 .add 39 1,
    vo 5 40]
def f18_25:AC:=.ops [2,3,5] [2,3] f18_25l
theorem f18_25e:OP f18_25 f18_25l [2,3,5] [2,3]:=rfl
def f18_18:AC:=.seq f18_19 f18_25
theorem f18_18e:SQ f18_18 f18_19 f18_25:=rfl
def f18_14:AC:=.seq f18_15 f18_18
theorem f18_14e:SQ f18_14 f18_15 f18_18:=rfl
def f18_13:AC:=.loop [2,3,5] [2,3] f18_14
theorem f18_13w:aC P id m f18_13 sf st Q = aO (aC P id m f18_14) [2,3,5] [2,3] sf st Q:=rfl
def f18_12:AC:=.block 0 f18_13
theorem f18_12e:BL f18_12 f18_13 0:=rfl
def f18_10:AC:=.seq (.ops [2,3,5] [2,3] f18_11l) f18_12
theorem f18_10e:SO f18_10 f18_11l [2,3,5] [2,3] f18_12:=rfl
def f18_27l:List GI:=[⟨none,.mv (some 4) (.c (.lit (.bool true)))⟩]
def f18_26:AC:=.seq (.ops [4] [] f18_27l) .ret
theorem f18_26e:SO f18_26 f18_27l [4] [] .ret:=rfl
def f18_9:AC:=.seq f18_10 f18_26
theorem f18_9e:SQ f18_9 f18_10 f18_26:=rfl
def f18_3:AC:=.seq f18_4 f18_9
theorem f18_3e:SQ f18_3 f18_4 f18_9:=rfl
def f18_1:AC:=.seq (.ops [2,3] [2,3] f18_2l) f18_3
theorem f18_1e:SO f18_1 f18_2l [2,3] [2,3] f18_3:=rfl
def c_f18:AFun:=⟨52,[.tmp 4],f18_1⟩
theorem k_f18:aH Go.Proofs.Try.prog x_f18 18 = some c_f18:=by kernel_rfl
theorem e_f18:al Go.Proofs.Try.prog 18 = true:=by kernel_rfl

def n_f19:Nat:=19
def x_f19:Cx:=⟨some,id,9,fun s=>([0,1,4,5,6,7,8]:List Nat).contains s,fun s=>([]:List Nat).contains s,msOf [(2,[0,1],[]),(6,[4],[])]⟩
def f19_2l:List GI:=[⟨none,.mv (some 4) (.c (.lit (.int .i64 0)))⟩]
def f19_4l:List GI:=[vv 5 0,
    vv 6 1,
    ⟨none,.call (some 7) false (.f 46) [(.r 5),(.r 6)]⟩,
    ⟨none,.call (some 8) false (.f 20) [(.r 7)]⟩,
    vo 4 8]
def f19_3:AC:=.seq (.ops [4] [] f19_4l) .ret
theorem f19_3e:SO f19_3 f19_4l [4] [] .ret:=rfl
def f19_1:AC:=.seq (.ops [0,1] [] f19_2l) f19_3
theorem f19_1e:SO f19_1 f19_2l [0,1] [] f19_3:=rfl
def c_f19:AFun:=⟨9,[.tmp 4],f19_1⟩
theorem k_f19:aH Go.Proofs.Try.prog x_f19 19 = some c_f19:=by kernel_rfl
theorem e_f19:al Go.Proofs.Try.prog 19 = true:=by kernel_rfl

def n_f20:Nat:=20
def x_f20:Cx:=⟨some,id,10,fun s=>([0,2,3,8,9]:List Nat).contains s,fun s=>([]:List Nat).contains s,msOf [(2,[0],[]),(12,[0,4],[]),(52,[2],[]),(14,[2],[])]⟩
def f20_2l:List GI:=[⟨none,.mv (some 2) (.c (.lit (.int .i64 0)))⟩]
def f20_5l:List GI:=[vv 3 0,
    ⟨none,.call (some 4) false (.f 44) [(.r 3)]⟩]
def f20_8l:List GI:=[⟨none,.mv (some 2) (.c (.lit (.int .i64 0)))⟩]
def f20_7:AC:=.seq (.ops [2] [] f20_8l) .ret
theorem f20_7e:SO f20_7 f20_8l [2] [] .ret:=rfl
def f20_6:AC:=.cond (.r 4) f20_7 .skip
theorem f20_6e:CN f20_6 4 f20_7 .skip:=rfl
def f20_4:AC:=.seq (.ops [0,4] [] f20_5l) f20_6
theorem f20_4e:SO f20_4 f20_5l [0,4] [] f20_6:=rfl
def f20_10l:List GI:=[vv 5 0,
    vn 6 5,
    vd 7 6 3,
    vl 8 7,
    ⟨none,.len (some 9) .sl (.r 8)⟩,
    vo 2 9]
def f20_9:AC:=.seq (.ops [2] [] f20_10l) .ret
theorem f20_9e:SO f20_9 f20_10l [2] [] .ret:=rfl
def f20_3:AC:=.seq f20_4 f20_9
theorem f20_3e:SQ f20_3 f20_4 f20_9:=rfl
def f20_1:AC:=.seq (.ops [0] [] f20_2l) f20_3
theorem f20_1e:SO f20_1 f20_2l [0] [] f20_3:=rfl
def c_f20:AFun:=⟨10,[.tmp 2],f20_1⟩
theorem k_f20:aH Go.Proofs.Try.prog x_f20 20 = some c_f20:=by kernel_rfl
theorem e_f20:al Go.Proofs.Try.prog 20 = true:=by kernel_rfl

def n_f21:Nat:=21
def x_f21:Cx:=⟨some,id,9,fun s=>([0,1,4,5,6,7,8]:List Nat).contains s,fun s=>([]:List Nat).contains s,msOf [(2,[0,1],[]),(6,[4],[])]⟩
def f21_2l:List GI:=[⟨none,.mv (some 4) (.c (.lit (.bool false)))⟩]
def f21_4l:List GI:=[vv 5 0,
    vv 6 1,
    ⟨none,.call (some 7) false (.f 46) [(.r 5),(.r 6)]⟩,
    ⟨none,.call (some 8) false (.f 22) [(.r 7)]⟩,
    vo 4 8]
def f21_3:AC:=.seq (.ops [4] [] f21_4l) .ret
theorem f21_3e:SO f21_3 f21_4l [4] [] .ret:=rfl
def f21_1:AC:=.seq (.ops [0,1] [] f21_2l) f21_3
theorem f21_1e:SO f21_1 f21_2l [0,1] [] f21_3:=rfl
def c_f21:AFun:=⟨9,[.tmp 4],f21_1⟩
theorem k_f21:aH Go.Proofs.Try.prog x_f21 21 = some c_f21:=by kernel_rfl
theorem e_f21:al Go.Proofs.Try.prog 21 = true:=by kernel_rfl

def n_f22:Nat:=22
def x_f22:Cx:=⟨some,id,12,fun s=>([0,2,3,4,5,6,10,11]:List Nat).contains s,fun s=>([]:List Nat).contains s,msOf [(2,[0],[]),(6,[2],[])]⟩
def f22_2l:List GI:=[⟨none,.mv (some 2) (.c (.lit (.bool false)))⟩]
def f22_4l:List GI:=[vv 3 0,
    ⟨none,.call (some 4) false (.f 44) [(.r 3)]⟩,
    ⟨none,.un (some 5) .not (.r 4)⟩,
    vv 6 5,
    ⟨some (6,true),.mv (some 7) (.r 0)⟩,
    ⟨some (6,true),.nilck (some 8) (.r 7)⟩,
    ⟨some (6,true),.addr (some 9) (.r 8) 1⟩,
    ⟨some (6,true),.load (some 10) (.r 9) none⟩,
    ⟨none,.pick (some 11) (.r 6) (.r 10) (.c (.lit (.bool false)))⟩,
    vo 2 11]
def f22_3:AC:=.seq (.ops [2] [] f22_4l) .ret
theorem f22_3e:SO f22_3 f22_4l [2] [] .ret:=rfl
def f22_1:AC:=.seq (.ops [0] [] f22_2l) f22_3
theorem f22_1e:SO f22_1 f22_2l [0] [] f22_3:=rfl
def c_f22:AFun:=⟨12,[.tmp 2],f22_1⟩
theorem k_f22:aH Go.Proofs.Try.prog x_f22 22 = some c_f22:=by kernel_rfl
theorem e_f22:al Go.Proofs.Try.prog 22 = true:=by kernel_rfl

def n_f23:Nat:=23
def x_f23:Cx:=⟨some,id,45,fun s=>([0,3,5,6,7,8,9,10,11,12,14,15,16,17,19,20,22,24,25,26,28,30,31,33,35,37,39,40,41,42,44]:List Nat).contains s,fun s=>([42]:List Nat).contains s,msOf [(2,[0,2],[2]),(12,[0,2,13],[2]),(52,[2,3],[2]),(14,[0,2,4],[2,4]),(60,[0,2,4,5],[2,4]),(122,[0,2,4,5],[2,4]),(976,[0,2,4,5,18],[2,4]),(1955,[2,4],[2,4]),(7824,[0,2,4,5,32],[2,4]),(31300,[2,3],[2]),(3913,[0,2,4,5],[2,4]),(979,[0,2,4,5],[2,4]),(62,[2,3],[2])]⟩
def f23_2l:List GI:=[⟨none,.newL 2 [(.lit (.slice none 0 0)),(.lit (.slice none 0 0))]⟩,
    ⟨none,.mv (some 3) (.c (.lit (.int .i64 0)))⟩]
def f23_5l:List GI:=[vv 6 0,
    ⟨none,.len (some 7) .sl (.r 6)⟩,
    vb 8 .lss 7 1,
    vv 9 8,
    ⟨some (9,false),.mv (some 10) (.r 0)⟩,
    ⟨some (9,false),.len (some 11) .sl (.r 10)⟩,
    ⟨some (9,false),.bin (some 12) .num .gtr (.r 11) (.c (.lit (.int .i64 16)))⟩,
    ⟨none,.pick (some 13) (.r 9) (.c (.lit (.bool true))) (.r 12)⟩]
def f23_8l:List GI:=[⟨none,.bst (some 14) [(0,1),(1,1)] (.agg [(.lit (.slice none 0 0)),(.lit (.slice none 0 0))]) []⟩,
    ⟨none,.store 2 (.r 2) (.r 14)⟩,
    ⟨none,.mv (some 3) (.c (.lit (.int .i64 2)))⟩]
def f23_7:AC:=.seq (.ops [2,3] [2] f23_8l) .ret
theorem f23_7e:SO f23_7 f23_8l [2,3] [2] .ret:=rfl
def f23_6:AC:=.cond (.r 13) f23_7 .skip
theorem f23_6e:CN f23_6 13 f23_7 .skip:=rfl
def f23_4:AC:=.seq (.ops [0,2,13] [2] f23_5l) f23_6
theorem f23_4e:SO f23_4 f23_5l [0,2,13] [2] f23_6:=rfl
def f23_10l:List GI:=[⟨none,.newL 4 [(.lit (.slice none 0 0)),(.lit (.slice none 0 0))]⟩]
def f23_13l:List GI:=[⟨none,.mv (some 5) (.c (.lit (.int .i64 0)))⟩]
def f23_18l:List GI:=[vv 15 5,
    vv 16 0,
    ⟨none,.len (some 17) .sl (.r 16)⟩,
    ⟨none,.bin (some 18) .num .lss (.r 15) (.r 17)⟩]
def f23_19:AC:=.cond (.r 18) .skip (.exit [2,4] [2,4] 0)
theorem f23_19e:CN f23_19 18 .skip (.exit [2,4] [2,4] 0):=rfl
def f23_17:AC:=.seq (.ops [0,2,4,5,18] [2,4] f23_18l) f23_19
theorem f23_17e:SO f23_17 f23_18l [0,2,4,5,18] [2,4] f23_19:=rfl
def f23_24l:List GI:=[vv 21 0,
    vv 22 5,
    ⟨none,.ixS (some 23) (.r 21) (.r 22) 1⟩,
    vl 24 23,
    vb 25 .lss 24 0,
    vv 26 25,
    ⟨some (26,false),.mv (some 27) (.r 0)⟩,
    ⟨some (26,false),.mv (some 28) (.r 5)⟩,
    ⟨some (26,false),.ixS (some 29) (.r 27) (.r 28) 1⟩,
    ⟨some (26,false),.load (some 30) (.r 29) none⟩,
    ⟨some (26,false),.bin (some 31) .num .gtr (.r 30) (.c (.lit (.int .i64 4096)))⟩,
    ⟨none,.pick (some 32) (.r 26) (.c (.lit (.bool true))) (.r 31)⟩]
def f23_27l:List GI:=[⟨none,.bst (some 33) [(0,1),(1,1)] (.agg [(.lit (.slice none 0 0)),(.lit (.slice none 0 0))]) []⟩,
    ⟨none,.store 2 (.r 2) (.r 33)⟩,
    ⟨none,.mv (some 3) (.c (.lit (.int .i64 2)))⟩]
def f23_26:AC:=.seq (.ops [2,3] [2] f23_27l) .ret
theorem f23_26e:SO f23_26 f23_27l [2,3] [2] .ret:=rfl
def f23_25:AC:=.cond (.r 32) f23_26 .skip
theorem f23_25e:CN f23_25 32 f23_26 .skip:=rfl
def f23_23:AC:=.seq (.ops [0,2,4,5,32] [2,4] f23_24l) f23_25
theorem f23_23e:SO f23_23 f23_24l [0,2,4,5,32] [2,4] f23_25:=rfl
def f23_28h:List GI:=[vd 34 4 0,
    vl 35 34,
    vv 36 0,
    vv 37 5,
    ⟨none,.ixS (some 38) (.r 36) (.r 37) 1⟩,
    vl 39 38,
    ⟨none,.bst (some 40) [(0,1),(1,1),(2,1)] (.agg [(.lit (.int .i64 0)),(.lit (.slice none 0 0)),(.lit (.bool false))]) [(0,(.r 39))]⟩,
    ⟨none,.bsl (some 41) 3 1 (.agg [(.lit (.int .i64 0)),(.lit (.slice none 0 0)),(.lit (.bool false))]) [(0,(.r 40))]⟩]
def f23_28l:List GI:=[⟨none,.x (some 42) (.appB (.r 35) 3 40 (.r 41))⟩,
    vd 43 4 0,
    ⟨none,.store 1 (.r 43) (.r 42)⟩]
def f23_28:AC:=.draw [0,2,4,5] [2,4] [] f23_28h f23_28l
theorem f23_28e:aC P id m f23_28 sf st Q = ap P id sf.locs st f23_28h (aZ P id m [] [0,2,4,5] [2,4] f23_28l Q st) [] ⟨sf.regs,aY [] sf.locs⟩:=rfl
def f23_22:AC:=.seq f23_23 f23_28
theorem f23_22e:SQ f23_22 f23_23 f23_28:=rfl
def f23_21:AC:=.block 1 f23_22
theorem f23_21e:BL f23_21 f23_22 1:=rfl
def f23_29l:List GI:=[vv 19 5,
    vb 20 .add 19 1,
    vo 5 20]
def f23_29:AC:=.ops [0,2,4,5] [2,4] f23_29l
theorem f23_29e:OP f23_29 f23_29l [0,2,4,5] [2,4]:=rfl
def f23_20:AC:=.seq f23_21 f23_29
theorem f23_20e:SQ f23_20 f23_21 f23_29:=rfl
def f23_16:AC:=.seq f23_17 f23_20
theorem f23_16e:SQ f23_16 f23_17 f23_20:=rfl
def f23_15:AC:=.loop [0,2,4,5] [2,4] f23_16
theorem f23_15w:aC P id m f23_15 sf st Q = aO (aC P id m f23_16) [0,2,4,5] [2,4] sf st Q:=rfl
def f23_14:AC:=.block 0 f23_15
theorem f23_14e:BL f23_14 f23_15 0:=rfl
def f23_12:AC:=.seq (.ops [0,2,4,5] [2,4] f23_13l) f23_14
theorem f23_12e:SO f23_12 f23_13l [0,2,4,5] [2,4] f23_14:=rfl
def f23_31l:List GI:=[⟨none,.load (some 44) (.r 4) (some 2)⟩,
    ⟨none,.store 2 (.r 2) (.r 44)⟩,
    ⟨none,.mv (some 3) (.c (.lit (.int .i64 0)))⟩]
def f23_30:AC:=.seq (.ops [2,3] [2] f23_31l) .ret
theorem f23_30e:SO f23_30 f23_31l [2,3] [2] .ret:=rfl
def f23_11:AC:=.seq f23_12 f23_30
theorem f23_11e:SQ f23_11 f23_12 f23_30:=rfl
def f23_9:AC:=.seq (.ops [0,2,4] [2,4] f23_10l) f23_11
theorem f23_9e:SO f23_9 f23_10l [0,2,4] [2,4] f23_11:=rfl
def f23_3:AC:=.seq f23_4 f23_9
theorem f23_3e:SQ f23_3 f23_4 f23_9:=rfl
def f23_1:AC:=.seq (.ops [0,2] [2] f23_2l) f23_3
theorem f23_1e:SO f23_1 f23_2l [0,2] [2] f23_3:=rfl
def c_f23:AFun:=⟨45,[.cell 2 (some 2),.tmp 3],f23_1⟩
theorem k_f23:aH Go.Proofs.Try.prog x_f23 23 = some c_f23:=by kernel_rfl
theorem e_f23:al Go.Proofs.Try.prog 23 = true:=by kernel_rfl

def n_f24:Nat:=24
def x_f24:Cx:=⟨some,id,74,fun s=>([0,1,4,5,6,7,9,10,11,12,13,14,15,16,17,18,19,20,21,22,23,24,25,26,28,29,30,31,32,33,34,35,36,37,38,40,41,42,44,46,47,49,50,51,52,53,56,59,60,61,62,63,64,65,68,71,72]:List Nat).contains s,fun s=>([]:List Nat).contains s,msOf [(2,[0,3],[3]),(12,[0,3,43],[3]),(52,[4],[]),(28,[0,3,5],[3]),(58,[0,3,5],[3]),(464,[0,3,5,48],[3]),(931,[],[]),(1864,[0,3,5,73],[3]),(7460,[4],[]),(467,[0,3,5],[3]),(30,[4],[])]⟩
def f24_2l:List GI:=[⟨none,.boxL 3 2 (.r 1)⟩,
    ⟨none,.mv (some 4) (.c (.lit (.bool false)))⟩]
def f24_5h:List GI:=[vv 6 0,
    ⟨none,.call (some 7) true (.f 31) [(.r 6)]⟩,
    vd 8 3 0,
    vl 9 8,
    ⟨none,.len (some 10) .sl (.r 9)⟩,
    ⟨none,.bin (some 11) .num .neq (.r 7) (.r 10)⟩,
    vv 12 11,
    ⟨some (12,false),.mv (some 13) (.r 0)⟩,
    ⟨some (12,false),.call (some 14) true (.f 26) [(.r 13)]⟩,
    ⟨some (12,false),.load (some 15) (.r 3) (some 2)⟩,
    ⟨some (12,false),.call (some 16) true (.f 48) [(.r 15)]⟩,
    ⟨some (12,false),.call (some 17) true (.f 47) [(.r 14),(.r 16)]⟩,
    ⟨some (12,false),.un (some 18) .not (.r 17)⟩,
    ⟨none,.pick (some 19) (.r 12) (.c (.lit (.bool true))) (.r 18)⟩,
    vv 20 19,
    ⟨some (20,false),.mv (some 21) (.r 0)⟩,
    ⟨some (20,false),.call (some 22) true (.f 19) [(.r 21),(.c (.lit (.int .i64 (-1))))]⟩,
    ⟨some (20,false),.bin (some 23) .num .neq (.r 22) (.c (.lit (.int .i64 0)))⟩,
    ⟨none,.pick (some 24) (.r 20) (.c (.lit (.bool true))) (.r 23)⟩,
    vv 25 24,
    ⟨some (25,false),.mv (some 26) (.r 0)⟩,
    ⟨some (25,false),.addr (some 27) (.r 3) 0⟩,
    ⟨some (25,false),.load (some 28) (.r 27) none⟩,
    ⟨some (25,false),.len (some 29) .sl (.r 28)⟩,
    ⟨some (25,false),.call (some 30) true (.f 19) [(.r 26),(.r 29)]⟩,
    ⟨some (25,false),.bin (some 31) .num .neq (.r 30) (.c (.lit (.int .i64 0)))⟩,
    ⟨none,.pick (some 32) (.r 25) (.c (.lit (.bool true))) (.r 31)⟩,
    vv 33 32,
    ⟨some (33,false),.mv (some 34) (.r 0)⟩,
    ⟨some (33,false),.call (some 35) true (.f 21) [(.r 34),(.c (.lit (.int .i64 (-1))))]⟩,
    ⟨none,.pick (some 36) (.r 33) (.c (.lit (.bool true))) (.r 35)⟩,
    vv 37 36,
    ⟨some (37,false),.mv (some 38) (.r 0)⟩,
    ⟨some (37,false),.addr (some 39) (.r 3) 0⟩,
    ⟨some (37,false),.load (some 40) (.r 39) none⟩,
    ⟨some (37,false),.len (some 41) .sl (.r 40)⟩]
def f24_5l:List GI:=[⟨some (37,false),.call (some 42) false (.f 21) [(.r 38),(.r 41)]⟩,
    ⟨none,.pick (some 43) (.r 37) (.c (.lit (.bool true))) (.r 42)⟩]
def f24_5:AC:=.draw [0,3,43] [3] [] f24_5h f24_5l
theorem f24_5e:aC P id m f24_5 sf st Q = ap P id sf.locs st f24_5h (aZ P id m [] [0,3,43] [3] f24_5l Q st) [] ⟨sf.regs,aY [] sf.locs⟩:=rfl
def f24_8l:List GI:=[⟨none,.mv (some 4) (.c (.lit (.bool false)))⟩]
def f24_7:AC:=.seq (.ops [4] [] f24_8l) .ret
theorem f24_7e:SO f24_7 f24_8l [4] [] .ret:=rfl
def f24_6:AC:=.cond (.r 43) f24_7 .skip
theorem f24_6e:CN f24_6 43 f24_7 .skip:=rfl
def f24_4:AC:=.seq f24_5 f24_6
theorem f24_4e:SQ f24_4 f24_5 f24_6:=rfl
def f24_11l:List GI:=[⟨none,.mv (some 5) (.c (.lit (.int .i64 0)))⟩]
def f24_16l:List GI:=[vv 44 5,
    vd 45 3 0,
    vl 46 45,
    ⟨none,.len (some 47) .sl (.r 46)⟩,
    ⟨none,.bin (some 48) .num .lss (.r 44) (.r 47)⟩]
def f24_17:AC:=.cond (.r 48) .skip (.exit [] [] 0)
theorem f24_17e:CN f24_17 48 .skip (.exit [] [] 0):=rfl
def f24_15:AC:=.seq (.ops [0,3,5,48] [3] f24_16l) f24_17
theorem f24_15e:SO f24_15 f24_16l [0,3,5,48] [3] f24_17:=rfl
def f24_21h:List GI:=[vv 51 0,
    vv 52 5,
    ⟨none,.call (some 53) true (.f 19) [(.r 51),(.r 52)]⟩,
    vd 54 3 0,
    vl 55 54,
    vv 56 5,
    ⟨none,.ixS (some 57) (.r 55) (.r 56) 3⟩,
    vd 58 57 1,
    vl 59 58,
    ⟨none,.len (some 60) .sl (.r 59)⟩,
    ⟨none,.bin (some 61) .num .neq (.r 53) (.r 60)⟩,
    vv 62 61,
    ⟨some (62,false),.mv (some 63) (.r 0)⟩,
    ⟨some (62,false),.mv (some 64) (.r 5)⟩,
    ⟨some (62,false),.call (some 65) true (.f 21) [(.r 63),(.r 64)]⟩,
    ⟨some (62,false),.addr (some 66) (.r 3) 0⟩,
    ⟨some (62,false),.load (some 67) (.r 66) none⟩,
    ⟨some (62,false),.mv (some 68) (.r 5)⟩,
    ⟨some (62,false),.ixS (some 69) (.r 67) (.r 68) 3⟩,
    ⟨some (62,false),.addr (some 70) (.r 69) 2⟩,
    ⟨some (62,false),.load (some 71) (.r 70) none⟩]
def f24_21l:List GI:=[⟨some (62,false),.bin (some 72) .bool .neq (.r 65) (.r 71)⟩,
    ⟨none,.pick (some 73) (.r 62) (.c (.lit (.bool true))) (.r 72)⟩]
def f24_21:AC:=.draw [0,3,5,73] [3] [] f24_21h f24_21l
theorem f24_21e:aC P id m f24_21 sf st Q = ap P id sf.locs st f24_21h (aZ P id m [] [0,3,5,73] [3] f24_21l Q st) [] ⟨sf.regs,aY [] sf.locs⟩:=rfl
def f24_24l:List GI:=[⟨none,.mv (some 4) (.c (.lit (.bool false)))⟩]
def f24_23:AC:=.seq (.ops [4] [] f24_24l) .ret
theorem f24_23e:SO f24_23 f24_24l [4] [] .ret:=rfl
def f24_22:AC:=.cond (.r 73) f24_23 .skip
theorem f24_22e:CN f24_22 73 f24_23 .skip:=rfl
def f24_20:AC:=.seq f24_21 f24_22
theorem f24_20e:SQ f24_20 f24_21 f24_22:=rfl
def f24_19:AC:=.block 1 f24_20
theorem f24_19e:BL f24_19 f24_20 1:=rfl
def f24_25l:List GI:=[vv 49 5,
    vb 50 .add 49 1,
    vo 5 50]
def f24_25:AC:=.ops [0,3,5] [3] f24_25l
theorem f24_25e:OP f24_25 f24_25l [0,3,5] [3]:=rfl
def f24_18:AC:=.seq f24_19 f24_25
theorem f24_18e:SQ f24_18 f24_19 f24_25:=rfl
def f24_14:AC:=.seq f24_15 f24_18
theorem f24_14e:SQ f24_14 f24_15 f24_18:=rfl
def f24_13:AC:=.loop [0,3,5] [3] f24_14
theorem f24_13w:aC P id m f24_13 sf st Q = aO (aC P id m f24_14) [0,3,5] [3] sf st Q:=rfl
def f24_12:AC:=.block 0 f24_13
theorem f24_12e:BL f24_12 f24_13 0:=rfl
def f24_10:AC:=.seq (.ops [0,3,5] [3] f24_11l) f24_12
theorem f24_10e:SO f24_10 f24_11l [0,3,5] [3] f24_12:=rfl
def f24_27l:List GI:=[⟨none,.mv (some 4) (.c (.lit (.bool true)))⟩]
def f24_26:AC:=.seq (.ops [4] [] f24_27l) .ret
theorem f24_26e:SO f24_26 f24_27l [4] [] .ret:=rfl
def f24_9:AC:=.seq f24_10 f24_26
theorem f24_9e:SQ f24_9 f24_10 f24_26:=rfl
def f24_3:AC:=.seq f24_4 f24_9
theorem f24_3e:SQ f24_3 f24_4 f24_9:=rfl
def f24_1:AC:=.seq (.ops [0,3] [3] f24_2l) f24_3
theorem f24_1e:SO f24_1 f24_2l [0,3] [3] f24_3:=rfl
def c_f24:AFun:=⟨74,[.tmp 4],f24_1⟩
theorem k_f24:aH Go.Proofs.Try.prog x_f24 24 = some c_f24:=by kernel_rfl
theorem e_f24:al Go.Proofs.Try.prog 24 = true:=by kernel_rfl

def n_f26:Nat:=26
def x_f26:Cx:=⟨some,id,10,fun s=>([0,2,3,8,9]:List Nat).contains s,fun s=>([]:List Nat).contains s,msOf [(2,[0],[]),(12,[0,4],[]),(52,[2],[]),(14,[2],[])]⟩
def f26_2l:List GI:=[⟨none,.mv (some 2) (.c (.lit (.slice none 0 0)))⟩]
def f26_5l:List GI:=[vv 3 0,
    ⟨none,.call (some 4) false (.f 51) [(.r 3)]⟩]
def f26_8l:List GI:=[⟨none,.mv (some 2) (.c (.lit (.slice none 0 0)))⟩]
def f26_7:AC:=.seq (.ops [2] [] f26_8l) .ret
theorem f26_7e:SO f26_7 f26_8l [2] [] .ret:=rfl
def f26_6:AC:=.cond (.r 4) f26_7 .skip
theorem f26_6e:CN f26_6 4 f26_7 .skip:=rfl
def f26_4:AC:=.seq (.ops [0,4] [] f26_5l) f26_6
theorem f26_4e:SO f26_4 f26_5l [0,4] [] f26_6:=rfl
def f26_10l:List GI:=[vv 5 0,
    vn 6 5,
    vd 7 6 1,
    vl 8 7,
    ⟨none,.call (some 9) false (.f 52) [(.r 8)]⟩,
    vo 2 9]
def f26_9:AC:=.seq (.ops [2] [] f26_10l) .ret
theorem f26_9e:SO f26_9 f26_10l [2] [] .ret:=rfl
def f26_3:AC:=.seq f26_4 f26_9
theorem f26_3e:SQ f26_3 f26_4 f26_9:=rfl
def f26_1:AC:=.seq (.ops [0] [] f26_2l) f26_3
theorem f26_1e:SO f26_1 f26_2l [0] [] f26_3:=rfl
def c_f26:AFun:=⟨10,[.tmp 2],f26_1⟩
theorem k_f26:aH Go.Proofs.Try.prog x_f26 26 = some c_f26:=by kernel_rfl
theorem e_f26:al Go.Proofs.Try.prog 26 = true:=by kernel_rfl

def n_f27:Nat:=27
def x_f27:Cx:=⟨some,id,15,fun s=>([0,1,4,5,6,8,9,10,12,13,14]:List Nat).contains s,fun s=>([]:List Nat).contains s,msOf [(2,[0,1],[]),(12,[0,1,7],[]),(52,[4,5],[]),(28,[0,1,11],[]),(116,[4,5],[]),(30,[4,5],[])]⟩
def f27_2l:List GI:=[⟨none,.mv (some 4) (.c (.lit (.slice none 0 0)))⟩,
    ⟨none,.mv (some 5) (.c (.lit (.int .i64 0)))⟩]
def f27_5l:List GI:=[vv 6 0,
    ⟨none,.call (some 7) false (.f 51) [(.r 6)]⟩]
def f27_8l:List GI:=[⟨none,.mv (some 4) (.c (.lit (.slice none 0 0)))⟩,
    ⟨none,.mv (some 5) (.c (.lit (.int .i64 1)))⟩]
def f27_7:AC:=.seq (.ops [4,5] [] f27_8l) .ret
theorem f27_7e:SO f27_7 f27_8l [4,5] [] .ret:=rfl
def f27_6:AC:=.cond (.r 7) f27_7 .skip
theorem f27_6e:CN f27_6 7 f27_7 .skip:=rfl
def f27_4:AC:=.seq (.ops [0,1,7] [] f27_5l) f27_6
theorem f27_4e:SO f27_4 f27_5l [0,1,7] [] f27_6:=rfl
def f27_11l:List GI:=[vv 8 0,
    vv 9 1,
    ⟨none,.call (some 10) false (.f 53) [(.r 8),(.r 9)]⟩,
    ⟨none,.un (some 11) .not (.r 10)⟩]
def f27_14l:List GI:=[⟨none,.mv (some 4) (.c (.lit (.slice none 0 0)))⟩,
    ⟨none,.mv (some 5) (.c (.lit (.int .i64 2)))⟩]
def f27_13:AC:=.seq (.ops [4,5] [] f27_14l) .ret
theorem f27_13e:SO f27_13 f27_14l [4,5] [] .ret:=rfl
def f27_12:AC:=.cond (.r 11) f27_13 .skip
theorem f27_12e:CN f27_12 11 f27_13 .skip:=rfl
def f27_10:AC:=.seq (.ops [0,1,11] [] f27_11l) f27_12
theorem f27_10e:SO f27_10 f27_11l [0,1,11] [] f27_12:=rfl
def f27_16l:List GI:=[vv 12 0,
    vv 13 1,
    ⟨none,.call (some 14) false (.f 54) [(.r 12),(.r 13)]⟩,
    vo 4 14,
    ⟨none,.mv (some 5) (.c (.lit (.int .i64 0)))⟩]
def f27_15:AC:=.seq (.ops [4,5] [] f27_16l) .ret
theorem f27_15e:SO f27_15 f27_16l [4,5] [] .ret:=rfl
def f27_9:AC:=.seq f27_10 f27_15
theorem f27_9e:SQ f27_9 f27_10 f27_15:=rfl
def f27_3:AC:=.seq f27_4 f27_9
theorem f27_3e:SQ f27_3 f27_4 f27_9:=rfl
def f27_1:AC:=.seq (.ops [0,1] [] f27_2l) f27_3
theorem f27_1e:SO f27_1 f27_2l [0,1] [] f27_3:=rfl
def c_f27:AFun:=⟨15,[.tmp 4,.tmp 5],f27_1⟩
theorem k_f27:aH Go.Proofs.Try.prog x_f27 27 = some c_f27:=by kernel_rfl
theorem e_f27:al Go.Proofs.Try.prog 27 = true:=by kernel_rfl

def n_f30:Nat:=30
def x_f30:Cx:=⟨some,id,161,fun s=>([0,1,2,3,4,11,12,13,16,20,22,23,24,25,26,27,28,29,30,31,32,33,34,35,36,37,39,40,44,45,46,47,48,50,51,52,53,54,55,57,59,60,61,62,65,73,75,76,78,85,87,88,90,94,95,96,97,102,103,104,105,108,109,111,112,113,114,116,117,120,122,125,131,133,135,136,137,138,140,146,148,149,150,151,152,155,156,158,159,160]:List Nat).contains s,fun s=>([105,160]:List Nat).contains s,msOf [(3000000019,[68,76,80,88,91,95,96,126,125,137,138,12,141,140,150,151,152,12,156,159,11,12,13],[]),(2,[0,1,2,3,4,10],[10]),(12,[0,1,2,3,4,10,21],[10]),(52,[10,11,12,13],[10]),(28,[0,1,2,3,4,10,38],[10]),(116,[10,11,12,13],[10]),(60,[0,1,2,3,4,10,15],[10]),(122,[0,1,2,3,4,10,49],[10]),(492,[10,11,12,13],[10]),(62,[0,1,2,3,4,10,16],[10]),(252,[0,1,2,3,4,10,16,56],[10]),(2024,[0,1,2,10,58],[10]),(8100,[10,11,12,13],[10]),(4052,[0,1,2,10,60,61,62],[10]),(8106,[0,1,2,10,60,61,62],[10]),(32424,[0,1,2,10,60,61,62,63],[10]),(129701,[0,1,2,10],[10]),(518808,[0,1,2,10,18,60,61,62],[10,18]),(1037618,[0,1,2,10,18,60,61,62,67],[10,18]),(2075238,[0,1,2,10,60,61,62],[10]),(2075239,[0,1,2,10,60,61,62],[10]),(129703,[0,1,2,10,60,61,62],[10]),(4054,[0,1,10],[10]),(8110,[10],[10]),(16222,[10,11,12,13],[10]),(254,[0,2,10],[10]),(510,[0,10,19],[10,19]),(2044,[0,10,19,124],[10,19]),(4090,[0,10,12,19],[10,19]),(4091,[0,10,12,19],[10,19]),(2046,[10,11,12,13],[10])]⟩
def f30_2l:List GI:=[⟨none,.newL 10 [(.lit (.int .i64 0)),(.lit (.int .i64 0)),(.lit (.int .i64 0)),(.lit (.int .i64 0))]⟩,
    ⟨none,.mv (some 11) (.c (.lit (.bool false)))⟩,
    ⟨none,.mv (some 12) (.c (.lit (.slice none 0 0)))⟩,
    ⟨none,.mv (some 13) (.c (.lit (.int .i64 0)))⟩]
def f30_5l:List GI:=[vv 20 0,
    ⟨none,.call (some 21) false (.f 51) [(.r 20)]⟩]
def f30_8l:List GI:=[⟨none,.bst (some 22) [(0,1),(1,1),(2,1),(3,1)] (.agg [(.lit (.int .i64 0)),(.lit (.int .i64 0)),(.lit (.int .i64 0)),(.lit (.int .i64 0))]) []⟩,
    ⟨none,.store 4 (.r 10) (.r 22)⟩,
    ⟨none,.mv (some 11) (.c (.lit (.bool false)))⟩,
    ⟨none,.mv (some 12) (.c (.lit (.slice none 0 0)))⟩,
    ⟨none,.mv (some 13) (.c (.lit (.int .i64 1)))⟩]
def f30_7:AC:=.seq (.ops [10,11,12,13] [10] f30_8l) .ret
theorem f30_7e:SO f30_7 f30_8l [10,11,12,13] [10] .ret:=rfl
def f30_6:AC:=.cond (.r 21) f30_7 .skip
theorem f30_6e:CN f30_6 21 f30_7 .skip:=rfl
def f30_4:AC:=.seq (.ops [0,1,2,3,4,10,21] [10] f30_5l) f30_6
theorem f30_4e:SO f30_4 f30_5l [0,1,2,3,4,10,21] [10] f30_6:=rfl
def f30_11l:List GI:=[vv 23 1,
    vb 24 .lss 23 0,
    vv 25 24,
    ⟨some (25,false),.mv (some 26) (.r 1)⟩,
    ⟨some (25,false),.bin (some 27) .num .geq (.r 26) (.c (.lit (.int .i64 64)))⟩,
    ⟨none,.pick (some 28) (.r 25) (.c (.lit (.bool true))) (.r 27)⟩,
    vv 29 28,
    ⟨some (29,false),.mv (some 30) (.r 0)⟩,
    ⟨some (29,false),.mv (some 31) (.r 2)⟩,
    ⟨some (29,false),.call (some 32) false (.f 53) [(.r 30),(.r 31)]⟩,
    ⟨some (29,false),.un (some 33) .not (.r 32)⟩,
    ⟨none,.pick (some 34) (.r 29) (.c (.lit (.bool true))) (.r 33)⟩,
    vv 35 34,
    ⟨some (35,false),.mv (some 36) (.r 3)⟩,
    ⟨some (35,false),.bin (some 37) .num .lss (.r 36) (.c (.lit (.int .i64 0)))⟩,
    ⟨none,.pick (some 38) (.r 35) (.c (.lit (.bool true))) (.r 37)⟩]
def f30_14l:List GI:=[⟨none,.bst (some 39) [(0,1),(1,1),(2,1),(3,1)] (.agg [(.lit (.int .i64 0)),(.lit (.int .i64 0)),(.lit (.int .i64 0)),(.lit (.int .i64 0))]) []⟩,
    ⟨none,.store 4 (.r 10) (.r 39)⟩,
    ⟨none,.mv (some 11) (.c (.lit (.bool false)))⟩,
    ⟨none,.mv (some 12) (.c (.lit (.slice none 0 0)))⟩,
    ⟨none,.mv (some 13) (.c (.lit (.int .i64 2)))⟩]
def f30_13:AC:=.seq (.ops [10,11,12,13] [10] f30_14l) .ret
theorem f30_13e:SO f30_13 f30_14l [10,11,12,13] [10] .ret:=rfl
def f30_12:AC:=.cond (.r 38) f30_13 .skip
theorem f30_12e:CN f30_12 38 f30_13 .skip:=rfl
def f30_10:AC:=.seq (.ops [0,1,2,3,4,10,38] [10] f30_11l) f30_12
theorem f30_10e:SO f30_10 f30_11l [0,1,2,3,4,10,38] [10] f30_12:=rfl
def f30_17l:List GI:=[vv 41 0,
    vn 42 41,
    vd 43 42 2,
    vl 44 43,
    vv 45 1,
    ⟨none,.lookup (some 46) (.int .i64) (.lit (.slice none 0 0)) true (.r 44) (.r 45)⟩,
    vv 40 46,
    ve 47 40 0,
    ve 48 40 1,
    vo 14 47,
    vo 15 48]
def f30_19l:List GI:=[vv 49 15]
def f30_22l:List GI:=[⟨none,.bst (some 50) [(0,1),(1,1),(2,1),(3,1)] (.agg [(.lit (.int .i64 0)),(.lit (.int .i64 0)),(.lit (.int .i64 0)),(.lit (.int .i64 0))]) []⟩,
    ⟨none,.store 4 (.r 10) (.r 50)⟩,
    ⟨none,.mv (some 11) (.c (.lit (.bool false)))⟩,
    ⟨none,.mv (some 12) (.c (.lit (.slice none 0 0)))⟩,
    ⟨none,.mv (some 13) (.c (.lit (.int .i64 11)))⟩]
def f30_21:AC:=.seq (.ops [10,11,12,13] [10] f30_22l) .ret
theorem f30_21e:SO f30_21 f30_22l [10,11,12,13] [10] .ret:=rfl
def f30_20:AC:=.cond (.r 49) f30_21 .skip
theorem f30_20e:CN f30_20 49 f30_21 .skip:=rfl
def f30_18:AC:=.seq (.ops [0,1,2,3,4,10,49] [10] f30_19l) f30_20
theorem f30_18e:SO f30_18 f30_19l [0,1,2,3,4,10,49] [10] f30_20:=rfl
def f30_16:AC:=.seq (.ops [0,1,2,3,4,10,15] [10] f30_17l) f30_18
theorem f30_16e:SO f30_16 f30_17l [0,1,2,3,4,10,15] [10] f30_18:=rfl
def f30_24l:List GI:=[vv 51 0,
    vv 52 2,
    ⟨none,.call (some 53) false (.f 54) [(.r 51),(.r 52)]⟩,
    vo 16 53]
def f30_27l:List GI:=[vv 54 16,
    ⟨none,.len (some 55) .sl (.r 54)⟩,
    vb 56 .eql 55 0]
def f30_31l:List GI:=[vv 57 4,
    ⟨none,.un (some 58) .not (.r 57)⟩]
def f30_34l:List GI:=[⟨none,.bst (some 59) [(0,1),(1,1),(2,1),(3,1)] (.agg [(.lit (.int .i64 0)),(.lit (.int .i64 0)),(.lit (.int .i64 0)),(.lit (.int .i64 0))]) []⟩,
    ⟨none,.store 4 (.r 10) (.r 59)⟩,
    ⟨none,.mv (some 11) (.c (.lit (.bool false)))⟩,
    ⟨none,.mv (some 12) (.c (.lit (.slice none 0 0)))⟩,
    ⟨none,.mv (some 13) (.c (.lit (.int .i64 16)))⟩]
def f30_33:AC:=.seq (.ops [10,11,12,13] [10] f30_34l) .ret
theorem f30_33e:SO f30_33 f30_34l [10,11,12,13] [10] .ret:=rfl
def f30_32:AC:=.cond (.r 58) f30_33 .skip
theorem f30_32e:CN f30_32 58 f30_33 .skip:=rfl
def f30_30:AC:=.seq (.ops [0,1,2,10,58] [10] f30_31l) f30_32
theorem f30_30e:SO f30_30 f30_31l [0,1,2,10,58] [10] f30_32:=rfl
def f30_37l:List GI:=[vv 60 2,
    ⟨none,.len (some 61) .sl (.r 60)⟩,
    ⟨none,.mv (some 62) (.c (.lit (.int .i64 0)))⟩]
def f30_41l:List GI:=[⟨none,.bin (some 63) .num .lss (.r 62) (.r 61)⟩]
def f30_43:AC:=.cond (.r 63) .skip (.exit [0,1,2,10] [10] 0)
theorem f30_43e:CN f30_43 63 .skip (.exit [0,1,2,10] [10] 0):=rfl
def f30_47l:List GI:=[⟨none,.ixS (some 64) (.r 60) (.r 62) 3⟩,
    ⟨none,.load (some 65) (.r 64) (some 3)⟩,
    ⟨none,.newL 18 [(.lit (.int .i64 0)),(.lit (.bool false)),(.lit (.int .i64 0))]⟩,
    ⟨none,.store 3 (.r 18) (.r 65)⟩]
def f30_49l:List GI:=[vd 66 18 1,
    vl 67 66]
def f30_51h:List GI:=[vv 68 0,
    vn 69 68,
    vd 70 69 0,
    vl 71 70,
    vd 72 18 0,
    vl 73 72,
    ⟨none,.ixS (some 74) (.r 71) (.r 73) 1⟩,
    vl 75 74,
    vv 76 1,
    vd 77 18 2,
    vl 78 77]
def f30_51l:List GI:=[⟨none,.call (some 79) false (.f 14) [(.r 75),(.r 76),(.r 78)]⟩]
def f30_51:AC:=.draw [0,1,2,10,60,61,62] [10] [] f30_51h f30_51l
theorem f30_51e:aC P id m f30_51 sf st Q = ap P id sf.locs st f30_51h (aZ P id m [] [0,1,2,10,60,61,62] [10] f30_51l Q st) [] ⟨sf.regs,aY [] sf.locs⟩:=rfl
def f30_52h:List GI:=[vv 80 0,
    vn 81 80,
    vd 82 81 0,
    vl 83 82,
    vd 84 18 0,
    vl 85 84,
    ⟨none,.ixS (some 86) (.r 83) (.r 85) 1⟩,
    vl 87 86,
    vv 88 1]
def f30_52l:List GI:=[⟨none,.call (some 89) false (.f 15) [(.r 87),(.r 88)]⟩]
def f30_52:AC:=.draw [0,1,2,10,60,61,62] [10] [] f30_52h f30_52l
theorem f30_52e:aC P id m f30_52 sf st Q = ap P id sf.locs st f30_52h (aZ P id m [] [0,1,2,10,60,61,62] [10] f30_52l Q st) [] ⟨sf.regs,aY [] sf.locs⟩:=rfl
def f30_50:AC:=.cond (.r 67) f30_51 f30_52
theorem f30_50e:CN f30_50 67 f30_51 f30_52:=rfl
def f30_48:AC:=.seq (.ops [0,1,2,10,18,60,61,62,67] [10,18] f30_49l) f30_50
theorem f30_48e:SO f30_48 f30_49l [0,1,2,10,18,60,61,62,67] [10,18] f30_50:=rfl
def f30_46:AC:=.seq (.ops [0,1,2,10,18,60,61,62] [10,18] f30_47l) f30_48
theorem f30_46e:SO f30_46 f30_47l [0,1,2,10,18,60,61,62] [10,18] f30_48:=rfl
def f30_45:AC:=.block 1 f30_46
theorem f30_45e:BL f30_45 f30_46 1:=rfl
def f30_53l:List GI:=[vb 90 .add 62 1,
    vv 62 90]
def f30_53:AC:=.ops [0,1,2,10,60,61,62] [10] f30_53l
theorem f30_53e:OP f30_53 f30_53l [0,1,2,10,60,61,62] [10]:=rfl
def f30_44:AC:=.seq f30_45 f30_53
theorem f30_44e:SQ f30_44 f30_45 f30_53:=rfl
def f30_42:AC:=.seq f30_43 f30_44
theorem f30_42e:SQ f30_42 f30_43 f30_44:=rfl
def f30_40:AC:=.seq (.ops [0,1,2,10,60,61,62,63] [10] f30_41l) f30_42
theorem f30_40e:SO f30_40 f30_41l [0,1,2,10,60,61,62,63] [10] f30_42:=rfl
def f30_39:AC:=.loop [0,1,2,10,60,61,62] [10] f30_40
theorem f30_39w:aC P id m f30_39 sf st Q = aO (aC P id m f30_40) [0,1,2,10,60,61,62] [10] sf st Q:=rfl
def f30_38:AC:=.block 0 f30_39
theorem f30_38e:BL f30_38 f30_39 0:=rfl
def f30_36:AC:=.seq (.ops [0,1,2,10,60,61,62] [10] f30_37l) f30_38
theorem f30_36e:SO f30_36 f30_37l [0,1,2,10,60,61,62] [10] f30_38:=rfl
def f30_55h:List GI:=[vv 91 0,
    vn 92 91,
    vd 93 92 2,
    vl 94 93,
    vv 95 1,
    vv 96 2,
    ⟨none,.call (some 97) true (.f 56) [(.r 96)]⟩]
def f30_55l:List GI:=[⟨none,.upd (.int .i64) (.r 94) (.r 95) (.r 97)⟩]
def f30_55:AC:=.draw [0,1,10] [10] [] f30_55h f30_55l
theorem f30_55e:aC P id m f30_55 sf st Q = ap P id sf.locs st f30_55h (aZ P id m [] [0,1,10] [10] f30_55l Q st) [] ⟨sf.regs,aY [] sf.locs⟩:=rfl
def f30_57l:List GI:=[vv 98 0,
    vv 99 0,
    vn 100 99,
    vd 101 100 1,
    ⟨none,.loadOwn 102 (.r 101)⟩,
    vv 103 1,
    ⟨none,.bsl (some 104) 1 1 (.lit (.int .i64 0)) [(0,(.r 103))]⟩,
    ⟨none,.x (some 105) (.appB (.r 102) 1 8 (.r 104))⟩,
    vn 106 98,
    vd 107 106 1,
    ⟨none,.store 1 (.r 107) (.r 105)⟩]
def f30_59l:List GI:=[⟨none,.bst (some 108) [(0,1),(1,1),(2,1),(3,1)] (.agg [(.lit (.int .i64 0)),(.lit (.int .i64 0)),(.lit (.int .i64 0)),(.lit (.int .i64 0))]) []⟩,
    ⟨none,.store 4 (.r 10) (.r 108)⟩,
    ⟨none,.mv (some 11) (.c (.lit (.bool false)))⟩,
    ⟨none,.mv (some 12) (.c (.lit (.slice none 0 0)))⟩,
    ⟨none,.mv (some 13) (.c (.lit (.int .i64 0)))⟩]
def f30_58:AC:=.seq (.ops [10,11,12,13] [10] f30_59l) .ret
theorem f30_58e:SO f30_58 f30_59l [10,11,12,13] [10] .ret:=rfl
def f30_56:AC:=.seq (.ops [10] [10] f30_57l) f30_58
theorem f30_56e:SO f30_56 f30_57l [10] [10] f30_58:=rfl
def f30_54:AC:=.seq f30_55 f30_56
theorem f30_54e:SQ f30_54 f30_55 f30_56:=rfl
def f30_35:AC:=.seq f30_36 f30_54
theorem f30_35e:SQ f30_35 f30_36 f30_54:=rfl
def f30_29:AC:=.seq f30_30 f30_35
theorem f30_29e:SQ f30_29 f30_30 f30_35:=rfl
def f30_28:AC:=.cond (.r 56) f30_29 .skip
theorem f30_28e:CN f30_28 56 f30_29 .skip:=rfl
def f30_26:AC:=.seq (.ops [0,1,2,3,4,10,16,56] [10] f30_27l) f30_28
theorem f30_26e:SO f30_26 f30_27l [0,1,2,3,4,10,16,56] [10] f30_28:=rfl
def f30_61l:List GI:=[vv 109 1,
    vv 110 16,
    vv 111 3,
    vv 112 16,
    ⟨none,.len (some 113) .sl (.r 112)⟩,
    ⟨none,.bin (some 114) .num .rem (.r 111) (.r 113)⟩,
    ⟨none,.ixS (some 115) (.r 110) (.r 114) 1⟩,
    vl 116 115,
    ⟨none,.bst (some 117) [(0,1),(1,1),(2,1),(3,1)] (.agg [(.lit (.int .i64 0)),(.lit (.int .i64 0)),(.lit (.int .i64 0)),(.lit (.int .i64 0))]) [(0,(.r 109)),(1,(.r 116))]⟩,
    ⟨none,.store 4 (.r 10) (.r 117)⟩]
def f30_63l:List GI:=[vv 118 2,
    vd 119 10 1,
    vl 120 119,
    ⟨none,.ixS (some 121) (.r 118) (.r 120) 3⟩,
    ⟨none,.load (some 122) (.r 121) (some 3)⟩,
    ⟨none,.newL 19 [(.lit (.int .i64 0)),(.lit (.bool false)),(.lit (.int .i64 0))]⟩,
    ⟨none,.store 3 (.r 19) (.r 122)⟩]
def f30_66l:List GI:=[vd 123 19 1,
    vl 124 123]
def f30_68h:List GI:=[vv 126 0,
    vn 127 126,
    vd 128 127 0,
    vl 129 128,
    vd 130 19 0,
    vl 131 130,
    ⟨none,.ixS (some 132) (.r 129) (.r 131) 1⟩,
    vl 133 132,
    vd 134 19 2,
    vl 135 134]
def f30_68l:List GI:=[⟨none,.call (some 136) false (.f 40) [(.r 133),(.r 135)]⟩,
    vv 125 136,
    ve 137 125 0,
    ve 138 125 1,
    vo 12 137,
    vd 139 10 3,
    ⟨none,.store 1 (.r 139) (.r 138)⟩]
def f30_68:AC:=.draw [0,10,12,19] [10,19] [] f30_68h f30_68l
theorem f30_68e:aC P id m f30_68 sf st Q = ap P id sf.locs st f30_68h (aZ P id m [] [0,10,12,19] [10,19] f30_68l Q st) [] ⟨sf.regs,aY [] sf.locs⟩:=rfl
def f30_69h:List GI:=[vv 141 0,
    vn 142 141,
    vd 143 142 0,
    vl 144 143,
    vd 145 19 0,
    vl 146 145]
def f30_69l:List GI:=[⟨none,.ixS (some 147) (.r 144) (.r 146) 1⟩,
    vl 148 147,
    ⟨none,.call (some 149) false (.f 42) [(.r 148)]⟩,
    vv 140 149,
    ve 150 140 0,
    ve 151 140 1,
    ve 152 140 2,
    vd 153 10 2,
    ⟨none,.store 1 (.r 153) (.r 150)⟩,
    vo 12 151,
    vd 154 10 3,
    ⟨none,.store 1 (.r 154) (.r 152)⟩]
def f30_69:AC:=.draw [0,10,12,19] [10,19] [] f30_69h f30_69l
theorem f30_69e:aC P id m f30_69 sf st Q = ap P id sf.locs st f30_69h (aZ P id m [] [0,10,12,19] [10,19] f30_69l Q st) [] ⟨sf.regs,aY [] sf.locs⟩:=rfl
def f30_67:AC:=.cond (.r 124) f30_68 f30_69
theorem f30_67e:CN f30_67 124 f30_68 f30_69:=rfl
def f30_65:AC:=.seq (.ops [0,10,19,124] [10,19] f30_66l) f30_67
theorem f30_65e:SO f30_65 f30_66l [0,10,19,124] [10,19] f30_67:=rfl
def f30_71h:List GI:=[⟨none,.load (some 155) (.r 10) (some 4)⟩,
    vv 156 0,
    vd 157 19 0,
    vl 158 157,
    vv 159 12]
def f30_71p:List (Bool×GI):=[]
def f30_71l:List GI:=[⟨none,.store 4 (.r 10) (.r 155)⟩,
    ⟨none,.mv (some 11) (.c (.lit (.bool true)))⟩,
    vo 12 160,
    ⟨none,.mv (some 13) (.c (.lit (.int .i64 0)))⟩]
def f30_71:AC:=.drawM [10,11,12,13] [10] f30_71h (some 160) (.f 57) [(.r 156),(.r 158),(.r 159)] f30_71p f30_71l
theorem f30_71e:aC P id m f30_71 sf st Q = (m = false∧drawM P id f30_71h (some 160) (.f 57) [(.r 156),(.r 158),(.r 159)] f30_71p sf st (lW P id m [10,11,12,13] [10] f30_71l Q)):=rfl
def f30_70:AC:=.seq f30_71 .ret
theorem f30_70e:SQ f30_70 f30_71 .ret:=rfl
def f30_64:AC:=.seq f30_65 f30_70
theorem f30_64e:SQ f30_64 f30_65 f30_70:=rfl
def f30_62:AC:=.seq (.ops [0,10,19] [10,19] f30_63l) f30_64
theorem f30_62e:SO f30_62 f30_63l [0,10,19] [10,19] f30_64:=rfl
def f30_60:AC:=.seq (.ops [0,2,10] [10] f30_61l) f30_62
theorem f30_60e:SO f30_60 f30_61l [0,2,10] [10] f30_62:=rfl
def f30_25:AC:=.seq f30_26 f30_60
theorem f30_25e:SQ f30_25 f30_26 f30_60:=rfl
def f30_23:AC:=.seq (.ops [0,1,2,3,4,10,16] [10] f30_24l) f30_25
theorem f30_23e:SO f30_23 f30_24l [0,1,2,3,4,10,16] [10] f30_25:=rfl
def f30_15:AC:=.seq f30_16 f30_23
theorem f30_15e:SQ f30_15 f30_16 f30_23:=rfl
def f30_9:AC:=.seq f30_10 f30_15
theorem f30_9e:SQ f30_9 f30_10 f30_15:=rfl
def f30_3:AC:=.seq f30_4 f30_9
theorem f30_3e:SQ f30_3 f30_4 f30_9:=rfl
def f30_1:AC:=.seq (.ops [0,1,2,3,4,10] [10] f30_2l) f30_3
theorem f30_1e:SO f30_1 f30_2l [0,1,2,3,4,10] [10] f30_3:=rfl
def c_f30:AFun:=⟨161,[.cell 10 (some 4),.tmp 11,.tmp 12,.tmp 13],f30_1⟩
theorem k_f30:aH Go.Proofs.Try.prog x_f30 30 = some c_f30:=by kernel_rfl
theorem e_f30:al Go.Proofs.Try.prog 30 = true:=by kernel_rfl

def n_f31:Nat:=31
def x_f31:Cx:=⟨some,id,10,fun s=>([0,2,3,8,9]:List Nat).contains s,fun s=>([]:List Nat).contains s,msOf [(2,[0],[]),(12,[0,4],[]),(52,[2],[]),(14,[2],[])]⟩
def f31_2l:List GI:=[⟨none,.mv (some 2) (.c (.lit (.int .i64 0)))⟩]
def f31_5l:List GI:=[vv 3 0,
    ⟨none,.call (some 4) false (.f 51) [(.r 3)]⟩]
def f31_8l:List GI:=[⟨none,.mv (some 2) (.c (.lit (.int .i64 0)))⟩]
def f31_7:AC:=.seq (.ops [2] [] f31_8l) .ret
theorem f31_7e:SO f31_7 f31_8l [2] [] .ret:=rfl
def f31_6:AC:=.cond (.r 4) f31_7 .skip
theorem f31_6e:CN f31_6 4 f31_7 .skip:=rfl
def f31_4:AC:=.seq (.ops [0,4] [] f31_5l) f31_6
theorem f31_4e:SO f31_4 f31_5l [0,4] [] f31_6:=rfl
def f31_10l:List GI:=[vv 5 0,
    vn 6 5,
    vd 7 6 0,
    vl 8 7,
    ⟨none,.len (some 9) .sl (.r 8)⟩,
    vo 2 9]
def f31_9:AC:=.seq (.ops [2] [] f31_10l) .ret
theorem f31_9e:SO f31_9 f31_10l [2] [] .ret:=rfl
def f31_3:AC:=.seq f31_4 f31_9
theorem f31_3e:SQ f31_3 f31_4 f31_9:=rfl
def f31_1:AC:=.seq (.ops [0] [] f31_2l) f31_3
theorem f31_1e:SO f31_1 f31_2l [0] [] f31_3:=rfl
def c_f31:AFun:=⟨10,[.tmp 2],f31_1⟩
theorem k_f31:aH Go.Proofs.Try.prog x_f31 31 = some c_f31:=by kernel_rfl
theorem e_f31:al Go.Proofs.Try.prog 31 = true:=by kernel_rfl

def n_f32:Nat:=32
def x_f32:Cx:=⟨some,id,22,fun s=>([0,1,2,6,7,8,9,10,11,12,13,14,15,16,17,18,19,20,21]:List Nat).contains s,fun s=>([]:List Nat).contains s,msOf [(2,[0,1,2],[]),(6,[2,7,8],[]),(14,[6],[])]⟩
def f32_2l:List GI:=[⟨none,.mv (some 6) (.c (.lit (.bool false)))⟩]
def f32_4l:List GI:=[vv 10 0,
    vv 11 1,
    ⟨none,.call (some 12) false (.f 27) [(.r 10),(.r 11)]⟩,
    vv 9 12,
    ve 13 9 0,
    ve 14 9 1,
    vo 7 13,
    vo 8 14]
def f32_6l:List GI:=[vv 15 8,
    vb 16 .eql 15 0,
    vv 17 16,
    ⟨some (17,true),.mv (some 18) (.r 7)⟩,
    ⟨some (17,true),.mv (some 19) (.r 2)⟩,
    ⟨some (17,true),.call (some 20) false (.f 47) [(.r 18),(.r 19)]⟩,
    ⟨none,.pick (some 21) (.r 17) (.r 20) (.c (.lit (.bool false)))⟩,
    vo 6 21]
def f32_5:AC:=.seq (.ops [6] [] f32_6l) .ret
theorem f32_5e:SO f32_5 f32_6l [6] [] .ret:=rfl
def f32_3:AC:=.seq (.ops [2,7,8] [] f32_4l) f32_5
theorem f32_3e:SO f32_3 f32_4l [2,7,8] [] f32_5:=rfl
def f32_1:AC:=.seq (.ops [0,1,2] [] f32_2l) f32_3
theorem f32_1e:SO f32_1 f32_2l [0,1,2] [] f32_3:=rfl
def c_f32:AFun:=⟨22,[.tmp 6],f32_1⟩
theorem k_f32:aH Go.Proofs.Try.prog x_f32 32 = some c_f32:=by kernel_rfl
theorem e_f32:al Go.Proofs.Try.prog 32 = true:=by kernel_rfl

def n_f33:Nat:=33
def x_f33:Cx:=⟨some,id,5,fun s=>([0,3,4]:List Nat).contains s,fun s=>([]:List Nat).contains s,msOf [(2,[0,2],[2]),(6,[2],[2])]⟩
def f33_2l:List GI:=[⟨none,.newL 2 [(.lit (.int .i64 0)),(.lit (.bool false)),(.lit (.int .i64 0))]⟩]
def f33_4l:List GI:=[vv 3 0,
    ⟨none,.bst (some 4) [(0,1),(1,1),(2,1)] (.agg [(.lit (.int .i64 0)),(.lit (.bool false)),(.lit (.int .i64 0))]) [(0,(.r 3))]⟩,
    ⟨none,.store 3 (.r 2) (.r 4)⟩]
def f33_3:AC:=.seq (.ops [2] [2] f33_4l) .ret
theorem f33_3e:SO f33_3 f33_4l [2] [2] .ret:=rfl
def f33_1:AC:=.seq (.ops [0,2] [2] f33_2l) f33_3
theorem f33_1e:SO f33_1 f33_2l [0,2] [2] f33_3:=rfl
def c_f33:AFun:=⟨5,[.cell 2 (some 3)],f33_1⟩
theorem k_f33:aH Go.Proofs.Try.prog x_f33 33 = some c_f33:=by kernel_rfl
theorem e_f33:al Go.Proofs.Try.prog 33 = true:=by kernel_rfl

def n_f34:Nat:=34
def x_f34:Cx:=⟨some,id,8,fun s=>([0,1,5,6,7]:List Nat).contains s,fun s=>([]:List Nat).contains s,msOf [(2,[0,1,4],[4]),(6,[4],[4])]⟩
def f34_2l:List GI:=[⟨none,.newL 4 [(.lit (.int .i64 0)),(.lit (.bool false)),(.lit (.int .i64 0))]⟩]
def f34_4l:List GI:=[vv 5 0,
    vv 6 1,
    ⟨none,.bst (some 7) [(0,1),(1,1),(2,1)] (.agg [(.lit (.int .i64 0)),(.lit (.bool false)),(.lit (.int .i64 0))]) [(0,(.r 5)),(1,(.c (.lit (.bool true)))),(2,(.r 6))]⟩,
    ⟨none,.store 3 (.r 4) (.r 7)⟩]
def f34_3:AC:=.seq (.ops [4] [4] f34_4l) .ret
theorem f34_3e:SO f34_3 f34_4l [4] [4] .ret:=rfl
def f34_1:AC:=.seq (.ops [0,1,4] [4] f34_2l) f34_3
theorem f34_1e:SO f34_1 f34_2l [0,1,4] [4] f34_3:=rfl
def c_f34:AFun:=⟨8,[.cell 4 (some 3)],f34_1⟩
theorem k_f34:aH Go.Proofs.Try.prog x_f34 34 = some c_f34:=by kernel_rfl
theorem e_f34:al Go.Proofs.Try.prog 34 = true:=by kernel_rfl

def n_f35:Nat:=35
def x_f35:Cx:=⟨some,id,22,fun s=>([0,1,2,3,4,5,12,13,14,15,16,17,18,19,20,21]:List Nat).contains s,fun s=>([19]:List Nat).contains s,msOf [(2,[0,1,2,3,5,10],[10]),(6,[12],[])]⟩
def f35_2l:List GI:=[⟨none,.boxL 10 7 (.r 4)⟩,
    ⟨none,.mv (some 12) (.c (.lit (.bool false)))⟩]
def f35_4h:List GI:=[vv 13 0,
    vv 14 1,
    vv 15 2,
    vv 16 3,
    vv 17 5,
    ⟨none,.bst (some 18) [(0,1),(1,1),(2,1),(3,1),(4,1)] (.agg [(.lit (.int .i64 0)),(.lit (.int .i64 0)),(.lit (.int .i64 0)),(.lit (.slice none 0 0)),(.lit (.bool false))]) [(1,(.r 14)),(2,(.r 15)),(4,(.r 16)),(3,(.r 17))]⟩]
def f35_4p:List (Bool×GI):=[(false,⟨none,.load (some 20) (.r 10) (some 7)⟩)]
def f35_4l:List GI:=[⟨none,.call (some 21) false (.f 18) [(.r 19),(.r 20)]⟩,
    vo 12 21]
def f35_4:AC:=.drawM [12] [] f35_4h (some 19) (.f 13) [(.r 13),(.r 18)] f35_4p f35_4l
theorem f35_4e:aC P id m f35_4 sf st Q = (m = false∧drawM P id f35_4h (some 19) (.f 13) [(.r 13),(.r 18)] f35_4p sf st (lW P id m [12] [] f35_4l Q)):=rfl
def f35_3:AC:=.seq f35_4 .ret
theorem f35_3e:SQ f35_3 f35_4 .ret:=rfl
def f35_1:AC:=.seq (.ops [0,1,2,3,5,10] [10] f35_2l) f35_3
theorem f35_1e:SO f35_1 f35_2l [0,1,2,3,5,10] [10] f35_3:=rfl
def c_f35:AFun:=⟨22,[.tmp 12],f35_1⟩
theorem k_f35:aH Go.Proofs.Try.prog x_f35 35 = some c_f35:=by kernel_rfl
theorem e_f35:al Go.Proofs.Try.prog 35 = true:=by kernel_rfl

def n_f36:Nat:=36
def x_f36:Cx:=⟨some,id,4,fun s=>([0,1,2,3]:List Nat).contains s,fun s=>([]:List Nat).contains s,msOf [(2,[],[]),(6,[0],[])]⟩
def f36_2l:List GI:=[⟨none,.mv (some 0) (.c (.lit (.pointer none)))⟩]
def f36_4l:List GI:=[⟨none,.mkmap 1⟩,
    ⟨none,.bst (some 2) [(0,3),(3,1)] (.agg [(.lit (.int .u64 0)),(.lit (.int .u64 0)),(.lit (.int .u64 0)),(.lit (.map none))]) [(1,(.r 1))]⟩,
    ⟨none,.boxB 3 4 (.r 2)⟩,
    vo 0 3]
def f36_3:AC:=.seq (.ops [0] [] f36_4l) .ret
theorem f36_3e:SO f36_3 f36_4l [0] [] .ret:=rfl
def f36_1:AC:=.seq (.ops [] [] f36_2l) f36_3
theorem f36_1e:SO f36_1 f36_2l [] [] f36_3:=rfl
def c_f36:AFun:=⟨4,[.tmp 0],f36_1⟩
theorem k_f36:aH Go.Proofs.Try.prog x_f36 36 = some c_f36:=by kernel_rfl
theorem e_f36:al Go.Proofs.Try.prog 36 = true:=by kernel_rfl

def n_f37:Nat:=37
def x_f37:Cx:=⟨some,id,29,fun s=>([0,1,4,6,7,9,10,11,12,13,15,19,20,21,22,23,24,26,27]:List Nat).contains s,fun s=>([]:List Nat).contains s,msOf [(2,[0,1],[]),(12,[0,1,8],[]),(52,[4],[]),(28,[0,1,14],[]),(116,[4],[]),(60,[0,1,6],[]),(122,[0,1,25],[]),(492,[4],[]),(62,[],[]),(126,[4],[])]⟩
def f37_2l:List GI:=[⟨none,.mv (some 4) (.c (.lit (.int .i64 0)))⟩]
def f37_5l:List GI:=[vv 7 0,
    ⟨none,.call (some 8) false (.f 51) [(.r 7)]⟩]
def f37_8l:List GI:=[⟨none,.mv (some 4) (.c (.lit (.int .i64 1)))⟩]
def f37_7:AC:=.seq (.ops [4] [] f37_8l) .ret
theorem f37_7e:SO f37_7 f37_8l [4] [] .ret:=rfl
def f37_6:AC:=.cond (.r 8) f37_7 .skip
theorem f37_6e:CN f37_6 8 f37_7 .skip:=rfl
def f37_4:AC:=.seq (.ops [0,1,8] [] f37_5l) f37_6
theorem f37_4e:SO f37_4 f37_5l [0,1,8] [] f37_6:=rfl
def f37_11l:List GI:=[vv 9 1,
    vb 10 .lss 9 0,
    vv 11 10,
    ⟨some (11,false),.mv (some 12) (.r 1)⟩,
    ⟨some (11,false),.bin (some 13) .num .geq (.r 12) (.c (.lit (.int .i64 64)))⟩,
    ⟨none,.pick (some 14) (.r 11) (.c (.lit (.bool true))) (.r 13)⟩]
def f37_14l:List GI:=[⟨none,.mv (some 4) (.c (.lit (.int .i64 2)))⟩]
def f37_13:AC:=.seq (.ops [4] [] f37_14l) .ret
theorem f37_13e:SO f37_13 f37_14l [4] [] .ret:=rfl
def f37_12:AC:=.cond (.r 14) f37_13 .skip
theorem f37_12e:CN f37_12 14 f37_13 .skip:=rfl
def f37_10:AC:=.seq (.ops [0,1,14] [] f37_11l) f37_12
theorem f37_10e:SO f37_10 f37_11l [0,1,14] [] f37_12:=rfl
def f37_17l:List GI:=[vv 16 0,
    vn 17 16,
    vd 18 17 2,
    vl 19 18,
    vv 20 1,
    ⟨none,.lookup (some 21) (.int .i64) (.lit (.slice none 0 0)) true (.r 19) (.r 20)⟩,
    vv 15 21,
    ve 22 15 0,
    ve 23 15 1,
    vo 5 22,
    vo 6 23]
def f37_19l:List GI:=[vv 24 6,
    ⟨none,.un (some 25) .not (.r 24)⟩]
def f37_22l:List GI:=[⟨none,.mv (some 4) (.c (.lit (.int .i64 9)))⟩]
def f37_21:AC:=.seq (.ops [4] [] f37_22l) .ret
theorem f37_21e:SO f37_21 f37_22l [4] [] .ret:=rfl
def f37_20:AC:=.cond (.r 25) f37_21 .skip
theorem f37_20e:CN f37_20 25 f37_21 .skip:=rfl
def f37_18:AC:=.seq (.ops [0,1,25] [] f37_19l) f37_20
theorem f37_18e:SO f37_18 f37_19l [0,1,25] [] f37_20:=rfl
def f37_16:AC:=.seq (.ops [0,1,6] [] f37_17l) f37_18
theorem f37_16e:SO f37_16 f37_17l [0,1,6] [] f37_18:=rfl
def f37_24l:List GI:=[vv 26 0,
    vv 27 1,
    ⟨none,.call (some 28) false (.f 58) [(.r 26),(.r 27),(.c (.lit (.int .i64 (-1))))]⟩]
def f37_26l:List GI:=[⟨none,.mv (some 4) (.c (.lit (.int .i64 0)))⟩]
def f37_25:AC:=.seq (.ops [4] [] f37_26l) .ret
theorem f37_25e:SO f37_25 f37_26l [4] [] .ret:=rfl
def f37_23:AC:=.seq (.ops [] [] f37_24l) f37_25
theorem f37_23e:SO f37_23 f37_24l [] [] f37_25:=rfl
def f37_15:AC:=.seq f37_16 f37_23
theorem f37_15e:SQ f37_15 f37_16 f37_23:=rfl
def f37_9:AC:=.seq f37_10 f37_15
theorem f37_9e:SQ f37_9 f37_10 f37_15:=rfl
def f37_3:AC:=.seq f37_4 f37_9
theorem f37_3e:SQ f37_3 f37_4 f37_9:=rfl
def f37_1:AC:=.seq (.ops [0,1] [] f37_2l) f37_3
theorem f37_1e:SO f37_1 f37_2l [0,1] [] f37_3:=rfl
def c_f37:AFun:=⟨29,[.tmp 4],f37_1⟩
theorem k_f37:aH Go.Proofs.Try.prog x_f37 37 = some c_f37:=by kernel_rfl
theorem e_f37:al Go.Proofs.Try.prog 37 = true:=by kernel_rfl

def n_f38:Nat:=38
def x_f38:Cx:=⟨some,id,37,fun s=>([0,1,4,5,6,7,8,10,11,12,13,17,18,19,21,26,28,29,30,31,32,33,34,35,36]:List Nat).contains s,fun s=>([]:List Nat).contains s,msOf [(2,[0,1],[]),(12,[0,1,9],[]),(52,[4,5],[]),(28,[0,1,20],[]),(116,[4,5],[]),(30,[0,1,6,7],[]),(62,[4,5],[])]⟩
def f38_2l:List GI:=[⟨none,.mv (some 4) (.c (.lit (.slice none 0 0)))⟩,
    ⟨none,.mv (some 5) (.c (.lit (.int .i64 0)))⟩]
def f38_5l:List GI:=[vv 8 0,
    ⟨none,.call (some 9) false (.f 51) [(.r 8)]⟩]
def f38_8l:List GI:=[⟨none,.mv (some 4) (.c (.lit (.slice none 0 0)))⟩,
    ⟨none,.mv (some 5) (.c (.lit (.int .i64 1)))⟩]
def f38_7:AC:=.seq (.ops [4,5] [] f38_8l) .ret
theorem f38_7e:SO f38_7 f38_8l [4,5] [] .ret:=rfl
def f38_6:AC:=.cond (.r 9) f38_7 .skip
theorem f38_6e:CN f38_6 9 f38_7 .skip:=rfl
def f38_4:AC:=.seq (.ops [0,1,9] [] f38_5l) f38_6
theorem f38_4e:SO f38_4 f38_5l [0,1,9] [] f38_6:=rfl
def f38_11l:List GI:=[vv 10 1,
    vb 11 .lss 10 0,
    vv 12 11,
    ⟨some (12,false),.mv (some 13) (.r 1)⟩,
    ⟨some (12,false),.mv (some 14) (.r 0)⟩,
    ⟨some (12,false),.nilck (some 15) (.r 14)⟩,
    ⟨some (12,false),.addr (some 16) (.r 15) 0⟩,
    ⟨some (12,false),.load (some 17) (.r 16) none⟩,
    ⟨some (12,false),.len (some 18) .sl (.r 17)⟩,
    ⟨some (12,false),.bin (some 19) .num .geq (.r 13) (.r 18)⟩,
    ⟨none,.pick (some 20) (.r 12) (.c (.lit (.bool true))) (.r 19)⟩]
def f38_14l:List GI:=[⟨none,.mv (some 4) (.c (.lit (.slice none 0 0)))⟩,
    ⟨none,.mv (some 5) (.c (.lit (.int .i64 2)))⟩]
def f38_13:AC:=.seq (.ops [4,5] [] f38_14l) .ret
theorem f38_13e:SO f38_13 f38_14l [4,5] [] .ret:=rfl
def f38_12:AC:=.cond (.r 20) f38_13 .skip
theorem f38_12e:CN f38_12 20 f38_13 .skip:=rfl
def f38_10:AC:=.seq (.ops [0,1,20] [] f38_11l) f38_12
theorem f38_10e:SO f38_10 f38_11l [0,1,20] [] f38_12:=rfl
def f38_16l:List GI:=[vv 22 0,
    vn 23 22,
    vd 24 23 0,
    vl 25 24,
    vv 26 1,
    ⟨none,.ixS (some 27) (.r 25) (.r 26) 1⟩,
    vl 28 27,
    ⟨none,.call (some 29) false (.f 17) [(.r 28)]⟩,
    vv 21 29,
    ve 30 21 0,
    ve 31 21 1,
    vo 6 30,
    vo 7 31]
def f38_18l:List GI:=[vv 32 0,
    vv 33 1,
    vv 34 6,
    ⟨none,.call (some 35) false (.f 57) [(.r 32),(.r 33),(.r 34)]⟩,
    vv 36 7,
    vo 4 35,
    vo 5 36]
def f38_17:AC:=.seq (.ops [4,5] [] f38_18l) .ret
theorem f38_17e:SO f38_17 f38_18l [4,5] [] .ret:=rfl
def f38_15:AC:=.seq (.ops [0,1,6,7] [] f38_16l) f38_17
theorem f38_15e:SO f38_15 f38_16l [0,1,6,7] [] f38_17:=rfl
def f38_9:AC:=.seq f38_10 f38_15
theorem f38_9e:SQ f38_9 f38_10 f38_15:=rfl
def f38_3:AC:=.seq f38_4 f38_9
theorem f38_3e:SQ f38_3 f38_4 f38_9:=rfl
def f38_1:AC:=.seq (.ops [0,1] [] f38_2l) f38_3
theorem f38_1e:SO f38_1 f38_2l [0,1] [] f38_3:=rfl
def c_f38:AFun:=⟨37,[.tmp 4,.tmp 5],f38_1⟩
theorem k_f38:aH Go.Proofs.Try.prog x_f38 38 = some c_f38:=by kernel_rfl
theorem e_f38:al Go.Proofs.Try.prog 38 = true:=by kernel_rfl

end
end Go.Fx.YtbomoaajkinfpaaFx

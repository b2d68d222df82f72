/- What the functions that the statement reaches compute: part 9. -/
import Derived.Test.YtenijlfcfmhmkaaFxW8
namespace Go.Fx.YtenijlfcfmhmkaaFx
open Go Go.Fx
attribute [local irreducible] aC runI ap br

set_option maxRecDepth 100000
set_option maxHeartbeats 4000000

/-- A reader's own bytes. -/
def Own1 (v:AV) (L:List UInt8):Prop:=v = .sl true 1 (BB L)∨(v = .lit (.slice none 0 0)∧L = [])
/-- A reader: its bytes, and with which error it is broken. -/
def Rd (st:St) (r:Nat) (L:List UInt8) (e:Nat):Prop:=∃ rb,Own1 rb L∧st.get r = some [rb,.lit (.int .i64 (e:Nat))]
/-- Bytes that are read, whatever happens to the box r. -/
def Src (st:St) (r:Nat) (y:AV) (l:List UInt8):Prop:=y.dis = y∧y.noL = true∧(∀ s,lenI .sl s y = .ok (.lit (.int .i64 (l.length:Nat)))) ∧
  ((srcA st 1 y = .ok (BB l)∧∀ cs,srcA (st.set r cs) 1 y = .ok (BB l))∨(srcA st 1 y = .req true (.ok (BB l))∧∀ cs,srcA (st.set r cs) 1 y = .req true (.ok (BB l))))

theorem Src.sl (st:St) (r:Nat) (l:List UInt8):Src st r (.sl false 1 (BB l)) l :=
  ⟨rfl,rfl,fun s=>by simp [lenI,cd],.inl ⟨rfl,fun _=>rfl⟩⟩
theorem Src.mb {st:St} {r:Nat} {y:AV} {l:List UInt8} (h:MB y st (BB l)) (hr:∀ q k o n c,y = .bs q k o n c→q≠r):Src st r y l:=by
  obtain ⟨v1,v2,v3,v4,v5,v6,v7,v8⟩:=h.facts
  refine ⟨v1,v5,fun s=>by rw [v8,cd],?_⟩
  rcases h with ⟨rfl,e⟩ | ⟨q,cap,r',rfl,hg,h1,h2⟩
  · have:l = []:=by simpa [BB] using e
    subst this
    exact .inl ⟨rfl,fun _=>rfl⟩
  · have hq:=hr q _ _ _ _ rfl
    have key:∀ s:St,s.get q = some (BB l++r')→srcA s 1 (.bs q 1 0 (BB l).length cap) = .req true (.ok (BB l)):=by
      intro s hs
      simp only [srcA,if_true,eh,hs,gT,mT,Nat.mul_one,Nat.zero_add,List.drop_zero]
      rw [m3 (by simp),List.take_left]
      simp
    exact .inr ⟨key _ hg,fun cs=>key _ (by rw [ea (fun e=>hq e.symm)]; exact hg)⟩

theorem feed_any {r:Nat} {L l:List UInt8} {e:Nat} {y:AV} {st:St} (hr:Rd st r L e) (hy:Src st r y l) (hn:L.length + l.length≤65536) (he:e < 1000) :
    az Go.Proofs.Try.prog n_f38 [.ptr r 0,y] st (fun v st'=>(e≠0∧v = .lit (.int .i64 8)∧st' = st)∨(e = 0∧v = .lit (.int .i64 0)∧∃ rb,Own1 rb (L++l)∧st' = st.set r [rb,.lit (.int .i64 0)])):=by
  obtain ⟨rb,hrb,hg⟩:=hr
  obtain ⟨y1,y2,y3,y4⟩:=hy
  have hlt:=cv hg
  refine aW hmix k_f38 rfl rfl ?_
  unfold aFun c_f38
  rcases Nat.eq_zero_or_pos e with rfl | hpos
  · rcases hrb with rfl | ⟨rfl,rfl⟩
    · rcases y4 with ⟨y4,y5⟩ | ⟨y4,y5⟩
      · simp (config:=KF) (disch:=omega) only [bZ,len_sl,retI,bh,c4,d5,aM,cJ,eK,aD,bf,aP,aA,addA,af,ce,bB,jK,cu,wp_fail,aR,↓reduceIte,Nat.reduceEqDiff,Nat.reduceAdd,Nat.reduceLeDiff,reduceCtorEq,not_true_eq_false,m5,jm,dj,bU,jV,bE,eu,hg,y1,y3,y4,y5]
        exact .inr ⟨_,.inl rfl,rfl⟩
      · simp (config:=KF) (disch:=omega) only [bZ,len_sl,retI,bh,c4,d5,aM,cJ,eK,aD,bf,aP,aA,addA,af,ce,bB,jK,cu,wp_fail,aR,↓reduceIte,Nat.reduceEqDiff,Nat.reduceAdd,Nat.reduceLeDiff,reduceCtorEq,not_true_eq_false,m5,jm,dj,bU,jV,bE,eu,hg,y1,y3,y4,y5]
        exact .inr ⟨_,.inl rfl,rfl⟩
    · rcases l with _ | ⟨x,l⟩
      · rcases y4 with ⟨y4,y5⟩ | ⟨y4,y5⟩
        · simp (config:=KF) (disch:=omega) only [bZ,jZ,retI,bh,c4,d5,aM,cJ,eK,aD,bf,aP,aA,List.isEmpty_nil,addA,af,ce,bB,jK,cu,ai,List.append_nil,↓reduceIte,Nat.reduceEqDiff,Nat.reduceAdd,Nat.reduceLeDiff,Int.reduceSub,reduceCtorEq,not_true_eq_false,m6,bU,bE,eu,hg,y1,y3,y4,y5]
          exact .inr ⟨_,.inr ⟨rfl,rfl⟩,rfl⟩
        · simp (config:=KF) (disch:=omega) only [bZ,jZ,retI,bh,c4,d5,aM,cJ,eK,aD,bf,aP,aA,List.isEmpty_nil,addA,af,ce,bB,jK,cu,ai,List.append_nil,↓reduceIte,Nat.reduceEqDiff,Nat.reduceAdd,Nat.reduceLeDiff,Int.reduceSub,reduceCtorEq,not_true_eq_false,m6,bU,bE,eu,hg,y1,y3,y4,y5]
          exact .inr ⟨_,.inr ⟨rfl,rfl⟩,rfl⟩
      · simp only [List.length_cons,List.length_nil] at hn
        rcases y4 with ⟨y4,y5⟩ | ⟨y4,y5⟩
        · simp (config:=KF) (disch:=omega) only [bZ,jZ,retI,bh,c4,d5,aM,cJ,eK,aD,bf,aP,aA,List.isEmpty_cons,addA,af,ce,bB,jK,cu,aR,List.nil_append,↓reduceIte,Nat.reduceEqDiff,Nat.reduceAdd,Nat.reduceLeDiff,Int.reduceSub,reduceCtorEq,not_true_eq_false,jm,jW,dj,bU,bE,eu,hg,y1,y3,y4,y5]
          exact .inr ⟨_,.inl rfl,rfl⟩
        · simp (config:=KF) (disch:=omega) only [bZ,jZ,retI,bh,c4,d5,aM,cJ,eK,aD,bf,aP,aA,List.isEmpty_cons,addA,af,ce,bB,jK,cu,aR,List.nil_append,↓reduceIte,Nat.reduceEqDiff,Nat.reduceAdd,Nat.reduceLeDiff,Int.reduceSub,reduceCtorEq,not_true_eq_false,jm,jW,dj,bU,bE,eu,hg,y1,y3,y4,y5]
          exact .inr ⟨_,.inl rfl,rfl⟩
  · simp (config:=KF) (disch:=omega) only [bZ,Bool.true_or,cR,retI,bh,aM,bf,aP,aA,addA,af,↓reduceIte,Nat.reduceEqDiff,reduceCtorEq,true_or,dh,hg,y1]

theorem nj {rb:AV} {L:List UInt8} (h:Own1 rb L):rb.dis.le (.sl false 1 (BB L)):=by
  rcases h with rfl | ⟨rfl,rfl⟩
  · exact .refl _
  · exact .nil _ _

/-- What Next answers. -/
def mj (r:(UInt8×List UInt8)×Nat×Nat):AV:=.tup [frAV r.1,.lit (.bool (decide (0 < r.2.1))),.lit (.int .i64 (r.2.2:Nat))]

theorem next_calls {r:Nat} {L:List UInt8} {st:St} (hr:Rd st r L 0) (hn:L.length≤100000) (herr:(nxt L).2.2 = 0) :
    az Go.Proofs.Try.prog n_f40 [.ptr r 0] st (fun v st'=>v = mj (nxt L)∧∃ rb,Own1 rb (L.drop (nxt L).2.1)∧st' = st.set r [rb,.lit (.int .i64 0)]):=by
  obtain ⟨rb,hrb,hg⟩:=hr
  have hlt:=cv hg
  refine aW hmix k_f40 rfl rfl ?_
  unfold aFun c_f40
  have hc:∀ st:St,aw Go.Proofs.Try.prog n_f45 [rb.dis] st (dG (nxt L)):=fun st=>(mh L (by omega) st).weak ⟨nj hrb,trivial⟩ (.refl _)
  obtain ⟨n1,n2,n3,n4,n5,n6⟩:=ni L
  generalize nxt L = R at *
  obtain ⟨⟨fk,fb⟩,n,e⟩:=R
  simp only at n1 n2 n3 n4 n5 n6 herr
  subst herr
  rcases hrb with rfl | ⟨rfl,rfl⟩
  · simp (config:=KF) (disch:=omega) only [bZ,bh,de,bj,aM,bf,aP,aA,addA,af,cD,id,cq,↓reduceIte,Nat.reduceEqDiff,reduceCtorEq,not_true_eq_false,hg]
    refine df rfl e_f45 (hc _) rfl ?_
    simp (config:=KF) (disch:=omega) only [bZ,retI,resI,resL,gG,bh,c4,bD,extV,aM,c3,cJ,bL,aD,ixTo,addA,af,al,cu,dy,cP,cK,cL,aR,ba,bk,↓reduceIte,Nat.reduceEqDiff,Nat.reduceAdd,Nat.reduceLeDiff,reduceCtorEq,not_true_eq_false,List.take_length,iG,ew,bE,eu,hg,dG,frAV]
    exact ⟨by simp [mj,frAV],_,.inl rfl,rfl⟩
  · simp (config:=KF) (disch:=omega) only [bZ,bh,de,bj,aM,bf,aP,aA,addA,af,cD,id,cq,↓reduceIte,Nat.reduceEqDiff,reduceCtorEq,not_true_eq_false,hg]
    refine df rfl e_f45 (hc _) rfl ?_
    have n0:n = 0:=by simpa using n1
    subst n0
    simp (config:=KF) (disch:=omega) only [bZ,retI,resI,resL,gG,bh,c4,bD,extV,aM,c3,cJ,bL,aD,ixTo,addA,af,al,cu,dy,cP,cK,cL,ai,aR,ba,bk,↓reduceIte,Nat.reduceEqDiff,Nat.reduceAdd,Nat.reduceLeDiff,Int.reduceLE,reduceCtorEq,not_true_eq_false,bE,eu,hg,dG,frAV]
    exact ⟨by simp [mj,frAV],_,.inr ⟨rfl,rfl⟩,rfl⟩

theorem pending_any {r:Nat} {L:List UInt8} {e:Nat} {st:St} (hr:Rd st r L e) :
    az Go.Proofs.Try.prog n_f39 [.ptr r 0] st (fun v st'=>v = .lit (.int .i64 L.length)∧st' = st):=by
  obtain ⟨rb,hrb,hg⟩:=hr
  refine aW hmix k_f39 rfl rfl ?_
  unfold aFun c_f39
  rcases hrb with rfl | ⟨rfl,rfl⟩
  · simp (config:=KF) (disch:=omega) only [bZ,retI,bh,aM,bf,aP,aA,lenI,addA,af,↓reduceIte,Nat.reduceEqDiff,reduceCtorEq,hg]
  · simp (config:=KF) (disch:=omega) only [bZ,retI,bh,aM,bf,aP,aA,lenI,addA,af,↓reduceIte,Nat.reduceEqDiff,reduceCtorEq,hg]
end Go.Fx.YtenijlfcfmhmkaaFx


/- What the functions that the statement reaches compute: part 10. -/
import Derived.Test.YtenijlfcfmhmkaaFxW9
namespace Go.Fx.YtenijlfcfmhmkaaFx
open Go Go.Fx
attribute [local irreducible] aC runI ap br

set_option maxRecDepth 100000
set_option maxHeartbeats 8000000

/-- Only the box r has changed. -/
def But (st st':St) (r:Nat):Prop:=st'.boxes.length = st.boxes.length∧∀ id,id≠r→st'.get id = st.get id
theorem But.refl (st:St) (r:Nat):But st st r:=⟨rfl,fun _ _=>rfl⟩
theorem But.set (st:St) (r:Nat) (cs:List AV):But st (st.set r cs) r:=⟨m4 ..,fun id h=>ea fun e=>h e.symm⟩
theorem But.rd {st st':St} {r q:Nat} {L:List UInt8} {e:Nat} (h:But st st' r) (hr:Rd st q L e) (hne:q≠r):Rd st' q L e:=by
  obtain ⟨rb,h1,h2⟩:=hr
  exact ⟨rb,h1,by rw [h.2 q hne]; exact h2⟩

/-- What Next does, of a reader that is broken, perhaps. -/
def nx (L:List UInt8) (e:Nat):(UInt8×List UInt8)×Nat×Nat:=if e≠0 then ((0,[]),0,e) else nxt L
def zfr:AV:=.agg [.lit (.int .u8 0),.lit (.slice none 0 0)]

theorem nx_err {L:List UInt8}:(nxt L).2.2≠0→(nxt L).1 = (0,[])∧(nxt L).2.1 = 0:=by
  unfold nxt
  repeat' split
  all_goals simp

theorem next_any {r:Nat} {L:List UInt8} {e:Nat} {st:St} (hr:Rd st r L e) (hn:L.length≤100000) (he:e < 1000) :
    az Go.Proofs.Try.prog n_f40 [.ptr r 0] st (fun v st'=>(((nx L e).2.2 = 0∧v = mj (nx L e))∨((nx L e).2.2≠0∧v = .tup [zfr,.lit (.bool false),.lit (.int .i64 ((nx L e).2.2:Nat))]))∧Rd st' r (L.drop (nx L e).2.1) (nx L e).2.2∧But st st' r):=by
  by_cases h0:e = 0
  · subst h0
    have hnx:nx L 0 = nxt L:=by simp [nx]
    rw [hnx]
    by_cases herr:(nxt L).2.2 = 0
    · refine (next_calls hr hn herr).mono fun v st' h=>?_
      obtain ⟨h1,rb,h2,h3⟩:=h
      obtain ⟨_,_,hg⟩:=hr
      subst h3
      exact ⟨.inl ⟨herr,h1⟩,⟨rb,h2,by rw [herr,bE (cv hg)]; rfl⟩,But.set _ _ _⟩
    · obtain ⟨rb,hrb,hg⟩:=hr
      have hlt:=cv hg
      refine gv hmix k_f40 rfl rfl fun Q hQ=>?_
      unfold aFun c_f40
      have hc:∀ st:St,aw Go.Proofs.Try.prog n_f45 [rb.dis] st (dG (nxt L)):=fun st=>(mh L (by omega) st).weak ⟨nj hrb,trivial⟩ (.refl _)
      obtain ⟨n1,n2,n3,n4,n5,n6⟩:=ni L
      have n7:=nx_err herr
      generalize nxt L = R at *
      obtain ⟨⟨fk,fb⟩,n,ee⟩:=R
      simp only at n1 n2 n3 n4 n5 n6 n7 herr
      obtain ⟨_,n8⟩:=n7
      subst n8
      have hne:((ee:Int) = 0) = False:=by simp; omega
      rcases hrb with rfl | ⟨rfl,rfl⟩
      · simp (config:=KF) (disch:=omega) only [bZ,bh,de,bj,aM,bf,aP,aA,addA,af,cD,id,cq,↓reduceIte,Nat.reduceEqDiff,reduceCtorEq,not_true_eq_false,hg]
        refine df rfl e_f45 (hc _) rfl ?_
        simp (config:=KF) (disch:=omega) only [bZ,retI,resI,resL,gG,bh,fS,extV,aM,bstV,aD,addA,af,al,aS,dy,cP,cK,cL,ai,ba,bk,↓reduceIte,Nat.reduceEqDiff,Nat.reduceAdd,Nat.reduceLeDiff,reduceCtorEq,dh,hg,dG,frAV]
        exact hQ _ _ ⟨.inr ⟨herr,rfl⟩,⟨.sl true 1 (BB L),.inl rfl,by rw [bE hlt]⟩,But.set _ _ _⟩
      · simp (config:=KF) (disch:=omega) only [bZ,bh,de,bj,aM,bf,aP,aA,addA,af,cD,id,cq,↓reduceIte,Nat.reduceEqDiff,reduceCtorEq,not_true_eq_false,hg]
        refine df rfl e_f45 (hc _) rfl ?_
        simp (config:=KF) (disch:=omega) only [bZ,retI,resI,resL,gG,bh,fS,extV,aM,bstV,aD,addA,af,al,aS,dy,cP,cK,cL,ai,ba,bk,↓reduceIte,Nat.reduceEqDiff,Nat.reduceAdd,Nat.reduceLeDiff,reduceCtorEq,dh,hg,dG,frAV]
        exact hQ _ _ ⟨.inr ⟨herr,rfl⟩,⟨.lit (.slice none 0 0),.inr ⟨rfl,rfl⟩,by rw [bE hlt]⟩,But.set _ _ _⟩
  · have hnx:nx L e = ((0,[]),0,e):=by simp [nx,h0]
    rw [hnx]
    obtain ⟨rb,hrb,hg⟩:=hr
    have hlt:=cv hg
    refine gv hmix k_f40 rfl rfl fun Q hQ=>?_
    unfold aFun c_f40
    have hne:((e:Int) = 0) = False:=by simp; omega
    have hz:zfr = .agg [.lit (.int .u8 0),.lit (.slice none 0 0)]:=rfl
    have hfin:Q (.tup [.agg [.lit (.int .u8 0),.lit (.slice none 0 0)],.lit (.bool false),.lit (.int .i64 (e:Nat))]) st:=hQ _ _ ⟨.inr ⟨h0,rfl⟩,⟨rb,hrb,hg⟩,But.refl _ _⟩
    simp (config:=KF) (disch:=omega) only [bZ,List.contains_cons,Nat.reduceBEq,Bool.or_false,ksB,aB,bg,bG,aU,bO,bp,nstB,bH,kY,ec,iI,hh_addr,gt,hh_ldF,hh_nilck,hh_store,jM,iJ,cM,tail_eq,kZ,cR,retI,resI,resL,bh,de,aM,bf,aP,aA,addA,af,al,cD,a8,ba,bk,cq,List.nil_append,↓reduceIte,Nat.reduceEqDiff,Nat.reduceAdd,Nat.reduceLeDiff,reduceCtorEq,not_false_eq_true,or_false,Bool.not_false,hg,hne]
    exact hfin

theorem feed_rd {r:Nat} {L l:List UInt8} {e:Nat} {y:AV} {st:St} (hr:Rd st r L e) (hy:Src st r y l) (hn:L.length + l.length≤65536) (he:e < 1000) :
    az Go.Proofs.Try.prog n_f38 [.ptr r 0,y] st (fun v st'=>v = .lit (.int .i64 ((if e≠0 then 8 else 0:Nat):Int))∧Rd st' r (if e≠0 then L else L++l) e∧But st st' r):=by
  refine (feed_any hr hy hn he).mono fun v st' h=>?_
  rcases h with ⟨h1,h2,h3⟩ | ⟨h1,h2,rb,h3,h4⟩
  · subst h3
    exact ⟨by rw [if_pos h1]; exact h2,by rw [if_pos h1]; exact hr,But.refl _ _⟩
  · obtain ⟨_,_,hg⟩:=hr
    subst h1 h4
    exact ⟨h2,⟨rb,h3,by rw [bE (cv hg)]; rfl⟩,But.set _ _ _⟩

theorem err_any {r:Nat} {L:List UInt8} {e:Nat} {st:St} (hr:Rd st r L e) :
    az Go.Proofs.Try.prog n_f44 [.ptr r 0] st (fun v st'=>v = .lit (.int .i64 (e:Nat))∧st' = st):=by
  obtain ⟨rb,hrb,hg⟩:=hr
  refine aW hmix k_f44 rfl rfl ?_
  unfold aFun c_f44
  simp (config:=KF) (disch:=omega) only [bZ,retI,bh,aM,bf,aP,aA,addA,af,↓reduceIte,Nat.reduceEqDiff,reduceCtorEq,hg]

theorem clone_nil (st:St):az Go.Proofs.Try.prog n_f57 [.lit (.slice none 0 0)] st (fun v st'=>st' = st∧v = .lit (.slice none 0 0)):=by
  refine aW hmix k_f57 rfl rfl ?_
  unfold aFun c_f57
  simp (config:=KF) (disch:=omega) only [bZ,retI,cy,atS_eq,o_x,ak,nilX_nil,bf,aP,aA,↓reduceIte,Nat.reduceEqDiff,reduceCtorEq]

theorem copy_any {r:Nat} {L:List UInt8} {e:Nat} {st:St} (hr:Rd st r L e) (hn:L.length≤100000) :
    az Go.Proofs.Try.prog n_f1043 [.ptr r 0] st (fun v st'=>v = .ptr st.boxes.length 0∧Rd st' st.boxes.length L e∧st'.boxes.length = st.boxes.length + 1∧∀ id,id < st.boxes.length→st'.get id = st.get id):=by
  obtain ⟨rb,hrb,hg⟩:=hr
  have hlt:=cv hg
  refine gv hmix k_f1043 rfl rfl fun Q hQ=>?_
  unfold aFun c_f1043
  have hlast:∀ rb',Own1 rb' L→Q (.ptr st.boxes.length 0) (st.push (.cells [rb',.lit (.int .i64 (e:Nat))])):=fun rb' h =>
    hQ _ _ ⟨rfl,⟨_,h,bN _ _⟩,len_push _ _,fun id h=>dM h⟩
  rcases hrb with rfl | ⟨rfl,rfl⟩
  · simp (config:=KF) (disch:=omega) only [bZ,bf,aP,aA,↓reduceIte,Nat.reduceEqDiff,reduceCtorEq]
    refine draw_s ?_
    simp (config:=KF) (disch:=omega) only [bZ,m_nil,k7,m_val,k8,fg,fh,ed,atM_eq,fm,dropP,dropQ,mI,aM,addA,af,a8,id,List.append_nil,List.nil_append,List.cons_append,↓reduceIte,Nat.reduceEqDiff,reduceCtorEq,hg]
    refine call_m (vs:=[.sl false 1 (BB L)]) rfl e_f57 (jN (l:=BB L) (by rw [cd]; omega) st) rfl ?_
    simp (config:=KF) (disch:=omega) only [bZ,ksB,aB,bg,bG,aU,nstB,bH,k8,fg,fh,ed,hm_nil,hm_none,hm_val,holeK_eq,aM,addA,af,List.nil_append,List.cons_append,↓reduceIte,Nat.reduceEqDiff,reduceCtorEq,Bool.not_false,jm,hg]
    rintro v st1 ⟨rfl,hv⟩
    refine ⟨St.sub_refl _,?_⟩
    rcases hv with rfl | ⟨h0,rfl⟩
    · simp (config:=KF) (disch:=omega) only [bZ,ksB,aB,bg,bG,aU,bO,bp,nstB,bH,m_nil,k7,m_val,k8,fg,fh,ed,k9,jn,nc,la,na,fJ,fj,retI,mS,o_x,aM,ak,addA,af,cP,ai,aR,jU,List.nil_append,List.cons_append,↓reduceIte,Nat.reduceEqDiff,Nat.reduceAdd,Nat.reduceLeDiff,reduceCtorEq,Bool.not_false,hg]
      exact hlast _ (.inl rfl)
    · have h0:L = []:=by simpa [BB] using h0
      simp (config:=KF) (disch:=omega) only [bZ,ksB,aB,bg,bG,aU,bO,bp,nstB,bH,m_nil,k7,m_val,k8,fg,fh,ed,k9,jn,nc,la,na,fJ,fj,retI,mS,o_x,aM,ak,addA,af,ai,jU,List.nil_append,List.cons_append,↓reduceIte,Nat.reduceEqDiff,Nat.reduceAdd,Nat.reduceLeDiff,reduceCtorEq,Bool.not_false,hg]
      exact hlast _ (.inr ⟨rfl,h0⟩)
  · simp (config:=KF) (disch:=omega) only [bZ,bf,aP,aA,↓reduceIte,Nat.reduceEqDiff,reduceCtorEq]
    refine draw_s ?_
    simp (config:=KF) (disch:=omega) only [bZ,m_nil,k7,m_val,k8,fg,fh,ed,atM_eq,fm,dropP,dropQ,mI,aM,addA,af,a8,id,List.append_nil,List.nil_append,List.cons_append,↓reduceIte,Nat.reduceEqDiff,reduceCtorEq,hg]
    refine call_m (vs:=[.lit (.slice none 0 0)]) rfl e_f57 (clone_nil st) rfl ?_
    simp (config:=KF) (disch:=omega) only [bZ,ksB,aB,bg,bG,aU,nstB,bH,k8,fg,fh,ed,hm_nil,hm_none,hm_val,holeK_eq,aM,addA,af,List.nil_append,List.cons_append,↓reduceIte,Nat.reduceEqDiff,reduceCtorEq,Bool.not_false,hg]
    rintro v st1 ⟨rfl,rfl⟩
    refine ⟨St.sub_refl _,?_⟩
    simp (config:=KF) (disch:=omega) only [bZ,ksB,aB,bg,bG,aU,bO,bp,nstB,bH,m_nil,k7,m_val,k8,fg,fh,ed,k9,jn,nc,la,na,fJ,fj,retI,mS,o_x,aM,ak,addA,af,ai,jU,List.nil_append,List.cons_append,↓reduceIte,Nat.reduceEqDiff,Nat.reduceAdd,Nat.reduceLeDiff,reduceCtorEq,Bool.not_false,hg]
    exact hlast _ (.inr ⟨rfl,rfl⟩)
end Go.Fx.YtenijlfcfmhmkaaFx


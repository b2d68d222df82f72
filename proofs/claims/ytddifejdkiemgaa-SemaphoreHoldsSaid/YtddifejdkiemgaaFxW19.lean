/- What the functions that the statement reaches compute: part 19. -/
import Derived.Test.YtddifejdkiemgaaFxW18
namespace Go.Fx.YtddifejdkiemgaaFx
open Go Go.Fx
attribute [local irreducible] aC runI dg ep

set_option maxRecDepth 100000
set_option maxHeartbeats 8000000

theorem sv (st:St) (x0 x1:AV) (b:Nat) (i:Int) (before:List Int) (v:AV) (gr:List Gt) (hv:GB v st gr) (hlen:before.length≤1000) (hgl:gr.length≤1000) (hs:(srvd gr).Sublist before)
    (K:Exit→Sf→St→Prop) (hK:K (.exit 5) ⟨[(0,x0),(1,x1),(5,.ptr b 0),(7,.lit (.int .i64 i))],[]⟩ st) :
    aC Go.Proofs.Try.prog id false f10_81 ⟨[(0,x0),(1,x1),(5,.ptr b 0),(7,.lit (.int .i64 i)),(8,.sl false 1 (ints before)),(10,v),(13,.lit (.int .i64 0)),(14,.lit (.int .i64 0))],[]⟩ st K:=by
  rw [f10_81w]
  refine im (A:=Nat×Nat) (fun a=>gr.length - a.1) (fun a=>⟨[(0,x0),(1,x1),(5,.ptr b 0),(7,.lit (.int .i64 i)),(8,.sl false 1 (ints before)),(10,v),(13,.lit (.int .i64 (a.2:Nat))),(14,.lit (.int .i64 (a.1:Nat)))],[]⟩) (fun _=>st)
    (fun a=>a.1≤gr.length∧a.2≤before.length∧(srvd (gr.drop a.1)).Sublist (before.drop a.2)) (0,0) ⟨by simp,by simp,by simpa using hs⟩ (Sf.le_refl _) rfl ?_
  rintro ⟨k,a⟩ ⟨h1,h2,h3⟩ K' hK1 hKe hKr
  simp only at h1 h2 h3
  rcases hv with ⟨rfl,rfl⟩ | ⟨ib,cap,r,rfl,hg,hc1,hc2⟩
  · simp (config:=KF) (disch:=omega) only [bZ,en,fP,er,lenI,dx,putS,Sf.set,Sf.reg,getR,setR,aD,↓reduceIte,Nat.reduceEqDiff,reduceCtorEq,dL,f10_82e,f10_83e,f10_84e,f10_84l,f10_85e]
    refine hKe _ _ _ ?_
    exact hK
  by_cases hk:k < gr.length
  · have hdr:gr.drop k = gr[k]::gr.drop (k + 1):=List.drop_eq_getElem_cons hk
    obtain ⟨r',d2⟩:=grC_drop1 (r:=r) hk
    have hll:=eZ before
    by_cases he:gr[k].2 = 0
    · have hsv:srvd (gr.drop k) = gr[k].1::srvd (gr.drop (k + 1)):=by
        rw [hdr]; unfold srvd; rw [List.filter_cons_of_pos (by simpa using he)]; rfl
      rw [hsv] at h3
      rw [he] at d2
      simp (config:=KF) (disch:=omega) only [bZ,cf,kV,ca,er,ixSV,bK,ixA,lenI,addA,a8,eE,dx,cE,putS,Sf.set,Sf.reg,getR,setR,aD,d4,Int.toNat_natCast,↓reduceIte,Nat.reduceEqDiff,reduceCtorEq,Nat.zero_add,not_true_eq_false,decide_false,dC,cU,dI,f10_82e,f10_83e,f10_84e,f10_84l,f10_85e,f10_86e,f10_87e,f10_88e,f10_89e,f10_90e,f10_90l,f10_91e,f10_92e,f10_93e,hg,d2]
      refine holds_scan st x0 x1 b i before ib cap k gr r hg hk hlen hgl a ⟨_,h3⟩ _ fun a1 q1 q2=>?_
      have hnx:=hK1 (k + 1,a1) ⟨[(0,x0),(1,x1),(5,.ptr b 0),(7,.lit (.int .i64 i)),(8,.sl false 1 (ints before)),(10,.bs ib 2 0 gr.length cap),(13,.lit (.int .i64 (a1:Nat))),(14,.lit (.int .i64 ((k:Int) + 1)))],[]⟩ ⟨by simp only; omega,by simp only; omega,q1 _ h3⟩ (by simp only; omega) (Sf.le_refl _)
      simp (config:=KF) (disch:=omega) only [bZ,bG,dV,er,bH,lenI,gC,j1,putS,Sf.set,Sf.reg,getR,setR,aD,Sf.disAt,di,↓reduceIte,Nat.reduceEqDiff,reduceCtorEq,dL,IntWalk.i64_in,fk,f10_101e,f10_102e,f10_102l,f10_103e,f10_106e,f10_106l,hll]
      exact hnx
    · have hsv:srvd (gr.drop k) = srvd (gr.drop (k + 1)):=by
        rw [hdr]; unfold srvd; rw [List.filter_cons_of_neg (by simpa using he)]
      rw [hsv] at h3
      have hnx:=hK1 (k + 1,a) ⟨[(0,x0),(1,x1),(5,.ptr b 0),(7,.lit (.int .i64 i)),(8,.sl false 1 (ints before)),(10,.bs ib 2 0 gr.length cap),(13,.lit (.int .i64 (a:Nat))),(14,.lit (.int .i64 ((k:Int) + 1)))],[]⟩ ⟨by simp only; omega,h2,h3⟩ (by simp only; omega) (Sf.le_refl _)
      simp (config:=KF) (disch:=omega) only [bZ,en,dV,fP,cf,kV,ca,er,bH,ixSV,bK,ixA,lenI,addA,a8,gC,eE,dx,cE,putS,Sf.set,Sf.reg,getR,setR,aD,Sf.disAt,d4,Int.toNat_natCast,↓reduceIte,Nat.reduceEqDiff,reduceCtorEq,Nat.zero_add,not_false_eq_true,decide_true,dC,cU,IntWalk.i64_in,fk,dI,f10_82e,f10_83e,f10_84e,f10_84l,f10_85e,f10_86e,f10_87e,f10_88e,f10_89e,f10_90e,f10_90l,f10_91e,f10_106e,f10_106l,hg,d2,he]
      exact hnx
  · simp (config:=KF) (disch:=omega) only [bZ,en,fP,er,lenI,dx,putS,Sf.set,Sf.reg,getR,setR,aD,d4,↓reduceIte,Nat.reduceEqDiff,reduceCtorEq,dL,f10_82e,f10_83e,f10_84e,f10_84l,f10_85e]
    refine hKe _ _ _ ?_
    exact hK

section
variable {st:St} {b q mid wid g:Nat} {sz nw:Int} {H:List Int} {V:List Vt}
/-- The checks behind a call. -/
theorem holds_tail (h:SmIs st b q mid wid sz nw H V g) (x1:AV) (i:Int) (before:List Int) (w t n d:Int) (v:AV) (gr:List Gt) (hv:GB v st gr) (hlen:before.length≤1000) (hgl:gr.length≤1000) (hs:(srvd gr).Sublist before)
    (hb4:w = 0∨w = 1→before≠[]→before.length≤(vtk V).length∧(vtk V).head? = before.head?)
    (K:Exit→Sf→St→Prop) (hK:∀ s,St.sub st s→K .normal ⟨[(0,.lit (.int .i64 sz)),(1,x1),(5,.ptr b 0),(7,.lit (.int .i64 i))],[]⟩ s) :
    aC Go.Proofs.Try.prog id false f10_55 ⟨[(0,.lit (.int .i64 sz)),(1,x1),(5,.ptr b 0),(7,.lit (.int .i64 i)),(8,.sl false 1 (ints before)),(9,.lptr 9 0),(10,v)],[(9,[.lit (.int .i64 w),.lit (.int .i64 t),.lit (.int .i64 n),.lit (.int .u64 d)])]⟩ st K:=by
  have hcn:=h.cnt
  have hszb:=h.szb
  have hs0:=h.sum0
  have hs1:=h.hs
  have hnw:=h.nwb
  have hll:=eZ before
  have hlv:=eZ (vtk V)
  have hnx:nw < dy V:=by
    rcases nx V with e | ⟨x,hx,e⟩
    · rw [e]; exact hnw.2
    · rw [← e]; exact (h.wk x hx).2.2.1
  have hvl:(vtk V).length = V.length:=by simp [vtk]
  have hsq:H.sum + (sz - H.sum) = sz:=by omega
  have hfin:∀ s,St.sub st s→aC Go.Proofs.Try.prog id false f10_81 ⟨[(0,.lit (.int .i64 sz)),(1,x1),(5,.ptr b 0),(7,.lit (.int .i64 i)),(8,.sl false 1 (ints before)),(10,v),(13,.lit (.int .i64 0)),(14,.lit (.int .i64 0))],[]⟩ s (jL 5 K):=fun s hsub =>
    sv s _ x1 b i before v gr (sub_gb hv hsub) hlen hgl hs _ (by simp (config:=KF) (disch:=omega) only [dV,↓reduceIte]; exact hK s hsub)
  rcases hv.k with rfl | ⟨ib,ln,cap,rfl⟩
  all_goals
    simp (config:=KF) (disch:=omega) only [bZ,putS,Sf.set,getR,setR,aD,look,↓reduceIte,Nat.reduceEqDiff,reduceCtorEq,f10_55e,f10_56e,f10_56l,f10_57e,f10_58e,f10_59e,f10_59l,f10_60e]
    rw [f10_61w]
    refine im (A:=Nat) (fun a=>64 - a) (fun a=>⟨[(0,.lit (.int .i64 sz)),(1,x1),(5,.ptr b 0),(7,.lit (.int .i64 i)),(8,.sl false 1 (ints before)),(9,.lptr 9 0),(10,_),(11,.lit (.int .i64 (H.take a).sum)),(12,.lit (.int .i64 (a:Nat)))],[(9,[.lit (.int .i64 w),.lit (.int .i64 t),.lit (.int .i64 n),.lit (.int .u64 d)])]⟩) (fun _=>st) (fun a=>a≤64) 0 (by omega) (Sf.le_refl _) rfl ?_
    rintro k h1 K' hK1 hKe hKr
    by_cases hk:k < 64
    · have hh:=sheld_pure h (k:Int)
      rw [if_neg (by omega)] at hh
      have hst:=sum_take (H:=H) (i:=k) (by rw [h.hl]; exact hk)
      have hgb:=h.getb (i:=(k:Int)) (by omega) (by omega)
      have ht:0≤(H.take k).sum∧(H.take k).sum≤H.sum:=by
        have h1:=qo (H.take k) fun x hx=>h.hb x (List.mem_of_mem_take hx)
        have h2:=qo (H.drop k) fun x hx=>h.hb x (List.mem_of_mem_drop hx)
        have h3:H.sum = (H.take k).sum + (H.drop k).sum:=by rw [← List.sum_append,List.take_append_drop]
        exact ⟨h1.1,by have:=h2.1; omega⟩
      simp (config:=KF) (disch:=omega) only [bZ,aI,dx,ev_f,putS,Sf.set,Sf.reg,getR,setR,aD,look,id,↓reduceIte,Nat.reduceEqDiff,reduceCtorEq,cU,f10_62e,f10_63e,f10_64e,f10_64l,f10_65e,f10_66e,f10_67e,f10_68e,f10_68l]
      refine cF rfl e_f40 hh rfl ?_
      simp (config:=KF) (disch:=omega) only [bZ,bG,bH,gC,putS,Sf.set,Sf.reg,getR,setR,aD,Sf.disAt,look,↓reduceIte,Nat.reduceEqDiff,reduceCtorEq,IntWalk.i64_in,fk,f10_69e,f10_69l]
      refine hK1 (k + 1) _ (by omega) (by omega) ?_
      simp only [hst]
      exact Sf.le_refl _
    · simp (config:=KF) (disch:=omega) only [bZ,en,fP,dx,putS,Sf.set,Sf.reg,getR,setR,aD,look,↓reduceIte,Nat.reduceEqDiff,reduceCtorEq,dL,f10_62e,f10_63e,f10_64e,f10_64l,f10_65e]
      refine hKe _ _ _ ?_
      rw [show H.take k = H from List.take_of_length_le (by rw [h.hl]; omega)]
      simp (config:=KF) (disch:=omega) only [bZ,List.contains_nil,j7,o5,jt,kC,dV,ev_f,putS,Sf.set,Sf.reg,getR,setR,dn,id,↓reduceIte,Nat.reduceEqDiff,Bool.true_and,true_and,reduceCtorEq,Bool.false_eq_true,f10_70e,f10_71e,f10_72e,f10_72h,f10_72l]
      refine sk rfl e_f41 (fun s hs=>ky (h.sub hs)) rfl ?_
      simp (config:=KF) (disch:=omega) only [bZ,j7,ld,o5,jt,gu,kC,ff,AI.dst,gC,eE,ev_f,putS,Sf.set,Sf.reg,getR,setR,id,↓reduceIte,Nat.reduceEqDiff,reduceCtorEq,not_true_eq_false,decide_false,IntWalk.i64_in,hsq]
      refine sk rfl e_f41 (fun s hs=>ky (h.sub hs)) rfl ?_
      simp (config:=KF) (disch:=omega) only [bZ,j7,nu,ld,o5,jt,gu,kC,ff,AI.dst,cV,dx,ev_f,putS,Sf.set,Sf.reg,getR,setR,id,↓reduceIte,Nat.reduceEqDiff,reduceCtorEq,ic]
      refine sk rfl e_f42 (fun s hs=>kw (h.sub hs)) rfl ?_
      simp (config:=KF) (disch:=omega) only [bZ,j7,o5,gu,kC,ff,AI.dst,ev_f,putS,Sf.set,Sf.reg,getR,setR,id,↓reduceIte,Nat.reduceEqDiff,reduceCtorEq]
      refine sk rfl e_f43 (fun s hs=>snow_pure (h.sub hs)) rfl ?_
      rcases before with _ | ⟨b0,bs⟩
      · simp (config:=KF) (disch:=omega) only [bZ,j7,nu,ld,n8,g_nil,jt,gu,j8,kC,g_skip,lB,ff,rn,qc,aS,eX,AI.dst,ck,c8,cV,lenI,nj,fw,putS,Sf.set,Sf.reg,getR,setR,aD,di,List.length_nil,Int.cast_ofNat_Int,↓reduceIte,Nat.reduceEqDiff,reduceCtorEq,Bool.false_eq_true,ic,f10_73e,f10_76e,f10_77e,f10_77l,f10_78e,f10_79e,f10_79l,f10_80e,hll]
        intro s q1 q2
        exact hfin s q1
      have hbl:0 < (((b0::bs):List Int).length:Int):=by simp only [List.length_cons]; omega
      by_cases w0:w = 0
      · subst w0
        obtain ⟨c1,c2⟩:=hb4 (.inl rfl) (by simp)
        obtain ⟨x,xs,hx⟩:∃ x xs,vtk V = x::xs:=by
          cases hvv:vtk V with
          | nil=>rw [hvv] at c1; simp at c1
          | cons x xs=>exact ⟨x,xs,rfl⟩
        have hwg:=qj h
        rw [hx] at c1 c2 hlv hvl hwg
        simp at c2
        subst c2
        have e1:∀ l,(ints (x::l)).getD 0 .any = .lit (.int .i64 x):=fun _=>rfl
        have c3:((bs.length:Int) + 1)≤(xs.length:Int) + 1:=by simp only [List.length_cons] at c1; omega
        simp (config:=KF) (disch:=omega) only [bZ,j7,nu,ld,o6,lA,n8,jt,gu,j8,kC,g_skip,si,ia,ff,AI.dst,ea,cV,bK,lenI,addA,a8,fa,nj,fw,ev_f,putS,Sf.set,Sf.reg,getR,setR,look,id,di,List.length_cons,List.drop_zero,↓reduceIte,Nat.reduceEqDiff,reduceCtorEq,Nat.add_zero,decide_true,jv,ic,hll]
        refine sj rfl e_f34 hwg rfl ?_
        simp (config:=KF) (disch:=omega) only [bZ,j7,ld,n8,gu,j8,kC,g_mkv,si,ia,ff,AI.dst,lenI,dx,ev_f,putS,Sf.set,Sf.reg,getR,setR,id,di,List.length_cons,↓reduceIte,Nat.reduceEqDiff,reduceCtorEq,ic,hll,hlv]
        refine sj rfl e_f34 hwg rfl ?_
        simp (config:=KF) (disch:=omega) only [bZ,j7,mm_ixS,lA,g_nil,gu,kC,g_mkv,lB,ff,aS,AI.dst,dY,ck,c8,ea,cV,ixSV,bK,ixA,a8,eE,cE,putS,Sf.set,Sf.reg,getR,setR,aD,di,cN,List.length_cons,Int.toNat_zero,↓reduceIte,Nat.reduceEqDiff,Int.reduceLE,Bool.true_and,true_and,reduceCtorEq,not_true_eq_false,decide_false,Bool.false_eq_true,dC,f10_73e,f10_76e,f10_77e,f10_77l,f10_78e,f10_79e,f10_79l,f10_80e,hll,hlv,e1]
        intro s q1 q2
        exact hfin s q1
      by_cases w1:w = 1
      · subst w1
        obtain ⟨c1,c2⟩:=hb4 (.inr rfl) (by simp)
        obtain ⟨x,xs,hx⟩:∃ x xs,vtk V = x::xs:=by
          cases hvv:vtk V with
          | nil=>rw [hvv] at c1; simp at c1
          | cons x xs=>exact ⟨x,xs,rfl⟩
        have hwg:=qj h
        rw [hx] at c1 c2 hlv hvl hwg
        simp at c2
        subst c2
        have e1:∀ l,(ints (x::l)).getD 0 .any = .lit (.int .i64 x):=fun _=>rfl
        have c3:((bs.length:Int) + 1)≤(xs.length:Int) + 1:=by simp only [List.length_cons] at c1; omega
        simp (config:=KF) (disch:=omega) only [bZ,j7,nu,ld,o6,lA,n8,jt,gu,j8,kC,si,ia,ff,AI.dst,ea,cV,bK,lenI,addA,a8,fa,nj,fw,ev_f,putS,Sf.set,Sf.reg,getR,setR,look,id,di,List.length_cons,List.drop_zero,↓reduceIte,Nat.reduceEqDiff,Int.reduceEq,reduceCtorEq,Nat.add_zero,decide_true,decide_false,jv,ic,hll]
        refine sj rfl e_f34 hwg rfl ?_
        simp (config:=KF) (disch:=omega) only [bZ,j7,ld,n8,gu,j8,kC,g_mkv,si,ia,ff,AI.dst,lenI,dx,ev_f,putS,Sf.set,Sf.reg,getR,setR,id,di,List.length_cons,↓reduceIte,Nat.reduceEqDiff,reduceCtorEq,ic,hll,hlv]
        refine sj rfl e_f34 hwg rfl ?_
        simp (config:=KF) (disch:=omega) only [bZ,j7,mm_ixS,lA,g_nil,gu,kC,g_mkv,lB,ff,aS,AI.dst,dY,ck,c8,ea,cV,ixSV,bK,ixA,a8,eE,cE,putS,Sf.set,Sf.reg,getR,setR,aD,di,cN,List.length_cons,Int.toNat_zero,↓reduceIte,Nat.reduceEqDiff,Int.reduceLE,Bool.true_and,true_and,reduceCtorEq,not_true_eq_false,decide_false,Bool.false_eq_true,dC,f10_73e,f10_76e,f10_77e,f10_77l,f10_78e,f10_79e,f10_79l,f10_80e,hll,hlv,e1]
        intro s q1 q2
        exact hfin s q1
      · simp (config:=KF) (disch:=omega) only [bZ,j7,nu,ld,o6,lA,n8,g_nil,jt,gu,j8,kC,g_skip,lB,ia,ff,rn,qc,aS,eX,AI.dst,ck,c8,ea,cV,bK,lenI,addA,a8,fa,nj,fw,putS,Sf.set,Sf.reg,getR,setR,aD,look,di,List.length_cons,List.drop_zero,↓reduceIte,Nat.reduceEqDiff,reduceCtorEq,Nat.add_zero,decide_false,Bool.false_eq_true,jv,ic,f10_73e,f10_76e,f10_77e,f10_77l,f10_78e,f10_79e,f10_79l,f10_80e,hll,w0,w1]
        intro s q1 q2
        exact hfin s q1
end
end Go.Fx.YtddifejdkiemgaaFx


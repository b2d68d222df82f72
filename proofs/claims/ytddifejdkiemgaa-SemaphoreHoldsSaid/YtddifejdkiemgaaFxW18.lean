/- What the functions that the statement reaches compute: part 18. -/
import Derived.Test.YtddifejdkiemgaaFxW17
namespace Go.Fx.YtddifejdkiemgaaFx
open Go Go.Fx
attribute [local irreducible] aC runI dg ep

set_option maxRecDepth 100000
set_option maxHeartbeats 8000000

/-- Those that were served. -/
def srvd (l:List Gt):List Int:=(l.filter fun x=>x.2 = 0).map fun x=>x.1
theorem srvd_app (a b:List Gt):srvd (a++b) = srvd a++srvd b:=by simp [srvd]
theorem l6 (sz:Int):∀ (V:List Vt) (H:List Int),vtk V = srvd (df sz H V).2.2++vtk (df sz H V).2.1
  | [],H=>rfl
  | v :: V, H => by
    unfold df
    split
    · rfl
    · have:=l6 sz V (addH H v.1 v.2.1)
      simp only [srvd,List.filter_cons,decide_true,if_true,List.map_cons,List.cons_append] at this ⊢
      rw [← this]; rfl
theorem srvd_exp (d:Int) (V:List Vt):srvd (expD d V) = []:=by
  unfold srvd expD
  rw [List.map_eq_nil_iff,List.filter_eq_nil_iff]
  intro x hx
  obtain ⟨v,_,rfl⟩:=List.mem_map.1 hx
  simp
theorem vtk_sub {A B:List Vt} (h:A.Sublist B):(vtk A).Sublist (vtk B):=h.map _
theorem srvd_adv (sz to:Int):∀ (k:Nat) (H:List Int) (V:List Vt),(srvd (advV sz to k H V).2.2).Sublist (vtk V)
  | 0,H,V=>by simp [advV,srvd]
  | k + 1, H, V => by
    unfold advV
    split
    · simp [srvd]
    · simp only [srvd_app,srvd_exp,List.nil_append]
      have h1:=l6 sz (eC (dy V) V) H
      have h2:=srvd_adv sz to k (df sz H (eC (dy V) V)).1 (df sz H (eC (dy V) V)).2.1
      have h3:(vtk (eC (dy V) V)).Sublist (vtk V):=vtk_sub List.filter_sublist
      refine List.Sublist.trans ?_ h3
      rw [h1]
      exact List.Sublist.append (List.Sublist.refl _) h2
theorem srvd_pre (sz:Int) (H:List Int) (V:List Vt):(srvd (df sz H V).2.2).Sublist (vtk V):=by
  rw [l6 sz V H]; exact List.sublist_append_left _ _
theorem adv_len (sz to:Int) (hto:to < nev):∀ (k:Nat) (H:List Int) (V:List Vt),(advV sz to k H V).2.1.length + (advV sz to k H V).2.2.length = V.length
  | 0,H,V=>by simp [advV]
  | k + 1, H, V => by
    unfold advV
    split
    · simp
    · rename_i hc
      have h1:=jA sz (eC (dy V) V) H
      have h2:=adv_len sz to hto k (df sz H (eC (dy V) V)).1 (df sz H (eC (dy V) V)).2.1
      have h3:=(keepD_lt hto hc).1
      simp only [List.length_append]; omega

theorem grC_drop1 {l:List Gt} {r:List AV} {i:Nat} (hi:i < l.length):∃ r',(grC l++r).drop (i * 2 + 1) = .lit (.int .i64 l[i].2)::r':=by
  refine ⟨grC (l.drop (i + 1))++r,?_⟩
  rw [← List.drop_drop,ny hi]
  rfl

abbrev St5:=Int×Int×Int×Int
section
variable {st:St} {b q mid wid g:Nat} {sz nw:Int} {H:List Int} {V:List Vt}

theorem sub_gb {v:AV} {st s:St} {l:List Gt} (h:GB v st l) (hs:St.sub st s):GB v s l:=by
  rcases h with h | ⟨id,cap,r,rfl,h1,h2,h3⟩
  · exact .inl h
  · refine .inr ⟨id,cap,r,rfl,?_,h2,h3⟩
    have hb:st.boxes[id]? = some (some (.cells (grC l++r))):=by
      unfold St.get at h1
      split at h1
      · rename_i hb; cases h1; exact hb
      · cases h1
    unfold St.get
    rw [hs id _ hb]

/-- The scan for one task. -/
theorem holds_scan (st:St) (x0 x1:AV) (b:Nat) (i:Int) (before:List Int) (ib cap k:Nat) (gr:List Gt) (r:List AV) (hg:st.get ib = some (grC gr++r)) (hk:k < gr.length) (hlen:before.length≤1000) (hgl:gr.length≤1000) (a0:Nat) (hs0:∃ rest,(gr[k].1::rest).Sublist (before.drop a0))
    (K:Exit→Sf→St→Prop) (hK:∀ a1,(∀ rest,(gr[k].1::rest).Sublist (before.drop a0)→rest.Sublist (before.drop a1))→a1 < before.length→K (.exit 7) ⟨[(0,x0),(1,x1),(5,.ptr b 0),(7,.lit (.int .i64 i)),(8,.sl false 1 (ints before)),(10,.bs ib 2 0 gr.length cap),(13,.lit (.int .i64 (a1:Nat))),(14,.lit (.int .i64 (k:Nat)))],[]⟩ st) :
    aC Go.Proofs.Try.prog id false f10_94 ⟨[(0,x0),(1,x1),(5,.ptr b 0),(7,.lit (.int .i64 i)),(8,.sl false 1 (ints before)),(10,.bs ib 2 0 gr.length cap),(13,.lit (.int .i64 (a0:Nat))),(14,.lit (.int .i64 (k:Nat))),(168,.lit (.bool false))],[]⟩ st K:=by
  rw [f10_94w]
  refine im (A:=Nat) (fun a=>before.length - a) (fun a=>⟨[(0,x0),(1,x1),(5,.ptr b 0),(7,.lit (.int .i64 i)),(8,.sl false 1 (ints before)),(10,.bs ib 2 0 gr.length cap),(13,.lit (.int .i64 (a:Nat))),(14,.lit (.int .i64 (k:Nat)))],[]⟩) (fun _=>st)
    (fun a=>a≤before.length∧(∃ rest,(gr[k].1::rest).Sublist (before.drop a))∧∀ rest,(gr[k].1::rest).Sublist (before.drop a0)→(gr[k].1::rest).Sublist (before.drop a)) a0 ⟨by
      obtain ⟨rest,h⟩:=hs0
      have:=h.length_le
      simp only [List.length_cons,List.length_drop] at this; omega,hs0,fun _ h=>h⟩ (Sf.le_refl _) rfl ?_
  rintro a ⟨h1,⟨rest,h2⟩,h3⟩ K' hK1 hKe hKr
  have hal:a < before.length:=by
    have:=h2.length_le
    simp only [List.length_cons,List.length_drop] at this; omega
  have hll:=eZ before
  have e1:(ints before).getD a .any = .lit (.int .i64 before[a]):=by simp [ints,List.getD,hal]
  have d1:=ny (r:=r) hk
  have hdr:before.drop a = before[a]::before.drop (a + 1):=List.drop_eq_getElem_cons hal
  by_cases he:before[a] = gr[k].1
  · have hf:=hK a (fun rest hr=>by
      have:=h3 rest hr
      exact (List.sublist_cons_self _ _).trans this) hal
    rw [he] at e1
    simp (config:=KF) (disch:=omega) only [bZ,fp,ek,h_some,fq,lc,e7,iK,dU,qb,ia,dz,dA,en,fP,aS,AI.dst,dY,c8,ea,ixSV,bK,ixA,lenI,addA,a8,eE,dx,cE,putS,Sf.set,Sf.reg,getR,setR,aD,dn,di,d4,cN,Int.toNat_natCast,↓reduceIte,Nat.reduceEqDiff,reduceCtorEq,Nat.zero_add,Nat.add_zero,not_true_eq_false,decide_false,dC,jv,dI,f10_95e,f10_96e,f10_97e,f10_97h,f10_97l,f10_98e,e1,hll,hg,d1]
    refine hKe _ _ _ ?_
    exact hf
  · have hnx:=hK1 (a + 1) ⟨[(0,x0),(1,x1),(5,.ptr b 0),(7,.lit (.int .i64 i)),(8,.sl false 1 (ints before)),(10,.bs ib 2 0 gr.length cap),(13,.lit (.int .i64 ((a:Int) + 1))),(14,.lit (.int .i64 (k:Nat)))],[]⟩ ⟨by omega,⟨rest,by
      rw [hdr] at h2
      exact (List.sublist_cons_iff.1 h2).resolve_right fun ⟨r',e,_⟩=>he (List.cons.inj e).1.symm⟩,fun rest hr=>by
      have:=h3 rest hr
      rw [hdr] at this
      exact (List.sublist_cons_iff.1 this).resolve_right fun ⟨r',e,_⟩=>he (List.cons.inj e).1.symm⟩ (by omega) (Sf.le_refl _)
    simp (config:=KF) (disch:=omega) only [bZ,fp,ek,h_some,fq,lc,e7,iK,dU,qb,ia,dz,dA,bG,aS,AI.dst,dY,c8,bH,ea,ixSV,bK,ixA,lenI,addA,a8,gC,eE,dx,cE,putS,Sf.set,Sf.reg,getR,setR,aD,Sf.disAt,dn,di,d4,cN,Int.toNat_natCast,↓reduceIte,Nat.reduceEqDiff,reduceCtorEq,Nat.zero_add,Nat.add_zero,dC,cU,jv,IntWalk.i64_in,fk,dI,f10_95e,f10_96e,f10_97e,f10_97h,f10_97l,f10_98e,f10_99e,f10_100e,f10_100l,e1,hll,hg,d1]
    exact hnx
end
end Go.Fx.YtddifejdkiemgaaFx


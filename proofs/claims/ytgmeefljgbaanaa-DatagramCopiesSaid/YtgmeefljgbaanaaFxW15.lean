/- What the functions that the statement reaches compute: part 15. -/
import Derived.Test.YtgmeefljgbaanaaFxW14
namespace Go.Fx.YtgmeefljgbaanaaFx
open Go Go.Fx
attribute [local irreducible] aC runI aG aH

set_option maxRecDepth 100000
set_option maxHeartbeats 4000000

theorem qK{R:NR}(hw:R.ws.length≤1000)(n:Int)(st:St):az Go.Proofs.Try.prog n_f42 [rnV R,.lit (.int .i64 n)] st (.lit (.int .i64 (ii n R.ws:Nat))):=by
 obtain⟨s1,s2,s3,s4,s5,s6,s7,s8⟩:=aB R.socks
 obtain⟨w1,w2,w3,w4,w5,w6,w7,w8⟩:=aE R.ws
 refine al hmix k_f42 rfl rfl fun Q hQ=>?_
 unfold aFun c_f42
 unfold rnV
 simp(config:=KF) (disch:=omega)only[bZ,↓reduceIte,Nat.reduceEqDiff,Nat.reduceAdd,reduceCtorEq,s2,s4,w2,w4]
 rw[f42_9w]
 refine bB (A:=Nat) (fun i=>R.ws.length-i) (fun i=>⟨[(1,.lit (.int .i64 n)),(2,.lptr 2 0),(5,.lit (.int .i64 (ii n (R.ws.take i):Nat))),(6,.lit (.int .i64 (i:Nat)))],[(2,[.lit (.int .u64 (R.now:Nat)),ssV R.socks,wsV R.ws])]⟩) (fun _=>st)
  (fun i=>i≤R.ws.length) 0 (Nat.zero_le _) (Sf.le_refl _) rfl ?_
 rintro i i1 K hK hKe hKr
 by_cases h3:i<R.ws.length
 ·have hg:=kJ h3
  have hsv:wsV R.ws= .sl false 3 (R.ws.map wtV):=by unfold wsV;rw[if_neg (fun e=>by rw[e]at h3;simp at h3)]
  have hll:(R.ws.map wtV).length=R.ws.length:=List.length_map ..
  have hn:=hK (i+1)
  have htk:ii n (R.ws.take (i+1))=ii n (R.ws.take i)+if(R.ws[i].sock:Int)=n then 1 else 0:=by
   rw[List.take_succ_eq_append_getElem h3]
   unfold ii
   rw[List.filter_append,List.length_append]
   by_cases hc:(R.ws[i].sock:Int)=n<;>simp[hc]
  have hle:ii n (R.ws.take i)≤i:=by
   unfold ii
   refine Nat.le_trans (List.length_filter_le _ _) ?_
   rw[List.length_take];omega
  rw[htk]at hn
  generalize ii n (R.ws.take i)=c at hn hle
  rw[hsv]at hn w1 w2 w3 w4 w5 w6 w7 ⊢
  by_cases h4:(R.ws[i].sock:Int)=n
  ·rw[if_pos h4]at hn
   simp(config:=KF) (disch:=omega)only[bZ,ixSV,lenI,addA,aa,↓reduceIte,Nat.reduceEqDiff,w1,hg,hll]
   exact hn _ h3 (by omega) (Sf.le_refl _)
  ·rw[if_neg h4]at hn
   simp(config:=KF) (disch:=omega)only[bZ,ixSV,lenI,addA,aa,↓reduceIte,Nat.reduceEqDiff,w1,hg,hll]
   exact hn _ h3 (by omega) (Sf.le_refl _)
 ·obtain rfl:i=R.ws.length:=by omega
  rw[List.take_length]
  simp(config:=KF) (disch:=omega)only[bZ,addA,aa,↓reduceIte,Nat.reduceEqDiff,w1,w8]
  refine hKe _ _ _ ?_
  simp(config:=KF) (disch:=omega)only[bZ,retI,↓reduceIte,Nat.reduceEqDiff]
  exact hQ _

def rcV(r:Rc):AV:=rcAV r.task r.nm r.port (pdV r.data) r.at_ r.cut r.err
theorem lF(t:Int)(p:Pk)(most:Int)(h0:0≤most)(hp:p.data.length≤100000)(st:St):az Go.Proofs.Try.prog n_f76 [.lit (.int .i64 t),pV p,.lit (.int .i64 most)] st (rcV (cutR t p most)):=by
 obtain⟨d1,d2,d3,d4,d5,d6,d7,d8⟩:=bT p.data
 refine al hmix k_f76 rfl rfl fun Q hQ=>?_
 unfold aFun c_f76
 unfold pV
 unfold rcV cutR rcAV at hQ
 simp only at hQ
 by_cases hd:p.data= []
 ·have hl:p.data.length=0:=by rw[hd];rfl
  have hc:cutN most p.data=0:=by unfold cutN;rw[if_neg (by omega),hl]
  have hnm:¬(most<(p.data.length:Int)):=by omega
  have hpd:pdV p.data= .lit (.slice none 0 0):=if_pos hd
  rw[hc,List.take_zero,decide_eq_false hnm]at hQ
  have hp0:pdV []= .lit (.slice none 0 0):=rfl
  rw[hp0]at hQ
  rw[hpd]
  by_cases hm:most=0
  ·subst hm
   simp(config:=KF) (disch:=omega)only[bZ,retI,iI,o_mn,nu,cu,af,ixTo,lenI,addA,aa,bd,srcA,dZ,↓reduceIte,Nat.reduceEqDiff,Nat.reduceAdd,Nat.reduceLeDiff,Int.reduceLT,Int.reduceLE,reduceCtorEq]
   exact hQ _
  ·simp(config:=KF) (disch:=omega)only[bZ,retI,iI,o_mn,nu,cu,af,ixTo,lenI,addA,aa,bd,srcA,dZ,↓reduceIte,Nat.reduceEqDiff,Nat.reduceAdd,Nat.reduceLeDiff,Int.reduceLE,reduceCtorEq,if_pos]
   rw[decide_eq_false (show ¬most<0 by omega)]
   exact hQ _
 ·have hpd:pdV p.data= .sl false 1 (BB p.data):=if_neg hd
  have hbl:=bq p.data
  rw[hpd]
  by_cases hm:most<(p.data.length:Int)
  ·have hc:cutN most p.data=most.toNat:=if_pos hm
   obtain⟨k,rfl⟩:∃k:Nat,most=(k:Int):=⟨most.toNat,by omega⟩
   rw[hc,Int.toNat_natCast,decide_eq_true hm]at hQ
   by_cases hk:k=0
   ·subst hk
    rw[List.take_zero]at hQ
    have hp0:pdV []= .lit (.slice none 0 0):=rfl
    rw[hp0]at hQ
    simp(config:=KF) (disch:=omega)only[bZ,retI,iI,o_mn,nu,cu,af,ixTo,lenI,addA,aa,bd,srcA,dZ,↓reduceIte,Nat.reduceEqDiff,Nat.reduceAdd,Nat.reduceLeDiff,Int.reduceLE,reduceCtorEq,fp,jb,BB_nil,if_neg,hbl]
    rw[decide_eq_true (show(0:Int)<(p.data.length:Nat) by omega)]
    exact hQ _
   ·have hne:p.data.take k≠[]:=fun e=>by
     have:=congrArg List.length e
     rw[List.length_take,List.length_nil]at this
     omega
    have hpk:pdV (p.data.take k)= .sl false 1 (BB (p.data.take k)):=if_neg hne
    have hie:(BB (p.data.take k)).isEmpty=false:=by
     cases hx:p.data.take k with
     |nil=>exact absurd hx hne
     |cons=>rfl
    have hbt:=fp p.data k
    have hrm:eZ (p.data.take k).length 1=true:=bg (by rw[List.length_take];omega)
    rw[hpk]at hQ
    simp(config:=KF) (disch:=omega)only[bZ,retI,iI,o_mn,nu,cu,af,ixTo,lenI,addA,aa,bd,srcA,dZ,bu,↓reduceIte,Nat.reduceEqDiff,Nat.reduceAdd,Nat.reduceLeDiff,reduceCtorEq,bq,fp,jb,nP,if_neg,hbl,hie,hrm]
    rw[decide_eq_true hm]
    exact hQ _
  ·have hc:cutN most p.data=p.data.length:=if_neg hm
   rw[hc,List.take_length,hpd,decide_eq_false hm]at hQ
   have hie:(BB p.data).isEmpty=false:=by
    cases hx:p.data with
    |nil=>exact absurd hx hd
    |cons=>rfl
   have htl:(BB p.data).take p.data.length=BB p.data:=by rw[←hbl,List.take_length]
   have hmin:(if(p.data.length:Int)<most then(p.data.length:Int)else most)=(p.data.length:Nat):=by split<;>omega
   have hrm:eZ p.data.length 1=true:=bg (by omega)
   simp(config:=KF) (disch:=omega)only[bZ,retI,iI,o_mn,nu,cu,af,ixTo,lenI,addA,aa,bd,srcA,dZ,bu,↓reduceIte,Nat.reduceEqDiff,Nat.reduceAdd,Nat.reduceLeDiff,reduceCtorEq,List.take_length,fp,jb,nP,bg,hbl,hie,hmin]
   rw[decide_eq_false hm]
   exact hQ _

theorem rused_pure(S:Sk)(hq:S.q.length≤1000)(hu:used S.q≤1000000)(st:St):az Go.Proofs.Try.prog n_f86 [skV S] st (.lit (.int .i64 (used S.q:Nat))):=by
 refine al hmix k_f86 rfl rfl fun Q hQ=>?_
 unfold aFun c_f86
 unfold skV
 simp(config:=KF) (disch:=omega)only[bZ,↓reduceIte,Nat.reduceEqDiff,Nat.reduceAdd,reduceCtorEq]
 rw[f86_9w]
 have hut:∀i,used (S.q.take i)+used (S.q.drop i)=used S.q:=fun i=>by
  rw[←iQ,List.take_append_drop]
 refine bB (A:=Nat) (fun i=>S.q.length-i) (fun i=>⟨[(1,.lptr 1 0),(3,.lit (.int .i64 (used (S.q.take i):Nat))),(4,.lit (.int .i64 (i:Nat)))],[(1,[.lit (.int .i64 (S.num:Nat)),.lit (.string S.nm),.lit (.int .i64 S.port),.lit (.int .i64 (S.pks:Nat)),.lit (.int .i64 (S.byt:Nat)),.lit (.int .i64 S.pol),.lit (.int .u64 (S.life:Nat)),.sl false 4 (S.q.map pV),.lit (.int .i64 (S.dr:Nat)),.lit (.int .i64 (S.old:Nat))])]⟩) (fun _=>st)
  (fun i=>i≤S.q.length) 0 (Nat.zero_le _) (Sf.le_refl _) rfl ?_
 rintro i i1 K hK hKe hKr
 by_cases h3:i<S.q.length
 ·have hg:=pk_getD h3
  obtain⟨d1,d2,d3,d4,d5,d6,d7,d8⟩:=bT S.q[i].data
  have hn:=hK (i+1)
  have htk:used (S.q.take (i+1))=used (S.q.take i)+S.q[i].data.length:=by
   rw[List.take_succ_eq_append_getElem h3,iQ];rfl
  have hle:=hut (i+1)
  rw[htk]at hn hle
  generalize used (S.q.take i)=c at hn hle
  have hll:(S.q.map pV).length=S.q.length:=List.length_map ..
  simp(config:=KF) (disch:=omega)only[bZ,ew,ixSV,addA,aa,↓reduceIte,Nat.reduceEqDiff,jN,hg,hll,d1,d8]
  exact hn _ h3 (by omega) (Sf.le_refl _)
 ·obtain rfl:i=S.q.length:=by omega
  rw[List.take_length]
  simp(config:=KF) (disch:=omega)only[bZ,lenI,addA,aa,↓reduceIte,Nat.reduceEqDiff]
  refine hKe _ _ _ ?_
  simp(config:=KF) (disch:=omega)only[bZ,retI,↓reduceIte,Nat.reduceEqDiff]
  exact hQ _
end Go.Fx.YtgmeefljgbaanaaFx

namespace Go.Fx.YtgmeefljgbaanaaFx
open Go Go.Fx
attribute [local irreducible] aC runI aG aH

set_option maxRecDepth 100000
set_option maxHeartbeats 4000000

theorem qL(l:List Wt):(l.map wtV).map AV.dis=l.map wtV:=by rw[List.map_map];exact List.map_congr_left fun _ _=>rfl
theorem pkV_dis(l:List Pk):(l.map pV).map AV.dis=l.map pV:=by
 rw[List.map_map]
 refine List.map_congr_left fun p _=>?_
 obtain⟨d1,d2,d3,d4,d5,d6,d7,d8⟩:=bT p.data
 show(pV p).dis=pV p
 unfold pV
 rw[am]
 simp[ai,d2]
theorem kM(l:List Sk):(l.map skV).map AV.dis=l.map skV:=by rw[List.map_map];exact List.map_congr_left fun _ _=>rfl
theorem jS{R:NR}(hw:R.ws.length≤1000){i:Nat}(hi:i<R.ws.length)(st:St):az Go.Proofs.Try.prog n_f77 [rnV R,.lit (.int .i64 (i:Nat))] st (rnV {R with ws:=R.ws.eraseIdx i}):=by
 obtain⟨s1,s2,s3,s4,s5,s6,s7,s8⟩:=aB R.socks
 refine al hmix k_f77 rfl rfl fun Q hQ=>?_
 unfold aFun c_f77
 unfold rnV at hQ ⊢
 simp only at hQ
 have hsv:wsV R.ws= .sl false 3 (R.ws.map wtV):=by unfold wsV;rw[if_neg (fun e=>by rw[e]at hi;simp at hi)]
 have hll:(R.ws.map wtV).length=R.ws.length:=List.length_map ..
 have hd1:=qL (R.ws.take i)
 have hd2:=qL (R.ws.drop (i+1))
 rw[List.map_take]at hd1
 rw[List.map_drop]at hd2
 have he:R.ws.eraseIdx i=R.ws.take i++R.ws.drop (i+1):=List.eraseIdx_eq_take_drop_succ ..
 rw[hsv]
 by_cases h1:R.ws.take i= []
 ·have h1':(R.ws.map wtV).take i= []:=by rw[←List.map_take,h1];rfl
  by_cases h2:R.ws.drop (i+1)= []
  ·have h2':(R.ws.map wtV).drop (i+1)= []:=by rw[←List.map_drop,h2];rfl
   rw[he,h1,h2]at hQ
   simp(config:=KF) (disch:=omega)only[bZ,gf,gq,retI,ci,cu,cX,af,ixTo,addA,aa,bd,srcA,↓reduceIte,Nat.reduceEqDiff,Nat.reduceAdd,Nat.reduceLeDiff,reduceCtorEq,bF,s2,s4,hll,h1',h2']
   exact hQ _
  ·have h2':((R.ws.map wtV).drop (i+1)).isEmpty=false:=by
    rw[←List.map_drop]
    cases hx:R.ws.drop (i+1)with
    |nil=>exact absurd hx h2
    |cons=>rfl
   have hfin:wsV (R.ws.eraseIdx i)= .sl false 3 ((R.ws.map wtV).drop (i+1)):=by
    rw[he,h1,List.nil_append];unfold wsV;rw[if_neg h2,List.map_drop]
   rw[hfin]at hQ
   have hlen:((R.ws.map wtV).drop (i+1)).length≤1000:=by rw[List.length_drop];omega
   simp(config:=KF) (disch:=omega)only[bZ,gf,gq,retI,ci,cu,cX,af,ixTo,addA,aa,bd,srcA,bu,↓reduceIte,Nat.reduceEqDiff,Nat.reduceAdd,Nat.reduceLeDiff,reduceCtorEq,bF,bg,s2,s4,hll,h1',h2',hd2]
   exact hQ _
 ·have h1':((R.ws.map wtV).take i).isEmpty=false:=by
   rw[←List.map_take]
   cases hx:R.ws.take i with
   |nil=>exact absurd hx h1
   |cons=>rfl
  have hfin:wsV (R.ws.eraseIdx i)= .sl false 3 ((R.ws.map wtV).take i++(R.ws.map wtV).drop (i+1)):=by
   rw[he];unfold wsV;rw[if_neg (by simp[h1]),List.map_append,List.map_take,List.map_drop]
  rw[hfin]at hQ
  have hlen1:((R.ws.map wtV).take i).length≤1000:=by rw[List.length_take];omega
  have hlen:((R.ws.map wtV).drop (i+1)).length≤1000:=by rw[List.length_drop];omega
  simp(config:=KF) (disch:=omega)only[bZ,gf,gq,retI,ci,cu,cX,af,ixTo,addA,aa,bd,ce,srcA,bu,↓reduceIte,Nat.reduceEqDiff,Nat.reduceAdd,Nat.reduceLeDiff,reduceCtorEq,bF,bg,cZ,s2,s4,hll,h1',hd1,hd2]
  exact hQ _
end Go.Fx.YtgmeefljgbaanaaFx


/- What the functions that the statement reaches compute: part 39. -/
import Derived.Test.YtbomoaajkinfpaaFxW38
namespace Go.Fx.YtbomoaajkinfpaaFx
open Go Go.Fx
attribute [local irreducible] aC runI aB aE

set_option maxRecDepth 100000
set_option maxHeartbeats 4000000

theorem RefM.get {cv:AV} {st:St} {ch:List Ch3} {bs:List AV} (h:RefM cv st ch bs) {i:Nat} (hi:i < ch.length):∃ bi cap cs b,cv = .bs bi 3 0 ch.length cap∧st.get bi = some cs∧cs.drop (i * 3) = .lit (.int .i64 (ch[i].1:Nat))::b::.lit (.bool ch[i].2.2)::cs.drop ((i + 1) * 3)∧bs[i]? = some b∧MB b st (ints ch[i].2.1)∧(i + 1) * 3≤cs.length:=by
  obtain ⟨h1,h2,h3,h4⟩:=h
  rcases h2 with ⟨_,_,e⟩ | ⟨bi,cap,r,rfl,hg,q1,q2,q3⟩
  · omega
  · have hb:bs[i]? = some (bs.getD i .any):=by rw [List.getD_eq_getElem?_getD,List.getElem?_eq_getElem (by omega)]; rfl
    refine ⟨bi,cap,_,bs.getD i .any,rfl,hg,nG h1 hi r,hb,h3 i _ _ hb (List.getElem?_eq_getElem hi),?_⟩
    rw [List.length_append,q1]; omega

def pr (o:Option (Nat×Nat)) (ws:List Wt):List Wt:=match o with | some p=>ws.eraseIdx p.1 | none=>ws

section
variable {cn:AV} {s2:St} {ch:List Ch3} {bs:List AV} {ws:List Wt}
theorem nI (hm:RefM cn s2 ch bs) {i:Nat} (hi:i < ch.length) {v0:Int} {rest:List Int} (hbuf:ch[i].2.1 = v0::rest) (hlen:rest.length < 50000) (hwl:ws.length < 100000) {bi cap:Nat} (hcn:cn = .bs bi 3 0 ch.length cap) {o:Option (Nat×Nat)} (ho:∀ a k,o = some (a,k)→a < ws.length) {t j:Int} {ev ev':AV} (e0:ev.dis = ev') (e1:ev'.dis = ev') (e2:ev'.own1 = ev') (e4:ev.noL = true) (e5:ev'.noL = true) (e6:ev'.cells = [ev']) (e7:∀ s,kill s ev = ev) (e8:∀ s,kill s ev' = ev') {K:Exit→Sf→St→Prop}
    (hK:∀ F' st',RefC cn st' (ch.set i (ch[i].1,rest,ch[i].2.2)) F'→Kp s2 st' (ae cn++bs.flatMap ae)→(∀ x ∈ F',x ∈ ae cn++bs.flatMap ae) →
      K .ret ⟨[(8,.lptr 8 0),(9,.lptr 9 0),(10,ev')],[(8,[cn,wtS (pr o ws)]),(9,[.lit (.int .i64 t),.lit (.int .i64 j),.lit (.int .i64 v0),.lit (.int .i64 0)])]⟩ st') :
    aC Go.Proofs.Try.prog id false f78_54 ⟨[(4,.lptr 4 0),(8,.lptr 8 0),(9,.lptr 9 0),(11,.ptr bi (i * 3)),(12,.lptr 12 0),(13,.lit (.int .i64 (cd o).1)),(16,ev),(110,.lit (.bool false))],[(4,[cn,wtS ws]),(8,[.lit (.slice none 0 0),.lit (.slice none 0 0)]),(9,[.lit (.int .i64 0),.lit (.int .i64 0),.lit (.int .i64 0),.lit (.int .i64 0)]),(12,[.lit (.int .i64 t),.lit (.int .i64 j),.lit (.int .i64 0),.lit (.int .i64 0)])]⟩ s2 K:=by
  have hisc:=hm.ref.isCh
  obtain ⟨c1,c2,c3,c4,c5,c6,c7⟩:=hisc
  obtain ⟨w1,w2,w3,w4,w5,w6,w7,w8⟩:=aw ws
  obtain ⟨bi',cap',cs,b,hcn',hg,hd,hb,hmb,hle⟩:=hm.get hi
  rw [hcn] at hcn'
  cases hcn'
  have hd1:cs.drop (i * 3 + 1) = b::.lit (.bool ch[i].2.2)::cs.drop ((i + 1) * 3):=by rw [← List.drop_drop,hd]; rfl
  have hx1:cs[i * 3 + 1]? = some b:=by
    have:=congrArg (fun l:List AV=>l[0]?) hd1
    simpa [List.getElem?_drop] using this
  have hput:=fun (b1:AV) (h1:∀ x ∈ ae b1,x ∈ ae b∨s2.boxes.length≤x)=>hm.put (st1:=s2) (buf1:=rest) (b1:=b1) hi hcn hg hb (Kp.refl _ _) h1
  rw [hbuf] at hmb
  rcases hmb with ⟨_,e⟩ | ⟨vi,vcap,vr,rfl,hvg,q1,q2⟩
  · simp [ints] at e
  rw [ak,List.length_cons] at *
  have hvd:ints (v0::rest)++vr = .lit (.int .i64 v0)::(ints rest++vr):=rfl
  rw [hvd] at hvg
  have hfin:∀ b1,(∀ x ∈ ae b1,x ∈ ae (.bs vi 1 0 (rest.length + 1) vcap)∨s2.boxes.length≤x)→CJ b1 s2 rest→(∀ x ∈ ae b1,x < s2.boxes.length) →
      K .ret ⟨[(8,.lptr 8 0),(9,.lptr 9 0),(10,ev')],[(8,[cn,wtS (pr o ws)]),(9,[.lit (.int .i64 t),.lit (.int .i64 j),.lit (.int .i64 v0),.lit (.int .i64 0)])]⟩ (s2.set bi (cs.set (i * 3 + 1) b1)):=fun b1 h1 h2 h3=>by
    obtain ⟨p1,p2,_,p3⟩:=hput b1 h1
    obtain ⟨F',f1,f2⟩:=p3 h2
    exact hK F' _ f1 p2 fun x hx=>(f2 x hx).elim _root_.id fun q=>by have:=h3 x q.2; omega
  obtain ⟨r1,r2⟩:=cD hm.ref.isCh ws
  have hend:∀ b1,(∀ x ∈ ae b1,x ∈ ae (.bs vi 1 0 (rest.length + 1) vcap)∨s2.boxes.length≤x)→CJ b1 s2 rest→(∀ x ∈ ae b1,x < s2.boxes.length) →
      aC Go.Proofs.Try.prog id false f78_58 ⟨[(4,.lptr 4 0),(8,.lptr 8 0),(9,.lptr 9 0),(12,.lptr 12 0),(13,.lit (.int .i64 (cd o).1)),(16,ev)],[(4,[cn,wtS ws]),(8,[.lit (.slice none 0 0),.lit (.slice none 0 0)]),(9,[.lit (.int .i64 0),.lit (.int .i64 0),.lit (.int .i64 0),.lit (.int .i64 0)]),(12,[.lit (.int .i64 t),.lit (.int .i64 j),.lit (.int .i64 v0),.lit (.int .i64 0)])]⟩ (s2.set bi (cs.set (i * 3 + 1) b1)) K:=fun b1 h1 h2 h3=>by
    have hf:=hfin b1 h1 h2 h3
    cases o with
    | none =>
      simp only [pr] at hf
      simp (config:=KF) (disch:=omega) only [bZ,Nat.reduceBEq,ksB,aG,aV,aZ,aF,bV,bC,nstB,a9,eD,cG,ck,dK,dl,ag,aa,cF,List.nil_append,↓reduceIte,Nat.reduceEqDiff,Nat.reduceAdd,Nat.reduceLeDiff,Int.reduceNeg,or_false,f78_58e,cd,c2,c4,w2,w4,e0,e1]
      exact hf
    | some p =>
      obtain ⟨a,k⟩:=p
      have ha:=ho a k rfl
      have hdr:=gS hm.ref.isCh hwl ha (s2.set bi (cs.set (i * 3 + 1) b1))
      simp only [rfA] at hdr
      simp only [pr] at hf
      obtain ⟨x1,x2,x3,x4,x5,x6,x7,x8⟩:=aw (ws.eraseIdx a)
      simp (config:=KF) (disch:=omega) only [bZ,aa,cF,id,↓reduceIte,Nat.reduceEqDiff,Nat.reduceAdd,Nat.reduceLeDiff,f78_58e,cd,c2,w2]
      refine aj (by simp only [List.map_cons,List.map_nil,r1]; rfl) e_f79 hdr (by simp only [List.all_cons,List.all_nil,r2]; rfl) ?_
      simp (config:=KF) (disch:=omega) only [bZ,Nat.reduceBEq,ksB,aG,aV,aZ,aF,bV,bC,nstB,a9,eD,cG,ck,dK,dl,ag,aa,List.nil_append,↓reduceIte,Nat.reduceEqDiff,Nat.reduceAdd,Nat.reduceLeDiff,or_false,c2,c4,x2,x4,e0,e1]
      exact hf
  simp (config:=KF) (disch:=omega) only [bZ,fd,o_sliOwn,ixSV,ai,gY,eC,lW,ag,sliB,sl3,ixTo,addA,aa,d8,↓reduceIte,Nat.reduceEqDiff,Nat.reduceAdd,Nat.reduceLeDiff,Int.reduceLE,if_pos,j5,f78_54e,hg,hd1,hx1,hvg]
  have hcl:i * 3 + 1 < cs.length:=by omega
  by_cases h1:vcap = 1
  · have hr0:rest = []:=List.eq_nil_of_length_eq_zero (by omega)
    simp (config:=KF) (disch:=omega) only [bZ,ai,ag,addA,d8,↓reduceIte,Nat.reduceEqDiff,h1,hg]
    exact hend (.sl true 1 []) (fun x hx=>by simp [ae] at hx) (.inr ⟨rfl,hr0⟩) (fun x hx=>by simp [ae] at hx)
  · simp (config:=KF) (disch:=omega) only [bZ,ai,ag,addA,cells_bs,solid1_bs,↓reduceIte,Nat.reduceEqDiff,h1,hg]
    refine hend _ (fun x hx=>.inl (by simpa [ae] using hx)) (.inl (.inr ⟨vi,1,vcap - 1,[.lit (.int .i64 v0)],vr,by rw [Nat.add_sub_cancel],hvg,rfl⟩)) (fun x hx=>?_)
    simp only [ae,List.mem_singleton] at hx
    subst hx
    exact bj hvg
end
end Go.Fx.YtbomoaajkinfpaaFx


/- An evaluator for resolved code, proved against the model: part 4. -/
import Derived.Test.YtbomoaajkinfpaaFxC
import Derived.KernelRfl
import Derived.RangeFuncRecord
import Derived.RangeFuncIn
import Derived.Deep.LoopGhost
import Derived.Scope
import Derived.ProofKit
/- Rarer instructions, proved: all together. -/
namespace Go.Fx
open Go Go.RowKit Go.Lib
section
variable {P:Program} {gOf:FuncId→Option Nat} {F:Nat→FuncId} {n:Nat} {m:Bool} {E:Ent} {g g':Gh} {w w':World} {sf:Sf} {st st':St} {a:Act} {fr:Fr}
theorem ext_clone {fn : Func} (h1 : fn.name = "maps.clone") (h2 : fn.origin = "") : Extern.findNext fn = none ∧ Extern.find fn = some Extern.MapsClone.clone := by
  constructor
  · unfold Extern.findNext
    rw [h1,h2]
    rfl
  · unfold Extern.find
    rw [h1,h2]
    rfl
theorem exec_ext {o : Oper} {f : FuncId} {args : Array Operand} {ts : Array TypeId} {fn : Func} {ex : Array Value → Sem Value} (ho : o.op = .call ⟨.value (.func f), args, ts⟩) (hf : P.funcs[f]? = some fn) (hb : fn.body.isNone = true) (hname : (fn.name == "runtime.NumGoroutine") = false)
    (hn:Extern.findNext fn = none) (he:Extern.find fn = some ex) {u:Value} {w':World} (hr:(ex (args.map a.eval)).run P w = .ok u w'):(execOp a.eval o).run P w = .ok (.value u) w':=by
  have h:=run_callFunc_extern hf hname hb hn he (args.map a.eval) w
  rw [hr] at h
  simp only [Result.andThen] at h
  have hev:a.eval (.func f) = .func (.func f) #[] #[]:=rfl
  simp only [execOp,ho,resolve,hev,Deferred.ofValue,invoke,Sem.run_bind,Sem.run_pure,Result.andThen_ok]
  simpa using h
theorem extK_clone {f : FuncId} (h : extK P f = some .mclone) : ∃ fn, P.funcs[f]? = some fn ∧ fn.body.isNone = true ∧ fn.name = "maps.clone" ∧ fn.origin = "" := by
  unfold extK at h
  cases hf:P.funcs[f]? with
  | none=>simp [hf] at h
  | some fn =>
    simp only [hf] at h
    by_cases hc : fn.body.isNone = true ∧ fn.name = "maps.clone" ∧ fn.origin = ""
    · exact ⟨fn,rfl,hc⟩
    · rw [if_neg hc] at h
      split at h <;> simp at h
theorem mclone_x {o:Oper} {f:FuncId} {x:Operand} {ts:Array TypeId} (ho:o.op = .call ⟨.value (.func f),#[x],ts⟩) (hx:extK P f = some .mclone) (h:Ok m E g w fr st a) {C:AV→St→Prop}
    (hK:iV m (fr.ev x) C st):Ends P o m E w fr a C:=by
  obtain ⟨fn,hf,hb,hname,horig⟩:=extK_clone hx
  obtain ⟨h1,h2⟩:=ext_clone hname horig
  unfold iV at hK
  have hxr:=h.ev x
  split at hK
  case h_2=>exact hK.elim
  rename_i t id hxv
  obtain ⟨rfl,hK⟩:=hK
  rw [aJ] at hK
  obtain ⟨es,hes,hK⟩:=hK
  rw [hxv] at hxr
  have hxr:R g (.ifc t (.map id)) (a.eval x):=hxr
  generalize hux:a.eval x = ux at hxr
  cases hxr with
  | ifc _ _ u hm =>
    obtain ⟨b,us,clk,hb2,hu,hrow,hE,hclk,hB⟩:=gJ h (RS.of hm) hes
    subst hu
    have hok:=h.newMapB (dX w (.map us clk)) hE hB
    rw [show (st.getB id).2 = clk from hclk.symm] at hK
    refine ⟨_,_,hK,.iface t (.map (some w.heap.size)),_,_,exec_ext ho hf hb (by rw [hname]; rfl) h1 h2 (w':=w.alloc (.map us clk)) ?_,hok,RS.of (R.ifc _ _ _ (R.map _ _ (kH _ _ _))),fun s hs=>own_ifc⟩
    have h3:(getObj b).run P w = .ok (.map us clk) w:=by simp [getObj,Sem.run,hrow]
    have e:Extern.MapsClone.clone #[.iface t (.map (some b))] = (getObj b >>= fun o=>match o with
      | .map entries clock=>(newObj (.map entries clock) >>= fun n=>pure (.iface t (.map (some n))))
      | _ => stuck "maps.clone: a map expected") := rfl
    have hargs:Array.map a.eval #[x] = #[.iface t (.map (some b))]:=by simp [hux]
    rw [hargs,e]
    simp [h3]
theorem Ends.wp {o:Oper} {K:Sf→St→Prop} {K':Act→World→Prop} {Q':Exit→Act→World→Prop} (h:Ends P o m E w (sp n sf) a (putK K o.dst sf))
    (hk:∀ sf' st' g' w' u,Ok m E g' w' (sp n sf') st' (a.put o.dst u)→K sf' st'→K' (a.put o.dst u) w'):o.wp P a w K' Q':=by
  obtain ⟨v,st',hK,u,g',w',hrun,hok,hr,ho⟩:=h
  exact fin_x hk hrun hok hr ho hK
theorem args2 {args:Array Operand} {x y:Operand} (h:args.toList = [x,y]):args = #[x,y]:=by apply Array.ext'; simpa using h
theorem args1 {args:Array Operand} {x:Operand} (h:args.toList = [x]):args = #[x]:=by apply Array.ext'; simpa using h
theorem ts2 {args:Array TypeId} {x y:TypeId} (h:args.toList = [x,y]):args = #[x,y]:=by apply Array.ext'; simpa using h
theorem ts1 {args:Array TypeId} {x:TypeId} (h:args.toList = [x]):args = #[x]:=by apply Array.ext'; simpa using h
theorem x_sound {mu:Nat→Bool} {o:Oper} {xi:XI} (hc:compX P gOf F n mu o = some xi) (h:Ok m E g w (sp n sf) st a) {K:Sf→St→Prop} (hK:bb F m xi o.dst K sf st)
    {K':Act→World→Prop} {Q':Exit→Act→World→Prop} (hk:∀ sf' st' g' w' u,Ok m E g' w' (sp n sf') st' (a.put o.dst u)→K sf' st'→K' (a.put o.dst u) w'):o.wp P a w K' Q':=by
  obtain ⟨dst,op,ty,pos,after,gd⟩:=o
  unfold compX at hc
  simp only at hc hK hk
  split at hc
  -- eql
  · rename_i t x y yt
    split at hc
    · rename_i e x' y' hu hx hy
      cases hc
      simp only [bb,← ar hx sf,← ar hy sf] at hK
      exact (nil_x rfl (.inl rfl) hu h hK).wp hk
    · cases hc
  -- neq
  · rename_i t x y yt
    split at hc
    · rename_i e x' y' hu hx hy
      cases hc
      simp only [bb,← ar hx sf,← ar hy sf] at hK
      exact (nil_x rfl (.inr rfl) hu h hK).wp hk
    · cases hc
  -- append
  · rename_i args ts
    split at hc
    · rename_i sd x y t t2 hargs hts
      split at hc
      · rename_i hcond
        split at hc
        · rename_i k x' y' hak hx hy
          cases hc
          have ha:=args2 hargs
          have ht:=ts2 hts
          subst ha; subst ht
          simp only [bb] at hK
          obtain ⟨v,st',hC,u,g',w',hrun,hok,hr,h1,h2⟩:=app_x (P:=P) (o:=⟨some sd,.call ⟨.builtin .append,#[x,y],#[t,t2]⟩,ty,pos,after,gd⟩) rfl (k:=k.1) (bytes:=k.2) (by simpa using hak) (fun e hu=>by have:=hcond.2; unfold apzB at this; rw [hu] at this; exact this) h (ar hx sf) (ar hy sf) hK
          exact fin_x hk hrun hok (RS.of hr) (fun _ _=>fm h1 h2) hC
        · cases hc
      · cases hc
    · cases hc
  -- clear
  · rename_i args ts
    split at hc
    · rename_i x t hargs hts
      have ha:=args1 hargs
      have ht:=ts1 hts
      subst ha; subst ht
      split at hc
      · rename_i e x' hu hx
        split at hc
        · rename_i k z hk' hz
          split at hc
          · rename_i hcond
            cases hc
            simp only [bb,← ar hx sf] at hK
            exact (clr_x rfl hu hk' hz hcond.1 hcond.2 h hK).wp hk
          · cases hc
        · cases hc
      · cases hc
    · cases hc
  -- an empty literal
  · rename_i t len parts
    split at hc
    · rename_i sd e hd hu
      split at hc
      · rename_i i z hi hz
        split at hc
        · rename_i hcond
          obtain ⟨_,rfl,rfl,hzl,hi0⟩:=hcond
          cases hc
          simp only [bb] at hK
          exact (bsl0_x rfl hu hi hz hzl hi0 h hK).wp hk
        · cases hc
      · cases hc
    · cases hc
  -- what the model itself has
  · rename_i f args ts
    split at hc
    · rename_i x hext hargs
      obtain ⟨y,hy,rfl⟩:=map_some hc
      have ha:=args1 hargs
      subst ha
      simp only [bb,← ar hy sf] at hK
      exact (mclone_x rfl hext h hK).wp hk
    · cases hc
  -- range
  · rename_i t x
    split at hc
    · rename_i sd kt et x' hu hx
      cases hc
      simp only [bb,← ar hx sf] at hK
      exact (rng_x rfl rfl hu h hK).wp hk
    · cases hc
  -- next
  · rename_i s
    split at hc
    · rename_i hcond
      cases hc
      simp only [bb] at hK
      exact nxt_x rfl hcond.1 h hK hk
    · cases hc
  -- entry
  · rename_i s
    split at hc
    · rename_i hcond
      cases hc
      simp only [bb] at hK
      exact (ent_x rfl hcond h hK).wp hk
    · cases hc
  · cases hc
end
end Go.Fx
/- Weaker frames. -/
namespace Go.Fx
open Go Go.RowKit Go.Lib
def leR:List (Nat×AV)→List (Nat×AV)→Prop
  | [],[]=>True
  | (t,v)::r,(t',v')::r'=>t' = t∧AV.le v v'∧leR r r'
  | _,_=>False
def leLo:List (Nat×List AV)→List (Nat×List AV)→Prop
  | _,[]=>True
  | [],_::_=>False
  | (t,v)::r,(t',v')::r'=>(t' = t∧leL v v'∧leLo r r')∨(look t ((t',v')::r') = none∧leLo r ((t',v')::r'))
def Sf.le (sf sf':Sf):Prop:=leR sf.regs sf'.regs∧leLo sf.locs sf'.locs
theorem leR_refl:∀ l,leR l l
  | []=>trivial
  | (_,v)::r=>⟨rfl,.refl v,leR_refl r⟩
theorem na:∀ l,leLo l l
  | []=>trivial
  | (_,v)::r=>.inl ⟨rfl,leL_refl v,na r⟩
theorem Sf.le_refl (sf:Sf):Sf.le sf sf:=⟨leR_refl _,na _⟩
theorem leR_get:∀ {l k:List (Nat×AV)},leR l k→∀ t,AV.le (getR l t) (getR k t)
  | [],[],_,t=>.refl _
  | [],_::_,h,_=>h.elim
  | _::_,[],h,_=>h.elim
  | (s, v) :: r, (s', v') :: r', ⟨h1, h2, h3⟩, t => by
    subst h1
    simp only [getR]
    split
    · exact h2
    · exact leR_get h3 t
theorem jH:∀ {l k:List (Nat×List AV)},leLo l k→∀ (t:Nat) (cs':List AV),look t k = some cs'→∃ cs,look t l = some cs∧leL cs cs'
  | _,[],_,t,cs',h=>by simp [look] at h
  | [],_::_,h,_,_,_=>by simp [leLo] at h
  | (s, v) :: r, (s', v') :: r', h0, t, cs', h => by
    simp only [leLo] at h0
    rcases h0 with ⟨h1,h2,h3⟩ | ⟨h1,h2⟩
    · subst h1
      simp only [look] at h ⊢
      split at h
      · rename_i e
        cases h
        rw [if_pos e]
        exact ⟨v,rfl,h2⟩
      · rename_i e
        rw [if_neg e]
        exact jH h3 t cs' h
    · have hne:s≠t:=by
        rintro rfl
        rw [h1] at h
        cases h
      rw [look,if_neg (by simpa using hne)]
      exact jH h2 t cs' h
theorem Ok.weakS {m:Bool} {E:Ent} {g:Gh} {w:World} {n:Nat} {sf sf':Sf} {st:St} {a:Act} (h:Ok m E g w (sp n sf) st a) (hs:Sf.le sf sf'):Ok m E g w (sp n sf') st a:=by
  refine ⟨by rw [h.size,fP,fP],fun s v u hv hu=>?_,⟨h.ctx.good,fun s cs' hc=>?_,h.ctx.box⟩,h.defers,h.mv,h.pst,h.hN,h.hm⟩
  · rw [dQ] at hv
    split at hv
    · rename_i hl
      cases hv
      obtain ⟨h1,h2⟩:=h.slots s (sf.reg s) u (by rw [dQ,if_pos hl]) hu
      have hle:=leR_get hs.1 s
      exact ⟨hle.rs h1,hle.ownV h1 h2⟩
    · cases hv
  · obtain ⟨cs,hc0,hle⟩:=jH hs.2 s cs' hc
    obtain ⟨b,us,T,a1,aN,a2,a3,a4,a5⟩:=h.ctx.loc s cs hc0
    obtain ⟨q1,q2⟩:=m4 hle
    refine ⟨b,us,T,a1,aN,a2,a3,by omega,fun i c x hc hx=>?_⟩
    have hlt:i < cs.length:=by rw [← q1]; exact (List.getElem?_eq_some_iff.1 hc).1
    have e0:cs[i]? = some cs[i]:=by simp [hlt]
    obtain ⟨r1,r2⟩:=a5 i cs[i] x e0 hx
    exact ⟨(q2 i _ c e0 hc).r r1,(q2 i _ c e0 hc).own1c r1 r2⟩
end Go.Fx
/- Lists of resolved instructions: what they do, and that a plain region does it. -/
namespace Go.Fx
open Go Go.RowKit Go.Lib
structure GI where
  g:Option (Nat×Bool)
  i:AI
def CallA (P:Program) (q:FuncId) (vs:List AV) (st:St) (K:AV→St→Prop):Prop:=cW P q = true∧∃ Q,aA P q vs st Q∧∀ v st',Q v st'→K v st'
def CallP (P:Program) (q:FuncId) (vs:List AV) (st:St) (K:AV→Prop):Prop:=cW P q = true∧∃ v,aL P q vs st v∧K v
def CallY (P:Program) (id:Nat) (vs:List AV) (st:St) (K:AV→St→Prop):Prop:=∃ Q,YCalls P id vs st Q∧∀ t st',Q t st'→K (.lit (.bool t)) st'
section
variable (P:Program) (F:Nat→FuncId) (m:Bool)
def eZ (K:Sf→St→Prop) (q:Sf×St):Prop:=K q.1 q.2
def iW (p:Bool) (d:Option Nat) (f:AV) (args:List AV) (K:Sf→St→Prop) (sf:Sf) (st:St):Prop :=
  match f with
  | .fn (.func q) fs cs=>args.all AV.noL = true∧(if (p || m) = true then CallP P q (fs++args.map AV.dis++cs) st (putP K d sf st) else CallA P q (fs++args.map AV.dis++cs) st (putK K d sf))
  | .yld id=>args.all AV.noL = true∧(p || m) = false∧CallY P id (args.map AV.dis) st (putK K d sf)
  | _=>False
def oneI (i:AI) (K:Sf→St→Prop) (sf:Sf) (st:St):Prop :=
  match i with
  | .call d p f args=>iW P m p d (sf.ev F f) (args.map (sf.ev F)) K sf st
  | .x d i=>bb F m i d K sf st
  | i=>(bF F m i sf st).wp (eZ K)
def eK (t:Nat) (want:Bool) (v:AV) (Y N:Sf→St→Prop) (sf:Sf) (st:St):Prop :=
  match v with
  | .lit (.bool b)=>∀ c:Bool,b = c→if c = want then Y (sf.set t (.lit (.bool c))) st else N (sf.set t (.lit (.bool c))) st
  | .any=>Y sf st∧N sf st
  | .tup _=>N sf st
  | _=>False
def skipI (d:Option Nat) (K:Sf→St→Prop) (sf:Sf) (st:St):Prop:=K (sf.put d (.tup [])) st
def runI:List GI→(Sf→St→Prop)→Sf→St→Prop
  | [],K,sf,st=>K sf st
  | ⟨none,i⟩::r,K,sf,st=>oneI P F m i (runI r K) sf st
  | ⟨some (t,want),i⟩::r,K,sf,st=>eK t want (sf.reg t) (oneI P F m i (runI r K)) (skipI i.dst (runI r K)) sf st
end
section
variable (P:Program) (gOf:FuncId→Option Nat) (F:Nat→FuncId) (n:Nat) (heap mu:Nat→Bool)
def lB (p:Bool) (all:List Oper) (o:Oper):Option AI :=
  match o.op with
  | .call { callee := .value f, args, .. } => match opd gOf F n f, opds gOf F n args.toList with
    | some f,some args=>some (.call o.dst p f args)
    | _,_=>none
  | _ => match jG P gOf F n heap all o with
    | some (.call ..)=>none
    | some (.x ..)=>none
    | r=>r
def compC (p:Bool) (all:List Oper) (o:Oper):Option AI :=
  match compX P gOf F n mu o with
  | some i=>some (.x o.dst i)
  | none => match lB P gOf F n heap p all o with
    | some i=>some i
    | none=>some (.x o.dst .bad)
def compG (p:Bool) (all:List Oper) (o:Oper):Option GI :=
  match compC P gOf F n heap mu p all o with
  | some i=>if i.dst = o.dst then
      (match o.guard with
      | none=>some ⟨none,i⟩
      | some (j, want) => match (all.toArray[j]?).bind (·.dst) with
        | some t=>if t < n then some ⟨some (t,want),i⟩ else none
        | none=>none)
    else none
  | none=>none
def lC (p:Bool) (all:List Oper):List Oper→Option (List GI)
  | []=>some []
  | o :: r => match compG P gOf F n heap mu p all o, lC p all r with
    | some i,some l=>some (i::l)
    | _,_=>none
end
section
variable {P:Program} {gOf:FuncId→Option Nat} {F:Nat→FuncId} {n:Nat} {heap mu:Nat→Bool} {m:Bool} {E:Ent} {g:Gh} {w:World} {sf:Sf} {st:St} {a:Act} {p:Bool} {all:List Oper}
theorem kI (n:Nat) (sf:Sf) (t:Nat):sp n (sf.set t (sf.reg t)) = sp n sf:=by
  unfold sp
  simp only [Sf.set]
  congr 1
  refine List.map_congr_left fun q _=>?_
  simp only [Sf.reg,lz]
  split
  · rename_i e; subst e; rfl
  · rfl
theorem mK {o:Oper} {i:AI} (hc:lB P gOf F n heap p all o = some i):∀ c,o.op≠.defer c:=by
  intro c h
  unfold lB at hc
  rw [h] at hc
  simp only at hc
  have:jG P gOf F n heap all o = none:=by
    unfold jG
    rw [h]
    simp only
    cases o.dst <;> rfl
  rw [this] at hc
  cases hc
theorem mL {o:Oper} {i:XI} (hc:compX P gOf F n mu o = some i):∀ c,o.op≠.defer c:=by
  intro c h
  unfold compX at hc
  rw [h] at hc
  cases hc
theorem one_sound0 {rd:Option Nat} {o:Oper} {i:AI} (hc:lB P gOf F n heap p all o = some i) (h:Ok m E g w (sp n sf) st a) {K:Sf→St→Prop} (hK:oneI P F m i K sf st) {K':Act→World→Prop} {Q':Exit→Act→World→Prop}
    (hk:∀ sf' st' g' w' u,Ok m E g' w' (sp n sf') st' (a.put o.dst u)→K sf' st'→K' (a.put o.dst u) w'):o.wpIn (FW rd) 0 P a w K' Q':=by
  have hstep:jG P gOf F n heap all o = some i→(bF F m i sf st).wp (eZ K)→o.wp P a w K' Q':=by
    intro h1 h2
    have h3:=comp_ref h1 m sf st (fun q=>∃ sf',q.1 = sp n sf'∧K sf' q.2) (by
      rw [Res.wp_bind]
      exact Res.wp_mono h2 fun q hq=>⟨q.1,rfl,hq⟩)
    obtain ⟨q,⟨sf',hq1,hq2⟩,u,g',w',hrun,hok⟩:=step_sound heap all h h3
    rw [hq1] at hok
    unfold Oper.wp
    rcases hrun with hr | ⟨hu,hr⟩
    · rw [hr]; exact hk sf' q.2 g' w' u hok hq2
    · rw [hr]; rw [hu] at hok; exact hk sf' q.2 g' w' undef hok hq2
  have hnd:=mK hc
  unfold lB at hc
  split at hc
  · rename_i f args ts hop
    split at hc
    · rename_i f' args' hf hargs
      cases hc
      simp only [oneI,iW] at hK
      split at hK
      · rename_i q fs cs hfv
        obtain ⟨hnl,hK⟩:=hK
        have hmap:=eY hargs sf
        have hca:f8 (sp n sf) ⟨.value f,args,ts⟩ = some (q,fs++(args'.map (sf.ev F)).map AV.dis++cs):=by
          unfold f8
          simp only [ar hf sf,hfv,hmap,hnl,if_true]
          congr 3
          rw [← hmap,List.map_map]
          rfl
        split at hK
        · obtain ⟨hent,v,hP,hK⟩:=hK
          exact iO hnd <| oa h hop hca hent hP fun u g' w' hok=>hk (sf.put o.dst v) st g' w' u (by rw [cc]; exact hok) hK
        · rename_i hpm
          have hm:m = false:=by cases m <;> simp_all
          subst hm
          obtain ⟨hent,Q,hA,hK⟩:=hK
          exact iO hnd <| n9 h hop hca hent hA fun v st' u g' w' hQ hok=>hk (sf.put o.dst v) st' g' w' u (by rw [cc]; exact hok) (hK v st' hQ)
      · rename_i id hfv
        obtain ⟨hnl,hpm,Q,hA,hK⟩:=hK
        have hm:m = false:=by cases m <;> simp_all
        subst hm
        have hmap:=eY hargs sf
        refine mH h hop rfl (by rw [ar hf sf]; exact hfv) (by rw [hmap]; exact hnl) (Q:=Q) ?_ fun t st' g' w' hQ hok=>hk (sf.put o.dst _) st' g' w' _ (by rw [cc]; exact hok) (hK t st' hQ)
        have:(args.toList.map fun y=>((sp n sf).ev y).dis) = (args'.map (sf.ev F)).map AV.dis:=by rw [← hmap,List.map_map]; rfl
        rw [this]; exact hA
      · exact hK.elim
    · cases hc
  · rename_i hno
    split at hc
    · cases hc
    · cases hc
    · rename_i hnc hnx
      refine iO hnd <| hstep hc ?_
      unfold oneI at hK
      split at hK
      · rename_i d p' f' args'
        exact absurd hc (hnc _ _ _ _)
      · exact absurd hc (hnx _ _)
      · exact hK
theorem jI {rd:Option Nat} {o:Oper} {i:AI} (hc:compC P gOf F n heap mu p all o = some i) (h:Ok m E g w (sp n sf) st a) {K:Sf→St→Prop} (hK:oneI P F m i K sf st) {K':Act→World→Prop} {Q':Exit→Act→World→Prop}
    (hk:∀ sf' st' g' w' u,Ok m E g' w' (sp n sf') st' (a.put o.dst u)→K sf' st'→K' (a.put o.dst u) w'):o.wpIn (FW rd) 0 P a w K' Q':=by
  unfold compC at hc
  split at hc
  · rename_i xi hx
    cases hc
    exact iO (mL hx) (x_sound hx h hK hk)
  · split at hc
    · rename_i i' hi
      cases hc
      exact one_sound0 hi h hK hk
    · cases hc
      exact hK.elim
theorem db {rd:Option Nat}:∀ {l:List Oper} {gl:List GI} {sf:Sf} {st:St} {g:Gh} {w:World} {a:Act} {K:Sf→St→Prop} {Q:Exit→Act→World→Prop},lC P gOf F n heap mu p all l = some gl→Ok m E g w (sp n sf) st a→runI P F m gl K sf st →
    (∀ sf st g w a,Ok m E g w (sp n sf) st a→K sf st→Q .normal a w)→wpListIn (FW rd) 0 P all.toArray Q l a w
  | [], gl, sf, st, g, w, a, K, Q, hc, h, hK, hq => by
    simp only [lC] at hc
    cases hc
    exact hq sf st g w a h hK
  | o :: r, gl, sf, st, g, w, a, K, Q, hc, h, hK, hq => by
    simp only [lC] at hc
    split at hc
    case h_2=>cases hc
    rename_i gi gr hgi hgr
    cases hc
    unfold compG at hgi
    split at hgi
    case h_2=>cases hgi
    rename_i i hi
    split at hgi
    case isFalse=>cases hgi
    rename_i hd
    unfold wpListIn
    split at hgi
    · rename_i hg
      cases hgi
      simp only [runI] at hK
      rw [if_pos (by simp [Region.wanted,hg])]
      exact (jI hi h hK fun sf' st' g' w' u hok hk=>db hgr hok hk hq)
    · rename_i j want hg
      split at hgi
      case h_2=>cases hgi
      rename_i t ht
      split at hgi
      case isFalse=>cases hgi
      rename_i htn
      cases hgi
      simp only [runI,eK] at hK
      split at hK
      case h_4=>exact hK.elim
      case h_3 =>
        rename_i cs hb
        have hw:Region.wanted o (yielded all.toArray a.tmps) = false:=by
          refine hG (ops:=all.toArray) h ?_
          unfold bh
          rw [hg]
          simp only [ht,dQ,if_pos htn,hb]
        rw [hw,if_neg (by simp)]
        refine ⟨fun _ _=>trivial,db (g:=g) (sf:=sf.put i.dst (.tup [])) hgr ?_ hK hq⟩
        rw [cc,hd]
        exact h.put o.dst (v:=.tup []) (R.undef _) fun _ _ i c x hc _=>Own.of_no (aj (v:=.tup []) (fun _ e=>by cases e) trivial i c hc)
      case h_2 =>
        obtain ⟨hY,hN⟩:=hK
        cases hw:Region.wanted o (yielded all.toArray a.tmps) with
        | true =>
          rw [if_pos rfl]
          exact (jI hi h hY fun sf' st' g' w' u hok hk=>db hgr hok hk hq)
        | false =>
          rw [if_neg (by simp)]
          refine ⟨fun _ _=>trivial,db (g:=g) (sf:=sf.put i.dst (.tup [])) hgr ?_ hN hq⟩
          rw [cc,hd]
          exact h.put o.dst (v:=.tup []) (R.undef _) fun _ _ i c x hc _=>Own.of_no (aj (v:=.tup []) (fun _ e=>by cases e) trivial i c hc)
      rename_i b hb
      have hw:Region.wanted o (yielded all.toArray a.tmps) = (b == want):=by
        refine hG (ops:=all.toArray) h ?_
        unfold bh
        rw [hg]
        simp only [ht,dQ,if_pos htn,hb]
      have hsame:sp n (sf.set t (.lit (.bool b))) = sp n sf:=by rw [← hb]; exact kI n sf t
      have hK:=hK b rfl
      rw [hw]
      by_cases hbw:b = want
      · rw [if_pos hbw] at hK
        rw [if_pos (by simp [hbw])]
        exact (jI hi (by rw [hsame]; exact h) hK fun sf' st' g' w' u hok hk=>db hgr hok hk hq)
      · rw [if_neg hbw] at hK
        rw [if_neg (by simp [hbw])]
        refine ⟨fun _ _=>trivial,db (g:=g) (sf:=(sf.set t (.lit (.bool b))).put i.dst (.tup [])) hgr ?_ hK hq⟩
        rw [cc,hsame,hd]
        exact h.put o.dst (v:=.tup []) (R.undef _) fun _ _ i c x hc _=>Own.of_no (aj (v:=.tup []) (fun _ e=>by cases e) trivial i c hc)
end
end Go.Fx
/- Regions that draw their order, resolved. -/
namespace Go.Fx
open Go Go.RowKit Go.Lib
section
variable (P:Program) (F:Nat→FuncId) (locs0:List (Nat×List AV)) (st:St)
def ic (H:List PK→Sf→Prop) (ks:List PK) (k:PK) (sf:Sf):Prop:=H (ks++[k]) sf
def valH (C:PK→Sf→Prop) (d:Option Nat) (sf:Sf) (v:AV):Prop:=C (.val v) (sf.put d v)
def appH (C:PK→Sf→Prop) (d s:Nat) (sf:Sf) (v:AV):Prop:=C (.app s v) ((sf.disAt s).set d v)
def j9 (H:List PK→Sf→Prop) (ks:List PK) (d:Option Nat) (sf:Sf):Prop:=H (ks++[.skip]) (sf.put d (.tup []))
def cP (t:Nat) (want:Bool) (v:AV) (Y N:Sf→Prop) (sf:Sf):Prop :=
  match v with
  | .lit (.bool b)=>∀ c:Bool,b = c→if c = want then Y (sf.set t (.lit (.bool c))) else N (sf.set t (.lit (.bool c)))
  | .tup _=>N sf
  | _=>False
def fo (x:AV) (k s:Nat) (C:PK→Sf→Prop) (sf:Sf):Option (List AV)→Prop
  | some cs0=>cs0.length = k∧x.dis.solid = true∧x.dis.cells.length = k∧C (.store s x.dis.cells) sf
  | none=>False
def ol (st:St) (d s k bytes:Nat) (y:AV) (C:PK→Sf→Prop) (sf:Sf) (v:AV):Prop :=
  match v with
  | .sl true k' es=>(dC st k bytes (.sl true k' es) y).wp (appH C d s sf)
  | x=>(eg st k bytes x y).wp (valH C (some d) sf)
def gm (d:Option Nat) (f:AV) (args:List AV) (C:PK→Sf→Prop) (sf:Sf):Prop :=
  match f with
  | .fn (.func q) fs cs=>args.all AV.noL = true∧CallP P q (fs++args.map AV.dis++cs) st (valH C d sf)
  | _=>False
def iX (x:AV) (k:Nat) (C:PK→Sf→Prop) (sf:Sf):Opd→Prop
  | .r s=>x.dis.solid = true∧x.dis.cells.length = k∧C (.nst s x.dis.cells) sf
  | _=>False
def fp (a:Opd) (v x:AV) (k:Nat) (C:PK→Sf→Prop) (sf:Sf):Prop :=
  match v with
  | .lptr s 0=>fo x k s C sf (look s locs0)
  | .any=>iX x k C sf a
  | _=>False
def aQ (i:AI) (C:PK→Sf→Prop) (sf:Sf):Prop :=
  match i with
  | .call d _ f args=>gm P st d (sf.ev F f) (args.map (sf.ev F)) C sf
  | .newL s cs=>C (.new s cs) (sf.set s .any)
  | .store k a x=>fp locs0 a (sf.ev F a) (sf.ev F x) k C sf
  | .appS d s k bytes y=>ol st d s k bytes (sf.ev F y) C sf (sf.reg s)
  | i=>(popI F i sf st).wp (valH C i.dst sf)
def aw:List GI→(List PK→Sf→Prop)→List PK→Sf→Prop
  | [],K,ks,sf=>K ks sf
  | ⟨none,i⟩::r,K,ks,sf=>aQ P F locs0 st i (ic (aw r K) ks) sf
  | ⟨some (t,want),i⟩::r,K,ks,sf=>cP t want (sf.reg t) (aQ P F locs0 st i (ic (aw r K) ks)) (j9 (aw r K) ks i.dst) sf
end
def dD (drop:List Nat):List (Nat×List AV)→List (Nat×List AV)
  | []=>[]
  | (s,cs)::r=>if drop.contains s then dD drop r else (s,cs)::dD drop r
def aR:List PK→List Nat
  | []=>[]
  | .store s _::r=>s::aR r
  | _::r=>aR r
def bA:List PK→List Nat
  | []=>[]
  | .new s _::r=>s::bA r
  | _::r=>bA r
def bQ:List PK→List Nat
  | []=>[]
  | .app t _::r=>t::bQ r
  | _::r=>bQ r
def aT:List Nat→Bool
  | []=>true
  | x::r=>!r.contains x && aT r
def nstB:List (Nat×Nat)→List PK→Bool
  | _,[]=>true
  | seen,.new s cs::r=>nstB ((s,cs.length)::seen) r
  | seen,.nst s cs::r=>seen.contains (s,cs.length) && nstB seen r
  | seen,_::r=>nstB seen r
def bR:List PK→List Nat
  | []=>[]
  | .nst s _::r=>s::bR r
  | _::r=>bR r
def ksB (drop:List Nat) (ks:List PK):Bool :=
  aT (bA ks) && aT (bR ks) && nstB [] ks && aT (aR ks) && aT (bQ ks) && (aR ks).all (fun s=>drop.contains s && !(bA ks).contains s) && (bA ks).all (fun s=>drop.contains s)
def cX:List PK→Sf→Sf
  | [],sf=>sf
  | .store s cs::r,sf=>cX r (sf.setLoc s cs)
  | _::r,sf=>cX r sf
def b9 (all:List PK):List PK→Sf→Sf
  | [],sf=>sf
  | .new s cs::r,sf=>b9 all r (sf.newLoc s ((ck s all).getD cs))
  | _::r,sf=>b9 all r sf
section
variable (P:Program) (gOf:FuncId→Option Nat) (F:Nat→FuncId) (n:Nat) (heap:Nat→Bool)
def lD (o:Oper):Option AI :=
  match o.op,o.dst with
  | .call { callee := .value f, args, .. }, d => match opd gOf F n f, opds gOf F n args.toList with
    | some f,some args=>some (.call d true f args)
    | _,_=>none
  | .alloc t,some s=>if heap s = true then none else (eI P t).map fun z=>.newL s z.cells
  | .store t a x, none => match opd gOf F n a, opd gOf F n x, szT P t with
    | some a,some x,some k=>some (.store k a x)
    | _,_,_=>none
  | .call { callee := .builtin .append, args, argTypes }, some sd => match args.toList, argTypes.toList with
    | [.tmp sx, y], [t, t2] => if sx ≠ sd ∧ sx < n then (match appK P t t2, opd gOf F n y with
      | some k,some y=>some (.appS sd sx k.1 k.2 y)
      | _,_=>none) else none
    | _,_=>popC P gOf F n (some sd) o.op
  | op,d=>popC P gOf F n d op
def compH (o:Oper):Option AI :=
  match lD P gOf F n heap o with
  | some i=>some i
  | none=>some (.x o.dst .bad)
def lE (all:List Oper) (o:Oper):Option GI :=
  match compH P gOf F n heap o with
  | some i=>if i.dst = o.dst then
      (match o.guard with
      | none=>some ⟨none,i⟩
      | some (j, want) => match (all.toArray[j]?).bind (·.dst) with
        | some t=>if t < n then some ⟨some (t,want),i⟩ else none
        | none=>none)
    else none
  | none=>none
def dR (all:List Oper):List Oper→Option (List GI)
  | []=>some []
  | o :: r => match lE P gOf F n heap all o, dR all r with
    | some i,some l=>some (i::l)
    | _,_=>none
end
theorem om {A:Type} {r:Res A} {K:A→Prop} (h:r.wp K):∃ a,r.opt = some a∧K a:=by
  induction r with
  | ok a=>exact ⟨a,rfl,h⟩
  | fail=>exact h.elim
  | req b r ih =>
    obtain ⟨hb,h⟩:=h
    obtain ⟨a,ha,hk⟩:=ih h
    exact ⟨a,by simp [Res.opt,hb,ha],hk⟩
section
variable {P:Program} {gOf:FuncId→Option Nat} {F:Nat→FuncId} {n:Nat} {heap:Nat→Bool} {st:St} {locs0:List (Nat×List AV)} {all:List Oper} {ops:Array Oper}
theorem pop_dst {d:Option Nat} {op:Op} {i:AI} (h:popC P gOf F n d op = some i):i.dst = d∧(∀ (sf:Sf) (C:PK→Sf→Prop),aQ P F locs0 st i C sf→(popI F i sf st).wp fun v=>C (.val v) (sf.put i.dst v)):=by
  unfold popC at h
  repeat' (split at h)
  all_goals first
    | (cases h; done)
    | (cases h; exact ⟨rfl,fun _ _ h=>h⟩)
    | (obtain ⟨_,_,rfl⟩:=map_some h; exact ⟨rfl,fun _ _ h=>h⟩)
theorem head_one0 {o:Oper} {i:AI} (hc:lD P gOf F n heap o = some i) {sf:Sf} (hg:bh ops (sp n sf) o = some (.lit (.bool true))) {C:PK→Sf→Prop} (h:aQ P F locs0 st i C sf) :
    ∃ k sf',C k sf'∧k.real = true∧PStep P ops st (fun s=>s = st) locs0 o (sp n sf) k (sp n sf'):=by
  have hpop:popC P gOf F n o.dst o.op = some i→∃ k sf',C k sf'∧k.real = true∧PStep P ops st (fun s=>s = st) locs0 o (sp n sf) k (sp n sf'):=by
    intro hp
    obtain ⟨hd,hh⟩:=pop_dst (st:=st) (locs0:=locs0) hp
    obtain ⟨v,hv,hC⟩:=om (eJ hp sf st _ (hh sf C h))
    refine ⟨_,_,hC,rfl,?_⟩
    rw [cc,hd]
    exact .val v hg fun s e=>by rw [e]; exact hv
  obtain ⟨dst,op,ty,pos,after,gd⟩:=o
  unfold lD at hc
  simp only at hc hpop
  split at hc
  · rename_i f args ts
    split at hc
    · rename_i f' args' hf hargs
      cases hc
      simp only [aQ,gm] at h
      split at h
      · rename_i q fs cs hfv
        obtain ⟨hnl,hent,v,hP,hC⟩:=h
        have hmap:=eY hargs sf
        refine ⟨_,_,hC,rfl,?_⟩
        rw [cc]
        refine .call v ⟨.value f,args,ts⟩ q (fs++(args'.map (sf.ev F)).map AV.dis++cs) hg rfl ?_ hent (fun s e=>by rw [e]; exact hP)
        unfold f8
        simp only [ar hf sf,hfv,hmap,hnl,if_true]
        congr 3
        rw [← hmap,List.map_map]
        rfl
      · exact h.elim
    · cases hc
  · rename_i t s
    split at hc
    · cases hc
    · obtain ⟨z,hz,rfl⟩:=map_some hc
      simp only [aQ] at h
      refine ⟨_,_,h,rfl,?_⟩
      rw [dj]
      exact .new t s z hg rfl rfl hz
  · rename_i t a x
    split at hc
    · rename_i a' x' k ha hx hk
      cases hc
      simp only [aQ,fp] at h
      split at h
      · rename_i s hav
        unfold fo at h
        split at h
        · rename_i cs0 hl
          obtain ⟨h1,h2,h3,hC⟩:=h
          refine ⟨_,_,hC,rfl,?_⟩
          rw [← ar hx sf] at h2 h3 ⊢
          exact .store t a x s cs0 hg rfl rfl (by rw [ar ha sf]; exact hav) hl (by rw [h1,h3]) h2 (by rw [hk,h3])
        · exact h.elim
      · rename_i hav
        unfold iX at h
        split at h
        · rename_i a' s
          obtain ⟨h2,h3,hC⟩:=h
          have ha2:a = .tmp s:=by
            cases a with
            | tmp t=>simp only [opd] at ha; split at ha <;> cases ha; rfl
            | _ =>
              simp only [opd] at ha; repeat' (split at ha)
              all_goals cases ha
          refine ⟨_,_,hC,rfl,?_⟩
          rw [← ar hx sf] at h2 h3 ⊢
          subst ha2
          exact .nst t x s hg rfl rfl h2 (by rw [hk,h3])
        · exact h.elim
      · exact h.elim
    · cases hc
  · rename_i args ts sd
    split at hc
    · rename_i sx y t t2 hargs hts
      have ha':args = #[.tmp sx,y]:=by apply Array.ext'; simpa using hargs
      have ht':ts = #[t,t2]:=by apply Array.ext'; simpa using hts
      subst ha'; subst ht'
      split at hc
      · rename_i hcc
        split at hc
        · rename_i k y' hk hy
          have hck:=hc
          cases hc
          simp only [aQ,ol] at h
          split at h
          · rename_i k' es hreg
            obtain ⟨v,hv,hC⟩:=om (ly (P:=P) hk st _ _ _ h)
            refine ⟨_,_,hC,rfl,?_⟩
            rw [dj,jD hcc.2]
            exact .app t t2 sx sd k' y es v hg rfl rfl hcc.1 (by rw [dq hcc.2]; exact hreg) (fun s e=>by rw [e,ar hy sf]; exact hv)
          · rename_i v hreg
            have hsx:opd gOf F n (.tmp sx) = some (.r sx):=by simp only [opd,hcc.2,if_true]
            have hp:popC P gOf F n (some sd) (.call { callee:=.builtin .append,args:=#[.tmp sx,y],argTypes:=#[t,t2] }) = some (.app (some sd) k.1 k.2 (.r sx) y'):=by
              simp only [popC,hsx,hk,hy]
            obtain ⟨v,hv,hC⟩:=om (eJ hp sf st _ (show (popI F (.app (some sd) k.1 k.2 (.r sx) y') sf st).wp _ from h))
            refine ⟨_,_,hC,rfl,?_⟩
            rw [cc]
            exact .val v hg fun s e=>by rw [e]; exact hv
        · cases hc
      · cases hc
    · exact hpop hc
  · exact hpop hc
theorem head_one {o:Oper} {i:AI} (hc:compH P gOf F n heap o = some i) {sf:Sf} (hg:bh ops (sp n sf) o = some (.lit (.bool true))) {C:PK→Sf→Prop} (h:aQ P F locs0 st i C sf) :
    ∃ k sf',C k sf'∧k.real = true∧PStep P ops st (fun s=>s = st) locs0 o (sp n sf) k (sp n sf'):=by
  unfold compH at hc
  split at hc
  · rename_i i' hi
    cases hc
    exact head_one0 hi hg h
  · cases hc
    exact h.elim
theorem gn:∀ {l:List Oper} {gl:List GI} {sf:Sf} {acc:List PK} {K:List PK→Sf→Prop},dR P gOf F n heap all l = some gl→aw P F locs0 st gl K acc sf →
    ∃ ks sf',PRun P all.toArray st (fun _ s=>s = st) locs0 l (sp n sf) ks (sp n sf')∧(∀ k ∈ ks,k.real = true)∧K (acc++ks) sf'
  | [], gl, sf, acc, K, hc, h => by
    simp only [dR] at hc
    cases hc
    exact ⟨[],sf,.nil _,by simp,by simpa [aw] using h⟩
  | o :: r, gl, sf, acc, K, hc, h => by
    simp only [dR] at hc
    split at hc
    case h_2=>cases hc
    rename_i gi gr hgi hgr
    cases hc
    unfold lE at hgi
    split at hgi
    case h_2=>cases hgi
    rename_i i hi
    split at hgi
    case isFalse=>cases hgi
    rename_i hd
    split at hgi
    · rename_i hg
      cases hgi
      simp only [aw] at h
      obtain ⟨k,sf',hC,hre,hps⟩:=head_one (ops:=all.toArray) hi (by simp [bh,hg]) h
      obtain ⟨ks,sf2,hr,hre2,hK⟩:=gn hgr hC
      exact ⟨k::ks,sf2,.cons hps hr,by simp only [List.mem_cons,forall_eq_or_imp]; exact ⟨hre,hre2⟩,by simpa using hK⟩
    · rename_i j want hg
      split at hgi
      case h_2=>cases hgi
      rename_i t ht
      split at hgi
      case isFalse=>cases hgi
      rename_i htn
      cases hgi
      simp only [aw,cP] at h
      split at h
      case h_3=>exact h.elim
      case h_2 =>
        rename_i cs hb
        have hga:bh all.toArray (sp n sf) o = some (.lit (.bool false)):=by
          unfold bh
          rw [hg]
          simp only [ht,dQ,if_pos htn,hb]
        obtain ⟨ks,sf2,hr,hre2,hK⟩:=gn hgr h
        rw [cc,hd] at hr
        exact ⟨.skip::ks,sf2,.cons (.skip hga) hr,by simp only [List.mem_cons,forall_eq_or_imp]; exact ⟨rfl,hre2⟩,by simpa using hK⟩
      rename_i b hb
      have hga:bh all.toArray (sp n sf) o = some (.lit (.bool (b == want))):=by
        unfold bh
        rw [hg]
        simp only [ht,dQ,if_pos htn,hb]
      have hsame:sp n (sf.set t (.lit (.bool b))) = sp n sf:=by rw [← hb]; exact kI n sf t
      have h:=h b rfl
      by_cases hbw:b = want
      · rw [if_pos hbw] at h
        obtain ⟨k,sf',hC,hre,hps⟩:=head_one (ops:=all.toArray) hi (by rw [hsame,hga]; simp [hbw]) h
        rw [hsame] at hps
        obtain ⟨ks,sf2,hr,hre2,hK⟩:=gn hgr hC
        exact ⟨k::ks,sf2,.cons hps hr,by simp only [List.mem_cons,forall_eq_or_imp]; exact ⟨hre,hre2⟩,by simpa using hK⟩
      · rw [if_neg hbw] at h
        obtain ⟨ks,sf2,hr,hre2,hK⟩:=gn hgr h
        rw [cc,hsame,hd] at hr
        exact ⟨.skip::ks,sf2,.cons (.skip (by rw [hga]; simp [hbw])) hr,by simp only [List.mem_cons,forall_eq_or_imp]; exact ⟨rfl,hre2⟩,by simpa using hK⟩
end
end Go.Fx
/- A head in which calls make boxes and leave all that are there as they are. -/
namespace Go.Fx
open Go Go.RowKit Go.Lib
inductive PRunA (P:Program) (ops:Array Oper) (st:St) (SS:St→Prop) (locs0:List (Nat×List AV)) (X:Oper→Fr→PK→Prop):List Oper→Fr→List PK→Fr→Prop
  | nil (fr:Fr):PRunA P ops st SS locs0 X [] fr [] fr
  | cons {o:Oper} {l:List Oper} {fr fr1 fr2:Fr} {k:PK} {ks:List PK} (h:PStep P ops st SS locs0 o fr k fr1) (hx:X o fr k) (r:PRunA P ops st SS locs0 X l fr1 ks fr2):PRunA P ops st SS locs0 X (o::l) fr (k::ks) fr2
section
variable {P:Program} {ops:Array Oper} {st:St} {SS:St→Prop} {locs0:List (Nat×List AV)} {X:Oper→Fr→PK→Prop} {l l':List Oper} {ks ks':List PK} {i:Nat} {fr0 fr fr1:Fr} {o:Oper} {v:AV} {kk:PK}
theorem PRunA.at (hr:PRunA P ops st SS locs0 X l' fr ks' fr1):∀ (pre:List Oper) (kpre:List PK),pre.length = kpre.length→l = pre++l'→ks = kpre++ks'→Tr l ks pre.length fr0 fr →
    (∀ (a b t:Nat) (v v':AV),ks[a]? = some (PK.app t v)→ks[b]? = some (PK.app t v')→a = b) →
    (∀ (j k:Nat) (t:Nat) (v:AV) (o:Oper),ks[j]? = some (PK.app t v)→l[k]? = some o→o.dst = some t→k < j) →
    ∀ i o,l'[i]? = some o→∃ kk fri fri',ks[pre.length + i]? = some kk∧PStep P ops st SS locs0 o fri kk fri'∧X o fri kk∧Tr l ks (pre.length + i) fr0 fri:=by
  induction hr with
  | nil fr=>intro pre kpre _ _ _ ht _ _ i o h; simp at h
  | cons h hx r ih =>
    rename_i o lr fra frb frc kk ksr
    intro pre kpre hlen hl hks ht hu hc i o' hi
    have ho:l[pre.length]? = some o:=by rw [hl]; simp
    have hk:ks[pre.length]? = some kk:=by rw [hks,hlen]; simp
    have ht':=h.tr ht ho hk hu hc
    have h2:=ih (pre++[o]) (kpre++[kk]) (by simp [hlen]) (by simp [hl]) (by simp [hks]) (by simpa using ht') hu hc
    cases i with
    | zero =>
      simp at hi
      subst hi
      exact ⟨kk,fra,frb,by simpa using hk,h,hx,by simpa using ht⟩
    | succ i =>
      simp at hi
      obtain ⟨k',fri,fri',a1,a2,a2x,a3⟩:=h2 i o' hi
      simp only [List.length_append,List.length_cons,List.length_nil] at a1 a3
      rw [show pre.length + (0 + 1) + i = pre.length + (i + 1) by omega] at a1 a3
      exact ⟨k',fri,fri',a1,a2,a2x,a3⟩
end
section
variable {P:Program} {m:Bool} {E:Ent} {g:Gh} {w:World} {fr:Fr} {st ρ:St} {SS:St→Prop} {a:Act} {l:List Oper} {n:Nat} {ks:List PK} {fr0 frn:Fr}
end
def mkN:PK→Nat
  | .mk _ _=>1
  | _=>0
def phK (ks:List PK) (i:Nat):Nat:=((ks.take i).map mkN).sum
theorem phK_succ {ks:List PK} {i:Nat} {k:PK} (h:ks[i]? = some k):phK ks (i + 1) = phK ks i + mkN k:=by
  obtain ⟨hi,he⟩:=List.getElem?_eq_some_iff.1 h
  unfold phK
  rw [List.take_succ_eq_append_getElem hi,he]
  simp
inductive PRunB (P:Program) (ops:Array Oper) (st:St) (SS:St→Prop) (locs0:List (Nat×List AV)) (X:Nat→Oper→Fr→PK→Prop):Nat→List Oper→Fr→List PK→Fr→Prop
  | nil (j:Nat) (fr:Fr):PRunB P ops st SS locs0 X j [] fr [] fr
  | cons {j:Nat} {o:Oper} {l:List Oper} {fr fr1 fr2:Fr} {k:PK} {ks:List PK} (h:PStep P ops st SS locs0 o fr k fr1) (hx:X j o fr k) (r:PRunB P ops st SS locs0 X (j + mkN k) l fr1 ks fr2):PRunB P ops st SS locs0 X j (o::l) fr (k::ks) fr2
section
variable {P:Program} {ops:Array Oper} {st:St} {SS:St→Prop} {locs0:List (Nat×List AV)} {X:Nat→Oper→Fr→PK→Prop} {l l':List Oper} {ks ks':List PK} {j:Nat} {fr0 fr fr1:Fr} {o:Oper} {v:AV} {kk:PK}
theorem PRunB.at (hr:PRunB P ops st SS locs0 X j l' fr ks' fr1):∀ (pre:List Oper) (kpre:List PK),pre.length = kpre.length→l = pre++l'→ks = kpre++ks'→j = phK ks pre.length→Tr l ks pre.length fr0 fr →
    (∀ (a b t:Nat) (v v':AV),ks[a]? = some (PK.app t v)→ks[b]? = some (PK.app t v')→a = b) →
    (∀ (j k:Nat) (t:Nat) (v:AV) (o:Oper),ks[j]? = some (PK.app t v)→l[k]? = some o→o.dst = some t→k < j) →
    ∀ i o,l'[i]? = some o→∃ kk fri fri',ks[pre.length + i]? = some kk∧PStep P ops st SS locs0 o fri kk fri'∧X (phK ks (pre.length + i)) o fri kk∧Tr l ks (pre.length + i) fr0 fri:=by
  induction hr with
  | nil j fr=>intro pre kpre _ _ _ _ ht _ _ i o h; simp at h
  | cons h hx r ih =>
    rename_i jj o lr fra frb frc kk ksr
    intro pre kpre hlen hl hks hj ht hu hc i o' hi
    have ho:l[pre.length]? = some o:=by rw [hl]; simp
    have hk:ks[pre.length]? = some kk:=by rw [hks,hlen]; simp
    have ht':=h.tr ht ho hk hu hc
    have h2:=ih (pre++[o]) (kpre++[kk]) (by simp [hlen]) (by simp [hl]) (by simp [hks]) (by rw [hj,List.length_append,List.length_singleton,phK_succ hk]) (by simpa using ht') hu hc
    cases i with
    | zero =>
      simp at hi
      subst hi
      rw [hj] at hx
      exact ⟨kk,fra,frb,by simpa using hk,h,by simpa using hx,by simpa using ht⟩
    | succ i =>
      simp at hi
      obtain ⟨k',fri,fri',a1,a2,a2x,a3⟩:=h2 i o' hi
      simp only [List.length_append,List.length_cons,List.length_nil] at a1 a2x a3
      rw [show pre.length + (0 + 1) + i = pre.length + (i + 1) by omega] at a1 a2x a3
      exact ⟨k',fri,fri',a1,a2,a2x,a3⟩
end
section
variable {P:Program} {m:Bool} {E:Ent} {g:Gh} {w:World} {fr:Fr} {st ρ:St} {SS:Nat→St→Prop} {a:Act} {l:List Oper} {n:Nat} {ks:List PK} {fr0 frn:Fr}
end
end Go.Fx
/- Heads in which one call changes boxes, resolved. -/
namespace Go.Fx
open Go Go.RowKit Go.Lib
def iy:AI→List Nat
  | .newL s _=>[s]
  | .store _ (.r t) _=>[t]
  | _=>[]
def lF:List GI→List Nat
  | []=>[]
  | ⟨_,i⟩::r=>iy i++lF r
def lG:List (Bool×GI)→List Nat
  | []=>[]
  | (_,⟨_,i⟩)::r=>iy i++lG r
def f9 (pre:List GI) (post:List (Bool×GI)):List Nat:=lF pre++lG post
section
variable (P:Program) (F:Nat→FuncId) (locs0:List (Nat×List AV)) (ρ:St)
def valM (C:PK→Sf→Prop) (d:Option Nat) (sf:Sf) (v:AV):Prop:=C (.val v) (sf.put d v)
def callM1 (d:Option Nat) (f:AV) (args:List AV) (C:PK→Sf→Prop) (sf:Sf):Prop :=
  match f with
  | .fn (.func q) fs cs=>args.all AV.noL = true∧cW P q = true∧∃ v,(∀ s,St.sub ρ s→aL P q (fs++args.map AV.dis++cs) s v)∧valM C d sf v
  | _=>False
def oneM (i:AI) (C:PK→Sf→Prop) (sf:Sf):Prop :=
  match i with
  | .call d _ f args=>callM1 P ρ d (sf.ev F f) (args.map (sf.ev F)) C sf
  | .newL s cs=>C (.new s cs) (sf.set s .any)
  | .store k a x=>fp locs0 a (sf.ev F a) (sf.ev F x) k C sf
  | i=>(popI F i sf ρ).wp (valM C i.dst sf)
def ig (H:List PK→Sf→Prop) (ks:List PK) (k:PK) (sf:Sf):Prop:=H (ks++[k]) sf
def preM:List GI→(List PK→Sf→Prop)→List PK→Sf→Prop
  | [],K,ks,sf=>K ks sf
  | ⟨none,i⟩::r,K,ks,sf=>oneM P F locs0 ρ i (ig (preM r K) ks) sf
  | ⟨some (t,want),i⟩::r,K,ks,sf=>cP t want (sf.reg t) (oneM P F locs0 ρ i (ig (preM r K) ks)) (j9 (preM r K) ks i.dst) sf
def cR:List (Bool×GI)→(List PK→Prop)→List PK→Sf→Prop
  | [],K,ks,_=>K ks
  | (true,g)::r,K,ks,sf=>cR r K (ks++[.hole]) (sf.put g.i.dst .any)
  | (false,⟨none,i⟩)::r,K,ks,sf=>oneM P F locs0 ρ i (ig (cR r K) ks) sf
  | (false,⟨some (t,want),i⟩)::r,K,ks,sf=>cP t want (sf.reg t) (oneM P F locs0 ρ i (ig (cR r K) ks)) (j9 (cR r K) ks i.dst) sf
def e7:List (Bool×GI)→List PK→List PK→Prop
  | [],[],[]=>True
  | (true,_)::_,_::_,.new _ _::_=>False
  | (true,_)::r,_::h,_::k=>e7 r h k
  | (false,_)::r,a::h,b::k=>b = a∧e7 r h k
  | _,_,_=>False
def finK (drop:List Nat) (T:Sf→Prop) (ks:List PK) (sf:Sf):Prop:=ksB drop ks = true∧T (b9 ks ks (cX ks sf))
def postM (post:List (Bool×GI)) (drop:List Nat) (ks1 ksh:List PK) (T:Sf→Prop) (ks:List PK) (sf:Sf):Prop:=e7 post ksh ks∧finK drop T (ks1++ks) sf
def afterM (post:List (Bool×GI)) (Qc:AV→St→Prop) (d:Option Nat) (sf:Sf) (drop:List Nat) (T:St→Sf→Prop) (ks1 ksh:List PK):Prop :=
  ∀ v s,Qc v s→St.sub ρ s∧preM P F locs0 ρ (post.map (·.2)) (postM post drop ks1 ksh (T s)) [] (sf.put d v)
def holeK (drop:List Nat) (ks1:List PK) (A:List PK→Prop) (ksh:List PK):Prop:=ksB drop (ks1++ksh) = true∧A ksh
def lH (st:St) (d:Option Nat) (f:AV) (args:List AV) (post:List (Bool×GI)) (drop:List Nat) (T:St→Sf→Prop) (ks1:List PK) (sf:Sf):Prop :=
  match f with
  | .fn (.func q) fs cs=>args.all AV.noL = true∧cW P q = true∧∃ Qc,aA P q (fs++args.map AV.dis++cs) st Qc∧cR P F locs0 ρ post (holeK drop ks1 (afterM P F locs0 ρ post Qc d sf drop T ks1)) [] (sf.put d .any)
  | _=>False
def atM (st:St) (d:Option Nat) (f:Opd) (args:List Opd) (post:List (Bool×GI)) (drop:List Nat) (T:St→Sf→Prop) (ks1:List PK) (sf:Sf):Prop:=lH P F locs0 ρ st d (sf.ev F f) (args.map (sf.ev F)) post drop T ks1 sf
end
def drawM (P:Program) (F:Nat→FuncId) (pre:List GI) (d:Option Nat) (f:Opd) (args:List Opd) (post:List (Bool×GI)) (sf:Sf) (st:St) (T:St→Sf→Prop):Prop :=
  ∃ ρ,St.sub ρ st∧preM P F sf.locs ρ pre (atM P F sf.locs ρ st d f args post (f9 pre post) T) [] ⟨sf.regs,dD (f9 pre post) sf.locs⟩
section
variable (P:Program) (F:Nat→FuncId) (locs0:List (Nat×List AV)) (ρ:St)
end
section
variable (P:Program) (gOf:FuncId→Option Nat) (F:Nat→FuncId) (n:Nat) (heap:Nat→Bool)
def iz (ops:List Oper) (k κ:Nat) (gl:List GI):List (Bool×GI):=gl.zipIdx.map fun p=>(cO ops.toArray k (κ + 1 + p.2) κ,p.1)
end
section
variable {P:Program} {gOf:FuncId→Option Nat} {F:Nat→FuncId} {n:Nat} {heap:Nat→Bool} {ρ:St} {SS:St→Prop} {locs0:List (Nat×List AV)} {all:List Oper} {ops:Array Oper}
theorem pop_dstM {d:Option Nat} {op:Op} {i:AI} (h:popC P gOf F n d op = some i):i.dst = d∧(∀ (sf:Sf) (C:PK→Sf→Prop),oneM P F locs0 ρ i C sf→(popI F i sf ρ).wp fun v=>C (.val v) (sf.put i.dst v)):=by
  unfold popC at h
  repeat' (split at h)
  all_goals first
    | (cases h; done)
    | (cases h; exact ⟨rfl,fun _ _ h=>h⟩)
    | (obtain ⟨_,_,rfl⟩:=map_some h; exact ⟨rfl,fun _ _ h=>h⟩)
theorem one_m0 (hsub:∀ s,SS s→St.sub ρ s) {o:Oper} {i:AI} (hc:lD P gOf F n heap o = some i) {sf:Sf} (hg:bh ops (sp n sf) o = some (.lit (.bool true))) {C:PK→Sf→Prop} (h:oneM P F locs0 ρ i C sf) :
    ∃ k sf',C k sf'∧k.real = true∧PStep P ops ρ SS locs0 o (sp n sf) k (sp n sf'):=by
  have hpop:popC P gOf F n o.dst o.op = some i→∃ k sf',C k sf'∧k.real = true∧PStep P ops ρ SS locs0 o (sp n sf) k (sp n sf'):=by
    intro hp
    obtain ⟨hd,hh⟩:=pop_dstM (locs0:=locs0) (ρ:=ρ) hp
    obtain ⟨v,hv,hC⟩:=om (eJ hp sf ρ _ (hh sf C h))
    refine ⟨_,_,hC,rfl,?_⟩
    rw [cc,hd]
    exact .val v hg fun s hs=>popR_sub (hsub s hs) _ _ _ hv
  obtain ⟨dst,op,ty,pos,after,gd⟩:=o
  unfold lD at hc
  simp only at hc hpop
  split at hc
  · rename_i f args ts
    split at hc
    · rename_i f' args' hf hargs
      cases hc
      simp only [oneM,callM1] at h
      split at h
      · rename_i q fs cs hfv
        obtain ⟨hnl,hent,v,hP,hC⟩:=h
        have hmap:=eY hargs sf
        refine ⟨_,_,hC,rfl,?_⟩
        rw [cc]
        refine .call v ⟨.value f,args,ts⟩ q (fs++(args'.map (sf.ev F)).map AV.dis++cs) hg rfl ?_ hent (fun s hs=>hP s (hsub s hs))
        unfold f8
        simp only [ar hf sf,hfv,hmap,hnl,if_true]
        congr 3
        rw [← hmap,List.map_map]
        rfl
      · exact h.elim
    · cases hc
  · rename_i t s
    split at hc
    · cases hc
    · obtain ⟨z,hz,rfl⟩:=map_some hc
      simp only [oneM] at h
      refine ⟨_,_,h,rfl,?_⟩
      rw [dj]
      exact .new t s z hg rfl rfl hz
  · rename_i t a x
    split at hc
    · rename_i a' x' k ha hx hk
      cases hc
      simp only [oneM,fp] at h
      split at h
      · rename_i s hav
        unfold fo at h
        split at h
        · rename_i cs0 hl
          obtain ⟨h1,h2,h3,hC⟩:=h
          refine ⟨_,_,hC,rfl,?_⟩
          rw [← ar hx sf] at h2 h3 ⊢
          exact .store t a x s cs0 hg rfl rfl (by rw [ar ha sf]; exact hav) hl (by rw [h1,h3]) h2 (by rw [hk,h3])
        · exact h.elim
      · rename_i hav
        unfold iX at h
        split at h
        · rename_i a' s
          obtain ⟨h2,h3,hC⟩:=h
          have ha2:a = .tmp s:=by
            cases a with
            | tmp t=>simp only [opd] at ha; split at ha <;> cases ha; rfl
            | _ =>
              simp only [opd] at ha; repeat' (split at ha)
              all_goals cases ha
          refine ⟨_,_,hC,rfl,?_⟩
          rw [← ar hx sf] at h2 h3 ⊢
          subst ha2
          exact .nst t x s hg rfl rfl h2 (by rw [hk,h3])
        · exact h.elim
      · exact h.elim
    · cases hc
  · rename_i args ts sd
    split at hc
    · split at hc
      · split at hc
        · cases hc; exact h.elim
        · cases hc
      · cases hc
    · exact hpop hc
  · exact hpop hc
theorem one_m (hsub:∀ s,SS s→St.sub ρ s) {o:Oper} {i:AI} (hc:compH P gOf F n heap o = some i) {sf:Sf} (hg:bh ops (sp n sf) o = some (.lit (.bool true))) {C:PK→Sf→Prop} (h:oneM P F locs0 ρ i C sf) :
    ∃ k sf',C k sf'∧k.real = true∧PStep P ops ρ SS locs0 o (sp n sf) k (sp n sf'):=by
  unfold compH at hc
  split at hc
  · rename_i i' hi
    cases hc
    exact one_m0 hsub hi hg h
  · cases hc
    exact h.elim
def PK.vs:PK→Bool
  | .val _ | .skip=>true
  | _=>false
section
variable (P:Program) (F:Nat→FuncId) (locs0:List (Nat×List AV))
end
theorem guard_m (hsub:∀ s,SS s→St.sub ρ s) {o:Oper} {gi:GI} (hc:lE P gOf F n heap all o = some gi) {sf:Sf} {H:List PK→Sf→Prop} {acc:List PK}
    (h:match gi with
      | ⟨none,i⟩=>oneM P F locs0 ρ i (ig H acc) sf
      | ⟨some (t,want),i⟩=>cP t want (sf.reg t) (oneM P F locs0 ρ i (ig H acc)) (j9 H acc i.dst) sf) :
    ∃ k sf',k.real = true∧H (acc++[k]) sf'∧PStep P all.toArray ρ SS locs0 o (sp n sf) k (sp n sf'):=by
  unfold lE at hc
  split at hc
  case h_2=>cases hc
  rename_i i hi
  split at hc
  case isFalse=>cases hc
  rename_i hd
  split at hc
  · rename_i hg
    cases hc
    obtain ⟨k,sf',hC,hre,hps⟩:=one_m (ops:=all.toArray) (SS:=SS) (locs0:=locs0) hsub hi (by simp [bh,hg]) h
    exact ⟨k,sf',hre,hC,hps⟩
  · rename_i j want hg
    split at hc
    case h_2=>cases hc
    rename_i t ht
    split at hc
    case isFalse=>cases hc
    rename_i htn
    cases hc
    simp only [cP] at h
    split at h
    case h_3=>exact h.elim
    case h_2 =>
      rename_i cs hb
      have hga:bh all.toArray (sp n sf) o = some (.lit (.bool false)):=by
        unfold bh
        rw [hg]
        simp only [ht,dQ,if_pos htn,hb]
      refine ⟨.skip,sf.put i.dst (.tup []),rfl,h,?_⟩
      rw [cc,hd]
      exact .skip hga
    rename_i b hb
    have hga:bh all.toArray (sp n sf) o = some (.lit (.bool (b == want))):=by
      unfold bh
      rw [hg]
      simp only [ht,dQ,if_pos htn,hb]
    have hsame:sp n (sf.set t (.lit (.bool b))) = sp n sf:=by rw [← hb]; exact kI n sf t
    have h:=h b rfl
    by_cases hbw:b = want
    · rw [if_pos hbw] at h
      obtain ⟨k,sf',hC,hre,hps⟩:=one_m (ops:=all.toArray) (SS:=SS) (locs0:=locs0) hsub hi (by rw [hsame,hga]; simp [hbw]) h
      rw [hsame] at hps
      exact ⟨k,sf',hre,hC,hps⟩
    · rw [if_neg hbw] at h
      refine ⟨.skip,(sf.set t (.lit (.bool b))).put i.dst (.tup []),rfl,h,?_⟩
      rw [cc,hsame,hd]
      exact .skip (by rw [hga]; simp [hbw])
theorem oo (hsub:∀ s,SS s→St.sub ρ s):∀ {l:List Oper} {gl:List GI} {sf:Sf} {acc:List PK} {K:List PK→Sf→Prop},dR P gOf F n heap all l = some gl→preM P F locs0 ρ gl K acc sf →
    ∃ ks sf',PRun P all.toArray ρ (fun _=>SS) locs0 l (sp n sf) ks (sp n sf')∧(∀ k ∈ ks,k.real = true)∧K (acc++ks) sf'
  | [], gl, sf, acc, K, hc, h => by
    simp only [dR] at hc
    cases hc
    exact ⟨[],sf,.nil _,by simp,by simpa [preM] using h⟩
  | o :: r, gl, sf, acc, K, hc, h => by
    simp only [dR] at hc
    split at hc
    case h_2=>cases hc
    rename_i gi gr hgi hgr
    cases hc
    obtain ⟨k,sf',hk,hC,hps⟩:=guard_m (SS:=SS) (locs0:=locs0) (H:=preM P F locs0 ρ gr K) (acc:=acc) hsub hgi (by
      obtain ⟨g,i⟩:=gi
      cases g with
      | none=>exact h
      | some g=>obtain ⟨t,w⟩:=g; exact h)
    obtain ⟨ks,sf2,hr,hre,hK⟩:=oo hsub hgr hC
    exact ⟨k::ks,sf2,.cons hps hr,by simp only [List.mem_cons,forall_eq_or_imp]; exact ⟨hk,hre⟩,by simpa using hK⟩
def oq:List (Bool×GI)→List PK→Prop
  | [],[]=>True
  | (true,_)::r,k::h=>k = .hole∧oq r h
  | (false,_)::r,k::h=>k.real = true∧oq r h
  | _,_=>False
theorem lI (hsub:∀ s,SS s→St.sub ρ s):∀ {l:List Oper} {gl:List GI} {fl:List (Bool×GI)} {sf:Sf} {acc:List PK} {K:List PK→Prop},dR P gOf F n heap all l = some gl→fl.map (·.2) = gl→cR P F locs0 ρ fl K acc sf →
    ∃ ks sf',PRun P all.toArray ρ (fun _=>SS) locs0 l (sp n sf) ks (sp n sf')∧oq fl ks∧K (acc++ks)
  | [], gl, fl, sf, acc, K, hc, hf, h => by
    simp only [dR] at hc
    cases hc
    have:fl = []:=by simpa using hf
    subst this
    exact ⟨[],sf,.nil _,trivial,by simpa [cR] using h⟩
  | o :: r, gl, fl, sf, acc, K, hc, hf, h => by
    simp only [dR] at hc
    split at hc
    case h_2=>cases hc
    rename_i gi gr hgi hgr
    cases hc
    match fl,hf with
    | (true, g) :: fr, hf =>
      simp only [List.map_cons,List.cons.injEq] at hf
      obtain ⟨rfl,hfr⟩:=hf
      have hd:g.i.dst = o.dst:=by
        unfold lE at hgi
        split at hgi
        case h_2=>cases hgi
        split at hgi
        case isFalse=>cases hgi
        rename_i hd
        split at hgi
        · cases hgi; exact hd
        · split at hgi
          · split at hgi
            · cases hgi; exact hd
            · cases hgi
          · cases hgi
      have h:cR P F locs0 ρ fr K (acc++[.hole]) (sf.put g.i.dst .any):=by simpa only [cR] using h
      obtain ⟨ks,sf2,hr,hre,hK⟩:=lI hsub (acc:=acc++[.hole]) (K:=K) hgr hfr h
      refine ⟨.hole::ks,sf2,.cons .hole ?_,⟨rfl,hre⟩,by simpa using hK⟩
      rw [cc,hd] at hr
      exact hr
    | (false, g) :: fr, hf =>
      simp only [List.map_cons,List.cons.injEq] at hf
      obtain ⟨rfl,hfr⟩:=hf
      obtain ⟨k,sf',hk,hC,hps⟩:=guard_m (SS:=SS) (locs0:=locs0) (H:=cR P F locs0 ρ fr K) (acc:=acc) hsub hgi (by
        obtain ⟨g,i⟩:=g
        cases g with
        | none=>exact h
        | some g=>obtain ⟨t,w⟩:=g; exact h)
      obtain ⟨ks,sf2,hr,hre,hK⟩:=lI hsub hgr hfr hC
      exact ⟨k::ks,sf2,.cons hps hr,⟨hk,hre⟩,by simpa using hK⟩
theorem lJ {SS:Option Nat→St→Prop} {l1 l2:List Oper} {fra frb frc:Fr} {k1 k2:List PK} (h1:PRun P ops ρ SS locs0 l1 fra k1 frb) (h2:PRun P ops ρ SS locs0 l2 frb k2 frc):PRun P ops ρ SS locs0 (l1++l2) fra (k1++k2) frc:=by
  induction h1 with
  | nil fr=>exact h2
  | cons h r ih=>exact .cons h (ih h2)
theorem PRun.weakSS {ρ':St} {SS SS':Option Nat→St→Prop} {l:List Oper} {fra frb:Fr} {ks:List PK} (h:PRun P ops ρ SS locs0 l fra ks frb) (hs:∀ d s,SS' d s→SS d s):PRun P ops ρ' SS' locs0 l fra ks frb:=by
  induction h with
  | nil fr=>exact .nil fr
  | cons h r ih =>
    refine .cons ?_ ih
    cases h with
    | skip hg=>exact .skip hg
    | val v hg hp=>exact .val v hg fun s h=>hp s (hs _ s h)
    | call v c f vs hg ho hc he hp=>exact .call v c f vs hg ho hc he fun s h=>hp s (hs _ s h)
    | mk v s hg=>exact .mk v s hg
    | hole=>exact .hole
    | nst t x s hg ho hd hs hsz=>exact .nst t x s hg ho hd hs hsz
    | chole c f vs hg ho hc=>exact .chole c f vs hg ho hc
    | new t s z hg ho hd hz=>exact .new t s z hg ho hd hz
    | store t addr x s cs0 hg ho hd ha hl hlen hs' hsz=>exact .store t addr x s cs0 hg ho hd ha hl hlen hs' hsz
    | app t t2 sx sd k y es v hg ho hd hne hsl hp=>exact .app t t2 sx sd k y es v hg ho hd hne hsl fun s h=>hp s (hs _ s h)
theorem dE:∀ {ks:List PK} {st:St},(∀ k ∈ ks,k.real = true)→stK ks st = st
  | [],_,_=>rfl
  | .mk v s::r,_,h=>by have:=h (.mk v s) (by simp); simp [PK.real] at this
  | .val _::r,_,h=>dE (ks:=r) fun k hk=>h k (by simp [hk])
  | .skip::r,_,h=>dE (ks:=r) fun k hk=>h k (by simp [hk])
  | .new _ _::r,_,h=>dE (ks:=r) fun k hk=>h k (by simp [hk])
  | .store _ _::r,_,h=>dE (ks:=r) fun k hk=>h k (by simp [hk])
  | .app _ _::r,_,h=>dE (ks:=r) fun k hk=>h k (by simp [hk])
  | .hole::r,_,h=>dE (ks:=r) fun k hk=>h k (by simp [hk])
  | .nst _ _::r,_,h=>dE (ks:=r) fun k hk=>h k (by simp [hk])
  | .chole _ _::r,_,h=>dE (ks:=r) fun k hk=>h k (by simp [hk])
theorem run_len {SS:Option Nat→St→Prop} {l:List Oper} {fra frb:Fr} {ks:List PK} (h:PRun P ops ρ SS locs0 l fra ks frb):ks.length = l.length:=by
  induction h with
  | nil fr=>rfl
  | cons h r ih=>simp [ih]
theorem dS:∀ {fl:List (Bool×GI)} {h:List PK},oq fl h→∀ (i:Nat) (k:PK),h[i]? = some k→∃ b g,fl[i]? = some (b,g)∧((b = true∧k = .hole)∨(b = false∧k.real = true))
  | [],[],_,i,k,hk=>by simp at hk
  | [],_::_,h,_,_,_=>h.elim
  | (true,_)::_,[],h,_,_,_=>h.elim
  | (false,_)::_,[],h,_,_,_=>h.elim
  | (true, g) :: r, k0 :: h, ⟨h1, h2⟩, i, k, hk => by
    cases i with
    | zero=>simp at hk; subst hk; exact ⟨true,g,rfl,.inl ⟨rfl,h1⟩⟩
    | succ i=>exact dS h2 i k (by simpa using hk)
  | (false, g) :: r, k0 :: h, ⟨h1, h2⟩, i, k, hk => by
    cases i with
    | zero=>simp at hk; subst hk; exact ⟨false,g,rfl,.inr ⟨rfl,h1⟩⟩
    | succ i=>exact dS h2 i k (by simpa using hk)
theorem jJ:∀ {fl:List (Bool×GI)} {h ks:List PK},e7 fl h ks→h.length = ks.length
  | [],[],[],_=>rfl
  | [],_::_,_,h=>h.elim
  | [],[],_::_,h=>h.elim
  | (true,_)::_,[],_,h=>h.elim
  | (false,_)::_,[],_,h=>h.elim
  | (true,_)::_,_::_,[],h=>h.elim
  | (false,_)::_,_::_,[],h=>h.elim
  | (true, g) :: r, a :: h, b :: k, hc => by
    have hc':e7 r h k:=by cases b <;> first | exact hc.elim | exact hc
    simp [jJ hc']
  | (false,g)::r,a::h,b::k,hc=>by simp [jJ hc.2]
theorem iY:∀ {fl:List (Bool×GI)} {h ks:List PK},e7 fl h ks→∀ (i:Nat) (b:Bool) (g:GI) (k:PK),fl[i]? = some (b,g)→(h[i]? = some k→b = false→ks[i]? = some k)∧(ks[i]? = some k→(∃ s cs,k = .new s cs)→h[i]? = some k)
  | [],_,_,_,i,b,g,k,hf=>by simp at hf
  | (true,_)::_,[],_,h,_,_,_,_,_=>h.elim
  | (true,_)::_,_::_,[],h,_,_,_,_,_=>h.elim
  | (false,_)::_,[],_,h,_,_,_,_,_=>h.elim
  | (false,_)::_,_::_,[],h,_,_,_,_,_=>h.elim
  | (true, _) :: r, a :: h, b :: k, hc, i, b', g, kk, hf => by
    have hc':e7 r h k∧∀ s cs,b≠.new s cs:=by cases b <;> first | exact hc.elim | exact ⟨hc,fun _ _ e=>by cases e⟩
    cases i with
    | zero =>
      simp at hf
      refine ⟨fun _ e=>(by rw [hf.1] at e; cases e),fun e1 ⟨s,cs,e2⟩=>?_⟩
      simp at e1
      exact absurd (e1.trans e2) (hc'.2 s cs)
    | succ i=>simpa using iY hc'.1 i b' g kk (by simpa using hf)
  | (false, _) :: r, a :: h, b :: k, ⟨h1, h2⟩, i, b', g, kk, hf => by
    subst h1
    cases i with
    | zero=>exact ⟨fun e _=>e,fun e _=>e⟩
    | succ i=>simpa using iY h2 i b' g kk (by simpa using hf)
theorem flags_at (opl:List Oper) (k κ:Nat) (gl:List GI) (i:Nat) (b:Bool) (g:GI) (h:(iz opl k κ gl)[i]? = some (b,g)):b = cO opl.toArray k (κ + 1 + i) κ:=by
  simp only [iz,List.getElem?_map,Option.map_eq_some_iff,List.getElem?_zipIdx] at h
  obtain ⟨p,⟨q,hq,rfl⟩,h2⟩:=h
  simp at h2
  exact h2.1.symm
theorem nc (opl:List Oper) (k κ:Nat) (gl:List GI):(iz opl k κ gl).map (·.2) = gl:=by
  simp only [iz,List.map_map]
  have:((fun x:Bool×GI=>x.2) ∘ fun p:GI×Nat=>(cO opl.toArray k (κ + 1 + p.2) κ,p.1)) = Prod.fst:=by funext p; rfl
  rw [this,List.zipIdx_map_fst]
def PK.inert:PK→Bool
  | .mk _ _ | .hole | .chole _ _=>true
  | _=>false
theorem nf {x:PK} (hx:x.inert = true):∀ (a b:List PK),aR (a++x::b) = aR (a++b)
  | [],b=>by cases x <;> first | rfl | cases hx
  | k::a,b=>by cases k <;> simp [aR,nf hx a b]
theorem news_in {x:PK} (hx:x.inert = true):∀ (a b:List PK),bA (a++x::b) = bA (a++b)
  | [],b=>by cases x <;> first | rfl | cases hx
  | k::a,b=>by cases k <;> simp [bA,news_in hx a b]
theorem apps_in {x:PK} (hx:x.inert = true):∀ (a b:List PK),bQ (a++x::b) = bQ (a++b)
  | [],b=>by cases x <;> first | rfl | cases hx
  | k::a,b=>by cases k <;> simp [bQ,apps_in hx a b]
theorem nsts_in {x:PK} (hx:x.inert = true):∀ (a b:List PK),bR (a++x::b) = bR (a++b)
  | [],b=>by cases x <;> first | rfl | cases hx
  | k::a,b=>by cases k <;> simp [bR,nsts_in hx a b]
theorem nstB_in {x:PK} (hx:x.inert = true):∀ (a b:List PK) (seen:List (Nat×Nat)),nstB seen (a++x::b) = nstB seen (a++b)
  | [],b,_=>by cases x <;> first | rfl | cases hx
  | k::a,b,seen=>by cases k <;> simp [nstB,nstB_in hx a b]
theorem nstOf_in {x:PK} (hx:x.inert = true) (s:Nat):∀ (a b:List PK),ck s (a++x::b) = ck s (a++b)
  | [],b=>by cases x <;> first | rfl | cases hx
  | k::a,b=>by cases k <;> simp [ck,nstOf_in hx s a b]
theorem finSS_in {x:PK} (hx:x.inert = true):∀ (a b:List PK) (sf:Sf),cX (a++x::b) sf = cX (a++b) sf
  | [],b,_=>by cases x <;> first | rfl | cases hx
  | k::a,b,sf=>by cases k <;> simp [cX,finSS_in hx a b]
theorem finNN_in {x:PK} (hx:x.inert = true) (all:List PK):∀ (a b:List PK) (sf:Sf),b9 all (a++x::b) sf = b9 all (a++b) sf
  | [],b,_=>by cases x <;> first | rfl | cases hx
  | k::a,b,sf=>by cases k <;> simp [b9,finNN_in hx all a b]
theorem ng {all all':List PK} (h:∀ s,ck s all = ck s all'):∀ (a:List PK) (sf:Sf),b9 all a sf = b9 all' a sf
  | [],_=>rfl
  | k::a,sf=>by cases k <;> simp [b9,ng h a,h]
theorem ksB_in {x:PK} (hx:x.inert = true) (drop:List Nat) (a b:List PK):ksB drop (a++x::b) = ksB drop (a++b):=by
  unfold ksB
  rw [nf hx,news_in hx,apps_in hx,nsts_in hx,nstB_in hx]
theorem fin_in {x:PK} (hx:x.inert = true) (a b:List PK) (sf:Sf):b9 (a++x::b) (a++x::b) (cX (a++x::b) sf) = b9 (a++b) (a++b) (cX (a++b) sf):=by
  rw [finSS_in hx,finNN_in hx,ng (fun s=>nstOf_in hx s a b)]
end
end Go.Fx
/- Ranges over functions: the loop's record, the rounds, the marks. -/
namespace Go.Fx
open Go Go.RowKit Go.Lib
section
variable {P:Program} {m:Bool} {E:Ent} {g g':Gh} {w w':World} {fr fr':Fr} {st st':St} {a a':Act}
def Gh.newC (g:Gh) (b:Nat) (c:Cls):Gh:={ g with cls:=fun k=>if k = b then some c else g.cls k }
theorem wr_put (w:World) (b:Nat) (o:Obj):Wr w b (w.putObj b o):=⟨rfl,rfl,rfl,by simp,fun _ hk=>World.putObj_heap_other hk⟩
def RegsR (g:Gh) (r:Loop) (rs:List (Nat×AV)):Prop:=∀ p ∈ rs,R g p.2 (r.tmps.getD p.1 undef)∧∀ c ∈ p.2.cells,c.noOwn
def St.drop (st:St) (id:Nat):St:=⟨st.boxes.set id none⟩
theorem drop_box {id id':Nat} {b:Box} (h:(st.drop id).boxes[id']? = some (some b)):id'≠id∧st.boxes[id']? = some (some b):=by
  simp only [St.drop] at h
  by_cases e:id' = id
  · subst e
    rw [List.getElem?_set] at h
    simp at h
  · rw [List.getElem?_set_ne (fun q=>e q.symm)] at h
    exact ⟨e,h⟩
def Ext (m:Bool) (E E':Ent):Prop :=
  E' = E∨(m = false∧E'.d = E.d∧E'.N = E.N∧E'.lo = E.lo∧E.w.heap.size≤E'.w.heap.size∧∀ g w,Mv false E.N E.d E'.g E'.w g w→Mv false E.N E.d E.g E.w g w)
theorem Ext.refl (m:Bool) (E:Ent):Ext m E E:=.inl rfl
theorem Ext.trans {E1 E2 E3:Ent} (h:Ext m E1 E2) (k:Ext m E2 E3):Ext m E1 E3:=by
  rcases h with rfl | ⟨h1,h2,h3,h4,h6,h5⟩
  · exact k
  rcases k with rfl | ⟨k1,k2,k3,k4,k6,k5⟩
  · exact .inr ⟨h1,h2,h3,h4,h6,h5⟩
  · rw [h2,h3] at k5
    exact .inr ⟨h1,k2.trans h2,k3.trans h3,k4.trans h4,Nat.le_trans h6 k6,fun g w q=>h5 g w (k5 g w q)⟩
theorem Ext.dd {E E':Ent} (h:Ext m E E'):E'.d = E.d:=by rcases h with rfl | h; rfl; exact h.2.1
theorem Ext.NN {E E':Ent} (h:Ext m E E'):E'.N = E.N:=by rcases h with rfl | h; rfl; exact h.2.2.1
theorem Ext.szw {E E':Ent} (h:Ext m E E'):E.w.heap.size≤E'.w.heap.size:=by rcases h with rfl | h; exact Nat.le_refl _; exact h.2.2.2.2.1
theorem Ext.lolo {E E':Ent} (h:Ext m E E'):E'.lo = E.lo:=by rcases h with rfl | h; rfl; exact h.2.2.2.1
theorem Ok.ext (h:Ok false E g w fr st a):Ext false E ⟨E.d,E.N,g,w,st,E.lo⟩:=.inr ⟨rfl,rfl,rfl,rfl,h.mv.size,fun _ _ k=>h.mv.trans k⟩
theorem Ok.putD (h:Ok false E g w fr st a) {D dd s:Nat} (hD:g.cls D = some (.loc dd s)) (hdd:dd≠E.d) (hE:E.g.cls D = none) (hb:E.g.base≤D) (o:Obj):Ok false E g (w.putObj D o) fr st a:=by
  have hg:=h.ctx.good
  have hw:=wr_put w D o
  have hi:∀ q,g.imm D q = none:=fun q=>by
    cases hh:g.imm D q with
    | none=>rfl
    | some u=>rcases hg.immc D q u hh with h1 | ⟨L,h1⟩ <;> rw [hD] at h1 <;> cases h1
  have hgood:Good g (w.putObj D o):=by
    refine ⟨fun k o' u hh=>?_,hg.immc,fun k c' hk=>?_,by rw [hw.size]; exact hg.base⟩
    · have hne:k≠D:=fun e=>by subst e; rw [hi o'] at hh; cases hh
      have:=hg.imm k o' u hh
      unfold World.cell? at this ⊢
      rw [hw.other k hne]; exact this
    · rw [hw.size]; exact hg.cls k c' hk
  have hown:∀ {N:Nat} {L:Loc} {x:AV} {u:Value},Own g w N L x u→Own g (w.putObj D o) N L x u:=by
    intro N L x u ho
    refine ⟨fun k es e=>?_,fun id s l stp e=>?_⟩
    · rcases ho.1 k es e with h0 | ⟨b,q,c,cur,T,h1,hN,h2,h3,h4⟩
      · exact .inl h0
      · have hne:b≠D:=fun e=>by subst e; rw [hD] at h2; cases h2
        exact .inr ⟨b,q,c,cur,T,h1,hN,h2,by rw [hw.other b hne]; exact h3,h4⟩
    · obtain ⟨b,mb,sp,h1,hN,h2,h3,h4⟩:=ho.2 id s l stp e
      have hne:b≠D:=fun e=>by subst e; rw [hD] at h2; cases h2
      exact ⟨b,mb,sp,h1,hN,h2,by rw [hw.other b hne]; exact h3,h4⟩
  refine ⟨h.size,fun t v u hv hu=>⟨(h.slots t v u hv hu).1,fun i c x hc hx=>hown ((h.slots t v u hv hu).2 i c x hc hx)⟩,⟨hgood,fun t cs hc=>?_,⟨h.ctx.box.1,fun id cs hc=>?_,fun id bx hc hob=>?_⟩⟩,h.defers,?_,fun e=>(by cases e),by rw [hw.size]; exact h.hN,h.hm⟩
  · obtain ⟨b,us,T,h1,hN,h2,h3,h4,h5⟩:=h.ctx.loc t cs hc
    have hne:b≠D:=fun e=>by subst e; rw [hD] at h2; cases h2; exact hdd rfl
    exact ⟨b,us,T,h1,hN,h2,by rw [hw.other b hne]; exact h3,h4,fun i c x hc hx=>⟨(h5 i c x hc hx).1,hown (h5 i c x hc hx).2⟩⟩
  · obtain ⟨b,us,T,h1,h2,h3,h4,h5,h6⟩:=h.ctx.box.2.1 id cs hc
    have hne:b≠D:=fun e=>by subst e; rw [hD] at h2; cases h2
    exact ⟨b,us,T,h1,h2,by rw [hw.other b hne]; exact h3,h4,fun i c x hc hx=>⟨(h5 i c x hc hx).1,hown (h5 i c x hc hx).2⟩,h6⟩
  · obtain ⟨b,o',h1,h2,h3,h4⟩:=h.ctx.box.2.2 id bx hc hob
    have hne:b≠D:=fun e=>by subst e; rw [hD] at h2; cases h2
    exact ⟨b,o',h1,h2,by rw [hw.other b hne]; exact h3,h4⟩
  · have hm:=h.mv
    refine ⟨hm.os,hm.tape,hm.output,by rw [hw.size]; exact hm.size,hm.base,fun b hb'=>?_,hm.imm,hm.bx,hm.lb,fun b c hc ho=>?_,(fun e=>by cases e),hgood⟩
    · rw [hw.other b (by omega)]; exact hm.low b hb'
    · have hne:b≠D:=fun e=>by subst e; rw [hE] at hc; cases hc
      rw [hw.other b hne]; exact hm.outer b c hc ho
end
end Go.Fx
/- Code, resolved: what it does, and that the model's code does it. -/
namespace Go.Fx
open Go Go.RowKit Go.Lib
inductive AC where
  | skip
  | ops (lv ll:List Nat) (l:List GI)
  | draw (lv ll drop:List Nat) (hl tl:List GI)
  | drawM (lv ll:List Nat) (pre:List GI) (d:Option Nat) (f:Opd) (args:List Opd) (post:List (Bool×GI)) (tl:List GI)
  | seq (a b:AC)
  | cond (x:Opd) (a b:AC)
  | block (id:Nat) (b:AC)
  | loop (lv ll:List Nat) (b:AC)
  | exit (lv ll:List Nat) (id:Nat)
  | scope (b:AC)
  | ret
  | bad
def go:List Nat→List (Nat×List AV)→List (Nat×List AV)
  | [],_=>[]
  | s :: r, locs => match look s locs with
    | some cs=>(s,cs)::go r locs
    | none=>go r locs
def Sf.mask (lv ll:List Nat) (sf:Sf):Sf:=⟨lv.map fun t=>(t,sf.reg t),go ll sf.locs⟩
def seqQ (C:Sf→St→(Exit→Sf→St→Prop)→Prop) (Q:Exit→Sf→St→Prop):Exit→Sf→St→Prop
  | .normal,sf,st=>C sf st Q
  | e,sf,st=>Q e sf st
def fT (id:Nat) (Q:Exit→Sf→St→Prop):Exit→Sf→St→Prop
  | .exit id',sf,st=>if id' = id then Q .normal sf st else Q (.exit id') sf st
  | e,sf,st=>Q e sf st
def scopeQ (Q:Exit→Sf→St→Prop):Exit→Sf→St→Prop
  | .goto _,_,_=>False
  | e,sf,st=>Q e sf st
def loopQ (I:Nat→Sf→St→Prop) (k:Nat) (lv ll:List Nat) (Q:Exit→Sf→St→Prop):Exit→Sf→St→Prop
  | .normal,sf,st=>∃ k',k' < k∧∃ sf',Sf.le (sf.mask lv ll) sf'∧I k' sf' st
  | e,sf,st=>Q e sf st
def Opd.setB (x:Opd) (sf:Sf) (b:Bool):Sf:=match x with | .r t=>sf.set t (.lit (.bool b)) | _=>sf
def opsK (lv ll:List Nat) (Q:Exit→Sf→St→Prop) (sf:Sf) (st:St):Prop:=Q .normal (sf.mask lv ll) st
def gp (x:Opd) (v:AV) (A B:Sf→St→(Exit→Sf→St→Prop)→Prop) (sf:Sf) (st:St) (Q:Exit→Sf→St→Prop):Prop :=
  match v with
  | .lit (.bool b)=>(b = true→A (x.setB sf true) st Q)∧(b = false→B (x.setB sf false) st Q)
  | _=>False
def aB (C:Sf→St→(Exit→Sf→St→Prop)→Prop) (lv ll:List Nat) (sf:Sf) (st:St) (Q:Exit→Sf→St→Prop):Prop :=
  ∃ I:Nat→Sf→St→Prop,(∃ k sf',Sf.le (sf.mask lv ll) sf'∧I k sf' st)∧∀ k sf st,I k sf st→C sf st (loopQ I k lv ll Q)
def lpBusy (r:Loop):Loop:={ r with state:=.busy }
def lpDone (r:Loop) (c:Code):Loop:={ r with state:=.done,pending:=some c }
def St.isLp (st:St) (id:Nat) (r:Loop) (rs:List (Nat×AV)):Prop:=st.boxes[id]? = some (some (.lp r rs))
def endI (id:Nat) (r:Loop) (rs:List (Nat×AV)) (Q:Bool→St→Prop):Exit→Sf→St→Prop
  | .normal,_,st=>st.isLp id (lpBusy r) rs∧Q true (st.setL id r rs)
  | .ret,_,st=>st.isLp id (lpBusy r) rs∧Q false (st.setL id (lpDone r .ret) rs)
  | .exit k,_,st=>st.isLp id (lpBusy r) rs∧Q false (st.setL id (lpDone r (.exit k)) rs)
  | _,_,_=>False
section
variable (P:Program) (F:Nat→FuncId) (m:Bool)
def dm (drop lv ll:List Nat) (tl:List GI) (Q:Exit→Sf→St→Prop) (st:St) (ks:List PK) (sf:Sf):Prop :=
  ksB drop ks = true∧runI P F m tl (opsK lv ll Q) (b9 ks ks (cX ks sf)) st
def tailM (lv ll:List Nat) (tl:List GI) (Q:Exit→Sf→St→Prop) (st:St) (sf:Sf):Prop:=runI P F m tl (opsK lv ll Q) sf st
def aC:AC→Sf→St→(Exit→Sf→St→Prop)→Prop
  | .skip,sf,st,Q=>Q .normal sf st
  | .ops lv ll l,sf,st,Q=>runI P F m l (opsK lv ll Q) sf st
  | .draw lv ll drop hl tl,sf,st,Q=>aw P F sf.locs st hl (dm P F m drop lv ll tl Q st) [] ⟨sf.regs,dD drop sf.locs⟩
  | .drawM lv ll pre d f args post tl,sf,st,Q=>m = false∧drawM P F pre d f args post sf st (tailM P F m lv ll tl Q)
  | .seq a b,sf,st,Q=>aC a sf st (seqQ (aC b) Q)
  | .cond x a b,sf,st,Q=>gp x (sf.ev F x) (aC a) (aC b) sf st Q
  | .block id b,sf,st,Q=>aC b sf st (fT id Q)
  | .loop lv ll b,sf,st,Q=>aB (aC b) lv ll sf st Q
  | .exit lv ll id,sf,st,Q=>Q (.exit id) (sf.mask lv ll) st
  | .scope b,sf,st,Q=>aC b sf st (scopeQ Q)
  | .ret,sf,st,Q=>Q .ret sf st
  | .bad,_,_,_=>False
end
structure Cx where
  gOf:FuncId→Option Nat
  F:Nat→FuncId
  n:Nat
  heap:Nat→Bool
  mu:Nat→Bool
  ms:Nat→List Nat×List Nat
def ow (sl:Nat→Option Nat):List Oper→List Nat
  | []=>[]
  | o :: r => (match o.op, o.dst with
    | .alloc _,some s=>[s]
    | .store _ (.tmp t) _,none=>(sl t).toList
    | _,_=>[])++ow sl r
section
variable (P:Program) (X:Cx)
def headOf (l:List Oper):Option Nat:=(List.range (l.length + 1)).find? fun k=>dirB l.toArray k
def dstB (n:Nat) (l:List Oper):Bool:=l.all fun o=>match o.dst with | some d=>decide (d < n) | none=>true
def isMk (o:Oper):Bool :=
  match o.op,o.dst,o.guard with
  | .call { callee:=.value _,.. },some s,none=>X.mu s
  | _,_,_=>false
def isGk (o:Oper):Bool :=
  match o.op,o.dst with
  | .call { callee:=.value _,.. },some s=>X.mu s
  | _,_=>false
def growB (l:List Oper):Bool:=(l.filter (isGk X)).any (fun o=>o.guard.isSome) || decide (2≤(l.filter (isGk X)).length)
def compDG (_:Program) (_:Cx) (_:Nat) (_:List Oper) (_:Nat):Option AC:=none
def oz (p:Nat) (ops:List Oper) (k κ:Nat):Option AC :=
  match ops[κ]? with
  | some o => match o.op with
    | .call { callee := .value f, args, .. } =>
      if o.guard = none∧κ < k then
        match opd X.gOf X.F X.n f,opds X.gOf X.F X.n args.toList,dR P X.gOf X.F X.n X.heap ops (ops.take κ),dR P X.gOf X.F X.n X.heap ops ((ops.take k).drop (κ + 1)),lC P X.gOf X.F X.n X.heap X.mu false ops (ops.drop k) with
        | some f,some args,some pre,some post,some tl=>some (.drawM (X.ms p).1 (X.ms p).2 pre o.dst f args (iz ops k κ post) tl)
        | _,_,_,_,_=>none
      else none
    | _=>none
  | none=>none
def chainB (ops:List Oper) (k κ:Nat):Bool :=
  (List.range κ).all (fun i=>cO ops.toArray k κ i && (match ops[i]? with | some o=>o.guard.isNone | none=>false)) &&
  (List.range k).all (fun i=>decide (i≤κ) || cO ops.toArray k i κ) &&
  (ops.take κ).all (fun o=>((ops.take k).drop (κ + 1)).all fun o'=>decide (o.dst≠o'.dst)) &&
  (ops.take κ).any (fun o=>match o.dst with | some d=>X.mu d | none=>false)
def compDC (_:Program) (_:Cx) (_:Nat) (_:List Oper) (_ _:Nat):Option AC:=none
def dV:Code→Bool
  | .seq a b=>dV a && dV b
  | .cond _ a b=>dV a && dV b
  | .block _ b=>dV b
  | .loop b=>dV b
  | .scope b=>dV b
  | .rangeFunc _ _ _ _=>false
  | _=>true
def lK (p:Nat) (ops:List Oper):Option AC :=
  match headOf ops with
  | none=>some .bad
  | some k =>
    if dirB ops.toArray k && consB ops.toArray k && dstB X.n (ops.take k) then
      if growB X (ops.take k) then (match compDG P X p ops k with
        | some c=>some c
        | none=>some .bad) else
      match (ops.take k).findIdx? (isMk X) with
      | some κ => if chainB X ops k κ then (match compDC P X p ops k κ with
        | some c=>some c
        | none=>some .bad) else (match oz P X p ops k κ with
        | some c=>some c
        | none=>some .bad)
      | none=>match dR P X.gOf X.F X.n X.heap ops (ops.take k),lC P X.gOf X.F X.n X.heap X.mu false ops (ops.drop k) with
      | some hl,some tl=>some (.draw (X.ms p).1 (X.ms p).2 (ow some (ops.take k)) hl tl)
      | _,_=>some .bad
    else some .bad
def cS:Nat→Code→Option AC
  | _,.skip=>some .skip
  | _,.label _=>some .skip
  | p,.region _ ops false=>(lC P X.gOf X.F X.n X.heap X.mu false ops.toList ops.toList).map (.ops (X.ms p).1 (X.ms p).2)
  | p,.region _ ops true=>lK P X p (eagL (X.ms 3000000019).1 ops.toList)
  | p, .seq a b => match cS (2 * p) a, cS (2 * p + 1) b with
    | some a,some b=>some (.seq a b)
    | _,_=>none
  | p, .cond c a b => match opd X.gOf X.F X.n c, cS (2 * p) a, cS (2 * p + 1) b with
    | some c,some a,some b=>some (.cond c a b)
    | _,_,_=>none
  | p,.block id b=>(cS (2 * p) b).map (.block id)
  | p,.loop b=>(cS (2 * p) b).map (.loop (X.ms p).1 (X.ms p).2)
  | p,.exit id=>some (.exit (X.ms p).1 (X.ms p).2 id)
  | p,.scope b=>(cS (2 * p) b).map .scope
  | _,.ret=>some .ret
  | _,.goto _=>some .bad
  | _,.rangeFunc _ _ _ _=>some .bad
  | _,.refuse _=>some .bad
end
section
variable {P:Program} {X:Cx} {m:Bool} {E:Ent} {g:Gh} {w:World} {sf:Sf} {st:St} {a:Act}
theorem jK:∀ (ll:List Nat) (locs:List (Nat×List AV)) (s:Nat) (cs:List AV),look s (go ll locs) = some cs→look s locs = some cs
  | [],_,_,_,h=>by simp [go,look] at h
  | t :: r, locs, s, cs, h => by
    simp only [go] at h
    split at h
    · rename_i cs' hl
      simp only [look] at h
      split at h
      · rename_i e; subst e; cases h; exact hl
      · exact jK r locs s cs h
    · exact jK r locs s cs h
theorem gL:∀ (drop:List Nat) (locs:List (Nat×List AV)) (s:Nat) (cs:List AV),look s (dD drop locs) = some cs→look s locs = some cs∧drop.contains s = false
  | _,[],_,_,h=>by simp [dD,look] at h
  | drop, (t, ct) :: r, s, cs, h => by
    simp only [dD] at h
    split at h
    · rename_i hd
      obtain ⟨h1,h2⟩:=gL drop r s cs h
      refine ⟨?_,h2⟩
      simp only [look]
      split
      · rename_i e; subst e; rw [hd] at h2; cases h2
      · exact h1
    · rename_i hd
      simp only [look] at h ⊢
      split
      · rename_i e
        subst e
        simp only [if_true] at h
        exact ⟨h,by simpa using hd⟩
      · rename_i e
        simp only [e,if_false] at h
        exact gL drop r s cs h
theorem nh (f:Nat→AV):∀ (lv:List Nat) (t:Nat),getR (lv.map fun t=>(t,f t)) t = f t∨getR (lv.map fun t=>(t,f t)) t = .any
  | [],t=>.inr rfl
  | q :: r, t => by
    simp only [List.map_cons,getR]
    split
    · rename_i e; subst e; exact .inl rfl
    · exact nh f r t
theorem Ok.forget {fr fr':Fr} (h:Ok m E g w fr st a) (hl:fr'.slots.length = fr.slots.length) (hs:∀ (s:Nat) (v:AV),fr'.slots[s]? = some v→fr.slots[s]? = some v∨v = AV.any) (hlo:∀ s cs,look s fr'.locs = some cs→look s fr.locs = some cs):Ok m E g w fr' st a:=by
  refine ⟨by rw [h.size,hl],fun s v u hv hu=>?_,⟨h.ctx.good,fun s cs hc=>h.ctx.loc s cs (hlo s cs hc),h.ctx.box⟩,h.defers,h.mv,h.pst,h.hN,h.hm⟩
  rcases hs s v hv with h1 | rfl
  · exact h.slots s v u h1 hu
  · exact ⟨R.any _,fun i c x hc _=>Own.of_no (aj (v:=.any) (fun _ e=>by cases e) trivial i c hc)⟩
theorem Ok.mask {n:Nat} (h:Ok m E g w (sp n sf) st a) (lv ll:List Nat):Ok m E g w (sp n (sf.mask lv ll)) st a:=by
  refine h.forget (by simp [fP]) (fun s v hv=>?_) (fun s cs hc=>jK ll sf.locs s cs hc)
  rw [dQ] at hv ⊢
  split at hv
  · rename_i hl
    rw [if_pos hl]
    cases hv
    rcases nh sf.reg lv s with e | e
    · left; exact congrArg some e.symm
    · right; exact e
  · cases hv
theorem dc {f:PK→Option Nat}:∀ {ks:List PK} {l:List Nat},l = ks.filterMap f→aT l = true→∀ (i j s:Nat) (x y:PK),ks[i]? = some x→ks[j]? = some y→f x = some s→f y = some s→i = j
  | [],_,_,_,i,j,s,x,y,hx,_,_,_=>by simp at hx
  | k :: ks, l, hl, hd, i, j, s, x, y, hx, hy, fx, fy => by
    have hmem:∀ (q:Nat) (z:PK),ks[q]? = some z→f z = some s→s ∈ ks.filterMap f:=fun q z hz fz=>List.mem_filterMap.2 ⟨z,List.mem_of_getElem? hz,fz⟩
    cases hk:f k with
    | none =>
      have hl':l = ks.filterMap f:=by rw [hl]; simp [hk]
      cases i with
      | zero=>simp at hx; subst hx; rw [hk] at fx; cases fx
      | succ i => cases j with
        | zero=>simp at hy; subst hy; rw [hk] at fy; cases fy
        | succ j=>exact congrArg Nat.succ (dc hl' hd i j s x y (by simpa using hx) (by simpa using hy) fx fy)
    | some t =>
      have hl':l = t::ks.filterMap f:=by rw [hl]; simp [hk]
      rw [hl'] at hd
      simp only [aT,Bool.and_eq_true,Bool.not_eq_true'] at hd
      cases i with
      | zero => cases j with
        | zero=>rfl
        | succ j =>
          simp at hx hy; subst hx
          rw [hk] at fx; cases fx
          have:=hmem j y hy fy
          rw [List.contains_eq_mem] at hd
          simp [this] at hd
      | succ i => cases j with
        | zero =>
          simp at hx hy; subst hy
          rw [hk] at fy; cases fy
          have:=hmem i x hx fx
          rw [List.contains_eq_mem] at hd
          simp [this] at hd
        | succ j=>exact congrArg Nat.succ (dc rfl hd.2 i j s x y (by simpa using hx) (by simpa using hy) fx fy)
theorem iA:∀ ks:List PK,aR ks = ks.filterMap fun | .store s _=>some s | _=>none
  | []=>rfl
  | k::r=>by cases k <;> simp [aR,iA r]
theorem apps_map:∀ ks:List PK,bQ ks = ks.filterMap fun | .app s _=>some s | _=>none
  | []=>rfl
  | k::r=>by cases k <;> simp [bQ,apps_map r]
theorem lL:∀ ks:List PK,bA ks = ks.filterMap fun | .new s _=>some s | _=>none
  | []=>rfl
  | k::r=>by cases k <;> simp [bA,lL r]
theorem nsts_map:∀ ks:List PK,bR ks = ks.filterMap fun | .nst s _=>some s | _=>none
  | []=>rfl
  | k::r=>by cases k <;> simp [bR,nsts_map r]
theorem nstB_ok:∀ {ks:List PK} {seen:List (Nat×Nat)},nstB seen ks = true→∀ (i s:Nat) cs,ks[i]? = some (.nst s cs)→(s,cs.length) ∈ seen∨∃ k cs0,k < i∧ks[k]? = some (.new s cs0)∧cs0.length = cs.length
  | [],_,_,i,s,cs,hi=>by simp at hi
  | k :: r, seen, h, i, s, cs, hi => by
    have hstep:∀ seen',nstB seen' r = true→(∀ p,p ∈ seen'→p ∈ seen∨∃ cs0,k = .new p.1 cs0∧cs0.length = p.2)→∀ i',i = i' + 1→r[i']? = some (.nst s cs)→(s,cs.length) ∈ seen∨∃ k' cs0,k' < i∧(k::r)[k']? = some (.new s cs0)∧cs0.length = cs.length:=by
      intro seen' h' hsub i' e hi'
      rcases nstB_ok h' i' s cs hi' with hm | ⟨k',cs0,h1,h2,h3⟩
      · rcases hsub _ hm with hm | ⟨cs0,hk,hl⟩
        · exact .inl hm
        · exact .inr ⟨0,cs0,by omega,by simp [hk],hl⟩
      · exact .inr ⟨k' + 1,cs0,by omega,by simpa using h2,h3⟩
    cases i with
    | zero =>
      simp at hi
      subst hi
      simp only [nstB,Bool.and_eq_true] at h
      exact .inl (by simpa [List.contains_eq_mem] using h.1)
    | succ i =>
      simp at hi
      cases k with
      | new t ds =>
        simp only [nstB] at h
        refine hstep _ h (fun p hp=>?_) i rfl hi
        rcases List.mem_cons.1 hp with rfl | hp
        · exact .inr ⟨ds,rfl,rfl⟩
        · exact .inl hp
      | nst t ds =>
        simp only [nstB,Bool.and_eq_true] at h
        exact hstep _ h.2 (fun p hp=>.inl hp) i rfl hi
      | _=>exact hstep seen h (fun p hp=>.inl hp) i rfl hi
theorem oA {drop:List Nat} {ks:List PK} (h:ksB drop ks = true):KsOk ks∧∀ s,drop.contains s = false→∀ (i:Nat) cs,ks[i]?≠some (.store s cs)∧ks[i]?≠some (.new s cs):=by
  unfold ksB at h
  simp only [Bool.and_eq_true] at h
  obtain ⟨⟨⟨⟨⟨⟨h5,h6⟩,h7⟩,h1⟩,h2⟩,h3⟩,h4⟩:=h
  have hs:∀ (i s:Nat) cs,ks[i]? = some (.store s cs)→s ∈ aR ks:=fun i s cs hi=>by rw [iA]; exact List.mem_filterMap.2 ⟨_,List.mem_of_getElem? hi,rfl⟩
  have hn:∀ (i s:Nat) cs,ks[i]? = some (.new s cs)→s ∈ bA ks:=fun i s cs hi=>by rw [lL]; exact List.mem_filterMap.2 ⟨_,List.mem_of_getElem? hi,rfl⟩
  refine ⟨⟨fun i j s cs cs' hi hj=>dc (iA ks) h1 i j s _ _ hi hj rfl rfl,fun i j t v v' hi hj=>dc (apps_map ks) h2 i j t _ _ hi hj rfl rfl,fun i j s cs cs' hi hj=>?_,
    fun i j s cs cs' hi hj=>dc (lL ks) h5 i j s _ _ hi hj rfl rfl,fun i j s cs cs' hi hj=>dc (nsts_map ks) h6 i j s _ _ hi hj rfl rfl,fun i s cs hi=>?_⟩,fun s hd i cs=>⟨fun hi=>?_,fun hi=>?_⟩⟩
  · have:=List.all_eq_true.1 h3 s (hs j s cs' hj)
    have hm:=hn i s cs hi
    rw [List.contains_eq_mem (as:=bA ks)] at this
    simp [hm] at this
  · rcases nstB_ok h7 i s cs hi with hm | hm
    · cases hm
    · exact hm
  · have:=List.all_eq_true.1 h3 s (hs i s cs hi)
    rw [hd] at this; simp at this
  · have:=List.all_eq_true.1 h4 s (hn i s cs hi)
    rw [hd] at this; cases this
theorem dF (n:Nat):∀ (ks:List PK) (sf:Sf),sp n (cX ks sf) = finS ks (sp n sf)
  | [],_=>rfl
  | .store s cs::r,sf=>dF n r _
  | .val _::r,sf=>dF n r _
  | .skip::r,sf=>dF n r _
  | .new _ _::r,sf=>dF n r _
  | .nst _ _::r,sf=>dF n r _
  | .app _ _::r,sf=>dF n r _
  | .mk _ _::r,sf=>dF n r _
  | .hole::r,sf=>dF n r _
  | .chole _ _::r,sf=>dF n r _
theorem dG (n:Nat) (all:List PK):∀ (ks:List PK) (sf:Sf),sp n (b9 all ks sf) = finN all ks (sp n sf)
  | [],_=>rfl
  | .new s cs::r,sf=>by simp only [b9,finN]; rw [dG n all r,jE]
  | .val _::r,sf=>dG n all r _
  | .skip::r,sf=>dG n all r _
  | .store _ _::r,sf=>dG n all r _
  | .nst _ _::r,sf=>dG n all r _
  | .app _ _::r,sf=>dG n all r _
  | .mk _ _::r,sf=>dG n all r _
  | .hole::r,sf=>dG n all r _
  | .chole _ _::r,sf=>dG n all r _
theorem drawM_sound {rd:Option Nat} {p k κ:Nat} {ops:List Oper} {c:AC} (hc:oz P X p ops k κ = some c) (hdir:dirB ops.toArray k = true) (hcons:consB ops.toArray k = true) (hdst:dstB X.n (ops.take k) = true)
    {Q:Exit→Sf→St→Prop} {QQ:Exit→Act→World→Prop} (h:Ok m E g w (sp X.n sf) st a) (hK:aC P X.F m c sf st Q) (hq:∀ e sf st g w a,Ok m E g w (sp X.n sf) st a→Q e sf st→QQ e a w):dP rd P QQ ops.toArray a w:=by
  classical
  unfold oz at hc
  split at hc
  case h_2=>cases hc
  rename_i o ho
  split at hc
  case h_2=>cases hc
  rename_i f args ts hop
  split at hc
  case isFalse=>cases hc
  rename_i hgk
  obtain ⟨hgd,hκ⟩:=hgk
  split at hc
  case h_2=>cases hc
  rename_i f' args' pre post tl hf hargs hpre hpost htl
  cases hc
  obtain ⟨hmf,ρ,hsub,hK⟩:=hK
  generalize f9 pre (iz ops k κ post) = drop at hK
  have hkl:k≤ops.length:=by
    have hB:=hdir
    unfold dirB at hB
    simp only [Bool.and_eq_true,decide_eq_true_eq] at hB
    have:=hB.1.1.1.1
    simpa using this
  have hsplit:ops.take k = ops.take κ++o::(ops.take k).drop (κ + 1):=by
    have h1:(ops.take k).take κ = ops.take κ:=by rw [List.take_take,Nat.min_eq_left (by omega)]
    have h2:(ops.take k)[κ]? = some o:=by rw [List.getElem?_take,if_pos hκ]; exact ho
    obtain ⟨hlt,h3⟩:=List.getElem?_eq_some_iff.1 h2
    have h4:=List.drop_eq_getElem_cons hlt
    rw [h3] at h4
    rw [← h4,← h1,List.take_append_drop]
  have hpl:(ops.take κ).length = κ:=by simp; omega
  -- ahead of the call
  obtain ⟨ks1,sf1,hr1,hv1,hK⟩:=oo (SS:=St.sub ρ) (locs0:=sf.locs) (fun _ h=>h) hpre hK
  have hl1:ks1.length = κ:=by rw [run_len hr1,hpl]
  simp only [atM,lH,List.nil_append] at hK
  split at hK
  case h_2=>exact hK.elim
  rename_i q fs cs hfv
  obtain ⟨hnl,hent,Qc,hA,hK⟩:=hK
  have hmap:=eY hargs sf1
  have hca:f8 (sp X.n sf1) ⟨.value f,args,ts⟩ = some (q,fs++(args'.map (sf1.ev X.F)).map AV.dis++cs):=by
    unfold f8
    simp only [ar hf sf1,hfv,hmap,hnl,if_true]
    congr 3
    rw [← hmap,List.map_map]
    rfl
  have hga:bh ops.toArray (sp X.n sf1) o = some (.lit (.bool true)):=by simp [bh,hgd]
  -- before the call has ended
  obtain ⟨ksh,sfh,hrh,hoh,hK⟩:=lI (SS:=St.sub ρ) (locs0:=sf.locs) (fun _ h=>h) hpost (nc ops k κ post) hK
  simp only [List.nil_append] at hK
  obtain ⟨hkb0,hK⟩:=hK
  have hk0:∀ (kκ:PK) (ks2:List PK),kκ.inert = true→ksB drop (ks1++ks2) = true→ksB drop (ks1++kκ::ks2) = true:=fun kκ ks2 hi hb=>by rw [ksB_in hi]; exact hb
  have hlocs:∀ ks:List PK,ksB drop ks = true→∀ s cs,look s (sp X.n ⟨sf.regs,dD drop sf.locs⟩).locs = some cs→look s (sp X.n sf).locs = some cs∧∀ (i:Nat) cs',ks[i]?≠some (.store s cs')∧ks[i]?≠some (.new s cs'):=by
    intro ks hb s cs hc
    obtain ⟨h1,h2⟩:=gL _ _ _ _ hc
    exact ⟨h1,fun i cs'=>(oA hb).2 s h2 i cs'⟩
  have hdst':∀ o ∈ ops.take k,∀ d,o.dst = some d→d < (sp X.n sf).slots.length:=fun o ho d hd=>by
    have:=List.all_eq_true.1 hdst o ho
    rw [hd] at this
    rw [fP]
    simpa using this
  have hcst:PStep P ops.toArray ρ ((fun _ s=>s = st:Option Nat→St→Prop) o.dst) sf.locs o (sp X.n sf1) (.chole q (fs++(args'.map (sf1.ev X.F)).map AV.dis++cs)) (sp X.n (sf1.put o.dst .any)):=by
    rw [cc]
    exact .chole _ q _ hga hop hca
  have hr1':PRun P ops.toArray ρ (fun _ s=>s = st) sf.locs (ops.take κ) (sp X.n ⟨sf.regs,dD drop sf.locs⟩) ks1 (sp X.n sf1):=hr1.weakSS fun _ _ e=>by rw [e]; assumption
  have hat1:∀ (i:Nat) (x:PK),i < κ→∀ kκ ks2,(ks1++kκ::ks2)[i]? = some x→x.real = true:=by
    intro i x hi kκ ks2 hx
    rw [List.getElem?_append_left (by omega)] at hx
    exact hv1 x (List.mem_of_getElem? hx)
  have hat2:∀ (i:Nat) (x:PK),κ < i→∀ kκ ks2,(ks1++kκ::ks2)[i]? = some x→ks2[i - κ - 1]? = some x:=by
    intro i x hi kκ ks2 hx
    rw [List.getElem?_append_right (by omega),show i - ks1.length = (i - κ - 1) + 1 by omega] at hx
    simpa using hx
  have hatκ:∀ kκ ks2,(ks1++kκ::ks2)[κ]? = some kκ:=fun kκ ks2=>by rw [List.getElem?_append_right (by omega)]; simp [hl1]
  have hnm0:∀ (i:Nat) (x:PK),(ks1++.chole q (fs++(args'.map (sf1.ev X.F)).map AV.dis++cs)::ksh)[i]? = some x→∀ v s,x≠.mk v s:=by
    intro i x hx v s e
    subst e
    rcases Nat.lt_trichotomy i κ with hi | hi | hi
    · have:=hat1 i _ hi _ _ hx; cases this
    · subst hi; rw [hatκ] at hx; cases hx
    · obtain ⟨b,gi,_,hb⟩:=dS hoh _ _ (hat2 i _ hi _ _ hx)
      rcases hb with ⟨_,e⟩ | ⟨_,hb⟩
      · cases e
      · cases hb
  have H0:Head P m E g w (sp X.n sf) st ρ (fun _ s=>s = st) a ops k k (ks1++.chole q (fs++(args'.map (sf1.ev X.F)).map AV.dis++cs)::ksh) (sp X.n ⟨sf.regs,dD drop sf.locs⟩) (sp X.n sfh):=by
    have hb0:=hk0 (.chole q (fs++(args'.map (sf1.ev X.F)).map AV.dis++cs)) ksh rfl hkb0
    refine ⟨h,rfl,hlocs _ hb0,hdir,hcons,hdst',Nat.le_refl k,?_,fun hm=>(by rw [hmf] at hm; cases hm),(oA hb0).1⟩
    rw [hsplit]
    exact lJ hr1' (.cons hcst (hrh.weakSS fun _ _ e=>by rw [e]; assumption))
  -- behind it
  have hω:∀ v s,Qc v s→∃ ks2 sf2,PRun P ops.toArray ρ (fun _ s'=>s' = st∨s' = s) sf.locs ((ops.take k).drop (κ + 1)) (sp X.n (sf1.put o.dst v)) ks2 (sp X.n sf2)∧(∀ x ∈ ks2,x.real = true)∧e7 (iz ops k κ post) ksh ks2∧St.sub ρ s∧finK drop (tailM P X.F m (X.ms p).1 (X.ms p).2 tl Q s) (ks1++ks2) sf2:=by
    intro v s hQ
    obtain ⟨hs,hp⟩:=hK v s hQ
    rw [nc] at hp
    obtain ⟨ks2,sf2,hr2,hv2,hc2,hT⟩:=oo (SS:=fun s'=>s' = st∨s' = s) (locs0:=sf.locs) (fun s' e=>by rcases e with rfl | rfl <;> assumption) hpost hp
    exact ⟨ks2,sf2,hr2,hv2,by simpa using hc2,hs,hT⟩
  let ksω:AV→St→List PK:=fun v s=>if hQ:Qc v s then ks1++.mk v s::(hω v s hQ).choose else []
  let frn:AV→St→Fr:=fun v s=>if hQ:Qc v s then sp X.n (hω v s hQ).choose_spec.choose else sp X.n sf
  have hksω:∀ v s (hQ:Qc v s),ksω v s = ks1++.mk v s::(hω v s hQ).choose:=fun v s hQ=>dif_pos hQ
  have hfrn:∀ v s (hQ:Qc v s),frn v s = sp X.n (hω v s hQ).choose_spec.choose:=fun v s hQ=>dif_pos hQ
  refine head_soundM (κ:=κ) (n:=k) ksω frn hmf hκ H0 (hatκ _ _) (fun i x hx=>?_) (fun i x hx hne hnh=>?_) (fun i hx=>?_) hent hA (fun _=>false) (fun _=>rfl) (fun i e=>by cases e) (fun v s hQ=>?_) (fun v s hQ=>?_) (fun v s hQ i x hne hx=>?_) (fun v s hQ i x hne hx hnh=>?_) (fun v s hQ j s' cs hj=>?_) (fun v s hQ g' w' a' hok=>?_)
  · have hnm:=hnm0 i x hx
    cases x <;> first | rfl | exact absurd rfl (hnm _ _)
  · rcases Nat.lt_trichotomy i κ with hi | hi | hi
    · exact hat1 i x hi _ _ hx
    · exact absurd hi hne
    · obtain ⟨b,gi,_,hb⟩:=dS hoh _ x (hat2 i x hi _ _ hx)
      rcases hb with ⟨_,e⟩ | ⟨_,hb⟩
      · exact absurd e hnh
      · exact hb
  · rcases Nat.lt_trichotomy i κ with hi | hi | hi
    · have:=hat1 i _ hi _ _ hx; cases this
    · subst hi; rw [hatκ] at hx; cases hx
    · obtain ⟨b,gi,hfl,hb⟩:=dS hoh _ _ (hat2 i _ hi _ _ hx)
      rcases hb with ⟨rfl,_⟩ | ⟨_,hb⟩
      · have:=flags_at ops k κ post _ _ _ hfl
        rw [show κ + 1 + (i - κ - 1) = i by omega] at this
        exact this.symm
      · cases hb
  · obtain ⟨hr2,hv2,hc2,hs,hT⟩:=(hω v s hQ).choose_spec.choose_spec
    have hbω:=hk0 (.mk v s) _ rfl hT.1
    refine ⟨fun _ s'=>s' = st∨s' = s,?_,fun _ _ _ _ _ _=>.inr rfl⟩
    rw [hksω v s hQ,hfrn v s hQ]
    refine ⟨h,rfl,hlocs _ hbω,hdir,hcons,hdst',Nat.le_refl k,?_,fun hm=>(by rw [hmf] at hm; cases hm),(oA hbω).1⟩
    · have hrr:=lJ (hr1.weakSS (SS':=fun _ s'=>s' = st∨s' = s) fun _ s' e=>by rcases e with rfl | rfl <;> assumption) (.cons (k:=.mk v s) (by rw [cc]; exact .mk v s hga) hr2)
      exact (congrArg (fun z=>PRun P ops.toArray ρ (fun _ s'=>s' = st∨s' = s) sf.locs z (sp X.n ⟨sf.regs,dD drop sf.locs⟩) (ks1++.mk v s::(hω v s hQ).choose) (sp X.n (hω v s hQ).choose_spec.choose)) hsplit).mpr hrr
  · rw [hksω v s hQ]; exact hatκ _ _
  · rw [hksω v s hQ] at hx
    obtain ⟨hr2,hv2,hc2,hs,hT⟩:=(hω v s hQ).choose_spec.choose_spec
    rcases Nat.lt_trichotomy i κ with hi | hi | hi
    · exact hat1 i x hi _ _ hx
    · exact absurd hi hne
    · exact hv2 x (List.mem_of_getElem? (hat2 i x hi _ _ hx))
  · rw [hksω v s hQ]
    obtain ⟨hr2,hv2,hc2,hs,hT⟩:=(hω v s hQ).choose_spec.choose_spec
    rcases Nat.lt_trichotomy i κ with hi | hi | hi
    · rw [List.getElem?_append_left (by omega)] at hx ⊢; exact hx
    · exact absurd hi hne
    · have hx2:=hat2 i x hi _ _ hx
      obtain ⟨b,gi,hfl,hb⟩:=dS hoh _ x hx2
      rcases hb with ⟨_,e⟩ | ⟨hbf,_⟩
      · exact absurd e hnh
      · have:=(iY hc2 _ b gi x hfl).1 hx2 hbf
        rw [List.getElem?_append_right (by omega),show i - ks1.length = (i - κ - 1) + 1 by omega]
        simpa using this
  · rw [hksω v s hQ] at hj
    obtain ⟨hr2,hv2,hc2,hs,hT⟩:=(hω v s hQ).choose_spec.choose_spec
    rcases Nat.lt_trichotomy j κ with hi | hi | hi
    · rw [List.getElem?_append_left (by omega)] at hj ⊢; exact hj
    · subst hi; rw [hatκ] at hj; cases hj
    · have hx2:=hat2 j _ hi _ _ hj
      have hlen:=jJ hc2
      have hlt:j - κ - 1 < ksh.length:=by rw [hlen]; exact (List.getElem?_eq_some_iff.1 hx2).1
      obtain ⟨b,gi,hfl,_⟩:=dS hoh _ _ (List.getElem?_eq_getElem hlt)
      have:=(iY hc2 _ b gi _ hfl).2 hx2 ⟨_,_,rfl⟩
      rw [List.getElem?_append_right (by omega),show j - ks1.length = (j - κ - 1) + 1 by omega]
      simpa using this
  · rw [hksω v s hQ,hfrn v s hQ,← dF,← dG,fin_in rfl] at hok
    obtain ⟨hr2,hv2,hc2,hs,hT⟩:=(hω v s hQ).choose_spec.choose_spec
    exact db (Q:=QQ) htl hok hT.2 fun sf st g w a hok hk=>hq _ _ _ _ _ _ (hok.mask _ _) hk
def RegT (g:Gh) (regs:List (Nat×AV)) (tmps:Array Value):Prop:=∀ t,R g (getR regs t) (tmps.getD t undef)∧∀ c ∈ (getR regs t).cells,c.noOwn
theorem getR_mem:∀ (l:List (Nat×AV)) (t:Nat),getR l t = .any∨(t,getR l t) ∈ l
  | [],_=>.inl rfl
  | (q, v) :: r, t => by
    simp only [getR]
    split
    · rename_i e; subst e; exact .inr (List.mem_cons_self ..)
    · exact (getR_mem r t).imp id (List.mem_cons_of_mem _)
theorem RegT.of {g:Gh} {r:Loop} {rs:List (Nat×AV)} (h:RegsR g r rs):RegT g rs r.tmps:=fun t=>by
  rcases getR_mem rs t with e | e
  · rw [e]; exact ⟨R.any _,fun c hc=>by simp [AV.cells] at hc; subst hc; trivial⟩
  · exact h _ e
theorem Ext.mvE {E E':Ent} (h:Ext false E E') {g:Gh} {w:World} (hm:Mv false E'.N E'.d E'.g E'.w g w):Mv false E.N E.d E.g E.w g w:=by
  rcases h with rfl | ⟨_,h2,h3,_,_,h5⟩
  · exact hm
  · rw [h2,h3] at hm; exact h5 _ _ hm
def WalkS (P:Program) (X:Cx) (m:Bool) (c:Code) (ac:AC):Prop :=
  ∀ {rd:Option Nat} {E:Ent} {sf:Sf} {st:St} {g:Gh} {w:World} {a:Act} {Q:Exit→Sf→St→Prop} {QQ:Exit→Act→World→Prop},((rd = none∧1≤E.d∧E.lo≤E.w.heap.size)∨dV c = true) →
    Ok m E g w (sp X.n sf) st a→aC P X.F m ac sf st Q→(∀ E' e sf st g w a,Ext m E E'→Ok m E' g w (sp X.n sf) st a→Q e sf st→QQ e a w)→c.wpIn (FW rd) 0 P QQ a w
def noPan (Q:Exit→Sf→St→Prop):Exit→Sf→St→Prop
  | .panic _,_,_=>False
  | e,sf,st=>Q e sf st
def noPanic (Q:Exit→Act→World→Prop):Exit→Act→World→Prop
  | .panic _,_,_=>False
  | e,a,w=>Q e a w
theorem compDr_np {p:Nat} {ops:List Oper} {c:AC} (hc:lK P X p ops = some c) {Q:Exit→Sf→St→Prop} (hK:aC P X.F m c sf st Q):aC P X.F m c sf st (noPan Q):=by
  unfold lK at hc
  split at hc
  · cases hc; exact hK
  split at hc
  case isFalse=>cases hc; exact hK
  split at hc
  · split at hc
    · rename_i c hcd
      cases hc
      unfold compDG at hcd
      repeat' (split at hcd)
      all_goals first | cases hcd | skip
      all_goals exact hK
    · cases hc; exact hK
  split at hc
  · split at hc
    · split at hc
      · rename_i c hcd
        cases hc
        unfold compDC at hcd
        repeat' (split at hcd)
        all_goals first | cases hcd | skip
        all_goals exact hK
      · cases hc; exact hK
    split at hc
    · rename_i c hcd
      cases hc
      unfold oz at hcd
      repeat' (split at hcd)
      all_goals first | cases hcd | skip
      all_goals exact hK
    · cases hc; exact hK
  split at hc
  · cases hc; exact hK
  · cases hc; exact hK
theorem regR_sound {rd:Option Nat} {p:Nat} {ops:List Oper} {c:AC} (hc:lK P X p ops = some c) {Q:Exit→Sf→St→Prop} {QQ:Exit→Act→World→Prop} (h:Ok m E g w (sp X.n sf) st a) (hK:aC P X.F m c sf st Q)
    (hq:∀ e sf st g w a,Ok m E g w (sp X.n sf) st a→Q e sf st→QQ e a w):dP rd P QQ ops.toArray a w:=by
  unfold lK at hc
  split at hc
  · cases hc; exact hK.elim
  rename_i k hk
  split at hc
  case isFalse=>cases hc; exact hK.elim
  rename_i hB
  simp only [Bool.and_eq_true] at hB
  split at hc
  · split at hc
    · rename_i c hcd
      cases hc
      cases hcd
    · cases hc; exact hK.elim
  split at hc
  · rename_i κ hκ
    split at hc
    · rename_i hch
      split at hc
      · rename_i c hcd
        cases hc
        cases hcd
      · cases hc; exact hK.elim
    split at hc
    · rename_i c hcd
      cases hc
      exact drawM_sound hcd hB.1.1 hB.1.2 hB.2 h hK hq
    · cases hc; exact hK.elim
  split at hc
  case h_2=>cases hc; exact hK.elim
  rename_i hl tl hhl htl
  cases hc
  simp only [aC] at hK
  obtain ⟨ks,sf1,hrun,hre,hks,hK⟩:=gn hhl hK
  simp only [List.nil_append] at hks hK
  obtain ⟨hko,hdrop⟩:=oA hks
  have H:Head P m E g w (sp X.n sf) st st (fun _ s=>s = st) a ops k k ks (sp X.n ⟨sf.regs,dD (ow some (ops.take k)) sf.locs⟩) (sp X.n sf1):=by
    refine ⟨h,rfl,fun s cs hc=>?_,hB.1.1,hB.1.2,fun o ho d hd=>?_,Nat.le_refl k,hrun,fun _ j v s hj=>absurd (hre _ (List.mem_of_getElem? hj)) (by simp [PK.real]),hko⟩
    · obtain ⟨h1,h2⟩:=gL _ _ _ _ hc
      exact ⟨h1,fun i cs'=>hdrop s h2 i cs'⟩
    · have:=List.all_eq_true.1 hB.2 o ho
      rw [hd] at this
      rw [fP]
      simpa using this
  refine head_sound H (fun _=>rfl) (fun j k hj=>hre k (List.mem_of_getElem? hj)) fun g' w' a' hok=>?_
  rw [← dF,← dG,dE hre] at hok
  exact db (Q:=QQ) htl hok hK fun sf st g w a hok hk=>hq _ _ _ _ _ _ (hok.mask _ _) hk
theorem aC_sound (hmix:P.follows .mixedOrders = true) (c:Code):∀ (p:Nat) (ac:AC),cS P X p c = some ac→WalkS P X m c ac:=by
  induction c with
  | skip =>
    intro p ac hc rd E sf st g w a Q QQ hrd h hK hq
    simp only [cS] at hc; cases hc
    exact wpIn_skip (hq _ _ _ _ _ _ _ (.refl _ _) h hK)
  | label l =>
    intro p ac hc rd E sf st g w a Q QQ hrd h hK hq
    simp only [cS] at hc; cases hc
    exact wpIn_label (hq _ _ _ _ _ _ _ (.refl _ _) h hK)
  | region id ops draw =>
    intro p ac hc rd E sf st g w a Q QQ hrd h hK hq
    have hq:=fun e sf st g w a=>hq E e sf st g w a (.refl _ _)
    cases draw with
    | false =>
      simp only [cS] at hc
      obtain ⟨gl,hgl,rfl⟩:=map_some hc
      refine wpIn_region_list ?_
      have:=db (rd:=rd) (Q:=QQ) hgl h hK fun sf st g w a hok hk=>hq _ _ _ _ _ _ (hok.mask _ _) hk
      simpa using this
    | true =>
      simp only [cS] at hc
      have hr:=regR_sound (rd:=rd) (QQ:=noPanic QQ) hc h (compDr_np hc hK) fun e sf st g w a hok hk=>(by cases e <;> first | exact hk.elim | exact hq _ _ _ _ _ _ hok hk)
      have h2:=eagL_any (fun c a w hp=>hp) _ _ hr
      have hto:ops.toList.toArray = ops:=by simp
      rw [hto] at h2
      exact wpIn_mono (h2.wp hmix) fun e a w hp=>(by cases e <;> first | exact hp.elim | exact hp)
  | seq x y ihx ihy =>
    intro p ac hc rd E sf st g w a Q QQ hrd h hK hq
    simp only [cS] at hc
    split at hc
    case h_2=>cases hc
    rename_i ax ay hx hy
    cases hc
    simp only [dV,Bool.and_eq_true] at hrd
    refine wpIn_seq (ihx _ ax hx (hrd.imp id (·.1)) h hK fun E' e sf st g w a hE hok hk=>?_)
    cases e with
    | normal=>exact ihy _ ay hy (hrd.imp (fun q=>⟨q.1,by rw [hE.dd]; exact q.2.1,by rw [hE.lolo]; exact Nat.le_trans q.2.2 hE.szw⟩) (·.2)) hok hk fun E'' e sf st g w a hE'=>hq _ _ _ _ _ _ _ (hE.trans hE')
    | _=>exact hq _ _ _ _ _ _ _ hE hok hk
  | cond c x y ihx ihy =>
    intro p ac hc rd E sf st g w a Q QQ hrd h hK hq
    simp only [cS] at hc
    split at hc
    case h_2=>cases hc
    rename_i c' ax ay hcc hx hy
    cases hc
    simp only [dV,Bool.and_eq_true] at hrd
    simp only [aC,gp] at hK
    split at hK
    case h_2=>exact hK.elim
    rename_i b hb
    have hev:=h.ev c
    rw [ar hcc sf,hb] at hev
    have hval:=hev.lit_inv.1
    have hset:Ok m E g w (sp X.n (c'.setB sf b)) st a:=by
      cases c' with
      | r t =>
        simp only [Opd.setB]
        have hbt:sf.reg t = .lit (.bool b):=hb
        rw [← hbt,kI]; exact h
      | c v=>exact h
      | f q=>exact h
    refine wpIn_cond hval ?_
    cases b with
    | true=>exact ihx _ ax hx (hrd.imp id (·.1)) hset (hK.1 rfl) hq
    | false=>exact ihy _ ay hy (hrd.imp id (·.2)) hset (hK.2 rfl) hq
  | block id b ih =>
    intro p ac hc rd E sf st g w a Q QQ hrd h hK hq
    simp only [cS] at hc
    obtain ⟨ab,hb,rfl⟩:=map_some hc
    refine wpIn_block (ih _ ab hb hrd h hK fun E' e sf st g w a hE hok hk=>?_)
    cases e with
    | exit id' =>
      simp only [fT] at hk
      simp only [Exit.inBlock]
      split
      · rename_i e; rw [if_pos e] at hk; exact hq _ _ _ _ _ _ _ hE hok hk
      · rename_i e; rw [if_neg e] at hk; exact hq _ _ _ _ _ _ _ hE hok hk
    | _=>exact hq _ _ _ _ _ _ _ hE hok hk
  | loop b ih =>
    intro p ac hc rd E sf st g w a Q QQ hrd h hK hq
    simp only [cS] at hc
    obtain ⟨ab,hb,rfl⟩:=map_some hc
    obtain ⟨I,⟨k0,sf0,hle0,hI0⟩,hround⟩:=hK
    refine wpIn_loop_ghost (fun k a w=>∃ E' sf st g,Ext m E E'∧Ok m E' g w (sp X.n sf) st a∧I k sf st) k0 ⟨E,_,_,_,.refl _ _,(h.mask _ _).weakS hle0,hI0⟩ fun k a w ⟨E',sf,st,g,hE,hok,hI⟩=>?_
    refine ih _ ab hb (hrd.imp (fun q=>⟨q.1,by rw [hE.dd]; exact q.2.1,by rw [hE.lolo]; exact Nat.le_trans q.2.2 hE.szw⟩) id) hok (hround k sf st hI) fun E'' e sf st g w a hE' hok hk=>?_
    cases e with
    | normal=>obtain ⟨k',hlt,sf',hle',hI'⟩:=hk; exact ⟨k',hlt,_,_,_,_,hE.trans hE',(hok.mask _ _).weakS hle',hI'⟩
    | _=>exact hq _ _ _ _ _ _ _ (hE.trans hE') hok hk
  | exit id =>
    intro p ac hc rd E sf st g w a Q QQ hrd h hK hq
    simp only [cS] at hc; cases hc
    exact wpIn_exit (hq _ _ _ _ _ _ _ (.refl _ _) (h.mask _ _) hK)
  | scope b ih =>
    intro p ac hc rd E sf st g w a Q QQ hrd h hK hq
    simp only [cS] at hc
    obtain ⟨ab,hb,rfl⟩:=map_some hc
    refine g8 (ih _ ab hb hrd h hK fun E' e sf st g w a hE hok hk=>?_)
    cases e with
    | goto l=>exact hk.elim
    | _=>exact hq _ _ _ _ _ _ _ hE hok hk
  | ret =>
    intro p ac hc rd E sf st g w a Q QQ hrd h hK hq
    simp only [cS] at hc; cases hc
    exact wpIn_ret (hq _ _ _ _ _ _ _ (.refl _ _) h hK)
  | goto l=>intro p ac hc rd E sf st g w a Q QQ hrd h hK hq; simp only [cS] at hc; cases hc; exact hK.elim
  | rangeFunc f ps x y ihx ihy=>intro p ac hc rd E sf st g w a Q QQ hrd h hK hq; simp only [cS] at hc; cases hc; exact hK.elim
  | refuse s=>intro p ac hc rd E sf st g w a Q QQ hrd h hK hq; simp only [cS] at hc; cases hc; exact hK.elim
end
end Go.Fx
/- Functions, resolved: their contracts. -/
namespace Go.Fx
open Go Go.RowKit Go.Lib
inductive RI where
  | tmp (t:Nat)
  | cell (t:Nat) (k:Option Nat)
structure AFun where
  n:Nat
  rs:List RI
  body:AC
def resI (sf:Sf) (st:St):RI→Res AV
  | .tmp t=>.ok (sf.reg t).dis
  | .cell t k=>(aa sf st (sf.reg t)).bind fun cs=>(ia k cs).bind fun v=>.ok v.dis
def resL (sf:Sf) (st:St):List RI→Res (List AV)
  | []=>.ok []
  | r::rs=>(resI sf st r).bind fun v=>(resL sf st rs).bind fun vs=>.ok (v::vs)
def retI (rs:List RI) (sf:Sf) (st:St):Res AV :=
  match rs with
  | [.tmp t]=>.ok (sf.reg t)
  | [r]=>resI sf st r
  | rs=>(resL sf st rs).bind fun vs=>if vs.all AV.noL = true then .ok (.tup vs) else .fail
def retQ (rs:List RI) (K:AV→St→Prop):Exit→Sf→St→Prop
  | .normal,sf,st=>(retI rs sf st).wp fun v=>v.noL = true∧K v st
  | .ret,sf,st=>(retI rs sf st).wp fun v=>v.noL = true∧K v st
  | _,_,_=>False
def iZ:Nat→List AV→List (Nat×AV)
  | _,[]=>[]
  | i,v::r=>(i,v.dis)::iZ (i + 1) r
def aFun (P:Program) (F:Nat→FuncId) (m:Bool) (fn:AFun) (vs:List AV) (st:St) (K:AV→St→Prop):Prop :=
  aC P F m fn.body ⟨iZ 0 vs,[]⟩ st (retQ fn.rs K)
section
variable (P:Program) (X:Cx)
def fq (n:Nat):List ResultVar→Option (List RI)
  | []=>some []
  | .tmp t::r=>if t < n then (fq n r).map (.tmp t::·) else none
  | .cell t T::r=>if t < n then (match j8 P T,fq n r with
      | some k,some rs=>some (.cell t k::rs)
      | _,_=>none) else none
def ii (f:FuncId):Option AFun :=
  match P.funcs[f]? with
  | some fn => match fn.body with
    | some c=>if X.n = fn.ntmps∧fn.params.size + fn.nfree≤fn.ntmps then
        match cS P X 1 c,fq P X.n fn.results.toList with
        | some b,some rs=>some ⟨X.n,rs,b⟩
        | _,_=>none
      else none
    | none=>none
  | none=>none
end
section
variable {P:Program} {X:Cx} {m:Bool} {E:Ent} {g:Gh} {w:World} {sf:Sf} {st:St} {a:Act}
theorem lM:∀ (vs:List AV) (i t:Nat),getR (iZ i vs) t = if i≤t∧t < i + vs.length then (vs.getD (t - i) .any).dis else .any
  | [], i, t => by
    have:¬ (i≤t∧t < i + ([]:List AV).length):=by simp
    rw [if_neg this]; rfl
  | v :: r, i, t => by
    simp only [iZ,getR,lM r (i + 1) t,List.length_cons]
    by_cases h:i = t
    · subst h
      simp
    · rw [if_neg h]
      by_cases h2:i + 1≤t∧t < i + 1 + r.length
      · have h3:i≤t∧t < i + (r.length + 1):=by omega
        rw [if_pos h2,if_pos h3]
        obtain ⟨q,rfl⟩:∃ q,t = i + 1 + q:=⟨t - (i + 1),by omega⟩
        rw [show i + 1 + q - (i + 1) = q by omega,show i + 1 + q - i = q + 1 by omega]
        simp
      · have h3:¬ (i≤t∧t < i + (r.length + 1)):=by omega
        rw [if_neg h2,if_neg h3]
theorem ok_start {d N n:Nat} {vs:List AV} {us:Array Value} (hg:Good g w) (hb:BoxR g w st) (ha:j7 g vs us) (hN:N≤w.heap.size) (hm:m = false→N = 0) (hn:us.size≤n) :
    Ok m ⟨d,N,g,w,st,w.heap.size⟩ g w (sp n ⟨iZ 0 vs,[]⟩) st { tmps:=us++Array.replicate (n - us.size) undef,defers:=[] }:=by
  refine ⟨by simp [fP]; omega,fun s v u hv hu=>?_,⟨hg,fun s cs hc=>by simp [sp,look] at hc,hb⟩,DefsR.nil _,Mv.refl hg,fun _=>rfl,hN,hm⟩
  rw [dQ] at hv
  split at hv
  case isFalse=>cases hv
  cases hv
  simp only [Sf.reg,lM,Nat.zero_le,true_and,Nat.zero_add,Nat.sub_zero]
  split
  · rename_i hs
    have h1:vs[s]? = some (vs.getD s .any):=by simp [List.getD,hs]
    have hs2:s < us.size:=by rw [ha.1]; exact hs
    have h2:us[s]? = some u:=by rw [Array.getElem?_append_left hs2] at hu; exact hu
    exact ⟨RS.of (ha.2 s _ u h1 h2).dis,OwnV.dis⟩
  · exact ⟨R.any _,fun i c x hc _=>Own.of_no (aj (v:=.any) (fun _ e=>by cases e) trivial i c hc)⟩
def gq (tmps:Array Value):ResultVar→Sem Value
  | .tmp t=>pure (tmps.getD t undef)
  | .cell b t=>do loadVar t (← asAddr (tmps.getD b undef))
theorem jL {n:Nat} (h:Ok m E g w (sp n sf) st a):∀ {rv:List ResultVar} {rs:List RI} {K:List AV→Prop},fq P n rv = some rs→(resL sf st rs).wp K →
    ∃ vs us,K vs∧us.length = vs.length∧(∀ (i:Nat) (x:AV) (u:Value),vs[i]? = some x→us[i]? = some u→RS g E.d x u∧∀ (j:Nat) (c:AV),x.cells[j]? = some c→c.noOwn) ∧
      ((rv.mapM (gq a.tmps):Sem (List Value)).run P w = .ok us w)
  | [], rs, K, hc, hK => by
    simp only [fq] at hc; cases hc
    exact ⟨[],[],hK,rfl,fun i x u hx=>by simp at hx,by simp⟩
  | .tmp t :: rv, rs, K, hc, hK => by
    simp only [fq] at hc
    split at hc
    case isFalse=>cases hc
    rename_i ht
    obtain ⟨rs',hrs,rfl⟩:=map_some hc
    simp only [resL,resI,Res.bind] at hK
    rw [Res.wp_bind] at hK
    obtain ⟨vs,us,hK,hl,hr,hrun⟩:=jL h hrs hK
    have hs:=(dO h t).1
    rw [dq ht] at hs
    refine ⟨_,a.tmps.getD t undef::us,hK,by simp [hl],fun i x u hx hu=>?_,by
      simp only [List.mapM_cons,Sem.run_bind,gq,Sem.run_pure,Result.andThen_ok,hrun]⟩
    cases i with
    | zero=>simp at hx hu; subst hx; subst hu; exact ⟨by simpa [Act.eval] using hs.dis,aV _⟩
    | succ i=>exact hr i x u (by simpa using hx) (by simpa using hu)
  | .cell t T :: rv, rs, K, hc, hK => by
    simp only [fq] at hc
    split at hc
    case isFalse=>cases hc
    rename_i ht
    split at hc
    case h_2=>cases hc
    rename_i k rs' hk hrs
    cases hc
    simp only [resL,resI,bD] at hK
    rw [Res.wp_bind] at hK
    have hs:=(dO h t).1
    rw [dq ht] at hs
    rw [← deref_sp (n:=n)] at hK
    obtain ⟨cs,hK,b,o,hu,xs,hxs⟩:=mS h.ctx hs hK
    rw [Res.wp_bind] at hK
    obtain ⟨v,hK,u',hrun',hR⟩:=take_run (P:=P) hxs (gK hk cs _ hK)
    simp only [Res.bind] at hK
    rw [Res.wp_bind] at hK
    obtain ⟨vs,us,hK,hl,hr,hrun⟩:=jL h hrs hK
    have hu':a.tmps.getD t undef = .pointer (some ⟨b,o,none⟩):=hu
    refine ⟨_,u'::us,hK,by simp [hl],fun i x u hx hu2=>?_,by
      simp only [List.mapM_cons,Sem.run_bind,gq,hu',asAddr,Sem.run_pure,Result.andThen_ok,hrun',hrun]⟩
    cases i with
    | zero=>simp at hx hu2; subst hx; subst hu2; exact ⟨RS.of hR.dis,aV _⟩
    | succ i=>exact hr i x u (by simpa using hx) (by simpa using hu2)
theorem ka {fn:Func} {tmps:Array Value} {w:World} {us:List Value} (h:(fn.results.toList.mapM (gq tmps):Sem (List Value)).run P w = .ok us w):(results fn tmps).run P w = .ok (if h:us.toArray.size = 1 then us.toArray[0] else .tuple us.toArray) w:=by
  have h0:results fn tmps = (do
      let vs ← fn.results.mapM (gq tmps)
      pure (if h:vs.size = 1 then vs[0] else .tuple vs)):=by
    unfold results
    congr 1
  rw [h0,Array.mapM_eq_mapM_toList,Sem.run_bind]
  have h2:(Functor.map List.toArray (fn.results.toList.mapM (gq tmps):Sem (List Value))).run P w = .ok us.toArray w:=by
    rw [map_eq_pure_bind,Sem.run_bind,h]
    simp
  rw [h2]
  simp only [Result.andThen_ok,Sem.run_pure]
theorem ni {n:Nat} {fn:Func} {rs:List RI} {K:AV→Prop} (h:Ok m E g w (sp n sf) st a) (hc:fq P n fn.results.toList = some rs) (hK:(retI rs sf st).wp fun v=>v.noL = true∧K v) :
    ∃ v u,K v∧v.noL = true∧(results fn a.tmps).run P w = .ok u w∧RS g E.d v u∧((∀ (j:Nat) (c:AV),v.cells[j]? = some c→c.noOwn)∨∃ t,t < n∧v = sf.reg t∧u = a.tmps.getD t undef):=by
  have hlist:∀ K',(resL sf st rs).wp K'→∃ (vs:List AV) (us:List Value),K' vs∧us.length = vs.length∧(∀ (i:Nat) (x:AV) (u:Value),vs[i]? = some x→us[i]? = some u→RS g E.d x u∧∀ (j:Nat) (c:AV),x.cells[j]? = some c→c.noOwn)∧(results fn a.tmps).run P w = .ok (if h:us.toArray.size = 1 then us.toArray[0] else .tuple us.toArray) w:=by
    intro K' hK'
    obtain ⟨vs,us,h1,h2,h3,h4⟩:=jL h hc hK'
    exact ⟨vs,us,h1,h2,h3,ka h4⟩
  unfold retI at hK
  split at hK
  · rename_i t
    obtain ⟨hnl,hK⟩:=hK
    obtain ⟨vs,us,h1,h2,h3,h4⟩:=hlist (fun vs=>vs = [(sf.reg t).dis]) (by simp [resL,resI,Res.bind,Res.wp])
    -- one slot: its value as it stands
    have htn:t < n∧fn.results.toList = [.tmp t]:=by
      cases hr:fn.results.toList with
      | nil=>rw [hr] at hc; simp [fq] at hc
      | cons x r =>
        rw [hr] at hc
        cases x with
        | tmp t' =>
          simp only [fq] at hc
          split at hc
          · rename_i hlt
            obtain ⟨q,hq,e⟩:=map_some hc
            cases e
            cases r with
            | nil=>exact ⟨hlt,rfl⟩
            | cons y r =>
              exfalso
              cases y <;> simp only [fq] at hq <;> split at hq <;> first | (cases hq; done) | skip
              · obtain ⟨_,_,e⟩:=map_some hq; cases e
              · split at hq <;> cases hq
          · cases hc
        | cell t' T =>
          simp only [fq] at hc
          split at hc
          · split at hc <;> cases hc
          · cases hc
    have hrun:(fn.results.toList.mapM (gq a.tmps):Sem (List Value)).run P w = .ok [a.tmps.getD t undef] w:=by
      rw [htn.2]
      simp only [List.mapM_cons,List.mapM_nil,Sem.run_bind,gq,Sem.run_pure,Result.andThen_ok]
    have hs:=(dO h t).1
    rw [dq htn.1] at hs
    exact ⟨sf.reg t,a.tmps.getD t undef,hK,hnl,by have:=ka hrun; simpa using this,hs,.inr ⟨t,htn.1,rfl,rfl⟩⟩
  · rename_i r hne
    obtain ⟨vs,us,⟨v,rfl,hnl,hK⟩,h2,h3,h4⟩:=hlist (fun vs=>∃ v,vs = [v]∧v.noL = true∧K v) (by
      simp only [resL,Res.bind]
      rw [Res.wp_bind]
      exact Res.wp_mono hK fun v hv=>⟨v,rfl,hv.1,hv.2⟩)
    match us,h2 with
    | [u], _ =>
      obtain ⟨h5,h6⟩:=h3 0 v u rfl rfl
      exact ⟨v,u,hK,hnl,by simpa using h4,h5,.inl h6⟩
  · rename_i hne1 hne2
    rw [Res.wp_bind] at hK
    have hrl:∀ {rs:List RI} {K':List AV→Prop},(resL sf st rs).wp K'→(resL sf st rs).wp fun vs=>K' vs∧vs.length = rs.length:=by
      intro rs
      induction rs with
      | nil=>intro K' h; exact ⟨h,rfl⟩
      | cons r rs ih =>
        intro K' h
        simp only [resL] at h ⊢
        rw [Res.wp_bind] at h ⊢
        refine Res.wp_mono h fun v hv=>?_
        rw [Res.wp_bind] at hv ⊢
        exact Res.wp_mono (ih hv) fun vs hvs=>⟨hvs.1,by simp [hvs.2]⟩
    obtain ⟨vs,us,⟨hK,hvl⟩,h2,h3,h4⟩:=hlist _ (hrl hK)
    split at hK
    case isFalse=>exact hK.elim
    rename_i hall
    obtain ⟨_,hK⟩:=hK
    have hlen:us.length≠1:=by
      intro e
      rw [h2,hvl] at e
      obtain ⟨r,hr⟩:=List.length_eq_one_iff.1 e
      exact hne2 r hr
    refine ⟨.tup vs,.tuple us.toArray,hK,rfl,by rw [h4]; simp [hlen],RS.of (.tup vs us.toArray (by simpa using h2) fun i x u hx hu=>?_),.inl (aj (by simp) trivial)⟩
    have hx':=List.all_eq_true.1 hall x (List.mem_of_getElem? hx)
    exact lk hx' (h3 i x u hx (by simpa using hu)).1
end
end Go.Fx
/- Functions, resolved: from what the resolved code does to a contract. -/
namespace Go.Fx
def msOf:List (Nat×List Nat×List Nat)→Nat→List Nat×List Nat
  | [],_=>([],[])
  | (q,r)::l,p=>if q = p then r else msOf l p
open Go Go.RowKit Go.Lib
section
variable {P:Program} {X:Cx} {f:FuncId} {fn':AFun} {vs:List AV} {st:St}
theorem nj (h:ii P X f = some fn'):∃ fn c b rs,P.funcs[f]? = some fn∧fn.body = some c∧X.n = fn.ntmps∧cS P X 1 c = some b∧fq P X.n fn.results.toList = some rs∧fn' = ⟨X.n,rs,b⟩:=by
  unfold ii at h
  split at h
  case h_2=>cases h
  rename_i fn hf
  split at h
  case h_2=>cases h
  rename_i c hc
  split at h
  case isFalse=>cases h
  rename_i hn
  split at h
  case h_2=>cases h
  rename_i b rs hb hr
  cases h
  exact ⟨fn,c,b,rs,hf,hc,hn.1,hb,hr,rfl⟩
theorem Ok.toE {m:Bool} {E E':Ent} {g:Gh} {w:World} {fr:Fr} {st:St} {a:Act} (h:Ok false E' g w fr st a) (hE:Ext false E E'):Ok false E g w fr st { a with defers:=[] }:=by
  have hmv:=hE.mvE h.mv
  have h1:=hE.dd
  have h2:=hE.NN
  obtain ⟨d,N,g0,w0,st0,lo⟩:=E
  obtain ⟨d',N',g0',w0',st0',lo'⟩:=E'
  simp only at h1 h2
  subst h1; subst h2
  exact ⟨h.size,h.slots,h.ctx,DefsR.nil _,hmv,fun e=>(by cases e),h.hN,h.hm⟩
theorem nn {P:Program} {fn:Func} {R:Ending→World→Prop} {E:Ent} {g:Gh} {fr:Fr} {st:St} {a:Act} (hE:∀ D c,E.g.cls D = some c→D < E.lo) (hlo:E.g.base≤E.lo)
    (hfin:∀ w,Ok false E g w fr st a→∃ v,(results fn a.tmps).run P w = .ok v w∧R (.returned v) w):∀ (ds:List Deferred) (w:World),(∀ x ∈ ds,∃ D dd s,x = { target:=.collected D,args:=#[] }∧E.lo≤D∧g.cls D = some (.loc dd s)∧dd < E.d∧w.heap[D]? = some (.deferred (some []))) →
      (ds.map fun x=>x.target).Nodup→Ok false E g w fr st a→LeavesInM (FW none) 0 P fn a.tmps R ds .returning w
  | [],w,_,_,h=>hfin w h
  | x :: ds, w, ha, hn, h => by
    obtain ⟨D,dd,s,rfl,h1,h2,h3,h4⟩:=ha x (by simp)
    simp only [List.map_cons,List.nodup_cons] at hn
    refine ⟨by simp,.inl ⟨D,_,rfl,run_takeDeferred h4,?_⟩⟩
    have hnone:E.g.cls D = none:=by
      cases hc:E.g.cls D with
      | none=>rfl
      | some c=>have:=hE D c hc; omega
    refine nn hE hlo hfin ds _ (fun y hy=>?_) hn.2 (h.putD h2 (by omega) hnone (Nat.le_trans hlo h1) _)
    obtain ⟨D',dd',s',rfl,k1,k2,k3,k4⟩:=ha y (by simp [hy])
    have hne:D'≠D:=by
      rintro rfl
      exact hn.1 (List.mem_map.2 ⟨_,hy,rfl⟩)
    exact ⟨D',dd',s',rfl,k1,k2,k3,by rw [World.putObj_heap_other hne]; exact k4⟩
theorem acalls_of (hmix:P.follows .mixedOrders = true) (hf:ii P X f = some fn') (hlen:vs.length≤fn'.n) {K:AV→St→Prop} (h:aFun P X.F false fn' vs st K):aA P f vs st K:=by
  obtain ⟨fn,c,b,rs,hfn,hc,hn,hb,hr,rfl⟩:=nj hf
  intro D g w us L hg hbx ha
  have hus:us.size≤X.n:=by rw [ha.1]; exact hlen
  refine la.1 (callsIn_of_wp_marks (F:=FW none) (n:=0) hfn hc trivial ?_)
  have h0:=ok_start (m:=false) (d:=D + 1) (N:=0) (n:=X.n) (st:=st) hg hbx ha (Nat.zero_le _) (fun _=>rfl) hus
  rw [← hn]
  have key:∀ (sf:Sf) (st':St) (g':Gh) (w':World) (a':Act),Ok false ⟨D + 1,0,g,w,st,w.heap.size⟩ g' w' (sp X.n sf) st' a'→((retI rs sf st').wp fun v=>v.noL = true∧K v st') →
      ∃ v,(results fn a'.tmps).run P w' = .ok v w'∧∃ u v' st' g',Ending.returned v = .returned u∧K v' st'∧Mv false 0 D g w g' w'∧BoxR g' w' st'∧R g' v' u∧OwnV g' w' 0 L v' u:=by
    intro sf st' g' w' a' hok hret
    obtain ⟨v,u,hK,hnl,hrun,hR,hown⟩:=ni (K:=fun v=>K v st') hok hr hret
    refine ⟨u,hrun,u,v,st',?_⟩
    rcases hown with hno | ⟨t,ht,rfl,rfl⟩
    · exact ⟨g',rfl,hK,hok.mv.inner (Nat.le_succ _),hok.ctx.box,lk hnl hR,fun i c x hc _=>Own.of_no (hno i c hc)⟩
    · obtain ⟨h1,h2,h3⟩:=hok.steal t L
      rw [dq ht] at h2 h3
      exact ⟨_,rfl,hK,h1.mv.inner (Nat.le_succ _),h1.ctx.box,lk hnl h2,h3⟩
  have key2:∀ (E':Ent) (sf:Sf) (st':St) (g':Gh) (w':World) (a':Act),Ext false ⟨D + 1,0,g,w,st,w.heap.size⟩ E'→Ok false E' g' w' (sp X.n sf) st' a'→((retI rs sf st').wp fun v=>v.noL = true∧K v st') →
      LeavesInM (FW none) 0 P fn a'.tmps (fun e w'=>∃ u v st' g',e = .returned u∧K v st'∧Mv false 0 D g w g' w'∧BoxR g' w' st'∧R g' v u∧OwnV g' w' 0 L v u) a'.defers .returning w':=by
    intro E' sf st' g' w' a' hE hok hret
    have hok0:=hok.toE (m:=false) hE
    refine nn (E:=⟨D + 1,0,g,w,st,w.heap.size⟩) (a:={ a' with defers:=[] }) (fun b c hc=>(hg.cls b c hc).2) hg.base (fun w2 hok2=>key sf st' g' w2 _ hok2 hret) a'.defers w' (fun x hx=>?_) hok.defers.nd hok0
    obtain ⟨b,dd,s,h1,h2,h3,h4,h5⟩:=hok.defers.all x hx
    obtain ⟨q1,q2,_⟩:=hok.mv.outer b _ h3 h4
    have hd:=hE.dd
    have hl:=hE.lolo
    simp only at hd hl
    exact ⟨b,dd,s,h1,by rw [← hl]; exact h2,q1,by rw [← hd]; exact h4,by rw [q2]; exact h5⟩
  refine aC_sound hmix c 1 b hb (.inl ⟨rfl,by simp,Nat.le_refl _⟩) h0 h fun E' e sf st' g' w' a' hE hok hq=>?_
  cases e with
  | normal=>exact key2 E' sf st' g' w' a' hE hok hq
  | ret=>exact key2 E' sf st' g' w' a' hE hok hq
  | exit id=>exact hq.elim
  | goto l=>exact hq.elim
  | panic ch=>exact hq.elim
  | outgrown=>exact hq.elim
theorem pcalls_of (hmix:P.follows .mixedOrders = true) (hf:ii P X f = some fn') (hlen:vs.length≤fn'.n) {v0:AV} (h:aFun P X.F true fn' vs st fun v st'=>v = v0):aL P f vs st v0:=by
  obtain ⟨fn,c,b,rs,hfn,hc,hn,hb,hr,rfl⟩:=nj hf
  intro g w us L hg hbx ha
  have hus:us.size≤X.n:=by rw [ha.1]; exact hlen
  refine calls_of_wp hfn hc ?_
  have h0:=ok_start (m:=true) (d:=1) (N:=w.heap.size) (n:=X.n) (st:=st) hg hbx ha (Nat.le_refl _) (fun e=>by cases e) hus
  rw [← hn]
  have fin:∀ (g':Gh) (w':World),Mv true w.heap.size 1 g w g' w'→LeP g w { g' with lb:=g.lb } w':=by
    intro g' w' hm
    obtain ⟨h1,h2⟩:=hm.pure rfl
    exact ⟨⟨hm.os,hm.tape,hm.output,hm.size,fun k hk=>(h1 k hk).1⟩,fun b hb=>(h1 b hb).2.1,fun b hb=>(h1 b hb).2.2,h2,rfl,hm.base,fun _=>⟨hm.good.imm,hm.good.immc,hm.good.cls,hm.good.base⟩⟩
  have hle:∀ g':Gh,GhLe g' { g' with lb:=g.lb }:=fun g'=>⟨fun _ _ _ h=>h,fun _ _ h=>h⟩
  have key:∀ (sf:Sf) (st':St) (g':Gh) (w':World) (a':Act),Ok true ⟨1,w.heap.size,g,w,st,w.heap.size⟩ g' w' (sp X.n sf) st' a'→((retI rs sf st').wp fun v=>v.noL = true∧v = v0) →
      a'.defers = []∧∃ v,(results fn a'.tmps).run P w' = .ok v w'∧∃ u g',Ending.returned v = .returned u∧LeP g w g' w'∧R g' v0 u∧OwnV g' w' w.heap.size L v0 u:=by
    intro sf st' g' w' a' hok hret
    obtain ⟨v,u,hK,hnl,hrun,hR,hown⟩:=ni (K:=fun v=>v = v0) hok hr hret
    subst hK
    have hdf:a'.defers = []:=by
      cases hds:a'.defers with
      | nil=>rfl
      | cons x r =>
        obtain ⟨b,dd,s,h1,h2,h3,h4,h5⟩:=hok.defers.all x (by rw [hds]; simp)
        have:=(hg.cls b _ h3).2
        simp only at h2
        omega
    refine ⟨hdf,u,hrun,u,?_⟩
    rcases hown with hno | ⟨t,ht,rfl,rfl⟩
    · exact ⟨_,rfl,fin g' w' hok.mv,(lk hnl hR).mono (hle g'),fun i c x hc _=>Own.of_no (hno i c hc)⟩
    · obtain ⟨h1,h2,h3⟩:=hok.steal t L
      rw [dq ht] at h2 h3
      exact ⟨_,rfl,fin _ w' h1.mv,(lk hnl h2).mono (hle _),fun i c x hc hx=>h3 i c x hc hx⟩
  refine (wpIn_wide (n:=0)).1 (aC_sound hmix c 1 b hb (.inl ⟨rfl,by simp,Nat.le_refl _⟩) h0 h fun E' e sf st' g' w' a' hE hok hq=>?_)
  rcases hE with rfl | ⟨hE,_⟩
  case inr=>cases hE
  cases e with
  | normal=>exact key sf st' g' w' a' hok hq
  | ret=>exact key sf st' g' w' a' hok hq
  | exit id=>exact hq.elim
  | goto l=>exact hq.elim
  | panic ch=>exact hq.elim
  | outgrown=>exact hq.elim
end
end Go.Fx
/- A function that keeps what it makes to itself leaves all alone. -/
namespace Go.Fx
open Go Go.RowKit Go.Lib
inductive AV.NB:AV→Prop where
  | any:AV.NB .any
  | lit (v:Value):AV.NB (.lit v)
  | cptr (cs:List AV) (h:∀ c ∈ cs,AV.NB c):AV.NB (.cptr cs)
  | sl (o:Bool) (k:Nat) (es:List AV) (h:∀ c ∈ es,AV.NB c):AV.NB (.sl o k es)
  | fn (f:Fn) (fs cs:List AV) (h1:∀ c ∈ fs,AV.NB c) (h2:∀ c ∈ cs,AV.NB c):AV.NB (.fn f fs cs)
  | agg (cs:List AV) (h:∀ c ∈ cs,AV.NB c):AV.NB (.agg cs)
  | tup (cs:List AV) (h:∀ c ∈ cs,AV.NB c):AV.NB (.tup cs)
  | ifc (t:Nat) (v:AV) (h:AV.NB v):AV.NB (.ifc t v)
section
variable {g g':Gh} {w w':World} {N:Nat}
theorem nb_cells {e:AV} (h:e.NB):∀ c ∈ e.cells,c.NB:=by
  cases h with
  | agg cs h=>exact h
  | any=>intro c hc; simp [AV.cells] at hc; subst hc; exact .any
  | lit v=>intro c hc; simp [AV.cells] at hc; subst hc; exact .lit v
  | cptr cs h=>intro c hc; simp [AV.cells] at hc; subst hc; exact .cptr cs h
  | sl o k es h=>intro c hc; simp [AV.cells] at hc; subst hc; exact .sl o k es h
  | fn f fs cs h1 h2=>intro c hc; simp [AV.cells] at hc; subst hc; exact .fn f fs cs h1 h2
  | tup cs h=>intro c hc; simp [AV.cells] at hc; subst hc; exact .tup cs h
  | ifc t v h=>intro c hc; simp [AV.cells] at hc; subst hc; exact .ifc t v h
theorem R.nb (hi:∀ b o u,g.imm b o = some u→g'.imm b o = some u) {v:AV} {u:Value} (h:R g v u):v.NB→R g' v u:=by
  induction h with
  | any u=>exact fun _=>.any u
  | lit v h=>exact fun _=>.lit v h
  | ptr id off b h=>exact fun h=>by cases h
  | cptr cs us b o h1 _ ih =>
    intro hn
    cases hn with
    | cptr _ hn=>exact .cptr cs us b o (fun i c hc=>hi _ _ _ (h1 i c hc)) (fun i c hc=>ih i c hc (hn c (List.mem_of_getElem? hc)))
  | sl own k es us b o c hc hk h1 _ h3 ih =>
    intro hn
    cases hn with
    | sl _ _ _ hn =>
      refine .sl own k es us b o c hc hk (fun i x hx=>hi _ _ _ (h1 i x hx)) (fun i x hx=>ih i x hx ?_) h3
      have:=List.mem_of_getElem? hx
      simp only [List.mem_flatMap] at this
      obtain ⟨e,he,hxe⟩:=this
      exact nb_cells (hn e he) x hxe
  | slE own k a c=>exact fun _=>.slE own k a c
  | slN own k=>exact fun _=>.slN own k
  | bs id k off len cap b h=>exact fun h=>by cases h
  | mit id s l p b=>exact fun h=>by cases h
  | yld id b h=>exact fun h=>by cases h
  | xs k es a _ _=>exact fun h=>by cases h
  | ifc t v u _ ih =>
    intro hn
    cases hn with | ifc _ _ hn=>exact .ifc t v u (ih hn)
  | map id b h=>exact fun h=>by cases h
  | fn f fs cs us vs hu hv _ _ ih1 ih2 =>
    intro hn
    cases hn with
    | fn _ _ _ n1 n2=>exact .fn f fs cs us vs hu hv (fun i x u hx hu=>ih1 i x u hx hu (n1 x (List.mem_of_getElem? hx))) (fun i x u hx hu=>ih2 i x u hx hu (n2 x (List.mem_of_getElem? hx)))
  | agg cs us hu _ ih =>
    intro hn
    cases hn with | agg _ hn=>exact .agg cs us hu (fun i x u hx hu=>ih i x u hx hu (hn x (List.mem_of_getElem? hx)))
  | tup cs us hu _ ih =>
    intro hn
    cases hn with | tup _ hn=>exact .tup cs us hu (fun i x u hx hu=>ih i x u hx hu (hn x (List.mem_of_getElem? hx)))
inductive Frz (st:St):AV→AV→Prop where
  | le (v v0:AV) (h:AV.le v v0) (hn:v0.NB):Frz st v v0
  | bs (id k off len cap:Nat) (cs:List AV) (hg:st.get id = some cs) (hl:off + len * k≤cs.length) (hcap:len≤cap) (hk:∀ c ∈ cs.drop off,c.NB):Frz st (.bs id k off len cap) (.sl false k (grp k len (cs.drop off)))
  | agg (cs ds:List AV) (hl:ds.length = cs.length) (h:∀ (i:Nat) (c d:AV),cs[i]? = some c→ds[i]? = some d→Frz st c d) (hn:∀ d ∈ ds,d.noOwn):Frz st (.agg cs) (.agg ds)
  | tup (cs ds:List AV) (hl:ds.length = cs.length) (h:∀ (i:Nat) (c d:AV),cs[i]? = some c→ds[i]? = some d→Frz st c d):Frz st (.tup cs) (.tup ds)
def frzL (st:St):List AV→List AV→Prop
  | [],[]=>True
  | c::r,d::q=>Frz st c d∧frzL st r q
  | _,_=>False
theorem frzL_facts {st:St}:∀ {l k:List AV},frzL st l k→k.length = l.length∧∀ (i:Nat) (c d:AV),l[i]? = some c→k[i]? = some d→Frz st c d
  | [],[],_=>⟨rfl,fun i c d h=>by simp at h⟩
  | [],_::_,h=>h.elim
  | _::_,[],h=>h.elim
  | v :: r, u :: s, ⟨h1, h2⟩ => by
    obtain ⟨q1,q2⟩:=frzL_facts h2
    refine ⟨by simp [q1],fun i c d hc hd=>?_⟩
    cases i with
    | zero=>simp at hc hd; subst hc; subst hd; exact h1
    | succ i=>exact q2 i c d (by simpa using hc) (by simpa using hd)
def Gh.hide (g:Gh) (n:Nat):Gh:={ base:=0,imm:=g.imm,bx:=fun _=>none,lb:=g.lb,cls:=fun b=>if b < n then some (.arr (.slot 0 0 0)) else none }
theorem hide_good (h:Good g w):Good (g.hide w.heap.size) w:=by
  refine ⟨h.imm,fun b o u hi=>.inr ⟨_,by simp [Gh.hide,h.lt hi]; rfl⟩,fun b c hc=>?_,Nat.zero_le _⟩
  simp only [Gh.hide] at hc
  split at hc
  · rename_i hl; exact ⟨Nat.zero_le _,hl⟩
  · cases hc
def Gh.show (g g1:Gh) (n:Nat) (L:Nat→Loc) (fb:Nat→Option (Array Value)):Gh :=
  { base:=g.base,bx:=g.bx,lb:=g.lb
    imm:=fun b o=>if b < n then g.imm b o else match fb b with
      | some us=>us[o]?
      | none=>g1.imm b o
    cls:=fun b=>if b < n then g.cls b else match g1.cls b with
      | some (.arr (.slot 5 0 k))=>some (.arr (L k))
      | _=>none }
def frzB (g1:Gh) (w:World) (n:Nat) (b:Nat):Option (Array Value) :=
  if n≤b then (match g1.cls b,w.heap[b]? with
    | some (.box _),some (.cells us _ (0,0))=>some us
    | _,_=>none) else none
def Fzn (g1 gs:Gh) (st:St):Prop:=∀ id cs,st.get id = some cs→∃ (b:Nat) (us:Array Value),g1.bx id = some b∧(∀ o:Nat,gs.imm b o = us[o]?)∧us.size = cs.length ∧
  (∀ (i:Nat) (c:AV) (x:Value),cs[i]? = some c→us[i]? = some x→R g1 c x)∧∀ x ∈ us,x.oneCell' = true
theorem fzn_of {g1 gs:Gh} {w:World} {st:St} {n:Nat} (hb1:BoxR g1 w st) (hbn:∀ id b,g1.bx id = some b→g1.cls b = some (.box id)→n≤b) (kf:∀ b us,frzB g1 w n b = some us→∀ o:Nat,gs.imm b o = us[o]?):Fzn g1 gs st:=by
  intro id cs hgt
  obtain ⟨b,us',T,a1,a2,a3,a4,a5,a6⟩:=hb1.2.1 id cs (by unfold St.get at hgt; split at hgt <;> first | (cases hgt; assumption) | cases hgt)
  have hge:=hbn id b a1 a2
  have hfz:frzB g1 w n b = some us':=by simp [frzB,hge,a2,a3]
  exact ⟨b,us',a1,kf b us' hfz,a4,fun i c x hc hx=>(a5 i c x hc hx).1,a6⟩
theorem frz_R {g1 gs:Gh} {st:St} (hf:Fzn g1 gs st) (k2:∀ b o u,g1.imm b o = some u→gs.imm b o = some u) {v v0:AV} (h:Frz st v v0):∀ {u:Value},R g1 v u→R gs v0 u:=by
  induction h with
  | le v v0 hle hn=>exact fun hR=>(hle.r hR).nb k2 hn
  | agg cs ds hl h hn ih =>
    intro u hR
    obtain ⟨us,rfl,hr⟩:=hR.agg_inv
    refine .agg ds us (by have:=hr.1; simp at this; omega) fun i x u hx hu=>?_
    have hlt:i < cs.length:=by rw [← hl]; exact (List.getElem?_eq_some_iff.1 hx).1
    exact ih i cs[i] x (by simp [hlt]) hx (hr.2 i cs[i] u (by simp [hlt]) (by simpa using hu))
  | tup cs ds hl h ih =>
    intro u hR
    cases hR with
    | tup _ us hu hR =>
      refine .tup ds us (by omega) fun i x u hx hu'=>?_
      have hlt:i < cs.length:=by rw [← hl]; exact (List.getElem?_eq_some_iff.1 hx).1
      exact ih i cs[i] x (by simp [hlt]) hx (hR i cs[i] u (by simp [hlt]) hu')
  | bs id k off len cap cs hgt hl hcap hk =>
    intro u hR
    obtain ⟨b,us',a1,kf,a4,a5,a6⟩:=hf id cs hgt
    cases hR with
    | bs _ _ _ _ _ b' hb' =>
      have:b' = b:=Option.some.inj (hb'.symm.trans a1)
      subst this
      have hone:∀ c ∈ cs.drop off,c.cells = [c]:=by
        intro c hc
        obtain ⟨i,hi⟩:=List.mem_iff_getElem?.1 (List.mem_of_mem_drop hc)
        have hlt:i < us'.size:=by rw [a4]; exact (List.getElem?_eq_some_iff.1 hi).1
        have hx:us'[i]? = some us'[i]:=Array.getElem?_eq_getElem hlt
        exact mT (a5 i c _ hi hx) (a6 _ (Array.getElem_mem hlt))
      obtain ⟨q1,q2,q3⟩:=jv (k:=k) len (cs.drop off) hone (by simp; omega)
      have hcell:∀ (i:Nat) (x:AV),((grp k len (cs.drop off)).flatMap AV.cells)[i]? = some x→i < len * k∧cs[off + i]? = some x:=by
        intro i x hx
        rw [q3,List.getElem?_take] at hx
        split at hx
        · rename_i hil; exact ⟨hil,by simpa using hx⟩
        · cases hx
      have:=R.sl (g:=gs) false k (grp k len (cs.drop off)) (fun i=>us'.getD (off + i) undef) b' off cap (by rw [q1]; exact hcap) q2 (fun i x hx=>?_) (fun i x hx=>?_) (fun i x hx=>?_)
      · rw [q1] at this; exact this
      · obtain ⟨hi,hc⟩:=hcell i x hx
        have hlt:off + i < us'.size:=by omega
        rw [kf]
        simp [hlt]
      · obtain ⟨hi,hc⟩:=hcell i x hx
        have hlt:off + i < us'.size:=by omega
        have e1:us'.getD (off + i) undef = us'[off + i]:=by simp [hlt]
        rw [e1]
        exact (a5 (off + i) x _ hc (Array.getElem?_eq_getElem hlt)).nb k2 (hk x (by rw [List.mem_iff_getElem?]; exact ⟨i,by simpa using hc⟩))
      · obtain ⟨hi,hc⟩:=hcell i x hx
        have hlt:off + i < us'.size:=by omega
        have e1:us'.getD (off + i) undef = us'[off + i]:=by simp [hlt]
        rw [e1]
        exact a6 _ (Array.getElem_mem hlt)
theorem pure_of {P:Program} {f:FuncId} {vs:List AV} {v0:AV} (h:aA P f vs ⟨[]⟩ fun v st'=>Frz st' v v0) (hvs:∀ v ∈ vs,v.NB) (st:St):aL P f vs st v0:=by
  intro g w us L hg hbx ha
  have ha0:j7 (g.hide w.heap.size) vs us:=⟨ha.1,fun i x u hx hu=>R.nb (g:=g) (g':=g.hide w.heap.size) (fun _ _ _ h=>h) (ha.2 i x u hx hu) (hvs x (List.mem_of_getElem? hx))⟩
  have hb0:BoxR (g.hide w.heap.size) w ⟨[]⟩:=⟨fun _ _=>rfl,fun id cs hc=>by simp at hc,fun id bx hc=>by simp at hc⟩
  refine (h 1 _ w us (fun k=>.slot 5 0 k) (hide_good hg) hb0 ha0).mono fun e w' ⟨u,v,st',g1,he,hF,hmv,hb1,hR,hO⟩=>?_
  have hout:∀ b,b < w.heap.size→g1.cls b = some (.arr (.slot 0 0 0))∧w'.heap[b]? = w.heap[b]?∧g1.imm b = g.imm b:=fun b hb =>
    hmv.outer b (.arr (.slot 0 0 0)) (by simp [Gh.hide,hb]) (Nat.zero_lt_one)
  have hbel:Below w.heap.size w w':=⟨hmv.os,hmv.tape,hmv.output,hmv.size,fun k hk=>(hout k hk).2.1⟩
  have hfz:∀ b us,frzB g1 w' w.heap.size b = some us→w.heap.size≤b∧b < w'.heap.size∧(∃ id,g1.cls b = some (.box id))∧∃ T,w'.heap[b]? = some (.cells us T (0,0)):=by
    intro b us h
    unfold frzB at h
    split at h
    · rename_i hge
      split at h
      · rename_i id us' T h1 h2
        cases h
        exact ⟨hge,(Array.getElem?_eq_some_iff.1 h2).1,⟨id,h1⟩,T,h2⟩
      · cases h
    · cases h
  have himm:∀ b o u,g1.imm b o = some u→(g.show g1 w.heap.size L (frzB g1 w' w.heap.size)).imm b o = some u:=by
    intro b o u hi
    simp only [Gh.show]
    split
    · rename_i hl; rw [← (hout b hl).2.2]; exact hi
    · split
      · rename_i us e
        obtain ⟨_,_,⟨id,hid⟩,_⟩:=hfz b us e
        rcases hmv.good.immc b o u hi with h1 | ⟨L',h1⟩ <;> rw [hid] at h1 <;> cases h1
      · exact hi
  have k1:LeP g w (g.show g1 w.heap.size L (frzB g1 w' w.heap.size)) w':=by
    refine ⟨hbel,fun b hb=>by funext o; simp [Gh.show,hb],fun b hb=>by simp [Gh.show,hb],rfl,rfl,rfl,fun _=>?_⟩
    refine ⟨fun b o u hi=>?_,fun b o u hi=>?_,fun b c hc=>?_,?_⟩
    · simp only [Gh.show] at hi
      split at hi
      · rename_i hl
        have:=hg.imm b o u hi
        unfold World.cell? at this ⊢
        rw [(hout b hl).2.1]; exact this
      · split at hi
        · rename_i us e
          obtain ⟨_,_,_,T,hT⟩:=hfz b us e
          rw [cell_of_row w' b o us T (0,0) hT]; exact hi
        · exact hmv.good.imm b o u hi
    · simp only [Gh.show] at hi ⊢
      split at hi
      · rename_i hl; simp only [hl,if_true]; exact hg.immc b o u hi
      · rename_i hl
        simp only [hl,if_false]
        split
        · exact .inr ⟨_,rfl⟩
        · exact .inl rfl
    · simp only [Gh.show] at hc
      split at hc
      · rename_i hl
        have:=hg.cls b c hc
        exact ⟨this.1,Nat.lt_of_lt_of_le hl hmv.size⟩
      · rename_i hl
        split at hc
        · rename_i k hk
          have:=(hmv.good.cls b _ hk).2
          have hb:=hg.base
          exact ⟨by simp only [Gh.show]; omega,this⟩
        · cases hc
    · have:=hg.base
      have:=hmv.size
      simp only [Gh.show]; omega
  have hbn:∀ id b,g1.bx id = some b→g1.cls b = some (.box id)→w.heap.size≤b:=by
    intro id b _ h2
    refine Nat.le_of_not_lt fun hlt=>?_
    rw [(hout b hlt).1] at h2; cases h2
  have kf:∀ b us,frzB g1 w' w.heap.size b = some us→∀ o:Nat,(g.show g1 w.heap.size L (frzB g1 w' w.heap.size)).imm b o = us[o]?:=by
    intro b us h o
    have hge:=(hfz b us h).1
    have hnl:¬ b < w.heap.size:=by omega
    simp only [Gh.show,hnl,if_false,h]
  have hRR:=frz_R (fzn_of hb1 hbn kf) himm hF hR
  cases hF with
  | le _ _ hle hn =>
    have hO0:OwnV g1 w' 0 (fun k=>.slot 5 0 k) v0 u:=hle.ownV (d:=0) (RS.of hR) hO
    refine ⟨u,_,he,k1,hRR,fun i c x hc hx=>⟨fun k es e=>?_,fun id s l stp e=>?_⟩⟩
    · rcases (hO0 i c x hc hx).1 k es e with h0 | ⟨b,o,c',cur,T,q1,_,q2,q3,q4,q5,q6⟩
      · exact .inl h0
      · have hge:w.heap.size≤b:=by
          refine Nat.le_of_not_lt fun hl=>?_
          rw [(hout b hl).1] at q2; cases q2
        have hnl:¬ b < w.heap.size:=by omega
        have hf0:frzB g1 w' w.heap.size b = none:=by simp [frzB,q2]
        exact .inr ⟨b,o,c',cur,T,q1,hge,by simp [Gh.show,hnl,q2],q3,q4,q5,fun j hj hj'=>by simp [Gh.show,hnl,hf0,q6 j hj hj']⟩
    · subst e
      have:=nb_cells hn _ (List.mem_of_getElem? hc)
      cases this
  | bs id k off len cap cs hgt hl hcap hk =>
    exact ⟨_,_,he,k1,hRR,fun i c x hc hx=>by
      cases i with
      | succ i=>simp [AV.cells] at hc
      | zero=>simp [AV.cells] at hc; subst hc; exact Own.of_no trivial⟩
  | agg cs ds hl h hn=>exact ⟨_,_,he,k1,hRR,fun i c x hc hx=>Own.of_no (hn c (List.mem_of_getElem? hc))⟩
  | tup cs ds hl h =>
    exact ⟨_,_,he,k1,hRR,fun i c x hc hx=>by
      cases i with
      | succ i=>simp [AV.cells] at hc
      | zero=>simp [AV.cells] at hc; subst hc; exact Own.of_no trivial⟩
end
end Go.Fx
/- Equations for evaluation: each with all its arguments, so that nothing is opened ahead of its turn. -/
namespace Go.Fx
open Go
section
variable (P:Program) (F:Nat→FuncId) (m:Bool) (sf:Sf) (st:St) (Q:Exit→Sf→St→Prop) (K:Sf→St→Prop)
theorem aC_skip:aC P F m .skip sf st Q = Q .normal sf st:=rfl
theorem bf (lv ll:List Nat) (id:Nat):aC P F m (.exit lv ll id) sf st Q = Q (.exit id) (sf.mask lv ll) st:=rfl
theorem aC_ret:aC P F m .ret sf st Q = Q .ret sf st:=rfl
theorem kb (C:Sf→St→(Exit→Sf→St→Prop)→Prop):seqQ C Q .normal sf st = C sf st Q:=rfl
theorem seqQ_ret (C:Sf→St→(Exit→Sf→St→Prop)→Prop):seqQ C Q .ret sf st = Q .ret sf st:=rfl
theorem aH (C:Sf→St→(Exit→Sf→St→Prop)→Prop) (id:Nat):seqQ C Q (.exit id) sf st = Q (.exit id) sf st:=rfl
theorem ij (id:Nat):fT id Q .normal sf st = Q .normal sf st:=rfl
theorem lN (id:Nat):fT id Q .ret sf st = Q .ret sf st:=rfl
theorem kc (id id':Nat):fT id Q (.exit id') sf st = if id' = id then Q .normal sf st else Q (.exit id') sf st:=rfl
theorem opsK_eq (lv ll:List Nat):opsK lv ll Q sf st = Q .normal (sf.mask lv ll) st:=rfl
theorem retQ_ret (rs:List RI) (C:AV→St→Prop):retQ rs C .ret sf st = (retI rs sf st).wp (fun v=>v.noL = true∧C v st):=rfl
theorem retQ_normal (rs:List RI) (C:AV→St→Prop):retQ rs C .normal sf st = (retI rs sf st).wp (fun v=>v.noL = true∧C v st):=rfl
theorem condI_eq (x:Opd) (b:Bool) (A B:Sf→St→(Exit→Sf→St→Prop)→Prop):gp x (.lit (.bool b)) A B sf st Q = ((b = true→A (x.setB sf true) st Q)∧(b = false→B (x.setB sf false) st Q)):=rfl
theorem runI_nil:runI P F m [] K sf st = K sf st:=rfl
theorem np (i:AI) (r:List GI):runI P F m (⟨none,i⟩::r) K sf st = oneI P F m i (runI P F m r K) sf st:=rfl
theorem nq (t:Nat) (want:Bool) (i:AI) (r:List GI):runI P F m (⟨some (t,want),i⟩::r) K sf st = eK t want (sf.reg t) (oneI P F m i (runI P F m r K)) (skipI i.dst (runI P F m r K)) sf st:=rfl
theorem ns (t:Nat) (want b:Bool) (Y N:Sf→St→Prop):eK t want (.lit (.bool b)) Y N sf st = ((b = want→Y (sf.set t (.lit (.bool want))) st)∧(b = (!want)→N (sf.set t (.lit (.bool (!want)))) st)):=by
  unfold eK
  refine propext ⟨fun h=>⟨fun e=>?_,fun e=>?_⟩,fun ⟨h1,h2⟩ c hc=>?_⟩
  · have:=h want e; simpa using this
  · have:=h (!want) e
    rw [if_neg (by cases want <;> simp)] at this
    exact this
  · subst hc
    by_cases hw:b = want
    · subst hw; rw [if_pos rfl]; exact h1 rfl
    · rw [if_neg hw]
      have:b = !want:=by cases b <;> cases want <;> simp_all
      subst this
      exact h2 rfl
theorem skipI_eq (d:Option Nat):skipI d K sf st = K (sf.put d (.tup [])) st:=rfl
theorem putP_eq (d:Option Nat) (v:AV):putP K d sf st v = K (sf.put d v) st:=rfl
theorem bB (d:Option Nat) (v:AV):putK K d sf v st = K (sf.put d v) st:=rfl
theorem iB (C:AV→St→Prop) (v:AV):atS C st v = C v st:=rfl
theorem bC (i:AI) (h1:oneI P F m i K sf st = (bF F m i sf st).wp (eZ K)) (h2:bF F m i sf st = vI i.dst sf st (popI F i sf st)):oneI P F m i K sf st = (popI F i sf st).wp (putP K i.dst sf st):=by
  rw [h1,h2]
  unfold vI
  exact propext Res.wp_bind
def pickV (c a b:AV):Res AV:=match c with
  | .lit (.bool t)=>.ok (if t then a.dis else b.dis)
  | _=>.fail
def extV (v:AV) (i:Nat):Res AV:=match v with
  | .tup vs=>(Res.ofOpt vs[i]?).bind fun v=>.ok v.dis
  | _=>.fail
def lO (v:AV) (off:Nat) (k:Option Nat):Res AV:=match v with
  | .agg cs=>(ia k (cs.drop off)).bind fun v=>.ok v.dis
  | _=>.fail
def ixSV (v i:AV) (k:Nat):Res AV:=match v with
  | .sl _ k' es=>if k' = k then (ixA i es.length).bind fun j=>.ok (.cptr (es.getD j .any).cells) else .fail
  | .bs id k' off len _=>if k' = k then (ixA i len).bind fun j=>.ok (.ptr id (off + j * k)) else .fail
  | _=>.fail
def ixArrV (v i:AV) (n k:Nat) (t:Option Nat):Res AV:=match v with
  | .agg cs=>(Fx.ixA i n).bind fun j=>(ia t (cs.drop (j * k))).bind fun v=>.ok v.dis
  | _=>.fail
def ik (sf:Sf) (st:St) (v:AV) (k:Option Nat):Res AV:=(aa sf st v).bind fun cs=>(ia k cs).bind fun v=>.ok v.dis
def ai (v:AV):Res AV:=match v with
  | .ptr a b=>.ok (.ptr a b)
  | .lptr a b=>.ok (.lptr a b)
  | .cptr cs=>.ok (.cptr cs)
  | _=>.fail
def lP (v:AV) (lo hi:Option AV) (k:Nat):Res AV:=match v with
  | .sl _ k' es=>if k' = k then (ixTo hi es.length es.length).bind fun h=>(ixTo lo 0 h).bind fun l=>.ok (.sl false k ((es.take h).drop l)) else .fail
  | .lit (.slice none 0 0)=>(ixTo hi 0 0).bind fun h=>(ixTo lo 0 h).bind fun _=>.ok (.lit (.slice none 0 0))
  | .bs id k' off len cap=>if k' = k then sliB none hi lo id k off len cap else .fail
  | _=>.fail
def sli3V (v:AV) (lo hi:Option AV) (mx:AV) (k:Nat):Res AV:=match v with
  | .bs id k' off len cap=>if k' = k then sliB (some mx) hi lo id k off len cap else .fail
  | .sl _ k' es=>if k' = k then sl3 (some mx) hi lo es.length es.length fun l h m=>if m = l then .ok (.sl true k []) else .ok (.sl false k ((es.take h).drop l)) else .fail
  | _=>.fail
def tasV (v:AV) (t:Nat):Res AV:=match v with
  | .ifc t' v=>if t' = t then .ok v.dis else .fail
  | _=>.fail
def mkfnV (q:FuncId) (fs cs:List AV):Res AV:=if (fs++cs).all AV.solid1 = true then .ok (.fn (.func q) fs cs) else .fail
def mkifV (v:AV) (t:Nat):Res AV:=if v.solid1 = true then .ok (.ifc t v.dis) else .fail
def bslV (k len:Nat) (z:AV) (parts:List (Nat×AV)):Res AV:=(bL k parts (List.replicate len z)).bind fun es=>.ok (mkSl k es)
def bstV (places:List (Nat×Nat)) (z:AV) (parts:List (Nat×AV)):Res AV:=(cm (fun i=>places[i]?) parts z.cells).bind fun cs=>.ok (.agg cs)
def barV (k:Nat) (z:AV) (parts:List (Nat×AV)):Res AV:=(cm (fun i=>some (i * k,k)) parts z.cells).bind fun cs=>.ok (.agg cs)
section
variable (d:Option Nat) (x y i:Opd)
theorem o_mv:oneI P F m (.mv d x) K sf st = K (sf.put d (sf.ev F x).dis) st:=bC P F m sf st K (.mv d x) rfl rfl
theorem o_pick (c a b:Opd):oneI P F m (.pick d c a b) K sf st = (pickV (sf.ev F c) (sf.ev F a) (sf.ev F b)).wp (putP K d sf st):=bC P F m sf st K (.pick d c a b) rfl rfl
theorem o_bin (k:BinK) (op:BinOp):oneI P F m (.bin d k op x y) K sf st = (binI k op (sf.ev F x) (sf.ev F y)).wp (putP K d sf st):=bC P F m sf st K (.bin d k op x y) rfl rfl
theorem o_un (op:UnOp):oneI P F m (.un d op x) K sf st = (unA op (sf.ev F x)).wp (putP K d sf st):=bC P F m sf st K (.un d op x) rfl rfl
theorem o_ext (j:Nat):oneI P F m (.ext d x j) K sf st = (extV (sf.ev F x) j).wp (putP K d sf st):=bC P F m sf st K (.ext d x j) rfl rfl
theorem o_field (off:Nat) (k:Option Nat):oneI P F m (.field d x off k) K sf st = (lO (sf.ev F x) off k).wp (putP K d sf st):=bC P F m sf st K (.field d x off k) rfl rfl
theorem o_addr (off:Nat):oneI P F m (.addr d x off) K sf st = (addA (sf.ev F x) off).wp (putP K d sf st):=bC P F m sf st K (.addr d x off) rfl rfl
theorem o_ixS (k:Nat):oneI P F m (.ixS d x i k) K sf st = (ixSV (sf.ev F x) (sf.ev F i) k).wp (putP K d sf st):=bC P F m sf st K (.ixS d x i k) rfl rfl
theorem ke (n k:Nat):oneI P F m (.ixA d x i n k) K sf st = ((Fx.ixA (sf.ev F i) n).bind fun j=>addA (sf.ev F x) (j * k)).wp (putP K d sf st):=bC P F m sf st K (.ixA d x i n k) rfl rfl
theorem o_ixArr (n k:Nat) (t:Option Nat):oneI P F m (.ixArr d x i n k t) K sf st = (ixArrV (sf.ev F x) (sf.ev F i) n k t).wp (putP K d sf st):=bC P F m sf st K (.ixArr d x i n k t) rfl rfl
theorem o_load (k:Option Nat):oneI P F m (.load d x k) K sf st = (ik sf st (sf.ev F x) k).wp (putP K d sf st):=bC P F m sf st K (.load d x k) rfl rfl
theorem o_nilck:oneI P F m (.nilck d x) K sf st = (ai (sf.ev F x)).wp (putP K d sf st):=bC P F m sf st K (.nilck d x) rfl rfl
theorem o_sliS (lo hi:Option Opd) (k:Nat):oneI P F m (.sliS d x lo hi k) K sf st = (lP (sf.ev F x) (lo.map (sf.ev F)) (hi.map (sf.ev F)) k).wp (putP K d sf st):=bC P F m sf st K (.sliS d x lo hi k) rfl rfl
theorem o_sli3 (lo hi:Option Opd) (mx:Opd) (k:Nat):oneI P F m (.sli3 d x lo hi mx k) K sf st = (sli3V (sf.ev F x) (lo.map (sf.ev F)) (hi.map (sf.ev F)) (sf.ev F mx) k).wp (putP K d sf st):=bC P F m sf st K (.sli3 d x lo hi mx k) rfl rfl
theorem o_mkif (t:Nat):oneI P F m (.mkif d t x) K sf st = (mkifV (sf.ev F x) t).wp (putP K d sf st):=bC P F m sf st K (.mkif d t x) rfl rfl
theorem o_tas (t:Nat):oneI P F m (.tas d t x) K sf st = (tasV (sf.ev F x) t).wp (putP K d sf st):=bC P F m sf st K (.tas d t x) rfl rfl
theorem cY (k len:Nat) (z:AV) (parts:List (Nat×Opd)):oneI P F m (.bsl d k len z parts) K sf st = (bslV k len z (parts.map fun p=>(p.1,sf.ev F p.2))).wp (putP K d sf st):=bC P F m sf st K (.bsl d k len z parts) rfl rfl
theorem o_bst (places:List (Nat×Nat)) (z:AV) (parts:List (Nat×Opd)):oneI P F m (.bst d places z parts) K sf st = (bstV places z (parts.map fun p=>(p.1,sf.ev F p.2))).wp (putP K d sf st):=bC P F m sf st K (.bst d places z parts) rfl rfl
theorem o_bar (k:Nat) (z:AV) (parts:List (Nat×Opd)):oneI P F m (.bar d k z parts) K sf st = (barV k z (parts.map fun p=>(p.1,sf.ev F p.2))).wp (putP K d sf st):=bC P F m sf st K (.bar d k z parts) rfl rfl
theorem bU (k:KeyK) (z:AV) (ok:Bool) (mp key:Opd):oneI P F m (.lookup d k z ok mp key) K sf st = (aZ k z ok st (sf.ev F mp) (sf.ev F key)).wp (putP K d sf st):=bC P F m sf st K (.lookup d k z ok mp key) rfl rfl
theorem o_mkfn (g:Nat) (first cap:List Opd):oneI P F m (.mkfn d g first cap) K sf st = (mkfnV (F g) (first.map (sf.ev F)) (cap.map (sf.ev F))).wp (putP K d sf st):=bC P F m sf st K (.mkfn d g first cap) rfl rfl
theorem o_len (k:LenK):oneI P F m (.len d k x) K sf st = (lenI k st (sf.ev F x)).wp (putP K d sf st):=bC P F m sf st K (.len d k x) rfl rfl
end
def ft (m:Bool) (d:Nat) (v:AV) (K:Sf→St→Prop) (sf:Sf) (st:St):Prop :=
  match v with
  | .lptr s off=>(Res.ofOpt (look s sf.locs)).wp fun cs=>match cs[off]? with
      | some (.sl true k es)=>K ((sf.setLoc s (cs.set off (.sl false k es))).set d (.sl true k es)) st
      | _=>(ik sf st (.lptr s off) none).wp (putP K (some d) sf st)
  | .ptr id off=>if m then (ik sf st (.ptr id off) none).wp (putP K (some d) sf st) else (Res.ofOpt (st.get id)).wp fun cs=>match cs[off]? with
      | some (.sl true k es)=>K (sf.set d (.sl true k es)) (st.set id (cs.set off (.sl false k es)))
      | _=>(ik sf st (.ptr id off) none).wp (putP K (some d) sf st)
  | v=>(ik sf st v none).wp (putP K (some d) sf st)
theorem ga (d:Option Nat) (r:Res AV):(vI d sf st r).wp (eZ K) = r.wp (putP K d sf st):=by
  unfold vI
  exact propext Res.wp_bind
theorem gM (d:Nat) (x:Opd):oneI P F m (.loadOwn d x) K sf st = ft m d (sf.ev F x) K sf st:=by
  show (bF F m (.loadOwn d x) sf st).wp (eZ K) = _
  have hld:(popI F (.load (some d) x none) sf st) = ik sf st (sf.ev F x) none:=rfl
  simp only [bF,hld]
  generalize sf.ev F x = v
  unfold ft
  cases v with
  | lptr s off =>
    simp only
    cases hl:look s sf.locs with
    | none=>rfl
    | some cs =>
      simp only [Res.ofOpt,Res.bind,Res.wp]
      cases hc:cs[off]? with
      | none=>exact ga sf st K (some d) _
      | some c =>
        cases c with
        | sl o k es=>cases o <;> first | rfl | exact ga sf st K (some d) _
        | _=>exact ga sf st K (some d) _
  | ptr id off =>
    simp only
    cases m
    · simp only [Bool.false_eq_true,if_false]
      cases hl:st.get id with
      | none=>rfl
      | some cs =>
        simp only [Res.ofOpt,Res.bind,Res.wp]
        cases hc:cs[off]? with
        | none=>exact ga sf st K (some d) _
        | some c =>
          cases c with
          | sl o k es=>cases o <;> first | rfl | exact ga sf st K (some d) _
          | _=>exact ga sf st K (some d) _
    · simp only [if_true]
      exact ga sf st K (some d) _
  | _=>exact ga sf st K (some d) _
theorem o_own (d s:Nat):oneI P F m (.own d s) K sf st = K ((sf.disAt s).set d (sf.reg s)) st:=rfl
def oB (d s:Nat) (v lo:AV) (k:Nat) (K:Sf→St→Prop) (sf:Sf) (st:St):Prop :=
  match v with
  | .sl true k' es=>k' = k∧(ixTo (some lo) 0 es.length).wp fun l=>K ((sf.disAt s).set d (.sl true k (es.drop l))) st
  | v=>(lP v (some lo) none k).wp (putP K (some d) sf st)
theorem o_sliOwn (d s:Nat) (lo:Opd) (k:Nat):oneI P F m (.sliOwn d s lo k) K sf st = oB d s (sf.reg s) (sf.ev F lo) k K sf st:=by
  show (bF F m (.sliOwn d s lo k) sf st).wp (eZ K) = _
  have hld:(popI F (.sliS (some d) (.r s) (some lo) none k) sf st) = lP (sf.reg s) (some (sf.ev F lo)) none k:=rfl
  simp only [bF,hld]
  unfold oB
  generalize sf.reg s = v
  cases v with
  | sl o k' es =>
    cases o
    · exact ga sf st K (some d) _
    · simp only
      by_cases hk:k' = k
      · subst hk
        simp only [if_true,true_and]
        exact propext Res.wp_bind
      · simp only [hk,if_false,false_and]; rfl
  | _=>exact ga sf st K (some d) _
def i0 (d s k bytes:Nat) (v y:AV) (K:Sf→St→Prop) (sf:Sf) (st:St):Prop :=
  match v with
  | .sl true k' es=>(dC st k bytes (.sl true k' es) y).wp fun v=>K ((sf.disAt s).set d v) st
  | v=>(eg st k bytes v y).wp (putP K (some d) sf st)
theorem iC (d s k bytes:Nat) (y:Opd):oneI P F m (.appS d s k bytes y) K sf st = i0 d s k bytes (sf.reg s) (sf.ev F y) K sf st:=by
  show (bF F m (.appS d s k bytes y) sf st).wp (eZ K) = _
  have hld:(popI F (.app (some d) k bytes (.r s) y) sf st) = eg st k bytes (sf.reg s) (sf.ev F y):=rfl
  simp only [bF,hld]
  unfold i0
  generalize sf.reg s = v
  cases v with
  | sl o k' es =>
    cases o
    · exact ga sf st K (some d) _
    · exact propext Res.wp_bind
  | _=>exact ga sf st K (some d) _
theorem o_newL (d:Nat) (cs:List AV):oneI P F m (.newL d cs) K sf st = K (sf.newLoc d cs) st:=rfl
theorem o_newB (d:Nat) (cs:List AV):oneI P F m (.newB d cs) K sf st = (m = false∧K (sf.set d (.ptr st.boxes.length 0)) (st.push (.cells cs))):=by
  cases m
  · exact propext ⟨fun h=>⟨rfl,h⟩,fun h=>h.2⟩
  · exact propext ⟨fun h=>h.elim,fun h=>by cases h.1⟩
def boxX (n:Nat) (v:AV) (C:Prop):Prop:=v.solid = true∧v.cells.length = n∧C
theorem lQ (d n:Nat) (x:Opd):oneI P F m (.boxL d n x) K sf st = boxX n (sf.evOwn F x) (K (sf.newLoc d (sf.evOwn F x).dis.cells) st):=by
  show (bF F m (.boxL d n x) sf st).wp (eZ K) = _
  unfold boxX
  simp only [bF]
  split
  · rename_i h; exact propext ⟨fun q=>⟨h.1,h.2,q⟩,fun q=>q.2.2⟩
  · rename_i h; exact propext ⟨fun q=>q.elim,fun q=>h ⟨q.1,q.2.1⟩⟩
theorem iD (d n:Nat) (x:Opd):oneI P F m (.boxB d n x) K sf st = boxX n (sf.evOwn F x) (m = false∧K ((sf.disOp x).set d (.ptr st.boxes.length 0)) (st.push (.cells (sf.evOwn F x).cells))):=by
  show (bF F m (.boxB d n x) sf st).wp (eZ K) = _
  unfold boxX
  simp only [bF]
  split
  · rename_i h; exact propext ⟨fun q=>⟨h.1,h.2.1,h.2.2,q⟩,fun q=>q.2.2.2⟩
  · rename_i h; exact propext ⟨fun q=>q.elim,fun q=>h ⟨q.1,q.2.1,q.2.2.1⟩⟩
def am (m:Bool) (a:AV) (vs:List AV) (K:Sf→St→Prop) (sf:Sf) (st:St):Prop :=
  match a with
  | .lptr s off=>(Res.ofOpt (look s sf.locs)).wp fun cs=>off + vs.length≤cs.length∧K (sf.setLoc s (bK cs off vs)) st
  | .ptr id off=>m = false∧(Res.ofOpt (st.get id)).wp fun cs=>off + vs.length≤cs.length∧K sf (st.set id (bK cs off vs))
  | _=>False
theorem o_store (n:Nat) (a x:Opd):oneI P F m (.store n a x) K sf st = boxX n (sf.evOwn F x) (am m (sf.ev F a) (sf.evOwn F x).cells K (sf.disOp x) st):=by
  show (bF F m (.store n a x) sf st).wp (eZ K) = _
  have hw:(oc m (sf.disOp x) st (sf.ev F a) (sf.evOwn F x).cells).wp (eZ K) = am m (sf.ev F a) (sf.evOwn F x).cells K (sf.disOp x) st:=by
    generalize (sf.evOwn F x).cells = vs
    generalize sf.disOp x = sf1
    unfold oc am
    generalize sf.ev F a = v
    have hif:∀ (c:Prop) [Decidable c] (r:Sf×St),(if c then Res.ok r else Res.fail).wp (eZ K) = (c∧K r.1 r.2):=by
      intro c _ r
      by_cases hc:c
      · rw [if_pos hc]; exact propext ⟨fun q=>⟨hc,q⟩,fun q=>q.2⟩
      · rw [if_neg hc]; exact propext ⟨fun q=>q.elim,fun q=>hc q.1⟩
    cases v with
    | lptr s off =>
      simp only
      cases hl:look s sf1.locs with
      | none=>rfl
      | some cs=>exact hif _ _
    | ptr id off =>
      simp only
      cases m
      · simp only [Bool.false_eq_true,if_false,true_and]
        cases hl:st.get id with
        | none=>rfl
        | some cs=>exact hif _ _
      · exact propext ⟨fun q=>q.elim,fun q=>by cases q.1⟩
    | _=>rfl
  unfold boxX
  simp only [bF]
  split
  · rename_i h; rw [hw]; exact propext ⟨fun q=>⟨h.1,h.2,q⟩,fun q=>q.2.2⟩
  · rename_i h; exact propext ⟨fun q=>q.elim,fun q=>h ⟨q.1,q.2.1⟩⟩
def delX (m:Bool) (k:KeyK) (mp key:AV) (K:Sf→St→Prop) (sf:Sf) (st:St):Prop :=
  keyI k key = true∧m = false∧match mp with
  | .map id=>(Res.ofOpt (st.getM id)).wp fun es=>(cV key es 0).wp fun r=>match r with
      | some (i,_)=>K sf (st.delM id es i)
      | none=>K sf st
  | _=>False
theorem kg (k:KeyK) (mp key:Opd):oneI P F m (.del k mp key) K sf st = delX m k (sf.ev F mp) (sf.ev F key) K sf st:=by
  show (bF F m (.del k mp key) sf st).wp (eZ K) = _
  simp only [bF]
  unfold delX
  generalize sf.ev F key = kv
  generalize sf.ev F mp = v
  by_cases h:keyI k kv = true∧m = false
  · have:∀ A:Prop,(keyI k kv = true∧m = false∧A) = A:=fun A=>propext ⟨fun q=>q.2.2,fun q=>⟨h.1,h.2,q⟩⟩
    rw [if_pos h,this]
    cases v with
    | map id =>
      simp only
      cases hl:st.getM id with
      | none=>rfl
      | some es =>
        refine propext ((Res.wp_bind (r:=cV kv es 0)).trans ?_)
        refine ⟨fun q=>Res.wp_mono (r:=cV kv es 0) q fun r hr=>?_,fun q=>Res.wp_mono (r:=cV kv es 0) q fun r hr=>?_⟩ <;> (cases r <;> exact hr)
    | _=>rfl
  · rw [if_neg h]
    exact propext ⟨fun q=>q.elim,fun q=>h ⟨q.1,q.2.1⟩⟩
theorem gO (d:Nat):oneI P F m (.mkmap d) K sf st = (m = false∧K (sf.set d (.map st.boxes.length)) (st.push (.mp [] [] 0))):=by
  cases m
  · exact propext ⟨fun h=>⟨rfl,h⟩,fun h=>h.2⟩
  · exact propext ⟨fun h=>h.elim,fun h=>by cases h.1⟩
def updX (m:Bool) (k:KeyK) (mp key x:AV) (K:Sf→St→Prop) (sf:Sf) (st:St):Prop :=
  keyI k key = true∧m = false∧x.solid = true∧match mp with
  | .map id=>(Res.ofOpt (st.getM id)).wp fun es=>(cV key es 0).wp fun r=>K sf (st.updM id es key x.dis r)
  | _=>False
theorem gb (k:KeyK) (mp key x:Opd):oneI P F m (.upd k mp key x) K sf st = updX m k (sf.ev F mp) (sf.ev F key) (sf.ev F x) K sf st:=by
  show (bF F m (.upd k mp key x) sf st).wp (eZ K) = _
  simp only [bF]
  unfold updX
  generalize sf.ev F key = kv
  generalize sf.ev F mp = v
  generalize sf.ev F x = xv
  by_cases h:keyI k kv = true∧m = false∧xv.solid = true
  · have:∀ A:Prop,(keyI k kv = true∧m = false∧xv.solid = true∧A) = A:=fun A=>propext ⟨fun q=>q.2.2.2,fun q=>⟨h.1,h.2.1,h.2.2,q⟩⟩
    rw [if_pos h,this]
    cases v with
    | map id =>
      simp only
      cases hl:st.getM id with
      | none=>rfl
      | some es=>exact propext (Res.wp_bind (r:=cV kv es 0))
    | _=>rfl
  · rw [if_neg h]
    exact propext ⟨fun q=>q.elim,fun q=>h ⟨q.1,q.2.1,q.2.2.1⟩⟩
theorem o_x (d:Option Nat) (i:XI):oneI P F m (.x d i) K sf st = bb F m i d K sf st:=rfl
theorem o_call (d:Option Nat) (p:Bool) (f:Opd) (args:List Opd):oneI P F m (.call d p f args) K sf st = iW P m p d (sf.ev F f) (args.map (sf.ev F)) K sf st:=rfl
theorem callI_eq (p:Bool) (d:Option Nat) (q:FuncId) (fs cs args:List AV):iW P m p d (.fn (.func q) fs cs) args K sf st =
    (args.all AV.noL = true∧(if (p || m) = true then CallP P q (fs++args.map AV.dis++cs) st (putP K d sf st) else CallA P q (fs++args.map AV.dis++cs) st (putK K d sf))):=rfl
theorem wp_ok {A:Type} (a:A) (C:A→Prop):(Res.ok a).wp C = C a:=rfl
theorem wp_req {A:Type} (b:Bool) (r:Res A) (C:A→Prop):(Res.req b r).wp C = (b = true∧r.wp C):=rfl
theorem bind_ok {A B:Type} (a:A) (f:A→Res B):(Res.ok a).bind f = f a:=rfl
theorem bind_req {A B:Type} (b:Bool) (r:Res A) (f:A→Res B):(Res.req b r).bind f = .req b (r.bind f):=rfl
theorem lR {A:Type} (a:A):Res.ofOpt (some a) = .ok a:=rfl
end
section
variable {P:Program} {m:Bool} {d:Option Nat} {q:FuncId} {fs cs args vs:List AV} {sf:Sf} {st:St} {K:Sf→St→Prop} {v:AV}
theorem ao {p:Bool} (hvs:fs++args.map AV.dis++cs = vs) (hent:cW P q = true) (h:aL P q vs st v) (hn:args.all AV.noL = true) (hK:K (sf.put d v) st):iW P m p d (.fn (.func q) fs cs) args K sf st:=by
  rw [callI_eq,hvs]
  refine ⟨hn,?_⟩
  split
  · exact ⟨hent,v,h,hK⟩
  · exact ⟨hent,_,h.acalls,fun v' st' e=>by obtain ⟨rfl,rfl⟩:=e; exact hK⟩
theorem au {Q:AV→St→Prop} (hvs:fs++args.map AV.dis++cs = vs) (hent:cW P q = true) (h:aA P q vs st Q) (hn:args.all AV.noL = true) (hK:∀ v st',Q v st'→K (sf.put d v) st'):iW P false false d (.fn (.func q) fs cs) args K sf st:=by
  rw [callI_eq,hvs]
  exact ⟨hn,hent,Q,h,hK⟩
end
end Go.Fx
/- From the readings of a row to abstract values, and back. -/
namespace Go.Fx
open Go Go.RowKit Go.ChangeShapes
inductive Sh where
  | bool
  | int (k:IntKind)
  | str
  | sl (e:Sh)
  | unit
  | pair (a r:Sh)
@[reducible] def Sh.T:Sh→Type
  | .bool=>Bool
  | .int _=>Int
  | .str=>ByteArray
  | .sl e=>List e.T
  | .unit=>Unit
  | .pair a r=>a.T×r.T
def Sh.size:Sh→Nat
  | .unit=>0
  | .pair a r=>a.size + r.size
  | _=>1
def Sh.isSt:Sh→Bool
  | .unit=>true
  | .pair _ _=>true
  | _=>false
def gu:Bool→List AV→AV
  | true,cs=>.agg cs
  | false,cs=>cs.headD .any
def Sh.cells:(s:Sh)→s.T→List AV
  | .bool,b=>[.lit (.bool b)]
  | .int k,n=>[.lit (.int k n)]
  | .str,s=>[.lit (.string s)]
  | .sl e,l=>[.sl false e.size (List.map (fun x=>gu e.isSt (e.cells x)) l)]
  | .unit,_=>[]
  | .pair a r,x=>a.cells x.1++r.cells x.2
def Sh.av (s:Sh) (x:s.T):AV:=gu s.isSt (s.cells x)
def Sh.ok:(s:Sh)→s.T→Prop
  | .bool,_=>True
  | .int k,n=>k.min≤n∧n≤k.max
  | .str,s=>s.size≤maxLen
  | .sl e,l=>l.length≤maxLen∧∀ x ∈ l,e.ok x
  | .unit,_=>True
  | .pair a r,x=>a.ok x.1∧r.ok x.2
theorem Sh.cells_len:∀ (s:Sh) (x:s.T),(s.cells x).length = s.size
  | .bool,_=>rfl
  | .int _,_=>rfl
  | .str,_=>rfl
  | .sl _,_=>rfl
  | .unit,_=>rfl
  | .pair a r,x=>by simp [Sh.cells,Sh.size,Sh.cells_len a,Sh.cells_len r]
theorem Sh.av_cells (s:Sh) (x:s.T):(s.av x).cells = s.cells x:=by
  cases s <;> rfl
section
variable (P:Program)
mutual
def ja:Nat→TypeId→Option Sh
  | 0,_=>none
  | n + 1, t => match P.underlying t with
    | some .bool=>some .bool
    | some (.int k)=>some (.int k)
    | some .string=>some .str
    | some (.slice e)=>(ja n e).bind fun s=>if s.size = P.cellsOf e∧0 < s.size then some (.sl s) else none
    | some (.struct fs)=>(ff n 0 fs.toList).bind fun s=>if s.size = P.cellsOf t then some s else none
    | _=>none
def ff:Nat→Nat→List Field→Option Sh
  | 0,_,_=>none
  | _ + 1,_,[]=>some .unit
  | n + 1,off,f::r=>if f.offset = off then (ja n f.type).bind fun a=>if a.size = P.cellsOf f.type then (ff n (off + a.size) r).map (.pair a ·) else none else none
end
end
theorem shapeF_st {P:Program}:∀ {n off:Nat} {l:List Field} {s:Sh},ff P n off l = some s→s.isSt = true
  | 0,_,_,_,h=>by simp [ff] at h
  | n + 1,off,[],s,h=>by simp [ff] at h; subst h; rfl
  | n + 1, off, f :: r, s, h => by
    simp only [ff] at h
    split at h
    · rw [Option.bind_eq_some_iff] at h
      obtain ⟨a,_,h⟩:=h
      split at h
      · obtain ⟨q,_,rfl⟩:=map_some h; rfl
      · cases h
    · cases h
section
variable {H:Type} {enc:TypeId×Value→H} {P:Program} {w:World} {base:Nat} {spare:Nat→Bool} {held:Bool} {g:Gh}
theorem nt {a:Addr} {q:Nat} {cs:List Value} (h:w.cells? base a q = some cs):cs.length = q∧∀ (i:Nat) (u:Value),cs[i]? = some u→w.cell? (a.add i) = some u:=by
  unfold World.cells? at h
  split at h
  · have key:∀ (l:List Nat) (cs:List Value),l.mapM (fun i=>w.cell? (a.add i)) = some cs→cs.length = l.length∧∀ (i j:Nat) (u:Value),l[i]? = some j→cs[i]? = some u→w.cell? (a.add j) = some u:=by
      intro l
      induction l with
      | nil=>intro cs h; simp at h; subst h; exact ⟨rfl,fun i j u h=>by simp at h⟩
      | cons x r ih =>
        intro cs h
        simp only [List.mapM_cons,bind,Option.bind_eq_some_iff,pure,Option.some.injEq] at h
        obtain ⟨v,hv,l',hl,rfl⟩:=h
        obtain ⟨h1,h2⟩:=ih l' hl
        refine ⟨by simp [h1],fun i j u hi hu=>?_⟩
        cases i with
        | zero=>simp at hi hu; subst hi; subst hu; exact hv
        | succ i=>exact h2 i j u (by simpa using hi) (by simpa using hu)
    obtain ⟨h1,h2⟩:=key _ _ h
    simp at h1
    refine ⟨h1,fun i u hu=>h2 i i u ?_ hu⟩
    have:i < q:=by rw [← h1]; exact (List.getElem?_eq_some_iff.1 hu).1
    simp [this]
  · cases h
theorem add_spot {a:Addr} {i:Nat} {u:Value} (h:w.cell? (a.add i) = some u):i = 0→a.spot = none:=by
  intro e
  subst e
  simp only [Addr.add,if_true] at h
  unfold World.cell? at h
  split at h
  · split at h
    · cases h
    · rename_i hs; simpa using hs
  · cases h
theorem fu {x:AV} {u:Value} (h:R g x u):RL g [x] [u]:=⟨rfl,fun i a b ha hb=>by cases i <;> simp at ha hb; subst ha; subst hb; exact h⟩
def Reads (g:Gh) (s:Sh) (cs:List Value):Prop:=∃ x:s.T,s.ok x∧RL g (s.cells x) cs∧∀ u ∈ cs,u.oneCell' = true
theorem shape_R (hi:∀ b o u,w.cell? ⟨b,o,none⟩ = some u→g.imm b o = some u):∀ (n:Nat),
    (∀ (t:TypeId) (s:Sh) (fuel:Nat) (cs:List Value) (x:DataW H×List MemPlace),ja P n t = some s→DataW.trod enc P w base spare held fuel t cs = some x→Reads g s cs) ∧
    (∀ (off:Nat) (l:List Field) (s:Sh) (fuel:Nat) (cs:List Value) (xs:List (DataW H×List MemPlace)),ff P n off l = some s→cs.length = off + s.size →
      (l.mapM fun f=>DataW.trod enc P w base spare held fuel f.type ((cs.drop f.offset).take (P.cellsOf f.type))) = some xs→Reads g s (cs.drop off)):=by
  intro n
  induction n with
  | zero=>exact ⟨fun t s fuel cs x h=>by simp [ja] at h,fun off l s fuel cs xs h=>by simp [ff] at h⟩
  | succ n ih =>
    obtain ⟨ih1,ih2⟩:=ih
    constructor
    · intro t s fuel cs x hs ht
      cases fuel with
      | zero=>simp [DataW.trod] at ht
      | succ fuel =>
      simp only [ja] at hs
      split at hs
      · rename_i hu
        cases hs
        have:∃ b,cs = [.bool b]:=by
          simp only [DataW.trod,hu] at ht
          split at ht <;> simp_all
        obtain ⟨b,rfl⟩:=this
        exact ⟨b,trivial,fu (R.lit _ rfl),by simp [Value.oneCell']⟩
      · rename_i k hu
        cases hs
        have:∃ m,cs = [.int k m]∧(Lit.int k m).wf = true:=by
          simp only [DataW.trod,hu] at ht
          split at ht <;> simp_all
        obtain ⟨m,rfl,hwf⟩:=this
        simp only [Lit.wf,Bool.and_eq_true,decide_eq_true_eq] at hwf
        exact ⟨m,hwf,fu (R.lit _ rfl),by simp [Value.oneCell']⟩
      · rename_i hu
        cases hs
        have:∃ q,cs = [.string q]∧q.size≤maxLen:=by
          simp only [DataW.trod,hu] at ht
          split at ht <;> simp_all
        obtain ⟨q,rfl,hwf⟩:=this
        exact ⟨q,hwf,fu (R.lit _ rfl),by simp [Value.oneCell']⟩
      · rename_i e hu
        rw [Option.bind_eq_some_iff] at hs
        obtain ⟨se,hse,hs⟩:=hs
        split at hs
        case isFalse=>cases hs
        rename_i hsz
        cases hs
        have:cs = [.slice none 0 0]∨∃ a len cap elems,cs = [.slice (some a) len cap]∧len≤cap∧cap≤maxLen ∧
            (List.range len).mapM (fun i=>(w.cells? base (a.add (i * P.cellsOf e)) (P.cellsOf e)).bind (DataW.trod enc P w base spare held fuel e)) = some elems:=by
          simp only [DataW.trod,hu] at ht
          split at ht
          all_goals try (exfalso; simp_all; done)
          · rename_i e1 h1
            exact .inl rfl
          · rename_i e1 a len cap h1
            cases h1
            split at ht
            · rename_i hc
              rw [Option.bind_eq_some_iff] at ht
              obtain ⟨elems,hm,_⟩:=ht
              exact .inr ⟨a,len,cap,elems,rfl,hc.2.1,hc.2.2,hm⟩
            · cases ht
        rcases this with rfl | ⟨a,len,cap,elems,rfl,hlc,hcm,hm⟩
        · exact ⟨[],⟨Nat.zero_le _,by simp⟩,fu (R.slN _ _),by simp [Value.oneCell']⟩
        · have key:∀ (l:List Nat) (es:List (DataW H×List MemPlace)),l.mapM (fun i=>(w.cells? base (a.add (i * P.cellsOf e)) (P.cellsOf e)).bind (DataW.trod enc P w base spare held fuel e)) = some es →
              ∃ ys:List se.T,ys.length = l.length∧∀ (q j:Nat) (y:se.T),l[q]? = some j→ys[q]? = some y→se.ok y∧∃ cj,w.cells? base (a.add (j * P.cellsOf e)) (P.cellsOf e) = some cj∧RL g (se.cells y) cj∧∀ u ∈ cj,u.oneCell' = true:=by
            intro l
            induction l with
            | nil=>intro es _; exact ⟨[],rfl,fun q j y h=>by simp at h⟩
            | cons z r ihl =>
              intro es h
              simp only [List.mapM_cons,bind,Option.bind_eq_some_iff,pure,Option.some.injEq] at h
              obtain ⟨v,⟨cj,hcj,hv⟩,l',hl,rfl⟩:=h
              obtain ⟨ys,h1,h2⟩:=ihl l' hl
              obtain ⟨y,hy1,hy2,hy3⟩:=ih1 e se fuel cj v hse hv
              refine ⟨y::ys,by simp [h1],fun q j y' hq hy=>?_⟩
              cases q with
              | zero=>simp at hq hy; subst hq; subst hy; exact ⟨hy1,cj,hcj,hy2,hy3⟩
              | succ q=>exact h2 q j y' (by simpa using hq) (by simpa using hy)
          obtain ⟨ys,hyl,hys⟩:=key _ _ hm
          simp at hyl
          have hsz1:=hsz.1
          refine ⟨ys,⟨by rw [hyl]; omega,fun y hy=>?_⟩,fu ?_,by simp [Value.oneCell']⟩
          · obtain ⟨q,hq⟩:=List.mem_iff_getElem?.1 hy
            have hql:q < len:=by rw [← hyl]; exact (List.getElem?_eq_some_iff.1 hq).1
            exact (hys q q y (by simp [hql]) hq).1
          · have hel:(List.map (fun x=>gu se.isSt (se.cells x)) ys).length = len:=by simp [hyl]
            rcases Nat.eq_zero_or_pos len with h0 | h0
            · subst h0
              have:ys = []:=List.eq_nil_of_length_eq_zero hyl
              subst this
              exact R.slE false _ a cap
            · have hsp:a.spot = none:=by
                obtain ⟨y0,hy0⟩:∃ y0,ys[0]? = some y0:=⟨ys[0],by simp⟩
                obtain ⟨_,cj,hcj,hrl,_⟩:=hys 0 0 y0 (by simp [h0]) hy0
                obtain ⟨hl0,hc0⟩:=nt hcj
                have hpos:0 < cj.length:=by rw [hl0,← hsz1]; exact hsz.2
                have:=hc0 0 cj[0] (by simp [hpos])
                simp only [Nat.zero_mul] at this
                have ha0:(a.add 0).add 0 = a.add 0:=by simp [Addr.add]
                rw [ha0] at this
                exact add_spot this rfl
              obtain ⟨b,o,sp⟩:=a
              simp only at hsp
              subst hsp
              have hcl:∀ x ∈ (List.map (fun x=>gu se.isSt (se.cells x)) ys),x.cells.length = se.size:=by
                intro x hx
                obtain ⟨y,_,rfl⟩:=List.mem_map.1 hx
                have:=Sh.av_cells se y
                unfold Sh.av at this
                rw [this]; exact Sh.cells_len se y
              have hget:∀ (i:Nat) (x:AV),((List.map (fun x=>gu se.isSt (se.cells x)) ys).flatMap AV.cells)[i]? = some x→∃ u,w.cell? ⟨b,o + i,none⟩ = some u∧R g x u∧u.oneCell' = true:=by
                intro i x hx
                obtain ⟨q,r,e',rfl,h2,h3⟩:=eC hcl hx
                simp only [List.getElem?_map,Option.map_eq_some_iff] at h2
                obtain ⟨y,hy,rfl⟩:=h2
                have hql:q < len:=by rw [← hyl]; exact (List.getElem?_eq_some_iff.1 hy).1
                obtain ⟨_,cj,hcj,hrl,hone⟩:=hys q q y (by simp [hql]) hy
                have hav:=Sh.av_cells se y
                unfold Sh.av at hav
                rw [hav] at h3
                obtain ⟨hl0,hc0⟩:=nt hcj
                have hr:r < cj.length:=by rw [hrl.1]; exact (List.getElem?_eq_some_iff.1 h3).1
                have h4:=hc0 r cj[r] (by simp [hr])
                rw [cn,cn,← hsz1] at h4
                refine ⟨cj[r],?_,hrl.2 r x _ h3 (by simp [hr]),hone _ (List.getElem_mem hr)⟩
                rw [← Nat.add_assoc]; exact h4
              have:=R.sl (g:=g) false se.size _ (fun i=>(w.cell? ⟨b,o + i,none⟩).getD undef) b o cap (by rw [hel]; exact hlc) hcl (fun i x hx=>?_) (fun i x hx=>?_) (fun i x hx=>?_)
              · rw [hel] at this; exact this
              · obtain ⟨u,h1,h2,h3⟩:=hget i x hx
                rw [h1]; exact hi _ _ _ h1
              · obtain ⟨u,h1,h2,h3⟩:=hget i x hx
                rw [h1]; exact h2
              · obtain ⟨u,h1,h2,h3⟩:=hget i x hx
                rw [h1]; exact h3
      · rename_i fs hu
        rw [Option.bind_eq_some_iff] at hs
        obtain ⟨s',hs',hs⟩:=hs
        split at hs
        case isFalse=>cases hs
        rename_i hsz
        have hss:s' = s:=Option.some.inj hs
        subst hss
        have:cs.length = P.cellsOf t∧∃ xs,(fs.toList.mapM fun f=>DataW.trod enc P w base spare held fuel f.type ((cs.drop f.offset).take (P.cellsOf f.type))) = some xs:=by
          simp only [DataW.trod,hu] at ht
          split at ht
          all_goals try (exfalso; simp_all; done)
          rename_i hc
          obtain ⟨xs,hxs,_⟩:=map_some ht
          exact ⟨hc,xs,hxs⟩
        obtain ⟨hlen,xs,hxs⟩:=this
        have:=ih2 0 fs.toList s' fuel cs xs hs' (by rw [hlen,hsz]; simp) hxs
        simpa using this
      · cases hs
    · intro off l s fuel cs xs hs hlen hm
      cases l with
      | nil =>
        simp only [ff] at hs
        cases hs
        refine ⟨(),trivial,?_,?_⟩
        · have:cs.drop off = []:=by apply List.drop_eq_nil_of_le; simp [Sh.size] at hlen; omega
          rw [this]; exact RL.nil
        · have:cs.drop off = []:=by apply List.drop_eq_nil_of_le; simp [Sh.size] at hlen; omega
          rw [this]; simp
      | cons f r =>
        simp only [ff] at hs
        split at hs
        case isFalse=>cases hs
        rename_i hoff
        rw [Option.bind_eq_some_iff] at hs
        obtain ⟨a,ha,hs⟩:=hs
        split at hs
        case isFalse=>cases hs
        rename_i hsz
        obtain ⟨q,hq,rfl⟩:=map_some hs
        simp only [List.mapM_cons,bind,Option.bind_eq_some_iff,pure,Option.some.injEq] at hm
        obtain ⟨x0,hx0,xr,hxr,rfl⟩:=hm
        obtain ⟨y,hy1,hy2,hy3⟩:=ih1 f.type a fuel _ x0 ha hx0
        obtain ⟨z,hz1,hz2,hz3⟩:=ih2 (off + a.size) r q fuel cs xr hq (by rw [hlen]; simp [Sh.size]; omega) hxr
        have hsplit:cs.drop off = (cs.drop f.offset).take (P.cellsOf f.type)++cs.drop (off + a.size):=by
          rw [hoff,← hsz,← List.drop_drop]
          exact (List.take_append_drop a.size (cs.drop off)).symm
        rw [hsplit]
        exact ⟨(y,z),⟨hy1,hz1⟩,hy2.append hz2,fun u hu=>(List.mem_append.1 hu).elim (hy3 u) (hz3 u)⟩
theorem cell_plain {r:Reach} {b0:Nat} {t:TypeId} {v:Value} {s:Sh} {n:Nat} (hs:ja P (n + 1) t = some s) (hv:Value.okWide P w r b0 t v):(s.isSt = true∧∃ cs,v = .agg cs)∨(s.isSt = false∧v.cells = #[v]):=by
  simp only [ja] at hs
  unfold Value.okWide at hv
  split at hs
  · rename_i hu
    cases hs
    simp only [hu,Cell.okWide,Cell.ok] at hv
    right
    refine ⟨rfl,?_⟩
    cases v <;> first | rfl | (simp at hv; done)
  · rename_i k hu
    cases hs
    simp only [hu,Cell.okWide,Cell.ok] at hv
    right
    refine ⟨rfl,?_⟩
    cases v <;> first | rfl | (simp at hv; done)
  · rename_i hu
    cases hs
    simp only [hu,Cell.okWide,Cell.ok] at hv
    right
    refine ⟨rfl,?_⟩
    cases v <;> first | rfl | (simp at hv; done)
  · rename_i e hu
    rw [Option.bind_eq_some_iff] at hs
    obtain ⟨se,hse,hs⟩:=hs
    split at hs
    case isFalse=>cases hs
    cases hs
    simp only [hu,Cell.okWide,Cell.ok] at hv
    right
    refine ⟨rfl,?_⟩
    cases v <;> first | rfl | (simp at hv; done)
  · rename_i fs hu
    rw [Option.bind_eq_some_iff] at hs
    obtain ⟨s',hs',hs⟩:=hs
    split at hs
    case isFalse=>cases hs
    have hss:s' = s:=Option.some.inj hs
    subst hss
    simp only [hu] at hv
    obtain ⟨cs,rfl,_⟩:=hv
    exact .inl ⟨shapeF_st hs',cs,rfl⟩
  · cases hs
theorem trod_sh (hi:∀ b o u,w.cell? ⟨b,o,none⟩ = some u→g.imm b o = some u) {n:Nat} {t:TypeId} {s:Sh} {v:Value} {d:DataW H} {ps:List MemPlace} {r:Reach} {b0:Nat} (hs:ja P (n + 1) t = some s) (h:DataW.Trod enc P w base spare held t v d ps)
    (hv:Value.okWide P w r b0 t v):∃ x:s.T,s.ok x∧R g (s.av x) v:=by
  obtain ⟨fuel,hf⟩:=h
  obtain ⟨x,h1,h2,h3⟩:=(shape_R (enc:=enc) (base:=base) (spare:=spare) (held:=held) hi (n + 1)).1 t s fuel _ _ hs hf
  refine ⟨x,h1,?_⟩
  rcases cell_plain hs hv with ⟨hst,cs,rfl⟩ | ⟨hst,hc⟩
  · unfold Sh.av
    rw [hst]
    have:=RL.agg h2
    simpa [gu,Value.cells] using this
  · rw [hc] at h2
    unfold Sh.av
    rw [hst]
    simp only [gu]
    have hl:=h2.1
    match hcs:s.cells x,hl with
    | [c], _ =>
      rw [hcs] at h2
      exact h2.2 0 c v rfl rfl
def parS (P:Program):List TypeId→Option Sh
  | []=>some .unit
  | t :: r => match ja P 20 t, parS P r with
    | some s,some q=>some (.pair s q)
    | _,_=>none
def eL:(s:Sh)→s.T→List AV
  | .pair a r,x=>a.av x.1::eL r x.2
  | .bool,_=>[]
  | .int _,_=>[]
  | .str,_=>[]
  | .sl _,_=>[]
  | .unit,_=>[]
theorem args_R (hi:∀ b o u,w.cell? ⟨b,o,none⟩ = some u→g.imm b o = some u) {b0:Nat}:∀ {ts:List TypeId} {vs:List Value} {ds:List (DataW H)} {ps:List MemPlace} {S:Sh},parS P ts = some S→DataW.TrodAll enc P w base spare held ts vs ds ps →
    (∀ (j:Nat) t v,ts[j]? = some t→vs[j]? = some v→Value.okWide P w .any b0 t v)→∃ x:S.T,S.ok x∧j7 g (eL S x) vs.toArray
  | [], vs, ds, ps, S, hS, h, _ => by
    simp only [parS] at hS
    cases hS
    cases vs with
    | nil=>exact ⟨(),trivial,rfl,fun i x u hx=>by simp [eL] at hx⟩
    | cons v r=>cases ds <;> exact h.elim
  | t :: ts, vs, ds, ps, S, hS, h, hok => by
    simp only [parS] at hS
    split at hS
    · rename_i s q hs hq
      cases hS
      cases vs with
      | nil=>cases ds <;> exact h.elim
      | cons v vs =>
        cases ds with
        | nil=>exact h.elim
        | cons d ds =>
          obtain ⟨p1,p2,h1,h2,_⟩:=h
          obtain ⟨x,hx1,hx2⟩:=trod_sh hi (n:=19) hs h1 (hok 0 t v rfl rfl)
          obtain ⟨y,hy1,hy2⟩:=args_R hi hq h2 (fun j t v ht hv=>hok (j + 1) t v (by simpa using ht) (by simpa using hv))
          refine ⟨(x,y),⟨hx1,hy1⟩,by simpa [eL] using hy2.1,fun i a u ha hu=>?_⟩
          cases i with
          | zero=>simp [eL] at ha hu; subst ha; subst hu; exact hx2
          | succ i=>exact hy2.2 i a u (by simpa [eL] using ha) (by simpa using hu)
    · cases hS
theorem il (hl:laidOutB P = true) {W W':World} {sp':Nat→Bool}:∀ {ts:List TypeId} {vs:List Value} {ds:List (DataW H)} {ps:List MemPlace},(∀ t ∈ ts,P.readableRec t = true∧t < P.types.size) →
    DataW.TrodAll enc P W base (fun _=>true) true ts vs ds ps→(∀ p ∈ ps,W.sameAt W' p)→(∀ p ∈ ps,sp' p.block = true)→DataW.TrodAll enc P W' base sp' true ts vs ds ps
  | [],[],[],ps,_,h,_,_=>h
  | [],[],_::_,_,_,h,_,_=>h.elim
  | [],_::_,[],_,_,h,_,_=>h.elim
  | [],_::_,_::_,_,_,h,_,_=>h.elim
  | _::_,[],[],_,_,h,_,_=>h.elim
  | _::_,[],_::_,_,_,h,_,_=>h.elim
  | _::_,_::_,[],_,_,h,_,_=>h.elim
  | t :: ts, v :: vs, d :: ds, ps, ht, h, hs, hp => by
    obtain ⟨p,q,h1,h2,rfl⟩:=h
    exact ⟨p,q,WideElems.Trod_stays hl (ht t (by simp)).1 (ht t (by simp)).2 h1 (fun x hx=>hs x (by simp [hx])) (fun x hx=>hp x (by simp [hx])),
      il hl (fun t h=>ht t (by simp [h])) h2 (fun x hx=>hs x (by simp [hx])) (fun x hx=>hp x (by simp [hx])),rfl⟩
theorem mM {W W':World} {may:MemPlace→Prop} (hb:Below W.heap.size W W'):W.keptBut W' may:=by
  refine ⟨hb.os,hb.output,fun i hi=>?_⟩
  rw [hb.block i hi]
  cases hh:W.heap[i]? with
  | none=>rfl
  | some o=>cases o <;> first | rfl | exact ⟨rfl,rfl,rfl,fun _ _=>rfl⟩ | exact .inr ⟨rfl,rfl⟩
theorem post_law {f:Func} {s:ChangeSpec} {apart fresh handsOn again:Bool} {W W':World} {args:Array Value} {ds gs:List (DataW H)} {before:List MemPlace} {tb:TypeId} (hl:laidOutB P = true) (ht:∀ t ∈ f.params.toList,P.readableRec t = true∧t < P.types.size)
    (hres:f.resultTypes = #[tb]) (htb:P.underlying tb = some .bool) (hvars:s.vars = []) (hfn:∀ ds:List (DataW H),ds.length = f.params.size→(s.fn H ds).results = [.lit (.bool true)]∧(s.fn H ds).args = ds∧(s.fn H ds).vars = [])
    (hW:DataW.Whole enc P f.params.toList s.vars apart W args.toList ds gs before) (hb:Below W.heap.size W W'):s.post enc P f apart fresh handsOn again W args (.bool true) W':=by
  have hW0:=hW
  obtain ⟨p,q,hA,hV,hpq,hz,hn⟩:=hW
  rw [hvars] at hV
  obtain ⟨rfl,rfl⟩:=trodVars_none hV
  simp only [List.append_nil] at hpq
  subst hpq
  have hlen:ds.length = f.params.size:=by
    have key:∀ {ts:List TypeId} {vs:List Value} {ds:List (DataW H)} {ps:List MemPlace},DataW.TrodAll enc P W 0 (fun _=>true) true ts vs ds ps→ds.length = ts.length:=by
      intro ts
      induction ts with
      | nil=>intro vs ds ps h; cases vs <;> cases ds <;> first | rfl | exact h.elim
      | cons t ts ih =>
        intro vs ds ps h
        cases vs <;> cases ds <;> first | exact h.elim | skip
        obtain ⟨_,_,_,h2,_⟩:=h
        simp [ih h2]
    have:=key hA
    simpa using this
  obtain ⟨hr1,hr2,hr3⟩:=hfn (ds++[]) (by simpa using hlen)
  have hlt:∀ x ∈ before,x.block < W.heap.size:=fun x hx=>by simpa using hW0.lt x hx
  have hsame:∀ x ∈ before,W.sameAt W' x:=fun x hx=>hb.same (hlt x hx)
  have hret:∀ (b:Nat) (sp:Nat→Bool) (hd:Bool),DataW.TrodAll enc P W' b sp hd f.resultTypes.toList ((Value.bool true).resultList f.resultTypes.size) (s.fn H (ds++[])).results []:=by
    intro b sp hd
    rw [hr1,hres]
    refine ⟨[],[],⟨1,?_⟩,rfl,rfl⟩
    simp [DataW.trod,htb,Value.cells]
  have hargs:∀ sp:Nat→Bool,(∀ p ∈ before,sp p.block = true)→DataW.TrodAll enc P W' 0 sp true f.params.toList args.toList (s.fn H (ds++[])).args before:=by
    intro sp hsp
    rw [hr2,List.append_nil]
    exact il hl ht hA hsame hsp
  have hvs:∀ sp:Nat→Bool,DataW.TrodVars enc P W' sp s.vars (s.fn H (ds++[])).vars []:=by
    intro sp
    rw [hvars,hr3]
    rfl
  refine ⟨ds,[],before,[],before,[],hW0,hret _ _ _,hargs _ (fun x hx=>by simpa using hlt x hx),hvs _,mM hb,fun _=>?_⟩
  refine ⟨fun j t r hj hr=>?_,_,_,([]++before)++[],⟨[]++before,[],trodAll_append (hargs _ (fun _ _=>rfl)) (hret _ _ _),hvs _,rfl,?_,?_⟩,?_⟩
  · rw [hres] at hj hr
    match j with
    | 0 =>
      simp [Value.resultList] at hj hr
      subst hj; subst hr
      simp [Value.okWide,htb,Cell.okWide,Cell.ok]
    | j + 1=>simp at hj
  · intro b off hp
    have hp':(MemPlace.cell b off) ∈ before:=by simpa using hp
    have h1:=hz b off hp'
    have h2:=hlt _ hp'
    unfold World.frozen? at h1 ⊢
    rw [hb.block b h2]; exact h1
  · intro ha
    have:=hn ha
    simpa using this
  · intro x hx _
    simpa using hx
theorem wrap_nb {b:Bool} {l:List AV} (h:∀ c ∈ l,c.NB):(gu b l).NB:=by
  cases b
  · cases l with
    | nil=>exact .any
    | cons c r=>exact h c (List.mem_cons_self ..)
  · exact .agg _ h
theorem jb:∀ (s:Sh) (x:s.T),∀ c ∈ s.cells x,c.NB
  | .bool,b,c,h=>by simp only [Sh.cells,List.mem_singleton] at h; subst h; exact .lit _
  | .int _,b,c,h=>by simp only [Sh.cells,List.mem_singleton] at h; subst h; exact .lit _
  | .str,b,c,h=>by simp only [Sh.cells,List.mem_singleton] at h; subst h; exact .lit _
  | .sl e, l, c, h => by
    simp only [Sh.cells,List.mem_singleton] at h; subst h
    refine .sl _ _ _ fun v hv=>?_
    obtain ⟨y,_,rfl⟩:=List.mem_map.1 hv
    exact wrap_nb (jb e y)
  | .unit,_,c,h=>by simp [Sh.cells] at h
  | .pair a r, x, c, h => by
    simp only [Sh.cells,List.mem_append] at h
    exact h.elim (jb a x.1 c) (jb r x.2 c)
theorem avsOf_nb:∀ (s:Sh) (x:s.T),∀ c ∈ eL s x,c.NB
  | .pair a r, x, c, h => by
    simp only [eL,List.mem_cons] at h
    rcases h with rfl | h
    · exact wrap_nb (jb a x.1)
    · exact avsOf_nb r x.2 c h
  | .bool,_,c,h=>by simp [eL] at h
  | .int _,_,c,h=>by simp [eL] at h
  | .str,_,c,h=>by simp [eL] at h
  | .sl _,_,c,h=>by simp [eL] at h
  | .unit,_,c,h=>by simp [eL] at h
theorem law_calls {f:FuncId} {fn:Func} {s:ChangeSpec} {apart fresh handsOn again:Bool} {tb:TypeId} {S:Sh} (hl:laidOutB P = true) (ht:∀ t ∈ fn.params.toList,P.readableRec t = true∧t < P.types.size)
    (hS:parS P fn.params.toList = some S) (hres:fn.resultTypes = #[tb]) (htb:P.underlying tb = some .bool) (hvars:s.vars = []) (hfn:∀ ds:List (DataW H),ds.length = fn.params.size→(s.fn H ds).results = [.lit (.bool true)]∧(s.fn H ds).args = ds∧(s.fn H ds).vars = [])
    (hlaw:∀ x:S.T,S.ok x→aL P f (eL S x) ⟨[]⟩ (.lit (.bool true)))
    (W:World) (b0:Nat) (args:Array Value) (ds gs:List (DataW H)) (before:List MemPlace) (hval:∀ (j:Nat) t v,fn.params[j]? = some t→args[j]? = some v→Value.okWide P W .any b0 t v)
    (hW:DataW.Whole enc P fn.params.toList s.vars apart W args.toList ds gs before):Calls P f args W fun e W'=>∃ v,e = .returned v∧s.post enc P fn apart fresh handsOn again W args v W':=by
  have hW0:=hW
  obtain ⟨p,q,hA,_⟩:=hW
  let g0:Gh:=⟨W.heap.size,fun b o=>W.cell? ⟨b,o,none⟩,fun _=>none,fun _ _=>none,fun _=>none⟩
  have hg:Good g0 W:=⟨fun _ _ _ h=>h,fun _ _ _ _=>.inl rfl,(fun b c hc=>by cases hc),Nat.le_refl _⟩
  have hbx:BoxR g0 W ⟨[]⟩:=⟨fun _ _=>rfl,fun id cs hc=>by simp at hc,fun id bx hc=>by simp at hc⟩
  obtain ⟨x,hx,hargs⟩:=args_R (g:=g0) (b0:=b0) (fun b o u h=>h) hS hA (fun j t v ht hv=>hval j t v (by simpa using ht) (by simpa using hv))
  refine (hlaw x hx g0 W args (fun _=>.box 0 0) hg hbx (by simpa using hargs)).mono fun e W' ⟨u,g',he,hle,hR,_⟩=>?_
  have hu:=hR.lit_inv.1
  subst hu
  exact ⟨_,he,post_law hl ht hres htb hvars hfn hW0 hle.below⟩
theorem law_top {f:FuncId} {fn:Func} {s:ChangeSpec} {apart fresh handsOn again:Bool} {tb:TypeId} {S:Sh} (hl:laidOutB P = true) (ht:(fn.params.toList.all fun t=>P.readableRec t && decide (t < P.types.size)) = true)
    (hS:parS P fn.params.toList = some S) (hres:fn.resultTypes = #[tb]) (htb:P.underlying tb = some .bool) (hvars:s.vars = []) (hfn:∀ ds:List (DataW H),ds.length = fn.params.size→(s.fn H ds).results = [.lit (.bool true)]∧(s.fn H ds).args = ds∧(s.fn H ds).vars = [])
    (hlaw:∀ x:S.T,S.ok x→aA P f (eL S x) ⟨[]⟩ fun v _=>v = .lit (.bool true))
    (W:World) (b0:Nat) (args:Array Value) (ds gs:List (DataW H)) (before:List MemPlace) (hval:∀ (j:Nat) t v,fn.params[j]? = some t→args[j]? = some v→Value.okWide P W .any b0 t v)
    (hW:DataW.Whole enc P fn.params.toList s.vars apart W args.toList ds gs before):Calls P f args W fun e W'=>∃ v,e = .returned v∧s.post enc P fn apart fresh handsOn again W args v W':=by
  refine law_calls hl (fun t h=>by have:=List.all_eq_true.1 ht t h; simpa using this) hS hres htb hvars hfn (fun x hx=>?_) W b0 args ds gs before hval hW
  refine pure_of ((hlaw x hx).mono fun v st e=>by subst e; exact .le _ _ (.refl _) (.lit _)) (fun v hv=>avsOf_nb S x v hv) _
end
end Go.Fx

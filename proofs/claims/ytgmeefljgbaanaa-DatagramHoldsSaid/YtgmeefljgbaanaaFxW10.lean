/- What the functions that the statement reaches compute: part 10. -/
import Derived.Test.YtgmeefljgbaanaaFxW9
namespace Go.Fx.YtgmeefljgbaanaaFx
open Go Go.Fx
attribute [local irreducible] aC runI aF a9

set_option maxRecDepth 100000
set_option maxHeartbeats 4000000

/-! The net as it is seen: its sockets by numbers, its waiting tasks. -/
structure Wt where
  task:Nat
  sock:Nat
  most:Int
structure NR where
  now:Nat
  socks:List Sk
  ws:List Wt
structure Rc where
  task:Int
  nm:ByteArray
  port:Int
  data:List UInt8
  at_:Nat
  cut:Bool
  err:Int
def rc0:Rc:=⟨0,⟨#[]⟩,0,[],0,false,0⟩
def cutR (t:Int) (p:Pk) (most:Int):Rc:=⟨t,p.nm,p.port,p.data.take (cutN most p.data),p.at_,decide (most < (p.data.length:Int)),0⟩

def atS (i:Int):List Sk→Option Sk
  | []=>none
  | S::r=>if (S.num:Int) = i then some S else atS i r
def ofS (nm:ByteArray) (port:Int):List Sk→Option Sk
  | []=>none
  | S::r=>if S.nm = nm∧S.port = port then some S else ofS nm port r
def modS (i:Int) (f:Sk→Sk):List Sk→List Sk
  | []=>[]
  | S::r=>if (S.num:Int) = i then f S::r else S::modS i f r
def delS (i:Int):List Sk→List Sk
  | []=>[]
  | S::r=>if (S.num:Int) = i then r else S::delS i r
def insS (S:Sk) (l:List Sk):List Sk:=l.filter (fun T=>decide (T.num < S.num))++S::l.filter (fun T=>decide (S.num < T.num))
def ph (l:List Sk):Nat→Nat→Nat
  | 0,k=>k
  | f + 1,k=>if (atS (k:Int) l).isSome then ph l f (k + 1) else k
def fstW (i:Int):List Wt→Option (Wt×List Wt)
  | []=>none
  | w :: r => if (w.sock : Int) = i then some (w, r) else match fstW i r with
    | none=>none
    | some (x,s)=>some (x,w::s)
def delW (t:Int):List Wt→Option (Wt×List Wt)
  | []=>none
  | w :: r => if (w.task : Int) = t then some (w, r) else match delW t r with
    | none=>none
    | some (x,s)=>some (x,w::s)

def eM (nm:ByteArray) (port packets bytes pol:Int) (life:Nat) (R:NR):NR×Int×Int :=
  if ¬ (gK nm port = true∧1≤packets∧packets≤256∧0≤bytes∧bytes≤65536∧(pol = 1∨pol = 2)) then (R,0,2)
  else if (ofS nm port R.socks).isSome then (R,0,11)
  else if 64≤R.socks.length then (R,0,7)
  else ({ R with socks:=insS ⟨ph R.socks 64 0,nm,port,packets.toNat,bytes.toNat,pol,life,[],0,0⟩ R.socks },(ph R.socks 64 0:Nat),0)
def cc (from_:Int) (nm:ByteArray) (port:Int) (d:List UInt8) (R:NR):NR×List Rc×Int :=
  if gK nm port = false then (R,[],2)
  else if 2048 < d.length then (R,[],5)
  else match atS from_ R.socks with
    | none=>(R,[],9)
    | some F => match ofS nm port R.socks with
      | none=>(R,[],0)
      | some T => match fstW (T.num : Nat) R.ws with
        | some (w,rest)=>({ R with ws:=rest },[cutR w.task ⟨F.nm,F.port,d,R.now⟩ w.most],0)
        | none=>({ R with socks:=modS (T.num:Nat) (getS ⟨F.nm,F.port,d,R.now⟩) R.socks },[],0)
def fK (S:Sk):Sk:={ S with q:=S.q.tail }
def fL (t at_ most:Int) (R:NR):NR×Rc×Bool×Int :=
  if t < 0∨64≤t∨most < 0 then (R,rc0,false,2)
  else match atS at_ R.socks with
    | none=>(R,rc0,false,9)
    | some S => if (delW t R.ws).isSome then (R, rc0, false, 11)
      else match S.q with
        | []=>({ R with ws:=R.ws++[⟨t.toNat,S.num,most⟩] },rc0,false,0)
        | p::_=>({ R with socks:=modS at_ fK R.socks },cutR t p most,true,0)
def rTry (at_ most:Int) (R:NR):NR×Rc×Int :=
  if most < 0 then (R,rc0,2)
  else match atS at_ R.socks with
    | none=>(R,rc0,9)
    | some S => match S.q with
      | []=>(R,rc0,16)
      | p::_=>({ R with socks:=modS at_ fK R.socks },cutR 0 p most,0)
def gA (t:Int) (R:NR):NR×Int :=
  if t < 0∨64≤t then (R,2)
  else match delW t R.ws with
    | none=>(R,9)
    | some (_,rest)=>({ R with ws:=rest },0)
def clRc (w:Wt):Rc:=⟨w.task,⟨#[]⟩,0,[],0,false,14⟩
def iC (at_:Int) (R:NR):NR×List Rc×Int :=
  match atS at_ R.socks with
  | none=>(R,[],9)
  | some _=>({ R with socks:=delS at_ R.socks,ws:=R.ws.filter fun w=>decide ((w.sock:Int)≠at_) },(R.ws.filter fun w=>decide ((w.sock:Int) = at_)).map clRc,0)
def dK (to life:Nat):List Pk→Nat→List Pk×Nat
  | [],k=>([],k)
  | p::r,k=>if 0 < life∧life≤to - p.at_ then dK to life r (k + 1) else (p::r,k)
def advS (to:Nat) (S:Sk):Sk:={ S with q:=(dK to S.life S.q 0).1,old:=S.old + (dK to S.life S.q 0).2 }
def advN (to:Nat):List Sk→Nat
  | []=>0
  | S::r=>(dK to S.life S.q 0).2 + advN to r
def rAdv (to:Int) (R:NR):NR×Int×Int :=
  if to < (R.now:Int)∨to = 18446744073709551615 then (R,0,3)
  else ({ R with now:=to.toNat,socks:=R.socks.map (advS to.toNat) },(advN to.toNat R.socks:Nat),0)

/-! Sockets: the map, and the list. -/
structure SockR (M:List (Int×SL)) (socks:List Sk) (k now:Nat):Prop where
  at_:∀ i:Int,(ai i M).map SL.S = atS i socks
  len:M.length = socks.length
  srt:socks.Pairwise fun S T=>S.num < T.num
  ok:∀ S ∈ socks,S.num < 64∧S.dr + S.old + S.q.length≤k∧(S.pol = 1∨S.pol = 2)∧S.nm.size≤32∧S.life < 18446744073709551616∧∀ p ∈ S.q,p.data.length≤2048∧p.at_≤now
theorem SockR.mono {M:List (Int×SL)} {socks:List Sk} {k k' now now':Nat} (h:SockR M socks k now) (hk:k≤k') (hn:now≤now'):SockR M socks k' now' :=
  ⟨h.at_,h.len,h.srt,fun S hS=>by
    obtain ⟨a,b,c,d,e,f⟩:=h.ok S hS
    exact ⟨a,by omega,c,d,e,fun p hp=>⟨(f p hp).1,by have:=(f p hp).2; omega⟩⟩⟩
theorem ko {i:Int}:∀ {l:List Sk} {S:Sk},atS i l = some S→S ∈ l∧(S.num:Int) = i
  | [],_,h=>by cases h
  | T :: r, S, h => by
    unfold atS at h
    split at h
    · rename_i e; cases h; exact ⟨by simp,e⟩
    · obtain ⟨a,b⟩:=ko h; exact ⟨List.mem_cons_of_mem _ a,b⟩
theorem kq {i:Int}:∀ {l:List Sk},(∀ S ∈ l,(S.num:Int)≠i)→atS i l = none
  | [],_=>rfl
  | T :: r, h => by
    unfold atS
    rw [if_neg (h T (by simp))]
    exact kq fun S hS=>h S (List.mem_cons_of_mem _ hS)
theorem gC {S:Sk}:∀ {l:List Sk},l.Pairwise (fun S T=>S.num < T.num)→S ∈ l→atS (S.num:Int) l = some S
  | [],_,h=>by cases h
  | T :: r, hp, h => by
    obtain ⟨h1,h2⟩:=List.pairwise_cons.1 hp
    unfold atS
    rcases List.mem_cons.1 h with e | h
    · subst e; rw [if_pos rfl]
    · have:=h1 S h
      rw [if_neg (by omega)]
      exact gC h2 h
theorem qq {i:Int} {f:Sk→Sk} (hf:∀ S,(f S).num = S.num) (j:Int):∀ l:List Sk,atS j (modS i f l) = if j = i then (atS i l).map f else atS j l
  | []=>by simp [modS,atS]
  | S :: r => by
    unfold modS
    by_cases e:(S.num:Int) = i
    · rw [if_pos e]
      simp only [atS,hf,e]
      by_cases e2:i = j
      · subst e2; simp
      · have:¬ j = i:=fun q=>e2 q.symm
        simp [e2,this]
    · rw [if_neg e]
      simp only [atS,qq hf j r,e,if_false]
      by_cases e2:(S.num:Int) = j
      · have:¬ j = i:=fun q=>e (e2.trans q)
        simp [e2,this]
      · simp [e2]
theorem iT {i:Int} {f:Sk→Sk} (hf:∀ S,(f S).num = S.num):∀ l:List Sk,(modS i f l).map Sk.num = l.map Sk.num
  | []=>rfl
  | S :: r => by
    unfold modS
    split
    · simp [hf]
    · simp [iT hf r]
theorem fA {l:List Sk}:l.Pairwise (fun S T=>S.num < T.num)↔(l.map Sk.num).Pairwise (· < ·):=by
  rw [List.pairwise_map]
theorem atS_del {i:Int} (j:Int):∀ {l:List Sk},l.Pairwise (fun S T=>S.num < T.num)→atS j (delS i l) = if j = i then none else atS j l
  | [],_=>by simp [delS,atS]
  | S :: r, hp => by
    obtain ⟨h1,h2⟩:=List.pairwise_cons.1 hp
    unfold delS
    by_cases e:(S.num:Int) = i
    · rw [if_pos e]
      by_cases e2:j = i
      · subst e2
        rw [if_pos rfl]
        exact kq fun T hT=>by have:=h1 T hT; omega
      · rw [if_neg e2]
        conv=>rhs; unfold atS
        rw [if_neg (fun q=>e2 (q.symm.trans e))]
    · rw [if_neg e]
      simp only [atS,atS_del j h2]
      by_cases e2:(S.num:Int) = j
      · have:¬ j = i:=fun q=>e (e2.trans q)
        simp [e2,this]
      · simp [e2]
theorem nz {i:Int}:∀ {l:List Sk},List.Sublist (delS i l) l
  | []=>List.Sublist.refl _
  | S :: r => by
    unfold delS
    split
    · exact List.sublist_cons_self _ _
    · exact nz.cons_cons _
theorem delS_len {i:Int}:∀ {l:List Sk} {S:Sk},atS i l = some S→(delS i l).length + 1 = l.length
  | [],_,h=>by cases h
  | T :: r, S, h => by
    unfold atS at h
    unfold delS
    split
    · rfl
    · rename_i e
      rw [if_neg e] at h
      rw [List.length_cons,delS_len h,List.length_cons]
theorem mem_ins {S T:Sk} {l:List Sk}:T ∈ insS S l→T = S∨T ∈ l:=by
  unfold insS
  intro h
  rcases List.mem_append.1 h with h | h
  · exact .inr (List.mem_filter.1 h).1
  · rcases List.mem_cons.1 h with h | h
    · exact .inl h
    · exact .inr (List.mem_filter.1 h).1
theorem srt_ins {S:Sk} {l:List Sk} (hp:l.Pairwise (fun S T=>S.num < T.num)):(insS S l).Pairwise (fun S T=>S.num < T.num):=by
  unfold insS
  refine List.pairwise_append.2 ⟨hp.filter _,List.pairwise_cons.2 ⟨fun T hT=>by simpa using (List.mem_filter.1 hT).2,hp.filter _⟩,fun A hA B hB=>?_⟩
  have h1:A.num < S.num:=by simpa using (List.mem_filter.1 hA).2
  rcases List.mem_cons.1 hB with h | h
  · subst h; exact h1
  · have:S.num < B.num:=by simpa using (List.mem_filter.1 h).2
    omega
theorem atS_ins {S:Sk} {l:List Sk} (hp:l.Pairwise (fun S T=>S.num < T.num)) (hno:atS (S.num:Int) l = none) (j:Int):atS j (insS S l) = if j = (S.num:Int) then some S else atS j l:=by
  have hs:=srt_ins (S:=S) hp
  have hin:∀ T ∈ l,T ∈ insS S l:=fun T hT=>by
    unfold insS
    have hne:T.num≠S.num:=fun e=>by
      have:=gC hp hT
      rw [e,hno] at this; cases this
    rcases Nat.lt_or_gt_of_ne hne with h | h
    · exact List.mem_append_left _ (List.mem_filter.2 ⟨hT,by simpa using h⟩)
    · exact List.mem_append_right _ (List.mem_cons_of_mem _ (List.mem_filter.2 ⟨hT,by simpa using h⟩))
  by_cases e:j = (S.num:Int)
  · subst e
    rw [if_pos rfl]
    exact gC hs (by unfold insS; simp)
  · rw [if_neg e]
    cases h:atS j l with
    | some T =>
      obtain ⟨h1,rfl⟩:=ko h
      exact gC hs (hin T h1)
    | none =>
      refine kq fun T hT q=>?_
      rcases mem_ins hT with rfl | hT
      · exact e q.symm
      · have:=gC hp hT
        rw [q,h] at this; cases this
theorem len_ins {S:Sk}:∀ {l:List Sk},atS (S.num:Int) l = none→(insS S l).length = l.length + 1
  | [],_=>rfl
  | T :: r, h => by
    unfold atS at h
    split at h
    · cases h
    · rename_i e
      have ih:=len_ins h
      unfold insS at ih ⊢
      simp only [List.length_append,List.length_cons,List.filter_cons] at ih ⊢
      rcases Nat.lt_or_gt_of_ne (show T.num≠S.num by omega) with q | q
      · have h2:¬ S.num < T.num:=by omega
        simp [q,h2]; omega
      · have h2:¬ T.num < S.num:=by omega
        simp [q,h2]; omega
theorem ofS_mem {nm:ByteArray} {port:Int}:∀ {l:List Sk} {S:Sk},ofS nm port l = some S→S ∈ l∧S.nm = nm∧S.port = port
  | [],_,h=>by cases h
  | T :: r, S, h => by
    unfold ofS at h
    split at h
    · rename_i e; cases h; exact ⟨by simp,e⟩
    · obtain ⟨a,b⟩:=ofS_mem h; exact ⟨List.mem_cons_of_mem _ a,b⟩
theorem pi {nm:ByteArray} {port:Int}:∀ {l:List Sk} {S:Sk},l.Pairwise (fun S T=>S.num < T.num)→S ∈ l→S.nm = nm→S.port = port→(∀ T ∈ l,T.num < S.num→¬ (T.nm = nm∧T.port = port))→ofS nm port l = some S
  | [],_,_,h,_,_,_=>by cases h
  | T :: r, S, hp, h, e1, e2, hl => by
    obtain ⟨h1,h2⟩:=List.pairwise_cons.1 hp
    unfold ofS
    rcases List.mem_cons.1 h with e | h
    · subst e; rw [if_pos ⟨e1,e2⟩]
    · rw [if_neg (hl T (by simp) (h1 S h))]
      exact pi h2 h e1 e2 fun U hU=>hl U (List.mem_cons_of_mem _ hU)
theorem ofS_none {nm:ByteArray} {port:Int}:∀ {l:List Sk},(∀ T ∈ l,¬ (T.nm = nm∧T.port = port))→ofS nm port l = none
  | [],_=>rfl
  | T :: r, h => by
    unfold ofS
    rw [if_neg (h T (by simp))]
    exact ofS_none fun U hU=>h U (List.mem_cons_of_mem _ hU)
end Go.Fx.YtgmeefljgbaanaaFx


/- An evaluator for resolved code, proved against the model: part 4. -/
import Derived.Test.YtgmeefljgbaanaaFxC
import Derived.KernelRfl
import Derived.RangeFuncRecord
namespace Go.Fx
open Go Go.RowKit Go.Lib
section
variable {P:Program} {gOf:FuncId→Option Nat} {F:Nat→FuncId} {n:Nat} {m:Bool} {E:Ent} {g g':Gh} {w w':World} {sf:Sf} {st st':St} {a:Act} {fr:Fr}
theorem lZ{o:Oper}{K:Sf→St→Prop}{K':Act→World→Prop}{Q':Exit→Act→World→Prop}
  (hk:∀sf' st' g' w' u,Ok m E g' w' (sp n sf') st' (a.put o.dst u)→K sf' st'→K' (a.put o.dst u) w') {u:Value} {v:AV} (hrun:(execOp a.eval o).run P w= .ok (.value u) w') (hok:Ok m E g' w' (sp n sf) st' a)
  (hr:RS g' E.d v u) (ho:∀s,o.dst=some s→OwnV g' w' E.N (Loc.slot E.d s) v u) (hK:putK K o.dst sf v st'):o.wp P a w K' Q':=by
 unfold Oper.wp
 rw[hrun]
 exact hk _ _ _ _ u (by rw[bV];exact hok.put o.dst hr ho) hK
theorem dJ{v:AV}(h1:∀cs,v≠.agg cs)(h2:v.noOwn){N:Nat}{L:Nat→Loc}{u:Value}:OwnV g w N L v u:=fun i c _ hc _=>Own.of_no (ak h1 h2 i c hc)
theorem Ok.newBox(h:Ok false E g w fr st a){cs:List AV}{us:Array Value}{T:TypeId}(hw:Nw w (.cells us T (0,0)) w')(hr:RL g cs us.toList)(hn:∀(i:Nat) (c:AV),cs[i]?=some c→c.noOwn)(h1c:∀x∈us,x.oneCell'=true) :
  Ok false E (g.newB w.heap.size st.boxes.length) w' fr (st.push (.cells cs)) a:=by
 have hg:=h.ctx.good
 have hid:=h.ctx.box.1 st.boxes.length (Nat.le_refl _)
 have hch:=Nw.chB (d:=E.d) hw hg _ hid
 refine h.ch (hw.mvB hg _ hid) hch h.size h.defers (fun t v u hv hu=>.inr ⟨hv,hu,fun i c _=>.inl (fun e=>e),fun _ _ _=>by simp⟩) (fun t cs' hc=>.inr ⟨hc,by simp,by simp,fun _ _ _=>.inl (fun e=>e)⟩) (fun id hid=>?_) (fun id cs' hc=>?_) (fun id bx he hob=>?_) (fun e=>by cases e)
 ·simp[St.push]at hid
  have:¬id=st.boxes.length:=by omega
  simp only[Gh.newB,this,if_false]
  exact h.ctx.box.1 id (by omega)
 ·rcases bP hc with h1|⟨rfl,h1⟩
  ·exact .inr ⟨h1,by simp,fun _ _ _=>.inl (fun e=>e)⟩
  ·cases h1
   exact .inl ⟨w.heap.size,us,T,by simp[Gh.newB],by simp[Gh.newB],hw.new,by simpa using hr.1,fun i c x hc hx=>⟨(hr.2 i c x hc (by simpa using hx)).mono hch.ghle,Own.of_no (hn i c hc)⟩,h1c⟩
 ·rcases bP he with h1|⟨rfl,h1⟩
  ·exact .inr ⟨h1,by simp⟩
  ·cases h1;cases hob
theorem kr(g:Gh)(b id:Nat):(g.newB b id).bx id=some b:=by simp[Gh.newB]
theorem Ok.newMapB(h:Ok false E g w fr st a){es:List (AV×AV)}{us:Array MapEntry}{bs:List Nat}{clk:Nat}(hw:Nw w (.map us clk) w')(hE:EntR g es us)(hB:BrnR bs clk us) :
  Ok false E (g.newB w.heap.size st.boxes.length) w' fr (st.push (.mp es bs clk)) a:=by
 have hg:=h.ctx.good
 have hid:=h.ctx.box.1 st.boxes.length (Nat.le_refl _)
 have hch:=Nw.chB (d:=E.d) hw hg _ hid
 refine h.ch (hw.mvB hg _ hid) hch h.size h.defers (fun t v u hv hu=>.inr ⟨hv,hu,fun i c _=>.inl (fun e=>e),fun _ _ _=>by simp⟩) (fun t cs' hc=>.inr ⟨hc,by simp,by simp,fun _ _ _=>.inl (fun e=>e)⟩) (fun id hid=>?_) (fun id cs' hc=>?_) (fun id bx he hob=>?_) (fun e=>by cases e)
 ·simp[St.push]at hid
  have:¬id=st.boxes.length:=by omega
  simp only[Gh.newB,this,if_false]
  exact h.ctx.box.1 id (by omega)
 ·rcases bP hc with h1|⟨rfl,h1⟩
  ·exact .inr ⟨h1,by simp,fun _ _ _=>.inl (fun e=>e)⟩
  ·cases h1
 ·rcases bP he with h1|⟨rfl,h1⟩
  ·exact .inr ⟨h1,by simp⟩
  ·cases h1
   exact .inl ⟨w.heap.size,.map us clk,by simp[Gh.newB],by simp[Gh.newB],hw.new,rfl,hE.mono hch.ghle,hB⟩
theorem nw_drew(w:World)(k:Nat)(o:Obj):Nw w o ({w with drawn:=w.drawn+k}.alloc o) :=
 ⟨rfl,rfl,rfl,by simp,fun q hq=>heap_alloc_old {w with drawn:=w.drawn+k} o hq,heap_alloc_new {w with drawn:=w.drawn+k} o⟩
theorem gR(l:List AV):∀(i:Nat) (c:AV),(cellsD l)[i]?=some c→c.noOwn:=by
 intro i c h
 have hm:=List.mem_of_getElem? h
 simp only[cellsD,List.mem_flatMap,List.mem_map]at hm
 obtain⟨v,⟨x,_,rfl⟩,hc⟩:=hm
 obtain⟨j,hj⟩:=List.mem_iff_getElem?.1 hc
 exact bf x j c hj
theorem cellsD_len{k:Nat}{l:List AV}(h:∀e∈l,e.cells.length=k):(cellsD l).length=l.length*k:=by
 unfold cellsD
 rw[aD (k:=k)]
 ·simp
 ·intro x hx
  simp only[List.mem_map]at hx
  obtain⟨y,hy,rfl⟩:=hx
  rw[bO];exact h y hy
theorem src_x(hg:Good g w)(hb:BoxR g w st){d:Nat}{t t2:TypeId}{e:TypeId}{dd:TypeDesc}{k:Nat}(ht2:P.underlying t2=some dd)(hdd:srcT dd=true){y:AV}{uy:Value}(hy:RS g d y uy){K:List AV→Prop}(h:(srcA st k y).wp K) :
  ∃nes new,K nes∧(∀e∈nes,e.cells.length=k)∧RL g (cellsD nes) new∧new.length=nes.length*k∧Go.Src P k t2 uy nes.length new w∧(∀u∈new,u.oneCell'=true):=by
 obtain⟨nes,hK,hnk,hlen,new,hnew,hone,hfc⟩:=gM (P:=P) hg hb hy h
 have hnl:new.length=nes.length*k:=by rw[hnew.1,aD hnk]
 refine⟨nes,new,hK,hnk,kY hnk hnew,hnl,⟨?_,hlen,hfc w (fun _ _ _=>rfl),hfc w.drew (fun b o _=>dI w b o),hnl,hone⟩,hone⟩
 cases dd<;>simp only[srcT]at hdd<;>first|(cases hdd;done)|exact .inl ⟨_,ht2⟩|exact .inr ht2
theorem appK_inv{t t2:TypeId}{k bytes:Nat}(h:appK P t t2=some (k,bytes)):∃e dd i z,P.underlying t=some (.slice e)∧P.underlying t2=some dd∧P.info? e=some i∧srcT dd=true∧0<i.size∧i.zero=some z∧z.cells.size=i.size∧k=i.size∧bytes=i.bytes:=by
 unfold appK at h
 split at h
 ·rename_i e dd h1 h2
  split at h
  ·rename_i i hi
   split at h
   ·rename_i hc
    cases h
    cases hz:i.zero with
    |none=>simp[hz]at hc
    |some z=>exact⟨e,dd,i,z,h1,h2,hi,hc.1,hc.2.1,hz,by simpa [hz]using hc.2.2,rfl,rfl⟩
   ·cases h
  ·cases h
 ·cases h
theorem bs_inv{d id k off len cap:Nat}{u:Value}(h:RS g d (.bs id k off len cap) u):∃b,g.bx id=some b∧u= .slice (some ⟨b,off,none⟩) len cap:=by
 have h:R g (.bs id k off len cap) u:=h
 cases h with|bs _ _ _ _ _ b hb=>exact⟨b,hb,rfl⟩
theorem RL.append_any{cs:List AV}{us:List Value}(h:RL g cs us)(r:List Value):RL g (cs++List.replicate r.length .any) (us++r):=by
 refine h.append ⟨by simp,fun i x u hx hu=>?_⟩
 have:x= .any:=by
  have:=List.mem_of_getElem? hx
  exact List.eq_of_mem_replicate this
 subst this;exact .any _
theorem RL.own1{cs:List AV}{us:List Value}(h:RL g cs us):RL g (cs.map AV.own1) us:=by
 refine⟨by simp[h.1],fun i x u hx hu=>?_⟩
 simp only[List.getElem?_map,Option.map_eq_some_iff]at hx
 obtain⟨y,hy,rfl⟩:=hx
 exact(h.2 i y u hy hu).own1
theorem oH{e:TypeId}{i:TypeInfo}{z:Value}(h:(eD P e).isSome=true)(hi:P.info? e=some i)(hz:i.zero=some z)(q:Nat):∀x∈Builtin.zeroCells z.cells q,x.oneCell'=true:=by
 obtain⟨zv,hzv⟩:=Option.isSome_iff_exists.1 h
 obtain⟨z',hz',i',z2,hi',hz2,hr,hs,_⟩:=cF (g:=⟨0,fun _ _=>none,fun _=>none,fun _ _=>none,fun _=>none⟩) (Res.wp_of_opt hzv (K:=fun x=>x=zv) rfl)
 rw[hi]at hi';cases hi'
 rw[hz]at hz2;cases hz2
 obtain⟨_,h1⟩:=cz hs hr
 intro x hx
 simp only[Builtin.zeroCells,Array.mem_map,Array.mem_range]at hx
 obtain⟨j,hj,rfl⟩:=hx
 have hpos:0<z.cells.size:=by
  rcases Nat.eq_zero_or_pos z.cells.size with h0|h0
  ·rw[h0]at hj;simp at hj
  ·exact h0
 have hlt:j % z.cells.size<z.cells.size:=Nat.mod_lt _ hpos
 rw[getElem!_pos z.cells _ hlt]
 exact h1 _ (Array.getElem_mem hlt)
theorem app_x{o:Oper}{t t2:TypeId}{x y:Operand}{k bytes:Nat}(ho:o.op= .call {callee:=.builtin .append,args:=#[x,y],argTypes:=#[t,t2]})(hak:appK P t t2=some (k,bytes))(hz1:∀e,P.underlying t=some (.slice e)→(eD P e).isSome=true)(h:Ok m E g w (sp n sf) st a){xv yv:AV}(hxv:(sp n sf).ev x=xv)(hyv:(sp n sf).ev y=yv)
  {C:AV→St→Prop} (hK:(srcA st k yv).wp (appX m k bytes xv C st)) :
  ∃v st',C v st'∧∃u g' w',(execOp a.eval o).run P w= .ok (.value u) w'∧Ok m E g' w' (sp n sf) st' a∧R g' v u∧(∀cs,v≠.agg cs)∧v.noOwn:=by
 have hg:=h.ctx.good
 obtain⟨e,dd,i,z,ht,ht2,hi,hdd,hpos,hz,hzl,rfl,rfl⟩:=appK_inv hak
 have hy:=h.ev y
 rw[hyv]at hy
 obtain⟨nes,new,hK,hnk,hnew,hnl,hsrc,hone⟩:=src_x (P:=P) (t:=t) (e:=e) hg h.ctx.box ht2 hdd hy hK
 have hzc:=oH (hz1 e ht) hi hz
 have hbase:=h.ev x
 rw[hxv]at hbase
 have hexec:∀u w',(Builtin.append_ #[t,t2] o.type #[a.eval x,a.eval y]).run P w= .ok u w'→(execOp a.eval o).run P w= .ok (.value u) w':=by
  intro u w' hr
  obtain⟨dst,op,ty',pos,after,gd⟩:=o
  simp only at ho hr
  subst ho
  exact em (s:=Builtin.append_ #[t,t2] ty' #[a.eval x,a.eval y]) (fun _=>by simp[builtin]) hr
 unfold appX at hK
 split at hK
 ·rename_i id k' off len cap _
  obtain⟨rfl,rfl,hroom,hK⟩:=hK
  have hroom:=of_decide_eq_true hroom
  rw[aS]at hK
  obtain⟨cs,hcs,hK⟩:=hK
  obtain⟨b,hb,hu⟩:=bs_inv hbase
  obtain⟨b',us,T,a1,a2,a3,a4,a5,a6⟩:=h.ctx.box.2.1 id cs (mo hcs)
  have:b'=b:=Option.some.inj (a1.symm.trans hb)
  subst this
  split at hK
  ·rename_i hfit
   obtain⟨hle,hK⟩:=hK
   have hcl:=cellsD_len hnk
   have hrl:RL g (cellsD nes) new:=hnew
   have hoff:off+len*i.size+(cellsD nes).length≤cs.length:=by rw[hcl,Nat.add_assoc,←Nat.add_mul];exact hle
   obtain⟨us',T',hrow,hus,hok⟩:=h.writeB (off:=off+len*i.size) (xs:=new) hcs hb hoff hrl (fun j c x hc _=>Own.of_no (gR nes j c hc)) hone
   have hrun:=run_append_room_src (P:=P) w t t2 o.type e i ht hi b' off len cap (a.eval y) nes.length new hsrc hfit
    (fun j hj=>by rw[cell_of_row w b' _ us T (0,0) a3];have:off+len*i.size+j<us.size:=(by rw[a4];rw[hnl]at hj;rw[hcl]at hoff;omega);simp[this])
    (fun j hj=>by simp[World.frozen?,a3])
   exact⟨_,_,hK,_,_,_,hexec _ _ (by rw[hu];exact hrun),hok,R.bs _ _ _ _ _ b' hb,by simp,trivial⟩
  ·rename_i hfit
   obtain⟨hle,hK⟩:=hK
   let olds:=(us.toList.drop off).take (len*i.size)
   have hol:olds.length=len*i.size:=by simp[olds];omega
   have hcell:∀w2:World,(∀b o,(w.cell? ⟨b,o,none⟩).isSome→w2.cell? ⟨b,o,none⟩=w.cell? ⟨b,o,none⟩)→(Builtin.firstCells i.size len (.slice (some ⟨b',off,none⟩) len cap)).run P w2= .ok olds.toArray w2:=by
    intro w2 hw2
    have:=run_loadCells_list (P:=P) w2 ⟨b',off,none⟩ olds (fun j v hv=>by
     rw[cq]
     have hjl:j<len*i.size:=by rw[←hol];exact(List.getElem?_eq_some_iff.1 hv).1
     have hlt:off+j<us.size:=by omega
     simp only[olds,List.getElem?_take,hjl,if_true,List.getElem?_drop]at hv
     have h1:w.cell? ⟨b',off+j,none⟩=some v:=by rw[cell_of_row w b' _ us T (0,0) a3];simpa using hv
     rw[hw2 _ _ (by simp[h1]),h1])
    rw[hol]at this
    simpa [Builtin.firstCells]using this
   have hrun:=run_append_grow_src (P:=P) w t t2 o.type e i z ht hi hz (some ⟨b',off,none⟩) len cap olds (hcell w.drew (fun b o _=>dI w b o)) (a.eval y) nes.length new hsrc (by omega) (by omega) (growslice_fits (by omega) hroom.1)
   have hge:=grownCap_ge w (len+nes.length) cap e
   generalize grownCap w (len+nes.length) cap e=c at *
   have hK:=hK c hge
   have hrest:(Builtin.zeroCells z.cells (c-(len+nes.length))).toList.length=(c-(len+nes.length))*i.size:=by rw[Array.length_toList,size_zeroCells,hzl]
   have hrl:RL g (((cs.drop off).take (len*i.size)).map AV.own1++cellsD nes++List.replicate ((c-(len+nes.length))*i.size) .any) ((olds++new).toArray++Builtin.zeroCells z.cells (c-(len+nes.length))).toList:=by
    rw[Array.toList_append,←hrest]
    refine RL.append_any (RL.append ?_ hnew) _
    exact RL.own1 (RL.take (RL.drop ⟨by simp[a4],fun j x u hx hu=>(a5 j x u hx (by simpa using hu)).1⟩ off) _)
   have hnw:Nw w (.cells ((olds++new).toArray++Builtin.zeroCells z.cells (c-(len+nes.length))) e) (w.drew.alloc (.cells ((olds++new).toArray++Builtin.zeroCells z.cells (c-(len+nes.length))) e)):=nw_drew w 1 _
   have hok:=h.newBox hnw hrl (fun j c' hc=>?_) (fun x hx=>?_)
   ·exact⟨_,_,hK,_,_,_,hexec _ _ (by rw[hu];exact hrun),hok,R.bs _ _ _ _ _ _ (kr _ _ _),by simp,trivial⟩
   ·have hm:=List.mem_of_getElem? hc
    simp only[List.mem_append]at hm
    rcases hm with(hm|hm)|hm
    ·simp only[List.mem_map]at hm
     obtain⟨q,_,rfl⟩:=hm
     exact jC q
    ·obtain⟨q,hq⟩:=List.mem_iff_getElem?.1 hm
     exact gR nes q c' hq
    ·rw[List.eq_of_mem_replicate hm];trivial
   ·rcases Array.mem_append.1 hx with hx|hx
    ·rcases List.mem_append.1 (by simpa using hx)with hx|hx
     ·have:=List.mem_of_mem_drop (List.mem_of_mem_take hx)
      exact a6 x (by simpa using this)
     ·exact hone x hx
    ·exact hzc _ x hx
 ·skip
  obtain⟨hu,_⟩:=hbase.lit_inv
  obtain⟨rfl,hroom,hK⟩:=hK
  have hroom:=of_decide_eq_true hroom
  split at hK
  ·rename_i hemp
   have hn0:nes= []:=by simpa using hemp
   subst hn0
   have hnew0:new= []:=List.eq_nil_of_length_eq_zero (by simpa using hnl)
   subst hnew0
   exact⟨_,_,hK,_,_,_,hexec _ _ (by rw[hu];exact run_append_nothing w t t2 o.type e i ht hi none 0 0 (Nat.le_refl 0) (a.eval y) hsrc),h,R.lit _ rfl,by simp,trivial⟩
  ·rename_i hemp
   have hne:nes≠[]:=by simpa using hemp
   have h0:0<nes.length:=by cases nes<;>simp_all
   have hrun:=run_append_grow_src (P:=P) w t t2 o.type e i z ht hi hz none 0 0 [] (by simp[Builtin.firstCells]) (a.eval y) nes.length new hsrc (by omega) (by omega) (growslice_fits (by omega) (by simpa using hroom.1))
   have hge:=grownCap_ge w (0+nes.length) 0 e
   generalize grownCap w (0+nes.length) 0 e=c at *
   simp only[Nat.zero_add,List.nil_append]at hrun hge
   have hK:=hK c hge
   simp only[List.nil_append]at hK
   have hrest:(Builtin.zeroCells z.cells (c-nes.length)).toList.length=(c-nes.length)*i.size:=by rw[Array.length_toList,size_zeroCells,hzl]
   have hrl:RL g (cellsD nes++List.replicate ((c-nes.length)*i.size) .any) (new.toArray++Builtin.zeroCells z.cells (c-nes.length)).toList:=by
    rw[Array.toList_append,←hrest]
    exact RL.append_any hnew _
   have hnw:Nw w (.cells (new.toArray++Builtin.zeroCells z.cells (c-nes.length)) e) (w.drew.alloc (.cells (new.toArray++Builtin.zeroCells z.cells (c-nes.length)) e)):=nw_drew w 1 _
   have hok:=h.newBox hnw hrl (fun j c' hc=>?_) (fun x hx=>?_)
   ·exact⟨_,_,hK,_,_,_,hexec _ _ (by rw[hu];exact hrun),hok,R.bs _ _ _ _ _ _ (kr _ _ _),by simp,trivial⟩
   ·have hm:=List.mem_of_getElem? hc
    simp only[List.mem_append]at hm
    rcases hm with hm|hm
    ·obtain⟨q,hq⟩:=List.mem_iff_getElem?.1 hm
     exact gR nes q c' hq
    ·rw[List.eq_of_mem_replicate hm];trivial
   ·rcases Array.mem_append.1 hx with hx|hx
    ·exact hone x (by simpa using hx)
    ·exact hzc _ x hx
 ·exact hK.elim
end
end Go.Fx
namespace Go.Fx
open Go Go.RowKit Go.Lib
section
variable {P:Program} {gOf:FuncId→Option Nat} {F:Nat→FuncId} {n:Nat} {m:Bool} {E:Ent} {g g':Gh} {w w':World} {sf:Sf} {st st':St} {a:Act} {fr:Fr}
theorem qi{g:Gh}{w:World}{N:Nat}{L:Nat→Loc}{x u:Value}:OwnV g w N L (.lit x) u:=dJ (v:=.lit x) (by simp) trivial
theorem eS{g:Gh}{w:World}{N:Nat}{L:Nat→Loc}{x:List AV}{u:Value}:OwnV g w N L (.tup x) u:=dJ (v:=.tup x) (by simp) trivial
theorem own_bs{g:Gh}{w:World}{N:Nat}{L:Nat→Loc}{a b c d e:Nat}{u:Value}:OwnV g w N L (.bs a b c d e) u:=dJ (v:=.bs a b c d e) (by simp) trivial
theorem own_ifc{g:Gh}{w:World}{N:Nat}{L:Nat→Loc}{t:Nat}{x:AV}{u:Value}:OwnV g w N L (.ifc t x) u:=dJ (v:=.ifc t x) (by simp) trivial
def Ends(P:Program)(o:Oper)(m:Bool)(E:Ent)(w:World)(fr:Fr)(a:Act)(C:AV→St→Prop):Prop :=
 ∃v st',C v st'∧∃u g' w',(execOp a.eval o).run P w= .ok (.value u) w'∧Ok m E g' w' fr st' a∧RS g' E.d v u∧∀s,o.dst=some s→OwnV g' w' E.N (Loc.slot E.d s) v u
theorem nil_x{o:Oper}{op:BinOp}{t ty e:TypeId}{x y:Operand}(ho:o.op= .binOp op t x y ty)(hop:op= .eql∨op= .neq)(hu:P.underlying t=some (.slice e))(h:Ok m E g w fr st a){C:AV→St→Prop}
  (hK:nilX op (fr.ev x) (fr.ev y) C st):Ends P o m E w fr a C:=by
 have hx:=h.ev x
 have hy:=h.ev y
 unfold nilX at hK
 split at hK
 ·rename_i own k h1 h2
  rw[h1]at hx
  rw[h2]at hy
  have hy:=hy.lit_inv.1
  have hx':∃ad c,a.eval x= .slice ad 0 c:=by
   have hx:R g (.sl own k []) (a.eval x):=hx
   generalize a.eval x=u at hx
   cases hx<;>exact⟨_,_,rfl⟩
  obtain⟨ad,c,hx'⟩:=hx'
  have hc:Cmp P t x y (a.eval x) (a.eval y) ad.isNone:=by
   rw[hx',hy]
   exact⟨fun n w=>by cases ad<;>simp[Op.equalIn,run_underlying hu],rfl,rfl,fun op w=>by cases op<;>simp[eqGuard]⟩
  rcases hop with rfl|rfl
  ·refine⟨_,st,hK ad.isNone,.bool ad.isNone,g,w,?_,h,R.lit _ rfl,fun s hs=>qi⟩
   simp only[execOp,ho]
   refine bM ?_
   rw[Sem.run_bind,hc.gd _ w]
   exact hc.run1 w
  ·refine⟨_,st,hK (!ad.isNone),.bool (!ad.isNone),g,w,?_,h,R.lit _ rfl,fun s hs=>qi⟩
   simp only[execOp,ho]
   refine bM ?_
   rw[Sem.run_bind,hc.gd _ w]
   exact hc.run2 w
 ·have hK:=kl (op:=op) (isNil_sl e) hu _ _ _ hK
  obtain⟨v,u,hK,hf,rfl,hr⟩:=run_binA x y hx hy hK
  refine⟨_,st,hK,u,g,w,?_,h,R.lit _ hf,fun s hs=>qi⟩
  simp only[execOp,ho]
  refine bM ?_
  rw[Sem.run_bind,(hr w).1]
  exact(hr w).2
theorem mr{o:Oper}{b:Builtin}{args:Array Operand}{ts:Array TypeId}(ho:o.op= .call ⟨.builtin b,args,ts⟩){s:Sem Value}(h:∀cs,builtin b ts o.type cs (args.map a.eval)=(do pure (.value (←s)))){u:Value}(hr:s.run P w= .ok u w') :
  (execOp a.eval o).run P w= .ok (.value u) w':=by
 obtain⟨dst,op,ty,pos,after,gd⟩:=o
 simp only at ho h
 subst ho
 exact em h hr
theorem qj{e:TypeId}{z:AV}(hz:eD P e=some z):∃i zv,P.info? e=some i∧i.zero=some zv∧(∀g,R g z zv)∧z.solid=true∧(∀(j:Nat) (c:AV),z.cells[j]?=some c→c.noOwn):=by
 obtain⟨z',hz',i,zv,hi,hzv,_,hs,hn⟩:=cF (g:=⟨0,fun _ _=>none,fun _=>none,fun _ _=>none,fun _=>none⟩) (Res.wp_of_opt hz (K:=fun x=>x=z) rfl)
 subst hz'
 refine⟨i,zv,hi,hzv,fun g=>?_,hs,hn⟩
 obtain⟨z2,hz2,i2,zv2,hi2,hzv2,hr,_⟩:=cF (g:=g) (Res.wp_of_opt hz (K:=fun x=>x=z') rfl)
 subst hz2
 rw[hi]at hi2;cases hi2
 rw[hzv]at hzv2;cases hzv2
 exact hr
theorem qk{k:Nat}{z:AV}{zv:Value}(hk:0<k)(hl:z.cells.length=k)(hs:z.solid=true)(hr:R g z zv)(len:Nat) :
  RL g ((List.replicate len z).flatMap AV.cells) ((Array.range (len*k)).map (zv.cells[· % zv.cells.size]!)).toList∧∀x∈((Array.range (len*k)).map (zv.cells[· % zv.cells.size]!)),x.oneCell'=true:=by
 have hE:=zeros_EL (len:=len) hk hl hs hr
 exact⟨hE.rl,hE.one⟩
theorem jI{z:AV}(hn:∀(j:Nat) (c:AV),z.cells[j]?=some c→c.noOwn)(len:Nat):∀(j:Nat) (c:AV),((List.replicate len z).flatMap AV.cells)[j]?=some c→c.noOwn:=by
 intro j c hc
 have hm:=List.mem_of_getElem? hc
 simp only[List.mem_flatMap]at hm
 obtain⟨v,hv,hcv⟩:=hm
 rw[List.eq_of_mem_replicate hv]at hcv
 obtain⟨q,hq⟩:=List.mem_iff_getElem?.1 hcv
 exact hn q c hq
theorem clr_x{o:Oper}{t e:TypeId}{x:Operand}{k:Nat}{z:AV}(ho:o.op= .call ⟨.builtin .clear,#[x],#[t]⟩)(ht:P.underlying t=some (.slice e))(hk:szT P e=some k)(hz:eD P e=some z)(hzl:z.cells.length=k)(hk0:0<k)(h:Ok m E g w fr st a){C:AV→St→Prop}
  (hK:clrX m k z (fr.ev x) C st):Ends P o m E w fr a C:=by
 unfold clrX at hK
 have hbase:=h.ev x
 split at hK
 ·rename_i id k' off len cap hx
  rw[hx]at hbase
  obtain⟨rfl,rfl,hK⟩:=hK
  rw[aS]at hK
  obtain⟨cs,hcs,hoff,hK⟩:=hK
  obtain⟨b,hb,hu⟩:=bs_inv hbase
  obtain⟨b',us,T,a1,a2,a3,a4,a5,a6⟩:=h.ctx.box.2.1 id cs (mo hcs)
  have:b'=b:=Option.some.inj (a1.symm.trans hb)
  subst this
  obtain⟨i,zv,hi,hzv,hzr,hzs,hzn⟩:=qj (P:=P) hz
  obtain⟨hrl,h1⟩:=qk (g:=g) hk0 hzl hzs (hzr g) len
  have hzc:zv.cells.size=k':=by have:=(cz hzs (hzr g)).1.1;simp at this;omega
  have hln:((List.replicate len z).flatMap AV.cells).length=len*k':=by rw[aD (k:=k') (fun e he=>by rw[List.eq_of_mem_replicate he];exact hzl)];simp
  have hzz:Builtin.zeroCells zv.cells len=(Array.range (len*k')).map (zv.cells[· % zv.cells.size]!):=by simp[Builtin.zeroCells,hzc]
  obtain⟨us',T',hrow,hus,hok⟩:=h.writeB (off:=off) (xs:=(Builtin.zeroCells zv.cells len).toList) hcs hb (by rw[hln];exact hoff) (by rw[hzz];exact hrl) (fun j c x hc _=>Own.of_no (jI hzn len j c hc)) (fun x hx=>by rw[hzz]at hx;exact h1 x (by simpa using hx))
  by_cases hlen0:len=0
  ·subst hlen0
   refine⟨_,_,hK,.tuple #[],g,_,mr (s:=Builtin.clear_ #[t] o.type #[a.eval x]) ho (fun _=>by simp[builtin]) ?_,hok,RS.of (R.tup [] #[] rfl (fun i x u hx=>by simp at hx)),fun s hs=>eS⟩
   rw[hu]
   have:(Builtin.zeroCells zv.cells 0).toList= []:=by simp[Builtin.zeroCells,Array.range_zero']
   rw[this]
   have hw:w.setCells b' off []=w:=rfl
   rw[hw]
   simp[Builtin.clear_,run_underlying ht]
  ·have hst:=run_storeCells_cells (P:=P) b' off (Builtin.zeroCells zv.cells len).toList 0 w (fun j hj=>by
    rw[cell_of_row w b' _ us T (0,0) a3]
    rw[Array.length_toList,size_zeroCells,hzc]at hj
    have:off+j<us.size:=by omega
    simp[this]) (fun j hj=>by simp[World.frozen?,a3]) (fun v hv=>by rw[hzz]at hv;exact h1 v (by simpa using hv))
   simp only[Nat.add_zero]at hst
   refine⟨_,_,hK,.tuple #[],g,_,mr (s:=Builtin.clear_ #[t] o.type #[a.eval x]) ho (fun _=>by simp[builtin]) ?_,hok,RS.of (R.tup [] #[] rfl (fun i x u hx=>by simp at hx)),fun s hs=>eS⟩
   rw[hu]
   cases len with
   |zero=>exact absurd rfl hlen0
   |succ len=>simp[Builtin.clear_,run_underlying ht,zeroValue,typeInfo,hi,hzv,hst]
 ·rename_i hx
  rw[hx]at hbase
  have hu:=hbase.lit_inv.1
  refine⟨_,_,hK,.tuple #[],g,w,mr (s:=Builtin.clear_ #[t] o.type #[a.eval x]) ho (fun _=>by simp[builtin]) ?_,h,RS.of (R.tup [] #[] rfl (fun i x u hx=>by simp at hx)),fun s hs=>eS⟩
  rw[hu]
  simp[Builtin.clear_,run_underlying ht]
 ·rename_i own k' hx
  rw[hx]at hbase
  have hbase:R g (.sl own k' []) (a.eval x):=hbase
  have hx':∃ad c,a.eval x= .slice ad 0 c:=by
   generalize a.eval x=u at hbase
   cases hbase<;>exact⟨_,_,rfl⟩
  obtain⟨ad,c,hu⟩:=hx'
  refine⟨_,_,hK,.tuple #[],g,w,mr (s:=Builtin.clear_ #[t] o.type #[a.eval x]) ho (fun _=>by simp[builtin]) ?_,h,RS.of (R.tup [] #[] rfl (fun i x u hx=>by simp at hx)),fun s hs=>eS⟩
  rw[hu]
  cases ad<;>simp[Builtin.clear_,run_underlying ht]
 ·exact hK.elim
end
end Go.Fx
namespace Go.Fx
open Go Go.RowKit Go.Lib
section
variable {P:Program} {gOf:FuncId→Option Nat} {F:Nat→FuncId} {n:Nat} {m:Bool} {E:Ent} {g g':Gh} {w w':World} {sf:Sf} {st st':St} {a:Act} {fr:Fr}
theorem en(z:Array Value)(q:Nat):madeCells z q=(Array.range q).map (z[· % z.size]!):=rfl
theorem lit_ev{x:Operand}(h:Ok m E g w fr st a){v:Value}(hx:fr.ev x= .lit v):a.eval x=v:=by
 have:=h.ev x
 rw[hx]at this
 exact this.lit_inv.1
theorem mksB_x{o:Oper}{t e:TypeId}{i:TypeInfo}{len cap:Operand}{z:AV}(ho:o.op= .makeSlice t len cap)(ht:P.underlying t=some (.slice e))(hi:P.info? e=some i)(hz:eD P e=some z)(hzl:z.cells.length=i.size)(hk0:0<i.size)(h:Ok m E g w fr st a){C:AV→St→Prop}
  (hK:lY m i.size i.bytes z (fr.ev len) (fr.ev cap) C st):Ends P o m E w fr a C:=by
 unfold lY at hK
 split at hK
 case h_2=>exact hK.elim
 rename_i k1 l k2 c hl hc
 obtain⟨rfl,h0,hlc,hby,hsm,hK⟩:=hK
 obtain⟨i',zv,hi',hzv,hzr,hzs,hzn⟩:=qj (P:=P) hz
 rw[hi]at hi';cases hi'
 have hrun:=run_make (P:=P) w t e i zv ht hi hzv k1 k2 l c h0 hlc (by rw[Int.mul_comm];omega) (by omega)
 obtain⟨hrl,h1⟩:=qk (g:=g) hk0 hzl hzs (hzr g) c.toNat
 have hok:=h.newBox (cV w (.cells (madeCells zv.cells (c.toNat*i.size)) e)) (by rw[en];exact hrl) (fun j c' hc=>jI hzn _ j c' hc) (by rw[en];exact h1)
 refine⟨_,_,hK,_,_,_,?_,hok,RS.of (R.bs _ _ _ _ _ _ (kr _ _ _)),fun s hs=>own_bs⟩
 simp only[execOp,ho]
 refine bM ?_
 rw[lit_ev h hl,lit_ev h hc]
 exact hrun
theorem bsl0_x{o:Oper}{t e:TypeId}{i:TypeInfo}{z:AV}(ho:o.op= .buildSlice t 0 #[])(ht:P.underlying t=some (.slice e))(hi:P.info? e=some i)(hz:eD P e=some z)(hzl:z.cells.length=i.size)(hk0:0<i.size)(h:Ok m E g w fr st a){C:AV→St→Prop}
  (hK:lY m i.size i.bytes z (.lit (.int .i64 0)) (.lit (.int .i64 0)) C st):Ends P o m E w fr a C:=by
 obtain⟨rfl,h0,hlc,hby,hsm,hK⟩:=hK
 obtain⟨i',zv,hi',hzv,hzr,hzs,hzn⟩:=qj (P:=P) hz
 rw[hi]at hi';cases hi'
 obtain⟨hrl,h1⟩:=qk (g:=g) hk0 hzl hzs (hzr g) 0
 have hok:=h.newBox (cV w (.cells (madeCells zv.cells ((0:Int).toNat*i.size)) e)) (by rw[en];exact hrl) (fun j c' hc=>jI hzn _ j c' hc) (by rw[en];exact h1)
 refine⟨_,_,hK,_,_,_,?_,hok,RS.of (R.bs _ _ _ _ _ _ (kr _ _ _)),fun s hs=>own_bs⟩
 simp only[execOp,ho]
 refine bM ?_
 have hz0:∀f:Nat→Value,(Array.range 0).map f= #[]:=fun f=>by
  apply Array.eq_empty_of_size_eq_zero
  rw[Array.size_map,Array.size_range]
 have hm0:madeCells zv.cells ((0:Int).toNat*i.size)= #[]:=by
  rw[en,show(0:Int).toNat*i.size=0 by simp]
  exact hz0 _
 rw[hm0]
 simp[Instr.buildSlice,run_underlying ht,sizeOf,typeInfo,hi,hz0,Instr.fill,newRow]
end
end Go.Fx
namespace Go.Fx
open Go Go.RowKit Go.Lib
section
variable {P:Program} {gOf:FuncId→Option Nat} {F:Nat→FuncId} {n:Nat} {m:Bool} {E:Ent} {g g':Gh} {w w':World} {sf:Sf} {st st':St} {a:Act} {fr:Fr}
def Gh.lab(g:Gh)(b:Nat)(L:Loc):Gh:={g with cls:=fun b'=>if b'=b then some (.arr L)else g.cls b'}
theorem le_obj{g:Gh}{w:World}(o:Obj)(L:Loc):LeP g w (g.lab w.heap.size L) (w.alloc o):=by
 have hne:∀b,b<w.heap.size→b≠w.heap.size:=fun b hb=>Nat.ne_of_lt hb
 have hb:Below w.heap.size w (w.alloc o):=⟨rfl,rfl,rfl,by simp,fun k hk=>Below.heap_alloc w _ k hk⟩
 refine⟨hb,fun b h=>rfl,fun b h=>by simp[Gh.lab,hne b h],rfl,rfl,rfl,fun hg=>?_⟩
 refine⟨fun b o' u hi=>?_,fun b o' u hi=>?_,fun b c hc=>?_,?_⟩
 ·rw[hb.cell (p:=⟨b,o',none⟩) (hg.lt hi)]
  exact hg.imm b o' u hi
 ·simp only[Gh.lab,hne b (hg.lt hi),if_false];exact hg.immc b o' u hi
 ·simp only[Gh.lab]at hc
  split at hc
  ·rename_i e;subst e;exact⟨hg.base,by simp⟩
  ·have:=hg.cls b c hc;exact⟨this.1,by simp;omega⟩
 ·have:=hg.base;simp[Gh.lab];omega
theorem rng_x{o:Oper}{t kt et:TypeId}{x:Operand}{sd:Nat}(ho:o.op= .range t x)(hd:o.dst=some sd)(ht:P.underlying t=some (.map kt et))(h:Ok m E g w fr st a){C:AV→St→Prop}
  (hK:rngX (fr.ev x) C st):Ends P o m E w fr a C:=by
 have hx:=h.ev x
 unfold rngX at hK
 have fin:∀(mid mb:Option Nat) (clk:Nat),(Instr.range t (a.eval x)).run P w= .ok (.pointer (some ⟨w.heap.size,0,none⟩)) (w.alloc (.mapIter mb clk #[] clk))→ItM g mid mb→itObj mid clk [] mb clk= .mapIter mb clk #[] clk→C (.mit mid clk [] clk) st→Ends P o m E w fr a C:=by
  intro mid mb clk hrun hit hio hC
  have hle:=le_obj (g:=g) (w:=w) (.mapIter mb clk #[] clk) (.slot E.d sd 0)
  refine⟨_,_,hC,_,_,_,by simp only[execOp,ho];exact bM hrun,h.le hle,RS.of (R.mit _ _ _ _ _),fun s hs i c y hc hy=>?_⟩
  rw[hd]at hs;cases hs
  cases i with
  |succ i=>simp[AV.cells]at hc
  | zero =>
    simp[AV.cells]at hc
    simp[Value.cells]at hy
    subst hc;subst hy
    refine⟨fun _ _ e=>(by cases e),fun id' s' l' p' e=>?_⟩
    cases e
    exact⟨w.heap.size,mb,clk,rfl,h.hN,by simp[Gh.lab],by rw[hio];exact heap_alloc_new w _,⟨Nat.le_refl _,rfl⟩,hit.mono fun i b e=>e⟩
 split at hK
 ·rename_i id hxv
  rw[hxv]at hx
  rw[aS]at hK
  obtain⟨es,hes,hK⟩:=hK
  obtain⟨b,us,clk,hb,hu,hrow,hE,hclk,hB⟩:=iU h hx hes
  rw[←hclk]at hK
  exact fin (some id) (some b) clk (by rw[hu];exact run_range_map w t kt et b us clk ht hrow) ⟨b,rfl,hb⟩ rfl hK
 ·rename_i hxv
  rw[hxv]at hx
  exact fin none none 0 (by rw[hx.lit_inv.1];exact run_range_nilMap w t kt et ht) rfl rfl hK
 ·exact hK.elim
theorem run_nxt(w:World)(ty:TypeId)(r bm since c0:Nat)(seen:Array Nat)(es:Array MapEntry)(clock:Nat)(hr:w.heap[r]?=some (.mapIter (some bm) since seen c0))(hb:w.heap[bm]?=some (.map es clock))(hold:∀x∈es.toList,x.born<since)(hsc:since≤c0) :
  ((leftOf es seen).size=0∧(Instr.next (.pointer (some ⟨r,0,none⟩)) false ty).run P w= .ok (.tuple #[.bool false]) w) ∨
  ∃e∈(leftOf es seen).toList,∃k,(Instr.next (.pointer (some ⟨r,0,none⟩)) false ty).run P w= .ok (.tuple #[.bool true,e.key,e.val]) {w with drawn:=w.drawn+k,heap:=w.heap.setIfInBounds r (.mapIter (some bm) since (seen.push e.born) clock)}:=by
 simp only[Instr.next,getObj,Sem.run_bind,Sem.run,hr,hb,Result.andThen,next_test_false seen es since c0 hold hsc,Bool.false_eq_true,if_false]
 unfold leftOf
 have hmem:∀x∈(Array.filter (fun e=>!seen.contains e.born) es).toList,x.born<since:=fun x hx=>hold x (by simp at hx ⊢;exact hx.1)
 generalize Array.filter (fun e=>!seen.contains e.born) es=L at hmem ⊢
 have e1:L.filter (fun x=>decide (x.born<since))=L:=Array.filter_eq_self.2 (fun x hx=>by simpa using hmem x (by simpa using hx))
 have e2:L.filter (fun x=>decide (x.born ≥ since))= #[]:=by
  rw[Array.filter_eq_empty_iff]
  intro x hx
  have:=hmem x (by simpa using hx)
  simp
  omega
 simp only[e1,e2,Array.append_empty]
 by_cases h0:L.size=0
 ·left
  have:L= #[]:=Array.eq_empty_of_size_eq_zero h0
  subst this
  refine⟨rfl,?_⟩
  simp[choose,Sem.run,Question.forced]
 ·right
  have hne:L.isEmpty=false:=by simp[Array.isEmpty,h0]
  simp only[hne,Bool.false_eq_true,if_false,Array.empty_append,Array.size_map]
  have hch:∃(j k:Nat),j<L.size∧(choose (Question.mapNext L.size)).run P w= .ok j {w with drawn:=w.drawn+k}:=by
   by_cases hf:L.size≤1
   ·exact⟨0,0,by omega,by simp[choose,Sem.run,Question.forced,hf]⟩
   ·exact⟨_,1,Nat.mod_lt _ (by omega),by simp only[choose,Sem.run,Question.forced,decide_eq_true_eq,hf,if_false,Question.cut];rfl⟩
  obtain⟨j,k,hj,hrun⟩:=hch
  refine⟨L[j],by simp,k,?_⟩
  have hset:∀(o':Obj),(setObj r o').run P {w with drawn:=w.drawn+k}= .ok () {w with drawn:=w.drawn+k,heap:=w.heap.setIfInBounds r o'}:=fun o'=>by
   simp[setObj,Sem.run,hr]
  simp only[hrun,Array.getElem?_map,Array.getElem?_eq_getElem hj,Option.map_some,Sem.run_bind,hset,Result.andThen]
  rfl
theorem next_nil(w:World)(ty:TypeId)(r since c0:Nat)(seen:Array Nat)(hr:w.heap[r]?=some (.mapIter none since seen c0)):(Instr.next (.pointer (some ⟨r,0,none⟩)) false ty).run P w= .ok (.tuple #[.bool false]) w:=by
 simp only[Instr.next,getObj,Sem.run_bind,Sem.run,hr,Result.andThen]
 rfl
theorem Ok.iter(h:Ok m E g w fr st a){s b:Nat}{u:Value}{v':AV}(hs:s<fr.slots.length)(hu:a.tmps[s]?=some u)(hcls:g.cls b=some (.arr (.slot E.d s 0)))(hN:E.N≤b)(hold:∀o,w.cell? ⟨b,o,none⟩=none)(hw:Wr w b w')
  (hr:RS g E.d v' u) (ho:OwnV g w' E.N (Loc.slot E.d s) v' u):Ok m E g w' {fr with slots:=fr.slots.set s v'} st a:=by
 have hg:=h.ctx.good
 have himm:∀o,g.imm b o=none:=fun o=>by
  cases hi:g.imm b o with
  |none=>rfl
  |some u=>have:=hg.imm b o u hi;rw[hold o]at this;cases this
 have hgood:Good g w':=by
  refine⟨fun b' o u hi=>?_,hg.immc,fun b' c' hc=>by rw[hw.size];exact hg.cls b' c' hc,by rw[hw.size];exact hg.base⟩
  have hne:b'≠b:=fun e=>by subst e;rw[himm o]at hi;cases hi
  have:=hg.imm b' o u hi
  unfold World.cell? at this ⊢
  rw[hw.other b' hne];exact this
 have hmv:Mv m E.N E.d g w g w':=by
  refine⟨hw.os,hw.tape,hw.output,Nat.le_of_eq hw.size.symm,rfl,fun k hk=>hw.other k ?_,fun _ _ _ h=>h,fun _ _ h=>h,fun _ _=>rfl,fun k c hk ho=>?_,fun _=>⟨fun k hk=>⟨hw.other k ?_,rfl,rfl⟩,rfl⟩,hgood⟩
  ·intro e;subst e;have:=(hg.cls k _ hcls).1;omega
  ·have hne:k≠b:=fun e=>by subst e;rw[hcls]at hk;cases hk;exact Nat.lt_irrefl _ ho
   exact⟨hk,hw.other k hne,rfl⟩
  ·omega
 have hch:Ch (fun L=>L= .slot E.d s 0) none none none E.d g w g w':=by
  refine⟨GhLe.refl g,fun k c hk hX _ _=>?_,fun _ _=>rfl⟩
  have hne:k≠b:=fun e=>by subst e;rw[hcls]at hk;cases hk;exact hX _ rfl rfl
  exact⟨hk,hw.other k hne,rfl⟩
 refine h.ch hmv hch (by simp[h.size]) h.defers (fun t v x hv hx=>?_) (fun t cs' hc=>.inr ⟨hc,by simp,by simp,fun _ _ _=>.inl (fun e=>by cases e)⟩) (fun id hid=>h.ctx.box.1 id hid)
  (fun id cs' hc=>.inr ⟨hc,by simp,fun _ _ _=>.inl (fun e=>by cases e)⟩) (fun id bx he _=>.inr ⟨he,by simp⟩) (fun _=>rfl)
 simp only[List.getElem?_set]at hv
 by_cases e:s=t
 ·subst e
  simp[hs]at hv
  subst hv
  rw[hu]at hx;cases hx
  exact .inl ⟨hr,ho⟩
 ·simp[e]at hv
  exact .inr ⟨hv,hx,fun i c _=>.inl (fun e'=>by cases e';exact e rfl),fun _ _ _=>by simp⟩
theorem Ok.touch(h:Ok m E g w fr st a){s b:Nat}{cur:Array Value}{T:TypeId}{f:Nat×Nat}(hcls:g.cls b=some (.arr (.slot E.d s 0)))(hN:E.N≤b)(hrow:w.heap[b]?=some (.cells cur T (0,0)))(hw:Wr w b w')(hnew:w'.heap[b]?=some (.cells cur T f)) :
  Ok m E g w' (fr.disAt s) st a:=by
 have hg:=h.ctx.good
 have hgood:Good g w':=by
  refine⟨fun b' o u hi=>?_,hg.immc,fun b' c' hc=>by rw[hw.size];exact hg.cls b' c' hc,by rw[hw.size];exact hg.base⟩
  have:=hg.imm b' o u hi
  by_cases e:b'=b
  ·subst e
   rw[cell_of_row w b' o cur T (0,0) hrow]at this
   rw[cell_of_row w' b' o cur T f hnew];exact this
  ·unfold World.cell? at this ⊢
   rw[hw.other b' e];exact this
 have hmv:Mv m E.N E.d g w g w':=by
  refine⟨hw.os,hw.tape,hw.output,Nat.le_of_eq hw.size.symm,rfl,fun k hk=>hw.other k ?_,fun _ _ _ h=>h,fun _ _ h=>h,fun _ _=>rfl,fun k c hk ho=>?_,fun _=>⟨fun k hk=>⟨hw.other k ?_,rfl,rfl⟩,rfl⟩,hgood⟩
  ·intro e;subst e;have:=(hg.cls k _ hcls).1;omega
  ·have hne:k≠b:=fun e=>by subst e;rw[hcls]at hk;cases hk;exact Nat.lt_irrefl _ ho
   exact⟨hk,hw.other k hne,rfl⟩
  ·omega
 have hch:Ch (fun L=>L= .slot E.d s 0) none none none E.d g w g w':=by
  refine⟨GhLe.refl g,fun k c hk hX _ _=>?_,fun _ _=>rfl⟩
  have hne:k≠b:=fun e=>by subst e;rw[hcls]at hk;cases hk;exact hX _ rfl rfl
  exact⟨hk,hw.other k hne,rfl⟩
 refine(h.dis s).ch hmv hch (h.dis s).size h.defers (fun t v x hv hx=>.inr ⟨hv,hx,fun i c hc=>?_,fun _ _ _=>by simp⟩) (fun t cs' hc=>.inr ⟨hc,by simp,by simp,fun _ _ _=>.inl (fun e=>by cases e)⟩) (fun id hid=>h.ctx.box.1 id hid)
  (fun id cs' hc=>.inr ⟨hc,by simp,fun _ _ _=>.inl (fun e=>by cases e)⟩) (fun id bx he _=>.inr ⟨he,by simp⟩) (fun _=>rfl)
 by_cases e:s=t
 ·exact .inr (dis_slot fr s t hv e.symm i c hc)
 ·exact .inl fun q=>by cases q;exact e rfl
theorem mark_x{o:Oper}{t e:TypeId}{s:Nat}(ho:o.op= .convert t t (.tmp s))(hu:P.underlying t=some (.slice e))(he:P.underlying e=some (.int .u8))(hs:s<n)(h:Ok m E g w (sp n sf) st a){K:Sf→St→Prop}
  (hK:o9 (sf.reg s) fun v=>putK K o.dst (sf.disAt s) v st)
  {K':Act→World→Prop} {Q':Exit→Act→World→Prop} (hk:∀sf' st' g' w' u,Ok m E g' w' (sp n sf') st' (a.put o.dst u)→K sf' st'→K' (a.put o.dst u) w'):o.wp P a w K' Q':=by
 unfold o9 at hK
 have hsz:s<a.tmps.size:=by rw[h.size,dD];exact hs
 have hu':a.tmps[s]?=some a.tmps[s]:=Array.getElem?_eq_getElem hsz
 have hev:a.eval (.tmp s)=a.tmps[s]:=by simp[Act.eval,hsz]
 have hslot:(sp n sf).slots[s]?=some (sf.reg s):=by rw[dj,if_pos hs]
 split at hK
 ·rename_i k x es hreg
  obtain⟨hr,hown⟩:=h.slots s _ _ hslot hu'
  rw[hreg]at hr hown
  have hr:R g (.sl true k (x::es)) a.tmps[s]:=hr
  rcases(hown 0 _ a.tmps[s] rfl (by rw[R.sl_cells hr];rfl)).1 k (x::es) rfl with⟨e0,_⟩|⟨b,off,c,cur,T,q1,q2,q3,q4,q5,q6,q7⟩
  ·cases e0
  have hlt:=(Array.getElem?_eq_some_iff.1 q4).1
  have hwr:Wr w b (w.freeze ⟨b,cur.size,none⟩ 1):=by
   refine⟨rfl,rfl,rfl,by simp[World.freeze],fun k hk=>?_⟩
   simp only[World.freeze,Nat.succ_ne_zero,if_false]
   rw[Array.getElem?_modify,if_neg (fun e=>hk e.symm)]
  have hnew:(w.freeze ⟨b,cur.size,none⟩ 1).heap[b]?=some (.cells cur T (cur.size,cur.size+1)):=by
   simp only[World.freeze,Nat.succ_ne_zero,if_false]
   rw[Array.getElem?_modify,if_pos rfl,q4]
   rfl
  have hok:=h.touch (s:=s) (f:=(cur.size,cur.size+1)) q3 q2 q4 hwr hnew
  rw[←jH hs]at hok
  have hsh:w.shape? b=some (T,cur.size):=by
   unfold World.shape?
   rw[q4]
  refine lZ hk (u:=a.tmps[s]) (v:=.sl false k (x::es)) ?_ hok (RS.of hr.slF) (fun _ _=>dJ (v:=.sl false k (x::es)) (fun cs e=>by cases e) trivial) hK
  simp only[execOp,ho]
  refine bM ?_
  rw[hev,q1]
  simp[convert,run_underlying hu,run_underlying he,markStringish,hsh]
  try rfl
 ·exact hK.elim
theorem nxt_x{o:Oper}{s:Nat}(ho:o.op= .next (.tmp s) false)(hs:s<n)(h:Ok m E g w (sp n sf) st a){K:Sf→St→Prop}(hK:nxtX s o.dst (sf.reg s) K sf st)
  {K':Act→World→Prop} {Q':Exit→Act→World→Prop} (hk:∀sf' st' g' w' u,Ok m E g' w' (sp n sf') st' (a.put o.dst u)→K sf' st'→K' (a.put o.dst u) w'):o.wp P a w K' Q':=by
 unfold nxtX at hK
 have hsz:s<a.tmps.size:=by rw[h.size,dD];exact hs
 have hu:a.tmps[s]?=some a.tmps[s]:=Array.getElem?_eq_getElem hsz
 have hev:a.eval (.tmp s)=a.tmps[s]:=by simp[Act.eval,hsz]
 have hslot:(sp n sf).slots[s]?=some (sf.reg s):=by rw[dj,if_pos hs]
 obtain⟨_,hown⟩:=h.slots s _ _ hslot hu
 have hexec:∀u w',(Instr.next (a.eval (.tmp s)) false o.type).run P w= .ok u w'→(execOp a.eval o).run P w= .ok (.value u) w':=by
  intro u w' hr
  simp only[execOp,ho]
  exact bM hr
 have hone:∀{mid:Option Nat} {since:Nat} {seen:List Nat} {stp:Nat},sf.reg s= .mit mid since seen stp→∃b mb stepped,a.tmps[s]= .pointer (some ⟨b,0,none⟩)∧E.N≤b∧g.cls b=some (.arr (.slot E.d s 0))∧w.heap[b]?=some (itObj mid since seen mb stepped)∧since≤stepped∧ItM g mid mb:=by
  intro mid since seen stp hreg
  obtain⟨hr,hown⟩:=h.slots s _ _ hslot hu
  rw[hreg]at hr hown
  have hr:R g (.mit mid since seen stp) a.tmps[s]:=hr
  generalize a.tmps[s]=u at hr hown
  cases hr with
  | mit _ _ _ _ b =>
    obtain⟨b',mb,stepped,e,q1,q2,q3,q4,q5⟩:=(hown 0 _ _ rfl rfl).2 mid since seen stp rfl
    exact⟨b',mb,stepped,e,q1,q2,q3,q4.1,q5⟩
 split at hK
 ·rename_i seen stp hreg
  obtain⟨b,mb,stepped,hb,hN,hcls,hrow,hsc,hit⟩:=hone hreg
  have hmb:mb=none:=hit
  subst hmb
  refine lZ hk (u:=.tuple #[.bool false]) (v:=.tup [.lit (.bool false)]) (hexec _ _ ?_) h (RS.of (R.tup _ _ rfl fun i x u hx hu=>?_)) (fun _ _=>eS) hK
  ·rw[hev,hb];exact next_nil w _ b 0 stepped _ hrow
  ·match i with
   |0=>simp at hx hu;subst hx;subst hu;exact R.lit _ rfl
   |i+1=>simp at hx
 ·rename_i id since seen stp hreg
  obtain⟨b,mb,stepped,hb,hN,hcls,hrow,hsc,hit⟩:=hone hreg
  obtain⟨r,rfl,hbr⟩:=hit
  have hrow:w.heap[b]?=some (.mapIter (some r) since seen.toArray stepped):=hrow
  rw[aS]at hK
  obtain⟨es,hes,hlt,hclk,hnext,hend⟩:=hK
  obtain⟨b2,us,hbx,_,hmrow,hE,hB⟩:=h.ctx.box.mp id es _ _ (ft hes)
  have:b2=r:=Option.some.inj (hbx.symm.trans hbr)
  subst this
  have hborn:∀(i:Nat) (e:MapEntry),us[i]?=some e→(st.getB id).1[i]?=some e.born:=fun i e he=>by
   rw[←hB.eq];simp[he]
  have hold:∀x∈us.toList,x.born<since:=fun x hx=>hlt _ (by rw[←hB.eq];exact List.mem_map.2 ⟨x,hx,rfl⟩)
  rcases run_nxt (P:=P) w o.type b b2 since stepped seen.toArray us _ hrow hmrow hold hsc with⟨h0,hrun⟩|⟨e,he,kd,hrun⟩
  ·refine lZ hk (u:=.tuple #[.bool false]) (v:=.tup [.lit (.bool false)]) (hexec _ _ (by rw[hev,hb];exact hrun)) h (RS.of (R.tup _ _ rfl fun i x u hx hu=>?_)) (fun _ _=>eS) (hend fun q hq=>?_)
   ·match i with
    |0=>simp at hx hu;subst hx;subst hu;exact R.lit _ rfl
    |i+1=>simp at hx
   ·rw[←hB.eq]at hq
    obtain⟨x,hx,rfl⟩:=List.mem_map.1 hq
    have hL:leftOf us seen.toArray= #[]:=Array.eq_empty_of_size_eq_zero h0
    unfold leftOf at hL
    rw[Array.filter_eq_empty_iff]at hL
    have:=hL x (by simpa using hx)
    simpa using this
  ·unfold leftOf at he
   simp only[Array.mem_toList_iff,Array.mem_filter]at he
   obtain⟨heu,hns⟩:=he
   obtain⟨i,hi⟩:=Array.getElem?_of_mem heu
   have hil:i<es.length:=by rw[←hE.1];exact(Array.getElem?_eq_some_iff.1 hi).1
   have hek:es[i]?=some (es[i].1,es[i].2):=by simp[hil]
   obtain⟨hkr,hvr,_⟩:=hE.2 i _ _ e hek hi
   have hK2:=hnext i es[i].1 es[i].2 e.born hek (hborn i e hi) (by simpa using hns)
   have hlt2:b<w.heap.size:=(Array.getElem?_eq_some_iff.1 hrow).1
   let w2:World:={w with drawn:=w.drawn+kd,heap:=w.heap.setIfInBounds b (.mapIter (some b2) since (seen.toArray.push e.born) (st.getB id).2)}
   have hwr:Wr w b w2:=⟨rfl,rfl,rfl,by simp[w2],fun q hq=>by simp[w2,Array.getElem?_setIfInBounds_ne (Ne.symm hq)]⟩
   have hok:=h.iter (s:=s) (b:=b) (u:=a.tmps[s]) (v':=.mit (some id) since (seen++[e.born]) (st.getB id).2) (by rw[dD];exact hs) hu hcls hN (fun q=>by simp[World.cell?,hrow]) hwr (by rw[hb];exact RS.of (R.mit _ _ _ _ b)) (fun j c y hc hy=>by
    cases j with
    |succ j=>simp[AV.cells]at hc
    | zero =>
      simp[AV.cells]at hc
      rw[hb]at hy
      simp[Value.cells]at hy
      subst hc;subst hy
      refine⟨fun _ _ e=>(by cases e),fun id' s' l' p' e'=>?_⟩
      cases e'
      refine⟨b,some b2,(st.getB id).2,rfl,hN,hcls,?_,⟨hclk,rfl⟩,b2,rfl,hbr⟩
      show w2.heap[b]?=some (Obj.mapIter (some b2) since (seen++[e.born]).toArray (st.getB id).2)
      simp[w2,hlt2])
   have hsp:sp n (sf.set s (.mit (some id) since (seen++[e.born]) (st.getB id).2))= {sp n sf with slots:=(sp n sf).slots.set s (.mit (some id) since (seen++[e.born]) (st.getB id).2)}:=dF n sf s _
   rw[←hsp]at hok
   refine lZ (w':=w2) hk (u:=.tuple #[.bool true,e.key,e.val]) (v:=.tup [.lit (.bool true),es[i].1.dis,es[i].2.dis]) (hexec _ _ (by rw[hev,hb];exact hrun)) hok (RS.of (R.tup _ _ rfl fun q x u hx hu=>?_)) (fun _ _=>eS) hK2
   match q with
   |0=>simp at hx hu;subst hx;subst hu;exact R.lit _ rfl
   |1=>simp at hx hu;subst hx;subst hu;exact hkr.r.dis
   |2=>simp at hx hu;subst hx;subst hu;exact hvr.dis
   |q+3=>simp at hx
 ·exact hK.elim
theorem bytes_back(l:List UInt8):(⟨((l.map UInt8.toNat).map UInt8.ofNat).toArray⟩:ByteArray)=⟨l.toArray⟩:=by
 rw[List.map_map]
 have:(UInt8.ofNat∘ UInt8.toNat)=id:=by funext x;simp
 rw[this,List.map_id]
theorem rngS_x{o:Oper}{t:TypeId}{x:Operand}{sd:Nat}(ho:o.op= .range t x)(hd:o.dst=some sd)(ht:P.underlying t=some .string)(h:Ok m E g w fr st a){C:AV→St→Prop}
  (hK:rngSX (fr.ev x) C st):Ends P o m E w fr a C:=by
 have hx:=h.ev x
 unfold rngSX at hK
 split at hK
 ·rename_i b hxv
  rw[hxv]at hx
  have hle:=le_obj (g:=g) (w:=w) (.stringIter b 0) (.slot E.d sd 0)
  have hrun:(Instr.range t (a.eval x)).run P w= .ok (.pointer (some ⟨w.heap.size,0,none⟩)) (w.alloc (.stringIter b 0)):=by
   rw[hx.lit_inv.1]
   simp[Instr.range,run_underlying ht]
  refine⟨_,_,hK,_,_,_,by simp only[execOp,ho];exact bM hrun,h.le hle,RS.of (R.mit _ _ _ _ _),fun s hs i c y hc hy=>?_⟩
  rw[hd]at hs;cases hs
  cases i with
  |succ i=>simp[AV.cells]at hc
  | zero =>
    simp[AV.cells]at hc
    simp[Value.cells]at hy
    subst hc;subst hy
    refine⟨fun _ _ e=>(by cases e),fun id' s' l' p' e=>?_⟩
    cases e
    refine⟨w.heap.size,none,1,rfl,h.hN,by simp[Gh.lab],?_,⟨Nat.le_refl _,rfl⟩,rfl⟩
    have e:itObj none 1 (b.data.toList.map UInt8.toNat) none 1= .stringIter b 0:=by
     show Obj.stringIter _ (1-1)=_
     rw[bytes_back]
    rw[e];exact heap_alloc_new w _
 ·exact hK.elim
theorem decode_high(s:ByteArray)(i:Nat)(h:¬(s.get! (i+0)).toNat<128):128≤(Utf8.decode s i).1∧0<(Utf8.decode s i).2:=by
 unfold Utf8.decode
 simp only[h,if_false]
 have e:128≤Utf8.runeError:=by decide
 split
 ·split
  ·rename_i h1;exact⟨h1,Nat.succ_pos _⟩
  ·exact⟨e,Nat.succ_pos _⟩
 ·split
  ·split
   ·rename_i h1
    simp only[Bool.and_eq_true,decide_eq_true_eq]at h1
    exact⟨by omega,Nat.succ_pos _⟩
   ·exact⟨e,Nat.succ_pos _⟩
  ·split
   ·split
    ·rename_i h1
     simp only[Bool.and_eq_true,decide_eq_true_eq]at h1
     exact⟨by omega,Nat.succ_pos _⟩
    ·exact⟨e,Nat.succ_pos _⟩
   ·exact⟨e,Nat.succ_pos _⟩
theorem nxtS_x{o:Oper}{s:Nat}(ho:o.op= .next (.tmp s) true)(hs:s<n)(h:Ok m E g w (sp n sf) st a){K:Sf→St→Prop}(hK:mZ s o.dst (sf.reg s) K sf st)
  {K':Act→World→Prop} {Q':Exit→Act→World→Prop} (hk:∀sf' st' g' w' u,Ok m E g' w' (sp n sf') st' (a.put o.dst u)→K sf' st'→K' (a.put o.dst u) w'):o.wp P a w K' Q':=by
 unfold mZ at hK
 have hsz:s<a.tmps.size:=by rw[h.size,dD];exact hs
 have hu:a.tmps[s]?=some a.tmps[s]:=Array.getElem?_eq_getElem hsz
 have hev:a.eval (.tmp s)=a.tmps[s]:=by simp[Act.eval,hsz]
 have hslot:(sp n sf).slots[s]?=some (sf.reg s):=by rw[dj,if_pos hs]
 have hexec:∀u w',(Instr.next (a.eval (.tmp s)) true o.type).run P w= .ok u w'→(execOp a.eval o).run P w= .ok (.value u) w':=by
  intro u w' hr
  simp only[execOp,ho]
  exact bM hr
 split at hK
 case h_2=>exact hK.elim
 rename_i bs p hreg
 obtain⟨b,hb,hN,hcls,hrow⟩:∃b,a.tmps[s]= .pointer (some ⟨b,0,none⟩)∧E.N≤b∧g.cls b=some (.arr (.slot E.d s 0))∧w.heap[b]?=some (.stringIter ⟨(bs.map UInt8.ofNat).toArray⟩ p):=by
  obtain⟨hr,hown⟩:=h.slots s _ _ hslot hu
  rw[hreg]at hr hown
  have hr:R g (.mit none 1 bs (p+1)) a.tmps[s]:=hr
  generalize a.tmps[s]=u at hr hown
  cases hr with
  | mit _ _ _ _ b =>
    obtain⟨b',mb,stepped,e,q1,q2,q3,q4,q5⟩:=(hown 0 _ _ rfl rfl).2 none 1 bs (p+1) rfl
    obtain⟨_,rfl⟩:=q4
    exact⟨b',e,q1,q2,q3⟩
 have hsize:(⟨(bs.map UInt8.ofNat).toArray⟩:ByteArray).size=bs.length:=by simp[ByteArray.size]
 split at hK
 ·rename_i hp
  have hp:¬p<bs.length:=by rw[List.getElem?_eq_none_iff]at hp;omega
  refine lZ hk (u:=.tuple #[.bool false]) (v:=.tup [.lit (.bool false)]) (hexec _ _ ?_) h (RS.of (R.tup _ _ rfl fun i x u hx hu=>?_)) (fun _ _=>eS) hK
  ·rw[hev,hb];simp[Instr.next,getObj,Sem.run,hrow,hsize,hp]
  ·match i with
   |0=>simp at hx hu;subst hx;subst hu;exact R.lit _ rfl
   |i+1=>simp at hx
 ·rename_i bb hp
  obtain⟨hpl,hpe⟩:=List.getElem?_eq_some_iff.1 hp
  have hlt2:b<w.heap.size:=(Array.getElem?_eq_some_iff.1 hrow).1
  have hstep:∀c wd:Nat,Utf8.decode ⟨(bs.map UInt8.ofNat).toArray⟩ p=(c,wd)→K ((sf.set s (.mit none 1 bs (p+wd+1))).put o.dst (.tup [.lit (.bool true),.lit (.int .i64 (p:Nat)),.lit (.int .i32 (c:Nat))])) st→o.wp P a w K' Q':=by
   intro c wd hdec hK2
   let w2:World:={w with heap:=w.heap.setIfInBounds b (.stringIter ⟨(bs.map UInt8.ofNat).toArray⟩ (p+wd))}
   have hwr:Wr w b w2:=⟨rfl,rfl,rfl,by simp[w2],fun q hq=>by simp[w2,Array.getElem?_setIfInBounds_ne (Ne.symm hq)]⟩
   have hok:=h.iter (s:=s) (b:=b) (u:=a.tmps[s]) (v':=.mit none 1 bs (p+wd+1)) (by rw[dD];exact hs) hu hcls hN (fun q=>by simp[World.cell?,hrow]) hwr (by rw[hb];exact RS.of (R.mit _ _ _ _ b)) (fun j c y hc hy=>by
    cases j with
    |succ j=>simp[AV.cells]at hc
    | zero =>
      simp[AV.cells]at hc
      rw[hb]at hy
      simp[Value.cells]at hy
      subst hc;subst hy
      refine⟨fun _ _ e=>(by cases e),fun id' s' l' p' e'=>?_⟩
      cases e'
      refine⟨b,none,p+wd+1,rfl,hN,hcls,?_,⟨Nat.le_add_left _ _,rfl⟩,rfl⟩
      show w2.heap[b]?=some (Obj.stringIter _ (p+wd+1-1))
      simp[w2,hlt2])
   have hsp:sp n (sf.set s (.mit none 1 bs (p+wd+1)))= {sp n sf with slots:=(sp n sf).slots.set s (.mit none 1 bs (p+wd+1))}:=dF n sf s _
   rw[←hsp]at hok
   refine lZ (w':=w2) hk (u:=.tuple #[.bool true,goInt p,.int .i32 c]) (v:=.tup [.lit (.bool true),.lit (.int .i64 (p:Nat)),.lit (.int .i32 (c:Nat))]) (hexec _ _ ?_) hok (RS.of (R.tup _ _ rfl fun q x u hx hu=>?_)) (fun _ _=>eS) hK2
   ·rw[hev,hb]
    simp only[Instr.next,getObj,setObj,Sem.run_bind,Sem.run,hrow,Result.andThen,hsize,hpl,if_true,hdec]
    simp[Sem.run,hrow,w2]
   ·match q with
    |0=>simp at hx hu;subst hx;subst hu;exact R.lit _ rfl
    |1=>simp at hx hu;subst hx;subst hu;exact R.lit _ rfl
    |2=>simp at hx hu;subst hx;subst hu;exact R.lit _ rfl
    |q+3=>simp at hx
  have hget:(⟨(bs.map UInt8.ofNat).toArray⟩:ByteArray).get! (p+0)=UInt8.ofNat bb:=by
   show(⟨(bs.map UInt8.ofNat).toArray⟩:ByteArray).get! p=_
   simp[ByteArray.get!,hpl,hpe]
  obtain⟨h256,hlo,hhi⟩:=hK
  have hbt:(UInt8.ofNat bb).toNat=bb:=by simp;omega
  by_cases hc:bb<128
  ·exact hstep bb 1 (by simp only[Utf8.decode,hget,hbt,hc,if_true]) (hlo hc)
  ·have hd:=decode_high ⟨(bs.map UInt8.ofNat).toArray⟩ p (by rw[hget,hbt];exact hc)
   exact hstep _ _ rfl (hhi (by omega) _ _ hd.1 hd.2)
theorem pa:∀(l:List MapEntry) (i:Nat) (e:MapEntry),(l.map (·.born)).Nodup→l[i]?=some e→l.find? (·.born ==e.born)=some e
 | [],i,e,_,h=>by simp at h
 |x::r,0,e,_,h=>by simp at h;subst h;simp
 | x :: r, i + 1, e, hn, h => by
   simp only[List.map_cons,List.nodup_cons]at hn
   have hr:r[i]?=some e:=by simpa using h
   have hne:x.born≠e.born:=fun q=>hn.1 (by rw[q];exact List.mem_map.2 ⟨e,List.mem_of_getElem? hr,rfl⟩)
   have hf:(x.born ==e.born)=false:=by simpa using hne
   rw[List.find?_cons,hf]
   exact pa r i e hn.2 hr
theorem ent_x{o:Oper}{s:Nat}(ho:o.op= .entry (.tmp s))(hs:s<n)(h:Ok m E g w (sp n sf) st a){C:AV→St→Prop}(hK:entX (sf.reg s) C st):Ends P o m E w (sp n sf) a C:=by
 unfold entX at hK
 have hsz:s<a.tmps.size:=by rw[h.size,dD];exact hs
 have hu:a.tmps[s]?=some a.tmps[s]:=Array.getElem?_eq_getElem hsz
 have hev:a.eval (.tmp s)=a.tmps[s]:=by simp[Act.eval,hsz]
 have hslot:(sp n sf).slots[s]?=some (sf.reg s):=by rw[dj,if_pos hs]
 split at hK
 case h_2=>exact hK.elim
 rename_i id since seen stp hreg
 obtain⟨hr,hown⟩:=h.slots s _ _ hslot hu
 rw[hreg]at hr hown
 have hr:R g (.mit (some id) since seen stp) a.tmps[s]:=hr
 have hit:∃b r,a.tmps[s]= .pointer (some ⟨b,0,none⟩)∧w.heap[b]?=some (.mapIter (some r) since seen.toArray stp)∧g.bx id=some r:=by
  generalize a.tmps[s]=u at hr hown
  cases hr with
  | mit _ _ _ _ b =>
    obtain⟨b',mb,stepped,e,q1,q2,q3,⟨_,q4⟩,r,q5,q6⟩:=(hown 0 _ _ rfl rfl).2 (some id) since seen stp rfl
    subst q4 q5
    exact⟨b',r,e,q3,q6⟩
 obtain⟨b,r,hb,hrow,hbr⟩:=hit
 rw[aS]at hK
 obtain⟨es,hes,hstp,i,k,x,bo,hlast,hei,hbi,hK⟩:=hK
 obtain⟨b2,us,hbx,_,hmrow,hE,hB⟩:=h.ctx.box.mp id es _ _ (ft hes)
 have:b2=r:=Option.some.inj (hbx.symm.trans hbr)
 subst this
 have hil:i<us.size:=by rw[hE.1];exact(List.getElem?_eq_some_iff.1 hei).1
 have hui:us[i]?=some us[i]:=Array.getElem?_eq_getElem hil
 obtain⟨hkr,hvr,_⟩:=hE.2 i _ _ us[i] hei hui
 have hbo:us[i].born=bo:=by
  rw[←hB.eq]at hbi
  simpa [hil]using hbi
 have hfind:us.find? (·.born ==bo)=some us[i]:=by
  rw[←Array.find?_toList,←hbo]
  exact pa us.toList i us[i] (by rw[hB.eq];exact hB.nodup) (by simp)
 have hrun:(Instr.entry (.pointer (some ⟨b,0,none⟩))).run P w= .ok (.tuple #[us[i].key,us[i].val]) w:=by
  have hback:seen.toArray.back?=some bo:=by rw[List.back?_toArray];exact hlast
  simp only[Instr.entry,getObj,Sem.run_bind,Sem.run,hrow,Result.andThen,hback,hmrow,hstp,bne_self_eq_false,Bool.false_eq_true,if_false,hfind]
  rfl
 refine⟨_,_,hK,.tuple #[us[i].key,us[i].val],_,_,?_,h,RS.of (R.tup _ _ rfl fun q y u hx hu=>?_),fun _ _=>eS⟩
 ·simp only[execOp,ho]
  refine bM ?_
  rw[hev,hb]
  exact hrun
 ·match q with
  |0=>simp at hx hu;subst hx;subst hu;exact hkr.r.dis
  |1=>simp at hx hu;subst hx;subst hu;exact hvr.dis
  |q+2=>simp at hx
end
end Go.Fx
namespace Go.Fx
open Go Go.RowKit Go.Lib
section
variable {P:Program} {gOf:FuncId→Option Nat} {F:Nat→FuncId} {n:Nat} {m:Bool} {E:Ent} {g g':Gh} {w w':World} {sf:Sf} {st st':St} {a:Act} {fr:Fr}
theorem ext_clone {fn : Func} (h1 : fn.name = "maps.clone") (h2 : fn.origin = "") : Extern.findNext fn = none ∧ Extern.find fn = some Extern.MapsClone.clone := by
 constructor
 ·unfold Extern.findNext
  rw[h1,h2]
  rfl
 ·unfold Extern.find
  rw[h1,h2]
  rfl
theorem exec_ext {o : Oper} {f : FuncId} {args : Array Operand} {ts : Array TypeId} {fn : Func} {ex : Array Value → Sem Value} (ho : o.op = .call ⟨.value (.func f), args, ts⟩) (hf : P.funcs[f]? = some fn) (hb : fn.body.isNone = true) (hname : (fn.name == "runtime.NumGoroutine") = false)
  (hn:Extern.findNext fn=none) (he:Extern.find fn=some ex) {u:Value} {w':World} (hr:(ex (args.map a.eval)).run P w= .ok u w'):(execOp a.eval o).run P w= .ok (.value u) w':=by
 have h:=run_callFunc_extern hf hname hb hn he (args.map a.eval) w
 rw[hr]at h
 simp only[Result.andThen]at h
 have hev:a.eval (.func f)= .func (.func f) #[] #[]:=rfl
 simp only[execOp,ho,resolve,hev,Deferred.ofValue,invoke,Sem.run_bind,Sem.run_pure,Result.andThen_ok]
 simpa using h
theorem extK_clone {f : FuncId} (h : extK P f = some .mclone) : ∃ fn, P.funcs[f]? = some fn ∧ fn.body.isNone = true ∧ fn.name = "maps.clone" ∧ fn.origin = "" := by
 unfold extK at h
 cases hf:P.funcs[f]? with
 |none=>simp[hf]at h
 | some fn =>
   simp only[hf]at h
   by_cases hc : fn.body.isNone = true ∧ fn.name = "maps.clone" ∧ fn.origin = ""
   ·exact⟨fn,rfl,hc⟩
   ·rw[if_neg hc]at h
    split at h
    ·simp at h
    ·split at h<;>simp at h
theorem extK_cmpS {f : FuncId} (h : extK P f = some .cmpS) : ∃ fn, P.funcs[f]? = some fn ∧ fn.body.isNone = true ∧ fn.name = "internal/bytealg.abigen_runtime_cmpstring" ∧ fn.origin = "" := by
 unfold extK at h
 cases hf:P.funcs[f]? with
 |none=>simp[hf]at h
 | some fn =>
   simp only[hf]at h
   split at h
   ·simp at h
   ·split at h
    ·simp at h
    ·split at h
     ·rename_i hc;exact⟨fn,rfl,hc⟩
     ·simp at h
theorem ext_cmpS {fn : Func} (h1 : fn.name = "internal/bytealg.abigen_runtime_cmpstring") (h2 : fn.origin = "") : Extern.findNext fn = none ∧ Extern.find fn = some Extern.BytealgCompare.compare := by
 constructor
 ·unfold Extern.findNext
  rw[h1,h2]
  rfl
 ·unfold Extern.find
  rw[h1,h2]
  rfl
theorem cmpS_x{o:Oper}{f:FuncId}{x y:Operand}{ts:Array TypeId}(ho:o.op= .call ⟨.value (.func f),#[x,y],ts⟩)(hx:extK P f=some .cmpS)(h:Ok m E g w fr st a){C:AV→St→Prop}
  (hK:cmpSX (fr.ev x) (fr.ev y) C st):Ends P o m E w fr a C:=by
 obtain⟨fn,hf,hb,hname,horig⟩:=extK_cmpS hx
 obtain⟨h1,h2⟩:=ext_cmpS hname horig
 unfold cmpSX at hK
 have hxr:=h.ev x
 have hyr:=h.ev y
 split at hK
 case h_2=>exact hK.elim
 rename_i b c hxv hyv
 rw[hxv]at hxr
 rw[hyv]at hyr
 have e1:=hxr.lit_inv.1
 have e2:=hyr.lit_inv.1
 refine⟨_,_,hK,.int .i64 (compareBytes b.data.toList c.data.toList),_,_,exec_ext ho hf hb (by rw[hname];rfl) h1 h2 (w':=w) ?_,h,RS.of (R.lit _ rfl),fun s hs=>dJ (v:=.lit _) (fun cs e=>by cases e) trivial⟩
 have hargs:Array.map a.eval #[x,y]= #[.string b,.string c]:=by simp[e1,e2]
 rw[hargs]
 exact run_compareString b c w
theorem mclone_x{o:Oper}{f:FuncId}{x:Operand}{ts:Array TypeId}(ho:o.op= .call ⟨.value (.func f),#[x],ts⟩)(hx:extK P f=some .mclone)(h:Ok m E g w fr st a){C:AV→St→Prop}
  (hK:kq m (fr.ev x) C st):Ends P o m E w fr a C:=by
 obtain⟨fn,hf,hb,hname,horig⟩:=extK_clone hx
 obtain⟨h1,h2⟩:=ext_clone hname horig
 unfold kq at hK
 have hxr:=h.ev x
 split at hK
 case h_2=>exact hK.elim
 rename_i t id hxv
 obtain⟨rfl,hK⟩:=hK
 rw[aS]at hK
 obtain⟨es,hes,hK⟩:=hK
 rw[hxv]at hxr
 have hxr:R g (.ifc t (.map id)) (a.eval x):=hxr
 generalize hux:a.eval x=ux at hxr
 cases hxr with
 | ifc _ _ u hm =>
   obtain⟨b,us,clk,hb2,hu,hrow,hE,hclk,hB⟩:=iU h (RS.of hm) hes
   subst hu
   have hok:=h.newMapB (cV w (.map us clk)) hE hB
   rw[show(st.getB id).2=clk from hclk.symm]at hK
   refine⟨_,_,hK,.iface t (.map (some w.heap.size)),_,_,exec_ext ho hf hb (by rw[hname];rfl) h1 h2 (w':=w.alloc (.map us clk)) ?_,hok,RS.of (R.ifc _ _ _ (R.map _ _ (kr _ _ _))),fun s hs=>own_ifc⟩
   have h3:(getObj b).run P w= .ok (.map us clk) w:=by simp[getObj,Sem.run,hrow]
   have e:Extern.MapsClone.clone #[.iface t (.map (some b))]=(getObj b >>=fun o=>match o with
    | .map entries clock=>(newObj (.map entries clock) >>=fun n=>pure (.iface t (.map (some n))))
    | _ => stuck "maps.clone: a map expected") := rfl
   have hargs:Array.map a.eval #[x]= #[.iface t (.map (some b))]:=by simp[hux]
   rw[hargs,e]
   simp[h3]
theorem Ends.wp{o:Oper}{K:Sf→St→Prop}{K':Act→World→Prop}{Q':Exit→Act→World→Prop}(h:Ends P o m E w (sp n sf) a (putK K o.dst sf))
  (hk:∀sf' st' g' w' u,Ok m E g' w' (sp n sf') st' (a.put o.dst u)→K sf' st'→K' (a.put o.dst u) w'):o.wp P a w K' Q':=by
 obtain⟨v,st',hK,u,g',w',hrun,hok,hr,ho⟩:=h
 exact lZ hk hrun hok hr ho hK
theorem args2{args:Array Operand}{x y:Operand}(h:args.toList= [x,y]):args= #[x,y]:=by apply Array.ext';simpa using h
theorem args1{args:Array Operand}{x:Operand}(h:args.toList= [x]):args= #[x]:=by apply Array.ext';simpa using h
theorem ts2{args:Array TypeId}{x y:TypeId}(h:args.toList= [x,y]):args= #[x,y]:=by apply Array.ext';simpa using h
theorem ts1{args:Array TypeId}{x:TypeId}(h:args.toList= [x]):args= #[x]:=by apply Array.ext';simpa using h
theorem x_sound{mu:Nat→Bool}{o:Oper}{xi:XI}(hc:compX P gOf F n mu o=some xi)(h:Ok m E g w (sp n sf) st a){K:Sf→St→Prop}(hK:a9 F m xi o.dst K sf st)
  {K':Act→World→Prop} {Q':Exit→Act→World→Prop} (hk:∀sf' st' g' w' u,Ok m E g' w' (sp n sf') st' (a.put o.dst u)→K sf' st'→K' (a.put o.dst u) w'):o.wp P a w K' Q':=by
 obtain⟨dst,op,ty,pos,after,gd⟩:=o
 unfold compX at hc
 simp only at hc hK hk
 split at hc
 -- eql
 ·rename_i t x y yt
  split at hc
  ·rename_i e x' y' hu hx hy
   cases hc
   simp only[a9,←ap hx sf,←ap hy sf]at hK
   exact(nil_x rfl (.inl rfl) hu h hK).wp hk
  ·cases hc
 -- neq
 ·rename_i t x y yt
  split at hc
  ·rename_i e x' y' hu hx hy
   cases hc
   simp only[a9,←ap hx sf,←ap hy sf]at hK
   exact(nil_x rfl (.inr rfl) hu h hK).wp hk
  ·cases hc
 -- append
 ·rename_i args ts
  split at hc
  ·rename_i sd x y t t2 hargs hts
   split at hc
   ·rename_i hcond
    split at hc
    ·rename_i k x' y' hak hx hy
     cases hc
     have ha:=args2 hargs
     have ht:=ts2 hts
     subst ha;subst ht
     simp only[a9]at hK
     obtain⟨v,st',hC,u,g',w',hrun,hok,hr,h1,h2⟩:=app_x (P:=P) (o:=⟨some sd,.call ⟨.builtin .append,#[x,y],#[t,t2]⟩,ty,pos,after,gd⟩) rfl (k:=k.1) (bytes:=k.2) (by simpa using hak) (fun e hu=>by have:=hcond.2;unfold apzB at this;rw[hu]at this;exact this) h (ap hx sf) (ap hy sf) hK
     exact lZ hk hrun hok (RS.of hr) (fun _ _=>dJ h1 h2) hC
    ·cases hc
   ·cases hc
  ·cases hc
 -- clear
 ·rename_i args ts
  split at hc
  ·rename_i x t hargs hts
   have ha:=args1 hargs
   have ht:=ts1 hts
   subst ha;subst ht
   split at hc
   ·rename_i e x' hu hx
    split at hc
    ·rename_i k z hk' hz
     split at hc
     ·rename_i hcond
      cases hc
      simp only[a9,←ap hx sf]at hK
      exact(clr_x rfl hu hk' hz hcond.1 hcond.2 h hK).wp hk
     ·cases hc
    ·cases hc
   ·cases hc
  ·cases hc
 -- make
 ·rename_i t len cap
  split at hc
  ·rename_i sd e l c hu hl hcc
   split at hc
   ·rename_i i z hi hz
    split at hc
    ·rename_i hcond
     split at hc
     ·cases hc
      simp only[a9,←ap hl sf,←ap hcc sf]at hK
      exact(mksB_x rfl hu hi hz hcond.1 hcond.2 h hK).wp hk
     ·cases hc
    ·cases hc
   ·cases hc
  ·cases hc
 -- an empty literal
 ·rename_i t len parts
  split at hc
  ·rename_i sd e hd hu
   split at hc
   ·rename_i i z hi hz
    split at hc
    ·rename_i hcond
     obtain⟨_,rfl,rfl,hzl,hi0⟩:=hcond
     cases hc
     simp only[a9]at hK
     exact(bsl0_x rfl hu hi hz hzl hi0 h hK).wp hk
    ·cases hc
   ·cases hc
  ·cases hc
 -- what the model itself has
 ·rename_i f args ts
  split at hc
  ·rename_i x hext hargs
   obtain⟨y,hy,rfl⟩:=map_some hc
   have ha:=args1 hargs
   subst ha
   simp only[a9,←ap hy sf]at hK
   exact(mclone_x rfl hext h hK).wp hk
  ·rename_i x y hext hargs
   split at hc
   ·rename_i x' y' hx' hy'
    cases hc
    have ha:=args2 hargs
    subst ha
    simp only[a9,←ap hx' sf,←ap hy' sf]at hK
    exact(cmpS_x rfl hext h hK).wp hk
   ·cases hc
  ·cases hc
 -- range
 ·rename_i t x
  split at hc
  ·rename_i sd kt et x' hu hx
   cases hc
   simp only[a9,←ap hx sf]at hK
   exact(rng_x rfl rfl hu h hK).wp hk
  ·rename_i sd x' hu hx
   cases hc
   simp only[a9,←ap hx sf]at hK
   exact(rngS_x rfl rfl hu h hK).wp hk
  ·cases hc
 -- next
 ·rename_i s
  split at hc
  ·rename_i hcond
   cases hc
   simp only[a9]at hK
   exact nxt_x rfl hcond.1 h hK hk
  ·cases hc
 -- next rune
 ·rename_i s
  split at hc
  ·rename_i hcond
   cases hc
   simp only[a9]at hK
   exact nxtS_x rfl hcond.1 h hK hk
  ·cases hc
 -- entry
 ·rename_i s
  split at hc
  ·rename_i hcond
   cases hc
   simp only[a9]at hK
   exact(ent_x rfl hcond h hK).wp hk
  ·cases hc
 -- a constant's bytes
 ·rename_i t t2 s
  split at hc
  ·rename_i e hu
   split at hc
   ·rename_i he
    split at hc
    ·rename_i hcond
     obtain⟨rfl,hs⟩:=hcond
     cases hc
     simp only[a9]at hK
     exact mark_x rfl hu he hs h hK hk
    ·cases hc
   ·cases hc
  ·cases hc
 ·cases hc
end
end Go.Fx
namespace Go.Fx
open Go Go.RowKit Go.Lib
def leR:List (Nat×AV)→List (Nat×AV)→Prop
 | [],[]=>True
 |(t,v)::r,(t',v')::r'=>t'=t∧AV.le v v'∧leR r r'
 |_,_=>False
def leLo:List (Nat×List AV)→List (Nat×List AV)→Prop
 |_,[]=>True
 | [],_::_=>False
 |(t,v)::r,(t',v')::r'=>(t'=t∧leL v v'∧leLo r r')∨(look t ((t',v')::r')=none∧leLo r ((t',v')::r'))
def Sf.le(sf sf':Sf):Prop:=leR sf.regs sf'.regs∧leLo sf.locs sf'.locs
theorem leR_refl:∀l,leR l l
 | []=>trivial
 |(_,v)::r=>⟨rfl,.refl v,leR_refl r⟩
theorem pb:∀l,leLo l l
 | []=>trivial
 |(_,v)::r=>.inl ⟨rfl,iv v,pb r⟩
theorem Sf.le_refl(sf:Sf):Sf.le sf sf:=⟨leR_refl _,pb _⟩
theorem leR_get:∀{l k:List (Nat×AV)},leR l k→∀t,AV.le (getR l t) (getR k t)
 | [],[],_,t=>.refl _
 | [],_::_,h,_=>h.elim
 |_::_,[],h,_=>h.elim
 | (s, v) :: r, (s', v') :: r', ⟨h1, h2, h3⟩, t => by
   subst h1
   simp only[getR]
   split
   ·exact h2
   ·exact leR_get h3 t
theorem lf:∀{l k:List (Nat×List AV)},leLo l k→∀(t:Nat) (cs':List AV),look t k=some cs'→∃cs,look t l=some cs∧leL cs cs'
 |_,[],_,t,cs',h=>by simp[look]at h
 | [],_::_,h,_,_,_=>by simp[leLo]at h
 | (s, v) :: r, (s', v') :: r', h0, t, cs', h => by
   simp only[leLo]at h0
   rcases h0 with⟨h1,h2,h3⟩|⟨h1,h2⟩
   ·subst h1
    simp only[look]at h ⊢
    split at h
    ·rename_i e
     cases h
     rw[if_pos e]
     exact⟨v,rfl,h2⟩
    ·rename_i e
     rw[if_neg e]
     exact lf h3 t cs' h
   ·have hne:s≠t:=by
     rintro rfl
     rw[h1]at h
     cases h
    rw[look,if_neg (by simpa using hne)]
    exact lf h2 t cs' h
theorem Ok.weakS{m:Bool}{E:Ent}{g:Gh}{w:World}{n:Nat}{sf sf':Sf}{st:St}{a:Act}(h:Ok m E g w (sp n sf) st a)(hs:Sf.le sf sf'):Ok m E g w (sp n sf') st a:=by
 refine⟨by rw[h.size,dD,dD],fun s v u hv hu=>?_,⟨h.ctx.good,fun s cs' hc=>?_,h.ctx.box⟩,h.defers,h.mv,h.pst,h.hN,h.hm⟩
 ·rw[dj]at hv
  split at hv
  ·rename_i hl
   cases hv
   obtain⟨h1,h2⟩:=h.slots s (sf.reg s) u (by rw[dj,if_pos hl]) hu
   have hle:=leR_get hs.1 s
   exact⟨hle.rs h1,hle.ownV h1 h2⟩
  ·cases hv
 ·obtain⟨cs,hc0,hle⟩:=lf hs.2 s cs' hc
  obtain⟨b,us,T,a1,aN,a2,a3,a4,a5⟩:=h.ctx.loc s cs hc0
  obtain⟨q1,q2⟩:=iX hle
  refine⟨b,us,T,a1,aN,a2,a3,by omega,fun i c x hc hx=>?_⟩
  have hlt:i<cs.length:=by rw[←q1];exact(List.getElem?_eq_some_iff.1 hc).1
  have e0:cs[i]?=some cs[i]:=by simp[hlt]
  obtain⟨r1,r2⟩:=a5 i cs[i] x e0 hx
  exact⟨(q2 i _ c e0 hc).r r1,(q2 i _ c e0 hc).own1c r1 r2⟩
end Go.Fx
namespace Go.Fx
open Go Go.RowKit Go.Lib
structure GI where
 g:Option (Nat×Bool)
 i:AI
def CallA(P:Program)(q:FuncId)(vs:List AV)(st:St)(K:AV→St→Prop):Prop:=cr P q=true∧∃Q,aF P q vs st Q∧∀v st',Q v st'→K v st'
def CallP(P:Program)(q:FuncId)(vs:List AV)(st:St)(K:AV→Prop):Prop:=cr P q=true∧∃v,az P q vs st v∧K v
def CallY(P:Program)(id:Nat)(vs:List AV)(st:St)(K:AV→St→Prop):Prop:=∃Q,gP P id vs st Q∧∀t st',Q t st'→K (.lit (.bool t)) st'
section
variable (P:Program) (F:Nat→FuncId) (m:Bool)
def ga(K:Sf→St→Prop)(q:Sf×St):Prop:=K q.1 q.2
def ix(p:Bool)(d:Option Nat)(f:AV)(args:List AV)(K:Sf→St→Prop)(sf:Sf)(st:St):Prop :=
 match f with
 | .fn (.func q) fs cs=>args.all AV.noL=true∧(if(p||m)=true then CallP P q (fs++args.map AV.dis++cs) st (putP K d sf st)else CallA P q (fs++args.map AV.dis++cs) st (putK K d sf))
 | .yld id=>args.all AV.noL=true∧(p||m)=false∧CallY P id (args.map AV.dis) st (putK K d sf)
 |_=>False
def oneI(i:AI)(K:Sf→St→Prop)(sf:Sf)(st:St):Prop :=
 match i with
 | .call d p f args=>ix P m p d (sf.ev F f) (args.map (sf.ev F)) K sf st
 | .x d i=>a9 F m i d K sf st
 |i=>(cc F m i sf st).wp (ga K)
def fh(t:Nat)(want:Bool)(v:AV)(Y N:Sf→St→Prop)(sf:Sf)(st:St):Prop :=
 match v with
 | .lit (.bool b)=>∀c:Bool,b=c→if c=want then Y (sf.set t (.lit (.bool c))) st else N (sf.set t (.lit (.bool c))) st
 | .any=>Y sf st∧N sf st
 | .tup _=>N sf st
 |_=>False
def skipI(d:Option Nat)(K:Sf→St→Prop)(sf:Sf)(st:St):Prop:=K (sf.put d (.tup [])) st
def runI:List GI→(Sf→St→Prop)→Sf→St→Prop
 | [],K,sf,st=>K sf st
 |⟨none,i⟩::r,K,sf,st=>oneI P F m i (runI r K) sf st
 |⟨some (t,want),i⟩::r,K,sf,st=>fh t want (sf.reg t) (oneI P F m i (runI r K)) (skipI i.dst (runI r K)) sf st
end
section
variable (P:Program) (gOf:FuncId→Option Nat) (F:Nat→FuncId) (n:Nat) (heap mu:Nat→Bool)
def m9(p:Bool)(all:List Oper)(o:Oper):Option AI :=
 match o.op with
 | .call { callee := .value f, args, .. } => match opd gOf F n f, opds gOf F n args.toList with
   |some f,some args=>some (.call o.dst p f args)
   |_,_=>none
 | _ => match ld P gOf F n heap all o with
   |some (.call ..)=>none
   |some (.x ..)=>none
   |r=>r
def compC(p:Bool)(all:List Oper)(o:Oper):Option AI :=
 match compX P gOf F n mu o with
 |some i=>some (.x o.dst i)
 | none => match m9 P gOf F n heap p all o with
   |some i=>some i
   |none=>some (.x o.dst .bad)
def compG(p:Bool)(all:List Oper)(o:Oper):Option GI :=
 match compC P gOf F n heap mu p all o with
 |some i=>if i.dst=o.dst then
   (match o.guard with
   |none=>some ⟨none,i⟩
   | some (j, want) => match (all.toArray[j]?).bind (·.dst) with
     |some t=>if t<n then some ⟨some (t,want),i⟩else none
     |none=>none)
  else none
 |none=>none
def ku(p:Bool)(all:List Oper):List Oper→Option (List GI)
 | []=>some []
 | o :: r => match compG P gOf F n heap mu p all o, ku p all r with
   |some i,some l=>some (i::l)
   |_,_=>none
end
section
variable {P:Program} {gOf:FuncId→Option Nat} {F:Nat→FuncId} {n:Nat} {heap mu:Nat→Bool} {m:Bool} {E:Ent} {g:Gh} {w:World} {sf:Sf} {st:St} {a:Act} {p:Bool} {all:List Oper}
theorem kw(n:Nat)(sf:Sf)(t:Nat):sp n (sf.set t (sf.reg t))=sp n sf:=by
 unfold sp
 simp only[Sf.set]
 congr 1
 refine List.map_congr_left fun q _=>?_
 simp only[Sf.reg,iw]
 split
 ·rename_i e;subst e;rfl
 ·rfl
theorem oI{o:Oper}{i:AI}(hc:m9 P gOf F n heap p all o=some i):∀c,o.op≠.defer c:=by
 intro c h
 unfold m9 at hc
 rw[h]at hc
 simp only at hc
 have:ld P gOf F n heap all o=none:=by
  unfold ld
  rw[h]
  simp only
  cases o.dst<;>rfl
 rw[this]at hc
 cases hc
theorem oJ{o:Oper}{i:XI}(hc:compX P gOf F n mu o=some i):∀c,o.op≠.defer c:=by
 intro c h
 unfold compX at hc
 rw[h]at hc
 cases hc
theorem one_sound0{rd:Option Nat}{o:Oper}{i:AI}(hc:m9 P gOf F n heap p all o=some i)(h:Ok m E g w (sp n sf) st a){K:Sf→St→Prop}(hK:oneI P F m i K sf st){K':Act→World→Prop}{Q':Exit→Act→World→Prop}
  (hk:∀sf' st' g' w' u,Ok m E g' w' (sp n sf') st' (a.put o.dst u)→K sf' st'→K' (a.put o.dst u) w'):o.wpIn (FW rd) 0 P a w K' Q':=by
 have hstep:ld P gOf F n heap all o=some i→(cc F m i sf st).wp (ga K)→o.wp P a w K' Q':=by
  intro h1 h2
  have h3:=comp_ref h1 m sf st (fun q=>∃sf',q.1=sp n sf'∧K sf' q.2) (by
   rw[Res.wp_bind]
   exact Res.wp_mono h2 fun q hq=>⟨q.1,rfl,hq⟩)
  obtain⟨q,⟨sf',hq1,hq2⟩,u,g',w',hrun,hok⟩:=step_sound heap all h h3
  rw[hq1]at hok
  unfold Oper.wp
  rcases hrun with hr|⟨hu,hr⟩
  ·rw[hr];exact hk sf' q.2 g' w' u hok hq2
  ·rw[hr];rw[hu]at hok;exact hk sf' q.2 g' w' undef hok hq2
 have hnd:=oI hc
 unfold m9 at hc
 split at hc
 ·rename_i f args ts hop
  split at hc
  ·rename_i f' args' hf hargs
   cases hc
   simp only[oneI,ix]at hK
   split at hK
   ·rename_i q fs cs hfv
    obtain⟨hnl,hK⟩:=hK
    have hmap:=fo hargs sf
    have hca:fj (sp n sf) ⟨.value f,args,ts⟩=some (q,fs++(args'.map (sf.ev F)).map AV.dis++cs):=by
     unfold fj
     simp only[ap hf sf,hfv,hmap,hnl,if_true]
     congr 3
     rw[←hmap,List.map_map]
     rfl
    split at hK
    ·obtain⟨hent,v,hP,hK⟩:=hK
     exact ki hnd <|qf h hop hca hent hP fun u g' w' hok=>hk (sf.put o.dst v) st g' w' u (by rw[bV];exact hok) hK
    ·rename_i hpm
     have hm:m=false:=by cases m<;>simp_all
     subst hm
     obtain⟨hent,Q,hA,hK⟩:=hK
     exact ki hnd <|qe h hop hca hent hA fun v st' u g' w' hQ hok=>hk (sf.put o.dst v) st' g' w' u (by rw[bV];exact hok) (hK v st' hQ)
   ·rename_i id hfv
    obtain⟨hnl,hpm,Q,hA,hK⟩:=hK
    have hm:m=false:=by cases m<;>simp_all
    subst hm
    have hmap:=fo hargs sf
    refine oF h hop rfl (by rw[ap hf sf];exact hfv) (by rw[hmap];exact hnl) (Q:=Q) ?_ fun t st' g' w' hQ hok=>hk (sf.put o.dst _) st' g' w' _ (by rw[bV];exact hok) (hK t st' hQ)
    have:(args.toList.map fun y=>((sp n sf).ev y).dis)=(args'.map (sf.ev F)).map AV.dis:=by rw[←hmap,List.map_map];rfl
    rw[this];exact hA
   ·exact hK.elim
  ·cases hc
 ·rename_i hno
  split at hc
  ·cases hc
  ·cases hc
  ·rename_i hnc hnx
   refine ki hnd <|hstep hc ?_
   unfold oneI at hK
   split at hK
   ·rename_i d p' f' args'
    exact absurd hc (hnc _ _ _ _)
   ·exact absurd hc (hnx _ _)
   ·exact hK
theorem lg{rd:Option Nat}{o:Oper}{i:AI}(hc:compC P gOf F n heap mu p all o=some i)(h:Ok m E g w (sp n sf) st a){K:Sf→St→Prop}(hK:oneI P F m i K sf st){K':Act→World→Prop}{Q':Exit→Act→World→Prop}
  (hk:∀sf' st' g' w' u,Ok m E g' w' (sp n sf') st' (a.put o.dst u)→K sf' st'→K' (a.put o.dst u) w'):o.wpIn (FW rd) 0 P a w K' Q':=by
 unfold compC at hc
 split at hc
 ·rename_i xi hx
  cases hc
  exact ki (oJ hx) (x_sound hx h hK hk)
 ·split at hc
  ·rename_i i' hi
   cases hc
   exact one_sound0 hi h hK hk
  ·cases hc
   exact hK.elim
theorem cW{rd:Option Nat}:∀{l:List Oper} {gl:List GI} {sf:Sf} {st:St} {g:Gh} {w:World} {a:Act} {K:Sf→St→Prop} {Q:Exit→Act→World→Prop},ku P gOf F n heap mu p all l=some gl→Ok m E g w (sp n sf) st a→runI P F m gl K sf st →
  (∀sf st g w a,Ok m E g w (sp n sf) st a→K sf st→Q .normal a w)→wpListIn (FW rd) 0 P all.toArray Q l a w
 | [], gl, sf, st, g, w, a, K, Q, hc, h, hK, hq => by
   simp only[ku]at hc
   cases hc
   exact hq sf st g w a h hK
 | o :: r, gl, sf, st, g, w, a, K, Q, hc, h, hK, hq => by
   simp only[ku]at hc
   split at hc
   case h_2=>cases hc
   rename_i gi gr hgi hgr
   cases hc
   unfold compG at hgi
   split at hgi
   case h_2=>cases hgi
   rename_i i hi
   split at hgi
   case isFalse=>cases hgi
   rename_i hd
   unfold wpListIn
   split at hgi
   ·rename_i hg
    cases hgi
    simp only[runI]at hK
    rw[if_pos (by simp[Region.wanted,hg])]
    exact(lg hi h hK fun sf' st' g' w' u hok hk=>cW hgr hok hk hq)
   ·rename_i j want hg
    split at hgi
    case h_2=>cases hgi
    rename_i t ht
    split at hgi
    case isFalse=>cases hgi
    rename_i htn
    cases hgi
    simp only[runI,fh]at hK
    split at hK
    case h_4=>exact hK.elim
    case h_3 =>
     rename_i cs hb
     have hw:Region.wanted o (yielded all.toArray a.tmps)=false:=by
      refine jo (ops:=all.toArray) h ?_
      unfold aX
      rw[hg]
      simp only[ht,dj,if_pos htn,hb]
     rw[hw,if_neg (by simp)]
     refine⟨fun _ _=>trivial,cW (g:=g) (sf:=sf.put i.dst (.tup [])) hgr ?_ hK hq⟩
     rw[bV,hd]
     exact h.put o.dst (v:=.tup []) (R.undef _) fun _ _ i c x hc _=>Own.of_no (ak (v:=.tup []) (fun _ e=>by cases e) trivial i c hc)
    case h_2 =>
     obtain⟨hY,hN⟩:=hK
     cases hw:Region.wanted o (yielded all.toArray a.tmps)with
     | true =>
       rw[if_pos rfl]
       exact(lg hi h hY fun sf' st' g' w' u hok hk=>cW hgr hok hk hq)
     | false =>
       rw[if_neg (by simp)]
       refine⟨fun _ _=>trivial,cW (g:=g) (sf:=sf.put i.dst (.tup [])) hgr ?_ hN hq⟩
       rw[bV,hd]
       exact h.put o.dst (v:=.tup []) (R.undef _) fun _ _ i c x hc _=>Own.of_no (ak (v:=.tup []) (fun _ e=>by cases e) trivial i c hc)
    rename_i b hb
    have hw:Region.wanted o (yielded all.toArray a.tmps)=(b ==want):=by
     refine jo (ops:=all.toArray) h ?_
     unfold aX
     rw[hg]
     simp only[ht,dj,if_pos htn,hb]
    have hsame:sp n (sf.set t (.lit (.bool b)))=sp n sf:=by rw[←hb];exact kw n sf t
    have hK:=hK b rfl
    rw[hw]
    by_cases hbw:b=want
    ·rw[if_pos hbw]at hK
     rw[if_pos (by simp[hbw])]
     exact(lg hi (by rw[hsame];exact h) hK fun sf' st' g' w' u hok hk=>cW hgr hok hk hq)
    ·rw[if_neg hbw]at hK
     rw[if_neg (by simp[hbw])]
     refine⟨fun _ _=>trivial,cW (g:=g) (sf:=(sf.set t (.lit (.bool b))).put i.dst (.tup [])) hgr ?_ hK hq⟩
     rw[bV,hsame,hd]
     exact h.put o.dst (v:=.tup []) (R.undef _) fun _ _ i c x hc _=>Own.of_no (ak (v:=.tup []) (fun _ e=>by cases e) trivial i c hc)
end
end Go.Fx
namespace Go.Fx
open Go Go.RowKit Go.Lib
section
variable (P:Program) (F:Nat→FuncId) (locs0:List (Nat×List AV)) (st:St)
def iy(H:List PK→Sf→Prop)(ks:List PK)(k:PK)(sf:Sf):Prop:=H (ks++[k]) sf
def valH(C:PK→Sf→Prop)(d:Option Nat)(sf:Sf)(v:AV):Prop:=C (.val v) (sf.put d v)
def appH(C:PK→Sf→Prop)(d s:Nat)(sf:Sf)(v:AV):Prop:=C (.app s v) ((sf.disAt s).set d v)
def l5(H:List PK→Sf→Prop)(ks:List PK)(d:Option Nat)(sf:Sf):Prop:=H (ks++[.skip]) (sf.put d (.tup []))
def cC(t:Nat)(want:Bool)(v:AV)(Y N:Sf→Prop)(sf:Sf):Prop :=
 match v with
 | .lit (.bool b)=>∀c:Bool,b=c→if c=want then Y (sf.set t (.lit (.bool c)))else N (sf.set t (.lit (.bool c)))
 | .tup _=>N sf
 |_=>False
def eI(x:AV)(k s:Nat)(C:PK→Sf→Prop)(sf:Sf):Option (List AV)→Prop
 |some cs0=>cs0.length=k∧x.dis.solid=true∧x.dis.cells.length=k∧C (.store s x.dis.cells) sf
 |none=>False
def fK(x:AV)(k s off:Nat)(C:PK→Sf→Prop)(sf:Sf):Option (List AV)→Prop
 |some cs0=>off+k≤cs0.length∧x.dis.solid=true∧x.dis.cells.length=k∧C (.store s (ca (cs0.map AV.own1) off x.dis.cells)) sf
 |none=>False
def ql(st:St)(d s k bytes:Nat)(y:AV)(C:PK→Sf→Prop)(sf:Sf)(v:AV):Prop :=
 match v with
 | .sl true k' es=>(ce st k bytes (.sl true k' es) y).wp (appH C d s sf)
 |x=>(bd st k bytes x y).wp (valH C (some d) sf)
def iz(d:Option Nat)(f:AV)(args:List AV)(C:PK→Sf→Prop)(sf:Sf):Prop :=
 match f with
 | .fn (.func q) fs cs=>args.all AV.noL=true∧CallP P q (fs++args.map AV.dis++cs) st (valH C d sf)
 |_=>False
def ky(x:AV)(k:Nat)(C:PK→Sf→Prop)(sf:Sf):Opd→Prop
 | .r s=>x.dis.solid=true∧x.dis.cells.length=k∧C (.nst s x.dis.cells) sf
 |_=>False
def dU(a:Opd)(v x:AV)(k:Nat)(C:PK→Sf→Prop)(sf:Sf):Prop :=
 match v with
 | .lptr s 0=>eI x k s C sf (look s locs0)
 | .any=>ky x k C sf a
 | .lptr s (o+1)=>fK x k s (o+1) C sf (look s locs0)
 |_=>False
def bk(i:AI)(C:PK→Sf→Prop)(sf:Sf):Prop :=
 match i with
 | .call d _ f args=>iz P st d (sf.ev F f) (args.map (sf.ev F)) C sf
 | .newL s cs=>C (.new s cs) (sf.set s .any)
 | .store k a x=>dU locs0 a (sf.ev F a) (sf.ev F x) k C sf
 | .appS d s k bytes y=>ql st d s k bytes (sf.ev F y) C sf (sf.reg s)
 |i=>(popI F i sf st).wp (valH C i.dst sf)
def aG:List GI→(List PK→Sf→Prop)→List PK→Sf→Prop
 | [],K,ks,sf=>K ks sf
 |⟨none,i⟩::r,K,ks,sf=>bk P F locs0 st i (iy (aG r K) ks) sf
 |⟨some (t,want),i⟩::r,K,ks,sf=>cC t want (sf.reg t) (bk P F locs0 st i (iy (aG r K) ks)) (l5 (aG r K) ks i.dst) sf
end
def cH(drop:List Nat):List (Nat×List AV)→List (Nat×List AV)
 | []=>[]
 |(s,cs)::r=>if drop.contains s then cH drop r else(s,cs)::cH drop r
def aL:List PK→List Nat
 | []=>[]
 | .store s _::r=>s::aL r
 |_::r=>aL r
def bh:List PK→List Nat
 | []=>[]
 | .new s _::r=>s::bh r
 |_::r=>bh r
def bz:List PK→List Nat
 | []=>[]
 | .app t _::r=>t::bz r
 |_::r=>bz r
def aO:List Nat→Bool
 | []=>true
 |x::r=>!r.contains x && aO r
def nstB:List (Nat×Nat)→List PK→Bool
 |_,[]=>true
 |seen,.new s cs::r=>nstB ((s,cs.length)::seen) r
 |seen,.nst s cs::r=>seen.contains (s,cs.length) && nstB seen r
 |seen,_::r=>nstB seen r
def bA:List PK→List Nat
 | []=>[]
 | .nst s _::r=>s::bA r
 |_::r=>bA r
def ksB(drop:List Nat)(ks:List PK):Bool :=
 aO (bh ks) && aO (bA ks) && nstB [] ks && aO (aL ks) && aO (bz ks) && (aL ks).all (fun s=>drop.contains s && !(bh ks).contains s) && (bh ks).all (fun s=>drop.contains s)
def bU:List PK→Sf→Sf
 | [],sf=>sf
 | .store s cs::r,sf=>bU r (sf.setLoc s cs)
 |_::r,sf=>bU r sf
def bK(all:List PK):List PK→Sf→Sf
 | [],sf=>sf
 | .new s cs::r,sf=>bK all r (sf.newLoc s ((cb s all).getD cs))
 |_::r,sf=>bK all r sf
section
variable (P:Program) (gOf:FuncId→Option Nat) (F:Nat→FuncId) (n:Nat) (heap:Nat→Bool)
def lh(o:Oper):Option AI :=
 match o.op,o.dst with
 | .call { callee := .value f, args, .. }, d => match opd gOf F n f, opds gOf F n args.toList with
   |some f,some args=>some (.call d true f args)
   |_,_=>none
 | .alloc t,some s=>if heap s=true then(eD P t).map fun z=>.newB s z.cells else(eD P t).map fun z=>.newL s z.cells
 | .box t x, some s => if heap s = true then (match opd gOf F n x, szT P t with
   |some x,some k=>some (.boxB s k x)
   |_,_=>none)else none
 | .store t a x, none => match opd gOf F n a, opd gOf F n x, szT P t with
   |some a,some x,some k=>some (.store k a x)
   |_,_,_=>none
 | .call { callee := .builtin .append, args, argTypes }, some sd => match args.toList, argTypes.toList with
   | [.tmp sx, y], [t, t2] => if sx ≠ sd ∧ sx < n then (match appK P t t2, opd gOf F n y with
     |some k,some y=>some (.appS sd sx k.1 k.2 y)
     |_,_=>none)else none
   |_,_=>popC P gOf F n (some sd) o.op
 |op,d=>popC P gOf F n d op
def na(o:Oper):Option AI :=
 match lh P gOf F n heap o with
 |some i=>some i
 |none=>some (.x o.dst .bad)
def li(all:List Oper)(o:Oper):Option GI :=
 match na P gOf F n heap o with
 |some i=>if i.dst=o.dst then
   (match o.guard with
   |none=>some ⟨none,i⟩
   | some (j, want) => match (all.toArray[j]?).bind (·.dst) with
     |some t=>if t<n then some ⟨some (t,want),i⟩else none
     |none=>none)
  else none
 |none=>none
def dl(all:List Oper):List Oper→Option (List GI)
 | []=>some []
 | o :: r => match li P gOf F n heap all o, dl all r with
   |some i,some l=>some (i::l)
   |_,_=>none
end
theorem qm{A:Type}{r:Res A}{K:A→Prop}(h:r.wp K):∃a,r.opt=some a∧K a:=by
 induction r with
 |ok a=>exact⟨a,rfl,h⟩
 |fail=>exact h.elim
 | req b r ih =>
   obtain⟨hb,h⟩:=h
   obtain⟨a,ha,hk⟩:=ih h
   exact⟨a,by simp[Res.opt,hb,ha],hk⟩
section
variable {P:Program} {gOf:FuncId→Option Nat} {F:Nat→FuncId} {n:Nat} {heap:Nat→Bool} {st:St} {locs0:List (Nat×List AV)} {all:List Oper} {ops:Array Oper}
theorem pop_dst{d:Option Nat}{op:Op}{i:AI}(h:popC P gOf F n d op=some i):i.dst=d∧(∀(sf:Sf) (C:PK→Sf→Prop),bk P F locs0 st i C sf→(popI F i sf st).wp fun v=>C (.val v) (sf.put i.dst v)):=by
 unfold popC at h
 repeat' (split at h)
 all_goals first
  |(cases h;done)
  |(cases h;exact⟨rfl,fun _ _ h=>h⟩)
  |(obtain⟨_,_,rfl⟩:=map_some h;exact⟨rfl,fun _ _ h=>h⟩)
theorem head_one0{o:Oper}{i:AI}(hc:lh P gOf F n heap o=some i){sf:Sf}(hg:aX ops (sp n sf) o=some (.lit (.bool true))){C:PK→Sf→Prop}(h:bk P F locs0 st i C sf) :
  ∃k sf',C k sf'∧k.real=true∧PStep P ops st (fun s=>s=st) locs0 o (sp n sf) k (sp n sf'):=by
 have hpop:popC P gOf F n o.dst o.op=some i→∃k sf',C k sf'∧k.real=true∧PStep P ops st (fun s=>s=st) locs0 o (sp n sf) k (sp n sf'):=by
  intro hp
  obtain⟨hd,hh⟩:=pop_dst (st:=st) (locs0:=locs0) hp
  obtain⟨v,hv,hC⟩:=qm (fJ hp sf st _ (hh sf C h))
  refine⟨_,_,hC,rfl,?_⟩
  rw[bV,hd]
  exact .val v hg fun s e=>by rw[e];exact hv
 obtain⟨dst,op,ty,pos,after,gd⟩:=o
 unfold lh at hc
 simp only at hc hpop
 split at hc
 ·rename_i f args ts
  split at hc
  ·rename_i f' args' hf hargs
   cases hc
   simp only[bk,iz]at h
   split at h
   ·rename_i q fs cs hfv
    obtain⟨hnl,hent,v,hP,hC⟩:=h
    have hmap:=fo hargs sf
    refine⟨_,_,hC,rfl,?_⟩
    rw[bV]
    refine .call v ⟨.value f,args,ts⟩ q (fs++(args'.map (sf.ev F)).map AV.dis++cs) hg rfl ?_ hent (fun s e=>by rw[e];exact hP)
    unfold fj
    simp only[ap hf sf,hfv,hmap,hnl,if_true]
    congr 3
    rw[←hmap,List.map_map]
    rfl
   ·exact h.elim
  ·cases hc
 ·rename_i t s
  split at hc
  ·obtain⟨z,hz,rfl⟩:=map_some hc
   exact False.elim h
  ·obtain⟨z,hz,rfl⟩:=map_some hc
   simp only[bk]at h
   refine⟨_,_,h,rfl,?_⟩
   rw[dF]
   exact .new t s z hg rfl rfl hz
 ·split at hc
  ·split at hc
   ·cases hc;exact False.elim h
   ·cases hc
  ·cases hc
 ·rename_i t a x
  split at hc
  ·rename_i a' x' k ha hx hk
   cases hc
   simp only[bk,dU]at h
   split at h
   ·rename_i s hav
    unfold eI at h
    split at h
    ·rename_i cs0 hl
     obtain⟨h1,h2,h3,hC⟩:=h
     refine⟨_,_,hC,rfl,?_⟩
     rw[←ap hx sf]at h2 h3 ⊢
     exact .store t a x s cs0 hg rfl rfl (by rw[ap ha sf];exact hav) hl (by rw[h1,h3]) h2 (by rw[hk,h3])
    ·exact h.elim
   ·rename_i hav
    unfold ky at h
    split at h
    ·rename_i a' s
     obtain⟨h2,h3,hC⟩:=h
     have ha2:a= .tmp s:=by
      cases a with
      |tmp t=>simp only[opd]at ha;split at ha<;>cases ha;rfl
      | _ =>
        simp only[opd]at ha;repeat' (split at ha)
        all_goals cases ha
     refine⟨_,_,hC,rfl,?_⟩
     rw[←ap hx sf]at h2 h3 ⊢
     subst ha2
     exact .nst t x s hg rfl rfl h2 (by rw[hk,h3])
    ·exact h.elim
   ·rename_i s off hav
    unfold fK at h
    split at h
    ·rename_i cs0 hl
     obtain⟨h1,h2,h3,hC⟩:=h
     refine⟨_,_,hC,rfl,?_⟩
     rw[←ap hx sf]at h2 h3 ⊢
     exact .storeA t a x s (off+1) cs0 hg rfl rfl (by rw[ap ha sf];exact hav) hl (by rw[h3];exact h1) h2 (by rw[hk,h3])
    ·exact h.elim
   ·exact h.elim
  ·cases hc
 ·rename_i args ts sd
  split at hc
  ·rename_i sx y t t2 hargs hts
   have ha':args= #[.tmp sx,y]:=by apply Array.ext';simpa using hargs
   have ht':ts= #[t,t2]:=by apply Array.ext';simpa using hts
   subst ha';subst ht'
   split at hc
   ·rename_i hcc
    split at hc
    ·rename_i k y' hk hy
     have hck:=hc
     cases hc
     simp only[bk,ql]at h
     split at h
     ·rename_i k' es hreg
      obtain⟨v,hv,hC⟩:=qm (mY (P:=P) hk st _ _ _ h)
      refine⟨_,_,hC,rfl,?_⟩
      rw[dF,jH hcc.2]
      exact .app t t2 sx sd k' y es v hg rfl rfl hcc.1 (by rw[dk hcc.2];exact hreg) (fun s e=>by rw[e,ap hy sf];exact hv)
     ·rename_i v hreg
      have hsx:opd gOf F n (.tmp sx)=some (.r sx):=by simp only[opd,hcc.2,if_true]
      have hp:popC P gOf F n (some sd) (.call {callee:=.builtin .append,args:=#[.tmp sx,y],argTypes:=#[t,t2]})=some (.app (some sd) k.1 k.2 (.r sx) y'):=by
       simp only[popC,hsx,hk,hy]
      obtain⟨v,hv,hC⟩:=qm (fJ hp sf st _ (show(popI F (.app (some sd) k.1 k.2 (.r sx) y') sf st).wp _ from h))
      refine⟨_,_,hC,rfl,?_⟩
      rw[bV]
      exact .val v hg fun s e=>by rw[e];exact hv
    ·cases hc
   ·cases hc
  ·exact hpop hc
 ·exact hpop hc
theorem head_one{o:Oper}{i:AI}(hc:na P gOf F n heap o=some i){sf:Sf}(hg:aX ops (sp n sf) o=some (.lit (.bool true))){C:PK→Sf→Prop}(h:bk P F locs0 st i C sf) :
  ∃k sf',C k sf'∧k.real=true∧PStep P ops st (fun s=>s=st) locs0 o (sp n sf) k (sp n sf'):=by
 unfold na at hc
 split at hc
 ·rename_i i' hi
  cases hc
  exact head_one0 hi hg h
 ·cases hc
  exact h.elim
theorem iA:∀{l:List Oper} {gl:List GI} {sf:Sf} {acc:List PK} {K:List PK→Sf→Prop},dl P gOf F n heap all l=some gl→aG P F locs0 st gl K acc sf →
  ∃ks sf',PRun P all.toArray st (fun _ s=>s=st) locs0 l (sp n sf) ks (sp n sf')∧(∀k∈ks,k.real=true)∧K (acc++ks) sf'
 | [], gl, sf, acc, K, hc, h => by
   simp only[dl]at hc
   cases hc
   exact⟨[],sf,.nil _,by simp,by simpa [aG]using h⟩
 | o :: r, gl, sf, acc, K, hc, h => by
   simp only[dl]at hc
   split at hc
   case h_2=>cases hc
   rename_i gi gr hgi hgr
   cases hc
   unfold li at hgi
   split at hgi
   case h_2=>cases hgi
   rename_i i hi
   split at hgi
   case isFalse=>cases hgi
   rename_i hd
   split at hgi
   ·rename_i hg
    cases hgi
    simp only[aG]at h
    obtain⟨k,sf',hC,hre,hps⟩:=head_one (ops:=all.toArray) hi (by simp[aX,hg]) h
    obtain⟨ks,sf2,hr,hre2,hK⟩:=iA hgr hC
    exact⟨k::ks,sf2,.cons hps hr,by simp only[List.mem_cons,forall_eq_or_imp];exact⟨hre,hre2⟩,by simpa using hK⟩
   ·rename_i j want hg
    split at hgi
    case h_2=>cases hgi
    rename_i t ht
    split at hgi
    case isFalse=>cases hgi
    rename_i htn
    cases hgi
    simp only[aG,cC]at h
    split at h
    case h_3=>exact h.elim
    case h_2 =>
     rename_i cs hb
     have hga:aX all.toArray (sp n sf) o=some (.lit (.bool false)):=by
      unfold aX
      rw[hg]
      simp only[ht,dj,if_pos htn,hb]
     obtain⟨ks,sf2,hr,hre2,hK⟩:=iA hgr h
     rw[bV,hd]at hr
     exact⟨.skip::ks,sf2,.cons (.skip hga) hr,by simp only[List.mem_cons,forall_eq_or_imp];exact⟨rfl,hre2⟩,by simpa using hK⟩
    rename_i b hb
    have hga:aX all.toArray (sp n sf) o=some (.lit (.bool (b ==want))):=by
     unfold aX
     rw[hg]
     simp only[ht,dj,if_pos htn,hb]
    have hsame:sp n (sf.set t (.lit (.bool b)))=sp n sf:=by rw[←hb];exact kw n sf t
    have h:=h b rfl
    by_cases hbw:b=want
    ·rw[if_pos hbw]at h
     obtain⟨k,sf',hC,hre,hps⟩:=head_one (ops:=all.toArray) hi (by rw[hsame,hga];simp[hbw]) h
     rw[hsame]at hps
     obtain⟨ks,sf2,hr,hre2,hK⟩:=iA hgr hC
     exact⟨k::ks,sf2,.cons hps hr,by simp only[List.mem_cons,forall_eq_or_imp];exact⟨hre,hre2⟩,by simpa using hK⟩
    ·rw[if_neg hbw]at h
     obtain⟨ks,sf2,hr,hre2,hK⟩:=iA hgr h
     rw[bV,hsame,hd]at hr
     exact⟨.skip::ks,sf2,.cons (.skip (by rw[hga];simp[hbw])) hr,by simp only[List.mem_cons,forall_eq_or_imp];exact⟨rfl,hre2⟩,by simpa using hK⟩
end
end Go.Fx
namespace Go.Fx
open Go Go.RowKit Go.Lib
inductive PRunA (P:Program) (ops:Array Oper) (st:St) (SS:St→Prop) (locs0:List (Nat×List AV)) (X:Oper→Fr→PK→Prop):List Oper→Fr→List PK→Fr→Prop
 |nil (fr:Fr):PRunA P ops st SS locs0 X [] fr [] fr
 |cons {o:Oper} {l:List Oper} {fr fr1 fr2:Fr} {k:PK} {ks:List PK} (h:PStep P ops st SS locs0 o fr k fr1) (hx:X o fr k) (r:PRunA P ops st SS locs0 X l fr1 ks fr2):PRunA P ops st SS locs0 X (o::l) fr (k::ks) fr2
section
variable {P:Program} {ops:Array Oper} {st:St} {SS:St→Prop} {locs0:List (Nat×List AV)} {X:Oper→Fr→PK→Prop} {l l':List Oper} {ks ks':List PK} {i:Nat} {fr0 fr fr1:Fr} {o:Oper} {v:AV} {kk:PK}
theorem PRunA.at(hr:PRunA P ops st SS locs0 X l' fr ks' fr1):∀(pre:List Oper) (kpre:List PK),pre.length=kpre.length→l=pre++l'→ks=kpre++ks'→Tr l ks pre.length fr0 fr →
  (∀(a b t:Nat) (v v':AV),ks[a]?=some (PK.app t v)→ks[b]?=some (PK.app t v')→a=b) →
  (∀(j k:Nat) (t:Nat) (v:AV) (o:Oper),ks[j]?=some (PK.app t v)→l[k]?=some o→o.dst=some t→k<j) →
  ∀i o,l'[i]?=some o→∃kk fri fri',ks[pre.length+i]?=some kk∧PStep P ops st SS locs0 o fri kk fri'∧X o fri kk∧Tr l ks (pre.length+i) fr0 fri:=by
 induction hr with
 |nil fr=>intro pre kpre _ _ _ ht _ _ i o h;simp at h
 | cons h hx r ih =>
   rename_i o lr fra frb frc kk ksr
   intro pre kpre hlen hl hks ht hu hc i o' hi
   have ho:l[pre.length]?=some o:=by rw[hl];simp
   have hk:ks[pre.length]?=some kk:=by rw[hks,hlen];simp
   have ht':=h.tr ht ho hk hu hc
   have h2:=ih (pre++[o]) (kpre++[kk]) (by simp[hlen]) (by simp[hl]) (by simp[hks]) (by simpa using ht') hu hc
   cases i with
   | zero =>
     simp at hi
     subst hi
     exact⟨kk,fra,frb,by simpa using hk,h,hx,by simpa using ht⟩
   | succ i =>
     simp at hi
     obtain⟨k',fri,fri',a1,a2,a2x,a3⟩:=h2 i o' hi
     simp only[List.length_append,List.length_cons,List.length_nil]at a1 a3
     rw[show pre.length+(0+1)+i=pre.length+(i+1) by omega]at a1 a3
     exact⟨k',fri,fri',a1,a2,a2x,a3⟩
end
section
variable {P:Program} {m:Bool} {E:Ent} {g:Gh} {w:World} {fr:Fr} {st ρ:St} {SS:St→Prop} {a:Act} {l:List Oper} {n:Nat} {ks:List PK} {fr0 frn:Fr}
end
def mkN:PK→Nat
 | .mk _ _=>1
 |_=>0
def phK(ks:List PK)(i:Nat):Nat:=((ks.take i).map mkN).sum
theorem iB{ks:List PK}{i:Nat}{k:PK}(h:ks[i]?=some k):phK ks (i+1)=phK ks i+mkN k:=by
 obtain⟨hi,he⟩:=List.getElem?_eq_some_iff.1 h
 unfold phK
 rw[List.take_succ_eq_append_getElem hi,he]
 simp
theorem phK_mono{ks:List PK}{i j:Nat}(h:i≤j):phK ks i≤phK ks j:=by
 induction j with
 | zero =>
   have:i=0:=by omega
   subst this;exact Nat.le_refl _
 | succ j ih =>
   by_cases e:i=j+1
   ·subst e;exact Nat.le_refl _
   ·have:=ih (by omega)
    cases hk:ks[j]? with
    | none =>
      have hl:=List.getElem?_eq_none_iff.1 hk
      unfold phK at *
      rw[List.take_of_length_le (i:=j+1) (by omega)]
      rw[List.take_of_length_le (i:=j) hl]at this
      exact this
    |some k=>rw[iB hk];omega
theorem phK_lt{ks:List PK}{i j:Nat}{v:AV}{s:St}(h:ks[i]?=some (.mk v s))(hij:i<j):phK ks i<phK ks j:=by
 have h1:=iB h
 have h2:=phK_mono (ks:=ks) (show i+1≤j by omega)
 simp only[mkN]at h1
 omega
theorem kz{ks:List PK}:∀{i:Nat},0<phK ks i→∃i' v s,i'<i∧ks[i']?=some (.mk v s)∧phK ks i'+1=phK ks i
 |0,h=>by simp[phK]at h
 | i + 1, h => by
   cases hk:ks[i]? with
   | none =>
     have hl:=List.getElem?_eq_none_iff.1 hk
     have e:phK ks (i+1)=phK ks i:=by
      unfold phK
      rw[List.take_of_length_le (i:=i+1) (by omega),List.take_of_length_le (i:=i) hl]
     rw[e]at h
     obtain⟨i',v,s,h1,h2,h3⟩:=kz h
     exact⟨i',v,s,by omega,h2,by omega⟩
   | some k =>
     have e:=iB hk
     cases k with
     |mk v s=>exact⟨i,v,s,by omega,hk,by rw[e];rfl⟩
     | _ =>
       simp only[mkN,Nat.add_zero]at e
       rw[e]at h
       obtain⟨i',v,s,h1,h2,h3⟩:=kz h
       exact⟨i',v,s,by omega,h2,by omega⟩
inductive PRunB (P:Program) (ops:Array Oper) (st:St) (SS:St→Prop) (locs0:List (Nat×List AV)) (X:Nat→Oper→Fr→PK→Prop):Nat→List Oper→Fr→List PK→Fr→Prop
 |nil (j:Nat) (fr:Fr):PRunB P ops st SS locs0 X j [] fr [] fr
 |cons {j:Nat} {o:Oper} {l:List Oper} {fr fr1 fr2:Fr} {k:PK} {ks:List PK} (h:PStep P ops st SS locs0 o fr k fr1) (hx:X j o fr k) (r:PRunB P ops st SS locs0 X (j+mkN k) l fr1 ks fr2):PRunB P ops st SS locs0 X j (o::l) fr (k::ks) fr2
section
variable {P:Program} {ops:Array Oper} {st:St} {SS:St→Prop} {locs0:List (Nat×List AV)} {X:Nat→Oper→Fr→PK→Prop} {l l':List Oper} {ks ks':List PK} {j:Nat} {fr0 fr fr1:Fr} {o:Oper} {v:AV} {kk:PK}
theorem PRunB.run(h:PRunB P ops st SS locs0 X j l fr ks fr1):PRun P ops st (fun _=>SS) locs0 l fr ks fr1:=by
 induction h with
 |nil j fr=>exact .nil fr
 |cons h _ _ ih=>exact .cons h ih
theorem PRunB.at(hr:PRunB P ops st SS locs0 X j l' fr ks' fr1):∀(pre:List Oper) (kpre:List PK),pre.length=kpre.length→l=pre++l'→ks=kpre++ks'→j=phK ks pre.length→Tr l ks pre.length fr0 fr →
  (∀(a b t:Nat) (v v':AV),ks[a]?=some (PK.app t v)→ks[b]?=some (PK.app t v')→a=b) →
  (∀(j k:Nat) (t:Nat) (v:AV) (o:Oper),ks[j]?=some (PK.app t v)→l[k]?=some o→o.dst=some t→k<j) →
  ∀i o,l'[i]?=some o→∃kk fri fri',ks[pre.length+i]?=some kk∧PStep P ops st SS locs0 o fri kk fri'∧X (phK ks (pre.length+i)) o fri kk∧Tr l ks (pre.length+i) fr0 fri:=by
 induction hr with
 |nil j fr=>intro pre kpre _ _ _ _ ht _ _ i o h;simp at h
 | cons h hx r ih =>
   rename_i jj o lr fra frb frc kk ksr
   intro pre kpre hlen hl hks hj ht hu hc i o' hi
   have ho:l[pre.length]?=some o:=by rw[hl];simp
   have hk:ks[pre.length]?=some kk:=by rw[hks,hlen];simp
   have ht':=h.tr ht ho hk hu hc
   have h2:=ih (pre++[o]) (kpre++[kk]) (by simp[hlen]) (by simp[hl]) (by simp[hks]) (by rw[hj,List.length_append,List.length_singleton,iB hk]) (by simpa using ht') hu hc
   cases i with
   | zero =>
     simp at hi
     subst hi
     rw[hj]at hx
     exact⟨kk,fra,frb,by simpa using hk,h,by simpa using hx,by simpa using ht⟩
   | succ i =>
     simp at hi
     obtain⟨k',fri,fri',a1,a2,a2x,a3⟩:=h2 i o' hi
     simp only[List.length_append,List.length_cons,List.length_nil]at a1 a2x a3
     rw[show pre.length+(0+1)+i=pre.length+(i+1) by omega]at a1 a2x a3
     exact⟨k',fri,fri',a1,a2,a2x,a3⟩
end
section
variable {P:Program} {m:Bool} {E:Ent} {g:Gh} {w:World} {fr:Fr} {st ρ:St} {SS:Nat→St→Prop} {a:Act} {l:List Oper} {n:Nat} {ks:List PK} {fr0 frn:Fr}
def BoxK(SS:Nat→St→Prop)(ks:List PK)(q:GF)(w:World):Prop:=∃s j,SS j s∧BoxR q.1 w s∧j≤phK ks ks.length∧∀i v σ,ks[i]?=some (.mk v σ)→(q.2 i=true↔phK ks i<j)
def LeK(E:Ent)(SS:Nat→St→Prop)(ks:List PK)(q:GF)(w:World)(q':GF)(w':World):Prop:=LeD E.d E.N ks q w q' w'∧(BoxK SS ks q w→BoxK SS ks q' w')
theorem mk_sound{P:Program}{s0:St}{g1:Gh}{w1 w2:World}{cs:List AV}{us:Array Value}{T:TypeId}(d:Nat)(hg:Good g1 w1)(hb:BoxR g1 w1 s0)(hw:Nw w1 (.cells us T (0,0)) w2)(hr:RL g1 cs us.toList)
  (hn:∀(i:Nat) (c:AV),cs[i]?=some c→c.noOwn) (h1c:∀x∈us,x.oneCell'=true) :
  ∃g2,Mv false 0 (d+2) g1 w1 g2 w2∧BoxR g2 w2 (s0.push (.cells cs))∧R g2 (.ptr s0.boxes.length 0) (.pointer (some ⟨w1.heap.size,0,none⟩)):=by
 have hok:Ok false ⟨d+2,0,g1,w1,s0,0⟩ g1 w1 (⟨[],[]⟩:Fr) s0 {tmps:=#[],defers:=[]}:=by
  refine⟨rfl,fun s v u hv hu=>by simp at hv,⟨hg,fun s cs h=>by simp[look]at h,hb⟩,DefsR.nil _,Mv.refl hg,(fun e=>by cases e),Nat.zero_le _,fun _=>rfl⟩
 have h2:=hok.newB 0 hw hr (fun i c x hc _=>Own.of_no (hn i c hc)) h1c
 exact⟨_,h2.mv,h2.ctx.box,R.ptr _ _ _ (by simp[Gh.newB])⟩
def GkJ(P:Program)(SS:Nat→St→Prop)(j:Nat)(o:Oper)(fr:Fr)(k:PK):Prop :=
 ∀v s,k= .mk v s→(∃c f vs,o.op= .call c∧fj fr c=some (f,vs)∧cr P f=true∧∀s,SS j s→aF P f vs s (fun v' s'=>v'=v∧SS (j+1) s')) ∨
  (∃t x,o.op= .box t x∧(fr.ev x).dis.solid=true∧∀s,SS j s→v= .ptr s.boxes.length 0∧SS (j+1) (s.push (.cells (fr.ev x).dis.cells))) ∨
  (∃t z,o.op= .alloc t∧(fB P t).opt=some z∧∀s,SS j s→v= .ptr s.boxes.length 0∧SS (j+1) (s.push (.cells z.cells)))
theorem head_soundK{rd:Option Nat}{Q:Exit→Act→World→Prop}(hmf:m=false)(hstrict:dirB l.toArray n=true)(H:Head P m E g w fr st ρ (fun _ s=>∃j,SS j s) a l n n ks fr0 frn)
  (hat:∀i o,(l.take n)[i]?=some o→∃kk fri fri',ks[i]?=some kk∧PStep P l.toArray ρ (fun s=>∃j,SS j s) fr.locs o fri kk fri'∧GkJ P SS (phK ks i) o fri kk∧Tr (l.take n) ks i fr0 fri)
  (hSS:SS 0 st) (hln:ks.length=n) (hord:∀i i' v σ v' σ',ks[i]?=some (PK.mk v σ)→ks[i']?=some (PK.mk v' σ')→i<i'→cg l.toArray n i' i=true) (hks:∀(i:Nat) (k:PK),ks[i]?=some k→k.real=true∨∃v,k= .mk v st)
  (hfin:∀s g' w' a',SS (phK ks n) s→Ok m E g' w' (Fx.finN ks ks (Fx.finS ks frn)) s a'→wpListIn (FW rd) 0 P l.toArray Q (l.drop n) a' w'):fg rd P Q l.toArray a w:=by
 have hgood0:=H.ok.ctx.good
 have hN0:E.N=0:=H.ok.hm hmf
 have hbx0:BoxK SS ks (g,fun _=>false) w:=⟨st,0,hSS,H.ok.ctx.box,Nat.zero_le _,fun i v σ _=>by simp⟩
 refine gj (n:=n) (Le:=LeK E SS ks) (g0:=(g,fun _=>false)) (F:=FH E l ks) (U:=UH) (a0:=a) (fun k v q w1 q' w2 h1 h2 hF=>?_) (fun _ _ _ _ _ _ h k=>⟨h.1.trans k.1,fun hb=>k.2 (h.2 hb)⟩) ⟨(k7 (st:=st) g w).1,fun hb=>?_⟩ (lt:=false) (f9 hstrict false) (fun k o d hk ho hd=>?_) (fun _ _=>rfl) (fun i o hi ho a' q w' hle hs hU hW hwt=>?_) (fun a' q w' hle hF=>?_)
 ·unfold FH at hF ⊢
  split
  ·rename_i kk hkk
   rw[hkk]at hF
   exact hF.stable hkk H.ks h2.1 (h1.1.good hgood0)
  ·trivial
 ·obtain⟨s,j,b1,⟨k1,k2,k3⟩,b2,b3⟩:=hb
  exact⟨s,j,b1,⟨k1,k2,k3⟩,b2,b3⟩
 ·rw[H.ok.size]
  exact H.dst o (List.mem_of_getElem? (H.take hk ho)) d hd
 ·obtain⟨sq,j,s1,hbox,s2,s3⟩:=hle.2 hbx0
  obtain⟨kk,fri,fri',hkk,hps,hgx,htr⟩:=hat i o (H.take hi ho)
  rcases hks i kk hkk with hre|⟨v,rfl⟩
  ·obtain⟨h1,h2⟩:=H.stepN i o hi ho a' q w' hle.1 ⟨sq,⟨j,s1⟩,hbox⟩ hs hU hW (fun k hk=>by rw[hkk]at hk;cases hk;exact hre)
   refine⟨fun e=>fH (fun z=>z) (h1 e) fun u q' w2 k1 k2=>⟨⟨⟨k1.1.1,fun hb=>?_⟩,k1.2⟩,k2⟩,h2⟩
   obtain⟨s,j,b1,b2,b3,b4⟩:=hb
   exact⟨s,j,b1,b2.leD k1.1.1 k1.1.2.2 k1.1.2.1,b3,fun i v σ hi=>by rw[←k1.1.2.2 i v σ hi];exact b4 i v σ hi⟩
  ·have hgv:=hgx v st rfl
   have hfl:q.2 i=false:=hU
   have hin:i<n:=hi
   have hj:j=phK ks i:=by
    have h1:¬phK ks i<j:=fun h=>by
     have:=(s3 i v st hkk).2 h
     rw[hfl]at this;cases this
    by_cases h0:0<phK ks i
    ·obtain⟨i',v',σ',p1,p2,p3⟩:=kz h0
     have hl':i'<l.length:=by
      have hd:=H.dir
      unfold dirL at hd
      simp only[Bool.and_eq_true,decide_eq_true_eq]at hd
      have:=hd.1.1.1.1
      simp at this
      omega
     obtain⟨u,hu⟩:=hwt i' l[i'] (by omega) (by simp[hl']) (hord i' i v' σ' v st p2 hkk p1)
     unfold FH at hu
     rw[p2]at hu
     have:=(s3 i' v' σ' p2).1 hu.1
     omega
    ·omega
   subst hj
   have hgq:=hle.1.good hgood0
   have hslot:=fun d (hd:d∈o.looksAt l.toArray)=>H.slot hi ho htr hle.1 hs hd
   have hsz:a'.tmps.size=fri.slots.length:=by rw[hs.2.1,H.ok.size,htr.len,H.slots]
   have hev:∀x∈o.op.operands,RS q.1 E.d (fri.ev x) (a'.eval x):=by
    intro x hx
    cases x with
    |tmp t=>exact(hslot t (eh hx)).1
    | const v =>
      simp only[Fr.ev,Act.eval]
      split
      ·rename_i hf;exact R.lit v hf
      ·exact R.any _
    |global q=>exact R.any _
    |func f=>exact R.fn _ [] [] #[] #[] rfl rfl (fun i x u h=>by simp at h) (fun i x u h=>by simp at h)
   have hg:aX l.toArray fri o=some (.lit (.bool true)):=by
    cases hps with
    |mk v s hg=>exact hg
   have hgw:Region.wanted o (yielded l.toArray a'.tmps)=true:=gQ (fun t ht=>(hslot t ht).1) hsz hg
   refine⟨fun _=>?_,fun e=>by rw[hgw]at e;cases e⟩
   have hafter:∀(u:Value) (st':St) (g2:Gh) (w2:World),Mv false 0 (E.d+2) q.1 w' g2 w2→BoxR g2 w2 st'→R g2 v u→(∀s,o.dst=some s→OwnV g2 w2 0 (Loc.slot E.d s) v u)→SS (phK ks i+1) st' →
     LeU n (LeK E SS ks) UH i q w' (g2,fun j=>if j=i then true else q.2 j) w2∧FH E l ks i u (g2,fun j=>if j=i then true else q.2 j) w2:=by
    intro u st' g2 w2 hmv hb2 hr hown g1
    have hil:=(List.getElem?_eq_some_iff.1 hkk).1
    have hLe:LeD E.d E.N ks q w' (g2,fun j=>if j=i then true else q.2 j) w2:=by
     refine⟨hmv.os,hmv.tape,hmv.output,hmv.size,hmv.base,hmv.bx,fun h=>?_,fun d' hd=>hmv.lb d' (by omega),fun k s cs _ _=>by show g2.lb (E.d+1) s=q.1.lb (E.d+1) s;rw[hmv.lb (E.d+1) (by omega)],hmv.imm,fun j hj=>?_,fun j hj=>if_neg ?_,fun b hb hT=>?_,hmv.low,fun b hb=>?_,fun _=>hmv.good,fun b s hb hc=>(hmv.outer b (.loc E.d s) hc (show E.d<E.d+2 by omega)).1⟩
     ·have:=h i _ _ hkk
      rw[hfl]at this
      simp at this
     ·simp only;split
      ·rfl
      ·exact hj
     ·omega
     ·have hcontra:¬Tch E.d ks i (q.1.cls b):=fun ht=>by
       have:=hT i ht
       rw[hfl]at this
       simp at this
      have htt:Tch E.d ks i (q.1.cls b)= ∀c',q.1.cls b=some c'→¬f0 (E.d+1) c':=by
       simp only[Tch,hkk]
      rw[htt]at hcontra
      simp only[Classical.not_forall,Classical.not_not]at hcontra
      obtain⟨c',hc,ho⟩:=hcontra
      obtain⟨k1,k2,k3⟩:=hmv.outer b c' hc (ho.mono (Nat.le_succ _))
      exact⟨k2,k3,by rw[k1,hc]⟩
     ·rw[hN0]at hb;omega
    refine⟨⟨⟨hLe,fun _=>⟨st',phK ks i+1,g1,hb2,by rw[←show phK ks (i+1)=phK ks i+1 from iB hkk];exact phK_mono (by omega),fun i0 v0 σ0 h0=>?_⟩⟩,fun k hk hki h=>?_⟩,?_⟩
    ·show(if i0=i then true else q.2 i0)=true↔_
     by_cases e0:i0=i
     ·subst e0;simp
     ·rw[if_neg e0]
      have hq0:=s3 i0 v0 σ0 h0
      rcases Nat.lt_or_gt_of_ne e0 with hlt|hgt
      ·have:=phK_lt h0 hlt
       exact⟨fun h=>by have:=hq0.1 h;omega,fun _=>hq0.2 this⟩
      ·have:=phK_lt hkk hgt
       exact⟨fun h=>by have:=hq0.1 h;omega,fun h=>by omega⟩
    ·show(if k=i then true else q.2 k)=false
     rw[if_neg hki];exact h
    ·unfold FH
     rw[hkk]
     have hdst:(l[i]?).bind (·.dst)=o.dst:=by
      have hli:l[i]?=some o:=by simpa using ho
      rw[hli];rfl
     simp only[hdst]
     refine⟨by simp,RS.of hr,fun s hs' _=>?_⟩
     rw[hN0]
     exact hown s hs'
   rcases hgv with⟨c,f,vs,hoc,hca,hent,hA⟩|⟨t,x,hob,hsol,hS⟩|⟨t,z,hob,hz,hS⟩
   ·obtain⟨us,hrun,hargs⟩:=iu (P:=P) (w:=w') (a:=a') hoc (fun x hx=>hev x (by rw[hoc];exact hx)) hca hent
    unfold bQ
    rw[hrun]
    refine(hA sq s1 (E.d+2) q.1 w' us (fun k=>match o.dst with|some s=>Loc.slot E.d s k|none=>Loc.slot E.d 0 k) hgq hbox hargs).mono fun e w2 ⟨u,v',st',g2,he,hQ,hmv,hb2,hr,hown⟩=>?_
    obtain⟨rfl,g1⟩:=hQ
    obtain⟨r1,r2⟩:=hafter u st' g2 w2 hmv hb2 hr (fun s hs'=>by rw[hs']at hown;exact hown) g1
    exact⟨u,_,he,r1,r2⟩
   ·obtain⟨rfl,hS2⟩:=hS sq s1
    have hrx:=(hev x (by rw[hob];simp[Op.operands])).dis
    obtain⟨hrl,hz1⟩:=cz hsol (hrx.r (ef hsol))
    have hrun:(execOp a'.eval o).run P w'= .ok (.value (.pointer (some ⟨w'.heap.size,0,none⟩))) (w'.alloc (.cells (a'.eval x).cells t)):=by
     simp only[execOp,hob]
     exact bM (by simp[Instr.box,newVar,newRow])
    obtain⟨g2,hmv,hb2,hr⟩:=mk_sound (P:=P) E.d hgq hbox (cV w' _) hrl (fun i c hc=>bf _ i c hc) hz1
    unfold bQ
    rw[hrun]
    obtain⟨r1,r2⟩:=hafter _ _ g2 _ hmv hb2 hr (fun s _ i c x hc _=>Own.of_no (ak (v:=.ptr sq.boxes.length 0) (fun _ e=>by cases e) trivial i c hc)) hS2
    exact⟨_,r1,r2⟩
   ·obtain⟨rfl,hS2⟩:=hS sq s1
    obtain⟨z',hz',ti,zv,hti,htz,hzr,hzs,hzn⟩:=cF (P:=P) (g:=q.1) (Res.wp_of_opt hz (K:=fun x=>x=z) rfl)
    subst hz'
    obtain⟨hrl,hz1⟩:=cz hzs hzr
    have hrun:(execOp a'.eval o).run P w'= .ok (.value (.pointer (some ⟨w'.heap.size,0,none⟩))) (w'.alloc (.cells zv.cells t)):=by
     simp only[execOp,hob]
     exact bM (by simp[Instr.alloc,zeroValue,typeInfo,hti,htz,newVar,newRow])
    obtain⟨g2,hmv,hb2,hr⟩:=mk_sound (P:=P) E.d hgq hbox (cV w' _) hrl (fun i c hc=>hzn i c hc) hz1
    unfold bQ
    rw[hrun]
    obtain⟨r1,r2⟩:=hafter _ _ g2 _ hmv hb2 hr (fun s _ i c x hc _=>Own.of_no (ak (v:=.ptr sq.boxes.length 0) (fun _ e=>by cases e) trivial i c hc)) hS2
    exact⟨_,r1,r2⟩
 ·obtain⟨s,j,b1,hbox,b2,b3⟩:=hle.2 hbx0
  have hj:j=phK ks n:=by
   have h1:j≤phK ks n:=by rw[←hln];exact b2
   by_cases h0:0<phK ks n
   ·obtain⟨i',v',σ',p1,p2,p3⟩:=kz h0
    have hl':i'<l.length:=by
     have hd:=H.dir
     unfold dirL at hd
     simp only[Bool.and_eq_true,decide_eq_true_eq]at hd
     have:=hd.1.1.1.1
     simp at this
     omega
    obtain⟨u,hu,_⟩:=hF.2.2.1 i' l[i'] p1 (by simp[hl'])
    unfold FH at hu
    rw[p2]at hu
    have:=(b3 i' v' σ' p2).1 hu.1
    omega
   ·omega
  obtain⟨g',hok⟩:=H.fin' hle.1 hbox (fun e=>by rw[hmf]at e;cases e) hF
  exact hfin s g' w' a' (hj▸ b1) hok
end
end Go.Fx
namespace Go.Fx
open Go Go.RowKit Go.Lib
def nc:AI→List Nat
 | .newL s _=>[s]
 | .store _ (.r t) _=>[t]
 |_=>[]
def dropP:List GI→List Nat
 | []=>[]
 |⟨_,i⟩::r=>nc i++dropP r
def dropQ:List (Bool×GI)→List Nat
 | []=>[]
 |(_,⟨_,i⟩)::r=>nc i++dropQ r
def fL(pre:List GI)(post:List (Bool×GI)):List Nat:=dropP pre++dropQ post
section
variable (P:Program) (F:Nat→FuncId) (locs0:List (Nat×List AV)) (ρ:St)
def valM(C:PK→Sf→Prop)(d:Option Nat)(sf:Sf)(v:AV):Prop:=C (.val v) (sf.put d v)
def callM1(d:Option Nat)(f:AV)(args:List AV)(C:PK→Sf→Prop)(sf:Sf):Prop :=
 match f with
 | .fn (.func q) fs cs=>args.all AV.noL=true∧cr P q=true∧∃v,(∀s,St.sub ρ s→az P q (fs++args.map AV.dis++cs) s v)∧valM C d sf v
 |_=>False
def oneM(i:AI)(C:PK→Sf→Prop)(sf:Sf):Prop :=
 match i with
 | .call d _ f args=>callM1 P ρ d (sf.ev F f) (args.map (sf.ev F)) C sf
 | .newL s cs=>C (.new s cs) (sf.set s .any)
 | .store k a x=>dU locs0 a (sf.ev F a) (sf.ev F x) k C sf
 |i=>(popI F i sf ρ).wp (valM C i.dst sf)
def g8(H:List PK→Sf→Prop)(ks:List PK)(k:PK)(sf:Sf):Prop:=H (ks++[k]) sf
def preM:List GI→(List PK→Sf→Prop)→List PK→Sf→Prop
 | [],K,ks,sf=>K ks sf
 |⟨none,i⟩::r,K,ks,sf=>oneM P F locs0 ρ i (g8 (preM r K) ks) sf
 |⟨some (t,want),i⟩::r,K,ks,sf=>cC t want (sf.reg t) (oneM P F locs0 ρ i (g8 (preM r K) ks)) (l5 (preM r K) ks i.dst) sf
def dg:List (Bool×GI)→(List PK→Prop)→List PK→Sf→Prop
 | [],K,ks,_=>K ks
 |(true,g)::r,K,ks,sf=>dg r K (ks++[.hole]) (sf.put g.i.dst .any)
 |(false,⟨none,i⟩)::r,K,ks,sf=>oneM P F locs0 ρ i (g8 (dg r K) ks) sf
 |(false,⟨some (t,want),i⟩)::r,K,ks,sf=>cC t want (sf.reg t) (oneM P F locs0 ρ i (g8 (dg r K) ks)) (l5 (dg r K) ks i.dst) sf
def fa:List (Bool×GI)→List PK→List PK→Prop
 | [],[],[]=>True
 |(true,_)::_,_::_,.new _ _::_=>False
 |(true,_)::r,_::h,_::k=>fa r h k
 |(false,_)::r,a::h,b::k=>b=a∧fa r h k
 |_,_,_=>False
def finK(drop:List Nat)(T:Sf→Prop)(ks:List PK)(sf:Sf):Prop:=ksB drop ks=true∧T (bK ks ks (bU ks sf))
def postM(post:List (Bool×GI))(drop:List Nat)(ks1 ksh:List PK)(T:Sf→Prop)(ks:List PK)(sf:Sf):Prop:=fa post ksh ks∧finK drop T (ks1++ks) sf
def qn(post:List (Bool×GI))(Qc:AV→St→Prop)(d:Option Nat)(sf:Sf)(drop:List Nat)(T:St→Sf→Prop)(ks1 ksh:List PK):Prop :=
 ∀v s,Qc v s→St.sub ρ s∧preM P F locs0 ρ (post.map (·.2)) (postM post drop ks1 ksh (T s)) [] (sf.put d v)
def holeK(drop:List Nat)(ks1:List PK)(A:List PK→Prop)(ksh:List PK):Prop:=ksB drop (ks1++ksh)=true∧A ksh
def nf(st:St)(d:Option Nat)(f:AV)(args:List AV)(post:List (Bool×GI))(drop:List Nat)(T:St→Sf→Prop)(ks1:List PK)(sf:Sf):Prop :=
 match f with
 | .fn (.func q) fs cs=>args.all AV.noL=true∧cr P q=true∧∃Qc,aF P q (fs++args.map AV.dis++cs) st Qc∧dg P F locs0 ρ post (holeK drop ks1 (qn P F locs0 ρ post Qc d sf drop T ks1)) [] (sf.put d .any)
 |_=>False
def atM(st:St)(d:Option Nat)(f:Opd)(args:List Opd)(post:List (Bool×GI))(drop:List Nat)(T:St→Sf→Prop)(ks1:List PK)(sf:Sf):Prop:=nf P F locs0 ρ st d (sf.ev F f) (args.map (sf.ev F)) post drop T ks1 sf
end
def drawM(P:Program)(F:Nat→FuncId)(pre:List GI)(d:Option Nat)(f:Opd)(args:List Opd)(post:List (Bool×GI))(sf:Sf)(st:St)(T:St→Sf→Prop):Prop :=
 ∃ρ,St.sub ρ st∧preM P F sf.locs ρ pre (atM P F sf.locs ρ st d f args post (fL pre post) T) [] ⟨sf.regs,cH (fL pre post) sf.locs⟩
def PK.loc:PK→Bool
 | .new _ _| .store _ _| .nst _ _| .app _ _=>true
 |_=>false
theorem ng:∀ks:List PK,aL (ks.filter PK.loc)=aL ks
 | []=>rfl
 |k::r=>by cases k<;>simp[PK.loc,aL,List.filter_cons,ng r]
theorem news_loc:∀ks:List PK,bh (ks.filter PK.loc)=bh ks
 | []=>rfl
 |k::r=>by cases k<;>simp[PK.loc,bh,List.filter_cons,news_loc r]
theorem apps_loc:∀ks:List PK,bz (ks.filter PK.loc)=bz ks
 | []=>rfl
 |k::r=>by cases k<;>simp[PK.loc,bz,List.filter_cons,apps_loc r]
theorem nsts_loc:∀ks:List PK,bA (ks.filter PK.loc)=bA ks
 | []=>rfl
 |k::r=>by cases k<;>simp[PK.loc,bA,List.filter_cons,nsts_loc r]
theorem nstB_loc:∀(ks:List PK) (seen:List (Nat×Nat)),nstB seen (ks.filter PK.loc)=nstB seen ks
 | [],_=>rfl
 |k::r,seen=>by cases k<;>simp[PK.loc,nstB,List.filter_cons,nstB_loc r]
theorem pc(t:Nat):∀ks:List PK,cb t (ks.filter PK.loc)=cb t ks
 | []=>rfl
 |k::r=>by cases k<;>simp[PK.loc,cb,List.filter_cons,pc t r]
theorem pe:∀(ks:List PK) (sf:Sf),bU (ks.filter PK.loc) sf=bU ks sf
 | [],_=>rfl
 |k::r,sf=>by cases k<;>simp[PK.loc,bU,List.filter_cons,pe r]
theorem pf(all:List PK):∀(ks:List PK) (sf:Sf),bK all (ks.filter PK.loc) sf=bK all ks sf
 | [],_=>rfl
 |k::r,sf=>by cases k<;>simp[PK.loc,bK,List.filter_cons,pf all r]
theorem ksB_loc(drop:List Nat)(ks:List PK):ksB drop (ks.filter PK.loc)=ksB drop ks:=by
 unfold ksB
 rw[ng,news_loc,apps_loc,nsts_loc,nstB_loc]
section
variable (P:Program) (F:Nat→FuncId) (locs0:List (Nat×List AV)) (ρ:St)
def valG(C:PK→Sf→Prop)(d:Option Nat)(sf:Sf)(v:AV):Prop:=C (.mk v ρ) (sf.put d v)
def jt(H:List PK→Sf→Prop)(ks:List PK)(k:PK)(sf:Sf):Prop:=H (if k.loc=true then ks++[k]else ks) sf
def skipG(H:List PK→Sf→Prop)(ks:List PK)(d:Option Nat)(sf:Sf):Prop:=H ks (sf.put d (.tup []))
def nh(SS:Nat→St→Prop)(j:Nat)(d:Option Nat)(f:AV)(args:List AV)(C:PK→Sf→Prop)(sf:Sf):Prop :=
 match f with
 | .fn (.func q) fs cs=>args.all AV.noL=true∧cr P q=true∧∃v,(∀s,SS j s→aF P q (fs++args.map AV.dis++cs) s (fun v' s'=>v'=v∧SS (j+1) s'))∧valG ρ C d sf v
 |_=>False
def boxX1(SS:Nat→St→Prop)(j d k:Nat)(x:AV)(C:PK→Sf→Prop)(sf:Sf):Prop :=
 x.dis.solid=true∧x.dis.cells.length=k∧∃v,(∀s,SS j s→v= .ptr s.boxes.length 0∧SS (j+1) (s.push (.cells x.dis.cells)))∧valG ρ C (some d) sf v
def newX1(SS:Nat→St→Prop)(j d:Nat)(cs:List AV)(C:PK→Sf→Prop)(sf:Sf):Prop :=
 ∃v,(∀s,SS j s→v= .ptr s.boxes.length 0∧SS (j+1) (s.push (.cells cs)))∧valG ρ C (some d) sf v
def iC(SS:Nat→St→Prop)(j:Nat)(i:AI)(C:PK→Sf→Prop)(sf:Sf):Prop :=
 match i with
 | .newB d cs=>newX1 ρ SS j d cs C sf
 | .boxB d k x=>boxX1 ρ SS j d k (sf.ev F x) C sf
 | .call d _ f args=>nh P ρ SS j d (sf.ev F f) (args.map (sf.ev F)) C sf
 |_=>False
def preX(SS:Nat→St→Prop):Nat→List (Bool×GI)→(Nat→List PK→Sf→Prop)→List PK→Sf→Prop
 |j,[],K,ks,sf=>K j ks sf
 |j,(true,⟨none,i⟩)::r,K,ks,sf=>iC P F ρ SS j i (jt (preX SS (j+1) r K) ks) sf
 |_,(true,⟨some _,_⟩)::_,_,_,_=>False
 |j,(false,⟨none,i⟩)::r,K,ks,sf=>oneM P F locs0 ρ i (jt (preX SS j r K) ks) sf
 |j,(false,⟨some (t,want),i⟩)::r,K,ks,sf=>cC t want (sf.reg t) (oneM P F locs0 ρ i (jt (preX SS j r K) ks)) (skipG (preX SS j r K) ks i.dst) sf
end
section
variable (P:Program) (gOf:FuncId→Option Nat) (F:Nat→FuncId) (n:Nat) (heap:Nat→Bool)
def gm(ops:List Oper)(k κ:Nat)(gl:List GI):List (Bool×GI):=gl.zipIdx.map fun p=>(cg ops.toArray k (κ+1+p.2) κ,p.1)
end
section
variable {P:Program} {gOf:FuncId→Option Nat} {F:Nat→FuncId} {n:Nat} {heap:Nat→Bool} {ρ:St} {SS:St→Prop} {locs0:List (Nat×List AV)} {all:List Oper} {ops:Array Oper}
theorem pop_dstM{d:Option Nat}{op:Op}{i:AI}(h:popC P gOf F n d op=some i):i.dst=d∧(∀(sf:Sf) (C:PK→Sf→Prop),oneM P F locs0 ρ i C sf→(popI F i sf ρ).wp fun v=>C (.val v) (sf.put i.dst v)):=by
 unfold popC at h
 repeat' (split at h)
 all_goals first
  |(cases h;done)
  |(cases h;exact⟨rfl,fun _ _ h=>h⟩)
  |(obtain⟨_,_,rfl⟩:=map_some h;exact⟨rfl,fun _ _ h=>h⟩)
theorem one_m0(hsub:∀s,SS s→St.sub ρ s){o:Oper}{i:AI}(hc:lh P gOf F n heap o=some i){sf:Sf}(hg:aX ops (sp n sf) o=some (.lit (.bool true))){C:PK→Sf→Prop}(h:oneM P F locs0 ρ i C sf) :
  ∃k sf',C k sf'∧k.real=true∧PStep P ops ρ SS locs0 o (sp n sf) k (sp n sf'):=by
 have hpop:popC P gOf F n o.dst o.op=some i→∃k sf',C k sf'∧k.real=true∧PStep P ops ρ SS locs0 o (sp n sf) k (sp n sf'):=by
  intro hp
  obtain⟨hd,hh⟩:=pop_dstM (locs0:=locs0) (ρ:=ρ) hp
  obtain⟨v,hv,hC⟩:=qm (fJ hp sf ρ _ (hh sf C h))
  refine⟨_,_,hC,rfl,?_⟩
  rw[bV,hd]
  exact .val v hg fun s hs=>popR_sub (hsub s hs) _ _ _ hv
 obtain⟨dst,op,ty,pos,after,gd⟩:=o
 unfold lh at hc
 simp only at hc hpop
 split at hc
 ·rename_i f args ts
  split at hc
  ·rename_i f' args' hf hargs
   cases hc
   simp only[oneM,callM1]at h
   split at h
   ·rename_i q fs cs hfv
    obtain⟨hnl,hent,v,hP,hC⟩:=h
    have hmap:=fo hargs sf
    refine⟨_,_,hC,rfl,?_⟩
    rw[bV]
    refine .call v ⟨.value f,args,ts⟩ q (fs++(args'.map (sf.ev F)).map AV.dis++cs) hg rfl ?_ hent (fun s hs=>hP s (hsub s hs))
    unfold fj
    simp only[ap hf sf,hfv,hmap,hnl,if_true]
    congr 3
    rw[←hmap,List.map_map]
    rfl
   ·exact h.elim
  ·cases hc
 ·rename_i t s
  split at hc
  ·obtain⟨z,hz,rfl⟩:=map_some hc
   exact False.elim h
  ·obtain⟨z,hz,rfl⟩:=map_some hc
   simp only[oneM]at h
   refine⟨_,_,h,rfl,?_⟩
   rw[dF]
   exact .new t s z hg rfl rfl hz
 ·split at hc
  ·split at hc
   ·cases hc;exact False.elim h
   ·cases hc
  ·cases hc
 ·rename_i t a x
  split at hc
  ·rename_i a' x' k ha hx hk
   cases hc
   simp only[oneM,dU]at h
   split at h
   ·rename_i s hav
    unfold eI at h
    split at h
    ·rename_i cs0 hl
     obtain⟨h1,h2,h3,hC⟩:=h
     refine⟨_,_,hC,rfl,?_⟩
     rw[←ap hx sf]at h2 h3 ⊢
     exact .store t a x s cs0 hg rfl rfl (by rw[ap ha sf];exact hav) hl (by rw[h1,h3]) h2 (by rw[hk,h3])
    ·exact h.elim
   ·rename_i hav
    unfold ky at h
    split at h
    ·rename_i a' s
     obtain⟨h2,h3,hC⟩:=h
     have ha2:a= .tmp s:=by
      cases a with
      |tmp t=>simp only[opd]at ha;split at ha<;>cases ha;rfl
      | _ =>
        simp only[opd]at ha;repeat' (split at ha)
        all_goals cases ha
     refine⟨_,_,hC,rfl,?_⟩
     rw[←ap hx sf]at h2 h3 ⊢
     subst ha2
     exact .nst t x s hg rfl rfl h2 (by rw[hk,h3])
    ·exact h.elim
   ·rename_i s off hav
    unfold fK at h
    split at h
    ·rename_i cs0 hl
     obtain⟨h1,h2,h3,hC⟩:=h
     refine⟨_,_,hC,rfl,?_⟩
     rw[←ap hx sf]at h2 h3 ⊢
     exact .storeA t a x s (off+1) cs0 hg rfl rfl (by rw[ap ha sf];exact hav) hl (by rw[h3];exact h1) h2 (by rw[hk,h3])
    ·exact h.elim
   ·exact h.elim
  ·cases hc
 ·rename_i args ts sd
  split at hc
  ·split at hc
   ·split at hc
    ·cases hc;exact h.elim
    ·cases hc
   ·cases hc
  ·exact hpop hc
 ·exact hpop hc
theorem one_m(hsub:∀s,SS s→St.sub ρ s){o:Oper}{i:AI}(hc:na P gOf F n heap o=some i){sf:Sf}(hg:aX ops (sp n sf) o=some (.lit (.bool true))){C:PK→Sf→Prop}(h:oneM P F locs0 ρ i C sf) :
  ∃k sf',C k sf'∧k.real=true∧PStep P ops ρ SS locs0 o (sp n sf) k (sp n sf'):=by
 unfold na at hc
 split at hc
 ·rename_i i' hi
  cases hc
  exact one_m0 hsub hi hg h
 ·cases hc
  exact h.elim
def PK.vs:PK→Bool
 | .val _| .skip=>true
 |_=>false
section
variable (P:Program) (F:Nat→FuncId) (locs0:List (Nat×List AV))
end
theorem guard_m(hsub:∀s,SS s→St.sub ρ s){o:Oper}{gi:GI}(hc:li P gOf F n heap all o=some gi){sf:Sf}{H:List PK→Sf→Prop}{acc:List PK}
  (h:match gi with
   |⟨none,i⟩=>oneM P F locs0 ρ i (g8 H acc) sf
   |⟨some (t,want),i⟩=>cC t want (sf.reg t) (oneM P F locs0 ρ i (g8 H acc)) (l5 H acc i.dst) sf) :
  ∃k sf',k.real=true∧H (acc++[k]) sf'∧PStep P all.toArray ρ SS locs0 o (sp n sf) k (sp n sf'):=by
 unfold li at hc
 split at hc
 case h_2=>cases hc
 rename_i i hi
 split at hc
 case isFalse=>cases hc
 rename_i hd
 split at hc
 ·rename_i hg
  cases hc
  obtain⟨k,sf',hC,hre,hps⟩:=one_m (ops:=all.toArray) (SS:=SS) (locs0:=locs0) hsub hi (by simp[aX,hg]) h
  exact⟨k,sf',hre,hC,hps⟩
 ·rename_i j want hg
  split at hc
  case h_2=>cases hc
  rename_i t ht
  split at hc
  case isFalse=>cases hc
  rename_i htn
  cases hc
  simp only[cC]at h
  split at h
  case h_3=>exact h.elim
  case h_2 =>
   rename_i cs hb
   have hga:aX all.toArray (sp n sf) o=some (.lit (.bool false)):=by
    unfold aX
    rw[hg]
    simp only[ht,dj,if_pos htn,hb]
   refine⟨.skip,sf.put i.dst (.tup []),rfl,h,?_⟩
   rw[bV,hd]
   exact .skip hga
  rename_i b hb
  have hga:aX all.toArray (sp n sf) o=some (.lit (.bool (b ==want))):=by
   unfold aX
   rw[hg]
   simp only[ht,dj,if_pos htn,hb]
  have hsame:sp n (sf.set t (.lit (.bool b)))=sp n sf:=by rw[←hb];exact kw n sf t
  have h:=h b rfl
  by_cases hbw:b=want
  ·rw[if_pos hbw]at h
   obtain⟨k,sf',hC,hre,hps⟩:=one_m (ops:=all.toArray) (SS:=SS) (locs0:=locs0) hsub hi (by rw[hsame,hga];simp[hbw]) h
   rw[hsame]at hps
   exact⟨k,sf',hre,hC,hps⟩
  ·rw[if_neg hbw]at h
   refine⟨.skip,(sf.set t (.lit (.bool b))).put i.dst (.tup []),rfl,h,?_⟩
   rw[bV,hsame,hd]
   exact .skip (by rw[hga];simp[hbw])
theorem kA(hsub:∀s,SS s→St.sub ρ s):∀{l:List Oper} {gl:List GI} {sf:Sf} {acc:List PK} {K:List PK→Sf→Prop},dl P gOf F n heap all l=some gl→preM P F locs0 ρ gl K acc sf →
  ∃ks sf',PRun P all.toArray ρ (fun _=>SS) locs0 l (sp n sf) ks (sp n sf')∧(∀k∈ks,k.real=true)∧K (acc++ks) sf'
 | [], gl, sf, acc, K, hc, h => by
   simp only[dl]at hc
   cases hc
   exact⟨[],sf,.nil _,by simp,by simpa [preM]using h⟩
 | o :: r, gl, sf, acc, K, hc, h => by
   simp only[dl]at hc
   split at hc
   case h_2=>cases hc
   rename_i gi gr hgi hgr
   cases hc
   obtain⟨k,sf',hk,hC,hps⟩:=guard_m (SS:=SS) (locs0:=locs0) (H:=preM P F locs0 ρ gr K) (acc:=acc) hsub hgi (by
    obtain⟨g,i⟩:=gi
    cases g with
    |none=>exact h
    |some g=>obtain⟨t,w⟩:=g;exact h)
   obtain⟨ks,sf2,hr,hre,hK⟩:=kA hsub hgr hC
   exact⟨k::ks,sf2,.cons hps hr,by simp only[List.mem_cons,forall_eq_or_imp];exact⟨hk,hre⟩,by simpa using hK⟩
def qo:List (Bool×GI)→List PK→Prop
 | [],[]=>True
 |(true,_)::r,k::h=>k= .hole∧qo r h
 |(false,_)::r,k::h=>k.real=true∧qo r h
 |_,_=>False
theorem kB(hsub:∀s,SS s→St.sub ρ s):∀{l:List Oper} {gl:List GI} {fl:List (Bool×GI)} {sf:Sf} {acc:List PK} {K:List PK→Prop},dl P gOf F n heap all l=some gl→fl.map (·.2)=gl→dg P F locs0 ρ fl K acc sf →
  ∃ks sf',PRun P all.toArray ρ (fun _=>SS) locs0 l (sp n sf) ks (sp n sf')∧qo fl ks∧K (acc++ks)
 | [], gl, fl, sf, acc, K, hc, hf, h => by
   simp only[dl]at hc
   cases hc
   have:fl= []:=by simpa using hf
   subst this
   exact⟨[],sf,.nil _,trivial,by simpa [dg]using h⟩
 | o :: r, gl, fl, sf, acc, K, hc, hf, h => by
   simp only[dl]at hc
   split at hc
   case h_2=>cases hc
   rename_i gi gr hgi hgr
   cases hc
   match fl,hf with
   | (true, g) :: fr, hf =>
     simp only[List.map_cons,List.cons.injEq]at hf
     obtain⟨rfl,hfr⟩:=hf
     have hd:g.i.dst=o.dst:=by
      unfold li at hgi
      split at hgi
      case h_2=>cases hgi
      split at hgi
      case isFalse=>cases hgi
      rename_i hd
      split at hgi
      ·cases hgi;exact hd
      ·split at hgi
       ·split at hgi
        ·cases hgi;exact hd
        ·cases hgi
       ·cases hgi
     have h:dg P F locs0 ρ fr K (acc++[.hole]) (sf.put g.i.dst .any):=by simpa only[dg]using h
     obtain⟨ks,sf2,hr,hre,hK⟩:=kB hsub (acc:=acc++[.hole]) (K:=K) hgr hfr h
     refine⟨.hole::ks,sf2,.cons .hole ?_,⟨rfl,hre⟩,by simpa using hK⟩
     rw[bV,hd]at hr
     exact hr
   | (false, g) :: fr, hf =>
     simp only[List.map_cons,List.cons.injEq]at hf
     obtain⟨rfl,hfr⟩:=hf
     obtain⟨k,sf',hk,hC,hps⟩:=guard_m (SS:=SS) (locs0:=locs0) (H:=dg P F locs0 ρ fr K) (acc:=acc) hsub hgi (by
      obtain⟨g,i⟩:=g
      cases g with
      |none=>exact h
      |some g=>obtain⟨t,w⟩:=g;exact h)
     obtain⟨ks,sf2,hr,hre,hK⟩:=kB hsub hgr hfr hC
     exact⟨k::ks,sf2,.cons hps hr,⟨hk,hre⟩,by simpa using hK⟩
theorem gS{SS:Option Nat→St→Prop}{l1 l2:List Oper}{fra frb frc:Fr}{k1 k2:List PK}(h1:PRun P ops ρ SS locs0 l1 fra k1 frb)(h2:PRun P ops ρ SS locs0 l2 frb k2 frc):PRun P ops ρ SS locs0 (l1++l2) fra (k1++k2) frc:=by
 induction h1 with
 |nil fr=>exact h2
 |cons h r ih=>exact .cons h (ih h2)
theorem PRun.weakSS{ρ':St}{SS SS':Option Nat→St→Prop}{l:List Oper}{fra frb:Fr}{ks:List PK}(h:PRun P ops ρ SS locs0 l fra ks frb)(hs:∀d s,SS' d s→SS d s):PRun P ops ρ' SS' locs0 l fra ks frb:=by
 induction h with
 |nil fr=>exact .nil fr
 | cons h r ih =>
   refine .cons ?_ ih
   cases h with
   |skip hg=>exact .skip hg
   |val v hg hp=>exact .val v hg fun s h=>hp s (hs _ s h)
   |call v c f vs hg ho hc he hp=>exact .call v c f vs hg ho hc he fun s h=>hp s (hs _ s h)
   |mk v s hg=>exact .mk v s hg
   |hole=>exact .hole
   |nst t x s hg ho hd hs hsz=>exact .nst t x s hg ho hd hs hsz
   |chole c f vs hg ho hc=>exact .chole c f vs hg ho hc
   |ahole f x y t t2 hg ho=>exact .ahole f x y t t2 hg ho
   |new t s z hg ho hd hz=>exact .new t s z hg ho hd hz
   |store t addr x s cs0 hg ho hd ha hl hlen hs' hsz=>exact .store t addr x s cs0 hg ho hd ha hl hlen hs' hsz
   |storeA t addr x s off cs0 hg ho hd ha hl hlen hs' hsz=>exact .storeA t addr x s off cs0 hg ho hd ha hl hlen hs' hsz
   |app t t2 sx sd k y es v hg ho hd hne hsl hp=>exact .app t t2 sx sd k y es v hg ho hd hne hsl fun s h=>hp s (hs _ s h)
theorem eo:∀{ks:List PK} {st:St},(∀k∈ks,k.real=true)→stK ks st=st
 | [],_,_=>rfl
 | .mk v s::r,_,h=>by have:=h (.mk v s) (by simp);simp[PK.real]at this
 | .val _::r,_,h=>eo (ks:=r) fun k hk=>h k (by simp[hk])
 | .skip::r,_,h=>eo (ks:=r) fun k hk=>h k (by simp[hk])
 | .new _ _::r,_,h=>eo (ks:=r) fun k hk=>h k (by simp[hk])
 | .store _ _::r,_,h=>eo (ks:=r) fun k hk=>h k (by simp[hk])
 | .app _ _::r,_,h=>eo (ks:=r) fun k hk=>h k (by simp[hk])
 | .hole::r,_,h=>eo (ks:=r) fun k hk=>h k (by simp[hk])
 | .nst _ _::r,_,h=>eo (ks:=r) fun k hk=>h k (by simp[hk])
 | .chole _ _::r,_,h=>eo (ks:=r) fun k hk=>h k (by simp[hk])
theorem run_len{SS:Option Nat→St→Prop}{l:List Oper}{fra frb:Fr}{ks:List PK}(h:PRun P ops ρ SS locs0 l fra ks frb):ks.length=l.length:=by
 induction h with
 |nil fr=>rfl
 |cons h r ih=>simp[ih]
theorem cE:∀{fl:List (Bool×GI)} {h:List PK},qo fl h→∀(i:Nat) (k:PK),h[i]?=some k→∃b g,fl[i]?=some (b,g)∧((b=true∧k= .hole)∨(b=false∧k.real=true))
 | [],[],_,i,k,hk=>by simp at hk
 | [],_::_,h,_,_,_=>h.elim
 |(true,_)::_,[],h,_,_,_=>h.elim
 |(false,_)::_,[],h,_,_,_=>h.elim
 | (true, g) :: r, k0 :: h, ⟨h1, h2⟩, i, k, hk => by
   cases i with
   |zero=>simp at hk;subst hk;exact⟨true,g,rfl,.inl ⟨rfl,h1⟩⟩
   |succ i=>exact cE h2 i k (by simpa using hk)
 | (false, g) :: r, k0 :: h, ⟨h1, h2⟩, i, k, hk => by
   cases i with
   |zero=>simp at hk;subst hk;exact⟨false,g,rfl,.inr ⟨rfl,h1⟩⟩
   |succ i=>exact cE h2 i k (by simpa using hk)
theorem iZ:∀{fl:List (Bool×GI)} {h ks:List PK},fa fl h ks→h.length=ks.length
 | [],[],[],_=>rfl
 | [],_::_,_,h=>h.elim
 | [],[],_::_,h=>h.elim
 |(true,_)::_,[],_,h=>h.elim
 |(false,_)::_,[],_,h=>h.elim
 |(true,_)::_,_::_,[],h=>h.elim
 |(false,_)::_,_::_,[],h=>h.elim
 | (true, g) :: r, a :: h, b :: k, hc => by
   have hc':fa r h k:=by cases b<;>first|exact hc.elim|exact hc
   simp[iZ hc']
 |(false,g)::r,a::h,b::k,hc=>by simp[iZ hc.2]
theorem gz:∀{fl:List (Bool×GI)} {h ks:List PK},fa fl h ks→∀(i:Nat) (b:Bool) (g:GI) (k:PK),fl[i]?=some (b,g)→(h[i]?=some k→b=false→ks[i]?=some k)∧(ks[i]?=some k→(∃s cs,k= .new s cs)→h[i]?=some k)
 | [],_,_,_,i,b,g,k,hf=>by simp at hf
 |(true,_)::_,[],_,h,_,_,_,_,_=>h.elim
 |(true,_)::_,_::_,[],h,_,_,_,_,_=>h.elim
 |(false,_)::_,[],_,h,_,_,_,_,_=>h.elim
 |(false,_)::_,_::_,[],h,_,_,_,_,_=>h.elim
 | (true, _) :: r, a :: h, b :: k, hc, i, b', g, kk, hf => by
   have hc':fa r h k∧∀s cs,b≠.new s cs:=by cases b<;>first|exact hc.elim|exact⟨hc,fun _ _ e=>by cases e⟩
   cases i with
   | zero =>
     simp at hf
     refine⟨fun _ e=>(by rw[hf.1]at e;cases e),fun e1 ⟨s,cs,e2⟩=>?_⟩
     simp at e1
     exact absurd (e1.trans e2) (hc'.2 s cs)
   |succ i=>simpa using gz hc'.1 i b' g kk (by simpa using hf)
 | (false, _) :: r, a :: h, b :: k, ⟨h1, h2⟩, i, b', g, kk, hf => by
   subst h1
   cases i with
   |zero=>exact⟨fun e _=>e,fun e _=>e⟩
   |succ i=>simpa using gz h2 i b' g kk (by simpa using hf)
theorem flags_at(opl:List Oper)(k κ:Nat)(gl:List GI)(i:Nat)(b:Bool)(g:GI)(h:(gm opl k κ gl)[i]?=some (b,g)):b=cg opl.toArray k (κ+1+i) κ:=by
 simp only[gm,List.getElem?_map,Option.map_eq_some_iff,List.getElem?_zipIdx]at h
 obtain⟨p,⟨q,hq,rfl⟩,h2⟩:=h
 simp at h2
 exact h2.1.symm
theorem i7(opl:List Oper)(k κ:Nat)(gl:List GI):(gm opl k κ gl).map (·.2)=gl:=by
 simp only[gm,List.map_map]
 have:((fun x:Bool×GI=>x.2)∘ fun p:GI×Nat=>(cg opl.toArray k (κ+1+p.2) κ,p.1))=Prod.fst:=by funext p;rfl
 rw[this,List.zipIdx_map_fst]
theorem popC_ncall{d:Option Nat}{op:Op}{i:AI}(h:popC P gOf F n d op=some i):∀d p f args,i≠.call d p f args:=by
 intro d' p f args e
 subst e
 unfold popC at h
 repeat' (split at h)
 all_goals first
  |(cases h;done)
  |(obtain⟨_,_,h⟩:=map_some h;cases h)
theorem popC_nbox{d:Option Nat}{op:Op}{i:AI}(h:popC P gOf F n d op=some i):∀b k x,i≠.boxB b k x:=by
 intro b k x e
 subst e
 unfold popC at h
 repeat' (split at h)
 all_goals first
  |(cases h;done)
  |(obtain⟨_,_,h⟩:=map_some h;cases h)
theorem popC_nnew{d:Option Nat}{op:Op}{i:AI}(h:popC P gOf F n d op=some i):∀b x,i≠.newB b x:=by
 intro b x e
 subst e
 unfold popC at h
 repeat' (split at h)
 all_goals first
  |(cases h;done)
  |(obtain⟨_,_,h⟩:=map_some h;cases h)
theorem mkN_real{k:PK}(h:k.real=true):mkN k=0:=by cases k<;>first|rfl|cases h
theorem one_x{SX:Nat→St→Prop}(hsub:∀j s,SX j s→St.sub ρ s){j:Nat}{o:Oper}{i:AI}(hc:na P gOf F n heap o=some i){sf:Sf}(hg:aX ops (sp n sf) o=some (.lit (.bool true))){C:PK→Sf→Prop}(h:iC P F ρ SX j i C sf) :
  ∃v sf',C (.mk v ρ) sf'∧PStep P ops ρ (fun s=>∃j,SX j s) locs0 o (sp n sf) (.mk v ρ) (sp n sf')∧GkJ P SX j o (sp n sf) (.mk v ρ):=by
 unfold na at hc
 split at hc
 case h_2=>cases hc;exact h.elim
 rename_i i' hi
 cases hc
 have hno:popC P gOf F n o.dst o.op=some i→False:=fun hp=>by
  have:=popC_ncall hp
  cases i<;>first|exact h.elim|exact this _ _ _ _ rfl|exact popC_nbox hp _ _ _ rfl|exact popC_nnew hp _ _ rfl
 obtain⟨dst,op,ty,pos,after,gd⟩:=o
 unfold lh at hi
 simp only at hi hno
 split at hi
 ·rename_i f args ts
  split at hi
  ·rename_i f' args' hf hargs
   cases hi
   simp only[iC,nh]at h
   split at h
   ·rename_i q fs cs hfv
    obtain⟨hnl,hent,v,hP,hC⟩:=h
    have hmap:=fo hargs sf
    have hca:fj (sp n sf) ⟨.value f,args,ts⟩=some (q,fs++(args'.map (sf.ev F)).map AV.dis++cs):=by
     unfold fj
     simp only[ap hf sf,hfv,hmap,hnl,if_true]
     congr 3
     rw[←hmap,List.map_map]
     rfl
    refine⟨v,_,hC,?_,fun v' s' e=>?_⟩
    ·rw[bV]
     exact .mk v ρ hg
    ·cases e
     exact .inl ⟨_,_,_,rfl,hca,hent,fun s hs=>hP s hs⟩
   ·exact h.elim
  ·cases hi
 ·rename_i t s
  split at hi
  ·obtain⟨z,hz,rfl⟩:=map_some hi
   simp only[iC,newX1]at h
   obtain⟨v,hP,hC⟩:=h
   refine⟨v,_,hC,?_,fun v' s' e=>?_⟩
   ·rw[bV]
    exact .mk v ρ hg
   ·cases e
    exact .inr (.inr ⟨t,z,rfl,hz,fun s hs=>hP s hs⟩)
  ·obtain⟨z,hz,rfl⟩:=map_some hi
   exact h.elim
 ·rename_i t x s
  split at hi
  ·split at hi
   ·rename_i x' k hx hk
    cases hi
    simp only[iC,boxX1]at h
    obtain⟨h1,h2,v,hP,hC⟩:=h
    rw[←ap hx sf]at h1 hP
    refine⟨v,_,hC,?_,fun v' s' e=>?_⟩
    ·rw[bV]
     exact .mk v ρ hg
    ·cases e
     exact .inr (.inl ⟨t,x,rfl,h1,fun s hs=>hP s hs⟩)
   ·cases hi
  ·cases hi
 ·split at hi
  ·cases hi;exact h.elim
  ·cases hi
 ·split at hi
  ·split at hi
   ·split at hi
    ·cases hi;exact h.elim
    ·cases hi
   ·cases hi
  ·exact(hno hi).elim
 ·exact(hno hi).elim
theorem pre_runX{SX:Nat→St→Prop}(hsub:∀j s,SX j s→St.sub ρ s):∀{l:List Oper} {gl:List GI} {fl:List (Bool×GI)} {j:Nat} {sf:Sf} {acc:List PK} {K:Nat→List PK→Sf→Prop},dl P gOf F n heap all l=some gl→fl.map (·.2)=gl→preX P F locs0 ρ SX j fl K acc sf →
  ∃ks sf',PRunB P all.toArray ρ (fun s=>∃j,SX j s) locs0 (GkJ P SX) j l (sp n sf) ks (sp n sf')∧(∀k∈ks,k.real=true∨∃v,k= .mk v ρ)∧(∀(i:Nat) (v:AV) (σ:St),ks[i]?=some (PK.mk v σ)→∃gi,fl[i]?=some (true,gi))∧ks.length=l.length∧K (j+(ks.map mkN).sum) (acc++ks.filter PK.loc) sf'
 | [], gl, fl, j, sf, acc, K, hc, hf, h => by
   simp only[dl]at hc
   cases hc
   have:fl= []:=by simpa using hf
   subst this
   exact⟨[],sf,.nil _ _,by simp,by simp,rfl,by simpa [preX]using h⟩
 | o :: r, gl, fl, j, sf, acc, K, hc, hf, h => by
   simp only[dl]at hc
   split at hc
   case h_2=>cases hc
   rename_i gi gr hgi hgr
   cases hc
   match fl,hf with
   | (b, g) :: fr, hf =>
     simp only[List.map_cons,List.cons.injEq]at hf
     obtain⟨rfl,hfr⟩:=hf
     have fin:∀{k:PK} {sf':Sf} {j':Nat},j'=j+mkN k→(k.real=true∨∃v,k= .mk v ρ)→(∀v σ,k= .mk v σ→b=true)→preX P F locs0 ρ SX j' fr K (acc++[k].filter PK.loc) sf'→PStep P all.toArray ρ (fun s=>∃j,SX j s) locs0 o (sp n sf) k (sp n sf')→GkJ P SX j o (sp n sf) k →
       ∃ks sf',PRunB P all.toArray ρ (fun s=>∃j,SX j s) locs0 (GkJ P SX) j (o::r) (sp n sf) ks (sp n sf')∧(∀k∈ks,k.real=true∨∃v,k= .mk v ρ)∧(∀(i:Nat) (v:AV) (σ:St),ks[i]?=some (PK.mk v σ)→∃gi,((b,g)::fr)[i]?=some (true,gi))∧ks.length=(o::r).length∧K (j+(ks.map mkN).sum) (acc++ks.filter PK.loc) sf':=by
      intro k sf' j' hj hk hb hC hps hx
      obtain⟨ks,sf2,hr,hre,hfl,hln,hK⟩:=pre_runX hsub hgr hfr hC
      subst hj
      refine⟨k::ks,sf2,.cons hps hx hr,by simp only[List.mem_cons,forall_eq_or_imp];exact⟨hk,hre⟩,fun i v σ hi=>?_,by simp[hln],?_⟩
      ·cases i with
       | zero =>
         simp at hi
         have:=hb v σ hi
         subst this
         exact⟨g,by simp⟩
       |succ i=>simp at hi ⊢;exact hfl i v σ hi
      ·rw[show k::ks= [k]++ks from rfl,List.filter_append,←List.append_assoc,List.map_append,List.sum_append]
       simpa [Nat.add_assoc]using hK
     have hcons:∀k sf',jt (preX P F locs0 ρ SX (j+mkN k) fr K) acc k sf'→preX P F locs0 ρ SX (j+mkN k) fr K (acc++[k].filter PK.loc) sf':=by
      intro k sf' h
      unfold jt at h
      cases hk:k.loc<;>simp[hk]at h⊢ <;> exact h
     have hcons0:∀k sf',k.real=true→jt (preX P F locs0 ρ SX j fr K) acc k sf'→preX P F locs0 ρ SX (j+mkN k) fr K (acc++[k].filter PK.loc) sf':=by
      intro k sf' hr h
      have e:=mkN_real hr
      have:=hcons k sf'
      rw[e]at this ⊢
      exact this h
     have hnr:∀{k:PK} {v:AV} {σ:St},k.real=true→k= .mk v σ→b=true:=fun hr e=>by subst e;cases hr
     obtain⟨g,i⟩:=g
     unfold li at hgi
     split at hgi
     case h_2=>cases hgi
     rename_i i' hi
     split at hgi
     case isFalse=>cases hgi
     rename_i hd
     split at hgi
     ·rename_i hg
      cases hgi
      cases b with
      | true =>
        obtain⟨v,sf',hC,hps,hx⟩:=one_x (ops:=all.toArray) (locs0:=locs0) hsub hi (by simp[aX,hg]) h
        exact fin (k:=PK.mk v ρ) rfl (.inr ⟨v,rfl⟩) (fun _ _ _=>rfl) (hcons (PK.mk v ρ) sf' hC) hps hx
      | false =>
        obtain⟨k,sf',h1,h2,h3⟩:=one_m (ops:=all.toArray) (SS:=fun s=>∃j,SX j s) (locs0:=locs0) (fun s ⟨j,hs⟩=>hsub j s hs) hi (by simp[aX,hg]) h
        exact fin rfl (.inl h2) (fun v σ=>hnr h2) (hcons0 k sf' h2 h1) h3 (fun v s e=>by subst e;cases h2)
     ·rename_i jj want hg
      split at hgi
      case h_2=>cases hgi
      rename_i t ht
      split at hgi
      case isFalse=>cases hgi
      rename_i htn
      cases hgi
      cases b with
      |true=>exact h.elim
      | false =>
        simp only[preX,cC]at h
        split at h
        case h_3=>exact h.elim
        case h_2 =>
         rename_i cs hb
         have hga:aX all.toArray (sp n sf) o=some (.lit (.bool false)):=by
          unfold aX
          rw[hg]
          simp only[ht,dj,if_pos htn,hb]
         refine fin (k:=.skip) (sf':=sf.put i.dst (.tup [])) rfl (.inl rfl) (fun v σ e=>by cases e) (by simpa [PK.loc,skipG,mkN]using h) ?_ (fun v s e=>by cases e)
         rw[bV,hd]
         exact .skip hga
        rename_i bb hb
        have hga:aX all.toArray (sp n sf) o=some (.lit (.bool (bb ==want))):=by
         unfold aX
         rw[hg]
         simp only[ht,dj,if_pos htn,hb]
        have hsame:sp n (sf.set t (.lit (.bool bb)))=sp n sf:=by rw[←hb];exact kw n sf t
        have h:=h bb rfl
        by_cases hbw:bb=want
        ·rw[if_pos hbw]at h
         obtain⟨k,sf',hC,hre,hps⟩:=one_m (ops:=all.toArray) (SS:=fun s=>∃j,SX j s) (locs0:=locs0) (fun s ⟨j,hs⟩=>hsub j s hs) hi (by rw[hsame,hga];simp[hbw]) h
         rw[hsame]at hps
         exact fin rfl (.inl hre) (fun v σ=>hnr hre) (hcons0 k sf' hre hC) hps (fun v s e=>by subst e;cases hre)
        ·rw[if_neg hbw]at h
         refine fin (k:=.skip) (sf':=(sf.set t (.lit (.bool bb))).put i.dst (.tup [])) rfl (.inl rfl) (fun v σ e=>by cases e) (by simpa [PK.loc,skipG,mkN]using h) ?_ (fun v s e=>by cases e)
         rw[bV,hsame,hd]
         exact .skip (by rw[hga];simp[hbw])
def PK.inert:PK→Bool
 | .mk _ _| .hole| .chole _ _=>true
 |_=>false
theorem pg{x:PK}(hx:x.inert=true):∀(a b:List PK),aL (a++x::b)=aL (a++b)
 | [],b=>by cases x<;>first|rfl|cases hx
 |k::a,b=>by cases k<;>simp[aL,pg hx a b]
theorem news_in{x:PK}(hx:x.inert=true):∀(a b:List PK),bh (a++x::b)=bh (a++b)
 | [],b=>by cases x<;>first|rfl|cases hx
 |k::a,b=>by cases k<;>simp[bh,news_in hx a b]
theorem apps_in{x:PK}(hx:x.inert=true):∀(a b:List PK),bz (a++x::b)=bz (a++b)
 | [],b=>by cases x<;>first|rfl|cases hx
 |k::a,b=>by cases k<;>simp[bz,apps_in hx a b]
theorem nsts_in{x:PK}(hx:x.inert=true):∀(a b:List PK),bA (a++x::b)=bA (a++b)
 | [],b=>by cases x<;>first|rfl|cases hx
 |k::a,b=>by cases k<;>simp[bA,nsts_in hx a b]
theorem nstB_in{x:PK}(hx:x.inert=true):∀(a b:List PK) (seen:List (Nat×Nat)),nstB seen (a++x::b)=nstB seen (a++b)
 | [],b,_=>by cases x<;>first|rfl|cases hx
 |k::a,b,seen=>by cases k<;>simp[nstB,nstB_in hx a b]
theorem nstOf_in{x:PK}(hx:x.inert=true)(s:Nat):∀(a b:List PK),cb s (a++x::b)=cb s (a++b)
 | [],b=>by cases x<;>first|rfl|cases hx
 |k::a,b=>by cases k<;>simp[cb,nstOf_in hx s a b]
theorem finSS_in{x:PK}(hx:x.inert=true):∀(a b:List PK) (sf:Sf),bU (a++x::b) sf=bU (a++b) sf
 | [],b,_=>by cases x<;>first|rfl|cases hx
 |k::a,b,sf=>by cases k<;>simp[bU,finSS_in hx a b]
theorem finNN_in{x:PK}(hx:x.inert=true)(all:List PK):∀(a b:List PK) (sf:Sf),bK all (a++x::b) sf=bK all (a++b) sf
 | [],b,_=>by cases x<;>first|rfl|cases hx
 |k::a,b,sf=>by cases k<;>simp[bK,finNN_in hx all a b]
theorem lj{all all':List PK}(h:∀s,cb s all=cb s all'):∀(a:List PK) (sf:Sf),bK all a sf=bK all' a sf
 | [],_=>rfl
 |k::a,sf=>by cases k<;>simp[bK,lj h a,h]
theorem ksB_in{x:PK}(hx:x.inert=true)(drop:List Nat)(a b:List PK):ksB drop (a++x::b)=ksB drop (a++b):=by
 unfold ksB
 rw[pg hx,news_in hx,apps_in hx,nsts_in hx,nstB_in hx]
theorem fin_in{x:PK}(hx:x.inert=true)(a b:List PK)(sf:Sf):bK (a++x::b) (a++x::b) (bU (a++x::b) sf)=bK (a++b) (a++b) (bU (a++b) sf):=by
 rw[finSS_in hx,finNN_in hx,lj (fun s=>nstOf_in hx s a b)]
end
end Go.Fx
namespace Go.Fx
open Go Go.RowKit Go.Lib
section
variable (P:Program) (F:Nat→FuncId) (locs0:List (Nat×List AV)) (ρ:St)
def appM(st:St)(d:Option Nat)(k bytes:Nat)(b y:AV)(post:List (Bool×GI))(drop:List Nat)(T:St→Sf→Prop)(ks1:List PK)(sf:Sf):Prop :=
 b.noL=true∧y.noL=true∧∃Qc,(srcA st k y.dis).wp (appX false k bytes b.dis Qc st)∧dg P F locs0 ρ post (holeK drop ks1 (qn P F locs0 ρ post Qc d sf drop T ks1)) [] (sf.put d .any)
def atA(st:St)(d:Option Nat)(b:Opd)(k bytes:Nat)(y:Opd)(post:List (Bool×GI))(drop:List Nat)(T:St→Sf→Prop)(ks1:List PK)(sf:Sf):Prop:=appM P F locs0 ρ st d k bytes (sf.ev F b) (sf.ev F y) post drop T ks1 sf
end
def drawA(P:Program)(F:Nat→FuncId)(pre:List GI)(d:Option Nat)(b:Opd)(k bytes:Nat)(y:Opd)(post:List (Bool×GI))(sf:Sf)(st:St)(T:St→Sf→Prop):Prop :=
 ∃ρ,St.sub ρ st∧preM P F sf.locs ρ pre (atA P F sf.locs ρ st d b k bytes y post (fL pre post) T) [] ⟨sf.regs,cH (fL pre post) sf.locs⟩
def isT:Operand→Nat→Bool
 | .tmp s,t=>s ==t
 |_,_=>false
theorem isT_eq{x:Operand}{t:Nat}(h:isT x t=true):x= .tmp t:=by
 cases x<;>simp[isT]at h
 rw[h]
theorem isT_self(t:Nat):isT (.tmp t) t=true:=by simp[isT]
def twoV(x y:Operand)(xv yv:AV)(t:Nat):AV:=if isT x t=true then xv.dis else if isT y t=true then yv.dis else .any
theorem twoV_reg(x y:Operand)(xv yv:AV)(n t:Nat)(h:t<n):getR ((List.range n).map fun t=>(t,twoV x y xv yv t)) t=twoV x y xv yv t:=by
 have key:∀(f:Nat→AV) (k:Nat) (l:List Nat),(t∈l)→getR (l.map fun t=>(t,f t)) t=f t:=by
  intro f k l
  induction l with
  |nil=>intro h;cases h
  | cons a r ih =>
    intro h
    simp only[List.map_cons,getR]
    by_cases e:a=t
    ·rw[if_pos e,e]
    ·rw[if_neg e]
     rcases List.mem_cons.1 h with h|h
     ·exact absurd h.symm e
     ·exact ih h
 exact key _ 0 _ (List.mem_range.2 h)
theorem ev_plain{x:Operand}{v:AV}(h:∀s,x≠.tmp s)(hv:∀fr:Fr,fr.ev x=v):v.dis=v:=by
 have:=hv ⟨[],[]⟩
 cases x with
 |tmp t=>exact absurd rfl (h t)
 | const u =>
   simp only[Fr.ev]at this
   split at this<;>(subst this;rfl)
 |global q=>simp only[Fr.ev]at this;subst this;rfl
 |func f=>simp only[Fr.ev]at this;subst this;rfl
theorem apr_sound{P:Program}{st:St}{Qc:AV→St→Prop}{o:Oper}{x y:Operand}{t t2:TypeId}{k bytes d n:Nat}{xv yv:AV}(ho:o.op= .call ⟨.builtin .append,#[x,y],#[t,t2]⟩)(hak:appK P t t2=some (k,bytes))(hz:apzB P t=true)(hxl:xv.noL=true)(hyl:yv.noL=true)
  (hxn:∀s,x= .tmp s→s<n) (hyn:∀s,y= .tmp s→s<n) (hK:(srcA st k yv.dis).wp (appX false k bytes xv.dis Qc st)):ApR P d n st Qc [xv,yv] o:=by
 intro x' y' t' t2' ho' xv' yv' hv hxy hx0 hy0 g1 w1 a1 hn hg hb hrx hry
 rw[ho]at ho'
 obtain⟨rfl,rfl,rfl,rfl⟩:x=x'∧y=y'∧t=t'∧t2=t2':=by
  simp only[Op.call.injEq,Call.mk.injEq]at ho'
  obtain⟨_,h1,h2⟩:=ho'
  have h1:=congrArg Array.toList h1
  have h2:=congrArg Array.toList h2
  simp only[List.cons.injEq,and_true]at h1 h2
  exact⟨h1.1,h1.2,h2.1,h2.2⟩
 simp only[List.cons.injEq,and_true]at hv
 obtain⟨rfl,rfl⟩:=hv
 have rx:=(jp hxl hrx).dis
 have ry:=(jp hyl hry).dis
 obtain⟨sf,hsf⟩:∃sf:Sf,sf=⟨(List.range n).map fun t=>(t,twoV x y xv yv t),[]⟩:=⟨_,rfl⟩
 have hreg:∀s,s<n→sf.reg s=twoV x y xv yv s:=fun s hs=>by rw[hsf];exact twoV_reg x y xv yv _ s hs
 have hok:Ok false ⟨d+2,0,g1,w1,st,0⟩ g1 w1 (sp n sf) st {a1 with defers:=[]}:=by
  refine⟨by rw[dD];exact hn,fun s v u hv hu=>?_,⟨hg,fun s cs h=>by rw[hsf]at h;simp[sp,look]at h,hb⟩,DefsR.nil _,Mv.refl hg,(fun e=>by cases e),Nat.zero_le _,fun _=>rfl⟩
  have hu:a1.tmps[s]?=some u:=hu
  rw[dj]at hv
  split at hv
  ·rename_i hs
   simp only[Option.some.injEq]at hv
   subst hv
   rw[hreg s hs]
   unfold twoV
   split
   ·rename_i e
    have e2:a1.eval x=u:=by rw[isT_eq e];simp only[Act.eval];rw[Array.getD_eq_getD_getElem?,hu];rfl
    rw[←e2]
    exact⟨RS.of rx,OwnV.dis⟩
   ·split
    ·rename_i e
     have e2:a1.eval y=u:=by rw[isT_eq e];simp only[Act.eval];rw[Array.getD_eq_getD_getElem?,hu];rfl
     rw[←e2]
     exact⟨RS.of ry,OwnV.dis⟩
    ·exact⟨RS.of (R.any _),dJ (v:=.any) (by simp) trivial⟩
  ·cases hv
 have hevx:(sp n sf).ev x=xv.dis:=by
  by_cases h:∃s,x= .tmp s
  ·obtain⟨s,rfl⟩:=h
   have hs:=hxn s rfl
   show(sp n sf).slots.getD s .any=_
   rw[dk hs,hreg s hs]
   unfold twoV
   rw[if_pos (isT_self s)]
  ·have h':∀s,x≠.tmp s:=fun s e=>h ⟨s,e⟩
   rw[hx0 h',ev_plain h' (hx0 h')]
 have hevy:(sp n sf).ev y=yv.dis:=by
  by_cases h:∃s,y= .tmp s
  ·obtain⟨s,rfl⟩:=h
   have hs:=hyn s rfl
   show(sp n sf).slots.getD s .any=_
   rw[dk hs,hreg s hs]
   unfold twoV
   by_cases e:isT x s=true
   ·rw[if_pos e,hxy (isT_eq e)]
   ·rw[if_neg e,if_pos (isT_self s)]
  ·have h':∀s,y≠.tmp s:=fun s e=>h ⟨s,e⟩
   rw[hy0 h',ev_plain h' (hy0 h')]
 obtain⟨v,st',hC,u,g',w',hrun,hok',hr,h1,h2⟩:=app_x ho hak (fun e hu=>by unfold apzB at hz;rw[hu]at hz;exact hz) hok hevx hevy hK
 exact⟨u,v,st',g',w',hrun,hC,hok'.mv,hok'.ctx.box,hr,fun mk=>dJ h1 h2⟩
end Go.Fx
namespace Go.Fx
open Go Go.RowKit Go.Lib
section
variable {P:Program} {m:Bool} {E:Ent} {g g':Gh} {w w':World} {fr fr':Fr} {st st':St} {a a':Act}
def Gh.newC(g:Gh)(b:Nat)(c:Cls):Gh:={g with cls:=fun k=>if k=b then some c else g.cls k}
theorem wr_put(w:World)(b:Nat)(o:Obj):Wr w b (w.putObj b o):=⟨rfl,rfl,rfl,by simp,fun _ hk=>World.putObj_heap_other hk⟩
theorem Ok.newC(h:Ok false E g w fr st a){o:Obj}(hw:Nw w o w')(c:Cls):Ok false E (g.newC w.heap.size c) w' fr st a:=by
 have hg:=h.ctx.good
 have hmv:Mv false E.N E.d g w (g.newC w.heap.size c) w':=by
  refine⟨hw.os,hw.tape,hw.output,by rw[hw.size];omega,rfl,fun k hk=>hw.old k (Nat.lt_of_lt_of_le hk hg.base),fun _ _ _ h=>h,fun _ _ h=>h,fun d' hd=>rfl,fun k c hk _=>⟨?_,hw.old k (hg.cls k c hk).2,rfl⟩,
   (fun e=>by cases e),hw.good hg (c:=c) rfl rfl (fun _=>rfl)⟩
  simp[Gh.newC,kZ hg hk,hk]
 have hch:Ch (fun _=>False) none none none E.d g w (g.newC w.heap.size c) w' :=
  ⟨⟨fun _ _ _ h=>h,fun i b h=>h⟩,fun k c hk _ _ _=>⟨by simp[Gh.newC,kZ hg hk,hk],hw.old k (hg.cls k c hk).2,rfl⟩,fun s' hs=>rfl⟩
 exact h.ch hmv hch h.size h.defers (fun t v u hv hu=>.inr ⟨hv,hu,fun i c _=>.inl (fun e=>e),fun _ _ _=>by simp⟩) (fun t cs' hc=>.inr ⟨hc,by simp,by simp,fun _ _ _=>.inl (fun e=>e)⟩)
  (fun id hid=>h.ctx.box.1 id hid) (fun id cs' hc=>.inr ⟨hc,by simp,fun _ _ _=>.inl (fun e=>e)⟩) (fun id bx he _=>.inr ⟨he,by simp⟩) (fun e=>by cases e)
def RegsR(g:Gh)(r:Loop)(rs:List (Nat×AV)):Prop:=∀p∈rs,R g p.2 (r.tmps.getD p.1 undef)∧∀c∈p.2.cells,c.noOwn
theorem Ok.newLp(h:Ok false E g w fr st a){r:Loop}{rs:List (Nat×AV)}(hw:Nw w (.loop r) w')(hr:RegsR g r rs):Ok false E (g.newB w.heap.size st.boxes.length) w' fr (st.push (.lp r rs)) a:=by
 have hg:=h.ctx.good
 have hid:=h.ctx.box.1 st.boxes.length (Nat.le_refl _)
 have hch:=Nw.chB (d:=E.d) hw hg _ hid
 refine h.ch (hw.mvB hg _ hid) hch h.size h.defers (fun t v u hv hu=>.inr ⟨hv,hu,fun i c _=>.inl (fun e=>e),fun _ _ _=>by simp⟩) (fun t cs' hc=>.inr ⟨hc,by simp,by simp,fun _ _ _=>.inl (fun e=>e)⟩) (fun id hid=>?_) (fun id cs' hc=>?_) (fun id bx he hob=>?_) (fun e=>by cases e)
 ·simp[St.push]at hid
  have:¬id=st.boxes.length:=by omega
  simp only[Gh.newB,this,if_false]
  exact h.ctx.box.1 id (by omega)
 ·rcases bP hc with h1|⟨rfl,h1⟩
  ·exact .inr ⟨h1,by simp,fun _ _ _=>.inl (fun e=>e)⟩
  ·cases h1
 ·rcases bP he with h1|⟨rfl,h1⟩
  ·exact .inr ⟨h1,by simp⟩
  ·cases h1
   exact .inl ⟨w.heap.size,.loop r,by simp[Gh.newB],by simp[Gh.newB],hw.new,rfl,fun p hp=>⟨(hr p hp).1.mono hch.ghle,(hr p hp).2⟩⟩
theorem Ok.setLp(h:Ok false E g w fr st a){id b:Nat}{r r':Loop}{rs:List (Nat×AV)}(hl:st.boxes[id]?=some (some (.lp r rs)))(hb:g.bx id=some b)(ht:r'.tmps=r.tmps) :
  Ok false E g (w.putObj b (.loop r')) fr (st.setL id r' rs) a:=by
 obtain⟨b',a1,a2,a3,a4⟩:=h.ctx.box.lp hl
 have:b'=b:=Option.some.inj (a1.symm.trans hb)
 subst this
 have hg:=h.ctx.good
 have hlt:b'<w.heap.size:=(Array.getElem?_eq_some_iff.1 a3).1
 have hw:=wr_put w b' (.loop r')
 have hch:Ch (fun _=>False) none none (some id) E.d g w g (w.putObj b' (.loop r')):=hw.ch a2 (.inr ⟨id,rfl,rfl⟩)
 refine h.ch (hw.mv hg a2 (fun e=>e) (fun L e=>by cases e) (fun e=>by cases e)) hch h.size h.defers (fun t v u hv hu=>.inr ⟨hv,hu,fun i c _=>.inl (fun e=>e),fun _ _ _=>by simp⟩) (fun t cs' hc=>.inr ⟨hc,by simp,by simp,fun _ _ _=>.inl (fun e=>e)⟩)
  (fun id' hid=>h.ctx.box.1 id' (by simpa [St.setL]using hid)) (fun id' cs' hc=>?_) (fun id' bx he0 hob=>?_) (fun e=>by cases e)
 ·rcases fm hc with⟨rfl,e⟩|⟨hne,hc⟩
  ·cases e
  ·exact .inr ⟨hc,fun e=>hne (by cases e;rfl),fun _ _ _=>.inl (fun e=>e)⟩
 ·rcases fm he0 with⟨rfl,e⟩|⟨hne,hc⟩
  ·cases e
   exact .inl ⟨b',.loop r',a1,a2,World.putObj_heap_same hlt,rfl,fun p hp=>by rw[ht];exact a4 p hp⟩
  ·exact .inr ⟨hc,fun e=>hne (by cases e;rfl)⟩
def St.drop(st:St)(id:Nat):St:=⟨st.boxes.set id none⟩
theorem drop_box{id id':Nat}{b:Box}(h:(st.drop id).boxes[id']?=some (some b)):id'≠id∧st.boxes[id']?=some (some b):=by
 simp only[St.drop]at h
 by_cases e:id'=id
 ·subst e
  rw[List.getElem?_set]at h
  simp at h
 ·rw[List.getElem?_set_ne (fun q=>e q.symm)]at h
  exact⟨e,h⟩
theorem Ok.dropLp(h:Ok false E g w fr st a){id b:Nat}{r:Loop}{rs:List (Nat×AV)}(hl:st.boxes[id]?=some (some (.lp r rs)))(hb:g.bx id=some b)(o:Obj):Ok false E g (w.putObj b o) fr (st.drop id) a:=by
 obtain⟨b',a1,a2,a3,a4⟩:=h.ctx.box.lp hl
 have:b'=b:=Option.some.inj (a1.symm.trans hb)
 subst this
 have hg:=h.ctx.good
 have hw:=wr_put w b' o
 have hch:Ch (fun _=>False) none none (some id) E.d g w g (w.putObj b' o):=hw.ch a2 (.inr ⟨id,rfl,rfl⟩)
 refine h.ch (hw.mv hg a2 (fun e=>e) (fun L e=>by cases e) (fun e=>by cases e)) hch h.size h.defers (fun t v u hv hu=>.inr ⟨hv,hu,fun i c _=>.inl (fun e=>e),fun _ _ _=>by simp⟩) (fun t cs' hc=>.inr ⟨hc,by simp,by simp,fun _ _ _=>.inl (fun e=>e)⟩)
  (fun id' hid=>h.ctx.box.1 id' (by simpa [St.drop]using hid)) (fun id' cs' hc=>?_) (fun id' bx he0 hob=>?_) (fun e=>by cases e)
 ·obtain⟨hne,hc⟩:=drop_box hc
  exact .inr ⟨hc,fun e=>hne (by cases e;rfl),fun _ _ _=>.inl (fun e=>e)⟩
 ·obtain⟨hne,hc⟩:=drop_box he0
  exact .inr ⟨hc,fun e=>hne (by cases e;rfl)⟩
def Ext(m:Bool)(E E':Ent):Prop :=
 E'=E∨(m=false∧E'.d=E.d∧E'.N=E.N∧E'.lo=E.lo∧E.w.heap.size≤E'.w.heap.size∧∀g w,Mv false E.N E.d E'.g E'.w g w→Mv false E.N E.d E.g E.w g w)
theorem Ext.refl(m:Bool)(E:Ent):Ext m E E:=.inl rfl
theorem Ext.trans{E1 E2 E3:Ent}(h:Ext m E1 E2)(k:Ext m E2 E3):Ext m E1 E3:=by
 rcases h with rfl|⟨h1,h2,h3,h4,h6,h5⟩
 ·exact k
 rcases k with rfl|⟨k1,k2,k3,k4,k6,k5⟩
 ·exact .inr ⟨h1,h2,h3,h4,h6,h5⟩
 ·rw[h2,h3]at k5
  exact .inr ⟨h1,k2.trans h2,k3.trans h3,k4.trans h4,Nat.le_trans h6 k6,fun g w q=>h5 g w (k5 g w q)⟩
theorem Ext.dd{E E':Ent}(h:Ext m E E'):E'.d=E.d:=by rcases h with rfl|h;rfl;exact h.2.1
theorem Ext.NN{E E':Ent}(h:Ext m E E'):E'.N=E.N:=by rcases h with rfl|h;rfl;exact h.2.2.1
theorem Ext.szw{E E':Ent}(h:Ext m E E'):E.w.heap.size≤E'.w.heap.size:=by rcases h with rfl|h;exact Nat.le_refl _;exact h.2.2.2.2.1
theorem Ext.lolo{E E':Ent}(h:Ext m E E'):E'.lo=E.lo:=by rcases h with rfl|h;rfl;exact h.2.2.2.1
theorem Ok.anew(h:Ok false E g w fr st a){ds:List Deferred}(hd:DefsR ⟨E.d,E.N,g,w,st,E.lo⟩ ds):Ok false ⟨E.d,E.N,g,w,st,E.lo⟩ g w fr st {a with defers:=ds} :=
 ⟨h.size,h.slots,h.ctx,hd,Mv.refl h.ctx.good,fun e=>(by cases e),h.hN,h.hm⟩
theorem Ok.ext(h:Ok false E g w fr st a):Ext false E ⟨E.d,E.N,g,w,st,E.lo⟩:=.inr ⟨rfl,rfl,rfl,rfl,h.mv.size,fun _ _ k=>h.mv.trans k⟩
theorem Ok.defs(h:Ok false E g w fr st a){D:Nat}{s:Nat}{dd:Nat}(hD:g.cls D=some (.loc dd s))(hdd:dd<E.d)(hh:w.heap[D]?=some (.deferred (some [])))(hlo:E.lo≤D)(hnew:E.w.heap.size≤D) :
  DefsR ⟨E.d,E.N,g,w,st,E.lo⟩ ({target:=.collected D,args:=#[]}::a.defers):=by
 refine⟨fun x hx=>?_,?_⟩
 ·rcases List.mem_cons.1 hx with rfl|hx
  ·exact⟨D,dd,s,rfl,hlo,hD,hdd,hh⟩
  ·obtain⟨D0,d0,s0,h1,h2,h3,h4,h5⟩:=h.defers.all x hx
   obtain⟨q1,q2,_⟩:=h.mv.outer D0 _ h3 h4
   exact⟨D0,d0,s0,h1,h2,q1,h4,by rw[q2];exact h5⟩
 ·simp only[List.map_cons,List.nodup_cons]
  refine⟨fun hx=>?_,h.defers.nd⟩
  obtain⟨x,hx,e⟩:=List.mem_map.1 hx
  obtain⟨D0,d0,s0,rfl,h2,h3,h4,h5⟩:=h.defers.all x hx
  cases e
  have:=(Array.getElem?_eq_some_iff.1 h5).1
  omega
theorem Ok.putD(h:Ok false E g w fr st a){D dd s:Nat}(hD:g.cls D=some (.loc dd s))(hdd:dd≠E.d)(hE:E.g.cls D=none)(hb:E.g.base≤D)(o:Obj):Ok false E g (w.putObj D o) fr st a:=by
 have hg:=h.ctx.good
 have hw:=wr_put w D o
 have hi:∀q,g.imm D q=none:=fun q=>by
  cases hh:g.imm D q with
  |none=>rfl
  |some u=>rcases hg.immc D q u hh with h1|⟨L,h1⟩<;>rw[hD]at h1<;>cases h1
 have hgood:Good g (w.putObj D o):=by
  refine⟨fun k o' u hh=>?_,hg.immc,fun k c' hk=>?_,by rw[hw.size];exact hg.base⟩
  ·have hne:k≠D:=fun e=>by subst e;rw[hi o']at hh;cases hh
   have:=hg.imm k o' u hh
   unfold World.cell? at this ⊢
   rw[hw.other k hne];exact this
  ·rw[hw.size];exact hg.cls k c' hk
 have hown:∀{N:Nat} {L:Loc} {x:AV} {u:Value},Own g w N L x u→Own g (w.putObj D o) N L x u:=by
  intro N L x u ho
  refine⟨fun k es e=>?_,fun id s l stp e=>?_⟩
  ·rcases ho.1 k es e with h0|⟨b,q,c,cur,T,h1,hN,h2,h3,h4⟩
   ·exact .inl h0
   ·have hne:b≠D:=fun e=>by subst e;rw[hD]at h2;cases h2
    exact .inr ⟨b,q,c,cur,T,h1,hN,h2,by rw[hw.other b hne];exact h3,h4⟩
  ·obtain⟨b,mb,sp,h1,hN,h2,h3,h4⟩:=ho.2 id s l stp e
   have hne:b≠D:=fun e=>by subst e;rw[hD]at h2;cases h2
   exact⟨b,mb,sp,h1,hN,h2,by rw[hw.other b hne];exact h3,h4⟩
 refine⟨h.size,fun t v u hv hu=>⟨(h.slots t v u hv hu).1,fun i c x hc hx=>hown ((h.slots t v u hv hu).2 i c x hc hx)⟩,⟨hgood,fun t cs hc=>?_,⟨h.ctx.box.1,fun id cs hc=>?_,fun id bx hc hob=>?_⟩⟩,h.defers,?_,fun e=>(by cases e),by rw[hw.size];exact h.hN,h.hm⟩
 ·obtain⟨b,us,T,h1,hN,h2,h3,h4,h5⟩:=h.ctx.loc t cs hc
  have hne:b≠D:=fun e=>by subst e;rw[hD]at h2;cases h2;exact hdd rfl
  exact⟨b,us,T,h1,hN,h2,by rw[hw.other b hne];exact h3,h4,fun i c x hc hx=>⟨(h5 i c x hc hx).1,hown (h5 i c x hc hx).2⟩⟩
 ·obtain⟨b,us,T,h1,h2,h3,h4,h5,h6⟩:=h.ctx.box.2.1 id cs hc
  have hne:b≠D:=fun e=>by subst e;rw[hD]at h2;cases h2
  exact⟨b,us,T,h1,h2,by rw[hw.other b hne];exact h3,h4,fun i c x hc hx=>⟨(h5 i c x hc hx).1,hown (h5 i c x hc hx).2⟩,h6⟩
 ·obtain⟨b,o',h1,h2,h3,h4⟩:=h.ctx.box.2.2 id bx hc hob
  have hne:b≠D:=fun e=>by subst e;rw[hD]at h2;cases h2
  exact⟨b,o',h1,h2,by rw[hw.other b hne];exact h3,h4⟩
 ·have hm:=h.mv
  refine⟨hm.os,hm.tape,hm.output,by rw[hw.size];exact hm.size,hm.base,fun b hb'=>?_,hm.imm,hm.bx,hm.lb,fun b c hc ho=>?_,(fun e=>by cases e),hgood⟩
  ·rw[hw.other b (by omega)];exact hm.low b hb'
  ·have hne:b≠D:=fun e=>by subst e;rw[hE]at hc;cases hc
   rw[hw.other b hne];exact hm.outer b c hc ho
end
end Go.Fx

/- -/
import Derived.Test.YtdkimcnlhmhpgaaGreatM41
set_option maxHeartbeats 32000000
set_option maxRecDepth 100000
namespace Go.Proofs.YtdkimcnlhmhpgaaGreat
open Go.Proofs.Tryz Go.RowKit
variable {L:Array Bool} {i fuel B b lo sb r rlo R:Nat} {a:Act} {w wr w':World} {v:VS} {us:List (NS×Value)} {c:au} {d:DK} {vp rp:Option Addr} {o:Option VS}
section
variable {P:Program} {ops:Array Oper} {Q:Exit->Act->World->Prop} {md:Region.Mode} {C:World->Prop} {st:Nat}
def eY (P:Program) (md:Region.Mode) (ops:Array Oper) (Q:Exit->Act->World->Prop) (C:World->Prop) (st:Nat):Nat->Array Bool->Act->World->Prop
 |0,L,a,w=>Region.ready md ops L=[]/\Q .normal a w
 |fuel+1,L,a,w=>(Region.ready md ops L=[]->Q .normal a w)/\
  ∀i∈Region.ready md ops L,wpOp P ops Q i (fun a' w'=>((L.setIfInBounds i true).getD st true=false->C w')/\eY P md ops Q C st fuel (L.setIfInBounds i true) a' w') a w
theorem sh:∀(fuel:Nat) (L:Array Bool) (a:Act) (w:World),eY P md ops Q C st fuel L a w->wpAny P md ops Q fuel L a w
 |0,_,_,_,h=>h
 |fuel+1,_,_,_,h=>⟨h.1,fun i hi=>wpOp_mono (fun a' w' h'=>sh fuel _ a' w' h'.2) (h.2 i hi)⟩
theorem gZ {j:Nat} (h:(L.setIfInBounds i true).getD j true=false):L.getD j true=false:=by
 by_cases VM:i=j
 .subst VM
  rcases Nat.lt_or_ge i L.size with h'|h'
  .simp[h']at h
  .simp at h
 .rw[getD_set_ne true VM]at h;exact h
theorem ow:∀(fuel:Nat) (L:Array Bool) (a:Act) (w:World),L.getD st true=true->wpAny P md ops Q fuel L a w->eY P md ops Q C st fuel L a w
 |0,_,_,_,_,h=>h
 |fuel+1,L,_,_,hl,h=>⟨h.1,fun i hi=>wpOp_mono (fun a' w' h'=>by
   have hs:(L.setIfInBounds i true).getD st true=true:=by
    cases hc:(L.setIfInBounds i true).getD st true with
    |true=>rfl
    |false=>rw[gZ hc]at hl;cases hl
   exact⟨fun h0=>(by rw[hs]at h0;cases h0),ow fuel _ a' w' hs h'⟩) (h.2 i hi)⟩
theorem yc (hr:Region.ready md ops L=[st]) (h:wpAnyH P md ops Q (fun _=>True) (fuel+1) L a w):eY P md ops Q C st (fuel+1) L a w:=by
 refine⟨h.1 |> fun g h0=>g h0,fun i hi=>?_⟩
 have hi':=hi
 rw[hr]at hi'
 obtain rfl:i=st:=by simpa using hi'
 have hs:(L.setIfInBounds i true).getD i true=true:=by
  rcases Nat.lt_or_ge i L.size with h'|h'
  .simp[h']
  .simp
 exact wpOp_mono (fun a' w' h'=>⟨fun h0=>(by rw[hs]at h0;cases h0),ow fuel _ a' w' hs (wpAny_of_held _ _ _ _ h'.2)⟩) (h.2 i hi)
theorem M75 {A:Prop}(h:A:=by
 have h1:=P9 e he hb
 have h0:=(mem_ready.1 hr).1
 rw[heq]at h1
 rcases Nat.lt_or_ge i L.size with h'|h'
 .simp[h']at h0 h1;rw[h0]at h1;cases h1
 .simp[Array.getElem?_eq_none h']at h1):A:=h
theorem vX {i:Nat} {oi:Oper} {v:Value} (hi:ops[i]? =some oi) (hsel:∀(j:Nat) (o:Oper) cs b,ops[j]? =some o->o.op≠.select cs b)
  (hQ:∀c a w,Q (.panic c) (a.put oi.dst v) w->Q (.panic c) a w) (Pb:st≠i) (Oo:∀o,ops[st]? =some o->∃e∈o.after,Region.binds md e=true/\e.on=i):
  ∀(fuel:Nat) (L:Array Bool) (a:Act) (w:World),
   (∀j oj,ops[j]? =some oj->j≠i->L.getD j true=false->(∀e∈oj.after,Region.binds md e=true->e.on≠i)->oi.apart ops oj=true)->
   i∈Region.ready md ops L->L.getD st true=false->YieldsIf P ops C oi v a->C w->
   eY P md ops Q C st fuel (L.setIfInBounds i true) (a.put oi.dst v) w->eY P md ops Q C st (fuel+1) L a w:=by
 intro fuel
 induction fuel with
 |zero=>
  intro L a w _ hr hl hy hS H
  refine⟨fun h=>M!,fun j hj=>?_⟩
  by_cases Ui:j=i
  .subst Ui;exact hy.wpOp hi hS ⟨fun _=>hS,H⟩
  .have:=ready_mono hj Ui
   rw[H.1]at this
   cases this
 |succ fuel ih=>
  intro L a w Vz hr hl hy hS H
  refine⟨fun h=>M!,fun j hj=>?_⟩
  by_cases Ui:j=i
  .subst Ui;exact hy.wpOp hi hS ⟨fun _=>hS,H⟩
  .have h1:=H.2 j (ready_mono hj Ui)
   have⟨abG,oj,hoj,P9⟩:=mem_ready.1 hj
   have Wp:∀e∈oj.after,Region.binds md e=true->e.on≠i:=fun e he hb heq=>by
    exact M75
   have hjs:j≠st:=fun hh=>by
    subst hh
    have⟨e,he,hb,heq⟩:=Oo oj hoj
    exact Wp e he hb heq
   have ZZ:(L.setIfInBounds j true).getD st true=false:=by rw[getD_set_ne true hjs];exact hl
   have Z4:((L.setIfInBounds i true).setIfInBounds j true).getD st true=false:=by rw[getD_set_ne true hjs,getD_set_ne true (Ne.symm Pb)];exact hl
   have h2:=wpOp_putIf hoj (Vz j oj hoj Ui abG Wp) (fun cs b=>hsel i oi cs b hi) (fun cs b=>hsel j oj cs b hoj) hQ hy h1
   have Wj:∀k ok,ops[k]? =some ok->k≠i->(L.setIfInBounds j true).getD k true=false->
     (∀e∈ok.after,Region.binds md e=true->e.on≠i)->oi.apart ops ok=true:=fun k ok hk hki hun OF=>Vz k ok hk hki (gZ hun) OF
   refine wpOp_mono (fun a' w' h3=>⟨fun _=>h3.2.1 Z4,ih (L.setIfInBounds j true) a' w' Wj (ready_mono hr (Ne.symm Ui)) ZZ h3.1 (h3.2.1 Z4) ?_⟩) h2
   rw[Array.setIfInBounds_comm _ _ Ui]
   exact h3.2.2
theorem yb {i:Nat} {oi:Oper} {v:Value} (hi:ops[i]? =some oi) (hsel:∀(j:Nat) (o:Oper) cs b,ops[j]? =some o->o.op≠.select cs b)
  (hQ:∀c a w,Q (.panic c) (a.put oi.dst v) w->Q (.panic c) a w) (Pb:st≠i):
  ∀(fuel:Nat) (L:Array Bool) (a:Act) (w:World),
   (∀j oj,ops[j]? =some oj->j≠i->L.getD j true=false->(∀e∈oj.after,Region.binds md e=true->e.on≠i)->oi.apart ops oj=true)->
   i∈Region.ready md ops L->YieldsIf P ops (fun _=>True) oi v a->(L.getD st true=false->C w)->
   eY P md ops Q C st fuel (L.setIfInBounds i true) (a.put oi.dst v) w->eY P md ops Q C st (fuel+1) L a w:=by
 intro fuel
 induction fuel with
 |zero=>
  intro L a w _ hr hy hS H
  refine⟨fun h=>M!,fun j hj=>?_⟩
  by_cases Ui:j=i
  .subst Ui;exact hy.wpOp hi trivial ⟨fun h0=>hS (gZ h0),H⟩
  .have:=ready_mono hj Ui
   rw[H.1]at this
   cases this
 |succ fuel ih=>
  intro L a w Vz hr hy hS H
  refine⟨fun h=>M!,fun j hj=>?_⟩
  by_cases Ui:j=i
  .subst Ui;exact hy.wpOp hi trivial ⟨fun h0=>hS (gZ h0),H⟩
  .have h1:=H.2 j (ready_mono hj Ui)
   have⟨abG,oj,hoj,P9⟩:=mem_ready.1 hj
   have Wp:∀e∈oj.after,Region.binds md e=true->e.on≠i:=fun e he hb heq=>by
    exact M75
   have Z4:(L.setIfInBounds j true).getD st true=false->((L.setIfInBounds i true).setIfInBounds j true).getD st true=false:=fun h0=>by
    rw[Array.setIfInBounds_comm _ _ (Ne.symm Ui),getD_set_ne true (Ne.symm Pb)];exact h0
   have h2:=wpOp_putIf hoj (Vz j oj hoj Ui abG Wp) (fun cs b=>hsel i oi cs b hi) (fun cs b=>hsel j oj cs b hoj) hQ hy h1
   have Wj:∀k ok,ops[k]? =some ok->k≠i->(L.setIfInBounds j true).getD k true=false->
     (∀e∈ok.after,Region.binds md e=true->e.on≠i)->oi.apart ops ok=true:=fun k ok hk hki hun OF=>Vz k ok hk hki (gZ hun) OF
   refine wpOp_mono (fun a' w' h3=>⟨fun h0=>h3.2.1 (Z4 h0),ih (L.setIfInBounds j true) a' w' Wj (ready_mono hr (Ne.symm Ui)) h3.1 (fun h0=>h3.2.1 (Z4 h0)) ?_⟩) h2
   rw[Array.setIfInBounds_comm _ _ Ui]
   exact h3.2.2
def vZ (md:Region.Mode) (ops:Array Oper) (st i:Nat):Bool:=match ops[st]? with
 |some o=>o.after.any (fun e=>Region.binds md e&&e.on==i)
 |none=>true
theorem yd (h:vZ md ops st i=true):∀o,ops[st]? =some o->∃e∈o.after,Region.binds md e=true/\e.on=i:=by
 intro o ho
 unfold vZ at h
 rw[ho]at h
 have⟨e,he,hb⟩:=Array.any_eq_true'.1 h
 simp only[No,beq_iff_eq]at hb
 exact⟨e,he,hb.1,hb.2⟩
theorem js {oi:Oper} {v:Value} {d:Option Tmp} (hi:ops[i]? =some oi) (hd:oi.dst=d)
  (hs:Region.noSelect ops=true) (hf:Region.free md ops L i=true) (hr:(Region.ready md ops L).contains i=true) (hw:vZ md ops st i=true) (hn:(st==i)=false) (hl:L.getD st true=false)
  (hQ:∀c a w,Q (.panic c) (a.put d v) w->Q (.panic c) a w) (hy:YieldsIf P ops C oi v a) (hC:C w)
  (h:eY P md ops Q C st fuel (L.setIfInBounds i true) (a.put d v) w):eY P md ops Q C st (fuel+1) L a w:=by
 subst hd
 exact vX hi (Region.noSelect_spec hs) hQ (by simpa using hn) (yd hw) fuel L a w (Region.free_spec hi hf) F! hl hy hC h
theorem Ef {oi:Oper} {v:Value} {d:Option Tmp} (hi:ops[i]? =some oi) (hd:oi.dst=d)
  (hs:Region.noSelect ops=true) (hf:Region.free md ops L i=true) (hr:(Region.ready md ops L).contains i=true) (hn:(st==i)=false)
  (hQ:∀c a w,Q (.panic c) (a.put d v) w->Q (.panic c) a w) (hy:YieldsIf P ops (fun _=>True) oi v a) (hC:C w)
  (h:eY P md ops Q C st fuel (L.setIfInBounds i true) (a.put d v) w):eY P md ops Q C st (fuel+1) L a w:=by
 subst hd
 exact yb hi (Region.noSelect_spec hs) hQ (by simpa using hn) fuel L a w (Region.free_spec hi hf) F! hy (fun _=>hC) h
theorem Fa {oi:Oper} {d:Option Tmp} (hi:ops[i]? =some oi) (hd:oi.dst=d)
  (hr:Region.ready md ops L=[i]) (hw:Region.wanted oi (yielded ops a.tmps)=true)
  (h:∀K:Act->World->Prop,Shut (∀v w,C w->(C w->eY P md ops Q C st fuel (L.setIfInBounds i true) (a.put d v) w)->K (a.put d v) w)->Oper.wp P oi a w K Q):eY P md ops Q C st (fuel+1) L a w:=by
 subst hd
 refine⟨fun h0=>(by rw[h0]at hr;cases hr),fun j hj=>?_⟩
 rw[hr]at hj
 obtain rfl:j=i:=A!
 unfold Go.wpOp
 simp only[hi,hw,if_true]
 refine .inl (h _ ?_)
 show ∀v w,_->_->_
 intro v w h1 h2
 exact⟨fun _=>h1,h2 h1⟩
theorem ya {id:Nat} (hm:P.follows .mixedOrders=true) (st:Nat) (hC:C w.drew)
  (h:C w.drew->eY P .any ops Q C st ops.size (Array.replicate ops.size false) a w.drew):(Code.region id ops true).wp P Q a w:=
 wp_region_any hm (sh _ _ _ _ (h hC))
end
theorem Bj (us:List (NS×Value)):∀(k:Nat) (hk:k<us.length) (v:Value),(NX us).set (k*4+3) v=NX (us.set k (us[k].1,v)):=by
 induction us with
 |nil=>intro k hk;simp at hk
 |cons a us ih=>
  intro k hk v
  cases k with
  |zero=>simp[NX]
  |succ k=>
   have e:(k+1)*4+3=(k*4+3)+1+1+1+1:=_a
   rw[e]
   have:=ih k (by simpa using hk) v
   simp[NX]at this ⊢
   exact this
structure lU (w w2:World) (v':Value) (vs:List (NS×Value)) (k:Nat) (wr:World) (us:List (NS×Value)):Prop where
 same:us.map (·.1)=vs.map (·.1)
 row:wr.ownsRow w 113 4 v' vs.length (NX us)
 done:∀j (hj:j<us.length),j<k->bd wr us[j]/\bD (fun x=>x<w2.heap.size) us[j].2 us[j].1.runs.length
 rest:∀j (hj:j<us.length) (TT:j<vs.length),k<=j->us[j]=vs[j]
 kept:NP [] w wr
 size:w2.heap.size<=wr.heap.size
theorem lU.step {w2 w5:World} {g n c' k:Nat} {v3:Value} {vs:List (NS×Value)} (hn:vs.length=n) (h:lU w w2 (g,n,c') vs k wr us) (hk:k<us.length) (NV:k<vs.length) (k5:NP [] wr w5)
  (h3:af w5 v3 vs[k].1.runs wr w5) (Pf:bd w vs[k]) (hg:g<w2.heap.size) (TI:w.heap.size<=g):
  lU w w2 (g,n,c') vs (k+1) (w5.setCell (aa g (k*4+3)) v3) (us.set k (us[k].1,v3)):=by
 subst hn
 have hus:us[k]=vs[k]:=h.rest k hk NV (MG _)
 have kg:NP [g] w5 (w5.setCell (aa g (k*4+3)) v3):=(NP.refl [g] w5).setCell (Or.inl _b) _
 have PW:=h.size
 have hs5:=k5.size
 refine⟨?_,?_,fun j hj hjk=>?_,fun j hj TT hjk=>?_,(h.kept.trans k5).setCell (Or.inr TI) _,?_⟩
 .rw[<-h.same,List.map_set]
  refine List.ext_getElem _b (fun i h1 h2=>?_)
  rw[List.getElem_set]
  split
  .rename_i e;subst e;simp
  .rfl
 .have:=(World.ownsRow.stored (ax h.row k5 _b) (k*4+3) v3).1
  rw[Bj us k hk v3]at this
  exact this
 .by_cases e:j=k
  .subst e
   rw[List.getElem_set_self]
   have RT:bD (fun x=>x<wr.heap.size) v3 vs[j].1.runs.length:=h3.JO (fun x hx=>hx)
   refine⟨⟨?_,?_⟩,?_⟩
   .show af _ v3 us[j].1.runs 0 _
    rw[hus]
    exact(h3.aS kg RT (fun x hx=>by
     obtain rfl:x=g:=_h
     show x<_
     omega)).upto
   .rw[hus];exact Pf.2
   .show bD _ v3 us[j].1.runs.length
    rw[hus]
    intro g' off sp n' c e hn hg'
    exact RT g' off sp n' c e hn (MR hg' PW)
  .have hj0:j<us.length:=A!
   rw[List.getElem_set_ne (fun hh=>e hh.symm)]
   have⟨d1,d2⟩:=h.done j hj0 _a
   refine⟨⟨((d1.kept0 k5).1.aS kg d2 (fun x hx=>by
     obtain rfl:x=g:=_h
     exact hg)).upto,d1.2⟩,d2⟩
 .have hj0:j<us.length:=A!
  rw[List.getElem_set_ne _a]
  exact h.rest j hj0 TT _a
 .have:=kg.size
  omega
theorem lU.off (V:Value) (n:Nat) (hn:n=us.length) (hr:wr.ownsRow w 113 4 V n (NX us)) (h:∀x∈us,bd wr x/\bD (fun x=>x<w.heap.size) x.2 x.1.runs.length):aq (fun x=>x<w.heap.size) wr V (us.map (·.1)):=by
 subst hn
 exact aq.bB hr (fun x hx=>hx) h
theorem we (v:Value) (l:List NS) (w:World) (h:aU w v l) (hl:l.length<=1000000) (hr:∀x∈l,x.runs.length<=1000000):
  am! 67 #[v] w (fp (fun x=>x<w.heap.size) l w):=by
 obtain⟨vs,rfl,hraw,Pf⟩:=h
 have Td:∀y∈vs,fP y.2:=fun y hy=>(Pf y hy).fz
 rw[MP]at hl
 have Qg:=sd v vs.length (NX vs) w hraw (fB Td) hl
 obtain⟨pv,cv,rfl⟩:=hraw.shape
 have⟨QH,HR⟩:=_f Pf hr
 clear hraw Td Pf hr
 go_enter func67,ntmps67
 go_wp2_with fail
 refine Qg.mono ?_;rintro e w2 ⟨v',rfl,NU,k2⟩
 obtain⟨p',c',rfl⟩:=(bO.bB NU).shape
 have⟨Pm,K2⟩:=_f NU k2
 clear NU k2 Qg
 go_wp2_with fail
 go_loopw [9] (fun i wr=>∃(k:Nat) (us:List (NS×Value)),k<=vs.length/\i=.int .i64 (k:Nat)/\lU w w2 (.slice p' vs.length c') vs k wr us) (fun i _=>vs.length-(intOf i).toNat)
 case atStart=>exact⟨0,vs,Nb _,rfl,⟨rfl,Pm.out,fun j hj h0=>_a,fun j _ _ _=>rfl,K2.out,MG _⟩⟩
 case round=>
  obtain⟨k,us,hk,rfl,hA⟩:=hrel
  have hlen:us.length=vs.length:=by have:=congrArg List.length hA.same;simpa using this
  by_cases NV:k<vs.length
  .have i1:(k:Int)<vs.length:=_a
   have⟨g,cap,hv',TI,UK⟩:=hA.row.form _a
   injection hv' with e1 e2 e3
   subst e1
   subst e3
   have hku:k<us.length:=_a
   have hus:=hA.rest k hku NV (MG _)
   have Ou:wr.cell? (aa g (k*4+3))=some vs[k].2:=by
    rw[hA.row.cellAt _ _a,(tc us k hku).2.2.2,hus]
   have Oe:=((QH.out _ (MJ NV)).kept0 hA.kept).1
   have P3:=HR.out vs[k].1 (List.mem_map_of_mem (MJ NV))
   have⟨pk,ck,hvk⟩:=Oe.shape
   rw[hvk]at Ou Oe
   have Qg:=xj _ _ _ _ wr Oe P3
   have⟨HA,Of,OZ⟩:=gg! hA NV hlen
   have aee:=hA.row.frozenAt (k*4+3)
   have S9:=tK Qg
   have HG:=tK (And.intro TI UK)
   have HG3:=tK (ML Pm.out g rfl)
   have HKU:=tK hku
   clear hA hlen hus Oe hk hku P3 hvk TI UK
   go_wp2_with fail
   refine S9.out.mono ?_;rintro e w5 ⟨⟨v3,rfl,h3⟩,k5⟩
   obtain⟨p3,c3,rfl⟩:=h3.shape
   have OG:=ax HA.out.row k5 _b
   have aec:w5.cell? (aa g (k*4+3))=some (.slice pk vs[k].1.runs.length ck):=(k5.cell (by exact HG.out.2) _b).trans Ou
   have ae8:=OG.frozenAt (k*4+3)
   have⟨K5,H3⟩:=_f k5 h3
   clear OG Ou aee h3 k5
   go_wp2_with fail
   go_roundw
   case rel=>exact⟨k+1,us.set k ((us[k]'HKU.out).1,.slice p3 vs[k].1.runs.length c3),Of.out,_j,lU.step rfl HA.out HKU.out Of.out K5.out H3.out (QH.out _ (MJ Of.out)) HG3.out.2 HG3.out.1⟩
   case measure=>(have hh:=Of.out;simp[intOf]<;>omega)
  .have i1:¬(k:Int)<vs.length:=_a
   have⟨HA,OZ⟩:=_f hA hlen
   have hkn:k=vs.length:=_a
   have HKN:=tK hkn
   clear hA hlen hkn hk
   go_wp2_with fail
   go_ret
   have hA:=HA.out
   refine⟨_,rfl,?_,hA.kept⟩
   have e:vs.map (·.1)=us.map (·.1):=hA.same.symm
   rw[e]
   refine lU.off _ _ OZ.out.symm hA.row (fun x hx=>?_)
   obtain⟨j,hj,rfl⟩:=Nr.1 hx
   have⟨d1,d2⟩:=hA.done j hj (by have:=HKN.out;have:=OZ.out;omega)
   exact⟨d1,fun g off sp n' c e' hn hg'=>d2 g off sp n' c e' hn (MR hg' K2.out.size)⟩
theorem L9 {w:World} {B b:Nat} {s:SB} {sv:Value} {c:au} {vb vm vn:Value} {dead:Bool} (hO:ae w B (bL b s sv c vb vm vn dead) 90) (hC:dJ w (.agg #[(c.nextBox,()),(c.nextMan,()),vb,vm,vn]) c)
  (hs:∀l,l=c.boxes\/l=c.mans\/l=c.names->l.length<=1000000/\∀x∈l,x.runs.length<=1000000):
  am! 19 #[B] w fun e w'=>(∃vv,e=.returned vv/\av (fun x=>x<w.heap.size) w' vv c)/\NP [] w w':=by
 obtain⟨_,_,_,e,h1,h2,h3,SU,TS⟩:=hC
 injection e with e
 injection e with e
 injection e with _ e
 injection e with _ e
 injection e with e1 e
 injection e with e2 e
 injection e with e3 _
 subst e1 e2 e3
 obtain⟨p1,c1,rfl⟩:=h1.shape
 obtain⟨p2,c2,rfl⟩:=h2.shape
 obtain⟨p3,c3,rfl⟩:=h3.shape
 have⟨s1,s1'⟩:=hs c.boxes (Or.inl rfl)
 have⟨s2,s2'⟩:=hs c.mans (Or.inr (Or.inl rfl))
 have⟨s3,s3'⟩:=hs c.names (Or.inr (Or.inr rfl))
 unfold bL at hO
 have k0:=((NP.refl [] w).alloc (.cells #[.int .u32 0,.int .u32 0,(),(),()] 52))
 have hOr:=ae.new w #[.int .u32 0,.int .u32 0,(),(),()] 52
 have hOB:=k0.own hO _b
 have HW:=tK (And.intro SU TS)
 have ZB:=tK (fun W (k:NP [] w W)=>we _ _ W (h1.kept0 k) s1 s1')
 have HM0:=tK (fun W (k:NP [] w W)=>we _ _ W (h2.kept0 k) s2 s2')
 have HN0:=tK (fun W (k:NP [] w W)=>we _ _ W (h3.kept0 k) s3 s3')
 unfold fp at ZB HM0 HN0
 have⟨x0,x1,x2,x3,x4,x5,x6,x7,x8,x9,x10,x11,x12⟩:=hOB.ku
 have OR:=tK hOr
 clear hO hOB hOr s1 s1' s2 s2' s3 s3' hs h1 h2 h3 SU TS
 go_enter func19,ntmps19
 go_upto_region 4 with fail
 have Uo:=k0.alloc (.cells #[(c.nextBox,()),(c.nextMan,()),(p1,c.boxes.length,c1),(p2,c.mans.length,c2),(p3,c.names.length,c3)] 52)
 have hOC:=nB w #[.int .u32 0,.int .u32 0,(),(),()] #[(c.nextBox,()),(c.nextMan,()),(p1,c.boxes.length,c1),(p2,c.mans.length,c2),(p3,c.names.length,c3)] 52 52
 have hOR:=OR.out.alloc (.cells #[(c.nextBox,()),(c.nextMan,()),(p1,c.boxes.length,c1),(p2,c.mans.length,c2),(p3,c.names.length,c3)] 52)
 clear x0 x1 x2 x3 x4 x5 x6 x7 x8 x9 x10 x11 x12 k0 OR
 generalize ((w.alloc (.cells #[.int .u32 0,.int .u32 0,(),(),()] 52)).alloc (.cells #[(c.nextBox,()),(c.nextMan,()),(p1,c.boxes.length,c1),(p2,c.mans.length,c2),(p3,c.names.length,c3)] 52))=w1 at*
 have HB:Hid (∀W,NP [] w1 W->am! 67 #[(p1,c.boxes.length,c1)] W fun e w'=>∃v,e=.returned v/\aq (fun x=>x<W.heap.size) w' v c.boxes/\NP [] W w'):=tK (fun W k=>ZB.out W (Uo.trans k))
 have HM:Hid (∀W,NP [] w1 W->am! 67 #[(p2,c.mans.length,c2)] W fun e w'=>∃v,e=.returned v/\aq (fun x=>x<W.heap.size) w' v c.mans/\NP [] W w'):=tK (fun W k=>HM0.out W (Uo.trans k))
 have HN:Hid (∀W,NP [] w1 W->am! 67 #[(p3,c.names.length,c3)] W fun e w'=>∃v,e=.returned v/\aq (fun x=>x<W.heap.size) w' v c.names/\NP [] W w'):=tK (fun W k=>HN0.out W (Uo.trans k))
 obtain⟨nC,hnC⟩:∃nC,w.heap.size+1=nC:=⟨_,rfl⟩
 rw[hnC]at hOC ⊢
 have⟨HNC,K1,OC,OR⟩:=gh! hnC Uo hOC hOR
 clear Uo hOC hOR ZB HM0 HN0
 generalize c.boxes.length=n1 at*
 generalize c.mans.length=n2 at*
 generalize c.names.length=n3 at*
 clear hnC
 have Ow:Hid (∀W,NP [] w1 W->W.cell? (aa nC 2)=(p1,n1,c1)/\W.cell? (aa nC 3)=(p2,n2,c2)/\W.cell? (aa nC 4)=(p3,n3,c3)):=tK (fun W k=>by
  have⟨_,_,a,b,d⟩:=(k.own OC.out _b).k5
  exact⟨a,b,d⟩)
 refine ya (C:=(fun W=>W.cell? (aa nC 2)=(p1,n1,c1)/\W.cell? (aa nC 3)=(p2,n2,c2)/\W.cell? (aa nC 4)=(p3,n3,c3))) _c 10 (by exact Ow.out _ ((NP.refl [] w1).drew)) (fun hHeld=>?_)
 refine js (i:=0) (d:=some 11) (v:=?_) rfl rfl _c _c _c _c _c _c (fun _ _ _ h=>h) (Or.inl ⟨_L,?_⟩) _n ?_
 rotate_left
 ·(intro w RI;(try dsimp only at RI);go_simp;try with_reducible rfl)
 try simp only[Act.put,List.setIfInBounds_toArray,List.set_cons_zero,List.set_cons_succ]
 refine js (i:=1) (d:=some 12) (v:=?_) rfl rfl _c _c _c _c _c _c (fun _ _ _ h=>h) (Or.inl ⟨_L,?_⟩) _n ?_
 rotate_left
 ·(intro w RI;(try dsimp only at RI);go_simp;try with_reducible rfl)
 try simp only[Act.put,List.setIfInBounds_toArray,List.set_cons_zero,List.set_cons_succ]
 refine js (i:=3) (d:=some 14) (v:=?_) rfl rfl _c _c _c _c _c _c (fun _ _ _ h=>h) (Or.inl ⟨_L,?_⟩) _n ?_
 rotate_left
 ·(intro w RI;(try dsimp only at RI);go_simp;try with_reducible rfl)
 try simp only[Act.put,List.setIfInBounds_toArray,List.set_cons_zero,List.set_cons_succ]
 refine js (i:=4) (d:=some 15) (v:=?_) rfl rfl _c _c _c _c _c _c (fun _ _ _ h=>h) (Or.inl ⟨_L,?_⟩) _n ?_
 rotate_left
 ·(intro w RI;(try dsimp only at RI);go_simp;try with_reducible rfl)
 try simp only[Act.put,List.setIfInBounds_toArray,List.set_cons_zero,List.set_cons_succ]
 refine js (i:=6) (d:=some 17) (v:=?_) rfl rfl _c _c _c _c _c _c (fun _ _ _ h=>h) (Or.inl ⟨_L,?_⟩) _n ?_
 rotate_left
 ·(intro w RI;(try dsimp only at RI);go_simp;try with_reducible rfl)
 try simp only[Act.put,List.setIfInBounds_toArray,List.set_cons_zero,List.set_cons_succ]
 refine js (i:=7) (d:=some 18) (v:=?_) rfl rfl _c _c _c _c _c _c (fun _ _ _ h=>h) (Or.inl ⟨_L,?_⟩) _n ?_
 rotate_left
 ·(intro w RI;(try dsimp only at RI);go_simp;try with_reducible rfl)
 try simp only[Act.put,List.setIfInBounds_toArray,List.set_cons_zero,List.set_cons_succ]
 refine Fa (i:=2) (d:=some 13) rfl rfl _c _c (fun K hK=>?_)
 go_simp
 ((with_reducible refine(HB.out _ ((NP.refl [] w1).drew)).mono ?_));rintro e w5 ⟨a,rfl,ha,kw5⟩
 obtain⟨pa,ca,rfl⟩:=ha.plain.shape
 have Hw5:=tK ha
 have Kw5:=tK (((NP.refl [] w1).drew).trans kw5)
 clear ha kw5
 go_wp2_with fail
 refine hK.out _ _ (Ow.out _ Kw5.out) (fun hHeld=>nM ?_)
 clear hK K
 refine Ef (i:=9) (d:=some 20) (v:=?_) rfl rfl _c _c _c _c (fun _ _ _ h=>h) (Or.inl ⟨_L,?_⟩) _n ?_
 rotate_left
 ·(intro w RI;(try dsimp only at RI);go_simp;try with_reducible rfl)
 try simp only[Act.put,List.setIfInBounds_toArray,List.set_cons_zero,List.set_cons_succ]
 refine Fa (i:=5) (d:=some 16) rfl rfl _c _c (fun K hK=>?_)
 go_simp
 ((with_reducible refine(HM.out _ Kw5.out).mono ?_));rintro e w6 ⟨b,rfl,hb,kw6⟩
 obtain⟨pb,cb,rfl⟩:=hb.plain.shape
 have Hw6:=tK hb
 have Kw6:=tK (Kw5.out.trans kw6)
 have K56:=tK kw6
 clear hb kw6
 go_wp2_with fail
 refine hK.out _ _ (Ow.out _ Kw6.out) (fun hHeld=>nM ?_)
 clear hK K
 refine Fa (i:=8) (d:=some 19) rfl rfl _c _c (fun K hK=>?_)
 go_simp
 ((with_reducible refine(HN.out _ Kw6.out).mono ?_));rintro e w7 ⟨d,rfl,hd,kw7⟩
 obtain⟨pd,cd,rfl⟩:=hd.plain.shape
 have Hw7:=tK hd
 have Kw7:=tK (Kw6.out.trans kw7)
 have K67:=tK kw7
 have K57:=tK (K56.out.trans kw7)
 clear hd kw7
 go_wp2_with fail
 refine hK.out _ _ (Ow.out _ Kw7.out) (fun hHeld=>nM ?_)
 clear hK K
 refine yc _c ?_
 have O7:=Kw7.out.own OC.out _b
 have hR7:=tK (Kw7.out.own OR.out _b)
 have⟨z0,z1,z2,z3,z4⟩:=O7.k5
 have⟨y0,y1,y2,y3,y4⟩:=O7.y5
 have O7:=tK O7
 refine rD 10 (fun K hK=>?_)
 go_simp
 go_wp2_with fail
 refine hK.out _ _ trivial (fun hHeld=>nM ?_)
 clear hK K
 refine tS ?_
 refine rD 12 (fun K hK=>?_)
 go_simp
 go_wp2_with fail
 refine hK.out _ _ trivial (fun hHeld=>nM ?_)
 clear hK K
 refine tS ?_
 refine rD 14 (fun K hK=>?_)
 go_simp
 go_wp2_with fail
 refine hK.out _ _ trivial (fun hHeld=>nM ?_)
 clear hK K
 refine Ng _c ?_ _
 try simp only[List.set_cons_succ,List.set_cons_zero]
 have o8:=((O7.out.set 2 (pa,c.boxes.length,ca)).set 3 (pb,c.mans.length,cb)).set 4 (pd,c.names.length,cd)
 have k8:NP [nC] w7 (((w7.setCell (aa nC 2) (pa,c.boxes.length,ca)).setCell (aa nC 3) (pb,c.mans.length,cb)).setCell (aa nC 4) (pd,c.names.length,cd)):=(((NP.refl [nC] w7).setCell (Or.inl _b) _).setCell (Or.inl _b) _).setCell (Or.inl _b) _
 have r8:=k8.own hR7.out (by have:=HNC.out;simp;omega)
 generalize (((w7.setCell (aa nC 2) (pa,c.boxes.length,ca)).setCell (aa nC 3) (pb,c.mans.length,cb)).setCell (aa nC 4) (pd,c.names.length,cd))=w8 at*
 have⟨v0,v1,v2,v3,v4⟩:=(show ae w8 nC #[(c.nextBox,()),(c.nextMan,()),(pa,c.boxes.length,ca),(pb,c.mans.length,cb),(pd,c.names.length,cd)] 52 from o8).k5
 have⟨q0,q1,q2,q3,q4⟩:=r8.k5
 have⟨g0,g1,g2,g3,g4⟩:=r8.y5
 have⟨R8,K8⟩:=_f r8 k8
 clear o8 r8 k8 z0 z1 z2 z3 z4 y0 y1 y2 y3 y4 hR7
 go_wp2_with fail
 have h1:=HNC.out
 have h2:=K1.out.size
 have h5:=Kw5.out.size
 have h6:=Kw6.out.size
 have h7:=Kw7.out.size
 have hC1:=OC.out.lt
 have kf:=NP.ay (g:=w.heap.size) (NP.refl [w.heap.size] w8) (Or.inl _b) (c.nextBox,()) (c.nextMan,()) (pa,c.boxes.length,ca) (pb,c.mans.length,cb) (pd,c.names.length,cd)
 refine MN (v:=.agg #[(c.nextBox,()),(c.nextMan,()),(pa,c.boxes.length,ca),(pb,c.mans.length,cb),(pd,c.names.length,cd)]) (iu results19 rfl (t:=52) ?_ underlying52 rfl _c) rfl ⟨⟨_,rfl,?_⟩,?_⟩
 .exact R8.out.aV _ _ _ _ _
 .have off:∀{S:Nat->Prop} {W:World} {v:Value} {l:List NS},aq S W v l->(∀x,x<w1.heap.size->S x)->NP [] W w7->aq (fun x=>x<w.heap.size) _ v l:=fun{S W v l} h hS k=>
   (((h.weaken hS).kept0 k).aS (T:=[nC]) K8.out (fun x hx=>by
    obtain rfl:x=nC:=_h
    exact hC1)).aS (T:=[w.heap.size]) kf (fun x hx=>by
    obtain rfl:x=w.heap.size:=_h
    show _<_
    omega) |>.weaken (fun x hx=>by show x<_;omega)
  exact⟨_,_,_,rfl,off Hw5.out (fun x hx=>hx) (K57.out),off Hw6.out (fun x hx=>by show x<_;omega) K67.out,off Hw7.out (fun x hx=>by show x<_;omega) (NP.refl _ _),HW.out⟩
 .exact((K1.out.trans Kw7.out).call (T:=[nC]) K8.out (fun x hx=>by
   obtain rfl:x=nC:=_h
   exact Or.inr _a)).call kf (fun x hx=>by
   obtain rfl:x=w.heap.size:=_h
   exact Or.inr (MG _))
theorem I6 {s:SB} {sv:Value} {vb vm vn:Value} {dead:Bool} {hi:Nat} (hO:ae w B (bL b s sv c vb vm vn dead) 90) (hR:af w sv s.runs lo hi) (hl:s.runs.length<=1000000):
  am! 21 #[B] w fun e w'=>(∃vv,e=.returned (.agg (s.cells vv))/\af w' vv s.runs w w')/\NP [] w w':=by
 obtain⟨sq,se,jr,us,sz,rs⟩:=s
 obtain⟨p1,c1,rfl⟩:=hR.shape
 simp only[SB.cells]at*
 unfold bL at hO
 simp only at hO
 have k0:=((NP.refl [] w).alloc (.cells #[.int .u64 0,(0:Int),(0:Int),(0:Int),(0:Int),()] 58))
 have hOr:=ae.new w #[.int .u64 0,(0:Int),(0:Int),(0:Int),(0:Int),()] 58
 have hOB:=k0.own hO _b
 have ZH:=tK (fun W (k:NP [] w W)=>xj _ _ _ _ W (hR.kept0 k) hl)
 have⟨x0,x1,x2,x3,x4,x5,x6,x7,x8,x9,x10,x11,x12⟩:=hOB.ku
 have OR:=tK hOr
 clear hO hOB hOr hl hR
 go_enter func21,ntmps21
 go_upto_region 4 with fail
 have Uo:=k0.alloc (.cells #[.int .u64 sq,se,jr,us,sz,(p1,rs.length,c1)] 58)
 have hOC:=nB w #[.int .u64 0,(0:Int),(0:Int),(0:Int),(0:Int),()] #[.int .u64 sq,se,jr,us,sz,(p1,rs.length,c1)] 58 58
 have hOR:=OR.out.alloc (.cells #[.int .u64 sq,se,jr,us,sz,(p1,rs.length,c1)] 58)
 clear x0 x1 x2 x3 x4 x5 x6 x7 x8 x9 x10 x11 x12 k0 OR
 generalize ((w.alloc (.cells #[.int .u64 0,(0:Int),(0:Int),(0:Int),(0:Int),()] 58)).alloc (.cells #[.int .u64 sq,se,jr,us,sz,(p1,rs.length,c1)] 58))=w1 at*
 obtain⟨nC,hnC⟩:∃nC,w.heap.size+1=nC:=⟨_,rfl⟩
 rw[hnC]at hOC ⊢
 have⟨HNC,K1,OC,OR⟩:=gh! hnC Uo hOC hOR
 have⟨z0,z1,z2,z3,z4,z5⟩:=hOC.c6
 clear Uo hOC hOR hnC
 go_wp2_with fail
 refine(ZH.out _ K1.out).mono ?_;rintro e w5 ⟨⟨v5,rfl,h5⟩,k5⟩
 obtain⟨p5,c5,rfl⟩:=h5.shape
 have oC5:=k5.own OC.out _b
 have oR5:=k5.own OR.out _b
 have⟨u0,u1,u2,u3,u4,u5⟩:=oC5.c6
 have⟨y0,y1,y2,y3,y4,y5⟩:=oC5.z6
 have⟨q0,q1,q2,q3,q4,q5⟩:=oR5.c6
 have⟨g0,g1,g2,g3,g4,g5⟩:=oR5.z6
 have⟨K5,H5,OC5,OR5⟩:=gh! k5 h5 oC5 oR5
 have Pb:w.heap.size≠nC:=by have:=HNC.out;omega
 clear k5 h5 oC5 oR5 z0 z1 z2 z3 z4 z5 ZH
 go_wp2_with fail
 have h1:=HNC.out
 have h2:=K1.out.size
 have hC1:=OC.out.lt
 have k6:NP [nC] w5 (w5.setCell (aa nC 5) (p5,rs.length,c5)):=(NP.refl [nC] w5).setCell (Or.inl _b) _
 have K56:=tK k6.size
 have o6:=k6.own OR5.out _e
 have r6:=H5.out.kept k6 (fun x hx=>by
  obtain rfl:x=nC:=_h
  exact Or.inl hC1)
 have Xs:=(K1.out.trans K5.out).call k6 (fun x hx=>by
  obtain rfl:x=nC:=_h
  exact Or.inr _a)
 clear k6
 generalize w5.setCell (aa nC 5) (p5,rs.length,c5)=w6 at*
 have kf:NP [w.heap.size] w6 _:=NP.bp (b:=w.heap.size) (NP.refl [w.heap.size] w6) (Or.inl _b) (.int .u64 sq) se jr us sz (p5,rs.length,c5)
 refine MN (v:=.agg #[.int .u64 sq,se,jr,us,sz,(p5,rs.length,c5)]) (iu results21 rfl (t:=58) ?_ underlying58 rfl _c) rfl ⟨⟨_,rfl,?_⟩,?_⟩
 .exact o6.bp _ _ _ _ _ _
 .exact(r6.kept kf (fun x hx=>by
   obtain rfl:x=w.heap.size:=_h
   exact Or.inl _a)).weaken h2 (Nk (Nat.le_of_eq rfl) (Nk K56.out kf.size)) (MG _)
 .exact Xs.call kf (fun x hx=>by
   obtain rfl:x=w.heap.size:=_h
   exact Or.inr (MG _))
theorem C3 (h:OL c):∀l,l=c.boxes\/l=c.mans\/l=c.names->l.length<=1000000/\∀x∈l,x.runs.length<=1000000:=fun l hl=>by
 have⟨a,b,d⟩:=h.small
 rcases hl with rfl|rfl|rfl
 .exact a
 .exact b
 .exact d
theorem aL.Ms {T:List Nat} {mb:Nat} (h:aL T w B b sb mb lo v) (hc:OL v.c):∀W,NP [] w W->am! 19 #[B] W fun e w'=>(∃vv,e=.returned vv/\av (fun x=>x<W.heap.size) w' vv v.c)/\NP [] W w':=fun W k=>by
 have⟨sv,vb,vm,vn,o,_,hC⟩:=(h.aJ k).vol
 exact L9 o hC.plain (C3 hc)
structure kQ (w:World) (b sb mb lo r rlo:Nat) (d:DK):Prop where
 da:DA w b sb mb lo d
 qa:QA w r rlo d
 off:bf [] w b sb mb r
 rl:sb<rlo
structure qx (w:World) (b sb mb lo r rlo B R:Nat) (v:VS):Prop where
 vol:aL [B,r,R] w B b sb mb lo v
 qvol:oe (SD [B,r,R] w b sb mb) w R r rlo v
 off:bf [] w b sb mb r/\bf [] w b sb mb R
 rl:sb<rlo
 ne:r≠B/\R≠B
theorem kQ.aJ {mb:Nat} (h:kQ w b sb mb lo r rlo d) (k:NP [] w w'):kQ w' b sb mb lo r rlo d:=⟨h.da.aJ k,h.qa.aJ k,h.off.aside h.da.bH k _b,h.rl⟩
theorem qx.aJ {mb:Nat} (h:qx w b sb mb lo r rlo B R v) (k:NP [] w w'):qx w' b sb mb lo r rlo B R v:=
 ⟨h.vol.aJ k,by rw[SD.kept k h.vol.da.bH];exact h.qvol.aJ k,⟨h.off.1.aside h.vol.da.bH k _b,h.off.2.aside h.vol.da.bH k _b⟩,h.rl,h.ne⟩
theorem qx.side {mb:Nat} (h:qx w b sb mb lo r rlo B R v):kQ w b sb mb lo r rlo v.d:=⟨h.vol.da,h.qvol.qa,h.off.1,h.rl⟩
def mj (w:World) (b sb mb lo r rlo:Nat) (d:DK) (vp rp:Option Addr) (o:Option VS):Prop:=
 (o=none/\vp=none/\rp=none/\kQ w b sb mb lo r rlo d)\/∃B R v,o=some v/\vp=some ⟨B,0,none⟩/\rp=some ⟨R,0,none⟩/\qx w b sb mb lo r rlo B R v/\v.d=d/\v.s.may/\OL v.c/\cQ v.c<=5000
theorem mj.aJ {mb:Nat} (h:mj w b sb mb lo r rlo d vp rp o) (k:NP [] w w'):mj w' b sb mb lo r rlo d vp rp o:=by
 rcases h with⟨h1,h2,h3,h4⟩|⟨B,R,v,h1,h2,h3,h4,h5⟩
 .exact Or.inl ⟨h1,h2,h3,h4.aJ k⟩
 .exact Or.inr ⟨B,R,v,h1,h2,h3,h4.aJ k,h5⟩
theorem mj.side {mb:Nat} (h:mj w b sb mb lo r rlo d vp rp o):kQ w b sb mb lo r rlo d:=by
 rcases h with⟨_,_,_,h4⟩|⟨B,R,v,_,_,_,h4,rfl,_⟩
 .exact h4
 .exact h4.side
theorem Ks {mb:Nat} (h:mj w b sb mb lo r rlo d vp rp o):
  am! 71 #[.agg #[b,r,.pointer vp,.pointer rp]] w fun e w'=>e=true/\NP [] w w':=by
 have OP:=(NP.refl [] w).alloc (.cells #[b,r,.pointer vp,.pointer rp] 66)
 have ox:=ae.new w #[b,r,.pointer vp,.pointer rp] 66
 obtain⟨w1,SU⟩:∃w1,w.alloc (.cells #[b,r,.pointer vp,.pointer rp] 66)=w1:=⟨_,rfl⟩
 have hS:=h.aJ OP
 have hD:=hS.side
 rw[SU]at OP ox hS hD
 have aeO:Hid (∀W,NP [] w1 W->am! 26 #[b] W fun e w'=>e=.returned d.stand.flatten/\NP [] W w'):=tK (fun W k=>(hD.da.aJ k).image.mono fun e w' hh=>⟨hh.1,hh.2.2⟩)
 have ac8:Hid (∀W,NP [] w1 W->am! 136 #[r] W fun e w'=>e=.returned d.stand.flatten/\W=w'):=tK (fun W k=>(hD.qa.aJ k).image)
 have HWA:Hid (∀W,NP [] w1 W->am! 137 #[b] W fun e w'=>e=(d.waits.length:Int)/\W=w'):=tK (fun W k=>J7 b sb mb lo d W (hD.da.aJ k).disk)
 have HOP:Hid (∀W,NP [] w1 W->am! 25 #[b] W fun e w'=>e=(d.ops:Int)/\W=w'):=tK (fun W k=>J8 b sb mb lo d W (hD.da.aJ k).disk)
 have HDO:Hid (∀W,NP [] w1 W->am! 61 #[b] W fun e w'=>e=.returned (.bool d.down)/\W=w'):=tK (fun W k=>Bt b sb mb lo d W (hD.da.aJ k).disk)
 have⟨p0,c0,ps,cs,y0,y1,y2,y3,y4,_⟩:=hD.qa.ref.mz
 have HY:Hid (∀W,NP [] w1 W->W.cell? (aa r 1)=(ps,d.waits.length,cs)/\W.cell? (aa r 3)=(d.ops:Int)/\W.cell? (aa r 4)=some (.bool d.down)):=tK (fun W k=>⟨(k.cell (a:=(aa r 1)) hD.qa.lt _b).trans y1,(k.cell (a:=(aa r 3)) hD.qa.lt _b).trans y3,(k.cell (a:=(aa r 4)) hD.qa.lt _b).trans y4⟩)
 have⟨HS,OX,K1⟩:=gg! hS ox OP
 obtain⟨nX,hnX⟩:∃n,w.heap.size=n:=⟨_,rfl⟩
 rw[hnX]at OX
 generalize d.stand.flatten=IM at*
 obtain⟨WN,hWN⟩:∃n,d.waits.length=n:=⟨_,rfl⟩
 rw[hWN]at HWA HY
 obtain⟨ON,hON⟩:∃n:Int,(d.ops:Int)=n:=⟨_,rfl⟩
 rw[hON]at HOP HY
 generalize d.down=DN at*
 have⟨ZE,RA⟩:=_f SU hnX
 clear h hS hD ox OP y0 y1 y2 y3 y4 hWN hON SU hnX
 go_enter func71,ntmps71
 go_upto_region 1 with fail
 rw[ZE.out,RA.out]
 clear ZE RA
 have HC1:Hid (∀W,NP [] w1 W->W.cell? nX=b/\W.cell? (aa nX 1)=r/\W.cell? (aa r 1)=(ps,WN,cs)/\W.cell? (aa r 3)=ON/\W.cell? (aa r 4)=some (.bool DN)):=tK (fun W k=>by
  have⟨a0,a1,_,_⟩:=(k.own OX.out _b).c4
  exact⟨a0,a1,HY.out W k⟩)
 refine MK (S:=(fun W=>W.cell? nX=b/\W.cell? (aa nX 1)=r/\W.cell? (aa r 1)=(ps,WN,cs)/\W.cell? (aa r 3)=ON/\W.cell? (aa r 4)=some (.bool DN))) _c (by exact HC1.out _ ((NP.refl [] w1).drew)) (fun hHeld=>?_)
 refine tS ?_
 refine rD 2 (fun K hK=>?_)
 go_simp
 ((with_reducible refine(aeO.out _ ((NP.refl [] w1).drew)).mono ?_));rintro e w2 ⟨rfl,k2⟩
 have K2:=tK (((NP.refl [] w1).drew).trans k2)
 clear k2
 go_wp2_with fail
 refine hK.out _ _ (HC1.out _ K2.out) (fun hHeld=>nM ?_)
 clear hK K
 refine rD 5 (fun K hK=>?_)
 go_simp
 ((with_reducible refine(ac8.out _ K2.out).mono ?_));rintro e w3 ⟨rfl,hW⟩
 subst hW
 go_wp2_with fail
 refine hK.out _ _ (HC1.out _ K2.out) (fun hHeld=>nM ?_)
 clear hK K
 refine tS ?_
 refine rD 10 (fun K hK=>?_)
 go_simp
 ((with_reducible refine(HWA.out _ K2.out).mono ?_));rintro e w3 ⟨rfl,hW⟩
 subst hW
 go_wp2_with fail
 refine hK.out _ _ (HC1.out _ K2.out) (fun hHeld=>nM ?_)
 clear hK K
 refine tS ?_
 refine rD 22 (fun K hK=>?_)
 go_simp
 ((with_reducible refine(HOP.out _ K2.out).mono ?_));rintro e w3 ⟨rfl,hW⟩
 subst hW
 go_wp2_with fail
 refine hK.out _ _ (HC1.out _ K2.out) (fun hHeld=>nM ?_)
 clear hK K
 refine tS ?_
 refine rD 33 (fun K hK=>?_)
 go_simp
 ((with_reducible refine(HDO.out _ K2.out).mono ?_));rintro e w3 ⟨rfl,hW⟩
 subst hW
 go_wp2_with fail
 refine hK.out _ _ (HC1.out _ K2.out) (fun hHeld=>nM ?_)
 clear hK K
 refine tS ?_
 refine Ng _c ?_ _
 try simp only[List.set_cons_succ,List.set_cons_zero]
 have OX2:=tK (K2.out.own OX.out _b)
 have⟨x0,x1,x2,x3⟩:=OX2.out.c4
 rcases HS.out with⟨_,rfl,rfl,_⟩|⟨B,R,v,_,rfl,rfl,hV,_,hm,hc,hf⟩
 .clear HS
  go_wp2_with fail
  go_ret
  exact⟨rfl,K1.out.trans K2.out⟩
 .have Yr:=hV.aJ K2.out
  have QK:=tK (Yr.vol.Ms hc)
  obtain⟨sv',vb',vm',vn',oB,⟨⟨PU,PC,hrB⟩,_⟩,_⟩:=Yr.vol.vol
  have hsn:=hm.1
  unfold SB.dD at hsn
  have Su:Hid (∀W,NP [] w2 W->am! 21 #[B] W fun e w'=>(∃vv,e=.returned (.agg (v.s.cells vv))/\af w' vv v.s.runs W.heap.size w')/\NP [] W w'):=tK (fun W k=>I6 (k.own oB _b) (hrB.kept0 k) _a)
  have HFR:Hid (∀W,NP [] w2 W->am! 17 #[B] W fun e w'=>e=(OV (Oh v):Int)/\NP [] W w'):=tK (fun W k=>Am (Yr.vol.aJ k) hm hc hf)
  have HQF:Hid (∀W,NP [] w2 W->am! 139 #[R] W (bh (Oh v) W)):=tK (fun W k=>Jt (Yr.qvol.aJ k) hm hc hf)
  unfold bh at HQF
  have hp:Pl 0 (Oh v):=lC _ _
  have HCO:Hid (∀W u PU PC,af W u (Oh v) PU PC->am! 138 #[u] W fun e w'=>e=(OV (Oh v):Int)/\NP [] W w'):=tK (fun W u PU PC h=>BO u _ PU PC W h (by have:=hp.gX;omega) (gT hp))
  obtain⟨sv,vb,vm,vn,oR,⟨lo2,QZ,hrR⟩,_,hcR⟩:=Yr.qvol.vol
  obtain⟨⟨pb,nb,cb,rfl⟩,⟨pm,nm',cm,rfl⟩,⟨pn,nn,cn,rfl⟩⟩:=av.sr hcR
  have HSC:Hid (∀W vv,NP [] w2 W->dJ W vv v.c->am! 18 #[vv,.agg #[(v.c.nextBox,()),(v.c.nextMan,()),(pb,nb,cb),(pm,nm',cm),(pn,nn,cn)]] W fun e w'=>e=true/\NP [] W w'):=tK (fun W vv k h=>(EH vv _ v.c v.c W h (dJ.kept0 hcR.plain k) hc.small hc.small).mono (fun e w' ⟨b,he,hb,k⟩=>⟨by rw[he,hb.2 rfl],k⟩))
  have HSS:Hid (∀W vs PU PC,NP [] w2 W->af W vs v.s.runs PU PC->am! 20 #[.agg (v.s.cells vs),.agg (v.s.cells sv)] W fun e w'=>e=true/\NP [] W w'):=tK (fun W vs PU PC k h=>(KI v.s v.s vs sv _ _ _ _ W h (hrR.kept0 k) _a _a).mono (fun e w' hh=>⟨by rw[hh.1,SB.Ce],hh.2⟩))
  obtain⟨pv,cv,rfl⟩:=hrR.shape
  have OR:=tK oR
  obtain⟨dd,s,c,dead⟩:=v
  obtain⟨sq,se,jr,us,sz,rs⟩:=s
  generalize OV (Oh _)=CN at*
  generalize hRX:Oh _=RX at*
  simp only[SB.cells]at*
  clear HS hV hm hc hf Yr hrB oB hsn hp hcR hrR oR hRX
  go_upto_region 5 with fail
  have VO:Hid (∀W,NP [] w2 W->W.cell? (aa nX 2)=B/\W.cell? (aa nX 3)=R/\W.cell? (aa R 1)=some (.int .u64 sq)/\W.cell? (aa R 2)=se/\W.cell? (aa R 3)=jr/\W.cell? (aa R 4)=us/\W.cell? (aa R 5)=sz/\W.cell? (aa R 6)=(pv,rs.length,cv)/\W.cell? (aa R 7)=(c.nextBox,())/\W.cell? (aa R 8)=(c.nextMan,())/\W.cell? (aa R 9)=(pb,nb,cb)/\W.cell? (aa R 10)=(pm,nm',cm)/\W.cell? (aa R 11)=(pn,nn,cn)):=tK (fun W k=>by
   have⟨_,_,a2,a3⟩:=(k.own OX2.out _b).c4
   have⟨_,b1,b2,b3,b4,b5,b6,b7,b8,b9,b10,b11,_⟩:=(k.own OR.out _b).ku
   exact⟨a2,a3,b1,b2,b3,b4,b5,b6,b7,b8,b9,b10,b11⟩)
  clear x0 x1 x2 x3
  refine MK (S:=(fun W=>W.cell? (aa nX 2)=B/\W.cell? (aa nX 3)=R/\W.cell? (aa R 1)=some (.int .u64 sq)/\W.cell? (aa R 2)=se/\W.cell? (aa R 3)=jr/\W.cell? (aa R 4)=us/\W.cell? (aa R 5)=sz/\W.cell? (aa R 6)=(pv,rs.length,cv)/\W.cell? (aa R 7)=(c.nextBox,())/\W.cell? (aa R 8)=(c.nextMan,())/\W.cell? (aa R 9)=(pb,nb,cb)/\W.cell? (aa R 10)=(pm,nm',cm)/\W.cell? (aa R 11)=(pn,nn,cn))) _c (by exact VO.out _ ((NP.refl [] w2).drew)) (fun hHeld=>?_)
  refine tS ?_
  refine rD 6 (fun K hK=>?_)
  go_simp
  ((with_reducible refine(QK.out _ ((NP.refl [] w2).drew)).mono ?_));rintro e w3 ⟨⟨vv,rfl,XL⟩,k3⟩
  have K3:=tK (((NP.refl [] w2).drew).trans k3)
  have HCV:=tK XL
  clear k3 XL
  go_wp2_with fail
  refine hK.out _ _ (VO.out _ K3.out) (fun hHeld=>nM ?_)
  clear hK K
  refine rD 12 (fun K hK=>?_)
  go_simp
  ((with_reducible refine(HSC.out _ vv K3.out HCV.out.plain).mono ?_));rintro e w4 ⟨rfl,k4⟩
  have K4:=tK (K3.out.trans k4)
  clear k4
  go_wp2_with fail
  refine hK.out _ _ (VO.out _ K4.out) (fun hHeld=>nM ?_)
  clear hK K
  refine tS ?_
  refine rD 17 (fun K hK=>?_)
  go_simp
  ((with_reducible refine(Su.out _ K4.out).mono ?_));rintro e w5 ⟨⟨vs,rfl,hrs⟩,k5⟩
  have K5:=tK (K4.out.trans k5)
  have HRS:=tK hrs
  clear k5 hrs
  go_wp2_with fail
  refine hK.out _ _ (VO.out _ K5.out) (fun hHeld=>nM ?_)
  clear hK K
  refine rD 23 (fun K hK=>?_)
  go_simp
  ((with_reducible refine(HSS.out _ vs _ _ K5.out HRS.out).mono ?_));rintro e w6 ⟨rfl,k6⟩
  have K6:=tK (K5.out.trans k6)
  clear k6
  go_wp2_with fail
  refine hK.out _ _ (VO.out _ K6.out) (fun hHeld=>nM ?_)
  clear hK K
  refine tS ?_
  refine rD 28 (fun K hK=>?_)
  go_simp
  ((with_reducible refine(HFR.out _ K6.out).mono ?_));rintro e w7 ⟨rfl,k7⟩
  have K7:=tK (K6.out.trans k7)
  clear k7
  go_wp2_with fail
  refine hK.out _ _ (VO.out _ K7.out) (fun hHeld=>nM ?_)
  clear hK K
  refine rD 31 (fun K hK=>?_)
  go_simp
  ((with_reducible refine(HQF.out _ K7.out).mono ?_));rintro e w8 ⟨u,rfl,hu,k8⟩
  have K8:=tK (K7.out.trans k8)
  have HU:=tK (af.bB hu)
  obtain⟨pu,cu,rfl⟩:=ah hu
  clear k8 hu
  go_wp2_with fail
  refine hK.out _ _ (VO.out _ K8.out) (fun hHeld=>nM ?_)
  clear hK K
  refine rD 32 (fun K hK=>?_)
  go_simp
  ((with_reducible refine(HCO.out _ _ _ _ HU.out).mono ?_));rintro e w9 ⟨rfl,k9⟩
  have K9:=tK (K8.out.trans k9)
  clear k9
  go_wp2_with fail
  refine hK.out _ _ (VO.out _ K9.out) (fun hHeld=>nM ?_)
  clear hK K
  refine tS ?_
  refine Ng _c ?_ _
  try simp only[List.set_cons_succ,List.set_cons_zero]
  go_wp2_with fail
  go_ret
  exact⟨rfl,(K1.out.trans K2.out).trans K9.out⟩

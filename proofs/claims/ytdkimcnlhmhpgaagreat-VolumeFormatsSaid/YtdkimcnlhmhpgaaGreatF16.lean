/- -/
import Derived.Test.YtdkimcnlhmhpgaaGreatF15
set_option maxHeartbeats 32000000
set_option maxRecDepth 100000
namespace Go.Proofs.YtdkimcnlhmhpgaaGreat
section
open Go.Proofs.Tryz Go.RowKit
variable {L:Array Bool} {i fuel B b lo sb r rlo R:Nat} {a:Act} {w wr w':World} {v:VS} {us:List (NS×Value)} {c:au} {d:DK} {vp rp:Option Addr} {o:Option VS}
section
variable {P:Program} {ops:Array Oper} {Q:Exit->Act->World->Prop} {md:Region.Mode} {C:World->Prop} {st:Nat}
def eY (P:Program) (md:Region.Mode) (ops:Array Oper) (Q:Exit->Act->World->Prop) (C:World->Prop) (st:Nat):Nat->Array Bool->Act->World->Prop
 |0,L,a,w=>Region.ready md ops L=[]/\Q .normal a w
 |fuel+1,L,a,w=>(Region.ready md ops L=[]->Q .normal a w)/\
  ∀i∈Region.ready md ops L,wpOp P ops Q i (fun a' w'=>((L.setIfInBounds i true).getD st true=false->C w')/\eY P md ops Q C st fuel (L.setIfInBounds i true) a' w') a w
theorem sh:∀(fuel:Nat) (L:Array Bool) (a:Act) (w:World),eY P md ops Q C st fuel L a w->wpAny P md ops Q fuel L a w
 |0,_,_,_,h=>h
 |fuel+1,_,_,_,h=>⟨h.1,fun i hi=>wpOp_mono (fun a' w' h'=>sh fuel _ a' w' h'.2) (h.2 i hi)⟩
theorem gZ {j} (h:(L.setIfInBounds i true).getD j true=false):L.getD j true=false:=by
 by_cases VM:i=j
 .subst VM
  rcases Nat.lt_or_ge i L.size with h'|h'
  .simp[h']at h
  .simp at h
 .rw[getD_set_ne true VM]at h;exact h
theorem ow:∀(fuel:Nat) (L:Array Bool) (a:Act) (w:World),L.getD st true=true->wpAny P md ops Q fuel L a w->eY P md ops Q C st fuel L a w
 |0,_,_,_,_,h=>h
 |fuel+1,L,_,_,hl,h=>⟨h.1,fun i hi=>wpOp_mono (fun a' w' h'=>by
   have hs:(L.setIfInBounds i true).getD st true=true:=by
    cases hc:(L.setIfInBounds i true).getD st true with
    |true=>rfl
    |false=>rw[gZ hc]at hl;cases hl
   exact⟨fun h0=>(by rw[hs]at h0;cases h0),ow fuel _ a' w' hs h'⟩) (h.2 i hi)⟩
theorem yc (hr:Region.ready md ops L=[st]) (h:wpAnyH P md ops Q (fun _=>True) (fuel+1) L a w):eY P md ops Q C st (fuel+1) L a w:=by
 refine⟨h.1 |> fun g h0=>g h0,fun i hi=>?_⟩
 have hi':=hi
 rw[hr]at hi'
 obtain rfl:i=st:=by simpa using hi'
 have hs:(L.setIfInBounds i true).getD i true=true:=by
  rcases Nat.lt_or_ge i L.size with h'|h'
  .simp[h']
  .simp
 exact wpOp_mono (fun a' w' h'=>⟨fun h0=>(by rw[hs]at h0;cases h0),ow fuel _ a' w' hs (wpAny_of_held _ _ _ _ h'.2)⟩) (h.2 i hi)
theorem M75 {A:Prop}(h:A:=by
 have h1:=P9 e he hb
 have h0:=(mem_ready.1 hr).1
 rw[heq]at h1
 rcases Nat.lt_or_ge i L.size with h'|h'
 .simp[h']at h0 h1;rw[h0]at h1;cases h1
 .simp[Array.getElem?_eq_none h']at h1):A:=h
theorem vX {i} {oi:Oper} {v} (hi:ops[i]? =some oi) (hsel:∀(j:Nat) (o:Oper) cs b,ops[j]? =some o->o.op≠.select cs b) (hQ:∀c a w,Q (.panic c) (a.put oi.dst v) w->Q (.panic c) a w) (Pb:st≠i) (Oo:∀o,ops[st]? =some o->∃e∈o.after,Region.binds md e=true/\e.on=i):
  ∀(fuel:Nat) (L:Array Bool) (a:Act) (w:World),
   (∀j oj,ops[j]? =some oj->j≠i->L.getD j true=false->(∀e∈oj.after,Region.binds md e=true->e.on≠i)->oi.apart ops oj=true)->
   i∈Region.ready md ops L->L.getD st true=false->YieldsIf P ops C oi v a->C w->
   eY P md ops Q C st fuel (L.setIfInBounds i true) (a.put oi.dst v) w->eY P md ops Q C st (fuel+1) L a w:=by
 intro fuel
 induction fuel with
 |zero=>
  intro L a w _ hr hl hy hS H
  refine⟨fun h=>M!,fun j hj=>?_⟩
  by_cases Ui:j=i
  .subst Ui;exact hy.wpOp hi hS ⟨fun _=>hS,H⟩
  .have:=ready_mono hj Ui
   rw[H.1]at this
   cases this
 |succ fuel ih=>
  intro L a w Vz hr hl hy hS H
  refine⟨fun h=>M!,fun j hj=>?_⟩
  by_cases Ui:j=i
  .subst Ui;exact hy.wpOp hi hS ⟨fun _=>hS,H⟩
  .have h1:=H.2 j (ready_mono hj Ui)
   have⟨abG,oj,hoj,P9⟩:=mem_ready.1 hj
   have Wp:∀e∈oj.after,Region.binds md e=true->e.on≠i:=fun e he hb heq=>by
    exact M75
   have hjs:j≠st:=fun hh=>by
    subst hh
    have⟨e,he,hb,heq⟩:=Oo oj hoj
    exact Wp e he hb heq
   have ZZ:(L.setIfInBounds j true).getD st true=false:=by rw[getD_set_ne true hjs];exact hl
   have Z4:((L.setIfInBounds i true).setIfInBounds j true).getD st true=false:=by rw[getD_set_ne true hjs,getD_set_ne true (Ne.symm Pb)];exact hl
   have h2:=wpOp_putIf hoj (Vz j oj hoj Ui abG Wp) (fun cs b=>hsel i oi cs b hi) (fun cs b=>hsel j oj cs b hoj) hQ hy h1
   have Wj:∀k ok,ops[k]? =some ok->k≠i->(L.setIfInBounds j true).getD k true=false->
     (∀e∈ok.after,Region.binds md e=true->e.on≠i)->oi.apart ops ok=true:=fun k ok hk hki hun OF=>Vz k ok hk hki (gZ hun) OF
   refine wpOp_mono (fun a' w' h3=>⟨fun _=>h3.2.1 Z4,ih (L.setIfInBounds j true) a' w' Wj (ready_mono hr (Ne.symm Ui)) ZZ h3.1 (h3.2.1 Z4) ?_⟩) h2
   rw[Array.setIfInBounds_comm _ _ Ui]
   exact h3.2.2
theorem yb {i} {oi:Oper} {v} (hi:ops[i]? =some oi) (hsel:∀(j:Nat) (o:Oper) cs b,ops[j]? =some o->o.op≠.select cs b) (hQ:∀c a w,Q (.panic c) (a.put oi.dst v) w->Q (.panic c) a w) (Pb:st≠i):
  ∀(fuel:Nat) (L:Array Bool) (a:Act) (w:World),
   (∀j oj,ops[j]? =some oj->j≠i->L.getD j true=false->(∀e∈oj.after,Region.binds md e=true->e.on≠i)->oi.apart ops oj=true)->
   i∈Region.ready md ops L->YieldsIf P ops (fun _=>True) oi v a->(L.getD st true=false->C w)->
   eY P md ops Q C st fuel (L.setIfInBounds i true) (a.put oi.dst v) w->eY P md ops Q C st (fuel+1) L a w:=by
 intro fuel
 induction fuel with
 |zero=>
  intro L a w _ hr hy hS H
  refine⟨fun h=>M!,fun j hj=>?_⟩
  by_cases Ui:j=i
  .subst Ui;exact hy.wpOp hi trivial ⟨fun h0=>hS (gZ h0),H⟩
  .have:=ready_mono hj Ui
   rw[H.1]at this
   cases this
 |succ fuel ih=>
  intro L a w Vz hr hy hS H
  refine⟨fun h=>M!,fun j hj=>?_⟩
  by_cases Ui:j=i
  .subst Ui;exact hy.wpOp hi trivial ⟨fun h0=>hS (gZ h0),H⟩
  .have h1:=H.2 j (ready_mono hj Ui)
   have⟨abG,oj,hoj,P9⟩:=mem_ready.1 hj
   have Wp:∀e∈oj.after,Region.binds md e=true->e.on≠i:=fun e he hb heq=>by
    exact M75
   have Z4:(L.setIfInBounds j true).getD st true=false->((L.setIfInBounds i true).setIfInBounds j true).getD st true=false:=fun h0=>by
    rw[Array.setIfInBounds_comm _ _ (Ne.symm Ui),getD_set_ne true (Ne.symm Pb)];exact h0
   have h2:=wpOp_putIf hoj (Vz j oj hoj Ui abG Wp) (fun cs b=>hsel i oi cs b hi) (fun cs b=>hsel j oj cs b hoj) hQ hy h1
   have Wj:∀k ok,ops[k]? =some ok->k≠i->(L.setIfInBounds j true).getD k true=false->
     (∀e∈ok.after,Region.binds md e=true->e.on≠i)->oi.apart ops ok=true:=fun k ok hk hki hun OF=>Vz k ok hk hki (gZ hun) OF
   refine wpOp_mono (fun a' w' h3=>⟨fun h0=>h3.2.1 (Z4 h0),ih (L.setIfInBounds j true) a' w' Wj (ready_mono hr (Ne.symm Ui)) h3.1 (fun h0=>h3.2.1 (Z4 h0)) ?_⟩) h2
   rw[Array.setIfInBounds_comm _ _ Ui]
   exact h3.2.2
def vZ (md:Region.Mode) (ops:Array Oper) (st i:Nat):Bool:=match ops[st]? with
 |some o=>o.after.any (fun e=>Region.binds md e&&e.on==i)
 |none=>true
theorem yd {i:Nat} (h:vZ md ops st i=true):∀o,ops[st]? =some o->∃e∈o.after,Region.binds md e=true/\e.on=i:=by
 intro o ho
 unfold vZ at h
 grind
theorem js {oi:Oper} {v d} (hi:ops[i]? =some oi) (hd:oi.dst=d) (hs:Region.noSelect ops=true) (hf:Region.free md ops L i=true) (hr:(Region.ready md ops L).contains i=true) (hw:vZ md ops st i=true) (hn:(st==i)=false) (hl:L.getD st true=false) (hQ:∀c a w,Q (.panic c) (a.put d v) w->Q (.panic c) a w) (hy:YieldsIf P ops C oi v a) (hC:C w) (h:eY P md ops Q C st fuel (L.setIfInBounds i true) (a.put d v) w):eY P md ops Q C st (fuel+1) L a w:=by
 subst hd
 exact vX hi (Region.noSelect_spec hs) hQ (by simpa using hn) (yd hw) fuel L a w (Region.free_spec hi hf) F! hl hy hC h
theorem Ef {oi:Oper} {v d} (hi:ops[i]? =some oi) (hd:oi.dst=d) (hs:Region.noSelect ops=true) (hf:Region.free md ops L i=true) (hr:(Region.ready md ops L).contains i=true) (hn:(st==i)=false) (hQ:∀c a w,Q (.panic c) (a.put d v) w->Q (.panic c) a w) (hy:YieldsIf P ops (fun _=>True) oi v a) (hC:C w) (h:eY P md ops Q C st fuel (L.setIfInBounds i true) (a.put d v) w):eY P md ops Q C st (fuel+1) L a w:=by
 subst hd
 exact yb hi (Region.noSelect_spec hs) hQ (by simpa using hn) fuel L a w (Region.free_spec hi hf) F! hy (fun _=>hC) h
theorem Fa {oi:Oper} {d} (hi:ops[i]? =some oi) (hd:oi.dst=d) (hr:Region.ready md ops L=[i]) (hw:Region.wanted oi (yielded ops a.tmps)=true) (h:∀K:Act->World->Prop,Shut (∀v w,C w->(C w->eY P md ops Q C st fuel (L.setIfInBounds i true) (a.put d v) w)->K (a.put d v) w)->Oper.wp P oi a w K Q):eY P md ops Q C st (fuel+1) L a w:=by
 subst hd
 refine⟨fun h0=>(by rw[h0]at hr;cases hr),fun j hj=>?_⟩
 rw[hr]at hj
 obtain rfl:j=i:=A!
 unfold Go.wpOp
 simp only[hi,hw,if_true]
 refine .inl (h _ ?_)
 show ∀v w,_->_->_
 intro v w h1 h2
 exact⟨fun _=>h1,h2 h1⟩
theorem ya {id} (hm:P.follows .mixedOrders=true) (st) (hC:C w.drew) (h:C w.drew->eY P .any ops Q C st ops.size (Array.replicate ops.size false) a w.drew):(Code.region id ops true).wp P Q a w:=
 wp_region_any hm (sh _ _ _ _ (h hC))
end
theorem Bj (us):∀(k:Nat) (hk:k<us.length) (v:Value),(NX us).set (k*4+3) v=NX (us.set k (us[k].1,v)):=by
 induction us with
 |nil=>intro k hk;simp at hk
 |cons a us ih=>
  intro k hk v
  cases k with
  |zero=>simp[NX]
  |succ k=>
   have e:(k+1)*4+3=(k*4+3)+1+1+1+1:=a?
   rw[e]
   have:=ih k (by simpa using hk) v
   simp[NX]at this ⊢
   exact this
structure lU (w w2:World) (v':Value) (vs:List (NS×Value)) (k:Nat) (wr:World) (us:List (NS×Value)):Prop where
 same:us.map (·.1)=vs.map (·.1)
 row:wr.ownsRow w 113 4 v' vs.length (NX us)
 done:∀j (hj:j<us.length),j<k->bd wr us[j]/\bD (fun x=>x<w2.heap.size) us[j].2 us[j].1.runs.length
 rest:∀j (hj:j<us.length) (TT:j<vs.length),k<=j->us[j]=vs[j]
 kept:NP [] w wr
 size:w2.heap.size<=wr.heap.size
theorem lU.step {w2 w5} {g n c' k:Nat} {v3 vs} (hn:vs.length=n) (h:lU w w2 (g,n,c') vs k wr us) (hk:k<us.length) (NV:k<vs.length) (k5:NP [] wr w5) (h3:af w5 v3 vs[k].1.runs wr w5) (Pf:bd w vs[k]) (hg:g<w2.heap.size) (TI:w.heap.size<=g):
  lU w w2 (g,n,c') vs (k+1) (w5.setCell (aa g (k*4+3)) v3) (us.set k (us[k].1,v3)):=by
 subst hn
 have hus:us[k]=vs[k]:=h.rest k hk NV (MG _)
 have kg:NP [g] w5 (w5.setCell (aa g (k*4+3)) v3):=(NP.refl [g] w5).setCell (Or.inl b?) _
 have PW:=h.size
 have hs5:=k5.size
 refine⟨?_,?_,fun j hj hjk=>?_,fun j hj TT hjk=>?_,(h.kept.trans k5).setCell (Or.inr TI) _,?_⟩
 .rw[<-h.same,List.map_set]
  refine List.ext_getElem b? (fun i h1 h2=>?_)
  rw[List.getElem_set]
  split
  .rename_i e;subst e;simp
  .rfl
 .have:=(World.ownsRow.stored (ax h.row k5 b?) (k*4+3) v3).1
  rw[Bj us k hk v3]at this
  exact this
 .by_cases e:j=k
  .subst e
   rw[List.getElem_set_self]
   have RT:bD (fun x=>x<wr.heap.size) v3 vs[j].1.runs.length:=h3.JO (fun x hx=>hx)
   refine⟨⟨?_,?_⟩,?_⟩
   .show af _ v3 us[j].1.runs 0 _
    rw[hus]
    exact(h3.aS kg RT (fun x hx=>by
     obtain rfl:x=g:=h?
     show x<_
     omega)).upto
   .rw[hus];exact Pf.2
   .show bD _ v3 us[j].1.runs.length
    rw[hus]
    intro g' off sp n' c e hn hg'
    exact RT g' off sp n' c e hn (MR hg' PW)
  .have hj0:j<us.length:=A!
   rw[List.getElem_set_ne (fun hh=>e hh.symm)]
   have⟨d1,d2⟩:=h.done j hj0 a?
   refine⟨⟨((d1.kept0 k5).1.aS kg d2 (fun x hx=>by
     obtain rfl:x=g:=h?
     exact hg)).upto,d1.2⟩,d2⟩
 .have hj0:j<us.length:=A!
  rw[List.getElem_set_ne a?]
  exact h.rest j hj0 TT a?
 .have:=kg.size
  omega
theorem lU.off (V n) (hn:n=us.length) (hr:wr.ownsRow w 113 4 V n (NX us)) (h:∀x∈us,bd wr x/\bD (fun x=>x<w.heap.size) x.2 x.1.runs.length):aq (fun x=>x<w.heap.size) wr V (us.map (·.1)):=by
 subst hn
 exact aq.bB hr (fun x hx=>hx) h
theorem we (v l w) (h:aU w v l) (hl:l.length<=1000000) (hr:∀x∈l,x.runs.length<=1000000):
  am! 67 #[v] w (fp (fun x=>x<w.heap.size) l w):=by
 obtain⟨vs,rfl,hraw,Pf⟩:=h
 have Td:=fun y hy=>(Pf y hy).fz
 rw[MP]at hl
 have Qg:=sd v vs.length (NX vs) w hraw (fB Td) hl
 obtain⟨pv,cv,rfl⟩:=hraw.shape
 have⟨QH,HR⟩:=f? Pf hr
 clear hraw Td Pf hr
 go_enter func67,ntmps67
 go_wp2_with fail
 refine Qg.mono ?_;rintro e w2 ⟨v',rfl,NU,k2⟩
 obtain⟨p',c',rfl⟩:=(bO.bB NU).shape
 have⟨Pm,K2⟩:=f? NU k2
 clear NU k2 Qg
 go_wp2_with fail
 go_loopw [9] (fun i wr=>∃(k:Nat) (us:List (NS×Value)),k<=vs.length/\i=.int .i64 (k:Nat)/\lU w w2 (.slice p' vs.length c') vs k wr us) (fun i _=>vs.length-(intOf i).toNat)
 case atStart=>exact⟨0,vs,Nb _,rfl,⟨rfl,Pm.out,fun j hj h0=>a?,fun j _ _ _=>rfl,K2.out,MG _⟩⟩
 case round=>
  obtain⟨k,us,hk,rfl,hA⟩:=hrel
  have hlen:us.length=vs.length:=by have:=congrArg List.length hA.same;simpa using this
  by_cases NV:k<vs.length
  .have i1:(k:Int)<vs.length:=a?
   have⟨g,cap,hv',TI,UK⟩:=hA.row.form a?
   injection hv' with e1 e2 e3
   subst e1
   subst e3
   have hku:k<us.length:=a?
   have hus:=hA.rest k hku NV (MG _)
   have Ou:wr.cell? (aa g (k*4+3))=some vs[k].2:=by
    rw[hA.row.cellAt _ a?,(tc us k hku).2.2.2,hus]
   have Oe:=((QH.out _ (MJ NV)).kept0 hA.kept).1
   have P3:=HR.out vs[k].1 (List.mem_map_of_mem (MJ NV))
   have⟨pk,ck,hvk⟩:=Oe.shape
   rw[hvk]at Ou Oe
   have Qg:=xj _ _ _ _ wr Oe P3
   have⟨HA,Of,OZ⟩:=gg! hA NV hlen
   have aee:=hA.row.frozenAt (k*4+3)
   have S9:=tK Qg
   have HG:=tK (And.intro TI UK)
   have HG3:=tK (ML Pm.out g rfl)
   have HKU:=tK hku
   clear hA hlen hus Oe hk hku P3 hvk TI UK
   go_wp2_with fail
   refine S9.out.mono ?_;rintro e w5 ⟨⟨v3,rfl,h3⟩,k5⟩
   obtain⟨p3,c3,rfl⟩:=h3.shape
   have OG:=ax HA.out.row k5 b?
   have aec:w5.cell? (aa g (k*4+3))=some (.slice pk vs[k].1.runs.length ck):=(k5.cell (by exact HG.out.2) b?).trans Ou
   have ae8:=OG.frozenAt (k*4+3)
   have⟨K5,H3⟩:=f? k5 h3
   clear OG Ou aee h3 k5
   go_wp2_with fail
   go_roundw
   case rel=>exact⟨k+1,us.set k ((us[k]'HKU.out).1,.slice p3 vs[k].1.runs.length c3),Of.out,j?,lU.step rfl HA.out HKU.out Of.out K5.out H3.out (QH.out _ (MJ Of.out)) HG3.out.2 HG3.out.1⟩
   case measure=>(have hh:=Of.out;simp[intOf]<;>omega)
  .have i1:¬(k:Int)<vs.length:=a?
   have⟨HA,OZ⟩:=f? hA hlen
   have hkn:k=vs.length:=a?
   have HKN:=tK hkn
   clear hA hlen hkn hk
   go_wp2_with fail
   go_ret
   have hA:=HA.out
   refine⟨_,rfl,?_,hA.kept⟩
   have e:vs.map (·.1)=us.map (·.1):=hA.same.symm
   rw[e]
   refine lU.off _ _ OZ.out.symm hA.row (fun x hx=>?_)
   obtain⟨j,hj,rfl⟩:=Nr.1 hx
   have⟨d1,d2⟩:=hA.done j hj (by have:=HKN.out;have:=OZ.out;omega)
   exact⟨d1,fun g off sp n' c e' hn hg'=>d2 g off sp n' c e' hn (MR hg' K2.out.size)⟩
theorem L9 {w B b s sv c vb vm vn dead} (hO:ae w B (bL b s sv c vb vm vn dead) 90) (hC:dJ w (.agg #[(c.nextBox,()),(c.nextMan,()),vb,vm,vn]) c) (hs:∀l,l=c.boxes\/l=c.mans\/l=c.names->l.length<=1000000/\∀x∈l,x.runs.length<=1000000):
  am! 19 #[B] w fun e w'=>(∃vv,e=.returned vv/\av (fun x=>x<w.heap.size) w' vv c)/\NP [] w w':=by
 obtain⟨_,_,_,e,h1,h2,h3,SU,TS⟩:=hC
 injection e with e
 injection e with e
 injection e with _ e
 injection e with _ e
 injection e with e1 e
 injection e with e2 e
 injection e with e3 _
 subst e1 e2 e3
 obtain⟨p1,c1,rfl⟩:=h1.shape
 obtain⟨p2,c2,rfl⟩:=h2.shape
 obtain⟨p3,c3,rfl⟩:=h3.shape
 have⟨s1,s1'⟩:=hs c.boxes (Or.inl rfl)
 have⟨s2,s2'⟩:=hs c.mans (Or.inr (Or.inl rfl))
 have⟨s3,s3'⟩:=hs c.names (Or.inr (Or.inr rfl))
 unfold bL at hO
 have k0:=((NP.refl [] w).alloc (.cells #[.int .u32 0,.int .u32 0,(),(),()] 52))
 have hOr:=ae.new w #[.int .u32 0,.int .u32 0,(),(),()] 52
 have hOB:=k0.own hO b?
 have HW:=tK (And.intro SU TS)
 have ZB:=tK (fun W (k:NP [] w W)=>we _ _ W (h1.kept0 k) s1 s1')
 have HM0:=tK (fun W (k:NP [] w W)=>we _ _ W (h2.kept0 k) s2 s2')
 have HN0:=tK (fun W (k:NP [] w W)=>we _ _ W (h3.kept0 k) s3 s3')
 unfold fp at ZB HM0 HN0
 have⟨x0,x1,x2,x3,x4,x5,x6,x7,x8,x9,x10,x11,x12⟩:=hOB.ku
 have OR:=tK hOr
 clear hO hOB hOr s1 s1' s2 s2' s3 s3' hs h1 h2 h3 SU TS
 go_enter func19,ntmps19
 go_upto_region 4 with fail
 have Uo:=k0.alloc (.cells #[(c.nextBox,()),(c.nextMan,()),(p1,c.boxes.length,c1),(p2,c.mans.length,c2),(p3,c.names.length,c3)] 52)
 have hOC:=nB w #[.int .u32 0,.int .u32 0,(),(),()] #[(c.nextBox,()),(c.nextMan,()),(p1,c.boxes.length,c1),(p2,c.mans.length,c2),(p3,c.names.length,c3)] 52 52
 have hOR:=OR.out.alloc (.cells #[(c.nextBox,()),(c.nextMan,()),(p1,c.boxes.length,c1),(p2,c.mans.length,c2),(p3,c.names.length,c3)] 52)
 clear x0 x1 x2 x3 x4 x5 x6 x7 x8 x9 x10 x11 x12 k0 OR
 generalize ((w.alloc (.cells #[.int .u32 0,.int .u32 0,(),(),()] 52)).alloc (.cells #[(c.nextBox,()),(c.nextMan,()),(p1,c.boxes.length,c1),(p2,c.mans.length,c2),(p3,c.names.length,c3)] 52))=w1 at*
 have HB:=tK fun W k=>ZB.out W (Uo.trans k)
 have HM:=tK fun W k=>HM0.out W (Uo.trans k)
 have HN:=tK fun W k=>HN0.out W (Uo.trans k)
 obtain⟨nC,hnC⟩:∃nC,w.heap.size+1=nC:=⟨_,rfl⟩
 rw[hnC]at hOC ⊢
 have⟨HNC,K1,OC,OR⟩:=gh! hnC Uo hOC hOR
 clear Uo hOC hOR ZB HM0 HN0
 generalize c.boxes.length=n1 at*
 generalize c.mans.length=n2 at*
 generalize c.names.length=n3 at*
 clear hnC
 have Ow:Hid (∀W,NP [] w1 W->W.cell? (aa nC 2)=(p1,n1,c1)/\W.cell? (aa nC 3)=(p2,n2,c2)/\W.cell? (aa nC 4)=(p3,n3,c3)):=tK (fun W k=>by
  have⟨_,_,a,b,d⟩:=(k.own OC.out b?).k5
  exact⟨a,b,d⟩)
 refine ya (C:=(fun W=>W.cell? (aa nC 2)=(p1,n1,c1)/\W.cell? (aa nC 3)=(p2,n2,c2)/\W.cell? (aa nC 4)=(p3,n3,c3))) c? 10 (by exact Ow.out _ ((NP.refl [] w1).drew)) (fun hHeld=>?_)
 refine js (i:=0) (d:=some 11) (v:=?_) rfl rfl c? c? c? c? c? c? (fun _ _ _ h=>h) (Or.inl ⟨L?,?_⟩) n? ?_
 rotate_left
 ·(intro w RI;(try dsimp only at RI);go_simp;try with_reducible rfl)
 try simp only[Act.put,List.setIfInBounds_toArray,List.set_cons_zero,List.set_cons_succ]
 refine js (i:=1) (d:=some 12) (v:=?_) rfl rfl c? c? c? c? c? c? (fun _ _ _ h=>h) (Or.inl ⟨L?,?_⟩) n? ?_
 rotate_left
 ·(intro w RI;(try dsimp only at RI);go_simp;try with_reducible rfl)
 try simp only[Act.put,List.setIfInBounds_toArray,List.set_cons_zero,List.set_cons_succ]
 refine js (i:=3) (d:=some 14) (v:=?_) rfl rfl c? c? c? c? c? c? (fun _ _ _ h=>h) (Or.inl ⟨L?,?_⟩) n? ?_
 rotate_left
 ·(intro w RI;(try dsimp only at RI);go_simp;try with_reducible rfl)
 try simp only[Act.put,List.setIfInBounds_toArray,List.set_cons_zero,List.set_cons_succ]
 refine js (i:=4) (d:=some 15) (v:=?_) rfl rfl c? c? c? c? c? c? (fun _ _ _ h=>h) (Or.inl ⟨L?,?_⟩) n? ?_
 rotate_left
 ·(intro w RI;(try dsimp only at RI);go_simp;try with_reducible rfl)
 try simp only[Act.put,List.setIfInBounds_toArray,List.set_cons_zero,List.set_cons_succ]
 refine js (i:=6) (d:=some 17) (v:=?_) rfl rfl c? c? c? c? c? c? (fun _ _ _ h=>h) (Or.inl ⟨L?,?_⟩) n? ?_
 rotate_left
 ·(intro w RI;(try dsimp only at RI);go_simp;try with_reducible rfl)
 try simp only[Act.put,List.setIfInBounds_toArray,List.set_cons_zero,List.set_cons_succ]
 refine js (i:=7) (d:=some 18) (v:=?_) rfl rfl c? c? c? c? c? c? (fun _ _ _ h=>h) (Or.inl ⟨L?,?_⟩) n? ?_
 rotate_left
 ·(intro w RI;(try dsimp only at RI);go_simp;try with_reducible rfl)
 try simp only[Act.put,List.setIfInBounds_toArray,List.set_cons_zero,List.set_cons_succ]
 refine Fa (i:=2) (d:=some 13) rfl rfl c? c? (fun K hK=>?_)
 go_simp
 ((with_reducible refine(HB.out _ ((NP.refl [] w1).drew)).mono ?_));rintro e w5 ⟨a,rfl,ha,kw5⟩
 obtain⟨pa,ca,rfl⟩:=ha.plain.shape
 have Hw5:=tK ha
 have Kw5:=tK (((NP.refl [] w1).drew).trans kw5)
 clear ha kw5
 go_wp2_with fail
 refine hK.out _ _ (Ow.out _ Kw5.out) (fun hHeld=>nM ?_)
 clear hK K
 refine Ef (i:=9) (d:=some 20) (v:=?_) rfl rfl c? c? c? c? (fun _ _ _ h=>h) (Or.inl ⟨L?,?_⟩) n? ?_
 rotate_left
 ·(intro w RI;(try dsimp only at RI);go_simp;try with_reducible rfl)
 try simp only[Act.put,List.setIfInBounds_toArray,List.set_cons_zero,List.set_cons_succ]
 refine Fa (i:=5) (d:=some 16) rfl rfl c? c? (fun K hK=>?_)
 go_simp
 ((with_reducible refine(HM.out _ Kw5.out).mono ?_));rintro e w6 ⟨b,rfl,hb,kw6⟩
 obtain⟨pb,cb,rfl⟩:=hb.plain.shape
 have Hw6:=tK hb
 have Kw6:=tK (Kw5.out.trans kw6)
 have K56:=tK kw6
 clear hb kw6
 go_wp2_with fail
 refine hK.out _ _ (Ow.out _ Kw6.out) (fun hHeld=>nM ?_)
 clear hK K
 refine Fa (i:=8) (d:=some 19) rfl rfl c? c? (fun K hK=>?_)
 go_simp
 ((with_reducible refine(HN.out _ Kw6.out).mono ?_));rintro e w7 ⟨d,rfl,hd,kw7⟩
 obtain⟨pd,cd,rfl⟩:=hd.plain.shape
 have Hw7:=tK hd
 have Kw7:=tK (Kw6.out.trans kw7)
 have K67:=tK kw7
 have K57:=tK (K56.out.trans kw7)
 clear hd kw7
 go_wp2_with fail
 refine hK.out _ _ (Ow.out _ Kw7.out) (fun hHeld=>nM ?_)
 clear hK K
 refine yc c? ?_
 have O7:=Kw7.out.own OC.out b?
 have hR7:=tK (Kw7.out.own OR.out b?)
 have⟨z0,z1,z2,z3,z4⟩:=O7.k5
 have⟨y0,y1,y2,y3,y4⟩:=O7.y5
 have O7:=tK O7
 refine rD 10 (fun K hK=>?_)
 go_simp
 go_wp2_with fail
 refine hK.out _ _ trivial (fun hHeld=>nM ?_)
 clear hK K
 refine tS ?_
 refine rD 12 (fun K hK=>?_)
 go_simp
 go_wp2_with fail
 refine hK.out _ _ trivial (fun hHeld=>nM ?_)
 clear hK K
 refine tS ?_
 refine rD 14 (fun K hK=>?_)
 go_simp
 go_wp2_with fail
 refine hK.out _ _ trivial (fun hHeld=>nM ?_)
 clear hK K
 refine Ng c? ?_ _
 try simp only[List.set_cons_succ,List.set_cons_zero]
 have o8:=((O7.out.set 2 (pa,c.boxes.length,ca)).set 3 (pb,c.mans.length,cb)).set 4 (pd,c.names.length,cd)
 have k8:NP [nC] w7 (((w7.setCell (aa nC 2) (pa,c.boxes.length,ca)).setCell (aa nC 3) (pb,c.mans.length,cb)).setCell (aa nC 4) (pd,c.names.length,cd)):=(((NP.refl [nC] w7).setCell (Or.inl b?) _).setCell (Or.inl b?) _).setCell (Or.inl b?) _
 have r8:=k8.own hR7.out (by have:=HNC.out;simp;omega)
 generalize (((w7.setCell (aa nC 2) (pa,c.boxes.length,ca)).setCell (aa nC 3) (pb,c.mans.length,cb)).setCell (aa nC 4) (pd,c.names.length,cd))=w8 at*
 have⟨v0,v1,v2,v3,v4⟩:=(show ae w8 nC #[(c.nextBox,()),(c.nextMan,()),(pa,c.boxes.length,ca),(pb,c.mans.length,cb),(pd,c.names.length,cd)] 52 from o8).k5
 have⟨q0,q1,q2,q3,q4⟩:=r8.k5
 have⟨g0,g1,g2,g3,g4⟩:=r8.y5
 have⟨R8,K8⟩:=f? r8 k8
 clear o8 r8 k8 z0 z1 z2 z3 z4 y0 y1 y2 y3 y4 hR7
 go_wp2_with fail
 have h1:=HNC.out
 have h2:=K1.out.size
 have h5:=Kw5.out.size
 have h6:=Kw6.out.size
 have h7:=Kw7.out.size
 have hC1:=OC.out.lt
 have kf:=NP.ay (g:=w.heap.size) (NP.refl [w.heap.size] w8) (Or.inl b?) (c.nextBox,()) (c.nextMan,()) (pa,c.boxes.length,ca) (pb,c.mans.length,cb) (pd,c.names.length,cd)
 refine MN (v:=.agg #[(c.nextBox,()),(c.nextMan,()),(pa,c.boxes.length,ca),(pb,c.mans.length,cb),(pd,c.names.length,cd)]) (iu results19 rfl (t:=52) ?_ underlying52 rfl c?) rfl ⟨⟨_,rfl,?_⟩,?_⟩
 .exact R8.out.aV _ _ _ _ _
 .have off:∀{S:Nat->Prop} {W:World} {v:Value} {l:List NS},aq S W v l->(∀x,x<w1.heap.size->S x)->NP [] W w7->aq (fun x=>x<w.heap.size) _ v l:=fun{S W v l} h hS k=>
   (((h.weaken hS).kept0 k).aS (T:=[nC]) K8.out (fun x hx=>by
    obtain rfl:x=nC:=h?
    exact hC1)).aS (T:=[w.heap.size]) kf (fun x hx=>by
    obtain rfl:x=w.heap.size:=h?
    show _<_
    omega) |>.weaken (fun x hx=>by show x<_;omega)
  exact⟨_,_,_,rfl,off Hw5.out (fun x hx=>hx) (K57.out),off Hw6.out (fun x hx=>by show x<_;omega) K67.out,off Hw7.out (fun x hx=>by show x<_;omega) (NP.refl _ _),HW.out⟩
 .exact((K1.out.trans Kw7.out).call (T:=[nC]) K8.out (fun x hx=>by
   obtain rfl:x=nC:=h?
   exact Or.inr a?)).call kf (fun x hx=>by
   obtain rfl:x=w.heap.size:=h?
   exact Or.inr (MG _))
theorem I6 {w:World} {B b:Nat} {s:SB} {sv:Value} {c:au} {vb vm vn:Value} {dead:Bool} {lo hi:Nat} (hO:ae w B (bL b s sv c vb vm vn dead) 90) (hR:af w sv s.runs lo hi) (hl:s.runs.length<=1000000):
  am! 21 #[B] w fun e w'=>(∃vv,e=.returned (.agg (s.cells vv))/\af w' vv s.runs w w')/\NP [] w w':=by
 obtain⟨sq,se,jr,us,sz,rs⟩:=s
 obtain⟨p1,c1,rfl⟩:=hR.shape
 simp only[SB.cells]at*
 unfold bL at hO
 simp only at hO
 have k0:=((NP.refl [] w).alloc (.cells #[.int .u64 0,(0:Int),(0:Int),(0:Int),(0:Int),()] 58))
 have hOr:=ae.new w #[.int .u64 0,(0:Int),(0:Int),(0:Int),(0:Int),()] 58
 have hOB:=k0.own hO b?
 have HR0:=tK (fun W (k:NP [] w W)=>xj _ _ _ _ W (hR.kept0 k) hl)
 obtain⟨x0,x1,x2,x3,x4,x5,x6,x7,x8,x9,x10,x11,x12⟩:=hOB.ku
 have OR:=tK hOr
 clear hO hOB hOr hl hR
 go_enter func21,ntmps21
 go_upto_region 4 with fail
 have hK1:=k0.alloc (.cells #[.int .u64 sq,se,jr,us,sz,(p1,rs.length,c1)] 58)
 have hOC:=nB w #[.int .u64 0,(0:Int),(0:Int),(0:Int),(0:Int),()] #[.int .u64 sq,se,jr,us,sz,(p1,rs.length,c1)] 58 58
 have hOR:=OR.out.alloc (.cells #[.int .u64 sq,se,jr,us,sz,(p1,rs.length,c1)] 58)
 clear x0 x1 x2 x3 x4 x5 x6 x7 x8 x9 x10 x11 x12 k0 OR
 generalize ((w.alloc (.cells #[.int .u64 0,(0:Int),(0:Int),(0:Int),(0:Int),()] 58)).alloc (.cells #[.int .u64 sq,se,jr,us,sz,(p1,rs.length,c1)] 58))=w1 at*
 obtain⟨nC,hnC⟩:∃nC,w.heap.size+1=nC:=⟨_,rfl⟩
 rw[hnC]at hOC ⊢
 have HNC:=tK hnC
 have K1:=tK hK1
 have OC:=tK hOC
 have OR:=tK hOR
 obtain⟨z0,z1,z2,z3,z4,z5⟩:=hOC.c6
 clear hK1 hOC hOR hnC
 go_wp2_with fail
 refine(HR0.out _ K1.out).mono ?_;rintro e w5 ⟨⟨v5,rfl,h5⟩,k5⟩
 obtain⟨p5,c5,rfl⟩:=h5.shape
 have oC5:=k5.own OC.out b?
 have oR5:=k5.own OR.out b?
 obtain⟨u0,u1,u2,u3,u4,u5⟩:=oC5.c6
 obtain⟨y0,y1,y2,y3,y4,y5⟩:=oC5.z6
 obtain⟨q0,q1,q2,q3,q4,q5⟩:=oR5.c6
 obtain⟨g0,g1,g2,g3,g4,g5⟩:=oR5.z6
 have K5:=tK k5
 have H5:=tK h5
 have OC5:=tK oC5
 have OR5:=tK oR5
 have hne:w.heap.size≠nC:=by have:=HNC.out;omega
 clear k5 h5 oC5 oR5 z0 z1 z2 z3 z4 z5 HR0
 go_wp2_with fail
 have h1:=HNC.out
 have h2:=K1.out.size
 have hC1:=OC.out.lt
 have k6:NP [nC] w5 (w5.setCell (aa nC 5) (p5,rs.length,c5)):=(NP.refl [nC] w5).setCell (Or.inl b?) _
 have K56:=tK k6.size
 have o6:=k6.own OR5.out e?
 have r6:=H5.out.kept k6 (fun x hx=>by
  simp_all)
 have kk6:=(K1.out.trans K5.out).call k6 (fun x hx=>by
  grind)
 clear k6
 generalize w5.setCell (aa nC 5) (p5,rs.length,c5)=w6 at*
 have kf:NP [w.heap.size] w6 _:=NP.bp (b:=w.heap.size) (NP.refl [w.heap.size] w6) (Or.inl b?) (.int .u64 sq) se jr us sz (p5,rs.length,c5)
 refine MN (v:=.agg #[.int .u64 sq,se,jr,us,sz,(p5,rs.length,c5)]) (iu results21 rfl (t:=58) ?_ underlying58 rfl c?) rfl ⟨⟨_,rfl,?_⟩,?_⟩
 .exact o6.bp _ _ _ _ _ _
 .exact(r6.kept kf (fun x hx=>by
   grind)).weaken h2 (Nk (Nat.le_of_eq rfl) (Nk K56.out kf.size)) (MG _)
 .exact kk6.call kf (fun x hx=>by
   simp_all)
theorem C3 (h:OL c):∀l,l=c.boxes\/l=c.mans\/l=c.names->l.length<=1000000/\∀x∈l,x.runs.length<=1000000:=fun l hl=>by
 have⟨a,b,d⟩:=h.small
 rcases hl with rfl|rfl|rfl
 .exact a
 .exact b
 .exact d
theorem aL.Ms {T mb} (h:aL T w B b sb mb lo v) (hc:OL v.c):∀W,NP [] w W->am! 19 #[B] W fun e w'=>(∃vv,e=.returned vv/\av (fun x=>x<W.heap.size) w' vv v.c)/\NP [] W w':=fun W k=>by
 have⟨sv,vb,vm,vn,o,_,hC⟩:=(h.aJ k).vol
 exact L9 o hC.plain (C3 hc)
structure kQ (w:World) (b sb mb lo r rlo:Nat) (d:DK):Prop where
 da:DA w b sb mb lo d
 qa:QA w r rlo d
 off:bf [] w b sb mb r
 rl:sb<rlo
structure qx (w:World) (b sb mb lo r rlo B R:Nat) (v:VS):Prop where
 vol:aL [B,r,R] w B b sb mb lo v
 qvol:oe (SD [B,r,R] w b sb mb) w R r rlo v
 off:bf [] w b sb mb r/\bf [] w b sb mb R
 rl:sb<rlo
 ne:r≠B/\R≠B
theorem kQ.aJ {mb} (h:kQ w b sb mb lo r rlo d) (k:NP [] w w'):kQ w' b sb mb lo r rlo d:=⟨h.da.aJ k,h.qa.aJ k,h.off.aside h.da.bH k b?,h.rl⟩
theorem qx.aJ {mb} (h:qx w b sb mb lo r rlo B R v) (k:NP [] w w'):qx w' b sb mb lo r rlo B R v:=
 ⟨h.vol.aJ k,by rw[SD.kept k h.vol.da.bH];exact h.qvol.aJ k,⟨h.off.1.aside h.vol.da.bH k b?,h.off.2.aside h.vol.da.bH k b?⟩,h.rl,h.ne⟩
theorem qx.side {mb} (h:qx w b sb mb lo r rlo B R v):kQ w b sb mb lo r rlo v.d:=⟨h.vol.da,h.qvol.qa,h.off.1,h.rl⟩
def mj (w:World) (b sb mb lo r rlo:Nat) (d:DK) (vp rp:Option Addr) (o:Option VS):Prop:=
 (o=none/\vp=none/\rp=none/\kQ w b sb mb lo r rlo d)\/∃B R v,o=some v/\vp=some ⟨B,0,none⟩/\rp=some ⟨R,0,none⟩/\qx w b sb mb lo r rlo B R v/\v.d=d/\v.s.may/\OL v.c/\cQ v.c<=5000
theorem mj.aJ {mb} (h:mj w b sb mb lo r rlo d vp rp o) (k:NP [] w w'):mj w' b sb mb lo r rlo d vp rp o:=by
 rcases h with⟨h1,h2,h3,h4⟩|⟨B,R,v,h1,h2,h3,h4,h5⟩
 .exact Or.inl ⟨h1,h2,h3,h4.aJ k⟩
 .exact Or.inr ⟨B,R,v,h1,h2,h3,h4.aJ k,h5⟩
theorem mj.side {mb} (h:mj w b sb mb lo r rlo d vp rp o):kQ w b sb mb lo r rlo d:=by
 rcases h with⟨_,_,_,h4⟩|⟨B,R,v,_,_,_,h4,rfl,_⟩
 .exact h4
 .exact h4.side
theorem Ks {mb} (h:mj w b sb mb lo r rlo d vp rp o):
  am! 71 #[.agg #[b,r,.pointer vp,.pointer rp]] w fun e w'=>e=true/\NP [] w w':=by
 have OP:=(NP.refl [] w).alloc (.cells #[b,r,.pointer vp,.pointer rp] 66)
 have ox:=ae.new w #[b,r,.pointer vp,.pointer rp] 66
 obtain⟨w1,SU⟩:∃w1,w.alloc (.cells #[b,r,.pointer vp,.pointer rp] 66)=w1:=⟨_,rfl⟩
 have hS:=h.aJ OP
 have hD:=hS.side
 rw[SU]at OP ox hS hD
 have aeO:Hid (∀W,NP [] w1 W->am! 26 #[b] W fun e w'=>e=.returned d.stand.flatten/\NP [] W w'):=tK (fun W k=>(hD.da.aJ k).image.mono fun e w' hh=>⟨hh.1,hh.2.2⟩)
 have ac8:Hid (∀W,NP [] w1 W->am! 136 #[r] W fun e w'=>e=.returned d.stand.flatten/\W=w'):=tK (fun W k=>(hD.qa.aJ k).image)
 have HWA:Hid (∀W,NP [] w1 W->am! 137 #[b] W fun e w'=>e=(d.waits.length:Int)/\W=w'):=tK (fun W k=>J7 b sb mb lo d W (hD.da.aJ k).disk)
 have HOP:Hid (∀W,NP [] w1 W->am! 25 #[b] W fun e w'=>e=(d.ops:Int)/\W=w'):=tK (fun W k=>J8 b sb mb lo d W (hD.da.aJ k).disk)
 have HDO:Hid (∀W,NP [] w1 W->am! 61 #[b] W fun e w'=>e=.returned (.bool d.down)/\W=w'):=tK (fun W k=>Bt b sb mb lo d W (hD.da.aJ k).disk)
 have⟨p0,c0,ps,cs,y0,y1,y2,y3,y4,_⟩:=hD.qa.ref.mz
 have HY:Hid (∀W,NP [] w1 W->W.cell? (aa r 1)=(ps,d.waits.length,cs)/\W.cell? (aa r 3)=(d.ops:Int)/\W.cell? (aa r 4)=some (.bool d.down)):=tK (fun W k=>⟨(k.cell (a:=(aa r 1)) hD.qa.lt b?).trans y1,(k.cell (a:=(aa r 3)) hD.qa.lt b?).trans y3,(k.cell (a:=(aa r 4)) hD.qa.lt b?).trans y4⟩)
 have⟨HS,OX,K1⟩:=gg! hS ox OP
 obtain⟨nX,hnX⟩:∃n,w.heap.size=n:=⟨_,rfl⟩
 rw[hnX]at OX
 generalize d.stand.flatten=IM at*
 obtain⟨WN,hWN⟩:∃n,d.waits.length=n:=⟨_,rfl⟩
 rw[hWN]at HWA HY
 obtain⟨ON,hON⟩:∃n:Int,(d.ops:Int)=n:=⟨_,rfl⟩
 rw[hON]at HOP HY
 generalize d.down=DN at*
 have⟨ZE,RA⟩:=f? SU hnX
 clear h hS hD ox OP y0 y1 y2 y3 y4 hWN hON SU hnX
 go_enter func71,ntmps71
 go_upto_region 1 with fail
 rw[ZE.out,RA.out]
 clear ZE RA
 have HC1:Hid (∀W,NP [] w1 W->W.cell? nX=b/\W.cell? (aa nX 1)=r/\W.cell? (aa r 1)=(ps,WN,cs)/\W.cell? (aa r 3)=ON/\W.cell? (aa r 4)=some (.bool DN)):=tK (fun W k=>by
  have⟨a0,a1,_,_⟩:=(k.own OX.out b?).c4
  exact⟨a0,a1,HY.out W k⟩)
 refine MK (S:=(fun W=>W.cell? nX=b/\W.cell? (aa nX 1)=r/\W.cell? (aa r 1)=(ps,WN,cs)/\W.cell? (aa r 3)=ON/\W.cell? (aa r 4)=some (.bool DN))) c? (by exact HC1.out _ ((NP.refl [] w1).drew)) (fun hHeld=>?_)
 refine tS ?_
 refine rD 2 (fun K hK=>?_)
 go_simp
 ((with_reducible refine(aeO.out _ ((NP.refl [] w1).drew)).mono ?_));rintro e w2 ⟨rfl,k2⟩
 have K2:=tK (((NP.refl [] w1).drew).trans k2)
 clear k2
 go_wp2_with fail
 refine hK.out _ _ (HC1.out _ K2.out) (fun hHeld=>nM ?_)
 clear hK K
 refine rD 5 (fun K hK=>?_)
 go_simp
 ((with_reducible refine(ac8.out _ K2.out).mono ?_));rintro e w3 ⟨rfl,hW⟩
 subst hW
 go_wp2_with fail
 refine hK.out _ _ (HC1.out _ K2.out) (fun hHeld=>nM ?_)
 clear hK K
 refine tS ?_
 refine rD 10 (fun K hK=>?_)
 go_simp
 ((with_reducible refine(HWA.out _ K2.out).mono ?_));rintro e w3 ⟨rfl,hW⟩
 subst hW
 go_wp2_with fail
 refine hK.out _ _ (HC1.out _ K2.out) (fun hHeld=>nM ?_)
 clear hK K
 refine tS ?_
 refine rD 22 (fun K hK=>?_)
 go_simp
 ((with_reducible refine(HOP.out _ K2.out).mono ?_));rintro e w3 ⟨rfl,hW⟩
 subst hW
 go_wp2_with fail
 refine hK.out _ _ (HC1.out _ K2.out) (fun hHeld=>nM ?_)
 clear hK K
 refine tS ?_
 refine rD 33 (fun K hK=>?_)
 go_simp
 ((with_reducible refine(HDO.out _ K2.out).mono ?_));rintro e w3 ⟨rfl,hW⟩
 subst hW
 go_wp2_with fail
 refine hK.out _ _ (HC1.out _ K2.out) (fun hHeld=>nM ?_)
 clear hK K
 refine tS ?_
 refine Ng c? ?_ _
 try simp only[List.set_cons_succ,List.set_cons_zero]
 have OX2:=tK (K2.out.own OX.out b?)
 have⟨x0,x1,x2,x3⟩:=OX2.out.c4
 rcases HS.out with⟨_,rfl,rfl,_⟩|⟨B,R,v,_,rfl,rfl,hV,_,hm,hc,hf⟩
 .clear HS
  go_wp2_with fail
  go_ret
  exact⟨rfl,K1.out.trans K2.out⟩
 .have Yr:=hV.aJ K2.out
  have QK:=tK (Yr.vol.Ms hc)
  obtain⟨sv',vb',vm',vn',oB,⟨⟨PU,PC,hrB⟩,_⟩,_⟩:=Yr.vol.vol
  have hsn:=hm.1
  unfold SB.dD at hsn
  have Su:Hid (∀W,NP [] w2 W->am! 21 #[B] W fun e w'=>(∃vv,e=.returned (.agg (v.s.cells vv))/\af w' vv v.s.runs W.heap.size w')/\NP [] W w'):=tK (fun W k=>I6 (k.own oB b?) (hrB.kept0 k) a?)
  have HFR:Hid (∀W,NP [] w2 W->am! 17 #[B] W fun e w'=>e=(OV (Oh v):Int)/\NP [] W w'):=tK (fun W k=>Am (Yr.vol.aJ k) hm hc hf)
  have HQF:Hid (∀W,NP [] w2 W->am! 139 #[R] W (bh (Oh v) W)):=tK (fun W k=>Jt (Yr.qvol.aJ k) hm hc hf)
  unfold bh at HQF
  have hp:Pl 0 (Oh v):=lC _ _
  have HCO:Hid (∀W u PU PC,af W u (Oh v) PU PC->am! 138 #[u] W fun e w'=>e=(OV (Oh v):Int)/\NP [] W w'):=tK (fun W u PU PC h=>BO u _ PU PC W h (by have:=hp.gX;omega) (gT hp))
  obtain⟨sv,vb,vm,vn,oR,⟨lo2,QZ,hrR⟩,_,hcR⟩:=Yr.qvol.vol
  obtain⟨⟨pb,nb,cb,rfl⟩,⟨pm,nm',cm,rfl⟩,⟨pn,nn,cn,rfl⟩⟩:=av.sr hcR
  have HSC:Hid (∀W vv,NP [] w2 W->dJ W vv v.c->am! 18 #[vv,.agg #[(v.c.nextBox,()),(v.c.nextMan,()),(pb,nb,cb),(pm,nm',cm),(pn,nn,cn)]] W fun e w'=>e=true/\NP [] W w'):=tK (fun W vv k h=>(EH vv _ v.c v.c W h (dJ.kept0 hcR.plain k) hc.small hc.small).mono (fun e w' ⟨b,he,hb,k⟩=>⟨by rw[he,hb.2 rfl],k⟩))
  have HSS:Hid (∀W vs PU PC,NP [] w2 W->af W vs v.s.runs PU PC->am! 20 #[.agg (v.s.cells vs),.agg (v.s.cells sv)] W fun e w'=>e=true/\NP [] W w'):=tK (fun W vs PU PC k h=>(KI v.s v.s vs sv _ _ _ _ W h (hrR.kept0 k) a? a?).mono (fun e w' hh=>⟨by rw[hh.1,SB.Ce],hh.2⟩))
  obtain⟨pv,cv,rfl⟩:=hrR.shape
  have OR:=tK oR
  obtain⟨dd,s,c,dead⟩:=v
  obtain⟨sq,se,jr,us,sz,rs⟩:=s
  generalize OV (Oh _)=CN at*
  generalize hRX:Oh _=RX at*
  simp only[SB.cells]at*
  clear HS hV hm hc hf Yr hrB oB hsn hp hcR hrR oR hRX
  go_upto_region 5 with fail
  have VO:Hid (∀W,NP [] w2 W->W.cell? (aa nX 2)=B/\W.cell? (aa nX 3)=R/\W.cell? (aa R 1)=some (.int .u64 sq)/\W.cell? (aa R 2)=se/\W.cell? (aa R 3)=jr/\W.cell? (aa R 4)=us/\W.cell? (aa R 5)=sz/\W.cell? (aa R 6)=(pv,rs.length,cv)/\W.cell? (aa R 7)=(c.nextBox,())/\W.cell? (aa R 8)=(c.nextMan,())/\W.cell? (aa R 9)=(pb,nb,cb)/\W.cell? (aa R 10)=(pm,nm',cm)/\W.cell? (aa R 11)=(pn,nn,cn)):=tK (fun W k=>by
   have⟨_,_,a2,a3⟩:=(k.own OX2.out b?).c4
   have⟨_,b1,b2,b3,b4,b5,b6,b7,b8,b9,b10,b11,_⟩:=(k.own OR.out b?).ku
   exact⟨a2,a3,b1,b2,b3,b4,b5,b6,b7,b8,b9,b10,b11⟩)
  clear x0 x1 x2 x3
  refine MK (S:=(fun W=>W.cell? (aa nX 2)=B/\W.cell? (aa nX 3)=R/\W.cell? (aa R 1)=some (.int .u64 sq)/\W.cell? (aa R 2)=se/\W.cell? (aa R 3)=jr/\W.cell? (aa R 4)=us/\W.cell? (aa R 5)=sz/\W.cell? (aa R 6)=(pv,rs.length,cv)/\W.cell? (aa R 7)=(c.nextBox,())/\W.cell? (aa R 8)=(c.nextMan,())/\W.cell? (aa R 9)=(pb,nb,cb)/\W.cell? (aa R 10)=(pm,nm',cm)/\W.cell? (aa R 11)=(pn,nn,cn))) c? (by exact VO.out _ ((NP.refl [] w2).drew)) (fun hHeld=>?_)
  refine tS ?_
  refine rD 6 (fun K hK=>?_)
  go_simp
  ((with_reducible refine(QK.out _ ((NP.refl [] w2).drew)).mono ?_));rintro e w3 ⟨⟨vv,rfl,XL⟩,k3⟩
  have K3:=tK (((NP.refl [] w2).drew).trans k3)
  have HCV:=tK XL
  clear k3 XL
  go_wp2_with fail
  refine hK.out _ _ (VO.out _ K3.out) (fun hHeld=>nM ?_)
  clear hK K
  refine rD 12 (fun K hK=>?_)
  go_simp
  ((with_reducible refine(HSC.out _ vv K3.out HCV.out.plain).mono ?_));rintro e w4 ⟨rfl,k4⟩
  have K4:=tK (K3.out.trans k4)
  clear k4
  go_wp2_with fail
  refine hK.out _ _ (VO.out _ K4.out) (fun hHeld=>nM ?_)
  clear hK K
  refine tS ?_
  refine rD 17 (fun K hK=>?_)
  go_simp
  ((with_reducible refine(Su.out _ K4.out).mono ?_));rintro e w5 ⟨⟨vs,rfl,hrs⟩,k5⟩
  have K5:=tK (K4.out.trans k5)
  have HRS:=tK hrs
  clear k5 hrs
  go_wp2_with fail
  refine hK.out _ _ (VO.out _ K5.out) (fun hHeld=>nM ?_)
  clear hK K
  refine rD 23 (fun K hK=>?_)
  go_simp
  ((with_reducible refine(HSS.out _ vs _ _ K5.out HRS.out).mono ?_));rintro e w6 ⟨rfl,k6⟩
  have K6:=tK (K5.out.trans k6)
  clear k6
  go_wp2_with fail
  refine hK.out _ _ (VO.out _ K6.out) (fun hHeld=>nM ?_)
  clear hK K
  refine tS ?_
  refine rD 28 (fun K hK=>?_)
  go_simp
  ((with_reducible refine(HFR.out _ K6.out).mono ?_));rintro e w7 ⟨rfl,k7⟩
  have K7:=tK (K6.out.trans k7)
  clear k7
  go_wp2_with fail
  refine hK.out _ _ (VO.out _ K7.out) (fun hHeld=>nM ?_)
  clear hK K
  refine rD 31 (fun K hK=>?_)
  go_simp
  ((with_reducible refine(HQF.out _ K7.out).mono ?_));rintro e w8 ⟨u,rfl,hu,k8⟩
  have K8:=tK (K7.out.trans k8)
  have HU:=tK (af.bB hu)
  obtain⟨pu,cu,rfl⟩:=ah hu
  clear k8 hu
  go_wp2_with fail
  refine hK.out _ _ (VO.out _ K8.out) (fun hHeld=>nM ?_)
  clear hK K
  refine rD 32 (fun K hK=>?_)
  go_simp
  ((with_reducible refine(HCO.out _ _ _ _ HU.out).mono ?_));rintro e w9 ⟨rfl,k9⟩
  have K9:=tK (K8.out.trans k9)
  clear k9
  go_wp2_with fail
  refine hK.out _ _ (VO.out _ K9.out) (fun hHeld=>nM ?_)
  clear hK K
  refine tS ?_
  refine Ng c? ?_ _
  try simp only[List.set_cons_succ,List.set_cons_zero]
  go_wp2_with fail
  go_ret
  exact⟨rfl,(K1.out.trans K2.out).trans K9.out⟩
end
section
open Go.Proofs.Tryz Go.RowKit
variable {b r sb lo rlo:Nat} {d:DK} {w w':World} {e:Ending} {vp:Option Addr} {C:Int}
noncomputable def oQ (d:DK):Option VS:=if d.down=true then none else(Ql d).map fun p=>⟨d,p.1,p.2,false⟩
theorem M89 {A:Prop}(h:A:=by
 rcases h with⟨⟨_,h⟩|⟨_,_,h⟩|⟨_,s,c,_,B,sv,vb,vm,vn,_,_,_,_,h⟩,_⟩
 .exact⟨_,_,h⟩
 .exact⟨_,_,h⟩
 .exact⟨_,_,h⟩):A:=h
theorem ij.shape (h:ij b d w e w'):∃vp C,e=.returned (.tuple #[.pointer vp,.int .i64 C]):=by
 exact M89
theorem iB.shape (h:iB r d w e w'):∃vp C,e=.returned (.tuple #[.pointer vp,.int .i64 C]):=by
 exact M89
theorem mF {Vs} {C':Int} (h:Ending.returned (.tuple #[.pointer vp,C])=.returned (.tuple #[.pointer Vs,C'])):vp=Vs/\C=C':=by
 injection h with h
 injection h with h
 simp only[Array.mk.injEq,List.cons.injEq,Value.pointer.injEq,Value.int.injEq,true_and,and_true]at h
 exact h
theorem xt {S w1 w2 w3 w4} {mb:Nat} {rp} {C2:Int} (h1:ij b d w1 (.returned (.tuple #[.pointer vp,C])) w2) (h2:iB r d w2 (.returned (.tuple #[.pointer rp,C2])) w3) (hD:kQ w1 b sb mb lo r rlo d) (hn:d.stand.length<=96) (k4:NP S w3 w4) (hS:∀x∈S,x<w1.heap.size/\bf [] w1 b sb mb x/\x≠r/\∃cs,ae w3 x cs 66):
  C2=C/\mj w4 b sb mb lo r rlo d vp rp (oQ d)/\NP [] w1 w3:=by
 obtain⟨h1,k1⟩:=h1
 obtain⟨h2,k2⟩:=h2
 have kk:=k1.trans k2
 have RH:=k1.size
 have QG:=k2.size
 have Vx:=k4.size
 have P3:=hD.qa.lt
 have Uq:=hD.da.bH
 have PX:=hD.da.sC
 have Xd:=hD.da.vP
 have hD3:=hD.aJ kk
 have hof:=fun x hx=>(hS x hx).2.1.aside Uq kk b?
 have Xq:b∉S:=fun hx=>(hof b hx).2.1 rfl
 have abV:=hD3.da.aside k4 hof
 have abj:QA w4 r rlo d:=⟨hD3.qa.ref.aside k4 (fun hx=>(hS r hx).2.2.1 rfl) (fun x hx _ cs=>by
  have⟨TL,o'⟩:=(hS x hx).2.2.2
  exact⟨zn o' d?,zn o' d?⟩),hD.qa.fit⟩
 have YG:bf [] w4 b sb mb r:=hD3.off.aside hD3.da.bH k4 Xq
 rcases h1 with⟨hd,e1⟩|⟨hd,hm,e1⟩|⟨hd,s,c,hm,B,sv,vb,vm,vn,hB,o,hr,hc,e1⟩
 .rcases h2 with⟨_,e2⟩|⟨UH,_⟩|⟨UH,_⟩
  .obtain⟨rfl,rfl⟩:=mF e1
   obtain⟨rfl,rfl⟩:=mF e2
   exact⟨rfl,Or.inl ⟨by unfold oQ;rw[if_pos hd],rfl,rfl,abV,abj,YG,hD.rl⟩,kk⟩
  .rw[hd]at UH;cases UH
  .rw[hd]at UH;cases UH
 .rcases h2 with⟨UH,_⟩|⟨_,_,e2⟩|⟨_,s',c',QL,_⟩
  .rw[hd]at UH;cases UH
  .obtain⟨rfl,rfl⟩:=mF e1
   obtain⟨rfl,rfl⟩:=mF e2
   exact⟨rfl,Or.inl ⟨by unfold oQ;rw[if_neg ai!,hm];rfl,rfl,rfl,abV,abj,YG,hD.rl⟩,kk⟩
  .rw[hm]at QL;cases QL
 .rcases h2 with⟨UH,_⟩|⟨_,QL,_⟩|⟨_,s',c',QL,R,sv2,vb2,vm2,vn2,hR,o2,Th,hc2,e2⟩
  .rw[hd]at UH;cases UH
  .rw[hm]at QL;cases QL
  .rw[hm]at QL
   injection QL with QL
   injection QL with a1 a2
   subst a1 a2
   obtain⟨rfl,rfl⟩:=mF e1
   obtain⟨rfl,rfl⟩:=mF e2
   have hBl:=o.lt
   have hRl:=o2.lt
   have hM:=AU.1 hm
   have⟨m1,m2,m3,m4,m5⟩:=yB hD.da.fit hM
   have hV1:aL (B::r::S) w2 B b sb mb lo ⟨d,s,c,false⟩:=ye hD.da k1 hB o hr hc b? (fun x hx=>by
    simp only[List.mem_cons]at hx
    rcases hx with rfl|rfl|hx
    .exact Or.inr rfl
    .exact Or.inl P3
    .exact Or.inl (hS x hx).1)
   have Yr:aL (B::r::S) w3 B b sb mb lo ⟨d,s,c,false⟩:=hV1.aJ k2
   have hV3:aL [B,r,R] w4 B b sb mb lo ⟨d,s,c,false⟩:=by
    have ad9:aL (R::B::r::S) w3 B b sb mb lo ⟨d,s,c,false⟩:=hV1.aside k2 (fun x hx=>by cases hx) (fun x hx=>by
     simp only[List.mem_cons]at hx ⊢
     rcases hx with rfl|rfl|rfl|hx
     .exact⟨hRl,Or.inr hR⟩
     .exact⟨a?,Or.inl (Or.inl rfl)⟩
     .exact⟨a?,Or.inl (Or.inr (Or.inl rfl))⟩
     .exact⟨by have:=(hS x hx).1;omega,Or.inl (Or.inr (Or.inr hx))⟩) b?
    refine ad9.aside k4 (fun x hx=>⟨by simp[hx],by have:=(hS x hx).1;omega,hof x hx⟩) (fun x hx=>?_) b?
    simp only[List.mem_cons,List.not_mem_nil,or_false]at hx ⊢
    rcases hx with rfl|rfl|rfl
    .exact⟨a?,Or.inl (Or.inr (Or.inl rfl))⟩
    .exact⟨a?,Or.inl (Or.inr (Or.inr (Or.inl rfl)))⟩
    .exact⟨a?,Or.inl (Or.inl rfl)⟩
   have Rp:=fun x hw=>hD.da.Ak ((hD.da.tG kk x).1 ((WB.aside hD3.da.bH k4 Xq x).1 hw))
   have hP:∀x,SD [B,r,R] w4 b sb mb x->x<w2.heap.size\/x=R:=fun x hx=>by
    apply NG
    intro hn
    refine hx ⟨fun hm=>?_,a?,a?,a?,fun hw=>?_⟩
    .simp only[List.mem_cons,List.not_mem_nil,or_false]at hm
     rcases hm with rfl|rfl|rfl<;>omega
    .have:=Rp x hw;omega
   have hRS:R∉S:=fun hx=>by have:=(hS R hx).1;omega
   have NU:bD (fun x=>x<w2.heap.size\/x=R) sv2 s.runs.length:=fun g off sp n' c' e hn hg=>by
    rcases Th with⟨h0,_⟩|⟨g',off',c'',e',_,h3,h4,_⟩
    .rw[h0]at hn;simp at hn
    .rw[e']at e
     injection e with e
     injection e with e
     injection e with e
     subst e
     rcases hg with h|h<;>omega
   have hQ:oe (SD [B,r,R] w4 b sb mb) w4 R r rlo ⟨d,s,c,false⟩:=⟨abj,⟨sv2,vb2,vm2,vn2,k4.own o2 hRS,⟨_,_,Th.aS k4 NU (fun x hx=>Or.inl (by have:=(hS x hx).1;omega))⟩,NU.weaken hP,(av.aS hc2 k4 (fun x hx=>Or.inl (by have:=(hS x hx).1;omega))).cI hP⟩,fun ho=>ho.1 b?,fun ho=>ho.1 b?,hV3.da.vL hV3.hT,fun e=>by omega⟩
   have hoR:bf [] w4 b sb mb R:=⟨b?,a?,a?,a?,fun hw=>by have:=Rp R hw;omega⟩
   exact⟨rfl,Or.inr ⟨B,R,⟨d,s,c,false⟩,by unfold oQ;rw[if_neg ai!,hm];rfl,rfl,rfl,⟨hV3,hQ,⟨YG,hoR⟩,hD.rl,⟨fun e=>by omega,fun e=>by omega⟩⟩,rfl,m1,m3,by show cQ c<=5000;omega⟩,kk⟩
def xW (b sb mb lo r rlo:Nat) (d:DK) (w:World) (e:Ending) (w':World):Prop:=
 (∃vp rp,e=.returned (.tuple #[.agg #[b,r,.pointer vp,.pointer rp],true])/\mj w' b sb mb lo r rlo d vp rp (oQ d))/\NP [] w w'
theorem tQ (w:World) (B:Nat) (a1 a2 a3 a4:Value):w.setCells B 0 (#[a1,a2,a3,a4]:Array Value).toList=((((w.setCell B a1).setCell (aa B 1) a2).setCell (aa B 2) a3).setCell (aa B 3) a4):=rfl
theorem za {mb} (hD:kQ w b sb mb lo r rlo d) (hn:d.stand.length<=96) (vp rp):
  am! 23 #[.agg #[b,r,.pointer vp,.pointer rp]] w (xW b sb mb lo r rlo d w):=by
 have⟨o1,o2⟩:=ch w #[b,r,.pointer vp,.pointer rp] #[.pointer none,.pointer none,.pointer none,.pointer none] 66 66
 have OP:=((NP.refl [] w).alloc (.cells #[b,r,.pointer vp,.pointer rp] 66)).alloc (.cells #[.pointer none,.pointer none,.pointer none,.pointer none] 66)
 obtain⟨w1,SU⟩:∃w1,(w.alloc (.cells #[b,r,.pointer vp,.pointer rp] 66)).alloc (.cells #[.pointer none,.pointer none,.pointer none,.pointer none] 66)=w1:=⟨_,rfl⟩
 rw[SU]at o1 o2 OP
 have hD1:=hD.aJ OP
 have HMO:Hid (am! 16 #[b] w1 (ij b d w1)):=tK (BW hD1.da hn)
 have HQM:Hid (∀W,NP [] w1 W->am! 70 #[r] W (iB r d W)):=tK (fun W k=>Hl (hD1.qa.aJ k) hn)
 have⟨HD1,HN⟩:=f? hD1 hn
 have HOF:Hid (∀x,x=w.heap.size\/x=w.heap.size+1->x<w1.heap.size/\bf [] w1 b sb mb x/\x≠r):=tK (fun x hx=>by
  have NV:x<w1.heap.size:=by
   rcases hx with rfl|rfl
   .exact o1.lt
   .exact o2.lt
  exact⟨NV,hD.da.bU (fun y hy=>by cases hy) OP a?,by have:=hD.qa.lt;omega⟩)
 have⟨ZE,O1,O2,K1⟩:=gh! SU o1 o2 OP
 obtain⟨n1,QX⟩:∃n,w.heap.size=n:=⟨_,rfl⟩
 have Ts:=tK QX
 rw[QX]at O1 O2 o1 HOF
 have⟨x0,x1,x2,x3⟩:=o1.c4
 clear hD hn o1 o2 OP hD1 SU QX
 go_enter func23,ntmps23
 go_upto_region 1 with fail
 rw[ZE.out,Ts.out]
 clear ZE
 go_wp2_with fail
 refine HMO.out.mono ?_;intro e w2 Ty
 obtain⟨Vs,C,rfl⟩:=Ty.shape
 have⟨VK,K2⟩:=f? Ty Ty.2
 have O12:=tK (K2.out.own O1.out b?)
 clear Ty x0 x1 x2 x3
 have⟨x0,x1,x2,x3⟩:=O12.out.c4
 go_wp2_with fail
 refine(HQM.out _ K2.out).mono ?_;intro e w3 QL
 obtain⟨WM,C2,rfl⟩:=QL.shape
 have⟨hC,_,P6⟩:=xt VK.out QL HD1.out HN.out (NP.refl [] _) (fun x hx=>by cases hx)
 subst hC
 have⟨Ul,K3⟩:=f? QL P6
 have O13:=tK (K3.out.own O1.out b?)
 have O23:=tK (K3.out.own O2.out b?)
 clear QL P6 x0 x1 x2 x3
 have⟨x0,x1,x2,x3⟩:=O13.out.c4
 have⟨z0,z1,z2,z3⟩:=O13.out.z4
 go_upto_region 5 with fail
 have o14:=(O13.out.set 2 (.pointer Vs)).set 3 (.pointer WM)
 have k4:NP [n1] w3 ((w3.setCell (aa n1 2) (.pointer Vs)).setCell (aa n1 3) (.pointer WM)):=((NP.refl [n1] w3).setCell (Or.inl b?) _).setCell (Or.inl b?) _
 have o24:=k4.own O23.out b?
 have Ro:Hid (NP [] w ((w3.setCell (aa n1 2) (.pointer Vs)).setCell (aa n1 3) (.pointer WM))):=tK ((K1.out.trans K3.out).call k4 (fun x hx=>by
  obtain rfl:x=n1:=h?
  exact Or.inr (Nat.le_of_eq Ts.out)))
 have⟨_,hS4,_⟩:=xt VK.out Ul.out HD1.out HN.out k4 (fun x hx=>by
  obtain rfl:x=n1:=h?
  have⟨a1,a2,a3⟩:=HOF.out x (Or.inl rfl)
  exact⟨a1,a2,a3,_,O13.out⟩)
 obtain⟨w4,Yd⟩:∃w4,(w3.setCell (aa n1 2) (.pointer Vs)).setCell (aa n1 3) (.pointer WM)=w4:=⟨_,rfl⟩
 rw[Yd]at o14 k4 o24 hS4 Ro ⊢
 have O14:Hid (ae w4 n1 #[b,r,.pointer Vs,.pointer WM] 66):=tK o14
 have⟨O24,Zm⟩:=f? o24 k4
 have abM:=tK (fun W (k:NP [] w4 W)=>Ks (hS4.aJ k))
 have HC:=tK fun W (k:NP [n1+1] w4 W)=>(k.own O14.out b?).c4
 clear o14 k4 o24 hS4 Yd x0 x1 x2 x3 z0 z1 z2 z3
 refine MK (S:=(fun W=>W.cell? n1=b/\W.cell? (aa n1 1)=r/\W.cell? (aa n1 2)=some (.pointer Vs)/\W.cell? (aa n1 3)=some (.pointer WM))) c? (by exact HC.out _ ((NP.refl [n1+1] w4).drew)) (fun hHeld=>?_)
 refine tS ?_
 refine rD 6 (fun K hK=>?_)
 go_simp
 ((with_reducible refine(abM.out _ ((NP.refl [] w4).drew)).mono ?_));rintro e w5 ⟨rfl,k5⟩
 have K5:=tK (((NP.refl [] w4).drew).trans k5)
 clear k5
 go_wp2_with fail
 refine hK.out _ _ (HC.out _ (K5.out.mono b?)) (fun hHeld=>nM ?_)
 clear hK K
 refine tS ?_
 have O25:=tK (K5.out.own O24.out b?)
 refine rD 8 (fun K hK=>?_)
 refine dz rfl 66 _ _ rfl (n1+1) 0 #[b,r,.pointer Vs,.pointer WM] g? g? (O25.out.drew.there 0 4 b?) c? (NL (cs:=[.pointer (some b),.pointer (some r),.pointer Vs,.pointer WM]) t?) ?_
 rw[tQ]
 have o6:=O25.out.AJ b r (.pointer Vs) (.pointer WM)
 have k6:NP [n1+1] w5 ((((w5.setCell (aa (n1+1) 0) b).setCell (aa (n1+1) 1) r).setCell (aa (n1+1) 2) (.pointer Vs)).setCell (aa (n1+1) 3) (.pointer WM)):=NP.fU (NP.refl _ _) (Or.inl b?) _ _ _ _
 generalize ((((w5.setCell (aa (n1+1) 0) b).setCell (aa (n1+1) 1) r).setCell (aa (n1+1) 2) (.pointer Vs)).setCell (aa (n1+1) 3) (.pointer WM))=w6 at*
 have⟨O6,K6⟩:=f? o6 k6
 clear o6 k6
 refine hK.out _ _ (HC.out _ ((K5.out.mono b?).trans K6.out)) (fun hHeld=>nM ?_)
 clear hK K
 refine tS ?_
 refine Ng c? ?_ _
 try simp only[List.set_cons_succ,List.set_cons_zero]
 have O6:Hid (ae w6 (n1+1) #[b,r,.pointer Vs,.pointer WM] 66):=tK O6.out
 have⟨_,hS6,_⟩:=xt VK.out Ul.out HD1.out HN.out (S:=[n1,n1+1]) (w4:=w6) (((Zm.out.mono b?).trans (K5.out.mono b?)).trans (K6.out.mono b?)) (fun x hx=>by
  simp only[List.mem_cons,List.not_mem_nil,or_false]at hx
  have⟨a1,a2,a3⟩:=HOF.out x hx
  rcases hx with rfl|rfl
  .exact⟨a1,a2,a3,_,O13.out⟩
  .exact⟨a1,a2,a3,_,O23.out⟩)
 have HS6:=tK hS6
 have HKF:Hid (NP [] w w6):=tK ((Ro.out.trans K5.out).call K6.out (fun x hx=>by
  obtain rfl:x=n1+1:=h?
  exact Or.inr (by have:=Ts.out;omega)))
 clear hS6
 go_wp2_with fail
 refine MN (v:=.tuple #[.agg #[b,r,.pointer Vs,.pointer WM],true]) (aj results23 rfl rfl (t:=66) ?_ underlying66 rfl c?) rfl ?_
 .exact O6.out
 .exact⟨⟨_,_,rfl,HS6.out⟩,HKF.out⟩
end
section
open Go.Proofs.Tryz Go.RowKit
theorem IK {T w B b sb mb lo v} (vl l PU PC) (hV:aL T w B b sb mb lo v) (hF:Mx 900 v) (hl:gC w vl l PU PC) (WG:l.length<=8) (Ri:∀x∈l,x.fits) (ho:v.d.ops<=35000) (hw:v.d.waits.length<=700) (hn:v.d.stand.length<=100) (hhy:v.dead=false/\P5 v.c l=0/\gW (Oh v) l/\(N8 v.c (Ob (Oh v) l l.length).1).2=0/\cX (Ob (Oh v) l l.length).1=0/\((Pv (Ob (Oh v) l l.length).1).length:Int)<=v.s.journal*128-v.s.used/\∀x∈l,Oj x.kind=true):
  am! 11 #[B,vl] w (tD T B b sb mb lo (eX v l) w):=by
 obtain⟨hm,PT,SN,hseq,hjr⟩:=hF
 have S2:=hm.1
 have⟨sv,vb,vm,vn,o,hr,Oz⟩:=hV.vol
 obtain⟨RM,hRM⟩:∃R,Oh v=R:=⟨_,rfl⟩
 obtain⟨P,hP⟩:∃P,Ob RM l l.length=P:=⟨_,rfl⟩
 obtain⟨AP,hAP⟩:∃A,N8 v.c P.1=A:=⟨_,rfl⟩
 have acy:Pl 0 RM:=by rw[<-hRM];exact lC _ _
 have ab3:Pl 0 P.2:=by rw[<-hP];exact tV acy l l.length (MG _)
 have hPr:∀r∈P.1,Pl 0 r.runs:=fun r hr=>by rw[<-hP]at hr;exact(pw RM l l.length (MG _) r hr).1
 have aaP:P.1.length=l.length:=by rw[<-hP];exact gp RM l _ (MG _)
 have adT:∀r∈P.1,0<=r.id:=fun r hr=>by rw[<-hP]at hr;exact EV RM l (fun x hx=>(eG (Ri x hx).2.1).1) r hr
 have Tq:Hid (∀W,NP [] w W->am! 42 #[B] W fun e w'=>e=(if v.dead=true then 90 else 0:Int)/\W=w'):=tK (fun W k=>BZ (hV.aJ k))
 have HWR:Hid (∀W,NP [] w W->am! 43 #[B,vl] W (pX (P5 v.c l) W)):=tK (fun W k=>I2 vl l PU PC (hV.aJ k) PT (hl.kept0 k))
 have Rf:Hid (∀W,NP [] w W->am! 44 #[B,vl] W (rZ RM l W)):=tK (fun W k=>by rw[<-hRM];exact Kt vl l PU PC (hV.aJ k) hm PT a? (hl.kept0 k) a?)
 have Z3:Hid (∀W rv lo2 QZ,NP [] w W->bX W rv P.1 lo2 QZ->am! 45 #[.agg #[(v.c.nextBox,()),(v.c.nextMan,()),vb,vm,vn],rv] W (dC (SD T w b sb mb) AP W)):=tK (fun W rv lo2 QZ k Qh=>by
  rw[<-hAP]
  exact sf (S0:=SD T w b sb mb) _ v.c rv P.1 lo2 QZ W (av.kept0 Oz k) (fun x hx=>MR (hV.da.vL hV.hT x hx) k.size) PT.small Qh (fun r hr=>gT (hPr r hr)) (fun r hr=>by have:=(hPr r hr).gX;omega))
 have abW:Hid (∀W rv lo2 QZ g,NP [] w W->w.heap.size<=g->g<W.heap.size->bX W rv P.1 lo2 QZ->am! 45 #[.agg #[(v.c.nextBox,()),(v.c.nextMan,()),vb,vm,vn],rv] W (dC (fun x=>SD T w b sb mb x\/x=g) AP W)):=tK (fun W rv lo2 QZ g k hg hgW Qh=>by
  rw[<-hAP]
  exact sf (S0:=fun x=>SD T w b sb mb x\/x=g) _ v.c rv P.1 lo2 QZ W (av.kept0 (av.more (T:=fun x=>x=g) Oz (fun x hx=>by subst hx;exact hg)) k) (fun x hx=>(by
   rcases hx with hx|rfl
   .exact MR (hV.da.vL hV.hT x hx) k.size
   .exact hgW)) PT.small Qh (fun r hr=>gT (hPr r hr)) (fun r hr=>by have:=(hPr r hr).gX;omega))
 have VU:Hid (∀W rv lo2 QZ,bX W rv P.1 lo2 QZ->am! 46 #[rv] W (mU P.1 W)):=tK (fun W rv lo2 QZ h=>L3 rv P.1 lo2 QZ W h a? (fun r hr=>by have:=(hPr r hr).gX;omega))
 have⟨HV,HL,HM⟩:=gg! hV hl hm
 have Q1:Hid (v.d.ops<=35000/\v.d.waits.length<=700/\v.d.stand.length<=100/\l.length<=8/\v.s.seq<=900/\v.s.journal<=30):=tK ⟨ho,hw,hn,WG,hseq,hjr⟩
 have⟨HFT,afv,Ux,acY,X8,HP,SG,ZP,HHY⟩:=gb! Ri ab3 hPr aaP hRM hP hAP S2 hhy
 obtain⟨p1,c1,rfl⟩:=bS.shape hl
 have HO:Hid (∀W,NP [] w W->ae W B (bL b v.s sv v.c vb vm vn v.dead) 90):=tK (fun W k=>k.own o b?)
 have ogv:=ae.new w #[B] 27
 have k1:NP [] w (w.alloc (.cells #[B] 27)):=(NP.refl _ _).alloc _
 have⟨Sx,HGV⟩:=f? k1 ogv
 clear hm PT SN hseq hjr S2 hr Oz acy ab3 hPr aaP adT hhy hV hl WG Ri ho hw hn hRM hP hAP o ogv k1
 unfold tD
 have hd:=HHY.out.1
 rw[hd,if_neg b?]at Tq
 have HD:=tK hd
 go_enter func11,ntmps11
 go_wp2_with fail
 refine(Tq.out _ Sx.out).mono ?_;rintro e w2 ⟨rfl,rfl⟩
 have y0:=HGV.out.cell 0 b?
 simp only[List.getElem_toArray,List.getElem_cons_zero]at y0
 go_upto_region 4 with fail
 generalize w.alloc (.cells #[B] 27)=w1 at*
 have Z6:Hid (∀W,NP [] w1 W->W.cell? w=B):=tK (fun W k=>(k.own HGV.out b?).cell 0 b?)
 go_wp2_with fail
 refine(HWR.out _ Sx.out).mono ?_;rintro e w2 ⟨rfl,k2⟩
 have YM:=tK k2
 have y0:=Z6.out w2 k2
 clear k2
 have hwx:=HHY.out.2.1
 have HWX:=tK hwx
 rw[hwx]
 clear hwx hd
 go_wp2_with fail
 refine(Rf.out w2 (Sx.out.trans YM.out)).mono ?_;rintro e w3 ⟨h3,k3⟩
 have Xi:=tK (YM.out.trans k3)
 have y0:=Z6.out w3 (YM.out.trans k3)
 clear k3
 rcases h3 with⟨Pf,rv,lv,rfl,PH,Qp⟩|⟨OF,C,hC0,hCw,rfl⟩
 case inr=>rw[<-X8.out]at OF;exact absurd HHY.out.2.2.1 OF
 case inl=>
  rw[HP.out]at PH Qp
  have QH:=tK Pf
  obtain⟨pR,cR,rfl⟩:=PH.shape
  obtain⟨pL,cL,rfl⟩:=ah Qp
  have ogr:=ae.new w3 #[(pR,P.1.length,cR)] 92
  have SZ:=tK (PH.kept0 ((NP.refl [] w3).alloc (.cells #[(pR,P.1.length,cR)] 92)))
  have HLF:=tK (MH Qp (.cells #[(pR,P.1.length,cR)] 92))
  have k4:=Xi.out.alloc (.cells #[(pR,P.1.length,cR)] 92)
  have⟨Ro,HGR⟩:=f? k4 ogr
  have RS:Hid (w1.heap.size<=w3.heap.size):=tK Xi.out.size
  clear Pf PH Qp ogr k4
  go_upto_region 10 with fail
  have adX:Hid (w.heap.size<=w3.heap.size):=tK (Nk Sx.out.size RS.out)
  have aaL:=HGR.out.lt
  generalize WV:w3.heap.size=gr at*
  generalize w3.alloc (.cells #[(pR,P.1.length,cR)] 92)=w4 at*
  have afb:=tK aaL
  clear WV aaL
  have Ur:Hid (∀W,NP [] w4 W->W.cell? w=B/\W.cell? gr=(pR,P.1.length,cR)/\W.cell? (aa B 7)=(v.c.nextBox,())/\W.cell? (aa B 8)=(v.c.nextMan,())/\W.cell? (aa B 9)=some vb/\W.cell? (aa B 10)=some vm/\W.cell? (aa B 11)=some vn):=tK (fun W k=>by
   have⟨a0,_,_,_,_,_,_,a7,a8,a9,a10,a11,_⟩:=(HO.out W ((Sx.out.trans Ro.out).trans k)).ku
   exact⟨Z6.out W (Ro.out.trans k),(k.own HGR.out b?).cell 0 b?,a7,a8,a9,a10,a11⟩)
  clear y0
  have⟨y0,y1,y2,y3,y4,y5,y6⟩:=Ur.out w4 (NP.refl _ _)
  go_cut [9,10]from 37 to 45 (fun v9 v10 wx=>v9=AP.2/\∃gc x2 x3 x4,v10=.pointer (some ⟨gc,0,none⟩)/\w.heap.size<=gc/\ae wx gc #[(AP.1.nextBox,()),(AP.1.nextMan,()),x2,x3,x4] 52/\dE T wx b sb mb (.agg #[(AP.1.nextBox,()),(AP.1.nextMan,()),x2,x3,x4]) AP.1/\NP [] w4 wx)
  case first=>
   refine MK (S:=(fun W=>W.cell? w=B/\W.cell? gr=(pR,P.1.length,cR)/\W.cell? (aa B 7)=(v.c.nextBox,())/\W.cell? (aa B 8)=(v.c.nextMan,())/\W.cell? (aa B 9)=some vb/\W.cell? (aa B 10)=some vm/\W.cell? (aa B 11)=some vn)) c? (by exact Ur.out _ ((NP.refl [] w4).drew)) (fun hHeld=>?_)
   refine tS ?_
   refine wpAnyH_ready (rs:=[5,9]) c? b? ?_
   refine(AllReadyH.cons rfl (fun K hK=>?_) (AllReadyH.cons rfl (fun K hK=>?_) AllReadyH.nil))
   .skip
    go_simp
    ((with_reducible refine(Z3.out _ _ _ _ (((Sx.out.trans Ro.out)).drew) (SZ.out.oI.kept0 ((NP.refl [] w4).drew))).mono ?_));rintro e w5 ⟨vc,rfl,hcat5,k5⟩
    have Sp:NP [] w4 w5:=((NP.refl [] w4).drew).trans k5
    have RJ:dE T w5 b sb mb vc AP.1:=av.Gg hcat5 ((Sx.out.trans Ro.out).trans Sp) HV.out.bH
    obtain⟨vb5,vm5,vn5,rfl,_⟩:=hcat5
    obtain⟨⟨r1,m1,d1,rfl⟩,⟨r2,m2,d2,rfl⟩,⟨r3,m3,d3,rfl⟩⟩:=dE.sw RJ
    have⟨WZ,Ta⟩:=f? RJ Sp
    clear Sp k5 RJ
    go_wp2_with fail
    refine hK.out _ _ (Ur.out _ Ta.out) (fun hHeld=>nM ?_)
    clear hK K
    refine tS ?_
    have oz:=ae.new w5 #[.int .u32 0,.int .u32 0,(),(),()] 52
    have o6:=oz.aV (AP.1.nextBox,()) (AP.1.nextMan,()) (r1,m1,d1) (r2,m2,d2) (r3,m3,d3)
    have k6:NP [] w4 ((((((w5.alloc (.cells #[.int .u32 0,.int .u32 0,(),(),()] 52)).setCell w5 (AP.1.nextBox,())).setCell (aa w5 1) (AP.1.nextMan,())).setCell (aa w5 2) (r1,m1,d1)).setCell (aa w5 3) (r2,m2,d2)).setCell (aa w5 4) (r3,m3,d3)):=((((((Ta.out.alloc _).setCell (p:=w5) (Or.inr Ta.out.size) (AP.1.nextBox,())).setCell (p:=(aa w5 1)) (Or.inr Ta.out.size) (AP.1.nextMan,())).setCell (p:=(aa w5 2)) (Or.inr Ta.out.size) (r1,m1,d1)).setCell (p:=(aa w5 3)) (Or.inr Ta.out.size) (r2,m2,d2)).setCell (p:=(aa w5 4)) (Or.inr Ta.out.size) (r3,m3,d3))
    have k56:NP [] w5 ((((((w5.alloc (.cells #[.int .u32 0,.int .u32 0,(),(),()] 52)).setCell w5 (AP.1.nextBox,())).setCell (aa w5 1) (AP.1.nextMan,())).setCell (aa w5 2) (r1,m1,d1)).setCell (aa w5 3) (r2,m2,d2)).setCell (aa w5 4) (r3,m3,d3)):=(((((((NP.refl [] w5).alloc _).setCell (p:=w5) (Or.inr (MG _)) (AP.1.nextBox,())).setCell (p:=(aa w5 1)) (Or.inr (MG _)) (AP.1.nextMan,())).setCell (p:=(aa w5 2)) (Or.inr (MG _)) (r1,m1,d1)).setCell (p:=(aa w5 3)) (Or.inr (MG _)) (r2,m2,d2)).setCell (p:=(aa w5 4)) (Or.inr (MG _)) (r3,m3,d3))
    have⟨HOZ,aaY⟩:=f? oz k56
    have UN:w.heap.size<=w5.heap.size:=Nk (Sx.out.trans Ro.out).size Ta.out.size
    have HGL:=tK UN
    clear oz k56 UN
    refine rD 9 (fun K hK=>?_)
    go_simp
    refine hK.out _ _ (Ur.out _ (Ta.out.alloc _)) (fun hHeld=>nM ?_)
    clear hK K
    refine rD 10 (fun K hK=>?_)
    refine dz rfl 52 _ _ rfl w5 0 #[(AP.1.nextBox,()),(AP.1.nextMan,()),(r1,m1,d1),(r2,m2,d2),(r3,m3,d3)] g? g? (HOZ.out.there 0 5 b?) c? (NL (cs:=[.int .u32 AP.1.nextBox,.int .u32 AP.1.nextMan,.slice r1 m1 d1,.slice r2 m2 d2,.slice r3 m3 d3]) l?) ?_
    rw[oD]
    clear HOZ
    generalize ((((((w5.alloc (.cells #[.int .u32 0,.int .u32 0,(),(),()] 52)).setCell w5 (AP.1.nextBox,())).setCell (aa w5 1) (AP.1.nextMan,())).setCell (aa w5 2) (r1,m1,d1)).setCell (aa w5 3) (r2,m2,d2)).setCell (aa w5 4) (r3,m3,d3))=w6 at*
    have⟨Vh,Tl⟩:=f? o6 k6
    clear o6 k6
    refine hK.out _ _ (Ur.out _ Tl.out) (fun hHeld=>nM ?_)
    clear hK K
    refine tS ?_
    refine Ng c? ?_ _
    try simp only[List.set_cons_succ,List.set_cons_zero]
    go_wp2_with fail
    go_meet
    exact⟨rfl,_,_,_,_,rfl,HGL.out,Vh.out,WZ.out.kept0 aaY.out (MR HV.out.bH (Nk (Sx.out.trans Ro.out).size Ta.out.size)),Tl.out⟩
   .skip
    have HZ:Hid (ae (w4.alloc (.cells #[.int .u32 0,.int .u32 0,(),(),()] 52)) w4 #[.int .u32 0,.int .u32 0,(),(),()] 52):=tK (ae.new _ _ _)
    go_simp
    refine hK.out _ _ ?_ (fun hHeld=>nM ?_)
    .first|exact Ur.out _ ((NP.refl [] w4).alloc _).drew|exact Ur.out _ ((NP.refl [] w4).drew.alloc _)
    clear hK K
    refine rD 5 (fun K hK=>?_)
    go_simp
    ((with_reducible refine(abW.out _ _ _ _ w4 (by first|exact((Sx.out.trans Ro.out).alloc _).drew|exact((Sx.out.trans Ro.out).drew).alloc _) (Sx.out.trans Ro.out).size b? (by first|exact SZ.out.oI.kept0 (((NP.refl [] w4).alloc _).drew)|exact SZ.out.oI.kept0 (((NP.refl [] w4).drew).alloc _))).mono ?_));rintro e w5 ⟨vc,rfl,hcat5,k5⟩
    have Sp:NP [] w4 w5:=by first|exact(((NP.refl [] w4).alloc _).drew).trans k5|exact(((NP.refl [] w4).drew).alloc _).trans k5
    have oz5:ae w5 w4 #[.int .u32 0,.int .u32 0,(),(),()] 52:=by first|exact k5.own HZ.out.drew b?|exact k5.own (ae.new w4.drew #[.int .u32 0,.int .u32 0,.slice none 0 0,.slice none 0 0,.slice none 0 0] 52) b?
    have RJ:dE T w5 b sb mb vc AP.1:=av.Gg (hcat5.cI (fun x hx=>Or.inl hx)) ((Sx.out.trans Ro.out).trans Sp) HV.out.bH
    have acO:=tK hcat5
    obtain⟨vb5,vm5,vn5,rfl,_⟩:=hcat5
    obtain⟨⟨r1,m1,d1,rfl⟩,⟨r2,m2,d2,rfl⟩,⟨r3,m3,d3,rfl⟩⟩:=dE.sw RJ
    have⟨WZ,Ta,HOZ⟩:=gg! RJ Sp oz5
    clear Sp k5 RJ oz5
    go_wp2_with fail
    refine hK.out _ _ (Ur.out _ Ta.out) (fun hHeld=>nM ?_)
    clear hK K
    refine tS ?_
    have o6:=HOZ.out.aV (AP.1.nextBox,()) (AP.1.nextMan,()) (r1,m1,d1) (r2,m2,d2) (r3,m3,d3)
    have k6:NP [] w4 (((((w5.setCell w4 (AP.1.nextBox,())).setCell (aa w4 1) (AP.1.nextMan,())).setCell (aa w4 2) (r1,m1,d1)).setCell (aa w4 3) (r2,m2,d2)).setCell (aa w4 4) (r3,m3,d3)):=(((((Ta.out.setCell (p:=w4) (Or.inr (MG _)) (AP.1.nextBox,())).setCell (p:=(aa w4 1)) (Or.inr (MG _)) (AP.1.nextMan,())).setCell (p:=(aa w4 2)) (Or.inr (MG _)) (r1,m1,d1)).setCell (p:=(aa w4 3)) (Or.inr (MG _)) (r2,m2,d2)).setCell (p:=(aa w4 4)) (Or.inr (MG _)) (r3,m3,d3))
    have k56:NP [w4.heap.size] w5 (((((w5.setCell w4 (AP.1.nextBox,())).setCell (aa w4 1) (AP.1.nextMan,())).setCell (aa w4 2) (r1,m1,d1)).setCell (aa w4 3) (r2,m2,d2)).setCell (aa w4 4) (r3,m3,d3)):=((((((NP.refl [w4.heap.size] w5).setCell (p:=w4) (Or.inl MY) (AP.1.nextBox,())).setCell (p:=(aa w4 1)) (Or.inl MY) (AP.1.nextMan,())).setCell (p:=(aa w4 2)) (Or.inl MY) (r1,m1,d1)).setCell (p:=(aa w4 3)) (Or.inl MY) (r2,m2,d2)).setCell (p:=(aa w4 4)) (Or.inl MY) (r3,m3,d3))
    have aaY:=tK k56
    clear k56
    refine rD 10 (fun K hK=>?_)
    refine dz rfl 52 _ _ rfl w4 0 #[(AP.1.nextBox,()),(AP.1.nextMan,()),(r1,m1,d1),(r2,m2,d2),(r3,m3,d3)] g? g? (HOZ.out.there 0 5 b?) c? (NL (cs:=[.int .u32 AP.1.nextBox,.int .u32 AP.1.nextMan,.slice r1 m1 d1,.slice r2 m2 d2,.slice r3 m3 d3]) l?) ?_
    rw[oD]
    clear HOZ
    generalize (((((w5.setCell w4 (AP.1.nextBox,())).setCell (aa w4 1) (AP.1.nextMan,())).setCell (aa w4 2) (r1,m1,d1)).setCell (aa w4 3) (r2,m2,d2)).setCell (aa w4 4) (r3,m3,d3))=w6 at*
    have⟨Vh,Tl⟩:=f? o6 k6
    clear o6 k6
    refine hK.out _ _ (Ur.out _ Tl.out) (fun hHeld=>nM ?_)
    clear hK K
    refine tS ?_
    refine Ng c? ?_ _
    try simp only[List.set_cons_succ,List.set_cons_zero]
    have aaF:=acO.out.aS aaY.out (fun x hx=>by
     obtain rfl:x=w4.heap.size:=h?
     exact Or.inr rfl)
    have ac3:Hid (dE T w6 b sb mb (.agg #[(AP.1.nextBox,()),(AP.1.nextMan,()),(r1,m1,d1),(r2,m2,d2),(r3,m3,d3)]) AP.1):=tK (av.Gg (aaF.cI (fun x hx=>Or.inl hx)) ((Sx.out.trans Ro.out).trans Tl.out) HV.out.bH)
    clear aaF
    go_wp2_with fail
    go_meet
    exact⟨rfl,_,_,_,_,rfl,(Sx.out.trans Ro.out).size,Vh.out,ac3.out,Tl.out⟩
  case rest=>
   obtain⟨rfl,gc,x2,x3,x4,rfl,hgcl,hgcat,RJ,Q7⟩:=hcut
   rename World=>w6
   obtain⟨⟨r1,m1,d1,rfl⟩,⟨r2,m2,d2,rfl⟩,⟨r3,m3,d3,rfl⟩⟩:=dE.sw RJ
   have⟨afy,Vh,WZ,Tl⟩:=gh! hgcl hgcat RJ Q7
   clear hgcl hgcat RJ Q7 y0 y1 y2 y3 y4 y5 y6
   have⟨y0,y1,y2,y3,y4,y5,y6⟩:=Ur.out w6 Tl.out
   have Qf:AP.2=0:=by rw[<-SG.out,<-HP.out,<-X8.out];exact HHY.out.2.2.2.1
   have ad6:=tK Qf
   have e0:(AP.2==0)=true:=by rw[Qf];rfl
   clear Qf
   have aa9:=tK (VU.out w6 _ _ _ (SZ.out.oI.kept0 Tl.out))
   unfold mU at aa9
   obtain⟨Vo,hTXO⟩:∃x,Pv P.1=x:=⟨_,rfl⟩
   obtain⟨TXC,hTXC⟩:∃x,cX P.1=x:=⟨_,rfl⟩
   rw[hTXO,hTXC]at aa9
   have⟨abF,aa1⟩:=f? hTXO hTXC
   clear hTXO hTXC
   go_wp2_with fail
   refine aa9.out.mono ?_;rintro e w7 ⟨rfl,k7⟩
   have Un:=tK (Tl.out.trans k7)
   have aaZ:=tK (WZ.out.kept0 k7 (MR HV.out.bH ((Sx.out.trans Ro.out).trans Tl.out).size))
   have abi:=tK (k7.own Vh.out b?)
   clear k7 y0 y1 y2 y3 y4 y5 y6
   have Tt:TXC=0:=by rw[<-aa1.out,<-HP.out,<-X8.out];exact HHY.out.2.2.2.2.1
   subst Tt
   have afm:=aa1
   have WG:(l.length:Int)<=8:=by have:=Q1.out.2.2.2.1;omega
   go_wp2_with fail
   go_loopw [12,13,14,59] (fun sv iv xv kv wr=>IN w w7 gr l sv kv wr) (fun _ _ _ kv _=>l.length-(intOf kv).toNat)
   case atStart=>exact⟨0,[],Nb _,rfl,Nf _ _ _ _,⟨rfl,fun q hq=>by cases hq⟩,NP.refl _ _⟩
   case round=>
    obtain⟨k,qs,hk,rfl,NU,Oo,hK⟩:=hrel
    obtain⟨pS,cS,rfl⟩:=ah NU
    by_cases NV:k<l.length
    .have i1:(k:Int)<l.length:=a?
     obtain⟨bl,ol,rfl,r0,r1,r2,r3,Uq,Oq⟩:=gC.at_ (HL.out.kept0 (((Sx.out.trans Ro.out).trans Un.out).trans hK)) k NV
     have⟨W4,Pm,OY,Of⟩:=gh! hK NU Oo NV
     have hql:=Oo.AG
     have HQL:=tK hql
     have HWS:Hid (w.heap.size<=wr.heap.size):=tK (((Sx.out.trans Ro.out).trans Un.out).trans hK).size
     have HY:Hid (∀W,NP [] wr W->W.cell? w=B):=tK (fun W k=>Z6.out W (((Ro.out.trans Un.out).trans hK).trans k))
     have⟨o1,o2⟩:=ch wr #[(k:Int)] #[.int .i64 (l[k]'NV).kind,.int .u32 (l[k]'NV).id,.string (bs (l[k]'NV).name),.string (bs (l[k]'NV).bytes)] 3 34
     have k2:NP [] wr ((wr.alloc (.cells #[(k:Int)] 3)).alloc (.cells #[.int .i64 (l[k]'NV).kind,.int .u32 (l[k]'NV).id,.string (bs (l[k]'NV).name),.string (bs (l[k]'NV).bytes)] 34)):=((NP.refl _ _).alloc _).alloc _
     have HCO:Hid (∀W,am! 47 #[.int .i64 (l[k]'NV).kind] W fun e w'=>e=.returned (.bool (Oj (l[k]'NV).kind))/\W=w'):=tK (fun W=>wg _ W)
     have adm:Hid (∀W',Oj (l[k]'NV).kind=true->(∀g cs t,ae wr g cs t->(t=3\/t=34)->ae W' g cs t)->ae W' wr #[(k:Int)] 3->ae W' (wr.heap.size+1) #[.int .i64 (l[k]'NV).kind,.int .u32 (l[k]'NV).id,.string (bs (l[k]'NV).name),.string (bs (l[k]'NV).bytes)] 34->eE w W' l (k+1) (qs++[((k,l[k]'NV),(wr.heap.size,wr.heap.size+1))])):=tK (fun W' hb hW oi ox=>Oo.more NV hb HWS.out (by have:=HWS.out;omega) hW oi ox)
     have HKB:Hid (Oj (l[k]'NV).kind=true):=tK (HHY.out.2.2.2.2.2.2 _ (MJ _))
     clear NU Oo hK hk hql Oq
     generalize hX:l[k]'NV=X at*
     clear hX NV
     obtain⟨xk,xi,xn,xb⟩:=X
     simp only at*
     have⟨z0,z1,z2,z3⟩:=o2.c4
     have z4:=o1.cell 0 b?
     simp only[List.getElem_toArray,List.getElem_cons_zero]at z4
     have⟨HO1,HO2,abl⟩:=gg! o1 o2 k2
     clear o1 o2 k2
     go_wp2_with fail
     refine(HCO.out _).mono ?_;rintro e w8 ⟨rfl,rfl⟩
     rw[HKB.out]
     obtain⟨i0,q0,q1,q2,q3⟩:=Dp
     have m3:qs.length+1<=maxLen:=by have:=HQL.out;have:=Of.out;unfold maxLen;omega
     have m4:(qs.length+1)*8<=140737488355328:=by have:=HQL.out;have:=Of.out;omega
     have To:=MH (MH Pm.out (.cells #[(k:Int)] 3)) (.cells #[xk,(xi,()),xn,xb] 34)
     have aaN:=tK To
     clear To
     have Yv:w7.heap.size<=((wr.alloc (.cells #[(k:Int)] 3)).alloc (.cells #[xk,(xi,()),xn,xb] 34)).heap.size:=Nk W4.out.size abl.out.size
     generalize hw9:((wr.alloc (.cells #[(k:Int)] 3)).alloc (.cells #[xk,(xi,()),xn,xb] 34))=w9 at*
     clear hw9
     go_wp2_with (at_builtin;go_must (refine MT _ rfl (.tmp 67) (.tmp 69) 98 rfl w7 42 i0 .nilFunc 1 8 underlying98 q0 q1 q2 q3 rfl d? _ _ _ rfl (MH aaN.out _) w9 1 1 [.func (.func 48) #[] #[w.heap.size,gr,wr.heap.size,↑(wr+1:Nat)]] rfl rfl ?_ ?_ m3 m4 ?_ ?_))
     .exact kL _ _ _
     .intro u hu;simp at hu;subst hu;rfl
     .simp<;>omega
     intro v6 w10 o6 Po _ _
     have RK:=MH aaN.out (.cells #[.func (.func 48) #[] #[w.heap.size,gr,wr.heap.size,↑(wr+1:Nat)]] 42)
     have Xf:NP [] w7 w10:=((W4.out.trans abl.out).alloc _).grown Po (fun q hq=>Or.inr (ML RK q hq).1)
     have hW9:∀g cs t,ae w9 g cs t->(t=3\/t=34)->ae w10 g cs t:=fun g cs t og ht=>(Po.block g (og.alloc _).lt (fun e=>aB RK (og.alloc _) (by rcases ht with rfl|rfl<;>decide) e.symm)).trans (og.alloc _)
     have aax:=adm.out w10 HKB.out (fun g cs t og ht=>hW9 g cs t (abl.out.own og b?) ht) (hW9 _ _ _ HO1.out (Or.inl rfl)) (hW9 _ _ _ HO2.out (Or.inr rfl))
     have⟨acv,XE,abx⟩:=gg! aax Xf o6
     clear RK Xf hW9 aax o6 Po
     go_wp2_with fail
     go_roundw
     case rel=>exact⟨k+1,_,Of.out,j?,by rw[tN,M0,M0,List.map_map];exact abx.out,acv.out,XE.out⟩
     case measure=>(have hh:=Of.out;simp[intOf]<;>omega)
    .obtain rfl:k=l.length:=a?
     have i1:¬((l.length:Nat):Int)<l.length:=a?
     have⟨W4,Pm,HQL⟩:=gg! hK NU Oo.AG
     have aeq:Hid (∀W,NP [] w7 W->eE w W l l.length qs->dW T w W B b sb mb lo w gr v l P.1 qs):=tK (fun W k hs=>⟨HV.out,((Sx.out.trans Ro.out).trans Un.out).trans k,⟨MG _,((Ro.out.trans Un.out).trans k).own HGV.out b?⟩,⟨_,adX.out,(Un.out.trans k).own HGR.out b?,(SZ.out.base (Sx.out.trans YM.out).size).kept0 (Un.out.trans k)⟩,hs,acY.out,Ux.out,by have:=Q1.out.2.2.2.1;omega,fun x hx=>(HFT.out x hx).2.2.2⟩)
     have OY:=tK Oo
     have abv:∀W,NP [] w7 W->W.cell? w=B/\W.cell? B=b/\W.cell? (aa B 3)=v.s.journal/\W.cell? (aa B 4)=v.s.used/\W.cell? gc=(AP.1.nextBox,())/\W.cell? (aa gc 1)=(AP.1.nextMan,())/\W.cell? (aa gc 2)=(r1,m1,d1)/\W.cell? (aa gc 3)=(r2,m2,d2)/\W.cell? (aa gc 4)=(r3,m3,d3):=fun W k=>by
      have⟨a0,_,_,a3,a4,_⟩:=(HO.out W (((Sx.out.trans Ro.out).trans Un.out).trans k)).ku
      have⟨e0,e1,e2,e3,e4⟩:=(k.own abi.out b?).k5
      exact⟨Z6.out W ((Ro.out.trans Un.out).trans k),a0,a3,a4,e0,e1,e2,e3,e4⟩
     have XA:=tK abv
     have⟨y0,y1,y2,y3,y4,y5,y6,y7,y8⟩:=abv wr W4.out
     have hj1:1<=v.s.journal:=x!
     have ZO:v.s.journal<=30:=Q1.out.2.2.2.2.2
     have hu1:0<=v.s.used:=x!
     have hu2:v.s.used<=v.s.journal*128:=x!
     have PW:(bs Vo).size=Vo.length:=NQ Vo
     clear hK NU Oo abv
     go_upto_region 23 with fail
     refine MK (S:=(fun W=>W.cell? w=B/\W.cell? B=b/\W.cell? (aa B 3)=v.s.journal/\W.cell? (aa B 4)=v.s.used/\W.cell? gc=(AP.1.nextBox,())/\W.cell? (aa gc 1)=(AP.1.nextMan,())/\W.cell? (aa gc 2)=(r1,m1,d1)/\W.cell? (aa gc 3)=(r2,m2,d2)/\W.cell? (aa gc 4)=(r3,m3,d3))) c? (by exact XA.out _ (W4.out.drew)) (fun hHeld=>?_)
     refine tS ?_
     refine Ng c? ?_ _
     try simp only[List.set_cons_succ,List.set_cons_zero]
     have kd:NP [] w7 wr.drew:=W4.out.drew
     have QQ:wr.drew.ownsRow w7 42 1 (pS,qs.length,cS) qs.length ((qs.map (oT w gr)).map zN):=ax Pm.out ((NP.refl [] wr).drew) (fun x hx=>by cases hx)
     have hsd:eE w wr.drew l l.length qs:=OY.out.kept ((NP.refl [] wr).drew)
     have aay:v.s.seq<=1000000:=by have:=Q1.out.2.2.2.2.1;omega
     generalize wr.drew=wd at*
     have⟨ZQ,TC,HSD,HQ9⟩:=gh! kd QQ hsd aay
     clear kd QQ hsd aay Pm OY y0 y1 y2 y3 y4 y5 y6 y7 y8 hHeld
     have⟨y0,y1,y2,y3,y4,y5,y6,y7,y8⟩:=XA.out wd ZQ.out
     have aeF:Hid (IntKind.i64.wrap (IntKind.i64.wrap (v.s.journal*128)-v.s.used)=v.s.journal*128-v.s.used):=tK (by rw[IntWalk.i64_in (v.s.journal*128) a?,IntWalk.i64_in _ a?])
     have h5:(Vo.length:Int)<=v.s.journal*128-v.s.used:=by rw[<-abF.out,<-HP.out,<-X8.out];exact HHY.out.2.2.2.2.2.1
     have HX:=tK (ur (l:=l) HD.out HWX.out (by rw[X8.out];exact QH.out) (by rw[X8.out,HP.out,SG.out];exact ad6.out) (by rw[X8.out,HP.out];exact aa1.out) (by rw[X8.out,HP.out,abF.out];exact h5))
     rw[X8.out,HP.out,SG.out,abF.out]at HX
     have HAF:Hid (∀W,am! 50 #[B,.agg #[(AP.1.nextBox,()),(AP.1.nextMan,()),(r1,m1,d1),(r2,m2,d2),(r3,m3,d3)],Vo] W fun e w'=>e=.returned (.func (.func 107) #[] #[.pointer (some ⟨W.heap.size,0,none⟩),.pointer (some ⟨W.heap.size+2,0,none⟩),.pointer (some ⟨W.heap.size+1,0,none⟩)])/\((W.alloc (.cells #[B] 27)).alloc (.cells #[(AP.1.nextBox,()),(AP.1.nextMan,()),(r1,m1,d1),(r2,m2,d2),(r3,m3,d3)] 52)).alloc (.cells #[Vo] 9)=w'):=tK (fun W=>Ec B _ _ _ _ _ Vo W)
     have HTL:Hid (Vo.length<=4000):=tK a?
     have h5w:(Vo.length:Int)<=IntKind.i64.wrap (IntKind.i64.wrap (v.s.journal*128)-v.s.used):=by rw[aeF.out];exact h5
     have afz:=tK PW
     clear hj1 ZO hu1 hu2 PW
     go_upto_region 24 with fail
     clear h5w
     refine MK (S:=(fun W=>W.cell? w=B/\W.cell? B=b/\W.cell? (aa B 3)=v.s.journal/\W.cell? (aa B 4)=v.s.used/\W.cell? gc=(AP.1.nextBox,())/\W.cell? (aa gc 1)=(AP.1.nextMan,())/\W.cell? (aa gc 2)=(r1,m1,d1)/\W.cell? (aa gc 3)=(r2,m2,d2)/\W.cell? (aa gc 4)=(r3,m3,d3))) c? (by exact XA.out _ (ZQ.out.drew)) (fun hHeld=>?_)
     refine tS ?_
     refine rD 9 (fun K hK=>?_)
     go_simp
     ((with_reducible refine(HAF.out _).mono ?_));rintro e w8 ⟨rfl,rfl⟩
     go_wp2_with fail
     refine hK.out _ _ (XA.out _ ((((ZQ.out.alloc _).alloc _).alloc _).drew)) (fun hHeld=>nM ?_)
     clear hK K
     refine rD 10 (fun K hK=>?_)
     go_simp
     refine hK.out _ _ (XA.out _ (((((ZQ.out.alloc _).alloc _).alloc _).alloc _).drew)) (fun hHeld=>nM ?_)
     clear hK K
     have⟨o1,o2,o3,o4⟩:=nD wd #[B] #[(AP.1.nextBox,()),(AP.1.nextMan,()),(r1,m1,d1),(r2,m2,d2),(r3,m3,d3)] #[Vo] #[.func (.func 39) #[b] #[],.func (.func 107) #[] #[wd.heap.size,↑(wd+2:Nat),↑(wd+1:Nat)]] 27 52 9 42
     have UV:((((wd.alloc (.cells #[B] 27)).alloc (.cells #[(AP.1.nextBox,()),(AP.1.nextMan,()),(r1,m1,d1),(r2,m2,d2),(r3,m3,d3)] 52)).alloc (.cells #[Vo] 9)).alloc (.cells #[.func (.func 39) #[b] #[],.func (.func 107) #[] #[wd.heap.size,↑(wd+2:Nat),↑(wd+1:Nat)]] 42)).drew.ownsRow w7 42 1 (pS,qs.length,cS) qs.length ((qs.map (oT w gr)).map zN):=ax TC.out ((((((NP.refl [] wd).alloc _).alloc _).alloc _).alloc _).drew) (fun x hx=>by cases hx)
     have k10:NP [] wd ((((wd.alloc (.cells #[B] 27)).alloc (.cells #[(AP.1.nextBox,()),(AP.1.nextMan,()),(r1,m1,d1),(r2,m2,d2),(r3,m3,d3)] 52)).alloc (.cells #[Vo] 9)).alloc (.cells #[.func (.func 39) #[b] #[],.func (.func 107) #[] #[wd.heap.size,↑(wd+2:Nat),↑(wd+1:Nat)]] 42)).drew:=(((((NP.refl [] wd).alloc _).alloc _).alloc _).alloc _).drew
     have o1d:=o1.drew
     have o2d:=o2.drew
     have o3d:=o3.drew
     have o4d:=o4.drew
     clear o1 o2 o3 o4
     generalize ((((wd.alloc (.cells #[B] 27)).alloc (.cells #[(AP.1.nextBox,()),(AP.1.nextMan,()),(r1,m1,d1),(r2,m2,d2),(r3,m3,d3)] 52)).alloc (.cells #[Vo] 9)).alloc (.cells #[.func (.func 39) #[b] #[],.func (.func 107) #[] #[wd.heap.size,↑(wd+2:Nat),↑(wd+1:Nat)]] 42)).drew=w10 at*
     obtain⟨i0,q0,q1,q2,q3⟩:=Dp
     have Rk:w7.heap.size<=w10.heap.size:=Nk ZQ.out.size k10.size
     have⟨v5,w11,Oe,hrow11,WV,_,_⟩:=run_append_own_at (P:=prog) w10 w7 98 98 42 i0 .nilFunc 1 8 underlying98 q0 q1 q2 q3 rfl d? _ qs.length _ UV (aa (wd+3) 0) 2 2 [.func (.func 39) #[b] #[],.func (.func 107) #[] #[wd.heap.size,↑(wd+2:Nat),↑(wd+1:Nat)]] rfl (Fk o4d) v? (by have:=HQL.out;have:=Q1.out.2.2.2.1;unfold maxLen;omega) (by have:=HQL.out;have:=Q1.out.2.2.2.1;omega) Rk
     have Xh:∀g cs t,ae w10 g cs t->42≠t->ae w11 g cs t:=fun g cs t og Pb=>(WV.block g og.lt (fun e=>aB UV og Pb e.symm)).trans og
     have Xl:NP [] w7 w11:=(ZQ.out.trans k10).grown WV (fun q hq=>Or.inr (ML UV q hq).1)
     have aaQ:eE w w11 l l.length qs:=⟨HSD.out.idx,fun q hq=>by
      have⟨a1,a2,a3,a4⟩:=HSD.out.own q hq
      exact⟨a1,a2,Xh _ _ _ (k10.own a3 b?) d?,Xh _ _ _ (k10.own a4 b?) d?⟩⟩
     have Yv:w.heap.size<=wd.heap.size:=(((Sx.out.trans Ro.out).trans Un.out).trans ZQ.out).size
     have Zw:=aaZ.out.kept0 Xl (MR HV.out.bH ((Sx.out.trans Ro.out).trans Un.out).size)
     have Zn:NP [] w w11:=((Sx.out.trans Ro.out).trans Un.out).trans Xl
     obtain⟨p5,c5,rfl⟩:=ah hrow11
     have P8:Hid (∀W,NP [] w11 W->am! 37 #[(p5,qs.length+2,c5)] W fun e w'=>e=.returned (.int .i64 (OH (gP l P.1++[aZ aA,bg AP.1 Vo]) v).2)/\aL T w' B b sb mb lo (OH (gP l P.1++[aZ aA,bg AP.1 Vo]) v).1/\PK [B] b sb mb W w'):=tK (fun W k=>Ky (aeq.out W (Xl.trans k) (aaQ.kept k)) AP.1 _ _ _ Vo wd (wd.heap.size+2) (wd.heap.size+1) _ (aF (ax hrow11 k (fun x hx=>by cases hx)) ((Sx.out.trans Ro.out).trans Un.out).size) Yv a? a? (k.own (Xh _ _ _ o1d d?) b?) (k.own (Xh _ _ _ o3d d?) b?) (k.own (Xh _ _ _ o2d d?) b?) (Zw.kept0 k (MR HV.out.bH Zn.size)) HM.out HQ9.out HTL.out Q1.out.1 Q1.out.2.1 Q1.out.2.2.1 HV.out.da.len.1 Q1.out.2.2.2.1)
     have⟨Ra,ad7,aeV⟩:=gg! Oe Xl Zn
     have WS:Hid (∀W,PK [B] b sb mb w11 W->W.cell? w=B):=tK (fun W k=>(k.own (((Ro.out.trans Un.out).trans Xl).own HGV.out b?) ((HV.out.da.bU HV.out.hT Zn (MG _)).Jf HV.out.hB)).cell 0 b?)
     have acf:Hid (b<w11.heap.size):=tK (MR HV.out.bH Zn.size)
     clear Oe hrow11 WV Xh Xl aaQ Yv Zw Zn UV k10 Rk o1d o2d o3d o4d
     refine rD 11 (fun K hK=>?_)
     refine aO rfl _ _ 98 98 rfl _ _ g? g? Ra.out ?_
     refine hK.out _ _ (XA.out _ ad7.out) (fun hHeld=>nM ?_)
     clear hK K
     refine tS ?_
     refine Ng c? ?_ _
     try simp only[List.set_cons_succ,List.set_cons_zero]
     clear y0 y1 y2 y3 y4 y5 y6 y7 y8
     generalize OH (gP l P.1++[aZ aA,bg AP.1 Vo]) v=CH at*
     have y0:=WS.out w11 (PK.refl _ _ _ _ _)
     go_upto_region 25 with fail
     refine MK (S:=(fun W=>W.cell? w=B)) c? (by exact WS.out _ ((NP.refl [] w11).drew.eH acf.out)) (fun hHeld=>?_)
     refine tS ?_
     refine rD 2 (fun K hK=>?_)
     go_simp
     ((with_reducible refine(P8.out _ ((NP.refl [] w11).drew)).mono ?_));rintro e w12 ⟨rfl,hV12,Wb⟩
     have ac2:=((NP.refl [] w11).drew.eH (T:=[B]) (sb:=sb) (mb:=mb) acf.out).trans Wb
     have⟨K12,ac6⟩:=f? ac2 hV12
     have abS:Hid (∀W,NP [] w12 W->am! 51 #[B,CH.2] W fun e w'=>e=CH.2/\aL T w' B b sb mb lo (Qk CH).1/\NP [B] W w'):=tK (fun W k=>I5 (hV12.aJ k) CH.2)
     clear ac2 Wb hV12
     go_wp2_with fail
     refine hK.out _ _ (WS.out _ K12.out) (fun hHeld=>nM ?_)
     clear hK K
     refine rD 3 (fun K hK=>?_)
     go_simp
     ((with_reducible refine(abS.out _ (by first|exact NP.refl _ _|exact(NP.refl _ _).drew)).mono ?_));rintro e w13 ⟨rfl,hV13,k13⟩
     have aek:=tK hV13
     have K13:Hid (PK [B] b sb mb w11 w13):=tK (K12.out.trans (by first|exact ac6.out.tW k13|exact ac6.out.tW ((NP.refl [B] w12).drew.trans k13)))
     clear k13 hV13
     go_wp2_with fail
     refine hK.out _ _ (WS.out _ K13.out) (fun hHeld=>nM ?_)
     clear hK K
     refine tS ?_
     refine Ng c? ?_ _
     try simp only[List.set_cons_succ,List.set_cons_zero]
     go_wp2_with fail
     go_ret
     rw[HX.out]
     exact⟨rfl,aek.out,(aeV.out.eH HV.out.bH).trans K13.out⟩
end
end Go.Proofs.YtdkimcnlhmhpgaaGreat

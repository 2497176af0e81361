/- -/
import Derived.Test.YtdkimcnlhmhpgaaGreatM32
set_option maxHeartbeats 32000000
set_option maxRecDepth 100000
namespace Go.Proofs.YtdkimcnlhmhpgaaGreat
open Go.Proofs.Tryz Go.RowKit
variable {l:List NS} {k:Nat} {c:au}
def qc (l:List NS) (k:Nat):Prop:=∀j (hj:j<l.length),j<k->az (l[j].told 3)=true/\∀(h:0<j),iU (l[j-1]' _a).name l[j].name=true
theorem qc.zero (l:List NS):qc l 0:=fun j _ h=>absurd h (Nat.not_lt_zero j)
theorem qc.step {l:List NS} {k:Nat} (h:qc l k) (hk:k<l.length) (h1:az (l[k].told 3)=true) (h3:∀(h:0<k),iU (l[k-1]' _a).name l[k].name=true):qc l (k+1):=fun j hj hjk=>by
 by_cases e:j=k
 .subst e;exact⟨h1,h3⟩
 .exact h j hj _a
theorem qc.all (h:qc l l.length):(∀a∈l,az (a.told 3)=true)/\cG l:=by
 refine⟨fun a ha=>?_,pf (fun k hk=>?_)⟩
 .obtain⟨j,hj,rfl⟩:=Nr.1 ha;exact(h j hj hj).1
 .have h0:=(mc (h k _a _a).1).1
  have h1:=(mc (h (k+1) hk hk).1).1
  rw[iV];exact Or.inr ⟨by rw[h0,h1],(h (k+1) hk hk).2 _a⟩
theorem Ft (hk:k<l.length) (h:az (l[k].told 3)=false):¬cE 3 l 256:=fun hh=>by
 have:=hh.2.1 l[k] (MJ hk)
 rw[h]at this;cases this
theorem C8 {l:List NS} {k:Nat} (hk:k<l.length) (h0:0<k) (h:iU (l[k-1]' _a).name l[k].name=false):¬cE 3 l 256:=fun hh=>by
 have h1:=hh.2.2.at_ hk (show k-1<k by omega)
 have h2:=(mc (hh.2.1 l[k] (MJ hk))).1
 have h3:=(mc (hh.2.1 (l[k-1]' _a) (MJ _))).1
 rw[iV,h2,h3]at h1
 rcases h1 with h1|h1
 .omega
 .rw[h1.2]at h;cases h
theorem Fu (h:qc l l.length):cE 3 l 256↔l.length<=256:=⟨fun hh=>hh.1,fun hh=>⟨hh,h.all.1,h.all.2⟩⟩
theorem Fz (c:au):OL c↔(cE 3 c.names 256/\(cE 1 c.boxes 2048/\cZ c.nextBox c.boxes)/\(cE 2 c.mans 2048/\cZ c.nextMan c.mans)):=
 ⟨fun h=>⟨h.names,⟨h.boxes,h.nb⟩,⟨h.mans,h.nm⟩⟩,fun h=>⟨h.2.1.1,h.2.1.2,h.2.2.1,h.2.2.2,h.1⟩⟩
theorem M87 {A:Prop}(h:A:=by
 refine tS ?_
 refine Ng _c ?_ _
 try simp only[List.set_cons_succ,List.set_cons_zero]
 go_wp2_with fail
 go_ret
 exact aX HN.out (VF.out.trans K4.out)):A:=h
theorem AE (v:Value) (c:au) (w:World) (h:dJ w v c) (hc:ie c):
  am! 206 #[v] w (bG (OL c) w):=by
 obtain⟨vb,vm,vn,rfl,hb,hm,hn,_⟩:=h
 have Ts:Hid (∀W,NP [] w W->am! 257 #[(1:Int),vb,(c.nextBox,())] W (bG (cE 1 c.boxes 2048/\cZ c.nextBox c.boxes) W)):=tK (fun W q=>uM 1 _ (Or.inl rfl) vb c.boxes W (hb.kept0 q) hc.1 hc.1.1)
 have Rs:Hid (∀W,NP [] w W->am! 257 #[(2:Int),vm,(c.nextMan,())] W (bG (cE 2 c.mans 2048/\cZ c.nextMan c.mans) W)):=tK (fun W q=>uM 2 _ (Or.inr rfl) vm c.mans W (hm.kept0 q) hc.2.1 hc.2.1.1)
 have VT:=tK (Fz c)
 obtain⟨p2,c2,rfl⟩:=hb.shape
 obtain⟨p3,c3,rfl⟩:=hm.shape
 obtain⟨pv,cv,rfl⟩:=hn.shape
 obtain⟨W1,hW1⟩:∃W1,W1=w.alloc (.cells #[(c.nextBox,()),(c.nextMan,()),(p2,c.boxes.length,c2),(p3,c.mans.length,c3),(pv,c.names.length,cv)] 52):=⟨_,rfl⟩
 have k1:NP [] w W1:=_H
 have oA:ae W1 w #[(c.nextBox,()),(c.nextMan,()),(p2,c.boxes.length,c2),(p3,c.mans.length,c3),(pv,c.names.length,cv)] 52:=_U
 have X7:Hid (∀W,NP [] W1 W->W.cell? w=(c.nextBox,())/\W.cell? (aa w 1)=(c.nextMan,())/\W.cell? (aa w 2)=(p2,c.boxes.length,c2)/\W.cell? (aa w 3)=(p3,c.mans.length,c3)/\W.cell? (aa w 4)=(pv,c.names.length,cv)):=tK (fun W q=>(q.own oA _b).k5)
 have H:=tK (hn.kept0 k1)
 have⟨VF,ZP⟩:=_f k1 hc.2.2
 have j1:(c.names.length:Int)<=1000000:=by have:=hc.2.2.1;omega
 clear hb hm hn hc k1 oA
 generalize OL c=MC at*
 obtain⟨nb,nm,LB,LM,l⟩:=c
 simp only at Ts Rs VT X7 H ZP j1 hW1 ⊢
 generalize (cE 1 LB 2048/\cZ nb LB)=P1 at*
 generalize (cE 2 LM 2048/\cZ nm LM)=P2 at*
 generalize LB.length=nlb at*
 generalize LM.length=nlm at*
 unfold bG at Ts Rs
 go_enter func206,ntmps206
 go_wp2_with fail
 rw[<-hW1]
 clear hW1
 go_loopw [3] (fun i wr=>∃k:Nat,k<=l.length/\i=(k:Int)/\qc l k/\NP [] W1 wr) (fun i _=>l.length-(intOf i).toNat)
 case atStart=>exact⟨0,Nb _,rfl,qc.zero _,NP.refl _ _⟩
 case round=>
  obtain⟨k,hk,rfl,hOK,hK⟩:=hrel
  rename World=>wr
  by_cases NV:k<l.length
  .have i1:(k:Int)<l.length:=_a
   obtain⟨b,off,kv,rfl,hia,hb,RU,hc2,SA⟩:=H.out.ja k NV
   have hT:=fun W=>sM 3 (l[k]'NV) kv W hia.fz
   have hM:=fun W (q:NP [] W1 W)=>AF ((l[k]'NV).told 3) kv 0 W W ((hia.kept0 q).1) (ZP.out.2 _ (MJ NV)) (NS.dw hia.2.1 _d)
   have Ox:=fun h1 h3=>hOK.step NV h1 h3
   have QX:=fun h=>Ft NV h
   have XT:=fun h0 h=>C8 NV h0 h
   have T8:∀(h0:0<k),∀W,NP [] W1 W->W.cell? (aa b (off+(k-1)*4+1))=some (.string (bs (l[k-1]' _a).name)):=fun h0 W q=>by
    have⟨b',off',kv',e,_,_,_,_,hh⟩:=H.out.ja (k-1) _a
    injection e with e
    injection e with e1 e2 _
    subst e1 e2
    exact(hh W q).2.1
   obtain⟨pk,nk,ck,rfl⟩:=hia.fz
   have⟨HK,Of,OY,Ub,Xc,Ux,HT,HM,Vd⟩:=gb! hK NV Ox QX XT T8 hT hM SA
   have⟨z0,z1,z2,z3,z4⟩:=X7.out wr hK
   unfold NS.told ag.cells NS.cells at HT
   unfold qd ag.cells at HM
   have Z5:∃mb,az ((l[k]'NV).told 3)=mb:=⟨_,rfl⟩
   obtain⟨mb,hmb⟩:=Z5
   rw[hmb]at Ub HM OY
   unfold NS.told at HM
   clear hT hM Ox QX XT T8 hia SA hb hOK hK hmb z0 z1 z2 z3
   have WK:Hid (0<k->IntKind.i64.wrap ((k:Int)-1)=((k-1:Nat):Int)):=tK (fun h=>by rw[IntWalk.i64_in _ _a];omega)
   have i3:Hid (0<k->k-1<l.length):=tK (fun h=>by omega)
   generalize hLA:l[k]'NV=A at*
   clear hLA
   cases mb with
   |false=>
    have HN:Hid (¬MC):=tK (fun h=>Ub.out rfl (VT.out.1 h).1)
    have HS:Hid (∀W,NP [] W1 W->((W.cell? (aa b (off+k*4))=(A.id,())/\W.cell? (aa b (off+k*4+1))=A.name/\W.cell? (aa b (off+k*4+2))=A.size/\W.cell? (aa b (off+k*4+3))=(pk,nk,ck))/\W.cell? (aa w 4)=some (.slice (some (aa b off)) l.length cv))):=tK (fun W q=>⟨Vd.out W q,(X7.out W q).2.2.2.2⟩)
    clear Vd Ux Ub Xc OY WK i3
    go_wp2_with fail
    refine MK (S:=(fun W=>((W.cell? (aa b (off+k*4))=(A.id,())/\W.cell? (aa b (off+k*4+1))=A.name/\W.cell? (aa b (off+k*4+2))=A.size/\W.cell? (aa b (off+k*4+3))=(pk,nk,ck))/\W.cell? (aa w 4)=some (.slice (some (aa b off)) l.length cv)))) _c _u (fun hHeld=>?_)
    refine tS ?_
    refine rD 5 (fun K hK=>?_)
    go_simp
    ((with_reducible refine(HT.out _).mono ?_));rintro e w3 ⟨rfl,k3⟩
    have K3:=tK (HK.out.drew.trans k3)
    clear k3
    go_wp2_with fail
    refine hK.out _ _ (HS.out _ K3.out) (fun hHeld=>nM ?_)
    clear hK K
    refine rD 6 (fun K hK=>?_)
    go_simp
    ((with_reducible refine(HM.out _ K3.out).mono ?_));rintro e w4 ⟨rfl,k4⟩
    have K4:=tK (K3.out.trans k4)
    clear k4
    go_wp2_with fail
    refine hK.out _ _ (HS.out _ K4.out) (fun hHeld=>nM ?_)
    clear hK K
    exact M87
   |true=>
    by_cases h0:0<k
    .have d2:decide ((0:Int)<k)=true:=_e
     have d2n:decide (0<k)=true:=MV h0
     have d2':decide ((k:Int)>0)=true:=d2
     have i4:=i3.out h0
     have i5:((k-1:Nat):Int)<l.length:=_a
     have XR:=Ux.out h0
     have Oo:iU (l[k-1]'i4).name A.name=true->qc l (k+1):=fun h3=>OY.out rfl (fun _=>h3)
     have hn:=Xc.out h0
     generalize (l[k-1]'i4).name=P at*
     have HS:Hid (∀W,NP [] W1 W->(((W.cell? (aa b (off+k*4))=(A.id,())/\W.cell? (aa b (off+k*4+1))=A.name/\W.cell? (aa b (off+k*4+2))=A.size/\W.cell? (aa b (off+k*4+3))=(pk,nk,ck))/\W.cell? (aa w 4)=some (.slice (some (aa b off)) l.length cv))/\W.cell? (aa b (off+(k-1)*4+1))=P)):=tK (fun W q=>⟨⟨Vd.out W q,(X7.out W q).2.2.2.2⟩,XR W q⟩)
     have H0:=tK h0
     obtain⟨q,hq⟩:∃q,iU P A.name=q:=⟨_,rfl⟩
     rw[hq]at Oo hn
     have d3:Op.bytesLess P A.name=q:=hq
     have d4:Op.bytesLess (bs P).toList (bs A.name).toList=q:=by rw[bj,bj];exact hq
     cases q with
     |true=>
      have HN:=tK (Oo rfl)
      clear Vd Ux Ub Xc OY i3 XR Oo hn hq h0
      go_wp2_with fail
      refine MK (S:=(fun W=>((W.cell? (aa b (off+k*4))=(A.id,())/\W.cell? (aa b (off+k*4+1))=A.name/\W.cell? (aa b (off+k*4+2))=A.size/\W.cell? (aa b (off+k*4+3))=(pk,nk,ck))/\W.cell? (aa w 4)=some (.slice (some (aa b off)) l.length cv))/\W.cell? (aa b (off+(k-1)*4+1))=P)) _c _u (fun hHeld=>?_)
      refine tS ?_
      refine rD 5 (fun K hK=>?_)
      go_simp
      ((with_reducible refine(HT.out _).mono ?_));rintro e w3 ⟨rfl,k3⟩
      have K3:=tK (HK.out.drew.trans k3)
      clear k3
      go_wp2_with fail
      refine hK.out _ _ (HS.out _ K3.out) (fun hHeld=>nM ?_)
      clear hK K
      refine rD 6 (fun K hK=>?_)
      go_simp
      ((with_reducible refine(HM.out _ K3.out).mono ?_));rintro e w4 ⟨rfl,k4⟩
      have K4:=tK (K3.out.trans k4)
      clear k4
      go_wp2_with fail
      refine hK.out _ _ (HS.out _ K4.out) (fun hHeld=>nM ?_)
      clear hK K
      have wk:=WK.out H0.out
      refine tS ?_
      clear wk
      exact M25
     |false=>
      have QU:=hn rfl
      have HN:Hid (¬MC):=tK (fun h=>QU (VT.out.1 h).1)
      clear Vd Ux Ub Xc OY i3 XR Oo hn QU hq h0
      go_wp2_with fail
      refine MK (S:=(fun W=>((W.cell? (aa b (off+k*4))=(A.id,())/\W.cell? (aa b (off+k*4+1))=A.name/\W.cell? (aa b (off+k*4+2))=A.size/\W.cell? (aa b (off+k*4+3))=(pk,nk,ck))/\W.cell? (aa w 4)=some (.slice (some (aa b off)) l.length cv))/\W.cell? (aa b (off+(k-1)*4+1))=P)) _c _u (fun hHeld=>?_)
      refine tS ?_
      refine rD 5 (fun K hK=>?_)
      go_simp
      ((with_reducible refine(HT.out _).mono ?_));rintro e w3 ⟨rfl,k3⟩
      have K3:=tK (HK.out.drew.trans k3)
      clear k3
      go_wp2_with fail
      refine hK.out _ _ (HS.out _ K3.out) (fun hHeld=>nM ?_)
      clear hK K
      refine rD 6 (fun K hK=>?_)
      go_simp
      ((with_reducible refine(HM.out _ K3.out).mono ?_));rintro e w4 ⟨rfl,k4⟩
      have K4:=tK (K3.out.trans k4)
      clear k4
      go_wp2_with fail
      refine hK.out _ _ (HS.out _ K4.out) (fun hHeld=>nM ?_)
      clear hK K
      have wk:=WK.out H0.out
      refine tS ?_
      clear wk
      exact M87
    .have d2:decide ((0:Int)<k)=false:=_e
     have d2n:decide (0<k)=false:=MS h0
     have d2':decide ((k:Int)>0)=false:=d2
     have HN:=tK (OY.out rfl (fun h=>absurd h h0))
     have HS:Hid (∀W,NP [] W1 W->((W.cell? (aa b (off+k*4))=(A.id,())/\W.cell? (aa b (off+k*4+1))=A.name/\W.cell? (aa b (off+k*4+2))=A.size/\W.cell? (aa b (off+k*4+3))=(pk,nk,ck))/\W.cell? (aa w 4)=some (.slice (some (aa b off)) l.length cv))):=tK (fun W q=>⟨Vd.out W q,(X7.out W q).2.2.2.2⟩)
     clear Vd Ux Ub Xc OY WK i3 h0
     go_wp2_with fail
     refine MK (S:=(fun W=>((W.cell? (aa b (off+k*4))=(A.id,())/\W.cell? (aa b (off+k*4+1))=A.name/\W.cell? (aa b (off+k*4+2))=A.size/\W.cell? (aa b (off+k*4+3))=(pk,nk,ck))/\W.cell? (aa w 4)=some (.slice (some (aa b off)) l.length cv)))) _c _u (fun hHeld=>?_)
     refine tS ?_
     refine rD 5 (fun K hK=>?_)
     go_simp
     ((with_reducible refine(HT.out _).mono ?_));rintro e w3 ⟨rfl,k3⟩
     have K3:=tK (HK.out.drew.trans k3)
     clear k3
     go_wp2_with fail
     refine hK.out _ _ (HS.out _ K3.out) (fun hHeld=>nM ?_)
     clear hK K
     refine rD 6 (fun K hK=>?_)
     go_simp
     ((with_reducible refine(HM.out _ K3.out).mono ?_));rintro e w4 ⟨rfl,k4⟩
     have K4:=tK (K3.out.trans k4)
     clear k4
     go_wp2_with fail
     refine hK.out _ _ (HS.out _ K4.out) (fun hHeld=>nM ?_)
     clear hK K
     exact M25
  .obtain rfl:k=l.length:=_a
   have i1:¬(l.length:Int)<l.length:=_a
   have Ph:=Fu hOK
   rw[Ph]at VT
   have HK:=tK hK
   have⟨z0,z1,z2,z3,z4⟩:=X7.out wr hK
   clear Ph hOK hK NV hk
   by_cases g1:l.length<=256
   .have d1:decide ((l.length:Int)<=256)=true:=_e
    have G1:=tK g1
    clear g1
    go_wp2_with fail
    refine(Ts.out _ (VF.out.trans HK.out)).mono ?_;rintro e w3 ⟨b1,rfl,TG,k3⟩
    have K3:=tK (HK.out.trans k3)
    have⟨z0,z1,z2,z3,z4⟩:=X7.out w3 K3.out
    have T9:=tK TG
    clear k3 TG
    cases b1 with
    |false=>
     have HN:Hid (¬MC):=tK (fun h=>by have:=T9.out.2 (VT.out.1 h).2.1;cases this)
     go_wp2_with fail
     go_ret
     exact aX HN.out (VF.out.trans K3.out)
    |true=>
     go_wp2_with fail
     refine(Rs.out _ (VF.out.trans K3.out)).mono ?_;rintro e w4 ⟨b2,rfl,Q3,k4⟩
     have K4:=tK (K3.out.trans k4)
     have Zd:=tK Q3
     clear k4 Q3
     cases b2 with
     |false=>
      have HN:Hid (¬MC):=tK (fun h=>by have:=Zd.out.2 (VT.out.1 h).2.2;cases this)
      go_wp2_with fail
      go_ret
      exact aX HN.out (VF.out.trans K4.out)
     |true=>
      have HN:Hid MC:=tK (VT.out.2 ⟨G1.out,T9.out.1 _b,Zd.out.1 _b⟩)
      go_wp2_with fail
      go_ret
      exact gu HN.out (VF.out.trans K4.out)
   .have d1:decide ((l.length:Int)<=256)=false:=_e
    have HN:Hid (¬MC):=tK (fun h=>g1 (VT.out.1 h).1)
    clear g1
    go_wp2_with fail
    go_ret
    exact aX HN.out (VF.out.trans HK.out)
theorem Ax {l:List ag} (h:k<l.length) {C:Int} (hC:(if az (l[k]'h)=true then(aW c (l[k]'h)).2 else 1)=C):
  (¬C=0->cH c (l.drop k)=(jR,C))/\(C=0->az (l[k]'h)=true/\(aW c (l[k]'h)).2=0/\cH c (l.drop k)=cH (aW c (l[k]'h)).1 (l.drop (k+1))):=by
 cases hm:az (l[k]'h)with
 |false=>
  rw[hm,if_neg _d]at hC
  subst hC
  exact⟨fun _=>wO h hm,fun h0=>absurd h0 _d⟩
 |true=>
  rw[hm,if_pos rfl]at hC
  exact⟨fun h0=>uJ h hm hC h0,fun h0=>⟨rfl,by rw[hC,h0],wN h hm (by rw[hC,h0])⟩⟩
theorem av.more {S T:Nat->Prop} {w:World} {v:Value} (h:av S w v c) (hT:∀x,T x->w.heap.size<=x):av (fun x=>S x\/T x) w v c:=by
 obtain⟨a,b,d,e,h1,h2,h3,h4⟩:=h
 exact⟨a,b,d,e,h1.more hT,h2.more hT,h3.more hT,h4⟩
theorem JJ {S0:Nat->Prop} (v:Value) (c:au) (vl:Value) (l:List ag) (lo hi:Nat) (w:World) (h:av S0 w v c) (Q6:∀x,S0 x->x<w.heap.size) (hc:ie c) (hr:bX w vl l lo hi) (WH:∀r∈l,∀a∈r.runs,aQ a) (P3:∀r∈l,r.runs.length<=1000000):
  am! 133 #[v,vl] w (dC S0 (N8 c l) w):=by
 have Tq:Hid (∀W,NP [] w W->am! 206 #[v] W (bG (OL c) W)):=tK (fun W q=>AE v c W (h.plain.kept0 q) hc)
 have QK:Hid (∀W,NP [] w W->av (fun x=>S0 x\/(x=w.heap.size\/x=w.heap.size+1)) W v c):=tK (fun W q=>(h.more (T:=fun x=>x=w.heap.size\/x=w.heap.size+1) (fun x hx=>by omega)).kept0 q)
 obtain⟨vb,vm,vn,rfl,hb,hm,hn,Rp,Te⟩:=h
 obtain⟨p1,c1,rfl⟩:=hb.plain.shape
 obtain⟨p2,c2,rfl⟩:=hm.plain.shape
 obtain⟨p3,c3,rfl⟩:=hn.plain.shape
 obtain⟨pl,cl,rfl⟩:=bS.shape hr
 have hL1:(l.length:Int)<=9223372036854775807:=by have:=bS.len hr;unfold maxLen at this;omega
 have⟨HR,HWL,XV,HS0⟩:=gh! hr WH P3 Q6
 have⟨oA,oB⟩:=ch w #[(c.nextBox,()),(c.nextMan,()),(p1,c.boxes.length,c1),(p2,c.mans.length,c2),(p3,c.names.length,c3)] #[.int .u32 0,.int .u32 0,(),(),()] 52 52
 have k0:NP [] w ((w.alloc (.cells #[(c.nextBox,()),(c.nextMan,()),(p1,c.boxes.length,c1),(p2,c.mans.length,c2),(p3,c.names.length,c3)] 52)).alloc (.cells #[.int .u32 0,.int .u32 0,(),(),()] 52)):=((NP.refl _ _).alloc _).alloc _
 have⟨K0,OA,OB⟩:=gg! k0 oA oB
 have⟨x0,x1,x2,x3,x4⟩:=oA.k5
 clear hb hm hn Rp Te hr WH P3 Q6 oA oB k0 hc
 unfold bG at Tq
 go_enter func133,ntmps133
 go_wp2_with fail
 refine(Tq.out _ K0.out).mono ?_;rintro e w2 ⟨bm,rfl,hbm,k2⟩
 have K2:=tK (K0.out.trans k2)
 have UW:=tK (k2.own OA.out _b)
 have XS:=tK (k2.own OB.out _b)
 have HBM:=tK hbm
 clear hbm k2
 cases bm with
 |false=>
  have HE:Hid (N8 c l=(jR,110)):=tK (by
   have Pz:¬OL c:=fun h=>by have:=HBM.out.2 h;cases this
   unfold N8;rw[if_neg Pz])
  have⟨y0,y1,y2,y3,y4⟩:=XS.out.k5
  have⟨g0,g1,g2,g3,g4⟩:=XS.out.y5
  go_wp2_with fail
  refine MN (v:=.tuple #[.agg #[.int .u32 0,.int .u32 0,(),(),()],(110:Int)]) (aj results133 rfl rfl (t:=52) ?_ underlying52 rfl _c) rfl ?_
  .exact XS.out.aV _ _ _ _ _
  .exact fl HE.out (jY _ _) (NP.ay K2.out (Or.inr (Nat.le_succ _)) _ _ _ _ _)
 |true=>
  have VT:Hid (OL c):=tK (HBM.out.1 rfl)
  obtain⟨R,hR⟩:∃R,cH c l=R:=⟨_,rfl⟩
  have Qf:N8 c l=R:=by unfold N8;rw[if_pos VT.out,hR]
  have⟨SG,Uc⟩:=_f Qf hR
  clear Qf hR x0 x1 x2 x3 x4
  go_wp2_with fail
  go_loopw [6] (fun i wr=>∃k cc vb vm vn,k<=l.length/\i=.int .i64 (k:Nat)/\Aa S0 w l R k cc wr vb vm vn) (fun i _=>l.length-(intOf i).toNat)
  case atStart=>exact⟨0,c,_,_,_,Nb _,rfl,⟨UW.out,XS.out,QK.out _ K2.out,VT.out,by rw[List.drop_zero];exact Uc.out,K2.out⟩⟩
  case round=>
   obtain⟨k,cc,vb,vm,vn,hk,rfl,hA⟩:=hrel
   rename World=>wr
   have HA:=tK hA
   obtain⟨_,_,⟨pb,nb,cb,rfl⟩,⟨pm,nm,cm,rfl⟩,⟨pn,nn,cn,rfl⟩⟩:=av.parts hA.cat
   by_cases NV:k<l.length
   .obtain⟨b,off,kv,rfl,r0,r1,r2,r3,r4,Oe,Oq,US,hbh,hih⟩:=bX.at_ (HR.out.kept0 hA.kept) k NV
    obtain⟨pr,cr,rfl⟩:=Oe.shape
    have Of:Hid (k<l.length):=tK NV
    have i1:(k:Int)<l.length:=_a
    have Sr:=HWL.out _ (MJ NV)
    have Qh:=XV.out _ (MJ NV)
    obtain⟨C,hC⟩:∃C,(if az (l[k]'NV)=true then(aW cc (l[k]'NV)).2 else 1)=C:=⟨_,rfl⟩
    have⟨UD,Pf⟩:=Ax (c:=cc) NV hC
    rw[hA.here]at UD Pf
    have Xz:=(eG Oq.2.1).1
    have hbs:off+k*5<off+k*5+5:=_a
    have QC:Hid (∀W,NP [] wr W->(W.cell? w=(cc.nextBox,())/\W.cell? (aa w 1)=(cc.nextMan,())/\W.cell? (aa w 2)=(pb,nb,cb)/\W.cell? (aa w 3)=(pm,nm,cm)/\W.cell? (aa w 4)=(pn,nn,cn))/\(W.cell? (aa b (off+k*5))=some (.int .i64 (l[k]'NV).kind)/\W.cell? (aa b (off+k*5+1))=some (.int .u32 (l[k]'NV).id)/\W.cell? (aa b (off+k*5+2))=some (.string (bs (l[k]'NV).name))/\W.cell? (aa b (off+k*5+3))=some (.int .i64 (l[k]'NV).size)/\W.cell? (aa b (off+k*5+4))=(pr,(l[k]'NV).runs.length,cr))):=tK (fun W q=>by
     have Uq:b<wr.heap.size:=_a
     exact⟨(q.own hA.own _b).k5,(q.cell Uq _b).trans r0,(q.cell Uq _b).trans r1,(q.cell Uq _b).trans r2,(q.cell Uq _b).trans r3,(q.cell Uq _b).trans r4⟩)
    have HWH:Hid (w.heap.size+1<wr.heap.size):=tK hA.res.lt
    have PX:∀x,(S0 x\/(x=w.heap.size\/x=w.heap.size+1))->x<wr.heap.size:=fun x hx=>by
     have h2:=HWH.out
     rcases hx with hx|hx
     .have:=HS0.out x hx;have:=hA.kept.size;omega
     .omega
    have XQ:Hid (∀W,NP [] wr W->am! 207 #[.agg #[(cc.nextBox,()),(cc.nextMan,()),(pb,nb,cb),(pm,nm,cm),(pn,nn,cn)],.agg ((l[k]'NV).cells (pr,(l[k]'NV).runs.length,cr))] W (jF (fun x=>S0 x\/(x=w.heap.size\/x=w.heap.size+1)) cc (l[k]'NV) W)):=tK (fun W q=>GF _ cc _ _ W (hA.cat.kept0 q) (fun x hx=>MR (PX x hx) q.size) hA.may (Oe.kept0 q).upto Oq Sr Qh)
    have HOB:Hid (∀W,NP [] wr W->wr.heap.size<W.heap.size->am! 207 #[.agg #[(cc.nextBox,()),(cc.nextMan,()),(pb,nb,cb),(pm,nm,cm),(pn,nn,cn)],.agg ((l[k]'NV).cells (pr,(l[k]'NV).runs.length,cr))] W (jF (fun x=>(S0 x\/(x=w.heap.size\/x=w.heap.size+1))\/x=wr.heap.size) cc (l[k]'NV) W)):=tK (fun W q hq=>GF _ cc _ _ W ((hA.cat.more (fun x hx=>by omega)).kept0 q) (fun x hx=>by rcases hx with hx|hx;exact MR (PX x hx) q.size;omega) hA.may (Oe.kept0 q).upto Oq Sr Qh)
    unfold jF at XQ HOB
    rw[hC]at XQ HOB
    unfold ag.cells at XQ HOB
    have RY:=tK UD
    have QH:Hid (C=0->∀c',(az (l[k]'NV)=true->(aW cc (l[k]'NV)).2=0->c'=(aW cc (l[k]'NV)).1)->OL c'/\R=cH c' (l.drop (k+1))):=tK (fun h0 c' hc'=>by
     have⟨o1,o2,o3⟩:=Pf h0
     rw[hc' o1 o2]
     exact⟨tY hA.may o1 Xz o2,o3⟩)
    clear UD Pf hC Xz Oe Oq Sr Qh hA US hbh hih PX r0 r1 r2 r3 r4 hbs
    generalize hrk:l[k]'NV=rk at*
    clear NV hrk hk
    have⟨z0,z1,z2,z3,z4⟩:=(QC.out wr (NP.refl _ _)).1
    go_upto_region 6 with fail
    go_cut [7,8]from 19 to 27 (fun v7 v8 wx=>∃nk c' a1 a2 a3,v7=.pointer (some ⟨nk,0,none⟩)/\v8=C/\ae wx nk #[.int .u32 c'.nextBox,.int .u32 c'.nextMan,a1,a2,a3] 52/\av (fun x=>S0 x\/(x=w.heap.size\/x=w.heap.size+1)) wx (.agg #[.int .u32 c'.nextBox,.int .u32 c'.nextMan,a1,a2,a3]) c'/\(az rk=true->(aW cc rk).2=0->c'=(aW cc rk).1)/\NP [] wr wx)
    case first=>
     refine MK (S:=(fun W=>(W.cell? w=(cc.nextBox,())/\W.cell? (aa w 1)=(cc.nextMan,())/\W.cell? (aa w 2)=(pb,nb,cb)/\W.cell? (aa w 3)=(pm,nm,cm)/\W.cell? (aa w 4)=(pn,nn,cn))/\(W.cell? (aa b (off+k*5))=rk.kind/\W.cell? (aa b (off+k*5+1))=(rk.id,())/\W.cell? (aa b (off+k*5+2))=rk.name/\W.cell? (aa b (off+k*5+3))=rk.size/\W.cell? (aa b (off+k*5+4))=(pr,rk.runs.length,cr)))) _c (by exact QC.out _ ((NP.refl [] wr).drew)) (fun hHeld=>?_)
     refine tS ?_
     refine wpAnyH_ready (rs:=[5,9]) _c _b ?_
     refine(AllReadyH.cons rfl (fun K hK=>?_) (AllReadyH.cons rfl (fun K hK=>?_) AllReadyH.nil))
     .go_simp
      ((with_reducible refine(XQ.out _ ((NP.refl [] wr).drew)).mono ?_));rintro e w4 ⟨cv,c',rfl,XL,UL,k4⟩
      have K4:=tK ((((NP.refl [] wr).drew)).trans k4)
      obtain⟨vb4,vm4,vn4,rfl,Wr,UT,hx3,YZ⟩:=XL
      have Oz:av (fun x=>S0 x\/(x=w.heap.size\/x=w.heap.size+1)) w4 (.agg #[(c'.nextBox,()),(c'.nextMan,()),vb4,vm4,vn4]) c':=⟨vb4,vm4,vn4,rfl,Wr,UT,hx3,YZ⟩
      obtain⟨_,_,⟨pb4,nb4,cb4,rfl⟩,⟨pm4,nm4,cm4,rfl⟩,⟨pn4,nn4,cn4,rfl⟩⟩:=av.parts Oz
      have⟨T5,HC4⟩:=_f Oz UL
      clear Wr UT hx3 YZ Oz UL
      clear k4
      go_wp2_with fail
      refine hK.out _ _ (QC.out _ K4.out) (fun hHeld=>nM ?_)
      clear hK K
      refine tS ?_
      refine rD 9 (fun K hK=>?_)
      go_simp
      refine hK.out _ _ (QC.out _ (K4.out.alloc _)) (fun hHeld=>nM ?_)
      clear hK K
      refine rD 10 (fun K hK=>?_)
      go_simp
      refine hK.out _ _ (QC.out _ (K4.out.alloc _)) (fun hHeld=>nM ?_)
      clear hK K
      refine tS ?_
      refine Ng _c ?_ _
      try simp only[List.set_cons_succ,List.set_cons_zero]
      go_wp2_with fail
      go_meet
      exact⟨_,_,_,_,_,rfl,rfl,ae.new _ _ _,T5.out.kept0 ((NP.refl _ _).alloc _),HC4.out,K4.out.alloc _⟩
     .go_simp
      refine hK.out _ _ (QC.out _ (((NP.refl [] wr).alloc _).drew)) (fun hHeld=>nM ?_)
      clear hK K
      refine rD 5 (fun K hK=>?_)
      go_simp
      ((with_reducible refine(HOB.out _ (((NP.refl [] wr).alloc _).drew) _b).mono ?_));rintro e w4 ⟨cv,c',rfl,XL,UL,k4⟩
      have K4:=tK (((((NP.refl [] wr).alloc (.cells #[.int .u32 0,.int .u32 0,(),(),()] 52)).drew)).trans k4)
      have oN:=k4.own ((ae.new wr #[.int .u32 0,.int .u32 0,(),(),()] 52).drew) _b
      have ON:=tK oN
      obtain⟨vb4,vm4,vn4,rfl,Wr,UT,hx3,YZ⟩:=XL
      have Oz:av (fun x=>(S0 x\/(x=w.heap.size\/x=w.heap.size+1))\/x=wr.heap.size) w4 (.agg #[(c'.nextBox,()),(c'.nextMan,()),vb4,vm4,vn4]) c':=⟨vb4,vm4,vn4,rfl,Wr,UT,hx3,YZ⟩
      obtain⟨_,_,⟨pb4,nb4,cb4,rfl⟩,⟨pm4,nm4,cm4,rfl⟩,⟨pn4,nn4,cn4,rfl⟩⟩:=av.parts Oz
      have⟨T5,HC4⟩:=_f Oz UL
      clear Wr UT hx3 YZ Oz UL
      clear k4 oN
      go_wp2_with fail
      refine hK.out _ _ (QC.out _ K4.out) (fun hHeld=>nM ?_)
      clear hK K
      have⟨y0,y1,y2,y3,y4⟩:=ON.out.k5
      have⟨g0,g1,g2,g3,g4⟩:=ON.out.y5
      refine tS ?_
      refine rD 10 (fun K hK=>?_)
      go_simp
      refine hK.out _ _ (QC.out _ (NP.ay K4.out (Or.inr (MG _)) (c'.nextBox,()) (c'.nextMan,()) (pb4,nb4,cb4) (pm4,nm4,cm4) (pn4,nn4,cn4))) (fun hHeld=>nM ?_)
      clear hK K
      refine tS ?_
      refine Ng _c ?_ _
      try simp only[List.set_cons_succ,List.set_cons_zero]
      go_wp2_with fail
      go_meet
      exact⟨_,_,_,_,_,rfl,rfl,ON.out.aV _ _ _ _ _,(T5.out.aS (NP.ay (NP.refl [wr.heap.size] _) (Or.inl _b) _ _ _ _ _) (fun x hx=>Or.inr _h)).cI (fun x hx=>Or.inl hx),HC4.out,(NP.ay K4.out (Or.inr (MG _)) (c'.nextBox,()) (c'.nextMan,()) (pb4,nb4,cb4) (pm4,nm4,cm4) (pn4,nn4,cn4))⟩
    case rest=>
     obtain⟨nk,c',a1,a2,a3,rfl,rfl,hon,Oz,UL,hkx⟩:=hcut
     rename World=>wx
     obtain⟨_,_,⟨pb4,nb4,cb4,rfl⟩,⟨pm4,nm4,cm4,rfl⟩,⟨pn4,nn4,cn4,rfl⟩⟩:=av.parts Oz
     have⟨T5,HC4⟩:=_f Oz UL
     have KX:=tK (HA.out.kept.trans hkx)
     have Q5:=tK (hkx.own HA.out.own _b)
     have UO:=tK (hkx.own HA.out.res _b)
     have⟨x0,x1,x2,x3,x4⟩:=Q5.out.k5
     have⟨f0,f1,f2,f3,f4⟩:=Q5.out.y5
     have⟨y0,y1,y2,y3,y4⟩:=UO.out.k5
     have⟨g0,g1,g2,g3,g4⟩:=UO.out.y5
     have⟨n0,n1,n2,n3,n4⟩:=hon.k5
     clear Oz UL hkx hon z0 z1 z2 z3 z4
     by_cases hC:C=0
     .subst hC
      have⟨Qy,Rg⟩:=QH.out rfl c' HC4.out
      have⟨Ul,HRE⟩:=_f Qy Rg
      clear Qy Rg
      go_wp2_with fail
      go_roundw
      case rel=>
       have hkT:NP [w.heap.size] wx (((((wx.setCell w (c'.nextBox,())).setCell (aa w 1) (c'.nextMan,())).setCell (aa w 2) (pb4,nb4,cb4)).setCell (aa w 3) (pm4,nm4,cm4)).setCell (aa w 4) (pn4,nn4,cn4)):=NP.ay (NP.refl _ _) (Or.inl _b) _ _ _ _ _
       (try (repeat apply Exists.intro);refine⟨?_,rfl⟩)
       refine⟨k+1,c',_,_,_,Of.out,_G,⟨Q5.out.aV _ _ _ _ _,?_,T5.out.aS hkT (fun x hx=>Or.inr (Or.inl _h)),Ul.out,HRE.out.symm,NP.ay KX.out (Or.inr (MG _)) _ _ _ _ _⟩⟩
       exact((((UO.out.other (p:=w) (Nat.succ_ne_self _) _).other (p:=(aa w 1)) (Nat.succ_ne_self _) _).other (p:=(aa w 2)) (Nat.succ_ne_self _) _).other (p:=(aa w 3)) (Nat.succ_ne_self _) _).other (p:=(aa w 4)) (Nat.succ_ne_self _) _
      case measure=>(have hh:=Of.out;simp[intOf];omega)
     .have HE:Hid (N8 c l=(jR,C)):=tK (by rw[SG.out];exact RY.out hC)
      have hcf:(C==0)=false:=by simpa using hC
      have hcn:(C != 0)=true:=by simp[bne,hcf]
      clear hC
      go_wp2_with fail
      refine MN (v:=.tuple #[.agg #[.int .u32 0,.int .u32 0,(),(),()],C]) (aj results133 rfl rfl (t:=52) ?_ underlying52 rfl _c) rfl ?_
      .exact UO.out.aV _ _ _ _ _
      .exact fl HE.out (jY _ _) (NP.ay KX.out (Or.inr (Nat.le_succ _)) _ _ _ _ _)
   .obtain rfl:k=l.length:=_a
    have Ph:R=(cc,0):=by
     have:=hA.here
     rw[List.drop_length]at this
     exact this.symm
    have HE:Hid (N8 c l=(cc,0)):=tK (by rw[SG.out];exact Ph)
    have i1:¬(l.length:Int)<l.length:=_a
    have⟨x0,x1,x2,x3,x4⟩:=hA.own.k5
    have⟨y0,y1,y2,y3,y4⟩:=hA.res.k5
    have⟨g0,g1,g2,g3,g4⟩:=hA.res.y5
    clear hA Ph hk NV
    go_wp2_with fail
    have hkT:NP [w.heap.size+1] wr (((((wr.setCell (aa (w+1) 0) (cc.nextBox,())).setCell (aa (w+1) 1) (cc.nextMan,())).setCell (aa (w+1) 2) (pb,nb,cb)).setCell (aa (w+1) 3) (pm,nm,cm)).setCell (aa (w+1) 4) (pn,nn,cn)):=NP.ay (NP.refl _ _) (Or.inl _b) _ _ _ _ _
    have Ws:=HA.out.cat.aS hkT (fun x hx=>Or.inr (Or.inr _h))
    have Za:av S0 _ _ cc:=av.cI Ws (fun x hx=>Or.inl hx)
    refine MN (v:=.tuple #[.agg #[(cc.nextBox,()),(cc.nextMan,()),(pb,nb,cb),(pm,nm,cm),(pn,nn,cn)],(0:Int)]) (aj results133 rfl rfl (t:=52) ?_ underlying52 rfl _c) rfl ?_
    .exact HA.out.res.aV _ _ _ _ _
    .exact fl HE.out Za (NP.ay HA.out.kept (Or.inr (Nat.le_succ _)) _ _ _ _ _)
theorem Eb {T:List Nat} (gv gr gi gx rb ro rn rc i:Nat) (rv:Value) (R:List (Int×Int)) (s:List UInt8) {w:World} {B b sb mb lo PU PC:Nat} {v:VS} (hV:aL T w B b sb mb lo v)
  (hc:∀W,PK [] b sb mb w W->W.cell? gv=B/\W.cell? gr=some (.slice (some (aa rb ro)) rn rc)/\W.cell? gi=(i:Int)/\W.cell? (aa rb (ro+i*5+4))=some rv/\W.cell? (aa gx 3)=s) (hi:i<rn) (_:rn<=1000000)
  (hR:af w rv R PU PC) (hl:R.length<=1000000) (Pj:∀a∈R,aQ a) (hs:s.length<=1048576) (ho:v.d.ops<=90000) (hw:v.d.waits.length<=1800):
  am! 48 #[gv,gr,gi,gx] w fun e w'=>e=.returned (.int .i64 (aZ (fun d=>OQ d R s) v).2)/\aL T w' B b sb mb lo (aZ (fun d=>OQ d R s) v).1/\PK [] b sb mb w w':=by
 have HP:Hid (∀W,NP [] w W->am! 49 #[b,rv,s] W fun e w'=>e=.returned (.int .i64 (OQ v.d R s).2)/\DA w' b sb mb lo (OQ v.d R s).1/\PK [] b sb mb W w'):=tK (fun W k=>LP rv R s PU PC (hV.da.aJ k) (hR.kept0 k) hl Pj hs ho hw)
 have HS:Hid (∀W,PK [] b sb mb w W->W.cell? gv=B/\W.cell? B=b/\W.cell? gr=some (.slice (some (aa rb ro)) rn rc)/\W.cell? gi=(i:Int)/\W.cell? (aa rb (ro+i*5+4))=some rv/\W.cell? (aa gx 3)=s):=tK (fun W k=>by
  have⟨c1,c2,c3,c4,c5⟩:=hc W k
  have⟨sv,vb,vm,vn,o,_,_⟩:=hV.vol
  exact⟨c1,(k.own o ⟨_b,hV.off.2⟩).cell 0 (by simp[bL]),c2,c3,c4,c5⟩)
 have HV:Hid (∀W,PK [] b sb mb w W->DA W b sb mb lo (OQ v.d R s).1->aL T W B b sb mb lo (aZ (fun d=>OQ d R s) v).1):=tK (fun W k hD=>hV.pk k hD (fun x hx=>by cases hx) _b)
 have HB:=tK hV.bH
 have⟨x0,x1,x2,x3,x4,x5⟩:=HS.out w (PK.refl _ _ _ _ _)
 obtain⟨p1,c1,rfl⟩:=hR.shape
 have i1:(i:Int)<rn:=_a
 clear hV hc hR hl Pj hs ho hw
 simp only[aZ]at HV ⊢
 generalize OQ v.d R s=F at*
 go_enter func48,ntmps48
 go_upto_region 1 with fail
 refine MK (S:=(fun W=>W.cell? gv=B/\W.cell? B=b/\W.cell? gr=some (.slice (some (aa rb ro)) rn rc)/\W.cell? gi=(i:Int)/\W.cell? (aa rb (ro+i*5+4))=(p1,R.length,c1)/\W.cell? (aa gx 3)=s)) _c (by exact HS.out _ ((NP.refl [] w).drew.eH HB.out)) (fun hHeld=>?_)
 refine tS ?_
 refine rD 11 (fun K hK=>?_)
 go_simp
 ((with_reducible refine(HP.out _ ((NP.refl [] w).drew)).mono ?_));rintro e w2 ⟨rfl,hD2,k2⟩
 have kk:=((NP.refl [] w).drew.eH (T:=[]) (sb:=sb) (mb:=mb) HB.out).trans k2
 have⟨KK,HD2⟩:=_f kk hD2
 clear hD2 kk k2
 go_wp2_with fail
 refine hK.out _ _ (HS.out _ KK.out) (fun hHeld=>nM ?_)
 clear hK K
 refine tS ?_
 refine Ng _c ?_ _
 try simp only[List.set_cons_succ,List.set_cons_zero]
 go_wp2_with fail
 go_ret
 exact⟨rfl,HV.out _ KK.out HD2.out,KK.out⟩

/- -/
import Derived.Test.YtdkimcnlhmhpgaaGreatK56
set_option maxHeartbeats 16000000
set_option maxRecDepth 100000
namespace Go.Proofs.YtdkimcnlhmhpgaaGreat
open Go.RowKit
variable {A:Prop}
theorem M89 (h:A:=by
 injection h with h
 injection h with e1 e2
 subst e1 e2
 exact⟨B2,sv2,vb2,vm2,vn2,VD,o2,QU,Th,he⟩):A:=h
theorem M75 (h:A:=by
 refine(HAW.out _).mono ?_;rintro e w22 ⟨rfl,k22⟩
 have Ux:=Mb (ZU.out.trans k22).below
 clear k22
 go_wp2_with fail
 go_ret
 exact⟨rfl,Ux.out⟩):A:=h
theorem M69 (h:A:=by
 have Sk:=Mb hcut
 have aa5:=Mb (VT.out.kept hS hSr)
 clear hcut hS hSr hu15 p15
 go_wp2_with fail
 go_meet
 exact⟨_,_,_,_,rfl,Sk.out,aa5.out⟩):A:=h
theorem vcrashLaw (OH jr:Int) (v2:Value) (old:List (List VC)) (v3:Value) (L0:List VC) (st:Bool) (fu:Int) (v6:Value) (keep:List Bool) (w:World) (h0:(Lit.int .u8 OH).wf=true) (h1:(Lit.int .u8 jr).wf=true) (h2:kU w v2 old 0 w.heap.size) (h3:dC w v3 L0 0 w.heap.size) (h5:(Lit.int .u8 fu).wf=true) (h6:eA w v6 keep 0 w.heap.size):
  Calls Tryz.prog 7 #[.int .u8 OH,.int .u8 jr,v2,v3,.bool st,.int .u8 fu,v6] w fun e w'=>e=.returned (.bool true)/\Below w.heap.size w w':=by
 have adz:=Mb h2
 have HL0:=Mb h3
 have HKP:=Mb h6
 obtain⟨p2,c2,rfl⟩:=aZ.shape h2
 obtain⟨p3,c3,rfl⟩:=aZ.shape h3
 obtain⟨p6,c6,rfl⟩:=h6.shape
 have Sx:=aZ.len h2
 unfold maxLen at Sx
 have HLM:=Mb Sx
 obtain⟨sn,rfl,hsn⟩:=qp OH h0
 obtain⟨jn,rfl,hjn⟩:=qp jr h1
 obtain⟨fn,rfl,YQ⟩:=qp fu h5
 have HFN:=Mb YQ
 clear h0 h1 h2 h3 h5 h6 Sx YQ
 obtain⟨n,hn⟩:∃n:Nat,4+sn%80=n:=⟨_,rfl⟩
 obtain⟨j,hj⟩:∃j:Nat,1+jn%(min (n-2) 9)=j:=⟨_,rfl⟩
 have Rx:4<=n/\n<=83:=by omega
 have hj1:1<=j/\j<=n-2/\j<=9:=by
  have:jn%(min (n-2) 9)<min (n-2) 9:=Nat.mod_lt _ (by omega)
  omega
 go_enter Tryz.func7,Tryz.ntmps7
 go_upto_region 2 with fail
 have e1:(4:Int)+(sn:Int)%80=(n:Int):=by omega
 rw[e1]
 have TA:=Ha n w (by omega) (by omega)
 have SU:=Mb TA
 have HE:Hid (1+(jn:Int)%(min ((n:Int)-2) 9)=(j:Int)):=Mb (by
  have g1:((n:Int)-2)=((n-2:Nat):Int):=by omega
  have g2:min ((n-2:Nat):Int) 9=((min (n-2) 9:Nat):Int):=by omega
  rw[<-hj,g1,g2]
  norm_cast)
 have Wa:=Mb Rx
 have HJ1:=Mb hj1
 clear TA e1 hn hj Rx hj1 hsn
 generalize (sn:Int)=sni at*
 go_wp2_with fail
 refine SU.out.mono ?_;rintro e w1 ⟨b,sb,mb,lo,rfl,hD,k1,hb,hsb,hmb,hlo⟩
 have HD:=Mb hD
 have Pi:=Mb k1
 have OG:Hid (w.heap.size<=b/\w.heap.size<=sb/\w.heap.size<=mb/\w.heap.size<=lo):=Mb ⟨hb,hsb,hmb,hlo⟩
 clear hD k1 hb hsb hmb hlo SU
 have XZ:aF (Pw (List.replicate n Nl)):=⟨rfl,by show(-1:Int)<0;decide,bg.new n⟩
 have PI:(Pw (List.replicate n Nl)).stand.length=n:=MF
 have ho0:(Pw (List.replicate n Nl)).ops=0:=rfl
 have hw0:(Pw (List.replicate n Nl)).waits=[]:=rfl
 generalize Pw (List.replicate n Nl)=d0 at*
 obtain⟨f1,f2,f3⟩:=yc XZ (j:Int) (by have:=Wa.out;omega)
 have Qm:=Gd XZ (by rw[ho0];exact Md _) hw0 (j:=(j:Int)) (by have:=HJ1.out;omega) (by rw[PI];exact Wa.out.1) (by rw[PI];have:=HJ1.out;have:=Wa.out;omega) (by rw[PI];have:=Wa.out;omega) (by have:=HJ1.out;omega)
 rw[PI]at Qm
 have T3:=Ag (T:=[]) (j:Int) HD.out (fun x hx=>by cases hx) (ti (by have:=HJ1.out;omega)) (by omega) (by rw[hw0];simp)
 unfold vd at T3
 rw[PI]at T3
 have Yu:=Mb T3
 have Zk:=Mb f1
 have Qj:=Mb Qm
 have Yc:Hid ((cz (j:Int) d0).1.stand.length<=83):=Mb (by rw[f3,PI];have:=Wa.out;omega)
 clear XZ ho0 hw0 PI f1 f2 f3 Qm T3
 obtain⟨mm,Xt⟩:∃m:Int,min ((n:Int)-2) 9=m:=⟨_,rfl⟩
 have adq:2<=mm/\mm<=9:=by have:=Wa.out;omega
 obtain⟨rr,OQ⟩:∃r:Int,(jn:Int)%mm=r:=⟨_,rfl⟩
 have adD:0<=rr/\rr<9:=by
  rw[<-OQ]
  exact⟨Int.emod_nonneg _ (by omega),by have:=Int.emod_lt_of_pos (jn:Int) (show 0<mm by omega);omega⟩
 have hrj:1+rr=(j:Int):=by rw[<-OQ,<-Xt];exact HE.out
 obtain⟨ads,hmm4⟩:=adq
 obtain⟨XW,hrr4⟩:=adD
 have Vr:(mm==0)=false:=by simp;omega
 have Qy:(n:Int)<=83:=by have:=Wa.out;omega
 have hn3:(4:Int)<=n:=by have:=Wa.out;omega
 go_upto_region 3 with fail
 clear HE
 go_wp2_with fail
 refine Yu.out.mono ?_;intro e w2 hs
 rcases hs with⟨h,_⟩|⟨_,hD2,P9,hs⟩
 .exfalso
  have:=HJ1.out
  have:=Wa.out
  omega
 rcases hs with⟨hc,_⟩|⟨_,B,hBge,ON,N3,rfl⟩
 .exact absurd Zk.out hc
 have XJ:=HV.made (T:=[B]) Pi.out HD.out OG.out P9 hD2 hBge Mg (fun x hx=>by
  obtain rfl:x=B:=by simpa using hx
  exact N3.lt) ON N3
 have U4:=Mb XJ
 clear hD2 P9 hBge ON N3 XJ Yu HD OG Pi Xt ads hmm4 OQ XW hrr4 hrj Vr Qy hn3
 obtain⟨v0,hv0⟩:∃v:VS,(⟨(cz (j:Int) d0).1,bW n j,bI,false⟩:VS)=v:=⟨_,rfl⟩
 rw[hv0]at U4 Qj
 have Oa:Hid (v0.d.stand.length<=83):=Mb (by rw[<-hv0];exact Yc.out)
 clear hv0 Yc
 go_upto_block 0 with fail
 go_cut [] (fun wx=>∃k v,k<=6/\HV [B] w wx B b sb mb lo v/\yC k v/\v.d.stand.length<=83)
 case first=>
  go_wp2_with fail
  go_loopw [20] (fun i wr=>∃(k:Nat) (v:VS),k<=old.length/\k<=6/\i=.int .i64 (k:Nat)/\HV [B] w wr B b sb mb lo v/\yC k v/\v.d.stand.length<=83) (fun i _=>old.length-(intOf i).toNat)
  case atStart=>exact⟨0,v0,Mu _,Mu _,rfl,U4.out,Qj.out,Oa.out⟩
  case round=>
   clear U4 Qj Oa
   obtain⟨k,v,hk,Ps,rfl,XJ,Qm,hlen⟩:=hrel
   rename World=>wr
   have U4:=Mb XJ
   have Qj:=Mb Qm
   have Oa:=Mb hlen
   have aej:=HLM.out
   clear Qm hlen
   by_cases Ns:k<old.length/\k<6
   .obtain⟨Ns,Wg⟩:=Ns
    have i1:(k:Int)<old.length:=by omega
    have i2:(k:Int)<6:=by omega
    have Ph:kU wr (.slice p2 old.length c2) old 0 w.heap.size:=adz.out.kept XJ.kept (fun x hx=>by cases hx)
    obtain⟨ba,oa,lv,rfl,r0,Po⟩:=kU.at_ Ph k Ns
    have YF:=GN lv old[k] _ _ wr Po
    have Vb:=Mb (GV (dC.fits Po) (fun x hx=>wi hx))
    have NU:=Mb Ns
    have Tu:=Mb Wg
    have Wi:=Mb YF
    unfold l8 at Wi
    generalize hL:PJ old[k]=L at*
    have U9:Hid (L.length<=8):=Mb (by rw[<-hL];exact xJ _)
    clear YF Ph XJ Po hL Ns Wg hk Ps
    go_wp2_with fail
    refine Wi.out.mono ?_;rintro e w5 ⟨va,vb,rfl,Rj,_,k5⟩
    have hlx:fj w5 va L wr.heap.size w5.heap.size:=uo (P:=VC.fits) Rj Vb.out
    obtain⟨pa,ca,rfl⟩:=ai Rj
    have Tq:=(U4.out.aJ k5).change Qj.out.inv (by have:=Tu.out;omega) (by have:=Tu.out;omega) _ L _ _ hlx U9.out Vb.out
    have Xr:=zM Qj.out (by have:=Tu.out;omega) L U9.out Vb.out
    have Te:=ug v L U9.out (by have:=Qj.out.inv.fit.may.1;unfold SB.eF at this;omega) Qj.out.inv.fit.jr Qj.out.inv.len
    have PT:=Mb Tq
    have HG2:=Mb Xr
    have abJ:Hid ((NJ v L).1.d.stand.length<=83):=Mb (by rw[Te.len];exact Oa.out)
    clear Rj k5 hlx Wi Tq Xr Te
    generalize NJ v L=CH2 at*
    go_wp2_with fail
    refine PT.out.mono ?_;rintro e w6 ⟨rfl,hv6,_⟩
    have HV6:=Mb hv6
    clear hv6 PT
    go_wp2_with fail
    go_roundw
    case rel=>exact⟨k+1,_,NU.out,Tu.out,by go_num,HV6.out,HG2.out,abJ.out⟩
    case measure=>(have hh:=NU.out;simp[intOf]<;>omega)
   .have acb:¬((k:Int)<old.length)\/((k:Int)<old.length/\¬((k:Int)<6)):=by omega
    rcases acb with i1|⟨i1,i2⟩
    .go_wp2_with fail
     go_meet
     exact⟨k,v,Ps,U4.out,Qj.out,Oa.out⟩
    .go_wp2_with fail
     go_meet
     exact⟨k,v,Ps,U4.out,Qj.out,Oa.out⟩
 case rest=>
  obtain⟨k,v,Ps,XJ,Qm,hlen⟩:=hcut
  rename World=>w3
  have hW:=Qm.well
  have ev:(⟨v.d,v.s,v.c,false⟩:VS)=v:=by rw[<-Qm.inv.dead]
  have TT:=(fJ hW.fit hW.mounted hW.down hW.len).1
  rw[ev]at TT
  have VI:=wY XJ.vol Qm.inv.quiet Qm.inv.dead hW.cat TT
  obtain⟨ws,XN⟩:∃ws,(eu v).map (·.1)=ws:=⟨_,rfl⟩
  rw[XN]at VI
  unfold mF at VI
  have HBY:=Mb VI
  have U4:=Mb XJ
  have Qj:=Mb Qm
  have Oa:=Mb hlen
  have HWS:=Mb XN
  have HEV:=Mb ev
  have Qg:=Mb Ps
  clear VI XJ Qm hlen XN ev Ps TT hW
  go_wp2_with fail
  refine HBY.out.mono ?_;rintro e w4 ⟨⟨u,rfl,Nt,ON⟩,k4⟩
  obtain⟨pu,cu,rfl⟩:=Nt.shape
  have OK:=Mb Nt
  have X7:=Mb ON
  have K4:=Mb k4
  have HCT:=Mb ((U4.out.aJ k4).vol.Ck Qj.out.well.cat _ (aa.refl [] w4))
  clear Nt ON k4 HBY
  go_wp2_with fail
  refine HCT.out.mono ?_;rintro e w5 ⟨⟨vv,rfl,YP⟩,k5⟩
  have Qw:=Mb YP
  have K5:=Mb (K4.out.trans k5)
  have K45:=Mb k5
  obtain⟨xa,xb,xc,rfl,hxa,hxb,hxc,_⟩:=YP
  obtain⟨pa,ca,rfl⟩:=hxa.plain.shape
  obtain⟨pb,cb,rfl⟩:=hxb.plain.shape
  obtain⟨pc,cc,rfl⟩:=hxc.plain.shape
  clear hxa hxb hxc k5 HCT
  go_upto_region 13 with fail
  have k6:=(aa.refl [] w5).alloc (.cells #[.int .u32 v.c.nextBox,.int .u32 v.c.nextMan,.slice pa v.c.boxes.length ca,.slice pb v.c.mans.length cb,.slice pc v.c.names.length cc] 52)
  have oC:=ae.new w5 #[.int .u32 v.c.nextBox,.int .u32 v.c.nextMan,.slice pa v.c.boxes.length ca,.slice pb v.c.mans.length cb,.slice pc v.c.names.length cc] 52
  obtain⟨w6,hw6⟩:∃w6,w5.alloc (.cells #[.int .u32 v.c.nextBox,.int .u32 v.c.nextMan,.slice pa v.c.boxes.length ca,.slice pb v.c.mans.length cb,.slice pc v.c.names.length cc] 52)=w6:=⟨_,rfl⟩
  rw[hw6]at k6 oC ⊢
  clear hw6
  obtain⟨nC,hnC⟩:∃nC,w5.heap.size=nC:=⟨_,rfl⟩
  rw[hnC]at oC ⊢
  have HNC:=Mb hnC
  have K6:=Mb (K5.out.trans k6)
  have K56:=Mb k6
  have OC:=Mb oC
  have abf:=Mb (U4.out.aJ K6.out).vol.da.image
  clear hnC k6 oC
  go_wp2_with fail
  refine abf.out.mono ?_;rintro e w7 ⟨rfl,_,k7⟩
  have K7:=Mb (K6.out.trans k7)
  have K67:=Mb k7
  have HLD:=Mb (Kh (d:=v.d) Qj.out.well.fit (by have:=U4.out.vol.da.len;exact this.1) Qj.out.well.len w7)
  clear k7 abf
  go_wp2_with fail
  refine HLD.out.mono ?_;rintro e w8 ⟨b2,sb2,mb2,lo2,rfl,hD2,k8,Qo,acJ,abA,aa8⟩
  have hmt:=CS hD2 (by show v.d.stand.length<=96;have:=Oa.out;omega)
  unfold mC at hmt
  have HMT:=Mb hmt
  have Vh:=Mb hD2
  have K8:=Mb k8
  have Xp:=Mb (And.intro Qo (And.intro acJ (And.intro abA aa8)))
  clear hmt hD2 k8 Qo acJ abA aa8 HLD
  go_wp2_with fail
  refine HMT.out.mono ?_;rintro e w9 ⟨hc,k9⟩
  have Xt:∃B2 sv2 vb2 vm2 vn2,w8.heap.size<=B2/\ae w9 B2 (bf b2 v.s sv2 v.c vb2 vm2 vn2 false) 90/\af w9 sv2 v.s.runs w8.heap.size B2/\aw (fun x=>x<w8.heap.size\/x=B2) w9 (.agg #[.int .u32 v.c.nextBox,.int .u32 v.c.nextMan,vb2,vm2,vn2]) v.c/\e=.returned (.tuple #[.pointer (some ⟨B2,0,none⟩),.int .i64 0]):=by
   have Vr:PB (Pw v.d.stand)=some (v.s,v.c):=tN.2 (gG Qj.out.well.mounted Qj.out.well.fit Vh.out.fit Qj.out.well.waits Qj.out.well.down rfl rfl rfl)
   rcases hc with⟨h,_⟩|⟨_,h,_⟩|⟨_,s',c',h,B2,sv2,vb2,vm2,vn2,VD,o2,QU,Th,he⟩
   .cases h
   .rw[Vr]at h;cases h
   .rw[Vr]at h
    exact M89
  clear hc
  obtain⟨B2,sv2,vb2,vm2,vn2,VD,o2,QU,Th,rfl⟩:=Xt
  have hTW:=Ia U4.out K7.out K8.out Vh.out Xp.out k9 VD o2 QU Th
  have VB:aa [] w6 w9:=(K67.out.trans K8.out).trans k9
  have ZY:mW w9 w3.heap.size w7.heap.size (.slice pu ws.length cu) ws nC v.c #[.int .u32 v.c.nextBox,.int .u32 v.c.nextMan,.slice pa v.c.boxes.length ca,.slice pb v.c.mans.length cb,.slice pc v.c.names.length cc]:=by
   have z4:=K4.out.size
   have z45:=K45.out.size
   have z56:=K56.out.size
   have z67:=K67.out.size
   have zl:=OC.out.lt
   have zn:=HNC.out
   refine⟨OK.out.kept0 ((K45.out.trans K56.out).trans VB),X7.out.more OK.out (fun x hx=>?_),VB.own OC.out (by simp),⟨by omega,by omega⟩,?_⟩
   .unfold wB at hx;omega
   .refine aw.kept0 ((aw.more Qw.out (fun x (hx:w5.heap.size<=x)=>hx)).fI (fun x hx=>?_)) (K56.out.trans VB)
    unfold wB at hx
    rcases hx with hx|hx
    .exact Or.inl (by omega)
    .exact Or.inr (by omega)
  have HTW:=Mb hTW
  have R6:=Mb ZY
  have Yh:Hid (aF (Pw v.d.stand)):=Mb ⟨rfl,by show(-1:Int)<0;decide,Vh.out.fit⟩
  have HL7:Hid (w7.heap.size<=w9.heap.size):=Mb (MA K8.out.size k9.size)
  clear hTW ZY VB k9 VD o2 QU Th HMT Vh Xp K8 K7 K67 K6 K56 OC HNC K5 K45 K4 OK X7 Qw U4
  go_upto_region 15 with fail
  have Oe:Hid (∀W,aa [] w9 W->W.cell? ⟨nC,0,none⟩=some (.int .u32 v.c.nextBox)/\W.cell? ⟨nC,1,none⟩=some (.int .u32 v.c.nextMan)/\W.cell? ⟨nC,2,none⟩=some (.slice pa v.c.boxes.length ca)/\W.cell? ⟨nC,3,none⟩=some (.slice pb v.c.mans.length cb)/\W.cell? ⟨nC,4,none⟩=some (.slice pc v.c.names.length cc)):=Mb (fun W k=>(k.own R6.out.own (by simp)).k5)
  have HCU:Hid (∀W,aa [] w9 W->Calls Tryz.prog 19 #[.pointer (some ⟨B2,0,none⟩)] W fun e w'=>(∃vv,e=.returned vv/\aw (fun x=>x<W.heap.size) w' vv v.c)/\aa [] W w'):=Mb (HTW.out.twin.Ck Qj.out.well.cat)
  have ZQ:Hid (∀W vu,aa [] w9 W->cC W vu v.c->Calls Tryz.prog 18 #[vu,.agg #[.int .u32 v.c.nextBox,.int .u32 v.c.nextMan,.slice pa v.c.boxes.length ca,.slice pb v.c.mans.length cb,.slice pc v.c.names.length cc]] W fun e w'=>e=.returned (.bool true)/\aa [] W w'):=Mb (fun W vu k h=>(ss vu _ v.c v.c W h (cC.kept0 R6.out.cat.plain k) Qj.out.well.cat.small Qj.out.well.cat.small).mono (fun e w' ⟨b,he,hb,k⟩=>⟨by rw[he,hb.2 rfl],k⟩))
  refine Ml (S:=(fun W=>W.cell? ⟨nC,0,none⟩=some (.int .u32 v.c.nextBox)/\W.cell? ⟨nC,1,none⟩=some (.int .u32 v.c.nextMan)/\W.cell? ⟨nC,2,none⟩=some (.slice pa v.c.boxes.length ca)/\W.cell? ⟨nC,3,none⟩=some (.slice pb v.c.mans.length cb)/\W.cell? ⟨nC,4,none⟩=some (.slice pc v.c.names.length cc))) (by kernel_rfl) (by exact Oe.out _ (aa.refl [] w9).drew) (fun hHeld=>?_)
  refine tk 0 115 ?_
  refine tk 1 116 ?_
  refine tk 2 117 ?_
  refine tk 3 118 ?_
  refine tk 4 119 ?_
  refine tk 5 120 ?_
  refine tk 6 121 ?_
  refine tk 7 122 ?_
  refine tk 8 123 ?_
  refine tk 9 124 ?_
  refine tk 10 125 ?_
  refine tk 11 126 ?_
  refine tk 13 128 ?_
  refine rd 12 (fun K hK=>?_)
  go_simp
  ((with_reducible refine(HCU.out _ (aa.refl [] w9).drew).mono ?_));rintro e Vc ⟨⟨vu,rfl,hcu⟩,Uv⟩
  have K10:=Mb (((aa.refl [] w9).drew).trans Uv)
  have HCV:=Mb hcu
  clear Uv hcu
  go_wp2_with fail
  refine hK.out _ _ ?_ (fun hHeld=>nm ?_)
  .exact Oe.out _ K10.out
  clear hK K
  refine rd 14 (fun K hK=>?_)
  go_simp
  ((with_reducible refine(ZQ.out _ vu K10.out HCV.out.plain).mono ?_));rintro e QA ⟨rfl,k11⟩
  have K11:=Mb (K10.out.trans k11)
  clear k11
  go_wp2_with fail
  refine hK.out _ _ ?_ (fun hHeld=>nm ?_)
  .exact Oe.out _ K11.out
  clear hK K
  refine tk 15 130 ?_
  refine tk 16 131 ?_
  refine MM (by kernel_rfl) ?_ _
  have HO:Hid (∀W,aa [] w9 W->Calls Tryz.prog 12 #[.slice p3 L0.length c3] W (l8 L0 W)):=Mb (fun W k=>GN _ L0 _ _ W (HL0.out.kept0 (HTW.out.hv.kept.trans k)))
  have Vb:=Mb (GV (dC.fits HL0.out) (fun x hx=>wi hx))
  have U9:Hid ((PJ L0).length<=8):=Mb (xJ _)
  unfold l8 at HO
  generalize PJ L0=L at*
  clear HCU ZQ Oe
  go_wp2_with fail
  refine(HO.out _ K11.out).mono ?_;rintro e WG ⟨va,vb3,rfl,Rj,_,Tj⟩
  have We:=Mb (HTW.out.aJ (K11.out.trans Tj))
  have WT:=Mb (R6.out.aJ (K11.out.trans Tj))
  have hlx:fj WG va L QA.heap.size WG.heap.size:=uo (P:=VC.fits) Rj Vb.out
  obtain⟨px,cx,rfl⟩:=ai Rj
  have HLX:=Mb hlx
  have HSZ:Hid (w3.heap.size<=QA.heap.size):=Mb (by have h1:=HTW.out.ns.1;have h2:=HL7.out;have h3:=K11.out.size;omega)
  have HFU:=Mb (Kj b sb mb lo v.d (fn:Int) WG We.out.hv.vol.da.disk (by have:=HFN.out;omega))
  have aep:(fn:Int)<256:=by have:=HFN.out;omega
  have ad8:(0:Int)<=(fn:Int):=by omega
  clear Rj hlx HTW R6 HO K11 K10 HCV Tj
  go_wp2_with fail
  refine HFU.out.mono ?_;rintro e w13 ⟨rfl,hD13,k13,hc13⟩
  have TI:=Mb (We.out.fuse (d':=PV v.d (fn:Int)) k13 hc13 ⟨hD13,Qj.out.well.fit.fuse _⟩)
  have VT:=Mb (WT.out.kept k13 (fun x hx=>by
   obtain rfl:x=b:=by simpa using hx
   exact Or.inl (We.out.lowv x (fun ho=>ho.2.1 rfl))))
  have aaL:=Mb (HLX.out.kept k13 (fun x hx=>by
   obtain rfl:x=b:=by simpa using hx
   have h1:=We.out.lowv x (fun ho=>ho.2.1 rfl)
   have h2:=HSZ.out
   exact Or.inl (by omega)))
  have WU:=Mb (CP Qj.out.well (fn:Int))
  have abw:=Mb (Ew (v:=v) Qj.out.inv.dead (fn:Int))
  have P7:Hid (yx 900 ⟨PV v.d (fn:Int),v.s,v.c,v.dead⟩/\v.d.ops<=20000/\v.d.waits=[]/\v.dead=false):=Mb (by
   have h:=Qj.out.inv
   have hk:=Qg.out
   exact⟨⟨h.fit.may,h.fit.cat,by have:=h.fit.few;show v.c.boxes.length+v.c.mans.length+v.c.names.length<=900;omega,by have:=h.fit.seq;show v.s.seq<=900;omega,h.fit.jr⟩,by have:=h.ops;omega,h.waits,h.dead⟩)
  have aa0:=Mb (ug ⟨PV v.d (fn:Int),v.s,v.c,v.dead⟩ L U9.out (by have:=P7.out.1.may.1;unfold SB.eF at this;exact this.2.2.2.2.2.1) P7.out.1.jr (by have:=Oa.out;show v.d.stand.length<=100;omega))
  have aaE:=Mb (uT ⟨PV v.d (fn:Int),v.s,v.c,v.dead⟩ (by have:=Oa.out;show v.d.stand.length<=100;omega))
  have Ze:=Mb (fun keep=>AJ WU.out P7.out.2.2.2 (qH WU.out P7.out.2.2.2 L U9.out Vb.out) Yh.out rfl rfl keep)
  have YT:=Mb (fun keep=>AJ WU.out P7.out.2.2.2 (sU WU.out P7.out.2.2.2) Yh.out rfl rfl keep)
  have PY:Hid ((PV v.d (fn:Int)).ops<=20000/\(PV v.d (fn:Int)).waits.length<=0/\(PV v.d (fn:Int)).stand.length<=83):=Mb ⟨P7.out.2.1,by show v.d.waits.length<=0;rw[P7.out.2.2.1];exact Md _,Oa.out⟩
  have Ui:Hid ((Pw v.d.stand).ops<=0/\(Pw v.d.stand).waits.length<=0/\(Pw v.d.stand).stand.length<=83):=Mb ⟨Md _,Md _,Oa.out⟩
  have WA:Hid (yx 900 ⟨Pw v.d.stand,v.s,v.c,false⟩):=Mb ⟨P7.out.1.may,P7.out.1.cat,P7.out.1.few,P7.out.1.seq,P7.out.1.jr⟩
  clear k13 hc13 hD13 We WT HLX HFU
  generalize PV v.d (fn:Int)=df at*
  generalize Pw v.d.stand=du at*
  go_upto_if 141 with fail
  go_cut [32] (fun v32 wx=>∃C d1 U T,v32=.int .i64 C/\wM w wx w3.heap.size w7.heap.size ⟨df,v.s,v.c,v.dead⟩ b sb mb lo d1 C T B2 b2 sb2 mb2 lo2 U/\mW wx w3.heap.size w7.heap.size (.slice pu ws.length cu) ws nC v.c #[.int .u32 v.c.nextBox,.int .u32 v.c.nextMan,.slice pa v.c.boxes.length ca,.slice pb v.c.mans.length cb,.slice pc v.c.names.length cc])
  case first=>
   cases st
   .have HC1:=Mb (qX _ L _ _ TI.out.hv.vol P7.out.1 aaL.out U9.out Vb.out (by have:=PY.out.1;show df.ops<=35000;omega) (by have:=PY.out.2.1;show df.waits.length<=700;omega) (by have:=PY.out.2.2;show df.stand.length<=100;omega))
    go_wp2_with fail
    refine HC1.out.mono ?_;rintro e w14 ⟨rfl,hv14,p14⟩
    have Wx:=Mb (TI.out.GQ p14)
    have abN:fj w14 (.slice px L.length cx) L QA.heap.size WG.heap.size:=by
     obtain⟨S,q,hS⟩:=p14.mY
     exact aaL.out.kept q (fun x hx=>by
      have h1:=TI.out.lowv x (hS x hx)
      have h2:=HSZ.out
      exact Or.inl (by omega))
    have HC2:=Mb (qX _ L _ _ Wx.out WA.out abN U9.out Vb.out (by have:=Ui.out.1;show du.ops<=35000;omega) (by have:=Ui.out.2.1;show du.waits.length<=700;omega) (by have:=Ui.out.2.2;show du.stand.length<=100;omega))
    have aaV:=Mb hv14
    have aaP:=Mb p14
    clear hv14 p14 abN HC1
    go_wp2_with fail
    refine HC2.out.mono ?_;rintro e w15 ⟨rfl,hu15,p15⟩
    obtain⟨hcut,S,hS,hSr⟩:=Ec TI.out aaP.out aaV.out hu15 p15 Wx.out (Ze.out) ⟨by have h1:=aa0.out.waits;have h2:=PY.out.2.1;omega,by rw[aa0.out.len];have:=PY.out.2.2;show df.stand.length<=96;omega⟩
    exact M69
   .have HC1:=Mb (rG TI.out.hv.vol P7.out.1 (by have:=PY.out.1;show df.ops<=35000;omega) (by have:=PY.out.2.1;show df.waits.length<=700;omega) (by have:=PY.out.2.2;show df.stand.length<=100;omega))
    go_wp2_with fail
    refine HC1.out.mono ?_;rintro e w14 ⟨rfl,hv14,p14⟩
    have Wx:=Mb (TI.out.GQ p14)
    have HC2:=Mb (rG Wx.out WA.out (by have:=Ui.out.1;show du.ops<=35000;omega) (by have:=Ui.out.2.1;show du.waits.length<=700;omega) (by have:=Ui.out.2.2;show du.stand.length<=100;omega))
    have aaV:=Mb hv14
    have aaP:=Mb p14
    clear hv14 p14 HC1
    go_wp2_with fail
    refine HC2.out.mono ?_;rintro e w15 ⟨rfl,hu15,p15⟩
    obtain⟨hcut,S,hS,hSr⟩:=Ec TI.out aaP.out aaV.out hu15 p15 Wx.out (YT.out) ⟨by have h1:=aaE.out.waits;have h2:=PY.out.2.1;omega,by rw[aaE.out.len];have:=PY.out.2.2;show df.stand.length<=96;omega⟩
    exact M69
  case rest=>
   obtain⟨C,d1,U,T,hs,hcut,hmemo⟩:=hcut
   rename World=>w15
   subst hs
   have Sk:=Mb hcut
   have R6:=Mb hmemo
   clear hcut hmemo TI VT aaL WU P7 aa0 aaE Ze YT PY Ui WA
   have HAW:=Mb (fun W=>JH W)
   have Wc:eA w15 (.slice p6 keep.length c6) keep 0 w.heap.size:=HKP.out.kept Sk.out.kept (fun x hx=>by cases hx)
   have HPW:=Mb (Sk.out.da.iw _ keep 0 w.heap.size Wc (Or.inr Sk.out.new.2.1) (by have:=Sk.out.few.1;omega))
   clear Wc
   go_wp2_with fail
   refine HPW.out.mono ?_;rintro e w16 ⟨rfl,hD16,p16⟩
   obtain⟨k16,hT16,hM16⟩:=Sk.out.iw R6.out p16
   obtain⟨s,c,PN⟩:=Sk.out.cuts keep
   have W4:(Oo d1 keep).stand.length<=96:=by rw[Do];exact Sk.out.few.2
   have aa9:Hid (aF (Oo d1 keep)):=Mb ⟨rfl,by show(-1:Int)<0;decide,hD16.fit⟩
   have hmt:=CS hD16 W4
   unfold mC at hmt
   have HMT:=Mb hmt
   have acm:=Mb hD16
   have abi:=Mb k16
   have aaA:=Mb hT16
   have XT:=Mb hM16
   have OU:=Mb PN
   clear hmt hD16 k16 hT16 hM16 PN W4 p16 HPW Sk R6
   generalize Oo d1 keep=dp at*
   go_wp2_with fail
   refine HMT.out.mono ?_;rintro e w17 ⟨hc,k17⟩
   have Xt:∃B3 sv3 vb3 vm3 vn3,w16.heap.size<=B3/\ae w17 B3 (bf b s sv3 c vb3 vm3 vn3 false) 90/\af w17 sv3 s.runs w16.heap.size B3/\aw (fun x=>x<w16.heap.size\/x=B3) w17 (.agg #[.int .u32 c.nextBox,.int .u32 c.nextMan,vb3,vm3,vn3]) c/\e=.returned (.tuple #[.pointer (some ⟨B3,0,none⟩),.int .i64 0]):=by
    have Vr:=tN.2 OU.out.mounted
    rcases hc with⟨h,_⟩|⟨_,h,_⟩|⟨_,s',c',h,B2,sv2,vb2,vm2,vn2,VD,o2,QU,Th,he⟩
    .rw[aa9.out.down]at h;cases h
    .rw[Vr]at h;cases h
    .rw[Vr]at h
     exact M89
   clear hc
   obtain⟨B3,sv3,vb3',vm3,vn3,hB3,o3,TM,VJ,rfl⟩:=Xt
   have HVM:=Mb (rF (T:=[B3]) acm.out k17 hB3 o3 TM VJ (by simp) (fun x hx=>Or.inr (by simpa using hx)))
   have K17:=Mb k17
   have hbm:=wY HVM.out aa9.out rfl OU.out.may OU.out.reads
   obtain⟨wm,hwm⟩:∃ws,(eu ⟨dp,s,c,false⟩).map (·.1)=ws:=⟨_,rfl⟩
   obtain⟨wu,hwu⟩:∃ws,(eu U).map (·.1)=ws:=⟨_,rfl⟩
   have abK:Hid ((c=U.c/\wm=wu)\/(C≠0/\c=v.c/\wm=ws)):=Mb (by
    rcases OU.out.ends with⟨h1,h2⟩|⟨h1,h2,h3⟩
    .exact Or.inl ⟨h1,by rw[<-hwm,<-hwu,h2]⟩
    .exact Or.inr ⟨h1,h2,by rw[<-hwm,<-HWS.out,h3,abw.out]⟩)
   rw[hwm]at hbm
   unfold mF at hbm
   have HBM:=Mb hbm
   have HWU:=Mb hwu
   have U3:=Mb hwm
   clear hbm hwm hwu k17 hB3 o3 TM VJ HMT acm
   go_wp2_with fail
   refine HBM.out.mono ?_;rintro e w18 ⟨⟨um,rfl,XA,_⟩,k18⟩
   obtain⟨pm,cm,rfl⟩:=XA.shape
   have hbu:=wY (aaA.out.aJ (K17.out.trans k18)) OU.out.twin.2.2.2 OU.out.twin.2.2.1 OU.out.twin.2.1 OU.out.twin.1
   rw[HWU.out]at hbu
   unfold mF at hbu
   have HBU:=Mb hbu
   have PG:=Mb XA
   have K18:=Mb k18
   clear hbu XA k18 HBM
   go_wp2_with fail
   refine HBU.out.mono ?_;rintro e w19 ⟨⟨uu,rfl,hru,_⟩,k19⟩
   obtain⟨pq,cq,rfl⟩:=hru.shape
   have hlw:wm.length<=3000000:=by
    rw[<-U3.out,Mm]
    obtain⟨a1,a2,a3⟩:=OU.out.may.small
    unfold eu
    have:=a1.1
    have:=a2.1
    have:=a3.1
    simp only[Mc,Mm]
    omega
   have HCM:=Mb ((HVM.out.aJ (K18.out.trans k19)).Ck OU.out.may)
   have HCU:=Mb ((aaA.out.aJ ((K17.out.trans K18.out).trans k19)).Ck OU.out.twin.2.1)
   have Rz:Hid (∀W va vb,cC W va c->cC W vb U.c->Calls Tryz.prog 18 #[va,vb] W (dr (c=U.c) W)):=Mb (fun W va vb h1 h2=>ss va vb c U.c W h1 h2 OU.out.may.small OU.out.twin.2.1.small)
   have XC:Hid (∀W va,aa [] w19 W->cC W va c->Calls Tryz.prog 18 #[va,.agg #[.int .u32 v.c.nextBox,.int .u32 v.c.nextMan,.slice pa v.c.boxes.length ca,.slice pb v.c.mans.length cb,.slice pc v.c.names.length cc]] W (dr (c=v.c) W)):=Mb (fun W va k h1=>ss va _ c v.c W h1 (cC.kept0 XT.out.cat.plain (((K17.out.trans K18.out).trans k19).trans k)) OU.out.may.small Qj.out.well.cat.small)
   have HE1:Hid (∀W,aa [] w19 W->Calls Tryz.prog 32 #[.slice pm wm.length cm,.slice pq wu.length cq] W (mE wm wu W)):=Mb (fun W k=>CT _ _ wm wu W (PG.out.kept0 (k19.trans k)) (hru.kept0 k) hlw)
   have HE2:Hid (∀W,aa [] w19 W->Calls Tryz.prog 32 #[.slice pm wm.length cm,.slice pu ws.length cu] W (mE wm ws W)):=Mb (fun W k=>CT _ _ wm ws W (PG.out.kept0 (k19.trans k)) (XT.out.row.kept0 (((K17.out.trans K18.out).trans k19).trans k)) hlw)
   unfold dr at Rz XC
   unfold mE at HE1 HE2
   have Oe:Hid (∀W,aa [] w19 W->W.cell? ⟨nC,0,none⟩=some (.int .u32 v.c.nextBox)/\W.cell? ⟨nC,1,none⟩=some (.int .u32 v.c.nextMan)/\W.cell? ⟨nC,2,none⟩=some (.slice pa v.c.boxes.length ca)/\W.cell? ⟨nC,3,none⟩=some (.slice pb v.c.mans.length cb)/\W.cell? ⟨nC,4,none⟩=some (.slice pc v.c.names.length cc)):=Mb (fun W k=>((((K17.out.trans K18.out).trans k19).trans k).own XT.out.own (by simp)).k5)
   have K19:=Mb (((abi.out.trans K17.out).trans K18.out).trans k19)
   clear hru k19 HBU PG XT aaA HVM OU HWU U3 HWS abw hlw K17 K18 abi Qj
   go_upto_region 33 with fail
   go_cut [39] (fun v39 wx=>∃q,v39=.bool q/\((c=U.c/\wm=wu)->q=true)/\aa [] w19 wx)
   case first=>
    go_wp2_with fail
    refine(HCM.out _ (aa.refl _ _)).mono ?_;rintro e w20 ⟨⟨va1,rfl,hva⟩,k20⟩
    have HVA:=Mb hva
    have K20:=Mb k20
    clear hva k20
    go_wp2_with fail
    refine(HCU.out _ K20.out).mono ?_;rintro e w21 ⟨⟨vb1,rfl,hvb⟩,k21⟩
    have HVB:=Mb hvb
    have ZU:=Mb k21
    clear hvb k21
    go_wp2_with fail
    refine(Rz.out _ _ _ (cC.kept0 HVA.out.plain ZU.out) HVB.out.plain).mono ?_;rintro e w22 ⟨bq,rfl,hb,k22⟩
    have HB:=Mb hb
    have Zu:=Mb ((K20.out.trans ZU.out).trans k22)
    clear hb k22
    cases bq
    .go_wp2_with fail
     go_meet
     exact⟨false,rfl,fun h=>HB.out.2 h.1,Zu.out⟩
    .go_wp2_with fail
     refine(HE1.out _ Zu.out).mono ?_;rintro e w23 ⟨q,rfl,hq,k23⟩
     have HQ:=Mb hq
     have K23:=Mb (Zu.out.trans k23)
     clear hq k23
     go_wp2_with fail
     go_meet
     exact⟨q,rfl,fun h=>HQ.out.2 h.2,K23.out⟩
   case rest=>
    obtain⟨q,hs,hq,k20⟩:=hcut
    rename World=>w20
    subst hs
    have HQ1:=Mb hq
    have K20:=Mb k20
    clear hq k20
    go_upto_region 34 with fail
    go_cut [40] (fun v40 wx=>∃q,v40=.bool q/\((c=v.c/\wm=ws)->q=true)/\aa [] w19 wx)
    case first=>
     refine Ml (S:=(fun W=>W.cell? ⟨nC,0,none⟩=some (.int .u32 v.c.nextBox)/\W.cell? ⟨nC,1,none⟩=some (.int .u32 v.c.nextMan)/\W.cell? ⟨nC,2,none⟩=some (.slice pa v.c.boxes.length ca)/\W.cell? ⟨nC,3,none⟩=some (.slice pb v.c.mans.length cb)/\W.cell? ⟨nC,4,none⟩=some (.slice pc v.c.names.length cc))) (by kernel_rfl) (by exact Oe.out _ (K20.out).drew) (fun hHeld=>?_)
     refine tk 0 192 ?_
     refine tk 2 194 ?_
     refine rd 1 (fun K hK=>?_)
     go_simp
     ((with_reducible refine(HCM.out _ (K20.out).drew).mono ?_));rintro e w21 ⟨⟨vm1,rfl,hvm⟩,k21⟩
     have ZU:=Mb (((K20.out).drew).trans k21)
     have acW:=Mb hvm
     clear k21 hvm
     go_wp2_with fail
     refine hK.out _ _ ?_ (fun hHeld=>nm ?_)
     .exact Oe.out _ ZU.out
     clear hK K
     refine rd 3 (fun K hK=>?_)
     go_simp
     ((with_reducible refine(XC.out _ vm1 ZU.out acW.out.plain).mono ?_));rintro e w22 ⟨bq,rfl,hb,k22⟩
     have Zu:=Mb (ZU.out.trans k22)
     have HB:=Mb hb
     clear k22 hb
     go_wp2_with fail
     refine hK.out _ _ ?_ (fun hHeld=>nm ?_)
     .exact Oe.out _ Zu.out
     clear hK K
     cases bq
     .refine tk 4 196 ?_
      refine tn 5 197 ?_
      refine tn 6 198 ?_
      refine tn 7 199 ?_
      refine tk 8 200 ?_
      refine tk 9 40 ?_
      refine MM (by kernel_rfl) ?_ _
      try simp only[List.set_cons_succ,List.set_cons_zero]
      go_wp2_with fail
      go_meet
      exact⟨false,rfl,fun h=>HB.out.2 h.1,Zu.out⟩
     .refine tk 4 196 ?_
      refine tk 5 197 ?_
      refine tk 6 198 ?_
      refine rd 7 (fun K hK=>?_)
      go_simp
      ((with_reducible refine(HE2.out _ Zu.out).mono ?_));rintro e w23 ⟨q2,rfl,Q8,k23⟩
      have K23:=Mb (Zu.out.trans k23)
      have Va:=Mb Q8
      clear k23 Q8
      go_wp2_with fail
      refine hK.out _ _ ?_ (fun hHeld=>nm ?_)
      .exact Oe.out _ K23.out
      clear hK K
      refine tk 8 200 ?_
      refine tk 9 40 ?_
      refine MM (by kernel_rfl) ?_ _
      try simp only[List.set_cons_succ,List.set_cons_zero]
      go_wp2_with fail
      go_meet
      exact⟨q2,rfl,fun h=>Va.out.2 h.2,K23.out⟩
    case rest=>
     obtain⟨q2,hs,hq,k21⟩:=hcut
     rename World=>w21
     subst hs
     have Va:=Mb hq
     have ZU:=Mb (K19.out.trans k21)
     clear hq k21
     have RD:q=true\/((C != 0)=true/\q=false/\q2=true):=by
      rcases abK.out with h|⟨h1,h2⟩
      .exact Or.inl (HQ1.out h)
      .cases q
       .exact Or.inr ⟨by simpa using h1,rfl,Va.out h2⟩
       .exact Or.inl rfl
     rcases RD with rfl|⟨hC,rfl,rfl⟩
     .go_wp2_with fail
      exact M75
     .go_wp2_with fail
      exact M75
end Go.Proofs.YtdkimcnlhmhpgaaGreat

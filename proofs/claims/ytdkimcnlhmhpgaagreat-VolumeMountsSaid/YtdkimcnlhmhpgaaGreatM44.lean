/- -/
import Derived.Test.YtdkimcnlhmhpgaaGreatM37
set_option maxHeartbeats 32000000
set_option maxRecDepth 100000
namespace Go.Proofs.YtdkimcnlhmhpgaaGreat
open Go.Proofs.Tryz Go.RowKit
theorem IK {T:List Nat} {w:World} {B b sb mb lo:Nat} {v:VS} (vl:Value) (l:List VC) (PU PC:Nat) (hV:aL T w B b sb mb lo v) (hF:Mx 900 v) (hl:gC w vl l PU PC) (WG:l.length<=8) (Ri:∀x∈l,x.fits) (ho:v.d.ops<=35000) (hw:v.d.waits.length<=700) (hn:v.d.stand.length<=100) (hhy:v.dead=false/\P5 v.c l=0/\gW (Oh v) l/\(N8 v.c (Ob (Oh v) l l.length).1).2=0/\cX (Ob (Oh v) l l.length).1=0/\((Pv (Ob (Oh v) l l.length).1).length:Int)<=v.s.journal*128-v.s.used/\∀x∈l,Oj x.kind=true):
  am! 11 #[B,vl] w (tD T B b sb mb lo (eX v l) w):=by
 obtain⟨hm,PT,SN,hseq,hjr⟩:=hF
 have S2:=hm.1
 have⟨sv,vb,vm,vn,o,hr,Oz⟩:=hV.vol
 obtain⟨RM,hRM⟩:∃R,Oh v=R:=⟨_,rfl⟩
 obtain⟨P,hP⟩:∃P,Ob RM l l.length=P:=⟨_,rfl⟩
 obtain⟨AP,hAP⟩:∃A,N8 v.c P.1=A:=⟨_,rfl⟩
 have acy:Pl 0 RM:=by rw[<-hRM];exact lC _ _
 have ab3:Pl 0 P.2:=by rw[<-hP];exact tV acy l l.length (MG _)
 have hPr:∀r∈P.1,Pl 0 r.runs:=fun r hr=>by rw[<-hP]at hr;exact(pw RM l l.length (MG _) r hr).1
 have aaP:P.1.length=l.length:=by rw[<-hP];exact gp RM l _ (MG _)
 have adT:∀r∈P.1,0<=r.id:=fun r hr=>by rw[<-hP]at hr;exact EV RM l (fun x hx=>(eG (Ri x hx).2.1).1) r hr
 have Tq:Hid (∀W,NP [] w W->am! 42 #[B] W fun e w'=>e=(if v.dead=true then 90 else 0:Int)/\W=w'):=tK (fun W k=>BZ (hV.aJ k))
 have HWR:Hid (∀W,NP [] w W->am! 43 #[B,vl] W (pX (P5 v.c l) W)):=tK (fun W k=>I2 vl l PU PC (hV.aJ k) PT (hl.kept0 k))
 have Rf:Hid (∀W,NP [] w W->am! 44 #[B,vl] W (rZ RM l W)):=tK (fun W k=>by rw[<-hRM];exact Kt vl l PU PC (hV.aJ k) hm PT _a (hl.kept0 k) _a)
 have Z3:Hid (∀W rv lo2 QZ,NP [] w W->bX W rv P.1 lo2 QZ->am! 45 #[.agg #[(v.c.nextBox,()),(v.c.nextMan,()),vb,vm,vn],rv] W (dC (SD T w b sb mb) AP W)):=tK (fun W rv lo2 QZ k Qh=>by
  rw[<-hAP]
  exact sf (S0:=SD T w b sb mb) _ v.c rv P.1 lo2 QZ W (av.kept0 Oz k) (fun x hx=>MR (hV.da.vL hV.hT x hx) k.size) PT.small Qh (fun r hr=>gT (hPr r hr)) (fun r hr=>by have:=(hPr r hr).gX;omega))
 have abW:Hid (∀W rv lo2 QZ g,NP [] w W->w.heap.size<=g->g<W.heap.size->bX W rv P.1 lo2 QZ->am! 45 #[.agg #[(v.c.nextBox,()),(v.c.nextMan,()),vb,vm,vn],rv] W (dC (fun x=>SD T w b sb mb x\/x=g) AP W)):=tK (fun W rv lo2 QZ g k hg hgW Qh=>by
  rw[<-hAP]
  exact sf (S0:=fun x=>SD T w b sb mb x\/x=g) _ v.c rv P.1 lo2 QZ W (av.kept0 (av.more (T:=fun x=>x=g) Oz (fun x hx=>by subst hx;exact hg)) k) (fun x hx=>(by
   rcases hx with hx|rfl
   .exact MR (hV.da.vL hV.hT x hx) k.size
   .exact hgW)) PT.small Qh (fun r hr=>gT (hPr r hr)) (fun r hr=>by have:=(hPr r hr).gX;omega))
 have VU:Hid (∀W rv lo2 QZ,bX W rv P.1 lo2 QZ->am! 46 #[rv] W (mU P.1 W)):=tK (fun W rv lo2 QZ h=>L3 rv P.1 lo2 QZ W h _a (fun r hr=>by have:=(hPr r hr).gX;omega))
 have⟨HV,HL,HM⟩:=gg! hV hl hm
 have Q1:Hid (v.d.ops<=35000/\v.d.waits.length<=700/\v.d.stand.length<=100/\l.length<=8/\v.s.seq<=900/\v.s.journal<=30):=tK ⟨ho,hw,hn,WG,hseq,hjr⟩
 have⟨HFT,afv,Ux,acY,X8,HP,SG,ZP,HHY⟩:=gb! Ri ab3 hPr aaP hRM hP hAP S2 hhy
 obtain⟨p1,c1,rfl⟩:=bS.shape hl
 have HO:Hid (∀W,NP [] w W->ae W B (bL b v.s sv v.c vb vm vn v.dead) 90):=tK (fun W k=>k.own o _b)
 have ogv:=ae.new w #[B] 27
 have k1:NP [] w (w.alloc (.cells #[B] 27)):=(NP.refl _ _).alloc _
 have⟨Sx,HGV⟩:=_f k1 ogv
 clear hm PT SN hseq hjr S2 hr Oz acy ab3 hPr aaP adT hhy hV hl WG Ri ho hw hn hRM hP hAP o ogv k1
 unfold tD
 have hd:=HHY.out.1
 rw[hd,if_neg _b]at Tq
 have HD:=tK hd
 go_enter func11,ntmps11
 go_wp2_with fail
 refine(Tq.out _ Sx.out).mono ?_;rintro e w2 ⟨rfl,rfl⟩
 have y0:=HGV.out.cell 0 _b
 simp only[List.getElem_toArray,List.getElem_cons_zero]at y0
 go_upto_region 4 with fail
 generalize w.alloc (.cells #[B] 27)=w1 at*
 have Z6:Hid (∀W,NP [] w1 W->W.cell? w=B):=tK (fun W k=>(k.own HGV.out _b).cell 0 _b)
 go_wp2_with fail
 refine(HWR.out _ Sx.out).mono ?_;rintro e w2 ⟨rfl,k2⟩
 have YM:=tK k2
 have y0:=Z6.out w2 k2
 clear k2
 have hwx:=HHY.out.2.1
 have HWX:=tK hwx
 rw[hwx]
 clear hwx hd
 go_wp2_with fail
 refine(Rf.out w2 (Sx.out.trans YM.out)).mono ?_;rintro e w3 ⟨h3,k3⟩
 have Xi:=tK (YM.out.trans k3)
 have y0:=Z6.out w3 (YM.out.trans k3)
 clear k3
 rcases h3 with⟨Pf,rv,lv,rfl,PH,Qp⟩|⟨OF,C,hC0,hCw,rfl⟩
 case inr=>rw[<-X8.out]at OF;exact absurd HHY.out.2.2.1 OF
 case inl=>
  rw[HP.out]at PH Qp
  have QH:=tK Pf
  obtain⟨pR,cR,rfl⟩:=PH.shape
  obtain⟨pL,cL,rfl⟩:=ah Qp
  have ogr:=ae.new w3 #[(pR,P.1.length,cR)] 92
  have SZ:=tK (PH.kept0 ((NP.refl [] w3).alloc (.cells #[(pR,P.1.length,cR)] 92)))
  have HLF:=tK (MH Qp (.cells #[(pR,P.1.length,cR)] 92))
  have k4:=Xi.out.alloc (.cells #[(pR,P.1.length,cR)] 92)
  have⟨Ro,HGR⟩:=_f k4 ogr
  have RS:Hid (w1.heap.size<=w3.heap.size):=tK Xi.out.size
  clear Pf PH Qp ogr k4
  go_upto_region 10 with fail
  have adX:Hid (w.heap.size<=w3.heap.size):=tK (Nk Sx.out.size RS.out)
  have aaL:=HGR.out.lt
  generalize WV:w3.heap.size=gr at*
  generalize w3.alloc (.cells #[(pR,P.1.length,cR)] 92)=w4 at*
  have afb:=tK aaL
  clear WV aaL
  have Ur:Hid (∀W,NP [] w4 W->W.cell? w=B/\W.cell? gr=(pR,P.1.length,cR)/\W.cell? (aa B 7)=(v.c.nextBox,())/\W.cell? (aa B 8)=(v.c.nextMan,())/\W.cell? (aa B 9)=some vb/\W.cell? (aa B 10)=some vm/\W.cell? (aa B 11)=some vn):=tK (fun W k=>by
   have⟨a0,_,_,_,_,_,_,a7,a8,a9,a10,a11,_⟩:=(HO.out W ((Sx.out.trans Ro.out).trans k)).ku
   exact⟨Z6.out W (Ro.out.trans k),(k.own HGR.out _b).cell 0 _b,a7,a8,a9,a10,a11⟩)
  clear y0
  have⟨y0,y1,y2,y3,y4,y5,y6⟩:=Ur.out w4 (NP.refl _ _)
  go_cut [9,10]from 37 to 45 (fun v9 v10 wx=>v9=AP.2/\∃gc x2 x3 x4,v10=.pointer (some ⟨gc,0,none⟩)/\w.heap.size<=gc/\ae wx gc #[(AP.1.nextBox,()),(AP.1.nextMan,()),x2,x3,x4] 52/\dE T wx b sb mb (.agg #[(AP.1.nextBox,()),(AP.1.nextMan,()),x2,x3,x4]) AP.1/\NP [] w4 wx)
  case first=>
   refine MK (S:=(fun W=>W.cell? w=B/\W.cell? gr=(pR,P.1.length,cR)/\W.cell? (aa B 7)=(v.c.nextBox,())/\W.cell? (aa B 8)=(v.c.nextMan,())/\W.cell? (aa B 9)=some vb/\W.cell? (aa B 10)=some vm/\W.cell? (aa B 11)=some vn)) _c (by exact Ur.out _ ((NP.refl [] w4).drew)) (fun hHeld=>?_)
   refine tS ?_
   refine wpAnyH_ready (rs:=[5,9]) _c _b ?_
   refine(AllReadyH.cons rfl (fun K hK=>?_) (AllReadyH.cons rfl (fun K hK=>?_) AllReadyH.nil))
   .skip
    go_simp
    ((with_reducible refine(Z3.out _ _ _ _ (((Sx.out.trans Ro.out)).drew) (SZ.out.oI.kept0 ((NP.refl [] w4).drew))).mono ?_));rintro e w5 ⟨vc,rfl,hcat5,k5⟩
    have Sp:NP [] w4 w5:=((NP.refl [] w4).drew).trans k5
    have RJ:dE T w5 b sb mb vc AP.1:=av.Gg hcat5 ((Sx.out.trans Ro.out).trans Sp) HV.out.bH
    obtain⟨vb5,vm5,vn5,rfl,_⟩:=hcat5
    obtain⟨⟨r1,m1,d1,rfl⟩,⟨r2,m2,d2,rfl⟩,⟨r3,m3,d3,rfl⟩⟩:=dE.sw RJ
    have⟨WZ,Ta⟩:=_f RJ Sp
    clear Sp k5 RJ
    go_wp2_with fail
    refine hK.out _ _ (Ur.out _ Ta.out) (fun hHeld=>nM ?_)
    clear hK K
    refine tS ?_
    have oz:=ae.new w5 #[.int .u32 0,.int .u32 0,(),(),()] 52
    have o6:=oz.aV (AP.1.nextBox,()) (AP.1.nextMan,()) (r1,m1,d1) (r2,m2,d2) (r3,m3,d3)
    have k6:NP [] w4 ((((((w5.alloc (.cells #[.int .u32 0,.int .u32 0,(),(),()] 52)).setCell w5 (AP.1.nextBox,())).setCell (aa w5 1) (AP.1.nextMan,())).setCell (aa w5 2) (r1,m1,d1)).setCell (aa w5 3) (r2,m2,d2)).setCell (aa w5 4) (r3,m3,d3)):=((((((Ta.out.alloc _).setCell (p:=w5) (Or.inr Ta.out.size) (AP.1.nextBox,())).setCell (p:=(aa w5 1)) (Or.inr Ta.out.size) (AP.1.nextMan,())).setCell (p:=(aa w5 2)) (Or.inr Ta.out.size) (r1,m1,d1)).setCell (p:=(aa w5 3)) (Or.inr Ta.out.size) (r2,m2,d2)).setCell (p:=(aa w5 4)) (Or.inr Ta.out.size) (r3,m3,d3))
    have k56:NP [] w5 ((((((w5.alloc (.cells #[.int .u32 0,.int .u32 0,(),(),()] 52)).setCell w5 (AP.1.nextBox,())).setCell (aa w5 1) (AP.1.nextMan,())).setCell (aa w5 2) (r1,m1,d1)).setCell (aa w5 3) (r2,m2,d2)).setCell (aa w5 4) (r3,m3,d3)):=(((((((NP.refl [] w5).alloc _).setCell (p:=w5) (Or.inr (MG _)) (AP.1.nextBox,())).setCell (p:=(aa w5 1)) (Or.inr (MG _)) (AP.1.nextMan,())).setCell (p:=(aa w5 2)) (Or.inr (MG _)) (r1,m1,d1)).setCell (p:=(aa w5 3)) (Or.inr (MG _)) (r2,m2,d2)).setCell (p:=(aa w5 4)) (Or.inr (MG _)) (r3,m3,d3))
    have⟨HOZ,aaY⟩:=_f oz k56
    have UN:w.heap.size<=w5.heap.size:=Nk (Sx.out.trans Ro.out).size Ta.out.size
    have HGL:=tK UN
    clear oz k56 UN
    refine rD 9 (fun K hK=>?_)
    go_simp
    refine hK.out _ _ (Ur.out _ (Ta.out.alloc _)) (fun hHeld=>nM ?_)
    clear hK K
    refine rD 10 (fun K hK=>?_)
    refine dz rfl 52 _ _ rfl w5 0 #[(AP.1.nextBox,()),(AP.1.nextMan,()),(r1,m1,d1),(r2,m2,d2),(r3,m3,d3)] _g _g (HOZ.out.there 0 5 _b) _c (NL (cs:=[.int .u32 AP.1.nextBox,.int .u32 AP.1.nextMan,.slice r1 m1 d1,.slice r2 m2 d2,.slice r3 m3 d3]) _l) ?_
    rw[oD]
    clear HOZ
    generalize ((((((w5.alloc (.cells #[.int .u32 0,.int .u32 0,(),(),()] 52)).setCell w5 (AP.1.nextBox,())).setCell (aa w5 1) (AP.1.nextMan,())).setCell (aa w5 2) (r1,m1,d1)).setCell (aa w5 3) (r2,m2,d2)).setCell (aa w5 4) (r3,m3,d3))=w6 at*
    have⟨Vh,Tl⟩:=_f o6 k6
    clear o6 k6
    refine hK.out _ _ (Ur.out _ Tl.out) (fun hHeld=>nM ?_)
    clear hK K
    refine tS ?_
    refine Ng _c ?_ _
    try simp only[List.set_cons_succ,List.set_cons_zero]
    go_wp2_with fail
    go_meet
    exact⟨rfl,_,_,_,_,rfl,HGL.out,Vh.out,WZ.out.kept0 aaY.out (MR HV.out.bH (Nk (Sx.out.trans Ro.out).size Ta.out.size)),Tl.out⟩
   .skip
    have HZ:Hid (ae (w4.alloc (.cells #[.int .u32 0,.int .u32 0,(),(),()] 52)) w4 #[.int .u32 0,.int .u32 0,(),(),()] 52):=tK (ae.new _ _ _)
    go_simp
    refine hK.out _ _ ?_ (fun hHeld=>nM ?_)
    .first|exact Ur.out _ ((NP.refl [] w4).alloc _).drew|exact Ur.out _ ((NP.refl [] w4).drew.alloc _)
    clear hK K
    refine rD 5 (fun K hK=>?_)
    go_simp
    ((with_reducible refine(abW.out _ _ _ _ w4 (by first|exact((Sx.out.trans Ro.out).alloc _).drew|exact((Sx.out.trans Ro.out).drew).alloc _) (Sx.out.trans Ro.out).size _b (by first|exact SZ.out.oI.kept0 (((NP.refl [] w4).alloc _).drew)|exact SZ.out.oI.kept0 (((NP.refl [] w4).drew).alloc _))).mono ?_));rintro e w5 ⟨vc,rfl,hcat5,k5⟩
    have Sp:NP [] w4 w5:=by first|exact(((NP.refl [] w4).alloc _).drew).trans k5|exact(((NP.refl [] w4).drew).alloc _).trans k5
    have oz5:ae w5 w4 #[.int .u32 0,.int .u32 0,(),(),()] 52:=by first|exact k5.own HZ.out.drew _b|exact k5.own (ae.new w4.drew #[.int .u32 0,.int .u32 0,.slice none 0 0,.slice none 0 0,.slice none 0 0] 52) _b
    have RJ:dE T w5 b sb mb vc AP.1:=av.Gg (hcat5.cI (fun x hx=>Or.inl hx)) ((Sx.out.trans Ro.out).trans Sp) HV.out.bH
    have acO:=tK hcat5
    obtain⟨vb5,vm5,vn5,rfl,_⟩:=hcat5
    obtain⟨⟨r1,m1,d1,rfl⟩,⟨r2,m2,d2,rfl⟩,⟨r3,m3,d3,rfl⟩⟩:=dE.sw RJ
    have⟨WZ,Ta,HOZ⟩:=gg! RJ Sp oz5
    clear Sp k5 RJ oz5
    go_wp2_with fail
    refine hK.out _ _ (Ur.out _ Ta.out) (fun hHeld=>nM ?_)
    clear hK K
    refine tS ?_
    have o6:=HOZ.out.aV (AP.1.nextBox,()) (AP.1.nextMan,()) (r1,m1,d1) (r2,m2,d2) (r3,m3,d3)
    have k6:NP [] w4 (((((w5.setCell w4 (AP.1.nextBox,())).setCell (aa w4 1) (AP.1.nextMan,())).setCell (aa w4 2) (r1,m1,d1)).setCell (aa w4 3) (r2,m2,d2)).setCell (aa w4 4) (r3,m3,d3)):=(((((Ta.out.setCell (p:=w4) (Or.inr (MG _)) (AP.1.nextBox,())).setCell (p:=(aa w4 1)) (Or.inr (MG _)) (AP.1.nextMan,())).setCell (p:=(aa w4 2)) (Or.inr (MG _)) (r1,m1,d1)).setCell (p:=(aa w4 3)) (Or.inr (MG _)) (r2,m2,d2)).setCell (p:=(aa w4 4)) (Or.inr (MG _)) (r3,m3,d3))
    have k56:NP [w4.heap.size] w5 (((((w5.setCell w4 (AP.1.nextBox,())).setCell (aa w4 1) (AP.1.nextMan,())).setCell (aa w4 2) (r1,m1,d1)).setCell (aa w4 3) (r2,m2,d2)).setCell (aa w4 4) (r3,m3,d3)):=((((((NP.refl [w4.heap.size] w5).setCell (p:=w4) (Or.inl MY) (AP.1.nextBox,())).setCell (p:=(aa w4 1)) (Or.inl MY) (AP.1.nextMan,())).setCell (p:=(aa w4 2)) (Or.inl MY) (r1,m1,d1)).setCell (p:=(aa w4 3)) (Or.inl MY) (r2,m2,d2)).setCell (p:=(aa w4 4)) (Or.inl MY) (r3,m3,d3))
    have aaY:=tK k56
    clear k56
    refine rD 10 (fun K hK=>?_)
    refine dz rfl 52 _ _ rfl w4 0 #[(AP.1.nextBox,()),(AP.1.nextMan,()),(r1,m1,d1),(r2,m2,d2),(r3,m3,d3)] _g _g (HOZ.out.there 0 5 _b) _c (NL (cs:=[.int .u32 AP.1.nextBox,.int .u32 AP.1.nextMan,.slice r1 m1 d1,.slice r2 m2 d2,.slice r3 m3 d3]) _l) ?_
    rw[oD]
    clear HOZ
    generalize (((((w5.setCell w4 (AP.1.nextBox,())).setCell (aa w4 1) (AP.1.nextMan,())).setCell (aa w4 2) (r1,m1,d1)).setCell (aa w4 3) (r2,m2,d2)).setCell (aa w4 4) (r3,m3,d3))=w6 at*
    have⟨Vh,Tl⟩:=_f o6 k6
    clear o6 k6
    refine hK.out _ _ (Ur.out _ Tl.out) (fun hHeld=>nM ?_)
    clear hK K
    refine tS ?_
    refine Ng _c ?_ _
    try simp only[List.set_cons_succ,List.set_cons_zero]
    have aaF:=acO.out.aS aaY.out (fun x hx=>by
     obtain rfl:x=w4.heap.size:=_h
     exact Or.inr rfl)
    have ac3:Hid (dE T w6 b sb mb (.agg #[(AP.1.nextBox,()),(AP.1.nextMan,()),(r1,m1,d1),(r2,m2,d2),(r3,m3,d3)]) AP.1):=tK (av.Gg (aaF.cI (fun x hx=>Or.inl hx)) ((Sx.out.trans Ro.out).trans Tl.out) HV.out.bH)
    clear aaF
    go_wp2_with fail
    go_meet
    exact⟨rfl,_,_,_,_,rfl,(Sx.out.trans Ro.out).size,Vh.out,ac3.out,Tl.out⟩
  case rest=>
   obtain⟨rfl,gc,x2,x3,x4,rfl,hgcl,hgcat,RJ,Q7⟩:=hcut
   rename World=>w6
   obtain⟨⟨r1,m1,d1,rfl⟩,⟨r2,m2,d2,rfl⟩,⟨r3,m3,d3,rfl⟩⟩:=dE.sw RJ
   have⟨afy,Vh,WZ,Tl⟩:=gh! hgcl hgcat RJ Q7
   clear hgcl hgcat RJ Q7 y0 y1 y2 y3 y4 y5 y6
   have⟨y0,y1,y2,y3,y4,y5,y6⟩:=Ur.out w6 Tl.out
   have Qf:AP.2=0:=by rw[<-SG.out,<-HP.out,<-X8.out];exact HHY.out.2.2.2.1
   have ad6:=tK Qf
   have e0:(AP.2==0)=true:=by rw[Qf];rfl
   clear Qf
   have aa9:=tK (VU.out w6 _ _ _ (SZ.out.oI.kept0 Tl.out))
   unfold mU at aa9
   obtain⟨Vo,hTXO⟩:∃x,Pv P.1=x:=⟨_,rfl⟩
   obtain⟨TXC,hTXC⟩:∃x,cX P.1=x:=⟨_,rfl⟩
   rw[hTXO,hTXC]at aa9
   have⟨abF,aa1⟩:=_f hTXO hTXC
   clear hTXO hTXC
   go_wp2_with fail
   refine aa9.out.mono ?_;rintro e w7 ⟨rfl,k7⟩
   have Un:=tK (Tl.out.trans k7)
   have aaZ:=tK (WZ.out.kept0 k7 (MR HV.out.bH ((Sx.out.trans Ro.out).trans Tl.out).size))
   have abi:=tK (k7.own Vh.out _b)
   clear k7 y0 y1 y2 y3 y4 y5 y6
   have Tt:TXC=0:=by rw[<-aa1.out,<-HP.out,<-X8.out];exact HHY.out.2.2.2.2.1
   subst Tt
   have afm:=aa1
   have WG:(l.length:Int)<=8:=by have:=Q1.out.2.2.2.1;omega
   go_wp2_with fail
   go_loopw [12,13,14,59] (fun sv iv xv kv wr=>IN w w7 gr l sv kv wr) (fun _ _ _ kv _=>l.length-(intOf kv).toNat)
   case atStart=>exact⟨0,[],Nb _,rfl,Nf _ _ _ _,⟨rfl,fun q hq=>by cases hq⟩,NP.refl _ _⟩
   case round=>
    obtain⟨k,qs,hk,rfl,NU,Oo,hK⟩:=hrel
    obtain⟨pS,cS,rfl⟩:=ah NU
    by_cases NV:k<l.length
    .have i1:(k:Int)<l.length:=_a
     obtain⟨bl,ol,rfl,r0,r1,r2,r3,Uq,Oq⟩:=gC.at_ (HL.out.kept0 (((Sx.out.trans Ro.out).trans Un.out).trans hK)) k NV
     have⟨W4,Pm,OY,Of⟩:=gh! hK NU Oo NV
     have hql:=Oo.AG
     have HQL:=tK hql
     have HWS:Hid (w.heap.size<=wr.heap.size):=tK (((Sx.out.trans Ro.out).trans Un.out).trans hK).size
     have HY:Hid (∀W,NP [] wr W->W.cell? w=B):=tK (fun W k=>Z6.out W (((Ro.out.trans Un.out).trans hK).trans k))
     have⟨o1,o2⟩:=ch wr #[(k:Int)] #[.int .i64 (l[k]'NV).kind,.int .u32 (l[k]'NV).id,.string (bs (l[k]'NV).name),.string (bs (l[k]'NV).bytes)] 3 34
     have k2:NP [] wr ((wr.alloc (.cells #[(k:Int)] 3)).alloc (.cells #[.int .i64 (l[k]'NV).kind,.int .u32 (l[k]'NV).id,.string (bs (l[k]'NV).name),.string (bs (l[k]'NV).bytes)] 34)):=((NP.refl _ _).alloc _).alloc _
     have HCO:Hid (∀W,am! 47 #[.int .i64 (l[k]'NV).kind] W fun e w'=>e=.returned (.bool (Oj (l[k]'NV).kind))/\W=w'):=tK (fun W=>wg _ W)
     have adm:Hid (∀W',Oj (l[k]'NV).kind=true->(∀g cs t,ae wr g cs t->(t=3\/t=34)->ae W' g cs t)->ae W' wr #[(k:Int)] 3->ae W' (wr.heap.size+1) #[.int .i64 (l[k]'NV).kind,.int .u32 (l[k]'NV).id,.string (bs (l[k]'NV).name),.string (bs (l[k]'NV).bytes)] 34->eE w W' l (k+1) (qs++[((k,l[k]'NV),(wr.heap.size,wr.heap.size+1))])):=tK (fun W' hb hW oi ox=>Oo.more NV hb HWS.out (by have:=HWS.out;omega) hW oi ox)
     have HKB:Hid (Oj (l[k]'NV).kind=true):=tK (HHY.out.2.2.2.2.2.2 _ (MJ _))
     clear NU Oo hK hk hql Oq
     generalize hX:l[k]'NV=X at*
     clear hX NV
     obtain⟨xk,xi,xn,xb⟩:=X
     simp only at*
     have⟨z0,z1,z2,z3⟩:=o2.c4
     have z4:=o1.cell 0 _b
     simp only[List.getElem_toArray,List.getElem_cons_zero]at z4
     have⟨HO1,HO2,abl⟩:=gg! o1 o2 k2
     clear o1 o2 k2
     go_wp2_with fail
     refine(HCO.out _).mono ?_;rintro e w8 ⟨rfl,rfl⟩
     rw[HKB.out]
     obtain⟨i0,q0,q1,q2,q3⟩:=Dp
     have m3:qs.length+1<=maxLen:=by have:=HQL.out;have:=Of.out;unfold maxLen;omega
     have m4:(qs.length+1)*8<=140737488355328:=by have:=HQL.out;have:=Of.out;omega
     have To:=MH (MH Pm.out (.cells #[(k:Int)] 3)) (.cells #[xk,(xi,()),xn,xb] 34)
     have aaN:=tK To
     clear To
     have Yv:w7.heap.size<=((wr.alloc (.cells #[(k:Int)] 3)).alloc (.cells #[xk,(xi,()),xn,xb] 34)).heap.size:=Nk W4.out.size abl.out.size
     generalize hw9:((wr.alloc (.cells #[(k:Int)] 3)).alloc (.cells #[xk,(xi,()),xn,xb] 34))=w9 at*
     clear hw9
     go_wp2_with (at_builtin;go_must (refine MT _ rfl (.tmp 67) (.tmp 69) 98 rfl w7 42 i0 .nilFunc 1 8 underlying98 q0 q1 q2 q3 rfl _d _ _ _ rfl (MH aaN.out _) w9 1 1 [.func (.func 48) #[] #[w.heap.size,gr,wr.heap.size,↑(wr+1:Nat)]] rfl rfl ?_ ?_ m3 m4 ?_ ?_))
     .exact kL _ _ _
     .intro u hu;simp at hu;subst hu;rfl
     .simp<;>omega
     intro v6 w10 o6 Po _ _
     have RK:=MH aaN.out (.cells #[.func (.func 48) #[] #[w.heap.size,gr,wr.heap.size,↑(wr+1:Nat)]] 42)
     have Xf:NP [] w7 w10:=((W4.out.trans abl.out).alloc _).grown Po (fun q hq=>Or.inr (ML RK q hq).1)
     have hW9:∀g cs t,ae w9 g cs t->(t=3\/t=34)->ae w10 g cs t:=fun g cs t og ht=>(Po.block g (og.alloc _).lt (fun e=>aB RK (og.alloc _) (by rcases ht with rfl|rfl<;>decide) e.symm)).trans (og.alloc _)
     have aax:=adm.out w10 HKB.out (fun g cs t og ht=>hW9 g cs t (abl.out.own og _b) ht) (hW9 _ _ _ HO1.out (Or.inl rfl)) (hW9 _ _ _ HO2.out (Or.inr rfl))
     have⟨acv,XE,abx⟩:=gg! aax Xf o6
     clear RK Xf hW9 aax o6 Po
     go_wp2_with fail
     go_roundw
     case rel=>exact⟨k+1,_,Of.out,_j,by rw[tN,M0,M0,List.map_map];exact abx.out,acv.out,XE.out⟩
     case measure=>(have hh:=Of.out;simp[intOf]<;>omega)
    .obtain rfl:k=l.length:=_a
     have i1:¬((l.length:Nat):Int)<l.length:=_a
     have⟨W4,Pm,HQL⟩:=gg! hK NU Oo.AG
     have aeq:Hid (∀W,NP [] w7 W->eE w W l l.length qs->dW T w W B b sb mb lo w gr v l P.1 qs):=tK (fun W k hs=>⟨HV.out,((Sx.out.trans Ro.out).trans Un.out).trans k,⟨MG _,((Ro.out.trans Un.out).trans k).own HGV.out _b⟩,⟨_,adX.out,(Un.out.trans k).own HGR.out _b,(SZ.out.base (Sx.out.trans YM.out).size).kept0 (Un.out.trans k)⟩,hs,acY.out,Ux.out,by have:=Q1.out.2.2.2.1;omega,fun x hx=>(HFT.out x hx).2.2.2⟩)
     have OY:=tK Oo
     have abv:∀W,NP [] w7 W->W.cell? w=B/\W.cell? B=b/\W.cell? (aa B 3)=v.s.journal/\W.cell? (aa B 4)=v.s.used/\W.cell? gc=(AP.1.nextBox,())/\W.cell? (aa gc 1)=(AP.1.nextMan,())/\W.cell? (aa gc 2)=(r1,m1,d1)/\W.cell? (aa gc 3)=(r2,m2,d2)/\W.cell? (aa gc 4)=(r3,m3,d3):=fun W k=>by
      have⟨a0,_,_,a3,a4,_⟩:=(HO.out W (((Sx.out.trans Ro.out).trans Un.out).trans k)).ku
      have⟨e0,e1,e2,e3,e4⟩:=(k.own abi.out _b).k5
      exact⟨Z6.out W ((Ro.out.trans Un.out).trans k),a0,a3,a4,e0,e1,e2,e3,e4⟩
     have XA:=tK abv
     have⟨y0,y1,y2,y3,y4,y5,y6,y7,y8⟩:=abv wr W4.out
     have hj1:1<=v.s.journal:=x!
     have ZO:v.s.journal<=30:=Q1.out.2.2.2.2.2
     have hu1:0<=v.s.used:=x!
     have hu2:v.s.used<=v.s.journal*128:=x!
     have PW:(bs Vo).size=Vo.length:=NQ Vo
     clear hK NU Oo abv
     go_upto_region 23 with fail
     refine MK (S:=(fun W=>W.cell? w=B/\W.cell? B=b/\W.cell? (aa B 3)=v.s.journal/\W.cell? (aa B 4)=v.s.used/\W.cell? gc=(AP.1.nextBox,())/\W.cell? (aa gc 1)=(AP.1.nextMan,())/\W.cell? (aa gc 2)=(r1,m1,d1)/\W.cell? (aa gc 3)=(r2,m2,d2)/\W.cell? (aa gc 4)=(r3,m3,d3))) _c (by exact XA.out _ (W4.out.drew)) (fun hHeld=>?_)
     refine tS ?_
     refine Ng _c ?_ _
     try simp only[List.set_cons_succ,List.set_cons_zero]
     have kd:NP [] w7 wr.drew:=W4.out.drew
     have QQ:wr.drew.ownsRow w7 42 1 (pS,qs.length,cS) qs.length ((qs.map (oT w gr)).map zN):=ax Pm.out ((NP.refl [] wr).drew) (fun x hx=>by cases hx)
     have hsd:eE w wr.drew l l.length qs:=OY.out.kept ((NP.refl [] wr).drew)
     have aay:v.s.seq<=1000000:=by have:=Q1.out.2.2.2.2.1;omega
     generalize wr.drew=wd at*
     have⟨ZQ,TC,HSD,HQ9⟩:=gh! kd QQ hsd aay
     clear kd QQ hsd aay Pm OY y0 y1 y2 y3 y4 y5 y6 y7 y8 hHeld
     have⟨y0,y1,y2,y3,y4,y5,y6,y7,y8⟩:=XA.out wd ZQ.out
     have aeF:Hid (IntKind.i64.wrap (IntKind.i64.wrap (v.s.journal*128)-v.s.used)=v.s.journal*128-v.s.used):=tK (by rw[IntWalk.i64_in (v.s.journal*128) _a,IntWalk.i64_in _ _a])
     have h5:(Vo.length:Int)<=v.s.journal*128-v.s.used:=by rw[<-abF.out,<-HP.out,<-X8.out];exact HHY.out.2.2.2.2.2.1
     have HX:=tK (ur (l:=l) HD.out HWX.out (by rw[X8.out];exact QH.out) (by rw[X8.out,HP.out,SG.out];exact ad6.out) (by rw[X8.out,HP.out];exact aa1.out) (by rw[X8.out,HP.out,abF.out];exact h5))
     rw[X8.out,HP.out,SG.out,abF.out]at HX
     have HAF:Hid (∀W,am! 50 #[B,.agg #[(AP.1.nextBox,()),(AP.1.nextMan,()),(r1,m1,d1),(r2,m2,d2),(r3,m3,d3)],Vo] W fun e w'=>e=.returned (.func (.func 107) #[] #[.pointer (some ⟨W.heap.size,0,none⟩),.pointer (some ⟨W.heap.size+2,0,none⟩),.pointer (some ⟨W.heap.size+1,0,none⟩)])/\((W.alloc (.cells #[B] 27)).alloc (.cells #[(AP.1.nextBox,()),(AP.1.nextMan,()),(r1,m1,d1),(r2,m2,d2),(r3,m3,d3)] 52)).alloc (.cells #[Vo] 9)=w'):=tK (fun W=>Ec B _ _ _ _ _ Vo W)
     have HTL:Hid (Vo.length<=4000):=tK _a
     have h5w:(Vo.length:Int)<=IntKind.i64.wrap (IntKind.i64.wrap (v.s.journal*128)-v.s.used):=by rw[aeF.out];exact h5
     have afz:=tK PW
     clear hj1 ZO hu1 hu2 PW
     go_upto_region 24 with fail
     clear h5w
     refine MK (S:=(fun W=>W.cell? w=B/\W.cell? B=b/\W.cell? (aa B 3)=v.s.journal/\W.cell? (aa B 4)=v.s.used/\W.cell? gc=(AP.1.nextBox,())/\W.cell? (aa gc 1)=(AP.1.nextMan,())/\W.cell? (aa gc 2)=(r1,m1,d1)/\W.cell? (aa gc 3)=(r2,m2,d2)/\W.cell? (aa gc 4)=(r3,m3,d3))) _c (by exact XA.out _ (ZQ.out.drew)) (fun hHeld=>?_)
     refine tS ?_
     refine rD 9 (fun K hK=>?_)
     go_simp
     ((with_reducible refine(HAF.out _).mono ?_));rintro e w8 ⟨rfl,rfl⟩
     go_wp2_with fail
     refine hK.out _ _ (XA.out _ ((((ZQ.out.alloc _).alloc _).alloc _).drew)) (fun hHeld=>nM ?_)
     clear hK K
     refine rD 10 (fun K hK=>?_)
     go_simp
     refine hK.out _ _ (XA.out _ (((((ZQ.out.alloc _).alloc _).alloc _).alloc _).drew)) (fun hHeld=>nM ?_)
     clear hK K
     have⟨o1,o2,o3,o4⟩:=nD wd #[B] #[(AP.1.nextBox,()),(AP.1.nextMan,()),(r1,m1,d1),(r2,m2,d2),(r3,m3,d3)] #[Vo] #[.func (.func 39) #[b] #[],.func (.func 107) #[] #[wd.heap.size,↑(wd+2:Nat),↑(wd+1:Nat)]] 27 52 9 42
     have UV:((((wd.alloc (.cells #[B] 27)).alloc (.cells #[(AP.1.nextBox,()),(AP.1.nextMan,()),(r1,m1,d1),(r2,m2,d2),(r3,m3,d3)] 52)).alloc (.cells #[Vo] 9)).alloc (.cells #[.func (.func 39) #[b] #[],.func (.func 107) #[] #[wd.heap.size,↑(wd+2:Nat),↑(wd+1:Nat)]] 42)).drew.ownsRow w7 42 1 (pS,qs.length,cS) qs.length ((qs.map (oT w gr)).map zN):=ax TC.out ((((((NP.refl [] wd).alloc _).alloc _).alloc _).alloc _).drew) (fun x hx=>by cases hx)
     have k10:NP [] wd ((((wd.alloc (.cells #[B] 27)).alloc (.cells #[(AP.1.nextBox,()),(AP.1.nextMan,()),(r1,m1,d1),(r2,m2,d2),(r3,m3,d3)] 52)).alloc (.cells #[Vo] 9)).alloc (.cells #[.func (.func 39) #[b] #[],.func (.func 107) #[] #[wd.heap.size,↑(wd+2:Nat),↑(wd+1:Nat)]] 42)).drew:=(((((NP.refl [] wd).alloc _).alloc _).alloc _).alloc _).drew
     have o1d:=o1.drew
     have o2d:=o2.drew
     have o3d:=o3.drew
     have o4d:=o4.drew
     clear o1 o2 o3 o4
     generalize ((((wd.alloc (.cells #[B] 27)).alloc (.cells #[(AP.1.nextBox,()),(AP.1.nextMan,()),(r1,m1,d1),(r2,m2,d2),(r3,m3,d3)] 52)).alloc (.cells #[Vo] 9)).alloc (.cells #[.func (.func 39) #[b] #[],.func (.func 107) #[] #[wd.heap.size,↑(wd+2:Nat),↑(wd+1:Nat)]] 42)).drew=w10 at*
     obtain⟨i0,q0,q1,q2,q3⟩:=Dp
     have Rk:w7.heap.size<=w10.heap.size:=Nk ZQ.out.size k10.size
     have⟨v5,w11,Oe,hrow11,WV,_,_⟩:=run_append_own_at (P:=prog) w10 w7 98 98 42 i0 .nilFunc 1 8 underlying98 q0 q1 q2 q3 rfl _d _ qs.length _ UV (aa (wd+3) 0) 2 2 [.func (.func 39) #[b] #[],.func (.func 107) #[] #[wd.heap.size,↑(wd+2:Nat),↑(wd+1:Nat)]] rfl (Fk o4d) _v (by have:=HQL.out;have:=Q1.out.2.2.2.1;unfold maxLen;omega) (by have:=HQL.out;have:=Q1.out.2.2.2.1;omega) Rk
     have Xh:∀g cs t,ae w10 g cs t->42≠t->ae w11 g cs t:=fun g cs t og Pb=>(WV.block g og.lt (fun e=>aB UV og Pb e.symm)).trans og
     have Xl:NP [] w7 w11:=(ZQ.out.trans k10).grown WV (fun q hq=>Or.inr (ML UV q hq).1)
     have aaQ:eE w w11 l l.length qs:=⟨HSD.out.idx,fun q hq=>by
      have⟨a1,a2,a3,a4⟩:=HSD.out.own q hq
      exact⟨a1,a2,Xh _ _ _ (k10.own a3 _b) _d,Xh _ _ _ (k10.own a4 _b) _d⟩⟩
     have Yv:w.heap.size<=wd.heap.size:=(((Sx.out.trans Ro.out).trans Un.out).trans ZQ.out).size
     have Zw:=aaZ.out.kept0 Xl (MR HV.out.bH ((Sx.out.trans Ro.out).trans Un.out).size)
     have Zn:NP [] w w11:=((Sx.out.trans Ro.out).trans Un.out).trans Xl
     obtain⟨p5,c5,rfl⟩:=ah hrow11
     have P8:Hid (∀W,NP [] w11 W->am! 37 #[(p5,qs.length+2,c5)] W fun e w'=>e=.returned (.int .i64 (OH (gP l P.1++[aZ aA,bg AP.1 Vo]) v).2)/\aL T w' B b sb mb lo (OH (gP l P.1++[aZ aA,bg AP.1 Vo]) v).1/\PK [B] b sb mb W w'):=tK (fun W k=>Ky (aeq.out W (Xl.trans k) (aaQ.kept k)) AP.1 _ _ _ Vo wd (wd.heap.size+2) (wd.heap.size+1) _ (aF (ax hrow11 k (fun x hx=>by cases hx)) ((Sx.out.trans Ro.out).trans Un.out).size) Yv _a _a (k.own (Xh _ _ _ o1d _d) _b) (k.own (Xh _ _ _ o3d _d) _b) (k.own (Xh _ _ _ o2d _d) _b) (Zw.kept0 k (MR HV.out.bH Zn.size)) HM.out HQ9.out HTL.out Q1.out.1 Q1.out.2.1 Q1.out.2.2.1 HV.out.da.len.1 Q1.out.2.2.2.1)
     have⟨Ra,ad7,aeV⟩:=gg! Oe Xl Zn
     have WS:Hid (∀W,PK [B] b sb mb w11 W->W.cell? w=B):=tK (fun W k=>(k.own (((Ro.out.trans Un.out).trans Xl).own HGV.out _b) ((HV.out.da.bU HV.out.hT Zn (MG _)).Jf HV.out.hB)).cell 0 _b)
     have acf:Hid (b<w11.heap.size):=tK (MR HV.out.bH Zn.size)
     clear Oe hrow11 WV Xh Xl aaQ Yv Zw Zn UV k10 Rk o1d o2d o3d o4d
     refine rD 11 (fun K hK=>?_)
     refine aO rfl _ _ 98 98 rfl _ _ _g _g Ra.out ?_
     refine hK.out _ _ (XA.out _ ad7.out) (fun hHeld=>nM ?_)
     clear hK K
     refine tS ?_
     refine Ng _c ?_ _
     try simp only[List.set_cons_succ,List.set_cons_zero]
     clear y0 y1 y2 y3 y4 y5 y6 y7 y8
     generalize OH (gP l P.1++[aZ aA,bg AP.1 Vo]) v=CH at*
     have y0:=WS.out w11 (PK.refl _ _ _ _ _)
     go_upto_region 25 with fail
     refine MK (S:=(fun W=>W.cell? w=B)) _c (by exact WS.out _ ((NP.refl [] w11).drew.eH acf.out)) (fun hHeld=>?_)
     refine tS ?_
     refine rD 2 (fun K hK=>?_)
     go_simp
     ((with_reducible refine(P8.out _ ((NP.refl [] w11).drew)).mono ?_));rintro e w12 ⟨rfl,hV12,Wb⟩
     have ac2:=((NP.refl [] w11).drew.eH (T:=[B]) (sb:=sb) (mb:=mb) acf.out).trans Wb
     have⟨K12,ac6⟩:=_f ac2 hV12
     have abS:Hid (∀W,NP [] w12 W->am! 51 #[B,CH.2] W fun e w'=>e=CH.2/\aL T w' B b sb mb lo (Qk CH).1/\NP [B] W w'):=tK (fun W k=>I5 (hV12.aJ k) CH.2)
     clear ac2 Wb hV12
     go_wp2_with fail
     refine hK.out _ _ (WS.out _ K12.out) (fun hHeld=>nM ?_)
     clear hK K
     refine rD 3 (fun K hK=>?_)
     go_simp
     ((with_reducible refine(abS.out _ (by first|exact NP.refl _ _|exact(NP.refl _ _).drew)).mono ?_));rintro e w13 ⟨rfl,hV13,k13⟩
     have aek:=tK hV13
     have K13:Hid (PK [B] b sb mb w11 w13):=tK (K12.out.trans (by first|exact ac6.out.tW k13|exact ac6.out.tW ((NP.refl [B] w12).drew.trans k13)))
     clear k13 hV13
     go_wp2_with fail
     refine hK.out _ _ (WS.out _ K13.out) (fun hHeld=>nM ?_)
     clear hK K
     refine tS ?_
     refine Ng _c ?_ _
     try simp only[List.set_cons_succ,List.set_cons_zero]
     go_wp2_with fail
     go_ret
     rw[HX.out]
     exact⟨rfl,aek.out,(aeV.out.eH HV.out.bH).trans K13.out⟩

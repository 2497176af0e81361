/- -/
import Derived.Test.YtdkimcnlhmhpgaaGreatM29
set_option maxHeartbeats 32000000
set_option maxRecDepth 100000
namespace Go.Proofs.YtdkimcnlhmhpgaaGreat
open Go.Proofs.Tryz Go.RowKit
variable {S:Nat->Prop} {c c':au} {r:ag} {v:Value} {w w':World} {kk next:Int} {l:List NS} {k:Nat}
def jF (S:Nat->Prop) (c:au) (r:ag) (w:World) (e:Ending) (w':World):Prop:=
 ∃v c',e=.returned (.tuple #[v,(if az r=true then(aW c r).2 else 1:Int)])/\av S w' v c'/\(az r=true->(aW c r).2=0->c'=(aW c r).1)/\NP [] w w'
theorem gn {c1:au} {C:Int} (hm:az r=true) (Pp:aW c r=(c1,C)) (h:av S w' v c') (hc:C=0->c'=c1) (k:NP [] w w'):jF S c r w (.returned (.tuple #[v,C])) w':=
 ⟨v,c',by rw[if_pos hm,Pp],h,fun _ h0=>by rw[Pp]at h0 ⊢;exact hc h0,k⟩
theorem Cx (hm:az r=false) (h:av S w' v c') (k:NP [] w w'):jF S c r w (.returned (.tuple #[v,(1:Int)])) w':=
 ⟨v,c',by rw[if_neg (by rw[hm];decide)],h,(fun h1=>absurd h1 (by rw[hm];decide)),k⟩
theorem M11 {A:Prop}(h:A:=by
 rw[hk]at y0 Uk HC
 clear hk hLL Ud hLI UZ
 go_wp2_with fail
 refine(HC.out _ K3.out RS.out).mono ?_;rintro e w4 ⟨v4,rfl,h4,k4⟩
 have H4:=tK h4
 have K4:=tK (K3.out.trans k4)
 obtain⟨p4,c4,rfl⟩:=h4.plain.shape
 have Sh:=tK (k4.own Uh.out _b)
 have UO:=tK (k4.own Uk.out _b)
 have Q5:=tK (k4.own XJ.out _b)
 have⟨x0,x1,x2,x3,x4⟩:=Sh.out.k5
 have⟨y0,y1,y2,y3,y4⟩:=UO.out.k5
 have⟨z0,z1,z2,z3,z4⟩:=Q5.out.k5
 have⟨f0,f1,f2,f3,f4⟩:=Sh.out.y5
 have⟨g0,g1,g2,g3,g4⟩:=Q5.out.y5
 clear h4 k4
 go_wp2_with fail
 have Pb:w.heap.size+2≠w.heap.size:=_a
 have oF:=ae.aV (Q5.out.other (p:=(aa w 4)) Pb (p4,LR.length,c4)) (c.nextBox,()) (c.nextMan,()) (p1,c.boxes.length,c1) (p2,c.mans.length,c2) (p4,LR.length,c4)
 have kF:NP [] w ((((((w4.setCell (aa w 4) (p4,LR.length,c4)).setCell (aa (w+2) 0) (c.nextBox,())).setCell (aa (w+2) 1) (c.nextMan,())).setCell (aa (w+2) 2) (p1,c.boxes.length,c1)).setCell (aa (w+2) 3) (p2,c.mans.length,c2)).setCell (aa (w+2) 4) (p4,LR.length,c4)):=NP.ay (K4.out.setCell (p:=(aa w 4)) (Or.inr (MG _)) (p4,LR.length,c4)) (Or.inr _a) _ _ _ _ _
 have kT:NP [w.heap.size,w.heap.size+2] w4 ((((((w4.setCell (aa w 4) (p4,LR.length,c4)).setCell (aa (w+2) 0) (c.nextBox,())).setCell (aa (w+2) 1) (c.nextMan,())).setCell (aa (w+2) 2) (p1,c.boxes.length,c1)).setCell (aa (w+2) 3) (p2,c.mans.length,c2)).setCell (aa (w+2) 4) (p4,LR.length,c4)):=NP.ay ((NP.refl _ _).setCell (p:=(aa w 4)) (Or.inl _b) (p4,LR.length,c4)) (Or.inl _b) _ _ _ _ _
 have h5:=(H4.out.aS kT (fun x hx=>by simp at hx;rcases hx with rfl|rfl;exact Or.inr (Or.inl rfl);exact Or.inr (Or.inr rfl))).weaken (T:=S0) (fun x hx=>Or.inl hx)
 refine MN (v:=.tuple #[.agg #[(c.nextBox,()),(c.nextMan,()),(p1,c.boxes.length,c1),(p2,c.mans.length,c2),(p4,LR.length,c4)],LC]) (aj results207 rfl rfl (t:=52) ?_ underlying52 rfl _c) rfl ?_
 .exact oF
 .exact gn VX.out Qt.out (c':={c with names:=LR}) ⟨_,_,_,rfl,HB.out _ kF,HM.out _ kF,h5,V3.out,XC.out⟩ (fun h0=>by rw[VJ.out h0]) kF):A:=h
theorem GF {S0:Nat->Prop} (v:Value) (c:au) (r:ag) (rv:Value) (w:World) (h:av S0 w v c) (Q6:∀x,S0 x->x<w.heap.size) (Pz:OL c) (Qh:af w rv r.runs 0 w) (hf:r.fits) (Pj:∀a∈r.runs,aQ a) (P3:r.runs.length<=1000000):
  am! 207 #[v,.agg (r.cells rv)] w (jF S0 c r w):=by
 have Ya:Hid (∀W,NP [] w W->am! 252 #[.agg (r.cells rv)] W (qd (az r) W)):=tK (fun W q=>AF r rv _ _ W (Qh.kept0 q) P3 hf)
 obtain⟨vb,vm,vn,rfl,hb,hm,hn,Rp,Te⟩:=h
 have HB:=tK (fun W (q:NP [] w W)=>hb.kept0 q)
 have HM:=tK (fun W (q:NP [] w W)=>hm.kept0 q)
 have HN:=tK (fun W (q:NP [] w W)=>hn.kept0 q)
 obtain⟨p1,c1,rfl⟩:=hb.plain.shape
 obtain⟨p2,c2,rfl⟩:=hm.plain.shape
 obtain⟨p3,c3,rfl⟩:=hn.plain.shape
 obtain⟨pr,cr,rfl⟩:=Qh.shape
 unfold ag.cells qd at Ya
 unfold ag.cells
 have⟨V3,XC⟩:=_f Rp Te
 have⟨oA,oB,oC⟩:=nA w #[(c.nextBox,()),(c.nextMan,()),(p1,c.boxes.length,c1),(p2,c.mans.length,c2),(p3,c.names.length,c3)] #[r.kind,(r.id,()),r.name,r.size,(pr,r.runs.length,cr)] #[.int .u32 0,.int .u32 0,(),(),()] 52 102 52
 have k0:NP [] w (((w.alloc (.cells #[(c.nextBox,()),(c.nextMan,()),(p1,c.boxes.length,c1),(p2,c.mans.length,c2),(p3,c.names.length,c3)] 52)).alloc (.cells #[r.kind,(r.id,()),r.name,r.size,(pr,r.runs.length,cr)] 102)).alloc (.cells #[.int .u32 0,.int .u32 0,(),(),()] 52)):=(((NP.refl _ _).alloc _).alloc _).alloc _
 cases VA:az r
 .have VX:=tK VA
  have⟨OA,OB,OC,K0⟩:=gh! oA oB oC k0
  rw[VX.out]at Ya
  clear oA oB oC k0 hb hm hn Qh hf Pj VA Pz Rp Te P3
  go_enter func207,ntmps207
  go_wp2_with fail
  refine(Ya.out _ K0.out).mono ?_;rintro e w3 ⟨rfl,k3⟩
  have K3:=tK (K0.out.trans k3)
  have Uh:=tK (k3.own OA.out _b)
  have Uk:=tK (k3.own OB.out _b)
  have XJ:=tK (k3.own OC.out _b)
  have RS:Hid (w.heap.size+3<=w3.heap.size):=tK (by have:=k3.size;simp at this;omega)
  have⟨x0,x1,x2,x3,x4⟩:=Uh.out.k5
  have⟨y0,y1,y2,y3,y4⟩:=Uk.out.k5
  have⟨g0,g1,g2,g3,g4⟩:=XJ.out.y5
  have⟨z0,z1,z2,z3,z4⟩:=XJ.out.k5
  go_wp2_with fail
  have Pb:w.heap.size+2≠w.heap.size:=_a
  have oF:=ae.aV XJ.out (c.nextBox,()) (c.nextMan,()) (p1,c.boxes.length,c1) (p2,c.mans.length,c2) (p3,c.names.length,c3)
  have kF:NP [] w (((((w3.setCell (aa (w+2) 0) (c.nextBox,())).setCell (aa (w+2) 1) (c.nextMan,())).setCell (aa (w+2) 2) (p1,c.boxes.length,c1)).setCell (aa (w+2) 3) (p2,c.mans.length,c2)).setCell (aa (w+2) 4) (p3,c.names.length,c3)):=NP.ay K3.out (Or.inr _a) _ _ _ _ _
  have kT:NP [w.heap.size,w.heap.size+2] w3 (((((w3.setCell (aa (w+2) 0) (c.nextBox,())).setCell (aa (w+2) 1) (c.nextMan,())).setCell (aa (w+2) 2) (p1,c.boxes.length,c1)).setCell (aa (w+2) 3) (p2,c.mans.length,c2)).setCell (aa (w+2) 4) (p3,c.names.length,c3)):=NP.ay (NP.refl _ _) (Or.inl _b) _ _ _ _ _
  refine MN (v:=.tuple #[.agg #[(c.nextBox,()),(c.nextMan,()),(p1,c.boxes.length,c1),(p2,c.mans.length,c2),(p3,c.names.length,c3)],(1:Int)]) (aj results207 rfl rfl (t:=52) ?_ underlying52 rfl _c) rfl ?_
  .exact oF
  .exact Cx VX.out ⟨_,_,_,rfl,HB.out _ kF,HM.out _ kF,HN.out _ kF,V3.out,XC.out⟩ kF
 have VX:=tK VA
 have hid:=xw VA
 have Xz:0<=r.id:=(eG hf.2.1).1
 have abe:=(eG Rp)
 have aaT:=(eG Te)
 have HID:Hid (0<=r.id/\r.id<=4294967294):=tK ⟨Xz,hid⟩
 have ZE:Hid ((Lit.int .u32 (r.id+1)).wf=true):=tK (tF _a _a)
 have HWR:Hid (IntKind.u32.wrap (r.id+1)=r.id+1):=tK (lW _a _a)
 have P8:=tK (And.intro hb (And.intro hm (And.intro hn (And.intro Qh (And.intro hf (And.intro Pj (And.intro P3 (And.intro Pz Q6))))))))
 clear hid Xz abe aaT Q6
 have⟨OA,OB,OC,K0⟩:=gh! oA oB oC k0
 rw[VX.out]at Ya
 clear oA oB oC k0 hb hm hn Qh hf Pj VA Pz Rp Te P3
 go_enter func207,ntmps207
 go_wp2_with fail
 refine(Ya.out _ K0.out).mono ?_;rintro e w3 ⟨rfl,k3⟩
 have K3:=tK (K0.out.trans k3)
 have Uh:=tK (k3.own OA.out _b)
 have Uk:=tK (k3.own OB.out _b)
 have XJ:=tK (k3.own OC.out _b)
 have RS:Hid (w.heap.size+3<=w3.heap.size):=tK (by have:=k3.size;simp at this;omega)
 have⟨x0,x1,x2,x3,x4⟩:=Uh.out.k5
 have⟨y0,y1,y2,y3,y4⟩:=Uk.out.k5
 rcases nI VX.out with hk|hk|hk|hk|hk|hk
 .skip
  obtain⟨LL,hLL⟩:∃L,Oc c.boxes r.item c.nextBox 2048 false=L:=⟨_,rfl⟩
  obtain⟨LI,LC⟩:=LL
  have Qt:Hid (aW c r=({c with boxes:=LI,nextBox:=r.id+1},LC)):=tK (by
   unfold aW
   rw[if_pos hk,hLL])
  have UZ:Hid (∃LR,(if LC=0 then LI else c.boxes)=LR/\(LC=0->LI=LR)):=tK ⟨_,rfl,fun h=>by rw[if_pos h]⟩
  have⟨LR,Ud,hLI⟩:=UZ.out
  have VJ:=tK hLI
  have HC:Hid (∀W,NP [] w W->w.heap.size+3<=W.heap.size->am! 258 #[(p1,c.boxes.length,c1),.agg #[r.kind,(r.id,()),r.name,r.size,(pr,r.runs.length,cr)],(c.nextBox,()),(2048:Int)] W fun e w'=>∃v,e=.returned (.tuple #[v,LC])/\aq (fun x=>S0 x\/(x=w.heap.size\/x=w.heap.size+2)) w' v LR/\NP [] W w'):=tK (fun W q PW=>by
   have⟨hb,hm,hn,Qh,hf,Pj,P3,Pz,Q6⟩:=P8.out
   have T6:∀x,(S0 x\/(x=w.heap.size\/x=w.heap.size+2))->x<W.heap.size:=fun x hx=>by
    rcases hx with hx|hx
    .have:=Q6 x hx;omega
    .omega
   have hh:=wY _ _ r _ c.nextBox 2048 W ((hb.more (fun x hx=>by omega)).kept0 q) T6 v! Pz.boxes.2.2 (Qh.kept0 q).upto hf Pj P3 _d _a (fun h3=>by first|rfl|omega)
   rw[show decide (r.kind=2)=false by rw[hk];rfl,hLL]at hh
   unfold ag.cells jm at hh
   simp only at hh
   rw[Ud]at hh
   exact hh)
  rw[hk]at y0 Uk HC
  clear hk hLL Ud hLI UZ
  go_wp2_with fail
  refine(HC.out _ K3.out RS.out).mono ?_;rintro e w4 ⟨v4,rfl,h4,k4⟩
  have H4:=tK h4
  have K4:=tK (K3.out.trans k4)
  obtain⟨p4,c4,rfl⟩:=h4.plain.shape
  have Sh:=tK (k4.own Uh.out _b)
  have UO:=tK (k4.own Uk.out _b)
  have Q5:=tK (k4.own XJ.out _b)
  have⟨x0,x1,x2,x3,x4⟩:=Sh.out.k5
  have⟨y0,y1,y2,y3,y4⟩:=UO.out.k5
  have⟨z0,z1,z2,z3,z4⟩:=Q5.out.k5
  have⟨f0,f1,f2,f3,f4⟩:=Sh.out.y5
  have⟨g0,g1,g2,g3,g4⟩:=Q5.out.y5
  clear h4 k4
  by_cases hc:LC=0
  .subst hc
   have SU:=HWR.out
   go_wp2_with fail
   have Pb:w.heap.size+2≠w.heap.size:=_a
   have oF:=ae.aV ((Q5.out.other (p:=(aa w 2)) Pb (p4,LR.length,c4)).other (p:=w) Pb (.int .u32 (r.id+1))) (.int .u32 (r.id+1)) (c.nextMan,()) (p4,LR.length,c4) (p2,c.mans.length,c2) (p3,c.names.length,c3)
   have kF:NP [] w (((((((w4.setCell (aa w 2) (p4,LR.length,c4)).setCell w (.int .u32 (r.id+1))).setCell (aa (w+2) 0) (.int .u32 (r.id+1))).setCell (aa (w+2) 1) (c.nextMan,())).setCell (aa (w+2) 2) (p4,LR.length,c4)).setCell (aa (w+2) 3) (p2,c.mans.length,c2)).setCell (aa (w+2) 4) (p3,c.names.length,c3)):=NP.ay ((K4.out.setCell (p:=(aa w 2)) (Or.inr (MG _)) (p4,LR.length,c4)).setCell (p:=w) (Or.inr (MG _)) (.int .u32 (r.id+1))) (Or.inr _a) _ _ _ _ _
   have kT:NP [w.heap.size,w.heap.size+2] w4 (((((((w4.setCell (aa w 2) (p4,LR.length,c4)).setCell w (.int .u32 (r.id+1))).setCell (aa (w+2) 0) (.int .u32 (r.id+1))).setCell (aa (w+2) 1) (c.nextMan,())).setCell (aa (w+2) 2) (p4,LR.length,c4)).setCell (aa (w+2) 3) (p2,c.mans.length,c2)).setCell (aa (w+2) 4) (p3,c.names.length,c3)):=NP.ay (((NP.refl _ _).setCell (p:=(aa w 2)) (Or.inl _b) (p4,LR.length,c4)).setCell (p:=w) (Or.inl _b) (.int .u32 (r.id+1))) (Or.inl _b) _ _ _ _ _
   have h5:=(H4.out.aS kT (fun x hx=>by simp at hx;rcases hx with rfl|rfl;exact Or.inr (Or.inl rfl);exact Or.inr (Or.inr rfl))).weaken (T:=S0) (fun x hx=>Or.inl hx)
   refine MN (v:=.tuple #[.agg #[(.int .u32 (r.id+1)),(c.nextMan,()),(p4,LR.length,c4),(p2,c.mans.length,c2),(p3,c.names.length,c3)],(0:Int)]) (aj results207 rfl rfl (t:=52) ?_ underlying52 rfl _c) rfl ?_
   .exact oF
   .exact gn VX.out Qt.out (c':={c with boxes:=LR,nextBox:=r.id+1}) ⟨_,_,_,rfl,h5,HM.out _ kF,HN.out _ kF,ZE.out,XC.out⟩ (fun _=>by rw[VJ.out _b]) kF
  .have hcf:(LC==0)=false:=by simpa using hc
   have HNC:=tK hc
   clear hc
   go_wp2_with fail
   have Pb:w.heap.size+2≠w.heap.size:=_a
   have oF:=ae.aV (Q5.out.other (p:=(aa w 2)) Pb (p4,LR.length,c4)) (c.nextBox,()) (c.nextMan,()) (p4,LR.length,c4) (p2,c.mans.length,c2) (p3,c.names.length,c3)
   have kF:NP [] w ((((((w4.setCell (aa w 2) (p4,LR.length,c4)).setCell (aa (w+2) 0) (c.nextBox,())).setCell (aa (w+2) 1) (c.nextMan,())).setCell (aa (w+2) 2) (p4,LR.length,c4)).setCell (aa (w+2) 3) (p2,c.mans.length,c2)).setCell (aa (w+2) 4) (p3,c.names.length,c3)):=NP.ay (K4.out.setCell (p:=(aa w 2)) (Or.inr (MG _)) (p4,LR.length,c4)) (Or.inr _a) _ _ _ _ _
   have kT:NP [w.heap.size,w.heap.size+2] w4 ((((((w4.setCell (aa w 2) (p4,LR.length,c4)).setCell (aa (w+2) 0) (c.nextBox,())).setCell (aa (w+2) 1) (c.nextMan,())).setCell (aa (w+2) 2) (p4,LR.length,c4)).setCell (aa (w+2) 3) (p2,c.mans.length,c2)).setCell (aa (w+2) 4) (p3,c.names.length,c3)):=NP.ay ((NP.refl _ _).setCell (p:=(aa w 2)) (Or.inl _b) (p4,LR.length,c4)) (Or.inl _b) _ _ _ _ _
   have h5:=(H4.out.aS kT (fun x hx=>by simp at hx;rcases hx with rfl|rfl;exact Or.inr (Or.inl rfl);exact Or.inr (Or.inr rfl))).weaken (T:=S0) (fun x hx=>Or.inl hx)
   refine MN (v:=.tuple #[.agg #[(c.nextBox,()),(c.nextMan,()),(p4,LR.length,c4),(p2,c.mans.length,c2),(p3,c.names.length,c3)],LC]) (aj results207 rfl rfl (t:=52) ?_ underlying52 rfl _c) rfl ?_
   .exact oF
   .exact gn VX.out Qt.out (c':={c with boxes:=LR}) ⟨_,_,_,rfl,h5,HM.out _ kF,HN.out _ kF,V3.out,XC.out⟩ (fun h0=>absurd h0 HNC.out) kF
 .skip
  obtain⟨LL,hLL⟩:∃L,Oc c.mans r.item c.nextMan 2048 true=L:=⟨_,rfl⟩
  obtain⟨LI,LC⟩:=LL
  have Qt:Hid (aW c r=({c with mans:=LI,nextMan:=max c.nextMan (r.id+1)},LC)):=tK (by
   unfold aW
   rw[if_neg (show ¬r.kind=1 by rw[hk];decide),if_pos hk,hLL])
  have UZ:Hid (∃LR,(if LC=0 then LI else c.mans)=LR/\(LC=0->LI=LR)):=tK ⟨_,rfl,fun h=>by rw[if_pos h]⟩
  have⟨LR,Ud,hLI⟩:=UZ.out
  have VJ:=tK hLI
  have HC:Hid (∀W,NP [] w W->w.heap.size+3<=W.heap.size->am! 258 #[(p2,c.mans.length,c2),.agg #[r.kind,(r.id,()),r.name,r.size,(pr,r.runs.length,cr)],(c.nextMan,()),(2048:Int)] W fun e w'=>∃v,e=.returned (.tuple #[v,LC])/\aq (fun x=>S0 x\/(x=w.heap.size\/x=w.heap.size+2)) w' v LR/\NP [] W w'):=tK (fun W q PW=>by
   have⟨hb,hm,hn,Qh,hf,Pj,P3,Pz,Q6⟩:=P8.out
   have T6:∀x,(S0 x\/(x=w.heap.size\/x=w.heap.size+2))->x<W.heap.size:=fun x hx=>by
    rcases hx with hx|hx
    .have:=Q6 x hx;omega
    .omega
   have hh:=wY _ _ r _ c.nextMan 2048 W ((hm.more (fun x hx=>by omega)).kept0 q) T6 B! Pz.mans.2.2 (Qh.kept0 q).upto hf Pj P3 _d _a (fun h3=>by first|rfl|omega)
   rw[show decide (r.kind=2)=true by rw[hk];rfl,hLL]at hh
   unfold ag.cells jm at hh
   simp only at hh
   rw[Ud]at hh
   exact hh)
  rw[hk]at y0 Uk HC
  clear hk hLL Ud hLI UZ
  go_wp2_with fail
  refine(HC.out _ K3.out RS.out).mono ?_;rintro e w4 ⟨v4,rfl,h4,k4⟩
  have H4:=tK h4
  have K4:=tK (K3.out.trans k4)
  obtain⟨p4,c4,rfl⟩:=h4.plain.shape
  have Sh:=tK (k4.own Uh.out _b)
  have UO:=tK (k4.own Uk.out _b)
  have Q5:=tK (k4.own XJ.out _b)
  have⟨x0,x1,x2,x3,x4⟩:=Sh.out.k5
  have⟨y0,y1,y2,y3,y4⟩:=UO.out.k5
  have⟨z0,z1,z2,z3,z4⟩:=Q5.out.k5
  have⟨f0,f1,f2,f3,f4⟩:=Sh.out.y5
  have⟨g0,g1,g2,g3,g4⟩:=Q5.out.y5
  clear h4 k4
  by_cases hc:LC=0
  .subst hc
   by_cases hg:c.nextMan<=r.id
   .have d1:decide (r.id≥c.nextMan)=true:=MV hg
    have d1':decide (c.nextMan<=r.id)=true:=MV hg
    have TE:Hid (max c.nextMan (r.id+1)=r.id+1):=tK _a
    have SU:=HWR.out
    clear hg
    go_wp2_with fail
    have Pb:w.heap.size+2≠w.heap.size:=_a
    have oF:=ae.aV ((Q5.out.other (p:=(aa w 3)) Pb (p4,LR.length,c4)).other (p:=(aa w 1)) Pb (.int .u32 (r.id+1))) (c.nextBox,()) (.int .u32 (r.id+1)) (p1,c.boxes.length,c1) (p4,LR.length,c4) (p3,c.names.length,c3)
    have kF:NP [] w (((((((w4.setCell (aa w 3) (p4,LR.length,c4)).setCell (aa w 1) (.int .u32 (r.id+1))).setCell (aa (w+2) 0) (c.nextBox,())).setCell (aa (w+2) 1) (.int .u32 (r.id+1))).setCell (aa (w+2) 2) (p1,c.boxes.length,c1)).setCell (aa (w+2) 3) (p4,LR.length,c4)).setCell (aa (w+2) 4) (p3,c.names.length,c3)):=NP.ay ((K4.out.setCell (p:=(aa w 3)) (Or.inr (MG _)) (p4,LR.length,c4)).setCell (p:=(aa w 1)) (Or.inr (MG _)) (.int .u32 (r.id+1))) (Or.inr _a) _ _ _ _ _
    have kT:NP [w.heap.size,w.heap.size+2] w4 (((((((w4.setCell (aa w 3) (p4,LR.length,c4)).setCell (aa w 1) (.int .u32 (r.id+1))).setCell (aa (w+2) 0) (c.nextBox,())).setCell (aa (w+2) 1) (.int .u32 (r.id+1))).setCell (aa (w+2) 2) (p1,c.boxes.length,c1)).setCell (aa (w+2) 3) (p4,LR.length,c4)).setCell (aa (w+2) 4) (p3,c.names.length,c3)):=NP.ay (((NP.refl _ _).setCell (p:=(aa w 3)) (Or.inl _b) (p4,LR.length,c4)).setCell (p:=(aa w 1)) (Or.inl _b) (.int .u32 (r.id+1))) (Or.inl _b) _ _ _ _ _
    have h5:=(H4.out.aS kT (fun x hx=>by simp at hx;rcases hx with rfl|rfl;exact Or.inr (Or.inl rfl);exact Or.inr (Or.inr rfl))).weaken (T:=S0) (fun x hx=>Or.inl hx)
    refine MN (v:=.tuple #[.agg #[(c.nextBox,()),(.int .u32 (r.id+1)),(p1,c.boxes.length,c1),(p4,LR.length,c4),(p3,c.names.length,c3)],(0:Int)]) (aj results207 rfl rfl (t:=52) ?_ underlying52 rfl _c) rfl ?_
    .exact oF
    .exact gn VX.out Qt.out (c':={c with mans:=LR,nextMan:=r.id+1}) ⟨_,_,_,rfl,HB.out _ kF,h5,HN.out _ kF,V3.out,ZE.out⟩ (fun _=>by rw[VJ.out _b,TE.out]) kF
   .have d1:decide (r.id≥c.nextMan)=false:=MS hg
    have d1':decide (c.nextMan<=r.id)=false:=MS hg
    have TE:Hid (max c.nextMan (r.id+1)=c.nextMan):=tK _a
    clear hg
    go_wp2_with fail
    have Pb:w.heap.size+2≠w.heap.size:=_a
    have oF:=ae.aV (Q5.out.other (p:=(aa w 3)) Pb (p4,LR.length,c4)) (c.nextBox,()) (c.nextMan,()) (p1,c.boxes.length,c1) (p4,LR.length,c4) (p3,c.names.length,c3)
    have kF:NP [] w ((((((w4.setCell (aa w 3) (p4,LR.length,c4)).setCell (aa (w+2) 0) (c.nextBox,())).setCell (aa (w+2) 1) (c.nextMan,())).setCell (aa (w+2) 2) (p1,c.boxes.length,c1)).setCell (aa (w+2) 3) (p4,LR.length,c4)).setCell (aa (w+2) 4) (p3,c.names.length,c3)):=NP.ay (K4.out.setCell (p:=(aa w 3)) (Or.inr (MG _)) (p4,LR.length,c4)) (Or.inr _a) _ _ _ _ _
    have kT:NP [w.heap.size,w.heap.size+2] w4 ((((((w4.setCell (aa w 3) (p4,LR.length,c4)).setCell (aa (w+2) 0) (c.nextBox,())).setCell (aa (w+2) 1) (c.nextMan,())).setCell (aa (w+2) 2) (p1,c.boxes.length,c1)).setCell (aa (w+2) 3) (p4,LR.length,c4)).setCell (aa (w+2) 4) (p3,c.names.length,c3)):=NP.ay ((NP.refl _ _).setCell (p:=(aa w 3)) (Or.inl _b) (p4,LR.length,c4)) (Or.inl _b) _ _ _ _ _
    have h5:=(H4.out.aS kT (fun x hx=>by simp at hx;rcases hx with rfl|rfl;exact Or.inr (Or.inl rfl);exact Or.inr (Or.inr rfl))).weaken (T:=S0) (fun x hx=>Or.inl hx)
    refine MN (v:=.tuple #[.agg #[(c.nextBox,()),(c.nextMan,()),(p1,c.boxes.length,c1),(p4,LR.length,c4),(p3,c.names.length,c3)],(0:Int)]) (aj results207 rfl rfl (t:=52) ?_ underlying52 rfl _c) rfl ?_
    .exact oF
    .exact gn VX.out Qt.out (c':={c with mans:=LR}) ⟨_,_,_,rfl,HB.out _ kF,h5,HN.out _ kF,V3.out,XC.out⟩ (fun _=>by rw[VJ.out _b,TE.out]) kF
  .have hcf:(LC==0)=false:=by simpa using hc
   have HNC:=tK hc
   clear hc
   go_wp2_with fail
   have Pb:w.heap.size+2≠w.heap.size:=_a
   have oF:=ae.aV (Q5.out.other (p:=(aa w 3)) Pb (p4,LR.length,c4)) (c.nextBox,()) (c.nextMan,()) (p1,c.boxes.length,c1) (p4,LR.length,c4) (p3,c.names.length,c3)
   have kF:NP [] w ((((((w4.setCell (aa w 3) (p4,LR.length,c4)).setCell (aa (w+2) 0) (c.nextBox,())).setCell (aa (w+2) 1) (c.nextMan,())).setCell (aa (w+2) 2) (p1,c.boxes.length,c1)).setCell (aa (w+2) 3) (p4,LR.length,c4)).setCell (aa (w+2) 4) (p3,c.names.length,c3)):=NP.ay (K4.out.setCell (p:=(aa w 3)) (Or.inr (MG _)) (p4,LR.length,c4)) (Or.inr _a) _ _ _ _ _
   have kT:NP [w.heap.size,w.heap.size+2] w4 ((((((w4.setCell (aa w 3) (p4,LR.length,c4)).setCell (aa (w+2) 0) (c.nextBox,())).setCell (aa (w+2) 1) (c.nextMan,())).setCell (aa (w+2) 2) (p1,c.boxes.length,c1)).setCell (aa (w+2) 3) (p4,LR.length,c4)).setCell (aa (w+2) 4) (p3,c.names.length,c3)):=NP.ay ((NP.refl _ _).setCell (p:=(aa w 3)) (Or.inl _b) (p4,LR.length,c4)) (Or.inl _b) _ _ _ _ _
   have h5:=(H4.out.aS kT (fun x hx=>by simp at hx;rcases hx with rfl|rfl;exact Or.inr (Or.inl rfl);exact Or.inr (Or.inr rfl))).weaken (T:=S0) (fun x hx=>Or.inl hx)
   refine MN (v:=.tuple #[.agg #[(c.nextBox,()),(c.nextMan,()),(p1,c.boxes.length,c1),(p4,LR.length,c4),(p3,c.names.length,c3)],LC]) (aj results207 rfl rfl (t:=52) ?_ underlying52 rfl _c) rfl ?_
   .exact oF
   .exact gn VX.out Qt.out (c':={c with mans:=LR}) ⟨_,_,_,rfl,HB.out _ kF,h5,HN.out _ kF,V3.out,XC.out⟩ (fun h0=>absurd h0 HNC.out) kF
 .skip
  obtain⟨LL,hLL⟩:∃L,Oc c.names r.item 0 256 false=L:=⟨_,rfl⟩
  obtain⟨LI,LC⟩:=LL
  have Qt:Hid (aW c r=({c with names:=LI},LC)):=tK (by
   unfold aW
   rw[if_neg (show ¬r.kind=1 by rw[hk];decide),if_neg (show ¬r.kind=2 by rw[hk];decide),if_pos hk,hLL])
  have UZ:Hid (∃LR,(if LC=0 then LI else c.names)=LR/\(LC=0->LI=LR)):=tK ⟨_,rfl,fun h=>by rw[if_pos h]⟩
  have⟨LR,Ud,hLI⟩:=UZ.out
  have VJ:=tK hLI
  have HC:Hid (∀W,NP [] w W->w.heap.size+3<=W.heap.size->am! 258 #[(p3,c.names.length,c3),.agg #[r.kind,(r.id,()),r.name,r.size,(pr,r.runs.length,cr)],.int .u32 0,(256:Int)] W fun e w'=>∃v,e=.returned (.tuple #[v,LC])/\aq (fun x=>S0 x\/(x=w.heap.size\/x=w.heap.size+2)) w' v LR/\NP [] W w'):=tK (fun W q PW=>by
   have⟨hb,hm,hn,Qh,hf,Pj,P3,Pz,Q6⟩:=P8.out
   have T6:∀x,(S0 x\/(x=w.heap.size\/x=w.heap.size+2))->x<W.heap.size:=fun x hx=>by
    rcases hx with hx|hx
    .have:=Q6 x hx;omega
    .omega
   have hh:=wY _ _ r _ 0 256 W ((hn.more (fun x hx=>by omega)).kept0 q) T6 w! Pz.names.2.2 (Qh.kept0 q).upto hf Pj P3 _d _a (fun h3=>by first|rfl|omega)
   rw[show decide (r.kind=2)=false by rw[hk];rfl,hLL]at hh
   unfold ag.cells jm at hh
   simp only at hh
   rw[Ud]at hh
   exact hh)
  exact M11
 .skip
  obtain⟨LL,hLL⟩:∃L,OU c.boxes r.item=L:=⟨_,rfl⟩
  obtain⟨LI,LC⟩:=LL
  have Qt:Hid (aW c r=({c with boxes:=LI},LC)):=tK (by
   unfold aW
   rw[if_neg (show ¬r.kind=1 by rw[hk];decide),if_neg (show ¬r.kind=2 by rw[hk];decide),if_neg (show ¬r.kind=3 by rw[hk];decide),if_pos hk,hLL])
  have UZ:Hid (∃LR,(if LC=0 then LI else c.boxes)=LR/\(LC=0->LI=LR)):=tK ⟨_,rfl,fun h=>by rw[if_pos h]⟩
  have⟨LR,Ud,hLI⟩:=UZ.out
  have VJ:=tK hLI
  have HC:Hid (∀W,NP [] w W->w.heap.size+3<=W.heap.size->am! 259 #[(p1,c.boxes.length,c1),.agg #[r.kind,(r.id,()),r.name,r.size,(pr,r.runs.length,cr)]] W fun e w'=>∃v,e=.returned (.tuple #[v,LC])/\aq (fun x=>S0 x\/(x=w.heap.size\/x=w.heap.size+2)) w' v LR/\NP [] W w'):=tK (fun W q PW=>by
   have⟨hb,hm,hn,Qh,hf,Pj,P3,Pz,Q6⟩:=P8.out
   have T6:∀x,(S0 x\/(x=w.heap.size\/x=w.heap.size+2))->x<W.heap.size:=fun x hx=>by
    rcases hx with hx|hx
    .have:=Q6 x hx;omega
    .omega
   have hh:=AH _ _ r (pr,r.runs.length,cr) W ((hb.more (fun x hx=>by omega)).kept0 q) T6 v! ⟨_,_,_,rfl⟩
   unfold ag.cells gd at hh
   rw[hLL]at hh
   simp only at hh
   rw[Ud]at hh
   exact hh)
  rw[hk]at y0 Uk HC
  clear hk hLL Ud hLI UZ
  go_wp2_with fail
  refine(HC.out _ K3.out RS.out).mono ?_;rintro e w4 ⟨v4,rfl,h4,k4⟩
  have H4:=tK h4
  have K4:=tK (K3.out.trans k4)
  obtain⟨p4,c4,rfl⟩:=h4.plain.shape
  have Sh:=tK (k4.own Uh.out _b)
  have UO:=tK (k4.own Uk.out _b)
  have Q5:=tK (k4.own XJ.out _b)
  have⟨x0,x1,x2,x3,x4⟩:=Sh.out.k5
  have⟨y0,y1,y2,y3,y4⟩:=UO.out.k5
  have⟨z0,z1,z2,z3,z4⟩:=Q5.out.k5
  have⟨f0,f1,f2,f3,f4⟩:=Sh.out.y5
  have⟨g0,g1,g2,g3,g4⟩:=Q5.out.y5
  clear h4 k4
  go_wp2_with fail
  have Pb:w.heap.size+2≠w.heap.size:=_a
  have oF:=ae.aV (Q5.out.other (p:=(aa w 2)) Pb (p4,LR.length,c4)) (c.nextBox,()) (c.nextMan,()) (p4,LR.length,c4) (p2,c.mans.length,c2) (p3,c.names.length,c3)
  have kF:NP [] w ((((((w4.setCell (aa w 2) (p4,LR.length,c4)).setCell (aa (w+2) 0) (c.nextBox,())).setCell (aa (w+2) 1) (c.nextMan,())).setCell (aa (w+2) 2) (p4,LR.length,c4)).setCell (aa (w+2) 3) (p2,c.mans.length,c2)).setCell (aa (w+2) 4) (p3,c.names.length,c3)):=NP.ay (K4.out.setCell (p:=(aa w 2)) (Or.inr (MG _)) (p4,LR.length,c4)) (Or.inr _a) _ _ _ _ _
  have kT:NP [w.heap.size,w.heap.size+2] w4 ((((((w4.setCell (aa w 2) (p4,LR.length,c4)).setCell (aa (w+2) 0) (c.nextBox,())).setCell (aa (w+2) 1) (c.nextMan,())).setCell (aa (w+2) 2) (p4,LR.length,c4)).setCell (aa (w+2) 3) (p2,c.mans.length,c2)).setCell (aa (w+2) 4) (p3,c.names.length,c3)):=NP.ay ((NP.refl _ _).setCell (p:=(aa w 2)) (Or.inl _b) (p4,LR.length,c4)) (Or.inl _b) _ _ _ _ _
  have h5:=(H4.out.aS kT (fun x hx=>by simp at hx;rcases hx with rfl|rfl;exact Or.inr (Or.inl rfl);exact Or.inr (Or.inr rfl))).weaken (T:=S0) (fun x hx=>Or.inl hx)
  refine MN (v:=.tuple #[.agg #[(c.nextBox,()),(c.nextMan,()),(p4,LR.length,c4),(p2,c.mans.length,c2),(p3,c.names.length,c3)],LC]) (aj results207 rfl rfl (t:=52) ?_ underlying52 rfl _c) rfl ?_
  .exact oF
  .exact gn VX.out Qt.out (c':={c with boxes:=LR}) ⟨_,_,_,rfl,h5,HM.out _ kF,HN.out _ kF,V3.out,XC.out⟩ (fun h0=>by rw[VJ.out h0]) kF
 .skip
  obtain⟨LL,hLL⟩:∃L,OU c.mans r.item=L:=⟨_,rfl⟩
  obtain⟨LI,LC⟩:=LL
  have Qt:Hid (aW c r=({c with mans:=LI},LC)):=tK (by
   unfold aW
   rw[if_neg (show ¬r.kind=1 by rw[hk];decide),if_neg (show ¬r.kind=2 by rw[hk];decide),if_neg (show ¬r.kind=3 by rw[hk];decide),if_neg (show ¬r.kind=4 by rw[hk];decide),if_pos hk,hLL])
  have UZ:Hid (∃LR,(if LC=0 then LI else c.mans)=LR/\(LC=0->LI=LR)):=tK ⟨_,rfl,fun h=>by rw[if_pos h]⟩
  have⟨LR,Ud,hLI⟩:=UZ.out
  have VJ:=tK hLI
  have HC:Hid (∀W,NP [] w W->w.heap.size+3<=W.heap.size->am! 259 #[(p2,c.mans.length,c2),.agg #[r.kind,(r.id,()),r.name,r.size,(pr,r.runs.length,cr)]] W fun e w'=>∃v,e=.returned (.tuple #[v,LC])/\aq (fun x=>S0 x\/(x=w.heap.size\/x=w.heap.size+2)) w' v LR/\NP [] W w'):=tK (fun W q PW=>by
   have⟨hb,hm,hn,Qh,hf,Pj,P3,Pz,Q6⟩:=P8.out
   have T6:∀x,(S0 x\/(x=w.heap.size\/x=w.heap.size+2))->x<W.heap.size:=fun x hx=>by
    rcases hx with hx|hx
    .have:=Q6 x hx;omega
    .omega
   have hh:=AH _ _ r (pr,r.runs.length,cr) W ((hm.more (fun x hx=>by omega)).kept0 q) T6 B! ⟨_,_,_,rfl⟩
   unfold ag.cells gd at hh
   rw[hLL]at hh
   simp only at hh
   rw[Ud]at hh
   exact hh)
  rw[hk]at y0 Uk HC
  clear hk hLL Ud hLI UZ
  go_wp2_with fail
  refine(HC.out _ K3.out RS.out).mono ?_;rintro e w4 ⟨v4,rfl,h4,k4⟩
  have H4:=tK h4
  have K4:=tK (K3.out.trans k4)
  obtain⟨p4,c4,rfl⟩:=h4.plain.shape
  have Sh:=tK (k4.own Uh.out _b)
  have UO:=tK (k4.own Uk.out _b)
  have Q5:=tK (k4.own XJ.out _b)
  have⟨x0,x1,x2,x3,x4⟩:=Sh.out.k5
  have⟨y0,y1,y2,y3,y4⟩:=UO.out.k5
  have⟨z0,z1,z2,z3,z4⟩:=Q5.out.k5
  have⟨f0,f1,f2,f3,f4⟩:=Sh.out.y5
  have⟨g0,g1,g2,g3,g4⟩:=Q5.out.y5
  clear h4 k4
  go_wp2_with fail
  have Pb:w.heap.size+2≠w.heap.size:=_a
  have oF:=ae.aV (Q5.out.other (p:=(aa w 3)) Pb (p4,LR.length,c4)) (c.nextBox,()) (c.nextMan,()) (p1,c.boxes.length,c1) (p4,LR.length,c4) (p3,c.names.length,c3)
  have kF:NP [] w ((((((w4.setCell (aa w 3) (p4,LR.length,c4)).setCell (aa (w+2) 0) (c.nextBox,())).setCell (aa (w+2) 1) (c.nextMan,())).setCell (aa (w+2) 2) (p1,c.boxes.length,c1)).setCell (aa (w+2) 3) (p4,LR.length,c4)).setCell (aa (w+2) 4) (p3,c.names.length,c3)):=NP.ay (K4.out.setCell (p:=(aa w 3)) (Or.inr (MG _)) (p4,LR.length,c4)) (Or.inr _a) _ _ _ _ _
  have kT:NP [w.heap.size,w.heap.size+2] w4 ((((((w4.setCell (aa w 3) (p4,LR.length,c4)).setCell (aa (w+2) 0) (c.nextBox,())).setCell (aa (w+2) 1) (c.nextMan,())).setCell (aa (w+2) 2) (p1,c.boxes.length,c1)).setCell (aa (w+2) 3) (p4,LR.length,c4)).setCell (aa (w+2) 4) (p3,c.names.length,c3)):=NP.ay ((NP.refl _ _).setCell (p:=(aa w 3)) (Or.inl _b) (p4,LR.length,c4)) (Or.inl _b) _ _ _ _ _
  have h5:=(H4.out.aS kT (fun x hx=>by simp at hx;rcases hx with rfl|rfl;exact Or.inr (Or.inl rfl);exact Or.inr (Or.inr rfl))).weaken (T:=S0) (fun x hx=>Or.inl hx)
  refine MN (v:=.tuple #[.agg #[(c.nextBox,()),(c.nextMan,()),(p1,c.boxes.length,c1),(p4,LR.length,c4),(p3,c.names.length,c3)],LC]) (aj results207 rfl rfl (t:=52) ?_ underlying52 rfl _c) rfl ?_
  .exact oF
  .exact gn VX.out Qt.out (c':={c with mans:=LR}) ⟨_,_,_,rfl,HB.out _ kF,h5,HN.out _ kF,V3.out,XC.out⟩ (fun h0=>by rw[VJ.out h0]) kF
 .skip
  obtain⟨LL,hLL⟩:∃L,OU c.names r.item=L:=⟨_,rfl⟩
  obtain⟨LI,LC⟩:=LL
  have Qt:Hid (aW c r=({c with names:=LI},LC)):=tK (by
   unfold aW
   rw[if_neg (show ¬r.kind=1 by rw[hk];decide),if_neg (show ¬r.kind=2 by rw[hk];decide),if_neg (show ¬r.kind=3 by rw[hk];decide),if_neg (show ¬r.kind=4 by rw[hk];decide),if_neg (show ¬r.kind=5 by rw[hk];decide),hLL])
  have UZ:Hid (∃LR,(if LC=0 then LI else c.names)=LR/\(LC=0->LI=LR)):=tK ⟨_,rfl,fun h=>by rw[if_pos h]⟩
  have⟨LR,Ud,hLI⟩:=UZ.out
  have VJ:=tK hLI
  have HC:Hid (∀W,NP [] w W->w.heap.size+3<=W.heap.size->am! 259 #[(p3,c.names.length,c3),.agg #[r.kind,(r.id,()),r.name,r.size,(pr,r.runs.length,cr)]] W fun e w'=>∃v,e=.returned (.tuple #[v,LC])/\aq (fun x=>S0 x\/(x=w.heap.size\/x=w.heap.size+2)) w' v LR/\NP [] W w'):=tK (fun W q PW=>by
   have⟨hb,hm,hn,Qh,hf,Pj,P3,Pz,Q6⟩:=P8.out
   have T6:∀x,(S0 x\/(x=w.heap.size\/x=w.heap.size+2))->x<W.heap.size:=fun x hx=>by
    rcases hx with hx|hx
    .have:=Q6 x hx;omega
    .omega
   have hh:=AH _ _ r (pr,r.runs.length,cr) W ((hn.more (fun x hx=>by omega)).kept0 q) T6 w! ⟨_,_,_,rfl⟩
   unfold ag.cells gd at hh
   rw[hLL]at hh
   simp only at hh
   rw[Ud]at hh
   exact hh)
  exact M11
def qb (kk next:Int) (l:List NS) (k:Nat):Prop:=∀j (hj:j<l.length),j<k->az (l[j].told kk)=true/\l[j].id<next/\∀(h:0<j),(l[j-1]' _a).id<l[j].id
theorem qb.zero (kk next:Int) (l:List NS):qb kk next l 0:=fun j _ h=>absurd h (Nat.not_lt_zero j)
theorem qb.step {kk next:Int} {l:List NS} {k:Nat} (h:qb kk next l k) (hk:k<l.length) (h1:az (l[k].told kk)=true) (h2:l[k].id<next) (h3:∀(h:0<k),(l[k-1]' _a).id<l[k].id):qb kk next l (k+1):=fun j hj hjk=>by
 by_cases e:j=k
 .subst e;exact⟨h1,h2,h3⟩
 .exact h j hj _a
theorem qb.all (h:qb kk next l l.length):(∀a∈l,az (a.told kk)=true)/\(∀a∈l,a.id<next)/\cG l:=by
 refine⟨fun a ha=>?_,fun a ha=>?_,pf (fun k hk=>?_)⟩
 .obtain⟨j,hj,rfl⟩:=Nr.1 ha;exact(h j hj hj).1
 .obtain⟨j,hj,rfl⟩:=Nr.1 ha;exact(h j hj hj).2.1
 .rw[iV];exact Or.inl ((h (k+1) hk hk).2.2 _a)
theorem Fh (hk:k<l.length) (h:az (l[k].told kk)=false):¬(cE kk l 2048/\cZ next l):=fun hh=>by
 have:=hh.1.2.1 l[k] (MJ hk)
 rw[h]at this;cases this
theorem CS (hk:k<l.length) (h:next<=l[k].id):¬(cE kk l 2048/\cZ next l):=fun hh=>by
 have:=hh.2.2 l[k] (MJ hk)
 omega
theorem CQ {kk next:Int} (QY:kk=1\/kk=2) {l:List NS} {k:Nat} (hk:k<l.length) (h0:0<k) (h:l[k].id<=(l[k-1]' _a).id):¬(cE kk l 2048/\cZ next l):=fun hh=>by
 have h1:=hh.1.2.2.at_ hk (show k-1<k by omega)
 have h2:=(Fs QY (hh.1.2.1 l[k] (MJ hk))).1
 rw[iV,h2,ua]at h1
 rcases h1 with h1|h1
 .omega
 .cases h1.2
theorem Fi (h:qb kk next l l.length):(cE kk l 2048/\cZ next l)↔(l.length<=2048/\1<=next):=
 ⟨fun hh=>⟨hh.1.1,hh.2.1⟩,fun hh=>⟨⟨hh.1,h.all.1,h.all.2.2⟩,hh.2,h.all.2.1⟩⟩
theorem M25 {A:Prop}(h:A:=by
 refine tS ?_
 refine Ng _c ?_ _
 try simp only[List.set_cons_succ,List.set_cons_zero]
 go_wp2_with fail
 go_roundw
 case rel=>exact⟨k+1,Of.out,_j,HN.out,K4.out⟩
 case measure=>(have hh:=Of.out;simp[intOf];omega)):A:=h
theorem M17 {A:Prop}(h:A:=by
 go_wp2_with fail
 refine MK (S:=(fun W=>(W.cell? (aa b (off+k*4))=(A.id,())/\W.cell? (aa b (off+k*4+1))=A.name/\W.cell? (aa b (off+k*4+2))=A.size/\W.cell? (aa b (off+k*4+3))=(pk,nk,ck)))) _c _u (fun hHeld=>?_)
 refine tS ?_
 refine rD 5 (fun K hK=>?_)
 go_simp
 ((with_reducible refine(HT.out _).mono ?_));rintro e w3 ⟨rfl,k3⟩
 have K3:=tK (HK.out.drew.trans k3)
 clear k3
 go_wp2_with fail
 refine hK.out _ _ (HS.out _ K3.out) (fun hHeld=>nM ?_)
 clear hK K
 refine rD 6 (fun K hK=>?_)
 go_simp
 ((with_reducible refine(HM.out _ K3.out).mono ?_));rintro e w4 ⟨rfl,k4⟩
 have K4:=tK (K3.out.trans k4)
 clear k4
 go_wp2_with fail
 refine hK.out _ _ (HS.out _ K4.out) (fun hHeld=>nM ?_)
 clear hK K
 refine tS ?_
 refine Ng _c ?_ _
 try simp only[List.set_cons_succ,List.set_cons_zero]
 go_wp2_with fail
 go_ret
 exact aX HN.out K4.out):A:=h
theorem uM (kk next:Int) (QY:kk=1\/kk=2) (v:Value) (l:List NS) (w:World) (h:aU w v l) (hl:jk l) (hlen:l.length<=1000000):
  am! 257 #[kk,v,(next,())] w (bG (cE kk l 2048/\cZ next l) w):=by
 obtain⟨pv,cv,rfl⟩:=h.shape
 have⟨H,ZP⟩:=_f h hl
 have YK:(Lit.int .i64 kk).wf=true:=by rcases QY with rfl|rfl<;>decide
 have⟨V6,SI⟩:=_f YK QY
 have j1:(l.length:Int)<=1000000:=_a
 clear h hl hlen YK QY
 go_enter func257,ntmps257
 go_wp2_with fail
 go_loopw [7] (fun i wr=>∃k:Nat,k<=l.length/\i=(k:Int)/\qb kk next l k/\NP [] w wr) (fun i _=>l.length-(intOf i).toNat)
 case atStart=>exact⟨0,Nb _,rfl,qb.zero _ _ _,NP.refl _ _⟩
 case round=>
  obtain⟨k,hk,rfl,hOK,hK⟩:=hrel
  rename World=>wr
  by_cases NV:k<l.length
  .have i1:(k:Int)<l.length:=_a
   obtain⟨b,off,kv,rfl,hia,hb,RU,hc2,SA⟩:=H.out.ja k NV
   have hT:=fun W=>sM kk (l[k]'NV) kv W hia.fz
   have hM:=fun W (q:NP [] w W)=>AF ((l[k]'NV).told kk) kv 0 W W ((hia.kept0 q).1) (ZP.out.2 _ (MJ NV)) (NS.dw hia.2.1 V6.out)
   have Ox:=fun h1 h2 h3=>hOK.step NV h1 h2 h3
   have QX:=fun h=>Fh (kk:=kk) (next:=next) NV h
   have QU:=fun h=>CS (kk:=kk) (next:=next) NV h
   have XT:=fun h0 h=>CQ (kk:=kk) (next:=next) SI.out NV h0 h
   have T8:∀(h0:0<k),∀W,NP [] w W->W.cell? (aa b (off+(k-1)*4))=some (.int .u32 (l[k-1]' _a).id):=fun h0 W q=>by
    have⟨b',off',kv',e,_,_,_,_,hh⟩:=H.out.ja (k-1) _a
    injection e with e
    injection e with e1 e2 _
    subst e1 e2
    exact(hh W q).1
   obtain⟨pk,nk,ck,rfl⟩:=hia.fz
   have⟨HK,Of,OY,Ts,Rs,XY,Ux,HT,HM,Vd⟩:=gc! hK NV Ox QX QU XT T8 hT hM SA
   unfold NS.told ag.cells NS.cells at HT
   unfold qd ag.cells at HM
   have Z5:∃mb,az ((l[k]'NV).told kk)=mb:=⟨_,rfl⟩
   obtain⟨mb,hmb⟩:=Z5
   rw[hmb]at Ts HM OY
   unfold NS.told at HM
   clear hT hM Ox QX QU XT T8 hia SA hb hOK hK hmb
   have WK:Hid (0<k->IntKind.i64.wrap ((k:Int)-1)=((k-1:Nat):Int)):=tK (fun h=>by rw[IntWalk.i64_in _ _a];omega)
   have i3:Hid (0<k->k-1<l.length):=tK (fun h=>by omega)
   generalize hLA:l[k]'NV=A at*
   clear hLA
   cases mb with
   |false=>
    have HN:=tK (Ts.out rfl)
    have HS:Hid (∀W,NP [] w W->(W.cell? (aa b (off+k*4))=(A.id,())/\W.cell? (aa b (off+k*4+1))=A.name/\W.cell? (aa b (off+k*4+2))=A.size/\W.cell? (aa b (off+k*4+3))=(pk,nk,ck))):=Vd
    clear Vd Ux Ts Rs XY OY WK i3
    exact M17
   |true=>
    by_cases TG:A.id<next
    .have d1:decide (next<=A.id)=false:=_e
     have d1':decide (A.id≥next)=false:=d1
     have T9:=tK TG
     clear TG
     by_cases h0:0<k
     .have d2:decide ((0:Int)<k)=true:=_e
      have d2n:decide (0<k)=true:=MV h0
      have d2':decide ((k:Int)>0)=true:=d2
      have i4:=i3.out h0
      have i5:((k-1:Nat):Int)<l.length:=_a
      have XR:=Ux.out h0
      have Oo:(l[k-1]'i4).id<A.id->qb kk next l (k+1):=fun h3=>OY.out rfl T9.out (fun _=>h3)
      have hn:=XY.out h0
      generalize (l[k-1]'i4).id=P at*
      have HS:Hid (∀W,NP [] w W->((W.cell? (aa b (off+k*4))=(A.id,())/\W.cell? (aa b (off+k*4+1))=A.name/\W.cell? (aa b (off+k*4+2))=A.size/\W.cell? (aa b (off+k*4+3))=(pk,nk,ck))/\W.cell? (aa b (off+(k-1)*4))=(P,()))):=tK (fun W q=>⟨Vd.out W q,XR W q⟩)
      have H0:=tK h0
      by_cases hp:P<A.id
      .have d3:decide (A.id<=P)=false:=_e
       have d3':decide (P≥A.id)=false:=d3
       have HN:=tK (Oo hp)
       clear Vd Ux Ts Rs XY OY i3 XR Oo hn hp h0
       go_wp2_with fail
       refine MK (S:=(fun W=>(W.cell? (aa b (off+k*4))=(A.id,())/\W.cell? (aa b (off+k*4+1))=A.name/\W.cell? (aa b (off+k*4+2))=A.size/\W.cell? (aa b (off+k*4+3))=(pk,nk,ck))/\W.cell? (aa b (off+(k-1)*4))=(P,()))) _c _u (fun hHeld=>?_)
       refine tS ?_
       refine rD 5 (fun K hK=>?_)
       go_simp
       ((with_reducible refine(HT.out _).mono ?_));rintro e w3 ⟨rfl,k3⟩
       have K3:=tK (HK.out.drew.trans k3)
       clear k3
       go_wp2_with fail
       refine hK.out _ _ (HS.out _ K3.out) (fun hHeld=>nM ?_)
       clear hK K
       refine rD 6 (fun K hK=>?_)
       go_simp
       ((with_reducible refine(HM.out _ K3.out).mono ?_));rintro e w4 ⟨rfl,k4⟩
       have K4:=tK (K3.out.trans k4)
       clear k4
       go_wp2_with fail
       refine hK.out _ _ (HS.out _ K4.out) (fun hHeld=>nM ?_)
       clear hK K
       have wk:=WK.out H0.out
       refine tS ?_
       clear wk
       exact M25
      .have d3:decide (A.id<=P)=true:=_e
       have d3':decide (P≥A.id)=true:=d3
       have HN:=tK (hn _a)
       clear Vd Ux Ts Rs XY OY i3 XR Oo hn hp h0
       go_wp2_with fail
       refine MK (S:=(fun W=>(W.cell? (aa b (off+k*4))=(A.id,())/\W.cell? (aa b (off+k*4+1))=A.name/\W.cell? (aa b (off+k*4+2))=A.size/\W.cell? (aa b (off+k*4+3))=(pk,nk,ck))/\W.cell? (aa b (off+(k-1)*4))=(P,()))) _c _u (fun hHeld=>?_)
       refine tS ?_
       refine rD 5 (fun K hK=>?_)
       go_simp
       ((with_reducible refine(HT.out _).mono ?_));rintro e w3 ⟨rfl,k3⟩
       have K3:=tK (HK.out.drew.trans k3)
       clear k3
       go_wp2_with fail
       refine hK.out _ _ (HS.out _ K3.out) (fun hHeld=>nM ?_)
       clear hK K
       refine rD 6 (fun K hK=>?_)
       go_simp
       ((with_reducible refine(HM.out _ K3.out).mono ?_));rintro e w4 ⟨rfl,k4⟩
       have K4:=tK (K3.out.trans k4)
       clear k4
       go_wp2_with fail
       refine hK.out _ _ (HS.out _ K4.out) (fun hHeld=>nM ?_)
       clear hK K
       have wk:=WK.out H0.out
       refine tS ?_
       clear wk
       refine Ng _c ?_ _
       try simp only[List.set_cons_succ,List.set_cons_zero]
       go_wp2_with fail
       go_ret
       exact aX HN.out K4.out
     .have YD:k=0:=_a
      have d2:decide ((0:Int)<k)=false:=_e
      have d2n:decide (0<k)=false:=MS h0
      have d2':decide ((k:Int)>0)=false:=d2
      have HN:=tK (OY.out rfl T9.out (fun h=>absurd h h0))
      have HS:Hid (∀W,NP [] w W->(W.cell? (aa b (off+k*4))=(A.id,())/\W.cell? (aa b (off+k*4+1))=A.name/\W.cell? (aa b (off+k*4+2))=A.size/\W.cell? (aa b (off+k*4+3))=(pk,nk,ck))):=Vd
      clear Vd Ux Ts Rs XY OY WK i3 h0 YD
      go_wp2_with fail
      refine MK (S:=(fun W=>(W.cell? (aa b (off+k*4))=(A.id,())/\W.cell? (aa b (off+k*4+1))=A.name/\W.cell? (aa b (off+k*4+2))=A.size/\W.cell? (aa b (off+k*4+3))=(pk,nk,ck)))) _c _u (fun hHeld=>?_)
      refine tS ?_
      refine rD 5 (fun K hK=>?_)
      go_simp
      ((with_reducible refine(HT.out _).mono ?_));rintro e w3 ⟨rfl,k3⟩
      have K3:=tK (HK.out.drew.trans k3)
      clear k3
      go_wp2_with fail
      refine hK.out _ _ (HS.out _ K3.out) (fun hHeld=>nM ?_)
      clear hK K
      refine rD 6 (fun K hK=>?_)
      go_simp
      ((with_reducible refine(HM.out _ K3.out).mono ?_));rintro e w4 ⟨rfl,k4⟩
      have K4:=tK (K3.out.trans k4)
      clear k4
      go_wp2_with fail
      refine hK.out _ _ (HS.out _ K4.out) (fun hHeld=>nM ?_)
      clear hK K
      exact M25
    .have d1:decide (next<=A.id)=true:=_e
     have d1':decide (A.id≥next)=true:=d1
     have HN:=tK (Rs.out _a)
     have HS:Hid (∀W,NP [] w W->(W.cell? (aa b (off+k*4))=(A.id,())/\W.cell? (aa b (off+k*4+1))=A.name/\W.cell? (aa b (off+k*4+2))=A.size/\W.cell? (aa b (off+k*4+3))=(pk,nk,ck))):=Vd
     clear Vd Ux Ts Rs XY OY WK i3 TG
     exact M17
  .obtain rfl:k=l.length:=_a
   have i1:¬(l.length:Int)<l.length:=_a
   have Ph:=Fi hOK
   have⟨HE,HK⟩:=_f Ph hK
   clear Ph hOK hK NV hk
   rcases(by omega:(2048:Int)<l.length\/((l.length:Int)<=2048/\next<1)\/((l.length:Int)<=2048/\1<=next))with g1|⟨g1,g2⟩|⟨g1,g2⟩
   .have d1:decide ((l.length:Int)<=2048)=false:=_e
    have HN:Hid (¬(cE kk l 2048/\cZ next l)):=tK (by rw[HE.out];omega)
    clear HE g1
    go_wp2_with fail
    go_ret
    exact aX HN.out HK.out
   .have d1:decide ((l.length:Int)<=2048)=true:=_e
    have d2:decide (next≥1)=false:=_e
    have d2':decide (1<=next)=false:=d2
    have HN:Hid (¬(cE kk l 2048/\cZ next l)):=tK (by rw[HE.out];omega)
    clear HE g1 g2
    go_wp2_with fail
    go_ret
    exact aX HN.out HK.out
   .have d1:decide ((l.length:Int)<=2048)=true:=_e
    have d2:decide (next≥1)=true:=_e
    have d2':decide (1<=next)=true:=d2
    have HN:Hid (cE kk l 2048/\cZ next l):=tK (by rw[HE.out];omega)
    clear HE g1 g2
    go_wp2_with fail
    go_ret
    exact gu HN.out HK.out

/- -/
import Derived.Test.YtdkimcnlhmhpgaaGreatF12
set_option maxHeartbeats 32000000
set_option maxRecDepth 100000
namespace Go.Proofs.YtdkimcnlhmhpgaaGreat
section
open Go.Proofs.Tryz Go.RowKit
variable {S:Nat->Prop} {c c':au} {r:ag} {v:Value} {w w':World} {kk next:Int} {l:List NS} {k:Nat}
def jF (S:Nat->Prop) (c:au) (r:ag) (w:World) (e:Ending) (w':World):Prop:=
 ∃v c',e=.returned (.tuple #[v,(if az r=true then(aW c r).2 else 1:Int)])/\av S w' v c'/\(az r=true->(aW c r).2=0->c'=(aW c r).1)/\NP [] w w'
theorem gn {c1 C} (hm:az r=true) (Pp:aW c r=(c1,C)) (h:av S w' v c') (hc:C=0->c'=c1) (k:NP [] w w'):jF S c r w (.returned (.tuple #[v,C])) w':=
 ⟨v,c',by rw[if_pos hm,Pp],h,fun _ h0=>by rw[Pp]at h0 ⊢;exact hc h0,k⟩
theorem Cx (hm:az r=false) (h:av S w' v c') (k:NP [] w w'):jF S c r w (.returned (.tuple #[v,(1:Int)])) w':=
 ⟨v,c',by rw[if_neg (by rw[hm];decide)],h,(fun h1=>absurd h1 (by rw[hm];decide)),k⟩
theorem M11 {A:Prop}(h:A:=by
 rw[hk]at y0 Uk HC
 clear hk hLL Ud hLI UZ
 go_wp2_with fail
 refine(HC.out _ K3.out RS.out).mono ?_;rintro e w4 ⟨v4,rfl,h4,k4⟩
 have H4:=tK h4
 have K4:=tK (K3.out.trans k4)
 obtain⟨p4,c4,rfl⟩:=h4.plain.shape
 have Sh:=tK (k4.own Uh.out b?)
 have UO:=tK (k4.own Uk.out b?)
 have Q5:=tK (k4.own XJ.out b?)
 have⟨x0,x1,x2,x3,x4⟩:=Sh.out.k5
 have⟨y0,y1,y2,y3,y4⟩:=UO.out.k5
 have⟨z0,z1,z2,z3,z4⟩:=Q5.out.k5
 have⟨f0,f1,f2,f3,f4⟩:=Sh.out.y5
 have⟨g0,g1,g2,g3,g4⟩:=Q5.out.y5
 clear h4 k4
 go_wp2_with fail
 have Pb:w.heap.size+2≠w.heap.size:=a?
 have oF:=ae.aV (Q5.out.other (p:=(aa w 4)) Pb (p4,LR.length,c4)) (c.nextBox,()) (c.nextMan,()) (p1,c.boxes.length,c1) (p2,c.mans.length,c2) (p4,LR.length,c4)
 have kF:NP [] w ((((((w4.setCell (aa w 4) (p4,LR.length,c4)).setCell (aa (w+2) 0) (c.nextBox,())).setCell (aa (w+2) 1) (c.nextMan,())).setCell (aa (w+2) 2) (p1,c.boxes.length,c1)).setCell (aa (w+2) 3) (p2,c.mans.length,c2)).setCell (aa (w+2) 4) (p4,LR.length,c4)):=NP.ay (K4.out.setCell (p:=(aa w 4)) (Or.inr (MG _)) (p4,LR.length,c4)) (Or.inr a?) _ _ _ _ _
 have kT:NP [w.heap.size,w.heap.size+2] w4 ((((((w4.setCell (aa w 4) (p4,LR.length,c4)).setCell (aa (w+2) 0) (c.nextBox,())).setCell (aa (w+2) 1) (c.nextMan,())).setCell (aa (w+2) 2) (p1,c.boxes.length,c1)).setCell (aa (w+2) 3) (p2,c.mans.length,c2)).setCell (aa (w+2) 4) (p4,LR.length,c4)):=NP.ay ((NP.refl _ _).setCell (p:=(aa w 4)) (Or.inl b?) (p4,LR.length,c4)) (Or.inl b?) _ _ _ _ _
 have h5:=(H4.out.aS kT (fun x hx=>by simp at hx;rcases hx with rfl|rfl;exact Or.inr (Or.inl rfl);exact Or.inr (Or.inr rfl))).weaken (T:=S0) (fun x hx=>Or.inl hx)
 refine MN (v:=.tuple #[.agg #[(c.nextBox,()),(c.nextMan,()),(p1,c.boxes.length,c1),(p2,c.mans.length,c2),(p4,LR.length,c4)],LC]) (aj results207 rfl rfl (t:=52) ?_ underlying52 rfl c?) rfl ?_
 .exact oF
 .exact gn VX.out Qt.out (c':={c with names:=LR}) ⟨_,_,_,rfl,HB.out _ kF,HM.out _ kF,h5,V3.out,XC.out⟩ (fun h0=>by rw[VJ.out h0]) kF):A:=h
theorem GF {S0} (v c r rv w) (h:av S0 w v c) (Q6:∀x,S0 x->x<w.heap.size) (Pz:OL c) (Qh:af w rv r.runs 0 w) (hf:r.fits) (Pj:∀a∈r.runs,aQ a) (P3:r.runs.length<=1000000):
  am! 207 #[v,.agg (r.cells rv)] w (jF S0 c r w):=by
 have Ya:=tK fun W q=>AF r rv _ _ W (Qh.kept0 q) P3 hf
 obtain⟨vb,vm,vn,rfl,hb,hm,hn,Rp,Te⟩:=h
 have HB:=tK (fun W (q:NP [] w W)=>hb.kept0 q)
 have HM:=tK (fun W (q:NP [] w W)=>hm.kept0 q)
 have HN:=tK (fun W (q:NP [] w W)=>hn.kept0 q)
 obtain⟨p1,c1,rfl⟩:=hb.plain.shape
 obtain⟨p2,c2,rfl⟩:=hm.plain.shape
 obtain⟨p3,c3,rfl⟩:=hn.plain.shape
 obtain⟨pr,cr,rfl⟩:=Qh.shape
 unfold ag.cells qd at Ya
 unfold ag.cells
 have⟨V3,XC⟩:=f? Rp Te
 have⟨oA,oB,oC⟩:=nA w #[(c.nextBox,()),(c.nextMan,()),(p1,c.boxes.length,c1),(p2,c.mans.length,c2),(p3,c.names.length,c3)] #[r.kind,(r.id,()),r.name,r.size,(pr,r.runs.length,cr)] #[.int .u32 0,.int .u32 0,(),(),()] 52 102 52
 have k0:NP [] w (((w.alloc (.cells #[(c.nextBox,()),(c.nextMan,()),(p1,c.boxes.length,c1),(p2,c.mans.length,c2),(p3,c.names.length,c3)] 52)).alloc (.cells #[r.kind,(r.id,()),r.name,r.size,(pr,r.runs.length,cr)] 102)).alloc (.cells #[.int .u32 0,.int .u32 0,(),(),()] 52)):=(((NP.refl _ _).alloc _).alloc _).alloc _
 cases VA:az r
 .have VX:=tK VA
  have⟨OA,OB,OC,K0⟩:=gh! oA oB oC k0
  rw[VX.out]at Ya
  clear oA oB oC k0 hb hm hn Qh hf Pj VA Pz Rp Te P3
  go_enter func207,ntmps207
  go_wp2_with fail
  refine(Ya.out _ K0.out).mono ?_;rintro e w3 ⟨rfl,k3⟩
  have K3:=tK (K0.out.trans k3)
  have Uh:=tK (k3.own OA.out b?)
  have Uk:=tK (k3.own OB.out b?)
  have XJ:=tK (k3.own OC.out b?)
  have RS:Hid (w.heap.size+3<=w3.heap.size):=tK (by have:=k3.size;simp at this;omega)
  have⟨x0,x1,x2,x3,x4⟩:=Uh.out.k5
  have⟨y0,y1,y2,y3,y4⟩:=Uk.out.k5
  have⟨g0,g1,g2,g3,g4⟩:=XJ.out.y5
  have⟨z0,z1,z2,z3,z4⟩:=XJ.out.k5
  go_wp2_with fail
  have Pb:w.heap.size+2≠w.heap.size:=a?
  have oF:=ae.aV XJ.out (c.nextBox,()) (c.nextMan,()) (p1,c.boxes.length,c1) (p2,c.mans.length,c2) (p3,c.names.length,c3)
  have kF:NP [] w (((((w3.setCell (aa (w+2) 0) (c.nextBox,())).setCell (aa (w+2) 1) (c.nextMan,())).setCell (aa (w+2) 2) (p1,c.boxes.length,c1)).setCell (aa (w+2) 3) (p2,c.mans.length,c2)).setCell (aa (w+2) 4) (p3,c.names.length,c3)):=NP.ay K3.out (Or.inr a?) _ _ _ _ _
  have kT:NP [w.heap.size,w.heap.size+2] w3 (((((w3.setCell (aa (w+2) 0) (c.nextBox,())).setCell (aa (w+2) 1) (c.nextMan,())).setCell (aa (w+2) 2) (p1,c.boxes.length,c1)).setCell (aa (w+2) 3) (p2,c.mans.length,c2)).setCell (aa (w+2) 4) (p3,c.names.length,c3)):=NP.ay (NP.refl _ _) (Or.inl b?) _ _ _ _ _
  refine MN (v:=.tuple #[.agg #[(c.nextBox,()),(c.nextMan,()),(p1,c.boxes.length,c1),(p2,c.mans.length,c2),(p3,c.names.length,c3)],(1:Int)]) (aj results207 rfl rfl (t:=52) ?_ underlying52 rfl c?) rfl ?_
  .exact oF
  .exact Cx VX.out ⟨_,_,_,rfl,HB.out _ kF,HM.out _ kF,HN.out _ kF,V3.out,XC.out⟩ kF
 have VX:=tK VA
 have hid:=xw VA
 have Xz:0<=r.id:=(eG hf.2.1).1
 have abe:=(eG Rp)
 have aaT:=(eG Te)
 have HID:Hid (0<=r.id/\r.id<=4294967294):=tK ⟨Xz,hid⟩
 have ZE:Hid ((Lit.int .u32 (r.id+1)).wf=true):=tK (tF a? a?)
 have HWR:Hid (IntKind.u32.wrap (r.id+1)=r.id+1):=tK (lW a? a?)
 have P8:=tK (And.intro hb (And.intro hm (And.intro hn (And.intro Qh (And.intro hf (And.intro Pj (And.intro P3 (And.intro Pz Q6))))))))
 clear hid Xz abe aaT Q6
 have⟨OA,OB,OC,K0⟩:=gh! oA oB oC k0
 rw[VX.out]at Ya
 clear oA oB oC k0 hb hm hn Qh hf Pj VA Pz Rp Te P3
 go_enter func207,ntmps207
 go_wp2_with fail
 refine(Ya.out _ K0.out).mono ?_;rintro e w3 ⟨rfl,k3⟩
 have K3:=tK (K0.out.trans k3)
 have Uh:=tK (k3.own OA.out b?)
 have Uk:=tK (k3.own OB.out b?)
 have XJ:=tK (k3.own OC.out b?)
 have RS:Hid (w.heap.size+3<=w3.heap.size):=tK (by have:=k3.size;simp at this;omega)
 have⟨x0,x1,x2,x3,x4⟩:=Uh.out.k5
 have⟨y0,y1,y2,y3,y4⟩:=Uk.out.k5
 rcases nI VX.out with hk|hk|hk|hk|hk|hk
 .skip
  obtain⟨LL,hLL⟩:∃L,Oc c.boxes r.item c.nextBox 2048 false=L:=⟨_,rfl⟩
  obtain⟨LI,LC⟩:=LL
  have Qt:Hid (aW c r=({c with boxes:=LI,nextBox:=r.id+1},LC)):=tK (by
   unfold aW
   rw[if_pos hk,hLL])
  have UZ:Hid (∃LR,(if LC=0 then LI else c.boxes)=LR/\(LC=0->LI=LR)):=tK ⟨_,rfl,fun h=>by rw[if_pos h]⟩
  have⟨LR,Ud,hLI⟩:=UZ.out
  have VJ:=tK hLI
  have HC:Hid (∀W,NP [] w W->w.heap.size+3<=W.heap.size->am! 258 #[(p1,c.boxes.length,c1),.agg #[r.kind,(r.id,()),r.name,r.size,(pr,r.runs.length,cr)],(c.nextBox,()),(2048:Int)] W fun e w'=>∃v,e=.returned (.tuple #[v,LC])/\aq (fun x=>S0 x\/(x=w.heap.size\/x=w.heap.size+2)) w' v LR/\NP [] W w'):=tK (fun W q PW=>by
   have⟨hb,hm,hn,Qh,hf,Pj,P3,Pz,Q6⟩:=P8.out
   have T6:∀x,(S0 x\/(x=w.heap.size\/x=w.heap.size+2))->x<W.heap.size:=fun x hx=>by
    rcases hx with hx|hx
    .have:=Q6 x hx;omega
    .omega
   have hh:=wY _ _ r _ c.nextBox 2048 W ((hb.more (fun x hx=>by omega)).kept0 q) T6 v! Pz.boxes.2.2 (Qh.kept0 q).upto hf Pj P3 d? a? (fun h3=>by first|rfl|omega)
   rw[show decide (r.kind=2)=false by rw[hk];rfl,hLL]at hh
   unfold ag.cells jm at hh
   simp only at hh
   rw[Ud]at hh
   exact hh)
  rw[hk]at y0 Uk HC
  clear hk hLL Ud hLI UZ
  go_wp2_with fail
  refine(HC.out _ K3.out RS.out).mono ?_;rintro e w4 ⟨v4,rfl,h4,k4⟩
  have H4:=tK h4
  have K4:=tK (K3.out.trans k4)
  obtain⟨p4,c4,rfl⟩:=h4.plain.shape
  have Sh:=tK (k4.own Uh.out b?)
  have UO:=tK (k4.own Uk.out b?)
  have Q5:=tK (k4.own XJ.out b?)
  have⟨x0,x1,x2,x3,x4⟩:=Sh.out.k5
  have⟨y0,y1,y2,y3,y4⟩:=UO.out.k5
  have⟨z0,z1,z2,z3,z4⟩:=Q5.out.k5
  have⟨f0,f1,f2,f3,f4⟩:=Sh.out.y5
  have⟨g0,g1,g2,g3,g4⟩:=Q5.out.y5
  clear h4 k4
  by_cases hc:LC=0
  .subst hc
   have SU:=HWR.out
   go_wp2_with fail
   have Pb:w.heap.size+2≠w.heap.size:=a?
   have oF:=ae.aV ((Q5.out.other (p:=(aa w 2)) Pb (p4,LR.length,c4)).other (p:=w) Pb (.int .u32 (r.id+1))) (.int .u32 (r.id+1)) (c.nextMan,()) (p4,LR.length,c4) (p2,c.mans.length,c2) (p3,c.names.length,c3)
   have kF:NP [] w (((((((w4.setCell (aa w 2) (p4,LR.length,c4)).setCell w (.int .u32 (r.id+1))).setCell (aa (w+2) 0) (.int .u32 (r.id+1))).setCell (aa (w+2) 1) (c.nextMan,())).setCell (aa (w+2) 2) (p4,LR.length,c4)).setCell (aa (w+2) 3) (p2,c.mans.length,c2)).setCell (aa (w+2) 4) (p3,c.names.length,c3)):=NP.ay ((K4.out.setCell (p:=(aa w 2)) (Or.inr (MG _)) (p4,LR.length,c4)).setCell (p:=w) (Or.inr (MG _)) (.int .u32 (r.id+1))) (Or.inr a?) _ _ _ _ _
   have kT:NP [w.heap.size,w.heap.size+2] w4 (((((((w4.setCell (aa w 2) (p4,LR.length,c4)).setCell w (.int .u32 (r.id+1))).setCell (aa (w+2) 0) (.int .u32 (r.id+1))).setCell (aa (w+2) 1) (c.nextMan,())).setCell (aa (w+2) 2) (p4,LR.length,c4)).setCell (aa (w+2) 3) (p2,c.mans.length,c2)).setCell (aa (w+2) 4) (p3,c.names.length,c3)):=NP.ay (((NP.refl _ _).setCell (p:=(aa w 2)) (Or.inl b?) (p4,LR.length,c4)).setCell (p:=w) (Or.inl b?) (.int .u32 (r.id+1))) (Or.inl b?) _ _ _ _ _
   have h5:=(H4.out.aS kT (fun x hx=>by simp at hx;rcases hx with rfl|rfl;exact Or.inr (Or.inl rfl);exact Or.inr (Or.inr rfl))).weaken (T:=S0) (fun x hx=>Or.inl hx)
   refine MN (v:=.tuple #[.agg #[(.int .u32 (r.id+1)),(c.nextMan,()),(p4,LR.length,c4),(p2,c.mans.length,c2),(p3,c.names.length,c3)],(0:Int)]) (aj results207 rfl rfl (t:=52) ?_ underlying52 rfl c?) rfl ?_
   .exact oF
   .exact gn VX.out Qt.out (c':={c with boxes:=LR,nextBox:=r.id+1}) ⟨_,_,_,rfl,h5,HM.out _ kF,HN.out _ kF,ZE.out,XC.out⟩ (fun _=>by rw[VJ.out b?]) kF
  .have hcf:(LC==0)=false:=by simpa using hc
   have HNC:=tK hc
   clear hc
   go_wp2_with fail
   have Pb:w.heap.size+2≠w.heap.size:=a?
   have oF:=ae.aV (Q5.out.other (p:=(aa w 2)) Pb (p4,LR.length,c4)) (c.nextBox,()) (c.nextMan,()) (p4,LR.length,c4) (p2,c.mans.length,c2) (p3,c.names.length,c3)
   have kF:NP [] w ((((((w4.setCell (aa w 2) (p4,LR.length,c4)).setCell (aa (w+2) 0) (c.nextBox,())).setCell (aa (w+2) 1) (c.nextMan,())).setCell (aa (w+2) 2) (p4,LR.length,c4)).setCell (aa (w+2) 3) (p2,c.mans.length,c2)).setCell (aa (w+2) 4) (p3,c.names.length,c3)):=NP.ay (K4.out.setCell (p:=(aa w 2)) (Or.inr (MG _)) (p4,LR.length,c4)) (Or.inr a?) _ _ _ _ _
   have kT:NP [w.heap.size,w.heap.size+2] w4 ((((((w4.setCell (aa w 2) (p4,LR.length,c4)).setCell (aa (w+2) 0) (c.nextBox,())).setCell (aa (w+2) 1) (c.nextMan,())).setCell (aa (w+2) 2) (p4,LR.length,c4)).setCell (aa (w+2) 3) (p2,c.mans.length,c2)).setCell (aa (w+2) 4) (p3,c.names.length,c3)):=NP.ay ((NP.refl _ _).setCell (p:=(aa w 2)) (Or.inl b?) (p4,LR.length,c4)) (Or.inl b?) _ _ _ _ _
   have h5:=(H4.out.aS kT (fun x hx=>by simp at hx;rcases hx with rfl|rfl;exact Or.inr (Or.inl rfl);exact Or.inr (Or.inr rfl))).weaken (T:=S0) (fun x hx=>Or.inl hx)
   refine MN (v:=.tuple #[.agg #[(c.nextBox,()),(c.nextMan,()),(p4,LR.length,c4),(p2,c.mans.length,c2),(p3,c.names.length,c3)],LC]) (aj results207 rfl rfl (t:=52) ?_ underlying52 rfl c?) rfl ?_
   .exact oF
   .exact gn VX.out Qt.out (c':={c with boxes:=LR}) ⟨_,_,_,rfl,h5,HM.out _ kF,HN.out _ kF,V3.out,XC.out⟩ (fun h0=>absurd h0 HNC.out) kF
 .skip
  obtain⟨LL,hLL⟩:∃L,Oc c.mans r.item c.nextMan 2048 true=L:=⟨_,rfl⟩
  obtain⟨LI,LC⟩:=LL
  have Qt:Hid (aW c r=({c with mans:=LI,nextMan:=max c.nextMan (r.id+1)},LC)):=tK (by
   unfold aW
   rw[if_neg (show ¬r.kind=1 by rw[hk];decide),if_pos hk,hLL])
  have UZ:Hid (∃LR,(if LC=0 then LI else c.mans)=LR/\(LC=0->LI=LR)):=tK ⟨_,rfl,fun h=>by rw[if_pos h]⟩
  have⟨LR,Ud,hLI⟩:=UZ.out
  have VJ:=tK hLI
  have HC:Hid (∀W,NP [] w W->w.heap.size+3<=W.heap.size->am! 258 #[(p2,c.mans.length,c2),.agg #[r.kind,(r.id,()),r.name,r.size,(pr,r.runs.length,cr)],(c.nextMan,()),(2048:Int)] W fun e w'=>∃v,e=.returned (.tuple #[v,LC])/\aq (fun x=>S0 x\/(x=w.heap.size\/x=w.heap.size+2)) w' v LR/\NP [] W w'):=tK (fun W q PW=>by
   have⟨hb,hm,hn,Qh,hf,Pj,P3,Pz,Q6⟩:=P8.out
   have T6:∀x,(S0 x\/(x=w.heap.size\/x=w.heap.size+2))->x<W.heap.size:=fun x hx=>by
    rcases hx with hx|hx
    .have:=Q6 x hx;omega
    .omega
   have hh:=wY _ _ r _ c.nextMan 2048 W ((hm.more (fun x hx=>by omega)).kept0 q) T6 B! Pz.mans.2.2 (Qh.kept0 q).upto hf Pj P3 d? a? (fun h3=>by first|rfl|omega)
   rw[show decide (r.kind=2)=true by rw[hk];rfl,hLL]at hh
   unfold ag.cells jm at hh
   simp only at hh
   rw[Ud]at hh
   exact hh)
  rw[hk]at y0 Uk HC
  clear hk hLL Ud hLI UZ
  go_wp2_with fail
  refine(HC.out _ K3.out RS.out).mono ?_;rintro e w4 ⟨v4,rfl,h4,k4⟩
  have H4:=tK h4
  have K4:=tK (K3.out.trans k4)
  obtain⟨p4,c4,rfl⟩:=h4.plain.shape
  have Sh:=tK (k4.own Uh.out b?)
  have UO:=tK (k4.own Uk.out b?)
  have Q5:=tK (k4.own XJ.out b?)
  have⟨x0,x1,x2,x3,x4⟩:=Sh.out.k5
  have⟨y0,y1,y2,y3,y4⟩:=UO.out.k5
  have⟨z0,z1,z2,z3,z4⟩:=Q5.out.k5
  have⟨f0,f1,f2,f3,f4⟩:=Sh.out.y5
  have⟨g0,g1,g2,g3,g4⟩:=Q5.out.y5
  clear h4 k4
  by_cases hc:LC=0
  .subst hc
   by_cases hg:c.nextMan<=r.id
   .have d1:decide (r.id≥c.nextMan)=true:=MV hg
    have d1':decide (c.nextMan<=r.id)=true:=MV hg
    have TE:Hid (max c.nextMan (r.id+1)=r.id+1):=tK a?
    have SU:=HWR.out
    clear hg
    go_wp2_with fail
    have Pb:w.heap.size+2≠w.heap.size:=a?
    have oF:=ae.aV ((Q5.out.other (p:=(aa w 3)) Pb (p4,LR.length,c4)).other (p:=(aa w 1)) Pb (.int .u32 (r.id+1))) (c.nextBox,()) (.int .u32 (r.id+1)) (p1,c.boxes.length,c1) (p4,LR.length,c4) (p3,c.names.length,c3)
    have kF:NP [] w (((((((w4.setCell (aa w 3) (p4,LR.length,c4)).setCell (aa w 1) (.int .u32 (r.id+1))).setCell (aa (w+2) 0) (c.nextBox,())).setCell (aa (w+2) 1) (.int .u32 (r.id+1))).setCell (aa (w+2) 2) (p1,c.boxes.length,c1)).setCell (aa (w+2) 3) (p4,LR.length,c4)).setCell (aa (w+2) 4) (p3,c.names.length,c3)):=NP.ay ((K4.out.setCell (p:=(aa w 3)) (Or.inr (MG _)) (p4,LR.length,c4)).setCell (p:=(aa w 1)) (Or.inr (MG _)) (.int .u32 (r.id+1))) (Or.inr a?) _ _ _ _ _
    have kT:NP [w.heap.size,w.heap.size+2] w4 (((((((w4.setCell (aa w 3) (p4,LR.length,c4)).setCell (aa w 1) (.int .u32 (r.id+1))).setCell (aa (w+2) 0) (c.nextBox,())).setCell (aa (w+2) 1) (.int .u32 (r.id+1))).setCell (aa (w+2) 2) (p1,c.boxes.length,c1)).setCell (aa (w+2) 3) (p4,LR.length,c4)).setCell (aa (w+2) 4) (p3,c.names.length,c3)):=NP.ay (((NP.refl _ _).setCell (p:=(aa w 3)) (Or.inl b?) (p4,LR.length,c4)).setCell (p:=(aa w 1)) (Or.inl b?) (.int .u32 (r.id+1))) (Or.inl b?) _ _ _ _ _
    have h5:=(H4.out.aS kT (fun x hx=>by simp at hx;rcases hx with rfl|rfl;exact Or.inr (Or.inl rfl);exact Or.inr (Or.inr rfl))).weaken (T:=S0) (fun x hx=>Or.inl hx)
    refine MN (v:=.tuple #[.agg #[(c.nextBox,()),(.int .u32 (r.id+1)),(p1,c.boxes.length,c1),(p4,LR.length,c4),(p3,c.names.length,c3)],(0:Int)]) (aj results207 rfl rfl (t:=52) ?_ underlying52 rfl c?) rfl ?_
    .exact oF
    .exact gn VX.out Qt.out (c':={c with mans:=LR,nextMan:=r.id+1}) ⟨_,_,_,rfl,HB.out _ kF,h5,HN.out _ kF,V3.out,ZE.out⟩ (fun _=>by rw[VJ.out b?,TE.out]) kF
   .have d1:decide (r.id≥c.nextMan)=false:=MS hg
    have d1':decide (c.nextMan<=r.id)=false:=MS hg
    have TE:Hid (max c.nextMan (r.id+1)=c.nextMan):=tK a?
    clear hg
    go_wp2_with fail
    have Pb:w.heap.size+2≠w.heap.size:=a?
    have oF:=ae.aV (Q5.out.other (p:=(aa w 3)) Pb (p4,LR.length,c4)) (c.nextBox,()) (c.nextMan,()) (p1,c.boxes.length,c1) (p4,LR.length,c4) (p3,c.names.length,c3)
    have kF:NP [] w ((((((w4.setCell (aa w 3) (p4,LR.length,c4)).setCell (aa (w+2) 0) (c.nextBox,())).setCell (aa (w+2) 1) (c.nextMan,())).setCell (aa (w+2) 2) (p1,c.boxes.length,c1)).setCell (aa (w+2) 3) (p4,LR.length,c4)).setCell (aa (w+2) 4) (p3,c.names.length,c3)):=NP.ay (K4.out.setCell (p:=(aa w 3)) (Or.inr (MG _)) (p4,LR.length,c4)) (Or.inr a?) _ _ _ _ _
    have kT:NP [w.heap.size,w.heap.size+2] w4 ((((((w4.setCell (aa w 3) (p4,LR.length,c4)).setCell (aa (w+2) 0) (c.nextBox,())).setCell (aa (w+2) 1) (c.nextMan,())).setCell (aa (w+2) 2) (p1,c.boxes.length,c1)).setCell (aa (w+2) 3) (p4,LR.length,c4)).setCell (aa (w+2) 4) (p3,c.names.length,c3)):=NP.ay ((NP.refl _ _).setCell (p:=(aa w 3)) (Or.inl b?) (p4,LR.length,c4)) (Or.inl b?) _ _ _ _ _
    have h5:=(H4.out.aS kT (fun x hx=>by simp at hx;rcases hx with rfl|rfl;exact Or.inr (Or.inl rfl);exact Or.inr (Or.inr rfl))).weaken (T:=S0) (fun x hx=>Or.inl hx)
    refine MN (v:=.tuple #[.agg #[(c.nextBox,()),(c.nextMan,()),(p1,c.boxes.length,c1),(p4,LR.length,c4),(p3,c.names.length,c3)],(0:Int)]) (aj results207 rfl rfl (t:=52) ?_ underlying52 rfl c?) rfl ?_
    .exact oF
    .exact gn VX.out Qt.out (c':={c with mans:=LR}) ⟨_,_,_,rfl,HB.out _ kF,h5,HN.out _ kF,V3.out,XC.out⟩ (fun _=>by rw[VJ.out b?,TE.out]) kF
  .have hcf:(LC==0)=false:=by simpa using hc
   have HNC:=tK hc
   clear hc
   go_wp2_with fail
   have Pb:w.heap.size+2≠w.heap.size:=a?
   have oF:=ae.aV (Q5.out.other (p:=(aa w 3)) Pb (p4,LR.length,c4)) (c.nextBox,()) (c.nextMan,()) (p1,c.boxes.length,c1) (p4,LR.length,c4) (p3,c.names.length,c3)
   have kF:NP [] w ((((((w4.setCell (aa w 3) (p4,LR.length,c4)).setCell (aa (w+2) 0) (c.nextBox,())).setCell (aa (w+2) 1) (c.nextMan,())).setCell (aa (w+2) 2) (p1,c.boxes.length,c1)).setCell (aa (w+2) 3) (p4,LR.length,c4)).setCell (aa (w+2) 4) (p3,c.names.length,c3)):=NP.ay (K4.out.setCell (p:=(aa w 3)) (Or.inr (MG _)) (p4,LR.length,c4)) (Or.inr a?) _ _ _ _ _
   have kT:NP [w.heap.size,w.heap.size+2] w4 ((((((w4.setCell (aa w 3) (p4,LR.length,c4)).setCell (aa (w+2) 0) (c.nextBox,())).setCell (aa (w+2) 1) (c.nextMan,())).setCell (aa (w+2) 2) (p1,c.boxes.length,c1)).setCell (aa (w+2) 3) (p4,LR.length,c4)).setCell (aa (w+2) 4) (p3,c.names.length,c3)):=NP.ay ((NP.refl _ _).setCell (p:=(aa w 3)) (Or.inl b?) (p4,LR.length,c4)) (Or.inl b?) _ _ _ _ _
   have h5:=(H4.out.aS kT (fun x hx=>by simp at hx;rcases hx with rfl|rfl;exact Or.inr (Or.inl rfl);exact Or.inr (Or.inr rfl))).weaken (T:=S0) (fun x hx=>Or.inl hx)
   refine MN (v:=.tuple #[.agg #[(c.nextBox,()),(c.nextMan,()),(p1,c.boxes.length,c1),(p4,LR.length,c4),(p3,c.names.length,c3)],LC]) (aj results207 rfl rfl (t:=52) ?_ underlying52 rfl c?) rfl ?_
   .exact oF
   .exact gn VX.out Qt.out (c':={c with mans:=LR}) ⟨_,_,_,rfl,HB.out _ kF,h5,HN.out _ kF,V3.out,XC.out⟩ (fun h0=>absurd h0 HNC.out) kF
 .skip
  obtain⟨LL,hLL⟩:∃L,Oc c.names r.item 0 256 false=L:=⟨_,rfl⟩
  obtain⟨LI,LC⟩:=LL
  have Qt:Hid (aW c r=({c with names:=LI},LC)):=tK (by
   unfold aW
   rw[if_neg (show ¬r.kind=1 by rw[hk];decide),if_neg (show ¬r.kind=2 by rw[hk];decide),if_pos hk,hLL])
  have UZ:Hid (∃LR,(if LC=0 then LI else c.names)=LR/\(LC=0->LI=LR)):=tK ⟨_,rfl,fun h=>by rw[if_pos h]⟩
  have⟨LR,Ud,hLI⟩:=UZ.out
  have VJ:=tK hLI
  have HC:Hid (∀W,NP [] w W->w.heap.size+3<=W.heap.size->am! 258 #[(p3,c.names.length,c3),.agg #[r.kind,(r.id,()),r.name,r.size,(pr,r.runs.length,cr)],.int .u32 0,(256:Int)] W fun e w'=>∃v,e=.returned (.tuple #[v,LC])/\aq (fun x=>S0 x\/(x=w.heap.size\/x=w.heap.size+2)) w' v LR/\NP [] W w'):=tK (fun W q PW=>by
   have⟨hb,hm,hn,Qh,hf,Pj,P3,Pz,Q6⟩:=P8.out
   have T6:∀x,(S0 x\/(x=w.heap.size\/x=w.heap.size+2))->x<W.heap.size:=fun x hx=>by
    rcases hx with hx|hx
    .have:=Q6 x hx;omega
    .omega
   have hh:=wY _ _ r _ 0 256 W ((hn.more (fun x hx=>by omega)).kept0 q) T6 w! Pz.names.2.2 (Qh.kept0 q).upto hf Pj P3 d? a? (fun h3=>by first|rfl|omega)
   rw[show decide (r.kind=2)=false by rw[hk];rfl,hLL]at hh
   unfold ag.cells jm at hh
   simp only at hh
   rw[Ud]at hh
   exact hh)
  exact M11
 .skip
  obtain⟨LL,hLL⟩:∃L,OU c.boxes r.item=L:=⟨_,rfl⟩
  obtain⟨LI,LC⟩:=LL
  have Qt:Hid (aW c r=({c with boxes:=LI},LC)):=tK (by
   unfold aW
   rw[if_neg (show ¬r.kind=1 by rw[hk];decide),if_neg (show ¬r.kind=2 by rw[hk];decide),if_neg (show ¬r.kind=3 by rw[hk];decide),if_pos hk,hLL])
  have UZ:Hid (∃LR,(if LC=0 then LI else c.boxes)=LR/\(LC=0->LI=LR)):=tK ⟨_,rfl,fun h=>by rw[if_pos h]⟩
  have⟨LR,Ud,hLI⟩:=UZ.out
  have VJ:=tK hLI
  have HC:Hid (∀W,NP [] w W->w.heap.size+3<=W.heap.size->am! 259 #[(p1,c.boxes.length,c1),.agg #[r.kind,(r.id,()),r.name,r.size,(pr,r.runs.length,cr)]] W fun e w'=>∃v,e=.returned (.tuple #[v,LC])/\aq (fun x=>S0 x\/(x=w.heap.size\/x=w.heap.size+2)) w' v LR/\NP [] W w'):=tK (fun W q PW=>by
   have⟨hb,hm,hn,Qh,hf,Pj,P3,Pz,Q6⟩:=P8.out
   have T6:∀x,(S0 x\/(x=w.heap.size\/x=w.heap.size+2))->x<W.heap.size:=fun x hx=>by
    rcases hx with hx|hx
    .have:=Q6 x hx;omega
    .omega
   have hh:=AH _ _ r (pr,r.runs.length,cr) W ((hb.more (fun x hx=>by omega)).kept0 q) T6 v! ⟨_,_,_,rfl⟩
   unfold ag.cells gd at hh
   rw[hLL]at hh
   simp only at hh
   rw[Ud]at hh
   exact hh)
  rw[hk]at y0 Uk HC
  clear hk hLL Ud hLI UZ
  go_wp2_with fail
  refine(HC.out _ K3.out RS.out).mono ?_;rintro e w4 ⟨v4,rfl,h4,k4⟩
  have H4:=tK h4
  have K4:=tK (K3.out.trans k4)
  obtain⟨p4,c4,rfl⟩:=h4.plain.shape
  have Sh:=tK (k4.own Uh.out b?)
  have UO:=tK (k4.own Uk.out b?)
  have Q5:=tK (k4.own XJ.out b?)
  have⟨x0,x1,x2,x3,x4⟩:=Sh.out.k5
  have⟨y0,y1,y2,y3,y4⟩:=UO.out.k5
  have⟨z0,z1,z2,z3,z4⟩:=Q5.out.k5
  have⟨f0,f1,f2,f3,f4⟩:=Sh.out.y5
  have⟨g0,g1,g2,g3,g4⟩:=Q5.out.y5
  clear h4 k4
  go_wp2_with fail
  have Pb:w.heap.size+2≠w.heap.size:=a?
  have oF:=ae.aV (Q5.out.other (p:=(aa w 2)) Pb (p4,LR.length,c4)) (c.nextBox,()) (c.nextMan,()) (p4,LR.length,c4) (p2,c.mans.length,c2) (p3,c.names.length,c3)
  have kF:NP [] w ((((((w4.setCell (aa w 2) (p4,LR.length,c4)).setCell (aa (w+2) 0) (c.nextBox,())).setCell (aa (w+2) 1) (c.nextMan,())).setCell (aa (w+2) 2) (p4,LR.length,c4)).setCell (aa (w+2) 3) (p2,c.mans.length,c2)).setCell (aa (w+2) 4) (p3,c.names.length,c3)):=NP.ay (K4.out.setCell (p:=(aa w 2)) (Or.inr (MG _)) (p4,LR.length,c4)) (Or.inr a?) _ _ _ _ _
  have kT:NP [w.heap.size,w.heap.size+2] w4 ((((((w4.setCell (aa w 2) (p4,LR.length,c4)).setCell (aa (w+2) 0) (c.nextBox,())).setCell (aa (w+2) 1) (c.nextMan,())).setCell (aa (w+2) 2) (p4,LR.length,c4)).setCell (aa (w+2) 3) (p2,c.mans.length,c2)).setCell (aa (w+2) 4) (p3,c.names.length,c3)):=NP.ay ((NP.refl _ _).setCell (p:=(aa w 2)) (Or.inl b?) (p4,LR.length,c4)) (Or.inl b?) _ _ _ _ _
  have h5:=(H4.out.aS kT (fun x hx=>by simp at hx;rcases hx with rfl|rfl;exact Or.inr (Or.inl rfl);exact Or.inr (Or.inr rfl))).weaken (T:=S0) (fun x hx=>Or.inl hx)
  refine MN (v:=.tuple #[.agg #[(c.nextBox,()),(c.nextMan,()),(p4,LR.length,c4),(p2,c.mans.length,c2),(p3,c.names.length,c3)],LC]) (aj results207 rfl rfl (t:=52) ?_ underlying52 rfl c?) rfl ?_
  .exact oF
  .exact gn VX.out Qt.out (c':={c with boxes:=LR}) ⟨_,_,_,rfl,h5,HM.out _ kF,HN.out _ kF,V3.out,XC.out⟩ (fun h0=>by rw[VJ.out h0]) kF
 .skip
  obtain⟨LL,hLL⟩:∃L,OU c.mans r.item=L:=⟨_,rfl⟩
  obtain⟨LI,LC⟩:=LL
  have Qt:Hid (aW c r=({c with mans:=LI},LC)):=tK (by
   unfold aW
   rw[if_neg (show ¬r.kind=1 by rw[hk];decide),if_neg (show ¬r.kind=2 by rw[hk];decide),if_neg (show ¬r.kind=3 by rw[hk];decide),if_neg (show ¬r.kind=4 by rw[hk];decide),if_pos hk,hLL])
  have UZ:Hid (∃LR,(if LC=0 then LI else c.mans)=LR/\(LC=0->LI=LR)):=tK ⟨_,rfl,fun h=>by rw[if_pos h]⟩
  have⟨LR,Ud,hLI⟩:=UZ.out
  have VJ:=tK hLI
  have HC:Hid (∀W,NP [] w W->w.heap.size+3<=W.heap.size->am! 259 #[(p2,c.mans.length,c2),.agg #[r.kind,(r.id,()),r.name,r.size,(pr,r.runs.length,cr)]] W fun e w'=>∃v,e=.returned (.tuple #[v,LC])/\aq (fun x=>S0 x\/(x=w.heap.size\/x=w.heap.size+2)) w' v LR/\NP [] W w'):=tK (fun W q PW=>by
   have⟨hb,hm,hn,Qh,hf,Pj,P3,Pz,Q6⟩:=P8.out
   have T6:∀x,(S0 x\/(x=w.heap.size\/x=w.heap.size+2))->x<W.heap.size:=fun x hx=>by
    rcases hx with hx|hx
    .have:=Q6 x hx;omega
    .omega
   have hh:=AH _ _ r (pr,r.runs.length,cr) W ((hm.more (fun x hx=>by omega)).kept0 q) T6 B! ⟨_,_,_,rfl⟩
   unfold ag.cells gd at hh
   rw[hLL]at hh
   simp only at hh
   rw[Ud]at hh
   exact hh)
  rw[hk]at y0 Uk HC
  clear hk hLL Ud hLI UZ
  go_wp2_with fail
  refine(HC.out _ K3.out RS.out).mono ?_;rintro e w4 ⟨v4,rfl,h4,k4⟩
  have H4:=tK h4
  have K4:=tK (K3.out.trans k4)
  obtain⟨p4,c4,rfl⟩:=h4.plain.shape
  have Sh:=tK (k4.own Uh.out b?)
  have UO:=tK (k4.own Uk.out b?)
  have Q5:=tK (k4.own XJ.out b?)
  have⟨x0,x1,x2,x3,x4⟩:=Sh.out.k5
  have⟨y0,y1,y2,y3,y4⟩:=UO.out.k5
  have⟨z0,z1,z2,z3,z4⟩:=Q5.out.k5
  have⟨f0,f1,f2,f3,f4⟩:=Sh.out.y5
  have⟨g0,g1,g2,g3,g4⟩:=Q5.out.y5
  clear h4 k4
  go_wp2_with fail
  have Pb:w.heap.size+2≠w.heap.size:=a?
  have oF:=ae.aV (Q5.out.other (p:=(aa w 3)) Pb (p4,LR.length,c4)) (c.nextBox,()) (c.nextMan,()) (p1,c.boxes.length,c1) (p4,LR.length,c4) (p3,c.names.length,c3)
  have kF:NP [] w ((((((w4.setCell (aa w 3) (p4,LR.length,c4)).setCell (aa (w+2) 0) (c.nextBox,())).setCell (aa (w+2) 1) (c.nextMan,())).setCell (aa (w+2) 2) (p1,c.boxes.length,c1)).setCell (aa (w+2) 3) (p4,LR.length,c4)).setCell (aa (w+2) 4) (p3,c.names.length,c3)):=NP.ay (K4.out.setCell (p:=(aa w 3)) (Or.inr (MG _)) (p4,LR.length,c4)) (Or.inr a?) _ _ _ _ _
  have kT:NP [w.heap.size,w.heap.size+2] w4 ((((((w4.setCell (aa w 3) (p4,LR.length,c4)).setCell (aa (w+2) 0) (c.nextBox,())).setCell (aa (w+2) 1) (c.nextMan,())).setCell (aa (w+2) 2) (p1,c.boxes.length,c1)).setCell (aa (w+2) 3) (p4,LR.length,c4)).setCell (aa (w+2) 4) (p3,c.names.length,c3)):=NP.ay ((NP.refl _ _).setCell (p:=(aa w 3)) (Or.inl b?) (p4,LR.length,c4)) (Or.inl b?) _ _ _ _ _
  have h5:=(H4.out.aS kT (fun x hx=>by simp at hx;rcases hx with rfl|rfl;exact Or.inr (Or.inl rfl);exact Or.inr (Or.inr rfl))).weaken (T:=S0) (fun x hx=>Or.inl hx)
  refine MN (v:=.tuple #[.agg #[(c.nextBox,()),(c.nextMan,()),(p1,c.boxes.length,c1),(p4,LR.length,c4),(p3,c.names.length,c3)],LC]) (aj results207 rfl rfl (t:=52) ?_ underlying52 rfl c?) rfl ?_
  .exact oF
  .exact gn VX.out Qt.out (c':={c with mans:=LR}) ⟨_,_,_,rfl,HB.out _ kF,h5,HN.out _ kF,V3.out,XC.out⟩ (fun h0=>by rw[VJ.out h0]) kF
 .skip
  obtain⟨LL,hLL⟩:∃L,OU c.names r.item=L:=⟨_,rfl⟩
  obtain⟨LI,LC⟩:=LL
  have Qt:Hid (aW c r=({c with names:=LI},LC)):=tK (by
   unfold aW
   rw[if_neg (show ¬r.kind=1 by rw[hk];decide),if_neg (show ¬r.kind=2 by rw[hk];decide),if_neg (show ¬r.kind=3 by rw[hk];decide),if_neg (show ¬r.kind=4 by rw[hk];decide),if_neg (show ¬r.kind=5 by rw[hk];decide),hLL])
  have UZ:Hid (∃LR,(if LC=0 then LI else c.names)=LR/\(LC=0->LI=LR)):=tK ⟨_,rfl,fun h=>by rw[if_pos h]⟩
  have⟨LR,Ud,hLI⟩:=UZ.out
  have VJ:=tK hLI
  have HC:Hid (∀W,NP [] w W->w.heap.size+3<=W.heap.size->am! 259 #[(p3,c.names.length,c3),.agg #[r.kind,(r.id,()),r.name,r.size,(pr,r.runs.length,cr)]] W fun e w'=>∃v,e=.returned (.tuple #[v,LC])/\aq (fun x=>S0 x\/(x=w.heap.size\/x=w.heap.size+2)) w' v LR/\NP [] W w'):=tK (fun W q PW=>by
   have⟨hb,hm,hn,Qh,hf,Pj,P3,Pz,Q6⟩:=P8.out
   have T6:∀x,(S0 x\/(x=w.heap.size\/x=w.heap.size+2))->x<W.heap.size:=fun x hx=>by
    rcases hx with hx|hx
    .have:=Q6 x hx;omega
    .omega
   have hh:=AH _ _ r (pr,r.runs.length,cr) W ((hn.more (fun x hx=>by omega)).kept0 q) T6 w! ⟨_,_,_,rfl⟩
   unfold ag.cells gd at hh
   rw[hLL]at hh
   simp only at hh
   rw[Ud]at hh
   exact hh)
  exact M11
def qb (kk next:Int) (l:List NS) (k:Nat):Prop:=∀j (hj:j<l.length),j<k->az (l[j].told kk)=true/\l[j].id<next/\∀(h:0<j),(l[j-1]' a?).id<l[j].id
theorem qb.zero (kk next l):qb kk next l 0:=fun j _ h=>absurd h (Nat.not_lt_zero j)
theorem qb.step {kk next l k} (h:qb kk next l k) (hk:k<l.length) (h1:az (l[k].told kk)=true) (h2:l[k].id<next) (h3:∀(h:0<k),(l[k-1]' a?).id<l[k].id):qb kk next l (k+1):=fun j hj hjk=>by
 by_cases e:j=k
 .subst e;exact⟨h1,h2,h3⟩
 .exact h j hj a?
theorem qb.all (h:qb kk next l l.length):(∀a∈l,az (a.told kk)=true)/\(∀a∈l,a.id<next)/\cG l:=by
 refine⟨fun a ha=>?_,fun a ha=>?_,pf (fun k hk=>?_)⟩
 .obtain⟨j,hj,rfl⟩:=Nr.1 ha;exact(h j hj hj).1
 .obtain⟨j,hj,rfl⟩:=Nr.1 ha;exact(h j hj hj).2.1
 .rw[iV];exact Or.inl ((h (k+1) hk hk).2.2 a?)
theorem Fh (hk:k<l.length) (h:az (l[k].told kk)=false):¬(cE kk l 2048/\cZ next l):=fun hh=>by
 have:=hh.1.2.1 l[k] (MJ hk)
 rw[h]at this;cases this
theorem CS (hk:k<l.length) (h:next<=l[k].id):¬(cE kk l 2048/\cZ next l):=fun hh=>by
 have:=hh.2.2 l[k] (MJ hk)
 omega
theorem CQ {kk next} (QY:kk=1\/kk=2) {l k} (hk:k<l.length) (h0:0<k) (h:l[k].id<=(l[k-1]' a?).id):¬(cE kk l 2048/\cZ next l):=fun hh=>by
 have h1:=hh.1.2.2.at_ hk (show k-1<k by omega)
 have h2:=(Fs QY (hh.1.2.1 l[k] (MJ hk))).1
 rw[iV,h2,ua]at h1
 rcases h1 with h1|h1
 .omega
 .cases h1.2
theorem Fi (h:qb kk next l l.length):(cE kk l 2048/\cZ next l)↔(l.length<=2048/\1<=next):=
 ⟨fun hh=>⟨hh.1.1,hh.2.1⟩,fun hh=>⟨⟨hh.1,h.all.1,h.all.2.2⟩,hh.2,h.all.2.1⟩⟩
theorem M25 {A:Prop}(h:A:=by
 refine tS ?_
 refine Ng c? ?_ _
 try simp only[List.set_cons_succ,List.set_cons_zero]
 go_wp2_with fail
 go_roundw
 case rel=>exact⟨k+1,Of.out,j?,HN.out,K4.out⟩
 case measure=>(have hh:=Of.out;simp[intOf];omega)):A:=h
theorem M17 {A:Prop}(h:A:=by
 go_wp2_with fail
 refine MK (S:=(fun W=>(W.cell? (aa b (off+k*4))=(A.id,())/\W.cell? (aa b (off+k*4+1))=A.name/\W.cell? (aa b (off+k*4+2))=A.size/\W.cell? (aa b (off+k*4+3))=(pk,nk,ck)))) c? u? (fun hHeld=>?_)
 refine tS ?_
 refine rD 5 (fun K hK=>?_)
 go_simp
 ((with_reducible refine(HT.out _).mono ?_));rintro e w3 ⟨rfl,k3⟩
 have K3:=tK (HK.out.drew.trans k3)
 clear k3
 go_wp2_with fail
 refine hK.out _ _ (HS.out _ K3.out) (fun hHeld=>nM ?_)
 clear hK K
 refine rD 6 (fun K hK=>?_)
 go_simp
 ((with_reducible refine(HM.out _ K3.out).mono ?_));rintro e w4 ⟨rfl,k4⟩
 have K4:=tK (K3.out.trans k4)
 clear k4
 go_wp2_with fail
 refine hK.out _ _ (HS.out _ K4.out) (fun hHeld=>nM ?_)
 clear hK K
 refine tS ?_
 refine Ng c? ?_ _
 try simp only[List.set_cons_succ,List.set_cons_zero]
 go_wp2_with fail
 go_ret
 exact aX HN.out K4.out):A:=h
theorem uM (kk next:Int) (QY:kk=1\/kk=2) (v l w) (h:aU w v l) (hl:jk l) (hlen:l.length<=1000000):
  am! 257 #[kk,v,(next,())] w (bG (cE kk l 2048/\cZ next l) w):=by
 obtain⟨pv,cv,rfl⟩:=h.shape
 have⟨H,ZP⟩:=f? h hl
 have YK:(Lit.int .i64 kk).wf=true:=by rcases QY with rfl|rfl<;>decide
 have⟨V6,SI⟩:=f? YK QY
 have j1:(l.length:Int)<=1000000:=a?
 clear h hl hlen YK QY
 go_enter func257,ntmps257
 go_wp2_with fail
 go_loopw [7] (fun i wr=>∃k:Nat,k<=l.length/\i=(k:Int)/\qb kk next l k/\NP [] w wr) (fun i _=>l.length-(intOf i).toNat)
 case atStart=>exact⟨0,Nb _,rfl,qb.zero _ _ _,NP.refl _ _⟩
 case round=>
  obtain⟨k,hk,rfl,hOK,hK⟩:=hrel
  rename World=>wr
  by_cases NV:k<l.length
  .have i1:(k:Int)<l.length:=a?
   obtain⟨b,off,kv,rfl,hia,hb,RU,hc2,SA⟩:=H.out.ja k NV
   have hT:=fun W=>sM kk (l[k]'NV) kv W hia.fz
   have hM:=fun W (q:NP [] w W)=>AF ((l[k]'NV).told kk) kv 0 W W ((hia.kept0 q).1) (ZP.out.2 _ (MJ NV)) (NS.dw hia.2.1 V6.out)
   have Ox:=fun h1 h2 h3=>hOK.step NV h1 h2 h3
   have QX:=fun h=>Fh (kk:=kk) (next:=next) NV h
   have QU:=fun h=>CS (kk:=kk) (next:=next) NV h
   have XT:=fun h0 h=>CQ (kk:=kk) (next:=next) SI.out NV h0 h
   have T8:∀(h0:0<k),∀W,NP [] w W->W.cell? (aa b (off+(k-1)*4))=some (.int .u32 (l[k-1]' a?).id):=fun h0 W q=>by
    have⟨b',off',kv',e,_,_,_,_,hh⟩:=H.out.ja (k-1) a?
    injection e with e
    injection e with e1 e2 _
    subst e1 e2
    exact(hh W q).1
   obtain⟨pk,nk,ck,rfl⟩:=hia.fz
   have⟨HK,Of,OY,Ts,Rs,XY,Ux,HT,HM,Vd⟩:=gc! hK NV Ox QX QU XT T8 hT hM SA
   unfold NS.told ag.cells NS.cells at HT
   unfold qd ag.cells at HM
   have Z5:∃mb,az ((l[k]'NV).told kk)=mb:=⟨_,rfl⟩
   obtain⟨mb,hmb⟩:=Z5
   rw[hmb]at Ts HM OY
   unfold NS.told at HM
   clear hT hM Ox QX QU XT T8 hia SA hb hOK hK hmb
   have WK:Hid (0<k->IntKind.i64.wrap ((k:Int)-1)=((k-1:Nat):Int)):=tK (fun h=>by rw[IntWalk.i64_in _ a?];omega)
   have i3:Hid (0<k->k-1<l.length):=tK (fun h=>by omega)
   generalize hLA:l[k]'NV=A at*
   clear hLA
   cases mb with
   |false=>
    have HN:=tK (Ts.out rfl)
    have HS:Hid (∀W,NP [] w W->(W.cell? (aa b (off+k*4))=(A.id,())/\W.cell? (aa b (off+k*4+1))=A.name/\W.cell? (aa b (off+k*4+2))=A.size/\W.cell? (aa b (off+k*4+3))=(pk,nk,ck))):=Vd
    clear Vd Ux Ts Rs XY OY WK i3
    exact M17
   |true=>
    by_cases TG:A.id<next
    .have d1:decide (next<=A.id)=false:=e?
     have d1':decide (A.id≥next)=false:=d1
     have T9:=tK TG
     clear TG
     by_cases h0:0<k
     .have d2:decide ((0:Int)<k)=true:=e?
      have d2n:decide (0<k)=true:=MV h0
      have d2':decide ((k:Int)>0)=true:=d2
      have i4:=i3.out h0
      have i5:((k-1:Nat):Int)<l.length:=a?
      have XR:=Ux.out h0
      have Oo:(l[k-1]'i4).id<A.id->qb kk next l (k+1):=fun h3=>OY.out rfl T9.out (fun _=>h3)
      have hn:=XY.out h0
      generalize (l[k-1]'i4).id=P at*
      have HS:=tK fun W q=>And.intro (Vd.out W q) (XR W q)
      have H0:=tK h0
      by_cases hp:P<A.id
      .have d3:decide (A.id<=P)=false:=e?
       have d3':decide (P≥A.id)=false:=d3
       have HN:=tK (Oo hp)
       clear Vd Ux Ts Rs XY OY i3 XR Oo hn hp h0
       go_wp2_with fail
       refine MK (S:=(fun W=>(W.cell? (aa b (off+k*4))=(A.id,())/\W.cell? (aa b (off+k*4+1))=A.name/\W.cell? (aa b (off+k*4+2))=A.size/\W.cell? (aa b (off+k*4+3))=(pk,nk,ck))/\W.cell? (aa b (off+(k-1)*4))=(P,()))) c? u? (fun hHeld=>?_)
       refine tS ?_
       refine rD 5 (fun K hK=>?_)
       go_simp
       ((with_reducible refine(HT.out _).mono ?_));rintro e w3 ⟨rfl,k3⟩
       have K3:=tK (HK.out.drew.trans k3)
       clear k3
       go_wp2_with fail
       refine hK.out _ _ (HS.out _ K3.out) (fun hHeld=>nM ?_)
       clear hK K
       refine rD 6 (fun K hK=>?_)
       go_simp
       ((with_reducible refine(HM.out _ K3.out).mono ?_));rintro e w4 ⟨rfl,k4⟩
       have K4:=tK (K3.out.trans k4)
       clear k4
       go_wp2_with fail
       refine hK.out _ _ (HS.out _ K4.out) (fun hHeld=>nM ?_)
       clear hK K
       have wk:=WK.out H0.out
       refine tS ?_
       clear wk
       exact M25
      .have d3:decide (A.id<=P)=true:=e?
       have d3':decide (P≥A.id)=true:=d3
       have HN:=tK (hn a?)
       clear Vd Ux Ts Rs XY OY i3 XR Oo hn hp h0
       go_wp2_with fail
       refine MK (S:=(fun W=>(W.cell? (aa b (off+k*4))=(A.id,())/\W.cell? (aa b (off+k*4+1))=A.name/\W.cell? (aa b (off+k*4+2))=A.size/\W.cell? (aa b (off+k*4+3))=(pk,nk,ck))/\W.cell? (aa b (off+(k-1)*4))=(P,()))) c? u? (fun hHeld=>?_)
       refine tS ?_
       refine rD 5 (fun K hK=>?_)
       go_simp
       ((with_reducible refine(HT.out _).mono ?_));rintro e w3 ⟨rfl,k3⟩
       have K3:=tK (HK.out.drew.trans k3)
       clear k3
       go_wp2_with fail
       refine hK.out _ _ (HS.out _ K3.out) (fun hHeld=>nM ?_)
       clear hK K
       refine rD 6 (fun K hK=>?_)
       go_simp
       ((with_reducible refine(HM.out _ K3.out).mono ?_));rintro e w4 ⟨rfl,k4⟩
       have K4:=tK (K3.out.trans k4)
       clear k4
       go_wp2_with fail
       refine hK.out _ _ (HS.out _ K4.out) (fun hHeld=>nM ?_)
       clear hK K
       have wk:=WK.out H0.out
       refine tS ?_
       clear wk
       refine Ng c? ?_ _
       try simp only[List.set_cons_succ,List.set_cons_zero]
       go_wp2_with fail
       go_ret
       exact aX HN.out K4.out
     .have YD:k=0:=a?
      have d2:decide ((0:Int)<k)=false:=e?
      have d2n:decide (0<k)=false:=MS h0
      have d2':decide ((k:Int)>0)=false:=d2
      have HN:=tK (OY.out rfl T9.out (fun h=>absurd h h0))
      have HS:Hid (∀W,NP [] w W->(W.cell? (aa b (off+k*4))=(A.id,())/\W.cell? (aa b (off+k*4+1))=A.name/\W.cell? (aa b (off+k*4+2))=A.size/\W.cell? (aa b (off+k*4+3))=(pk,nk,ck))):=Vd
      clear Vd Ux Ts Rs XY OY WK i3 h0 YD
      go_wp2_with fail
      refine MK (S:=(fun W=>(W.cell? (aa b (off+k*4))=(A.id,())/\W.cell? (aa b (off+k*4+1))=A.name/\W.cell? (aa b (off+k*4+2))=A.size/\W.cell? (aa b (off+k*4+3))=(pk,nk,ck)))) c? u? (fun hHeld=>?_)
      refine tS ?_
      refine rD 5 (fun K hK=>?_)
      go_simp
      ((with_reducible refine(HT.out _).mono ?_));rintro e w3 ⟨rfl,k3⟩
      have K3:=tK (HK.out.drew.trans k3)
      clear k3
      go_wp2_with fail
      refine hK.out _ _ (HS.out _ K3.out) (fun hHeld=>nM ?_)
      clear hK K
      refine rD 6 (fun K hK=>?_)
      go_simp
      ((with_reducible refine(HM.out _ K3.out).mono ?_));rintro e w4 ⟨rfl,k4⟩
      have K4:=tK (K3.out.trans k4)
      clear k4
      go_wp2_with fail
      refine hK.out _ _ (HS.out _ K4.out) (fun hHeld=>nM ?_)
      clear hK K
      exact M25
    .have d1:decide (next<=A.id)=true:=e?
     have d1':decide (A.id≥next)=true:=d1
     have HN:=tK (Rs.out a?)
     have HS:Hid (∀W,NP [] w W->(W.cell? (aa b (off+k*4))=(A.id,())/\W.cell? (aa b (off+k*4+1))=A.name/\W.cell? (aa b (off+k*4+2))=A.size/\W.cell? (aa b (off+k*4+3))=(pk,nk,ck))):=Vd
     clear Vd Ux Ts Rs XY OY WK i3 TG
     exact M17
  .obtain rfl:k=l.length:=a?
   have i1:¬(l.length:Int)<l.length:=a?
   have Ph:=Fi hOK
   have⟨HE,HK⟩:=f? Ph hK
   clear Ph hOK hK NV hk
   rcases(by omega:(2048:Int)<l.length\/((l.length:Int)<=2048/\next<1)\/((l.length:Int)<=2048/\1<=next))with g1|⟨g1,g2⟩|⟨g1,g2⟩
   .have d1:decide ((l.length:Int)<=2048)=false:=e?
    have HN:Hid (¬(cE kk l 2048/\cZ next l)):=tK (by rw[HE.out];omega)
    clear HE g1
    go_wp2_with fail
    go_ret
    exact aX HN.out HK.out
   .have d1:decide ((l.length:Int)<=2048)=true:=e?
    have d2:decide (next≥1)=false:=e?
    have d2':decide (1<=next)=false:=d2
    have HN:Hid (¬(cE kk l 2048/\cZ next l)):=tK (by rw[HE.out];omega)
    clear HE g1 g2
    go_wp2_with fail
    go_ret
    exact aX HN.out HK.out
   .have d1:decide ((l.length:Int)<=2048)=true:=e?
    have d2:decide (next≥1)=true:=e?
    have d2':decide (1<=next)=true:=d2
    have HN:Hid (cE kk l 2048/\cZ next l):=tK (by rw[HE.out];omega)
    clear HE g1 g2
    go_wp2_with fail
    go_ret
    exact gu HN.out HK.out
end
section
open Go.Proofs.Tryz Go.RowKit
variable {l:List NS} {k:Nat} {c:au}
def qc (l:List NS) (k:Nat):Prop:=∀j (hj:j<l.length),j<k->az (l[j].told 3)=true/\∀(h:0<j),iU (l[j-1]' a?).name l[j].name=true
theorem qc.zero (l):qc l 0:=fun j _ h=>absurd h (Nat.not_lt_zero j)
theorem qc.step {l k} (h:qc l k) (hk:k<l.length) (h1:az (l[k].told 3)=true) (h3:∀(h:0<k),iU (l[k-1]' a?).name l[k].name=true):qc l (k+1):=fun j hj hjk=>by
 by_cases e:j=k
 .subst e;exact⟨h1,h3⟩
 .exact h j hj a?
theorem qc.all (h:qc l l.length):(∀a∈l,az (a.told 3)=true)/\cG l:=by
 refine⟨fun a ha=>?_,pf (fun k hk=>?_)⟩
 .obtain⟨j,hj,rfl⟩:=Nr.1 ha;exact(h j hj hj).1
 .have h0:=(mc (h k a? a?).1).1
  have h1:=(mc (h (k+1) hk hk).1).1
  rw[iV];exact Or.inr ⟨by rw[h0,h1],(h (k+1) hk hk).2 a?⟩
theorem Ft (hk:k<l.length) (h:az (l[k].told 3)=false):¬cE 3 l 256:=fun hh=>by
 have:=hh.2.1 l[k] (MJ hk)
 rw[h]at this;cases this
theorem C8 {l k} (hk:k<l.length) (h0:0<k) (h:iU (l[k-1]' a?).name l[k].name=false):¬cE 3 l 256:=fun hh=>by
 have h1:=hh.2.2.at_ hk (show k-1<k by omega)
 have h2:=(mc (hh.2.1 l[k] (MJ hk))).1
 have h3:=(mc (hh.2.1 (l[k-1]' a?) (MJ _))).1
 rw[iV,h2,h3]at h1
 rcases h1 with h1|h1
 .omega
 .rw[h1.2]at h;cases h
theorem Fu (h:qc l l.length):cE 3 l 256↔l.length<=256:=⟨fun hh=>hh.1,fun hh=>⟨hh,h.all.1,h.all.2⟩⟩
theorem Fz (c):OL c↔(cE 3 c.names 256/\(cE 1 c.boxes 2048/\cZ c.nextBox c.boxes)/\(cE 2 c.mans 2048/\cZ c.nextMan c.mans)):=
 ⟨fun h=>⟨h.names,⟨h.boxes,h.nb⟩,⟨h.mans,h.nm⟩⟩,fun h=>⟨h.2.1.1,h.2.1.2,h.2.2.1,h.2.2.2,h.1⟩⟩
theorem M87 {A:Prop}(h:A:=by
 refine tS ?_
 refine Ng c? ?_ _
 try simp only[List.set_cons_succ,List.set_cons_zero]
 go_wp2_with fail
 go_ret
 exact aX HN.out (VF.out.trans K4.out)):A:=h
theorem AE (v c w) (h:dJ w v c) (hc:ie c):
  am! 206 #[v] w (bG (OL c) w):=by
 obtain⟨vb,vm,vn,rfl,hb,hm,hn,_⟩:=h
 have Ts:Hid (∀W,NP [] w W->am! 257 #[(1:Int),vb,(c.nextBox,())] W (bG (cE 1 c.boxes 2048/\cZ c.nextBox c.boxes) W)):=tK (fun W q=>uM 1 _ (Or.inl rfl) vb c.boxes W (hb.kept0 q) hc.1 hc.1.1)
 have Rs:Hid (∀W,NP [] w W->am! 257 #[(2:Int),vm,(c.nextMan,())] W (bG (cE 2 c.mans 2048/\cZ c.nextMan c.mans) W)):=tK (fun W q=>uM 2 _ (Or.inr rfl) vm c.mans W (hm.kept0 q) hc.2.1 hc.2.1.1)
 have VT:=tK (Fz c)
 obtain⟨p2,c2,rfl⟩:=hb.shape
 obtain⟨p3,c3,rfl⟩:=hm.shape
 obtain⟨pv,cv,rfl⟩:=hn.shape
 obtain⟨W1,hW1⟩:∃W1,W1=w.alloc (.cells #[(c.nextBox,()),(c.nextMan,()),(p2,c.boxes.length,c2),(p3,c.mans.length,c3),(pv,c.names.length,cv)] 52):=⟨_,rfl⟩
 have k1:NP [] w W1:=H?
 have oA:ae W1 w #[(c.nextBox,()),(c.nextMan,()),(p2,c.boxes.length,c2),(p3,c.mans.length,c3),(pv,c.names.length,cv)] 52:=U?
 have X7:Hid (∀W,NP [] W1 W->W.cell? w=(c.nextBox,())/\W.cell? (aa w 1)=(c.nextMan,())/\W.cell? (aa w 2)=(p2,c.boxes.length,c2)/\W.cell? (aa w 3)=(p3,c.mans.length,c3)/\W.cell? (aa w 4)=(pv,c.names.length,cv)):=tK (fun W q=>(q.own oA b?).k5)
 have H:=tK (hn.kept0 k1)
 have⟨VF,ZP⟩:=f? k1 hc.2.2
 have j1:(c.names.length:Int)<=1000000:=by have:=hc.2.2.1;omega
 clear hb hm hn hc k1 oA
 generalize OL c=MC at*
 obtain⟨nb,nm,LB,LM,l⟩:=c
 simp only at Ts Rs VT X7 H ZP j1 hW1 ⊢
 generalize (cE 1 LB 2048/\cZ nb LB)=P1 at*
 generalize (cE 2 LM 2048/\cZ nm LM)=P2 at*
 generalize LB.length=nlb at*
 generalize LM.length=nlm at*
 unfold bG at Ts Rs
 go_enter func206,ntmps206
 go_wp2_with fail
 rw[<-hW1]
 clear hW1
 go_loopw [3] (fun i wr=>∃k:Nat,k<=l.length/\i=(k:Int)/\qc l k/\NP [] W1 wr) (fun i _=>l.length-(intOf i).toNat)
 case atStart=>exact⟨0,Nb _,rfl,qc.zero _,NP.refl _ _⟩
 case round=>
  obtain⟨k,hk,rfl,hOK,hK⟩:=hrel
  rename World=>wr
  by_cases NV:k<l.length
  .have i1:(k:Int)<l.length:=a?
   obtain⟨b,off,kv,rfl,hia,hb,RU,hc2,SA⟩:=H.out.ja k NV
   have hT:=fun W=>sM 3 (l[k]'NV) kv W hia.fz
   have hM:=fun W (q:NP [] W1 W)=>AF ((l[k]'NV).told 3) kv 0 W W ((hia.kept0 q).1) (ZP.out.2 _ (MJ NV)) (NS.dw hia.2.1 d?)
   have Ox:=fun h1 h3=>hOK.step NV h1 h3
   have QX:=fun h=>Ft NV h
   have XT:=fun h0 h=>C8 NV h0 h
   have T8:∀(h0:0<k),∀W,NP [] W1 W->W.cell? (aa b (off+(k-1)*4+1))=some (.string (bs (l[k-1]' a?).name)):=fun h0 W q=>by
    have⟨b',off',kv',e,_,_,_,_,hh⟩:=H.out.ja (k-1) a?
    injection e with e
    injection e with e1 e2 _
    subst e1 e2
    exact(hh W q).2.1
   obtain⟨pk,nk,ck,rfl⟩:=hia.fz
   have⟨HK,Of,OY,Ub,Xc,Ux,HT,HM,Vd⟩:=gb! hK NV Ox QX XT T8 hT hM SA
   have⟨z0,z1,z2,z3,z4⟩:=X7.out wr hK
   unfold NS.told ag.cells NS.cells at HT
   unfold qd ag.cells at HM
   have Z5:∃mb,az ((l[k]'NV).told 3)=mb:=⟨_,rfl⟩
   obtain⟨mb,hmb⟩:=Z5
   rw[hmb]at Ub HM OY
   unfold NS.told at HM
   clear hT hM Ox QX XT T8 hia SA hb hOK hK hmb z0 z1 z2 z3
   have WK:Hid (0<k->IntKind.i64.wrap ((k:Int)-1)=((k-1:Nat):Int)):=tK (fun h=>by rw[IntWalk.i64_in _ a?];omega)
   have i3:Hid (0<k->k-1<l.length):=tK (fun h=>by omega)
   generalize hLA:l[k]'NV=A at*
   clear hLA
   cases mb with
   |false=>
    have HN:Hid (¬MC):=tK (fun h=>Ub.out rfl (VT.out.1 h).1)
    have HS:Hid (∀W,NP [] W1 W->((W.cell? (aa b (off+k*4))=(A.id,())/\W.cell? (aa b (off+k*4+1))=A.name/\W.cell? (aa b (off+k*4+2))=A.size/\W.cell? (aa b (off+k*4+3))=(pk,nk,ck))/\W.cell? (aa w 4)=some (.slice (some (aa b off)) l.length cv))):=tK (fun W q=>⟨Vd.out W q,(X7.out W q).2.2.2.2⟩)
    clear Vd Ux Ub Xc OY WK i3
    go_wp2_with fail
    refine MK (S:=(fun W=>((W.cell? (aa b (off+k*4))=(A.id,())/\W.cell? (aa b (off+k*4+1))=A.name/\W.cell? (aa b (off+k*4+2))=A.size/\W.cell? (aa b (off+k*4+3))=(pk,nk,ck))/\W.cell? (aa w 4)=some (.slice (some (aa b off)) l.length cv)))) c? u? (fun hHeld=>?_)
    refine tS ?_
    refine rD 5 (fun K hK=>?_)
    go_simp
    ((with_reducible refine(HT.out _).mono ?_));rintro e w3 ⟨rfl,k3⟩
    have K3:=tK (HK.out.drew.trans k3)
    clear k3
    go_wp2_with fail
    refine hK.out _ _ (HS.out _ K3.out) (fun hHeld=>nM ?_)
    clear hK K
    refine rD 6 (fun K hK=>?_)
    go_simp
    ((with_reducible refine(HM.out _ K3.out).mono ?_));rintro e w4 ⟨rfl,k4⟩
    have K4:=tK (K3.out.trans k4)
    clear k4
    go_wp2_with fail
    refine hK.out _ _ (HS.out _ K4.out) (fun hHeld=>nM ?_)
    clear hK K
    exact M87
   |true=>
    by_cases h0:0<k
    .have d2:decide ((0:Int)<k)=true:=e?
     have d2n:decide (0<k)=true:=MV h0
     have d2':decide ((k:Int)>0)=true:=d2
     have i4:=i3.out h0
     have i5:((k-1:Nat):Int)<l.length:=a?
     have XR:=Ux.out h0
     have Oo:iU (l[k-1]'i4).name A.name=true->qc l (k+1):=fun h3=>OY.out rfl (fun _=>h3)
     have hn:=Xc.out h0
     generalize (l[k-1]'i4).name=P at*
     have HS:Hid (∀W,NP [] W1 W->(((W.cell? (aa b (off+k*4))=(A.id,())/\W.cell? (aa b (off+k*4+1))=A.name/\W.cell? (aa b (off+k*4+2))=A.size/\W.cell? (aa b (off+k*4+3))=(pk,nk,ck))/\W.cell? (aa w 4)=some (.slice (some (aa b off)) l.length cv))/\W.cell? (aa b (off+(k-1)*4+1))=P)):=tK (fun W q=>⟨⟨Vd.out W q,(X7.out W q).2.2.2.2⟩,XR W q⟩)
     have H0:=tK h0
     obtain⟨q,hq⟩:∃q,iU P A.name=q:=⟨_,rfl⟩
     rw[hq]at Oo hn
     have d3:Op.bytesLess P A.name=q:=hq
     have d4:Op.bytesLess (bs P).toList (bs A.name).toList=q:=by rw[bj,bj];exact hq
     cases q with
     |true=>
      have HN:=tK (Oo rfl)
      clear Vd Ux Ub Xc OY i3 XR Oo hn hq h0
      go_wp2_with fail
      refine MK (S:=(fun W=>((W.cell? (aa b (off+k*4))=(A.id,())/\W.cell? (aa b (off+k*4+1))=A.name/\W.cell? (aa b (off+k*4+2))=A.size/\W.cell? (aa b (off+k*4+3))=(pk,nk,ck))/\W.cell? (aa w 4)=some (.slice (some (aa b off)) l.length cv))/\W.cell? (aa b (off+(k-1)*4+1))=P)) c? u? (fun hHeld=>?_)
      refine tS ?_
      refine rD 5 (fun K hK=>?_)
      go_simp
      ((with_reducible refine(HT.out _).mono ?_));rintro e w3 ⟨rfl,k3⟩
      have K3:=tK (HK.out.drew.trans k3)
      clear k3
      go_wp2_with fail
      refine hK.out _ _ (HS.out _ K3.out) (fun hHeld=>nM ?_)
      clear hK K
      refine rD 6 (fun K hK=>?_)
      go_simp
      ((with_reducible refine(HM.out _ K3.out).mono ?_));rintro e w4 ⟨rfl,k4⟩
      have K4:=tK (K3.out.trans k4)
      clear k4
      go_wp2_with fail
      refine hK.out _ _ (HS.out _ K4.out) (fun hHeld=>nM ?_)
      clear hK K
      have wk:=WK.out H0.out
      refine tS ?_
      clear wk
      exact M25
     |false=>
      have QU:=hn rfl
      have HN:Hid (¬MC):=tK (fun h=>QU (VT.out.1 h).1)
      clear Vd Ux Ub Xc OY i3 XR Oo hn QU hq h0
      go_wp2_with fail
      refine MK (S:=(fun W=>((W.cell? (aa b (off+k*4))=(A.id,())/\W.cell? (aa b (off+k*4+1))=A.name/\W.cell? (aa b (off+k*4+2))=A.size/\W.cell? (aa b (off+k*4+3))=(pk,nk,ck))/\W.cell? (aa w 4)=some (.slice (some (aa b off)) l.length cv))/\W.cell? (aa b (off+(k-1)*4+1))=P)) c? u? (fun hHeld=>?_)
      refine tS ?_
      refine rD 5 (fun K hK=>?_)
      go_simp
      ((with_reducible refine(HT.out _).mono ?_));rintro e w3 ⟨rfl,k3⟩
      have K3:=tK (HK.out.drew.trans k3)
      clear k3
      go_wp2_with fail
      refine hK.out _ _ (HS.out _ K3.out) (fun hHeld=>nM ?_)
      clear hK K
      refine rD 6 (fun K hK=>?_)
      go_simp
      ((with_reducible refine(HM.out _ K3.out).mono ?_));rintro e w4 ⟨rfl,k4⟩
      have K4:=tK (K3.out.trans k4)
      clear k4
      go_wp2_with fail
      refine hK.out _ _ (HS.out _ K4.out) (fun hHeld=>nM ?_)
      clear hK K
      have wk:=WK.out H0.out
      refine tS ?_
      clear wk
      exact M87
    .have d2:decide ((0:Int)<k)=false:=e?
     have d2n:decide (0<k)=false:=MS h0
     have d2':decide ((k:Int)>0)=false:=d2
     have HN:=tK (OY.out rfl (fun h=>absurd h h0))
     have HS:Hid (∀W,NP [] W1 W->((W.cell? (aa b (off+k*4))=(A.id,())/\W.cell? (aa b (off+k*4+1))=A.name/\W.cell? (aa b (off+k*4+2))=A.size/\W.cell? (aa b (off+k*4+3))=(pk,nk,ck))/\W.cell? (aa w 4)=some (.slice (some (aa b off)) l.length cv))):=tK (fun W q=>⟨Vd.out W q,(X7.out W q).2.2.2.2⟩)
     clear Vd Ux Ub Xc OY WK i3 h0
     go_wp2_with fail
     refine MK (S:=(fun W=>((W.cell? (aa b (off+k*4))=(A.id,())/\W.cell? (aa b (off+k*4+1))=A.name/\W.cell? (aa b (off+k*4+2))=A.size/\W.cell? (aa b (off+k*4+3))=(pk,nk,ck))/\W.cell? (aa w 4)=some (.slice (some (aa b off)) l.length cv)))) c? u? (fun hHeld=>?_)
     refine tS ?_
     refine rD 5 (fun K hK=>?_)
     go_simp
     ((with_reducible refine(HT.out _).mono ?_));rintro e w3 ⟨rfl,k3⟩
     have K3:=tK (HK.out.drew.trans k3)
     clear k3
     go_wp2_with fail
     refine hK.out _ _ (HS.out _ K3.out) (fun hHeld=>nM ?_)
     clear hK K
     refine rD 6 (fun K hK=>?_)
     go_simp
     ((with_reducible refine(HM.out _ K3.out).mono ?_));rintro e w4 ⟨rfl,k4⟩
     have K4:=tK (K3.out.trans k4)
     clear k4
     go_wp2_with fail
     refine hK.out _ _ (HS.out _ K4.out) (fun hHeld=>nM ?_)
     clear hK K
     exact M25
  .obtain rfl:k=l.length:=a?
   have i1:¬(l.length:Int)<l.length:=a?
   have Ph:=Fu hOK
   rw[Ph]at VT
   have HK:=tK hK
   have⟨z0,z1,z2,z3,z4⟩:=X7.out wr hK
   clear Ph hOK hK NV hk
   by_cases g1:l.length<=256
   .have d1:decide ((l.length:Int)<=256)=true:=e?
    have G1:=tK g1
    clear g1
    go_wp2_with fail
    refine(Ts.out _ (VF.out.trans HK.out)).mono ?_;rintro e w3 ⟨b1,rfl,TG,k3⟩
    have K3:=tK (HK.out.trans k3)
    have⟨z0,z1,z2,z3,z4⟩:=X7.out w3 K3.out
    have T9:=tK TG
    clear k3 TG
    cases b1 with
    |false=>
     have HN:Hid (¬MC):=tK (fun h=>by have:=T9.out.2 (VT.out.1 h).2.1;cases this)
     go_wp2_with fail
     go_ret
     exact aX HN.out (VF.out.trans K3.out)
    |true=>
     go_wp2_with fail
     refine(Rs.out _ (VF.out.trans K3.out)).mono ?_;rintro e w4 ⟨b2,rfl,Q3,k4⟩
     have K4:=tK (K3.out.trans k4)
     have Zd:=tK Q3
     clear k4 Q3
     cases b2 with
     |false=>
      have HN:Hid (¬MC):=tK (fun h=>by have:=Zd.out.2 (VT.out.1 h).2.2;cases this)
      go_wp2_with fail
      go_ret
      exact aX HN.out (VF.out.trans K4.out)
     |true=>
      have HN:Hid MC:=tK (VT.out.2 ⟨G1.out,T9.out.1 b?,Zd.out.1 b?⟩)
      go_wp2_with fail
      go_ret
      exact gu HN.out (VF.out.trans K4.out)
   .have d1:decide ((l.length:Int)<=256)=false:=e?
    have HN:Hid (¬MC):=tK (fun h=>g1 (VT.out.1 h).1)
    clear g1
    go_wp2_with fail
    go_ret
    exact aX HN.out (VF.out.trans HK.out)
theorem Ax {l:List ag} (h:k<l.length) {C:Int} (hC:(if az (l[k]'h)=true then(aW c (l[k]'h)).2 else 1)=C):
  (¬C=0->cH c (l.drop k)=(jR,C))/\(C=0->az (l[k]'h)=true/\(aW c (l[k]'h)).2=0/\cH c (l.drop k)=cH (aW c (l[k]'h)).1 (l.drop (k+1))):=by
 cases hm:az (l[k]'h)with
 |false=>
  rw[hm,if_neg d?]at hC
  subst hC
  exact⟨fun _=>wO h hm,fun h0=>absurd h0 d?⟩
 |true=>
  rw[hm,if_pos rfl]at hC
  exact⟨fun h0=>uJ h hm hC h0,fun h0=>⟨rfl,by rw[hC,h0],wN h hm (by rw[hC,h0])⟩⟩
theorem av.more {S T:Nat->Prop} {w:World} {v:Value} (h:av S w v c) (hT:∀x,T x->w.heap.size<=x):av (fun x=>S x\/T x) w v c:=by
 obtain⟨a,b,d,e,h1,h2,h3,h4⟩:=h
 exact⟨a,b,d,e,h1.more hT,h2.more hT,h3.more hT,h4⟩
theorem JJ {S0} (v c vl l lo hi w) (h:av S0 w v c) (Q6:∀x,S0 x->x<w.heap.size) (hc:ie c) (hr:bX w vl l lo hi) (WH:∀r∈l,∀a∈r.runs,aQ a) (P3:∀r∈l,r.runs.length<=1000000):
  am! 133 #[v,vl] w (dC S0 (N8 c l) w):=by
 have Tq:Hid (∀W,NP [] w W->am! 206 #[v] W (bG (OL c) W)):=tK (fun W q=>AE v c W (h.plain.kept0 q) hc)
 have QK:Hid (∀W,NP [] w W->av (fun x=>S0 x\/(x=w.heap.size\/x=w.heap.size+1)) W v c):=tK (fun W q=>(h.more (T:=fun x=>x=w.heap.size\/x=w.heap.size+1) (fun x hx=>by omega)).kept0 q)
 obtain⟨vb,vm,vn,rfl,hb,hm,hn,Rp,Te⟩:=h
 obtain⟨p1,c1,rfl⟩:=hb.plain.shape
 obtain⟨p2,c2,rfl⟩:=hm.plain.shape
 obtain⟨p3,c3,rfl⟩:=hn.plain.shape
 obtain⟨pl,cl,rfl⟩:=bS.shape hr
 have hL1:(l.length:Int)<=9223372036854775807:=by have:=bS.len hr;unfold maxLen at this;omega
 have⟨HR,HWL,XV,HS0⟩:=gh! hr WH P3 Q6
 have⟨oA,oB⟩:=ch w #[(c.nextBox,()),(c.nextMan,()),(p1,c.boxes.length,c1),(p2,c.mans.length,c2),(p3,c.names.length,c3)] #[.int .u32 0,.int .u32 0,(),(),()] 52 52
 have k0:NP [] w ((w.alloc (.cells #[(c.nextBox,()),(c.nextMan,()),(p1,c.boxes.length,c1),(p2,c.mans.length,c2),(p3,c.names.length,c3)] 52)).alloc (.cells #[.int .u32 0,.int .u32 0,(),(),()] 52)):=((NP.refl _ _).alloc _).alloc _
 have⟨K0,OA,OB⟩:=gg! k0 oA oB
 have⟨x0,x1,x2,x3,x4⟩:=oA.k5
 clear hb hm hn Rp Te hr WH P3 Q6 oA oB k0 hc
 unfold bG at Tq
 go_enter func133,ntmps133
 go_wp2_with fail
 refine(Tq.out _ K0.out).mono ?_;rintro e w2 ⟨bm,rfl,hbm,k2⟩
 have K2:=tK (K0.out.trans k2)
 have UW:=tK (k2.own OA.out b?)
 have XS:=tK (k2.own OB.out b?)
 have HBM:=tK hbm
 clear hbm k2
 cases bm with
 |false=>
  have HE:Hid (N8 c l=(jR,110)):=tK (by
   have Pz:¬OL c:=fun h=>by have:=HBM.out.2 h;cases this
   unfold N8;rw[if_neg Pz])
  have⟨y0,y1,y2,y3,y4⟩:=XS.out.k5
  have⟨g0,g1,g2,g3,g4⟩:=XS.out.y5
  go_wp2_with fail
  refine MN (v:=.tuple #[.agg #[.int .u32 0,.int .u32 0,(),(),()],(110:Int)]) (aj results133 rfl rfl (t:=52) ?_ underlying52 rfl c?) rfl ?_
  .exact XS.out.aV _ _ _ _ _
  .exact fl HE.out (jY _ _) (NP.ay K2.out (Or.inr (Nat.le_succ _)) _ _ _ _ _)
 |true=>
  have VT:Hid (OL c):=tK (HBM.out.1 rfl)
  obtain⟨R,hR⟩:∃R,cH c l=R:=⟨_,rfl⟩
  have Qf:N8 c l=R:=by unfold N8;rw[if_pos VT.out,hR]
  have⟨SG,Uc⟩:=f? Qf hR
  clear Qf hR x0 x1 x2 x3 x4
  go_wp2_with fail
  go_loopw [6] (fun i wr=>∃k cc vb vm vn,k<=l.length/\i=.int .i64 (k:Nat)/\Aa S0 w l R k cc wr vb vm vn) (fun i _=>l.length-(intOf i).toNat)
  case atStart=>exact⟨0,c,_,_,_,Nb _,rfl,⟨UW.out,XS.out,QK.out _ K2.out,VT.out,by rw[List.drop_zero];exact Uc.out,K2.out⟩⟩
  case round=>
   obtain⟨k,cc,vb,vm,vn,hk,rfl,hA⟩:=hrel
   rename World=>wr
   have HA:=tK hA
   obtain⟨_,_,⟨pb,nb,cb,rfl⟩,⟨pm,nm,cm,rfl⟩,⟨pn,nn,cn,rfl⟩⟩:=av.parts hA.cat
   by_cases NV:k<l.length
   .obtain⟨b,off,kv,rfl,r0,r1,r2,r3,r4,Oe,Oq,US,hbh,hih⟩:=bX.at_ (HR.out.kept0 hA.kept) k NV
    obtain⟨pr,cr,rfl⟩:=Oe.shape
    have Of:Hid (k<l.length):=tK NV
    have i1:(k:Int)<l.length:=a?
    have Sr:=HWL.out _ (MJ NV)
    have Qh:=XV.out _ (MJ NV)
    obtain⟨C,hC⟩:∃C,(if az (l[k]'NV)=true then(aW cc (l[k]'NV)).2 else 1)=C:=⟨_,rfl⟩
    have⟨UD,Pf⟩:=Ax (c:=cc) NV hC
    rw[hA.here]at UD Pf
    have Xz:=(eG Oq.2.1).1
    have hbs:off+k*5<off+k*5+5:=a?
    have QC:Hid (∀W,NP [] wr W->(W.cell? w=(cc.nextBox,())/\W.cell? (aa w 1)=(cc.nextMan,())/\W.cell? (aa w 2)=(pb,nb,cb)/\W.cell? (aa w 3)=(pm,nm,cm)/\W.cell? (aa w 4)=(pn,nn,cn))/\(W.cell? (aa b (off+k*5))=some (.int .i64 (l[k]'NV).kind)/\W.cell? (aa b (off+k*5+1))=some (.int .u32 (l[k]'NV).id)/\W.cell? (aa b (off+k*5+2))=some (.string (bs (l[k]'NV).name))/\W.cell? (aa b (off+k*5+3))=some (.int .i64 (l[k]'NV).size)/\W.cell? (aa b (off+k*5+4))=(pr,(l[k]'NV).runs.length,cr))):=tK (fun W q=>by
     have Uq:b<wr.heap.size:=a?
     exact⟨(q.own hA.own b?).k5,(q.cell Uq b?).trans r0,(q.cell Uq b?).trans r1,(q.cell Uq b?).trans r2,(q.cell Uq b?).trans r3,(q.cell Uq b?).trans r4⟩)
    have HWH:Hid (w.heap.size+1<wr.heap.size):=tK hA.res.lt
    have PX:∀x,(S0 x\/(x=w.heap.size\/x=w.heap.size+1))->x<wr.heap.size:=fun x hx=>by
     have h2:=HWH.out
     rcases hx with hx|hx
     .have:=HS0.out x hx;have:=hA.kept.size;omega
     .omega
    have XQ:Hid (∀W,NP [] wr W->am! 207 #[.agg #[(cc.nextBox,()),(cc.nextMan,()),(pb,nb,cb),(pm,nm,cm),(pn,nn,cn)],.agg ((l[k]'NV).cells (pr,(l[k]'NV).runs.length,cr))] W (jF (fun x=>S0 x\/(x=w.heap.size\/x=w.heap.size+1)) cc (l[k]'NV) W)):=tK (fun W q=>GF _ cc _ _ W (hA.cat.kept0 q) (fun x hx=>MR (PX x hx) q.size) hA.may (Oe.kept0 q).upto Oq Sr Qh)
    have HOB:Hid (∀W,NP [] wr W->wr.heap.size<W.heap.size->am! 207 #[.agg #[(cc.nextBox,()),(cc.nextMan,()),(pb,nb,cb),(pm,nm,cm),(pn,nn,cn)],.agg ((l[k]'NV).cells (pr,(l[k]'NV).runs.length,cr))] W (jF (fun x=>(S0 x\/(x=w.heap.size\/x=w.heap.size+1))\/x=wr.heap.size) cc (l[k]'NV) W)):=tK (fun W q hq=>GF _ cc _ _ W ((hA.cat.more (fun x hx=>by omega)).kept0 q) (fun x hx=>by rcases hx with hx|hx;exact MR (PX x hx) q.size;omega) hA.may (Oe.kept0 q).upto Oq Sr Qh)
    unfold jF at XQ HOB
    rw[hC]at XQ HOB
    unfold ag.cells at XQ HOB
    have RY:=tK UD
    have QH:Hid (C=0->∀c',(az (l[k]'NV)=true->(aW cc (l[k]'NV)).2=0->c'=(aW cc (l[k]'NV)).1)->OL c'/\R=cH c' (l.drop (k+1))):=tK (fun h0 c' hc'=>by
     have⟨o1,o2,o3⟩:=Pf h0
     rw[hc' o1 o2]
     exact⟨tY hA.may o1 Xz o2,o3⟩)
    clear UD Pf hC Xz Oe Oq Sr Qh hA US hbh hih PX r0 r1 r2 r3 r4 hbs
    generalize hrk:l[k]'NV=rk at*
    clear NV hrk hk
    have⟨z0,z1,z2,z3,z4⟩:=(QC.out wr (NP.refl _ _)).1
    go_upto_region 6 with fail
    go_cut [7,8]from 19 to 27 (fun v7 v8 wx=>∃nk c' a1 a2 a3,v7=.pointer (some ⟨nk,0,none⟩)/\v8=C/\ae wx nk #[.int .u32 c'.nextBox,.int .u32 c'.nextMan,a1,a2,a3] 52/\av (fun x=>S0 x\/(x=w.heap.size\/x=w.heap.size+1)) wx (.agg #[.int .u32 c'.nextBox,.int .u32 c'.nextMan,a1,a2,a3]) c'/\(az rk=true->(aW cc rk).2=0->c'=(aW cc rk).1)/\NP [] wr wx)
    case first=>
     refine MK (S:=(fun W=>(W.cell? w=(cc.nextBox,())/\W.cell? (aa w 1)=(cc.nextMan,())/\W.cell? (aa w 2)=(pb,nb,cb)/\W.cell? (aa w 3)=(pm,nm,cm)/\W.cell? (aa w 4)=(pn,nn,cn))/\(W.cell? (aa b (off+k*5))=rk.kind/\W.cell? (aa b (off+k*5+1))=(rk.id,())/\W.cell? (aa b (off+k*5+2))=rk.name/\W.cell? (aa b (off+k*5+3))=rk.size/\W.cell? (aa b (off+k*5+4))=(pr,rk.runs.length,cr)))) c? (by exact QC.out _ ((NP.refl [] wr).drew)) (fun hHeld=>?_)
     refine tS ?_
     refine wpAnyH_ready (rs:=[5,9]) c? b? ?_
     refine(AllReadyH.cons rfl (fun K hK=>?_) (AllReadyH.cons rfl (fun K hK=>?_) AllReadyH.nil))
     .go_simp
      ((with_reducible refine(XQ.out _ ((NP.refl [] wr).drew)).mono ?_));rintro e w4 ⟨cv,c',rfl,XL,UL,k4⟩
      have K4:=tK ((((NP.refl [] wr).drew)).trans k4)
      obtain⟨vb4,vm4,vn4,rfl,Wr,UT,hx3,YZ⟩:=XL
      have Oz:av (fun x=>S0 x\/(x=w.heap.size\/x=w.heap.size+1)) w4 (.agg #[(c'.nextBox,()),(c'.nextMan,()),vb4,vm4,vn4]) c':=⟨vb4,vm4,vn4,rfl,Wr,UT,hx3,YZ⟩
      obtain⟨_,_,⟨pb4,nb4,cb4,rfl⟩,⟨pm4,nm4,cm4,rfl⟩,⟨pn4,nn4,cn4,rfl⟩⟩:=av.parts Oz
      have⟨T5,HC4⟩:=f? Oz UL
      clear Wr UT hx3 YZ Oz UL
      clear k4
      go_wp2_with fail
      refine hK.out _ _ (QC.out _ K4.out) (fun hHeld=>nM ?_)
      clear hK K
      refine tS ?_
      refine rD 9 (fun K hK=>?_)
      go_simp
      refine hK.out _ _ (QC.out _ (K4.out.alloc _)) (fun hHeld=>nM ?_)
      clear hK K
      refine rD 10 (fun K hK=>?_)
      go_simp
      refine hK.out _ _ (QC.out _ (K4.out.alloc _)) (fun hHeld=>nM ?_)
      clear hK K
      refine tS ?_
      refine Ng c? ?_ _
      try simp only[List.set_cons_succ,List.set_cons_zero]
      go_wp2_with fail
      go_meet
      exact⟨_,_,_,_,_,rfl,rfl,ae.new _ _ _,T5.out.kept0 ((NP.refl _ _).alloc _),HC4.out,K4.out.alloc _⟩
     .go_simp
      refine hK.out _ _ (QC.out _ (((NP.refl [] wr).alloc _).drew)) (fun hHeld=>nM ?_)
      clear hK K
      refine rD 5 (fun K hK=>?_)
      go_simp
      ((with_reducible refine(HOB.out _ (((NP.refl [] wr).alloc _).drew) b?).mono ?_));rintro e w4 ⟨cv,c',rfl,XL,UL,k4⟩
      have K4:=tK (((((NP.refl [] wr).alloc (.cells #[.int .u32 0,.int .u32 0,(),(),()] 52)).drew)).trans k4)
      have oN:=k4.own ((ae.new wr #[.int .u32 0,.int .u32 0,(),(),()] 52).drew) b?
      have ON:=tK oN
      obtain⟨vb4,vm4,vn4,rfl,Wr,UT,hx3,YZ⟩:=XL
      have Oz:av (fun x=>(S0 x\/(x=w.heap.size\/x=w.heap.size+1))\/x=wr.heap.size) w4 (.agg #[(c'.nextBox,()),(c'.nextMan,()),vb4,vm4,vn4]) c':=⟨vb4,vm4,vn4,rfl,Wr,UT,hx3,YZ⟩
      obtain⟨_,_,⟨pb4,nb4,cb4,rfl⟩,⟨pm4,nm4,cm4,rfl⟩,⟨pn4,nn4,cn4,rfl⟩⟩:=av.parts Oz
      have⟨T5,HC4⟩:=f? Oz UL
      clear Wr UT hx3 YZ Oz UL
      clear k4 oN
      go_wp2_with fail
      refine hK.out _ _ (QC.out _ K4.out) (fun hHeld=>nM ?_)
      clear hK K
      have⟨y0,y1,y2,y3,y4⟩:=ON.out.k5
      have⟨g0,g1,g2,g3,g4⟩:=ON.out.y5
      refine tS ?_
      refine rD 10 (fun K hK=>?_)
      go_simp
      refine hK.out _ _ (QC.out _ (NP.ay K4.out (Or.inr (MG _)) (c'.nextBox,()) (c'.nextMan,()) (pb4,nb4,cb4) (pm4,nm4,cm4) (pn4,nn4,cn4))) (fun hHeld=>nM ?_)
      clear hK K
      refine tS ?_
      refine Ng c? ?_ _
      try simp only[List.set_cons_succ,List.set_cons_zero]
      go_wp2_with fail
      go_meet
      exact⟨_,_,_,_,_,rfl,rfl,ON.out.aV _ _ _ _ _,(T5.out.aS (NP.ay (NP.refl [wr.heap.size] _) (Or.inl b?) _ _ _ _ _) (fun x hx=>Or.inr h?)).cI (fun x hx=>Or.inl hx),HC4.out,(NP.ay K4.out (Or.inr (MG _)) (c'.nextBox,()) (c'.nextMan,()) (pb4,nb4,cb4) (pm4,nm4,cm4) (pn4,nn4,cn4))⟩
    case rest=>
     obtain⟨nk,c',a1,a2,a3,rfl,rfl,hon,Oz,UL,hkx⟩:=hcut
     rename World=>wx
     obtain⟨_,_,⟨pb4,nb4,cb4,rfl⟩,⟨pm4,nm4,cm4,rfl⟩,⟨pn4,nn4,cn4,rfl⟩⟩:=av.parts Oz
     have⟨T5,HC4⟩:=f? Oz UL
     have KX:=tK (HA.out.kept.trans hkx)
     have Q5:=tK (hkx.own HA.out.own b?)
     have UO:=tK (hkx.own HA.out.res b?)
     have⟨x0,x1,x2,x3,x4⟩:=Q5.out.k5
     have⟨f0,f1,f2,f3,f4⟩:=Q5.out.y5
     have⟨y0,y1,y2,y3,y4⟩:=UO.out.k5
     have⟨g0,g1,g2,g3,g4⟩:=UO.out.y5
     have⟨n0,n1,n2,n3,n4⟩:=hon.k5
     clear Oz UL hkx hon z0 z1 z2 z3 z4
     by_cases hC:C=0
     .subst hC
      have⟨Qy,Rg⟩:=QH.out rfl c' HC4.out
      have⟨Ul,HRE⟩:=f? Qy Rg
      clear Qy Rg
      go_wp2_with fail
      go_roundw
      case rel=>
       have hkT:NP [w.heap.size] wx (((((wx.setCell w (c'.nextBox,())).setCell (aa w 1) (c'.nextMan,())).setCell (aa w 2) (pb4,nb4,cb4)).setCell (aa w 3) (pm4,nm4,cm4)).setCell (aa w 4) (pn4,nn4,cn4)):=NP.ay (NP.refl _ _) (Or.inl b?) _ _ _ _ _
       (try (repeat apply Exists.intro);refine⟨?_,rfl⟩)
       refine⟨k+1,c',_,_,_,Of.out,G?,⟨Q5.out.aV _ _ _ _ _,?_,T5.out.aS hkT (fun x hx=>Or.inr (Or.inl h?)),Ul.out,HRE.out.symm,NP.ay KX.out (Or.inr (MG _)) _ _ _ _ _⟩⟩
       exact((((UO.out.other (p:=w) (Nat.succ_ne_self _) _).other (p:=(aa w 1)) (Nat.succ_ne_self _) _).other (p:=(aa w 2)) (Nat.succ_ne_self _) _).other (p:=(aa w 3)) (Nat.succ_ne_self _) _).other (p:=(aa w 4)) (Nat.succ_ne_self _) _
      case measure=>(have hh:=Of.out;simp[intOf];omega)
     .have HE:Hid (N8 c l=(jR,C)):=tK (by rw[SG.out];exact RY.out hC)
      have hcf:(C==0)=false:=by simpa using hC
      have hcn:(C != 0)=true:=by simp[bne,hcf]
      clear hC
      go_wp2_with fail
      refine MN (v:=.tuple #[.agg #[.int .u32 0,.int .u32 0,(),(),()],C]) (aj results133 rfl rfl (t:=52) ?_ underlying52 rfl c?) rfl ?_
      .exact UO.out.aV _ _ _ _ _
      .exact fl HE.out (jY _ _) (NP.ay KX.out (Or.inr (Nat.le_succ _)) _ _ _ _ _)
   .obtain rfl:k=l.length:=a?
    have Ph:R=(cc,0):=by
     have:=hA.here
     rw[List.drop_length]at this
     exact this.symm
    have HE:Hid (N8 c l=(cc,0)):=tK (by rw[SG.out];exact Ph)
    have i1:¬(l.length:Int)<l.length:=a?
    have⟨x0,x1,x2,x3,x4⟩:=hA.own.k5
    have⟨y0,y1,y2,y3,y4⟩:=hA.res.k5
    have⟨g0,g1,g2,g3,g4⟩:=hA.res.y5
    clear hA Ph hk NV
    go_wp2_with fail
    have hkT:NP [w.heap.size+1] wr (((((wr.setCell (aa (w+1) 0) (cc.nextBox,())).setCell (aa (w+1) 1) (cc.nextMan,())).setCell (aa (w+1) 2) (pb,nb,cb)).setCell (aa (w+1) 3) (pm,nm,cm)).setCell (aa (w+1) 4) (pn,nn,cn)):=NP.ay (NP.refl _ _) (Or.inl b?) _ _ _ _ _
    have Ws:=HA.out.cat.aS hkT (fun x hx=>Or.inr (Or.inr h?))
    have Za:av S0 _ _ cc:=av.cI Ws (fun x hx=>Or.inl hx)
    refine MN (v:=.tuple #[.agg #[(cc.nextBox,()),(cc.nextMan,()),(pb,nb,cb),(pm,nm,cm),(pn,nn,cn)],(0:Int)]) (aj results133 rfl rfl (t:=52) ?_ underlying52 rfl c?) rfl ?_
    .exact HA.out.res.aV _ _ _ _ _
    .exact fl HE.out Za (NP.ay HA.out.kept (Or.inr (Nat.le_succ _)) _ _ _ _ _)
theorem Eb {T:List Nat} (gv gr gi gx rb ro rn rc i:Nat) (rv:Value) (R:List (Int×Int)) (s:List UInt8) {w:World} {B b sb mb lo PU PC:Nat} {v:VS} (hV:aL T w B b sb mb lo v)
  (hc:∀W,PK [] b sb mb w W->W.cell? gv=B/\W.cell? gr=some (.slice (some (aa rb ro)) rn rc)/\W.cell? gi=(i:Int)/\W.cell? (aa rb (ro+i*5+4))=some rv/\W.cell? (aa gx 3)=s) (hi:i<rn) (_:rn<=1000000)
  (hR:af w rv R PU PC) (hl:R.length<=1000000) (Pj:∀a∈R,aQ a) (hs:s.length<=1048576) (ho:v.d.ops<=90000) (hw:v.d.waits.length<=1800):
  am! 48 #[gv,gr,gi,gx] w fun e w'=>e=.returned (.int .i64 (aZ (fun d=>OQ d R s) v).2)/\aL T w' B b sb mb lo (aZ (fun d=>OQ d R s) v).1/\PK [] b sb mb w w':=by
 have HP:Hid (∀W,NP [] w W->am! 49 #[b,rv,s] W fun e w'=>e=.returned (.int .i64 (OQ v.d R s).2)/\DA w' b sb mb lo (OQ v.d R s).1/\PK [] b sb mb W w'):=tK (fun W k=>LP rv R s PU PC (hV.da.aJ k) (hR.kept0 k) hl Pj hs ho hw)
 have HS:Hid (∀W,PK [] b sb mb w W->W.cell? gv=B/\W.cell? B=b/\W.cell? gr=some (.slice (some (aa rb ro)) rn rc)/\W.cell? gi=(i:Int)/\W.cell? (aa rb (ro+i*5+4))=some rv/\W.cell? (aa gx 3)=s):=tK (fun W k=>by
  have⟨c1,c2,c3,c4,c5⟩:=hc W k
  have⟨sv,vb,vm,vn,o,_,_⟩:=hV.vol
  exact⟨c1,(k.own o ⟨b?,hV.off.2⟩).cell 0 (by simp[bL]),c2,c3,c4,c5⟩)
 have HV:Hid (∀W,PK [] b sb mb w W->DA W b sb mb lo (OQ v.d R s).1->aL T W B b sb mb lo (aZ (fun d=>OQ d R s) v).1):=tK (fun W k hD=>hV.pk k hD (fun x hx=>by cases hx) b?)
 have HB:=tK hV.bH
 have⟨x0,x1,x2,x3,x4,x5⟩:=HS.out w (PK.refl _ _ _ _ _)
 obtain⟨p1,c1,rfl⟩:=hR.shape
 have i1:(i:Int)<rn:=a?
 clear hV hc hR hl Pj hs ho hw
 simp only[aZ]at HV ⊢
 generalize OQ v.d R s=F at*
 go_enter func48,ntmps48
 go_upto_region 1 with fail
 refine MK (S:=(fun W=>W.cell? gv=B/\W.cell? B=b/\W.cell? gr=some (.slice (some (aa rb ro)) rn rc)/\W.cell? gi=(i:Int)/\W.cell? (aa rb (ro+i*5+4))=(p1,R.length,c1)/\W.cell? (aa gx 3)=s)) c? (by exact HS.out _ ((NP.refl [] w).drew.eH HB.out)) (fun hHeld=>?_)
 refine tS ?_
 refine rD 11 (fun K hK=>?_)
 go_simp
 ((with_reducible refine(HP.out _ ((NP.refl [] w).drew)).mono ?_));rintro e w2 ⟨rfl,hD2,k2⟩
 have kk:=((NP.refl [] w).drew.eH (T:=[]) (sb:=sb) (mb:=mb) HB.out).trans k2
 have⟨KK,HD2⟩:=f? kk hD2
 clear hD2 kk k2
 go_wp2_with fail
 refine hK.out _ _ (HS.out _ KK.out) (fun hHeld=>nM ?_)
 clear hK K
 refine tS ?_
 refine Ng c? ?_ _
 try simp only[List.set_cons_succ,List.set_cons_zero]
 go_wp2_with fail
 go_ret
 exact⟨rfl,HV.out _ KK.out HD2.out,KK.out⟩
end
section
open Go.Proofs.Tryz Go.RowKit
variable {w w':World} {b sb:Nat} {d:DK} {cs:Array Value} {t:TypeId} {T:List Nat} {x0 x1 x2 x3 x4 x5 x6 x7 x8 x9 x10 x11 x12:Value}
theorem NL:type_of% @all_oneCell_toArray:=@all_oneCell_toArray
theorem Ec (B:Nat) (x0 x1 x2 x3 x4:Value) (s:List UInt8) (w:World):
  am! 50 #[B,.agg #[x0,x1,x2,x3,x4],s] w fun e w'=>e=.returned (.func (.func 107) #[] #[w.heap.size,↑(w+2:Nat),↑(w+1:Nat)])/\((w.alloc (.cells #[B] 27)).alloc (.cells #[x0,x1,x2,x3,x4] 52)).alloc (.cells #[s] 9)=w':=by
 go_enter func50,ntmps50
 go_wp2_with fail
 go_ret
 exact⟨rfl,rfl⟩
theorem aD.Lq {mb lo B} (h:aD w b sb mb lo d) (k:NP [B] w w') (hB:bf [] w b sb mb B) (o:ae w B cs t) (ht:206≠t):aD w' b sb mb lo d:=by
 obtain⟨wv,n,ob,os,Sr,hm,hn,h2,h3,h4,h5,h6,r⟩:=h
 obtain⟨_,n1,n2,n3,_⟩:=hB
 exact⟨wv,n,k.own ob (by simp only[Nm];exact fun e=>n1 e.symm),k.own os (by simp only[Nm];exact fun e=>n2 e.symm),bI Sr k o ht,hm.kept k (by simp only[Nm];exact fun e=>n3 e.symm),hn,h2,h3,h4,h5,Nk h6 k.size,r⟩
theorem SD.Lo {S mb} (k:NP S w w') (hb:b<w.heap.size) (hS:b∉S):SD T w' b sb mb=SD T w b sb mb:=by
 funext g
 unfold SD bf
 rw[WB.iw (k.cell (a:=(aa b 1)) hb hS)]
theorem ae.MB (h:ae w b #[x0,x1,x2,x3,x4,x5] t) (u):ae (w.setCell (aa b 3) u) b #[x0,x1,x2,u,x4,x5] t:=h.set 3 u
theorem dE.sw {mb x y cb cm cn c} (h:dE T w b sb mb (.agg #[x,y,cb,cm,cn]) c):(∃p n d,cb=.slice p n d)/\(∃p n d,cm=.slice p n d)/\(∃p n d,cn=.slice p n d):=by
 obtain⟨va,vb,vc,e,i1,i2,i3,_⟩:=h
 injection e with e
 injection e with e
 simp only[List.cons.injEq,and_true]at e
 obtain⟨_,_,rfl,rfl,rfl⟩:=e
 obtain⟨p1,c1,rfl⟩:=i1.plain.shape
 obtain⟨p2,c2,rfl⟩:=i2.plain.shape
 obtain⟨p3,c3,rfl⟩:=i3.plain.shape
 exact⟨⟨_,_,_,rfl⟩,⟨_,_,_,rfl⟩,⟨_,_,_,rfl⟩⟩
theorem ae.there (h:ae w b cs t) (o n) (hn:o+n<=cs.size):w.there b o n:=fun j hj=>⟨by rw[h.cell (o+j) a?];rfl,h.free _⟩
theorem dz {P:Program} {ops} {o:Oper} {a} {K:Act->World->Prop} {Q:Exit->Act->World->Prop} {E:Prop} (hg:o.guard=none) (ty:TypeId) (x y:Operand) (ho:o.op=.store ty x y) (b f cells) (hx:a.eval x=.pointer (some (aa b f))) (hy:a.eval y=.agg cells) (ht:w.there b f cells.size) (hi:(P.info? ty).map (·.size)=some cells.size) (h1:cells.all (·.oneCell')=true) (hK:K (a.put o.dst undef) (w.setCells b f cells.toList)):
  if Region.wanted o (yielded ops a.tmps)=true then Oper.wp P o a w K Q else E:=by
 have hw:Region.wanted o (yielded ops a.tmps)=true:=by simp[Region.wanted,hg]
 rw[if_pos hw]
 exact wp_store_mid ty x y ho b f cells hx hy ht hi h1 hK
theorem wq (w:World) (B:Nat) (a1 a2 a3 a4 a5:Value):w.setCells B 7 (#[a1,a2,a3,a4,a5]:Array Value).toList=(((((w.setCell (aa B 7) a1).setCell (aa B 8) a2).setCell (aa B 9) a3).setCell (aa B 10) a4).setCell (aa B 11) a5):=rfl
theorem wm (w:World) (B:Nat) (a1 a2 a3 a4 a5 a6:Value):w.setCells B 1 (#[a1,a2,a3,a4,a5,a6]:Array Value).toList=((((((w.setCell (aa B 1) a1).setCell (aa B 2) a2).setCell (aa B 3) a3).setCell (aa B 4) a4).setCell (aa B 5) a5).setCell (aa B 6) a6):=rfl
theorem ae.Mb (h:ae w b #[x0,x1,x2,x3,x4,x5,x6,x7,x8,x9,x10,x11,x12] t) (u7 u8 u9 u10 u11):ae (((((w.setCell (aa b 7) u7).setCell (aa b 8) u8).setCell (aa b 9) u9).setCell (aa b 10) u10).setCell (aa b 11) u11) b #[x0,x1,x2,x3,x4,x5,x6,u7,u8,u9,u10,u11,x12] t:=by
 have:=(((((h.set 7 u7).set 8 u8).set 9 u9).set 10 u10).set 11 u11)
 simpa using this
theorem ae.Ma (h:ae w b #[x0,x1,x2,x3,x4,x5,x6,x7,x8,x9,x10,x11,x12] t) (u1 u2 u3 u4 u5 u6):ae ((((((w.setCell (aa b 1) u1).setCell (aa b 2) u2).setCell (aa b 3) u3).setCell (aa b 4) u4).setCell (aa b 5) u5).setCell (aa b 6) u6) b #[x0,u1,u2,u3,u4,u5,u6,x7,x8,x9,x10,x11,x12] t:=by
 have:=((((((h.set 1 u1).set 2 u2).set 3 u3).set 4 u4).set 5 u5).set 6 u6)
 simpa using this
theorem D1 {j u s} (h:(Oa d j u s).2=0):0<=u/\u+s.length<=j*128/\jb d j u s=u+s.length:=by
 refine⟨?_,?_,by unfold jb;rw[if_pos h]⟩
 all_goals
  unfold Oa at h
  split at h
  .cases h
  .rename_i hf
   have hf:bo d.stand.length j u=0:=by simpa using hf
   have⟨f1,f2,f3,f4⟩:=jX hf
   split at h
   .cases h
   .omega
theorem I9 {T w b sb mb lo d} (s rv) (hD:DA w b sb mb lo d) (hT:∀x∈T,x<w.heap.size) (hr:ep T w b sb mb rv s.runs) (hm:s.may) (hq:s.seq<18446744073709551616) (ho:d.ops<=80000) (hw:d.waits.length<=8000) (W) (k:NP [] w W) (n gS gD) (hn:w.heap.size<=n) (hS:w.heap.size<=gS) (hDD:w.heap.size<=gD) (on:ae W n #[.func (.func 39) #[b] #[],.func (.func 92) #[] #[gS,gD]] 42) (oS:ae W gS (s.cells rv) 58) (od:ae W gD #[b] 23):
  am! 37 #[.slice (some n) 2 2] W fun e w'=>e=.returned (.int .i64 (aG [aA,cN s] d).2)/\DA w' b sb mb lo (aG [aA,cN s] d).1/\PK T b sb mb W w':=
 Kv n gS gD s rv (hD.aJ k) (fun x hx=>MR (hT x hx) k.size) on oS od (hD.bU hT k hn) (hD.bU hT k hS) (hD.bU hT k hDD) (hr.pk (k.eH hD.bH)) hm hq ho hw
theorem Ed {T:List Nat} (gv gt gc:Nat) (c:au) (cb cm cn:Value) (s:List UInt8) {w:World} {B b sb mb lo:Nat} {v:VS} (hV:aL T w B b sb mb lo v)
  (hc:∀W,PK [B] b sb mb w W->W.cell? gv=B/\W.cell? gt=s/\W.cell? gc=(c.nextBox,())/\W.cell? (aa gc 1)=(c.nextMan,())/\W.cell? (aa gc 2)=some cb/\W.cell? (aa gc 3)=some cm/\W.cell? (aa gc 4)=some cn)
  (Oz:dE T w b sb mb (.agg #[(c.nextBox,()),(c.nextMan,()),cb,cm,cn]) c)
  (hm:v.s.may) (hq:v.s.seq<=1000000) (hs:s.length<=4000) (ho:v.d.ops<=40000) (hw:v.d.waits.length<=3000):
  am! 107 #[gv,gt,gc] w fun e w'=>e=.returned (.int .i64 (bg c s v).2)/\aL T w' B b sb mb lo (bg c s v).1/\PK [B] b sb mb w w':=by
 have S2:=hm.1
 obtain⟨⟨q1,m1,d1,rfl⟩,⟨q2,m2,d2,rfl⟩,⟨q3,m3,d3,rfl⟩⟩:=dE.sw Oz
 have⟨sv,vb,vm,vn,o,hr,hcat0⟩:=hV.vol
 have⟨x0,x1,x2,x3,x4,x5,x6,x7,x8,x9,x10,x11,x12⟩:=o.ku
 obtain⟨⟨PU,PC,Oe⟩,RT⟩:=hr
 have HN:Hid (∀W,NP [] w W->am! 108 #[.agg (v.s.cells sv)] W fun e w'=>(∃v',e=.returned (.agg (SB.cells {v.s with seq:=v.s.seq+1} v'))/\af w' v' v.s.runs W.heap.size w')/\NP [] W w'):=tK (fun W k=>Li v.s sv PU PC W (Oe.kept0 k) (by have:=S2;unfold SB.dD at this;omega) a?)
 unfold SB.cells at HN
 simp only at HN
 clear x7 x8 x9 x10 x11 x12
 have⟨y0,y1,y2,y3,y4,y5,y6⟩:=hc w (PK.refl _ _ _ _ _)
 obtain⟨p1,c1,rfl⟩:=Oe.shape
 clear Oe RT hcat0 o
 go_enter func107,ntmps107
 go_wp2_with fail
 refine(HN.out _ (NP.refl _ _)).mono ?_;rintro e w2 ⟨⟨v',rfl,Th⟩,k2⟩
 obtain⟨p2,c2,rfl⟩:=Th.shape
 have P6:NP [] w (w2.alloc (.cells #[.int .u64 (↑v.s.seq+1),v.s.sectors,v.s.journal,v.s.used,v.s.size,(p2,v.s.runs.length,c2)] 58)):=k2.alloc _
 have oS3:=ae.new w2 #[.int .u64 (↑v.s.seq+1),v.s.sectors,v.s.journal,v.s.used,v.s.size,(p2,v.s.runs.length,c2)] 58
 have UC:af (w2.alloc (.cells #[.int .u64 (↑v.s.seq+1),v.s.sectors,v.s.journal,v.s.used,v.s.size,(p2,v.s.runs.length,c2)] 58)) (p2,v.s.runs.length,c2) v.s.runs w w2:=Th.kept0 ((NP.refl [] w2).alloc _)
 have hgS:w.heap.size<=w2.heap.size:=k2.size
 have hX:∀N,jb v.d v.s.journal v.s.used s=N->((Oa v.d v.s.journal v.s.used s).2≠0->bg c s v=(⟨(Oa v.d v.s.journal v.s.used s).1,v.s,v.c,v.dead⟩,(Oa v.d v.s.journal v.s.used s).2))/\((Oa v.d v.s.journal v.s.used s).2=0->(dH v.s N).may/\bg c s v=if(aG [aA,cN (dH v.s N)] (Oa v.d v.s.journal v.s.used s).1).2=0 then(⟨(aG [aA,cN (dH v.s N)] (Oa v.d v.s.journal v.s.used s).1).1,dH v.s N,c,v.dead⟩,0)else(⟨(aG [aA,cN (dH v.s N)] (Oa v.d v.s.journal v.s.used s).1).1,v.s,v.c,v.dead⟩,(aG [aA,cN (dH v.s N)] (Oa v.d v.s.journal v.s.used s).1).2)):=by
  rintro N rfl
  refine⟨fun h=>by unfold bg;rw[if_neg h],fun h=>?_⟩
  have⟨a1,a2,a3⟩:=D1 h
  rw[a3]
  exact⟨uW hm a? a?,by unfold bg;rw[if_pos h]⟩
 have hJ:Hid (∀W,NP [] w W->am! 109 #[b,v.s.journal,v.s.used,s] W fun e w'=>e=.returned (.tuple #[(jb v.d v.s.journal v.s.used s:Int),.int .i64 (Oa v.d v.s.journal v.s.used s).2])/\DA w' b sb mb lo (Oa v.d v.s.journal v.s.used s).1/\PK [] b sb mb W w'):=tK (fun W k=>FT v.s.journal v.s.used s (hV.da.aJ k) g! g! hs ho a?)
 have hfw:=Dy v.d v.s.journal v.s.used s
 have HFW:Hid ((Oa v.d v.s.journal v.s.used s).1.ops<=80000/\(Oa v.d v.s.journal v.s.used s).1.waits.length<=8000):=tK ⟨by have:=hfw.ops;omega,by have:=hfw.waits;omega⟩
 generalize hN:jb v.d v.s.journal v.s.used s=N at*
 have⟨hX1,hX2⟩:=hX _ rfl
 have⟨Ub,HX2⟩:=f? hX1 hX2
 have HVK:Hid (∀W D,PK [] b sb mb w W->DA W b sb mb lo D->aL T W B b sb mb lo ⟨D,v.s,v.c,v.dead⟩):=tK (fun W D k hD=>hV.pk k hD (fun x hx=>by cases hx) b?)
 have Wz:Hid (af (w2.alloc (.cells #[.int .u64 (↑v.s.seq+1),v.s.sectors,v.s.journal,v.s.used,v.s.size,(p2,v.s.runs.length,c2)] 58)) (p2,v.s.runs.length,c2) v.s.runs w w2):=tK UC
 have⟨HQ,K3,HC,QK,HV,HGS⟩:=gj! hq P6 hc Oz hV hgS
 have hB0:∀W,PK [] b sb mb w W->W.cell? B=b:=fun W k=>by
  have⟨sv0,vb0,vm0,vn0,o,_,_⟩:=hV.vol
  exact(k.own o ⟨b?,hV.off.2⟩).cell 0 (by simp[bL])
 have⟨ZB,aa4⟩:=f? hB0 oS3
 clear hX1 hX2 hX hfw hN hV hc Oz hm hq hs ho hw S2 Th UC k2 P6 HN hB0 oS3 hgS
 generalize Oa v.d v.s.journal v.s.used s=A at*
 go_upto_region 2 with fail
 generalize w2.heap.size=gS at*
 generalize w2.alloc (.cells #[.int .u64 (↑v.s.seq+1),v.s.sectors,v.s.journal,v.s.used,v.s.size,(p2,v.s.runs.length,c2)] 58)=w3 at*
 have HB:Hid (b<w.heap.size):=tK HV.out.bH
 have aaA:bf T w3 b sb mb gS:=HV.out.da.bU HV.out.hT K3.out HGS.out
 have Vy:=tK aaA
 have Ut:Hid (∀W,PK [] b sb mb w3 W->W.cell? gv=B/\W.cell? B=b/\W.cell? gt=s/\W.cell? (aa gS 2)=v.s.journal/\W.cell? (aa gS 3)=v.s.used):=tK (fun W k=>by
  have kk:=(K3.out.eH (T:=[]) (sb:=sb) (mb:=mb) HB.out).trans k
  have⟨c1,c2,_⟩:=HC.out W (kk.mono b?)
  have o:=k.own aa4.out ⟨b?,Vy.out.2⟩
  have⟨_,_,e2,e3,_⟩:=o.c6
  exact⟨c1,ZB.out W kk,c2,e2,e3⟩)
 have HB3:Hid (b<w3.heap.size):=tK (MR HB.out K3.out.size)
 clear aaA x0 x1 x2 x3 x4 x5 x6 y0 y1 y2 y3 y4 y5 y6
 have⟨y0,y1,y2,y3,y4⟩:=Ut.out w3 (PK.refl _ _ _ _ _)
 go_cut [5,6]from 12 to 24 (fun v5 v6 wx=>v5=N/\v6=A.2/\DA wx b sb mb lo A.1/\PK [] b sb mb w3 wx)
 case first=>
  refine MK (S:=(fun W=>W.cell? gv=B/\W.cell? B=b/\W.cell? gt=s/\W.cell? (aa gS 2)=v.s.journal/\W.cell? (aa gS 3)=v.s.used)) c? (by exact Ut.out _ ((NP.refl [] w3).drew.eH HB3.out)) (fun hHeld=>?_)
  refine tS ?_
  refine rD 9 (fun K hK=>?_)
  go_simp
  ((with_reducible refine(hJ.out _ (K3.out.drew)).mono ?_));rintro e w4 ⟨rfl,hD4,k4⟩
  have kk:=((NP.refl [] w3).drew.eH (T:=[]) (sb:=sb) (mb:=mb) HB3.out).trans k4
  have⟨KK,HD4⟩:=f? kk hD4
  clear hD4 kk k4
  go_wp2_with fail
  refine hK.out _ _ (Ut.out _ KK.out) (fun hHeld=>nM ?_)
  clear hK K
  refine tS ?_
  refine Ng c? ?_ _
  try simp only[List.set_cons_succ,List.set_cons_zero]
  go_wp2_with fail
  go_meet
  exact⟨rfl,rfl,HD4.out,KK.out⟩
 case rest=>
  obtain⟨rfl,rfl,hD4,k4⟩:=hcut
  rename World=>w4
  have acq:PK [] b sb mb w w4:=(K3.out.eH HB.out).trans k4
  have⟨HD4,K04,Zm⟩:=gg! hD4 acq k4
  clear hD4 acq k4 Ut y0 y1 y2 y3 y4 hJ
  by_cases hA:A.2=0
  .have e0:(A.2==0)=true:=by rw[hA];rfl
   have hX2:=HX2.out hA
   have aaX:=tK hX2
   have oS4:=Zm.out.own aa4.out ⟨b?,Vy.out.2⟩
   have⟨y0,y1,y2,y3,y4,y5⟩:=oS4.c6
   have z3:=oS4.free 3
   have ac7:=tK oS4
   clear hX2 Ub HX2 hA oS4
   go_upto_region 6 with fail
   have oS5:ae (w4.setCell (aa gS 3) N) gS #[.int .u64 (↑v.s.seq+1),v.s.sectors,v.s.journal,N,v.s.size,(p2,v.s.runs.length,c2)] 58:=ac7.out.MB _
   have k45:NP [gS] w4 (w4.setCell (aa gS 3) N):=(NP.refl [gS] w4).setCell (p:=(aa gS 3)) (Or.inl b?) _
   generalize w4.setCell (aa gS 3) N=w5 at*
   have S8:bf [] w4 b sb mb gS:=⟨b?,(Vy.out.pk (Zm.out.mono b?) aa4.out.lt).2⟩
   have Xq:b∉[gS]:=by simp only[Nm];exact fun e=>Vy.out.2.1 e.symm
   have hD5:DA w5 b sb mb lo A.1:=⟨HD4.out.disk.Lq k45 S8 ac7.out d?,HD4.out.fit⟩
   have abR:PK [] b sb mb w w5:=K04.out.GN k45 HB.out (fun x hx=>by
    obtain rfl:x=gS:=h?
    exact Or.inr HGS.out) Xq
   have UC:=Wz.out
   have VY:bD (SD T w3 b sb mb) (p2,v.s.runs.length,c2) v.s.runs.length:=(UC.new (T:=T) HV.out.da HV.out.hT K3.out (MG _)).2
   have hr4:=UC.pk VY (Zm.out.mono b?)
   have Yy:=VY.pk (Zm.out.mono b?) UC.mT
   have VL:af w5 (p2,v.s.runs.length,c2) v.s.runs w gS:=hr4.kept k45 (fun x hx=>by
    obtain rfl:x=gS:=h?
    exact Or.inr (MG _))
   have abz:ep T w5 b sb mb (p2,v.s.runs.length,c2) v.s.runs:=⟨⟨_,_,VL⟩,by rw[SD.Lo k45 HD4.out.bH Xq];exact Yy⟩
   have Qg:(dH v.s N).cells (.slice p2 v.s.runs.length c2)=#[.int .u64 (↑v.s.seq+1),.int .i64 v.s.sectors,.int .i64 v.s.journal,.int .i64 N,.int .i64 v.s.size,.slice p2 v.s.runs.length c2]:=by unfold SB.cells dH;simp
   have P9:=I9 (T:=[]) (dH v.s N) (p2,v.s.runs.length,c2) hD5 (fun x hx=>by cases hx) (abz.mono b?) aaX.out.1 (by show v.s.seq+1<_;have:=HQ.out;omega) HFW.out.1 HFW.out.2
   have hl:=Gx b (dH v.s N) (p2,v.s.runs.length,c2)
   rw[Qg]at P9 hl
   have⟨P8,HL⟩:=f? P9 hl
   clear P9 hl Qg
   have XP:b<w5.heap.size:=hD5.bH
   have X7:=tK XP
   have Yl:bf T w5 b sb mb gS:=⟨Vy.out.1,S8.2.1,S8.2.2.1,S8.2.2.2.1,fun hx=>S8.2.2.2.2 ((WB.iw (k45.cell (a:=(aa b 1)) HD4.out.bH Xq)).1 hx)⟩
   have⟨YV,abY,K05,adP⟩:=gh! Yl oS5 abR abz
   have HS5:Hid (∀W,PK [] b sb mb w5 W->W.cell? gv=B/\W.cell? B=b/\W.cell? gS=some (.int .u64 (↑v.s.seq+1))/\W.cell? (aa gS 1)=v.s.sectors/\W.cell? (aa gS 2)=v.s.journal/\W.cell? (aa gS 3)=N/\W.cell? (aa gS 4)=v.s.size/\W.cell? (aa gS 5)=(p2,v.s.runs.length,c2)):=tK (fun W k=>by
    have kk:=K05.out.trans k
    have⟨c1,_⟩:=HC.out W (kk.mono b?)
    have⟨e0,e1,e2,e3,e4,e5⟩:=(k.own abY.out ⟨b?,YV.out.2⟩).c6
    exact⟨c1,ZB.out W kk,e0,e1,e2,e3,e4,e5⟩)
   clear S8 Xq hD5 abR UC VY hr4 Yy VL abz XP Yl oS5 k45 y0 y1 y2 y3 y4 y5 z3
   have⟨y0,y1,y2,y3,y4,y5,y6,y7⟩:=HS5.out w5 (PK.refl _ _ _ _ _)
   generalize hCC:aG [aA,cN (dH v.s N)] A.1=CC at*
   clear hCC
   go_cut [6]from 25 to 42 (fun v6 wx=>v6=CC.2/\DA wx b sb mb lo CC.1/\PK [] b sb mb w5 wx)
   case first=>
    refine MK (S:=(fun W=>W.cell? gv=B/\W.cell? B=b/\W.cell? gS=some (.int .u64 (↑v.s.seq+1))/\W.cell? (aa gS 1)=v.s.sectors/\W.cell? (aa gS 2)=v.s.journal/\W.cell? (aa gS 3)=N/\W.cell? (aa gS 4)=v.s.size/\W.cell? (aa gS 5)=(p2,v.s.runs.length,c2))) c? (by exact HS5.out _ ((NP.refl [] w5).drew.eH X7.out)) (fun hHeld=>?_)
    refine tS ?_
    refine rD 10 (fun K hK=>?_)
    go_simp
    ((with_reducible refine(HL.out _).mono ?_));rintro e w6 ⟨rfl,rfl⟩
    go_wp2_with fail
    refine hK.out _ _ (HS5.out _ ((((NP.refl [] w5).alloc _).alloc _).drew.eH X7.out)) (fun hHeld=>nM ?_)
    clear hK K
    refine rD 11 (fun K hK=>?_)
    go_simp
    refine hK.out _ _ (HS5.out _ (((((NP.refl [] w5).alloc _).alloc _).alloc _).drew.eH X7.out)) (fun hHeld=>nM ?_)
    clear hK K
    have⟨o1,o2,o3⟩:=l9 w5 #[b] #[.int .u64 (↑v.s.seq+1),v.s.sectors,v.s.journal,N,v.s.size,(p2,v.s.runs.length,c2)] #[.func (.func 39) #[b] #[],.func (.func 92) #[] #[↑(w5+1:Nat),w5.heap.size]] 23 58 42
    refine rD 12 (fun K hK=>?_)
    go_simp
    ((with_reducible refine(P8.out _ (((((NP.refl [] w5).alloc _).alloc _).alloc _).drew) _ (w5.heap.size+1) w5 a? a? a? o3.drew o2.drew o1.drew).mono ?_));rintro e w7 ⟨rfl,hD7,k7⟩
    have kk:=((((((NP.refl [] w5).alloc (.cells #[b] 23)).alloc (.cells #[.int .u64 (↑v.s.seq+1),v.s.sectors,v.s.journal,N,v.s.size,(p2,v.s.runs.length,c2)] 58)).alloc (.cells #[.func (.func 39) #[b] #[],.func (.func 92) #[] #[↑(w5+1:Nat),w5.heap.size]] 42)).drew).eH (T:=[]) (sb:=sb) (mb:=mb) X7.out).trans k7
    have⟨KK,HD7⟩:=f? kk hD7
    clear hD7 kk k7 o1 o2 o3
    go_wp2_with fail
    refine hK.out _ _ (HS5.out _ KK.out) (fun hHeld=>nM ?_)
    clear hK K
    refine tS ?_
    refine Ng c? ?_ _
    try simp only[List.set_cons_succ,List.set_cons_zero]
    go_wp2_with fail
    go_meet
    exact⟨rfl,HD7.out,KK.out⟩
   case rest=>
    obtain⟨rfl,hD7,k7⟩:=hcut
    rename World=>w7
    have abm:PK [] b sb mb w w7:=K05.out.trans k7
    have⟨HD7,K07,K57⟩:=gg! hD7 abm k7
    have hV7:=HVK.out w7 CC.1 abm hD7
    have HV7:=tK hV7
    clear hD7 abm k7 hV7 y0 y1 y2 y3 y4 y5 y6 y7 P8 HL
    by_cases hC:CC.2=0
    .have e1:(CC.2==0)=true:=by rw[hC];rfl
     have hX3:=aaX.out.2
     rw[if_pos hC]at hX3
     have⟨Xc,HCZ⟩:=f? hX3 hC
     have hS7:∀W,PK [B] b sb mb w7 W->W.cell? gv=B/\W.cell? gc=(c.nextBox,())/\W.cell? (aa gc 1)=(c.nextMan,())/\W.cell? (aa gc 2)=(q1,m1,d1)/\W.cell? (aa gc 3)=(q2,m2,d2)/\W.cell? (aa gc 4)=(q3,m3,d3)/\W.cell? gS=some (.int .u64 (↑v.s.seq+1))/\W.cell? (aa gS 1)=v.s.sectors/\W.cell? (aa gS 2)=v.s.journal/\W.cell? (aa gS 3)=N/\W.cell? (aa gS 4)=v.s.size/\W.cell? (aa gS 5)=(p2,v.s.runs.length,c2):=fun W k=>by
      have kk:=(K07.out.mono (T:=[B]) b?).trans k
      have⟨c1,_,d0,d1,d2,d3,d4⟩:=HC.out W kk
      have⟨e0,e1,e2,e3,e4,e5⟩:=(((K57.out.mono (T:=[B]) b?).trans k).own abY.out (YV.out.Jf HV.out.hB)).c6
      exact⟨c1,d0,d1,d2,d3,d4,e0,e1,e2,e3,e4,e5⟩
     have HS7:=tK hS7
     have aaH:=QK.out.pk (K07.out.mono (T:=T) b?)
     have hr7:=adP.out.pk (K57.out.mono (T:=T) b?)
     have⟨sv7,vb7,vm7,vn7,o7,_,_⟩:=HV7.out.vol
     unfold bL at o7
     have⟨O7,HR7,acX⟩:=gg! o7 hr7 aaH
     have⟨y0,y1,y2,y3,y4,y5,y6,y7,y8,y9,y10,y11⟩:=hS7 w7 (PK.refl _ _ _ _ _)
     clear hr7 aaH hS7 o7 hC hX3
     go_upto_region 8 with fail
     generalize hq9:((v.s.seq:Int)+1)=q9 at*
     have HQ9:=tK hq9
     clear hq9
     refine MK (S:=(fun W=>W.cell? gv=B/\W.cell? gc=(c.nextBox,())/\W.cell? (aa gc 1)=(c.nextMan,())/\W.cell? (aa gc 2)=(q1,m1,d1)/\W.cell? (aa gc 3)=(q2,m2,d2)/\W.cell? (aa gc 4)=(q3,m3,d3)/\W.cell? gS=some (.int .u64 q9)/\W.cell? (aa gS 1)=v.s.sectors/\W.cell? (aa gS 2)=v.s.journal/\W.cell? (aa gS 3)=N/\W.cell? (aa gS 4)=v.s.size/\W.cell? (aa gS 5)=(p2,v.s.runs.length,c2))) c? (by exact HS7.out _ (HV7.out.tW (NP.refl [B] w7).drew)) (fun hHeld=>?_)
     refine tS ?_
     have o8:=O7.out.drew.Mb (c.nextBox,()) (c.nextMan,()) (q1,m1,d1) (q2,m2,d2) (q3,m3,d3)
     have k8:NP [B] w7 (((((w7.drew.setCell (aa B 7) (c.nextBox,())).setCell (aa B 8) (c.nextMan,())).setCell (aa B 9) (q1,m1,d1)).setCell (aa B 10) (q2,m2,d2)).setCell (aa B 11) (q3,m3,d3)):=(((((((NP.refl [B] w7).drew).setCell (p:=(aa B 7)) (Or.inl MY) (c.nextBox,())).setCell (p:=(aa B 8)) (Or.inl MY) (c.nextMan,())).setCell (p:=(aa B 9)) (Or.inl MY) (q1,m1,d1)).setCell (p:=(aa B 10)) (Or.inl MY) (q2,m2,d2)).setCell (p:=(aa B 11)) (Or.inl MY) (q3,m3,d3))
     refine rD 6 (fun K hK=>?_)
     refine dz rfl 52 _ _ rfl B 7 #[(c.nextBox,()),(c.nextMan,()),(q1,m1,d1),(q2,m2,d2),(q3,m3,d3)] g? g? (O7.out.drew.there 7 5 b?) c? (NL (cs:=[.int .u32 c.nextBox,.int .u32 c.nextMan,.slice q1 m1 d1,.slice q2 m2 d2,.slice q3 m3 d3]) l?) ?_
     rw[wq]
     generalize (((((w7.drew.setCell (aa B 7) (c.nextBox,())).setCell (aa B 8) (c.nextMan,())).setCell (aa B 9) (q1,m1,d1)).setCell (aa B 10) (q2,m2,d2)).setCell (aa B 11) (q3,m3,d3))=w8 at*
     have⟨O8,K8⟩:=f? o8 k8
     clear o8 k8
     refine hK.out _ _ ?_ (fun hHeld=>nM ?_)
     .exact HS7.out w8 (HV7.out.tW K8.out)
     clear hK K
     refine tS ?_
     have o9:=O8.out.Ma (.int .u64 q9) v.s.sectors v.s.journal N v.s.size (p2,v.s.runs.length,c2)
     have k9:NP [B] w7 ((((((w8.setCell (aa B 1) (.int .u64 q9)).setCell (aa B 2) v.s.sectors).setCell (aa B 3) v.s.journal).setCell (aa B 4) N).setCell (aa B 5) v.s.size).setCell (aa B 6) (p2,v.s.runs.length,c2)):=((((((K8.out.setCell (p:=(aa B 1)) (Or.inl MY) (.int .u64 q9)).setCell (p:=(aa B 2)) (Or.inl MY) v.s.sectors).setCell (p:=(aa B 3)) (Or.inl MY) v.s.journal).setCell (p:=(aa B 4)) (Or.inl MY) N).setCell (p:=(aa B 5)) (Or.inl MY) v.s.size).setCell (p:=(aa B 6)) (Or.inl MY) (p2,v.s.runs.length,c2))
     refine rD 9 (fun K hK=>?_)
     refine dz rfl 58 _ _ rfl B 1 #[.int .u64 q9,v.s.sectors,v.s.journal,N,v.s.size,(p2,v.s.runs.length,c2)] g? g? (O8.out.there 1 6 b?) c? (NL (cs:=[.int .u64 q9,.int .i64 v.s.sectors,.int .i64 v.s.journal,.int .i64 N,.int .i64 v.s.size,.slice p2 v.s.runs.length c2]) (by intro u hu;simp at hu;rcases hu with rfl|rfl|rfl|rfl|rfl|rfl<;>rfl)) ?_
     rw[wm]
     generalize ((((((w8.setCell (aa B 1) (.int .u64 q9)).setCell (aa B 2) v.s.sectors).setCell (aa B 3) v.s.journal).setCell (aa B 4) N).setCell (aa B 5) v.s.size).setCell (aa B 6) (p2,v.s.runs.length,c2))=w9 at*
     have⟨O9,K9⟩:=f? o9 k9
     clear o9 k9
     refine hK.out _ _ ?_ (fun hHeld=>nM ?_)
     .exact HS7.out w9 (HV7.out.tW K9.out)
     clear hK K
     have hv9:aL T w9 B b sb mb lo ⟨CC.1,dH v.s N,c,v.dead⟩:=HV7.out.Em (s:=dH v.s N) (c:=c) (dead:=v.dead) K9.out (by
      have e:((dH v.s N).seq:Int)=q9:=by show((v.s.seq+1:Nat):Int)=q9;have:=HQ9.out;omega
      unfold bL
      rw[e]
      exact O9.out) HR7.out acX.out
     have HV9:=tK hv9
     clear hv9
     refine Ng c? ?_ _
     try simp only[List.set_cons_succ,List.set_cons_zero]
     go_wp2_with fail
     go_ret
     rw[Xc.out]
     exact⟨by rw[HCZ.out];rfl,HV9.out,(K07.out.mono b?).trans (HV7.out.tW K9.out)⟩
    .have e1:(CC.2==0)=false:=by rw[Nl];exact hC
     have hX3:=aaX.out.2
     rw[if_neg hC]at hX3
     have Xc:=tK hX3
     clear hX3 hC
     go_wp2_with fail
     go_ret
     rw[Xc.out]
     exact⟨rfl,HV7.out,K07.out.mono b?⟩
  .have e0:(A.2==0)=false:=by rw[Nl];exact hA
   have aeG:=tK (Ub.out hA)
   have hV4:=HVK.out w4 A.1 K04.out HD4.out
   have HV4:=tK hV4
   clear hA Ub HX2 hV4
   go_wp2_with fail
   go_ret
   rw[aeG.out]
   exact⟨rfl,HV4.out,K04.out.mono b?⟩
end
section
open Go.Proofs.Tryz Go.RowKit
variable {d:DK} {s:SB} {c0 c:au} {ls:List (List ag)} {w:World}
def fF (SX:Option au) (w:World) (e:Ending) (w':World):Prop:=
 ((∃c v,SX=some c/\av (fun x=>x<w.heap.size) w' v c/\e=.returned (.tuple #[v,(0:Int)]))\/(SX=none/\∃C:Int,(C==0)=false/\∃x0 x1 p2 n2 c2 p3 n3 c3 p4 n4 c4,e=.returned (.tuple #[.agg #[.int .u32 x0,.int .u32 x1,.slice p2 n2 c2,.slice p3 n3 c3,.slice p4 n4 c4],C])))/\NP [] w w'
theorem qF (h:PA d s=none):Pn d s=none:=by unfold Pn;rw[h];rfl
theorem yh (h:Oi d s.journal s.used≠0):Pn d s=none:=by
 unfold Pn
 cases PA d s with
 |none=>rfl
 |some c=>
  show(if Oi d s.journal s.used=0 then _ else none)=none
  rw[if_neg h]
theorem qE (h:O4 (Pq d s.journal s.used)=none):Pn d s=none:=by
 unfold Pn
 cases PA d s with
 |none=>rfl
 |some c=>
  show(if Oi d s.journal s.used=0 then _ else none)=none
  rw[h]
  split<;>rfl
open Classical in
theorem uA (h1:PA d s=some c0) (h2:Oi d s.journal s.used=0) (h3:O4 (Pq d s.journal s.used)=some ls):
  (bM c0 ls=none->Pn d s=none)/\∀c,bM c0 ls=some c->(PB s.sectors s.journal (OK c++s.runs)->Pn d s=some c)/\(¬PB s.sectors s.journal (OK c++s.runs)->Pn d s=none):=by
 have e:∀o,bM c0 ls=o->Pn d s=o.bind fun c'=>if PB s.sectors s.journal (OK c'++s.runs)then some c' else none:=fun o ho=>by
  unfold Pn
  rw[h1]
  show(if Oi d s.journal s.used=0 then _ else none)=_
  rw[if_pos h2,h3]
  show(bM c0 ls).bind _=_
  rw[ho]
 refine⟨fun h=>by rw[e _ h];rfl,fun c h=>⟨fun hl=>?_,fun hl=>?_⟩⟩
 .rw[e _ h]
  show(if PB s.sectors s.journal (OK c++s.runs)then some c else none)=_
  rw[if_pos hl]
 .rw[e _ h]
  show(if PB s.sectors s.journal (OK c++s.runs)then some c else none)=_
  rw[if_neg hl]
theorem xx (d j u):Oi d j u=0\/Oi d j u=1\/Oi d j u=90:=by
 unfold Oi
 split
 .exact Or.inr (Or.inl rfl)
 .split
  .exact Or.inr (Or.inr rfl)
  .exact Or.inl rfl
structure Gm (S:Nat->Prop) (w:World) (n4 n6:Nat) (c0:au) (ls:List (List ag)) (k:Nat) (C:Int) (c:au) (wr:World) (vb vm vn:Value):Prop where
 own:ae wr n6 #[(c.nextBox,()),(c.nextMan,()),vb,vm,vn] 52
 res:ae wr n4 #[.int .u32 0,.int .u32 0,(),(),()] 52
 cat:av S wr (.agg #[(c.nextBox,()),(c.nextMan,()),vb,vm,vn]) c
 code:(C=0/\bM c0 (ls.take k)=some c/\OL c/\jn c/\cQ c<=cQ c0+(ls.take k).flatten.length)\/(C≠0/\bM c0 (ls.take k)=none)
 kept:NP [] w wr
theorem yr (c ls k) (h:bM c (ls.take k)=none):bM c ls=none:=by
 conv=>lhs;rw[<-List.take_append_drop k ls]
 rw[iL,h];rfl
theorem qI {k} (hk:k<ls.length) (h:bM c0 (ls.take k)=some c):bM c0 (ls.take (k+1))=if(N8 c ls[k]).2=0 then some (N8 c ls[k]).1 else none:=by
 rw[MI hk,iL,h]
 show(if(N8 c ls[k]).2=0 then bM (N8 c ls[k]).1 []else none)=_
 rfl
theorem zV (h:OL c) (hf:il c):∀a∈OK c,0<=a.1/\a.1<=65536/\0<=a.2/\a.2<=65536:=by
 intro a ha
 unfold OK at ha
 have⟨l,hl,hal⟩:=List.mem_flatten.1 ha
 obtain⟨r,hr,rfl⟩:=ND.1 hl
 obtain⟨k,hk,rfl⟩:=Nr.1 hal
 have:=(jU (jD h r hr) (hf.2.2 r hr)).rf.2 k hk
 omega
theorem Cd (h:s.may):∀a∈s.runs,0<=a.1/\a.1<=65536/\0<=a.2/\a.2<=65536:=by
 intro a ha
 obtain⟨k,hk,rfl⟩:=Nr.1 ha
 have h1:=fJ (MG _) h.2.1 k hk
 have h2:=dN.1 h1
 have h3:=h.1
 unfold SB.dD at h3
 omega
theorem rj {k} (h:bM c0 (ls.take k)=none):bM c0 (ls.take (k+1))=none:=by
 by_cases hk:k<ls.length
 .rw[MI hk,iL,h];rfl
 .rw[Nh a?]at h ⊢
  exact h
theorem km (w:World) (B:Nat) (a1 a2 a3 a4 a5:Value):w.setCells B 0 (#[a1,a2,a3,a4,a5]:Array Value).toList=(((((w.setCell B a1).setCell (aa B 1) a2).setCell (aa B 2) a3).setCell (aa B 3) a4).setCell (aa B 4) a5):=rfl
theorem av.sr {S x y vb vm vn} (h:av S w (.agg #[x,y,vb,vm,vn]) c):(∃p n d,vb=.slice p n d)/\(∃p n d,vm=.slice p n d)/\∃p n d,vn=.slice p n d:=by
 obtain⟨a,b,d,e,h1,h2,h3,_⟩:=h
 injection e with e
 simp only[Array.mk.injEq,List.cons.injEq,and_true]at e
 obtain⟨_,_,rfl,rfl,rfl⟩:=e
 obtain⟨p1,c1,rfl⟩:=h1.plain.shape
 obtain⟨p2,c2,rfl⟩:=h2.plain.shape
 obtain⟨p3,c3,rfl⟩:=h3.plain.shape
 exact⟨⟨_,_,_,rfl⟩,⟨_,_,_,rfl⟩,⟨_,_,_,rfl⟩⟩
theorem cD.len {w0 v l} (h:cD w0 w v l):l.length<=maxLen:=by
 obtain⟨vs,h1,h2,h3⟩:=h
 rcases h2.2 with⟨_,h4⟩|⟨g,cap,cur,_,_,_,h5,h6,_⟩
 .have:l.length=0:=by first|exact h4|omega
  omega
 .first|omega|(unfold maxLen at*;omega)
theorem adw {A:Prop}(h:A:=by
 have h1:=Xo.out.2.2
 have h2:=TC.out.2
 have h3:=HF.out
 have h4:=HN.out
 omega):A:=h
theorem I7 {b sb mb lo} (hD:DA w b sb mb lo d) (hn:d.stand.length<=96) (s v PU PC) (hr:af w v s.runs PU PC) (hm:s.may):
  am! 64 #[.pointer (some ⟨b,0,none⟩),.agg (s.cells v)] w (fF (Pn d s) w):=by
 have T7:=qg hm
 have U4:=hm.1
 unfold SB.dD at U4
 have VW:Hid (∀W,NP [] w W->am! 122 #[b,.agg (s.cells v)] W (mm d s W)):=tK (fun W k=>Ja (hD.aJ k) a? s v PU PC (hr.kept0 k) hm)
 unfold mm at VW
 have Xb:Hid (∀W,NP [] w W->am! 123 #[b,s.journal,s.used] W fun e w'=>e=.returned (.tuple #[.string (bs (Pq d s.journal s.used)),(Oi d s.journal s.used:Int)])/\W=w'):=tK (fun W k=>JU s.journal s.used (hD.aJ k) (mn a? a?) (mn a? a?))
 have SN:=me hD.fit s.journal s.used
 have Vb:Hid (∀W,am! 124 #[.string (bs (Pq d s.journal s.used))] W (lP (Pq d s.journal s.used) W)):=tK (fun W=>GI _ W a?)
 unfold lP at Vb
 have Ub:=tK (qF (d:=d) (s:=s))
 have HX2:=tK (yh (d:=d) (s:=s))
 have Xc:=tK (qE (d:=d) (s:=s))
 have HX4:=tK (fun c0 ls=>uA (d:=d) (s:=s) (c0:=c0) (ls:=ls))
 have Yc:=tK (xx d s.journal s.used)
 have HBA:=tK (fun c h=>rY hD.fit (s:=s) (c:=c) h)
 have HRN:Hid (∀W,NP [] w W->af W v s.runs PU PC):=tK (fun W k=>hr.kept0 k)
 have VI:=tK T7
 have Q1:Hid (s.sectors<=8192/\s.journal<=8192/\1<=s.journal/\4<=s.sectors/\s.runs.length<=16):=tK a?
 have HN:Hid (d.stand.length<=96):=tK hn
 have We:=tK (Cd hm)
 obtain⟨pr,cr,rfl⟩:=hr.shape
 generalize Pn d s=SX at*
 generalize PA d s=BX at*
 have HF:Hid ((Pq d s.journal s.used).length<=128*d.stand.length):=tK SN
 obtain⟨sq,se,jr,us,sz,rs⟩:=s
 simp only at*
 generalize Pq d jr us=X at*
 generalize Oi d jr us=G at*
 have⟨o0,o1⟩:=ch w #[.int .u64 sq,se,jr,us,sz,(pr,rs.length,cr)] #[.int .u32 0,.int .u32 0,(),(),()] 58 52
 have OP:=((NP.refl [] w).alloc (.cells #[.int .u64 sq,se,jr,us,sz,(pr,rs.length,cr)] 58)).alloc (.cells #[.int .u32 0,.int .u32 0,(),(),()] 52)
 have ab9:((w.alloc (.cells #[.int .u64 sq,se,jr,us,sz,(pr,rs.length,cr)] 58)).alloc (.cells #[.int .u32 0,.int .u32 0,(),(),()] 52)).heap.size=w.heap.size+2:=b?
 have acL:=tK ab9
 clear T7 U4 hr SN hD hn hm ab9
 simp only[SB.cells]at VW ⊢
 go_enter func64,ntmps64
 have⟨x0,x1,x2,x3,x4,x5⟩:=o0.c6
 have⟨O0,O1,K1⟩:=gg! o0 o1 OP
 clear o0 o1 OP
 go_wp2_with fail
 refine(VW.out _ K1.out).mono ?_;rintro e w2 ⟨Rz,k2⟩
 have O02:=tK (k2.own O0.out b?)
 have Us:=tK (k2.own O1.out b?)
 have K2:=tK (K1.out.trans k2)
 have Ye:Hid (w.heap.size+2<=w2.heap.size):=tK (by have:=k2.size;rw[acL.out]at this;exact this)
 clear k2 x0 x1 x2 x3 x4 x5
 rcases Rz with⟨c0,v0,hbx,Oz,rfl⟩|⟨hbx,C,hC,rfl⟩
 .obtain⟨vb,vm,vn,rfl,hb,TF,QT,SU,TS⟩:=id Oz
  obtain⟨p1,c1,rfl⟩:=hb.plain.shape
  obtain⟨p2,c2,rfl⟩:=TF.plain.shape
  obtain⟨p3,c3,rfl⟩:=QT.plain.shape
  have aaD:av (fun x=>x<w.heap.size+2) w2 (.agg #[(c0.nextBox,()),(c0.nextMan,()),(p1,c0.boxes.length,c1),(p2,c0.mans.length,c2),(p3,c0.names.length,c3)]) c0:=Oz.cI (fun x hx=>by rw[acL.out];exact hx)
  have aaJ:=(aaD.more (T:=fun x=>x=w2.heap.size) (fun x hx=>by rw[hx];exact MG _))
  have⟨HC,SP⟩:=f? aaJ hbx
  have Xo:=tK (HBA.out c0 hbx)
  clear Oz hb TF QT SU TS aaD aaJ hbx
  have o6:=ae.new w2 #[(c0.nextBox,()),(c0.nextMan,()),(p1,c0.boxes.length,c1),(p2,c0.mans.length,c2),(p3,c0.names.length,c3)] 52
  have k6:=(NP.refl [] w2).alloc (.cells #[(c0.nextBox,()),(c0.nextMan,()),(p1,c0.boxes.length,c1),(p2,c0.mans.length,c2),(p3,c0.names.length,c3)] 52)
  have⟨z0,z1,z2,z3,z4⟩:=o6.k5
  have⟨O6,K6⟩:=f? o6 k6
  have O0X:=tK (k6.own O02.out b?)
  have⟨x0,x1,x2,x3,x4,x5⟩:=O0X.out.c6
  clear o6 k6
  go_wp2_with fail
  have K3:=tK (K2.out.trans K6.out)
  have Uu:=tK (K6.out.own Us.out b?)
  have HC3:=tK (HC.out.kept0 K6.out)
  have RS:Hid (w.heap.size+2<=w2.heap.size/\w2.heap.size<(w2.alloc (.cells #[(c0.nextBox,()),(c0.nextMan,()),(p1,c0.boxes.length,c1),(p2,c0.mans.length,c2),(p3,c0.names.length,c3)] 52)).heap.size):=tK ⟨Ye.out,b?⟩
  generalize (w2.alloc (.cells #[(c0.nextBox,()),(c0.nextMan,()),(p1,c0.boxes.length,c1),(p2,c0.mans.length,c2),(p3,c0.names.length,c3)] 52))=w3 at*
  generalize hn6:w2.heap.size=n6 at*
  clear hn6 O02 Us K2 Ye HC K6
  refine(Xb.out _ K3.out).mono ?_;rintro e XU ⟨rfl,rfl⟩
  by_cases hg:G=0
  .have hgg:(G==0)=true:=by rw[hg];rfl
   have YZ:=fun ls P0=>HX4.out c0 ls SP.out hg P0
   have HX5:=tK YZ
   clear YZ hg
   go_wp2_with fail
   refine(Vb.out _).mono ?_;rintro e w4 ⟨Rz,k4⟩
   have K4:=tK (K3.out.trans k4)
   have O64:=tK (k4.own O6.out b?)
   have O04:=tK (k4.own O0X.out b?)
   have OR4:=tK (k4.own Uu.out b?)
   have HC4:=tK (HC3.out.kept0 k4)
   have Xw:Hid (w.heap.size+2<=n6/\n6<w3.heap.size/\w3.heap.size<=w4.heap.size):=tK ⟨RS.out.1,RS.out.2,k4.size⟩
   clear k4 z0 z1 z2 z3 z4 x0 x1 x2 x3 x4 x5
   rcases Rz with⟨ls,v9,P0,Tt,rfl⟩|⟨P0,rfl⟩
   .have VU:=tK Tt
    obtain⟨p9,c9,rfl⟩:=Tt.shape
    have HX6:=tK (HX5.out ls P0)
    have TC:=tK (pN P0)
    have RZ:=tK (fun l hl=>(kO P0 l hl).1)
    have aeo:(ls.length:Int)<=9223372036854775807:=by
     have:=VU.out.len
     unfold maxLen at this
     omega
    clear Tt P0
    go_wp2_with fail
    go_loopw [42,7] (fun i cv wr=>∃(k:Nat) (C:Int) (c:au) (vb vm vn:Value),k<=ls.length/\i=.int .i64 (k:Nat)/\cv=.int .i64 C/\NP [n6] w4 wr/\Gm (fun x=>x<w.heap.size+2\/x=n6) w (w.heap.size+1) n6 c0 ls k C c wr vb vm vn) (fun i _ _=>ls.length-(intOf i).toNat)
    case atStart=>exact⟨0,0,c0,_,_,_,Nb _,rfl,rfl,NP.refl _ _,⟨O64.out,OR4.out,HC4.out,Or.inl ⟨rfl,rfl,Xo.out.1,Xo.out.2.1,b?⟩,K4.out⟩⟩
    case round=>
     obtain⟨k,C,c,vb,vm,vn,hk,rfl,rfl,Q7,hA⟩:=hrel
     have⟨HA,Tl⟩:=f? hA Q7
     obtain⟨⟨pb,nb,cb,rfl⟩,⟨pm,nm,cm,rfl⟩,⟨pn,nn,cn,rfl⟩⟩:=av.sr hA.cat
     clear hA Q7
     by_cases NV:k<ls.length
     .have i1:(k:Int)<ls.length:=a?
      have Of:=tK NV
      have⟨bt,off,kv,ct,hpe,Rm⟩:=VU.out.at_ k NV
      injection hpe with hpe Rq hpc
      subst hpe
      subst hpc
      clear Rq
      have⟨Ou,Q8⟩:=Rm wr [n6] Tl.out (fun x hx=>by
       obtain rfl:x=n6:=h?
       exact Or.inl Xw.out.2.1)
      have Ug:=pO NV
      have Qy:=RZ.out _ (MJ NV)
      have Ri:=TC.out.1 _ (MJ NV)
      have Ox:=fun c hrp=>qI (c0:=c0) (c:=c) NV hrp
      obtain⟨pk,ck,rfl⟩:=Q8.shape
      have QC:=tK Q8.oI
      clear Rm Q8
      generalize XD:ls[k]'NV=lk at*
      clear XD NV
      rcases HA.out.code with⟨rfl,hrp,Pz,hfi,Q2⟩|⟨hC,hrp⟩
      .have HM:=tK Pz
       have⟨HFI,Wo⟩:=f? hfi Q2
       have Sb:=tK (Ox c hrp)
       have ZL:=tK Ug
       have⟨z0,z1,z2,z3,z4⟩:=HA.out.own.k5
       have Qf:=sf (S0:=fun x=>x<w.heap.size+2\/x=n6) _ c (pk,lk.length,ck) lk _ _ wr HA.out.cat (fun x hx=>by
        have h1:=Xw.out
        have h2:=Tl.out.size
        rcases hx with hx|hx<;>omega) Pz.small QC.out (fun r hr=>sV (Qy r hr) (Ri r hr)) (fun r hr=>by have:=jz (Qy r hr);omega)
       unfold dC at Qf
       have P8:=tK (kE [lk] (c:=c) (c':=(N8 c lk).1) Pz hfi (fun l hl r hr=>by
        obtain rfl:l=lk:=ae!
        exact Ri r hr))
       have SG:=tK Qf
       clear Qf Ug Qy Ri Ox hrp Pz hfi Q2 hk QC
       have Z2:∀C1,(N8 c lk).2=C1->C1=0->bM c [lk]=some (N8 c lk).1:=fun C1 h1 h2=>by
        show(if(N8 c lk).2=0 then some (N8 c lk).1 else none)=_
        rw[if_pos (h1.trans h2)]
       have aa6:=tK Z2
       clear Z2
       generalize N8 c lk=AP at*
       obtain⟨c5,C5⟩:=AP
       simp only at*
       go_wp2_with fail
       refine SG.out.mono ?_;rintro e w5 ⟨v5,rfl,hcat5,k5⟩
       obtain⟨vb5,vm5,vn5,rfl,XP,ZS,hn5,_,_⟩:=id hcat5
       obtain⟨VQ,c15,rfl⟩:=XP.plain.shape
       obtain⟨VN,c25,rfl⟩:=ZS.plain.shape
       obtain⟨VR,c35,rfl⟩:=hn5.plain.shape
       have VO:=tK hcat5
       have O5:=tK (k5.own HA.out.own b?)
       have OR5:=tK (k5.own HA.out.res b?)
       have K5:=tK (HA.out.kept.trans k5)
       have KN5:=tK (Tl.out.trans (k5.mono (T:=[n6]) b?))
       have⟨y0,y1,y2,y3,y4⟩:=O5.out.k5
       have⟨g0,g1,g2,g3,g4⟩:=O5.out.y5
       have Zo:Hid ((C5=0/\bM c0 (ls.take (k+1))=some c5/\OL c5/\jn c5/\cQ c5<=cQ c0+(ls.take (k+1)).flatten.length)\/(C5≠0/\bM c0 (ls.take (k+1))=none)):=tK (by
        have hs:=Sb.out
        by_cases h0:C5=0
        .rw[if_pos h0]at hs
         have⟨a1,a2,a3⟩:=P8.out (aa6.out C5 rfl h0)
         refine Or.inl ⟨h0,hs,a1,a2,?_⟩
         have:=Wo.out
         rw[ZL.out,tN]
         simp at a3
         omega
        .rw[if_neg h0]at hs
         exact Or.inr ⟨h0,hs⟩)
       clear hcat5 XP ZS hn5 k5 z0 z1 z2 z3 z4 Ou
       go_wp2_with fail
       go_roundw
       case rel=>
        refine⟨k+1,C5,c5,_,_,_,Of.out,j?,rfl,NP.ay KN5.out (Or.inl b?) _ _ _ _ _,⟨O5.out.aV _ _ _ _ _,?_,?_,Zo.out,NP.ay K5.out (Or.inr (by have:=Xw.out;omega)) _ _ _ _ _⟩⟩
        .exact(NP.ay (NP.refl [n6] _) (Or.inl b?) _ _ _ _ _).own OR5.out (by have:=Xw.out;simp;omega)
        .exact av.aS VO.out (NP.ay (NP.refl [n6] _) (Or.inl b?) _ _ _ _ _) (fun x hx=>by
          obtain rfl:x=n6:=h?
          exact Or.inr rfl)
       case measure=>(have hh:=Of.out;simp[intOf]<;>omega)
      .have hC0:(C==0)=false:=by simpa using hC
       have aeu:=tK (rj hrp)
       have HCC:=tK hC
       clear Ug Qy Ri Ox hrp hC hk QC
       go_wp2_with fail
       go_roundw
       case rel=>exact⟨k+1,C,c,_,_,_,Of.out,j?,rfl,Tl.out,⟨HA.out.own,HA.out.res,HA.out.cat,Or.inr ⟨HCC.out,aeu.out⟩,HA.out.kept⟩⟩
       case measure=>(have hh:=Of.out;simp[intOf]<;>omega)
     .have i1:¬(k:Int)<ls.length:=a?
      have QY:ls.take k=ls:=Nh a?
      have aaq:=HA.out.code
      rw[QY]at aaq
      have KK:=tK HA.out.kept
      clear QY NV hk
      rcases aaq with⟨rfl,hrp,Pz,hfi,Q2⟩|⟨hC,hrp⟩
      .have UF:=rQ.2 hfi
       have TW:=zV Pz UF
       have RD:cQ c<=5000:=by
        exact adw
       have P3:=l7 Pz
       have ack:Hid (∀W,NP [] wr W->am! 125 #[.agg #[(c.nextBox,()),(c.nextMan,()),(pb,nb,cb),(pm,nm,cm),(pn,nn,cn)],se,jr,(pr,rs.length,cr)] W (lS (PB se jr (OK c++rs)) W)):=tK (fun W q=>Ko _ c se jr _ rs PU PC W (HA.out.cat.plain.kept0 q) (by unfold cQ at RD;exact RD) (by unfold cQ at RD;omega) (HRN.out W (KK.out.trans q)) (by have:=Q1.out;omega) (fun a ha=>by
        rcases Na.1 ha with ha|ha
        .have:=TW a ha;unfold aQ;omega
        .exact VI.out a ha) (by have:=Q1.out;omega) (by have:=Q1.out;omega) (fun a ha=>by
        have h5:=Q1.out
        rcases Na.1 ha with ha|ha
        .have:=TW a ha;omega
        .have:=We.out a ha;omega))
       unfold lS at ack
       have HX7:=tK ((HX6.out).2 c hrp)
       have OS:=tK (Tl.out.own O04.out (by have:=Xw.out;simp;omega))
       clear UF TW RD P3 hrp Pz hfi Q2
       generalize PB se jr (OK c++rs)=LQ at*
       have Ow:Hid (∀W,NP [w.heap.size+1] wr W->W.cell? n6=(c.nextBox,())/\W.cell? (aa n6 1)=(c.nextMan,())/\W.cell? (aa n6 2)=(pb,nb,cb)/\W.cell? (aa n6 3)=(pm,nm,cm)/\W.cell? (aa n6 4)=(pn,nn,cn)/\W.cell? (aa w 1)=se/\W.cell? (aa w 2)=jr/\W.cell? (aa w 5)=(pr,rs.length,cr)):=tK (fun W k=>by
        have PW:=Xw.out
        have⟨a0,a1,a2,a3,a4⟩:=(k.own HA.out.own e?).k5
        have⟨b0,b1,b2,b3,b4,b5⟩:=(k.own OS.out b?).c6
        exact⟨a0,a1,a2,a3,a4,b1,b2,b5⟩)
       go_upto_region 16 with fail
       refine MK (S:=(fun W=>W.cell? n6=(c.nextBox,())/\W.cell? (aa n6 1)=(c.nextMan,())/\W.cell? (aa n6 2)=(pb,nb,cb)/\W.cell? (aa n6 3)=(pm,nm,cm)/\W.cell? (aa n6 4)=(pn,nn,cn)/\W.cell? (aa w 1)=se/\W.cell? (aa w 2)=jr/\W.cell? (aa w 5)=(pr,rs.length,cr))) c? (by exact Ow.out _ ((NP.refl [w.heap.size+1] wr).drew)) (fun hHeld=>?_)
       refine tS ?_
       refine rD 8 (fun K hK=>?_)
       go_simp
       ((with_reducible refine(ack.out _ ((NP.refl [] wr).drew)).mono ?_));rintro e w6 ⟨C6,rfl,hC6,k6⟩
       have Xs:=((NP.refl [] wr).drew).trans k6
       have⟨K6,HC6⟩:=f? Xs hC6
       have OR6:=tK (Xs.own HA.out.res b?)
       clear k6 Xs hC6
       go_wp2_with fail
       refine hK.out _ _ (Ow.out _ (K6.out.mono b?)) (fun hHeld=>nM ?_)
       clear hK K
       refine rD 9 (fun K hK=>?_)
       refine dz rfl 52 _ _ rfl (w.heap.size+1) 0 #[(c.nextBox,()),(c.nextMan,()),(pb,nb,cb),(pm,nm,cm),(pn,nn,cn)] g? g? (OR6.out.drew.there 0 5 b?) c? (NL (cs:=[.int .u32 c.nextBox,.int .u32 c.nextMan,.slice pb nb cb,.slice pm nm cm,.slice pn nn cn]) l?) ?_
       rw[km]
       have o9:=OR6.out.aV (c.nextBox,()) (c.nextMan,()) (pb,nb,cb) (pm,nm,cm) (pn,nn,cn)
       have k9:NP [w.heap.size+1] w6 (((((w6.setCell (aa (w+1) 0) (c.nextBox,())).setCell (aa (w+1) 1) (c.nextMan,())).setCell (aa (w+1) 2) (pb,nb,cb)).setCell (aa (w+1) 3) (pm,nm,cm)).setCell (aa (w+1) 4) (pn,nn,cn)):=NP.ay (NP.refl _ _) (Or.inl b?) _ _ _ _ _
       generalize (((((w6.setCell (aa (w+1) 0) (c.nextBox,())).setCell (aa (w+1) 1) (c.nextMan,())).setCell (aa (w+1) 2) (pb,nb,cb)).setCell (aa (w+1) 3) (pm,nm,cm)).setCell (aa (w+1) 4) (pn,nn,cn))=w9 at*
       have⟨O9,K9⟩:=f? o9 k9
       clear o9 k9
       refine hK.out _ _ (Ow.out _ ((K6.out.mono b?).trans K9.out)) (fun hHeld=>nM ?_)
       clear hK K
       refine tS ?_
       refine Ng c? ?_ _
       try simp only[List.set_cons_succ,List.set_cons_zero]
       have HKF:Hid (NP [] w w9):=tK ((KK.out.trans K6.out).call K9.out (fun x hx=>by
        obtain rfl:x=w.heap.size+1:=h?
        exact Or.inr a?))
       have HCF:Hid (av (fun x=>x<w.heap.size) w9 (.agg #[(c.nextBox,()),(c.nextMan,()),(pb,nb,cb),(pm,nm,cm),(pn,nn,cn)]) c):=tK ((av.aS (HA.out.cat.kept0 K6.out) K9.out (fun x hx=>by
        obtain rfl:x=w.heap.size+1:=h?
        exact Or.inl a?)).cI (fun x hx=>Or.inl a?))
       rcases HC6.out with⟨rfl,hq⟩|⟨rfl,hq⟩
       .have HQ:=tK (HX7.out.1 hq)
        clear hq
        go_wp2_with fail
        refine MN (v:=.tuple #[.agg #[(c.nextBox,()),(c.nextMan,()),(pb,nb,cb),(pm,nm,cm),(pn,nn,cn)],(0:Int)]) (aj results64 rfl rfl (t:=52) ?_ underlying52 rfl c?) rfl ?_
        .exact O9.out
        .unfold fF;exact⟨Or.inl ⟨c,_,HQ.out,HCF.out,rfl⟩,HKF.out⟩
       .have HQ:=tK (HX7.out.2 hq)
        clear hq
        go_wp2_with fail
        refine MN (v:=.tuple #[.agg #[(c.nextBox,()),(c.nextMan,()),(pb,nb,cb),(pm,nm,cm),(pn,nn,cn)],(110:Int)]) (aj results64 rfl rfl (t:=52) ?_ underlying52 rfl c?) rfl ?_
        .exact O9.out
        .unfold fF;exact⟨Or.inr ⟨HQ.out,110,d?,_,_,_,_,_,_,_,_,_,_,_,rfl⟩,HKF.out⟩
      .have hC0:(C==0)=false:=by simpa using hC
       have Pk:=tK (HX6.out.1 hrp)
       have HCC:=tK hC0
       have⟨z0,z1,z2,z3,z4⟩:=HA.out.own.k5
       have⟨y0,y1,y2,y3,y4⟩:=HA.out.res.k5
       have⟨g0,g1,g2,g3,g4⟩:=HA.out.res.y5
       clear hrp hC
       go_wp2_with fail
       refine MN (v:=.tuple #[.agg #[(c.nextBox,()),(c.nextMan,()),(pb,nb,cb),(pm,nm,cm),(pn,nn,cn)],C]) (aj results64 rfl rfl (t:=52) ?_ underlying52 rfl c?) rfl ?_
       .exact HA.out.res.aV _ _ _ _ _
       .unfold fF;exact⟨Or.inr ⟨Pk.out,C,(by first|exact HCC.out|simpa using HCC.out),_,_,_,_,_,_,_,_,_,_,_,rfl⟩,NP.ay KK.out (Or.inr a?) _ _ _ _ _⟩
   .have Pk:=tK (Xc.out P0)
    have⟨z0,z1,z2,z3,z4⟩:=O64.out.k5
    have⟨y0,y1,y2,y3,y4⟩:=OR4.out.k5
    have⟨g0,g1,g2,g3,g4⟩:=OR4.out.y5
    clear P0
    go_wp2_with fail
    refine wp_loop_rounds 1 ?_
    rw[rounds_succ]
    go_wp2_with fail
    refine MN (v:=.tuple #[.agg #[(c0.nextBox,()),(c0.nextMan,()),(p1,c0.boxes.length,c1),(p2,c0.mans.length,c2),(p3,c0.names.length,c3)],(110:Int)]) (aj results64 rfl rfl (t:=52) ?_ underlying52 rfl c?) rfl ?_
    .exact OR4.out.aV _ _ _ _ _
    .unfold fF;exact⟨Or.inr ⟨Pk.out,110,d?,_,_,_,_,_,_,_,_,_,_,_,rfl⟩,NP.ay K4.out (Or.inr a?) _ _ _ _ _⟩
  .have hg0:(G==0)=false:=by simpa using hg
   have Pk:=tK (HX2.out hg)
   have HGG:=tK hg0
   have⟨y0,y1,y2,y3,y4⟩:=Uu.out.k5
   have⟨g0,g1,g2,g3,g4⟩:=Uu.out.y5
   clear hg
   go_wp2_with fail
   refine MN (v:=.tuple #[.agg #[(c0.nextBox,()),(c0.nextMan,()),(p1,c0.boxes.length,c1),(p2,c0.mans.length,c2),(p3,c0.names.length,c3)],G]) (aj results64 rfl rfl (t:=52) ?_ underlying52 rfl c?) rfl ?_
   .exact Uu.out.aV _ _ _ _ _
   .unfold fF;exact⟨Or.inr ⟨Pk.out,G,(by first|exact HGG.out|simpa using HGG.out),_,_,_,_,_,_,_,_,_,_,_,rfl⟩,NP.ay K3.out (Or.inr a?) _ _ _ _ _⟩
 .have Pk:=tK (Ub.out hbx)
  have HCC:=tK hC
  have Q7:=(NP.refl [] w2).alloc (.cells #[.int .u32 0,.int .u32 0,(),(),()] 52)
  have o6:=ae.new w2 #[.int .u32 0,.int .u32 0,(),(),()] 52
  have Uu:=tK (Q7.own Us.out b?)
  have K3:=tK (K2.out.trans Q7)
  have⟨z0,z1,z2,z3,z4⟩:=o6.k5
  have⟨y0,y1,y2,y3,y4⟩:=Uu.out.k5
  have⟨g0,g1,g2,g3,g4⟩:=Uu.out.y5
  clear o6 Q7 hbx
  go_wp2_with fail
  refine MN (v:=.tuple #[.agg #[.int .u32 0,.int .u32 0,(),(),()],C]) (aj results64 rfl rfl (t:=52) ?_ underlying52 rfl c?) rfl ?_
  .exact Uu.out.aV _ _ _ _ _
  .unfold fF;exact⟨Or.inr ⟨Pk.out,C,(by first|exact HCC.out|simpa using HCC.out),_,_,_,_,_,_,_,_,_,_,_,rfl⟩,NP.ay K3.out (Or.inr a?) _ _ _ _ _⟩
theorem adu {A:Prop}(h:A:=by
 unfold N6 Ol le
 rw[if_neg b?,if_neg a?,if_neg e?,List.drop_drop];rfl):A:=h
theorem Jr (b k l w) (hR:aP w b (l.drop k) 0) (h:k+8<=l.length):
  am! 190 #[b] w fun e w'=>e=.returned (.int .u64 (le l k 8))/\aP w' b (l.drop (k+8)) 0/\NP [b] w w':=by
 have hu:=KO b (l.drop k) 0 w hR
 have e:N6 8 (l.drop k) 0=(le l k 8,l.drop (k+8),0):=by
  exact adu
 rw[e]at hu
 exact hu
theorem JK (b k l w) (hR:aP w b (l.drop k) 0) (h:k+4<=l.length):
  am! 191 #[.agg #[b]] w fun e w'=>e=(le l k 4:Int)/\aP w' b (l.drop (k+4)) 0/\NP [b] w w':=by
 have hu:=Lf b (l.drop k) w hR z?
 rw[List.drop_drop]at hu
 exact hu
theorem sQ (b k l w) (hR:aP w b (l.drop k) 0) (h:k+2<=l.length):
  am! 192 #[.agg #[b]] w fun e w'=>e=(le l k 2:Int)/\aP w' b (l.drop (k+2)) 0/\NP [b] w w':=by
 have hu:=Lj b (l.drop k) w hR z?
 rw[List.drop_drop]at hu
 exact hu
theorem CB (b l w) (hR:aP w b l 0) (h:8<=l.length):
  am! 189 #[b,(8:Int)] w fun e w'=>e=.returned (.string (bs (l.take 8)))/\aP w' b (l.drop 8) 0/\NP [b] w w':=by
 have hu:=ny b l 0 8 w hR
 have e:Ol 8 l 0=(l.take 8,l.drop 8,0):=by
  unfold Ol
  rw[if_neg b?,if_neg a?,if_neg a?];rfl
 rw[e]at hu
 exact hu
def Gs (w wx:World) (b rb o2:Nat) (v5:Value) (l:List UInt8):Prop:=
 ∃g,v5=.pointer (some ⟨g,0,none⟩)/\ae wx g #[.int .u64 (le l 8 8),(le l 16 4:Int),(le l 20 4:Int),(le l 24 4:Int),(le l 28 4:Int),()] 58/\aP wx b (l.drop 32) 0/\ae wx rb #[b] 251/\ae wx o2 #[.int .u64 0,(0:Int),(0:Int),(0:Int),(0:Int),()] 58/\NP [] w wx/\w.heap.size<=g/\g≠b/\g≠rb/\g≠o2
theorem Fe {w w7 b rb o2 l} (hR:aP w7 b (l.drop 32) 0) (hrb:ae w7 rb #[b] 251) (ho:ae w7 o2 #[.int .u64 0,(0:Int),(0:Int),(0:Int),(0:Int),()] 58) (hk:NP [] w w7):
  Gs w (w7.alloc (.cells #[.int .u64 (le l 8 8),(le l 16 4:Int),(le l 20 4:Int),(le l 24 4:Int),(le l 28 4:Int),()] 58)) b rb o2 w7.heap.size l:=
 ⟨w7.heap.size,rfl,ae.new _ _ _,ae.alloc hR _,hrb.alloc _,ho.alloc _,hk.alloc _,hk.size,by have:=ae.lt hR;omega,by have:=hrb.lt;omega,by have:=ho.lt;omega⟩
theorem Fc {w w7 b rb o2 g l} (og:ae w7 g #[.int .u64 0,(0:Int),(0:Int),(0:Int),(0:Int),()] 58) (hR:aP w7 b (l.drop 32) 0) (hrb:ae w7 rb #[b] 251) (ho:ae w7 o2 #[.int .u64 0,(0:Int),(0:Int),(0:Int),(0:Int),()] 58) (hk:NP [] w w7) (hg:w.heap.size<=g) (h1:g≠b) (h2:g≠rb) (h3:g≠o2):
  Gs w ((((((w7.setCell g (.int .u64 (le l 8 8))).setCell (aa g 1) (le l 16 4:Int)).setCell (aa g 2) (le l 20 4:Int)).setCell (aa g 3) (le l 24 4:Int)).setCell (aa g 4) (le l 28 4:Int)).setCell (aa g 5) ()) b rb o2 g l:=
 ⟨g,rfl,og.bp _ _ _ _ _ _,ae.mN hR (Ne.symm h1) _ _ _ _ _ _,hrb.mN (Ne.symm h2) _ _ _ _ _ _,ho.mN (Ne.symm h3) _ _ _ _ _ _,hk.bp (Or.inr hg) _ _ _ _ _ _,hg,h1,h2,h3⟩
theorem EW (l:List UInt8) (w:World) (h:l.length≠128) (_:l.length<=1000000):
  am! 121 #[l] w fun e w'=>e=.returned (.tuple #[.agg (gF.cells ()),(110:Int)])/\NP [] w w':=by
 have hz:(bs l).size=l.length:=NQ l
 have o:=ae.new w #[.int .u64 0,(0:Int),(0:Int),(0:Int),(0:Int),()] 58
 have Pb:((l.length:Int)==128)=false:=e?
 have⟨d0,d1,d2,d3,d4,d5⟩:=o.c6
 have z:=o.z6
 clear h
 generalize l.length=n at*
 go_enter func121,ntmps121
 go_wp2_with fail
 refine MN (v:=.tuple #[.agg #[.int .u64 0,(0:Int),(0:Int),(0:Int),(0:Int),()],(110:Int)]) ?_ ?_ ?_
 .exact aj results121 rfl rfl o underlying58 rfl c?
 .rfl
 .exact⟨rfl,(NP.refl _ _).alloc _⟩
theorem M31 {A:Prop}(h:A:=by
 go_wp2_with fail
 refine Q0.mono ?_;rintro e w5 ⟨rfl,QI⟩
 have Tv:=QI.own og b?
 have Sf:=QI.own ho b?
 have⟨y0,y1,y2,y3,y4,y5⟩:=Tv.c6
 have⟨x0,x1,x2,x3,x4,x5⟩:=Sf.c6
 have zo:=Sf.z6
 go_wp2_with fail
 refine MN (v:=.tuple #[.agg #[.int .u64 0,(0:Int),(0:Int),(0:Int),(0:Int),()],(110:Int)]) ?_ ?_ ?_
 .exact aj results121 rfl rfl (Sf.bp _ _ _ _ _ _) underlying58 rfl c?
 .rfl
 .exact ji HN.out ((hK.trans QI).bp (Or.inr (MG _)) _ _ _ _ _ _)):A:=h
theorem EX (l:List UInt8) (w:World) (h:l.length=128):
  am! 121 #[l] w (jH (0:Int) (110:Int) l w):=by
 have hz:(bs l).size=128:=by rw[NQ,h]
 have o:=ae.new w #[.int .u64 0,(0:Int),(0:Int),(0:Int),(0:Int),()] 58
 have QQ:=fun w=>nz (bs l) w
 rw[cC]at QQ
 have H1:=tK h
 clear h
 go_enter func121,ntmps121
 go_wp2_with fail
 refine(QQ _).mono ?_;rintro e w1 ⟨rfl,hR,OP⟩
 have o1:=OP.own o b?
 have TG:w.heap.size+1<w1.heap.size:=by have:=ae.lt hR;simp at this;omega
 have PY:NP [] w w1:=((NP.refl _ _).alloc _).trans OP
 rw[Nd]at hR
 clear QQ OP o
 have orb:=ae.new w1 #[↑(w+1:Nat)] 251
 have o1':=o1.alloc (.cells #[↑(w+1:Nat)] 251)
 have hR':=ae.alloc hR (.cells #[↑(w+1:Nat)] 251)
 have P6:=PY.alloc (.cells #[↑(w+1:Nat)] 251)
 clear o1 hR PY
 have ht8:=fun w h=>CB (w.heap.size+1) l w h r?
 go_wp2_with fail
 refine(CB _ l _ hR' r?).mono ?_;rintro e w2 ⟨rfl,Qn,Qo⟩
 have o2:=Qo.own o1' b?
 have rb2:=Qo.own orb e?
 have QI:NP [] w w2:=P6.call Qo b?
 have Q3:w1.heap.size<w2.heap.size:=rb2.lt
 clear o1' hR' P6 Qo orb ht8
 generalize hrb:w1.heap.size=rb at*
 clear hrb
 have c0:w2.cell? rb=some (.pointer (some (aa (w+1) 0))):=rb2.cell 0 b?
 have hU:∀W,aP W (w.heap.size+1) (l.drop 8) 0->ae W rb #[↑(w+1:Nat)] 251->am! 190 #[↑(w+1:Nat)] W fun e w'=>e=.returned (.int .u64 (le l 8 8))/\aP w' (w.heap.size+1) (l.drop 16) 0/\NP [w.heap.size+1] W w'/\ae w' rb #[↑(w+1:Nat)] 251/\w'.cell? rb=some (.pointer (some (aa (w+1) 0))):=fun W hr ho=>
  (Jr _ 8 l W hr r?).mono fun e w' hh=>⟨hh.1,hh.2.1,hh.2.2,hh.2.2.own ho e?,(hh.2.2.own ho e?).cell 0 b?⟩
 have hW:∀(k:Nat) W,k+4<=128->aP W (w.heap.size+1) (l.drop k) 0->ae W rb #[↑(w+1:Nat)] 251->am! 191 #[.agg #[↑(w+1:Nat)]] W fun e w'=>e=(le l k 4:Int)/\aP w' (w.heap.size+1) (l.drop (k+4)) 0/\NP [w.heap.size+1] W w'/\ae w' rb #[↑(w+1:Nat)] 251/\w'.cell? rb=some (.pointer (some (aa (w+1) 0))):=fun k W Qo hr ho=>
  (JK _ k l W hr r?).mono fun e w' hh=>⟨hh.1,hh.2.1,hh.2.2,hh.2.2.own ho e?,(hh.2.2.own ho e?).cell 0 b?⟩
 have⟨HU,HW⟩:=f? hU hW
 clear hU hW
 go_upto_region 5 with fail
 go_cut [5] (fun v5 wx=>Gs w wx (w.heap.size+1) rb w v5 l)
 case first=>
  go_region_held3 (fun w'=>w'.cell? rb=some (.pointer (some (aa (w+1) 0)))) (first|go_keep|exact((rb7.mN WV _ _ _ _ _ _).cell 0 b?))
   (first
    |(go_at_call 190;((with_reducible refine(HU.out _ ?_ ?_).mono ?_));(first|exact Qn|exact Qn.drew|exact(ae.alloc Qn _));(first|exact rb2|exact rb2.drew|exact(rb2.alloc _));rintro e w3 ⟨rfl,rr0,kk0,rb3,q0⟩;(first|(have WV:rb≠w2.heap.size:=(by have h9:=rb2.lt;omega);have hog:w2.heap.size∉[w.heap.size+1]:=e?;have og:=kk0.own (ae.drew (ae.new w2 #[.int .u64 0,(0:Int),(0:Int),(0:Int),(0:Int),()] 58)) e?;have⟨u0,u1,u2,u3,u4,u5⟩:=og.c6;have z6:=og.z6)|skip))
    |(go_at_call 191;((with_reducible refine(HW.out 16 _ a? ?_ ?_).mono ?_));(first|exact rr0|exact(ae.alloc rr0 _));(first|exact rb3|exact(rb3.alloc _));rintro e w4 ⟨rfl,rr1,Sd,rb4,q0⟩;(first|(have og:=Sd.own og hog;have⟨u0,u1,u2,u3,u4,u5⟩:=og.c6;have z6:=og.z6)|(have WV:rb≠w3.heap.size:=(by have h9:=rb3.lt;omega);have hog:w3.heap.size∉[w.heap.size+1]:=(by have h9:=rb3.lt;simp;omega);have og:=Sd.own (ae.new w3 #[.int .u64 0,(0:Int),(0:Int),(0:Int),(0:Int),()] 58) (by have h9:=rb3.lt;simp;omega);have⟨u0,u1,u2,u3,u4,u5⟩:=og.c6;have z6:=og.z6)|skip))
    |(go_at_call 191;((with_reducible refine(HW.out 20 _ a? ?_ ?_).mono ?_));(first|exact rr1|exact(ae.alloc rr1 _));(first|exact rb4|exact(rb4.alloc _));rintro e w5 ⟨rfl,rr2,kk2,rb5,q0⟩;(first|(have og:=kk2.own og hog;have⟨u0,u1,u2,u3,u4,u5⟩:=og.c6;have z6:=og.z6)|(have WV:rb≠w4.heap.size:=(by have h9:=rb4.lt;omega);have hog:w4.heap.size∉[w.heap.size+1]:=(by have h9:=rb4.lt;simp;omega);have og:=kk2.own (ae.new w4 #[.int .u64 0,(0:Int),(0:Int),(0:Int),(0:Int),()] 58) (by have h9:=rb4.lt;simp;omega);have⟨u0,u1,u2,u3,u4,u5⟩:=og.c6;have z6:=og.z6)|skip))
    |(go_at_call 191;((with_reducible refine(HW.out 24 _ a? ?_ ?_).mono ?_));(first|exact rr2|exact(ae.alloc rr2 _));(first|exact rb5|exact(rb5.alloc _));rintro e w6 ⟨rfl,rr3,Ti,rb6,q0⟩;(first|(have og:=Ti.own og hog;have⟨u0,u1,u2,u3,u4,u5⟩:=og.c6;have z6:=og.z6)|(have WV:rb≠w5.heap.size:=(by have h9:=rb5.lt;omega);have hog:w5.heap.size∉[w.heap.size+1]:=(by have h9:=rb5.lt;simp;omega);have og:=Ti.own (ae.new w5 #[.int .u64 0,(0:Int),(0:Int),(0:Int),(0:Int),()] 58) (by have h9:=rb5.lt;simp;omega);have⟨u0,u1,u2,u3,u4,u5⟩:=og.c6;have z6:=og.z6)|skip))
    |(go_at_call 191;((with_reducible refine(HW.out 28 _ a? ?_ ?_).mono ?_));(first|exact rr3|exact(ae.alloc rr3 _));(first|exact rb6|exact(rb6.alloc _));rintro e w7 ⟨rfl,rr4,kk4,rb7,q0⟩;(first|(have og:=kk4.own og hog;have⟨u0,u1,u2,u3,u4,u5⟩:=og.c6;have z6:=og.z6)|(have WV:rb≠w6.heap.size:=(by have h9:=rb6.lt;omega);have hog:w6.heap.size∉[w.heap.size+1]:=(by have h9:=rb6.lt;simp;omega);have og:=kk4.own (ae.new w6 #[.int .u64 0,(0:Int),(0:Int),(0:Int),(0:Int),()] 58) (by have h9:=rb6.lt;simp;omega);have⟨u0,u1,u2,u3,u4,u5⟩:=og.c6;have z6:=og.z6)|skip)))
  all_goals go_wp2_with fail
  all_goals go_meet
  all_goals
   have K4:NP [w.heap.size+1] w2 w7:=by
    refine NP.trans ?_ kk4;(try refine NP.alloc ?_ _)
    refine NP.trans ?_ Ti;(try refine NP.alloc ?_ _)
    refine NP.trans ?_ kk2;(try refine NP.alloc ?_ _)
    refine NP.trans ?_ Sd;(try refine NP.alloc ?_ _)
    refine NP.trans ?_ kk0
    repeat' first|exact NP.refl _ _|refine NP.drew ?_|refine NP.alloc ?_ _
   have l3:=rb3.lt
   have l4:=rb4.lt
   have l5:=rb5.lt
   have l6:=rb6.lt
   have rr:aP w7 (w.heap.size+1) (l.drop 32) 0:=rr4
   have ho7:=K4.own o2 b?
   have SV:NP [] w w7:=QI.call K4 b?
   clear K4 rr0 rr1 rr2 rr3 rr4 kk0 Sd kk2 Ti kk4 rb3 rb4 rb5 rb6 HU HW Qn o2 rb2 QI
   first
    |(with_reducible exact Fe rr rb7 ho7 SV)
    |(((with_reducible refine Fc og rr rb7 ho7 SV ?_ ?_ ?_ ?_))<;>omega)
 case rest=>
  obtain⟨g,rfl,og,hR,hrb,ho,hK,g1,g2,g3,g4⟩:=hcut
  have cr:wc.cell? rb=some (.pointer (some (aa (w+1) 0))):=hrb.cell 0 b?
  clear HU HW Qn o2 rb2 QI
  go_wp2_with fail
  refine(sQ _ 32 l _ hR r?).mono ?_;rintro e w3 ⟨rfl,Q4,P6⟩
  have Wk:=P6.own hrb e?
  have WI:=P6.own og e?
  have YI:=P6.own ho b?
  have V4:NP [] w w3:=hK.call P6 b?
  have cr:w3.cell? rb=some (.pointer (some (aa (w+1) 0))):=Wk.cell 0 b?
  clear hR P6 hrb og ho hK
  go_wp2_with fail
  refine(sQ _ 34 l _ Q4 r?).mono ?_;rintro e w4 ⟨rfl,So,Qo⟩
  have V8:=Qo.own Wk e?
  have Ww:=Qo.own WI e?
  have Yk:=Qo.own YI b?
  have X6:NP [] w w4:=V4.call Qo b?
  have Wh:aP w4 (w.heap.size+1) (l.drop (36+4*0)) 0:=So
  have Yd:w.heap.size+2<=w4.heap.size:=by have:=V8.lt;omega
  have hnl:le l 32 2<65536:=iN l 32 2
  have Vf:=jP l (le l 32 2)
  have hq:(PS l).seq<18446744073709551616:=iN l 8 8
  have hPy:=fun v lo hi W (h:af W v (PS l).runs lo hi) (hm:(PS l).may)=>JM (PS l) v lo hi W h hm hq
  have hPn:=fun v lo hi W (h:af W v (PS l).runs lo hi) (hm:¬(PS l).may)=>Hs (PS l) v lo hi W h (by rw[yQ,jP];omega) hm
  have hsb:ff l↔(le l 32 2<=16/\(PS l).may/\(PS l).aT=l):=by unfold ff;rw[H1.out];simp
  have⟨We,HPY,HPN,HDL⟩:=gh! hsb hPy hPn Vf
  clear Q4 Qo Wk WI YI V4 cr So hsb hPy hPn Vf hq
  have zo:=Yk.z6
  have⟨x0,x1,x2,x3,x4,x5⟩:=Yk.c6
  by_cases h16:16<le l 32 2
  .have HN:Hid (¬ff l):=fun hh=>by have:=(We.out.1 hh).1;omega
   clear We
   go_wp2_with fail
   refine MN (v:=.tuple #[.agg #[.int .u64 0,(0:Int),(0:Int),(0:Int),(0:Int),()],(110:Int)]) ?_ ?_ ?_
   .exact aj results121 rfl rfl (Yk.bp _ _ _ _ _ _) underlying58 rfl c?
   .rfl
   .exact ji HN.out (X6.bp (Or.inr (MG _)) _ _ _ _ _ _)
  .clear x0 x1 x2 x3 x4 x5 zo
   have ad5:le l 32 2<=16:=a?
   clear h16
   go_wp2_with fail
   go_loopw [40] (fun i wr=>∃(k:Nat) (v:Value),k<=le l 32 2/\i=(k:Int)/\aP wr (w.heap.size+1) (l.drop (36+4*k)) 0/\ae wr rb #[↑(w+1:Nat)] 251/\ae wr g #[.int .u64 (le l 8 8),(le l 16 4:Int),(le l 20 4:Int),(le l 24 4:Int),(le l 28 4:Int),v] 58/\wr.ownsRow (w.heap.size+2) 128 2 v k (NW (Pd l k))/\ae wr w #[.int .u64 0,(0:Int),(0:Int),(0:Int),(0:Int),()] 58/\NP [] w wr) (fun i _=>le l 32 2-(intOf i).toNat)
   case atStart=>exact⟨0,_,a?,rfl,Wh,V8,Ww,Nf _ _ _ _,Yk,X6⟩
   case round=>
    obtain⟨k,v,hk,rfl,hR,hrb,og,Ot,ho,hK⟩:=hrel
    obtain⟨pv,cv,rfl⟩:=ah Ot
    by_cases NV:k<le l 32 2
    .have cr:wr.cell? rb=some (.pointer (some (aa (w+1) 0))):=hrb.cell 0 b?
     have YE:Hid (Pd l (k+1)=Pd l k++[(((le l (36+4*k) 2:Nat):Int),((le l (38+4*k) 2:Nat):Int))]):=rfl
     have afp:k<=16:=a?
     obtain⟨i0,hi0,Rh,Qc,Qx⟩:=eV
     clear We HPY HPN Wh V8 Ww Yk X6
     go_wp2_with fail
     refine(sQ _ (36+4*k) l _ hR r?).mono ?_;rintro e w3 ⟨rfl,Q4,P6⟩
     have Wk:=P6.own hrb e?
     have WI:=P6.own og e?
     have YI:=P6.own ho b?
     have V4:NP [] w w3:=hK.call P6 b?
     have RF:=ax Ot P6 b?
     have cr:w3.cell? rb=some (.pointer (some (aa (w+1) 0))):=Wk.cell 0 b?
     have cg:w3.cell? (aa g 5)=(pv,k,cv):=ae.cell WI 5 b?
     have aco:aP w3 (w.heap.size+1) (l.drop (38+4*k)) 0:=by rw[show 38+4*k=36+4*k+2 from by omega];exact Q4
     clear hR P6 hrb og ho hK Ot Q4
     generalize le l (36+4*k) 2=n1 at*
     go_wp2_with fail
     have q3:k+1<=maxLen:=m?
     have q4:(k+1)*16<=140737488355328:=a?
     have hH:=tK (show le l (38+4*k) 2=le l (38+4*k) 2 from rfl)
     have aav:=fun W h=>sQ (w.heap.size+1) (38+4*k) l W h r?
     generalize le l (38+4*k) 2=n2 at*
     have HH:=tK aav
     clear aav hH
     go_region_law (first
      |(refine step_append_lies _ L? (.tmp 45) (.tmp 50) 56 L? (w.heap.size+2) 128 i0 (.agg #[(0:Int),(0:Int)]) 2 16 underlying56 hi0 Rh Qc Qx rfl d? _ _ _ L? (MH Sg _) w4 1 1 [.int .i64 (n1:Int),.int .i64 (n2:Int)] L? rfl (World.news_of_block (Ns w4 _)) v? d? q3 q4 e? (w4.heap.size+1) b? ?_;intro g3' Vt w5 o3 RQ at3 lt3;have Tv:=bW (MH Sg _) RQ (Ww.alloc _) d?;have hc5:w5.cell? (aa g 5)=(pv,k,cv):=ae.cell Tv 5 b?;have hf5:w5.frozen? (aa g 5)=false:=Tv.free 5)
      |(go_simp;go_at_call 192;((with_reducible refine(HH.out _ ?_).mono ?_));(first|exact aco|exact ae.drew aco);rintro e w4 ⟨rfl,So,Qo⟩;have Ww:=Qo.own WI.drew e?;have V8:=Qo.own Wk.drew e?;have Yk:=Qo.own YI.drew b?;have X6:NP [] w w4:=V4.drew.call Qo b?;have Sg:=ax RF.drew Qo b?;have Yd:w.heap.size+2<=w4.heap.size:=(by have:=V8.lt;omega);have cg4:w4.cell? (aa g 5)=(pv,k,cv):=ae.cell Ww 5 b?;have adW:=fun o=>ae.cell (Ww.alloc o) 5 b?))
     all_goals go_wp2_with fail
     all_goals
      have VL:=bW (MH Sg _) RQ (ae.alloc So _) d?
      have ad4:=bW (MH Sg _) RQ (V8.alloc _) d?
      have Sf:=bW (MH Sg _) RQ (Yk.alloc _) d?
      have hK5:NP [] w w5:=(X6.alloc _).grown RQ (fun j hj=>Or.inr (by have:=(ML Sg j hj).1;omega))
      have hg6:=Tv.set 5 (g3',k+1,Vt)
      have o6:=bT o3 (p:=(aa g 5)) (aB o3 Tv d?) (g3',k+1,Vt)
      have ec:NW (Pd l (k+1))=NW (Pd l k)++[.int .i64 (n1:Int),.int .i64 (n2:Int)]:=by rw[YE.out,bP]
      rw[<-ec]at o6
      clear HH Sg RF RQ Ww V8 Yk X6 Qo So WI Wk YI V4 o3 HDL
      refine⟨⟨k+1,_,a?,rfl,?_,ad4.other (p:=(aa g 5)) (Ne.symm g3) _,hg6,o6,Sf.other (p:=(aa g 5)) (Ne.symm g4) _,hK5.setCell (p:=(aa g 5)) (Or.inr g1) _⟩,?_⟩
      .rw[show 36+4*(k+1)=38+4*k+2 from by omega]
       exact ae.other VL (p:=(aa g 5)) (Ne.symm g2) _
      .simp[intOf];omega
    .obtain rfl:k=le l 32 2:=a?
     have Oe:=af.bB (l:=(PS l).runs) Ot
     have afa:=Oe.weaken (lo':=w.heap.size) (hi':=wr.heap.size) a? (MG _) (MG _)
     have⟨y0,y1,y2,y3,y4,y5⟩:=og.c6
     have⟨x0,x1,x2,x3,x4,x5⟩:=ho.c6
     have zo:=ho.z6
     by_cases hm:(PS l).may
     .have Q0:=HPY.out (pv,le l 32 2,cv) (w.heap.size+2) wr wr Oe hm
      unfold SB.cells at Q0
      by_cases hs:(PS l).aT=l
      .have HS:Hid (ff l):=We.out.2 ⟨ad5,hm,hs⟩
       rw[hs]at Q0
       clear We HPY HPN hm hs
       go_wp2_with fail
       refine Q0.mono ?_;rintro e w5 ⟨rfl,QI⟩
       have Tv:=QI.own og b?
       have Sf:=QI.own ho b?
       have⟨y0,y1,y2,y3,y4,y5⟩:=Tv.c6
       have⟨x0,x1,x2,x3,x4,x5⟩:=Sf.c6
       have zo:=Sf.z6
       go_wp2_with fail
       have hS:=(NP.refl [w.heap.size] w5).bp (b:=w.heap.size) (Or.inl b?) (.int .u64 (le l 8 8)) (le l 16 4:Int) (le l 20 4:Int) (le l 24 4:Int) (le l 28 4:Int) (pv,le l 32 2,cv)
       have PZ:=(Oe.kept0 QI).kept hS (fun x hx=>by simp at hx;omega)
       have hs5:=QI.size
       refine MN (v:=.tuple #[.agg #[.int .u64 (le l 8 8),(le l 16 4:Int),(le l 20 4:Int),(le l 24 4:Int),(le l 28 4:Int),(pv,le l 32 2,cv)],(0:Int)]) ?_ ?_ ?_
       .exact aj results121 rfl rfl (Sf.bp _ _ _ _ _ _) underlying58 rfl c?
       .rfl
       .exact⟨Or.inl ⟨HS.out,_,rfl,PZ.weaken a? (by simp[World.setCell];exact hs5) (MG _)⟩,(hK.trans QI).call hS (fun x hx=>by simp at hx;omega)⟩
      .have HN:Hid (¬ff l):=fun hh=>hs (We.out.1 hh).2.2
       have Pb:((bs (PS l).aT).toList==(bs l).toList)=false:=by rw[bj,bj];simpa using hs
       clear We HPY HPN hm hs
       generalize (PS l).aT=SE at*
       exact M31
     .have HN:Hid (¬ff l):=fun hh=>hm (We.out.1 hh).2.1
      have Q0:=HPN.out (pv,le l 32 2,cv) (w.heap.size+2) wr wr Oe hm
      unfold SB.cells at Q0
      clear We HPY HPN hm
      exact M31
end
end Go.Proofs.YtdkimcnlhmhpgaaGreat

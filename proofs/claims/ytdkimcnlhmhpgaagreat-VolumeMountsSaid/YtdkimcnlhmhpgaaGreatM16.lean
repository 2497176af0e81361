/- -/
import Derived.Test.YtdkimcnlhmhpgaaGreatM15
set_option maxHeartbeats 32000000
set_option maxRecDepth 100000
namespace Go.Proofs.YtdkimcnlhmhpgaaGreat
open Go.Proofs.Tryz Go.RowKit
variable {x n g b sb lo hi k:Nat} {y:NS} {S:Nat->Prop} {w w':World} {v x0 x1 x2 x3 x4:Value} {c:au} {T:List Nat} {l:List (Int×Int)} {t:TypeId} {d:DK} {xs:List Value}
theorem NG:type_of% @Classical.byContradiction:=@Classical.byContradiction
theorem AK {x:NS} (h:cO x y=true) (l:List NS):Og l x=Og l y:=by
 unfold Og
 congr 2
 funext a
 exact jN h
theorem Bi {x:NS} (h:cO x y=true) (l:List NS):PJ l x=PJ l y:=by
 unfold PJ
 congr 2
 funext a
 rw[yP h]
theorem Bl {x:NS} (h:cO x y=true) (l:List NS):di l x↔di l y:=by
 unfold di;rw[Bi h]
theorem aU.DF {base:Nat} {vs:List (NS×Value)} {i:Nat} (hi:i<vs.length) (h:w'.ownsRow base 113 4 v (vs.length-1) ((NX vs).take (i*4)++(NX vs).drop ((i+1)*4))) (hS:∀x,S x->x<base) (h3:∀y∈vs,bd w y/\bD S y.2 y.1.runs.length) (k:NP [] w w'):aq S w' v (dI (vs.map (·.1)) i):=by
 have em:(vs.take i++vs.drop (i+1)).map (·.1)=dI (vs.map (·.1)) i:=by
  unfold dI
  rw[M0,List.map_take,List.map_drop]
 rw[<-em]
 refine aq.bB (base:=base) ?_ hS (fun y hy=>?_)
 .have e1:(vs.take i++vs.drop (i+1)).length=vs.length-1:=by
   rw[tN,MO,MQ];omega
  rw[e1,fx,<-gJ,<-fL]
  exact h
 .rcases Na.1 hy with hy|hy
  .have:=h3 y (NJ hy);exact⟨this.1.kept0 k,this.2⟩
  .have:=h3 y (NF hy);exact⟨this.1.kept0 k,this.2⟩
theorem Ae (v:Value) (l:List NS) (r:ag) (rv:Value) (w:World) (h:aq S w v l) (hS:∀x,S x->x<w.heap.size) (hl:l.length<=100000) (hr:cG l) (hs:fP rv):
  am! 172 #[v,.agg (r.cells rv)] w (cP S (OU l r.item) w):=by
 have hek:cO (⟨r.id,r.name,0,[]⟩:NS) r.item=true:=by unfold cO ag.item;simp
 have HS:Hid (∀W,NP [] w W->am! 234 #[v,.agg #[(r.id,()),r.name,(0:Int),()],.func (.func 233) #[] #[]] W fun e w'=>∃q,e=.returned (.tuple #[(Og l r.item:Int),.bool q])/\(q=true↔di l r.item)/\NP [] W w'):=tK (fun W q=>by
  have hh:=Ab v l ⟨r.id,r.name,0,[]⟩ () W (h.plain.kept0 q) _a hr
  unfold gA at hh
  rw[AK hek,Bl hek]at hh
  exact hh)
 have HSX:=tK hS
 have HG0:Hid (¬di l r.item->OU l r.item=([],6)):=tK (fun hh=>by unfold OU;rw[if_neg hh])
 have HG1:Hid (di l r.item->OU l r.item=(dI l (Og l r.item),0)/\Og l r.item<l.length):=tK (fun hh=>by
  unfold OU;rw[if_pos hh,ly hr hh];exact⟨rfl,hh⟩)
 have⟨vs,hvs,hraw,Pf,_⟩:=h
 have U3:vs.length=l.length:=by rw[<-hvs,MP]
 have Td:∀y∈vs,fP y.2:=fun y hy=>(Pf y hy).1.fz
 have S9:Hid (∀W,NP [] w W->am! 127 #[v] W fun e w'=>∃v',e=.returned v'/\w'.ownsRow W.heap.size 113 4 v' l.length (NX vs)/\NP [] W w'):=tK (fun W q=>by rw[<-U3];exact sd v vs.length (NX vs) W (hraw.kept0 q) (fB Td) _a)
 have HD:Hid (∀W v' base,W.ownsRow base 113 4 v' l.length (NX vs)->Og l r.item<l.length->am! 236 #[v',(Og l r.item:Int),((Og l r.item+1:Nat):Int)] W (iA base v' (l.length-1) ((NX vs).take (Og l r.item*4)++(NX vs).drop ((Og l r.item+1)*4)) W)):=tK (fun W v' base ho hp=>GU base v' l.length (NX vs) _ _ W ho (fB Td) hp rfl)
 have Ys:Hid (∀w' base v',(∀x,S x->x<base)->Og l r.item<l.length->w'.ownsRow base 113 4 v' (l.length-1) ((NX vs).take (Og l r.item*4)++(NX vs).drop ((Og l r.item+1)*4))->NP [] w w'->aq S w' v' (dI l (Og l r.item))):=tK (fun w' base v' hSb hp ho k=>by
  rw[<-hvs]at hp ho ⊢
  rw[MP]at hp ho
  exact aU.DF hp ho hSb Pf k)
 obtain⟨pv,cv,rfl⟩:=hraw.shape
 rw[U3]at HS S9 ⊢
 obtain⟨TQ,nrr,crr,rfl⟩:=hs
 have oR:=ae.new w (r.cells (TQ,nrr,crr)) 102
 have k0:NP [] w (w.alloc (.cells (r.cells (TQ,nrr,crr)) 102)):=(NP.refl _ _).alloc _
 unfold ag.cells at oR k0 ⊢
 have⟨x0,x1,x2,x3,x4⟩:=oR.k5
 have K0:=tK k0
 have j1:(l.length:Int)<=1000000:=_a
 clear oR k0 hraw Pf Td U3 hvs hr hek hS
 unfold iA at HD
 go_enter func172,ntmps172
 go_wp2_with fail
 refine(HS.out _ K0.out).mono ?_;rintro e w3 ⟨q,rfl,hq,k3⟩
 have K3:=tK (K0.out.trans k3)
 have HQ:=tK hq
 clear hq
 cases q with
 |false=>
  have HE:=tK (HG0.out (fun hh=>by have:=HQ.out.2 hh;cases this))
  exact M84
 |true=>
  have⟨he,hp⟩:=HG1.out (HQ.out.1 rfl)
  have⟨HE,HP⟩:=_f he hp
  have ae7:((Og l r.item:Nat):Int)+1=((Og l r.item+1:Nat):Int):=_a
  have SU:IntKind.i64.wrap ((Og l r.item+1:Nat):Int)=((Og l r.item+1:Nat):Int):=_M
  clear he hp
  generalize Og l r.item+1=P1 at*
  go_wp2_with fail
  refine(S9.out _ K3.out).mono ?_;rintro e w4 ⟨v4,rfl,r4,k4⟩
  have K4:=tK (K3.out.trans k4)
  have R4:=tK r4
  obtain⟨p4,c4,rfl⟩:=ah r4
  clear r4
  go_wp2_with fail
  refine(HD.out _ _ _ R4.out HP.out).mono ?_;rintro e w5 ⟨v5,rfl,r5,QI⟩
  have Q7:=nK K4.out (fun g hg=>by have h1:=(ML R4.out g hg).1;have h2:=K3.out.size;omega) QI
  have h5:=Ys.out _ w3 _ (fun x hx=>MR (HSX.out x hx) K3.out.size) HP.out r5 Q7
  have⟨H5,K6⟩:=_f h5 Q7
  clear h5 Q7 r5 QI
  go_wp2_with fail
  go_ret2
  exact fj HE.out H5.out K6.out
def av (S:Nat->Prop) (w:World) (v:Value) (c:au):Prop:=∃vb vm vn,v=.agg #[(c.nextBox,()),(c.nextMan,()),vb,vm,vn]/\aq S w vb c.boxes/\aq S w vm c.mans/\aq S w vn c.names/\(Lit.int .u32 c.nextBox).wf=true/\(Lit.int .u32 c.nextMan).wf=true
theorem av.plain (h:av S w v c):dJ w v c:=by
 have⟨a,b,d,e,h1,h2,h3,h4⟩:=h
 exact⟨a,b,d,e,h1.plain,h2.plain,h3.plain,h4⟩
theorem av.kept0 (h:av S w v c) (k:NP [] w w'):av S w' v c:=by
 have⟨a,b,d,e,h1,h2,h3,h4⟩:=h
 exact⟨a,b,d,e,h1.kept0 k,h2.kept0 k,h3.kept0 k,h4⟩
theorem av.aS (h:av S w v c) (k:NP T w w') (hT:∀x∈T,S x):av S w' v c:=by
 have⟨a,b,d,e,h1,h2,h3,h4⟩:=h
 exact⟨a,b,d,e,h1.aS k hT,h2.aS k hT,h3.aS k hT,h4⟩
theorem bD.weaken {T:Nat->Prop} (h:bD S v n) (hST:∀x,T x->S x):bD T v n:=fun g off sp n' c e hn hg=>h g off sp n' c e hn (hST _ hg)
theorem aq.weaken {T:Nat->Prop} {l:List NS} (h:aq S w v l) (hST:∀x,T x->S x):aq T w v l:=by
 have⟨vs,h1,h2,h3,h4⟩:=h
 exact⟨vs,h1,h2,fun x hx=>⟨(h3 x hx).1,(h3 x hx).2.weaken hST⟩,h4.weaken hST⟩
theorem bD.or {T:Nat->Prop} (h:bD S v n) (h2:bD T v n):bD (fun x=>S x\/T x) v n:=fun g off sp n' c e hn hg=>hg.elim (h g off sp n' c e hn) (h2 g off sp n' c e hn)
theorem aq.more {T:Nat->Prop} {l:List NS} (h:aq S w v l) (hT:∀x,T x->w.heap.size<=x):aq (fun x=>S x\/T x) w v l:=by
 have⟨vs,h1,h2,h3,h4⟩:=h
 refine⟨vs,h1,h2,fun x hx=>⟨(h3 x hx).1,(h3 x hx).2.or ((h3 x hx).1.1.off hT)⟩,h4.or (fun g off sp n c e hn hg=>?_)⟩
 have⟨p,c',e'⟩:=h2.shape
 rw[e']at h2
 have⟨b,off',e2,_,hb,_⟩:=h2.at_ hn
 rw[e']at e
 injection e with e
 rw[e2]at e
 injection e with e
 injection e with e
 subst e
 have:=hT _ hg
 omega
def dC (S:Nat->Prop) (L:au×Int) (w:World) (e:Ending) (w':World):Prop:=∃v,e=.returned (.tuple #[v,L.2])/\av S w' v L.1/\NP [] w w'
theorem NP.ay {S:List Nat} {w0:World} (h:NP S w0 w) (hg:g∈S\/w0.heap.size<=g) (a b c d e:Value):NP S w0 (((((w.setCell g a).setCell (aa g 1) b).setCell (aa g 2) c).setCell (aa g 3) d).setCell (aa g 4) e):=
 ((((h.setCell (p:=g) hg a).setCell (p:=(aa g 1)) hg b).setCell (p:=(aa g 2)) hg c).setCell (p:=(aa g 3)) hg d).setCell (p:=(aa g 4)) hg e
theorem ae.y5 (h:ae w b #[x0,x1,x2,x3,x4] t):w.frozen? b=false/\w.frozen? (aa b 1)=false/\w.frozen? (aa b 2)=false/\w.frozen? (aa b 3)=false/\w.frozen? (aa b 4)=false:=⟨h.free 0,h.free 1,h.free 2,h.free 3,h.free 4⟩
theorem ae.aV (h:ae w b #[x0,x1,x2,x3,x4] t) (y0 y1 y2 y3 y4:Value):
  ae (((((w.setCell b y0).setCell (aa b 1) y1).setCell (aa b 2) y2).setCell (aa b 3) y3).setCell (aa b 4) y4) b #[y0,y1,y2,y3,y4] t:=by
 have:=((((h.set 0 y0).set 1 y1).set 2 y2).set 3 y3).set 4 y4
 simpa using this
theorem nA (w:World) (A B C:Array Value) (s t u:TypeId):ae (((w.alloc (.cells A s)).alloc (.cells B t)).alloc (.cells C u)) w A s/\ae (((w.alloc (.cells A s)).alloc (.cells B t)).alloc (.cells C u)) (w.heap.size+1) B t/\ae (((w.alloc (.cells A s)).alloc (.cells B t)).alloc (.cells C u)) (w.heap.size+2) C u:=l9 w A B C s t u
theorem tF {n:Int} (h0:0<=n) (h1:n<=4294967295):(Lit.int .u32 n).wf=true:=by
 simp only[Lit.wf,No,decide_eq_true_eq]
 exact⟨h0,h1⟩
theorem lW {n:Int} (h0:0<=n) (h1:n<=4294967295):IntKind.u32.wrap n=n:=by rw[IntKind.wrap_u32];omega
theorem M92 {A:Prop}(h:A:=by
 rw[if_neg _K]
 rw[if_neg _K]
 rw[if_pos hk]):A:=h
theorem M10 {A:Prop}(h:A:=by
 rw[hLL]at HC ⊢
 have⟨LI,LC⟩:=LL
 simp only at HC ⊢
 rw[hk]at HC OA OB OC K0 y0 ⊢
 clear hLL Pp hk
 go_enter func99,ntmps99
 go_wp2_with fail
 refine(HC.out _ K0.out _b).mono ?_;rintro e w4 ⟨v4,rfl,h4,k4⟩
 have H4:=tK h4
 have K4:=tK (K0.out.trans k4)
 obtain⟨p4,c4,rfl⟩:=h4.plain.shape
 have SY:=k4.own OA.out _b
 have W5:=k4.own OB.out _b
 have TH:=k4.own OC.out _b
 have⟨x0,x1,x2,x3,x4⟩:=SY.k5
 have⟨y0,y1,y2,y3,y4⟩:=W5.k5
 have⟨z0,z1,z2,z3,z4⟩:=TH.k5
 have⟨f0,f1,f2,f3,f4⟩:=SY.y5
 have⟨g0,g1,g2,g3,g4⟩:=TH.y5
 have⟨Sh,Q5⟩:=_f SY TH
 clear h4 SY W5 TH
 go_wp2_with fail
 have Pb:w.heap.size+2≠w.heap.size:=_a
 have oF:=ae.aV ((Q5.out).other (p:=(aa w 4)) Pb (p4,LI.length,c4)) (c.nextBox,()) (c.nextMan,()) (p1,c.boxes.length,c1) (p2,c.mans.length,c2) (p4,LI.length,c4)
 have kF:NP [] w ((((((w4.setCell (aa w 4) (p4,LI.length,c4)).setCell (aa (w+2) 0) (c.nextBox,())).setCell (aa (w+2) 1) (c.nextMan,())).setCell (aa (w+2) 2) (p1,c.boxes.length,c1)).setCell (aa (w+2) 3) (p2,c.mans.length,c2)).setCell (aa (w+2) 4) (p4,LI.length,c4)):=NP.ay ((K4.out).setCell (p:=(aa w 4)) (Or.inr (MG _)) (p4,LI.length,c4)) (Or.inr _a) _ _ _ _ _
 have kT:NP [w.heap.size,w.heap.size+2] w4 ((((((w4.setCell (aa w 4) (p4,LI.length,c4)).setCell (aa (w+2) 0) (c.nextBox,())).setCell (aa (w+2) 1) (c.nextMan,())).setCell (aa (w+2) 2) (p1,c.boxes.length,c1)).setCell (aa (w+2) 3) (p2,c.mans.length,c2)).setCell (aa (w+2) 4) (p4,LI.length,c4)):=NP.ay ((NP.refl _ _).setCell (p:=(aa w 4)) (Or.inl _b) (p4,LI.length,c4)) (Or.inl _b) _ _ _ _ _
 have h5:=(H4.out.aS kT (fun x hx=>by simp at hx;rcases hx with rfl|rfl;exact Or.inr (Or.inl rfl);exact Or.inr (Or.inr rfl))).weaken (T:=S0) (fun x hx=>Or.inl hx)
 refine MN (v:=.tuple #[.agg #[(c.nextBox,()),(c.nextMan,()),(p1,c.boxes.length,c1),(p2,c.mans.length,c2),(p4,LI.length,c4)],LC]) (aj results99 rfl rfl (t:=52) ?_ underlying52 rfl _c) rfl ?_
 .exact oF
 .exact⟨_,rfl,⟨_,_,_,rfl,(HB.out _ kF),(HM.out _ kF),h5,V3.out,XC.out⟩,kF⟩):A:=h
theorem IX {S0:Nat->Prop} (v:Value) (c:au) (r:ag) (rv:Value) (w:World) (h:av S0 w v c) (Q6:∀x,S0 x->x<w.heap.size) (Pz:OL c) (Qh:af w rv r.runs 0 w) (hf:r.fits) (Pj:∀a∈r.runs,aQ a) (VA:az r=true):
  am! 99 #[v,.agg (r.cells rv)] w (dC S0 (aW c r) w):=by
 have P3:r.runs.length<=1000000:=by have:=nH VA;omega
 have hid:=xw VA
 have Xz:0<=r.id:=(eG hf.2.1).1
 obtain⟨vb,vm,vn,rfl,hb,hm,hn,Rp,Te⟩:=h
 have HB:=tK (fun W (q:NP [] w W)=>hb.kept0 q)
 have HM:=tK (fun W (q:NP [] w W)=>hm.kept0 q)
 have HN:=tK (fun W (q:NP [] w W)=>hn.kept0 q)
 obtain⟨p1,c1,rfl⟩:=hb.plain.shape
 obtain⟨p2,c2,rfl⟩:=hm.plain.shape
 obtain⟨p3,c3,rfl⟩:=hn.plain.shape
 obtain⟨pr,cr,rfl⟩:=Qh.shape
 unfold ag.cells
 have abe:=(eG Rp)
 have aaT:=(eG Te)
 have ZE:Hid ((Lit.int .u32 (r.id+1)).wf=true):=tK (tF _a _a)
 have HW2:Hid ((Lit.int .u32 (max c.nextMan (r.id+1))).wf=true):=tK (tF _a _a)
 have⟨V3,XC⟩:=_f Rp Te
 have⟨oA,oB,oC⟩:=nA w #[(c.nextBox,()),(c.nextMan,()),(p1,c.boxes.length,c1),(p2,c.mans.length,c2),(p3,c.names.length,c3)] #[r.kind,(r.id,()),r.name,r.size,(pr,r.runs.length,cr)] #[.int .u32 0,.int .u32 0,(),(),()] 52 102 52
 have k0:NP [] w (((w.alloc (.cells #[(c.nextBox,()),(c.nextMan,()),(p1,c.boxes.length,c1),(p2,c.mans.length,c2),(p3,c.names.length,c3)] 52)).alloc (.cells #[r.kind,(r.id,()),r.name,r.size,(pr,r.runs.length,cr)] 102)).alloc (.cells #[.int .u32 0,.int .u32 0,(),(),()] 52)):=(((NP.refl _ _).alloc _).alloc _).alloc _
 have SU:IntKind.u32.wrap (r.id+1)=r.id+1:=lW _a _a
 have⟨x0,x1,x2,x3,x4⟩:=oA.k5
 have⟨y0,y1,y2,y3,y4⟩:=oB.k5
 obtain⟨mx,ZA⟩:∃m,max c.nextMan (r.id+1)=m:=⟨_,rfl⟩
 have⟨TE,OA,OB,OC,K0⟩:=gi! ZA oA oB oC k0
 have P8:=tK (And.intro hb (And.intro hm (And.intro hn (And.intro Qh (And.intro hf (And.intro Pj (And.intro P3 (And.intro Pz Q6))))))))
 have VX:=tK VA
 clear oA oB oC k0 hb hm hn Qh hf Pj VA Pz Rp Te abe aaT Q6 P3
 rcases nI VX.out with hk|hk|hk|hk|hk|hk
 .skip
  have Pp:aW c r=({c with boxes:=(Oc c.boxes r.item c.nextBox 2048 false).1,nextBox:=r.id+1},(Oc c.boxes r.item c.nextBox 2048 false).2):=by
   unfold aW
   rw[if_pos hk]
  rw[Pp]
  have HC:Hid (∀W,NP [] w W->w.heap.size+3<=W.heap.size->am! 171 #[(p1,c.boxes.length,c1),.agg #[r.kind,(r.id,()),r.name,r.size,(pr,r.runs.length,cr)],(c.nextBox,()),(2048:Int),false] W (cP (fun x=>S0 x\/(x=w.heap.size\/x=w.heap.size+2)) (Oc c.boxes r.item c.nextBox 2048 false) W)):=tK (fun W q PW=>by
   have⟨hb,hm,hn,Qh,hf,Pj,P3,Pz,Q6⟩:=P8.out
   have T6:∀x,(S0 x\/(x=w.heap.size\/x=w.heap.size+2))->x<W.heap.size:=fun x hx=>by
    rcases hx with hx|hx
    .have:=Q6 x hx;omega
    .omega
   have hh:=vU _ _ r _ c.nextBox 2048 false W ((hb.more (fun x hx=>by omega)).kept0 q) T6 v! Pz.boxes.2.2 (Qh.kept0 q).upto hf Pj P3 _d
   unfold ag.cells at hh
   exact hh)
  unfold cP at HC
  obtain⟨LL,hLL⟩:∃L,Oc c.boxes r.item c.nextBox 2048 false=L:=⟨_,rfl⟩
  rw[hLL]at HC ⊢
  have⟨LI,LC⟩:=LL
  simp only at HC ⊢
  rw[hk]at HC OA OB OC K0 y0 ⊢
  clear hLL Pp hk
  go_enter func99,ntmps99
  go_wp2_with fail
  refine(HC.out _ K0.out _b).mono ?_;rintro e w4 ⟨v4,rfl,h4,k4⟩
  have H4:=tK h4
  have K4:=tK (K0.out.trans k4)
  obtain⟨p4,c4,rfl⟩:=h4.plain.shape
  have SY:=k4.own OA.out _b
  have W5:=k4.own OB.out _b
  have TH:=k4.own OC.out _b
  have⟨x0,x1,x2,x3,x4⟩:=SY.k5
  have⟨y0,y1,y2,y3,y4⟩:=W5.k5
  have⟨z0,z1,z2,z3,z4⟩:=TH.k5
  have⟨f0,f1,f2,f3,f4⟩:=SY.y5
  have⟨g0,g1,g2,g3,g4⟩:=TH.y5
  have⟨Sh,Q5⟩:=_f SY TH
  clear h4 SY W5 TH
  go_wp2_with fail
  have Pb:w.heap.size+2≠w.heap.size:=_a
  have oF:=ae.aV (((Q5.out).other (p:=(aa w 2)) Pb (p4,LI.length,c4)).other (p:=w) Pb (.int .u32 (r.id+1))) (.int .u32 (r.id+1)) (c.nextMan,()) (p4,LI.length,c4) (p2,c.mans.length,c2) (p3,c.names.length,c3)
  have kF:NP [] w (((((((w4.setCell (aa w 2) (p4,LI.length,c4)).setCell w (.int .u32 (r.id+1))).setCell (aa (w+2) 0) (.int .u32 (r.id+1))).setCell (aa (w+2) 1) (c.nextMan,())).setCell (aa (w+2) 2) (p4,LI.length,c4)).setCell (aa (w+2) 3) (p2,c.mans.length,c2)).setCell (aa (w+2) 4) (p3,c.names.length,c3)):=NP.ay (((K4.out).setCell (p:=(aa w 2)) (Or.inr (MG _)) (p4,LI.length,c4)).setCell (p:=w) (Or.inr (MG _)) (.int .u32 (r.id+1))) (Or.inr _a) _ _ _ _ _
  have kT:NP [w.heap.size,w.heap.size+2] w4 (((((((w4.setCell (aa w 2) (p4,LI.length,c4)).setCell w (.int .u32 (r.id+1))).setCell (aa (w+2) 0) (.int .u32 (r.id+1))).setCell (aa (w+2) 1) (c.nextMan,())).setCell (aa (w+2) 2) (p4,LI.length,c4)).setCell (aa (w+2) 3) (p2,c.mans.length,c2)).setCell (aa (w+2) 4) (p3,c.names.length,c3)):=NP.ay (((NP.refl _ _).setCell (p:=(aa w 2)) (Or.inl _b) (p4,LI.length,c4)).setCell (p:=w) (Or.inl _b) (.int .u32 (r.id+1))) (Or.inl _b) _ _ _ _ _
  have h5:=(H4.out.aS kT (fun x hx=>by simp at hx;rcases hx with rfl|rfl;exact Or.inr (Or.inl rfl);exact Or.inr (Or.inr rfl))).weaken (T:=S0) (fun x hx=>Or.inl hx)
  refine MN (v:=.tuple #[.agg #[(.int .u32 (r.id+1)),(c.nextMan,()),(p4,LI.length,c4),(p2,c.mans.length,c2),(p3,c.names.length,c3)],LC]) (aj results99 rfl rfl (t:=52) ?_ underlying52 rfl _c) rfl ?_
  .exact oF
  .exact⟨_,rfl,⟨_,_,_,rfl,h5,(HM.out _ kF),(HN.out _ kF),ZE.out,XC.out⟩,kF⟩
 .skip
  have Pp:aW c r=({c with mans:=(Oc c.mans r.item c.nextMan 2048 true).1,nextMan:=max c.nextMan (r.id+1)},(Oc c.mans r.item c.nextMan 2048 true).2):=by
   unfold aW
   rw[if_neg _K]
   rw[if_pos hk]
  rw[Pp]
  have HC:Hid (∀W,NP [] w W->w.heap.size+3<=W.heap.size->am! 171 #[(p2,c.mans.length,c2),.agg #[r.kind,(r.id,()),r.name,r.size,(pr,r.runs.length,cr)],(c.nextMan,()),(2048:Int),true] W (cP (fun x=>S0 x\/(x=w.heap.size\/x=w.heap.size+2)) (Oc c.mans r.item c.nextMan 2048 true) W)):=tK (fun W q PW=>by
   have⟨hb,hm,hn,Qh,hf,Pj,P3,Pz,Q6⟩:=P8.out
   have T6:∀x,(S0 x\/(x=w.heap.size\/x=w.heap.size+2))->x<W.heap.size:=fun x hx=>by
    rcases hx with hx|hx
    .have:=Q6 x hx;omega
    .omega
   have hh:=vU _ _ r _ c.nextMan 2048 true W ((hm.more (fun x hx=>by omega)).kept0 q) T6 B! Pz.mans.2.2 (Qh.kept0 q).upto hf Pj P3 _d
   unfold ag.cells at hh
   exact hh)
  unfold cP at HC
  obtain⟨LL,hLL⟩:∃L,Oc c.mans r.item c.nextMan 2048 true=L:=⟨_,rfl⟩
  rw[hLL]at HC ⊢
  have⟨LI,LC⟩:=LL
  simp only at HC ⊢
  rw[hk]at HC OA OB OC K0 y0 ⊢
  clear hLL Pp hk
  go_enter func99,ntmps99
  go_wp2_with fail
  refine(HC.out _ K0.out _b).mono ?_;rintro e w4 ⟨v4,rfl,h4,k4⟩
  have H4:=tK h4
  have K4:=tK (K0.out.trans k4)
  obtain⟨p4,c4,rfl⟩:=h4.plain.shape
  have SY:=k4.own OA.out _b
  have W5:=k4.own OB.out _b
  have TH:=k4.own OC.out _b
  have⟨x0,x1,x2,x3,x4⟩:=SY.k5
  have⟨y0,y1,y2,y3,y4⟩:=W5.k5
  have⟨z0,z1,z2,z3,z4⟩:=TH.k5
  have⟨f0,f1,f2,f3,f4⟩:=SY.y5
  have⟨g0,g1,g2,g3,g4⟩:=TH.y5
  have⟨Sh,Q5⟩:=_f SY TH
  clear h4 SY W5 TH
  go_wp2_with fail
  have Pb:w.heap.size+2≠w.heap.size:=_a
  have oF:=ae.aV (((Q5.out).other (p:=(aa w 3)) Pb (p4,LI.length,c4)).other (p:=(aa w 1)) Pb (mx,())) (c.nextBox,()) (mx,()) (p1,c.boxes.length,c1) (p4,LI.length,c4) (p3,c.names.length,c3)
  have kF:NP [] w (((((((w4.setCell (aa w 3) (p4,LI.length,c4)).setCell (aa w 1) (mx,())).setCell (aa (w+2) 0) (c.nextBox,())).setCell (aa (w+2) 1) (mx,())).setCell (aa (w+2) 2) (p1,c.boxes.length,c1)).setCell (aa (w+2) 3) (p4,LI.length,c4)).setCell (aa (w+2) 4) (p3,c.names.length,c3)):=NP.ay (((K4.out).setCell (p:=(aa w 3)) (Or.inr (MG _)) (p4,LI.length,c4)).setCell (p:=(aa w 1)) (Or.inr (MG _)) (mx,())) (Or.inr _a) _ _ _ _ _
  have kT:NP [w.heap.size,w.heap.size+2] w4 (((((((w4.setCell (aa w 3) (p4,LI.length,c4)).setCell (aa w 1) (mx,())).setCell (aa (w+2) 0) (c.nextBox,())).setCell (aa (w+2) 1) (mx,())).setCell (aa (w+2) 2) (p1,c.boxes.length,c1)).setCell (aa (w+2) 3) (p4,LI.length,c4)).setCell (aa (w+2) 4) (p3,c.names.length,c3)):=NP.ay (((NP.refl _ _).setCell (p:=(aa w 3)) (Or.inl _b) (p4,LI.length,c4)).setCell (p:=(aa w 1)) (Or.inl _b) (mx,())) (Or.inl _b) _ _ _ _ _
  have h5:=(H4.out.aS kT (fun x hx=>by simp at hx;rcases hx with rfl|rfl;exact Or.inr (Or.inl rfl);exact Or.inr (Or.inr rfl))).weaken (T:=S0) (fun x hx=>Or.inl hx)
  refine MN (v:=.tuple #[.agg #[(c.nextBox,()),(mx,()),(p1,c.boxes.length,c1),(p4,LI.length,c4),(p3,c.names.length,c3)],LC]) (aj results99 rfl rfl (t:=52) ?_ underlying52 rfl _c) rfl ?_
  .exact oF
  .exact⟨_,rfl,⟨_,_,_,(by rw[<-TE.out]),(HB.out _ kF),h5,(HN.out _ kF),V3.out,HW2.out⟩,kF⟩
 .skip
  have Pp:aW c r=({c with names:=(Oc c.names r.item 0 256 false).1},(Oc c.names r.item 0 256 false).2):=by
   unfold aW
   exact M92
  rw[Pp]
  have HC:Hid (∀W,NP [] w W->w.heap.size+3<=W.heap.size->am! 171 #[(p3,c.names.length,c3),.agg #[r.kind,(r.id,()),r.name,r.size,(pr,r.runs.length,cr)],.int .u32 0,(256:Int),false] W (cP (fun x=>S0 x\/(x=w.heap.size\/x=w.heap.size+2)) (Oc c.names r.item 0 256 false) W)):=tK (fun W q PW=>by
   have⟨hb,hm,hn,Qh,hf,Pj,P3,Pz,Q6⟩:=P8.out
   have T6:∀x,(S0 x\/(x=w.heap.size\/x=w.heap.size+2))->x<W.heap.size:=fun x hx=>by
    rcases hx with hx|hx
    .have:=Q6 x hx;omega
    .omega
   have hh:=vU _ _ r _ 0 256 false W ((hn.more (fun x hx=>by omega)).kept0 q) T6 w! Pz.names.2.2 (Qh.kept0 q).upto hf Pj P3 _d
   unfold ag.cells at hh
   exact hh)
  unfold cP at HC
  obtain⟨LL,hLL⟩:∃L,Oc c.names r.item 0 256 false=L:=⟨_,rfl⟩
  exact M10
 .skip
  have Pp:aW c r=({c with boxes:=(OU c.boxes r.item).1},(OU c.boxes r.item).2):=by
   unfold aW
   rw[if_neg _K]
   exact M92
  rw[Pp]
  have HC:Hid (∀W,NP [] w W->w.heap.size+3<=W.heap.size->am! 172 #[(p1,c.boxes.length,c1),.agg #[r.kind,(r.id,()),r.name,r.size,(pr,r.runs.length,cr)]] W (cP (fun x=>S0 x\/(x=w.heap.size\/x=w.heap.size+2)) (OU c.boxes r.item) W)):=tK (fun W q PW=>by
   have⟨hb,hm,hn,Qh,hf,Pj,P3,Pz,Q6⟩:=P8.out
   have T6:∀x,(S0 x\/(x=w.heap.size\/x=w.heap.size+2))->x<W.heap.size:=fun x hx=>by
    rcases hx with hx|hx
    .have:=Q6 x hx;omega
    .omega
   have hh:=Ae _ _ r (pr,r.runs.length,cr) W ((hb.more (fun x hx=>by omega)).kept0 q) T6 v! Pz.boxes.2.2 ⟨_,_,_,rfl⟩
   unfold ag.cells at hh
   exact hh)
  unfold cP at HC
  obtain⟨LL,hLL⟩:∃L,OU c.boxes r.item=L:=⟨_,rfl⟩
  rw[hLL]at HC ⊢
  have⟨LI,LC⟩:=LL
  simp only at HC ⊢
  rw[hk]at HC OA OB OC K0 y0 ⊢
  clear hLL Pp hk
  go_enter func99,ntmps99
  go_wp2_with fail
  refine(HC.out _ K0.out _b).mono ?_;rintro e w4 ⟨v4,rfl,h4,k4⟩
  have H4:=tK h4
  have K4:=tK (K0.out.trans k4)
  obtain⟨p4,c4,rfl⟩:=h4.plain.shape
  have SY:=k4.own OA.out _b
  have W5:=k4.own OB.out _b
  have TH:=k4.own OC.out _b
  have⟨x0,x1,x2,x3,x4⟩:=SY.k5
  have⟨y0,y1,y2,y3,y4⟩:=W5.k5
  have⟨z0,z1,z2,z3,z4⟩:=TH.k5
  have⟨f0,f1,f2,f3,f4⟩:=SY.y5
  have⟨g0,g1,g2,g3,g4⟩:=TH.y5
  have⟨Sh,Q5⟩:=_f SY TH
  clear h4 SY W5 TH
  go_wp2_with fail
  have Pb:w.heap.size+2≠w.heap.size:=_a
  have oF:=ae.aV ((Q5.out).other (p:=(aa w 2)) Pb (p4,LI.length,c4)) (c.nextBox,()) (c.nextMan,()) (p4,LI.length,c4) (p2,c.mans.length,c2) (p3,c.names.length,c3)
  have kF:NP [] w ((((((w4.setCell (aa w 2) (p4,LI.length,c4)).setCell (aa (w+2) 0) (c.nextBox,())).setCell (aa (w+2) 1) (c.nextMan,())).setCell (aa (w+2) 2) (p4,LI.length,c4)).setCell (aa (w+2) 3) (p2,c.mans.length,c2)).setCell (aa (w+2) 4) (p3,c.names.length,c3)):=NP.ay ((K4.out).setCell (p:=(aa w 2)) (Or.inr (MG _)) (p4,LI.length,c4)) (Or.inr _a) _ _ _ _ _
  have kT:NP [w.heap.size,w.heap.size+2] w4 ((((((w4.setCell (aa w 2) (p4,LI.length,c4)).setCell (aa (w+2) 0) (c.nextBox,())).setCell (aa (w+2) 1) (c.nextMan,())).setCell (aa (w+2) 2) (p4,LI.length,c4)).setCell (aa (w+2) 3) (p2,c.mans.length,c2)).setCell (aa (w+2) 4) (p3,c.names.length,c3)):=NP.ay ((NP.refl _ _).setCell (p:=(aa w 2)) (Or.inl _b) (p4,LI.length,c4)) (Or.inl _b) _ _ _ _ _
  have h5:=(H4.out.aS kT (fun x hx=>by simp at hx;rcases hx with rfl|rfl;exact Or.inr (Or.inl rfl);exact Or.inr (Or.inr rfl))).weaken (T:=S0) (fun x hx=>Or.inl hx)
  refine MN (v:=.tuple #[.agg #[(c.nextBox,()),(c.nextMan,()),(p4,LI.length,c4),(p2,c.mans.length,c2),(p3,c.names.length,c3)],LC]) (aj results99 rfl rfl (t:=52) ?_ underlying52 rfl _c) rfl ?_
  .exact oF
  .exact⟨_,rfl,⟨_,_,_,rfl,h5,(HM.out _ kF),(HN.out _ kF),V3.out,XC.out⟩,kF⟩
 .skip
  have Pp:aW c r=({c with mans:=(OU c.mans r.item).1},(OU c.mans r.item).2):=by
   unfold aW
   rw[if_neg _K]
   rw[if_neg _K]
   exact M92
  rw[Pp]
  have HC:Hid (∀W,NP [] w W->w.heap.size+3<=W.heap.size->am! 172 #[(p2,c.mans.length,c2),.agg #[r.kind,(r.id,()),r.name,r.size,(pr,r.runs.length,cr)]] W (cP (fun x=>S0 x\/(x=w.heap.size\/x=w.heap.size+2)) (OU c.mans r.item) W)):=tK (fun W q PW=>by
   have⟨hb,hm,hn,Qh,hf,Pj,P3,Pz,Q6⟩:=P8.out
   have T6:∀x,(S0 x\/(x=w.heap.size\/x=w.heap.size+2))->x<W.heap.size:=fun x hx=>by
    rcases hx with hx|hx
    .have:=Q6 x hx;omega
    .omega
   have hh:=Ae _ _ r (pr,r.runs.length,cr) W ((hm.more (fun x hx=>by omega)).kept0 q) T6 B! Pz.mans.2.2 ⟨_,_,_,rfl⟩
   unfold ag.cells at hh
   exact hh)
  unfold cP at HC
  obtain⟨LL,hLL⟩:∃L,OU c.mans r.item=L:=⟨_,rfl⟩
  rw[hLL]at HC ⊢
  have⟨LI,LC⟩:=LL
  simp only at HC ⊢
  rw[hk]at HC OA OB OC K0 y0 ⊢
  clear hLL Pp hk
  go_enter func99,ntmps99
  go_wp2_with fail
  refine(HC.out _ K0.out _b).mono ?_;rintro e w4 ⟨v4,rfl,h4,k4⟩
  have H4:=tK h4
  have K4:=tK (K0.out.trans k4)
  obtain⟨p4,c4,rfl⟩:=h4.plain.shape
  have SY:=k4.own OA.out _b
  have W5:=k4.own OB.out _b
  have TH:=k4.own OC.out _b
  have⟨x0,x1,x2,x3,x4⟩:=SY.k5
  have⟨y0,y1,y2,y3,y4⟩:=W5.k5
  have⟨z0,z1,z2,z3,z4⟩:=TH.k5
  have⟨f0,f1,f2,f3,f4⟩:=SY.y5
  have⟨g0,g1,g2,g3,g4⟩:=TH.y5
  have⟨Sh,Q5⟩:=_f SY TH
  clear h4 SY W5 TH
  go_wp2_with fail
  have Pb:w.heap.size+2≠w.heap.size:=_a
  have oF:=ae.aV ((Q5.out).other (p:=(aa w 3)) Pb (p4,LI.length,c4)) (c.nextBox,()) (c.nextMan,()) (p1,c.boxes.length,c1) (p4,LI.length,c4) (p3,c.names.length,c3)
  have kF:NP [] w ((((((w4.setCell (aa w 3) (p4,LI.length,c4)).setCell (aa (w+2) 0) (c.nextBox,())).setCell (aa (w+2) 1) (c.nextMan,())).setCell (aa (w+2) 2) (p1,c.boxes.length,c1)).setCell (aa (w+2) 3) (p4,LI.length,c4)).setCell (aa (w+2) 4) (p3,c.names.length,c3)):=NP.ay ((K4.out).setCell (p:=(aa w 3)) (Or.inr (MG _)) (p4,LI.length,c4)) (Or.inr _a) _ _ _ _ _
  have kT:NP [w.heap.size,w.heap.size+2] w4 ((((((w4.setCell (aa w 3) (p4,LI.length,c4)).setCell (aa (w+2) 0) (c.nextBox,())).setCell (aa (w+2) 1) (c.nextMan,())).setCell (aa (w+2) 2) (p1,c.boxes.length,c1)).setCell (aa (w+2) 3) (p4,LI.length,c4)).setCell (aa (w+2) 4) (p3,c.names.length,c3)):=NP.ay ((NP.refl _ _).setCell (p:=(aa w 3)) (Or.inl _b) (p4,LI.length,c4)) (Or.inl _b) _ _ _ _ _
  have h5:=(H4.out.aS kT (fun x hx=>by simp at hx;rcases hx with rfl|rfl;exact Or.inr (Or.inl rfl);exact Or.inr (Or.inr rfl))).weaken (T:=S0) (fun x hx=>Or.inl hx)
  refine MN (v:=.tuple #[.agg #[(c.nextBox,()),(c.nextMan,()),(p1,c.boxes.length,c1),(p4,LI.length,c4),(p3,c.names.length,c3)],LC]) (aj results99 rfl rfl (t:=52) ?_ underlying52 rfl _c) rfl ?_
  .exact oF
  .exact⟨_,rfl,⟨_,_,_,rfl,(HB.out _ kF),h5,(HN.out _ kF),V3.out,XC.out⟩,kF⟩
 .skip
  have Pp:aW c r=({c with names:=(OU c.names r.item).1},(OU c.names r.item).2):=by
   unfold aW
   rw[if_neg _K]
   rw[if_neg _K]
   rw[if_neg _K]
   rw[if_neg _K]
   rw[if_neg _K]
  rw[Pp]
  have HC:Hid (∀W,NP [] w W->w.heap.size+3<=W.heap.size->am! 172 #[(p3,c.names.length,c3),.agg #[r.kind,(r.id,()),r.name,r.size,(pr,r.runs.length,cr)]] W (cP (fun x=>S0 x\/(x=w.heap.size\/x=w.heap.size+2)) (OU c.names r.item) W)):=tK (fun W q PW=>by
   have⟨hb,hm,hn,Qh,hf,Pj,P3,Pz,Q6⟩:=P8.out
   have T6:∀x,(S0 x\/(x=w.heap.size\/x=w.heap.size+2))->x<W.heap.size:=fun x hx=>by
    rcases hx with hx|hx
    .have:=Q6 x hx;omega
    .omega
   have hh:=Ae _ _ r (pr,r.runs.length,cr) W ((hn.more (fun x hx=>by omega)).kept0 q) T6 w! Pz.names.2.2 ⟨_,_,_,rfl⟩
   unfold ag.cells at hh
   exact hh)
  unfold cP at HC
  obtain⟨LL,hLL⟩:∃L,OU c.names r.item=L:=⟨_,rfl⟩
  exact M10
def bf (T:List Nat) (w:World) (b sb mb g:Nat):Prop:=g∉T/\g≠b/\g≠sb/\g≠mb/\¬WB w b g
theorem bf.pk {mb:Nat} (h:bf T w b sb mb g) (k:PK T b sb mb w w') (hg:g<w.heap.size):bf T w' b sb mb g:=
 ⟨h.1,h.2.1,h.2.2.1,h.2.2.2.1,fun hx=>by
  rcases k.wb g hx with h1|h1
  .exact h.2.2.2.2 h1
  .omega⟩
theorem bf.mono {S:List Nat} {mb:Nat} (h:bf T w b sb mb g) (hST:∀x∈S,x∈T):bf S w b sb mb g:=⟨fun hx=>h.1 (hST g hx),h.2⟩
theorem PK.same {mb:Nat} (k:PK T b sb mb w w') (h:bf T w b sb mb g) (hg:g<w.heap.size):w'.heap[g]? =w.heap[g]? :=k.block g hg h.1 h.2.1 h.2.2.1 h.2.2.2.1 h.2.2.2.2
theorem PK.own {mb:Nat} {cs:Array Value} (k:PK T b sb mb w w') (o:ae w g cs t) (h:bf T w b sb mb g):ae w' g cs t:=(k.same h o.lt).trans o
theorem DA.Ak {mb:Nat} (h:DA w b sb mb lo d) {k:Nat} (hk:WB w b k):k<w.heap.size:=by
 have⟨_,cs,h1⟩:=h.disk.wb hk
 exact(Array.getElem?_eq_some_iff.1 h1).1
theorem DA.tG {mb:Nat} (h:DA w b sb mb lo d) (k:NP [] w w') (g:Nat):WB w' b g↔WB w b g:=WB.iw (k.cell (a:=(aa b 1)) h.bH _b)
theorem DA.bU {mb:Nat} (h:DA w b sb mb lo d) (hT:∀x∈T,x<w.heap.size) (k:NP [] w w') {g:Nat} (hg:w.heap.size<=g):bf T w' b sb mb g:=
 ⟨fun hx=>by have:=hT g hx;omega,by have:=h.bH;omega,by have:=h.sC;omega,by have:=h.vP;omega,fun hx=>by have:=h.Ak ((h.tG k g).1 hx);omega⟩
def SD (T:List Nat) (w:World) (b sb mb:Nat):Nat->Prop:=fun g=>¬bf T w b sb mb g
theorem DA.vL {mb:Nat} (h:DA w b sb mb lo d) (hT:∀x∈T,x<w.heap.size):∀x,SD T w b sb mb x->x<w.heap.size:=by
 intro x hx
 apply NG
 intro NV
 exact hx (h.bU hT (NP.refl [] w) _a)
theorem SD.kept {mb:Nat} (k:NP [] w w') (hb:b<w.heap.size):SD T w' b sb mb=SD T w b sb mb:=by
 funext g
 unfold SD bf
 rw[WB.iw (k.cell (a:=(aa b 1)) hb _b)]
theorem bD.JP {mb off c:Nat} {m:Nat} (h:bD (SD T w b sb mb) (.slice (some (aa g off)) m c) n) (hn:0<n):bf T w b sb mb g:=by
 apply NG
 intro hx
 exact h g off none m c rfl hn hx
theorem bD.pk {mb:Nat} (h:bD (SD T w b sb mb) v n) (k:PK T b sb mb w w') (NV:∀g off sp n' c,v=.slice (some ⟨g,off,sp⟩) n' c->0<n->g<w.heap.size):bD (SD T w' b sb mb) v n:=by
 intro g off sp n' c e hn hx
 apply h g off sp n' c e hn
 intro hy
 exact hx (hy.pk k (NV g off sp n' c e hn))
def ep (T:List Nat) (w:World) (b sb mb:Nat) (v:Value) (l:List (Int×Int)):Prop:=(∃lo hi,af w v l lo hi)/\bD (SD T w b sb mb) v l.length
theorem af.pk {mb:Nat} (h:af w v l lo hi) (ho:bD (SD T w b sb mb) v l.length) (k:PK T b sb mb w w'):af w' v l lo hi:=by
 rcases h with h|⟨g,off,c,e,h2,h3,h4,h5,h6,h7,h8⟩
 .exact Or.inl h
 .subst e
  have hg:=k.same (ho.JP (Nu.2 h6)) _a
  refine Or.inr ⟨g,off,c,rfl,fun i hi=>?_,h3,h4,Nk h5 k.size,h6,h7,h8⟩
  rw[World.cell?_of_block (w:=w) (a:=⟨g,_,none⟩) hg,World.cell?_of_block (w:=w) (a:=⟨g,_,none⟩) hg]
  exact h2 i hi
theorem af.mT {lo hi:Nat} (h:af w v l lo hi):∀g off sp n' c,v=.slice (some ⟨g,off,sp⟩) n' c->0<l.length->g<w.heap.size:=by
 intro g off sp n' c e hn
 rcases h with⟨h,_⟩|⟨b,off',c',e',_,_,h4,h5,_⟩
 .rw[h]at hn;simp at hn
 .rw[e']at e
  injection e with e
  injection e with e
  injection e with e
  subst e
  omega
theorem ep.pk {mb:Nat} (h:ep T w b sb mb v l) (k:PK T b sb mb w w'):ep T w' b sb mb v l:=by
 obtain⟨⟨lo,hi,h1⟩,h2⟩:=h
 exact⟨⟨lo,hi,h1.pk h2 k⟩,h2.pk k h1.mT⟩
theorem ep.nil {mb:Nat} (a:Option Addr) (c:Nat):ep T w b sb mb (.slice a 0 c) []:=⟨⟨0,0,Or.inl ⟨rfl,a,c,rfl⟩⟩,fun g off sp n' c e hn=>by simp at hn⟩
theorem af.JO {lo hi:Nat} (h:af w v l lo hi) (hS:∀x,S x->x<lo):bD S v l.length:=by
 intro g off sp n c e hn hg
 rcases h with⟨h,_⟩|⟨b,off',c',e',_,h3,_⟩
 .rw[h]at hn;simp at hn
 .rw[e']at e
  injection e with e
  injection e with e
  injection e with e
  subst e
  have:=hS _ hg
  omega
theorem af.new {mb PU:Nat} (h:af w' v l PU hi) (hD:DA w b sb mb lo d) (hT:∀x∈T,x<w.heap.size) (k:NP [] w w') (hlo:w.heap.size<=PU):ep T w' b sb mb v l:=
 ⟨⟨PU,hi,h⟩,h.JO (fun x hx=>by
  rw[SD.kept k hD.bH]at hx
  have:=hD.vL hT x hx
  omega)⟩
theorem ep.mono {S:List Nat} {mb:Nat} (h:ep T w b sb mb v l) (hST:∀x∈S,x∈T):ep S w b sb mb v l:=⟨h.1,h.2.weaken (fun _ hx hy=>hx (hy.mono hST))⟩
theorem bO.pk {mb:Nat} (h:bO w v n k xs) (ho:bD (SD T w b sb mb) v n) (q:PK T b sb mb w w'):bO w' v n k xs:=by
 have⟨h1,h⟩:=h
 refine⟨h1,?_⟩
 rcases h with h|⟨g,off,c,e,h2,h3,h4,h5⟩
 .exact Or.inl h
 .subst e
  have hg:=q.same (ho.JP h4) h3
  refine Or.inr ⟨g,off,c,rfl,fun j u hj=>?_,MR h3 q.size,h4,h5⟩
  rw[World.cell?_of_block (w:=w) (a:=⟨g,_,none⟩) hg]
  exact h2 j u hj
theorem bO.mT (h:bO w v n k xs):∀g off sp n' c,v=.slice (some ⟨g,off,sp⟩) n' c->0<n->g<w.heap.size:=by
 intro g off sp n' c e hn
 subst e
 rcases h.2 with⟨h0,_⟩|⟨b,off',c',e,h3,h4,_⟩
 .omega
 .injection e with e
  injection e with e
  injection e with e
  subst e
  exact h4
theorem aq.pk {mb:Nat} {l:List NS} (h:aq (SD T w b sb mb) w v l) (k:PK T b sb mb w w'):aq (SD T w' b sb mb) w' v l:=by
 have⟨vs,h1,h2,h3,h4⟩:=h
 refine⟨vs,h1,h2.pk h4 k,fun x hx=>⟨⟨((h3 x hx).1.1.pk (h3 x hx).2 k).upto,(h3 x hx).1.2⟩,(h3 x hx).2.pk k (h3 x hx).1.1.mT⟩,h4.pk k h2.mT⟩
def dE (T:List Nat) (w:World) (b sb mb:Nat) (v:Value) (c:au):Prop:=av (SD T w b sb mb) w v c
theorem dE.pk {mb:Nat} (h:dE T w b sb mb v c) (k:PK T b sb mb w w'):dE T w' b sb mb v c:=by
 have⟨va,vb,vc,e,h1,h2,h3,h4⟩:=h
 exact⟨va,vb,vc,e,h1.pk k,h2.pk k,h3.pk k,h4⟩
theorem dE.kept0 {mb:Nat} (h:dE T w b sb mb v c) (k:NP [] w w') (hb:b<w.heap.size):dE T w' b sb mb v c:=h.pk (k.eH hb)
theorem dE.plain {mb:Nat} (h:dE T w b sb mb v c):dJ w v c:=av.plain h
theorem dE.empty (T:List Nat) (w:World) (b sb mb:Nat):dE T w b sb mb (.agg #[.int .u32 1,.int .u32 1,(),(),()]) ⟨1,1,[],[],[]⟩:=⟨_,_,_,rfl,aq.nil _ _,aq.nil _ _,aq.nil _ _,_d,_d⟩
theorem av.Gg {mb:Nat} (h:av (SD T w b sb mb) w' v c) (k:NP [] w w') (hb:b<w.heap.size):dE T w' b sb mb v c:=by
 unfold dE
 rw[SD.kept k hb]
 exact h
def Wy (x:Nat):Nat:=if x%2=1 then x/2 ^^^ 3988292384 else x/2
def Ue:Nat->Nat->Nat
 |0,x=>x
 |k+1,x=>Wy (Ue k x)
def Ga (x:Nat) (b:UInt8):Nat:=Ue 8 (x ^^^ b.toNat)
def QD (x:Nat) (l:List UInt8):Nat:=l.foldl Ga x
def PE (l:List UInt8):Nat:=4294967295-QD 4294967295 l
theorem tO (x k:Nat):(Wy x).testBit k=(x.testBit (k+1) ^^ (x.testBit 0&&Nat.testBit 3988292384 k)):=by
 unfold Wy
 rw[Nat.testBit_succ,Nat.testBit_zero]
 by_cases h:x%2=1
 .rw[if_pos h,Nat.testBit_xor,MV h,Bool.true_and]
 .rw[if_neg h,MS h,Bool.false_and,Bool.xor_false]
theorem Jg (h:x<2^32):Wy x<2^32:=by
 unfold Wy
 split
 .exact Nat.xor_lt_two_pow _a _d
 .omega
theorem zc (k:Nat) (h:x<2^32):Ue k x<2^32:=by
 induction k with
 |zero=>exact h
 |succ k ih=>exact Jg ih
theorem Kz (b:UInt8):b.toNat<2^32:=Nat.lt_trans b.toNat_lt _d
theorem Iy (b:UInt8) (h:x<2^32):Ga x b<2^32:=zc 8 (Nat.xor_lt_two_pow h (Kz b))
theorem zQ (l:List UInt8) (h:x<2^32):QD x l<2^32:=by
 induction l generalizing x with
 |nil=>exact h
 |cons b l ih=>exact ih (Iy b h)
theorem iJ (l:List UInt8):PE l<4294967296:=by unfold PE;omega
theorem vr (x:Nat) (l:List UInt8) (b:UInt8):QD x (l++[b])=Ga (QD x l) b:=by simp[QD,List.foldl_append]
theorem Hc (a c:Nat):Wy (a ^^^ 2*c)=Wy a ^^^ c:=by
 apply Nat.eq_of_testBit_eq
 intro k
 rw[tO,Nat.testBit_xor,Nat.testBit_xor,Nat.testBit_xor,tO]
 have e1:(2*c).testBit (k+1)=c.testBit k:=by rw[Nat.testBit_succ];congr 1;omega
 have e2:(2*c).testBit 0=false:=by rw[Nat.testBit_zero];simp
 rw[e1,e2,Bool.xor_false]
 cases a.testBit (k+1)<;>cases c.testBit k<;>simp
def mb (l:List UInt8) (i:Nat):Bool:=match l[i/8]? with|some b=>b.toNat.testBit (i%8)|none=>false
theorem CZ (l:List UInt8) (i:Nat) (h:8*l.length<=i):mb l i=false:=by
 unfold mb;rw[List.getElem?_eq_none _a]
def oG (l:List UInt8):Nat->Nat
 |0=>4294967295
 |i+1=>Wy (oG l i ^^^ (mb l i).toNat)
theorem FX (b t:Nat):b/2^t ^^^ (b.testBit t).toNat=2*(b/2^(t+1)):=by
 apply Nat.eq_of_testBit_eq
 intro k
 rw[Nat.testBit_xor,Nat.testBit_div_two_pow]
 cases k with
 |zero=>
  have e:(2*(b/2^(t+1))).testBit 0=false:=by rw[Nat.testBit_zero];simp
  rw[e];cases h:b.testBit t<;>simp[h]
 |succ k=>
  have e:(2*(b/2^(t+1))).testBit (k+1)=(b/2^(t+1)).testBit k:=by rw[Nat.testBit_succ];congr 1;omega
  rw[e,Nat.testBit_div_two_pow]
  have e2:(b.testBit t).toNat.testBit (k+1)=false:=by cases b.testBit t<;>simp[Nat.testBit_succ]
  rw[e2,Bool.xor_false];congr 1;omega
theorem Ey (l:List UInt8) (j:Nat) (hj:j<l.length) (t:Nat) (ht:t<=8):oG l (8*j+t)=Ue t (oG l (8*j) ^^^ l[j].toNat) ^^^ l[j].toNat/2^t:=by
 induction t with
 |zero=>
  show oG l (8*j)=(oG l (8*j) ^^^ l[j].toNat) ^^^ _
  rw[Nat.pow_zero,Nat.div_one,Nat.xor_assoc,Nat.xor_self,Nat.xor_zero]
 |succ t ih=>
  have hm:mb l (8*j+t)=l[j].toNat.testBit t:=by
   unfold mb
   have e1:(8*j+t)/8=j:=_a
   have e2:(8*j+t)%8=t:=_a
   rw[e1,e2,MZ hj]
  show Wy (oG l (8*j+t) ^^^ (mb l (8*j+t)).toNat)=Wy (Ue t _) ^^^ _
  rw[ih _a,hm,Nat.xor_assoc,FX,Hc]
theorem Hk (l:List UInt8) (j:Nat) (hj:j<=l.length):oG l (8*j)=QD 4294967295 (l.take j):=by
 induction j with
 |zero=>rfl
 |succ j ih=>
  have h:=Ey l j _a 8 _a
  have e:l[j].toNat/2^8=0:=Nat.div_eq_of_lt l[j].toNat_lt
  rw[e,Nat.xor_zero]at h
  rw[MI _a,vr,<-ih _a]
  exact h
def pb (j:Nat):Bool:=Nat.testBit 4374732215 (32-j)
theorem Hv (k:Nat):(decide (k+1<=32)&&pb (k+1))=Nat.testBit 3988292384 k:=by
 by_cases h:k+1<=32
 .rw[MV h,Bool.true_and]
  have:∀k:Fin 32,pb (k.val+1)=Nat.testBit 3988292384 k.val:=by decide+kernel
  exact this ⟨k,_a⟩
 .rw[MS h,Bool.false_and]
  symm
  apply Nat.testBit_lt_two_pow
  exact MR (show 3988292384<2^32 by decide) (Nat.pow_le_pow_right _d _a)
def fs (l:List UInt8):Nat->Nat->Bool
 |0,i=>if i<32 then !(mb l i)else mb l i
 |a+1,i=>if fs l a a&&decide (a<=i/\i<a+33)then(fs l a i != pb (i-a))else fs l a i
theorem J0 (l:List UInt8) (a i:Nat) (h:a<=i):fs l a i=(mb l i ^^ (oG l a).testBit (i-a)):=by
 induction a generalizing i with
 |zero=>
  show(if i<32 then _ else _)=_
  have e:(oG l 0).testBit (i-0)=decide (i<32):=Nat.testBit_two_pow_sub_one 32 i
  rw[e]
  by_cases QO:i<32
  .rw[if_pos QO,MV QO];cases mb l i<;>rfl
  .rw[if_neg QO,MS QO];cases mb l i<;>rfl
 |succ a ih=>
  obtain⟨k,rfl⟩:∃k,i=a+1+k:=⟨i-(a+1),_a⟩
  have i1:=ih a (MG _)
  have i2:=ih (a+1+k) _a
  have e1:a+1+k-a=k+1:=_a
  have e2:a+1+k-(a+1)=k:=_a
  rw[Nat.sub_self]at i1
  rw[e1]at i2
  show(if fs l a a&&decide (a<=a+1+k/\a+1+k<a+33)then(fs l a (a+1+k) != pb (a+1+k-a))else fs l a (a+1+k))=(mb l (a+1+k) ^^ (Wy (oG l a ^^^ (mb l a).toNat)).testBit (a+1+k-(a+1)))
  rw[e1,e2,i2,i1,tO,Nat.testBit_xor,Nat.testBit_xor,<-Hv]
  have e3:(mb l a).toNat.testBit (k+1)=false:=by cases mb l a<;>simp[Nat.testBit_succ]
  have e4:(mb l a).toNat.testBit 0=mb l a:=by cases mb l a<;>rfl
  have e5:decide (a<=a+1+k/\a+1+k<a+33)=decide (k+1<=32):=by
   rw[decide_eq_decide];omega
  rw[e3,e4,e5]
  cases mb l a<;>cases (oG l a).testBit 0<;>cases mb l (a+1+k)<;>cases (oG l a).testBit (k+1)<;>cases decide (k+1<=32)<;>cases pb (k+1)<;>rfl
theorem It (l:List UInt8) (k:Nat):fs l (8*l.length) (8*l.length+k)=(QD 4294967295 l).testBit k:=by
 rw[J0 l _ _ _a,CZ l _ _a,Hk l _ (MG _),MU,Bool.false_xor]
 congr 1;omega
theorem Ix (l:List UInt8) (k:Nat):(PE l).testBit k=(decide (k<32)&& !(QD 4294967295 l).testBit k):=by
 have h:=Nat.testBit_two_pow_sub_succ (n:=32) (zQ l (show 4294967295<2^32 by decide)) k
 have e:PE l=2^32-(QD 4294967295 l+1):=by unfold PE;omega
 rw[e];exact h
theorem DL (l:List UInt8) (k:Nat) (h:k<32):PE l/2^k=2*(PE l/2^(k+1))+(if fs l (8*l.length) (8*l.length+k)=false then 1 else 0):=by
 have hb:=Ix l k
 rw[MV h,Bool.true_and,<-It]at hb
 have e1:PE l/2^(k+1)=PE l/2^k/2:=by rw[Nat.pow_succ,Nat.div_div_eq_div_mul]
 have e2:(PE l).testBit k=decide (PE l/2^k%2=1):=by rw[Nat.testBit_eq_decide_div_mod_eq]
 rw[e2]at hb
 rw[e1]
 cases hf:fs l (8*l.length) (8*l.length+k)
 .rw[hf]at hb
  have:PE l/2^k%2=1:=by simpa using hb
  simp;omega
 .rw[hf]at hb
  have:¬PE l/2^k%2=1:=by simpa using hb
  simp;omega

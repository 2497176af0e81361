/- -/
import Derived.Test.YtdkimcnlhmhpgaaGreatM14
set_option maxHeartbeats 32000000
set_option maxRecDepth 100000
namespace Go.Proofs.YtdkimcnlhmhpgaaGreat
open Go.Proofs.Tryz Go.RowKit
variable {S:Nat->Prop} {w w' W W':World} {v:Value} {l:List NS} {n k base b g:Nat} {xs:List Value} {T:List Nat} {vs:List (NS×Value)} {cs:Array Value} {t:TypeId} {A q:Prop} {c:au}
def bD (S:Nat->Prop) (v:Value) (n:Nat):Prop:=∀g off sp n' c,v=.slice (some ⟨g,off,sp⟩) n' c->0<n->¬S g
def aq (S:Nat->Prop) (w:World) (v:Value) (l:List NS):Prop:=∃vs:List (NS×Value),vs.map (·.1)=l/\bO w v vs.length 4 (NX vs)/\(∀x∈vs,bd w x/\bD S x.2 x.1.runs.length)/\bD S v vs.length
theorem aq.plain (h:aq S w v l):aU w v l:=by
 have⟨vs,h1,h2,h3,_⟩:=h
 exact⟨vs,h1,h2,fun x hx=>(h3 x hx).1⟩
theorem af.off {l:List (Int×Int)} {lo hi:Nat} {S:Nat->Prop} (h:af w v l lo hi) (hS:∀x,S x->w.heap.size<=x):bD S v l.length:=by
 intro g off sp n c e hn hg
 rcases h with⟨h,_⟩|⟨b,off',c',e',_,_,h4,h5,_⟩
 .rw[h]at hn;simp at hn
 .rw[e']at e
  injection e with e
  injection e with e
  injection e with e
  subst e
  have:=hS _ hg
  omega
theorem aq.kept0 (h:aq S w v l) (k:NP [] w w'):aq S w' v l:=by
 have⟨vs,h1,h2,h3,h4⟩:=h
 exact⟨vs,h1,h2.kept0 k,fun x hx=>⟨(h3 x hx).1.kept0 k,(h3 x hx).2⟩,h4⟩
theorem bO.aS (h:bO w v n k xs) (q:NP T w w') (ho:bD S v n) (hT:∀x∈T,S x):bO w' v n k xs:=by
 refine⟨h.1,?_⟩
 rcases h.2 with h2|⟨b,off,c,e,h3,h4,h5⟩
 .exact Or.inl h2
 .exact Or.inr ⟨b,off,c,e,fun j u hj=>(q.cell (by exact h4) (fun hb=>ho _ _ _ _ _ e h5.1 (hT _ hb))).trans (h3 j u hj),MR h4 q.size,h5⟩
theorem af.aS {l:List (Int×Int)} {lo hi:Nat} {S:Nat->Prop} {T:List Nat} (h:af w v l lo hi) (q:NP T w w') (ho:bD S v l.length) (hT:∀x∈T,S x):af w' v l lo hi:=by
 rcases h with h|⟨b,off,c,h1,h2,h3,h4,h5,h6,h7⟩
 .exact Or.inl h
 .have hn:0<l.length:=Nu.2 h6
  have hb:b∉T:=fun hb=>ho _ _ _ _ _ h1 hn (hT _ hb)
  refine Or.inr ⟨b,off,c,h1,fun i hi=>?_,h3,h4,Nk h5 q.size,h6,h7⟩
  have⟨x,y⟩:=h2 i hi
  exact⟨(q.cell d! hb).trans x,(q.cell d! hb).trans y⟩
theorem aq.aS (h:aq S w v l) (k:NP T w w') (hT:∀x∈T,S x):aq S w' v l:=by
 have⟨vs,h1,h2,h3,h4⟩:=h
 exact⟨vs,h1,h2.aS k h4 hT,fun x hx=>⟨⟨((h3 x hx).1.1.aS k (h3 x hx).2 hT).upto,(h3 x hx).1.2⟩,(h3 x hx).2⟩,h4⟩
theorem aq.nil (S:Nat->Prop) (w:World):aq S w () []:=⟨[],rfl,⟨rfl,Or.inl ⟨rfl,none,0,rfl⟩⟩,fun x hx=>J!,fun g off sp n c e=>(by injection e with e;cases e)⟩
theorem bD.row {e:TypeId} (h:w.ownsRow base e k v n xs) (hS:∀x,S x->x<base) (m:Nat):bD S v m:=by
 intro g off sp n' c ev _ hg
 have h1:=ML h g (by rw[ev];rcases h.2 with⟨e1,_⟩|⟨g2,cap,cur,e1,_⟩;(rw[e1]at ev;cases ev);(rw[e1]at ev;injection ev with ev;injection ev with ev;injection ev with ev;subst ev;rfl))
 have:=hS _ hg
 omega
theorem aq.bB (h:w.ownsRow base 113 4 v vs.length (NX vs)) (hS:∀x,S x->x<base) (h3:∀x∈vs,bd w x/\bD S x.2 x.1.runs.length):aq S w v (vs.map (·.1)):=⟨vs,rfl,bO.bB h,h3,bD.row h hS _⟩
def fp (S:Nat->Prop) (l:List NS) (w:World) (e:Ending) (w':World):Prop:=∃v,e=.returned v/\aq S w' v l/\NP [] w w'
def Pt (x:NS) (xv:Value):List Value:=[.int .u32 x.id,.string (bs x.name),.int .i64 x.size,xv]
theorem Al (x:NS) {xv:Value} (h:fP xv):∀u∈Pt x xv,u.oneCell'=true:=by
 intro u hu
 obtain⟨p,n,c,rfl⟩:=h
 simp[Pt]at hu
 rcases hu with rfl|rfl|rfl|rfl<;>rfl
theorem Ic {x:NS} {xv:Value}:(vs.take (Og (vs.map (·.1)) x)++[(x,xv)]++vs.drop (Og (vs.map (·.1)) x)).map (·.1)=Qm (vs.map (·.1)) x:=by
 unfold Qm
 rw[M0,M0,List.map_take,List.map_drop]
 simp
theorem aU.Ca {x:NS} {xv:Value} (h:w'.ownsRow base 113 4 v (vs.length+1) ((NX vs).take (Og (vs.map (·.1)) x*4)++Pt x xv++(NX vs).drop (Og (vs.map (·.1)) x*4))) (hS:∀x,S x->x<base) (h3:∀y∈vs,bd w y/\bD S y.2 y.1.runs.length) (hx:bd w (x,xv)/\bD S xv x.runs.length) (k:NP [] w w'):aq S w' v (Qm (vs.map (·.1)) x):=by
 rw[<-Ic (xv:=xv)]
 refine aq.bB (base:=base) ?_ hS (fun y hy=>?_)
 .have hle:=jv (vs.map (·.1)) x
  rw[MP]at hle
  have e1:(vs.take (Og (vs.map (·.1)) x)++[(x,xv)]++vs.drop (Og (vs.map (·.1)) x)).length=vs.length+1:=by
   rw[tN,tN,MO,MQ,Nq];omega
  rw[e1,fx,fx,<-gJ,<-fL]
  exact h
 .rcases Na.1 hy with hy|hy
  .rcases Na.1 hy with hy|hy
   .have:=h3 y (NJ hy);exact⟨this.1.kept0 k,this.2⟩
   .have:y=(x,xv):=N!
    subst this;exact⟨hx.1.kept0 k,hx.2⟩
  .have:=h3 y (NF hy);exact⟨this.1.kept0 k,this.2⟩
theorem pB (o:ae W b cs t) (h:∀g,v.ownBlock=some g->b<g) (hk:∀S,(∀g,v.ownBlock=some g->g∈S)->NP S W W'):ae W' b cs t:=by
 cases hb:v.ownBlock with
 |none=>exact(hk [] (fun g hg=>by rw[hb]at hg;cases hg)).own o _b
 |some g=>
  have:=h g hb
  exact(hk [g] (fun g' hg=>by rw[hb]at hg;injection hg with hg;simp[hg])).own o _e
theorem nK (k:NP [] w W) (h:∀g,v.ownBlock=some g->w.heap.size<=g) (hk:∀S,(∀g,v.ownBlock=some g->g∈S)->NP S W W'):NP [] w W':=by
 cases hb:v.ownBlock with
 |none=>exact k.call (hk [] (fun g hg=>by rw[hb]at hg;cases hg)) (fun x hx=>by cases hx)
 |some g=>
  refine k.call (hk [g] (fun g' hg=>by rw[hb]at hg;injection hg with hg;simp[hg])) (fun x hx=>?_)
  have:x=g:=_h
  subst this
  exact Or.inr (h _ hb)
theorem adF (h:A:=by
 clear hK K
 refine tS ?_
 refine Ng _c ?_ _
 go_wp2_with fail
 go_ret
 exact Ph.out _ _ K7.out hro7):A:=h
theorem L5 (v:Value) (l:List NS) (x:NS) (xv:Value) (w:World) (h:aq S w v l) (hS:∀x,S x->x<w.heap.size) (hl:l.length<=100000) (hr:cG l) (hx:bd w (x,xv)/\bD S xv x.runs.length):
  am! 235 #[v,.agg (x.cells xv),.func (.func 233) #[] #[]] w (fp S (Qm l x) w):=by
 have hs:=fun W (q:NP [] w W)=>Ab v l x xv W (h.plain.kept0 q) _a hr
 unfold gA at hs
 have Xp:=jv l x
 obtain⟨vs,rfl,hraw,Pf,_⟩:=h
 rw[MP]at hl Xp
 have Td:∀y∈vs,fP y.2:=fun y hy=>(Pf y hy).1.fz
 have Qg:=fun W (q:NP [] w W)=>sd v vs.length (NX vs) W (hraw.kept0 q) (fB Td) _a
 obtain⟨px,nx,cx,rfl⟩:fP xv:=hx.1.fz
 have P7:Hid (∀W v' vb,NP [] w W->W.ownsRow w 113 4 v' vs.length (NX vs)->ae W vb #[(x.id,()),x.name,x.size,(px,nx,cx)] 113->v'.ownBlock≠some vb->am! 270 #[v',(Og (vs.map (·.1)) x:Int),.slice (some ⟨vb,0,none⟩) 1 1] W (iA w v' (vs.length+1) ((NX vs).take (Og (vs.map (·.1)) x*4)++Pt x (px,nx,cx)++(NX vs).drop (Og (vs.map (·.1)) x*4)) W)):=
  fun W v' vb q P0 hov Pb=>GS w v' vs.length (NX vs) _ W vb (Pt x (px,nx,cx)) P0 q.size (fB Td) Xp _a hov rfl (Al x ⟨_,_,_,rfl⟩) Pb
 have Ph:Hid (∀W v',NP [] w W->W.ownsRow w 113 4 v' (vs.length+1) ((NX vs).take (Og (vs.map (·.1)) x*4)++Pt x (px,nx,cx)++(NX vs).drop (Og (vs.map (·.1)) x*4))->fp S (Qm (vs.map (·.1)) x) w (.returned v') W):=fun W v' q P0=>⟨v',rfl,aU.Ca P0 hS Pf hx q,q⟩
 have⟨HS,S9⟩:=_f hs Qg
 obtain⟨pv,cv,rfl⟩:=hraw.shape
 unfold iA at P7
 have oX:=ae.new w (x.cells (px,nx,cx)) 113
 have k0:NP [] w (w.alloc (.cells (x.cells (px,nx,cx)) 113)):=(NP.refl _ _).alloc _
 unfold NS.cells at oX k0 HS ⊢
 have⟨x0,x1,x2,x3⟩:=oX.c4
 have⟨OX,K0⟩:=_f oX k0
 clear hs Qg Td Pf hx Xp hS oX k0 hraw hr
 generalize Og (vs.map (·.1)) x=P at*
 generalize Qm (vs.map (·.1)) x=IL at*
 generalize vs.length=L at*
 generalize NX vs=IC at*
 go_enter func235,ntmps235
 go_wp2_with fail
 refine(HS.out _ K0.out).mono ?_;rintro e w2 ⟨q,rfl,hq,k2⟩
 have K2:=tK (K0.out.trans k2)
 have o2:=k2.own OX.out _b
 have O2:=tK o2
 have⟨x0,x1,x2,x3⟩:=o2.c4
 clear hq o2
 go_wp2_with fail
 refine MK (S:=(fun W=>W.cell? w=(x.id,())/\W.cell? (aa w 1)=x.name/\W.cell? (aa w 2)=x.size/\W.cell? (aa w 3)=(px,nx,cx))) _c (by exact O2.out.drew.c4) (fun hHeld=>?_)
 refine tS ?_
 refine wpAnyH_ready (rs:=[1,4]) _c _b ?_
 refine(AllReadyH.cons rfl (fun K hK=>?_) (AllReadyH.cons rfl (fun K hK=>?_) AllReadyH.nil))
 .go_simp
  ((with_reducible refine(S9.out _ K2.out.drew).mono ?_));rintro e w5 ⟨v5,rfl,r5,k5⟩
  have K5:=tK (K2.out.drew.trans k5)
  have o5:=k5.own O2.out.drew _b
  have⟨O5,R5⟩:=_f o5 r5
  clear r5 o5
  go_wp2_with fail
  refine hK.out _ _ ?_ (fun hHeld=>nM ?_)
  .exact O5.out.c4
  clear hK K
  refine rD 4 (fun K hK=>?_)
  go_simp
  refine hK.out _ _ ?_ (fun hHeld=>nM ?_)
  .go_keep
  clear hK K
  have hov:=ae.new w5 #[(x.id,()),x.name,x.size,(px,nx,cx)] 113
  have Wq:=ML R5.out
  have Wd:=MH (aF R5.out K2.out.size) (.cells #[(x.id,()),x.name,x.size,(px,nx,cx)] 113)
  have Pb:v5.ownBlock≠some w5:=fun e=>by have:=(Wq _ e).2;omega
  have Zq:=P7.out _ v5 _ (K5.out.alloc _) Wd hov Pb
  have abd:=tK Zq
  have Zz:=tK (ML Wd)
  have aaU:Hid (∀g,v5.ownBlock=some g->w.heap.size<g):=tK (fun g hg=>by have h1:=(Wq g hg).1;have h2:=O2.out.lt;simp at h1;omega)
  clear hov Wq Wd Pb Zq
  refine rD 5 (fun K hK=>?_)
  go_simp
  ((with_reducible refine abd.out.mono ?_));rintro e w7 ⟨v7,rfl,hro7,SV⟩
  have K7:Hid (NP [] w w7):=tK (nK (K5.out.alloc _) (fun g hg=>(Zz.out g hg).1) SV)
  go_wp2_with fail
  refine hK.out _ _ ?_ (fun hHeld=>nM ?_)
  .exact(pB (O5.out.alloc _) (fun g hg=>aaU.out g hg) SV).c4
  exact adF
 .go_simp
  refine hK.out _ _ ?_ (fun hHeld=>nM ?_)
  .go_keep
  clear hK K
  have hov:=ae.drew (ae.new w2 #[(x.id,()),x.name,x.size,(px,nx,cx)] 113)
  have HOV:=tK hov
  have KB:Hid (NP [] w (w2.alloc (.cells #[(x.id,()),x.name,x.size,(px,nx,cx)] 113)).drew):=tK ((K2.out.alloc _).drew)
  have OB:Hid (ae (w2.alloc (.cells #[(x.id,()),x.name,x.size,(px,nx,cx)] 113)).drew w #[(x.id,()),x.name,x.size,(px,nx,cx)] 113):=tK ((O2.out.alloc _).drew)
  clear hov
  refine rD 1 (fun K hK=>?_)
  go_simp
  ((with_reducible refine(S9.out _ KB.out).mono ?_));rintro e w5 ⟨v5,rfl,r5,k5⟩
  have K5:=tK (KB.out.trans k5)
  have o5:=k5.own OB.out _b
  have O5:=tK o5
  have ab4:=k5.own HOV.out _b
  have Wq:=ML r5
  have Pb:v5.ownBlock≠some w2:=fun e=>by have:=(Wq _ e).1;simp at this;omega
  have Wd:=aF r5 KB.out.size
  have Zq:=P7.out _ v5 _ K5.out Wd ab4 Pb
  have abd:=tK Zq
  have Zz:=tK (ML Wd)
  have aaU:Hid (∀g,v5.ownBlock=some g->w.heap.size<g):=tK (fun g hg=>by have h1:=(Wq g hg).1;have h2:=O2.out.lt;simp at h1;omega)
  clear r5 o5 ab4 Wq Pb Wd Zq
  go_wp2_with fail
  refine hK.out _ _ ?_ (fun hHeld=>nM ?_)
  .exact O5.out.c4
  clear hK K
  refine rD 5 (fun K hK=>?_)
  go_simp
  ((with_reducible refine abd.out.mono ?_));rintro e w7 ⟨v7,rfl,hro7,SV⟩
  have K7:Hid (NP [] w w7):=tK (nK K5.out (fun g hg=>(Zz.out g hg).1) SV)
  go_wp2_with fail
  refine hK.out _ _ ?_ (fun hHeld=>nM ?_)
  .exact(pB O5.out (fun g hg=>aaU.out g hg) SV).c4
  exact adF
def jk (l:List NS):Prop:=l.length<=1000000/\∀a∈l,a.runs.length<=1000000
def ie (c:au):Prop:=jk c.boxes/\jk c.mans/\jk c.names
def dJ (w:World) (v:Value) (c:au):Prop:=∃vb vm vn,v=.agg #[(c.nextBox,()),(c.nextMan,()),vb,vm,vn]/\aU w vb c.boxes/\aU w vm c.mans/\aU w vn c.names/\(Lit.int .u32 c.nextBox).wf=true/\(Lit.int .u32 c.nextMan).wf=true
theorem dJ.kept0 (h:dJ w v c) (k:NP [] w w'):dJ w' v c:=by
 have⟨vb,vm,vn,e,h1,h2,h3,h4⟩:=h
 exact⟨vb,vm,vn,e,h1.kept0 k,h2.kept0 k,h3.kept0 k,h4⟩
theorem ae.k5 {x0 x1 x2 x3 x4:Value} (h:ae w b #[x0,x1,x2,x3,x4] t):w.cell? b=some x0/\w.cell? (aa b 1)=some x1/\w.cell? (aa b 2)=some x2/\w.cell? (aa b 3)=some x3/\w.cell? (aa b 4)=some x4:=
 ⟨h.cell 0 _b,h.cell 1 _b,h.cell 2 _b,h.cell 3 _b,h.cell 4 _b⟩
def bG (q:Prop) (w:World) (e:Ending) (w':World):Prop:=∃b,e=.returned (.bool b)/\(b=true↔q)/\NP [] w w'
theorem aX (h:¬q) {w w':World} (k:NP [] w w'):bG q w (.returned false) w':=⟨false,rfl,⟨fun h'=>(by cases h'),fun h'=>absurd h' h⟩,k⟩
theorem gu (h:q) {w w':World} (k:NP [] w w'):bG q w (.returned true) w':=⟨true,rfl,⟨fun _=>h,fun _=>rfl⟩,k⟩
theorem B6 {m:List NS} (hl:k<l.length) (hm:k<m.length) (h:l.take k=m.take k) (he:l[k]=m[k]):l.take (k+1)=m.take (k+1):=by
 rw[MI hl,MI hm,h,he]
theorem au.qG (a b:au):((a.nextBox==b.nextBox)=false/\a≠b)\/((a.nextBox==b.nextBox)=true/\(a.nextMan==b.nextMan)=false/\a≠b)\/((a.nextBox==b.nextBox)=true/\(a.nextMan==b.nextMan)=true/\(a=b↔a.boxes=b.boxes/\a.mans=b.mans/\a.names=b.names)):=by
 have⟨a1,a2,a3,a4,a5⟩:=a
 have⟨b1,b2,b3,b4,b5⟩:=b
 by_cases h1:a1=b1
 .by_cases h2:a2=b2
  .exact Or.inr (Or.inr ⟨_P,e!,by simp[h1,h2]⟩)
  .exact Or.inr (Or.inl ⟨_P,e!,by simp[h2]⟩)
 .exact Or.inl ⟨_P,by simp[h1]⟩
theorem sU (name:List UInt8):(name=[]/\(bs name).toList.isEmpty=true/\(bs name).toList=[]/\name.length=0)\/(name.isEmpty=false/\(bs name).toList.isEmpty=false/\1<=name.length/\name.length<=48/\(name.length:Int)<=48)\/(name.isEmpty=false/\(bs name).toList.isEmpty=false/\1<=name.length/\¬name.length<=48/\(48:Int)<name.length):=by
 rcases nF name with h|⟨h1,h2,h3⟩
 .exact Or.inl h
 .rcases(by omega:(name.length:Int)<=48\/(48:Int)<name.length)with l1|l1
  .exact Or.inr (Or.inl ⟨h1,h2,h3,_a,l1⟩)
  .exact Or.inr (Or.inr ⟨h1,h2,h3,_a,l1⟩)
theorem s9 {A:Array Value} {b:Bool} (c:Bool) (h:b=c) (k:am! n A w (mZ c w)):am! n A w (mZ b w):=h▸k
theorem zE (h:A:=by
 go_enter func98,ntmps98
 go_wp2_with fail
 refine(HH.out _).mono ?_;rintro e w' ⟨rfl,rfl⟩
 go_wp2_with fail
 go_ret
 exact⟨rfl,k0⟩):A:=h
theorem zD (h:A:=by
 refine s9 false T! ?_
 exact zE):A:=h
theorem Dl (h:A:=by
 go_enter func98,ntmps98
 go_wp2_with fail
 refine(HH.out _).mono ?_;rintro e w' ⟨rfl,rfl⟩
 go_wp2_with fail
 refine(HP.out _ k0).mono ?_;rintro e w1 ⟨rfl,k1⟩
 go_wp2_with fail
 go_ret
 exact⟨rfl,k0.trans k1⟩):A:=h
theorem JW {A:Prop} (h:A:=by
 rcases(by omega:size=0\/size≠0)with z1|z1
 .subst z1
  rcases List.eq_nil_or_concat runs with e1|⟨ri,rq,e1⟩
  .subst e1
   have hP:P=true:=by rw[<-ZC];exact rC
   subst hP
   refine s9 true (by unfold gq;simp[*,rC]) ?_
   exact Dl
  .have e2:1<=runs.length:=by rw[e1];simp
   have e3:(0:Int)<runs.length:=_a
   have e4:runs.isEmpty=false:=by rw[e1];simp
   clear e1
   exact zD
 .have z2:(size==0)=false:=by simpa using z1
  have z3:(size != 0)=true:=by simpa using z1
  exact zD):A:=h
theorem ta (r:ag) (v:Value) (lo hi:Nat) (w:World) (h:af w v r.runs lo hi) (hl:r.runs.length<=1000000) (hf:r.fits):
  am! 98 #[.agg (r.cells v)] w (mZ (az r) w):=by
 have⟨k,id,name,size,runs⟩:=r
 have⟨f1,f2,f3,f4⟩:=hf
 simp only at h hl f1 f2 f3 f4
 obtain⟨p,c,rfl⟩:=h.shape
 unfold ag.cells az
 simp only
 have hh:=fun W=>pJ k W
 have⟨id0,id1⟩:=eG f2
 have hsb:=ko f4
 have PW:(bs name).size=name.length:=NQ name
 unfold maxLen at f3
 have k0:NP [] w (w.alloc (.cells #[k,(id,()),name,size,(p,runs.length,c)] 102)):=(NP.refl _ _).alloc _
 have Rq:=fun W (kk:NP [] w W)=>Ij _ runs size lo hi W (h.kept0 kk) hl f4
 unfold lQ at Rq
 have HP:=tK Rq
 clear Rq h f1 f2 f4
 generalize S4 k=I at*
 generalize Px k=N at*
 generalize Oj k=B at*
 generalize ZC:iD runs size=P at*
 rcases(by omega:id=0\/(¬id=0/\1<=id/\id<=4294967294)\/id=4294967295)with rfl|⟨i3,i1,i2⟩|rfl
 rotate_left
 have i4:(id==0)=false:=by simpa using i3
 have i5:(id != 0)=true:=by simpa using i3
 all_goals rcases sU name with⟨rfl,nm2,nm3,nm4⟩|⟨nm1,nm2,nm3,l1,l3⟩|⟨nm1,nm2,nm3,l1,l3⟩
 all_goals cases I<;>cases N<;>cases B<;>(have HH:=tK hh;clear hh;first|(refine s9 false T! ?_;exact zE)|(refine s9 P T! ?_;cases P<;>exact Dl)|exact JW)
def oh (p:NS->Bool) (l:List NS) (w:World) (e:Ending) (w':World):Prop:=((∃i,∃h:i<l.length,p l[i]=true/\(∀j (hj:j<l.length),j<i->p l[j]=false)/\e=.returned (.int .i64 i))\/((∀j (hj:j<l.length),p l[j]=false)/\e=(-1:Int)))/\NP [] w w'
theorem M16 {A:Prop}(h:A:=by
 obtain⟨k,hk,rfl,OF,hK⟩:=hrel
 by_cases NV:k<l.length
 .obtain⟨b,off,kv,rfl,hia,hb,RU,hc2,HA⟩:=H.out.ja k NV
  have Qg:=HP.out wr hK k NV kv (hia.kept0 hK)
  have⟨x0,x1,x2,x3⟩:=HA wr hK
  obtain⟨R,hR⟩:∃R,p (l[k]'NV)=R:=⟨_,rfl⟩
  rw[hR]at Qg
  unfold NS.cells at Qg
  have i1:(k:Int)<l.length:=_a
  have⟨S9,Uc,Pk,SI,Of⟩:=gi! Qg hR OF hK NV
  clear hia Qg hR OF HA hb
  generalize hLA:l[k]'NV=A at x0 x1 x2 x3 S9
  clear hLA
  go_wp2_with fail
  refine S9.out.mono ?_;rintro e w2 ⟨rfl,k2⟩
  have KK:=tK (SI.out.trans k2)
  cases R with
  |true=>
   go_wp2_with fail
   go_ret
   exact⟨Or.inl ⟨k,Of.out,Uc.out,Pk.out,rfl⟩,KK.out⟩
  |false=>
   go_wp2_with fail
   go_roundw
   case rel=>exact⟨k+1,Of.out,_j,fun j hj hjk=>by
    by_cases e:j=k
    .subst e;exact Uc.out
    .exact Pk.out j hj _a,KK.out⟩
   case measure=>(have h:=Of.out;simp[intOf];omega)
 .obtain rfl:k=l.length:=_a
  have Pk:=tK OF
  clear OF
  go_wp2_with fail
  go_ret
  exact⟨Or.inr ⟨fun j hj=>Pk.out j hj hj,rfl⟩,hK⟩):A:=h
theorem Ad (p:NS->Bool) (cv:Value) (v:Value) (l:List NS) (w:World) (h:aU w v l) (hl:l.length<=1000000)
  (hp:∀W,NP [] w W->∀i (hi:i<l.length) kv,bd W (l[i],kv)->am! 230 #[.agg (l[i].cells kv),cv] W fun e w'=>e=.returned (.bool (p l[i]))/\NP [] W w'):
  am! 187 #[v,.func (.func 230) #[] #[cv]] w (oh p l w):=by
 obtain⟨pa,ca,rfl⟩:=h.shape
 have⟨H,HP⟩:=_f h hp
 have Tg:(l.length:Int)<=1000000:=_a
 clear h hp
 go_enter func187,ntmps187
 go_wp2_with fail
 go_loopw [8] (fun i wr=>∃k:Nat,k<=l.length/\i=(k:Int)/\(∀j (hj:j<l.length),j<k->p l[j]=false)/\NP [] w wr) (fun i _=>l.length-(intOf i).toNat)
 case atStart=>exact⟨0,Nb _,rfl,fun j hj h=>absurd h (Nat.not_lt_zero j),NP.refl _ _⟩
 case round=>
  exact M16
theorem L8 (k:Int) (kb:Nat) (x:NS) (xv:Value) (w:World) (hk:w.cell? kb=k) (hx:bd w (x,xv)) (hl:x.runs.length<=1000000) (YK:(Lit.int .i64 k).wf=true):
  am! 230 #[.agg (x.cells xv),kb] w fun e w'=>e=.returned (.bool (!az (x.told k)))/\NP [] w w':=by
 have ht:=fun W=>Gu k x xv W hx.fz
 have hc:=fun W (q:NP [] w W)=>ta (x.told k) xv _ _ W (hx.1.kept0 q) hl (NS.dw hx.2.1 YK)
 unfold mZ at hc
 obtain⟨p,n,c,rfl⟩:=hx.fz
 obtain⟨M,hM⟩:∃M,az (x.told k)=M:=⟨_,rfl⟩
 rw[hM]
 simp only[hM]at hc
 have oX:=ae.new w (x.cells (p,n,c)) 113
 have k0:NP [] w (w.alloc (.cells (x.cells (p,n,c)) 113)):=(NP.refl _ _).alloc _
 have hkb:kb<w.heap.size:=World.block_lt_of_cell? _ _ hk
 have c0:(w.alloc (.cells (x.cells (p,n,c)) 113)).cell? kb=k:=Lib.cell?_alloc_some _ hk
 unfold NS.told ag.cells at hc ht
 unfold NS.cells at oX k0 c0 ht ⊢
 have⟨x0,x1,x2,x3⟩:=oX.c4
 have⟨K0,HC,HT⟩:=gg! k0 hc ht
 clear oX k0 hc ht hM hkb hk hx
 go_enter func230,ntmps230
 go_wp2_with fail
 refine(HT.out _).mono ?_;rintro e w2 ⟨rfl,k2⟩
 have K2:=tK (K0.out.trans k2)
 go_wp2_with fail
 refine(HC.out _ K2.out).mono ?_;rintro e w3 ⟨rfl,k3⟩
 have K3:=tK (K2.out.trans k3)
 cases M
 .go_wp2_with fail
  go_ret
  exact⟨rfl,K3.out⟩
 .go_wp2_with fail
  go_ret
  exact⟨rfl,K3.out⟩
theorem BP (p:NS->Bool) (cv:Value) (v:Value) (l:List NS) (w:World) (h:aU w v l) (hl:l.length<=1000000)
  (hp:∀W,NP [] w W->∀i (hi:i<l.length) kv,bd W (l[i],kv)->am! 230 #[.agg (l[i].cells kv),cv] W fun e w'=>e=.returned (.bool (p l[i]))/\NP [] W w'):
  am! 231 #[v,.func (.func 230) #[] #[cv]] w (bG (∃a∈l,p a=true) w):=by
 have hi:=Ad p cv v l w h hl hp
 unfold oh at hi
 obtain⟨pa,ca,rfl⟩:=h.shape
 have HI:=tK hi
 clear hi h hp hl
 go_enter func231,ntmps231
 go_wp2_with fail
 refine HI.out.mono ?_;rintro e w2 ⟨⟨i,hi,h1,h2,rfl⟩|⟨h2,rfl⟩,k2⟩
 .have hx:∃a∈l,p a=true:=⟨_,MJ hi,h1⟩
  have HX:=tK hx
  have i1:(0:Int)<=(i:Int):=_a
  clear hx h1 h2 hi
  go_wp2_with fail
  go_ret
  exact gu HX.out k2
 .have hx:¬ ∃a∈l,p a=true:=by
   rintro⟨a,ha,hpa⟩
   obtain⟨j,hj,rfl⟩:=Nr.1 ha
   rw[h2 j hj]at hpa;cases hpa
  have HX:=tK hx
  clear hx h2
  go_wp2_with fail
  go_ret
  exact aX HX.out k2
theorem tE (k:Int) (v:Value) (l:List NS) (most:Nat) (w:World) (h:aU w v l) (hl:jk l) (YK:(Lit.int .i64 k).wf=true) (_:most<=1000000):
  am! 167 #[k,v,(most:Int)] w (bG (cE k l most) w):=by
 have o0:=ae.new w #[k] 31
 have k0:NP [] w (w.alloc (.cells #[k] 31)):=(NP.refl _ _).alloc _
 have c0:=o0.cell 0 _b
 have hco:=BP (fun x=> !az (x.told k)) w.heap.size v l _ (h.kept0 k0) hl.1 (fun W q i hi kv hx=>L8 k w _ kv W ((q.cell (by exact o0.lt) _b).trans c0) hx (hl.2 _ (MJ hi)) YK)
 have hri:=fun W (q:NP [] w W)=>Kn v l W (h.kept0 q) hl.1
 unfold bG at hco
 unfold oa at hri
 obtain⟨pa,ca,rfl⟩:=h.shape
 have j1:(l.length:Int)<=1000000:=by have:=hl.1;omega
 have⟨HC,HR,K0⟩:=gg! hco hri k0
 simp only[List.getElem_toArray,List.getElem_cons_zero]at c0
 clear hco hri k0 o0 h hl
 by_cases hlen:l.length<=most
 .have i1:(l.length:Int)<=most:=_a
  go_enter func167,ntmps167
  go_wp2_with fail
  refine HC.out.mono ?_;rintro e w2 ⟨b,rfl,hb,k2⟩
  have K2:=tK (K0.out.trans k2)
  have HB:=tK hb
  clear hb
  cases b with
  |true=>
   go_wp2_with fail
   go_ret
   exact aX (fun Xd=>by
    have⟨a,ha,hna⟩:=HB.out.1 _b
    rw[Xd.2.1 a ha]at hna;cases hna) K2.out
  |false=>
   go_wp2_with fail
   refine(HR.out _ K2.out).mono ?_;rintro e w3 ⟨q,rfl,hq,k3⟩
   have K3:=tK (K2.out.trans k3)
   have HQ:=tK hq
   clear hq
   go_wp2_with fail
   go_ret
   refine⟨q,rfl,⟨fun hq1=>⟨hlen,fun a ha=>?_,HQ.out.1 hq1⟩,fun Xd=>HQ.out.2 Xd.2.2⟩,K3.out⟩
   cases g:az (a.told k)
   .have:=HB.out.2 ⟨a,ha,by simp[g]⟩
    cases this
   .rfl
 .have i1:¬(l.length:Int)<=most:=_a
  go_enter func167,ntmps167
  go_wp2_with fail
  go_ret
  exact aX (fun Xd=>hlen Xd.1) K0.out
theorem BR (next:Int) (v:Value) (l:List NS) (w:World) (h:aU w v l) (hr:cG l) (hl:l.length<=1000000):
  am! 168 #[(next,()),v] w (bG (cZ next l) w):=by
 obtain⟨p,c,rfl⟩:=h.shape
 have hq:= @BI next _ 0 hr
 have HQ:=tK hq
 have j1:(l.length:Int)<=1000000:=_a
 clear hq hr
 by_cases h1:1<=next
 .by_cases h0:l.length=0
  .have i0:(l.length:Int)=0:=_a
   have hy:cZ next l:=HQ.out.2 ⟨h1,Or.inl h0⟩
   have HY:=tK hy
   rw[h0]
   clear hy h h0 i0 j1 hl
   go_enter func168,ntmps168
   go_wp2_with fail
   go_ret
   exact gu HY.out (NP.refl _ _)
  .have i0:¬(l.length:Int)=0:=_a
   have Pb:¬l=[]:=fun e=>h0 (by rw[e];rfl)
   have hb0:((l.length:Int)==0)=false:=by simpa using Pb
   obtain⟨m,hm⟩:∃m,l.length-1=m:=⟨_,rfl⟩
   have TF:m<l.length:=_a
   have e1:(l.length:Int)-1=(m:Int):=_a
   have w1:IntKind.i64.wrap (m:Int)=(m:Int):=_M
   have i1:(m:Int)<l.length:=_a
   have i2:(0:Int)<=m:=_a
   obtain⟨b,off,kv,rfl,_,hb,RU,hc2,HA⟩:=h.ja m TF
   have⟨x0,x1,x2,x3⟩:=HA w (NP.refl _ _)
   have Wu:cZ next l↔(l[m]'TF).id<next:=by
    rw[HQ.out]
    subst hm
    constructor
    .rintro⟨_,h|⟨_,h⟩⟩
     .exact absurd h h0
     .exact h
    .intro h;exact⟨h1,Or.inr ⟨TF,h⟩⟩
   have HQ2:=tK Wu
   clear Wu HQ hm h0 HA h
   generalize l[m]'TF=A at*
   by_cases NV:A.id<next
   .go_enter func168,ntmps168
    go_wp2_with fail
    go_ret
    exact gu (HQ2.out.2 NV) (NP.refl _ _)
   .have Of:=tK NV
    go_enter func168,ntmps168
    go_wp2_with fail
    go_ret
    exact aX (fun q=>absurd (HQ2.out.1 q) Y!) (NP.refl _ _)
 .have H1:=tK h1
  go_enter func168,ntmps168
  go_wp2_with fail
  go_ret
  exact aX (fun q=>absurd q.1 (by have:=H1.out;omega)) (NP.refl _ _)
open Classical in
noncomputable def lK (c:au):Int:=if OL c then 0 else 110
def iC (c:au) (w:World) (e:Ending) (w':World):Prop:=e=(lK c:Int)/\NP [] w w'
theorem jj (h:¬OL c) {w w':World} (k:NP [] w w'):iC c w (.returned (110:Int)) w':=by
 unfold iC lK;rw[if_neg h];exact⟨rfl,k⟩
theorem yU (h:OL c) {w w':World} (k:NP [] w w'):iC c w (.returned (0:Int)) w':=by
 unfold iC lK;rw[if_pos h];exact⟨rfl,k⟩
theorem BQ (v:Value) (c:au) (w:World) (h:dJ w v c) (hl:ie c):
  am! 97 #[v] w (iC c w):=by
 obtain⟨vb,vm,vn,rfl,hb,hm,hn,_⟩:=h
 have HB:Hid (∀W,NP [] w W->am! 167 #[(1:Int),vb,(2048:Int)] W (bG (cE 1 c.boxes 2048) W)):=tK (fun W q=>tE 1 vb _ 2048 W (hb.kept0 q) hl.1 _d _d)
 have HM:Hid (∀W,NP [] w W->am! 167 #[(2:Int),vm,(2048:Int)] W (bG (cE 2 c.mans 2048) W)):=tK (fun W q=>tE 2 vm _ 2048 W (hm.kept0 q) hl.2.1 _d _d)
 have HN:Hid (∀W,NP [] w W->am! 167 #[(3:Int),vn,(256:Int)] W (bG (cE 3 c.names 256) W)):=tK (fun W q=>tE 3 vn _ 256 W (hn.kept0 q) hl.2.2 _d _d)
 have Xv:Hid (∀W,NP [] w W->cE 1 c.boxes 2048->am! 168 #[(c.nextBox,()),vb] W (bG (cZ c.nextBox c.boxes) W)):=tK (fun W q hr=>BR _ vb _ W (hb.kept0 q) hr.2.2 hl.1.1)
 have HAM:Hid (∀W,NP [] w W->cE 2 c.mans 2048->am! 168 #[(c.nextMan,()),vm] W (bG (cZ c.nextMan c.mans) W)):=tK (fun W q hr=>BR _ vm _ W (hm.kept0 q) hr.2.2 hl.2.1.1)
 obtain⟨p1,c1,rfl⟩:=hb.shape
 obtain⟨p2,c2,rfl⟩:=hm.shape
 obtain⟨p3,c3,rfl⟩:=hn.shape
 unfold bG at HB HM HN Xv HAM
 clear hb hm hn hl
 generalize c.boxes.length=l1 at*
 generalize c.mans.length=l2 at*
 generalize c.names.length=l3 at*
 generalize RG:c.nextBox=nb at*
 generalize Rb:c.nextMan=nm at*
 have⟨S6,S3⟩:=_f RG Rb
 have oA:=ae.new w #[(nb,()),(nm,()),(p1,l1,c1),(p2,l2,c2),(p3,l3,c3)] 52
 have k0:NP [] w (w.alloc (.cells #[(nb,()),(nm,()),(p1,l1,c1),(p2,l2,c2),(p3,l3,c3)] 52)):=(NP.refl [] w).alloc _
 have K0:=tK k0
 have⟨x0,x1,x2,x3,x4⟩:=oA.k5
 have OA:=tK oA
 clear k0 oA RG Rb
 go_enter func97,ntmps97
 go_wp2_with fail
 refine(HB.out _ K0.out).mono ?_;rintro e w2 ⟨r1,rfl,e1,k2⟩
 have K2:=tK (K0.out.trans k2)
 have E1:=tK e1
 have oA2:=k2.own OA.out _b
 have⟨x0,x1,x2,x3,x4⟩:=oA2.k5
 have UW:=tK oA2
 clear e1 oA2
 cases r1 with
 |false=>
  go_wp2_with fail
  go_ret
  exact jj (fun q=>by have:=E1.out.2 q.boxes;cases this) K2.out
 |true=>
  have G1:=tK (E1.out.1 rfl)
  go_wp2_with fail
  refine(Xv.out _ K2.out G1.out).mono ?_;rintro e w3 ⟨r2,rfl,e2,k3⟩
  have K3:=tK (K2.out.trans k3)
  have E2:=tK e2
  have oA3:=k3.own UW.out _b
  have⟨x0,x1,x2,x3,x4⟩:=oA3.k5
  have Uh:=tK oA3
  clear e2 oA3
  cases r2 with
  |false=>
   go_wp2_with fail
   go_ret
   exact jj (fun q=>by have:=E2.out.2 (by rw[<-S6.out];exact q.nb);cases this) K3.out
  |true=>
   have G2:=tK (E2.out.1 rfl)
   go_wp2_with fail
   refine(HM.out _ K3.out).mono ?_;rintro e w4 ⟨r3,rfl,e3,k4⟩
   have K4:=tK (K3.out.trans k4)
   have E3:=tK e3
   have SY:=k4.own Uh.out _b
   have⟨x0,x1,x2,x3,x4⟩:=SY.k5
   have Sh:=tK SY
   clear e3 SY
   cases r3 with
   |false=>
    go_wp2_with fail
    go_ret
    exact jj (fun q=>by have:=E3.out.2 q.mans;cases this) K4.out
   |true=>
    have G3:=tK (E3.out.1 rfl)
    go_wp2_with fail
    refine(HAM.out _ K4.out G3.out).mono ?_;rintro e w5 ⟨r4,rfl,e4,k5⟩
    have K5:=tK (K4.out.trans k5)
    have E4:=tK e4
    have oA5:=k5.own Sh.out _b
    have⟨x0,x1,x2,x3,x4⟩:=oA5.k5
    clear e4 oA5
    cases r4 with
    |false=>
     go_wp2_with fail
     go_ret
     exact jj (fun q=>by have:=E4.out.2 (by rw[<-S3.out];exact q.nm);cases this) K5.out
    |true=>
     have G4:=tK (E4.out.1 rfl)
     go_wp2_with fail
     refine(HN.out _ K5.out).mono ?_;rintro e w6 ⟨r5,rfl,e5,k6⟩
     have K6:=tK (K5.out.trans k6)
     have E5:=tK e5
     clear e5
     cases r5 with
     |false=>
      go_wp2_with fail
      go_ret
      exact jj (fun q=>by have:=E5.out.2 q.names;cases this) K6.out
     |true=>
      have G5:=tK (E5.out.1 rfl)
      go_wp2_with fail
      go_ret
      exact yU ⟨G1.out,by rw[S6.out];exact G2.out,G3.out,by rw[S3.out];exact G4.out,G5.out⟩ K6.out
theorem ae.jV (h:ae w b cs t) (hb:b≠g) (x y z u:Value):ae ((((w.setCell g x).setCell (aa g 1) y).setCell (aa g 2) z).setCell (aa g 3) u) b cs t:=
 (((h.other (p:=g) hb x).other (p:=(aa g 1)) hb y).other (p:=(aa g 2)) hb z).other (p:=(aa g 3)) hb u
theorem NP.fU {S:List Nat} {w0:World} (h:NP S w0 w) (hg:g∈S\/w0.heap.size<=g) (x y z u:Value):NP S w0 ((((w.setCell g x).setCell (aa g 1) y).setCell (aa g 2) z).setCell (aa g 3) u):=
 (((h.setCell (p:=g) hg x).setCell (p:=(aa g 1)) hg y).setCell (p:=(aa g 2)) hg z).setCell (p:=(aa g 3)) hg u
def cP (S:Nat->Prop) (L:List NS×Int) (w:World) (e:Ending) (w':World):Prop:=∃v,e=.returned (.tuple #[v,L.2])/\aq S w' v L.1/\NP [] w w'
theorem fj {L:List NS×Int} {C:Int} (h:L=(l,C)) (h1:aq S w' v l) (k:NP [] w w'):cP S L w (.returned (.tuple #[v,C])) w':=by
 subst h;exact⟨v,rfl,h1,k⟩
theorem aU.JL {x:NS} {xv:Value} {i:Nat} (hi:i<vs.length) (h:w'.ownsRow base 113 4 v vs.length ((NX vs).take (i*4)++Pt x xv++(NX vs).drop ((i+1)*4))) (hS:∀x,S x->x<base) (h3:∀y∈vs,bd w y/\bD S y.2 y.1.runs.length) (hx:bd w' (x,xv)/\bD S xv x.runs.length) (k:NP [] w w'):aq S w' v (gL (vs.map (·.1)) i x):=by
 have em:(vs.take i++[(x,xv)]++vs.drop (i+1)).map (·.1)=gL (vs.map (·.1)) i x:=by
  unfold gL
  rw[M0,M0,List.map_take,List.map_drop]
  simp
 rw[<-em]
 refine aq.bB (base:=base) ?_ hS (fun y hy=>?_)
 .have e1:(vs.take i++[(x,xv)]++vs.drop (i+1)).length=vs.length:=by
   rw[tN,tN,MO,MQ,Nq];omega
  rw[e1,fx,fx,<-gJ,<-fL]
  exact h
 .rcases Na.1 hy with hy|hy
  .rcases Na.1 hy with hy|hy
   .have:=h3 y (NJ hy);exact⟨this.1.kept0 k,this.2⟩
   .have:y=(x,xv):=N!
    subst this;exact hx
  .have:=h3 y (NF hy);exact⟨this.1.kept0 k,this.2⟩
theorem Hi {cap i:Nat} {cur:List Value} (o:ae w g cur.toArray 113) (hb:base<=g) (hn:n<=cap) (hc:cap<=maxLen) (hl:cur.length=cap*4) (hi:i<n) (a b c d:Value):
  (w.setCells g (i*4) [a,b,c,d]).ownsRow base 113 4 (g,n,cap) n ((cur.take (n*4)).take (i*4)++[a,b,c,d]++(cur.take (n*4)).drop ((i+1)*4)):=by
 have Oq:i*4+[a,b,c,d].length<=cur.length:=by rw[hl];show _+4<=_;omega
 have h1:=kK (base:=base) (n:=n) (cap:=cap) (o.oV [a,b,c,d] (i*4) Oq) hb hn hc (by rw[gV Oq,hl])
 have e:(cJ cur (i*4) [a,b,c,d]).take (n*4)=(cur.take (n*4)).take (i*4)++[a,b,c,d]++(cur.take (n*4)).drop ((i+1)*4):=by
  have WU:(cur.take (i*4)).length=i*4:=_w
  have hn4:n*4=i*4+4+(n*4-(i*4+4)):=_a
  unfold cJ
  rw[List.take_take,Nat.min_eq_left _a,<-MW,List.take_append,Nh (by rw[tN,WU];show _+4<=_;omega),List.drop_take]
  congr 1
  rw[tN,WU,show(i+1)*4=i*4+[a,b,c,d].length from by show _=_+4;omega]
 rw[e]at h1
 exact h1
def mR (q turns:Bool) (l:List NS) (x:NS) (next:Int) (most:Nat):List NS×Int:=if q&&turns then(gL l (Og l x) x,0)else if q||decide (x.id<next)then([],252)else if decide (most<=l.length)then([],240)else(Qm l x,0)
theorem DO {x:NS} {next:Int} {most:Nat} {turns q:Bool} (hr:cG l) (hq:q=true↔di l x):Oc l x next most turns=mR q turns l x next most:=by
 unfold Oc mR
 cases q with
 |true=>
  have hh:=hq.1 rfl
  cases turns with
  |true=>rw[if_pos ⟨hh,rfl⟩,ly hr hh];rfl
  |false=>rw[if_neg _b,if_pos (Or.inl hh)];rfl
 |false=>
  have hh:¬di l x:=fun h=>by have:=hq.2 h;cases this
  rw[if_neg (by simp[hh])]
  by_cases h1:x.id<next
  .rw[if_pos (Or.inr h1)];simp[h1]
  .rw[if_neg (by simp[hh,h1])]
   simp[h1]
theorem M84 (h:A:=by
 go_wp2_with fail
 go_ret2
 exact fj HE.out (aq.nil _ _) K3.out):A:=h
theorem vU (v:Value) (l:List NS) (r:ag) (rv:Value) (next:Int) (most:Nat) (turns:Bool) (w:World) (h:aq S w v l) (hS:∀x,S x->x<w.heap.size) (hl:l.length<=100000) (hr:cG l) (Qh:af w rv r.runs 0 w) (hf:r.fits) (Pj:∀a∈r.runs,aQ a) (P3:r.runs.length<=1000000) (hmo:most<=1000000):
  am! 171 #[v,.agg (r.cells rv),(next,()),(most:Int),.bool turns] w (cP S (Oc l r.item next most turns) w):=by
 have HC:Hid (∀W,NP [] w W->am! 69 #[rv] W (bh r.runs W)):=tK (fun W q=>tX rv r.runs _ _ W (Qh.kept0 q) P3)
 have Vi:Hid (∀W u,W.ownsRow w 128 2 u r.runs.length (NW r.runs)->bd W (r.item,u)/\bD S u r.runs.length):=tK (fun W u ho=>⟨⟨(af.bB ho).upto,ag.jW hf,Pj⟩,bD.row ho hS _⟩)
 have HS:Hid (∀W u,NP [] w W->am! 234 #[v,.agg (r.item.cells u),.func (.func 233) #[] #[]] W (gA l r.item W)):=tK (fun W u q=>Ab v l r.item u W (h.plain.kept0 q) _a hr)
 have HI:Hid (∀W u,NP [] w W->bd W (r.item,u)/\bD S u r.runs.length->am! 235 #[v,.agg (r.item.cells u),.func (.func 233) #[] #[]] W (fp S (Qm l r.item) W)):=tK (fun W u q hx=>L5 v l r.item u W (h.kept0 q) (fun x hx=>MR (hS x hx) q.size) hl hr hx)
 have HT:Hid (∀q:Bool,(q=true↔di l r.item)->Oc l r.item next most turns=mR q turns l r.item next most):=tK (fun q hq=>DO hr hq)
 have HSX:=tK hS
 have Rf:Hid (di l r.item->Og l r.item<l.length):=tK (fun hh=>by rw[ly hr hh];exact hh)
 have⟨vs,hvs,hraw,Pf,_⟩:=h
 have U3:vs.length=l.length:=by rw[<-hvs,MP]
 have Td:∀y∈vs,fP y.2:=fun y hy=>(Pf y hy).1.fz
 have S9:Hid (∀W,NP [] w W->am! 127 #[v] W fun e w'=>∃v',e=.returned v'/\w'.ownsRow W.heap.size 113 4 v' l.length (NX vs)/\NP [] W w'):=tK (fun W q=>by rw[<-U3];exact sd v vs.length (NX vs) W (hraw.kept0 q) (fB Td) _a)
 obtain⟨pv,cv,rfl⟩:=hraw.shape
 rw[U3]at HS HI S9 ⊢
 obtain⟨TQ,crr,rfl⟩:=Qh.shape
 have aet:Hid (∀w' base v' u,(∀x,S x->x<base)->Og l r.item<l.length->w'.ownsRow base 113 4 v' l.length ((NX vs).take (Og l r.item*4)++Pt r.item u++(NX vs).drop ((Og l r.item+1)*4))->bd w' (r.item,u)/\bD S u r.runs.length->NP [] w w'->aq S w' v' (gL l (Og l r.item) r.item)):=tK (fun w' base v' u hSb hp ho hx k=>by
  rw[<-hvs]at hp ho ⊢
  rw[MP]at hp ho
  exact aU.JL hp ho hSb Pf hx k)
 have oR:=ae.new w (r.cells (TQ,r.runs.length,crr)) 102
 have k0:NP [] w (w.alloc (.cells (r.cells (TQ,r.runs.length,crr)) 102)):=(NP.refl _ _).alloc _
 unfold ag.cells at oR k0 ⊢
 unfold NS.cells at HS HI
 have er1:r.item.id=r.id:=rfl
 have er2:r.item.name=r.name:=rfl
 have er3:r.item.size=r.size:=rfl
 rw[er1,er2,er3]at HS HI
 have⟨x0,x1,x2,x3,x4⟩:=oR.k5
 have⟨OR,K0⟩:=_f oR k0
 have j1:(l.length:Int)<=1000000:=_a
 have j2:(most:Int)<=1000000:=_a
 clear oR k0 hraw Pf Td U3 hvs Qh hf Pj hr er1 er2 er3 hS
 unfold bh at HC
 unfold gA at HS
 unfold fp at HI
 go_enter func171,ntmps171
 go_upto_region 1 with fail
 go_cut [12]from 16 to 25 (fun v12 wx=>∃xb u,v12=.pointer (some ⟨xb,0,none⟩)/\ae wx xb #[(r.id,()),r.name,r.size,u] 113/\(bd wx (r.item,u)/\bD S u r.runs.length)/\ae wx w #[r.kind,(r.id,()),r.name,r.size,(TQ,r.runs.length,crr)] 102/\NP [] w wx/\w.heap.size<=xb)
 case first=>
  refine MK (S:=(fun W=>W.cell? w=r.kind/\W.cell? (aa w 1)=(r.id,())/\W.cell? (aa w 2)=r.name/\W.cell? (aa w 3)=r.size/\W.cell? (aa w 4)=(TQ,r.runs.length,crr))) _c ac! (fun hHeld=>?_)
  refine tS ?_
  refine wpAnyH_ready (rs:=[8,10]) _c _b ?_
  refine(AllReadyH.cons rfl (fun K hK=>?_) (AllReadyH.cons rfl (fun K hK=>?_) AllReadyH.nil))
  .go_simp
   ((with_reducible refine(HC.out _ K0.out.drew).mono ?_));rintro e w5 ⟨u5,rfl,r5,k5⟩
   have K5:=tK ((K0.out.drew).trans k5)
   have o5:=k5.own OR.out.drew _b
   have⟨O5,R5⟩:=_f o5 r5
   clear r5 o5
   obtain⟨pu,cu,rfl⟩:=ah R5.out
   go_wp2_with fail
   refine hK.out _ _ ?_ (fun hHeld=>nM ?_)
   .exact O5.out.k5
   clear hK K
   refine tS ?_
   refine rD 10 (fun K hK=>?_)
   go_simp
   refine hK.out _ _ ?_ (fun hHeld=>nM ?_)
   .go_keep
   clear hK K
   refine rD 11 (fun K hK=>?_)
   go_simp
   refine hK.out _ _ ?_ (fun hHeld=>nM ?_)
   .go_keep
   clear hK K
   refine Ng _c ?_ _
   go_wp2_with fail
   go_meet
   exact⟨_,_,rfl,ae.new _ _ _,⟨(Vi.out _ _ (aF R5.out K0.out.size)).1.kept0 ((NP.refl _ _).alloc _),(Vi.out _ _ (aF R5.out K0.out.size)).2⟩,O5.out.alloc _,K5.out.alloc _,K5.out.size⟩
  .go_simp
   refine hK.out _ _ ?_ (fun hHeld=>nM ?_)
   .go_keep
   clear hK K
   have KB:=tK ((K0.out.alloc (.cells #[.int .u32 0,.string {data:=#[]},(0:Int),()] 113)).drew)
   have OXB:=tK ((ae.new (w.alloc (.cells #[r.kind,(r.id,()),r.name,r.size,(TQ,r.runs.length,crr)] 102)).drew #[.int .u32 0,.string {data:=#[]},(0:Int),()] 113))
   have OB:=tK ((OR.out.alloc (.cells #[.int .u32 0,.string {data:=#[]},(0:Int),()] 113)).drew)
   refine rD 8 (fun K hK=>?_)
   go_simp
   ((with_reducible refine(HC.out _ KB.out).mono ?_));rintro e w5 ⟨u5,rfl,r5,k5⟩
   have K5:=tK ((KB.out).trans k5)
   have o5:=k5.own OB.out _b
   have⟨O5,R5⟩:=_f o5 r5
   clear r5 o5
   obtain⟨pu,cu,rfl⟩:=ah R5.out
   go_wp2_with fail
   refine hK.out _ _ ?_ (fun hHeld=>nM ?_)
   .exact O5.out.k5
   clear hK K
   have UP:=k5.own OXB.out _b
   simp only[Nd,World.size_drew]at UP
   have Zc:=tK UP
   have⟨z0,z1,z2,z3⟩:=UP.c4
   have⟨y0,y1,y2,y3⟩:=UP.z4
   refine tS ?_
   refine rD 11 (fun K hK=>?_)
   go_simp
   refine hK.out _ _ ?_ (fun hHeld=>nM ?_)
   .exact(O5.out.jV (Nat.ne_of_lt (Nat.lt_succ_self _)) _ _ _ _).k5
   clear hK K
   refine Ng _c ?_ _
   go_wp2_with fail
   go_meet
   exact⟨_,_,rfl,Zc.out.fU _ _ _ _,Vi.out _ _ (bI (aF R5.out KB.out.size) ((NP.refl [w.heap.size+1] w5).fU (Or.inl _b) _ _ _ _) Zc.out _d),O5.out.jV (Nat.ne_of_lt (Nat.lt_succ_self _)) _ _ _ _,K5.out.fU (Or.inr (Nat.le_succ _)) _ _ _ _,Nat.le_succ _⟩
 case rest=>
  obtain⟨xb,u,rfl,hX,hIO,hR,hK,hxb⟩:=hcut
  have⟨HX,ZW,HR,HK⟩:=gh! hX hIO hR hK
  obtain⟨pu,nu,cu,rfl⟩:fP u:=hIO.1.fz
  have⟨x0,x1,x2,x3⟩:=hX.c4
  clear hX hIO hR hK
  go_wp2_with fail
  refine(HS.out _ _ HK.out).mono ?_;rintro e w3 ⟨q,rfl,hq,k3⟩
  have YW:=tK (HT.out q hq)
  have HP2:Hid (q=true->Og l r.item<l.length):=tK (fun hh=>Rf.out (hq.1 hh))
  have K3:=tK (HK.out.trans k3)
  have X3:=tK (k3.own HX.out _b)
  have R3:=tK (k3.own HR.out _b)
  have I3:=tK (And.intro (ZW.out.1.kept0 k3) ZW.out.2)
  have⟨x0,x1,x2,x3⟩:=X3.out.c4
  have⟨y0,y1,y2,y3,y4⟩:=R3.out.k5
  clear hq HT Rf
  cases q with
  |true=>
   have hp:=HP2.out rfl
   cases turns with
   |true=>
    have HE:Hid (Oc l r.item next most true=(gL l (Og l r.item) r.item,0)):=tK (by rw[YW.out];rfl)
    go_wp2_with fail
    refine(S9.out _ K3.out).mono ?_;rintro e w4 ⟨v4,rfl,r4,k4⟩
    have K4:=tK (K3.out.trans k4)
    have X4:=tK (k4.own X3.out _b)
    have I4:=tK (I3.out.1.kept0 k4)
    have⟨x0,x1,x2,x3⟩:=X4.out.c4
    rcases r4.2 with⟨_,h0⟩|⟨g,cap,cur0,rfl,hb,hg,SR,PT,Sk,htake⟩
    .omega
    .obtain⟨cur,rfl⟩:∃cur:List Value,cur0=cur.toArray:=⟨cur0.toList,_b⟩
     have o4:ae w4 g cur.toArray 113:=hg
     have Qg:cur.length=cap*4:=by simpa using Sk
     have PF:cur.take (l.length*4)=NX vs:=af!
     have Q0:=Hi o4 hb SR PT Qg hp (r.id,()) r.name r.size (pu,nu,cu)
     rw[PF]at Q0
     have hgx:xb≠g:=fun e=>by
      have h1:=X3.out.lt
      omega
     have QY:NP [] w (w4.setCells g (Og l r.item*4) [.int .u32 r.id,.string (bs r.name),.int .i64 r.size,.slice pu nu cu]):=fA (Or.inr (by have:=K3.out.size;omega)) _ _ K4.out
     have hio:bd (w4.setCells g (Og l r.item*4) [.int .u32 r.id,.string (bs r.name),.int .i64 r.size,.slice pu nu cu]) (r.item,(pu,nu,cu)):=by
      have Qo:NP [g] w4 (w4.setCells g (Og l r.item*4) [.int .u32 r.id,.string (bs r.name),.int .i64 r.size,.slice pu nu cu]):=fA (Or.inl _b) _ _ (NP.refl _ _)
      have h1:af w4 (pu,nu,cu) r.item.runs 0 w3:=af.kept0 I3.out.1.1 k4
      exact⟨(h1.kept Qo (fun x hx=>by
        have:x=g:=_h
        subst this;exact Or.inr hb)).upto,I3.out.1.2⟩
     have Rz:=aet.out _ w3 _ (pu,nu,cu) (fun x hx=>MR (HSX.out x hx) K3.out.size) hp Q0 ⟨hio,I3.out.2⟩ QY
     have⟨ad8,SI⟩:=_f Rz QY
     have UL:∀j,j<4->Og l r.item*4+j<cur.length:=fun j hj=>by omega
     obtain⟨q0,z0⟩:∃q,w4.cell? (aa g (Og l r.item*4))=some q:=⟨_,o4.fQ (Og l r.item*4) (by have:=UL 0 _a;omega)⟩
     obtain⟨q1,z1⟩:∃q,w4.cell? (aa g (Og l r.item*4+1))=some q:=⟨_,o4.fQ (Og l r.item*4+1) (UL 1 _a)⟩
     obtain⟨q2,z2⟩:∃q,w4.cell? (aa g (Og l r.item*4+2))=some q:=⟨_,o4.fQ (Og l r.item*4+2) (UL 2 _a)⟩
     obtain⟨q3,z3⟩:∃q,w4.cell? (aa g (Og l r.item*4+3))=some q:=⟨_,o4.fQ (Og l r.item*4+3) (UL 3 _a)⟩
     have f0:=o4.free (Og l r.item*4)
     have f1:=o4.free (Og l r.item*4+1)
     have f2:=o4.free (Og l r.item*4+2)
     have f3:=o4.free (Og l r.item*4+3)
     have i1:(Og l r.item:Int)<l.length:=_a
     have i2:(l.length:Int)<=cap:=_a
     clear Rz QY hio Q0 UL o4 hg r4 PF htake Sk Qg
     go_wp2_with fail
     go_ret2
     exact fj HE.out ad8.out SI.out
   |false=>
    have HE:Hid (Oc l r.item next most false=([],252)):=tK (by rw[YW.out];rfl)
    exact M84
  |false=>
   by_cases g1:r.id<next
   .have HE:Hid (Oc l r.item next most turns=([],252)):=tK (by rw[YW.out];unfold mR;rw[show(decide (r.item.id<next))=true from MV g1];rfl)
    exact M84
   .by_cases g2:most<=l.length
    .have HE:Hid (Oc l r.item next most turns=([],240)):=tK (by rw[YW.out];unfold mR;rw[show(decide (r.item.id<next))=false from MS g1,MV g2];rfl)
     have i1:(most:Int)<=l.length:=_a
     exact M84
    .have HE:Hid (Oc l r.item next most turns=(Qm l r.item,0)):=tK (by rw[YW.out];unfold mR;rw[show(decide (r.item.id<next))=false from MS g1,MS g2];rfl)
     have i1:¬(most:Int)<=l.length:=_a
     go_wp2_with fail
     refine(HI.out _ _ K3.out I3.out).mono ?_;rintro e w4 ⟨v4,rfl,h4,k4⟩
     have H4:=tK h4
     have K4:=tK (K3.out.trans k4)
     clear h4
     go_wp2_with fail
     go_ret2
     exact fj HE.out H4.out K4.out

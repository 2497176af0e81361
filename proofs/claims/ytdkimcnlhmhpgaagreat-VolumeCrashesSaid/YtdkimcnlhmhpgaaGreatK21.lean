/- -/
import Derived.Test.YtdkimcnlhmhpgaaGreatK19
set_option maxHeartbeats 16000000
set_option maxRecDepth 100000
set_option linter.unusedVariables false
namespace Go.Proofs.YtdkimcnlhmhpgaaGreat
open Go.RowKit
variable {S T S0:Nat->Prop} {w w':World} {v x0 x1 x2 x3 x4:Value} {c:aj} {n b:Nat} {l:List Nf} {t:TypeId}
def aw (S:Nat->Prop) (w:World) (v:Value) (c:aj):Prop:=∃vb vm vn,v=.agg #[.int .u32 c.nextBox,.int .u32 c.nextMan,vb,vm,vn]/\ax S w vb c.boxes/\ax S w vm c.mans/\ax S w vn c.names/\(Lit.int .u32 c.nextBox).wf=true/\(Lit.int .u32 c.nextMan).wf=true
theorem aw.plain (h:aw S w v c):cC w v c:=by
 obtain⟨a,b,d,e,h1,h2,h3,h4⟩:=h
 exact⟨a,b,d,e,h1.plain,h2.plain,h3.plain,h4⟩
theorem aw.kept0 (h:aw S w v c) (k:aa [] w w'):aw S w' v c:=by
 obtain⟨a,b,d,e,h1,h2,h3,h4⟩:=h
 exact⟨a,b,d,e,h1.kept0 k,h2.kept0 k,h3.kept0 k,h4⟩
theorem aw.cf {T:List Nat} (h:aw S w v c) (k:aa T w w') (hT:∀x∈T,S x):aw S w' v c:=by
 obtain⟨a,b,d,e,h1,h2,h3,h4⟩:=h
 exact⟨a,b,d,e,h1.cf k hT,h2.cf k hT,h3.cf k hT,h4⟩
theorem bJ.weaken (h:bJ S v n) (hST:∀x,T x->S x):bJ T v n:=fun g off sp n' c e hn hg=>h g off sp n' c e hn (hST _ hg)
theorem ax.weaken (h:ax S w v l) (hST:∀x,T x->S x):ax T w v l:=by
 obtain⟨vs,h1,h2,h3,h4⟩:=h
 exact⟨vs,h1,h2,fun x hx=>⟨(h3 x hx).1,(h3 x hx).2.weaken hST⟩,h4.weaken hST⟩
theorem bJ.or (h:bJ S v n) (h2:bJ T v n):bJ (fun x=>S x\/T x) v n:=fun g off sp n' c e hn hg=>hg.elim (h g off sp n' c e hn) (h2 g off sp n' c e hn)
theorem ax.more (h:ax S w v l) (hT:∀x,T x->w.heap.size<=x):ax (fun x=>S x\/T x) w v l:=by
 obtain⟨vs,h1,h2,h3,h4⟩:=h
 refine⟨vs,h1,h2,fun x hx=>⟨(h3 x hx).1,(h3 x hx).2.or ((h3 x hx).1.1.off hT)⟩,h4.or (fun g off sp n c e hn hg=>?_)⟩
 obtain⟨p,c',e'⟩:=h2.shape
 rw[e']at h2
 obtain⟨b,off',e2,_,hb,_⟩:=h2.at_ hn
 rw[e']at e
 injection e with e
 rw[e2]at e
 injection e with e
 injection e with e
 subst e
 have:=hT _ hg
 omega
def cE (S:Nat->Prop) (L:aj×Int) (w:World) (e:Ending) (w':World):Prop:=∃v,e=.returned (.tuple #[v,.int .i64 L.2])/\aw S w' v L.1/\aa [] w w'
theorem aa.bj {S:List Nat} {w0:World} {g:Nat} (h:aa S w0 w) (hg:g∈S\/w0.heap.size<=g) (a b c d e:Value):aa S w0 (((((w.setCell ⟨g,0,none⟩ a).setCell ⟨g,1,none⟩ b).setCell ⟨g,2,none⟩ c).setCell ⟨g,3,none⟩ d).setCell ⟨g,4,none⟩ e):=
 ((((h.setCell (p:=⟨g,0,none⟩) hg a).setCell (p:=⟨g,1,none⟩) hg b).setCell (p:=⟨g,2,none⟩) hg c).setCell (p:=⟨g,3,none⟩) hg d).setCell (p:=⟨g,4,none⟩) hg e
theorem ae.y5 (h:ae w b #[x0,x1,x2,x3,x4] t):w.frozen? ⟨b,0,none⟩=false/\w.frozen? ⟨b,1,none⟩=false/\w.frozen? ⟨b,2,none⟩=false/\w.frozen? ⟨b,3,none⟩=false/\w.frozen? ⟨b,4,none⟩=false:=⟨h.free 0,h.free 1,h.free 2,h.free 3,h.free 4⟩
theorem ae.de (h:ae w b #[x0,x1,x2,x3,x4] t) (y0 y1 y2 y3 y4:Value):
  ae (((((w.setCell ⟨b,0,none⟩ y0).setCell ⟨b,1,none⟩ y1).setCell ⟨b,2,none⟩ y2).setCell ⟨b,3,none⟩ y3).setCell ⟨b,4,none⟩ y4) b #[y0,y1,y2,y3,y4] t:=by
 have:=((((h.set 0 y0).set 1 y1).set 2 y2).set 3 y3).set 4 y4
 simpa using this
theorem fg (w:World) (A B C:Array Value) (s t u:TypeId):ae (((w.alloc (.cells A s)).alloc (.cells B t)).alloc (.cells C u)) w.heap.size A s/\ae (((w.alloc (.cells A s)).alloc (.cells B t)).alloc (.cells C u)) (w.heap.size+1) B t/\ae (((w.alloc (.cells A s)).alloc (.cells B t)).alloc (.cells C u)) (w.heap.size+2) C u:=j9 w A B C s t u
theorem jc {n:Int} (h0:0<=n) (h1:n<=4294967295):(Lit.int .u32 n).wf=true:=by
 simp only[Lit.wf,MJ,decide_eq_true_eq]
 exact⟨h0,h1⟩
theorem jg {n:Int} (h0:0<=n) (h1:n<=4294967295):IntKind.u32.wrap n=n:=by rw[IntKind.wrap_u32];omega
theorem Hp (v:Value) (c:aj) (r:ag) (rv:Value) (w:World) (h:aw S0 w v c) (RF:∀x,S0 x->x<w.heap.size) (Pa:aM c) (OQ:af w rv r.runs 0 w.heap.size) (hf:r.fits) (Ox:∀a∈r.runs,aU a) (Qf:az r=true) (hk:r.kind=1):
  Calls Tryz.prog 99 #[v,.agg (r.cells rv)] w (cE S0 (bE c r) w):=by
 have Pn:bE c r=({c with boxes:=(NL c.boxes r.item c.nextBox 2048 false).1,nextBox:=r.id+1},(NL c.boxes r.item c.nextBox 2048 false).2):=by
  unfold bE
  rw[if_pos hk]
 rw[Pn]
 have Po:r.runs.length<=1000000:=by have:=eV Qf;omega
 have hid:=lM Qf
 have V7:0<=r.id:=(bP hf.2.1).1
 obtain⟨vb,vm,vn,rfl,hb,hm,hn,Pr,hwm⟩:=h
 have HB:=Mb (fun W (q:aa [] w W)=>hb.kept0 q)
 have HM:=Mb (fun W (q:aa [] w W)=>hm.kept0 q)
 have HN:=Mb (fun W (q:aa [] w W)=>hn.kept0 q)
 obtain⟨p1,c1,rfl⟩:=hb.plain.shape
 obtain⟨p2,c2,rfl⟩:=hm.plain.shape
 obtain⟨p3,c3,rfl⟩:=hn.plain.shape
 obtain⟨pr,cr,rfl⟩:=OQ.shape
 unfold ag.cells
 have HC:Hid (∀W,aa [] w W->w.heap.size+3<=W.heap.size->Calls Tryz.prog 171 #[.slice p1 c.boxes.length c1,.agg #[.int .i64 r.kind,.int .u32 r.id,.string (bs r.name),.int .i64 r.size,.slice pr r.runs.length cr],.int .u32 c.nextBox,.int .i64 2048,.bool false] W (cN (fun x=>S0 x\/(x=w.heap.size\/x=w.heap.size+2)) (NL c.boxes r.item c.nextBox 2048 false) W)):=Mb (fun W q O4=>by
  have WI:∀x,(S0 x\/(x=w.heap.size\/x=w.heap.size+2))->x<W.heap.size:=fun x hx=>by
   rcases hx with hx|hx
   .have:=RF x hx;omega
   .omega
  have hh:=wQ _ _ r _ c.nextBox 2048 false W ((hb.more (fun x hx=>by omega)).kept0 q) WI (by have:=Pa.boxes.1;omega) Pa.boxes.2.2 (OQ.kept0 q).jK hf Ox Po (by decide)
  unfold ag.cells at hh
  exact hh)
 unfold cN at HC
 obtain⟨LL,hLL⟩:∃L,NL c.boxes r.item c.nextBox 2048 false=L:=⟨_,rfl⟩
 rw[hLL]at HC ⊢
 obtain⟨LI,LC⟩:=LL
 simp only at HC ⊢
 have RG:=(bP Pr)
 have RN:=(bP hwm)
 have HW1:Hid ((Lit.int .u32 (r.id+1)).wf=true):=Mb (jc (by omega) (by omega))
 have HW2:Hid ((Lit.int .u32 (max c.nextMan (r.id+1))).wf=true):=Mb (jc (by omega) (by omega))
 have UQ:=Mb Pr
 have U3:=Mb hwm
 obtain⟨oA,oB,oC⟩:=fg w #[.int .u32 c.nextBox,.int .u32 c.nextMan,.slice p1 c.boxes.length c1,.slice p2 c.mans.length c2,.slice p3 c.names.length c3] #[.int .i64 1,.int .u32 r.id,.string (bs r.name),.int .i64 r.size,.slice pr r.runs.length cr] #[.int .u32 0,.int .u32 0,.slice none 0 0,.slice none 0 0,.slice none 0 0] 52 102 52
 have k0:aa [] w (((w.alloc (.cells #[.int .u32 c.nextBox,.int .u32 c.nextMan,.slice p1 c.boxes.length c1,.slice p2 c.mans.length c2,.slice p3 c.names.length c3] 52)).alloc (.cells #[.int .i64 1,.int .u32 r.id,.string (bs r.name),.int .i64 r.size,.slice pr r.runs.length cr] 102)).alloc (.cells #[.int .u32 0,.int .u32 0,.slice none 0 0,.slice none 0 0,.slice none 0 0] 52)):=(((aa.refl _ _).alloc _).alloc _).alloc _
 have Su:IntKind.u32.wrap (r.id+1)=r.id+1:=jg (by omega) (by omega)
 obtain⟨x0,x1,x2,x3,x4⟩:=oA.k5
 obtain⟨y0,y1,y2,y3,y4⟩:=oB.k5
 obtain⟨mx,SA⟩:∃m,max c.nextMan (r.id+1)=m:=⟨_,rfl⟩
 have U5:=Mb SA
 have OA:=Mb oA
 have OB:=Mb oB
 have OC:=Mb oC
 have K0:=Mb k0
 rw[hk]at HC ⊢
 clear oA oB oC k0 hLL Pn hb hm hn OQ hf Ox Qf Pa Pr hwm RG RN
 go_enter Tryz.func99,Tryz.ntmps99
 go_wp2_with fail
 refine(HC.out _ K0.out (by simp)).mono ?_;rintro e w4 ⟨v4,rfl,h4,k4⟩
 have H4:=Mb h4
 have K4:=Mb (K0.out.trans k4)
 obtain⟨p4,c4,rfl⟩:=h4.plain.shape
 have Qq:=k4.own OA.out (by simp)
 have TD:=k4.own OB.out (by simp)
 have QF:=k4.own OC.out (by simp)
 obtain⟨x0,x1,x2,x3,x4⟩:=Qq.k5
 obtain⟨y0,y1,y2,y3,y4⟩:=TD.k5
 obtain⟨z0,z1,z2,z3,z4⟩:=QF.k5
 obtain⟨f0,f1,f2,f3,f4⟩:=Qq.y5
 obtain⟨g0,g1,g2,g3,g4⟩:=QF.y5
 have Vp:=Mb Qq
 have T5:=Mb QF
 clear h4 Qq TD QF
 go_wp2_with fail
 have Ot:w.heap.size+2≠w.heap.size:=by omega
 have oF:=ae.de (((T5.out).other (p:=⟨w.heap.size,2,none⟩) Ot (.slice p4 LI.length c4)).other (p:=⟨w.heap.size,0,none⟩) Ot (.int .u32 (r.id+1))) (.int .u32 (r.id+1)) (.int .u32 c.nextMan) (.slice p4 LI.length c4) (.slice p2 c.mans.length c2) (.slice p3 c.names.length c3)
 have kF:aa [] w (((((((w4.setCell ⟨w.heap.size,2,none⟩ (.slice p4 LI.length c4)).setCell ⟨w.heap.size,0,none⟩ (.int .u32 (r.id+1))).setCell ⟨w.heap.size+2,0,none⟩ (.int .u32 (r.id+1))).setCell ⟨w.heap.size+2,1,none⟩ (.int .u32 c.nextMan)).setCell ⟨w.heap.size+2,2,none⟩ (.slice p4 LI.length c4)).setCell ⟨w.heap.size+2,3,none⟩ (.slice p2 c.mans.length c2)).setCell ⟨w.heap.size+2,4,none⟩ (.slice p3 c.names.length c3)):=aa.bj (((K4.out).setCell (p:=⟨w.heap.size,2,none⟩) (Or.inr (Md _)) (.slice p4 LI.length c4)).setCell (p:=⟨w.heap.size,0,none⟩) (Or.inr (Md _)) (.int .u32 (r.id+1))) (Or.inr (by omega)) _ _ _ _ _
 have kT:aa [w.heap.size,w.heap.size+2] w4 (((((((w4.setCell ⟨w.heap.size,2,none⟩ (.slice p4 LI.length c4)).setCell ⟨w.heap.size,0,none⟩ (.int .u32 (r.id+1))).setCell ⟨w.heap.size+2,0,none⟩ (.int .u32 (r.id+1))).setCell ⟨w.heap.size+2,1,none⟩ (.int .u32 c.nextMan)).setCell ⟨w.heap.size+2,2,none⟩ (.slice p4 LI.length c4)).setCell ⟨w.heap.size+2,3,none⟩ (.slice p2 c.mans.length c2)).setCell ⟨w.heap.size+2,4,none⟩ (.slice p3 c.names.length c3)):=aa.bj (((aa.refl _ _).setCell (p:=⟨w.heap.size,2,none⟩) (Or.inl (by simp)) (.slice p4 LI.length c4)).setCell (p:=⟨w.heap.size,0,none⟩) (Or.inl (by simp)) (.int .u32 (r.id+1))) (Or.inl (by simp)) _ _ _ _ _
 have h5:=(H4.out.cf kT (fun x hx=>by simp at hx;rcases hx with rfl|rfl;exact Or.inr (Or.inl rfl);exact Or.inr (Or.inr rfl))).weaken (T:=S0) (fun x hx=>Or.inl hx)
 refine Mx (v:=.tuple #[.agg #[(.int .u32 (r.id+1)),(.int .u32 c.nextMan),(.slice p4 LI.length c4),(.slice p2 c.mans.length c2),(.slice p3 c.names.length c3)],.int .i64 LC]) (ak Tryz.results99 rfl rfl (t:=52) ?_ Tryz.underlying52 rfl (by kernel_rfl)) rfl ?_
 .exact oF
 .exact⟨_,rfl,⟨_,_,_,rfl,h5,(HM.out _ kF),(HN.out _ kF),HW1.out,U3.out⟩,kF⟩
theorem Ho (v:Value) (c:aj) (r:ag) (rv:Value) (w:World) (h:aw S0 w v c) (RF:∀x,S0 x->x<w.heap.size) (Pa:aM c) (OQ:af w rv r.runs 0 w.heap.size) (hf:r.fits) (Ox:∀a∈r.runs,aU a) (Qf:az r=true) (hk:r.kind=2):
  Calls Tryz.prog 99 #[v,.agg (r.cells rv)] w (cE S0 (bE c r) w):=by
 have Pn:bE c r=({c with mans:=(NL c.mans r.item c.nextMan 2048 true).1,nextMan:=max c.nextMan (r.id+1)},(NL c.mans r.item c.nextMan 2048 true).2):=by
  unfold bE
  rw[if_neg (by rw[hk];decide)]
  rw[if_pos hk]
 rw[Pn]
 have Po:r.runs.length<=1000000:=by have:=eV Qf;omega
 have hid:=lM Qf
 have V7:0<=r.id:=(bP hf.2.1).1
 obtain⟨vb,vm,vn,rfl,hb,hm,hn,Pr,hwm⟩:=h
 have HB:=Mb (fun W (q:aa [] w W)=>hb.kept0 q)
 have HM:=Mb (fun W (q:aa [] w W)=>hm.kept0 q)
 have HN:=Mb (fun W (q:aa [] w W)=>hn.kept0 q)
 obtain⟨p1,c1,rfl⟩:=hb.plain.shape
 obtain⟨p2,c2,rfl⟩:=hm.plain.shape
 obtain⟨p3,c3,rfl⟩:=hn.plain.shape
 obtain⟨pr,cr,rfl⟩:=OQ.shape
 unfold ag.cells
 have HC:Hid (∀W,aa [] w W->w.heap.size+3<=W.heap.size->Calls Tryz.prog 171 #[.slice p2 c.mans.length c2,.agg #[.int .i64 r.kind,.int .u32 r.id,.string (bs r.name),.int .i64 r.size,.slice pr r.runs.length cr],.int .u32 c.nextMan,.int .i64 2048,.bool true] W (cN (fun x=>S0 x\/(x=w.heap.size\/x=w.heap.size+2)) (NL c.mans r.item c.nextMan 2048 true) W)):=Mb (fun W q O4=>by
  have WI:∀x,(S0 x\/(x=w.heap.size\/x=w.heap.size+2))->x<W.heap.size:=fun x hx=>by
   rcases hx with hx|hx
   .have:=RF x hx;omega
   .omega
  have hh:=wQ _ _ r _ c.nextMan 2048 true W ((hm.more (fun x hx=>by omega)).kept0 q) WI (by have:=Pa.mans.1;omega) Pa.mans.2.2 (OQ.kept0 q).jK hf Ox Po (by decide)
  unfold ag.cells at hh
  exact hh)
 unfold cN at HC
 obtain⟨LL,hLL⟩:∃L,NL c.mans r.item c.nextMan 2048 true=L:=⟨_,rfl⟩
 rw[hLL]at HC ⊢
 obtain⟨LI,LC⟩:=LL
 simp only at HC ⊢
 have RG:=(bP Pr)
 have RN:=(bP hwm)
 have HW1:Hid ((Lit.int .u32 (r.id+1)).wf=true):=Mb (jc (by omega) (by omega))
 have HW2:Hid ((Lit.int .u32 (max c.nextMan (r.id+1))).wf=true):=Mb (jc (by omega) (by omega))
 have UQ:=Mb Pr
 have U3:=Mb hwm
 obtain⟨oA,oB,oC⟩:=fg w #[.int .u32 c.nextBox,.int .u32 c.nextMan,.slice p1 c.boxes.length c1,.slice p2 c.mans.length c2,.slice p3 c.names.length c3] #[.int .i64 2,.int .u32 r.id,.string (bs r.name),.int .i64 r.size,.slice pr r.runs.length cr] #[.int .u32 0,.int .u32 0,.slice none 0 0,.slice none 0 0,.slice none 0 0] 52 102 52
 have k0:aa [] w (((w.alloc (.cells #[.int .u32 c.nextBox,.int .u32 c.nextMan,.slice p1 c.boxes.length c1,.slice p2 c.mans.length c2,.slice p3 c.names.length c3] 52)).alloc (.cells #[.int .i64 2,.int .u32 r.id,.string (bs r.name),.int .i64 r.size,.slice pr r.runs.length cr] 102)).alloc (.cells #[.int .u32 0,.int .u32 0,.slice none 0 0,.slice none 0 0,.slice none 0 0] 52)):=(((aa.refl _ _).alloc _).alloc _).alloc _
 have Su:IntKind.u32.wrap (r.id+1)=r.id+1:=jg (by omega) (by omega)
 obtain⟨x0,x1,x2,x3,x4⟩:=oA.k5
 obtain⟨y0,y1,y2,y3,y4⟩:=oB.k5
 obtain⟨mx,SA⟩:∃m,max c.nextMan (r.id+1)=m:=⟨_,rfl⟩
 have U5:=Mb SA
 have OA:=Mb oA
 have OB:=Mb oB
 have OC:=Mb oC
 have K0:=Mb k0
 rw[hk]at HC ⊢
 clear oA oB oC k0 hLL Pn hb hm hn OQ hf Ox Qf Pa Pr hwm RG RN
 go_enter Tryz.func99,Tryz.ntmps99
 go_wp2_with fail
 refine(HC.out _ K0.out (by simp)).mono ?_;rintro e w4 ⟨v4,rfl,h4,k4⟩
 have H4:=Mb h4
 have K4:=Mb (K0.out.trans k4)
 obtain⟨p4,c4,rfl⟩:=h4.plain.shape
 have Qq:=k4.own OA.out (by simp)
 have TD:=k4.own OB.out (by simp)
 have QF:=k4.own OC.out (by simp)
 obtain⟨x0,x1,x2,x3,x4⟩:=Qq.k5
 obtain⟨y0,y1,y2,y3,y4⟩:=TD.k5
 obtain⟨z0,z1,z2,z3,z4⟩:=QF.k5
 obtain⟨f0,f1,f2,f3,f4⟩:=Qq.y5
 obtain⟨g0,g1,g2,g3,g4⟩:=QF.y5
 have Vp:=Mb Qq
 have T5:=Mb QF
 clear h4 Qq TD QF
 go_wp2_with fail
 have Ot:w.heap.size+2≠w.heap.size:=by omega
 have oF:=ae.de (((T5.out).other (p:=⟨w.heap.size,3,none⟩) Ot (.slice p4 LI.length c4)).other (p:=⟨w.heap.size,1,none⟩) Ot (.int .u32 mx)) (.int .u32 c.nextBox) (.int .u32 mx) (.slice p1 c.boxes.length c1) (.slice p4 LI.length c4) (.slice p3 c.names.length c3)
 have kF:aa [] w (((((((w4.setCell ⟨w.heap.size,3,none⟩ (.slice p4 LI.length c4)).setCell ⟨w.heap.size,1,none⟩ (.int .u32 mx)).setCell ⟨w.heap.size+2,0,none⟩ (.int .u32 c.nextBox)).setCell ⟨w.heap.size+2,1,none⟩ (.int .u32 mx)).setCell ⟨w.heap.size+2,2,none⟩ (.slice p1 c.boxes.length c1)).setCell ⟨w.heap.size+2,3,none⟩ (.slice p4 LI.length c4)).setCell ⟨w.heap.size+2,4,none⟩ (.slice p3 c.names.length c3)):=aa.bj (((K4.out).setCell (p:=⟨w.heap.size,3,none⟩) (Or.inr (Md _)) (.slice p4 LI.length c4)).setCell (p:=⟨w.heap.size,1,none⟩) (Or.inr (Md _)) (.int .u32 mx)) (Or.inr (by omega)) _ _ _ _ _
 have kT:aa [w.heap.size,w.heap.size+2] w4 (((((((w4.setCell ⟨w.heap.size,3,none⟩ (.slice p4 LI.length c4)).setCell ⟨w.heap.size,1,none⟩ (.int .u32 mx)).setCell ⟨w.heap.size+2,0,none⟩ (.int .u32 c.nextBox)).setCell ⟨w.heap.size+2,1,none⟩ (.int .u32 mx)).setCell ⟨w.heap.size+2,2,none⟩ (.slice p1 c.boxes.length c1)).setCell ⟨w.heap.size+2,3,none⟩ (.slice p4 LI.length c4)).setCell ⟨w.heap.size+2,4,none⟩ (.slice p3 c.names.length c3)):=aa.bj (((aa.refl _ _).setCell (p:=⟨w.heap.size,3,none⟩) (Or.inl (by simp)) (.slice p4 LI.length c4)).setCell (p:=⟨w.heap.size,1,none⟩) (Or.inl (by simp)) (.int .u32 mx)) (Or.inl (by simp)) _ _ _ _ _
 have h5:=(H4.out.cf kT (fun x hx=>by simp at hx;rcases hx with rfl|rfl;exact Or.inr (Or.inl rfl);exact Or.inr (Or.inr rfl))).weaken (T:=S0) (fun x hx=>Or.inl hx)
 refine Mx (v:=.tuple #[.agg #[(.int .u32 c.nextBox),(.int .u32 mx),(.slice p1 c.boxes.length c1),(.slice p4 LI.length c4),(.slice p3 c.names.length c3)],.int .i64 LC]) (ak Tryz.results99 rfl rfl (t:=52) ?_ Tryz.underlying52 rfl (by kernel_rfl)) rfl ?_
 .exact oF
 .exact⟨_,rfl,⟨_,_,_,(by rw[<-U5.out]),(HB.out _ kF),h5,(HN.out _ kF),UQ.out,HW2.out⟩,kF⟩
theorem M76 {A:Prop}(h:A:=by
 rw[if_neg (by rw[hk];decide)]
 rw[if_neg (by rw[hk];decide)]
 rw[if_pos hk]):A:=h
theorem Hn (v:Value) (c:aj) (r:ag) (rv:Value) (w:World) (h:aw S0 w v c) (RF:∀x,S0 x->x<w.heap.size) (Pa:aM c) (OQ:af w rv r.runs 0 w.heap.size) (hf:r.fits) (Ox:∀a∈r.runs,aU a) (Qf:az r=true) (hk:r.kind=3):
  Calls Tryz.prog 99 #[v,.agg (r.cells rv)] w (cE S0 (bE c r) w):=by
 have Pn:bE c r=({c with names:=(NL c.names r.item 0 256 false).1},(NL c.names r.item 0 256 false).2):=by
  unfold bE
  exact M76
 rw[Pn]
 have Po:r.runs.length<=1000000:=by have:=eV Qf;omega
 have hid:=lM Qf
 have V7:0<=r.id:=(bP hf.2.1).1
 obtain⟨vb,vm,vn,rfl,hb,hm,hn,Pr,hwm⟩:=h
 have HB:=Mb (fun W (q:aa [] w W)=>hb.kept0 q)
 have HM:=Mb (fun W (q:aa [] w W)=>hm.kept0 q)
 have HN:=Mb (fun W (q:aa [] w W)=>hn.kept0 q)
 obtain⟨p1,c1,rfl⟩:=hb.plain.shape
 obtain⟨p2,c2,rfl⟩:=hm.plain.shape
 obtain⟨p3,c3,rfl⟩:=hn.plain.shape
 obtain⟨pr,cr,rfl⟩:=OQ.shape
 unfold ag.cells
 have HC:Hid (∀W,aa [] w W->w.heap.size+3<=W.heap.size->Calls Tryz.prog 171 #[.slice p3 c.names.length c3,.agg #[.int .i64 r.kind,.int .u32 r.id,.string (bs r.name),.int .i64 r.size,.slice pr r.runs.length cr],.int .u32 0,.int .i64 256,.bool false] W (cN (fun x=>S0 x\/(x=w.heap.size\/x=w.heap.size+2)) (NL c.names r.item 0 256 false) W)):=Mb (fun W q O4=>by
  have WI:∀x,(S0 x\/(x=w.heap.size\/x=w.heap.size+2))->x<W.heap.size:=fun x hx=>by
   rcases hx with hx|hx
   .have:=RF x hx;omega
   .omega
  have hh:=wQ _ _ r _ 0 256 false W ((hn.more (fun x hx=>by omega)).kept0 q) WI (by have:=Pa.names.1;omega) Pa.names.2.2 (OQ.kept0 q).jK hf Ox Po (by decide)
  unfold ag.cells at hh
  exact hh)
 unfold cN at HC
 obtain⟨LL,hLL⟩:∃L,NL c.names r.item 0 256 false=L:=⟨_,rfl⟩
 rw[hLL]at HC ⊢
 obtain⟨LI,LC⟩:=LL
 simp only at HC ⊢
 have RG:=(bP Pr)
 have RN:=(bP hwm)
 have HW1:Hid ((Lit.int .u32 (r.id+1)).wf=true):=Mb (jc (by omega) (by omega))
 have HW2:Hid ((Lit.int .u32 (max c.nextMan (r.id+1))).wf=true):=Mb (jc (by omega) (by omega))
 have UQ:=Mb Pr
 have U3:=Mb hwm
 obtain⟨oA,oB,oC⟩:=fg w #[.int .u32 c.nextBox,.int .u32 c.nextMan,.slice p1 c.boxes.length c1,.slice p2 c.mans.length c2,.slice p3 c.names.length c3] #[.int .i64 3,.int .u32 r.id,.string (bs r.name),.int .i64 r.size,.slice pr r.runs.length cr] #[.int .u32 0,.int .u32 0,.slice none 0 0,.slice none 0 0,.slice none 0 0] 52 102 52
 have k0:aa [] w (((w.alloc (.cells #[.int .u32 c.nextBox,.int .u32 c.nextMan,.slice p1 c.boxes.length c1,.slice p2 c.mans.length c2,.slice p3 c.names.length c3] 52)).alloc (.cells #[.int .i64 3,.int .u32 r.id,.string (bs r.name),.int .i64 r.size,.slice pr r.runs.length cr] 102)).alloc (.cells #[.int .u32 0,.int .u32 0,.slice none 0 0,.slice none 0 0,.slice none 0 0] 52)):=(((aa.refl _ _).alloc _).alloc _).alloc _
 have Su:IntKind.u32.wrap (r.id+1)=r.id+1:=jg (by omega) (by omega)
 obtain⟨x0,x1,x2,x3,x4⟩:=oA.k5
 obtain⟨y0,y1,y2,y3,y4⟩:=oB.k5
 obtain⟨mx,SA⟩:∃m,max c.nextMan (r.id+1)=m:=⟨_,rfl⟩
 have U5:=Mb SA
 have OA:=Mb oA
 have OB:=Mb oB
 have OC:=Mb oC
 have K0:=Mb k0
 rw[hk]at HC ⊢
 clear oA oB oC k0 hLL Pn hb hm hn OQ hf Ox Qf Pa Pr hwm RG RN
 go_enter Tryz.func99,Tryz.ntmps99
 go_wp2_with fail
 refine(HC.out _ K0.out (by simp)).mono ?_;rintro e w4 ⟨v4,rfl,h4,k4⟩
 have H4:=Mb h4
 have K4:=Mb (K0.out.trans k4)
 obtain⟨p4,c4,rfl⟩:=h4.plain.shape
 have Qq:=k4.own OA.out (by simp)
 have TD:=k4.own OB.out (by simp)
 have QF:=k4.own OC.out (by simp)
 obtain⟨x0,x1,x2,x3,x4⟩:=Qq.k5
 obtain⟨y0,y1,y2,y3,y4⟩:=TD.k5
 obtain⟨z0,z1,z2,z3,z4⟩:=QF.k5
 obtain⟨f0,f1,f2,f3,f4⟩:=Qq.y5
 obtain⟨g0,g1,g2,g3,g4⟩:=QF.y5
 have Vp:=Mb Qq
 have T5:=Mb QF
 clear h4 Qq TD QF
 go_wp2_with fail
 have Ot:w.heap.size+2≠w.heap.size:=by omega
 have oF:=ae.de ((T5.out).other (p:=⟨w.heap.size,4,none⟩) Ot (.slice p4 LI.length c4)) (.int .u32 c.nextBox) (.int .u32 c.nextMan) (.slice p1 c.boxes.length c1) (.slice p2 c.mans.length c2) (.slice p4 LI.length c4)
 have kF:aa [] w ((((((w4.setCell ⟨w.heap.size,4,none⟩ (.slice p4 LI.length c4)).setCell ⟨w.heap.size+2,0,none⟩ (.int .u32 c.nextBox)).setCell ⟨w.heap.size+2,1,none⟩ (.int .u32 c.nextMan)).setCell ⟨w.heap.size+2,2,none⟩ (.slice p1 c.boxes.length c1)).setCell ⟨w.heap.size+2,3,none⟩ (.slice p2 c.mans.length c2)).setCell ⟨w.heap.size+2,4,none⟩ (.slice p4 LI.length c4)):=aa.bj ((K4.out).setCell (p:=⟨w.heap.size,4,none⟩) (Or.inr (Md _)) (.slice p4 LI.length c4)) (Or.inr (by omega)) _ _ _ _ _
 have kT:aa [w.heap.size,w.heap.size+2] w4 ((((((w4.setCell ⟨w.heap.size,4,none⟩ (.slice p4 LI.length c4)).setCell ⟨w.heap.size+2,0,none⟩ (.int .u32 c.nextBox)).setCell ⟨w.heap.size+2,1,none⟩ (.int .u32 c.nextMan)).setCell ⟨w.heap.size+2,2,none⟩ (.slice p1 c.boxes.length c1)).setCell ⟨w.heap.size+2,3,none⟩ (.slice p2 c.mans.length c2)).setCell ⟨w.heap.size+2,4,none⟩ (.slice p4 LI.length c4)):=aa.bj ((aa.refl _ _).setCell (p:=⟨w.heap.size,4,none⟩) (Or.inl (by simp)) (.slice p4 LI.length c4)) (Or.inl (by simp)) _ _ _ _ _
 have h5:=(H4.out.cf kT (fun x hx=>by simp at hx;rcases hx with rfl|rfl;exact Or.inr (Or.inl rfl);exact Or.inr (Or.inr rfl))).weaken (T:=S0) (fun x hx=>Or.inl hx)
 refine Mx (v:=.tuple #[.agg #[(.int .u32 c.nextBox),(.int .u32 c.nextMan),(.slice p1 c.boxes.length c1),(.slice p2 c.mans.length c2),(.slice p4 LI.length c4)],.int .i64 LC]) (ak Tryz.results99 rfl rfl (t:=52) ?_ Tryz.underlying52 rfl (by kernel_rfl)) rfl ?_
 .exact oF
 .exact⟨_,rfl,⟨_,_,_,rfl,(HB.out _ kF),(HM.out _ kF),h5,UQ.out,U3.out⟩,kF⟩
theorem Hm (v:Value) (c:aj) (r:ag) (rv:Value) (w:World) (h:aw S0 w v c) (RF:∀x,S0 x->x<w.heap.size) (Pa:aM c) (OQ:af w rv r.runs 0 w.heap.size) (hf:r.fits) (Ox:∀a∈r.runs,aU a) (Qf:az r=true) (hk:r.kind=4):
  Calls Tryz.prog 99 #[v,.agg (r.cells rv)] w (cE S0 (bE c r) w):=by
 have Pn:bE c r=({c with boxes:=(Of c.boxes r.item).1},(Of c.boxes r.item).2):=by
  unfold bE
  rw[if_neg (by rw[hk];decide)]
  exact M76
 rw[Pn]
 have Po:r.runs.length<=1000000:=by have:=eV Qf;omega
 have hid:=lM Qf
 have V7:0<=r.id:=(bP hf.2.1).1
 obtain⟨vb,vm,vn,rfl,hb,hm,hn,Pr,hwm⟩:=h
 have HB:=Mb (fun W (q:aa [] w W)=>hb.kept0 q)
 have HM:=Mb (fun W (q:aa [] w W)=>hm.kept0 q)
 have HN:=Mb (fun W (q:aa [] w W)=>hn.kept0 q)
 obtain⟨p1,c1,rfl⟩:=hb.plain.shape
 obtain⟨p2,c2,rfl⟩:=hm.plain.shape
 obtain⟨p3,c3,rfl⟩:=hn.plain.shape
 obtain⟨pr,cr,rfl⟩:=OQ.shape
 unfold ag.cells
 have HC:Hid (∀W,aa [] w W->w.heap.size+3<=W.heap.size->Calls Tryz.prog 172 #[.slice p1 c.boxes.length c1,.agg #[.int .i64 r.kind,.int .u32 r.id,.string (bs r.name),.int .i64 r.size,.slice pr r.runs.length cr]] W (cN (fun x=>S0 x\/(x=w.heap.size\/x=w.heap.size+2)) (Of c.boxes r.item) W)):=Mb (fun W q O4=>by
  have WI:∀x,(S0 x\/(x=w.heap.size\/x=w.heap.size+2))->x<W.heap.size:=fun x hx=>by
   rcases hx with hx|hx
   .have:=RF x hx;omega
   .omega
  have hh:=AU _ _ r (.slice pr r.runs.length cr) W ((hb.more (fun x hx=>by omega)).kept0 q) WI (by have:=Pa.boxes.1;omega) Pa.boxes.2.2 ⟨_,_,_,rfl⟩
  unfold ag.cells at hh
  exact hh)
 unfold cN at HC
 obtain⟨LL,hLL⟩:∃L,Of c.boxes r.item=L:=⟨_,rfl⟩
 rw[hLL]at HC ⊢
 obtain⟨LI,LC⟩:=LL
 simp only at HC ⊢
 have RG:=(bP Pr)
 have RN:=(bP hwm)
 have HW1:Hid ((Lit.int .u32 (r.id+1)).wf=true):=Mb (jc (by omega) (by omega))
 have HW2:Hid ((Lit.int .u32 (max c.nextMan (r.id+1))).wf=true):=Mb (jc (by omega) (by omega))
 have UQ:=Mb Pr
 have U3:=Mb hwm
 obtain⟨oA,oB,oC⟩:=fg w #[.int .u32 c.nextBox,.int .u32 c.nextMan,.slice p1 c.boxes.length c1,.slice p2 c.mans.length c2,.slice p3 c.names.length c3] #[.int .i64 4,.int .u32 r.id,.string (bs r.name),.int .i64 r.size,.slice pr r.runs.length cr] #[.int .u32 0,.int .u32 0,.slice none 0 0,.slice none 0 0,.slice none 0 0] 52 102 52
 have k0:aa [] w (((w.alloc (.cells #[.int .u32 c.nextBox,.int .u32 c.nextMan,.slice p1 c.boxes.length c1,.slice p2 c.mans.length c2,.slice p3 c.names.length c3] 52)).alloc (.cells #[.int .i64 4,.int .u32 r.id,.string (bs r.name),.int .i64 r.size,.slice pr r.runs.length cr] 102)).alloc (.cells #[.int .u32 0,.int .u32 0,.slice none 0 0,.slice none 0 0,.slice none 0 0] 52)):=(((aa.refl _ _).alloc _).alloc _).alloc _
 have Su:IntKind.u32.wrap (r.id+1)=r.id+1:=jg (by omega) (by omega)
 obtain⟨x0,x1,x2,x3,x4⟩:=oA.k5
 obtain⟨y0,y1,y2,y3,y4⟩:=oB.k5
 obtain⟨mx,SA⟩:∃m,max c.nextMan (r.id+1)=m:=⟨_,rfl⟩
 have U5:=Mb SA
 have OA:=Mb oA
 have OB:=Mb oB
 have OC:=Mb oC
 have K0:=Mb k0
 rw[hk]at HC ⊢
 clear oA oB oC k0 hLL Pn hb hm hn OQ hf Ox Qf Pa Pr hwm RG RN
 go_enter Tryz.func99,Tryz.ntmps99
 go_wp2_with fail
 refine(HC.out _ K0.out (by simp)).mono ?_;rintro e w4 ⟨v4,rfl,h4,k4⟩
 have H4:=Mb h4
 have K4:=Mb (K0.out.trans k4)
 obtain⟨p4,c4,rfl⟩:=h4.plain.shape
 have Qq:=k4.own OA.out (by simp)
 have TD:=k4.own OB.out (by simp)
 have QF:=k4.own OC.out (by simp)
 obtain⟨x0,x1,x2,x3,x4⟩:=Qq.k5
 obtain⟨y0,y1,y2,y3,y4⟩:=TD.k5
 obtain⟨z0,z1,z2,z3,z4⟩:=QF.k5
 obtain⟨f0,f1,f2,f3,f4⟩:=Qq.y5
 obtain⟨g0,g1,g2,g3,g4⟩:=QF.y5
 have Vp:=Mb Qq
 have T5:=Mb QF
 clear h4 Qq TD QF
 go_wp2_with fail
 have Ot:w.heap.size+2≠w.heap.size:=by omega
 have oF:=ae.de ((T5.out).other (p:=⟨w.heap.size,2,none⟩) Ot (.slice p4 LI.length c4)) (.int .u32 c.nextBox) (.int .u32 c.nextMan) (.slice p4 LI.length c4) (.slice p2 c.mans.length c2) (.slice p3 c.names.length c3)
 have kF:aa [] w ((((((w4.setCell ⟨w.heap.size,2,none⟩ (.slice p4 LI.length c4)).setCell ⟨w.heap.size+2,0,none⟩ (.int .u32 c.nextBox)).setCell ⟨w.heap.size+2,1,none⟩ (.int .u32 c.nextMan)).setCell ⟨w.heap.size+2,2,none⟩ (.slice p4 LI.length c4)).setCell ⟨w.heap.size+2,3,none⟩ (.slice p2 c.mans.length c2)).setCell ⟨w.heap.size+2,4,none⟩ (.slice p3 c.names.length c3)):=aa.bj ((K4.out).setCell (p:=⟨w.heap.size,2,none⟩) (Or.inr (Md _)) (.slice p4 LI.length c4)) (Or.inr (by omega)) _ _ _ _ _
 have kT:aa [w.heap.size,w.heap.size+2] w4 ((((((w4.setCell ⟨w.heap.size,2,none⟩ (.slice p4 LI.length c4)).setCell ⟨w.heap.size+2,0,none⟩ (.int .u32 c.nextBox)).setCell ⟨w.heap.size+2,1,none⟩ (.int .u32 c.nextMan)).setCell ⟨w.heap.size+2,2,none⟩ (.slice p4 LI.length c4)).setCell ⟨w.heap.size+2,3,none⟩ (.slice p2 c.mans.length c2)).setCell ⟨w.heap.size+2,4,none⟩ (.slice p3 c.names.length c3)):=aa.bj ((aa.refl _ _).setCell (p:=⟨w.heap.size,2,none⟩) (Or.inl (by simp)) (.slice p4 LI.length c4)) (Or.inl (by simp)) _ _ _ _ _
 have h5:=(H4.out.cf kT (fun x hx=>by simp at hx;rcases hx with rfl|rfl;exact Or.inr (Or.inl rfl);exact Or.inr (Or.inr rfl))).weaken (T:=S0) (fun x hx=>Or.inl hx)
 refine Mx (v:=.tuple #[.agg #[(.int .u32 c.nextBox),(.int .u32 c.nextMan),(.slice p4 LI.length c4),(.slice p2 c.mans.length c2),(.slice p3 c.names.length c3)],.int .i64 LC]) (ak Tryz.results99 rfl rfl (t:=52) ?_ Tryz.underlying52 rfl (by kernel_rfl)) rfl ?_
 .exact oF
 .exact⟨_,rfl,⟨_,_,_,rfl,h5,(HM.out _ kF),(HN.out _ kF),UQ.out,U3.out⟩,kF⟩
theorem Hl (v:Value) (c:aj) (r:ag) (rv:Value) (w:World) (h:aw S0 w v c) (RF:∀x,S0 x->x<w.heap.size) (Pa:aM c) (OQ:af w rv r.runs 0 w.heap.size) (hf:r.fits) (Ox:∀a∈r.runs,aU a) (Qf:az r=true) (hk:r.kind=5):
  Calls Tryz.prog 99 #[v,.agg (r.cells rv)] w (cE S0 (bE c r) w):=by
 have Pn:bE c r=({c with mans:=(Of c.mans r.item).1},(Of c.mans r.item).2):=by
  unfold bE
  rw[if_neg (by rw[hk];decide)]
  rw[if_neg (by rw[hk];decide)]
  exact M76
 rw[Pn]
 have Po:r.runs.length<=1000000:=by have:=eV Qf;omega
 have hid:=lM Qf
 have V7:0<=r.id:=(bP hf.2.1).1
 obtain⟨vb,vm,vn,rfl,hb,hm,hn,Pr,hwm⟩:=h
 have HB:=Mb (fun W (q:aa [] w W)=>hb.kept0 q)
 have HM:=Mb (fun W (q:aa [] w W)=>hm.kept0 q)
 have HN:=Mb (fun W (q:aa [] w W)=>hn.kept0 q)
 obtain⟨p1,c1,rfl⟩:=hb.plain.shape
 obtain⟨p2,c2,rfl⟩:=hm.plain.shape
 obtain⟨p3,c3,rfl⟩:=hn.plain.shape
 obtain⟨pr,cr,rfl⟩:=OQ.shape
 unfold ag.cells
 have HC:Hid (∀W,aa [] w W->w.heap.size+3<=W.heap.size->Calls Tryz.prog 172 #[.slice p2 c.mans.length c2,.agg #[.int .i64 r.kind,.int .u32 r.id,.string (bs r.name),.int .i64 r.size,.slice pr r.runs.length cr]] W (cN (fun x=>S0 x\/(x=w.heap.size\/x=w.heap.size+2)) (Of c.mans r.item) W)):=Mb (fun W q O4=>by
  have WI:∀x,(S0 x\/(x=w.heap.size\/x=w.heap.size+2))->x<W.heap.size:=fun x hx=>by
   rcases hx with hx|hx
   .have:=RF x hx;omega
   .omega
  have hh:=AU _ _ r (.slice pr r.runs.length cr) W ((hm.more (fun x hx=>by omega)).kept0 q) WI (by have:=Pa.mans.1;omega) Pa.mans.2.2 ⟨_,_,_,rfl⟩
  unfold ag.cells at hh
  exact hh)
 unfold cN at HC
 obtain⟨LL,hLL⟩:∃L,Of c.mans r.item=L:=⟨_,rfl⟩
 rw[hLL]at HC ⊢
 obtain⟨LI,LC⟩:=LL
 simp only at HC ⊢
 have RG:=(bP Pr)
 have RN:=(bP hwm)
 have HW1:Hid ((Lit.int .u32 (r.id+1)).wf=true):=Mb (jc (by omega) (by omega))
 have HW2:Hid ((Lit.int .u32 (max c.nextMan (r.id+1))).wf=true):=Mb (jc (by omega) (by omega))
 have UQ:=Mb Pr
 have U3:=Mb hwm
 obtain⟨oA,oB,oC⟩:=fg w #[.int .u32 c.nextBox,.int .u32 c.nextMan,.slice p1 c.boxes.length c1,.slice p2 c.mans.length c2,.slice p3 c.names.length c3] #[.int .i64 5,.int .u32 r.id,.string (bs r.name),.int .i64 r.size,.slice pr r.runs.length cr] #[.int .u32 0,.int .u32 0,.slice none 0 0,.slice none 0 0,.slice none 0 0] 52 102 52
 have k0:aa [] w (((w.alloc (.cells #[.int .u32 c.nextBox,.int .u32 c.nextMan,.slice p1 c.boxes.length c1,.slice p2 c.mans.length c2,.slice p3 c.names.length c3] 52)).alloc (.cells #[.int .i64 5,.int .u32 r.id,.string (bs r.name),.int .i64 r.size,.slice pr r.runs.length cr] 102)).alloc (.cells #[.int .u32 0,.int .u32 0,.slice none 0 0,.slice none 0 0,.slice none 0 0] 52)):=(((aa.refl _ _).alloc _).alloc _).alloc _
 have Su:IntKind.u32.wrap (r.id+1)=r.id+1:=jg (by omega) (by omega)
 obtain⟨x0,x1,x2,x3,x4⟩:=oA.k5
 obtain⟨y0,y1,y2,y3,y4⟩:=oB.k5
 obtain⟨mx,SA⟩:∃m,max c.nextMan (r.id+1)=m:=⟨_,rfl⟩
 have U5:=Mb SA
 have OA:=Mb oA
 have OB:=Mb oB
 have OC:=Mb oC
 have K0:=Mb k0
 rw[hk]at HC ⊢
 clear oA oB oC k0 hLL Pn hb hm hn OQ hf Ox Qf Pa Pr hwm RG RN
 go_enter Tryz.func99,Tryz.ntmps99
 go_wp2_with fail
 refine(HC.out _ K0.out (by simp)).mono ?_;rintro e w4 ⟨v4,rfl,h4,k4⟩
 have H4:=Mb h4
 have K4:=Mb (K0.out.trans k4)
 obtain⟨p4,c4,rfl⟩:=h4.plain.shape
 have Qq:=k4.own OA.out (by simp)
 have TD:=k4.own OB.out (by simp)
 have QF:=k4.own OC.out (by simp)
 obtain⟨x0,x1,x2,x3,x4⟩:=Qq.k5
 obtain⟨y0,y1,y2,y3,y4⟩:=TD.k5
 obtain⟨z0,z1,z2,z3,z4⟩:=QF.k5
 obtain⟨f0,f1,f2,f3,f4⟩:=Qq.y5
 obtain⟨g0,g1,g2,g3,g4⟩:=QF.y5
 have Vp:=Mb Qq
 have T5:=Mb QF
 clear h4 Qq TD QF
 go_wp2_with fail
 have Ot:w.heap.size+2≠w.heap.size:=by omega
 have oF:=ae.de ((T5.out).other (p:=⟨w.heap.size,3,none⟩) Ot (.slice p4 LI.length c4)) (.int .u32 c.nextBox) (.int .u32 c.nextMan) (.slice p1 c.boxes.length c1) (.slice p4 LI.length c4) (.slice p3 c.names.length c3)
 have kF:aa [] w ((((((w4.setCell ⟨w.heap.size,3,none⟩ (.slice p4 LI.length c4)).setCell ⟨w.heap.size+2,0,none⟩ (.int .u32 c.nextBox)).setCell ⟨w.heap.size+2,1,none⟩ (.int .u32 c.nextMan)).setCell ⟨w.heap.size+2,2,none⟩ (.slice p1 c.boxes.length c1)).setCell ⟨w.heap.size+2,3,none⟩ (.slice p4 LI.length c4)).setCell ⟨w.heap.size+2,4,none⟩ (.slice p3 c.names.length c3)):=aa.bj ((K4.out).setCell (p:=⟨w.heap.size,3,none⟩) (Or.inr (Md _)) (.slice p4 LI.length c4)) (Or.inr (by omega)) _ _ _ _ _
 have kT:aa [w.heap.size,w.heap.size+2] w4 ((((((w4.setCell ⟨w.heap.size,3,none⟩ (.slice p4 LI.length c4)).setCell ⟨w.heap.size+2,0,none⟩ (.int .u32 c.nextBox)).setCell ⟨w.heap.size+2,1,none⟩ (.int .u32 c.nextMan)).setCell ⟨w.heap.size+2,2,none⟩ (.slice p1 c.boxes.length c1)).setCell ⟨w.heap.size+2,3,none⟩ (.slice p4 LI.length c4)).setCell ⟨w.heap.size+2,4,none⟩ (.slice p3 c.names.length c3)):=aa.bj ((aa.refl _ _).setCell (p:=⟨w.heap.size,3,none⟩) (Or.inl (by simp)) (.slice p4 LI.length c4)) (Or.inl (by simp)) _ _ _ _ _
 have h5:=(H4.out.cf kT (fun x hx=>by simp at hx;rcases hx with rfl|rfl;exact Or.inr (Or.inl rfl);exact Or.inr (Or.inr rfl))).weaken (T:=S0) (fun x hx=>Or.inl hx)
 refine Mx (v:=.tuple #[.agg #[(.int .u32 c.nextBox),(.int .u32 c.nextMan),(.slice p1 c.boxes.length c1),(.slice p4 LI.length c4),(.slice p3 c.names.length c3)],.int .i64 LC]) (ak Tryz.results99 rfl rfl (t:=52) ?_ Tryz.underlying52 rfl (by kernel_rfl)) rfl ?_
 .exact oF
 .exact⟨_,rfl,⟨_,_,_,rfl,(HB.out _ kF),h5,(HN.out _ kF),UQ.out,U3.out⟩,kF⟩
theorem Hk (v:Value) (c:aj) (r:ag) (rv:Value) (w:World) (h:aw S0 w v c) (RF:∀x,S0 x->x<w.heap.size) (Pa:aM c) (OQ:af w rv r.runs 0 w.heap.size) (hf:r.fits) (Ox:∀a∈r.runs,aU a) (Qf:az r=true) (hk:r.kind=6):
  Calls Tryz.prog 99 #[v,.agg (r.cells rv)] w (cE S0 (bE c r) w):=by
 have Pn:bE c r=({c with names:=(Of c.names r.item).1},(Of c.names r.item).2):=by
  unfold bE
  rw[if_neg (by rw[hk];decide)]
  rw[if_neg (by rw[hk];decide)]
  rw[if_neg (by rw[hk];decide)]
  rw[if_neg (by rw[hk];decide)]
  rw[if_neg (by rw[hk];decide)]
 rw[Pn]
 have Po:r.runs.length<=1000000:=by have:=eV Qf;omega
 have hid:=lM Qf
 have V7:0<=r.id:=(bP hf.2.1).1
 obtain⟨vb,vm,vn,rfl,hb,hm,hn,Pr,hwm⟩:=h
 have HB:=Mb (fun W (q:aa [] w W)=>hb.kept0 q)
 have HM:=Mb (fun W (q:aa [] w W)=>hm.kept0 q)
 have HN:=Mb (fun W (q:aa [] w W)=>hn.kept0 q)
 obtain⟨p1,c1,rfl⟩:=hb.plain.shape
 obtain⟨p2,c2,rfl⟩:=hm.plain.shape
 obtain⟨p3,c3,rfl⟩:=hn.plain.shape
 obtain⟨pr,cr,rfl⟩:=OQ.shape
 unfold ag.cells
 have HC:Hid (∀W,aa [] w W->w.heap.size+3<=W.heap.size->Calls Tryz.prog 172 #[.slice p3 c.names.length c3,.agg #[.int .i64 r.kind,.int .u32 r.id,.string (bs r.name),.int .i64 r.size,.slice pr r.runs.length cr]] W (cN (fun x=>S0 x\/(x=w.heap.size\/x=w.heap.size+2)) (Of c.names r.item) W)):=Mb (fun W q O4=>by
  have WI:∀x,(S0 x\/(x=w.heap.size\/x=w.heap.size+2))->x<W.heap.size:=fun x hx=>by
   rcases hx with hx|hx
   .have:=RF x hx;omega
   .omega
  have hh:=AU _ _ r (.slice pr r.runs.length cr) W ((hn.more (fun x hx=>by omega)).kept0 q) WI (by have:=Pa.names.1;omega) Pa.names.2.2 ⟨_,_,_,rfl⟩
  unfold ag.cells at hh
  exact hh)
 unfold cN at HC
 obtain⟨LL,hLL⟩:∃L,Of c.names r.item=L:=⟨_,rfl⟩
 rw[hLL]at HC ⊢
 obtain⟨LI,LC⟩:=LL
 simp only at HC ⊢
 have RG:=(bP Pr)
 have RN:=(bP hwm)
 have HW1:Hid ((Lit.int .u32 (r.id+1)).wf=true):=Mb (jc (by omega) (by omega))
 have HW2:Hid ((Lit.int .u32 (max c.nextMan (r.id+1))).wf=true):=Mb (jc (by omega) (by omega))
 have UQ:=Mb Pr
 have U3:=Mb hwm
 obtain⟨oA,oB,oC⟩:=fg w #[.int .u32 c.nextBox,.int .u32 c.nextMan,.slice p1 c.boxes.length c1,.slice p2 c.mans.length c2,.slice p3 c.names.length c3] #[.int .i64 6,.int .u32 r.id,.string (bs r.name),.int .i64 r.size,.slice pr r.runs.length cr] #[.int .u32 0,.int .u32 0,.slice none 0 0,.slice none 0 0,.slice none 0 0] 52 102 52
 have k0:aa [] w (((w.alloc (.cells #[.int .u32 c.nextBox,.int .u32 c.nextMan,.slice p1 c.boxes.length c1,.slice p2 c.mans.length c2,.slice p3 c.names.length c3] 52)).alloc (.cells #[.int .i64 6,.int .u32 r.id,.string (bs r.name),.int .i64 r.size,.slice pr r.runs.length cr] 102)).alloc (.cells #[.int .u32 0,.int .u32 0,.slice none 0 0,.slice none 0 0,.slice none 0 0] 52)):=(((aa.refl _ _).alloc _).alloc _).alloc _
 have Su:IntKind.u32.wrap (r.id+1)=r.id+1:=jg (by omega) (by omega)
 obtain⟨x0,x1,x2,x3,x4⟩:=oA.k5
 obtain⟨y0,y1,y2,y3,y4⟩:=oB.k5
 obtain⟨mx,SA⟩:∃m,max c.nextMan (r.id+1)=m:=⟨_,rfl⟩
 have U5:=Mb SA
 have OA:=Mb oA
 have OB:=Mb oB
 have OC:=Mb oC
 have K0:=Mb k0
 rw[hk]at HC ⊢
 clear oA oB oC k0 hLL Pn hb hm hn OQ hf Ox Qf Pa Pr hwm RG RN
 go_enter Tryz.func99,Tryz.ntmps99
 go_wp2_with fail
 refine(HC.out _ K0.out (by simp)).mono ?_;rintro e w4 ⟨v4,rfl,h4,k4⟩
 have H4:=Mb h4
 have K4:=Mb (K0.out.trans k4)
 obtain⟨p4,c4,rfl⟩:=h4.plain.shape
 have Qq:=k4.own OA.out (by simp)
 have TD:=k4.own OB.out (by simp)
 have QF:=k4.own OC.out (by simp)
 obtain⟨x0,x1,x2,x3,x4⟩:=Qq.k5
 obtain⟨y0,y1,y2,y3,y4⟩:=TD.k5
 obtain⟨z0,z1,z2,z3,z4⟩:=QF.k5
 obtain⟨f0,f1,f2,f3,f4⟩:=Qq.y5
 obtain⟨g0,g1,g2,g3,g4⟩:=QF.y5
 have Vp:=Mb Qq
 have T5:=Mb QF
 clear h4 Qq TD QF
 go_wp2_with fail
 have Ot:w.heap.size+2≠w.heap.size:=by omega
 have oF:=ae.de ((T5.out).other (p:=⟨w.heap.size,4,none⟩) Ot (.slice p4 LI.length c4)) (.int .u32 c.nextBox) (.int .u32 c.nextMan) (.slice p1 c.boxes.length c1) (.slice p2 c.mans.length c2) (.slice p4 LI.length c4)
 have kF:aa [] w ((((((w4.setCell ⟨w.heap.size,4,none⟩ (.slice p4 LI.length c4)).setCell ⟨w.heap.size+2,0,none⟩ (.int .u32 c.nextBox)).setCell ⟨w.heap.size+2,1,none⟩ (.int .u32 c.nextMan)).setCell ⟨w.heap.size+2,2,none⟩ (.slice p1 c.boxes.length c1)).setCell ⟨w.heap.size+2,3,none⟩ (.slice p2 c.mans.length c2)).setCell ⟨w.heap.size+2,4,none⟩ (.slice p4 LI.length c4)):=aa.bj ((K4.out).setCell (p:=⟨w.heap.size,4,none⟩) (Or.inr (Md _)) (.slice p4 LI.length c4)) (Or.inr (by omega)) _ _ _ _ _
 have kT:aa [w.heap.size,w.heap.size+2] w4 ((((((w4.setCell ⟨w.heap.size,4,none⟩ (.slice p4 LI.length c4)).setCell ⟨w.heap.size+2,0,none⟩ (.int .u32 c.nextBox)).setCell ⟨w.heap.size+2,1,none⟩ (.int .u32 c.nextMan)).setCell ⟨w.heap.size+2,2,none⟩ (.slice p1 c.boxes.length c1)).setCell ⟨w.heap.size+2,3,none⟩ (.slice p2 c.mans.length c2)).setCell ⟨w.heap.size+2,4,none⟩ (.slice p4 LI.length c4)):=aa.bj ((aa.refl _ _).setCell (p:=⟨w.heap.size,4,none⟩) (Or.inl (by simp)) (.slice p4 LI.length c4)) (Or.inl (by simp)) _ _ _ _ _
 have h5:=(H4.out.cf kT (fun x hx=>by simp at hx;rcases hx with rfl|rfl;exact Or.inr (Or.inl rfl);exact Or.inr (Or.inr rfl))).weaken (T:=S0) (fun x hx=>Or.inl hx)
 refine Mx (v:=.tuple #[.agg #[(.int .u32 c.nextBox),(.int .u32 c.nextMan),(.slice p1 c.boxes.length c1),(.slice p2 c.mans.length c2),(.slice p4 LI.length c4)],.int .i64 LC]) (ak Tryz.results99 rfl rfl (t:=52) ?_ Tryz.underlying52 rfl (by kernel_rfl)) rfl ?_
 .exact oF
 .exact⟨_,rfl,⟨_,_,_,rfl,(HB.out _ kF),(HM.out _ kF),h5,UQ.out,U3.out⟩,kF⟩
theorem Ju (v:Value) (c:aj) (r:ag) (rv:Value) (w:World) (h:aw S0 w v c) (RF:∀x,S0 x->x<w.heap.size) (Pa:aM c) (OQ:af w rv r.runs 0 w.heap.size) (hf:r.fits) (Ox:∀a∈r.runs,aU a) (Qf:az r=true):
  Calls Tryz.prog 99 #[v,.agg (r.cells rv)] w (cE S0 (bE c r) w):=by
 rcases sG Qf with hk|hk|hk|hk|hk|hk
 .exact Hp v c r rv w h RF Pa OQ hf Ox Qf hk
 .exact Ho v c r rv w h RF Pa OQ hf Ox Qf hk
 .exact Hn v c r rv w h RF Pa OQ hf Ox Qf hk
 .exact Hm v c r rv w h RF Pa OQ hf Ox Qf hk
 .exact Hl v c r rv w h RF Pa OQ hf Ox Qf hk
 .exact Hk v c r rv w h RF Pa OQ hf Ox Qf hk
end Go.Proofs.YtdkimcnlhmhpgaaGreat

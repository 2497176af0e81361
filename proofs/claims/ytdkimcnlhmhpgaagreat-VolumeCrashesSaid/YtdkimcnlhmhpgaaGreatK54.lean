/- -/
import Derived.Test.YtdkimcnlhmhpgaaGreatK53
set_option maxHeartbeats 16000000
set_option maxRecDepth 100000
set_option linter.unusedVariables false
set_option linter.unusedSimpArgs false
namespace Go.Proofs.YtdkimcnlhmhpgaaGreat
open Go.RowKit
variable {w:World} {B b sb mb lo:Nat} {T:List Nat} {v:VS}
theorem JE {s:SB} {sv:Value} {c:aj} {vb vm vn:Value} {dead:Bool} (hO:ae w B (bf b s sv c vb vm vn dead) 90) (hC:cC w (.agg #[.int .u32 c.nextBox,.int .u32 c.nextMan,vb,vm,vn]) c)
  (hs:∀l,l=c.boxes\/l=c.mans\/l=c.names->l.length<=1000000/\∀x∈l,x.runs.length<=1000000):
  Calls Tryz.prog 19 #[.pointer (some ⟨B,0,none⟩)] w fun e w'=>(∃vv,e=.returned vv/\aw (fun x=>x<w.heap.size) w' vv c)/\aa [] w w':=by
 obtain⟨_,_,_,e,h1,h2,h3,Su,TP⟩:=hC
 injection e with e
 injection e with e
 injection e with _ e
 injection e with _ e
 injection e with e1 e
 injection e with e2 e
 injection e with e3 _
 subst e1 e2 e3
 obtain⟨p1,c1,rfl⟩:=h1.shape
 obtain⟨p2,c2,rfl⟩:=h2.shape
 obtain⟨p3,c3,rfl⟩:=h3.shape
 obtain⟨s1,s1'⟩:=hs c.boxes (Or.inl rfl)
 obtain⟨s2,s2'⟩:=hs c.mans (Or.inr (Or.inl rfl))
 obtain⟨s3,s3'⟩:=hs c.names (Or.inr (Or.inr rfl))
 unfold bf at hO
 have k0:=((aa.refl [] w).alloc (.cells #[.int .u32 0,.int .u32 0,.slice none 0 0,.slice none 0 0,.slice none 0 0] 52))
 have hOr:=ae.new w #[.int .u32 0,.int .u32 0,.slice none 0 0,.slice none 0 0,.slice none 0 0] 52
 have hOB:=k0.own hO (by simp)
 have HW:=Mb (And.intro Su TP)
 have UN:=Mb (fun W (k:aa [] w W)=>xd _ _ W (h1.kept0 k) s1 s1')
 have HM0:=Mb (fun W (k:aa [] w W)=>xd _ _ W (h2.kept0 k) s2 s2')
 have HN0:=Mb (fun W (k:aa [] w W)=>xd _ _ W (h3.kept0 k) s3 s3')
 unfold nK at UN HM0 HN0
 obtain⟨x0,x1,x2,x3,x4,x5,x6,x7,x8,x9,x10,x11,x12⟩:=hOB.jC
 have OR:=Mb hOr
 clear hO hOB hOr s1 s1' s2 s2' s3 s3' hs h1 h2 h3 Su TP
 go_enter Tryz.func19,Tryz.ntmps19
 go_upto_region 4 with fail
 have XL:=k0.alloc (.cells #[.int .u32 c.nextBox,.int .u32 c.nextMan,.slice p1 c.boxes.length c1,.slice p2 c.mans.length c2,.slice p3 c.names.length c3] 52)
 have hOC:=tL w #[.int .u32 0,.int .u32 0,.slice none 0 0,.slice none 0 0,.slice none 0 0] #[.int .u32 c.nextBox,.int .u32 c.nextMan,.slice p1 c.boxes.length c1,.slice p2 c.mans.length c2,.slice p3 c.names.length c3] 52 52
 have hOR:=OR.out.alloc (.cells #[.int .u32 c.nextBox,.int .u32 c.nextMan,.slice p1 c.boxes.length c1,.slice p2 c.mans.length c2,.slice p3 c.names.length c3] 52)
 clear x0 x1 x2 x3 x4 x5 x6 x7 x8 x9 x10 x11 x12 k0 OR
 generalize ((w.alloc (.cells #[.int .u32 0,.int .u32 0,.slice none 0 0,.slice none 0 0,.slice none 0 0] 52)).alloc (.cells #[.int .u32 c.nextBox,.int .u32 c.nextMan,.slice p1 c.boxes.length c1,.slice p2 c.mans.length c2,.slice p3 c.names.length c3] 52))=w1 at*
 have HB:Hid (∀W,aa [] w1 W->Calls Tryz.prog 67 #[.slice p1 c.boxes.length c1] W fun e w'=>∃v,e=.returned v/\ax (fun x=>x<W.heap.size) w' v c.boxes/\aa [] W w'):=Mb (fun W k=>UN.out W (XL.trans k))
 have HM:Hid (∀W,aa [] w1 W->Calls Tryz.prog 67 #[.slice p2 c.mans.length c2] W fun e w'=>∃v,e=.returned v/\ax (fun x=>x<W.heap.size) w' v c.mans/\aa [] W w'):=Mb (fun W k=>HM0.out W (XL.trans k))
 have HN:Hid (∀W,aa [] w1 W->Calls Tryz.prog 67 #[.slice p3 c.names.length c3] W fun e w'=>∃v,e=.returned v/\ax (fun x=>x<W.heap.size) w' v c.names/\aa [] W w'):=Mb (fun W k=>HN0.out W (XL.trans k))
 obtain⟨nC,hnC⟩:∃nC,w.heap.size+1=nC:=⟨_,rfl⟩
 rw[hnC]at hOC ⊢
 have HNC:=Mb hnC
 have K1:=Mb XL
 have OC:=Mb hOC
 have OR:=Mb hOR
 clear XL hOC hOR UN HM0 HN0
 generalize c.boxes.length=n1 at*
 generalize c.mans.length=n2 at*
 generalize c.names.length=n3 at*
 clear hnC
 have Oe:Hid (∀W,aa [] w1 W->W.cell? ⟨nC,2,none⟩=some (.slice p1 n1 c1)/\W.cell? ⟨nC,3,none⟩=some (.slice p2 n2 c2)/\W.cell? ⟨nC,4,none⟩=some (.slice p3 n3 c3)):=Mb (fun W k=>by
  obtain⟨_,_,a,b,d⟩:=(k.own OC.out (by simp)).k5
  exact⟨a,b,d⟩)
 refine yG (C:=(fun W=>W.cell? ⟨nC,2,none⟩=some (.slice p1 n1 c1)/\W.cell? ⟨nC,3,none⟩=some (.slice p2 n2 c2)/\W.cell? ⟨nC,4,none⟩=some (.slice p3 n3 c3))) (by kernel_rfl) 10 (by exact Oe.out _ ((aa.refl [] w1).drew)) (fun hHeld=>?_)
 refine jM (i:=0) (d:=some 11) (v:=?_) rfl rfl (by kernel_rfl) (by kernel_rfl) (by kernel_rfl) (by kernel_rfl) (by kernel_rfl) (by kernel_rfl) (fun _ _ _ h=>h) (Or.inl ⟨by rfl,?_⟩) (by assumption) ?_
 rotate_left
 ·(intro w PQ;(try dsimp only at PQ);go_simp;try with_reducible rfl)
 try simp only[Act.put,List.setIfInBounds_toArray,List.set_cons_zero,List.set_cons_succ]
 refine jM (i:=1) (d:=some 12) (v:=?_) rfl rfl (by kernel_rfl) (by kernel_rfl) (by kernel_rfl) (by kernel_rfl) (by kernel_rfl) (by kernel_rfl) (fun _ _ _ h=>h) (Or.inl ⟨by rfl,?_⟩) (by assumption) ?_
 rotate_left
 ·(intro w PQ;(try dsimp only at PQ);go_simp;try with_reducible rfl)
 try simp only[Act.put,List.setIfInBounds_toArray,List.set_cons_zero,List.set_cons_succ]
 refine jM (i:=3) (d:=some 14) (v:=?_) rfl rfl (by kernel_rfl) (by kernel_rfl) (by kernel_rfl) (by kernel_rfl) (by kernel_rfl) (by kernel_rfl) (fun _ _ _ h=>h) (Or.inl ⟨by rfl,?_⟩) (by assumption) ?_
 rotate_left
 ·(intro w PQ;(try dsimp only at PQ);go_simp;try with_reducible rfl)
 try simp only[Act.put,List.setIfInBounds_toArray,List.set_cons_zero,List.set_cons_succ]
 refine jM (i:=4) (d:=some 15) (v:=?_) rfl rfl (by kernel_rfl) (by kernel_rfl) (by kernel_rfl) (by kernel_rfl) (by kernel_rfl) (by kernel_rfl) (fun _ _ _ h=>h) (Or.inl ⟨by rfl,?_⟩) (by assumption) ?_
 rotate_left
 ·(intro w PQ;(try dsimp only at PQ);go_simp;try with_reducible rfl)
 try simp only[Act.put,List.setIfInBounds_toArray,List.set_cons_zero,List.set_cons_succ]
 refine jM (i:=6) (d:=some 17) (v:=?_) rfl rfl (by kernel_rfl) (by kernel_rfl) (by kernel_rfl) (by kernel_rfl) (by kernel_rfl) (by kernel_rfl) (fun _ _ _ h=>h) (Or.inl ⟨by rfl,?_⟩) (by assumption) ?_
 rotate_left
 ·(intro w PQ;(try dsimp only at PQ);go_simp;try with_reducible rfl)
 try simp only[Act.put,List.setIfInBounds_toArray,List.set_cons_zero,List.set_cons_succ]
 refine jM (i:=7) (d:=some 18) (v:=?_) rfl rfl (by kernel_rfl) (by kernel_rfl) (by kernel_rfl) (by kernel_rfl) (by kernel_rfl) (by kernel_rfl) (fun _ _ _ h=>h) (Or.inl ⟨by rfl,?_⟩) (by assumption) ?_
 rotate_left
 ·(intro w PQ;(try dsimp only at PQ);go_simp;try with_reducible rfl)
 try simp only[Act.put,List.setIfInBounds_toArray,List.set_cons_zero,List.set_cons_succ]
 refine FB (i:=2) (d:=some 13) rfl rfl (by kernel_rfl) (by kernel_rfl) (fun K hK=>?_)
 go_simp
 ((with_reducible refine(HB.out _ ((aa.refl [] w1).drew)).mono ?_));rintro e w5 ⟨a,rfl,ha,kw5⟩
 obtain⟨pa,ca,rfl⟩:=ha.plain.shape
 have Hw5:=Mb ha
 have Kw5:=Mb (((aa.refl [] w1).drew).trans kw5)
 clear ha kw5
 go_wp2_with fail
 refine hK.out _ _ ?_ (fun hHeld=>Go.Proofs.YtdkimcnlhmhpgaaGreat.nm ?_)
 .exact Oe.out _ Kw5.out
 clear hK K
 refine ER (i:=9) (d:=some 20) (v:=?_) rfl rfl (by kernel_rfl) (by kernel_rfl) (by kernel_rfl) (by kernel_rfl) (fun _ _ _ h=>h) (Or.inl ⟨by rfl,?_⟩) (by assumption) ?_
 rotate_left
 ·(intro w PQ;(try dsimp only at PQ);go_simp;try with_reducible rfl)
 try simp only[Act.put,List.setIfInBounds_toArray,List.set_cons_zero,List.set_cons_succ]
 refine FB (i:=5) (d:=some 16) rfl rfl (by kernel_rfl) (by kernel_rfl) (fun K hK=>?_)
 go_simp
 ((with_reducible refine(HM.out _ Kw5.out).mono ?_));rintro e w6 ⟨b,rfl,hb,kw6⟩
 obtain⟨pb,cb,rfl⟩:=hb.plain.shape
 have Hw6:=Mb hb
 have Kw6:=Mb (Kw5.out.trans kw6)
 have K56:=Mb kw6
 clear hb kw6
 go_wp2_with fail
 refine hK.out _ _ ?_ (fun hHeld=>Go.Proofs.YtdkimcnlhmhpgaaGreat.nm ?_)
 .exact Oe.out _ Kw6.out
 clear hK K
 refine FB (i:=8) (d:=some 19) rfl rfl (by kernel_rfl) (by kernel_rfl) (fun K hK=>?_)
 go_simp
 ((with_reducible refine(HN.out _ Kw6.out).mono ?_));rintro e w7 ⟨d,rfl,hd,kw7⟩
 obtain⟨pd,cd,rfl⟩:=hd.plain.shape
 have Hw7:=Mb hd
 have Kw7:=Mb (Kw6.out.trans kw7)
 have K67:=Mb kw7
 have K57:=Mb (K56.out.trans kw7)
 clear hd kw7
 go_wp2_with fail
 refine hK.out _ _ ?_ (fun hHeld=>Go.Proofs.YtdkimcnlhmhpgaaGreat.nm ?_)
 .exact Oe.out _ Kw7.out
 clear hK K
 refine yI (by kernel_rfl) ?_
 have O7:=Kw7.out.own OC.out (by simp)
 have hR7:=Mb (Kw7.out.own OR.out (by simp))
 obtain⟨z0,z1,z2,z3,z4⟩:=O7.k5
 obtain⟨y0,y1,y2,y3,y4⟩:=O7.y5
 have O7:=Mb O7
 refine rd 10 (fun K hK=>?_)
 go_simp
 go_wp2_with fail
 refine hK.out _ _ trivial (fun hHeld=>Go.Proofs.YtdkimcnlhmhpgaaGreat.nm ?_)
 clear hK K
 refine tk 11 21 ?_
 refine rd 12 (fun K hK=>?_)
 go_simp
 go_wp2_with fail
 refine hK.out _ _ trivial (fun hHeld=>Go.Proofs.YtdkimcnlhmhpgaaGreat.nm ?_)
 clear hK K
 refine tk 13 22 ?_
 refine rd 14 (fun K hK=>?_)
 go_simp
 go_wp2_with fail
 refine hK.out _ _ trivial (fun hHeld=>Go.Proofs.YtdkimcnlhmhpgaaGreat.nm ?_)
 clear hK K
 refine MM (by kernel_rfl) ?_ _
 try simp only[List.set_cons_succ,List.set_cons_zero]
 have o8:=((O7.out.set 2 (.slice pa c.boxes.length ca)).set 3 (.slice pb c.mans.length cb)).set 4 (.slice pd c.names.length cd)
 have k8:aa [nC] w7 (((w7.setCell ⟨nC,2,none⟩ (.slice pa c.boxes.length ca)).setCell ⟨nC,3,none⟩ (.slice pb c.mans.length cb)).setCell ⟨nC,4,none⟩ (.slice pd c.names.length cd)):=(((aa.refl [nC] w7).setCell (Or.inl (by simp)) _).setCell (Or.inl (by simp)) _).setCell (Or.inl (by simp)) _
 have r8:=k8.own hR7.out (by have:=HNC.out;simp;omega)
 generalize (((w7.setCell ⟨nC,2,none⟩ (.slice pa c.boxes.length ca)).setCell ⟨nC,3,none⟩ (.slice pb c.mans.length cb)).setCell ⟨nC,4,none⟩ (.slice pd c.names.length cd))=w8 at*
 obtain⟨v0,v1,v2,v3,v4⟩:=(show ae w8 nC #[.int .u32 c.nextBox,.int .u32 c.nextMan,.slice pa c.boxes.length ca,.slice pb c.mans.length cb,.slice pd c.names.length cd] 52 from o8).k5
 obtain⟨q0,q1,q2,q3,q4⟩:=r8.k5
 obtain⟨g0,g1,g2,g3,g4⟩:=r8.y5
 have R8:=Mb r8
 have K8:=Mb k8
 clear o8 r8 k8 z0 z1 z2 z3 z4 y0 y1 y2 y3 y4 hR7
 go_wp2_with fail
 have h1:=HNC.out
 have h2:=K1.out.size
 have h5:=Kw5.out.size
 have h6:=Kw6.out.size
 have h7:=Kw7.out.size
 have hC1:=OC.out.lt
 have kf:=aa.bj (g:=w.heap.size) (aa.refl [w.heap.size] w8) (Or.inl (by simp)) (.int .u32 c.nextBox) (.int .u32 c.nextMan) (.slice pa c.boxes.length ca) (.slice pb c.mans.length cb) (.slice pd c.names.length cd)
 refine Mx (v:=.agg #[.int .u32 c.nextBox,.int .u32 c.nextMan,.slice pa c.boxes.length ca,.slice pb c.mans.length cb,.slice pd c.names.length cd]) (nf Tryz.results19 rfl (t:=52) ?_ Tryz.underlying52 rfl (by kernel_rfl)) rfl ⟨⟨_,rfl,?_⟩,?_⟩
 .exact R8.out.de _ _ _ _ _
 .have off:∀{S:Nat->Prop} {W:World} {v:Value} {l:List Nf},ax S W v l->(∀x,x<w1.heap.size->S x)->aa [] W w7->ax (fun x=>x<w.heap.size) _ v l:=fun{S W v l} h hS k=>
   (((h.weaken hS).kept0 k).cf (T:=[nC]) K8.out (fun x hx=>by
    obtain rfl:x=nC:=by simpa using hx
    exact hC1)).cf (T:=[w.heap.size]) kf (fun x hx=>by
    obtain rfl:x=w.heap.size:=by simpa using hx
    show _<_
    omega) |>.weaken (fun x hx=>by show x<_;omega)
  exact⟨_,_,_,rfl,off Hw5.out (fun x hx=>hx) (K57.out),off Hw6.out (fun x hx=>by show x<_;omega) K67.out,off Hw7.out (fun x hx=>by show x<_;omega) (aa.refl _ _),HW.out⟩
 .exact((K1.out.trans Kw7.out).call (T:=[nC]) K8.out (fun x hx=>by
   obtain rfl:x=nC:=by simpa using hx
   exact Or.inr (by omega))).call kf (fun x hx=>by
   obtain rfl:x=w.heap.size:=by simpa using hx
   exact Or.inr (Md _))
theorem aa.same {cs:Array Value} {t:TypeId} (o:ae w B cs t) (j:Nat) (u:Value) (hu:cs.setIfInBounds j u=cs):aa [] w (w.setCell ⟨B,j,none⟩ u):=by
 have k:=(aa.refl [B] w).setCell (p:=⟨B,j,none⟩) (Or.inl (by simp)) u
 have o2:=o.set j u
 rw[hu]at o2
 refine⟨k.os,k.tape,k.output,k.size,fun i hi _=>?_⟩
 by_cases h:i=B
 .subst h
  exact o2.trans o.symm
 .exact k.block i hi (by simpa using h)
theorem mH (h:ay T w B b sb mb lo v) (hd:v.dead=false) (c:Int) (hc:(Lit.int .i64 c).wf=true):Calls Tryz.prog 51 #[.pointer (some ⟨B,0,none⟩),.int .i64 c] w fun e w'=>e=.returned (.int .i64 c)/\(c≠90->aa [] w w'):=by
 obtain⟨sv,vb,vm,vn,o,_,_⟩:=h.vol
 rw[hd]at o
 obtain⟨x0,x1,x2,x3,x4,x5,x6,x7,x8,x9,x10,x11,x12⟩:=o.jC
 have z12:=o.free 12
 have K1:=Mb (aa.same o 12 (.bool false) rfl)
 clear h o x0 x1 x2 x3 x4 x5 x6 x7 x8 x9 x10 x11
 have hq:(c==90)=false->c≠90:=fun h=>by simpa using h
 have Q8:(c==90)=true->c=90:=fun h=>by simpa using h
 generalize hb90:(c==90)=q at*
 cases q
 all_goals
  go_enter Tryz.func51,Tryz.ntmps51
  go_wp2_with fail
  go_ret
  first
   |exact⟨rfl,fun _=>K1.out⟩
   |exact⟨rfl,K1.out⟩
   |rfl
   |exact⟨rfl,fun h=>absurd (Q8 rfl) h⟩
def yw (R:List UInt8×Int×VS) (w:World) (e:Ending) (w':World):Prop:=
 e=.returned (.tuple #[.string (bs R.1),.int .i64 R.2.1])/\(R.2.1≠90->aa [] w w')
theorem M15 {A:Prop}(h:A:=by
 go_enter Tryz.func15,Tryz.ntmps15
 go_wp2_with fail
 refine PT.out.mono ?_;rintro e w2 ⟨rfl,rfl⟩
 go_wp2_with fail
 refine(HF.out _ ?_).mono ?_
 .exact(aa.refl _ _).alloc _
 rintro e w3 ⟨kv,rfl,OJ,k3⟩
 obtain⟨pk,ck,ekv⟩:∃p c,kv=.slice p X.runs.length c:=OJ.1.shape
 subst ekv
 unfold Nf.cells
 have ox:=k3.own Uo.out (by simp)
 obtain⟨y0,y1,y2,y3⟩:=ox.c4
 obtain⟨z0,z1,z2,z3⟩:=ox.z4
 have kk:=((aa.refl [] w).alloc (.cells #[.int .u32 0,.string {data:=#[]},.int .i64 0,.slice none 0 0] 113)).trans k3
 have kf:=(((kk.setCell (p:=⟨w.heap.size,0,none⟩) (Or.inr (Md _)) (.int .u32 X.id)).setCell (p:=⟨w.heap.size,1,none⟩) (Or.inr (Md _)) (.string (bs X.name))).setCell (p:=⟨w.heap.size,2,none⟩) (Or.inr (Md _)) (.int .i64 X.size)).setCell (p:=⟨w.heap.size,3,none⟩) (Or.inr (Md _)) (.slice pk X.runs.length ck)
 have KF:=Mb kf
 clear ox kk kf k3 OJ
 go_wp2_with fail
 go_ret2
 exact⟨rfl,fun _=>KF.out⟩):A:=h
theorem M5 {A:Prop}(h:A:=by
 have Rm:=Oa.out X rfl
 have Z5:=Mb Rm
 clear Rm
 go_enter Tryz.func15,Tryz.ntmps15
 go_wp2_with fail
 refine PT.out.mono ?_;rintro e w2 ⟨rfl,rfl⟩
 go_wp2_with fail
 refine(HF.out _ ?_).mono ?_
 .exact(aa.refl _ _).alloc _
 rintro e w3 ⟨kv,rfl,OJ,k3⟩
 obtain⟨pk,ck,ekv⟩:∃p c,kv=.slice p X.runs.length c:=OJ.1.shape
 subst ekv
 unfold Nf.cells
 have ox:=k3.own Uo.out (by simp)
 obtain⟨y0,y1,y2,y3⟩:=ox.c4
 obtain⟨z0,z1,z2,z3⟩:=ox.z4
 have kk:=((aa.refl [] w).alloc (.cells #[.int .u32 0,.string {data:=#[]},.int .i64 0,.slice none 0 0] 113)).trans k3
 have Sg:=Mb kk
 obtain⟨ok1,ok2,ok3⟩:=OJ
 have aag:=Mb ok1
 have TH:=Mb ok2
 have aax:=Mb ok3
 have ZK:=Mb ox
 have Ro:=Mb k3
 clear ox kk k3 ok1 ok2 ok3
 go_upto_region 16 with fail
 have kf:=(((Sg.out.setCell (p:=⟨w.heap.size,0,none⟩) (Or.inr (Md _)) (.int .u32 X.id)).setCell (p:=⟨w.heap.size,1,none⟩) (Or.inr (Md _)) (.string (bs X.name))).setCell (p:=⟨w.heap.size,2,none⟩) (Or.inr (Md _)) (.int .i64 X.size)).setCell (p:=⟨w.heap.size,3,none⟩) (Or.inr (Md _)) (.slice pk X.runs.length ck)
 have of:ae ((((w3.setCell ⟨w.heap.size,0,none⟩ (.int .u32 X.id)).setCell ⟨w.heap.size,1,none⟩ (.string (bs X.name))).setCell ⟨w.heap.size,2,none⟩ (.int .i64 X.size)).setCell ⟨w.heap.size,3,none⟩ (.slice pk X.runs.length ck)) w.heap.size #[.int .u32 X.id,.string (bs X.name),.int .i64 X.size,.slice pk X.runs.length ck] 113:=(((ZK.out.set 0 (.int .u32 X.id)).set 1 (.string (bs X.name))).set 2 (.int .i64 X.size)).set 3 (.slice pk X.runs.length ck)
 generalize ((((w3.setCell ⟨w.heap.size,0,none⟩ (.int .u32 X.id)).setCell ⟨w.heap.size,1,none⟩ (.string (bs X.name))).setCell ⟨w.heap.size,2,none⟩ (.int .i64 X.size)).setCell ⟨w.heap.size,3,none⟩ (.slice pk X.runs.length ck))=w4 at*
 have YO:=(iW aag.out).kept0 kf
 have VP:=Mb YO
 have KF:=Mb kf
 have HOF:=Mb of
 have Uh:Hid (∀W,aa [] w4 W->W.cell? ⟨B,0,none⟩=some (.pointer (some ⟨b,0,none⟩))/\W.cell? ⟨w.heap.size,2,none⟩=some (.int .i64 X.size)/\W.cell? ⟨w.heap.size,3,none⟩=some (.slice pk X.runs.length ck)):=Mb (fun W k=>by
  obtain⟨_,_,e2,e3⟩:=(k.own HOF.out (by simp)).c4
  exact⟨HO.out W (KF.out.trans k),e2,e3⟩)
 clear of kf YO y0 y1 y2 y3 z0 z1 z2 z3 x0 x7 x8 x9 x10 x11
 obtain⟨y0,y1,y2⟩:=Uh.out w4 (aa.refl _ _)
 refine Ml (S:=(fun W=>W.cell? ⟨B,0,none⟩=some (.pointer (some ⟨b,0,none⟩))/\W.cell? ⟨w.heap.size,2,none⟩=some (.int .i64 X.size)/\W.cell? ⟨w.heap.size,3,none⟩=some (.slice pk X.runs.length ck))) (by kernel_rfl) (by exact Uh.out _ ((aa.refl [] w4).drew)) (fun hHeld=>?_)
 refine tk 0 57 ?_
 refine tk 1 58 ?_
 refine tk 2 59 ?_
 refine tk 3 60 ?_
 refine tk 4 61 ?_
 refine tk 5 62 ?_
 refine tk 6 63 ?_
 refine tk 7 64 ?_
 refine rd 8 (fun K hK=>?_)
 go_simp
 ((with_reducible refine(HG.out _ _ _ _ X ((KF.out).drew) (VP.out.kept0 ((aa.refl [] w4).drew)) TH.out aax.out Z5.out).mono ?_));rintro e w5 ⟨rfl,k5⟩
 have Ra:=((aa.refl [] w4).drew).trans k5
 have K5:=Mb Ra
 clear Ra k5
 go_wp2_with fail
 refine hK.out _ _ ?_ (fun hHeld=>Go.Proofs.YtdkimcnlhmhpgaaGreat.nm ?_)
 .exact Uh.out _ K5.out
 clear hK K
 refine tk 9 56 ?_
 refine tk 10 66 ?_
 refine tk 11 67 ?_
 refine tk 12 13 ?_
 refine tk 13 14 ?_
 refine MM (by kernel_rfl) ?_ _
 try simp only[List.set_cons_succ,List.set_cons_zero]
 have KW:=Mb (KF.out.trans K5.out)
 have TZ:=VE.out X.runs X.size
 have HT5:=Mb (HT.out w5 _ (KF.out.trans K5.out) TZ)
 clear TZ y0 y1 y2
 generalize Nr v.d X.runs X.size=GC at*
 generalize Ov v.d X.runs X.size=GX at*
 go_wp2_with fail
 refine HT5.out.mono ?_;rintro e w6 ⟨rfl,k6⟩
 have K6:=Mb (fun h=>KW.out.trans (k6 h))
 clear k6
 go_wp2_with fail
 go_ret2
 exact⟨rfl,K6.out⟩):A:=h
theorem Hw (id:Int) (nm:List UInt8) (hV:ay T w B b sb mb lo v) (hc:aM v.c) (hd:v.dead=false):
  Calls Tryz.prog 15 #[.pointer (some ⟨B,0,none⟩),.int .i64 1,.int .u32 id,.string (bs nm)] w (yw (cH v 1 id nm) w):=by
 have PT:=Mb (mX hV)
 rw[hd,if_neg (by simp)]at PT
 have Tt:fi v.c 1 id nm=NM (fun x=>x.id==id) v.c.boxes:=by unfold fi;rw[if_pos rfl]
 have PF:cH v 1 id nm=if(NM (fun x=>x.id==id) v.c.boxes).2=false then([],6,v)else(Ov v.d (NM (fun x=>x.id==id) v.c.boxes).1.runs (NM (fun x=>x.id==id) v.c.boxes).1.size,Nr v.d (NM (fun x=>x.id==id) v.c.boxes).1.runs (NM (fun x=>x.id==id) v.c.boxes).1.size,⟨v.d,v.s,v.c,Nr v.d (NM (fun x=>x.id==id) v.c.boxes).1.runs (NM (fun x=>x.id==id) v.c.boxes).1.size==90⟩):=by
  exact M62
 obtain⟨sv,vb,vm,vn,o,_,N5⟩:=hV.vol
 have HF:Hid (∀W,aa [] w W->Calls Tryz.prog 57 #[.agg #[.int .u32 v.c.nextBox,.int .u32 v.c.nextMan,vb,vm,vn],.int .u32 id] W (dN W (NM (fun x=>x.id==id) v.c.boxes) W)):=Mb (fun W k=>CJ _ _ v.c W (N5.plain.kept0 k) hc.small)
 have HO:Hid (∀W,aa [] w W->W.cell? ⟨B,0,none⟩=some (.pointer (some ⟨b,0,none⟩))):=Mb (fun W k=>(k.own o (by simp)).cell 0 (by simp[bf]))
 have hlen:∀x,NM (fun x=>x.id==id) v.c.boxes=(x,true)->x.runs.length<=16:=fun x hx=>eV (hc.boxes.2.1 x (oN hx))
 have HG:Hid (∀(W:World) (u:Value) (OD On:Nat) (x:Nf),aa [] w W->af W u x.runs OD On->x.fits->(∀a∈x.runs,aU a)->x.runs.length<=16->Calls Tryz.prog 60 #[.pointer (some ⟨b,0,none⟩),u,.int .i64 x.size] W fun e w'=>e=.returned (.tuple #[.string (bs (Ov v.d x.runs x.size)),.int .i64 (Nr v.d x.runs x.size)])/\aa [] W w'):=Mb (fun W u OD On (x:Nf) k h1 h2 h3 h4=>ux u x.runs x.size OD On (hV.da.aJ k) h1 (by omega) h3 h2.2.2)
 have HT:Hid (∀W c,aa [] w W->(Lit.int .i64 c).wf=true->Calls Tryz.prog 51 #[.pointer (some ⟨B,0,none⟩),.int .i64 c] W fun e w'=>e=.returned (.int .i64 c)/\(c≠90->aa [] W w')):=Mb (fun W c k XI=>by
  exact mH (hV.aJ k) hd c XI)
 have HV:=Mb hV
 have XF:Hid (∀W,aa [] w W->W.cell? ⟨B,0,none⟩=some (.pointer (some ⟨b,0,none⟩))/\W.cell? ⟨B,7,none⟩=some (.int .u32 v.c.nextBox)/\W.cell? ⟨B,8,none⟩=some (.int .u32 v.c.nextMan)/\W.cell? ⟨B,9,none⟩=some vb/\W.cell? ⟨B,10,none⟩=some vm/\W.cell? ⟨B,11,none⟩=some vn):=Mb (fun W k=>by
  obtain⟨a0,_,_,_,_,_,_,a7,a8,a9,a10,a11,_⟩:=(k.own o (by simp)).jC
  exact⟨a0,a7,a8,a9,a10,a11⟩)
 obtain⟨x0,x7,x8,x9,x10,x11⟩:=XF.out (w.alloc (.cells #[.int .u32 0,.string {data:=#[]},.int .i64 0,.slice none 0 0] 113)) ((aa.refl [] w).alloc _)
 rw[PF]
 have Oa:=Mb hlen
 have VE:Hid (∀l n,(Lit.int .i64 (Nr v.d l n)).wf=true):=Mb (fun l n=>by unfold Nr;split;split;decide;decide;decide)
 clear hV hc hd Tt PF N5 hlen o
 generalize NM (fun x=>x.id==id) v.c.boxes=X at*
 obtain⟨X,there⟩:=X
 have VX:=ae.new w #[.int .u32 0,.string {data:=#[]},.int .i64 0,.slice none 0 0] 113
 have Uo:=Mb VX
 clear VX
 cases there
 .simp only[if_true]
  exact M15
 .simp only[Bool.true_eq_false,if_false]
  exact M5
theorem Hv (id:Int) (nm:List UInt8) (hV:ay T w B b sb mb lo v) (hc:aM v.c) (hd:v.dead=false):
  Calls Tryz.prog 15 #[.pointer (some ⟨B,0,none⟩),.int .i64 2,.int .u32 id,.string (bs nm)] w (yw (cH v 2 id nm) w):=by
 have PT:=Mb (mX hV)
 rw[hd,if_neg (by simp)]at PT
 have Tt:fi v.c 2 id nm=NM (fun x=>x.id==id) v.c.mans:=by unfold fi;rw[if_neg (by decide),if_pos rfl]
 have PF:cH v 2 id nm=if(NM (fun x=>x.id==id) v.c.mans).2=false then([],6,v)else(Ov v.d (NM (fun x=>x.id==id) v.c.mans).1.runs (NM (fun x=>x.id==id) v.c.mans).1.size,Nr v.d (NM (fun x=>x.id==id) v.c.mans).1.runs (NM (fun x=>x.id==id) v.c.mans).1.size,⟨v.d,v.s,v.c,Nr v.d (NM (fun x=>x.id==id) v.c.mans).1.runs (NM (fun x=>x.id==id) v.c.mans).1.size==90⟩):=by
  exact M62
 obtain⟨sv,vb,vm,vn,o,_,N5⟩:=hV.vol
 have HF:Hid (∀W,aa [] w W->Calls Tryz.prog 58 #[.agg #[.int .u32 v.c.nextBox,.int .u32 v.c.nextMan,vb,vm,vn],.int .u32 id] W (dN W (NM (fun x=>x.id==id) v.c.mans) W)):=Mb (fun W k=>CI _ _ v.c W (N5.plain.kept0 k) hc.small)
 have HO:Hid (∀W,aa [] w W->W.cell? ⟨B,0,none⟩=some (.pointer (some ⟨b,0,none⟩))):=Mb (fun W k=>(k.own o (by simp)).cell 0 (by simp[bf]))
 have hlen:∀x,NM (fun x=>x.id==id) v.c.mans=(x,true)->x.runs.length<=16:=fun x hx=>eV (hc.mans.2.1 x (oN hx))
 have HG:Hid (∀(W:World) (u:Value) (OD On:Nat) (x:Nf),aa [] w W->af W u x.runs OD On->x.fits->(∀a∈x.runs,aU a)->x.runs.length<=16->Calls Tryz.prog 60 #[.pointer (some ⟨b,0,none⟩),u,.int .i64 x.size] W fun e w'=>e=.returned (.tuple #[.string (bs (Ov v.d x.runs x.size)),.int .i64 (Nr v.d x.runs x.size)])/\aa [] W w'):=Mb (fun W u OD On (x:Nf) k h1 h2 h3 h4=>ux u x.runs x.size OD On (hV.da.aJ k) h1 (by omega) h3 h2.2.2)
 have HT:Hid (∀W c,aa [] w W->(Lit.int .i64 c).wf=true->Calls Tryz.prog 51 #[.pointer (some ⟨B,0,none⟩),.int .i64 c] W fun e w'=>e=.returned (.int .i64 c)/\(c≠90->aa [] W w')):=Mb (fun W c k XI=>by
  exact mH (hV.aJ k) hd c XI)
 have HV:=Mb hV
 have XF:Hid (∀W,aa [] w W->W.cell? ⟨B,0,none⟩=some (.pointer (some ⟨b,0,none⟩))/\W.cell? ⟨B,7,none⟩=some (.int .u32 v.c.nextBox)/\W.cell? ⟨B,8,none⟩=some (.int .u32 v.c.nextMan)/\W.cell? ⟨B,9,none⟩=some vb/\W.cell? ⟨B,10,none⟩=some vm/\W.cell? ⟨B,11,none⟩=some vn):=Mb (fun W k=>by
  obtain⟨a0,_,_,_,_,_,_,a7,a8,a9,a10,a11,_⟩:=(k.own o (by simp)).jC
  exact⟨a0,a7,a8,a9,a10,a11⟩)
 obtain⟨x0,x7,x8,x9,x10,x11⟩:=XF.out (w.alloc (.cells #[.int .u32 0,.string {data:=#[]},.int .i64 0,.slice none 0 0] 113)) ((aa.refl [] w).alloc _)
 rw[PF]
 have Oa:=Mb hlen
 have VE:Hid (∀l n,(Lit.int .i64 (Nr v.d l n)).wf=true):=Mb (fun l n=>by unfold Nr;split;split;decide;decide;decide)
 clear hV hc hd Tt PF N5 hlen o
 generalize NM (fun x=>x.id==id) v.c.mans=X at*
 obtain⟨X,there⟩:=X
 have VX:=ae.new w #[.int .u32 0,.string {data:=#[]},.int .i64 0,.slice none 0 0] 113
 have Uo:=Mb VX
 clear VX
 cases there
 .simp only[if_true]
  exact M15
 .simp only[Bool.true_eq_false,if_false]
  exact M5
theorem Hu (id:Int) (nm:List UInt8) (hV:ay T w B b sb mb lo v) (hc:aM v.c) (hd:v.dead=false):
  Calls Tryz.prog 15 #[.pointer (some ⟨B,0,none⟩),.int .i64 3,.int .u32 id,.string (bs nm)] w (yw (cH v 3 id nm) w):=by
 have PT:=Mb (mX hV)
 rw[hd,if_neg (by simp)]at PT
 have Tt:fi v.c 3 id nm=NM (fun x=>x.name==nm) v.c.names:=by unfold fi;rw[if_neg (by decide),if_neg (by decide)]
 have PF:cH v 3 id nm=if(NM (fun x=>x.name==nm) v.c.names).2=false then([],6,v)else(Ov v.d (NM (fun x=>x.name==nm) v.c.names).1.runs (NM (fun x=>x.name==nm) v.c.names).1.size,Nr v.d (NM (fun x=>x.name==nm) v.c.names).1.runs (NM (fun x=>x.name==nm) v.c.names).1.size,⟨v.d,v.s,v.c,Nr v.d (NM (fun x=>x.name==nm) v.c.names).1.runs (NM (fun x=>x.name==nm) v.c.names).1.size==90⟩):=by
  exact M62
 obtain⟨sv,vb,vm,vn,o,_,N5⟩:=hV.vol
 have HF:Hid (∀W,aa [] w W->Calls Tryz.prog 59 #[.agg #[.int .u32 v.c.nextBox,.int .u32 v.c.nextMan,vb,vm,vn],.string (bs nm)] W (dN W (NM (fun x=>x.name==nm) v.c.names) W)):=Mb (fun W k=>te _ _ v.c W (N5.plain.kept0 k) hc.small)
 have HO:Hid (∀W,aa [] w W->W.cell? ⟨B,0,none⟩=some (.pointer (some ⟨b,0,none⟩))):=Mb (fun W k=>(k.own o (by simp)).cell 0 (by simp[bf]))
 have hlen:∀x,NM (fun x=>x.name==nm) v.c.names=(x,true)->x.runs.length<=16:=fun x hx=>eV (hc.names.2.1 x (oN hx))
 have HG:Hid (∀(W:World) (u:Value) (OD On:Nat) (x:Nf),aa [] w W->af W u x.runs OD On->x.fits->(∀a∈x.runs,aU a)->x.runs.length<=16->Calls Tryz.prog 60 #[.pointer (some ⟨b,0,none⟩),u,.int .i64 x.size] W fun e w'=>e=.returned (.tuple #[.string (bs (Ov v.d x.runs x.size)),.int .i64 (Nr v.d x.runs x.size)])/\aa [] W w'):=Mb (fun W u OD On (x:Nf) k h1 h2 h3 h4=>ux u x.runs x.size OD On (hV.da.aJ k) h1 (by omega) h3 h2.2.2)
 have HT:Hid (∀W c,aa [] w W->(Lit.int .i64 c).wf=true->Calls Tryz.prog 51 #[.pointer (some ⟨B,0,none⟩),.int .i64 c] W fun e w'=>e=.returned (.int .i64 c)/\(c≠90->aa [] W w')):=Mb (fun W c k XI=>by
  exact mH (hV.aJ k) hd c XI)
 have HV:=Mb hV
 have XF:Hid (∀W,aa [] w W->W.cell? ⟨B,0,none⟩=some (.pointer (some ⟨b,0,none⟩))/\W.cell? ⟨B,7,none⟩=some (.int .u32 v.c.nextBox)/\W.cell? ⟨B,8,none⟩=some (.int .u32 v.c.nextMan)/\W.cell? ⟨B,9,none⟩=some vb/\W.cell? ⟨B,10,none⟩=some vm/\W.cell? ⟨B,11,none⟩=some vn):=Mb (fun W k=>by
  obtain⟨a0,_,_,_,_,_,_,a7,a8,a9,a10,a11,_⟩:=(k.own o (by simp)).jC
  exact⟨a0,a7,a8,a9,a10,a11⟩)
 obtain⟨x0,x7,x8,x9,x10,x11⟩:=XF.out (w.alloc (.cells #[.int .u32 0,.string {data:=#[]},.int .i64 0,.slice none 0 0] 113)) ((aa.refl [] w).alloc _)
 rw[PF]
 have Oa:=Mb hlen
 have VE:Hid (∀l n,(Lit.int .i64 (Nr v.d l n)).wf=true):=Mb (fun l n=>by unfold Nr;split;split;decide;decide;decide)
 clear hV hc hd Tt PF N5 hlen o
 generalize NM (fun x=>x.name==nm) v.c.names=X at*
 obtain⟨X,there⟩:=X
 have VX:=ae.new w #[.int .u32 0,.string {data:=#[]},.int .i64 0,.slice none 0 0] 113
 have Uo:=Mb VX
 clear VX
 cases there
 .simp only[if_true]
  exact M15
 .simp only[Bool.true_eq_false,if_false]
  exact M5
end Go.Proofs.YtdkimcnlhmhpgaaGreat
namespace Go.Proofs.YtdkimcnlhmhpgaaGreat
open Go.RowKit
variable {k n jr j:Int} {w:World} {c:aj} {v:VS} {T:List Nat} {B b sb mb lo:Nat} {a x y:Nf} {d:DK} {F:VS->VS×Int}
noncomputable def Rv (v:VS) (x:Nf):List UInt8×Int:=((cH v 1 x.id []).1,(cH v 1 x.id []).2.1)
noncomputable def SI (v:VS) (x:Nf):List UInt8×Int:=((cH v 2 x.id []).1,(cH v 2 x.id []).2.1)
noncomputable def UB (v:VS) (x:Nf):List UInt8×Int:=((cH v 3 0 x.name).1,(cH v 3 0 x.name).2.1)
noncomputable def eu (v:VS):List (List UInt8×Int):=v.c.boxes.map (Rv v)++v.c.mans.map (SI v)++v.c.names.map (UB v)
def jy (l:List (List UInt8×Int)):Bool:=l.all (fun x=>x.2==0)
def sd (l:List (List UInt8×Int)):List Value:=l.map (fun x=>.string (bs x.1))
theorem pG {α β:Type} (D:List β) (l:List α) (f:α->β) {k:Nat} (hk:k<l.length):D++(l.take (k+1)).map f=(D++(l.take k).map f)++[f l[k]]:=by
 rw[Mf hk,Ms,Mi];rfl
theorem sA (D:List (List UInt8×Int)) (x:List UInt8×Int):jy (D++[x])=(jy D&&(x.2==0)):=by simp[jy]
theorem qb (D:List (List UInt8×Int)) (x:List UInt8×Int):sd (D++[x])=sd D++[.string (bs x.1)]:=by simp[sd]
theorem Fa {base base':Nat} {e:TypeId} {size n:Nat} {v:Value} {xs:List Value} (h:w.ownsRow base e size v n xs) (hb:base'<=base):w.ownsRow base' e size v n xs:=
 ⟨h.1,h.2.imp id (fun⟨g,cap,cur,a,b,r⟩=>⟨g,cap,cur,a,MA hb b,r⟩)⟩
structure wN (w3 wr:World) (u:Value) (l:List (List UInt8×Int)):Prop where
 row:wr.ownsRow w3.heap.size 9 1 u l.length (sd l)
 kept:aa [] w3 wr
theorem cC.items {x y va vb vc:Value} (h:cC w (.agg #[x,y,va,vb,vc]) c):aS w va c.boxes/\aS w vb c.mans/\aS w vc c.names:=by
 obtain⟨_,_,_,e,h1,h2,h3,_⟩:=h
 injection e with e
 injection e with e
 injection e with _ e
 injection e with _ e
 injection e with e1 e
 injection e with e2 e
 injection e with e3 _
 subst e1 e2 e3
 exact⟨h1,h2,h3⟩
theorem uM (hq:aF v.d) (hd:v.dead=false) (k id:Int) (nm:List UInt8):(cH v k id nm).2.1≠90:=by
 unfold cH
 rw[if_neg (by rw[hd];simp)]
 split
 .simp
 .split
  .simp
  .simp only
   unfold Nr
   rw[hq.down]
   split
   .simp
   .simp
theorem Io (hV:ay T w B b sb mb lo v) (hq:aF v.d) (hd:v.dead=false) (hc:aM v.c) (x:Nf):
  Calls Tryz.prog 15 #[.pointer (some ⟨B,0,none⟩),.int .i64 1,.int .u32 x.id,.string {data:=#[]}] w fun e w'=>e=.returned (.tuple #[.string (bs (Rv v x).1),.int .i64 (Rv v x).2])/\aa [] w w':=
 (Hw x.id [] hV hc hd).mono fun e w' hh=>⟨hh.1,hh.2 (uM hq hd _ _ _)⟩
theorem Im (hV:ay T w B b sb mb lo v) (hq:aF v.d) (hd:v.dead=false) (hc:aM v.c) (x:Nf):
  Calls Tryz.prog 15 #[.pointer (some ⟨B,0,none⟩),.int .i64 2,.int .u32 x.id,.string {data:=#[]}] w fun e w'=>e=.returned (.tuple #[.string (bs (SI v x).1),.int .i64 (SI v x).2])/\aa [] w w':=
 (Hv x.id [] hV hc hd).mono fun e w' hh=>⟨hh.1,hh.2 (uM hq hd _ _ _)⟩
theorem Il (hV:ay T w B b sb mb lo v) (hq:aF v.d) (hd:v.dead=false) (hc:aM v.c) (x:Nf):
  Calls Tryz.prog 15 #[.pointer (some ⟨B,0,none⟩),.int .i64 3,.int .u32 0,.string (bs x.name)] w fun e w'=>e=.returned (.tuple #[.string (bs (UB v x).1),.int .i64 (UB v x).2])/\aa [] w w':=
 (Hu 0 x.name hV hc hd).mono fun e w' hh=>⟨hh.1,hh.2 (uM hq hd _ _ _)⟩
theorem M36 {A:Prop}(h:A:=by
 obtain⟨rfl,rfl⟩:j=0/\.string (bs rr.1)=u:=by
  rcases j with _|j
  .simpa using hj
  .simp at hj
 rw[My]
 exact(ae.new w5 _ _).cell 0 (by simp)):A:=h
theorem M17 {A:Prop}(h:A:=by
 intro v6 w6 o6 OE _ _
 have Wg:=Mn Up
 have k6:aa [] w3 w6:=(Sb.out.alloc _).grown OE (fun g hg=>Or.inr (Wg g hg).1)
 have Wf:=Mb o6
 have K6:=Mb k6
 clear o6 OE k6 Wg Up hs5
 cases OJ:jy DD
 all_goals
  go_wp2_with fail
  go_roundw
  case rel=>
   have Ns:=NU.out
   obtain⟨l1,l2,l3⟩:=Sc.out
   refine⟨k+1,NU.out,by simp[HWK.out],?_,?_⟩
   .rw[Qu.out,sA,OJ];rfl
   .rw[Qu.out];exact⟨by simpa[qb]using Wf.out,K6.out⟩
  case measure=>(have hh:=NU.out;simp only[HWK.out];simp[intOf]<;>omega)):A:=h
theorem JF (hV:ay T w B b sb mb lo v) (hq:aF v.d) (hd:v.dead=false) (hc:aM v.c) (hs:∀l,l=v.c.boxes\/l=v.c.mans\/l=v.c.names->l.length<=1000000/\∀x∈l,x.runs.length<=1000000):
  Calls Tryz.prog 30 #[.pointer (some ⟨B,0,none⟩)] w fun e w'=>(∃u,e=.returned (.tuple #[u,.bool (jy (eu v))])/\w'.ownsRow w.heap.size 9 1 u (eu v).length (sd (eu v)))/\aa [] w w':=by
 have hi:(Tryz.prog.info? 9).map (fun i=>(i.zero,i.size,i.bytes))=some (some (.string ByteArray.empty),1,16):=by kernel_rfl
 obtain⟨i0,q0,q1,q2,q3⟩:=info_parts hi
 have hB:=hV.L7
 obtain⟨sv,vb,vm,vn,hO,hR,hCO⟩:=hV.vol
 have N5:=JE hO hCO.plain hs
 have Sc:=Mb (And.intro (hs v.c.boxes (Or.inl rfl)).1 (And.intro (hs v.c.mans (Or.inr (Or.inl rfl))).1 (hs v.c.names (Or.inr (Or.inr rfl))).1))
 have HV:=Mb hV
 have HQ:=Mb hq
 have HD:=Mb hd
 have HC:=Mb hc
 have HB:=Mb hB
 clear hV hq hd hc hO hR hCO hs
 go_enter Tryz.func30,Tryz.ntmps30
 go_wp2_with fail
 refine N5.mono ?_;rintro e w2 ⟨⟨vv,rfl,hcc⟩,k2⟩
 obtain⟨va,vb',vc,rfl,ha,hb,hn,Su,TP⟩:=id hcc
 obtain⟨pa,ca,rfl⟩:=ha.plain.shape
 obtain⟨pb,cb,rfl⟩:=hb.plain.shape
 obtain⟨pc,cc,rfl⟩:=hn.plain.shape
 have PE:=k2.alloc (.cells #[.int .u32 v.c.nextBox,.int .u32 v.c.nextMan,.slice pa v.c.boxes.length ca,.slice pb v.c.mans.length cb,.slice pc v.c.names.length cc] 52)
 have o3:=ae.new w2 #[.int .u32 v.c.nextBox,.int .u32 v.c.nextMan,.slice pa v.c.boxes.length ca,.slice pb v.c.mans.length cb,.slice pc v.c.names.length cc] 52
 have VJ:=hcc.plain.kept0 ((aa.refl [] w2).alloc (.cells #[.int .u32 v.c.nextBox,.int .u32 v.c.nextMan,.slice pa v.c.boxes.length ca,.slice pb v.c.mans.length cb,.slice pc v.c.names.length cc] 52))
 go_wp2_with fail
 clear hcc ha hb hn Su TP
 generalize w2.alloc (.cells #[.int .u32 v.c.nextBox,.int .u32 v.c.nextMan,.slice pa v.c.boxes.length ca,.slice pb v.c.mans.length cb,.slice pc v.c.names.length cc] 52)=w3 at*
 obtain⟨nC,hnC⟩:∃nC,w2.heap.size=nC:=⟨_,rfl⟩
 rw[hnC]at o3 ⊢
 have Ro:=Mb PE
 have HO3:=Mb o3
 have HC3:=Mb VJ.items
 have HA1:Hid (wN w3 w3 (.slice none 0 0) []):=Mb ⟨MG _ _ _ _,aa.refl _ _⟩
 clear hnC PE o3 VJ k2
 go_loopw [7,5,6] (fun i u ok wr=>∃k:Nat,k<=v.c.boxes.length/\i=.int .i64 (k:Nat)/\ok=.bool (jy (([]:List (List UInt8×Int))++(v.c.boxes.take k).map (Rv v)))/\wN w3 wr u (([]:List (List UInt8×Int))++(v.c.boxes.take k).map (Rv v))) (fun i _ _ _=>v.c.boxes.length-(intOf i).toNat)
 case atStart=>exact⟨0,Mu _,rfl,by simp[jy],by simpa using HA1.out⟩
 case round=>
  obtain⟨k,hk,rfl,rfl,hA⟩:=hrel
  obtain⟨z0,z1,z2,z3,z4⟩:=(hA.kept.own HO3.out (by simp)).k5
  by_cases Ns:k<v.c.boxes.length
  .have i1:(k:Int)<v.c.boxes.length:=by omega
   have Sx:=v.c.boxes.getElem_mem Ns
   obtain⟨g,off,kv,e1,_,hg,_,_,NW⟩:=(HC3.out.1).jJ k Ns
   subst e1
   obtain⟨c0,c1,c2,c3⟩:=NW wr hA.kept
   obtain⟨pu,cu,rfl⟩:=ai hA.row
   have NQ:=pG (([]:List (List UInt8×Int))) v.c.boxes (Rv v) Ns
   have Qu:=Mb NQ
   have HA:=Mb hA
   have NU:=Mb Ns
   have HWK:Hid (wrap64 ((k:Int)+1)=(k:Int)+1):=Mb (IntWalk.wrap64_in _ (by obtain⟨l1,l2,l3⟩:=Sc.out;omega))
   have RO:Hid (Calls Tryz.prog 15 #[.pointer (some ⟨B,0,none⟩),.int .i64 1,.int .u32 (v.c.boxes[k]).id,.string {data:=#[]}] wr fun e w'=>e=.returned (.tuple #[.string (bs (Rv v (v.c.boxes[k])).1),.int .i64 (Rv v (v.c.boxes[k])).2])/\aa [] wr w'):=Mb (Io (HV.out.aJ (Ro.out.trans hA.kept)) HQ.out HD.out HC.out (v.c.boxes[k]))
   have Rk:(([]:List (List UInt8×Int))++(v.c.boxes.take k).map (Rv v)).length<=3000000:=by
    obtain⟨l1,l2,l3⟩:=Sc.out
    simp
    omega
   generalize Rv v (v.c.boxes[k])=rr at*
   generalize hD:([]:List (List UInt8×Int))++(v.c.boxes.take k).map (Rv v)=DD at*
   clear NQ hA NW Sx
   go_wp2_with fail
   refine RO.out.mono ?_;rintro e w5 ⟨rfl,k5⟩
   have Up:=au HA.out.row k5 (by simp)
   have Sb:=Mb (HA.out.kept.trans k5)
   clear k5
   have XG:Hid (DD.length+1<=maxLen):=Mb (by unfold maxLen;omega)
   have VP:Hid ((DD.length+1)*16<=140737488355328):=Mb (by omega)
   have hs5:=Sb.out.size
   clear Rk
   go_wp2_with (at_builtin;go_must (refine Mv _ rfl (.tmp 36) (.tmp 38) 76 rfl w3.heap.size 9 i0 (.string ByteArray.empty) 1 16 Tryz.underlying76 q0 q1 q2 q3 rfl (by decide) _ _ _ rfl (Me Up _) ⟨w5.heap.size,0,none⟩ 1 1 [.string (bs rr.1)] rfl rfl ?_ ?_ XG.out VP.out ?_ ?_))
   .intro j u hj
    exact M36
   .intro u hu
    simp at hu
    subst hu
    rfl
   .have:=Sb.out.size
    simp
    omega
   exact M17
  .have i1:¬(k:Int)<v.c.boxes.length:=by omega
   have V0:v.c.boxes.take k=v.c.boxes:=Mk (by omega)
   rw[V0]at hA ⊢
   rw[Nd]at hA ⊢
   have Xy:=Mb hA
   clear hA V0 hk
   go_wp2_with fail
   go_loopw [10,5,6] (fun i u ok wr=>∃k:Nat,k<=v.c.mans.length/\i=.int .i64 (k:Nat)/\ok=.bool (jy (v.c.boxes.map (Rv v)++(v.c.mans.take k).map (SI v)))/\wN w3 wr u (v.c.boxes.map (Rv v)++(v.c.mans.take k).map (SI v))) (fun i _ _ _=>v.c.mans.length-(intOf i).toNat)
   case atStart=>exact⟨0,Mu _,rfl,by simp[jy],by simpa using Xy.out⟩
   case round=>
    obtain⟨k,hk,rfl,rfl,hA⟩:=hrel
    obtain⟨z0,z1,z2,z3,z4⟩:=(hA.kept.own HO3.out (by simp)).k5
    by_cases Ns:k<v.c.mans.length
    .have i1:(k:Int)<v.c.mans.length:=by omega
     have Sx:=v.c.mans.getElem_mem Ns
     obtain⟨g,off,kv,e1,_,hg,_,_,NW⟩:=(HC3.out.2.1).jJ k Ns
     subst e1
     obtain⟨c0,c1,c2,c3⟩:=NW wr hA.kept
     obtain⟨pu,cu,rfl⟩:=ai hA.row
     have NQ:=pG (v.c.boxes.map (Rv v)) v.c.mans (SI v) Ns
     have Qu:=Mb NQ
     have HA:=Mb hA
     have NU:=Mb Ns
     have HWK:Hid (wrap64 ((k:Int)+1)=(k:Int)+1):=Mb (IntWalk.wrap64_in _ (by obtain⟨l1,l2,l3⟩:=Sc.out;omega))
     have RO:Hid (Calls Tryz.prog 15 #[.pointer (some ⟨B,0,none⟩),.int .i64 2,.int .u32 (v.c.mans[k]).id,.string {data:=#[]}] wr fun e w'=>e=.returned (.tuple #[.string (bs (SI v (v.c.mans[k])).1),.int .i64 (SI v (v.c.mans[k])).2])/\aa [] wr w'):=Mb (Im (HV.out.aJ (Ro.out.trans hA.kept)) HQ.out HD.out HC.out (v.c.mans[k]))
     have Rk:(v.c.boxes.map (Rv v)++(v.c.mans.take k).map (SI v)).length<=3000000:=by
      obtain⟨l1,l2,l3⟩:=Sc.out
      simp
      omega
     generalize SI v (v.c.mans[k])=rr at*
     generalize hD:v.c.boxes.map (Rv v)++(v.c.mans.take k).map (SI v)=DD at*
     clear NQ hA NW Sx
     go_wp2_with fail
     refine RO.out.mono ?_;rintro e w5 ⟨rfl,k5⟩
     have Up:=au HA.out.row k5 (by simp)
     have Sb:=Mb (HA.out.kept.trans k5)
     clear k5
     have XG:Hid (DD.length+1<=maxLen):=Mb (by unfold maxLen;omega)
     have VP:Hid ((DD.length+1)*16<=140737488355328):=Mb (by omega)
     have hs5:=Sb.out.size
     clear Rk
     go_wp2_with (at_builtin;go_must (refine Mv _ rfl (.tmp 63) (.tmp 65) 76 rfl w3.heap.size 9 i0 (.string ByteArray.empty) 1 16 Tryz.underlying76 q0 q1 q2 q3 rfl (by decide) _ _ _ rfl (Me Up _) ⟨w5.heap.size,0,none⟩ 1 1 [.string (bs rr.1)] rfl rfl ?_ ?_ XG.out VP.out ?_ ?_))
     .intro j u hj
      exact M36
     .intro u hu
      simp at hu
      subst hu
      rfl
     .have:=Sb.out.size
      simp
      omega
     exact M17
    .have i1:¬(k:Int)<v.c.mans.length:=by omega
     have V0:v.c.mans.take k=v.c.mans:=Mk (by omega)
     rw[V0]at hA ⊢
     have HA3:=Mb hA
     clear hA V0 hk
     go_wp2_with fail
     go_loopw [13,5,6] (fun i u ok wr=>∃k:Nat,k<=v.c.names.length/\i=.int .i64 (k:Nat)/\ok=.bool (jy ((v.c.boxes.map (Rv v)++v.c.mans.map (SI v))++(v.c.names.take k).map (UB v)))/\wN w3 wr u ((v.c.boxes.map (Rv v)++v.c.mans.map (SI v))++(v.c.names.take k).map (UB v))) (fun i _ _ _=>v.c.names.length-(intOf i).toNat)
     case atStart=>exact⟨0,Mu _,rfl,by simp[jy],by simpa using HA3.out⟩
     case round=>
      obtain⟨k,hk,rfl,rfl,hA⟩:=hrel
      obtain⟨z0,z1,z2,z3,z4⟩:=(hA.kept.own HO3.out (by simp)).k5
      by_cases Ns:k<v.c.names.length
      .have i1:(k:Int)<v.c.names.length:=by omega
       have Sx:=v.c.names.getElem_mem Ns
       obtain⟨g,off,kv,e1,_,hg,_,_,NW⟩:=(HC3.out.2.2).jJ k Ns
       subst e1
       obtain⟨c0,c1,c2,c3⟩:=NW wr hA.kept
       obtain⟨pu,cu,rfl⟩:=ai hA.row
       have NQ:=pG ((v.c.boxes.map (Rv v)++v.c.mans.map (SI v))) v.c.names (UB v) Ns
       have Qu:=Mb NQ
       have HA:=Mb hA
       have NU:=Mb Ns
       have HWK:Hid (wrap64 ((k:Int)+1)=(k:Int)+1):=Mb (IntWalk.wrap64_in _ (by obtain⟨l1,l2,l3⟩:=Sc.out;omega))
       have RO:Hid (Calls Tryz.prog 15 #[.pointer (some ⟨B,0,none⟩),.int .i64 3,.int .u32 0,.string (bs (v.c.names[k]).name)] wr fun e w'=>e=.returned (.tuple #[.string (bs (UB v (v.c.names[k])).1),.int .i64 (UB v (v.c.names[k])).2])/\aa [] wr w'):=Mb (Il (HV.out.aJ (Ro.out.trans hA.kept)) HQ.out HD.out HC.out (v.c.names[k]))
       have Rk:((v.c.boxes.map (Rv v)++v.c.mans.map (SI v))++(v.c.names.take k).map (UB v)).length<=3000000:=by
        obtain⟨l1,l2,l3⟩:=Sc.out
        simp
        omega
       generalize UB v (v.c.names[k])=rr at*
       generalize hD:(v.c.boxes.map (Rv v)++v.c.mans.map (SI v))++(v.c.names.take k).map (UB v)=DD at*
       clear NQ hA NW Sx
       go_wp2_with fail
       refine RO.out.mono ?_;rintro e w5 ⟨rfl,k5⟩
       have Up:=au HA.out.row k5 (by simp)
       have Sb:=Mb (HA.out.kept.trans k5)
       clear k5
       have XG:Hid (DD.length+1<=maxLen):=Mb (by unfold maxLen;omega)
       have VP:Hid ((DD.length+1)*16<=140737488355328):=Mb (by omega)
       have hs5:=Sb.out.size
       clear Rk
       go_wp2_with (at_builtin;go_must (refine Mv _ rfl (.tmp 90) (.tmp 92) 76 rfl w3.heap.size 9 i0 (.string ByteArray.empty) 1 16 Tryz.underlying76 q0 q1 q2 q3 rfl (by decide) _ _ _ rfl (Me Up _) ⟨w5.heap.size,0,none⟩ 1 1 [.string (bs rr.1)] rfl rfl ?_ ?_ XG.out VP.out ?_ ?_))
       .intro j u hj
        exact M36
       .intro u hu
        simp at hu
        subst hu
        rfl
       .have:=Sb.out.size
        simp
        omega
       exact M17
      .have i1:¬(k:Int)<v.c.names.length:=by omega
       have V0:v.c.names.take k=v.c.names:=Mk (by omega)
       rw[V0]at hA ⊢
       have HA4:=Mb hA
       clear hA V0 hk
       go_wp2_with fail
       go_ret2
       have hx:v.c.boxes.map (Rv v)++(v.c.mans.map (SI v)++v.c.names.map (UB v))=eu v:=by unfold eu;rw[Mi]
       exact⟨⟨_,by rw[<-hx];rfl,Fa HA4.out.row Ro.out.size⟩,Ro.out.trans HA4.out.kept⟩
theorem DN {l:List (Int×Int)} (h:Oi n jr l) (hj:0<=jr) (hn:n<=8192):eQ 0 (min n 8192) l:=
 ⟨fun a ha=>by have:=h.1 a ha;unfold mB at this;unfold iG;omega,h.2.imp (fun h=>by unfold qV at h;unfold kn;omega)⟩
theorem FK (h:az (a.told k)=true):a.runs.length<=16/\0<=a.size/\Nw a.runs=Nv a.size:=by
 have hp:eX a.runs a.size=true:=by
  unfold az aA at h
  simp only[MJ]at h
  exact h.2.2.2.2.2.2
 unfold eX at hp
 simp only[MJ,decide_eq_true_eq,beq_iff_eq]at hp
 exact⟨hp.1,hp.2.1,hp.2.2.2.2⟩
theorem Gy (h:az (a.told k)=true) (hL:Oi n jr a.runs) (hj:0<=jr) (hn:n<=8192):dA a.runs n a.size:=by
 obtain⟨h1,h2,h3⟩:=FK h
 have hm:=DN hL hj hn
 exact⟨h2,h1,hm,by rw[qC hm (by omega),h3]⟩
def tX (c:aj) (x:Nf):Prop:=x∈c.boxes\/x∈c.mans\/x∈c.names
theorem Ga (hx:tX c x):x.runs.Sublist (NN c):=by
 have:∃k,x.told k∈N0 c:=by
  rcases hx with h|h|h
  .exact⟨1,by unfold N0;simp only[Mj];exact Or.inl (Or.inl (MV.2 ⟨x,h,rfl⟩))⟩
  .exact⟨2,by unfold N0;simp only[Mj];exact Or.inl (Or.inr (MV.2 ⟨x,h,rfl⟩))⟩
  .exact⟨3,by unfold N0;simp only[Mj];exact Or.inr (MV.2 ⟨x,h,rfl⟩)⟩
 obtain⟨k,hk⟩:=this
 exact List.sublist_flatten_of_mem (MV.2 ⟨x.told k,hk,rfl⟩)
theorem IS (hc:aM c) (hx:tX c x):∃k,az (x.told k)=true:=by
 rcases hx with h|h|h
 .exact⟨1,hc.boxes.2.1 x h⟩
 .exact⟨2,hc.mans.2.1 x h⟩
 .exact⟨3,hc.names.2.1 x h⟩
theorem AB (hc:aM c) (hx:tX c x) {R:List (Int×Int)} (hL:Oi n jr (NN c++R)) (hj:0<=jr) (hn:n<=8192):dA x.runs n x.size/\∀k∈Nu x.runs,aC (NN c++R) k=true:=by
 have hs:x.runs.Sublist (NN c++R):=(Ga hx).trans (List.sublist_append_left _ _)
 have hL':Oi n jr x.runs:=⟨fun a ha=>hL.1 a (hs.subset ha),hL.2.sublist hs⟩
 obtain⟨k,hk⟩:=IS hc hx
 refine⟨Gy hk hL' hj hn,fun k hk=>?_⟩
 have h1:=dQ (l:=x.runs) (fun a ha=>by have:=(hL'.1 a ha).2.1;omega) hk
 obtain⟨a,ha,h2⟩:=bF.1 h1
 exact bF.2 ⟨a,hs.subset ha,h2⟩
theorem qA {p:Nf->Bool} {l:List Nf} (hy:y∈l) (hp:p y=true):∃x∈l,NM p l=(x,true):=by
 cases h:l.find? p with
 |none=>exact absurd hp (List.find?_eq_none.1 h y hy)
 |some x=>exact⟨x,List.mem_of_find?_eq_some h,by unfold NM;rw[h]⟩
theorem AN (hy:y∈c.boxes):∃x,tX c x/\fi c 1 y.id []=(x,true):=by
 obtain⟨x,h1,h2⟩:=qA (p:=fun x=>x.id==y.id) hy (by simp)
 exact⟨x,Or.inl h1,by unfold fi;rw[if_pos rfl];exact h2⟩
theorem AM (hy:y∈c.mans):∃x,tX c x/\fi c 2 y.id []=(x,true):=by
 obtain⟨x,h1,h2⟩:=qA (p:=fun x=>x.id==y.id) hy (by simp)
 exact⟨x,Or.inr (Or.inl h1),by unfold fi;rw[if_neg (by decide),if_pos rfl];exact h2⟩
theorem yu (hy:y∈c.names):∃x,tX c x/\fi c 3 0 y.name=(x,true):=by
 obtain⟨x,h1,h2⟩:=qA (p:=fun x=>x.name==y.name) hy (by simp)
 exact⟨x,Or.inr (Or.inr h1),by unfold fi;rw[if_neg (by decide),if_neg (by decide)];exact h2⟩
theorem gF (hd:v.dead=false) {id:Int} {nm:List UInt8} (hk:k=1\/k=2\/k=3) (ha:fi v.c k id nm=(x,true)):(cH v k id nm).1=Ov v.d x.runs x.size/\(cH v k id nm).2.1=Nr v.d x.runs x.size:=by
 unfold cH
 rw[if_neg (by rw[hd];simp),if_neg (fun hh=>hh hk),ha,if_neg (by simp)]
 exact⟨rfl,rfl⟩
theorem mA {u:VS} (hc:v.c=u.c) (hd:v.dead=false) (hu:u.dead=false) (h:∀x,tX v.c x->Ov v.d x.runs x.size=Ov u.d x.runs x.size/\Nr v.d x.runs x.size=Nr u.d x.runs x.size):eu v=eu u:=by
 unfold eu
 rw[<-hc]
 have e1:v.c.boxes.map (Rv v)=v.c.boxes.map (Rv u):=List.map_congr_left fun y hy=>by
  obtain⟨x,h1,h2⟩:=AN hy
  obtain⟨a1,a2⟩:=gF hd (Or.inl rfl) h2
  obtain⟨b1,b2⟩:=gF (v:=u) hu (Or.inl rfl) (by rw[<-hc];exact h2)
  unfold Rv
  rw[a1,a2,b1,b2,(h x h1).1,(h x h1).2]
 have e2:v.c.mans.map (SI v)=v.c.mans.map (SI u):=List.map_congr_left fun y hy=>by
  obtain⟨x,h1,h2⟩:=AM hy
  obtain⟨a1,a2⟩:=gF hd (Or.inr (Or.inl rfl)) h2
  obtain⟨b1,b2⟩:=gF (v:=u) hu (Or.inr (Or.inl rfl)) (by rw[<-hc];exact h2)
  unfold SI
  rw[a1,a2,b1,b2,(h x h1).1,(h x h1).2]
 have e3:v.c.names.map (UB v)=v.c.names.map (UB u):=List.map_congr_left fun y hy=>by
  obtain⟨x,h1,h2⟩:=yu hy
  obtain⟨a1,a2⟩:=gF hd (Or.inr (Or.inr rfl)) h2
  obtain⟨b1,b2⟩:=gF (v:=u) hu (Or.inr (Or.inr rfl)) (by rw[<-hc];exact h2)
  unfold UB
  rw[a1,a2,b1,b2,(h x h1).1,(h x h1).2]
 rw[e1,e2,e3]
theorem Jl (hd:v.dead=false) (h:∀x,tX v.c x->Nr v.d x.runs x.size=0):jy (eu v)=true:=by
 unfold jy eu
 rw[List.all_eq_true]
 intro r hr
 simp only[Mj,MV]at hr
 rcases hr with(⟨y,hy,rfl⟩|⟨y,hy,rfl⟩)|⟨y,hy,rfl⟩
 .obtain⟨x,h1,h2⟩:=AN hy
  show((cH v 1 y.id []).2.1==0)=true
  rw[(gF hd (Or.inl rfl) h2).2,h x h1];rfl
 .obtain⟨x,h1,h2⟩:=AM hy
  show((cH v 2 y.id []).2.1==0)=true
  rw[(gF hd (Or.inr (Or.inl rfl)) h2).2,h x h1];rfl
 .obtain⟨x,h1,h2⟩:=yu hy
  show((cH v 3 0 y.name).2.1==0)=true
  rw[(gF hd (Or.inr (Or.inr rfl)) h2).2,h x h1];rfl
theorem fJ {s:SB} (hf:bg d) (h:ez d s c) (hd:d.down=false) (hn:d.stand.length<=8192):jy (eu ⟨d,s,c,false⟩)=true/\∀x,tX c x->∀k∈Nu x.runs,aC (NN c++s.runs) k=true:=by
 obtain⟨m1,m2,m3,m4,m5⟩:=zc hf h
 have S4:=h.sect
 have hL:=h.lies
 have hj:0<=s.journal:=by have:=m1.1.2.2.2.1;omega
 refine⟨Jl rfl fun x hx=>?_,fun x hx=>(AB m3 hx hL (by omega) (by omega)).2⟩
 have h1:=(AB m3 hx hL (by omega) (by omega)).1
 rw[S4]at h1
 unfold Nr
 rw[if_pos h1,if_neg (by rw[hd];simp)]
theorem xY {d':DK} (hs:d'.stand=d.stand) (hw:d.waits=[]) (hw':d'.waits=[]) (hd:d.down=false) (Rf:d'.down=false) (l:List (Int×Int)) (n:Int):Nr d' l n=Nr d l n/\Ov d' l n=Ov d l n:=
 oJ (by rw[hs]) hd Rf l n (fun k _ _=>by rw[fm hw,fm hw',hs])
theorem tH (hw:d.waits=[]) (keep:List Bool):(Oo d keep).stand=d.stand:=by
 unfold Oo
 rw[hw];rfl
structure uD (v:VS) (C:Int) (D:DK) (U:VS) (s:SB) (c:aj):Prop where
 mounted:ez D s c
 may:aM c
 reads:jy (eu ⟨D,s,c,false⟩)=true
 twin:jy (eu U)=true/\aM U.c/\U.dead=false/\aF U.d
 ends:(c=U.c/\eu ⟨D,s,c,false⟩=eu U)\/(C≠0/\c=v.c/\eu ⟨D,s,c,false⟩=eu v)
theorem AJ (hW:iI v) (hv:v.dead=false) (hS:wK v F) {e0:DK} (he:aF e0) (hes:e0.stand=v.d.stand) (hew:e0.waits=[]) (keep:List Bool):
  ∃s c,uD v (F v).2 (Oo (F v).1.d keep) (F ⟨e0,v.s,v.c,false⟩).1 s c:=by
 have hF:=hW.fit
 have hw:=hW.waits
 have hd:=hW.down
 have hn:v.d.stand.length<=8192:=hW.len
 have ev:v=⟨v.d,v.s,v.c,v.dead⟩:=rfl
 have he0:ez e0 v.s v.c:=gG hW.mounted hF he.fit hw hd hes hew he.down
 rcases hS with⟨C,hC,hFe⟩|⟨FS,s,c,hFe,NQ,Rn,h5,h6,h7⟩
 .have h1:F v=(v,C):=hFe v.d
  have h2:F ⟨e0,v.s,v.c,false⟩=(⟨e0,v.s,v.c,false⟩,C):=by have:=hFe e0;rw[hv]at this;exact this
  rw[h1,h2]
  have hps:(Oo v.d keep).stand=v.d.stand:=tH hw keep
  have hm:ez (Oo v.d keep) v.s v.c:=gG hW.mounted hF (hF.iw keep) hw hd hps rfl rfl
  have r1:=(fJ (hF.iw keep) hm rfl (by rw[hps];exact hn)).1
  have r2:=(fJ he.fit he0 he.down (by rw[hes];exact hn)).1
  refine⟨v.s,v.c,hm,hW.cat,r1,⟨r2,hW.cat,rfl,he⟩,Or.inl ⟨rfl,mA rfl rfl rfl fun x hx=>?_⟩⟩
  obtain⟨g1,g2⟩:=xY (d:=e0) (d':=Oo v.d keep) (hps.trans hes.symm) hew rfl he.down rfl x.runs x.size
  exact⟨g2,g1⟩
 .have aab:gX v.d e0:=⟨hes.symm,hw.trans hew.symm,hd,he⟩
  obtain⟨c1,m1,w1,q1,alt⟩:=Hd NQ aab hw
  have hU:F ⟨e0,v.s,v.c,false⟩=(⟨(ah (FS++[aE s]) e0).1,s,c,false⟩,0):=by
   have:=hFe e0
   rw[hv]at this
   rw[this]
   unfold fV
   rw[if_pos c1]
   rfl
  have hV:F v=Oy (fV v (ah (FS++[aE s]) v.d) s c):=hFe v.d
  rw[hU]
  generalize (ah (FS++[aE s]) e0).1=E at*
  have hEl:E.stand.length=v.d.stand.length:=by
   have a1:=m1.sect
   have a2:=hW.mounted.sect
   omega
  have r2:=(fJ q1.fit m1 q1.down (by omega)).1
  have key:∀D:DK,bg D->D.down=false->D.waits=[]->D.stand=E.stand->∃s' c',uD v (F v).2 D ⟨E,s,c,false⟩ s' c':=fun D f1 f2 f3 f4=>by
   have hm:ez D s c:=gG m1 q1.fit f1 w1 q1.down f4 f3 f2
   have r1:=(fJ f1 hm f2 (by rw[f4];omega)).1
   refine⟨s,c,hm,NQ.cat.1,r1,⟨r2,NQ.cat.1,rfl,q1⟩,Or.inl ⟨rfl,mA rfl rfl rfl fun x hx=>?_⟩⟩
   obtain⟨g1,g2⟩:=xY (d:=E) (d':=D) f4 w1 f3 q1.down f2 x.runs x.size
   exact⟨g2,g1⟩
  have N6:(F v).1.d=(ah (FS++[aE s]) v.d).1:=by
   rw[hV]
   unfold fV Oy
   split<;>rfl
  rw[N6]
  rcases alt with⟨a1,a2⟩|⟨a1,a2,a3,a4⟩
  .exact key _ (a2.fit.iw keep) rfl rfl ((tH (a2.waits.trans w1) keep).trans a2.stand)
  .rcases a4 keep with k1|k1
   .exact key _ (a3.iw keep) rfl rfl k1
   .have hC:(F v).2≠0:=by
     rw[hV]
     unfold fV Oy
     rw[if_neg (by rw[a1];decide),a1]
     decide
    have hm:ez (Oo (ah (FS++[aE s]) v.d).1 keep) v.s v.c:=pW hW.mounted hF (a3.iw keep) hw hd k1 rfl rfl
    have hr:=fJ (a3.iw keep) hm rfl (by rw[k1.len];exact hn)
    refine⟨v.s,v.c,hm,hW.cat,hr.1,⟨r2,NQ.cat.1,rfl,q1⟩,Or.inr ⟨hC,rfl,mA rfl rfl hv fun x hx=>?_⟩⟩
    obtain⟨g1,g2⟩:=r9 hw hd k1 rfl x.runs x.size (hr.2 x hx)
    exact⟨g2,g1⟩
theorem CO (hW:iI v) (hq:aF v.d) (hv:v.dead=false) (hsq:v.s.seq+1<=1000000) (hS:wK v F):iI (F v).1/\(F v).1.dead=false/\(F v).1.s.seq<=v.s.seq+1:=by
 rcases hS with⟨C,hC,hFe⟩|⟨FS,s,c,hFe,NQ,Rn,h5,h6,h7⟩
 .have h1:F v=(v,C):=hFe v.d
  rw[h1]
  exact⟨hW,hv,by show v.s.seq<=_;omega⟩
 .have aab:gX v.d v.d:=⟨rfl,rfl,hW.down,hq⟩
  obtain⟨c1,m1,w1,q1,_⟩:=Hd NQ aab hW.waits
  have hV:F v=(⟨(ah (FS++[aE s]) v.d).1,s,c,false⟩,0):=by
   have e:F v=Oy (fV v (ah (FS++[aE s]) v.d) s c):=hFe v.d
   rw[e]
   unfold fV
   rw[if_pos c1,hv]
   rfl
  rw[hV]
  generalize (ah (FS++[aE s]) v.d).1=E at*
  have hEl:E.stand.length=v.d.stand.length:=by
   have a1:=m1.sect
   have a2:=hW.mounted.sect
   omega
  exact⟨⟨q1.fit,q1.down,w1,Rn,NQ.cat.1,NQ.cat.2,by show s.seq<=_;omega,m1,by show E.stand.length<=_;rw[hEl];exact hW.len⟩,rfl,by show s.seq<=_;omega⟩
theorem CB:¬fG Nl:=fun h=>by
 have:=sK h
 have e:(OW Nl).seq=0:=by decide
 omega
theorem Gf (h:aF d) (h1:1<=j) (h2:4<=d.stand.length) (h3:j<=(d.stand.length:Int)-2) (h4:d.stand.length<=8192):iI ⟨(cz j d).1,bW d.stand.length j,bI,false⟩:=by
 have hz:Nl.length=128:=by unfold Nl;exact MF
 have hm:(bW d.stand.length j).may:=lf h1 (by omega) h3 (by omega)
 have q1:=(eD (P:=fun _=>False) h 0 Nl (fun k hk=>hk.elim)).1
 have c1:(Nq 0 Nl d).2=0:=fo h (i:=0) (by omega) hz
 have q2:=(eD (P:=fun _=>False) q1.quiet 1 Nl (fun k hk=>hk.elim)).1
 have c2:(Nq 1 Nl (Nq 0 Nl d).1).2=0:=fo q1.quiet (i:=1) (by rw[q1.len];omega) hz
 have q3:=(dE (P:=fun _=>False) q2.quiet).1
 have c3:(Ni (Nq 1 Nl (Nq 0 Nl d).1).1).2=0:=q2.quiet.ja
 have w3:(Ni (Nq 1 Nl (Nq 0 Nl d).1).1).1.waits=[]:=iH q2.quiet
 have hlen:(Ni (Nq 1 Nl (Nq 0 Nl d).1).1).1.stand.length=d.stand.length:=q3.len.trans (q2.len.trans q1.len)
 have s0:seen (Ni (Nq 1 Nl (Nq 0 Nl d).1).1).1 0=Nl:=by
  have e1:(Nq 1 Nl (Nq 0 Nl d).1).1=aL (Nq 0 Nl d).1 1 Nl:=by
   show NG _ _ _=_
   unfold NG
   rw[if_pos ⟨by unfold N7;rw[q1.quiet.down,if_neg (by simp),if_neg (by rw[q1.len];omega)],hz⟩]
   rfl
  have e2:(Nq 0 Nl d).1=aL d 0 Nl:=by
   show NG _ _ _=_
   unfold NG
   rw[if_pos ⟨by unfold N7;rw[h.down,if_neg (by simp),if_neg (by omega)],hz⟩]
   rfl
  have e3:(Ni (Nq 1 Nl (Nq 0 Nl d).1).1).1=fq (dK (Nq 1 Nl (Nq 0 Nl d).1).1) (fun _=>true):=by
   show bL _=_
   unfold bL
   rw[if_neg (by rw[q2.quiet.down];simp),if_neg (by have:=q2.quiet.fuse;omega)]
  rw[e3,rJ _ 0 (by show 0<(Nq 1 Nl (Nq 0 Nl d).1).1.stand.length;rw[q2.len,q1.len];omega)]
  show seen (Nq 1 Nl (Nq 0 Nl d).1).1 0=Nl
  rw[e1,gE,if_neg (by decide),e2,gE,if_pos rfl]
 have e:cz j d=if(Nq 0 Nl d).2=0 then(if(Nq 1 Nl (Nq 0 Nl d).1).2=0 then(if(Ni (Nq 1 Nl (Nq 0 Nl d).1).1).2=0 then ah [aE (bW d.stand.length j)] (Ni (Nq 1 Nl (Nq 0 Nl d).1).1).1 else Ni (Nq 1 Nl (Nq 0 Nl d).1).1)else Nq 1 Nl (Nq 0 Nl d).1)else Nq 0 Nl d:=rfl
 rw[if_pos c1,if_pos c2,if_pos c3,oQ]at e
 rw[e]
 have hQ:=q3.quiet
 generalize (Ni (Nq 1 Nl (Nq 0 Nl d).1).1).1=E at*
 have S4:(bW d.stand.length j).sector.length=128:=dG (bW d.stand.length j) (by show 0<=16;omega)
 obtain⟨l1,l2,l3,_⟩:=uK (⟨rfl,rfl,hQ.down,hQ⟩:gX E E) w3 (by omega) (bW d.stand.length j) S4
 have q4:=(j8 (P:=fun _=>False) (bW d.stand.length j) (fun k hk=>hk.elim) hQ).1
 generalize (aE (bW d.stand.length j) E).1=D at*
 have hl:D.stand.length=d.stand.length:=q4.len.trans hlen
 have N8:D.stand=E.stand.set 1 (bW d.stand.length j).sector:=l3
 have r0:Og D 0=Nl:=(ji q4.quiet.down 0 (by omega)).trans ((lz w3 l2 N8 0 (by decide)).trans s0)
 have r1:Og D 1=(bW d.stand.length j).sector:=(ji q4.quiet.down 1 (by omega)).trans (mJ l2 N8 (by omega))
 have hsq:(bW d.stand.length j).seq<18446744073709551616:=by show 1<18446744073709551616;decide
 have hSB:=mQ (bW d.stand.length j) hm hsq
 have aco:=jz (bW d.stand.length j) hm hsq
 have hp:iZ (Og D 0) (Og D 1)=some (bW d.stand.length j):=by
  rw[r0,r1,n9 (o:=some (bW d.stand.length j).sector) (Or.inr (Or.inr ⟨rfl,⟨hSB,by rw[aco];rfl⟩,fun hc=>CB hc.1.1⟩))]
  show some (OW _)=_
  rw[aco]
 have hld:NC D j 0=0:=by
  unfold NC aN
  rw[if_neg (by rw[if_neg (by omega)];simp),if_neg (by rw[q4.quiet.down];simp)]
 refine⟨q4.quiet.fit,q4.quiet.down,l2,hm,lO,D6,by show 1<=1000000;omega,⟨hp,by show(d.stand.length:Int)=(D.stand.length:Int);omega,⟨bI,[],?_,hld,?_,rfl⟩,?_⟩,by show D.stand.length<=8192;omega⟩
 .show(if(0:Int)=0 then some bI else _)=some bI
  rw[if_pos rfl]
 .show N9 (Oh D j 0)=some []
  unfold Oh
  rw[if_pos hld]
  rfl
 .exact DP _ _
structure yC (k:Nat) (v:VS):Prop where
 inv:qR (1+8*k) (100+1200*k) v
 well:iI v
 seq:v.s.seq<=1+k
theorem Gd (h:aF d) (h0:d.ops<=0) (hw:d.waits=[]) (h1:1<=j) (h2:4<=d.stand.length) (h3:j<=(d.stand.length:Int)-2) (h4:d.stand.length<=100) (hj:j<=30):yC 0 ⟨(cz j d).1,bW d.stand.length j,bI,false⟩:=
 ⟨(IN h h0 hw h1 h2 h3 h4 hj).mono (by omega) (by omega),Gf h h1 h2 h3 (by omega),Md _⟩
theorem zM {k:Nat} (h:yC k v) (hk:k<=100) (l:List VC) (Sp:l.length<=8) (hf:∀x∈l,x.fits):yC (k+1) (NJ v l).1:=by
 have hs:=h.seq
 obtain⟨a1,a2,a3⟩:=CO h.well h.inv.quiet h.inv.dead (by omega) (qH h.well h.inv.dead l Sp hf)
 exact⟨(BT h.inv l Sp (fun x hx=>(bP (hf x hx).2.1).1)).mono (by omega) (by omega),a1,MA a3 (by omega)⟩
def qa (l:List (List UInt8)):List Value:=l.map (fun x=>.string (bs x))
def mE (a b:List (List UInt8)) (w:World) (e:Ending) (w':World):Prop:=∃q,e=.returned (.bool q)/\(q=true↔a=b)/\aa [] w w'
theorem CT (va vb:Value) (a b:List (List UInt8)) (w:World) (ha:cj w va a.length 1 (qa a)) (hb:cj w vb b.length 1 (qa b)) (hl:a.length<=3000000):
  Calls Tryz.prog 32 #[va,vb] w (mE a b w):=by
 obtain⟨pa,ca,rfl⟩:=ha.shape
 obtain⟨pb,cb,rfl⟩:=hb.shape
 have HA:=Mb ha
 have HB:=Mb hb
 have WM:=hb.len
 by_cases Xs:a.length=b.length
 .have e0:((a.length:Int) != (b.length:Int))=false:=by simp[Xs]
  have e1:(a.length:Int)=(b.length:Int):=by omega
  clear ha hb
  go_enter Tryz.func32,Tryz.ntmps32
  go_wp2_with fail
  go_loopw [5] (fun i wr=>∃k:Nat,k<=a.length/\i=.int .i64 (k:Nat)/\(∀j (h1:j<a.length) (h2:j<b.length),j<k->a[j]=b[j])/\aa [] w wr) (fun i _=>a.length-(intOf i).toNat)
  case atStart=>exact⟨0,Mu _,rfl,fun j _ _ h=>(by omega),aa.refl _ _⟩
  case round=>
   obtain⟨k,hk,rfl,hd,hK⟩:=hrel
   by_cases Ns:k<a.length
   .have i1:(k:Int)<a.length:=by omega
    have acV:k<b.length:=by omega
    obtain⟨ba,oa,e2,hca,hba,hna,_⟩:=HA.out.at_ (by omega)
    obtain⟨bb,ob,e3,Wt,hbb,RH,_⟩:=HB.out.at_ (by omega)
    subst e2 e3
    have ga:wr.cell? ⟨ba,oa+k,none⟩=some (.string (bs (a[k]'Ns))):=(hK.cell (by exact hba) (by simp)).trans (hca k _ (by simp[qa,Ns]))
    have gb:wr.cell? ⟨bb,ob+k,none⟩=some (.string (bs (b[k]'acV))):=(hK.cell (by exact hbb) (by simp)).trans (Wt k _ (by simp[qa,acV]))
    have i2:(k:Int)<b.length:=by omega
    have HD:=Mb hd
    have NU:=Mb Ns
    have HWK:Hid (wrap64 ((k:Int)+1)=(k:Int)+1):=Mb (IntWalk.wrap64_in _ (by omega))
    clear hca Wt hba hbb hd hk
    by_cases heq:a[k]'Ns=b[k]'acV
    .obtain⟨f1,f2⟩:=jm (a[k]'Ns) (b[k]'acV) (x:=true) (by simpa using heq)
     have HEQ:=Mb heq
     clear heq
     generalize bs (a[k]'Ns)=A at*
     generalize bs (b[k]'acV)=Bx at*
     go_wp2_with fail
     go_region
     go_wp2_with fail
     go_roundw
     case rel=>
      refine⟨k+1,NU.out,by simp[HWK.out],fun j h1 h2 hj=>?_,hK.drew⟩
      by_cases Vs:j=k
      .subst Vs;exact HEQ.out
      .exact HD.out j h1 h2 (by omega)
     case measure=>(have hh:=NU.out;simp[intOf]<;>omega)
    .obtain⟨f1,f2⟩:=jm (a[k]'Ns) (b[k]'acV) (x:=false) (by simpa using heq)
     have Ul:Hid (a≠b):=Mb (fun h=>heq (by subst h;rfl))
     clear heq
     generalize bs (a[k]'Ns)=A at*
     generalize bs (b[k]'acV)=Bx at*
     go_wp2_with fail
     go_region
     go_wp2_with fail
     go_ret
     exact⟨false,rfl,⟨fun h=>(by cases h),fun h=>absurd h Ul.out⟩,hK.drew⟩
   .have i1:¬(k:Int)<a.length:=by omega
    have hq:a=b:=List.ext_getElem Xs (fun j h1 h2=>hd j h1 h2 (by omega))
    have HQ:=Mb hq
    clear hq hd
    go_wp2_with fail
    go_ret
    exact⟨true,rfl,⟨fun _=>HQ.out,fun _=>rfl⟩,hK⟩
 .have e0:((a.length:Int) != (b.length:Int))=true:=by simp;omega
  have HN:Hid (a≠b):=Mb (fun h=>Xs (by rw[h]))
  clear ha hb Xs
  go_enter Tryz.func32,Tryz.ntmps32
  go_wp2_with fail
  go_ret
  exact⟨false,rfl,⟨fun h=>(by cases h),fun h=>absurd h HN.out⟩,aa.refl _ _⟩
end Go.Proofs.YtdkimcnlhmhpgaaGreat

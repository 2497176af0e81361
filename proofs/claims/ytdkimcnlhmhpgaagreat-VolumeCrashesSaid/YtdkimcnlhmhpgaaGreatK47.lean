/- -/
import Derived.Test.YtdkimcnlhmhpgaaGreatK42
set_option maxHeartbeats 16000000
set_option maxRecDepth 100000
set_option linter.unusedSimpArgs false
namespace Go.Proofs.YtdkimcnlhmhpgaaGreat
open Go.RowKit
theorem KH {T:List Nat} (gv gr gt:Nat) (s:SB) (rv:Value) (R:List (Int×Int)) (tx:List UInt8) {w:World} {B b sb mb lo:Nat} {v:VS} (hV:ay T w B b sb mb lo v)
  (hc:∀W,PK [] b sb mb w W->W.cell? ⟨gv,0,none⟩=some (.pointer (some ⟨B,0,none⟩))/\W.cell? ⟨gr,0,none⟩=some rv/\W.cell? ⟨gt,0,none⟩=some (.string (bs tx)))
  (hr:b8 [] w b sb mb rv R) (hs:s.runs=R) (Oj:Pl 0 R) (Sv:tx.length<=1048576)
  (hm:s.may) (hq:s.seq<18446744073709551616) (ho:v.d.ops<=60000) (hw:v.d.waits.length<=1800) (hn:v.d.stand.length<=5000) (W:World) (k:aa [] w W) (n gS gD:Nat) (R9:w.heap.size<=n) (hS:w.heap.size<=gS) (hDD:w.heap.size<=gD)
  (on:ae W n #[.func (.func 114) #[] #[.pointer (some ⟨gv,0,none⟩),.pointer (some ⟨gr,0,none⟩),.pointer (some ⟨gt,0,none⟩)],.func (.func 39) #[.pointer (some ⟨b,0,none⟩)] #[],.func (.func 92) #[] #[.pointer (some ⟨gS,0,none⟩),.pointer (some ⟨gD,0,none⟩)]] 42)
  (oS:ae W gS (s.cells rv) 58) (od:ae W gD #[.pointer (some ⟨b,0,none⟩)] 23):
  Calls Tryz.prog 37 #[.slice (some ⟨n,0,none⟩) 3 3] W fun e w'=>e=.returned (.int .i64 (ah [fun d=>NF d R tx,Ni,aE s] v.d).2)/\DA w' b sb mb lo (ah [fun d=>NF d R tx,Ni,aE s] v.d).1/\PK [] b sb mb W w':=by
 have hDW:=hV.da.aJ k
 have aaq:=k.bM (T:=[]) (sb:=sb) (mb:=mb) hV.da.aQ
 have f0:aW [] W b sb mb n:=hV.da.bh (fun x hx=>by cases hx) k R9
 have fS:aW [] W b sb mb gS:=hV.da.bh (fun x hx=>by cases hx) k hS
 have fD:aW [] W b sb mb gD:=hV.da.bh (fun x hx=>by cases hx) k hDD
 have hrW:=hr.pk aaq
 refine wG [fun d=>NF d R tx,Ni,aE s] [(114,#[],#[.pointer (some ⟨gv,0,none⟩),.pointer (some ⟨gr,0,none⟩),.pointer (some ⟨gt,0,none⟩)]),(39,#[.pointer (some ⟨b,0,none⟩)],#[]),(92,#[],#[.pointer (some ⟨gS,0,none⟩),.pointer (some ⟨gD,0,none⟩)])] rfl n 0 3 hDW (by simp) (fun k h=>?_) on.lt f0 (fun k h=>?_) (fun j h W' hW' hk _=>?_)
 .match k,h with
  |0,_=>exact enters_of Tryz.func114 (by kernel_rfl) rfl
  |1,_=>exact enters_of Tryz.func39 (by kernel_rfl) rfl
  |2,_=>exact enters_of Tryz.func92 (by kernel_rfl) rfl
 .match k,h with
  |0,_=>exact on.cell 0 (by simp)
  |1,_=>exact on.cell 1 (by simp)
  |2,_=>exact on.cell 2 (by simp)
 .have e1:=yb v.d R tx
  have e2:=jR (NF v.d R tx).1
  have e1o:=e1.ops
  have e1w:=e1.waits
  have e2o:=e2.ops
  have e2w:=e2.waits
  match j,h with
  |0,_=>
   have hV':ay T W' B b sb mb lo v:=hV.pk (aaq.trans hk) hW' (fun x hx=>by cases hx) (by simp)
   obtain⟨⟨l1,h1,hR⟩,_⟩:=hrW.pk hk
   have:=(CR gv gr gt rv R tx hV' (fun W'' k2=>hc W'' ((aaq.trans hk).trans k2)) hR (by have:=Oj.gV;omega) (fY Oj) Sv (by omega) hw)
   exact this.mono fun e w' ⟨a1,a2,a3⟩=>⟨a1,a2.da,a3⟩
  |1,_=>exact pF hW' (by show(NF v.d R tx).1.ops<_;omega) (by show(NF v.d R tx).1.waits.length<=_;omega)
  |2,_=>
   have:=wZ (T:=[]) gS gD s rv hW' (fun x hx=>by cases hx) (hk.own oS fS) (hk.own od fD) (by rw[hs];exact hrW.pk hk) hm hq (fS.pk hk oS.lt) (fD.pk hk od.lt) (by show(Ni (NF v.d R tx).1).1.ops<=_;omega) (by show(Ni (NF v.d R tx).1).1.waits.length<=_;omega)
   exact this
theorem wX {T:List Nat} (gv gt gr gc:Nat) (c:aj) (cb cm cn:Value) (s:List UInt8) (rv:Value) (R:List (Int×Int)) {w:World} {B b sb mb lo:Nat} {v:VS} (hV:ay T w B b sb mb lo v)
  (hc:∀W,PK [B] b sb mb w W->W.cell? ⟨gv,0,none⟩=some (.pointer (some ⟨B,0,none⟩))/\W.cell? ⟨gt,0,none⟩=some (.string (bs s))/\W.cell? ⟨gr,0,none⟩=some rv/\W.cell? ⟨gc,0,none⟩=some (.int .u32 c.nextBox)/\W.cell? ⟨gc,1,none⟩=some (.int .u32 c.nextMan)/\W.cell? ⟨gc,2,none⟩=some cb/\W.cell? ⟨gc,3,none⟩=some cm/\W.cell? ⟨gc,4,none⟩=some cn)
  (N5:cO T w b sb mb (.agg #[.int .u32 c.nextBox,.int .u32 c.nextMan,cb,cm,cn]) c) (NT:b8 T w b sb mb rv R) (Oj:Pl 0 R) (hmb:(bZ v.s s.length R).may) (hm:v.s.may)
  (hq:v.s.seq<=1000000) (hs:s.length<=1048576) (ho:v.d.ops<=50000) (hw:v.d.waits.length<=1800) (hn:v.d.stand.length<=5000):
  Calls Tryz.prog 113 #[.pointer (some ⟨gv,0,none⟩),.pointer (some ⟨gt,0,none⟩),.pointer (some ⟨gr,0,none⟩),.pointer (some ⟨gc,0,none⟩)] w fun e w'=>e=.returned (.int .i64 (NO c s R v).2)/\ay T w' B b sb mb lo (NO c s R v).1/\PK [B] b sb mb w w':=by
 have Rn:=hm.1
 obtain⟨⟨q1,m1,d1,rfl⟩,⟨q2,m2,d2,rfl⟩,⟨q3,m3,d3,rfl⟩⟩:=cO.nc N5
 obtain⟨sv,vb,vm,vn,o,hr,hcat0⟩:=hV.vol
 obtain⟨x0,x1,x2,x3,x4,x5,x6,x7,x8,x9,x10,x11,x12⟩:=o.jC
 obtain⟨⟨OD,On,hrun0⟩,ON⟩:=hr
 have HN:Hid (∀W,aa [] w W->Calls Tryz.prog 108 #[.agg (v.s.cells sv)] W fun e w'=>(∃v',e=.returned (.agg (SB.cells {v.s with seq:=v.s.seq+1} v'))/\af w' v' v.s.runs W.heap.size w'.heap.size)/\aa [] W w'):=Mb (fun W k=>GU v.s sv OD On W (hrun0.kept0 k) (by have:=Rn;unfold SB.eF at this;omega) (by omega))
 unfold SB.cells at HN
 simp only at HN
 obtain⟨q9,VB⟩:∃q:Int,((v.s.seq+1:Nat):Int)=q:=⟨_,rfl⟩
 rw[VB]at HN
 clear x7 x8 x9 x10 x11 x12
 obtain⟨y0,y1,yr,y2,y3,y4,y5,y6⟩:=hc w (PK.refl _ _ _ _ _)
 obtain⟨p1,c1,rfl⟩:=hrun0.shape
 obtain⟨⟨lor,hir,OQ⟩,hroff⟩:=NT
 obtain⟨pr,cr,rfl⟩:=OQ.shape
 have HBS:Hid (SB.cells (bZ v.s s.length R) (.slice pr R.length cr)=#[.int .u64 q9,.int .i64 v.s.sectors,.int .i64 v.s.journal,.int .i64 0,.int .i64 (s.length:Int),.slice pr R.length cr]):=Mb (by unfold SB.cells bZ;simp only;rw[VB])
 have HQ9:=Mb VB
 have HQ:=Mb hq
 have YR:=Mb OQ
 have abz:=Mb hroff
 have HV:=Mb hV
 have HC:=Mb hc
 have Qw:=Mb N5
 have Yy:=Mb hmb
 have Rw:=Mb Oj
 have OG:Hid (v.d.ops<=50000/\v.d.waits.length<=1800/\v.d.stand.length<=5000/\s.length<=1048576):=Mb ⟨ho,hw,hn,hs⟩
 have Zs:∀W,PK [] b sb mb w W->W.cell? ⟨B,0,none⟩=some (.pointer (some ⟨b,0,none⟩)):=fun W k=>(k.own o ⟨by simp,hV.off.2⟩).cell 0 (by simp[bf])
 have UN:=Mb Zs
 have HX:Hid (NO c s R v=if(ah [fun d=>NF d R s,Ni,aE (bZ v.s s.length R)] v.d).2=0 then(⟨(ah [fun d=>NF d R s,Ni,aE (bZ v.s s.length R)] v.d).1,bZ v.s s.length R,c,v.dead⟩,0)else(⟨(ah [fun d=>NF d R s,Ni,aE (bZ v.s s.length R)] v.d).1,v.s,v.c,v.dead⟩,(ah [fun d=>NF d R s,Ni,aE (bZ v.s s.length R)] v.d).2)):=Mb rfl
 have Px:(bs s).size=s.length:=Nj s
 have adS:(s.length:Int)<=1048576:=by omega
 clear hrun0 ON hcat0 o VB hq OQ hroff hV hc N5 hmb Oj hm ho hw hn hs Rn Zs
 go_enter Tryz.func113,Tryz.ntmps113
 go_wp2_with fail
 refine(HN.out _ (aa.refl _ _)).mono ?_;rintro e w2 ⟨⟨v',rfl,QU⟩,k2⟩
 obtain⟨p2,c2,rfl⟩:=QU.shape
 have PE:aa [] w (w2.alloc (.cells #[.int .u64 q9,.int .i64 v.s.sectors,.int .i64 v.s.journal,.int .i64 v.s.used,.int .i64 v.s.size,.slice p2 v.s.runs.length c2] 58)):=k2.alloc _
 have oS3:=ae.new w2 #[.int .u64 q9,.int .i64 v.s.sectors,.int .i64 v.s.journal,.int .i64 v.s.used,.int .i64 v.s.size,.slice p2 v.s.runs.length c2] 58
 have ZO:w.heap.size<=w2.heap.size:=k2.size
 have K3:=Mb PE
 have Ss:=Mb oS3
 have HGS:=Mb ZO
 clear QU k2 PE oS3 ZO HN
 go_upto_region 2 with fail
 generalize w2.heap.size=gS at*
 generalize w2.alloc (.cells #[.int .u64 q9,.int .i64 v.s.sectors,.int .i64 v.s.journal,.int .i64 v.s.used,.int .i64 v.s.size,.slice p2 v.s.runs.length c2] 58)=w3 at*
 have HB:Hid (b<w.heap.size):=Mb HV.out.aQ
 have Sz:aW T w3 b sb mb gS:=HV.out.da.bh HV.out.hT K3.out HGS.out
 have P3:=Mb Sz
 have HB3:Hid (b<w3.heap.size):=Mb (Mo HB.out K3.out.size)
 have Vg:b∉[gS]:=by simp only[MB];exact fun e=>Sz.2.1 e.symm
 have aaz:=Mb Vg
 have HPK:Hid (∀W,aa [gS] w3 W->PK [] b sb mb w W):=Mb (fun W k=>(K3.out.bM HB.out).Cl k HB.out (fun x hx=>by
  obtain rfl:x=gS:=by simpa using hx
  exact Or.inr HGS.out) aaz.out)
 have Se:Hid (∀W,aa [gS] w3 W->W.cell? ⟨gt,0,none⟩=some (.string (bs s))/\W.cell? ⟨gr,0,none⟩=some (.slice pr R.length cr)):=Mb (fun W k=>by
  obtain⟨_,c2,c3,_⟩:=HC.out W ((HPK.out W k).mono (by simp))
  exact⟨c2,c3⟩)
 clear Sz Vg x0 x1 x2 x3 x4 x5 x6 y0 y1 yr y2 y3 y4 y5 y6
 obtain⟨y1,y2⟩:=Se.out w3 (aa.refl _ _)
 obtain⟨s0,s1,s2,s3,s4,s5⟩:=Ss.out.c6
 have f3:=Ss.out.free 3
 have f4:=Ss.out.free 4
 have f5:=Ss.out.free 5
 refine Ml (S:=(fun W=>W.cell? ⟨gt,0,none⟩=some (.string (bs s))/\W.cell? ⟨gr,0,none⟩=some (.slice pr R.length cr))) (by kernel_rfl) (by exact Se.out _ ((aa.refl [gS] w3).drew)) (fun hHeld=>?_)
 refine tk 0 12 ?_
 refine tk 1 13 ?_
 refine tk 2 14 ?_
 refine tk 3 15 ?_
 refine rd 4 (fun K hK=>?_)
 go_simp
 refine hK.out _ _ ?_ (fun hHeld=>nm ?_)
 .exact Se.out _ ((aa.refl [gS] w3).setCell (p:=⟨gS,3,none⟩) (Or.inl Mg) (.int .i64 0)).drew
 clear hK K
 refine tk 5 16 ?_
 refine rd 6 (fun K hK=>?_)
 go_simp
 refine hK.out _ _ ?_ (fun hHeld=>nm ?_)
 .exact Se.out _ (((aa.refl [gS] w3).setCell (p:=⟨gS,3,none⟩) (Or.inl Mg) (.int .i64 0)).setCell (p:=⟨gS,4,none⟩) (Or.inl Mg) (.int .i64 (s.length:Int))).drew
 clear hK K
 refine tk 7 17 ?_
 refine rd 8 (fun K hK=>?_)
 go_simp
 refine hK.out _ _ ?_ (fun hHeld=>nm ?_)
 .exact Se.out _ ((((aa.refl [gS] w3).setCell (p:=⟨gS,3,none⟩) (Or.inl Mg) (.int .i64 0)).setCell (p:=⟨gS,4,none⟩) (Or.inl Mg) (.int .i64 (s.length:Int))).setCell (p:=⟨gS,5,none⟩) (Or.inl Mg) (.slice pr R.length cr)).drew
 clear hK K
 refine MM (by kernel_rfl) ?_ _
 try simp only[List.set_cons_succ,List.set_cons_zero]
 have oS5:ae ((((w3.setCell ⟨gS,3,none⟩ (.int .i64 0)).setCell ⟨gS,4,none⟩ (.int .i64 (s.length:Int))).setCell ⟨gS,5,none⟩ (.slice pr R.length cr))).drew gS #[.int .u64 q9,.int .i64 v.s.sectors,.int .i64 v.s.journal,.int .i64 0,.int .i64 (s.length:Int),.slice pr R.length cr] 58:=(((Ss.out.set 3 _).set 4 _).set 5 _).drew
 have k35:aa [gS] w3 ((((w3.setCell ⟨gS,3,none⟩ (.int .i64 0)).setCell ⟨gS,4,none⟩ (.int .i64 (s.length:Int))).setCell ⟨gS,5,none⟩ (.slice pr R.length cr))).drew:=((((aa.refl [gS] w3).setCell (p:=⟨gS,3,none⟩) (Or.inl Mg) (.int .i64 0)).setCell (p:=⟨gS,4,none⟩) (Or.inl Mg) (.int .i64 (s.length:Int))).setCell (p:=⟨gS,5,none⟩) (Or.inl Mg) (.slice pr R.length cr)).drew
 generalize ((((w3.setCell ⟨gS,3,none⟩ (.int .i64 0)).setCell ⟨gS,4,none⟩ (.int .i64 (s.length:Int))).setCell ⟨gS,5,none⟩ (.slice pr R.length cr))).drew=w5 at*
 have Wq:aW [] w3 b sb mb gS:=⟨by simp,P3.out.2⟩
 have aac:DA w5 b sb mb lo v.d:=⟨(HV.out.da.aJ K3.out).disk.G6 k35 Wq Ss.out (by decide),(HV.out.da).fit⟩
 have Uf:PK [] b sb mb w w5:=HPK.out w5 k35
 have hV5:ay T w5 B b sb mb lo v:=HV.out.pk Uf aac (fun x hx=>by cases hx) (by simp)
 have XW:=YR.out.kept0 K3.out
 have aai:b8 T w5 b sb mb (.slice pr R.length cr) R:=by
  have h3:b8 T w3 b sb mb (.slice pr R.length cr) R:=b8.kept0 ⟨⟨_,_,YR.out⟩,abz.out⟩ K3.out HB.out
  refine⟨?_,by rw[SD.GZ k35 HB3.out aaz.out];exact h3.2⟩
  rcases YR.out with h|⟨b1,o1,c1',e1,g2,g3,g4,g5,g6⟩
  .exact⟨0,0,Or.inl h⟩
  .refine⟨lor,hir,XW.kept k35 (fun x hx=>?_)⟩
   obtain rfl:x=gS:=by simpa using hx
   exact Or.inr (MA g5 HGS.out)
 have RJ:aW T w5 b sb mb gS:=⟨P3.out.1,P3.out.2.1,P3.out.2.2.1,P3.out.2.2.2.1,fun hx=>P3.out.2.2.2.2 ((WB.gz (k35.cell (a:=⟨b,1,none⟩) HB3.out aaz.out)).1 hx)⟩
 have SP:=Mb RJ
 have Ym:=Mb oS5
 have K05:=Mb Uf
 have HV5:=Mb hV5
 have aaH:=Mb aai
 have Yb:Hid (b<w5.heap.size):=Mb aac.aQ
 have OL:=KH gv gr gt (bZ v.s s.length R) (.slice pr R.length cr) R s hV5 (fun W k=>by
  obtain⟨c1,c2,c3,_⟩:=HC.out W ((Uf.trans k).mono (by simp))
  exact⟨c1,c3,c2⟩) (aai.mono (by simp)) rfl Rw.out OG.out.2.2.2 Yy.out (by show v.s.seq+1<_;have:=HQ.out;omega) (by have:=OG.out.1;omega) OG.out.2.1 OG.out.2.2.1
 have hl:=Ba b (bZ v.s s.length R) (.slice pr R.length cr)
 rw[HBS.out]at OL hl
 have QL:=Mb OL
 have HL:=Mb hl
 have Wy:Hid (∀W,PK [] b sb mb w5 W->W.cell? ⟨gv,0,none⟩=some (.pointer (some ⟨B,0,none⟩))/\W.cell? ⟨B,0,none⟩=some (.pointer (some ⟨b,0,none⟩))/\W.cell? ⟨gS,0,none⟩=some (.int .u64 q9)/\W.cell? ⟨gS,1,none⟩=some (.int .i64 v.s.sectors)/\W.cell? ⟨gS,2,none⟩=some (.int .i64 v.s.journal)/\W.cell? ⟨gS,3,none⟩=some (.int .i64 0)/\W.cell? ⟨gS,4,none⟩=some (.int .i64 (s.length:Int))/\W.cell? ⟨gS,5,none⟩=some (.slice pr R.length cr)):=Mb (fun W k=>by
  have kk:=K05.out.trans k
  obtain⟨c1,_⟩:=HC.out W (kk.mono (by simp))
  obtain⟨e0,e1,e2,e3,e4,e5⟩:=(k.own Ym.out ⟨by simp,SP.out.2⟩).c6
  exact⟨c1,UN.out W kk,e0,e1,e2,e3,e4,e5⟩)
 clear oS5 k35 Wq aac Uf hV5 XW aai RJ OL hl y1 y2 s0 s1 s2 s3 s4 s5 f3 f4 f5
 obtain⟨y0,y1,y2,y3,y4,y5,y6,y7⟩:=Wy.out w5 (PK.refl _ _ _ _ _)
 generalize hCC:ah [fun d=>NF d R s,Ni,aE (bZ v.s s.length R)] v.d=CC at*
 clear hCC
 go_upto_region 3 with fail
 go_cut [6]from 12 to 31 (fun v6 wx=>v6=.int .i64 CC.2/\DA wx b sb mb lo CC.1/\PK [] b sb mb w5 wx)
 case first=>
  refine Ml (S:=(fun W=>W.cell? ⟨gv,0,none⟩=some (.pointer (some ⟨B,0,none⟩))/\W.cell? ⟨B,0,none⟩=some (.pointer (some ⟨b,0,none⟩))/\W.cell? ⟨gS,0,none⟩=some (.int .u64 q9)/\W.cell? ⟨gS,1,none⟩=some (.int .i64 v.s.sectors)/\W.cell? ⟨gS,2,none⟩=some (.int .i64 v.s.journal)/\W.cell? ⟨gS,3,none⟩=some (.int .i64 0)/\W.cell? ⟨gS,4,none⟩=some (.int .i64 (s.length:Int))/\W.cell? ⟨gS,5,none⟩=some (.slice pr R.length cr))) (by kernel_rfl) (by exact Wy.out _ ((aa.refl [] w5).drew.bM Yb.out)) (fun hHeld=>?_)
  refine tk 0 18 ?_
  refine tk 1 19 ?_
  refine tk 2 20 ?_
  refine tk 3 21 ?_
  refine tk 4 22 ?_
  refine tk 5 23 ?_
  refine tk 6 24 ?_
  refine tk 7 25 ?_
  refine tk 8 26 ?_
  refine tk 9 27 ?_
  refine tk 10 28 ?_
  refine rd 11 (fun K hK=>?_)
  go_simp
  ((with_reducible refine(HL.out _).mono ?_));rintro e w6 ⟨rfl,rfl⟩
  go_wp2_with fail
  refine hK.out _ _ ?_ (fun hHeld=>nm ?_)
  .exact Wy.out _ ((((aa.refl [] w5).alloc (.cells #[.pointer (some ⟨b,0,none⟩)] 23)).alloc (.cells #[.int .u64 q9,.int .i64 v.s.sectors,.int .i64 v.s.journal,.int .i64 0,.int .i64 (s.length:Int),.slice pr R.length cr] 58)).drew.bM Yb.out)
  clear hK K
  refine rd 12 (fun K hK=>?_)
  go_simp
  refine hK.out _ _ ?_ (fun hHeld=>nm ?_)
  .exact Wy.out _ (((((aa.refl [] w5).alloc (.cells #[.pointer (some ⟨b,0,none⟩)] 23)).alloc (.cells #[.int .u64 q9,.int .i64 v.s.sectors,.int .i64 v.s.journal,.int .i64 0,.int .i64 (s.length:Int),.slice pr R.length cr] 58)).alloc (.cells #[.func (.func 114) #[] #[.pointer (some ⟨gv,0,none⟩),.pointer (some ⟨gr,0,none⟩),.pointer (some ⟨gt,0,none⟩)],.func (.func 39) #[.pointer (some ⟨b,0,none⟩)] #[],.func (.func 92) #[] #[.pointer (some ⟨w5.heap.size+1,0,none⟩),.pointer (some ⟨w5.heap.size,0,none⟩)]] 42)).drew.bM Yb.out)
  clear hK K
  obtain⟨o1,o2,o3⟩:=j9 w5 #[.pointer (some ⟨b,0,none⟩)] #[.int .u64 q9,.int .i64 v.s.sectors,.int .i64 v.s.journal,.int .i64 0,.int .i64 (s.length:Int),.slice pr R.length cr] #[.func (.func 114) #[] #[.pointer (some ⟨gv,0,none⟩),.pointer (some ⟨gr,0,none⟩),.pointer (some ⟨gt,0,none⟩)],.func (.func 39) #[.pointer (some ⟨b,0,none⟩)] #[],.func (.func 92) #[] #[.pointer (some ⟨w5.heap.size+1,0,none⟩),.pointer (some ⟨w5.heap.size,0,none⟩)]] 23 58 42
  refine rd 13 (fun K hK=>?_)
  go_simp
  ((with_reducible refine(QL.out _ (((((aa.refl [] w5).alloc (.cells #[.pointer (some ⟨b,0,none⟩)] 23)).alloc (.cells #[.int .u64 q9,.int .i64 v.s.sectors,.int .i64 v.s.journal,.int .i64 0,.int .i64 (s.length:Int),.slice pr R.length cr] 58)).alloc (.cells #[.func (.func 114) #[] #[.pointer (some ⟨gv,0,none⟩),.pointer (some ⟨gr,0,none⟩),.pointer (some ⟨gt,0,none⟩)],.func (.func 39) #[.pointer (some ⟨b,0,none⟩)] #[],.func (.func 92) #[] #[.pointer (some ⟨w5.heap.size+1,0,none⟩),.pointer (some ⟨w5.heap.size,0,none⟩)]] 42)).drew) _ (w5.heap.size+1) w5.heap.size (by omega) (by omega) (by omega) o3.drew o2.drew o1.drew).mono ?_));rintro e w7 ⟨rfl,hD7,k7⟩
  have kk:=((((((aa.refl [] w5).alloc (.cells #[.pointer (some ⟨b,0,none⟩)] 23)).alloc (.cells #[.int .u64 q9,.int .i64 v.s.sectors,.int .i64 v.s.journal,.int .i64 0,.int .i64 (s.length:Int),.slice pr R.length cr] 58)).alloc (.cells #[.func (.func 114) #[] #[.pointer (some ⟨gv,0,none⟩),.pointer (some ⟨gr,0,none⟩),.pointer (some ⟨gt,0,none⟩)],.func (.func 39) #[.pointer (some ⟨b,0,none⟩)] #[],.func (.func 92) #[] #[.pointer (some ⟨w5.heap.size+1,0,none⟩),.pointer (some ⟨w5.heap.size,0,none⟩)]] 42)).drew).bM (T:=[]) (sb:=sb) (mb:=mb) Yb.out).trans k7
  have KK:=Mb kk
  have HD7:=Mb hD7
  clear hD7 kk k7 o1 o2 o3
  go_wp2_with fail
  refine hK.out _ _ ?_ (fun hHeld=>nm ?_)
  .exact Wy.out _ KK.out
  clear hK K
  refine tk 14 6 ?_
  exact M77
 case rest=>
  obtain⟨rfl,hD7,k7⟩:=hcut
  rename World=>w7
  have Uq:PK [] b sb mb w w7:=K05.out.trans k7
  have HD7:=Mb hD7
  have K07:=Mb Uq
  have K57:=Mb k7
  have YI:ay T w7 B b sb mb lo ⟨CC.1,v.s,v.c,v.dead⟩:=HV.out.pk Uq hD7 (fun x hx=>by cases hx) (by simp)
  have TN:=Mb YI
  clear hD7 Uq k7 YI y0 y1 y2 y3 y4 y5 y6 y7 QL HL
  by_cases hC:CC.2=0
  .have e1:(CC.2==0)=true:=by rw[hC];rfl
   have VN:=HX.out
   rw[if_pos hC]at VN
   have HX3:=Mb VN
   have HCZ:=Mb hC
   have hS7:∀W,PK [B] b sb mb w7 W->W.cell? ⟨gv,0,none⟩=some (.pointer (some ⟨B,0,none⟩))/\W.cell? ⟨gc,0,none⟩=some (.int .u32 c.nextBox)/\W.cell? ⟨gc,1,none⟩=some (.int .u32 c.nextMan)/\W.cell? ⟨gc,2,none⟩=some (.slice q1 m1 d1)/\W.cell? ⟨gc,3,none⟩=some (.slice q2 m2 d2)/\W.cell? ⟨gc,4,none⟩=some (.slice q3 m3 d3)/\W.cell? ⟨gS,0,none⟩=some (.int .u64 q9)/\W.cell? ⟨gS,1,none⟩=some (.int .i64 v.s.sectors)/\W.cell? ⟨gS,2,none⟩=some (.int .i64 v.s.journal)/\W.cell? ⟨gS,3,none⟩=some (.int .i64 0)/\W.cell? ⟨gS,4,none⟩=some (.int .i64 (s.length:Int))/\W.cell? ⟨gS,5,none⟩=some (.slice pr R.length cr):=fun W k=>by
    have kk:=(K07.out.mono (T:=[B]) (by simp)).trans k
    obtain⟨c1,_,_,d0,d1,d2,d3,d4⟩:=HC.out W kk
    exact M64
   have HS7:=Mb hS7
   have VV:=Mb (Qw.out.pk (K07.out.mono (T:=T) (by simp)))
   have HR7:=Mb (aaH.out.pk (K57.out.mono (T:=T) (by simp)))
   obtain⟨sv7,vb7,vm7,vn7,o7,_,_⟩:=TN.out.vol
   unfold bf at o7
   have O7:=Mb o7
   obtain⟨y0,y1,y2,y3,y4,y5,y6,y7,y8,y9,y10,y11⟩:=hS7 w7 (PK.refl _ _ _ _ _)
   clear hS7 o7 hC VN
   go_upto_region 5 with fail
   refine Ml (S:=(fun W=>W.cell? ⟨gv,0,none⟩=some (.pointer (some ⟨B,0,none⟩))/\W.cell? ⟨gc,0,none⟩=some (.int .u32 c.nextBox)/\W.cell? ⟨gc,1,none⟩=some (.int .u32 c.nextMan)/\W.cell? ⟨gc,2,none⟩=some (.slice q1 m1 d1)/\W.cell? ⟨gc,3,none⟩=some (.slice q2 m2 d2)/\W.cell? ⟨gc,4,none⟩=some (.slice q3 m3 d3)/\W.cell? ⟨gS,0,none⟩=some (.int .u64 q9)/\W.cell? ⟨gS,1,none⟩=some (.int .i64 v.s.sectors)/\W.cell? ⟨gS,2,none⟩=some (.int .i64 v.s.journal)/\W.cell? ⟨gS,3,none⟩=some (.int .i64 0)/\W.cell? ⟨gS,4,none⟩=some (.int .i64 (s.length:Int))/\W.cell? ⟨gS,5,none⟩=some (.slice pr R.length cr))) (by kernel_rfl) (by exact HS7.out _ (TN.out.jO (aa.refl [B] w7).drew)) (fun hHeld=>?_)
   refine tk 0 34 ?_
   refine tk 1 35 ?_
   refine tk 2 36 ?_
   refine tk 3 37 ?_
   refine tk 4 38 ?_
   refine tk 5 39 ?_
   have o8:=O7.out.drew.JR (.int .u32 c.nextBox) (.int .u32 c.nextMan) (.slice q1 m1 d1) (.slice q2 m2 d2) (.slice q3 m3 d3)
   have k8:aa [B] w7 (((((w7.drew.setCell ⟨B,7,none⟩ (.int .u32 c.nextBox)).setCell ⟨B,8,none⟩ (.int .u32 c.nextMan)).setCell ⟨B,9,none⟩ (.slice q1 m1 d1)).setCell ⟨B,10,none⟩ (.slice q2 m2 d2)).setCell ⟨B,11,none⟩ (.slice q3 m3 d3)):=(((((((aa.refl [B] w7).drew).setCell (p:=⟨B,7,none⟩) (Or.inl Mg) (.int .u32 c.nextBox)).setCell (p:=⟨B,8,none⟩) (Or.inl Mg) (.int .u32 c.nextMan)).setCell (p:=⟨B,9,none⟩) (Or.inl Mg) (.slice q1 m1 d1)).setCell (p:=⟨B,10,none⟩) (Or.inl Mg) (.slice q2 m2 d2)).setCell (p:=⟨B,11,none⟩) (Or.inl Mg) (.slice q3 m3 d3))
   refine rd 6 (fun K hK=>?_)
   refine ee rfl 52 _ _ rfl B 7 #[.int .u32 c.nextBox,.int .u32 c.nextMan,.slice q1 m1 d1,.slice q2 m2 d2,.slice q3 m3 d3] (by simp[Act.eval,Act.put]) (by simp[Act.eval,Act.put]) (O7.out.drew.there 7 5 (by simp)) (by kernel_rfl) (all_oneCell_toArray (cs:=[.int .u32 c.nextBox,.int .u32 c.nextMan,.slice q1 m1 d1,.slice q2 m2 d2,.slice q3 m3 d3]) (by intro u hu;simp at hu;rcases hu with rfl|rfl|rfl|rfl|rfl<;>rfl)) ?_
   rw[pO]
   generalize (((((w7.drew.setCell ⟨B,7,none⟩ (.int .u32 c.nextBox)).setCell ⟨B,8,none⟩ (.int .u32 c.nextMan)).setCell ⟨B,9,none⟩ (.slice q1 m1 d1)).setCell ⟨B,10,none⟩ (.slice q2 m2 d2)).setCell ⟨B,11,none⟩ (.slice q3 m3 d3))=w8 at*
   have O8:=Mb o8
   have K8:=Mb k8
   clear o8 k8
   refine hK.out _ _ ?_ (fun hHeld=>nm ?_)
   .exact HS7.out w8 (TN.out.jO K8.out)
   clear hK K
   refine tk 7 40 ?_
   refine tk 8 41 ?_
   have o9:=O8.out.JM (.int .u64 q9) (.int .i64 v.s.sectors) (.int .i64 v.s.journal) (.int .i64 0) (.int .i64 (s.length:Int)) (.slice pr R.length cr)
   have k9:aa [B] w7 ((((((w8.setCell ⟨B,1,none⟩ (.int .u64 q9)).setCell ⟨B,2,none⟩ (.int .i64 v.s.sectors)).setCell ⟨B,3,none⟩ (.int .i64 v.s.journal)).setCell ⟨B,4,none⟩ (.int .i64 0)).setCell ⟨B,5,none⟩ (.int .i64 (s.length:Int))).setCell ⟨B,6,none⟩ (.slice pr R.length cr)):=((((((K8.out.setCell (p:=⟨B,1,none⟩) (Or.inl Mg) (.int .u64 q9)).setCell (p:=⟨B,2,none⟩) (Or.inl Mg) (.int .i64 v.s.sectors)).setCell (p:=⟨B,3,none⟩) (Or.inl Mg) (.int .i64 v.s.journal)).setCell (p:=⟨B,4,none⟩) (Or.inl Mg) (.int .i64 0)).setCell (p:=⟨B,5,none⟩) (Or.inl Mg) (.int .i64 (s.length:Int))).setCell (p:=⟨B,6,none⟩) (Or.inl Mg) (.slice pr R.length cr))
   refine rd 9 (fun K hK=>?_)
   refine ee rfl 58 _ _ rfl B 1 #[.int .u64 q9,.int .i64 v.s.sectors,.int .i64 v.s.journal,.int .i64 0,.int .i64 (s.length:Int),.slice pr R.length cr] (by simp[Act.eval,Act.put]) (by simp[Act.eval,Act.put]) (O8.out.there 1 6 (by simp)) (by kernel_rfl) (all_oneCell_toArray (cs:=[.int .u64 q9,.int .i64 v.s.sectors,.int .i64 v.s.journal,.int .i64 0,.int .i64 (s.length:Int),.slice pr R.length cr]) (by intro u hu;simp at hu;rcases hu with rfl|rfl|rfl|rfl|rfl|rfl<;>rfl)) ?_
   rw[pN]
   generalize ((((((w8.setCell ⟨B,1,none⟩ (.int .u64 q9)).setCell ⟨B,2,none⟩ (.int .i64 v.s.sectors)).setCell ⟨B,3,none⟩ (.int .i64 v.s.journal)).setCell ⟨B,4,none⟩ (.int .i64 0)).setCell ⟨B,5,none⟩ (.int .i64 (s.length:Int))).setCell ⟨B,6,none⟩ (.slice pr R.length cr))=w9 at*
   have O9:=Mb o9
   have K9:=Mb k9
   clear o9 k9
   refine hK.out _ _ ?_ (fun hHeld=>nm ?_)
   .exact HS7.out w9 (TN.out.jO K9.out)
   clear hK K
   have hv9:ay T w9 B b sb mb lo ⟨CC.1,bZ v.s s.length R,c,v.dead⟩:=TN.out.Be (s:=bZ v.s s.length R) (c:=c) (dead:=v.dead) K9.out (by
    have e:((bZ v.s s.length R).seq:Int)=q9:=HQ9.out
    unfold bf
    rw[e]
    exact O9.out) HR7.out VV.out
   exact M46
  .have e1:(CC.2==0)=false:=by rw[ME];exact hC
   have VN:=HX.out
   exact M78
end Go.Proofs.YtdkimcnlhmhpgaaGreat

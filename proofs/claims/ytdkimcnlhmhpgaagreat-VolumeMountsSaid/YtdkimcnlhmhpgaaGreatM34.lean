/- -/
import Derived.Test.YtdkimcnlhmhpgaaGreatM33
set_option maxHeartbeats 32000000
set_option maxRecDepth 100000
namespace Go.Proofs.YtdkimcnlhmhpgaaGreat
open Go.Proofs.Tryz Go.RowKit
variable {w w':World} {b sb:Nat} {d:DK} {cs:Array Value} {t:TypeId} {T:List Nat} {x0 x1 x2 x3 x4 x5 x6 x7 x8 x9 x10 x11 x12:Value}
theorem NL:type_of% @all_oneCell_toArray:=@all_oneCell_toArray
theorem Ec (B:Nat) (x0 x1 x2 x3 x4:Value) (s:List UInt8) (w:World):
  am! 50 #[B,.agg #[x0,x1,x2,x3,x4],s] w fun e w'=>e=.returned (.func (.func 107) #[] #[w.heap.size,↑(w+2:Nat),↑(w+1:Nat)])/\((w.alloc (.cells #[B] 27)).alloc (.cells #[x0,x1,x2,x3,x4] 52)).alloc (.cells #[s] 9)=w':=by
 go_enter func50,ntmps50
 go_wp2_with fail
 go_ret
 exact⟨rfl,rfl⟩
theorem aD.Lq {mb lo B:Nat} (h:aD w b sb mb lo d) (k:NP [B] w w') (hB:bf [] w b sb mb B) (o:ae w B cs t) (ht:206≠t):aD w' b sb mb lo d:=by
 obtain⟨wv,n,ob,os,Sr,hm,hn,h2,h3,h4,h5,h6,r⟩:=h
 obtain⟨_,n1,n2,n3,_⟩:=hB
 exact⟨wv,n,k.own ob (by simp only[Nm];exact fun e=>n1 e.symm),k.own os (by simp only[Nm];exact fun e=>n2 e.symm),bI Sr k o ht,hm.kept k (by simp only[Nm];exact fun e=>n3 e.symm),hn,h2,h3,h4,h5,Nk h6 k.size,r⟩
theorem SD.Lo {S:List Nat} {mb:Nat} (k:NP S w w') (hb:b<w.heap.size) (hS:b∉S):SD T w' b sb mb=SD T w b sb mb:=by
 funext g
 unfold SD bf
 rw[WB.iw (k.cell (a:=(aa b 1)) hb hS)]
theorem ae.MB (h:ae w b #[x0,x1,x2,x3,x4,x5] t) (u:Value):ae (w.setCell (aa b 3) u) b #[x0,x1,x2,u,x4,x5] t:=h.set 3 u
theorem dE.sw {mb:Nat} {x y cb cm cn:Value} {c:au} (h:dE T w b sb mb (.agg #[x,y,cb,cm,cn]) c):(∃p n d,cb=.slice p n d)/\(∃p n d,cm=.slice p n d)/\(∃p n d,cn=.slice p n d):=by
 obtain⟨va,vb,vc,e,i1,i2,i3,_⟩:=h
 injection e with e
 injection e with e
 simp only[List.cons.injEq,and_true]at e
 obtain⟨_,_,rfl,rfl,rfl⟩:=e
 obtain⟨p1,c1,rfl⟩:=i1.plain.shape
 obtain⟨p2,c2,rfl⟩:=i2.plain.shape
 obtain⟨p3,c3,rfl⟩:=i3.plain.shape
 exact⟨⟨_,_,_,rfl⟩,⟨_,_,_,rfl⟩,⟨_,_,_,rfl⟩⟩
theorem ae.there (h:ae w b cs t) (o n:Nat) (hn:o+n<=cs.size):w.there b o n:=fun j hj=>⟨by rw[h.cell (o+j) _a];rfl,h.free _⟩
theorem dz {P:Program} {ops:Array Oper} {o:Oper} {a:Act} {K:Act->World->Prop} {Q:Exit->Act->World->Prop} {E:Prop}
  (hg:o.guard=none) (ty:TypeId) (x y:Operand) (ho:o.op=.store ty x y) (b f:Nat) (cells:Array Value) (hx:a.eval x=.pointer (some (aa b f))) (hy:a.eval y=.agg cells)
  (ht:w.there b f cells.size) (hi:(P.info? ty).map (·.size)=some cells.size) (h1:cells.all (·.oneCell')=true) (hK:K (a.put o.dst undef) (w.setCells b f cells.toList)):
  if Region.wanted o (yielded ops a.tmps)=true then Oper.wp P o a w K Q else E:=by
 have hw:Region.wanted o (yielded ops a.tmps)=true:=by simp[Region.wanted,hg]
 rw[if_pos hw]
 exact wp_store_mid ty x y ho b f cells hx hy ht hi h1 hK
theorem wq (w:World) (B:Nat) (a1 a2 a3 a4 a5:Value):w.setCells B 7 (#[a1,a2,a3,a4,a5]:Array Value).toList=(((((w.setCell (aa B 7) a1).setCell (aa B 8) a2).setCell (aa B 9) a3).setCell (aa B 10) a4).setCell (aa B 11) a5):=rfl
theorem wm (w:World) (B:Nat) (a1 a2 a3 a4 a5 a6:Value):w.setCells B 1 (#[a1,a2,a3,a4,a5,a6]:Array Value).toList=((((((w.setCell (aa B 1) a1).setCell (aa B 2) a2).setCell (aa B 3) a3).setCell (aa B 4) a4).setCell (aa B 5) a5).setCell (aa B 6) a6):=rfl
theorem ae.Mb (h:ae w b #[x0,x1,x2,x3,x4,x5,x6,x7,x8,x9,x10,x11,x12] t) (u7 u8 u9 u10 u11:Value):ae (((((w.setCell (aa b 7) u7).setCell (aa b 8) u8).setCell (aa b 9) u9).setCell (aa b 10) u10).setCell (aa b 11) u11) b #[x0,x1,x2,x3,x4,x5,x6,u7,u8,u9,u10,u11,x12] t:=by
 have:=(((((h.set 7 u7).set 8 u8).set 9 u9).set 10 u10).set 11 u11)
 simpa using this
theorem ae.Ma (h:ae w b #[x0,x1,x2,x3,x4,x5,x6,x7,x8,x9,x10,x11,x12] t) (u1 u2 u3 u4 u5 u6:Value):ae ((((((w.setCell (aa b 1) u1).setCell (aa b 2) u2).setCell (aa b 3) u3).setCell (aa b 4) u4).setCell (aa b 5) u5).setCell (aa b 6) u6) b #[x0,u1,u2,u3,u4,u5,u6,x7,x8,x9,x10,x11,x12] t:=by
 have:=((((((h.set 1 u1).set 2 u2).set 3 u3).set 4 u4).set 5 u5).set 6 u6)
 simpa using this
theorem D1 {j u:Int} {s:List UInt8} (h:(Oa d j u s).2=0):0<=u/\u+s.length<=j*128/\jb d j u s=u+s.length:=by
 refine⟨?_,?_,by unfold jb;rw[if_pos h]⟩
 all_goals
  unfold Oa at h
  split at h
  .cases h
  .rename_i hf
   have hf:bo d.stand.length j u=0:=by simpa using hf
   have⟨f1,f2,f3,f4⟩:=jX hf
   split at h
   .cases h
   .omega
theorem I9 {T:List Nat} {w:World} {b sb mb lo:Nat} {d:DK} (s:SB) (rv:Value) (hD:DA w b sb mb lo d) (hT:∀x∈T,x<w.heap.size) (hr:ep T w b sb mb rv s.runs)
  (hm:s.may) (hq:s.seq<18446744073709551616) (ho:d.ops<=80000) (hw:d.waits.length<=8000) (W:World) (k:NP [] w W) (n gS gD:Nat) (hn:w.heap.size<=n) (hS:w.heap.size<=gS) (hDD:w.heap.size<=gD)
  (on:ae W n #[.func (.func 39) #[b] #[],.func (.func 92) #[] #[gS,gD]] 42)
  (oS:ae W gS (s.cells rv) 58) (od:ae W gD #[b] 23):
  am! 37 #[.slice (some n) 2 2] W fun e w'=>e=.returned (.int .i64 (aG [aA,cN s] d).2)/\DA w' b sb mb lo (aG [aA,cN s] d).1/\PK T b sb mb W w':=
 Kv n gS gD s rv (hD.aJ k) (fun x hx=>MR (hT x hx) k.size) on oS od (hD.bU hT k hn) (hD.bU hT k hS) (hD.bU hT k hDD) (hr.pk (k.eH hD.bH)) hm hq ho hw
theorem Ed {T:List Nat} (gv gt gc:Nat) (c:au) (cb cm cn:Value) (s:List UInt8) {w:World} {B b sb mb lo:Nat} {v:VS} (hV:aL T w B b sb mb lo v)
  (hc:∀W,PK [B] b sb mb w W->W.cell? gv=B/\W.cell? gt=s/\W.cell? gc=(c.nextBox,())/\W.cell? (aa gc 1)=(c.nextMan,())/\W.cell? (aa gc 2)=some cb/\W.cell? (aa gc 3)=some cm/\W.cell? (aa gc 4)=some cn)
  (Oz:dE T w b sb mb (.agg #[(c.nextBox,()),(c.nextMan,()),cb,cm,cn]) c)
  (hm:v.s.may) (hq:v.s.seq<=1000000) (hs:s.length<=4000) (ho:v.d.ops<=40000) (hw:v.d.waits.length<=3000):
  am! 107 #[gv,gt,gc] w fun e w'=>e=.returned (.int .i64 (bg c s v).2)/\aL T w' B b sb mb lo (bg c s v).1/\PK [B] b sb mb w w':=by
 have S2:=hm.1
 obtain⟨⟨q1,m1,d1,rfl⟩,⟨q2,m2,d2,rfl⟩,⟨q3,m3,d3,rfl⟩⟩:=dE.sw Oz
 have⟨sv,vb,vm,vn,o,hr,hcat0⟩:=hV.vol
 have⟨x0,x1,x2,x3,x4,x5,x6,x7,x8,x9,x10,x11,x12⟩:=o.ku
 obtain⟨⟨PU,PC,Oe⟩,RT⟩:=hr
 have HN:Hid (∀W,NP [] w W->am! 108 #[.agg (v.s.cells sv)] W fun e w'=>(∃v',e=.returned (.agg (SB.cells {v.s with seq:=v.s.seq+1} v'))/\af w' v' v.s.runs W.heap.size w')/\NP [] W w'):=tK (fun W k=>Li v.s sv PU PC W (Oe.kept0 k) (by have:=S2;unfold SB.dD at this;omega) _a)
 unfold SB.cells at HN
 simp only at HN
 clear x7 x8 x9 x10 x11 x12
 have⟨y0,y1,y2,y3,y4,y5,y6⟩:=hc w (PK.refl _ _ _ _ _)
 obtain⟨p1,c1,rfl⟩:=Oe.shape
 clear Oe RT hcat0 o
 go_enter func107,ntmps107
 go_wp2_with fail
 refine(HN.out _ (NP.refl _ _)).mono ?_;rintro e w2 ⟨⟨v',rfl,Th⟩,k2⟩
 obtain⟨p2,c2,rfl⟩:=Th.shape
 have P6:NP [] w (w2.alloc (.cells #[.int .u64 (↑v.s.seq+1),v.s.sectors,v.s.journal,v.s.used,v.s.size,(p2,v.s.runs.length,c2)] 58)):=k2.alloc _
 have oS3:=ae.new w2 #[.int .u64 (↑v.s.seq+1),v.s.sectors,v.s.journal,v.s.used,v.s.size,(p2,v.s.runs.length,c2)] 58
 have UC:af (w2.alloc (.cells #[.int .u64 (↑v.s.seq+1),v.s.sectors,v.s.journal,v.s.used,v.s.size,(p2,v.s.runs.length,c2)] 58)) (p2,v.s.runs.length,c2) v.s.runs w w2:=Th.kept0 ((NP.refl [] w2).alloc _)
 have hgS:w.heap.size<=w2.heap.size:=k2.size
 have hX:∀N,jb v.d v.s.journal v.s.used s=N->((Oa v.d v.s.journal v.s.used s).2≠0->bg c s v=(⟨(Oa v.d v.s.journal v.s.used s).1,v.s,v.c,v.dead⟩,(Oa v.d v.s.journal v.s.used s).2))/\((Oa v.d v.s.journal v.s.used s).2=0->(dH v.s N).may/\bg c s v=if(aG [aA,cN (dH v.s N)] (Oa v.d v.s.journal v.s.used s).1).2=0 then(⟨(aG [aA,cN (dH v.s N)] (Oa v.d v.s.journal v.s.used s).1).1,dH v.s N,c,v.dead⟩,0)else(⟨(aG [aA,cN (dH v.s N)] (Oa v.d v.s.journal v.s.used s).1).1,v.s,v.c,v.dead⟩,(aG [aA,cN (dH v.s N)] (Oa v.d v.s.journal v.s.used s).1).2)):=by
  rintro N rfl
  refine⟨fun h=>by unfold bg;rw[if_neg h],fun h=>?_⟩
  have⟨a1,a2,a3⟩:=D1 h
  rw[a3]
  exact⟨uW hm _a _a,by unfold bg;rw[if_pos h]⟩
 have hJ:Hid (∀W,NP [] w W->am! 109 #[b,v.s.journal,v.s.used,s] W fun e w'=>e=.returned (.tuple #[(jb v.d v.s.journal v.s.used s:Int),.int .i64 (Oa v.d v.s.journal v.s.used s).2])/\DA w' b sb mb lo (Oa v.d v.s.journal v.s.used s).1/\PK [] b sb mb W w'):=tK (fun W k=>FT v.s.journal v.s.used s (hV.da.aJ k) g! g! hs ho _a)
 have hfw:=Dy v.d v.s.journal v.s.used s
 have HFW:Hid ((Oa v.d v.s.journal v.s.used s).1.ops<=80000/\(Oa v.d v.s.journal v.s.used s).1.waits.length<=8000):=tK ⟨by have:=hfw.ops;omega,by have:=hfw.waits;omega⟩
 generalize hN:jb v.d v.s.journal v.s.used s=N at*
 have⟨hX1,hX2⟩:=hX _ rfl
 have⟨Ub,HX2⟩:=_f hX1 hX2
 have HVK:Hid (∀W D,PK [] b sb mb w W->DA W b sb mb lo D->aL T W B b sb mb lo ⟨D,v.s,v.c,v.dead⟩):=tK (fun W D k hD=>hV.pk k hD (fun x hx=>by cases hx) _b)
 have Wz:Hid (af (w2.alloc (.cells #[.int .u64 (↑v.s.seq+1),v.s.sectors,v.s.journal,v.s.used,v.s.size,(p2,v.s.runs.length,c2)] 58)) (p2,v.s.runs.length,c2) v.s.runs w w2):=tK UC
 have⟨HQ,K3,HC,QK,HV,HGS⟩:=gj! hq P6 hc Oz hV hgS
 have hB0:∀W,PK [] b sb mb w W->W.cell? B=b:=fun W k=>by
  have⟨sv0,vb0,vm0,vn0,o,_,_⟩:=hV.vol
  exact(k.own o ⟨_b,hV.off.2⟩).cell 0 (by simp[bL])
 have⟨ZB,aa4⟩:=_f hB0 oS3
 clear hX1 hX2 hX hfw hN hV hc Oz hm hq hs ho hw S2 Th UC k2 P6 HN hB0 oS3 hgS
 generalize Oa v.d v.s.journal v.s.used s=A at*
 go_upto_region 2 with fail
 generalize w2.heap.size=gS at*
 generalize w2.alloc (.cells #[.int .u64 (↑v.s.seq+1),v.s.sectors,v.s.journal,v.s.used,v.s.size,(p2,v.s.runs.length,c2)] 58)=w3 at*
 have HB:Hid (b<w.heap.size):=tK HV.out.bH
 have aaA:bf T w3 b sb mb gS:=HV.out.da.bU HV.out.hT K3.out HGS.out
 have Vy:=tK aaA
 have Ut:Hid (∀W,PK [] b sb mb w3 W->W.cell? gv=B/\W.cell? B=b/\W.cell? gt=s/\W.cell? (aa gS 2)=v.s.journal/\W.cell? (aa gS 3)=v.s.used):=tK (fun W k=>by
  have kk:=(K3.out.eH (T:=[]) (sb:=sb) (mb:=mb) HB.out).trans k
  have⟨c1,c2,_⟩:=HC.out W (kk.mono _b)
  have o:=k.own aa4.out ⟨_b,Vy.out.2⟩
  have⟨_,_,e2,e3,_⟩:=o.c6
  exact⟨c1,ZB.out W kk,c2,e2,e3⟩)
 have HB3:Hid (b<w3.heap.size):=tK (MR HB.out K3.out.size)
 clear aaA x0 x1 x2 x3 x4 x5 x6 y0 y1 y2 y3 y4 y5 y6
 have⟨y0,y1,y2,y3,y4⟩:=Ut.out w3 (PK.refl _ _ _ _ _)
 go_cut [5,6]from 12 to 24 (fun v5 v6 wx=>v5=N/\v6=A.2/\DA wx b sb mb lo A.1/\PK [] b sb mb w3 wx)
 case first=>
  refine MK (S:=(fun W=>W.cell? gv=B/\W.cell? B=b/\W.cell? gt=s/\W.cell? (aa gS 2)=v.s.journal/\W.cell? (aa gS 3)=v.s.used)) _c (by exact Ut.out _ ((NP.refl [] w3).drew.eH HB3.out)) (fun hHeld=>?_)
  refine tS ?_
  refine rD 9 (fun K hK=>?_)
  go_simp
  ((with_reducible refine(hJ.out _ (K3.out.drew)).mono ?_));rintro e w4 ⟨rfl,hD4,k4⟩
  have kk:=((NP.refl [] w3).drew.eH (T:=[]) (sb:=sb) (mb:=mb) HB3.out).trans k4
  have⟨KK,HD4⟩:=_f kk hD4
  clear hD4 kk k4
  go_wp2_with fail
  refine hK.out _ _ (Ut.out _ KK.out) (fun hHeld=>nM ?_)
  clear hK K
  refine tS ?_
  refine Ng _c ?_ _
  try simp only[List.set_cons_succ,List.set_cons_zero]
  go_wp2_with fail
  go_meet
  exact⟨rfl,rfl,HD4.out,KK.out⟩
 case rest=>
  obtain⟨rfl,rfl,hD4,k4⟩:=hcut
  rename World=>w4
  have acq:PK [] b sb mb w w4:=(K3.out.eH HB.out).trans k4
  have⟨HD4,K04,Zm⟩:=gg! hD4 acq k4
  clear hD4 acq k4 Ut y0 y1 y2 y3 y4 hJ
  by_cases hA:A.2=0
  .have e0:(A.2==0)=true:=by rw[hA];rfl
   have hX2:=HX2.out hA
   have aaX:=tK hX2
   have oS4:=Zm.out.own aa4.out ⟨_b,Vy.out.2⟩
   have⟨y0,y1,y2,y3,y4,y5⟩:=oS4.c6
   have z3:=oS4.free 3
   have ac7:=tK oS4
   clear hX2 Ub HX2 hA oS4
   go_upto_region 6 with fail
   have oS5:ae (w4.setCell (aa gS 3) N) gS #[.int .u64 (↑v.s.seq+1),v.s.sectors,v.s.journal,N,v.s.size,(p2,v.s.runs.length,c2)] 58:=ac7.out.MB _
   have k45:NP [gS] w4 (w4.setCell (aa gS 3) N):=(NP.refl [gS] w4).setCell (p:=(aa gS 3)) (Or.inl _b) _
   generalize w4.setCell (aa gS 3) N=w5 at*
   have S8:bf [] w4 b sb mb gS:=⟨_b,(Vy.out.pk (Zm.out.mono _b) aa4.out.lt).2⟩
   have Xq:b∉[gS]:=by simp only[Nm];exact fun e=>Vy.out.2.1 e.symm
   have hD5:DA w5 b sb mb lo A.1:=⟨HD4.out.disk.Lq k45 S8 ac7.out _d,HD4.out.fit⟩
   have abR:PK [] b sb mb w w5:=K04.out.GN k45 HB.out (fun x hx=>by
    obtain rfl:x=gS:=_h
    exact Or.inr HGS.out) Xq
   have UC:=Wz.out
   have VY:bD (SD T w3 b sb mb) (p2,v.s.runs.length,c2) v.s.runs.length:=(UC.new (T:=T) HV.out.da HV.out.hT K3.out (MG _)).2
   have hr4:=UC.pk VY (Zm.out.mono _b)
   have Yy:=VY.pk (Zm.out.mono _b) UC.mT
   have VL:af w5 (p2,v.s.runs.length,c2) v.s.runs w gS:=hr4.kept k45 (fun x hx=>by
    obtain rfl:x=gS:=_h
    exact Or.inr (MG _))
   have abz:ep T w5 b sb mb (p2,v.s.runs.length,c2) v.s.runs:=⟨⟨_,_,VL⟩,by rw[SD.Lo k45 HD4.out.bH Xq];exact Yy⟩
   have Qg:(dH v.s N).cells (.slice p2 v.s.runs.length c2)=#[.int .u64 (↑v.s.seq+1),.int .i64 v.s.sectors,.int .i64 v.s.journal,.int .i64 N,.int .i64 v.s.size,.slice p2 v.s.runs.length c2]:=by unfold SB.cells dH;simp
   have P9:=I9 (T:=[]) (dH v.s N) (p2,v.s.runs.length,c2) hD5 (fun x hx=>by cases hx) (abz.mono _b) aaX.out.1 (by show v.s.seq+1<_;have:=HQ.out;omega) HFW.out.1 HFW.out.2
   have hl:=Gx b (dH v.s N) (p2,v.s.runs.length,c2)
   rw[Qg]at P9 hl
   have⟨P8,HL⟩:=_f P9 hl
   clear P9 hl Qg
   have XP:b<w5.heap.size:=hD5.bH
   have X7:=tK XP
   have Yl:bf T w5 b sb mb gS:=⟨Vy.out.1,S8.2.1,S8.2.2.1,S8.2.2.2.1,fun hx=>S8.2.2.2.2 ((WB.iw (k45.cell (a:=(aa b 1)) HD4.out.bH Xq)).1 hx)⟩
   have⟨YV,abY,K05,adP⟩:=gh! Yl oS5 abR abz
   have HS5:Hid (∀W,PK [] b sb mb w5 W->W.cell? gv=B/\W.cell? B=b/\W.cell? gS=some (.int .u64 (↑v.s.seq+1))/\W.cell? (aa gS 1)=v.s.sectors/\W.cell? (aa gS 2)=v.s.journal/\W.cell? (aa gS 3)=N/\W.cell? (aa gS 4)=v.s.size/\W.cell? (aa gS 5)=(p2,v.s.runs.length,c2)):=tK (fun W k=>by
    have kk:=K05.out.trans k
    have⟨c1,_⟩:=HC.out W (kk.mono _b)
    have⟨e0,e1,e2,e3,e4,e5⟩:=(k.own abY.out ⟨_b,YV.out.2⟩).c6
    exact⟨c1,ZB.out W kk,e0,e1,e2,e3,e4,e5⟩)
   clear S8 Xq hD5 abR UC VY hr4 Yy VL abz XP Yl oS5 k45 y0 y1 y2 y3 y4 y5 z3
   have⟨y0,y1,y2,y3,y4,y5,y6,y7⟩:=HS5.out w5 (PK.refl _ _ _ _ _)
   generalize hCC:aG [aA,cN (dH v.s N)] A.1=CC at*
   clear hCC
   go_cut [6]from 25 to 42 (fun v6 wx=>v6=CC.2/\DA wx b sb mb lo CC.1/\PK [] b sb mb w5 wx)
   case first=>
    refine MK (S:=(fun W=>W.cell? gv=B/\W.cell? B=b/\W.cell? gS=some (.int .u64 (↑v.s.seq+1))/\W.cell? (aa gS 1)=v.s.sectors/\W.cell? (aa gS 2)=v.s.journal/\W.cell? (aa gS 3)=N/\W.cell? (aa gS 4)=v.s.size/\W.cell? (aa gS 5)=(p2,v.s.runs.length,c2))) _c (by exact HS5.out _ ((NP.refl [] w5).drew.eH X7.out)) (fun hHeld=>?_)
    refine tS ?_
    refine rD 10 (fun K hK=>?_)
    go_simp
    ((with_reducible refine(HL.out _).mono ?_));rintro e w6 ⟨rfl,rfl⟩
    go_wp2_with fail
    refine hK.out _ _ (HS5.out _ ((((NP.refl [] w5).alloc _).alloc _).drew.eH X7.out)) (fun hHeld=>nM ?_)
    clear hK K
    refine rD 11 (fun K hK=>?_)
    go_simp
    refine hK.out _ _ (HS5.out _ (((((NP.refl [] w5).alloc _).alloc _).alloc _).drew.eH X7.out)) (fun hHeld=>nM ?_)
    clear hK K
    have⟨o1,o2,o3⟩:=l9 w5 #[b] #[.int .u64 (↑v.s.seq+1),v.s.sectors,v.s.journal,N,v.s.size,(p2,v.s.runs.length,c2)] #[.func (.func 39) #[b] #[],.func (.func 92) #[] #[↑(w5+1:Nat),w5.heap.size]] 23 58 42
    refine rD 12 (fun K hK=>?_)
    go_simp
    ((with_reducible refine(P8.out _ (((((NP.refl [] w5).alloc _).alloc _).alloc _).drew) _ (w5.heap.size+1) w5 _a _a _a o3.drew o2.drew o1.drew).mono ?_));rintro e w7 ⟨rfl,hD7,k7⟩
    have kk:=((((((NP.refl [] w5).alloc (.cells #[b] 23)).alloc (.cells #[.int .u64 (↑v.s.seq+1),v.s.sectors,v.s.journal,N,v.s.size,(p2,v.s.runs.length,c2)] 58)).alloc (.cells #[.func (.func 39) #[b] #[],.func (.func 92) #[] #[↑(w5+1:Nat),w5.heap.size]] 42)).drew).eH (T:=[]) (sb:=sb) (mb:=mb) X7.out).trans k7
    have⟨KK,HD7⟩:=_f kk hD7
    clear hD7 kk k7 o1 o2 o3
    go_wp2_with fail
    refine hK.out _ _ (HS5.out _ KK.out) (fun hHeld=>nM ?_)
    clear hK K
    refine tS ?_
    refine Ng _c ?_ _
    try simp only[List.set_cons_succ,List.set_cons_zero]
    go_wp2_with fail
    go_meet
    exact⟨rfl,HD7.out,KK.out⟩
   case rest=>
    obtain⟨rfl,hD7,k7⟩:=hcut
    rename World=>w7
    have abm:PK [] b sb mb w w7:=K05.out.trans k7
    have⟨HD7,K07,K57⟩:=gg! hD7 abm k7
    have hV7:=HVK.out w7 CC.1 abm hD7
    have HV7:=tK hV7
    clear hD7 abm k7 hV7 y0 y1 y2 y3 y4 y5 y6 y7 P8 HL
    by_cases hC:CC.2=0
    .have e1:(CC.2==0)=true:=by rw[hC];rfl
     have hX3:=aaX.out.2
     rw[if_pos hC]at hX3
     have⟨Xc,HCZ⟩:=_f hX3 hC
     have hS7:∀W,PK [B] b sb mb w7 W->W.cell? gv=B/\W.cell? gc=(c.nextBox,())/\W.cell? (aa gc 1)=(c.nextMan,())/\W.cell? (aa gc 2)=(q1,m1,d1)/\W.cell? (aa gc 3)=(q2,m2,d2)/\W.cell? (aa gc 4)=(q3,m3,d3)/\W.cell? gS=some (.int .u64 (↑v.s.seq+1))/\W.cell? (aa gS 1)=v.s.sectors/\W.cell? (aa gS 2)=v.s.journal/\W.cell? (aa gS 3)=N/\W.cell? (aa gS 4)=v.s.size/\W.cell? (aa gS 5)=(p2,v.s.runs.length,c2):=fun W k=>by
      have kk:=(K07.out.mono (T:=[B]) _b).trans k
      have⟨c1,_,d0,d1,d2,d3,d4⟩:=HC.out W kk
      have⟨e0,e1,e2,e3,e4,e5⟩:=(((K57.out.mono (T:=[B]) _b).trans k).own abY.out (YV.out.Jf HV.out.hB)).c6
      exact⟨c1,d0,d1,d2,d3,d4,e0,e1,e2,e3,e4,e5⟩
     have HS7:=tK hS7
     have aaH:=QK.out.pk (K07.out.mono (T:=T) _b)
     have hr7:=adP.out.pk (K57.out.mono (T:=T) _b)
     have⟨sv7,vb7,vm7,vn7,o7,_,_⟩:=HV7.out.vol
     unfold bL at o7
     have⟨O7,HR7,acX⟩:=gg! o7 hr7 aaH
     have⟨y0,y1,y2,y3,y4,y5,y6,y7,y8,y9,y10,y11⟩:=hS7 w7 (PK.refl _ _ _ _ _)
     clear hr7 aaH hS7 o7 hC hX3
     go_upto_region 8 with fail
     generalize hq9:((v.s.seq:Int)+1)=q9 at*
     have HQ9:=tK hq9
     clear hq9
     refine MK (S:=(fun W=>W.cell? gv=B/\W.cell? gc=(c.nextBox,())/\W.cell? (aa gc 1)=(c.nextMan,())/\W.cell? (aa gc 2)=(q1,m1,d1)/\W.cell? (aa gc 3)=(q2,m2,d2)/\W.cell? (aa gc 4)=(q3,m3,d3)/\W.cell? gS=some (.int .u64 q9)/\W.cell? (aa gS 1)=v.s.sectors/\W.cell? (aa gS 2)=v.s.journal/\W.cell? (aa gS 3)=N/\W.cell? (aa gS 4)=v.s.size/\W.cell? (aa gS 5)=(p2,v.s.runs.length,c2))) _c (by exact HS7.out _ (HV7.out.tW (NP.refl [B] w7).drew)) (fun hHeld=>?_)
     refine tS ?_
     have o8:=O7.out.drew.Mb (c.nextBox,()) (c.nextMan,()) (q1,m1,d1) (q2,m2,d2) (q3,m3,d3)
     have k8:NP [B] w7 (((((w7.drew.setCell (aa B 7) (c.nextBox,())).setCell (aa B 8) (c.nextMan,())).setCell (aa B 9) (q1,m1,d1)).setCell (aa B 10) (q2,m2,d2)).setCell (aa B 11) (q3,m3,d3)):=(((((((NP.refl [B] w7).drew).setCell (p:=(aa B 7)) (Or.inl MY) (c.nextBox,())).setCell (p:=(aa B 8)) (Or.inl MY) (c.nextMan,())).setCell (p:=(aa B 9)) (Or.inl MY) (q1,m1,d1)).setCell (p:=(aa B 10)) (Or.inl MY) (q2,m2,d2)).setCell (p:=(aa B 11)) (Or.inl MY) (q3,m3,d3))
     refine rD 6 (fun K hK=>?_)
     refine dz rfl 52 _ _ rfl B 7 #[(c.nextBox,()),(c.nextMan,()),(q1,m1,d1),(q2,m2,d2),(q3,m3,d3)] _g _g (O7.out.drew.there 7 5 _b) _c (NL (cs:=[.int .u32 c.nextBox,.int .u32 c.nextMan,.slice q1 m1 d1,.slice q2 m2 d2,.slice q3 m3 d3]) _l) ?_
     rw[wq]
     generalize (((((w7.drew.setCell (aa B 7) (c.nextBox,())).setCell (aa B 8) (c.nextMan,())).setCell (aa B 9) (q1,m1,d1)).setCell (aa B 10) (q2,m2,d2)).setCell (aa B 11) (q3,m3,d3))=w8 at*
     have⟨O8,K8⟩:=_f o8 k8
     clear o8 k8
     refine hK.out _ _ ?_ (fun hHeld=>nM ?_)
     .exact HS7.out w8 (HV7.out.tW K8.out)
     clear hK K
     refine tS ?_
     have o9:=O8.out.Ma (.int .u64 q9) v.s.sectors v.s.journal N v.s.size (p2,v.s.runs.length,c2)
     have k9:NP [B] w7 ((((((w8.setCell (aa B 1) (.int .u64 q9)).setCell (aa B 2) v.s.sectors).setCell (aa B 3) v.s.journal).setCell (aa B 4) N).setCell (aa B 5) v.s.size).setCell (aa B 6) (p2,v.s.runs.length,c2)):=((((((K8.out.setCell (p:=(aa B 1)) (Or.inl MY) (.int .u64 q9)).setCell (p:=(aa B 2)) (Or.inl MY) v.s.sectors).setCell (p:=(aa B 3)) (Or.inl MY) v.s.journal).setCell (p:=(aa B 4)) (Or.inl MY) N).setCell (p:=(aa B 5)) (Or.inl MY) v.s.size).setCell (p:=(aa B 6)) (Or.inl MY) (p2,v.s.runs.length,c2))
     refine rD 9 (fun K hK=>?_)
     refine dz rfl 58 _ _ rfl B 1 #[.int .u64 q9,v.s.sectors,v.s.journal,N,v.s.size,(p2,v.s.runs.length,c2)] _g _g (O8.out.there 1 6 _b) _c (NL (cs:=[.int .u64 q9,.int .i64 v.s.sectors,.int .i64 v.s.journal,.int .i64 N,.int .i64 v.s.size,.slice p2 v.s.runs.length c2]) (by intro u hu;simp at hu;rcases hu with rfl|rfl|rfl|rfl|rfl|rfl<;>rfl)) ?_
     rw[wm]
     generalize ((((((w8.setCell (aa B 1) (.int .u64 q9)).setCell (aa B 2) v.s.sectors).setCell (aa B 3) v.s.journal).setCell (aa B 4) N).setCell (aa B 5) v.s.size).setCell (aa B 6) (p2,v.s.runs.length,c2))=w9 at*
     have⟨O9,K9⟩:=_f o9 k9
     clear o9 k9
     refine hK.out _ _ ?_ (fun hHeld=>nM ?_)
     .exact HS7.out w9 (HV7.out.tW K9.out)
     clear hK K
     have hv9:aL T w9 B b sb mb lo ⟨CC.1,dH v.s N,c,v.dead⟩:=HV7.out.Em (s:=dH v.s N) (c:=c) (dead:=v.dead) K9.out (by
      have e:((dH v.s N).seq:Int)=q9:=by show((v.s.seq+1:Nat):Int)=q9;have:=HQ9.out;omega
      unfold bL
      rw[e]
      exact O9.out) HR7.out acX.out
     have HV9:=tK hv9
     clear hv9
     refine Ng _c ?_ _
     try simp only[List.set_cons_succ,List.set_cons_zero]
     go_wp2_with fail
     go_ret
     rw[Xc.out]
     exact⟨by rw[HCZ.out];rfl,HV9.out,(K07.out.mono _b).trans (HV7.out.tW K9.out)⟩
    .have e1:(CC.2==0)=false:=by rw[Nl];exact hC
     have hX3:=aaX.out.2
     rw[if_neg hC]at hX3
     have Xc:=tK hX3
     clear hX3 hC
     go_wp2_with fail
     go_ret
     rw[Xc.out]
     exact⟨rfl,HV7.out,K07.out.mono _b⟩
  .have e0:(A.2==0)=false:=by rw[Nl];exact hA
   have aeG:=tK (Ub.out hA)
   have hV4:=HVK.out w4 A.1 K04.out HD4.out
   have HV4:=tK hV4
   clear hA Ub HX2 hV4
   go_wp2_with fail
   go_ret
   rw[aeG.out]
   exact⟨rfl,HV4.out,K04.out.mono _b⟩

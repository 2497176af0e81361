/- -/
import Derived.Test.YtdkimcnlhmhpgaaGreatK41
set_option maxHeartbeats 16000000
set_option maxRecDepth 100000
set_option linter.unusedSimpArgs false
namespace Go.Proofs.YtdkimcnlhmhpgaaGreat
open Go.RowKit
variable {w w':World} {b sb mb:Nat} {d:DK} {cs:Array Value} {t:TypeId} {T:List Nat} {x0 x1 x2 x3 x4 x5 x6 x7 x8 x9 x10 x11 x12:Value}
theorem EJ (B:Nat) (x0 x1 x2 x3 x4:Value) (s:List UInt8) (w:World):
  Calls Tryz.prog 50 #[.pointer (some ⟨B,0,none⟩),.agg #[x0,x1,x2,x3,x4],.string (bs s)] w fun e w'=>e=.returned (.func (.func 107) #[] #[.pointer (some ⟨w.heap.size,0,none⟩),.pointer (some ⟨w.heap.size+2,0,none⟩),.pointer (some ⟨w.heap.size+1,0,none⟩)])/\((w.alloc (.cells #[.pointer (some ⟨B,0,none⟩)] 27)).alloc (.cells #[x0,x1,x2,x3,x4] 52)).alloc (.cells #[.string (bs s)] 9)=w':=by
 go_enter Tryz.func50,Tryz.ntmps50
 go_wp2_with fail
 go_ret
 exact⟨rfl,rfl⟩
theorem wW (B:Nat) (x0 x1 x2 x3 x4:Value) (rp:Option Addr) (rn rc:Nat) (s:List UInt8) (w:World):
  Calls Tryz.prog 55 #[.pointer (some ⟨B,0,none⟩),.agg #[x0,x1,x2,x3,x4],.string (bs s),.slice rp rn rc] w fun e w'=>e=.returned (.func (.func 113) #[] #[.pointer (some ⟨w.heap.size,0,none⟩),.pointer (some ⟨w.heap.size+2,0,none⟩),.pointer (some ⟨w.heap.size+3,0,none⟩),.pointer (some ⟨w.heap.size+1,0,none⟩)])/\(((w.alloc (.cells #[.pointer (some ⟨B,0,none⟩)] 27)).alloc (.cells #[x0,x1,x2,x3,x4] 52)).alloc (.cells #[.string (bs s)] 9)).alloc (.cells #[.slice rp rn rc] 56)=w':=by
 go_enter Tryz.func55,Tryz.ntmps55
 go_wp2_with fail
 go_ret
 exact⟨rfl,rfl⟩
theorem aI.G6 {lo B:Nat} (h:aI w b sb mb lo d) (k:aa [B] w w') (hB:aW [] w b sb mb B) (o:ae w B cs t) (ht:206≠t):aI w' b sb mb lo d:=by
 obtain⟨wv,n,ob,os,Ti,hm,hn,h2,h3,h4,h5,h6,r⟩:=h
 obtain⟨_,n1,n2,n3,_⟩:=hB
 exact⟨wv,n,k.own ob (by simp only[MB];exact fun e=>n1 e.symm),k.own os (by simp only[MB];exact fun e=>n2 e.symm),cw Ti k o ht,hm.kept k (by simp only[MB];exact fun e=>n3 e.symm),hn,h2,h3,h4,h5,MA h6 k.size,r⟩
theorem SD.GZ {S:List Nat} (k:aa S w w') (hb:b<w.heap.size) (hS:b∉S):SD T w' b sb mb=SD T w b sb mb:=by
 funext g
 unfold SD aW
 rw[WB.gz (k.cell (a:=⟨b,1,none⟩) hb hS)]
theorem ae.L9 (h:ae w b #[x0,x1,x2,x3,x4,x5] t) (u:Value):ae (w.setCell ⟨b,3,none⟩ u) b #[x0,x1,x2,u,x4,x5] t:=h.set 3 u
theorem cO.nc {x y cb cm cn:Value} {c:aj} (h:cO T w b sb mb (.agg #[x,y,cb,cm,cn]) c):(∃p n d,cb=.slice p n d)/\(∃p n d,cm=.slice p n d)/\(∃p n d,cn=.slice p n d):=by
 obtain⟨va,vb,vc,e,i1,i2,i3,_⟩:=h
 injection e with e
 injection e with e
 simp only[List.cons.injEq,and_true]at e
 obtain⟨_,_,rfl,rfl,rfl⟩:=e
 obtain⟨p1,c1,rfl⟩:=i1.plain.shape
 obtain⟨p2,c2,rfl⟩:=i2.plain.shape
 obtain⟨p3,c3,rfl⟩:=i3.plain.shape
 exact⟨⟨_,_,_,rfl⟩,⟨_,_,_,rfl⟩,⟨_,_,_,rfl⟩⟩
theorem ae.there (h:ae w b cs t) (o n:Nat) (hn:o+n<=cs.size):w.there b o n:=fun j hj=>⟨by rw[h.cell (o+j) (by omega)];rfl,h.free _⟩
theorem ee {P:Program} {ops:Array Oper} {o:Oper} {a:Act} {K:Act->World->Prop} {Q:Exit->Act->World->Prop} {E:Prop}
  (hg:o.guard=none) (ty:TypeId) (x y:Operand) (ho:o.op=.store ty x y) (b f:Nat) (cells:Array Value) (hx:a.eval x=.pointer (some ⟨b,f,none⟩)) (hy:a.eval y=.agg cells)
  (ht:w.there b f cells.size) (hi:(P.info? ty).map (·.size)=some cells.size) (h1:cells.all (·.oneCell')=true) (hK:K (a.put o.dst undef) (w.setCells b f cells.toList)):
  if Region.wanted o (yielded ops a.tmps)=true then Oper.wp P o a w K Q else E:=by
 have hw:Region.wanted o (yielded ops a.tmps)=true:=by simp[Region.wanted,hg]
 rw[if_pos hw]
 exact wp_store_mid ty x y ho b f cells hx hy ht hi h1 hK
theorem pO (w:World) (B:Nat) (a1 a2 a3 a4 a5:Value):w.setCells B 7 (#[a1,a2,a3,a4,a5]:Array Value).toList=(((((w.setCell ⟨B,7,none⟩ a1).setCell ⟨B,8,none⟩ a2).setCell ⟨B,9,none⟩ a3).setCell ⟨B,10,none⟩ a4).setCell ⟨B,11,none⟩ a5):=rfl
theorem pN (w:World) (B:Nat) (a1 a2 a3 a4 a5 a6:Value):w.setCells B 1 (#[a1,a2,a3,a4,a5,a6]:Array Value).toList=((((((w.setCell ⟨B,1,none⟩ a1).setCell ⟨B,2,none⟩ a2).setCell ⟨B,3,none⟩ a3).setCell ⟨B,4,none⟩ a4).setCell ⟨B,5,none⟩ a5).setCell ⟨B,6,none⟩ a6):=rfl
theorem ae.JR (h:ae w b #[x0,x1,x2,x3,x4,x5,x6,x7,x8,x9,x10,x11,x12] t) (u7 u8 u9 u10 u11:Value):ae (((((w.setCell ⟨b,7,none⟩ u7).setCell ⟨b,8,none⟩ u8).setCell ⟨b,9,none⟩ u9).setCell ⟨b,10,none⟩ u10).setCell ⟨b,11,none⟩ u11) b #[x0,x1,x2,x3,x4,x5,x6,u7,u8,u9,u10,u11,x12] t:=by
 have:=(((((h.set 7 u7).set 8 u8).set 9 u9).set 10 u10).set 11 u11)
 simpa using this
theorem ae.JM (h:ae w b #[x0,x1,x2,x3,x4,x5,x6,x7,x8,x9,x10,x11,x12] t) (u1 u2 u3 u4 u5 u6:Value):ae ((((((w.setCell ⟨b,1,none⟩ u1).setCell ⟨b,2,none⟩ u2).setCell ⟨b,3,none⟩ u3).setCell ⟨b,4,none⟩ u4).setCell ⟨b,5,none⟩ u5).setCell ⟨b,6,none⟩ u6) b #[x0,u1,u2,u3,u4,u5,u6,x7,x8,x9,x10,x11,x12] t:=by
 have:=((((((h.set 1 u1).set 2 u2).set 3 u3).set 4 u4).set 5 u5).set 6 u6)
 simpa using this
theorem Et {j u:Int} {s:List UInt8} (h:(Nm d j u s).2=0):0<=u/\u+s.length<=j*128/\jo d j u s=u+s.length:=by
 refine⟨?_,?_,by unfold jo;rw[if_pos h]⟩
 all_goals
  unfold Nm at h
  split at h
  .cases h
  .rename_i hf
   have hf:aN d.stand.length j u=0:=by simpa using hf
   obtain⟨f1,f2,f3,f4⟩:=gN hf
   split at h
   .cases h
   .omega
theorem JD {T:List Nat} {w:World} {b sb mb lo:Nat} {d:DK} (s:SB) (rv:Value) (hD:DA w b sb mb lo d) (hT:∀x∈T,x<w.heap.size) (hr:b8 T w b sb mb rv s.runs)
  (hm:s.may) (hq:s.seq<18446744073709551616) (ho:d.ops<=80000) (hw:d.waits.length<=8000) (W:World) (k:aa [] w W) (n gS gD:Nat) (hn:w.heap.size<=n) (hS:w.heap.size<=gS) (hDD:w.heap.size<=gD)
  (on:ae W n #[.func (.func 39) #[.pointer (some ⟨b,0,none⟩)] #[],.func (.func 92) #[] #[.pointer (some ⟨gS,0,none⟩),.pointer (some ⟨gD,0,none⟩)]] 42)
  (oS:ae W gS (s.cells rv) 58) (od:ae W gD #[.pointer (some ⟨b,0,none⟩)] 23):
  Calls Tryz.prog 37 #[.slice (some ⟨n,0,none⟩) 2 2] W fun e w'=>e=.returned (.int .i64 (ah [Ni,aE s] d).2)/\DA w' b sb mb lo (ah [Ni,aE s] d).1/\PK T b sb mb W w':=
 KL n gS gD s rv (hD.aJ k) (fun x hx=>Mo (hT x hx) k.size) on oS od (hD.bh hT k hn) (hD.bh hT k hS) (hD.bh hT k hDD) (hr.pk (k.bM hD.aQ)) hm hq ho hw
theorem M78 {A:Prop}(h:A:=by
 rw[if_neg hC]at VN
 have HX3:=Mb VN
 clear VN hC
 go_wp2_with fail
 go_ret
 rw[HX3.out]
 exact⟨rfl,TN.out,K07.out.mono (by simp)⟩):A:=h
theorem M77 {A:Prop}(h:A:=by
 refine MM (by kernel_rfl) ?_ _
 try simp only[List.set_cons_succ,List.set_cons_zero]
 go_wp2_with fail
 go_meet
 exact⟨rfl,HD7.out,KK.out⟩):A:=h
theorem M64 {A:Prop}(h:A:=by
 obtain⟨e0,e1,e2,e3,e4,e5⟩:=(((K57.out.mono (T:=[B]) (by simp)).trans k).own Ym.out (SP.out.vh HV.out.hB)).c6
 exact⟨c1,d0,d1,d2,d3,d4,e0,e1,e2,e3,e4,e5⟩):A:=h
theorem M46 {A:Prop}(h:A:=by
 have HV9:=Mb hv9
 clear hv9
 refine MM (by kernel_rfl) ?_ _
 try simp only[List.set_cons_succ,List.set_cons_zero]
 go_wp2_with fail
 go_ret
 rw[HX3.out]
 exact⟨by rw[HCZ.out];rfl,HV9.out,(K07.out.mono (by simp)).trans (TN.out.jO K9.out)⟩):A:=h
theorem EK {T:List Nat} (gv gt gc:Nat) (c:aj) (cb cm cn:Value) (s:List UInt8) {w:World} {B b sb mb lo:Nat} {v:VS} (hV:ay T w B b sb mb lo v)
  (hc:∀W,PK [B] b sb mb w W->W.cell? ⟨gv,0,none⟩=some (.pointer (some ⟨B,0,none⟩))/\W.cell? ⟨gt,0,none⟩=some (.string (bs s))/\W.cell? ⟨gc,0,none⟩=some (.int .u32 c.nextBox)/\W.cell? ⟨gc,1,none⟩=some (.int .u32 c.nextMan)/\W.cell? ⟨gc,2,none⟩=some cb/\W.cell? ⟨gc,3,none⟩=some cm/\W.cell? ⟨gc,4,none⟩=some cn)
  (N5:cO T w b sb mb (.agg #[.int .u32 c.nextBox,.int .u32 c.nextMan,cb,cm,cn]) c)
  (hm:v.s.may) (hq:v.s.seq<=1000000) (hs:s.length<=4000) (ho:v.d.ops<=40000) (hw:v.d.waits.length<=3000):
  Calls Tryz.prog 107 #[.pointer (some ⟨gv,0,none⟩),.pointer (some ⟨gt,0,none⟩),.pointer (some ⟨gc,0,none⟩)] w fun e w'=>e=.returned (.int .i64 (Nz c s v).2)/\ay T w' B b sb mb lo (Nz c s v).1/\PK [B] b sb mb w w':=by
 have Rn:=hm.1
 obtain⟨⟨q1,m1,d1,rfl⟩,⟨q2,m2,d2,rfl⟩,⟨q3,m3,d3,rfl⟩⟩:=cO.nc N5
 obtain⟨sv,vb,vm,vn,o,hr,hcat0⟩:=hV.vol
 obtain⟨x0,x1,x2,x3,x4,x5,x6,x7,x8,x9,x10,x11,x12⟩:=o.jC
 obtain⟨⟨OD,On,NT⟩,ON⟩:=hr
 have HN:Hid (∀W,aa [] w W->Calls Tryz.prog 108 #[.agg (v.s.cells sv)] W fun e w'=>(∃v',e=.returned (.agg (SB.cells {v.s with seq:=v.s.seq+1} v'))/\af w' v' v.s.runs W.heap.size w'.heap.size)/\aa [] W w'):=Mb (fun W k=>GU v.s sv OD On W (NT.kept0 k) (by have:=Rn;unfold SB.eF at this;omega) (by omega))
 unfold SB.cells at HN
 simp only at HN
 clear x7 x8 x9 x10 x11 x12
 obtain⟨y0,y1,y2,y3,y4,y5,y6⟩:=hc w (PK.refl _ _ _ _ _)
 obtain⟨p1,c1,rfl⟩:=NT.shape
 clear NT ON hcat0 o
 go_enter Tryz.func107,Tryz.ntmps107
 go_wp2_with fail
 refine(HN.out _ (aa.refl _ _)).mono ?_;rintro e w2 ⟨⟨v',rfl,QU⟩,k2⟩
 obtain⟨p2,c2,rfl⟩:=QU.shape
 have PE:aa [] w (w2.alloc (.cells #[.int .u64 (↑v.s.seq+1),.int .i64 v.s.sectors,.int .i64 v.s.journal,.int .i64 v.s.used,.int .i64 v.s.size,.slice p2 v.s.runs.length c2] 58)):=k2.alloc _
 have oS3:=ae.new w2 #[.int .u64 (↑v.s.seq+1),.int .i64 v.s.sectors,.int .i64 v.s.journal,.int .i64 v.s.used,.int .i64 v.s.size,.slice p2 v.s.runs.length c2] 58
 have TM:af (w2.alloc (.cells #[.int .u64 (↑v.s.seq+1),.int .i64 v.s.sectors,.int .i64 v.s.journal,.int .i64 v.s.used,.int .i64 v.s.size,.slice p2 v.s.runs.length c2] 58)) (.slice p2 v.s.runs.length c2) v.s.runs w.heap.size w2.heap.size:=QU.kept0 ((aa.refl [] w2).alloc _)
 have ZO:w.heap.size<=w2.heap.size:=k2.size
 have hX:∀N,jo v.d v.s.journal v.s.used s=N->((Nm v.d v.s.journal v.s.used s).2≠0->Nz c s v=(⟨(Nm v.d v.s.journal v.s.used s).1,v.s,v.c,v.dead⟩,(Nm v.d v.s.journal v.s.used s).2))/\((Nm v.d v.s.journal v.s.used s).2=0->(bw v.s N).may/\Nz c s v=if(ah [Ni,aE (bw v.s N)] (Nm v.d v.s.journal v.s.used s).1).2=0 then(⟨(ah [Ni,aE (bw v.s N)] (Nm v.d v.s.journal v.s.used s).1).1,bw v.s N,c,v.dead⟩,0)else(⟨(ah [Ni,aE (bw v.s N)] (Nm v.d v.s.journal v.s.used s).1).1,v.s,v.c,v.dead⟩,(ah [Ni,aE (bw v.s N)] (Nm v.d v.s.journal v.s.used s).1).2)):=by
  rintro N rfl
  refine⟨fun h=>by unfold Nz;rw[if_neg h],fun h=>?_⟩
  obtain⟨a1,a2,a3⟩:=Et h
  rw[a3]
  exact⟨mj hm (by omega) (by omega),by unfold Nz;rw[if_pos h]⟩
 have hJ:Hid (∀W,aa [] w W->Calls Tryz.prog 109 #[.pointer (some ⟨b,0,none⟩),.int .i64 v.s.journal,.int .i64 v.s.used,.string (bs s)] W fun e w'=>e=.returned (.tuple #[.int .i64 (jo v.d v.s.journal v.s.used s),.int .i64 (Nm v.d v.s.journal v.s.used s).2])/\DA w' b sb mb lo (Nm v.d v.s.journal v.s.used s).1/\PK [] b sb mb W w'):=Mb (fun W k=>F4 v.s.journal v.s.used s (hV.da.aJ k) (by unfold SB.eF at Rn;exact ly (by omega) (by omega)) (by unfold SB.eF at Rn;exact ly (by omega) (by omega)) hs ho (by omega))
 have Te:=D2 v.d v.s.journal v.s.used s
 have HFW:Hid ((Nm v.d v.s.journal v.s.used s).1.ops<=80000/\(Nm v.d v.s.journal v.s.used s).1.waits.length<=8000):=Mb ⟨by have:=Te.ops;omega,by have:=Te.waits;omega⟩
 generalize hN:jo v.d v.s.journal v.s.used s=N at*
 obtain⟨hX1,Zd⟩:=hX _ rfl
 have Zo:=Mb hX1
 have HX2:=Mb Zd
 have HVK:Hid (∀W D,PK [] b sb mb w W->DA W b sb mb lo D->ay T W B b sb mb lo ⟨D,v.s,v.c,v.dead⟩):=Mb (fun W D k hD=>hV.pk k hD (fun x hx=>by cases hx) (by simp))
 have abD:Hid (af (w2.alloc (.cells #[.int .u64 (↑v.s.seq+1),.int .i64 v.s.sectors,.int .i64 v.s.journal,.int .i64 v.s.used,.int .i64 v.s.size,.slice p2 v.s.runs.length c2] 58)) (.slice p2 v.s.runs.length c2) v.s.runs w.heap.size w2.heap.size):=Mb TM
 have HQ:=Mb hq
 have K3:=Mb PE
 have HC:=Mb hc
 have Qw:=Mb N5
 have HV:=Mb hV
 have HGS:=Mb ZO
 have Zs:∀W,PK [] b sb mb w W->W.cell? ⟨B,0,none⟩=some (.pointer (some ⟨b,0,none⟩)):=fun W k=>by
  obtain⟨sv0,vb0,vm0,vn0,o,_,_⟩:=hV.vol
  exact(k.own o ⟨by simp,hV.off.2⟩).cell 0 (by simp[bf])
 have UN:=Mb Zs
 have Ss:=Mb oS3
 clear hX1 Zd hX Te hN hV hc N5 hm hq hs ho hw Rn QU TM k2 PE HN Zs oS3 ZO
 generalize Nm v.d v.s.journal v.s.used s=A at*
 go_upto_region 2 with fail
 generalize w2.heap.size=gS at*
 generalize w2.alloc (.cells #[.int .u64 (↑v.s.seq+1),.int .i64 v.s.sectors,.int .i64 v.s.journal,.int .i64 v.s.used,.int .i64 v.s.size,.slice p2 v.s.runs.length c2] 58)=w3 at*
 have HB:Hid (b<w.heap.size):=Mb HV.out.aQ
 have Sz:aW T w3 b sb mb gS:=HV.out.da.bh HV.out.hT K3.out HGS.out
 have P3:=Mb Sz
 have Se:Hid (∀W,PK [] b sb mb w3 W->W.cell? ⟨gv,0,none⟩=some (.pointer (some ⟨B,0,none⟩))/\W.cell? ⟨B,0,none⟩=some (.pointer (some ⟨b,0,none⟩))/\W.cell? ⟨gt,0,none⟩=some (.string (bs s))/\W.cell? ⟨gS,2,none⟩=some (.int .i64 v.s.journal)/\W.cell? ⟨gS,3,none⟩=some (.int .i64 v.s.used)):=Mb (fun W k=>by
  have kk:=(K3.out.bM (T:=[]) (sb:=sb) (mb:=mb) HB.out).trans k
  obtain⟨c1,c2,_⟩:=HC.out W (kk.mono (by simp))
  have o:=k.own Ss.out ⟨by simp,P3.out.2⟩
  obtain⟨_,_,e2,e3,_⟩:=o.c6
  exact⟨c1,UN.out W kk,c2,e2,e3⟩)
 have HB3:Hid (b<w3.heap.size):=Mb (Mo HB.out K3.out.size)
 clear Sz x0 x1 x2 x3 x4 x5 x6 y0 y1 y2 y3 y4 y5 y6
 obtain⟨y0,y1,y2,y3,y4⟩:=Se.out w3 (PK.refl _ _ _ _ _)
 go_cut [5,6]from 12 to 24 (fun v5 v6 wx=>v5=.int .i64 N/\v6=.int .i64 A.2/\DA wx b sb mb lo A.1/\PK [] b sb mb w3 wx)
 case first=>
  refine Ml (S:=(fun W=>W.cell? ⟨gv,0,none⟩=some (.pointer (some ⟨B,0,none⟩))/\W.cell? ⟨B,0,none⟩=some (.pointer (some ⟨b,0,none⟩))/\W.cell? ⟨gt,0,none⟩=some (.string (bs s))/\W.cell? ⟨gS,2,none⟩=some (.int .i64 v.s.journal)/\W.cell? ⟨gS,3,none⟩=some (.int .i64 v.s.used))) (by kernel_rfl) (by exact Se.out _ ((aa.refl [] w3).drew.bM HB3.out)) (fun hHeld=>?_)
  refine tk 0 13 ?_
  refine tk 1 14 ?_
  refine tk 2 15 ?_
  refine tk 3 16 ?_
  refine tk 4 17 ?_
  refine tk 5 18 ?_
  refine tk 6 19 ?_
  refine tk 7 20 ?_
  refine tk 8 21 ?_
  refine rd 9 (fun K hK=>?_)
  go_simp
  ((with_reducible refine(hJ.out _ (K3.out.drew)).mono ?_));rintro e w4 ⟨rfl,hD4,k4⟩
  have kk:=((aa.refl [] w3).drew.bM (T:=[]) (sb:=sb) (mb:=mb) HB3.out).trans k4
  have KK:=Mb kk
  have HD4:=Mb hD4
  clear hD4 kk k4
  go_wp2_with fail
  refine hK.out _ _ ?_ (fun hHeld=>nm ?_)
  .exact Se.out _ KK.out
  clear hK K
  refine tk 10 12 ?_
  refine tk 11 23 ?_
  refine tk 12 24 ?_
  refine tk 13 5 ?_
  refine tk 14 6 ?_
  refine MM (by kernel_rfl) ?_ _
  try simp only[List.set_cons_succ,List.set_cons_zero]
  go_wp2_with fail
  go_meet
  exact⟨rfl,rfl,HD4.out,KK.out⟩
 case rest=>
  obtain⟨rfl,rfl,hD4,k4⟩:=hcut
  rename World=>w4
  have ack:PK [] b sb mb w w4:=(K3.out.bM HB.out).trans k4
  have HD4:=Mb hD4
  have K04:=Mb ack
  have K34:=Mb k4
  clear hD4 ack k4 Se y0 y1 y2 y3 y4 hJ
  by_cases hA:A.2=0
  .have e0:(A.2==0)=true:=by rw[hA];rfl
   have Zd:=HX2.out hA
   have aay:=Mb Zd
   have oS4:=K34.out.own Ss.out ⟨by simp,P3.out.2⟩
   obtain⟨y0,y1,y2,y3,y4,y5⟩:=oS4.c6
   have z3:=oS4.free 3
   have abU:=Mb oS4
   clear Zd Zo HX2 hA oS4
   go_upto_region 6 with fail
   have oS5:ae (w4.setCell ⟨gS,3,none⟩ (.int .i64 N)) gS #[.int .u64 (↑v.s.seq+1),.int .i64 v.s.sectors,.int .i64 v.s.journal,.int .i64 N,.int .i64 v.s.size,.slice p2 v.s.runs.length c2] 58:=abU.out.L9 _
   have k45:aa [gS] w4 (w4.setCell ⟨gS,3,none⟩ (.int .i64 N)):=(aa.refl [gS] w4).setCell (p:=⟨gS,3,none⟩) (Or.inl (by simp)) _
   generalize w4.setCell ⟨gS,3,none⟩ (.int .i64 N)=w5 at*
   have QP:aW [] w4 b sb mb gS:=⟨by simp,(P3.out.pk (K34.out.mono (by simp)) Ss.out.lt).2⟩
   have Vg:b∉[gS]:=by simp only[MB];exact fun e=>P3.out.2.1 e.symm
   have Yj:DA w5 b sb mb lo A.1:=⟨HD4.out.disk.G6 k45 QP abU.out (by decide),HD4.out.fit⟩
   have Uf:PK [] b sb mb w w5:=K04.out.Cl k45 HB.out (fun x hx=>by
    obtain rfl:x=gS:=by simpa using hx
    exact Or.inr HGS.out) Vg
   have TM:=abD.out
   have Uj:bJ (SD T w3 b sb mb) (.slice p2 v.s.runs.length c2) v.s.runs.length:=(TM.new (T:=T) HV.out.da HV.out.hT K3.out (Md _)).2
   have YO:=TM.pk Uj (K34.out.mono (by simp))
   have V1:=Uj.pk (K34.out.mono (by simp)) TM.lV
   have YH:af w5 (.slice p2 v.s.runs.length c2) v.s.runs w.heap.size gS:=YO.kept k45 (fun x hx=>by
    obtain rfl:x=gS:=by simpa using hx
    exact Or.inr (Md _))
   have aa4:b8 T w5 b sb mb (.slice p2 v.s.runs.length c2) v.s.runs:=⟨⟨_,_,YH⟩,by rw[SD.GZ k45 HD4.out.aQ Vg];exact V1⟩
   have Pe:(bw v.s N).cells (.slice p2 v.s.runs.length c2)=#[.int .u64 (↑v.s.seq+1),.int .i64 v.s.sectors,.int .i64 v.s.journal,.int .i64 N,.int .i64 v.s.size,.slice p2 v.s.runs.length c2]:=by unfold SB.cells bw;simp
   have OL:=JD (T:=[]) (bw v.s N) (.slice p2 v.s.runs.length c2) Yj (fun x hx=>by cases hx) (aa4.mono (by simp)) aay.out.1 (by show v.s.seq+1<_;have:=HQ.out;omega) HFW.out.1 HFW.out.2
   have hl:=Ba b (bw v.s N) (.slice p2 v.s.runs.length c2)
   rw[Pe]at OL hl
   have QL:=Mb OL
   have HL:=Mb hl
   clear OL hl Pe
   have hb5:b<w5.heap.size:=Yj.aQ
   have Yb:=Mb hb5
   have RJ:aW T w5 b sb mb gS:=⟨P3.out.1,QP.2.1,QP.2.2.1,QP.2.2.2.1,fun hx=>QP.2.2.2.2 ((WB.gz (k45.cell (a:=⟨b,1,none⟩) HD4.out.aQ Vg)).1 hx)⟩
   have SP:=Mb RJ
   have Ym:=Mb oS5
   have K05:=Mb Uf
   have aaH:=Mb aa4
   have Wy:Hid (∀W,PK [] b sb mb w5 W->W.cell? ⟨gv,0,none⟩=some (.pointer (some ⟨B,0,none⟩))/\W.cell? ⟨B,0,none⟩=some (.pointer (some ⟨b,0,none⟩))/\W.cell? ⟨gS,0,none⟩=some (.int .u64 (↑v.s.seq+1))/\W.cell? ⟨gS,1,none⟩=some (.int .i64 v.s.sectors)/\W.cell? ⟨gS,2,none⟩=some (.int .i64 v.s.journal)/\W.cell? ⟨gS,3,none⟩=some (.int .i64 N)/\W.cell? ⟨gS,4,none⟩=some (.int .i64 v.s.size)/\W.cell? ⟨gS,5,none⟩=some (.slice p2 v.s.runs.length c2)):=Mb (fun W k=>by
    have kk:=K05.out.trans k
    obtain⟨c1,_⟩:=HC.out W (kk.mono (by simp))
    obtain⟨e0,e1,e2,e3,e4,e5⟩:=(k.own Ym.out ⟨by simp,SP.out.2⟩).c6
    exact⟨c1,UN.out W kk,e0,e1,e2,e3,e4,e5⟩)
   clear QP Vg Yj Uf TM Uj YO V1 YH aa4 hb5 RJ oS5 k45 y0 y1 y2 y3 y4 y5 z3
   obtain⟨y0,y1,y2,y3,y4,y5,y6,y7⟩:=Wy.out w5 (PK.refl _ _ _ _ _)
   generalize hCC:ah [Ni,aE (bw v.s N)] A.1=CC at*
   clear hCC
   go_cut [6]from 25 to 42 (fun v6 wx=>v6=.int .i64 CC.2/\DA wx b sb mb lo CC.1/\PK [] b sb mb w5 wx)
   case first=>
    refine Ml (S:=(fun W=>W.cell? ⟨gv,0,none⟩=some (.pointer (some ⟨B,0,none⟩))/\W.cell? ⟨B,0,none⟩=some (.pointer (some ⟨b,0,none⟩))/\W.cell? ⟨gS,0,none⟩=some (.int .u64 (↑v.s.seq+1))/\W.cell? ⟨gS,1,none⟩=some (.int .i64 v.s.sectors)/\W.cell? ⟨gS,2,none⟩=some (.int .i64 v.s.journal)/\W.cell? ⟨gS,3,none⟩=some (.int .i64 N)/\W.cell? ⟨gS,4,none⟩=some (.int .i64 v.s.size)/\W.cell? ⟨gS,5,none⟩=some (.slice p2 v.s.runs.length c2))) (by kernel_rfl) (by exact Wy.out _ ((aa.refl [] w5).drew.bM Yb.out)) (fun hHeld=>?_)
    refine tk 0 30 ?_
    refine tk 1 31 ?_
    refine tk 2 32 ?_
    refine tk 3 33 ?_
    refine tk 4 34 ?_
    refine tk 5 35 ?_
    refine tk 6 36 ?_
    refine tk 7 37 ?_
    refine tk 8 38 ?_
    refine tk 9 39 ?_
    refine rd 10 (fun K hK=>?_)
    go_simp
    ((with_reducible refine(HL.out _).mono ?_));rintro e w6 ⟨rfl,rfl⟩
    go_wp2_with fail
    refine hK.out _ _ ?_ (fun hHeld=>nm ?_)
    .exact Wy.out _ ((((aa.refl [] w5).alloc (.cells #[.pointer (some ⟨b,0,none⟩)] 23)).alloc (.cells #[.int .u64 (↑v.s.seq+1),.int .i64 v.s.sectors,.int .i64 v.s.journal,.int .i64 N,.int .i64 v.s.size,.slice p2 v.s.runs.length c2] 58)).drew.bM Yb.out)
    clear hK K
    refine rd 11 (fun K hK=>?_)
    go_simp
    refine hK.out _ _ ?_ (fun hHeld=>nm ?_)
    .exact Wy.out _ (((((aa.refl [] w5).alloc (.cells #[.pointer (some ⟨b,0,none⟩)] 23)).alloc (.cells #[.int .u64 (↑v.s.seq+1),.int .i64 v.s.sectors,.int .i64 v.s.journal,.int .i64 N,.int .i64 v.s.size,.slice p2 v.s.runs.length c2] 58)).alloc (.cells #[.func (.func 39) #[.pointer (some ⟨b,0,none⟩)] #[],.func (.func 92) #[] #[.pointer (some ⟨w5.heap.size+1,0,none⟩),.pointer (some ⟨w5.heap.size,0,none⟩)]] 42)).drew.bM Yb.out)
    clear hK K
    obtain⟨o1,o2,o3⟩:=j9 w5 #[.pointer (some ⟨b,0,none⟩)] #[.int .u64 (↑v.s.seq+1),.int .i64 v.s.sectors,.int .i64 v.s.journal,.int .i64 N,.int .i64 v.s.size,.slice p2 v.s.runs.length c2] #[.func (.func 39) #[.pointer (some ⟨b,0,none⟩)] #[],.func (.func 92) #[] #[.pointer (some ⟨w5.heap.size+1,0,none⟩),.pointer (some ⟨w5.heap.size,0,none⟩)]] 23 58 42
    refine rd 12 (fun K hK=>?_)
    go_simp
    ((with_reducible refine(QL.out _ (((((aa.refl [] w5).alloc (.cells #[.pointer (some ⟨b,0,none⟩)] 23)).alloc (.cells #[.int .u64 (↑v.s.seq+1),.int .i64 v.s.sectors,.int .i64 v.s.journal,.int .i64 N,.int .i64 v.s.size,.slice p2 v.s.runs.length c2] 58)).alloc (.cells #[.func (.func 39) #[.pointer (some ⟨b,0,none⟩)] #[],.func (.func 92) #[] #[.pointer (some ⟨w5.heap.size+1,0,none⟩),.pointer (some ⟨w5.heap.size,0,none⟩)]] 42)).drew) _ (w5.heap.size+1) w5.heap.size (by omega) (by omega) (by omega) o3.drew o2.drew o1.drew).mono ?_));rintro e w7 ⟨rfl,hD7,k7⟩
    have kk:=((((((aa.refl [] w5).alloc (.cells #[.pointer (some ⟨b,0,none⟩)] 23)).alloc (.cells #[.int .u64 (↑v.s.seq+1),.int .i64 v.s.sectors,.int .i64 v.s.journal,.int .i64 N,.int .i64 v.s.size,.slice p2 v.s.runs.length c2] 58)).alloc (.cells #[.func (.func 39) #[.pointer (some ⟨b,0,none⟩)] #[],.func (.func 92) #[] #[.pointer (some ⟨w5.heap.size+1,0,none⟩),.pointer (some ⟨w5.heap.size,0,none⟩)]] 42)).drew).bM (T:=[]) (sb:=sb) (mb:=mb) Yb.out).trans k7
    have KK:=Mb kk
    have HD7:=Mb hD7
    clear hD7 kk k7 o1 o2 o3
    go_wp2_with fail
    refine hK.out _ _ ?_ (fun hHeld=>nm ?_)
    .exact Wy.out _ KK.out
    clear hK K
    refine tk 13 6 ?_
    exact M77
   case rest=>
    obtain⟨rfl,hD7,k7⟩:=hcut
    rename World=>w7
    have Uq:PK [] b sb mb w w7:=K05.out.trans k7
    have HD7:=Mb hD7
    have K07:=Mb Uq
    have K57:=Mb k7
    have YI:=HVK.out w7 CC.1 Uq hD7
    have TN:=Mb YI
    clear hD7 Uq k7 YI y0 y1 y2 y3 y4 y5 y6 y7 QL HL
    by_cases hC:CC.2=0
    .have e1:(CC.2==0)=true:=by rw[hC];rfl
     have VN:=aay.out.2
     rw[if_pos hC]at VN
     have HX3:=Mb VN
     have HCZ:=Mb hC
     have hS7:∀W,PK [B] b sb mb w7 W->W.cell? ⟨gv,0,none⟩=some (.pointer (some ⟨B,0,none⟩))/\W.cell? ⟨gc,0,none⟩=some (.int .u32 c.nextBox)/\W.cell? ⟨gc,1,none⟩=some (.int .u32 c.nextMan)/\W.cell? ⟨gc,2,none⟩=some (.slice q1 m1 d1)/\W.cell? ⟨gc,3,none⟩=some (.slice q2 m2 d2)/\W.cell? ⟨gc,4,none⟩=some (.slice q3 m3 d3)/\W.cell? ⟨gS,0,none⟩=some (.int .u64 (↑v.s.seq+1))/\W.cell? ⟨gS,1,none⟩=some (.int .i64 v.s.sectors)/\W.cell? ⟨gS,2,none⟩=some (.int .i64 v.s.journal)/\W.cell? ⟨gS,3,none⟩=some (.int .i64 N)/\W.cell? ⟨gS,4,none⟩=some (.int .i64 v.s.size)/\W.cell? ⟨gS,5,none⟩=some (.slice p2 v.s.runs.length c2):=fun W k=>by
      have kk:=(K07.out.mono (T:=[B]) (by simp)).trans k
      obtain⟨c1,_,d0,d1,d2,d3,d4⟩:=HC.out W kk
      exact M64
     have HS7:=Mb hS7
     have Zw:=Qw.out.pk (K07.out.mono (T:=T) (by simp))
     have hr7:=aaH.out.pk (K57.out.mono (T:=T) (by simp))
     obtain⟨sv7,vb7,vm7,vn7,o7,_,_⟩:=TN.out.vol
     unfold bf at o7
     have O7:=Mb o7
     have HR7:=Mb hr7
     have VV:=Mb Zw
     obtain⟨y0,y1,y2,y3,y4,y5,y6,y7,y8,y9,y10,y11⟩:=hS7 w7 (PK.refl _ _ _ _ _)
     clear hr7 Zw hS7 o7 hC VN
     go_upto_region 8 with fail
     generalize VB:((v.s.seq:Int)+1)=q9 at*
     have HQ9:=Mb VB
     clear VB
     refine Ml (S:=(fun W=>W.cell? ⟨gv,0,none⟩=some (.pointer (some ⟨B,0,none⟩))/\W.cell? ⟨gc,0,none⟩=some (.int .u32 c.nextBox)/\W.cell? ⟨gc,1,none⟩=some (.int .u32 c.nextMan)/\W.cell? ⟨gc,2,none⟩=some (.slice q1 m1 d1)/\W.cell? ⟨gc,3,none⟩=some (.slice q2 m2 d2)/\W.cell? ⟨gc,4,none⟩=some (.slice q3 m3 d3)/\W.cell? ⟨gS,0,none⟩=some (.int .u64 q9)/\W.cell? ⟨gS,1,none⟩=some (.int .i64 v.s.sectors)/\W.cell? ⟨gS,2,none⟩=some (.int .i64 v.s.journal)/\W.cell? ⟨gS,3,none⟩=some (.int .i64 N)/\W.cell? ⟨gS,4,none⟩=some (.int .i64 v.s.size)/\W.cell? ⟨gS,5,none⟩=some (.slice p2 v.s.runs.length c2))) (by kernel_rfl) (by exact HS7.out _ (TN.out.jO (aa.refl [B] w7).drew)) (fun hHeld=>?_)
     refine tk 0 45 ?_
     refine tk 1 46 ?_
     refine tk 2 47 ?_
     refine tk 3 48 ?_
     refine tk 4 49 ?_
     refine tk 5 50 ?_
     have o8:=O7.out.drew.JR (.int .u32 c.nextBox) (.int .u32 c.nextMan) (.slice q1 m1 d1) (.slice q2 m2 d2) (.slice q3 m3 d3)
     have k8:aa [B] w7 (((((w7.drew.setCell ⟨B,7,none⟩ (.int .u32 c.nextBox)).setCell ⟨B,8,none⟩ (.int .u32 c.nextMan)).setCell ⟨B,9,none⟩ (.slice q1 m1 d1)).setCell ⟨B,10,none⟩ (.slice q2 m2 d2)).setCell ⟨B,11,none⟩ (.slice q3 m3 d3)):=(((((((aa.refl [B] w7).drew).setCell (p:=⟨B,7,none⟩) (Or.inl Mg) (.int .u32 c.nextBox)).setCell (p:=⟨B,8,none⟩) (Or.inl Mg) (.int .u32 c.nextMan)).setCell (p:=⟨B,9,none⟩) (Or.inl Mg) (.slice q1 m1 d1)).setCell (p:=⟨B,10,none⟩) (Or.inl Mg) (.slice q2 m2 d2)).setCell (p:=⟨B,11,none⟩) (Or.inl Mg) (.slice q3 m3 d3))
     refine rd 6 (fun K hK=>?_)
     refine ee rfl 52 _ _ rfl B 7 #[.int .u32 c.nextBox,.int .u32 c.nextMan,.slice q1 m1 d1,.slice q2 m2 d2,.slice q3 m3 d3] (by simp[Act.eval,Act.put]) (by simp[Act.eval,Act.put]) (O7.out.drew.there 7 5 (by simp)) (by kernel_rfl) (all_oneCell_toArray (cs:=[.int .u32 c.nextBox,.int .u32 c.nextMan,.slice q1 m1 d1,.slice q2 m2 d2,.slice q3 m3 d3]) (by intro u hu;simp at hu;rcases hu with rfl|rfl|rfl|rfl|rfl<;>rfl)) ?_
     rw[pO]
     generalize (((((w7.drew.setCell ⟨B,7,none⟩ (.int .u32 c.nextBox)).setCell ⟨B,8,none⟩ (.int .u32 c.nextMan)).setCell ⟨B,9,none⟩ (.slice q1 m1 d1)).setCell ⟨B,10,none⟩ (.slice q2 m2 d2)).setCell ⟨B,11,none⟩ (.slice q3 m3 d3))=w8 at*
     have O8:=Mb o8
     have K8:=Mb k8
     clear o8 k8
     refine hK.out _ _ ?_ (fun hHeld=>nm ?_)
     .exact HS7.out w8 (TN.out.jO K8.out)
     clear hK K
     refine tk 7 51 ?_
     refine tk 8 52 ?_
     have o9:=O8.out.JM (.int .u64 q9) (.int .i64 v.s.sectors) (.int .i64 v.s.journal) (.int .i64 N) (.int .i64 v.s.size) (.slice p2 v.s.runs.length c2)
     have k9:aa [B] w7 ((((((w8.setCell ⟨B,1,none⟩ (.int .u64 q9)).setCell ⟨B,2,none⟩ (.int .i64 v.s.sectors)).setCell ⟨B,3,none⟩ (.int .i64 v.s.journal)).setCell ⟨B,4,none⟩ (.int .i64 N)).setCell ⟨B,5,none⟩ (.int .i64 v.s.size)).setCell ⟨B,6,none⟩ (.slice p2 v.s.runs.length c2)):=((((((K8.out.setCell (p:=⟨B,1,none⟩) (Or.inl Mg) (.int .u64 q9)).setCell (p:=⟨B,2,none⟩) (Or.inl Mg) (.int .i64 v.s.sectors)).setCell (p:=⟨B,3,none⟩) (Or.inl Mg) (.int .i64 v.s.journal)).setCell (p:=⟨B,4,none⟩) (Or.inl Mg) (.int .i64 N)).setCell (p:=⟨B,5,none⟩) (Or.inl Mg) (.int .i64 v.s.size)).setCell (p:=⟨B,6,none⟩) (Or.inl Mg) (.slice p2 v.s.runs.length c2))
     refine rd 9 (fun K hK=>?_)
     refine ee rfl 58 _ _ rfl B 1 #[.int .u64 q9,.int .i64 v.s.sectors,.int .i64 v.s.journal,.int .i64 N,.int .i64 v.s.size,.slice p2 v.s.runs.length c2] (by simp[Act.eval,Act.put]) (by simp[Act.eval,Act.put]) (O8.out.there 1 6 (by simp)) (by kernel_rfl) (all_oneCell_toArray (cs:=[.int .u64 q9,.int .i64 v.s.sectors,.int .i64 v.s.journal,.int .i64 N,.int .i64 v.s.size,.slice p2 v.s.runs.length c2]) (by intro u hu;simp at hu;rcases hu with rfl|rfl|rfl|rfl|rfl|rfl<;>rfl)) ?_
     rw[pN]
     generalize ((((((w8.setCell ⟨B,1,none⟩ (.int .u64 q9)).setCell ⟨B,2,none⟩ (.int .i64 v.s.sectors)).setCell ⟨B,3,none⟩ (.int .i64 v.s.journal)).setCell ⟨B,4,none⟩ (.int .i64 N)).setCell ⟨B,5,none⟩ (.int .i64 v.s.size)).setCell ⟨B,6,none⟩ (.slice p2 v.s.runs.length c2))=w9 at*
     have O9:=Mb o9
     have K9:=Mb k9
     clear o9 k9
     refine hK.out _ _ ?_ (fun hHeld=>nm ?_)
     .exact HS7.out w9 (TN.out.jO K9.out)
     clear hK K
     have hv9:ay T w9 B b sb mb lo ⟨CC.1,bw v.s N,c,v.dead⟩:=TN.out.Be (s:=bw v.s N) (c:=c) (dead:=v.dead) K9.out (by
      have e:((bw v.s N).seq:Int)=q9:=by show((v.s.seq+1:Nat):Int)=q9;have:=HQ9.out;omega
      unfold bf
      rw[e]
      exact O9.out) HR7.out VV.out
     exact M46
    .have e1:(CC.2==0)=false:=by rw[ME];exact hC
     have VN:=aay.out.2
     exact M78
  .have e0:(A.2==0)=false:=by rw[ME];exact hA
   have adU:=Mb (Zo.out hA)
   have hV4:=HVK.out w4 A.1 K04.out HD4.out
   have HV4:=Mb hV4
   clear hA Zo HX2 hV4
   go_wp2_with fail
   go_ret
   rw[adU.out]
   exact⟨rfl,HV4.out,K04.out.mono (by simp)⟩
end Go.Proofs.YtdkimcnlhmhpgaaGreat

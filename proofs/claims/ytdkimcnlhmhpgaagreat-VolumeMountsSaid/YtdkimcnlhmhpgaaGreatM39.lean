/- -/
import Derived.Test.YtdkimcnlhmhpgaaGreatM38
set_option maxHeartbeats 32000000
set_option maxRecDepth 100000
namespace Go.Proofs.YtdkimcnlhmhpgaaGreat
open Go.Proofs.Tryz Go.RowKit
variable {w:World}
theorem aI.MF {w0:World} {v:Value} {l:List ag} (h:aI w0 w v l) (i:Nat) (hi:i<l.length):
  ∃b off kv c,v=.slice (some ⟨b,off,none⟩) l.length c/\w.cell? ⟨b,off+i*5,none⟩=some (.int .i64 l[i].kind)/\w.cell? ⟨b,off+i*5+1,none⟩=some (.int .u32 l[i].id)/\w.cell? ⟨b,off+i*5+2,none⟩=some (.string (bs l[i].name))/\w.cell? ⟨b,off+i*5+3,none⟩=some (.int .i64 l[i].size)/\w.cell? ⟨b,off+i*5+4,none⟩=some kv/\aE w0 w kv l[i].runs/\l[i].fits:=by
 obtain⟨vs,rfl,h2,h3⟩:=h
 have hi':i<vs.length:=_D
 obtain⟨g,c,rfl,g1,g2,g3,g4,g5⟩:=cU h2 _e
 have hg:=fun j u hj=>g5 (i*5+j) u (jd vs i hi' j u hj)
 have⟨r1,r2⟩:=h3 _ (MJ hi')
 refine⟨g,0,vs[i].2,c,rfl,?_,?_,?_,?_,?_,by rw[Ny];exact r1,by rw[Ny];exact r2⟩
 .rw[Nat.zero_add,Ny];exact hg 0 _ rfl
 .rw[Nat.zero_add,Ny];exact hg 1 _ rfl
 .rw[Nat.zero_add,Ny];exact hg 2 _ rfl
 .rw[Nat.zero_add,Ny];exact hg 3 _ rfl
 .rw[Nat.zero_add];exact hg 4 _ rfl
theorem KG {s:List UInt8} (h:16<=s.length):Ol 4 s 0=(s.take 4,s.drop 4,0):=by
 unfold Ol
 rw[if_neg _b,if_neg _d,if_neg _a]
 rfl
theorem M46 {A:Prop}(h:A:=by
 have⟨y0,y1,y2,y3,y4⟩:=OA7.out.k5
 have⟨g0,g1,g2,g3,g4⟩:=OA7.out.y5
 go_wp2_with fail
 refine MN (v:=.tuple #[.agg #[.int .u32 0,.int .u32 0,(),(),()],false]) (aj results200 rfl rfl (t:=52) ?_ underlying52 rfl _c) rfl ?_
 .exact OA7.out.aV _ _ _ _ _
 .exact jt Pk.out (NP.ay K7.out (Or.inr (MG _)) _ _ _ _ _)):A:=h
theorem M40 {A:Prop}(h:A:=by
 have Pk:=tK (HBK.out (fun hh=>by have:=HBM.out.2 hh.1;cases this))
 have⟨y0,y1,y2,y3,y4⟩:=WQ.out.k5
 have⟨g0,g1,g2,g3,g4⟩:=WQ.out.y5
 go_wp2_with fail
 refine MN (v:=.tuple #[.agg #[.int .u32 0,.int .u32 0,(),(),()],false]) (aj results200 rfl rfl (t:=52) ?_ underlying52 rfl _c) rfl ?_
 .exact WQ.out.aV _ _ _ _ _
 .exact jt Pk.out (NP.ay K9.out (Or.inr (MG _)) _ _ _ _ _)):A:=h
theorem M13 {A:Prop}(h:A:=by
 have VT:=tK (HBM.out.1 rfl)
 have⟨z0,z1,z2,z3,z4⟩:=OB9.out.k5
 go_wp2_with fail
 refine(HP.out VT.out _ KX.out).mono ?_;rintro e wa ⟨rfl,ka⟩
 have KA:=tK (K9.out.trans ka)
 have KXA:=tK (KX.out.trans ka)
 have OAA:=tK (ka.own WQ.out _b)
 have OBA:=tK (ka.own OB9.out _b)
 have⟨z0,z1,z2,z3,z4⟩:=OBA.out.k5
 clear ka
 by_cases hp:bN C=s
 .have q1:((bs (bN C)).toList==(bs s).toList)=true:=by rw[hp];simp
  have HPE:=tK hp
  have Rv:=tK (QK.out wa KXA.out).2
  have⟨y0,y1,y2,y3,y4⟩:=OAA.out.k5
  have⟨g0,g1,g2,g3,g4⟩:=OAA.out.y5
  clear hp
  go_wp2_with fail
  refine MN (v:=.tuple #[.agg #[(nb,()),(nm,()),(p1,n1,c1),(p2,n2,c2),(p3,n3,c3)],true]) (aj results200 rfl rfl (t:=52) ?_ underlying52 rfl _c) rfl ?_
  .exact OAA.out.aV _ _ _ _ _
  .exact wW VT.out HPE.out ((Rv.out _ _ OAA.out _ _ _ _ _).cI (fun x hx=>MR hx K6.out.size)) (NP.ay KA.out (Or.inr (MG _)) _ _ _ _ _)
 .have q1:((bs (bN C)).toList==(bs s).toList)=false:=by rw[bj,bj];simpa using hp
  have Pk:=tK (HBK.out (fun hh=>hp hh.2))
  clear hp
  have⟨y0,y1,y2,y3,y4⟩:=OAA.out.k5
  have⟨g0,g1,g2,g3,g4⟩:=OAA.out.y5
  go_wp2_with fail
  refine MN (v:=.tuple #[.agg #[.int .u32 0,.int .u32 0,(),(),()],false]) (aj results200 rfl rfl (t:=52) ?_ underlying52 rfl _c) rfl ?_
  .exact OAA.out.aV _ _ _ _ _
  .exact jt Pk.out (NP.ay KA.out (Or.inr (MG _)) _ _ _ _ _)):A:=h
theorem Ho (s:List UInt8) (w:World) (hs:s.length<=1000000) (HL:∀ls,O4 ((s.take (s.length-4)).drop 12)=some ls->∀l∈ls,l.length<=3000):
  am! 200 #[s] w (jG s w):=by
 obtain⟨i0,q0,q1,q2,q3⟩:=fg
 have⟨HLL,HS⟩:=_f HL hs
 have oA0:=ae.new w #[.int .u32 0,.int .u32 0,(),(),()] 52
 have OA0:=tK oA0
 have K0:Hid (NP [] w (w.alloc (.cells #[.int .u32 0,.int .u32 0,(),(),()] 52))):=tK ((NP.refl _ _).alloc _)
 have hz:((bs s).size:Int)=s.length:=ak!
 have Qx:(bs s).size=s.length:=NQ s
 have j0:(s.length:Int)<=1000000:=_a
 clear oA0 HL hs
 by_cases g0:16<=s.length
 .have d0:decide ((s.length:Int)<16)=false:=_e
  have Qh:=ae.new (w.alloc (.cells #[.int .u32 0,.int .u32 0,(),(),()] 52)) #[s,(0:Int),(0:Int)] 263
  rw[Nd]at Qh
  have RR1:Hid (aK ((w.alloc (.cells #[.int .u32 0,.int .u32 0,(),(),()] 52)).alloc (.cells #[s,(0:Int),(0:Int)] 263)) (w.heap.size+1) s 0):=tK ⟨s,0,Qh,_a,HS.out,_b,fun h=>absurd rfl h⟩
  have OA1:=tK (OA0.out.alloc (.cells #[s,(0:Int),(0:Int)] 263))
  have K1:=tK (K0.out.alloc (.cells #[s,(0:Int),(0:Int)] 263))
  obtain⟨m,hm⟩:∃m,m+4=s.length:=⟨s.length-4,_a⟩
  have hm4:s.length-4=m:=_a
  have HEM:Hid (IntKind.i64.wrap ((s.length:Int)-4)=(m:Int)):=tK _S
  have E12:(bs s).extract 12 m=bs ((s.take (s.length-4)).drop 12):=by rw[aY,hm4,List.drop_take]
  have HJR:Hid (∀W,am! 132 #[.string ((bs s).extract 12 m)] W (kh ((s.take (s.length-4)).drop 12) W)):=tK (fun W=>by
   rw[E12]
   exact GE _ W (by rw[MQ,MO];omega))
  obtain⟨u,hu⟩:∃u,s.drop 4=u:=⟨_,rfl⟩
  have Sm:Hid (∀W b,aK W b s 0->am! 203 #[.pointer (some ⟨b,0,none⟩),(4:Int)] W fun r w'=>r=.returned (.string (bs (s.take 4)))/\aK w' b u 0/\NP [b] W w'):=tK (fun W b hr=>by
   have:=mH b s 0 4 W hr
   rw[KG g0,hu]at this
   exact this)
  obtain⟨nb,RG⟩:∃nb:Int,(nbT u:Int)=nb:=⟨_,rfl⟩
  obtain⟨nm,Rb⟩:∃nm:Int,(nmT u:Int)=nm:=⟨_,rfl⟩
  have ZU:Hid (∀W b,aK W b u 0->am! 202 #[.pointer (some ⟨b,0,none⟩),(4:Int)] W fun r w'=>r=.returned (.int .u64 nb)/\aK w' b (N6 4 u 0).2.1 (N6 4 u 0).2.2/\NP [b] W w'):=tK (fun W b hr=>by rw[<-RG];exact qk b u 0 W hr)
  have YQ:Hid (∀W b,aK W b (N6 4 u 0).2.1 (N6 4 u 0).2.2->am! 202 #[.pointer (some ⟨b,0,none⟩),(4:Int)] W fun r w'=>r=.returned (.int .u64 nm)/\NP [b] W w'):=tK (fun W b hr=>by
   rw[<-Rb]
   exact(qk b _ _ W hr).mono (fun e w' hh=>⟨hh.1,hh.2.2⟩))
  have S6:Hid ((Lit.int .u32 nb).wf=true):=tK (by rw[<-RG];exact qo u 0)
  have S3:Hid ((Lit.int .u32 nm).wf=true):=tK (by rw[<-Rb];exact qo _ _)
  have adV:Hid (IntKind.u32.wrap nb=nb):=tK (by have⟨b1,b2⟩:=eG S6.out;exact lW b1 b2)
  have aei:Hid (IntKind.u32.wrap nm=nm):=tK (by have⟨b1,b2⟩:=eG S3.out;exact lW b1 b2)
  have HCT:Hid (∀ls,Qr u ls=⟨nb,nm,aH 1 ls.flatten,aH 2 ls.flatten,aH 3 ls.flatten⟩):=tK (fun ls=>by unfold Qr;rw[RG,Rb])
  have Uy:=tK (fun ls h hh=>yA (s:=s) (ls:=ls) h hh)
  rw[hu]at Uy
  have WY:=tK (fun ls h hh=>yz (s:=s) (ls:=ls) h hh)
  have Se:=tK (fun h=>yx (s:=s) h)
  generalize (s.take (s.length-4)).drop 12=z at*
  have i1:(12:Int)<=m:=_a
  have i2:(m:Int)<=s.length:=_a
  have i3:12<=m:=_a
  have i4:m<=s.length:=_a
  clear Qh hm hm4 E12 RG Rb hu g0
  unfold kh at HJR
  go_enter func200,ntmps200
  go_wp2_with fail
  refine(Sm.out _ _ RR1.out).mono ?_;rintro e w2 ⟨rfl,rr2,k2⟩
  have RR2:=tK rr2
  have K2:=tK (K1.out.call k2 (fun x hx=>Or.inr (by have e:x=w.heap.size+1:=_h;omega)))
  have UW:=tK (k2.own OA1.out _b)
  clear rr2 k2
  go_wp2_with fail
  refine(ZU.out _ _ RR2.out).mono ?_;rintro e w3 ⟨rfl,rr3,k3⟩
  have RR3:=tK rr3
  have K3:=tK (K2.out.call k3 (fun x hx=>Or.inr (by have e:x=w.heap.size+1:=_h;omega)))
  have Uh:=tK (k3.own UW.out _b)
  clear rr3 k3
  have ew1:=adV.out
  go_wp2_with fail
  clear ew1
  refine(YQ.out _ _ RR3.out).mono ?_;rintro e w5 ⟨rfl,k5⟩
  have K5:=tK (K3.out.call k5 (fun x hx=>Or.inr (by have e:x=w.heap.size+1:=_h;omega)))
  have OA5:=tK (k5.own Uh.out _b)
  clear k5
  have OB6:=tK (ae.new w5 #[(nb,()),(nm,()),(),(),()] 52)
  have OA6:=tK (OA5.out.alloc (.cells #[(nb,()),(nm,()),(),(),()] 52))
  have K6:=tK (K5.out.alloc (.cells #[(nb,()),(nm,()),(),(),()] 52))
  have Xv:Hid (w.heap.size<w5.heap.size):=tK OA5.out.lt
  have ew2:=aei.out
  have EM:=HEM.out
  go_wp2_with fail
  clear ew2 EM
  refine(HJR.out _).mono ?_;rintro e w7 ⟨hjr,k7⟩
  have K7:=tK (K6.out.trans k7)
  have OA7:=tK (k7.own OA6.out _b)
  have OB7:=tK (k7.own OB6.out _b)
  have aac:Hid ((w5.alloc (.cells #[(nb,()),(nm,()),(),(),()] 52)).heap.size<=w7.heap.size):=tK k7.size
  clear k7
  generalize w5.heap.size=bx at*
  rcases hjr with⟨ls,v,P0,Tt,rfl⟩|⟨P0,rfl⟩
  .have VU:=tK Tt
   obtain⟨p8,c8,rfl⟩:=Tt.shape
   have Up:=tK P0
   have HLE:=tK (HLL.out ls P0)
   have RZ:=tK (fun l hl=>(kO P0 l hl).1)
   clear Tt
   by_cases g3:ls.length<=1
   .have d3:decide ((ls.length:Int)>1)=false:=_e
    have d3':decide ((1:Int)<ls.length)=false:=d3
    have d3n:decide (1<ls.length)=false:=_e
    have SP:Hid (bx<w7.heap.size):=tK OB7.out.lt
    generalize hw6:w5.alloc (.cells #[(nb,()),(nm,()),(),(),()] 52)=w6 at*
    have abE:Hid (∀k (hk:k<ls.length),∃b off kv,p8=some ⟨b,off,none⟩/\∀W,NP [bx] w7 W->W.cell? ⟨b,off+k,none⟩=some kv/\aI w6 W kv ls[k]):=tK (fun k hk=>by
     have⟨b,off,kv,c,e,hh⟩:=VU.out.at_ k hk
     injection e with e
     exact⟨b,off,kv,e,fun W q=>hh W _ q (ig.one OB7.out _d _d _d)⟩)
    have XQ:Hid (∀W,NP [bx] w7 W->ae W w #[.int .u32 0,.int .u32 0,(),(),()] 52):=tK (fun W q=>q.own OA7.out (by have:=Xv.out;simp;omega))
    have V6:Hid (∀W,NP [bx] w7 W->NP [] w W):=tK (fun W q=>K7.out.call q (fun x hx=>Or.inr (by have e:x=bx:=_h;rw[e];have:=Xv.out;omega)))
    have HBK:=tK (Uy.out ls P0)
    have S9:=tK (HCT.out ls)
    have G0:=tK (fo.start (base:=w6.heap.size) OB7.out)
    clear P0 hw6
    go_wp2_with fail
    clear d3 d3' d3n
    by_cases Qw:ls=[]
    .subst Qw
     refine wp_loop_rounds 1 ?_
     rw[rounds_succ]
     go_upto_region 20 with fail
     have hG:fo w6 w7 w7 bx nb nm (aH 1 ([]:List (List ag)).flatten) (aH 2 ([]:List (List ag)).flatten) (aH 3 ([]:List (List ag)).flatten):=G0.out
     have ZL:Hid (([]:List (List ag)).flatten.length<=3000):=tK _b
     obtain⟨wr,rfl⟩:∃wr,wr=w7:=⟨_,rfl⟩
     obtain⟨va,vb,vc,⟨⟨p1,n1,c1,rfl⟩,⟨p2,n2,c2,rfl⟩,⟨p3,n3,c3,rfl⟩⟩,ob,hkp,Oz⟩:=hG.cat S6.out S3.out
     rw[<-S9.out]at Oz
     have S2:=nV (u:=u) RZ.out ZL.out
     have HM:Hid (∀W,NP [] wr W->am! 206 #[.agg #[(nb,()),(nm,()),(p1,n1,c1),(p2,n2,c2),(p3,n3,c3)]] W (bG (OL (Qr u _)) W)):=tK (fun W q=>AE _ _ W (Oz W q).1.plain S2.1)
     have HP:Hid (OL (Qr u _)->∀W,NP [] wr W->am! 147 #[.agg #[(nb,()),(nm,()),(p1,n1,c1),(p2,n2,c2),(p3,n3,c3)]] W fun e w'=>e=.returned (.string (bs (bN (Qr u _))))/\NP [] W w'):=tK (fun hm W q=>zj _ _ W (Oz W q).1.plain hm S2.2)
     have⟨QK,OB⟩:=_f Oz ob
     have OA:=tK (XQ.out wr hkp)
     have KW:=tK (V6.out wr hkp)
     have⟨z0,z1,z2,z3,z4⟩:=ob.k5
     clear hG hkp Oz ob S2
     unfold bG at HM
     generalize Qr u _=C at*
     go_wp2_with fail
     refine(HM.out _ (NP.refl _ _)).mono ?_;rintro e w9 ⟨bm,rfl,hbm,k9⟩
     have K9:=tK (KW.out.trans k9)
     have KX:=tK k9
     have WQ:=tK (k9.own OA.out _b)
     have OB9:=tK (k9.own OB.out _b)
     have HBM:=tK hbm
     clear k9 hbm z0 z1 z2 z3 z4
     cases bm with
     |false=>
      exact M40
     |true=>
      exact M13
    .obtain⟨l0,rfl⟩:∃l0,ls=[l0]:=by
      cases ls with
      |nil=>exact absurd rfl Qw
      |cons a t=>
       have:t=[]:=Nc (by simpa using g3)
       subst this
       exact⟨a,rfl⟩
     have ZZ:=HLE.out l0 _b
     have HL1:=tK ZZ
     have ZL:Hid (([l0]:List (List ag)).flatten.length<=3000):=tK (by simpa using ZZ)
     obtain⟨b,off,kv,rfl,ZV⟩:=abE.out 0 _b
     simp only[Nat.add_zero,List.getElem_cons_zero]at ZV
     obtain⟨p9,c9,rfl⟩:=(ZV w7 (NP.refl _ _)).2.shape
     have HKV:=tK ZV
     have HML:=tK (RZ.out l0 _b)
     have j5:(l0.length:Int)<=3000:=_a
     clear ZZ ZV g3 Qw
     simp only[Nj,List.length_nil,Nat.zero_add]
     go_loopw [8] (fun i wx=>∃j:Nat,j<=l0.length/\i=(j:Int)/\fo w6 w7 wx bx nb nm (aH 1 (l0.take j)) (aH 2 (l0.take j)) (aH 3 (l0.take j))) (fun i _=>l0.length-(intOf i).toNat)
     case atStart=>exact⟨0,Nb _,rfl,G0.out⟩
     case round=>
      obtain⟨j,hj,rfl,hG⟩:=hrel
      rename World=>wx
      by_cases WE:j<l0.length
      .have i5:(j:Int)<l0.length:=_a
       have⟨va0,vb0,vc0,_,_,hkp,_⟩:=hG.cat S6.out S3.out
       have⟨hc0,Q8⟩:=HKV.out wx hkp
       have⟨b',off',rv,cc,e9,y0,y1,y2,y3,y4,VV,Oq⟩:=Q8.MF j WE
       injection e9 with e9 _ e9c
       subst e9 e9c
       have VA:=HML.out l0[j] (MJ WE)
       have T7:=sV VA Oq
       have SI:Hid (∀k,aH k (l0.take (j+1))=gh l0[j].kind k l0[j].item (aH k (l0.take j))):=tK (fun k=>by rw[MI WE,s7])
       have HLK:Hid (∀k,(aH k (l0.take j)).length<=3000):=tK (fun k=>by
        have h1:=ve k (l0.take j)
        rw[MO]at h1
        have:=HL1.out;omega)
       have HOI:Hid (∀W,NP [] wx W->dM w6 W (l0[j].item,rv)):=tK (fun W q=>⟨(VV.kept0 q),ag.jW Oq,T7⟩)
       have⟨HG,Yt⟩:=_f hG WE
       obtain⟨pr,nr,cr,rfl⟩:fP rv:=by
        obtain⟨p,c,rfl⟩:=ah VV
        exact⟨_,_,_,rfl⟩
       clear hG hkp Q8 VV Oq VA T7 hj
       generalize l0[j]'WE=r at*
       clear WE
       obtain⟨kd,id,nm',sz,rr⟩:=r
       simp only[ag.item]at y0 y1 y2 y3 y4 SI HOI
       go_upto_region 14 with fail
       obtain⟨W2,hW2⟩:∃W2,W2=(wx.alloc (.cells #[kd,(id,()),nm',sz,(pr,nr,cr)] 102)).alloc (.cells #[(id,()),nm',sz,(pr,nr,cr)] 113):=⟨_,rfl⟩
       have k2:NP [] wx W2:=by rw[hW2];exact((NP.refl _ _).alloc _).alloc _
       have o9:ae W2 wx #[kd,(id,()),nm',sz,(pr,nr,cr)] 102:=by rw[hW2];exact(ae.new _ _ _).alloc _
       have o10:ae W2 (wx.heap.size+1) #[(id,()),nm',sz,(pr,nr,cr)] 113:=by
        have:=ae.new (wx.alloc (.cells #[kd,(id,()),nm',sz,(pr,nr,cr)] 102)) #[(id,()),nm',sz,(pr,nr,cr)] 113
        rw[Nd]at this
        rw[hW2];exact this
       rw[<-hW2]
       have hoi:=HOI.out W2 k2
       have⟨va,vb,vc,xs,ys,zs,ob,r3,e1,e2,e3,kk,acG,acg,acA⟩:=HG.out.kept0 k2
       have hxs:xs.length<=3000:=by have:=HLK.out 1;rw[<-e1,MP]at this;exact this
       have Uz:ys.length<=3000:=by have:=HLK.out 2;rw[<-e2,MP]at this;exact this
       have YF:zs.length<=3000:=by have:=HLK.out 3;rw[<-e3,MP]at this;exact this
       have⟨HXS,HYS,HZS,O9,O10,OB,R3,KK,abt⟩:=gb! hxs Uz YF o9 o10 ob r3 kk hoi
       have Ss:=tK (And.intro acG (And.intro acg acA))
       have WJ:Hid (wx.heap.size≠bx):=tK (fun e=>by
        have h1:=HG.out
        obtain⟨_,_,_,_,_,_,o,_⟩:=h1
        have:=o.lt;omega)
       obtain⟨p1,c1,rfl⟩:=ah r3.ra
       obtain⟨p2,c2,rfl⟩:=ah r3.rb
       obtain⟨p3,c3,rfl⟩:=ah r3.rc
       have⟨z0,z1,z2,z3,z4⟩:=ob.k5
       have⟨t0,t1,t2,t3⟩:=o10.c4
       have k0:W2.cell? wx=kd:=o9.cell 0 _b
       have ZI:Hid (∀k,aH k (l0.take (j+1))=gh kd k ⟨id,nm',sz,rr⟩ (aH k (l0.take j))):=SI
       have HE:=tK (And.intro e1 (And.intro e2 e3))
       clear hxs Uz YF o9 o10 ob r3 kk hoi acG acg acA hW2 k2 e1 e2 e3 y0 y1 y2 y3 y4 HOI HG SI HLK
       by_cases h1:kd=1
       .subst h1
        go_wp2_with (at_builtin;go_must (refine MT _ rfl (.tmp 76) (.tmp 78) 50 rfl w6 113 i0 _ 4 56 underlying50 q0 q1 q2 q3 rfl _d _ _ _ rfl (MH R3.out.ra _) W2 1 1 (Pt ⟨id,nm',sz,rr⟩ (pr,nr,cr)) rfl rfl ?_ ?_ (by have:=HXS.out;unfold maxLen;omega) (by have:=HXS.out;omega) ?_ ?_))
        .first|exact World.news_of_block (Ns W2 _)|(intro j u hj;exact hj)
        .intro u hu;simp[Pt]at hu;rcases hu with rfl|rfl|rfl|rfl<;>rfl
        .have:=KK.out.size;have:=aac.out;simp;omega
        intro v9 w9 Y8 gr9 _ hb9
        have⟨Va,R6,K6',hlo6,hown6⟩:=fo.put (x:=(⟨id,nm',sz,rr⟩,(pr,nr,cr))) OB.out R3.out abt.out KK.out Ss.out.1 gr9 Y8 (by rw[Nd];exact hb9)
        have⟨R66,K66,Yi,SH⟩:=gh! R6 K6' hlo6 Va
        have O99:=tK (hown6 _ _ _ O9.out _d)
        obtain⟨p6,c6,rfl⟩:=ah Y8
        have b0:=SH.out.cell 2 _b
        simp only[List.getElem_toArray,List.getElem_cons_zero,Nt]at b0
        have b1:=SH.out.free 2
        have k9:(w9.setCell (aa bx 2) (p6,xs.length+1,c6)).cell? wx=(1:Int):=(O99.out.other (p:=(aa bx 2)) WJ.out _).cell 0 _b
        clear Y8 gr9 hb9 Va R6 K6' hlo6 hown6 z0 z1 z2 z3 z4 t0 t1 t2 t3 k0
        go_wp2_with fail
        go_roundw
        case rel=>(repeat apply Exists.intro);refine⟨?_,rfl⟩;exact⟨j+1,Yt.out,_G,_,_,_,(xs++[(⟨id,nm',sz,rr⟩,.slice pr nr cr)]),ys,zs,SH.out.set 2 _,R66.out.set SH.out 2 _,(by rw[ZI.out 1,M0,HE.out.1];rfl),(by rw[ZI.out 2,HE.out.2.1];rfl),(by rw[ZI.out 3,HE.out.2.2];rfl),K66.out.setCell (p:=(aa bx 2)) (Or.inl _b) _,Yi.out,Ss.out.2.1,Ss.out.2.2⟩
        case measure=>(have hh:=Yt.out;simp[intOf];omega)
       .by_cases h2:kd=2
        .subst h2
         go_wp2_with (at_builtin;go_must (refine MT _ rfl (.tmp 85) (.tmp 87) 50 rfl w6 113 i0 _ 4 56 underlying50 q0 q1 q2 q3 rfl _d _ _ _ rfl (MH R3.out.cM.ra _) W2 1 1 (Pt ⟨id,nm',sz,rr⟩ (pr,nr,cr)) rfl rfl ?_ ?_ (by have:=HYS.out;unfold maxLen;omega) (by have:=HYS.out;omega) ?_ ?_))
         .first|exact World.news_of_block (Ns W2 _)|(intro j u hj;exact hj)
         .intro u hu;simp[Pt]at hu;rcases hu with rfl|rfl|rfl|rfl<;>rfl
         .have:=KK.out.size;have:=aac.out;simp;omega
         intro v9 w9 Y8 gr9 _ hb9
         have⟨Va,R6,K6',hlo6,hown6⟩:=fo.put (x:=(⟨id,nm',sz,rr⟩,(pr,nr,cr))) OB.out R3.out.cM abt.out KK.out Ss.out.2.1 gr9 Y8 (by rw[Nd];exact hb9)
         have⟨R66,K66,Yi,SH⟩:=gh! R6.cM.cM K6' hlo6 Va
         have O99:=tK (hown6 _ _ _ O9.out _d)
         obtain⟨p6,c6,rfl⟩:=ah Y8
         have b0:=SH.out.cell 3 _b
         simp only[List.getElem_toArray,List.getElem_cons_zero,Nt]at b0
         have b1:=SH.out.free 3
         have k9:(w9.setCell (aa bx 3) (p6,ys.length+1,c6)).cell? wx=(2:Int):=(O99.out.other (p:=(aa bx 3)) WJ.out _).cell 0 _b
         clear Y8 gr9 hb9 Va R6 K6' hlo6 hown6 z0 z1 z2 z3 z4 t0 t1 t2 t3 k0
         go_wp2_with fail
         go_roundw
         case rel=>(repeat apply Exists.intro);refine⟨?_,rfl⟩;exact⟨j+1,Yt.out,_G,_,_,_,xs,(ys++[(⟨id,nm',sz,rr⟩,.slice pr nr cr)]),zs,SH.out.set 3 _,R66.out.set SH.out 3 _,(by rw[ZI.out 1,HE.out.1];rfl),(by rw[ZI.out 2,M0,HE.out.2.1];rfl),(by rw[ZI.out 3,HE.out.2.2];rfl),K66.out.setCell (p:=(aa bx 3)) (Or.inl _b) _,Ss.out.1,Yi.out,Ss.out.2.2⟩
         case measure=>(have hh:=Yt.out;simp[intOf];omega)
        .by_cases h3:kd=3
         .subst h3
          go_wp2_with (at_builtin;go_must (refine MT _ rfl (.tmp 94) (.tmp 96) 50 rfl w6 113 i0 _ 4 56 underlying50 q0 q1 q2 q3 rfl _d _ _ _ rfl (MH R3.out.cM.cM.ra _) W2 1 1 (Pt ⟨id,nm',sz,rr⟩ (pr,nr,cr)) rfl rfl ?_ ?_ (by have:=HZS.out;unfold maxLen;omega) (by have:=HZS.out;omega) ?_ ?_))
          .first|exact World.news_of_block (Ns W2 _)|(intro j u hj;exact hj)
          .intro u hu;simp[Pt]at hu;rcases hu with rfl|rfl|rfl|rfl<;>rfl
          .have:=KK.out.size;have:=aac.out;simp;omega
          intro v9 w9 Y8 gr9 _ hb9
          have⟨Va,R6,K6',hlo6,hown6⟩:=fo.put (x:=(⟨id,nm',sz,rr⟩,(pr,nr,cr))) OB.out R3.out.cM.cM abt.out KK.out Ss.out.2.2 gr9 Y8 (by rw[Nd];exact hb9)
          have⟨R66,K66,Yi,SH⟩:=gh! R6.cM K6' hlo6 Va
          have O99:=tK (hown6 _ _ _ O9.out _d)
          obtain⟨p6,c6,rfl⟩:=ah Y8
          have b0:=SH.out.cell 4 _b
          simp only[List.getElem_toArray,List.getElem_cons_zero,Nt]at b0
          have b1:=SH.out.free 4
          have k9:(w9.setCell (aa bx 4) (p6,zs.length+1,c6)).cell? wx=(3:Int):=(O99.out.other (p:=(aa bx 4)) WJ.out _).cell 0 _b
          clear Y8 gr9 hb9 Va R6 K6' hlo6 hown6 z0 z1 z2 z3 z4 t0 t1 t2 t3 k0
          go_wp2_with fail
          go_roundw
          case rel=>(repeat apply Exists.intro);refine⟨?_,rfl⟩;exact⟨j+1,Yt.out,_G,_,_,_,xs,ys,(zs++[(⟨id,nm',sz,rr⟩,.slice pr nr cr)]),SH.out.set 4 _,R66.out.set SH.out 4 _,(by rw[ZI.out 1,HE.out.1];rfl),(by rw[ZI.out 2,HE.out.2.1];rfl),(by rw[ZI.out 3,M0,HE.out.2.2];rfl),K66.out.setCell (p:=(aa bx 4)) (Or.inl _b) _,Ss.out.1,Ss.out.2.1,Yi.out⟩
          case measure=>(have hh:=Yt.out;simp[intOf];omega)
         .have f1:(kd==1)=false:=_P
          have f2:(kd==2)=false:=e!
          have f3:(kd==3)=false:=by simpa using h3
          have HF:Hid (∀k,k=1\/k=2\/k=3->aH k (l0.take (j+1))=aH k (l0.take j)):=tK (fun k hk=>by rw[ZI.out k];unfold gh;rw[if_neg _a])
          clear h1 h2 h3
          go_wp2_with fail
          go_roundw
          case rel=>exact⟨j+1,Yt.out,_G,_,_,_,xs,ys,zs,OB.out,R3.out,by rw[HF.out 1 _a];exact HE.out.1,by rw[HF.out 2 _a];exact HE.out.2.1,by rw[HF.out 3 _a];exact HE.out.2.2,KK.out,Ss.out.1,Ss.out.2.1,Ss.out.2.2⟩
          case measure=>(have hh:=Yt.out;simp[intOf];omega)
      .obtain rfl:j=l0.length:=_a
       rw[MU]at hG
       have hG:fo w6 w7 wx bx nb nm (aH 1 [l0].flatten) (aH 2 [l0].flatten) (aH 3 [l0].flatten):=by simpa using hG
       have HG:=tK hG
       have i5:¬(l0.length:Int)<l0.length:=_a
       have hc0:wx.cell? (aa b off)=(p9,l0.length,c9):=by
        have⟨_,_,_,_,_,hkp,_⟩:=hG.cat S6.out S3.out
        exact(HKV.out wx hkp).1
       clear hG WE hj
       go_upto_region 20 with fail
       clear hc0
       have hG:=HG.out
       obtain⟨wr,rfl⟩:∃wr,wr=wx:=⟨_,rfl⟩
       obtain⟨va,vb,vc,⟨⟨p1,n1,c1,rfl⟩,⟨p2,n2,c2,rfl⟩,⟨p3,n3,c3,rfl⟩⟩,ob,hkp,Oz⟩:=hG.cat S6.out S3.out
       rw[<-S9.out]at Oz
       have S2:=nV (u:=u) RZ.out ZL.out
       have HM:Hid (∀W,NP [] wr W->am! 206 #[.agg #[(nb,()),(nm,()),(p1,n1,c1),(p2,n2,c2),(p3,n3,c3)]] W (bG (OL (Qr u _)) W)):=tK (fun W q=>AE _ _ W (Oz W q).1.plain S2.1)
       have HP:Hid (OL (Qr u _)->∀W,NP [] wr W->am! 147 #[.agg #[(nb,()),(nm,()),(p1,n1,c1),(p2,n2,c2),(p3,n3,c3)]] W fun e w'=>e=.returned (.string (bs (bN (Qr u _))))/\NP [] W w'):=tK (fun hm W q=>zj _ _ W (Oz W q).1.plain hm S2.2)
       have⟨QK,OB⟩:=_f Oz ob
       have OA:=tK (XQ.out wr hkp)
       have KW:=tK (V6.out wr hkp)
       have⟨z0,z1,z2,z3,z4⟩:=ob.k5
       clear hG hkp Oz ob S2
       unfold bG at HM
       generalize Qr u _=C at*
       go_wp2_with fail
       refine(HM.out _ (NP.refl _ _)).mono ?_;rintro e w9 ⟨bm,rfl,hbm,k9⟩
       have K9:=tK (KW.out.trans k9)
       have KX:=tK k9
       have WQ:=tK (k9.own OA.out _b)
       have OB9:=tK (k9.own OB.out _b)
       have HBM:=tK hbm
       clear k9 hbm z0 z1 z2 z3 z4
       cases bm with
       |false=>
        exact M40
       |true=>
        exact M13
   .have d3:decide ((ls.length:Int)>1)=true:=_e
    have d3':decide ((1:Int)<ls.length)=true:=d3
    have d3n:decide (1<ls.length)=true:=_e
    have Pk:=tK (WY.out ls Up.out g3)
    clear g3 P0
    exact M46
  .have Pk:=tK (Se.out P0)
   clear P0
   exact M46
 .have d0:decide ((s.length:Int)<16)=true:=_e
  have Pk:=tK (yw g0)
  clear g0
  go_enter func200,ntmps200
  have⟨y0,y1,y2,y3,y4⟩:=OA0.out.k5
  have⟨g0,g1,g2,g3,g4⟩:=OA0.out.y5
  go_wp2_with fail
  refine MN (v:=.tuple #[.agg #[.int .u32 0,.int .u32 0,(),(),()],false]) (aj results200 rfl rfl (t:=52) ?_ underlying52 rfl _c) rfl ?_
  .exact ae.new _ _ _
  .exact jt Pk.out ((NP.refl _ _).alloc _)
theorem JF (w:World):am! 143 #[] w fun e w'=>e=.returned (.agg #[.int .u32 1,.int .u32 1,(),(),()])/\NP [] w w':=by
 go_enter func143,ntmps143
 go_wp2_with fail
 have o:=ae.new w #[.int .u32 1,.int .u32 1,(),(),()] 52
 refine MN (v:=.agg #[.int .u32 1,.int .u32 1,(),(),()]) (iu results143 rfl (t:=52) ?_ underlying52 rfl _c) rfl ⟨rfl,(NP.refl _ _).alloc _⟩
 exact o
theorem wZ (v:Value) (c:au) (w:World) (h:dJ w v c) (hlen:c.boxes.length+c.mans.length+c.names.length<=5000) (Q2:(OK c).length<=1000000):
  am! 135 #[v] w (bh (OK c) w):=by
 have SZ:Hid (∀W,NP [] w W->am! 208 #[v] W (fm c W)):=tK (fun W q=>xa v c W (h.kept0 q) _a)
 unfold fm at SZ
 obtain⟨vb,vm,vn,rfl,hb,hm,hn,_⟩:=h
 obtain⟨p1,c1,rfl⟩:=hb.shape
 obtain⟨p2,c2,rfl⟩:=hm.shape
 obtain⟨p3,c3,rfl⟩:=hn.shape
 have oA:=ae.new w #[(c.nextBox,()),(c.nextMan,()),(p1,c.boxes.length,c1),(p2,c.mans.length,c2),(p3,c.names.length,c3)] 52
 have k0:NP [] w (w.alloc (.cells #[(c.nextBox,()),(c.nextMan,()),(p1,c.boxes.length,c1),(p2,c.mans.length,c2),(p3,c.names.length,c3)] 52)):=(NP.refl _ _).alloc _
 have⟨x0,x1,x2,x3,x4⟩:=oA.k5
 have K0:=tK k0
 have Xy:Hid ((Ov c).length<=5000):=tK (by rw[fN];exact hlen)
 have Wo:Hid (∀k,(((Ov c).take k).map (·.runs)).flatten.length<=1000000):=tK (fun k=>by
  refine Nk ?_ Q2
  unfold OK
  conv=>rhs;rw[<-List.take_append_drop k (Ov c),M0,Nv,tN]
  omega)
 have HEQ:Hid (OK c=((Ov c).map (·.runs)).flatten):=tK rfl
 clear oA k0 hb hm hn hlen Q2
 generalize Ov c=L at*
 unfold bh
 generalize OK c=RC at*
 go_enter func135,ntmps135
 go_wp2_with fail
 refine(SZ.out _ K0.out).mono ?_;rintro e w2 ⟨u,rfl,hu,k2⟩
 have K2:=tK (K0.out.trans k2)
 obtain⟨pu,cu,rfl⟩:=bS.shape hu
 have HU:=tK hu
 have hL1:(L.length:Int)<=5000:=by have:=Xy.out;omega
 clear hu
 go_wp2_with fail
 go_loopw [3,5] (fun o i wr=>∃k:Nat,k<=L.length/\i=(k:Int)/\wr.ownsRow w2 128 2 o ((L.take k).map (·.runs)).flatten.length (NW ((L.take k).map (·.runs)).flatten)/\NP [] w2 wr) (fun _ i _=>L.length-(intOf i).toNat)
 case atStart=>exact⟨0,Nb _,rfl,Nf _ _ _ _,NP.refl _ _⟩
 case round=>
  obtain⟨k,hk,rfl,NU,hK⟩:=hrel
  by_cases NV:k<L.length
  .have i1:(k:Int)<L.length:=_a
   obtain⟨b,off,kv,rfl,r0,r1,r2,r3,r4,Oe,Oq,US,hbh,hih⟩:=bX.at_ (HU.out.kept0 hK) k NV
   have PF:((L.take (k+1)).map (·.runs)).flatten=((L.take k).map (·.runs)).flatten++(L[k]'NV).runs:=by
    rw[MI NV,M0,Nv];simp
   have ht1:=Wo.out (k+1)
   rw[PF,tN]at ht1
   obtain⟨pr,cr,rfl⟩:=Oe.shape
   obtain⟨po,co,rfl⟩:=ah NU
   have⟨Of,Sm,Wf,Ra,Pm,W4⟩:=gj! NV PF ht1 Oe NU hK
   clear Oe Oq hih PF ht1 NU hK
   generalize Ud:(L[k]'NV)=R at*
   clear Ud NV
   generalize ((L.take k).map (·.runs)).flatten=F at*
   go_wp2_with (at_builtin;go_must (refine gR rfl (.tmp 14) (.tmp 19) rfl w2 _ _ _ rfl Pm.out _ R.runs _ _ rfl Ra.out (by have:=Wf.out;unfold maxLen;omega) (by have:=Wf.out;omega) (by have:=W4.out.size;omega) ?_))
   exact M39
  .obtain rfl:k=L.length:=_a
   exact M51
def kS (d:DK) (s:SB) (w:World) (e:Ending) (w':World):Prop:=
 ((∃c v,PA d s=some c/\av (fun x=>x<w.heap.size) w' v c/\e=.returned (.tuple #[v,true]))\/(PA d s=none/\e=.returned (.tuple #[.agg #[.int .u32 0,.int .u32 0,(),(),()],false])))/\NP [] w w'
theorem Hn (s:List UInt8) (w:World) (hs:s.length<=15000):am! 200 #[s] w (jG s w):=
 Ho s w _a (fun ls hr=>uK (s:=s) hr (by rw[MQ,MO];omega) hs)
theorem Ju {r rlo:Nat} {d:DK} (hD:QA w r rlo d) (hn:d.stand.length<=100) (s:SB) (v:Value) (PU PC:Nat) (hr:af w v s.runs PU PC) (hm:s.may):
  am! 130 #[r,.agg (s.cells v)] w (kS d s w):=by
 have T7:=qg hm
 have U4:=hm.1
 unfold SB.dD at U4
 have aaW:Hid (∀W,NP [] w W->am! 152 #[r,v,s.size] W fun e w'=>e=.returned (.tuple #[.string (bs (PV d s.runs s.size)),(N7 d s.runs s.size:Int)])/\NP [] W w'):=tK (fun W k=>Lb v s.runs s.size PU PC (hD.aJ k) (hr.kept0 k) _a T7 (mn _a _a))
 have SN:=rO hD.fit s.runs s.size
 have QK:Hid (∀W,am! 200 #[.string (bs (PV d s.runs s.size))] W (jG (PV d s.runs s.size) W)):=tK (fun W=>Hn _ W _a)
 unfold jG at QK
 have T9:Hid (s.size=0->PA d s=some cf):=tK (fun h=>by unfold PA;rw[if_pos h])
 have Zd:Hid (s.size≠0->N7 d s.runs s.size≠0->PA d s=none):=tK (fun h g=>by unfold PA;rw[if_neg h,if_neg g])
 have HB3:Hid (s.size≠0->N7 d s.runs s.size=0->PA d s=jQ (PV d s.runs s.size)):=tK (fun h g=>by unfold PA;rw[if_neg h,if_pos g])
 have HEM:Hid (∀W,am! 143 #[] W fun e w'=>e=.returned (.agg #[.int .u32 1,.int .u32 1,(),(),()])/\NP [] W w'):=tK (fun W=>JF W)
 have U0:=qR d s.runs s.size
 obtain⟨pr,cr,rfl⟩:=hr.shape
 unfold kS
 generalize PA d s=BX at*
 generalize PV d s.runs s.size=X at*
 generalize N7 d s.runs s.size=G at*
 have Z6:=tK U0
 obtain⟨sq,se,jr,us,sz,rs⟩:=s
 simp only at*
 have⟨o0,o1⟩:=ch w #[.int .u64 sq,se,jr,us,sz,(pr,rs.length,cr)] #[.int .u32 0,.int .u32 0,(),(),()] 58 52
 have OP:=((NP.refl [] w).alloc (.cells #[.int .u64 sq,se,jr,us,sz,(pr,rs.length,cr)] 58)).alloc (.cells #[.int .u32 0,.int .u32 0,(),(),()] 52)
 clear T7 U4 hr SN U0 hD hn
 simp only[SB.cells]
 go_enter func130,ntmps130
 have⟨x0,x1,x2,x3,x4,x5⟩:=o0.c6
 have⟨O0,O1,K1⟩:=gg! o0 o1 OP
 clear o0 o1 OP
 by_cases hz:sz=0
 .have hzz:(sz==0)=true:=by rw[hz];rfl
  have SP:=tK (T9.out hz)
  clear hz
  go_wp2_with fail
  refine(HEM.out _).mono ?_;rintro e w2 ⟨rfl,k2⟩
  have Us:=tK (k2.own O1.out _b)
  have K2:=tK (K1.out.trans k2)
  have⟨y0,y1,y2,y3,y4⟩:=Us.out.k5
  have⟨g0,g1,g2,g3,g4⟩:=Us.out.y5
  clear k2 x0 x1 x2 x3 x4 x5
  go_wp2_with fail
  refine MN (v:=.tuple #[.agg #[.int .u32 1,.int .u32 1,(),(),()],true]) (aj results130 rfl rfl (t:=52) ?_ underlying52 rfl _c) rfl ?_
  .exact Us.out.aV _ _ _ _ _
  .exact⟨Or.inl ⟨cf,_,SP.out,⟨_,_,_,rfl,aq.nil _ _,aq.nil _ _,aq.nil _ _,_d,_d⟩,rfl⟩,NP.ay K2.out (Or.inr _a) _ _ _ _ _⟩
 .have hzz:(sz==0)=false:=by simpa using hz
  have HZ:=tK hz
  clear hz
  go_wp2_with fail
  refine(aaW.out _ K1.out).mono ?_;rintro e w2 ⟨rfl,k2⟩
  have O02:=tK (k2.own O0.out _b)
  have Us:=tK (k2.own O1.out _b)
  have K2:=tK (K1.out.trans k2)
  have Ye:Hid (w.heap.size+2<=w2.heap.size):=tK _Z
  clear k2 x0 x1 x2 x3 x4 x5
  by_cases hg:G=0
  .have hgg:(G==0)=true:=by rw[hg];rfl
   have SP:=tK (HB3.out HZ.out hg)
   clear hg
   go_wp2_with fail
   refine(QK.out _).mono ?_;rintro e w3 ⟨Rz,k3⟩
   have Uu:=tK (k3.own Us.out _b)
   have K3:=tK (K2.out.trans k3)
   have⟨y0,y1,y2,y3,y4⟩:=Uu.out.k5
   have⟨g0,g1,g2,g3,g4⟩:=Uu.out.y5
   clear k3
   rcases Rz with⟨c,v,Pz,UF,hpc,Oz,rfl⟩|⟨OF,rfl⟩
   .obtain⟨vb,vm,vn,rfl,hb,TF,QT,SU,TS⟩:=id Oz
    obtain⟨p1,c1,rfl⟩:=hb.plain.shape
    obtain⟨p2,c2,rfl⟩:=TF.plain.shape
    obtain⟨p3,c3,rfl⟩:=QT.plain.shape
    have HC:=tK Oz
    have V0:Hid (BX=some c):=tK (SP.out.trans (vz Pz UF hpc))
    clear Oz hb TF QT SU TS Pz UF hpc
    go_wp2_with fail
    refine MN (v:=.tuple #[.agg #[(c.nextBox,()),(c.nextMan,()),(p1,c.boxes.length,c1),(p2,c.mans.length,c2),(p3,c.names.length,c3)],true]) (aj results130 rfl rfl (t:=52) ?_ underlying52 rfl _c) rfl ?_
    .exact Uu.out.aV _ _ _ _ _
    .refine⟨Or.inl ⟨c,_,V0.out,?_,rfl⟩,NP.ay K3.out (Or.inr _a) _ _ _ _ _⟩
     exact M53
   .have V0:Hid (BX=none):=tK (SP.out.trans (xP OF))
    clear OF
    go_wp2_with fail
    refine MN (v:=.tuple #[.agg #[.int .u32 0,.int .u32 0,(),(),()],false]) (aj results130 rfl rfl (t:=52) ?_ underlying52 rfl _c) rfl ?_
    .exact Uu.out.aV _ _ _ _ _
    .exact⟨Or.inr ⟨V0.out,rfl⟩,NP.ay K3.out (Or.inr _a) _ _ _ _ _⟩
  .have hgg:(G==0)=false:=by simpa using hg
   have SP:=tK (Zd.out HZ.out hg)
   have HGG:=tK hgg
   clear hg
   have⟨y0,y1,y2,y3,y4⟩:=Us.out.k5
   have⟨g0,g1,g2,g3,g4⟩:=Us.out.y5
   go_wp2_with fail
   refine MN (v:=.tuple #[.agg #[.int .u32 0,.int .u32 0,(),(),()],false]) (aj results130 rfl rfl (t:=52) ?_ underlying52 rfl _c) rfl ?_
   .exact Us.out.aV _ _ _ _ _
   .exact⟨Or.inr ⟨SP.out,rfl⟩,NP.ay K2.out (Or.inr _a) _ _ _ _ _⟩

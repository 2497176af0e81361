/- -/
import Derived.Test.YtdkimcnlhmhpgaaGreatF14
set_option maxHeartbeats 32000000
set_option maxRecDepth 100000
namespace Go.Proofs.YtdkimcnlhmhpgaaGreat
section
open Go.Proofs.Tryz Go.RowKit
variable {w:World}
theorem aI.MF {w0 v l} (h:aI w0 w v l) (i) (hi:i<l.length):
  ∃b off kv c,v=.slice (some ⟨b,off,none⟩) l.length c/\w.cell? ⟨b,off+i*5,none⟩=some (.int .i64 l[i].kind)/\w.cell? ⟨b,off+i*5+1,none⟩=some (.int .u32 l[i].id)/\w.cell? ⟨b,off+i*5+2,none⟩=some (.string (bs l[i].name))/\w.cell? ⟨b,off+i*5+3,none⟩=some (.int .i64 l[i].size)/\w.cell? ⟨b,off+i*5+4,none⟩=some kv/\aE w0 w kv l[i].runs/\l[i].fits:=by
 obtain⟨vs,rfl,h2,h3⟩:=h
 have hi':i<vs.length:=D?
 obtain⟨g,c,rfl,g1,g2,g3,g4,g5⟩:=cU h2 e?
 have hg:=fun j u hj=>g5 (i*5+j) u (jd vs i hi' j u hj)
 have⟨r1,r2⟩:=h3 _ (MJ hi')
 refine⟨g,0,vs[i].2,c,rfl,?_,?_,?_,?_,?_,by rw[Ny];exact r1,by rw[Ny];exact r2⟩
 .rw[Nat.zero_add,Ny];exact hg 0 _ rfl
 .rw[Nat.zero_add,Ny];exact hg 1 _ rfl
 .rw[Nat.zero_add,Ny];exact hg 2 _ rfl
 .rw[Nat.zero_add,Ny];exact hg 3 _ rfl
 .rw[Nat.zero_add];exact hg 4 _ rfl
theorem KG {s} (h:16<=s.length):Ol 4 s 0=(s.take 4,s.drop 4,0):=by
 unfold Ol
 rw[if_neg b?,if_neg d?,if_neg a?]
 rfl
theorem M46 {A:Prop}(h:A:=by
 have⟨y0,y1,y2,y3,y4⟩:=OA7.out.k5
 have⟨g0,g1,g2,g3,g4⟩:=OA7.out.y5
 go_wp2_with fail
 refine MN (v:=.tuple #[.agg #[.int .u32 0,.int .u32 0,(),(),()],false]) (aj results200 rfl rfl (t:=52) ?_ underlying52 rfl c?) rfl ?_
 .exact OA7.out.aV _ _ _ _ _
 .exact jt Pk.out (NP.ay K7.out (Or.inr (MG _)) _ _ _ _ _)):A:=h
theorem M40 {A:Prop}(h:A:=by
 have Pk:=tK (HBK.out (fun hh=>by have:=HBM.out.2 hh.1;cases this))
 have⟨y0,y1,y2,y3,y4⟩:=WQ.out.k5
 have⟨g0,g1,g2,g3,g4⟩:=WQ.out.y5
 go_wp2_with fail
 refine MN (v:=.tuple #[.agg #[.int .u32 0,.int .u32 0,(),(),()],false]) (aj results200 rfl rfl (t:=52) ?_ underlying52 rfl c?) rfl ?_
 .exact WQ.out.aV _ _ _ _ _
 .exact jt Pk.out (NP.ay K9.out (Or.inr (MG _)) _ _ _ _ _)):A:=h
theorem M13 {A:Prop}(h:A:=by
 have VT:=tK (HBM.out.1 rfl)
 have⟨z0,z1,z2,z3,z4⟩:=OB9.out.k5
 go_wp2_with fail
 refine(HP.out VT.out _ KX.out).mono ?_;rintro e wa ⟨rfl,ka⟩
 have KA:=tK (K9.out.trans ka)
 have KXA:=tK (KX.out.trans ka)
 have OAA:=tK (ka.own WQ.out b?)
 have OBA:=tK (ka.own OB9.out b?)
 have⟨z0,z1,z2,z3,z4⟩:=OBA.out.k5
 clear ka
 by_cases hp:bN C=s
 .have q1:((bs (bN C)).toList==(bs s).toList)=true:=by rw[hp];simp
  have HPE:=tK hp
  have Rv:=tK (QK.out wa KXA.out).2
  have⟨y0,y1,y2,y3,y4⟩:=OAA.out.k5
  have⟨g0,g1,g2,g3,g4⟩:=OAA.out.y5
  clear hp
  go_wp2_with fail
  refine MN (v:=.tuple #[.agg #[(nb,()),(nm,()),(p1,n1,c1),(p2,n2,c2),(p3,n3,c3)],true]) (aj results200 rfl rfl (t:=52) ?_ underlying52 rfl c?) rfl ?_
  .exact OAA.out.aV _ _ _ _ _
  .exact wW VT.out HPE.out ((Rv.out _ _ OAA.out _ _ _ _ _).cI (fun x hx=>MR hx K6.out.size)) (NP.ay KA.out (Or.inr (MG _)) _ _ _ _ _)
 .have q1:((bs (bN C)).toList==(bs s).toList)=false:=by rw[bj,bj];simpa using hp
  have Pk:=tK (HBK.out (fun hh=>hp hh.2))
  clear hp
  have⟨y0,y1,y2,y3,y4⟩:=OAA.out.k5
  have⟨g0,g1,g2,g3,g4⟩:=OAA.out.y5
  go_wp2_with fail
  refine MN (v:=.tuple #[.agg #[.int .u32 0,.int .u32 0,(),(),()],false]) (aj results200 rfl rfl (t:=52) ?_ underlying52 rfl c?) rfl ?_
  .exact OAA.out.aV _ _ _ _ _
  .exact jt Pk.out (NP.ay KA.out (Or.inr (MG _)) _ _ _ _ _)):A:=h
theorem Ho (s:List UInt8) (w:World) (hs:s.length<=1000000) (HL:∀ls,O4 ((s.take (s.length-4)).drop 12)=some ls->∀l∈ls,l.length<=3000):
  am! 200 #[s] w (jG s w):=by
 obtain⟨i0,q0,q1,q2,q3⟩:=fg
 have⟨HLL,HS⟩:=f? HL hs
 have oA0:=ae.new w #[.int .u32 0,.int .u32 0,(),(),()] 52
 have OA0:=tK oA0
 have K0:Hid (NP [] w (w.alloc (.cells #[.int .u32 0,.int .u32 0,(),(),()] 52))):=tK ((NP.refl _ _).alloc _)
 have hz:((bs s).size:Int)=s.length:=ak!
 have Qx:(bs s).size=s.length:=NQ s
 have j0:(s.length:Int)<=1000000:=a?
 clear oA0 HL hs
 by_cases g0:16<=s.length
 .have d0:decide ((s.length:Int)<16)=false:=e?
  have Qh:=ae.new (w.alloc (.cells #[.int .u32 0,.int .u32 0,(),(),()] 52)) #[s,(0:Int),(0:Int)] 263
  rw[Nd]at Qh
  have RR1:Hid (aK ((w.alloc (.cells #[.int .u32 0,.int .u32 0,(),(),()] 52)).alloc (.cells #[s,(0:Int),(0:Int)] 263)) (w.heap.size+1) s 0):=tK ⟨s,0,Qh,a?,HS.out,b?,fun h=>absurd rfl h⟩
  have OA1:=tK (OA0.out.alloc (.cells #[s,(0:Int),(0:Int)] 263))
  have K1:=tK (K0.out.alloc (.cells #[s,(0:Int),(0:Int)] 263))
  obtain⟨m,hm⟩:∃m,m+4=s.length:=⟨s.length-4,a?⟩
  have hm4:s.length-4=m:=a?
  have HEM:Hid (IntKind.i64.wrap ((s.length:Int)-4)=(m:Int)):=tK S?
  have E12:(bs s).extract 12 m=bs ((s.take (s.length-4)).drop 12):=by rw[aY,hm4,List.drop_take]
  have HJR:Hid (∀W,am! 132 #[.string ((bs s).extract 12 m)] W (kh ((s.take (s.length-4)).drop 12) W)):=tK (fun W=>by
   rw[E12]
   exact GE _ W (by rw[MQ,MO];omega))
  obtain⟨u,hu⟩:∃u,s.drop 4=u:=⟨_,rfl⟩
  have Sm:Hid (∀W b,aK W b s 0->am! 203 #[.pointer (some ⟨b,0,none⟩),(4:Int)] W fun r w'=>r=.returned (.string (bs (s.take 4)))/\aK w' b u 0/\NP [b] W w'):=tK (fun W b hr=>by
   have:=mH b s 0 4 W hr
   rw[KG g0,hu]at this
   exact this)
  obtain⟨nb,RG⟩:∃nb:Int,(nbT u:Int)=nb:=⟨_,rfl⟩
  obtain⟨nm,Rb⟩:∃nm:Int,(nmT u:Int)=nm:=⟨_,rfl⟩
  have ZU:Hid (∀W b,aK W b u 0->am! 202 #[.pointer (some ⟨b,0,none⟩),(4:Int)] W fun r w'=>r=.returned (.int .u64 nb)/\aK w' b (N6 4 u 0).2.1 (N6 4 u 0).2.2/\NP [b] W w'):=tK (fun W b hr=>by rw[<-RG];exact qk b u 0 W hr)
  have YQ:Hid (∀W b,aK W b (N6 4 u 0).2.1 (N6 4 u 0).2.2->am! 202 #[.pointer (some ⟨b,0,none⟩),(4:Int)] W fun r w'=>r=.returned (.int .u64 nm)/\NP [b] W w'):=tK (fun W b hr=>by
   rw[<-Rb]
   exact(qk b _ _ W hr).mono (fun e w' hh=>⟨hh.1,hh.2.2⟩))
  have S6:Hid ((Lit.int .u32 nb).wf=true):=tK (by rw[<-RG];exact qo u 0)
  have S3:Hid ((Lit.int .u32 nm).wf=true):=tK (by rw[<-Rb];exact qo _ _)
  have adV:Hid (IntKind.u32.wrap nb=nb):=tK (by have⟨b1,b2⟩:=eG S6.out;exact lW b1 b2)
  have aei:Hid (IntKind.u32.wrap nm=nm):=tK (by have⟨b1,b2⟩:=eG S3.out;exact lW b1 b2)
  have HCT:Hid (∀ls,Qr u ls=⟨nb,nm,aH 1 ls.flatten,aH 2 ls.flatten,aH 3 ls.flatten⟩):=tK (fun ls=>by unfold Qr;rw[RG,Rb])
  have Uy:=tK (fun ls h hh=>yA (s:=s) (ls:=ls) h hh)
  rw[hu]at Uy
  have WY:=tK (fun ls h hh=>yz (s:=s) (ls:=ls) h hh)
  have Se:=tK (fun h=>yx (s:=s) h)
  generalize (s.take (s.length-4)).drop 12=z at*
  have i1:(12:Int)<=m:=a?
  have i2:(m:Int)<=s.length:=a?
  have i3:12<=m:=a?
  have i4:m<=s.length:=a?
  clear Qh hm hm4 E12 RG Rb hu g0
  unfold kh at HJR
  go_enter func200,ntmps200
  go_wp2_with fail
  refine(Sm.out _ _ RR1.out).mono ?_;rintro e w2 ⟨rfl,rr2,k2⟩
  have RR2:=tK rr2
  have K2:=tK (K1.out.call k2 (fun x hx=>Or.inr (by have e:x=w.heap.size+1:=h?;omega)))
  have UW:=tK (k2.own OA1.out b?)
  clear rr2 k2
  go_wp2_with fail
  refine(ZU.out _ _ RR2.out).mono ?_;rintro e w3 ⟨rfl,rr3,k3⟩
  have RR3:=tK rr3
  have K3:=tK (K2.out.call k3 (fun x hx=>Or.inr (by have e:x=w.heap.size+1:=h?;omega)))
  have Uh:=tK (k3.own UW.out b?)
  clear rr3 k3
  have ew1:=adV.out
  go_wp2_with fail
  clear ew1
  refine(YQ.out _ _ RR3.out).mono ?_;rintro e w5 ⟨rfl,k5⟩
  have K5:=tK (K3.out.call k5 (fun x hx=>Or.inr (by have e:x=w.heap.size+1:=h?;omega)))
  have OA5:=tK (k5.own Uh.out b?)
  clear k5
  have OB6:=tK (ae.new w5 #[(nb,()),(nm,()),(),(),()] 52)
  have OA6:=tK (OA5.out.alloc (.cells #[(nb,()),(nm,()),(),(),()] 52))
  have K6:=tK (K5.out.alloc (.cells #[(nb,()),(nm,()),(),(),()] 52))
  have Xv:Hid (w.heap.size<w5.heap.size):=tK OA5.out.lt
  have ew2:=aei.out
  have EM:=HEM.out
  go_wp2_with fail
  clear ew2 EM
  refine(HJR.out _).mono ?_;rintro e w7 ⟨hjr,k7⟩
  have K7:=tK (K6.out.trans k7)
  have OA7:=tK (k7.own OA6.out b?)
  have OB7:=tK (k7.own OB6.out b?)
  have aac:Hid ((w5.alloc (.cells #[(nb,()),(nm,()),(),(),()] 52)).heap.size<=w7.heap.size):=tK k7.size
  clear k7
  generalize w5.heap.size=bx at*
  rcases hjr with⟨ls,v,P0,Tt,rfl⟩|⟨P0,rfl⟩
  .have VU:=tK Tt
   obtain⟨p8,c8,rfl⟩:=Tt.shape
   have Up:=tK P0
   have HLE:=tK (HLL.out ls P0)
   have RZ:=tK (fun l hl=>(kO P0 l hl).1)
   clear Tt
   by_cases g3:ls.length<=1
   .have d3:decide ((ls.length:Int)>1)=false:=e?
    have d3':decide ((1:Int)<ls.length)=false:=d3
    have d3n:decide (1<ls.length)=false:=e?
    have SP:Hid (bx<w7.heap.size):=tK OB7.out.lt
    generalize hw6:w5.alloc (.cells #[(nb,()),(nm,()),(),(),()] 52)=w6 at*
    have abE:Hid (∀k (hk:k<ls.length),∃b off kv,p8=some ⟨b,off,none⟩/\∀W,NP [bx] w7 W->W.cell? ⟨b,off+k,none⟩=some kv/\aI w6 W kv ls[k]):=tK (fun k hk=>by
     have⟨b,off,kv,c,e,hh⟩:=VU.out.at_ k hk
     injection e with e
     exact⟨b,off,kv,e,fun W q=>hh W _ q (ig.one OB7.out d? d? d?)⟩)
    have XQ:Hid (∀W,NP [bx] w7 W->ae W w #[.int .u32 0,.int .u32 0,(),(),()] 52):=tK (fun W q=>q.own OA7.out (by have:=Xv.out;simp;omega))
    have V6:Hid (∀W,NP [bx] w7 W->NP [] w W):=tK (fun W q=>K7.out.call q (fun x hx=>Or.inr (by have e:x=bx:=h?;rw[e];have:=Xv.out;omega)))
    have HBK:=tK (Uy.out ls P0)
    have S9:=tK (HCT.out ls)
    have G0:=tK (fo.start (base:=w6.heap.size) OB7.out)
    clear P0 hw6
    go_wp2_with fail
    clear d3 d3' d3n
    by_cases Qw:ls=[]
    .subst Qw
     refine wp_loop_rounds 1 ?_
     rw[rounds_succ]
     go_upto_region 20 with fail
     have hG:fo w6 w7 w7 bx nb nm (aH 1 ([]:List (List ag)).flatten) (aH 2 ([]:List (List ag)).flatten) (aH 3 ([]:List (List ag)).flatten):=G0.out
     have ZL:Hid (([]:List (List ag)).flatten.length<=3000):=tK b?
     obtain⟨wr,rfl⟩:∃wr,wr=w7:=⟨_,rfl⟩
     obtain⟨va,vb,vc,⟨⟨p1,n1,c1,rfl⟩,⟨p2,n2,c2,rfl⟩,⟨p3,n3,c3,rfl⟩⟩,ob,hkp,Oz⟩:=hG.cat S6.out S3.out
     rw[<-S9.out]at Oz
     have S2:=nV (u:=u) RZ.out ZL.out
     have HM:Hid (∀W,NP [] wr W->am! 206 #[.agg #[(nb,()),(nm,()),(p1,n1,c1),(p2,n2,c2),(p3,n3,c3)]] W (bG (OL (Qr u _)) W)):=tK (fun W q=>AE _ _ W (Oz W q).1.plain S2.1)
     have HP:Hid (OL (Qr u _)->∀W,NP [] wr W->am! 147 #[.agg #[(nb,()),(nm,()),(p1,n1,c1),(p2,n2,c2),(p3,n3,c3)]] W fun e w'=>e=.returned (.string (bs (bN (Qr u _))))/\NP [] W w'):=tK (fun hm W q=>zj _ _ W (Oz W q).1.plain hm S2.2)
     have⟨QK,OB⟩:=f? Oz ob
     have OA:=tK (XQ.out wr hkp)
     have KW:=tK (V6.out wr hkp)
     have⟨z0,z1,z2,z3,z4⟩:=ob.k5
     clear hG hkp Oz ob S2
     unfold bG at HM
     generalize Qr u _=C at*
     go_wp2_with fail
     refine(HM.out _ (NP.refl _ _)).mono ?_;rintro e w9 ⟨bm,rfl,hbm,k9⟩
     have K9:=tK (KW.out.trans k9)
     have KX:=tK k9
     have WQ:=tK (k9.own OA.out b?)
     have OB9:=tK (k9.own OB.out b?)
     have HBM:=tK hbm
     clear k9 hbm z0 z1 z2 z3 z4
     cases bm with
     |false=>
      exact M40
     |true=>
      exact M13
    .obtain⟨l0,rfl⟩:∃l0,ls=[l0]:=by
      cases ls with
      |nil=>exact absurd rfl Qw
      |cons a t=>
       have:t=[]:=Nc (by simpa using g3)
       subst this
       exact⟨a,rfl⟩
     have ZZ:=HLE.out l0 b?
     have HL1:=tK ZZ
     have ZL:Hid (([l0]:List (List ag)).flatten.length<=3000):=tK (by simpa using ZZ)
     obtain⟨b,off,kv,rfl,ZV⟩:=abE.out 0 b?
     simp only[Nat.add_zero,List.getElem_cons_zero]at ZV
     obtain⟨p9,c9,rfl⟩:=(ZV w7 (NP.refl _ _)).2.shape
     have HKV:=tK ZV
     have HML:=tK (RZ.out l0 b?)
     have j5:(l0.length:Int)<=3000:=a?
     clear ZZ ZV g3 Qw
     simp only[Nj,List.length_nil,Nat.zero_add]
     go_loopw [8] (fun i wx=>∃j:Nat,j<=l0.length/\i=(j:Int)/\fo w6 w7 wx bx nb nm (aH 1 (l0.take j)) (aH 2 (l0.take j)) (aH 3 (l0.take j))) (fun i _=>l0.length-(intOf i).toNat)
     case atStart=>exact⟨0,Nb _,rfl,G0.out⟩
     case round=>
      obtain⟨j,hj,rfl,hG⟩:=hrel
      rename World=>wx
      by_cases WE:j<l0.length
      .have i5:(j:Int)<l0.length:=a?
       have⟨va0,vb0,vc0,_,_,hkp,_⟩:=hG.cat S6.out S3.out
       have⟨hc0,Q8⟩:=HKV.out wx hkp
       have⟨b',off',rv,cc,e9,y0,y1,y2,y3,y4,VV,Oq⟩:=Q8.MF j WE
       injection e9 with e9 _ e9c
       subst e9 e9c
       have VA:=HML.out l0[j] (MJ WE)
       have T7:=sV VA Oq
       have SI:Hid (∀k,aH k (l0.take (j+1))=gh l0[j].kind k l0[j].item (aH k (l0.take j))):=tK (fun k=>by rw[MI WE,s7])
       have HLK:Hid (∀k,(aH k (l0.take j)).length<=3000):=tK (fun k=>by
        have h1:=ve k (l0.take j)
        rw[MO]at h1
        have:=HL1.out;omega)
       have HOI:Hid (∀W,NP [] wx W->dM w6 W (l0[j].item,rv)):=tK (fun W q=>⟨(VV.kept0 q),ag.jW Oq,T7⟩)
       have⟨HG,Yt⟩:=f? hG WE
       obtain⟨pr,nr,cr,rfl⟩:fP rv:=by
        obtain⟨p,c,rfl⟩:=ah VV
        exact⟨_,_,_,rfl⟩
       clear hG hkp Q8 VV Oq VA T7 hj
       generalize l0[j]'WE=r at*
       clear WE
       obtain⟨kd,id,nm',sz,rr⟩:=r
       simp only[ag.item]at y0 y1 y2 y3 y4 SI HOI
       go_upto_region 14 with fail
       obtain⟨W2,hW2⟩:∃W2,W2=(wx.alloc (.cells #[kd,(id,()),nm',sz,(pr,nr,cr)] 102)).alloc (.cells #[(id,()),nm',sz,(pr,nr,cr)] 113):=⟨_,rfl⟩
       have k2:NP [] wx W2:=by rw[hW2];exact((NP.refl _ _).alloc _).alloc _
       have o9:ae W2 wx #[kd,(id,()),nm',sz,(pr,nr,cr)] 102:=by rw[hW2];exact(ae.new _ _ _).alloc _
       have o10:ae W2 (wx.heap.size+1) #[(id,()),nm',sz,(pr,nr,cr)] 113:=by
        have:=ae.new (wx.alloc (.cells #[kd,(id,()),nm',sz,(pr,nr,cr)] 102)) #[(id,()),nm',sz,(pr,nr,cr)] 113
        rw[Nd]at this
        rw[hW2];exact this
       rw[<-hW2]
       have hoi:=HOI.out W2 k2
       have⟨va,vb,vc,xs,ys,zs,ob,r3,e1,e2,e3,kk,acG,acg,acA⟩:=HG.out.kept0 k2
       have hxs:xs.length<=3000:=by have:=HLK.out 1;rw[<-e1,MP]at this;exact this
       have Uz:ys.length<=3000:=by have:=HLK.out 2;rw[<-e2,MP]at this;exact this
       have YF:zs.length<=3000:=by have:=HLK.out 3;rw[<-e3,MP]at this;exact this
       have⟨HXS,HYS,HZS,O9,O10,OB,R3,KK,abt⟩:=gb! hxs Uz YF o9 o10 ob r3 kk hoi
       have Ss:=tK (And.intro acG (And.intro acg acA))
       have WJ:Hid (wx.heap.size≠bx):=tK (fun e=>by
        have h1:=HG.out
        obtain⟨_,_,_,_,_,_,o,_⟩:=h1
        have:=o.lt;omega)
       obtain⟨p1,c1,rfl⟩:=ah r3.ra
       obtain⟨p2,c2,rfl⟩:=ah r3.rb
       obtain⟨p3,c3,rfl⟩:=ah r3.rc
       have⟨z0,z1,z2,z3,z4⟩:=ob.k5
       have⟨t0,t1,t2,t3⟩:=o10.c4
       have k0:W2.cell? wx=kd:=o9.cell 0 b?
       have ZI:Hid (∀k,aH k (l0.take (j+1))=gh kd k ⟨id,nm',sz,rr⟩ (aH k (l0.take j))):=SI
       have HE:=tK (And.intro e1 (And.intro e2 e3))
       clear hxs Uz YF o9 o10 ob r3 kk hoi acG acg acA hW2 k2 e1 e2 e3 y0 y1 y2 y3 y4 HOI HG SI HLK
       by_cases h1:kd=1
       .subst h1
        go_wp2_with (at_builtin;go_must (refine MT _ rfl (.tmp 76) (.tmp 78) 50 rfl w6 113 i0 _ 4 56 underlying50 q0 q1 q2 q3 rfl d? _ _ _ rfl (MH R3.out.ra _) W2 1 1 (Pt ⟨id,nm',sz,rr⟩ (pr,nr,cr)) rfl rfl ?_ ?_ (by have:=HXS.out;unfold maxLen;omega) (by have:=HXS.out;omega) ?_ ?_))
        .first|exact World.news_of_block (Ns W2 _)|(intro j u hj;exact hj)
        .intro u hu;simp[Pt]at hu;rcases hu with rfl|rfl|rfl|rfl<;>rfl
        .have:=KK.out.size;have:=aac.out;simp;omega
        intro v9 w9 Y8 gr9 _ hb9
        have⟨Va,R6,K6',hlo6,hown6⟩:=fo.put (x:=(⟨id,nm',sz,rr⟩,(pr,nr,cr))) OB.out R3.out abt.out KK.out Ss.out.1 gr9 Y8 (by rw[Nd];exact hb9)
        have⟨R66,K66,Yi,SH⟩:=gh! R6 K6' hlo6 Va
        have O99:=tK (hown6 _ _ _ O9.out d?)
        obtain⟨p6,c6,rfl⟩:=ah Y8
        have b0:=SH.out.cell 2 b?
        simp only[List.getElem_toArray,List.getElem_cons_zero,Nt]at b0
        have b1:=SH.out.free 2
        have k9:(w9.setCell (aa bx 2) (p6,xs.length+1,c6)).cell? wx=(1:Int):=(O99.out.other (p:=(aa bx 2)) WJ.out _).cell 0 b?
        clear Y8 gr9 hb9 Va R6 K6' hlo6 hown6 z0 z1 z2 z3 z4 t0 t1 t2 t3 k0
        go_wp2_with fail
        go_roundw
        case rel=>(repeat apply Exists.intro);refine⟨?_,rfl⟩;exact⟨j+1,Yt.out,G?,_,_,_,(xs++[(⟨id,nm',sz,rr⟩,.slice pr nr cr)]),ys,zs,SH.out.set 2 _,R66.out.set SH.out 2 _,(by rw[ZI.out 1,M0,HE.out.1];rfl),(by rw[ZI.out 2,HE.out.2.1];rfl),(by rw[ZI.out 3,HE.out.2.2];rfl),K66.out.setCell (p:=(aa bx 2)) (Or.inl b?) _,Yi.out,Ss.out.2.1,Ss.out.2.2⟩
        case measure=>(have hh:=Yt.out;simp[intOf];omega)
       .by_cases h2:kd=2
        .subst h2
         go_wp2_with (at_builtin;go_must (refine MT _ rfl (.tmp 85) (.tmp 87) 50 rfl w6 113 i0 _ 4 56 underlying50 q0 q1 q2 q3 rfl d? _ _ _ rfl (MH R3.out.cM.ra _) W2 1 1 (Pt ⟨id,nm',sz,rr⟩ (pr,nr,cr)) rfl rfl ?_ ?_ (by have:=HYS.out;unfold maxLen;omega) (by have:=HYS.out;omega) ?_ ?_))
         .first|exact World.news_of_block (Ns W2 _)|(intro j u hj;exact hj)
         .intro u hu;simp[Pt]at hu;rcases hu with rfl|rfl|rfl|rfl<;>rfl
         .have:=KK.out.size;have:=aac.out;simp;omega
         intro v9 w9 Y8 gr9 _ hb9
         have⟨Va,R6,K6',hlo6,hown6⟩:=fo.put (x:=(⟨id,nm',sz,rr⟩,(pr,nr,cr))) OB.out R3.out.cM abt.out KK.out Ss.out.2.1 gr9 Y8 (by rw[Nd];exact hb9)
         have⟨R66,K66,Yi,SH⟩:=gh! R6.cM.cM K6' hlo6 Va
         have O99:=tK (hown6 _ _ _ O9.out d?)
         obtain⟨p6,c6,rfl⟩:=ah Y8
         have b0:=SH.out.cell 3 b?
         simp only[List.getElem_toArray,List.getElem_cons_zero,Nt]at b0
         have b1:=SH.out.free 3
         have k9:(w9.setCell (aa bx 3) (p6,ys.length+1,c6)).cell? wx=(2:Int):=(O99.out.other (p:=(aa bx 3)) WJ.out _).cell 0 b?
         clear Y8 gr9 hb9 Va R6 K6' hlo6 hown6 z0 z1 z2 z3 z4 t0 t1 t2 t3 k0
         go_wp2_with fail
         go_roundw
         case rel=>(repeat apply Exists.intro);refine⟨?_,rfl⟩;exact⟨j+1,Yt.out,G?,_,_,_,xs,(ys++[(⟨id,nm',sz,rr⟩,.slice pr nr cr)]),zs,SH.out.set 3 _,R66.out.set SH.out 3 _,(by rw[ZI.out 1,HE.out.1];rfl),(by rw[ZI.out 2,M0,HE.out.2.1];rfl),(by rw[ZI.out 3,HE.out.2.2];rfl),K66.out.setCell (p:=(aa bx 3)) (Or.inl b?) _,Ss.out.1,Yi.out,Ss.out.2.2⟩
         case measure=>(have hh:=Yt.out;simp[intOf];omega)
        .by_cases h3:kd=3
         .subst h3
          go_wp2_with (at_builtin;go_must (refine MT _ rfl (.tmp 94) (.tmp 96) 50 rfl w6 113 i0 _ 4 56 underlying50 q0 q1 q2 q3 rfl d? _ _ _ rfl (MH R3.out.cM.cM.ra _) W2 1 1 (Pt ⟨id,nm',sz,rr⟩ (pr,nr,cr)) rfl rfl ?_ ?_ (by have:=HZS.out;unfold maxLen;omega) (by have:=HZS.out;omega) ?_ ?_))
          .first|exact World.news_of_block (Ns W2 _)|(intro j u hj;exact hj)
          .intro u hu;simp[Pt]at hu;rcases hu with rfl|rfl|rfl|rfl<;>rfl
          .have:=KK.out.size;have:=aac.out;simp;omega
          intro v9 w9 Y8 gr9 _ hb9
          have⟨Va,R6,K6',hlo6,hown6⟩:=fo.put (x:=(⟨id,nm',sz,rr⟩,(pr,nr,cr))) OB.out R3.out.cM.cM abt.out KK.out Ss.out.2.2 gr9 Y8 (by rw[Nd];exact hb9)
          have⟨R66,K66,Yi,SH⟩:=gh! R6.cM K6' hlo6 Va
          have O99:=tK (hown6 _ _ _ O9.out d?)
          obtain⟨p6,c6,rfl⟩:=ah Y8
          have b0:=SH.out.cell 4 b?
          simp only[List.getElem_toArray,List.getElem_cons_zero,Nt]at b0
          have b1:=SH.out.free 4
          have k9:(w9.setCell (aa bx 4) (p6,zs.length+1,c6)).cell? wx=(3:Int):=(O99.out.other (p:=(aa bx 4)) WJ.out _).cell 0 b?
          clear Y8 gr9 hb9 Va R6 K6' hlo6 hown6 z0 z1 z2 z3 z4 t0 t1 t2 t3 k0
          go_wp2_with fail
          go_roundw
          case rel=>(repeat apply Exists.intro);refine⟨?_,rfl⟩;exact⟨j+1,Yt.out,G?,_,_,_,xs,ys,(zs++[(⟨id,nm',sz,rr⟩,.slice pr nr cr)]),SH.out.set 4 _,R66.out.set SH.out 4 _,(by rw[ZI.out 1,HE.out.1];rfl),(by rw[ZI.out 2,HE.out.2.1];rfl),(by rw[ZI.out 3,M0,HE.out.2.2];rfl),K66.out.setCell (p:=(aa bx 4)) (Or.inl b?) _,Ss.out.1,Ss.out.2.1,Yi.out⟩
          case measure=>(have hh:=Yt.out;simp[intOf];omega)
         .have f1:(kd==1)=false:=P?
          have f2:(kd==2)=false:=e!
          have f3:(kd==3)=false:=by simpa using h3
          have HF:Hid (∀k,k=1\/k=2\/k=3->aH k (l0.take (j+1))=aH k (l0.take j)):=tK (fun k hk=>by rw[ZI.out k];unfold gh;rw[if_neg a?])
          clear h1 h2 h3
          go_wp2_with fail
          go_roundw
          case rel=>exact⟨j+1,Yt.out,G?,_,_,_,xs,ys,zs,OB.out,R3.out,by rw[HF.out 1 a?];exact HE.out.1,by rw[HF.out 2 a?];exact HE.out.2.1,by rw[HF.out 3 a?];exact HE.out.2.2,KK.out,Ss.out.1,Ss.out.2.1,Ss.out.2.2⟩
          case measure=>(have hh:=Yt.out;simp[intOf];omega)
      .obtain rfl:j=l0.length:=a?
       rw[MU]at hG
       have hG:fo w6 w7 wx bx nb nm (aH 1 [l0].flatten) (aH 2 [l0].flatten) (aH 3 [l0].flatten):=by simpa using hG
       have HG:=tK hG
       have i5:¬(l0.length:Int)<l0.length:=a?
       have hc0:wx.cell? (aa b off)=(p9,l0.length,c9):=by
        have⟨_,_,_,_,_,hkp,_⟩:=hG.cat S6.out S3.out
        exact(HKV.out wx hkp).1
       clear hG WE hj
       go_upto_region 20 with fail
       clear hc0
       have hG:=HG.out
       obtain⟨wr,rfl⟩:∃wr,wr=wx:=⟨_,rfl⟩
       obtain⟨va,vb,vc,⟨⟨p1,n1,c1,rfl⟩,⟨p2,n2,c2,rfl⟩,⟨p3,n3,c3,rfl⟩⟩,ob,hkp,Oz⟩:=hG.cat S6.out S3.out
       rw[<-S9.out]at Oz
       have S2:=nV (u:=u) RZ.out ZL.out
       have HM:Hid (∀W,NP [] wr W->am! 206 #[.agg #[(nb,()),(nm,()),(p1,n1,c1),(p2,n2,c2),(p3,n3,c3)]] W (bG (OL (Qr u _)) W)):=tK (fun W q=>AE _ _ W (Oz W q).1.plain S2.1)
       have HP:Hid (OL (Qr u _)->∀W,NP [] wr W->am! 147 #[.agg #[(nb,()),(nm,()),(p1,n1,c1),(p2,n2,c2),(p3,n3,c3)]] W fun e w'=>e=.returned (.string (bs (bN (Qr u _))))/\NP [] W w'):=tK (fun hm W q=>zj _ _ W (Oz W q).1.plain hm S2.2)
       have⟨QK,OB⟩:=f? Oz ob
       have OA:=tK (XQ.out wr hkp)
       have KW:=tK (V6.out wr hkp)
       have⟨z0,z1,z2,z3,z4⟩:=ob.k5
       clear hG hkp Oz ob S2
       unfold bG at HM
       generalize Qr u _=C at*
       go_wp2_with fail
       refine(HM.out _ (NP.refl _ _)).mono ?_;rintro e w9 ⟨bm,rfl,hbm,k9⟩
       have K9:=tK (KW.out.trans k9)
       have KX:=tK k9
       have WQ:=tK (k9.own OA.out b?)
       have OB9:=tK (k9.own OB.out b?)
       have HBM:=tK hbm
       clear k9 hbm z0 z1 z2 z3 z4
       cases bm with
       |false=>
        exact M40
       |true=>
        exact M13
   .have d3:decide ((ls.length:Int)>1)=true:=e?
    have d3':decide ((1:Int)<ls.length)=true:=d3
    have d3n:decide (1<ls.length)=true:=e?
    have Pk:=tK (WY.out ls Up.out g3)
    clear g3 P0
    exact M46
  .have Pk:=tK (Se.out P0)
   clear P0
   exact M46
 .have d0:decide ((s.length:Int)<16)=true:=e?
  have Pk:=tK (yw g0)
  clear g0
  go_enter func200,ntmps200
  have⟨y0,y1,y2,y3,y4⟩:=OA0.out.k5
  have⟨g0,g1,g2,g3,g4⟩:=OA0.out.y5
  go_wp2_with fail
  refine MN (v:=.tuple #[.agg #[.int .u32 0,.int .u32 0,(),(),()],false]) (aj results200 rfl rfl (t:=52) ?_ underlying52 rfl c?) rfl ?_
  .exact ae.new _ _ _
  .exact jt Pk.out ((NP.refl _ _).alloc _)
theorem JF (w):am! 143 #[] w fun e w'=>e=.returned (.agg #[.int .u32 1,.int .u32 1,(),(),()])/\NP [] w w':=by
 go_enter func143,ntmps143
 go_wp2_with fail
 have o:=ae.new w #[.int .u32 1,.int .u32 1,(),(),()] 52
 refine MN (v:=.agg #[.int .u32 1,.int .u32 1,(),(),()]) (iu results143 rfl (t:=52) ?_ underlying52 rfl c?) rfl ⟨rfl,(NP.refl _ _).alloc _⟩
 exact o
theorem wZ (v c w) (h:dJ w v c) (hlen:c.boxes.length+c.mans.length+c.names.length<=5000) (Q2:(OK c).length<=1000000):
  am! 135 #[v] w (bh (OK c) w):=by
 have SZ:=tK fun W q=>xa v c W (h.kept0 q) a?
 unfold fm at SZ
 obtain⟨vb,vm,vn,rfl,hb,hm,hn,_⟩:=h
 obtain⟨p1,c1,rfl⟩:=hb.shape
 obtain⟨p2,c2,rfl⟩:=hm.shape
 obtain⟨p3,c3,rfl⟩:=hn.shape
 have oA:=ae.new w #[(c.nextBox,()),(c.nextMan,()),(p1,c.boxes.length,c1),(p2,c.mans.length,c2),(p3,c.names.length,c3)] 52
 have k0:NP [] w (w.alloc (.cells #[(c.nextBox,()),(c.nextMan,()),(p1,c.boxes.length,c1),(p2,c.mans.length,c2),(p3,c.names.length,c3)] 52)):=(NP.refl _ _).alloc _
 have⟨x0,x1,x2,x3,x4⟩:=oA.k5
 have K0:=tK k0
 have Xy:Hid ((Ov c).length<=5000):=tK (by rw[fN];exact hlen)
 have Wo:Hid (∀k,(((Ov c).take k).map (·.runs)).flatten.length<=1000000):=tK (fun k=>by
  refine Nk ?_ Q2
  unfold OK
  conv=>rhs;rw[<-List.take_append_drop k (Ov c),M0,Nv,tN]
  omega)
 have HEQ:Hid (OK c=((Ov c).map (·.runs)).flatten):=tK rfl
 clear oA k0 hb hm hn hlen Q2
 generalize Ov c=L at*
 unfold bh
 generalize OK c=RC at*
 go_enter func135,ntmps135
 go_wp2_with fail
 refine(SZ.out _ K0.out).mono ?_;rintro e w2 ⟨u,rfl,hu,k2⟩
 have K2:=tK (K0.out.trans k2)
 obtain⟨pu,cu,rfl⟩:=bS.shape hu
 have HU:=tK hu
 have hL1:(L.length:Int)<=5000:=by have:=Xy.out;omega
 clear hu
 go_wp2_with fail
 go_loopw [3,5] (fun o i wr=>∃k:Nat,k<=L.length/\i=(k:Int)/\wr.ownsRow w2 128 2 o ((L.take k).map (·.runs)).flatten.length (NW ((L.take k).map (·.runs)).flatten)/\NP [] w2 wr) (fun _ i _=>L.length-(intOf i).toNat)
 case atStart=>exact⟨0,Nb _,rfl,Nf _ _ _ _,NP.refl _ _⟩
 case round=>
  obtain⟨k,hk,rfl,NU,hK⟩:=hrel
  by_cases NV:k<L.length
  .have i1:(k:Int)<L.length:=a?
   obtain⟨b,off,kv,rfl,r0,r1,r2,r3,r4,Oe,Oq,US,hbh,hih⟩:=bX.at_ (HU.out.kept0 hK) k NV
   have PF:((L.take (k+1)).map (·.runs)).flatten=((L.take k).map (·.runs)).flatten++(L[k]'NV).runs:=by
    rw[MI NV,M0,Nv];simp
   have ht1:=Wo.out (k+1)
   rw[PF,tN]at ht1
   obtain⟨pr,cr,rfl⟩:=Oe.shape
   obtain⟨po,co,rfl⟩:=ah NU
   have⟨Of,Sm,Wf,Ra,Pm,W4⟩:=gj! NV PF ht1 Oe NU hK
   clear Oe Oq hih PF ht1 NU hK
   generalize Ud:(L[k]'NV)=R at*
   clear Ud NV
   generalize ((L.take k).map (·.runs)).flatten=F at*
   go_wp2_with (at_builtin;go_must (refine gR rfl (.tmp 14) (.tmp 19) rfl w2 _ _ _ rfl Pm.out _ R.runs _ _ rfl Ra.out (by have:=Wf.out;unfold maxLen;omega) (by have:=Wf.out;omega) (by have:=W4.out.size;omega) ?_))
   exact M39
  .obtain rfl:k=L.length:=a?
   exact M51
def kS (d:DK) (s:SB) (w:World) (e:Ending) (w':World):Prop:=
 ((∃c v,PA d s=some c/\av (fun x=>x<w.heap.size) w' v c/\e=.returned (.tuple #[v,true]))\/(PA d s=none/\e=.returned (.tuple #[.agg #[.int .u32 0,.int .u32 0,(),(),()],false])))/\NP [] w w'
theorem Hn (s:List UInt8) (w:World) (hs:s.length<=15000):am! 200 #[s] w (jG s w):=
 Ho s w a? (fun ls hr=>uK (s:=s) hr (by rw[MQ,MO];omega) hs)
theorem Ju {r rlo d} (hD:QA w r rlo d) (hn:d.stand.length<=100) (s v PU PC) (hr:af w v s.runs PU PC) (hm:s.may):
  am! 130 #[r,.agg (s.cells v)] w (kS d s w):=by
 have T7:=qg hm
 have U4:=hm.1
 unfold SB.dD at U4
 have aaW:Hid (∀W,NP [] w W->am! 152 #[r,v,s.size] W fun e w'=>e=.returned (.tuple #[.string (bs (PV d s.runs s.size)),(N7 d s.runs s.size:Int)])/\NP [] W w'):=tK (fun W k=>Lb v s.runs s.size PU PC (hD.aJ k) (hr.kept0 k) a? T7 (mn a? a?))
 have SN:=rO hD.fit s.runs s.size
 have QK:Hid (∀W,am! 200 #[.string (bs (PV d s.runs s.size))] W (jG (PV d s.runs s.size) W)):=tK (fun W=>Hn _ W a?)
 unfold jG at QK
 have T9:Hid (s.size=0->PA d s=some cf):=tK (fun h=>by unfold PA;rw[if_pos h])
 have Zd:Hid (s.size≠0->N7 d s.runs s.size≠0->PA d s=none):=tK (fun h g=>by unfold PA;rw[if_neg h,if_neg g])
 have HB3:Hid (s.size≠0->N7 d s.runs s.size=0->PA d s=jQ (PV d s.runs s.size)):=tK (fun h g=>by unfold PA;rw[if_neg h,if_pos g])
 have HEM:Hid (∀W,am! 143 #[] W fun e w'=>e=.returned (.agg #[.int .u32 1,.int .u32 1,(),(),()])/\NP [] W w'):=tK (fun W=>JF W)
 have U0:=qR d s.runs s.size
 obtain⟨pr,cr,rfl⟩:=hr.shape
 unfold kS
 generalize PA d s=BX at*
 generalize PV d s.runs s.size=X at*
 generalize N7 d s.runs s.size=G at*
 have Z6:=tK U0
 obtain⟨sq,se,jr,us,sz,rs⟩:=s
 simp only at*
 have⟨o0,o1⟩:=ch w #[.int .u64 sq,se,jr,us,sz,(pr,rs.length,cr)] #[.int .u32 0,.int .u32 0,(),(),()] 58 52
 have OP:=((NP.refl [] w).alloc (.cells #[.int .u64 sq,se,jr,us,sz,(pr,rs.length,cr)] 58)).alloc (.cells #[.int .u32 0,.int .u32 0,(),(),()] 52)
 clear T7 U4 hr SN U0 hD hn
 simp only[SB.cells]
 go_enter func130,ntmps130
 have⟨x0,x1,x2,x3,x4,x5⟩:=o0.c6
 have⟨O0,O1,K1⟩:=gg! o0 o1 OP
 clear o0 o1 OP
 by_cases hz:sz=0
 .have hzz:(sz==0)=true:=by rw[hz];rfl
  have SP:=tK (T9.out hz)
  clear hz
  go_wp2_with fail
  refine(HEM.out _).mono ?_;rintro e w2 ⟨rfl,k2⟩
  have Us:=tK (k2.own O1.out b?)
  have K2:=tK (K1.out.trans k2)
  have⟨y0,y1,y2,y3,y4⟩:=Us.out.k5
  have⟨g0,g1,g2,g3,g4⟩:=Us.out.y5
  clear k2 x0 x1 x2 x3 x4 x5
  go_wp2_with fail
  refine MN (v:=.tuple #[.agg #[.int .u32 1,.int .u32 1,(),(),()],true]) (aj results130 rfl rfl (t:=52) ?_ underlying52 rfl c?) rfl ?_
  .exact Us.out.aV _ _ _ _ _
  .exact⟨Or.inl ⟨cf,_,SP.out,⟨_,_,_,rfl,aq.nil _ _,aq.nil _ _,aq.nil _ _,d?,d?⟩,rfl⟩,NP.ay K2.out (Or.inr a?) _ _ _ _ _⟩
 .have hzz:(sz==0)=false:=by simpa using hz
  have HZ:=tK hz
  clear hz
  go_wp2_with fail
  refine(aaW.out _ K1.out).mono ?_;rintro e w2 ⟨rfl,k2⟩
  have O02:=tK (k2.own O0.out b?)
  have Us:=tK (k2.own O1.out b?)
  have K2:=tK (K1.out.trans k2)
  have Ye:Hid (w.heap.size+2<=w2.heap.size):=tK Z?
  clear k2 x0 x1 x2 x3 x4 x5
  by_cases hg:G=0
  .have hgg:(G==0)=true:=by rw[hg];rfl
   have SP:=tK (HB3.out HZ.out hg)
   clear hg
   go_wp2_with fail
   refine(QK.out _).mono ?_;rintro e w3 ⟨Rz,k3⟩
   have Uu:=tK (k3.own Us.out b?)
   have K3:=tK (K2.out.trans k3)
   have⟨y0,y1,y2,y3,y4⟩:=Uu.out.k5
   have⟨g0,g1,g2,g3,g4⟩:=Uu.out.y5
   clear k3
   rcases Rz with⟨c,v,Pz,UF,hpc,Oz,rfl⟩|⟨OF,rfl⟩
   .obtain⟨vb,vm,vn,rfl,hb,TF,QT,SU,TS⟩:=id Oz
    obtain⟨p1,c1,rfl⟩:=hb.plain.shape
    obtain⟨p2,c2,rfl⟩:=TF.plain.shape
    obtain⟨p3,c3,rfl⟩:=QT.plain.shape
    have HC:=tK Oz
    have V0:Hid (BX=some c):=tK (SP.out.trans (vz Pz UF hpc))
    clear Oz hb TF QT SU TS Pz UF hpc
    go_wp2_with fail
    refine MN (v:=.tuple #[.agg #[(c.nextBox,()),(c.nextMan,()),(p1,c.boxes.length,c1),(p2,c.mans.length,c2),(p3,c.names.length,c3)],true]) (aj results130 rfl rfl (t:=52) ?_ underlying52 rfl c?) rfl ?_
    .exact Uu.out.aV _ _ _ _ _
    .refine⟨Or.inl ⟨c,_,V0.out,?_,rfl⟩,NP.ay K3.out (Or.inr a?) _ _ _ _ _⟩
     exact M53
   .have V0:Hid (BX=none):=tK (SP.out.trans (xP OF))
    clear OF
    go_wp2_with fail
    refine MN (v:=.tuple #[.agg #[.int .u32 0,.int .u32 0,(),(),()],false]) (aj results130 rfl rfl (t:=52) ?_ underlying52 rfl c?) rfl ?_
    .exact Uu.out.aV _ _ _ _ _
    .exact⟨Or.inr ⟨V0.out,rfl⟩,NP.ay K3.out (Or.inr a?) _ _ _ _ _⟩
  .have hgg:(G==0)=false:=by simpa using hg
   have SP:=tK (Zd.out HZ.out hg)
   have HGG:=tK hgg
   clear hg
   have⟨y0,y1,y2,y3,y4⟩:=Us.out.k5
   have⟨g0,g1,g2,g3,g4⟩:=Us.out.y5
   go_wp2_with fail
   refine MN (v:=.tuple #[.agg #[.int .u32 0,.int .u32 0,(),(),()],false]) (aj results130 rfl rfl (t:=52) ?_ underlying52 rfl c?) rfl ?_
   .exact Us.out.aV _ _ _ _ _
   .exact⟨Or.inr ⟨SP.out,rfl⟩,NP.ay K2.out (Or.inr a?) _ _ _ _ _⟩
end
section
open Go.Proofs.Tryz Go.RowKit
variable {ok bad v:Value} {a b:List UInt8} {w w':World}
theorem M73 {A:Prop}(h:A:=by
 go_wp2_with fail
 go_quiet (fail)
 go_wp2_with fail
 go_roundw
 case rel=>exact⟨m+1,HMK.out,j?,V9.out,HO.out.drewN _,YM.out.drewN _⟩
 case measure=>(have hh:=HMK.out;simp[intOf];omega)):A:=h
theorem KZ (v l) (Pe jr:Int) (lo hi:Nat) (w) (h:af w v l lo hi) (hl:l.length<=1000000) (Pj:∀a∈l,aQ a) (hs: -9223372036854775808<=Pe) (hj: -9223372036854775808<=jr/\jr<=9223372036854775807) (S7:∀a∈l,a.1<=1099511627776/\a.2<=1099511627776/\Pe<=1099511627776):
  am! 134 #[v,Pe,jr] w (bG (PB Pe jr l) w):=by
 obtain⟨p,c,rfl⟩:=h.shape
 have⟨H,VI,U9⟩:=gg! h Pj S7
 have HSJ:=tK (And.intro hs hj)
 have Tg:(l.length:Int)<=1000000:=a?
 clear h Pj S7 hs hj
 go_enter func134,ntmps134
 go_wp2_with fail
 go_loopw [7] (fun i wr=>∃k:Nat,k<=l.length/\i=(k:Int)/\PB Pe jr (l.take k)/\NP [] w wr) (fun i _=>l.length-(intOf i).toNat)
 case atStart=>exact⟨0,a?,rfl,Dg _ _,NP.refl _ _⟩
 case round=>
  obtain⟨k,hk,rfl,hM,hK⟩:=hrel
  rename World=>wr
  by_cases NV:k<l.length
  .obtain⟨b,off,rfl,c0,c1,hb,hlc,PT⟩:=(H.out.kept0 hK).at_ k NV
   have UB:=VI.out l[k] (MJ NV)
   have Uj:=U9.out l[k] (MJ NV)
   have OF:= @uZ Pe jr l k NV
   have TV:=fun j hj=> @Df Pe jr l k j NV hj
   have UU:=fun h1 h2=>sX NV hM h1 h2
   have i1:(k:Int)<l.length:=a?
   have⟨Of,Pk,Zl,Su⟩:=gh! NV OF TV UU
   have YN:∀j (hj:j<k),lR Pe jr (l[j]' a?):=fun j hj=>FH hM a? hj
   have⟨HKO,HK⟩:=f? YN hK
   clear OF TV UU hM YN hK
   generalize l[k]=X at*
   obtain⟨x0,xn⟩:=X
   have abH:=UB
   obtain⟨w1,w2,w3,w4⟩:=abH
   have HWK:=tK UB
   clear UB
   simp only at c0 c1 w1 w2 w3 w4 Uj
   unfold lR at Pk Su
   simp only at Pk Su
   have hq:=HSJ.out
   have E1:2<=x0->IntKind.i64.wrap (x0-2)=x0-2:=fun _=>IntWalk.i64_in _ a?
   have E2:2<=x0->x0<=Pe->IntKind.i64.wrap (Pe-x0)=Pe-x0:=fun _ _=>IntWalk.i64_in _ a?
   have o0:=ae.new wr #[x0,xn] 128
   have O0:=tK o0
   clear o0 hq
   rcases(by omega:xn<1\/(1<=xn/\x0<2)\/(1<=xn/\2<=x0/\x0-2<jr)\/(1<=xn/\2<=x0/\jr<=x0-2/\Pe<x0)\/(1<=xn/\2<=x0/\jr<=x0-2/\x0<=Pe/\Pe-x0<xn)\/(1<=xn/\2<=x0/\jr<=x0-2/\x0<=Pe/\xn<=Pe-x0))with g1|⟨g1,g2⟩|⟨g1,g2,g3⟩|⟨g1,g2,g3,g4⟩|⟨g1,g2,g3,g4,g5⟩|⟨g1,g2,g3,g4,g5⟩
   .have HN:=tK (Pk.out a?)
    have d1:decide (xn<1)=true:=e?
    clear E1 E2 g1 w1 w2 w3 w4 Uj
    go_wp2_with fail
    go_ret
    exact aX HN.out (HK.out.alloc _)
   .have HN:=tK (Pk.out a?)
    have d1:decide (xn<1)=false:=e?
    have d2:decide (x0<2)=true:=e?
    clear E1 E2 g1 g2 w1 w2 w3 w4 Uj
    go_wp2_with fail
    go_ret
    exact aX HN.out (HK.out.alloc _)
   .have HN:=tK (Pk.out a?)
    have d1:decide (xn<1)=false:=e?
    have d2:decide (x0<2)=false:=e?
    have e1:=E1 g2
    have d3:decide (x0-2<jr)=true:=e?
    clear E1 E2 g1 g2 g3 w1 w2 w3 w4 Uj
    go_wp2_with fail
    go_ret
    exact aX HN.out (HK.out.alloc _)
   .have HN:=tK (Pk.out a?)
    have d1:decide (xn<1)=false:=e?
    have d2:decide (x0<2)=false:=e?
    have e1:=E1 g2
    have d3:decide (x0-2<jr)=false:=e?
    have d4:decide (Pe<x0)=true:=e?
    have d4':decide (x0>Pe)=true:=e?
    clear E1 E2 g1 g2 g3 g4 w1 w2 w3 w4 Uj
    go_wp2_with fail
    go_ret
    exact aX HN.out (HK.out.alloc _)
   .have HN:=tK (Pk.out a?)
    have d1:decide (xn<1)=false:=e?
    have d2:decide (x0<2)=false:=e?
    have e1:=E1 g2
    have d3:decide (x0-2<jr)=false:=e?
    have e2:=E2 g2 g4
    have d4:decide (Pe<x0)=false:=e?
    have d4':decide (x0>Pe)=false:=e?
    have d5:decide (Pe-x0<xn)=true:=e?
    have d5':decide (xn>Pe-x0)=true:=e?
    clear E1 E2 g1 g2 g3 g4 g5 w1 w2 w3 w4 Uj
    go_wp2_with fail
    go_ret
    exact aX HN.out (HK.out.alloc _)
   .have QH:Hid (1<=xn/\2<=x0/\jr<=x0-2/\x0<=Pe/\xn<=Pe-x0):=tK a?
    have d1:decide (xn<1)=false:=e?
    have d2:decide (x0<2)=false:=e?
    have e1:=E1 g2
    have d3:decide (x0-2<jr)=false:=e?
    have e2:=E2 g2 g4
    have d4:decide (Pe<x0)=false:=e?
    have d4':decide (x0>Pe)=false:=e?
    have d5:decide (Pe-x0<xn)=false:=e?
    have d5':decide (xn>Pe-x0)=false:=e?
    have Q3:=Uj.2.2
    clear E1 E2 g1 g2 g3 g4 g5 Uj w1 w2 w3 w4
    go_wp2_with fail
    clear d1 d2 d3 d4 d4' d5 d5' e1 e2
    obtain⟨wo,rfl⟩:∃wo:World,wo=wr:=⟨_,rfl⟩
    go_loopw [9] (fun i wx=>∃m:Nat,m<=k/\i=(m:Int)/\(∀j (hj:j<m) (hjl:j<l.length),oJ (x0,xn) l[j])/\ae wx wo #[x0,xn] 128/\NP [] w wx) (fun i _=>k-(intOf i).toNat)
    case atStart=>exact⟨0,a?,rfl,fun j hj=>absurd hj a?,O0.out,HK.out.alloc _⟩
    case round=>
     obtain⟨m,hm,rfl,Qf,ho,QJ⟩:=hrel
     rename World=>wx
     by_cases RO:m<k
     .have hom:=HKO.out m RO
      have Rb:=Zl.out m RO
      have⟨b',off',e',d0,d1,_⟩:=(H.out.kept0 QJ).at_ m Y!
      injection e' with e'
      injection e' with e1 e2 _
      subst e1 e2
      have Xd:m<l.length:=Y!
      have ha:∀(ha2:oJ (x0,xn) (l[m]'Xd)),∀j (hj:j<m+1) (hjl:j<l.length),oJ (x0,xn) l[j]:=fun ha2 j hj hjl=>by
       by_cases e:j=m
       .subst e;exact ha2
       .exact Qf j a? hjl
      have⟨SG,S3,HMK,HO,YM⟩:=gi! ha Rb RO ho QJ
      have i2:(m:Int)<k:=a?
      have i3:(m:Int)<l.length:=a?
      have x0c:wx.cell? wo=x0:=ho.cell 0 b?
      have x1c:wx.cell? (aa wo 1)=xn:=ho.cell 1 b?
      clear ha Rb Qf ho QJ hm
      generalize l[m]=Y at*
      obtain⟨y0,yn⟩:=Y
      unfold lR at hom
      unfold oJ at SG S3
      simp only at d0 d1 hom SG S3
      obtain⟨q1,q2,q3,q4,q5⟩:=hom
      have e1:IntKind.i64.wrap (y0+yn)=y0+yn:=IntWalk.i64_in _ a?
      have e2:IntKind.i64.wrap (x0+xn)=x0+xn:=by have:=QH.out;exact IntWalk.i64_in _ a?
      rcases(by omega:¬x0<y0+yn\/(x0<y0+yn/\¬y0<x0+xn)\/(x0<y0+yn/\y0<x0+xn))with t1|⟨t1,t2⟩|⟨t1,t2⟩
      .have k1:decide (x0<y0+yn)=false:=e?
       have V9:=tK (SG.out (fun h=>by omega))
       clear t1 q1 q2 q3 q4 q5 Q3 SG S3
       exact M73
      .have k1:decide (x0<y0+yn)=true:=e?
       have k2:decide (y0<x0+xn)=false:=e?
       have V9:=tK (SG.out (fun h=>by omega))
       clear t1 t2 q1 q2 q3 q4 q5 Q3 SG S3
       exact M73
      .have k1:decide (x0<y0+yn)=true:=e?
       have k2:decide (y0<x0+xn)=true:=e?
       have HN:=tK (S3.out (fun h=>h ⟨t1,t2⟩))
       clear t1 t2 q1 q2 q3 q4 q5 Q3 SG S3
       go_wp2_with fail
       go_quiet (fail)
       go_wp2_with fail
       go_ret
       exact aX HN.out (YM.out.drewN _)
     .obtain rfl:m=k:=a?
      have ZT:=Su.out QH.out (fun j hj=>Qf j hj _)
      have⟨Zj,YM⟩:=f? ZT QJ
      clear ZT Qf Q3 QJ ho RO
      go_wp2_with fail
      go_roundw
      case rel=>exact⟨m+1,Of.out,j?,Zj.out,YM.out⟩
      case measure=>(have hh:=Of.out;simp[intOf];omega)
  .obtain rfl:k=l.length:=a?
   rw[MU]at hM
   have⟨HM,HK⟩:=f? hM hK
   clear hM hK
   go_wp2_with fail
   go_ret
   exact gu HM.out HK.out
theorem l8 (h0:¬lJ a) (h1:¬nT b) (hk:NP [] w w'):fO ok bad a b w (.returned (.tuple #[.agg #[.int .u64 0,(0:Int),(0:Int),(0:Int),(0:Int),()],bad])) w':=
 ⟨⟨none,_,Or.inl ⟨rfl,h0,h1⟩,rfl,Or.inl ⟨rfl,_,_,rfl⟩⟩,hk⟩
theorem xf (h0:lJ a) (h:¬(nT b/\(PS a).seq<(PS b).seq)) (hr:af w' v (PS a).runs w w') (hk:NP [] w w'):fO ok bad a b w (.returned (.tuple #[.agg ((PS a).cells v),ok])) w':=
 ⟨⟨some a,v,Or.inr (Or.inl ⟨rfl,h0,h⟩),rfl,hr⟩,hk⟩
theorem xe (h0:nT b) (h:¬(lJ a/\(PS b).seq<(PS a).seq)) (hr:af w' v (PS b).runs w w') (hk:NP [] w w'):fO ok bad a b w (.returned (.tuple #[.agg ((PS b).cells v),ok])) w':=
 ⟨⟨some b,v,Or.inr (Or.inr ⟨rfl,h0,h⟩),rfl,hr⟩,hk⟩
theorem M21 {A:Prop}(h:A:=by
 have hS:=(NP.refl [w.heap.size] (w2.alloc (.cells #[.int .u64 db.seq,db.sectors,db.journal,db.used,db.size,(pb,db.runs.length,cb)] 58))).bp (b:=w.heap.size) (Or.inl b?) (.int .u64 db.seq) db.sectors db.journal db.used db.size (pb,db.runs.length,cb)
 have VL:=abg.kept hS (fun x hx=>by simp at hx;omega)
 refine MN (v:=.tuple #[.agg #[.int .u64 db.seq,db.sectors,db.journal,db.used,db.size,(pb,db.runs.length,cb)],true]) ?_ ?_ ?_
 .exact aj results129 rfl rfl (o2.bp _ _ _ _ _ _) underlying58 rfl c?
 .rfl
 .have Yf:=HDA.out;have V1:=HDB.out;subst Yf;subst V1;exact xe ⟨HIB.out,a?⟩ (fun hc=>by have:=hc.1.2;have:=hc.2;omega) (VL.weaken a? Y? (MG _)) (QJ.bp (Or.inr (MG _)) _ _ _ _ _ _)):A:=h
theorem M20 {A:Prop}(h:A:=by
 have hS:=(NP.refl [w.heap.size] (w2.alloc (.cells #[.int .u64 db.seq,db.sectors,db.journal,db.used,db.size,(pb,db.runs.length,cb)] 58))).bp (b:=w.heap.size) (Or.inl b?) (.int .u64 da.seq) da.sectors da.journal da.used da.size (pa,da.runs.length,ca)
 have VL:=aaS.kept hS (fun x hx=>by simp at hx;omega)
 refine MN (v:=.tuple #[.agg #[.int .u64 da.seq,da.sectors,da.journal,da.used,da.size,(pa,da.runs.length,ca)],true]) ?_ ?_ ?_
 .exact aj results129 rfl rfl (o2.bp _ _ _ _ _ _) underlying58 rfl c?
 .rfl
 .have Yf:=HDA.out;have V1:=HDB.out;subst Yf;subst V1;exact xf ⟨SA.out,a?⟩ (fun hc=>by have:=hc.1.2;have:=hc.2;omega) (VL.weaken a? Y? (MG _)) (QJ.bp (Or.inr (MG _)) _ _ _ _ _ _)):A:=h
theorem KN (a b:List UInt8) (w:World) (ha:a.length<=1000000) (hb:b.length<=1000000):
  am! 129 #[a,b] w (fO true false a b w):=by
 have o:=ae.new w #[.int .u64 0,(0:Int),(0:Int),(0:Int),(0:Int),()] 58
 have HGA:=tK (fun W=>Jq a W ha)
 have HGB:=tK (fun W=>Jq b W hb)
 have HQ:Hid (∀l,(PS l).seq<18446744073709551616):=fun l=>iN l 8 8
 go_enter func129,ntmps129
 go_wp2_with fail
 refine(HGA.out _).mono ?_;rintro e w1 hh
 rcases jO hh with⟨va,hia,rfl,TB,OP⟩|⟨hia,rfl,OP⟩
 .obtain⟨pa,ca,rfl⟩:=TB.shape
  unfold SB.cells
  have hqa:=HQ.out a
  have SA:=tK hia
  clear hia
  generalize Yf:PS a=da at*
  have HDA:=tK Yf
  clear Yf
  have o1:=(OP.own o b?).alloc (.cells #[.int .u64 da.seq,da.sectors,da.journal,da.used,da.size,(pa,da.runs.length,ca)] 58)
  have ox:=ae.new w1 #[.int .u64 da.seq,da.sectors,da.journal,da.used,da.size,(pa,da.runs.length,ca)] 58
  have Uo:=(((NP.refl _ w).alloc (.cells #[.int .u64 0,(0:Int),(0:Int),(0:Int),(0:Int),()] 58)).trans OP).alloc (.cells #[.int .u64 da.seq,da.sectors,da.journal,da.used,da.size,(pa,da.runs.length,ca)] 58)
  have SU:w.heap.size<w1.heap.size:=by have:=OP.size;simp at this;omega
  have aag:=(af.kept0 TB ((NP.refl _ _).alloc (.cells #[.int .u64 da.seq,da.sectors,da.journal,da.used,da.size,(pa,da.runs.length,ca)] 58))).weaken (lo':=w.heap.size+1) (hi':=w1.heap.size) b? (MG _) b?
  clear TB
  clear OP o hh
  go_wp2_with fail
  refine(HGB.out _).mono ?_;rintro e w2 hh
  rcases jO hh with⟨vb,Rr,rfl,hrb,PY⟩|⟨Rr,rfl,PY⟩
  .have TS:=PY.size
   simp only[Nd]at TS
   obtain⟨pb,cb,rfl⟩:=hrb.shape
   unfold SB.cells
   have hqb:=HQ.out b
   have HIB:=tK Rr
   clear Rr
   generalize V1:PS b=db at*
   have HDB:=tK V1
   clear V1
   have o2:=(PY.own o1 b?).alloc (.cells #[.int .u64 db.seq,db.sectors,db.journal,db.used,db.size,(pb,db.runs.length,cb)] 58)
   have ox2:=(PY.own ox b?).alloc (.cells #[.int .u64 db.seq,db.sectors,db.journal,db.used,db.size,(pb,db.runs.length,cb)] 58)
   have oy:=ae.new w2 #[.int .u64 db.seq,db.sectors,db.journal,db.used,db.size,(pb,db.runs.length,cb)] 58
   have QJ:=(Uo.trans PY).alloc (.cells #[.int .u64 db.seq,db.sectors,db.journal,db.used,db.size,(pb,db.runs.length,cb)] 58)
   have aaS:=aag.kept0 (PY.alloc (.cells #[.int .u64 db.seq,db.sectors,db.journal,db.used,db.size,(pb,db.runs.length,cb)] 58))
   have abg:=(af.kept0 hrb ((NP.refl _ _).alloc (.cells #[.int .u64 db.seq,db.sectors,db.journal,db.used,db.size,(pb,db.runs.length,cb)] 58))).weaken (lo':=w.heap.size+1) (hi':=w2.heap.size) e? (MG _) b?
   have⟨z0,z1,z2,z3,z4,z5⟩:=o2.c6
   have zz:=o2.z6
   have⟨x0,x1,x2,x3,x4,x5⟩:=ox2.c6
   have⟨y0,y1,y2,y3,y4,y5⟩:=oy.c6
   clear hh PY aag hrb HGA HGB HQ
   rcases(by omega:(da.seq:Int)%2=0\/(da.seq:Int)%2=1)with hpa|hpa
   .rcases(by omega:(db.seq:Int)%2=0\/(db.seq:Int)%2=1)with ZC|ZC
    .go_wp2_with fail
     exact M20
    .by_cases hl:(db.seq:Int)<da.seq
     .go_wp2_with fail
      exact M20
     .go_wp2_with fail
      exact M21
   .rcases(by omega:(db.seq:Int)%2=0\/(db.seq:Int)%2=1)with ZC|ZC
    .go_wp2_with fail
     refine MN (v:=.tuple #[.agg #[.int .u64 0,(0:Int),(0:Int),(0:Int),(0:Int),()],false]) ?_ ?_ ?_
     .exact aj results129 rfl rfl (o2.bp _ _ _ _ _ _) underlying58 rfl c?
     .rfl
     .have Yf:=HDA.out;have V1:=HDB.out;subst Yf;subst V1;exact l8 (fun hc=>by have:=hc.2;omega) (fun hc=>by have:=hc.2;omega) (QJ.bp (Or.inr (MG _)) _ _ _ _ _ _)
    .go_wp2_with fail
     exact M21
  .have TS:=PY.size
   simp only[Nd]at TS
   unfold SB.cells gF
   have HIB:=tK Rr
   clear Rr
   have o2:=(PY.own o1 b?).alloc (.cells #[.int .u64 0,(0:Int),(0:Int),(0:Int),(0:Int),()] 58)
   have ox2:=(PY.own ox b?).alloc (.cells #[.int .u64 0,(0:Int),(0:Int),(0:Int),(0:Int),()] 58)
   have oy:=ae.new w2 #[.int .u64 0,(0:Int),(0:Int),(0:Int),(0:Int),()] 58
   have QJ:=(Uo.trans PY).alloc (.cells #[.int .u64 0,(0:Int),(0:Int),(0:Int),(0:Int),()] 58)
   have aaS:=aag.kept0 (PY.alloc (.cells #[.int .u64 0,(0:Int),(0:Int),(0:Int),(0:Int),()] 58))
   have⟨z0,z1,z2,z3,z4,z5⟩:=o2.c6
   have zz:=o2.z6
   have⟨x0,x1,x2,x3,x4,x5⟩:=ox2.c6
   have⟨y0,y1,y2,y3,y4,y5⟩:=oy.c6
   clear hh PY aag HGA HGB HQ
   rcases(by omega:(da.seq:Int)%2=0\/(da.seq:Int)%2=1)with hpa|hpa
   .go_wp2_with fail
    have hS:=(NP.refl [w.heap.size] (w2.alloc (.cells #[.int .u64 0,(0:Int),(0:Int),(0:Int),(0:Int),()] 58))).bp (b:=w.heap.size) (Or.inl b?) (.int .u64 da.seq) da.sectors da.journal da.used da.size (pa,da.runs.length,ca)
    have VL:=aaS.kept hS (fun x hx=>by simp at hx;omega)
    refine MN (v:=.tuple #[.agg #[.int .u64 da.seq,da.sectors,da.journal,da.used,da.size,(pa,da.runs.length,ca)],true]) ?_ ?_ ?_
    .exact aj results129 rfl rfl (o2.bp _ _ _ _ _ _) underlying58 rfl c?
    .rfl
    .have Yf:=HDA.out;subst Yf;exact xf ⟨SA.out,a?⟩ (fun hc=>HIB.out hc.1.1) (VL.weaken a? Y? (MG _)) (QJ.bp (Or.inr (MG _)) _ _ _ _ _ _)
   .go_wp2_with fail
    refine MN (v:=.tuple #[.agg #[.int .u64 0,(0:Int),(0:Int),(0:Int),(0:Int),()],false]) ?_ ?_ ?_
    .exact aj results129 rfl rfl (o2.bp _ _ _ _ _ _) underlying58 rfl c?
    .rfl
    .have Yf:=HDA.out;subst Yf;exact l8 (fun hc=>by have:=hc.2;omega) (fun hc=>HIB.out hc.1) (QJ.bp (Or.inr (MG _)) _ _ _ _ _ _)
 .unfold SB.cells gF
  have SA:=tK hia
  clear hia
  have o1:=(OP.own o b?).alloc (.cells #[.int .u64 0,(0:Int),(0:Int),(0:Int),(0:Int),()] 58)
  have ox:=ae.new w1 #[.int .u64 0,(0:Int),(0:Int),(0:Int),(0:Int),()] 58
  have Uo:=(((NP.refl _ w).alloc (.cells #[.int .u64 0,(0:Int),(0:Int),(0:Int),(0:Int),()] 58)).trans OP).alloc (.cells #[.int .u64 0,(0:Int),(0:Int),(0:Int),(0:Int),()] 58)
  have SU:w.heap.size<w1.heap.size:=by have:=OP.size;simp at this;omega
  clear OP o hh
  go_wp2_with fail
  refine(HGB.out _).mono ?_;rintro e w2 hh
  rcases jO hh with⟨vb,Rr,rfl,hrb,PY⟩|⟨Rr,rfl,PY⟩
  .have TS:=PY.size
   simp only[Nd]at TS
   obtain⟨pb,cb,rfl⟩:=hrb.shape
   unfold SB.cells
   have hqb:=HQ.out b
   have HIB:=tK Rr
   clear Rr
   generalize V1:PS b=db at*
   have HDB:=tK V1
   clear V1
   have o2:=(PY.own o1 b?).alloc (.cells #[.int .u64 db.seq,db.sectors,db.journal,db.used,db.size,(pb,db.runs.length,cb)] 58)
   have ox2:=(PY.own ox b?).alloc (.cells #[.int .u64 db.seq,db.sectors,db.journal,db.used,db.size,(pb,db.runs.length,cb)] 58)
   have oy:=ae.new w2 #[.int .u64 db.seq,db.sectors,db.journal,db.used,db.size,(pb,db.runs.length,cb)] 58
   have QJ:=(Uo.trans PY).alloc (.cells #[.int .u64 db.seq,db.sectors,db.journal,db.used,db.size,(pb,db.runs.length,cb)] 58)
   have abg:=(af.kept0 hrb ((NP.refl _ _).alloc (.cells #[.int .u64 db.seq,db.sectors,db.journal,db.used,db.size,(pb,db.runs.length,cb)] 58))).weaken (lo':=w.heap.size+1) (hi':=w2.heap.size) e? (MG _) b?
   have⟨z0,z1,z2,z3,z4,z5⟩:=o2.c6
   have zz:=o2.z6
   have⟨x0,x1,x2,x3,x4,x5⟩:=ox2.c6
   have⟨y0,y1,y2,y3,y4,y5⟩:=oy.c6
   clear hh PY hrb HGA HGB HQ
   rcases(by omega:(db.seq:Int)%2=0\/(db.seq:Int)%2=1)with ZC|ZC
   .go_wp2_with fail
    refine MN (v:=.tuple #[.agg #[.int .u64 0,(0:Int),(0:Int),(0:Int),(0:Int),()],false]) ?_ ?_ ?_
    .exact aj results129 rfl rfl (o2.bp _ _ _ _ _ _) underlying58 rfl c?
    .rfl
    .have V1:=HDB.out;subst V1;exact l8 (fun hc=>SA.out hc.1) (fun hc=>by have:=hc.2;omega) (QJ.bp (Or.inr (MG _)) _ _ _ _ _ _)
   .go_wp2_with fail
    have hS:=(NP.refl [w.heap.size] (w2.alloc (.cells #[.int .u64 db.seq,db.sectors,db.journal,db.used,db.size,(pb,db.runs.length,cb)] 58))).bp (b:=w.heap.size) (Or.inl b?) (.int .u64 db.seq) db.sectors db.journal db.used db.size (pb,db.runs.length,cb)
    have VL:=abg.kept hS (fun x hx=>by simp at hx;omega)
    refine MN (v:=.tuple #[.agg #[.int .u64 db.seq,db.sectors,db.journal,db.used,db.size,(pb,db.runs.length,cb)],true]) ?_ ?_ ?_
    .exact aj results129 rfl rfl (o2.bp _ _ _ _ _ _) underlying58 rfl c?
    .rfl
    .have V1:=HDB.out;subst V1;exact xe ⟨HIB.out,a?⟩ (fun hc=>SA.out hc.1.1) (VL.weaken a? Y? (MG _)) (QJ.bp (Or.inr (MG _)) _ _ _ _ _ _)
  .have TS:=PY.size
   simp only[Nd]at TS
   unfold SB.cells gF
   have HIB:=tK Rr
   clear Rr
   have o2:=(PY.own o1 b?).alloc (.cells #[.int .u64 0,(0:Int),(0:Int),(0:Int),(0:Int),()] 58)
   have ox2:=(PY.own ox b?).alloc (.cells #[.int .u64 0,(0:Int),(0:Int),(0:Int),(0:Int),()] 58)
   have oy:=ae.new w2 #[.int .u64 0,(0:Int),(0:Int),(0:Int),(0:Int),()] 58
   have QJ:=(Uo.trans PY).alloc (.cells #[.int .u64 0,(0:Int),(0:Int),(0:Int),(0:Int),()] 58)
   have⟨z0,z1,z2,z3,z4,z5⟩:=o2.c6
   have zz:=o2.z6
   have⟨x0,x1,x2,x3,x4,x5⟩:=ox2.c6
   have⟨y0,y1,y2,y3,y4,y5⟩:=oy.c6
   clear hh PY HGA HGB HQ
   go_wp2_with fail
   refine MN (v:=.tuple #[.agg #[.int .u64 0,(0:Int),(0:Int),(0:Int),(0:Int),()],false]) ?_ ?_ ?_
   .exact aj results129 rfl rfl (o2.bp _ _ _ _ _ _) underlying58 rfl c?
   .rfl
   .exact l8 (fun hc=>SA.out hc.1) (fun hc=>HIB.out hc.1) (QJ.bp (Or.inr (MG _)) _ _ _ _ _ _)
theorem zO {n:Nat} {s:SB} (hm:s.may) (hs:s.sectors=(n:Int)):bo n s.journal s.used=0:=by
 obtain⟨⟨a1,a2,a3,a4,a5,a6,a7,a8,a9,a10⟩,b,c⟩:=hm
 unfold bo
 rw[if_neg a?]
end
section
open Go.Proofs.Tryz Go.RowKit
variable {r rlo:Nat} {MX:Option (SB×au)} {d:DK} {w:World}
def qy (r:Nat) (dn:Bool) (MX:Option (SB×au)) (w:World) (e:Ending) (w':World):Prop:=
 ((dn=true/\e=.returned (.tuple #[.pointer none,(90:Int)]))\/(dn=false/\MX=none/\e=.returned (.tuple #[.pointer none,(110:Int)]))\/
 (dn=false/\∃s c,MX=some (s,c)/\∃R sv vb vm vn,w.heap.size<=R/\ae w' R (bL r s sv c vb vm vn false) 202/\af w' sv s.runs w R/\av (fun x=>x<w.heap.size\/x=R) w' (.agg #[.int .u32 c.nextBox,.int .u32 c.nextMan,vb,vm,vn]) c/\e=.returned (.tuple #[.pointer (some ⟨R,0,none⟩),(0:Int)])))/\NP [] w w'
def iB (r:Nat) (d:DK) (w:World) (e:Ending) (w':World):Prop:=qy r d.down (Ql d) w e w'
theorem nv {w w'} (h:MX=none) (k:NP [] w w'):qy r false MX w (.returned (.tuple #[.pointer none,(110:Int)])) w':=⟨Or.inr (Or.inl ⟨rfl,h,rfl⟩),k⟩
theorem Hm {w w'} (k:NP [] w w'):qy r true MX w (.returned (.tuple #[.pointer none,(90:Int)])) w':=⟨Or.inl ⟨rfl,rfl⟩,k⟩
theorem JC {r R:Nat} {MX:Option (SB×au)} {s:SB} {c:au} {sv vb vm vn:Value} {w w':World} (h:MX=some (s,c)) (h1:w.heap.size<=R) (o:ae w' R (bL r s sv c vb vm vn false) 202) (hr:af w' sv s.runs w R) (hc:av (fun x=>x<w.heap.size\/x=R) w' (.agg #[(c.nextBox,()),(c.nextMan,()),vb,vm,vn]) c) (k:NP [] w w'):qy r false MX w (.returned (.tuple #[R,(0:Int)])) w':=⟨Or.inr (Or.inr ⟨rfl,s,c,h,R,sv,vb,vm,vn,h1,o,hr,hc,rfl⟩),k⟩
theorem yG {s:SB} (hm:s.may) (hs:s.sectors=(d.stand.length:Int)) (hd:d.down=false):Oi d s.journal s.used=0:=by
 unfold Oi
 rw[zO hm hs,if_neg b?,if_neg ai!]
theorem M85 {A:Prop}(h:A:=by
 go_wp2_with fail
 go_ret2
 exact nv (by rw[TE.out,Pk.out];rfl) (Ry.out.trans K37.out)):A:=h
theorem M52 {A:Prop}(h:A:=by
 clear aae XB hw8
 refine hK.out _ _ (Ow.out _ K5A.out) (fun hHeld=>nM ?_)
 clear hK K
 refine tS ?_
 refine Ng c? ?_ _
 try simp only[List.set_cons_succ,List.set_cons_zero]
 go_wp2_with fail
 go_meet
 exact⟨_,_,_,_,_,_,_,rfl,rfl,O17.out,K5A.out,Z9.out,abn.out⟩):A:=h
theorem Hl (hD:QA w r rlo d) (hn:d.stand.length<=96):
  am! 70 #[.pointer (some ⟨r,0,none⟩)] w (iB r d w):=by
 have ZH:Hid (∀W,NP [] w W->am! 128 #[r,(0:Int)] W fun e w'=>e=.returned (.tuple #[.string (bs (Pc d 0)),(OM d 0:Int)])/\W=w'):=tK (fun W k=>(hD.aJ k).read 0)
 have VP:Hid (∀W,NP [] w W->am! 128 #[r,(1:Int)] W fun e w'=>e=.returned (.tuple #[.string (bs (Pc d 1)),(OM d 1:Int)])/\W=w'):=tK (fun W k=>(hD.aJ k).read 1)
 have ZF:∀i,(Pc d i).length<=1000000:=fun i=>by
  exact adI
 have Sy:Hid (∀W,am! 129 #[.string (bs (Pc d 0)),.string (bs (Pc d 1))] W (fO true false (Pc d 0) (Pc d 1) W)):=tK (fun W=>KN _ _ W (ZF 0) (ZF 1))
 have aar:Hid (∀W (s:SB) (v:Value) (PU PC:Nat),NP [] w W->af W v s.runs PU PC->s.may->am! 130 #[r,.agg (s.cells v)] W (kS d s W)):=tK (fun W s v PU PC k hr hm=>Ju (hD.aJ k) a? s v PU PC hr hm)
 have Xb:Hid (∀W (s:SB),NP [] w W->s.may->s.sectors=(d.stand.length:Int)->am! 131 #[r,s.used] W fun e w'=>e=.returned (.tuple #[.string (bs (Pq d s.journal s.used)),(Oi d s.journal s.used:Int)])/\W=w'):=tK (fun W s k hm hs=>JD s.journal s.used (hD.aJ k) (zO hm hs))
 have HLD:Hid (d.down=false->∀s:SB,s.may->s.sectors=(d.stand.length:Int)->Oi d s.journal s.used=0):=tK (fun hd s hm hs=>yG hm hs hd)
 have Xj:Hid (∀j u,(Pq d j u).length<=128*d.stand.length):=tK (fun j u=>me hD.fit j u)
 have Vb:Hid (∀W j u,am! 132 #[.string (bs (Pq d j u))] W (kh (Pq d j u) W)):=tK (fun W j u=>GE _ W (by have:=me hD.fit j u;omega))
 have VK:=tK (qJ (d:=d))
 have Ul:=tK (fun s=>uX (d:=d) (s:=s))
 have RZ:=tK (fun s=>pA (a:=Pc d 0) (b:=Pc d 1) (s:=s))
 have XZ:=tK (fun o=>xg (a:=Pc d 0) (b:=Pc d 1) (o:=o))
 have HBA:=tK (fun s c h=>rY hD.fit (s:=s) (c:=c) h)
 unfold fO at Sy
 unfold SB.cells at Sy
 have⟨ps,cs,ps2,cs2,y0,y1,y2,y3,y4,_⟩:=hD.ref.mz
 have SZ:Hid (∀W,NP [] w W->W.cell? r=(ps,d.stand.length,cs)):=tK (fun W k=>(k.cell (a:=r) hD.lt b?).trans y0)
 have HN:Hid (d.stand.length<=96):=tK hn
 have Ub:=tK (fun s=>qF (d:=d) (s:=s))
 have Xc:=tK (fun s=>qE (d:=d) (s:=s))
 have HX4:=tK (fun s c0 ls=>uA (d:=d) (s:=s) (c0:=c0) (ls:=ls))
 unfold iB
 generalize Ql d=MX at*
 generalize Pc d 0=R0 at*
 generalize Pc d 1=R1 at*
 generalize OM d 0=A0 at*
 generalize OM d 1=A1 at*
 clear hD hn ZF y0 y1 y2 y3
 go_enter func70,ntmps70
 cases RP:d.down
 .rw[RP]at y4
  go_wp2_with fail
  refine(ZH.out _ (NP.refl _ _)).mono ?_;rintro e w0 ⟨rfl,rfl⟩
  go_wp2_with fail
  refine(VP.out _ (NP.refl _ _)).mono ?_;rintro e w0 ⟨rfl,rfl⟩
  go_wp2_with fail
  refine(Sy.out _).mono ?_;rintro e w2 ⟨⟨o,v,hpick,rfl,Oe⟩,k2⟩
  have Wn:=XZ.out o hpick
  generalize hps:mK o=pp at*
  obtain⟨sq,se,jr,us,sz,rs⟩:=pp
  simp only at*
  obtain⟨pv,cv,rfl⟩:=Oe.shape
  have⟨K2,Ra⟩:=f? k2 Oe
  have o8:=ae.new w2 #[.int .u64 sq,se,jr,us,sz,(pv,rs.length,cv)] 58
  have k8:=(NP.refl [] w2).alloc (.cells #[.int .u64 sq,se,jr,us,sz,(pv,rs.length,cv)] 58)
  have⟨O8,K8,HDN⟩:=gg! o8 k8 RP
  clear hpick Oe k2 k8 RP ZH VP Sy XZ y4
  cases o with
  |none=>
   have TE:=tK (VK.out Wn)
   clear Wn hps o8
   go_upto_region 6 with fail
   have Ry:=tK (K2.out.trans K8.out)
   generalize w2.alloc (.cells #[.int .u64 sq,se,jr,us,sz,(pv,rs.length,cv)] 58)=w3 at*
   generalize d.stand.length=NN at*
   have Ow:Hid (∀W,NP [] w3 W->W.cell? (aa w2 1)=se/\W.cell? r=(ps,NN,cs)):=tK (fun W k=>⟨(k.own O8.out b?).c6.2.1,SZ.out W (Ry.out.trans k)⟩)
   generalize w2.heap.size=n8 at*
   refine MK (S:=(fun W=>W.cell? (aa n8 1)=se/\W.cell? r=(ps,NN,cs))) c? J? (fun hHeld=>?_)
   refine tS ?_
   refine Ng c? ?_ _
   try simp only[List.set_cons_succ,List.set_cons_zero]
   go_wp2_with fail
   go_ret2
   exact nv (TE.out) (Ry.out.trans ((NP.refl [] w3).drew))
  |some l=>
   have V2:jM R0 R1=some ⟨sq,se,jr,us,sz,rs⟩:=by rw[Wn];exact congrArg some hps
   have hM:=Ul.out _ V2
   have Ya:=tK (RZ.out _ V2).1
   have XX:=tK hM
   clear o8 Wn V2 hps hM VK Ul RZ
   go_upto_region 6 with fail
   have Ry:=tK (K2.out.trans K8.out)
   have Tc:Hid (w.heap.size<=w2.heap.size/\w2.heap.size<(w2.alloc (.cells #[.int .u64 sq,se,jr,us,sz,(pv,rs.length,cv)] 58)).heap.size):=tK ⟨K2.out.size,b?⟩
   have Vc:=tK (Ra.out.kept0 K8.out)
   generalize w2.alloc (.cells #[.int .u64 sq,se,jr,us,sz,(pv,rs.length,cv)] 58)=w3 at*
   obtain⟨NN,hNN⟩:∃N,d.stand.length=N:=⟨_,rfl⟩
   rw[hNN]at SZ
   have Ow:Hid (∀W,NP [] w3 W->W.cell? (aa w2 1)=se/\W.cell? r=(ps,NN,cs)):=tK (fun W k=>⟨(k.own O8.out b?).c6.2.1,SZ.out W (Ry.out.trans k)⟩)
   obtain⟨n8,hn8⟩:∃n8,w2.heap.size=n8:=⟨_,rfl⟩
   simp only[hn8]at O8 Tc Ow Vc ⊢
   have Uf:=tK hNN
   have RS:Hid (w.heap.size<=n8/\n8<w3.heap.size):=tK Tc.out
   have hrw:=Vc.out.weaken (lo':=w.heap.size) (hi':=n8) a? (MG _) (by have:=Tc.out;omega)
   have Vc:=tK hrw
   clear hrw
   clear hNN K2 Ra
   refine MK (S:=(fun W=>W.cell? (aa n8 1)=se/\W.cell? r=(ps,NN,cs))) c? J? (fun hHeld=>?_)
   refine tS ?_
   refine Ng c? ?_ _
   try simp only[List.set_cons_succ,List.set_cons_zero]
   by_cases hse:se=(NN:Int)
   .have e1:(se != (NN:Int))=false:=by rw[hse];simp
    have Zt:se=(d.stand.length:Int):=by rw[hse,Uf.out]
    have TE:=tK (XX.out.trans (if_pos Zt))
    have HSE:=tK Zt
    have K3:=tK (Ry.out.trans ((NP.refl [] w3).drew))
    have K3d:=tK ((NP.refl [] w3).drew)
    have Oo:=aar.out _ ⟨sq,se,jr,us,sz,rs⟩ _ _ _ K3.out (Vc.out.kept0 K3d.out) Ya.out
    have HBS:=tK Oo
    unfold kS SB.cells at HBS
    have Ss:=tK (fun W (k:NP [] w3 W)=>Xb.out W ⟨sq,se,jr,us,sz,rs⟩ (Ry.out.trans k) Ya.out Zt)
    have HRE:=tK (fun W=>Vb.out W jr us)
    unfold kh at HRE
    have HLX:=tK (HLD.out HDN.out ⟨sq,se,jr,us,sz,rs⟩ Ya.out Zt)
    have HF:=tK (Xj.out jr us)
    have X1:=tK (Ub.out ⟨sq,se,jr,us,sz,rs⟩)
    have X3:=tK (Xc.out ⟨sq,se,jr,us,sz,rs⟩)
    have X4:=tK (HX4.out ⟨sq,se,jr,us,sz,rs⟩)
    have BA:=tK (HBA.out ⟨sq,se,jr,us,sz,rs⟩)
    have O83:=tK (K3d.out.own O8.out b?)
    have⟨x0,x1,x2,x3,x4,x5⟩:=O83.out.c6
    simp only at Ss HLX X3 X4
    clear hse Zt Oo XX aar Xb Vb HLD Xj Ub Xc HX4 HBA
    generalize Pn d ⟨sq,se,jr,us,sz,rs⟩=SX at*
    generalize PA d ⟨sq,se,jr,us,sz,rs⟩=BX at*
    generalize Pq d jr us=X at*
    generalize Oi d jr us=G at*
    go_wp2_with fail
    refine HBS.out.mono ?_;rintro e w4 ⟨⟨c0,v0,hbx,Oz,rfl⟩|⟨hbx,rfl⟩,k4⟩
    .obtain⟨vb,vm,vn,rfl,hb,TF,QT,SU,TS⟩:=id Oz
     obtain⟨p1,c1,rfl⟩:=hb.plain.shape
     obtain⟨p2,c2,rfl⟩:=TF.plain.shape
     obtain⟨p3,c3,rfl⟩:=QT.plain.shape
     have⟨QK,SP⟩:=f? Oz hbx
     have Xo:=tK (BA.out c0 hbx)
     have Zm:=tK (K3d.out.trans k4)
     have o6:=ae.new w4 #[(c0.nextBox,()),(c0.nextMan,()),(p1,c0.boxes.length,c1),(p2,c0.mans.length,c2),(p3,c0.names.length,c3)] 52
     have k6:=(NP.refl [] w4).alloc (.cells #[(c0.nextBox,()),(c0.nextMan,()),(p1,c0.boxes.length,c1),(p2,c0.mans.length,c2),(p3,c0.names.length,c3)] 52)
     have⟨z0,z1,z2,z3,z4⟩:=o6.k5
     have⟨O6,K6⟩:=f? o6 k6
     have O84:=tK (k6.own (k4.own O83.out b?) b?)
     clear x0 x1 x2 x3 x4 x5
     have⟨x0,x1,x2,x3,x4,x5⟩:=O84.out.c6
     clear o6 k6 Oz hb TF QT SU TS hbx k4 BA HBS
     go_wp2_with fail
     have K36:=tK (Zm.out.trans K6.out)
     have HC6:=tK (((QK.out.cI (T:=fun x=>x<w.heap.size) (fun x hx=>by have h1:=Ry.out.size;show x<w3.heap.size;omega)).more (T:=fun x=>x=w4.heap.size) (fun x hx=>by rw[hx];exact MG _)).kept0 K6.out)
     have Yu:Hid (w3.heap.size<=w4.heap.size/\w4.heap.size<(w4.alloc (.cells #[(c0.nextBox,()),(c0.nextMan,()),(p1,c0.boxes.length,c1),(p2,c0.mans.length,c2),(p3,c0.names.length,c3)] 52)).heap.size):=tK ⟨Zm.out.size,b?⟩
     generalize w4.alloc (.cells #[(c0.nextBox,()),(c0.nextMan,()),(p1,c0.boxes.length,c1),(p2,c0.mans.length,c2),(p3,c0.names.length,c3)] 52)=w6 at*
     obtain⟨n10,hn10⟩:∃n,w4.heap.size=n:=⟨_,rfl⟩
     simp only[hn10]at O6 Yu HC6 z0 z1 z2 z3 z4 ⊢
     have aeN:Hid (n10≠n8/\n8<w3.heap.size):=tK (by have h1:=Yu.out;have h2:=RS.out;omega)
     clear hn10
     refine(Ss.out _ K36.out).mono ?_;rintro e w6' ⟨rfl,rfl⟩
     go_wp2_with fail
     refine(HRE.out _).mono ?_;rintro e w7 ⟨Rz,k7⟩
     have K37:=tK (K36.out.trans k7)
     have O67:=tK (k7.own O6.out b?)
     have O87:=tK (k7.own O84.out b?)
     have HC7:=tK (HC6.out.kept0 k7)
     have aac:Hid (w6.heap.size<=w7.heap.size):=tK k7.size
     clear k7 z0 z1 z2 z3 z4 x0 x1 x2 x3 x4 x5 Ss HRE
     rcases Rz with⟨ls,v9,P0,Tt,rfl⟩|⟨P0,rfl⟩
     .have VU:=tK Tt
      obtain⟨p9,c9,rfl⟩:=Tt.shape
      have HX6:=tK (X4.out c0 ls SP.out HLX.out P0)
      have TC:=tK (pN P0)
      have ace:=tK (fun l hl=>(kO P0 l hl).1)
      have aeo:(ls.length:Int)<=9223372036854775807:=by
       have:=VU.out.len
       unfold maxLen at this
       omega
      clear Tt P0
      go_wp2_with fail
      go_loopw [16] (fun i wr=>∃(k:Nat) (c:au) (vb vm vn:Value),k<=ls.length/\i=.int .i64 (k:Nat)/\NP [n10] w7 wr/\ae wr n10 #[.int .u32 c.nextBox,.int .u32 c.nextMan,vb,vm,vn] 52/\av (fun x=>x<w.heap.size\/x=n10) wr (.agg #[.int .u32 c.nextBox,.int .u32 c.nextMan,vb,vm,vn]) c/\(bM c0 (ls.take k)=some c/\OL c/\jn c/\cQ c<=cQ c0+(ls.take k).flatten.length)) (fun i _=>ls.length-(intOf i).toNat)
      case atStart=>exact⟨0,c0,_,_,_,Nb _,rfl,NP.refl _ _,O67.out,HC7.out,rfl,Xo.out.1,Xo.out.2.1,b?⟩
      case round=>
       obtain⟨k,c,vb,vm,vn,hk,rfl,Xf,ho10,hcr,hrp,Pz,hfi,Q2⟩:=hrel
       rename World=>wr
       obtain⟨⟨pb,nb,cb,rfl⟩,⟨pm,nm,cm,rfl⟩,⟨pn,nn,cn,rfl⟩⟩:=av.sr hcr
       have⟨XE,YO,XF⟩:=gg! Xf ho10 hcr
       have KR:=tK ((Ry.out.trans K37.out).call Xf (fun x hx=>Or.inr (by
        obtain rfl:x=n10:=h?
        have h1:=Yu.out
        have h2:=RS.out
        omega)))
       clear Xf ho10 hcr
       by_cases NV:k<ls.length
       .have i1:(k:Int)<ls.length:=a?
        have Of:=tK NV
        have⟨bt,off,kv,ct,hpe,Rm⟩:=VU.out.at_ k NV
        injection hpe with hpe Rq hpc
        subst hpe
        subst hpc
        clear Rq
        have⟨Ou,Q8⟩:=Rm wr [n10] XE.out (fun x hx=>by
         obtain rfl:x=n10:=h?
         have h1:=Yu.out
         exact Or.inl h1.2)
        have Ug:=pO NV
        have Qy:=ace.out _ (MJ NV)
        have Ri:=TC.out.1 _ (MJ NV)
        have Ox:=qI (c0:=c0) (c:=c) NV hrp
        obtain⟨pk,ck,rfl⟩:=Q8.shape
        have QC:=tK Q8.oI
        clear Q8
        generalize XD:ls[k]'NV=lk at*
        have acp:Hid (n10<wr.heap.size/\w.heap.size<=wr.heap.size):=tK ⟨YO.out.lt,KR.out.size⟩
        have SG:Hid (∀W (S0:Nat->Prop),NP [] wr W->av S0 W (.agg #[(c.nextBox,()),(c.nextMan,()),(pb,nb,cb),(pm,nm,cm),(pn,nn,cn)]) c->(∀x,S0 x->x<W.heap.size)->am! 133 #[.agg #[(c.nextBox,()),(c.nextMan,()),(pb,nb,cb),(pm,nm,cm),(pn,nn,cn)],(pk,lk.length,ck)] W (dC S0 (N8 c lk) W)):=tK (fun W S0 q hcw hs0=>JJ (S0:=S0) _ c (pk,lk.length,ck) lk _ _ W hcw hs0 Pz.small (QC.out.kept0 q) (fun r hr=>sV (Qy r hr) (Ri r hr)) (fun r hr=>by have:=jz (Qy r hr);omega))
        unfold dC at SG
        have P8:=tK (kE [lk] (c:=c) (c':=(N8 c lk).1) Pz hfi (fun l hl r hr=>by
         obtain rfl:l=lk:=ae!
         exact Ri r hr))
        have aa6:Hid (∀C1,(N8 c lk).2=C1->C1=0->bM c [lk]=some (N8 c lk).1):=tK (fun C1 h1 h2=>by
         show(if(N8 c lk).2=0 then some (N8 c lk).1 else none)=_
         rw[if_pos (h1.trans h2)])
        have⟨Sb,ZL,Wo⟩:=gg! Ox Ug Q2
        have Ow:Hid (∀W,NP [] wr W->W.cell? n10=(c.nextBox,())/\W.cell? (aa n10 1)=(c.nextMan,())/\W.cell? (aa n10 2)=(pb,nb,cb)/\W.cell? (aa n10 3)=(pm,nm,cm)/\W.cell? (aa n10 4)=(pn,nn,cn)/\W.cell? (aa bt (off+k))=(pk,lk.length,ck)):=tK (fun W q=>by
         have⟨a0,a1,a2,a3,a4⟩:=(q.own YO.out b?).k5
         exact⟨a0,a1,a2,a3,a4,(q.cell (a:=(aa bt (off+k))) (sW Ou) b?).trans Ou⟩)
        clear Rm XD Ug Qy Ri Ox hrp Pz hfi Q2 hk QC Ou
        generalize N8 c lk=AP at*
        obtain⟨c5,C5⟩:=AP
        simp only at*
        go_upto_region 16 with fail
        go_cut [17,18] (fun v17 v18 wx=>∃n17 VQ c15 VN c25 VR c35,v17=.pointer (some ⟨n17,0,none⟩)/\v18=C5/\ae wx n17 #[(c5.nextBox,()),(c5.nextMan,()),.slice VQ c5.boxes.length c15,.slice VN c5.mans.length c25,.slice VR c5.names.length c35] 52/\NP [] wr wx/\av (fun x=>x<w.heap.size\/x=n10) wx (.agg #[(c5.nextBox,()),(c5.nextMan,()),.slice VQ c5.boxes.length c15,.slice VN c5.mans.length c25,.slice VR c5.names.length c35]) c5/\wr.heap.size<=n17)
        case first=>
         refine MK (S:=(fun W=>W.cell? n10=(c.nextBox,())/\W.cell? (aa n10 1)=(c.nextMan,())/\W.cell? (aa n10 2)=(pb,nb,cb)/\W.cell? (aa n10 3)=(pm,nm,cm)/\W.cell? (aa n10 4)=(pn,nn,cn)/\W.cell? (aa bt (off+k))=(pk,lk.length,ck))) c? (by exact Ow.out _ ((NP.refl [] wr).drew)) (fun hHeld=>?_)
         refine tS ?_
         refine wpAnyH_ready (rs:=[5,9]) c? b? ?_
         refine(AllReadyH.cons rfl (fun K hK=>?_) (AllReadyH.cons rfl (fun K hK=>?_) AllReadyH.nil))
         .go_simp
          ((with_reducible refine(SG.out _ (fun x=>x<w.heap.size\/x=n10) ((NP.refl [] wr).drew) (XF.out.kept0 ((NP.refl [] wr).drew)) (fun x hx=>by have h1:=acp.out;have h2:(wr.drew).heap.size=wr.heap.size:=b?;omega)).mono ?_));rintro e w5 ⟨v5,rfl,hcat5,k5⟩
          obtain⟨vb5,vm5,vn5,rfl,XP,ZS,hn5,_,_⟩:=id hcat5
          obtain⟨VQ,c15,rfl⟩:=XP.plain.shape
          obtain⟨VN,c25,rfl⟩:=ZS.plain.shape
          obtain⟨VR,c35,rfl⟩:=hn5.plain.shape
          have VO:=tK hcat5
          have K5:=tK (((NP.refl [] wr).drew).trans k5)
          clear hcat5 XP ZS hn5 k5
          go_wp2_with fail
          refine hK.out _ _ (Ow.out _ K5.out) (fun hHeld=>nM ?_)
          clear hK K
          refine tS ?_
          refine rD 9 (fun K hK=>?_)
          go_simp
          refine hK.out _ _ (Ow.out _ (K5.out.alloc _)) (fun hHeld=>nM ?_)
          clear hK K
          have YS:=tK (ae.new w5 #[.int .u32 0,.int .u32 0,(),(),()] 52)
          have acn:=tK ((NP.refl [] w5).alloc (.cells #[.int .u32 0,.int .u32 0,(),(),()] 52))
          have abn:Hid (wr.heap.size<=w5.heap.size):=tK K5.out.size
          refine rD 10 (fun K hK=>?_)
          refine dz rfl 52 _ _ rfl w5 0 #[(c5.nextBox,()),(c5.nextMan,()),(VQ,c5.boxes.length,c15),(VN,c5.mans.length,c25),(VR,c5.names.length,c35)] g? g? (YS.out.drew.there 0 5 b?) c? (NL (cs:=[.int .u32 c5.nextBox,.int .u32 c5.nextMan,.slice VQ c5.boxes.length c15,.slice VN c5.mans.length c25,.slice VR c5.names.length c35]) l?) ?_
          rw[km]
          have aae:=YS.out.aV (c5.nextBox,()) (c5.nextMan,()) (VQ,c5.boxes.length,c15) (VN,c5.mans.length,c25) (VR,c5.names.length,c35)
          have XB:NP [w5.heap.size] (w5.alloc (.cells #[.int .u32 0,.int .u32 0,(),(),()] 52)) ((((((w5.alloc (.cells #[.int .u32 0,.int .u32 0,(),(),()] 52)).setCell w5 (c5.nextBox,())).setCell (aa w5 1) (c5.nextMan,())).setCell (aa w5 2) (VQ,c5.boxes.length,c15)).setCell (aa w5 3) (VN,c5.mans.length,c25)).setCell (aa w5 4) (VR,c5.names.length,c35)):=NP.ay (NP.refl _ _) (Or.inl b?) _ _ _ _ _
          generalize hw8:(((((w5.alloc (.cells #[.int .u32 0,.int .u32 0,(),(),()] 52)).setCell w5 (c5.nextBox,())).setCell (aa w5 1) (c5.nextMan,())).setCell (aa w5 2) (VQ,c5.boxes.length,c15)).setCell (aa w5 3) (VN,c5.mans.length,c25)).setCell (aa w5 4) (VR,c5.names.length,c35)=w8 at*
          have O17:=tK aae
          have K5A:=tK ((K5.out.trans acn.out).call XB (fun x hx=>Or.inr (by
           obtain rfl:x=w5.heap.size:=h?
           exact abn.out)))
          have Z9:=tK ((av.aS (T:=[w5.heap.size]) (((VO.out).more (T:=fun x=>x=w5.heap.size) (fun x hx=>by rw[hx];exact MG _)).kept0 acn.out) XB (fun x hx=>Or.inr h?)).cI (T:=fun x=>x<w.heap.size\/x=n10) (fun x hx=>Or.inl hx))
          exact M52
         .go_simp
          have acZ:=tK (ae.drew (ae.new wr #[.int .u32 0,.int .u32 0,(),(),()] 52))
          have Z8:=tK (((NP.refl [] wr).alloc (.cells #[.int .u32 0,.int .u32 0,(),(),()] 52)).drew)
          refine hK.out _ _ ?_ (fun hHeld=>nM ?_)
          .first|exact Ow.out _ Z8.out|exact Ow.out _ (((NP.refl [] wr).drew).alloc _)
          clear hK K
          have aeB:Hid (av (fun x=>(x<w.heap.size\/x=n10)\/x=wr.heap.size) ((wr.alloc (.cells #[.int .u32 0,.int .u32 0,(),(),()] 52)).drew) (.agg #[(c.nextBox,()),(c.nextMan,()),(pb,nb,cb),(pm,nm,cm),(pn,nn,cn)]) c):=tK (((XF.out).more (T:=fun x=>x=wr.heap.size) (fun x hx=>by rw[hx];exact MG _)).kept0 Z8.out)
          have adO:Hid (wr.heap.size<((wr.alloc (.cells #[.int .u32 0,.int .u32 0,(),(),()] 52)).drew).heap.size):=tK acZ.out.lt
          generalize (wr.alloc (.cells #[.int .u32 0,.int .u32 0,(),(),()] 52)).drew=w4b at*
          refine rD 5 (fun K hK=>?_)
          go_simp
          ((with_reducible refine(SG.out w4b (fun x=>(x<w.heap.size\/x=n10)\/x=wr.heap.size) Z8.out aeB.out (fun x hx=>by have h1:=acp.out;have h2:=adO.out;omega)).mono ?_));rintro e w5 ⟨v5,rfl,hcat5,k5⟩
          obtain⟨vb5,vm5,vn5,rfl,XP,ZS,hn5,_,_⟩:=id hcat5
          obtain⟨VQ,c15,rfl⟩:=XP.plain.shape
          obtain⟨VN,c25,rfl⟩:=ZS.plain.shape
          obtain⟨VR,c35,rfl⟩:=hn5.plain.shape
          have VO:=tK hcat5
          have K5:=tK (Z8.out.trans k5)
          have YS:=tK (k5.own acZ.out b?)
          have abn:Hid (wr.heap.size<=wr.heap.size):=tK (MG _)
          clear hcat5 XP ZS hn5 k5
          go_wp2_with fail
          refine hK.out _ _ (Ow.out _ K5.out) (fun hHeld=>nM ?_)
          clear hK K
          refine tS ?_
          refine rD 10 (fun K hK=>?_)
          refine dz rfl 52 _ _ rfl wr 0 #[(c5.nextBox,()),(c5.nextMan,()),(VQ,c5.boxes.length,c15),(VN,c5.mans.length,c25),(VR,c5.names.length,c35)] g? g? (YS.out.drew.there 0 5 b?) c? (NL (cs:=[.int .u32 c5.nextBox,.int .u32 c5.nextMan,.slice VQ c5.boxes.length c15,.slice VN c5.mans.length c25,.slice VR c5.names.length c35]) l?) ?_
          rw[km]
          have aae:=YS.out.aV (c5.nextBox,()) (c5.nextMan,()) (VQ,c5.boxes.length,c15) (VN,c5.mans.length,c25) (VR,c5.names.length,c35)
          have XB:NP [wr.heap.size] (w5) ((((((w5).setCell wr (c5.nextBox,())).setCell (aa wr 1) (c5.nextMan,())).setCell (aa wr 2) (VQ,c5.boxes.length,c15)).setCell (aa wr 3) (VN,c5.mans.length,c25)).setCell (aa wr 4) (VR,c5.names.length,c35)):=NP.ay (NP.refl _ _) (Or.inl b?) _ _ _ _ _
          generalize hw8:(((((w5).setCell wr (c5.nextBox,())).setCell (aa wr 1) (c5.nextMan,())).setCell (aa wr 2) (VQ,c5.boxes.length,c15)).setCell (aa wr 3) (VN,c5.mans.length,c25)).setCell (aa wr 4) (VR,c5.names.length,c35)=w8 at*
          have O17:=tK aae
          have K5A:=tK (K5.out.call XB (fun x hx=>Or.inr (by
           obtain rfl:x=wr.heap.size:=h?
           exact MG _)))
          have Z9:=tK ((av.aS (T:=[wr.heap.size]) VO.out XB (fun x hx=>Or.inr h?)).cI (T:=fun x=>x<w.heap.size\/x=n10) (fun x hx=>Or.inl hx))
          exact M52
        case rest=>
        obtain⟨n17,VQ,c15,VN,c25,VR,c35,hs17,hs18,ho17,k5a,hc5a,hle⟩:=hcut
        rename World=>w8
        subst hs17 hs18
        have⟨O17,K5A,Z9⟩:=gg! ho17 k5a hc5a
        clear ho17 k5a hc5a hle
        have abD:=tK (K5A.out.own YO.out b?)
        have⟨y0,y1,y2,y3,y4⟩:=abD.out.k5
        have⟨g0,g1,g2,g3,g4⟩:=abD.out.y5
        have⟨q0,q1,q2,q3,q4⟩:=O17.out.k5
        by_cases h0:C5=0
        .have h00:(C5 != 0)=false:=aa!
         have Zo:Hid (bM c0 (ls.take (k+1))=some c5/\OL c5/\jn c5/\cQ c5<=cQ c0+(ls.take (k+1)).flatten.length):=tK (by
          have hs:=Sb.out
          rw[if_pos h0]at hs
          have⟨a1,a2,a3⟩:=P8.out (aa6.out C5 rfl h0)
          refine⟨hs,a1,a2,?_⟩
          have:=Wo.out
          rw[ZL.out,tN]
          simp at a3
          omega)
         clear h0
         go_wp2_with fail
         go_roundw
         case rel=>
          refine⟨k+1,c5,_,_,_,Of.out,j?,NP.ay (XE.out.trans (K5A.out.mono (T:=[n10]) b?)) (Or.inl b?) _ _ _ _ _,abD.out.aV _ _ _ _ _,?_,Zo.out⟩
          exact av.aS Z9.out (NP.ay (NP.refl [n10] _) (Or.inl b?) _ _ _ _ _) (fun x hx=>by
           obtain rfl:x=n10:=h?
           exact Or.inr rfl)
         case measure=>(have hh:=Of.out;simp[intOf]<;>omega)
        .have h00:(C5 != 0)=true:=by simpa using h0
         have Pk:Hid (bM c0 (ls.take (k+1))=none):=tK (by
          have hs:=Sb.out
          rw[if_neg h0]at hs
          exact hs)
         have Zl:=tK (HX6.out.1 (yr c0 ls (k+1) Pk.out))
         have KF:=tK (KR.out.trans K5A.out)
         clear h0
         go_wp2_with fail
         go_ret2
         exact nv (by rw[TE.out,Zl.out];rfl) (KF.out)
       .have i1:¬(k:Int)<ls.length:=a?
        have QY:ls.take k=ls:=Nh a?
        rw[QY]at hrp Q2
        have UF:=rQ.2 hfi
        have TW:=zV Pz UF
        have RD:cQ c<=5000:=by
         exact adw
        have P3:=l7 Pz
        have ZX:=Ya.out.1
        unfold SB.dD at ZX
        simp only at ZX
        have ZG:Hid (∀W,NP [] wr W->am! 135 #[.agg #[(c.nextBox,()),(c.nextMan,()),(pb,nb,cb),(pm,nm,cm),(pn,nn,cn)]] W (bh (OK c) W)):=tK (fun W q=>wZ _ c W (XF.out.plain.kept0 q) (by unfold cQ at RD;exact RD) (by unfold cQ at RD;omega))
        unfold bh at ZG
        have VJ:Hid (∀W u lo hi,af W u (OK c++rs) lo hi->am! 134 #[u,se,jr] W (bG (PB se jr (OK c++rs)) W)):=tK (fun W u lo hi h=>KZ u _ se jr lo hi W h (by rw[tN];unfold cQ at RD;omega) (fun a ha=>by
         rcases Na.1 ha with ha|ha
         .have:=TW a ha;unfold aQ;omega
         .exact qg Ya.out a ha) a? a? (fun a ha=>by
         rcases Na.1 ha with ha|ha
         .have:=TW a ha;omega
         .have:=Cd Ya.out a ha;omega))
        unfold bG at VJ
        have Tu:(OK c).length<=80000:=by unfold cQ at RD;omega
        have Tn:rs.length<=16:=a?
        have⟨Yc,YR⟩:=f? Tu Tn
        have HX7:=tK ((HX6.out).2 c hrp)
        have O8R:=tK (XE.out.own O87.out (by have h1:=aeN.out;have h2:=RS.out;simp only[Nm];omega))
        have Sa:Hid (∀W,NP [] wr W->af W (pv,rs.length,cv) rs w n8):=tK (fun W q=>((Vc.out.kept0 K37.out).kept XE.out (fun x hx=>by
         obtain rfl:x=n10:=h?
         have h1:=RS.out
         have h2:=Yu.out
         exact Or.inr a?)).kept0 q)
        have Ow:Hid (∀W,NP [] wr W->W.cell? n10=(c.nextBox,())/\W.cell? (aa n10 1)=(c.nextMan,())/\W.cell? (aa n10 2)=(pb,nb,cb)/\W.cell? (aa n10 3)=(pm,nm,cm)/\W.cell? (aa n10 4)=(pn,nn,cn)/\W.cell? (aa n8 1)=se/\W.cell? (aa n8 2)=jr/\W.cell? (aa n8 5)=(pv,rs.length,cv)):=tK (fun W q=>by
         have⟨a0,a1,a2,a3,a4⟩:=(q.own YO.out b?).k5
         have⟨b0,b1,b2,b3,b4,b5⟩:=(q.own O8R.out b?).c6
         exact⟨a0,a1,a2,a3,a4,b1,b2,b5⟩)
        clear QY NV hk UF TW RD P3 ZX Tu Tn hrp Pz hfi Q2
        generalize PB se jr (OK c++rs)=LQ at*
        generalize hRC:OK c=RC at*
        clear hRC
        go_upto_region 20 with fail
        refine MK (S:=(fun W=>W.cell? n10=(c.nextBox,())/\W.cell? (aa n10 1)=(c.nextMan,())/\W.cell? (aa n10 2)=(pb,nb,cb)/\W.cell? (aa n10 3)=(pm,nm,cm)/\W.cell? (aa n10 4)=(pn,nn,cn)/\W.cell? (aa n8 1)=se/\W.cell? (aa n8 2)=jr/\W.cell? (aa n8 5)=(pv,rs.length,cv))) c? (by exact Ow.out _ ((NP.refl [] wr).drew)) (fun hHeld=>?_)
        refine tS ?_
        refine rD 1 (fun K hK=>?_)
        go_simp
        ((with_reducible refine(ZG.out _ ((NP.refl [] wr).drew)).mono ?_));rintro e w5 ⟨u,rfl,Ot,k5⟩
        have kk:=((NP.refl [] wr).drew).trans k5
        have abN:=tK (aF Ot (by simp:wr.heap.size<=(wr.drew).heap.size))
        have K5:=tK kk
        obtain⟨pu,cu,rfl⟩:=ah Ot
        clear Ot kk k5
        go_wp2_with fail
        refine hK.out _ _ (Ow.out _ K5.out) (fun hHeld=>nM ?_)
        clear hK K
        have⟨v6,w6,hrun6,Qz,hgr6⟩:=eC wr _ RC.length (NW RC) abN.out (pv,rs.length,cv) rs w n8 (Sa.out _ K5.out) N? o! K5.out.size
        have K6:=tK (K5.out.grown hgr6 (fun q hq=>Or.inr (ML abN.out q hq).1))
        obtain⟨p6,c6,rfl⟩:=ah Qz
        have Yn:w6.ownsRow wr 128 2 (p6,RC.length+rs.length,c6) (RC++rs).length (NW (RC++rs)):=by rw[tN,show NW (RC++rs)=NW RC++NW rs from by simp[NW]];exact Qz
        have⟨Tx,Yw⟩:=f? Yn hrun6
        clear hrun6 Qz hgr6 Yn
        refine rD 4 (fun K hK=>?_)
        refine aO rfl _ _ 56 56 rfl _ _ g? g? Yw.out ?_
        refine hK.out _ _ (Ow.out _ K6.out) (fun hHeld=>nM ?_)
        clear hK K
        refine rD 9 (fun K hK=>?_)
        go_simp
        ((with_reducible refine(VJ.out _ _ _ _ (af.bB Tx.out)).mono ?_));rintro e w9 ⟨bq,rfl,hbq,k9⟩
        have K9:=tK (K6.out.trans k9)
        have HBQ:=tK hbq
        clear k9 hbq
        go_wp2_with fail
        refine hK.out _ _ (Ow.out _ K9.out) (fun hHeld=>nM ?_)
        clear hK K
        refine tS ?_
        refine Ng c? ?_ _
        try simp only[List.set_cons_succ,List.set_cons_zero]
        have KF:=tK (KR.out.trans K9.out)
        cases bq
        .have HQ:=tK (HX7.out.2 (fun h=>by have:=HBQ.out.2 h;cases this))
         go_wp2_with fail
         go_ret2
         exact nv (by rw[TE.out,HQ.out];rfl) (KF.out)
        .have HQ:=tK (HX7.out.1 (HBQ.out.1 rfl))
         have adZ:=tK (K9.out.own YO.out b?)
         have O8F:=tK (K9.out.own O8R.out b?)
         have⟨a0,a1,a2,a3,a4⟩:=adZ.out.k5
         have⟨b0,b1,b2,b3,b4,b5⟩:=O8F.out.c6
         go_wp2_with fail
         go_ret2
         have kV:NP [] w9 (w9.alloc (.cells (bL r ⟨sq,se,jr,us,sz,rs⟩ (pv,rs.length,cv) c (pb,nb,cb) (pm,nm,cm) (pn,nn,cn) false) 202)):=(NP.refl [] w9).alloc _
         refine JC (s:=⟨sq,se,jr,us,sz,rs⟩) (c:=c) (by rw[TE.out,HQ.out];rfl) KF.out.size (ae.new _ _ _) ?_ ?_ (KF.out.trans kV)
         .exact((Sa.out w9 K9.out).kept0 kV).weaken (MG _) (by have h1:=O8F.out.lt;omega) b?
         .refine(((XF.out.kept0 K9.out).cI (T:=fun x=>x<w.heap.size) (fun x hx=>Or.inl hx)).more (T:=fun x=>x=w9.heap.size) (fun x hx=>by omega)).kept0 kV
     .have Pk:=tK (X3.out P0)
      clear P0
      exact M85
    .have Pk:=tK (X1.out hbx)
     have Zm:=tK (K3d.out.trans k4)
     have k6:=(NP.refl [] w4).alloc (.cells #[.int .u32 0,.int .u32 0,(),(),()] 52)
     have K6:=tK k6
     have O84:=tK (k6.own (k4.own O83.out b?) b?)
     clear x0 x1 x2 x3 x4 x5
     have⟨x0,x1,x2,x3,x4,x5⟩:=O84.out.c6
     clear k6 hbx k4 BA HBS
     go_wp2_with fail
     have K36:=tK (Zm.out.trans K6.out)
     generalize w4.alloc (.cells #[.int .u32 0,.int .u32 0,(),(),()] 52)=w6 at*
     refine(Ss.out _ K36.out).mono ?_;rintro e w6' ⟨rfl,rfl⟩
     go_wp2_with fail
     refine(HRE.out _).mono ?_;rintro e w7 ⟨Rz,k7⟩
     have K37:=tK (K36.out.trans k7)
     clear k7
     rcases Rz with⟨ls,v9,P0,Tt,rfl⟩|⟨P0,rfl⟩
     .obtain⟨p9,c9,rfl⟩:=Tt.shape
      clear Tt P0
      exact M85
     .clear P0
      exact M85
   .have e1:(se != (NN:Int))=true:=by simpa using hse
    have TE:=tK (XX.out.trans (if_neg (by rw[Uf.out];exact hse)))
    clear XX
    go_wp2_with fail
    go_ret2
    exact nv (TE.out) (Ry.out.trans ((NP.refl [] w3).drew))
 .rw[RP]at y4
  go_wp2_with fail
  go_ret2
  exact Hm (NP.refl _ _)
theorem Jt {P R v} (hV:oe P w R r rlo v) (hm:v.s.may) (hc:OL v.c) (hf:v.c.boxes.length+v.c.mans.length+v.c.names.length<=5000):
  am! 139 #[R] w (bh (Oh v) w):=by
 obtain⟨sv,vb,vm,vn,o,⟨PU,PC,Oe⟩,_,Oz⟩:=hV.vol
 have P3:=l7 hc
 have S2:=hm.1
 have Zi:=qg hm
 have YP:=DR Oz.plain
 obtain⟨⟨pb,nb,cb,rfl⟩,⟨pm,nm,cm,rfl⟩,⟨pn,nn,cn,rfl⟩⟩:=av.sr Oz
 have Yx:=tK fun W k=>wZ _ v.c W (Oz.plain.kept0 k) hf a?
 have HO:=tK fun W (k:NP [] w W)=>k.own o b?
 have Sa:Hid (∀W,NP [] w W->af W sv v.s.runs PU PC):=tK (fun W k=>Oe.kept0 k)
 unfold SB.dD at S2
 have HMI:Hid (∀W va loa hia vb2 lob Rr,af W va [(2+v.s.journal,v.s.sectors-(2+v.s.journal))] loa hia->af W vb2 (OK v.c++v.s.runs) lob Rr->am! 210 #[va,vb2] W (bh (Oh v) W)):=tK (fun W va loa hia vb2 lob Rr h1 h2=>IV va _ loa hia vb2 _ lob Rr W h1 h2 b? ab! (fun a ha=>by
   obtain rfl:=Nm.1 ha
   unfold aQ;simp only;omega) (fun a ha=>by
   rcases Na.1 ha with ha|ha
   .exact YP a ha
   .exact Zi a ha))
 have Tu:(OK v.c).length<=80000:=a?
 have Tn:v.s.runs.length<=16:=a?
 have j1:1<=v.s.journal:=a?
 have j2:v.s.journal<=v.s.sectors-2:=a?
 have j3:v.s.sectors<=8192:=a?
 have⟨Yc,YR⟩:=f? Tu Tn
 obtain⟨p1,c1,rfl⟩:=Oe.shape
 obtain⟨d,s,c,dead⟩:=v
 obtain⟨sq,se,jr,us,sz,rs⟩:=s
 simp only at*
 obtain⟨fr,hfr⟩:∃fr,fr=2+jr:=⟨_,rfl⟩
 obtain⟨ln,hln⟩:∃ln,ln=se-fr:=⟨_,rfl⟩
 generalize OK c=RC at*
 generalize Oh _=RX at*
 clear hV hm hc hf Oz Oe P3 S2 Zi YP Tu Tn
 have Ow:Hid (∀W,NP [] w W->W.cell? (aa R 2)=se/\W.cell? (aa R 6)=(p1,rs.length,c1)/\W.cell? (aa R 7)=(c.nextBox,())/\W.cell? (aa R 8)=(c.nextMan,())/\W.cell? (aa R 9)=(pb,nb,cb)/\W.cell? (aa R 10)=(pm,nm,cm)/\W.cell? (aa R 11)=(pn,nn,cn)/\W.cell? (aa R 3)=jr):=tK (fun W k=>by
  have⟨_,_,a2,a3,_,_,a6,a7,a8,a9,a10,a11,_⟩:=(HO.out W k).ku
  exact⟨a2,a6,a7,a8,a9,a10,a11,a3⟩)
 clear o
 go_enter func139,ntmps139
 go_upto_region 1 with fail
 refine MK (S:=(fun W=>W.cell? (aa R 2)=se/\W.cell? (aa R 6)=(p1,rs.length,c1)/\W.cell? (aa R 7)=(c.nextBox,())/\W.cell? (aa R 8)=(c.nextMan,())/\W.cell? (aa R 9)=(pb,nb,cb)/\W.cell? (aa R 10)=(pm,nm,cm)/\W.cell? (aa R 11)=(pn,nn,cn)/\W.cell? (aa R 3)=jr)) c? (by exact Ow.out _ ((NP.refl [] w).drew)) (fun hHeld=>?_)
 refine tS ?_
 refine rD 4 (fun K hK=>?_)
 go_simp
 ((with_reducible refine(Yx.out _ ((NP.refl [] w).drew)).mono ?_));rintro e w2 ⟨u,rfl,Ot,k2⟩
 have kk:=((NP.refl [] w).drew).trans k2
 have Vu:w2.ownsRow w 128 2 u RC.length (NW RC):=aF Ot b?
 have⟨K2,Yq⟩:=f? kk Vu
 obtain⟨pu,cu,rfl⟩:=ah Ot
 clear Ot kk k2 Vu
 go_wp2_with fail
 refine hK.out _ _ (Ow.out _ K2.out) (fun hHeld=>nM ?_)
 clear hK K
 have⟨v5,w5,PZ,OG,hgr5⟩:=eC w _ RC.length (NW RC) Yq.out (p1,rs.length,c1) rs PU PC (Sa.out _ K2.out) N? o! K2.out.size
 have K5:=tK (K2.out.grown hgr5 (fun q hq=>Or.inr (ML Yq.out q hq).1))
 obtain⟨p5,c5,rfl⟩:=ah OG
 have TP:w5.ownsRow w 128 2 (p5,RC.length+rs.length,c5) (RC++rs).length (NW (RC++rs)):=by rw[tN,show NW (RC++rs)=NW RC++NW rs from by simp[NW]];exact OG
 have⟨Si,Ru⟩:=f? TP PZ
 clear PZ OG hgr5 TP
 refine rD 10 (fun K hK=>?_)
 refine aO rfl _ _ 56 56 rfl _ _ g? g? Ru.out ?_
 refine hK.out _ _ (Ow.out _ K5.out) (fun hHeld=>nM ?_)
 clear hK K
 refine tS ?_
 refine Ng c? ?_ _
 try simp only[List.set_cons_succ,List.set_cons_zero]
 have⟨a2,_,_,_,_,_,_,a3⟩:=Ow.out _ K5.out
 go_wp2_with fail
 with_reducible refine(HMI.out _ _ w5 (w5.heap.size+1) _ _ _ (uD w5 (2+jr) (se-(2+jr))) (af.bB (MH Si.out _))).mono ?_
 rintro e w6 ⟨u6,rfl,hown6,k6⟩
 have K6:=tK ((K5.out.alloc (.cells #[(2+jr:Int),(se-(2+jr):Int)] 128)).trans k6)
 have aa5:=tK (aF hown6 (K5.out.alloc (.cells #[(2+jr:Int),(se-(2+jr):Int)] 128)).size)
 obtain⟨p6,c6,rfl⟩:=ah hown6
 clear hown6 k6
 go_wp2_with fail
 go_ret
 exact⟨_,rfl,aa5.out,K6.out⟩
end
end Go.Proofs.YtdkimcnlhmhpgaaGreat

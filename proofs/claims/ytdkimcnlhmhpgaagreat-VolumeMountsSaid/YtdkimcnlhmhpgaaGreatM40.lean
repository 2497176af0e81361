/- -/
import Derived.Test.YtdkimcnlhmhpgaaGreatM37
set_option maxHeartbeats 32000000
set_option maxRecDepth 100000
namespace Go.Proofs.YtdkimcnlhmhpgaaGreat
open Go.Proofs.Tryz Go.RowKit
variable {ok bad v:Value} {a b:List UInt8} {w w':World}
theorem M73 {A:Prop}(h:A:=by
 go_wp2_with fail
 go_quiet (fail)
 go_wp2_with fail
 go_roundw
 case rel=>exact⟨m+1,HMK.out,_j,V9.out,HO.out.drewN _,YM.out.drewN _⟩
 case measure=>(have hh:=HMK.out;simp[intOf];omega)):A:=h
theorem KZ (v:Value) (l:List (Int×Int)) (Pe jr:Int) (lo hi:Nat) (w:World) (h:af w v l lo hi) (hl:l.length<=1000000) (Pj:∀a∈l,aQ a) (hs: -9223372036854775808<=Pe) (hj: -9223372036854775808<=jr/\jr<=9223372036854775807) (S7:∀a∈l,a.1<=1099511627776/\a.2<=1099511627776/\Pe<=1099511627776):
  am! 134 #[v,Pe,jr] w (bG (PB Pe jr l) w):=by
 obtain⟨p,c,rfl⟩:=h.shape
 have⟨H,VI,U9⟩:=gg! h Pj S7
 have HSJ:=tK (And.intro hs hj)
 have Tg:(l.length:Int)<=1000000:=_a
 clear h Pj S7 hs hj
 go_enter func134,ntmps134
 go_wp2_with fail
 go_loopw [7] (fun i wr=>∃k:Nat,k<=l.length/\i=(k:Int)/\PB Pe jr (l.take k)/\NP [] w wr) (fun i _=>l.length-(intOf i).toNat)
 case atStart=>exact⟨0,_a,rfl,Dg _ _,NP.refl _ _⟩
 case round=>
  obtain⟨k,hk,rfl,hM,hK⟩:=hrel
  rename World=>wr
  by_cases NV:k<l.length
  .obtain⟨b,off,rfl,c0,c1,hb,hlc,PT⟩:=(H.out.kept0 hK).at_ k NV
   have UB:=VI.out l[k] (MJ NV)
   have Uj:=U9.out l[k] (MJ NV)
   have OF:= @uZ Pe jr l k NV
   have TV:=fun j hj=> @Df Pe jr l k j NV hj
   have UU:=fun h1 h2=>sX NV hM h1 h2
   have i1:(k:Int)<l.length:=_a
   have⟨Of,Pk,Zl,Su⟩:=gh! NV OF TV UU
   have YN:∀j (hj:j<k),lR Pe jr (l[j]' _a):=fun j hj=>FH hM _a hj
   have⟨HKO,HK⟩:=_f YN hK
   clear OF TV UU hM YN hK
   generalize l[k]=X at*
   obtain⟨x0,xn⟩:=X
   have abH:=UB
   obtain⟨w1,w2,w3,w4⟩:=abH
   have HWK:=tK UB
   clear UB
   simp only at c0 c1 w1 w2 w3 w4 Uj
   unfold lR at Pk Su
   simp only at Pk Su
   have hq:=HSJ.out
   have E1:2<=x0->IntKind.i64.wrap (x0-2)=x0-2:=fun _=>IntWalk.i64_in _ _a
   have E2:2<=x0->x0<=Pe->IntKind.i64.wrap (Pe-x0)=Pe-x0:=fun _ _=>IntWalk.i64_in _ _a
   have o0:=ae.new wr #[x0,xn] 128
   have O0:=tK o0
   clear o0 hq
   rcases(by omega:xn<1\/(1<=xn/\x0<2)\/(1<=xn/\2<=x0/\x0-2<jr)\/(1<=xn/\2<=x0/\jr<=x0-2/\Pe<x0)\/(1<=xn/\2<=x0/\jr<=x0-2/\x0<=Pe/\Pe-x0<xn)\/(1<=xn/\2<=x0/\jr<=x0-2/\x0<=Pe/\xn<=Pe-x0))with g1|⟨g1,g2⟩|⟨g1,g2,g3⟩|⟨g1,g2,g3,g4⟩|⟨g1,g2,g3,g4,g5⟩|⟨g1,g2,g3,g4,g5⟩
   .have HN:=tK (Pk.out _a)
    have d1:decide (xn<1)=true:=_e
    clear E1 E2 g1 w1 w2 w3 w4 Uj
    go_wp2_with fail
    go_ret
    exact aX HN.out (HK.out.alloc _)
   .have HN:=tK (Pk.out _a)
    have d1:decide (xn<1)=false:=_e
    have d2:decide (x0<2)=true:=_e
    clear E1 E2 g1 g2 w1 w2 w3 w4 Uj
    go_wp2_with fail
    go_ret
    exact aX HN.out (HK.out.alloc _)
   .have HN:=tK (Pk.out _a)
    have d1:decide (xn<1)=false:=_e
    have d2:decide (x0<2)=false:=_e
    have e1:=E1 g2
    have d3:decide (x0-2<jr)=true:=_e
    clear E1 E2 g1 g2 g3 w1 w2 w3 w4 Uj
    go_wp2_with fail
    go_ret
    exact aX HN.out (HK.out.alloc _)
   .have HN:=tK (Pk.out _a)
    have d1:decide (xn<1)=false:=_e
    have d2:decide (x0<2)=false:=_e
    have e1:=E1 g2
    have d3:decide (x0-2<jr)=false:=_e
    have d4:decide (Pe<x0)=true:=_e
    have d4':decide (x0>Pe)=true:=_e
    clear E1 E2 g1 g2 g3 g4 w1 w2 w3 w4 Uj
    go_wp2_with fail
    go_ret
    exact aX HN.out (HK.out.alloc _)
   .have HN:=tK (Pk.out _a)
    have d1:decide (xn<1)=false:=_e
    have d2:decide (x0<2)=false:=_e
    have e1:=E1 g2
    have d3:decide (x0-2<jr)=false:=_e
    have e2:=E2 g2 g4
    have d4:decide (Pe<x0)=false:=_e
    have d4':decide (x0>Pe)=false:=_e
    have d5:decide (Pe-x0<xn)=true:=_e
    have d5':decide (xn>Pe-x0)=true:=_e
    clear E1 E2 g1 g2 g3 g4 g5 w1 w2 w3 w4 Uj
    go_wp2_with fail
    go_ret
    exact aX HN.out (HK.out.alloc _)
   .have QH:Hid (1<=xn/\2<=x0/\jr<=x0-2/\x0<=Pe/\xn<=Pe-x0):=tK _a
    have d1:decide (xn<1)=false:=_e
    have d2:decide (x0<2)=false:=_e
    have e1:=E1 g2
    have d3:decide (x0-2<jr)=false:=_e
    have e2:=E2 g2 g4
    have d4:decide (Pe<x0)=false:=_e
    have d4':decide (x0>Pe)=false:=_e
    have d5:decide (Pe-x0<xn)=false:=_e
    have d5':decide (xn>Pe-x0)=false:=_e
    have Q3:=Uj.2.2
    clear E1 E2 g1 g2 g3 g4 g5 Uj w1 w2 w3 w4
    go_wp2_with fail
    clear d1 d2 d3 d4 d4' d5 d5' e1 e2
    obtain⟨wo,rfl⟩:∃wo:World,wo=wr:=⟨_,rfl⟩
    go_loopw [9] (fun i wx=>∃m:Nat,m<=k/\i=(m:Int)/\(∀j (hj:j<m) (hjl:j<l.length),oJ (x0,xn) l[j])/\ae wx wo #[x0,xn] 128/\NP [] w wx) (fun i _=>k-(intOf i).toNat)
    case atStart=>exact⟨0,_a,rfl,fun j hj=>absurd hj _a,O0.out,HK.out.alloc _⟩
    case round=>
     obtain⟨m,hm,rfl,Qf,ho,QJ⟩:=hrel
     rename World=>wx
     by_cases RO:m<k
     .have hom:=HKO.out m RO
      have Rb:=Zl.out m RO
      have⟨b',off',e',d0,d1,_⟩:=(H.out.kept0 QJ).at_ m Y!
      injection e' with e'
      injection e' with e1 e2 _
      subst e1 e2
      have Xd:m<l.length:=Y!
      have ha:∀(ha2:oJ (x0,xn) (l[m]'Xd)),∀j (hj:j<m+1) (hjl:j<l.length),oJ (x0,xn) l[j]:=fun ha2 j hj hjl=>by
       by_cases e:j=m
       .subst e;exact ha2
       .exact Qf j _a hjl
      have⟨SG,S3,HMK,HO,YM⟩:=gi! ha Rb RO ho QJ
      have i2:(m:Int)<k:=_a
      have i3:(m:Int)<l.length:=_a
      have x0c:wx.cell? wo=x0:=ho.cell 0 _b
      have x1c:wx.cell? (aa wo 1)=xn:=ho.cell 1 _b
      clear ha Rb Qf ho QJ hm
      generalize l[m]=Y at*
      obtain⟨y0,yn⟩:=Y
      unfold lR at hom
      unfold oJ at SG S3
      simp only at d0 d1 hom SG S3
      obtain⟨q1,q2,q3,q4,q5⟩:=hom
      have e1:IntKind.i64.wrap (y0+yn)=y0+yn:=IntWalk.i64_in _ _a
      have e2:IntKind.i64.wrap (x0+xn)=x0+xn:=by have:=QH.out;exact IntWalk.i64_in _ _a
      rcases(by omega:¬x0<y0+yn\/(x0<y0+yn/\¬y0<x0+xn)\/(x0<y0+yn/\y0<x0+xn))with t1|⟨t1,t2⟩|⟨t1,t2⟩
      .have k1:decide (x0<y0+yn)=false:=_e
       have V9:=tK (SG.out (fun h=>by omega))
       clear t1 q1 q2 q3 q4 q5 Q3 SG S3
       exact M73
      .have k1:decide (x0<y0+yn)=true:=_e
       have k2:decide (y0<x0+xn)=false:=_e
       have V9:=tK (SG.out (fun h=>by omega))
       clear t1 t2 q1 q2 q3 q4 q5 Q3 SG S3
       exact M73
      .have k1:decide (x0<y0+yn)=true:=_e
       have k2:decide (y0<x0+xn)=true:=_e
       have HN:=tK (S3.out (fun h=>h ⟨t1,t2⟩))
       clear t1 t2 q1 q2 q3 q4 q5 Q3 SG S3
       go_wp2_with fail
       go_quiet (fail)
       go_wp2_with fail
       go_ret
       exact aX HN.out (YM.out.drewN _)
     .obtain rfl:m=k:=_a
      have ZT:=Su.out QH.out (fun j hj=>Qf j hj _)
      have⟨Zj,YM⟩:=_f ZT QJ
      clear ZT Qf Q3 QJ ho RO
      go_wp2_with fail
      go_roundw
      case rel=>exact⟨m+1,Of.out,_j,Zj.out,YM.out⟩
      case measure=>(have hh:=Of.out;simp[intOf];omega)
  .obtain rfl:k=l.length:=_a
   rw[MU]at hM
   have⟨HM,HK⟩:=_f hM hK
   clear hM hK
   go_wp2_with fail
   go_ret
   exact gu HM.out HK.out
theorem l8 (h0:¬lJ a) (h1:¬nT b) (hk:NP [] w w'):fO ok bad a b w (.returned (.tuple #[.agg #[.int .u64 0,(0:Int),(0:Int),(0:Int),(0:Int),()],bad])) w':=
 ⟨⟨none,_,Or.inl ⟨rfl,h0,h1⟩,rfl,Or.inl ⟨rfl,_,_,rfl⟩⟩,hk⟩
theorem xf (h0:lJ a) (h:¬(nT b/\(PS a).seq<(PS b).seq)) (hr:af w' v (PS a).runs w w') (hk:NP [] w w'):fO ok bad a b w (.returned (.tuple #[.agg ((PS a).cells v),ok])) w':=
 ⟨⟨some a,v,Or.inr (Or.inl ⟨rfl,h0,h⟩),rfl,hr⟩,hk⟩
theorem xe (h0:nT b) (h:¬(lJ a/\(PS b).seq<(PS a).seq)) (hr:af w' v (PS b).runs w w') (hk:NP [] w w'):fO ok bad a b w (.returned (.tuple #[.agg ((PS b).cells v),ok])) w':=
 ⟨⟨some b,v,Or.inr (Or.inr ⟨rfl,h0,h⟩),rfl,hr⟩,hk⟩
theorem M21 {A:Prop}(h:A:=by
 have hS:=(NP.refl [w.heap.size] (w2.alloc (.cells #[.int .u64 db.seq,db.sectors,db.journal,db.used,db.size,(pb,db.runs.length,cb)] 58))).bp (b:=w.heap.size) (Or.inl _b) (.int .u64 db.seq) db.sectors db.journal db.used db.size (pb,db.runs.length,cb)
 have VL:=abg.kept hS (fun x hx=>by simp at hx;omega)
 refine MN (v:=.tuple #[.agg #[.int .u64 db.seq,db.sectors,db.journal,db.used,db.size,(pb,db.runs.length,cb)],true]) ?_ ?_ ?_
 .exact aj results129 rfl rfl (o2.bp _ _ _ _ _ _) underlying58 rfl _c
 .rfl
 .have Yf:=HDA.out;have V1:=HDB.out;subst Yf;subst V1;exact xe ⟨HIB.out,_a⟩ (fun hc=>by have:=hc.1.2;have:=hc.2;omega) (VL.weaken _a _Y (MG _)) (QJ.bp (Or.inr (MG _)) _ _ _ _ _ _)):A:=h
theorem M20 {A:Prop}(h:A:=by
 have hS:=(NP.refl [w.heap.size] (w2.alloc (.cells #[.int .u64 db.seq,db.sectors,db.journal,db.used,db.size,(pb,db.runs.length,cb)] 58))).bp (b:=w.heap.size) (Or.inl _b) (.int .u64 da.seq) da.sectors da.journal da.used da.size (pa,da.runs.length,ca)
 have VL:=aaS.kept hS (fun x hx=>by simp at hx;omega)
 refine MN (v:=.tuple #[.agg #[.int .u64 da.seq,da.sectors,da.journal,da.used,da.size,(pa,da.runs.length,ca)],true]) ?_ ?_ ?_
 .exact aj results129 rfl rfl (o2.bp _ _ _ _ _ _) underlying58 rfl _c
 .rfl
 .have Yf:=HDA.out;have V1:=HDB.out;subst Yf;subst V1;exact xf ⟨SA.out,_a⟩ (fun hc=>by have:=hc.1.2;have:=hc.2;omega) (VL.weaken _a _Y (MG _)) (QJ.bp (Or.inr (MG _)) _ _ _ _ _ _)):A:=h
theorem KN (a b:List UInt8) (w:World) (ha:a.length<=1000000) (hb:b.length<=1000000):
  am! 129 #[a,b] w (fO true false a b w):=by
 have o:=ae.new w #[.int .u64 0,(0:Int),(0:Int),(0:Int),(0:Int),()] 58
 have HGA:=tK (fun W=>Jq a W ha)
 have HGB:=tK (fun W=>Jq b W hb)
 have HQ:Hid (∀l,(PS l).seq<18446744073709551616):=fun l=>iN l 8 8
 go_enter func129,ntmps129
 go_wp2_with fail
 refine(HGA.out _).mono ?_;rintro e w1 hh
 rcases jO hh with⟨va,hia,rfl,TB,OP⟩|⟨hia,rfl,OP⟩
 .obtain⟨pa,ca,rfl⟩:=TB.shape
  unfold SB.cells
  have hqa:=HQ.out a
  have SA:=tK hia
  clear hia
  generalize Yf:PS a=da at*
  have HDA:=tK Yf
  clear Yf
  have o1:=(OP.own o _b).alloc (.cells #[.int .u64 da.seq,da.sectors,da.journal,da.used,da.size,(pa,da.runs.length,ca)] 58)
  have ox:=ae.new w1 #[.int .u64 da.seq,da.sectors,da.journal,da.used,da.size,(pa,da.runs.length,ca)] 58
  have Uo:=(((NP.refl _ w).alloc (.cells #[.int .u64 0,(0:Int),(0:Int),(0:Int),(0:Int),()] 58)).trans OP).alloc (.cells #[.int .u64 da.seq,da.sectors,da.journal,da.used,da.size,(pa,da.runs.length,ca)] 58)
  have SU:w.heap.size<w1.heap.size:=by have:=OP.size;simp at this;omega
  have aag:=(af.kept0 TB ((NP.refl _ _).alloc (.cells #[.int .u64 da.seq,da.sectors,da.journal,da.used,da.size,(pa,da.runs.length,ca)] 58))).weaken (lo':=w.heap.size+1) (hi':=w1.heap.size) _b (MG _) _b
  clear TB
  clear OP o hh
  go_wp2_with fail
  refine(HGB.out _).mono ?_;rintro e w2 hh
  rcases jO hh with⟨vb,Rr,rfl,hrb,PY⟩|⟨Rr,rfl,PY⟩
  .have TS:=PY.size
   simp only[Nd]at TS
   obtain⟨pb,cb,rfl⟩:=hrb.shape
   unfold SB.cells
   have hqb:=HQ.out b
   have HIB:=tK Rr
   clear Rr
   generalize V1:PS b=db at*
   have HDB:=tK V1
   clear V1
   have o2:=(PY.own o1 _b).alloc (.cells #[.int .u64 db.seq,db.sectors,db.journal,db.used,db.size,(pb,db.runs.length,cb)] 58)
   have ox2:=(PY.own ox _b).alloc (.cells #[.int .u64 db.seq,db.sectors,db.journal,db.used,db.size,(pb,db.runs.length,cb)] 58)
   have oy:=ae.new w2 #[.int .u64 db.seq,db.sectors,db.journal,db.used,db.size,(pb,db.runs.length,cb)] 58
   have QJ:=(Uo.trans PY).alloc (.cells #[.int .u64 db.seq,db.sectors,db.journal,db.used,db.size,(pb,db.runs.length,cb)] 58)
   have aaS:=aag.kept0 (PY.alloc (.cells #[.int .u64 db.seq,db.sectors,db.journal,db.used,db.size,(pb,db.runs.length,cb)] 58))
   have abg:=(af.kept0 hrb ((NP.refl _ _).alloc (.cells #[.int .u64 db.seq,db.sectors,db.journal,db.used,db.size,(pb,db.runs.length,cb)] 58))).weaken (lo':=w.heap.size+1) (hi':=w2.heap.size) _e (MG _) _b
   have⟨z0,z1,z2,z3,z4,z5⟩:=o2.c6
   have zz:=o2.z6
   have⟨x0,x1,x2,x3,x4,x5⟩:=ox2.c6
   have⟨y0,y1,y2,y3,y4,y5⟩:=oy.c6
   clear hh PY aag hrb HGA HGB HQ
   rcases(by omega:(da.seq:Int)%2=0\/(da.seq:Int)%2=1)with hpa|hpa
   .rcases(by omega:(db.seq:Int)%2=0\/(db.seq:Int)%2=1)with ZC|ZC
    .go_wp2_with fail
     exact M20
    .by_cases hl:(db.seq:Int)<da.seq
     .go_wp2_with fail
      exact M20
     .go_wp2_with fail
      exact M21
   .rcases(by omega:(db.seq:Int)%2=0\/(db.seq:Int)%2=1)with ZC|ZC
    .go_wp2_with fail
     refine MN (v:=.tuple #[.agg #[.int .u64 0,(0:Int),(0:Int),(0:Int),(0:Int),()],false]) ?_ ?_ ?_
     .exact aj results129 rfl rfl (o2.bp _ _ _ _ _ _) underlying58 rfl _c
     .rfl
     .have Yf:=HDA.out;have V1:=HDB.out;subst Yf;subst V1;exact l8 (fun hc=>by have:=hc.2;omega) (fun hc=>by have:=hc.2;omega) (QJ.bp (Or.inr (MG _)) _ _ _ _ _ _)
    .go_wp2_with fail
     exact M21
  .have TS:=PY.size
   simp only[Nd]at TS
   unfold SB.cells gF
   have HIB:=tK Rr
   clear Rr
   have o2:=(PY.own o1 _b).alloc (.cells #[.int .u64 0,(0:Int),(0:Int),(0:Int),(0:Int),()] 58)
   have ox2:=(PY.own ox _b).alloc (.cells #[.int .u64 0,(0:Int),(0:Int),(0:Int),(0:Int),()] 58)
   have oy:=ae.new w2 #[.int .u64 0,(0:Int),(0:Int),(0:Int),(0:Int),()] 58
   have QJ:=(Uo.trans PY).alloc (.cells #[.int .u64 0,(0:Int),(0:Int),(0:Int),(0:Int),()] 58)
   have aaS:=aag.kept0 (PY.alloc (.cells #[.int .u64 0,(0:Int),(0:Int),(0:Int),(0:Int),()] 58))
   have⟨z0,z1,z2,z3,z4,z5⟩:=o2.c6
   have zz:=o2.z6
   have⟨x0,x1,x2,x3,x4,x5⟩:=ox2.c6
   have⟨y0,y1,y2,y3,y4,y5⟩:=oy.c6
   clear hh PY aag HGA HGB HQ
   rcases(by omega:(da.seq:Int)%2=0\/(da.seq:Int)%2=1)with hpa|hpa
   .go_wp2_with fail
    have hS:=(NP.refl [w.heap.size] (w2.alloc (.cells #[.int .u64 0,(0:Int),(0:Int),(0:Int),(0:Int),()] 58))).bp (b:=w.heap.size) (Or.inl _b) (.int .u64 da.seq) da.sectors da.journal da.used da.size (pa,da.runs.length,ca)
    have VL:=aaS.kept hS (fun x hx=>by simp at hx;omega)
    refine MN (v:=.tuple #[.agg #[.int .u64 da.seq,da.sectors,da.journal,da.used,da.size,(pa,da.runs.length,ca)],true]) ?_ ?_ ?_
    .exact aj results129 rfl rfl (o2.bp _ _ _ _ _ _) underlying58 rfl _c
    .rfl
    .have Yf:=HDA.out;subst Yf;exact xf ⟨SA.out,_a⟩ (fun hc=>HIB.out hc.1.1) (VL.weaken _a _Y (MG _)) (QJ.bp (Or.inr (MG _)) _ _ _ _ _ _)
   .go_wp2_with fail
    refine MN (v:=.tuple #[.agg #[.int .u64 0,(0:Int),(0:Int),(0:Int),(0:Int),()],false]) ?_ ?_ ?_
    .exact aj results129 rfl rfl (o2.bp _ _ _ _ _ _) underlying58 rfl _c
    .rfl
    .have Yf:=HDA.out;subst Yf;exact l8 (fun hc=>by have:=hc.2;omega) (fun hc=>HIB.out hc.1) (QJ.bp (Or.inr (MG _)) _ _ _ _ _ _)
 .unfold SB.cells gF
  have SA:=tK hia
  clear hia
  have o1:=(OP.own o _b).alloc (.cells #[.int .u64 0,(0:Int),(0:Int),(0:Int),(0:Int),()] 58)
  have ox:=ae.new w1 #[.int .u64 0,(0:Int),(0:Int),(0:Int),(0:Int),()] 58
  have Uo:=(((NP.refl _ w).alloc (.cells #[.int .u64 0,(0:Int),(0:Int),(0:Int),(0:Int),()] 58)).trans OP).alloc (.cells #[.int .u64 0,(0:Int),(0:Int),(0:Int),(0:Int),()] 58)
  have SU:w.heap.size<w1.heap.size:=by have:=OP.size;simp at this;omega
  clear OP o hh
  go_wp2_with fail
  refine(HGB.out _).mono ?_;rintro e w2 hh
  rcases jO hh with⟨vb,Rr,rfl,hrb,PY⟩|⟨Rr,rfl,PY⟩
  .have TS:=PY.size
   simp only[Nd]at TS
   obtain⟨pb,cb,rfl⟩:=hrb.shape
   unfold SB.cells
   have hqb:=HQ.out b
   have HIB:=tK Rr
   clear Rr
   generalize V1:PS b=db at*
   have HDB:=tK V1
   clear V1
   have o2:=(PY.own o1 _b).alloc (.cells #[.int .u64 db.seq,db.sectors,db.journal,db.used,db.size,(pb,db.runs.length,cb)] 58)
   have ox2:=(PY.own ox _b).alloc (.cells #[.int .u64 db.seq,db.sectors,db.journal,db.used,db.size,(pb,db.runs.length,cb)] 58)
   have oy:=ae.new w2 #[.int .u64 db.seq,db.sectors,db.journal,db.used,db.size,(pb,db.runs.length,cb)] 58
   have QJ:=(Uo.trans PY).alloc (.cells #[.int .u64 db.seq,db.sectors,db.journal,db.used,db.size,(pb,db.runs.length,cb)] 58)
   have abg:=(af.kept0 hrb ((NP.refl _ _).alloc (.cells #[.int .u64 db.seq,db.sectors,db.journal,db.used,db.size,(pb,db.runs.length,cb)] 58))).weaken (lo':=w.heap.size+1) (hi':=w2.heap.size) _e (MG _) _b
   have⟨z0,z1,z2,z3,z4,z5⟩:=o2.c6
   have zz:=o2.z6
   have⟨x0,x1,x2,x3,x4,x5⟩:=ox2.c6
   have⟨y0,y1,y2,y3,y4,y5⟩:=oy.c6
   clear hh PY hrb HGA HGB HQ
   rcases(by omega:(db.seq:Int)%2=0\/(db.seq:Int)%2=1)with ZC|ZC
   .go_wp2_with fail
    refine MN (v:=.tuple #[.agg #[.int .u64 0,(0:Int),(0:Int),(0:Int),(0:Int),()],false]) ?_ ?_ ?_
    .exact aj results129 rfl rfl (o2.bp _ _ _ _ _ _) underlying58 rfl _c
    .rfl
    .have V1:=HDB.out;subst V1;exact l8 (fun hc=>SA.out hc.1) (fun hc=>by have:=hc.2;omega) (QJ.bp (Or.inr (MG _)) _ _ _ _ _ _)
   .go_wp2_with fail
    have hS:=(NP.refl [w.heap.size] (w2.alloc (.cells #[.int .u64 db.seq,db.sectors,db.journal,db.used,db.size,(pb,db.runs.length,cb)] 58))).bp (b:=w.heap.size) (Or.inl _b) (.int .u64 db.seq) db.sectors db.journal db.used db.size (pb,db.runs.length,cb)
    have VL:=abg.kept hS (fun x hx=>by simp at hx;omega)
    refine MN (v:=.tuple #[.agg #[.int .u64 db.seq,db.sectors,db.journal,db.used,db.size,(pb,db.runs.length,cb)],true]) ?_ ?_ ?_
    .exact aj results129 rfl rfl (o2.bp _ _ _ _ _ _) underlying58 rfl _c
    .rfl
    .have V1:=HDB.out;subst V1;exact xe ⟨HIB.out,_a⟩ (fun hc=>SA.out hc.1.1) (VL.weaken _a _Y (MG _)) (QJ.bp (Or.inr (MG _)) _ _ _ _ _ _)
  .have TS:=PY.size
   simp only[Nd]at TS
   unfold SB.cells gF
   have HIB:=tK Rr
   clear Rr
   have o2:=(PY.own o1 _b).alloc (.cells #[.int .u64 0,(0:Int),(0:Int),(0:Int),(0:Int),()] 58)
   have ox2:=(PY.own ox _b).alloc (.cells #[.int .u64 0,(0:Int),(0:Int),(0:Int),(0:Int),()] 58)
   have oy:=ae.new w2 #[.int .u64 0,(0:Int),(0:Int),(0:Int),(0:Int),()] 58
   have QJ:=(Uo.trans PY).alloc (.cells #[.int .u64 0,(0:Int),(0:Int),(0:Int),(0:Int),()] 58)
   have⟨z0,z1,z2,z3,z4,z5⟩:=o2.c6
   have zz:=o2.z6
   have⟨x0,x1,x2,x3,x4,x5⟩:=ox2.c6
   have⟨y0,y1,y2,y3,y4,y5⟩:=oy.c6
   clear hh PY HGA HGB HQ
   go_wp2_with fail
   refine MN (v:=.tuple #[.agg #[.int .u64 0,(0:Int),(0:Int),(0:Int),(0:Int),()],false]) ?_ ?_ ?_
   .exact aj results129 rfl rfl (o2.bp _ _ _ _ _ _) underlying58 rfl _c
   .rfl
   .exact l8 (fun hc=>SA.out hc.1) (fun hc=>HIB.out hc.1) (QJ.bp (Or.inr (MG _)) _ _ _ _ _ _)
theorem zO {n:Nat} {s:SB} (hm:s.may) (hs:s.sectors=(n:Int)):bo n s.journal s.used=0:=by
 obtain⟨⟨a1,a2,a3,a4,a5,a6,a7,a8,a9,a10⟩,b,c⟩:=hm
 unfold bo
 rw[if_neg _a]

/- -/
import Derived.Test.YtdkimcnlhmhpgaaGreatK38
set_option maxHeartbeats 16000000
set_option maxRecDepth 100000
namespace Go.Proofs.YtdkimcnlhmhpgaaGreat
open Go.RowKit
theorem uQ {left:List (Int×Int)} (h:Pl 0 left) (l:List VC):∀j,j<=l.length->Pl 0 (Ng left l j).2
 |0,_=>h
 |j+1,hj=>by
  rw[eE left l j (by omega)]
  unfold iY
  split
  .exact lK _ _
  .exact uQ h l j (by omega)
def s8 (left:List (Int×Int)) (l:List VC) (w:World) (e:Ending) (w':World):Prop:=
 ((dJ left l/\∃rv lv,e=.returned (.tuple #[rv,lv,.int .i64 0])/\aP w w' rv (Ng left l l.length).1/\w'.ownsRow w.heap.size 128 2 lv (Ng left l l.length).2.length (No (Ng left l l.length).2))\/(¬dJ left l/\∃C,C≠0/\(Lit.int .i64 C).wf=true/\e=.returned (.tuple #[.slice none 0 0,.slice none 0 0,.int .i64 C])))/\aa [] w w'
theorem KI {T:List Nat} {w:World} {B b sb mb lo:Nat} {v:VS} (vl:Value) (l:List VC) (OD On:Nat) (hV:ay T w B b sb mb lo v) (hm:v.s.may) (hc:aM v.c) (hf:v.c.boxes.length+v.c.mans.length+v.c.names.length<=1000) (hl:fj w vl l OD On) (Sp:l.length<=8192):
  Calls Tryz.prog 44 #[.pointer (some ⟨B,0,none⟩),vl] w (s8 (Nk v) l w):=by
 have PG:=Mb (A9 hV hm hc (by omega))
 have Oj:Pl 0 (Nk v):=lK _ _
 have Rw:Hid (∀j,j<=l.length->Pl 0 (Ng (Nk v) l j).2):=Mb (uQ Oj l)
 have HL:=Mb hl
 obtain⟨p1,c1,rfl⟩:=aZ.shape hl
 have n2:(l.length:Int)<=8192:=by omega
 have U9:=Mb Sp
 clear hV hm hc hf hl Oj Sp
 unfold s8
 generalize Nk v=RM at*
 go_enter Tryz.func44,Tryz.ntmps44
 go_wp2_with fail
 refine PG.out.mono ?_;rintro e w1 ⟨u1,rfl,XA,k1⟩
 have adt:=Mb XA
 have K1:=Mb k1
 obtain⟨pr,cr,rfl⟩:=ai XA
 clear XA k1 PG
 go_wp2_with fail
 go_loopw [7,8,10,11,12,13,18] (fun lv rv x r ru e i wr=>∃k:Nat,k<=l.length/\i=.int .i64 k/\(∀j (h:j<l.length),j<k->NH l[j].kind=true->NI (Ng RM l j).2 (Nv l[j].bytes.length)=0)/\wr.ownsRow w.heap.size 128 2 lv (Ng RM l k).2.length (No (Ng RM l k).2)/\aP w wr rv (Ng RM l k).1/\aa [] w wr) (fun _ _ _ _ _ _ i _=>l.length-(intOf i).toNat)
 case atStart=>exact⟨0,Mu _,rfl,(fun j _ hj=>by omega),adt.out,aP.nil _ _,K1.out⟩
 case round=>
  obtain⟨k,hk,rfl,hgood,PH,OT,hK⟩:=hrel
  by_cases Ns:k<l.length
  .have i1:(k:Int)<l.length:=by omega
   obtain⟨bl,ol,rfl,r0,r1,r2,r3,Xb,N4⟩:=fj.at_ (HL.out.kept0 hK) k Ns
   have Pt:=eE RM l k Ns
   have hlen:=ff RM l k hk
   have acf:=Rw.out k hk
   have V9:=Mb hgood
   have QG:Hid (NH l[k].kind=true->NI (Ng RM l k).2 (Nv l[k].bytes.length)≠0->¬dJ RM l):=Mb (fun h1 h2 h3=>h2 (h3 k Ns h1))
   have Ue:Hid ((NH l[k].kind=true->NI (Ng RM l k).2 (Nv l[k].bytes.length)=0)->∀j (h:j<l.length),j<k+1->NH l[j].kind=true->NI (Ng RM l j).2 (Nv l[j].bytes.length)=0):=Mb (fun h1 j hj Vs hb=>by
    by_cases e:j=k
    .subst e;exact h1 hb
    .exact hgood j hj (by omega) hb)
   have NU:=Mb Ns
   have HK:=Mb hK
   obtain⟨p6,c6,rfl⟩:=OT.shape
   rw[hlen]
   have HR:=Mb OT
   have HLF:=Mb PH
   have Oa:=Mb hlen
   have XR:=Mb acf
   obtain⟨pL,cL,rfl⟩:=ai PH
   have SG:=Mb Pt
   clear hgood PH OT hK hk Pt hlen acf
   obtain⟨X9,hPK1⟩:∃P,Ng RM l (k+1)=P:=⟨_,rfl⟩
   rw[hPK1]at SG
   have HPK:=Mb hPK1
   clear hPK1
   generalize Ng RM l k=PK at*
   generalize hX:l[k]=X at*
   clear hX Ns
   obtain⟨xk,xi,xn,xb⟩:=X
   obtain⟨RL,LL⟩:=PK
   simp only at*
   have HF0:Hid (ag.fits ⟨xk,xi,xn,0,[]⟩):=Mb (si N4)
   have Zk:Hid (∀R,ag.fits ⟨xk,xi,xn,(xb.length:Int),R⟩):=Mb (fun R=>⟨N4.1,N4.2.1,N4.2.2.1,by have h1:xb.length<=1048576:=N4.2.2.2;exact ly (n:=(xb.length:Int)) (by omega) (by omega)⟩)
   have hxb:(xb.length:Int)<=1048576:=by have h1:xb.length<=1048576:=N4.2.2.2;omega
   have HCO:Hid (∀W,Calls Tryz.prog 47 #[.int .i64 xk] W fun e w'=>e=.returned (.bool (NH xk))/\W=w'):=Mb (fun W=>xe xk W)
   have R7:Hid (∀W,Calls Tryz.prog 95 #[.agg #[.int .i64 xk,.int .u32 xi,.string (bs xn),.string (bs xb)]] W fun e w'=>e=.returned (.agg #[.int .i64 xk,.int .u32 xi,.string (bs xn),.int .i64 0,.slice none 0 0])/\aa [] W w'):=Mb (fun W=>Af ⟨xk,xi,xn,xb⟩ W)
   have Tl:Hid (∀W,Calls Tryz.prog 54 #[.int .i64 xb.length] W fun e w'=>e=.returned (.int .i64 (Nv xb.length))/\W=w'):=Mb (fun W=>nY _ W (ly (by omega) (by omega)))
   have Ys:=q8 (xb.length:Int)
   have aau:Nv (xb.length:Int)<=8192:=by unfold Nv;split<;>omega
   have V6:Hid (∀W u lo2 PD,af W u LL lo2 PD->Calls Tryz.prog 53 #[u,.int .i64 (Nv xb.length)] W (lu LL (Nv xb.length) W)):=Mb (fun W u lo2 PD h=>uF u LL _ lo2 PD W h (by have:=XR.out.gV;omega) (fY XR.out) (by omega) (by omega))
   have acX:Hid (∀W u lo2 PD u3 lo3 hi3,af W u LL lo2 PD->af W u3 (Np LL (Nv xb.length)) lo3 hi3->Calls Tryz.prog 96 #[u,u3] W (bG (Oz LL (Np LL (Nv xb.length))) W)):=Mb (fun W u lo2 PD u3 lo3 hi3 h1 h2=>CM u LL lo2 PD u3 _ lo3 hi3 W h1 h2 (by have:=XR.out.gV;omega) (by have:=(fR LL (Nv xb.length)).gV;omega) (fY XR.out) (fY (fR _ _)))
   have hLC:NI LL (Nv (xb.length:Int))=0\/NI LL (Nv (xb.length:Int))=100:=by unfold NI;rw[if_neg (by omega)];split;exact Or.inr rfl;exact Or.inl rfl
   have hLR:NI LL (Nv (xb.length:Int))=0->OZ LL (Nv (xb.length:Int))=Np LL (Nv xb.length):=fun h=>by unfold OZ;rw[if_pos h]
   have HLR:=Mb hLR
   have hp1:X9=if NH xk=true then(RL++[⟨xk,xi,xn,xb.length,Np LL (Nv xb.length)⟩],Oz LL (Np LL (Nv xb.length)))else(RL++[⟨xk,xi,xn,0,[]⟩],LL):=SG.out
   have HP1:=Mb hp1
   have oX:=ae.new wr #[.int .i64 xk,.int .u32 xi,.string (bs xn),.string (bs xb)] 34
   obtain⟨z0,z1,z2,z3⟩:=oX.c4
   have ZK:=Mb oX
   have HKX:=Mb (HK.out.alloc (.cells #[.int .i64 xk,.int .u32 xi,.string (bs xn),.string (bs xb)] 34))
   have kx:aa [] wr (wr.alloc (.cells #[.int .i64 xk,.int .u32 xi,.string (bs xn),.string (bs xb)] 34)):=(aa.refl [] wr).alloc _
   have HRX:=Mb (HR.out.kept0 kx)
   have HLX:=Mb (Me HLF.out (.cells #[.int .i64 xk,.int .u32 xi,.string (bs xn),.string (bs xb)] 34))
   clear oX kx hp1 hLR N4 SG
   go_wp2_with fail
   refine(R7.out _).mono ?_;rintro e w3 ⟨rfl,k3⟩
   have Ro:=Mb (HKX.out.trans k3)
   have abp:=k3.own ZK.out (by simp)
   have VP:=Mb ((HRX.out.kept0 k3).kept0 ((aa.refl [] w3).alloc (.cells #[.int .i64 xk,.int .u32 xi,.string (bs xn),.int .i64 0,.slice none 0 0] 102)))
   have HL4:=Mb (Me (au HLX.out k3 (fun x hx=>by cases hx)) (.cells #[.int .i64 xk,.int .u32 xi,.string (bs xn),.int .i64 0,.slice none 0 0] 102))
   have XG:=Mb (HRX.out.kept0 k3)
   have HL3:=Mb (au HLX.out k3 (fun x hx=>by cases hx))
   have aas:Hid (aa [] w3 (w3.alloc (.cells #[.int .i64 xk,.int .u32 xi,.string (bs xn),.int .i64 0,.slice none 0 0] 102))):=Mb ((aa.refl [] w3).alloc _)
   have Pv:=Mb (Ro.out.alloc (.cells #[.int .i64 xk,.int .u32 xi,.string (bs xn),.int .i64 0,.slice none 0 0] 102))
   have oR:=ae.new w3 #[.int .i64 xk,.int .u32 xi,.string (bs xn),.int .i64 0,.slice none 0 0] 102
   have ZZ:(w3.alloc (.cells #[.int .i64 xk,.int .u32 xi,.string (bs xn),.int .i64 0,.slice none 0 0] 102)).heap.size=w3.heap.size+1:=by simp
   have HSZ:=Mb ZZ
   have HOR:=Mb oR
   have Qj:Hid (w.heap.size<=w3.heap.size):=Mb Ro.out.size
   have abc:=Mb (abp.alloc (.cells #[.int .i64 xk,.int .u32 xi,.string (bs xn),.int .i64 0,.slice none 0 0] 102))
   clear z0 z1 z2 z3 k3 abp ZZ HRX HLX R7
   obtain⟨z0,z1,z2,z3⟩:=abc.out.c4
   obtain⟨y0,y1,y2,y3,y4⟩:=oR.k5
   have s3:=oR.free 3
   have s4:=oR.free 4
   clear oR
   go_upto_region 7 with fail
   generalize hrb:w3.heap.size=rb at*
   generalize w3.alloc (.cells #[.int .i64 xk,.int .u32 xi,.string (bs xn),.int .i64 0,.slice none 0 0] 102)=w4 at*
   have VA:=Mb hrb
   clear hrb
   go_wp2_with fail
   refine(HCO.out _).mono ?_;rintro e w2 ⟨rfl,rfl⟩
   generalize NH xk=KB at*
   cases KB
   .have hp:X9=(RL++[⟨xk,xi,xn,0,[]⟩],LL):=by have h:=HP1.out;rw[if_neg (by simp)]at h;exact h
    have HP:=Mb hp
    have aaS:=Mb (Ue.out (fun h=>by cases h))
    obtain⟨vs,hvs,Nt,heach⟩:=VP.out
    rw[Oa.out]at Nt
    have HVS:=Mb hvs
    have OK:=Mb Nt
    have TB:=Mb heach
    clear hp hvs Nt heach QG Ue HP1
    obtain⟨i0,q0,q1,q2,q3⟩:=nv
    have m3:k+1<=maxLen:=by have:=NU.out;have:=U9.out;unfold maxLen;omega
    have m4:(k+1)*64<=140737488355328:=by have:=NU.out;have:=U9.out;omega
    have QQ:w.heap.size<=w4.heap.size:=Pv.out.size
    go_wp2_with (at_builtin;go_must (refine Mv _ rfl (.tmp 48) (.tmp 50) 92 rfl w.heap.size 102 i0 (.agg #[.int .i64 0,.int .u32 0,.string {data:=#[]},.int .i64 0,.slice none 0 0]) 5 64 Tryz.underlying92 q0 q1 q2 q3 rfl (by decide) _ _ _ rfl (Me OK.out _) ⟨w4.heap.size,0,none⟩ 1 1 [.int .i64 xk,.int .u32 xi,.string (bs xn),.int .i64 0,.slice none 0 0] rfl rfl ?_ ?_ m3 m4 ?_ ?_))
    .exact dw _ _ _
    .intro u hu;simp at hu;rcases hu with rfl|rfl|rfl|rfl|rfl<;>rfl
    .simp<;>omega
    intro v6 w6 o6 OE _ _
    have Tb:aP w w6 v6 X9.1:=by
     rw[HP.out]
     exact aP.more HVS.out TB.out (by rw[Oa.out];exact OK.out) (MG _ _ _ _) HF0.out OE (by rw[Oa.out];exact o6)
    have Ps:aa [] w w6:=(Pv.out.alloc _).grown OE (fun q hq=>Or.inr (Mn OK.out q hq).1)
    have Zb:w6.ownsRow w.heap.size 128 2 (.slice pL LL.length cL) X9.2.length (No X9.2):=by
     rw[HP.out]
     exact bm (Me HL4.out _) (fun g cs hb hc=>OE.block g (MY hc) (fun e=>aB (Me OK.out _) (show ae _ g cs 128 from hc) (by decide) e.symm))
    have HNW:=Mb Tb
    have Qg:=Mb Ps
    have HL6:=Mb Zb
    clear Tb Ps Zb o6 OE
    go_wp2_with fail
    go_roundw
    case rel=>exact⟨k+1,NU.out,by go_num,aaS.out,by rw[HPK.out];exact HL6.out,by rw[HPK.out];exact HNW.out,Qg.out⟩
    case measure=>(have hh:=NU.out;simp[intOf]<;>omega)
   .have hp:X9=(RL++[⟨xk,xi,xn,xb.length,Np LL (Nv xb.length)⟩],Oz LL (Np LL (Nv xb.length))):=by have h:=HP1.out;rw[if_pos rfl]at h;exact h
    have HP:=Mb hp
    have Ua:Hid (NI LL (Nv (xb.length:Int))≠0->¬dJ RM l):=Mb (QG.out rfl)
    clear hp HP1 QG
    go_wp2_with fail
    refine(Tl.out _).mono ?_;rintro e w2 ⟨rfl,rfl⟩
    go_wp2_with fail
    refine(V6.out _ _ _ _ (af.bo HL4.out)).mono ?_;rintro e w5 ⟨u5,rfl,Od,k5⟩
    have Sb:=Mb (Pv.out.trans k5)
    have HR5:=Mb (VP.out.kept0 k5)
    have HL5:=Mb (au HL4.out k5 (fun x hx=>by cases hx))
    have acQ:=Mb (k5.own abc.out (by simp))
    have XK:=Mb (k5.own HOR.out (by simp))
    have ZJ:=Mb hLC
    have adx:=Mb (aas.out.trans k5)
    rcases hLC with Py|Py
    .have VH:=HLR.out Py
     have aaS:=Mb (Ue.out (fun _=>Py))
     rw[VH]at Od
     rw[Py]
     have UX:=Mb Od
     obtain⟨p5,c5,rfl⟩:=ai Od
     obtain⟨a0,a1,a2,a3⟩:=acQ.out.c4
     obtain⟨b0,b1,b2,b3,b4⟩:=XK.out.k5
     have f3:=XK.out.free 3
     have f4:=XK.out.free 4
     clear Od VH Py Ua Ue k5 y0 y1 y2 y3 y4 z0 z1 z2 z3 s3 s4 ZJ
     go_upto_region 12 with fail
     rw[Nj]
     have o6:ae ((w5.setCell ⟨rb,3,none⟩ (.int .i64 (xb.length:Int))).setCell ⟨rb,4,none⟩ (.slice p5 (Np LL (Nv (xb.length:Int))).length c5)) rb #[.int .i64 xk,.int .u32 xi,.string (bs xn),.int .i64 (xb.length:Int),.slice p5 (Np LL (Nv (xb.length:Int))).length c5] 102:=(XK.out.set 3 _).set 4 _
     have Y7:aa [rb] w5 ((w5.setCell ⟨rb,3,none⟩ (.int .i64 (xb.length:Int))).setCell ⟨rb,4,none⟩ (.slice p5 (Np LL (Nv (xb.length:Int))).length c5)):=((aa.refl [rb] w5).setCell (p:=⟨rb,3,none⟩) (Or.inl Mg) _).setCell (p:=⟨rb,4,none⟩) (Or.inl Mg) _
     have k36:aa [] w3 ((w5.setCell ⟨rb,3,none⟩ (.int .i64 (xb.length:Int))).setCell ⟨rb,4,none⟩ (.slice p5 (Np LL (Nv (xb.length:Int))).length c5)):=(adx.out.setCell (p:=⟨rb,3,none⟩) (Or.inr (by have:=VA.out;show _<=rb;omega)) _).setCell (p:=⟨rb,4,none⟩) (Or.inr (by have:=VA.out;show _<=rb;omega)) _
     generalize ((w5.setCell ⟨rb,3,none⟩ (.int .i64 (xb.length:Int))).setCell ⟨rb,4,none⟩ (.slice p5 (Np LL (Nv (xb.length:Int))).length c5))=w6 at*
     have hr6:=XG.out.kept0 k36
     have Zb:=au HL3.out k36 (fun x hx=>by cases hx)
     have SH:=au UX.out Y7 (fun x hx=>by
      obtain rfl:x=rb:=by simpa using hx
      have:=HSZ.out;have:=VA.out;omega)
     have Ps:=Ro.out.trans k36
     have Wf:=Mb o6
     have HR6:=Mb hr6
     have HL6:=Mb Zb
     have Zy:=Mb SH
     have Qg:=Mb Ps
     clear o6 Y7 k36 hr6 Zb SH Ps a0 a1 a2 a3 b0 b1 b2 b3 b4 f3 f4
     go_wp2_with fail
     with_reducible refine(acX.out _ _ _ _ _ _ _ (af.bo HL6.out) (af.bo Zy.out)).mono ?_
     rintro e w7 ⟨u7,rfl,TJ,k7⟩
     have PL:=Mb (Qg.out.trans k7)
     have ho7:=k7.own Wf.out (by simp)
     have hr7:=HR6.out.kept0 k7
     have Zq:=au Zy.out k7 (fun x hx=>by cases hx)
     have ab2:Hid (bS w w7 (.slice p5 (Np LL (Nv (xb.length:Int))).length c5) (Np LL (Nv (xb.length:Int)))):=Mb (aH Zq (by have:=Qj.out;have:=HSZ.out;have:=VA.out;omega))
     have abV:=Mb (aH TJ Qg.out.size)
     obtain⟨p7,c7,rfl⟩:=ai TJ
     obtain⟨b0,b1,b2,b3,b4⟩:=ho7.k5
     obtain⟨vs,hvs,Nt,heach⟩:=hr7
     rw[Oa.out]at Nt
     have HVS:=Mb hvs
     have OK:=Mb Nt
     have TB:=Mb heach
     clear k7 ho7 Zq TJ hvs Nt heach
     obtain⟨i0,q0,q1,q2,q3⟩:=nv
     have m3:k+1<=maxLen:=by have:=NU.out;have:=U9.out;unfold maxLen;omega
     have m4:(k+1)*64<=140737488355328:=by have:=NU.out;have:=U9.out;omega
     have QQ:w.heap.size<=w7.heap.size:=PL.out.size
     go_wp2_with (at_builtin;go_must (refine Mv _ rfl (.tmp 48) (.tmp 50) 92 rfl w.heap.size 102 i0 (.agg #[.int .i64 0,.int .u32 0,.string {data:=#[]},.int .i64 0,.slice none 0 0]) 5 64 Tryz.underlying92 q0 q1 q2 q3 rfl (by decide) _ _ _ rfl (Me OK.out _) ⟨w7.heap.size,0,none⟩ 1 1 [.int .i64 xk,.int .u32 xi,.string (bs xn),.int .i64 (xb.length:Int),.slice p5 (Np LL (Nv (xb.length:Int))).length c5] rfl rfl ?_ ?_ m3 m4 ?_ ?_))
     .exact dw _ _ _
     .intro u hu;simp at hu;rcases hu with rfl|rfl|rfl|rfl|rfl<;>rfl
     .simp<;>omega
     intro v6 w6 o6 OE _ _
     have Tb:aP w w6 v6 X9.1:=by
      rw[HP.out]
      exact aP.more HVS.out TB.out (by rw[Oa.out];exact OK.out) ab2.out (Zk.out _) OE (by rw[Oa.out];exact o6)
     have Ps:aa [] w w6:=(PL.out.alloc _).grown OE (fun q hq=>Or.inr (Mn OK.out q hq).1)
     have Zb:w6.ownsRow w.heap.size 128 2 (.slice p7 (Oz LL (Np LL (Nv (xb.length:Int)))).length c7) X9.2.length (No X9.2):=by
      rw[HP.out]
      exact bm (Me abV.out _) (fun g cs hb hc=>OE.block g (MY hc) (fun e=>aB (Me OK.out _) (show ae _ g cs 128 from hc) (by decide) e.symm))
     have HNW:=Mb Tb
     have adg:=Mb Ps
     have ac6:=Mb Zb
     clear Tb Ps Zb o6 OE
     go_wp2_with fail
     go_roundw
     case rel=>exact⟨k+1,NU.out,by go_num,aaS.out,by rw[HPK.out];exact ac6.out,by rw[HPK.out];exact HNW.out,adg.out⟩
     case measure=>(have hh:=NU.out;simp[intOf]<;>omega)
    .have HB:=Mb (Ua.out (by rw[Py];decide))
     rw[Py]
     obtain⟨p5,c5,rfl⟩:=ai Od
     clear Od Py Ua Ue k5 ZJ
     go_wp2_with fail
     go_ret3
     exact⟨Or.inr ⟨HB.out,100,by decide,by decide,rfl⟩,Sb.out⟩
  .obtain rfl:k=l.length:=by omega
   have i1:¬((l.length:Nat):Int)<l.length:=by omega
   obtain⟨p6,c6,rfl⟩:=OT.shape
   obtain⟨pL,cL,rfl⟩:=ai PH
   have HR:=Mb OT
   have HLF:=Mb PH
   have HK:=Mb hK
   have HG:Hid (dJ RM l):=Mb (fun j hj hb=>hgood j hj hj hb)
   clear OT PH hK hgood
   go_wp2_with fail
   go_ret3
   exact⟨Or.inl ⟨HG.out,_,_,rfl,HR.out,HLF.out⟩,HK.out⟩
end Go.Proofs.YtdkimcnlhmhpgaaGreat

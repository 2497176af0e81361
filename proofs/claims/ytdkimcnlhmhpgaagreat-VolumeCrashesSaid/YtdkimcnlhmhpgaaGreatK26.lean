/- -/
import Derived.Test.YtdkimcnlhmhpgaaGreatK25
set_option maxHeartbeats 16000000
set_option maxRecDepth 100000
set_option linter.unusedVariables false
set_option linter.unusedSimpArgs false
namespace Go.Proofs.YtdkimcnlhmhpgaaGreat
open Go.RowKit
theorem fN (l:List UInt8):(dF l).length=4+l.length:=by unfold dF;rw[Mc,aq]
theorem J0 (i z:Nat) (name:List UInt8) (runs:List (Int×Int)):bk ⟨1,i,name,z,runs⟩=Nh 1 1++(Nh i 4++(Nh z 4++fP runs)):=by
 unfold bk
 rw[show Qa (ag.mk 1 i name z runs).kind=true from rfl,show Ob (ag.mk 1 i name z runs).kind=false from rfl,show NH (ag.mk 1 i name z runs).kind=true from rfl]
 simp
theorem M13 {A:Prop}(h:A:=by
 have HT1:=Mb hT1
 clear hT1
 generalize bs (Nh n1 2)=N1 at*
 generalize bs (Nh n2 2)=N2 at*
 have yy:(N1++N2).size=N1.size+N2.size:=ByteArray.size_append
 have qc1:∀W,(Op.stringOp .add N1 N2).run Tryz.prog W=.ok (.string (N1++N2)) W:=fun W=>by first|(simp[Op.stringOp];omega)
 have qc2:∀W,(Op.stringOp .add S0 (N1++N2)).run Tryz.prog W=.ok (.string (S0++(N1++N2))) W:=fun W=>by first|(simp[Op.stringOp];omega)
 clear yy
 go_wp2_with fail
 have kq:=kR.drew
 have oq:=oR.drew
 go_region_held3 (fun W=>W.cell? ⟨wr.heap.size,0,none⟩=some (.int .i64 (n1:Int))/\W.cell? ⟨wr.heap.size,1,none⟩=some (.int .i64 (n2:Int))) (first|go_keep|((have qq:=oq.c2;exact qq)))
  (first
   |(go_at_call 100;((with_reducible refine(G1.out _).mono ?_));rintro e w' ⟨rfl,k'⟩;have kq:=kq.trans k';have oq:=k'.own oq (by simp);obtain⟨x0,x1⟩:=oq.c2)
   |(go_at_call 100;((with_reducible refine(G2.out _).mono ?_));rintro e w' ⟨rfl,k'⟩;have kq:=kq.trans k';have oq:=k'.own oq (by simp);obtain⟨x0,x1⟩:=oq.c2))
 all_goals
  go_wp2_with fail
  go_roundw
  case rel=>exact⟨k+1,NU.out,by go_num,by rw[HT1.out,<-Ug.out],kq⟩
  case measure=>(have hh:=NU.out;simp[intOf];omega)):A:=h
theorem F3 (i z:Nat) (name:List UInt8) (runs:List (Int×Int)) (v:Value) (lo hi:Nat) (w:World) (h:af w v runs lo hi) (On:i<4294967296) (PS:z<=1048576) (hnm:name.length<=48) (hrf:iC runs):
  Calls Tryz.prog 101 #[.agg #[.int .i64 1,.int .u32 (i:Int),.string (bs name),.int .i64 (z:Int),v]] w fun e w'=>e=.returned (.string (bs (bk ⟨1,i,name,z,runs⟩)))/\aa [] w w':=by
 obtain⟨p,c,rfl⟩:=h.shape
 obtain⟨Rm,hlo⟩:=hrf
 have hj:∀W,Calls Tryz.prog 169 #[.int .i64 1] W fun e w'=>e=.returned (.tuple #[.bool true,.bool false,.bool true])/\W=w':=fun W=>fx 1 W
 have h8:∀W,Calls Tryz.prog 174 #[.int .u8 1] W fun e w'=>e=.returned (.string (bs (Nh 1 1)))/\aa [] W w':=fun W=>ng 1 W (by decide)
 have Sm:=fun W=>eh i W On
 skip
 have o0:=ae.new w #[.int .i64 1,.int .u32 (i:Int),.string (bs name),.int .i64 (z:Int),.slice p runs.length c] 102
 have k0:aa [] w (w.alloc (.cells #[.int .i64 1,.int .u32 (i:Int),.string (bs name),.int .i64 (z:Int),.slice p runs.length c] 102)):=(aa.refl _ _).alloc _
 have Ts:=J0 i z name runs
 have s1:(bs (Nh 1 1)).size=1:=by rw[Nj,aq]
 have s2:(bs (Nh i 4)).size<=60:=by rw[Nj];rw[aq];omega
 have QZ:(runs.length:Int)<=16:=by omega
 have RE:=Mb Ts
 have HJ:=Mb hj
 have H8:=Mb h8
 have TE:=Mb Sm
 have H:=Mb h
 have Xz:=Mb hlo
 clear Ts hj h8 Sm h hlo
 go_enter Tryz.func101,Tryz.ntmps101
 go_wp2_with fail
 refine(HJ.out _).mono ?_;rintro e w' ⟨rfl,rfl⟩
 go_wp2_with fail
 refine(H8.out _).mono ?_;rintro e w1 ⟨rfl,k1⟩
 have o1:=k1.own o0 (by simp)
 obtain⟨a0,a1,a2,a3,a4⟩:=o1.c5
 go_wp2_with fail
 refine(TE.out _).mono ?_;rintro e w2 ⟨rfl,k2⟩
 have oP:=k2.own o1 (by simp)
 obtain⟨b0,b1,b2,b3,b4⟩:=oP.c5
 have kP:=(k0.trans k1).trans k2
 clear a0 a1 a2 a3 a4 o1 o0 HJ H8 TE
 go_wp2_with fail
 generalize hT0:bs (Nh 1 1)++bs (Nh i 4)=T0 at*
 have YL:Hid (T0=bs (Nh 1 1++Nh i 4)):=Mb (by rw[<-hT0,aT])
 have t0:T0.size<=100:=by rw[YL.out,Nj];simp[aq,fN];try omega
 clear hT0
 have RQ:Hid (T0++(bs (Nh z 4)++bs (Nh runs.length 2))=bs ((Nh 1 1++Nh i 4)++(Nh z 4++(Nh runs.length 2++aV (runs.take 0))))):=Mb (by
  rw[YL.out,aT,aT]
  simp[aV])
 have y1:(bs (Nh z 4)).size=4:=by rw[Nj,aq]
 have y2:(bs (Nh runs.length 2)).size=2:=by rw[Nj,aq]
 have hz:=fun W=>eh z W (by omega)
 have hn:=fun W=>gu runs.length W (by omega)
 have HZ:=Mb hz
 have HN:=Mb hn
 have e1:=oH z (by omega)
 have e2:=gg runs.length (by omega)
 clear hz hn
 generalize bs (Nh z 4)=M1 at*
 generalize bs (Nh runs.length 2)=M2 at*
 have yy:(M1++M2).size=M1.size+M2.size:=ByteArray.size_append
 have qc1:∀W,(Op.stringOp .add M1 M2).run Tryz.prog W=.ok (.string (M1++M2)) W:=fun W=>by first|(simp[Op.stringOp];omega)
 have qc2:∀W,(Op.stringOp .add T0 (M1++M2)).run Tryz.prog W=.ok (.string (T0++(M1++M2))) W:=fun W=>by first|(simp[Op.stringOp];omega)
 clear yy
 have kk:=kP.drew
 have ob:=oP.drew
 go_region_held3 (fun W=>W.cell? ⟨w.heap.size,3,none⟩=some (.int .i64 (z:Int))/\W.cell? ⟨w.heap.size,4,none⟩=some (.slice p runs.length c)) (go_keep)
  (first
   |(go_at_call 102;((with_reducible refine(HZ.out _).mono ?_));rintro e w' ⟨rfl,k'⟩;have kk:=kk.trans k';have ob:=k'.own ob (by simp);obtain⟨c0,c1,c2,c3,c4⟩:=ob.c5)
   |(go_at_call 100;((with_reducible refine(HN.out _).mono ?_));rintro e w' ⟨rfl,k'⟩;have kk:=kk.trans k';have ob:=k'.own ob (by simp);obtain⟨c0,c1,c2,c3,c4⟩:=ob.c5))
 all_goals
  clear qc1 qc2 e1 e2
  have hs:=(show Hid (w'.heap.size=w'.heap.size)from rfl)
  go_wp2_with fail
  go_loopw [6,48] (fun t ii wr=>∃k:Nat,k<=runs.length/\ii=.int .i64 k/\t=.string (bs ((Nh 1 1++Nh i 4)++(Nh z 4++(Nh runs.length 2++aV (runs.take k)))))/\aa [] w wr) (fun _ ii _=>runs.length-(intOf ii).toNat)
  case atStart=>exact⟨0,by omega,rfl,congrArg Value.string RQ.out,kk⟩
  case round=>
   obtain⟨k,hk,rfl,rfl,hK⟩:=hrel
   by_cases Ns:k<runs.length
   .obtain⟨b',off,rfl,g0,g1,UW,Py,Pb⟩:=(H.out.kept0 hK).at_ k Ns
    have Rr:=Xz.out k Ns
    have TF:=mP runs k Ns
    obtain⟨n1,Rx⟩:=Mr Rr.1
    obtain⟨n2,Qy⟩:=Mr Rr.2.2.1
    rw[Rx]at g0 TF Rr
    rw[Qy]at g1 TF Rr
    rw[ML,ML]at TF
    have Ug:Hid (bs ((Nh 1 1++Nh i 4)++(Nh z 4++(Nh runs.length 2++aV (runs.take k))))++(bs (Nh n1 2)++bs (Nh n2 2))=bs ((Nh 1 1++Nh i 4)++(Nh z 4++(Nh runs.length 2++aV (runs.take (k+1)))))):=by
     show _=_;rw[aT,aT,TF];simp only[Mi]
    have e1:=gg n1 (by omega)
    have e2:=gg n2 (by omega)
    have y1:(bs (Nh n1 2)).size=2:=by rw[Nj,aq]
    have y2:(bs (Nh n2 2)).size=2:=by rw[Nj,aq]
    have y0:(bs ((Nh 1 1++Nh i 4)++(Nh z 4++(Nh runs.length 2++aV (runs.take k))))).size<=1000:=by rw[Nj];simp[aq,fN,kN];omega
    have h1:=fun W=>gu n1 W (by omega)
    have h2:=fun W=>gu n2 W (by omega)
    have G1:=Mb h1
    have G2:=Mb h2
    have i1:(k:Int)<runs.length:=by omega
    have NU:=Mb Ns
    have oR:=ae.new wr #[.int .i64 (n1:Int),.int .i64 (n2:Int)] 128
    have kR:aa [] w (wr.alloc (.cells #[.int .i64 (n1:Int),.int .i64 (n2:Int)] 128)):=hK.alloc _
    clear TF Rx Qy h1 h2
    generalize bs ((Nh 1 1++Nh i 4)++(Nh z 4++(Nh runs.length 2++aV (runs.take k))))=S0 at*
    generalize hT1:bs ((Nh 1 1++Nh i 4)++(Nh z 4++(Nh runs.length 2++aV (runs.take (k+1)))))=T1 at*
    exact M13
   .obtain rfl:k=runs.length:=by omega
    rw[MC]
    have N6:Hid (bs ((Nh 1 1++Nh i 4)++(Nh z 4++(Nh runs.length 2++aV runs)))=bs (bk ⟨1,i,name,z,runs⟩)):=Mb (by
     rw[RE.out];unfold fP;simp only[Mi])
    go_wp2_with fail
    go_ret
    exact⟨by rw[<-N6.out];rfl,hK⟩
theorem JZ (i z:Nat) (name:List UInt8) (runs:List (Int×Int)):bk ⟨2,i,name,z,runs⟩=Nh 2 1++(Nh i 4++(Nh z 4++fP runs)):=by
 unfold bk
 rw[show Qa (ag.mk 2 i name z runs).kind=true from rfl,show Ob (ag.mk 2 i name z runs).kind=false from rfl,show NH (ag.mk 2 i name z runs).kind=true from rfl]
 simp
theorem F2 (i z:Nat) (name:List UInt8) (runs:List (Int×Int)) (v:Value) (lo hi:Nat) (w:World) (h:af w v runs lo hi) (On:i<4294967296) (PS:z<=1048576) (hnm:name.length<=48) (hrf:iC runs):
  Calls Tryz.prog 101 #[.agg #[.int .i64 2,.int .u32 (i:Int),.string (bs name),.int .i64 (z:Int),v]] w fun e w'=>e=.returned (.string (bs (bk ⟨2,i,name,z,runs⟩)))/\aa [] w w':=by
 obtain⟨p,c,rfl⟩:=h.shape
 obtain⟨Rm,hlo⟩:=hrf
 have hj:∀W,Calls Tryz.prog 169 #[.int .i64 2] W fun e w'=>e=.returned (.tuple #[.bool true,.bool false,.bool true])/\W=w':=fun W=>fx 2 W
 have h8:∀W,Calls Tryz.prog 174 #[.int .u8 2] W fun e w'=>e=.returned (.string (bs (Nh 2 1)))/\aa [] W w':=fun W=>ng 2 W (by decide)
 have Sm:=fun W=>eh i W On
 skip
 have o0:=ae.new w #[.int .i64 2,.int .u32 (i:Int),.string (bs name),.int .i64 (z:Int),.slice p runs.length c] 102
 have k0:aa [] w (w.alloc (.cells #[.int .i64 2,.int .u32 (i:Int),.string (bs name),.int .i64 (z:Int),.slice p runs.length c] 102)):=(aa.refl _ _).alloc _
 have Ts:=JZ i z name runs
 have s1:(bs (Nh 2 1)).size=1:=by rw[Nj,aq]
 have s2:(bs (Nh i 4)).size<=60:=by rw[Nj];rw[aq];omega
 have QZ:(runs.length:Int)<=16:=by omega
 have RE:=Mb Ts
 have HJ:=Mb hj
 have H8:=Mb h8
 have TE:=Mb Sm
 have H:=Mb h
 have Xz:=Mb hlo
 clear Ts hj h8 Sm h hlo
 go_enter Tryz.func101,Tryz.ntmps101
 go_wp2_with fail
 refine(HJ.out _).mono ?_;rintro e w' ⟨rfl,rfl⟩
 go_wp2_with fail
 refine(H8.out _).mono ?_;rintro e w1 ⟨rfl,k1⟩
 have o1:=k1.own o0 (by simp)
 obtain⟨a0,a1,a2,a3,a4⟩:=o1.c5
 go_wp2_with fail
 refine(TE.out _).mono ?_;rintro e w2 ⟨rfl,k2⟩
 have oP:=k2.own o1 (by simp)
 obtain⟨b0,b1,b2,b3,b4⟩:=oP.c5
 have kP:=(k0.trans k1).trans k2
 clear a0 a1 a2 a3 a4 o1 o0 HJ H8 TE
 go_wp2_with fail
 generalize hT0:bs (Nh 2 1)++bs (Nh i 4)=T0 at*
 have YL:Hid (T0=bs (Nh 2 1++Nh i 4)):=Mb (by rw[<-hT0,aT])
 have t0:T0.size<=100:=by rw[YL.out,Nj];simp[aq,fN];try omega
 clear hT0
 have RQ:Hid (T0++(bs (Nh z 4)++bs (Nh runs.length 2))=bs ((Nh 2 1++Nh i 4)++(Nh z 4++(Nh runs.length 2++aV (runs.take 0))))):=Mb (by
  rw[YL.out,aT,aT]
  simp[aV])
 have y1:(bs (Nh z 4)).size=4:=by rw[Nj,aq]
 have y2:(bs (Nh runs.length 2)).size=2:=by rw[Nj,aq]
 have hz:=fun W=>eh z W (by omega)
 have hn:=fun W=>gu runs.length W (by omega)
 have HZ:=Mb hz
 have HN:=Mb hn
 have e1:=oH z (by omega)
 have e2:=gg runs.length (by omega)
 clear hz hn
 generalize bs (Nh z 4)=M1 at*
 generalize bs (Nh runs.length 2)=M2 at*
 have yy:(M1++M2).size=M1.size+M2.size:=ByteArray.size_append
 have qc1:∀W,(Op.stringOp .add M1 M2).run Tryz.prog W=.ok (.string (M1++M2)) W:=fun W=>by first|(simp[Op.stringOp];omega)
 have qc2:∀W,(Op.stringOp .add T0 (M1++M2)).run Tryz.prog W=.ok (.string (T0++(M1++M2))) W:=fun W=>by first|(simp[Op.stringOp];omega)
 clear yy
 have kk:=kP.drew
 have ob:=oP.drew
 go_region_held3 (fun W=>W.cell? ⟨w.heap.size,3,none⟩=some (.int .i64 (z:Int))/\W.cell? ⟨w.heap.size,4,none⟩=some (.slice p runs.length c)) (go_keep)
  (first
   |(go_at_call 102;((with_reducible refine(HZ.out _).mono ?_));rintro e w' ⟨rfl,k'⟩;have kk:=kk.trans k';have ob:=k'.own ob (by simp);obtain⟨c0,c1,c2,c3,c4⟩:=ob.c5)
   |(go_at_call 100;((with_reducible refine(HN.out _).mono ?_));rintro e w' ⟨rfl,k'⟩;have kk:=kk.trans k';have ob:=k'.own ob (by simp);obtain⟨c0,c1,c2,c3,c4⟩:=ob.c5))
 all_goals
  clear qc1 qc2 e1 e2
  have hs:=(show Hid (w'.heap.size=w'.heap.size)from rfl)
  go_wp2_with fail
  go_loopw [6,48] (fun t ii wr=>∃k:Nat,k<=runs.length/\ii=.int .i64 k/\t=.string (bs ((Nh 2 1++Nh i 4)++(Nh z 4++(Nh runs.length 2++aV (runs.take k)))))/\aa [] w wr) (fun _ ii _=>runs.length-(intOf ii).toNat)
  case atStart=>exact⟨0,by omega,rfl,congrArg Value.string RQ.out,kk⟩
  case round=>
   obtain⟨k,hk,rfl,rfl,hK⟩:=hrel
   by_cases Ns:k<runs.length
   .obtain⟨b',off,rfl,g0,g1,UW,Py,Pb⟩:=(H.out.kept0 hK).at_ k Ns
    have Rr:=Xz.out k Ns
    have TF:=mP runs k Ns
    obtain⟨n1,Rx⟩:=Mr Rr.1
    obtain⟨n2,Qy⟩:=Mr Rr.2.2.1
    rw[Rx]at g0 TF Rr
    rw[Qy]at g1 TF Rr
    rw[ML,ML]at TF
    have Ug:Hid (bs ((Nh 2 1++Nh i 4)++(Nh z 4++(Nh runs.length 2++aV (runs.take k))))++(bs (Nh n1 2)++bs (Nh n2 2))=bs ((Nh 2 1++Nh i 4)++(Nh z 4++(Nh runs.length 2++aV (runs.take (k+1)))))):=by
     show _=_;rw[aT,aT,TF];simp only[Mi]
    have e1:=gg n1 (by omega)
    have e2:=gg n2 (by omega)
    have y1:(bs (Nh n1 2)).size=2:=by rw[Nj,aq]
    have y2:(bs (Nh n2 2)).size=2:=by rw[Nj,aq]
    have y0:(bs ((Nh 2 1++Nh i 4)++(Nh z 4++(Nh runs.length 2++aV (runs.take k))))).size<=1000:=by rw[Nj];simp[aq,fN,kN];omega
    have h1:=fun W=>gu n1 W (by omega)
    have h2:=fun W=>gu n2 W (by omega)
    have G1:=Mb h1
    have G2:=Mb h2
    have i1:(k:Int)<runs.length:=by omega
    have NU:=Mb Ns
    have oR:=ae.new wr #[.int .i64 (n1:Int),.int .i64 (n2:Int)] 128
    have kR:aa [] w (wr.alloc (.cells #[.int .i64 (n1:Int),.int .i64 (n2:Int)] 128)):=hK.alloc _
    clear TF Rx Qy h1 h2
    generalize bs ((Nh 2 1++Nh i 4)++(Nh z 4++(Nh runs.length 2++aV (runs.take k))))=S0 at*
    generalize hT1:bs ((Nh 2 1++Nh i 4)++(Nh z 4++(Nh runs.length 2++aV (runs.take (k+1)))))=T1 at*
    exact M13
   .obtain rfl:k=runs.length:=by omega
    rw[MC]
    have N6:Hid (bs ((Nh 2 1++Nh i 4)++(Nh z 4++(Nh runs.length 2++aV runs)))=bs (bk ⟨2,i,name,z,runs⟩)):=Mb (by
     rw[RE.out];unfold fP;simp only[Mi])
    go_wp2_with fail
    go_ret
    exact⟨by rw[<-N6.out];rfl,hK⟩
theorem JY (i z:Nat) (name:List UInt8) (runs:List (Int×Int)):bk ⟨3,i,name,z,runs⟩=Nh 3 1++(dF name++(Nh z 4++fP runs)):=by
 unfold bk
 rw[show Qa (ag.mk 3 i name z runs).kind=false from rfl,show Ob (ag.mk 3 i name z runs).kind=true from rfl,show NH (ag.mk 3 i name z runs).kind=true from rfl]
 simp
theorem F1 (i z:Nat) (name:List UInt8) (runs:List (Int×Int)) (v:Value) (lo hi:Nat) (w:World) (h:af w v runs lo hi) (On:i<4294967296) (PS:z<=1048576) (hnm:name.length<=48) (hrf:iC runs):
  Calls Tryz.prog 101 #[.agg #[.int .i64 3,.int .u32 (i:Int),.string (bs name),.int .i64 (z:Int),v]] w fun e w'=>e=.returned (.string (bs (bk ⟨3,i,name,z,runs⟩)))/\aa [] w w':=by
 obtain⟨p,c,rfl⟩:=h.shape
 obtain⟨Rm,hlo⟩:=hrf
 have hj:∀W,Calls Tryz.prog 169 #[.int .i64 3] W fun e w'=>e=.returned (.tuple #[.bool false,.bool true,.bool true])/\W=w':=fun W=>fx 3 W
 have h8:∀W,Calls Tryz.prog 174 #[.int .u8 3] W fun e w'=>e=.returned (.string (bs (Nh 3 1)))/\aa [] W w':=fun W=>ng 3 W (by decide)
 have Sm:=fun W=>xG (bs name) W (by rw[Nj];omega)
 rw[dP]at Sm
 have o0:=ae.new w #[.int .i64 3,.int .u32 (i:Int),.string (bs name),.int .i64 (z:Int),.slice p runs.length c] 102
 have k0:aa [] w (w.alloc (.cells #[.int .i64 3,.int .u32 (i:Int),.string (bs name),.int .i64 (z:Int),.slice p runs.length c] 102)):=(aa.refl _ _).alloc _
 have Ts:=JY i z name runs
 have s1:(bs (Nh 3 1)).size=1:=by rw[Nj,aq]
 have s2:(bs (dF name)).size<=60:=by rw[Nj];rw[fN];omega
 have QZ:(runs.length:Int)<=16:=by omega
 have RE:=Mb Ts
 have HJ:=Mb hj
 have H8:=Mb h8
 have TE:=Mb Sm
 have H:=Mb h
 have Xz:=Mb hlo
 clear Ts hj h8 Sm h hlo
 go_enter Tryz.func101,Tryz.ntmps101
 go_wp2_with fail
 refine(HJ.out _).mono ?_;rintro e w' ⟨rfl,rfl⟩
 go_wp2_with fail
 refine(H8.out _).mono ?_;rintro e w1 ⟨rfl,k1⟩
 have o1:=k1.own o0 (by simp)
 obtain⟨a0,a1,a2,a3,a4⟩:=o1.c5
 go_wp2_with fail
 refine(TE.out _).mono ?_;rintro e w2 ⟨rfl,k2⟩
 have oP:=k2.own o1 (by simp)
 obtain⟨b0,b1,b2,b3,b4⟩:=oP.c5
 have kP:=(k0.trans k1).trans k2
 clear a0 a1 a2 a3 a4 o1 o0 HJ H8 TE
 go_wp2_with fail
 generalize hT0:bs (Nh 3 1)++bs (dF name)=T0 at*
 have YL:Hid (T0=bs (Nh 3 1++dF name)):=Mb (by rw[<-hT0,aT])
 have t0:T0.size<=100:=by rw[YL.out,Nj];simp[aq,fN];try omega
 clear hT0
 have RQ:Hid (T0++(bs (Nh z 4)++bs (Nh runs.length 2))=bs ((Nh 3 1++dF name)++(Nh z 4++(Nh runs.length 2++aV (runs.take 0))))):=Mb (by
  rw[YL.out,aT,aT]
  simp[aV])
 have y1:(bs (Nh z 4)).size=4:=by rw[Nj,aq]
 have y2:(bs (Nh runs.length 2)).size=2:=by rw[Nj,aq]
 have hz:=fun W=>eh z W (by omega)
 have hn:=fun W=>gu runs.length W (by omega)
 have HZ:=Mb hz
 have HN:=Mb hn
 have e1:=oH z (by omega)
 have e2:=gg runs.length (by omega)
 clear hz hn
 generalize bs (Nh z 4)=M1 at*
 generalize bs (Nh runs.length 2)=M2 at*
 have yy:(M1++M2).size=M1.size+M2.size:=ByteArray.size_append
 have qc1:∀W,(Op.stringOp .add M1 M2).run Tryz.prog W=.ok (.string (M1++M2)) W:=fun W=>by first|(simp[Op.stringOp];omega)
 have qc2:∀W,(Op.stringOp .add T0 (M1++M2)).run Tryz.prog W=.ok (.string (T0++(M1++M2))) W:=fun W=>by first|(simp[Op.stringOp];omega)
 clear yy
 have kk:=kP.drew
 have ob:=oP.drew
 go_region_held3 (fun W=>W.cell? ⟨w.heap.size,3,none⟩=some (.int .i64 (z:Int))/\W.cell? ⟨w.heap.size,4,none⟩=some (.slice p runs.length c)) (go_keep)
  (first
   |(go_at_call 102;((with_reducible refine(HZ.out _).mono ?_));rintro e w' ⟨rfl,k'⟩;have kk:=kk.trans k';have ob:=k'.own ob (by simp);obtain⟨c0,c1,c2,c3,c4⟩:=ob.c5)
   |(go_at_call 100;((with_reducible refine(HN.out _).mono ?_));rintro e w' ⟨rfl,k'⟩;have kk:=kk.trans k';have ob:=k'.own ob (by simp);obtain⟨c0,c1,c2,c3,c4⟩:=ob.c5))
 all_goals
  clear qc1 qc2 e1 e2
  have hs:=(show Hid (w'.heap.size=w'.heap.size)from rfl)
  go_wp2_with fail
  go_loopw [6,48] (fun t ii wr=>∃k:Nat,k<=runs.length/\ii=.int .i64 k/\t=.string (bs ((Nh 3 1++dF name)++(Nh z 4++(Nh runs.length 2++aV (runs.take k)))))/\aa [] w wr) (fun _ ii _=>runs.length-(intOf ii).toNat)
  case atStart=>exact⟨0,by omega,rfl,congrArg Value.string RQ.out,kk⟩
  case round=>
   obtain⟨k,hk,rfl,rfl,hK⟩:=hrel
   by_cases Ns:k<runs.length
   .obtain⟨b',off,rfl,g0,g1,UW,Py,Pb⟩:=(H.out.kept0 hK).at_ k Ns
    have Rr:=Xz.out k Ns
    have TF:=mP runs k Ns
    obtain⟨n1,Rx⟩:=Mr Rr.1
    obtain⟨n2,Qy⟩:=Mr Rr.2.2.1
    rw[Rx]at g0 TF Rr
    rw[Qy]at g1 TF Rr
    rw[ML,ML]at TF
    have Ug:Hid (bs ((Nh 3 1++dF name)++(Nh z 4++(Nh runs.length 2++aV (runs.take k))))++(bs (Nh n1 2)++bs (Nh n2 2))=bs ((Nh 3 1++dF name)++(Nh z 4++(Nh runs.length 2++aV (runs.take (k+1)))))):=by
     show _=_;rw[aT,aT,TF];simp only[Mi]
    have e1:=gg n1 (by omega)
    have e2:=gg n2 (by omega)
    have y1:(bs (Nh n1 2)).size=2:=by rw[Nj,aq]
    have y2:(bs (Nh n2 2)).size=2:=by rw[Nj,aq]
    have y0:(bs ((Nh 3 1++dF name)++(Nh z 4++(Nh runs.length 2++aV (runs.take k))))).size<=1000:=by rw[Nj];simp[aq,fN,kN];omega
    have h1:=fun W=>gu n1 W (by omega)
    have h2:=fun W=>gu n2 W (by omega)
    have G1:=Mb h1
    have G2:=Mb h2
    have i1:(k:Int)<runs.length:=by omega
    have NU:=Mb Ns
    have oR:=ae.new wr #[.int .i64 (n1:Int),.int .i64 (n2:Int)] 128
    have kR:aa [] w (wr.alloc (.cells #[.int .i64 (n1:Int),.int .i64 (n2:Int)] 128)):=hK.alloc _
    clear TF Rx Qy h1 h2
    generalize bs ((Nh 3 1++dF name)++(Nh z 4++(Nh runs.length 2++aV (runs.take k))))=S0 at*
    generalize hT1:bs ((Nh 3 1++dF name)++(Nh z 4++(Nh runs.length 2++aV (runs.take (k+1)))))=T1 at*
    exact M13
   .obtain rfl:k=runs.length:=by omega
    rw[MC]
    have N6:Hid (bs ((Nh 3 1++dF name)++(Nh z 4++(Nh runs.length 2++aV runs)))=bs (bk ⟨3,i,name,z,runs⟩)):=Mb (by
     rw[RE.out];unfold fP;simp only[Mi])
    go_wp2_with fail
    go_ret
    exact⟨by rw[<-N6.out];rfl,hK⟩
theorem JX (i z:Nat) (name:List UInt8) (runs:List (Int×Int)):bk ⟨4,i,name,z,runs⟩=Nh 4 1++(Nh i 4):=by
 unfold bk
 rw[show Qa (ag.mk 4 i name z runs).kind=true from rfl,show Ob (ag.mk 4 i name z runs).kind=false from rfl,show NH (ag.mk 4 i name z runs).kind=false from rfl]
 simp
theorem F0 (i z:Nat) (name:List UInt8) (runs:List (Int×Int)) (v:Value) (lo hi:Nat) (w:World) (h:af w v runs lo hi) (On:i<4294967296) (PS:z<=1048576) (hnm:name.length<=48) (hrf:iC runs):
  Calls Tryz.prog 101 #[.agg #[.int .i64 4,.int .u32 (i:Int),.string (bs name),.int .i64 (z:Int),v]] w fun e w'=>e=.returned (.string (bs (bk ⟨4,i,name,z,runs⟩)))/\aa [] w w':=by
 obtain⟨p,c,rfl⟩:=h.shape
 obtain⟨Rm,hlo⟩:=hrf
 have hj:∀W,Calls Tryz.prog 169 #[.int .i64 4] W fun e w'=>e=.returned (.tuple #[.bool true,.bool false,.bool false])/\W=w':=fun W=>fx 4 W
 have h8:∀W,Calls Tryz.prog 174 #[.int .u8 4] W fun e w'=>e=.returned (.string (bs (Nh 4 1)))/\aa [] W w':=fun W=>ng 4 W (by decide)
 have Sm:=fun W=>eh i W On
 skip
 have o0:=ae.new w #[.int .i64 4,.int .u32 (i:Int),.string (bs name),.int .i64 (z:Int),.slice p runs.length c] 102
 have k0:aa [] w (w.alloc (.cells #[.int .i64 4,.int .u32 (i:Int),.string (bs name),.int .i64 (z:Int),.slice p runs.length c] 102)):=(aa.refl _ _).alloc _
 have Ts:=JX i z name runs
 have s1:(bs (Nh 4 1)).size=1:=by rw[Nj,aq]
 have s2:(bs (Nh i 4)).size<=60:=by rw[Nj];rw[aq];omega
 have QZ:(runs.length:Int)<=16:=by omega
 have RE:=Mb Ts
 have HJ:=Mb hj
 have H8:=Mb h8
 have TE:=Mb Sm
 have H:=Mb h
 have Xz:=Mb hlo
 clear Ts hj h8 Sm h hlo
 go_enter Tryz.func101,Tryz.ntmps101
 go_wp2_with fail
 refine(HJ.out _).mono ?_;rintro e w' ⟨rfl,rfl⟩
 go_wp2_with fail
 refine(H8.out _).mono ?_;rintro e w1 ⟨rfl,k1⟩
 have o1:=k1.own o0 (by simp)
 obtain⟨a0,a1,a2,a3,a4⟩:=o1.c5
 go_wp2_with fail
 refine(TE.out _).mono ?_;rintro e w2 ⟨rfl,k2⟩
 have oP:=k2.own o1 (by simp)
 obtain⟨b0,b1,b2,b3,b4⟩:=oP.c5
 have kP:=(k0.trans k1).trans k2
 clear a0 a1 a2 a3 a4 o1 o0 HJ H8 TE
 go_wp2_with fail
 go_ret
 exact⟨by rw[RE.out,<-aT];rfl,kP⟩
theorem JW (i z:Nat) (name:List UInt8) (runs:List (Int×Int)):bk ⟨5,i,name,z,runs⟩=Nh 5 1++(Nh i 4):=by
 unfold bk
 rw[show Qa (ag.mk 5 i name z runs).kind=true from rfl,show Ob (ag.mk 5 i name z runs).kind=false from rfl,show NH (ag.mk 5 i name z runs).kind=false from rfl]
 simp
theorem FZ (i z:Nat) (name:List UInt8) (runs:List (Int×Int)) (v:Value) (lo hi:Nat) (w:World) (h:af w v runs lo hi) (On:i<4294967296) (PS:z<=1048576) (hnm:name.length<=48) (hrf:iC runs):
  Calls Tryz.prog 101 #[.agg #[.int .i64 5,.int .u32 (i:Int),.string (bs name),.int .i64 (z:Int),v]] w fun e w'=>e=.returned (.string (bs (bk ⟨5,i,name,z,runs⟩)))/\aa [] w w':=by
 obtain⟨p,c,rfl⟩:=h.shape
 obtain⟨Rm,hlo⟩:=hrf
 have hj:∀W,Calls Tryz.prog 169 #[.int .i64 5] W fun e w'=>e=.returned (.tuple #[.bool true,.bool false,.bool false])/\W=w':=fun W=>fx 5 W
 have h8:∀W,Calls Tryz.prog 174 #[.int .u8 5] W fun e w'=>e=.returned (.string (bs (Nh 5 1)))/\aa [] W w':=fun W=>ng 5 W (by decide)
 have Sm:=fun W=>eh i W On
 skip
 have o0:=ae.new w #[.int .i64 5,.int .u32 (i:Int),.string (bs name),.int .i64 (z:Int),.slice p runs.length c] 102
 have k0:aa [] w (w.alloc (.cells #[.int .i64 5,.int .u32 (i:Int),.string (bs name),.int .i64 (z:Int),.slice p runs.length c] 102)):=(aa.refl _ _).alloc _
 have Ts:=JW i z name runs
 have s1:(bs (Nh 5 1)).size=1:=by rw[Nj,aq]
 have s2:(bs (Nh i 4)).size<=60:=by rw[Nj];rw[aq];omega
 have QZ:(runs.length:Int)<=16:=by omega
 have RE:=Mb Ts
 have HJ:=Mb hj
 have H8:=Mb h8
 have TE:=Mb Sm
 have H:=Mb h
 have Xz:=Mb hlo
 clear Ts hj h8 Sm h hlo
 go_enter Tryz.func101,Tryz.ntmps101
 go_wp2_with fail
 refine(HJ.out _).mono ?_;rintro e w' ⟨rfl,rfl⟩
 go_wp2_with fail
 refine(H8.out _).mono ?_;rintro e w1 ⟨rfl,k1⟩
 have o1:=k1.own o0 (by simp)
 obtain⟨a0,a1,a2,a3,a4⟩:=o1.c5
 go_wp2_with fail
 refine(TE.out _).mono ?_;rintro e w2 ⟨rfl,k2⟩
 have oP:=k2.own o1 (by simp)
 obtain⟨b0,b1,b2,b3,b4⟩:=oP.c5
 have kP:=(k0.trans k1).trans k2
 clear a0 a1 a2 a3 a4 o1 o0 HJ H8 TE
 go_wp2_with fail
 go_ret
 exact⟨by rw[RE.out,<-aT];rfl,kP⟩
theorem JV (i z:Nat) (name:List UInt8) (runs:List (Int×Int)):bk ⟨6,i,name,z,runs⟩=Nh 6 1++(dF name):=by
 unfold bk
 rw[show Qa (ag.mk 6 i name z runs).kind=false from rfl,show Ob (ag.mk 6 i name z runs).kind=true from rfl,show NH (ag.mk 6 i name z runs).kind=false from rfl]
 simp
theorem FY (i z:Nat) (name:List UInt8) (runs:List (Int×Int)) (v:Value) (lo hi:Nat) (w:World) (h:af w v runs lo hi) (On:i<4294967296) (PS:z<=1048576) (hnm:name.length<=48) (hrf:iC runs):
  Calls Tryz.prog 101 #[.agg #[.int .i64 6,.int .u32 (i:Int),.string (bs name),.int .i64 (z:Int),v]] w fun e w'=>e=.returned (.string (bs (bk ⟨6,i,name,z,runs⟩)))/\aa [] w w':=by
 obtain⟨p,c,rfl⟩:=h.shape
 obtain⟨Rm,hlo⟩:=hrf
 have hj:∀W,Calls Tryz.prog 169 #[.int .i64 6] W fun e w'=>e=.returned (.tuple #[.bool false,.bool true,.bool false])/\W=w':=fun W=>fx 6 W
 have h8:∀W,Calls Tryz.prog 174 #[.int .u8 6] W fun e w'=>e=.returned (.string (bs (Nh 6 1)))/\aa [] W w':=fun W=>ng 6 W (by decide)
 have Sm:=fun W=>xG (bs name) W (by rw[Nj];omega)
 rw[dP]at Sm
 have o0:=ae.new w #[.int .i64 6,.int .u32 (i:Int),.string (bs name),.int .i64 (z:Int),.slice p runs.length c] 102
 have k0:aa [] w (w.alloc (.cells #[.int .i64 6,.int .u32 (i:Int),.string (bs name),.int .i64 (z:Int),.slice p runs.length c] 102)):=(aa.refl _ _).alloc _
 have Ts:=JV i z name runs
 have s1:(bs (Nh 6 1)).size=1:=by rw[Nj,aq]
 have s2:(bs (dF name)).size<=60:=by rw[Nj];rw[fN];omega
 have QZ:(runs.length:Int)<=16:=by omega
 have RE:=Mb Ts
 have HJ:=Mb hj
 have H8:=Mb h8
 have TE:=Mb Sm
 have H:=Mb h
 have Xz:=Mb hlo
 clear Ts hj h8 Sm h hlo
 go_enter Tryz.func101,Tryz.ntmps101
 go_wp2_with fail
 refine(HJ.out _).mono ?_;rintro e w' ⟨rfl,rfl⟩
 go_wp2_with fail
 refine(H8.out _).mono ?_;rintro e w1 ⟨rfl,k1⟩
 have o1:=k1.own o0 (by simp)
 obtain⟨a0,a1,a2,a3,a4⟩:=o1.c5
 go_wp2_with fail
 refine(TE.out _).mono ?_;rintro e w2 ⟨rfl,k2⟩
 have oP:=k2.own o1 (by simp)
 obtain⟨b0,b1,b2,b3,b4⟩:=oP.c5
 have kP:=(k0.trans k1).trans k2
 clear a0 a1 a2 a3 a4 o1 o0 HJ H8 TE
 go_wp2_with fail
 go_ret
 exact⟨by rw[RE.out,<-aT];rfl,kP⟩
theorem Kd (r:ag) (v:Value) (lo hi:Nat) (w:World) (h:af w v r.runs lo hi) (OJ:jF r):
  Calls Tryz.prog 101 #[.agg (r.cells v)] w fun e w'=>e=.returned (.string (bs (bk r)))/\aa [] w w':=by
 obtain⟨k,id,name,size,runs⟩:=r
 obtain⟨h1,h6,i0,i1,nm,s0,s1,rf⟩:=OJ
 simp only at h h1 h6 i0 i1 nm s0 s1 rf
 obtain⟨i,rfl⟩:=Mr i0
 obtain⟨z,rfl⟩:=Mr s0
 unfold ag.cells
 simp only
 rcases(by omega:k=1\/k=2\/k=3\/k=4\/k=5\/k=6)with rfl|rfl|rfl|rfl|rfl|rfl
 .exact F3 i z name runs v lo hi w h (by omega) (by omega) nm rf
 .exact F2 i z name runs v lo hi w h (by omega) (by omega) nm rf
 .exact F1 i z name runs v lo hi w h (by omega) (by omega) nm rf
 .exact F0 i z name runs v lo hi w h (by omega) (by omega) nm rf
 .exact FZ i z name runs v lo hi w h (by omega) (by omega) nm rf
 .exact FY i z name runs v lo hi w h (by omega) (by omega) nm rf
theorem Br (l:List (Int×Int)):(fP l).length=2+4*l.length:=by unfold fP;rw[Mc,aq,kN]
end Go.Proofs.YtdkimcnlhmhpgaaGreat
namespace Go.Proofs.YtdkimcnlhmhpgaaGreat
open Go.ChangeShapes Go.WideShapes Go.ChangeAt Go.RowKit Go.Deep
variable {w w':World} {v:Value} {l:List ag} {lo hi:Nat}
def GG (lo hi:Nat) (w:World) (cs:List Value) (a:ag):Prop:=∃kv,cs=[.int .i64 a.kind,.int .u32 a.id,.string (bs a.name),.int .i64 a.size,kv]/\af w kv a.runs lo hi/\a.fits
def cY (w:World) (v:Value) (l:List ag) (lo hi:Nat):Prop:=aZ 5 (GG lo hi) w v l lo hi
theorem cY.kept {S:List Nat} (h:cY w v l lo hi) (k:aa S w w') (hS:∀x∈S,x<lo\/hi<=x):cY w' v l lo hi:=
 aZ.kept h k hS (fun cs a ⟨kv,e1,e2,e3⟩=>⟨kv,e1,e2.kept k hS,e3⟩)
theorem cY.kept0 (h:cY w v l lo hi) (k:aa [] w w'):cY w' v l lo hi:=h.kept k (fun x hx=>by cases hx)
theorem cY.at_ {p:Option Addr} {n c:Nat} (h:cY w (.slice p n c) l lo hi) (i:Nat) (hi':i<l.length):
  ∃b off kv,p=some ⟨b,off,none⟩/\w.cell? ⟨b,off+i*5,none⟩=some (.int .i64 l[i].kind)/\w.cell? ⟨b,off+i*5+1,none⟩=some (.int .u32 l[i].id)/\w.cell? ⟨b,off+i*5+2,none⟩=some (.string (bs l[i].name))/\w.cell? ⟨b,off+i*5+3,none⟩=some (.int .i64 l[i].size)/\w.cell? ⟨b,off+i*5+4,none⟩=some kv/\af w kv l[i].runs lo hi/\l[i].fits/\lo<=b/\b<hi/\hi<=w.heap.size:=by
 obtain⟨b,off,cs,e1,e2,⟨kv,rfl,e4,e5⟩,e6,e7⟩:=aZ.at_ h i hi'
 exact⟨b,off,kv,e1,e6 0 _ rfl,e6 1 _ rfl,e6 2 _ rfl,e6 3 _ rfl,e6 4 _ rfl,e4,e5,e7⟩
section
variable {H:Type} {enc:TypeId×Value->H} {w:World} {base:Nat} {held:Bool} {r:Reach} {b0:Nat}
end
def bO (l:List ag):List UInt8:=Nh l.length 2++(l.map bk).flatten
def iL (l:List ag):List UInt8:=Nh (bO l).length 4++(Nh (Qh (bO l)) 4++bO l)
theorem xx {r:ag} (h:jF r):(bk r).length<=200:=by
 obtain⟨_,_,_,_,nm,_,_,rf⟩:=h
 have:=rf.1
 unfold bk
 rw[Mc,Mc,Mc,aq]
 split<;>split<;>split<;>simp[aq,fN,Br]<;>omega
theorem sg (h:∀r∈l,jF r):(l.map bk).flatten.length<=200*l.length:=by
 induction l with
 |nil=>simp
 |cons a t ih=>
  have h1:=xx (h a Mg)
  have h2:=ih (fun r hr=>h r (MP _ hr))
  rw[List.map_cons,List.flatten_cons,Mc,Mz];omega
theorem Df (l:List ag) (k:Nat) (h:k<l.length):((l.take (k+1)).map bk).flatten=((l.take k).map bk).flatten++bk l[k]:=by
 rw[Mf h,Ms,MR]
 congr 1
 simp
end Go.Proofs.YtdkimcnlhmhpgaaGreat

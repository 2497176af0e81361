/- -/
import Derived.Test.YtdkimcnlhmhpgaaGreatM18
set_option maxHeartbeats 32000000
set_option maxRecDepth 100000
namespace Go.Proofs.YtdkimcnlhmhpgaaGreat
open Go.Proofs.Tryz Go.RowKit
def bQ (l:List (Int×Int)):List UInt8:=(l.map fun r=>NT r.1.toNat 2++NT r.2.toNat 2).flatten
theorem qO (l:List (Int×Int)) (k:Nat) (h:k<l.length):bQ (l.take (k+1))=bQ (l.take k)++(NT l[k].1.toNat 2++NT l[k].2.toNat 2):=by
 unfold bQ;rw[MI h,M0,Nv]
 congr 1
theorem nO (l:List (Int×Int)):(bQ l).length=4*l.length:=by
 induction l with
 |nil=>rfl
 |cons a l ih=>simp only[bQ,List.map_cons,List.flatten_cons,tN,ak,Nj]at*;omega
def cq (l:List (Int×Int)):List UInt8:=NT l.length 2++bQ l
def OD (r:ag):List UInt8:=NT r.kind.toNat 1++((if S4 r.kind then NT r.id.toNat 4 else[])++((if Px r.kind then dj r.name else[])++(if Oj r.kind then NT r.size.toNat 4++cq r.runs else[])))
theorem adA {A:Prop}(h:A:=by
 have:IntKind.u64.wrap (n:Int)=(n:Int)%18446744073709551616:=c!
 rw[this];omega):A:=h
theorem bC (n:Nat) (h:n<18446744073709551616):IntKind.u64.wrap (n:Int)=n:=by
 exact adA
theorem rK (n:Nat) (h:n<4294967296):IntKind.u32.wrap (n:Int)=n:=by
 have:IntKind.u32.wrap (n:Int)=(n:Int)%4294967296:=c!
 rw[this];omega
theorem nN (n:Nat) (h:n<65536):IntKind.u16.wrap (n:Int)=n:=by
 have:IntKind.u16.wrap (n:Int)=(n:Int)%65536:=c!
 rw[this];omega
theorem qu (n:Nat) (w:World) (hn:n<18446744073709551616):
  am! 214 #[.int .u64 n,(1:Int)] w fun e w'=>e=.returned (.string (bs (NT n 1)))/\NP [] w w':=ry 1 n w hn _a
theorem Bh (n:Nat) (w:World) (hn:n<18446744073709551616):
  am! 214 #[.int .u64 n,(2:Int)] w fun e w'=>e=.returned (.string (bs (NT n 2)))/\NP [] w w':=ry 2 n w hn _a
theorem fR (n:Nat) (w:World) (hn:n<18446744073709551616):
  am! 214 #[.int .u64 n,(4:Int)] w fun e w'=>e=.returned (.string (bs (NT n 4)))/\NP [] w w':=ry 4 n w hn _a
def dL (l:List (Int×Int)):Prop:=l.length<=16/\∀k (hk:k<l.length),0<=l[k].1/\l[k].1<65536/\0<=l[k].2/\l[k].2<65536
structure gB (r:ag):Prop where
 k1:1<=r.kind
 k6:r.kind<=6
 i0:0<=r.id
 i1:r.id<=4294967294
 nm:r.name.length<=48
 s0:0<=r.size
 s1:r.size<=1048576
 rf:dL r.runs
theorem Ht {l:List (Int×Int)} {n:Int} (h:iD l n=true):0<=n/\n<=1048576/\dL l:=by
 unfold iD at h
 simp only[No,decide_eq_true_eq]at h
 have⟨h1,h2,h3,h4,_⟩:=h
 refine⟨h2,h3,h1,fun k hk=>?_⟩
 have:=dN.1 (fJ (MG _) h4 k hk)
 omega
theorem jU {r:ag} (h:az r=true) (hf:r.fits):gB r:=by
 unfold az gq at h
 simp only[No,decide_eq_true_eq]at h
 have⟨h1,h2,h3,h4,h5,h6,h7⟩:=h
 have⟨p1,p2,p3⟩:=Ht h7
 have⟨i0,_⟩:=eG hf.2.1
 have hk:1<=r.kind/\r.kind<=6:=by
  unfold S4 Px at h1
  simp only[Bool.or_eq_true,beq_iff_eq]at h1
  omega
 exact⟨hk.1,hk.2,i0,h3,h5,p1,p2,p3⟩
theorem qj (v:Value) (l:List (Int×Int)) (lo hi:Nat) (w:World) (h:af w v l lo hi) (hl:dL l):
  am! 265 #[v] w fun e w'=>e=.returned (.string (bs (cq l)))/\NP [] w w':=by
 have⟨hl,hlo⟩:=hl
 obtain⟨p,c,rfl⟩:=h.shape
 have w5:=bC l.length _a
 have h5:=fun W=>Bh l.length W _a
 have⟨H5,H,Ss⟩:=gg! h5 h hlo
 have Tg:(l.length:Int)<=16:=_a
 clear h5 h hlo
 go_enter func265,ntmps265
 go_wp2_with fail
 refine(H5.out _).mono ?_;rintro e w1 ⟨rfl,OP⟩
 clear w5
 go_wp2_with fail
 go_loopw [3,4] (fun t i wr=>∃k:Nat,k<=l.length/\i=(k:Int)/\t=.string (bs (NT l.length 2++bQ (l.take k)))/\NP [] w wr) (fun _ i _=>l.length-(intOf i).toNat)
 case atStart=>exact⟨0,_a,rfl,by simp[bQ],OP⟩
 case round=>
  obtain⟨k,hk,rfl,rfl,hK⟩:=hrel
  by_cases NV:k<l.length
  .obtain⟨b',off,rfl,c0,c1,UR,hlc,PT⟩:=(H.out.kept0 hK).at_ k NV
   have Tj:=Ss.out k NV
   have Vw:=qO l k NV
   have⟨n1,QX⟩:=MM Tj.1
   have⟨n2,QU⟩:=MM Tj.2.2.1
   rw[QX]at c0 Vw Tj
   rw[QU]at c1 Vw Tj
   rw[Nw,Nw]at Vw
   have Tz:Hid (bs (NT l.length 2++bQ (l.take k))++bs (NT n1 2)++bs (NT n2 2)=bs (NT l.length 2++bQ (l.take (k+1)))):=by
    show _=_;rw[aw,aw,Vw];simp only[MW]
   have e1:=bC n1 _a
   have e2:=bC n2 _a
   have y1:(bs (NT n1 2)).size=2:=_q
   have y2:(bs (NT n2 2)).size=2:=_q
   have y0:(bs (NT l.length 2++bQ (l.take k))).size<=1000:=by rw[NQ,tN,ak,nO,MO];omega
   have hh:=fun(n:Nat) W (hn:n<18446744073709551616) (hkx:NP [] wr W)=>(Bh n W hn).mono fun e w' hh=>(show e=.returned (.string (bs (NT n 2)))/\NP [] wr w'/\(w'.cell? (aa b' (off+k*2))=(n1:Int)/\w'.cell? (aa b' (off+k*2+1))=(n2:Int))from⟨hh.1,hkx.trans hh.2,by
    have Xm:=hkx.trans hh.2
    refine⟨?_,?_⟩
    .rw[Xm.cell UR _b];exact c0
    .rw[Xm.cell UR _b];exact c1⟩)
   have g1:=fun W hk=>hh n1 W _a hk
   have g2:=fun W hk=>hh n2 W _a hk
   have⟨G1,G2⟩:=_f g1 g2
   have i1:(k:Int)<l.length:=_a
   have Of:=tK NV
   clear Vw QX QU hh g1 g2
   generalize bs (NT l.length 2++bQ (l.take k))=T0 at*
   generalize hT1:bs (NT l.length 2++bQ (l.take (k+1)))=T1 at*
   have Wf:=tK hT1
   clear hT1
   generalize bs (NT n1 2)=M1 at*
   generalize bs (NT n2 2)=M2 at*
   have yy:(T0++M1).size=T0.size+M1.size:=ByteArray.size_append
   have qc1:∀W,(Op.stringOp .add T0 M1).run prog W=.ok (.string (T0++M1)) W:=fun W=>by first|(simp[Op.stringOp];omega)
   have qc2:∀W,(Op.stringOp .add (T0++M1) M2).run prog W=.ok (.string (T0++M1++M2)) W:=fun W=>by first|(simp[Op.stringOp];omega)
   clear yy
   go_wp2_with fail
   go_region_held3 (fun w'=>w'.cell? (aa b' (off+k*2))=(n1:Int)/\w'.cell? (aa b' (off+k*2+1))=(n2:Int)) (go_keep)
    (first
     |(go_at_call 214;((with_reducible refine(G1.out _ ?_).mono ?_));(first|exact NP.refl _ _|exact(NP.refl _ _).drew|exact(NP.refl _ _).drewN _);rintro e w1 ⟨rfl,Sd,q0,q1⟩)
     |(go_at_call 214;((with_reducible refine(G2.out _ ?_).mono ?_));(first|exact Sd|exact Sd.drew|exact Sd.drewN _);rintro e w1 ⟨rfl,kk2,q0,q1⟩))
   all_goals go_wp2_with fail
   all_goals go_roundw
   all_goals first
    |exact⟨k+1,Of.out,_j,by rw[Wf.out,<-Tz.out],hK.trans t!⟩
    |(have hh:=Of.out;simp[intOf];omega)
  .obtain rfl:k=l.length:=_a
   rw[MU]
   go_wp2_with fail
   go_ret
   exact⟨rfl,hK⟩
theorem df (l:List UInt8):(dj l).length=4+l.length:=by unfold dj;rw[tN,ak]
theorem uf {A:Prop} (h:A:=by
 go_enter func101,ntmps101
 go_wp2_with fail
 refine(HJ.out _).mono ?_;rintro e w' ⟨rfl,rfl⟩
 go_wp2_with fail
 refine(H8.out _).mono ?_;rintro e w1 ⟨rfl,k1⟩
 have o1:=k1.own o0 _b
 have⟨a0,a1,a2,a3,a4⟩:=o1.c5
 go_wp2_with fail
 refine(S5.out _).mono ?_;rintro e w2 ⟨rfl,k2⟩
 have oP:=k2.own o1 _b
 have⟨b0,b1,b2,b3,b4⟩:=oP.c5
 have kP:=(k0.trans k1).trans k2
 clear a0 a1 a2 a3 a4 o1 o0 HJ H8 S5
 go_wp2_with fail
 generalize hT0:M8++M9=T0 at*
 have t0:T0.size<=100:=by rw[YL.out,NQ];exact Rf.out
 clear hT0
 have aba:Hid (T0++(bs (NT z 4)++bs (NT runs.length 2))=bs (PR++(NT z 4++(NT runs.length 2++bQ (runs.take 0))))):=tK (by
  rw[YL.out,aw,aw]
  simp[bQ])
 have y1:(bs (NT z 4)).size=4:=_q
 have y2:(bs (NT runs.length 2)).size=2:=_q
 have hz:=fun W=>eU z W _a
 have hn:=fun W=>mM runs.length W _a
 have⟨HZ,HN⟩:=_f hz hn
 have e1:=rK z _a
 have e2:=nN runs.length _a
 clear hz hn
 generalize bs (NT z 4)=M1 at*
 generalize bs (NT runs.length 2)=M2 at*
 have yy:(M1++M2).size=M1.size+M2.size:=ByteArray.size_append
 have qc1:∀W,(Op.stringOp .add M1 M2).run prog W=.ok (.string (M1++M2)) W:=fun W=>by first|(simp[Op.stringOp];omega)
 have qc2:∀W,(Op.stringOp .add T0 (M1++M2)).run prog W=.ok (.string (T0++(M1++M2))) W:=fun W=>by first|(simp[Op.stringOp];omega)
 clear yy
 have kk:=kP.drew
 have ob:=oP.drew
 go_region_held3 (fun W=>W.cell? ⟨w.heap.size,3,none⟩=some (.int .i64 (z:Int))/\W.cell? ⟨w.heap.size,4,none⟩=some (.slice p runs.length c)) (go_keep)
  (first
   |(go_at_call 102;((with_reducible refine(HZ.out _).mono ?_));rintro e w' ⟨rfl,k'⟩;have kk:=kk.trans k';have ob:=k'.own ob _b;have⟨c0,c1,c2,c3,c4⟩:=ob.c5)
   |(go_at_call 100;((with_reducible refine(HN.out _).mono ?_));rintro e w' ⟨rfl,k'⟩;have kk:=kk.trans k';have ob:=k'.own ob _b;have⟨c0,c1,c2,c3,c4⟩:=ob.c5))
 all_goals
  clear qc1 qc2 e1 e2
  have hs:=(show Hid (w'.heap.size=w'.heap.size)from rfl)
  go_wp2_with fail
  go_loopw [6,48] (fun t ii wr=>∃k:Nat,k<=runs.length/\ii=.int .i64 k/\t=.string (bs (PR++(NT z 4++(NT runs.length 2++bQ (runs.take k)))))/\NP [] w wr) (fun _ ii _=>runs.length-(intOf ii).toNat)
  case atStart=>exact⟨0,_a,rfl,congrArg Value.string aba.out,kk⟩
  case round=>
   obtain⟨k,hk,rfl,rfl,hK⟩:=hrel
   by_cases NV:k<runs.length
   .obtain⟨b',off,rfl,g0,g1,UR,hlc,PT⟩:=(H.out.kept0 hK).at_ k NV
    have Tj:=Ss.out k NV
    have Vw:=qO runs k NV
    have⟨n1,QX⟩:=MM Tj.1
    have⟨n2,QU⟩:=MM Tj.2.2.1
    rw[QX]at g0 Vw Tj
    rw[QU]at g1 Vw Tj
    rw[Nw,Nw]at Vw
    have Tz:Hid (bs (PR++(NT z 4++(NT runs.length 2++bQ (runs.take k))))++(bs (NT n1 2)++bs (NT n2 2))=bs (PR++(NT z 4++(NT runs.length 2++bQ (runs.take (k+1)))))):=by
     show _=_;rw[aw,aw,Vw];simp only[MW]
    have e1:=nN n1 _a
    have e2:=nN n2 _a
    have y1:(bs (NT n1 2)).size=2:=_q
    have y2:(bs (NT n2 2)).size=2:=_q
    have y0:(bs (PR++(NT z 4++(NT runs.length 2++bQ (runs.take k))))).size<=1000:=by rw[NQ];simp[ak,nO];have:=Rf.out;omega
    have h1:=fun W=>mM n1 W _a
    have h2:=fun W=>mM n2 W _a
    have⟨G1,G2⟩:=_f h1 h2
    have i1:(k:Int)<runs.length:=_a
    have Of:=tK NV
    have oR:=ae.new wr #[.int .i64 (n1:Int),.int .i64 (n2:Int)] 128
    have kR:NP [] w (wr.alloc (.cells #[.int .i64 (n1:Int),.int .i64 (n2:Int)] 128)):=hK.alloc _
    clear Vw QX QU h1 h2
    generalize bs (PR++(NT z 4++(NT runs.length 2++bQ (runs.take k))))=S0 at*
    generalize hT1:bs (PR++(NT z 4++(NT runs.length 2++bQ (runs.take (k+1)))))=T1 at*
    have Wf:=tK hT1
    clear hT1
    generalize bs (NT n1 2)=N1 at*
    generalize bs (NT n2 2)=N2 at*
    have yy:(N1++N2).size=N1.size+N2.size:=ByteArray.size_append
    have qc1:∀W,(Op.stringOp .add N1 N2).run prog W=.ok (.string (N1++N2)) W:=fun W=>by first|(simp[Op.stringOp];omega)
    have qc2:∀W,(Op.stringOp .add S0 (N1++N2)).run prog W=.ok (.string (S0++(N1++N2))) W:=fun W=>by first|(simp[Op.stringOp];omega)
    clear yy
    go_wp2_with fail
    have kq:=kR.drew
    have oq:=oR.drew
    go_region_held3 (fun W=>W.cell? ⟨wr.heap.size,0,none⟩=some (.int .i64 (n1:Int))/\W.cell? ⟨wr.heap.size,1,none⟩=some (.int .i64 (n2:Int))) (first|go_keep|((have qq:=oq.c2;exact qq)))
     (first
      |(go_at_call 100;((with_reducible refine(G1.out _).mono ?_));rintro e w' ⟨rfl,k'⟩;have kq:=kq.trans k';have oq:=k'.own oq _b;have⟨x0,x1⟩:=oq.c2)
      |(go_at_call 100;((with_reducible refine(G2.out _).mono ?_));rintro e w' ⟨rfl,k'⟩;have kq:=kq.trans k';have oq:=k'.own oq _b;have⟨x0,x1⟩:=oq.c2))
    all_goals
     go_wp2_with fail
     go_roundw
     case rel=>exact⟨k+1,Of.out,_j,by rw[Wf.out,<-Tz.out],kq⟩
     case measure=>(have hh:=Of.out;simp[intOf];omega)
   .obtain rfl:k=runs.length:=_a
    rw[MU]
    have Oy:Hid (bs (PR++(NT z 4++(NT runs.length 2++bQ runs)))=bs RL):=tK (by
     rw[RE.out];unfold cq;simp only[MW])
    go_wp2_with fail
    go_ret
    exact⟨by rw[<-Oy.out];rfl,hK⟩):A:=h
theorem xC {A:Prop} (h:A:=by
 go_enter func101,ntmps101
 go_wp2_with fail
 refine(HJ.out _).mono ?_;rintro e w' ⟨rfl,rfl⟩
 go_wp2_with fail
 refine(H8.out _).mono ?_;rintro e w1 ⟨rfl,k1⟩
 have o1:=k1.own o0 _b
 have⟨a0,a1,a2,a3,a4⟩:=o1.c5
 go_wp2_with fail
 refine(S5.out _).mono ?_;rintro e w2 ⟨rfl,k2⟩
 have oP:=k2.own o1 _b
 have⟨b0,b1,b2,b3,b4⟩:=oP.c5
 have kP:=(k0.trans k1).trans k2
 clear a0 a1 a2 a3 a4 o1 o0 HJ H8 S5
 go_wp2_with fail
 go_ret
 exact⟨by rw[RE.out,YL.out];rfl,kP⟩):A:=h
theorem Cq (i z:Nat) (name:List UInt8) (runs:List (Int×Int)):OD ⟨1,i,name,z,runs⟩=NT 1 1++(NT i 4++(NT z 4++cq runs)):=by
 unfold OD
 rw[show S4 (ag.mk 1 i name z runs).kind=true from rfl,show Px (ag.mk 1 i name z runs).kind=false from rfl,show Oj (ag.mk 1 i name z runs).kind=true from rfl]
 simp
theorem FS (i z:Nat) (name:List UInt8) (runs:List (Int×Int)) (v:Value) (lo hi:Nat) (w:World) (h:af w v runs lo hi) (PC:i<4294967296) (Qc:z<=1048576) (_:name.length<=48) (hrf:dL runs):
  am! 101 #[.agg #[(1:Int),.int .u32 (i:Int),name,(z:Int),v]] w fun e w'=>e=.returned (.string (bs (OD ⟨1,i,name,z,runs⟩)))/\NP [] w w':=by
 obtain⟨p,c,rfl⟩:=h.shape
 have⟨RV,hlo⟩:=hrf
 have hj:∀W,am! 169 #[(1:Int)] W fun e w'=>e=.returned (.tuple #[true,false,true])/\W=w':=fun W=>pJ 1 W
 have h8:∀W,am! 174 #[.int .u8 1] W fun e w'=>e=.returned (.string (bs (NT 1 1)))/\NP [] W w':=fun W=>mL 1 W _d
 have QO:=fun W=>eU i W PC
 skip
 have o0:=ae.new w #[(1:Int),.int .u32 (i:Int),name,(z:Int),(p,runs.length,c)] 102
 have k0:NP [] w (w.alloc (.cells #[(1:Int),.int .u32 (i:Int),name,(z:Int),(p,runs.length,c)] 102)):=(NP.refl _ _).alloc _
 have Rg:=Cq i z name runs
 have s1:(bs (NT 1 1)).size=1:=_q
 have s2:(bs (NT i 4)).size<=60:=_W
 have Tg:(runs.length:Int)<=16:=_a
 have⟨HJ,H8,S5,H,Ss⟩:=gi! hj h8 QO h hlo
 clear hj h8 QO h hlo
 obtain⟨PR,hPR⟩:∃x,x=NT 1 1++NT i 4:=⟨_,rfl⟩
 have RE:Hid (OD ⟨1,i,name,z,runs⟩=PR++(NT z 4++cq runs)):=tK Q!
 have Rf:Hid (PR.length<=100):=tK _A
 have YL:Hid (bs (NT 1 1)++bs (NT i 4)=bs PR):=tK ad!
 clear Rg hPR
 generalize bs (NT 1 1)=M8 at*
 generalize bs (NT i 4)=M9 at*
 generalize OD ⟨1,i,name,z,runs⟩=RL at*
 exact uf
theorem Cp (i z:Nat) (name:List UInt8) (runs:List (Int×Int)):OD ⟨2,i,name,z,runs⟩=NT 2 1++(NT i 4++(NT z 4++cq runs)):=by
 unfold OD
 rw[show S4 (ag.mk 2 i name z runs).kind=true from rfl,show Px (ag.mk 2 i name z runs).kind=false from rfl,show Oj (ag.mk 2 i name z runs).kind=true from rfl]
 simp
theorem FR (i z:Nat) (name:List UInt8) (runs:List (Int×Int)) (v:Value) (lo hi:Nat) (w:World) (h:af w v runs lo hi) (PC:i<4294967296) (Qc:z<=1048576) (_:name.length<=48) (hrf:dL runs):
  am! 101 #[.agg #[(2:Int),.int .u32 (i:Int),name,(z:Int),v]] w fun e w'=>e=.returned (.string (bs (OD ⟨2,i,name,z,runs⟩)))/\NP [] w w':=by
 obtain⟨p,c,rfl⟩:=h.shape
 have⟨RV,hlo⟩:=hrf
 have hj:∀W,am! 169 #[(2:Int)] W fun e w'=>e=.returned (.tuple #[true,false,true])/\W=w':=fun W=>pJ 2 W
 have h8:∀W,am! 174 #[.int .u8 2] W fun e w'=>e=.returned (.string (bs (NT 2 1)))/\NP [] W w':=fun W=>mL 2 W _d
 have QO:=fun W=>eU i W PC
 skip
 have o0:=ae.new w #[(2:Int),.int .u32 (i:Int),name,(z:Int),(p,runs.length,c)] 102
 have k0:NP [] w (w.alloc (.cells #[(2:Int),.int .u32 (i:Int),name,(z:Int),(p,runs.length,c)] 102)):=(NP.refl _ _).alloc _
 have Rg:=Cp i z name runs
 have s1:(bs (NT 2 1)).size=1:=_q
 have s2:(bs (NT i 4)).size<=60:=_W
 have Tg:(runs.length:Int)<=16:=_a
 have⟨HJ,H8,S5,H,Ss⟩:=gi! hj h8 QO h hlo
 clear hj h8 QO h hlo
 obtain⟨PR,hPR⟩:∃x,x=NT 2 1++NT i 4:=⟨_,rfl⟩
 have RE:Hid (OD ⟨2,i,name,z,runs⟩=PR++(NT z 4++cq runs)):=tK Q!
 have Rf:Hid (PR.length<=100):=tK _A
 have YL:Hid (bs (NT 2 1)++bs (NT i 4)=bs PR):=tK ad!
 clear Rg hPR
 generalize bs (NT 2 1)=M8 at*
 generalize bs (NT i 4)=M9 at*
 generalize OD ⟨2,i,name,z,runs⟩=RL at*
 exact uf
theorem Co (i z:Nat) (name:List UInt8) (runs:List (Int×Int)):OD ⟨3,i,name,z,runs⟩=NT 3 1++(dj name++(NT z 4++cq runs)):=by
 unfold OD
 rw[show S4 (ag.mk 3 i name z runs).kind=false from rfl,show Px (ag.mk 3 i name z runs).kind=true from rfl,show Oj (ag.mk 3 i name z runs).kind=true from rfl]
 simp
theorem FQ (i z:Nat) (name:List UInt8) (runs:List (Int×Int)) (v:Value) (lo hi:Nat) (w:World) (h:af w v runs lo hi) (_:i<4294967296) (Qc:z<=1048576) (Rb:name.length<=48) (hrf:dL runs):
  am! 101 #[.agg #[(3:Int),.int .u32 (i:Int),name,(z:Int),v]] w fun e w'=>e=.returned (.string (bs (OD ⟨3,i,name,z,runs⟩)))/\NP [] w w':=by
 obtain⟨p,c,rfl⟩:=h.shape
 have⟨RV,hlo⟩:=hrf
 have hj:∀W,am! 169 #[(3:Int)] W fun e w'=>e=.returned (.tuple #[false,true,true])/\W=w':=fun W=>pJ 3 W
 have h8:∀W,am! 174 #[.int .u8 3] W fun e w'=>e=.returned (.string (bs (NT 3 1)))/\NP [] W w':=fun W=>mL 3 W _d
 have QO:=fun W=>xl (bs name) W P!
 rw[cC]at QO
 have o0:=ae.new w #[(3:Int),.int .u32 (i:Int),name,(z:Int),(p,runs.length,c)] 102
 have k0:NP [] w (w.alloc (.cells #[(3:Int),.int .u32 (i:Int),name,(z:Int),(p,runs.length,c)] 102)):=(NP.refl _ _).alloc _
 have Rg:=Co i z name runs
 have s1:(bs (NT 3 1)).size=1:=_q
 have s2:(bs (dj name)).size<=60:=by rw[NQ];rw[df];omega
 have Tg:(runs.length:Int)<=16:=_a
 have⟨HJ,H8,S5,H,Ss⟩:=gi! hj h8 QO h hlo
 clear hj h8 QO h hlo
 obtain⟨PR,hPR⟩:∃x,x=NT 3 1++dj name:=⟨_,rfl⟩
 have RE:Hid (OD ⟨3,i,name,z,runs⟩=PR++(NT z 4++cq runs)):=tK Q!
 have Rf:Hid (PR.length<=100):=tK _A
 have YL:Hid (bs (NT 3 1)++bs (dj name)=bs PR):=tK ad!
 clear Rg hPR
 generalize bs (NT 3 1)=M8 at*
 generalize bs (dj name)=M9 at*
 generalize OD ⟨3,i,name,z,runs⟩=RL at*
 exact uf
theorem Cn (i z:Nat) (name:List UInt8) (runs:List (Int×Int)):OD ⟨4,i,name,z,runs⟩=NT 4 1++(NT i 4):=by
 unfold OD
 rw[show S4 (ag.mk 4 i name z runs).kind=true from rfl,show Px (ag.mk 4 i name z runs).kind=false from rfl,show Oj (ag.mk 4 i name z runs).kind=false from rfl]
 simp
theorem FP (i z:Nat) (name:List UInt8) (runs:List (Int×Int)) (v:Value) (lo hi:Nat) (w:World) (h:af w v runs lo hi) (PC:i<4294967296) (_:z<=1048576) (_:name.length<=48) (hrf:dL runs):
  am! 101 #[.agg #[(4:Int),.int .u32 (i:Int),name,(z:Int),v]] w fun e w'=>e=.returned (.string (bs (OD ⟨4,i,name,z,runs⟩)))/\NP [] w w':=by
 obtain⟨p,c,rfl⟩:=h.shape
 have⟨RV,hlo⟩:=hrf
 have hj:∀W,am! 169 #[(4:Int)] W fun e w'=>e=.returned (.tuple #[true,false,false])/\W=w':=fun W=>pJ 4 W
 have h8:∀W,am! 174 #[.int .u8 4] W fun e w'=>e=.returned (.string (bs (NT 4 1)))/\NP [] W w':=fun W=>mL 4 W _d
 have QO:=fun W=>eU i W PC
 skip
 have o0:=ae.new w #[(4:Int),.int .u32 (i:Int),name,(z:Int),(p,runs.length,c)] 102
 have k0:NP [] w (w.alloc (.cells #[(4:Int),.int .u32 (i:Int),name,(z:Int),(p,runs.length,c)] 102)):=(NP.refl _ _).alloc _
 have Rg:=Cn i z name runs
 have s1:(bs (NT 4 1)).size=1:=_q
 have s2:(bs (NT i 4)).size<=60:=_W
 have Tg:(runs.length:Int)<=16:=_a
 have⟨HJ,H8,S5,H,Ss⟩:=gi! hj h8 QO h hlo
 clear hj h8 QO h hlo
 obtain⟨PR,hPR⟩:∃x,x=NT 4 1++NT i 4:=⟨_,rfl⟩
 have RE:Hid (OD ⟨4,i,name,z,runs⟩=PR):=tK (by rw[hPR,Rg])
 have Rf:Hid (PR.length<=100):=tK _A
 have YL:Hid (bs (NT 4 1)++bs (NT i 4)=bs PR):=tK ad!
 clear Rg hPR
 generalize bs (NT 4 1)=M8 at*
 generalize bs (NT i 4)=M9 at*
 generalize OD ⟨4,i,name,z,runs⟩=RL at*
 exact xC
theorem Cm (i z:Nat) (name:List UInt8) (runs:List (Int×Int)):OD ⟨5,i,name,z,runs⟩=NT 5 1++(NT i 4):=by
 unfold OD
 rw[show S4 (ag.mk 5 i name z runs).kind=true from rfl,show Px (ag.mk 5 i name z runs).kind=false from rfl,show Oj (ag.mk 5 i name z runs).kind=false from rfl]
 simp
theorem FO (i z:Nat) (name:List UInt8) (runs:List (Int×Int)) (v:Value) (lo hi:Nat) (w:World) (h:af w v runs lo hi) (PC:i<4294967296) (_:z<=1048576) (_:name.length<=48) (hrf:dL runs):
  am! 101 #[.agg #[(5:Int),.int .u32 (i:Int),name,(z:Int),v]] w fun e w'=>e=.returned (.string (bs (OD ⟨5,i,name,z,runs⟩)))/\NP [] w w':=by
 obtain⟨p,c,rfl⟩:=h.shape
 have⟨RV,hlo⟩:=hrf
 have hj:∀W,am! 169 #[(5:Int)] W fun e w'=>e=.returned (.tuple #[true,false,false])/\W=w':=fun W=>pJ 5 W
 have h8:∀W,am! 174 #[.int .u8 5] W fun e w'=>e=.returned (.string (bs (NT 5 1)))/\NP [] W w':=fun W=>mL 5 W _d
 have QO:=fun W=>eU i W PC
 skip
 have o0:=ae.new w #[(5:Int),.int .u32 (i:Int),name,(z:Int),(p,runs.length,c)] 102
 have k0:NP [] w (w.alloc (.cells #[(5:Int),.int .u32 (i:Int),name,(z:Int),(p,runs.length,c)] 102)):=(NP.refl _ _).alloc _
 have Rg:=Cm i z name runs
 have s1:(bs (NT 5 1)).size=1:=_q
 have s2:(bs (NT i 4)).size<=60:=_W
 have Tg:(runs.length:Int)<=16:=_a
 have⟨HJ,H8,S5,H,Ss⟩:=gi! hj h8 QO h hlo
 clear hj h8 QO h hlo
 obtain⟨PR,hPR⟩:∃x,x=NT 5 1++NT i 4:=⟨_,rfl⟩
 have RE:Hid (OD ⟨5,i,name,z,runs⟩=PR):=tK (by rw[hPR,Rg])
 have Rf:Hid (PR.length<=100):=tK _A
 have YL:Hid (bs (NT 5 1)++bs (NT i 4)=bs PR):=tK ad!
 clear Rg hPR
 generalize bs (NT 5 1)=M8 at*
 generalize bs (NT i 4)=M9 at*
 generalize OD ⟨5,i,name,z,runs⟩=RL at*
 exact xC
theorem Cl (i z:Nat) (name:List UInt8) (runs:List (Int×Int)):OD ⟨6,i,name,z,runs⟩=NT 6 1++(dj name):=by
 unfold OD
 rw[show S4 (ag.mk 6 i name z runs).kind=false from rfl,show Px (ag.mk 6 i name z runs).kind=true from rfl,show Oj (ag.mk 6 i name z runs).kind=false from rfl]
 simp
theorem FN (i z:Nat) (name:List UInt8) (runs:List (Int×Int)) (v:Value) (lo hi:Nat) (w:World) (h:af w v runs lo hi) (_:i<4294967296) (_:z<=1048576) (Rb:name.length<=48) (hrf:dL runs):
  am! 101 #[.agg #[(6:Int),.int .u32 (i:Int),name,(z:Int),v]] w fun e w'=>e=.returned (.string (bs (OD ⟨6,i,name,z,runs⟩)))/\NP [] w w':=by
 obtain⟨p,c,rfl⟩:=h.shape
 have⟨RV,hlo⟩:=hrf
 have hj:∀W,am! 169 #[(6:Int)] W fun e w'=>e=.returned (.tuple #[false,true,false])/\W=w':=fun W=>pJ 6 W
 have h8:∀W,am! 174 #[.int .u8 6] W fun e w'=>e=.returned (.string (bs (NT 6 1)))/\NP [] W w':=fun W=>mL 6 W _d
 have QO:=fun W=>xl (bs name) W P!
 rw[cC]at QO
 have o0:=ae.new w #[(6:Int),.int .u32 (i:Int),name,(z:Int),(p,runs.length,c)] 102
 have k0:NP [] w (w.alloc (.cells #[(6:Int),.int .u32 (i:Int),name,(z:Int),(p,runs.length,c)] 102)):=(NP.refl _ _).alloc _
 have Rg:=Cl i z name runs
 have s1:(bs (NT 6 1)).size=1:=_q
 have s2:(bs (dj name)).size<=60:=by rw[NQ];rw[df];omega
 have Tg:(runs.length:Int)<=16:=_a
 have⟨HJ,H8,S5,H,Ss⟩:=gi! hj h8 QO h hlo
 clear hj h8 QO h hlo
 obtain⟨PR,hPR⟩:∃x,x=NT 6 1++dj name:=⟨_,rfl⟩
 have RE:Hid (OD ⟨6,i,name,z,runs⟩=PR):=tK (by rw[hPR,Rg])
 have Rf:Hid (PR.length<=100):=tK _A
 have YL:Hid (bs (NT 6 1)++bs (dj name)=bs PR):=tK ad!
 clear Rg hPR
 generalize bs (NT 6 1)=M8 at*
 generalize bs (dj name)=M9 at*
 generalize OD ⟨6,i,name,z,runs⟩=RL at*
 exact xC
theorem JX (r:ag) (v:Value) (lo hi:Nat) (w:World) (h:af w v r.runs lo hi) (Pf:gB r):
  am! 101 #[.agg (r.cells v)] w fun e w'=>e=.returned (.string (bs (OD r)))/\NP [] w w':=by
 have⟨k,id,name,size,runs⟩:=r
 have⟨h1,h6,i0,i1,nm,s0,s1,rf⟩:=Pf
 simp only at h h1 h6 i0 i1 nm s0 s1 rf
 obtain⟨i,rfl⟩:=MM i0
 obtain⟨z,rfl⟩:=MM s0
 unfold ag.cells
 simp only
 rcases(by omega:k=1\/k=2\/k=3\/k=4\/k=5\/k=6)with rfl|rfl|rfl|rfl|rfl|rfl
 .exact FS i z name runs v lo hi w h _a _a nm rf
 .exact FR i z name runs v lo hi w h _a _a nm rf
 .exact FQ i z name runs v lo hi w h _a _a nm rf
 .exact FP i z name runs v lo hi w h _a _a nm rf
 .exact FO i z name runs v lo hi w h _a _a nm rf
 .exact FN i z name runs v lo hi w h _a _a nm rf
theorem gm (l:List (Int×Int)):(cq l).length=2+4*l.length:=by unfold cq;rw[tN,ak,nO]
theorem JB (i z:Nat) (name:List UInt8) (runs:List (Int×Int)) (v:Value) (lo hi:Nat) (w:World) (h:af w v runs lo hi) (PC:i<4294967296) (Qc:z<=1048576) (_:name.length<=48) (hrf:dL runs):
  am! 219 #[.agg #[(1:Int),.int .u32 (i:Int),name,(z:Int),v]] w fun e w'=>e=.returned (.string (bs (OD ⟨1,i,name,z,runs⟩)))/\NP [] w w':=by
 obtain⟨p,c,rfl⟩:=h.shape
 have RV:=hrf.1
 have hj:∀W,am! 263 #[(1:Int)] W fun e w'=>e=.returned (.tuple #[true,false,true])/\W=w':=fun W=>pq 1 W
 have h8:∀W,am! 214 #[.int .u64 1,(1:Int)] W fun e w'=>e=.returned (.string (bs (NT 1 1)))/\NP [] W w':=fun W=>qu 1 W _d
 have QO:=fun W=>fR i W _a
 skip
 have hq:=fun W (k:NP [] w W)=>qj _ runs lo hi W (h.kept0 k) hrf
 have hz:=fun W=>fR z W _a
 have o0:=ae.new w #[(1:Int),.int .u32 (i:Int),name,(z:Int),(p,runs.length,c)] 102
 have k0:NP [] w (w.alloc (.cells #[(1:Int),.int .u32 (i:Int),name,(z:Int),(p,runs.length,c)] 102)):=(NP.refl _ _).alloc _
 have Rg:=Cq i z name runs
 have s1:(bs (NT 1 1)).size=1:=_q
 have s2:(bs (NT i 4)).size<=60:=_W
 have s3:(bs (NT z 4)).size=4:=_q
 have s4:(bs (cq runs)).size<=100:=U!
 have⟨RE,HJ,H8,S5,HQ,HZ⟩:=gj! Rg hj h8 QO hq hz
 have e0:=bC i _a
 have e1:=bC z _a
 clear Rg hj h8 QO h hq hz
 go_enter func219,ntmps219
 go_wp2_with fail
 refine(HJ.out _).mono ?_;rintro e w' ⟨rfl,rfl⟩
 go_wp2_with fail
 refine(H8.out _).mono ?_;rintro e w1 ⟨rfl,k1⟩
 have o1:=k1.own o0 _b
 have⟨a0,a1,a2,a3,a4⟩:=o1.c5
 go_wp2_with fail
 refine(S5.out _).mono ?_;rintro e w2 ⟨rfl,k2⟩
 have oP:=k2.own o1 _b
 have⟨b0,b1,b2,b3,b4⟩:=oP.c5
 have kP:=(k0.trans k1).trans k2
 clear a0 a1 a2 a3 a4 o1 o0 HJ H8 S5
 go_wp2_with fail
 generalize hT0:bs (NT 1 1)++bs (NT i 4)=T0 at*
 have HT0:Hid (T0=bs (NT 1 1++NT i 4)):=tK (by rw[<-hT0,aw])
 have t0:T0.size<=100:=D!
 clear hT0
 have Oy:Hid (T0++bs (NT z 4)++bs (cq runs)=bs (OD ⟨1,i,name,z,runs⟩)):=tK (by
  rw[HT0.out,aw,aw,RE.out];simp only[MW])
 generalize bs (NT z 4)=M1 at*
 generalize bs (cq runs)=M2 at*
 have yy:(T0++M1).size=T0.size+M1.size:=ByteArray.size_append
 have qc1:∀W,(Op.stringOp .add T0 M1).run prog W=.ok (.string (T0++M1)) W:=fun W=>by first|(simp[Op.stringOp];omega)
 have qc2:∀W,(Op.stringOp .add (T0++M1) M2).run prog W=.ok (.string (T0++M1++M2)) W:=fun W=>by first|(simp[Op.stringOp];omega)
 clear yy
 have kk:=kP.drew
 have ob:=oP.drew
 go_region_held3 (fun W=>W.cell? (aa w 3)=(z:Int)/\W.cell? (aa w 4)=(p,runs.length,c)) (go_keep)
  (first
   |(go_at_call 214;((with_reducible refine(HZ.out _).mono ?_));rintro e w' ⟨rfl,k'⟩;have kk:=kk.trans k';have ob:=k'.own ob _b;have⟨c0,c1,c2,c3,c4⟩:=ob.c5)
   |(go_at_call 265;((with_reducible refine(HQ.out _ kk).mono ?_));rintro e w' ⟨rfl,k'⟩;have kk:=kk.trans k';have ob:=k'.own ob _b;have⟨c0,c1,c2,c3,c4⟩:=ob.c5))
 all_goals
  go_wp2_with fail
  go_ret
  exact⟨by rw[<-Oy.out];rfl,kk⟩
theorem JA (i z:Nat) (name:List UInt8) (runs:List (Int×Int)) (v:Value) (lo hi:Nat) (w:World) (h:af w v runs lo hi) (PC:i<4294967296) (Qc:z<=1048576) (_:name.length<=48) (hrf:dL runs):
  am! 219 #[.agg #[(2:Int),.int .u32 (i:Int),name,(z:Int),v]] w fun e w'=>e=.returned (.string (bs (OD ⟨2,i,name,z,runs⟩)))/\NP [] w w':=by
 obtain⟨p,c,rfl⟩:=h.shape
 have RV:=hrf.1
 have hj:∀W,am! 263 #[(2:Int)] W fun e w'=>e=.returned (.tuple #[true,false,true])/\W=w':=fun W=>pq 2 W
 have h8:∀W,am! 214 #[.int .u64 2,(1:Int)] W fun e w'=>e=.returned (.string (bs (NT 2 1)))/\NP [] W w':=fun W=>qu 2 W _d
 have QO:=fun W=>fR i W _a
 skip
 have hq:=fun W (k:NP [] w W)=>qj _ runs lo hi W (h.kept0 k) hrf
 have hz:=fun W=>fR z W _a
 have o0:=ae.new w #[(2:Int),.int .u32 (i:Int),name,(z:Int),(p,runs.length,c)] 102
 have k0:NP [] w (w.alloc (.cells #[(2:Int),.int .u32 (i:Int),name,(z:Int),(p,runs.length,c)] 102)):=(NP.refl _ _).alloc _
 have Rg:=Cp i z name runs
 have s1:(bs (NT 2 1)).size=1:=_q
 have s2:(bs (NT i 4)).size<=60:=_W
 have s3:(bs (NT z 4)).size=4:=_q
 have s4:(bs (cq runs)).size<=100:=U!
 have⟨RE,HJ,H8,S5,HQ,HZ⟩:=gj! Rg hj h8 QO hq hz
 have e0:=bC i _a
 have e1:=bC z _a
 clear Rg hj h8 QO h hq hz
 go_enter func219,ntmps219
 go_wp2_with fail
 refine(HJ.out _).mono ?_;rintro e w' ⟨rfl,rfl⟩
 go_wp2_with fail
 refine(H8.out _).mono ?_;rintro e w1 ⟨rfl,k1⟩
 have o1:=k1.own o0 _b
 have⟨a0,a1,a2,a3,a4⟩:=o1.c5
 go_wp2_with fail
 refine(S5.out _).mono ?_;rintro e w2 ⟨rfl,k2⟩
 have oP:=k2.own o1 _b
 have⟨b0,b1,b2,b3,b4⟩:=oP.c5
 have kP:=(k0.trans k1).trans k2
 clear a0 a1 a2 a3 a4 o1 o0 HJ H8 S5
 go_wp2_with fail
 generalize hT0:bs (NT 2 1)++bs (NT i 4)=T0 at*
 have HT0:Hid (T0=bs (NT 2 1++NT i 4)):=tK (by rw[<-hT0,aw])
 have t0:T0.size<=100:=D!
 clear hT0
 have Oy:Hid (T0++bs (NT z 4)++bs (cq runs)=bs (OD ⟨2,i,name,z,runs⟩)):=tK (by
  rw[HT0.out,aw,aw,RE.out];simp only[MW])
 generalize bs (NT z 4)=M1 at*
 generalize bs (cq runs)=M2 at*
 have yy:(T0++M1).size=T0.size+M1.size:=ByteArray.size_append
 have qc1:∀W,(Op.stringOp .add T0 M1).run prog W=.ok (.string (T0++M1)) W:=fun W=>by first|(simp[Op.stringOp];omega)
 have qc2:∀W,(Op.stringOp .add (T0++M1) M2).run prog W=.ok (.string (T0++M1++M2)) W:=fun W=>by first|(simp[Op.stringOp];omega)
 clear yy
 have kk:=kP.drew
 have ob:=oP.drew
 go_region_held3 (fun W=>W.cell? (aa w 3)=(z:Int)/\W.cell? (aa w 4)=(p,runs.length,c)) (go_keep)
  (first
   |(go_at_call 214;((with_reducible refine(HZ.out _).mono ?_));rintro e w' ⟨rfl,k'⟩;have kk:=kk.trans k';have ob:=k'.own ob _b;have⟨c0,c1,c2,c3,c4⟩:=ob.c5)
   |(go_at_call 265;((with_reducible refine(HQ.out _ kk).mono ?_));rintro e w' ⟨rfl,k'⟩;have kk:=kk.trans k';have ob:=k'.own ob _b;have⟨c0,c1,c2,c3,c4⟩:=ob.c5))
 all_goals
  go_wp2_with fail
  go_ret
  exact⟨by rw[<-Oy.out];rfl,kk⟩
theorem Jz (i z:Nat) (name:List UInt8) (runs:List (Int×Int)) (v:Value) (lo hi:Nat) (w:World) (h:af w v runs lo hi) (PC:i<4294967296) (Qc:z<=1048576) (Rb:name.length<=48) (hrf:dL runs):
  am! 219 #[.agg #[(3:Int),.int .u32 (i:Int),name,(z:Int),v]] w fun e w'=>e=.returned (.string (bs (OD ⟨3,i,name,z,runs⟩)))/\NP [] w w':=by
 obtain⟨p,c,rfl⟩:=h.shape
 have RV:=hrf.1
 have hj:∀W,am! 263 #[(3:Int)] W fun e w'=>e=.returned (.tuple #[false,true,true])/\W=w':=fun W=>pq 3 W
 have h8:∀W,am! 214 #[.int .u64 3,(1:Int)] W fun e w'=>e=.returned (.string (bs (NT 3 1)))/\NP [] W w':=fun W=>qu 3 W _d
 have QO:=fun W=>GA (bs name) W P!
 rw[cC]at QO
 have hq:=fun W (k:NP [] w W)=>qj _ runs lo hi W (h.kept0 k) hrf
 have hz:=fun W=>fR z W _a
 have o0:=ae.new w #[(3:Int),.int .u32 (i:Int),name,(z:Int),(p,runs.length,c)] 102
 have k0:NP [] w (w.alloc (.cells #[(3:Int),.int .u32 (i:Int),name,(z:Int),(p,runs.length,c)] 102)):=(NP.refl _ _).alloc _
 have Rg:=Co i z name runs
 have s1:(bs (NT 3 1)).size=1:=_q
 have s2:(bs (dj name)).size<=60:=by rw[NQ];rw[df];omega
 have s3:(bs (NT z 4)).size=4:=_q
 have s4:(bs (cq runs)).size<=100:=U!
 have⟨RE,HJ,H8,S5,HQ,HZ⟩:=gj! Rg hj h8 QO hq hz
 have e0:=bC i _a
 have e1:=bC z _a
 clear Rg hj h8 QO h hq hz
 go_enter func219,ntmps219
 go_wp2_with fail
 refine(HJ.out _).mono ?_;rintro e w' ⟨rfl,rfl⟩
 go_wp2_with fail
 refine(H8.out _).mono ?_;rintro e w1 ⟨rfl,k1⟩
 have o1:=k1.own o0 _b
 have⟨a0,a1,a2,a3,a4⟩:=o1.c5
 go_wp2_with fail
 refine(S5.out _).mono ?_;rintro e w2 ⟨rfl,k2⟩
 have oP:=k2.own o1 _b
 have⟨b0,b1,b2,b3,b4⟩:=oP.c5
 have kP:=(k0.trans k1).trans k2
 clear a0 a1 a2 a3 a4 o1 o0 HJ H8 S5
 go_wp2_with fail
 generalize hT0:bs (NT 3 1)++bs (dj name)=T0 at*
 have HT0:Hid (T0=bs (NT 3 1++dj name)):=tK (by rw[<-hT0,aw])
 have t0:T0.size<=100:=D!
 clear hT0
 have Oy:Hid (T0++bs (NT z 4)++bs (cq runs)=bs (OD ⟨3,i,name,z,runs⟩)):=tK (by
  rw[HT0.out,aw,aw,RE.out];simp only[MW])
 generalize bs (NT z 4)=M1 at*
 generalize bs (cq runs)=M2 at*
 have yy:(T0++M1).size=T0.size+M1.size:=ByteArray.size_append
 have qc1:∀W,(Op.stringOp .add T0 M1).run prog W=.ok (.string (T0++M1)) W:=fun W=>by first|(simp[Op.stringOp];omega)
 have qc2:∀W,(Op.stringOp .add (T0++M1) M2).run prog W=.ok (.string (T0++M1++M2)) W:=fun W=>by first|(simp[Op.stringOp];omega)
 clear yy
 have kk:=kP.drew
 have ob:=oP.drew
 go_region_held3 (fun W=>W.cell? (aa w 3)=(z:Int)/\W.cell? (aa w 4)=(p,runs.length,c)) (go_keep)
  (first
   |(go_at_call 214;((with_reducible refine(HZ.out _).mono ?_));rintro e w' ⟨rfl,k'⟩;have kk:=kk.trans k';have ob:=k'.own ob _b;have⟨c0,c1,c2,c3,c4⟩:=ob.c5)
   |(go_at_call 265;((with_reducible refine(HQ.out _ kk).mono ?_));rintro e w' ⟨rfl,k'⟩;have kk:=kk.trans k';have ob:=k'.own ob _b;have⟨c0,c1,c2,c3,c4⟩:=ob.c5))
 all_goals
  go_wp2_with fail
  go_ret
  exact⟨by rw[<-Oy.out];rfl,kk⟩
theorem Jy (i z:Nat) (name:List UInt8) (runs:List (Int×Int)) (v:Value) (lo hi:Nat) (w:World) (h:af w v runs lo hi) (PC:i<4294967296) (Qc:z<=1048576) (_:name.length<=48) (hrf:dL runs):
  am! 219 #[.agg #[(4:Int),.int .u32 (i:Int),name,(z:Int),v]] w fun e w'=>e=.returned (.string (bs (OD ⟨4,i,name,z,runs⟩)))/\NP [] w w':=by
 obtain⟨p,c,rfl⟩:=h.shape
 have RV:=hrf.1
 have hj:∀W,am! 263 #[(4:Int)] W fun e w'=>e=.returned (.tuple #[true,false,false])/\W=w':=fun W=>pq 4 W
 have h8:∀W,am! 214 #[.int .u64 4,(1:Int)] W fun e w'=>e=.returned (.string (bs (NT 4 1)))/\NP [] W w':=fun W=>qu 4 W _d
 have QO:=fun W=>fR i W _a
 skip
 have hq:=fun W (k:NP [] w W)=>qj _ runs lo hi W (h.kept0 k) hrf
 have hz:=fun W=>fR z W _a
 have o0:=ae.new w #[(4:Int),.int .u32 (i:Int),name,(z:Int),(p,runs.length,c)] 102
 have k0:NP [] w (w.alloc (.cells #[(4:Int),.int .u32 (i:Int),name,(z:Int),(p,runs.length,c)] 102)):=(NP.refl _ _).alloc _
 have Rg:=Cn i z name runs
 have s1:(bs (NT 4 1)).size=1:=_q
 have s2:(bs (NT i 4)).size<=60:=_W
 have s3:(bs (NT z 4)).size=4:=_q
 have s4:(bs (cq runs)).size<=100:=U!
 have⟨RE,HJ,H8,S5,HQ,HZ⟩:=gj! Rg hj h8 QO hq hz
 have e0:=bC i _a
 have e1:=bC z _a
 clear Rg hj h8 QO h hq hz
 go_enter func219,ntmps219
 go_wp2_with fail
 refine(HJ.out _).mono ?_;rintro e w' ⟨rfl,rfl⟩
 go_wp2_with fail
 refine(H8.out _).mono ?_;rintro e w1 ⟨rfl,k1⟩
 have o1:=k1.own o0 _b
 have⟨a0,a1,a2,a3,a4⟩:=o1.c5
 go_wp2_with fail
 refine(S5.out _).mono ?_;rintro e w2 ⟨rfl,k2⟩
 have oP:=k2.own o1 _b
 have⟨b0,b1,b2,b3,b4⟩:=oP.c5
 have kP:=(k0.trans k1).trans k2
 clear a0 a1 a2 a3 a4 o1 o0 HJ H8 S5
 go_wp2_with fail
 go_ret
 exact⟨by rw[RE.out,<-aw];rfl,kP⟩
theorem Jw (i z:Nat) (name:List UInt8) (runs:List (Int×Int)) (v:Value) (lo hi:Nat) (w:World) (h:af w v runs lo hi) (PC:i<4294967296) (Qc:z<=1048576) (_:name.length<=48) (hrf:dL runs):
  am! 219 #[.agg #[(5:Int),.int .u32 (i:Int),name,(z:Int),v]] w fun e w'=>e=.returned (.string (bs (OD ⟨5,i,name,z,runs⟩)))/\NP [] w w':=by
 obtain⟨p,c,rfl⟩:=h.shape
 have RV:=hrf.1
 have hj:∀W,am! 263 #[(5:Int)] W fun e w'=>e=.returned (.tuple #[true,false,false])/\W=w':=fun W=>pq 5 W
 have h8:∀W,am! 214 #[.int .u64 5,(1:Int)] W fun e w'=>e=.returned (.string (bs (NT 5 1)))/\NP [] W w':=fun W=>qu 5 W _d
 have QO:=fun W=>fR i W _a
 skip
 have hq:=fun W (k:NP [] w W)=>qj _ runs lo hi W (h.kept0 k) hrf
 have hz:=fun W=>fR z W _a
 have o0:=ae.new w #[(5:Int),.int .u32 (i:Int),name,(z:Int),(p,runs.length,c)] 102
 have k0:NP [] w (w.alloc (.cells #[(5:Int),.int .u32 (i:Int),name,(z:Int),(p,runs.length,c)] 102)):=(NP.refl _ _).alloc _
 have Rg:=Cm i z name runs
 have s1:(bs (NT 5 1)).size=1:=_q
 have s2:(bs (NT i 4)).size<=60:=_W
 have s3:(bs (NT z 4)).size=4:=_q
 have s4:(bs (cq runs)).size<=100:=U!
 have⟨RE,HJ,H8,S5,HQ,HZ⟩:=gj! Rg hj h8 QO hq hz
 have e0:=bC i _a
 have e1:=bC z _a
 clear Rg hj h8 QO h hq hz
 go_enter func219,ntmps219
 go_wp2_with fail
 refine(HJ.out _).mono ?_;rintro e w' ⟨rfl,rfl⟩
 go_wp2_with fail
 refine(H8.out _).mono ?_;rintro e w1 ⟨rfl,k1⟩
 have o1:=k1.own o0 _b
 have⟨a0,a1,a2,a3,a4⟩:=o1.c5
 go_wp2_with fail
 refine(S5.out _).mono ?_;rintro e w2 ⟨rfl,k2⟩
 have oP:=k2.own o1 _b
 have⟨b0,b1,b2,b3,b4⟩:=oP.c5
 have kP:=(k0.trans k1).trans k2
 clear a0 a1 a2 a3 a4 o1 o0 HJ H8 S5
 go_wp2_with fail
 go_ret
 exact⟨by rw[RE.out,<-aw];rfl,kP⟩
theorem Jv (i z:Nat) (name:List UInt8) (runs:List (Int×Int)) (v:Value) (lo hi:Nat) (w:World) (h:af w v runs lo hi) (PC:i<4294967296) (Qc:z<=1048576) (Rb:name.length<=48) (hrf:dL runs):
  am! 219 #[.agg #[(6:Int),.int .u32 (i:Int),name,(z:Int),v]] w fun e w'=>e=.returned (.string (bs (OD ⟨6,i,name,z,runs⟩)))/\NP [] w w':=by
 obtain⟨p,c,rfl⟩:=h.shape
 have RV:=hrf.1
 have hj:∀W,am! 263 #[(6:Int)] W fun e w'=>e=.returned (.tuple #[false,true,false])/\W=w':=fun W=>pq 6 W
 have h8:∀W,am! 214 #[.int .u64 6,(1:Int)] W fun e w'=>e=.returned (.string (bs (NT 6 1)))/\NP [] W w':=fun W=>qu 6 W _d
 have QO:=fun W=>GA (bs name) W P!
 rw[cC]at QO
 have hq:=fun W (k:NP [] w W)=>qj _ runs lo hi W (h.kept0 k) hrf
 have hz:=fun W=>fR z W _a
 have o0:=ae.new w #[(6:Int),.int .u32 (i:Int),name,(z:Int),(p,runs.length,c)] 102
 have k0:NP [] w (w.alloc (.cells #[(6:Int),.int .u32 (i:Int),name,(z:Int),(p,runs.length,c)] 102)):=(NP.refl _ _).alloc _
 have Rg:=Cl i z name runs
 have s1:(bs (NT 6 1)).size=1:=_q
 have s2:(bs (dj name)).size<=60:=by rw[NQ];rw[df];omega
 have s3:(bs (NT z 4)).size=4:=_q
 have s4:(bs (cq runs)).size<=100:=U!
 have⟨RE,HJ,H8,S5,HQ,HZ⟩:=gj! Rg hj h8 QO hq hz
 have e0:=bC i _a
 have e1:=bC z _a
 clear Rg hj h8 QO h hq hz
 go_enter func219,ntmps219
 go_wp2_with fail
 refine(HJ.out _).mono ?_;rintro e w' ⟨rfl,rfl⟩
 go_wp2_with fail
 refine(H8.out _).mono ?_;rintro e w1 ⟨rfl,k1⟩
 have o1:=k1.own o0 _b
 have⟨a0,a1,a2,a3,a4⟩:=o1.c5
 go_wp2_with fail
 refine(S5.out _).mono ?_;rintro e w2 ⟨rfl,k2⟩
 have oP:=k2.own o1 _b
 have⟨b0,b1,b2,b3,b4⟩:=oP.c5
 have kP:=(k0.trans k1).trans k2
 clear a0 a1 a2 a3 a4 o1 o0 HJ H8 S5
 go_wp2_with fail
 go_ret
 exact⟨by rw[RE.out,<-aw];rfl,kP⟩
theorem Mf (r:ag) (v:Value) (lo hi:Nat) (w:World) (h:af w v r.runs lo hi) (Pf:gB r):
  am! 219 #[.agg (r.cells v)] w fun e w'=>e=.returned (.string (bs (OD r)))/\NP [] w w':=by
 have⟨k,id,name,size,runs⟩:=r
 have⟨h1,h6,i0,i1,nm,s0,s1,rf⟩:=Pf
 simp only at h h1 h6 i0 i1 nm s0 s1 rf
 obtain⟨i,rfl⟩:=MM i0
 obtain⟨z,rfl⟩:=MM s0
 unfold ag.cells
 simp only
 rcases(by omega:k=1\/k=2\/k=3\/k=4\/k=5\/k=6)with rfl|rfl|rfl|rfl|rfl|rfl
 .exact JB i z name runs v lo hi w h _a _a nm rf
 .exact JA i z name runs v lo hi w h _a _a nm rf
 .exact Jz i z name runs v lo hi w h _a _a nm rf
 .exact Jy i z name runs v lo hi w h _a _a nm rf
 .exact Jw i z name runs v lo hi w h _a _a nm rf
 .exact Jv i z name runs v lo hi w h _a _a nm rf

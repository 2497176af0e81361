/- -/
import Derived.Test.YtdkimcnlhmhpgaaGreatF16
set_option maxHeartbeats 32000000
set_option maxRecDepth 100000
namespace Go.Proofs.YtdkimcnlhmhpgaaGreat
section
open Go.Proofs.Tryz Go.RowKit
theorem qB (w):(Instr.makeSlice 61 (200:Int) (200:Int)).run prog w=.ok (.slice (some w) 200 200) (w.alloc (.cells (Array.replicate 200 (.int .u8 0)) 5)):=by
 kernel_rfl
theorem yo (w:World):(convert 61 9 (.slice (some w) 200 200)).run prog (w.alloc (.cells (Array.replicate 200 (.int .u8 0)) 5))=.ok cK (w.alloc (.cells (Array.replicate 200 (.int .u8 0)) 5)):=by
 have ho:=ae.new w (Array.replicate 200 (Value.int .u8 0)) 5
 have hb:Lib.Bytes (w.alloc (.cells (Array.replicate 200 (.int .u8 0)) 5)) w 0 (bs cK):=by
  intro i hi
  have QZ:i<200:=by rw[NQ]at hi;unfold cK at hi;rw[Np]at hi;exact hi
  rw[Nat.zero_add,ho.cell i (by simp;exact QZ)]
  have hz:i<cK.length:=by unfold cK;rw[Np];exact QZ
  have e0:cK[i]=0:=by unfold cK;exact List.getElem_replicate _
  rw[Array.getElem_replicate]
  refine congrArg some (congrArg (Value.int .u8) ?_)
  show(0:Int)=((cK[i]'hz).toNat:Int)
  rw[e0];rfl
 have h:=Lib.run_convert_whole (P:=prog) _ 61 5 9 underlying61 underlying5 underlying9 w 0 (bs cK) hb 200
 have e:(bs cK).size=200:=by rw[NQ];exact Np
 rw[e]at h
 exact h
theorem ID {w g x} (o:ae w g x.cells 34) (h:x.fits):gC w (.slice (some g) 1 1) [x] g (g+1):=by
 refine Or.inr ⟨g,0,1,rfl,fun i hi=>?_,MG _,Nat.lt_succ_self _,o.lt,b?,MG _,by unfold maxLen;omega⟩
 obtain rfl:i=0:=D?
 refine⟨[.int .i64 x.kind,.int .u32 x.id,.string (bs x.name),.string (bs x.bytes)],rfl,⟨rfl,h⟩,fun j u hj=>?_⟩
 have hj4:j<4:=by have:=(Nn.1 hj).1;simpa using this
 have h2:=(Nn.1 hj).2
 rw[Nat.zero_mul,Nat.zero_add,Nat.zero_add,o.cell j (by simpa[VC.cells]using hj4),<-h2]
 rfl
theorem xN:eR.fits:=⟨d?,d?,by unfold maxLen;decide,by show(List.replicate 200 (0:UInt8)).length<=1048576;rw[Np];omega⟩
theorem Jb (w):am! 14 #[] w fun e w'=>e=true/\NP [] w w':=by
 have SF:=Lw 12 w a? a?
 have hq0:bk (QP (List.replicate 12 N9)):=⟨rfl,d?,dS.new 12⟩
 have SC:(QP (List.replicate 12 N9)).stand.length=12:=Np
 have ho0:(QP (List.replicate 12 N9)).ops=0:=rfl
 have hw0:(QP (List.replicate 12 N9)).waits=[]:=rfl
 generalize QP (List.replicate 12 N9)=d0 at*
 have⟨f1,f2,f3⟩:=J1 hq0 2 a?
 have aaw:(du 2 d0).1.ops<=100/\(du 2 d0).1.waits.length<=100:=by
  have h:=pU 2 [aM 0 N9,aM 1 N9,aA,cN (dX d0.stand.length 2)] (fun f hf d=>by
   simp only[List.mem_cons,List.not_mem_nil,or_false]at hf
   rcases hf with rfl|rfl|rfl|rfl
   .have:=jS 0 N9 d;exact⟨a?,a?,this.2.2⟩
   .have:=jS 1 N9 d;exact⟨a?,a?,this.2.2⟩
   .have:=gU d;exact⟨a?,a?,this.2.2⟩
   .exact FK _ d) d0
  have h1:=h.1
  have h2:=h.2.1
  rw[ho0]at h1
  rw[hw0]at h2
  simp only[Nj,List.length_nil]at h1 h2
  exact⟨by show(du 2 d0).1.ops<=100;unfold du;omega,by show(du 2 d0).1.waits.length<=100;unfold du;omega⟩
 have⟨g1,g2,g3,g4⟩:=Ge f2 (by rw[f3,SC])
 have hold:vQ [97] cK (eX ⟨(du 2 d0).1,dX 12 2,cf,false⟩ [eR]).1:=yL (nm:=[97]) (data:=cK) (v:=⟨(du 2 d0).1,dX 12 2,cf,false⟩) f2 rfl rfl (by show(1:Int)<=2;omega) g1
 have Vq:=tK SF
 clear SF
 go_enter func14,ntmps14
 go_wp2_with fail
 refine Vq.out.mono ?_;rintro e w1 ⟨b,sb,mb,lo,rfl,hD,k1,hb,hsb,hmb,hlo⟩
 have adn:=G7 (T:=[]) 2 hD (fun x hx=>by cases hx) d? a? (by rw[hw0];simp)
 have⟨aeU,HD,Sx⟩:=gg! adn hD k1
 have Q1:Hid (w.heap.size<=b/\w.heap.size<=sb/\w.heap.size<=mb/\w.heap.size<=lo):=tK ⟨hb,hsb,hmb,hlo⟩
 have⟨HF1,HF2,HF3,HG1,HG2,HG3,HG4,W6,OZ,Wi⟩:=gc! f1 f2 f3 g1 g2 g3 g4 hold SC aaw
 clear adn hD k1 hb hsb hmb hlo f1 f2 f3 g1 g2 g3 g4 hold hq0 SC ho0 hw0 aaw Vq
 go_wp2_with fail
 refine aeU.out.mono ?_;intro e w2 hs
 rcases hs with⟨h,_⟩|⟨_,hD2,PY,hs⟩
 .exfalso
  rw[OZ.out]at h
  omega
 rcases hs with⟨hc,_⟩|⟨_,B,hBge,RT,Ot,rfl⟩
 .exact absurd HF1.out hc
 rw[OZ.out]at Ot
 have Yr:aL [B] w2 B b sb mb lo ⟨(du 2 d0).1,dX 12 2,cf,false⟩:=⟨hD2,⟨_,_,_,_,Ot,ep.nil none 0,dE.empty _ _ _ _ _⟩,MY,fun x hx=>by
  obtain rfl:x=B:=h?
  exact Ot.lt,RT⟩
 have aaV:=Am Yr (qh a? a? a? a?) pG (by show 0+0+0<=5000;omega)
 have hc8:OV (Oh ⟨(du 2 d0).1,dX 12 2,cf,false⟩)=8:=by rw[wH];exact mh 4 8 a? a?
 rw[hc8]at aaV
 have⟨aeJ,HV2,YM,HBG⟩:=gh! aaV Yr PY hBge
 clear hD2 PY hBge RT Ot Yr aaV hc8
 go_wp2_with fail
 refine aeJ.out.mono ?_;rintro e w3 ⟨rfl,k3⟩
 have Xi:=tK k3
 have RO:=qB w3
 have XL:=yo w3
 clear k3
 have ZN:NP [] w3 ((w3.alloc (.cells (Array.replicate 200 (.int .u8 0)) 5)).alloc (.cells #[(3:Int),.int .u32 0,.string {data:=#[97]},cK] 34)):=((NP.refl _ _).alloc _).alloc _
 have och:ae ((w3.alloc (.cells (Array.replicate 200 (.int .u8 0)) 5)).alloc (.cells #[(3:Int),.int .u32 0,.string {data:=#[97]},cK] 34)) (w3.heap.size+1) eR.cells 34:=(ch w3 _ _ _ _).2
 have hV4:=(HV2.out.aJ Xi.out).aJ ZN
 have ac5:=IK _ [eR] _ _ hV4 ⟨qh a? a? a? a?,pG,by show 0+0+0<=900;omega,by show 1<=900;omega,by show(2:Int)<=30;omega⟩ (ID och xN) b? (fun x hx=>by
  obtain rfl:=Nm.1 hx
  exact xN) (by have:=Wi.out.1;show(du 2 d0).1.ops<=35000;omega) (by have:=Wi.out.2;show(du 2 d0).1.waits.length<=700;omega) (by show(du 2 d0).1.stand.length<=100;rw[HF3.out,OZ.out];omega) ⟨rfl,(ui (du 2 d0).1).1,(ui (du 2 d0).1).2.1,by
  rw[(ui (du 2 d0).1).2.2]
  exact congrArg Prod.snd zX,by
  rw[(ui (du 2 d0).1).2.2]
  exact tI.1,by
  rw[(ui (du 2 d0).1).2.2]
  have:=tI.2
  show((Pv [fV]).length:Int)<=(2:Int)*128-0
  omega,fun x hx=>by
  obtain rfl:=Nm.1 hx
  rfl⟩
 have⟨aca,abu⟩:=f? ac5 ZN
 clear ac5 ZN och hV4
 go_wp2_with fail
 refine aca.out.mono ?_;rintro e w5 ⟨rfl,hV5,k5⟩
 rw[HG1.out]
 have QQ:=I8 (T:=[B]) 0 [97] hV5 W6.out.cat W6.out.dead
 rw[Bk W6.out 0]at QQ
 unfold vE at QQ
 have ab0:bs [97]={data:=#[97]}:=rfl
 rw[ab0]at QQ
 simp only at QQ
 have⟨TC,HK5,HV5⟩:=gg! QQ k5 hV5
 clear QQ k5 hV5 ab0 aca
 go_wp2_with fail
 refine TC.out.mono ?_;rintro e w6 ⟨rfl,hV6,k6⟩
 have abk:=Am hV6 HG3.out W6.out.cat (by have:=HG4.out;unfold cQ at this;omega)
 rw[HG2.out]at abk
 have PW:(bs cK).size=200:=by rw[NQ];exact Np
 have aex:=tK abk
 have Tl:=tK (HV5.out.L1 k6)
 have HB6:=tK hV6.bH
 clear abk k6 hV6
 go_wp2_with fail
 refine aex.out.mono ?_;rintro e w7 ⟨rfl,k7⟩
 have Yj:PK [B] b sb mb w1 w7:=(((YM.out.mono (T:=[B]) b?).trans ((Xi.out.trans abu.out).eH HV2.out.bH)).trans HK5.out).trans (Tl.out.trans (k7.eH HB6.out))
 have Oy:NP [] w w7:=Sx.out.gg (Yj.kept w Sx.out.size (fun x hx=>by
  obtain rfl:x=B:=h?
  exact Nk Sx.out.size HBG.out) Q1.out.1 Q1.out.2.1 Q1.out.2.2.1 (fun k hk=>Nk Q1.out.2.2.2 (HD.out.disk.wb hk).1))
 have Rv:=tK Oy
 clear Yj Oy k7
 go_wp2_with fail
 go_ret
 exact⟨rfl,Rv.out⟩
end
section
open Go.Proofs.Tryz Go.ChangeShapes Go.WideShapes Go.RowKit
variable {n:Nat} {img:List UInt8}
section
variable {H:Type} {enc:TypeId×Value->H} {w:World} {base:Nat} {held:Bool} {r:Reach} {b0:Nat}
end
end
end Go.Proofs.YtdkimcnlhmhpgaaGreat

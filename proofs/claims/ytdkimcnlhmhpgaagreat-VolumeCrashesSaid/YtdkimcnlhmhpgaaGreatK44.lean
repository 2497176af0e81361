/- -/
import Derived.Test.YtdkimcnlhmhpgaaGreatK33
set_option maxHeartbeats 16000000
set_option maxRecDepth 100000
set_option linter.unusedVariables false
namespace Go.Proofs.YtdkimcnlhmhpgaaGreat
open Go.RowKit
variable {A:Prop} {l a b:List UInt8} {w w':World} {k:Nat} {s:SB} {x:Int}
theorem J1 (b k:Nat) (l:List UInt8) (w:World) (hR:aO w b (l.drop k) 0) (h:k+8<=l.length):
  Calls Tryz.prog 190 #[.pointer (some ⟨b,0,none⟩)] w fun e w'=>e=.returned (.int .u64 (le l k 8))/\aO w' b (l.drop (k+8)) 0/\aa [b] w w':=by
 have hu:=KV b (l.drop k) 0 w hR
 have e:Ny 8 (l.drop k) 0=(le l k 8,l.drop (k+8),0):=by
  unfold Ny NS le
  rw[if_neg (by simp),if_neg (by omega),if_neg (by simp;omega),List.drop_drop];rfl
 rw[e]at hu
 exact hu
theorem J3 (b k:Nat) (l:List UInt8) (w:World) (hR:aO w b (l.drop k) 0) (h:k+4<=l.length):
  Calls Tryz.prog 191 #[.agg #[.pointer (some ⟨b,0,none⟩)]] w fun e w'=>e=.returned (.int .i64 (le l k 4))/\aO w' b (l.drop (k+4)) 0/\aa [b] w w':=by
 have hu:=KZ b (l.drop k) w hR (by rw[Mq];omega)
 rw[List.drop_drop]at hu
 exact hu
theorem tJ (b k:Nat) (l:List UInt8) (w:World) (hR:aO w b (l.drop k) 0) (h:k+2<=l.length):
  Calls Tryz.prog 192 #[.agg #[.pointer (some ⟨b,0,none⟩)]] w fun e w'=>e=.returned (.int .i64 (le l k 2))/\aO w' b (l.drop (k+2)) 0/\aa [b] w w':=by
 have hu:=Lb b (l.drop k) w hR (by rw[Mq];omega)
 rw[List.drop_drop]at hu
 exact hu
theorem Dn (b:Nat) (l:List UInt8) (w:World) (hR:aO w b l 0) (h:8<=l.length):
  Calls Tryz.prog 189 #[.pointer (some ⟨b,0,none⟩),.int .i64 8] w fun e w'=>e=.returned (.string (bs (l.take 8)))/\aO w' b (l.drop 8) 0/\aa [b] w w':=by
 have hu:=oe b l 0 8 w hR
 have e:NS 8 l 0=(l.take 8,l.drop 8,0):=by
  unfold NS
  rw[if_neg (by simp),if_neg (by omega),if_neg (by omega)];rfl
 rw[e]at hu
 exact hu
def GI (w wx:World) (b rb o2:Nat) (v5:Value) (l:List UInt8):Prop:=
 ∃g,v5=.pointer (some ⟨g,0,none⟩)/\ae wx g #[.int .u64 (le l 8 8),.int .i64 (le l 16 4),.int .i64 (le l 20 4),.int .i64 (le l 24 4),.int .i64 (le l 28 4),.slice none 0 0] 58/\aO wx b (l.drop 32) 0/\ae wx rb #[.pointer (some ⟨b,0,none⟩)] 251/\ae wx o2 #[.int .u64 0,.int .i64 0,.int .i64 0,.int .i64 0,.int .i64 0,.slice none 0 0] 58/\aa [] w wx/\w.heap.size<=g/\g≠b/\g≠rb/\g≠o2
theorem FF {w w7:World} {b rb o2:Nat} {l:List UInt8} (hR:aO w7 b (l.drop 32) 0) (hrb:ae w7 rb #[.pointer (some ⟨b,0,none⟩)] 251) (ho:ae w7 o2 #[.int .u64 0,.int .i64 0,.int .i64 0,.int .i64 0,.int .i64 0,.slice none 0 0] 58) (hk:aa [] w w7):
  GI w (w7.alloc (.cells #[.int .u64 (le l 8 8),.int .i64 (le l 16 4),.int .i64 (le l 20 4),.int .i64 (le l 24 4),.int .i64 (le l 28 4),.slice none 0 0] 58)) b rb o2 (.pointer (some ⟨w7.heap.size,0,none⟩)) l:=
 ⟨w7.heap.size,rfl,ae.new _ _ _,ae.alloc hR _,hrb.alloc _,ho.alloc _,hk.alloc _,hk.size,by have:=ae.lt hR;omega,by have:=hrb.lt;omega,by have:=ho.lt;omega⟩
theorem FE {w w7:World} {b rb o2 g:Nat} {l:List UInt8} (og:ae w7 g #[.int .u64 0,.int .i64 0,.int .i64 0,.int .i64 0,.int .i64 0,.slice none 0 0] 58) (hR:aO w7 b (l.drop 32) 0) (hrb:ae w7 rb #[.pointer (some ⟨b,0,none⟩)] 251) (ho:ae w7 o2 #[.int .u64 0,.int .i64 0,.int .i64 0,.int .i64 0,.int .i64 0,.slice none 0 0] 58) (hk:aa [] w w7) (hg:w.heap.size<=g) (h1:g≠b) (h2:g≠rb) (h3:g≠o2):
  GI w ((((((w7.setCell ⟨g,0,none⟩ (.int .u64 (le l 8 8))).setCell ⟨g,1,none⟩ (.int .i64 (le l 16 4))).setCell ⟨g,2,none⟩ (.int .i64 (le l 20 4))).setCell ⟨g,3,none⟩ (.int .i64 (le l 24 4))).setCell ⟨g,4,none⟩ (.int .i64 (le l 28 4))).setCell ⟨g,5,none⟩ (.slice none 0 0)) b rb o2 (.pointer (some ⟨g,0,none⟩)) l:=
 ⟨g,rfl,og.gC _ _ _ _ _ _,ae.ni hR (Ne.symm h1) _ _ _ _ _ _,hrb.ni (Ne.symm h2) _ _ _ _ _ _,ho.ni (Ne.symm h3) _ _ _ _ _ _,hk.gC (Or.inr hg) _ _ _ _ _ _,hg,h1,h2,h3⟩
theorem Ft (l:List UInt8) (w:World) (h:l.length≠128) (hl:l.length<=1000000):
  Calls Tryz.prog 121 #[.string (bs l)] w fun e w'=>e=.returned (.tuple #[.agg (j0.cells (.slice none 0 0)),.int .i64 110])/\aa [] w w':=by
 have hz:(bs l).size=l.length:=Nj l
 have o:=ae.new w #[.int .u64 0,.int .i64 0,.int .i64 0,.int .i64 0,.int .i64 0,.slice none 0 0] 58
 have Ot:((l.length:Int)==128)=false:=by simp;omega
 obtain⟨d0,d1,d2,d3,d4,d5⟩:=o.c6
 have z:=o.z6
 clear h
 generalize l.length=n at*
 go_enter Tryz.func121,Tryz.ntmps121
 go_wp2_with fail
 refine Mx (v:=.tuple #[.agg #[.int .u64 0,.int .i64 0,.int .i64 0,.int .i64 0,.int .i64 0,.slice none 0 0],.int .i64 110]) ?_ ?_ ?_
 .exact ak Tryz.results121 rfl rfl o Tryz.underlying58 rfl (by kernel_rfl)
 .rfl
 .exact⟨rfl,(aa.refl _ _).alloc _⟩
theorem M28 (h:A:=by
 go_wp2_with fail
 refine QI.mono ?_;rintro e w5 ⟨rfl,Ri⟩
 have Xf:=Ri.own og (by simp)
 have Uw:=Ri.own ho (by simp)
 obtain⟨y0,y1,y2,y3,y4,y5⟩:=Xf.c6
 obtain⟨x0,x1,x2,x3,x4,x5⟩:=Uw.c6
 have zo:=Uw.z6
 go_wp2_with fail
 refine Mx (v:=.tuple #[.agg #[.int .u64 0,.int .i64 0,.int .i64 0,.int .i64 0,.int .i64 0,.slice none 0 0],.int .i64 110]) ?_ ?_ ?_
 .exact ak Tryz.results121 rfl rfl (Uw.gC _ _ _ _ _ _) Tryz.underlying58 rfl (by kernel_rfl)
 .rfl
 .exact oK HN.out ((hK.trans Ri).gC (Or.inr (Md _)) _ _ _ _ _ _)):A:=h
theorem Fu (l:List UInt8) (w:World) (h:l.length=128):
  Calls Tryz.prog 121 #[.string (bs l)] w (nL (.int .i64 0) (.int .i64 110) l w):=by
 have hz:(bs l).size=128:=by rw[Nj,h]
 have o:=ae.new w #[.int .u64 0,.int .i64 0,.int .i64 0,.int .i64 0,.int .i64 0,.slice none 0 0] 58
 have PF:=fun w=>oh (bs l) w
 rw[dP]at PF
 have H1:=Mb h
 clear h
 go_enter Tryz.func121,Tryz.ntmps121
 go_wp2_with fail
 refine(PF _).mono ?_;rintro e w1 ⟨rfl,hR,OY⟩
 have o1:=OY.own o (by simp)
 have TG:w.heap.size+1<w1.heap.size:=by have:=ae.lt hR;simp at this;omega
 have P9:aa [] w w1:=((aa.refl _ _).alloc _).trans OY
 rw[MK]at hR
 clear PF OY o
 have orb:=ae.new w1 #[.pointer (some ⟨w.heap.size+1,0,none⟩)] 251
 have o1':=o1.alloc (.cells #[.pointer (some ⟨w.heap.size+1,0,none⟩)] 251)
 have hR':=ae.alloc hR (.cells #[.pointer (some ⟨w.heap.size+1,0,none⟩)] 251)
 have PE:=P9.alloc (.cells #[.pointer (some ⟨w.heap.size+1,0,none⟩)] 251)
 clear o1 hR P9
 have ht8:=fun w h=>Dn (w.heap.size+1) l w h (by rw[H1.out];omega)
 go_wp2_with fail
 refine(Dn _ l _ hR' (by rw[H1.out];omega)).mono ?_;rintro e w2 ⟨rfl,QX,Rp⟩
 have o2:=Rp.own o1' (by simp)
 have ZL:=Rp.own orb (by simp;omega)
 have Ri:aa [] w w2:=PE.call Rp (by simp)
 have Qo:w1.heap.size<w2.heap.size:=ZL.lt
 clear o1' hR' PE Rp orb ht8
 generalize hrb:w1.heap.size=rb at*
 clear hrb
 have c0:w2.cell? ⟨rb,0,none⟩=some (.pointer (some ⟨w.heap.size+1,0,none⟩)):=ZL.cell 0 (by simp)
 have hU:∀W,aO W (w.heap.size+1) (l.drop 8) 0->ae W rb #[.pointer (some ⟨w.heap.size+1,0,none⟩)] 251->Calls Tryz.prog 190 #[.pointer (some ⟨w.heap.size+1,0,none⟩)] W fun e w'=>e=.returned (.int .u64 (le l 8 8))/\aO w' (w.heap.size+1) (l.drop 16) 0/\aa [w.heap.size+1] W w'/\ae w' rb #[.pointer (some ⟨w.heap.size+1,0,none⟩)] 251/\w'.cell? ⟨rb,0,none⟩=some (.pointer (some ⟨w.heap.size+1,0,none⟩)):=fun W hr ho=>
  (J1 _ 8 l W hr (by rw[H1.out];omega)).mono fun e w' hh=>⟨hh.1,hh.2.1,hh.2.2,hh.2.2.own ho (by simp;omega),(hh.2.2.own ho (by simp;omega)).cell 0 (by simp)⟩
 have hW:∀(k:Nat) W,k+4<=128->aO W (w.heap.size+1) (l.drop k) 0->ae W rb #[.pointer (some ⟨w.heap.size+1,0,none⟩)] 251->Calls Tryz.prog 191 #[.agg #[.pointer (some ⟨w.heap.size+1,0,none⟩)]] W fun e w'=>e=.returned (.int .i64 (le l k 4))/\aO w' (w.heap.size+1) (l.drop (k+4)) 0/\aa [w.heap.size+1] W w'/\ae w' rb #[.pointer (some ⟨w.heap.size+1,0,none⟩)] 251/\w'.cell? ⟨rb,0,none⟩=some (.pointer (some ⟨w.heap.size+1,0,none⟩)):=fun k W Rp hr ho=>
  (J3 _ k l W hr (by rw[H1.out];omega)).mono fun e w' hh=>⟨hh.1,hh.2.1,hh.2.2,hh.2.2.own ho (by simp;omega),(hh.2.2.own ho (by simp;omega)).cell 0 (by simp)⟩
 have HU:=Mb hU
 have HW:=Mb hW
 clear hU hW
 go_upto_region 5 with fail
 go_cut [5] (fun v5 wx=>GI w wx (w.heap.size+1) rb w.heap.size v5 l)
 case first=>
  go_region_held3 (fun w'=>w'.cell? ⟨rb,0,none⟩=some (.pointer (some ⟨w.heap.size+1,0,none⟩))) (first|go_keep|exact((rb7.ni Qm _ _ _ _ _ _).cell 0 (by simp)))
   (first
    |(go_at_call 190;((with_reducible refine(HU.out _ ?_ ?_).mono ?_));(first|exact QX|exact QX.drew|exact(ae.alloc QX _));(first|exact ZL|exact ZL.drew|exact(ZL.alloc _));rintro e w3 ⟨rfl,rr0,kk0,rb3,q0⟩;(first|(have Qm:rb≠w2.heap.size:=(by have h9:=ZL.lt;omega);have Zc:w2.heap.size∉[w.heap.size+1]:=(by simp;omega);have og:=kk0.own (ae.drew (ae.new w2 #[.int .u64 0,.int .i64 0,.int .i64 0,.int .i64 0,.int .i64 0,.slice none 0 0] 58)) (by simp;omega);obtain⟨u0,u1,u2,u3,u4,u5⟩:=og.c6;have z6:=og.z6)|skip))
    |(go_at_call 191;((with_reducible refine(HW.out 16 _ (by omega) ?_ ?_).mono ?_));(first|exact rr0|exact(ae.alloc rr0 _));(first|exact rb3|exact(rb3.alloc _));rintro e w4 ⟨rfl,rr1,TQ,rb4,q0⟩;(first|(have og:=TQ.own og Zc;obtain⟨u0,u1,u2,u3,u4,u5⟩:=og.c6;have z6:=og.z6)|(have Qm:rb≠w3.heap.size:=(by have h9:=rb3.lt;omega);have Zc:w3.heap.size∉[w.heap.size+1]:=(by have h9:=rb3.lt;simp;omega);have og:=TQ.own (ae.new w3 #[.int .u64 0,.int .i64 0,.int .i64 0,.int .i64 0,.int .i64 0,.slice none 0 0] 58) (by have h9:=rb3.lt;simp;omega);obtain⟨u0,u1,u2,u3,u4,u5⟩:=og.c6;have z6:=og.z6)|skip))
    |(go_at_call 191;((with_reducible refine(HW.out 20 _ (by omega) ?_ ?_).mono ?_));(first|exact rr1|exact(ae.alloc rr1 _));(first|exact rb4|exact(rb4.alloc _));rintro e w5 ⟨rfl,rr2,kk2,rb5,q0⟩;(first|(have og:=kk2.own og Zc;obtain⟨u0,u1,u2,u3,u4,u5⟩:=og.c6;have z6:=og.z6)|(have Qm:rb≠w4.heap.size:=(by have h9:=rb4.lt;omega);have Zc:w4.heap.size∉[w.heap.size+1]:=(by have h9:=rb4.lt;simp;omega);have og:=kk2.own (ae.new w4 #[.int .u64 0,.int .i64 0,.int .i64 0,.int .i64 0,.int .i64 0,.slice none 0 0] 58) (by have h9:=rb4.lt;simp;omega);obtain⟨u0,u1,u2,u3,u4,u5⟩:=og.c6;have z6:=og.z6)|skip))
    |(go_at_call 191;((with_reducible refine(HW.out 24 _ (by omega) ?_ ?_).mono ?_));(first|exact rr2|exact(ae.alloc rr2 _));(first|exact rb5|exact(rb5.alloc _));rintro e w6 ⟨rfl,rr3,TL,rb6,q0⟩;(first|(have og:=TL.own og Zc;obtain⟨u0,u1,u2,u3,u4,u5⟩:=og.c6;have z6:=og.z6)|(have Qm:rb≠w5.heap.size:=(by have h9:=rb5.lt;omega);have Zc:w5.heap.size∉[w.heap.size+1]:=(by have h9:=rb5.lt;simp;omega);have og:=TL.own (ae.new w5 #[.int .u64 0,.int .i64 0,.int .i64 0,.int .i64 0,.int .i64 0,.slice none 0 0] 58) (by have h9:=rb5.lt;simp;omega);obtain⟨u0,u1,u2,u3,u4,u5⟩:=og.c6;have z6:=og.z6)|skip))
    |(go_at_call 191;((with_reducible refine(HW.out 28 _ (by omega) ?_ ?_).mono ?_));(first|exact rr3|exact(ae.alloc rr3 _));(first|exact rb6|exact(rb6.alloc _));rintro e w7 ⟨rfl,rr4,kk4,rb7,q0⟩;(first|(have og:=kk4.own og Zc;obtain⟨u0,u1,u2,u3,u4,u5⟩:=og.c6;have z6:=og.z6)|(have Qm:rb≠w6.heap.size:=(by have h9:=rb6.lt;omega);have Zc:w6.heap.size∉[w.heap.size+1]:=(by have h9:=rb6.lt;simp;omega);have og:=kk4.own (ae.new w6 #[.int .u64 0,.int .i64 0,.int .i64 0,.int .i64 0,.int .i64 0,.slice none 0 0] 58) (by have h9:=rb6.lt;simp;omega);obtain⟨u0,u1,u2,u3,u4,u5⟩:=og.c6;have z6:=og.z6)|skip)))
  all_goals go_wp2_with fail
  all_goals go_meet
  all_goals
   have K4:aa [w.heap.size+1] w2 w7:=by
    refine aa.trans ?_ kk4;(try refine aa.alloc ?_ _)
    refine aa.trans ?_ TL;(try refine aa.alloc ?_ _)
    refine aa.trans ?_ kk2;(try refine aa.alloc ?_ _)
    refine aa.trans ?_ TQ;(try refine aa.alloc ?_ _)
    refine aa.trans ?_ kk0
    repeat' first|exact aa.refl _ _|refine aa.drew ?_|refine aa.alloc ?_ _
   have l3:=rb3.lt
   have l4:=rb4.lt
   have l5:=rb5.lt
   have l6:=rb6.lt
   have rr:aO w7 (w.heap.size+1) (l.drop 32) 0:=rr4
   have ho7:=K4.own o2 (by simp)
   have QD:aa [] w w7:=Ri.call K4 (by simp)
   clear K4 rr0 rr1 rr2 rr3 rr4 kk0 TQ kk2 TL kk4 rb3 rb4 rb5 rb6 HU HW QX o2 ZL Ri
   first
    |(with_reducible exact FF rr rb7 ho7 QD)
    |(((with_reducible refine FE og rr rb7 ho7 QD ?_ ?_ ?_ ?_))<;>omega)
 case rest=>
  obtain⟨g,rfl,og,hR,hrb,ho,hK,g1,g2,g3,g4⟩:=hcut
  have cr:wc.cell? ⟨rb,0,none⟩=some (.pointer (some ⟨w.heap.size+1,0,none⟩)):=hrb.cell 0 (by simp)
  clear HU HW QX o2 ZL Ri
  go_wp2_with fail
  refine(tJ _ 32 l _ hR (by rw[H1.out];omega)).mono ?_;rintro e w3 ⟨rfl,hR3,PE⟩
  have TV:=PE.own hrb (by simp;omega)
  have og3:=PE.own og (by simp;omega)
  have ho3:=PE.own ho (by simp)
  have XY:aa [] w w3:=hK.call PE (by simp)
  have cr:w3.cell? ⟨rb,0,none⟩=some (.pointer (some ⟨w.heap.size+1,0,none⟩)):=TV.cell 0 (by simp)
  clear hR PE hrb og ho hK
  go_wp2_with fail
  refine(tJ _ 34 l _ hR3 (by rw[H1.out];omega)).mono ?_;rintro e w4 ⟨rfl,Ut,Rp⟩
  have Uk:=Rp.own TV (by simp;omega)
  have og4:=Rp.own og3 (by simp;omega)
  have Y9:=Rp.own ho3 (by simp)
  have hK4:aa [] w w4:=XY.call Rp (by simp)
  have hR5:aO w4 (w.heap.size+1) (l.drop (36+4*0)) 0:=Ut
  have TO:w.heap.size+2<=w4.heap.size:=by have:=Uk.lt;omega
  have hnl:le l 32 2<65536:=tT l 32 2
  have Rk:=rR l (le l 32 2)
  have hq:(OW l).seq<18446744073709551616:=tT l 8 8
  have hPy:=fun v lo hi W (h:af W v (OW l).runs lo hi) (hm:(OW l).may)=>J5 (OW l) v lo hi W h hm hq
  have hPn:=fun v lo hi W (h:af W v (OW l).runs lo hi) (hm:¬(OW l).may)=>Iq (OW l) v lo hi W h (by rw[zW,rR];omega) hm
  have hsb:fG l↔(le l 32 2<=16/\(OW l).may/\(OW l).sector=l):=by unfold fG;rw[H1.out];simp
  have Xk:=Mb hsb
  have XO:=Mb hPy
  have ZA:=Mb hPn
  have HDL:=Mb Rk
  clear hR3 Rp TV og3 ho3 XY cr Ut hsb hPy hPn Rk hq
  have zo:=Y9.z6
  obtain⟨x0,x1,x2,x3,x4,x5⟩:=Y9.c6
  by_cases h16:16<le l 32 2
  .have HN:Hid (¬fG l):=fun hh=>by have:=(Xk.out.1 hh).1;omega
   clear Xk
   go_wp2_with fail
   refine Mx (v:=.tuple #[.agg #[.int .u64 0,.int .i64 0,.int .i64 0,.int .i64 0,.int .i64 0,.slice none 0 0],.int .i64 110]) ?_ ?_ ?_
   .exact ak Tryz.results121 rfl rfl (Y9.gC _ _ _ _ _ _) Tryz.underlying58 rfl (by kernel_rfl)
   .rfl
   .exact oK HN.out (hK4.gC (Or.inr (Md _)) _ _ _ _ _ _)
  .clear x0 x1 x2 x3 x4 x5 zo
   have adP:le l 32 2<=16:=by omega
   clear h16
   go_wp2_with fail
   go_loopw [40] (fun i wr=>∃(k:Nat) (v:Value),k<=le l 32 2/\i=.int .i64 k/\aO wr (w.heap.size+1) (l.drop (36+4*k)) 0/\ae wr rb #[.pointer (some ⟨w.heap.size+1,0,none⟩)] 251/\ae wr g #[.int .u64 (le l 8 8),.int .i64 (le l 16 4),.int .i64 (le l 20 4),.int .i64 (le l 24 4),.int .i64 (le l 28 4),v] 58/\wr.ownsRow (w.heap.size+2) 128 2 v k (No (fL l k))/\ae wr w.heap.size #[.int .u64 0,.int .i64 0,.int .i64 0,.int .i64 0,.int .i64 0,.slice none 0 0] 58/\aa [] w wr) (fun i _=>le l 32 2-(intOf i).toNat)
   case atStart=>exact⟨0,_,by omega,rfl,hR5,Uk,og4,MG _ _ _ _,Y9,hK4⟩
   case round=>
    obtain⟨k,v,hk,rfl,hR,hrb,og,N3,ho,hK⟩:=hrel
    obtain⟨pv,cv,rfl⟩:=ai N3
    by_cases Ns:k<le l 32 2
    .have cr:wr.cell? ⟨rb,0,none⟩=some (.pointer (some ⟨w.heap.size+1,0,none⟩)):=hrb.cell 0 (by simp)
     have XU:Hid (fL l (k+1)=fL l k++[(((le l (36+4*k) 2:Nat):Int),((le l (38+4*k) 2:Nat):Int))]):=rfl
     have aer:k<=16:=by omega
     obtain⟨i0,hi0,hz0,PS,P8⟩:=gT
     clear Xk XO ZA hR5 Uk og4 Y9 hK4
     go_wp2_with fail
     refine(tJ _ (36+4*k) l _ hR (by rw[H1.out];omega)).mono ?_;rintro e w3 ⟨rfl,hR3,PE⟩
     have TV:=PE.own hrb (by simp;omega)
     have og3:=PE.own og (by simp;omega)
     have ho3:=PE.own ho (by simp)
     have XY:aa [] w w3:=hK.call PE (by simp)
     have To:=au N3 PE (by simp)
     have cr:w3.cell? ⟨rb,0,none⟩=some (.pointer (some ⟨w.heap.size+1,0,none⟩)):=TV.cell 0 (by simp)
     have cg:w3.cell? ⟨g,5,none⟩=some (.slice pv k cv):=ae.cell og3 5 (by simp)
     have abM:aO w3 (w.heap.size+1) (l.drop (38+4*k)) 0:=by rw[show 38+4*k=36+4*k+2 from by omega];exact hR3
     clear hR PE hrb og ho hK N3 hR3
     generalize le l (36+4*k) 2=n1 at*
     go_wp2_with fail
     have q3:k+1<=maxLen:=by unfold maxLen;omega
     have q4:(k+1)*16<=140737488355328:=by omega
     have hH:=Mb (show le l (38+4*k) 2=le l (38+4*k) 2 from rfl)
     have ZC:=fun W h=>tJ (w.heap.size+1) (38+4*k) l W h (by rw[H1.out];omega)
     generalize le l (38+4*k) 2=n2 at*
     have HH:=Mb ZC
     clear ZC hH
     go_region_law (first
      |(refine step_append_lies _ (by rfl) (.tmp 45) (.tmp 50) 56 (by rfl) (w.heap.size+2) 128 i0 (.agg #[.int .i64 0,.int .i64 0]) 2 16 Tryz.underlying56 hi0 hz0 PS P8 rfl (by decide) _ _ _ (by rfl) (Me Qv _) ⟨w4.heap.size,0,none⟩ 1 1 [.int .i64 (n1:Int),.int .i64 (n2:Int)] (by rfl) rfl (World.news_of_block (M0 w4 _)) (by intro u hu;simp at hu;rcases hu with rfl|rfl<;>rfl) (by decide) q3 q4 (by simp;omega) (w4.heap.size+1) (by simp) ?_;intro g3' VU w5 o3 Sh at3 lt3;have Xf:=cK (Me Qv _) Sh (og4.alloc _) (by decide);have hc5:w5.cell? ⟨g,5,none⟩=some (.slice pv k cv):=ae.cell Xf 5 (by simp);have hf5:w5.frozen? ⟨g,5,none⟩=false:=Xf.free 5)
      |(go_simp;go_at_call 192;((with_reducible refine(HH.out _ ?_).mono ?_));(first|exact abM|exact ae.drew abM);rintro e w4 ⟨rfl,Ut,Rp⟩;have og4:=Rp.own og3.drew (by simp;omega);have Uk:=Rp.own TV.drew (by simp;omega);have Y9:=Rp.own ho3.drew (by simp);have hK4:aa [] w w4:=XY.drew.call Rp (by simp);have Qv:=au To.drew Rp (by simp);have TO:w.heap.size+2<=w4.heap.size:=(by have:=Uk.lt;omega);have cg4:w4.cell? ⟨g,5,none⟩=some (.slice pv k cv):=ae.cell og4 5 (by simp);have adM:∀o,(w4.alloc o).cell? ⟨g,5,none⟩=some (.slice pv k cv):=fun o=>ae.cell (og4.alloc o) 5 (by simp)))
     all_goals go_wp2_with fail
     all_goals
      have YH:=cK (Me Qv _) Sh (ae.alloc Ut _) (by decide)
      have ado:=cK (Me Qv _) Sh (Uk.alloc _) (by decide)
      have Uw:=cK (Me Qv _) Sh (Y9.alloc _) (by decide)
      have hK5:aa [] w w5:=(hK4.alloc _).grown Sh (fun j hj=>Or.inr (by have:=(Mn Qv j hj).1;omega))
      have hg6:=Xf.set 5 (.slice (some ⟨g3',0,none⟩) (k+1) VU)
      have o6:=dR o3 (p:=⟨g,5,none⟩) (aB o3 Xf (by decide)) (.slice (some ⟨g3',0,none⟩) (k+1) VU)
      have ec:No (fL l (k+1))=No (fL l k)++[.int .i64 (n1:Int),.int .i64 (n2:Int)]:=by rw[XU.out,cD]
      rw[<-ec]at o6
      clear HH Qv To Sh og4 Uk Y9 hK4 Rp Ut og3 TV ho3 XY o3 HDL
      refine⟨⟨k+1,_,by omega,rfl,?_,ado.other (p:=⟨g,5,none⟩) (Ne.symm g3) _,hg6,o6,Uw.other (p:=⟨g,5,none⟩) (Ne.symm g4) _,hK5.setCell (p:=⟨g,5,none⟩) (Or.inr g1) _⟩,?_⟩
      .rw[show 36+4*(k+1)=38+4*k+2 from by omega]
       exact ae.other YH (p:=⟨g,5,none⟩) (Ne.symm g2) _
      .simp[intOf];omega
    .obtain rfl:k=le l 32 2:=by omega
     have NT:=af.bo (l:=(OW l).runs) N3
     have adX:=NT.weaken (lo':=w.heap.size) (hi':=wr.heap.size) (by omega) (Md _) (Md _)
     obtain⟨y0,y1,y2,y3,y4,y5⟩:=og.c6
     obtain⟨x0,x1,x2,x3,x4,x5⟩:=ho.c6
     have zo:=ho.z6
     by_cases hm:(OW l).may
     .have QI:=XO.out (.slice pv (le l 32 2) cv) (w.heap.size+2) wr.heap.size wr NT hm
      unfold SB.cells at QI
      by_cases hs:(OW l).sector=l
      .have HS:Hid (fG l):=Xk.out.2 ⟨adP,hm,hs⟩
       rw[hs]at QI
       clear Xk XO ZA hm hs
       go_wp2_with fail
       refine QI.mono ?_;rintro e w5 ⟨rfl,Ri⟩
       have Xf:=Ri.own og (by simp)
       have Uw:=Ri.own ho (by simp)
       obtain⟨y0,y1,y2,y3,y4,y5⟩:=Xf.c6
       obtain⟨x0,x1,x2,x3,x4,x5⟩:=Uw.c6
       have zo:=Uw.z6
       go_wp2_with fail
       have hS:=(aa.refl [w.heap.size] w5).gC (b:=w.heap.size) (Or.inl (by simp)) (.int .u64 (le l 8 8)) (.int .i64 (le l 16 4)) (.int .i64 (le l 20 4)) (.int .i64 (le l 24 4)) (.int .i64 (le l 28 4)) (.slice pv (le l 32 2) cv)
       have UF:=(NT.kept0 Ri).kept hS (fun x hx=>by simp at hx;omega)
       have hs5:=Ri.size
       refine Mx (v:=.tuple #[.agg #[.int .u64 (le l 8 8),.int .i64 (le l 16 4),.int .i64 (le l 20 4),.int .i64 (le l 24 4),.int .i64 (le l 28 4),.slice pv (le l 32 2) cv],.int .i64 0]) ?_ ?_ ?_
       .exact ak Tryz.results121 rfl rfl (Uw.gC _ _ _ _ _ _) Tryz.underlying58 rfl (by kernel_rfl)
       .rfl
       .exact⟨Or.inl ⟨HS.out,_,rfl,UF.weaken (by omega) (by simp[World.setCell];exact hs5) (Md _)⟩,(hK.trans Ri).call hS (fun x hx=>by simp at hx;omega)⟩
      .have HN:Hid (¬fG l):=fun hh=>hs (Xk.out.1 hh).2.2
       have Ot:((bs (OW l).sector).toList==(bs l).toList)=false:=by rw[dh,dh];simpa using hs
       clear Xk XO ZA hm hs
       generalize (OW l).sector=SE at*
       exact M28
     .have HN:Hid (¬fG l):=fun hh=>hm (Xk.out.1 hh).2.1
      have QI:=ZA.out (.slice pv (le l 32 2) cv) (w.heap.size+2) wr.heap.size wr NT hm
      unfold SB.cells at QI
      clear Xk XO ZA hm
      exact M28
theorem LV (l:List UInt8) (w:World) (hl:l.length<=1000000):Calls Tryz.prog 121 #[.string (bs l)] w (nL (.int .i64 0) (.int .i64 110) l w):=by
 by_cases h:l.length=128
 .exact Fu l w h
 .exact(Ft l w h hl).mono fun e w' hh=>⟨Or.inr ⟨fun hi=>h hi.1,hh.1⟩,hh.2⟩
theorem zN {ok bad:Value} {e:Ending} (h:nL ok bad l w e w'):
  (∃v,fG l/\e=.returned (.tuple #[.agg ((OW l).cells v),ok])/\af w' v (OW l).runs w.heap.size w'.heap.size/\aa [] w w')\/
  (¬fG l/\e=.returned (.tuple #[.agg (j0.cells (.slice none 0 0)),bad])/\aa [] w w'):=by
 rcases h with⟨⟨h1,v,h2,h3⟩|⟨h1,h2⟩,h4⟩
 .exact Or.inl ⟨v,h1,h2,h3,h4⟩
 .exact Or.inr ⟨h1,h2,h4⟩
def OH (a b:List UInt8) (k:Nat):List UInt8:=if k=0 then a else b
def St (a b:List UInt8) (k:Nat) (s:SB) (x:Int):Prop:=
 (k=0/\s=j0/\x=110)\/(k=1/\((qF a/\s=OW a/\x=0)\/(¬qF a/\s=j0/\x=110)))\/
 (k=2/\∃o,nH a b o/\s=qk o/\x=if o.isSome then 0 else 110)
theorem sK (h:fG l):0<(OW l).seq:=h.2.2.1.1.1
theorem St.take (h:St a b k s x) (hk:k<2) (hi:fG (OH a b k)) (hp:(OW (OH a b k)).seq%2=k) (Ns:s.seq<(OW (OH a b k)).seq):St a b (k+1) (OW (OH a b k)) 0:=by
 rcases h with⟨rfl,rfl,rfl⟩|⟨rfl,h⟩|⟨rfl,_⟩
 .exact Or.inr (Or.inl ⟨rfl,Or.inl ⟨⟨hi,hp⟩,rfl,rfl⟩⟩)
 .refine Or.inr (Or.inr ⟨rfl,some b,Or.inr (Or.inr ⟨rfl,⟨hi,hp⟩,?_⟩),rfl,rfl⟩)
  rintro⟨c0,cl⟩
  rcases h with⟨_,rfl,_⟩|⟨hn,_⟩
  .have aae:(OW a).seq<(OW b).seq:=Ns
   omega
  .exact hn c0
 .omega
theorem St.skip (h:St a b k s x) (hk:k<2) (OF:¬(fG (OH a b k)/\(OW (OH a b k)).seq%2=k/\s.seq<(OW (OH a b k)).seq)):St a b (k+1) s x:=by
 rcases h with⟨rfl,rfl,rfl⟩|⟨rfl,h⟩|⟨rfl,_⟩
 .exact Or.inr (Or.inl ⟨rfl,Or.inr ⟨fun hc=>OF ⟨hc.1,hc.2,sK hc.1⟩,rfl,rfl⟩⟩)
 .rcases h with⟨hc,rfl,rfl⟩|⟨hn,rfl,rfl⟩
  .exact Or.inr (Or.inr ⟨rfl,some a,Or.inr (Or.inl ⟨rfl,hc,fun hb=>OF ⟨hb.1.1,hb.1.2,hb.2⟩⟩),rfl,rfl⟩)
  .exact Or.inr (Or.inr ⟨rfl,none,Or.inl ⟨rfl,hn,fun hb=>OF ⟨hb.1,hb.2,sK hb.1⟩⟩,rfl,rfl⟩)
 .omega
theorem St.two (h:St a b 2 s x):∃o,nH a b o/\s=qk o/\x=if o.isSome then 0 else 110:=by
 rcases h with⟨h,_⟩|⟨h,_⟩|⟨_,h⟩
 .omega
 .omega
 .exact h
theorem St.done {v:Value} (h:St a b 2 s x) (hr:af w' v s.runs w.heap.size w'.heap.size) (hk:aa [] w w'):pe (.int .i64 0) (.int .i64 110) a b w (.returned (.tuple #[.agg (s.cells v),.int .i64 x])) w':=by
 obtain⟨o,h1,rfl,rfl⟩:=h.two
 exact⟨⟨o,v,h1,by cases o<;>rfl,hr⟩,hk⟩
theorem M33 (h:A:=by
 go_wp2_with fail
 go_roundw
 case rel=>exact⟨k+1,s,y,v,NU.out,by go_num,rfl,HT.out,hsq,og1,hr0.weaken (Md _) (by simp;omega) (Md _),ho1,Q6,XL⟩
 case measure=>(have hh:=NU.out;simp[intOf];omega)):A:=h
theorem La (a b:List UInt8) (w:World) (ha:a.length<=1000000) (hb:b.length<=1000000):
  Calls Tryz.prog 63 #[.string (bs a),.string (bs b)] w (pe (.int .i64 0) (.int .i64 110) a b w):=by
 obtain⟨o0,o1,o2⟩:=j9 w #[.int .u64 0,.int .i64 0,.int .i64 0,.int .i64 0,.int .i64 0,.slice none 0 0] #[.int .u64 0,.int .i64 0,.int .i64 0,.int .i64 0,.int .i64 0,.slice none 0 0] #[.string (bs a),.string (bs b)] 58 58 9
 have acd:∀k W,Calls Tryz.prog 121 #[.string (bs (OH a b k))] W (nL (.int .i64 0) (.int .i64 110) (OH a b k) W):=fun k W=>LV _ W (by unfold OH;split<;>assumption)
 have QJ:=fun n W (h:n<18446744073709551616)=>GT n W h
 have HG:=Mb acd
 have Tk:=Mb QJ
 clear acd QJ
 go_enter Tryz.func63,Tryz.ntmps63
 go_wp2_with fail
 go_loopw [7,17] (fun x i wr=>∃(k:Nat) (s:SB) (y:Int) (v:Value),k<=2/\i=.int .i64 k/\x=.int .i64 y/\St a b k s y/\s.seq<18446744073709551616/\ae wr (w.heap.size+1) #[.int .u64 s.seq,.int .i64 s.sectors,.int .i64 s.journal,.int .i64 s.used,.int .i64 s.size,v] 58/\af wr v s.runs (w.heap.size+3) wr.heap.size/\ae wr w.heap.size #[.int .u64 0,.int .i64 0,.int .i64 0,.int .i64 0,.int .i64 0,.slice none 0 0] 58/\ae wr (w.heap.size+2) #[.string (bs a),.string (bs b)] 9/\aa [] w wr) (fun _ i _=>2-(intOf i).toNat)
 case atStart=>exact⟨0,j0,110,_,by omega,rfl,rfl,Or.inl ⟨rfl,rfl,rfl⟩,by decide,o1,Or.inl ⟨rfl,_,_,rfl⟩,o0,o2,(((aa.refl _ _).alloc _).alloc _).alloc _⟩
 case round=>
  obtain⟨k,s,y,v,hk,rfl,rfl,N8,hsq,og,NT,ho,hs,hK⟩:=hrel
  by_cases Ns:k<2
  .have NW:wr.cell? ⟨w.heap.size+2,k,none⟩=some (.string (bs (OH a b k))):=by
    rcases(by omega:k=0\/k=1)with rfl|rfl
    .exact hs.cell 0 (by simp)
    .exact hs.cell 1 (by simp)
   have OM:=Mb N8
   have Tc:Hid (fG (OH a b k)->(OW (OH a b k)).seq%2=k->s.seq<(OW (OH a b k)).seq->St a b (k+1) (OW (OH a b k)) 0):=fun h1 h2 h3=>N8.take Ns h1 h2 h3
   have HSK:Hid (¬(fG (OH a b k)/\(OW (OH a b k)).seq%2=k/\s.seq<(OW (OH a b k)).seq)->St a b (k+1) s y):=fun h1=>N8.skip Ns h1
   have HQ:Hid (∀l,(OW l).seq<18446744073709551616):=fun l=>tT l 8 8
   have hG:=HG.out k
   have NU:=Mb Ns
   clear N8 HG o0 o1 o2
   generalize OH a b k=c at*
   go_wp2_with fail
   refine(hG wr).mono ?_;rintro e w1 hh
   rcases zN hh with⟨v1,hi,rfl,Vq,OY⟩|⟨hi,rfl,OY⟩
   .have hq:=HQ.out c
    have HI:=Mb hi
    unfold SB.cells
    clear hh hi NW OM hG HQ
    generalize OW c=d at*
    obtain⟨p1,c1,rfl⟩:=Vq.shape
    have XN:w.heap.size+3<=wr.heap.size:=by have:=hs.lt;omega
    have Su:=OY.size
    have on:=ae.new w1 #[.int .u64 d.seq,.int .i64 d.sectors,.int .i64 d.journal,.int .i64 d.used,.int .i64 d.size,.slice p1 d.runs.length c1] 58
    have og1:=(OY.own og (by simp)).alloc (.cells #[.int .u64 d.seq,.int .i64 d.sectors,.int .i64 d.journal,.int .i64 d.used,.int .i64 d.size,.slice p1 d.runs.length c1] 58)
    have ho1:=(OY.own ho (by simp)).alloc (.cells #[.int .u64 d.seq,.int .i64 d.sectors,.int .i64 d.journal,.int .i64 d.used,.int .i64 d.size,.slice p1 d.runs.length c1] 58)
    have Q6:=(OY.own hs (by simp)).alloc (.cells #[.int .u64 d.seq,.int .i64 d.sectors,.int .i64 d.journal,.int .i64 d.used,.int .i64 d.size,.slice p1 d.runs.length c1] 58)
    have XL:=(hK.trans OY).alloc (.cells #[.int .u64 d.seq,.int .i64 d.sectors,.int .i64 d.journal,.int .i64 d.used,.int .i64 d.size,.slice p1 d.runs.length c1] 58)
    have hr0:=NT.kept0 (OY.alloc (.cells #[.int .u64 d.seq,.int .i64 d.sectors,.int .i64 d.journal,.int .i64 d.used,.int .i64 d.size,.slice p1 d.runs.length c1] 58))
    have acY:=af.kept0 Vq ((aa.refl _ _).alloc (.cells #[.int .u64 d.seq,.int .i64 d.sectors,.int .i64 d.journal,.int .i64 d.used,.int .i64 d.size,.slice p1 d.runs.length c1] 58))
    obtain⟨x0,x1,x2,x3,x4,x5⟩:=on.c6
    obtain⟨y0,y1,y2,y3,y4,y5⟩:=og1.c6
    have zy:=og1.z6
    have QJ:=fun W=>Tk.out d.seq W hq
    clear Vq hK og ho hs NT OY on Tk
    by_cases hp:d.seq%2=k
    .rw[hp]at QJ
     by_cases hl:s.seq<d.seq
     .have HT:=Mb (Tc.out HI.out hp hl)
      have QZ:(s.seq:Int)<d.seq:=by omega
      clear hp hl Tc HSK HI
      go_wp2_with fail
      refine(QJ _).mono ?_;rintro e w' ⟨rfl,rfl⟩
      go_wp2_with fail
      have hS:=(aa.refl [w.heap.size+1] (w1.alloc (.cells #[.int .u64 d.seq,.int .i64 d.sectors,.int .i64 d.journal,.int .i64 d.used,.int .i64 d.size,.slice p1 d.runs.length c1] 58))).gC (b:=w.heap.size+1) (Or.inl (by simp)) (.int .u64 d.seq) (.int .i64 d.sectors) (.int .i64 d.journal) (.int .i64 d.used) (.int .i64 d.size) (.slice p1 d.runs.length c1)
      have YH:=acY.kept hS (fun x hx=>by simp at hx;omega)
      go_roundw
      case rel=>exact⟨k+1,d,0,_,NU.out,by go_num,rfl,HT.out,hq,og1.gC _ _ _ _ _ _,YH.weaken XN (by simp[World.setCell]) (Md _),ho1.ni (by omega) _ _ _ _ _ _,Q6.ni (by omega) _ _ _ _ _ _,XL.gC (Or.inr (by omega)) _ _ _ _ _ _⟩
      case measure=>(have hh:=NU.out;simp[intOf];omega)
     .have HT:=Mb (HSK.out (fun hx=>hl hx.2.2))
      have QZ:¬((s.seq:Int)<d.seq):=by omega
      clear hp hl Tc HSK HI
      go_wp2_with fail
      refine(QJ _).mono ?_;rintro e w' ⟨rfl,rfl⟩
      exact M33
    .have HT:=Mb (HSK.out (fun hx=>hp hx.2.1))
     have hp':(((d.seq%2:Nat):Int)==(k:Int))=false:=by rw[ME];omega
     clear hp Tc HSK HI
     generalize d.seq%2=m at*
     go_wp2_with fail
     refine(QJ _).mono ?_;rintro e w' ⟨rfl,rfl⟩
     exact M33
   .have HT:=Mb (HSK.out (fun hx=>hi hx.1))
    unfold SB.cells j0
    clear hh hi NW OM hG HQ Tc HSK
    have XN:w.heap.size+3<=wr.heap.size:=by have:=hs.lt;omega
    have Su:=OY.size
    have on:=ae.new w1 #[.int .u64 0,.int .i64 0,.int .i64 0,.int .i64 0,.int .i64 0,.slice none 0 0] 58
    have og1:=(OY.own og (by simp)).alloc (.cells #[.int .u64 0,.int .i64 0,.int .i64 0,.int .i64 0,.int .i64 0,.slice none 0 0] 58)
    have ho1:=(OY.own ho (by simp)).alloc (.cells #[.int .u64 0,.int .i64 0,.int .i64 0,.int .i64 0,.int .i64 0,.slice none 0 0] 58)
    have Q6:=(OY.own hs (by simp)).alloc (.cells #[.int .u64 0,.int .i64 0,.int .i64 0,.int .i64 0,.int .i64 0,.slice none 0 0] 58)
    have XL:=(hK.trans OY).alloc (.cells #[.int .u64 0,.int .i64 0,.int .i64 0,.int .i64 0,.int .i64 0,.slice none 0 0] 58)
    have hr0:=NT.kept0 (OY.alloc (.cells #[.int .u64 0,.int .i64 0,.int .i64 0,.int .i64 0,.int .i64 0,.slice none 0 0] 58))
    clear hK og ho hs NT OY on Tk
    exact M33
  .obtain rfl:k=2:=by omega
   obtain⟨p1,c1,rfl⟩:=NT.shape
   obtain⟨y0,y1,y2,y3,y4,y5⟩:=og.c6
   obtain⟨x0,x1,x2,x3,x4,x5⟩:=ho.c6
   have zo:=ho.z6
   have OM:=Mb N8
   have XN:w.heap.size+3<=wr.heap.size:=by have:=hs.lt;omega
   have hS:=(aa.refl [w.heap.size] wr).gC (b:=w.heap.size) (Or.inl (by simp)) (.int .u64 s.seq) (.int .i64 s.sectors) (.int .i64 s.journal) (.int .i64 s.used) (.int .i64 s.size) (.slice p1 s.runs.length c1)
   have YH:=NT.kept hS (fun x hx=>by simp at hx;omega)
   have Ri:=hK.gC (b:=w.heap.size) (Or.inr (Md _)) (.int .u64 s.seq) (.int .i64 s.sectors) (.int .i64 s.journal) (.int .i64 s.used) (.int .i64 s.size) (.slice p1 s.runs.length c1)
   clear N8 HG Tk o0 o1 o2 hS hK NT
   go_wp2_with fail
   refine Mx (v:=.tuple #[.agg #[.int .u64 s.seq,.int .i64 s.sectors,.int .i64 s.journal,.int .i64 s.used,.int .i64 s.size,.slice p1 s.runs.length c1],.int .i64 y]) ?_ ?_ ?_
   .exact ak Tryz.results63 rfl rfl (ho.gC _ _ _ _ _ _) Tryz.underlying58 rfl (by kernel_rfl)
   .rfl
   .exact OM.out.done (YH.weaken (by omega) (by simp[World.setCell]) (Md _)) Ri
end Go.Proofs.YtdkimcnlhmhpgaaGreat

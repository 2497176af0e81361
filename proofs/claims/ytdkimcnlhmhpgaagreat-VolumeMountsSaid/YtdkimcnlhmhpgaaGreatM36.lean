/- -/
import Derived.Test.YtdkimcnlhmhpgaaGreatM35
set_option maxHeartbeats 32000000
set_option maxRecDepth 100000
namespace Go.Proofs.YtdkimcnlhmhpgaaGreat
open Go.Proofs.Tryz Go.RowKit
variable {l a b:List UInt8} {w w':World} {x:Int} {k:Nat} {s:SB}
def ju (sq a b u z n:Nat):List UInt8:=fe++NT sq 8++NT a 4++NT b 4++NT u 4++NT z 4++NT n 4
theorem CD (sq a b u z:Nat) (l:List (Int×Int)) (hl:l.length<65536):ju sq a b u z l.length++eB l=(SB.mk sq a b u z l).body:=by
 have e:NT l.length 4=NT l.length 2++NT 0 2:=by
  have h1:l.length/256/256=0:=by rw[Nat.div_div_eq_div_mul];exact Nat.div_eq_of_lt hl
  simp only[NT]
  rw[h1];rfl
 unfold ju SB.body
 rw[e];simp
theorem ER (sq a b u z n:Nat):(ju sq a b u z n).length=36:=by unfold ju;simp[ak,fe]
theorem As (l:List (Int×Int)) (k:Nat) (h:k<l.length):eB (l.take (k+1))=eB (l.take k)++NT l[k].1.toNat 2++NT l[k].2.toNat 2:=by
 unfold eB;rw[MI h,M0,Nv,MW]
 congr 1
theorem iS (n:Nat) (h:n<18446744073709551616):IntKind.u64.wrap (n:Int)=n:=by
 exact adA
theorem GD (n:Nat) (w:World) (hn:n<18446744073709551616):
  am! 214 #[.int .u64 n,(2:Int)] w fun e w'=>e=.returned (.string (bs (NT n 2)))/\NP [] w w':=ry 2 n w hn _a
theorem GB (n:Nat) (w:World) (hn:n<18446744073709551616):
  am! 214 #[.int .u64 n,(4:Int)] w fun e w'=>e=.returned (.string (bs (NT n 4)))/\NP [] w w':=ry 4 n w hn _a
theorem KS (n:Nat) (w:World) (hn:n<18446744073709551616):
  am! 214 #[.int .u64 n,(8:Int)] w fun e w'=>e=.returned (.string (bs (NT n 8)))/\NP [] w w':=ry 8 n w hn _a
theorem KL (sq a b u z:Nat) (l:List (Int×Int)) (v:Value) (lo hi:Nat) (w:World) (h:af w v l lo hi) (hq:sq<18446744073709551616) (ha:a<=8192) (hb:b<=8192) (hu:u<=1048576) (hz:z<=1048576) (hl:l.length<=16)
  (Pf:∀k (hk:k<l.length),0<=l[k].1/\l[k].1<=8192/\0<=l[k].2/\l[k].2<=8192):
  am! 212 #[.agg #[.int .u64 (sq:Int),(a:Int),(b:Int),(u:Int),(z:Int),v]] w fun e w'=>e=.returned (.string (bs (SB.mk sq a b u z l).aT))/\NP [] w w':=by
 obtain⟨p,c,rfl⟩:=h.shape
 have Ss:=tK Pf
 clear Pf
 have o:=ae.new w #[.int .u64 (sq:Int),(a:Int),(b:Int),(u:Int),(z:Int),(p,l.length,c)] 58
 have hW0:NP [] w (w.alloc (.cells #[.int .u64 (sq:Int),(a:Int),(b:Int),(u:Int),(z:Int),(p,l.length,c)] 58)):=(NP.refl _ _).alloc _
 have hN8:=fun(n:Nat) W (hn:n<18446744073709551616) (hk:NP [] (w.alloc (.cells #[.int .u64 (sq:Int),(a:Int),(b:Int),(u:Int),(z:Int),(p,l.length,c)] 58)) W)=>(KS n W hn).mono fun e w' hh=>(show e=.returned (.string (bs (NT n 8)))/\NP [] (w.alloc (.cells #[.int .u64 (sq:Int),(a:Int),(b:Int),(u:Int),(z:Int),(p,l.length,c)] 58)) w'/\(w'.cell? w=some (.int .u64 (sq:Int))/\w'.cell? (aa w 1)=(a:Int)/\w'.cell? (aa w 2)=(b:Int)/\w'.cell? (aa w 3)=(u:Int)/\w'.cell? (aa w 4)=(z:Int)/\w'.cell? (aa w 5)=(p,l.length,c))from⟨hh.1,hk.trans hh.2,((hk.trans hh.2).own o _b).c6⟩)
 have hN4:=fun(n:Nat) W (hn:n<18446744073709551616) (hk:NP [] (w.alloc (.cells #[.int .u64 (sq:Int),(a:Int),(b:Int),(u:Int),(z:Int),(p,l.length,c)] 58)) W)=>(GB n W hn).mono fun e w' hh=>(show e=.returned (.string (bs (NT n 4)))/\NP [] (w.alloc (.cells #[.int .u64 (sq:Int),(a:Int),(b:Int),(u:Int),(z:Int),(p,l.length,c)] 58)) w'/\(w'.cell? w=some (.int .u64 (sq:Int))/\w'.cell? (aa w 1)=(a:Int)/\w'.cell? (aa w 2)=(b:Int)/\w'.cell? (aa w 3)=(u:Int)/\w'.cell? (aa w 4)=(z:Int)/\w'.cell? (aa w 5)=(p,l.length,c))from⟨hh.1,hk.trans hh.2,((hk.trans hh.2).own o _b).c6⟩)
 have hN2:=fun(n:Nat) W (hn:n<18446744073709551616) (hk:NP [] (w.alloc (.cells #[.int .u64 (sq:Int),(a:Int),(b:Int),(u:Int),(z:Int),(p,l.length,c)] 58)) W)=>(GD n W hn).mono fun e w' hh=>(show e=.returned (.string (bs (NT n 2)))/\NP [] (w.alloc (.cells #[.int .u64 (sq:Int),(a:Int),(b:Int),(u:Int),(z:Int),(p,l.length,c)] 58)) w'/\(w'.cell? w=some (.int .u64 (sq:Int))/\w'.cell? (aa w 1)=(a:Int)/\w'.cell? (aa w 2)=(b:Int)/\w'.cell? (aa w 3)=(u:Int)/\w'.cell? (aa w 4)=(z:Int)/\w'.cell? (aa w 5)=(p,l.length,c))from⟨hh.1,hk.trans hh.2,((hk.trans hh.2).own o _b).c6⟩)
 have s0:(bs (NT sq 8)).size=8:=_q
 have s1:(bs (NT a 4)).size=4:=_q
 have s2:(bs (NT b 4)).size=4:=_q
 have s3:(bs (NT u 4)).size=4:=_q
 have s4:(bs (NT z 4)).size=4:=_q
 have s5:(bs (NT l.length 4)).size=4:=_q
 have Xu:bs fe++bs (NT sq 8)++bs (NT a 4)++bs (NT b 4)++bs (NT u 4)++bs (NT z 4)++bs (NT l.length 4)=bs (ju sq a b u z l.length):=by
  simp only[aw];rfl
 have acB:=tK Xu
 have h0:=fun W hk=>hN8 sq W hq hk
 have h1:=fun W hk=>hN4 a W _a hk
 have h2:=fun W hk=>hN4 b W _a hk
 have h3:=fun W hk=>hN4 u W _a hk
 have h4:=fun W hk=>hN4 z W _a hk
 have h5:=fun W hk=>hN4 l.length W _a hk
 have⟨H0,H1,H2,H3,H4,H5⟩:=gj! h0 h1 h2 h3 h4 h5
 have w1:=iS a _a
 have w2:=iS b _a
 have w3:=iS u _a
 have w4:=iS z _a
 have w5:=iS l.length _a
 have Rs:=tK hN2
 clear hN8 hN4 hN2 Xu h0 h1 h2 h3 h4 h5
 generalize bs (NT sq 8)=N0 at*
 generalize bs (NT a 4)=N1 at*
 generalize bs (NT b 4)=N2 at*
 generalize bs (NT u 4)=N3 at*
 generalize bs (NT z 4)=N4 at*
 generalize bs (NT l.length 4)=N5 at*
 have⟨d0,d1,d2,d3,d4,d5⟩:=o.c6
 go_enter func212,ntmps212
 go_upto_region 1 with fail
 go_cut [3] (fun v3 wx=>v3=.string (bs (ju sq a b u z l.length))/\NP [] (w.alloc (.cells #[.int .u64 (sq:Int),(a:Int),(b:Int),(u:Int),(z:Int),(p,l.length,c)] 58)) wx)
 case first=>
  go_region_held3 (fun w'=>w'.cell? w=some (.int .u64 (sq:Int))/\w'.cell? (aa w 1)=(a:Int)/\w'.cell? (aa w 2)=(b:Int)/\w'.cell? (aa w 3)=(u:Int)/\w'.cell? (aa w 4)=(z:Int)/\w'.cell? (aa w 5)=(p,l.length,c)) (go_keep)
   (first
    |(go_at_call 214;((with_reducible refine(H0.out _ ?_).mono ?_));(first|exact NP.refl _ _|exact(NP.refl _ _).drew|exact(NP.refl _ _).drewN _);rintro e w1 ⟨rfl,kk0,q0,q1,q2,q3,q4,q5⟩)
    |(go_at_call 214;((with_reducible refine(H1.out _ ?_).mono ?_));(first|exact kk0|exact kk0.drew|exact kk0.drewN _);rintro e w1 ⟨rfl,Sd,q0,q1,q2,q3,q4,q5⟩)
    |(go_at_call 214;((with_reducible refine(H2.out _ ?_).mono ?_));(first|exact Sd|exact Sd.drew|exact Sd.drewN _);rintro e w1 ⟨rfl,kk2,q0,q1,q2,q3,q4,q5⟩)
    |(go_at_call 214;((with_reducible refine(H3.out _ ?_).mono ?_));(first|exact kk2|exact kk2.drew|exact kk2.drewN _);rintro e w1 ⟨rfl,Ti,q0,q1,q2,q3,q4,q5⟩)
    |(go_at_call 214;((with_reducible refine(H4.out _ ?_).mono ?_));(first|exact Ti|exact Ti.drew|exact Ti.drewN _);rintro e w1 ⟨rfl,kk4,q0,q1,q2,q3,q4,q5⟩)
    |(go_at_call 214;((with_reducible refine(H5.out _ ?_).mono ?_));(first|exact kk4|exact kk4.drew|exact kk4.drewN _);rintro e w1 ⟨rfl,Sp,q0,q1,q2,q3,q4,q5⟩))
  all_goals go_wp2_with fail
  all_goals go_meet
  all_goals exact⟨by rw[<-acB.out];rfl,by first|exact Sp|exact Sp.drew|exact Sp.drewN _⟩
 case rest=>
  obtain⟨rfl,Zb⟩:=hcut
  have ho:=Zb.own o _b
  have⟨d0,d1,d2,d3,d4,d5⟩:=ho.c6
  clear H0 H1 H2 H3 H4 H5 acB s0 s1 s2 s3 s4 s5 w1 w2 w3 w4 w5
  have Rq:=ER sq a b u z l.length
  have Tr:=CD sq a b u z l _a
  have Uq:=rW (SB.mk sq a b u z l)
  have U5:=fun w=>KT (bs (SB.mk sq a b u z l).body) 124 w (by rw[NQ,Uq];simp only;omega) _a
  rw[cC]at U5
  have Ug:=rR (SB.mk sq a b u z l).body (by rw[Uq];simp only;omega)
  have Qe:=fun w=>Au (bs (Pg (SB.mk sq a b u z l).body 124)) w (by rw[NQ,Ug];omega)
  rw[cC]at Qe
  have VE:=iJ (Pg (SB.mk sq a b u z l).body 124)
  have acE:=fun w=>GB (PE (Pg (SB.mk sq a b u z l).body 124)) w _a
  have aai:Hid (bs (Pg (SB.mk sq a b u z l).body 124)++bs (NT (PE (Pg (SB.mk sq a b u z l).body 124)) 4)=bs (SB.mk sq a b u z l).aT):=by
   show bs _++bs _=_;rw[aw];rfl
  have Qc:(bs (Pg (SB.mk sq a b u z l).body 124)).size=124:=by rw[NQ,Ug]
  have Qx:(bs (NT (PE (Pg (SB.mk sq a b u z l).body 124)) 4)).size=4:=_q
  have⟨HB,Rf⟩:=_f Tr Rq
  clear Tr Rq Uq Ug
  generalize hSEC:(SB.mk sq a b u z l).aT=SEC at*
  have adR:=tK hSEC
  clear hSEC
  generalize PE (Pg (SB.mk sq a b u z l).body 124)=cr at*
  generalize Pg (SB.mk sq a b u z l).body 124=FL at*
  go_wp2_with fail
  go_loopw [3,4] (fun t i wr=>∃k:Nat,k<=l.length/\i=(k:Int)/\t=.string (bs (ju sq a b u z l.length++eB (l.take k)))/\NP [] w wr/\NP [] (w.alloc (.cells #[.int .u64 (sq:Int),(a:Int),(b:Int),(u:Int),(z:Int),(p,l.length,c)] 58)) wr) (fun _ i _=>l.length-(intOf i).toNat)
  case atStart=>exact⟨0,_a,rfl,by simp[eB],hW0.trans Zb,Zb⟩
  case round=>
   obtain⟨k,hk,rfl,rfl,hK,QJ⟩:=hrel
   have⟨d0,d1,d2,d3,d4,d5⟩:=(QJ.own o _b).c6
   by_cases NV:k<l.length
   .obtain⟨b',off,rfl,c0,c1,UR,hlc,PT⟩:=(h.kept0 hK).at_ k NV
    have Tj:=Ss.out k NV
    have Vw:=As l k NV
    have⟨n1,QX⟩:=MM Tj.1
    have⟨n2,QU⟩:=MM Tj.2.2.1
    rw[QX]at c0 Vw Tj
    rw[QU]at c1 Vw Tj
    rw[Nw,Nw]at Vw
    have Tz:Hid (bs (ju sq a b u z l.length++eB (l.take k))++bs (NT n1 2)++bs (NT n2 2)=bs (ju sq a b u z l.length++eB (l.take (k+1)))):=by
     show _=_;rw[aw,aw,Vw];simp only[MW]
    have e1:=iS n1 _a
    have e2:=iS n2 _a
    have y1:(bs (NT n1 2)).size=2:=_q
    have y2:(bs (NT n2 2)).size=2:=_q
    have y0:(bs (ju sq a b u z l.length++eB (l.take k))).size<=1000:=by rw[NQ,tN,Rf.out,uF,MO];omega
    have hh:=fun(n:Nat) W (hn:n<18446744073709551616) (hkx:NP [] wr W)=>(GD n W hn).mono fun e w' hh=>(show e=.returned (.string (bs (NT n 2)))/\NP [] wr w'/\(w'.cell? (aa w 5)=some (.slice (some (aa b' off)) l.length c)/\w'.cell? (aa b' (off+k*2))=(n1:Int)/\w'.cell? (aa b' (off+k*2+1))=(n2:Int))from⟨hh.1,hkx.trans hh.2,by
     have Xm:=hkx.trans hh.2
     refine⟨((QJ.trans Xm).own o _b).c6.2.2.2.2.2,?_,?_⟩
     .rw[Xm.cell UR _b];exact c0
     .rw[Xm.cell UR _b];exact c1⟩)
    have g1:=fun W hk=>hh n1 W _a hk
    have g2:=fun W hk=>hh n2 W _a hk
    have⟨G1,G2⟩:=_f g1 g2
    have i1:(k:Int)<l.length:=_a
    clear Vw QX QU hh g1 g2 d0 d1 d2 d3 d4
    generalize bs (ju sq a b u z l.length++eB (l.take k))=T0 at*
    generalize hT1:bs (ju sq a b u z l.length++eB (l.take (k+1)))=T1 at*
    have Wf:=tK hT1
    clear hT1
    generalize bs (NT n1 2)=M1 at*
    generalize bs (NT n2 2)=M2 at*
    have yy:(T0++M1).size=T0.size+M1.size:=ByteArray.size_append
    have qc1:∀W,(Op.stringOp .add T0 M1).run prog W=.ok (.string (T0++M1)) W:=fun W=>by first|(simp[Op.stringOp];omega)
    have qc2:∀W,(Op.stringOp .add (T0++M1) M2).run prog W=.ok (.string (T0++M1++M2)) W:=fun W=>by first|(simp[Op.stringOp];omega)
    clear yy
    go_wp2_with fail
    go_region_held3 (fun w'=>w'.cell? (aa w 5)=some (.slice (some (aa b' off)) l.length c)/\w'.cell? (aa b' (off+k*2))=(n1:Int)/\w'.cell? (aa b' (off+k*2+1))=(n2:Int)) (go_keep)
     (first
      |(go_at_call 214;((with_reducible refine(G1.out _ ?_).mono ?_));(first|exact NP.refl _ _|exact(NP.refl _ _).drew|exact(NP.refl _ _).drewN _);rintro e w1 ⟨rfl,Sd,q0,q1,q2⟩)
      |(go_at_call 214;((with_reducible refine(G2.out _ ?_).mono ?_));(first|exact Sd|exact Sd.drew|exact Sd.drewN _);rintro e w1 ⟨rfl,kk2,q0,q1,q2⟩))
    all_goals go_wp2_with fail
    all_goals go_roundw
    all_goals first
     |exact⟨k+1,_a,_j,by rw[Wf.out,<-Tz.out],hK.trans t!,QJ.trans t!⟩
     |(simp[intOf];omega)
   .obtain rfl:k=l.length:=_a
    have ef:ju sq a b u z l.length++eB (l.take l.length)=(SB.mk sq a b u z l).body:=by rw[MU];exact HB.out
    rw[ef]at*
    clear ef
    generalize (SB.mk sq a b u z l).body=BD at*
    have e3:=iS cr _a
    go_wp2_with fail
    refine(U5 _).mono ?_;rintro e w3 ⟨rfl,P6⟩
    go_wp2_with fail
    refine(Qe _).mono ?_;rintro e w4 ⟨rfl,Qo⟩
    go_wp2_with fail
    refine(acE _).mono ?_;rintro e w5 ⟨rfl,QI⟩
    go_wp2_with fail
    go_ret
    exact⟨by rw[adR.out,<-aai.out];rfl,((hK.trans P6).trans Qo).trans QI⟩
theorem Mc (s:SB) (v:Value) (lo hi:Nat) (w:World) (h:af w v s.runs lo hi) (hm:s.may) (hq:s.seq<18446744073709551616):
  am! 212 #[.agg (s.cells v)] w fun e w'=>e=.returned s.aT/\NP [] w w':=by
 obtain⟨⟨g1,g2,g3,g4,g5,g6,g7,g8,g9,g10⟩,hL,_⟩:=hm
 have hLO:=fJ (MG _) hL
 obtain⟨sq,a,b,u,z,l⟩:=s
 simp only at*
 obtain⟨a,rfl⟩:=MM (show 0<=a by omega)
 obtain⟨b,rfl⟩:=MM (show 0<=b by omega)
 obtain⟨u,rfl⟩:=MM (show 0<=u by omega)
 obtain⟨z,rfl⟩:=MM (show 0<=z by omega)
 exact KL sq a b u z l v lo hi w h hq _a _a _a _a g10 (fun k hk=>by
  have:=dN.1 (hLO k hk)
  omega)
theorem JS (l:List UInt8) (a:Nat) (h:a+2<=l.length):le l a 2=(l[a]' _a).toNat+256*(l[a+1]' _a).toNat:=by
 unfold le
 rw[List.drop_eq_getElem_cons _a,List.drop_eq_getElem_cons _a]
 show RN [l[a],l[a+1]]=_
 simp only[RN];omega
def mg (l:List UInt8):SB:=⟨le l 8 8,(le l 16 4:Nat),(le l 20 4:Nat),(le l 24 4:Nat),(le l 28 4:Nat),Pd l (min (le l 32 2) 16)⟩
theorem rS (h:le l 32 2<=16):mg l=PS l:=by
 unfold mg PS;rw[Nat.min_eq_left h]
theorem Io (h:l.length=128):ff l↔(mg l).may/\(mg l).aT=l:=by
 constructor
 .rintro⟨_,h1,h2,h3⟩
  rw[rS h1];exact⟨h2,h3⟩
 .rintro⟨h2,h3⟩
  have h1:le l 32 2<=16:=by
   have e1:(mg l).runs.length=min (le l 32 2) 16:=jP l _
   have e2:=Cb (mg l) _a
   rw[h3,e1]at e2
   omega
  rw[rS h1]at h2 h3
  exact⟨h,h1,h2,h3⟩
theorem qi (b k n:Nat) (l:List UInt8) (w:World) (hR:aK w b (l.drop k) 0) (h:k+n<=l.length) (hn:n<=8):
  am! 202 #[b,(n:Int)] w fun e w'=>e=.returned (.int .u64 (le l k n))/\aK w' b (l.drop (k+n)) 0/\NP [b] w w':=by
 have hu:=sD b n (l.drop k) 0 w hR hn
 have e:N6 n (l.drop k) 0=(le l k n,l.drop (k+n),0):=by
  exact adu
 rw[e]at hu
 exact hu
theorem Ji (b:Nat) (l:List UInt8) (w:World) (hR:aK w b l 0) (h:8<=l.length):
  am! 203 #[b,(8:Int)] w fun e w'=>e=.returned (.string (bs (l.take 8)))/\aK w' b (l.drop 8) 0/\NP [b] w w':=by
 have hu:=mH b l 0 8 w hR
 have e:Ol 8 l 0=(l.take 8,l.drop 8,0):=by
  unfold Ol
  rw[if_neg _b,if_neg _a,if_neg _a];rfl
 rw[e]at hu
 exact hu
theorem aK.alloc {b:Nat} (h:aK w b l x) (o:Obj):aK (w.alloc o) b l x:=h.map fun _ k=>k.alloc o
theorem KJ {w:World} {b:Nat} {l:List UInt8} (o:ae w b #[l,(0:Int),(0:Int)] 263) (hl:l.length<=1000000):aK w b l 0:=
 ⟨l,0,o,Nb _,hl,rfl,fun h=>absurd rfl h⟩
def IS (s:SB) (w:World) (e:Ending) (w':World):Prop:=((s.may/\e=true)\/(¬s.may/\e=false))/\NP [] w w'
theorem Jp (s:SB) (v:Value) (lo hi:Nat) (w:World) (h:af w v s.runs lo hi) (hl:s.runs.length<=1000000):
  am! 249 #[.agg (s.cells v)] w (IS s w):=by
 by_cases OF:s.dD
 .have hc:=s.ma
  rcases hc with⟨hy,_⟩|⟨_,g1,g2,g3,g4,g5,g6,g7,g8,g9,g10⟩
  .exact absurd OF hy
  .have o:=ae.new w (s.cells v) 58
   have hR:=fun W (hk:NP [] (w.alloc (.cells (s.cells v) 58)) W)=>(Gy v s.runs lo hi (2+s.journal) s.sectors W (h.kept0 (((NP.refl _ _).alloc _).trans hk)) hl _a _a _a g3).mono fun e w' hh=>(show e=.returned (.bool (lies (2+s.journal) s.sectors s.runs&&decide (s.runs.length<=16)))/\NP [] (w.alloc (.cells (s.cells v) 58)) w' from⟨hh.1,hk.trans hh.2⟩)
   have hS:=fun W (hL:lies (2+s.journal) s.sectors s.runs=true) (hk:NP [] (w.alloc (.cells (s.cells v) 58)) W)=>zg v s.runs lo hi (2+s.journal) s.sectors W (h.kept0 (((NP.refl _ _).alloc _).trans hk)) hl hL _a g3
   have hN:=fun w=>Aw s.size w _o
   have e16:decide (s.runs.length<=16)=true:=MV g10
   rw[e16]at hR
   have Sv:lies (2+s.journal) s.sectors s.runs=true->NZ s.runs=On s.size->s.may:=fun a b=>⟨OF,a,b⟩
   have QX:lies (2+s.journal) s.sectors s.runs=false->¬s.may:=fun a hm=>by rw[hm.2.1]at a;cases a
   have QU:NZ s.runs≠On s.size->¬s.may:=fun a hm=>a hm.2.2
   have⟨HY,Ts,Rs⟩:=gg! Sv QX QU
   obtain⟨p,c,rfl⟩:=h.shape
   clear Sv QX QU OF e16 h
   unfold SB.cells at*
   generalize s.seq=sq at*
   generalize s.sectors=a at*
   generalize s.journal=b at*
   generalize s.used=u at*
   generalize s.size=z at*
   generalize s.runs=l at*
   have hW0:NP [] w (w.alloc (.cells #[.int .u64 (sq:Int),a,b,u,z,(p,l.length,c)] 58)):=(NP.refl _ _).alloc _
   cases hL:lies (2+b) a l
   .rw[hL]at hR
    have HX:=tK (Ts.out hL)
    have HR:=tK hR
    have hw:IntKind.i64.wrap (2+b)=2+b:=IntWalk.i64_in _ _a
    clear hL hS hN hR
    go_enter func249,ntmps249
    go_wp2_with fail
    first|(go_region_with (go_at_call 283;((with_reducible refine(HR.out _ ?_).mono ?_));(first|exact NP.refl _ _|exact(NP.refl _ _).drew|exact(NP.refl _ _).drewN _);rintro e w1 ⟨rfl,OP⟩;have⟨d0,d1,d2,d3,d4,d5⟩:=(OP.own o _b).c6))|fail
    all_goals go_wp2_with fail
    all_goals go_ret
    all_goals exact⟨Or.inr ⟨HX.out,rfl⟩,hW0.trans _O⟩
   .rw[hL]at hR
    have HS:=tK (fun W=>hS W hL)
    have HR:=tK hR
    have hw:IntKind.i64.wrap (2+b)=2+b:=IntWalk.i64_in _ _a
    have⟨d0,d1,d2,d3,d4,d5⟩:=o.c6
    by_cases hq:NZ l=On z
    .have HX:=tK (HY.out hL hq)
     have Wu:(NZ l==On z)=true:=by simpa using hq
     clear hL hS hR hq
     generalize NZ l=m at*
     generalize On z=n at*
     go_enter func249,ntmps249
     go_wp2_with fail
     go_region_held3 (fun w'=>w'.cell? (aa w 1)=a/\w'.cell? (aa w 2)=b/\w'.cell? (aa w 4)=z/\w'.cell? (aa w 5)=(p,l.length,c)) (first|go_keep|(refine⟨?_,?_,?_,?_⟩<;>assumption))
      (first
       |(go_at_call 283;((with_reducible refine(HR.out _ ?_).mono ?_));(first|exact NP.refl _ _|exact(NP.refl _ _).drew|exact(NP.refl _ _).drewN _);rintro e w1 ⟨rfl,OP⟩;have⟨d0,d1,d2,d3,d4,d5⟩:=(OP.own o _b).c6)
       |(go_at_call 284;((with_reducible refine(HS.out _ ?_).mono ?_));(first|exact OP|exact OP.drew|exact OP.drewN _);rintro e w' ⟨rfl,rfl⟩)
       |(go_at_call 146;((with_reducible refine(hN _).mono ?_));rintro e w' ⟨rfl,rfl⟩))
     all_goals go_wp2_with fail
     all_goals go_ret
     all_goals exact⟨Or.inl ⟨HX.out,rfl⟩,hW0.trans _O⟩
    .have HX:=tK (Rs.out hq)
     have Wu:(NZ l==On z)=false:=by simpa using hq
     clear hL hS hR hq
     generalize NZ l=m at*
     generalize On z=n at*
     go_enter func249,ntmps249
     go_wp2_with fail
     go_region_held3 (fun w'=>w'.cell? (aa w 1)=a/\w'.cell? (aa w 2)=b/\w'.cell? (aa w 4)=z/\w'.cell? (aa w 5)=(p,l.length,c)) (first|go_keep|(refine⟨?_,?_,?_,?_⟩<;>assumption))
      (first
       |(go_at_call 283;((with_reducible refine(HR.out _ ?_).mono ?_));(first|exact NP.refl _ _|exact(NP.refl _ _).drew|exact(NP.refl _ _).drewN _);rintro e w1 ⟨rfl,OP⟩;have⟨d0,d1,d2,d3,d4,d5⟩:=(OP.own o _b).c6)
       |(go_at_call 284;((with_reducible refine(HS.out _ ?_).mono ?_));(first|exact OP|exact OP.drew|exact OP.drewN _);rintro e w' ⟨rfl,rfl⟩)
       |(go_at_call 146;((with_reducible refine(hN _).mono ?_));rintro e w' ⟨rfl,rfl⟩))
     all_goals go_wp2_with fail
     all_goals go_ret
     all_goals exact⟨Or.inr ⟨HX.out,rfl⟩,hW0.trans _O⟩
 .exact(Hj s v lo hi w h OF hl).mono fun e w' hh=>⟨Or.inr ⟨fun hm=>OF hm.1,hh.1⟩,hh.2⟩
theorem B4 (a b:Nat) (ha:a<256) (hb:b<256):wrap64 (wrap64 (a:Int)+wrap64 (256*wrap64 (b:Int)))=((a+256*b:Nat):Int):=by
 have e1:wrap64 (a:Int)=a:=IntWalk.wrap64_in _ ⟨_a,_a⟩
 have e2:wrap64 (b:Int)=b:=IntWalk.wrap64_in _ ⟨_a,_a⟩
 have e3:wrap64 (256*(b:Int))=256*b:=IntWalk.wrap64_in _ ⟨_a,_a⟩
 rw[e1,e2,e3,IntWalk.wrap64_in _ ⟨_a,_a⟩];omega
theorem zB (l:List UInt8) (i j:Nat) (h:l.length=128) (hi:i<(bs l).size) (hj:j<(bs l).size) (VM:j=i+1):
  wrap64 (wrap64 ((bs l)[i].toNat:Int)+wrap64 (256*wrap64 ((bs l)[j].toNat:Int)))=((le l i 2:Nat):Int):=by
 subst VM
 have hz:(bs l).size=128:=by rw[NQ,h]
 rw[B4 _ _ (bs l)[i].toNat_lt (bs l)[i+1].toNat_lt,JS l i _a]
 rfl
theorem Ev (l:List UInt8) (w:World) (h:l.length≠128) (_:l.length<=1000000):
  am! 199 #[l] w fun e w'=>e=.returned (.tuple #[.agg (gF.cells ()),false])/\NP [] w w':=by
 have hz:(bs l).size=l.length:=NQ l
 have o:=ae.new w #[.int .u64 0,(0:Int),(0:Int),(0:Int),(0:Int),()] 58
 have Pb:((l.length:Int)==128)=false:=_e
 have⟨d0,d1,d2,d3,d4,d5⟩:=o.c6
 have z:=o.z6
 clear h
 generalize l.length=n at*
 go_enter func199,ntmps199
 go_wp2_with fail
 refine MN (v:=.tuple #[.agg #[.int .u64 0,(0:Int),(0:Int),(0:Int),(0:Int),()],false]) ?_ ?_ ?_
 .exact aj results199 rfl rfl o underlying58 rfl _c
 .rfl
 .exact⟨rfl,(NP.refl _ _).alloc _⟩
theorem Ew (l:List UInt8) (w:World) (h:l.length=128):
  am! 199 #[l] w (jH true false l w):=by
 have hz:(bs l).size=128:=by rw[NQ,h]
 have⟨o,oR⟩:=ch w #[.int .u64 0,(0:Int),(0:Int),(0:Int),(0:Int),()] #[l,(0:Int),(0:Int)] 58 263
 have UM:=KJ oR _a
 have We:=tK (Io h)
 have abp:Hid (ff l->PS l=mg l):=fun hh=>(rS hh.2.1).symm
 have H1:=tK h
 have b8:le l 8 8<18446744073709551616:=iN l 8 8
 have b16:le l 16 4<4294967296:=iN l 16 4
 have b20:le l 20 4<4294967296:=iN l 20 4
 have b24:le l 24 4<4294967296:=iN l 24 4
 have b28:le l 28 4<4294967296:=iN l 28 4
 have b32:le l 32 2<65536:=iN l 32 2
 clear h
 have o8:=fun W hR=>qi (w.heap.size+1) 8 8 l W hR _r _a
 have o16:=fun W hR=>qi (w.heap.size+1) 16 4 l W hR _r _a
 have o20:=fun W hR=>qi (w.heap.size+1) 20 4 l W hR _r _a
 have o24:=fun W hR=>qi (w.heap.size+1) 24 4 l W hR _r _a
 have o28:=fun W hR=>qi (w.heap.size+1) 28 4 l W hR _r _a
 have o32:=fun W hR=>qi (w.heap.size+1) 32 2 l W hR _r _a
 have HD:Hid (mg l=⟨le l 8 8,(le l 16 4:Nat),(le l 20 4:Nat),(le l 24 4:Nat),(le l 28 4:Nat),Pd l (min (le l 32 2) 16)⟩):=rfl
 have ht:=fun W hR=>Ji (w.heap.size+1) l W hR _r
 generalize le l 8 8=n0 at*
 generalize le l 16 4=n1 at*
 generalize le l 20 4=n2 at*
 generalize le l 24 4=n3 at*
 generalize le l 28 4=n4 at*
 generalize le l 32 2=n5 at*
 have⟨O8,O16,O20,O24,O28,O32,HT⟩:=gk! o8 o16 o20 o24 o28 o32 ht
 clear o8 o16 o20 o24 o28 o32 ht
 go_enter func199,ntmps199
 go_wp2_with fail
 refine(HT.out _ UM).mono ?_;rintro e w1 ⟨rfl,hR1,OP⟩
 have o1:=OP.own o _b
 have Uo:NP [] w w1:=(((NP.refl _ _).alloc _).alloc _).call OP _b
 clear UM OP o oR
 go_wp2_with fail
 refine(O8.out _ hR1).mono ?_;rintro e w2 ⟨rfl,Qn,PY⟩
 have o2:=PY.own o1 _b
 have QJ:NP [] w w2:=Uo.call PY _b
 have Q4:=aK.alloc Qn (.cells #[.int .u64 n0,(0:Int),(0:Int),(0:Int),(0:Int),()] 58)
 have WI:=ae.new w2 #[.int .u64 n0,(0:Int),(0:Int),(0:Int),(0:Int),()] 58
 have YI:=o2.alloc (.cells #[.int .u64 n0,(0:Int),(0:Int),(0:Int),(0:Int),()] 58)
 have V4:=QJ.alloc (.cells #[.int .u64 n0,(0:Int),(0:Int),(0:Int),(0:Int),()] 58)
 have TI:w2.heap.size≠w.heap.size+1:=by have:=Qn.lt;omega
 have UK:w2.heap.size≠w.heap.size:=by have:=o2.lt;omega
 have hg3:w.heap.size<=w2.heap.size:=QJ.size
 have hg4:w.heap.size+2<=w2.heap.size:=by have:=Qn.lt;omega
 clear hR1 Qn PY o1 o2 Uo QJ H1
 go_wp2_with fail
 refine(O16.out _ Q4).mono ?_;rintro e w4 ⟨rfl,hq4,Qo⟩
 generalize hgg:w2.heap.size=g at*
 clear hgg
 have oq4:=Qo.own WI _e
 have ab7:=Qo.own YI _b
 have acW:NP [] w w4:=V4.call Qo _b
 have⟨x0,x1,x2,x3,x4,x5⟩:=oq4.c6
 have zx:=oq4.z6
 clear Q4 WI YI V4 Qo
 go_wp2_with fail
 have Ww:ae (w4.setCell (aa g 1) (n1:Int)) g #[.int .u64 n0,(n1:Int),(0:Int),(0:Int),(0:Int),()] 58:=oq4.set 1 (n1:Int)
 have So:=hq4.other (p:=(aa g 1)) (Ne.symm TI) (n1:Int)
 have Yk:=ab7.other (p:=(aa g 1)) (Ne.symm UK) (n1:Int)
 have X6:=acW.setCell (p:=(aa g 1)) (Or.inr hg3) (n1:Int)
 clear hq4 oq4 ab7 acW x0 x1 x2 x3 x4 x5 zx
 refine(O20.out _ So).mono ?_;rintro e w5 ⟨rfl,WO,QI⟩
 have oq5:=QI.own Ww _e
 have adi:=QI.own Yk _b
 have ada:NP [] w w5:=X6.call QI _b
 have⟨x0,x1,x2,x3,x4,x5⟩:=oq5.c6
 have zx:=oq5.z6
 clear So Ww Yk X6 QI
 go_wp2_with fail
 have Tv:ae (w5.setCell (aa g 2) (n2:Int)) g #[.int .u64 n0,(n1:Int),(n2:Int),(0:Int),(0:Int),()] 58:=oq5.set 2 (n2:Int)
 have Wh:=WO.other (p:=(aa g 2)) (Ne.symm TI) (n2:Int)
 have Sf:=adi.other (p:=(aa g 2)) (Ne.symm UK) (n2:Int)
 have hK5:=ada.setCell (p:=(aa g 2)) (Or.inr hg3) (n2:Int)
 clear WO oq5 adi ada x0 x1 x2 x3 x4 x5 zx
 refine(O24.out _ Wh).mono ?_;rintro e w6 ⟨rfl,hq6,Q7⟩
 have oq6:=Q7.own Tv _e
 have ab6:=Q7.own Sf _b
 have acw:NP [] w w6:=hK5.call Q7 _b
 have⟨x0,x1,x2,x3,x4,x5⟩:=oq6.c6
 have zx:=oq6.z6
 clear Wh Tv Sf hK5 Q7
 go_wp2_with fail
 have og6:ae (w6.setCell (aa g 3) (n3:Int)) g #[.int .u64 n0,(n1:Int),(n2:Int),(n3:Int),(0:Int),()] 58:=oq6.set 3 (n3:Int)
 have hR6:=hq6.other (p:=(aa g 3)) (Ne.symm TI) (n3:Int)
 have ho6:=ab6.other (p:=(aa g 3)) (Ne.symm UK) (n3:Int)
 have hK6:=acw.setCell (p:=(aa g 3)) (Or.inr hg3) (n3:Int)
 clear hq6 oq6 ab6 acw x0 x1 x2 x3 x4 x5 zx
 refine(O28.out _ hR6).mono ?_;rintro e w7 ⟨rfl,hq7,SV⟩
 have oq7:=SV.own og6 _e
 have ab8:=SV.own ho6 _b
 have ac9:NP [] w w7:=hK6.call SV _b
 have⟨x0,x1,x2,x3,x4,x5⟩:=oq7.c6
 have zx:=oq7.z6
 clear hR6 og6 ho6 hK6 SV
 go_wp2_with fail
 have og7:ae (w7.setCell (aa g 4) (n4:Int)) g #[.int .u64 n0,(n1:Int),(n2:Int),(n3:Int),(n4:Int),()] 58:=oq7.set 4 (n4:Int)
 have hR7:=hq7.other (p:=(aa g 4)) (Ne.symm TI) (n4:Int)
 have ho7:=ab8.other (p:=(aa g 4)) (Ne.symm UK) (n4:Int)
 have hK7:=ac9.setCell (p:=(aa g 4)) (Or.inr hg3) (n4:Int)
 clear hq7 oq7 ab8 ac9 x0 x1 x2 x3 x4 x5 zx
 refine(O32.out _ hR7).mono ?_;rintro e w8 ⟨rfl,hR8,hk8⟩
 have og8:=hk8.own og7 _e
 have ho8:=hk8.own ho7 _b
 have hK8:NP [] w w8:=hK7.call hk8 _b
 have hw8:w.heap.size+2<=w8.heap.size:=by have:=og8.lt;omega
 clear hR7 og7 ho7 hK7 hk8
 clear O8 O16 O20 O24 O28 O32 HT
 go_wp2_with fail
 go_loopw [7] (fun i wr=>∃(k:Nat) (v:Value),k<=min n5 16/\i=.int .u64 k/\ae wr g #[.int .u64 n0,(n1:Int),(n2:Int),(n3:Int),(n4:Int),v] 58/\wr.ownsRow (w.heap.size+2) 128 2 v k (NW (Pd l k))/\ae wr w #[.int .u64 0,(0:Int),(0:Int),(0:Int),(0:Int),()] 58/\NP [] w wr) (fun i _=>min n5 16-(intOf i).toNat)
 case atStart=>exact⟨0,_,_a,rfl,og8,Nf _ _ _ _,ho8,hK8⟩
 case round=>
  obtain⟨k,v,hk,rfl,og,Ot,ho,hK⟩:=hrel
  obtain⟨pv,cv,rfl⟩:=ah Ot
  by_cases NV:k<min n5 16
  .have k1:k<n5:=_a
   have k2:k<16:=_a
   have hz':((bs l).size:Int)=128:=by rw[hz];rfl
   have f36:(36+4*(k:Int)).toNat=36+4*k:=_a
   have f37:(37+4*(k:Int)).toNat=37+4*k:=_a
   have f38:(38+4*(k:Int)).toNat=38+4*k:=_a
   have f39:(39+4*(k:Int)).toNat=39+4*k:=_a
   have p36:36+4*(k:Int)<128:=_a
   have q36:0<=36+4*(k:Int):=_a
   have p37:37+4*(k:Int)<128:=_a
   have q37:0<=37+4*(k:Int):=_a
   have p38:38+4*(k:Int)<128:=_a
   have q38:0<=38+4*(k:Int):=_a
   have p39:39+4*(k:Int)<128:=_a
   have q39:0<=39+4*(k:Int):=_a
   have H36:=tK (zB l (36+4*k) (37+4*k) (by rw[<-NQ];exact hz) K! K! _a)
   have H38:=tK (zB l (38+4*k) (39+4*k) (by rw[<-NQ];exact hz) K! K! _a)
   have YE:Hid (Pd l (k+1)=Pd l k++[(((le l (36+4*k) 2:Nat):Int),((le l (38+4*k) 2:Nat):Int))]):=rfl
   obtain⟨i0,hi0,Rh,Qc,Qx⟩:=eV
   clear We HD abp og8 ho8 hK8 NV
   go_wp2_with fail
   go_region
   go_wp2_with fail
   go_region
   have E1:=H36.out
   have E2:=H38.out
   rw[E1,E2]
   clear E1 E2 H36 H38
   generalize le l (36+4*k) 2=m1 at*
   generalize le l (38+4*k) 2=m2 at*
   have WI:ae wr.drew.drew g #[.int .u64 n0,(n1:Int),(n2:Int),(n3:Int),(n4:Int),(pv,k,cv)] 58:=og
   have RF:wr.drew.drew.ownsRow (w.heap.size+2) 128 2 (pv,k,cv) k (NW (Pd l k)):=Ot
   have YI:ae wr.drew.drew w #[.int .u64 0,(0:Int),(0:Int),(0:Int),(0:Int),()] 58:=ho
   have V4:NP [] w wr.drew.drew:=hK.drew.drew
   clear og Ot ho hK
   generalize wr.drew.drew=w3 at*
   have hw3:w.heap.size+2<=w3.heap.size:=by have:=WI.lt;omega
   have q3:k+1<=maxLen:=_m
   have q4:(k+1)*16<=140737488355328:=_a
   have cg:w3.cell? (aa g 5)=(pv,k,cv):=ae.cell WI 5 _b
   go_wp2_with (at_builtin;go_must (refine MT _ rfl (.tmp 78) (.tmp 82) 56 rfl (w.heap.size+2) 128 i0 (.agg #[(0:Int),(0:Int)]) 2 16 underlying56 hi0 Rh Qc Qx rfl _d _ _ _ rfl (MH RF _) w3 1 1 [.int .i64 (m1:Int),.int .i64 (m2:Int)] rfl rfl ?c1 ?c2 ?c3 ?c4 ?c5 ?_))
   case c1=>exact World.news_of_block (Ns w3 _)
   case c2=>intro u hu;simp at hu;rcases hu with rfl|rfl<;>rfl
   case c3=>exact q3
   case c4=>exact q4
   case c5=>simp;omega
   intro v5 w5 o3 RQ _ _
   have Tv:=bW (MH RF _) RQ (WI.alloc _) _d
   have Sf:=bW (MH RF _) RQ (YI.alloc _) _d
   have hK5:NP [] w w5:=(V4.alloc _).grown RQ (fun j hj=>Or.inr (by have:=(ML RF j hj).1;omega))
   have hc5:w5.cell? (aa g 5)=(pv,k,cv):=ae.cell Tv 5 _b
   have hf5:w5.frozen? (aa g 5)=false:=Tv.free 5
   obtain⟨p5,cv5,rfl⟩:=ah o3
   clear RF RQ WI YI V4
   go_wp2_with fail
   have hg6:=Tv.set 5 (p5,k+1,cv5)
   have o6:=bT o3 (p:=(aa g 5)) (aB o3 Tv _d) (p5,k+1,cv5)
   have ec:NW (Pd l (k+1))=NW (Pd l k)++[.int .i64 (m1:Int),.int .i64 (m2:Int)]:=by rw[YE.out,bP]
   rw[<-ec]at o6
   go_roundw
   case rel=>exact⟨k+1,_,_a,_j,hg6,o6,Sf.other (p:=(aa g 5)) (Ne.symm UK) _,hK5.setCell (p:=(aa g 5)) (Or.inr hg3) _⟩
   case measure=>simp[intOf];omega
  .obtain rfl:k=min n5 16:=_a
   have hsb:=We.out
   have abc:=abp.out
   rw[HD.out]at hsb abc
   have Oe:=af.bB (l:=Pd l (min n5 16)) Ot
   have RV:(Pd l (min n5 16)).length<=16:=by rw[jP];omega
   generalize Pd l (min n5 16)=R at*
   have⟨Xt,aaC⟩:=_f hsb abc
   have⟨y0,y1,y2,y3,y4,y5⟩:=og.c6
   clear We HD abp og8 ho8 hK8 hsb abc Ot NV b16 b20 b24 b28 b32
   have Sk:(¬(((min n5 16:Nat):Int)<n5))\/((((min n5 16:Nat):Int)<n5)/\¬(((min n5 16:Nat):Int)<16)):=_a
   generalize min n5 16=m at*
   rcases Sk with RU|⟨RU,hc2⟩
   all_goals
    by_cases hm:(SB.mk n0 n1 n2 n3 n4 R).may
    .have Qy:am! 249 #[.agg #[.int .u64 (n0:Int),(n1:Int),(n2:Int),(n3:Int),(n4:Int),(pv,m,cv)]] wr fun e w'=>e=true/\NP [] wr w':=
      (Jp (SB.mk n0 n1 n2 n3 n4 R) _ _ _ wr Oe (by show R.length<=_;omega)).mono fun e w' hh=>⟨by
       rcases hh.1 with⟨_,e1⟩|⟨e1,_⟩
       .exact e1
       .exact absurd hm e1,hh.2⟩
     have Q0:∀W,NP [] wr W->am! 212 #[.agg #[.int .u64 (n0:Int),(n1:Int),(n2:Int),(n3:Int),(n4:Int),(pv,m,cv)]] W fun e w'=>e=.returned (.string (bs (SB.mk n0 n1 n2 n3 n4 R).aT))/\NP [] W w':=
      fun W hk=>Mc (SB.mk n0 n1 n2 n3 n4 R) _ _ _ W (Oe.kept0 hk) hm b8
     by_cases hs:(SB.mk n0 n1 n2 n3 n4 R).aT=l
     .have HS:Hid (ff l):=Xt.out.2 ⟨hm,hs⟩
      rw[hs]at Q0
      have HP:=tK Q0
      clear Q0 hm hs Xt
      go_wp2_with fail
      refine Qy.mono ?_;rintro e w4 ⟨rfl,Qo⟩
      have Ww:=Qo.own og _b
      have⟨y0,y1,y2,y3,y4,y5⟩:=Ww.c6
      go_wp2_with fail
      refine(HP.out _ Qo).mono ?_;rintro e w5 ⟨rfl,QI⟩
      have Tv:=QI.own Ww _b
      have Sf:=QI.own (Qo.own ho _b) _b
      have⟨y0,y1,y2,y3,y4,y5⟩:=Tv.c6
      have⟨x0,x1,x2,x3,x4,x5⟩:=Sf.c6
      have zo:=Sf.z6
      go_wp2_with fail
      have hS:=(NP.refl [w.heap.size] w5).bp (b:=w.heap.size) (Or.inl _b) (.int .u64 n0) (n1:Int) (n2:Int) (n3:Int) (n4:Int) (pv,m,cv)
      have PZ:=(Oe.kept0 (Qo.trans QI)).kept hS (fun x hx=>by simp at hx;omega)
      have hs5:=(Qo.trans QI).size
      refine MN (v:=.tuple #[.agg #[.int .u64 n0,(n1:Int),(n2:Int),(n3:Int),(n4:Int),(pv,m,cv)],true]) ?_ ?_ ?_
      .exact aj results199 rfl rfl (Sf.bp _ _ _ _ _ _) underlying58 rfl _c
      .rfl
      .exact⟨Or.inl ⟨HS.out,_,by rw[aaC.out HS.out];rfl,by rw[aaC.out HS.out];exact PZ.weaken _a (by simp[World.setCell];exact hs5) (MG _)⟩,((hK.trans Qo).trans QI).call hS (fun x hx=>by simp at hx;omega)⟩
     .have HN:Hid (¬ff l):=fun hh=>hs (Xt.out.1 hh).2
      have Pb:((bs (SB.mk n0 n1 n2 n3 n4 R).aT).toList==(bs l).toList)=false:=by rw[bj,bj];simpa using hs
      have HP:=tK Q0
      clear Q0 hm hs Xt
      generalize (SB.mk n0 n1 n2 n3 n4 R).aT=SE at*
      go_wp2_with fail
      refine Qy.mono ?_;rintro e w4 ⟨rfl,Qo⟩
      have Ww:=Qo.own og _b
      have⟨y0,y1,y2,y3,y4,y5⟩:=Ww.c6
      go_wp2_with fail
      refine(HP.out _ Qo).mono ?_;rintro e w5 ⟨rfl,QI⟩
      have Sf:=QI.own (Qo.own ho _b) _b
      have⟨x0,x1,x2,x3,x4,x5⟩:=Sf.c6
      have zo:=Sf.z6
      go_wp2_with fail
      refine MN (v:=.tuple #[.agg #[.int .u64 0,(0:Int),(0:Int),(0:Int),(0:Int),()],false]) ?_ ?_ ?_
      .exact aj results199 rfl rfl (Sf.bp _ _ _ _ _ _) underlying58 rfl _c
      .rfl
      .exact ji HN.out (((hK.trans Qo).trans QI).bp (Or.inr (MG _)) _ _ _ _ _ _)
    .have HN:Hid (¬ff l):=fun hh=>hm (Xt.out.1 hh).1
     have Qy:am! 249 #[.agg #[.int .u64 (n0:Int),(n1:Int),(n2:Int),(n3:Int),(n4:Int),(pv,m,cv)]] wr fun e w'=>e=false/\NP [] wr w':=
      (Jp (SB.mk n0 n1 n2 n3 n4 R) _ _ _ wr Oe (by show R.length<=_;omega)).mono fun e w' hh=>⟨by
       rcases hh.1 with⟨e1,_⟩|⟨_,e1⟩
       .exact absurd e1 hm
       .exact e1,hh.2⟩
     clear hm Xt
     go_wp2_with fail
     refine Qy.mono ?_;rintro e w5 ⟨rfl,QI⟩
     have Sf:=QI.own ho _b
     have⟨x0,x1,x2,x3,x4,x5⟩:=Sf.c6
     have zo:=Sf.z6
     go_wp2_with fail
     refine MN (v:=.tuple #[.agg #[.int .u64 0,(0:Int),(0:Int),(0:Int),(0:Int),()],false]) ?_ ?_ ?_
     .exact aj results199 rfl rfl (Sf.bp _ _ _ _ _ _) underlying58 rfl _c
     .rfl
     .exact ji HN.out ((hK.trans QI).bp (Or.inr (MG _)) _ _ _ _ _ _)
theorem Ml (l:List UInt8) (w:World) (hl:l.length<=1000000):am! 121 #[l] w (jH (0:Int) (110:Int) l w):=by
 by_cases h:l.length=128
 .exact EX l w h
 .exact(EW l w h hl).mono fun e w' hh=>⟨Or.inr ⟨fun hi=>h hi.1,hh.1⟩,hh.2⟩
theorem Jq (l:List UInt8) (w:World) (hl:l.length<=1000000):am! 199 #[l] w (jH true false l w):=by
 by_cases h:l.length=128
 .exact Ew l w h
 .exact(Ev l w h hl).mono fun e w' hh=>⟨Or.inr ⟨fun hi=>h hi.1,hh.1⟩,hh.2⟩
theorem jO {ok bad:Value} {e:Ending} (h:jH ok bad l w e w'):
  (∃v,ff l/\e=.returned (.tuple #[.agg ((PS l).cells v),ok])/\af w' v (PS l).runs w w'.heap.size/\NP [] w w')\/
  (¬ff l/\e=.returned (.tuple #[.agg (gF.cells ()),bad])/\NP [] w w'):=by
 rcases h with⟨⟨h1,v,h2,h3⟩|⟨h1,h2⟩,h4⟩
 .exact Or.inl ⟨v,h1,h2,h3,h4⟩
 .exact Or.inr ⟨h1,h2,h4⟩
def Pe (a b:List UInt8) (k:Nat):List UInt8:=if k=0 then a else b
def St (a b:List UInt8) (k:Nat) (s:SB) (x:Int):Prop:=
 (k=0/\s=gF/\x=110)\/(k=1/\((lJ a/\s=PS a/\x=0)\/(¬lJ a/\s=gF/\x=110)))\/
 (k=2/\∃o,tC a b o/\s=mK o/\x=if o.isSome then 0 else 110)
theorem xD (h:ff l):0<(PS l).seq:=h.2.2.1.1.1
theorem St.take (h:St a b k s x) (hk:k<2) (hi:ff (Pe a b k)) (hp:(PS (Pe a b k)).seq%2=k) (NV:s.seq<(PS (Pe a b k)).seq):St a b (k+1) (PS (Pe a b k)) 0:=by
 rcases h with⟨rfl,rfl,rfl⟩|⟨rfl,h⟩|⟨rfl,_⟩
 .exact Or.inr (Or.inl ⟨rfl,Or.inl ⟨⟨hi,hp⟩,rfl,rfl⟩⟩)
 .refine Or.inr (Or.inr ⟨rfl,some b,Or.inr (Or.inr ⟨rfl,⟨hi,hp⟩,?_⟩),rfl,rfl⟩)
  rintro⟨c0,cl⟩
  rcases h with⟨_,rfl,_⟩|⟨hn,_⟩
  .have Zv:(PS a).seq<(PS b).seq:=NV
   omega
  .exact hn c0
 .omega
theorem St.skip (h:St a b k s x) (hk:k<2) (OF:¬(ff (Pe a b k)/\(PS (Pe a b k)).seq%2=k/\s.seq<(PS (Pe a b k)).seq)):St a b (k+1) s x:=by
 rcases h with⟨rfl,rfl,rfl⟩|⟨rfl,h⟩|⟨rfl,_⟩
 .exact Or.inr (Or.inl ⟨rfl,Or.inr ⟨fun hc=>OF ⟨hc.1,hc.2,xD hc.1⟩,rfl,rfl⟩⟩)
 .rcases h with⟨hc,rfl,rfl⟩|⟨hn,rfl,rfl⟩
  .exact Or.inr (Or.inr ⟨rfl,some a,Or.inr (Or.inl ⟨rfl,hc,fun hb=>OF ⟨hb.1.1,hb.1.2,hb.2⟩⟩),rfl,rfl⟩)
  .exact Or.inr (Or.inr ⟨rfl,none,Or.inl ⟨rfl,hn,fun hb=>OF ⟨hb.1,hb.2,xD hb.1⟩⟩,rfl,rfl⟩)
 .omega
theorem St.two (h:St a b 2 s x):∃o,tC a b o/\s=mK o/\x=if o.isSome then 0 else 110:=by
 rcases h with⟨h,_⟩|⟨h,_⟩|⟨_,h⟩
 .omega
 .omega
 .exact h
theorem St.done {v:Value} (h:St a b 2 s x) (hr:af w' v s.runs w w') (hk:NP [] w w'):fO (0:Int) (110:Int) a b w (.returned (.tuple #[.agg (s.cells v),x])) w':=by
 obtain⟨o,h1,rfl,rfl⟩:=h.two
 exact⟨⟨o,v,h1,by cases o<;>rfl,hr⟩,hk⟩
theorem M37 {A:Prop}(h:A:=by
 go_wp2_with fail
 go_roundw
 case rel=>exact⟨k+1,s,y,v,Of.out,_j,rfl,HT.out,hsq,og1,hr0.weaken (MG _) _e (MG _),ho1,RH,Uo⟩
 case measure=>(have hh:=Of.out;simp[intOf];omega)):A:=h
theorem Lg (a b:List UInt8) (w:World) (ha:a.length<=1000000) (hb:b.length<=1000000):
  am! 63 #[a,b] w (fO (0:Int) (110:Int) a b w):=by
 have⟨o0,o1,o2⟩:=l9 w #[.int .u64 0,(0:Int),(0:Int),(0:Int),(0:Int),()] #[.int .u64 0,(0:Int),(0:Int),(0:Int),(0:Int),()] #[a,b] 58 58 9
 have acD:∀k W,am! 121 #[.string (bs (Pe a b k))] W (jH (0:Int) (110:Int) (Pe a b k) W):=fun k W=>Ml _ W (by unfold Pe;split<;>assumption)
 have Sw:=fun n W (h:n<18446744073709551616)=>GG n W h
 have⟨HG,TO⟩:=_f acD Sw
 clear acD Sw
 go_enter func63,ntmps63
 go_wp2_with fail
 go_loopw [7,17] (fun x i wr=>∃(k:Nat) (s:SB) (y:Int) (v:Value),k<=2/\i=(k:Int)/\x=y/\St a b k s y/\s.seq<18446744073709551616/\ae wr (w.heap.size+1) #[.int .u64 s.seq,s.sectors,s.journal,s.used,s.size,v] 58/\af wr v s.runs (w.heap.size+3) wr.heap.size/\ae wr w #[.int .u64 0,(0:Int),(0:Int),(0:Int),(0:Int),()] 58/\ae wr (w.heap.size+2) #[a,b] 9/\NP [] w wr) (fun _ i _=>2-(intOf i).toNat)
 case atStart=>exact⟨0,gF,110,_,_a,rfl,rfl,Or.inl ⟨rfl,rfl,rfl⟩,_d,o1,Or.inl ⟨rfl,_,_,rfl⟩,o0,o2,(((NP.refl _ _).alloc _).alloc _).alloc _⟩
 case round=>
  obtain⟨k,s,y,v,hk,rfl,rfl,Oo,hsq,og,Oe,ho,hs,hK⟩:=hrel
  by_cases NV:k<2
  .have Ou:wr.cell? (aa (w+2) k)=some (.string (bs (Pe a b k))):=by
    rcases(by omega:k=0\/k=1)with rfl|rfl
    .exact hs.cell 0 _b
    .exact hs.cell 1 _b
   have OY:=tK Oo
   have Sm:Hid (ff (Pe a b k)->(PS (Pe a b k)).seq%2=k->s.seq<(PS (Pe a b k)).seq->St a b (k+1) (PS (Pe a b k)) 0):=fun h1 h2 h3=>Oo.take NV h1 h2 h3
   have Zj:Hid (¬(ff (Pe a b k)/\(PS (Pe a b k)).seq%2=k/\s.seq<(PS (Pe a b k)).seq)->St a b (k+1) s y):=fun h1=>Oo.skip NV h1
   have HQ:Hid (∀l,(PS l).seq<18446744073709551616):=fun l=>iN l 8 8
   have hG:=HG.out k
   have Of:=tK NV
   clear Oo HG o0 o1 o2
   generalize Pe a b k=c at*
   go_wp2_with fail
   refine(hG wr).mono ?_;rintro e w1 hh
   rcases jO hh with⟨v1,hi,rfl,Tm,OP⟩|⟨hi,rfl,OP⟩
   .have hq:=HQ.out c
    have HI:=tK hi
    unfold SB.cells
    clear hh hi Ou OY hG HQ
    generalize PS c=d at*
    obtain⟨p1,c1,rfl⟩:=Tm.shape
    have hws:w.heap.size+3<=wr.heap.size:=by have:=hs.lt;omega
    have SU:=OP.size
    have on:=ae.new w1 #[.int .u64 d.seq,d.sectors,d.journal,d.used,d.size,(p1,d.runs.length,c1)] 58
    have og1:=(OP.own og _b).alloc (.cells #[.int .u64 d.seq,d.sectors,d.journal,d.used,d.size,(p1,d.runs.length,c1)] 58)
    have ho1:=(OP.own ho _b).alloc (.cells #[.int .u64 d.seq,d.sectors,d.journal,d.used,d.size,(p1,d.runs.length,c1)] 58)
    have RH:=(OP.own hs _b).alloc (.cells #[.int .u64 d.seq,d.sectors,d.journal,d.used,d.size,(p1,d.runs.length,c1)] 58)
    have Uo:=(hK.trans OP).alloc (.cells #[.int .u64 d.seq,d.sectors,d.journal,d.used,d.size,(p1,d.runs.length,c1)] 58)
    have hr0:=Oe.kept0 (OP.alloc (.cells #[.int .u64 d.seq,d.sectors,d.journal,d.used,d.size,(p1,d.runs.length,c1)] 58))
    have aeQ:=af.kept0 Tm ((NP.refl _ _).alloc (.cells #[.int .u64 d.seq,d.sectors,d.journal,d.used,d.size,(p1,d.runs.length,c1)] 58))
    have⟨x0,x1,x2,x3,x4,x5⟩:=on.c6
    have⟨y0,y1,y2,y3,y4,y5⟩:=og1.c6
    have zy:=og1.z6
    have Sw:=fun W=>TO.out d.seq W hq
    clear Tm hK og ho hs Oe OP on TO
    by_cases hp:d.seq%2=k
    .rw[hp]at Sw
     by_cases hl:s.seq<d.seq
     .have HT:=tK (Sm.out HI.out hp hl)
      have Tg:(s.seq:Int)<d.seq:=_a
      clear hp hl Sm Zj HI
      go_wp2_with fail
      refine(Sw _).mono ?_;rintro e w' ⟨rfl,rfl⟩
      go_wp2_with fail
      have hS:=(NP.refl [w.heap.size+1] (w1.alloc (.cells #[.int .u64 d.seq,d.sectors,d.journal,d.used,d.size,(p1,d.runs.length,c1)] 58))).bp (b:=w.heap.size+1) (Or.inl _b) (.int .u64 d.seq) d.sectors d.journal d.used d.size (p1,d.runs.length,c1)
      have VL:=aeQ.kept hS (fun x hx=>by simp at hx;omega)
      go_roundw
      case rel=>exact⟨k+1,d,0,_,Of.out,_j,rfl,HT.out,hq,og1.bp _ _ _ _ _ _,VL.weaken hws z! (MG _),ho1.mN _a _ _ _ _ _ _,RH.mN _a _ _ _ _ _ _,Uo.bp (Or.inr _a) _ _ _ _ _ _⟩
      case measure=>(have hh:=Of.out;simp[intOf];omega)
     .have HT:=tK (Zj.out (fun hx=>hl hx.2.2))
      have Tg:¬((s.seq:Int)<d.seq):=_a
      clear hp hl Sm Zj HI
      go_wp2_with fail
      refine(Sw _).mono ?_;rintro e w' ⟨rfl,rfl⟩
      exact M37
    .have HT:=tK (Zj.out (fun hx=>hp hx.2.1))
     have hp':(((d.seq%2:Nat):Int)==(k:Int))=false:=_y
     clear hp Sm Zj HI
     generalize d.seq%2=m at*
     go_wp2_with fail
     refine(Sw _).mono ?_;rintro e w' ⟨rfl,rfl⟩
     exact M37
   .have HT:=tK (Zj.out (fun hx=>hi hx.1))
    unfold SB.cells gF
    clear hh hi Ou OY hG HQ Sm Zj
    have hws:w.heap.size+3<=wr.heap.size:=by have:=hs.lt;omega
    have SU:=OP.size
    have on:=ae.new w1 #[.int .u64 0,(0:Int),(0:Int),(0:Int),(0:Int),()] 58
    have og1:=(OP.own og _b).alloc (.cells #[.int .u64 0,(0:Int),(0:Int),(0:Int),(0:Int),()] 58)
    have ho1:=(OP.own ho _b).alloc (.cells #[.int .u64 0,(0:Int),(0:Int),(0:Int),(0:Int),()] 58)
    have RH:=(OP.own hs _b).alloc (.cells #[.int .u64 0,(0:Int),(0:Int),(0:Int),(0:Int),()] 58)
    have Uo:=(hK.trans OP).alloc (.cells #[.int .u64 0,(0:Int),(0:Int),(0:Int),(0:Int),()] 58)
    have hr0:=Oe.kept0 (OP.alloc (.cells #[.int .u64 0,(0:Int),(0:Int),(0:Int),(0:Int),()] 58))
    clear hK og ho hs Oe OP on TO
    exact M37
  .obtain rfl:k=2:=_a
   obtain⟨p1,c1,rfl⟩:=Oe.shape
   have⟨y0,y1,y2,y3,y4,y5⟩:=og.c6
   have⟨x0,x1,x2,x3,x4,x5⟩:=ho.c6
   have zo:=ho.z6
   have OY:=tK Oo
   have hws:w.heap.size+3<=wr.heap.size:=by have:=hs.lt;omega
   have hS:=(NP.refl [w.heap.size] wr).bp (b:=w.heap.size) (Or.inl _b) (.int .u64 s.seq) s.sectors s.journal s.used s.size (p1,s.runs.length,c1)
   have VL:=Oe.kept hS (fun x hx=>by simp at hx;omega)
   have QI:=hK.bp (b:=w.heap.size) (Or.inr (MG _)) (.int .u64 s.seq) s.sectors s.journal s.used s.size (p1,s.runs.length,c1)
   clear Oo HG TO o0 o1 o2 hS hK Oe
   go_wp2_with fail
   refine MN (v:=.tuple #[.agg #[.int .u64 s.seq,s.sectors,s.journal,s.used,s.size,(p1,s.runs.length,c1)],y]) ?_ ?_ ?_
   .exact aj results63 rfl rfl (ho.bp _ _ _ _ _ _) underlying58 rfl _c
   .rfl
   .exact OY.out.done (VL.weaken _a z! (MG _)) QI

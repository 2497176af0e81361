/- -/
import Derived.Test.YtdkimcnlhmhpgaaGreatF13
set_option maxHeartbeats 32000000
set_option maxRecDepth 100000
namespace Go.Proofs.YtdkimcnlhmhpgaaGreat
section
open Go.Proofs.Tryz Go.RowKit
variable {l a b:List UInt8} {w w':World} {x:Int} {k:Nat} {s:SB}
def ju (sq a b u z n:Nat):List UInt8:=fe++NT sq 8++NT a 4++NT b 4++NT u 4++NT z 4++NT n 4
theorem CD (sq a b u z l) (hl:l.length<65536):ju sq a b u z l.length++eB l=(SB.mk sq a b u z l).body:=by
 have e:NT l.length 4=NT l.length 2++NT 0 2:=by
  have h1:l.length/256/256=0:=by rw[Nat.div_div_eq_div_mul];exact Nat.div_eq_of_lt hl
  simp only[NT]
  rw[h1];rfl
 unfold ju SB.body
 rw[e];simp
theorem ER (sq a b u z n):(ju sq a b u z n).length=36:=by unfold ju;simp[ak,fe]
theorem As (l:List (Int×Int)) (k:Nat) (h:k<l.length):eB (l.take (k+1))=eB (l.take k)++NT l[k].1.toNat 2++NT l[k].2.toNat 2:=by
 unfold eB;rw[MI h,M0,Nv,MW]
 congr 1
theorem iS (n:Nat) (h:n<18446744073709551616):IntKind.u64.wrap (n:Int)=n:=by
 exact adA
theorem GD (n:Nat) (w) (hn:n<18446744073709551616):
  am! 214 #[.int .u64 n,(2:Int)] w fun e w'=>e=.returned (.string (bs (NT n 2)))/\NP [] w w':=ry 2 n w hn a?
theorem GB (n:Nat) (w) (hn:n<18446744073709551616):
  am! 214 #[.int .u64 n,(4:Int)] w fun e w'=>e=.returned (.string (bs (NT n 4)))/\NP [] w w':=ry 4 n w hn a?
theorem KS (n:Nat) (w) (hn:n<18446744073709551616):
  am! 214 #[.int .u64 n,(8:Int)] w fun e w'=>e=.returned (.string (bs (NT n 8)))/\NP [] w w':=ry 8 n w hn a?
theorem KL (sq a b u z:Nat) (l v) (lo hi:Nat) (w) (h:af w v l lo hi) (hq:sq<18446744073709551616) (ha:a<=8192) (hb:b<=8192) (hu:u<=1048576) (hz:z<=1048576) (hl:l.length<=16) (Pf:∀k (hk:k<l.length),0<=l[k].1/\l[k].1<=8192/\0<=l[k].2/\l[k].2<=8192):
  am! 212 #[.agg #[.int .u64 (sq:Int),(a:Int),(b:Int),(u:Int),(z:Int),v]] w fun e w'=>e=.returned (.string (bs (SB.mk sq a b u z l).aT))/\NP [] w w':=by
 obtain⟨p,c,rfl⟩:=h.shape
 have Ss:=tK Pf
 clear Pf
 have o:=ae.new w #[.int .u64 (sq:Int),(a:Int),(b:Int),(u:Int),(z:Int),(p,l.length,c)] 58
 have hW0:NP [] w (w.alloc (.cells #[.int .u64 (sq:Int),(a:Int),(b:Int),(u:Int),(z:Int),(p,l.length,c)] 58)):=(NP.refl _ _).alloc _
 have hN8:=fun(n:Nat) W (hn:n<18446744073709551616) (hk:NP [] (w.alloc (.cells #[.int .u64 (sq:Int),(a:Int),(b:Int),(u:Int),(z:Int),(p,l.length,c)] 58)) W)=>(KS n W hn).mono fun e w' hh=>(show e=.returned (.string (bs (NT n 8)))/\NP [] (w.alloc (.cells #[.int .u64 (sq:Int),(a:Int),(b:Int),(u:Int),(z:Int),(p,l.length,c)] 58)) w'/\(w'.cell? w=some (.int .u64 (sq:Int))/\w'.cell? (aa w 1)=(a:Int)/\w'.cell? (aa w 2)=(b:Int)/\w'.cell? (aa w 3)=(u:Int)/\w'.cell? (aa w 4)=(z:Int)/\w'.cell? (aa w 5)=(p,l.length,c))from⟨hh.1,hk.trans hh.2,((hk.trans hh.2).own o b?).c6⟩)
 have hN4:=fun(n:Nat) W (hn:n<18446744073709551616) (hk:NP [] (w.alloc (.cells #[.int .u64 (sq:Int),(a:Int),(b:Int),(u:Int),(z:Int),(p,l.length,c)] 58)) W)=>(GB n W hn).mono fun e w' hh=>(show e=.returned (.string (bs (NT n 4)))/\NP [] (w.alloc (.cells #[.int .u64 (sq:Int),(a:Int),(b:Int),(u:Int),(z:Int),(p,l.length,c)] 58)) w'/\(w'.cell? w=some (.int .u64 (sq:Int))/\w'.cell? (aa w 1)=(a:Int)/\w'.cell? (aa w 2)=(b:Int)/\w'.cell? (aa w 3)=(u:Int)/\w'.cell? (aa w 4)=(z:Int)/\w'.cell? (aa w 5)=(p,l.length,c))from⟨hh.1,hk.trans hh.2,((hk.trans hh.2).own o b?).c6⟩)
 have hN2:=fun(n:Nat) W (hn:n<18446744073709551616) (hk:NP [] (w.alloc (.cells #[.int .u64 (sq:Int),(a:Int),(b:Int),(u:Int),(z:Int),(p,l.length,c)] 58)) W)=>(GD n W hn).mono fun e w' hh=>(show e=.returned (.string (bs (NT n 2)))/\NP [] (w.alloc (.cells #[.int .u64 (sq:Int),(a:Int),(b:Int),(u:Int),(z:Int),(p,l.length,c)] 58)) w'/\(w'.cell? w=some (.int .u64 (sq:Int))/\w'.cell? (aa w 1)=(a:Int)/\w'.cell? (aa w 2)=(b:Int)/\w'.cell? (aa w 3)=(u:Int)/\w'.cell? (aa w 4)=(z:Int)/\w'.cell? (aa w 5)=(p,l.length,c))from⟨hh.1,hk.trans hh.2,((hk.trans hh.2).own o b?).c6⟩)
 have s0:(bs (NT sq 8)).size=8:=q?
 have s1:(bs (NT a 4)).size=4:=q?
 have s2:(bs (NT b 4)).size=4:=q?
 have s3:(bs (NT u 4)).size=4:=q?
 have s4:(bs (NT z 4)).size=4:=q?
 have s5:(bs (NT l.length 4)).size=4:=q?
 have Xu:bs fe++bs (NT sq 8)++bs (NT a 4)++bs (NT b 4)++bs (NT u 4)++bs (NT z 4)++bs (NT l.length 4)=bs (ju sq a b u z l.length):=by
  simp only[aw];rfl
 have acB:=tK Xu
 have h0:=fun W hk=>hN8 sq W hq hk
 have h1:=fun W hk=>hN4 a W a? hk
 have h2:=fun W hk=>hN4 b W a? hk
 have h3:=fun W hk=>hN4 u W a? hk
 have h4:=fun W hk=>hN4 z W a? hk
 have h5:=fun W hk=>hN4 l.length W a? hk
 have⟨H0,H1,H2,H3,H4,H5⟩:=gj! h0 h1 h2 h3 h4 h5
 have w1:=iS a a?
 have w2:=iS b a?
 have w3:=iS u a?
 have w4:=iS z a?
 have w5:=iS l.length a?
 have Rs:=tK hN2
 clear hN8 hN4 hN2 Xu h0 h1 h2 h3 h4 h5
 generalize bs (NT sq 8)=N0 at*
 generalize bs (NT a 4)=N1 at*
 generalize bs (NT b 4)=N2 at*
 generalize bs (NT u 4)=N3 at*
 generalize bs (NT z 4)=N4 at*
 generalize bs (NT l.length 4)=N5 at*
 have⟨d0,d1,d2,d3,d4,d5⟩:=o.c6
 go_enter func212,ntmps212
 go_upto_region 1 with fail
 go_cut [3] (fun v3 wx=>v3=.string (bs (ju sq a b u z l.length))/\NP [] (w.alloc (.cells #[.int .u64 (sq:Int),(a:Int),(b:Int),(u:Int),(z:Int),(p,l.length,c)] 58)) wx)
 case first=>
  go_region_held3 (fun w'=>w'.cell? w=some (.int .u64 (sq:Int))/\w'.cell? (aa w 1)=(a:Int)/\w'.cell? (aa w 2)=(b:Int)/\w'.cell? (aa w 3)=(u:Int)/\w'.cell? (aa w 4)=(z:Int)/\w'.cell? (aa w 5)=(p,l.length,c)) (go_keep)
   (first
    |(go_at_call 214;((with_reducible refine(H0.out _ ?_).mono ?_));(first|exact NP.refl _ _|exact(NP.refl _ _).drew|exact(NP.refl _ _).drewN _);rintro e w1 ⟨rfl,kk0,q0,q1,q2,q3,q4,q5⟩)
    |(go_at_call 214;((with_reducible refine(H1.out _ ?_).mono ?_));(first|exact kk0|exact kk0.drew|exact kk0.drewN _);rintro e w1 ⟨rfl,Sd,q0,q1,q2,q3,q4,q5⟩)
    |(go_at_call 214;((with_reducible refine(H2.out _ ?_).mono ?_));(first|exact Sd|exact Sd.drew|exact Sd.drewN _);rintro e w1 ⟨rfl,kk2,q0,q1,q2,q3,q4,q5⟩)
    |(go_at_call 214;((with_reducible refine(H3.out _ ?_).mono ?_));(first|exact kk2|exact kk2.drew|exact kk2.drewN _);rintro e w1 ⟨rfl,Ti,q0,q1,q2,q3,q4,q5⟩)
    |(go_at_call 214;((with_reducible refine(H4.out _ ?_).mono ?_));(first|exact Ti|exact Ti.drew|exact Ti.drewN _);rintro e w1 ⟨rfl,kk4,q0,q1,q2,q3,q4,q5⟩)
    |(go_at_call 214;((with_reducible refine(H5.out _ ?_).mono ?_));(first|exact kk4|exact kk4.drew|exact kk4.drewN _);rintro e w1 ⟨rfl,Sp,q0,q1,q2,q3,q4,q5⟩))
  all_goals go_wp2_with fail
  all_goals go_meet
  all_goals exact⟨by rw[<-acB.out];rfl,by first|exact Sp|exact Sp.drew|exact Sp.drewN _⟩
 case rest=>
  obtain⟨rfl,Zb⟩:=hcut
  have ho:=Zb.own o b?
  have⟨d0,d1,d2,d3,d4,d5⟩:=ho.c6
  clear H0 H1 H2 H3 H4 H5 acB s0 s1 s2 s3 s4 s5 w1 w2 w3 w4 w5
  have Rq:=ER sq a b u z l.length
  have Tr:=CD sq a b u z l a?
  have Uq:=rW (SB.mk sq a b u z l)
  have U5:=fun w=>KT (bs (SB.mk sq a b u z l).body) 124 w (by rw[NQ,Uq];simp only;omega) a?
  rw[cC]at U5
  have Ug:=rR (SB.mk sq a b u z l).body (by rw[Uq];simp only;omega)
  have Qe:=fun w=>Au (bs (Pg (SB.mk sq a b u z l).body 124)) w (by rw[NQ,Ug];omega)
  rw[cC]at Qe
  have VE:=iJ (Pg (SB.mk sq a b u z l).body 124)
  have acE:=fun w=>GB (PE (Pg (SB.mk sq a b u z l).body 124)) w a?
  have aai:Hid (bs (Pg (SB.mk sq a b u z l).body 124)++bs (NT (PE (Pg (SB.mk sq a b u z l).body 124)) 4)=bs (SB.mk sq a b u z l).aT):=by
   show bs _++bs _=_;rw[aw];rfl
  have Qc:(bs (Pg (SB.mk sq a b u z l).body 124)).size=124:=by rw[NQ,Ug]
  have Qx:(bs (NT (PE (Pg (SB.mk sq a b u z l).body 124)) 4)).size=4:=q?
  have⟨HB,Rf⟩:=f? Tr Rq
  clear Tr Rq Uq Ug
  generalize hSEC:(SB.mk sq a b u z l).aT=SEC at*
  have adR:=tK hSEC
  clear hSEC
  generalize PE (Pg (SB.mk sq a b u z l).body 124)=cr at*
  generalize Pg (SB.mk sq a b u z l).body 124=FL at*
  go_wp2_with fail
  go_loopw [3,4] (fun t i wr=>∃k:Nat,k<=l.length/\i=(k:Int)/\t=.string (bs (ju sq a b u z l.length++eB (l.take k)))/\NP [] w wr/\NP [] (w.alloc (.cells #[.int .u64 (sq:Int),(a:Int),(b:Int),(u:Int),(z:Int),(p,l.length,c)] 58)) wr) (fun _ i _=>l.length-(intOf i).toNat)
  case atStart=>exact⟨0,a?,rfl,by simp[eB],hW0.trans Zb,Zb⟩
  case round=>
   obtain⟨k,hk,rfl,rfl,hK,QJ⟩:=hrel
   have⟨d0,d1,d2,d3,d4,d5⟩:=(QJ.own o b?).c6
   by_cases NV:k<l.length
   .obtain⟨b',off,rfl,c0,c1,UR,hlc,PT⟩:=(h.kept0 hK).at_ k NV
    have Tj:=Ss.out k NV
    have Vw:=As l k NV
    have⟨n1,QX⟩:=MM Tj.1
    have⟨n2,QU⟩:=MM Tj.2.2.1
    rw[QX]at c0 Vw Tj
    rw[QU]at c1 Vw Tj
    rw[Nw,Nw]at Vw
    have Tz:Hid (bs (ju sq a b u z l.length++eB (l.take k))++bs (NT n1 2)++bs (NT n2 2)=bs (ju sq a b u z l.length++eB (l.take (k+1)))):=by
     show _=_;rw[aw,aw,Vw];simp only[MW]
    have e1:=iS n1 a?
    have e2:=iS n2 a?
    have y1:(bs (NT n1 2)).size=2:=q?
    have y2:(bs (NT n2 2)).size=2:=q?
    have y0:(bs (ju sq a b u z l.length++eB (l.take k))).size<=1000:=by rw[NQ,tN,Rf.out,uF,MO];omega
    have hh:=fun(n:Nat) W (hn:n<18446744073709551616) (hkx:NP [] wr W)=>(GD n W hn).mono fun e w' hh=>(show e=.returned (.string (bs (NT n 2)))/\NP [] wr w'/\(w'.cell? (aa w 5)=some (.slice (some (aa b' off)) l.length c)/\w'.cell? (aa b' (off+k*2))=(n1:Int)/\w'.cell? (aa b' (off+k*2+1))=(n2:Int))from⟨hh.1,hkx.trans hh.2,by
     have Xm:=hkx.trans hh.2
     refine⟨((QJ.trans Xm).own o b?).c6.2.2.2.2.2,?_,?_⟩
     .rw[Xm.cell UR b?];exact c0
     .rw[Xm.cell UR b?];exact c1⟩)
    have g1:=fun W hk=>hh n1 W a? hk
    have g2:=fun W hk=>hh n2 W a? hk
    have⟨G1,G2⟩:=f? g1 g2
    have i1:(k:Int)<l.length:=a?
    clear Vw QX QU hh g1 g2 d0 d1 d2 d3 d4
    generalize bs (ju sq a b u z l.length++eB (l.take k))=T0 at*
    generalize hT1:bs (ju sq a b u z l.length++eB (l.take (k+1)))=T1 at*
    have Wf:=tK hT1
    clear hT1
    generalize bs (NT n1 2)=M1 at*
    generalize bs (NT n2 2)=M2 at*
    have yy:(T0++M1).size=T0.size+M1.size:=ByteArray.size_append
    have qc1:∀W,(Op.stringOp .add T0 M1).run prog W=.ok (.string (T0++M1)) W:=fun W=>by first|(simp[Op.stringOp];omega)
    have qc2:∀W,(Op.stringOp .add (T0++M1) M2).run prog W=.ok (.string (T0++M1++M2)) W:=fun W=>by first|(simp[Op.stringOp];omega)
    clear yy
    go_wp2_with fail
    go_region_held3 (fun w'=>w'.cell? (aa w 5)=some (.slice (some (aa b' off)) l.length c)/\w'.cell? (aa b' (off+k*2))=(n1:Int)/\w'.cell? (aa b' (off+k*2+1))=(n2:Int)) (go_keep)
     (first
      |(go_at_call 214;((with_reducible refine(G1.out _ ?_).mono ?_));(first|exact NP.refl _ _|exact(NP.refl _ _).drew|exact(NP.refl _ _).drewN _);rintro e w1 ⟨rfl,Sd,q0,q1,q2⟩)
      |(go_at_call 214;((with_reducible refine(G2.out _ ?_).mono ?_));(first|exact Sd|exact Sd.drew|exact Sd.drewN _);rintro e w1 ⟨rfl,kk2,q0,q1,q2⟩))
    all_goals go_wp2_with fail
    all_goals go_roundw
    all_goals first
     |exact⟨k+1,a?,j?,by rw[Wf.out,<-Tz.out],hK.trans t!,QJ.trans t!⟩
     |(simp[intOf];omega)
   .obtain rfl:k=l.length:=a?
    have ef:ju sq a b u z l.length++eB (l.take l.length)=(SB.mk sq a b u z l).body:=by rw[MU];exact HB.out
    rw[ef]at*
    clear ef
    generalize (SB.mk sq a b u z l).body=BD at*
    have e3:=iS cr a?
    go_wp2_with fail
    refine(U5 _).mono ?_;rintro e w3 ⟨rfl,P6⟩
    go_wp2_with fail
    refine(Qe _).mono ?_;rintro e w4 ⟨rfl,Qo⟩
    go_wp2_with fail
    refine(acE _).mono ?_;rintro e w5 ⟨rfl,QI⟩
    go_wp2_with fail
    go_ret
    exact⟨by rw[adR.out,<-aai.out];rfl,((hK.trans P6).trans Qo).trans QI⟩
theorem Mc (s:SB) (v:Value) (lo hi:Nat) (w:World) (h:af w v s.runs lo hi) (hm:s.may) (hq:s.seq<18446744073709551616):
  am! 212 #[.agg (s.cells v)] w fun e w'=>e=.returned s.aT/\NP [] w w':=by
 obtain⟨⟨g1,g2,g3,g4,g5,g6,g7,g8,g9,g10⟩,hL,_⟩:=hm
 have hLO:=fJ (MG _) hL
 obtain⟨sq,a,b,u,z,l⟩:=s
 simp only at*
 obtain⟨a,rfl⟩:=MM (show 0<=a by omega)
 obtain⟨b,rfl⟩:=MM (show 0<=b by omega)
 obtain⟨u,rfl⟩:=MM (show 0<=u by omega)
 obtain⟨z,rfl⟩:=MM (show 0<=z by omega)
 exact KL sq a b u z l v lo hi w h hq a? a? a? a? g10 (fun k hk=>by
  have:=dN.1 (hLO k hk)
  omega)
theorem JS (l a) (h:a+2<=l.length):le l a 2=(l[a]' a?).toNat+256*(l[a+1]' a?).toNat:=by
 grind [le,List.drop_eq_getElem_cons,RN]
def mg (l:List UInt8):SB:=⟨le l 8 8,(le l 16 4:Nat),(le l 20 4:Nat),(le l 24 4:Nat),(le l 28 4:Nat),Pd l (min (le l 32 2) 16)⟩
theorem rS {l} (h:le l 32 2<=16):mg l=PS l:=by
 grind [mg,PS]
theorem Io {l} (h:l.length=128):ff l↔(mg l).may/\(mg l).aT=l:=by
 constructor
 .rintro⟨_,h1,h2,h3⟩
  grind [rS]
 .rintro⟨h2,h3⟩
  have h1:le l 32 2<=16:=by
   have e1:(mg l).runs.length=min (le l 32 2) 16:=jP l _
   have e2:=Cb (mg l) a?
   rw[h3,e1]at e2
   omega
  rw[rS h1]at h2 h3
  exact⟨h,h1,h2,h3⟩
theorem qi (b k n:Nat) (l w) (hR:aK w b (l.drop k) 0) (h:k+n<=l.length) (hn:n<=8):
  am! 202 #[b,(n:Int)] w fun e w'=>e=.returned (.int .u64 (le l k n))/\aK w' b (l.drop (k+n)) 0/\NP [b] w w':=by
 have hu:=sD b n (l.drop k) 0 w hR hn
 have e:N6 n (l.drop k) 0=(le l k n,l.drop (k+n),0):=by
  exact adu
 rw[e]at hu
 exact hu
theorem Ji (b l w) (hR:aK w b l 0) (h:8<=l.length):
  am! 203 #[b,(8:Int)] w fun e w'=>e=.returned (.string (bs (l.take 8)))/\aK w' b (l.drop 8) 0/\NP [b] w w':=by
 have hu:=mH b l 0 8 w hR
 have e:Ol 8 l 0=(l.take 8,l.drop 8,0):=by
  unfold Ol
  rw[if_neg b?,if_neg a?,if_neg a?];rfl
 simp_all
theorem aK.alloc {b} (h:aK w b l x) (o):aK (w.alloc o) b l x:=h.map fun _ k=>k.alloc o
theorem KJ {w:World} {b:Nat} {l:List UInt8} (o:ae w b #[l,(0:Int),(0:Int)] 263) (hl:l.length<=1000000):aK w b l 0:=
 ⟨l,0,o,Nb _,hl,rfl,fun h=>absurd rfl h⟩
def IS (s:SB) (w:World) (e:Ending) (w':World):Prop:=((s.may/\e=true)\/(¬s.may/\e=false))/\NP [] w w'
theorem Jp (s v lo hi w) (h:af w v s.runs lo hi) (hl:s.runs.length<=1000000):
  am! 249 #[.agg (s.cells v)] w (IS s w):=by
 by_cases OF:s.dD
 .have hc:=s.ma
  rcases hc with⟨hy,_⟩|⟨_,g1,g2,g3,g4,g5,g6,g7,g8,g9,g10⟩
  .exact absurd OF hy
  .have o:=ae.new w (s.cells v) 58
   have hR:=fun W (hk:NP [] (w.alloc (.cells (s.cells v) 58)) W)=>(Gy v s.runs lo hi (2+s.journal) s.sectors W (h.kept0 (((NP.refl _ _).alloc _).trans hk)) hl a? a? a? g3).mono fun e w' hh=>(show e=.returned (.bool (lies (2+s.journal) s.sectors s.runs&&decide (s.runs.length<=16)))/\NP [] (w.alloc (.cells (s.cells v) 58)) w' from⟨hh.1,hk.trans hh.2⟩)
   have hS:=fun W (hL:lies (2+s.journal) s.sectors s.runs=true) (hk:NP [] (w.alloc (.cells (s.cells v) 58)) W)=>zg v s.runs lo hi (2+s.journal) s.sectors W (h.kept0 (((NP.refl _ _).alloc _).trans hk)) hl hL a? g3
   have hN:=fun w=>Aw s.size w o?
   have e16:decide (s.runs.length<=16)=true:=MV g10
   rw[e16]at hR
   have Sv:lies (2+s.journal) s.sectors s.runs=true->NZ s.runs=On s.size->s.may:=fun a b=>⟨OF,a,b⟩
   have QX:lies (2+s.journal) s.sectors s.runs=false->¬s.may:=fun a hm=>by rw[hm.2.1]at a;cases a
   have QU:NZ s.runs≠On s.size->¬s.may:=fun a hm=>a hm.2.2
   have⟨HY,Ts,Rs⟩:=gg! Sv QX QU
   obtain⟨p,c,rfl⟩:=h.shape
   clear Sv QX QU OF e16 h
   unfold SB.cells at*
   generalize s.seq=sq at*
   generalize s.sectors=a at*
   generalize s.journal=b at*
   generalize s.used=u at*
   generalize s.size=z at*
   generalize s.runs=l at*
   have hW0:NP [] w (w.alloc (.cells #[.int .u64 (sq:Int),a,b,u,z,(p,l.length,c)] 58)):=(NP.refl _ _).alloc _
   cases hL:lies (2+b) a l
   .rw[hL]at hR
    have HX:=tK (Ts.out hL)
    have HR:=tK hR
    have hw:IntKind.i64.wrap (2+b)=2+b:=IntWalk.i64_in _ a?
    clear hL hS hN hR
    go_enter func249,ntmps249
    go_wp2_with fail
    first|(go_region_with (go_at_call 283;((with_reducible refine(HR.out _ ?_).mono ?_));(first|exact NP.refl _ _|exact(NP.refl _ _).drew|exact(NP.refl _ _).drewN _);rintro e w1 ⟨rfl,OP⟩;have⟨d0,d1,d2,d3,d4,d5⟩:=(OP.own o b?).c6))|fail
    all_goals go_wp2_with fail
    all_goals go_ret
    all_goals exact⟨Or.inr ⟨HX.out,rfl⟩,hW0.trans O?⟩
   .rw[hL]at hR
    have HS:=tK (fun W=>hS W hL)
    have HR:=tK hR
    have hw:IntKind.i64.wrap (2+b)=2+b:=IntWalk.i64_in _ a?
    have⟨d0,d1,d2,d3,d4,d5⟩:=o.c6
    by_cases hq:NZ l=On z
    .have HX:=tK (HY.out hL hq)
     have Wu:(NZ l==On z)=true:=by simpa using hq
     clear hL hS hR hq
     generalize NZ l=m at*
     generalize On z=n at*
     go_enter func249,ntmps249
     go_wp2_with fail
     go_region_held3 (fun w'=>w'.cell? (aa w 1)=a/\w'.cell? (aa w 2)=b/\w'.cell? (aa w 4)=z/\w'.cell? (aa w 5)=(p,l.length,c)) (first|go_keep|(refine⟨?_,?_,?_,?_⟩<;>assumption))
      (first
       |(go_at_call 283;((with_reducible refine(HR.out _ ?_).mono ?_));(first|exact NP.refl _ _|exact(NP.refl _ _).drew|exact(NP.refl _ _).drewN _);rintro e w1 ⟨rfl,OP⟩;have⟨d0,d1,d2,d3,d4,d5⟩:=(OP.own o b?).c6)
       |(go_at_call 284;((with_reducible refine(HS.out _ ?_).mono ?_));(first|exact OP|exact OP.drew|exact OP.drewN _);rintro e w' ⟨rfl,rfl⟩)
       |(go_at_call 146;((with_reducible refine(hN _).mono ?_));rintro e w' ⟨rfl,rfl⟩))
     all_goals go_wp2_with fail
     all_goals go_ret
     all_goals exact⟨Or.inl ⟨HX.out,rfl⟩,hW0.trans O?⟩
    .have HX:=tK (Rs.out hq)
     have Wu:(NZ l==On z)=false:=by simpa using hq
     clear hL hS hR hq
     generalize NZ l=m at*
     generalize On z=n at*
     go_enter func249,ntmps249
     go_wp2_with fail
     go_region_held3 (fun w'=>w'.cell? (aa w 1)=a/\w'.cell? (aa w 2)=b/\w'.cell? (aa w 4)=z/\w'.cell? (aa w 5)=(p,l.length,c)) (first|go_keep|(refine⟨?_,?_,?_,?_⟩<;>assumption))
      (first
       |(go_at_call 283;((with_reducible refine(HR.out _ ?_).mono ?_));(first|exact NP.refl _ _|exact(NP.refl _ _).drew|exact(NP.refl _ _).drewN _);rintro e w1 ⟨rfl,OP⟩;have⟨d0,d1,d2,d3,d4,d5⟩:=(OP.own o b?).c6)
       |(go_at_call 284;((with_reducible refine(HS.out _ ?_).mono ?_));(first|exact OP|exact OP.drew|exact OP.drewN _);rintro e w' ⟨rfl,rfl⟩)
       |(go_at_call 146;((with_reducible refine(hN _).mono ?_));rintro e w' ⟨rfl,rfl⟩))
     all_goals go_wp2_with fail
     all_goals go_ret
     all_goals exact⟨Or.inr ⟨HX.out,rfl⟩,hW0.trans O?⟩
 .exact(Hj s v lo hi w h OF hl).mono fun e w' hh=>⟨Or.inr ⟨fun hm=>OF hm.1,hh.1⟩,hh.2⟩
theorem B4 (a b:Nat) (ha:a<256) (hb:b<256):wrap64 (wrap64 (a:Int)+wrap64 (256*wrap64 (b:Int)))=((a+256*b:Nat):Int):=by
 have e1:wrap64 (a:Int)=a:=IntWalk.wrap64_in _ ⟨a?,a?⟩
 have e2:wrap64 (b:Int)=b:=IntWalk.wrap64_in _ ⟨a?,a?⟩
 have e3:wrap64 (256*(b:Int))=256*b:=IntWalk.wrap64_in _ ⟨a?,a?⟩
 rw[e1,e2,e3,IntWalk.wrap64_in _ ⟨a?,a?⟩];omega
theorem zB (l i j) (h:l.length=128) (hi:i<(bs l).size) (hj:j<(bs l).size) (VM:j=i+1):
  wrap64 (wrap64 ((bs l)[i].toNat:Int)+wrap64 (256*wrap64 ((bs l)[j].toNat:Int)))=((le l i 2:Nat):Int):=by
 subst VM
 have hz:(bs l).size=128:=by rw[NQ,h]
 rw[B4 _ _ (bs l)[i].toNat_lt (bs l)[i+1].toNat_lt,JS l i a?]
 rfl
theorem Ev (l:List UInt8) (w:World) (h:l.length≠128) (_:l.length<=1000000):
  am! 199 #[l] w fun e w'=>e=.returned (.tuple #[.agg (gF.cells ()),false])/\NP [] w w':=by
 have hz:(bs l).size=l.length:=NQ l
 have o:=ae.new w #[.int .u64 0,(0:Int),(0:Int),(0:Int),(0:Int),()] 58
 have Pb:((l.length:Int)==128)=false:=e?
 have⟨d0,d1,d2,d3,d4,d5⟩:=o.c6
 have z:=o.z6
 clear h
 generalize l.length=n at*
 go_enter func199,ntmps199
 go_wp2_with fail
 refine MN (v:=.tuple #[.agg #[.int .u64 0,(0:Int),(0:Int),(0:Int),(0:Int),()],false]) ?_ ?_ ?_
 .exact aj results199 rfl rfl o underlying58 rfl c?
 .rfl
 .exact⟨rfl,(NP.refl _ _).alloc _⟩
theorem Ew (l:List UInt8) (w:World) (h:l.length=128):
  am! 199 #[l] w (jH true false l w):=by
 have hz:(bs l).size=128:=by rw[NQ,h]
 have⟨o,oR⟩:=ch w #[.int .u64 0,(0:Int),(0:Int),(0:Int),(0:Int),()] #[l,(0:Int),(0:Int)] 58 263
 have UM:=KJ oR a?
 have We:=tK (Io h)
 have abp:Hid (ff l->PS l=mg l):=fun hh=>(rS hh.2.1).symm
 have H1:=tK h
 have b8:le l 8 8<18446744073709551616:=iN l 8 8
 have b16:le l 16 4<4294967296:=iN l 16 4
 have b20:le l 20 4<4294967296:=iN l 20 4
 have b24:le l 24 4<4294967296:=iN l 24 4
 have b28:le l 28 4<4294967296:=iN l 28 4
 have b32:le l 32 2<65536:=iN l 32 2
 clear h
 have o8:=fun W hR=>qi (w.heap.size+1) 8 8 l W hR r? a?
 have o16:=fun W hR=>qi (w.heap.size+1) 16 4 l W hR r? a?
 have o20:=fun W hR=>qi (w.heap.size+1) 20 4 l W hR r? a?
 have o24:=fun W hR=>qi (w.heap.size+1) 24 4 l W hR r? a?
 have o28:=fun W hR=>qi (w.heap.size+1) 28 4 l W hR r? a?
 have o32:=fun W hR=>qi (w.heap.size+1) 32 2 l W hR r? a?
 have HD:Hid (mg l=⟨le l 8 8,(le l 16 4:Nat),(le l 20 4:Nat),(le l 24 4:Nat),(le l 28 4:Nat),Pd l (min (le l 32 2) 16)⟩):=rfl
 have ht:=fun W hR=>Ji (w.heap.size+1) l W hR r?
 generalize le l 8 8=n0 at*
 generalize le l 16 4=n1 at*
 generalize le l 20 4=n2 at*
 generalize le l 24 4=n3 at*
 generalize le l 28 4=n4 at*
 generalize le l 32 2=n5 at*
 have⟨O8,O16,O20,O24,O28,O32,HT⟩:=gk! o8 o16 o20 o24 o28 o32 ht
 clear o8 o16 o20 o24 o28 o32 ht
 go_enter func199,ntmps199
 go_wp2_with fail
 refine(HT.out _ UM).mono ?_;rintro e w1 ⟨rfl,hR1,OP⟩
 have o1:=OP.own o b?
 have Uo:NP [] w w1:=(((NP.refl _ _).alloc _).alloc _).call OP b?
 clear UM OP o oR
 go_wp2_with fail
 refine(O8.out _ hR1).mono ?_;rintro e w2 ⟨rfl,Qn,PY⟩
 have o2:=PY.own o1 b?
 have QJ:NP [] w w2:=Uo.call PY b?
 have Q4:=aK.alloc Qn (.cells #[.int .u64 n0,(0:Int),(0:Int),(0:Int),(0:Int),()] 58)
 have WI:=ae.new w2 #[.int .u64 n0,(0:Int),(0:Int),(0:Int),(0:Int),()] 58
 have YI:=o2.alloc (.cells #[.int .u64 n0,(0:Int),(0:Int),(0:Int),(0:Int),()] 58)
 have V4:=QJ.alloc (.cells #[.int .u64 n0,(0:Int),(0:Int),(0:Int),(0:Int),()] 58)
 have TI:w2.heap.size≠w.heap.size+1:=by have:=Qn.lt;omega
 have UK:w2.heap.size≠w.heap.size:=by have:=o2.lt;omega
 have hg3:w.heap.size<=w2.heap.size:=QJ.size
 have hg4:w.heap.size+2<=w2.heap.size:=by have:=Qn.lt;omega
 clear hR1 Qn PY o1 o2 Uo QJ H1
 go_wp2_with fail
 refine(O16.out _ Q4).mono ?_;rintro e w4 ⟨rfl,hq4,Qo⟩
 generalize hgg:w2.heap.size=g at*
 clear hgg
 have oq4:=Qo.own WI e?
 have ab7:=Qo.own YI b?
 have acW:NP [] w w4:=V4.call Qo b?
 have⟨x0,x1,x2,x3,x4,x5⟩:=oq4.c6
 have zx:=oq4.z6
 clear Q4 WI YI V4 Qo
 go_wp2_with fail
 have Ww:ae (w4.setCell (aa g 1) (n1:Int)) g #[.int .u64 n0,(n1:Int),(0:Int),(0:Int),(0:Int),()] 58:=oq4.set 1 (n1:Int)
 have So:=hq4.other (p:=(aa g 1)) (Ne.symm TI) (n1:Int)
 have Yk:=ab7.other (p:=(aa g 1)) (Ne.symm UK) (n1:Int)
 have X6:=acW.setCell (p:=(aa g 1)) (Or.inr hg3) (n1:Int)
 clear hq4 oq4 ab7 acW x0 x1 x2 x3 x4 x5 zx
 refine(O20.out _ So).mono ?_;rintro e w5 ⟨rfl,WO,QI⟩
 have oq5:=QI.own Ww e?
 have adi:=QI.own Yk b?
 have ada:NP [] w w5:=X6.call QI b?
 have⟨x0,x1,x2,x3,x4,x5⟩:=oq5.c6
 have zx:=oq5.z6
 clear So Ww Yk X6 QI
 go_wp2_with fail
 have Tv:ae (w5.setCell (aa g 2) (n2:Int)) g #[.int .u64 n0,(n1:Int),(n2:Int),(0:Int),(0:Int),()] 58:=oq5.set 2 (n2:Int)
 have Wh:=WO.other (p:=(aa g 2)) (Ne.symm TI) (n2:Int)
 have Sf:=adi.other (p:=(aa g 2)) (Ne.symm UK) (n2:Int)
 have hK5:=ada.setCell (p:=(aa g 2)) (Or.inr hg3) (n2:Int)
 clear WO oq5 adi ada x0 x1 x2 x3 x4 x5 zx
 refine(O24.out _ Wh).mono ?_;rintro e w6 ⟨rfl,hq6,Q7⟩
 have oq6:=Q7.own Tv e?
 have ab6:=Q7.own Sf b?
 have acw:NP [] w w6:=hK5.call Q7 b?
 have⟨x0,x1,x2,x3,x4,x5⟩:=oq6.c6
 have zx:=oq6.z6
 clear Wh Tv Sf hK5 Q7
 go_wp2_with fail
 have og6:ae (w6.setCell (aa g 3) (n3:Int)) g #[.int .u64 n0,(n1:Int),(n2:Int),(n3:Int),(0:Int),()] 58:=oq6.set 3 (n3:Int)
 have hR6:=hq6.other (p:=(aa g 3)) (Ne.symm TI) (n3:Int)
 have ho6:=ab6.other (p:=(aa g 3)) (Ne.symm UK) (n3:Int)
 have hK6:=acw.setCell (p:=(aa g 3)) (Or.inr hg3) (n3:Int)
 clear hq6 oq6 ab6 acw x0 x1 x2 x3 x4 x5 zx
 refine(O28.out _ hR6).mono ?_;rintro e w7 ⟨rfl,hq7,SV⟩
 have oq7:=SV.own og6 e?
 have ab8:=SV.own ho6 b?
 have ac9:NP [] w w7:=hK6.call SV b?
 have⟨x0,x1,x2,x3,x4,x5⟩:=oq7.c6
 have zx:=oq7.z6
 clear hR6 og6 ho6 hK6 SV
 go_wp2_with fail
 have og7:ae (w7.setCell (aa g 4) (n4:Int)) g #[.int .u64 n0,(n1:Int),(n2:Int),(n3:Int),(n4:Int),()] 58:=oq7.set 4 (n4:Int)
 have hR7:=hq7.other (p:=(aa g 4)) (Ne.symm TI) (n4:Int)
 have ho7:=ab8.other (p:=(aa g 4)) (Ne.symm UK) (n4:Int)
 have hK7:=ac9.setCell (p:=(aa g 4)) (Or.inr hg3) (n4:Int)
 clear hq7 oq7 ab8 ac9 x0 x1 x2 x3 x4 x5 zx
 refine(O32.out _ hR7).mono ?_;rintro e w8 ⟨rfl,hR8,hk8⟩
 have og8:=hk8.own og7 e?
 have ho8:=hk8.own ho7 b?
 have hK8:NP [] w w8:=hK7.call hk8 b?
 have hw8:w.heap.size+2<=w8.heap.size:=by have:=og8.lt;omega
 clear hR7 og7 ho7 hK7 hk8
 clear O8 O16 O20 O24 O28 O32 HT
 go_wp2_with fail
 go_loopw [7] (fun i wr=>∃(k:Nat) (v:Value),k<=min n5 16/\i=.int .u64 k/\ae wr g #[.int .u64 n0,(n1:Int),(n2:Int),(n3:Int),(n4:Int),v] 58/\wr.ownsRow (w.heap.size+2) 128 2 v k (NW (Pd l k))/\ae wr w #[.int .u64 0,(0:Int),(0:Int),(0:Int),(0:Int),()] 58/\NP [] w wr) (fun i _=>min n5 16-(intOf i).toNat)
 case atStart=>exact⟨0,_,a?,rfl,og8,Nf _ _ _ _,ho8,hK8⟩
 case round=>
  obtain⟨k,v,hk,rfl,og,Ot,ho,hK⟩:=hrel
  obtain⟨pv,cv,rfl⟩:=ah Ot
  by_cases NV:k<min n5 16
  .have k1:k<n5:=a?
   have k2:k<16:=a?
   have hz':((bs l).size:Int)=128:=by rw[hz];rfl
   have f36:(36+4*(k:Int)).toNat=36+4*k:=a?
   have f37:(37+4*(k:Int)).toNat=37+4*k:=a?
   have f38:(38+4*(k:Int)).toNat=38+4*k:=a?
   have f39:(39+4*(k:Int)).toNat=39+4*k:=a?
   have p36:36+4*(k:Int)<128:=a?
   have q36:0<=36+4*(k:Int):=a?
   have p37:37+4*(k:Int)<128:=a?
   have q37:0<=37+4*(k:Int):=a?
   have p38:38+4*(k:Int)<128:=a?
   have q38:0<=38+4*(k:Int):=a?
   have p39:39+4*(k:Int)<128:=a?
   have q39:0<=39+4*(k:Int):=a?
   have H36:=tK (zB l (36+4*k) (37+4*k) (by rw[<-NQ];exact hz) K! K! a?)
   have H38:=tK (zB l (38+4*k) (39+4*k) (by rw[<-NQ];exact hz) K! K! a?)
   have YE:Hid (Pd l (k+1)=Pd l k++[(((le l (36+4*k) 2:Nat):Int),((le l (38+4*k) 2:Nat):Int))]):=rfl
   obtain⟨i0,hi0,Rh,Qc,Qx⟩:=eV
   clear We HD abp og8 ho8 hK8 NV
   go_wp2_with fail
   go_region
   go_wp2_with fail
   go_region
   have E1:=H36.out
   have E2:=H38.out
   rw[E1,E2]
   clear E1 E2 H36 H38
   generalize le l (36+4*k) 2=m1 at*
   generalize le l (38+4*k) 2=m2 at*
   have WI:ae wr.drew.drew g #[.int .u64 n0,(n1:Int),(n2:Int),(n3:Int),(n4:Int),(pv,k,cv)] 58:=og
   have RF:wr.drew.drew.ownsRow (w.heap.size+2) 128 2 (pv,k,cv) k (NW (Pd l k)):=Ot
   have YI:ae wr.drew.drew w #[.int .u64 0,(0:Int),(0:Int),(0:Int),(0:Int),()] 58:=ho
   have V4:NP [] w wr.drew.drew:=hK.drew.drew
   clear og Ot ho hK
   generalize wr.drew.drew=w3 at*
   have hw3:w.heap.size+2<=w3.heap.size:=by have:=WI.lt;omega
   have q3:k+1<=maxLen:=m?
   have q4:(k+1)*16<=140737488355328:=a?
   have cg:w3.cell? (aa g 5)=(pv,k,cv):=ae.cell WI 5 b?
   go_wp2_with (at_builtin;go_must (refine MT _ rfl (.tmp 78) (.tmp 82) 56 rfl (w.heap.size+2) 128 i0 (.agg #[(0:Int),(0:Int)]) 2 16 underlying56 hi0 Rh Qc Qx rfl d? _ _ _ rfl (MH RF _) w3 1 1 [.int .i64 (m1:Int),.int .i64 (m2:Int)] rfl rfl ?c1 ?c2 ?c3 ?c4 ?c5 ?_))
   case c1=>exact World.news_of_block (Ns w3 _)
   case c2=>intro u hu;simp at hu;rcases hu with rfl|rfl<;>rfl
   case c3=>exact q3
   case c4=>exact q4
   case c5=>simp;omega
   intro v5 w5 o3 RQ _ _
   have Tv:=bW (MH RF _) RQ (WI.alloc _) d?
   have Sf:=bW (MH RF _) RQ (YI.alloc _) d?
   have hK5:NP [] w w5:=(V4.alloc _).grown RQ (fun j hj=>Or.inr (by have:=(ML RF j hj).1;omega))
   have hc5:w5.cell? (aa g 5)=(pv,k,cv):=ae.cell Tv 5 b?
   have hf5:w5.frozen? (aa g 5)=false:=Tv.free 5
   obtain⟨p5,cv5,rfl⟩:=ah o3
   clear RF RQ WI YI V4
   go_wp2_with fail
   have hg6:=Tv.set 5 (p5,k+1,cv5)
   have o6:=bT o3 (p:=(aa g 5)) (aB o3 Tv d?) (p5,k+1,cv5)
   have ec:NW (Pd l (k+1))=NW (Pd l k)++[.int .i64 (m1:Int),.int .i64 (m2:Int)]:=by rw[YE.out,bP]
   rw[<-ec]at o6
   go_roundw
   case rel=>exact⟨k+1,_,a?,j?,hg6,o6,Sf.other (p:=(aa g 5)) (Ne.symm UK) _,hK5.setCell (p:=(aa g 5)) (Or.inr hg3) _⟩
   case measure=>simp[intOf];omega
  .obtain rfl:k=min n5 16:=a?
   have hsb:=We.out
   have abc:=abp.out
   rw[HD.out]at hsb abc
   have Oe:=af.bB (l:=Pd l (min n5 16)) Ot
   have RV:(Pd l (min n5 16)).length<=16:=by rw[jP];omega
   generalize Pd l (min n5 16)=R at*
   have⟨Xt,aaC⟩:=f? hsb abc
   have⟨y0,y1,y2,y3,y4,y5⟩:=og.c6
   clear We HD abp og8 ho8 hK8 hsb abc Ot NV b16 b20 b24 b28 b32
   have Sk:(¬(((min n5 16:Nat):Int)<n5))\/((((min n5 16:Nat):Int)<n5)/\¬(((min n5 16:Nat):Int)<16)):=a?
   generalize min n5 16=m at*
   rcases Sk with RU|⟨RU,hc2⟩
   all_goals
    by_cases hm:(SB.mk n0 n1 n2 n3 n4 R).may
    .have Qy:am! 249 #[.agg #[.int .u64 (n0:Int),(n1:Int),(n2:Int),(n3:Int),(n4:Int),(pv,m,cv)]] wr fun e w'=>e=true/\NP [] wr w':=
      (Jp (SB.mk n0 n1 n2 n3 n4 R) _ _ _ wr Oe (by show R.length<=_;omega)).mono fun e w' hh=>⟨by
       rcases hh.1 with⟨_,e1⟩|⟨e1,_⟩
       .exact e1
       .exact absurd hm e1,hh.2⟩
     have Q0:∀W,NP [] wr W->am! 212 #[.agg #[.int .u64 (n0:Int),(n1:Int),(n2:Int),(n3:Int),(n4:Int),(pv,m,cv)]] W fun e w'=>e=.returned (.string (bs (SB.mk n0 n1 n2 n3 n4 R).aT))/\NP [] W w':=
      fun W hk=>Mc (SB.mk n0 n1 n2 n3 n4 R) _ _ _ W (Oe.kept0 hk) hm b8
     by_cases hs:(SB.mk n0 n1 n2 n3 n4 R).aT=l
     .have HS:Hid (ff l):=Xt.out.2 ⟨hm,hs⟩
      rw[hs]at Q0
      have HP:=tK Q0
      clear Q0 hm hs Xt
      go_wp2_with fail
      refine Qy.mono ?_;rintro e w4 ⟨rfl,Qo⟩
      have Ww:=Qo.own og b?
      have⟨y0,y1,y2,y3,y4,y5⟩:=Ww.c6
      go_wp2_with fail
      refine(HP.out _ Qo).mono ?_;rintro e w5 ⟨rfl,QI⟩
      have Tv:=QI.own Ww b?
      have Sf:=QI.own (Qo.own ho b?) b?
      have⟨y0,y1,y2,y3,y4,y5⟩:=Tv.c6
      have⟨x0,x1,x2,x3,x4,x5⟩:=Sf.c6
      have zo:=Sf.z6
      go_wp2_with fail
      have hS:=(NP.refl [w.heap.size] w5).bp (b:=w.heap.size) (Or.inl b?) (.int .u64 n0) (n1:Int) (n2:Int) (n3:Int) (n4:Int) (pv,m,cv)
      have PZ:=(Oe.kept0 (Qo.trans QI)).kept hS (fun x hx=>by simp at hx;omega)
      have hs5:=(Qo.trans QI).size
      refine MN (v:=.tuple #[.agg #[.int .u64 n0,(n1:Int),(n2:Int),(n3:Int),(n4:Int),(pv,m,cv)],true]) ?_ ?_ ?_
      .exact aj results199 rfl rfl (Sf.bp _ _ _ _ _ _) underlying58 rfl c?
      .rfl
      .exact⟨Or.inl ⟨HS.out,_,by rw[aaC.out HS.out];rfl,by rw[aaC.out HS.out];exact PZ.weaken a? (by simp[World.setCell];exact hs5) (MG _)⟩,((hK.trans Qo).trans QI).call hS (fun x hx=>by simp at hx;omega)⟩
     .have HN:Hid (¬ff l):=fun hh=>hs (Xt.out.1 hh).2
      have Pb:((bs (SB.mk n0 n1 n2 n3 n4 R).aT).toList==(bs l).toList)=false:=by rw[bj,bj];simpa using hs
      have HP:=tK Q0
      clear Q0 hm hs Xt
      generalize (SB.mk n0 n1 n2 n3 n4 R).aT=SE at*
      go_wp2_with fail
      refine Qy.mono ?_;rintro e w4 ⟨rfl,Qo⟩
      have Ww:=Qo.own og b?
      have⟨y0,y1,y2,y3,y4,y5⟩:=Ww.c6
      go_wp2_with fail
      refine(HP.out _ Qo).mono ?_;rintro e w5 ⟨rfl,QI⟩
      have Sf:=QI.own (Qo.own ho b?) b?
      have⟨x0,x1,x2,x3,x4,x5⟩:=Sf.c6
      have zo:=Sf.z6
      go_wp2_with fail
      refine MN (v:=.tuple #[.agg #[.int .u64 0,(0:Int),(0:Int),(0:Int),(0:Int),()],false]) ?_ ?_ ?_
      .exact aj results199 rfl rfl (Sf.bp _ _ _ _ _ _) underlying58 rfl c?
      .rfl
      .exact ji HN.out (((hK.trans Qo).trans QI).bp (Or.inr (MG _)) _ _ _ _ _ _)
    .have HN:Hid (¬ff l):=fun hh=>hm (Xt.out.1 hh).1
     have Qy:am! 249 #[.agg #[.int .u64 (n0:Int),(n1:Int),(n2:Int),(n3:Int),(n4:Int),(pv,m,cv)]] wr fun e w'=>e=false/\NP [] wr w':=
      (Jp (SB.mk n0 n1 n2 n3 n4 R) _ _ _ wr Oe (by show R.length<=_;omega)).mono fun e w' hh=>⟨by
       rcases hh.1 with⟨e1,_⟩|⟨_,e1⟩
       .exact absurd e1 hm
       .exact e1,hh.2⟩
     clear hm Xt
     go_wp2_with fail
     refine Qy.mono ?_;rintro e w5 ⟨rfl,QI⟩
     have Sf:=QI.own ho b?
     have⟨x0,x1,x2,x3,x4,x5⟩:=Sf.c6
     have zo:=Sf.z6
     go_wp2_with fail
     refine MN (v:=.tuple #[.agg #[.int .u64 0,(0:Int),(0:Int),(0:Int),(0:Int),()],false]) ?_ ?_ ?_
     .exact aj results199 rfl rfl (Sf.bp _ _ _ _ _ _) underlying58 rfl c?
     .rfl
     .exact ji HN.out ((hK.trans QI).bp (Or.inr (MG _)) _ _ _ _ _ _)
theorem Ml (l:List UInt8) (w:World) (hl:l.length<=1000000):am! 121 #[l] w (jH (0:Int) (110:Int) l w):=by
 by_cases h:l.length=128
 .exact EX l w h
 .exact(EW l w h hl).mono fun e w' hh=>⟨Or.inr ⟨fun hi=>h hi.1,hh.1⟩,hh.2⟩
theorem Jq (l:List UInt8) (w:World) (hl:l.length<=1000000):am! 199 #[l] w (jH true false l w):=by
 by_cases h:l.length=128
 .exact Ew l w h
 .exact(Ev l w h hl).mono fun e w' hh=>⟨Or.inr ⟨fun hi=>h hi.1,hh.1⟩,hh.2⟩
theorem jO {ok bad} {e:Ending} (h:jH ok bad l w e w'):
  (∃v,ff l/\e=.returned (.tuple #[.agg ((PS l).cells v),ok])/\af w' v (PS l).runs w w'.heap.size/\NP [] w w')\/
  (¬ff l/\e=.returned (.tuple #[.agg (gF.cells ()),bad])/\NP [] w w'):=by
 rcases h with⟨⟨h1,v,h2,h3⟩|⟨h1,h2⟩,h4⟩
 .exact Or.inl ⟨v,h1,h2,h3,h4⟩
 .exact Or.inr ⟨h1,h2,h4⟩
def Pe (a b:List UInt8) (k:Nat):List UInt8:=if k=0 then a else b
def St (a b:List UInt8) (k:Nat) (s:SB) (x:Int):Prop:=
 (k=0/\s=gF/\x=110)\/(k=1/\((lJ a/\s=PS a/\x=0)\/(¬lJ a/\s=gF/\x=110)))\/
 (k=2/\∃o,tC a b o/\s=mK o/\x=if o.isSome then 0 else 110)
theorem xD (h:ff l):0<(PS l).seq:=h.2.2.1.1.1
theorem St.take (h:St a b k s x) (hk:k<2) (hi:ff (Pe a b k)) (hp:(PS (Pe a b k)).seq%2=k) (NV:s.seq<(PS (Pe a b k)).seq):St a b (k+1) (PS (Pe a b k)) 0:=by
 rcases h with⟨rfl,rfl,rfl⟩|⟨rfl,h⟩|⟨rfl,_⟩
 .exact Or.inr (Or.inl ⟨rfl,Or.inl ⟨⟨hi,hp⟩,rfl,rfl⟩⟩)
 .refine Or.inr (Or.inr ⟨rfl,some b,Or.inr (Or.inr ⟨rfl,⟨hi,hp⟩,?_⟩),rfl,rfl⟩)
  rintro⟨c0,cl⟩
  rcases h with⟨_,rfl,_⟩|⟨hn,_⟩
  .have Zv:(PS a).seq<(PS b).seq:=NV
   omega
  .exact hn c0
 .omega
theorem St.skip (h:St a b k s x) (hk:k<2) (OF:¬(ff (Pe a b k)/\(PS (Pe a b k)).seq%2=k/\s.seq<(PS (Pe a b k)).seq)):St a b (k+1) s x:=by
 rcases h with⟨rfl,rfl,rfl⟩|⟨rfl,h⟩|⟨rfl,_⟩
 .exact Or.inr (Or.inl ⟨rfl,Or.inr ⟨fun hc=>OF ⟨hc.1,hc.2,xD hc.1⟩,rfl,rfl⟩⟩)
 .rcases h with⟨hc,rfl,rfl⟩|⟨hn,rfl,rfl⟩
  .exact Or.inr (Or.inr ⟨rfl,some a,Or.inr (Or.inl ⟨rfl,hc,fun hb=>OF ⟨hb.1.1,hb.1.2,hb.2⟩⟩),rfl,rfl⟩)
  .exact Or.inr (Or.inr ⟨rfl,none,Or.inl ⟨rfl,hn,fun hb=>OF ⟨hb.1,hb.2,xD hb.1⟩⟩,rfl,rfl⟩)
 .omega
theorem St.two (h:St a b 2 s x):∃o,tC a b o/\s=mK o/\x=if o.isSome then 0 else 110:=by
 rcases h with⟨h,_⟩|⟨h,_⟩|⟨_,h⟩
 .omega
 .omega
 .exact h
theorem St.done {v} (h:St a b 2 s x) (hr:af w' v s.runs w w') (hk:NP [] w w'):fO (0:Int) (110:Int) a b w (.returned (.tuple #[.agg (s.cells v),x])) w':=by
 obtain⟨o,h1,rfl,rfl⟩:=h.two
 exact⟨⟨o,v,h1,by cases o<;>rfl,hr⟩,hk⟩
theorem M37 {A:Prop}(h:A:=by
 go_wp2_with fail
 go_roundw
 case rel=>exact⟨k+1,s,y,v,Of.out,j?,rfl,HT.out,hsq,og1,hr0.weaken (MG _) e? (MG _),ho1,RH,Uo⟩
 case measure=>(have hh:=Of.out;simp[intOf];omega)):A:=h
theorem Lg (a b:List UInt8) (w:World) (ha:a.length<=1000000) (hb:b.length<=1000000):
  am! 63 #[a,b] w (fO (0:Int) (110:Int) a b w):=by
 have⟨o0,o1,o2⟩:=l9 w #[.int .u64 0,(0:Int),(0:Int),(0:Int),(0:Int),()] #[.int .u64 0,(0:Int),(0:Int),(0:Int),(0:Int),()] #[a,b] 58 58 9
 have acD:∀k W,am! 121 #[.string (bs (Pe a b k))] W (jH (0:Int) (110:Int) (Pe a b k) W):=fun k W=>Ml _ W (by unfold Pe;split<;>assumption)
 have Sw:=fun n W (h:n<18446744073709551616)=>GG n W h
 have⟨HG,TO⟩:=f? acD Sw
 clear acD Sw
 go_enter func63,ntmps63
 go_wp2_with fail
 go_loopw [7,17] (fun x i wr=>∃(k:Nat) (s:SB) (y:Int) (v:Value),k<=2/\i=(k:Int)/\x=y/\St a b k s y/\s.seq<18446744073709551616/\ae wr (w.heap.size+1) #[.int .u64 s.seq,s.sectors,s.journal,s.used,s.size,v] 58/\af wr v s.runs (w.heap.size+3) wr.heap.size/\ae wr w #[.int .u64 0,(0:Int),(0:Int),(0:Int),(0:Int),()] 58/\ae wr (w.heap.size+2) #[a,b] 9/\NP [] w wr) (fun _ i _=>2-(intOf i).toNat)
 case atStart=>exact⟨0,gF,110,_,a?,rfl,rfl,Or.inl ⟨rfl,rfl,rfl⟩,d?,o1,Or.inl ⟨rfl,_,_,rfl⟩,o0,o2,(((NP.refl _ _).alloc _).alloc _).alloc _⟩
 case round=>
  obtain⟨k,s,y,v,hk,rfl,rfl,Oo,hsq,og,Oe,ho,hs,hK⟩:=hrel
  by_cases NV:k<2
  .have Ou:wr.cell? (aa (w+2) k)=some (.string (bs (Pe a b k))):=by
    rcases(by omega:k=0\/k=1)with rfl|rfl
    .exact hs.cell 0 b?
    .exact hs.cell 1 b?
   have OY:=tK Oo
   have Sm:Hid (ff (Pe a b k)->(PS (Pe a b k)).seq%2=k->s.seq<(PS (Pe a b k)).seq->St a b (k+1) (PS (Pe a b k)) 0):=fun h1 h2 h3=>Oo.take NV h1 h2 h3
   have Zj:Hid (¬(ff (Pe a b k)/\(PS (Pe a b k)).seq%2=k/\s.seq<(PS (Pe a b k)).seq)->St a b (k+1) s y):=fun h1=>Oo.skip NV h1
   have HQ:Hid (∀l,(PS l).seq<18446744073709551616):=fun l=>iN l 8 8
   have hG:=HG.out k
   have Of:=tK NV
   clear Oo HG o0 o1 o2
   generalize Pe a b k=c at*
   go_wp2_with fail
   refine(hG wr).mono ?_;rintro e w1 hh
   rcases jO hh with⟨v1,hi,rfl,Tm,OP⟩|⟨hi,rfl,OP⟩
   .have hq:=HQ.out c
    have HI:=tK hi
    unfold SB.cells
    clear hh hi Ou OY hG HQ
    generalize PS c=d at*
    obtain⟨p1,c1,rfl⟩:=Tm.shape
    have hws:w.heap.size+3<=wr.heap.size:=by have:=hs.lt;omega
    have SU:=OP.size
    have on:=ae.new w1 #[.int .u64 d.seq,d.sectors,d.journal,d.used,d.size,(p1,d.runs.length,c1)] 58
    have og1:=(OP.own og b?).alloc (.cells #[.int .u64 d.seq,d.sectors,d.journal,d.used,d.size,(p1,d.runs.length,c1)] 58)
    have ho1:=(OP.own ho b?).alloc (.cells #[.int .u64 d.seq,d.sectors,d.journal,d.used,d.size,(p1,d.runs.length,c1)] 58)
    have RH:=(OP.own hs b?).alloc (.cells #[.int .u64 d.seq,d.sectors,d.journal,d.used,d.size,(p1,d.runs.length,c1)] 58)
    have Uo:=(hK.trans OP).alloc (.cells #[.int .u64 d.seq,d.sectors,d.journal,d.used,d.size,(p1,d.runs.length,c1)] 58)
    have hr0:=Oe.kept0 (OP.alloc (.cells #[.int .u64 d.seq,d.sectors,d.journal,d.used,d.size,(p1,d.runs.length,c1)] 58))
    have aeQ:=af.kept0 Tm ((NP.refl _ _).alloc (.cells #[.int .u64 d.seq,d.sectors,d.journal,d.used,d.size,(p1,d.runs.length,c1)] 58))
    have⟨x0,x1,x2,x3,x4,x5⟩:=on.c6
    have⟨y0,y1,y2,y3,y4,y5⟩:=og1.c6
    have zy:=og1.z6
    have Sw:=fun W=>TO.out d.seq W hq
    clear Tm hK og ho hs Oe OP on TO
    by_cases hp:d.seq%2=k
    .rw[hp]at Sw
     by_cases hl:s.seq<d.seq
     .have HT:=tK (Sm.out HI.out hp hl)
      have Tg:(s.seq:Int)<d.seq:=a?
      clear hp hl Sm Zj HI
      go_wp2_with fail
      refine(Sw _).mono ?_;rintro e w' ⟨rfl,rfl⟩
      go_wp2_with fail
      have hS:=(NP.refl [w.heap.size+1] (w1.alloc (.cells #[.int .u64 d.seq,d.sectors,d.journal,d.used,d.size,(p1,d.runs.length,c1)] 58))).bp (b:=w.heap.size+1) (Or.inl b?) (.int .u64 d.seq) d.sectors d.journal d.used d.size (p1,d.runs.length,c1)
      have VL:=aeQ.kept hS (fun x hx=>by simp at hx;omega)
      go_roundw
      case rel=>exact⟨k+1,d,0,_,Of.out,j?,rfl,HT.out,hq,og1.bp _ _ _ _ _ _,VL.weaken hws z! (MG _),ho1.mN a? _ _ _ _ _ _,RH.mN a? _ _ _ _ _ _,Uo.bp (Or.inr a?) _ _ _ _ _ _⟩
      case measure=>(have hh:=Of.out;simp[intOf];omega)
     .have HT:=tK (Zj.out (fun hx=>hl hx.2.2))
      have Tg:¬((s.seq:Int)<d.seq):=a?
      clear hp hl Sm Zj HI
      go_wp2_with fail
      refine(Sw _).mono ?_;rintro e w' ⟨rfl,rfl⟩
      exact M37
    .have HT:=tK (Zj.out (fun hx=>hp hx.2.1))
     have hp':(((d.seq%2:Nat):Int)==(k:Int))=false:=y?
     clear hp Sm Zj HI
     generalize d.seq%2=m at*
     go_wp2_with fail
     refine(Sw _).mono ?_;rintro e w' ⟨rfl,rfl⟩
     exact M37
   .have HT:=tK (Zj.out (fun hx=>hi hx.1))
    unfold SB.cells gF
    clear hh hi Ou OY hG HQ Sm Zj
    have hws:w.heap.size+3<=wr.heap.size:=by have:=hs.lt;omega
    have SU:=OP.size
    have on:=ae.new w1 #[.int .u64 0,(0:Int),(0:Int),(0:Int),(0:Int),()] 58
    have og1:=(OP.own og b?).alloc (.cells #[.int .u64 0,(0:Int),(0:Int),(0:Int),(0:Int),()] 58)
    have ho1:=(OP.own ho b?).alloc (.cells #[.int .u64 0,(0:Int),(0:Int),(0:Int),(0:Int),()] 58)
    have RH:=(OP.own hs b?).alloc (.cells #[.int .u64 0,(0:Int),(0:Int),(0:Int),(0:Int),()] 58)
    have Uo:=(hK.trans OP).alloc (.cells #[.int .u64 0,(0:Int),(0:Int),(0:Int),(0:Int),()] 58)
    have hr0:=Oe.kept0 (OP.alloc (.cells #[.int .u64 0,(0:Int),(0:Int),(0:Int),(0:Int),()] 58))
    clear hK og ho hs Oe OP on TO
    exact M37
  .obtain rfl:k=2:=a?
   obtain⟨p1,c1,rfl⟩:=Oe.shape
   have⟨y0,y1,y2,y3,y4,y5⟩:=og.c6
   have⟨x0,x1,x2,x3,x4,x5⟩:=ho.c6
   have zo:=ho.z6
   have OY:=tK Oo
   have hws:w.heap.size+3<=wr.heap.size:=by have:=hs.lt;omega
   have hS:=(NP.refl [w.heap.size] wr).bp (b:=w.heap.size) (Or.inl b?) (.int .u64 s.seq) s.sectors s.journal s.used s.size (p1,s.runs.length,c1)
   have VL:=Oe.kept hS (fun x hx=>by simp at hx;omega)
   have QI:=hK.bp (b:=w.heap.size) (Or.inr (MG _)) (.int .u64 s.seq) s.sectors s.journal s.used s.size (p1,s.runs.length,c1)
   clear Oo HG TO o0 o1 o2 hS hK Oe
   go_wp2_with fail
   refine MN (v:=.tuple #[.agg #[.int .u64 s.seq,s.sectors,s.journal,s.used,s.size,(p1,s.runs.length,c1)],y]) ?_ ?_ ?_
   .exact aj results63 rfl rfl (ho.bp _ _ _ _ _ _) underlying58 rfl c?
   .rfl
   .exact OY.out.done (VL.weaken a? z! (MG _)) QI
end
section
open Go.Proofs.Tryz Go.RowKit
variable {d:DK} {w w0 W:World} {b sb lo k B:Nat} {l:List VC} {T:List Nat} {v:VS}
def ij (b:Nat) (d:DK) (w:World) (e:Ending) (w':World):Prop:=
 ((d.down=true/\e=.returned (.tuple #[.pointer none,(90:Int)]))\/(d.down=false/\Ql d=none/\e=.returned (.tuple #[.pointer none,(110:Int)]))\/
 (d.down=false/\∃s c,Ql d=some (s,c)/\∃B sv vb vm vn,w.heap.size<=B/\ae w' B (bL b s sv c vb vm vn false) 90/\af w' sv s.runs w B/\av (fun x=>x<w.heap.size\/x=B) w' (.agg #[.int .u32 c.nextBox,.int .u32 c.nextMan,vb,vm,vn]) c/\e=.returned (.tuple #[.pointer (some ⟨B,0,none⟩),(0:Int)])))/\NP [] w w'
theorem nB (w:World) (cs TL:Array Value) (t t':TypeId):ae ((w.alloc (.cells cs t)).alloc (.cells TL t')) (w.heap.size+1) TL t':=by
 have h:(w.alloc (.cells cs t)).heap.size=w.heap.size+1:=b?
 rw[<-h]
 exact ae.new _ _ _
theorem qJ (h:jM (Pc d 0) (Pc d 1)=none):Ql d=none:=by unfold Ql;rw[h];rfl
theorem uX {s} (h:jM (Pc d 0) (Pc d 1)=some s):Ql d=if s.sectors=(d.stand.length:Int)then(Pn d s).map fun c=>(s,c)else none:=by unfold Ql;rw[h];rfl
theorem adI {A:Prop}(h:A:=by
 unfold Pc
 split
 .rename_i h0
  have⟨h1,h2,h3⟩:=dh h0
  rw[gj hD.fit a?];omega
 .simp):A:=h
theorem adE {A:Prop}(h:A:=by
 go_wp2_with fail
 go_ret2
 exact⟨Or.inr (Or.inl ⟨HDN.out,TE.out,rfl⟩),Ry.out.trans ((NP.refl [] w3).drew)⟩):A:=h
theorem BW {mb} (hD:DA w b sb mb lo d) (hn:d.stand.length<=96):
  am! 16 #[b] w (ij b d w):=by
 have⟨n1,n2⟩:=hD.len
 have OZ:Hid (∀W,NP [] w W->am! 36 #[b] W fun e w'=>e=(d.stand.length:Int)/\W=w'):=tK (fun W k=>XH b sb mb lo d W (hD.aJ k).disk)
 have aaK:Hid (∀W,NP [] w W->am! 61 #[b] W fun e w'=>e=.returned (.bool d.down)/\W=w'):=tK (fun W k=>Bt b sb mb lo d W (hD.aJ k).disk)
 have ZH:Hid (∀W,NP [] w W->am! 62 #[b,(0:Int)] W fun e w'=>e=.returned (.tuple #[.string (bs (Pc d 0)),(OM d 0:Int)])/\W=w'):=tK (fun W k=>(hD.aJ k).read 0)
 have VP:Hid (∀W,NP [] w W->am! 62 #[b,(1:Int)] W fun e w'=>e=.returned (.tuple #[.string (bs (Pc d 1)),(OM d 1:Int)])/\W=w'):=tK (fun W k=>(hD.aJ k).read 1)
 have ZF:∀i,(Pc d i).length<=1000000:=fun i=>by
  exact adI
 have Sy:Hid (∀W,am! 63 #[.string (bs (Pc d 0)),.string (bs (Pc d 1))] W (fO (0:Int) (110:Int) (Pc d 0) (Pc d 1) W)):=tK (fun W=>Lg _ _ W (ZF 0) (ZF 1))
 have YB:Hid (∀W (s:SB) (v:Value) (PU PC:Nat),NP [] w W->af W v s.runs PU PC->s.may->am! 64 #[b,.agg (s.cells v)] W (fF (Pn d s) W)):=tK (fun W s v PU PC k hr hm=>I7 (hD.aJ k) hn s v PU PC hr hm)
 have VK:=tK (qJ (d:=d))
 have Ul:=tK (fun s=>uX (d:=d) (s:=s))
 have RZ:=tK (fun s=>pA (a:=Pc d 0) (b:=Pc d 1) (s:=s))
 have XZ:=tK (fun o=>xg (a:=Pc d 0) (b:=Pc d 1) (o:=o))
 unfold fO at Sy
 unfold SB.cells at Sy
 have hnz:((d.stand.length:Int)==0)=false:=by
  have h0:(d.stand.length:Int)≠0:=a?
  simpa using h0
 unfold ij
 generalize Ql d=MX at*
 generalize Pc d 0=R0 at*
 generalize Pc d 1=R1 at*
 generalize OM d 0=A0 at*
 generalize OM d 1=A1 at*
 obtain⟨N,hN⟩:∃N:Int,(d.stand.length:Int)=N:=⟨_,rfl⟩
 rw[hN]at OZ hnz Ul
 have hN1:1<=N/\N<=8192:=a?
 obtain⟨hN2,hN3⟩:=hN1
 clear hD hn n1 n2 ZF hN
 go_enter func16,ntmps16
 go_wp2_with fail
 refine(OZ.out _ (NP.refl _ _)).mono ?_;rintro e w0 ⟨rfl,rfl⟩
 go_wp2_with fail
 refine(aaK.out _ (NP.refl _ _)).mono ?_;rintro e w0 ⟨rfl,rfl⟩
 cases RP:d.down
 .go_wp2_with fail
  refine(ZH.out _ (NP.refl _ _)).mono ?_;rintro e w0 ⟨rfl,rfl⟩
  go_wp2_with fail
  refine(VP.out _ (NP.refl _ _)).mono ?_;rintro e w0 ⟨rfl,rfl⟩
  go_wp2_with fail
  refine(Sy.out _).mono ?_;rintro e w2 ⟨⟨o,v,hpick,rfl,Oe⟩,k2⟩
  have Wn:=XZ.out o hpick
  generalize hps:mK o=ps at*
  obtain⟨sq,se,jr,us,sz,rs⟩:=ps
  simp only at*
  obtain⟨pv,cv,rfl⟩:=Oe.shape
  have⟨K2,Ra⟩:=f? k2 Oe
  have o8:=ae.new w2 #[.int .u64 sq,se,jr,us,sz,(pv,rs.length,cv)] 58
  have k8:=(NP.refl [] w2).alloc (.cells #[.int .u64 sq,se,jr,us,sz,(pv,rs.length,cv)] 58)
  have⟨O8,K8,HDN⟩:=gg! o8 k8 RP
  clear hpick Oe k2 k8 RP ZH VP Sy XZ aaK
  cases o with
  |none=>
   have TE:=tK (VK.out Wn)
   clear Wn hps
   have⟨x0,x1,x2,x3,x4,x5⟩:=o8.c6
   clear o8
   go_upto_region 8 with fail
   have Ry:=tK (K2.out.trans K8.out)
   generalize w2.alloc (.cells #[.int .u64 sq,se,jr,us,sz,(pv,rs.length,cv)] 58)=w3 at*
   have Ow:Hid (∀W,NP [] w3 W->W.cell? (aa w2 1)=se):=tK (fun W k=>(k.own O8.out b?).c6.2.1)
   generalize w2.heap.size=n8 at*
   refine MK (S:=(fun W=>W.cell? (aa n8 1)=se)) c? J? (fun hHeld=>?_)
   refine tS ?_
   refine Ng c? ?_ _
   try simp only[List.set_cons_succ,List.set_cons_zero]
   exact adE
  |some l=>
   have V2:jM R0 R1=some ⟨sq,se,jr,us,sz,rs⟩:=by rw[Wn];exact congrArg some hps
   have hM:=Ul.out _ V2
   have Qy:=(RZ.out _ V2).1
   have Oo:∀W,NP [] w2 W->am! 64 #[b,.agg #[.int .u64 sq,se,jr,us,sz,(pv,rs.length,cv)]] W (fF (Pn d ⟨sq,se,jr,us,sz,rs⟩) W):=fun W k=>YB.out W ⟨sq,se,jr,us,sz,rs⟩ _ _ _ (K2.out.trans k) (Ra.out.kept0 k) Qy
   have⟨OY,XX⟩:=f? Oo hM
   have⟨x0,x1,x2,x3,x4,x5⟩:=o8.c6
   clear o8 Wn V2 hps Oo hM Qy YB VK Ul RZ
   generalize Pn d ⟨sq,se,jr,us,sz,rs⟩=SX at*
   go_upto_region 8 with fail
   have Ry:=tK (K2.out.trans K8.out)
   have Tc:Hid (w.heap.size<=w2.heap.size/\w2.heap.size<(w2.alloc (.cells #[.int .u64 sq,se,jr,us,sz,(pv,rs.length,cv)] 58)).heap.size):=tK ⟨K2.out.size,b?⟩
   generalize w2.alloc (.cells #[.int .u64 sq,se,jr,us,sz,(pv,rs.length,cv)] 58)=w3 at*
   have Ow:Hid (∀W,NP [] w3 W->W.cell? (aa w2 1)=se):=tK (fun W k=>(k.own O8.out b?).c6.2.1)
   obtain⟨n8,hn8⟩:∃n8,w2.heap.size=n8:=⟨_,rfl⟩
   have HN8:=tK hn8
   simp only[hn8]at*
   clear hn8
   refine MK (S:=(fun W=>W.cell? (aa n8 1)=se)) c? J? (fun hHeld=>?_)
   refine tS ?_
   refine rD 6 (fun K hK=>?_)
   go_simp
   ((with_reducible refine(OZ.out _ (Ry.out.trans ((NP.refl [] w3).drew))).mono ?_));rintro e w4 ⟨rfl,Yd⟩
   have ae2:=Yd.symm
   clear Yd
   subst ae2
   go_wp2_with fail
   refine hK.out _ _ (Ow.out _ ((NP.refl [] w3).drew)) (fun hHeld=>nM ?_)
   clear hK K
   refine tS ?_
   refine Ng c? ?_ _
   try simp only[List.set_cons_succ,List.set_cons_zero]
   by_cases hse:se=N
   .subst hse
    have e1:(se != se)=false:=b?
    have TE:=tK (XX.out.trans (if_pos rfl))
    clear XX
    go_wp2_with fail
    refine(OY.out _ ((K8.out.trans ((NP.refl [] w3).drew)))).mono ?_;rintro e w5 ⟨⟨c,vc,hSX,Oz,rfl⟩|⟨hSX,C,hC,y0,y1,p2,m2,c2,p3,m3,c3,p4,m4,c4,rfl⟩,k5⟩
    .obtain⟨vb,vm,vn,rfl,hb,hm,hn,_,_⟩:=id Oz
     obtain⟨p1,c1,rfl⟩:=hb.plain.shape
     obtain⟨p2,c2,rfl⟩:=hm.plain.shape
     obtain⟨p3,c3,rfl⟩:=hn.plain.shape
     have VO:=tK Oz
     have K35:=tK (((NP.refl [] w3).drew).trans k5)
     have HSX:=tK hSX
     have oC:=ae.new w5 #[(c.nextBox,()),(c.nextMan,()),(p1,c.boxes.length,c1),(p2,c.mans.length,c2),(p3,c.names.length,c3)] 52
     have kC:=(NP.refl [] w5).alloc (.cells #[(c.nextBox,()),(c.nextMan,()),(p1,c.boxes.length,c1),(p2,c.mans.length,c2),(p3,c.names.length,c3)] 52)
     have O8C:=tK (kC.own (K35.out.own O8.out b?) b?)
     have KC:=tK kC
     have⟨z0,z1,z2,z3,z4⟩:=oC.k5
     have⟨y0,y1,y2,y3,y4,y5⟩:=O8C.out.c6
     clear hb hm hn oC kC Oz k5 hSX OY
     go_wp2_with fail
     go_ret2
     have PW:=Tc.out
     have hs5:=K35.out.size
     have kV:NP [] w5 _:=KC.out.alloc (.cells (bL b ⟨sq,se,jr,us,sz,rs⟩ (pv,rs.length,cv) c (p1,c.boxes.length,c1) (p2,c.mans.length,c2) (p3,c.names.length,c3) false) 90)
     refine⟨Or.inr (Or.inr ⟨HDN.out,⟨sq,se,jr,us,sz,rs⟩,c,TE.out.trans (by rw[HSX.out];rfl),w5.heap.size+1,(pv,rs.length,cv),(p1,c.boxes.length,c1),(p2,c.mans.length,c2),(p3,c.names.length,c3),a?,nB _ _ _ _ _,?_,?_,rfl⟩),(Ry.out.trans K35.out).trans kV⟩
     .exact(((Ra.out.kept0 K8.out).kept0 K35.out).kept0 kV).weaken (MG _) a? b?
     .refine((VO.out.cI (T:=fun x=>x<w.heap.size) (fun x hx=>?_)).more (T:=fun x=>x=w5.heap.size+1) (fun x hx=>by omega)).kept0 kV
      show x<w3.heap.size
      omega
    .have QI:=Ry.out.trans (((NP.refl [] w3).drew).trans k5)
     have⟨HK5,HSX⟩:=f? QI hSX
     have ZA:MX=none:=TE.out.trans (by rw[hSX];rfl)
     have HMN:=tK ZA
     have oC:=ae.new w5 #[(y0,()),(y1,()),(p2,m2,c2),(p3,m3,c3),(p4,m4,c4)] 52
     have KC:=tK ((NP.refl [] w5).alloc (.cells #[(y0,()),(y1,()),(p2,m2,c2),(p3,m3,c3),(p4,m4,c4)] 52))
     have⟨z0,z1,z2,z3,z4⟩:=oC.k5
     clear oC ZA hSX QI k5 OY Ry TE HSX
     have hC2:(C != 0)=true:=by simpa using hC
     go_wp2_with fail
     go_ret2
     exact⟨Or.inr (Or.inl ⟨HDN.out,HMN.out,rfl⟩),HK5.out.trans KC.out⟩
   .have e1:(se != N)=true:=by simpa using hse
    have TE:=tK (XX.out.trans (if_neg hse))
    clear XX
    exact adE
 .go_wp2_with fail
  go_ret2
  exact⟨Or.inl ⟨RP,rfl⟩,NP.refl _ _⟩
def TD (l:List VC):Nat->List (Nat×VC)
 |0=>[]
 |k+1=>TD l k++(match l[k]? with|some x=>if Oj x.kind then[(k,x)]else[]|none=>[])
theorem pM (l k) (h:k<l.length):TD l (k+1)=TD l k++(if Oj l[k].kind then[(k,l[k])]else[]):=by
 grind [TD]
theorem xG {l}:∀{k:Nat},k<=l.length->∀p∈TD l k,∃h:p.1<l.length,p.1<k/\l[p.1]=p.2/\Oj p.2.kind=true
 |0,_,p,hp=>by simp[TD]at hp
 |k+1,hk,p,hp=>by
  rw[pM l k a?]at hp
  rcases Na.1 hp with hp|hp
  .obtain⟨h1,h2,h3⟩:=xG a? p hp
   grind
  grind
theorem rL (l):∀k,(TD l k).length<=k
 |0=>MG _
 |k+1=>by
  have:=rL l k
  grind [TD]
theorem sN:∀(l:List VC) (recs:List ag) (x:VC) (r:ag),l.length=recs.length->Qj (l++[x]) (recs++[r])=Qj l recs++(if Oj x.kind then[fun d=>OQ d r.runs x.bytes]else[])
 |[],[],x,r,_=>by
  rfl
 |[],r'::recs,_,_,h=>by simp at h
 |y::l,[],_,_,h=>by simp at h
 |y::l,q::recs,x,r,h=>by
  have ih:=sN l recs x r T?
  grind [Qj]
noncomputable def ft (recs:List ag) (p:Nat×VC) (d:DK):DK×Int:=OQ d (recs.getD p.1 default).runs p.2.bytes
theorem sO (l recs) (h:l.length=recs.length):∀k,k<=l.length->Qj (l.take k) (recs.take k)=(TD l k).map (ft recs)
 |0,_=>by rfl
 |k+1,hk=>by
  have ih:=sO l recs h k a?
  rw[MI a?,MI a?,sN _ _ _ _ (by simp_all),ih,pM l k a?,M0]
  congr 1
  split
  .show[fun d=>_]=[ft recs (k,l[k])]
   congr 1
   funext d
   grind [ft]
  .rfl
theorem EK (l recs) (h:l.length=recs.length):Qj l recs=(TD l l.length).map (ft recs):=by
 have:=sO l recs h l.length (MG _)
 grind
theorem ze (gs hs v):∀k,k<=gs.length->kr (gs.map aZ++hs) v k=⟨kt gs v.d k,v.s,v.c,v.dead⟩
 |0,_=>rfl
 |k+1,hk=>by
  have ih:=ze gs hs v k a?
  have h1:k<(gs.map aZ++hs).length:=by rw[tN,MP];omega
  rw[q8 _ _ _ h1,ih,ng gs v.d k a?]
  have e:(gs.map aZ++hs)[k]=aZ gs[k]:=by rw[NM (by rw[MP];omega),Ny]
  rw[e]
  rfl
abbrev SQ:=(Nat×VC)×(Nat×Nat)
def B8 (gv gr:Nat) (q:SQ):Array Value:=#[gv,gr,q.2.1,q.2.2]
structure eE (w0 W:World) (l:List VC) (k:Nat) (qs:List SQ):Prop where
 idx:qs.map (·.1)=TD l k
 own:∀q∈qs,w0.heap.size<=q.2.1/\w0.heap.size<=q.2.2/\ae W q.2.1 #[.int .i64 q.1.1] 3/\ae W q.2.2 q.1.2.cells 34
variable {qs:List SQ}
theorem eE.kept {W'} (h:eE w0 W l k qs) (kk:NP [] W W'):eE w0 W' l k qs:=⟨h.idx,fun q hq=>by
 have⟨h1,h2,h3,h4⟩:=h.own q hq
 exact⟨h1,h2,kk.own h3 b?,kk.own h4 b?⟩⟩
structure dW (T:List Nat) (w0 W:World) (B b sb mb lo gv gr:Nat) (v:VS) (l:List VC) (recs:List ag) (qs:List SQ):Prop where
 vol:aL T w0 B b sb mb lo v
 kept:NP [] w0 W
 gv:w0.heap.size<=gv/\ae W gv #[B] 27
 gr:∃rv,w0.heap.size<=gr/\ae W gr #[rv] 92/\aI w0 W rv recs
 steps:eE w0 W l l.length qs
 len:recs.length=l.length
 pl:∀r∈recs,Pl 0 r.runs
 few:l.length<=1000
 small:∀x∈l,x.bytes.length<=1048576
section
variable {T:List Nat} {w0 W:World} {B b sb mb lo gv gr:Nat} {v:VS} {l:List VC} {recs:List ag} {qs:List SQ}
theorem dW.off (h:dW T w0 W B b sb mb lo gv gr v l recs qs) {g} (hg:w0.heap.size<=g):bf [B] W b sb mb g:=(h.vol.da.bU h.vol.hT h.kept hg).Jf h.vol.hB
theorem dW.put (h:dW T w0 W B b sb mb lo gv gr v l recs qs) (q) (hq:q∈qs) {W' u} (hV:aL T W' B b sb mb lo u) (k:PK [B] b sb mb W W') (ho:u.d.ops<=90000) (hw:u.d.waits.length<=1800):
  am! 48 (#[]++B8 gv gr q) W' fun e w'=>e=.returned (.int .i64 (aZ (ft recs q.1) u).2)/\aL T w' B b sb mb lo (aZ (ft recs q.1) u).1/\PK [B] b sb mb W' w':=by
 have⟨PC,QZ,oi,ox⟩:=h.steps.own q hq
 obtain⟨Ty,QL,hm3,hm4⟩:=xG (MG _) q.1 (by rw[<-h.steps.idx];exact ND.2 ⟨q,hq,rfl⟩)
 have⟨rv,TI,og,Q8⟩:=h.gr
 have⟨Ve,ov⟩:=h.gv
 have P7:=Q8.oI
 obtain⟨p,c,rfl⟩:=Q8.shape
 have hil:q.1.1<recs.length:=by rw[h.len];exact Ty
 obtain⟨rb,ro,cs,rfl,e2,⟨kv,rfl,e4,e5⟩,e6,e7,e8,e9⟩:=bS.at_ P7 q.1.1 hil
 have ZV:=e6 4 _ rfl
 have hRO:ep T W b sb mb kv recs[q.1.1].runs:=e4.new h.vol.da h.vol.hT h.kept (MG _)
 obtain⟨⟨PU,hi3,hR⟩,_⟩:=hRO.pk (k.LY h.vol.hB)
 have Rq:=h.pl _ (MJ hil)
 have hpe:ft recs q.1=fun d=>OQ d recs[q.1.1].runs q.1.2.bytes:=by
  funext d
  unfold ft
  rw[Nx,MZ hil,Option.getD_some]
 rw[hpe,Array.empty_append]
 have S2:q.1.2.bytes.length<=1048576:=by rw[<-hm3];exact h.small _ (MJ Ty)
 refine(Eb (T:=T) gv gr q.2.1 q.2.2 rb ro recs.length c q.1.1 kv recs[q.1.1].runs q.1.2.bytes hV (fun W'' k2=>?_) hil (by rw[h.len];have:=h.few;omega) hR (by have:=Rq.gX;omega) (gT Rq) S2 ho hw).mono fun e w' ⟨a1,a2,a3⟩=>⟨a1,a2,a3.mono b?⟩
 have kk:=k.trans (k2.mono (T:=[B]) b?)
 refine⟨(kk.own ov (h.off Ve)).cell 0 b?,(kk.own og (h.off TI)).cell 0 b?,(kk.own oi (h.off PC)).cell 0 b?,?_,?_⟩
 .rw[World.cell?_of_block (w:=W) (a:=⟨rb,_,none⟩) (kk.same (h.off e7) a?)]
  exact ZV
 .have:=(kk.own ox (h.off QZ)).cell 3 (by simp[VC.cells])
  simpa[VC.cells]using this
theorem dW.Dq (h:dW T w0 W B b sb mb lo gv gr v l recs qs):Qj l recs=qs.map (fun q=>ft recs q.1):=by
 rw[EK l recs h.len.symm,<-h.steps.idx,List.map_map]
 rfl
theorem dW.AG (h:dW T w0 W B b sb mb lo gv gr v l recs qs):qs.length<=l.length:=by
 have:=congrArg List.length h.steps.idx
 rw[MP]at this
 rw[this]
 exact rL _ _
theorem dW.ME (h:dW T w0 W B b sb mb lo gv gr v l recs qs) (gs hs) (hgs:∀f∈gs,∀e,e.stand.length=v.d.stand.length->Fw v.d.stand.length e (f e).1) (k) (hk:k<=qs.length+gs.length):
  ∃D,kr ((qs.map (fun q=>ft recs q.1)++gs).map aZ++hs) v k=⟨D,v.s,v.c,v.dead⟩/\Fw (k*v.d.stand.length) v.d D:=by
 refine⟨_,ze _ hs v k (by rw[tN,MP];exact hk),?_⟩
 refine Dx v.d.stand.length _ v.d (fun f hf e he=>?_) k (by rw[tN,MP];exact hk)
 rcases Na.1 hf with hf|hf
 .rw[<-h.Dq]at hf
  exact uj l recs _ f hf e he
 .exact hgs f hf e he
end
def zN (u:Nat×Array Value×Array Value):Value:=.func (.func u.1) u.2.1 u.2.2
def oT (gv gr:Nat) (q:SQ):Nat×Array Value×Array Value:=(48,#[],B8 gv gr q)
theorem Kx {T:List Nat} {w0 W:World} {B b sb mb lo gv gr:Nat} {v:VS} {l:List VC} {recs:List ag} {qs:List SQ} (h:dW T w0 W B b sb mb lo gv gr v l recs qs)
  (gs:List (DK->DK×Int)) (G:VS->VS×Int) (ex:List (Nat×Array Value×Array Value)) (hex:ex.length=gs.length+1) (UN:gs.length<=5)
  (hen:∀u∈ex,Enters prog u.1) (rv:Value) (NU:W.ownsRow w0 42 1 rv (qs.length+ex.length) ((qs.map (oT gv gr)++ex).map zN))
  (hgs:∀f∈gs,∀e,e.stand.length=v.d.stand.length->Fw v.d.stand.length e (f e).1)
  (ho:v.d.ops<=35000) (hw:v.d.waits.length<=700) (hn:v.d.stand.length<=100) (WG:l.length<=8)
  (Ox:∀(j:Nat) (hj:j<ex.length) (W':World) (D:DK),aL T W' B b sb mb lo ⟨D,v.s,v.c,v.dead⟩->PK [B] b sb mb W W'->Fw (8*v.d.stand.length+j*v.d.stand.length) v.d D->
   am! ex[j].1 (ex[j].2.1++ex[j].2.2) W' fun e w'=>e=.returned (.int .i64 (((gs.map aZ++[G])[j]'(by rw[tN,MP,Nq];omega)) ⟨D,v.s,v.c,v.dead⟩).2)/\aL T w' B b sb mb lo (((gs.map aZ++[G])[j]'(by rw[tN,MP,Nq];omega)) ⟨D,v.s,v.c,v.dead⟩).1/\PK [B] b sb mb W' w'):
  am! 37 #[rv] W fun e w'=>e=.returned (.int .i64 (OH (gP l recs++(gs.map aZ++[G])) v).2)/\aL T w' B b sb mb lo (OH (gP l recs++(gs.map aZ++[G])) v).1/\PK [B] b sb mb W w':=by
 have hfs:gP l recs++(gs.map aZ++[G])=(qs.map (fun q=>ft recs q.1)++gs).map aZ++[G]:=by
  unfold gP
  rw[h.Dq,M0,MW]
 obtain⟨g,cap,rfl,g1,g2,g3,g4,g5⟩:=cU NU a?
 have hul:(qs.map (oT gv gr)++ex).length=qs.length+ex.length:=by rw[tN,MP]
 have Ug:((qs.map (fun q=>ft recs q.1)++gs).map aZ++[G]).length=qs.length+ex.length:=by
  rw[tN,MP,tN,MP,Nq];omega
 have hql:=h.AG
 rw[hfs,<-hul]
 refine Kw (T:=T) (S:=[B]) ((qs.map (fun q=>ft recs q.1)++gs).map aZ++[G]) (qs.map (oT gv gr)++ex) (by rw[hul,Ug]) g 0 cap (h.vol.aJ h.kept) (by rw[hul];omega) (fun i hi=>?_) (fun W' k i hi=>?_) (fun k hk W' hV Yj _=>?_)
 .by_cases QZ:i<qs.length
  .rw[NM (by rw[MP];exact QZ),Ny]
   exact enters_of func48 c? rfl
  .rw[List.getElem_append_right (by rw[MP];omega)]
   exact hen _ (MJ _)
 .rw[World.cell?_of_block (w:=W) (a:=⟨g,_,none⟩) (k.same (h.off g1) g2)]
  have:=g5 i (zN ((qs.map (oT gv gr)++ex)[i])) (by rw[List.getElem?_map,MZ hi];rfl)
  rw[Nat.zero_add]
  exact this
 .have hkl:k<qs.length+ex.length:=by rw[hul]at hk;exact hk
  have⟨D,hD,hF⟩:=h.ME gs [G] hgs k a?
  rw[hD]at hV ⊢
  have hF1:=hF.ops
  have hF2:=hF.waits
  by_cases QZ:k<qs.length
  .have hm:k*v.d.stand.length<=8*100:=Nat.mul_le_mul a? hn
   have e1:((qs.map (fun q=>ft recs q.1)++gs).map aZ++[G])[k]'(by rw[Ug];exact hkl)=aZ (ft recs qs[k].1):=by
    rw[NM (by rw[MP,tN,MP];omega),Ny,NM (by rw[MP];exact QZ),Ny]
   have e2:(qs.map (oT gv gr)++ex)[k]=oT gv gr qs[k]:=by rw[NM (by rw[MP];exact QZ),Ny]
   rw[e1,e2]
   exact h.put qs[k] (MJ QZ) hV Yj (by show D.ops<=_;omega) E!
  .obtain⟨j,rfl⟩:∃j,k=qs.length+j:=⟨k-qs.length,a?⟩
   have hj:j<ex.length:=a?
   have e1:((qs.map (fun q=>ft recs q.1)++gs).map aZ++[G])[qs.length+j]'(by rw[Ug];exact hkl)=(gs.map aZ++[G])[j]'(by rw[tN,MP,Nq];omega):=by
    have e:(qs.map (fun q=>ft recs q.1)++gs).map aZ++[G]=(qs.map (fun q=>ft recs q.1)).map aZ++(gs.map aZ++[G]):=by rw[M0,MW]
    rw[List.getElem_of_eq e,List.getElem_append_right (by rw[MP,MP];omega)]
    congr 1
    rw[MP,MP];omega
   have e2:(qs.map (oT gv gr)++ex)[qs.length+j]'hk=ex[j]:=by
    rw[List.getElem_append_right (by rw[MP];omega)]
    congr 1
    rw[MP];omega
   rw[e1,e2]
   refine Ox j hj W' D hV Yj (hF.mono ?_)
   rw[Nat.add_mul]
   exact Nat.add_le_add_right (Nat.mul_le_mul_right _ a?) _
theorem tV {left} (h:Pl 0 left) (l):∀j,j<=l.length->Pl 0 (Ob left l j).2
 |0,_=>h
 |j+1,hj=>by
  rw[fI left l j a?]
  unfold jL
  split
  .exact lC _ _
  .exact tV h l j a?
def rZ (left:List (Int×Int)) (l:List VC) (w:World) (e:Ending) (w':World):Prop:=
 ((gW left l/\∃rv lv,e=.returned (.tuple #[rv,lv,(0:Int)])/\aI w w' rv (Ob left l l.length).1/\w'.ownsRow w 128 2 lv (Ob left l l.length).2.length (NW (Ob left l l.length).2))\/(¬gW left l/\∃C,C≠0/\(Lit.int .i64 C).wf=true/\e=.returned (.tuple #[(),(),.int .i64 C])))/\NP [] w w'
theorem Kt {mb} (vl l PU PC) (hV:aL T w B b sb mb lo v) (hm:v.s.may) (hc:OL v.c) (hf:v.c.boxes.length+v.c.mans.length+v.c.names.length<=1000) (hl:gC w vl l PU PC) (WG:l.length<=8192):
  am! 44 #[B,vl] w (rZ (Oh v) l w):=by
 have X8:=tK (Gw hV hm hc a?)
 have Rq:Pl 0 (Oh v):=lC _ _
 have Rf:Hid (∀j,j<=l.length->Pl 0 (Ob (Oh v) l j).2):=tK (tV Rq l)
 have HL:=tK hl
 obtain⟨p1,c1,rfl⟩:=bS.shape hl
 have n2:(l.length:Int)<=8192:=a?
 have HL8:=tK WG
 clear hV hm hc hf hl Rq WG
 unfold rZ
 generalize Oh v=RM at*
 go_enter func44,ntmps44
 go_wp2_with fail
 refine X8.out.mono ?_;rintro e w1 ⟨u1,rfl,hrm,k1⟩
 have⟨aeK,K1⟩:=f? hrm k1
 obtain⟨pr,cr,rfl⟩:=ah hrm
 clear hrm k1 X8
 go_wp2_with fail
 go_loopw [7,8,10,11,12,13,18] (fun lv rv x r ru e i wr=>∃k:Nat,k<=l.length/\i=(k:Int)/\(∀j (h:j<l.length),j<k->Oj l[j].kind=true->OT (Ob RM l j).2 (On l[j].bytes.length)=0)/\wr.ownsRow w 128 2 lv (Ob RM l k).2.length (NW (Ob RM l k).2)/\aI w wr rv (Ob RM l k).1/\NP [] w wr) (fun _ _ _ _ _ _ i _=>l.length-(intOf i).toNat)
 case atStart=>exact⟨0,Nb _,rfl,(fun j _ hj=>by omega),aeK.out,aI.nil _ _,K1.out⟩
 case round=>
  obtain⟨k,hk,rfl,hgood,Qp,PH,hK⟩:=hrel
  by_cases NV:k<l.length
  .have i1:(k:Int)<l.length:=a?
   obtain⟨bl,ol,rfl,r0,r1,r2,r3,Uq,Oq⟩:=gC.at_ (HL.out.kept0 hK) k NV
   have Qu:=fI RM l k NV
   have hlen:=gp RM l k hk
   have abQ:=Rf.out k hk
   have Zk:=tK hgood
   have RY:Hid (Oj l[k].kind=true->OT (Ob RM l k).2 (On l[k].bytes.length)≠0->¬gW RM l):=tK (fun h1 h2 h3=>h2 (h3 k NV h1))
   have RA:Hid ((Oj l[k].kind=true->OT (Ob RM l k).2 (On l[k].bytes.length)=0)->∀j (h:j<l.length),j<k+1->Oj l[j].kind=true->OT (Ob RM l j).2 (On l[j].bytes.length)=0):=tK (fun h1 j hj hjk hb=>by
    by_cases e:j=k
    .subst e;exact h1 hb
    .exact hgood j hj a? hb)
   have⟨Of,HK⟩:=f? NV hK
   obtain⟨p6,c6,rfl⟩:=PH.shape
   rw[hlen]
   have⟨HR,HLF,OZ,aaa⟩:=gh! PH Qp hlen abQ
   obtain⟨pL,cL,rfl⟩:=ah Qp
   have UA:=tK Qu
   clear hgood Qp PH hK hk Qu hlen abQ
   obtain⟨PK1,hPK1⟩:∃P,Ob RM l (k+1)=P:=⟨_,rfl⟩
   rw[hPK1]at UA
   have HPK:=tK hPK1
   clear hPK1
   generalize Ob RM l k=PK at*
   generalize hX:l[k]=X at*
   clear hX NV
   obtain⟨xk,xi,xn,xb⟩:=X
   obtain⟨RL,LL⟩:=PK
   simp only at*
   have HF0:Hid (ag.fits ⟨xk,xi,xn,0,[]⟩):=tK (wP Oq)
   have HF1:Hid (∀R,ag.fits ⟨xk,xi,xn,(xb.length:Int),R⟩):=tK (fun R=>⟨Oq.1,Oq.2.1,Oq.2.2.1,by have h1:xb.length<=1048576:=Oq.2.2.2;exact mn (n:=(xb.length:Int)) a? a?⟩)
   have hxb:(xb.length:Int)<=1048576:=by have h1:xb.length<=1048576:=Oq.2.2.2;omega
   have HCO:Hid (∀W,am! 47 #[xk] W fun e w'=>e=.returned (.bool (Oj xk))/\W=w'):=tK (fun W=>wg xk W)
   have QC:Hid (∀W,am! 95 #[.agg #[xk,(xi,()),xn,xb]] W fun e w'=>e=.returned (.agg #[xk,(xi,()),xn,(0:Int),()])/\NP [] W w'):=tK (fun W=>yZ ⟨xk,xi,xn,xb⟩ W)
   have acs:Hid (∀W,am! 54 #[(xb.length:Int)] W fun e w'=>e=(On xb.length:Int)/\W=w'):=tK (fun W=>sP _ W (mn a? a?))
   have afc:=Ia (xb.length:Int)
   have Xx:On (xb.length:Int)<=8192:=by unfold On;split<;>omega
   have aea:Hid (∀W u lo2 QZ,af W u LL lo2 QZ->am! 53 #[u,(On xb.length:Int)] W (qz LL (On xb.length) W)):=tK (fun W u lo2 QZ h=>GZ u LL _ lo2 QZ W h (by have:=aaa.out.gX;omega) (gT aaa.out) a? a?)
   have ad3:Hid (∀W u lo2 QZ u3 lo3 hi3,af W u LL lo2 QZ->af W u3 (Om LL (On xb.length)) lo3 hi3->am! 96 #[u,u3] W (bh (Pr LL (Om LL (On xb.length))) W)):=tK (fun W u lo2 QZ u3 lo3 hi3 h1 h2=>BT u LL lo2 QZ u3 _ lo3 hi3 W h1 h2 (by have:=aaa.out.gX;omega) (by have:=(pI LL (On xb.length)).gX;omega) (gT aaa.out) (gT (pI _ _)))
   have hLC:OT LL (On (xb.length:Int))=0\/OT LL (On (xb.length:Int))=100:=by unfold OT;rw[if_neg a?];split;exact Or.inr rfl;exact Or.inl rfl
   have Ud:OT LL (On (xb.length:Int))=0->QF LL (On (xb.length:Int))=Om LL (On xb.length):=fun h=>by unfold QF;rw[if_pos h]
   have UZ:=tK Ud
   have hp1:PK1=if Oj xk=true then(RL++[⟨xk,xi,xn,xb.length,Om LL (On xb.length)⟩],Pr LL (Om LL (On xb.length)))else(RL++[⟨xk,xi,xn,0,[]⟩],LL):=UA.out
   have HP1:=tK hp1
   have oX:=ae.new wr #[xk,(xi,()),xn,xb] 34
   have⟨z0,z1,z2,z3⟩:=oX.c4
   have HOX:=tK oX
   have HKX:=tK (HK.out.alloc (.cells #[xk,(xi,()),xn,xb] 34))
   have kx:NP [] wr (wr.alloc (.cells #[xk,(xi,()),xn,xb] 34)):=(NP.refl [] wr).alloc _
   have HRX:=tK (HR.out.kept0 kx)
   have HLX:=tK (MH HLF.out (.cells #[xk,(xi,()),xn,xb] 34))
   clear oX kx hp1 Ud Oq UA
   go_wp2_with fail
   refine(QC.out _).mono ?_;rintro e w3 ⟨rfl,k3⟩
   have Xi:=tK (HKX.out.trans k3)
   have ab1:=k3.own HOX.out b?
   have Z0:=tK ((HRX.out.kept0 k3).kept0 ((NP.refl [] w3).alloc (.cells #[xk,(xi,()),xn,(0:Int),()] 102)))
   have HL4:=tK (MH (ax HLX.out k3 (fun x hx=>by cases hx)) (.cells #[xk,(xi,()),xn,(0:Int),()] 102))
   have ZJ:=tK (HRX.out.kept0 k3)
   have HL3:=tK (ax HLX.out k3 (fun x hx=>by cases hx))
   have abu:Hid (NP [] w3 (w3.alloc (.cells #[xk,(xi,()),xn,(0:Int),()] 102))):=tK ((NP.refl [] w3).alloc _)
   have Ro:=tK (Xi.out.alloc (.cells #[xk,(xi,()),xn,(0:Int),()] 102))
   have oR:=ae.new w3 #[xk,(xi,()),xn,(0:Int),()] 102
   have aaM:(w3.alloc (.cells #[xk,(xi,()),xn,(0:Int),()] 102)).heap.size=w3.heap.size+1:=b?
   have⟨Tc,HOR⟩:=f? aaM oR
   have HGR:Hid (w.heap.size<=w3.heap.size):=tK Xi.out.size
   have ac4:=tK (ab1.alloc (.cells #[xk,(xi,()),xn,(0:Int),()] 102))
   clear z0 z1 z2 z3 k3 ab1 aaM HRX HLX QC
   have⟨z0,z1,z2,z3⟩:=ac4.out.c4
   have⟨y0,y1,y2,y3,y4⟩:=oR.k5
   have s3:=oR.free 3
   have s4:=oR.free 4
   clear oR
   go_upto_region 7 with fail
   generalize hrb:w3.heap.size=rb at*
   generalize w3.alloc (.cells #[xk,(xi,()),xn,(0:Int),()] 102)=w4 at*
   have HRB:=tK hrb
   clear hrb
   go_wp2_with fail
   refine(HCO.out _).mono ?_;rintro e w2 ⟨rfl,rfl⟩
   generalize Oj xk=KB at*
   cases KB
   .have hp:PK1=(RL++[⟨xk,xi,xn,0,[]⟩],LL):=by have h:=HP1.out;rw[if_neg b?]at h;exact h
    have HP:=tK hp
    have abC:=tK (RA.out (fun h=>by cases h))
    have⟨vs,hvs,NU,heach⟩:=Z0.out
    rw[OZ.out]at NU
    have⟨HVS,Pm,VD⟩:=gg! hvs NU heach
    clear hp hvs NU heach RY RA HP1
    obtain⟨i0,q0,q1,q2,q3⟩:=jB
    have m3:k+1<=maxLen:=by have:=Of.out;have:=HL8.out;unfold maxLen;omega
    have m4:(k+1)*64<=140737488355328:=by have:=Of.out;have:=HL8.out;omega
    have Yv:w.heap.size<=w4.heap.size:=Ro.out.size
    go_wp2_with (at_builtin;go_must (refine MT _ rfl (.tmp 48) (.tmp 50) 92 rfl w 102 i0 (.agg #[(0:Int),.int .u32 0,.string {data:=#[]},(0:Int),()]) 5 64 underlying92 q0 q1 q2 q3 rfl d? _ _ _ rfl (MH Pm.out _) w4 1 1 [.int .i64 xk,.int .u32 xi,.string (bs xn),.int .i64 0,.slice none 0 0] rfl rfl ?_ ?_ m3 m4 ?_ ?_))
    .exact kL _ _ _
    .intro u hu;simp at hu;rcases hu with rfl|rfl|rfl|rfl|rfl<;>rfl
    .simp<;>omega
    intro v6 w6 o6 Po _ _
    have TA:aI w w6 v6 PK1.1:=by
     rw[HP.out]
     exact aI.more HVS.out VD.out (by rw[OZ.out];exact Pm.out) (Nf _ _ _ _) HF0.out Po (by rw[OZ.out];exact o6)
    have Q7:NP [] w w6:=(Ro.out.alloc _).grown Po (fun q hq=>Or.inr (ML Pm.out q hq).1)
    have hl6:w6.ownsRow w 128 2 (pL,LL.length,cL) PK1.2.length (NW PK1.2):=by
     rw[HP.out]
     exact dG (MH HL4.out _) (fun g cs hb hc=>Po.block g (NK hc) (fun e=>aB (MH Pm.out _) (show ae _ g cs 128 from hc) d? e.symm))
    have⟨HNW,Tl,HL6⟩:=gg! TA Q7 hl6
    clear TA Q7 hl6 o6 Po
    go_wp2_with fail
    go_roundw
    case rel=>exact⟨k+1,Of.out,j?,abC.out,by rw[HPK.out];exact HL6.out,by rw[HPK.out];exact HNW.out,Tl.out⟩
    case measure=>(have hh:=Of.out;simp[intOf]<;>omega)
   .have hp:PK1=(RL++[⟨xk,xi,xn,xb.length,Om LL (On xb.length)⟩],Pr LL (Om LL (On xb.length))):=by have h:=HP1.out;rw[if_pos rfl]at h;exact h
    have HP:=tK hp
    have T9:Hid (OT LL (On (xb.length:Int))≠0->¬gW RM l):=tK (RY.out rfl)
    clear hp HP1 RY
    go_wp2_with fail
    refine(acs.out _).mono ?_;rintro e w2 ⟨rfl,rfl⟩
    go_wp2_with fail
    refine(aea.out _ _ _ _ (af.bB HL4.out)).mono ?_;rintro e w5 ⟨u5,rfl,OG,k5⟩
    have HK5:=tK (Ro.out.trans k5)
    have HR5:=tK (Z0.out.kept0 k5)
    have HL5:=tK (ax HL4.out k5 (fun x hx=>by cases hx))
    have ae4:=tK (k5.own ac4.out b?)
    have aaj:=tK (k5.own HOR.out b?)
    have Yc:=tK hLC
    have aeC:=tK (abu.out.trans k5)
    rcases hLC with hlc|hlc
    .have ZF:=UZ.out hlc
     have abC:=tK (RA.out (fun _=>hlc))
     rw[ZF]at OG
     rw[hlc]
     have WT:=tK OG
     obtain⟨p5,c5,rfl⟩:=ah OG
     have⟨a0,a1,a2,a3⟩:=ae4.out.c4
     have⟨b0,b1,b2,b3,b4⟩:=aaj.out.k5
     have f3:=aaj.out.free 3
     have f4:=aaj.out.free 4
     clear OG ZF hlc T9 RA k5 y0 y1 y2 y3 y4 z0 z1 z2 z3 s3 s4 Yc
     go_upto_region 12 with fail
     rw[NQ]
     have o6:ae ((w5.setCell (aa rb 3) (xb.length:Int)).setCell (aa rb 4) (p5,(Om LL (On (xb.length:Int))).length,c5)) rb #[xk,(xi,()),xn,(xb.length:Int),(p5,(Om LL (On (xb.length:Int))).length,c5)] 102:=(aaj.out.set 3 _).set 4 _
     have k56:NP [rb] w5 ((w5.setCell (aa rb 3) (xb.length:Int)).setCell (aa rb 4) (p5,(Om LL (On (xb.length:Int))).length,c5)):=((NP.refl [rb] w5).setCell (p:=(aa rb 3)) (Or.inl MY) _).setCell (p:=(aa rb 4)) (Or.inl MY) _
     have k36:NP [] w3 ((w5.setCell (aa rb 3) (xb.length:Int)).setCell (aa rb 4) (p5,(Om LL (On (xb.length:Int))).length,c5)):=(aeC.out.setCell (p:=(aa rb 3)) (Or.inr (by have:=HRB.out;show _<=rb;omega)) _).setCell (p:=(aa rb 4)) (Or.inr (by have:=HRB.out;show _<=rb;omega)) _
     generalize ((w5.setCell (aa rb 3) (xb.length:Int)).setCell (aa rb 4) (p5,(Om LL (On (xb.length:Int))).length,c5))=w6 at*
     have hr6:=ZJ.out.kept0 k36
     have hl6:=ax HL3.out k36 (fun x hx=>by cases hx)
     have Qz:=ax WT.out k56 (fun x hx=>by
      obtain rfl:x=rb:=h?
      have:=Tc.out;have:=HRB.out;omega)
     have Q7:=Xi.out.trans k36
     have⟨Vn,Zz,HL6,aaG,Tl⟩:=gi! o6 hr6 hl6 Qz Q7
     clear o6 k56 k36 hr6 hl6 Qz Q7 a0 a1 a2 a3 b0 b1 b2 b3 b4 f3 f4
     go_wp2_with fail
     with_reducible refine(ad3.out _ _ _ _ _ _ _ (af.bB HL6.out) (af.bB aaG.out)).mono ?_
     rintro e w7 ⟨u7,rfl,VB,k7⟩
     have Un:=tK (Tl.out.trans k7)
     have ho7:=k7.own Vn.out b?
     have hr7:=Zz.out.kept0 k7
     have Uw:=ax aaG.out k7 (fun x hx=>by cases hx)
     have acu:Hid (aE w w7 (p5,(Om LL (On (xb.length:Int))).length,c5) (Om LL (On (xb.length:Int)))):=tK (aF Uw (by have:=HGR.out;have:=Tc.out;have:=HRB.out;omega))
     have adb:=tK (aF VB Tl.out.size)
     obtain⟨p7,c7,rfl⟩:=ah VB
     have⟨b0,b1,b2,b3,b4⟩:=ho7.k5
     obtain⟨vs,hvs,NU,heach⟩:=hr7
     rw[OZ.out]at NU
     have⟨HVS,Pm,VD⟩:=gg! hvs NU heach
     clear k7 ho7 Uw VB hvs NU heach
     obtain⟨i0,q0,q1,q2,q3⟩:=jB
     have m3:k+1<=maxLen:=by have:=Of.out;have:=HL8.out;unfold maxLen;omega
     have m4:(k+1)*64<=140737488355328:=by have:=Of.out;have:=HL8.out;omega
     have Yv:w.heap.size<=w7.heap.size:=Un.out.size
     go_wp2_with (at_builtin;go_must (refine MT _ rfl (.tmp 48) (.tmp 50) 92 rfl w 102 i0 (.agg #[(0:Int),.int .u32 0,.string {data:=#[]},(0:Int),()]) 5 64 underlying92 q0 q1 q2 q3 rfl d? _ _ _ rfl (MH Pm.out _) w7 1 1 [.int .i64 xk,.int .u32 xi,.string (bs xn),.int .i64 (xb.length:Int),.slice p5 (Om LL (On (xb.length:Int))).length c5] rfl rfl ?_ ?_ m3 m4 ?_ ?_))
     .exact kL _ _ _
     .intro u hu;simp at hu;rcases hu with rfl|rfl|rfl|rfl|rfl<;>rfl
     .simp<;>omega
     intro v6 w6 o6 Po _ _
     have TA:aI w w6 v6 PK1.1:=by
      rw[HP.out]
      exact aI.more HVS.out VD.out (by rw[OZ.out];exact Pm.out) acu.out (HF1.out _) Po (by rw[OZ.out];exact o6)
     have Q7:NP [] w w6:=(Un.out.alloc _).grown Po (fun q hq=>Or.inr (ML Pm.out q hq).1)
     have hl6:w6.ownsRow w 128 2 (p7,(Pr LL (Om LL (On (xb.length:Int)))).length,c7) PK1.2.length (NW PK1.2):=by
      rw[HP.out]
      exact dG (MH adb.out _) (fun g cs hb hc=>Po.block g (NK hc) (fun e=>aB (MH Pm.out _) (show ae _ g cs 128 from hc) d? e.symm))
     have⟨HNW,aes,aeZ⟩:=gg! TA Q7 hl6
     clear TA Q7 hl6 o6 Po
     go_wp2_with fail
     go_roundw
     case rel=>exact⟨k+1,Of.out,j?,abC.out,by rw[HPK.out];exact aeZ.out,by rw[HPK.out];exact HNW.out,aes.out⟩
     case measure=>(have hh:=Of.out;simp[intOf]<;>omega)
    .have HB:=tK (T9.out (by rw[hlc];decide))
     rw[hlc]
     obtain⟨p5,c5,rfl⟩:=ah OG
     clear OG hlc T9 RA k5 Yc
     go_wp2_with fail
     go_ret3
     exact⟨Or.inr ⟨HB.out,100,d?,d?,rfl⟩,HK5.out⟩
  .obtain rfl:k=l.length:=a?
   have i1:¬((l.length:Nat):Int)<l.length:=a?
   obtain⟨p6,c6,rfl⟩:=PH.shape
   obtain⟨pL,cL,rfl⟩:=ah Qp
   have⟨HR,HLF,HK⟩:=gg! PH Qp hK
   have HG:Hid (gW RM l):=tK (fun j hj hb=>hgood j hj hj hb)
   clear PH Qp hK hgood
   go_wp2_with fail
   go_ret3
   exact⟨Or.inl ⟨HG.out,_,_,rfl,HR.out,HLF.out⟩,HK.out⟩
theorem I5 {mb:Nat} (h:aL T w B b sb mb lo v) (c:Int):am! 51 #[B,c] w fun e w'=>e=c/\aL T w' B b sb mb lo (Qk (v,c)).1/\NP [B] w w':=by
 exact M19
theorem Ky {T:List Nat} {w0 W:World} {B b sb mb lo gv gr:Nat} {v:VS} {l:List VC} {recs:List ag} {qs:List SQ} (h:dW T w0 W B b sb mb lo gv gr v l recs qs) (c:au) (cb cm cn:Value) (s:List UInt8) (gv2 gt gc:Nat) (rv:Value)
  (NU:W.ownsRow w0 42 1 rv (qs.length+2) ((qs.map (oT gv gr)).map zN++[.func (.func 39) #[b] #[],.func (.func 107) #[] #[gv2,gt,gc]]))
  (hv2:w0.heap.size<=gv2) (ht:w0.heap.size<=gt) (hc:w0.heap.size<=gc) (ov:ae W gv2 #[B] 27) (ot:ae W gt #[s] 9) (oc:ae W gc #[(c.nextBox,()),(c.nextMan,()),cb,cm,cn] 52)
  (Oz:dE T W b sb mb (.agg #[(c.nextBox,()),(c.nextMan,()),cb,cm,cn]) c) (hm:v.s.may) (hq:v.s.seq<=1000000) (hs:s.length<=4000) (ho:v.d.ops<=35000) (hw:v.d.waits.length<=700) (hn:v.d.stand.length<=100) (QX:1<=v.d.stand.length) (WG:l.length<=8):
  am! 37 #[rv] W fun e w'=>e=.returned (.int .i64 (OH (gP l recs++[aZ aA,bg c s]) v).2)/\aL T w' B b sb mb lo (OH (gP l recs++[aZ aA,bg c s]) v).1/\PK [B] b sb mb W w':=by
 refine Kx h [aA] (bg c s) [(39,#[b],#[]),(107,#[],#[gv2,gt,gc])] rfl b? (fun u hu=>?_) rv (by rw[M0];exact NU) (fun f hf e he=>?_) ho hw hn WG (fun j hj W' D hV k hF=>?_)
 .simp only[List.mem_cons,List.not_mem_nil,or_false]at hu
  rcases hu with rfl|rfl
  .exact enters_of func39 c? rfl
  .exact enters_of func107 c? rfl
 .obtain rfl:=Nm.1 hf
  exact(F0 e).mono QX
 .have hFo:=hF.ops
  have hFw:=hF.waits
  match j,hj with
  |0,_=>
   have:=si (T:=[]) hV.da (by show D.ops<_;omega) E!
   exact this.mono fun e w' ⟨a1,a2,a3⟩=>⟨a1,hV.pk a3 a2 (fun x hx=>by cases hx) b?,a3.mono b?⟩
  |1,_=>
   have:=Ed gv2 gt gc c cb cm cn s hV (fun W'' k2=>by
    have kk:=k.trans k2
    have⟨d0,d1,d2,d3,d4⟩:=(kk.own oc (h.off hc)).k5
    exact⟨(kk.own ov (h.off hv2)).cell 0 b?,(kk.own ot (h.off ht)).cell 0 b?,d0,d1,d2,d3,d4⟩) (Oz.pk (k.LY h.vol.hB)) hm hq hs (by show D.ops<=_;omega) E!
   exact this
def tD (T:List Nat) (B b sb mb lo:Nat) (R:VS×Int) (w:World) (e:Ending) (w':World):Prop:=e=R.2/\aL T w' B b sb mb lo R.1/\PK [B] b sb mb w w'
theorem oD (w:World) (B:Nat) (a1 a2 a3 a4 a5:Value):w.setCells B 0 (#[a1,a2,a3,a4,a5]:Array Value).toList=(((((w.setCell B a1).setCell (aa B 1) a2).setCell (aa B 2) a3).setCell (aa B 3) a4).setCell (aa B 4) a5):=rfl
theorem Dp:∃i,prog.info? 42=some i/\i.zero=some .nilFunc/\i.size=1/\i.bytes=8:=by
 have hi:(prog.info? 42).map (fun i=>(i.zero,i.size,i.bytes))=some (some .nilFunc,1,8):=c?
 exact Yh
theorem eE.more {w0 W W' l k qs} (h:eE w0 W l k qs) (hk:k<l.length) (hb:Oj l[k].kind=true) {gi gx} (h1:w0.heap.size<=gi) (h2:w0.heap.size<=gx) (hW:∀g cs t,ae W g cs t->(t=3\/t=34)->ae W' g cs t) (oi:ae W' gi #[(k:Int)] 3) (ox:ae W' gx l[k].cells 34):eE w0 W' l (k+1) (qs++[((k,l[k]),(gi,gx))]):=by
 refine⟨?_,fun q hq=>?_⟩
 .rw[M0,h.idx,pM l k hk,if_pos hb]
  rfl
 .rcases Na.1 hq with hq|hq
  .have⟨a1,a2,a3,a4⟩:=h.own q hq
   exact⟨a1,a2,hW _ _ _ a3 (Or.inl rfl),hW _ _ _ a4 (Or.inr rfl)⟩
  .obtain rfl:=Nm.1 hq
   exact⟨h1,h2,oi,ox⟩
theorem eE.AG (h:eE w0 W l k qs):qs.length<=k:=by
 have:=congrArg List.length h.idx
 rw[MP]at this
 rw[this];exact rL _ _
theorem Fk {g:Nat} {l:List Value} {t:TypeId} (o:ae w g l.toArray t):∀(j:Nat) (u:Value),l[j]? =some u->w.cell? (Addr.add g j)=some u:=by
 intro j u hj
 obtain⟨h,rfl⟩:=Nn.1 hj
 rw[Addr.add_mid,Nat.zero_add]
 have:=o.cell j T?
 simpa using this
def IN (w w7:World) (gr:Nat) (l:List VC) (sv kv:Value) (wr:World):Prop:=∃(k:Nat) (qs:List SQ),k<=l.length/\kv=(k:Int)/\wr.ownsRow w7 42 1 sv qs.length ((qs.map (oT w gr)).map zN)/\eE w wr l k qs/\NP [] w7 wr
theorem ur (h:v.dead=false) (h1:P5 v.c l=0) (h2:gW (Oh v) l) (h3:(N8 v.c (Ob (Oh v) l l.length).1).2=0) (h4:cX (Ob (Oh v) l l.length).1=0) (h5:((Pv (Ob (Oh v) l l.length).1).length:Int)<=v.s.journal*128-v.s.used):
  eX v l=Qk (OH (gP l (Ob (Oh v) l l.length).1++[aZ aA,bg (N8 v.c (Ob (Oh v) l l.length).1).1 (Pv (Ob (Oh v) l l.length).1)]) v):=by
 unfold eX;rw[if_neg (by rw[h];simp),if_neg (by rw[h1];simp),if_neg e!,if_neg (by rw[h3];simp),if_neg (by rw[h4];simp),if_pos h5]
end
section
section
open Go.Proofs.Tryz Go.RowKit
variable {T:List Nat} {w:World} {B b sb lo:Nat} {v:VS}
theorem Am {mb} (hV:aL T w B b sb mb lo v) (hm:v.s.may) (hc:OL v.c) (hf:v.c.boxes.length+v.c.mans.length+v.c.names.length<=5000):
  am! 17 #[B] w fun e w'=>e=(OV (Oh v):Int)/\NP [] w w':=by
 have HR:=tK (Gw hV hm hc hf)
 have hp:Pl 0 (Oh v):=lC _ _
 have HC:=tK fun W u PU PC h=>BU u _ PU PC W h (by have:=hp.gX;omega) (gT hp)
 have⟨sv,vb,vm,vn,o,_,_⟩:=hV.vol
 have⟨x0,x1,x2,x3,x4,x5,x6,x7,x8,x9,x10,x11,x12⟩:=o.ku
 clear hV hm hc hf hp o x1 x2 x3 x4 x5 x6 x7 x8 x9 x10 x11 x12
 go_enter func17,ntmps17
 go_wp2_with fail
 refine(HR.out).mono ?_;intro e w2 hg
 obtain⟨u,rfl,hu,k2⟩:=hg.runs
 have⟨HU,K2⟩:=f? hu k2
 obtain⟨p,c,rfl⟩:=hu.shape
 clear hu k2 hg
 go_wp2_with fail
 refine(HC.out _ _ _ _ HU.out).mono ?_;rintro e w3 ⟨rfl,k3⟩
 have K3:=tK (K2.out.trans k3)
 clear k3
 go_wp2_with fail
 go_ret
 exact⟨rfl,K3.out⟩
theorem F3 {p:NS->Bool} {l x} (h:PI p l=(x,true)):x∈l:=by
 unfold PI at h
 cases hf:l.find? p with
 |none=>rw[hf]at h;cases h
 |some y=>
  rw[hf]at h
  injection h with h _
  subst h
  exact List.mem_of_find?_eq_some hf
theorem vH {w v l lo hi} {t:TypeId} (h:af (w.alloc (.cells #[.int .u32 0,.string {data:=#[]},(0:Int),()] t)) v l lo hi):af w v l 0 w:=by
 rcases h with h|⟨b,off,c,e,h2,h3,h4,h5,h6,h7⟩
 .exact Or.inl h
 .have k:=(NP.refl [] w).alloc (.cells #[.int .u32 0,.string {data:=#[]},(0:Int),()] t)
  have PW:(w.alloc (.cells #[.int .u32 0,.string {data:=#[]},(0:Int),()] t)).heap.size=w.heap.size+1:=b?
  by_cases hb:b<w.heap.size
  .refine Or.inr ⟨b,off,c,e,fun i hi=>?_,Nb _,hb,MG _,h6,h7⟩
   rw[<-k.cell (a:=(aa b (off+i*2))) hb b?,<-k.cell (a:=(aa b (off+i*2+1))) hb b?]
   exact h2 i hi
  .exfalso
   have WA:b=w.heap.size:=a?
   subst WA
   have o:=ae.new w #[.int .u32 0,.string {data:=#[]},(0:Int),()] t
   have⟨c0,c1,c2,c3⟩:=o.c4
   have hp:0<l.length:=Nu.2 h6
   have⟨g0,g1⟩:=h2 0 hp
   rw[Nat.zero_mul,Nat.add_zero]at g0 g1
   match off,g0,g1 with
   |0,g0,_=>rw[c0]at g0;simp at g0
   |1,g0,_=>rw[c1]at g0;simp at g0
   |2,_,g1=>rw[c3]at g1;simp at g1
   |3,g0,_=>rw[c3]at g0;simp at g0
   |n+4,g0,_=>
    have hn:(w.alloc (.cells #[.int .u32 0,.string {data:=#[]},(0:Int),()] t)).cell? (aa w (n+4))=none:=by
     have h':(w.alloc (.cells #[.int .u32 0,.string {data:=#[]},(0:Int),()] t)).heap[w.heap.size]? =some (.cells #[.int .u32 0,.string {data:=#[]},(0:Int),()] t (0,0)):=o
     unfold World.cell?
     simp only
     rw[h']
     simp
    rw[hn]at g0;cases g0
def vE (T:List Nat) (B b sb mb lo:Nat) (R:List UInt8×Int×VS) (w:World) (e:Ending) (w':World):Prop:=
 e=.returned (.tuple #[R.1,R.2.1])/\aL T w' B b sb mb lo R.2.2/\NP [B] w w'
theorem I8 {mb:Nat} (id:Int) (nm:List UInt8) (hV:aL T w B b sb mb lo v) (hc:OL v.c) (hd:v.dead=false):
  am! 15 #[B,(3:Int),(id,()),nm] w (vE T B b sb mb lo (sH v 3 id nm) w):=by
 have Tq:=tK (BZ hV)
 rw[hd,if_neg b?]at Tq
 have ab2:lN v.c 3 id nm=PI (fun x=>x.name==nm) v.c.names:=by unfold lN;rw[if_neg d?,if_neg d?]
 have QQ:sH v 3 id nm=if(PI (fun x=>x.name==nm) v.c.names).2=false then([],6,v)else(PV v.d (PI (fun x=>x.name==nm) v.c.names).1.runs (PI (fun x=>x.name==nm) v.c.names).1.size,N7 v.d (PI (fun x=>x.name==nm) v.c.names).1.runs (PI (fun x=>x.name==nm) v.c.names).1.size,⟨v.d,v.s,v.c,N7 v.d (PI (fun x=>x.name==nm) v.c.names).1.runs (PI (fun x=>x.name==nm) v.c.names).1.size==90⟩):=by
  unfold sH
  rw[if_neg ai!,if_neg b?,ab2]
 have⟨sv,vb,vm,vn,o,_,Oz⟩:=hV.vol
 have HF:Hid (∀W,NP [] w W->am! 59 #[.agg #[(v.c.nextBox,()),(v.c.nextMan,()),vb,vm,vn],nm] W (lT W (PI (fun x=>x.name==nm) v.c.names) W)):=tK (fun W k=>Af _ _ v.c W (Oz.plain.kept0 k) hc.small)
 have HO:Hid (∀W,NP [] w W->W.cell? B=b):=tK (fun W k=>(k.own o b?).cell 0 (by simp[bL]))
 have hlen:∀x,PI (fun x=>x.name==nm) v.c.names=(x,true)->x.runs.length<=16:=fun x hx=>nH (hc.names.2.1 x (F3 hx))
 have HG:Hid (∀(W:World) (u:Value) (PU PC:Nat) (x:NS),NP [] w W->af W u x.runs PU PC->x.fits->(∀a∈x.runs,aQ a)->x.runs.length<=16->am! 60 #[b,u,x.size] W fun e w'=>e=.returned (.tuple #[.string (bs (PV v.d x.runs x.size)),(N7 v.d x.runs x.size:Int)])/\NP [] W w'):=tK (fun W u PU PC (x:NS) k h1 h2 h3 h4=>GO u x.runs x.size PU PC (hV.da.aJ k) h1 a? h3 h2.2.2)
 have HT:Hid (∀W c,NP [] w W->(Lit.int .i64 c).wf=true->am! 51 #[B,.int .i64 c] W fun e w'=>e=.returned (.int .i64 c)/\aL T w' B b sb mb lo ⟨v.d,v.s,v.c,c==90⟩/\NP [B] W w'):=tK (fun W c k hcw=>by
  have h:=Kr (hV.aJ k) c hcw
  unfold Qk at h
  rw[hd,Bool.false_or]at h
  exact h)
 have HV:=tK hV
 have XQ:Hid (∀W,NP [] w W->W.cell? B=b/\W.cell? (aa B 7)=(v.c.nextBox,())/\W.cell? (aa B 8)=(v.c.nextMan,())/\W.cell? (aa B 9)=some vb/\W.cell? (aa B 10)=some vm/\W.cell? (aa B 11)=some vn):=tK (fun W k=>by
  have⟨a0,_,_,_,_,_,_,a7,a8,a9,a10,a11,_⟩:=(k.own o b?).ku
  exact⟨a0,a7,a8,a9,a10,a11⟩)
 have⟨x0,x7,x8,x9,x10,x11⟩:=XQ.out (w.alloc (.cells #[.int .u32 0,.string {data:=#[]},(0:Int),()] 113)) ((NP.refl [] w).alloc _)
 rw[QQ]
 have OZ:=tK hlen
 have Z6:Hid (∀l n,(Lit.int .i64 (N7 v.d l n)).wf=true):=tK (fun l n=>by unfold N7;split;split;decide;decide;decide)
 clear hV hc hd ab2 QQ Oz hlen o
 generalize PI (fun x=>x.name==nm) v.c.names=X at*
 obtain⟨X,there⟩:=X
 have oXA:=ae.new w #[.int .u32 0,.string {data:=#[]},(0:Int),()] 113
 have ach:=tK oXA
 clear oXA
 cases there
 .simp only[if_true]
  go_enter func15,ntmps15
  go_wp2_with fail
  refine Tq.out.mono ?_;rintro e w2 ⟨rfl,rfl⟩
  go_wp2_with fail
  refine(HF.out _ ?_).mono ?_
  .exact(NP.refl _ _).alloc _
  rintro e w3 ⟨kv,rfl,Pf,k3⟩
  obtain⟨pk,ck,ekv⟩:∃p c,kv=.slice p X.runs.length c:=Pf.1.shape
  subst ekv
  unfold NS.cells
  have ox:=k3.own ach.out b?
  have⟨y0,y1,y2,y3⟩:=ox.c4
  have⟨z0,z1,z2,z3⟩:=ox.z4
  have kk:=((NP.refl [] w).alloc (.cells #[.int .u32 0,.string {data:=#[]},(0:Int),()] 113)).trans k3
  have kf:=(((kk.setCell (p:=w) (Or.inr (MG _)) (X.id,())).setCell (p:=(aa w 1)) (Or.inr (MG _)) X.name).setCell (p:=(aa w 2)) (Or.inr (MG _)) X.size).setCell (p:=(aa w 3)) (Or.inr (MG _)) (pk,X.runs.length,ck)
  have KF:=tK kf
  clear ox kk kf k3 Pf
  go_wp2_with fail
  go_ret2
  exact⟨rfl,HV.out.aJ KF.out,KF.out.mono b?⟩
 .simp only[Bool.true_eq_false,if_false]
  have RV:=OZ.out X rfl
  have aez:=tK RV
  clear RV
  go_enter func15,ntmps15
  go_wp2_with fail
  refine Tq.out.mono ?_;rintro e w2 ⟨rfl,rfl⟩
  go_wp2_with fail
  refine(HF.out _ ?_).mono ?_
  .exact(NP.refl _ _).alloc _
  rintro e w3 ⟨kv,rfl,Pf,k3⟩
  obtain⟨pk,ck,ekv⟩:∃p c,kv=.slice p X.runs.length c:=Pf.1.shape
  subst ekv
  unfold NS.cells
  have ox:=k3.own ach.out b?
  have⟨y0,y1,y2,y3⟩:=ox.c4
  have⟨z0,z1,z2,z3⟩:=ox.z4
  have kk:=((NP.refl [] w).alloc (.cells #[.int .u32 0,.string {data:=#[]},(0:Int),()] 113)).trans k3
  have SI:=tK kk
  obtain⟨ok1,ok2,ok3⟩:=Pf
  have⟨adL,Xk,adU,HOX,Xi⟩:=gi! ok1 ok2 ok3 ox k3
  clear ox kk k3 ok1 ok2 ok3
  go_upto_region 16 with fail
  have kf:=(((SI.out.setCell (p:=w) (Or.inr (MG _)) (X.id,())).setCell (p:=(aa w 1)) (Or.inr (MG _)) X.name).setCell (p:=(aa w 2)) (Or.inr (MG _)) X.size).setCell (p:=(aa w 3)) (Or.inr (MG _)) (pk,X.runs.length,ck)
  have of:ae ((((w3.setCell w (X.id,())).setCell (aa w 1) X.name).setCell (aa w 2) X.size).setCell (aa w 3) (pk,X.runs.length,ck)) w #[(X.id,()),X.name,X.size,(pk,X.runs.length,ck)] 113:=(((HOX.out.set 0 (X.id,())).set 1 X.name).set 2 X.size).set 3 (pk,X.runs.length,ck)
  generalize ((((w3.setCell w (X.id,())).setCell (aa w 1) X.name).setCell (aa w 2) X.size).setCell (aa w 3) (pk,X.runs.length,ck))=w4 at*
  have hr4:=(vH adL.out).kept0 kf
  have⟨Z0,KF,HOF⟩:=gg! hr4 kf of
  have aby:Hid (∀W,NP [] w4 W->W.cell? B=b/\W.cell? (aa w 2)=X.size/\W.cell? (aa w 3)=(pk,X.runs.length,ck)):=tK (fun W k=>by
   have⟨_,_,e2,e3⟩:=(k.own HOF.out b?).c4
   exact⟨HO.out W (KF.out.trans k),e2,e3⟩)
  clear of kf hr4 y0 y1 y2 y3 z0 z1 z2 z3 x0 x7 x8 x9 x10 x11
  have⟨y0,y1,y2⟩:=aby.out w4 (NP.refl _ _)
  refine MK (S:=(fun W=>W.cell? B=b/\W.cell? (aa w 2)=X.size/\W.cell? (aa w 3)=(pk,X.runs.length,ck))) c? (by exact aby.out _ ((NP.refl [] w4).drew)) (fun hHeld=>?_)
  refine tS ?_
  refine rD 8 (fun K hK=>?_)
  go_simp
  ((with_reducible refine(HG.out _ _ _ _ X ((KF.out).drew) (Z0.out.kept0 ((NP.refl [] w4).drew)) Xk.out adU.out aez.out).mono ?_));rintro e w5 ⟨rfl,k5⟩
  have Sp:=((NP.refl [] w4).drew).trans k5
  have K5:=tK Sp
  clear Sp k5
  go_wp2_with fail
  refine hK.out _ _ (aby.out _ K5.out) (fun hHeld=>nM ?_)
  clear hK K
  refine tS ?_
  refine Ng c? ?_ _
  try simp only[List.set_cons_succ,List.set_cons_zero]
  have KW:=tK (KF.out.trans K5.out)
  have U0:=Z6.out X.runs X.size
  have HT5:=tK (HT.out w5 _ (KF.out.trans K5.out) U0)
  clear U0 y0 y1 y2
  generalize N7 v.d X.runs X.size=GC at*
  generalize PV v.d X.runs X.size=GX at*
  go_wp2_with fail
  refine HT5.out.mono ?_;rintro e w6 ⟨rfl,hV6,k6⟩
  have HV6:=tK hV6
  have K6:=tK ((KW.out.mono b?).trans k6)
  clear hV6 k6
  go_wp2_with fail
  go_ret2
  exact⟨rfl,HV6.out,K6.out⟩
end
section
open Go.Proofs.Tryz Go.ChangeShapes Go.WideShapes Go.ChangeAt Go.RowKit Go.Deep
instance:Inhabited VC:=⟨⟨0,0,[],[]⟩⟩
section
variable {H:Type} {enc:TypeId×Value->H} {w:World} {base:Nat} {held:Bool} {r:Reach} {b0:Nat}
end
end
open Go.Proofs.Tryz Go.RowKit
variable {S T T':List Nat} {w w' w1:World} {b sb lo base bx:Nat} {d:DK} {v:Value} {c:au} {s:List UInt8} {nb nm:Int} {A B C:List NS}
theorem aD.aside {mb} (h:aD w b sb mb lo d) (k:NP S w w') (hS:∀x∈S,bf [] w b sb mb x):aD w' b sb mb lo d:=by
 obtain⟨wv,n,ob,os,Sr,hm,hn,h2,h3,h4,h5,h6,r⟩:=h
 have n1:b∉S:=fun hx=>(hS b hx).2.1 rfl
 have n2:sb∉S:=fun hx=>(hS sb hx).2.2.1 rfl
 have n3:mb∉S:=fun hx=>(hS mb hx).2.2.2.1 rfl
 have hr:w'.ownsRow lo 206 2 wv d.waits.length (PG d.waits):=by
  obtain⟨r1,r2⟩:=Sr
  refine⟨r1,?_⟩
  rcases r2 with r2|⟨g,cap,cur,rfl,hg,hh,r⟩
  .exact Or.inl r2
  .refine Or.inr ⟨g,cap,cur,rfl,hg,(k.block g (NK hh) (fun hx=>?_)).trans hh,r⟩
   exact(hS g hx).2.2.2.2 ⟨_,ob.cell 1 b?,rfl⟩
 exact⟨wv,n,k.own ob n1,k.own os n2,hr,hm.kept k n3,hn,h2,h3,h4,h5,Nk h6 k.size,r⟩
theorem DA.aside {mb} (h:DA w b sb mb lo d) (k:NP S w w') (hS:∀x∈S,bf [] w b sb mb x):DA w' b sb mb lo d:=⟨h.disk.aside k hS,h.fit⟩
theorem WB.aside (hb:b<w.heap.size) (k:NP S w w') (hS:b∉S) (g):WB w' b g↔WB w b g:=WB.iw (k.cell (a:=(aa b 1)) hb hS)
theorem bf.aside {mb g} (h:bf T w b sb mb g) (hb:b<w.heap.size) (k:NP S w w') (hS:b∉S):bf T w' b sb mb g:=⟨h.1,h.2.1,h.2.2.1,h.2.2.2.1,fun hx=>h.2.2.2.2 ((WB.aside hb k hS g).1 hx)⟩
theorem wD {mb} (hb:b<w.heap.size) (k:NP S w w') (hS:b∉S) (hT':∀x∈T',x∈T\/w.heap.size<=x):∀g,SD T' w' b sb mb g->SD T w b sb mb g\/w.heap.size<=g:=by
 intro g hg
 by_cases NV:w.heap.size<=g
 .exact Or.inr NV
 .refine Or.inl fun ho=>hg ⟨fun hx=>?_,ho.2.1,ho.2.2.1,ho.2.2.2.1,fun hx=>ho.2.2.2.2 ((WB.aside hb k hS g).1 hx)⟩
  rcases hT' g hx with h|h
  .exact ho.1 h
  .exact NV h
theorem dE.aside {mb} (h:dE T w b sb mb v c) (hb:b<w.heap.size) (k:NP S w w') (hST:∀x∈S,x∈T) (hS:b∉S) (hT':∀x∈T',x∈T\/w.heap.size<=x):dE T' w' b sb mb v c:=by
 have h1:av (SD T w b sb mb) w' v c:=av.aS h k (fun x hx ho=>ho.1 (hST x hx))
 have h0:av (fun x=>SD T w b sb mb x\/w.heap.size<=x) w v c:=av.more h (fun x hx=>hx)
 have h2:av (fun x=>SD T w b sb mb x\/w.heap.size<=x) w' v c:=av.aS h0 k (fun x hx=>Or.inl (fun ho=>ho.1 (hST x hx)))
 exact h2.cI (fun g hg=>wD hb k hS hT' g hg)
theorem ep.aside {mb l} (h:ep T w b sb mb v l) (hb:b<w.heap.size) (k:NP S w w') (hST:∀x∈S,x∈T) (hS:b∉S) (hT':∀x∈T',x∈T\/w.heap.size<=x):ep T' w' b sb mb v l:=by
 obtain⟨⟨lo,hi,h1⟩,h2⟩:=h
 refine⟨⟨lo,hi,h1.aS k h2 (fun x hx ho=>ho.1 (hST x hx))⟩,fun g off sp n' c e hn hg=>?_⟩
 rcases wD hb k hS hT' g hg with h3|h3
 .exact h2 g off sp n' c e hn h3
 .have:=h1.mT g off sp n' c e hn
  omega
theorem aL.aside {B mb v} (h:aL T w B b sb mb lo v) (k:NP S w w') (hS:∀x∈S,x∈T/\x≠B/\bf [] w b sb mb x) (hT':∀x∈T',x<w'.heap.size/\(x∈T\/w.heap.size<=x)) (hB:B∈T'):aL T' w' B b sb mb lo v:=by
 have Xq:b∉S:=fun hx=>(hS b hx).2.2.2.1 rfl
 obtain⟨hD,⟨sv,vb,vm,vn,o,hr,hc⟩,_,_,RT⟩:=h
 have hBS:B∉S:=fun hx=>(hS B hx).2.1 rfl
 exact⟨hD.aside k (fun x hx=>(hS x hx).2.2),⟨sv,vb,vm,vn,k.own o hBS,hr.aside hD.bH k (fun x hx=>(hS x hx).1) Xq (fun x hx=>(hT' x hx).2),hc.aside hD.bH k (fun x hx=>(hS x hx).1) Xq (fun x hx=>(hT' x hx).2)⟩,hB,fun x hx=>(hT' x hx).1,RT.aside hD.bH k Xq⟩
theorem ye {T w w' B b sb mb lo d s c sv vb vm vn} (hD:DA w b sb mb lo d) (k:NP [] w w') (hB:w.heap.size<=B) (o:ae w' B (bL b s sv c vb vm vn false) 90) (hr:af w' sv s.runs w B) (hc:av (fun x=>x<w.heap.size\/x=B) w' (.agg #[(c.nextBox,()),(c.nextMan,()),vb,vm,vn]) c) (hBT:B∈T) (hT:∀x∈T,x<w.heap.size\/x=B):aL T w' B b sb mb lo ⟨d,s,c,false⟩:=by
 have hsd:∀g,SD T w' b sb mb g->g<w.heap.size\/g=B:=fun g hg=>by
  apply NG
  intro hn
  have h1:w.heap.size<=g/\g≠B:=a?
  refine hg ⟨fun hx=>?_,by have:=hD.bH;omega,by have:=hD.sC;omega,by have:=hD.vP;omega,fun hx=>by have:=hD.Ak ((hD.tG k g).1 hx);omega⟩
  rcases hT g hx with h|h
  .omega
  .exact h1.2 h
 refine⟨hD.aJ k,⟨sv,vb,vm,vn,o,⟨⟨_,_,hr⟩,fun g off sp n' c' e hn hg=>?_⟩,hc.cI hsd⟩,hBT,fun x hx=>?_,hD.bU (fun x hx=>by cases hx) k hB⟩
 .rcases hr with⟨h0,_⟩|⟨g',off',c'',e',_,h3,h4,_⟩
  .rw[h0]at hn;simp at hn
  .rw[e']at e
   injection e with e
   injection e with e
   injection e with e
   subst e
   rcases hsd _ hg with h|h<;>omega
 .rcases hT x hx with h|h
  .exact MR h k.size
  .rw[h];exact o.lt
theorem eK.aside {S w w' r rlo d} (h:eK w r rlo d) (k:NP S w w') (hr:r∉S) (hS:∀x∈S,rlo<=x->∀cs,w.heap[x]? ≠some (.cells cs 9 (0,0))/\w.heap[x]? ≠some (.cells cs 208 (0,0))):eK w' r rlo d:=by
 obtain⟨sv,wv,o,hsr,Sr,h1,h2,r3⟩:=h
 exact⟨sv,wv,k.own o hr,cF hsr k (fun x hx hb cs=>(hS x hx hb cs).1),cF Sr k (fun x hx hb cs=>(hS x hx hb cs).2),Nk h1 k.size,h2,r3⟩
theorem zn {x cs TL} {t t':TypeId} (o:ae w x cs t) (h:t≠t'):w.heap[x]? ≠some (.cells TL t' (0,0)):=fun hc=>by
 have o':w.heap[x]? =some (.cells cs t (0,0)):=o
 rw[o']at hc
 injection hc with hc
 injection hc with _ ht
 exact h ht
structure oe (P:Nat->Prop) (w:World) (R r rlo:Nat) (v:VS):Prop where
 qa:QA w r rlo v.d
 vol:∃sv vb vm vn,ae w R (bL r v.s sv v.c vb vm vn v.dead) 202/\(∃lo hi,af w sv v.s.runs lo hi)/\bD P sv v.s.runs.length/\av P w (.agg #[(v.c.nextBox,()),(v.c.nextMan,()),vb,vm,vn]) v.c
 hr:P r
 hR:P R
 lt:∀x,P x->x<w.heap.size
 ne:R≠r
section
variable {P:Nat->Prop} {w w':World} {R r rlo:Nat} {v:VS}
theorem oe.kept {d'} (h:oe P w R r rlo v) (k:NP S w w') (hS:∀x∈S,P x) (hRS:R∉S) (hq:QA w' r rlo d'):oe P w' R r rlo ⟨d',v.s,v.c,v.dead⟩:=by
 obtain⟨sv,vb,vm,vn,o,⟨lo,hi,hr⟩,P0,hc⟩:=h.vol
 exact⟨hq,⟨sv,vb,vm,vn,k.own o hRS,⟨lo,hi,hr.aS k P0 hS⟩,P0,av.aS hc k hS⟩,h.hr,h.hR,fun x hx=>MR (h.lt x hx) k.size,h.ne⟩
theorem oe.aJ (h:oe P w R r rlo v) (k:NP [] w w'):oe P w' R r rlo v:=h.kept k (fun x hx=>by cases hx) b? (h.qa.aJ k)
end
def jG (s:List UInt8) (w:World) (e:Ending) (w':World):Prop:=
 ((∃c v,OL c/\il c/\bN c=s/\av (fun x=>x<w.heap.size) w' v c/\e=.returned (.tuple #[v,true]))\/(fT s/\e=.returned (.tuple #[.agg #[.int .u32 0,.int .u32 0,(),(),()],false])))/\NP [] w w'
theorem jt (h:fT s) (k:NP [] w w'):jG s w (.returned (.tuple #[.agg #[.int .u32 0,.int .u32 0,(),(),()],false])) w':=⟨Or.inr ⟨h,rfl⟩,k⟩
theorem wW (h1:OL c) (h2:bN c=s) (h3:av (fun x=>x<w.heap.size) w' v c) (k:NP [] w w'):jG s w (.returned (.tuple #[v,true])) w':=⟨Or.inl ⟨c,v,h1,h3.plain.fit,h2,h3,rfl⟩,k⟩
def qZ (w1:World) (v:Value):Prop:=∀g,v.ownBlock=some g->w1.heap.size<=g
theorem qZ.nil (w1):qZ w1 ():=fun g hg=>by simp[Value.ownBlock]at hg
def fo (base:Nat) (w1 w:World) (bx:Nat) (nb nm:Int) (A B C:List NS):Prop:=
 ∃va vb vc xs ys zs,ae w bx #[(nb,()),(nm,()),va,vb,vc] 52/\eP base w va vb vc xs ys zs/\xs.map (·.1)=A/\ys.map (·.1)=B/\zs.map (·.1)=C/\NP [bx] w1 w/\(qZ w1 va/\qZ w1 vb/\qZ w1 vc)
theorem fo.start {base w1 bx nb nm} (o:ae w1 bx #[(nb,()),(nm,()),(),(),()] 52):fo base w1 w1 bx nb nm [] [] []:=
 ⟨_,_,_,[],[],[],o,eP.nil _ _,rfl,rfl,rfl,NP.refl _ _,qZ.nil _,qZ.nil _,qZ.nil _⟩
theorem fo.kept0 (h:fo base w1 w bx nb nm A B C) (k:NP [] w w'):fo base w1 w' bx nb nm A B C:=by
 obtain⟨va,vb,vc,xs,ys,zs,o,r3,e1,e2,e3,kk,hlo⟩:=h
 exact⟨va,vb,vc,xs,ys,zs,k.own o b?,r3.kept0 k,e1,e2,e3,kk.trans (k.mono (fun x hx=>by cases hx)),hlo⟩
theorem fo.cat (h:fo base w1 w bx nb nm A B C) (hb:(Lit.int .u32 nb).wf=true) (hm:(Lit.int .u32 nm).wf=true):
  ∃va vb vc,(fP va/\fP vb/\fP vc)/\ae w bx #[(nb,()),(nm,()),va,vb,vc] 52/\NP [bx] w1 w/\(∀w',NP [] w w'->av (fun x=>x<base) w' (.agg #[(nb,()),(nm,()),va,vb,vc]) ⟨nb,nm,A,B,C⟩/\∀g cs,ae w' g cs 52->∀a b c d e,av (fun x=>x<base) (((((w'.setCell ⟨g,0,none⟩ a).setCell ⟨g,1,none⟩ b).setCell ⟨g,2,none⟩ c).setCell ⟨g,3,none⟩ d).setCell ⟨g,4,none⟩ e) (.agg #[(nb,()),(nm,()),va,vb,vc]) ⟨nb,nm,A,B,C⟩):=by
 obtain⟨va,vb,vc,xs,ys,zs,o,r3,e1,e2,e3,k,_⟩:=h
 have hc:∀W,eP base W va vb vc xs ys zs->av (fun x=>x<base) W (.agg #[(nb,()),(nm,()),va,vb,vc]) ⟨nb,nm,A,B,C⟩:=fun W r=>by
  exact M98
 have PX:∀{v:Value} {n:Nat} {us:List Value},w.ownsRow base 113 4 v n us->fP v:=fun h=>by
  obtain⟨p,c,rfl⟩:=ah h
  exact⟨_,_,_,rfl⟩
 refine⟨va,vb,vc,⟨PX r3.ra,PX r3.rb,PX r3.rc⟩,o,k,fun w' q=>⟨hc _ (r3.kept0 q),fun g cs og a b c d e=>hc _ ?_⟩⟩
 exact(((((r3.kept0 q).set og 0 a).set (og.set 0 a) 1 b).set ((og.set 0 a).set 1 b) 2 c).set (((og.set 0 a).set 1 b).set 2 c) 3 d).set ((((og.set 0 a).set 1 b).set 2 c).set 3 d) 4 e
theorem fo.put {w6 ob va vb vc v6 xs ys zs} {x:NS×Value} {cs} (o:ae w bx cs 52) (r:eP base w va vb vc xs ys zs) (hx:dM base w x) (kk:NP [bx] w1 w) (hlo:qZ w1 va) (hg:(w.alloc ob).grownBy w6 va.ownBlock) (hr:w6.ownsRow base 113 4 v6 (xs.length+1) (NX xs++Pt x.1 x.2)) (hb:v6.ownBlock=va.ownBlock\/v6.ownBlock=some (w.alloc ob).heap.size):
  ae w6 bx cs 52/\eP base w6 v6 vb vc (xs++[x]) ys zs/\NP [bx] w1 w6/\qZ w1 v6/\(∀g TL t,ae w g TL t->t≠113->ae w6 g TL t):=by
 have k1:NP [] w (w.alloc ob):=(NP.refl _ _).alloc _
 have Ot:∀g TL t,ae w g TL t->t≠113->ae w6 g TL t:=fun g TL t o ht=>by
  have o1:=o.alloc ob
  have Pb:=aB (MH r.ra ob) o1 (fun e=>ht e.symm)
  have:w6.heap[g]? =(w.alloc ob).heap[g]? :=hg.block g o1.lt (fun e=>Pb e.symm)
  show w6.heap[g]? =_
  rw[this]
  exact o1
 refine⟨Ot _ _ _ o d?,(r.kept0 k1).add (hx.kept0 k1) hg hr hb,(kk.alloc ob).grown hg (fun q hq=>Or.inr (hlo q hq)),fun g e=>?_,Ot⟩
 rcases hb with hb|hb
 .exact hlo g (by rw[<-hb];exact e)
 .rw[hb]at e
  injection e with e
  have h1:=kk.size
  have h2:=k1.size
  omega
end
end Go.Proofs.YtdkimcnlhmhpgaaGreat

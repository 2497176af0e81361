/- -/
import Derived.Test.YtdkimcnlhmhpgaaGreatK06
set_option maxHeartbeats 16000000
set_option maxRecDepth 100000
namespace Go.Proofs.YtdkimcnlhmhpgaaGreat
open Go.RowKit
variable {a:Int} {l p:List (Int×Int)}
theorem MT:type_of% @List.length_singleton:=@List.length_singleton
theorem mf {P:Program} {a:Act} {w:World} {Q:Exit->Act->World->Prop} {c rest:Code} (l:Nat) (J:Act->World->Prop) (μ:Act->World->Nat) (hf:findLabel c l=some (Code.skip.seq rest))
  (pass:∀a w,J a w->rest.wp P (Exit.jump l (fun a' w'=>J a' w'/\μ a' w'<μ a w) Q) a w)
  (first:(∀a w,J a w->rest.wp P (Exit.jump l J Q) a w)->c.wp P (Exit.jump l J Q) a w):(Code.scope c).wp P Q a w:=
 wp_scope_jumps l J μ hf (first (fun a w h=>wp_mono (pass a w h) (fun e a' w' he=>by
  cases e with
  |goto l'=>exact⟨he.1,he.2.1⟩
  |_=>exact he))) (fun a w h=>wp_seq (wp_skip (pass a w h)))
theorem lR (x0 x1 x2 x3 x4 x5 x6 x7 x8 x9 x10 x11 x12 x13 x14 x15 x16 x17 x18 x19 x20 x21 x22 x23 x24 x25 x26 x27 x28 x29 x30 x31 x32 x33 x34 x35 x36 x37 x38 x39 x40 x41 x42 x43 x44 x45 x46 x47 x48 x49 x50 x51 x52 x53 x54 x55 x56 x57 x58 x59 x60 x61 x62 x63 x64 x65 x66 x67 x68 x69 x70 x71 x72 x73 x74 x75 x76 x77 x78 x79 x80 x81 x82 x83 x84 x85 x86 x87 x88:Value):∃u:Nat->Value,({tmps:=#[x0,x1,x2,x3,x4,x5,x6,x7,x8,x9,x10,x11,x12,x13,x14,x15,x16,x17,x18,x19,x20,x21,x22,x23,x24,x25,x26,x27,x28,x29,x30,x31,x32,x33,x34,x35,x36,x37,x38,x39,x40,x41,x42,x43,x44,x45,x46,x47,x48,x49,x50,x51,x52,x53,x54,x55,x56,x57,x58,x59,x60,x61,x62,x63,x64,x65,x66,x67,x68,x69,x70,x71,x72,x73,x74,x75,x76,x77,x78,x79,x80,x81,x82,x83,x84,x85,x86,x87,x88],defers:=[]}:Act)={tmps:=#[x0,x1,x2,x3,x4,x5,x6,x7,x8,x9,(u 10),(u 11),(u 12),(u 13),(u 14),(u 15),(u 16),(u 17),(u 18),(u 19),(u 20),(u 21),(u 22),(u 23),(u 24),(u 25),(u 26),(u 27),(u 28),(u 29),(u 30),(u 31),(u 32),(u 33),(u 34),(u 35),(u 36),(u 37),(u 38),(u 39),(u 40),(u 41),(u 42),(u 43),(u 44),(u 45),(u 46),(u 47),(u 48),(u 49),(u 50),(u 51),(u 52),(u 53),(u 54),(u 55),(u 56),(u 57),(u 58),(u 59),(u 60),(u 61),(u 62),(u 63),(u 64),(u 65),(u 66),(u 67),(u 68),(u 69),(u 70),(u 71),(u 72),(u 73),(u 74),(u 75),(u 76),(u 77),(u 78),(u 79),(u 80),(u 81),(u 82),(u 83),(u 84),(u 85),(u 86),(u 87),(u 88)],defers:=[]}:=
 ⟨fun n=>[x0,x1,x2,x3,x4,x5,x6,x7,x8,x9,x10,x11,x12,x13,x14,x15,x16,x17,x18,x19,x20,x21,x22,x23,x24,x25,x26,x27,x28,x29,x30,x31,x32,x33,x34,x35,x36,x37,x38,x39,x40,x41,x42,x43,x44,x45,x46,x47,x48,x49,x50,x51,x52,x53,x54,x55,x56,x57,x58,x59,x60,x61,x62,x63,x64,x65,x66,x67,x68,x69,x70,x71,x72,x73,x74,x75,x76,x77,x78,x79,x80,x81,x82,x83,x84,x85,x86,x87,x88].getD n undef,rfl⟩
def L6 (w:World) (x y:List (Int×Int)) (pa:Option Addr) (al ac:Nat) (pb:Option Addr) (bl bc:Nat) (a':Act) (w':World):Prop:=
 ∃(W:World) (px:Option Addr) (cx:Nat) (py:Option Addr) (cy i k:Nat) (out:List (Int×Int)) (v7:Value),(∃u:Nat->Value,a'={tmps:=#[.slice pa al ac,.slice pb bl bc,undef,undef,.slice none 0 0,.slice px x.length cx,.slice py y.length cy,v7,.int .i64 i,.int .i64 k,(u 10),(u 11),(u 12),(u 13),(u 14),(u 15),(u 16),(u 17),(u 18),(u 19),(u 20),(u 21),(u 22),(u 23),(u 24),(u 25),(u 26),(u 27),(u 28),(u 29),(u 30),(u 31),(u 32),(u 33),(u 34),(u 35),(u 36),(u 37),(u 38),(u 39),(u 40),(u 41),(u 42),(u 43),(u 44),(u 45),(u 46),(u 47),(u 48),(u 49),(u 50),(u 51),(u 52),(u 53),(u 54),(u 55),(u 56),(u 57),(u 58),(u 59),(u 60),(u 61),(u 62),(u 63),(u 64),(u 65),(u 66),(u 67),(u 68),(u 69),(u 70),(u 71),(u 72),(u 73),(u 74),(u 75),(u 76),(u 77),(u 78),(u 79),(u 80),(u 81),(u 82),(u 83),(u 84),(u 85),(u 86),(u 87),(u 88)],defers:=[]})/\af W (.slice px x.length cx) x w.heap.size W.heap.size/\af W (.slice py y.length cy) y w.heap.size W.heap.size/\aa [] w W/\qU x y out i k/\w'.ownsRow W.heap.size 128 2 v7 out.length (No out)/\aa [] W w'
def ta (x y:List (Int×Int)) (a':Act) (_:World):Nat:=x.length+y.length-(intOf (a'.tmps.getD 8 undef)).toNat-(intOf (a'.tmps.getD 9 undef)).toNat
theorem M80 {A:Prop}(h:A:=by
 clear Yx Nt hI
 go_wp2_with fail
 simp only[Exit.jump]
 go_ret
 exact⟨_,rfl,by rw[<-aba.out];exact aH HR.out hWs,hKK⟩):A:=h
theorem M31 {A:Prop}(h:A:=by
 have HO7:=Mb o7
 have a0:=(k6.cell (a:=⟨bx,ox+i*2,none⟩) (by exact hbx) (by simp)).trans WC.out.1
 have a1:=(k6.cell (a:=⟨bx,ox+i*2+1,none⟩) (by exact hbx) (by simp)).trans WC.out.2
 obtain⟨p8,c8,rfl⟩:=ai o7
 clear OE Nt o6 o7
 go_wp2_with fail
 go_quiet (fail)
 go_wp2_with fail
 go_step3
 refine⟨rfl,⟨W,_,cx,_,cy,i,k+1,_,_,(lR ..),HXX.out,HYY.out,ZH,V4.out,bK HO7.out _,k6.drewN _⟩,?_⟩
 have hh:=NU.out
 simp[ta,intOf];(try omega)):A:=h
theorem M30 {A:Prop}(h:A:=by
 have HO7:=Mb o7
 have a0:=(k6.cell (a:=⟨bx,ox+i*2,none⟩) (by exact hbx) (by simp)).trans WC.out.1
 have a1:=(k6.cell (a:=⟨bx,ox+i*2+1,none⟩) (by exact hbx) (by simp)).trans WC.out.2
 obtain⟨p8,c8,rfl⟩:=ai o7
 clear OE Nt o6 o7
 go_wp2_with fail
 go_quiet (fail)
 go_wp2_with fail
 go_step3
 refine⟨rfl,⟨W,_,cx,_,cy,i+1,k,_,_,(lR ..),HXX.out,HYY.out,ZH,V4.out,bK HO7.out _,k6.drewN _⟩,?_⟩
 have hh:=NU.out
 simp[ta,intOf];(try omega)):A:=h
theorem Ht (va:Value) (la:List (Int×Int)) (loa hia:Nat) (vb:Value) (lb:List (Int×Int)) (lob Un:Nat) (w:World) (ha:af w va la loa hia) (hb:af w vb lb lob Un) (YB:la.length<=1000000) (WM:lb.length<=1000000) (Zm:∀a∈la,aU a) (Pr:∀a∈lb,aU a):
  Calls Tryz.prog 166 #[va,vb] w (bG (uW la lb) w):=by
 have hpa:=fun W h=>pE va la loa hia W h YB Zm
 have Pu:=fun W h=>pE vb lb lob Un W h WM Pr
 have HPA:=Mb hpa
 have QW:=Mb Pu
 obtain⟨pa,ac,rfl⟩:=ha.shape
 obtain⟨pb,bc,rfl⟩:=hb.shape
 obtain⟨i0,q0,q1,q2,q3⟩:=gT
 have HA:=Mb ha
 have HB:=Mb hb
 have PN:=fun out i k=>I6 (a:=la) (b:=lb) (out:=out) (i:=i) (k:=k)
 have Xu:Pl 0 (NY la):=et _
 have hpy:Pl 0 (NY lb):=et _
 have OU:=Mb PN
 have XQ:=Mb Xu
 have XO:=Mb hpy
 have hlx:=Xu.gV
 have hly:=hpy.gV
 clear hpa Pu ha hb PN Xu hpy YB WM Zm Pr
 unfold bG at HPA QW ⊢
 generalize NY la=x at*
 generalize NY lb=y at*
 generalize la.length=al at*
 generalize lb.length=bl at*
 go_enter Tryz.func166,Tryz.ntmps166
 go_wp2_with fail
 refine mf 0 (L6 w x y pa al ac pb bl bc) (ta x y) rfl ?_ ?_
 .rintro a' w' ⟨W,px,cx,py,cy,i,k,out,v7,⟨u,rfl⟩,hX,hY,ZH,hI,Nt,hK⟩
  have hKK:=ZH.trans hK
  have hWs:=ZH.size
  have hol:=hI.pl.gV
  rcases(by have:=hI.hi;have:=hI.hk;omega:i=x.length\/(i<x.length/\k=y.length)\/(i<x.length/\k<y.length))with hx|⟨hx,hy⟩|⟨hx,hy⟩
  .have Yx:=OU.out out i k hI (Or.inl hx)
   subst hx
   have aba:=Mb Yx
   have HR:=Mb Nt
   exact M80
  .have Yx:=OU.out out i k hI (Or.inr hy)
   subst hy
   have aba:=Mb Yx
   have HR:=Mb Nt
   have i1:¬((i:Int)=x.length):=by omega
   have i2:((i:Int)==x.length)=false:=by rw[ME];omega
   exact M80
  .obtain⟨bx,ox,rfl,wa0,wa1,hbx,_,_⟩:=hX.at_ i hx
   obtain⟨by_,oy,rfl,wb0,wb1,VI,_,_⟩:=hY.at_ k hy
   have i1:((i:Int)==x.length)=false:=by rw[ME];omega
   have i2:((k:Int)==y.length)=false:=by rw[ME];omega
   have i3:(i:Int)<x.length:=by omega
   have i4:(k:Int)<y.length:=by omega
   obtain⟨p1,p2,p3⟩:=kJ XQ.out hx
   obtain⟨p4,p5,p6⟩:=kJ XO.out hy
   have N8:=fun lo hi elo ehi i' k' hik=>Gp XQ.out XO.out hI hx hy lo hi elo ehi i' k' hik
   have OM:=Mb N8
   have HXX:=Mb hX
   have HYY:=Mb hY
   have NU:Hid (i<x.length/\k<y.length):=⟨hx,hy⟩
   have r3:out.length+1<=maxLen:=by unfold maxLen;omega
   have r4:(out.length+1)*16<=140737488355328:=by omega
   clear N8 hX hY hI
   generalize x[i].1=A0 at*
   generalize x[i].2=An at*
   generalize y[k].1=B0 at*
   generalize y[k].2=Bn at*
   clear hx hy
   have WC:Hid (W.cell? ⟨bx,ox+i*2,none⟩=some (.int .i64 A0)/\W.cell? ⟨bx,ox+i*2+1,none⟩=some (.int .i64 An)):=⟨wa0,wa1⟩
   have a0:=(hK.cell (a:=⟨bx,ox+i*2,none⟩) (by exact hbx) (by simp)).trans wa0
   have a1:=(hK.cell (a:=⟨bx,ox+i*2+1,none⟩) (by exact hbx) (by simp)).trans wa1
   have b0:=(hK.cell (a:=⟨by_,oy+k*2,none⟩) (by exact VI) (by simp)).trans wb0
   have b1:=(hK.cell (a:=⟨by_,oy+k*2+1,none⟩) (by exact VI) (by simp)).trans wb1
   clear wa0 wa1 wb0 wb1
   obtain⟨lo,hlo⟩:∃lo,lo=max A0 B0:=⟨_,rfl⟩
   obtain⟨hi,UH⟩:∃hi,hi=min (A0+An) (B0+Bn):=⟨_,rfl⟩
   have Q6:=OM.out lo hi hlo UH
   have Rz:=Mb Q6
   clear OM Q6
   obtain⟨p7,c7,rfl⟩:=ai Nt
   rcases(by omega:(A0<=B0/\lo=B0)\/(B0<A0/\lo=A0))with⟨h1,e1⟩|⟨h1,e1⟩
   all_goals rcases(by omega:(A0+An<=B0+Bn/\hi=A0+An)\/(B0+Bn<A0+An/\hi=B0+Bn))with⟨h2,e2⟩|⟨h2,e2⟩
   all_goals clear hlo UH
   all_goals subst lo
   all_goals subst hi
   .have Ph:=Rz.out (i+1) k (Or.inl ⟨rfl,rfl,rfl⟩)
    have W5:max A0 B0=B0:=by omega
    have Tg:min (A0+An) (B0+Bn)=A0+An:=by omega
    by_cases Ns:B0<A0+An
    .rw[if_pos Ns]at Ph
     have V4:=Mb Ph
     clear Ph Rz
     go_wp2_with fail
     go_quiet (fail)
     go_wp2_with (at_builtin;go_must (refine Mv _ rfl (.tmp 64) (.tmp 70) 56 rfl W.heap.size 128 i0 (.agg #[.int .i64 0,.int .i64 0]) 2 16 Tryz.underlying56 q0 q1 q2 q3 rfl (by decide) _ _ _ rfl (Me (bK Nt _) _) ⟨w'.heap.size,0,none⟩ 1 1 [.int .i64 (B0),.int .i64 (A0+An-B0)] rfl rfl ?_ ?_ r3 r4 ?_ ?_))
     .exact World.news_of_block (M0 (w'.drewN nq) (.cells #[.int .i64 (B0),.int .i64 (A0+An-B0)] 128))
     .intro u hu;simp at hu;rcases hu with rfl|rfl<;>rfl
     .have:=hK.size;simp;omega
     intro v6 w6 o6 OE _ _
     have k6:aa [] W w6:=((hK.drewN _).alloc _).grown OE (fun g hg=>Or.inr (Mn Nt g hg).1)
     have o7:w6.ownsRow W.heap.size 128 2 v6 (out++[(B0,A0+An-B0)]).length (No (out++[(B0,A0+An-B0)])):=by
      rw[cD,Mc,MT];exact o6
     exact M30
    .rw[if_neg Ns]at Ph
     have V4:=Mb Ph
     have Ur:=Mb Nt
     clear Ph Rz Nt
     go_wp2_with fail
     go_quiet (fail)
     go_wp2_with fail
     go_quiet (fail)
     go_wp2_with fail
     go_step3
     refine⟨rfl,⟨W,_,cx,_,cy,i+1,k,_,_,(lR ..),HXX.out,HYY.out,ZH,V4.out,bK Ur.out _,hK.drewN _⟩,?_⟩
     have hh:=NU.out
     simp[ta,intOf];(try omega)
   .have Ph:=Rz.out i (k+1) (Or.inr ⟨by omega,rfl,rfl⟩)
    have W5:max A0 B0=B0:=by omega
    have Tg:min (A0+An) (B0+Bn)=B0+Bn:=by omega
    have i5:(A0+An==B0+Bn)=false:=by rw[ME];omega
    by_cases Ns:B0<B0+Bn
    .rw[if_pos Ns]at Ph
     have V4:=Mb Ph
     clear Ph Rz
     go_wp2_with fail
     go_quiet (fail)
     go_wp2_with (at_builtin;go_must (refine Mv _ rfl (.tmp 64) (.tmp 70) 56 rfl W.heap.size 128 i0 (.agg #[.int .i64 0,.int .i64 0]) 2 16 Tryz.underlying56 q0 q1 q2 q3 rfl (by decide) _ _ _ rfl (Me (bK Nt _) _) ⟨w'.heap.size,0,none⟩ 1 1 [.int .i64 (B0),.int .i64 (B0+Bn-B0)] rfl rfl ?_ ?_ r3 r4 ?_ ?_))
     .exact World.news_of_block (M0 (w'.drewN nq) (.cells #[.int .i64 (B0),.int .i64 (B0+Bn-B0)] 128))
     .intro u hu;simp at hu;rcases hu with rfl|rfl<;>rfl
     .have:=hK.size;simp;omega
     intro v6 w6 o6 OE _ _
     have k6:aa [] W w6:=((hK.drewN _).alloc _).grown OE (fun g hg=>Or.inr (Mn Nt g hg).1)
     have o7:w6.ownsRow W.heap.size 128 2 v6 (out++[(B0,B0+Bn-B0)]).length (No (out++[(B0,B0+Bn-B0)])):=by
      rw[cD,Mc,MT];exact o6
     exact M31
    .exfalso;omega
   .have Ph:=Rz.out (i+1) k (Or.inl ⟨rfl,rfl,rfl⟩)
    have W5:max A0 B0=A0:=by omega
    have Tg:min (A0+An) (B0+Bn)=A0+An:=by omega
    by_cases Ns:A0<A0+An
    .rw[if_pos Ns]at Ph
     have V4:=Mb Ph
     clear Ph Rz
     go_wp2_with fail
     go_quiet (fail)
     go_wp2_with (at_builtin;go_must (refine Mv _ rfl (.tmp 64) (.tmp 70) 56 rfl W.heap.size 128 i0 (.agg #[.int .i64 0,.int .i64 0]) 2 16 Tryz.underlying56 q0 q1 q2 q3 rfl (by decide) _ _ _ rfl (Me (bK Nt _) _) ⟨w'.heap.size,0,none⟩ 1 1 [.int .i64 (A0),.int .i64 (A0+An-A0)] rfl rfl ?_ ?_ r3 r4 ?_ ?_))
     .exact World.news_of_block (M0 (w'.drewN nq) (.cells #[.int .i64 (A0),.int .i64 (A0+An-A0)] 128))
     .intro u hu;simp at hu;rcases hu with rfl|rfl<;>rfl
     .have:=hK.size;simp;omega
     intro v6 w6 o6 OE _ _
     have k6:aa [] W w6:=((hK.drewN _).alloc _).grown OE (fun g hg=>Or.inr (Mn Nt g hg).1)
     have o7:w6.ownsRow W.heap.size 128 2 v6 (out++[(A0,A0+An-A0)]).length (No (out++[(A0,A0+An-A0)])):=by
      rw[cD,Mc,MT];exact o6
     exact M30
    .exfalso;omega
   .have Ph:=Rz.out i (k+1) (Or.inr ⟨by omega,rfl,rfl⟩)
    have W5:max A0 B0=A0:=by omega
    have Tg:min (A0+An) (B0+Bn)=B0+Bn:=by omega
    have i5:(A0+An==B0+Bn)=false:=by rw[ME];omega
    by_cases Ns:A0<B0+Bn
    .rw[if_pos Ns]at Ph
     have V4:=Mb Ph
     clear Ph Rz
     go_wp2_with fail
     go_quiet (fail)
     go_wp2_with (at_builtin;go_must (refine Mv _ rfl (.tmp 64) (.tmp 70) 56 rfl W.heap.size 128 i0 (.agg #[.int .i64 0,.int .i64 0]) 2 16 Tryz.underlying56 q0 q1 q2 q3 rfl (by decide) _ _ _ rfl (Me (bK Nt _) _) ⟨w'.heap.size,0,none⟩ 1 1 [.int .i64 (A0),.int .i64 (B0+Bn-A0)] rfl rfl ?_ ?_ r3 r4 ?_ ?_))
     .exact World.news_of_block (M0 (w'.drewN nq) (.cells #[.int .i64 (A0),.int .i64 (B0+Bn-A0)] 128))
     .intro u hu;simp at hu;rcases hu with rfl|rfl<;>rfl
     .have:=hK.size;simp;omega
     intro v6 w6 o6 OE _ _
     have k6:aa [] W w6:=((hK.drewN _).alloc _).grown OE (fun g hg=>Or.inr (Mn Nt g hg).1)
     have o7:w6.ownsRow W.heap.size 128 2 v6 (out++[(A0,B0+Bn-A0)]).length (No (out++[(A0,B0+Bn-A0)])):=by
      rw[cD,Mc,MT];exact o6
     exact M31
    .rw[if_neg Ns]at Ph
     have V4:=Mb Ph
     have Ur:=Mb Nt
     clear Ph Rz Nt
     go_wp2_with fail
     go_quiet (fail)
     go_wp2_with fail
     go_quiet (fail)
     go_wp2_with fail
     go_step3
     refine⟨rfl,⟨W,_,cx,_,cy,i,k+1,_,_,(lR ..),HXX.out,HYY.out,ZH,V4.out,bK Ur.out _,hK.drewN _⟩,?_⟩
     have hh:=NU.out
     simp[ta,intOf];(try omega)
 .intro Tn
  have W7:=Mb Tn
  clear Tn
  go_wp2_with fail
  refine(HPA.out _ HA.out).mono ?_;rintro e w1 ⟨v1,rfl,r1,k1⟩
  obtain⟨px,cx,rfl⟩:=ai r1
  have hX1:=af.bo r1
  have Zo:=Mb hX1
  clear r1 hX1
  go_wp2_with fail
  refine(QW.out _ (HB.out.kept0 k1)).mono ?_;rintro e w2 ⟨v2,rfl,r2,k2⟩
  obtain⟨py,cy,rfl⟩:=ai r2
  have hY2:=(af.bo r2).weaken (lo':=w.heap.size) (hi':=w2.heap.size) k1.size (Md _) (Md _)
  have Zd:=(Zo.out.kept0 k2).weaken (lo':=w.heap.size) (hi':=w2.heap.size) (Md _) k2.size (Md _)
  have HX2:=Mb Zd
  have HY2:=Mb hY2
  have ZH:=k1.trans k2
  clear r2 hY2 Zd Zo
  go_wp2_with fail
  go_step3
  rename_i hcont
  refine hcont _ _ (W7.out _ _ ⟨w2,px,cx,py,cy,0,0,[],.slice none 0 0,lR ..,HX2.out,HY2.out,ZH,Ef XQ.out XO.out,MG _ _ _ _,aa.refl _ _⟩)
theorem Pl.sum (h:Pl a l) (ha:a<=8193):0<=Nw l/\Nw l<=8193-a:=by
 induction l generalizing a with
 |nil=>simp[Nw];omega
 |cons r t ih=>
  obtain⟨h1,h2,h3,h4⟩:=h
  have:=ih h4 (by omega)
  have e:Nw (r::t)=r.2+Nw t:=by simp[Nw]
  rw[e];omega
theorem Pl.take (h:Pl a l) (k:Nat):Pl a (l.take k):=by
 induction k generalizing l a with
 |zero=>trivial
 |succ k ih=>
  cases l with
  |nil=>trivial
  |cons r t=>obtain⟨h1,h2,h3,h4⟩:=h;exact⟨h1,h2,h3,ih h4⟩
theorem CN (v:Value) (l:List (Int×Int)) (lo hi:Nat) (w:World) (h:af w v l lo hi) (hl:l.length<=1000000) (Ox:∀a∈l,aU a):
  Calls Tryz.prog 65 #[v] w fun e w'=>e=.returned (.int .i64 (Oc l))/\aa [] w w':=by
 have hp:=pE v l lo hi w h hl Ox
 have PU:=qi l
 have Oj:Pl 0 (NY l):=et _
 have hlen:=Oj.gV
 obtain⟨p,c,rfl⟩:=h.shape
 unfold bG at hp
 have HP:=Mb hp
 have acR:=Mb PU
 have Rw:=Mb Oj
 clear hp PU Oj h Ox
 generalize NY l=x at*
 generalize Oc l=n at*
 go_enter Tryz.func65,Tryz.ntmps65
 go_wp2_with fail
 refine HP.out.mono ?_;rintro e w1 ⟨v1,rfl,r1,k1⟩
 obtain⟨px,cx,rfl⟩:=ai r1
 have HX:=Mb (af.bo r1)
 clear r1
 go_wp2_with fail
 go_loopw [3,9] (fun s i wr=>∃k:Nat,k<=x.length/\i=.int .i64 k/\s=.int .i64 (Nw (x.take k))/\aa [] w1 wr) (fun _ i _=>x.length-(intOf i).toNat)
 case atStart=>exact⟨0,by omega,rfl,rfl,aa.refl _ _⟩
 case round=>
  obtain⟨k,hk,rfl,rfl,hK⟩:=hrel
  by_cases Ns:k<x.length
  .obtain⟨b,off,rfl,c0,c1,hb,Py,Pb⟩:=(HX.out.kept0 hK).at_ k Ns
   have N8:=iM x k Ns
   have Q6:=(Rw.out.take k).sum (by omega)
   have Qt:=(Rw.out.take (k+1)).sum (by omega)
   rw[N8]at Qt
   have i1:(k:Int)<x.length:=by omega
   have OM:=Mb N8
   have NU:=Mb Ns
   obtain⟨s1,s2⟩:=Q6
   obtain⟨s3,s4⟩:=Qt
   clear N8
   generalize Nw (x.take k)=S at*
   go_wp2_with fail
   go_roundw
   case rel=>exact⟨k+1,NU.out,by go_num,by rw[OM.out],hK.alloc _⟩
   case measure=>(have hh:=NU.out;simp[intOf];omega)
  .obtain rfl:k=x.length:=by omega
   have e:Nw (x.take x.length)=(n:Int):=by rw[MC];exact acR.out
   rw[e]
   clear e
   go_wp2_with fail
   go_ret
   exact⟨rfl,k1.trans hK⟩
def Ow (p:List (Int×Int)):Nat->Int
 |0=>0
 |k+1=>(p.getD k (0,0)).1+(p.getD k (0,0)).2
def Pf (p:List (Int×Int)):Nat->List (Int×Int)
 |0=>[]
 |k+1=>Pf p k++[(Ow p k,(p.getD k (0,0)).1-Ow p k)]
theorem uf (p:List (Int×Int)) (k:Nat):(Pf p k).length=k:=by
 induction k with
 |zero=>rfl
 |succ k ih=>rw[Pf,Mc,ih];rfl
structure LB (p:List (Int×Int)) (k:Nat):Prop where
 lo:0<=Ow p k/\Ow p k<=8192
 next:∀h:k<p.length,Ow p k<=p[k].1
 is:∀j,bU (Pf p k) j↔0<=j/\j<Ow p k/\¬bU p j
 behind:∀j,Ow p k<=j->bU p j->bU (p.drop k) j
 wf:∀r∈Pf p k,0<=r.1/\r.1<=8192/\0<=r.2/\r.2<=8192
theorem ya (hp:Pl 0 p) (k:Nat) (hk:k<=p.length):LB p k:=by
 induction k with
 |zero=>exact⟨⟨Int.le_refl _,by show(0:Int)<=8192;omega⟩,fun h=>(kJ hp h).1,fun j=>⟨fun h=>absurd h (ep j),fun⟨h1,h2,_⟩=>by have h2:j<0:=h2;omega⟩,fun j _ h=>h,fun r hr=>by cases hr⟩
 |succ k ih=>
  have Ns:k<p.length:=by omega
  obtain⟨⟨h1,h2⟩,h3,h4,h5,h6⟩:=ih (by omega)
  have h3:=h3 Ns
  obtain⟨p1,p2,p3⟩:=kJ hp Ns
  have eg:p.getD k (0,0)=p[k]:=by rw[MD,Mw Ns];rfl
  have ea:Ow p (k+1)=p[k].1+p[k].2:=by rw[Ow,eg]
  have Tw:Pf p (k+1)=Pf p k++[(Ow p k,p[k].1-Ow p k)]:=by rw[Pf,eg]
  have dx:=fun j=>uS Ns j
  have gx:∀j,bU (p.drop (k+1)) j->p[k].1+p[k].2+1<=j:=fun j hj=>((hp.next k Ns).ge hj).1
  refine⟨by rw[ea];omega,fun h=>?_,fun j=>?_,fun j hj Ph=>?_,fun r hr=>?_⟩
  .rw[ea]
   have:=uU hp Ns (q:=p[k+1]) (by rw[List.drop_eq_getElem_cons h];exact Mg)
   omega
  .rw[Tw,bY,ft,h4,ea]
   constructor
   .rintro(⟨a,b,c⟩|⟨a,b⟩)
    .exact⟨a,by omega,c⟩
    .have a:Ow p k<=j:=a
     have b:j<Ow p k+(p[k].1-Ow p k):=b
     refine⟨by omega,by omega,fun Ph=>?_⟩
     rcases(dx j).1 (h5 j a Ph)with⟨q,_⟩|q
     .omega
     .have:=gx j q;omega
   .rintro⟨a,b,c⟩
    by_cases hj:j<Ow p k
    .exact Or.inl ⟨a,hj,c⟩
    .refine Or.inr ⟨by show Ow p k<=j;omega,?_⟩
     show j<Ow p k+(p[k].1-Ow p k)
     by_cases hq:p[k].1<=j
     .exact absurd ⟨p[k],Mh Ns,hq,b⟩ c
     .omega
  .rw[ea]at hj
   rcases(dx j).1 (h5 j (by omega) Ph)with⟨_,q⟩|q
   .omega
   .exact q
  .rw[Tw]at hr
   rcases Mj.1 hr with hr|hr
   .exact h6 r hr
   .have hr:r=(Ow p k,p[k].1-Ow p k):=by simpa using hr
    subst hr
    exact⟨h1,h2,by show 0<=p[k].1-Ow p k;omega,by show p[k].1-Ow p k<=8192;omega⟩
def P6 (p:List (Int×Int)):List (Int×Int):=Pf p p.length++[(Ow p p.length,8192-Ow p p.length)]
theorem Ge (hp:Pl 0 p) (m:Nat) (hm:m<8192):aC (P6 p) m= !aC p m:=by
 obtain⟨⟨h1,h2⟩,_,h4,h5,_⟩:=ya hp p.length (Md _)
 rw[Bool.eq_iff_iff,Bool.not_eq_true',<-Bool.not_eq_true,bF,bF]
 unfold P6
 rw[bY,ft,h4]
 constructor
 .rintro(⟨_,_,c⟩|⟨a,b⟩)
  .exact c
  .intro Ph
   have:=h5 m a Ph
   rw[List.drop_length]at this
   exact ep _ this
 .intro c
  by_cases hj:(m:Int)<Ow p p.length
  .exact Or.inl ⟨by omega,hj,c⟩
  .refine Or.inr ⟨by show Ow p p.length<=m;omega,?_⟩
   show(m:Int)<Ow p p.length+(8192-Ow p p.length)
   omega
theorem IU (hp:Pl 0 p):∀r∈P6 p,aU r:=by
 obtain⟨⟨h1,h2⟩,_,_,_,h6⟩:=ya hp p.length (Md _)
 intro r hr
 unfold P6 at hr
 rcases Mj.1 hr with hr|hr
 .obtain⟨a,b,c,d⟩:=h6 r hr
  exact⟨by omega,by omega,by omega,by omega⟩
 .have hr:r=(Ow p p.length,8192-Ow p p.length):=by simpa using hr
  subst hr
  exact⟨by show _<=Ow p p.length;omega,by show Ow p p.length<=_;omega,by show _<=8192-Ow p p.length;omega,by show 8192-Ow p p.length<=_;omega⟩
theorem BF (la lb:List (Int×Int)):uW la (P6 (NY lb))=Oz la lb:=
 Ab (fun m hm=>by rw[Ge (p:=NY lb) (et _) m hm];unfold NY;rw[kh _ m hm])
theorem CM (va:Value) (la:List (Int×Int)) (loa hia:Nat) (vb:Value) (lb:List (Int×Int)) (lob Un:Nat) (w:World) (ha:af w va la loa hia) (hb:af w vb lb lob Un) (YB:la.length<=1000000) (WM:lb.length<=1000000) (Zm:∀a∈la,aU a) (Pr:∀a∈lb,aU a):
  Calls Tryz.prog 96 #[va,vb] w (bG (Oz la lb) w):=by
 have hp:=pE vb lb lob Un w hb WM Pr
 have Oj:Pl 0 (NY lb):=et _
 have hlen:=Oj.gV
 obtain⟨i0,q0,q1,q2,q3⟩:=gT
 have aat:=fun W vg log hig (h1:af W va la loa hia) (h2:af W vg (P6 (NY lb)) log hig)=>Ht va la loa hia vg (P6 (NY lb)) log hig W h1 h2 YB (by unfold P6;rw[Mc,uf];simp;omega) Zm (IU Oj)
 rw[BF]at aat
 obtain⟨pa,ca,rfl⟩:=ha.shape
 obtain⟨pb,cb,rfl⟩:=hb.shape
 unfold bG at*
 have HP:=Mb hp
 have Rw:=Mb Oj
 have adn:=Mb aat
 have HA:=Mb ha
 clear hp Oj aat ha hb Zm Pr YB WM
 generalize NY lb=x at*
 generalize la.length=al at*
 generalize lb.length=bl at*
 generalize Oz la lb=M at*
 go_enter Tryz.func96,Tryz.ntmps96
 go_wp2_with fail
 refine HP.out.mono ?_;rintro e w1 ⟨v1,rfl,r1,k1⟩
 obtain⟨px,cx,rfl⟩:=ai r1
 have HX:=Mb (af.bo r1)
 have Q6:=k1.size
 clear r1
 go_wp2_with fail
 go_loopw [5,6,12] (fun g a i wr=>∃k:Nat,k<=x.length/\i=.int .i64 k/\a=.int .i64 (Ow x k)/\wr.ownsRow w1.heap.size 128 2 g k (No (Pf x k))/\aa [] w1 wr) (fun _ _ i _=>x.length-(intOf i).toNat)
 case atStart=>exact⟨0,by omega,rfl,rfl,MG _ _ _ _,aa.refl _ _⟩
 case round=>
  obtain⟨k,hk,rfl,rfl,Nt,hK⟩:=hrel
  obtain⟨⟨g1,g2⟩,g3,_⟩:=ya Rw.out k hk
  obtain⟨p5,c5,rfl⟩:=ai Nt
  have hKs:=hK.size
  by_cases Ns:k<x.length
  .obtain⟨b,off,rfl,c0,c1,hb,Py,Pb⟩:=(HX.out.kept0 hK).at_ k Ns
   have g3:=g3 Ns
   obtain⟨y1,y2,y3⟩:=kJ Rw.out Ns
   have eg:x.getD k (0,0)=x[k]:=by rw[MD,Mw Ns];rfl
   have ea:Ow x (k+1)=x[k].1+x[k].2:=by rw[Ow,eg]
   have Tw:No (Pf x (k+1))=No (Pf x k)++[.int .i64 (Ow x k),.int .i64 (x[k].1-Ow x k)]:=by rw[Pf,eg,cD]
   have i1:(k:Int)<x.length:=by omega
   have HEA:=Mb ea
   have HEG:=Mb Tw
   have NU:=Mb Ns
   have r3:k+1<=maxLen:=by unfold maxLen;omega
   have r4:(k+1)*16<=140737488355328:=by omega
   clear eg ea Tw
   generalize Ow x k=a at*
   generalize x[k].1=X0 at*
   generalize x[k].2=Xn at*
   go_wp2_with (at_builtin;go_must (refine Mv _ rfl (.tmp 16) (.tmp 23) 56 rfl w1.heap.size 128 i0 (.agg #[.int .i64 0,.int .i64 0]) 2 16 Tryz.underlying56 q0 q1 q2 q3 rfl (by decide) _ _ _ rfl (Me (Me Nt _) _) ⟨wr.heap.size+1,0,none⟩ 1 1 [.int .i64 a,.int .i64 (X0-a)] rfl rfl ?_ ?_ r3 r4 ?_ ?_))
   .have RH:((wr.alloc (.cells #[.int .i64 X0,.int .i64 Xn] 128)).alloc (.cells #[.int .i64 a,.int .i64 (X0-a)] 128)).heap[wr.heap.size+1]? =some (.cells #[.int .i64 a,.int .i64 (X0-a)] 128 (0,0)):=by
     have:=M0 (wr.alloc (.cells #[.int .i64 X0,.int .i64 Xn] 128)) (.cells #[.int .i64 a,.int .i64 (X0-a)] 128)
     rw[MK]at this
     exact this
    exact World.news_of_block RH
   .intro u hu;simp at hu;rcases hu with rfl|rfl<;>rfl
   .simp;omega
   intro v6 w6 o6 OE _ _
   have k6:aa [] w1 w6:=((hK.alloc _).alloc _).grown OE (fun g hg=>Or.inr (Mn Nt g hg).1)
   have z0:w6.cell? ⟨wr.heap.size,0,none⟩=some (.int .i64 X0):=by
    have Ot:(Value.slice p5 k c5).ownBlock≠some wr.heap.size:=fun e=>by
     have:=(Mn Nt _ e).2;omega
    have Qo:=OE.block wr.heap.size (by simp;omega) (fun e=>Ot e.symm)
    rw[World.cell?_of_block Qo]
    exact(ae.alloc (ae.new wr #[.int .i64 X0,.int .i64 Xn] 128) _).cell 0 (by simp)
   have z1:w6.cell? ⟨wr.heap.size,1,none⟩=some (.int .i64 Xn):=by
    have Ot:(Value.slice p5 k c5).ownBlock≠some wr.heap.size:=fun e=>by
     have:=(Mn Nt _ e).2;omega
    have Qo:=OE.block wr.heap.size (by simp;omega) (fun e=>Ot e.symm)
    rw[World.cell?_of_block Qo]
    exact(ae.alloc (ae.new wr #[.int .i64 X0,.int .i64 Xn] 128) _).cell 1 (by simp)
   rw[<-HEG.out]at o6
   have Wf:=Mb o6
   clear OE Nt o6
   go_wp2_with fail
   go_roundw
   case rel=>exact⟨k+1,NU.out,by go_num,by rw[HEA.out],Wf.out,k6⟩
   case measure=>(have hh:=NU.out;simp[intOf];omega)
  .obtain rfl:k=x.length:=by omega
   have r3:x.length+1<=maxLen:=by unfold maxLen;omega
   have r4:(x.length+1)*16<=140737488355328:=by omega
   have Tw:No (P6 x)=No (Pf x x.length)++[.int .i64 (Ow x x.length),.int .i64 (8192-Ow x x.length)]:=by unfold P6;rw[cD]
   have abv:(P6 x).length=x.length+1:=by unfold P6;rw[Mc,uf];rfl
   have HEG:=Mb Tw
   have HEL:=Mb abv
   clear Tw abv
   generalize Ow x x.length=a at*
   go_wp2_with (at_builtin;go_must (refine Mv _ rfl (.tmp 32) (.tmp 37) 56 rfl w1.heap.size 128 i0 (.agg #[.int .i64 0,.int .i64 0]) 2 16 Tryz.underlying56 q0 q1 q2 q3 rfl (by decide) _ _ _ rfl (Me Nt _) ⟨wr.heap.size,0,none⟩ 1 1 [.int .i64 a,.int .i64 (8192-a)] rfl rfl ?_ ?_ r3 r4 ?_ ?_))
   .exact World.news_of_block (M0 wr _)
   .intro u hu;simp at hu;rcases hu with rfl|rfl<;>rfl
   .simp;omega
   intro v6 w6 o6 OE _ _
   have k6:aa [] w1 w6:=(hK.alloc _).grown OE (fun g hg=>Or.inr (Mn Nt g hg).1)
   rw[<-HEG.out,<-HEL.out]at o6
   have hG:=af.bo o6
   have hA6:=HA.out.kept0 (k1.trans k6)
   have hc:=adn.out w6 v6 _ _ hA6 hG
   obtain⟨p6,c6,rfl⟩:=ai o6
   have HC:=Mb hc
   have hs6:=(k1.trans k6).size
   clear OE Nt o6 hG hc
   go_wp2_with fail
   refine HC.out.mono ?_;rintro e w7 ⟨v7,rfl,o7,k7⟩
   go_wp2_with fail
   go_ret
   exact⟨_,rfl,aH o7 hs6,(k1.trans k6).trans k7⟩
end Go.Proofs.YtdkimcnlhmhpgaaGreat

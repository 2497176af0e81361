/- -/
import Derived.Test.YtdkimcnlhmhpgaaGreatM03
set_option maxHeartbeats 32000000
set_option maxRecDepth 100000
namespace Go.Proofs.YtdkimcnlhmhpgaaGreat
open Go.Proofs.Tryz Go.RowKit
variable {w:World} {A:Prop} {a:Int} {l p:List (Int×Int)}
theorem Nx:type_of% @List.getD_eq_getElem?_getD:=@List.getD_eq_getElem?_getD
theorem Nq:type_of% @List.length_singleton:=@List.length_singleton
theorem Nl:type_of% @beq_eq_false_iff_ne:=@beq_eq_false_iff_ne
theorem lX {P:Program} {a:Act} {Q:Exit->Act->World->Prop} {c rest:Code} (l:Nat) (J:Act->World->Prop) (μ:Act->World->Nat) (hf:findLabel c l=some (Code.skip.seq rest))
  (pass:∀a w,J a w->rest.wp P (Exit.jump l (fun a' w'=>J a' w'/\μ a' w'<μ a w) Q) a w)
  (first:(∀a w,J a w->rest.wp P (Exit.jump l J Q) a w)->c.wp P (Exit.jump l J Q) a w):(Code.scope c).wp P Q a w:=
 wp_scope_jumps l J μ hf (first (fun a w h=>wp_mono (pass a w h) (fun e a' w' he=>by
  cases e with
  |goto l'=>exact⟨he.1,he.2.1⟩
  |_=>exact he))) (fun a w h=>wp_seq (wp_skip (pass a w h)))
theorem lH (x0 x1 x2 x3 x4 x5 x6 x7 x8 x9 x10 x11 x12 x13 x14 x15 x16 x17 x18 x19 x20 x21 x22 x23 x24 x25 x26 x27 x28 x29 x30 x31 x32 x33 x34 x35 x36 x37 x38 x39 x40 x41 x42 x43 x44 x45 x46 x47 x48 x49 x50 x51 x52 x53 x54 x55 x56 x57 x58 x59 x60 x61 x62 x63 x64 x65 x66 x67 x68 x69 x70 x71 x72 x73 x74 x75 x76 x77 x78 x79 x80 x81 x82 x83 x84 x85 x86 x87 x88:Value):∃u:Nat->Value,({tmps:=#[x0,x1,x2,x3,x4,x5,x6,x7,x8,x9,x10,x11,x12,x13,x14,x15,x16,x17,x18,x19,x20,x21,x22,x23,x24,x25,x26,x27,x28,x29,x30,x31,x32,x33,x34,x35,x36,x37,x38,x39,x40,x41,x42,x43,x44,x45,x46,x47,x48,x49,x50,x51,x52,x53,x54,x55,x56,x57,x58,x59,x60,x61,x62,x63,x64,x65,x66,x67,x68,x69,x70,x71,x72,x73,x74,x75,x76,x77,x78,x79,x80,x81,x82,x83,x84,x85,x86,x87,x88],defers:=[]}:Act)={tmps:=#[x0,x1,x2,x3,x4,x5,x6,x7,x8,x9,(u 10),(u 11),(u 12),(u 13),(u 14),(u 15),(u 16),(u 17),(u 18),(u 19),(u 20),(u 21),(u 22),(u 23),(u 24),(u 25),(u 26),(u 27),(u 28),(u 29),(u 30),(u 31),(u 32),(u 33),(u 34),(u 35),(u 36),(u 37),(u 38),(u 39),(u 40),(u 41),(u 42),(u 43),(u 44),(u 45),(u 46),(u 47),(u 48),(u 49),(u 50),(u 51),(u 52),(u 53),(u 54),(u 55),(u 56),(u 57),(u 58),(u 59),(u 60),(u 61),(u 62),(u 63),(u 64),(u 65),(u 66),(u 67),(u 68),(u 69),(u 70),(u 71),(u 72),(u 73),(u 74),(u 75),(u 76),(u 77),(u 78),(u 79),(u 80),(u 81),(u 82),(u 83),(u 84),(u 85),(u 86),(u 87),(u 88)],defers:=[]}:=
 ⟨fun n=>[x0,x1,x2,x3,x4,x5,x6,x7,x8,x9,x10,x11,x12,x13,x14,x15,x16,x17,x18,x19,x20,x21,x22,x23,x24,x25,x26,x27,x28,x29,x30,x31,x32,x33,x34,x35,x36,x37,x38,x39,x40,x41,x42,x43,x44,x45,x46,x47,x48,x49,x50,x51,x52,x53,x54,x55,x56,x57,x58,x59,x60,x61,x62,x63,x64,x65,x66,x67,x68,x69,x70,x71,x72,x73,x74,x75,x76,x77,x78,x79,x80,x81,x82,x83,x84,x85,x86,x87,x88].getD n undef,rfl⟩
def Mz (w:World) (x y:List (Int×Int)) (pa:Option Addr) (al ac:Nat) (pb:Option Addr) (bl bc:Nat) (a':Act) (w':World):Prop:=
 ∃(W:World) (px:Option Addr) (cx:Nat) (py:Option Addr) (cy i k:Nat) (out:List (Int×Int)) (v7:Value),(∃u:Nat->Value,a'={tmps:=#[.slice pa al ac,.slice pb bl bc,undef,undef,.slice none 0 0,.slice px x.length cx,.slice py y.length cy,v7,.int .i64 i,.int .i64 k,(u 10),(u 11),(u 12),(u 13),(u 14),(u 15),(u 16),(u 17),(u 18),(u 19),(u 20),(u 21),(u 22),(u 23),(u 24),(u 25),(u 26),(u 27),(u 28),(u 29),(u 30),(u 31),(u 32),(u 33),(u 34),(u 35),(u 36),(u 37),(u 38),(u 39),(u 40),(u 41),(u 42),(u 43),(u 44),(u 45),(u 46),(u 47),(u 48),(u 49),(u 50),(u 51),(u 52),(u 53),(u 54),(u 55),(u 56),(u 57),(u 58),(u 59),(u 60),(u 61),(u 62),(u 63),(u 64),(u 65),(u 66),(u 67),(u 68),(u 69),(u 70),(u 71),(u 72),(u 73),(u 74),(u 75),(u 76),(u 77),(u 78),(u 79),(u 80),(u 81),(u 82),(u 83),(u 84),(u 85),(u 86),(u 87),(u 88)],defers:=[]})/\af W (.slice px x.length cx) x w.heap.size W.heap.size/\af W (.slice py y.length cy) y w.heap.size W.heap.size/\NP [] w W/\qe x y out i k/\w'.ownsRow W.heap.size 128 2 v7 out.length (NW out)/\NP [] W w'
def r9 (x y:List (Int×Int)) (a':Act) (_:World):Nat:=x.length+y.length-(intOf (a'.tmps.getD 8 undef)).toNat-(intOf (a'.tmps.getD 9 undef)).toNat
theorem ady (h:A:=by
 clear aah NU hI
 go_wp2_with fail
 simp only[Exit.jump]
 go_ret
 exact⟨_,rfl,by rw[<-acR.out];exact aF HR.out hWs,hKK⟩):A:=h
theorem M36 {A:Prop}(h:A:=by
 have HO7:=tK o7
 have a0:=(k6.cell (a:=(aa bx (ox+i*2))) aj! _b).trans WC.out.1
 have a1:=(k6.cell (a:=(aa bx (ox+i*2+1))) aj! _b).trans WC.out.2
 obtain⟨p8,c8,rfl⟩:=ah o7
 clear Po NU o6 o7
 go_wp2_with fail
 go_quiet (fail)
 go_wp2_with fail
 go_step3
 refine⟨rfl,⟨W,_,cx,_,cy,i,k+1,_,_,(lH ..),Zy.out,HYY.out,hKW,Ys.out,bK HO7.out _,k6.drewN _⟩,?_⟩
 have hh:=Of.out
 simp[r9,intOf];(try omega)):A:=h
theorem M35 {A:Prop}(h:A:=by
 have HO7:=tK o7
 have a0:=(k6.cell (a:=(aa bx (ox+i*2))) aj! _b).trans WC.out.1
 have a1:=(k6.cell (a:=(aa bx (ox+i*2+1))) aj! _b).trans WC.out.2
 obtain⟨p8,c8,rfl⟩:=ah o7
 clear Po NU o6 o7
 go_wp2_with fail
 go_quiet (fail)
 go_wp2_with fail
 go_step3
 refine⟨rfl,⟨W,_,cx,_,cy,i+1,k,_,_,(lH ..),Zy.out,HYY.out,hKW,Ys.out,bK HO7.out _,k6.drewN _⟩,?_⟩
 have hh:=Of.out
 simp[r9,intOf];(try omega)):A:=h
theorem G6 (va:Value) (la:List (Int×Int)) (loa hia:Nat) (vb:Value) (lb:List (Int×Int)) (lob Rr:Nat) (w:World) (ha:af w va la loa hia) (hb:af w vb lb lob Rr) (Yb:la.length<=1000000) (US:lb.length<=1000000) (Yz:∀a∈la,aQ a) (Rp:∀a∈lb,aQ a):
  am! 166 #[va,vb] w (bh (uq la lb) w):=by
 have hpa:=fun W h=>oK va la loa hia W h Yb Yz
 have ZC:=fun W h=>oK vb lb lob Rr W h US Rp
 have⟨HPA,YL⟩:=_f hpa ZC
 obtain⟨pa,ac,rfl⟩:=ha.shape
 obtain⟨pb,bc,rfl⟩:=hb.shape
 have⟨i0,q0,q1,q2,q3⟩:=eV
 have⟨HA,HB⟩:=_f ha hb
 have Ph:=fun out i k=>Iz (a:=la) (b:=lb) (out:=out) (i:=i) (k:=k)
 have Wn:Pl 0 (OO la):=dV _
 have hpy:Pl 0 (OO lb):=dV _
 have⟨Qd,XZ,HPY⟩:=gg! Ph Wn hpy
 have hlx:=Wn.gX
 have hly:=hpy.gX
 clear hpa ZC ha hb Ph Wn hpy Yb US Yz Rp
 unfold bh at HPA YL ⊢
 generalize OO la=x at*
 generalize OO lb=y at*
 generalize la.length=al at*
 generalize lb.length=bl at*
 go_enter func166,ntmps166
 go_wp2_with fail
 refine lX 0 (Mz w x y pa al ac pb bl bc) (r9 x y) rfl ?_ ?_
 .rintro a' w' ⟨W,px,cx,py,cy,i,k,out,v7,⟨u,rfl⟩,hX,hY,hKW,hI,NU,hK⟩
  have hKK:=hKW.trans hK
  have hWs:=hKW.size
  have hol:=hI.pl.gX
  rcases(by have:=hI.hi;have:=hI.hk;omega:i=x.length\/(i<x.length/\k=y.length)\/(i<x.length/\k<y.length))with hx|⟨hx,hy⟩|⟨hx,hy⟩
  .have aah:=Qd.out out i k hI (Or.inl hx)
   subst hx
   have⟨acR,HR⟩:=_f aah NU
   exact ady
  .have aah:=Qd.out out i k hI (Or.inr hy)
   subst hy
   have⟨acR,HR⟩:=_f aah NU
   have i1:¬((i:Int)=x.length):=_a
   have i2:((i:Int)==x.length)=false:=_y
   exact ady
  .obtain⟨bx,ox,rfl,wa0,wa1,hbx,_,_⟩:=hX.at_ i hx
   obtain⟨by_,oy,rfl,wb0,wb1,XN,_,_⟩:=hY.at_ k hy
   have i1:((i:Int)==x.length)=false:=_y
   have i2:((k:Int)==y.length)=false:=_y
   have i3:(i:Int)<x.length:=_a
   have i4:(k:Int)<y.length:=_a
   have⟨p1,p2,p3⟩:=kJ XZ.out hx
   have⟨p4,p5,p6⟩:=kJ HPY.out hy
   have Oo:=fun lo hi elo ehi i' k' hik=>Gc XZ.out HPY.out hI hx hy lo hi elo ehi i' k' hik
   have⟨OY,Zy,HYY⟩:=gg! Oo hX hY
   have Of:Hid (i<x.length/\k<y.length):=⟨hx,hy⟩
   have r3:out.length+1<=maxLen:=_m
   have r4:(out.length+1)*16<=140737488355328:=_a
   clear Oo hX hY hI
   generalize x[i].1=A0 at*
   generalize x[i].2=An at*
   generalize y[k].1=B0 at*
   generalize y[k].2=Bn at*
   clear hx hy
   have WC:Hid (W.cell? (aa bx (ox+i*2))=A0/\W.cell? (aa bx (ox+i*2+1))=An):=⟨wa0,wa1⟩
   have a0:=(hK.cell (a:=(aa bx (ox+i*2))) aj! _b).trans wa0
   have a1:=(hK.cell (a:=(aa bx (ox+i*2+1))) aj! _b).trans wa1
   have b0:=(hK.cell (a:=(aa by_ (oy+k*2))) (by exact XN) _b).trans wb0
   have b1:=(hK.cell (a:=(aa by_ (oy+k*2+1))) (by exact XN) _b).trans wb1
   clear wa0 wa1 wb0 wb1
   obtain⟨lo,hlo⟩:∃lo,lo=max A0 B0:=⟨_,rfl⟩
   obtain⟨hi,WL⟩:∃hi,hi=min (A0+An) (B0+Bn):=⟨_,rfl⟩
   have RH:=OY.out lo hi hlo WL
   have TK:=tK RH
   clear OY RH
   obtain⟨p7,c7,rfl⟩:=ah NU
   rcases(by omega:(A0<=B0/\lo=B0)\/(B0<A0/\lo=A0))with⟨h1,e1⟩|⟨h1,e1⟩
   all_goals rcases(by omega:(A0+An<=B0+Bn/\hi=A0+An)\/(B0+Bn<A0+An/\hi=B0+Bn))with⟨h2,e2⟩|⟨h2,e2⟩
   all_goals clear hlo WL
   all_goals subst lo
   all_goals subst hi
   .have P7:=TK.out (i+1) k (Or.inl ⟨rfl,rfl,rfl⟩)
    have Ty:max A0 B0=B0:=_a
    have QL:min (A0+An) (B0+Bn)=A0+An:=_a
    by_cases NV:B0<A0+An
    .rw[if_pos NV]at P7
     have Ys:=tK P7
     clear P7 TK
     go_wp2_with fail
     go_quiet (fail)
     go_wp2_with (at_builtin;go_must (refine MT _ rfl (.tmp 64) (.tmp 70) 56 rfl W 128 i0 (.agg #[(0:Int),(0:Int)]) 2 16 underlying56 q0 q1 q2 q3 rfl _d _ _ _ rfl (MH (bK NU _) _) w' 1 1 [.int .i64 (B0),.int .i64 (A0+An-B0)] rfl rfl ?_ ?_ r3 r4 ?_ ?_))
     .exact World.news_of_block (Ns (w'.drewN nq) (.cells #[(B0:Int),(A0+An-B0:Int)] 128))
     .intro u hu;simp at hu;rcases hu with rfl|rfl<;>rfl
     .have:=hK.size;simp;omega
     intro v6 w6 o6 Po _ _
     have k6:NP [] W w6:=((hK.drewN _).alloc _).grown Po (fun g hg=>Or.inr (ML NU g hg).1)
     have o7:w6.ownsRow W 128 2 v6 (out++[(B0,A0+An-B0)]).length (NW (out++[(B0,A0+An-B0)])):=by
      rw[bP,tN,Nq];exact o6
     exact M35
    .rw[if_neg NV]at P7
     have⟨Ys,Up⟩:=_f P7 NU
     clear P7 TK NU
     go_wp2_with fail
     go_quiet (fail)
     go_wp2_with fail
     go_quiet (fail)
     go_wp2_with fail
     go_step3
     refine⟨rfl,⟨W,_,cx,_,cy,i+1,k,_,_,(lH ..),Zy.out,HYY.out,hKW,Ys.out,bK Up.out _,hK.drewN _⟩,?_⟩
     have hh:=Of.out
     simp[r9,intOf];(try omega)
   .have P7:=TK.out i (k+1) (Or.inr ⟨_a,rfl,rfl⟩)
    have Ty:max A0 B0=B0:=_a
    have QL:min (A0+An) (B0+Bn)=B0+Bn:=_a
    have i5:(A0+An==B0+Bn)=false:=_y
    by_cases NV:B0<B0+Bn
    .rw[if_pos NV]at P7
     have Ys:=tK P7
     clear P7 TK
     go_wp2_with fail
     go_quiet (fail)
     go_wp2_with (at_builtin;go_must (refine MT _ rfl (.tmp 64) (.tmp 70) 56 rfl W 128 i0 (.agg #[(0:Int),(0:Int)]) 2 16 underlying56 q0 q1 q2 q3 rfl _d _ _ _ rfl (MH (bK NU _) _) w' 1 1 [.int .i64 (B0),.int .i64 (B0+Bn-B0)] rfl rfl ?_ ?_ r3 r4 ?_ ?_))
     .exact World.news_of_block (Ns (w'.drewN nq) (.cells #[(B0:Int),(B0+Bn-B0:Int)] 128))
     .intro u hu;simp at hu;rcases hu with rfl|rfl<;>rfl
     .have:=hK.size;simp;omega
     intro v6 w6 o6 Po _ _
     have k6:NP [] W w6:=((hK.drewN _).alloc _).grown Po (fun g hg=>Or.inr (ML NU g hg).1)
     have o7:w6.ownsRow W 128 2 v6 (out++[(B0,B0+Bn-B0)]).length (NW (out++[(B0,B0+Bn-B0)])):=by
      rw[bP,tN,Nq];exact o6
     exact M36
    .exfalso;omega
   .have P7:=TK.out (i+1) k (Or.inl ⟨rfl,rfl,rfl⟩)
    have Ty:max A0 B0=A0:=_a
    have QL:min (A0+An) (B0+Bn)=A0+An:=_a
    by_cases NV:A0<A0+An
    .rw[if_pos NV]at P7
     have Ys:=tK P7
     clear P7 TK
     go_wp2_with fail
     go_quiet (fail)
     go_wp2_with (at_builtin;go_must (refine MT _ rfl (.tmp 64) (.tmp 70) 56 rfl W 128 i0 (.agg #[(0:Int),(0:Int)]) 2 16 underlying56 q0 q1 q2 q3 rfl _d _ _ _ rfl (MH (bK NU _) _) w' 1 1 [.int .i64 (A0),.int .i64 (A0+An-A0)] rfl rfl ?_ ?_ r3 r4 ?_ ?_))
     .exact World.news_of_block (Ns (w'.drewN nq) (.cells #[(A0:Int),(A0+An-A0:Int)] 128))
     .intro u hu;simp at hu;rcases hu with rfl|rfl<;>rfl
     .have:=hK.size;simp;omega
     intro v6 w6 o6 Po _ _
     have k6:NP [] W w6:=((hK.drewN _).alloc _).grown Po (fun g hg=>Or.inr (ML NU g hg).1)
     have o7:w6.ownsRow W 128 2 v6 (out++[(A0,A0+An-A0)]).length (NW (out++[(A0,A0+An-A0)])):=by
      rw[bP,tN,Nq];exact o6
     exact M35
    .exfalso;omega
   .have P7:=TK.out i (k+1) (Or.inr ⟨_a,rfl,rfl⟩)
    have Ty:max A0 B0=A0:=_a
    have QL:min (A0+An) (B0+Bn)=B0+Bn:=_a
    have i5:(A0+An==B0+Bn)=false:=_y
    by_cases NV:A0<B0+Bn
    .rw[if_pos NV]at P7
     have Ys:=tK P7
     clear P7 TK
     go_wp2_with fail
     go_quiet (fail)
     go_wp2_with (at_builtin;go_must (refine MT _ rfl (.tmp 64) (.tmp 70) 56 rfl W 128 i0 (.agg #[(0:Int),(0:Int)]) 2 16 underlying56 q0 q1 q2 q3 rfl _d _ _ _ rfl (MH (bK NU _) _) w' 1 1 [.int .i64 (A0),.int .i64 (B0+Bn-A0)] rfl rfl ?_ ?_ r3 r4 ?_ ?_))
     .exact World.news_of_block (Ns (w'.drewN nq) (.cells #[(A0:Int),(B0+Bn-A0:Int)] 128))
     .intro u hu;simp at hu;rcases hu with rfl|rfl<;>rfl
     .have:=hK.size;simp;omega
     intro v6 w6 o6 Po _ _
     have k6:NP [] W w6:=((hK.drewN _).alloc _).grown Po (fun g hg=>Or.inr (ML NU g hg).1)
     have o7:w6.ownsRow W 128 2 v6 (out++[(A0,B0+Bn-A0)]).length (NW (out++[(A0,B0+Bn-A0)])):=by
      rw[bP,tN,Nq];exact o6
     exact M36
    .rw[if_neg NV]at P7
     have⟨Ys,Up⟩:=_f P7 NU
     clear P7 TK NU
     go_wp2_with fail
     go_quiet (fail)
     go_wp2_with fail
     go_quiet (fail)
     go_wp2_with fail
     go_step3
     refine⟨rfl,⟨W,_,cx,_,cy,i,k+1,_,_,(lH ..),Zy.out,HYY.out,hKW,Ys.out,bK Up.out _,hK.drewN _⟩,?_⟩
     have hh:=Of.out
     simp[r9,intOf];(try omega)
 .intro U7
  have Y3:=tK U7
  clear U7
  go_wp2_with fail
  refine(HPA.out _ HA.out).mono ?_;rintro e w1 ⟨v1,rfl,r1,k1⟩
  obtain⟨px,cx,rfl⟩:=ah r1
  have hX1:=af.bB r1
  have Ub:=tK hX1
  clear r1 hX1
  go_wp2_with fail
  refine(YL.out _ (HB.out.kept0 k1)).mono ?_;rintro e w2 ⟨v2,rfl,r2,k2⟩
  obtain⟨py,cy,rfl⟩:=ah r2
  have hY2:=(af.bB r2).weaken (lo':=w.heap.size) (hi':=w2.heap.size) k1.size (MG _) (MG _)
  have hX2:=(Ub.out.kept0 k2).weaken (lo':=w.heap.size) (hi':=w2.heap.size) (MG _) k2.size (MG _)
  have⟨HX2,HY2⟩:=_f hX2 hY2
  have hKW:=k1.trans k2
  clear r2 hY2 hX2 Ub
  go_wp2_with fail
  go_step3
  rename_i hcont
  refine hcont _ _ (Y3.out _ _ ⟨w2,px,cx,py,cy,0,0,[],(),lH ..,HX2.out,HY2.out,hKW,DP XZ.out HPY.out,Nf _ _ _ _,NP.refl _ _⟩)
theorem Pl.sum (h:Pl a l) (ha:a<=8193):0<=NZ l/\NZ l<=8193-a:=by
 induction l generalizing a with
 |nil=>simp[NZ];omega
 |cons r t ih=>
  have⟨h1,h2,h3,h4⟩:=h
  have:=ih h4 _a
  have e:NZ (r::t)=r.2+NZ t:=by simp[NZ]
  rw[e];omega
theorem Pl.take (h:Pl a l) (k:Nat):Pl a (l.take k):=by
 induction k generalizing l a with
 |zero=>trivial
 |succ k ih=>
  cases l with
  |nil=>trivial
  |cons r t=>have⟨h1,h2,h3,h4⟩:=h;exact⟨h1,h2,h3,ih h4⟩
theorem BU (v:Value) (l:List (Int×Int)) (lo hi:Nat) (w:World) (h:af w v l lo hi) (hl:l.length<=1000000) (Pj:∀a∈l,aQ a):
  am! 65 #[v] w fun e w'=>e=(OV l:Int)/\NP [] w w':=by
 have hp:=oK v l lo hi w h hl Pj
 have Qe:=uP l
 have Rq:Pl 0 (OO l):=dV _
 have hlen:=Rq.gX
 obtain⟨p,c,rfl⟩:=h.shape
 unfold bh at hp
 have⟨HP,aed,Rf⟩:=gg! hp Qe Rq
 clear hp Qe Rq h Pj
 generalize OO l=x at*
 generalize OV l=n at*
 go_enter func65,ntmps65
 go_wp2_with fail
 refine HP.out.mono ?_;rintro e w1 ⟨v1,rfl,r1,k1⟩
 obtain⟨px,cx,rfl⟩:=ah r1
 have HX:=tK (af.bB r1)
 clear r1
 go_wp2_with fail
 go_loopw [3,9] (fun s i wr=>∃k:Nat,k<=x.length/\i=(k:Int)/\s=(NZ (x.take k):Int)/\NP [] w1 wr) (fun _ i _=>x.length-(intOf i).toNat)
 case atStart=>exact⟨0,_a,rfl,rfl,NP.refl _ _⟩
 case round=>
  obtain⟨k,hk,rfl,rfl,hK⟩:=hrel
  by_cases NV:k<x.length
  .obtain⟨b,off,rfl,c0,c1,hb,hlc,PT⟩:=(HX.out.kept0 hK).at_ k NV
   have Oo:=gH x k NV
   have RH:=(Rf.out.take k).sum _a
   have QG:=(Rf.out.take (k+1)).sum _a
   rw[Oo]at QG
   have i1:(k:Int)<x.length:=_a
   have⟨OY,Of⟩:=_f Oo NV
   have⟨s1,s2⟩:=RH
   have⟨s3,s4⟩:=QG
   clear Oo
   generalize NZ (x.take k)=S at*
   go_wp2_with fail
   go_roundw
   case rel=>exact⟨k+1,Of.out,_j,by rw[OY.out],hK.alloc _⟩
   case measure=>(have hh:=Of.out;simp[intOf];omega)
  .obtain rfl:k=x.length:=_a
   have e:NZ (x.take x.length)=(n:Int):=by rw[MU];exact aed.out
   rw[e]
   clear e
   go_wp2_with fail
   go_ret
   exact⟨rfl,k1.trans hK⟩
def Py (p:List (Int×Int)):Nat->Int
 |0=>0
 |k+1=>(p.getD k (0,0)).1+(p.getD k (0,0)).2
def Qb (p:List (Int×Int)):Nat->List (Int×Int)
 |0=>[]
 |k+1=>Qb p k++[(Py p k,(p.getD k (0,0)).1-Py p k)]
theorem tg (p:List (Int×Int)) (k:Nat):(Qb p k).length=k:=by
 induction k with
 |zero=>rfl
 |succ k ih=>rw[Qb,tN,ih];rfl
structure LW (p:List (Int×Int)) (k:Nat):Prop where
 lo:0<=Py p k/\Py p k<=8192
 next:∀h:k<p.length,Py p k<=p[k].1
 is:∀j,bZ (Qb p k) j↔0<=j/\j<Py p k/\¬bZ p j
 behind:∀j,Py p k<=j->bZ p j->bZ (p.drop k) j
 wf:∀r∈Qb p k,0<=r.1/\r.1<=8192/\0<=r.2/\r.2<=8192
theorem xK (hp:Pl 0 p) (k:Nat) (hk:k<=p.length):LW p k:=by
 induction k with
 |zero=>exact⟨⟨Int.le_refl _,by show(0:Int)<=8192;omega⟩,fun h=>(kJ hp h).1,fun j=>⟨fun h=>absurd h (dU j),fun⟨h1,h2,_⟩=>by have h2:j<0:=h2;omega⟩,fun j _ h=>h,fun r hr=>by cases hr⟩
 |succ k ih=>
  have NV:k<p.length:=_a
  obtain⟨⟨h1,h2⟩,h3,h4,h5,h6⟩:=ih _a
  have h3:=h3 NV
  have⟨p1,p2,p3⟩:=kJ hp NV
  have eg:p.getD k (0,0)=p[k]:=by rw[Nx,MZ NV];rfl
  have ea:Py p (k+1)=p[k].1+p[k].2:=by rw[Py,eg]
  have Vk:Qb p (k+1)=Qb p k++[(Py p k,p[k].1-Py p k)]:=by rw[Qb,eg]
  have dx:=fun j=>ug NV j
  have gx:∀j,bZ (p.drop (k+1)) j->p[k].1+p[k].2+1<=j:=fun j hj=>((hp.next k NV).ge hj).1
  refine⟨by rw[ea];omega,fun h=>?_,fun j=>?_,fun j hj P7=>?_,fun r hr=>?_⟩
  .rw[ea]
   have:=uo hp NV (q:=p[k+1]) (by rw[List.drop_eq_getElem_cons h];exact MY)
   omega
  .rw[Vk,cA,eW,h4,ea]
   constructor
   .rintro(⟨a,b,c⟩|⟨a,b⟩)
    .exact⟨a,_a,c⟩
    .have a:Py p k<=j:=a
     have b:j<Py p k+(p[k].1-Py p k):=b
     refine⟨_a,_a,fun P7=>?_⟩
     rcases(dx j).1 (h5 j a P7)with⟨q,_⟩|q
     .omega
     .have:=gx j q;omega
   .rintro⟨a,b,c⟩
    by_cases hj:j<Py p k
    .exact Or.inl ⟨a,hj,c⟩
    .refine Or.inr ⟨by show Py p k<=j;omega,?_⟩
     show j<Py p k+(p[k].1-Py p k)
     by_cases hq:p[k].1<=j
     .exact absurd ⟨p[k],MJ NV,hq,b⟩ c
     .omega
  .rw[ea]at hj
   rcases(dx j).1 (h5 j _a P7)with⟨_,q⟩|q
   .omega
   .exact q
  .rw[Vk]at hr
   rcases Na.1 hr with hr|hr
   .exact h6 r hr
   .have hr:r=(Py p k,p[k].1-Py p k):=F!
    subst hr
    exact⟨h1,h2,by show 0<=p[k].1-Py p k;omega,by show p[k].1-Py p k<=8192;omega⟩
def Rl (p:List (Int×Int)):List (Int×Int):=Qb p p.length++[(Py p p.length,8192-Py p p.length)]
theorem FZ (hp:Pl 0 p) (m:Nat) (hm:m<8192):OE (Rl p) m= !OE p m:=by
 obtain⟨⟨h1,h2⟩,_,h4,h5,_⟩:=xK hp p.length (MG _)
 rw[Bool.eq_iff_iff,Bool.not_eq_true',<-Bool.not_eq_true,dr,dr]
 unfold Rl
 rw[cA,eW,h4]
 constructor
 .rintro(⟨_,_,c⟩|⟨a,b⟩)
  .exact c
  .intro P7
   have:=h5 m a P7
   rw[List.drop_length]at this
   exact dU _ this
 .intro c
  by_cases hj:(m:Int)<Py p p.length
  .exact Or.inl ⟨_a,hj,c⟩
  .refine Or.inr ⟨by show Py p p.length<=m;omega,?_⟩
   show(m:Int)<Py p p.length+(8192-Py p p.length)
   omega
theorem Ir (hp:Pl 0 p):∀r∈Rl p,aQ r:=by
 obtain⟨⟨h1,h2⟩,_,_,_,h6⟩:=xK hp p.length (MG _)
 intro r hr
 unfold Rl at hr
 rcases Na.1 hr with hr|hr
 .have⟨a,b,c,d⟩:=h6 r hr
  exact⟨_a,_a,_a,_a⟩
 .have hr:r=(Py p p.length,8192-Py p p.length):=F!
  subst hr
  exact⟨by show _<=Py p p.length;omega,by show Py p p.length<=_;omega,by show _<=8192-Py p p.length;omega,by show 8192-Py p p.length<=_;omega⟩
theorem AW (la lb:List (Int×Int)):uq la (Rl (OO lb))=Pr la lb:=
 yV (fun m hm=>by rw[FZ (p:=OO lb) (dV _) m hm];unfold OO;rw[jZ _ m hm])
theorem BT (va:Value) (la:List (Int×Int)) (loa hia:Nat) (vb:Value) (lb:List (Int×Int)) (lob Rr:Nat) (w:World) (ha:af w va la loa hia) (hb:af w vb lb lob Rr) (Yb:la.length<=1000000) (US:lb.length<=1000000) (Yz:∀a∈la,aQ a) (Rp:∀a∈lb,aQ a):
  am! 96 #[va,vb] w (bh (Pr la lb) w):=by
 have hp:=oK vb lb lob Rr w hb US Rp
 have Rq:Pl 0 (OO lb):=dV _
 have hlen:=Rq.gX
 have⟨i0,q0,q1,q2,q3⟩:=eV
 have aa2:=fun W vg log hig (h1:af W va la loa hia) (h2:af W vg (Rl (OO lb)) log hig)=>G6 va la loa hia vg (Rl (OO lb)) log hig W h1 h2 Yb (by unfold Rl;rw[tN,tg];simp;omega) Yz (Ir Rq)
 rw[AW]at aa2
 obtain⟨pa,ca,rfl⟩:=ha.shape
 obtain⟨pb,cb,rfl⟩:=hb.shape
 unfold bh at*
 have⟨HP,Rf,aen,HA⟩:=gh! hp Rq aa2 ha
 clear hp Rq aa2 ha hb Yz Rp Yb US
 generalize OO lb=x at*
 generalize la.length=al at*
 generalize lb.length=bl at*
 generalize Pr la lb=M at*
 go_enter func96,ntmps96
 go_wp2_with fail
 refine HP.out.mono ?_;rintro e w1 ⟨v1,rfl,r1,k1⟩
 obtain⟨px,cx,rfl⟩:=ah r1
 have HX:=tK (af.bB r1)
 have RH:=k1.size
 clear r1
 go_wp2_with fail
 go_loopw [5,6,12] (fun g a i wr=>∃k:Nat,k<=x.length/\i=(k:Int)/\a=(Py x k:Int)/\wr.ownsRow w1 128 2 g k (NW (Qb x k))/\NP [] w1 wr) (fun _ _ i _=>x.length-(intOf i).toNat)
 case atStart=>exact⟨0,_a,rfl,rfl,Nf _ _ _ _,NP.refl _ _⟩
 case round=>
  obtain⟨k,hk,rfl,rfl,NU,hK⟩:=hrel
  obtain⟨⟨g1,g2⟩,g3,_⟩:=xK Rf.out k hk
  obtain⟨p5,c5,rfl⟩:=ah NU
  have hKs:=hK.size
  by_cases NV:k<x.length
  .obtain⟨b,off,rfl,c0,c1,hb,hlc,PT⟩:=(HX.out.kept0 hK).at_ k NV
   have g3:=g3 NV
   have⟨y1,y2,y3⟩:=kJ Rf.out NV
   have eg:x.getD k (0,0)=x[k]:=by rw[Nx,MZ NV];rfl
   have ea:Py x (k+1)=x[k].1+x[k].2:=by rw[Py,eg]
   have Vk:NW (Qb x (k+1))=NW (Qb x k)++[.int .i64 (Py x k),.int .i64 (x[k].1-Py x k)]:=by rw[Qb,eg,bP]
   have i1:(k:Int)<x.length:=_a
   have⟨HEA,HEG,Of⟩:=gg! ea Vk NV
   have r3:k+1<=maxLen:=_m
   have r4:(k+1)*16<=140737488355328:=_a
   clear eg ea Vk
   generalize Py x k=a at*
   generalize x[k].1=X0 at*
   generalize x[k].2=Xn at*
   go_wp2_with (at_builtin;go_must (refine MT _ rfl (.tmp 16) (.tmp 23) 56 rfl w1 128 i0 (.agg #[(0:Int),(0:Int)]) 2 16 underlying56 q0 q1 q2 q3 rfl _d _ _ _ rfl (MH (MH NU _) _) (aa (wr+1) 0) 1 1 [.int .i64 a,.int .i64 (X0-a)] rfl rfl ?_ ?_ r3 r4 ?_ ?_))
   .have RG:((wr.alloc (.cells #[X0,Xn] 128)).alloc (.cells #[a,(X0-a:Int)] 128)).heap[wr.heap.size+1]? =some (.cells #[a,(X0-a:Int)] 128 (0,0)):=by
     have:=Ns (wr.alloc (.cells #[X0,Xn] 128)) (.cells #[a,(X0-a:Int)] 128)
     rw[Nd]at this
     exact this
    exact World.news_of_block RG
   .intro u hu;simp at hu;rcases hu with rfl|rfl<;>rfl
   .simp;omega
   intro v6 w6 o6 Po _ _
   have k6:NP [] w1 w6:=((hK.alloc _).alloc _).grown Po (fun g hg=>Or.inr (ML NU g hg).1)
   have z0:w6.cell? wr=X0:=by
    have Pb:(Value.slice p5 k c5).ownBlock≠some wr:=fun e=>by
     have:=(ML NU _ e).2;omega
    have Q3:=Po.block wr _e (fun e=>Pb e.symm)
    rw[World.cell?_of_block Q3]
    exact(ae.alloc (ae.new wr #[X0,Xn] 128) _).cell 0 _b
   have z1:w6.cell? (aa wr 1)=Xn:=by
    have Pb:(Value.slice p5 k c5).ownBlock≠some wr:=fun e=>by
     have:=(ML NU _ e).2;omega
    have Q3:=Po.block wr _e (fun e=>Pb e.symm)
    rw[World.cell?_of_block Q3]
    exact(ae.alloc (ae.new wr #[X0,Xn] 128) _).cell 1 _b
   rw[<-HEG.out]at o6
   have Vn:=tK o6
   clear Po NU o6
   go_wp2_with fail
   go_roundw
   case rel=>exact⟨k+1,Of.out,_j,by rw[HEA.out],Vn.out,k6⟩
   case measure=>(have hh:=Of.out;simp[intOf];omega)
  .obtain rfl:k=x.length:=_a
   have r3:x.length+1<=maxLen:=_m
   have r4:(x.length+1)*16<=140737488355328:=_a
   have Vk:NW (Rl x)=NW (Qb x x.length)++[.int .i64 (Py x x.length),.int .i64 (8192-Py x x.length)]:=by unfold Rl;rw[bP]
   have ab5:(Rl x).length=x.length+1:=by unfold Rl;rw[tN,tg];rfl
   have⟨HEG,HEL⟩:=_f Vk ab5
   clear Vk ab5
   generalize Py x x.length=a at*
   go_wp2_with (at_builtin;go_must (refine MT _ rfl (.tmp 32) (.tmp 37) 56 rfl w1 128 i0 (.agg #[(0:Int),(0:Int)]) 2 16 underlying56 q0 q1 q2 q3 rfl _d _ _ _ rfl (MH NU _) wr 1 1 [.int .i64 a,.int .i64 (8192-a)] rfl rfl ?_ ?_ r3 r4 ?_ ?_))
   .exact World.news_of_block (Ns wr _)
   .intro u hu;simp at hu;rcases hu with rfl|rfl<;>rfl
   .simp;omega
   intro v6 w6 o6 Po _ _
   have k6:NP [] w1 w6:=(hK.alloc _).grown Po (fun g hg=>Or.inr (ML NU g hg).1)
   rw[<-HEG.out,<-HEL.out]at o6
   have hG:=af.bB o6
   have hA6:=HA.out.kept0 (k1.trans k6)
   have hc:=aen.out w6 v6 _ _ hA6 hG
   obtain⟨p6,c6,rfl⟩:=ah o6
   have HC:=tK hc
   have hs6:=(k1.trans k6).size
   clear Po NU o6 hG hc
   go_wp2_with fail
   refine HC.out.mono ?_;rintro e w7 ⟨v7,rfl,o7,k7⟩
   go_wp2_with fail
   go_ret
   exact⟨_,rfl,aF o7 hs6,(k1.trans k6).trans k7⟩
def Tw (a:Int×Int):Int:=if a.2<1\/8192<=a.1 then 0 else if 0<=a.1/\8192-a.1<a.2 then 8192 else min (max (a.1+a.2) 0) 8192
theorem J4 (a:Int×Int) (m:Nat) (hm:m<8192):(max a.1 0<=m/\(m:Int)<Tw a)↔(a.1<=m/\(m:Int)<a.1+a.2):=by
 unfold Tw
 by_cases h1:a.2<1\/8192<=a.1
 .rw[if_pos h1];omega
 .rw[if_neg h1]
  by_cases h2:0<=a.1/\8192-a.1<a.2
  .rw[if_pos h2];omega
  .rw[if_neg h2];omega
theorem J5 (a:Int×Int):0<=Tw a/\Tw a<=8192:=by
 unfold Tw
 split
 .omega
 .split<;>omega
theorem M64 (h:A:=by
 go_enter func260,ntmps260
 go_wp2_with fail
 all_goals first|(exfalso;omega)|(go_ret;exact⟨rfl,rfl⟩)):A:=h
theorem M62 (h:A:=by
 go_enter func260,ntmps260
 go_wp2_with fail
 go_ret
 exact⟨rfl,rfl⟩):A:=h
theorem L7 (a:Int×Int) (w:World) (hw:aQ a):am! 260 #[.agg #[a.1,a.2]] w fun e w'=>e=(Tw a:Int)/\w.alloc (.cells #[a.1,a.2] 128)=w':=by
 have⟨x,n⟩:=a
 have⟨w1,w2,w3,w4⟩:=hw
 simp only at w1 w2 w3 w4 ⊢
 unfold Tw
 simp only
 rcases(by omega:n<1\/(1<=n/\8192<=x)\/(1<=n/\x<8192/\0<=x/\8192-x<n)\/(1<=n/\x<8192/\0<=x/\n<=8192-x)\/(1<=n/\x<8192/\x<0))with h1|⟨h1,h2⟩|⟨h1,h2,h3,h4⟩|⟨h1,h2,h3,h4⟩|⟨h1,h2,h3⟩
 .rw[if_pos (Or.inl h1)]
  exact M62
 .rw[if_pos (Or.inr h2)]
  exact M62
 .rw[if_neg _a,if_pos ⟨h3,h4⟩]
  exact M62
 .rw[if_neg _a,if_neg _a]
  have Ty:max (x+n) 0=x+n:=_a
  have QL:min (x+n) 8192=x+n:=_a
  rw[Ty,QL]
  exact M62
 .rw[if_neg _a,if_neg _a]
  obtain⟨m,hm⟩:∃m,m=min (max (x+n) 0) 8192:=⟨_,rfl⟩
  rw[<-hm]
  rcases(by omega:x+n<0\/(0<=x+n/\x+n<=8192)\/8192<x+n)with g1|⟨g1,g2⟩|g1
  .obtain rfl:m=0:=_a
   clear hm
   have Ty:max (x+n) 0=0:=_a
   exact M64
  .obtain rfl:m=x+n:=_a
   clear hm
   have Ty:max (x+n) 0=x+n:=_a
   have QL:min (x+n) 8192=x+n:=_a
   exact M64
  .obtain rfl:m=8192:=_a
   clear hm
   have Ty:max (x+n) 0=x+n:=_a
   have QL:min (x+n) 8192=8192:=_a
   exact M64
theorem nP:∃i,prog.info? 4=some i/\i.zero=false/\i.size=1/\i.bytes=1:=by
 have hi:(prog.info? 4).map (fun i=>(i.zero,i.size,i.bytes))=some (some (.bool false),1,1):=_c
 exact Yh
theorem re (w:World):(Instr.makeSlice 39 (8192:Int) (8192:Int)).run prog w=.ok (.slice (some w) 8192 8192) (w.alloc (.cells (Array.replicate 8192 false) 4)):=by
 have⟨i0,h1,h2,h3,h4⟩:=nP
 exact lu (P:=prog) 39 4 i0 false underlying39 h1 h2 h3 rfl 8192 Z! _a w
def fw (w:World) (g:Nat) (f:Nat->Bool):Prop:=Rw w g 4 8192 (fun k=>.bool (f k))
theorem fw.congr {g:Nat} {f f':Nat->Bool} (h:fw w g f) (e:∀m,m<8192->f m=f' m):fw w g f':=Rw.congr h (fun i hi=>by rw[e i hi])
theorem Dr (l:List (Int×Int)) (k:Nat) (h:k<l.length) (m:Nat):OE (l.take (k+1)) m=(OE (l.take k) m||(decide (l[k].1<=m)&&decide ((m:Int)<l[k].1+l[k].2))):=by
 rw[MI h,qQ]
 congr 1
 simp[OE]
theorem D5 (v:Value) (l:List (Int×Int)) (lo hi:Nat) (w:World) (h:af w v l lo hi) (hl:l.length<=1000000) (Pj:∀a∈l,aQ a):
  am! 209 #[v] w fun e w'=>e=.returned (.slice (some w) 8192 8192)/\fw w' w (OE l)/\NP [] w w':=by
 have RO:=re
 have h0:fw (w.alloc (.cells (Array.replicate 8192 false) 4)) w (OE (l.take 0)):=Rw.made w 4 8192 false
 obtain⟨p,c,rfl⟩:=h.shape
 have⟨H,VI,H0⟩:=gg! h Pj h0
 have Tg:(l.length:Int)<=1000000:=_a
 clear h Pj h0
 go_enter func209,ntmps209
 go_wp2_with fail
 go_loopw [4] (fun i wr=>∃k:Nat,k<=l.length/\i=(k:Int)/\fw wr w (OE (l.take k))/\NP [] w wr) (fun i _=>l.length-(intOf i).toNat)
 case atStart=>exact⟨0,_a,rfl,H0.out,(NP.refl _ _).alloc _⟩
 case round=>
  obtain⟨k,hk,rfl,NU,hK⟩:=hrel
  by_cases NV:k<l.length
  .obtain⟨b,off,rfl,c0,c1,hb,hlc,PT⟩:=(H.out.kept0 hK).at_ k NV
   have VG:b<w.heap.size:=by
    have⟨b',off',e',_,_,UR,_⟩:=H.out.at_ k NV
    injection e' with e'
    injection e' with e1 _ _
    omega
   have hz:=fun W=>L7 l[k] W (VI.out _ (MJ NV))
   have acU:=Dr l k NV
   have Ph:=J4 l[k]
   have aev:=J5 l[k]
   have i1:(k:Int)<l.length:=_a
   have C0:=tK ((hK.cell (a:=(aa b (off+k*2))) al! _b).symm.trans c0)
   have C1:=tK ((hK.cell (a:=(aa b (off+k*2+1))) al! _b).symm.trans c1)
   have⟨adY,Qd,Of⟩:=gg! acU Ph NV
   obtain⟨S,hS⟩:∃S,max l[k].1 0=S:=⟨_,rfl⟩
   have Q6:0<=S:=_a
   have⟨HSS,Pm,HZ⟩:=gg! hS NU hz
   have⟨e1,e2⟩:=aev
   clear acU Ph NU hz
   generalize OE (l.take k)=F at*
   generalize Tw l[k]=E at*
   generalize l[k].1=X0 at*
   generalize l[k].2=Xn at*
   obtain⟨Sn,rfl⟩:=MM Q6
   clear Q6 c0 c1
   have c0:=(hK.cell (a:=(aa b (off+k*2))) al! _b).trans C0.out
   have c1:=(hK.cell (a:=(aa b (off+k*2+1))) al! _b).trans C1.out
   go_wp2_with fail
   all_goals
    obtain⟨wo,rfl⟩:∃wo:World,wo=wr:=⟨_,rfl⟩
    go_loopw [5] (fun i wr=>∃j:Nat,(j=Sn\/(j:Int)<=E)/\Sn<=j/\i=(j:Int)/\fw wr w (fun m=>F m||(decide (Sn<=m)&&decide (m<j)))/\NP [] w wr) (fun i _=>8192-(intOf i).toNat)
    case atStart=>
     refine⟨Sn,Or.inl rfl,MG _,?_,Pm.out.congr (fun m _=>?_),hK⟩
     .first|rfl|(have:=HSS.out;congr 1;omega)
     .have:(decide (Sn<=m)&&decide (m<Sn))=false:=_b
      rw[this,Bool.or_false]
    case round=>
     obtain⟨j,hj1,ZO,rfl,NU,QJ⟩:=hrel
     have c0:=(QJ.cell (a:=(aa b (off+k*2))) al! _b).trans C0.out
     have c1:=(QJ.cell (a:=(aa b (off+k*2+1))) al! _b).trans C1.out
     by_cases hjE:(j:Int)<E
     .have hj8:j<8192:=_a
      have j8:(j:Int)<8192:=_a
      have d0:=Rw.cell NU j hj8
      have z0:=Rw.free NU j
      have Vg:=Rw.set NU j hj8 true (fun m=>.bool (F m||(decide (Sn<=m)&&decide (m<j+1)))) (by
       have e5:(decide (Sn<=j)&&decide (j<j+1))=true:=_e
       rw[e5,Bool.or_true]) (fun m _ hm=>by
       have e5:decide (m<j+1)=decide (m<j):=by rw[decide_eq_decide];omega
       rw[e5])
      have WD:=(QJ.setCell (p:=(aa w j)) (Or.inr (MG _)) true).alloc (.cells #[X0,Xn] 128)
      have Zr:=tK Vg
      have UN:=Rw.lt NU
      clear Vg NU
      generalize (F j||(decide (Sn<=j)&&decide (j<j)))=bb at*
      go_wp2_with fail
      refine(HZ.out _).mono ?_;rintro e w5 ⟨rfl,rfl⟩
      go_wp2_with fail
      go_roundw
      case rel=>exact⟨j+1,_a,_a,_j,Rw.alloc Zr.out _,WD⟩
      case measure=>simp[intOf];omega
     .have Oy:fw (wr.alloc (.cells #[X0,Xn] 128)) w (OE (l.take (k+1))):=fw.congr (Rw.alloc NU _) (fun m hm=>by
       rw[adY.out m]
       congr 1
       have h3:=Qd.out m hm
       have h4:=HSS.out
       rw[h4]at h3
       rw[Bool.eq_iff_iff]
       simp only[No,decide_eq_true_eq]
       rw[<-h3]
       omega)
      have Rv:=tK Oy
      have WD:=QJ.alloc (.cells #[X0,Xn] 128)
      clear Oy NU
      go_wp2_with fail
      refine(HZ.out _).mono ?_;rintro e w5 ⟨rfl,rfl⟩
      go_wp2_with fail
      go_roundw
      case rel=>exact⟨k+1,Of.out,_j,Rv.out,WD⟩
      case measure=>(have hh:=Of.out;simp[intOf];omega)
  .obtain rfl:k=l.length:=_a
   rw[MU]at NU
   have Pm:=tK NU
   clear NU
   go_wp2_with fail
   go_ret
   exact⟨rfl,Pm.out,hK⟩
theorem Km (g:Nat) (f:Nat->Bool) (w:World) (h:fw w g f):
  am! 213 #[.slice (some g) 8192 8192] w (bh (eh f) w):=by
 have⟨i0,q0,q1,q2,q3⟩:=eV
 have H:=tK h
 have UN:=Rw.lt h
 have Pf:=fun k hk=>zf f k hk
 have QH:=tK Pf
 unfold bh
 clear h Pf
 go_enter func213,ntmps213
 go_wp2_with fail
 go_loopw [3,4] (fun v i wr=>∃k:Nat,k<=8192/\i=(k:Int)/\wr.ownsRow w 128 2 v (Pa f k).length (NW (Pa f k))/\NP [] w wr) (fun _ i _=>8192-(intOf i).toNat)
 case atStart=>exact⟨0,_a,rfl,Nf _ _ _ _,NP.refl _ _⟩
 case round=>
  obtain⟨k,hk,rfl,NU,hK⟩:=hrel
  by_cases NV:k<8192
  .have ck:=(hK.cell (a:=(aa g k)) (by exact UN) _b).trans (Rw.cell H.out k NV)
   have Oe:Pa f (k+1)=if f k=true then(if k≠0/\f (k-1)=true then Bz (Pa f k)else Pa f k++[((k:Int),1)])else Pa f k:=rfl
   have hlen:=(QH.out k hk).pl.gX
   have i1:(k:Int)<8192:=_a
   have Of:=tK NV
   have hKs:=hK.size
   have r3:(Pa f k).length+1<=maxLen:=_m
   have r4:((Pa f k).length+1)*16<=140737488355328:=_a
   cases hf:f k
   .rw[hf]at ck Oe
    rw[if_neg _b]at Oe
    have⟨HR,Up⟩:=_f Oe NU
    clear Oe hf NU
    generalize Pa f k=M at*
    go_wp2_with fail
    go_roundw
    case rel=>exact⟨k+1,Of.out,_j,by rw[HR.out];exact Up.out,hK⟩
    case measure=>(have hh:=Of.out;simp[intOf];omega)
   .rw[hf]at ck Oe
    rw[if_pos rfl]at Oe
    by_cases Sz:k≠0/\f (k-1)=true
    .rw[if_pos Sz]at Oe
     have⟨I,q,e,hq⟩:=uE (QH.out k hk) Sz.1 Sz.2
     rw[e,vB]at Oe
     rw[e]at NU hlen
     have Xd:(I++[q]).length=I.length+1:=_b
     rw[Xd]at NU hlen
     obtain⟨n,rfl⟩:∃n,k=n+1:=⟨k-1,_a⟩
     have cn:=(hK.cell (a:=(aa g n)) (by exact UN) _b).trans (Rw.cell H.out n _a)
     rw[show f n=true from Sz.2]at cn
     obtain⟨gb,c4,rfl,TI,UK,hg3,hg4,U0⟩:=cU NU _a
     have⟨u1,u2⟩:=mI I q
     have e1:=U0 _ _ u2
     have z1:=World.ownsRow.frozenAt NU (I.length*2+1)
     have Rq:=(QH.out (n+1) hk).pl
     rw[e]at Rq
     have⟨_,p2,p3,p4,_⟩:=Rq.init
     have Oo:=(World.ownsRow.stored NU (I.length*2+1) (q.2+1:Int)).1
     rw[show q=(q.1,q.2)from rfl,iE]at Oo
     have e9:(I++[(q.1,q.2+1)]).length=I.length+1:=_b
     have WD:=hK.setCell (p:=(aa gb (I.length*2+1))) (Or.inr TI) (q.2+1:Int)
     have⟨HR,OY,HE9⟩:=gg! Oe Oo e9
     have i2:(I.length:Int)<=8192:=_a
     have i3:((n:Int)+1)<8192:=_a
     clear Oe Oo e9 Sz U0 u1 u2 NU hf e Rq hq
     go_wp2_with fail
     go_roundw
     case rel=>exact⟨n+1+1,Of.out,_j,by rw[HR.out,HE9.out];exact OY.out,WD⟩
     case measure=>(have hh:=Of.out;simp[intOf];omega)
    .rw[if_neg Sz]at Oe
     have HR:=tK Oe
     have hcn:k=0\/(k≠0/\f (k-1)=false):=by
      by_cases h0:k=0
      .exact Or.inl h0
      .refine Or.inr ⟨h0,?_⟩
       cases hx:f (k-1)
       .rfl
       .exact absurd ⟨h0,hx⟩ Sz
     have Ym:∀(w6:World) v6,w6.ownsRow w 128 2 v6 ((Pa f k).length+1) (NW (Pa f k)++[.int .i64 k,.int .i64 1])->w6.ownsRow w 128 2 v6 (Pa f (k+1)).length (NW (Pa f (k+1))):=fun w6 v6 h=>by
      rw[HR.out,bP,tN,Nq];exact h
     have Z3:=tK Ym
     obtain⟨p4,c4,rfl⟩:=ah NU
     clear Oe Sz Ym hf HR
     generalize Pa f k=M at*
     rcases hcn with rfl|⟨h0,hcn⟩
     .go_wp2_with (at_builtin;go_must (refine MT _ rfl (.tmp 35) (.tmp 38) 56 rfl w 128 i0 (.agg #[(0:Int),(0:Int)]) 2 16 underlying56 q0 q1 q2 q3 rfl _d _ _ _ rfl (MH NU _) wr 1 1 [.int .i64 0,.int .i64 1] rfl rfl ?_ ?_ r3 r4 ?_ ?_))
      .exact World.news_of_block (Ns wr _)
      .intro u hu;simp at hu;rcases hu with rfl|rfl<;>rfl
      .simp;omega
      intro v6 w6 o6 Po _ _
      have k6:NP [] w w6:=(hK.alloc _).grown Po (fun g hg=>Or.inr (ML NU g hg).1)
      have Vn:=tK o6
      clear Po NU o6
      go_wp2_with fail
      go_roundw
      case rel=>exact⟨0+1,Of.out,_j,Z3.out _ _ Vn.out,k6⟩
      case measure=>(have hh:=Of.out;simp[intOf])
     .obtain⟨n,rfl⟩:∃n,k=n+1:=⟨k-1,_a⟩
      have cn:=(hK.cell (a:=(aa g n)) (by exact UN) _b).trans (Rw.cell H.out n _a)
      rw[show f n=false from hcn]at cn
      have i3:((n:Int)+1)<8192:=_a
      clear hcn
      go_wp2_with (at_builtin;go_must (refine MT _ rfl (.tmp 35) (.tmp 38) 56 rfl w 128 i0 (.agg #[(0:Int),(0:Int)]) 2 16 underlying56 q0 q1 q2 q3 rfl _d _ _ _ rfl (MH NU _) wr 1 1 [.int .i64 ((n:Int)+1),.int .i64 1] rfl rfl ?_ ?_ r3 r4 ?_ ?_))
      .exact World.news_of_block (Ns wr _)
      .intro u hu;simp at hu;rcases hu with rfl|rfl<;>rfl
      .simp;omega
      intro v6 w6 o6 Po _ _
      have k6:NP [] w w6:=(hK.alloc _).grown Po (fun g hg=>Or.inr (ML NU g hg).1)
      have Vn:=tK o6
      clear Po NU o6
      go_wp2_with fail
      go_roundw
      case rel=>exact⟨n+1+1,Of.out,_j,Z3.out _ _ Vn.out,k6⟩
      case measure=>(have hh:=Of.out;simp[intOf];omega)
  .obtain rfl:k=8192:=_a
   have HR:=tK NU
   clear NU
   go_wp2_with fail
   go_ret
   exact⟨_,rfl,HR.out,hK⟩

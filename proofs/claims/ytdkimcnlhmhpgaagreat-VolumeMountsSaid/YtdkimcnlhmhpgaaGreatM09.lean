/- -/
import Derived.Test.YtdkimcnlhmhpgaaGreatM08
set_option maxHeartbeats 32000000
set_option maxRecDepth 100000
namespace Go.Proofs.YtdkimcnlhmhpgaaGreat
section
open Go.Proofs.Tryz Go.RowKit
variable {A:Prop} {f s:Int} {l:List (Int×Int)}
theorem Nt:type_of% @List.getElem_cons_succ:=@List.getElem_cons_succ
structure SB where
 seq:Nat
 sectors:Int
 journal:Int
 used:Int
 size:Int
 runs:List (Int×Int)
def SB.cells (s:SB) (v:Value):Array Value:=#[.int .u64 s.seq,s.sectors,s.journal,s.used,s.size,v]
def SB.dD (s:SB):Prop:=1<=s.seq/\4<=s.sectors/\s.sectors<=8192/\1<=s.journal/\s.journal<=s.sectors-2/\0<=s.used/\s.used<=s.journal*128/\0<=s.size/\s.size<=1048576/\s.runs.length<=16
def SB.may (s:SB):Prop:=s.dD/\lies (2+s.journal) s.sectors s.runs=true/\NZ s.runs=On s.size
theorem SB.ma (s:SB):(¬s.dD/\((s.seq<1)\/(1<=s.seq/\s.sectors<4)\/(1<=s.seq/\4<=s.sectors/\8192<s.sectors)\/
  ((1<=s.seq/\4<=s.sectors/\s.sectors<=8192)/\((s.journal<1)\/(1<=s.journal/\s.sectors-2<s.journal)\/
  ((1<=s.journal/\s.journal<=s.sectors-2)/\((s.used<0)\/(0<=s.used/\s.journal*128<s.used)\/
  ((0<=s.used/\s.used<=s.journal*128)/\((s.size<0)\/(0<=s.size/\1048576<s.size)\/(0<=s.size/\s.size<=1048576/\16<s.runs.length)))))))))\/
  (s.dD/\1<=s.seq/\4<=s.sectors/\s.sectors<=8192/\1<=s.journal/\s.journal<=s.sectors-2/\0<=s.used/\s.used<=s.journal*128/\0<=s.size/\s.size<=1048576/\s.runs.length<=16):=by
 by_cases h:s.dD
 .exact Or.inr ⟨h,h⟩
 .refine Or.inl ⟨h,?_⟩
  unfold SB.dD at h
  omega
theorem CG (s:SB) (v:Value) (lo hi:Nat) (w:World) (h:af w v s.runs lo hi) (OF:¬s.dD) (hl:s.runs.length<=1000000):
  am! 164 #[.agg (s.cells v)] w fun e w'=>e=(1:Int)/\NP [] w w':=by
 obtain⟨p,c,rfl⟩:=h.shape
 have hc:=s.ma
 have⟨sq,a,b,u,z,l⟩:=s
 simp only[SB.cells]at*
 rcases hc with⟨_,hc⟩|⟨hy,_⟩
 .clear h OF
  rcases hc with g1|⟨g1,g2⟩|⟨g1,g2,g3⟩|⟨⟨g1,g2,g3⟩,g4|⟨g4,g5⟩|⟨⟨g4,g5⟩,g6|⟨g6,g7⟩|⟨⟨g6,g7⟩,g8|⟨g8,g9⟩|⟨g8,g9,g10⟩⟩⟩⟩
  all_goals
   go_enter func164,ntmps164
   go_wp2_with fail
   go_ret
   exact⟨rfl,(NP.refl _ _).alloc _⟩
 .exact absurd hy OF
def D3 (s:SB) (w:World) (e:Ending) (w':World):Prop:=((s.may/\e=(0:Int))\/(¬s.may/\e=(1:Int)))/\NP [] w w'
theorem adv (h:A:=by
 go_wp2_with fail
 go_ret
 exact⟨Or.inr ⟨HX.out,rfl⟩,((NP.refl _ _).alloc _).trans hk⟩):A:=h
theorem CI (s:SB) (v:Value) (lo hi:Nat) (w:World) (h:af w v s.runs lo hi) (hl:s.runs.length<=1000000):
  am! 164 #[.agg (s.cells v)] w (D3 s w):=by
 by_cases OF:s.dD
 .have hc:=s.ma
  rcases hc with⟨hy,_⟩|⟨_,g1,g2,g3,g4,g5,g6,g7,g8,g9,g10⟩
  .exact absurd OF hy
  .have aaf:=fun w h=>Mk v s.runs lo hi (2+s.journal) s.sectors w h hl _a _a _a g3
   have Y6:=fun w=>sP s.size w _o
   have Sv:lies (2+s.journal) s.sectors s.runs=true->NZ s.runs=On s.size->s.may:=fun a b=>⟨OF,a,b⟩
   have QX:lies (2+s.journal) s.sectors s.runs=false->¬s.may:=fun a hm=>by rw[hm.2.1]at a;cases a
   have QU:NZ s.runs≠On s.size->¬s.may:=fun a hm=>a hm.2.2
   have⟨HY,Ts,Rs⟩:=gg! Sv QX QU
   obtain⟨p,c,rfl⟩:=h.shape
   clear Sv QX QU OF
   unfold SB.cells
   generalize s.seq=sq at*
   generalize s.sectors=a at*
   generalize s.journal=b at*
   generalize s.used=u at*
   generalize s.size=z at*
   generalize s.runs=l at*
   have YD:∀w',NP [] w w'->af w' (p,l.length,c) l lo hi:=fun w' hk=>h.kept0 hk
   clear h
   have HK:=tK YD
   clear YD
   go_enter func164,ntmps164
   have o:=ae.new w #[.int .u64 (sq:Int),a,b,u,z,(p,l.length,c)] 58
   go_wp2_with fail
   refine(aaf _ (HK.out _ ((NP.refl _ _).alloc _))).mono ?_;rintro e w1 ⟨rfl,hk⟩
   have o1:=hk.own o _b
   have c4:=o1.cell 4 _b
   simp only[List.getElem_toArray,Nt,List.getElem_cons_zero]at c4
   cases hL:lies (2+b) a l
   .have HX:=tK (Ts.out hL)
    rw[if_neg _b]
    clear hL aaf Y6
    exact adv
   .rw[if_pos rfl]
    by_cases hq:NZ l=On z
    .have HX:=tK (HY.out hL hq)
     have Wu:(NZ l==On z)=true:=by simpa using hq
     clear hL aaf hq
     generalize NZ l=m at*
     generalize On z=n at*
     go_wp2_with fail
     refine(Y6 _).mono ?_;rintro e w2 ⟨rfl,rfl⟩
     go_wp2_with fail
     go_ret
     exact⟨Or.inl ⟨HX.out,rfl⟩,((NP.refl _ _).alloc _).trans hk⟩
    .have HX:=tK (Rs.out hq)
     have Wu:(NZ l==On z)=false:=by simpa using hq
     clear hL aaf hq
     generalize NZ l=m at*
     generalize On z=n at*
     go_wp2_with fail
     refine(Y6 _).mono ?_;rintro e w2 ⟨rfl,rfl⟩
     exact adv
 .exact(CG s v lo hi w h OF hl).mono fun e w' hh=>⟨Or.inr ⟨fun hm=>OF hm.1,hh.1⟩,hh.2⟩
def nZ (f s:Int) (l:List (Int×Int)) (w:World) (e:Ending) (w':World):Prop:=e=.returned (.bool (lies f s l&&decide (l.length<=16)))/\NP [] w w'
theorem qH {w w':World} (h:lies f s l=false) (hk:NP [] w w'):nZ f s l w (.returned false) w':=by
 refine⟨?_,hk⟩;rw[h];rfl
theorem wE {w w':World} (h:lies f s l=true) (hk:NP [] w w'):nZ f s l w (.returned (.bool (decide ((l.length:Int)<=16)))) w':=by
 refine⟨?_,hk⟩
 rw[h,Bool.true_and]
 have:decide ((l.length:Int)<=16)=decide (l.length<=16):=by rw[decide_eq_decide];omega
 rw[this]
theorem Gy (v:Value) (l:List (Int×Int)) (lo hi:Nat) (f s:Int) (w:World) (h:af w v l lo hi) (hl:l.length<=1000000) (hf:0<=f) (hf2:f<=100000) (hs:0<=s) (QG:s<=8192):
  am! 283 #[v,f,s] w (nZ f s l w):=by
 obtain⟨p,c,rfl⟩:=h.shape
 go_enter func283,ntmps283
 go_wp2_with fail
 go_loopw [7] (fun i wr=>∃k:Nat,k<=l.length/\i=(k:Int)/\Aside (dP f s l k=true)/\NP [] w wr) (fun i _=>l.length-(intOf i).toNat)
 case atStart=>exact⟨0,_a,rfl,rfl,NP.refl _ _⟩
 case round=>
  obtain⟨k,hk,rfl,hL,hK⟩:=hrel
  by_cases NV:k<l.length
  .obtain⟨b,off,rfl,c0,c1,hb,hlc,PT⟩:=(h.kept0 hK).at_ k NV
   unfold maxLen at PT
   have OF:=ue f s l k NV
   have P9:Aside (∀m,(l.take m).all (dQ l[k])=true->m=k->iM f s l[k]=true->dP f s l (k+1)=true):=fun m h1 h2 h3=>by
    subst h2;rw[iy f s l m NV,hL.out,h3,h1];rfl
   have hks:(8192:Int)*k<=8192000000:=_a
   have Rx:=mE l[k] l
   rcases @mv f s l[k]with⟨h0,UD⟩|⟨h0,g1,g2,g3,g4⟩
   .have HN:Hid (lies f s l=false):=OF aa!
    clear OF P9 h0 Rx
    generalize l[k]=a at*
    rcases UD with g1|⟨g1,g2⟩|⟨g1,g2,g3⟩|⟨g1,g2,g3,g4⟩
    all_goals
     go_wp2_with fail
     go_ret
     exact qH HN.out (hK.alloc _)
   .have TV:Hid ((l.take k).all (dQ l[k])=false->lies f s l=false):=fun hh=>OF W!
    have⟨H0,HA⟩:=_f h0 Rx
    have Ox:=fun m hm=>kp l[k] l m hm
    have OY:=tK Ox
    have Vr:=fJ (Nat.le_of_lt NV) hL.out
    have QH:=tK Vr
    clear OF h0 Rx Ox Vr
    generalize l[k]=a at*
    go_wp2_with fail
    obtain⟨wo,rfl⟩:∃wo:World,wo=wr:=⟨_,rfl⟩
    go_loopw [9] (fun i wr=>∃m:Nat,m<=k/\i=(m:Int)/\Aside ((l.take m).all (dQ a)=true)/\NP [] w wr/\ae wr wo #[a.1,a.2] 128) (fun i _=>k-(intOf i).toNat)
    case atStart=>exact⟨0,_a,rfl,rfl,hK.alloc _,ae.new _ _ _⟩
    case round=>
     obtain⟨m,hm,rfl,hAP,QJ,ho⟩:=hrel
     have⟨d0,d1⟩:=ho.c2
     have adg:=ho.lt
     by_cases RO:m<k
     .obtain⟨b',off',WA,e0,e1,Q3,-,-⟩:=(h.kept0 QJ).at_ m _a
      injection WA with WA
      injection WA with hbe1 hbe2 _
      subst hbe1 hbe2
      have hob:=dN.1 (QH.out m RO)
      have Q9:=OY.out m _a
      have TY:=HA.out m k _a RO
      have⟨Xg,YC⟩:=_f Q9 TY
      have hc:= @mD a l[m]
      clear Q9 TY
      generalize l[m]=bb at*
      have⟨q1,q2,q3,q4⟩:=hob
      rcases hc with⟨r0,r1,r2⟩|⟨r0,r1⟩
      .have HN:Hid (lies f s l=false):=TV.out (YC.out r0)
       clear r0 c0 c1
       go_wp2_with fail
       go_ret
       exact qH HN.out (QJ.alloc _)
      .have R0:=tK r0
       exact M38
     .have Wc:m=k:=_a
      have HL:Aside (dP f s l (k+1)=true):=P9.out m hAP.out Wc H0.out
      clear hAP c0 c1
      have hge:(k:Int)<=m:=_a
      clear Wc RO
      go_wp2_with fail
      go_roundw
      case rel=>exact⟨k+1,_a,_j,HL,QJ⟩
      case measure=>simp[intOf];omega
  .obtain rfl:k=l.length:=_a
   have HY:Hid (lies f s l=true):=hL.out
   clear hL
   go_wp2_with fail
   go_ret
   exact wE HY.out hK
theorem Aw (n:Int) (w:World) (hn:(Lit.int .i64 n).wf=true):
  am! 146 #[n] w fun e w'=>e=(On n:Int)/\w=w':=by
 have hb:=ko hn
 unfold On
 by_cases h:n<1
 .rw[if_pos h]
  go_enter func146,ntmps146
  go_wp2_with fail
  go_ret
  exact⟨rfl,rfl⟩
 .rw[if_neg h]
  go_enter func146,ntmps146
  go_wp2_with fail
  go_ret
  exact⟨rfl,rfl⟩
theorem zg (v:Value) (l:List (Int×Int)) (lo hi:Nat) (f s:Int) (w:World) (h:af w v l lo hi) (hl:l.length<=1000000) (hL:lies f s l=true) (hf:0<=f) (QG:s<=8192):
  am! 284 #[v] w fun e w'=>e=(NZ l:Int)/\w=w':=by
 obtain⟨p,c,rfl⟩:=h.shape
 have HL:=tK hL
 clear hL
 go_enter func284,ntmps284
 go_wp2_with fail
 go_loop [3,4] (fun a i=>∃k:Nat,k<=l.length/\i=(k:Int)/\a=(NZ (l.take k):Int)) (fun _ i=>l.length-(intOf i).toNat)
 case atStart=>exact⟨0,_a,rfl,by simp[NZ]⟩
 case round=>
  obtain⟨k,hk,rfl,rfl⟩:=hrel
  by_cases NV:k<l.length
  .obtain⟨b,off,rfl,c0,c1,hb,hlc,PT⟩:=h.at_ k NV
   have Qe:Hid (NZ (l.take (k+1))=NZ (l.take k)+l[k].2):=gH l k NV
   have XD:dP f s l k=true:=by
    cases hh:dP f s l k
    .have h2:=qN f s l k l.length _a hh
     rw[show dP f s l l.length=lies f s l from rfl,HL.out]at h2;cases h2
    .rfl
   have Tj:=oO (Nat.le_of_lt NV) XD hf QG
   have Pf:=dN.1 (fJ (MG _) HL.out k NV)
   have hks:(8192:Int)*k<=8192000000:=_a
   clear XD
   generalize l[k]=a at*
   generalize NZ (l.take k)=sm at*
   have⟨q1,q2,q3,q4⟩:=Pf
   go_wp2_with fail
   go_round
   case rel=>exact⟨k+1,_a,_j,by rw[Qe.out]⟩
   case measure=>simp[intOf];omega
  .obtain rfl:k=l.length:=_a
   have HS:Hid (NZ (l.take l.length)=NZ l):=by show _=_;rw[MU]
   generalize NZ (l.take l.length)=sm at*
   go_wp2_with fail
   go_ret
   rw[HS.out]
   exact⟨rfl,rfl⟩
theorem Hj (s:SB) (v:Value) (lo hi:Nat) (w:World) (h:af w v s.runs lo hi) (OF:¬s.dD) (hl:s.runs.length<=1000000):
  am! 249 #[.agg (s.cells v)] w fun e w'=>e=false/\NP [] w w':=by
 obtain⟨p,c,rfl⟩:=h.shape
 have hc:=s.ma
 have⟨sq,a,b,u,z,l⟩:=s
 simp only[SB.cells]at*
 rcases hc with⟨_,hc⟩|⟨hy,_⟩
 .clear h OF
  rcases hc with g1|⟨g1,g2⟩|⟨g1,g2,g3⟩|⟨⟨g1,g2,g3⟩,g4|⟨g4,g5⟩|⟨⟨g4,g5⟩,g6|⟨g6,g7⟩|⟨⟨g6,g7⟩,g8|⟨g8,g9⟩|⟨g8,g9,g10⟩⟩⟩⟩
  all_goals
   go_enter func249,ntmps249
   go_wp2_with fail
   go_ret
   exact⟨rfl,(NP.refl _ _).alloc _⟩
 .exact absurd hy OF
def lf (l:List (Int×Int)) (n size:Int) (w:World) (e:Ending) (w':World):Prop:=∃r,e=.returned (.bool r)/\(r=true↔dO l n size)/\NP [] w w'
theorem fC {n size:Int} {w w':World} (h:¬dO l n size) (k:NP [] w w'):lf l n size w (.returned false) w':=⟨false,rfl,⟨fun q=>(by cases q),fun q=>absurd q h⟩,k⟩
theorem qS {n size:Int} {w w':World} (h:dO l n size) (k:NP [] w w'):lf l n size w (.returned true) w':=⟨true,rfl,⟨fun _=>h,fun _=>rfl⟩,k⟩
theorem ads (h:A:=by
 go_wp2_with fail
 go_ret
 exact fC (fun hf=>by have:=HR.out.2 (HF.out.1 hf).2.2.1;cases this) k1):A:=h
theorem adz (h:A:=by
 go_wp2_with fail
 go_ret
 exact fC (fun hf=>by have:=HNI.out.1 (HF.out.1 hf).2.1;omega) (NP.refl _ _)):A:=h
theorem M93 {A:Prop}(h:A:=by
 have e2:decide (C=q)=false:=by simp[he]
 have HE:=tK he
 clear he
 go_wp2_with fail
 go_ret
 exact fC (fun hf=>HE.out (HF.out.1 hf).2.2.2) Wb):A:=h
theorem Mv (v:Value) (l:List (Int×Int)) (n size:Int) (lo hi:Nat) (w:World) (h:af w v l lo hi) (hl:l.length<=1000000) (Pj:∀a∈l,aQ a) (hn:(Lit.int .i64 n).wf=true) (hs:(Lit.int .i64 size).wf=true):
  am! 177 #[v,n,size] w (lf l n size w):=by
 have bn:=ko hn
 have bz:=ko hs
 obtain⟨m,hm⟩:∃m,min n 8192=m:=⟨_,rfl⟩
 have HM:∀W,NP [] w W->am! 178 #[v,(0:Int),m] W (ik 0 m l W):=fun W k=>I1 v l 0 m lo hi W (h.kept0 k) hl Pj _a _a _a _a
 have HC:∀W,NP [] w W->am! 65 #[v] W fun e w'=>e=(OV l:Int)/\NP [] W w':=fun W k=>BU v l lo hi W (h.kept0 k) hl Pj
 have HN:=fun W=>sP size W hs
 have hfx:dO l n size↔(0<=size/\l.length<=16/\dv 0 m l/\(OV l:Int)=On size):=by rw[<-hm];rfl
 have HF:=tK hfx
 obtain⟨p,c,rfl⟩:=h.shape
 obtain⟨N,hN⟩:∃N:Int,(l.length:Int)=N:=⟨_,rfl⟩
 have Y1:l.length<=16↔N<=16:=_a
 have HNI:=tK Y1
 obtain⟨C,hC⟩:∃C:Int,(OV l:Int)=C:=⟨_,rfl⟩
 rw[hC]at HF
 have HC':∀W,NP [] w W->am! 65 #[(p,l.length,c)] W fun e w'=>e=C/\NP [] W w':=by rw[<-hC];exact HC
 generalize On size=q at*
 clear HC hfx Y1 h hl Pj hn hs hC
 by_cases h1:0<=size
 .by_cases h2:N<=16
  .go_enter func177,ntmps177
   go_wp2_with fail
   refine(HM _ (NP.refl _ _)).mono ?_;rintro e w1 ⟨r,rfl,hr,k1⟩
   have HR:=tK hr
   clear hr
   cases r with
   |false=>
    exact ads
   |true=>
    go_wp2_with fail
    refine(HC' _ k1).mono ?_;rintro e w2 ⟨rfl,k2⟩
    have Wb:=k1.trans k2
    go_wp2_with fail
    refine(HN _).mono ?_;rintro e w3 ⟨rfl,rfl⟩
    by_cases he:C=q
    .have e1:(C==q)=true:=by simp[he]
     have e2:decide (C=q)=true:=by simp[he]
     have HE:=tK he
     clear he
     go_wp2_with fail
     go_ret
     exact qS (HF.out.2 ⟨h1,HNI.out.2 h2,HR.out.1 _b,HE.out⟩) Wb
    .have e1:(C==q)=false:=by simp[he]
     exact M93
  .go_enter func177,ntmps177
   exact adz
 .go_enter func177,ntmps177
  go_wp2_with fail
  go_ret
  exact fC (fun hf=>by have:=(HF.out.1 hf).1;omega) (NP.refl _ _)
theorem Mi (v:Value) (l:List (Int×Int)) (n size:Int) (lo hi:Nat) (w:World) (h:af w v l lo hi) (hl:l.length<=1000000) (Pj:∀a∈l,aQ a) (hn:(Lit.int .i64 n).wf=true) (hs:(Lit.int .i64 size).wf=true):
  am! 217 #[v,n,size] w (lf l n size w):=by
 have bn:=ko hn
 have bz:=ko hs
 obtain⟨m,hm⟩:∃m,min n 8192=m:=⟨_,rfl⟩
 have HM:∀W,NP [] w W->am! 262 #[v,(0:Int),m] W (ik 0 m l W):=fun W k=>IW v l 0 m lo hi W (h.kept0 k) hl Pj _a _a _a _a
 have HC:∀W,NP [] w W->am! 138 #[v] W fun e w'=>e=(OV l:Int)/\NP [] W w':=fun W k=>BO v l lo hi W (h.kept0 k) hl Pj
 have HN:=fun W=>Aw size W hs
 have hfx:dO l n size↔(0<=size/\l.length<=16/\dv 0 m l/\(OV l:Int)=On size):=by rw[<-hm];rfl
 have HF:=tK hfx
 obtain⟨p,c,rfl⟩:=h.shape
 obtain⟨N,hN⟩:∃N:Int,(l.length:Int)=N:=⟨_,rfl⟩
 have Y1:l.length<=16↔N<=16:=_a
 have HNI:=tK Y1
 obtain⟨C,hC⟩:∃C:Int,(OV l:Int)=C:=⟨_,rfl⟩
 rw[hC]at HF
 have HC':∀W,NP [] w W->am! 138 #[(p,l.length,c)] W fun e w'=>e=C/\NP [] W w':=by rw[<-hC];exact HC
 generalize On size=q at*
 clear HC hfx Y1 h hl Pj hn hs hC
 by_cases h1:size<0
 .go_enter func217,ntmps217
  go_wp2_with fail
  go_ret
  exact fC (fun hf=>by have:=(HF.out.1 hf).1;omega) (NP.refl _ _)
 .by_cases h2:16<N
  .go_enter func217,ntmps217
   exact adz
  .go_enter func217,ntmps217
   go_wp2_with fail
   refine(HM _ (NP.refl _ _)).mono ?_;rintro e w1 ⟨r,rfl,hr,k1⟩
   have HR:=tK hr
   clear hr
   cases r with
   |false=>
    exact ads
   |true=>
    go_wp2_with fail
    refine(HC' _ k1).mono ?_;rintro e w2 ⟨rfl,k2⟩
    have Wb:=k1.trans k2
    go_wp2_with fail
    refine(HN _).mono ?_;rintro e w3 ⟨rfl,rfl⟩
    by_cases he:C=q
    .have e1:(C==q)=true:=by simp[he]
     have e2:decide (C=q)=true:=by simp[he]
     have HE:=tK he
     clear he
     go_wp2_with fail
     go_ret
     exact qS (HF.out.2 ⟨_a,HNI.out.2 _a,HR.out.1 _b,HE.out⟩) Wb
    .have e1:(C==q)=false:=by simp[he]
     exact M93
theorem Bo {d:DK} {l:List (Int×Int)} {size:Int} (h:¬dO l d.stand.length size):N7 d l size=1:=if_neg h
theorem yN {d:DK} {l:List (Int×Int)} {size:Int} (h:dO l d.stand.length size):N7 d l size=if d.down=true then 90 else 0:=if_pos h
theorem vY {n:Nat} (h:n<=100000000):(Lit.int .i64 (n:Int)).wf=true:=by
 simp only[Lit.wf,No,decide_eq_true_eq]
 exact⟨by show(-9223372036854775808:Int)<=_;omega,by show _<=(9223372036854775807:Int);omega⟩
theorem DX {Inv:DK->World->Prop} {b:Nat} (hO:r7 Inv b) (d:DK) (v:Value) (l:List (Int×Int)) (size:Int) (lo hi:Nat) (w:World) (hI:Inv d w) (h:af w v l lo hi) (hl:l.length<=1000000) (Pj:∀a∈l,aQ a) (hs:(Lit.int .i64 size).wf=true):
  am! 104 #[b,v,size] w fun e w'=>e=(N7 d l size:Int)/\NP [] w w':=by
 have⟨n1,n2⟩:=hO.len hI
 have HL:∀W,NP [] w W->am! 36 #[b] W fun e w'=>e=(d.stand.length:Int)/\W=w':=fun W k=>hO.lenC (hO.keep hI k)
 have HD:∀W,NP [] w W->am! 61 #[b] W fun e w'=>e=.returned (.bool d.down)/\W=w':=fun W k=>hO.downC (hO.keep hI k)
 have HF:∀W,NP [] w W->am! 177 #[v,(d.stand.length:Int),size] W (lf l d.stand.length size W):=fun W k=>Mv v l _ size lo hi W (h.kept0 k) hl Pj (vY _a) hs
 have HG0:=tK (@Bo d l size)
 have HG1:=tK (@yN d l size)
 clear h hl Pj hs
 generalize N7 d l size=G at*
 obtain⟨N,hN⟩:∃N:Int,(d.stand.length:Int)=N:=⟨_,rfl⟩
 have hN1:1<=N:=_a
 have hN2:N<=8192:=_a
 rw[hN]at HL HF HG0 HG1
 clear hN n1 n2
 generalize d.down=D at*
 have k0:=NP.refl [] w
 go_enter func104,ntmps104
 go_wp2_with fail
 refine(HL _ k0).mono ?_;rintro e w1 ⟨rfl,rfl⟩
 go_wp2_with fail
 refine(HL _ k0).mono ?_;rintro e w1 ⟨rfl,rfl⟩
 go_wp2_with fail
 refine(HF _ k0).mono ?_;rintro e w1 ⟨r,rfl,hr,k1⟩
 have HR:=tK hr
 clear hr
 cases r with
 |false=>
  go_wp2_with fail
  go_ret
  exact⟨by rw[HG0.out (fun hf=>by have:=HR.out.2 hf;cases this)];rfl,k1⟩
 |true=>
  go_wp2_with fail
  refine(HD _ k1).mono ?_;rintro e w2 ⟨rfl,rfl⟩
  cases D with
  |false=>
   go_wp2_with fail
   go_ret
   exact⟨by rw[HG1.out (HR.out.1 _b)];rfl,k1⟩
  |true=>
   go_wp2_with fail
   go_ret
   exact⟨by rw[HG1.out (HR.out.1 _b)];rfl,k1⟩
open Classical in
noncomputable def eM (l:List (Int×Int)):List Nat:=if dv 0 8192 l then NY l else[]
theorem wB (h:dv 0 8192 l):(NY l).length<=8192:=by
 have h1:=vt h _a
 have h2:=uB h.1
 have h3:OV l<=8192:=by
  unfold OV
  have:∀f k,PM f k<=k:=fun f k=>by
   induction k with
   |zero=>exact MG _
   |succ k ih=>simp only[PM];split<;>omega
  exact this _ _
 omega
theorem lr (l:List (Int×Int)):(eM l).length<=8192:=by
 unfold eM
 split
 .rename_i h;exact wB h
 .exact Nb _
theorem uC (h:dv 0 8192 l):eM l=NY l:=if_pos h
theorem Eo (h:¬dv 0 8192 l):eM l=[]:=if_neg h
theorem oZ {n size:Int} (h:dO l n size):eM l=NY l:=uC ⟨fun a ha=>by
 have:=h.2.2.1.1 a ha
 unfold gQ at this ⊢
 omega,h.2.2.1.2⟩
theorem zG:∃i,prog.info? 3=some i/\i.zero=(0:Int)/\i.size=1/\i.bytes=8:=by
 have hi:(prog.info? 3).map (fun i=>(i.zero,i.size,i.bytes))=some (some (.int .i64 0),1,8):=_c
 exact Yh
def fv (l:List Nat):List Value:=l.map fun k=>((k:Nat):Int)
end
section
open Go.Proofs.Tryz Go.RowKit Go.Shelf
variable {w W w1:World} {v v':Value} {A:Prop} {n₀ B base size k:Nat} {t e:TypeId} {xs:List Value} {P:Program}
attribute [local go_sem] Oper.semAt_some
theorem af.wide {l:List (Int×Int)} {lo hi:Nat} (h:af w v l lo hi):af w v l 0 w:=by
 rcases h with h|⟨b,off,c,h1,h2,h3,h4,h5,h6,h7,h8⟩
 .exact Or.inl h
 .exact Or.inr ⟨b,off,c,h1,h2,Nb _,_a,MG _,h6,h7,h8⟩
theorem F7 (n:Nat) (l B1 B2:Nat) (J:List Nat->World->Prop) (W:World) (hB1:W.cell? B1=false) (h0:J [] W):
  CallsIn Fence.wide n prog 179 #[.func (.yield l) #[] #[],B1,B2] W fun e W'=>(∃v,e=.returned v)/\J [] W':=by
 refine callsIn_of_wp func179 rfl trivial ?_ rfl
 simp only[ntmps179,List.size_toArray,Nj,List.length_nil,Nat.reduceAdd,Nat.reduceSub,Array.replicate_succ,Array.replicate_zero,List.push_toArray,List.append_toArray,NI,List.cons_append]
 gi_wp2
 refine MN (results_none rfl _ _ _) rfl ?_
 exact⟨⟨_,rfl⟩,h0⟩
def tA (n n₀:Nat) (l:List (Int×Int)) (v:Value) (w:World):Prop:=
 ∃B1 B2:Nat,v=.func (.func 179) #[] #[B1,B2]/\
  SeqStopsK Fence.wide n prog 179 #[B1,B2] (fun k:Nat=>#[Value.int .i64 ((k:Nat):Int)]) (ml n₀) (fun xs=>xs=eM l) (fun pre=>pre <+: eM l) (eM l).length w
theorem Ee (n:Nat) (hn:1<=n) (n₀ B1 B2:Nat) (sv:Value) (l:List (Int×Int)) (hl:l.length<=1000000) (r:Bool) (hr:r=true↔dv 0 8192 l) (w:World) (h1:w.cell? B1=some (.bool r)) (l1:B1<w.heap.size)
  (h2:w.cell? B2=some sv) (l2:B2<w.heap.size) {lo hi:Nat} (hR:af w sv l lo hi) (WL:hi<=n₀) (Wx:n₀<=w.heap.size):
  tA n n₀ l (.func (.func 179) #[] #[B1,B2]) w:=by
 refine⟨B1,B2,rfl,fun lp J Jx W hW hJ hJx hY h0=>?_⟩
 have c1:=(hW.cell (p:=B1) l1).trans h1
 have c2:=(hW.cell (p:=B2) l2).trans h2
 cases r with
 |false=>
  have e:eM l=[]:=if_neg (fun h=>by have:=hr.2 h;cases this)
  exact(F7 n lp B1 B2 J W c1 h0).mono fun e' W' ⟨he,hj⟩=>⟨he,.inl ⟨[],e.symm,hj⟩⟩
 |true=>
  have hm:=hr.1 rfl
  have e:eM l=NY l:=if_pos hm
  rw[e]at hY ⊢
  exact F6 n hn lp B1 B2 n₀ lo hi sv l hm hl J Jx W hJ hY c1 c2 (hR.DW (hW.mono (MG _)) _a) WL (by have:=hW.size;omega) h0
theorem DY (n:Nat) (hn:1<=n) (n₀:Nat) (v:Value) (l:List (Int×Int)) (lo hi:Nat) (w:World) (h:af w v l lo hi) (hl:l.length<=1000000) (Pj:∀a∈l,aQ a) (WL:hi<=n₀) (Wx:n₀<=w.heap.size):
  am! 105 #[v] w fun e w'=>∃f,e=.returned f/\NP [] w w'/\tA n n₀ l f w':=by
 have hmf:∀(fn:Fn) (first cap:Array Value) (w:World),(Instr.makeFunc fn first cap).run prog w=.ok (.func fn first cap) w:=fun _ _ _ _=>rfl
 have HM:∀W,NP [] w W->am! 178 #[v,(0:Int),(8192:Int)] W (ik 0 8192 l W):=fun W k=>I1 v l 0 8192 lo hi W (h.kept0 k) hl Pj _a _a _a _a
 have HW:=tK h
 have k0:=(NP.refl [] w).alloc (.cells #[v] 56)
 have o0:=ae.new w #[v] 56
 obtain⟨p,c,rfl⟩:=h.shape
 clear h
 go_enter func105,ntmps105
 go_wp2_with fail
 refine(HM _ k0).mono ?_;rintro e w1 ⟨r,rfl,hr,k1⟩
 have HR:=tK hr
 clear hr
 have o1:=k1.own o0 _b
 have k01:=k0.trans k1
 go_wp2_with fail
 go_ret
 have HR':=HR.out
 have kA:=k01.alloc (.cells #[.bool r] 4)
 have oA:=ae.new w1 #[.bool r] 4
 have oB:ae (w1.alloc (.cells #[.bool r] 4)) w #[(p,l.length,c)] 56:=((NP.refl [] w1).alloc _).own o1 _b
 have sz:=kA.size
 exact⟨_,rfl,kA,Ee n hn n₀ w1 w _ l hl r HR' _ (Boxed.cell (t:=4) oA) oA.lt (Boxed.cell (t:=56) oB) oB.lt (HW.out.kept0 kA) WL (Nk Wx sz)⟩
attribute [local go_sem] Oper.semAt_some
theorem adC (h:A:=by
 subst e'
 rw[show W.heap[i]? =_ from hv]at hk
 injection hk with hk
 injection hk with _ ht'
 exact ht ht'):A:=h
theorem M65 (h:A:=by
 rcases NU.2 with⟨rfl,_⟩|⟨g,cap,cur,rfl,_,hgb,_⟩
 .simp[Value.ownBlock]
 .intro e'
  obtain rfl:i=g:=by simpa[Value.ownBlock]using e'
  rw[hgb]at hk
  injection hk with hk
  injection hk with _ he'
  exact he he'):A:=h
theorem Be {tmp:Obj} (hv:Boxed W B t v) (ht:t≠128) (NU:W.ownsRow base e size v k xs) (he:e≠128)
  (Pi:(W.alloc tmp).grownBy w1 v.ownBlock) (hb:Below n₀ W (w1.setCell B v')):ml n₀ W (w1.setCell B v'):=by
 refine⟨hb,fun i cs f hk=>?_⟩
 have NV:i<W.heap.size:=(Array.getElem?_eq_some_iff.1 hk).1
 have h1:i≠B:=fun e'=>by
  exact adC
 have h2:some i≠v.ownBlock:=by
  exact M65
 exact(Below.heap_setCell _ _ _ _ h1).trans ((Pi.block i _e h2).trans ((Below.heap_alloc _ _ _ NV).trans hk))
theorem Md {n:Nat} {fn:Func} {R:Ending->World->Prop} {tmps:Array Value} (hv:(results fn tmps).run P w=.ok v w) (h:R (.returned v) w):
  bodyPostM Fence.wide n P fn R .ret {tmps:=tmps,defers:=[]} w:=⟨v,hv,h⟩
theorem sF {n:Nat} {P:Program} {fn:Func} {R:Ending->World->Prop} {tmps:Array Value} {w:World} {v:Value} {D:Nat} (hK:w.heap[D]? =some (.deferred (some []))) (hv:(results fn tmps).run P (w.putObj D (.deferred none))=.ok v (w.putObj D (.deferred none))) (h:R (.returned v) (w.putObj D (.deferred none))):
  bodyPostM Fence.wide n P fn R .ret {tmps:=tmps,defers:=[{target:=.collected D,args:=#[]}]} w:=⟨_b,.inl ⟨_,_,rfl,run_takeDeferred hK,v,hv,h⟩⟩
theorem iI (w:World) (D:Nat) (o:Obj):NP [D] w (w.putObj D o):=
 (NP.refl [D] w).grown (grownBy_putObj' w D o) (fun k hk=>by injection hk with hk;exact Or.inl (by simp[hk]))
theorem nL {w2:World} (k:NP [] w w2) (h:Below B w2 W) (hB:w.heap.size<=B):NP [] w W:=
 ⟨h.os.trans k.os,h.tape.trans k.tape,h.output.trans k.output,Nk k.size h.size,fun j hj _=>(h.block j _a).trans (k.block j hj _b)⟩
theorem wF (h:W.ownsRow base e size v k xs) (hk:0<k):∃g cap,v=.slice (some ⟨g,0,none⟩) k cap:=by
 rcases h.2 with⟨_,h0⟩|⟨g,cap,_,rfl,_⟩
 .omega
 .exact⟨g,cap,rfl⟩
theorem nY (g k:Nat):(g:Addr).add k=(aa g k):=by
 unfold Addr.add
 by_cases h:k=0
 .subst h;rfl
 .simp[h]
theorem sn (a b:List UInt8):Lib.strCells (bs (a++b))=Lib.strCells (bs a)++Lib.strCells (bs b):=by simp[Lib.strCells,bs]
theorem kj {F:Fence} {n':Nat} {ops:Array Oper} {rest:List Oper} {o:Oper} {a:Act} {Q:Exit->Act->World->Prop} (w:World) (hgd:o.guard=none) (sl x:Operand) (t u:TypeId)
  (ho:o.op=.call {callee:=.builtin .append,args:=#[sl,x],argTypes:=#[t,u]})
  (base:Nat) (e:TypeId) (i:TypeInfo) (ht:P.underlying t=some (.slice e)) (hu:P.underlying u=some .string) (hi:P.info? e=some i) (hz:i.zero=some (.int .u8 0))
  (QW:i.size=1) (XN:i.bytes=1)
  (v:Value) (n:Nat) (xs:List Value) (hs:a.eval sl=v) (Ot:w.ownsRow base e 1 v n xs) (s:ByteArray) (hx:a.eval x=.string s)
  (h63:n+s.size<=maxLen) (Qs:n+s.size<=140737488355328) (Rk:base<=w.heap.size)
  (h:∀v' w',w'.ownsRow base e 1 v' (n+s.size) (xs++Lib.strCells s)->w.grownBy w' v.ownBlock->(v'=.slice none 0 0↔v=.slice none 0 0/\s.size=0)->wpListIn F n' P ops Q rest (a.put o.dst v') w'):wpListIn F n' P ops Q (o::rest) a w:=by
 refine wpListIn_plain hgd fun K hK=>?_
 have⟨v',w',hr,h2,h3,h4⟩:=Lib.run_append_own_string (P:=P) w base t u o.type e i ht hu hi hz QW XN v n xs Ot s h63 Qs Rk
 unfold Oper.wpIn
 refine⟨?_,?_⟩
 .simp[Oper.about,ho,resolve,Target.leads,Sem.run_pure]
 .rw[Oper.semAt_plain F _ _ (by rw[ho];intro c hc';cases hc')]
  simp[execOp,ho,resolve,invoke,builtin,hs,hx,hr,Result.andThen]
  exact hK _ _ (h v' w' h2 h3 h4)
theorem Boxed.D0 {m:Nat} {ys:List Value}
  (hv:Boxed W B t v) (hte:t≠e) (NU:W.ownsRow n₀ e size v k xs) (hn₀:n₀<=W.heap.size) (hB:n₀<=B)
  (Rj:w1.ownsRow n₀ e size v' m ys) (Pi:W.grownBy w1 v.ownBlock):
  Boxed w1 B t v/\Boxed (w1.setCell B v') B t v'/\(w1.setCell B v').ownsRow n₀ e size v' m ys/\KeepsOthers W (w1.setCell B v')/\Below n₀ W (w1.setCell B v'):=by
 have Ve:Boxed w1 B t v:=hv.kept Pi (hv.not_row hte NU)
 refine⟨Ve,Ve.set v',Rj.kept (grownBy_setCell' w1 B v') (.inr (Ve.not_row hte Rj).symm),?_,?_⟩
 .refine(KeepsOthers.of_grownBy Pi fun j o ej hj=>?_).trans (KeepsOthers.setCell _ _ _)
  rcases NU.2 with⟨rfl,_⟩|⟨g,cap,cur,rfl,_,hgb,_⟩
  .simp[Value.ownBlock]at ej
  .obtain rfl:g=j:=by simpa[Value.ownBlock]using ej
   rw[hgb]at hj;cases hj;rfl
 .refine((Below.refl n₀ W).grown Pi hn₀ fun j ej=>?_).setCell (p:=B) hB v'
  rcases NU.2 with⟨rfl,_⟩|⟨g,cap,cur,rfl,hb,_,_⟩
  .simp[Value.ownBlock]at ej
  .obtain rfl:g=j:=by simpa[Value.ownBlock]using ej
   exact hb
theorem yI (hv:Boxed W B t v) (ht:t≠128) (NU:W.ownsRow base e size v k xs) (he:e≠128)
  (Pi:W.grownBy w1 v.ownBlock) (hb:Below n₀ W (w1.setCell B v')):ml n₀ W (w1.setCell B v'):=by
 refine⟨hb,fun i cs f hk=>?_⟩
 have NV:i<W.heap.size:=(Array.getElem?_eq_some_iff.1 hk).1
 have h1:i≠B:=fun e'=>by
  exact adC
 have h2:some i≠v.ownBlock:=by
  exact M65
 exact(Below.heap_setCell _ _ _ _ h1).trans ((Pi.block i NV h2).trans hk)
end
open Go.Proofs.Tryz Go.RowKit
variable {lim:Nat} {w w':World}
def bF (lim:Nat) (w w':World):Prop:=
 w.heap.size<=w'.heap.size/\∀g o,lim<=g->w.heap[g]? =some o->(∀cs f,o≠.cells cs 206 f)->w'.heap[g]? =some o
theorem bF.trans {a b c:World} (h:bF lim a b) (k:bF lim b c):bF lim a c:=
 ⟨Nk h.1 k.1,fun g o hg ho ht=>k.2 g o hg (h.2 g o hg ho ht) ht⟩
theorem NP.j9 (k:NP [] w w') (lim:Nat):bF lim w w':=⟨k.size,fun g o _ ho _=>by
 rw[k.block g (Array.getElem?_eq_some_iff.1 ho).1 _b];exact ho⟩
theorem vR.j9 {b sb mb lo r:Nat} (k:vR b sb mb lo r w w') (h1:b<lim) (h2:sb<lim) (h3:mb<lim) (h4:r<lim):bF lim w w':=
 ⟨k.2.2.2.1,fun g o hg ho ht=>by
  have NV:=(Array.getElem?_eq_some_iff.1 ho).1
  rw[k.2.2.2.2 g NV _a _a _a _a (Or.inr (fun cs f hc=>by
   rw[ho]at hc
   injection hc with hc
   exact ht cs f hc))]
  exact ho⟩
theorem bF.own {g:Nat} {cs:Array Value} {t:TypeId} (k:bF lim w w') (o:ae w g cs t) (hg:lim<=g) (ht:t≠206):ae w' g cs t:=
 k.2 g _ hg o (fun TL f e=>by injection e with _ e;exact ht e)
theorem bF.row {base:Nat} {e:TypeId} {size:Nat} {v:Value} {n:Nat} {xs:List Value} (k:bF lim w w') (h:w.ownsRow base e size v n xs) (hb:lim<=base) (ht:e≠206):w'.ownsRow base e size v n xs:=
 dG h (fun g cs hg hc=>by
  have:=k.2 g _ _a hc (fun TL f e'=>by injection e' with _ e';exact ht e')
  rw[this,hc])
theorem bF.obj {D:Nat} {o:Obj} (k:bF lim w w') (h:w.heap[D]? =some o) (hD:lim<=D) (ho:∀cs t f,o≠.cells cs t f):w'.heap[D]? =some o:=
 k.2 D o hD h (fun cs f=>ho cs _ f)
theorem aD.putD {w w':World} {D b sb mb dlo:Nat} {x:Option (List Deferred)} {e:DK} (hD:aD w b sb mb dlo e) (ho:w.heap[D]? =some (.deferred x)) (k:NP [D] w w'):aD w' b sb mb dlo e:=by
 have⟨wv2,n,ob,os,hw,hm,hn,g2,g3,g4,g5,g6,g7⟩:=hD
 have ne:∀g cs t,w.heap[g]? =some (.cells cs t (0,0))->g∉[D]:=by
  intro g cs t hc hx
  have hx:g=D:=_h
  subst hx
  rw[ho]at hc
  cases hc
 refine⟨wv2,n,k.own ob (ne b _ _ ob),k.own os (ne sb _ _ os),cF hw k (fun g hg _ cs hc=>ne g _ _ hc hg),hm.kept k ?_,hn,g2,g3,g4,g5,Nk g6 k.size,g7⟩
 intro hx
 have hx:mb=D:=_h
 subst hx
 obtain⟨D,⟨es,clock,hh,_⟩,_⟩:=hm
 rw[hh]at ho
 cases ho
structure om (Inv:DK->World->Prop) (b lim:Nat):Prop where
 ops:r7 Inv b
 writeB:∀{d w} (i:Int) (s:List UInt8),Inv d w->d.ops<100000->d.waits.length<=10000->am! 88 #[b,i,s] w fun e w'=>e=(OW d i s:Int)/\Inv (OJ d i s) w'/\bF lim w w'
 putD:∀{d w w' D x},Inv d w->w.heap[D]? =some (.deferred x)->NP [D] w w'->lim<=D->Inv d w'
structure GP (Inv:DK->World->Prop) (r lim:Nat):Prop where
 ops:Gp Inv r
 stands:∀{d w},Inv d w->∃p c,w.cell? r=some (.slice p d.stand.length c)
 writeB:∀{d w} (i:Int) (s:List UInt8),Inv d w->d.ops<100000->d.waits.length<20000->am! 140 #[r,i,s] w fun e w'=>e=(OW d i s:Int)/\Inv (OJ d i s) w'/\bF lim w w'

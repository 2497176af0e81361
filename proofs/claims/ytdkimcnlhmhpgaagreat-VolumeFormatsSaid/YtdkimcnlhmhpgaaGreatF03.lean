/- -/
import Derived.Test.YtdkimcnlhmhpgaaGreatF02
import Derived.Lib.AppendZerosOnto
set_option maxHeartbeats 32000000
set_option maxRecDepth 100000
namespace Go.Proofs.YtdkimcnlhmhpgaaGreat
section
open Go.Proofs.Tryz Go.RowKit
variable {a:Int} {l:List (Int×Int)} {w:World} {g b:Nat} {x0 x1 x2 x3 x4 x5:Value} {t:TypeId}
theorem MS:type_of% @decide_eq_false:=@decide_eq_false
def jq (l:List (Int×Int)) (j:Int):Int:=(l.map fun r=>max 0 (min r.2 (j-r.1))).sum
theorem BC (a b j):jq (a++b) j=jq a j+jq b j:=by unfold jq;rw[M0,List.sum_append]
theorem lM (r:Int×Int) (t j):jq (r::t) j=max 0 (min r.2 (j-r.1))+jq t j:=by unfold jq;rw[List.map_cons,List.sum_cons]
theorem IF (j):jq [] j=0:=rfl
theorem Gi (h:Pl a l) (j) (hj:j<=a):jq l j=0:=by
 induction l generalizing a with
 |nil=>rfl
 |cons r t ih=>
  have⟨h1,h2,h3,h4⟩:=h
  rw[lM,ih h4 a?];omega
theorem IH (j) (h:∀x∈l,1<=x.2/\x.1+x.2<=j):jq l j=NZ l:=by
 induction l with
 |nil=>rfl
 |cons r t ih=>
  have h1:=h r MY
  have e:NZ (r::t)=r.2+NZ t:=by simp[NZ]
  rw[lM,ih (fun x hx=>h x (Nz _ hx)),e];omega
theorem Gj (h:Pl a l) (m:Nat):jq l ((m:Int)+1)=jq l m+if OE l m=true then 1 else 0:=by
 induction l generalizing a with
 |nil=>simp[jq,OE]
 |cons r t ih=>
  have⟨h1,h2,h3,h4⟩:=h
  rw[lM,lM,ih h4]
  have e:OE (r::t) m=((decide (r.1<=m)&&decide ((m:Int)<r.1+r.2))||OE t m):=by simp[OE]
  rw[e]
  by_cases P7:r.1<=m/\(m:Int)<r.1+r.2
  .have ht:OE t m=false:=by
    cases hx:OE t m
    .rfl
    .have:=(h4.ge (dr.1 hx)).1;omega
   rw[ht,MV P7.1,MV P7.2]
   simp
   omega
  .have e2:(decide (r.1<=m)&&decide ((m:Int)<r.1+r.2))=false:=e?
   rw[e2,Bool.false_or]
   have:max 0 (min r.2 ((m:Int)+1-r.1))=max 0 (min r.2 ((m:Int)-r.1)):=a?
   rw[this];omega
theorem IG (f:Nat->Bool) (m:Nat) (hm:m<=8192):jq (eh f) m=PM f m:=by
 induction m with
 |zero=>rw[Gi (dV f) _ a?];rfl
 |succ m ih=>
  have:=Gj (dV f) m
  rw[jZ f m a?]at this
  rw[show((m+1:Nat):Int)=(m:Int)+1 by omega,this,ih a?,PM]
  split<;>omega
def qt (s:List (Int×Int)×Int) (r:Int×Int):List (Int×Int)×Int:=if s.2=0 then s else(s.1++[(r.1,min r.2 s.2)],s.2-min r.2 s.2)
def PO (p:List (Int×Int)) (n:Int) (k:Nat):List (Int×Int)×Int:=(p.take k).foldl qt ([],n)
theorem kM (p n k) (h:k<p.length):PO p n (k+1)=qt (PO p n k) p[k]:=by
 unfold PO;rw[MI h,List.foldl_append];rfl
theorem A8 (p n k) (hk:k<=p.length) (h:(PO p n k).2=0) (j) (hj:k<=j) (ZO:j<=p.length):PO p n j=PO p n k:=by
 induction j with
 |zero=>
   obtain rfl:k=0:=a?
   rfl
 |succ j ih=>
  by_cases e:k=j+1
  .rw[e]
  .have h2:=ih a? a?
   rw[kM p n j a?,h2]
   unfold qt
   rw[if_pos h]
structure LV (p:List (Int×Int)) (n:Int) (k:Nat):Prop where
 pl:Pl 0 (PO p n k).1
 is:∀j,bZ (PO p n k).1 j↔bZ (p.take k) j/\jq (p.take k) j<n
 rem:(PO p n k).2=max 0 (n-NZ (p.take k))
 low:∀x∈(PO p n k).1,∃y∈p.take k,x.1=y.1/\x.2<=y.2
theorem Db {p} (hp:Pl 0 p) (n) (hn:0<=n) (k) (hk:k<=p.length):LV p n k:=by
 induction k with
 |zero=>exact⟨trivial,fun j=>⟨fun h=>absurd h (dU j),fun h=>absurd h.1 (dU j)⟩,by show n=max 0 (n-0);omega,fun x hx=>by cases hx⟩
 |succ k ih=>
  have⟨h1,h2,h3,h4⟩:=ih a?
  have NV:k<p.length:=a?
  have⟨p1,p2,p3⟩:=kJ hp NV
  have PF:p.take (k+1)=p.take k++[p[k]]:=MI NV
  have Yj:=hp.take (k+1)
  rw[PF]at Yj
  have⟨g1,_,_,_,g5⟩:=Yj.init
  have P9:=fun j (hj:p[k].1<=j)=>IH j (fun x hx=>⟨(g1.mem hx).2.1,by have:=g5 x hx;omega⟩)
  have acN:∀j,jq (p.take (k+1)) j=jq (p.take k) j+max 0 (min p[k].2 (j-p[k].1)):=fun j=>by rw[PF,BC,lM,IF];omega
  have P7:∀j,bZ (p.take (k+1)) j↔bZ (p.take k) j\/(p[k].1<=j/\j<p[k].1+p[k].2):=fun j=>by rw[PF,cA,eW]
  have TJ:∀j,bZ (p.take k) j->j<p[k].1:=fun j ⟨x,hx,_,UT⟩=>by have:=g5 x hx;omega
  have Qe:NZ (p.take (k+1))=NZ (p.take k)+p[k].2:=gH p k NV
  have hs:=kM p n k NV
  unfold qt at hs
  by_cases h0:(PO p n k).2=0
  .rw[if_pos h0]at hs
   refine⟨by rw[hs];exact h1,fun j=>?_,by rw[hs,h3,Qe];omega,fun x hx=>?_⟩
   .rw[hs,h2,P7,acN]
    constructor
    .rintro⟨a,b⟩
     have:=TJ j a
     exact⟨Or.inl a,a?⟩
    .rintro⟨a|a,b⟩
     .have:=TJ j a
      exact⟨a,a?⟩
     .have:=P9 j a.1;omega
   .rw[hs]at hx
    have⟨y,hy,e⟩:=h4 x hx
    exact⟨y,by rw[PF];exact List.mem_append_left _ hy,e⟩
  .rw[if_neg h0]at hs
   generalize (PO p n k).2=m at*
   generalize (PO p n k).1=o at*
   refine⟨?_,fun j=>?_,?_,fun x hx=>?_⟩
   .rw[hs]
    refine h1.snoc p1 (by show 1<=min p[k].2 m;omega) (by show p[k].1+min p[k].2 m<=8192;omega) (fun x hx=>?_)
    have⟨y,hy,e1,e2⟩:=h4 x hx
    have:=g5 y hy
    show x.1+x.2+1<=p[k].1
    omega
   .rw[hs]
    show bZ (o++[(p[k].1,min p[k].2 m)]) j↔_
    rw[cA,eW,h2,P7,acN]
    constructor
    .rintro(⟨a,b⟩|⟨a,b⟩)
     .have:=TJ j a
      exact⟨Or.inl a,a?⟩
     .have a:p[k].1<=j:=a
      have b:j<p[k].1+min p[k].2 m:=b
      have:=P9 j a
      exact⟨Or.inr ⟨a,a?⟩,a?⟩
    .rintro⟨a|a,b⟩
     .have:=TJ j a
      exact Or.inl ⟨a,a?⟩
     .have:=P9 j a.1
      refine Or.inr ⟨a.1,?_⟩
      show j<p[k].1+min p[k].2 m
      omega
   .rw[hs,Qe]
    show m-min p[k].2 m=_
    omega
   .rw[hs]at hx
    rcases Na.1 hx with hx|hx
    .have⟨y,hy,e⟩:=h4 x hx
     exact⟨y,by rw[PF];exact List.mem_append_left _ hy,e⟩
    .have hx:x=(p[k].1,min p[k].2 m):=h?
     subst hx
     exact⟨p[k],by rw[PF];exact List.mem_append_right _ (Nm.2 rfl),rfl,by show min p[k].2 m<=p[k].2;omega⟩
def A9 (l:List (Int×Int)) (n:Int) (m:Nat):Bool:=OE l m&&decide ((PM (OE l) m:Int)<n)
def Om (l:List (Int×Int)) (n:Int):List (Int×Int):=eh (A9 l n)
theorem Dc (l n) (hn:0<=n):(PO (OO l) n (OO l).length).1=Om l n/\(PO (OO l) n (OO l).length).2=max 0 (n-OV l):=by
 have h:=Db (dV (OE l)) n hn (OO l).length (MG _)
 constructor
 .refine lL h.pl (fun m hm=>?_)
  have h2:=h.is m
  rw[show(eh (OE l)).take (OO l).length=eh (OE l)from MU]at h2
  rw[show OO l=eh (OE l)from rfl]at*
  rw[h2,IG _ m a?,<-dr,jZ _ m hm]
  unfold A9
  simp
 .have h3:=h.rem
  rw[show(eh (OE l)).take (OO l).length=eh (OE l)from MU,vA]at h3
  exact h3
theorem Dd (p n k):(PO p n k).1.length<=k:=by
 induction k with
 |zero=>exact MG _
 |succ k ih=>
  by_cases h:k<p.length
  .rw[kM p n k h]
   unfold qt
   split
   .omega
   .show(_++[_]).length<=_
    rw[tN,Nq];omega
  .have e:PO p n (k+1)=PO p n k:=by unfold PO;rw[Nh a?,Nh a?]
   rw[e];omega
def OT (l:List (Int×Int)) (n:Int):Int:=if n<0 then 1 else if(OV l:Int)<n\/16<(Om l n).length then 100 else 0
def QF (l:List (Int×Int)) (n:Int):List (Int×Int):=if OT l n=0 then Om l n else[]
def qz (l:List (Int×Int)) (n:Int) (w:World) (e:Ending) (w':World):Prop:=
 ∃v,e=.returned (.tuple #[v,(OT l n:Int)])/\w'.ownsRow w 128 2 v (QF l n).length (NW (QF l n))/\NP [] w w'
theorem Ig {n} (h:n<0):OT l n=1/\QF l n=[]:=by
 have e:OT l n=1:=by unfold OT;rw[if_pos h]
 exact⟨e,by unfold QF;rw[e,if_neg a?]⟩
theorem FE {n} (h:0<=n) (hf:(OV l:Int)<n\/16<(Om l n).length):OT l n=100/\QF l n=[]:=by
 have e:OT l n=100:=by unfold OT;rw[if_neg a?,if_pos hf]
 exact⟨e,by unfold QF;rw[e,if_neg a?]⟩
theorem zA {n:Int} (h:0<=n) (h1:n<=OV l) (h2:(Om l n).length<=16):OT l n=0/\QF l n=Om l n:=by
 have e:OT l n=0:=by unfold OT;rw[if_neg a?,if_neg a?]
 exact⟨e,by unfold QF;rw[if_pos e]⟩
theorem M83 {A:Prop}(h:A:=by
 go_wp2_with fail
 refine MN (v:=.tuple #[(),(100:Int)]) ?_ ?_ ?_
 .kernel_rfl
 .rfl
 .exact⟨_,by rw[E1.out],by rw[E2.out];exact Nf _ _ _ _,hKK⟩):A:=h
theorem GZ (v l) (n:Int) (lo hi:Nat) (w) (h:af w v l lo hi) (hl:l.length<=1000000) (Pj:∀a∈l,aQ a) (QX: -9223372036854775808<=n) (QU:n<=9223372036854775807):
  am! 53 #[v,n] w (qz l n w):=by
 have hp:=oK v l lo hi w h hl Pj
 obtain⟨p,c,rfl⟩:=h.shape
 by_cases YH:n<0
 .have⟨e1,e2⟩:=Ig (l:=l) YH
  unfold qz
  rw[e1,e2]
  clear hp h Pj e1 e2
  go_enter func53,ntmps53
  go_wp2_with fail
  refine MN (v:=.tuple #[(),(1:Int)]) ?_ ?_ ?_
  .kernel_rfl
  .rfl
  .exact⟨_,rfl,Nf _ _ _ _,NP.refl _ _⟩
 .have Wx:0<=n:=a?
  have⟨i0,q0,q1,q2,q3⟩:=eV
  have Rq:Pl 0 (OO l):=dV _
  have⟨hf1,hf2⟩:=Dc l n Wx
  have R9:=FE (l:=l) (n:=n) Wx
  have acQ:=zA (l:=l) (n:=n) Wx
  have hlen:=Rq.gX
  have YX:(Om l n).length<=8192:=by
   have:Pl 0 (Om l n):=dV _
   have:=this.gX
   omega
  unfold bh at hp
  unfold qz
  have⟨HP,Rf,HF1,HF2,HFU,QH⟩:=gj! hp Rq hf1 hf2 R9 acQ
  clear hp h Pj Rq hf1 hf2 R9 acQ hl
  generalize OO l=x at*
  generalize Om l n=L at*
  generalize OT l n=C at*
  generalize QF l n=R at*
  generalize OV l=cn at*
  generalize l.length=ll at*
  go_enter func53,ntmps53
  go_wp2_with fail
  refine HP.out.mono ?_;rintro e w1 ⟨v1,rfl,r1,k1⟩
  obtain⟨px,cx,rfl⟩:=ah r1
  have HX:=tK (af.bB r1)
  have RH:=k1.size
  clear r1
  go_upto_block 0 with fail
  go_cut [1,6] (fun m o wx=>m=(max 0 (n-cn):Int)/\wx.ownsRow w1 128 2 o L.length (NW L)/\NP [] w1 wx)
  case first=>
   go_wp2_with fail
   go_loopw [1,6,14] (fun m o i wr=>∃k:Nat,k<=x.length/\i=(k:Int)/\m=.int .i64 (PO x n k).2/\wr.ownsRow w1 128 2 o (PO x n k).1.length (NW (PO x n k).1)/\NP [] w1 wr) (fun _ _ i _=>x.length-(intOf i).toNat)
   case atStart=>exact⟨0,a?,rfl,rfl,Nf _ _ _ _,NP.refl _ _⟩
   case round=>
    obtain⟨k,hk,rfl,rfl,NU,hK⟩:=hrel
    have YJ:=(Db Rf.out n Wx k hk).rem
    have Qe:=((Rf.out.take k).sum a?).1
    have aal:=Dd x n k
    have Uv:=fun h=>A8 x n k hk h x.length hk (MG _)
    have Ox:=fun NV=>kM x n k NV
    obtain⟨O,m,hOm⟩:∃O m,PO x n k=(O,m):=⟨_,_,rfl⟩
    rw[hOm]at NU YJ aal Uv Ox ⊢
    unfold qt at Ox
    simp only at NU YJ aal Uv Ox ⊢
    have HOM:=tK hOm
    clear hOm
    obtain⟨po,co,rfl⟩:=ah NU
    by_cases NV:k<x.length
    .have i1:(k:Int)<x.length:=a?
     obtain⟨b,off,rfl,c0,c1,hb,hlc,PT⟩:=(HX.out.kept0 hK).at_ k NV
     have Oo:=Ox NV
     have⟨y1,y2,y3⟩:=kJ Rf.out NV
     by_cases hm0:m=0
     .have h1:=HF1.out
      have h2:=HF2.out
      rw[Uv hm0]at h1 h2
      simp only at h1 h2
      subst hm0
      have⟨Pm,H1,H2⟩:=gg! NU h1 h2
      clear NU h1 h2 Uv Ox YJ Oo
      go_wp2_with fail
      go_meet
      exact⟨by rw[<-H2.out],by rw[<-H1.out];exact MH Pm.out _,hK.alloc _⟩
     .rw[if_neg hm0]at Oo
      have r3:O.length+1<=maxLen:=m?
      have r4:(O.length+1)*16<=140737488355328:=a?
      have⟨OY,Of⟩:=f? Oo NV
      have Ty:0<m:=a?
      have QL:m<=n:=a?
      have hKs:=hK.size
      clear Oo
      generalize x[k].1=X0 at*
      generalize x[k].2=Xn at*
      obtain⟨r,hr⟩:∃r,min Xn m=r:=⟨_,rfl⟩
      have Tm:1<=r/\r<=m/\r<=Xn:=a?
      have⟨Tm,Th,UC⟩:=Tm
      clear Uv Ox YJ
      go_wp2_with (at_builtin;go_must (refine MT _ rfl (.tmp 29) (.tmp 31) 56 rfl w1 128 i0 (.agg #[(0:Int),(0:Int)]) 2 16 underlying56 q0 q1 q2 q3 rfl d? _ _ _ rfl (MH (MH NU _) _) (aa (wr+1) 0) 1 1 [.int .i64 X0,.int .i64 r] rfl rfl ?_ ?_ r3 r4 ?_ ?_))
      .have RG:((wr.alloc (.cells #[X0,r] 128)).alloc (.cells #[X0,r] 128)).heap[wr.heap.size+1]? =some (.cells #[X0,r] 128 (0,0)):=by
        have:=Ns (wr.alloc (.cells #[X0,r] 128)) (.cells #[X0,r] 128)
        rw[Nd]at this
        exact this
       exact World.news_of_block RG
      .intro u hu;simp at hu;rcases hu with rfl|rfl<;>rfl
      .simp;omega
      intro v6 w6 o6 Po _ _
      have k6:NP [] w1 w6:=((hK.alloc _).alloc _).grown Po (fun g hg=>Or.inr (ML NU g hg).1)
      have Q9:=OY.out
      rw[hr]at Q9
      have Xg:=tK Q9
      rw[show NW O++[.int .i64 X0,.int .i64 r]=NW (O++[(X0,r)])from(bP O (X0,r)).symm]at o6
      have Vn:=tK o6
      have HLE:(O++[(X0,r)]).length=O.length+1:=b?
      clear Po NU o6 Q9
      go_wp2_with fail
      go_roundw
      case rel=>exact⟨k+1,Of.out,j?,by rw[Xg.out],by rw[Xg.out];simp only[HLE];exact Vn.out,k6⟩
      case measure=>(have hh:=Of.out;simp[intOf];omega)
    .obtain rfl:k=x.length:=a?
     have h1:=HF1.out
     have h2:=HF2.out
     rw[HOM.out]at h1 h2
     simp only at h1 h2
     have⟨Pm,H1,H2⟩:=gg! NU h1 h2
     clear NU h1 h2 Uv Ox YJ
     go_wp2_with fail
     go_meet
     exact⟨by rw[H2.out],by rw[<-H1.out];exact Pm.out,hK⟩
  case rest=>
   obtain⟨rfl,NU,hK⟩:=hcut
   obtain⟨po,co,rfl⟩:=ah NU
   have hKK:=k1.trans hK
   have P0:=aF NU k1.size
   have Up:=tK P0
   clear NU P0
   obtain⟨M,hM⟩:∃M:Int,max 0 (n-cn)=M:=⟨_,rfl⟩
   rw[hM]
   have hM0:0<=M:=a?
   by_cases Xr:(cn:Int)<n\/16<L.length
   .have⟨e1,e2⟩:=HFU.out Xr
    have⟨E1,E2⟩:=f? e1 e2
    clear e1 e2
    rcases(by omega:0<M\/(M=0/\16<L.length))with g1|⟨rfl,g1⟩
    .clear hM Xr
     exact M83
    .clear hM Xr
     have g2:(16:Int)<L.length:=a?
     exact M83
   .have⟨e1,e2⟩:=QH.out a? a?
    have⟨E1,E2⟩:=f? e1 e2
    obtain rfl:M=0:=a?
    have g2:(L.length:Int)<=16:=a?
    clear hM Xr e1 e2
    go_wp2_with fail
    refine MN (v:=.tuple #[(po,L.length,co),(0:Int)]) ?_ ?_ ?_
    .kernel_rfl
    .rfl
    .exact⟨_,by rw[E1.out],by rw[E2.out];exact Up.out,hKK⟩
theorem uD (w:World) (x n:Int):af (w.alloc (.cells #[x,n] 128)) (.slice (some w) 1 1) [(x,n)] w (w.heap.size+1):=by
 have hc:=(ae.new w #[x,n] 128)
 refine Or.inr ⟨w.heap.size,0,1,rfl,fun i hi=>?_,MG _,Nat.lt_succ_self _,b?,b?,MG _,by unfold maxLen;omega⟩
 obtain rfl:i=0:=D?
 simp
theorem gM {P:Program} (base) (t ty e:TypeId) (i:TypeInfo) (size) (ht:P.underlying t=some (.slice e)) (hi:P.info? e=some i) (v n c xs) (Ot:w.ownsRow base e size v n xs):
  (Builtin.append_ #[t,t] ty #[v,.slice none 0 c]).run P w=.ok v w:=by
 rcases Ot.2 with⟨rfl,rfl⟩|⟨g,cap,cur,rfl,_,_,SR,_⟩
 .simp[Builtin.append_,run_underlying ht,sizeOf,typeInfo,hi,Builtin.lenOf,Builtin.firstCells]
 .simp[Builtin.append_,run_underlying ht,sizeOf,typeInfo,hi,Builtin.lenOf,Builtin.firstCells,SR,storeCells]
theorem gR {ops rest} {o:Oper} {a} {Q:Exit->Act->World->Prop} (hgd:o.guard=none) (s x:Operand) (ho:o.op=.call {callee:=.builtin .append,args:=#[s,x],argTypes:=#[56,56]}) (base v n xs) (hs:a.eval s=v) (Ot:w.ownsRow base 128 2 v n xs) (u l lo hi) (hx:a.eval x=u) (P4:af w u l lo hi) (h63:n+l.length<=maxLen) (Qs:(n+l.length)*16<=140737488355328) (Rk:base<=w.heap.size) (h:∀v' w',w'.ownsRow base 128 2 v' (n+l.length) (xs++NW l)->w.grownBy w' v.ownBlock->wpList prog ops Q rest (a.put o.dst v') w'):
  wpList prog ops Q (o::rest) a w:=by
 have⟨i0,q0,q1,q2,q3⟩:=eV
 obtain⟨p,c,rfl⟩:=P4.shape
 cases p with
 |none=>
  have WU:l=[]:=by
   rcases P4 with⟨h,_⟩|⟨b,off,c',e,_⟩
   .exact h
   .simp at e
  subst WU
  refine wpList_plain hgd fun K hK=>?_
  have Oe:=gM (P:=prog) (w:=w) base 56 o.type 128 i0 2 underlying56 q0 v n c xs Ot
  have hx':a.eval x=.slice none 0 c:=hx
  unfold Oper.wp
  simp[execOp,ho,resolve,invoke,builtin,hs,hx',Oe,Result.andThen]
  exact hK _ _ (h v w (by simpa[NW]using Ot) (jh _ _))
 |some ad=>
  have Ou:∀j u,(NW l)[j]? =some u->w.cell? (ad.add j)=some u:=by
   rcases P4 with⟨rfl,_⟩|⟨b,off,c',e,h2⟩
   .intro j u hj;simp[NW]at hj
   .simp at e
    exact M30
  refine MT w hgd s x 56 ho base 128 i0 _ 2 16 underlying56 q0 q1 q2 q3 rfl d? v n xs hs Ot ad l.length c (NW l) hx (dm l) Ou (kH l) h63 Qs Rk ?_
  intro v' w' h2 h3 _ _
  exact h v' w' h2 h3
def iQ (f h:Nat->Bool) (k m:Nat):Bool:=if m<k then h m else f m
theorem CV (f h:Nat->Bool) (m):iQ f h 0 m=f m:=by unfold iQ;rw[if_neg a?]
theorem CW (f h:Nat->Bool) (k):iQ f h k k=f k:=by unfold iQ;rw[if_neg a?]
theorem CX (f h:Nat->Bool) (k m) (e:m≠k):iQ f h (k+1) m=iQ f h k m:=by
 unfold iQ
 by_cases e2:m<k
 .rw[if_pos e2,if_pos a?]
 .rw[if_neg e2,if_neg a?]
theorem Ib (f h:Nat->Bool) (k):iQ f h (k+1) k=h k:=by unfold iQ;rw[if_pos a?]
theorem Fm (f h:Nat->Bool) (m) (e:m<8192):iQ f h 8192 m=h m:=by unfold iQ;rw[if_pos e]
theorem Fl {f h:Nat->Bool} {k} (hr:fw w g (iQ f h k)) (hk:k<8192) (u) (hu:u=h k):fw (w.setCell (aa g k) (.bool u)) g (iQ f h (k+1)):=
 Rw.set hr k hk (.bool u) _ (by rw[Ib,hu]) (fun m _ hm=>by rw[CX f h k m hm])
theorem IV (va la loa hia vb lb lob Rr w) (ha:af w va la loa hia) (hb:af w vb lb lob Rr) (Yb:la.length<=1000000) (US:lb.length<=1000000) (Yz:∀a∈la,aQ a) (Rp:∀a∈lb,aQ a):
  am! 210 #[va,vb] w (bh (Pr la lb) w):=by
 have hp:=D5 va la loa hia w ha Yb Yz
 have hq:=fun W (hk:NP [] w W)=>D5 vb lb lob Rr W (hb.kept0 hk) US Rp
 have hru:=fun g W (hg:fw W g (fun m=>OE la m&& !OE lb m))=>Km g _ W hg
 have eL:eh (fun m=>OE la m&& !OE lb m)=Pr la lb:=rfl
 rw[eL]at hru
 unfold bh at*
 obtain⟨pa,ca,rfl⟩:=ha.shape
 obtain⟨pb,cb,rfl⟩:=hb.shape
 have⟨HP,HQ,ZG⟩:=gg! hp hq hru
 clear hp hq hru ha hb Yz Rp eL Yb US
 generalize Pr la lb=L at*
 generalize OE la=fa at*
 generalize OE lb=fb at*
 generalize la.length=na at*
 generalize lb.length=nb at*
 obtain⟨fh,hfh⟩:∃fh:Nat->Bool,(fun m=>fa m&& !fb m)=fh:=⟨_,rfl⟩
 have HFH:=tK hfh
 rw[hfh]at ZG
 clear hfh
 go_enter func210,ntmps210
 go_wp2_with fail
 refine HP.out.mono ?_;rintro e w1 ⟨rfl,r1,k1⟩
 have TI:=Rw.lt r1
 have R1:=tK r1
 clear r1
 go_wp2_with fail
 refine(HQ.out _ k1).mono ?_;rintro e w2 ⟨rfl,r2,k2⟩
 have R1':=tK (fw.congr (f':=iQ fa fh 0) (Rw.kept R1.out k2 (fun h=>by cases h)) (fun m _=>(CV fa fh m).symm))
 have R2:=tK r2
 have PY:=k1.trans k2
 have RH:=k1.size
 obtain⟨g2,UK⟩:∃g2,w1.heap.size=g2:=⟨_,rfl⟩
 rw[UK]at R2 TI ⊢
 clear r2 UK R1
 go_wp2_with fail
 go_loopw [7] (fun i wr=>∃k:Nat,k<=8192/\i=(k:Int)/\fw wr w (iQ fa fh k)/\fw wr g2 fb/\NP [] w wr) (fun i _=>8192-(intOf i).toNat)
 case atStart=>exact⟨0,a?,rfl,R1'.out,R2.out,PY⟩
 case round=>
  obtain⟨k,hk,rfl,Tm,Th,hK⟩:=hrel
  by_cases NV:k<8192
  .have i1:(k:Int)<8192:=a?
   have ck:=Rw.cell Tm k NV
   rw[CW]at ck
   have dk:=Rw.cell Th k NV
   have zk:=Rw.free Tm k
   have ZZ:=Rw.lt Tm
   have Z4:=Rw.lt Th
   have Vg:=fun u hu=>Fl Tm NV u hu
   have adh:=fun u:Value=>Rw.other Th (p:=(aa w k)) (by show g2≠w.heap.size;omega) u
   have hks:=fun u:Value=>hK.setCell (p:=(aa w k)) (Or.inr (MG _)) u
   have hfk:fh k=(fa k&& !fb k):=by rw[<-HFH.out]
   have⟨Of,Zr,aeP,HKS,HFK⟩:=gi! NV Vg adh hks hfk
   clear Vg adh hks Tm Th hfk
   generalize hfak:fa k=x at*
   generalize hfbk:fb k=y at*
   clear hfak hfbk
   cases x<;>cases y
   all_goals
    go_wp2_with fail
    go_roundw
    case rel=>exact⟨k+1,Of.out,j?,Zr.out _ (by rw[HFK.out];rfl),aeP.out _,HKS.out _⟩
    case measure=>(have hh:=Of.out;simp[intOf];omega)
  .obtain rfl:k=8192:=a?
   have UC:=ZG.out _ _ (fw.congr Tm (fun m hm=>Fm fa fh m hm))
   have ZJ:=tK UC
   clear Tm Th UC
   go_wp2_with fail
   refine ZJ.out.mono ?_;rintro e w3 ⟨v3,rfl,r3,k3⟩
   have QY:=hK.trans k3
   have P0:=aF r3 hK.size
   have Up:=tK P0
   obtain⟨p3,c3,rfl⟩:=ah r3
   clear r3 P0
   go_wp2_with fail
   go_ret
   exact⟨_,rfl,Up.out,QY⟩
theorem zS (f:Nat->Bool) (k):PM f k<=k:=by
 induction k with
 |zero=>exact MG _
 |succ k ih=>rw[PM];split<;>omega
theorem BO (v l lo hi w) (h:af w v l lo hi) (hl:l.length<=1000000) (Pj:∀a∈l,aQ a):
  am! 138 #[v] w fun e w'=>e=(OV l:Int)/\NP [] w w':=by
 have hp:=D5 v l lo hi w h hl Pj
 obtain⟨p,c,rfl⟩:=h.shape
 clear h Pj
 have HP:=tK hp
 clear hp
 unfold OV
 generalize OE l=f at*
 generalize l.length=ll at*
 go_enter func138,ntmps138
 go_wp2_with fail
 refine HP.out.mono ?_;rintro e w1 ⟨rfl,r1,k1⟩
 have R1:=tK r1
 clear r1
 go_wp2_with fail
 go_loopw [4,5] (fun n i wr=>∃k:Nat,k<=8192/\i=(k:Int)/\n=(PM f k:Int)/\fw wr w f/\NP [] w wr) (fun _ i _=>8192-(intOf i).toNat)
 case atStart=>exact⟨0,a?,rfl,rfl,R1.out,k1⟩
 case round=>
  obtain⟨k,hk,rfl,rfl,Tm,hK⟩:=hrel
  by_cases NV:k<8192
  .have i1:(k:Int)<8192:=a?
   have ck:=Rw.cell Tm k NV
   have Sk:PM f (k+1)=PM f k+if f k=true then 1 else 0:=rfl
   have hle:=zS f k
   have⟨Of,VP,HCS⟩:=gg! NV Tm Sk
   clear Tm Sk
   generalize hfk:f k=x at*
   clear hfk
   generalize PM f k=ct at*
   cases x
   .go_wp2_with fail
    go_roundw
    case rel=>exact⟨k+1,Of.out,j?,by rw[HCS.out];simp,VP.out,hK⟩
    case measure=>(have hh:=Of.out;simp[intOf];omega)
   .go_wp2_with fail
    go_roundw
    case rel=>exact⟨k+1,Of.out,j?,by rw[HCS.out,if_pos rfl];go_num,VP.out,hK⟩
    case measure=>(have hh:=Of.out;simp[intOf];omega)
  .obtain rfl:k=8192:=a?
   clear Tm
   go_wp2_with fail
   go_ret
   exact⟨rfl,hK⟩
theorem ae.c6 (h:ae w b #[x0,x1,x2,x3,x4,x5] t):w.cell? b=some x0/\w.cell? (aa b 1)=some x1/\w.cell? (aa b 2)=some x2/\w.cell? (aa b 3)=some x3/\w.cell? (aa b 4)=some x4/\w.cell? (aa b 5)=some x5:=
 ⟨h.cell 0 b?,h.cell 1 b?,h.cell 2 b?,h.cell 3 b?,h.cell 4 b?,h.cell 5 b?⟩
theorem ae.z6 (h:ae w b #[x0,x1,x2,x3,x4,x5] t):w.frozen? b=false/\w.frozen? (aa b 1)=false/\w.frozen? (aa b 2)=false/\w.frozen? (aa b 3)=false/\w.frozen? (aa b 4)=false/\w.frozen? (aa b 5)=false:=
 ⟨h.free 0,h.free 1,h.free 2,h.free 3,h.free 4,h.free 5⟩
theorem uR (w:World) (A0 A1 A2 A3 A4 A5 A6 A7:Array Value) (t0 t1 t2 t3 t4 t5 t6 t7:TypeId):ae ((((((((w.alloc (.cells A0 t0)).alloc (.cells A1 t1)).alloc (.cells A2 t2)).alloc (.cells A3 t3)).alloc (.cells A4 t4)).alloc (.cells A5 t5)).alloc (.cells A6 t6)).alloc (.cells A7 t7)) w A0 t0/\ae ((((((((w.alloc (.cells A0 t0)).alloc (.cells A1 t1)).alloc (.cells A2 t2)).alloc (.cells A3 t3)).alloc (.cells A4 t4)).alloc (.cells A5 t5)).alloc (.cells A6 t6)).alloc (.cells A7 t7)) (w.heap.size+1) A1 t1/\ae ((((((((w.alloc (.cells A0 t0)).alloc (.cells A1 t1)).alloc (.cells A2 t2)).alloc (.cells A3 t3)).alloc (.cells A4 t4)).alloc (.cells A5 t5)).alloc (.cells A6 t6)).alloc (.cells A7 t7)) (w.heap.size+1+1) A2 t2/\ae ((((((((w.alloc (.cells A0 t0)).alloc (.cells A1 t1)).alloc (.cells A2 t2)).alloc (.cells A3 t3)).alloc (.cells A4 t4)).alloc (.cells A5 t5)).alloc (.cells A6 t6)).alloc (.cells A7 t7)) (w.heap.size+1+1+1) A3 t3/\ae ((((((((w.alloc (.cells A0 t0)).alloc (.cells A1 t1)).alloc (.cells A2 t2)).alloc (.cells A3 t3)).alloc (.cells A4 t4)).alloc (.cells A5 t5)).alloc (.cells A6 t6)).alloc (.cells A7 t7)) (w.heap.size+1+1+1+1) A4 t4/\ae ((((((((w.alloc (.cells A0 t0)).alloc (.cells A1 t1)).alloc (.cells A2 t2)).alloc (.cells A3 t3)).alloc (.cells A4 t4)).alloc (.cells A5 t5)).alloc (.cells A6 t6)).alloc (.cells A7 t7)) (w.heap.size+1+1+1+1+1) A5 t5/\ae ((((((((w.alloc (.cells A0 t0)).alloc (.cells A1 t1)).alloc (.cells A2 t2)).alloc (.cells A3 t3)).alloc (.cells A4 t4)).alloc (.cells A5 t5)).alloc (.cells A6 t6)).alloc (.cells A7 t7)) (w.heap.size+1+1+1+1+1+1) A6 t6/\ae ((((((((w.alloc (.cells A0 t0)).alloc (.cells A1 t1)).alloc (.cells A2 t2)).alloc (.cells A3 t3)).alloc (.cells A4 t4)).alloc (.cells A5 t5)).alloc (.cells A6 t6)).alloc (.cells A7 t7)) (w.heap.size+1+1+1+1+1+1+1) A7 t7:=by
 have h0:ae (w.alloc (.cells A0 t0)) w A0 t0:=by have:=ae.new w A0 t0;simpa only[Nd]using this
 have h1:ae ((w.alloc (.cells A0 t0)).alloc (.cells A1 t1)) (w.heap.size+1) A1 t1:=by have:=ae.new (w.alloc (.cells A0 t0)) A1 t1;simpa only[Nd]using this
 have h2:ae (((w.alloc (.cells A0 t0)).alloc (.cells A1 t1)).alloc (.cells A2 t2)) (w.heap.size+1+1) A2 t2:=by have:=ae.new ((w.alloc (.cells A0 t0)).alloc (.cells A1 t1)) A2 t2;simpa only[Nd]using this
 have h3:ae ((((w.alloc (.cells A0 t0)).alloc (.cells A1 t1)).alloc (.cells A2 t2)).alloc (.cells A3 t3)) (w.heap.size+1+1+1) A3 t3:=by have:=ae.new (((w.alloc (.cells A0 t0)).alloc (.cells A1 t1)).alloc (.cells A2 t2)) A3 t3;simpa only[Nd]using this
 have h4:ae (((((w.alloc (.cells A0 t0)).alloc (.cells A1 t1)).alloc (.cells A2 t2)).alloc (.cells A3 t3)).alloc (.cells A4 t4)) (w.heap.size+1+1+1+1) A4 t4:=by have:=ae.new ((((w.alloc (.cells A0 t0)).alloc (.cells A1 t1)).alloc (.cells A2 t2)).alloc (.cells A3 t3)) A4 t4;simpa only[Nd]using this
 have h5:ae ((((((w.alloc (.cells A0 t0)).alloc (.cells A1 t1)).alloc (.cells A2 t2)).alloc (.cells A3 t3)).alloc (.cells A4 t4)).alloc (.cells A5 t5)) (w.heap.size+1+1+1+1+1) A5 t5:=by have:=ae.new (((((w.alloc (.cells A0 t0)).alloc (.cells A1 t1)).alloc (.cells A2 t2)).alloc (.cells A3 t3)).alloc (.cells A4 t4)) A5 t5;simpa only[Nd]using this
 have h6:ae (((((((w.alloc (.cells A0 t0)).alloc (.cells A1 t1)).alloc (.cells A2 t2)).alloc (.cells A3 t3)).alloc (.cells A4 t4)).alloc (.cells A5 t5)).alloc (.cells A6 t6)) (w.heap.size+1+1+1+1+1+1) A6 t6:=by have:=ae.new ((((((w.alloc (.cells A0 t0)).alloc (.cells A1 t1)).alloc (.cells A2 t2)).alloc (.cells A3 t3)).alloc (.cells A4 t4)).alloc (.cells A5 t5)) A6 t6;simpa only[Nd]using this
 have h7:ae ((((((((w.alloc (.cells A0 t0)).alloc (.cells A1 t1)).alloc (.cells A2 t2)).alloc (.cells A3 t3)).alloc (.cells A4 t4)).alloc (.cells A5 t5)).alloc (.cells A6 t6)).alloc (.cells A7 t7)) (w.heap.size+1+1+1+1+1+1+1) A7 t7:=by have:=ae.new (((((((w.alloc (.cells A0 t0)).alloc (.cells A1 t1)).alloc (.cells A2 t2)).alloc (.cells A3 t3)).alloc (.cells A4 t4)).alloc (.cells A5 t5)).alloc (.cells A6 t6)) A7 t7;simpa only[Nd]using this
 exact⟨(((((((h0.alloc _).alloc _).alloc _).alloc _).alloc _).alloc _).alloc _),((((((h1.alloc _).alloc _).alloc _).alloc _).alloc _).alloc _),(((((h2.alloc _).alloc _).alloc _).alloc _).alloc _),((((h3.alloc _).alloc _).alloc _).alloc _),(((h4.alloc _).alloc _).alloc _),((h5.alloc _).alloc _),(h6.alloc _),h7⟩
theorem ae.bp (h:ae w b #[x0,x1,x2,x3,x4,x5] t) (y0 y1 y2 y3 y4 y5):
  ae ((((((w.setCell b y0).setCell (aa b 1) y1).setCell (aa b 2) y2).setCell (aa b 3) y3).setCell (aa b 4) y4).setCell (aa b 5) y5) b #[y0,y1,y2,y3,y4,y5] t:=by
 have:=((((((h.set 0 y0).set 1 y1).set 2 y2).set 3 y3).set 4 y4).set 5 y5)
 simpa using this
theorem NP.bp {S a} (h:NP S a w) (hp:b∈S\/a.heap.size<=b) (y0 y1 y2 y3 y4 y5):NP S a ((((((w.setCell b y0).setCell (aa b 1) y1).setCell (aa b 2) y2).setCell (aa b 3) y3).setCell (aa b 4) y4).setCell (aa b 5) y5):=
 (((((h.setCell (p:=b) hp _).setCell (p:=(aa b 1)) hp _).setCell (p:=(aa b 2)) hp _).setCell (p:=(aa b 3)) hp _).setCell (p:=(aa b 4)) hp _).setCell (p:=(aa b 5)) hp _
theorem ae.mN {cs} (h:ae w g cs t) (hp:g≠b) (y0 y1 y2 y3 y4 y5):ae ((((((w.setCell b y0).setCell (aa b 1) y1).setCell (aa b 2) y2).setCell (aa b 3) y3).setCell (aa b 4) y4).setCell (aa b 5) y5) g cs t:=
 (((((h.other (p:=b) hp _).other (p:=(aa b 1)) hp _).other (p:=(aa b 2)) hp _).other (p:=(aa b 3)) hp _).other (p:=(aa b 4)) hp _).other (p:=(aa b 5)) hp _
def gQ (f s:Int) (a:Int×Int):Prop:=f<=a.1/\1<=a.2/\a.1<s/\a.1+a.2<=s
def fG (a b:Int×Int):Prop:=a.1+a.2<=b.1\/b.1+b.2<=a.1
theorem fG.symm {a b:Int×Int} (h:fG a b):fG b a:=Or.symm h
def dv (f s:Int) (l:List (Int×Int)):Prop:=(∀a∈l,gQ f s a)/\l.Pairwise fG
theorem C7 {f s:Int} {l l':List (Int×Int)} (h:l'.Perm l):dv f s l'↔dv f s l:=by
 grind [dv,List.Perm.pairwise_iff,fG.symm]
theorem C4 {f s:Int} {l:List (Int×Int)} {k:Nat} (hk:k<l.length) (h:dv f s (l.take k)) (h1:gQ f s l[k]) (h2:∀j (hj:j<k),fG l[k] (l[j]' a?)):dv f s (l.take (k+1)):=by
 rw[MI hk]
 refine⟨fun a ha=>?_,?_⟩
 .rcases Na.1 ha with ha|ha
  .exact h.1 a ha
  simp_all
 .rw[List.pairwise_append]
  refine⟨h.2,List.pairwise_singleton _ _,fun a ha b hb=>?_⟩
  obtain rfl:b=l[k]:=by simpa using hb
  rw[List.mem_take_iff_getElem]at ha
  obtain⟨j,hj,rfl⟩:=ha
  exact(h2 j a?).symm
theorem Fp {f s l k} (hk:k<l.length) (h:¬gQ f s l[k]):¬dv f s l:=fun hm=>h (hm.1 _ (MJ hk))
theorem Fo {f s l k j} (hk:k<l.length) (hj:j<k) (h:¬fG l[k] (l[j]' a?)):¬dv f s l:=fun hm=>h ((List.pairwise_iff_getElem.1 hm.2 j k a? hk hj).symm)
theorem Fq (f s):dv f s []:=⟨fun a ha=>V!,List.Pairwise.nil⟩
theorem M78 {A:Prop}(h:A:=by
 rw[e];clear e
 go_enter func289,ntmps289
 go_wp2_with fail
 go_ret
 exact⟨rfl,rfl⟩):A:=h
theorem Gv (a1 a2 b1 b2 w) (wa:aQ (a1,a2)) (wb:aQ (b1,b2)) (ha:1<=a2):
  am! 289 #[.agg #[a1,a2],.agg #[b1,b2]] w fun e w'=>e=.returned (.bool (decide (a1<=b1/\b1<a1+a2)))/\(w.alloc (.cells #[a1,a2] 128)).alloc (.cells #[b1,b2] 128)=w':=by
 have⟨w1,w2,w3,w4⟩:=wa
 have⟨w5,w6,w7,w8⟩:=wb
 simp only at w1 w2 w3 w4 w5 w6 w7 w8
 rcases(by omega:b1<a1\/(a1<=b1/\0<=a1/\b1-a1<a2)\/(a1<=b1/\0<=a1/\a2<=b1-a1)\/(a1<=b1/\a1<0/\b1<a1+a2)\/(a1<=b1/\a1<0/\a1+a2<=b1))with h|⟨h,h2,h3⟩|⟨h,h2,h3⟩|⟨h,h2,h3⟩|⟨h,h2,h3⟩
 .have e:decide (a1<=b1/\b1<a1+a2)=false:=MS a?
  exact M78
 .have e:decide (a1<=b1/\b1<a1+a2)=true:=MV a?
  exact M78
 .have e:decide (a1<=b1/\b1<a1+a2)=false:=MS a?
  rw[e];clear e
  go_enter func289,ntmps289
  go_wp2_with fail
  go_ret
  exact⟨by
    have e:decide (b1-a1<a2)=false:=MS a?
    rw[<-e];rfl,rfl⟩
 .have e:decide (a1<=b1/\b1<a1+a2)=true:=MV a?
  exact M78
 .have e:decide (a1<=b1/\b1<a1+a2)=false:=MS a?
  rw[e];clear e
  go_enter func289,ntmps289
  go_wp2_with fail
  go_ret
  exact⟨by
    have e:decide (b1<a1+a2)=false:=MS a?
    rw[<-e];rfl,rfl⟩
end
section
open Go.Proofs.Tryz Go.RowKit Go.Maps
variable {w w':World} {n:Nat} {f:Nat->Option (List UInt8)}
def eJ (l:List (Nat×List UInt8)) (i:Nat):Option (List UInt8):=l.foldl (fun acc x=>if x.1=i then some x.2 else acc) none
theorem sZ (i):eJ [] i=none:=rfl
theorem iH (l) (x:Nat×List UInt8) (i):eJ (l++[x]) i=if x.1=i then some x.2 else eJ l i:=by
 grind [eJ]
theorem Dn:Keyed prog 3:=int_keyed underlying3
def cV (w:World) (mb n:Nat) (f:Nat->Option (List UInt8)):Prop:=
 ∃D:DataW Unit,w.ownsMap prog 3 (plainElem prog 9) mb n D/\∀i:Nat,i<=8192->Maps.has D (.int .i64 i)=(f i).isSome/\∀s,f i=some s->∀z,D.atKey (.int .i64 i) z=.lit (.string s)
theorem cV.lt {mb} (h:cV w mb n f):mb<w.heap.size:=by have⟨D,h,_⟩:=h;exact h.lt
theorem cV.made (w:World):cV (w.alloc (.map #[] 0)) w 0 (fun _=>none):=
 ⟨.map [],World.ownsMap_made _ _ _ _,fun i _=>⟨rfl,fun s h=>by cases h⟩⟩
theorem cV.block {mb} (h:cV w mb n f) (hb:w'.heap[mb]? =w.heap[mb]?):cV w' mb n f:=by
 obtain⟨D,⟨es,clock,h1,h2⟩,h3⟩:=h
 exact⟨D,⟨es,clock,hb.trans h1,h2⟩,h3⟩
theorem cV.kept {S mb} (h:cV w mb n f) (k:NP S w w') (hS:mb∉S):cV w' mb n f:=
 h.block (k.block mb h.lt hS)
theorem cV.other {mb} (h:cV w mb n f) {p:Addr} (hp:mb≠p.block) (u):cV (w.setCell p u) mb n f:=
 h.block (Below.heap_setCell w p u mb hp)
theorem cV.alloc {mb} (h:cV w mb n f) (o):cV (w.alloc o) mb n f:=
 h.kept ((NP.refl [] w).alloc o) b?
theorem zC (i:Nat) (h:i<=8192):keyOf prog 3 (i:Int)=some (.int .i64 i):=keyOf_int_mk underlying3 (WalkArith.wf_i64 a?)
theorem rB {H:Type} {P:Program} {e:TypeId} (he:P.underlying e=some .string) {v} {z:DataW H×List MemPlace} (h:plainElem P e v=some z):∃s:ByteArray,v=.string s/\z=(.lit (.string s.data.toList),[])/\s.size<=maxLen:=by
 unfold plainElem at h
 grind
theorem cV.look {w:World} {mb n:Nat} {f:Nat->Option (List UInt8)} (h:cV w mb n f) (i:Nat) (hi:i<=8192):
  (Instr.lookup 136 (.map (some mb)) (i:Int) true).run prog w=.ok (.tuple #[.string (bs ((f i).getD [])),.bool (f i).isSome]) w:=by
 obtain⟨D,hown,hf⟩:=h
 have hz:(zeroValue 9).run prog w=.ok (.string ⟨#[]⟩) w:=rfl
 obtain⟨v,ps,hrun,hv⟩:=hown.look_ok Dn underlying136 hz (zd:=.lit (.string [])) (zp:=[]) (plainElem_string underlying9 (s:=⟨#[]⟩) d?) (zC i hi)
 obtain⟨s,rfl,hs,_⟩:=rB underlying9 hv
 have hs:=congrArg Prod.fst hs
 obtain⟨h1,h2⟩:=hf i hi
 rw[hrun,h1]
 cases hfi:f i with
 |none=>
  grind [atKey_of_not_has,nW]
 |some t=>
  grind [nW]
theorem cV.put {w':World} {mb n:Nat} {D:DataW Unit} {f:Nat->Option (List UInt8)} (hD:IsMap D) (hf:∀i:Nat,i<=8192->Maps.has D (.int .i64 i)=(f i).isSome/\∀s,f i=some s->∀z,D.atKey (.int .i64 i) z=.lit (.string s))
  (i:Nat) (_:i<=8192) (s:List UInt8) (h:w'.ownsMap prog 3 (plainElem prog 9) mb n (D.put (.int .i64 i) (.lit (.string s)))):cV w' mb n (fun j=>if i=j then some s else f j):=by
 refine⟨_,h,fun j hj=>?_⟩
 by_cases e:i=j
 .subst e
  simp only[↓reduceIte]
  refine⟨has_put_same hD (by simp[WideAt.IsKeyLit]) _,fun s' hs z=>?_⟩
  grind [atKey_put_same,WideAt.IsKeyLit]
 grind [has_put_other,atKey_put_other]
structure DK where
 stand:List (List UInt8)
 waits:List (Nat×List UInt8)
 fuse:Int
 ops:Nat
 down:Bool
def bV (l:List (List UInt8)):Array Value:=(l.map fun s=>Value.string (bs s)).toArray
def PG (l:List (Nat×List UInt8)):List Value:=(l.map fun x=>[Value.int .i64 (x.1:Int),Value.string (bs x.2)]).flatten
def aD (w:World) (b sb mb lo:Nat) (d:DK):Prop:=
 ∃wv n,ae w b #[(sb,d.stand.length,d.stand.length),wv,.map (some mb),d.fuse,(d.ops:Int),.bool d.down] 138/\
  ae w sb (bV d.stand) 9/\w.ownsRow lo 206 2 wv d.waits.length (PG d.waits)/\cV w mb n (eJ d.waits)/\n<=d.waits.length/\
  sb<b/\mb<b/\sb≠mb/\b<lo/\lo<=w.heap.size/\1<=d.stand.length/\d.stand.length<=8192/\ -1<=d.fuse/\d.fuse<=9223372036854775807/\d.ops<=100000
end
section
open Go.Proofs.Tryz Go.RowKit
variable {A:Prop}
theorem sB (l i) (h:i<l.length):(bV l)[i]'(by simp[bV];exact h)=.string (bs l[i]):=by simp[bV]
theorem aD.qG {w b sb mb lo d} (h:aD w b sb mb lo d):∃p c,w.cell? b=(sb,d.stand.length,d.stand.length)/\w.cell? (aa b 1)=some (.slice p d.waits.length c)/\w.cell? (aa b 2)=some (.map (some mb))/\w.cell? (aa b 3)=d.fuse/\w.cell? (aa b 4)=(d.ops:Int)/\w.cell? (aa b 5)=some (.bool d.down)/\1<=d.stand.length/\d.stand.length<=8192/\d.ops<=100000:=by
 obtain⟨wv,n,o,os,hw,hm,h1,h2,h3,h4,h5,h6,h7,h8,h9,h10,h11⟩:=h
 obtain⟨p,c,rfl⟩:=ah hw
 obtain⟨c0,c1,c2,c3,c4,c5⟩:=o.c6
 simp_all
def kY (d:DK):Int:=if d.down then 90 else 0
theorem ti (b sb mb lo d w) (h:aD w b sb mb lo d):am! 89 #[b] w fun e w'=>e=(kY d:Int)/\w=w':=by
 obtain⟨p,c,c0,c1,c2,c3,c4,c5,h1,h2,h3⟩:=h.qG
 have hne:((d.stand.length:Int)==0)=false:=y?
 unfold kY
 generalize d.stand.length=n at*
 cases hd:d.down
 .rw[hd]at c5
  clear h hd
  go_enter func89,ntmps89
  go_wp2_with fail
  go_ret
  simp
 .rw[hd]at c5
  clear h hd
  go_enter func89,ntmps89
  go_wp2_with fail
  go_ret
  simp
def OM (d:DK) (i:Int):Int:=if d.down then 90 else if i<0\/(d.stand.length:Int)<=i then 5 else 0
theorem M27 (h:A:=by
 go_wp2_with fail
 refine hr.mono ?_;rintro e w' ⟨rfl,rfl⟩
 go_wp2_with fail
 go_ret
 exact⟨rfl,rfl⟩):A:=h
theorem DH (b sb mb lo:Nat) (d) (i:Int) (w) (h:aD w b sb mb lo d):am! 120 #[b,i] w fun e w'=>e=(OM d i:Int)/\w=w':=by
 have hr:=ti b sb mb lo d w h
 have⟨p,c,c0,c1,c2,c3,c4,c5,h1,h2,h3⟩:=h.qG
 unfold kY at hr
 unfold OM
 generalize d.stand.length=n at*
 cases hd:d.down
 .rw[hd]at hr
  simp only[Bool.false_eq_true,if_false]at hr ⊢
  clear h hd
  rcases(by omega:i<0\/(0<=i/\i<n)\/(0<=i/\¬(i<n)))with h1|⟨h1,h2⟩|⟨h1,h2⟩
  .rw[if_pos (Or.inl h1)]
   go_enter func120,ntmps120
   exact M27
  .rw[if_neg a?]
   go_enter func120,ntmps120
   exact M27
  .rw[if_pos (Or.inr a?)]
   go_enter func120,ntmps120
   exact M27
 .rw[hd]at hr
  simp only[if_true]at hr ⊢
  clear h hd
  go_enter func120,ntmps120
  exact M27
def seen (d:DK) (i:Nat):List UInt8:=(eJ d.waits i).getD (d.stand.getD i [])
theorem M56 (h:A:=by
 go_enter func62,ntmps62
 go_wp2_with fail
 refine hr.mono ?_;rintro e w' ⟨rfl,rfl⟩
 go_wp2_with fail
 go_ret2
 exact⟨rfl,rfl⟩):A:=h
theorem F8 (b sb mb lo d i w) (h:aD w b sb mb lo d) (OF:OM d i≠0):am! 62 #[b,i] w fun e w'=>e=.returned (.tuple #[.string ⟨#[]⟩,(OM d i:Int)])/\w=w':=by
 have hr:=DH b sb mb lo d i w h
 clear h
 generalize OM d i=x at*
 have hx:(x==0)=false:=by simpa using OF
 clear OF
 exact M56
theorem Lx (b sb mb lo d i w) (h:aD w b sb mb lo d) (hd:d.down=false) (hi:i<d.stand.length):am! 62 #[b,(i:Int)] w fun e w'=>e=.returned (.tuple #[.string (bs (seen d i)),(0:Int)])/\w=w':=by
 have hr:=DH b sb mb lo d i w h
 have e0:OM d i=0:=by unfold OM;rw[hd,if_neg b?,if_neg a?]
 rw[e0]at hr
 have⟨p,c,c0,c1,c2,c3,c4,c5,h1,h2,h3⟩:=h.qG
 have⟨wv,n,o,os,hw,hm,_⟩:=h
 have W7:=hm.look i a?
 have Ou:w.cell? (aa sb i)=some (.string (bs d.stand[i])):=by
  rw[<-sB d.stand i hi]
  exact os.cell i (by simp[bV];exact hi)
 have hs:seen d i=(eJ d.waits i).getD d.stand[i]:=by
  unfold seen;rw[Nx,MZ hi];rfl
 rw[hs]
 have hi':(i:Int)<d.stand.length:=a?
 clear os hw hm o hs e0 hd
 generalize d.stand[i]=st at*
 generalize d.stand.length=n at*
 clear hi h1 h2
 cases hl:eJ d.waits i with
 |none=>
  rw[hl]at W7
  simp only[Option.getD_none,Option.isSome_none]at W7 ⊢
  exact M56
 |some t=>
  rw[hl]at W7
  simp only[Option.getD_some,Option.isSome_some]at W7 ⊢
  exact M56
end
section
open Go.Proofs.Tryz Go.RowKit Go.Maps
theorem XH (b sb mb lo d w) (h:aD w b sb mb lo d):am! 36 #[b] w fun e w'=>e=(d.stand.length:Int)/\w=w':=by
 obtain⟨p,c,c0,c1,c2,c3,c4,c5,h1,h2,h3⟩:=h.qG
 clear h
 go_enter func36,ntmps36
 go_wp2_with fail
 go_ret
 simp
theorem J7 (b sb mb lo d w) (h:aD w b sb mb lo d):am! 137 #[b] w fun e w'=>e=(d.waits.length:Int)/\w=w':=by
 obtain⟨p,c,c0,c1,c2,c3,c4,c5,h1,h2,h3⟩:=h.qG
 clear h
 go_enter func137,ntmps137
 go_wp2_with fail
 go_ret
 simp
theorem J8 (b sb mb lo d w) (h:aD w b sb mb lo d):am! 25 #[b] w fun e w'=>e=(d.ops:Int)/\w=w':=by
 obtain⟨p,c,c0,c1,c2,c3,c4,c5,h1,h2,h3⟩:=h.qG
 clear h
 go_enter func25,ntmps25
 go_wp2_with fail
 go_ret
 simp
theorem Bt (b sb mb lo d w) (h:aD w b sb mb lo d):am! 61 #[b] w fun e w'=>e=.returned (.bool d.down)/\w=w':=by
 obtain⟨p,c,c0,c1,c2,c3,c4,c5,h1,h2,h3⟩:=h.qG
 clear h
 go_enter func61,ntmps61
 go_wp2_with fail
 go_ret
 simp
def dq (d:DK):DK:=⟨d.stand,d.waits,if 0<d.fuse then d.fuse-1 else d.fuse,d.ops+1,if d.fuse=0 then true else d.down⟩
theorem aD.nums {w w' b sb mb lo d d'} (h:aD w b sb mb lo d) (k:NP [b] w w') (hs:d'.stand=d.stand) (hw:d'.waits=d.waits) (hf: -1<=d'.fuse) (hf2:d'.fuse<=9223372036854775807) (ho:d'.ops<=100000) (hown:∀v0 v1 v2,ae w b #[v0,v1,v2,d.fuse,(d.ops:Int),.bool d.down] 138->ae w' b #[v0,v1,v2,d'.fuse,(d'.ops:Int),.bool d'.down] 138):aD w' b sb mb lo d':=by
 obtain⟨wv,n,o,os,hwr,hm,hn,h2,h3,h4,h5,h6,h7,h8,h9,h10,h11⟩:=h
 refine⟨wv,n,?_,?_,?_,?_,by grind,h2,h3,h4,h5,Nk h6 k.size,by grind,by grind,hf,hf2,ho⟩
 .simp_all
 .rw[hs];exact k.own os e?
 .grind [ax]
 .rw[hw];exact hm.kept k e?
end
open Go.Proofs.Tryz Go.RowKit
variable {w:World} {base size n g:Nat} {e t:TypeId} {v:Value} {xs:List Value} {cs:Array Value}
theorem aB (h:w.ownsRow base e size v n xs) (o:ae w g cs t) (Pb:e≠t):v.ownBlock≠some g:=by
 rcases h.2 with⟨rfl,_⟩|⟨g',cap,cur,rfl,_,hh,_⟩
 .simp[Value.ownBlock]
 .intro he
  have e1:g'=g:=by simpa[Value.ownBlock]using he
  subst e1
  have o':w.heap[g']? =some (.cells cs t (0,0)):=o
  rw[o']at hh
  injection hh with hh
  injection hh with _ ht
  exact Pb ht.symm
theorem bW {w'} (h:w.ownsRow base e size v n xs) (hg:w.grownBy w' v.ownBlock) (o:ae w g cs t) (Pb:e≠t):ae w' g cs t:=
 Eq.trans (hg.block g o.lt (fun he=>aB h o Pb he.symm)) o
theorem bT (h:w.ownsRow base e size v n xs) {p:Addr} (hp:v.ownBlock≠some p.block) (u):(w.setCell p u).ownsRow base e size v n xs:=by
 have⟨h1,h2⟩:=h
 refine⟨h1,?_⟩
 rcases h2 with h2|⟨g,cap,cur,rfl,hg,hh,r⟩
 .exact Or.inl h2
 .refine Or.inr ⟨g,cap,cur,rfl,hg,(Below.heap_setCell w p u g (fun e=>hp (by simp[Value.ownBlock,e]))).trans hh,r⟩
end Go.Proofs.YtdkimcnlhmhpgaaGreat

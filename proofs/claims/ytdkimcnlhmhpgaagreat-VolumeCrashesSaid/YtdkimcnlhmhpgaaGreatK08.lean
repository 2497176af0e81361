/- -/
import Derived.Test.YtdkimcnlhmhpgaaGreatRows
import Derived.Test.YtdkimcnlhmhpgaaGreatK07
import Derived.Lib.AppendZerosOnto
set_option maxHeartbeats 16000000
set_option maxRecDepth 100000
set_option linter.unusedVariables false
namespace Go.Proofs.YtdkimcnlhmhpgaaGreat
open Go.RowKit
variable {a n:Int} {l:List (Int×Int)} {w:World} {b:Nat} {t:TypeId}
theorem MZ:type_of% @List.getElem_map:=@List.getElem_map
def jI (l:List (Int×Int)) (j:Int):Int:=(l.map fun r=>max 0 (min r.2 (j-r.1))).sum
theorem Cq (a b:List (Int×Int)) (j:Int):jI (a++b) j=jI a j+jI b j:=by unfold jI;rw[Ms,List.sum_append]
theorem lW (r:Int×Int) (t:List (Int×Int)) (j:Int):jI (r::t) j=max 0 (min r.2 (j-r.1))+jI t j:=by unfold jI;rw[List.map_cons,List.sum_cons]
theorem Je (j:Int):jI [] j=0:=rfl
theorem Gz (h:Pl a l) (j:Int) (hj:j<=a):jI l j=0:=by
 induction l generalizing a with
 |nil=>rfl
 |cons r t ih=>
  obtain⟨h1,h2,h3,h4⟩:=h
  rw[lW,ih h4 (by omega)];omega
theorem Jg (j:Int) (h:∀x∈l,1<=x.2/\x.1+x.2<=j):jI l j=Nw l:=by
 induction l with
 |nil=>rfl
 |cons r t ih=>
  have h1:=h r Mg
  have e:Nw (r::t)=r.2+Nw t:=by simp[Nw]
  rw[lW,ih (fun x hx=>h x (MP _ hx)),e];omega
theorem GA (h:Pl a l) (m:Nat):jI l ((m:Int)+1)=jI l m+if aC l m=true then 1 else 0:=by
 induction l generalizing a with
 |nil=>simp[jI,aC]
 |cons r t ih=>
  obtain⟨h1,h2,h3,h4⟩:=h
  rw[lW,lW,ih h4]
  have e:aC (r::t) m=((decide (r.1<=m)&&decide ((m:Int)<r.1+r.2))||aC t m):=by simp[aC]
  rw[e]
  by_cases Ph:r.1<=m/\(m:Int)<r.1+r.2
  .have ht:aC t m=false:=by
    cases hx:aC t m
    .rfl
    .have:=(h4.ge (bF.1 hx)).1;omega
   rw[ht,MQ Ph.1,MQ Ph.2]
   simp
   omega
  .have e2:(decide (r.1<=m)&&decide ((m:Int)<r.1+r.2))=false:=by simp;omega
   rw[e2,Bool.false_or]
   have:max 0 (min r.2 ((m:Int)+1-r.1))=max 0 (min r.2 ((m:Int)-r.1)):=by omega
   rw[this];omega
theorem Jf (f:Nat->Bool) (m:Nat) (hm:m<=8192):jI (eU f) m=cA f m:=by
 induction m with
 |zero=>rw[Gz (et f) _ (by omega)];rfl
 |succ m ih=>
  have:=GA (et f) m
  rw[kh f m (by omega)]at this
  rw[show((m+1:Nat):Int)=(m:Int)+1 by omega,this,ih (by omega),cA]
  split<;>omega
def rj (s:List (Int×Int)×Int) (r:Int×Int):List (Int×Int)×Int:=if s.2=0 then s else(s.1++[(r.1,min r.2 s.2)],s.2-min r.2 s.2)
def OP (p:List (Int×Int)) (n:Int) (k:Nat):List (Int×Int)×Int:=(p.take k).foldl rj ([],n)
theorem kL (p:List (Int×Int)) (n:Int) (k:Nat) (h:k<p.length):OP p n (k+1)=rj (OP p n k) p[k]:=by
 unfold OP;rw[Mf h,List.foldl_append];rfl
theorem BK (p:List (Int×Int)) (n:Int) (k:Nat) (hk:k<=p.length) (h:(OP p n k).2=0) (j:Nat) (hj:k<=j) (Xx:j<=p.length):OP p n j=OP p n k:=by
 induction j with
 |zero=>
   obtain rfl:k=0:=by omega
   rfl
 |succ j ih=>
  by_cases e:k=j+1
  .rw[e]
  .have h2:=ih (by omega) (by omega)
   rw[kL p n j (by omega),h2]
   unfold rj
   rw[if_pos h]
structure LA (p:List (Int×Int)) (n:Int) (k:Nat):Prop where
 pl:Pl 0 (OP p n k).1
 is:∀j,bU (OP p n k).1 j↔bU (p.take k) j/\jI (p.take k) j<n
 rem:(OP p n k).2=max 0 (n-Nw (p.take k))
 low:∀x∈(OP p n k).1,∃y∈p.take k,x.1=y.1/\x.2<=y.2
theorem DI {p:List (Int×Int)} (hp:Pl 0 p) (n:Int) (hn:0<=n) (k:Nat) (hk:k<=p.length):LA p n k:=by
 induction k with
 |zero=>exact⟨trivial,fun j=>⟨fun h=>absurd h (ep j),fun h=>absurd h.1 (ep j)⟩,by show n=max 0 (n-0);omega,fun x hx=>by cases hx⟩
 |succ k ih=>
  obtain⟨h1,h2,h3,h4⟩:=ih (by omega)
  have Ns:k<p.length:=by omega
  obtain⟨p1,p2,p3⟩:=kJ hp Ns
  have Pc:p.take (k+1)=p.take k++[p[k]]:=Mf Ns
  have Wp:=hp.take (k+1)
  rw[Pc]at Wp
  obtain⟨g1,_,_,_,g5⟩:=Wp.init
  have OL:∀j,p[k].1<=j->jI (p.take k) j=Nw (p.take k):=fun j hj=>Jg j (fun x hx=>⟨(g1.mem hx).2.1,by have:=g5 x hx;omega⟩)
  have acw:∀j,jI (p.take (k+1)) j=jI (p.take k) j+max 0 (min p[k].2 (j-p[k].1)):=fun j=>by rw[Pc,Cq,lW,Je];omega
  have Ph:∀j,bU (p.take (k+1)) j↔bU (p.take k) j\/(p[k].1<=j/\j<p[k].1+p[k].2):=fun j=>by rw[Pc,bY,ft]
  have Ry:∀j,bU (p.take k) j->j<p[k].1:=fun j ⟨x,hx,_,Vz⟩=>by have:=g5 x hx;omega
  have PU:Nw (p.take (k+1))=Nw (p.take k)+p[k].2:=iM p k Ns
  have hs:=kL p n k Ns
  unfold rj at hs
  by_cases h0:(OP p n k).2=0
  .rw[if_pos h0]at hs
   refine⟨by rw[hs];exact h1,fun j=>?_,by rw[hs,h3,PU];omega,fun x hx=>?_⟩
   .rw[hs,h2,Ph,acw]
    constructor
    .rintro⟨a,b⟩
     have:=Ry j a
     exact⟨Or.inl a,by omega⟩
    .rintro⟨a|a,b⟩
     .have:=Ry j a
      exact⟨a,by omega⟩
     .have:=OL j a.1;omega
   .rw[hs]at hx
    obtain⟨y,hy,e⟩:=h4 x hx
    exact⟨y,by rw[Pc];exact List.mem_append_left _ hy,e⟩
  .rw[if_neg h0]at hs
   generalize (OP p n k).2=m at*
   generalize (OP p n k).1=o at*
   refine⟨?_,fun j=>?_,?_,fun x hx=>?_⟩
   .rw[hs]
    refine h1.snoc p1 (by show 1<=min p[k].2 m;omega) (by show p[k].1+min p[k].2 m<=8192;omega) (fun x hx=>?_)
    obtain⟨y,hy,e1,e2⟩:=h4 x hx
    have:=g5 y hy
    show x.1+x.2+1<=p[k].1
    omega
   .rw[hs]
    show bU (o++[(p[k].1,min p[k].2 m)]) j↔_
    rw[bY,ft,h2,Ph,acw]
    constructor
    .rintro(⟨a,b⟩|⟨a,b⟩)
     .have:=Ry j a
      exact⟨Or.inl a,by omega⟩
     .have a:p[k].1<=j:=a
      have b:j<p[k].1+min p[k].2 m:=b
      have:=OL j a
      exact⟨Or.inr ⟨a,by omega⟩,by omega⟩
    .rintro⟨a|a,b⟩
     .have:=Ry j a
      exact Or.inl ⟨a,by omega⟩
     .have:=OL j a.1
      refine Or.inr ⟨a.1,?_⟩
      show j<p[k].1+min p[k].2 m
      omega
   .rw[hs,PU]
    show m-min p[k].2 m=_
    omega
   .rw[hs]at hx
    rcases Mj.1 hx with hx|hx
    .obtain⟨y,hy,e⟩:=h4 x hx
     exact⟨y,by rw[Pc];exact List.mem_append_left _ hy,e⟩
    .have hx:x=(p[k].1,min p[k].2 m):=by simpa using hx
     subst hx
     exact⟨p[k],by rw[Pc];exact List.mem_append_right _ (MB.2 rfl),rfl,by show min p[k].2 m<=p[k].2;omega⟩
def qn (l:List (Int×Int)) (n:Int) (m:Nat):Bool:=aC l m&&decide ((cA (aC l) m:Int)<n)
def Np (l:List (Int×Int)) (n:Int):List (Int×Int):=eU (qn l n)
theorem DJ (l:List (Int×Int)) (n:Int) (hn:0<=n):(OP (NY l) n (NY l).length).1=Np l n/\(OP (NY l) n (NY l).length).2=max 0 (n-Oc l):=by
 have h:=DI (et (aC l)) n hn (NY l).length (Md _)
 constructor
 .refine lU h.pl (fun m hm=>?_)
  have h2:=h.is m
  rw[show(eU (aC l)).take (NY l).length=eU (aC l)from MC]at h2
  rw[show NY l=eU (aC l)from rfl]at*
  rw[h2,Jf _ m (by omega),<-bF,kh _ m hm]
  unfold qn
  simp
 .have h3:=h.rem
  rw[show(eU (aC l)).take (NY l).length=eU (aC l)from MC,qL]at h3
  exact h3
theorem DL (p:List (Int×Int)) (n:Int) (k:Nat):(OP p n k).1.length<=k:=by
 induction k with
 |zero=>exact Md _
 |succ k ih=>
  by_cases h:k<p.length
  .rw[kL p n k h]
   unfold rj
   split
   .omega
   .show(_++[_]).length<=_
    rw[Mc,MT];omega
  .have e:OP p n (k+1)=OP p n k:=by unfold OP;rw[Mk (by omega),Mk (by omega)]
   rw[e];omega
def NI (l:List (Int×Int)) (n:Int):Int:=if n<0 then 1 else if(Oc l:Int)<n\/16<(Np l n).length then 100 else 0
def OZ (l:List (Int×Int)) (n:Int):List (Int×Int):=if NI l n=0 then Np l n else[]
def lu (l:List (Int×Int)) (n:Int) (w:World) (e:Ending) (w':World):Prop:=
 ∃v,e=.returned (.tuple #[v,.int .i64 (NI l n)])/\w'.ownsRow w.heap.size 128 2 v (OZ l n).length (No (OZ l n))/\aa [] w w'
theorem IH (h:n<0):NI l n=1/\OZ l n=[]:=by
 have e:NI l n=1:=by unfold NI;rw[if_pos h]
 exact⟨e,by unfold OZ;rw[e,if_neg (by omega)]⟩
theorem FT (h:0<=n) (hf:(Oc l:Int)<n\/16<(Np l n).length):NI l n=100/\OZ l n=[]:=by
 have e:NI l n=100:=by unfold NI;rw[if_neg (by omega),if_pos hf]
 exact⟨e,by unfold OZ;rw[e,if_neg (by omega)]⟩
theorem Ax (h:0<=n) (h1:n<=Oc l) (h2:(Np l n).length<=16):NI l n=0/\OZ l n=Np l n:=by
 have e:NI l n=0:=by unfold NI;rw[if_neg (by omega),if_neg (by omega)]
 exact⟨e,by unfold OZ;rw[if_pos e]⟩
theorem M57 {A:Prop}(h:A:=by
 go_wp2_with fail
 refine Mx (v:=.tuple #[.slice none 0 0,.int .i64 100]) ?_ ?_ ?_
 .kernel_rfl
 .rfl
 .exact⟨_,by rw[E1.out],by rw[E2.out];exact MG _ _ _ _,hKK⟩):A:=h
theorem uF (v:Value) (l:List (Int×Int)) (n:Int) (lo hi:Nat) (w:World) (h:af w v l lo hi) (hl:l.length<=1000000) (Ox:∀a∈l,aU a) (Rx: -9223372036854775808<=n) (Qy:n<=9223372036854775807):
  Calls Tryz.prog 53 #[v,.int .i64 n] w (lu l n w):=by
 have hp:=pE v l lo hi w h hl Ox
 obtain⟨p,c,rfl⟩:=h.shape
 by_cases Xi:n<0
 .obtain⟨e1,e2⟩:=IH (l:=l) Xi
  unfold lu
  rw[e1,e2]
  clear hp h Ox e1 e2
  go_enter Tryz.func53,Tryz.ntmps53
  go_wp2_with fail
  refine Mx (v:=.tuple #[.slice none 0 0,.int .i64 1]) ?_ ?_ ?_
  .kernel_rfl
  .rfl
  .exact⟨_,rfl,MG _ _ _ _,aa.refl _ _⟩
 .have U7:0<=n:=by omega
  obtain⟨i0,q0,q1,q2,q3⟩:=gT
  have Oj:Pl 0 (NY l):=et _
  obtain⟨hf1,hf2⟩:=DJ l n U7
  have PA:=FT (l:=l) (n:=n) U7
  have abP:=Ax (l:=l) (n:=n) U7
  have hlen:=Oj.gV
  have hll:(Np l n).length<=8192:=by
   have:Pl 0 (Np l n):=et _
   have:=this.gV
   omega
  unfold bG at hp
  unfold lu
  have HP:=Mb hp
  have Rw:=Mb Oj
  have Zk:=Mb hf1
  have HF2:=Mb hf2
  have HFU:=Mb PA
  have Ql:=Mb abP
  clear hp h Ox Oj hf1 hf2 PA abP hl
  generalize NY l=x at*
  generalize Np l n=L at*
  generalize NI l n=C at*
  generalize OZ l n=R at*
  generalize Oc l=cn at*
  generalize l.length=ll at*
  go_enter Tryz.func53,Tryz.ntmps53
  go_wp2_with fail
  refine HP.out.mono ?_;rintro e w1 ⟨v1,rfl,r1,k1⟩
  obtain⟨px,cx,rfl⟩:=ai r1
  have HX:=Mb (af.bo r1)
  have Q6:=k1.size
  clear r1
  go_upto_block 0 with fail
  go_cut [1,6] (fun m o wx=>m=.int .i64 (max 0 (n-cn))/\wx.ownsRow w1.heap.size 128 2 o L.length (No L)/\aa [] w1 wx)
  case first=>
   go_wp2_with fail
   go_loopw [1,6,14] (fun m o i wr=>∃k:Nat,k<=x.length/\i=.int .i64 k/\m=.int .i64 (OP x n k).2/\wr.ownsRow w1.heap.size 128 2 o (OP x n k).1.length (No (OP x n k).1)/\aa [] w1 wr) (fun _ _ i _=>x.length-(intOf i).toNat)
   case atStart=>exact⟨0,by omega,rfl,rfl,MG _ _ _ _,aa.refl _ _⟩
   case round=>
    obtain⟨k,hk,rfl,rfl,Nt,hK⟩:=hrel
    have Wn:=(DI Rw.out n U7 k hk).rem
    have PU:=((Rw.out.take k).sum (by omega)).1
    have ZB:=DL x n k
    have Sy:=fun h=>BK x n k hk h x.length hk (Md _)
    have NQ:=fun Ns=>kL x n k Ns
    obtain⟨O,m,hOm⟩:∃O m,OP x n k=(O,m):=⟨_,_,rfl⟩
    rw[hOm]at Nt Wn ZB Sy NQ ⊢
    unfold rj at NQ
    simp only at Nt Wn ZB Sy NQ ⊢
    have HOM:=Mb hOm
    clear hOm
    obtain⟨po,co,rfl⟩:=ai Nt
    by_cases Ns:k<x.length
    .have i1:(k:Int)<x.length:=by omega
     obtain⟨b,off,rfl,c0,c1,hb,Py,Pb⟩:=(HX.out.kept0 hK).at_ k Ns
     have N8:=NQ Ns
     obtain⟨y1,y2,y3⟩:=kJ Rw.out Ns
     by_cases Vr:m=0
     .have h1:=Zk.out
      have h2:=HF2.out
      rw[Sy Vr]at h1 h2
      simp only at h1 h2
      subst Vr
      have OK:=Mb Nt
      have H1:=Mb h1
      have H2:=Mb h2
      clear Nt h1 h2 Sy NQ Wn N8
      go_wp2_with fail
      go_meet
      exact⟨by rw[<-H2.out],by rw[<-H1.out];exact Me OK.out _,hK.alloc _⟩
     .rw[if_neg Vr]at N8
      have r3:O.length+1<=maxLen:=by unfold maxLen;omega
      have r4:(O.length+1)*16<=140737488355328:=by omega
      have OM:=Mb N8
      have NU:=Mb Ns
      have W5:0<m:=by omega
      have Tg:m<=n:=by omega
      have hKs:=hK.size
      clear N8
      generalize x[k].1=X0 at*
      generalize x[k].2=Xn at*
      obtain⟨r,hr⟩:∃r,min Xn m=r:=⟨_,rfl⟩
      have Vq:1<=r/\r<=m/\r<=Xn:=by omega
      obtain⟨Vq,QU,TM⟩:=Vq
      clear Sy NQ Wn
      go_wp2_with (at_builtin;go_must (refine Mv _ rfl (.tmp 29) (.tmp 31) 56 rfl w1.heap.size 128 i0 (.agg #[.int .i64 0,.int .i64 0]) 2 16 Tryz.underlying56 q0 q1 q2 q3 rfl (by decide) _ _ _ rfl (Me (Me Nt _) _) ⟨wr.heap.size+1,0,none⟩ 1 1 [.int .i64 X0,.int .i64 r] rfl rfl ?_ ?_ r3 r4 ?_ ?_))
      .have RH:((wr.alloc (.cells #[.int .i64 X0,.int .i64 r] 128)).alloc (.cells #[.int .i64 X0,.int .i64 r] 128)).heap[wr.heap.size+1]? =some (.cells #[.int .i64 X0,.int .i64 r] 128 (0,0)):=by
        have:=M0 (wr.alloc (.cells #[.int .i64 X0,.int .i64 r] 128)) (.cells #[.int .i64 X0,.int .i64 r] 128)
        rw[MK]at this
        exact this
       exact World.news_of_block RH
      .intro u hu;simp at hu;rcases hu with rfl|rfl<;>rfl
      .simp;omega
      intro v6 w6 o6 OE _ _
      have k6:aa [] w1 w6:=((hK.alloc _).alloc _).grown OE (fun g hg=>Or.inr (Mn Nt g hg).1)
      have S3:=OM.out
      rw[hr]at S3
      have WK:=Mb S3
      rw[show No O++[.int .i64 X0,.int .i64 r]=No (O++[(X0,r)])from(cD O (X0,r)).symm]at o6
      have Wf:=Mb o6
      have HLE:(O++[(X0,r)]).length=O.length+1:=by simp
      clear OE Nt o6 S3
      go_wp2_with fail
      go_roundw
      case rel=>exact⟨k+1,NU.out,by go_num,by rw[WK.out],by rw[WK.out];simp only[HLE];exact Wf.out,k6⟩
      case measure=>(have hh:=NU.out;simp[intOf];omega)
    .obtain rfl:k=x.length:=by omega
     have h1:=Zk.out
     have h2:=HF2.out
     rw[HOM.out]at h1 h2
     simp only at h1 h2
     have OK:=Mb Nt
     have H1:=Mb h1
     have H2:=Mb h2
     clear Nt h1 h2 Sy NQ Wn
     go_wp2_with fail
     go_meet
     exact⟨by rw[H2.out],by rw[<-H1.out];exact OK.out,hK⟩
  case rest=>
   obtain⟨rfl,Nt,hK⟩:=hcut
   obtain⟨po,co,rfl⟩:=ai Nt
   have hKK:=k1.trans hK
   have Qi:=aH Nt k1.size
   have Ur:=Mb Qi
   clear Nt Qi
   obtain⟨M,hM⟩:∃M:Int,max 0 (n-cn)=M:=⟨_,rfl⟩
   rw[hM]
   have hM0:0<=M:=by omega
   by_cases Um:(cn:Int)<n\/16<L.length
   .obtain⟨e1,e2⟩:=HFU.out Um
    have E1:=Mb e1
    have E2:=Mb e2
    clear e1 e2
    rcases(by omega:0<M\/(M=0/\16<L.length))with g1|⟨rfl,g1⟩
    .clear hM Um
     exact M57
    .clear hM Um
     have g2:(16:Int)<L.length:=by omega
     exact M57
   .obtain⟨e1,e2⟩:=Ql.out (by omega) (by omega)
    have E1:=Mb e1
    have E2:=Mb e2
    obtain rfl:M=0:=by omega
    have g2:(L.length:Int)<=16:=by omega
    clear hM Um e1 e2
    go_wp2_with fail
    refine Mx (v:=.tuple #[.slice po L.length co,.int .i64 0]) ?_ ?_ ?_
    .kernel_rfl
    .rfl
    .exact⟨_,by rw[E1.out],by rw[E2.out];exact Ur.out,hKK⟩
theorem C8 (w:World) (x n:Int):af (w.alloc (.cells #[.int .i64 x,.int .i64 n] 128)) (.slice (some ⟨w.heap.size,0,none⟩) 1 1) [(x,n)] w.heap.size (w.heap.size+1):=by
 have hc:=(ae.new w #[.int .i64 x,.int .i64 n] 128)
 refine Or.inr ⟨w.heap.size,0,1,rfl,fun i hi=>?_,Md _,Nat.lt_succ_self _,by simp,by simp,Md _,by unfold maxLen;omega⟩
 obtain rfl:i=0:=by simpa using hi
 exact⟨hc.cell 0 (by simp),hc.cell 1 (by simp)⟩
theorem jH {P:Program} (base:Nat) (t ty e:TypeId) (i:TypeInfo) (size:Nat) (ht:P.underlying t=some (.slice e)) (hi:P.info? e=some i)
  (v:Value) (n c:Nat) (xs:List Value) (N3:w.ownsRow base e size v n xs):
  (Builtin.append_ #[t,t] ty #[v,.slice none 0 c]).run P w=.ok v w:=by
 rcases N3.2 with⟨rfl,rfl⟩|⟨g,cap,cur,rfl,_,_,hnc,_⟩
 .simp[Builtin.append_,run_underlying ht,sizeOf,typeInfo,hi,Builtin.lenOf,Builtin.firstCells]
 .simp[Builtin.append_,run_underlying ht,sizeOf,typeInfo,hi,Builtin.lenOf,Builtin.firstCells,hnc,storeCells]
theorem j4 {ops:Array Oper} {rest:List Oper} {o:Oper} {a:Act} {Q:Exit->Act->World->Prop} (hgd:o.guard=none) (s x:Operand)
  (ho:o.op=.call {callee:=.builtin .append,args:=#[s,x],argTypes:=#[56,56]})
  (base:Nat) (v:Value) (n:Nat) (xs:List Value) (hs:a.eval s=v) (N3:w.ownsRow base 128 2 v n xs)
  (u:Value) (l:List (Int×Int)) (lo hi:Nat) (hx:a.eval x=u) (Pz:af w u l lo hi)
  (h63:n+l.length<=maxLen) (Qb:(n+l.length)*16<=140737488355328) (Qc:base<=w.heap.size)
  (h:∀v' w',w'.ownsRow base 128 2 v' (n+l.length) (xs++No l)->w.grownBy w' v.ownBlock->wpList Tryz.prog ops Q rest (a.put o.dst v') w'):
  wpList Tryz.prog ops Q (o::rest) a w:=by
 obtain⟨i0,q0,q1,q2,q3⟩:=gT
 obtain⟨p,c,rfl⟩:=Pz.shape
 cases p with
 |none=>
  have UI:l=[]:=by
   rcases Pz with⟨h,_⟩|⟨b,off,c',e,_⟩
   .exact h
   .simp at e
  subst UI
  refine wpList_plain hgd fun K hK=>?_
  have NT:=jH (P:=Tryz.prog) (w:=w) base 56 o.type 128 i0 2 Tryz.underlying56 q0 v n c xs N3
  have hx':a.eval x=.slice none 0 c:=hx
  unfold Oper.wp
  simp[execOp,ho,resolve,invoke,builtin,hs,hx',NT,Result.andThen]
  exact hK _ _ (h v w (by simpa[No]using N3) (qy _ _))
 |some ad=>
  have NW:∀j u,(No l)[j]? =some u->w.cell? (ad.add j)=some u:=by
   rcases Pz with⟨rfl,_⟩|⟨b,off,c',e,h2⟩
   .intro j u hj;simp[No]at hj
   .simp at e
    exact M27
  refine Mv w hgd s x 56 ho base 128 i0 _ 2 16 Tryz.underlying56 q0 q1 q2 q3 rfl (by decide) v n xs hs N3 ad l.length c (No l) hx (dv l) NW (kH l) h63 Qb Qc ?_
  intro v' w' h2 h3 _ _
  exact h v' w' h2 h3
theorem I8 (f:Nat->Bool) (k:Nat):cA f k<=k:=by
 induction k with
 |zero=>exact Md _
 |succ k ih=>rw[cA];split<;>omega
def iG (f s:Int) (a:Int×Int):Prop:=f<=a.1/\1<=a.2/\a.1<s/\a.1+a.2<=s
def kn (a b:Int×Int):Prop:=a.1+a.2<=b.1\/b.1+b.2<=a.1
theorem kn.symm {a b:Int×Int} (h:kn a b):kn b a:=Or.symm h
def eQ (f s:Int) (l:List (Int×Int)):Prop:=(∀a∈l,iG f s a)/\l.Pairwise kn
theorem DG {f s:Int} {l':List (Int×Int)} (h:l'.Perm l):eQ f s l'↔eQ f s l:=by
 unfold eQ
 rw[List.Perm.pairwise_iff (fun h=>kn.symm h) h]
 constructor
 .rintro⟨h1,h2⟩;exact⟨fun a ha=>h1 a (h.mem_iff.2 ha),h2⟩
 .rintro⟨h1,h2⟩;exact⟨fun a ha=>h1 a (h.mem_iff.1 ha),h2⟩
def Nh:Nat->Nat->List UInt8
 |_,0=>[]
 |n,k+1=>UInt8.ofNat n::Nh (n/256) k
theorem aq (n k:Nat):(Nh n k).length=k:=by
 induction k generalizing n with
 |zero=>rfl
 |succ k ih=>simp[Nh,ih]
theorem Dz (n k:Nat):Nh n (k+1)=Nh n k++[UInt8.ofNat (n/256^k)]:=by
 induction k generalizing n with
 |zero=>simp[Nh]
 |succ k ih=>
  rw[Nh,ih (n/256),Nh,Nat.div_div_eq_div_mul,Nat.pow_succ,Nat.mul_comm 256]
  rfl
def gO (l:List UInt8):Array Value:=(l.map fun b=>Value.int .u8 (b.toNat:Int)).toArray
theorem rV (l:List UInt8):(gO l).size=l.length:=by simp[gO]
theorem Cr (l:List UInt8) (i:Nat) (c:UInt8):(gO l).setIfInBounds i (.int .u8 (c.toNat:Int))=gO (l.set i c):=by
 apply Array.toList_inj.1
 simp[gO]
theorem Du {l:List UInt8} (h:ae w b (gO l) t):Lib.Bytes w b 0 (bs l):=by
 intro i hi
 rw[Nj]at hi
 rw[Nat.zero_add,h.cell i (by rw[rV];exact hi)]
 simp only[gO,List.getElem_toArray,MZ]
 rfl
theorem FH {n k i:Nat} (ho:ae w b (gO (Nh n i++List.replicate (k-i) 0)) t) (Ns:i<k):
  ae (w.setCell ⟨b,i,none⟩ (.int .u8 ((n:Int)/2^(8*i)%256))) b (gO (Nh n (i+1)++List.replicate (k-(i+1)) 0)) t:=by
 have h:=ho.set i (.int .u8 ((UInt8.ofNat (n/256^i)).toNat:Int))
 rw[Cr]at h
 have e1:((UInt8.ofNat (n/256^i)).toNat:Int)=(n:Int)/2^(8*i)%256:=by
  rw[UInt8.toNat_ofNat']
  have:(2:Nat)^(8*i)=256^i:=by rw[Nat.pow_mul]
  rw[<-this]
  simp
 have e2:(Nh n i++List.replicate (k-i) 0).set i (UInt8.ofNat (n/256^i))=Nh n (i+1)++List.replicate (k-(i+1)) 0:=by
  obtain⟨d,hd⟩:∃d,k-i=d+1:=⟨k-i-1,by omega⟩
  have Rf:k-(i+1)=d:=by omega
  rw[hd,Rf,List.replicate_succ,Dz,List.set_append_right _ _ (by rw[aq];exact Md _),aq,Nat.sub_self]
  simp
 rw[e1,e2]at h
 exact h
theorem qZ (n k:Nat) (w:World) (hn:n<2^64) (hk:k<=8):
  Calls Tryz.prog 173 #[.int .u64 n,.int .i64 k] w fun e w'=>e=.returned (.string (bs (Nh n k)))/\aa [] w w':=by
 have hi:(Tryz.prog.info? 5).map (fun i=>(i.zero,i.size,i.bytes))=some (some (.int .u8 0),1,1):=by kernel_rfl
 obtain⟨i0,hi0,hz0,PS,P8⟩:=info_parts hi
 have UC:∀w:World,(Instr.makeSlice 61 (.int .i64 k) (.int .i64 k)).run Tryz.prog w=.ok (.slice (some ⟨w.heap.size,0,none⟩) k k) (w.alloc (.cells (gO (List.replicate k 0)) 5)):=fun w=>by
  have h:=run_make (P:=Tryz.prog) w 61 5 i0 (.int .u8 0) Tryz.underlying61 hi0 hz0 .i64 .i64 k k (by omega) (by omega) (by rw[P8];omega) (by omega)
  rw[h,PS]
  congr 3
  apply Array.toList_inj.1
  simp[gO,Value.cells,toList_madeCells_one]
 go_enter Tryz.func173,Tryz.ntmps173
 go_wp2_with fail
 go_loopw [11] (fun x wr=>∃i:Nat,i<=k/\x=.int .i64 i/\ae wr w.heap.size (gO (Nh n i++List.replicate (k-i) 0)) 5/\aa [] w wr) (fun x _=>k-(intOf x).toNat)
 case atStart=>exact⟨0,Mu _,rfl,ae.new _ _ _,(aa.refl _ _).alloc _⟩
 case round=>
  obtain⟨i,hik,rfl,ho,hkp⟩:=hrel
  by_cases Ns:i<k
  .have c0:∃v,wr.cell? ⟨w.heap.size,i,none⟩=some v:=⟨_,ho.cell i (by rw[rV];simp[aq];omega)⟩
   obtain⟨v,c0⟩:=c0
   have z0:=ho.free i
   go_wp2_with fail
   go_roundw
   case rel=>exact⟨i+1,by omega,by go_num,FH ho Ns,hkp.setCell (Or.inr (Md _)) _⟩
   case measure=>simp[intOf];omega
  .obtain rfl:i=k:=by omega
   have hb:=Du ho
   have e:Nh n i++List.replicate (i-i) 0=Nh n i:=by rw[Nat.sub_self];simp
   rw[e]at hb
   have Tm:=Lib.run_convert_whole (P:=Tryz.prog) wr 61 5 9 Tryz.underlying61 Tryz.underlying5 Tryz.underlying9 _ _ _ hb i
   rw[Nj,aq]at Tm
   go_wp2_with fail
   go_ret
   exact⟨rfl,hkp⟩
theorem ng (n:Nat) (w:World) (hn:n<256):
  Calls Tryz.prog 174 #[.int .u8 n] w fun e w'=>e=.returned (.string (bs (Nh n 1)))/\aa [] w w':=by
 have h:∀w,Calls Tryz.prog 173 #[.int .u64 n,.int .i64 1] w fun e w'=>e=.returned (.string (bs (Nh n 1)))/\aa [] w w':=fun w=>qZ n 1 w (by omega) (by omega)
 go_enter Tryz.func174,Tryz.ntmps174
 go_wp2_with fail
 refine(h _).mono ?_;rintro e w1 ⟨rfl,hk⟩
 go_wp2_with fail
 go_ret
 exact⟨rfl,hk⟩
theorem gu (n:Nat) (w:World) (hn:n<65536):
  Calls Tryz.prog 100 #[.int .u16 n] w fun e w'=>e=.returned (.string (bs (Nh n 2)))/\aa [] w w':=by
 have h:∀w,Calls Tryz.prog 173 #[.int .u64 n,.int .i64 2] w fun e w'=>e=.returned (.string (bs (Nh n 2)))/\aa [] w w':=fun w=>qZ n 2 w (by omega) (by omega)
 go_enter Tryz.func100,Tryz.ntmps100
 go_wp2_with fail
 refine(h _).mono ?_;rintro e w1 ⟨rfl,hk⟩
 go_wp2_with fail
 go_ret
 exact⟨rfl,hk⟩
theorem eh (n:Nat) (w:World) (hn:n<4294967296):
  Calls Tryz.prog 102 #[.int .u32 n] w fun e w'=>e=.returned (.string (bs (Nh n 4)))/\aa [] w w':=by
 have h:∀w,Calls Tryz.prog 173 #[.int .u64 n,.int .i64 4] w fun e w'=>e=.returned (.string (bs (Nh n 4)))/\aa [] w w':=fun w=>qZ n 4 w (by omega) (by omega)
 go_enter Tryz.func102,Tryz.ntmps102
 go_wp2_with fail
 refine(h _).mono ?_;rintro e w1 ⟨rfl,hk⟩
 go_wp2_with fail
 go_ret
 exact⟨rfl,hk⟩
theorem Iv (n:Nat) (w:World) (hn:n<18446744073709551616):
  Calls Tryz.prog 229 #[.int .u64 n] w fun e w'=>e=.returned (.string (bs (Nh n 8)))/\aa [] w w':=by
 have h:∀w,Calls Tryz.prog 173 #[.int .u64 n,.int .i64 8] w fun e w'=>e=.returned (.string (bs (Nh n 8)))/\aa [] w w':=fun w=>qZ n 8 w (by omega) (by omega)
 go_enter Tryz.func229,Tryz.ntmps229
 go_wp2_with fail
 refine(h _).mono ?_;rintro e w1 ⟨rfl,hk⟩
 go_wp2_with fail
 go_ret
 exact⟨rfl,hk⟩
def dF (l:List UInt8):List UInt8:=Nh l.length 4++l
theorem Cm (a:List UInt8) (s:ByteArray):bs a++s=bs (a++s.data.toList):=by
 apply ByteArray.ext;apply Array.toList_inj.1;simp[bs,ByteArray.data_append]
theorem pK (s:ByteArray):s.data.toList.length=s.size:=by simp
theorem xG (s:ByteArray) (w:World) (hs:s.size<4294967296):
  Calls Tryz.prog 175 #[.string s] w fun e w'=>e=.returned (.string (bs (dF s.data.toList)))/\aa [] w w':=by
 have h:=fun w=>eh s.size w (by omega)
 have hz:(bs (Nh s.size 4)).size<=4:=by rw[Nj,aq];omega
 have N6:=Mb (Cm (Nh s.size 4) s)
 go_enter Tryz.func175,Tryz.ntmps175
 go_wp2_with fail
 refine(h _).mono ?_;rintro e w1 ⟨rfl,hk⟩
 go_wp2_with fail
 go_ret
 refine⟨?_,hk⟩
 show Ending.returned (Value.string (bs (Nh s.size 4)++s))=_
 rw[N6.out,dF,pK]
def aO (w:World) (b:Nat) (l:List UInt8) (e:Int):Prop:=ae w b #[.string (bs l),.int .i64 e] 290
theorem oh (s:ByteArray) (w:World):
  Calls Tryz.prog 188 #[.string s] w fun e w'=>e=.returned (.pointer (some ⟨w.heap.size,0,none⟩))/\aO w' w.heap.size s.data.toList 0/\aa [] w w':=by
 go_enter Tryz.func188,Tryz.ntmps188
 go_wp2_with fail
 go_ret
 refine⟨rfl,?_,(aa.refl _ _).alloc _⟩
 have h:=ae.new w #[.string s,.int .i64 0] 290
 unfold aO
 rw[oU]
 exact h
def nt (e x:Int):Int:=if x=0 then e else x
theorem qt (e:Int):nt e 0=e:=rfl
theorem BS {e x:Int} (h:x≠0):nt e x=x:=if_neg h
theorem xH (b:Nat) (l:List UInt8) (x e:Int) (w:World) (hR:aO w b l x):
  Calls Tryz.prog 242 #[.pointer (some ⟨b,0,none⟩),.int .i64 e] w fun r w'=>r=.returned (.tuple #[])/\aO w' b [] (nt e x)/\aa [b] w w':=by
 have c0:w.cell? ⟨b,0,none⟩=some (.string (bs l)):=ae.cell hR 0 (by simp)
 have c1:w.cell? ⟨b,1,none⟩=some (.int .i64 x):=ae.cell hR 1 (by simp)
 have z0:=ae.free hR 0
 have z1:=ae.free hR 1
 by_cases hx:x=0
 .subst hx
  rw[qt]
  go_enter Tryz.func242,Tryz.ntmps242
  go_wp2_with fail
  go_end0
  refine⟨rfl,?_,((aa.refl _ _).setCell (Or.inl (by simp)) _).setCell (Or.inl (by simp)) _⟩
  have h2:=(ae.set hR 0 (.string {data:=#[]})).set 1 (.int .i64 e)
  unfold aO
  simpa[bs]using h2
 .have hd:(x==0)=false:=by simpa using hx
  rw[BS hx]
  go_enter Tryz.func242,Tryz.ntmps242
  go_wp2_with fail
  go_end0
  refine⟨rfl,?_,(aa.refl _ _).setCell (Or.inl (by simp)) _⟩
  have h2:=ae.set hR 0 (.string {data:=#[]})
  unfold aO
  simpa[bs]using h2
end Go.Proofs.YtdkimcnlhmhpgaaGreat

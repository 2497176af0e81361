/- -/
import Derived.Test.YtdkimcnlhmhpgaaGreatK33
import Derived.Test.YtdkimcnlhmhpgaaGreatK35
set_option maxHeartbeats 16000000
set_option maxRecDepth 100000
set_option linter.unusedVariables false
set_option linter.unusedSimpArgs false
namespace Go.Proofs.YtdkimcnlhmhpgaaGreat
open Go.RowKit
variable {c:aj} {s t:List UInt8} {ls:List (List ag)} {OH jr:Int} {l:List (Int×Int)}
def aY (k:Int) (l:List ag):List Nf:=(l.filter (fun r=>decide (r.kind=k))).map (·.item)
theorem lQ (k:Int) (l m:List ag):aY k (l++m)=aY k l++aY k m:=by unfold aY;rw[List.filter_append,Ms]
theorem BQ (k:Int) (l:List ag) (r:ag):aY k (l++[r])=iV r.kind k r.item (aY k l):=by
 rw[lQ]
 unfold iV aY
 by_cases h:r.kind=k<;>simp[h]
theorem kM (k:Int):∀L:List Nf,aY k (L.map (·.told k))=L
 |[]=>rfl
 |a::L=>by
  have ih:=kM k L
  unfold aY at ih ⊢
  rw[List.map_cons,List.filter_cons_of_pos (by simp[Nf.told]),List.map_cons,ih]
  rfl
theorem gd {k j:Int} (h:j≠k):∀L:List Nf,aY k (L.map (·.told j))=[]
 |[]=>rfl
 |a::L=>by
  have ih:=gd h L
  unfold aY at ih ⊢
  rw[List.map_cons,List.filter_cons_of_neg (by simp[Nf.told,h])]
  exact ih
theorem BR (c:aj):aY 1 (N0 c)=c.boxes/\aY 2 (N0 c)=c.mans/\aY 3 (N0 c)=c.names:=by
 unfold N0
 simp only[lQ]
 rw[kM 1,kM 2,kM 3,gd (show(2:Int)≠1 by decide),gd (show(3:Int)≠1 by decide),gd (show(1:Int)≠2 by decide),gd (show(3:Int)≠2 by decide),gd (show(1:Int)≠3 by decide),gd (show(2:Int)≠3 by decide)]
 simp
theorem Ek :∀r∈N0 c,r.kind=1\/r.kind=2\/r.kind=3:=by
 intro r hr
 unfold N0 at hr
 simp only[Mj,MV]at hr
 rcases hr with(⟨a,_,rfl⟩|⟨a,_,rfl⟩)|⟨a,_,rfl⟩
 .exact Or.inl rfl
 .exact Or.inr (Or.inl rfl)
 .exact Or.inr (Or.inr rfl)
def jf (c:aj):Prop:=(Lit.int .u32 c.nextBox).wf=true/\(Lit.int .u32 c.nextMan).wf=true/\∀r∈N0 c,r.fits
theorem cC.fit {w:World} {v:Value} (h:cC w v c):jf c:=by
 obtain⟨vb,vm,vn,rfl,hb,hm,hn,Pr,hwm⟩:=h
 have hf:∀{u:Value} {L:List Nf},aS w u L->∀a∈L,a.fits:=fun{u L} hi a ha=>by
  obtain⟨vs,hvs,_,OJ⟩:=hi
  rw[<-hvs]at ha
  obtain⟨x,hx,rfl⟩:=MV.1 ha
  exact(OJ x hx).2.1
 refine⟨Pr,hwm,fun r hr=>?_⟩
 unfold N0 at hr
 simp only[Mj,MV]at hr
 rcases hr with(⟨a,ha,rfl⟩|⟨a,ha,rfl⟩)|⟨a,ha,rfl⟩
 .exact Nf.gB (hf hb a ha) (by decide)
 .exact Nf.gB (hf hm a ha) (by decide)
 .exact Nf.gB (hf hn a ha) (by decide)
def tm (c:aj):List UInt8:=if N0 c=[]then[]else iL (N0 c)
def tP (c:aj):List (List ag):=if N0 c=[]then[]else[N0 c]
theorem sH (c:aj):(tP c).flatten=N0 c:=by
 unfold tP;split
 .rename_i h;rw[h];rfl
 .simp
theorem IG (c:aj):(tP c).length<=1:=by unfold tP;split<;>simp
theorem yo (c:aj):jb c=kO c.nextBox.toNat c.nextMan.toNat++tm c:=rfl
theorem ku (hm:aM c) (hf:jf c):N9 (tm c)=some (tP c):=by
 unfold tm tP
 split
 .rfl
 .rename_i h
  have h1:1<=(N0 c).length:=by
   cases e:N0 c with
   |nil=>exact absurd e h
   |cons a t=>simp
  have h2:(N0 c).length<=8192:=by
   have:=hm.boxes.1;have:=hm.mans.1;have:=hm.names.1
   rw[il];omega
  have:=vC [N0 c] (fun l hl=>by
   have:l=N0 c:=by simpa using hl
   subst this
   exact⟨fun r hr=>⟨jU hm r hr,hf.2.2 r hr⟩,h1,h2⟩)
  simpa using this
def nbT (u:List UInt8):Nat:=(Ny 4 u 0).1
def nmT (u:List UInt8):Nat:=(Ny 4 (Ny 4 u 0).2.1 (Ny 4 u 0).2.2).1
theorem FG (nb nm:Nat) (h1:nb<4294967296) (h2:nm<4294967296) (rest:List UInt8):nbT (Nh nb 4++(Nh nm 4++rest))=nb/\nmT (Nh nb 4++(Nh nm 4++rest))=nm:=by
 unfold nbT nmT
 rw[eO _ (by simpa using h1)]
 simp only
 rw[eO _ (by simpa using h2)]
 refine⟨?_,?_⟩<;>first|rfl|trivial
def Q5 (u:List UInt8) (ls:List (List ag)):aj:=⟨nbT u,nmT u,aY 1 ls.flatten,aY 2 ls.flatten,aY 3 ls.flatten⟩
theorem Gg (hf:jf c):(c.nextBox.toNat:Int)=c.nextBox/\c.nextBox.toNat<4294967296/\(c.nextMan.toNat:Int)=c.nextMan/\c.nextMan.toNat<4294967296:=by
 obtain⟨b1,b2⟩:=bP hf.1
 obtain⟨b3,b4⟩:=bP hf.2.1
 omega
theorem Gu (hf:jf c) (rest:List UInt8):Q5 (Nh c.nextBox.toNat 4++(Nh c.nextMan.toNat 4++rest)) (tP c)=c:=by
 obtain⟨e1,e2,e3,e4⟩:=Gg hf
 obtain⟨h1,h2⟩:=FG _ _ e2 e4 rest
 obtain⟨k1,k2,k3⟩:=BR c
 unfold Q5
 rw[sH,h1,h2,e1,e3,k1,k2,k3]
theorem iB (c:aj):12<=(jb c).length/\(jb c).take 4=[67,65,84,76]/\((jb c).take 12).drop 4=Nh c.nextBox.toNat 4++(Nh c.nextMan.toNat 4++[])/\(jb c).drop 12=tm c:=by
 rw[yo]
 have hl:=qx c.nextBox.toNat c.nextMan.toNat
 refine⟨by rw[Mc,hl];omega,?_,?_,?_⟩
 .unfold kO
  simp
 .rw[MS (by omega),Mk (by omega)]
  unfold kO
  simp
 .rw[List.drop_append_of_le_length (by omega),List.drop_of_length_le (by omega)];simp
theorem qg (hp:dz c=s) (ho:fh s=some t):t=jb c:=by
 subst hp
 unfold dz at ho
 rw[vK]at ho
 injection ho with ho
 exact ho.symm
theorem xB (hp:dz c=s):fh s=some (jb c):=by subst hp;exact vK _
theorem nw (hm:aM c) (hf:jf c) (hp:dz c=s) (ho:fh s=some t) (hr:N9 (t.drop 12)=some ls):
  12<=t.length/\t.take 4=[67,65,84,76]/\ls=tP c/\Q5 ((t.take 12).drop 4) ls=c:=by
 have e:=qg hp ho
 subst e
 obtain⟨h1,h2,h3,h4⟩:=iB c
 rw[h4,ku hm hf]at hr
 injection hr with hr
 subst hr
 refine⟨h1,h2,rfl,?_⟩
 rw[h3]
 exact Gu hf []
def jZ (s:List UInt8):Prop:=∀c,aM c->jf c->dz c≠s
theorem Bz (h:fh s=none):jZ s:=fun c hm hf hp=>by rw[xB hp]at h;cases h
theorem tM (ho:fh s=some t) (h:¬(12<=t.length/\t.take 4=[67,65,84,76])):jZ s:=fun c hm hf hp=>by
 have e:=qg hp ho
 subst e
 exact h ⟨(iB c).1,(iB c).2.1⟩
theorem By (ho:fh s=some t) (h:N9 (t.drop 12)=none):jZ s:=fun c hm hf hp=>by
 have e:=qg hp ho
 subst e
 rw[(iB c).2.2.2,ku hm hf]at h;cases h
theorem BA (ho:fh s=some t) (hr:N9 (t.drop 12)=some ls) (h:¬ls.length<=1):jZ s:=fun c hm hf hp=>by
 obtain⟨_,_,rfl,_⟩:=nw hm hf hp ho hr
 exact h (IG c)
theorem BB (ho:fh s=some t) (hr:N9 (t.drop 12)=some ls) {r:ag} (Sq:r∈ls.flatten) (h:¬(r.kind=1\/r.kind=2\/r.kind=3)):jZ s:=fun c hm hf hp=>by
 obtain⟨_,_,rfl,_⟩:=nw hm hf hp ho hr
 rw[sH]at Sq
 exact h (Ek r Sq)
theorem BC (ho:fh s=some t) (hr:N9 (t.drop 12)=some ls) (h:¬(aM (Q5 ((t.take 12).drop 4) ls)/\dz (Q5 ((t.take 12).drop 4) ls)=s)):jZ s:=fun c hm hf hp=>by
 obtain⟨_,_,_,e⟩:=nw hm hf hp ho hr
 rw[e]at h
 exact h ⟨hm,hp⟩
theorem Fp {d:aj} (hc:aM c) (fc:jf c) (hd:aM d) (fd:jf d) (h:dz c=dz d):c=d:=by
 have ho:=xB (c:=c) rfl
 have hr:N9 ((jb c).drop 12)=some (tP c):=by rw[(iB c).2.2.2,ku hc fc]
 obtain⟨_,_,_,e1⟩:=nw hc fc rfl ho hr
 obtain⟨_,_,_,e2⟩:=nw hd fd h.symm ho hr
 rw[<-e1,<-e2]
theorem Ip (hp:dz c=s):16<=s.length:=by
 subst hp
 have:=(iB c).1
 unfold dz eR
 rw[Mc,aq];omega
def mB (OH jr:Int) (a:Int×Int):Prop:=1<=a.2/\2<=a.1/\jr<=a.1-2/\a.1<=OH/\a.2<=OH-a.1
def qV (a b:Int×Int):Prop:=¬(a.1<b.1+b.2/\b.1<a.1+a.2)
theorem qV.symm {a b:Int×Int} (h:qV a b):qV b a:=fun hh=>h ⟨hh.2,hh.1⟩
def Oi (OH jr:Int) (l:List (Int×Int)):Prop:=(∀a∈l,mB OH jr a)/\l.Pairwise qV
theorem DP (OH jr:Int):Oi OH jr []:=⟨fun a ha=>(by cases ha),List.Pairwise.nil⟩
theorem DO {OH jr:Int} {l:List (Int×Int)} {k:Nat} (hk:k<l.length) (h:¬mB OH jr l[k]):¬Oi OH jr l:=fun hh=>h (hh.1 _ (Mh hk))
theorem tQ {l':List (Int×Int)} (h:l'.Perm l):Oi OH jr l'↔Oi OH jr l:=
 ⟨fun hh=>⟨fun a ha=>hh.1 a (h.mem_iff.2 ha),(List.Perm.pairwise_iff (fun Xs=>Xs.symm) h).1 hh.2⟩,fun hh=>⟨fun a ha=>hh.1 a (h.mem_iff.1 ha),(List.Perm.pairwise_iff (fun Xs=>Xs.symm) h).2 hh.2⟩⟩
theorem xS {OH jr:Int} {l:List (Int×Int)} (hr:jE l) (OJ:∀a∈l,mB OH jr a) (h:∀k (hk:k+1<l.length),l[k].1+l[k].2<=l[k+1].1):Oi OH jr l:=by
 refine⟨OJ,List.pairwise_iff_getElem.2 (fun i j hi hj Vu=>?_)⟩
 have h1:l[i].1+l[i].2<=l[j].1:=by
  have h2:=h i (by omega)
  by_cases e:i+1=j
  .subst e;exact h2
  .have:=List.pairwise_iff_getElem.1 hr (i+1) j (by omega) hj (by omega)
   omega
 unfold qV
 omega
theorem BM {k:Nat} (hk:k+1<l.length) (hr:jE l) (h:l[k+1].1<l[k].1+l[k].2):¬Oi OH jr l:=fun hh=>by
 have h1:=List.pairwise_iff_getElem.1 hr k (k+1) (by omega) hk (by omega)
 have h2:=List.pairwise_iff_getElem.1 hh.2 k (k+1) (by omega) hk (by omega)
 have h3:=(hh.1 _ (Mh hk)).1
 unfold qV at h2
 omega
end Go.Proofs.YtdkimcnlhmhpgaaGreat
namespace Go.Proofs.YtdkimcnlhmhpgaaGreat
open Go.RowKit
variable {c:aj} {t a b:List UInt8} {s:SB}
open Classical in
noncomputable def jB (t:List UInt8):Option aj:=if h:∃c,aM c/\jf c/\dz c=t then some (Classical.choose h)else none
theorem wt (hm:aM c) (hf:jf c) (hp:dz c=t):jB t=some c:=by
 have h:∃c,aM c/\jf c/\dz c=t:=⟨c,hm,hf,hp⟩
 unfold jB
 rw[dif_pos h]
 obtain⟨h1,h2,h3⟩:=Classical.choose_spec h
 rw[Fp h1 h2 hm hf (h3.trans hp.symm)]
theorem Gv (h:jZ t):jB t=none:=by
 unfold jB
 rw[dif_neg]
 rintro⟨c,h1,h2,h3⟩
 exact h c h1 h2 h3
theorem uw (h:jB t=some c):aM c/\jf c/\dz c=t:=by
 unfold jB at h
 split at h
 .rename_i hh
  injection h with h
  subst h
  exact Classical.choose_spec hh
 .cases h
noncomputable def OV (d:DK) (s:SB):Option aj:=if s.size=0 then some bI else if Nr d s.runs s.size=0 then jB (Ov d s.runs s.size)else none
noncomputable def cp:aj->List (List ag)->Option aj
 |c,[]=>some c
 |c,l::ls=>if(Nn c l).2=0 then cp (Nn c l).1 ls else none
theorem iX:∀(c:aj) (ls ms:List (List ag)),cp c (ls++ms)=(cp c ls).bind fun c'=>cp c' ms
 |c,[],ms=>rfl
 |c,l::ls,ms=>by
  show(if(Nn c l).2=0 then cp (Nn c l).1 (ls++ms)else none)=(if(Nn c l).2=0 then cp (Nn c l).1 ls else none).bind _
  split
  .exact iX _ ls ms
  .rfl
open Classical in
noncomputable def Oq (d:DK) (s:SB):Option aj:=
 (OV d s).bind fun c=>if NC d s.journal s.used=0 then((N9 (Oh d s.journal s.used)).bind fun ls=>(cp c ls).bind fun c'=>if Oi s.sectors s.journal (NN c'++s.runs)then some c' else none)else none
open Classical in
noncomputable def iZ (a b:List UInt8):Option SB:=if qF a/\¬(uX b/\(OW a).seq<(OW b).seq)then some (OW a)else if uX b/\¬(qF a/\(OW b).seq<(OW a).seq)then some (OW b)else none
theorem n9 {o:Option (List UInt8)} (h:nH a b o):iZ a b=o.map OW:=by
 unfold iZ
 rcases h with⟨rfl,h1,h2⟩|⟨rfl,h1,h2⟩|⟨rfl,h1,h2⟩
 .rw[if_neg (fun hh=>h1 hh.1),if_neg (fun hh=>h2 hh.1)];rfl
 .rw[if_pos ⟨h1,h2⟩];rfl
 .by_cases hh:qF a/\¬(uX b/\(OW a).seq<(OW b).seq)
  .exfalso
   have e1:=h1.2
   have e2:=hh.1.2
   rcases Nat.lt_trichotomy (OW a).seq (OW b).seq with h|h|h
   .exact hh.2 ⟨h1,h⟩
   .omega
   .exact h2 ⟨hh.1,h⟩
  .rw[if_neg hh,if_pos ⟨h1,h2⟩];rfl
noncomputable def PB (d:DK):Option (SB×aj):=(iZ (Og d 0) (Og d 1)).bind fun s=>if s.sectors=(d.stand.length:Int)then(Oq d s).map fun c=>(s,c)else none
structure ez (d:DK) (s:SB) (c:aj):Prop where
 pick:iZ (Og d 0) (Og d 1)=some s
 sect:s.sectors=(d.stand.length:Int)
 stood:∃c0 ls,OV d s=some c0/\NC d s.journal s.used=0/\N9 (Oh d s.journal s.used)=some ls/\cp c0 ls=some c
 lies:Oi s.sectors s.journal (NN c++s.runs)
open Classical in
theorem tN {d:DK} :PB d=some (s,c)↔ez d s c:=by
 constructor
 .intro h
  unfold PB at h
  obtain⟨s',h1,h2⟩:=Option.bind_eq_some_iff.1 h
  split at h2
  .rename_i hs
   obtain⟨c',h3,h4⟩:=Option.map_eq_some_iff.1 h2
   injection h4 with e1 e2
   subst e1 e2
   unfold Oq at h3
   obtain⟨c0,h5,h6⟩:=Option.bind_eq_some_iff.1 h3
   split at h6
   .rename_i hl
    obtain⟨ls,h7,h8⟩:=Option.bind_eq_some_iff.1 h6
    obtain⟨c1,h9,h10⟩:=Option.bind_eq_some_iff.1 h8
    split at h10
    .rename_i hL
     injection h10 with e
     subst e
     exact⟨h1,hs,⟨c0,ls,h5,hl,h7,h9⟩,hL⟩
    .cases h10
   .cases h6
  .cases h2
 .rintro⟨h1,h2,⟨c0,ls,h3,h4,h5,h6⟩,h7⟩
  unfold PB
  rw[h1]
  show(if s.sectors=(d.stand.length:Int)then(Oq d s).map fun c=>(s,c)else none)=_
  rw[if_pos h2]
  have e:Oq d s=some c:=by
   unfold Oq
   rw[h3]
   show(if NC d s.journal s.used=0 then _ else none)=_
   rw[if_pos h4,h5]
   show(cp c0 ls).bind _=_
   rw[h6]
   show(if Oi s.sectors s.journal (NN c++s.runs)then some c else none)=_
   rw[if_pos h7]
  rw[e];rfl
theorem qj (h:iZ a b=some s):s.may/\s.seq<18446744073709551616/\(s.sector=a/\s.seq%2=0\/s.sector=b/\s.seq%2=1):=by
 unfold iZ at h
 split at h
 .rename_i hh
  injection h with h
  subst h
  exact⟨hh.1.1.2.2.1,(tT a 8 8),Or.inl ⟨hh.1.1.2.2.2,hh.1.2⟩⟩
 .split at h
  .rename_i hh
   injection h with h
   subst h
   exact⟨hh.1.1.2.2.1,(tT b 8 8),Or.inr ⟨hh.1.1.2.2.2,hh.1.2⟩⟩
  .cases h
end Go.Proofs.YtdkimcnlhmhpgaaGreat
namespace Go.Proofs.YtdkimcnlhmhpgaaGreat
open Go.RowKit
variable {w w':World} {b sb mb B lo:Nat} {x0 x1 x2 x3 x4 x5 x6 x7 x8 x9 x10 x11 x12:Value} {t:TypeId} {T:List Nat} {s:SB} {c:aj} {v:VS}
theorem ae.jC (h:ae w b #[x0,x1,x2,x3,x4,x5,x6,x7,x8,x9,x10,x11,x12] t):w.cell? ⟨b,0,none⟩=some x0/\w.cell? ⟨b,1,none⟩=some x1/\w.cell? ⟨b,2,none⟩=some x2/\w.cell? ⟨b,3,none⟩=some x3/\w.cell? ⟨b,4,none⟩=some x4/\w.cell? ⟨b,5,none⟩=some x5/\w.cell? ⟨b,6,none⟩=some x6/\w.cell? ⟨b,7,none⟩=some x7/\w.cell? ⟨b,8,none⟩=some x8/\w.cell? ⟨b,9,none⟩=some x9/\w.cell? ⟨b,10,none⟩=some x10/\w.cell? ⟨b,11,none⟩=some x11/\w.cell? ⟨b,12,none⟩=some x12:=
 ⟨h.cell 0 (by simp),h.cell 1 (by simp),h.cell 2 (by simp),h.cell 3 (by simp),h.cell 4 (by simp),h.cell 5 (by simp),h.cell 6 (by simp),h.cell 7 (by simp),h.cell 8 (by simp),h.cell 9 (by simp),h.cell 10 (by simp),h.cell 11 (by simp),h.cell 12 (by simp)⟩
theorem ae.LG (h:ae w b #[x0,x1,x2,x3,x4,x5,x6,x7,x8,x9,x10,x11,x12] t) (u:Value):ae (w.setCell ⟨b,12,none⟩ u) b #[x0,x1,x2,x3,x4,x5,x6,x7,x8,x9,x10,x11,u] t:=h.set 12 u
theorem aW.vh {g:Nat} (h:aW T w b sb mb g) (hB:B∈T):aW [B] w b sb mb g:=h.mono (fun x hx=>by
 obtain rfl:x=B:=by simpa using hx
 exact hB)
theorem PK.GR (h:PK [B] b sb mb w w') (hB:B∈T):PK T b sb mb w w':=h.mono (fun x hx=>by
 obtain rfl:x=B:=by simpa using hx
 exact hB)
theorem aI.Lh {d:DK} {cs:Array Value} (h:aI w b sb mb lo d) (k:aa [B] w w') (hB:aW [] w b sb mb B) (o:ae w B cs 90):aI w' b sb mb lo d:=by
 obtain⟨wv,n,ob,os,Ti,hm,hn,h2,h3,h4,h5,h6,r⟩:=h
 obtain⟨_,n1,n2,n3,_⟩:=hB
 exact⟨wv,n,k.own ob (by simp only[MB];exact fun e=>n1 e.symm),k.own os (by simp only[MB];exact fun e=>n2 e.symm),cw Ti k o (by decide),hm.kept k (by simp only[MB];exact fun e=>n3 e.symm),hn,h2,h3,h4,h5,MA h6 k.size,r⟩
section
variable {T:List Nat} {w w':World} {B b sb mb lo:Nat} {v:VS}
theorem ay.aQ (h:ay T w B b sb mb lo v):b<w.heap.size:=h.da.aQ
theorem ay.L7 (h:ay T w B b sb mb lo v):B<w.heap.size:=h.hT B h.hB
theorem ay.aJ (h:ay T w B b sb mb lo v) (k:aa [] w w'):ay T w' B b sb mb lo v:=
 h.pk (S:=[]) (k.bM h.aQ) (h.da.aJ k) (fun x hx=>by cases hx) (by simp)
theorem ay.LH (h:ay T w B b sb mb lo v) (k:aa [B] w w'):PK T b sb mb w w':=
 k.pk h.aQ (fun x hx=>by
  obtain rfl:x=B:=by simpa using hx
  exact⟨h.off.2.1,Or.inl h.hB⟩)
theorem ay.jO (h:ay T w B b sb mb lo v) (k:aa [B] w w'):PK [B] b sb mb w w':=
 k.pk h.aQ (fun x hx=>by
  obtain rfl:x=B:=by simpa using hx
  exact⟨h.off.2.1,Or.inl Mg⟩)
theorem ay.Be (h:ay T w B b sb mb lo v) (k:aa [B] w w') {dead:Bool} {sv vb vm vn:Value} (o:ae w' B (bf b s sv c vb vm vn dead) 90) (hr:b8 T w b sb mb sv s.runs) (hc:cO T w b sb mb (.agg #[.int .u32 c.nextBox,.int .u32 c.nextMan,vb,vm,vn]) c):
  ay T w' B b sb mb lo ⟨v.d,s,c,dead⟩:=by
 obtain⟨sv0,vb0,vm0,vn0,o0,_,_⟩:=h.vol
 have hk:=h.LH k
 exact⟨⟨h.da.disk.Lh k h.off o0,h.da.fit⟩,⟨sv,vb,vm,vn,o,hr.pk hk,hc.pk hk⟩,h.hB,fun x hx=>Mo (h.hT x hx) k.size,⟨by simp,h.off.2.1,h.off.2.2.1,h.off.2.2.2.1,fun hx=>h.off.2.2.2.2 ((WB.gz (k.cell (a:=⟨b,1,none⟩) h.aQ (by simp only[MB];exact fun e=>h.off.2.1 e.symm))).1 hx)⟩⟩
end
theorem mX (h:ay T w B b sb mb lo v):Calls Tryz.prog 42 #[.pointer (some ⟨B,0,none⟩)] w fun e w'=>e=.returned (.int .i64 (if v.dead=true then 90 else 0))/\w=w':=by
 obtain⟨sv,vb,vm,vn,o,_,_⟩:=h.vol
 obtain⟨x0,x1,x2,x3,x4,x5,x6,x7,x8,x9,x10,x11,x12⟩:=o.jC
 clear h o
 cases hd:v.dead
 .rw[hd]at x12
  clear x1 x2 x3 x4 x5 x6 x7 x8 x9 x10 x11
  rw[if_neg (by simp)]
  go_enter Tryz.func42,Tryz.ntmps42
  go_wp2_with fail
  go_ret
  exact⟨rfl,rfl⟩
 .rw[hd]at x12
  clear x1 x2 x3 x4 x5 x6 x7 x8 x9 x10 x11
  rw[if_pos rfl]
  go_enter Tryz.func42,Tryz.ntmps42
  go_wp2_with fail
  go_ret
  exact⟨rfl,rfl⟩
theorem M21 {A:Prop}(h:A:=by
 have HS:Hid (∀x,x=(v.dead||c==90)->ay T (w.setCell ⟨B,12,none⟩ (.bool x)) B b sb mb lo (Oy (v,c)).1):=Mb (by
  rintro x rfl
  obtain⟨sv,vb,vm,vn,o,hr,N5⟩:=h.vol
  exact h.Be ((aa.refl [B] w).setCell (p:=⟨B,12,none⟩) (Or.inl (by simp)) _) (o.LG _) hr N5)
 obtain⟨sv,vb,vm,vn,o,_,_⟩:=h.vol
 obtain⟨x0,x1,x2,x3,x4,x5,x6,x7,x8,x9,x10,x11,x12⟩:=o.jC
 have z12:=o.free 12
 clear h o x0 x1 x2 x3 x4 x5 x6 x7 x8 x9 x10 x11
 generalize hb90:(c==90)=q at*
 generalize Oy (v,c)=R at*
 generalize v.dead=dd at*
 have k1:aa [B] w (w.setCell ⟨B,12,none⟩ (.bool (dd||q))):=(aa.refl [B] w).setCell (p:=⟨B,12,none⟩) (Or.inl (by simp)) _
 have K1:=Mb k1
 clear k1
 cases dd<;>cases q
 all_goals
  go_enter Tryz.func51,Tryz.ntmps51
  go_wp2_with fail
  go_ret
  exact⟨rfl,HS.out _ rfl,K1.out⟩):A:=h
theorem KG (h:ay T w B b sb mb lo v) (c:Int) (hc:(Lit.int .i64 c).wf=true):Calls Tryz.prog 51 #[.pointer (some ⟨B,0,none⟩),.int .i64 c] w fun e w'=>e=.returned (.int .i64 c)/\ay T w' B b sb mb lo (Oy (v,c)).1/\aa [B] w w':=by
 exact M21
theorem xe (k:Int) (w:World):Calls Tryz.prog 47 #[.int .i64 k] w fun e w'=>e=.returned (.bool (NH k))/\w=w':=by
 unfold NH
 cases h1:(k==1)<;>cases h2:(k==2)<;>cases h3:(k==3)
 all_goals
  go_enter Tryz.func47,Tryz.ntmps47
  go_wp2_with fail
  go_ret
  exact⟨rfl,rfl⟩
def VC.cells (x:VC):Array Value:=#[.int .i64 x.kind,.int .u32 x.id,.string (bs x.name),.string (bs x.bytes)]
theorem KM {T S:List Nat} (fs:List (VS->VS×Int)) (us:List (Nat×Array Value×Array Value)) (hl:us.length=fs.length) (g off c:Nat) {w:World} {B b sb mb lo:Nat} {v:VS} (hV:ay T w B b sb mb lo v) (hn:us.length<=1000)
  (hen:∀(i:Nat) (h:i<us.length),Enters Tryz.prog us[i].1)
  (NW:∀W,PK S b sb mb w W->∀(i:Nat) (h:i<us.length),W.cell? ⟨g,off+i,none⟩=some (.func (.func us[i].1) us[i].2.1 us[i].2.2))
  (NQ:∀(k:Nat) (h:k<us.length) W,ay T W B b sb mb lo (kr fs v k)->PK S b sb mb w W->(∀i (hi:i<k),((fs[i]'(by omega)) (kr fs v i)).2=0)->Calls Tryz.prog us[k].1 (us[k].2.1++us[k].2.2) W fun e W'=>e=.returned (.int .i64 ((fs[k]'(hl▸h)) (kr fs v k)).2)/\ay T W' B b sb mb lo ((fs[k]'(hl▸h)) (kr fs v k)).1/\PK S b sb mb W W'):
  Calls Tryz.prog 37 #[.slice (some ⟨g,off,none⟩) us.length c] w fun e w'=>e=.returned (.int .i64 (NK fs v).2)/\ay T w' B b sb mb lo (NK fs v).1/\PK S b sb mb w w':=by
 refine(JI us (fun k=>if h:k<fs.length then(fs[k] (kr fs v k)).2 else 0) (fun k W=>ay T W B b sb mb lo (kr fs v k)/\PK S b sb mb w W) g off c w hn hen ⟨hV,PK.refl _ _ _ _ _⟩ (fun k W hI i h=>NW W hI.2 i h) (fun k h W hI hz=>?_)).mono ?_
 .have hk:k<fs.length:=hl▸h
  refine(NQ k h W hI.1 hI.2 (fun i hi=>?_)).mono ?_
  .have:=hz i hi
   rw[dif_pos (by omega)]at this
   exact this
  .rintro e W' ⟨h1,h2,h3⟩
   rw[dif_pos hk,r6 fs v k hk]
   exact⟨h1,h2,hI.2.trans h3⟩
 .rintro e w' (⟨k,h1,h2,h3,h4,h5,h6⟩|⟨h2,h4,h5,h6⟩)
  .have hk:k<fs.length:=hl▸h1
   rw[dif_pos hk]at h3 h4
   rw[r6 fs v k hk]at h5
   rw[rU fs v k hk (fun i hi=>by
    have:=h2 i hi
    rw[dif_pos (by omega)]at this
    exact this) h3]
   exact⟨h4,h5,h6⟩
  .rw[uv fs v (fun i hi=>by
    have:=h2 i (by omega)
    rw[dif_pos hi]at this
    exact this)]
   rw[hl]at h5
   exact⟨h4,h5,h6⟩
theorem KL {T:List Nat} (n gS gD:Nat) (s:SB) (rv:Value) {w:World} {b sb mb lo:Nat} {d:DK} (hD:DA w b sb mb lo d) (hT:∀x∈T,x<w.heap.size)
  (on:ae w n #[.func (.func 39) #[.pointer (some ⟨b,0,none⟩)] #[],.func (.func 92) #[] #[.pointer (some ⟨gS,0,none⟩),.pointer (some ⟨gD,0,none⟩)]] 42)
  (hS:ae w gS (s.cells rv) 58) (hd:ae w gD #[.pointer (some ⟨b,0,none⟩)] 23)
  (f0:aW T w b sb mb n) (fS:aW T w b sb mb gS) (fD:aW T w b sb mb gD) (hr:b8 T w b sb mb rv s.runs)
  (hm:s.may) (hq:s.seq<18446744073709551616) (ho:d.ops<=80000) (hw:d.waits.length<=8000):
  Calls Tryz.prog 37 #[.slice (some ⟨n,0,none⟩) 2 2] w fun e w'=>e=.returned (.int .i64 (ah [Ni,aE s] d).2)/\DA w' b sb mb lo (ah [Ni,aE s] d).1/\PK T b sb mb w w':=by
 refine wG [Ni,aE s] [(39,#[.pointer (some ⟨b,0,none⟩)],#[]),(92,#[],#[.pointer (some ⟨gS,0,none⟩),.pointer (some ⟨gD,0,none⟩)])] rfl n 0 2 hD (by simp) (fun k h=>?_) on.lt f0 (fun k h=>?_) (fun k h W hW hk _=>?_)
 .match k,h with
  |0,_=>exact enters_of Tryz.func39 (by kernel_rfl) rfl
  |1,_=>exact enters_of Tryz.func92 (by kernel_rfl) rfl
 .match k,h with
  |0,_=>exact on.cell 0 (by simp)
  |1,_=>exact on.cell 1 (by simp)
 .have e3:=fO d
  match k,h with
  |0,_=>exact pF hW (by show d.ops<_;omega) (by show d.waits.length<=_;omega)
  |1,_=>
   have:=wZ (T:=T) gS gD s rv hW (fun x hx=>Mo (hT x hx) hk.size) (hk.own hS fS) (hk.own hd fD) (hr.pk hk) hm hq (fS.pk hk hS.lt) (fD.pk hk hd.lt) (by show(Ni d).1.ops<=_;omega) (by show(Ni d).1.waits.length<=_;omega)
   exact this
theorem tv (base:Nat) (v:Value) (n:Nat) (xs:List Value) (N3:w.ownsRow base 128 2 v n xs) (u:Value) (l:List (Int×Int)) (lo hi:Nat) (Pz:af w u l lo hi)
  (h63:n+l.length<=maxLen) (Qb:(n+l.length)*16<=140737488355328) (Qc:base<=w.heap.size):
  ∃v' w',(Builtin.append_ #[56,56] 56 #[v,u]).run Tryz.prog w=.ok v' w'/\w'.ownsRow base 128 2 v' (n+l.length) (xs++No l)/\w.grownBy w' v.ownBlock:=by
 obtain⟨i0,q0,q1,q2,q3⟩:=gT
 obtain⟨p,c,rfl⟩:=Pz.shape
 cases p with
 |none=>
  have UI:l=[]:=by
   rcases Pz with⟨h,_⟩|⟨b,off,c',e,_⟩
   .exact h
   .simp at e
  subst UI
  have NT:=jH (P:=Tryz.prog) (w:=w) base 56 56 128 i0 2 Tryz.underlying56 q0 v n c xs N3
  exact⟨v,w,NT,by simpa[No]using N3,qy _ _⟩
 |some ad=>
  have NW:∀j u,(No l)[j]? =some u->w.cell? (ad.add j)=some u:=by
   rcases Pz with⟨rfl,_⟩|⟨b,off,c',e,h2⟩
   .intro j u hj;simp[No]at hj
   .simp at e
    exact M27
  obtain⟨v',w',h1,h2,h3,_,_⟩:=run_append_own_at (P:=Tryz.prog) w base 56 56 128 i0 _ 2 16 Tryz.underlying56 q0 q1 q2 q3 rfl (by decide) v n xs N3 ad l.length c (No l) (dv l) NW (kH l) h63 Qb Qc
  exact⟨v',w',h1,h2,h3⟩
theorem Af (x:VC) (w:World):Calls Tryz.prog 95 #[.agg #[.int .i64 x.kind,.int .u32 x.id,.string (bs x.name),.string (bs x.bytes)]] w fun e w'=>e=.returned (.agg #[.int .i64 x.kind,.int .u32 x.id,.string (bs x.name),.int .i64 0,.slice none 0 0])/\aa [] w w':=by
 go_enter Tryz.func95,Tryz.ntmps95
 go_wp2_with fail
 obtain⟨k,i,n,s⟩:=x
 simp only
 refine Mx (v:=.agg #[.int .i64 k,.int .u32 i,.string (bs n),.int .i64 0,.slice none 0 0]) (nf Tryz.results95 rfl (t:=102) ?_ Tryz.underlying102 rfl (by kernel_rfl)) rfl ⟨rfl,?_⟩
 .first
   |exact(cQ w _ _ _ _).2
 .first
   |exact((aa.refl _ _).alloc _).alloc _
theorem Kn {u:Value} (h:cC w u c):∀a∈NN c,aU a:=by
 obtain⟨vb,vm,vn,rfl,hb,hm,hn,_⟩:=h
 have key:∀{u:Value} {l:List Nf},aS w u l->∀x∈l,∀a∈x.runs,aU a:=by
  intro u l h x hx
  obtain⟨vs,rfl,_,h3⟩:=h
  obtain⟨y,hy,rfl⟩:=MV.1 hx
  exact(h3 y hy).2.2
 intro a ha
 unfold NN N0 at ha
 obtain⟨l,hl,hal⟩:=List.mem_flatten.1 ha
 obtain⟨r,hr,rfl⟩:=MV.1 hl
 simp only[Mj,MV]at hr
 rcases hr with(⟨x,hx,rfl⟩|⟨x,hx,rfl⟩)|⟨x,hx,rfl⟩
 .exact key hb x hx a hal
 .exact key hm x hx a hal
 .exact key hn x hx a hal
theorem Bg (h:s.may):∀a∈s.runs,aU a:=by
 intro a ha
 obtain⟨k,hk,rfl⟩:=MO.1 ha
 have h1:=ie (Md _) h.2.1 k hk
 have h2:=eM.1 h1
 have h3:=h.1
 unfold SB.eF at h3
 unfold aU
 omega
theorem A9 (hV:ay T w B b sb mb lo v) (hm:v.s.may) (hc:aM v.c) (hf:v.c.boxes.length+v.c.mans.length+v.c.names.length<=5000):
  Calls Tryz.prog 56 #[.pointer (some ⟨B,0,none⟩)] w (bG (Nk v) w):=by
 obtain⟨sv,vb,vm,vn,o,hr,N5⟩:=hV.vol
 obtain⟨⟨OD,On,NT⟩,_⟩:=hr
 have Po:=vy hc
 have Rn:=hm.1
 have acz:=Bg hm
 have abt:=Kn N5.plain
 have acq:Hid (∀W,aa [] w W->Calls Tryz.prog 115 #[.agg #[.int .u32 v.c.nextBox,.int .u32 v.c.nextMan,vb,vm,vn]] W (bG (NN v.c) W)):=Mb (fun W k=>wR _ v.c W (N5.plain.kept0 k) hf (by omega))
 have HB:=Mb hV.aQ
 have HO:Hid (∀W,aa [] w W->ae W B (bf b v.s sv v.c vb vm vn v.dead) 90):=Mb (fun W k=>k.own o (by simp))
 have XE:Hid (∀W,aa [] w W->af W sv v.s.runs OD On):=Mb (fun W k=>NT.kept0 k)
 unfold SB.eF at Rn
 have HMI:Hid (∀W va loa hia vb2 lob Un,af W va [(2+v.s.journal,v.s.sectors-(2+v.s.journal))] loa hia->af W vb2 (NN v.c++v.s.runs) lob Un->Calls Tryz.prog 96 #[va,vb2] W (bG (Nk v) W)):=Mb (fun W va loa hia vb2 lob Un h1 h2=>CM va _ loa hia vb2 _ lob Un W h1 h2 (by simp) (by rw[Mc];omega) (fun a ha=>by
   obtain rfl:=MB.1 ha
   unfold aU;simp only;omega) (fun a ha=>by
   rcases Mj.1 ha with ha|ha
   .exact abt a ha
   .exact acz a ha))
 have ZE:(NN v.c).length<=80000:=by omega
 have YX:v.s.runs.length<=16:=by omega
 have j1:1<=v.s.journal:=by omega
 have j2:v.s.journal<=v.s.sectors-2:=by omega
 have j3:v.s.sectors<=8192:=by omega
 have ZJ:=Mb ZE
 have HLS:=Mb YX
 obtain⟨p1,c1,rfl⟩:=NT.shape
 obtain⟨d,s,c,dead⟩:=v
 obtain⟨sq,se,jr,us,sz,rs⟩:=s
 simp only at*
 obtain⟨fr,hfr⟩:∃fr,fr=2+jr:=⟨_,rfl⟩
 obtain⟨ln,hln⟩:∃ln,ln=se-fr:=⟨_,rfl⟩
 generalize NN c=RC at*
 generalize Nk _=RX at*
 obtain⟨x0,x1,x2,x3,x4,x5,x6,x7,x8,x9,x10,x11,x12⟩:=o.jC
 clear hV hm hc hf N5 NT Po Rn acz abt ZE YX
 go_enter Tryz.func56,Tryz.ntmps56
 clear x0 x1 x4 x5 x12
 have Oe:Hid (∀W,aa [] w W->W.cell? ⟨B,2,none⟩=some (.int .i64 se)/\W.cell? ⟨B,6,none⟩=some (.slice p1 rs.length c1)/\W.cell? ⟨B,7,none⟩=some (.int .u32 c.nextBox)/\W.cell? ⟨B,8,none⟩=some (.int .u32 c.nextMan)/\W.cell? ⟨B,9,none⟩=some (vb)/\W.cell? ⟨B,10,none⟩=some (vm)/\W.cell? ⟨B,11,none⟩=some (vn)):=Mb (fun W k=>by
  obtain⟨_,_,a2,_,_,_,a6,a7,a8,a9,a10,a11,_⟩:=(HO.out W k).jC
  exact⟨a2,a6,a7,a8,a9,a10,a11⟩)
 clear o
 go_upto_region 2 with fail
 refine Ml (S:=(fun W=>W.cell? ⟨B,2,none⟩=some (.int .i64 se)/\W.cell? ⟨B,6,none⟩=some (.slice p1 rs.length c1)/\W.cell? ⟨B,7,none⟩=some (.int .u32 c.nextBox)/\W.cell? ⟨B,8,none⟩=some (.int .u32 c.nextMan)/\W.cell? ⟨B,9,none⟩=some (vb)/\W.cell? ⟨B,10,none⟩=some (vm)/\W.cell? ⟨B,11,none⟩=some (vn))) (by kernel_rfl) (by exact Oe.out _ ((aa.refl [] w).drew)) (fun hHeld=>?_)
 refine tk 0 11 ?_
 refine tk 1 12 ?_
 refine tk 2 13 ?_
 refine tk 3 14 ?_
 refine tk 5 16 ?_
 refine tk 6 17 ?_
 refine tk 7 18 ?_
 refine tk 8 19 ?_
 refine tk 9 20 ?_
 refine rd 4 (fun K hK=>?_)
 go_simp
 ((with_reducible refine(acq.out _ ((aa.refl [] w).drew)).mono ?_));rintro e w2 ⟨u,rfl,N3,k2⟩
 have kk:=((aa.refl [] w).drew).trans k2
 have Zh:w2.ownsRow w.heap.size 128 2 u RC.length (No RC):=aH N3 (by simp)
 have K2:=Mb kk
 have abm:=Mb Zh
 obtain⟨pu,cu,rfl⟩:=ai N3
 clear N3 kk k2 Zh
 go_wp2_with fail
 refine hK.out _ _ ?_ (fun hHeld=>nm ?_)
 .exact Oe.out _ K2.out
 clear hK K
 obtain⟨v5,w5,UF,Od,hgr5⟩:=tv w.heap.size _ RC.length (No RC) abm.out (.slice p1 rs.length c1) rs OD On (XE.out _ K2.out) (by have:=ZJ.out;have:=HLS.out;unfold maxLen;omega) (by have:=ZJ.out;have:=HLS.out;omega) K2.out.size
 have K5:=Mb (K2.out.grown hgr5 (fun q hq=>Or.inr (Mn abm.out q hq).1))
 obtain⟨p5,c5,rfl⟩:=ai Od
 have W9:w5.ownsRow w.heap.size 128 2 (.slice p5 (RC.length+rs.length) c5) (RC++rs).length (No (RC++rs)):=by rw[Mc,show No (RC++rs)=No RC++No rs from by simp[No]];exact Od
 have aaD:=Mb W9
 have acL:=Mb UF
 clear UF Od hgr5 W9
 refine rd 10 (fun K hK=>?_)
 refine bB rfl _ _ 56 56 rfl _ _ (by simp[Act.eval,Act.put]) (by simp[Act.eval,Act.put]) acL.out ?_
 refine hK.out _ _ ?_ (fun hHeld=>nm ?_)
 .exact Oe.out _ K5.out
 clear hK K
 refine tk 11 4 ?_
 refine MM (by kernel_rfl) ?_ _
 try simp only[List.set_cons_succ,List.set_cons_zero]
 obtain⟨a2,_⟩:=Oe.out _ K5.out
 go_wp2_with fail
 with_reducible refine(HMI.out _ _ w5.heap.size (w5.heap.size+1) _ _ _ (C8 w5 (2+jr) (se-(2+jr))) (af.bo (Me aaD.out _))).mono ?_
 rintro e w6 ⟨u6,rfl,hown6,k6⟩
 have K6:=Mb ((K5.out.alloc (.cells #[.int .i64 (2+jr),.int .i64 (se-(2+jr))] 128)).trans k6)
 have ac4:=Mb (aH hown6 (K5.out.alloc (.cells #[.int .i64 (2+jr),.int .i64 (se-(2+jr))] 128)).size)
 obtain⟨p6,c6,rfl⟩:=ai hown6
 clear hown6 k6
 go_wp2_with fail
 go_ret
 exact⟨_,rfl,ac4.out,K6.out⟩
end Go.Proofs.YtdkimcnlhmhpgaaGreat

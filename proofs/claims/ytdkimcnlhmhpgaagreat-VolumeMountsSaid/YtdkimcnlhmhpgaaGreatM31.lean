/- -/
import Derived.Test.YtdkimcnlhmhpgaaGreatM30
set_option maxHeartbeats 32000000
set_option maxRecDepth 100000
namespace Go.Proofs.YtdkimcnlhmhpgaaGreat
open Go.Proofs.Tryz Go.RowKit
variable {c:au} {l:List NS} {x:NS} {r:ag} {s t:List UInt8} {o:List ag} {ls:List (List ag)} {d:DK}
def jn (c:au):Prop:=(Lit.int .u32 c.nextBox).wf=true/\(Lit.int .u32 c.nextMan).wf=true/\(∀a∈c.boxes,a.fits)/\(∀a∈c.mans,a.fits)/\∀a∈c.names,a.fits
theorem rQ :il c↔jn c:=by
 constructor
 .rintro⟨h1,h2,h3⟩
  refine⟨h1,h2,fun a ha=>?_,fun a ha=>?_,fun a ha=>?_⟩
  .exact(h3 (a.told 1) (by unfold Ov;simp only[Na,ND];exact Or.inl (Or.inl ⟨a,ha,rfl⟩))).2
  .exact(h3 (a.told 2) (by unfold Ov;simp only[Na,ND];exact Or.inl (Or.inr ⟨a,ha,rfl⟩))).2
  .exact(h3 (a.told 3) (by unfold Ov;simp only[Na,ND];exact Or.inr ⟨a,ha,rfl⟩)).2
 .rintro⟨h1,h2,h3,h4,h5⟩
  refine⟨h1,h2,fun r hr=>?_⟩
  unfold Ov at hr
  simp only[Na,ND]at hr
  rcases hr with(⟨a,ha,rfl⟩|⟨a,ha,rfl⟩)|⟨a,ha,rfl⟩
  .exact NS.dw (h3 a ha) _d
  .exact NS.dw (h4 a ha) _d
  .exact NS.dw (h5 a ha) _d
theorem mB {next:Int} {most:Nat} {turns:Bool} (h0:(Oc l x next most turns).2=0):∀a∈(Oc l x next most turns).1,a=x\/a∈l:=by
 unfold Oc at h0 ⊢
 split
 .exact fun a ha=>rG ha
 .rename_i h1
  rw[if_neg h1]at h0
  split at h0
  .cases h0
  .rename_i h2
   rw[if_neg h2]
   split at h0
   .cases h0
   .rename_i h3
    rw[if_neg h3]
    exact fun a ha=>rH ha
theorem nQ (h0:(OU l x).2=0):∀a∈(OU l x).1,a∈l:=by
 unfold OU at h0 ⊢
 split
 .exact fun a ha=>rI ha
 .rename_i h1
  rw[if_neg h1]at h0
  cases h0
theorem H9 (hc:jn c) (hr:az r=true) (hf:r.fits) (h0:(aW c r).2=0):jn (aW c r).1:=by
 obtain⟨h1,h2,h3,h4,h5⟩:=hc
 have hi:=xw hr
 have hx:=ag.jW hf
 have hid:0<=r.id:=(eG hf.2.1).1
 unfold aW at h0 ⊢
 by_cases k1:r.kind=1
 .rw[if_pos k1]at h0 ⊢
  refine⟨tF (by show 0<=r.id+1;omega) (by show r.id+1<=_;omega),h2,fun a ha=>?_,h4,h5⟩
  rcases mB h0 a ha with rfl|ha
  .exact hx
  .exact h3 a ha
 .rw[if_neg k1]at h0 ⊢
  by_cases k2:r.kind=2
  .rw[if_pos k2]at h0 ⊢
   have hb:=eG h2
   refine⟨h1,tF (by show 0<=max c.nextMan (r.id+1);omega) (by show max c.nextMan (r.id+1)<=_;omega),h3,fun a ha=>?_,h5⟩
   rcases mB h0 a ha with rfl|ha
   .exact hx
   .exact h4 a ha
  .rw[if_neg k2]at h0 ⊢
   by_cases k3:r.kind=3
   .rw[if_pos k3]at h0 ⊢
    refine⟨h1,h2,h3,h4,fun a ha=>?_⟩
    rcases mB h0 a ha with rfl|ha
    .exact hx
    .exact h5 a ha
   .rw[if_neg k3]at h0 ⊢
    by_cases k4:r.kind=4
    .rw[if_pos k4]at h0 ⊢
     exact⟨h1,h2,fun a ha=>h3 a (nQ h0 a ha),h4,h5⟩
    .rw[if_neg k4]at h0 ⊢
     by_cases k5:r.kind=5
     .rw[if_pos k5]at h0 ⊢
      exact⟨h1,h2,h3,fun a ha=>h4 a (nQ h0 a ha),h5⟩
     .rw[if_neg k5]at h0 ⊢
      exact⟨h1,h2,h3,h4,fun a ha=>h5 a (nQ h0 a ha)⟩
theorem wM:∀(l:List ag) {c:au},jn c->(∀r∈l,r.fits)->(cH c l).2=0->jn (cH c l).1
 |[],c,h,_,_=>h
 |r::l,c,h,hf,h0=>by
  unfold cH at h0 ⊢
  by_cases h1:az r=true
  .rw[if_pos h1]at h0 ⊢
   by_cases h2:(aW c r).2=0
   .rw[if_pos h2]at h0 ⊢
    exact wM l (H9 h h1 (hf r _b) h2) (fun q hq=>hf q (by simp[hq])) h0
   .rw[if_neg h2]at h0;exact absurd h0 h2
  .rw[if_neg h1]at h0;cases h0
theorem Lr (h:gk s=some (r,t)):r.fits/\t.length+5<=s.length:=by
 have h0:=h
 unfold gk at h
 split at h
 .rename_i hh
  injection h with h
  injection h with h1 h2
  subst h1 h2
  refine⟨pC _ _,?_⟩
  have hk:=nI hh.2
  have hm:=hh.2
  have l5:(Ps (nR s).1 s).2.1.length<=(nR s).2.1.length:=vk _ _ _
  have l4:(nR s).2.1.length<=(zR s).2.1.length:=zM _ _ _
  have l3:(zR s).2.1.length<=(tR s).2.1.length:=zJ _ _ _
  have l2:(tR s).2.1.length<=(iR s).2.1.length:=zK _ _ _
  have l1:(iR s).2.1.length<=(PP s).2.1.length:=zL _ _ _
  have ek:(Ps (nR s).1 s).1.kind=((PP s).1:Int):=rfl
  have ei:(Ps (nR s).1 s).1.id=((iR s).1:Int):=rfl
  have en:(Ps (nR s).1 s).1.name=(tR s).1:=rfl
  rw[ek]at hk
  have k0:(PP s).1≠0:=_a
  have e0:=jy (jx (k:=1) (l:=s) (x:=0) k0)
  have e0':(PP s).2.1.length+1=s.length:=e0.2
  unfold az gq at hm
  simp only[No,Bool.or_eq_true,decide_eq_true_eq,beq_iff_eq]at hm
  obtain⟨m1,m2,m3,m4,_⟩:=hm
  rw[ek,ei]at m2
  rw[ek,en]at m4
  rw[ek]at m1
  rcases m1 with m1|m1
  .rw[m1]at m2
   exact M70
  .rw[m1]at m4
   have hn:(tR s).1≠[]:=by
    intro e;rw[e]at m4;cases m4
   have eT:tR s=dY (iR s).2.1 (iR s).2.2:=by unfold tR uV;rw[m1];rfl
   have eT2:dY (iR s).2.1 (iR s).2.2=Ol ((PN 65536 (iR s).2.1 (iR s).2.2).1:Int) (PN 65536 (iR s).2.1 (iR s).2.2).2.1 (PN 65536 (iR s).2.1 (iR s).2.2).2.2:=rfl
   have h0:(Ol ((PN 65536 (iR s).2.1 (iR s).2.2).1:Int) (PN 65536 (iR s).2.1 (iR s).2.2).2.1 (PN 65536 (iR s).2.1 (iR s).2.2).2.2).2.2=0:=by
    exact M71
   have⟨q1,q2,q3⟩:=nf h0
   have q4:=congrArg List.length q3
   rw[tN,<-eT2,<-eT]at q4
   have q6:0<(tR s).1.length:=Nu.2 hn
   have q5:(PN 65536 (iR s).2.1 (iR s).2.2).2.1.length+4=(iR s).2.1.length:=by
    unfold PN at q1 ⊢
    simp only at q1 ⊢
    split at q1
    .rename_i hb
     exfalso
     unfold PD at q1
     simp only at q1
     split at q1<;>omega
    .rename_i hb
     rw[if_neg hb]
     exact(jy q1).2
   omega
 .cases h
theorem Ds:∀(n:Nat) {s t:List UInt8} {o:List ag},dg n s=some (o,t)->(∀r∈o,r.fits)/\t.length+5*n<=s.length/\o.length=n
 |0,s,t,o,h=>by
  exact adD
 |n+1,s,t,o,h=>by
  rw[dg]at h
  split at h
  .cases h
  .rename_i o' r' he
   have⟨i1,i2,i3⟩:=Ds n he
   split at h
   .cases h
   .rename_i x t' hx
    injection h with h
    injection h with h1 h2
    subst h1 h2
    have⟨j1,j2⟩:=Lr hx
    exact M80
theorem JY (h:dp s=some o):(∀r∈o,r.fits)/\5*o.length<=s.length:=by
 unfold dp at h
 split at h
 .split at h
  .rename_i o' he
   injection h with h
   subst h
   have⟨i1,i2,i3⟩:=Ds _ he
   have:=gY 2 s 0
   exact⟨i1,_a⟩
  .cases h
 .cases h
theorem Mo (h:gO s=some (o,t)):(∀r∈o,r.fits)/\5*o.length+t.length<=s.length:=by
 unfold gO at h
 split at h
 .cases h
 .rename_i o' hb
  split at h
  .rename_i hc
   injection h with h
   injection h with h1 h2
   subst h1 h2
   have⟨i1,i2⟩:=JY hb
   have:=(iZ hc.1).2
   exact⟨i1,_a⟩
  .cases h
theorem zI:∀(f:Nat) {s:List UInt8} {ls:List (List ag)},fq f s=some ls->(∀l∈ls,∀r∈l,r.fits)/\5*ls.flatten.length<=s.length
 |0,s,ls,h=>by
  rw[fq]at h
  split at h
  .injection h with h;subst h;exact⟨fun l hl=>(by cases hl),_b⟩
  .cases h
 |f+1,s,ls,h=>by
  rw[fq]at h
  split at h
  .injection h with h;subst h;exact⟨fun l hl=>(by cases hl),_b⟩
  .cases ht:gO s with
   |none=>rw[ht]at h;cases h
   |some p=>
    rw[ht]at h
    simp only[Option.bind_some]at h
    cases hr:fq f p.2 with
    |none=>rw[hr]at h;cases h
    |some ms=>
     rw[hr]at h
     simp only[Option.map_some]at h
     injection h with h
     subst h
     have⟨j1,j2⟩:=Mo (t:=p.2) ht
     have⟨i1,i2⟩:=zI f hr
     refine⟨fun l hl=>?_,by rw[List.flatten_cons,tN];omega⟩
     rcases List.mem_cons.1 hl with rfl|hl
     .exact j1
     .exact i1 l hl
theorem pN (h:O4 s=some ls):(∀l∈ls,∀r∈l,r.fits)/\5*ls.flatten.length<=s.length:=zI _ h
theorem vu {f:Nat->Bool} {n:Nat} (h:∀k,n<=k->f k=false):∀m,PM f m<=n
 |0=>Nb _
 |m+1=>by
  have ih:=vu h m
  by_cases hm:n<=m
  .unfold PM;rw[h m hm];simpa using ih
  .have:PM f (m+1)<=m+1:=zS f (m+1)
   omega
theorem rO (hf:dS d) (l:List (Int×Int)) (n:Int):(PV d l n).length<=128*d.stand.length:=by
 unfold PV
 split
 .rename_i h0
  have hX:dO l d.stand.length n:=by
   apply NG
   intro hh
   unfold N7 at h0
   rw[if_neg hh]at h0
   cases h0
  have h1:=lI hf (al:=NY l) (fun a ha=>by have:=(hX.lt ha).1;omega)
  have h2:OV l<=d.stand.length:=vu (fun k hk=>by
   cases e:OE l k with
   |false=>rfl
   |true=>
    have⟨a,ha,g1,g2⟩:=dr.1 e
    have h3:=hX.2.2.1.1 a ha
    unfold gQ at h3
    omega) 8192
  have h3:=hX.wC
  have h4:=hX.2.2.2
  rw[MO,h1]
  omega
 .simp
theorem me (_:dS d) (j u:Int):(Pq d j u).length<=128*d.stand.length:=by
 unfold Pq
 split
 .rename_i h0
  unfold Oi at h0
  split at h0
  .cases h0
  .rename_i UF
   have UF:bo d.stand.length j u=0:=by simpa using UF
   have⟨f1,f2,f3,f4⟩:=jX UF
   rw[MO]
   omega
 .simp
theorem IE (h:jQ t=some c):5*cQ c<=t.length:=by
 have⟨h1,h2,h3⟩:=tq h
 have h4:=(pN (iq h1 h2)).2
 rw[rJ,fN]at h4
 have h5:(bN c).length=12+(qf c).length+4:=by
  unfold bN dF
  rw[rX,tN,tN,mf,ak]
 rw[h3]at h5
 unfold cQ
 omega
theorem kE:∀(ls:List (List ag)) {c c':au},OL c->jn c->(∀l∈ls,∀r∈l,r.fits)->bM c ls=some c'->OL c'/\jn c'/\cQ c'<=cQ c+ls.flatten.length
 |[],c,c',hm,hf,_,h=>by
  injection h with h
  subst h
  exact⟨hm,hf,_b⟩
 |l::ls,c,c',hm,hf,hl,h=>by
  unfold bM at h
  split at h
  .rename_i h0
   have Qf:N8 c l=cH c l:=by unfold N8;rw[if_pos hm]
   have Q2:=DZ l c
   rw[Qf]at h h0 Q2
   have Ug:=hl l _b
   have⟨g1,g2,g3⟩:=kE ls (wL hm (fun r hr=>(eG (Ug r hr).2.1).1) h0) (wM l hf Ug h0) (fun m hm=>hl m (by simp[hm])) h
   refine⟨g1,g2,?_⟩
   rw[List.flatten_cons,tN]
   omega
  .cases h
theorem J3:jn cf:=⟨_d,_d,fun a ha=>V!,fun a ha=>V!,fun a ha=>V!⟩
theorem rY (hf:dS d) {s:SB} {c:au} (h:PA d s=some c):OL c/\jn c/\5*cQ c<=128*d.stand.length:=by
 unfold PA at h
 split at h
 .injection h with h
  subst h
  exact⟨pG,J3,by show 5*(0+0+0)<=_;omega⟩
 .split at h
  .have⟨h1,h2,h3⟩:=tq h
   have h4:=IE h
   have h5:=rO hf s.runs s.size
   exact⟨h1,rQ.1 h2,_a⟩
  .cases h
theorem yB (hf:dS d) {s:SB} {c:au} (h:zZ d s c):s.may/\s.seq<18446744073709551616/\OL c/\jn c/\5*cQ c<=256*d.stand.length:=by
 have⟨m1,m2,_⟩:=pA h.pick
 have⟨c0,ls,h1,h2,h3,h4⟩:=h.stood
 have⟨b1,b2,b3⟩:=rY hf h1
 have⟨r1,r2⟩:=pN h3
 have⟨g1,g2,g3⟩:=kE ls b1 b2 r1 h4
 have:=me hf s.journal s.used
 exact⟨m1,m2,g1,g2,_a⟩
def mm (d:DK) (s:SB) (w:World) (e:Ending) (w':World):Prop:=
 ((∃c v,PA d s=some c/\av (fun x=>x<w.heap.size) w' v c/\e=.returned (.tuple #[v,(0:Int)]))\/(PA d s=none/\∃C:Int,(C==0)=false/\e=.returned (.tuple #[.agg #[.int .u32 0,.int .u32 0,(),(),()],C])))/\NP [] w w'
theorem qR (d:DK) (l:List (Int×Int)) (n:Int):N7 d l n=0\/N7 d l n=90\/N7 d l n=1:=by
 unfold N7
 split
 .split
  .exact Or.inr (Or.inl rfl)
  .exact Or.inl rfl
 .exact Or.inr (Or.inr rfl)
theorem uK (h:O4 t=some ls) (hl:t.length<=s.length) (hs:s.length<=15000):∀l∈ls,l.length<=3000:=fun l Tg=>by
 have h1:=(pN h).2
 have h2:l.length<=ls.flatten.length:=by
  obtain⟨a,b,rfl⟩:=List.append_of_mem Tg
  rw[Nv,tN,List.flatten_cons,tN]
  omega
 omega
theorem E9 {l:List UInt8} (h:eO l=some t):t.length<=l.length:=by
 unfold eO at h
 split at h
 .injection h with h
  subst h
  rw[MO];omega
 .cases h
theorem GT (s:List UInt8) (w:World) (hs:s.length<=15000):am! 193 #[s] w (jI s w):=
 L6 s w _a (fun t ls ho hr=>uK (s:=s) hr (by have:=E9 ho;rw[MQ];omega) hs)
theorem M53 {A:Prop}(h:A:=by
 refine(av.aS (T:=[w.heap.size+1]) HC.out (NP.ay (NP.refl _ _) (Or.inl _b) _ _ _ _ _) (fun x hx=>?_)).cI (fun x hx=>?_)
 .obtain rfl:x=w.heap.size+1:=_h
  have:=Ye.out
  show w.heap.size+1<w2.heap.size
  omega
 .have:=Ye.out
  show x<w2.heap.size
  omega):A:=h
theorem Ja {w:World} {b sb mb lo:Nat} (hD:DA w b sb mb lo d) (hn:d.stand.length<=100) (s:SB) (v:Value) (PU PC:Nat) (hr:af w v s.runs PU PC) (hm:s.may):
  am! 122 #[b,.agg (s.cells v)] w (mm d s w):=by
 have T7:=qg hm
 have U4:=hm.1
 unfold SB.dD at U4
 have aaW:Hid (∀W,NP [] w W->am! 60 #[b,v,s.size] W fun e w'=>e=.returned (.tuple #[.string (bs (PV d s.runs s.size)),(N7 d s.runs s.size:Int)])/\NP [] W w'):=tK (fun W k=>GO v s.runs s.size PU PC (hD.aJ k) (hr.kept0 k) _a T7 (mn _a _a))
 have SN:=rO hD.fit s.runs s.size
 have QK:Hid (∀W,am! 193 #[.string (bs (PV d s.runs s.size))] W (jI (PV d s.runs s.size) W)):=tK (fun W=>GT _ W _a)
 unfold jI at QK
 have T9:Hid (s.size=0->PA d s=some cf):=tK (fun h=>by unfold PA;rw[if_pos h])
 have Zd:Hid (s.size≠0->N7 d s.runs s.size≠0->PA d s=none):=tK (fun h g=>by unfold PA;rw[if_neg h,if_neg g])
 have HB3:Hid (s.size≠0->N7 d s.runs s.size=0->PA d s=jQ (PV d s.runs s.size)):=tK (fun h g=>by unfold PA;rw[if_neg h,if_pos g])
 have HEM:Hid (∀W,am! 41 #[] W fun e w'=>e=.returned (.agg #[.int .u32 1,.int .u32 1,(),(),()])/\NP [] W w'):=tK (fun W=>BM W)
 have U0:=qR d s.runs s.size
 obtain⟨pr,cr,rfl⟩:=hr.shape
 unfold mm
 generalize PA d s=BX at*
 generalize PV d s.runs s.size=X at*
 generalize N7 d s.runs s.size=G at*
 have Z6:=tK U0
 obtain⟨sq,se,jr,us,sz,rs⟩:=s
 simp only at*
 have⟨o0,o1⟩:=ch w #[.int .u64 sq,se,jr,us,sz,(pr,rs.length,cr)] #[.int .u32 0,.int .u32 0,(),(),()] 58 52
 have OP:=((NP.refl [] w).alloc (.cells #[.int .u64 sq,se,jr,us,sz,(pr,rs.length,cr)] 58)).alloc (.cells #[.int .u32 0,.int .u32 0,(),(),()] 52)
 clear T7 U4 hr SN U0 hD hn
 simp only[SB.cells]
 go_enter func122,ntmps122
 have⟨x0,x1,x2,x3,x4,x5⟩:=o0.c6
 have⟨O0,O1,K1⟩:=gg! o0 o1 OP
 clear o0 o1 OP
 by_cases hz:sz=0
 .have hzz:(sz==0)=true:=by rw[hz];rfl
  have SP:=tK (T9.out hz)
  clear hz
  go_wp2_with fail
  refine(HEM.out _).mono ?_;rintro e w2 ⟨rfl,k2⟩
  have Us:=tK (k2.own O1.out _b)
  have K2:=tK (K1.out.trans k2)
  have⟨y0,y1,y2,y3,y4⟩:=Us.out.k5
  have⟨g0,g1,g2,g3,g4⟩:=Us.out.y5
  clear k2 x0 x1 x2 x3 x4 x5
  go_wp2_with fail
  refine MN (v:=.tuple #[.agg #[.int .u32 1,.int .u32 1,(),(),()],(0:Int)]) (aj results122 rfl rfl (t:=52) ?_ underlying52 rfl _c) rfl ?_
  .exact Us.out.aV _ _ _ _ _
  .exact⟨Or.inl ⟨cf,_,SP.out,⟨_,_,_,rfl,aq.nil _ _,aq.nil _ _,aq.nil _ _,_d,_d⟩,rfl⟩,NP.ay K2.out (Or.inr _a) _ _ _ _ _⟩
 .have hzz:(sz==0)=false:=by simpa using hz
  have HZ:=tK hz
  clear hz
  go_wp2_with fail
  refine(aaW.out _ K1.out).mono ?_;rintro e w2 ⟨rfl,k2⟩
  have O02:=tK (k2.own O0.out _b)
  have Us:=tK (k2.own O1.out _b)
  have K2:=tK (K1.out.trans k2)
  have Ye:Hid (w.heap.size+2<=w2.heap.size):=tK _Z
  clear k2 x0 x1 x2 x3 x4 x5
  by_cases hg:G=0
  .have hgg:(G==0)=true:=by rw[hg];rfl
   have SP:=tK (HB3.out HZ.out hg)
   clear hg
   go_wp2_with fail
   refine(QK.out _).mono ?_;rintro e w3 ⟨Rz,k3⟩
   have Uu:=tK (k3.own Us.out _b)
   have K3:=tK (K2.out.trans k3)
   have⟨y0,y1,y2,y3,y4⟩:=Uu.out.k5
   have⟨g0,g1,g2,g3,g4⟩:=Uu.out.y5
   clear k3
   rcases Rz with⟨c,v,Pz,UF,hpc,Oz,rfl⟩|⟨OF,rfl⟩
   .obtain⟨vb,vm,vn,rfl,hb,TF,QT,SU,TS⟩:=id Oz
    obtain⟨p1,c1,rfl⟩:=hb.plain.shape
    obtain⟨p2,c2,rfl⟩:=TF.plain.shape
    obtain⟨p3,c3,rfl⟩:=QT.plain.shape
    have HC:=tK Oz
    have V0:Hid (BX=some c):=tK (SP.out.trans (vz Pz UF hpc))
    clear Oz hb TF QT SU TS Pz UF hpc
    go_wp2_with fail
    refine MN (v:=.tuple #[.agg #[(c.nextBox,()),(c.nextMan,()),(p1,c.boxes.length,c1),(p2,c.mans.length,c2),(p3,c.names.length,c3)],(0:Int)]) (aj results122 rfl rfl (t:=52) ?_ underlying52 rfl _c) rfl ?_
    .exact Uu.out.aV _ _ _ _ _
    .refine⟨Or.inl ⟨c,_,V0.out,?_,rfl⟩,NP.ay K3.out (Or.inr _a) _ _ _ _ _⟩
     exact M53
   .have V0:Hid (BX=none):=tK (SP.out.trans (xP OF))
    clear OF
    go_wp2_with fail
    refine MN (v:=.tuple #[.agg #[.int .u32 0,.int .u32 0,(),(),()],(110:Int)]) (aj results122 rfl rfl (t:=52) ?_ underlying52 rfl _c) rfl ?_
    .exact Uu.out.aV _ _ _ _ _
    .exact⟨Or.inr ⟨V0.out,110,_d,rfl⟩,NP.ay K3.out (Or.inr _a) _ _ _ _ _⟩
  .have hgg:(G==0)=false:=by simpa using hg
   have SP:=tK (Zd.out HZ.out hg)
   have HGG:=tK hgg
   clear hg
   have⟨y0,y1,y2,y3,y4⟩:=Us.out.k5
   have⟨g0,g1,g2,g3,g4⟩:=Us.out.y5
   go_wp2_with fail
   refine MN (v:=.tuple #[.agg #[.int .u32 0,.int .u32 0,(),(),()],G]) (aj results122 rfl rfl (t:=52) ?_ underlying52 rfl _c) rfl ?_
   .exact Us.out.aV _ _ _ _ _
   .exact⟨Or.inr ⟨SP.out,G,HGG.out,rfl⟩,NP.ay K2.out (Or.inr _a) _ _ _ _ _⟩

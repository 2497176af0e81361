/- -/
import Derived.Test.YtdkimcnlhmhpgaaGreatM23
set_option maxHeartbeats 32000000
set_option maxRecDepth 100000
namespace Go.Proofs.YtdkimcnlhmhpgaaGreat
open Go.Proofs.Tryz Go.RowKit
variable {A:Prop} {a:Act} {w w0 w':World} {b i j:Nat} {s:List UInt8} {x:Int}
structure fX (w wr:World) (b:Nat) (s s1:List UInt8) (j:Nat) (v6:Value) (vs:List (ag×Value)) (rest:List UInt8) (x:Int):Prop where
 so:(x=0/\dg j s1=some (vs.map (·.1),rest))\/(x≠0/\dp s=none)
 rd:aK wr b rest x
 row:wr.ownsRow w 102 5 v6 j (bw vs)
 each:∀y∈vs,aE w wr y.2 y.1.runs/\y.1.fits
 len:vs.length=j
 kept:NP [] w wr
 hb:b=w.heap.size
section
variable {w wr w3 w5:World} {b:Nat} {s s1:List UInt8} {j:Nat} {v6 v' kv:Value} {vs:List (ag×Value)} {rest rest':List UInt8} {x x':Int} {r:ag} {o1:Obj}
theorem fX.new (h:fX w wr b s s1 j v6 vs rest x):aI w wr v6 (vs.map (·.1)):=
 ⟨vs,rfl,by rw[MP,h.len];exact h.row,h.each⟩
theorem fX.Jn (h:fX w wr b s s1 j v6 vs rest x) {S:List Nat} (kk:NP S wr w3) (hS:∀y∈S,y=b):w3.ownsRow w 102 5 v6 j (bw vs):=
 cF h.row kk (fun y hy _ cs hc=>by
  have⟨TL,o⟩:=h.rd.reader
  rw[hS y hy]at hc
  exact absurd (lA o hc) _d)
theorem fX.Bg (h:fX w wr b s s1 j v6 vs rest x) {S:List Nat} (kk:NP S wr w3) (hS:∀y∈S,y=b):NP [] w w3:=
 h.kept.call kk (fun y hy=>Or.inr (by have:=hS y hy;have:=h.hb;omega))
theorem fX.next (h:fX w wr b s s1 j v6 vs rest x) (ho:(x'=0/\dg (j+1) s1=some (vs.map (·.1)++[r],rest'))\/(x'≠0/\dp s=none))
  {S:List Nat} (kk:NP S wr w3) (hS:∀y∈S,y=b) (hR:aK w3 b rest' x') (hr:aE wr w3 kv r.runs) (hf:r.fits)
  (hg:(w3.alloc o1).grownBy w5 v6.ownBlock) (hn:w5.ownsRow w 102 5 v' (j+1) (bw vs++[Value.int .i64 r.kind,Value.int .u32 r.id,Value.string (bs r.name),Value.int .i64 r.size,kv])):
  fX w w5 b s s1 (j+1) v' (vs++[(r,kv)]) rest' x':=by
 have T3:=h.Jn kk hS
 have P6:=h.Bg kk hS
 have PW:=h.kept.size
 have Ua:∀y∈vs,aE w w3 y.2 y.1.runs/\y.1.fits:=fun y hy=>⟨(h.each y hy).1.aS kk (fun z hz=>by
  have⟨TL,o⟩:=h.rd.reader
  rw[hS z hz]
  exact Or.inr ⟨_,_,o,_d⟩),(h.each y hy).2⟩
 have TB:=MH T3 o1
 have hk:∀(u:Value) (rs:List (Int×Int)),aE w w3 u rs->aE w w5 u rs:=fun u rs hu=>by
  have hu':aE w (w3.alloc o1) u rs:=MH hu o1
  exact hu'.grown TB hg _d
 refine⟨?_,(hR.kept ((NP.refl [] w3).alloc o1) _b).grown TB hg _d,by rw[eF];exact hn,fun y hy=>?_,by rw[tN,h.len];rfl,(P6.alloc o1).grown hg (fun i hi=>Or.inr (ML TB i hi).1),h.hb⟩
 .simpa using ho
 .rcases Na.1 hy with hy|hy
  .exact⟨hk _ _ (Ua y hy).1,(Ua y hy).2⟩
  .have hy:y=(r,kv):=N!
   subst hy
   exact⟨hk _ _ (hr.base PW),hf⟩
end
theorem M28 (h:A:=by
 go_wp2_with fail
 refine HE.out.mono ?_;rintro e w4 ⟨rfl,nd,rfl⟩
 go_wp2_with fail
 go_ret2
 exact⟨Or.inr ⟨Rs.out,_,rfl⟩,QY.drewN _⟩):A:=h
theorem EF (s:List UInt8) (w:World) (hs:s.length<=1000000):
  am! 204 #[s] w (qY s w):=by
 have UM:aK (w.alloc (.cells #[s,(0:Int),(0:Int)] 263)) w s 0:=⟨s,0,ae.new _ _ _,_a,hs,_b,fun h=>absurd rfl h⟩
 have hu:=vN w s 0 _ UM
 have hx0:=fun h=>jx (k:=2) (l:=s) (x:=0) h
 have hxn:=fun h=>zq (k:=2) (l:=s) (x:=0) h
 have OF:=fun h=>zW (s:=s) h
 have Vv:=fun h=>tu (s:=s) h
 have Qp:=fun r o h=>tv (s:=s) (r:=r) (o:=o) h
 have Sv:=fun o h1 h2=>pW (s:=s) (o:=o) h1 h2
 have bn:=cp 2 s 0
 have⟨BN,HU,HX0,HXN,Pk,Se,Y5,Wv⟩:=ga! bn hu hx0 hxn OF Vv Qp Sv
 clear hu hx0 hxn OF Vv Qp Sv UM bn
 generalize N6 2 s 0=N at*
 have⟨n,s1,x1⟩:=N
 simp only at*
 go_enter func204,ntmps204
 go_wp2_with fail
 refine HU.out.mono ?_;rintro e w2 ⟨rfl,Qn,PY⟩
 have hK:NP [] w w2:=((NP.refl [] w).alloc _).call PY (fun y hy=>Or.inr (Nat.le_of_eq (Nm.1 hy).symm))
 have Oo:fX w w2 w s s1 0 () [] s1 x1:=⟨by
  by_cases hx:x1=0
  .exact Or.inl ⟨hx,rfl⟩
  .exact Or.inr ⟨hx,Pk.out (by have:=HXN.out hx;omega)⟩,Qn,Nf _ _ _ _,fun x hx=>J!,rfl,hK,rfl⟩
 have OY:=tK Oo
 clear Oo Qn PY hK HU
 generalize hbb:w.heap.size=b at*
 have HBB:=tK hbb
 clear hbb
 generalize QT:(n:Int)=nn at*
 have Uf:=tK QT
 clear QT
 go_wp2_with fail
 go_loopw [6,7,8] (fun v6 i v8 wr=>∃(j:Nat) (vs:List (ag×Value)) (rest:List UInt8) (x:Int),j<=n/\i=.int .u64 j/\fX w wr b s s1 j v6 vs rest x) (fun _ i _ _=>n-(intOf i).toNat)
 case atStart=>exact⟨0,[],s1,x1,_a,rfl,OY.out⟩
 case round=>
  obtain⟨j,vs,rest,x,hj,rfl,Oo⟩:=hrel
  obtain⟨p6,c6,rfl⟩:=ah Oo.row
  have hce:=Oo.rd.err
  have Sa:=tK Oo
  by_cases NV:j<n
  .have i1:(j:Int)<nn:=_x
   by_cases hx:x=0
   .subst hx
    have R7:dg j s1=some (vs.map (·.1),rest):=by
     rcases Oo.so with h|h
     .exact h.2
     .exact absurd rfl h.1
    have Pp:=Mg b rest wr Oo.rd
    have⟨Qt,VH,Of⟩:=gg! Pp R7 NV
    clear Pp Oo OY R7 NV hj
    go_wp2_with fail
    refine Qt.out.mono ?_;rintro e w3 ⟨m,kv,rfl,hm,NU,Q4,QL,P6⟩
    clear Qt
    have Oq:=pC m rest
    obtain⟨pk,ck,rfl⟩:=ah NU
    have Yo:((Ps m rest).2.2=0/\dg (j+1) s1=some (vs.map (·.1)++[(Ps m rest).1],(Ps m rest).2.1))\/((Ps m rest).2.2≠0/\dp s=none)\/(az (Ps m rest).1=false/\dp s=none):=by
     by_cases hx:(Ps m rest).2.2=0
     .have hmm:=QL hx
      subst hmm
      cases hM:az (Ps (nR rest).1 rest).1
      .exact Or.inr (Or.inr ⟨rfl,Se.out (by rw[kG VH.out (wR hM) Of.out])⟩)
      .exact Or.inl ⟨hx,nj VH.out (wQ hx hM)⟩
     .exact Or.inr (Or.inl ⟨hx,Se.out (by rw[kG VH.out (ED hx hm) Of.out])⟩)
    have Wp:az (Ps m rest).1=false->dp s=none:=fun hM=>by
     rcases Yo with⟨hx,h⟩|⟨_,h⟩|⟨_,h⟩
     .have hmm:=QL hx
      subst hmm
      exact Se.out (by rw[kG VH.out (wR hM) Of.out])
     .exact h
     .exact h
    have aap:(Ps m rest).1.runs.length<=1000000:=by
     have:(Ps m rest).1.runs.length=m:=ga _ _ _
     have:=DJ ((PP rest).1:Int) (zR rest).2.1 (zR rest).2.2
     have e:nR rest=vq ((PP rest).1:Int) (zR rest).2.1 (zR rest).2.2:=rfl
     rw[e]at hm
     omega
    clear hm QL
    generalize Ps m rest=O at*
    have⟨r,rest',x'⟩:=O
    simp only at*
    have Qy:=fun W (kk:NP [] w3 W)=>AF r (pk,r.runs.length,ck) wr W W (aE.kept0 NU kk).oI aap Oq
    unfold qd at Qy
    have UC:=Sa.out.Jn P6 _b
    have⟨abh,Pm,ZJ,Y9,Wz,acj⟩:=gj! UC NU Q4 Oq Yo Wp
    have o3:=ae.new w3 #[r.kind,(r.id,()),r.name,r.size,(pk,r.runs.length,ck)] 102
    have ka:NP [] w3 (w3.alloc (.cells #[r.kind,(r.id,()),r.name,r.size,(pk,r.runs.length,ck)] 102)):=(NP.refl _ _).alloc _
    have Ty:=Qy _ ka
    unfold ag.cells at Ty
    unfold ag.cells
    have⟨VK,O3,KA⟩:=gg! Ty o3 ka
    clear Qy UC NU Q4 Oq Yo Wp o3 ka Ty aap
    generalize hMM:az r=M at*
    have XX:=tK hMM
    clear hMM
    cases M
    .have OF:=acj.out rfl
     have Rs:=tK OF
     have QY:=(Sa.out.Bg P6 _b).trans KA.out
     clear OF
     go_wp2_with fail
     refine VK.out.mono ?_;rintro e w4 ⟨rfl,k4⟩
     go_wp2_with fail
     go_ret2
     exact⟨Or.inr ⟨Rs.out,_,rfl⟩,QY.trans k4⟩
    .have TA:=Wz.out
     have acT:(x'=0/\dg (j+1) s1=some (vs.map (·.1)++[r],rest'))\/(x'≠0/\dp s=none):=by
      rcases TA with h|h|h
      .exact Or.inl h
      .exact Or.inr h
      .exact absurd h.1 _b
     have aeD:=tK acT
     have⟨i0,q0,q1,q2,q3⟩:=jB
     have r3:j+1<=maxLen:=by have:=Of.out;have:=BN.out;unfold maxLen;omega
     have r4:(j+1)*64<=140737488355328:=by have:=Of.out;have:=BN.out;omega
     clear acT TA Wz acj
     go_wp2_with fail
     refine VK.out.mono ?_;rintro e w4 ⟨rfl,k4⟩
     have o4:=k4.own O3.out _b
     have⟨d0,d1,d2,d3,d4⟩:=o4.c5
     have ZN:=KA.out.trans k4
     have hr4:w4.ownsRow w 102 5 (p6,j,c6) j (bw vs):=ax abh.out ZN _b
     have aeW:=tK hr4
     have aeE:w.heap.size<=w4.heap.size:=Nk (Sa.out.Bg P6 _b).size ZN.size
     have Qo:NP [b] wr w4:=P6.trans (ZN.mono _b)
     have So:aK w4 b rest' x':=ZJ.out.kept ZN _b
     have Vl:aE wr w4 (pk,r.runs.length,ck) r.runs:=aE.kept0 Pm.out ZN
     have⟨Ro,Z0,W8⟩:=gg! Qo So Vl
     have hjs:IntKind.u64.wrap ((j:Int)+1)=((j+1:Nat):Int):=by have:=bC (j+1) (by have:=Of.out;have:=BN.out;omega);simpa using this
     clear hr4 o4 Qo So Vl ZN k4 P6
     go_wp2_with (at_builtin;go_must (refine MT _ rfl (.tmp 31) (.tmp 33) 92 rfl w 102 i0 (.agg #[(0:Int),.int .u32 0,.string {data:=#[]},(0:Int),()]) 5 64 underlying92 q0 q1 q2 q3 rfl _d _ _ _ rfl (MH aeW.out _) w4 1 1 [.int .i64 r.kind,.int .u32 r.id,.string (bs r.name),.int .i64 r.size,.slice pk r.runs.length ck] rfl rfl ?_ ?_ r3 r4 ?_ ?_))
     .exact World.news_of_block (Ns w4 _)
     .intro u hu;simp at hu;rcases hu with rfl|rfl|rfl|rfl|rfl<;>rfl
     .simp;omega
     intro v6 w6 o6 Po _ _
     have TA:=Sa.out.next aeD.out Ro.out _b Z0.out W8.out Y9.out Po o6
     have RA:=tK TA
     clear TA o6 Po
     go_wp2_with fail
     go_roundw
     case rel=>exact⟨j+1,_,_,_,Of.out,_G,RA.out⟩
     case measure=>(have hh:=Of.out;simp[intOf];omega)
   .have Wr:(x==0)=false:=_h
    have UT:(x != 0)=true:=_h
    have OF:dp s=none:=by
     rcases Oo.so with h|h
     .exact absurd h.1 hx
     .exact h.2
    have Ph:=Gz b rest x wr Oo.rd
    have ee:fM rest x=x:=by unfold fM;rw[if_neg (fun h=>hx h.1)]
    rw[ee]at Ph
    have⟨HE,Rs⟩:=_f Ph OF
    have QY:=Oo.kept
    clear Oo OY Ph ee OF NV
    exact M28
  .obtain rfl:j=n:=_a
   have i1:¬((j:Int)<nn):=_x
   have Ph:=Gz b rest x wr Oo.rd
   have QY:=Oo.kept
   have Vq:=tK Oo.new
   rcases Oo.so with⟨rfl,R7⟩|⟨hx,OF⟩
   .by_cases hr:rest=[]
    .subst hr
     rw[zP]at Ph
     have HE:=tK Ph
     rcases(by have:=Uf.out;omega:nn<1\/(1<=nn/\8192<nn)\/(1<=nn/\nn<=8192))with h1|⟨h1,h2⟩|⟨h1,h2⟩
     .have OF:=Pk.out _x
      have Rs:=tK OF
      clear Oo OY Ph OF NV R7
      exact M28
     .have OF:=Pk.out _x
      have Rs:=tK OF
      clear Oo OY Ph OF NV R7
      exact M28
     .have Sv:=Wv.out _ _x _x R7
      have HY:=tK Sv
      clear Oo OY Ph NV R7 Sv
      go_wp2_with fail
      refine HE.out.mono ?_;rintro e w4 ⟨rfl,nd,rfl⟩
      go_wp2_with fail
      go_ret2
      exact⟨Or.inl ⟨_,_,HY.out,Vq.out.kept0 ((NP.refl _ _).drewN _),rfl⟩,QY.drewN _⟩
    .rw[vo hr]at Ph
     have OF:=Y5.out _ _ R7 hr
     have⟨HE,Rs⟩:=_f Ph OF
     clear Oo OY Ph OF NV R7 hr
     exact M28
   .have Wr:(x==0)=false:=_h
    have UT:(x != 0)=true:=_h
    have ee:fM rest x=x:=by unfold fM;rw[if_neg (fun h=>hx h.1)]
    rw[ee]at Ph
    have⟨HE,Rs⟩:=_f Ph OF
    clear Oo OY Ph ee OF NV
    exact M28
theorem sg {P:Program} {Q:Exit->Act->World->Prop} {c rest:Code} (l:Nat) (J:Act->World->Prop) (μ:Act->World->Nat) (hf:findLabel c l=some (Code.skip.seq rest))
  (pass:∀a w,J a w->rest.wp P (Exit.jump l (fun a' w'=>J a' w'/\μ a' w'<μ a w) Q) a w)
  (first:(∀a w,J a w->rest.wp P (Exit.jump l J Q) a w)->c.wp P (Exit.jump l J Q) a w):(Code.scope c).wp P Q a w:=
 wp_scope_jumps l J μ hf (first (fun a w h=>wp_mono (pass a w h) (fun e a' w' he=>by
  cases e with
  |goto l'=>exact⟨he.1,he.2.1⟩
  |_=>exact he))) (fun a w h=>wp_seq (wp_skip (pass a w h)))
theorem xF:∃i,prog.info? 92=some i/\i.zero=()/\i.size=1/\i.bytes=24:=by
 have hi:(prog.info? 92).map (fun i=>(i.zero,i.size,i.bytes))=some (some (.slice none 0 0),1,24):=_c
 exact Yh
def cD (w0 w:World) (v:Value) (l:List (List ag)):Prop:=
 ∃vs:List (List ag×Value),vs.map (·.1)=l/\w.ownsRow w0 92 1 v l.length (vs.map (·.2))/\∀x∈vs,aI w0 w x.2 x.1
def ig (w0 w:World) (S:List Nat):Prop:=∀x∈S,x<w0.heap.size\/∃cs t,ae w x cs t/\t≠128/\t≠102/\t≠92
theorem ig.nil (w0 w:World):ig w0 w []:=fun x hx=>by cases hx
theorem ig.one {cs:Array Value} {t:TypeId} (h:ae w b cs t) (h1:t≠128) (h2:t≠102) (h3:t≠92):ig w0 w [b]:=fun x hx=>by
 have hx:x=b:=_h
 subst hx;exact Or.inr ⟨_,_,h,h1,h2,h3⟩
theorem ig.recs {S:List Nat} (h:ig w0 w S):mX w0 w S:=fun x hx=>(h x hx).imp id (fun⟨cs,t,o,h1,h2,_⟩=>⟨cs,t,o,h1,h2⟩)
section
variable {S:List Nat} {w0 w w':World} {v:Value} {l:List (List ag)}
theorem cD.kept (h:cD w0 w v l) (k:NP S w w') (hS:ig w0 w S):cD w0 w' v l:=by
 have⟨vs,h1,h2,h3⟩:=h
 refine⟨vs,h1,cF h2 k (fun x hx hb cs hc=>?_),fun x hx=>(h3 x hx).kept k hS.recs⟩
 rcases hS x hx with h1|⟨TL,t,o,_,_,ht⟩
 .omega
 .exact ht (lA o hc)
theorem cD.kept0 (h:cD w0 w v l) (k:NP [] w w'):cD w0 w' v l:=h.kept k (ig.nil _ _)
theorem cD.nil (w0 w:World):cD w0 w () []:=⟨[],rfl,Nf _ _ _ _,fun x hx=>by cases hx⟩
theorem cD.shape (h:cD w0 w v l):∃p c,v=.slice p l.length c:=by
 have⟨vs,h1,h2,h3⟩:=h;exact ah h2
theorem aI.grown {w5:World} {base size n:Nat} {e:TypeId} {u v10:Value} {xs:List Value} {rs:List ag} (h:aI w0 w u rs) (hr:w.ownsRow base e size v10 n xs) (hg:w.grownBy w5 v10.ownBlock) (h1:e≠128) (h2:e≠102):aI w0 w5 u rs:=by
 have⟨vs,e1,e2,e3⟩:=h
 exact⟨vs,e1,dG e2 (fun g cs hb hc=>hg.block g (NK hc) (fun e'=>aB hr (show ae w g cs 102 from hc) h2 e'.symm)),fun x hx=>⟨dG (e3 x hx).1 (fun g cs hb hc=>hg.block g (NK hc) (fun e'=>aB hr (show ae w g cs 128 from hc) h1 e'.symm)),(e3 x hx).2⟩⟩
theorem cD.more {v' kv:Value} {o:List ag} {w5:World} {vs:List (List ag×Value)} (h1:vs.map (·.1)=l) (h3:∀x∈vs,aI w0 w x.2 x.1) (h2:w.ownsRow w0 92 1 v l.length (vs.map (·.2)))
  (hr:aI w0 w kv o) {ob:Obj} (hg:(w.alloc ob).grownBy w5 v.ownBlock) (hn:w5.ownsRow w0 92 1 v' (l.length+1) (vs.map (·.2)++[kv])):cD w0 w5 v' (l++[o]):=by
 have NU:=MH h2 ob
 have hk:∀(u:Value) (rs:List ag),aI w0 w u rs->aI w0 w5 u rs:=fun u rs hu=>
  (hu.kept0 ((NP.refl [] w).alloc ob)).grown NU hg _d _d
 refine⟨vs++[(o,kv)],by simp[h1],by rw[M0,tN,Nq];exact hn,fun x hx=>?_⟩
 rcases Na.1 hx with hx|hx
 .exact hk _ _ (h3 x hx)
 .have hx:x=(o,kv):=_h
  subst hx
  exact hk _ _ hr
end
theorem Cj (x0 x1 x2 x3 x4 x5 x6 x7 x8 x9 x10 x11 x12 x13 x14 x15 x16 x17 x18 x19 x20 x21 x22 x23 x24 x25 x26 x27 x28 x29 x30 x31 x32 x33 x34 x35 x36 x37 x38 x39 x40 x41 x42 x43 x44 x45 x46 x47 x48 x49 x50 x51 x52:Value):∃u:Nat->Value,({tmps:=#[x0,x1,x2,x3,x4,x5,x6,x7,x8,x9,x10,x11,x12,x13,x14,x15,x16,x17,x18,x19,x20,x21,x22,x23,x24,x25,x26,x27,x28,x29,x30,x31,x32,x33,x34,x35,x36,x37,x38,x39,x40,x41,x42,x43,x44,x45,x46,x47,x48,x49,x50,x51,x52],defers:=[]}:Act)={tmps:=#[x0,(u 1),x2,x3,x4,x5,(u 6),(u 7),(u 8),(u 9),(u 10),(u 11),(u 12),(u 13),(u 14),(u 15),(u 16),(u 17),(u 18),(u 19),(u 20),(u 21),(u 22),(u 23),(u 24),(u 25),(u 26),(u 27),(u 28),(u 29),(u 30),(u 31),(u 32),(u 33),(u 34),(u 35),(u 36),(u 37),(u 38),(u 39),(u 40),(u 41),(u 42),(u 43),(u 44),(u 45),(u 46),(u 47),(u 48),(u 49),(u 50),(u 51),(u 52)],defers:=[]}:=
 ⟨fun n=>[x0,x1,x2,x3,x4,x5,x6,x7,x8,x9,x10,x11,x12,x13,x14,x15,x16,x17,x18,x19,x20,x21,x22,x23,x24,x25,x26,x27,x28,x29,x30,x31,x32,x33,x34,x35,x36,x37,x38,x39,x40,x41,x42,x43,x44,x45,x46,x47,x48,x49,x50,x51,x52].getD n undef,rfl⟩
structure pY (w w':World) (rb:Nat) (s0:List UInt8) (v4:Value) (out:List (List ag)) (s:List UInt8):Prop where
 at_:eA s0 out s
 rd:aP w' w s 0
 box:ae w' rb #[w.heap.size] 255
 row:cD w w' v4 out
 kept:NP [] w w'
 hrb:w.heap.size<rb
 few:out.length*8+s.length<=s0.length
def LS (w:World) (rb:Nat) (s0:List UInt8) (a':Act) (w':World):Prop:=
 ∃(v4:Value) (out:List (List ag)) (s:List UInt8),(∃u:Nat->Value,a'={tmps:=#[s0,(u 1),(),(0:Int),v4,rb,(u 6),(u 7),(u 8),(u 9),(u 10),(u 11),(u 12),(u 13),(u 14),(u 15),(u 16),(u 17),(u 18),(u 19),(u 20),(u 21),(u 22),(u 23),(u 24),(u 25),(u 26),(u 27),(u 28),(u 29),(u 30),(u 31),(u 32),(u 33),(u 34),(u 35),(u 36),(u 37),(u 38),(u 39),(u 40),(u 41),(u 42),(u 43),(u 44),(u 45),(u 46),(u 47),(u 48),(u 49),(u 50),(u 51),(u 52)],defers:=[]})/\pY w w' rb s0 v4 out s
def BJ (w:World) (_:Act) (w':World):Nat:=match w'.cell? w with|some (.string s)=>s.size|_=>0
theorem wS (h:aP w' w s x):BJ w a w'=s.length:=by
 unfold BJ
 rw[show w'.cell? ⟨w.heap.size,0,none⟩=some (.string (bs s))from ae.cell h 0 _b]
 exact NQ s
def lP (s:List UInt8) (w:World) (e:Ending) (w':World):Prop:=
 ((∃ls v,O4 s=some ls/\cD w w' v ls/\e=.returned (.tuple #[v,(0:Int)]))\/(O4 s=none/\e=.returned (.tuple #[(),(110:Int)])))/\NP [] w w'
section
variable {w wr wx:World} {rb:Nat} {s0:List UInt8} {v4:Value} {out:List (List ag)} {s s':List UInt8} {x:Int}
theorem pY.nE (h:pY w wr rb s0 v4 out s) {S:List Nat} (kk:NP S wr wx) (hS:∀y∈S,y=w.heap.size):cD w wx v4 out/\ae wx rb #[w.heap.size] 255/\NP [] w wx:=
 ⟨h.row.kept kk (fun y hy=>by rw[hS y hy];exact Or.inr ⟨_,_,h.rd,_d,_d,_d⟩),kk.own h.box (fun hb=>by have:=hS _ hb;have:=h.hrb;omega),h.kept.call kk (fun y hy=>Or.inr (by have:=hS y hy;omega))⟩
end
theorem M82 (h:A:=by
 go_wp2_with fail
 simp only[Exit.jump]
 go_ret2
 exact⟨Or.inr ⟨Pk.out,rfl⟩,kept4⟩):A:=h
theorem GI (s0:List UInt8) (w:World) (hs:s0.length<=1000000):
  am! 124 #[s0] w (lP s0 w):=by
 have QQ:=fun W=>nz (bs s0) W
 rw[cC]at QQ
 have⟨TC,HS⟩:=_f QQ hs
 clear QQ hs
 go_enter func124,ntmps124
 go_wp2_with fail
 refine sg 0 (fun a' w'=>∃rb,LS w rb s0 a' w') (BJ w) rfl ?_ ?_
 .rintro a' w' ⟨rb,v4,out,s,⟨u,rfl⟩,Oo⟩
  have V5:=Oo.row.shape
  obtain⟨p4,c4,rfl⟩:=V5
  have cr:w'.cell? rb=w.heap.size:=Oo.box.cell 0 _b
  have hl:=Ct w s 0 w' Oo.rd
  by_cases Qw:s=[]
  .have P0:=Oo.at_.end_ Qw
   subst Qw
   have⟨Up,HL,Pm⟩:=gg! P0 hl Oo.row
   have QY:=Oo.kept
   clear P0 hl Oo TC
   go_wp2_with fail
   refine HL.out.mono ?_;rintro e w1 ⟨rfl,rfl⟩
   go_wp2_with fail
   simp only[Exit.jump]
   go_ret2
   exact⟨Or.inl ⟨_,_,Up.out,Pm.out,rfl⟩,QY⟩
  .have YA:0<s.length:=Nu.2 Qw
   have Pb:((s.length:Int)==0)=false:=_y
   have hu1:=fun W (hr:aP W w s 0) (ho:ae W rb #[w.heap.size] 255)=>(np w s 0 W hr).mono fun e w1 hh=>(show e=.returned (.int .u32 (aR s).1)/\aP w1 w (aR s).2.1 (aR s).2.2/\NP [w.heap.size] W w1/\w1.cell? rb=w.heap.size/\ae w1 rb #[w.heap.size] 255 from⟨hh.1,hh.2.1,hh.2.2,(hh.2.2.own ho p!).cell 0 _b,hh.2.2.own ho p!⟩)
   have hu2:=fun W (hr:aP W w (aR s).2.1 (aR s).2.2) (ho:ae W rb #[w.heap.size] 255)=>(np w (aR s).2.1 (aR s).2.2 W hr).mono fun e w1 hh=>(show e=.returned (.int .u32 (cR s).1)/\aP w1 w (cR s).2.1 (cR s).2.2/\NP [w.heap.size] W w1/\w1.cell? rb=w.heap.size/\ae w1 rb #[w.heap.size] 255 from⟨hh.1,hh.2.1,hh.2.2,(hh.2.2.own ho p!).cell 0 _b,hh.2.2.own ho p!⟩)
   have ba:((aR s).1:Int)<4294967296:=by have:(aR s).1<4294967296:=cp 4 s 0;omega
   have ewa:IntKind.i64.wrap ((aR s).1:Int)=((aR s).1:Int):=IntWalk.i64_in _ _a
   have PF:=fun W (hr:aP W w (cR s).2.1 (cR s).2.2)=>(show am! 189 #[w.heap.size,.int .i64 (aR s).1] W fun r w1=>r=.returned (.string (bs (bR s).1))/\aP w1 w (bR s).2.1 (bR s).2.2/\NP [w.heap.size] W w1 from ny w (cR s).2.1 (cR s).2.2 (aR s).1 W hr)
   have Uq:(bR s).1.length<=s0.length:=by
    by_cases hx:(bR s).2.2=0
    .have:=(iZ hx).2;have:=Oo.few;omega
    .rw[show(bR s).1=[]from lh hx];simp
   have PH:=fun W=>FM (bR s).1 W
   have VE:=fun W=>Bu (bs (bR s).1) W (by rw[NQ];have:=HS.out;unfold maxLen;omega)
   rw[cC]at VE
   have hty:=fun o=>tJ (s:=s) (o:=o)
   have htb:=fun h=>wh (s:=s) h
   have hte:=fun h=>tL (s:=s) h
   have hts:=fun h=>zb (s:=s) h
   have NV:=fun h=>(iZ (s:=s) h).2
   have⟨ZU,YQ,Sm,Tp,SK,XK,XW,XO,Yg,Of,HL,OY,Um⟩:=gf! hu1 hu2 PF PH VE hty htb hte hts NV hl Oo Qw
   clear hu1 hu2 PF PH VE hty htb hte hts NV hl Oo Uq Qw TC
   generalize aR s=A at*
   generalize cR s=C at*
   generalize bR s=B at*
   go_wp2_with fail
   refine HL.out.mono ?_;rintro e w1 ⟨rfl,rfl⟩
   clear HL
   go_wp2_with fail
   go_region_held3 (fun W=>W.cell? rb=w.heap.size) (go_keep)
    (first
     |(go_at_call 195;((with_reducible refine(ZU.out _ ?_ ?_).mono ?_));(first|exact OY.out.rd|exact ae.drew OY.out.rd);(first|exact OY.out.box|exact ae.drew OY.out.box);rintro e w1 ⟨rfl,hR1,Sd,q1,ho1⟩)
     |(go_at_call 195;((with_reducible refine(YQ.out _ ?_ ?_).mono ?_));(first|exact hR1|exact ae.drew hR1);(first|exact ho1|exact ae.drew ho1);rintro e w2 ⟨rfl,Qn,kk2,q2,ho2⟩))
   all_goals
    have kkA:NP [w.heap.size] w' w2:=NP.trans (by first|exact Sd|exact((NP.refl _ _).drew).trans Sd) kk2
    clear Sd kk2 hR1 ho1 q1 ZU YQ
    go_wp2_with fail
    refine(Sm.out _ Qn).mono ?_;rintro e w3 ⟨rfl,Q4,Ti⟩
    have kkB:=kkA.trans Ti
    clear Qn ho2 q2 Sm kkA Ti
    go_wp2_with fail
    refine(Tp.out _).mono ?_;rintro e w4 ⟨hc,kk4⟩
    have kkC:=kkB.trans (kk4.mono (T:=[w.heap.size]) _b)
    have⟨aeA,box4,kept4⟩:=OY.out.nE kkC _b
    have So:=kk4.own Q4 _b
    have cr4:w4.cell? rb=w.heap.size:=box4.cell 0 _b
    clear Tp kkC Q4 cr
    rcases hc with⟨o,v,ho,NU,rfl⟩|⟨ho,v,rfl⟩
    .have HE:=tK (AA w B.2.1 B.2.2 w4 So)
     by_cases hx:B.2.2=0
     .have NV:=Of.out hx
      by_cases Qe:PE B.1=C.1
      .have Ox:=OY.out.at_.step Um.out (XK.out o ho hx Qe)
       have Wh:aP w4 w B.2.1 0:=by have:=So;rw[hx]at this;exact this
       rw[hx]at HE
       have aaO:((PE B.1:Int) != (C.1:Int))=false:=by rw[Qe];simp
       have aan:((PE B.1:Int)==(C.1:Int))=true:=by rw[Qe];simp
       obtain⟨pv,cv,rfl⟩:=NU.shape
       have⟨vs,e1,e2,e3⟩:=aeA
       have⟨i0,q0,q1,q2,q3⟩:=xF
       have SN:=OY.out.few
       have hs0:=HS.out
       have r3:out.length+1<=maxLen:=_m
       have r4:(out.length+1)*24<=140737488355328:=_a
       have aeE:w.heap.size<=w4.heap.size:=kept4.size
       have VV:aI w w4 (pv,o.length,cv) o:=NU.base (by have:=OY.out.kept.size;have:=kkB.size;omega)
       have⟨HRN,Sb,HR5,ZK,HE3,HE1,OZ,Xj⟩:=ga! VV Ox Wh e2 e3 e1 NV SN
       have XF:=tK (SK.out w4)
       clear XK XW XO Yg Of So Wh NU VV Ox e1 e2 e3 NV Qe SK SN ho hx
       go_wp2_with fail
       refine HE.out.mono ?_;rintro e w5 ⟨rfl,rfl⟩
       go_wp2_with fail
       refine XF.out.mono ?_;rintro e w5 ⟨rfl,rfl⟩
       go_wp2_with (at_builtin;go_must (refine MT _ rfl (.tmp 49) (.tmp 51) 187 rfl w 92 i0 () 1 24 underlying187 q0 q1 q2 q3 rfl _d _ _ _ rfl (MH ZK.out _) w4 1 1 [.slice pv o.length cv] rfl rfl ?_ ?_ r3 r4 ?_ ?_))
       .exact World.news_of_block (Ns w4 _)
       .intro u hu;simp at hu;subst hu;rfl
       .simp;omega
       intro v6 w6 o6 Po _ _
       have Qz:=cD.more HE1.out HE3.out ZK.out HRN.out Po o6
       have TB:=MH ZK.out (.cells #[(pv,o.length,cv)] 92)
       have abw:aP w6 w B.2.1 0:=bW TB Po (ae.alloc HR5.out _) _d
       have aak:=bW TB Po (box4.alloc _) _d
       have Q7:NP [] w w6:=(kept4.alloc _).grown Po (fun i hi=>Or.inr (ML TB i hi).1)
       have acK:pY w w6 rb s0 v6 (out++[o]) B.2.1:=⟨Sb.out,abw,aak,Qz,Q7,OY.out.hrb,by have:=Xj.out;have:=OZ.out;rw[tN,Nq];omega⟩
       have⟨aeR,adM⟩:=_f acK abw
       obtain⟨p6,c6,rfl⟩:=Qz.shape
       clear Po o6 TB abw aak Q7 acK Qz
       go_wp2_with fail
       go_step3
       refine⟨rfl,⟨rb,_,_,_,(Cj ..),aeR.out⟩,?_⟩
       rw[wS adM.out,wS OY.out.rd]
       have:=OZ.out
       omega
      .have OF:=OY.out.at_.no Um.out (Yg.out Qe)
       rw[hx]at HE
       have TU:¬((PE B.1:Int)=(C.1:Int)):=_a
       have aaO:((PE B.1:Int) != (C.1:Int))=true:=by simpa using TU
       have aan:((PE B.1:Int)==(C.1:Int))=false:=by simpa using TU
       have Pk:=tK OF
       have XF:=tK (SK.out w4)
       obtain⟨pv,cv,rfl⟩:=NU.shape
       clear XK XW XO Yg Of So NU NV OF SK TU Qe ho hx
       go_wp2_with fail
       refine HE.out.mono ?_;rintro e w5 ⟨rfl,rfl⟩
       go_wp2_with fail
       refine XF.out.mono ?_;rintro e w5 ⟨rfl,rfl⟩
       exact M82
     .have OF:=OY.out.at_.no Um.out (XO.out hx)
      have Wr:(B.2.2 != 0)=true:=_h
      have UT:(B.2.2==0)=false:=_h
      have Pk:=tK OF
      obtain⟨pv,cv,rfl⟩:=NU.shape
      clear XK XW XO Yg Of So NU OF SK ho
      go_wp2_with fail
      refine HE.out.mono ?_;rintro e w5 ⟨rfl,rfl⟩
      exact M82
    .have OF:=OY.out.at_.no Um.out (XW.out ho)
     have Pk:=tK OF
     clear XK XW XO Yg Of So OF SK ho
     exact M82
 .intro U7
  have Y3:=tK U7
  clear U7
  go_wp2_with fail
  refine(TC.out _).mono ?_;rintro e w1 ⟨rfl,hR,OP⟩
  have NV:=ae.lt hR
  have Oo:pY w (w1.alloc (.cells #[w.heap.size] 255)) w1 s0 () [] s0:=⟨eA.start _,ae.alloc hR _,ae.new _ _ _,cD.nil _ _,OP.alloc _,NV,_b⟩
  have OY:=tK Oo
  clear Oo hR
  go_wp2_with fail
  go_step3
  rename_i hcont
  refine hcont _ _ (Y3.out _ _ ⟨w1.heap.size,(),[],s0,Cj ..,OY.out⟩)
structure mV (w w':World) (b:Nat) (s0:List UInt8) (v4:Value) (out:List (List ag)) (s:List UInt8):Prop where
 at_:eA s0 out s
 rd:aK w' b s 0
 row:cD w w' v4 out
 kept:NP [] w w'
 hb:b=w.heap.size
 few:out.length*8+s.length<=s0.length
theorem mV.nE {wr wx:World} {s0:List UInt8} {v4:Value} {out:List (List ag)} {s:List UInt8} (h:mV w wr b s0 v4 out s) {S:List Nat} (kk:NP S wr wx) (hS:∀y∈S,y=b):cD w wx v4 out/\NP [] w wx:=by
 have⟨cs,o⟩:=h.rd.reader
 exact⟨h.row.kept kk (fun y hy=>by rw[hS y hy];exact Or.inr ⟨_,_,o,_d,_d,_d⟩),h.kept.call kk (fun y hy=>Or.inr (by have:=hS y hy;have:=h.hb;omega))⟩
def xU (b:Nat) (w':World):Nat:=match w'.cell? b,w'.cell? (aa b 1)with|some (.string s),some (.int _ a)=>s.size-a.toNat|_,_=>0
theorem uL (h:aK w' b s x):xU b w'=s.length:=by
 obtain⟨S,a,o,h1,h2,rfl,_⟩:=h
 unfold xU
 rw[show w'.cell? ⟨b,0,none⟩=some (.string (bs S))from ae.cell o 0 _b,show w'.cell? ⟨b,1,none⟩=some (.int .i64 a)from ae.cell o 1 _b]
 simp only[NQ,MQ,Nw]
def kh (s:List UInt8) (w:World) (e:Ending) (w':World):Prop:=
 ((∃ls v,O4 s=some ls/\cD w w' v ls/\e=.returned (.tuple #[v,true]))\/(O4 s=none/\e=.returned (.tuple #[(),false])))/\NP [] w w'
theorem GE (s0:List UInt8) (w:World) (hs:s0.length<=1000000):
  am! 132 #[s0] w (kh s0 w):=by
 have UM:aK (w.alloc (.cells #[s0,(0:Int),(0:Int)] 263)) w s0 0:=⟨s0,0,ae.new _ _ _,_a,hs,_b,fun h=>absurd rfl h⟩
 have Oo:mV w (w.alloc (.cells #[s0,(0:Int),(0:Int)] 263)) w s0 () [] s0:=⟨eA.start _,UM,cD.nil _ _,(NP.refl _ _).alloc _,rfl,_b⟩
 have hz:((bs s0).size:Int)=s0.length:=ak!
 have Qx:(bs s0).size<=1000000:=by rw[NQ];exact hs
 have hz3:IntKind.u64.wrap ((bs s0).size:Int)=((bs s0).size:Int):=bC _ _a
 have⟨OY,HS⟩:=_f Oo hs
 obtain⟨sz,acI⟩:∃sz:Int,((bs s0).size:Int)=sz:=⟨_,rfl⟩
 rw[acI]at hz hz3
 have hz4:0<=sz/\sz<=1000000:=_a
 have HZ:=tK hz
 clear Oo UM hs hz Qx
 go_enter func132,ntmps132
 go_wp2_with fail
 generalize hbb:w.heap.size=b at*
 have HBB:=tK hbb
 clear hbb
 go_loopw [4,6,7,8,9,10] (fun v4 v6 v7 v8 v9 v10 wr=>∃(out:List (List ag)) (s:List UInt8),mV w wr b s0 v4 out s) (fun _ _ _ _ _ _ wr=>xU b wr)
 case atStart=>exact⟨[],s0,OY.out⟩
 case round=>
  have⟨out,s,Oo⟩:=hrel
  obtain⟨p4,c4,rfl⟩:=Oo.row.shape
  have hl:=Jk b s 0 wr Oo.rd
  have hce:=Oo.rd.err
  by_cases Qw:s=[]
  .have P0:=Oo.at_.end_ Qw
   subst Qw
   have⟨Up,HL,Pm⟩:=gg! P0 hl Oo.row
   have QY:=Oo.kept
   clear P0 hl Oo OY
   go_wp2_with fail
   refine HL.out.mono ?_;rintro e w1 ⟨rfl,nd,rfl⟩
   go_wp2_with fail
   go_quiet (fail)
   go_wp2_with fail
   go_ret2
   exact⟨Or.inl ⟨_,_,Up.out,Pm.out.kept0 (((NP.refl _ _).drewN _).drewN _),rfl⟩,(QY.drewN _).drewN _⟩
  .have YA:0<s.length:=Nu.2 Qw
   have aau:(0:Int)<(s.length:Int):=_a
   have hu1:=fun W (hr:aK W b s 0)=>(show am! 202 #[b,(4:Int)] W fun r w'=>r=.returned (.int .u64 (aR s).1)/\aK w' b (aR s).2.1 (aR s).2.2/\NP [b] W w' from qk b s 0 W hr)
   have hu2:=fun W (hr:aK W b (aR s).2.1 (aR s).2.2)=>(show am! 202 #[b,(4:Int)] W fun r w'=>r=.returned (.int .u64 (cR s).1)/\aK w' b (cR s).2.1 (cR s).2.2/\NP [b] W w' from qk b _ _ W hr)
   have PF:=fun W (hr:aK W b (cR s).2.1 (cR s).2.2)=>(show am! 203 #[b,.int .i64 (aR s).1] W fun r w'=>r=.returned (.string (bs (bR s).1))/\aK w' b (bR s).2.1 (bR s).2.2/\NP [b] W w' from mH b _ _ (aR s).1 W hr)
   have ba:((aR s).1:Int)<4294967296:=by have:(aR s).1<4294967296:=cp 4 s 0;omega
   have ewa:IntKind.i64.wrap ((aR s).1:Int)=((aR s).1:Int):=IntWalk.i64_in _ _a
   have Uq:(bR s).1.length<=1000000:=by
    by_cases hx:(bR s).2.2=0
    .have:=(iZ hx).2;have:=Oo.rd.small;omega
    .rw[show(bR s).1=[]from lh hx];simp
   have S7:s0.length<(aR s).1->gO s=none:=fun hh=>by
    by_cases hx:(bR s).2.2=0
    .have h1:=iZ hx;have:=Oo.few;omega
    .exact tL hx
   have PH:=fun W=>EF (bR s).1 W Uq
   have VE:=fun W=>Au (bs (bR s).1) W (by rw[NQ];exact Uq)
   rw[cC]at VE
   have Qg:=iJ (bR s).1
   have ewc:IntKind.u64.wrap ((PE (bR s).1:Nat):Int)=((PE (bR s).1:Nat):Int):=bC _ _a
   have hty:=fun o=>tJ (s:=s) (o:=o)
   have htb:=fun h=>wh (s:=s) h
   have hte:=fun h=>tL (s:=s) h
   have hts:=fun h=>zb (s:=s) h
   have NV:=fun h=>(iZ (s:=s) h).2
   have ZU:=tK (hu1 _ (Oo.rd))
   have⟨YQ,Sm,Tp,SK,XK,XW,XO,Yg,Of,HL,Sa,Um,U9⟩:=gf! hu2 PF PH VE hty htb hte hts NV hl Oo Qw S7
   clear ba
   clear hu2 PF PH VE hty htb hte hts NV hl Uq Qw OY S7 YA Qg
   generalize aR s=A at*
   generalize cR s=C at*
   generalize bR s=B at*
   generalize PE B.1=cb at*
   obtain⟨na,hna⟩:∃na:Int,(A.1:Int)=na:=⟨_,rfl⟩
   rw[hna]at ewa Sm ZU
   simp only[hna]at hu1
   have HNA:=tK hna
   clear hna
   go_wp2_with fail
   refine HL.out.mono ?_;rintro e w1 ⟨rfl,nd,rfl⟩
   have QX:=hu1 _ (Oo.rd.kept ((NP.refl [] wr).drewN nd) _b)
   have Ts:=tK QX
   clear HL hu1 Oo QX
   have ae9:=aau
   clear aau
   go_wp2_with fail
   refine Ts.out.mono ?_;rintro e w2 ⟨rfl,Qn,kk2⟩
   have kkA:NP [b] wr w2:=((NP.refl [b] wr).drewN nd).trans kk2
   have QU:=YQ.out _ Qn
   have Rs:=tK QU
   clear YQ QU Qn Ts kk2
   go_wp2_with fail
   refine Rs.out.mono ?_;rintro e w3 ⟨rfl,Q4,Ti⟩
   have kkB:NP [b] wr w3:=kkA.trans Ti
   clear Rs Ti kkA
   by_cases hlen:s0.length<A.1
   .have OF:=Sa.out.at_.no Um.out (U9.out hlen)
    have Pk:=tK OF
    have adj:sz<na:=by have:=HZ.out;have:=HNA.out;omega
    have QY:=(Sa.out.nE kkB _b).2
    clear OF Sm Tp SK XK XW XO Yg Of hlen
    go_wp2_with fail
    go_ret2
    exact⟨Or.inr ⟨Pk.out,rfl⟩,QY⟩
   .have adj:na<=sz:=by have:=HZ.out;have:=HNA.out;omega
    have XT:=Sm.out _ Q4
    have XY:=tK XT
    clear XT Sm Q4 hlen
    go_wp2_with fail
    refine XY.out.mono ?_;rintro e w4 ⟨rfl,So,kk4⟩
    have kkC:NP [b] wr w4:=kkB.trans kk4
    clear XY kk4 kkB
    go_wp2_with fail
    refine(Tp.out _).mono ?_;rintro e w5 ⟨hc,Sp⟩
    have kkD:NP [b] wr w5:=kkC.trans (Sp.mono _b)
    have⟨abP,kept5⟩:=Sa.out.nE kkD _b
    have Wh:=So.kept Sp _b
    have adN:=Wh.err
    clear Tp So hce
    by_cases hx:B.2.2=0
    .have NV:=Of.out hx
     rw[hx]at adN
     rcases hc with⟨o,v,ho,NU,rfl⟩|⟨ho,v,rfl⟩
     .by_cases Qe:cb=C.1
      .have Ox:=Sa.out.at_.step Um.out (XK.out o ho hx Qe)
       have hR6:aK w5 b B.2.1 0:=by have:=Wh;rw[hx]at this;exact this
       subst Qe
       obtain⟨pv,cv,rfl⟩:=NU.shape
       have⟨i0,q0,q1,q2,q3⟩:=xF
       have SN:=Sa.out.few
       have hs0:=HS.out
       have r3:out.length+1<=maxLen:=_m
       have r4:(out.length+1)*24<=140737488355328:=_a
       have aci:w.heap.size<=w5.heap.size:=kept5.size
       have VV:aI w w5 (pv,o.length,cv) o:=NU.base (by have:=Sa.out.kept.size;have:=kkC.size;omega)
       have⟨HRN,Sb,Zz,WT,OZ,Xj⟩:=gj! VV Ox hR6 abP NV SN
       have XF:=tK (SK.out w5)
       clear XK XW XO Yg Of Wh hR6 NU VV Ox abP NV SK SN ho hx
       go_wp2_with fail
       refine XF.out.mono ?_;rintro e w6 ⟨rfl,Xs⟩
       have ad2:=WT.out.kept0 Xs
       have⟨vs,e1,e2,e3⟩:=ad2
       have aef:=tK (HRN.out.kept0 Xs)
       have HR7:=tK (Zz.out.kept Xs _b)
       have aaB:=kept5.trans Xs
       have afg:w.heap.size<=w6.heap.size:=aaB.size
       have⟨HE1,ZK,HE3⟩:=gg! e1 e2 e3
       clear e1 e2 e3 Xs XF WT HRN Zz
       go_wp2_with (at_builtin;go_must (refine MT _ rfl (.tmp 51) (.tmp 53) 187 rfl w 92 i0 () 1 24 underlying187 q0 q1 q2 q3 rfl _d _ _ _ rfl (MH ZK.out _) w6 1 1 [.slice pv o.length cv] rfl rfl ?_ ?_ r3 r4 ?_ ?_))
       .exact World.news_of_block (Ns w6 _)
       .intro u hu;simp at hu;subst hu;rfl
       .simp;omega
       intro v7 w7 o7 X9 _ _
       have Uw:=cD.more HE1.out HE3.out ZK.out aef.out X9 o7
       have TB:=MH ZK.out (.cells #[(pv,o.length,cv)] 92)
       have abq:aK w7 b B.2.1 0:=(HR7.out.kept ((NP.refl [] w6).alloc _) _b).grown TB X9 _d
       have SV:NP [] w w7:=(aaB.alloc _).grown X9 (fun i hi=>Or.inr (ML TB i hi).1)
       have ac1:mV w w7 b s0 v7 (out++[o]) B.2.1:=⟨Sb.out,abq,Uw,SV,Sa.out.hb,by have:=Xj.out;have:=OZ.out;rw[tN,Nq];omega⟩
       have⟨aep,adQ⟩:=_f ac1 abq
       obtain⟨p7,c7,rfl⟩:=Uw.shape
       clear X9 o7 TB abq SV ac1 Uw
       go_wp2_with fail
       go_roundw
       case rel=>exact⟨_,_,aep.out⟩
       case measure=>
        rw[uL adQ.out,uL Sa.out.rd]
        have:=OZ.out
        omega
      .have OF:=Sa.out.at_.no Um.out (Yg.out Qe)
       have TU:¬((C.1:Int)=(cb:Int)):=_a
       have aaO:((C.1:Int) != (cb:Int))=true:=by simpa using TU
       have aan:((C.1:Int)==(cb:Int))=false:=by simpa using TU
       have Pk:=tK OF
       have XF:=tK (SK.out w5)
       obtain⟨pv,cv,rfl⟩:=NU.shape
       clear XK XW XO Yg Of Wh NU NV OF SK TU Qe ho hx
       go_wp2_with fail
       refine XF.out.mono ?_;rintro e w6 ⟨rfl,Xs⟩
       go_wp2_with fail
       go_ret2
       exact⟨Or.inr ⟨Pk.out,rfl⟩,kept5.trans Xs⟩
     .have OF:=Sa.out.at_.no Um.out (XW.out ho)
      have Pk:=tK OF
      clear XK XW XO Yg Of Wh OF SK ho NV hx
      go_wp2_with fail
      go_ret2
      exact⟨Or.inr ⟨Pk.out,rfl⟩,kept5⟩
    .have OF:=Sa.out.at_.no Um.out (XO.out hx)
     have Wr:(B.2.2 != 0)=true:=_h
     have UT:(B.2.2==0)=false:=_h
     have Pk:=tK OF
     rcases hc with⟨o,v,ho,NU,rfl⟩|⟨ho,v,rfl⟩
     all_goals
      clear XK XW XO Yg Of Wh OF SK ho
      go_wp2_with fail
      go_ret2
      exact⟨Or.inr ⟨Pk.out,rfl⟩,kept5⟩
theorem Kh (n:Nat):∀(d:DK) (a:Nat) (s:List UInt8),s.length<=n->dS d->d.down=false->d.fuse<0->a+(s.length+127)/128<=d.stand.length->
  ∃d',fW d a s=(d',0)/\d'.stand=d.stand/\d'.down=false/\d'.fuse=d.fuse/\dS d'/\(∀i,i<a->seen d' i=seen d i)/\∀i,128*i<s.length->seen d' (a+i)=aC (s.drop (128*i)):=by
 induction n with
 |zero=>
  intro d a s hs hf hd Xr ha
  have:s=[]:=Nc _a
  subst this
  exact⟨d,rfl,rfl,hd,rfl,hf,fun _ _=>rfl,fun i hi=>by simp at hi⟩
 |succ n ih=>
  intro d a s hs hf hd Xr ha
  by_cases h0:s=[]
  .subst h0
   exact⟨d,rfl,rfl,hd,rfl,hf,fun _ _=>rfl,fun i hi=>by simp at hi⟩
  .have hl:0<s.length:=Nu.2 h0
   have⟨hc,hn⟩:=vW (s:=s) hd Xr (by omega:a<d.stand.length)
   have RP:(cW d a (aC s)).down=false:=by
    show(if d.fuse=0 then true else d.down)=false
    rw[if_neg _a,hd]
   have hfn:(cW d a (aC s)).fuse=d.fuse:=by
    show(if 0<d.fuse then d.fuse-1 else d.fuse)=d.fuse
    rw[if_neg _a]
   have Oq:dS (cW d a (aC s)):=by rw[<-hn];exact hf.write _ _
   have⟨d',e1,e2,e3,e4,e5,e6,e7⟩:=ih (cW d a (aC s)) (a+1) (s.drop 128) _z Oq RP (by rw[hfn];exact Xr) (by rw[MQ];show a+1+_<=d.stand.length;omega)
   refine⟨d',?_,e2,e3,e4.trans hfn,e5,fun i hi=>?_,fun i hi=>?_⟩
   .rw[iK h0,if_pos hc,hn,e1]
   .rw[e6 i _a,jc,if_neg _a]
   .cases i with
    |zero=>
     rw[Nat.add_zero,e6 a _a,jc,if_pos rfl];rfl
    |succ i=>
     have:=e7 i _z
     rw[List.drop_drop,show 128+128*i=128*(i+1)from by omega,show a+1+i=a+(i+1)from by omega]at this
     exact this
theorem Ia (n:Int):0<=On n:=by unfold On;split<;>omega
theorem uW {s:SB} (h:s.may) {u:Int} (h0:0<=u) (h1:u<=s.journal*128):(dH s u).may:=by
 obtain⟨⟨a1,a2,a3,a4,a5,a6,a7,a8,a9,a10⟩,b,c⟩:=h
 exact⟨⟨by show 1<=s.seq+1;omega,a2,a3,a4,a5,h0,h1,a8,a9,a10⟩,b,c⟩
def cQ (c:au):Nat:=c.boxes.length+c.mans.length+c.names.length
theorem pT (l:List NS) (x:NS) (next:Int) (most:Nat) (turns:Bool):(Oc l x next most turns).1.length<=l.length+1:=by
 unfold Oc
 split
 .rename_i h
  show(gL l (PJ l x) x).length<=_
  rw[wj h.1];omega
 .split
  .exact Nb _
  .split
   .exact Nb _
   .show(Qm l x).length<=_
    rw[xE];exact MG _
theorem rN (l:List NS) (x:NS):(OU l x).1.length<=l.length:=by
 unfold OU
 split
 .rename_i h
  have:=nS h
  show(dI l (PJ l x)).length<=_
  omega
 .exact Nb _
theorem H7 (c:au) (r:ag):cQ (aW c r).1<=cQ c+1:=by
 unfold aW cQ
 have h1:=pT c.boxes r.item c.nextBox 2048 false
 have h2:=pT c.mans r.item c.nextMan 2048 true
 have h3:=pT c.names r.item 0 256 false
 have h4:=rN c.boxes r.item
 have h5:=rN c.mans r.item
 have h6:=rN c.names r.item
 split
 .simp only;omega
 .split
  .simp only;omega
  .split
   .simp only;omega
   .split
    .simp only;omega
    .split
     .simp only;omega
     .simp only;omega
theorem wK:∀(l:List ag) (c:au),cQ (cH c l).1<=cQ c+l.length
 |[],c=>MG _
 |r::l,c=>by
  unfold cH
  rw[Nj]
  split
  .split
   .have h1:=wK l (aW c r).1
    have h2:=H7 c r
    omega
   .exact Nb _
  .exact Nb _
theorem DZ (l:List ag) (c:au):cQ (N8 c l).1<=cQ c+l.length:=by
 unfold N8
 split
 .exact wK l c
 .exact Nb _
structure Fw (k:Nat) (d d':DK):Prop where
 ops:d'.ops<=d.ops+k
 waits:d'.waits.length<=d.waits.length+k
 len:d'.stand.length=d.stand.length
theorem Fw.refl (d:DK):Fw 0 d d:=⟨MG _,MG _,rfl⟩
theorem Fw.trans {a b c:DK} (h:Fw i a b) (k:Fw j b c):Fw (i+j) a c:=⟨by have:=h.ops;have:=k.ops;omega,by have:=h.waits;have:=k.waits;omega,k.len.trans h.len⟩
theorem Fw.mono {a b:DK} (h:Fw i a b) (VM:i<=j):Fw j a b:=⟨by have:=h.ops;omega,by have:=h.waits;omega,h.len⟩
theorem JZ (d:DK) (l:List (Int×Int)) (s:List UInt8):Fw d.stand.length d (OQ d l s).1:=⟨(rA d l s).1,(rA d l s).2.1,(rA d l s).2.2⟩
theorem F0 (d:DK):Fw 1 d (aA d).1:=⟨(gU d).1,(gU d).2.1,(gU d).2.2⟩
theorem Dz (n:Nat):∀(d:DK) (a:Nat) (s:List UInt8),s.length<=n->(fW d a s).1.stand.length=d.stand.length:=by
 induction n with
 |zero=>
  intro d a s hs
  have:s=[]:=Nc _a
  subst this
  rfl
 |succ n ih=>
  intro d a s hs
  by_cases h0:s=[]
  .subst h0;rfl
  .have hl:0<s.length:=Nu.2 h0
   rw[iK h0]
   split
   .rw[ih _ _ _ _z];exact(fy d _ _).2.2
   .exact(fy d _ _).2.2
theorem BG (d:DK) (j u:Int) (s:List UInt8):(Oa d j u s).1.stand.length=d.stand.length:=by
 unfold Oa
 split
 .rfl
 .split
  .rfl
  .split
   .rfl
   .split
    .rfl
    .exact Dz _ _ _ _ (MG _)
theorem Dy (d:DK) (j u:Int) (s:List UInt8):Fw (128+s.length) d (Oa d j u s).1:=⟨by have:=(tw d j u s).2;omega,by have:=(tw d j u s).1;omega,BG _ _ _ _⟩
theorem Dx (m:Nat) (fs:List (DK->DK×Int)) (d:DK) (h:∀f∈fs,∀e,e.stand.length=d.stand.length->Fw m e (f e).1):∀k,k<=fs.length->Fw (k*m) d (kt fs d k)
 |0,_=>(Fw.refl d).mono _b
 |k+1,hk=>by
  have h1:=Dx m fs d h k _a
  rw[ng fs d k _a,Nat.add_mul]
  exact(h1.trans (h _ (MJ _) _ h1.len)).mono _a
theorem uj:∀(l:List VC) (recs:List ag) (n:Nat),∀f∈Qj l recs,∀e:DK,e.stand.length=n->Fw n e (f e).1
 |[],_,_,f,hf,_,_=>by simp[Qj]at hf
 |x::l,[],_,f,hf,_,_=>by simp[Qj]at hf
 |x::l,r::recs,n,f,hf,e,he=>by
  unfold Qj at hf
  split at hf
  .rcases List.mem_cons.1 hf with rfl|hf
   .subst he;exact JZ e _ _
   .exact uj l recs n f hf e he
  .exact uj l recs n f hf e he

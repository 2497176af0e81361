/- -/
import Derived.Test.YtdkimcnlhmhpgaaGreatK30
set_option maxHeartbeats 16000000
set_option maxRecDepth 100000
set_option linter.unusedVariables false
namespace Go.Proofs.YtdkimcnlhmhpgaaGreat
open Go.RowKit
variable {x:Nf} {A:Prop} {P:Nat->Prop} {d d':DK} {nm data:List UInt8} {v:VS} {c:aj} {a:Act} {w w0:World} {S:List Nat} {j u:Int}
def wI (nm:List UInt8):Nf->Bool:=fun x=>x.name==nm
theorem D7 {p:Nf->Bool} {l:List Nf} :NM p l=(x,true)↔l.find? p=some x:=by
 unfold NM
 cases l.find? p with
 |none=>simp
 |some y=>simp
structure wL (nm data:List UInt8) (v:VS):Prop where
 quiet:aF v.d
 dead:v.dead=false
 cat:aM v.c
 item:∃x,v.c.names.find? (wI nm)=some x/\Nr v.d x.runs x.size=0/\Ov v.d x.runs x.size=data/\(∀a∈x.runs,0<=a.1)/\∀k∈Nu x.runs,2<=k/\2+v.s.journal<=(k:Int)
theorem M65 (h:A:=by
 apply MU
 intro hh
 unfold Nr at h0
 rw[if_neg hh]at h0
 cases h0):A:=h
theorem BZ (h:aF d) (k:QS P d d') (l:List (Int×Int)) (n:Int) (h0:Nr d l n=0) (hP:∀i∈Nu l,P i):Nr d' l n=0/\Ov d' l n=Ov d l n:=by
 have hx:dA l d.stand.length n:=by
  exact M65
 have h1:Nr d' l n=0:=by
  unfold Nr
  rw[k.len,if_pos hx,if_neg (by rw[k.quiet.down];simp)]
 refine⟨h1,?_⟩
 unfold Ov
 rw[if_pos h1,if_pos h0,qz (d:=d) (d':=d') (Nu l) (fun a ha=>k.seen a (by have:=(hx.lt ha).1;omega) (hP a ha))]
theorem BW (h:wL nm data v) (id:Int):cH v 3 id nm=(data,0,v):=by
 obtain⟨x,h1,h2,h3,_⟩:=h.item
 have e:fi v.c 3 id nm=(x,true):=by
  unfold fi
  rw[if_neg (by decide),if_neg (by decide)]
  exact D7.2 h1
 unfold cH
 rw[if_neg (by rw[h.dead];simp),if_neg (by simp),e,if_neg (by simp)]
 simp only[h2,h3]
 obtain⟨d,s,c,dead⟩:=v
 have hd:dead=false:=h.dead
 rw[hd]
 rfl
theorem Ib {r:VS×Int} (h:QV P v r) (hd:v.dead=false):(Oy r).1.dead=false/\QS P v.d (Oy r).1.d/\(Oy r).1.c=r.1.c/\(Oy r).1.s=r.1.s/\(Oy r).2=r.2:=by
 obtain⟨a,b,c,_⟩:=h
 refine⟨?_,a,rfl,rfl,rfl⟩
 show(r.1.dead||r.2==90)=false
 rw[c,hd]
 simpa using b
theorem oV {tx:List UInt8} (h:(Nz c tx v).2=0):(Nz c tx v).1.c=c/\(Nz c tx v).1.s.journal=v.s.journal:=by
 unfold Nz at h ⊢
 split
 .rename_i h1
  rw[if_pos h1]at h
  split
  .exact⟨rfl,rfl⟩
  .rename_i h2
   rw[if_neg h2]at h
   exact absurd h h2
 .rename_i h1
  rw[if_neg h1]at h
  exact absurd h h1
theorem tr {t:List UInt8} {runs:List (Int×Int)} (h:(NO c t runs v).2=0):(NO c t runs v).1.c=c/\(NO c t runs v).1.s.journal=v.s.journal:=by
 unfold NO at h ⊢
 split
 .exact⟨rfl,rfl⟩
 .rename_i h2
  rw[if_neg h2]at h
  exact absurd h h2
theorem Kt {fs:List (DK->DK×Int)} {g:VS->VS×Int} (hg:∀u:VS,u.s=v.s->(g u).2=0->(g u).1.c=c/\(g u).1.s.journal=u.s.journal) (h:(NK (fs.map aK++[g]) v).2=0):(NK (fs.map aK++[g]) v).1.c=c/\(NK (fs.map aK++[g]) v).1.s.journal=v.s.journal:=by
 rw[eW]at h ⊢
 by_cases h0:(NK (fs.map aK) v).2=0
 .rw[if_pos h0]at h ⊢
  rw[gH]at h h0 ⊢
  have e:NK [g] (aK (ah fs) v).1=if(g (aK (ah fs) v).1).2=0 then((g (aK (ah fs) v).1).1,0)else g (aK (ah fs) v).1:=rfl
  rw[e]at h ⊢
  by_cases h1:(g (aK (ah fs) v).1).2=0
  .rw[if_pos h1]
   exact hg (aK (ah fs) v).1 rfl h1
  .rw[if_neg h1]at h
   exact absurd h h1
 .rw[if_neg h0]at h
  exact absurd h h0
theorem sw (left:List (Int×Int)) (l:List VC) (hn:∀x∈l,0<=x.id):∀r∈(Ng left l l.length).1,0<=r.id:=by
 intro r hr
 obtain⟨k,hk,rfl⟩:=MO.1 hr
 have hk':k<l.length:=by rw[ff left l _ (Md _)]at hk;exact hk
 rw[qh left l k hk' hk]
 have:=hn l[k] (Mh hk')
 split<;>exact this
theorem Ak (h:aF d) (l:List (Int×Int)) (s:List UInt8) (h0:(NF d l s).2=0):Nr (NF d l s).1 l s.length=0/\Ov (NF d l s).1 l s.length=s/\QS (fun k=>k∉Nu l) d (NF d l s).1:=by
 have hq:=(jt (P:=fun k=>k∉Nu l) h l s (fun k hk=>hk)).1
 have hX:dA l d.stand.length s.length:=by
  apply MU
  intro hh
  unfold NF at h0
  rw[if_neg hh]at h0
  cases h0
 have Ns:∀a∈Nu l,a<d.stand.length:=fun a ha=>by have:=(hX.lt ha).1;omega
 obtain⟨d',e1,e2,e3,e4,e5,eo,ew,e6,e7⟩:=Dm (Nu l) d s h.fit h.down h.fuse Ns (mK hX.2.2.1)
 have QI:NF d l s=(d',0):=by
  unfold NF
  rw[if_pos hX,if_neg (by rw[h.down];simp),e1]
 rw[QI]at hq ⊢
 have TZ:Nr d' l s.length=0:=by
  unfold Nr
  rw[e2,if_pos hX,if_neg (by rw[e3];simp)]
 refine⟨TZ,?_,hq⟩
 unfold Ov
 rw[if_pos TZ,ML,zO (Nu l) d' s (fun i h=>e7 i h)]
 refine qG _ _ ?_
 have:((Nu l).length:Int)=Nv (s.length:Int):=hX.Bf
 unfold Nv at this
 split at this<;>omega
theorem vX {R:List (Int×Int)} (hq:aF v.d) (hd:v.dead=false) (hR:Pl 0 R) (hRm:∀k,aC R k=true->aC (Nk v) k=true) (hj:1<=v.s.journal) (Pb:aM c) (hx:c.names.find? (wI nm)=some x) (hxr:x.runs=R) (hxs:x.size=data.length)
  (fs:List (DK->DK×Int)) (g:VS->VS×Int)
  (hf:(∀f∈fs,∀d,aF d->QR (fun k=>k∈Nu R) d (f d))/\(∀u:VS,u.s=v.s->aF u.d->QV (fun k=>k∈Nu R) u (g u)))
  (hg:∀u:VS,u.s=v.s->(g u).2=0->(g u).1.c=c/\(g u).1.s.journal=u.s.journal)
  (h0:(Oy (NK (aK (fun d=>NF d R data)::(fs.map aK++[g])) v)).2=0):
  wL nm data (Oy (NK (aK (fun d=>NF d R data)::(fs.map aK++[g])) v)).1:=by
 have e:NK (aK (fun d=>NF d R data)::(fs.map aK++[g])) v=if(aK (fun d=>NF d R data) v).2=0 then NK (fs.map aK++[g]) (aK (fun d=>NF d R data) v).1 else aK (fun d=>NF d R data) v:=rfl
 rw[e]at h0 ⊢
 by_cases h1:(aK (fun d=>NF d R data) v).2=0
 .rw[if_pos h1]at h0 ⊢
  obtain⟨p1,p2,p3⟩:=Ak hq R data h1
  have hu:aF (aK (fun d=>NF d R data) v).1.d:=p3.quiet
  have hqa:=Dk fs g (aK (fun d=>NF d R data) v).1 hf.1 (fun u u1 u2 u3 u4=>hf.2 u u1 u4) hu
  obtain⟨t1,t2,t3,t4,t5⟩:=Ib hqa (by exact hd)
  obtain⟨e1,e2⟩:=Kt (v:=(aK (fun d=>NF d R data) v).1) hg (by rw[<-t5];exact h0)
  obtain⟨g1,g2⟩:=BZ hu t2 R data.length p1 (fun i hi=>hi)
  refine⟨t2.quiet,t1,by rw[t3,e1];exact Pb,x,by rw[t3,e1];exact hx,by rw[hxr,hxs];exact g1,by rw[hxr,hxs];exact g2.trans p2,by rw[hxr];exact jv hR,fun k hk=>?_⟩
  rw[hxr]at hk
  have h2:=(dI (hRm k (dQ (jv hR) hk))).1
  rw[t4,e2]
  show 2<=k/\2+v.s.journal<=(k:Int)
  omega
 .rw[if_neg h1]at h0
  exact absurd h0 h1
open Classical in
theorem zL (hq:aF v.d) (hd:v.dead=false) (hc:v.c=bI) (hj:1<=v.s.journal) (h0:(NJ v [⟨3,0,nm,data⟩]).2=0):wL nm data (NJ v [⟨3,0,nm,data⟩]).1:=by
 have hp:Ng (Nk v) [⟨3,0,nm,data⟩] 1=([⟨3,0,nm,data.length,Np (Nk v) (Nv data.length)⟩],Oz (Nk v) (Np (Nk v) (Nv data.length))):=rfl
 unfold NJ at h0 ⊢
 rw[show([⟨3,0,nm,data⟩]:List VC).length=1 from rfl,hp]at h0 ⊢
 simp only at h0 ⊢
 generalize hR:Np (Nk v) (Nv data.length)=R at*
 have hRp:Pl 0 R:=by rw[<-hR];exact fR _ _
 have hRm:∀k,aC R k=true->aC (Nk v) k=true:=fun k hk=>by rw[<-hR]at hk;exact ix hk
 rw[if_neg (by rw[hd];simp)]at h0 ⊢
 by_cases c1:Ol v.c [⟨3,0,nm,data⟩]≠0
 .rw[if_pos c1]at h0
  exact absurd h0 c1
 .rw[if_neg c1]at h0 ⊢
  by_cases c2:¬dJ (Nk v) [⟨3,0,nm,data⟩]
  .rw[if_pos c2]at h0;cases h0
  .rw[if_neg c2]at h0 ⊢
   by_cases c3:(Nn v.c [⟨3,0,nm,data.length,R⟩]).2≠0
   .rw[if_pos c3]at h0
    exact absurd h0 c3
   .rw[if_neg c3]at h0 ⊢
    have c3:(Nn v.c [⟨3,0,nm,data.length,R⟩]).2=0:=by simpa using c3
    by_cases c4:bQ [⟨3,0,nm,data.length,R⟩]≠0
    .rw[if_pos c4]at h0
     exact absurd h0 c4
    .rw[if_neg c4]at h0 ⊢
     have Pa:aM v.c:=by
      apply MU
      intro hh
      unfold Nn at c3
      rw[if_neg hh]at c3
      cases c3
     have Pq:Nn v.c [⟨3,0,nm,data.length,R⟩]=b9 v.c [⟨3,0,nm,data.length,R⟩]:=by unfold Nn;rw[if_pos Pa]
     have Pb:aM (Nn v.c [⟨3,0,nm,data.length,R⟩]).1:=by
      rw[Pq]at c3 ⊢
      exact lC Pa (fun r hr=>by obtain rfl:=MB.1 hr;exact Int.le_refl _) c3
     have Zz:(Nn v.c [⟨3,0,nm,data.length,R⟩]).1.names.find? (wI nm)=some ⟨0,nm,data.length,R⟩:=by
      rw[Pq,hc]at c3 ⊢
      unfold b9 at c3 ⊢
      by_cases m1:az ⟨3,0,nm,data.length,R⟩=true
      .rw[if_pos m1]at c3 ⊢
       by_cases m2:(bE bI ⟨3,0,nm,data.length,R⟩).2=0
       .rw[if_pos m2]
        show(NL [] (ag.item ⟨3,0,nm,data.length,R⟩) 0 256 false).1.find? _=_
        unfold NL
        rw[if_neg (by simp),if_neg (by
         rintro(hh|hh)
         .obtain⟨y,hy,_⟩:=QO.1 hh
          cases hy
         .exact absurd hh (by show ¬(0:Int)<0;decide)),if_neg (by simp)]
        unfold P0
        simp[wI,ag.item]
       .rw[if_neg m2]at c3;exact absurd c3 m2
      .rw[if_neg m1]at c3;cases c3
     generalize Nn v.c [⟨3,0,nm,data.length,R⟩]=AP at*
     generalize NZ [⟨3,0,nm,data.length,R⟩]=TX at*
     have Xu:bX [⟨3,0,nm,data⟩] [⟨3,0,nm,data.length,R⟩]=[aK (fun d=>NF d R data)]:=rfl
     rw[Xu]at h0 ⊢
     by_cases c5:(TX.length:Int)<=v.s.journal*128-v.s.used
     .rw[if_pos c5]at h0 ⊢
      have e:[aK (fun d=>NF d R data)]++[aK Ni,Nz AP.1 TX]=aK (fun d=>NF d R data)::([Ni].map aK++[Nz AP.1 TX]):=rfl
      rw[e]at h0 ⊢
      refine vX hq hd hRp hRm hj Pb Zz rfl rfl [Ni] _ ⟨fun f hf d hd=>?_,fun u u1 hu=>?_⟩ (fun u u1 h0=>oV h0) h0
      .obtain rfl:=MB.1 hf
       exact dE hd
      .refine pw _ _ u (fun k hk=>?_) hu
       have h2:=(dI (hRm k (dQ (jv hRp) hk))).1
       rw[u1]
       omega
     .rw[if_neg c5]at h0 ⊢
      by_cases c6:(aG AP.1).2≠0
      .rw[if_pos c6]at h0
       exact absurd h0 c6
      .rw[if_neg c6]at h0 ⊢
       by_cases c7:NI (Oz (Nk v) R) (Nv (aG AP.1).1.length)≠0
       .rw[if_pos c7]at h0;cases h0
       .rw[if_neg c7]at h0 ⊢
        have e:[aK (fun d=>NF d R data)]++[NO AP.1 (aG AP.1).1 (Np (Oz (Nk v) R) (Nv (aG AP.1).1.length))]=aK (fun d=>NF d R data)::(([]:List (DK->DK×Int)).map aK++[NO AP.1 (aG AP.1).1 (Np (Oz (Nk v) R) (Nv (aG AP.1).1.length))]):=rfl
        rw[e]at h0 ⊢
        refine vX hq hd hRp hRm hj Pb Zz rfl rfl [] _ ⟨fun f hf=>by simp at hf,fun u u1 hu=>?_⟩ (fun u u1 h0=>tr h0) h0
        refine pt _ _ _ u (fun k hk=>?_) hu
        have h2:=(dI (hRm k (dQ (jv hRp) hk))).1
        refine⟨by omega,fun hm=>?_⟩
        have h3:=(kc (ix (dQ (jv (fR _ _)) hm))).2.1
        rw[dQ (jv hRp) hk]at h3
        cases h3
theorem tg {P:Program} {Q:Exit->Act->World->Prop} {c rest:Code} (l:Nat) (J:Act->World->Prop) (μ:Act->World->Nat) (hf:findLabel c l=some (Code.skip.seq rest))
  (pass:∀a w,J a w->rest.wp P (Exit.jump l (fun a' w'=>J a' w'/\μ a' w'<μ a w) Q) a w)
  (first:(∀a w,J a w->rest.wp P (Exit.jump l J Q) a w)->c.wp P (Exit.jump l J Q) a w):(Code.scope c).wp P Q a w:=
 wp_scope_jumps l J μ hf (first (fun a w h=>wp_mono (pass a w h) (fun e a' w' he=>by
  cases e with
  |goto l'=>exact⟨he.1,he.2.1⟩
  |_=>exact he))) (fun a w h=>wp_seq (wp_skip (pass a w h)))
theorem F7:∃i,Tryz.prog.info? 92=some i/\i.zero=some (.slice none 0 0)/\i.size=1/\i.bytes=24:=by
 have hi:(Tryz.prog.info? 92).map (fun i=>(i.zero,i.size,i.bytes))=some (some (.slice none 0 0),1,24):=by kernel_rfl
 exact VQ
def dZ (w0 w:World) (v:Value) (l:List (List ag)):Prop:=
 ∃vs:List (List ag×Value),vs.map (·.1)=l/\w.ownsRow w0.heap.size 92 1 v l.length (vs.map (·.2))/\∀x∈vs,aP w0 w x.2 x.1
def l9 (w0 w:World) (S:List Nat):Prop:=∀x∈S,x<w0.heap.size\/∃cs t,ae w x cs t/\t≠128/\t≠102/\t≠92
theorem l9.one {b:Nat} {cs:Array Value} {t:TypeId} (h:ae w b cs t) (h1:t≠128) (h2:t≠102) (h3:t≠92):l9 w0 w [b]:=fun x hx=>by
 have hx:x=b:=by simpa using hx
 subst hx;exact Or.inr ⟨_,_,h,h1,h2,h3⟩
theorem l9.recs (h:l9 w0 w S):nI w0 w S:=fun x hx=>(h x hx).imp id (fun⟨cs,t,o,h1,h2,_⟩=>⟨cs,t,o,h1,h2⟩)
section
variable {S:List Nat} {w0 w w':World} {v:Value} {l:List (List ag)}
theorem dZ.kept (h:dZ w0 w v l) (k:aa S w w') (hS:l9 w0 w S):dZ w0 w' v l:=by
 obtain⟨vs,h1,h2,h3⟩:=h
 refine⟨vs,h1,dS h2 k (fun x hx hb cs hc=>?_),fun x hx=>(h3 x hx).kept k hS.recs⟩
 rcases hS x hx with h1|⟨UJ,t,o,_,_,ht⟩
 .omega
 .exact ht (nh o hc)
theorem dZ.nil (w0 w:World):dZ w0 w (.slice none 0 0) []:=⟨[],rfl,MG _ _ _ _,fun x hx=>by cases hx⟩
theorem dZ.shape (h:dZ w0 w v l):∃p c,v=.slice p l.length c:=by
 obtain⟨vs,h1,h2,h3⟩:=h;exact ai h2
theorem aP.grown {w5:World} {base size n:Nat} {e:TypeId} {u v10:Value} {xs:List Value} {rs:List ag} (h:aP w0 w u rs) (hr:w.ownsRow base e size v10 n xs) (hg:w.grownBy w5 v10.ownBlock) (h1:e≠128) (h2:e≠102):aP w0 w5 u rs:=by
 obtain⟨vs,e1,e2,e3⟩:=h
 exact⟨vs,e1,bm e2 (fun g cs hb hc=>hg.block g (MY hc) (fun e'=>aB hr (show ae w g cs 102 from hc) h2 e'.symm)),fun x hx=>⟨bm (e3 x hx).1 (fun g cs hb hc=>hg.block g (MY hc) (fun e'=>aB hr (show ae w g cs 128 from hc) h1 e'.symm)),(e3 x hx).2⟩⟩
theorem dZ.more {v' kv:Value} {o:List ag} {w5:World} {vs:List (List ag×Value)} (h1:vs.map (·.1)=l) (h3:∀x∈vs,aP w0 w x.2 x.1) (h2:w.ownsRow w0.heap.size 92 1 v l.length (vs.map (·.2)))
  (hr:aP w0 w kv o) {ob:Obj} (hg:(w.alloc ob).grownBy w5 v.ownBlock) (hn:w5.ownsRow w0.heap.size 92 1 v' (l.length+1) (vs.map (·.2)++[kv])):dZ w0 w5 v' (l++[o]):=by
 have Nt:=Me h2 ob
 have hk:∀(u:Value) (rs:List ag),aP w0 w u rs->aP w0 w5 u rs:=fun u rs hu=>
  (hu.kept0 ((aa.refl [] w).alloc ob)).grown Nt hg (by decide) (by decide)
 refine⟨vs++[(o,kv)],by simp[h1],by rw[Ms,Mc,MT];exact hn,fun x hx=>?_⟩
 rcases Mj.1 hx with hx|hx
 .exact hk _ _ (h3 x hx)
 .have hx:x=(o,kv):=by simpa using hx
  subst hx
  exact hk _ _ hr
end
theorem De (x0 x1 x2 x3 x4 x5 x6 x7 x8 x9 x10 x11 x12 x13 x14 x15 x16 x17 x18 x19 x20 x21 x22 x23 x24 x25 x26 x27 x28 x29 x30 x31 x32 x33 x34 x35 x36 x37 x38 x39 x40 x41 x42 x43 x44 x45 x46 x47 x48 x49 x50 x51 x52:Value):∃u:Nat->Value,({tmps:=#[x0,x1,x2,x3,x4,x5,x6,x7,x8,x9,x10,x11,x12,x13,x14,x15,x16,x17,x18,x19,x20,x21,x22,x23,x24,x25,x26,x27,x28,x29,x30,x31,x32,x33,x34,x35,x36,x37,x38,x39,x40,x41,x42,x43,x44,x45,x46,x47,x48,x49,x50,x51,x52],defers:=[]}:Act)={tmps:=#[x0,(u 1),x2,x3,x4,x5,(u 6),(u 7),(u 8),(u 9),(u 10),(u 11),(u 12),(u 13),(u 14),(u 15),(u 16),(u 17),(u 18),(u 19),(u 20),(u 21),(u 22),(u 23),(u 24),(u 25),(u 26),(u 27),(u 28),(u 29),(u 30),(u 31),(u 32),(u 33),(u 34),(u 35),(u 36),(u 37),(u 38),(u 39),(u 40),(u 41),(u 42),(u 43),(u 44),(u 45),(u 46),(u 47),(u 48),(u 49),(u 50),(u 51),(u 52)],defers:=[]}:=
 ⟨fun n=>[x0,x1,x2,x3,x4,x5,x6,x7,x8,x9,x10,x11,x12,x13,x14,x15,x16,x17,x18,x19,x20,x21,x22,x23,x24,x25,x26,x27,x28,x29,x30,x31,x32,x33,x34,x35,x36,x37,x38,x39,x40,x41,x42,x43,x44,x45,x46,x47,x48,x49,x50,x51,x52].getD n undef,rfl⟩
structure qT (w w':World) (rb:Nat) (s0:List UInt8) (v4:Value) (out:List (List ag)) (s:List UInt8):Prop where
 at_:fB s0 out s
 rd:aO w' w.heap.size s 0
 box:ae w' rb #[.pointer (some ⟨w.heap.size,0,none⟩)] 255
 row:dZ w w' v4 out
 kept:aa [] w w'
 hrb:w.heap.size<rb
 few:out.length*8+s.length<=s0.length
def Lx (w:World) (rb:Nat) (s0:List UInt8) (a':Act) (w':World):Prop:=
 ∃(v4:Value) (out:List (List ag)) (s:List UInt8),(∃u:Nat->Value,a'={tmps:=#[.string (bs s0),(u 1),.slice none 0 0,.int .i64 0,v4,.pointer (some ⟨rb,0,none⟩),(u 6),(u 7),(u 8),(u 9),(u 10),(u 11),(u 12),(u 13),(u 14),(u 15),(u 16),(u 17),(u 18),(u 19),(u 20),(u 21),(u 22),(u 23),(u 24),(u 25),(u 26),(u 27),(u 28),(u 29),(u 30),(u 31),(u 32),(u 33),(u 34),(u 35),(u 36),(u 37),(u 38),(u 39),(u 40),(u 41),(u 42),(u 43),(u 44),(u 45),(u 46),(u 47),(u 48),(u 49),(u 50),(u 51),(u 52)],defers:=[]})/\qT w w' rb s0 v4 out s
def Cv (w:World) (_:Act) (w':World):Nat:=match w'.cell? ⟨w.heap.size,0,none⟩with|some (.string s)=>s.size|_=>0
theorem xz {w':World} {s:List UInt8} {x:Int} (h:aO w' w.heap.size s x):Cv w a w'=s.length:=by
 unfold Cv
 rw[show w'.cell? ⟨w.heap.size,0,none⟩=some (.string (bs s))from ae.cell h 0 (by simp)]
 exact Nj s
def l7 (s:List UInt8) (w:World) (e:Ending) (w':World):Prop:=
 ((∃ls v,N9 s=some ls/\dZ w w' v ls/\e=.returned (.tuple #[v,.int .i64 0]))\/(N9 s=none/\e=.returned (.tuple #[.slice none 0 0,.int .i64 110])))/\aa [] w w'
section
variable {w wr wx:World} {rb:Nat} {s0:List UInt8} {v4:Value} {out:List (List ag)} {s s':List UInt8} {x:Int}
theorem qT.FJ (h:qT w wr rb s0 v4 out s) (kk:aa S wr wx) (hS:∀y∈S,y=w.heap.size):dZ w wx v4 out/\ae wx rb #[.pointer (some ⟨w.heap.size,0,none⟩)] 255/\aa [] w wx:=
 ⟨h.row.kept kk (fun y hy=>by rw[hS y hy];exact Or.inr ⟨_,_,h.rd,by decide,by decide,by decide⟩),kk.own h.box (fun hb=>by have:=hS _ hb;have:=h.hrb;omega),h.kept.call kk (fun y hy=>Or.inr (by have:=hS y hy;omega))⟩
end
theorem M66 (h:A:=by
 go_wp2_with fail
 simp only[Exit.jump]
 go_ret2
 exact⟨Or.inr ⟨Pk.out,rfl⟩,kept4⟩):A:=h
theorem G7 (s0:List UInt8) (w:World) (hs:s0.length<=1000000):
  Calls Tryz.prog 124 #[.string (bs s0)] w (l7 s0 w):=by
 have PF:=fun W=>oh (bs s0) W
 rw[dP]at PF
 have RO:=Mb PF
 have HS:=Mb hs
 clear PF hs
 go_enter Tryz.func124,Tryz.ntmps124
 go_wp2_with fail
 refine tg 0 (fun a' w'=>∃rb,Lx w rb s0 a' w') (Cv w) rfl ?_ ?_
 .rintro a' w' ⟨rb,v4,out,s,⟨u,rfl⟩,N8⟩
  have XD:=N8.row.shape
  obtain⟨p4,c4,rfl⟩:=XD
  have cr:w'.cell? ⟨rb,0,none⟩=some (.pointer (some ⟨w.heap.size,0,none⟩)):=N8.box.cell 0 (by simp)
  have hl:=Dj w.heap.size s 0 w' N8.rd
  by_cases QE:s=[]
  .have Qi:=N8.at_.end_ QE
   subst QE
   have Ur:=Mb Qi
   have HL:=Mb hl
   have OK:=Mb N8.row
   have QC:=N8.kept
   clear Qi hl N8 RO
   go_wp2_with fail
   refine HL.out.mono ?_;rintro e w1 ⟨rfl,rfl⟩
   go_wp2_with fail
   simp only[Exit.jump]
   go_ret2
   exact⟨Or.inl ⟨_,_,Ur.out,OK.out,rfl⟩,QC⟩
  .have aaF:0<s.length:=MH.2 QE
   have Ot:((s.length:Int)==0)=false:=by rw[ME];omega
   have hu1:=fun W (hr:aO W w.heap.size s 0) (ho:ae W rb #[.pointer (some ⟨w.heap.size,0,none⟩)] 255)=>(nU w.heap.size s 0 W hr).mono fun e w1 hh=>(show e=.returned (.int .u32 (aR s).1)/\aO w1 w.heap.size (aR s).2.1 (aR s).2.2/\aa [w.heap.size] W w1/\w1.cell? ⟨rb,0,none⟩=some (.pointer (some ⟨w.heap.size,0,none⟩))/\ae w1 rb #[.pointer (some ⟨w.heap.size,0,none⟩)] 255 from⟨hh.1,hh.2.1,hh.2.2,(hh.2.2.own ho (by have:=N8.hrb;simp;omega)).cell 0 (by simp),hh.2.2.own ho (by have:=N8.hrb;simp;omega)⟩)
   have hu2:=fun W (hr:aO W w.heap.size (aR s).2.1 (aR s).2.2) (ho:ae W rb #[.pointer (some ⟨w.heap.size,0,none⟩)] 255)=>(nU w.heap.size (aR s).2.1 (aR s).2.2 W hr).mono fun e w1 hh=>(show e=.returned (.int .u32 (cR s).1)/\aO w1 w.heap.size (cR s).2.1 (cR s).2.2/\aa [w.heap.size] W w1/\w1.cell? ⟨rb,0,none⟩=some (.pointer (some ⟨w.heap.size,0,none⟩))/\ae w1 rb #[.pointer (some ⟨w.heap.size,0,none⟩)] 255 from⟨hh.1,hh.2.1,hh.2.2,(hh.2.2.own ho (by have:=N8.hrb;simp;omega)).cell 0 (by simp),hh.2.2.own ho (by have:=N8.hrb;simp;omega)⟩)
   have ba:((aR s).1:Int)<4294967296:=by have:(aR s).1<4294967296:=dB 4 s 0;omega
   have ewa:IntKind.i64.wrap ((aR s).1:Int)=((aR s).1:Int):=IntWalk.i64_in _ (by omega)
   have Pc:=fun W (hr:aO W w.heap.size (cR s).2.1 (cR s).2.2)=>(show Calls Tryz.prog 189 #[.pointer (some ⟨w.heap.size,0,none⟩),.int .i64 (aR s).1] W fun r w1=>r=.returned (.string (bs (bR s).1))/\aO w1 w.heap.size (bR s).2.1 (bR s).2.2/\aa [w.heap.size] W w1 from oe w.heap.size (cR s).2.1 (cR s).2.2 (aR s).1 W hr)
   have Xb:(bR s).1.length<=s0.length:=by
    by_cases hx:(bR s).2.2=0
    .have:=(nE hx).2;have:=N8.few;omega
    .rw[show(bR s).1=[]from nN hx];simp
   have OT:=fun W=>FX (bR s).1 W
   have aad:=fun W=>Cd (bs (bR s).1) W (by rw[Nj];have:=HS.out;unfold maxLen;omega)
   rw[dP]at aad
   have hty:=fun o=>uI (s:=s) (o:=o)
   have htb:=fun h=>EO (s:=s) h
   have hte:=fun h=>H9 (s:=s) h
   have hts:=fun h=>Hz (s:=s) h
   have Ns:=fun h=>(nE (s:=s) h).2
   have HU1:=Mb hu1
   have HU2:=Mb hu2
   have Tc:=Mb Pc
   have UM:=Mb OT
   have Vn:=Mb aad
   have HTY:=Mb hty
   have HTB:=Mb htb
   have HTE:=Mb hte
   have HTS:=Mb hts
   have NU:=Mb Ns
   have HL:=Mb hl
   have OM:=Mb N8
   have Yg:=Mb QE
   clear hu1 hu2 Pc OT aad hty htb hte hts Ns hl N8 Xb QE RO
   generalize aR s=A at*
   generalize cR s=C at*
   generalize bR s=B at*
   go_wp2_with fail
   refine HL.out.mono ?_;rintro e w1 ⟨rfl,rfl⟩
   clear HL
   go_wp2_with fail
   go_region_held3 (fun W=>W.cell? ⟨rb,0,none⟩=some (.pointer (some ⟨w.heap.size,0,none⟩))) (go_keep)
    (first
     |(go_at_call 195;((with_reducible refine(HU1.out _ ?_ ?_).mono ?_));(first|exact OM.out.rd|exact ae.drew OM.out.rd);(first|exact OM.out.box|exact ae.drew OM.out.box);rintro e w1 ⟨rfl,hR1,TQ,q1,ho1⟩)
     |(go_at_call 195;((with_reducible refine(HU2.out _ ?_ ?_).mono ?_));(first|exact hR1|exact ae.drew hR1);(first|exact ho1|exact ae.drew ho1);rintro e w2 ⟨rfl,QX,kk2,q2,ho2⟩))
   all_goals
    have kkA:aa [w.heap.size] w' w2:=aa.trans (by first|exact TQ|exact((aa.refl _ _).drew).trans TQ) kk2
    clear TQ kk2 hR1 ho1 q1 HU1 HU2
    go_wp2_with fail
    refine(Tc.out _ QX).mono ?_;rintro e w3 ⟨rfl,hR3,TL⟩
    have kkB:=kkA.trans TL
    clear QX ho2 q2 Tc kkA TL
    go_wp2_with fail
    refine(UM.out _).mono ?_;rintro e w4 ⟨hc,kk4⟩
    have kkC:=kkB.trans (kk4.mono (T:=[w.heap.size]) (by simp))
    obtain⟨ac0,box4,kept4⟩:=OM.out.FJ kkC (by simp)
    have Ut:=kk4.own hR3 (by simp)
    have cr4:w4.cell? ⟨rb,0,none⟩=some (.pointer (some ⟨w.heap.size,0,none⟩)):=box4.cell 0 (by simp)
    clear UM kkC hR3 cr
    rcases hc with⟨o,v,ho,Nt,rfl⟩|⟨ho,v,rfl⟩
    .have HE:=Mb (Bm w.heap.size B.2.1 B.2.2 w4 Ut)
     by_cases hx:B.2.2=0
     .have Ns:=NU.out hx
      by_cases PU:Qh B.1=C.1
      .have NQ:=OM.out.at_.step Yg.out (HTY.out o ho hx PU)
       have hR5:aO w4 w.heap.size B.2.1 0:=by have:=Ut;rw[hx]at this;exact this
       rw[hx]at HE
       have abB:((Qh B.1:Int) != (C.1:Int))=false:=by rw[PU];simp
       have acr:((Qh B.1:Int)==(C.1:Int))=true:=by rw[PU];simp
       obtain⟨pv,cv,rfl⟩:=Nt.shape
       obtain⟨vs,e1,e2,e3⟩:=ac0
       obtain⟨i0,q0,q1,q2,q3⟩:=F7
       have Qr:=OM.out.few
       have hs0:=HS.out
       have r3:out.length+1<=maxLen:=by unfold maxLen;omega
       have r4:(out.length+1)*24<=140737488355328:=by omega
       have ad6:w.heap.size<=w4.heap.size:=kept4.size
       have ZN:aP w w4 (.slice pv o.length cv) o:=Nt.base (by have:=OM.out.kept.size;have:=kkB.size;omega)
       have HRN:=Mb ZN
       have Qu:=Mb NQ
       have HR5:=Mb hR5
       have HE2:=Mb e2
       have HE3:=Mb e3
       have HE1:=Mb e1
       have Oa:=Mb Ns
       have adr:=Mb Qr
       have HCR:=Mb (Vn.out w4)
       clear HTY HTB HTE HTS NU Ut hR5 Nt ZN NQ e1 e2 e3 Ns PU Vn Qr ho hx
       go_wp2_with fail
       refine HE.out.mono ?_;rintro e w5 ⟨rfl,rfl⟩
       go_wp2_with fail
       refine HCR.out.mono ?_;rintro e w5 ⟨rfl,rfl⟩
       go_wp2_with (at_builtin;go_must (refine Mv _ rfl (.tmp 49) (.tmp 51) 187 rfl w.heap.size 92 i0 (.slice none 0 0) 1 24 Tryz.underlying187 q0 q1 q2 q3 rfl (by decide) _ _ _ rfl (Me HE2.out _) ⟨w4.heap.size,0,none⟩ 1 1 [.slice pv o.length cv] rfl rfl ?_ ?_ r3 r4 ?_ ?_))
       .exact World.news_of_block (M0 w4 _)
       .intro u hu;simp at hu;subst hu;rfl
       .simp;omega
       intro v6 w6 o6 OE _ _
       have SH:=dZ.more HE1.out HE3.out HE2.out HRN.out OE o6
       have Rj:=Me HE2.out (.cells #[.slice pv o.length cv] 92)
       have aaR:aO w6 w.heap.size B.2.1 0:=cK Rj OE (ae.alloc HR5.out _) (by decide)
       have YJ:=cK Rj OE (box4.alloc _) (by decide)
       have Ps:aa [] w w6:=(kept4.alloc _).grown OE (fun i hi=>Or.inr (Mn Rj i hi).1)
       have aby:qT w w6 rb s0 v6 (out++[o]) B.2.1:=⟨Qu.out,aaR,YJ,SH,Ps,OM.out.hrb,by have:=adr.out;have:=Oa.out;rw[Mc,MT];omega⟩
       have ac3:=Mb aby
       have adT:=Mb aaR
       obtain⟨p6,c6,rfl⟩:=SH.shape
       clear OE o6 Rj aaR YJ Ps aby SH
       go_wp2_with fail
       go_step3
       refine⟨rfl,⟨rb,_,_,_,(De ..),ac3.out⟩,?_⟩
       rw[xz adT.out,xz OM.out.rd]
       have:=Oa.out
       omega
      .have OF:=OM.out.at_.no Yg.out (HTS.out PU)
       rw[hx]at HE
       have Wj:¬((Qh B.1:Int)=(C.1:Int)):=by omega
       have abB:((Qh B.1:Int) != (C.1:Int))=true:=by simpa using Wj
       have acr:((Qh B.1:Int)==(C.1:Int))=false:=by simpa using Wj
       have Pk:=Mb OF
       have HCR:=Mb (Vn.out w4)
       obtain⟨pv,cv,rfl⟩:=Nt.shape
       clear HTY HTB HTE HTS NU Ut Nt Ns OF Vn Wj PU ho hx
       go_wp2_with fail
       refine HE.out.mono ?_;rintro e w5 ⟨rfl,rfl⟩
       go_wp2_with fail
       refine HCR.out.mono ?_;rintro e w5 ⟨rfl,rfl⟩
       exact M66
     .have OF:=OM.out.at_.no Yg.out (HTE.out hx)
      have hx1:(B.2.2 != 0)=true:=by simpa using hx
      have Vz:(B.2.2==0)=false:=by simpa using hx
      have Pk:=Mb OF
      obtain⟨pv,cv,rfl⟩:=Nt.shape
      clear HTY HTB HTE HTS NU Ut Nt OF Vn ho
      go_wp2_with fail
      refine HE.out.mono ?_;rintro e w5 ⟨rfl,rfl⟩
      exact M66
    .have OF:=OM.out.at_.no Yg.out (HTB.out ho)
     have Pk:=Mb OF
     clear HTY HTB HTE HTS NU Ut OF Vn ho
     exact M66
 .intro Tn
  have W7:=Mb Tn
  clear Tn
  go_wp2_with fail
  refine(RO.out _).mono ?_;rintro e w1 ⟨rfl,hR,OY⟩
  have Ns:=ae.lt hR
  have N8:qT w (w1.alloc (.cells #[.pointer (some ⟨w.heap.size,0,none⟩)] 255)) w1.heap.size s0 (.slice none 0 0) [] s0:=⟨fB.start _,ae.alloc hR _,ae.new _ _ _,dZ.nil _ _,OY.alloc _,Ns,by simp⟩
  have OM:=Mb N8
  clear N8 hR
  go_wp2_with fail
  go_step3
  rename_i hcont
  refine hcont _ _ (W7.out _ _ ⟨w1.heap.size,.slice none 0 0,[],s0,De ..,OM.out⟩)
def jh (d:DK):Nat->Nat->List UInt8
 |_,0=>[]
 |a,m+1=>seen d a++jh d (a+1) m
theorem yZ (d:DK) (q m:Nat):ch d (q+m)=ch d q++jh d (2+q) m:=by
 induction m generalizing q with
 |zero=>simp[jh]
 |succ m ih=>
  have e:q+(m+1)=(q+1)+m:=by omega
  rw[e,ih (q+1),gQ,jh,Mi,show 2+(q+1)=2+q+1 from by omega]
theorem mL (k:Nat) (h:∀i,i<k->seen d' (2+i)=seen d (2+i)):ch d' k=ch d k:=by
 induction k with
 |zero=>rfl
 |succ k ih=>rw[gQ,gQ,ih (fun i hi=>h i (by omega)),h k (by omega)]
theorem sj (d:DK) (m:Nat):∀(a:Nat) (W:List UInt8),(∀i,i<m->seen d (a+i)=av (W.drop (128*i)))->jh d a m=jT m W:=by
 induction m with
 |zero=>intro a W h;rfl
 |succ m ih=>
  intro a W h
  rw[jh,jT,ih (a+1) (W.drop 128) (fun i hi=>by
   have:=h (i+1) (by omega)
   rw[List.drop_drop,show 128+128*i=128*(i+1)from by omega,show a+1+i=a+(i+1)from by omega]
   exact this)]
  have:=h 0 (by omega)
  simp only[Nat.mul_zero,List.drop_zero,Nat.add_zero]at this
  rw[this]
theorem ow (hf:bg d) (u:Nat) (h:2+(Nv (u:Int)).toNat<=d.stand.length):(ch d (Nv (u:Int)).toNat).take u=ch d (u/128)++(seen d (2+u/128)).take (u%128):=by
 have hn:Nv (u:Int)=(((u+127)/128:Nat):Int):=by
  unfold Nv
  split
  .omega
  .omega
 rw[hn,ML]at h ⊢
 by_cases hr:u%128=0
 .have e:(u+127)/128=u/128:=by omega
  rw[e]at h ⊢
  rw[hr,List.take_zero,Nc,Mk]
  rw[kE hf _ h];omega
 .have e:(u+127)/128=u/128+1:=by omega
  rw[e]at h ⊢
  have hl:=kE hf (u/128) (by omega)
  rw[gQ,List.take_append,hl,Mk (by rw[hl];omega),show u-128*(u/128)=u%128 from by omega]
theorem om (u:Nat):(Nv (u:Int)).toNat=(u+127)/128:=by
 have hn:Nv (u:Int)=(((u+127)/128:Nat):Int):=by
  unfold Nv
  split
  .omega
  .omega
 rw[hn,ML]
theorem Eu (n:Nat):∀(d:DK) (a:Nat) (s:List UInt8),s.length<=n->bg d->d.down=false->d.fuse<0->a+(s.length+127)/128<=d.stand.length->
  ∃d',dL d a s=(d',0)/\d'.stand=d.stand/\d'.down=false/\d'.fuse=d.fuse/\bg d'/\(∀i,i<a->seen d' i=seen d i)/\∀i,128*i<s.length->seen d' (a+i)=av (s.drop (128*i)):=by
 induction n with
 |zero=>
  intro d a s hs hf hd Um ha
  have:s=[]:=Mt (by omega)
  subst this
  exact⟨d,rfl,rfl,hd,rfl,hf,fun _ _=>rfl,fun i hi=>by simp at hi⟩
 |succ n ih=>
  intro d a s hs hf hd Um ha
  by_cases h0:s=[]
  .subst h0
   exact⟨d,rfl,rfl,hd,rfl,hf,fun _ _=>rfl,fun i hi=>by simp at hi⟩
  .have hl:0<s.length:=MH.2 h0
   obtain⟨hc,hn⟩:=wS (s:=s) hd Um (by omega:a<d.stand.length)
   have RS:(aL d a (av s)).down=false:=by
    show(if d.fuse=0 then true else d.down)=false
    rw[if_neg (by omega),hd]
   have YQ:(aL d a (av s)).fuse=d.fuse:=by
    show(if 0<d.fuse then d.fuse-1 else d.fuse)=d.fuse
    rw[if_neg (by omega)]
   have N4:bg (aL d a (av s)):=by rw[<-hn];exact hf.write _ _
   obtain⟨d',e1,e2,e3,e4,e5,e6,e7⟩:=ih (aL d a (av s)) (a+1) (s.drop 128) (by rw[Mq];omega) N4 RS (by rw[YQ];exact Um) (by rw[Mq];show a+1+_<=d.stand.length;omega)
   refine⟨d',?_,e2,e3,e4.trans YQ,e5,fun i hi=>?_,fun i hi=>?_⟩
   .rw[dq h0,if_pos hc,hn,e1]
   .rw[e6 i (by omega),gE,if_neg (by omega)]
   .cases i with
    |zero=>
     rw[Nat.add_zero,e6 a (by omega),gE,if_pos rfl];rfl
    |succ i=>
     have:=e7 i (by rw[Mq];omega)
     rw[List.drop_drop,show 128+128*i=128*(i+1)from by omega,show a+1+i=a+(i+1)from by omega]at this
     exact this
theorem np (hc:aN d.stand.length j u=0) (hd:d.down=false):NC d j u=0:=by
 unfold NC
 rw[if_neg (by omega),if_neg (by rw[hd];simp)]
theorem yp (hf:bg d) (hd:d.down=false) (Um:d.fuse<0) (S:List UInt8) (hc:aN d.stand.length j u=0):
  (128*j-u<S.length/\(Nm d j u S).2=100)\/∃d',Nm d j u S=(d',0)/\d'.stand=d.stand/\d'.down=false/\d'.fuse=d.fuse/\bg d'/\aN d.stand.length j (u+S.length)=0/\Oh d' j (u+S.length)=Oh d j u++S:=by
 obtain⟨c1,c2,c3,c4⟩:=gN hc
 unfold Nm
 rw[if_neg (by omega)]
 by_cases PA:128*j-u<S.length
 .rw[if_pos PA];exact Or.inl ⟨PA,rfl⟩
 .rw[if_neg PA,if_neg (by rw[hd];simp)]
  right
  have VJ:aN d.stand.length j (u+S.length)=0:=by
   unfold aN
   rw[if_neg (by omega)]
  by_cases h0:S=[]
  .subst h0
   rw[if_pos rfl]
   exact⟨d,rfl,rfl,hd,rfl,hf,VJ,by simp⟩
  .rw[if_neg h0]
   have hl:0<S.length:=MH.2 h0
   obtain⟨k,rfl⟩:=Mr c3
   rw[ML]
   have Oj:((seen d (2+k/128)).take (k%128)).length=k%128:=by
    by_cases hr:k%128=0
    .rw[hr];rfl
    .rw[Mp,hZ hf (by omega)];omega
   obtain⟨W,hW⟩:∃W,W=(seen d (2+k/128)).take (k%128)++S:=⟨_,rfl⟩
   have hWl:W.length=k%128+S.length:=by rw[hW,Mc,Oj]
   obtain⟨d',e1,e2,e3,e4,e5,e6,e7⟩:=Eu _ d (2+k/128) W (Md _) hf hd Um (by omega)
   rw[<-hW]
   refine⟨d',e1,e2,e3,e4,e5,VJ,?_⟩
   have VK:aN d'.stand.length j ((k:Int)+S.length)=0:=by rw[e2];exact VJ
   have PU:((k:Int)+S.length)=((k+S.length:Nat):Int):=by omega
   unfold Oh
   rw[if_pos (np VK e3),if_pos (np hc hd),PU,ML,ML,ow hf k (by rw[om];omega),om]
   have hm:(k+S.length+127)/128=k/128+(W.length+127)/128:=by omega
   rw[hm,yZ,sj d' _ (2+k/128) W (fun i hi=>e7 i (by omega)),mL (k/128) (fun i hi=>e6 _ (by omega))]
   have Po:=kE hf (k/128) (by omega)
   rw[List.take_append,Po,Mk (by rw[Po];omega),show k+S.length-128*(k/128)=W.length from by omega,qG _ _ (by omega),hW,Mi]
end Go.Proofs.YtdkimcnlhmhpgaaGreat
namespace Go.Proofs.YtdkimcnlhmhpgaaGreat
open Go.RowKit
variable {f n u:Int} {s:SB} {l:List (Int×Int)} {i j:Nat} {a b d:DK}
theorem zm {s:Int} (h:eQ f s l):lies f s l=true:=by
 have:∀i,i<=l.length->fT f s l i=true:=by
  intro i
  induction i with
  |zero=>intro _;rfl
  |succ i ih=>
   intro hi
   rw[iy f s l i (by omega),ih (by omega),Bool.true_and,MJ]
   have h1:=h.1 l[i] (Mh _)
   unfold iG at h1
   refine⟨eM.2 (by omega),?_⟩
   rw[List.all_eq_true]
   intro x hx
   obtain⟨j,hj,rfl⟩:=List.mem_take_iff_getElem.1 hx
   have h2:=List.pairwise_iff_getElem.1 h.2 j i (by omega) (by omega) (by omega)
   exact qP.2 (Or.symm h2)
 exact this _ (Md _)
theorem Is {a:Int} (h:Pl a l) (ha:0<=a):eQ 0 8192 l:=by
 refine⟨fun x hx=>?_,?_⟩
 .have:=h.mem hx
  exact⟨by omega,this.2.1,by omega,this.2.2⟩
 .induction l generalizing a with
  |nil=>exact List.Pairwise.nil
  |cons r t ih=>
   obtain⟨h1,h2,h3,h4⟩:=h
   refine List.Pairwise.cons (fun x hx=>?_) (ih h4 (by omega))
   have:=h4.mem hx
   exact Or.inl (by omega)
theorem Al {s:Int} (h:Pl 0 l) (hk:∀k:Nat,aC l k=true->f<=(k:Int)/\(k:Int)<s):eQ f s l:=by
 refine⟨fun a ha=>?_,(Is h (Int.le_refl _)).2⟩
 obtain⟨h1,h2,h3⟩:=h.mem ha
 obtain⟨x,hx⟩:=Mr h1
 have e1:=hk x (bF.2 ⟨a,ha,by omega,by omega⟩)
 obtain⟨y,hy⟩:=Mr (show 0<=a.1+a.2-1 by omega)
 have e2:=hk y (bF.2 ⟨a,ha,by omega,by omega⟩)
 unfold iG
 omega
theorem Av (h0:0<=n) (h:n<=Oc l):Nw (Np l n)=n:=by
 have key:∀k,(cA (qn l n) k:Int)=min n (cA (aC l) k):=by
  intro k
  induction k with
  |zero=>show(0:Int)=min n 0;omega
  |succ k ih=>
   simp only[cA]
   unfold qn at ih ⊢
   cases hb:aC l k
   .simp only[Bool.false_and,Bool.false_eq_true,if_false,Nat.add_zero]
    exact ih
   .simp only[Bool.true_and,if_true]
    by_cases hc:(cA (aC l) k:Int)<n
    .rw[MQ hc,if_pos rfl];omega
    .rw[MN hc,if_neg (by simp)];omega
 have h1:=qL (qn l n)
 have h2:=key 8192
 unfold Oc at h
 show Nw (eU (qn l n))=n
 rw[h1]
 omega
theorem xP (h:NI l n=0):0<=n/\n<=Oc l/\(Np l n).length<=16:=by
 unfold NI at h
 split at h
 .cases h
 .split at h
  .cases h
  .omega
theorem Gn (l:List (Int×Int)):Oc l<=8192:=by
 exact M71
theorem ID {n:Nat} (h:Nv (n:Int)<=8192):n<=1048576:=by
 unfold Nv at h
 split at h<;>omega
theorem q8 (n:Int):0<=Nv n:=by unfold Nv;split<;>omega
theorem mj (h:s.may) (h0:0<=u) (h1:u<=s.journal*128):(bw s u).may:=by
 obtain⟨⟨a1,a2,a3,a4,a5,a6,a7,a8,a9,a10⟩,b,c⟩:=h
 exact⟨⟨by show 1<=s.seq+1;omega,a2,a3,a4,a5,h0,h1,a8,a9,a10⟩,b,c⟩
theorem mz (h:s.may) {t:Nat} (h0:NI l (Nv t)=0) (hl:∀k:Nat,aC l k=true->2+s.journal<=(k:Int)/\(k:Int)<s.sectors):(bZ s t (Np l (Nv t))).may:=by
 obtain⟨⟨a1,a2,a3,a4,a5,a6,a7,a8,a9,a10⟩,b,c⟩:=h
 obtain⟨l1,l2,l3⟩:=xP h0
 have:=Gn l
 exact⟨⟨by show 1<=s.seq+1;omega,a2,a3,a4,a5,Int.le_refl _,by show(0:Int)<=s.journal*128;omega,by show(0:Int)<=(t:Int);omega,by have:=ID (n:=t) (by omega);show(t:Int)<=1048576;omega,l3⟩,
  zm (Al (fR _ _) (fun k hk=>hl k (ix hk))),Av l1 l2⟩
def dj (c:aj):Nat:=c.boxes.length+c.mans.length+c.names.length
theorem qE (l:List Nf) (x:Nf) (next:Int) (most:Nat) (turns:Bool):(NL l x next most turns).1.length<=l.length+1:=by
 unfold NL
 split
 .rename_i h
  show(jd l (gA l x) x).length<=_
  rw[xj h.1];omega
 .split
  .exact Mu _
  .split
   .exact Mu _
   .show(P0 l x).length<=_
    rw[xU];exact Md _
theorem sN (l:List Nf) (x:Nf):(Of l x).1.length<=l.length:=by
 unfold Of
 split
 .rename_i h
  have:=yg h
  show(ik l (gA l x)).length<=_
  omega
 .exact Mu _
theorem Iz (c:aj) (r:ag):dj (bE c r).1<=dj c+1:=by
 unfold bE dj
 have h1:=qE c.boxes r.item c.nextBox 2048 false
 have h2:=qE c.mans r.item c.nextMan 2048 true
 have h3:=qE c.names r.item 0 256 false
 have h4:=sN c.boxes r.item
 have h5:=sN c.mans r.item
 have h6:=sN c.names r.item
 split
 .simp only;omega
 .split
  .simp only;omega
  .split
   .simp only;omega
   .split
    .simp only;omega
    .split
     .simp only;omega
     .simp only;omega
theorem xw:∀(l:List ag) (c:aj),dj (b9 c l).1<=dj c+l.length
 |[],c=>Md _
 |r::l,c=>by
  unfold b9
  rw[Mz]
  split
  .split
   .have h1:=xw l (bE c r).1
    have h2:=Iz c r
    omega
   .exact Mu _
  .exact Mu _
theorem qO (l:List ag) (c:aj):dj (Nn c l).1<=dj c+l.length:=by
 unfold Nn
 split
 .exact xw l c
 .exact Mu _
structure Fw (k:Nat) (d d':DK):Prop where
 ops:d'.ops<=d.ops+k
 waits:d'.waits.length<=d.waits.length+k
 len:d'.stand.length=d.stand.length
theorem Fw.refl (d:DK):Fw 0 d d:=⟨Md _,Md _,rfl⟩
theorem Fw.trans {c:DK} (h:Fw i a b) (k:Fw j b c):Fw (i+j) a c:=⟨by have:=h.ops;have:=k.ops;omega,by have:=h.waits;have:=k.waits;omega,k.len.trans h.len⟩
theorem Fw.mono (h:Fw i a b) (Vu:i<=j):Fw j a b:=⟨by have:=h.ops;omega,by have:=h.waits;omega,h.len⟩
theorem yb (d:DK) (l:List (Int×Int)) (s:List UInt8):Fw d.stand.length d (NF d l s).1:=⟨(su d l s).1,(su d l s).2.1,(su d l s).2.2⟩
theorem jR (d:DK):Fw 1 d (Ni d).1:=⟨(fO d).1,(fO d).2.1,(fO d).2.2⟩
theorem D1 (s:SB) (d:DK):Fw 2 d (aE s d).1:=⟨(jQ s d).1,(jQ s d).2.1,(jQ s d).2.2⟩
theorem D3 (n:Nat):∀(d:DK) (a:Nat) (s:List UInt8),s.length<=n->(dL d a s).1.stand.length=d.stand.length:=by
 induction n with
 |zero=>
  intro d a s hs
  have:s=[]:=Mt (by omega)
  subst this
  rfl
 |succ n ih=>
  intro d a s hs
  by_cases h0:s=[]
  .subst h0;rfl
  .have hl:0<s.length:=MH.2 h0
   rw[dq h0]
   split
   .rw[ih _ _ _ (by rw[Mq];omega)];exact(fk d _ _).2.2
   .exact(fk d _ _).2.2
theorem uy (d:DK) (j u:Int) (s:List UInt8):(Nm d j u s).1.stand.length=d.stand.length:=by
 unfold Nm
 split
 .rfl
 .split
  .rfl
  .split
   .rfl
   .split
    .rfl
    .exact D3 _ _ _ _ (Md _)
theorem D2 (d:DK) (j u:Int) (s:List UInt8):Fw (128+s.length) d (Nm d j u s).1:=⟨by have:=(uA d j u s).2;omega,by have:=(uA d j u s).1;omega,uy _ _ _ _⟩
theorem GD (n:Nat):∀(d:DK) (a:Nat) (s:List UInt8),s.length<=n->(dL d a s).1.waits.length<=d.waits.length+(s.length+127)/128/\(dL d a s).1.ops<=d.ops+(s.length+127)/128:=by
 induction n with
 |zero=>
  intro d a s hs
  have:s=[]:=Mt (by omega)
  subst this
  exact⟨Nat.le_add_right _ _,Nat.le_add_right _ _⟩
 |succ n ih=>
  intro d a s hs
  by_cases h0:s=[]
  .subst h0
   exact⟨Nat.le_add_right _ _,Nat.le_add_right _ _⟩
  .have hl:0<s.length:=MH.2 h0
   exact M56
theorem rX (d:DK) (j u:Int) (S:List UInt8):(Nm d j u S).1.waits.length<=d.waits.length+(S.length/128+2)/\(Nm d j u S).1.ops<=d.ops+(S.length/128+2):=by
 unfold Nm
 split
 .simp only;omega
 .split
  .simp only;omega
  .split
   .simp only;omega
   .split
    .simp only;omega
    .have h:=GD _ d (2+u.toNat/128) ((seen d (2+u.toNat/128)).take (u.toNat%128)++S) (Md _)
     have h2:((seen d (2+u.toNat/128)).take (u.toNat%128)).length<=127:=by rw[Mp];omega
     rw[Mc]at h
     omega
theorem B6 (d:DK) (j u:Int) (s:List UInt8):Fw (s.length/128+2) d (Nm d j u s).1:=⟨by have:=(rX d j u s).2;omega,by have:=(rX d j u s).1;omega,uy _ _ _ _⟩
theorem oM (m:Nat):∀(fs:List (DK->DK×Int)) (d:DK),(∀f∈fs,∀e,e.stand.length=d.stand.length->Fw m e (f e).1)->Fw (fs.length*m) d (ah fs d).1
 |[],d,_=>(Fw.refl d).mono (by simp)
 |f::fs,d,h=>by
  have h1:=h f (by simp) d rfl
  unfold ah
  rw[Mz,Nat.add_mul]
  split
  .exact(h1.trans (oM m fs (f d).1 (fun g hg e he=>h g (by simp[hg]) e (he.trans h1.len)))).mono (by omega)
  .exact h1.mono (by omega)
theorem D0 (m:Nat) (fs:List (DK->DK×Int)) (d:DK) (h:∀f∈fs,∀e,e.stand.length=d.stand.length->Fw m e (f e).1):∀k,k<=fs.length->Fw (k*m) d (ks fs d k)
 |0,_=>(Fw.refl d).mono (by simp)
 |k+1,hk=>by
  have h1:=D0 m fs d h k (by omega)
  rw[nO fs d k (by omega),Nat.add_mul]
  exact(h1.trans (h _ (Mh _) _ h1.len)).mono (by omega)
theorem ny:∀(l:List VC) (recs:List ag) (n:Nat),∀f∈ND l recs,∀e:DK,e.stand.length=n->Fw n e (f e).1
 |[],_,_,f,hf,_,_=>by simp[ND]at hf
 |x::l,[],_,f,hf,_,_=>by simp[ND]at hf
 |x::l,r::recs,n,f,hf,e,he=>by
  unfold ND at hf
  split at hf
  .rcases List.mem_cons.1 hf with rfl|hf
   .subst he;exact yb e _ _
   .exact ny l recs n f hf e he
  .exact ny l recs n f hf e he
theorem qf:∀(l:List VC) (recs:List ag),(ND l recs).length<=l.length
 |[],_=>by simp[ND]
 |x::l,[]=>by simp[ND]
 |x::l,r::recs=>by
  have:=qf l recs
  unfold ND
  split
  .rw[Mz,Mz];omega
  .rw[Mz];omega
theorem rQ (c:aj) (tx:List UInt8) (v:VS):Fw (tx.length/128+5) v.d (Nz c tx v).1.d:=by
 have h1:=B6 v.d v.s.journal v.s.used tx
 have h2:=oM 2 [Ni,aE (bw v.s (v.s.used+tx.length))] (Nm v.d v.s.journal v.s.used tx).1 (fun f hf e _=>by
  simp only[List.mem_cons,List.not_mem_nil,or_false]at hf
  rcases hf with rfl|rfl
  .exact(jR e).mono (by omega)
  .exact D1 _ e)
 have h3:Fw (tx.length/128+5) v.d (ah [Ni,aE (bw v.s (v.s.used+tx.length))] (Nm v.d v.s.journal v.s.used tx).1).1:=by
  obtain⟨a,b,c⟩:=h1
  obtain⟨x1,x2,x3⟩:=fO (Nm v.d v.s.journal v.s.used tx).1
  obtain⟨y1,y2,y3⟩:=jQ (bw v.s (v.s.used+tx.length)) (Ni (Nm v.d v.s.journal v.s.used tx).1).1
  show Fw _ _ (if(Ni (Nm v.d v.s.journal v.s.used tx).1).2=0 then(if(aE (bw v.s (v.s.used+tx.length)) (Ni (Nm v.d v.s.journal v.s.used tx).1).1).2=0 then((aE (bw v.s (v.s.used+tx.length)) (Ni (Nm v.d v.s.journal v.s.used tx).1).1).1,(0:Int))else aE (bw v.s (v.s.used+tx.length)) (Ni (Nm v.d v.s.journal v.s.used tx).1).1)else Ni (Nm v.d v.s.journal v.s.used tx).1).1
  split
  .split
   .exact⟨by show(aE _ _).1.ops<=_;omega,by show(aE _ _).1.waits.length<=_;omega,y3.trans (x3.trans c)⟩
   .exact⟨by omega,by omega,y3.trans (x3.trans c)⟩
  .exact⟨by omega,by omega,x3.trans c⟩
 unfold Nz
 split
 .split
  .exact h3.mono (by omega)
  .exact h3.mono (by omega)
 .exact h1.mono (by omega)
theorem IV (s:SB) (t:List UInt8) (runs:List (Int×Int)) (d:DK):Fw (3*(d.stand.length+2)) d (r7 s t runs d).1:=by
 refine oM (d.stand.length+2) [fun d=>NF d runs t,Ni,aE (bZ s t.length runs)] d (fun f hf e he=>?_)
 simp only[List.mem_cons,List.not_mem_nil,or_false]at hf
 rcases hf with rfl|rfl|rfl
 .have:=yb e runs t
  rw[he]at this
  exact this.mono (by omega)
 .exact(jR e).mono (by omega)
 .exact(D1 _ e).mono (by omega)
theorem oL (c:aj) (t:List UInt8) (runs:List (Int×Int)) (v:VS):Fw (3*(v.d.stand.length+2)) v.d (NO c t runs v).1.d:=by
 unfold NO
 split<;>exact IV _ _ _ _
theorem uh (m q:Nat) (fs:List (DK->DK×Int)) (g:VS->VS×Int) (v:VS) (h:∀f∈fs,∀e,e.stand.length=v.d.stand.length->Fw m e (f e).1) (hg:∀u:VS,u.d.stand.length=v.d.stand.length->Fw q u.d (g u).1.d):Fw (fs.length*m+q) v.d (Oy (NK (fs.map aK++[g]) v)).1.d:=by
 have h1:=oM m fs v.d h
 show Fw _ _ (NK (fs.map aK++[g]) v).1.d
 rw[eW,gH]
 by_cases h0:(aK (ah fs) v).2=0
 .rw[if_pos h0]
  have h2:=hg (aK (ah fs) v).1 h1.len
  show Fw _ _ (if(g (aK (ah fs) v).1).2=0 then((g (aK (ah fs) v).1).1,(0:Int))else g (aK (ah fs) v).1).1.d
  split<;>exact h1.trans h2
 .rw[if_neg h0]
  exact h1.mono (by omega)
theorem fo (h:aF d) (hi:i<d.stand.length) {s:List UInt8} (hs:s.length=128):NV d i s=0:=by
 unfold NV N7
 rw[h.down]
 simp only[Bool.false_eq_true,if_false]
 rw[if_neg (show ¬((i:Int)<0\/(d.stand.length:Int)<=i)by omega)]
 simp only[ne_eq,not_true_eq_false,if_false]
 rw[if_neg (by omega),if_neg (by have:=h.fuse;omega)]
theorem js (h:aF d) {s:List UInt8} (hX:dA l d.stand.length s.length):(NF d l s).2=0:=by
 obtain⟨d',e1,_⟩:=Dm (Nu l) d s h.fit h.down h.fuse (fun a ha=>by have:=(hX.lt ha).1;omega) (mK hX.2.2.1)
 unfold NF
 rw[if_pos hX,if_neg (by rw[h.down];simp),e1]
theorem mh (h:aF d) {j:Int} {s:List UInt8} (hf:aN d.stand.length j u=0) (hs:(s.length:Int)<=128*j-u):(Nm d j u s).2=0:=by
 obtain⟨f1,f2,f3,f4⟩:=gN hf
 unfold Nm
 rw[if_neg (by rw[hf];simp),if_neg (by omega),if_neg (by rw[h.down];simp)]
 split
 .rfl
 .have h2:((seen d (2+u.toNat/128)).take (u.toNat%128)).length<=u.toNat%128:=by rw[Mp];omega
  obtain⟨d',e1,_⟩:=Eu _ d (2+u.toNat/128) ((seen d (2+u.toNat/128)).take (u.toNat%128)++s) (Md _) h.fit h.down h.fuse (by rw[Mc];omega)
  rw[e1]
theorem lE (h:aF d) (hs:s.sector.length=128) (hn:2<=d.stand.length):(aE s d).2=0:=by
 have h1:(Nq ((s.seq%2:Nat):Int) s.sector d).2=0:=fo h (by omega) hs
 have h2:=(eD (P:=fun _=>False) h ((s.seq%2:Nat):Int) s.sector (fun k hk=>hk.elim)).1.quiet
 show(if(Nq ((s.seq%2:Nat):Int) s.sector d).2=0 then(if(Ni (Nq ((s.seq%2:Nat):Int) s.sector d).1).2=0 then((Ni (Nq ((s.seq%2:Nat):Int) s.sector d).1).1,(0:Int))else Ni (Nq ((s.seq%2:Nat):Int) s.sector d).1)else Nq ((s.seq%2:Nat):Int) s.sector d).2=0
 rw[if_pos h1]
 have h3:(Ni (Nq ((s.seq%2:Nat):Int) s.sector d).1).2=0:=h2.ja
 rw[if_pos h3]
theorem ju (h:aF d) (hs:s.sector.length=128) (hn:2<=d.stand.length):(ah [Ni,aE s] d).2=0:=by
 have h1:(Ni d).2=0:=h.ja
 have h2:=(dE (P:=fun _=>False) h).1
 show(if(Ni d).2=0 then(if(aE s (Ni d).1).2=0 then((aE s (Ni d).1).1,(0:Int))else aE s (Ni d).1)else Ni d).2=0
 rw[if_pos h1,if_pos (lE h2.quiet hs (by rw[h2.len];exact hn))]
theorem lF {v:VS} (h:aF v.d) {c:aj} {tx:List UInt8} (hf:aN v.d.stand.length v.s.journal v.s.used=0) (hs:(tx.length:Int)<=128*v.s.journal-v.s.used) (hr:v.s.runs.length<=16):(Nz c tx v).2=0/\(Nz c tx v).1.s=bw v.s (v.s.used+tx.length):=by
 obtain⟨f1,f2,f3,f4⟩:=gN hf
 have h1:=mh h hf hs
 have h2:=(lG (P:=fun _=>False) h v.s.journal v.s.used tx (fun k hk=>hk.elim)).1
 have h3:=ju h2.quiet (dG (bw v.s (v.s.used+tx.length)) hr) (by rw[h2.len];omega)
 unfold Nz
 rw[if_pos h1,if_pos h3]
 exact⟨rfl,rfl⟩
theorem yc (h:aF d) (j:Int) (hn:2<=d.stand.length):(cz j d).2=0/\aF (cz j d).1/\(cz j d).1.stand.length=d.stand.length:=by
 have hz:Nl.length=128:=by unfold Nl;exact MF
 have q1:=(eD (P:=fun _=>False) h 0 Nl (fun k hk=>hk.elim)).1
 have c1:(Nq 0 Nl d).2=0:=fo h (i:=0) (by omega) hz
 have q2:=(eD (P:=fun _=>False) q1.quiet 1 Nl (fun k hk=>hk.elim)).1
 have c2:(Nq 1 Nl (Nq 0 Nl d).1).2=0:=fo q1.quiet (i:=1) (by rw[q1.len];omega) hz
 have q3:=(dE (P:=fun _=>False) q2.quiet).1
 have c3:(Ni (Nq 1 Nl (Nq 0 Nl d).1).1).2=0:=q2.quiet.ja
 have q4:=(j8 (P:=fun _=>False) (bW d.stand.length j) (fun k hk=>hk.elim) q3.quiet).1
 have c4:=lE q3.quiet (dG (bW d.stand.length j) (by show 0<=16;omega)) (by rw[q3.len,q2.len,q1.len];exact hn)
 have e:cz j d=if(Nq 0 Nl d).2=0 then(if(Nq 1 Nl (Nq 0 Nl d).1).2=0 then(if(Ni (Nq 1 Nl (Nq 0 Nl d).1).1).2=0 then(if(aE (bW d.stand.length j) (Ni (Nq 1 Nl (Nq 0 Nl d).1).1).1).2=0 then((aE (bW d.stand.length j) (Ni (Nq 1 Nl (Nq 0 Nl d).1).1).1).1,(0:Int))else aE (bW d.stand.length j) (Ni (Nq 1 Nl (Nq 0 Nl d).1).1).1)else Ni (Nq 1 Nl (Nq 0 Nl d).1).1)else Nq 1 Nl (Nq 0 Nl d).1)else Nq 0 Nl d:=rfl
 rw[e,if_pos c1,if_pos c2,if_pos c3,if_pos c4]
 exact⟨rfl,q4.quiet,q4.len.trans (q3.len.trans (q2.len.trans q1.len))⟩
theorem lr (a n m:Nat):aC [((a:Int),(n:Int))] m=decide (a<=m/\m<a+n):=by
 unfold aC
 simp only[List.any_cons,List.any_nil,Bool.or_false]
 by_cases h:a<=m/\m<a+n
 .rw[MQ h,MQ (by omega),MQ (by omega)];rfl
 .rw[MN h]
  by_cases h1:a<=m
  .rw[MQ (by omega),MN (by omega)];rfl
  .rw[MN (by omega),Bool.false_and]
theorem Dp (a n:Nat) (hn:1<=n) (h:a+n<=8192):Pl 0 [((a:Int),(n:Int))]:=⟨by show(0:Int)<=a;omega,by show(1:Int)<=n;omega,by show(a:Int)+n<=8192;omega,trivial⟩
theorem qM {f:Nat->Bool} (a n:Nat) (hn:1<=n) (h:a+n<=8192) (hf:∀m,m<8192->f m=decide (a<=m/\m<a+n)):eU f=[((a:Int),(n:Int))]:=
 (lU (Dp a n hn h) (fun m hm=>by rw[<-bF,lr,hf m hm])).symm
theorem mq (a n:Nat) (hn:1<=n) (h:a+n<=8192):Oc [((a:Int),(n:Int))]=n:=by
 have h1:=qi [((a:Int),(n:Int))]
 rw[tI (Dp a n hn h)]at h1
 have e:Nw [((a:Int),(n:Int))]=n:=by unfold Nw;simp
 omega
theorem BE (a n:Nat) (hn:1<=n) (h:a+n<=8192):Oz [((a:Int),(n:Int))] []=[((a:Int),(n:Int))]:=
 qM a n hn h (fun m _=>by rw[lr];simp[aC])
theorem DE (a n k:Nat) (hn:k+1<=n) (h:a+n<=8192):Oz [((a:Int),(n:Int))] [((a:Int),(k:Int))]=[(((a+k:Nat):Int),((n-k:Nat):Int))]:=
 qM (a+k) (n-k) (by omega) (by omega) (fun m _=>by
  rw[lr,lr]
  by_cases h1:a<=m/\m<a+n
  .by_cases h2:a<=m/\m<a+k
   .rw[MQ h1,MQ h2,MN (by omega)];rfl
   .rw[MQ h1,MN h2,MQ (by omega)];rfl
  .rw[MN h1,MN (show ¬(a<=m/\m<a+k)by omega),MN (show ¬(a+k<=m/\m<a+k+(n-k))by omega)];rfl)
theorem Aw (a n k:Nat) (hk:1<=k) (hn:k<=n) (h:a+n<=8192):Np [((a:Int),(n:Int))] k=[((a:Int),(k:Int))]:=
 qM a k hk (by omega) (fun m _=>by
  unfold qn
  have hc:∀j,cA (aC [((a:Int),(n:Int))]) j=min j (a+n)-min j a:=fun j=>by
   rw[<-yi a n j]
   exact uk j (fun m _=>lr a n m)
  rw[lr,hc]
  by_cases h1:a<=m/\m<a+n
  .rw[MQ h1,Bool.true_and]
   by_cases h2:m<a+k
   .rw[MQ (by omega),MQ (by omega)]
   .rw[MN (by omega),MN (by omega)]
  .rw[MN h1,Bool.false_and,MN (show ¬(a<=m/\m<a+k)by omega)])
def cG:List UInt8:=List.replicate 200 0
def gj:VC:=⟨3,0,[97],cG⟩
def gM:ag:=⟨3,0,[97],200,[(4,2)]⟩
theorem BH:az gM=true:=by decide
theorem Ka:az gj.told=true:=by decide
theorem lO:aM bI:=⟨⟨by decide,fun a ha=>(by cases ha),List.Pairwise.nil⟩,⟨by decide,fun a ha=>by cases ha⟩,⟨by decide,fun a ha=>(by cases ha),List.Pairwise.nil⟩,⟨by decide,fun a ha=>by cases ha⟩,⟨by decide,fun a ha=>(by cases ha),List.Pairwise.nil⟩⟩
theorem M60 {A:Prop}(h:A:=by
 unfold NL
 rw[if_neg (by simp),if_neg (by
  rintro(hh|hh)
  .obtain⟨y,hy,_⟩:=QO.1 hh
   cases hy
  .exact absurd hh (by show ¬(0:Int)<0;decide)),if_neg (by simp)]
 rfl):A:=h
theorem Le:bE bI gj.told=(⟨1,1,[],[],[⟨0,[97],0,[]⟩]⟩,0):=by
 have e:NL [] (ag.item gj.told) 0 256 false=([⟨0,[97],0,[]⟩],0):=by
  exact M60
 show(if(3:Int)=1 then _ else if(3:Int)=2 then _ else if(3:Int)=3 then({bI with names:=(NL [] (ag.item gj.told) 0 256 false).1},(NL [] (ag.item gj.told) 0 256 false).2)else _)=_
 rw[if_neg (by decide),if_neg (by decide),if_pos rfl,e]
 rfl
theorem Lf:bE bI gM=(⟨1,1,[],[],[⟨0,[97],200,[(4,2)]⟩]⟩,0):=by
 have e:NL [] (ag.item gM) 0 256 false=([⟨0,[97],200,[(4,2)]⟩],0):=by
  exact M60
 show(if(3:Int)=1 then _ else if(3:Int)=2 then _ else if(3:Int)=3 then({bI with names:=(NL [] (ag.item gM) 0 256 false).1},(NL [] (ag.item gM) 0 256 false).2)else _)=_
 rw[if_neg (by decide),if_neg (by decide),if_pos rfl,e]
 rfl
theorem Jh:Nn bI [gj.told]=(⟨1,1,[],[],[⟨0,[97],0,[]⟩]⟩,0):=by
 unfold Nn
 rw[if_pos lO]
 show(if az gj.told=true then if(bE bI gj.told).2=0 then b9 (bE bI gj.told).1 []else _ else _)=_
 rw[if_pos Ka,Le,if_pos rfl]
 rfl
theorem Ji:Nn bI [gM]=(⟨1,1,[],[],[⟨0,[97],200,[(4,2)]⟩]⟩,0):=by
 unfold Nn
 rw[if_pos lO]
 show(if az gM=true then if(bE bI gM).2=0 then b9 (bE bI gM).1 []else _ else _)=_
 rw[if_pos BH,Lf,if_pos rfl]
 rfl
theorem xr (d:DK) (dead:Bool):Nk ⟨d,bW 12 2,bI,dead⟩=[(4,8)]:=BE 4 8 (by omega) (by omega)
theorem JU (d:DK) (dead:Bool) (s:SB) (h1:s.journal=2) (h2:s.sectors=12) (h3:s.runs=[]):Nk ⟨d,s,⟨1,1,[],[],[⟨0,[97],200,[(4,2)]⟩]⟩,dead⟩=[(6,6)]:=by
 unfold Nk
 rw[h1,h2,h3]
 exact DE 4 8 2 (by omega) (by omega)
theorem Kf:dA [(4,2)] (12:Nat) (cG.length:Nat):=by
 refine⟨by omega,by decide,⟨fun a ha=>?_,List.pairwise_singleton _ _⟩,?_⟩
 .obtain rfl:=MB.1 ha
  unfold iG
  omega
 .have:=mq 4 2 (by omega) (by omega)
  rw[show(([(4,2)]:List (Int×Int)))=[(((4:Nat):Int),((2:Nat):Int))]from rfl,this]
  show((2:Nat):Int)=Nv ((List.replicate 200 (0:UInt8)).length:Int)
  rw[MF]
  decide
theorem Bb:bQ [gM]=0/\(NZ [gM]).length<=256:=by
 have h1:bQ [gM]=0:=by
  unfold bQ
  rw[if_neg (by decide),if_pos (by simp[BH])]
 refine⟨h1,?_⟩
 unfold NZ
 rw[if_pos h1]
 have hb:=qN (l:=[gM]) (fun r hr=>by
  obtain rfl:=MB.1 hr
  exact j7 BH ⟨by decide,by decide,by unfold maxLen;decide,by decide⟩)
 have e1:[gM].length=1:=rfl
 unfold iL
 simp only[Mc,aq]
 omega
open Classical in
theorem Gr (h:aF d) (hn:d.stand.length=12):(NJ ⟨d,bW 12 2,bI,false⟩ [gj]).2=0/\Oc (Nk (NJ ⟨d,bW 12 2,bI,false⟩ [gj]).1)=6/\(NJ ⟨d,bW 12 2,bI,false⟩ [gj]).1.s.may/\dj (NJ ⟨d,bW 12 2,bI,false⟩ [gj]).1.c<=1000:=by
 have hp:Ng (Nk ⟨d,bW 12 2,bI,false⟩) [gj] [gj].length=([gM],Oz [(4,8)] [(4,2)]):=by
  rw[xr]
  have e1:Nv (gj.bytes.length:Int)=2:=by show Nv ((List.replicate 200 (0:UInt8)).length:Int)=2;rw[MF];decide
  have e2:Np [(4,8)] 2=[(4,2)]:=Aw 4 8 2 (by omega) (by omega) (by omega)
  show iY ([],[(4,8)]) gj=_
  unfold iY
  rw[if_pos (by decide),e1,e2]
  rfl
 have Vl:dJ (Nk ⟨d,bW 12 2,bI,false⟩) [gj]:=by
  intro k hk _
  obtain rfl:k=0:=by simpa using hk
  rw[xr]
  have e1:Nv (gj.bytes.length:Int)=2:=by show Nv ((List.replicate 200 (0:UInt8)).length:Int)=2;rw[MF];decide
  show NI [(4,8)] (Nv (gj.bytes.length:Int))=0
  rw[e1]
  have e2:Np [(4,8)] 2=[(4,2)]:=Aw 4 8 2 (by omega) (by omega) (by omega)
  have e3:Oc [(4,8)]=8:=mq 4 8 (by omega) (by omega)
  exact(Ax (by omega) (by rw[e3];decide) (by rw[e2];decide)).1
 have hw:Ol bI [gj]=0:=by
  unfold Ol
  rw[if_neg (by simp),if_pos (by decide)]
  show(Nn bI [gj.told]).2=0
  rw[Jh]
 have QI:=js h (l:=[(4,2)]) (s:=cG) (by rw[hn];exact Kf)
 have hq1:=(jt (P:=fun _=>False) h [(4,2)] cG (fun k hk=>hk.elim)).1
 have hf:=hq1.quiet.ja
 have Q8:=(dE (P:=fun _=>False) hq1.quiet).1
 have Pq:=lF (v:=⟨(Ni (NF d [(4,2)] cG).1).1,bW 12 2,bI,false⟩) Q8.quiet (c:=⟨1,1,[],[],[⟨0,[97],200,[(4,2)]⟩]⟩) (tx:=NZ [gM]) (by
  show aN (Ni (NF d [(4,2)] cG).1).1.stand.length 2 0=0
  rw[Q8.len,hq1.len,hn];decide) (by have:=Bb.2;show _<=128*(2:Int)-0;omega) (by show 0<=16;omega)
 have hc:=oV Pq.1
 have OL:NK (bX [gj] [gM]++[aK Ni,Nz ⟨1,1,[],[],[⟨0,[97],200,[(4,2)]⟩]⟩ (NZ [gM])]) ⟨d,bW 12 2,bI,false⟩=((Nz ⟨1,1,[],[],[⟨0,[97],200,[(4,2)]⟩]⟩ (NZ [gM]) ⟨(Ni (NF d [(4,2)] cG).1).1,bW 12 2,bI,false⟩).1,0):=by
  show(if(NF d [(4,2)] cG).2=0 then(if(Ni (NF d [(4,2)] cG).1).2=0 then(if(Nz ⟨1,1,[],[],[⟨0,[97],200,[(4,2)]⟩]⟩ (NZ [gM]) ⟨(Ni (NF d [(4,2)] cG).1).1,bW 12 2,bI,false⟩).2=0 then _ else _)else _)else _)=_
  rw[if_pos QI,if_pos (show(Ni (NF d [(4,2)] cG).1).2=0 from hf),if_pos Pq.1]
  rfl
 have Tq:NJ ⟨d,bW 12 2,bI,false⟩ [gj]=Oy ((Nz ⟨1,1,[],[],[⟨0,[97],200,[(4,2)]⟩]⟩ (NZ [gM]) ⟨(Ni (NF d [(4,2)] cG).1).1,bW 12 2,bI,false⟩).1,0):=by
  unfold NJ
  rw[hp]
  simp only
  rw[if_neg (by simp),if_neg (by rw[hw];simp),if_neg (by simpa using Vl),Ji]
  simp only
  rw[if_neg (by simp),if_neg (by rw[Bb.1];simp),if_pos (by have:=Bb.2;show _<=(2:Int)*128-0;omega),OL]
 rw[Tq]
 refine⟨rfl,?_,?_,?_⟩
 rotate_left
 .show(Nz _ _ _).1.s.may
  rw[Pq.2]
  have:=Bb.2
  exact mj (lf (by omega) (by omega) (by omega) (by omega)) (by show(0:Int)<=0+(NZ [gM]).length;omega) (by show(0:Int)+(NZ [gM]).length<=2*128;omega)
 .show dj (Nz _ _ _).1.c<=1000
  rw[hc.1]
  decide
 have e:Nk (Oy ((Nz ⟨1,1,[],[],[⟨0,[97],200,[(4,2)]⟩]⟩ (NZ [gM]) ⟨(Ni (NF d [(4,2)] cG).1).1,bW 12 2,bI,false⟩).1,0)).1=[(6,6)]:=by
  generalize hA:Nz ⟨1,1,[],[],[⟨0,[97],200,[(4,2)]⟩]⟩ (NZ [gM]) ⟨(Ni (NF d [(4,2)] cG).1).1,bW 12 2,bI,false⟩=A at Pq hc ⊢
  obtain⟨⟨d',s',c',dd'⟩,code⟩:=A
  obtain rfl:c'=_:=hc.1
  obtain rfl:s'=_:=Pq.2
  exact JU _ _ _ rfl rfl rfl
 rw[e]
 exact mq 6 6 (by omega) (by omega)
end Go.Proofs.YtdkimcnlhmhpgaaGreat

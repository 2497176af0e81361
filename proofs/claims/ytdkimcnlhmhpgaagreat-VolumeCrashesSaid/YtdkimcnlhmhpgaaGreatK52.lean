/- -/
import Derived.Test.YtdkimcnlhmhpgaaGreatK40
set_option maxHeartbeats 16000000
set_option maxRecDepth 100000
set_option linter.unusedVariables false
namespace Go.Proofs.YtdkimcnlhmhpgaaGreat
open Go.RowKit
variable {c:aj} {s:SB} {d d' e:DK} {st:List (List UInt8)} {i:Nat} {x:List UInt8}
def Hg (c:aj) (s:SB) (k:Nat):Prop:=k<2\/(k:Int)<2+s.used/128\/aC (NN c++s.runs) k=true
def qS (c:aj) (s:SB) (st:List (List UInt8)) (k:Nat) (x:List UInt8):Prop:=(Hg c s k->x=st.getD k [])/\((k:Int)=2+s.used/128->x.take (s.used%128).toNat=(st.getD k []).take (s.used%128).toNat)
theorem qS.same (c:aj) (s:SB) (st:List (List UInt8)) (k:Nat):qS c s st k (st.getD k []):=⟨fun _=>rfl,fun _=>rfl⟩
structure bp (c:aj) (s:SB) (st:List (List UInt8)) (d:DK):Prop where
 len:d.stand.length=st.length
 stand:∀k,qS c s st k (d.stand.getD k [])
 waits:∀x∈d.waits,qS c s st x.1 x.2
theorem bp.start (hw:d.waits=[]):bp c s d.stand d:=⟨rfl,fun k=>qS.same _ _ _ _,fun x hx=>by rw[hw]at hx;cases hx⟩
theorem bp.op (h:bp c s st d):bp c s st (dK d):=⟨h.len,h.stand,h.waits⟩
theorem bp.settle (h:bp c s st d) (keep:Nat->Bool):bp c s st (fq d keep):=by
 refine⟨(nQ d keep).trans h.len,fun k=>?_,fun x hx=>by cases hx⟩
 rcases KU d.stand d.waits keep d.waits.length k (Md _)with e|⟨x,hx,h1,h2⟩
 .show qS c s st k ((sk d.stand d.waits keep d.waits.length).getD k [])
  rw[e];exact h.stand k
 .show qS c s st k ((sk d.stand d.waits keep d.waits.length).getD k [])
  rw[h2,<-h1];exact h.waits x hx
theorem bp.iw (h:bp c s st d) (keep:List Bool):bp c s st (Oo d keep):=
 ⟨(h.settle (kept keep)).len,(h.settle (kept keep)).stand,fun x hx=>by cases hx⟩
theorem bp.flush (h:bp c s st d):bp c s st (bL d):=by
 unfold bL
 split
 .exact h
 .split
  .exact h.op
  .exact h.op.settle _
theorem bp.told (h:bp c s st d) (k:Nat):qS c s st k (seen d k):=by
 unfold seen
 cases e:eY d.waits k with
 |none=>exact h.stand k
 |some x=>exact h.waits _ (tU e)
theorem bp.write (h:bp c s st d) (i:Int) (x:List UInt8) (hx:0<=i->qS c s st i.toNat x):bp c s st (NG d i x):=by
 unfold NG
 split
 .rename_i hc
  obtain⟨h1,h2,h3⟩:=fW hc.1
  refine⟨h.len,h.stand,fun y hy=>?_⟩
  rcases Mj.1 hy with hy|hy
  .exact h.waits y hy
  .obtain rfl:=MB.1 hy
   exact hx h2
 .exact h
def kY (c:aj) (s:SB) (k:Nat):Prop:=¬Hg c s k/\((k:Int)=2+s.used/128->s.used%128=0)
theorem kY.LF {k:Nat} (h:kY c s k) (st:List (List UInt8)) (x:List UInt8):qS c s st k x:=⟨fun hk=>absurd hk h.1,fun hk=>by rw[h.2 hk];rfl⟩
theorem bp.GS {c:aj} {s:SB} {st:List (List UInt8)}:∀(al:List Nat) {d:DK} (h:bp c s st d) (x:List UInt8),(∀a∈al,kY c s a)->bp c s st (eJ al d x).1
 |[],d,h,x,_=>h
 |a::t,d,h,x,hf=>by
  have h1:=h.write (a:Int) (av x) (fun _=>(hf a (by simp)).LF st _)
  show bp c s st (if NV d a (av x)=0 then eJ t (NG d a (av x)) (x.drop 128)else(NG d a (av x),NV d a (av x))).1
  split
  .exact bp.GS t h1 (x.drop 128) (fun b hb=>hf b (by simp[hb]))
  .exact h1
theorem bp.Bt (h:bp c s st d) (l:List (Int×Int)) (x:List UInt8) (hf:∀a∈Nu l,kY c s a):bp c s st (NF d l x).1:=by
 unfold NF
 split
 .split
  .exact h
  .exact h.GS _ x hf
 .exact h
theorem bp.Jk (n:Nat):∀{d:DK} (h:bp c s st d) (a:Nat) (x:List UInt8),x.length<=n->(∀i,i<(x.length+127)/128->kY c s (a+i))->bp c s st (dL d a x).1:=by
 induction n with
 |zero=>
  intro d h a x hx _
  have:x=[]:=Mt (by omega)
  subst this
  exact h
 |succ n ih=>
  intro d h a x hx hf
  by_cases h0:x=[]
  .subst h0;exact h
  .have hl:0<x.length:=MH.2 h0
   rw[dq h0]
   have h1:=h.write (a:Int) (av x) (fun _=>(hf 0 (by omega)).LF st _)
   split
   .refine ih h1 (a+1) (x.drop 128) (by rw[Mq];omega) (fun i hi=>?_)
    rw[Mq]at hi
    have:=hf (i+1) (by omega)
    rw[show a+1+i=a+(i+1)by omega]
    exact this
   .exact h1
theorem M99 {A:Prop}(h:A:=by
 rcases hk with hk|hk|hk
 .omega
 .omega
 .rw[Yl _ (by omega)]at hk;cases hk):A:=h
theorem bp.yv (h:bp c s st d) (hF:bg d) (j:Int) (x:List UInt8) (hj:s.journal=j)
  (hr:∀k:Nat,aC (NN c++s.runs) k=true->2+s.journal<=(k:Int)):bp c s st (Nm d j s.used x).1:=by
 unfold Nm
 split
 .exact h
 .rename_i Qz
  have Qz:aN d.stand.length j s.used=0:=by simpa using Qz
  obtain⟨f1,f2,f3,f4⟩:=gN Qz
  split
  .exact h
  .rename_i hlen
   split
   .exact h
   .split
    .exact h
    .rename_i hx
     have Vv:0<x.length:=MH.2 hx
     obtain⟨u,hu⟩:∃u:Nat,s.used=u:=⟨s.used.toNat,by omega⟩
     have hun:s.used.toNat=u:=by omega
     rw[hun]
     have Px:(seen d (2+u/128)).length=128:=hZ hF (by omega)
     have Oj:((seen d (2+u/128)).take (u%128)).length=u%128:=by rw[Mp];omega
     have Ot:(seen d (2+u/128)).take (u%128)++x≠[]:=by
      intro e
      have:=congrArg List.length e
      rw[Mc]at this
      simp only[List.length_nil]at this
      omega
     rw[dq Ot]
     have Yl:∀k:Nat,(k:Int)<2+s.journal->aC (NN c++s.runs) k=false:=fun k hk=>by
      cases e:aC (NN c++s.runs) k with
      |false=>rfl
      |true=>have:=hr k e;omega
     have h1:=h.write ((2+u/128:Nat):Int) (av ((seen d (2+u/128)).take (u%128)++x)) (fun _=>by
      rw[ML]
      refine⟨fun hk=>?_,fun hk=>?_⟩
      .exfalso
       exact M99
      .have e1:=Ei ((seen d (2+u/128)).take (u%128)) x (by omega)
       rw[Oj]at e1
       have e2:(s.used%128).toNat=u%128:=by omega
       rw[e2,e1]
       have e3:=(h.told (2+u/128)).2 hk
       rw[e2]at e3
       exact e3)
     split
     .refine bp.Jk _ h1 _ _ (Md _) (fun i hi=>?_)
      rw[Mq,Mc,Oj]at hi
      refine⟨fun hk=>?_,fun hk=>by omega⟩
      exact M99
     .exact h1
theorem vr (hw:d.waits=[]) (hd:d.down=false) (h:bp c s d.stand d') (hw':d'.waits=[]) (Rf:d'.down=false) (i:Int) (hi:i=0\/i=1):Og d' i=Og d i:=by
 have e:N7 d' i=N7 d i:=by unfold N7;rw[hd,Rf,h.len]
 unfold Og
 rw[e]
 split
 .have h1:=(h.told i.toNat).1 (Or.inl (by omega))
  rw[h1]
  unfold seen
  rw[hw];rfl
 .rfl
theorem fm (hw:d.waits=[]) (k:Nat):seen d k=d.stand.getD k []:=by unfold seen;rw[hw];rfl
theorem r9 (hw:d.waits=[]) (hd:d.down=false) (h:bp c s d.stand d') (Rf:d'.down=false) (l:List (Int×Int)) (n:Int) (hl:∀k∈Nu l,aC (NN c++s.runs) k=true):Nr d' l n=Nr d l n/\Ov d' l n=Ov d l n:=by
 have e:Nr d' l n=Nr d l n:=by unfold Nr;rw[hd,Rf,h.len]
 refine⟨e,?_⟩
 unfold Ov
 rw[e]
 split
 .rw[qz (d:=d) (d':=d') (Nu l) (fun a ha=>by rw[(h.told a).1 (Or.inr (Or.inr (hl a ha))),fm hw])]
 .rfl
theorem vt (hf:bg d) (hf':bg d') (hw:d.waits=[]) (hd:d.down=false) (h:bp c s d.stand d') (Rf:d'.down=false):NC d' s.journal s.used=NC d s.journal s.used/\Oh d' s.journal s.used=Oh d s.journal s.used:=by
 have e:NC d' s.journal s.used=NC d s.journal s.used:=by unfold NC;rw[hd,Rf,h.len]
 refine⟨e,?_⟩
 unfold Oh
 rw[e]
 split
 .rename_i h0
  unfold NC at h0
  split at h0
  .cases h0
  .rename_i Qz
   have Qz:aN d.stand.length s.journal s.used=0:=by simpa using Qz
   obtain⟨f1,f2,f3,f4⟩:=gN Qz
   obtain⟨u,hu⟩:∃u:Nat,s.used=u:=⟨s.used.toNat,by omega⟩
   have hun:s.used.toNat=u:=by omega
   have hln:=h.len
   have hnd:(Nv (u:Int)).toNat=(u+127)/128:=om u
   rw[hu,ML,ow hf' u (by omega),ow hf u (by omega)]
   congr 1
   .refine mL _ (fun i hi=>?_)
    rw[(h.told (2+i)).1 (Or.inr (Or.inl (by rw[hu];omega))),fm hw]
   .by_cases hm:u%128=0
    .rw[hm];rfl
    .have e3:=(h.told (2+u/128)).2 (by rw[hu];omega)
     rw[hu]at e3
     have e4:((u:Int)%128).toNat=u%128:=by omega
     rw[e4]at e3
     rw[e3,fm hw]
 .rfl
theorem pW (hM:ez d s c) (hf:bg d) (hf':bg d') (hw:d.waits=[]) (hd:d.down=false) (h:bp c s d.stand d') (hw':d'.waits=[]) (Rf:d'.down=false):ez d' s c:=by
 obtain⟨h1,h2,⟨c0,ls,h3,h4,h5,h6⟩,h7⟩:=hM
 obtain⟨l1,l2⟩:=vt hf hf' hw hd h Rf
 have h0:∀a∈s.runs,0<=a.1:=fun a ha=>by
  have:=(h7.1 a (by simp[ha])).2.1
  omega
 have hb:OV d' s=OV d s:=by
  unfold OV
  obtain⟨g1,g2⟩:=r9 hw hd h Rf s.runs s.size (fun k hk=>by rw[fp,dQ h0 hk];simp)
  rw[g1,g2]
 exact⟨by rw[vr hw hd h hw' Rf 0 (Or.inl rfl),vr hw hd h hw' Rf 1 (Or.inr rfl)];exact h1,by rw[h.len];exact h2,⟨c0,ls,hb.trans h3,l1.trans h4,by rw[l2];exact h5,h6⟩,h7⟩
structure gX (d e:DK):Prop where
 stand:d.stand=e.stand
 waits:d.waits=e.waits
 down:d.down=false
 quiet:aF e
def oY (p q:DK×Int):Prop:=(p.2=q.2/\gX p.1 q.1)\/(p.2=90/\p.1.down=true)
theorem gX.at_ (h:gX d e) (i:Int):N7 d i=N7 e i:=by unfold N7;rw[h.down,h.quiet.down,h.stand]
theorem gX.told (h:gX d e) (i:Nat):seen d i=seen e i:=by unfold seen;rw[h.waits,h.stand]
theorem gX.fit (h:gX d e):bg d:=⟨by rw[h.waits,h.stand];exact h.quiet.fit.fine,by rw[h.stand];exact h.quiet.fit.all⟩
theorem vj (h:gX d e) (i:Int) (x:List UInt8):oY (NG d i x,NV d i x) (NG e i x,NV e i x):=by
 have ha:=h.at_ i
 have hq:=h.quiet.fuse
 have hqq:=(h.quiet.write (P:=fun _=>False) i x (fun _ hk=>hk.elim)).quiet
 by_cases h0:N7 d i=0/\x.length=128
 .by_cases hf:d.fuse=0
  .refine Or.inr ⟨?_,?_⟩
   .show NV d i x=90
    unfold NV
    rw[if_neg (by rw[h0.1];simp),if_neg (by rw[h0.2];simp),if_pos hf]
   .show(NG d i x).down=true
    unfold NG
    rw[if_pos h0]
    show(if d.fuse=0 then true else d.down)=true
    rw[if_pos hf]
  .refine Or.inl ⟨?_,?_⟩
   .show NV d i x=NV e i x
    unfold NV
    rw[<-ha,if_neg (by rw[h0.1];simp),if_neg (by rw[h0.2];simp),if_neg hf,if_neg (by rw[h0.1];simp),if_neg (by rw[h0.2];simp),if_neg (by omega)]
   .refine⟨?_,?_,?_,hqq⟩
    .show(NG d i x).stand=(NG e i x).stand
     unfold NG
     rw[if_pos h0,if_pos (by rw[<-ha];exact h0)]
     exact h.stand
    .show(NG d i x).waits=(NG e i x).waits
     unfold NG
     rw[if_pos h0,if_pos (by rw[<-ha];exact h0)]
     show d.waits++_=e.waits++_
     rw[h.waits]
    .show(NG d i x).down=false
     unfold NG
     rw[if_pos h0]
     show(if d.fuse=0 then true else d.down)=false
     rw[if_neg hf];exact h.down
 .refine Or.inl ⟨?_,?_⟩
  .show NV d i x=NV e i x
   unfold NV
   rw[<-ha]
   by_cases h1:N7 d i=0
   .rw[if_neg (by rw[h1];simp),if_pos (fun hx=>h0 ⟨h1,hx⟩),if_neg (by rw[h1];simp),if_pos (fun hx=>h0 ⟨h1,hx⟩)]
   .rw[if_pos h1,if_pos h1]
  .have e1:NG d i x=d:=by unfold NG;rw[if_neg h0]
   have e2:NG e i x=e:=by unfold NG;rw[if_neg (by rw[<-ha];exact h0)]
   show gX (NG d i x) (NG e i x)
   rw[e1,e2];exact h
theorem mg (h:gX d e):oY (Ni d) (Ni e):=by
 have hqq:=(h.quiet.flush (P:=fun _=>False)).quiet
 have hc:=h.quiet.ja
 have hq:=h.quiet.fuse
 by_cases hf:d.fuse=0
 .refine Or.inr ⟨?_,?_⟩
  .show gn d=90
   unfold gn
   rw[if_neg (by rw[h.down];simp),if_pos hf]
  .show(bL d).down=true
   unfold bL
   rw[if_neg (by rw[h.down];simp),if_pos hf]
   show(if d.fuse=0 then true else d.down)=true
   rw[if_pos hf]
 .refine Or.inl ⟨?_,?_⟩
  .show gn d=gn e
   rw[hc]
   unfold gn
   rw[if_neg (by rw[h.down];simp),if_neg hf]
  .have e1:bL d=fq (dK d) (fun _=>true):=by unfold bL;rw[if_neg (by rw[h.down];simp),if_neg hf]
   have e2:bL e=fq (dK e) (fun _=>true):=by unfold bL;rw[if_neg (by rw[h.quiet.down];simp),if_neg (by omega)]
   refine⟨?_,?_,?_,hqq⟩
   .show(bL d).stand=(bL e).stand
    rw[e1,e2]
    show sk d.stand d.waits _ d.waits.length=sk e.stand e.waits _ e.waits.length
    rw[h.stand,h.waits]
   .show(bL d).waits=(bL e).waits
    rw[e1,e2];rfl
   .show(bL d).down=false
    rw[e1]
    show(if d.fuse=0 then true else d.down)=false
    rw[if_neg hf];exact h.down
theorem xh:∀(al:List Nat) {d e:DK} (h:gX d e) (x:List UInt8),oY (eJ al d x) (eJ al e x)
 |[],d,e,h,x=>Or.inl ⟨rfl,h⟩
 |a::t,d,e,h,x=>by
  show oY (if NV d a (av x)=0 then eJ t (NG d a (av x)) (x.drop 128)else(NG d a (av x),NV d a (av x))) (if NV e a (av x)=0 then eJ t (NG e a (av x)) (x.drop 128)else(NG e a (av x),NV e a (av x)))
  rcases vj h (a:Int) (av x)with⟨h1,h2⟩|⟨h1,h2⟩
  .simp only at h1 h2
   rw[h1]
   split
   .exact xh t h2 (x.drop 128)
   .exact Or.inl ⟨rfl,h2⟩
  .simp only at h1 h2
   rw[if_neg (by rw[h1];decide)]
   exact Or.inr ⟨h1,h2⟩
theorem xg (h:gX d e) (l:List (Int×Int)) (x:List UInt8):oY (NF d l x) (NF e l x):=by
 unfold NF
 rw[h.stand,h.down,h.quiet.down]
 split
 .rw[if_neg Bool.false_ne_true,if_neg Bool.false_ne_true]
  exact xh _ h x
 .exact Or.inl ⟨rfl,h⟩
theorem Bd (n:Nat):∀{d e:DK} (h:gX d e) (a:Nat) (x:List UInt8),x.length<=n->oY (dL d a x) (dL e a x):=by
 induction n with
 |zero=>
  intro d e h a x hx
  have:x=[]:=Mt (by omega)
  subst this
  exact Or.inl ⟨rfl,h⟩
 |succ n ih=>
  intro d e h a x hx
  by_cases h0:x=[]
  .subst h0;exact Or.inl ⟨rfl,h⟩
  .have hl:0<x.length:=MH.2 h0
   rw[dq h0,dq h0]
   rcases vj h (a:Int) (av x)with⟨h1,h2⟩|⟨h1,h2⟩
   .simp only at h1 h2
    rw[h1]
    split
    .exact ih h2 (a+1) (x.drop 128) (by rw[Mq];omega)
    .exact Or.inl ⟨rfl,h2⟩
   .simp only at h1 h2
    rw[if_neg (by rw[h1];decide)]
    exact Or.inr ⟨h1,h2⟩
theorem Bc (h:gX d e) (j u:Int) (x:List UInt8):oY (Nm d j u x) (Nm e j u x):=by
 unfold Nm
 rw[h.stand,h.down,h.quiet.down,h.told]
 split
 .exact Or.inl ⟨rfl,h⟩
 .split
  .exact Or.inl ⟨rfl,h⟩
  .rw[if_neg Bool.false_ne_true,if_neg Bool.false_ne_true]
   split
   .exact Or.inl ⟨rfl,h⟩
   .exact Bd _ h _ _ (Md _)
def yz (f:DK->DK×Int):Prop:=∀d e,gX d e->oY (f d) (f e)
theorem vk:∀(fs:List (DK->DK×Int)),(∀f∈fs,yz f)->yz (ah fs)
 |[],_,d,e,h=>Or.inl ⟨rfl,h⟩
 |f::fs,hf,d,e,h=>by
  show oY (if(f d).2=0 then ah fs (f d).1 else f d) (if(f e).2=0 then ah fs (f e).1 else f e)
  rcases hf f (by simp) d e h with⟨h1,h2⟩|⟨h1,h2⟩
  .rw[h1]
   split
   .exact vk fs (fun g hg=>hf g (by simp[hg])) _ _ h2
   .exact Or.inl ⟨h1,h2⟩
  .rw[if_neg (by rw[h1];decide)]
   exact Or.inr ⟨h1,h2⟩
def rB (c:aj) (s:SB) (st:List (List UInt8)) (f:DK->DK×Int):Prop:=∀d,bg d->bp c s st d->bp c s st (f d).1/\bg (f d).1
theorem kz {c:aj} {s:SB} {st:List (List UInt8)}:∀(fs:List (DK->DK×Int)),(∀f∈fs,rB c s st f)->rB c s st (ah fs)
 |[],_,d,hF,h=>⟨h,hF⟩
 |f::fs,hf,d,hF,h=>by
  obtain⟨h1,h2⟩:=hf f (by simp) d hF h
  show bp c s st (if(f d).2=0 then ah fs (f d).1 else f d).1/\bg (if(f d).2=0 then ah fs (f d).1 else f d).1
  split
  .exact kz fs (fun g hg=>hf g (by simp[hg])) _ h2 h1
  .exact⟨h1,h2⟩
theorem JO (st:List (List UInt8)) (x:Nat×List UInt8) (keep:Nat->Bool):sk st [x] keep 1=st\/sk st [x] keep 1=st.set x.1 x.2:=by
 unfold sk sk
 split
 .exact Or.inr rfl
 .exact Or.inl rfl
theorem Ig (st:List (List UInt8)) (x:Nat×List UInt8):sk st [x] (fun _=>true) 1=st.set x.1 x.2:=rfl
theorem uK (h:gX d e) (hw:e.waits=[]) (hn:2<=e.stand.length) (s:SB) (hs:s.sector.length=128):
  (aE s e).2=0/\(aE s e).1.waits=[]/\(aE s e).1.stand=e.stand.set (s.seq%2) s.sector/\(((aE s d).2=0/\gX (aE s d).1 (aE s e).1)\/((aE s d).2=90/\(aE s d).1.down=true/\∀keep,(Oo (aE s d).1 keep).stand=e.stand\/(Oo (aE s d).1 keep).stand=e.stand.set (s.seq%2) s.sector)):=by
 have hi:s.seq%2<e.stand.length:=by omega
 have hwd:d.waits=[]:=h.waits.trans hw
 have Q2:N7 e ((s.seq%2:Nat):Int)=0:=by
  unfold N7
  rw[if_neg (by rw[h.quiet.down];simp),if_neg (by omega)]
 have XS:N7 d ((s.seq%2:Nat):Int)=0:=by rw[h.at_];exact Q2
 have hE:aE s e=(bL (aL e (s.seq%2) s.sector),gn (aL e (s.seq%2) s.sector)):=by
  have h1:Nq ((s.seq%2:Nat):Int) s.sector e=(aL e (s.seq%2) s.sector,0):=by
   show(NG e _ _,NV e _ _)=_
   unfold NG NV
   rw[if_pos ⟨Q2,hs⟩,if_neg (by rw[Q2];simp),if_neg (by rw[hs];simp),if_neg (by have:=h.quiet.fuse;omega),ML]
  show(if(Nq ((s.seq%2:Nat):Int) s.sector e).2=0 then(if(Ni (Nq ((s.seq%2:Nat):Int) s.sector e).1).2=0 then((Ni (Nq ((s.seq%2:Nat):Int) s.sector e).1).1,(0:Int))else Ni (Nq ((s.seq%2:Nat):Int) s.sector e).1)else Nq ((s.seq%2:Nat):Int) s.sector e)=_
  rw[h1,if_pos rfl]
  show(if gn (aL e (s.seq%2) s.sector)=0 then(bL (aL e (s.seq%2) s.sector),(0:Int))else(bL (aL e (s.seq%2) s.sector),gn (aL e (s.seq%2) s.sector)))=_
  split
  .rename_i hz;rw[hz]
  .rfl
 have hQ:=(h.quiet.write (P:=fun _=>False) ((s.seq%2:Nat):Int) s.sector (fun _ hk=>hk.elim)).quiet
 have hN:NG e ((s.seq%2:Nat):Int) s.sector=aL e (s.seq%2) s.sector:=by unfold NG;rw[if_pos ⟨Q2,hs⟩,ML]
 rw[hN]at hQ
 have Qz:=hQ.ja
 have hwe:(aL e (s.seq%2) s.sector).waits=[(s.seq%2,s.sector)]:=by show e.waits++_=_;rw[hw];rfl
 have hfe:bL (aL e (s.seq%2) s.sector)=fq (dK (aL e (s.seq%2) s.sector)) (fun _=>true):=by
  unfold bL
  rw[if_neg (by rw[hQ.down];simp),if_neg (by have:=hQ.fuse;omega)]
 have N8:(bL (aL e (s.seq%2) s.sector)).stand=e.stand.set (s.seq%2) s.sector:=by
  rw[hfe]
  show sk e.stand (aL e (s.seq%2) s.sector).waits (fun _=>true) (aL e (s.seq%2) s.sector).waits.length=_
  rw[hwe]
  exact Ig _ _
 have Ox:(bL (aL e (s.seq%2) s.sector)).waits=[]:=by rw[hfe];rfl
 rw[hE]
 refine⟨Qz,Ox,N8,?_⟩
 have aaT:(aL d (s.seq%2) s.sector).waits=[(s.seq%2,s.sector)]:=by show d.waits++_=_;rw[hwd];rfl
 have abx:∀keep,(sk d.stand [(s.seq%2,s.sector)] (kept keep) 1)=e.stand\/(sk d.stand [(s.seq%2,s.sector)] (kept keep) 1)=e.stand.set (s.seq%2) s.sector:=fun keep=>by
  rw[h.stand];exact JO _ _ _
 have Su:Nq ((s.seq%2:Nat):Int) s.sector d=(aL d (s.seq%2) s.sector,if d.fuse=0 then 90 else 0):=by
  show(NG d _ _,NV d _ _)=_
  unfold NG NV
  rw[if_pos ⟨XS,hs⟩,if_neg (by rw[XS];simp),if_neg (by rw[hs];simp),ML]
 have hL:aE s d=if d.fuse=0 then(aL d (s.seq%2) s.sector,90)else Ni (aL d (s.seq%2) s.sector):=by
  show(if(Nq ((s.seq%2:Nat):Int) s.sector d).2=0 then(if(Ni (Nq ((s.seq%2:Nat):Int) s.sector d).1).2=0 then((Ni (Nq ((s.seq%2:Nat):Int) s.sector d).1).1,(0:Int))else Ni (Nq ((s.seq%2:Nat):Int) s.sector d).1)else Nq ((s.seq%2:Nat):Int) s.sector d)=_
  rw[Su]
  by_cases hf:d.fuse=0
  .rw[if_pos hf,if_pos hf,if_neg (by simp)]
  .rw[if_neg hf,if_neg hf,if_pos rfl]
   simp only
   split
   .rename_i hz
    exact Prod.ext rfl hz.symm
   .rfl
 rw[hL]
 by_cases hf:d.fuse=0
 .rw[if_pos hf]
  refine Or.inr ⟨rfl,?_,fun keep=>?_⟩
  .show(if d.fuse=0 then true else d.down)=true
   rw[if_pos hf]
  .show sk d.stand (aL d (s.seq%2) s.sector).waits (kept keep) (aL d (s.seq%2) s.sector).waits.length=_\/sk d.stand (aL d (s.seq%2) s.sector).waits (kept keep) (aL d (s.seq%2) s.sector).waits.length=_
   rw[aaT]
   exact abx keep
 .rw[if_neg hf]
  have Qt:gX (aL d (s.seq%2) s.sector) (aL e (s.seq%2) s.sector):=⟨h.stand,aaT.trans hwe.symm,by
   show(if d.fuse=0 then true else d.down)=false
   rw[if_neg hf];exact h.down,hQ⟩
  rcases mg Qt with⟨h1,h2⟩|⟨h1,h2⟩
  .refine Or.inl ⟨h1.trans Qz,h2⟩
  .refine Or.inr ⟨h1,h2,fun keep=>?_⟩
   have hff:(aL d (s.seq%2) s.sector).fuse=0:=by
    by_cases hz:(aL d (s.seq%2) s.sector).fuse=0
    .exact hz
    .exfalso
     have:gn (aL d (s.seq%2) s.sector)=90:=h1
     unfold gn at this
     rw[if_neg (by rw[Qt.down];simp),if_neg hz]at this
     cases this
   have e1:(Ni (aL d (s.seq%2) s.sector)).1=dK (aL d (s.seq%2) s.sector):=by
    show bL _=_
    unfold bL
    rw[if_neg (by rw[Qt.down];simp),if_pos hff]
   rw[e1]
   show sk d.stand (aL d (s.seq%2) s.sector).waits (kept keep) (aL d (s.seq%2) s.sector).waits.length=_\/sk d.stand (aL d (s.seq%2) s.sector).waits (kept keep) (aL d (s.seq%2) s.sector).waits.length=_
   rw[aaT]
   exact abx keep
theorem fM:∀(fs gs:List (DK->DK×Int)) (d:DK),ah (fs++gs) d=if(ah fs d).2=0 then ah gs (ah fs d).1 else ah fs d
 |[],gs,d=>rfl
 |f::fs,gs,d=>by
  show(if(f d).2=0 then ah (fs++gs) (f d).1 else f d)=_
  have e:ah (f::fs) d=if(f d).2=0 then ah fs (f d).1 else f d:=rfl
  rw[e]
  by_cases h:(f d).2=0
  .rw[if_pos h,if_pos h,fM fs gs]
  .rw[if_neg h,if_neg h,if_neg h]
theorem oQ (f:DK->DK×Int) (d:DK):ah [f] d=f d:=by
 show(if(f d).2=0 then((f d).1,(0:Int))else f d)=f d
 split
 .rename_i h;exact Prod.ext rfl h.symm
 .rfl
def fV (v:VS) (r:DK×Int) (s:SB) (c:aj):VS×Int:=if r.2=0 then(⟨r.1,s,c,v.dead⟩,0)else(⟨r.1,v.s,v.c,v.dead⟩,r.2)
theorem wF (c:aj) (tx:List UInt8) (v:VS):Nz c tx v=fV v (ah [fun d=>Nm d v.s.journal v.s.used tx,Ni,aE (bw v.s (v.s.used+tx.length))] v.d) (bw v.s (v.s.used+tx.length)) c:=by
 have e:ah [fun d=>Nm d v.s.journal v.s.used tx,Ni,aE (bw v.s (v.s.used+tx.length))] v.d=if(Nm v.d v.s.journal v.s.used tx).2=0 then ah [Ni,aE (bw v.s (v.s.used+tx.length))] (Nm v.d v.s.journal v.s.used tx).1 else Nm v.d v.s.journal v.s.used tx:=rfl
 unfold Nz fV
 rw[e]
 by_cases h:(Nm v.d v.s.journal v.s.used tx).2=0
 .rw[if_pos h,if_pos h]
 .rw[if_neg h,if_neg h,if_neg h]
theorem wD (c:aj) (t:List UInt8) (R:List (Int×Int)) (v:VS):NO c t R v=fV v (ah [fun d=>NF d R t,Ni,aE (bZ v.s t.length R)] v.d) (bZ v.s t.length R) c:=rfl
theorem qJ (fs hs:List (DK->DK×Int)) (G:VS->VS×Int) (s:SB) (c:aj) (v:VS) (hG:∀e,G ⟨e,v.s,v.c,v.dead⟩=fV ⟨e,v.s,v.c,v.dead⟩ (ah hs e) s c):
  NK (fs.map aK++[G]) v=fV v (ah (fs++hs) v.d) s c:=by
 rw[eW,gH,fM]
 by_cases h:(ah fs v.d).2=0
 .rw[if_pos (show(aK (ah fs) v).2=0 from h),if_pos h]
  show(if(G (aK (ah fs) v).1).2=0 then((G (aK (ah fs) v).1).1,(0:Int))else G (aK (ah fs) v).1)=_
  have e:(aK (ah fs) v).1=⟨(ah fs v.d).1,v.s,v.c,v.dead⟩:=rfl
  rw[e,hG]
  unfold fV
  split
  .rename_i h1
   rw[if_pos rfl]
  .rfl
 .rw[if_neg (show ¬(aK (ah fs) v).2=0 from h),if_neg h]
  unfold fV
  rw[if_neg h]
  rfl
theorem gG (h:ez d s c) (hf:bg d) (hf':bg e) (hw:d.waits=[]) (hd:d.down=false) (hs:e.stand=d.stand) (hw':e.waits=[]) (Rf:e.down=false):ez e s c:=
 pW h hf hf' hw hd ⟨by rw[hs],fun k=>by rw[hs];exact qS.same _ _ _ _,fun x hx=>by rw[hw']at hx;cases hx⟩ hw' Rf
theorem vS (hl:d'.stand.length=d.stand.length) (hd:d.down=false) (Rf:d'.down=false) (h:∀k,2<=k->k<d.stand.length->seen d' k=seen d k) (j u:Int):NC d' j u=NC d j u/\Oh d' j u=Oh d j u:=by
 have e:NC d' j u=NC d j u:=by unfold NC;rw[hd,Rf,hl]
 refine⟨e,?_⟩
 unfold Oh
 rw[e]
 split
 .rename_i h0
  unfold NC at h0
  split at h0
  .cases h0
  .rename_i Qz
   have Qz:aN d.stand.length j u=0:=by simpa using Qz
   obtain⟨f1,f2,f3,f4⟩:=gN Qz
   obtain⟨k,rfl⟩:=Mr f3
   rw[mL _ (fun i hi=>h _ (by omega) (by rw[om]at hi;omega))]
 .rfl
theorem oJ (hl:d'.stand.length=d.stand.length) (hd:d.down=false) (Rf:d'.down=false) (l:List (Int×Int)) (n:Int) (h:∀k∈Nu l,k<d.stand.length->seen d' k=seen d k):Nr d' l n=Nr d l n/\Ov d' l n=Ov d l n:=by
 have e:Nr d' l n=Nr d l n:=by unfold Nr;rw[hd,Rf,hl]
 refine⟨e,?_⟩
 unfold Ov
 rw[e]
 split
 .rename_i h0
  have hX:dA l d.stand.length n:=by
   exact M65
  rw[qz (d:=d) (d':=d') (Nu l) (fun a ha=>h a ha (by have:=(hX.lt ha).1;omega))]
 .rfl
theorem lz (hw:d.waits=[]) (hw':d'.waits=[]) (hs:d'.stand=d.stand.set i x) (k:Nat) (hk:i≠k):seen d' k=seen d k:=by
 rw[fm hw,fm hw',hs]
 rw[MD,MD,List.getElem?_set_ne hk]
theorem mJ (hw':d'.waits=[]) (hs:d'.stand=d.stand.set i x) (hi:i<d.stand.length):seen d' i=x:=by
 rw[fm hw',hs,MD,List.getElem?_set_self hi];rfl
theorem ji (hd:d.down=false) (i:Nat) (hi:i<d.stand.length):Og d i=seen d i:=by
 unfold Og
 rw[if_pos (by unfold N7;rw[if_neg (by rw[hd];simp),if_neg (by omega)]),ML]
theorem xE {a b:List UInt8} (ha:fG a) (hb:fG b) (h:(OW b).seq=(OW a).seq+1):
  ((OW a).seq%2=0->nH a b (some b))/\((OW a).seq%2=1->nH b a (some b)):=by
 refine⟨fun h0=>Or.inr (Or.inr ⟨rfl,⟨hb,by omega⟩,fun hc=>?_⟩),fun h1=>Or.inr (Or.inl ⟨rfl,⟨hb,by omega⟩,fun hc=>?_⟩)⟩
 .have:=hc.2;omega
 .have:=hc.2;omega
theorem rL {e4:DK} {s':SB} (hp:iZ (Og e 0) (Og e 1)=some s) (Sq:s'.may) (hq:s'.seq=s.seq+1) (hq':s'.seq<18446744073709551616) (hd:e.down=false) (hw:e.waits=[]) (hd4:e4.down=false) (TO:e4.waits=[]) (hn:2<=e.stand.length) (hl:e4.stand.length=e.stand.length)
  (h:∀k,k<2->seen e4 k=if k=s'.seq%2 then s'.sector else seen e k):iZ (Og e4 0) (Og e4 1)=some s':=by
 obtain⟨m1,m2,m3⟩:=qj hp
 have hX:=mQ s m1 m2
 have hY:=mQ s' Sq hq'
 have dX:=jz s m1 m2
 have dY:=jz s' Sq hq'
 have Tb:=xE hX hY (by rw[dX,dY];exact hq)
 rw[dX]at Tb
 have r0:=ji hd4 0 (by omega)
 have r1:=ji hd4 1 (by omega)
 have q0:=ji hd 0 (by omega)
 have q1:=ji hd 1 (by omega)
 have s0:=h 0 (by omega)
 have s1:=h 1 (by omega)
 have r0':Og e4 0=seen e4 0:=r0
 have r1':Og e4 1=seen e4 1:=r1
 have q0':Og e 0=seen e 0:=q0
 have q1':Og e 1=seen e 1:=q1
 rw[r0',r1',s0,s1]
 rcases m3 with⟨e1,e2⟩|⟨e1,e2⟩
 .rw[if_neg (by omega),if_pos (by omega),<-q0',<-e1,n9 (Tb.1 e2)]
  show some (OW s'.sector)=_
  rw[dY]
 .rw[if_pos (by omega),if_neg (by omega),<-q1',<-e1,n9 (Tb.2 e2)]
  show some (OW s'.sector)=_
  rw[dY]
structure Cu (v:VS) (FS:List (DK->DK×Int)) (s:SB) (c:aj):Prop where
 sim:∀f∈FS,yz f
 safe:∀f∈FS,rB v.c v.s v.d.stand f
 sb:s.sector.length=128
 two:2<=v.d.stand.length
 ideal:∀e,aF e->e.stand=v.d.stand->e.waits=[]->(ah FS e).2=0/\(ah FS e).1.waits=[]/\aF (ah FS e).1/\(ah FS e).1.stand.length=v.d.stand.length/\∀e4,e4.stand=(ah FS e).1.stand.set (s.seq%2) s.sector->e4.waits=[]->e4.down=false->bg e4->ez e4 s c
 cat:aM c/\iJ c
theorem Hd {v:VS} {FS:List (DK->DK×Int)} (h:Cu v FS s c) (hS:gX v.d e) (hw:v.d.waits=[]):
  (ah (FS++[aE s]) e).2=0/\ez (ah (FS++[aE s]) e).1 s c/\(ah (FS++[aE s]) e).1.waits=[]/\aF (ah (FS++[aE s]) e).1/\
  (((ah (FS++[aE s]) v.d).2=0/\gX (ah (FS++[aE s]) v.d).1 (ah (FS++[aE s]) e).1)\/
  ((ah (FS++[aE s]) v.d).2=90/\(ah (FS++[aE s]) v.d).1.down=true/\bg (ah (FS++[aE s]) v.d).1/\∀keep,(Oo (ah (FS++[aE s]) v.d).1 keep).stand=(ah (FS++[aE s]) e).1.stand\/bp v.c v.s v.d.stand (Oo (ah (FS++[aE s]) v.d).1 keep))):=by
 obtain⟨i1,i2,i3,i4,i5⟩:=h.ideal e hS.quiet hS.stand.symm (hS.waits.symm.trans hw)
 have aaX:=vk FS h.sim v.d e hS
 obtain⟨sf1,sf2⟩:=kz FS h.safe v.d hS.fit (bp.start hw)
 rw[fM,fM,oQ,oQ,if_pos i1]
 have hQ:=i3
 have aee:=h.two
 have SC:aF (aE s (ah FS e).1).1:=(j8 (P:=fun _=>False) s (fun k hk=>hk.elim) i3).1.quiet
 rcases aaX with⟨h1,h2⟩|⟨h1,h2⟩
 .rw[i1]at h1
  rw[if_pos h1]
  obtain⟨l1,l2,l3,l4⟩:=uK h2 i2 (by omega) s h.sb
  refine⟨l1,i5 _ l3 l2 SC.down SC.fit,l2,SC,?_⟩
  rcases l4 with⟨a,b⟩|⟨a,b,k⟩
  .exact Or.inl ⟨a,b⟩
  .refine Or.inr ⟨a,b,?_,fun keep=>?_⟩
   .have Te:∀f∈[Nq ((s.seq%2:Nat):Int) s.sector,Ni],∀d,bg d->bg (f d).1:=fun f hf d hF=>by
     simp only[List.mem_cons,List.not_mem_nil,or_false]at hf
     rcases hf with rfl|rfl
     .exact hF.write _ _
     .exact hF.flush
    have:∀(fs:List (DK->DK×Int)),(∀f∈fs,∀d,bg d->bg (f d).1)->∀d,bg d->bg (ah fs d).1:=fun fs=>by
     induction fs with
     |nil=>intro _ d hF;exact hF
     |cons f fs ih=>
      intro hf d hF
      show bg (if(f d).2=0 then ah fs (f d).1 else f d).1
      split
      .exact ih (fun g hg=>hf g (by simp[hg])) _ (hf f (by simp) d hF)
      .exact hf f (by simp) d hF
    exact this _ Te _ sf2
   .rcases k keep with k1|k1
    .refine Or.inr ⟨?_,fun i=>?_,fun x hx=>by cases hx⟩
     .rw[k1,i4]
     .rw[k1,<-h2.stand]
      have hwd:(ah FS v.d).1.waits=[]:=h2.waits.trans i2
      exact sf1.stand i
    .exact Or.inl (k1.trans l3.symm)
 .rw[if_neg (by rw[h1];decide)]
  obtain⟨l1,l2,l3,_⟩:=uK (⟨rfl,rfl,i3.down,i3⟩:gX (ah FS e).1 (ah FS e).1) i2 (by omega) s h.sb
  exact⟨l1,i5 _ l3 l2 SC.down SC.fit,l2,SC,Or.inr ⟨h1,h2,sf2,fun keep=>Or.inr (sf1.iw keep)⟩⟩
end Go.Proofs.YtdkimcnlhmhpgaaGreat

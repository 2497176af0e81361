/- -/
import Derived.Test.YtdkimcnlhmhpgaaGreatM22
set_option maxHeartbeats 32000000
set_option maxRecDepth 100000
namespace Go.Proofs.YtdkimcnlhmhpgaaGreat
open Go.Proofs.Tryz Go.RowKit
variable {P:Nat->Prop} {d:DK} {l:List (Int×Int)} {k b base size n:Nat} {v:VS} {nm data:List UInt8} {c:au} {w w5:World} {x:Int} {e:TypeId} {v10:Value} {xs:List Value} {A:Prop}
structure bk (d:DK):Prop where
 down:d.down=false
 fuse:d.fuse<0
 fit:dS d
structure QS (P:Nat->Prop) (d d':DK):Prop where
 quiet:bk d'
 len:d'.stand.length=d.stand.length
 seen:∀k,k<d.stand.length->P k->seen d' k=seen d k
theorem QS.refl (h:bk d):QS P d d:=⟨h,rfl,fun _ _ _=>rfl⟩
theorem QS.trans {a b c:DK} (h:QS P a b) (k:QS P b c):QS P a c:=⟨k.quiet,k.len.trans h.len,fun i hi hp=>(k.seen i (by rw[h.len];exact hi) hp).trans (h.seen i hi hp)⟩
theorem bk.write (h:bk d) (i:Int) (s:List UInt8) (hP:∀k:Nat,P k->(k:Int)≠i):QS P d (OJ d i s):=by
 have hf:=h.fit.write i s
 have hl:=(fy d i s).2.2
 unfold OJ at hf hl ⊢
 split at hf
 .rename_i hc
  rw[if_pos hc]at hl ⊢
  have⟨h1,h2,h3⟩:=dh hc.1
  refine⟨⟨?_,?_,hf⟩,hl,fun k hk hp=>?_⟩
  .show(if d.fuse=0 then true else d.down)=false
   rw[if_neg _Q,h.down]
  .show(if 0<d.fuse then d.fuse-1 else d.fuse)<0
   rw[if_neg _Q];exact h.fuse
  .rw[jc,if_neg]
   intro e
   have:=hP k hp
   omega
 .rename_i hc
  rw[if_neg hc]
  exact QS.refl h
theorem bk.flush (h:bk d):QS P d (iO d):=by
 have hf:=h.fit.flush
 unfold iO at hf ⊢
 rw[if_neg a!,if_neg _Q]at hf ⊢
 refine⟨⟨?_,?_,hf⟩,sx _ _,fun k hk _=>?_⟩
 .show(if d.fuse=0 then true else d.down)=false
  rw[if_neg _Q,h.down]
 .show(if 0<d.fuse then d.fuse-1 else d.fuse)<0
  rw[if_neg _Q];exact h.fuse
 .exact yi (dq d) k hk
def QR (P:Nat->Prop) (d:DK) (r:DK×Int):Prop:=QS P d r.1/\r.2≠90
theorem bk.Ai (h:bk d) (i:Int) (s:List UInt8):OW d i s≠90:=by
 have h1:=h.down
 have h2:=h.fuse
 unfold OW
 by_cases hr:i<0\/(d.stand.length:Int)<=i
 .have e:OM d i=5:=by unfold OM;rw[h1,if_neg _b,if_pos hr]
  rw[e,if_pos _d];decide
 .have e:OM d i=0:=by unfold OM;rw[h1,if_neg _b,if_neg hr]
  rw[e,if_neg _d]
  by_cases hs:s.length≠128
  .rw[if_pos hs];decide
  .rw[if_neg hs,if_neg _a];decide
theorem bk.th (h:bk d):qv d=0:=by
 unfold qv
 rw[if_neg a!,if_neg _Q]
theorem jK (h:bk d) (i:Int) (s:List UInt8) (hP:∀k:Nat,P k->(k:Int)≠i):QR P d (aM i s d):=⟨h.write i s hP,h.Ai i s⟩
theorem fH (h:bk d):QR P d (aA d):=⟨h.flush,by show qv d≠90;rw[h.th];decide⟩
theorem AD (al:List Nat):∀{P:Nat->Prop} {d:DK} (_:bk d) (s:List UInt8),(∀k,P k->k∉al)->QR P d (gN al d s):=by
 induction al with
 |nil=>intro P d h s _;exact⟨QS.refl h,by show(0:Int)≠90;decide⟩
 |cons a t ih=>
  intro P d h s hP
  have h1:=h.write (P:=P) (a:Int) (aC s) (fun k hk e=>hP k hk (by
    have:k=a:=_a
    subst this;exact MY))
  unfold gN
  split
  .have h2:=ih h1.quiet (s.drop 128) (P:=P) (fun k hk hm=>hP k hk (Nz _ hm))
   exact⟨h1.trans h2.1,h2.2⟩
  .exact⟨h1,h.Ai _ _⟩
theorem ns (h:bk d) (l:List (Int×Int)) (s:List UInt8) (hP:∀k,P k->k∉NY l):QR P d (OQ d l s):=by
 unfold OQ
 split
 .rw[if_neg a!]
  exact AD _ h s hP
 .exact⟨QS.refl h,by show(1:Int)≠90;decide⟩
theorem wV (n:Nat):∀{P:Nat->Prop} {d:DK} (_:bk d) (a:Nat) (s:List UInt8),s.length<=n->(∀k,P k->k<a\/a+(s.length+127)/128<=k)->QR P d (fW d a s):=by
 induction n with
 |zero=>
  intro P d h a s hs _
  have:s=[]:=Nc _a
  subst this
  exact⟨QS.refl h,by show(0:Int)≠90;decide⟩
 |succ n ih=>
  intro P d h a s hs hP
  by_cases h0:s=[]
  .subst h0;exact⟨QS.refl h,by show(0:Int)≠90;decide⟩
  .have hl:0<s.length:=Nu.2 h0
   have h1:=h.write (P:=P) (a:Int) (aC s) (fun k hk e=>by
    have:=hP k hk
    omega)
   rw[iK h0]
   split
   .have h2:=ih h1.quiet (P:=P) (a+1) (s.drop 128) _z (fun k hk=>by
     have:=hP k hk
     rw[MQ]
     omega)
    exact⟨h1.trans h2.1,h2.2⟩
   .exact⟨h1,h.Ai _ _⟩
theorem pj (h:bk d) (j u:Int) (s:List UInt8) (hP:∀k:Nat,P k->2+j<=(k:Int)):QR P d (Oa d j u s):=by
 unfold Oa
 split
 .exact⟨QS.refl h,by show(1:Int)≠90;decide⟩
 .rename_i hf
  have hf:bo d.stand.length j u=0:=by simpa using hf
  have⟨f1,f2,f3,f4⟩:=jX hf
  split
  .exact⟨QS.refl h,by show(100:Int)≠90;decide⟩
  .rename_i hl
   rw[if_neg a!]
   split
   .exact⟨QS.refl h,by show(0:Int)≠90;decide⟩
   .refine wV _ h _ _ (MG _) (fun k hk=>Or.inr ?_)
    have h1:=hP k hk
    have h2:((seen d (2+u.toNat/128)).take (u.toNat%128)).length<=u.toNat%128:=_w
    rw[tN]
    omega
theorem iF {P:Nat->Prop}:∀(fs:List (DK->DK×Int)),(∀f∈fs,∀d,bk d->QR P d (f d))->∀{d},bk d->QR P d (aG fs d)
 |[],_,d,h=>⟨QS.refl h,by show(0:Int)≠90;decide⟩
 |f::fs,hf,d,h=>by
  have h1:=hf f _b d h
  unfold aG
  split
  .have h2:=iF fs (fun g hg=>hf g (by simp[hg])) h1.1.quiet
   exact⟨h1.1.trans h2.1,h2.2⟩
  .exact h1
theorem ph (s:SB) (hP:∀k,P k->2<=k) {d:DK} (h:bk d):QR P d (cN s d):=by
 refine iF [aM ((s.seq%2:Nat):Int) s.aT,aA] (fun f hf d h=>?_) h
 simp only[List.mem_cons,List.not_mem_nil,or_false]at hf
 rcases hf with rfl|rfl
 .exact jK h _ _ (fun k hk e=>by have:=hP k hk;omega)
 .exact fH h
theorem AC (s:SB) (t:List UInt8) (runs:List (Int×Int)) (hP:∀k,P k->2<=k/\k∉NY runs) {d:DK} (h:bk d):QR P d (wk s t runs d):=by
 refine iF [fun d=>OQ d runs t,aA,cN (BF s t.length runs)] (fun f hf d h=>?_) h
 simp only[List.mem_cons,List.not_mem_nil,or_false]at hf
 rcases hf with rfl|rfl|rfl
 .exact ns h runs t (fun k hk=>(hP k hk).2)
 .exact fH h
 .exact ph _ (fun k hk=>(hP k hk).1) h
def QV (P:Nat->Prop) (v:VS) (r:VS×Int):Prop:=QS P v.d r.1.d/\r.2≠90/\r.1.dead=v.dead/\(r.2≠0->r.1.c=v.c/\r.1.s=v.s)
theorem vJ (c:au) (tx:List UInt8) (v:VS) (hP:∀k:Nat,P k->2<=k/\2+v.s.journal<=(k:Int)) (h:bk v.d):QV P v (bg c tx v):=by
 have h1:=pj h v.s.journal v.s.used tx (fun k hk=>(hP k hk).2)
 have h2:QR P (Oa v.d v.s.journal v.s.used tx).1 (aG [aA,cN (dH v.s (v.s.used+tx.length))] (Oa v.d v.s.journal v.s.used tx).1):=by
  refine iF _ (fun f hf d h=>?_) h1.1.quiet
  simp only[List.mem_cons,List.not_mem_nil,or_false]at hf
  rcases hf with rfl|rfl
  .exact fH h
  .exact ph _ (fun k hk=>(hP k hk).1) h
 unfold bg
 split
 .split
  .exact⟨h1.1.trans h2.1,by show(0:Int)≠90;decide,rfl,fun hh=>absurd rfl hh⟩
  .exact⟨h1.1.trans h2.1,h2.2,rfl,fun _=>⟨rfl,rfl⟩⟩
 .exact⟨h1.1,h1.2,rfl,fun _=>⟨rfl,rfl⟩⟩
theorem vI (c:au) (t:List UInt8) (runs:List (Int×Int)) (v:VS) (hP:∀k,P k->2<=k/\k∉NY runs) (h:bk v.d):QV P v (ir c t runs v):=by
 have h1:=AC (P:=P) v.s t runs hP h
 unfold ir
 split
 .exact⟨h1.1,by show(0:Int)≠90;decide,rfl,fun hh=>absurd rfl hh⟩
 .exact⟨h1.1,h1.2,rfl,fun _=>⟨rfl,rfl⟩⟩
theorem Cu (fs:List (DK->DK×Int)) (g:VS->VS×Int) (v:VS) (hf:∀f∈fs,∀d,bk d->QR P d (f d)) (hg:∀u:VS,u.s=v.s->u.c=v.c->u.dead=v.dead->bk u.d->QV P u (g u)) (h:bk v.d):QV P v (OH (fs.map aZ++[g]) v):=by
 have h1:=iF fs hf h
 rw[kn,nU]
 have e2:(aZ (aG fs) v).2=(aG fs v.d).2:=rfl
 by_cases h0:(aZ (aG fs) v).2=0
 .rw[if_pos h0]
  have h2:=hg (aZ (aG fs) v).1 rfl rfl rfl h1.1.quiet
  show QV P v (if(g (aZ (aG fs) v).1).2=0 then((g (aZ (aG fs) v).1).1,0)else g (aZ (aG fs) v).1)
  have⟨a,b,c,d⟩:=h2
  split
  .exact⟨h1.1.trans a,by show(0:Int)≠90;decide,c,fun hh=>absurd rfl hh⟩
  .exact⟨h1.1.trans a,b,c,d⟩
 .rw[if_neg h0]
  exact⟨h1.1,h1.2,rfl,fun _=>⟨rfl,rfl⟩⟩
theorem jT (h:∀a∈l,0<=a.1) {k:Nat} (hk:k∈NY l):OE l k=true:=by
 have⟨r,hr,h1,h2⟩:=oY hk
 have:=h r hr
 exact dr.2 ⟨r,hr,_a,_a⟩
theorem mJ (h:Pl 0 l):∀a∈l,0<=a.1:=fun _ ha=>(h.mem ha).1
theorem xQ {f:Nat->Bool} (h:OE (eh f) k=true):k<8192/\f k=true:=by
 have⟨m,h1,h2,h3⟩:=(rU f k).1 (dr.1 h)
 have:m=k:=_a
 subst this
 exact⟨h2,h3⟩
theorem pE {a b:List (Int×Int)} {k:Nat} (h:OE (Pr a b) k=true):OE a k=true/\OE b k=false/\k<8192:=by
 have⟨h1,h2⟩:=xQ h
 simp only[No,Bool.not_eq_true']at h2
 exact⟨h2.1,h2.2,h1⟩
theorem uc {n:Int} {k:Nat} (h:OE (Om l n) k=true):OE l k=true:=by
 have⟨_,h2⟩:=xQ h
 unfold A9 at h2
 simp only[No]at h2
 exact h2.1
theorem pI (l:List (Int×Int)) (n:Int):Pl 0 (Om l n):=dV _
theorem lC (a b:List (Int×Int)):Pl 0 (Pr a b):=dV _
theorem rh (h:OE (Oh v) k=true):2+v.s.journal<=(k:Int)/\(k:Int)<v.s.sectors/\OE (OK v.c) k=false/\OE v.s.runs k=false:=by
 have⟨h1,h2,h3⟩:=pE h
 rw[qQ,Bool.or_eq_false_iff]at h2
 have⟨r,hr,h4,h5⟩:=dr.1 h1
 obtain rfl:r=(2+v.s.journal,v.s.sectors-(2+v.s.journal)):=F!
 simp only at h4 h5
 exact⟨_a,_a,h2.1,h2.2⟩
theorem pz (left:List (Int×Int)) (l:List VC):∀j,j<=l.length->∀k,OE (Ob left l j).2 k=true->OE left k=true
 |0,_,k,h=>h
 |j+1,hj,k,h=>by
  rw[fI left l j _a]at h
  unfold jL at h
  split at h
  .exact pz left l j _a k (pE h).1
  .exact pz left l j _a k h
theorem pw (left:List (Int×Int)) (l:List VC):∀j,j<=l.length->∀r∈(Ob left l j).1,Pl 0 r.runs/\∀k,OE r.runs k=true->OE left k=true
 |0,_,r,hr=>by simp[Ob]at hr
 |j+1,hj,r,hr=>by
  rw[fI left l j _a]at hr
  unfold jL at hr
  split at hr
  .rcases Na.1 hr with hr|hr
   .exact pw left l j _a r hr
   .obtain rfl:=Nm.1 hr
    exact⟨pI _ _,fun k hk=>pz left l j _a k (uc hk)⟩
  .rcases Na.1 hr with hr|hr
   .exact pw left l j _a r hr
   .obtain rfl:=Nm.1 hr
    exact⟨trivial,fun k hk=>by simp[VC.told,OE]at hk⟩
theorem gT (h:Pl 0 l):∀a∈l,aQ a:=fun a ha=>by
 have:=h.mem ha
 unfold aQ
 omega
theorem yv (left:List (Int×Int)) (l:List VC) (j k:Nat) (h:k<=j) (hj:j<=l.length):(Ob left l j).1.take k=(Ob left l k).1:=by
 induction j with
 |zero=>
   obtain rfl:k=0:=_a
   rfl
 |succ j ih=>
  by_cases e:k=j+1
  .subst e
   rw[Nh (by rw[gp left l _ hj];omega)]
  .rw[fI left l j _a]
   have h1:=ih _a _a
   have hl:=gp left l j _a
   unfold jL
   split
   .rw[NC _a];exact h1
   .rw[NC _a];exact h1
theorem CE (left:List (Int×Int)) (l:List VC) (k:Nat) (h:k<l.length) (h':k<(Ob left l l.length).1.length):(Ob left l l.length).1[k]=if Oj l[k].kind then⟨l[k].kind,l[k].id,l[k].name,l[k].bytes.length,Om (Ob left l k).2 (On l[k].bytes.length)⟩else l[k].told:=by
 have h1:=yv left l l.length (k+1) _a (MG _)
 have h2:=gp left l k _a
 rw[fI left l k h]at h1
 have h3:((Ob left l l.length).1.take (k+1))[k]? =some (Ob left l l.length).1[k]:=by
  rw[List.getElem?_take,if_pos _a,MZ h']
 rw[h1]at h3
 unfold jL at h3
 split at h3<;>rename_i hb
 .rw[List.getElem?_append_right _a,h2,Nat.sub_self]at h3
  rw[if_pos hb]
  exact(Option.some.inj h3).symm
 .rw[List.getElem?_append_right _a,h2,Nat.sub_self]at h3
  rw[if_neg hb]
  exact(Option.some.inj h3).symm
def vO (nm:List UInt8):NS->Bool:=fun x=>x.name==nm
theorem DC {p:NS->Bool} {l:List NS} {x:NS}:PI p l=(x,true)↔l.find? p=some x:=by
 unfold PI
 cases l.find? p with
 |none=>simp
 |some y=>simp
structure vQ (nm data:List UInt8) (v:VS):Prop where
 quiet:bk v.d
 dead:v.dead=false
 cat:OL v.c
 item:∃x,v.c.names.find? (vO nm)=some x/\N7 v.d x.runs x.size=0/\PV v.d x.runs x.size=data/\(∀a∈x.runs,0<=a.1)/\∀k∈NY x.runs,2<=k/\2+v.s.journal<=(k:Int)
theorem Bm {d':DK} (_:bk d) (k:QS P d d') (l:List (Int×Int)) (n:Int) (h0:N7 d l n=0) (hP:∀i∈NY l,P i):N7 d' l n=0/\PV d' l n=PV d l n:=by
 have hx:dO l d.stand.length n:=by
  apply NG
  intro hh
  unfold N7 at h0
  rw[if_neg hh]at h0
  cases h0
 have h1:N7 d' l n=0:=by
  unfold N7
  rw[k.len,if_pos hx,if_neg (by rw[k.quiet.down];simp)]
 refine⟨h1,?_⟩
 unfold PV
 rw[if_pos h1,if_pos h0,Dw (d:=d) (d':=d') (NY l) (fun a ha=>k.seen a (by have:=(hx.lt ha).1;omega) (hP a ha))]
theorem Bk (h:vQ nm data v) (id:Int):sH v 3 id nm=(data,0,v):=by
 have⟨x,h1,h2,h3,_⟩:=h.item
 have e:lN v.c 3 id nm=(x,true):=by
  unfold lN
  rw[if_neg _d,if_neg _d]
  exact DC.2 h1
 unfold sH
 rw[if_neg (by rw[h.dead];simp),if_neg _b,e,if_neg _b]
 simp only[h2,h3]
 have⟨d,s,c,dead⟩:=v
 have hd:dead=false:=h.dead
 rw[hd]
 rfl
theorem Hb {r:VS×Int} (h:QV P v r) (hd:v.dead=false):(Qk r).1.dead=false/\QS P v.d (Qk r).1.d/\(Qk r).1.c=r.1.c/\(Qk r).1.s=r.1.s/\(Qk r).2=r.2:=by
 have⟨a,b,c,_⟩:=h
 refine⟨?_,a,rfl,rfl,rfl⟩
 show(r.1.dead||r.2==90)=false
 rw[c,hd]
 simpa using b
theorem tz {tx:List UInt8} (h:(bg c tx v).2=0):(bg c tx v).1.c=c/\(bg c tx v).1.s.journal=v.s.journal:=by
 unfold bg at h ⊢
 split
 .rename_i h1
  rw[if_pos h1]at h
  split
  .exact⟨rfl,rfl⟩
  .rename_i h2
   rw[if_neg h2]at h
   exact absurd h h2
 .rename_i h1
  rw[if_neg h1]at h
  exact absurd h h1
theorem Ap {t:List UInt8} {runs:List (Int×Int)} {v:VS} (h:(ir c t runs v).2=0):(ir c t runs v).1.c=c/\(ir c t runs v).1.s.journal=v.s.journal:=by
 unfold ir at h ⊢
 split
 .exact⟨rfl,rfl⟩
 .rename_i h2
  rw[if_neg h2]at h
  exact absurd h h2
theorem Ki {fs:List (DK->DK×Int)} {g:VS->VS×Int} {v:VS} {c:au} (hg:∀u:VS,u.s=v.s->(g u).2=0->(g u).1.c=c/\(g u).1.s.journal=u.s.journal) (h:(OH (fs.map aZ++[g]) v).2=0):(OH (fs.map aZ++[g]) v).1.c=c/\(OH (fs.map aZ++[g]) v).1.s.journal=v.s.journal:=by
 rw[kn]at h ⊢
 by_cases h0:(OH (fs.map aZ) v).2=0
 .rw[if_pos h0]at h ⊢
  rw[nU]at h h0 ⊢
  have e:OH [g] (aZ (aG fs) v).1=if(g (aZ (aG fs) v).1).2=0 then((g (aZ (aG fs) v).1).1,0)else g (aZ (aG fs) v).1:=rfl
  rw[e]at h ⊢
  by_cases h1:(g (aZ (aG fs) v).1).2=0
  .rw[if_pos h1]
   exact hg (aZ (aG fs) v).1 rfl h1
  .rw[if_neg h1]at h
   exact absurd h h1
 .rw[if_neg h0]at h
  exact absurd h h0
theorem EV (left:List (Int×Int)) (l:List VC) (hn:∀x∈l,0<=x.id):∀r∈(Ob left l l.length).1,0<=r.id:=by
 intro r hr
 obtain⟨k,hk,rfl⟩:=Nr.1 hr
 have hk':k<l.length:=by rw[gp left l _ (MG _)]at hk;exact hk
 rw[CE left l k hk' hk]
 have:=hn l[k] (MJ hk')
 split<;>exact this
theorem Hr (h:bk d) (l:List (Int×Int)) (s:List UInt8) (h0:(OQ d l s).2=0):N7 (OQ d l s).1 l s.length=0/\PV (OQ d l s).1 l s.length=s/\QS (fun k=>k∉NY l) d (OQ d l s).1:=by
 have hq:=(ns (P:=fun k=>k∉NY l) h l s (fun k hk=>hk)).1
 have hX:dO l d.stand.length s.length:=by
  apply NG
  intro hh
  unfold OQ at h0
  rw[if_neg hh]at h0
  cases h0
 have NV:∀a∈NY l,a<d.stand.length:=fun a ha=>by have:=(hX.lt ha).1;omega
 have⟨d',e1,e2,e3,e4,e5,eo,ew,e6,e7⟩:=CA (NY l) d s h.fit h.down h.fuse NV (mo hX.2.2.1)
 have Q0:OQ d l s=(d',0):=by
  unfold OQ
  rw[if_pos hX,if_neg a!,e1]
 rw[Q0]at hq ⊢
 have U0:N7 d' l s.length=0:=by
  unfold N7
  rw[e2,if_pos hX,if_neg (by rw[e3];simp)]
 refine⟨U0,?_,hq⟩
 unfold PV
 rw[if_pos U0,Nw,yM (NY l) d' s (fun i h=>e7 i h)]
 refine xM _ _ ?_
 have:((NY l).length:Int)=On (s.length:Int):=hX.wC
 unfold On at this
 split at this<;>omega
theorem vh {R:List (Int×Int)} (hq:bk v.d) (hd:v.dead=false) (hR:Pl 0 R) (hRm:∀k,OE R k=true->OE (Oh v) k=true) (hj:1<=v.s.journal) {c:au} (PT:OL c) {x:NS} (hx:c.names.find? (vO nm)=some x) (hxr:x.runs=R) (hxs:x.size=data.length)
  (fs:List (DK->DK×Int)) (g:VS->VS×Int)
  (hf:(∀f∈fs,∀d,bk d->QR (fun k=>k∈NY R) d (f d))/\(∀u:VS,u.s=v.s->bk u.d->QV (fun k=>k∈NY R) u (g u)))
  (hg:∀u:VS,u.s=v.s->(g u).2=0->(g u).1.c=c/\(g u).1.s.journal=u.s.journal)
  (h0:(Qk (OH (aZ (fun d=>OQ d R data)::(fs.map aZ++[g])) v)).2=0):
  vQ nm data (Qk (OH (aZ (fun d=>OQ d R data)::(fs.map aZ++[g])) v)).1:=by
 have e:OH (aZ (fun d=>OQ d R data)::(fs.map aZ++[g])) v=if(aZ (fun d=>OQ d R data) v).2=0 then OH (fs.map aZ++[g]) (aZ (fun d=>OQ d R data) v).1 else aZ (fun d=>OQ d R data) v:=rfl
 rw[e]at h0 ⊢
 by_cases h1:(aZ (fun d=>OQ d R data) v).2=0
 .rw[if_pos h1]at h0 ⊢
  have⟨p1,p2,p3⟩:=Hr hq R data h1
  have hu:bk (aZ (fun d=>OQ d R data) v).1.d:=p3.quiet
  have hqa:=Cu fs g (aZ (fun d=>OQ d R data) v).1 hf.1 (fun u u1 u2 u3 u4=>hf.2 u u1 u4) hu
  have⟨t1,t2,t3,t4,t5⟩:=Hb hqa (by exact hd)
  obtain⟨e1,e2⟩:=Ki (v:=(aZ (fun d=>OQ d R data) v).1) hg (by rw[<-t5];exact h0)
  have⟨g1,g2⟩:=Bm hu t2 R data.length p1 (fun i hi=>hi)
  refine⟨t2.quiet,t1,by rw[t3,e1];exact PT,x,by rw[t3,e1];exact hx,by rw[hxr,hxs];exact g1,by rw[hxr,hxs];exact g2.trans p2,by rw[hxr];exact mJ hR,fun k hk=>?_⟩
  rw[hxr]at hk
  have h2:=(rh (hRm k (jT (mJ hR) hk))).1
  rw[t4,e2]
  show 2<=k/\2+v.s.journal<=(k:Int)
  omega
 .rw[if_neg h1]at h0
  exact absurd h0 h1
open Classical in
theorem yL (hq:bk v.d) (hd:v.dead=false) (hc:v.c=cf) (hj:1<=v.s.journal) (h0:(eX v [⟨3,0,nm,data⟩]).2=0):vQ nm data (eX v [⟨3,0,nm,data⟩]).1:=by
 have hp:Ob (Oh v) [⟨3,0,nm,data⟩] 1=([⟨3,0,nm,data.length,Om (Oh v) (On data.length)⟩],Pr (Oh v) (Om (Oh v) (On data.length))):=rfl
 unfold eX at h0 ⊢
 rw[show([⟨3,0,nm,data⟩]:List VC).length=1 from rfl,hp]at h0 ⊢
 simp only at h0 ⊢
 generalize hR:Om (Oh v) (On data.length)=R at*
 have hRp:Pl 0 R:=by rw[<-hR];exact pI _ _
 have hRm:∀k,OE R k=true->OE (Oh v) k=true:=fun k hk=>by rw[<-hR]at hk;exact uc hk
 rw[if_neg ai!]at h0 ⊢
 by_cases c1:P5 v.c [⟨3,0,nm,data⟩]≠0
 .rw[if_pos c1]at h0
  exact absurd h0 c1
 .rw[if_neg c1]at h0 ⊢
  by_cases c2:¬gW (Oh v) [⟨3,0,nm,data⟩]
  .rw[if_pos c2]at h0;cases h0
  .rw[if_neg c2]at h0 ⊢
   by_cases c3:(N8 v.c [⟨3,0,nm,data.length,R⟩]).2≠0
   .rw[if_pos c3]at h0
    exact absurd h0 c3
   .rw[if_neg c3]at h0 ⊢
    have c3:(N8 v.c [⟨3,0,nm,data.length,R⟩]).2=0:=by simpa using c3
    by_cases c4:cX [⟨3,0,nm,data.length,R⟩]≠0
    .rw[if_pos c4]at h0
     exact absurd h0 c4
    .rw[if_neg c4]at h0 ⊢
     have Pz:OL v.c:=by
      apply NG
      intro hh
      unfold N8 at c3
      rw[if_neg hh]at c3
      cases c3
     have Qf:N8 v.c [⟨3,0,nm,data.length,R⟩]=cH v.c [⟨3,0,nm,data.length,R⟩]:=by unfold N8;rw[if_pos Pz]
     have PT:OL (N8 v.c [⟨3,0,nm,data.length,R⟩]).1:=by
      rw[Qf]at c3 ⊢
      exact wL Pz (fun r hr=>by obtain rfl:=Nm.1 hr;exact Int.le_refl _) c3
     have aaI:(N8 v.c [⟨3,0,nm,data.length,R⟩]).1.names.find? (vO nm)=some ⟨0,nm,data.length,R⟩:=by
      rw[Qf,hc]at c3 ⊢
      unfold cH at c3 ⊢
      by_cases m1:az ⟨3,0,nm,data.length,R⟩=true
      .rw[if_pos m1]at c3 ⊢
       by_cases m2:(aW cf ⟨3,0,nm,data.length,R⟩).2=0
       .rw[if_pos m2]
        show(Oc [] (ag.item ⟨3,0,nm,data.length,R⟩) 0 256 false).1.find? _=_
        unfold Oc
        rw[if_neg _b,if_neg (by
         rintro(hh|hh)
         .have⟨y,hy,_⟩:=SO.1 hh
          cases hy
         .exact absurd hh (by show ¬(0:Int)<0;decide)),if_neg _b]
        unfold Qm
        simp[vO,ag.item]
       .rw[if_neg m2]at c3;exact absurd c3 m2
      .rw[if_neg m1]at c3;cases c3
     generalize N8 v.c [⟨3,0,nm,data.length,R⟩]=AP at*
     generalize Pv [⟨3,0,nm,data.length,R⟩]=TX at*
     have Wn:gP [⟨3,0,nm,data⟩] [⟨3,0,nm,data.length,R⟩]=[aZ (fun d=>OQ d R data)]:=rfl
     rw[Wn]at h0 ⊢
     by_cases c5:(TX.length:Int)<=v.s.journal*128-v.s.used
     .rw[if_pos c5]at h0 ⊢
      have e:[aZ (fun d=>OQ d R data)]++[aZ aA,bg AP.1 TX]=aZ (fun d=>OQ d R data)::([aA].map aZ++[bg AP.1 TX]):=rfl
      rw[e]at h0 ⊢
      refine vh hq hd hRp hRm hj PT aaI rfl rfl [aA] _ ⟨fun f hf d hd=>?_,fun u u1 hu=>?_⟩ (fun u u1 h0=>tz h0) h0
      .obtain rfl:=Nm.1 hf
       exact fH hd
      .refine vJ _ _ u (fun k hk=>?_) hu
       have h2:=(rh (hRm k (jT (mJ hRp) hk))).1
       rw[u1]
       omega
     .rw[if_neg c5]at h0 ⊢
      by_cases c6:(cY AP.1).2≠0
      .rw[if_pos c6]at h0
       exact absurd h0 c6
      .rw[if_neg c6]at h0 ⊢
       by_cases c7:OT (Pr (Oh v) R) (On (cY AP.1).1.length)≠0
       .rw[if_pos c7]at h0;cases h0
       .rw[if_neg c7]at h0 ⊢
        have e:[aZ (fun d=>OQ d R data)]++[ir AP.1 (cY AP.1).1 (Om (Pr (Oh v) R) (On (cY AP.1).1.length))]=aZ (fun d=>OQ d R data)::(([]:List (DK->DK×Int)).map aZ++[ir AP.1 (cY AP.1).1 (Om (Pr (Oh v) R) (On (cY AP.1).1.length))]):=rfl
        rw[e]at h0 ⊢
        refine vh hq hd hRp hRm hj PT aaI rfl rfl [] _ ⟨fun f hf=>by simp at hf,fun u u1 hu=>?_⟩ (fun u u1 h0=>Ap h0) h0
        refine vI _ _ _ u (fun k hk=>?_) hu
        have h2:=(rh (hRm k (jT (mJ hRp) hk))).1
        refine⟨_a,fun hm=>?_⟩
        have h3:=(pE (uc (jT (mJ (pI _ _)) hm))).2.1
        rw[jT (mJ hRp) hk]at h3
        cases h3
theorem aK.reader {l:List UInt8} (h:aK w b l x):∃cs,ae w b cs 263:=by
 have⟨S,a,h1,_⟩:=h;exact⟨_,h1⟩
theorem aK.small {l:List UInt8} (h:aK w b l x):l.length<=1000000:=by
 obtain⟨S,a,_,_,h2,rfl,_⟩:=h
 rw[MQ];omega
theorem aK.grown {l:List UInt8} (h:aK w b l x) (hr:w.ownsRow base e size v10 n xs) (hg:w.grownBy w5 v10.ownBlock) (h1:e≠263):aK w5 b l x:=by
 have⟨S,a,o,h2⟩:=h
 exact⟨S,a,bW hr hg o h1,h2⟩
theorem aE.grown {w0:World} {u:Value} {rs:List (Int×Int)} (h:aE w0 w u rs) (hr:w.ownsRow base e size v10 n xs) (hg:w.grownBy w5 v10.ownBlock) (h1:e≠128):aE w0 w5 u rs:=
 dG h (fun g cs _ hc=>hg.block g (NK hc) (fun e'=>aB hr (show ae w g cs 128 from hc) h1 e'.symm))
theorem KV (b:Nat) (l:List UInt8) (x:Int) (w:World) (hR:aK w b l x):
  am! 202 #[b,(1:Int)] w fun r w'=>r=.returned (.int .u64 (N6 1 l x).1)/\aK w' b (N6 1 l x).2.1 (N6 1 l x).2.2/\NP [b] w w':=sD b 1 l x w hR _a
theorem vN (b:Nat) (l:List UInt8) (x:Int) (w:World) (hR:aK w b l x):
  am! 202 #[b,(2:Int)] w fun r w'=>r=.returned (.int .u64 (N6 2 l x).1)/\aK w' b (N6 2 l x).2.1 (N6 2 l x).2.2/\NP [b] w w':=sD b 2 l x w hR _a
theorem qk (b:Nat) (l:List UInt8) (x:Int) (w:World) (hR:aK w b l x):
  am! 202 #[b,(4:Int)] w fun r w'=>r=.returned (.int .u64 (N6 4 l x).1)/\aK w' b (N6 4 l x).2.1 (N6 4 l x).2.2/\NP [b] w w':=sD b 4 l x w hR _a
def pZ (b:Nat) (l:List UInt8) (x:Int) (w:World) (e:Ending) (w':World):Prop:=
 ∃m v,e=.returned v/\m<=(N6 2 l x).1/\aE w w' v (Od m (N6 2 l x).2.1 (N6 2 l x).2.2).1/\aK w' b (Od m (N6 2 l x).2.1 (N6 2 l x).2.2).2.1 (Od m (N6 2 l x).2.1 (N6 2 l x).2.2).2.2/\((Od m (N6 2 l x).2.1 (N6 2 l x).2.2).2.2=0->m=(N6 2 l x).1)/\NP [b] w w'
theorem Cw (b:Nat) (l:List UInt8) (x:Int) (w:World) (hR:aK w b l x):
  am! 286 #[b] w (pZ b l x w):=by
 have VG:=hR.lt
 have hu:=vN b l x w hR
 have hn:=cp 2 l x
 have⟨HN,HU⟩:=_f hn hu
 unfold pZ
 clear hn hu
 generalize N6 2 l x=N at*
 have⟨n,l1,x1⟩:=N
 simp only at*
 go_enter func286,ntmps286
 go_wp2_with fail
 refine HU.out.mono ?_;rintro e w1 ⟨rfl,hR1,OP⟩
 have hln:(n:Int)<65536:=by have:=HN.out;omega
 generalize QT:(n:Int)=nn at*
 have⟨Uf,VP⟩:=_f QT hR1
 clear QT hR1 HU hR
 go_wp2_with fail
 go_loopw [4,5,6] (fun v4 i v6 wr=>∃j:Nat,j<=n/\i=.int .u64 j/\aE w wr v4 (Od j l1 x1).1/\aK wr b (Od j l1 x1).2.1 (Od j l1 x1).2.2/\NP [b] w wr) (fun _ i _ _=>n-(intOf i).toNat)
 case atStart=>exact⟨0,_a,rfl,Nf _ _ _ _,VP.out,OP⟩
 case round=>
  obtain⟨j,hj,rfl,NU,hR,hK⟩:=hrel
  have V5:=ah NU
  rw[ga]at V5
  obtain⟨p4,c4,rfl⟩:=V5
  have TA:Od (j+1) l1 x1=((Od j l1 x1).1++[(((N6 2 (Od j l1 x1).2.1 (Od j l1 x1).2.2).1:Int),((N6 2 (N6 2 (Od j l1 x1).2.1 (Od j l1 x1).2.2).2.1 (N6 2 (Od j l1 x1).2.1 (Od j l1 x1).2.2).2.2).1:Int))],
        (N6 2 (N6 2 (Od j l1 x1).2.1 (Od j l1 x1).2.2).2.1 (N6 2 (Od j l1 x1).2.1 (Od j l1 x1).2.2).2.2).2):=rfl
  have hlen:=ga j l1 x1
  have hjb:j<=65536:=by have:=HN.out;omega
  generalize hRR:Od j l1 x1=RR at*
  have Uc:=tK hRR
  clear hRR
  by_cases NV:j<n
  .have i1:(j:Int)<nn:=_x
   have hce:=hR.err
   by_cases hx:RR.2.2=0
   .rw[hx]at hce
    have hu:=vN b RR.2.1 RR.2.2 wr hR
    have bu:((N6 2 RR.2.1 RR.2.2).1:Int)<65536:=by have:=cp 2 RR.2.1 RR.2.2;omega
    generalize N6 2 RR.2.1 RR.2.2=U1 at*
    have hv:=fun W (h:aK W b U1.2.1 U1.2.2)=>vN b U1.2.1 U1.2.2 W h
    have bv:((N6 2 U1.2.1 U1.2.2).1:Int)<65536:=by have:=cp 2 U1.2.1 U1.2.2;omega
    generalize N6 2 U1.2.1 U1.2.2=U2 at*
    have ewu:IntKind.i64.wrap (U1.1:Int)=(U1.1:Int):=IntWalk.i64_in _ _a
    have ewv:IntKind.i64.wrap (U2.1:Int)=(U2.1:Int):=IntWalk.i64_in _ _a
    have⟨i0,q0,q1,q2,q3⟩:=eV
    have⟨RA,OZ,HU,HV,Pm,TC,Of⟩:=gk! TA hlen hu hv NU hR NV
    have Sr:w.heap.size<=wr.heap.size:=hK.size
    have r3:j+1<=maxLen:=_m
    have r4:(j+1)*16<=140737488355328:=_a
    clear TA hlen hu hv NU hR hx NV hj hjb
    go_wp2_with fail
    refine HU.out.mono ?_;rintro e w3 ⟨rfl,Q4,P6⟩
    have hv3:=HV.out _ Q4
    have HV3:=tK hv3
    clear Q4 HV hv3 HU
    go_wp2_with fail
    refine HV3.out.mono ?_;rintro e w4 ⟨rfl,So,Qo⟩
    have adf:=P6.trans Qo
    have Vl:w4.ownsRow w 128 2 (p4,j,c4) j (NW RR.1):=by
     have:=Pm.out.aS adf (fun y hy=>Or.inl (by
       have:y=b:=N!
       omega))
     unfold aE at this
     rw[OZ.out]at this
     exact this
    have⟨W8,Z0⟩:=_f Vl So
    have X6:NP [b] w w4:=hK.trans adf
    have Yd:w.heap.size<=w4.heap.size:=X6.size
    clear P6 Qo Vl So HV3
    go_wp2_with (at_builtin;go_must (refine MT _ rfl (.tmp 24) (.tmp 30) 56 rfl w 128 i0 (.agg #[(0:Int),(0:Int)]) 2 16 underlying56 q0 q1 q2 q3 rfl _d _ _ _ rfl (MH W8.out _) w4 1 1 [.int .i64 (U1.1:Int),.int .i64 (U2.1:Int)] rfl rfl ?_ ?_ r3 r4 ?_ ?_))
    .exact World.news_of_block (Ns w4 _)
    .intro u hu;simp at hu;rcases hu with rfl|rfl<;>rfl
    .simp;omega
    intro v6 w6 o6 Po _ _
    have TB:=MH W8.out (.cells #[(U1.1:Int),(U2.1:Int)] 128)
    have hR6:aK w6 b U2.2.1 U2.2.2:=(Z0.out.kept ((NP.refl [] w4).alloc _) _b).grown TB Po _d
    have Q7:NP [b] w w6:=(X6.alloc _).grown Po (fun i hi=>Or.inr (ML TB i hi).1)
    have ho6:aE w w6 v6 (RR.1++[((U1.1:Int),(U2.1:Int))]):=by
     unfold aE
     rw[bP,tN,Nq,OZ.out]
     exact o6
    have⟨Vn,Zz⟩:=_f ho6 hR6
    clear Po o6 TB hR6 ho6
    have hjs:IntKind.u64.wrap ((j:Int)+1)=((j+1:Nat):Int):=by have:=bC (j+1) (by have:=Of.out;have:=HN.out;omega);simpa using this
    go_wp2_with fail
    go_roundw
    case rel=>exact⟨j+1,Of.out,_G,by rw[RA.out];exact Vn.out,by rw[RA.out];exact Zz.out,Q7⟩
    case measure=>(have hh:=Of.out;simp[intOf];omega)
   .have Wr:(RR.2.2==0)=false:=_h
    have⟨Pm,TC,HX⟩:=gg! NU hR hx
    clear TA hlen NU hR hx NV hjb
    go_wp2_with fail
    go_ret
    exact⟨j,_,rfl,hj,by rw[Uc.out];exact Pm.out,by rw[Uc.out];exact TC.out,fun h=>absurd (by rw[Uc.out]at h;exact h) HX.out,hK⟩
  .obtain rfl:j=n:=_a
   have i1:¬((j:Int)<nn):=_x
   have⟨Pm,TC⟩:=_f NU hR
   clear TA hlen NU hR NV hjb
   go_wp2_with fail
   go_ret
   exact⟨j,_,rfl,hj,by rw[Uc.out];exact Pm.out,by rw[Uc.out];exact TC.out,fun _=>rfl,hK⟩
structure jE (w wx:World) (b ob xb:Nat) (k:Int) (i:Nat) (t:List UInt8) (z:Nat) (v:Value) (rs:List (Int×Int)) (l:List UInt8) (x:Int):Prop where
 rd:aK wx b l x
 out:ae wx ob #[(0:Int),.int .u32 0,.string {data:=#[]},(0:Int),()] 102
 rcd:ae wx xb #[k,(i,()),t,(z:Int),v] 102
 row:aE w wx v rs
 kept:NP [b] w wx
 hb:b<w.heap.size
 hob:w.heap.size<=ob
 hxb:w.heap.size<=xb
 n3:ob≠xb
section
variable {w wx wy:World} {b ob xb:Nat} {k:Int} {i:Nat} {t:List UInt8} {z:Nat} {v:Value} {rs:List (Int×Int)} {l l':List UInt8} {x x':Int}
theorem jE.read (h:jE w wx b ob xb k i t z v rs l x) (hR:aK wy b l' x') (kk:NP [b] wx wy):jE w wy b ob xb k i t z v rs l' x' where
 rd:=hR
 out:=kk.own h.out (by have:=h.hb;have:=h.hob;simp;omega)
 rcd:=kk.own h.rcd (by have:=h.hb;have:=h.hxb;simp;omega)
 row:=ax h.row kk (by have:=h.hb;simp;omega)
 kept:=h.kept.call kk _b
 hb:=h.hb
 hob:=h.hob
 hxb:=h.hxb
 n3:=h.n3
theorem jE.set (h:jE w wx b ob xb k i t z v rs l x) (j:Nat) (u:Value) (k':Int) (i':Nat) (t':List UInt8) (z':Nat)
  (e:(#[.int .i64 k,.int .u32 i,.string (bs t),.int .i64 z,v]:Array Value).setIfInBounds j u=#[.int .i64 k',.int .u32 i',.string (bs t'),.int .i64 z',v]):
  jE w (wx.setCell (aa xb j) u) b ob xb k' i' t' z' v rs l x where
 rd:=h.rd.other (p:=(aa xb j)) _I u
 out:=h.out.other (p:=(aa xb j)) h.n3 u
 rcd:=by rw[<-e];exact h.rcd.set j u
 row:=bT h.row (p:=(aa xb j)) (aB h.row h.rcd _d) u
 kept:=h.kept.setCell (p:=(aa xb j)) (Or.inr h.hxb) u
 hb:=h.hb
 hob:=h.hob
 hxb:=h.hxb
 n3:=h.n3
theorem jE.fU (h:jE w wx b ob xb k i t z v rs l x) {v':Value} {rs':List (Int×Int)} (hr:aE w wx v' rs'):
  jE w (wx.setCell (aa xb 4) v') b ob xb k i t z v' rs' l x where
 rd:=h.rd.other (p:=(aa xb 4)) _I v'
 out:=h.out.other (p:=(aa xb 4)) h.n3 v'
 rcd:=h.rcd.set 4 v'
 row:=bT hr (p:=(aa xb 4)) (aB hr h.rcd _d) v'
 kept:=h.kept.setCell (p:=(aa xb 4)) (Or.inr h.hxb) v'
 hb:=h.hb
 hob:=h.hob
 hxb:=h.hxb
 n3:=h.n3
end
def zY (b:Nat) (l:List UInt8) (w:World) (e:Ending) (w':World):Prop:=
 ∃m v,e=.returned (.agg ((Ps m l).1.cells v))/\m<=(nR l).1/\aE w w' v (Ps m l).1.runs/\aK w' b (Ps m l).2.1 (Ps m l).2.2/\((Ps m l).2.2=0->m=(nR l).1)/\NP [b] w w'
theorem Mg (b:Nat) (l:List UInt8) (w:World) (hR:aK w b l 0):
  am! 251 #[b] w (zY b l w):=by
 have VG:=hR.lt
 have o1:=ae.new w #[(0:Int),.int .u32 0,.string {data:=#[]},(0:Int),()] 102
 have k0:=(NP.refl [b] w).alloc (.cells #[(0:Int),.int .u32 0,.string {data:=#[]},(0:Int),()] 102)
 have UM:=hR.kept ((NP.refl [] w).alloc (.cells #[(0:Int),.int .u32 0,.string {data:=#[]},(0:Int),()] 102)) _b
 have hkd:((PP l).1:Int)<256:=by have:(PP l).1<256:=cp 1 l 0;omega
 have hku:IntKind.i64.wrap ((PP l).1:Int)=((PP l).1:Int):=IntWalk.i64_in _ _a
 have h8:am! 202 #[b,(1:Int)] _ fun r w'=>r=.returned (.int .u64 (PP l).1)/\aK w' b (PP l).2.1 (PP l).2.2/\NP [b] _ w':=KV b l 0 _ UM
 have hjh:=fun W=>pq ((PP l).1:Int) W
 have eI:iR l=if S4 ((PP l).1:Int)then N6 4 (PP l).2.1 (PP l).2.2 else(0,(PP l).2.1,(PP l).2.2):=rfl
 have eT:tR l=if Px ((PP l).1:Int)then dY (iR l).2.1 (iR l).2.2 else([],(iR l).2.1,(iR l).2.2):=rfl
 have eZ:zR l=if Oj ((PP l).1:Int)then N6 4 (tR l).2.1 (tR l).2.2 else(0,(tR l).2.1,(tR l).2.2):=rfl
 have eN:nR l=if Oj ((PP l).1:Int)then N6 2 (zR l).2.1 (zR l).2.2 else(0,(zR l).2.1,(zR l).2.2):=rfl
 have bi:((iR l).1:Int)<4294967296:=by
  have hh:=xH ((PP l).1:Int) (PP l).2.1 (PP l).2.2
  have:=eG hh
  have e:iR l=qP ((PP l).1:Int) (PP l).2.1 (PP l).2.2:=rfl
  rw[e];omega
 have bz:((zR l).1:Int)<4294967296:=_B
 have Pp:∀m,Ps m l=(⟨((PP l).1:Int),((iR l).1:Int),(tR l).1,((zR l).1:Int),(Od m (nR l).2.1 (nR l).2.2).1⟩,(Od m (nR l).2.1 (nR l).2.2).2):=fun m=>rfl
 have⟨H8,HJ,EI,ET,EZ,EN,ONE⟩:=gk! h8 hjh eI eT eZ eN Pp
 clear h8 UM hjh eI eT eZ eN Pp hR
 unfold zY
 generalize PP l=KD at*
 generalize iR l=IR at*
 generalize tR l=TR at*
 generalize zR l=ZR at*
 generalize nR l=NR at*
 go_enter func251,ntmps251
 go_wp2_with fail
 refine H8.out.mono ?_;rintro e w1 ⟨rfl,hR1,Sd⟩
 have Oo:jE w (w1.alloc (.cells #[(KD.1:Int),.int .u32 0,.string {data:=#[]},(0:Int),()] 102)) b w w1 (KD.1:Int) 0 [] 0 () [] KD.2.1 KD.2.2:=by
  have p1:=Sd.own o1 _e
  have l1:=p1.lt
  exact⟨hR1.kept ((NP.refl [] w1).alloc _) _b,p1.alloc _,ae.new _ _ _,Nf _ _ _ _,(k0.trans Sd).alloc _,VG,MG _,_a,_a⟩
 have OY:=tK Oo
 have⟨a0,a1,a2,a3,a4⟩:=Oo.rcd.c5
 clear Oo Sd hR1 k0 o1 H8
 have⟨kd,l1,x1⟩:=KD
 simp only at*
 go_wp2_with fail
 refine(HJ.out _).mono ?_;rintro e w' ⟨rfl,rfl⟩
 clear HJ
 generalize S4 (kd:Int)=I at*
 generalize Px (kd:Int)=N at*
 generalize Oj (kd:Int)=B at*
 go_upto_if 18 with fail
 go_cut [18] (fun v18 wx=>jE w wx b w w1 (kd:Int) IR.1 [] 0 () [] IR.2.1 IR.2.2)
 case first=>
  cases I
  .have e:=EI.out
   exact M58
  .have e:=EI.out
   rw[if_pos rfl]at e
   have hu:=qk b l1 x1 _ OY.out.rd
   rw[<-e]at hu
   have HU:=tK hu
   have ew:IntKind.u32.wrap (IR.1:Int)=(IR.1:Int):=rK IR.1 _a
   clear hu e
   go_wp2_with fail
   refine HU.out.mono ?_;rintro e w2 ⟨rfl,Qn,kk2⟩
   have QG:=OY.out.read Qn kk2
   have Tb:=QG.set 1 (IR.1,()) kd IR.1 [] 0 rfl
   have z1:=QG.rcd.free 1
   exact M44
 case rest=>
  clear OY EI a0 a1 a2 a3 a4
  generalize w1.heap.size=xb at*
  have⟨a0,a1,a2,a3,a4⟩:=hcut.rcd.c5
  have OY:=tK hcut
  clear hcut
  go_upto_if 23 with fail
  go_cut [23] (fun v23 wx=>jE w wx b w xb (kd:Int) IR.1 TR.1 0 () [] TR.2.1 TR.2.2)
  case first=>
   cases N
   .have e:=ET.out
    exact M58
   .have e:=ET.out
    rw[if_pos rfl]at e
    have hu:=Jj b IR.2.1 IR.2.2 _ OY.out.rd
    rw[<-e]at hu
    have HU:=tK hu
    clear hu e
    go_wp2_with fail
    refine HU.out.mono ?_;rintro e w2 ⟨rfl,Qn,kk2⟩
    have QG:=OY.out.read Qn kk2
    have Tb:=QG.set 2 TR.1 kd IR.1 TR.1 0 rfl
    have z1:=QG.rcd.free 2
    exact M44
  case rest=>
   clear OY ET a0 a1 a2 a3 a4
   have⟨a0,a1,a2,a3,a4⟩:=hcut.rcd.c5
   have OY:=tK hcut
   clear hcut
   go_upto_if 27 with fail
   go_cut [27] (fun v27 wx=>∃m v,jE w wx b w xb (kd:Int) IR.1 TR.1 ZR.1 v (Od m NR.2.1 NR.2.2).1 (Od m NR.2.1 NR.2.2).2.1 (Od m NR.2.1 NR.2.2).2.2/\m<=NR.1/\((Od m NR.2.1 NR.2.2).2.2=0->m=NR.1))
   case first=>
    cases B
    .have e1:=EZ.out
     have e2:=EN.out
     rw[if_neg _d]at e1 e2
     have hh:=OY.out
     have hm0:0=NR.1:=by rw[e2]
     go_wp2_with fail
     go_meet
     refine⟨0,(),?_,Nb _,fun _=>hm0⟩
     rw[e2,e1]
     exact hh
    .have e1:=EZ.out
     have e2:=EN.out
     rw[if_pos rfl]at e1 e2
     have hu:=qk b TR.2.1 TR.2.2 _ OY.out.rd
     rw[<-e1]at hu
     have hv:=fun W (h:aK W b ZR.2.1 ZR.2.2)=>Cw b ZR.2.1 ZR.2.2 W h
     unfold pZ at hv
     rw[<-e2]at hv
     have⟨HU,HV⟩:=_f hu hv
     have ew:IntKind.i64.wrap (ZR.1:Int)=(ZR.1:Int):=IntWalk.i64_in _ _a
     clear hu hv e1 e2
     go_wp2_with fail
     refine HU.out.mono ?_;rintro e w2 ⟨rfl,Qn,kk2⟩
     have QG:=OY.out.read Qn kk2
     have Tb:=QG.set 3 (ZR.1:Int) kd IR.1 TR.1 ZR.1 rfl
     have z1:=QG.rcd.free 3
     have⟨b0,b1,b2,b3,b4⟩:=QG.rcd.c5
     have Ve:=HV.out _ Tb.rd
     have⟨HV1,Ut⟩:=_f Ve Tb
     clear Tb QG Qn kk2 Ve HU HV
     go_wp2_with fail
     refine HV1.out.mono ?_;rintro e w3 ⟨m,v,rfl,hm,NU,Q4,QL,Ti⟩
     have Vx:=Ut.out.read Q4 Ti
     have hs5:=Vx.fU (NU.base Ut.out.kept.size)
     have⟨HS5,HM,Ul⟩:=gg! hs5 hm QL
     have z4:=Vx.rcd.free 4
     obtain⟨p,c,rfl⟩:=ah NU
     clear b0 b1 b2 b3 b4
     have⟨b0,b1,b2,b3,b4⟩:=Vx.rcd.c5
     clear Vx hs5 Ti Q4 HV1 Ut hm QL NU z1 a0 a1 a2 a3 a4 OY
     go_wp2_with fail
     go_meet
     exact⟨m,_,HS5.out,HM.out,Ul.out⟩
   case rest=>
    have⟨m,v,Oo,hm,QL⟩:=hcut
    clear OY a0 a1 a2 a3 a4 EZ EN
    have Pp:=ONE.out m
    generalize Od m NR.2.1 NR.2.2=RR at*
    have V5:=ah Oo.row
    obtain⟨pv,cv,rfl⟩:=V5
    have⟨a0,a1,a2,a3,a4⟩:=Oo.rcd.c5
    have⟨o0,o1,o2,o3,o4⟩:=Oo.out.c5
    have z0:=Oo.out.z5
    have n3:=Oo.n3
    have hhb:=Oo.hb
    have⟨Y2,Qt,HM,Ul⟩:=gh! Oo Pp hm QL
    clear Oo Pp ONE hm QL
    go_wp2_with fail
    have ks:=(NP.refl [w.heap.size] wc).lj (b:=w.heap.size) (Or.inl _b) (kd:Int) (.int .u32 (IR.1:Int)) TR.1 (ZR.1:Int) (pv,RR.1.length,cv)
    refine MN (v:=.agg #[(kd:Int),.int .u32 (IR.1:Int),TR.1,(ZR.1:Int),(pv,RR.1.length,cv)]) ?_ ?_ ?_
    .exact iu results251 rfl (Y2.out.out.lj _ _ _ _ _) underlying102 rfl _c
    .rfl
    .refine⟨m,(pv,RR.1.length,cv),by rw[Qt.out];rfl,HM.out,?_,?_,?_,Y2.out.kept.call ks (fun y hy=>Or.inr (Nat.le_of_eq (Nm.1 hy).symm))⟩
     .rw[Qt.out];exact bI Y2.out.row ks Y2.out.out _d
     .rw[Qt.out];exact Y2.out.rd.kept ks _e
     .rw[Qt.out];exact Ul.out
theorem iz {A:Array Value} {b:Bool} (c:Bool) (h:b=c) (k:am! n A w (qd c w)):am! n A w (qd b w):=h▸k
theorem jA (h:A:=by
 go_enter func252,ntmps252
 go_wp2_with fail
 refine(HH.out _).mono ?_;rintro e w' ⟨rfl,rfl⟩
 go_wp2_with fail
 go_ret
 exact⟨rfl,k0⟩):A:=h
theorem xB (h:A:=by
 refine iz false T! ?_
 exact jA):A:=h
theorem Il {A:Prop} (h:A:=by
 rcases(by omega:size=0\/size≠0)with z1|z1
 .subst z1
  rcases List.eq_nil_or_concat runs with e1|⟨ri,rq,e1⟩
  .subst e1
   refine iz true (by unfold gq;simp[*,rC]) ?_
   exact jA
  .have e2:1<=runs.length:=by rw[e1];simp
   have e3:(0:Int)<runs.length:=_a
   have e4:runs.isEmpty=false:=by rw[e1];simp
   have e5:((runs.length:Int)==0)=false:=_y
   clear e1
   exact xB
 .have z2:(size==0)=false:=by simpa using z1
  have z3:(size != 0)=true:=by simpa using z1
  exact xB):A:=h
theorem Ik {A:Prop} (h:A:=by
 rcases(by omega:size<0\/(0<=size/\1048576<size)\/(0<=size/\size<=1048576/\16<runs.length)\/(0<=size/\size<=1048576/\runs.length<=16))with b1|⟨b1,b2⟩|⟨b1,b2,b3⟩|⟨b1,b2,b3⟩
 .have b4:¬0<=size:=_a
  refine iz false (by unfold iD;simp[b4]) ?_
  exact jA
 .have b4:¬size<=1048576:=_a
  refine iz false (by unfold iD;simp[b4]) ?_
  exact jA
 .have b4:¬runs.length<=16:=_a
  have b5:(16:Int)<runs.length:=_a
  refine iz false (by unfold iD;simp[b4]) ?_
  exact jA
 have b5:(runs.length:Int)<=16:=_a
 have hr:=fun W (kk:NP [] w W)=>Gy _ runs lo hi 0 8192 W (h.kept0 kk) hl _a _a _a _a
 unfold nZ at hr
 cases hL:lies 0 8192 runs
 .refine iz false (by unfold iD;simp[hL]) ?_
  rw[hL,Bool.false_and]at hr
  have HR:=tK hr
  clear hr hL
  go_enter func252,ntmps252
  go_wp2_with fail
  refine(HH.out _).mono ?_;rintro e w' ⟨rfl,rfl⟩
  go_wp2_with fail
  have kk:=k0.drew
  have ob:=o0.drew
  have⟨c0,c1,c2,c3,c4⟩:=ob.c5
  refine MK (S:=(fun W=>W.cell? ⟨w.heap.size,3,none⟩=some (.int .i64 size)/\W.cell? ⟨w.heap.size,4,none⟩=some (.slice p runs.length c))) _c (by go_keep) (fun hHeld=>?_)
  refine tS ?_
  refine rD 2 (fun K hK=>?_)
  go_simp
  ((with_reducible refine(HR.out _ kk).mono ?_));rintro e w1 ⟨rfl,k1⟩
  have kk:=kk.trans k1
  have ob:=k1.own ob _b
  have⟨d0,d1,d2,d3,d4⟩:=ob.c5
  go_wp2_with fail
  refine hK.out _ _ ?_ (fun hHeld2=>nM ?_)
  .exact⟨d3,d4⟩
  clear hK K hHeld
  refine tS ?_
  refine Ng _c ?_ _
  go_wp2_with fail
  go_ret
  exact⟨rfl,kk⟩
 refine iz (NZ runs==On size) (by unfold iD;simp[hL,b1,b2,b3]) ?_
 rw[hL,Bool.true_and,MV b3]at hr
 have hs:=fun W (kk:NP [] w W)=>zg _ runs lo hi 0 8192 W (h.kept0 kk) hl hL _a _a
 have hn:=fun W=>Aw size W f4
 have⟨HR,HS,HN⟩:=gg! hr hs hn
 clear hr hL hs hn h
 generalize NZ runs=sm at*
 generalize On size=nd at*
 go_enter func252,ntmps252
 go_wp2_with fail
 refine(HH.out _).mono ?_;rintro e w' ⟨rfl,rfl⟩
 go_wp2_with fail
 have kk:=k0.drew
 have ob:=o0.drew
 go_region_held3 (fun W=>W.cell? ⟨w.heap.size,3,none⟩=some (.int .i64 size)/\W.cell? ⟨w.heap.size,4,none⟩=some (.slice p runs.length c)) (go_keep)
  (first
   |(go_at_call 283;((with_reducible refine(HR.out _ kk).mono ?_));rintro e w' ⟨rfl,k'⟩;have kk:=kk.trans k';have ob:=k'.own ob _b;have⟨c0,c1,c2,c3,c4⟩:=ob.c5)
   |(go_at_call 284;((with_reducible refine(HS.out _ kk).mono ?_));rintro e w' ⟨rfl,rfl⟩)
   |(go_at_call 146;((with_reducible refine(HN.out _).mono ?_));rintro e w' ⟨rfl,rfl⟩))
 all_goals
  go_wp2_with fail
  go_ret
  exact⟨rfl,kk⟩):A:=h
theorem AF (r:ag) (v:Value) (lo hi:Nat) (w:World) (h:af w v r.runs lo hi) (hl:r.runs.length<=1000000) (hf:r.fits):
  am! 252 #[.agg (r.cells v)] w (qd (az r) w):=by
 have⟨k,id,name,size,runs⟩:=r
 have⟨f1,f2,f3,f4⟩:=hf
 simp only at h hl f1 f2 f3 f4
 obtain⟨p,c,rfl⟩:=h.shape
 unfold ag.cells az
 simp only
 have hh:=fun W=>pq k W
 have⟨id0,id1⟩:=eG f2
 have hsb:=ko f4
 have PW:(bs name).size=name.length:=NQ name
 unfold maxLen at f3
 have k0:NP [] w (w.alloc (.cells #[k,(id,()),name,size,(p,runs.length,c)] 102)):=(NP.refl _ _).alloc _
 have o0:=ae.new w #[k,(id,()),name,size,(p,runs.length,c)] 102
 clear f1 f2
 generalize S4 k=I at*
 generalize Px k=N at*
 generalize Oj k=B at*
 rcases(by omega:id=0\/(¬id=0/\1<=id/\id<=4294967294)\/id=4294967295)with rfl|⟨i3,i1,i2⟩|rfl
 all_goals rcases sU name with⟨rfl,nm2,nm3,nm4⟩|⟨nm1,nm2,nm3,l1,l3⟩|⟨nm1,nm2,nm3,l1,l3⟩
 all_goals cases I<;>cases N<;>cases B<;>(have HH:=tK hh;clear hh;first|(refine iz false ?_ ?_;unfold gq;(simp[*]<;>fail);exact jA)|(refine iz (iD runs size) ?_ ?_;unfold gq;(simp[*]<;>fail);exact Ik)|exact Il)

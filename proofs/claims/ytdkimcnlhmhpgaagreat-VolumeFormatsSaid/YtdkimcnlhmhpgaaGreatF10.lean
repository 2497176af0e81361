/- -/
import Derived.Test.YtdkimcnlhmhpgaaGreatF09
set_option maxHeartbeats 32000000
set_option maxRecDepth 100000
namespace Go.Proofs.YtdkimcnlhmhpgaaGreat
section
open Go.Proofs.Tryz Go.RowKit
variable {P:Nat->Prop} {d:DK} {l:List (Int×Int)} {k b base size n:Nat} {v:VS} {nm data:List UInt8} {c:au} {w w5:World} {x:Int} {e:TypeId} {v10:Value} {xs:List Value} {A:Prop}
structure bk (d:DK):Prop where
 down:d.down=false
 fuse:d.fuse<0
 fit:dS d
structure QS (P:Nat->Prop) (d d':DK):Prop where
 quiet:bk d'
 len:d'.stand.length=d.stand.length
 seen:∀k,k<d.stand.length->P k->seen d' k=seen d k
theorem QS.refl (h:bk d):QS P d d:=⟨h,rfl,fun _ _ _=>rfl⟩
theorem QS.trans {a b c} (h:QS P a b) (k:QS P b c):QS P a c:=⟨k.quiet,k.len.trans h.len,fun i hi hp=>(k.seen i (by rw[h.len];exact hi) hp).trans (h.seen i hi hp)⟩
theorem bk.write (h:bk d) (i s) (hP:∀k:Nat,P k->(k:Int)≠i):QS P d (OJ d i s):=by
 have hf:=h.fit.write i s
 have hl:=(fy d i s).2.2
 unfold OJ at hf hl ⊢
 split at hf
 .rename_i hc
  rw[if_pos hc]at hl ⊢
  have⟨h1,h2,h3⟩:=dh hc.1
  refine⟨⟨?_,?_,hf⟩,hl,fun k hk hp=>?_⟩
  .show(if d.fuse=0 then true else d.down)=false
   rw[if_neg Q?,h.down]
  .show(if 0<d.fuse then d.fuse-1 else d.fuse)<0
   rw[if_neg Q?];exact h.fuse
  .rw[jc,if_neg]
   intro e
   have:=hP k hp
   omega
 .rename_i hc
  rw[if_neg hc]
  exact QS.refl h
theorem bk.flush (h:bk d):QS P d (iO d):=by
 have hf:=h.fit.flush
 unfold iO at hf ⊢
 rw[if_neg a!,if_neg Q?]at hf ⊢
 refine⟨⟨?_,?_,hf⟩,sx _ _,fun k hk _=>?_⟩
 .show(if d.fuse=0 then true else d.down)=false
  rw[if_neg Q?,h.down]
 .show(if 0<d.fuse then d.fuse-1 else d.fuse)<0
  rw[if_neg Q?];exact h.fuse
 .exact yi (dq d) k hk
def QR (P:Nat->Prop) (d:DK) (r:DK×Int):Prop:=QS P d r.1/\r.2≠90
theorem bk.Ai (h:bk d) (i s):OW d i s≠90:=by
 have h1:=h.down
 have h2:=h.fuse
 unfold OW
 by_cases hr:i<0\/(d.stand.length:Int)<=i
 .have e:OM d i=5:=by unfold OM;rw[h1,if_neg b?,if_pos hr]
  rw[e,if_pos d?];decide
 .have e:OM d i=0:=by unfold OM;rw[h1,if_neg b?,if_neg hr]
  rw[e,if_neg d?]
  by_cases hs:s.length≠128
  .rw[if_pos hs];decide
  .rw[if_neg hs,if_neg a?];decide
theorem bk.th (h:bk d):qv d=0:=by
 unfold qv
 rw[if_neg a!,if_neg Q?]
theorem jK (h:bk d) (i s) (hP:∀k:Nat,P k->(k:Int)≠i):QR P d (aM i s d):=⟨h.write i s hP,h.Ai i s⟩
theorem fH (h:bk d):QR P d (aA d):=⟨h.flush,by show qv d≠90;rw[h.th];decide⟩
theorem AD (al):∀{P:Nat->Prop} {d:DK} (_:bk d) (s:List UInt8),(∀k,P k->k∉al)->QR P d (gN al d s):=by
 induction al with
 |nil=>intro P d h s _;exact⟨QS.refl h,by show(0:Int)≠90;decide⟩
 |cons a t ih=>
  intro P d h s hP
  have h1:=h.write (P:=P) (a:Int) (aC s) (fun k hk e=>hP k hk (by
    have:k=a:=a?
    subst this;exact MY))
  unfold gN
  split
  .have h2:=ih h1.quiet (s.drop 128) (P:=P) (fun k hk hm=>hP k hk (Nz _ hm))
   exact⟨h1.trans h2.1,h2.2⟩
  .exact⟨h1,h.Ai _ _⟩
theorem ns (h:bk d) (l s) (hP:∀k,P k->k∉NY l):QR P d (OQ d l s):=by
 unfold OQ
 split
 .rw[if_neg a!]
  exact AD _ h s hP
 .exact⟨QS.refl h,by show(1:Int)≠90;decide⟩
theorem wV (n):∀{P:Nat->Prop} {d:DK} (_:bk d) (a:Nat) (s:List UInt8),s.length<=n->(∀k,P k->k<a\/a+(s.length+127)/128<=k)->QR P d (fW d a s):=by
 induction n with
 |zero=>
  intro P d h a s hs _
  have:s=[]:=Nc a?
  subst this
  exact⟨QS.refl h,by show(0:Int)≠90;decide⟩
 |succ n ih=>
  intro P d h a s hs hP
  by_cases h0:s=[]
  .subst h0;exact⟨QS.refl h,by show(0:Int)≠90;decide⟩
  .have hl:0<s.length:=Nu.2 h0
   have h1:=h.write (P:=P) (a:Int) (aC s) (fun k hk e=>by
    have:=hP k hk
    omega)
   rw[iK h0]
   split
   .have h2:=ih h1.quiet (P:=P) (a+1) (s.drop 128) z? (fun k hk=>by
     have:=hP k hk
     rw[MQ]
     omega)
    exact⟨h1.trans h2.1,h2.2⟩
   .exact⟨h1,h.Ai _ _⟩
theorem pj (h:bk d) (j u s) (hP:∀k:Nat,P k->2+j<=(k:Int)):QR P d (Oa d j u s):=by
 unfold Oa
 split
 .exact⟨QS.refl h,by show(1:Int)≠90;decide⟩
 .rename_i hf
  have hf:bo d.stand.length j u=0:=by simpa using hf
  have⟨f1,f2,f3,f4⟩:=jX hf
  split
  .exact⟨QS.refl h,by show(100:Int)≠90;decide⟩
  .rename_i hl
   rw[if_neg a!]
   split
   .exact⟨QS.refl h,by show(0:Int)≠90;decide⟩
   .refine wV _ h _ _ (MG _) (fun k hk=>Or.inr ?_)
    have h1:=hP k hk
    have h2:((seen d (2+u.toNat/128)).take (u.toNat%128)).length<=u.toNat%128:=w?
    rw[tN]
    omega
theorem iF {P}:∀(fs:List (DK->DK×Int)),(∀f∈fs,∀d,bk d->QR P d (f d))->∀{d},bk d->QR P d (aG fs d)
 |[],_,d,h=>⟨QS.refl h,by show(0:Int)≠90;decide⟩
 |f::fs,hf,d,h=>by
  have h1:=hf f b? d h
  unfold aG
  split
  .have h2:=iF fs (fun g hg=>hf g (by simp[hg])) h1.1.quiet
   exact⟨h1.1.trans h2.1,h2.2⟩
  .exact h1
theorem ph (s) (hP:∀k,P k->2<=k) {d} (h:bk d):QR P d (cN s d):=by
 refine iF [aM ((s.seq%2:Nat):Int) s.aT,aA] (fun f hf d h=>?_) h
 simp only[List.mem_cons,List.not_mem_nil,or_false]at hf
 rcases hf with rfl|rfl
 .exact jK h _ _ (fun k hk e=>by have:=hP k hk;omega)
 .exact fH h
theorem AC (s t runs) (hP:∀k,P k->2<=k/\k∉NY runs) {d} (h:bk d):QR P d (wk s t runs d):=by
 refine iF [fun d=>OQ d runs t,aA,cN (BF s t.length runs)] (fun f hf d h=>?_) h
 simp only[List.mem_cons,List.not_mem_nil,or_false]at hf
 rcases hf with rfl|rfl|rfl
 .exact ns h runs t (fun k hk=>(hP k hk).2)
 .exact fH h
 .exact ph _ (fun k hk=>(hP k hk).1) h
def QV (P:Nat->Prop) (v:VS) (r:VS×Int):Prop:=QS P v.d r.1.d/\r.2≠90/\r.1.dead=v.dead/\(r.2≠0->r.1.c=v.c/\r.1.s=v.s)
theorem vJ (c tx v) (hP:∀k:Nat,P k->2<=k/\2+v.s.journal<=(k:Int)) (h:bk v.d):QV P v (bg c tx v):=by
 have h1:=pj h v.s.journal v.s.used tx (fun k hk=>(hP k hk).2)
 have h2:QR P (Oa v.d v.s.journal v.s.used tx).1 (aG [aA,cN (dH v.s (v.s.used+tx.length))] (Oa v.d v.s.journal v.s.used tx).1):=by
  refine iF _ (fun f hf d h=>?_) h1.1.quiet
  simp only[List.mem_cons,List.not_mem_nil,or_false]at hf
  rcases hf with rfl|rfl
  .exact fH h
  .exact ph _ (fun k hk=>(hP k hk).1) h
 unfold bg
 split
 .split
  .exact⟨h1.1.trans h2.1,by show(0:Int)≠90;decide,rfl,fun hh=>absurd rfl hh⟩
  .exact⟨h1.1.trans h2.1,h2.2,rfl,fun _=>⟨rfl,rfl⟩⟩
 .exact⟨h1.1,h1.2,rfl,fun _=>⟨rfl,rfl⟩⟩
theorem vI (c t runs v) (hP:∀k,P k->2<=k/\k∉NY runs) (h:bk v.d):QV P v (ir c t runs v):=by
 have h1:=AC (P:=P) v.s t runs hP h
 unfold ir
 split
 .exact⟨h1.1,by show(0:Int)≠90;decide,rfl,fun hh=>absurd rfl hh⟩
 .exact⟨h1.1,h1.2,rfl,fun _=>⟨rfl,rfl⟩⟩
theorem Cu (fs:List (DK->DK×Int)) (g:VS->VS×Int) (v:VS) (hf:∀f∈fs,∀d,bk d->QR P d (f d)) (hg:∀u:VS,u.s=v.s->u.c=v.c->u.dead=v.dead->bk u.d->QV P u (g u)) (h:bk v.d):QV P v (OH (fs.map aZ++[g]) v):=by
 have h1:=iF fs hf h
 rw[kn,nU]
 have e2:(aZ (aG fs) v).2=(aG fs v.d).2:=rfl
 by_cases h0:(aZ (aG fs) v).2=0
 .rw[if_pos h0]
  have h2:=hg (aZ (aG fs) v).1 rfl rfl rfl h1.1.quiet
  show QV P v (if(g (aZ (aG fs) v).1).2=0 then((g (aZ (aG fs) v).1).1,0)else g (aZ (aG fs) v).1)
  have⟨a,b,c,d⟩:=h2
  split
  .exact⟨h1.1.trans a,by show(0:Int)≠90;decide,c,fun hh=>absurd rfl hh⟩
  .exact⟨h1.1.trans a,b,c,d⟩
 .rw[if_neg h0]
  exact⟨h1.1,h1.2,rfl,fun _=>⟨rfl,rfl⟩⟩
theorem jT (h:∀a∈l,0<=a.1) {k} (hk:k∈NY l):OE l k=true:=by
 have⟨r,hr,h1,h2⟩:=oY hk
 have:=h r hr
 exact dr.2 ⟨r,hr,a?,a?⟩
theorem mJ (h:Pl 0 l):∀a∈l,0<=a.1:=fun _ ha=>(h.mem ha).1
theorem xQ {f:Nat->Bool} {k:Nat} (h:OE (eh f) k=true):k<8192/\f k=true:=by
 obtain⟨m,h1,h2,h3⟩:=(rU f k).1 (dr.1 h)
 grind
theorem pE {a b k} (h:OE (Pr a b) k=true):OE a k=true/\OE b k=false/\k<8192:=by
 obtain⟨h1,h2⟩:=xQ h
 simp_all
theorem uc {l n k} (h:OE (Om l n) k=true):OE l k=true:=by
 obtain⟨_,h2⟩:=xQ h
 simp_all [A9]
theorem pI (l n):Pl 0 (Om l n):=dV _
theorem lC (a b):Pl 0 (Pr a b):=dV _
theorem rh {v:VS} {k:Nat} (h:OE (Oh v) k=true):2+v.s.journal<=(k:Int)/\(k:Int)<v.s.sectors/\OE (OK v.c) k=false/\OE v.s.runs k=false:=by
 obtain⟨h1,h2,h3⟩:=pE h
 rw[qQ,Bool.or_eq_false_iff]at h2
 obtain⟨r,hr,h4,h5⟩:=dr.1 h1
 grind
theorem pz (left l):∀j,j<=l.length->∀k,OE (Ob left l j).2 k=true->OE left k=true
 |0,_,k,h=>h
 |j+1,hj,k,h=>by
  rw[fI left l j a?]at h
  unfold jL at h
  split at h
  .exact pz left l j a? k (pE h).1
  .exact pz left l j a? k h
theorem pw (left l):∀j,j<=l.length->∀r∈(Ob left l j).1,Pl 0 r.runs/\∀k,OE r.runs k=true->OE left k=true
 |0,_,r,hr=>by simp[Ob]at hr
 |j+1,hj,r,hr=>by
  rw[fI left l j a?]at hr
  unfold jL at hr
  split at hr
  .rcases Na.1 hr with hr|hr
   .exact pw left l j a? r hr
   .obtain rfl:=Nm.1 hr
    exact⟨pI _ _,fun k hk=>pz left l j a? k (uc hk)⟩
  .rcases Na.1 hr with hr|hr
   .exact pw left l j a? r hr
   .obtain rfl:=Nm.1 hr
    exact⟨trivial,fun k hk=>by simp[VC.told,OE]at hk⟩
theorem gT (h:Pl 0 l):∀a∈l,aQ a:=fun a ha=>by
 have:=h.mem ha
 unfold aQ
 omega
theorem yv (left l j k) (h:k<=j) (hj:j<=l.length):(Ob left l j).1.take k=(Ob left l k).1:=by
 induction j with
 |zero=>
   obtain rfl:k=0:=a?
   rfl
 |succ j ih=>
  grind [gp,fI,jL]
theorem CE (left l k) (h:k<l.length) (h':k<(Ob left l l.length).1.length):(Ob left l l.length).1[k]=if Oj l[k].kind then⟨l[k].kind,l[k].id,l[k].name,l[k].bytes.length,Om (Ob left l k).2 (On l[k].bytes.length)⟩else l[k].told:=by
 have h1:=yv left l l.length (k+1) a? (MG _)
 have h2:=gp left l k a?
 rw[fI left l k h]at h1
 have h3:((Ob left l l.length).1.take (k+1))[k]? =some (Ob left l l.length).1[k]:=by
  rw[List.getElem?_take,if_pos a?,MZ h']
 rw[h1]at h3
 unfold jL at h3
 grind
def vO (nm:List UInt8):NS->Bool:=fun x=>x.name==nm
theorem DC {p:NS->Bool} {l x}:PI p l=(x,true)↔l.find? p=some x:=by
 unfold PI
 cases l.find? p with
 |none=>simp
 |some y=>simp
structure vQ (nm data:List UInt8) (v:VS):Prop where
 quiet:bk v.d
 dead:v.dead=false
 cat:OL v.c
 item:∃x,v.c.names.find? (vO nm)=some x/\N7 v.d x.runs x.size=0/\PV v.d x.runs x.size=data/\(∀a∈x.runs,0<=a.1)/\∀k∈NY x.runs,2<=k/\2+v.s.journal<=(k:Int)
theorem Bm {d'} (_:bk d) (k:QS P d d') (l n) (h0:N7 d l n=0) (hP:∀i∈NY l,P i):N7 d' l n=0/\PV d' l n=PV d l n:=by
 have hx:dO l d.stand.length n:=by
  apply NG
  intro hh
  unfold N7 at h0
  rw[if_neg hh]at h0
  cases h0
 have h1:N7 d' l n=0:=by
  unfold N7
  rw[k.len,if_pos hx,if_neg (by rw[k.quiet.down];simp)]
 refine⟨h1,?_⟩
 unfold PV
 rw[if_pos h1,if_pos h0,Dw (d:=d) (d':=d') (NY l) (fun a ha=>k.seen a (by have:=(hx.lt ha).1;omega) (hP a ha))]
theorem Bk (h:vQ nm data v) (id):sH v 3 id nm=(data,0,v):=by
 have⟨x,h1,h2,h3,_⟩:=h.item
 have e:lN v.c 3 id nm=(x,true):=by
  unfold lN
  rw[if_neg d?,if_neg d?]
  exact DC.2 h1
 unfold sH
 rw[if_neg (by rw[h.dead];simp),if_neg b?,e,if_neg b?]
 simp only[h2,h3]
 have⟨d,s,c,dead⟩:=v
 have hd:dead=false:=h.dead
 rw[hd]
 rfl
theorem Hb {r:VS×Int} (h:QV P v r) (hd:v.dead=false):(Qk r).1.dead=false/\QS P v.d (Qk r).1.d/\(Qk r).1.c=r.1.c/\(Qk r).1.s=r.1.s/\(Qk r).2=r.2:=by
 have⟨a,b,c,_⟩:=h
 refine⟨?_,a,rfl,rfl,rfl⟩
 show(r.1.dead||r.2==90)=false
 rw[c,hd]
 simpa using b
theorem tz {tx} (h:(bg c tx v).2=0):(bg c tx v).1.c=c/\(bg c tx v).1.s.journal=v.s.journal:=by
 unfold bg at h ⊢
 split
 .rename_i h1
  rw[if_pos h1]at h
  split
  .exact⟨rfl,rfl⟩
  .rename_i h2
   rw[if_neg h2]at h
   exact absurd h h2
 .rename_i h1
  rw[if_neg h1]at h
  exact absurd h h1
theorem Ap {t runs v} (h:(ir c t runs v).2=0):(ir c t runs v).1.c=c/\(ir c t runs v).1.s.journal=v.s.journal:=by
 unfold ir at h ⊢
 split
 .exact⟨rfl,rfl⟩
 .rename_i h2
  rw[if_neg h2]at h
  exact absurd h h2
theorem Ki {fs:List (DK->DK×Int)} {g:VS->VS×Int} {v:VS} {c:au} (hg:∀u:VS,u.s=v.s->(g u).2=0->(g u).1.c=c/\(g u).1.s.journal=u.s.journal) (h:(OH (fs.map aZ++[g]) v).2=0):(OH (fs.map aZ++[g]) v).1.c=c/\(OH (fs.map aZ++[g]) v).1.s.journal=v.s.journal:=by
 rw[kn]at h ⊢
 by_cases h0:(OH (fs.map aZ) v).2=0
 .rw[if_pos h0]at h ⊢
  rw[nU]at h h0 ⊢
  have e:OH [g] (aZ (aG fs) v).1=if(g (aZ (aG fs) v).1).2=0 then((g (aZ (aG fs) v).1).1,0)else g (aZ (aG fs) v).1:=rfl
  rw[e]at h ⊢
  by_cases h1:(g (aZ (aG fs) v).1).2=0
  .rw[if_pos h1]
   exact hg (aZ (aG fs) v).1 rfl h1
  .rw[if_neg h1]at h
   exact absurd h h1
 .rw[if_neg h0]at h
  exact absurd h h0
theorem EV (left l) (hn:∀x∈l,0<=x.id):∀r∈(Ob left l l.length).1,0<=r.id:=by
 intro r hr
 obtain⟨k,hk,rfl⟩:=Nr.1 hr
 have hk':k<l.length:=by rw[gp left l _ (MG _)]at hk;exact hk
 rw[CE left l k hk' hk]
 have:=hn l[k] (MJ hk')
 split<;>exact this
theorem Hr (h:bk d) (l s) (h0:(OQ d l s).2=0):N7 (OQ d l s).1 l s.length=0/\PV (OQ d l s).1 l s.length=s/\QS (fun k=>k∉NY l) d (OQ d l s).1:=by
 have hq:=(ns (P:=fun k=>k∉NY l) h l s (fun k hk=>hk)).1
 have hX:dO l d.stand.length s.length:=by
  apply NG
  intro hh
  unfold OQ at h0
  rw[if_neg hh]at h0
  cases h0
 have NV:∀a∈NY l,a<d.stand.length:=fun a ha=>by have:=(hX.lt ha).1;omega
 have⟨d',e1,e2,e3,e4,e5,eo,ew,e6,e7⟩:=CA (NY l) d s h.fit h.down h.fuse NV (mo hX.2.2.1)
 have Q0:OQ d l s=(d',0):=by
  unfold OQ
  rw[if_pos hX,if_neg a!,e1]
 rw[Q0]at hq ⊢
 have U0:N7 d' l s.length=0:=by
  unfold N7
  rw[e2,if_pos hX,if_neg (by rw[e3];simp)]
 refine⟨U0,?_,hq⟩
 unfold PV
 rw[if_pos U0,Nw,yM (NY l) d' s (fun i h=>e7 i h)]
 refine xM _ _ ?_
 have:((NY l).length:Int)=On (s.length:Int):=hX.wC
 unfold On at this
 split at this<;>omega
theorem vh {R:List (Int×Int)} (hq:bk v.d) (hd:v.dead=false) (hR:Pl 0 R) (hRm:∀k,OE R k=true->OE (Oh v) k=true) (hj:1<=v.s.journal) {c:au} (PT:OL c) {x:NS} (hx:c.names.find? (vO nm)=some x) (hxr:x.runs=R) (hxs:x.size=data.length)
  (fs:List (DK->DK×Int)) (g:VS->VS×Int)
  (hf:(∀f∈fs,∀d,bk d->QR (fun k=>k∈NY R) d (f d))/\(∀u:VS,u.s=v.s->bk u.d->QV (fun k=>k∈NY R) u (g u)))
  (hg:∀u:VS,u.s=v.s->(g u).2=0->(g u).1.c=c/\(g u).1.s.journal=u.s.journal)
  (h0:(Qk (OH (aZ (fun d=>OQ d R data)::(fs.map aZ++[g])) v)).2=0):
  vQ nm data (Qk (OH (aZ (fun d=>OQ d R data)::(fs.map aZ++[g])) v)).1:=by
 have e:OH (aZ (fun d=>OQ d R data)::(fs.map aZ++[g])) v=if(aZ (fun d=>OQ d R data) v).2=0 then OH (fs.map aZ++[g]) (aZ (fun d=>OQ d R data) v).1 else aZ (fun d=>OQ d R data) v:=rfl
 rw[e]at h0 ⊢
 by_cases h1:(aZ (fun d=>OQ d R data) v).2=0
 .rw[if_pos h1]at h0 ⊢
  have⟨p1,p2,p3⟩:=Hr hq R data h1
  have hu:bk (aZ (fun d=>OQ d R data) v).1.d:=p3.quiet
  have hqa:=Cu fs g (aZ (fun d=>OQ d R data) v).1 hf.1 (fun u u1 u2 u3 u4=>hf.2 u u1 u4) hu
  have⟨t1,t2,t3,t4,t5⟩:=Hb hqa (by exact hd)
  obtain⟨e1,e2⟩:=Ki (v:=(aZ (fun d=>OQ d R data) v).1) hg (by rw[<-t5];exact h0)
  have⟨g1,g2⟩:=Bm hu t2 R data.length p1 (fun i hi=>hi)
  refine⟨t2.quiet,t1,by rw[t3,e1];exact PT,x,by rw[t3,e1];exact hx,by rw[hxr,hxs];exact g1,by rw[hxr,hxs];exact g2.trans p2,by rw[hxr];exact mJ hR,fun k hk=>?_⟩
  rw[hxr]at hk
  have h2:=(rh (hRm k (jT (mJ hR) hk))).1
  rw[t4,e2]
  show 2<=k/\2+v.s.journal<=(k:Int)
  omega
 .rw[if_neg h1]at h0
  exact absurd h0 h1
open Classical in
theorem yL (hq:bk v.d) (hd:v.dead=false) (hc:v.c=cf) (hj:1<=v.s.journal) (h0:(eX v [⟨3,0,nm,data⟩]).2=0):vQ nm data (eX v [⟨3,0,nm,data⟩]).1:=by
 have hp:Ob (Oh v) [⟨3,0,nm,data⟩] 1=([⟨3,0,nm,data.length,Om (Oh v) (On data.length)⟩],Pr (Oh v) (Om (Oh v) (On data.length))):=rfl
 unfold eX at h0 ⊢
 rw[show([⟨3,0,nm,data⟩]:List VC).length=1 from rfl,hp]at h0 ⊢
 simp only at h0 ⊢
 generalize hR:Om (Oh v) (On data.length)=R at*
 have hRp:Pl 0 R:=by rw[<-hR];exact pI _ _
 have hRm:∀k,OE R k=true->OE (Oh v) k=true:=fun k hk=>by rw[<-hR]at hk;exact uc hk
 rw[if_neg ai!]at h0 ⊢
 by_cases c1:P5 v.c [⟨3,0,nm,data⟩]≠0
 .rw[if_pos c1]at h0
  exact absurd h0 c1
 .rw[if_neg c1]at h0 ⊢
  by_cases c2:¬gW (Oh v) [⟨3,0,nm,data⟩]
  .rw[if_pos c2]at h0;cases h0
  .rw[if_neg c2]at h0 ⊢
   by_cases c3:(N8 v.c [⟨3,0,nm,data.length,R⟩]).2≠0
   .rw[if_pos c3]at h0
    exact absurd h0 c3
   .rw[if_neg c3]at h0 ⊢
    have c3:(N8 v.c [⟨3,0,nm,data.length,R⟩]).2=0:=by simpa using c3
    by_cases c4:cX [⟨3,0,nm,data.length,R⟩]≠0
    .rw[if_pos c4]at h0
     exact absurd h0 c4
    .rw[if_neg c4]at h0 ⊢
     have Pz:OL v.c:=by
      apply NG
      intro hh
      unfold N8 at c3
      rw[if_neg hh]at c3
      cases c3
     have Qf:N8 v.c [⟨3,0,nm,data.length,R⟩]=cH v.c [⟨3,0,nm,data.length,R⟩]:=by unfold N8;rw[if_pos Pz]
     have PT:OL (N8 v.c [⟨3,0,nm,data.length,R⟩]).1:=by
      rw[Qf]at c3 ⊢
      exact wL Pz (fun r hr=>by obtain rfl:=Nm.1 hr;exact Int.le_refl _) c3
     have aaI:(N8 v.c [⟨3,0,nm,data.length,R⟩]).1.names.find? (vO nm)=some ⟨0,nm,data.length,R⟩:=by
      rw[Qf,hc]at c3 ⊢
      unfold cH at c3 ⊢
      by_cases m1:az ⟨3,0,nm,data.length,R⟩=true
      .rw[if_pos m1]at c3 ⊢
       by_cases m2:(aW cf ⟨3,0,nm,data.length,R⟩).2=0
       .rw[if_pos m2]
        show(Oc [] (ag.item ⟨3,0,nm,data.length,R⟩) 0 256 false).1.find? _=_
        unfold Oc
        rw[if_neg b?,if_neg (by
         rintro(hh|hh)
         .have⟨y,hy,_⟩:=SO.1 hh
          cases hy
         .exact absurd hh (by show ¬(0:Int)<0;decide)),if_neg b?]
        unfold Qm
        simp[vO,ag.item]
       .rw[if_neg m2]at c3;exact absurd c3 m2
      .rw[if_neg m1]at c3;cases c3
     generalize N8 v.c [⟨3,0,nm,data.length,R⟩]=AP at*
     generalize Pv [⟨3,0,nm,data.length,R⟩]=TX at*
     have Wn:gP [⟨3,0,nm,data⟩] [⟨3,0,nm,data.length,R⟩]=[aZ (fun d=>OQ d R data)]:=rfl
     rw[Wn]at h0 ⊢
     by_cases c5:(TX.length:Int)<=v.s.journal*128-v.s.used
     .rw[if_pos c5]at h0 ⊢
      have e:[aZ (fun d=>OQ d R data)]++[aZ aA,bg AP.1 TX]=aZ (fun d=>OQ d R data)::([aA].map aZ++[bg AP.1 TX]):=rfl
      rw[e]at h0 ⊢
      refine vh hq hd hRp hRm hj PT aaI rfl rfl [aA] _ ⟨fun f hf d hd=>?_,fun u u1 hu=>?_⟩ (fun u u1 h0=>tz h0) h0
      .obtain rfl:=Nm.1 hf
       exact fH hd
      .refine vJ _ _ u (fun k hk=>?_) hu
       have h2:=(rh (hRm k (jT (mJ hRp) hk))).1
       rw[u1]
       omega
     .rw[if_neg c5]at h0 ⊢
      by_cases c6:(cY AP.1).2≠0
      .rw[if_pos c6]at h0
       exact absurd h0 c6
      .rw[if_neg c6]at h0 ⊢
       by_cases c7:OT (Pr (Oh v) R) (On (cY AP.1).1.length)≠0
       .rw[if_pos c7]at h0;cases h0
       .rw[if_neg c7]at h0 ⊢
        have e:[aZ (fun d=>OQ d R data)]++[ir AP.1 (cY AP.1).1 (Om (Pr (Oh v) R) (On (cY AP.1).1.length))]=aZ (fun d=>OQ d R data)::(([]:List (DK->DK×Int)).map aZ++[ir AP.1 (cY AP.1).1 (Om (Pr (Oh v) R) (On (cY AP.1).1.length))]):=rfl
        rw[e]at h0 ⊢
        refine vh hq hd hRp hRm hj PT aaI rfl rfl [] _ ⟨fun f hf=>by simp at hf,fun u u1 hu=>?_⟩ (fun u u1 h0=>Ap h0) h0
        refine vI _ _ _ u (fun k hk=>?_) hu
        have h2:=(rh (hRm k (jT (mJ hRp) hk))).1
        refine⟨a?,fun hm=>?_⟩
        have h3:=(pE (uc (jT (mJ (pI _ _)) hm))).2.1
        rw[jT (mJ hRp) hk]at h3
        cases h3
theorem aK.reader {l} (h:aK w b l x):∃cs,ae w b cs 263:=by
 have⟨S,a,h1,_⟩:=h;exact⟨_,h1⟩
theorem aK.small {l} (h:aK w b l x):l.length<=1000000:=by
 obtain⟨S,a,_,_,h2,rfl,_⟩:=h
 rw[MQ];omega
theorem aK.grown {l} (h:aK w b l x) (hr:w.ownsRow base e size v10 n xs) (hg:w.grownBy w5 v10.ownBlock) (h1:e≠263):aK w5 b l x:=by
 have⟨S,a,o,h2⟩:=h
 exact⟨S,a,bW hr hg o h1,h2⟩
theorem aE.grown {w0 u rs} (h:aE w0 w u rs) (hr:w.ownsRow base e size v10 n xs) (hg:w.grownBy w5 v10.ownBlock) (h1:e≠128):aE w0 w5 u rs:=
 dG h (fun g cs _ hc=>hg.block g (NK hc) (fun e'=>aB hr (show ae w g cs 128 from hc) h1 e'.symm))
theorem KV (b l x w) (hR:aK w b l x):
  am! 202 #[b,(1:Int)] w fun r w'=>r=.returned (.int .u64 (N6 1 l x).1)/\aK w' b (N6 1 l x).2.1 (N6 1 l x).2.2/\NP [b] w w':=sD b 1 l x w hR a?
theorem vN (b l x w) (hR:aK w b l x):
  am! 202 #[b,(2:Int)] w fun r w'=>r=.returned (.int .u64 (N6 2 l x).1)/\aK w' b (N6 2 l x).2.1 (N6 2 l x).2.2/\NP [b] w w':=sD b 2 l x w hR a?
theorem qk (b l x w) (hR:aK w b l x):
  am! 202 #[b,(4:Int)] w fun r w'=>r=.returned (.int .u64 (N6 4 l x).1)/\aK w' b (N6 4 l x).2.1 (N6 4 l x).2.2/\NP [b] w w':=sD b 4 l x w hR a?
def pZ (b:Nat) (l:List UInt8) (x:Int) (w:World) (e:Ending) (w':World):Prop:=
 ∃m v,e=.returned v/\m<=(N6 2 l x).1/\aE w w' v (Od m (N6 2 l x).2.1 (N6 2 l x).2.2).1/\aK w' b (Od m (N6 2 l x).2.1 (N6 2 l x).2.2).2.1 (Od m (N6 2 l x).2.1 (N6 2 l x).2.2).2.2/\((Od m (N6 2 l x).2.1 (N6 2 l x).2.2).2.2=0->m=(N6 2 l x).1)/\NP [b] w w'
theorem Cw (b l x w) (hR:aK w b l x):
  am! 286 #[b] w (pZ b l x w):=by
 have VG:=hR.lt
 have hu:=vN b l x w hR
 have hn:=cp 2 l x
 have⟨HN,HU⟩:=f? hn hu
 unfold pZ
 clear hn hu
 generalize N6 2 l x=N at*
 have⟨n,l1,x1⟩:=N
 simp only at*
 go_enter func286,ntmps286
 go_wp2_with fail
 refine HU.out.mono ?_;rintro e w1 ⟨rfl,hR1,OP⟩
 have hln:(n:Int)<65536:=by have:=HN.out;omega
 generalize QT:(n:Int)=nn at*
 have⟨Uf,VP⟩:=f? QT hR1
 clear QT hR1 HU hR
 go_wp2_with fail
 go_loopw [4,5,6] (fun v4 i v6 wr=>∃j:Nat,j<=n/\i=.int .u64 j/\aE w wr v4 (Od j l1 x1).1/\aK wr b (Od j l1 x1).2.1 (Od j l1 x1).2.2/\NP [b] w wr) (fun _ i _ _=>n-(intOf i).toNat)
 case atStart=>exact⟨0,a?,rfl,Nf _ _ _ _,VP.out,OP⟩
 case round=>
  obtain⟨j,hj,rfl,NU,hR,hK⟩:=hrel
  have V5:=ah NU
  rw[ga]at V5
  obtain⟨p4,c4,rfl⟩:=V5
  have TA:Od (j+1) l1 x1=((Od j l1 x1).1++[(((N6 2 (Od j l1 x1).2.1 (Od j l1 x1).2.2).1:Int),((N6 2 (N6 2 (Od j l1 x1).2.1 (Od j l1 x1).2.2).2.1 (N6 2 (Od j l1 x1).2.1 (Od j l1 x1).2.2).2.2).1:Int))],
        (N6 2 (N6 2 (Od j l1 x1).2.1 (Od j l1 x1).2.2).2.1 (N6 2 (Od j l1 x1).2.1 (Od j l1 x1).2.2).2.2).2):=rfl
  have hlen:=ga j l1 x1
  have hjb:j<=65536:=by have:=HN.out;omega
  generalize hRR:Od j l1 x1=RR at*
  have Uc:=tK hRR
  clear hRR
  by_cases NV:j<n
  .have i1:(j:Int)<nn:=x?
   have hce:=hR.err
   by_cases hx:RR.2.2=0
   .rw[hx]at hce
    have hu:=vN b RR.2.1 RR.2.2 wr hR
    have bu:((N6 2 RR.2.1 RR.2.2).1:Int)<65536:=by have:=cp 2 RR.2.1 RR.2.2;omega
    generalize N6 2 RR.2.1 RR.2.2=U1 at*
    have hv:=fun W (h:aK W b U1.2.1 U1.2.2)=>vN b U1.2.1 U1.2.2 W h
    have bv:((N6 2 U1.2.1 U1.2.2).1:Int)<65536:=by have:=cp 2 U1.2.1 U1.2.2;omega
    generalize N6 2 U1.2.1 U1.2.2=U2 at*
    have ewu:IntKind.i64.wrap (U1.1:Int)=(U1.1:Int):=IntWalk.i64_in _ a?
    have ewv:IntKind.i64.wrap (U2.1:Int)=(U2.1:Int):=IntWalk.i64_in _ a?
    have⟨i0,q0,q1,q2,q3⟩:=eV
    have⟨RA,OZ,HU,HV,Pm,TC,Of⟩:=gk! TA hlen hu hv NU hR NV
    have Sr:w.heap.size<=wr.heap.size:=hK.size
    have r3:j+1<=maxLen:=m?
    have r4:(j+1)*16<=140737488355328:=a?
    clear TA hlen hu hv NU hR hx NV hj hjb
    go_wp2_with fail
    refine HU.out.mono ?_;rintro e w3 ⟨rfl,Q4,P6⟩
    have hv3:=HV.out _ Q4
    have HV3:=tK hv3
    clear Q4 HV hv3 HU
    go_wp2_with fail
    refine HV3.out.mono ?_;rintro e w4 ⟨rfl,So,Qo⟩
    have adf:=P6.trans Qo
    have Vl:w4.ownsRow w 128 2 (p4,j,c4) j (NW RR.1):=by
     have:=Pm.out.aS adf (fun y hy=>Or.inl (by
       have:y=b:=N!
       omega))
     unfold aE at this
     rw[OZ.out]at this
     exact this
    have⟨W8,Z0⟩:=f? Vl So
    have X6:NP [b] w w4:=hK.trans adf
    have Yd:w.heap.size<=w4.heap.size:=X6.size
    clear P6 Qo Vl So HV3
    go_wp2_with (at_builtin;go_must (refine MT _ rfl (.tmp 24) (.tmp 30) 56 rfl w 128 i0 (.agg #[(0:Int),(0:Int)]) 2 16 underlying56 q0 q1 q2 q3 rfl d? _ _ _ rfl (MH W8.out _) w4 1 1 [.int .i64 (U1.1:Int),.int .i64 (U2.1:Int)] rfl rfl ?_ ?_ r3 r4 ?_ ?_))
    .exact World.news_of_block (Ns w4 _)
    .intro u hu;simp at hu;rcases hu with rfl|rfl<;>rfl
    .simp;omega
    intro v6 w6 o6 Po _ _
    have TB:=MH W8.out (.cells #[(U1.1:Int),(U2.1:Int)] 128)
    have hR6:aK w6 b U2.2.1 U2.2.2:=(Z0.out.kept ((NP.refl [] w4).alloc _) b?).grown TB Po d?
    have Q7:NP [b] w w6:=(X6.alloc _).grown Po (fun i hi=>Or.inr (ML TB i hi).1)
    have ho6:aE w w6 v6 (RR.1++[((U1.1:Int),(U2.1:Int))]):=by
     unfold aE
     rw[bP,tN,Nq,OZ.out]
     exact o6
    have⟨Vn,Zz⟩:=f? ho6 hR6
    clear Po o6 TB hR6 ho6
    have hjs:IntKind.u64.wrap ((j:Int)+1)=((j+1:Nat):Int):=by have:=bC (j+1) (by have:=Of.out;have:=HN.out;omega);simpa using this
    go_wp2_with fail
    go_roundw
    case rel=>exact⟨j+1,Of.out,G?,by rw[RA.out];exact Vn.out,by rw[RA.out];exact Zz.out,Q7⟩
    case measure=>(have hh:=Of.out;simp[intOf];omega)
   .have Wr:(RR.2.2==0)=false:=h?
    have⟨Pm,TC,HX⟩:=gg! NU hR hx
    clear TA hlen NU hR hx NV hjb
    go_wp2_with fail
    go_ret
    exact⟨j,_,rfl,hj,by rw[Uc.out];exact Pm.out,by rw[Uc.out];exact TC.out,fun h=>absurd (by rw[Uc.out]at h;exact h) HX.out,hK⟩
  .obtain rfl:j=n:=a?
   have i1:¬((j:Int)<nn):=x?
   have⟨Pm,TC⟩:=f? NU hR
   clear TA hlen NU hR NV hjb
   go_wp2_with fail
   go_ret
   exact⟨j,_,rfl,hj,by rw[Uc.out];exact Pm.out,by rw[Uc.out];exact TC.out,fun _=>rfl,hK⟩
structure jE (w wx:World) (b ob xb:Nat) (k:Int) (i:Nat) (t:List UInt8) (z:Nat) (v:Value) (rs:List (Int×Int)) (l:List UInt8) (x:Int):Prop where
 rd:aK wx b l x
 out:ae wx ob #[(0:Int),.int .u32 0,.string {data:=#[]},(0:Int),()] 102
 rcd:ae wx xb #[k,(i,()),t,(z:Int),v] 102
 row:aE w wx v rs
 kept:NP [b] w wx
 hb:b<w.heap.size
 hob:w.heap.size<=ob
 hxb:w.heap.size<=xb
 n3:ob≠xb
section
variable {w wx wy:World} {b ob xb:Nat} {k:Int} {i:Nat} {t:List UInt8} {z:Nat} {v:Value} {rs:List (Int×Int)} {l l':List UInt8} {x x':Int}
theorem jE.read (h:jE w wx b ob xb k i t z v rs l x) (hR:aK wy b l' x') (kk:NP [b] wx wy):jE w wy b ob xb k i t z v rs l' x' where
 rd:=hR
 out:=kk.own h.out (by have:=h.hb;have:=h.hob;simp;omega)
 rcd:=kk.own h.rcd (by have:=h.hb;have:=h.hxb;simp;omega)
 row:=ax h.row kk (by have:=h.hb;simp;omega)
 kept:=h.kept.call kk b?
 hb:=h.hb
 hob:=h.hob
 hxb:=h.hxb
 n3:=h.n3
theorem jE.set (h:jE w wx b ob xb k i t z v rs l x) (j:Nat) (u) (k':Int) (i':Nat) (t') (z':Nat) (e:(#[.int .i64 k,.int .u32 i,.string (bs t),.int .i64 z,v]:Array Value).setIfInBounds j u=#[.int .i64 k',.int .u32 i',.string (bs t'),.int .i64 z',v]):
  jE w (wx.setCell (aa xb j) u) b ob xb k' i' t' z' v rs l x where
 rd:=h.rd.other (p:=(aa xb j)) I? u
 out:=h.out.other (p:=(aa xb j)) h.n3 u
 rcd:=by rw[<-e];exact h.rcd.set j u
 row:=bT h.row (p:=(aa xb j)) (aB h.row h.rcd d?) u
 kept:=h.kept.setCell (p:=(aa xb j)) (Or.inr h.hxb) u
 hb:=h.hb
 hob:=h.hob
 hxb:=h.hxb
 n3:=h.n3
theorem jE.fU (h:jE w wx b ob xb k i t z v rs l x) {v' rs'} (hr:aE w wx v' rs'):
  jE w (wx.setCell (aa xb 4) v') b ob xb k i t z v' rs' l x where
 rd:=h.rd.other (p:=(aa xb 4)) I? v'
 out:=h.out.other (p:=(aa xb 4)) h.n3 v'
 rcd:=h.rcd.set 4 v'
 row:=bT hr (p:=(aa xb 4)) (aB hr h.rcd d?) v'
 kept:=h.kept.setCell (p:=(aa xb 4)) (Or.inr h.hxb) v'
 hb:=h.hb
 hob:=h.hob
 hxb:=h.hxb
 n3:=h.n3
end
def zY (b:Nat) (l:List UInt8) (w:World) (e:Ending) (w':World):Prop:=
 ∃m v,e=.returned (.agg ((Ps m l).1.cells v))/\m<=(nR l).1/\aE w w' v (Ps m l).1.runs/\aK w' b (Ps m l).2.1 (Ps m l).2.2/\((Ps m l).2.2=0->m=(nR l).1)/\NP [b] w w'
theorem Mg (b l w) (hR:aK w b l 0):
  am! 251 #[b] w (zY b l w):=by
 have VG:=hR.lt
 have o1:=ae.new w #[(0:Int),.int .u32 0,.string {data:=#[]},(0:Int),()] 102
 have k0:=(NP.refl [b] w).alloc (.cells #[(0:Int),.int .u32 0,.string {data:=#[]},(0:Int),()] 102)
 have UM:=hR.kept ((NP.refl [] w).alloc (.cells #[(0:Int),.int .u32 0,.string {data:=#[]},(0:Int),()] 102)) b?
 have hkd:((PP l).1:Int)<256:=by have:(PP l).1<256:=cp 1 l 0;omega
 have hku:IntKind.i64.wrap ((PP l).1:Int)=((PP l).1:Int):=IntWalk.i64_in _ a?
 have h8:am! 202 #[b,(1:Int)] _ fun r w'=>r=.returned (.int .u64 (PP l).1)/\aK w' b (PP l).2.1 (PP l).2.2/\NP [b] _ w':=KV b l 0 _ UM
 have hjh:=fun W=>pq ((PP l).1:Int) W
 have eI:iR l=if S4 ((PP l).1:Int)then N6 4 (PP l).2.1 (PP l).2.2 else(0,(PP l).2.1,(PP l).2.2):=rfl
 have eT:tR l=if Px ((PP l).1:Int)then dY (iR l).2.1 (iR l).2.2 else([],(iR l).2.1,(iR l).2.2):=rfl
 have eZ:zR l=if Oj ((PP l).1:Int)then N6 4 (tR l).2.1 (tR l).2.2 else(0,(tR l).2.1,(tR l).2.2):=rfl
 have eN:nR l=if Oj ((PP l).1:Int)then N6 2 (zR l).2.1 (zR l).2.2 else(0,(zR l).2.1,(zR l).2.2):=rfl
 have bi:((iR l).1:Int)<4294967296:=by
  have hh:=xH ((PP l).1:Int) (PP l).2.1 (PP l).2.2
  have:=eG hh
  have e:iR l=qP ((PP l).1:Int) (PP l).2.1 (PP l).2.2:=rfl
  rw[e];omega
 have bz:((zR l).1:Int)<4294967296:=B?
 have Pp:∀m,Ps m l=(⟨((PP l).1:Int),((iR l).1:Int),(tR l).1,((zR l).1:Int),(Od m (nR l).2.1 (nR l).2.2).1⟩,(Od m (nR l).2.1 (nR l).2.2).2):=fun m=>rfl
 have⟨H8,HJ,EI,ET,EZ,EN,ONE⟩:=gk! h8 hjh eI eT eZ eN Pp
 clear h8 UM hjh eI eT eZ eN Pp hR
 unfold zY
 generalize PP l=KD at*
 generalize iR l=IR at*
 generalize tR l=TR at*
 generalize zR l=ZR at*
 generalize nR l=NR at*
 go_enter func251,ntmps251
 go_wp2_with fail
 refine H8.out.mono ?_;rintro e w1 ⟨rfl,hR1,Sd⟩
 have Oo:jE w (w1.alloc (.cells #[(KD.1:Int),.int .u32 0,.string {data:=#[]},(0:Int),()] 102)) b w w1 (KD.1:Int) 0 [] 0 () [] KD.2.1 KD.2.2:=by
  have p1:=Sd.own o1 e?
  have l1:=p1.lt
  exact⟨hR1.kept ((NP.refl [] w1).alloc _) b?,p1.alloc _,ae.new _ _ _,Nf _ _ _ _,(k0.trans Sd).alloc _,VG,MG _,a?,a?⟩
 have OY:=tK Oo
 have⟨a0,a1,a2,a3,a4⟩:=Oo.rcd.c5
 clear Oo Sd hR1 k0 o1 H8
 have⟨kd,l1,x1⟩:=KD
 simp only at*
 go_wp2_with fail
 refine(HJ.out _).mono ?_;rintro e w' ⟨rfl,rfl⟩
 clear HJ
 generalize S4 (kd:Int)=I at*
 generalize Px (kd:Int)=N at*
 generalize Oj (kd:Int)=B at*
 go_upto_if 18 with fail
 go_cut [18] (fun v18 wx=>jE w wx b w w1 (kd:Int) IR.1 [] 0 () [] IR.2.1 IR.2.2)
 case first=>
  cases I
  .have e:=EI.out
   exact M58
  .have e:=EI.out
   rw[if_pos rfl]at e
   have hu:=qk b l1 x1 _ OY.out.rd
   rw[<-e]at hu
   have HU:=tK hu
   have ew:IntKind.u32.wrap (IR.1:Int)=(IR.1:Int):=rK IR.1 a?
   clear hu e
   go_wp2_with fail
   refine HU.out.mono ?_;rintro e w2 ⟨rfl,Qn,kk2⟩
   have QG:=OY.out.read Qn kk2
   have Tb:=QG.set 1 (IR.1,()) kd IR.1 [] 0 rfl
   have z1:=QG.rcd.free 1
   exact M44
 case rest=>
  clear OY EI a0 a1 a2 a3 a4
  generalize w1.heap.size=xb at*
  have⟨a0,a1,a2,a3,a4⟩:=hcut.rcd.c5
  have OY:=tK hcut
  clear hcut
  go_upto_if 23 with fail
  go_cut [23] (fun v23 wx=>jE w wx b w xb (kd:Int) IR.1 TR.1 0 () [] TR.2.1 TR.2.2)
  case first=>
   cases N
   .have e:=ET.out
    exact M58
   .have e:=ET.out
    rw[if_pos rfl]at e
    have hu:=Jj b IR.2.1 IR.2.2 _ OY.out.rd
    rw[<-e]at hu
    have HU:=tK hu
    clear hu e
    go_wp2_with fail
    refine HU.out.mono ?_;rintro e w2 ⟨rfl,Qn,kk2⟩
    have QG:=OY.out.read Qn kk2
    have Tb:=QG.set 2 TR.1 kd IR.1 TR.1 0 rfl
    have z1:=QG.rcd.free 2
    exact M44
  case rest=>
   clear OY ET a0 a1 a2 a3 a4
   have⟨a0,a1,a2,a3,a4⟩:=hcut.rcd.c5
   have OY:=tK hcut
   clear hcut
   go_upto_if 27 with fail
   go_cut [27] (fun v27 wx=>∃m v,jE w wx b w xb (kd:Int) IR.1 TR.1 ZR.1 v (Od m NR.2.1 NR.2.2).1 (Od m NR.2.1 NR.2.2).2.1 (Od m NR.2.1 NR.2.2).2.2/\m<=NR.1/\((Od m NR.2.1 NR.2.2).2.2=0->m=NR.1))
   case first=>
    cases B
    .have e1:=EZ.out
     have e2:=EN.out
     rw[if_neg d?]at e1 e2
     have hh:=OY.out
     have hm0:0=NR.1:=by rw[e2]
     go_wp2_with fail
     go_meet
     refine⟨0,(),?_,Nb _,fun _=>hm0⟩
     rw[e2,e1]
     exact hh
    .have e1:=EZ.out
     have e2:=EN.out
     rw[if_pos rfl]at e1 e2
     have hu:=qk b TR.2.1 TR.2.2 _ OY.out.rd
     rw[<-e1]at hu
     have hv:=fun W (h:aK W b ZR.2.1 ZR.2.2)=>Cw b ZR.2.1 ZR.2.2 W h
     unfold pZ at hv
     rw[<-e2]at hv
     have⟨HU,HV⟩:=f? hu hv
     have ew:IntKind.i64.wrap (ZR.1:Int)=(ZR.1:Int):=IntWalk.i64_in _ a?
     clear hu hv e1 e2
     go_wp2_with fail
     refine HU.out.mono ?_;rintro e w2 ⟨rfl,Qn,kk2⟩
     have QG:=OY.out.read Qn kk2
     have Tb:=QG.set 3 (ZR.1:Int) kd IR.1 TR.1 ZR.1 rfl
     have z1:=QG.rcd.free 3
     have⟨b0,b1,b2,b3,b4⟩:=QG.rcd.c5
     have Ve:=HV.out _ Tb.rd
     have⟨HV1,Ut⟩:=f? Ve Tb
     clear Tb QG Qn kk2 Ve HU HV
     go_wp2_with fail
     refine HV1.out.mono ?_;rintro e w3 ⟨m,v,rfl,hm,NU,Q4,QL,Ti⟩
     have Vx:=Ut.out.read Q4 Ti
     have hs5:=Vx.fU (NU.base Ut.out.kept.size)
     have⟨HS5,HM,Ul⟩:=gg! hs5 hm QL
     have z4:=Vx.rcd.free 4
     obtain⟨p,c,rfl⟩:=ah NU
     clear b0 b1 b2 b3 b4
     have⟨b0,b1,b2,b3,b4⟩:=Vx.rcd.c5
     clear Vx hs5 Ti Q4 HV1 Ut hm QL NU z1 a0 a1 a2 a3 a4 OY
     go_wp2_with fail
     go_meet
     exact⟨m,_,HS5.out,HM.out,Ul.out⟩
   case rest=>
    have⟨m,v,Oo,hm,QL⟩:=hcut
    clear OY a0 a1 a2 a3 a4 EZ EN
    have Pp:=ONE.out m
    generalize Od m NR.2.1 NR.2.2=RR at*
    have V5:=ah Oo.row
    obtain⟨pv,cv,rfl⟩:=V5
    have⟨a0,a1,a2,a3,a4⟩:=Oo.rcd.c5
    have⟨o0,o1,o2,o3,o4⟩:=Oo.out.c5
    have z0:=Oo.out.z5
    have n3:=Oo.n3
    have hhb:=Oo.hb
    have⟨Y2,Qt,HM,Ul⟩:=gh! Oo Pp hm QL
    clear Oo Pp ONE hm QL
    go_wp2_with fail
    have ks:=(NP.refl [w.heap.size] wc).lj (b:=w.heap.size) (Or.inl b?) (kd:Int) (.int .u32 (IR.1:Int)) TR.1 (ZR.1:Int) (pv,RR.1.length,cv)
    refine MN (v:=.agg #[(kd:Int),.int .u32 (IR.1:Int),TR.1,(ZR.1:Int),(pv,RR.1.length,cv)]) ?_ ?_ ?_
    .exact iu results251 rfl (Y2.out.out.lj _ _ _ _ _) underlying102 rfl c?
    .rfl
    .refine⟨m,(pv,RR.1.length,cv),by rw[Qt.out];rfl,HM.out,?_,?_,?_,Y2.out.kept.call ks (fun y hy=>Or.inr (Nat.le_of_eq (Nm.1 hy).symm))⟩
     .rw[Qt.out];exact bI Y2.out.row ks Y2.out.out d?
     .rw[Qt.out];exact Y2.out.rd.kept ks e?
     .rw[Qt.out];exact Ul.out
theorem iz {A b} (c) (h:b=c) (k:am! n A w (qd c w)):am! n A w (qd b w):=h▸k
theorem jA (h:A:=by
 go_enter func252,ntmps252
 go_wp2_with fail
 refine(HH.out _).mono ?_;rintro e w' ⟨rfl,rfl⟩
 go_wp2_with fail
 go_ret
 exact⟨rfl,k0⟩):A:=h
theorem xB (h:A:=by
 refine iz false T! ?_
 exact jA):A:=h
theorem Il {A:Prop} (h:A:=by
 rcases(by omega:size=0\/size≠0)with z1|z1
 .subst z1
  rcases List.eq_nil_or_concat runs with e1|⟨ri,rq,e1⟩
  .subst e1
   refine iz true (by unfold gq;simp[*,rC]) ?_
   exact jA
  .have e2:1<=runs.length:=by rw[e1];simp
   have e3:(0:Int)<runs.length:=a?
   have e4:runs.isEmpty=false:=by rw[e1];simp
   have e5:((runs.length:Int)==0)=false:=y?
   clear e1
   exact xB
 .have z2:(size==0)=false:=by simpa using z1
  have z3:(size != 0)=true:=by simpa using z1
  exact xB):A:=h
theorem Ik {A:Prop} (h:A:=by
 rcases(by omega:size<0\/(0<=size/\1048576<size)\/(0<=size/\size<=1048576/\16<runs.length)\/(0<=size/\size<=1048576/\runs.length<=16))with b1|⟨b1,b2⟩|⟨b1,b2,b3⟩|⟨b1,b2,b3⟩
 .have b4:¬0<=size:=a?
  refine iz false (by unfold iD;simp[b4]) ?_
  exact jA
 .have b4:¬size<=1048576:=a?
  refine iz false (by unfold iD;simp[b4]) ?_
  exact jA
 .have b4:¬runs.length<=16:=a?
  have b5:(16:Int)<runs.length:=a?
  refine iz false (by unfold iD;simp[b4]) ?_
  exact jA
 have b5:(runs.length:Int)<=16:=a?
 have hr:=fun W (kk:NP [] w W)=>Gy _ runs lo hi 0 8192 W (h.kept0 kk) hl a? a? a? a?
 unfold nZ at hr
 cases hL:lies 0 8192 runs
 .refine iz false (by unfold iD;simp[hL]) ?_
  rw[hL,Bool.false_and]at hr
  have HR:=tK hr
  clear hr hL
  go_enter func252,ntmps252
  go_wp2_with fail
  refine(HH.out _).mono ?_;rintro e w' ⟨rfl,rfl⟩
  go_wp2_with fail
  have kk:=k0.drew
  have ob:=o0.drew
  have⟨c0,c1,c2,c3,c4⟩:=ob.c5
  refine MK (S:=(fun W=>W.cell? ⟨w.heap.size,3,none⟩=some (.int .i64 size)/\W.cell? ⟨w.heap.size,4,none⟩=some (.slice p runs.length c))) c? (by go_keep) (fun hHeld=>?_)
  refine tS ?_
  refine rD 2 (fun K hK=>?_)
  go_simp
  ((with_reducible refine(HR.out _ kk).mono ?_));rintro e w1 ⟨rfl,k1⟩
  have kk:=kk.trans k1
  have ob:=k1.own ob b?
  have⟨d0,d1,d2,d3,d4⟩:=ob.c5
  go_wp2_with fail
  refine hK.out _ _ ?_ (fun hHeld2=>nM ?_)
  .exact⟨d3,d4⟩
  clear hK K hHeld
  refine tS ?_
  refine Ng c? ?_ _
  go_wp2_with fail
  go_ret
  exact⟨rfl,kk⟩
 refine iz (NZ runs==On size) (by unfold iD;simp[hL,b1,b2,b3]) ?_
 rw[hL,Bool.true_and,MV b3]at hr
 have hs:=fun W (kk:NP [] w W)=>zg _ runs lo hi 0 8192 W (h.kept0 kk) hl hL a? a?
 have hn:=fun W=>Aw size W f4
 have⟨HR,HS,HN⟩:=gg! hr hs hn
 clear hr hL hs hn h
 generalize NZ runs=sm at*
 generalize On size=nd at*
 go_enter func252,ntmps252
 go_wp2_with fail
 refine(HH.out _).mono ?_;rintro e w' ⟨rfl,rfl⟩
 go_wp2_with fail
 have kk:=k0.drew
 have ob:=o0.drew
 go_region_held3 (fun W=>W.cell? ⟨w.heap.size,3,none⟩=some (.int .i64 size)/\W.cell? ⟨w.heap.size,4,none⟩=some (.slice p runs.length c)) (go_keep)
  (first
   |(go_at_call 283;((with_reducible refine(HR.out _ kk).mono ?_));rintro e w' ⟨rfl,k'⟩;have kk:=kk.trans k';have ob:=k'.own ob b?;have⟨c0,c1,c2,c3,c4⟩:=ob.c5)
   |(go_at_call 284;((with_reducible refine(HS.out _ kk).mono ?_));rintro e w' ⟨rfl,rfl⟩)
   |(go_at_call 146;((with_reducible refine(HN.out _).mono ?_));rintro e w' ⟨rfl,rfl⟩))
 all_goals
  go_wp2_with fail
  go_ret
  exact⟨rfl,kk⟩):A:=h
theorem AF (r v lo hi w) (h:af w v r.runs lo hi) (hl:r.runs.length<=1000000) (hf:r.fits):
  am! 252 #[.agg (r.cells v)] w (qd (az r) w):=by
 have⟨k,id,name,size,runs⟩:=r
 have⟨f1,f2,f3,f4⟩:=hf
 simp only at h hl f1 f2 f3 f4
 obtain⟨p,c,rfl⟩:=h.shape
 unfold ag.cells az
 simp only
 have hh:=fun W=>pq k W
 have⟨id0,id1⟩:=eG f2
 have hsb:=ko f4
 have PW:(bs name).size=name.length:=NQ name
 unfold maxLen at f3
 have k0:NP [] w (w.alloc (.cells #[k,(id,()),name,size,(p,runs.length,c)] 102)):=(NP.refl _ _).alloc _
 have o0:=ae.new w #[k,(id,()),name,size,(p,runs.length,c)] 102
 clear f1 f2
 generalize S4 k=I at*
 generalize Px k=N at*
 generalize Oj k=B at*
 rcases(by omega:id=0\/(¬id=0/\1<=id/\id<=4294967294)\/id=4294967295)with rfl|⟨i3,i1,i2⟩|rfl
 all_goals rcases sU name with⟨rfl,nm2,nm3,nm4⟩|⟨nm1,nm2,nm3,l1,l3⟩|⟨nm1,nm2,nm3,l1,l3⟩
 all_goals cases I<;>cases N<;>cases B<;>(have HH:=tK hh;clear hh;first|(refine iz false ?_ ?_;unfold gq;(simp[*]<;>fail);exact jA)|(refine iz (iD runs size) ?_ ?_;unfold gq;(simp[*]<;>fail);exact Ik)|exact Il)
end
section
open Go.Proofs.Tryz Go.RowKit
variable {A:Prop} {a:Act} {w w0 w':World} {b i j:Nat} {s:List UInt8} {x:Int}
structure fX (w wr:World) (b:Nat) (s s1:List UInt8) (j:Nat) (v6:Value) (vs:List (ag×Value)) (rest:List UInt8) (x:Int):Prop where
 so:(x=0/\dg j s1=some (vs.map (·.1),rest))\/(x≠0/\dp s=none)
 rd:aK wr b rest x
 row:wr.ownsRow w 102 5 v6 j (bw vs)
 each:∀y∈vs,aE w wr y.2 y.1.runs/\y.1.fits
 len:vs.length=j
 kept:NP [] w wr
 hb:b=w.heap.size
section
variable {w wr w3 w5:World} {b:Nat} {s s1:List UInt8} {j:Nat} {v6 v' kv:Value} {vs:List (ag×Value)} {rest rest':List UInt8} {x x':Int} {r:ag} {o1:Obj}
theorem fX.new (h:fX w wr b s s1 j v6 vs rest x):aI w wr v6 (vs.map (·.1)):=
 ⟨vs,rfl,by rw[MP,h.len];exact h.row,h.each⟩
theorem fX.Jn (h:fX w wr b s s1 j v6 vs rest x) {S} (kk:NP S wr w3) (hS:∀y∈S,y=b):w3.ownsRow w 102 5 v6 j (bw vs):=
 cF h.row kk (fun y hy _ cs hc=>by
  have⟨TL,o⟩:=h.rd.reader
  rw[hS y hy]at hc
  exact absurd (lA o hc) d?)
theorem fX.Bg (h:fX w wr b s s1 j v6 vs rest x) {S} (kk:NP S wr w3) (hS:∀y∈S,y=b):NP [] w w3:=
 h.kept.call kk (fun y hy=>Or.inr (by have:=hS y hy;have:=h.hb;omega))
theorem fX.next (h:fX w wr b s s1 j v6 vs rest x) (ho:(x'=0/\dg (j+1) s1=some (vs.map (·.1)++[r],rest'))\/(x'≠0/\dp s=none)) {S} (kk:NP S wr w3) (hS:∀y∈S,y=b) (hR:aK w3 b rest' x') (hr:aE wr w3 kv r.runs) (hf:r.fits) (hg:(w3.alloc o1).grownBy w5 v6.ownBlock) (hn:w5.ownsRow w 102 5 v' (j+1) (bw vs++[Value.int .i64 r.kind,Value.int .u32 r.id,Value.string (bs r.name),Value.int .i64 r.size,kv])):
  fX w w5 b s s1 (j+1) v' (vs++[(r,kv)]) rest' x':=by
 have T3:=h.Jn kk hS
 have P6:=h.Bg kk hS
 have PW:=h.kept.size
 have Ua:∀y∈vs,aE w w3 y.2 y.1.runs/\y.1.fits:=fun y hy=>⟨(h.each y hy).1.aS kk (fun z hz=>by
  have⟨TL,o⟩:=h.rd.reader
  rw[hS z hz]
  exact Or.inr ⟨_,_,o,d?⟩),(h.each y hy).2⟩
 have TB:=MH T3 o1
 have hk:∀(u:Value) (rs:List (Int×Int)),aE w w3 u rs->aE w w5 u rs:=fun u rs hu=>by
  have hu':aE w (w3.alloc o1) u rs:=MH hu o1
  exact hu'.grown TB hg d?
 refine⟨?_,(hR.kept ((NP.refl [] w3).alloc o1) b?).grown TB hg d?,by rw[eF];exact hn,fun y hy=>?_,by rw[tN,h.len];rfl,(P6.alloc o1).grown hg (fun i hi=>Or.inr (ML TB i hi).1),h.hb⟩
 .simpa using ho
 .rcases Na.1 hy with hy|hy
  .exact⟨hk _ _ (Ua y hy).1,(Ua y hy).2⟩
  .have hy:y=(r,kv):=N!
   subst hy
   exact⟨hk _ _ (hr.base PW),hf⟩
end
theorem M28 (h:A:=by
 go_wp2_with fail
 refine HE.out.mono ?_;rintro e w4 ⟨rfl,nd,rfl⟩
 go_wp2_with fail
 go_ret2
 exact⟨Or.inr ⟨Rs.out,_,rfl⟩,QY.drewN _⟩):A:=h
theorem EF (s:List UInt8) (w:World) (hs:s.length<=1000000):
  am! 204 #[s] w (qY s w):=by
 have UM:aK (w.alloc (.cells #[s,(0:Int),(0:Int)] 263)) w s 0:=⟨s,0,ae.new _ _ _,a?,hs,b?,fun h=>absurd rfl h⟩
 have hu:=vN w s 0 _ UM
 have hx0:=fun h=>jx (k:=2) (l:=s) (x:=0) h
 have hxn:=fun h=>zq (k:=2) (l:=s) (x:=0) h
 have OF:=fun h=>zW (s:=s) h
 have Vv:=fun h=>tu (s:=s) h
 have Qp:=fun r o h=>tv (s:=s) (r:=r) (o:=o) h
 have Sv:=fun o h1 h2=>pW (s:=s) (o:=o) h1 h2
 have bn:=cp 2 s 0
 have⟨BN,HU,HX0,HXN,Pk,Se,Y5,Wv⟩:=ga! bn hu hx0 hxn OF Vv Qp Sv
 clear hu hx0 hxn OF Vv Qp Sv UM bn
 generalize N6 2 s 0=N at*
 have⟨n,s1,x1⟩:=N
 simp only at*
 go_enter func204,ntmps204
 go_wp2_with fail
 refine HU.out.mono ?_;rintro e w2 ⟨rfl,Qn,PY⟩
 have hK:NP [] w w2:=((NP.refl [] w).alloc _).call PY (fun y hy=>Or.inr (Nat.le_of_eq (Nm.1 hy).symm))
 have Oo:fX w w2 w s s1 0 () [] s1 x1:=⟨by
  by_cases hx:x1=0
  .exact Or.inl ⟨hx,rfl⟩
  .exact Or.inr ⟨hx,Pk.out (by have:=HXN.out hx;omega)⟩,Qn,Nf _ _ _ _,fun x hx=>J!,rfl,hK,rfl⟩
 have OY:=tK Oo
 clear Oo Qn PY hK HU
 generalize hbb:w.heap.size=b at*
 have HBB:=tK hbb
 clear hbb
 generalize QT:(n:Int)=nn at*
 have Uf:=tK QT
 clear QT
 go_wp2_with fail
 go_loopw [6,7,8] (fun v6 i v8 wr=>∃(j:Nat) (vs:List (ag×Value)) (rest:List UInt8) (x:Int),j<=n/\i=.int .u64 j/\fX w wr b s s1 j v6 vs rest x) (fun _ i _ _=>n-(intOf i).toNat)
 case atStart=>exact⟨0,[],s1,x1,a?,rfl,OY.out⟩
 case round=>
  obtain⟨j,vs,rest,x,hj,rfl,Oo⟩:=hrel
  obtain⟨p6,c6,rfl⟩:=ah Oo.row
  have hce:=Oo.rd.err
  have Sa:=tK Oo
  by_cases NV:j<n
  .have i1:(j:Int)<nn:=x?
   by_cases hx:x=0
   .subst hx
    have R7:dg j s1=some (vs.map (·.1),rest):=by
     rcases Oo.so with h|h
     .exact h.2
     .exact absurd rfl h.1
    have Pp:=Mg b rest wr Oo.rd
    have⟨Qt,VH,Of⟩:=gg! Pp R7 NV
    clear Pp Oo OY R7 NV hj
    go_wp2_with fail
    refine Qt.out.mono ?_;rintro e w3 ⟨m,kv,rfl,hm,NU,Q4,QL,P6⟩
    clear Qt
    have Oq:=pC m rest
    obtain⟨pk,ck,rfl⟩:=ah NU
    have Yo:((Ps m rest).2.2=0/\dg (j+1) s1=some (vs.map (·.1)++[(Ps m rest).1],(Ps m rest).2.1))\/((Ps m rest).2.2≠0/\dp s=none)\/(az (Ps m rest).1=false/\dp s=none):=by
     by_cases hx:(Ps m rest).2.2=0
     .have hmm:=QL hx
      subst hmm
      cases hM:az (Ps (nR rest).1 rest).1
      .exact Or.inr (Or.inr ⟨rfl,Se.out (by rw[kG VH.out (wR hM) Of.out])⟩)
      .exact Or.inl ⟨hx,nj VH.out (wQ hx hM)⟩
     .exact Or.inr (Or.inl ⟨hx,Se.out (by rw[kG VH.out (ED hx hm) Of.out])⟩)
    have Wp:az (Ps m rest).1=false->dp s=none:=fun hM=>by
     rcases Yo with⟨hx,h⟩|⟨_,h⟩|⟨_,h⟩
     .have hmm:=QL hx
      subst hmm
      exact Se.out (by rw[kG VH.out (wR hM) Of.out])
     .exact h
     .exact h
    have aap:(Ps m rest).1.runs.length<=1000000:=by
     have:(Ps m rest).1.runs.length=m:=ga _ _ _
     have:=DJ ((PP rest).1:Int) (zR rest).2.1 (zR rest).2.2
     have e:nR rest=vq ((PP rest).1:Int) (zR rest).2.1 (zR rest).2.2:=rfl
     rw[e]at hm
     omega
    clear hm QL
    generalize Ps m rest=O at*
    have⟨r,rest',x'⟩:=O
    simp only at*
    have Qy:=fun W (kk:NP [] w3 W)=>AF r (pk,r.runs.length,ck) wr W W (aE.kept0 NU kk).oI aap Oq
    unfold qd at Qy
    have UC:=Sa.out.Jn P6 b?
    have⟨abh,Pm,ZJ,Y9,Wz,acj⟩:=gj! UC NU Q4 Oq Yo Wp
    have o3:=ae.new w3 #[r.kind,(r.id,()),r.name,r.size,(pk,r.runs.length,ck)] 102
    have ka:NP [] w3 (w3.alloc (.cells #[r.kind,(r.id,()),r.name,r.size,(pk,r.runs.length,ck)] 102)):=(NP.refl _ _).alloc _
    have Ty:=Qy _ ka
    unfold ag.cells at Ty
    unfold ag.cells
    have⟨VK,O3,KA⟩:=gg! Ty o3 ka
    clear Qy UC NU Q4 Oq Yo Wp o3 ka Ty aap
    generalize hMM:az r=M at*
    have XX:=tK hMM
    clear hMM
    cases M
    .have OF:=acj.out rfl
     have Rs:=tK OF
     have QY:=(Sa.out.Bg P6 b?).trans KA.out
     clear OF
     go_wp2_with fail
     refine VK.out.mono ?_;rintro e w4 ⟨rfl,k4⟩
     go_wp2_with fail
     go_ret2
     exact⟨Or.inr ⟨Rs.out,_,rfl⟩,QY.trans k4⟩
    .have TA:=Wz.out
     have acT:(x'=0/\dg (j+1) s1=some (vs.map (·.1)++[r],rest'))\/(x'≠0/\dp s=none):=by
      rcases TA with h|h|h
      .exact Or.inl h
      .exact Or.inr h
      .exact absurd h.1 b?
     have aeD:=tK acT
     have⟨i0,q0,q1,q2,q3⟩:=jB
     have r3:j+1<=maxLen:=by have:=Of.out;have:=BN.out;unfold maxLen;omega
     have r4:(j+1)*64<=140737488355328:=by have:=Of.out;have:=BN.out;omega
     clear acT TA Wz acj
     go_wp2_with fail
     refine VK.out.mono ?_;rintro e w4 ⟨rfl,k4⟩
     have o4:=k4.own O3.out b?
     have⟨d0,d1,d2,d3,d4⟩:=o4.c5
     have ZN:=KA.out.trans k4
     have hr4:w4.ownsRow w 102 5 (p6,j,c6) j (bw vs):=ax abh.out ZN b?
     have aeW:=tK hr4
     have aeE:w.heap.size<=w4.heap.size:=Nk (Sa.out.Bg P6 b?).size ZN.size
     have Qo:NP [b] wr w4:=P6.trans (ZN.mono b?)
     have So:aK w4 b rest' x':=ZJ.out.kept ZN b?
     have Vl:aE wr w4 (pk,r.runs.length,ck) r.runs:=aE.kept0 Pm.out ZN
     have⟨Ro,Z0,W8⟩:=gg! Qo So Vl
     have hjs:IntKind.u64.wrap ((j:Int)+1)=((j+1:Nat):Int):=by have:=bC (j+1) (by have:=Of.out;have:=BN.out;omega);simpa using this
     clear hr4 o4 Qo So Vl ZN k4 P6
     go_wp2_with (at_builtin;go_must (refine MT _ rfl (.tmp 31) (.tmp 33) 92 rfl w 102 i0 (.agg #[(0:Int),.int .u32 0,.string {data:=#[]},(0:Int),()]) 5 64 underlying92 q0 q1 q2 q3 rfl d? _ _ _ rfl (MH aeW.out _) w4 1 1 [.int .i64 r.kind,.int .u32 r.id,.string (bs r.name),.int .i64 r.size,.slice pk r.runs.length ck] rfl rfl ?_ ?_ r3 r4 ?_ ?_))
     .exact World.news_of_block (Ns w4 _)
     .intro u hu;simp at hu;rcases hu with rfl|rfl|rfl|rfl|rfl<;>rfl
     .simp;omega
     intro v6 w6 o6 Po _ _
     have TA:=Sa.out.next aeD.out Ro.out b? Z0.out W8.out Y9.out Po o6
     have RA:=tK TA
     clear TA o6 Po
     go_wp2_with fail
     go_roundw
     case rel=>exact⟨j+1,_,_,_,Of.out,G?,RA.out⟩
     case measure=>(have hh:=Of.out;simp[intOf];omega)
   .have Wr:(x==0)=false:=h?
    have UT:(x != 0)=true:=h?
    have OF:dp s=none:=by
     rcases Oo.so with h|h
     .exact absurd h.1 hx
     .exact h.2
    have Ph:=Gz b rest x wr Oo.rd
    have ee:fM rest x=x:=by unfold fM;rw[if_neg (fun h=>hx h.1)]
    rw[ee]at Ph
    have⟨HE,Rs⟩:=f? Ph OF
    have QY:=Oo.kept
    clear Oo OY Ph ee OF NV
    exact M28
  .obtain rfl:j=n:=a?
   have i1:¬((j:Int)<nn):=x?
   have Ph:=Gz b rest x wr Oo.rd
   have QY:=Oo.kept
   have Vq:=tK Oo.new
   rcases Oo.so with⟨rfl,R7⟩|⟨hx,OF⟩
   .by_cases hr:rest=[]
    .subst hr
     rw[zP]at Ph
     have HE:=tK Ph
     rcases(by have:=Uf.out;omega:nn<1\/(1<=nn/\8192<nn)\/(1<=nn/\nn<=8192))with h1|⟨h1,h2⟩|⟨h1,h2⟩
     .have OF:=Pk.out x?
      have Rs:=tK OF
      clear Oo OY Ph OF NV R7
      exact M28
     .have OF:=Pk.out x?
      have Rs:=tK OF
      clear Oo OY Ph OF NV R7
      exact M28
     .have Sv:=Wv.out _ x? x? R7
      have HY:=tK Sv
      clear Oo OY Ph NV R7 Sv
      go_wp2_with fail
      refine HE.out.mono ?_;rintro e w4 ⟨rfl,nd,rfl⟩
      go_wp2_with fail
      go_ret2
      exact⟨Or.inl ⟨_,_,HY.out,Vq.out.kept0 ((NP.refl _ _).drewN _),rfl⟩,QY.drewN _⟩
    .rw[vo hr]at Ph
     have OF:=Y5.out _ _ R7 hr
     have⟨HE,Rs⟩:=f? Ph OF
     clear Oo OY Ph OF NV R7 hr
     exact M28
   .have Wr:(x==0)=false:=h?
    have UT:(x != 0)=true:=h?
    have ee:fM rest x=x:=by unfold fM;rw[if_neg (fun h=>hx h.1)]
    rw[ee]at Ph
    have⟨HE,Rs⟩:=f? Ph OF
    clear Oo OY Ph ee OF NV
    exact M28
theorem sg {P:Program} {Q:Exit->Act->World->Prop} {c rest:Code} (l) (J:Act->World->Prop) (μ:Act->World->Nat) (hf:findLabel c l=some (Code.skip.seq rest)) (pass:∀a w,J a w->rest.wp P (Exit.jump l (fun a' w'=>J a' w'/\μ a' w'<μ a w) Q) a w) (first:(∀a w,J a w->rest.wp P (Exit.jump l J Q) a w)->c.wp P (Exit.jump l J Q) a w):(Code.scope c).wp P Q a w:=
 wp_scope_jumps l J μ hf (first (fun a w h=>wp_mono (pass a w h) (fun e a' w' he=>by
  cases e with
  |goto l'=>exact⟨he.1,he.2.1⟩
  |_=>exact he))) (fun a w h=>wp_seq (wp_skip (pass a w h)))
theorem xF:∃i,prog.info? 92=some i/\i.zero=()/\i.size=1/\i.bytes=24:=by
 have hi:(prog.info? 92).map (fun i=>(i.zero,i.size,i.bytes))=some (some (.slice none 0 0),1,24):=c?
 exact Yh
def cD (w0 w:World) (v:Value) (l:List (List ag)):Prop:=
 ∃vs:List (List ag×Value),vs.map (·.1)=l/\w.ownsRow w0 92 1 v l.length (vs.map (·.2))/\∀x∈vs,aI w0 w x.2 x.1
def ig (w0 w:World) (S:List Nat):Prop:=∀x∈S,x<w0.heap.size\/∃cs t,ae w x cs t/\t≠128/\t≠102/\t≠92
theorem ig.nil (w0 w):ig w0 w []:=fun x hx=>by cases hx
theorem ig.one {cs} {t:TypeId} (h:ae w b cs t) (h1:t≠128) (h2:t≠102) (h3:t≠92):ig w0 w [b]:=fun x hx=>by
 have hx:x=b:=h?
 subst hx;exact Or.inr ⟨_,_,h,h1,h2,h3⟩
theorem ig.recs {S} (h:ig w0 w S):mX w0 w S:=fun x hx=>(h x hx).imp id (fun⟨cs,t,o,h1,h2,_⟩=>⟨cs,t,o,h1,h2⟩)
section
variable {S:List Nat} {w0 w w':World} {v:Value} {l:List (List ag)}
theorem cD.kept (h:cD w0 w v l) (k:NP S w w') (hS:ig w0 w S):cD w0 w' v l:=by
 have⟨vs,h1,h2,h3⟩:=h
 refine⟨vs,h1,cF h2 k (fun x hx hb cs hc=>?_),fun x hx=>(h3 x hx).kept k hS.recs⟩
 rcases hS x hx with h1|⟨TL,t,o,_,_,ht⟩
 .omega
 .exact ht (lA o hc)
theorem cD.kept0 (h:cD w0 w v l) (k:NP [] w w'):cD w0 w' v l:=h.kept k (ig.nil _ _)
theorem cD.nil (w0 w):cD w0 w () []:=⟨[],rfl,Nf _ _ _ _,fun x hx=>by cases hx⟩
theorem cD.shape (h:cD w0 w v l):∃p c,v=.slice p l.length c:=by
 have⟨vs,h1,h2,h3⟩:=h;exact ah h2
theorem aI.grown {w5 base size n} {e:TypeId} {u v10 xs rs} (h:aI w0 w u rs) (hr:w.ownsRow base e size v10 n xs) (hg:w.grownBy w5 v10.ownBlock) (h1:e≠128) (h2:e≠102):aI w0 w5 u rs:=by
 have⟨vs,e1,e2,e3⟩:=h
 exact⟨vs,e1,dG e2 (fun g cs hb hc=>hg.block g (NK hc) (fun e'=>aB hr (show ae w g cs 102 from hc) h2 e'.symm)),fun x hx=>⟨dG (e3 x hx).1 (fun g cs hb hc=>hg.block g (NK hc) (fun e'=>aB hr (show ae w g cs 128 from hc) h1 e'.symm)),(e3 x hx).2⟩⟩
theorem cD.more {v' kv:Value} {o:List ag} {w5:World} {vs:List (List ag×Value)} (h1:vs.map (·.1)=l) (h3:∀x∈vs,aI w0 w x.2 x.1) (h2:w.ownsRow w0 92 1 v l.length (vs.map (·.2)))
  (hr:aI w0 w kv o) {ob:Obj} (hg:(w.alloc ob).grownBy w5 v.ownBlock) (hn:w5.ownsRow w0 92 1 v' (l.length+1) (vs.map (·.2)++[kv])):cD w0 w5 v' (l++[o]):=by
 have NU:=MH h2 ob
 have hk:=fun (u:Value) (rs:List ag) (hu:aI w0 w u rs)=>
  (hu.kept0 ((NP.refl [] w).alloc ob)).grown NU hg d? d?
 refine⟨vs++[(o,kv)],by simp[h1],by rw[M0,tN,Nq];exact hn,fun x hx=>?_⟩
 rcases Na.1 hx with hx|hx
 .exact hk _ _ (h3 x hx)
 .have hx:x=(o,kv):=h?
  subst hx
  exact hk _ _ hr
end
theorem Cj (x0 x1 x2 x3 x4 x5 x6 x7 x8 x9 x10 x11 x12 x13 x14 x15 x16 x17 x18 x19 x20 x21 x22 x23 x24 x25 x26 x27 x28 x29 x30 x31 x32 x33 x34 x35 x36 x37 x38 x39 x40 x41 x42 x43 x44 x45 x46 x47 x48 x49 x50 x51 x52):∃u:Nat->Value,({tmps:=#[x0,x1,x2,x3,x4,x5,x6,x7,x8,x9,x10,x11,x12,x13,x14,x15,x16,x17,x18,x19,x20,x21,x22,x23,x24,x25,x26,x27,x28,x29,x30,x31,x32,x33,x34,x35,x36,x37,x38,x39,x40,x41,x42,x43,x44,x45,x46,x47,x48,x49,x50,x51,x52],defers:=[]}:Act)={tmps:=#[x0,(u 1),x2,x3,x4,x5,(u 6),(u 7),(u 8),(u 9),(u 10),(u 11),(u 12),(u 13),(u 14),(u 15),(u 16),(u 17),(u 18),(u 19),(u 20),(u 21),(u 22),(u 23),(u 24),(u 25),(u 26),(u 27),(u 28),(u 29),(u 30),(u 31),(u 32),(u 33),(u 34),(u 35),(u 36),(u 37),(u 38),(u 39),(u 40),(u 41),(u 42),(u 43),(u 44),(u 45),(u 46),(u 47),(u 48),(u 49),(u 50),(u 51),(u 52)],defers:=[]}:=
 ⟨fun n=>[x0,x1,x2,x3,x4,x5,x6,x7,x8,x9,x10,x11,x12,x13,x14,x15,x16,x17,x18,x19,x20,x21,x22,x23,x24,x25,x26,x27,x28,x29,x30,x31,x32,x33,x34,x35,x36,x37,x38,x39,x40,x41,x42,x43,x44,x45,x46,x47,x48,x49,x50,x51,x52].getD n undef,rfl⟩
structure pY (w w':World) (rb:Nat) (s0:List UInt8) (v4:Value) (out:List (List ag)) (s:List UInt8):Prop where
 at_:eA s0 out s
 rd:aP w' w s 0
 box:ae w' rb #[w.heap.size] 255
 row:cD w w' v4 out
 kept:NP [] w w'
 hrb:w.heap.size<rb
 few:out.length*8+s.length<=s0.length
def LS (w:World) (rb:Nat) (s0:List UInt8) (a':Act) (w':World):Prop:=
 ∃(v4:Value) (out:List (List ag)) (s:List UInt8),(∃u:Nat->Value,a'={tmps:=#[s0,(u 1),(),(0:Int),v4,rb,(u 6),(u 7),(u 8),(u 9),(u 10),(u 11),(u 12),(u 13),(u 14),(u 15),(u 16),(u 17),(u 18),(u 19),(u 20),(u 21),(u 22),(u 23),(u 24),(u 25),(u 26),(u 27),(u 28),(u 29),(u 30),(u 31),(u 32),(u 33),(u 34),(u 35),(u 36),(u 37),(u 38),(u 39),(u 40),(u 41),(u 42),(u 43),(u 44),(u 45),(u 46),(u 47),(u 48),(u 49),(u 50),(u 51),(u 52)],defers:=[]})/\pY w w' rb s0 v4 out s
def BJ (w:World) (_:Act) (w':World):Nat:=match w'.cell? w with|some (.string s)=>s.size|_=>0
theorem wS (h:aP w' w s x):BJ w a w'=s.length:=by
 unfold BJ
 rw[show w'.cell? ⟨w.heap.size,0,none⟩=some (.string (bs s))from ae.cell h 0 b?]
 exact NQ s
def lP (s:List UInt8) (w:World) (e:Ending) (w':World):Prop:=
 ((∃ls v,O4 s=some ls/\cD w w' v ls/\e=.returned (.tuple #[v,(0:Int)]))\/(O4 s=none/\e=.returned (.tuple #[(),(110:Int)])))/\NP [] w w'
section
variable {w wr wx:World} {rb:Nat} {s0:List UInt8} {v4:Value} {out:List (List ag)} {s s':List UInt8} {x:Int}
theorem pY.nE (h:pY w wr rb s0 v4 out s) {S} (kk:NP S wr wx) (hS:∀y∈S,y=w.heap.size):cD w wx v4 out/\ae wx rb #[w.heap.size] 255/\NP [] w wx:=
 ⟨h.row.kept kk (fun y hy=>by rw[hS y hy];exact Or.inr ⟨_,_,h.rd,d?,d?,d?⟩),kk.own h.box (fun hb=>by have:=hS _ hb;have:=h.hrb;omega),h.kept.call kk (fun y hy=>Or.inr (by have:=hS y hy;omega))⟩
end
theorem M82 (h:A:=by
 go_wp2_with fail
 simp only[Exit.jump]
 go_ret2
 exact⟨Or.inr ⟨Pk.out,rfl⟩,kept4⟩):A:=h
theorem GI (s0:List UInt8) (w:World) (hs:s0.length<=1000000):
  am! 124 #[s0] w (lP s0 w):=by
 have QQ:=fun W=>nz (bs s0) W
 rw[cC]at QQ
 have⟨TC,HS⟩:=f? QQ hs
 clear QQ hs
 go_enter func124,ntmps124
 go_wp2_with fail
 refine sg 0 (fun a' w'=>∃rb,LS w rb s0 a' w') (BJ w) rfl ?_ ?_
 .rintro a' w' ⟨rb,v4,out,s,⟨u,rfl⟩,Oo⟩
  have V5:=Oo.row.shape
  obtain⟨p4,c4,rfl⟩:=V5
  have cr:w'.cell? rb=w.heap.size:=Oo.box.cell 0 b?
  have hl:=Ct w s 0 w' Oo.rd
  by_cases Qw:s=[]
  .have P0:=Oo.at_.end_ Qw
   subst Qw
   have⟨Up,HL,Pm⟩:=gg! P0 hl Oo.row
   have QY:=Oo.kept
   clear P0 hl Oo TC
   go_wp2_with fail
   refine HL.out.mono ?_;rintro e w1 ⟨rfl,rfl⟩
   go_wp2_with fail
   simp only[Exit.jump]
   go_ret2
   exact⟨Or.inl ⟨_,_,Up.out,Pm.out,rfl⟩,QY⟩
  .have YA:0<s.length:=Nu.2 Qw
   have Pb:((s.length:Int)==0)=false:=y?
   have hu1:=fun W (hr:aP W w s 0) (ho:ae W rb #[w.heap.size] 255)=>(np w s 0 W hr).mono fun e w1 hh=>(show e=.returned (.int .u32 (aR s).1)/\aP w1 w (aR s).2.1 (aR s).2.2/\NP [w.heap.size] W w1/\w1.cell? rb=w.heap.size/\ae w1 rb #[w.heap.size] 255 from⟨hh.1,hh.2.1,hh.2.2,(hh.2.2.own ho p!).cell 0 b?,hh.2.2.own ho p!⟩)
   have hu2:=fun W (hr:aP W w (aR s).2.1 (aR s).2.2) (ho:ae W rb #[w.heap.size] 255)=>(np w (aR s).2.1 (aR s).2.2 W hr).mono fun e w1 hh=>(show e=.returned (.int .u32 (cR s).1)/\aP w1 w (cR s).2.1 (cR s).2.2/\NP [w.heap.size] W w1/\w1.cell? rb=w.heap.size/\ae w1 rb #[w.heap.size] 255 from⟨hh.1,hh.2.1,hh.2.2,(hh.2.2.own ho p!).cell 0 b?,hh.2.2.own ho p!⟩)
   have ba:((aR s).1:Int)<4294967296:=by have:(aR s).1<4294967296:=cp 4 s 0;omega
   have ewa:IntKind.i64.wrap ((aR s).1:Int)=((aR s).1:Int):=IntWalk.i64_in _ a?
   have PF:=fun W (hr:aP W w (cR s).2.1 (cR s).2.2)=>(show am! 189 #[w.heap.size,.int .i64 (aR s).1] W fun r w1=>r=.returned (.string (bs (bR s).1))/\aP w1 w (bR s).2.1 (bR s).2.2/\NP [w.heap.size] W w1 from ny w (cR s).2.1 (cR s).2.2 (aR s).1 W hr)
   have Uq:(bR s).1.length<=s0.length:=by
    by_cases hx:(bR s).2.2=0
    .have:=(iZ hx).2;have:=Oo.few;omega
    .rw[show(bR s).1=[]from lh hx];simp
   have PH:=fun W=>FM (bR s).1 W
   have VE:=fun W=>Bu (bs (bR s).1) W (by rw[NQ];have:=HS.out;unfold maxLen;omega)
   rw[cC]at VE
   have hty:=fun o=>tJ (s:=s) (o:=o)
   have htb:=fun h=>wh (s:=s) h
   have hte:=fun h=>tL (s:=s) h
   have hts:=fun h=>zb (s:=s) h
   have NV:=fun h=>(iZ (s:=s) h).2
   have⟨ZU,YQ,Sm,Tp,SK,XK,XW,XO,Yg,Of,HL,OY,Um⟩:=gf! hu1 hu2 PF PH VE hty htb hte hts NV hl Oo Qw
   clear hu1 hu2 PF PH VE hty htb hte hts NV hl Oo Uq Qw TC
   generalize aR s=A at*
   generalize cR s=C at*
   generalize bR s=B at*
   go_wp2_with fail
   refine HL.out.mono ?_;rintro e w1 ⟨rfl,rfl⟩
   clear HL
   go_wp2_with fail
   go_region_held3 (fun W=>W.cell? rb=w.heap.size) (go_keep)
    (first
     |(go_at_call 195;((with_reducible refine(ZU.out _ ?_ ?_).mono ?_));(first|exact OY.out.rd|exact ae.drew OY.out.rd);(first|exact OY.out.box|exact ae.drew OY.out.box);rintro e w1 ⟨rfl,hR1,Sd,q1,ho1⟩)
     |(go_at_call 195;((with_reducible refine(YQ.out _ ?_ ?_).mono ?_));(first|exact hR1|exact ae.drew hR1);(first|exact ho1|exact ae.drew ho1);rintro e w2 ⟨rfl,Qn,kk2,q2,ho2⟩))
   all_goals
    have kkA:NP [w.heap.size] w' w2:=NP.trans (by first|exact Sd|exact((NP.refl _ _).drew).trans Sd) kk2
    clear Sd kk2 hR1 ho1 q1 ZU YQ
    go_wp2_with fail
    refine(Sm.out _ Qn).mono ?_;rintro e w3 ⟨rfl,Q4,Ti⟩
    have kkB:=kkA.trans Ti
    clear Qn ho2 q2 Sm kkA Ti
    go_wp2_with fail
    refine(Tp.out _).mono ?_;rintro e w4 ⟨hc,kk4⟩
    have kkC:=kkB.trans (kk4.mono (T:=[w.heap.size]) b?)
    have⟨aeA,box4,kept4⟩:=OY.out.nE kkC b?
    have So:=kk4.own Q4 b?
    have cr4:w4.cell? rb=w.heap.size:=box4.cell 0 b?
    clear Tp kkC Q4 cr
    rcases hc with⟨o,v,ho,NU,rfl⟩|⟨ho,v,rfl⟩
    .have HE:=tK (AA w B.2.1 B.2.2 w4 So)
     by_cases hx:B.2.2=0
     .have NV:=Of.out hx
      by_cases Qe:PE B.1=C.1
      .have Ox:=OY.out.at_.step Um.out (XK.out o ho hx Qe)
       have Wh:aP w4 w B.2.1 0:=by have:=So;rw[hx]at this;exact this
       rw[hx]at HE
       have aaO:((PE B.1:Int) != (C.1:Int))=false:=by rw[Qe];simp
       have aan:((PE B.1:Int)==(C.1:Int))=true:=by rw[Qe];simp
       obtain⟨pv,cv,rfl⟩:=NU.shape
       have⟨vs,e1,e2,e3⟩:=aeA
       have⟨i0,q0,q1,q2,q3⟩:=xF
       have SN:=OY.out.few
       have hs0:=HS.out
       have r3:out.length+1<=maxLen:=m?
       have r4:(out.length+1)*24<=140737488355328:=a?
       have aeE:w.heap.size<=w4.heap.size:=kept4.size
       have VV:aI w w4 (pv,o.length,cv) o:=NU.base (by have:=OY.out.kept.size;have:=kkB.size;omega)
       have⟨HRN,Sb,HR5,ZK,HE3,HE1,OZ,Xj⟩:=ga! VV Ox Wh e2 e3 e1 NV SN
       have XF:=tK (SK.out w4)
       clear XK XW XO Yg Of So Wh NU VV Ox e1 e2 e3 NV Qe SK SN ho hx
       go_wp2_with fail
       refine HE.out.mono ?_;rintro e w5 ⟨rfl,rfl⟩
       go_wp2_with fail
       refine XF.out.mono ?_;rintro e w5 ⟨rfl,rfl⟩
       go_wp2_with (at_builtin;go_must (refine MT _ rfl (.tmp 49) (.tmp 51) 187 rfl w 92 i0 () 1 24 underlying187 q0 q1 q2 q3 rfl d? _ _ _ rfl (MH ZK.out _) w4 1 1 [.slice pv o.length cv] rfl rfl ?_ ?_ r3 r4 ?_ ?_))
       .exact World.news_of_block (Ns w4 _)
       .intro u hu;simp at hu;subst hu;rfl
       .simp;omega
       intro v6 w6 o6 Po _ _
       have Qz:=cD.more HE1.out HE3.out ZK.out HRN.out Po o6
       have TB:=MH ZK.out (.cells #[(pv,o.length,cv)] 92)
       have abw:aP w6 w B.2.1 0:=bW TB Po (ae.alloc HR5.out _) d?
       have aak:=bW TB Po (box4.alloc _) d?
       have Q7:NP [] w w6:=(kept4.alloc _).grown Po (fun i hi=>Or.inr (ML TB i hi).1)
       have acK:pY w w6 rb s0 v6 (out++[o]) B.2.1:=⟨Sb.out,abw,aak,Qz,Q7,OY.out.hrb,by have:=Xj.out;have:=OZ.out;rw[tN,Nq];omega⟩
       have⟨aeR,adM⟩:=f? acK abw
       obtain⟨p6,c6,rfl⟩:=Qz.shape
       clear Po o6 TB abw aak Q7 acK Qz
       go_wp2_with fail
       go_step3
       refine⟨rfl,⟨rb,_,_,_,(Cj ..),aeR.out⟩,?_⟩
       rw[wS adM.out,wS OY.out.rd]
       have:=OZ.out
       omega
      .have OF:=OY.out.at_.no Um.out (Yg.out Qe)
       rw[hx]at HE
       have TU:¬((PE B.1:Int)=(C.1:Int)):=a?
       have aaO:((PE B.1:Int) != (C.1:Int))=true:=by simpa using TU
       have aan:((PE B.1:Int)==(C.1:Int))=false:=by simpa using TU
       have Pk:=tK OF
       have XF:=tK (SK.out w4)
       obtain⟨pv,cv,rfl⟩:=NU.shape
       clear XK XW XO Yg Of So NU NV OF SK TU Qe ho hx
       go_wp2_with fail
       refine HE.out.mono ?_;rintro e w5 ⟨rfl,rfl⟩
       go_wp2_with fail
       refine XF.out.mono ?_;rintro e w5 ⟨rfl,rfl⟩
       exact M82
     .have OF:=OY.out.at_.no Um.out (XO.out hx)
      have Wr:(B.2.2 != 0)=true:=h?
      have UT:(B.2.2==0)=false:=h?
      have Pk:=tK OF
      obtain⟨pv,cv,rfl⟩:=NU.shape
      clear XK XW XO Yg Of So NU OF SK ho
      go_wp2_with fail
      refine HE.out.mono ?_;rintro e w5 ⟨rfl,rfl⟩
      exact M82
    .have OF:=OY.out.at_.no Um.out (XW.out ho)
     have Pk:=tK OF
     clear XK XW XO Yg Of So OF SK ho
     exact M82
 .intro U7
  have Y3:=tK U7
  clear U7
  go_wp2_with fail
  refine(TC.out _).mono ?_;rintro e w1 ⟨rfl,hR,OP⟩
  have NV:=ae.lt hR
  have Oo:pY w (w1.alloc (.cells #[w.heap.size] 255)) w1 s0 () [] s0:=⟨eA.start _,ae.alloc hR _,ae.new _ _ _,cD.nil _ _,OP.alloc _,NV,b?⟩
  have OY:=tK Oo
  clear Oo hR
  go_wp2_with fail
  go_step3
  rename_i hcont
  refine hcont _ _ (Y3.out _ _ ⟨w1.heap.size,(),[],s0,Cj ..,OY.out⟩)
structure mV (w w':World) (b:Nat) (s0:List UInt8) (v4:Value) (out:List (List ag)) (s:List UInt8):Prop where
 at_:eA s0 out s
 rd:aK w' b s 0
 row:cD w w' v4 out
 kept:NP [] w w'
 hb:b=w.heap.size
 few:out.length*8+s.length<=s0.length
theorem mV.nE {wr wx s0 v4 out s} (h:mV w wr b s0 v4 out s) {S} (kk:NP S wr wx) (hS:∀y∈S,y=b):cD w wx v4 out/\NP [] w wx:=by
 have⟨cs,o⟩:=h.rd.reader
 exact⟨h.row.kept kk (fun y hy=>by rw[hS y hy];exact Or.inr ⟨_,_,o,d?,d?,d?⟩),h.kept.call kk (fun y hy=>Or.inr (by have:=hS y hy;have:=h.hb;omega))⟩
def xU (b:Nat) (w':World):Nat:=match w'.cell? b,w'.cell? (aa b 1)with|some (.string s),some (.int _ a)=>s.size-a.toNat|_,_=>0
theorem uL (h:aK w' b s x):xU b w'=s.length:=by
 obtain⟨S,a,o,h1,h2,rfl,_⟩:=h
 unfold xU
 rw[show w'.cell? ⟨b,0,none⟩=some (.string (bs S))from ae.cell o 0 b?,show w'.cell? ⟨b,1,none⟩=some (.int .i64 a)from ae.cell o 1 b?]
 simp only[NQ,MQ,Nw]
def kh (s:List UInt8) (w:World) (e:Ending) (w':World):Prop:=
 ((∃ls v,O4 s=some ls/\cD w w' v ls/\e=.returned (.tuple #[v,true]))\/(O4 s=none/\e=.returned (.tuple #[(),false])))/\NP [] w w'
theorem GE (s0:List UInt8) (w:World) (hs:s0.length<=1000000):
  am! 132 #[s0] w (kh s0 w):=by
 have UM:aK (w.alloc (.cells #[s0,(0:Int),(0:Int)] 263)) w s0 0:=⟨s0,0,ae.new _ _ _,a?,hs,b?,fun h=>absurd rfl h⟩
 have Oo:mV w (w.alloc (.cells #[s0,(0:Int),(0:Int)] 263)) w s0 () [] s0:=⟨eA.start _,UM,cD.nil _ _,(NP.refl _ _).alloc _,rfl,b?⟩
 have hz:((bs s0).size:Int)=s0.length:=ak!
 have Qx:(bs s0).size<=1000000:=by rw[NQ];exact hs
 have hz3:IntKind.u64.wrap ((bs s0).size:Int)=((bs s0).size:Int):=bC _ a?
 have⟨OY,HS⟩:=f? Oo hs
 obtain⟨sz,acI⟩:∃sz:Int,((bs s0).size:Int)=sz:=⟨_,rfl⟩
 rw[acI]at hz hz3
 have hz4:0<=sz/\sz<=1000000:=a?
 have HZ:=tK hz
 clear Oo UM hs hz Qx
 go_enter func132,ntmps132
 go_wp2_with fail
 generalize hbb:w.heap.size=b at*
 have HBB:=tK hbb
 clear hbb
 go_loopw [4,6,7,8,9,10] (fun v4 v6 v7 v8 v9 v10 wr=>∃(out:List (List ag)) (s:List UInt8),mV w wr b s0 v4 out s) (fun _ _ _ _ _ _ wr=>xU b wr)
 case atStart=>exact⟨[],s0,OY.out⟩
 case round=>
  have⟨out,s,Oo⟩:=hrel
  obtain⟨p4,c4,rfl⟩:=Oo.row.shape
  have hl:=Jk b s 0 wr Oo.rd
  have hce:=Oo.rd.err
  by_cases Qw:s=[]
  .have P0:=Oo.at_.end_ Qw
   subst Qw
   have⟨Up,HL,Pm⟩:=gg! P0 hl Oo.row
   have QY:=Oo.kept
   clear P0 hl Oo OY
   go_wp2_with fail
   refine HL.out.mono ?_;rintro e w1 ⟨rfl,nd,rfl⟩
   go_wp2_with fail
   go_quiet (fail)
   go_wp2_with fail
   go_ret2
   exact⟨Or.inl ⟨_,_,Up.out,Pm.out.kept0 (((NP.refl _ _).drewN _).drewN _),rfl⟩,(QY.drewN _).drewN _⟩
  .have YA:0<s.length:=Nu.2 Qw
   have aau:(0:Int)<(s.length:Int):=a?
   have hu1:=fun W (hr:aK W b s 0)=>(show am! 202 #[b,(4:Int)] W fun r w'=>r=.returned (.int .u64 (aR s).1)/\aK w' b (aR s).2.1 (aR s).2.2/\NP [b] W w' from qk b s 0 W hr)
   have hu2:=fun W (hr:aK W b (aR s).2.1 (aR s).2.2)=>(show am! 202 #[b,(4:Int)] W fun r w'=>r=.returned (.int .u64 (cR s).1)/\aK w' b (cR s).2.1 (cR s).2.2/\NP [b] W w' from qk b _ _ W hr)
   have PF:=fun W (hr:aK W b (cR s).2.1 (cR s).2.2)=>(show am! 203 #[b,.int .i64 (aR s).1] W fun r w'=>r=.returned (.string (bs (bR s).1))/\aK w' b (bR s).2.1 (bR s).2.2/\NP [b] W w' from mH b _ _ (aR s).1 W hr)
   have ba:((aR s).1:Int)<4294967296:=by have:(aR s).1<4294967296:=cp 4 s 0;omega
   have ewa:IntKind.i64.wrap ((aR s).1:Int)=((aR s).1:Int):=IntWalk.i64_in _ a?
   have Uq:(bR s).1.length<=1000000:=by
    by_cases hx:(bR s).2.2=0
    .have:=(iZ hx).2;have:=Oo.rd.small;omega
    .rw[show(bR s).1=[]from lh hx];simp
   have S7:s0.length<(aR s).1->gO s=none:=fun hh=>by
    by_cases hx:(bR s).2.2=0
    .have h1:=iZ hx;have:=Oo.few;omega
    .exact tL hx
   have PH:=fun W=>EF (bR s).1 W Uq
   have VE:=fun W=>Au (bs (bR s).1) W (by rw[NQ];exact Uq)
   rw[cC]at VE
   have Qg:=iJ (bR s).1
   have ewc:IntKind.u64.wrap ((PE (bR s).1:Nat):Int)=((PE (bR s).1:Nat):Int):=bC _ a?
   have hty:=fun o=>tJ (s:=s) (o:=o)
   have htb:=fun h=>wh (s:=s) h
   have hte:=fun h=>tL (s:=s) h
   have hts:=fun h=>zb (s:=s) h
   have NV:=fun h=>(iZ (s:=s) h).2
   have ZU:=tK (hu1 _ (Oo.rd))
   have⟨YQ,Sm,Tp,SK,XK,XW,XO,Yg,Of,HL,Sa,Um,U9⟩:=gf! hu2 PF PH VE hty htb hte hts NV hl Oo Qw S7
   clear ba
   clear hu2 PF PH VE hty htb hte hts NV hl Uq Qw OY S7 YA Qg
   generalize aR s=A at*
   generalize cR s=C at*
   generalize bR s=B at*
   generalize PE B.1=cb at*
   obtain⟨na,hna⟩:∃na:Int,(A.1:Int)=na:=⟨_,rfl⟩
   rw[hna]at ewa Sm ZU
   simp only[hna]at hu1
   have HNA:=tK hna
   clear hna
   go_wp2_with fail
   refine HL.out.mono ?_;rintro e w1 ⟨rfl,nd,rfl⟩
   have QX:=hu1 _ (Oo.rd.kept ((NP.refl [] wr).drewN nd) b?)
   have Ts:=tK QX
   clear HL hu1 Oo QX
   have ae9:=aau
   clear aau
   go_wp2_with fail
   refine Ts.out.mono ?_;rintro e w2 ⟨rfl,Qn,kk2⟩
   have kkA:NP [b] wr w2:=((NP.refl [b] wr).drewN nd).trans kk2
   have QU:=YQ.out _ Qn
   have Rs:=tK QU
   clear YQ QU Qn Ts kk2
   go_wp2_with fail
   refine Rs.out.mono ?_;rintro e w3 ⟨rfl,Q4,Ti⟩
   have kkB:NP [b] wr w3:=kkA.trans Ti
   clear Rs Ti kkA
   by_cases hlen:s0.length<A.1
   .have OF:=Sa.out.at_.no Um.out (U9.out hlen)
    have Pk:=tK OF
    have adj:sz<na:=by have:=HZ.out;have:=HNA.out;omega
    have QY:=(Sa.out.nE kkB b?).2
    clear OF Sm Tp SK XK XW XO Yg Of hlen
    go_wp2_with fail
    go_ret2
    exact⟨Or.inr ⟨Pk.out,rfl⟩,QY⟩
   .have adj:na<=sz:=by have:=HZ.out;have:=HNA.out;omega
    have XT:=Sm.out _ Q4
    have XY:=tK XT
    clear XT Sm Q4 hlen
    go_wp2_with fail
    refine XY.out.mono ?_;rintro e w4 ⟨rfl,So,kk4⟩
    have kkC:NP [b] wr w4:=kkB.trans kk4
    clear XY kk4 kkB
    go_wp2_with fail
    refine(Tp.out _).mono ?_;rintro e w5 ⟨hc,Sp⟩
    have kkD:NP [b] wr w5:=kkC.trans (Sp.mono b?)
    have⟨abP,kept5⟩:=Sa.out.nE kkD b?
    have Wh:=So.kept Sp b?
    have adN:=Wh.err
    clear Tp So hce
    by_cases hx:B.2.2=0
    .have NV:=Of.out hx
     rw[hx]at adN
     rcases hc with⟨o,v,ho,NU,rfl⟩|⟨ho,v,rfl⟩
     .by_cases Qe:cb=C.1
      .have Ox:=Sa.out.at_.step Um.out (XK.out o ho hx Qe)
       have hR6:aK w5 b B.2.1 0:=by have:=Wh;rw[hx]at this;exact this
       subst Qe
       obtain⟨pv,cv,rfl⟩:=NU.shape
       have⟨i0,q0,q1,q2,q3⟩:=xF
       have SN:=Sa.out.few
       have hs0:=HS.out
       have r3:out.length+1<=maxLen:=m?
       have r4:(out.length+1)*24<=140737488355328:=a?
       have aci:w.heap.size<=w5.heap.size:=kept5.size
       have VV:aI w w5 (pv,o.length,cv) o:=NU.base (by have:=Sa.out.kept.size;have:=kkC.size;omega)
       have⟨HRN,Sb,Zz,WT,OZ,Xj⟩:=gj! VV Ox hR6 abP NV SN
       have XF:=tK (SK.out w5)
       clear XK XW XO Yg Of Wh hR6 NU VV Ox abP NV SK SN ho hx
       go_wp2_with fail
       refine XF.out.mono ?_;rintro e w6 ⟨rfl,Xs⟩
       have ad2:=WT.out.kept0 Xs
       have⟨vs,e1,e2,e3⟩:=ad2
       have aef:=tK (HRN.out.kept0 Xs)
       have HR7:=tK (Zz.out.kept Xs b?)
       have aaB:=kept5.trans Xs
       have afg:w.heap.size<=w6.heap.size:=aaB.size
       have⟨HE1,ZK,HE3⟩:=gg! e1 e2 e3
       clear e1 e2 e3 Xs XF WT HRN Zz
       go_wp2_with (at_builtin;go_must (refine MT _ rfl (.tmp 51) (.tmp 53) 187 rfl w 92 i0 () 1 24 underlying187 q0 q1 q2 q3 rfl d? _ _ _ rfl (MH ZK.out _) w6 1 1 [.slice pv o.length cv] rfl rfl ?_ ?_ r3 r4 ?_ ?_))
       .exact World.news_of_block (Ns w6 _)
       .intro u hu;simp at hu;subst hu;rfl
       .simp;omega
       intro v7 w7 o7 X9 _ _
       have Uw:=cD.more HE1.out HE3.out ZK.out aef.out X9 o7
       have TB:=MH ZK.out (.cells #[(pv,o.length,cv)] 92)
       have abq:aK w7 b B.2.1 0:=(HR7.out.kept ((NP.refl [] w6).alloc _) b?).grown TB X9 d?
       have SV:NP [] w w7:=(aaB.alloc _).grown X9 (fun i hi=>Or.inr (ML TB i hi).1)
       have ac1:mV w w7 b s0 v7 (out++[o]) B.2.1:=⟨Sb.out,abq,Uw,SV,Sa.out.hb,by have:=Xj.out;have:=OZ.out;rw[tN,Nq];omega⟩
       have⟨aep,adQ⟩:=f? ac1 abq
       obtain⟨p7,c7,rfl⟩:=Uw.shape
       clear X9 o7 TB abq SV ac1 Uw
       go_wp2_with fail
       go_roundw
       case rel=>exact⟨_,_,aep.out⟩
       case measure=>
        rw[uL adQ.out,uL Sa.out.rd]
        have:=OZ.out
        omega
      .have OF:=Sa.out.at_.no Um.out (Yg.out Qe)
       have TU:¬((C.1:Int)=(cb:Int)):=a?
       have aaO:((C.1:Int) != (cb:Int))=true:=by simpa using TU
       have aan:((C.1:Int)==(cb:Int))=false:=by simpa using TU
       have Pk:=tK OF
       have XF:=tK (SK.out w5)
       obtain⟨pv,cv,rfl⟩:=NU.shape
       clear XK XW XO Yg Of Wh NU NV OF SK TU Qe ho hx
       go_wp2_with fail
       refine XF.out.mono ?_;rintro e w6 ⟨rfl,Xs⟩
       go_wp2_with fail
       go_ret2
       exact⟨Or.inr ⟨Pk.out,rfl⟩,kept5.trans Xs⟩
     .have OF:=Sa.out.at_.no Um.out (XW.out ho)
      have Pk:=tK OF
      clear XK XW XO Yg Of Wh OF SK ho NV hx
      go_wp2_with fail
      go_ret2
      exact⟨Or.inr ⟨Pk.out,rfl⟩,kept5⟩
    .have OF:=Sa.out.at_.no Um.out (XO.out hx)
     have Wr:(B.2.2 != 0)=true:=h?
     have UT:(B.2.2==0)=false:=h?
     have Pk:=tK OF
     rcases hc with⟨o,v,ho,NU,rfl⟩|⟨ho,v,rfl⟩
     all_goals
      clear XK XW XO Yg Of Wh OF SK ho
      go_wp2_with fail
      go_ret2
      exact⟨Or.inr ⟨Pk.out,rfl⟩,kept5⟩
theorem Kh (n):∀(d:DK) (a:Nat) (s:List UInt8),s.length<=n->dS d->d.down=false->d.fuse<0->a+(s.length+127)/128<=d.stand.length->
  ∃d',fW d a s=(d',0)/\d'.stand=d.stand/\d'.down=false/\d'.fuse=d.fuse/\dS d'/\(∀i,i<a->seen d' i=seen d i)/\∀i,128*i<s.length->seen d' (a+i)=aC (s.drop (128*i)):=by
 induction n with
 |zero=>
  intro d a s hs hf hd Xr ha
  have:s=[]:=Nc a?
  subst this
  exact⟨d,rfl,rfl,hd,rfl,hf,fun _ _=>rfl,fun i hi=>by simp at hi⟩
 |succ n ih=>
  intro d a s hs hf hd Xr ha
  by_cases h0:s=[]
  .subst h0
   exact⟨d,rfl,rfl,hd,rfl,hf,fun _ _=>rfl,fun i hi=>by simp at hi⟩
  .have hl:0<s.length:=Nu.2 h0
   have⟨hc,hn⟩:=vW (s:=s) hd Xr (by omega:a<d.stand.length)
   have RP:(cW d a (aC s)).down=false:=by
    show(if d.fuse=0 then true else d.down)=false
    rw[if_neg a?,hd]
   have hfn:(cW d a (aC s)).fuse=d.fuse:=by
    show(if 0<d.fuse then d.fuse-1 else d.fuse)=d.fuse
    rw[if_neg a?]
   have Oq:dS (cW d a (aC s)):=by rw[<-hn];exact hf.write _ _
   have⟨d',e1,e2,e3,e4,e5,e6,e7⟩:=ih (cW d a (aC s)) (a+1) (s.drop 128) z? Oq RP (by rw[hfn];exact Xr) (by rw[MQ];show a+1+_<=d.stand.length;omega)
   refine⟨d',?_,e2,e3,e4.trans hfn,e5,fun i hi=>?_,fun i hi=>?_⟩
   .rw[iK h0,if_pos hc,hn,e1]
   .rw[e6 i a?,jc,if_neg a?]
   .cases i with
    |zero=>
     rw[Nat.add_zero,e6 a a?,jc,if_pos rfl];rfl
    |succ i=>
     have:=e7 i z?
     rw[List.drop_drop,show 128+128*i=128*(i+1)from by omega,show a+1+i=a+(i+1)from by omega]at this
     exact this
theorem Ia (n):0<=On n:=by unfold On;split<;>omega
theorem uW {s} (h:s.may) {u} (h0:0<=u) (h1:u<=s.journal*128):(dH s u).may:=by
 obtain⟨⟨a1,a2,a3,a4,a5,a6,a7,a8,a9,a10⟩,b,c⟩:=h
 exact⟨⟨by show 1<=s.seq+1;omega,a2,a3,a4,a5,h0,h1,a8,a9,a10⟩,b,c⟩
def cQ (c:au):Nat:=c.boxes.length+c.mans.length+c.names.length
theorem pT (l x next most turns):(Oc l x next most turns).1.length<=l.length+1:=by
 unfold Oc
 split
 .rename_i h
  show(gL l (PJ l x) x).length<=_
  rw[wj h.1];omega
 .split
  .exact Nb _
  .split
   .exact Nb _
   .show(Qm l x).length<=_
    rw[xE];exact MG _
theorem rN (l x):(OU l x).1.length<=l.length:=by
 unfold OU
 split
 .rename_i h
  have:=nS h
  show(dI l (PJ l x)).length<=_
  omega
 .exact Nb _
theorem H7 (c r):cQ (aW c r).1<=cQ c+1:=by
 unfold aW cQ
 have h1:=pT c.boxes r.item c.nextBox 2048 false
 have h2:=pT c.mans r.item c.nextMan 2048 true
 have h3:=pT c.names r.item 0 256 false
 have h4:=rN c.boxes r.item
 have h5:=rN c.mans r.item
 have h6:=rN c.names r.item
 split
 .simp only;omega
 .split
  .simp only;omega
  .split
   .simp only;omega
   .split
    .simp only;omega
    .split
     .simp only;omega
     .simp only;omega
theorem wK:∀(l:List ag) (c:au),cQ (cH c l).1<=cQ c+l.length
 |[],c=>MG _
 |r::l,c=>by
  unfold cH
  rw[Nj]
  split
  .split
   .have h1:=wK l (aW c r).1
    have h2:=H7 c r
    omega
   .exact Nb _
  .exact Nb _
theorem DZ (l c):cQ (N8 c l).1<=cQ c+l.length:=by
 unfold N8
 split
 .exact wK l c
 .exact Nb _
structure Fw (k:Nat) (d d':DK):Prop where
 ops:d'.ops<=d.ops+k
 waits:d'.waits.length<=d.waits.length+k
 len:d'.stand.length=d.stand.length
theorem Fw.refl (d):Fw 0 d d:=⟨MG _,MG _,rfl⟩
theorem Fw.trans {a b c} (h:Fw i a b) (k:Fw j b c):Fw (i+j) a c:=⟨by have:=h.ops;have:=k.ops;omega,by have:=h.waits;have:=k.waits;omega,k.len.trans h.len⟩
theorem Fw.mono {a b} (h:Fw i a b) (VM:i<=j):Fw j a b:=⟨by have:=h.ops;omega,by have:=h.waits;omega,h.len⟩
theorem JZ (d l s):Fw d.stand.length d (OQ d l s).1:=⟨(rA d l s).1,(rA d l s).2.1,(rA d l s).2.2⟩
theorem F0 (d):Fw 1 d (aA d).1:=⟨(gU d).1,(gU d).2.1,(gU d).2.2⟩
theorem Dz (n):∀(d:DK) (a:Nat) (s:List UInt8),s.length<=n->(fW d a s).1.stand.length=d.stand.length:=by
 induction n with
 |zero=>
  intro d a s hs
  have:s=[]:=Nc a?
  subst this
  rfl
 |succ n ih=>
  intro d a s hs
  by_cases h0:s=[]
  .subst h0;rfl
  .have hl:0<s.length:=Nu.2 h0
   rw[iK h0]
   split
   .rw[ih _ _ _ z?];exact(fy d _ _).2.2
   .exact(fy d _ _).2.2
theorem BG (d j u s):(Oa d j u s).1.stand.length=d.stand.length:=by
 unfold Oa
 split
 .rfl
 .split
  .rfl
  .split
   .rfl
   .split
    .rfl
    .exact Dz _ _ _ _ (MG _)
theorem Dy (d j u s):Fw (128+s.length) d (Oa d j u s).1:=⟨by have:=(tw d j u s).2;omega,by have:=(tw d j u s).1;omega,BG _ _ _ _⟩
theorem Dx (m fs d) (h:∀f∈fs,∀e,e.stand.length=d.stand.length->Fw m e (f e).1):∀k,k<=fs.length->Fw (k*m) d (kt fs d k)
 |0,_=>(Fw.refl d).mono b?
 |k+1,hk=>by
  have h1:=Dx m fs d h k a?
  rw[ng fs d k a?,Nat.add_mul]
  exact(h1.trans (h _ (MJ _) _ h1.len)).mono a?
theorem uj:∀(l:List VC) (recs:List ag) (n:Nat),∀f∈Qj l recs,∀e:DK,e.stand.length=n->Fw n e (f e).1
 |[],_,_,f,hf,_,_=>by simp[Qj]at hf
 |x::l,[],_,f,hf,_,_=>by simp[Qj]at hf
 |x::l,r::recs,n,f,hf,e,he=>by
  unfold Qj at hf
  split at hf
  .rcases List.mem_cons.1 hf with rfl|hf
   .subst he;exact JZ e _ _
   .exact uj l recs n f hf e he
  .exact uj l recs n f hf e he
end
section
open Go.Proofs.Tryz Go.RowKit
variable {d:DK} {w:World} {A:Prop}
theorem mr (h:bk d) {i} (hi:i<d.stand.length) {s} (hs:s.length=128):OW d i s=0:=by
 unfold OW OM
 rw[h.down]
 simp only[Bool.false_eq_true,if_false]
 rw[if_neg (show ¬((i:Int)<0\/(d.stand.length:Int)<=i)by omega)]
 simp only[ne_eq,not_true_eq_false,if_false]
 rw[if_neg a?,if_neg Q?]
theorem wU (h:bk d) {l s} (hX:dO l d.stand.length s.length):(OQ d l s).2=0:=by
 have⟨d',e1,_⟩:=CA (NY l) d s h.fit h.down h.fuse (fun a ha=>by have:=(hX.lt ha).1;omega) (mo hX.2.2.1)
 unfold OQ
 rw[if_pos hX,if_neg a!,e1]
theorem sL (h:bk d) {j u s} (hf:bo d.stand.length j u=0) (hs:(s.length:Int)<=128*j-u):(Oa d j u s).2=0:=by
 have⟨f1,f2,f3,f4⟩:=jX hf
 unfold Oa
 rw[if_neg (by rw[hf];simp),if_neg a?,if_neg a!]
 split
 .rfl
 .have h2:((seen d (2+u.toNat/128)).take (u.toNat%128)).length<=u.toNat%128:=w?
  have⟨d',e1,_⟩:=Kh _ d (2+u.toNat/128) ((seen d (2+u.toNat/128)).take (u.toNat%128)++s) (MG _) h.fit h.down h.fuse ab!
  rw[e1]
theorem pg (h:bk d) {s} (hs:s.aT.length=128) (hn:2<=d.stand.length):(cN s d).2=0:=by
 have h1:(aM ((s.seq%2:Nat):Int) s.aT d).2=0:=mr h a? hs
 have h2:=(jK (P:=fun _=>False) h ((s.seq%2:Nat):Int) s.aT (fun k hk=>hk.elim)).1.quiet
 show(if(aM ((s.seq%2:Nat):Int) s.aT d).2=0 then(if(aA (aM ((s.seq%2:Nat):Int) s.aT d).1).2=0 then((aA (aM ((s.seq%2:Nat):Int) s.aT d).1).1,(0:Int))else aA (aM ((s.seq%2:Nat):Int) s.aT d).1)else aM ((s.seq%2:Nat):Int) s.aT d).2=0
 rw[if_pos h1]
 have h3:(aA (aM ((s.seq%2:Nat):Int) s.aT d).1).2=0:=h2.th
 rw[if_pos h3]
theorem sK (h:bk d) {s} (hs:s.aT.length=128) (hn:2<=d.stand.length):(aG [aA,cN s] d).2=0:=by
 have h1:(aA d).2=0:=h.th
 have h2:=(fH (P:=fun _=>False) h).1
 show(if(aA d).2=0 then(if(cN s (aA d).1).2=0 then((cN s (aA d).1).1,(0:Int))else cN s (aA d).1)else aA d).2=0
 rw[if_pos h1,if_pos (pg h2.quiet hs (by rw[h2.len];exact hn))]
theorem rz {v} (h:bk v.d) {c tx} (hf:bo v.d.stand.length v.s.journal v.s.used=0) (hs:(tx.length:Int)<=128*v.s.journal-v.s.used) (hr:v.s.runs.length<=16):(bg c tx v).2=0/\(bg c tx v).1.s=dH v.s (v.s.used+tx.length):=by
 have⟨f1,f2,f3,f4⟩:=jX hf
 have h1:=sL h hf hs
 have h2:=(pj (P:=fun _=>False) h v.s.journal v.s.used tx (fun k hk=>hk.elim)).1
 have h3:=sK h2.quiet (sy (dH v.s (v.s.used+tx.length)) hr) (by rw[h2.len];omega)
 unfold bg
 rw[if_pos h1,if_pos h3]
 exact⟨rfl,rfl⟩
theorem J1 (h:bk d) (j) (hn:2<=d.stand.length):(du j d).2=0/\bk (du j d).1/\(du j d).1.stand.length=d.stand.length:=by
 have hz:N9.length=128:=by unfold N9;exact Np
 have q1:=(jK (P:=fun _=>False) h 0 N9 (fun k hk=>hk.elim)).1
 have c1:(aM 0 N9 d).2=0:=mr h (i:=0) a? hz
 have q2:=(jK (P:=fun _=>False) q1.quiet 1 N9 (fun k hk=>hk.elim)).1
 have c2:(aM 1 N9 (aM 0 N9 d).1).2=0:=mr q1.quiet (i:=1) (by rw[q1.len];omega) hz
 have q3:=(fH (P:=fun _=>False) q2.quiet).1
 have c3:(aA (aM 1 N9 (aM 0 N9 d).1).1).2=0:=q2.quiet.th
 have q4:=(ph (P:=fun _=>False) (dX d.stand.length j) (fun k hk=>hk.elim) q3.quiet).1
 have c4:=pg q3.quiet (sy (dX d.stand.length j) (by show 0<=16;omega)) (by rw[q3.len,q2.len,q1.len];exact hn)
 have e:du j d=if(aM 0 N9 d).2=0 then(if(aM 1 N9 (aM 0 N9 d).1).2=0 then(if(aA (aM 1 N9 (aM 0 N9 d).1).1).2=0 then(if(cN (dX d.stand.length j) (aA (aM 1 N9 (aM 0 N9 d).1).1).1).2=0 then((cN (dX d.stand.length j) (aA (aM 1 N9 (aM 0 N9 d).1).1).1).1,(0:Int))else cN (dX d.stand.length j) (aA (aM 1 N9 (aM 0 N9 d).1).1).1)else aA (aM 1 N9 (aM 0 N9 d).1).1)else aM 1 N9 (aM 0 N9 d).1)else aM 0 N9 d:=rfl
 rw[e,if_pos c1,if_pos c2,if_pos c3,if_pos c4]
 exact⟨rfl,q4.quiet,q4.len.trans (q3.len.trans (q2.len.trans q1.len))⟩
theorem kZ (a n m:Nat):OE [((a:Int),(n:Int))] m=decide (a<=m/\m<a+n):=by
 unfold OE
 simp only[List.any_cons,List.any_nil,Bool.or_false]
 by_cases h:a<=m/\m<a+n
 .rw[MV h,MV a?,MV a?];rfl
 .rw[MS h]
  by_cases h1:a<=m
  .rw[MV a?,MS a?];rfl
  .rw[MS a?,Bool.false_and]
theorem CF (a n:Nat) (hn:1<=n) (h:a+n<=8192):Pl 0 [((a:Int),(n:Int))]:=⟨by show(0:Int)<=a;omega,by show(1:Int)<=n;omega,by show(a:Int)+n<=8192;omega,trivial⟩
theorem pV {f:Nat->Bool} (a n) (hn:1<=n) (h:a+n<=8192) (hf:∀m,m<8192->f m=decide (a<=m/\m<a+n)):eh f=[((a:Int),(n:Int))]:=
 (lL (CF a n hn h) (fun m hm=>by rw[<-dr,kZ,hf m hm])).symm
theorem mh (a n:Nat) (hn:1<=n) (h:a+n<=8192):OV [((a:Int),(n:Int))]=n:=by
 have h1:=uP [((a:Int),(n:Int))]
 rw[AL (CF a n hn h)]at h1
 have e:NZ [((a:Int),(n:Int))]=n:=by unfold NZ;simp
 omega
theorem AV (a n:Nat) (hn:1<=n) (h:a+n<=8192):Pr [((a:Int),(n:Int))] []=[((a:Int),(n:Int))]:=
 pV a n hn h (fun m _=>by rw[kZ];simp[OE])
theorem CY (a n k:Nat) (hn:k+1<=n) (h:a+n<=8192):Pr [((a:Int),(n:Int))] [((a:Int),(k:Int))]=[(((a+k:Nat):Int),((n-k:Nat):Int))]:=
 pV (a+k) (n-k) a? a? (fun m _=>by
  rw[kZ,kZ]
  by_cases h1:a<=m/\m<a+n
  .by_cases h2:a<=m/\m<a+k
   .rw[MV h1,MV h2,MS a?];rfl
   .rw[MV h1,MS h2,MV a?];rfl
  .rw[MS h1,MS (show ¬(a<=m/\m<a+k)by omega),MS (show ¬(a+k<=m/\m<a+k+(n-k))by omega)];rfl)
theorem zw (a n k:Nat) (hk:1<=k) (hn:k<=n) (h:a+n<=8192):Om [((a:Int),(n:Int))] k=[((a:Int),(k:Int))]:=
 pV a k hk a? (fun m _=>by
  unfold A9
  have hc:∀j,PM (OE [((a:Int),(n:Int))]) j=min j (a+n)-min j a:=fun j=>by
   rw[<-xL a n j]
   exact tj j (fun m _=>kZ a n m)
  rw[kZ,hc]
  by_cases h1:a<=m/\m<a+n
  .rw[MV h1,Bool.true_and]
   by_cases h2:m<a+k
   .rw[MV a?,MV a?]
   .rw[MS a?,MS a?]
  .rw[MS h1,Bool.false_and,MS (show ¬(a<=m/\m<a+k)by omega)])
def cK:List UInt8:=List.replicate 200 0
def eR:VC:=⟨3,0,[97],cK⟩
def fV:ag:=⟨3,0,[97],200,[(4,2)]⟩
theorem AX:az fV=true:=d?
theorem JR:az eR.told=true:=d?
theorem pG:OL cf:=⟨⟨d?,fun a ha=>V!,List.Pairwise.nil⟩,⟨d?,fun a ha=>by cases ha⟩,⟨d?,fun a ha=>V!,List.Pairwise.nil⟩,⟨d?,fun a ha=>by cases ha⟩,⟨d?,fun a ha=>V!,List.Pairwise.nil⟩⟩
theorem M77 {A:Prop}(h:A:=by
 unfold Oc
 rw[if_neg b?,if_neg (by
  rintro(hh|hh)
  .have⟨y,hy,_⟩:=SO.1 hh
   cases hy
  .exact absurd hh (by show ¬(0:Int)<0;decide)),if_neg b?]
 rfl):A:=h
theorem Lk:aW cf eR.told=(⟨1,1,[],[],[⟨0,[97],0,[]⟩]⟩,0):=by
 have e:Oc [] (ag.item eR.told) 0 256 false=([⟨0,[97],0,[]⟩],0):=by
  exact M77
 show(if(3:Int)=1 then _ else if(3:Int)=2 then _ else if(3:Int)=3 then({cf with names:=(Oc [] (ag.item eR.told) 0 256 false).1},(Oc [] (ag.item eR.told) 0 256 false).2)else _)=_
 rw[if_neg d?,if_neg d?,if_pos rfl,e]
 rfl
theorem Ll:aW cf fV=(⟨1,1,[],[],[⟨0,[97],200,[(4,2)]⟩]⟩,0):=by
 have e:Oc [] (ag.item fV) 0 256 false=([⟨0,[97],200,[(4,2)]⟩],0):=by
  exact M77
 show(if(3:Int)=1 then _ else if(3:Int)=2 then _ else if(3:Int)=3 then({cf with names:=(Oc [] (ag.item fV) 0 256 false).1},(Oc [] (ag.item fV) 0 256 false).2)else _)=_
 rw[if_neg d?,if_neg d?,if_pos rfl,e]
 rfl
theorem II:N8 cf [eR.told]=(⟨1,1,[],[],[⟨0,[97],0,[]⟩]⟩,0):=by
 unfold N8
 rw[if_pos pG]
 show(if az eR.told=true then if(aW cf eR.told).2=0 then cH (aW cf eR.told).1 []else _ else _)=_
 rw[if_pos JR,Lk,if_pos rfl]
 rfl
theorem zX:N8 cf [fV]=(⟨1,1,[],[],[⟨0,[97],200,[(4,2)]⟩]⟩,0):=by
 unfold N8
 rw[if_pos pG]
 show(if az fV=true then if(aW cf fV).2=0 then cH (aW cf fV).1 []else _ else _)=_
 rw[if_pos AX,Ll,if_pos rfl]
 rfl
theorem wH (d dead):Oh ⟨d,dX 12 2,cf,dead⟩=[(4,8)]:=AV 4 8 a? a?
theorem Jo (d dead s) (h1:s.journal=2) (h2:s.sectors=12) (h3:s.runs=[]):Oh ⟨d,s,⟨1,1,[],[],[⟨0,[97],200,[(4,2)]⟩]⟩,dead⟩=[(6,6)]:=by
 unfold Oh
 rw[h1,h2,h3]
 exact CY 4 8 2 a? a?
theorem J2:dO [(4,2)] (12:Nat) (cK.length:Nat):=by
 refine⟨a?,d?,⟨fun a ha=>?_,List.pairwise_singleton _ _⟩,?_⟩
 .obtain rfl:=Nm.1 ha
  unfold gQ
  omega
 .have:=mh 4 2 a? a?
  rw[show(([(4,2)]:List (Int×Int)))=[(((4:Nat):Int),((2:Nat):Int))]from rfl,this]
  show((2:Nat):Int)=On ((List.replicate 200 (0:UInt8)).length:Int)
  rw[Np]
  decide
theorem tI:cX [fV]=0/\(Pv [fV]).length<=256:=by
 have h1:cX [fV]=0:=by
  unfold cX
  rw[if_neg d?,if_pos (by simp[AX])]
 refine⟨h1,?_⟩
 unfold Pv
 rw[if_pos h1]
 have hb:=vC (l:=[fV]) (fun r hr=>by
  obtain rfl:=Nm.1 hr
  exact jU AX ⟨d?,d?,by unfold maxLen;decide,d?⟩)
 have e1:[fV].length=1:=rfl
 unfold fZ
 simp only[tN,ak]
 omega
theorem ui (d):P5 cf [eR]=0/\gW (Oh ⟨d,dX 12 2,cf,false⟩) [eR]/\Ob (Oh ⟨d,dX 12 2,cf,false⟩) [eR] [eR].length=([fV],Pr [(4,8)] [(4,2)]):=by
 have hp:Ob (Oh ⟨d,dX 12 2,cf,false⟩) [eR] [eR].length=([fV],Pr [(4,8)] [(4,2)]):=by
  rw[wH]
  have e1:On (eR.bytes.length:Int)=2:=by show On ((List.replicate 200 (0:UInt8)).length:Int)=2;rw[Np];decide
  have e2:Om [(4,8)] 2=[(4,2)]:=zw 4 8 2 a? a? a?
  show jL ([],[(4,8)]) eR=_
  unfold jL
  rw[if_pos d?,e1,e2]
  rfl
 have Wm:gW (Oh ⟨d,dX 12 2,cf,false⟩) [eR]:=by
  intro k hk _
  obtain rfl:k=0:=by simpa using hk
  rw[wH]
  have e1:On (eR.bytes.length:Int)=2:=by show On ((List.replicate 200 (0:UInt8)).length:Int)=2;rw[Np];decide
  show OT [(4,8)] (On (eR.bytes.length:Int))=0
  rw[e1]
  have e2:Om [(4,8)] 2=[(4,2)]:=zw 4 8 2 a? a? a?
  have e3:OV [(4,8)]=8:=mh 4 8 a? a?
  exact(zA a? (by rw[e3];decide) (by rw[e2];decide)).1
 have hw:P5 cf [eR]=0:=by
  unfold P5
  rw[if_neg b?,if_pos d?]
  show(N8 cf [eR.told]).2=0
  rw[II]
 exact⟨hw,Wm,hp⟩
open Classical in
theorem Ge (h:bk d) (hn:d.stand.length=12):(eX ⟨d,dX 12 2,cf,false⟩ [eR]).2=0/\OV (Oh (eX ⟨d,dX 12 2,cf,false⟩ [eR]).1)=6/\(eX ⟨d,dX 12 2,cf,false⟩ [eR]).1.s.may/\cQ (eX ⟨d,dX 12 2,cf,false⟩ [eR]).1.c<=1000:=by
 have⟨hw,Wm,hp⟩:=ui d
 have Q0:=wU h (l:=[(4,2)]) (s:=cK) (by rw[hn];exact J2)
 have hq1:=(ns (P:=fun _=>False) h [(4,2)] cK (fun k hk=>hk.elim)).1
 have hf:=hq1.quiet.th
 have Wu:=(fH (P:=fun _=>False) hq1.quiet).1
 have Qf:=rz (v:=⟨(aA (OQ d [(4,2)] cK).1).1,dX 12 2,cf,false⟩) Wu.quiet (c:=⟨1,1,[],[],[⟨0,[97],200,[(4,2)]⟩]⟩) (tx:=Pv [fV]) (by
  show bo (aA (OQ d [(4,2)] cK).1).1.stand.length 2 0=0
  rw[Wu.len,hq1.len,hn];decide) (by have:=tI.2;show _<=128*(2:Int)-0;omega) (by show 0<=16;omega)
 have hc:=tz Qf.1
 have P9:OH (gP [eR] [fV]++[aZ aA,bg ⟨1,1,[],[],[⟨0,[97],200,[(4,2)]⟩]⟩ (Pv [fV])]) ⟨d,dX 12 2,cf,false⟩=((bg ⟨1,1,[],[],[⟨0,[97],200,[(4,2)]⟩]⟩ (Pv [fV]) ⟨(aA (OQ d [(4,2)] cK).1).1,dX 12 2,cf,false⟩).1,0):=by
  show(if(OQ d [(4,2)] cK).2=0 then(if(aA (OQ d [(4,2)] cK).1).2=0 then(if(bg ⟨1,1,[],[],[⟨0,[97],200,[(4,2)]⟩]⟩ (Pv [fV]) ⟨(aA (OQ d [(4,2)] cK).1).1,dX 12 2,cf,false⟩).2=0 then _ else _)else _)else _)=_
  rw[if_pos Q0,if_pos (show(aA (OQ d [(4,2)] cK).1).2=0 from hf),if_pos Qf.1]
  rfl
 have hch:eX ⟨d,dX 12 2,cf,false⟩ [eR]=Qk ((bg ⟨1,1,[],[],[⟨0,[97],200,[(4,2)]⟩]⟩ (Pv [fV]) ⟨(aA (OQ d [(4,2)] cK).1).1,dX 12 2,cf,false⟩).1,0):=by
  unfold eX
  rw[hp]
  simp only
  rw[if_neg b?,if_neg (by rw[hw];simp),if_neg (by simpa using Wm),zX]
  simp only
  rw[if_neg b?,if_neg (by rw[tI.1];simp),if_pos (by have:=tI.2;show _<=(2:Int)*128-0;omega),P9]
 rw[hch]
 refine⟨rfl,?_,?_,?_⟩
 rotate_left
 .show(bg _ _ _).1.s.may
  rw[Qf.2]
  have:=tI.2
  exact uW (qh a? a? a? a?) (by show(0:Int)<=0+(Pv [fV]).length;omega) (by show(0:Int)+(Pv [fV]).length<=2*128;omega)
 .show cQ (bg _ _ _).1.c<=1000
  rw[hc.1]
  decide
 have e:Oh (Qk ((bg ⟨1,1,[],[],[⟨0,[97],200,[(4,2)]⟩]⟩ (Pv [fV]) ⟨(aA (OQ d [(4,2)] cK).1).1,dX 12 2,cf,false⟩).1,0)).1=[(6,6)]:=by
  generalize hA:bg ⟨1,1,[],[],[⟨0,[97],200,[(4,2)]⟩]⟩ (Pv [fV]) ⟨(aA (OQ d [(4,2)] cK).1).1,dX 12 2,cf,false⟩=A at Qf hc ⊢
  obtain⟨⟨d',s',c',dd'⟩,code⟩:=A
  obtain rfl:c'=_:=hc.1
  obtain rfl:s'=_:=Qf.2
  exact Jo _ _ _ rfl rfl rfl
 rw[e]
 exact mh 6 6 a? a?
def le (l:List UInt8) (at_ n:Nat):Nat:=RN ((l.drop at_).take n)
def Pd (l:List UInt8):Nat->List (Int×Int)
 |0=>[]
 |k+1=>Pd l k++[(((le l (36+4*k) 2:Nat):Int),((le l (38+4*k) 2:Nat):Int))]
theorem jP (l k):(Pd l k).length=k:=by
 induction k with
 |zero=>rfl
 |succ k ih=>grind [Pd]
def PS (l:List UInt8):SB:=⟨le l 8 8,(le l 16 4:Nat),(le l 20 4:Nat),(le l 24 4:Nat),(le l 28 4:Nat),Pd l (le l 32 2)⟩
def ff (l:List UInt8):Prop:=l.length=128/\le l 32 2<=16/\(PS l).may/\(PS l).aT=l
theorem iN (l a n):le l a n<256^n:=by
 grind [le,MR,mO,Nat.pow_le_pow_right,MO]
theorem Lm (A B n k a) (h:n<256^k) (ha:A.length=a):le (A++(NT n k++B)) a k=n:=by
 grind [le,ak,xA,Nat.mod_eq_of_lt]
theorem wu (s:SB):∃T,s.aT=fe++(NT s.seq 8++(NT s.sectors.toNat 4++(NT s.journal.toNat 4++(NT s.used.toNat 4++(NT s.size.toNat 4++(NT s.runs.length 2++(NT 0 2++(eB s.runs++T)))))))):=by
 refine⟨List.replicate (124-(s.body.length:Int)).toNat 0++NT (PE (Pg s.body 124)) 4,?_⟩
 unfold SB.aT dF
 simp[Pg,SB.body]
theorem Cb (s:SB) (h:s.runs.length<65536):le s.aT 32 2=s.runs.length:=by
 obtain⟨T,e⟩:=wu s
 have:=Lm (fe++NT s.seq 8++NT s.sectors.toNat 4++NT s.journal.toNat 4++NT s.used.toNat 4++NT s.size.toNat 4) (NT 0 2++(eB s.runs++T)) s.runs.length 2 32 a? L?
 simp_all
def gF:SB:=⟨0,0,0,0,0,[]⟩
def lJ (l:List UInt8):Prop:=ff l/\(PS l).seq%2=0
def nT (l:List UInt8):Prop:=ff l/\(PS l).seq%2=1
def tC (a b:List UInt8) (o:Option (List UInt8)):Prop:=
 (o=none/\¬lJ a/\¬nT b)\/(o=some a/\lJ a/\¬(nT b/\(PS a).seq<(PS b).seq))\/(o=some b/\nT b/\¬(lJ a/\(PS b).seq<(PS a).seq))
def mK:Option (List UInt8)->SB
 |none=>gF
 |some l=>PS l
theorem SB.Ce (s:SB):s.same s=true:=by
 unfold SB.same;simp
def fO (ok bad:Value) (a b:List UInt8) (w:World) (e:Ending) (w':World):Prop:=
 (∃o v,tC a b o/\e=.returned (.tuple #[.agg ((mK o).cells v),if o.isSome then ok else bad])/\af w' v (mK o).runs w w')/\NP [] w w'
def jH (ok bad:Value) (l:List UInt8) (w:World) (e:Ending) (w':World):Prop:=
 ((ff l/\∃v,e=.returned (.tuple #[.agg ((PS l).cells v),ok])/\af w' v (PS l).runs w w')\/(¬ff l/\e=.returned (.tuple #[.agg (gF.cells ()),bad])))/\NP [] w w'
theorem ji {ok bad l w'} (h:¬ff l) (hk:NP [] w w'):jH ok bad l w (.returned (.tuple #[.agg #[.int .u64 0,(0:Int),(0:Int),(0:Int),(0:Int),()],bad])) w':=⟨Or.inr ⟨h,rfl⟩,hk⟩
theorem yQ (l):(PS l).runs=Pd l (le l 32 2):=rfl
theorem sM (k:Int) (x:NS) (xv:Value) (w:World) (hs:fP xv):am! 256 #[k,.agg (x.cells xv)] w fun e w'=>e=.returned (.agg ((x.told k).cells xv))/\NP [] w w':=by
 obtain⟨p,n,c,rfl⟩:=hs
 have oX:=ae.new w (x.cells (p,n,c)) 113
 unfold NS.cells at oX
 have⟨x0,x1,x2,x3⟩:=oX.c4
 clear oX
 unfold NS.told ag.cells NS.cells
 go_enter func256,ntmps256
 go_wp2_with fail
 have o2:=ae.new (w.alloc (.cells #[(x.id,()),x.name,x.size,(p,n,c)] 113)) #[k,(x.id,()),x.name,x.size,(p,n,c)] 102
 simp only[Nd]at o2
 refine MN (v:=.agg #[k,(x.id,()),x.name,x.size,(p,n,c)]) (iu results256 rfl (t:=102) ?_ underlying102 rfl c?) rfl ⟨rfl,?_⟩
 .exact o2
 .exact((NP.refl _ _).alloc _).alloc _
theorem M88 (h:A:=by
 go_enter func126,ntmps126
 go_wp2_with fail
 go_ret
 exact⟨rfl,K0.out⟩):A:=h
theorem Cv (a b va vb w) (h:bd w (a,va)) (h':bd w (b,vb)) (hl:a.runs.length<=1000000) (hm:b.runs.length<=1000000):
  am! 126 #[.agg (a.cells va),.agg (b.cells vb)] w fun e w'=>e=.returned (.bool (a.same b))/\NP [] w w':=by
 have hc:=NS.four a b
 have hq:=fun w' (hk:NP [] w w')=>uG va vb a.runs b.runs _ _ _ _ w' (h.1.kept0 hk) (h'.1.kept0 hk) hl hm
 have HQ:=tK hq
 have⟨pa,ca,e1⟩:=h.1.shape
 have⟨pb,cb,e2⟩:=h'.1.shape
 simp only at e1 e2
 subst e1 e2
 have⟨aid,an,asz,ar⟩:=a
 have⟨bid,bn,bsz,br⟩:=b
 simp only at hc HQ hl hm
 unfold NS.cells
 simp only
 generalize NS.same ⟨aid,an,asz,ar⟩ ⟨bid,bn,bsz,br⟩=SM at*
 have k0:=((NP.refl [] w).alloc (.cells #[(aid,()),an,asz,(pa,ar.length,ca)] 113)).alloc (.cells #[(bid,()),bn,bsz,(pb,br.length,cb)] 113)
 have⟨oA,oB⟩:=ch w #[(aid,()),an,asz,(pa,ar.length,ca)] #[(bid,()),bn,bsz,(pb,br.length,cb)] 113 113
 have⟨a0,a1,a2,a3⟩:=oA.c4
 have⟨b0,b1,b2,b3⟩:=oB.c4
 have K0:=tK k0
 have hq0:=HQ.out _ k0
 have HQ0:=tK hq0
 clear h h' hq oA oB k0 hq0 HQ
 rcases hc with⟨h1,rfl⟩|⟨h1,h2,rfl⟩|⟨h1,h2,h3,rfl⟩|⟨h1,h2,h3,rfl⟩
 .skip
  exact M88
 .have⟨g1,g2⟩:=iY an bn h2
  exact M88
 .have⟨g1,g2⟩:=iY an bn h2
  exact M88
 .have⟨g1,g2⟩:=iY an bn h2
  go_enter func126,ntmps126
  go_wp2_with fail
  refine HQ0.out.mono ?_;rintro e w2 ⟨rfl,k2⟩
  have KK:=tK (K0.out.trans k2)
  go_wp2_with fail
  go_ret
  exact⟨rfl,KK.out⟩
def qX (l:List NS) (x:NS):Int:=if PJ l x<l.length then(PJ l x:Int)else -1
def fY (l:List NS) (x:NS) (w:World) (e:Ending) (w':World):Prop:=e=(qX l x:Int)/\NP [] w w'
theorem JG {l x w w'} (h:∀j (hj:j<l.length),cO l[j] x=false) (q:NP [] w w'):fY l x w (.returned (-1:Int)) w':=by
 have e:PJ l x=l.length:=zH (MG _) (fun j hj=>h j hj) (fun hh=>absurd hh (Nat.lt_irrefl _))
 unfold fY qX
 rw[if_neg a?]
 exact⟨rfl,q⟩
theorem Hp {l x} {k:Nat} {w w'} (hk:k<l.length) (h:∀j (hj:j<l.length),j<k->cO l[j] x=false) (hx:cO l[k] x=true) (q:NP [] w w'):fY l x w (.returned (k:Int)) w':=by
 have e:PJ l x=k:=zH (Nat.le_of_lt hk) (fun j hj=>h j a? hj) (fun _=>hx)
 unfold fY qX
 rw[e,if_pos hk]
 exact⟨rfl,q⟩
theorem DE (a b):((a.id==b.id)=false/\cO a b=false)\/((a.id==b.id)=true/\(a.name==b.name)=false/\cO a b=false)\/((a.id==b.id)=true/\(a.name==b.name)=true/\cO a b=true):=by
 unfold cO
 cases a.id==b.id<;>cases a.name==b.name<;>simp
theorem M95 (h:A:=by
 go_wp2_with fail
 go_roundw
 case rel=>exact⟨k+1,Of.out,j?,HN.out,SI.out⟩
 case measure=>(have h:=Of.out;simp[intOf];omega)):A:=h
theorem L0 (v l x w) (h:aU w v l) (hl:l.length<=1000000):
  am! 216 #[v,(x.id,()),x.name] w (fY l x w):=by
 obtain⟨pa,ca,rfl⟩:=h.shape
 have H:=tK h
 have Tg:(l.length:Int)<=1000000:=a?
 clear h
 go_enter func216,ntmps216
 go_wp2_with fail
 go_loopw [7] (fun i wr=>∃k:Nat,k<=l.length/\i=(k:Int)/\(∀j (hj:j<l.length),j<k->cO l[j] x=false)/\NP [] w wr) (fun i _=>l.length-(intOf i).toNat)
 case atStart=>exact⟨0,Nb _,rfl,fun j hj h=>absurd h (Nat.not_lt_zero j),NP.refl _ _⟩
 case round=>
  obtain⟨k,hk,rfl,OF,hK⟩:=hrel
  by_cases NV:k<l.length
  .obtain⟨b,off,kv,rfl,hia,hb,RU,hc2,HA⟩:=H.out.ja k NV
   have⟨x0,x1,x2,x3⟩:=HA wr hK
   have hc:=DE (l[k]'NV) x
   have⟨Pk,SI,Of⟩:=gg! OF hK NV
   have i1:(k:Int)<l.length:=a?
   have Wv:Hid (cO (l[k]'NV) x=true->∀w',NP [] w w'->fY l x w (.returned (k:Int)) w'):=tK (fun he w' q=>Hp NV OF he q)
   have RA:Hid (cO (l[k]'NV) x=false->∀j (hj:j<l.length),j<k+1->cO l[j] x=false):=tK (fun he j hj hjk=>by
    by_cases e:j=k
    .subst e;exact he
    .exact OF j hj a?)
   clear hia OF HA hb hK
   generalize hLA:l[k]'NV=A at*
   clear hLA NV
   rcases hc with⟨h1,h2⟩|⟨h1,h2,h3⟩|⟨h1,h2,h3⟩
   .have HN:=tK (RA.out h2)
    clear h2
    exact M95
   .have HN:=tK (RA.out h3)
    have⟨g1,g2⟩:=iY _ _ h2
    clear h2 h3
    exact M95
   .have HY:=tK (Wv.out h3)
    have⟨g1,g2⟩:=iY _ _ h2
    clear h2 h3
    go_wp2_with fail
    go_ret
    exact HY.out _ SI.out
  .obtain rfl:k=l.length:=a?
   have HN:Hid (fY l x w (.returned (-1:Int)) wr):=tK (JG (fun j hj=>OF j hj hj) hK)
   have i1:¬(l.length:Int)<l.length:=a?
   clear OF hK
   go_wp2_with fail
   go_ret
   exact HN.out
theorem nt (va vb l m w) (h:aU w va l) (h':aU w vb m) (hl:jk l) (hm:jk m):
  am! 66 #[va,vb] w (bG (l=m) w):=by
 obtain⟨pa,ca,rfl⟩:=h.shape
 obtain⟨pb,cb,rfl⟩:=h'.shape
 have⟨H,H2,HL,HM⟩:=gh! h h' hl hm
 have j1:(l.length:Int)<=1000000:=by have:=hl.1;omega
 have j2:(m.length:Int)<=1000000:=by have:=hm.1;omega
 have S2:=Cv
 have ZP:=tK S2
 clear h h' hl hm S2
 by_cases Pb:l.length=m.length
 .have abX:Hid (l.length=m.length):=tK Pb
  rw[<-Pb]
  clear Pb j2
  go_enter func66,ntmps66
  go_wp2_with fail
  go_loopw [5] (fun i wr=>∃k:Nat,k<=l.length/\i=(k:Int)/\l.take k=m.take k/\NP [] w wr) (fun i _=>l.length-(intOf i).toNat)
  case atStart=>exact⟨0,Nb _,rfl,rfl,NP.refl _ _⟩
  case round=>
   obtain⟨k,hk,rfl,PF,hK⟩:=hrel
   by_cases NV:k<l.length
   .have TZ:k<m.length:=by have:=abX.out;omega
    obtain⟨b,off,kva,rfl,hia,hb,RU,hc2,HA⟩:=H.out.ja k NV
    obtain⟨b',off',kvb,rfl,Rr,UR,hc1',hc2',HB⟩:=H2.out.ja k TZ
    have W9:=fun W (q:NP [] w W)=>ZP.out (l[k]'NV) (m[k]'TZ) kva kvb W (hia.kept0 q) (Rr.kept0 q) (HL.out.2 _ (MJ NV)) (HM.out.2 _ (MJ TZ))
    obtain⟨p1,n1,c1,rfl⟩:=hia.fz
    obtain⟨p2,n2,c2,rfl⟩:=Rr.fz
    obtain⟨S,hS⟩:∃S,NS.same (l[k]'NV) (m[k]'TZ)=S:=⟨_,rfl⟩
    have hSe:S=true↔l[k]'NV=m[k]'TZ:=by rw[<-hS];exact NS.Ep
    simp only[hS]at W9
    have i1:(k:Int)<l.length:=a?
    unfold NS.cells at W9
    have⟨HSA,HSE,Sm,SI,V9,Zd⟩:=gj! W9 hSe PF hK HA HB
    clear hia Rr W9 hS hSe PF hK HA HB hb UR
    generalize hLA:l[k]'NV=A at*
    generalize hLB:m[k]'TZ=B at*
    have⟨HLA,HLB⟩:=f? hLA hLB
    have Of:=tK (And.intro NV TZ)
    clear hLA hLB
    go_wp2_with fail
    refine MK (S:=(fun W=>W.cell? (aa b (off+k*4))=(A.id,())/\W.cell? (aa b (off+k*4+1))=A.name/\W.cell? (aa b (off+k*4+2))=A.size/\W.cell? (aa b (off+k*4+3))=(p1,n1,c1)/\W.cell? (aa b' (off'+k*4))=(B.id,())/\W.cell? (aa b' (off'+k*4+1))=B.name/\W.cell? (aa b' (off'+k*4+2))=B.size/\W.cell? (aa b' (off'+k*4+3))=(p2,n2,c2))) c? (by(have⟨x0,x1,x2,x3⟩:=V9.out _ SI.out.drew;have⟨y0,y1,y2,y3⟩:=Zd.out _ SI.out.drew;exact⟨x0,x1,x2,x3,y0,y1,y2,y3⟩)) (fun hHeld=>?_)
    refine tS ?_
    refine rD 8 (fun K hK=>?_)
    go_simp
    ((with_reducible refine(HSA.out _ SI.out.drew).mono ?_));rintro e w2 ⟨rfl,k2⟩
    have KK:=tK (SI.out.drew.trans k2)
    go_wp2_with fail
    refine hK.out _ _ ?_ (fun hHeld=>nM ?_)
    ·(have⟨x0,x1,x2,x3⟩:=V9.out _ KK.out;have⟨y0,y1,y2,y3⟩:=Zd.out _ KK.out;exact⟨x0,x1,x2,x3,y0,y1,y2,y3⟩)
    clear hK K
    refine tS ?_
    refine Ng c? ?_ _
    cases S with
    |true=>
     go_wp2_with fail
     go_roundw
     case rel=>exact⟨k+1,Of.out.1,j?,B6 Of.out.1 Of.out.2 Sm.out (by rw[HLA.out,HLB.out];exact HSE.out.1 b?),KK.out⟩
     case measure=>(have h:=Of.out.1;simp[intOf];omega)
    |false=>
     go_wp2_with fail
     go_ret
     exact aX (fun e=>by subst e;have h1:=HLA.out;have h2:=HLB.out;rw[h1]at h2;have:=HSE.out.2 h2;cases this) KK.out
   .obtain rfl:k=l.length:=a?
    have he:l=m:=by
     rw[MU,abX.out,MU]at PF
     exact PF
    have HE:=tK he
    have i1:¬(l.length:Int)<l.length:=a?
    clear PF he
    go_wp2_with fail
    go_ret
    exact gu HE.out hK
 .have afw:¬(l.length:Int)=m.length:=a?
  have WJ:=tK Pb
  clear Pb
  go_enter func66,ntmps66
  go_wp2_with fail
  go_ret
  exact aX (fun e=>WJ.out (by rw[e])) (NP.refl _ _)
theorem EH (va vb a b w) (h:dJ w va a) (h':dJ w vb b) (hl:ie a) (hm:ie b):
  am! 18 #[va,vb] w (bG (a=b) w):=by
 have hc:=au.qG a b
 obtain⟨b1,m1,n1,rfl,TG,Ty,QX,_⟩:=h
 obtain⟨b2,m2,n2,rfl,Q3,QL,QU,_⟩:=h'
 have HB:=tK fun W q=>nt _ _ _ _ W (TG.kept0 q) (Q3.kept0 q) hl.1 hm.1
 have HM:=tK fun W q=>nt _ _ _ _ W (Ty.kept0 q) (QL.kept0 q) hl.2.1 hm.2.1
 have HN:=tK fun W q=>nt _ _ _ _ W (QX.kept0 q) (QU.kept0 q) hl.2.2 hm.2.2
 obtain⟨p1,c1,rfl⟩:=TG.shape
 obtain⟨p2,c2,rfl⟩:=Ty.shape
 obtain⟨p3,c3,rfl⟩:=QX.shape
 obtain⟨q1,d1,rfl⟩:=Q3.shape
 obtain⟨q2,d2,rfl⟩:=QL.shape
 obtain⟨q3,d3,rfl⟩:=QU.shape
 unfold bG at HB HM HN
 clear TG Ty QX Q3 QL QU hl hm
 obtain⟨Q,hQ⟩:∃Q:Prop,(a=b)=Q:=⟨_,rfl⟩
 obtain⟨QB,hQB⟩:∃Q:Prop,(a.boxes=b.boxes)=Q:=⟨_,rfl⟩
 obtain⟨QM,hQM⟩:∃Q:Prop,(a.mans=b.mans)=Q:=⟨_,rfl⟩
 obtain⟨QN,hQN⟩:∃Q:Prop,(a.names=b.names)=Q:=⟨_,rfl⟩
 have HQ0:Hid (((a.nextBox==b.nextBox)=false/\¬Q)\/((a.nextBox==b.nextBox)=true/\(a.nextMan==b.nextMan)=false/\¬Q)\/((a.nextBox==b.nextBox)=true/\(a.nextMan==b.nextMan)=true/\(Q↔QB/\QM/\QN))):=by
  rw[<-hQ,<-hQB,<-hQM,<-hQN];exact hc
 rw[hQ]
 rw[hQB]at HB
 rw[hQM]at HM
 rw[hQN]at HN
 clear hc hQ hQB hQM hQN
 generalize a.nextBox=nb at*
 generalize a.nextMan=nm at*
 generalize b.nextBox=nb2 at*
 generalize b.nextMan=nm2 at*
 generalize a.boxes.length=l1 at*
 generalize a.mans.length=l2 at*
 generalize a.names.length=l3 at*
 generalize b.boxes.length=l4 at*
 generalize b.mans.length=l5 at*
 generalize b.names.length=l6 at*
 have⟨oA,oB⟩:=ch w #[(nb,()),(nm,()),(p1,l1,c1),(p2,l2,c2),(p3,l3,c3)] #[(nb2,()),(nm2,()),(q1,l4,d1),(q2,l5,d2),(q3,l6,d3)] 52 52
 have k0:=((NP.refl [] w).alloc (.cells #[(nb,()),(nm,()),(p1,l1,c1),(p2,l2,c2),(p3,l3,c3)] 52)).alloc (.cells #[(nb2,()),(nm2,()),(q1,l4,d1),(q2,l5,d2),(q3,l6,d3)] 52)
 have K0:=tK k0
 have⟨x0,x1,x2,x3,x4⟩:=oA.k5
 have⟨y0,y1,y2,y3,y4⟩:=oB.k5
 have⟨OA,OB⟩:=f? oA oB
 clear k0 oA oB
 rcases HQ0.out with⟨h1,h2⟩|⟨h1,h3,h2⟩|⟨h1,h3,h2⟩
 .have Rs:=tK h2
  clear h2 HQ0
  go_enter func18,ntmps18
  go_wp2_with fail
  go_ret
  exact aX Rs.out K0.out
 .have Rs:=tK h2
  clear h2 HQ0
  go_enter func18,ntmps18
  go_wp2_with fail
  go_ret
  exact aX Rs.out K0.out
 .have HQ2:=tK h2
  clear h2 HQ0
  go_enter func18,ntmps18
  go_wp2_with fail
  refine(HB.out _ K0.out).mono ?_;rintro e w2 ⟨r1,rfl,e1,k2⟩
  have K2:=tK (K0.out.trans k2)
  have E1:=tK e1
  have oA2:=k2.own OA.out b?
  have oB2:=k2.own OB.out b?
  have⟨x0,x1,x2,x3,x4⟩:=oA2.k5
  have⟨y0,y1,y2,y3,y4⟩:=oB2.k5
  have⟨UW,XS⟩:=f? oA2 oB2
  clear e1 oA2 oB2
  cases r1 with
  |false=>
   go_wp2_with fail
   go_ret
   exact aX (fun q=>by have:=E1.out.2 (HQ2.out.1 q).1;cases this) K2.out
  |true=>
   go_wp2_with fail
   refine(HM.out _ K2.out).mono ?_;rintro e w3 ⟨r2,rfl,e2,k3⟩
   have K3:=tK (K2.out.trans k3)
   have E2:=tK e2
   have oA3:=k3.own UW.out b?
   have oB3:=k3.own XS.out b?
   have⟨x0,x1,x2,x3,x4⟩:=oA3.k5
   have⟨y0,y1,y2,y3,y4⟩:=oB3.k5
   clear e2 oA3 oB3
   cases r2 with
   |false=>
    go_wp2_with fail
    go_ret
    exact aX (fun q=>by have:=E2.out.2 (HQ2.out.1 q).2.1;cases this) K3.out
   |true=>
    go_wp2_with fail
    refine(HN.out _ K3.out).mono ?_;rintro e w4 ⟨r3,rfl,e3,k4⟩
    have K4:=tK (K3.out.trans k4)
    have E3:=tK e3
    clear e3
    go_wp2_with fail
    go_ret
    exact⟨r3,rfl,⟨fun q=>HQ2.out.2 ⟨E1.out.1 b?,E2.out.1 b?,E3.out.1 q⟩,fun q=>E3.out.2 (HQ2.out.1 q).2.2⟩,K4.out⟩
def dB (w0 w:World) (v:Value) (l:List ag):Prop:=
 ∃vs,vs.map (·.1)=l/\w.ownsRow w0 102 5 v vs.length (bw vs)/\(∀x∈vs,af w0 x.2 x.1.runs 0 w0.heap.size/\x.1.fits)/\NP [] w0 w
theorem dB.nil (w):dB w w () []:=⟨[],rfl,Nf _ _ _ _,fun x hx=>J!,NP.refl _ _⟩
theorem dB.val {w0 v l} (h:dB w0 w v l):bX w v l 0 w:=by
 obtain⟨vs,rfl,h3,h4,h5⟩:=h
 exact M22
theorem dB.snoc {w0 w6 v6 kv vs r} (hvr:∀x∈vs,af w0 x.2 x.1.runs 0 w0.heap.size/\x.1.fits) (hn:af w0 kv r.runs 0 w0.heap.size/\r.fits) (ho:w6.ownsRow w0 102 5 v6 (vs.length+1) (bw vs++[Value.int .i64 r.kind,Value.int .u32 r.id,Value.string (bs r.name),Value.int .i64 r.size,kv])) (k:NP [] w0 w6) {L} (hL:vs.map (·.1)=L):dB w0 w6 v6 (L++[r]):=by
 refine⟨vs++[(r,kv)],by rw[M0,hL];rfl,?_,?_,k⟩
 .rw[eF,tN,Nq];exact ho
 .intro x hx
  rcases Na.1 hx with hx|hx
  .exact hvr x hx
  .have:x=(r,kv):=h?
   subst this;exact hn
theorem M55 (h:A:=by
 have:=congrArg List.length hvs
 simp only[MP,tN,MO,List.length_nil]at this
 have:=OZ.out
 omega):A:=h
theorem M33 (h:A:=by
 have RA:=tK (HSN.out _ _ o6 Q7)
 obtain⟨p6,c6,rfl⟩:=ah o6
 clear o6 Po Q7 HSN
 go_wp2_with fail
 go_roundw
 case rel=>exact⟨j+1,Of.out,G?,RA.out⟩
 case measure=>(have hh:=Of.out;simp[intOf];omega)):A:=h
theorem xa (v c w) (h:dJ w v c) (hlen:c.boxes.length+c.mans.length+c.names.length<=100000):
  am! 208 #[v] w (fm c w):=by
 have⟨i0,q0,q1,q2,q3⟩:=jB
 obtain⟨vb,vm,vn,rfl,hb,hm,hn,_⟩:=h
 obtain⟨W1,hW1⟩:∃W1,W1=w.alloc (.cells #[(c.nextBox,()),(c.nextMan,()),vb,vm,vn] 52):=⟨_,rfl⟩
 have k1:NP [] w W1:=H?
 have oA:ae W1 w #[(c.nextBox,()),(c.nextMan,()),vb,vm,vn] 52:=U?
 have H2:=tK (hb.kept0 k1)
 have H3:=tK (hm.kept0 k1)
 have H4:=tK (hn.kept0 k1)
 obtain⟨p2,c2,rfl⟩:=hb.shape
 obtain⟨p3,c3,rfl⟩:=hm.shape
 obtain⟨p4,c4,rfl⟩:=hn.shape
 have Ow:Hid (∀W,NP [] W1 W->W.cell? (aa w 2)=(p2,c.boxes.length,c2)/\W.cell? (aa w 3)=(p3,c.mans.length,c3)/\W.cell? (aa w 4)=(p4,c.names.length,c4)):=tK (fun W q=>by
  have⟨_,_,x2,x3,x4⟩:=(q.own oA b?).k5
  exact⟨x2,x3,x4⟩)
 have TK:Hid (w.heap.size<=W1.heap.size):=tK k1.size
 have VF:=tK k1
 have HC:Hid ((([]++c.boxes.map (·.told 1))++c.mans.map (·.told 2))++c.names.map (·.told 3)=Ov c):=tK (by unfold Ov;simp)
 have OZ:=tK hlen
 have g1:(c.boxes.length:Int)<=100000:=a?
 have g2:(c.mans.length:Int)<=100000:=a?
 have g3:(c.names.length:Int)<=100000:=a?
 clear hb hm hn hlen k1 oA
 unfold fm
 generalize Ov c=CR at*
 have⟨nb,nm,LB,LM,LN⟩:=c
 simp only at Ow H2 H3 H4 HC OZ g1 g2 g3 hW1 ⊢
 go_enter func208,ntmps208
 go_wp2_with fail
 rw[<-hW1]
 clear hW1
 have R0:Hid (dB W1 W1 () []):=tK (dB.nil W1)
 have wA:NP [] W1 W1:=NP.refl _ _
 go_loopw [3,4] (fun u i wr=>∃j:Nat,j<=LB.length/\i=(j:Int)/\dB W1 wr u (([]:List ag)++(LB.take j).map (·.told 1))) (fun _ i _=>LB.length-(intOf i).toNat)
 case atStart=>exact⟨0,Nb _,rfl,by simpa using R0.out⟩
 case round=>
  obtain⟨j,hj,rfl,hR⟩:=hrel
  rename World=>wr
  by_cases NV:j<LB.length
  .have i1:(j:Int)<LB.length:=a?
   obtain⟨b,off,kv,rfl,hia,hb,RU,hc2,SA⟩:=H2.out.ja j NV
   have PF:=lY (k:=1) NV
   have⟨vs,hvs,NU,hvr,hK⟩:=hR
   have⟨y0,y1,y2,y3⟩:=SA wr hK
   have⟨x2,x3,x4⟩:=Ow.out wr hK
   have Rt:=fun W=>sM 1 (LB[j]'NV) kv W hia.fz
   have SF:af W1 kv ((LB[j]'NV).told 1).runs 0 W1.heap.size/\((LB[j]'NV).told 1).fits:=⟨hia.1,NS.dw hia.2.1 d?⟩
   obtain⟨pk,nk,ck,rfl⟩:=hia.fz
   have Y7:vs.length<=100000:=by
    exact M55
   have HSN:Hid (∀w6 v6,w6.ownsRow W1 102 5 v6 (vs.length+1) (bw vs++[Value.int .i64 1,Value.int .u32 (LB[j]'NV).id,Value.string (bs (LB[j]'NV).name),Value.int .i64 (LB[j]'NV).size,.slice pk nk ck])->NP [] W1 w6->dB W1 w6 v6 (([]:List ag)++(LB.take (j+1)).map (·.told 1))):=tK (fun w6 v6 ho k=>by
    rw[PF,<-MW]
    exact dB.snoc hvr SF ho k hvs)
   have HT:=tK Rt
   unfold NS.told ag.cells NS.cells at HT
   have⟨UX,HK,Of⟩:=gg! NU hK NV
   obtain⟨pv,cv,rfl⟩:=ah NU
   have Zp:=tK Y7
   clear hvr SF hvs PF Rt hia SA hb NU hK Y7
   generalize hLA:LB[j]'NV=A at*
   clear hLA
   generalize hVN:vs.length=vn at*
   go_wp2_with fail
   refine(HT.out _).mono ?_;rintro e w3 ⟨rfl,k3⟩
   have Rn:=tK (ax UX.out k3 b?)
   have K3:=tK (HK.out.trans k3)
   have r3:vn+1<=maxLen:=b!
   have r4:(vn+1)*64<=140737488355328:=ag!
   clear k3
   go_wp2_with (at_builtin;go_must (refine MT _ rfl (.tmp 14) (.tmp 21) 92 rfl W1 102 i0 (.agg #[(0:Int),.int .u32 0,.string {data:=#[]},(0:Int),()]) 5 64 underlying92 q0 q1 q2 q3 rfl d? _ _ _ rfl (MH Rn.out _) w3 1 1 [.int .i64 1,.int .u32 A.id,.string (bs A.name),.int .i64 A.size,.slice pk nk ck] rfl rfl ?_ ?_ r3 r4 ?_ ?_))
   .exact World.news_of_block (Ns w3 _)
   .intro u hu;simp at hu;rcases hu with rfl|rfl|rfl|rfl|rfl<;>rfl
   .have:=K3.out.size;simp;omega
   intro v6 w6 o6 Po _ _
   have Q7:=(K3.out.alloc (.cells #[(1:Int),(A.id,()),A.name,A.size,(pk,nk,ck)] 102)).grown Po (fun q hq=>Or.inr (ML Rn.out q hq).1)
   exact M33
  .obtain rfl:j=LB.length:=a?
   rw[MU]at hR
   have R1:=tK hR
   have i1:¬(LB.length:Int)<LB.length:=a?
   have⟨vs,hvs,NU,hvr,hK⟩:=hR
   have K1:=tK hK
   have⟨x2,x3,x4⟩:=Ow.out wr hK
   obtain⟨pv,cv,rfl⟩:=ah NU
   generalize vs.length=vn at*
   clear hvs NU hvr hK NV hj
   go_wp2_with fail
   clear x2 x3 x4 i1
   go_loopw [3,5] (fun u i wr=>∃j:Nat,j<=LM.length/\i=(j:Int)/\dB W1 wr u ((([]:List ag)++LB.map (·.told 1))++(LM.take j).map (·.told 2))) (fun _ i _=>LM.length-(intOf i).toNat)
   case atStart=>exact⟨0,Nb _,rfl,by simpa using R1.out⟩
   case round=>
    obtain⟨j,hj,rfl,hR⟩:=hrel
    rename World=>wr
    by_cases NV:j<LM.length
    .have i1:(j:Int)<LM.length:=a?
     obtain⟨b,off,kv,rfl,hia,hb,RU,hc2,SA⟩:=H3.out.ja j NV
     have PF:=lY (k:=2) NV
     have⟨vs,hvs,NU,hvr,hK⟩:=hR
     have⟨y0,y1,y2,y3⟩:=SA wr hK
     have⟨x2,x3,x4⟩:=Ow.out wr hK
     have Rt:=fun W=>sM 2 (LM[j]'NV) kv W hia.fz
     have SF:af W1 kv ((LM[j]'NV).told 2).runs 0 W1.heap.size/\((LM[j]'NV).told 2).fits:=⟨hia.1,NS.dw hia.2.1 d?⟩
     obtain⟨pk,nk,ck,rfl⟩:=hia.fz
     have Y7:vs.length<=100000:=by
      exact M55
     have HSN:Hid (∀w6 v6,w6.ownsRow W1 102 5 v6 (vs.length+1) (bw vs++[Value.int .i64 2,Value.int .u32 (LM[j]'NV).id,Value.string (bs (LM[j]'NV).name),Value.int .i64 (LM[j]'NV).size,.slice pk nk ck])->NP [] W1 w6->dB W1 w6 v6 ((([]:List ag)++LB.map (·.told 1))++(LM.take (j+1)).map (·.told 2))):=tK (fun w6 v6 ho k=>by
      rw[PF,<-MW]
      exact dB.snoc hvr SF ho k hvs)
     have HT:=tK Rt
     unfold NS.told ag.cells NS.cells at HT
     have⟨UX,HK,Of⟩:=gg! NU hK NV
     obtain⟨pv,cv,rfl⟩:=ah NU
     have Zp:=tK Y7
     clear hvr SF hvs PF Rt hia SA hb NU hK Y7
     generalize hLA:LM[j]'NV=A at*
     clear hLA
     generalize hVN:vs.length=vn at*
     go_wp2_with fail
     refine(HT.out _).mono ?_;rintro e w3 ⟨rfl,k3⟩
     have Rn:=tK (ax UX.out k3 b?)
     have K3:=tK (HK.out.trans k3)
     have r3:vn+1<=maxLen:=b!
     have r4:(vn+1)*64<=140737488355328:=ag!
     clear k3
     go_wp2_with (at_builtin;go_must (refine MT _ rfl (.tmp 30) (.tmp 37) 92 rfl W1 102 i0 (.agg #[(0:Int),.int .u32 0,.string {data:=#[]},(0:Int),()]) 5 64 underlying92 q0 q1 q2 q3 rfl d? _ _ _ rfl (MH Rn.out _) w3 1 1 [.int .i64 2,.int .u32 A.id,.string (bs A.name),.int .i64 A.size,.slice pk nk ck] rfl rfl ?_ ?_ r3 r4 ?_ ?_))
     .exact World.news_of_block (Ns w3 _)
     .intro u hu;simp at hu;rcases hu with rfl|rfl|rfl|rfl|rfl<;>rfl
     .have:=K3.out.size;simp;omega
     intro v6 w6 o6 Po _ _
     have Q7:=(K3.out.alloc (.cells #[(2:Int),(A.id,()),A.name,A.size,(pk,nk,ck)] 102)).grown Po (fun q hq=>Or.inr (ML Rn.out q hq).1)
     exact M33
    .obtain rfl:j=LM.length:=a?
     rw[MU]at hR
     have R2:=tK hR
     have i1:¬(LM.length:Int)<LM.length:=a?
     have⟨vs,hvs,NU,hvr,hK⟩:=hR
     have K2:=tK hK
     have⟨x2,x3,x4⟩:=Ow.out wr hK
     obtain⟨pv,cv,rfl⟩:=ah NU
     generalize vs.length=vn at*
     clear hvs NU hvr hK NV hj
     go_wp2_with fail
     clear x2 x3 x4 i1
     go_loopw [3,6] (fun u i wr=>∃j:Nat,j<=LN.length/\i=(j:Int)/\dB W1 wr u (((([]:List ag)++LB.map (·.told 1))++LM.map (·.told 2))++(LN.take j).map (·.told 3))) (fun _ i _=>LN.length-(intOf i).toNat)
     case atStart=>exact⟨0,Nb _,rfl,by simpa using R2.out⟩
     case round=>
      obtain⟨j,hj,rfl,hR⟩:=hrel
      rename World=>wr
      by_cases NV:j<LN.length
      .have i1:(j:Int)<LN.length:=a?
       obtain⟨b,off,kv,rfl,hia,hb,RU,hc2,SA⟩:=H4.out.ja j NV
       have PF:=lY (k:=3) NV
       have⟨vs,hvs,NU,hvr,hK⟩:=hR
       have⟨y0,y1,y2,y3⟩:=SA wr hK
       have⟨x2,x3,x4⟩:=Ow.out wr hK
       have Rt:=fun W=>sM 3 (LN[j]'NV) kv W hia.fz
       have SF:af W1 kv ((LN[j]'NV).told 3).runs 0 W1.heap.size/\((LN[j]'NV).told 3).fits:=⟨hia.1,NS.dw hia.2.1 d?⟩
       obtain⟨pk,nk,ck,rfl⟩:=hia.fz
       have Y7:vs.length<=100000:=by
        exact M55
       have HSN:Hid (∀w6 v6,w6.ownsRow W1 102 5 v6 (vs.length+1) (bw vs++[Value.int .i64 3,Value.int .u32 (LN[j]'NV).id,Value.string (bs (LN[j]'NV).name),Value.int .i64 (LN[j]'NV).size,.slice pk nk ck])->NP [] W1 w6->dB W1 w6 v6 (((([]:List ag)++LB.map (·.told 1))++LM.map (·.told 2))++(LN.take (j+1)).map (·.told 3))):=tK (fun w6 v6 ho k=>by
        rw[PF,<-MW]
        exact dB.snoc hvr SF ho k hvs)
       have HT:=tK Rt
       unfold NS.told ag.cells NS.cells at HT
       have⟨UX,HK,Of⟩:=gg! NU hK NV
       obtain⟨pv,cv,rfl⟩:=ah NU
       have Zp:=tK Y7
       clear hvr SF hvs PF Rt hia SA hb NU hK Y7
       generalize hLA:LN[j]'NV=A at*
       clear hLA
       generalize hVN:vs.length=vn at*
       go_wp2_with fail
       refine(HT.out _).mono ?_;rintro e w3 ⟨rfl,k3⟩
       have Rn:=tK (ax UX.out k3 b?)
       have K3:=tK (HK.out.trans k3)
       have r3:vn+1<=maxLen:=b!
       have r4:(vn+1)*64<=140737488355328:=ag!
       clear k3
       go_wp2_with (at_builtin;go_must (refine MT _ rfl (.tmp 46) (.tmp 53) 92 rfl W1 102 i0 (.agg #[(0:Int),.int .u32 0,.string {data:=#[]},(0:Int),()]) 5 64 underlying92 q0 q1 q2 q3 rfl d? _ _ _ rfl (MH Rn.out _) w3 1 1 [.int .i64 3,.int .u32 A.id,.string (bs A.name),.int .i64 A.size,.slice pk nk ck] rfl rfl ?_ ?_ r3 r4 ?_ ?_))
       .exact World.news_of_block (Ns w3 _)
       .intro u hu;simp at hu;rcases hu with rfl|rfl|rfl|rfl|rfl<;>rfl
       .have:=K3.out.size;simp;omega
       intro v6 w6 o6 Po _ _
       have Q7:=(K3.out.alloc (.cells #[(3:Int),(A.id,()),A.name,A.size,(pk,nk,ck)] 102)).grown Po (fun q hq=>Or.inr (ML Rn.out q hq).1)
       exact M33
      .obtain rfl:j=LN.length:=a?
       rw[MU]at hR
       have R3:=tK hR
       have i1:¬(LN.length:Int)<LN.length:=a?
       have⟨vs,hvs,NU,hvr,hK⟩:=hR
       have K3:=tK hK
       have⟨x2,x3,x4⟩:=Ow.out wr hK
       obtain⟨pv,cv,rfl⟩:=ah NU
       generalize vs.length=vn at*
       clear hvs NU hvr hK NV hj
       go_wp2_with fail
       go_ret
       have hf:=R3.out
       rw[HC.out]at hf
       exact⟨_,rfl,hf.val,VF.out.trans K3.out⟩
end
end Go.Proofs.YtdkimcnlhmhpgaaGreat

/- -/
import Derived.Test.YtdkimcnlhmhpgaaGreatK31
set_option maxHeartbeats 16000000
set_option maxRecDepth 100000
set_option linter.unusedVariables false
namespace Go.Proofs.YtdkimcnlhmhpgaaGreat
open Go.RowKit
variable {d:DK} {s:SB} {v:VS} {c:aj} {n m q X Y Z:Nat}
theorem iH (h:aF d):(bL d).waits=[]:=by
 unfold bL
 rw[if_neg (by rw[h.down];simp),if_neg (by have:=h.fuse;omega)]
 rfl
theorem tD (h:aF d) (hs:s.sector.length=128) (hn:2<=d.stand.length):(aE s d).1.waits=[]:=by
 have h1:(Nq ((s.seq%2:Nat):Int) s.sector d).2=0:=fo h (by omega) hs
 have h2:=(eD (P:=fun _=>False) h ((s.seq%2:Nat):Int) s.sector (fun k hk=>hk.elim)).1.quiet
 show(if(Nq ((s.seq%2:Nat):Int) s.sector d).2=0 then(if(Ni (Nq ((s.seq%2:Nat):Int) s.sector d).1).2=0 then((Ni (Nq ((s.seq%2:Nat):Int) s.sector d).1).1,(0:Int))else Ni (Nq ((s.seq%2:Nat):Int) s.sector d).1)else Nq ((s.seq%2:Nat):Int) s.sector d).1.waits=[]
 rw[if_pos h1]
 have h3:(Ni (Nq ((s.seq%2:Nat):Int) s.sector d).1).2=0:=h2.ja
 rw[if_pos h3]
 exact iH h2
theorem jN (h:aF d) (hs:s.sector.length=128) (hn:2<=d.stand.length):(ah [Ni,aE s] d).1.waits=[]:=by
 have h1:(Ni d).2=0:=h.ja
 have h2:=(dE (P:=fun _=>False) h).1
 show(if(Ni d).2=0 then(if(aE s (Ni d).1).2=0 then((aE s (Ni d).1).1,(0:Int))else aE s (Ni d).1)else Ni d).1.waits=[]
 rw[if_pos h1,if_pos (lE h2.quiet hs (by rw[h2.len];exact hn))]
 exact tD h2.quiet hs (by rw[h2.len];exact hn)
theorem D4 (h:aF d) (j:Int) (hn:2<=d.stand.length):(cz j d).1.waits=[]:=by
 have hz:Nl.length=128:=by unfold Nl;exact MF
 have q1:=(eD (P:=fun _=>False) h 0 Nl (fun k hk=>hk.elim)).1
 have c1:(Nq 0 Nl d).2=0:=fo h (i:=0) (by omega) hz
 have q2:=(eD (P:=fun _=>False) q1.quiet 1 Nl (fun k hk=>hk.elim)).1
 have c2:(Nq 1 Nl (Nq 0 Nl d).1).2=0:=fo q1.quiet (i:=1) (by rw[q1.len];omega) hz
 have e:cz j d=if(Nq 0 Nl d).2=0 then(if(Nq 1 Nl (Nq 0 Nl d).1).2=0 then ah [Ni,aE (bW d.stand.length j)] (Nq 1 Nl (Nq 0 Nl d).1).1 else Nq 1 Nl (Nq 0 Nl d).1)else Nq 0 Nl d:=rfl
 rw[e,if_pos c1,if_pos c2]
 exact jN q2.quiet (dG (bW d.stand.length j) (by show 0<=16;omega)) (by rw[q2.len,q1.len];exact hn)
theorem pD (h:aF v.d) {tx:List UInt8} (hf:aN v.d.stand.length v.s.journal v.s.used=0) (hs:(tx.length:Int)<=128*v.s.journal-v.s.used) (hr:v.s.runs.length<=16):(Nz c tx v).1.d.waits=[]:=by
 obtain⟨f1,f2,f3,f4⟩:=gN hf
 have h1:=mh h hf hs
 have h2:=(lG (P:=fun _=>False) h v.s.journal v.s.used tx (fun k hk=>hk.elim)).1
 have h3:=ju h2.quiet (dG (bw v.s (v.s.used+tx.length)) hr) (by rw[h2.len];omega)
 unfold Nz
 rw[if_pos h1,if_pos h3]
 exact jN h2.quiet (dG (bw v.s (v.s.used+tx.length)) hr) (by rw[h2.len];omega)
theorem sr (h:aF v.d) {t:List UInt8} {R:List (Int×Int)} (hX:dA R v.d.stand.length t.length) (hn:2<=v.d.stand.length):(NO c t R v).2=0/\(NO c t R v).1.s=bZ v.s t.length R/\(NO c t R v).1.d.waits=[]:=by
 have h1:=js h hX
 have h2:=(jt (P:=fun _=>False) h R t (fun k hk=>hk.elim)).1
 have S4:=dG (bZ v.s t.length R) (by exact hX.2.1)
 have h3:=ju h2.quiet S4 (by rw[h2.len];exact hn)
 have e:r7 v.s t R v.d=if(NF v.d R t).2=0 then ah [Ni,aE (bZ v.s t.length R)] (NF v.d R t).1 else NF v.d R t:=rfl
 rw[if_pos h1]at e
 unfold NO
 rw[e,if_pos h3]
 exact⟨rfl,rfl,jN h2.quiet S4 (by rw[h2.len];exact hn)⟩
theorem rm {L:List (Int×Int)} {t:Nat} (h0:NI L (Nv t)=0) (hL:∀k:Nat,aC L k=true->(k:Int)<n):dA (Np L (Nv t)) n t:=by
 obtain⟨l1,l2,l3⟩:=xP h0
 refine⟨by omega,l3,Al (fR _ _) (fun k hk=>⟨by omega,?_⟩),?_⟩
 .have h1:=hL k (ix hk)
  have h2:=(sX hk).1
  omega
 .rw[<-qi,tI (fR _ _)]
  exact Av l1 l2
theorem uO (n:Nat):∀(l:List VC) (recs:List ag),(∀k (h:k<l.length) (h':k<recs.length),NH l[k].kind=true->dA recs[k].runs n l[k].bytes.length)->∀d:DK,aF d->d.stand.length=n->(ah (ND l recs) d).2=0/\aF (ah (ND l recs) d).1/\(ah (ND l recs) d).1.stand.length=n
 |[],_,_,d,hq,hl=>⟨rfl,hq,hl⟩
 |x::l,[],_,d,hq,hl=>⟨rfl,hq,hl⟩
 |x::l,r::recs,H,d,hq,hl=>by
  have ih:=uO n l recs (fun k h h' hb=>H (k+1) (by simpa using h) (by simpa using h') hb)
  unfold ND
  split
  .rename_i hb
   have h1:(NF d r.runs x.bytes).2=0:=js hq (s:=x.bytes) (by rw[hl];exact H 0 (by simp) (by simp) hb)
   have h2:=(jt (P:=fun _=>False) hq r.runs x.bytes (fun k hk=>hk.elim)).1
   show(if(NF d r.runs x.bytes).2=0 then ah (ND l recs) (NF d r.runs x.bytes).1 else NF d r.runs x.bytes).2=0/\aF (if(NF d r.runs x.bytes).2=0 then ah (ND l recs) (NF d r.runs x.bytes).1 else NF d r.runs x.bytes).1/\(if(NF d r.runs x.bytes).2=0 then ah (ND l recs) (NF d r.runs x.bytes).1 else NF d r.runs x.bytes).1.stand.length=n
   rw[if_pos h1]
   exact ih _ h2.quiet (h2.len.trans hl)
  .exact ih d hq hl
structure qR (m q:Nat) (v:VS):Prop where
 quiet:aF v.d
 dead:v.dead=false
 fit:yx m v
 waits:v.d.waits=[]
 sect:v.s.sectors=v.d.stand.length
 ops:v.d.ops<=q
 len:v.d.stand.length<=100
theorem qR.mono {m' q':Nat} (h:qR m q v) (h1:m<=m') (h2:q<=q'):qR m' q' v:=
 ⟨h.quiet,h.dead,⟨h.fit.may,h.fit.cat,by have:=h.fit.few;omega,by have:=h.fit.seq;omega,h.fit.jr⟩,h.waits,h.sect,by have:=h.ops;omega,h.len⟩
theorem Ld (h3:Z<=9*101) (h4:Y<=X+(Z+40)) (Qk:X<=q):Y<=q+1200:=by omega
theorem Lc (h3:Z<=8*101) (h4:Y<=X+(Z+3*(n+2))) (Qk:X<=q) (hn:n<=100):Y<=q+1200:=by omega
open Classical in
theorem BT (h:qR m q v) (l:List VC) (Sp:l.length<=8) (hid:∀x∈l,0<=x.id):qR (m+8) (q+1200) (NJ v l).1:=by
 have h0:=h.mono (Nat.le_add_right m 8) (Nat.le_add_right q 1200)
 obtain⟨⟨a1,a2,a3,a4,a5,a6,a7,a8,a9,a10⟩,b,c⟩:=h.fit.may
 have XH:=h.sect
 have Rk:=h.len
 have Qk:=h.ops
 have Zv:=h.fit.jr
 unfold NJ
 rw[if_neg (by rw[h.dead];simp)]
 split
 .exact h0
 .rename_i c1
  split
  .exact h0
  .rename_i c2
   have c2:dJ (Nk v) l:=MU c2
   split
   .exact h0
   .rename_i c3
    have c3:(Nn v.c (Ng (Nk v) l l.length).1).2=0:=by simpa using c3
    have Pd:∀k:Nat,aC (Nk v) k=true->2+v.s.journal<=(k:Int)/\(k:Int)<v.s.sectors:=fun k hk=>⟨(dI hk).1,(dI hk).2.1⟩
    have Pq:Nn v.c (Ng (Nk v) l l.length).1=b9 v.c (Ng (Nk v) l l.length).1:=by unfold Nn;rw[if_pos h.fit.cat]
    have Pb:aM (Nn v.c (Ng (Nk v) l l.length).1).1:=by
     rw[Pq]at c3 ⊢
     exact lC h.fit.cat (sw _ _ hid) c3
    have hPL:=ff (Nk v) l _ (Md _)
    have ab1:=uO v.d.stand.length l (Ng (Nk v) l l.length).1 (fun k hk hk' hb=>by
     rw[qh (Nk v) l k hk hk',if_pos hb]
     exact rm (c2 k hk hb) (fun i hi=>by
      have:=(Pd i (eK (Nk v) l k (by omega) i hi)).2
      omega)) v.d h.quiet rfl
    have Qr:dj (Nn v.c (Ng (Nk v) l l.length).1).1<=m+8:=by
     have h1:=qO (Ng (Nk v) l l.length).1 v.c
     have h2:=h.fit.few
     unfold dj at h1 ⊢
     omega
    have W8:=ny l (Ng (Nk v) l l.length).1 v.d.stand.length
    have Oj:=qf l (Ng (Nk v) l l.length).1
    obtain⟨p1,p2,p3⟩:=ab1
    split
    .exact h0
    .split
     .rename_i c5
      generalize (Ng (Nk v) l l.length).1=P at*
      generalize (Nn v.c P).1=AC at*
      generalize NZ P=tx at*
      have Te:=uh (v.d.stand.length+1) 40 (ND l P++[Ni]) (Nz AC tx) v (fun f hf e he=>by
       rcases Mj.1 hf with hf|hf
       .exact(W8 f hf e he).mono (by omega)
       .obtain rfl:=MB.1 hf
        exact(jR e).mono (by omega)) (fun u hu=>(rQ AC tx u).mono (by omega))
      have Q8:=(dE (P:=fun _=>False) p2).1
      have Qz:=p2.ja
      have N4:aN (Ni (ah (ND l P) v.d).1).1.stand.length v.s.journal v.s.used=0:=by
       rw[Q8.len,p3]
       unfold aN
       rw[if_neg (by omega)]
      have Pq:=lF (v:=⟨(Ni (ah (ND l P) v.d).1).1,v.s,v.c,v.dead⟩) Q8.quiet (c:=AC) (tx:=tx) N4 (by show _<=128*v.s.journal-v.s.used;omega) a10
      have haw:=pD (v:=⟨(Ni (ah (ND l P) v.d).1).1,v.s,v.c,v.dead⟩) Q8.quiet (c:=AC) (tx:=tx) N4 (by show _<=128*v.s.journal-v.s.used;omega) a10
      have hac:=oV Pq.1
      obtain⟨q1,q2,q3,_⟩:=pw (P:=fun _=>False) AC tx ⟨(Ni (ah (ND l P) v.d).1).1,v.s,v.c,v.dead⟩ (fun k hk=>hk.elim) Q8.quiet
      have OL:NK (bX l P++[aK Ni,Nz AC tx]) v=((Nz AC tx ⟨(Ni (ah (ND l P) v.d).1).1,v.s,v.c,v.dead⟩).1,0):=by
       unfold bX
       rw[eW,gH,if_pos (show(aK (ah (ND l P)) v).2=0 from p1)]
       show(if(Ni (ah (ND l P) v.d).1).2=0 then(if(Nz AC tx ⟨(Ni (ah (ND l P) v.d).1).1,v.s,v.c,v.dead⟩).2=0 then _ else _)else _)=_
       rw[if_pos (show(Ni (ah (ND l P) v.d).1).2=0 from Qz),if_pos Pq.1]
       rfl
      have e:bX l P++[aK Ni,Nz AC tx]=(ND l P++[Ni]).map aK++[Nz AC tx]:=by unfold bX;simp
      rw[<-e,OL]at Te
      rw[OL]
      have hlen:=q1.len.trans (Q8.len.trans p3)
      have Qt:=Pq.2
      have Th:=hac.1
      generalize Nz AC tx ⟨(Ni (ah (ND l P) v.d).1).1,v.s,v.c,v.dead⟩=SX at*
      refine⟨q1.quiet,by show(SX.1.dead||(0:Int)==90)=false;rw[q3];show(v.dead||_)=false;rw[h.dead];rfl,⟨?_,by show aM SX.1.c;rw[Th];exact Pb,by show SX.1.c.boxes.length+SX.1.c.mans.length+SX.1.c.names.length<=m+8;rw[Th];exact Qr,?_,by show SX.1.s.journal<=30;rw[Qt];exact h.fit.jr⟩,haw,?_,?_,by show SX.1.d.stand.length<=100;rw[hlen];exact h.len⟩
      .show SX.1.s.may
       rw[Qt]
       exact mj h.fit.may (by show(0:Int)<=v.s.used+tx.length;omega) (by show v.s.used+(tx.length:Int)<=v.s.journal*128;omega)
      .show SX.1.s.seq<=m+8
       rw[Qt]
       have:=h.fit.seq
       show v.s.seq+1<=m+8
       omega
      .show SX.1.s.sectors=(SX.1.d.stand.length:Int)
       rw[Qt,hlen]
       exact h.sect
      .show SX.1.d.ops<=_
       have h2:(ND l P++[Ni]).length<=9:=by rw[Mc,MT];omega
       have h3:(ND l P++[Ni]).length*(v.d.stand.length+1)<=9*101:=Nat.mul_le_mul h2 (by omega)
       have h4:SX.1.d.ops<=v.d.ops+((ND l P++[Ni]).length*(v.d.stand.length+1)+40):=Te.ops
       exact Ld h3 h4 Qk
     .rename_i c5
      split
      .exact h0
      .split
       .exact h0
       .rename_i c6 c7
        have Py:NI (Ng (Nk v) l l.length).2 (Nv (aG (Nn v.c (Ng (Nk v) l l.length).1).1).1.length)=0:=by simpa using c7
        have Wk:∀k:Nat,aC (Ng (Nk v) l l.length).2 k=true->2+v.s.journal<=(k:Int)/\(k:Int)<v.s.sectors:=fun k hk=>Pd k (eK (Nk v) l l.length (Md _) k hk)
        have hX:=rm (n:=v.d.stand.length) Py (fun k hk=>by have:=(Wk k hk).2;omega)
        have hb:=mz h.fit.may Py Wk
        generalize (Ng (Nk v) l l.length).1=P at*
        generalize (Nn v.c P).1=AC at*
        generalize Np (Ng (Nk v) l l.length).2 (Nv (aG AC).1.length)=R at*
        generalize (aG AC).1=t at*
        have Te:=uh (v.d.stand.length+1) (3*(v.d.stand.length+2)) (ND l P) (NO AC t R) v (fun f hf e he=>(W8 f hf e he).mono (by omega)) (fun u hu=>by rw[<-hu];exact oL AC t R u)
        obtain⟨s1,s2,s3⟩:=sr (v:=⟨(ah (ND l P) v.d).1,v.s,v.c,v.dead⟩) p2 (c:=AC) (t:=t) (R:=R) (by show dA R ((ah (ND l P) v.d).1.stand.length:Nat) _;rw[p3];exact hX) (by show 2<=(ah (ND l P) v.d).1.stand.length;omega)
        obtain⟨s4,_⟩:=tr s1
        obtain⟨q1,q2,q3,_⟩:=pt (P:=fun _=>False) AC t R ⟨(ah (ND l P) v.d).1,v.s,v.c,v.dead⟩ (fun k hk=>hk.elim) p2
        have OL:NK (bX l P++[NO AC t R]) v=((NO AC t R ⟨(ah (ND l P) v.d).1,v.s,v.c,v.dead⟩).1,0):=by
         unfold bX
         rw[eW,gH,if_pos (show(aK (ah (ND l P)) v).2=0 from p1)]
         show(if(NO AC t R ⟨(ah (ND l P) v.d).1,v.s,v.c,v.dead⟩).2=0 then _ else _)=_
         rw[if_pos s1]
         rfl
        have e:bX l P++[NO AC t R]=(ND l P).map aK++[NO AC t R]:=rfl
        rw[<-e,OL]at Te
        rw[OL]
        have hlen:=q1.len.trans p3
        generalize NO AC t R ⟨(ah (ND l P) v.d).1,v.s,v.c,v.dead⟩=SX at*
        refine⟨q1.quiet,by show(SX.1.dead||(0:Int)==90)=false;rw[q3];show(v.dead||_)=false;rw[h.dead];rfl,⟨?_,by show aM SX.1.c;rw[s4];exact Pb,by show SX.1.c.boxes.length+SX.1.c.mans.length+SX.1.c.names.length<=m+8;rw[s4];exact Qr,?_,by show SX.1.s.journal<=30;rw[s2];exact h.fit.jr⟩,s3,?_,?_,by show SX.1.d.stand.length<=100;rw[hlen];exact h.len⟩
        .show SX.1.s.may
         rw[s2]
         exact hb
        .show SX.1.s.seq<=m+8
         rw[s2]
         have:=h.fit.seq
         show v.s.seq+1<=m+8
         omega
        .show SX.1.s.sectors=(SX.1.d.stand.length:Int)
         rw[s2,hlen]
         exact h.sect
        .show SX.1.d.ops<=_
         have h3:(ND l P).length*(v.d.stand.length+1)<=8*101:=Nat.mul_le_mul (by omega) (by omega)
         have h4:SX.1.d.ops<=v.d.ops+((ND l P).length*(v.d.stand.length+1)+3*(v.d.stand.length+2)):=Te.ops
         exact Lc h3 h4 Qk Rk
theorem IN (h:aF d) (h0:d.ops<=0) (hw:d.waits=[]) {j:Int} (h1:1<=j) (h2:4<=d.stand.length) (h3:j<=(d.stand.length:Int)-2) (h4:d.stand.length<=100) (hj:j<=30):qR 1 100 ⟨(cz j d).1,bW d.stand.length j,bI,false⟩:=by
 obtain⟨f1,f2,f3⟩:=yc h j (by omega)
 have U6:(cz j d).1.ops<=100:=by
  have h:=mw 2 [Nq 0 Nl,Nq 1 Nl,Ni,aE (bW d.stand.length j)] (fun f hf d=>by
   simp only[List.mem_cons,List.not_mem_nil,or_false]at hf
   rcases hf with rfl|rfl|rfl|rfl
   .have:=gY 0 Nl d;exact⟨by omega,by omega,this.2.2⟩
   .have:=gY 1 Nl d;exact⟨by omega,by omega,this.2.2⟩
   .have:=fO d;exact⟨by omega,by omega,this.2.2⟩
   .exact jQ _ d) d
  have h1:=h.1
  simp only[Mz,List.length_nil]at h1
  unfold cz
  omega
 exact⟨f2,rfl,⟨lf h1 (by omega) h3 (by omega),lO,by show 0+0+0<=1;omega,Md _,hj⟩,D4 h j (by omega),by show(d.stand.length:Int)=((cz j d).1.stand.length:Nat);rw[f3],U6,by show(cz j d).1.stand.length<=100;rw[f3];exact h4⟩
def le (l:List UInt8) (at_ n:Nat):Nat:=Rh ((l.drop at_).take n)
def fL (l:List UInt8):Nat->List (Int×Int)
 |0=>[]
 |k+1=>fL l k++[(((le l (36+4*k) 2:Nat):Int),((le l (38+4*k) 2:Nat):Int))]
theorem rR (l:List UInt8) (k:Nat):(fL l k).length=k:=by
 induction k with
 |zero=>rfl
 |succ k ih=>rw[fL,Mc,ih];rfl
def OW (l:List UInt8):SB:=⟨le l 8 8,(le l 16 4:Nat),(le l 20 4:Nat),(le l 24 4:Nat),(le l 28 4:Nat),fL l (le l 32 2)⟩
def fG (l:List UInt8):Prop:=l.length=128/\le l 32 2<=16/\(OW l).may/\(OW l).sector=l
theorem tT (l:List UInt8) (a n:Nat):le l a n<256^n:=by
 unfold le
 refine Mo (qo _) (Nat.pow_le_pow_right (by decide) ?_)
 rw[Mp];omega
theorem ml (A B:List UInt8) (n k a:Nat) (h:n<256^k) (ha:A.length=a):le (A++(Nh n k++B)) a k=n:=by
 subst ha
 unfold le
 rw[List.drop_left,List.take_left' (aq n k),xT,Nat.mod_eq_of_lt h]
theorem pX (l m:List (Int×Int)):bV (l++m)=bV l++bV m:=by
 unfold bV;rw[Ms,MR]
theorem Cb (A B:List UInt8) (hA:A.length=36) (l:List (Int×Int)) (OJ:∀k (hk:k<l.length),0<=l[k].1/\l[k].1<65536/\0<=l[k].2/\l[k].2<65536) (k:Nat) (hk:k<=l.length):fL (A++(bV l++B)) k=l.take k:=by
 induction k with
 |zero=>rfl
 |succ k ih=>
  have Ns:k<l.length:=by omega
  have e:bV l=bV (l.take k)++(Nh l[k].1.toNat 2++(Nh l[k].2.toNat 2++bV (l.drop (k+1)))):=by
   have e1:l=l.take k++([l[k]]++l.drop (k+1)):=by simp
   rw[congrArg bV e1,pX,pX]
   simp[bV]
  have hl:(bV (l.take k)).length=4*k:=by rw[vx,Mp];omega
  obtain⟨h1,h2,h3,h4⟩:=OJ k Ns
  rw[fL,ih (by omega),Mf Ns]
  have p1:=ml (A++bV (l.take k)) (Nh l[k].2.toNat 2++bV (l.drop (k+1))++B) l[k].1.toNat 2 (36+4*k) (by omega) (by rw[Mc,hl,hA])
  have p2:=ml (A++bV (l.take k)++Nh l[k].1.toNat 2) (bV (l.drop (k+1))++B) l[k].2.toNat 2 (38+4*k) (by omega) (by rw[Mc,Mc,hl,hA,aq];omega)
  have f1:A++(bV l++B)=A++bV (l.take k)++(Nh l[k].1.toNat 2++(Nh l[k].2.toNat 2++bV (l.drop (k+1))++B)):=by rw[e];simp only[Mi]
  have f2:A++(bV l++B)=A++bV (l.take k)++Nh l[k].1.toNat 2++(Nh l[k].2.toNat 2++(bV (l.drop (k+1))++B)):=by rw[e];simp only[Mi]
  rw[<-f1]at p1
  rw[<-f2]at p2
  rw[p1,p2]
  congr 1
  have e1:((l[k].1.toNat:Nat):Int)=l[k].1:=by omega
  have e2:((l[k].2.toNat:Nat):Int)=l[k].2:=by omega
  rw[e1,e2]
theorem pQ (s:SB):∃T,s.sector=cM++(Nh s.seq 8++(Nh s.sectors.toNat 4++(Nh s.journal.toNat 4++(Nh s.used.toNat 4++(Nh s.size.toNat 4++(Nh s.runs.length 2++(Nh 0 2++(bV s.runs++T)))))))):=by
 refine⟨List.replicate (124-(s.body.length:Int)).toNat 0++Nh (Qh (Pg s.body 124)) 4,?_⟩
 unfold SB.sector eR
 have e:Pg s.body 124=s.body++List.replicate (124-(s.body.length:Int)).toNat 0:=rfl
 rw[e]
 generalize List.replicate (124-(s.body.length:Int)).toNat (0:UInt8)=Z
 generalize Nh (Qh (s.body++Z)) 4=C
 unfold SB.body
 simp only[Mi]
theorem vo (s:SB) (h:s.runs.length<65536):le s.sector 32 2=s.runs.length:=by
 obtain⟨T,e⟩:=pQ s
 have:=ml (cM++Nh s.seq 8++Nh s.sectors.toNat 4++Nh s.journal.toNat 4++Nh s.used.toNat 4++Nh s.size.toNat 4) (Nh 0 2++(bV s.runs++T)) s.runs.length 2 32 (by omega) (by simp[aq,cM])
 rw[e];simpa only[Mi]using this
theorem jz (s:SB) (hm:s.may) (hq:s.seq<18446744073709551616):OW s.sector=s:=by
 obtain⟨⟨g1,g2,g3,g4,g5,g6,g7,g8,g9,g10⟩,hL,_⟩:=hm
 have hLO:=ie (Md _) hL
 have Sm:=vo s (by omega)
 obtain⟨T,e⟩:=pQ s
 have p1:=ml cM (Nh s.sectors.toNat 4++(Nh s.journal.toNat 4++(Nh s.used.toNat 4++(Nh s.size.toNat 4++(Nh s.runs.length 2++(Nh 0 2++(bV s.runs++T))))))) s.seq 8 8 (by omega) rfl
 have p2:=ml (cM++Nh s.seq 8) (Nh s.journal.toNat 4++(Nh s.used.toNat 4++(Nh s.size.toNat 4++(Nh s.runs.length 2++(Nh 0 2++(bV s.runs++T)))))) s.sectors.toNat 4 16 (by omega) (by simp[aq,cM])
 have p3:=ml (cM++Nh s.seq 8++Nh s.sectors.toNat 4) (Nh s.used.toNat 4++(Nh s.size.toNat 4++(Nh s.runs.length 2++(Nh 0 2++(bV s.runs++T))))) s.journal.toNat 4 20 (by omega) (by simp[aq,cM])
 have p4:=ml (cM++Nh s.seq 8++Nh s.sectors.toNat 4++Nh s.journal.toNat 4) (Nh s.size.toNat 4++(Nh s.runs.length 2++(Nh 0 2++(bV s.runs++T)))) s.used.toNat 4 24 (by omega) (by simp[aq,cM])
 have p5:=ml (cM++Nh s.seq 8++Nh s.sectors.toNat 4++Nh s.journal.toNat 4++Nh s.used.toNat 4) (Nh s.runs.length 2++(Nh 0 2++(bV s.runs++T))) s.size.toNat 4 28 (by omega) (by simp[aq,cM])
 have p6:=Cb (cM++Nh s.seq 8++Nh s.sectors.toNat 4++Nh s.journal.toNat 4++Nh s.used.toNat 4++Nh s.size.toNat 4++Nh s.runs.length 2++Nh 0 2) T (by simp[aq,cM]) s.runs (fun k hk=>by have:=eM.1 (hLO k hk);omega) s.runs.length (Md _)
 simp only[Mi]at p1 p2 p3 p4 p5 p6
 rw[<-e]at p1 p2 p3 p4 p5 p6
 rw[MC]at p6
 unfold OW
 rw[Sm,p1,p2,p3,p4,p5,p6]
 obtain⟨sq,a,b,u,z,l⟩:=s
 simp only at*
 rw[Int.toNat_of_nonneg (by omega),Int.toNat_of_nonneg (by omega),Int.toNat_of_nonneg (by omega),Int.toNat_of_nonneg (by omega)]
theorem mQ (s:SB) (hm:s.may) (hq:s.seq<18446744073709551616):fG s.sector:=by
 have h16:s.runs.length<=16:=hm.1.2.2.2.2.2.2.2.2.2
 refine⟨dG s h16,?_,?_,?_⟩
 .rw[vo s (by omega)];exact h16
 .rw[jz s hm hq];exact hm
 .rw[jz s hm hq]
def j0:SB:=⟨0,0,0,0,0,[]⟩
def qF (l:List UInt8):Prop:=fG l/\(OW l).seq%2=0
def uX (l:List UInt8):Prop:=fG l/\(OW l).seq%2=1
def nH (a b:List UInt8) (o:Option (List UInt8)):Prop:=
 (o=none/\¬qF a/\¬uX b)\/(o=some a/\qF a/\¬(uX b/\(OW a).seq<(OW b).seq))\/(o=some b/\uX b/\¬(qF a/\(OW b).seq<(OW a).seq))
def qk:Option (List UInt8)->SB
 |none=>j0
 |some l=>OW l
def pe (ok bad:Value) (a b:List UInt8) (w:World) (e:Ending) (w':World):Prop:=
 (∃o v,nH a b o/\e=.returned (.tuple #[.agg ((qk o).cells v),if o.isSome then ok else bad])/\af w' v (qk o).runs w.heap.size w'.heap.size)/\aa [] w w'
def nL (ok bad:Value) (l:List UInt8) (w:World) (e:Ending) (w':World):Prop:=
 ((fG l/\∃v,e=.returned (.tuple #[.agg ((OW l).cells v),ok])/\af w' v (OW l).runs w.heap.size w'.heap.size)\/(¬fG l/\e=.returned (.tuple #[.agg (j0.cells (.slice none 0 0)),bad])))/\aa [] w w'
theorem oK {ok bad:Value} {l:List UInt8} {w w':World} (h:¬fG l) (hk:aa [] w w'):nL ok bad l w (.returned (.tuple #[.agg #[.int .u64 0,.int .i64 0,.int .i64 0,.int .i64 0,.int .i64 0,.slice none 0 0],bad])) w':=⟨Or.inr ⟨h,rfl⟩,hk⟩
theorem zW (l:List UInt8):(OW l).runs=fL l (le l 32 2):=rfl
theorem M72 {A:Prop}(h:A:=by
 go_enter Tryz.func126,Tryz.ntmps126
 go_wp2_with fail
 go_ret
 exact⟨rfl,K0.out⟩):A:=h
theorem Dl (a b:Nf) (va vb:Value) (w:World) (h:bd w (a,va)) (h':bd w (b,vb)) (hl:a.runs.length<=1000000) (hm:b.runs.length<=1000000):
  Calls Tryz.prog 126 #[.agg (a.cells va),.agg (b.cells vb)] w fun e w'=>e=.returned (.bool (a.same b))/\aa [] w w':=by
 have hc:=Nf.four a b
 have hq:=fun w' (hk:aa [] w w')=>Db va vb a.runs b.runs _ _ _ _ w' (h.1.kept0 hk) (h'.1.kept0 hk) hl hm
 have HQ:=Mb hq
 obtain⟨pa,ca,e1⟩:=h.1.shape
 obtain⟨pb,cb,e2⟩:=h'.1.shape
 simp only at e1 e2
 subst e1 e2
 obtain⟨aid,an,asz,ar⟩:=a
 obtain⟨bid,bn,bsz,br⟩:=b
 simp only at hc HQ hl hm
 unfold Nf.cells
 simp only
 generalize Nf.same ⟨aid,an,asz,ar⟩ ⟨bid,bn,bsz,br⟩=SM at*
 have k0:=((aa.refl [] w).alloc (.cells #[.int .u32 aid,.string (bs an),.int .i64 asz,.slice pa ar.length ca] 113)).alloc (.cells #[.int .u32 bid,.string (bs bn),.int .i64 bsz,.slice pb br.length cb] 113)
 obtain⟨oA,oB⟩:=cQ w #[.int .u32 aid,.string (bs an),.int .i64 asz,.slice pa ar.length ca] #[.int .u32 bid,.string (bs bn),.int .i64 bsz,.slice pb br.length cb] 113 113
 obtain⟨a0,a1,a2,a3⟩:=oA.c4
 obtain⟨b0,b1,b2,b3⟩:=oB.c4
 have K0:=Mb k0
 have XZ:=HQ.out _ k0
 have Yh:=Mb XZ
 clear h h' hq oA oB k0 XZ HQ
 rcases hc with⟨h1,rfl⟩|⟨h1,h2,rfl⟩|⟨h1,h2,h3,rfl⟩|⟨h1,h2,h3,rfl⟩
 .skip
  exact M72
 .obtain⟨g1,g2⟩:=jm an bn h2
  exact M72
 .obtain⟨g1,g2⟩:=jm an bn h2
  exact M72
 .obtain⟨g1,g2⟩:=jm an bn h2
  go_enter Tryz.func126,Tryz.ntmps126
  go_wp2_with fail
  refine Yh.out.mono ?_;rintro e w2 ⟨rfl,k2⟩
  have KK:=Mb (K0.out.trans k2)
  go_wp2_with fail
  go_ret
  exact⟨rfl,KK.out⟩
theorem nV (va vb:Value) (l m:List Nf) (w:World) (h:aS w va l) (h':aS w vb m) (hl:kj l) (hm:kj m):
  Calls Tryz.prog 66 #[va,vb] w (dr (l=m) w):=by
 obtain⟨pa,ca,rfl⟩:=h.shape
 obtain⟨pb,cb,rfl⟩:=h'.shape
 have H:=Mb h
 have H2:=Mb h'
 have HL:=Mb hl
 have HM:=Mb hm
 have j1:(l.length:Int)<=1000000:=by have:=hl.1;omega
 have j2:(m.length:Int)<=1000000:=by have:=hm.1;omega
 have Rn:=Dl
 have ZQ:=Mb Rn
 clear h h' hl hm Rn
 by_cases Ot:l.length=m.length
 .have ach:Hid (l.length=m.length):=Mb Ot
  rw[<-Ot]
  clear Ot j2
  go_enter Tryz.func66,Tryz.ntmps66
  go_wp2_with fail
  go_loopw [5] (fun i wr=>∃k:Nat,k<=l.length/\i=.int .i64 k/\l.take k=m.take k/\aa [] w wr) (fun i _=>l.length-(intOf i).toNat)
  case atStart=>exact⟨0,Mu _,rfl,rfl,aa.refl _ _⟩
  case round=>
   obtain⟨k,hk,rfl,Pc,hK⟩:=hrel
   by_cases Ns:k<l.length
   .have Sa:k<m.length:=by have:=ach.out;omega
    obtain⟨b,off,kva,rfl,hia,hb,Rt,Th,HA⟩:=H.out.jJ k Ns
    obtain⟨b',off',kvb,rfl,Un,UW,hc1',hc2',HB⟩:=H2.out.jJ k Sa
    have UZ:=fun W (q:aa [] w W)=>ZQ.out (l[k]'Ns) (m[k]'Sa) kva kvb W (hia.kept0 q) (Un.kept0 q) (HL.out.2 _ (Mh Ns)) (HM.out.2 _ (Mh Sa))
    obtain⟨p1,n1,c1,rfl⟩:=hia.iN
    obtain⟨p2,n2,c2,rfl⟩:=Un.iN
    obtain⟨S,hS⟩:∃S,Nf.same (l[k]'Ns) (m[k]'Sa)=S:=⟨_,rfl⟩
    have hSe:S=true↔l[k]'Ns=m[k]'Sa:=by rw[<-hS];exact Nf.E7
    simp only[hS]at UZ
    have i1:(k:Int)<l.length:=by omega
    unfold Nf.cells at UZ
    have HSA:=Mb UZ
    have HSE:=Mb hSe
    have Tc:=Mb Pc
    have Sg:=Mb hK
    have Xy:=Mb HA
    have HB2:=Mb HB
    clear hia Un UZ hS hSe Pc hK HA HB hb UW
    generalize hLA:l[k]'Ns=A at*
    generalize hLB:m[k]'Sa=B at*
    have HLA:=Mb hLA
    have HLB:=Mb hLB
    have NU:=Mb (And.intro Ns Sa)
    clear hLA hLB
    go_wp2_with fail
    refine Ml (S:=(fun W=>W.cell? ⟨b,off+k*4,none⟩=some (.int .u32 A.id)/\W.cell? ⟨b,off+k*4+1,none⟩=some (.string (bs A.name))/\W.cell? ⟨b,off+k*4+2,none⟩=some (.int .i64 A.size)/\W.cell? ⟨b,off+k*4+3,none⟩=some (.slice p1 n1 c1)/\W.cell? ⟨b',off'+k*4,none⟩=some (.int .u32 B.id)/\W.cell? ⟨b',off'+k*4+1,none⟩=some (.string (bs B.name))/\W.cell? ⟨b',off'+k*4+2,none⟩=some (.int .i64 B.size)/\W.cell? ⟨b',off'+k*4+3,none⟩=some (.slice p2 n2 c2))) (by kernel_rfl) (by(obtain⟨x0,x1,x2,x3⟩:=Xy.out _ Sg.out.drew;obtain⟨y0,y1,y2,y3⟩:=HB2.out _ Sg.out.drew;exact⟨x0,x1,x2,x3,y0,y1,y2,y3⟩)) (fun hHeld=>?_)
    refine tk 0 17 ?_
    refine tk 1 18 ?_
    refine tk 2 19 ?_
    refine tk 3 20 ?_
    refine tk 4 21 ?_
    refine tk 5 22 ?_
    refine tk 6 23 ?_
    refine tk 7 24 ?_
    refine rd 8 (fun K hK=>?_)
    go_simp
    ((with_reducible refine(HSA.out _ Sg.out.drew).mono ?_));rintro e w2 ⟨rfl,k2⟩
    have KK:=Mb (Sg.out.drew.trans k2)
    go_wp2_with fail
    refine hK.out _ _ ?_ (fun hHeld=>nm ?_)
    ·(obtain⟨x0,x1,x2,x3⟩:=Xy.out _ KK.out;obtain⟨y0,y1,y2,y3⟩:=HB2.out _ KK.out;exact⟨x0,x1,x2,x3,y0,y1,y2,y3⟩)
    clear hK K
    refine tk 9 26 ?_
    refine MM (by kernel_rfl) ?_ _
    cases S with
    |true=>
     go_wp2_with fail
     go_roundw
     case rel=>exact⟨k+1,NU.out.1,by go_num,CX NU.out.1 NU.out.2 Tc.out (by rw[HLA.out,HLB.out];exact HSE.out.1 (by simp)),KK.out⟩
     case measure=>(have h:=NU.out.1;simp[intOf];omega)
    |false=>
     go_wp2_with fail
     go_ret
     exact eP (fun e=>by subst e;have h1:=HLA.out;have h2:=HLB.out;rw[h1]at h2;have:=HSE.out.2 h2;cases this) KK.out
   .obtain rfl:k=l.length:=by omega
    have he:l=m:=by
     rw[MC,ach.out,MC]at Pc
     exact Pc
    have HE:=Mb he
    have i1:¬(l.length:Int)<l.length:=by omega
    clear Pc he
    go_wp2_with fail
    go_ret
    exact kS HE.out hK
 .have adZ:¬(l.length:Int)=m.length:=by omega
  have Ul:=Mb Ot
  clear Ot
  go_enter Tryz.func66,Tryz.ntmps66
  go_wp2_with fail
  go_ret
  exact eP (fun e=>Ul.out (by rw[e])) (aa.refl _ _)
theorem ss (va vb:Value) (a b:aj) (w:World) (h:cC w va a) (h':cC w vb b) (hl:iq a) (hm:iq b):
  Calls Tryz.prog 18 #[va,vb] w (dr (a=b) w):=by
 have hc:=aj.rI a b
 obtain⟨b1,m1,n1,rfl,TG,W5,Rx,_⟩:=h
 obtain⟨b2,m2,n2,rfl,Qo,Tg,Qy,_⟩:=h'
 have HB:Hid (∀W,aa [] w W->Calls Tryz.prog 66 #[b1,b2] W (dr (a.boxes=b.boxes) W)):=Mb (fun W q=>nV _ _ _ _ W (TG.kept0 q) (Qo.kept0 q) hl.1 hm.1)
 have HM:Hid (∀W,aa [] w W->Calls Tryz.prog 66 #[m1,m2] W (dr (a.mans=b.mans) W)):=Mb (fun W q=>nV _ _ _ _ W (W5.kept0 q) (Tg.kept0 q) hl.2.1 hm.2.1)
 have HN:Hid (∀W,aa [] w W->Calls Tryz.prog 66 #[n1,n2] W (dr (a.names=b.names) W)):=Mb (fun W q=>nV _ _ _ _ W (Rx.kept0 q) (Qy.kept0 q) hl.2.2 hm.2.2)
 obtain⟨p1,c1,rfl⟩:=TG.shape
 obtain⟨p2,c2,rfl⟩:=W5.shape
 obtain⟨p3,c3,rfl⟩:=Rx.shape
 obtain⟨q1,d1,rfl⟩:=Qo.shape
 obtain⟨q2,d2,rfl⟩:=Tg.shape
 obtain⟨q3,d3,rfl⟩:=Qy.shape
 unfold dr at HB HM HN
 clear TG W5 Rx Qo Tg Qy hl hm
 obtain⟨Q,hQ⟩:∃Q:Prop,(a=b)=Q:=⟨_,rfl⟩
 obtain⟨QB,hQB⟩:∃Q:Prop,(a.boxes=b.boxes)=Q:=⟨_,rfl⟩
 obtain⟨QM,hQM⟩:∃Q:Prop,(a.mans=b.mans)=Q:=⟨_,rfl⟩
 obtain⟨QN,hQN⟩:∃Q:Prop,(a.names=b.names)=Q:=⟨_,rfl⟩
 have Yh:Hid (((a.nextBox==b.nextBox)=false/\¬Q)\/((a.nextBox==b.nextBox)=true/\(a.nextMan==b.nextMan)=false/\¬Q)\/((a.nextBox==b.nextBox)=true/\(a.nextMan==b.nextMan)=true/\(Q↔QB/\QM/\QN))):=by
  rw[<-hQ,<-hQB,<-hQM,<-hQN];exact hc
 rw[hQ]
 rw[hQB]at HB
 rw[hQM]at HM
 rw[hQN]at HN
 clear hc hQ hQB hQM hQN
 generalize a.nextBox=nb at*
 generalize a.nextMan=nm at*
 generalize b.nextBox=nb2 at*
 generalize b.nextMan=nm2 at*
 generalize a.boxes.length=l1 at*
 generalize a.mans.length=l2 at*
 generalize a.names.length=l3 at*
 generalize b.boxes.length=l4 at*
 generalize b.mans.length=l5 at*
 generalize b.names.length=l6 at*
 obtain⟨oA,oB⟩:=cQ w #[.int .u32 nb,.int .u32 nm,.slice p1 l1 c1,.slice p2 l2 c2,.slice p3 l3 c3] #[.int .u32 nb2,.int .u32 nm2,.slice q1 l4 d1,.slice q2 l5 d2,.slice q3 l6 d3] 52 52
 have k0:=((aa.refl [] w).alloc (.cells #[.int .u32 nb,.int .u32 nm,.slice p1 l1 c1,.slice p2 l2 c2,.slice p3 l3 c3] 52)).alloc (.cells #[.int .u32 nb2,.int .u32 nm2,.slice q1 l4 d1,.slice q2 l5 d2,.slice q3 l6 d3] 52)
 have K0:=Mb k0
 obtain⟨x0,x1,x2,x3,x4⟩:=oA.k5
 obtain⟨y0,y1,y2,y3,y4⟩:=oB.k5
 have OA:=Mb oA
 have OB:=Mb oB
 clear k0 oA oB
 rcases Yh.out with⟨h1,h2⟩|⟨h1,h3,h2⟩|⟨h1,h3,h2⟩
 .have Xp:=Mb h2
  clear h2 Yh
  go_enter Tryz.func18,Tryz.ntmps18
  go_wp2_with fail
  go_ret
  exact eP Xp.out K0.out
 .have Xp:=Mb h2
  clear h2 Yh
  go_enter Tryz.func18,Tryz.ntmps18
  go_wp2_with fail
  go_ret
  exact eP Xp.out K0.out
 .have Va:=Mb h2
  clear h2 Yh
  go_enter Tryz.func18,Tryz.ntmps18
  go_wp2_with fail
  refine(HB.out _ K0.out).mono ?_;rintro e w2 ⟨r1,rfl,e1,k2⟩
  have K2:=Mb (K0.out.trans k2)
  have E1:=Mb e1
  have Z4:=k2.own OA.out (by simp)
  have oB2:=k2.own OB.out (by simp)
  obtain⟨x0,x1,x2,x3,x4⟩:=Z4.k5
  obtain⟨y0,y1,y2,y3,y4⟩:=oB2.k5
  have UA:=Mb Z4
  have OB2:=Mb oB2
  clear e1 Z4 oB2
  cases r1 with
  |false=>
   go_wp2_with fail
   go_ret
   exact eP (fun q=>by have:=E1.out.2 (Va.out.1 q).1;cases this) K2.out
  |true=>
   go_wp2_with fail
   refine(HM.out _ K2.out).mono ?_;rintro e w3 ⟨r2,rfl,e2,k3⟩
   have K3:=Mb (K2.out.trans k3)
   have E2:=Mb e2
   have oA3:=k3.own UA.out (by simp)
   have oB3:=k3.own OB2.out (by simp)
   obtain⟨x0,x1,x2,x3,x4⟩:=oA3.k5
   obtain⟨y0,y1,y2,y3,y4⟩:=oB3.k5
   clear e2 oA3 oB3
   cases r2 with
   |false=>
    go_wp2_with fail
    go_ret
    exact eP (fun q=>by have:=E2.out.2 (Va.out.1 q).2.1;cases this) K3.out
   |true=>
    go_wp2_with fail
    refine(HN.out _ K3.out).mono ?_;rintro e w4 ⟨r3,rfl,e3,k4⟩
    have K4:=Mb (K3.out.trans k4)
    have E3:=Mb e3
    clear e3
    go_wp2_with fail
    go_ret
    exact⟨r3,rfl,⟨fun q=>Va.out.2 ⟨E1.out.1 (by simp),E2.out.1 (by simp),E3.out.1 q⟩,fun q=>E3.out.2 (Va.out.1 q).2.2⟩,K4.out⟩
end Go.Proofs.YtdkimcnlhmhpgaaGreat

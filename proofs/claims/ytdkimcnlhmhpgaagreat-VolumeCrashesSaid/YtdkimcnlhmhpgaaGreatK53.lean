/- -/
import Derived.Test.YtdkimcnlhmhpgaaGreatK51
import Derived.Test.YtdkimcnlhmhpgaaGreatK52
set_option maxHeartbeats 16000000
set_option maxRecDepth 100000
set_option linter.unusedVariables false
set_option linter.unusedSimpArgs false
namespace Go.Proofs.YtdkimcnlhmhpgaaGreat
open Go.RowKit
variable {d:DK} {v:VS} {k n i fuel:Nat} {L:Array Bool} {a:Act} {w wr:World} {us:List (Nf×Value)}
theorem ye:∀(al:List Nat) {d:DK} (h:bg d) (x:List UInt8),bg (eJ al d x).1
 |[],d,h,x=>h
 |a::t,d,h,x=>by
  show bg (if NV d a (av x)=0 then eJ t (NG d a (av x)) (x.drop 128)else(NG d a (av x),NV d a (av x))).1
  split
  .exact ye t (h.write _ _) (x.drop 128)
  .exact h.write _ _
theorem yd (h:bg d) (l:List (Int×Int)) (x:List UInt8):bg (NF d l x).1:=by
 unfold NF
 split
 .split
  .exact h
  .exact ye _ h x
 .exact h
theorem B8 (n:Nat):∀{d:DK} (h:bg d) (a:Nat) (x:List UInt8),x.length<=n->bg (dL d a x).1:=by
 induction n with
 |zero=>
  intro d h a x hx
  have:x=[]:=Mt (by omega)
  subst this
  exact h
 |succ n ih=>
  intro d h a x hx
  by_cases h0:x=[]
  .subst h0;exact h
  .have hl:0<x.length:=MH.2 h0
   rw[dq h0]
   split
   .exact ih (h.write _ _) (a+1) (x.drop 128) (by rw[Mq];omega)
   .exact h.write _ _
theorem B7 (h:bg d) (j u:Int) (x:List UInt8):bg (Nm d j u x).1:=by
 unfold Nm
 split
 .exact h
 .split
  .exact h
  .split
   .exact h
   .split
    .exact h
    .exact B8 _ h _ _ (Md _)
structure iI (v:VS):Prop where
 fit:bg v.d
 down:v.d.down=false
 waits:v.d.waits=[]
 may:v.s.may
 cat:aM v.c
 fitI:iJ v.c
 seq:v.s.seq<=1000000
 mounted:ez v.d v.s v.c
 len:v.d.stand.length<=8192
theorem vA (hw:iI v) (h:aC (Nk v) k=true):kY v.c v.s k:=by
 obtain⟨h1,h2,h3,h4⟩:=dI h
 obtain⟨⟨a1,a2,a3,a4,a5,a6,a7,a8,a9,a10⟩,b,c⟩:=hw.may
 refine⟨fun hk=>?_,fun hk=>by omega⟩
 rcases hk with hk|hk|hk
 .omega
 .omega
 .rw[fp,h3,h4]at hk;cases hk
theorem nP:∀(l:List VC) (recs:List ag),∀f∈ND l recs,yz f
 |[],_,f,hf=>by simp[ND]at hf
 |x::l,[],f,hf=>by simp[ND]at hf
 |x::l,r::recs,f,hf=>by
  unfold ND at hf
  split at hf
  .rcases List.mem_cons.1 hf with rfl|hf
   .exact fun d e h=>xg h _ _
   .exact nP l recs f hf
  .exact nP l recs f hf
theorem j5 {c:aj} {s:SB} {st:List (List UInt8)}:∀(l:List VC) (recs:List ag),(∀r∈recs,∀k∈Nu r.runs,kY c s k)->∀f∈ND l recs,rB c s st f
 |[],_,_,f,hf=>by simp[ND]at hf
 |x::l,[],_,f,hf=>by simp[ND]at hf
 |x::l,r::recs,H,f,hf=>by
  unfold ND at hf
  split at hf
  .rcases List.mem_cons.1 hf with rfl|hf
   .exact fun d hF h=>⟨h.Bt _ _ (H r (by simp)),yd hF _ _⟩
   .exact j5 l recs (fun q hq=>H q (by simp[hq])) f hf
  .exact j5 l recs (fun q hq=>H q (by simp[hq])) f hf
theorem sa (hw:iI v):∀k:Nat,aC (NN v.c++v.s.runs) k=true->2+v.s.journal<=(k:Int):=fun k hk=>by
 obtain⟨⟨a1,a2,a3,a4,a5,a6,a7,a8,a9,a10⟩,b,c⟩:=hw.may
 exact((vU hw.mounted.lies (by omega)).sect k hk).2.1
theorem IW {s:SB} (hm:s.may) (hs:s.sectors=(n:Int)):aN n s.journal s.used=0:=by
 obtain⟨⟨a1,a2,a3,a4,a5,a6,a7,a8,a9,a10⟩,b,c⟩:=hm
 unfold aN
 rw[if_neg (by omega)]
theorem mI (h:aF d):(Ni d).2=0/\(Ni d).1.waits=[]/\aF (Ni d).1/\(Ni d).1.stand.length=d.stand.length/\∀k,k<d.stand.length->seen (Ni d).1 k=seen d k:=by
 have hq:=(h.flush (P:=fun _=>True))
 exact⟨h.ja,iH h,hq.quiet,hq.len,fun k hk=>hq.seen k hk trivial⟩
def wK (v:VS) (F:VS->VS×Int):Prop:=
 (∃C:Int,C≠0/\∀e,F ⟨e,v.s,v.c,v.dead⟩=(⟨e,v.s,v.c,v.dead⟩,C))\/
 ∃FS s c,(∀e,F ⟨e,v.s,v.c,v.dead⟩=Oy (fV ⟨e,v.s,v.c,v.dead⟩ (ah (FS++[aE s]) e) s c))/\Cu v FS s c/\s.may/\s.seq=v.s.seq+1/\s.sectors=v.s.sectors/\s.journal=v.s.journal
theorem tE (hw:iI v) (l:List VC) (c2:dJ (Nk v) l) (e:DK) (hq:aF e) (hs:e.stand=v.d.stand):(ah (ND l (Ng (Nk v) l l.length).1) e).2=0/\aF (ah (ND l (Ng (Nk v) l l.length).1) e).1/\(ah (ND l (Ng (Nk v) l l.length).1) e).1.stand.length=v.d.stand.length:=by
 have XH:=hw.mounted.sect
 have Pd:∀k:Nat,aC (Nk v) k=true->2+v.s.journal<=(k:Int)/\(k:Int)<v.s.sectors:=fun k hk=>⟨(dI hk).1,(dI hk).2.1⟩
 refine uO v.d.stand.length l (Ng (Nk v) l l.length).1 (fun k hk hk' hb=>?_) e hq (by rw[hs])
 rw[qh (Nk v) l k hk hk',if_pos hb]
 exact rm (c2 k hk hb) (fun i hi=>by
  have:=(Pd i (eK (Nk v) l k (by omega) i hi)).2
  omega)
theorem vG (hw:iI v) (l:List VC):∀r∈(Ng (Nk v) l l.length).1,∀k∈Nu r.runs,kY v.c v.s k:=fun r hr k hk=>by
 obtain⟨h1,h2⟩:=mi (Nk v) l l.length (Md _) r hr
 exact vA hw (h2 k (dQ (jv h1) hk))
theorem rW (hw:iI v) (l:List VC) (hf:∀x∈l,x.fits) (c3:(Nn v.c (Ng (Nk v) l l.length).1).2=0):
  aM (Nn v.c (Ng (Nk v) l l.length).1).1/\iJ (Nn v.c (Ng (Nk v) l l.length).1).1/\bT (NN (Nn v.c (Ng (Nk v) l l.length).1).1) (NN v.c++((Ng (Nk v) l l.length).1.map (·.runs)).flatten):=by
 have Pq:Nn v.c (Ng (Nk v) l l.length).1=b9 v.c (Ng (Nk v) l l.length).1:=by unfold Nn;rw[if_pos hw.cat]
 rw[Pq]at c3 ⊢
 exact⟨lC hw.cat (sw _ _ (fun x hx=>(bP (hf x hx).2.1).1)) c3,sh _ hw.fitI (nZ (Nk v) l hf l.length (Md _)) c3,vB _ c3⟩
theorem EL {P:List ag} (h:bQ P=0) (hf:∀r∈P,r.fits) (hl:P.length<=8192):N9 (NZ P)=some [P]:=by
 have e:NZ P=iL P:=by unfold NZ;rw[if_pos h]
 unfold bQ at h
 split at h
 .cases h
 .rename_i h0
  split at h
  .rename_i h1
   have:=vC [P] (fun l QZ=>by
    obtain rfl:l=P:=by simpa using QZ
    exact⟨fun r hr=>⟨List.all_eq_true.1 h1 r hr,hf r hr⟩,by omega,hl⟩)
   rw[e]
   simpa using this
  .cases h
theorem yQ (hw:iI v) (l:List VC) (Sp:l.length<=8) (hf:∀x∈l,x.fits) (c2:dJ (Nk v) l) (c3:(Nn v.c (Ng (Nk v) l l.length).1).2=0) (c4:bQ (Ng (Nk v) l l.length).1=0) (c5:((NZ (Ng (Nk v) l l.length).1).length:Int)<=v.s.journal*128-v.s.used):
  Cu v (ND l (Ng (Nk v) l l.length).1++[Ni,fun d=>Nm d v.s.journal v.s.used (NZ (Ng (Nk v) l l.length).1),Ni]) (bw v.s (v.s.used+(NZ (Ng (Nk v) l l.length).1).length)) (Nn v.c (Ng (Nk v) l l.length).1).1/\(bw v.s (v.s.used+(NZ (Ng (Nk v) l l.length).1).length)).may:=by
 have hpi:=tE hw l c2
 have Ta:=vG hw l
 obtain⟨p1,p2,p3⟩:=rW hw l hf c3
 have acg:=EL c4 (nZ (Nk v) l hf l.length (Md _)) (by rw[ff _ _ _ (Md _)];omega)
 have QH:=(sI hw.mounted.lies (by have:=hw.may.1.2.2.2.1;omega) l p3).1
 obtain⟨⟨a1,a2,a3,a4,a5,a6,a7,a8,a9,a10⟩,b,c⟩:=hw.may
 have abk:=hw.may
 have XH:=hw.mounted.sect
 generalize (Ng (Nk v) l l.length).1=P at*
 generalize hAC:(Nn v.c P).1=AC at*
 generalize NZ P=tx at*
 have PX:(bw v.s (v.s.used+tx.length)).may:=mj hw.may (by omega) (by omega)
 have US:∀f∈ND l P++[Ni,fun d=>Nm d v.s.journal v.s.used tx,Ni],rB v.c v.s v.d.stand f:=fun f hf=>by
  rcases Mj.1 hf with hf|hf
  .exact j5 l P Ta f hf
  .simp only[List.mem_cons,List.not_mem_nil,or_false]at hf
   rcases hf with rfl|rfl|rfl
   .exact fun d hF h=>⟨h.flush,hF.flush⟩
   .exact fun d hF h=>⟨h.yv hF _ tx rfl (sa hw),B7 hF _ _ _⟩
   .exact fun d hF h=>⟨h.flush,hF.flush⟩
 refine⟨⟨fun f hf=>?_,US,dG _ a10,by omega,fun e hq hs UK=>?_,p1,p2⟩,PX⟩
 .rcases Mj.1 hf with hf|hf
  .exact nP l P f hf
  .simp only[List.mem_cons,List.not_mem_nil,or_false]at hf
   rcases hf with rfl|rfl|rfl
   .exact fun d e h=>mg h
   .exact fun d e h=>Bc h _ _ _
   .exact fun d e h=>mg h
 .obtain⟨q1,q2,q3⟩:=hpi e hq hs
  have hMe:=gG hw.mounted hw.fit hq.fit hw.waits hw.down hs UK hq.down
  rw[fM,if_pos q1]
  obtain⟨f1,f2,f3,f4,f5⟩:=mI q2
  have aaC:=(kz (st:=v.d.stand) (ND l P) (j5 l P Ta) e hq.fit (by rw[<-hs];exact bp.start UK)).1
  have YD:bp v.c v.s v.d.stand (Ni (ah (ND l P) e).1).1:=aaC.flush
  generalize (ah (ND l P) e).1=e1 at*
  have Qz:aN (Ni e1).1.stand.length v.s.journal v.s.used=0:=by rw[f4,q3];exact IW abk XH
  rcases yp f3.fit f3.down f3.fuse tx Qz with⟨PA,_⟩|⟨e2,g1,g2,g3,g4,g5,g6,g7⟩
  .omega
  have Q8:aF e2:=⟨g3,by rw[g4];exact f3.fuse,g5⟩
  obtain⟨k1,k2,k3,k4,k5⟩:=mI Q8
  have adm:bp v.c v.s v.d.stand e2:=by
   have:=YD.yv f3.fit v.s.journal tx rfl (sa hw)
   rw[g1]at this
   exact this
  have aak:bp v.c v.s v.d.stand (Ni e2).1:=adm.flush
  have Tq:ah [Ni,fun d=>Nm d v.s.journal v.s.used tx,Ni] e1=((Ni e2).1,0):=by
   show(if(Ni e1).2=0 then(if(Nm (Ni e1).1 v.s.journal v.s.used tx).2=0 then(if(Ni (Nm (Ni e1).1 v.s.journal v.s.used tx).1).2=0 then((Ni (Nm (Ni e1).1 v.s.journal v.s.used tx).1).1,(0:Int))else Ni (Nm (Ni e1).1 v.s.journal v.s.used tx).1)else Nm (Ni e1).1 v.s.journal v.s.used tx)else Ni e1)=_
   rw[if_pos f1,g1,if_pos rfl,if_pos k1]
  rw[Tq]
  have hl3:(Ni e2).1.stand.length=v.d.stand.length:=by rw[k4,g2,f4,q3]
  refine⟨rfl,k2,k3,hl3,fun e4 h4 TO hd4 hf4=>?_⟩
  have hl4:e4.stand.length=v.d.stand.length:=by rw[h4,List.length_set,hl3]
  have hel:e.stand.length=v.d.stand.length:=by rw[hs]
  have hsb:(bw v.s (v.s.used+tx.length)).sector.length=128:=dG _ a10
  obtain⟨c0,ls,m1,m2,m3,m4⟩:=hMe.stood
  have UG:∀k,2<=k->seen e4 k=seen (Ni e2).1 k:=fun k hk=>lz k2 TO h4 k (by omega)
  have Yn:bp v.c v.s e.stand (Ni e2).1:=by rw[hs];exact aak
  refine⟨?_,?_,⟨c0,ls++[P],?_,?_,?_,?_⟩,QH⟩
  .refine rL hMe.pick PX rfl (by show v.s.seq+1<_;have:=hw.seq;omega) hq.down UK hd4 TO (by omega) (by omega) (fun k hk=>?_)
   by_cases QC:k=(bw v.s (v.s.used+tx.length)).seq%2
   .rw[if_pos QC,QC]
    exact mJ TO h4 (by show _<(Ni e2).1.stand.length;rw[hl3];omega)
   .rw[if_neg QC,lz k2 TO h4 k (fun hh=>QC hh.symm),(Yn.told k).1 (Or.inl hk),fm UK]
  .show v.s.sectors=_
   rw[hl4];exact XH
  .show(if v.s.size=0 then some bI else if Nr e4 v.s.runs v.s.size=0 then jB (Ov e4 v.s.runs v.s.size)else none)=_
   have h0:∀a∈v.s.runs,0<=a.1:=fun a ha=>by
    have:=(hMe.lies.1 a (by simp[ha])).2.1
    omega
   obtain⟨x1,x2⟩:=oJ (d:=(Ni e2).1) (d':=e4) (by omega) k3.down hd4 v.s.runs v.s.size (fun k hk _=>UG k (by
    have:=sa hw k (by rw[fp,dQ h0 hk];simp)
    omega))
   obtain⟨y1,y2⟩:=r9 UK hq.down Yn k3.down v.s.runs v.s.size (fun k hk=>by rw[fp,dQ h0 hk];simp)
   rw[x1,x2,y1,y2]
   exact m1
  .show NC e4 v.s.journal (v.s.used+tx.length)=0
   refine np ?_ hd4
   rw[hl4,<-q3,<-f4];exact g6
  .show N9 (Oh e4 v.s.journal (v.s.used+tx.length))=_
   rw[(vS (d:=(Ni e2).1) (d':=e4) (by omega) k3.down hd4 (fun k hk _=>UG k hk) _ _).2,
    (vS (d:=e2) (d':=(Ni e2).1) k4 g3 k3.down (fun k _ hk=>k5 k hk) _ _).2,g7]
   have adu:bp v.c v.s e.stand (Ni e1).1:=by rw[hs];exact YD
   rw[(vt hq.fit f3.fit UK hq.down adu f3.down).2]
   exact xy _ (Md _) m3 acg
  .rw[iX,m4]
   show(if(Nn v.c P).2=0 then some (Nn v.c P).1 else none)=_
   rw[if_pos c3,hAC]
theorem rH (hw:iI v) (fs:List (DK->DK×Int)) (aaX:∀f∈fs,yz f) (US:∀f∈fs,rB v.c v.s v.d.stand f) (hid:∀e,aF e->e.stand=v.d.stand->(ah fs e).2=0/\aF (ah fs e).1/\(ah fs e).1.stand.length=v.d.stand.length)
  {c':aj} (hm:aM c') (hF:iJ c') {t:List UInt8} (ht:dz c'=t) {L:List (Int×Int)} (hL:∀k,aC L k=true->aC (Nk v) k=true) (h0:NI L (Nv t.length)=0) (QH:Oi v.s.sectors v.s.journal (NN c'++Np L (Nv t.length))):
  Cu v (fs++[fun d=>NF d (Np L (Nv t.length)) t,Ni]) (bZ v.s t.length (Np L (Nv t.length))) c'/\(bZ v.s t.length (Np L (Nv t.length))).may:=by
 obtain⟨⟨a1,a2,a3,a4,a5,a6,a7,a8,a9,a10⟩,b,c⟩:=hw.may
 have XH:=hw.mounted.sect
 have Pd:∀k:Nat,aC L k=true->2+v.s.journal<=(k:Int)/\(k:Int)<v.s.sectors:=fun k hk=>⟨(dI (hL k hk)).1,(dI (hL k hk)).2.1⟩
 have hX:=rm (n:=v.d.stand.length) h0 (fun k hk=>by have:=(Pd k hk).2;omega)
 have PX:=mz hw.may h0 Pd
 have hR:Pl 0 (Np L (Nv t.length)):=fR _ _
 have Yv:∀k,aC (Np L (Nv t.length)) k=true->aC (Nk v) k=true:=fun k hk=>hL k (ix hk)
 have hlen:=xP h0
 generalize Np L (Nv t.length)=R at*
 have Q9:∀k∈Nu R,kY v.c v.s k:=fun k hk=>vA hw (Yv k (dQ (jv hR) hk))
 have Oj:=Ip ht
 refine⟨⟨fun f hf=>?_,fun f hf=>?_,dG _ hlen.2.2,by omega,fun e hq hs UK=>?_,hm,hF⟩,PX⟩
 .rcases Mj.1 hf with hf|hf
  .exact aaX f hf
  .simp only[List.mem_cons,List.not_mem_nil,or_false]at hf
   rcases hf with rfl|rfl
   .exact fun d e h=>xg h _ _
   .exact fun d e h=>mg h
 .rcases Mj.1 hf with hf|hf
  .exact US f hf
  .simp only[List.mem_cons,List.not_mem_nil,or_false]at hf
   rcases hf with rfl|rfl
   .exact fun d hF h=>⟨h.Bt _ _ Q9,yd hF _ _⟩
   .exact fun d hF h=>⟨h.flush,hF.flush⟩
 .obtain⟨q1,q2,q3⟩:=hid e hq hs
  have hMe:=gG hw.mounted hw.fit hq.fit hw.waits hw.down hs UK hq.down
  rw[fM,if_pos q1]
  have aaC:=(kz fs US e hq.fit (by rw[<-hs];exact bp.start UK)).1
  generalize (ah fs e).1=e1 at*
  have hp0:(NF e1 R t).2=0:=js q2 (by rw[q3];exact hX)
  obtain⟨g1,g2,g3⟩:=Ak q2 R t hp0
  have YD:bp v.c v.s v.d.stand (NF e1 R t).1:=aaC.Bt R t Q9
  have Q8:aF (NF e1 R t).1:=g3.quiet
  obtain⟨k1,k2,k3,k4,k5⟩:=mI Q8
  have Tq:ah [fun d=>NF d R t,Ni] e1=((Ni (NF e1 R t).1).1,0):=by
   show(if(NF e1 R t).2=0 then(if(Ni (NF e1 R t).1).2=0 then((Ni (NF e1 R t).1).1,(0:Int))else Ni (NF e1 R t).1)else NF e1 R t)=_
   rw[if_pos hp0,if_pos k1]
  have Zt:(NF e1 R t).1.stand.length=v.d.stand.length:=by rw[g3.len,q3]
  rw[Tq]
  generalize (NF e1 R t).1=e2 at*
  have aak:bp v.c v.s v.d.stand (Ni e2).1:=YD.flush
  have hl3:(Ni e2).1.stand.length=v.d.stand.length:=by rw[k4,Zt]
  refine⟨rfl,k2,k3,hl3,fun e4 h4 TO hd4 hf4=>?_⟩
  have hl4:e4.stand.length=v.d.stand.length:=by rw[h4,List.length_set,hl3]
  have hel:e.stand.length=v.d.stand.length:=by rw[hs]
  have UG:∀k,2<=k->seen e4 k=seen (Ni e2).1 k:=fun k hk=>lz k2 TO h4 k (by omega)
  have Yn:bp v.c v.s e.stand (Ni e2).1:=by rw[hs];exact aak
  have abq:aN e4.stand.length v.s.journal 0=0:=by
   unfold aN
   rw[if_neg (by omega)]
  refine⟨?_,?_,⟨c',[],?_,np abq hd4,?_,rfl⟩,QH⟩
  .refine rL hMe.pick PX rfl (by show v.s.seq+1<_;have:=hw.seq;omega) hq.down UK hd4 TO (by omega) (by omega) (fun k hk=>?_)
   by_cases QC:k=(bZ v.s t.length R).seq%2
   .rw[if_pos QC,QC]
    have Tg:(bZ v.s t.length R).seq%2<2:=Nat.mod_lt _ (by decide)
    exact mJ TO h4 (by rw[hl3];omega)
   .rw[if_neg QC,lz k2 TO h4 k (fun hh=>QC hh.symm),(Yn.told k).1 (Or.inl hk),fm UK]
  .show v.s.sectors=_
   rw[hl4];exact XH
  .show(if((t.length:Nat):Int)=0 then some bI else if Nr e4 R t.length=0 then jB (Ov e4 R t.length)else none)=_
   obtain⟨x1,x2⟩:=oJ (d:=(Ni e2).1) (d':=e4) (by omega) k3.down hd4 R t.length (fun k hk _=>UG k (by
    have:=(dI (Yv k (dQ (jv hR) hk))).1
    omega))
   obtain⟨y1,y2⟩:=oJ (d:=e2) (d':=(Ni e2).1) k4 Q8.down k3.down R t.length (fun k _ hk=>k5 k hk)
   rw[if_neg (by omega),x1,x2,y1,y2,if_pos g1,g2]
   exact wt hm (sQ.2 hF) ht
  .show N9 (Oh e4 v.s.journal 0)=_
   have:Oh e4 v.s.journal 0=[]:=by
    unfold Oh
    rw[if_pos (np abq hd4)];rfl
   rw[this];rfl
theorem qH (hw:iI v) (hd:v.dead=false) (l:List VC) (Sp:l.length<=8) (hf:∀x∈l,x.fits):wK v (fun u=>NJ u l):=by
 by_cases c1:Ol v.c l=0
 .by_cases c2:dJ (Nk v) l
  .by_cases c3:(Nn v.c (Ng (Nk v) l l.length).1).2=0
   .by_cases c4:bQ (Ng (Nk v) l l.length).1=0
    .by_cases c5:((NZ (Ng (Nk v) l l.length).1).length:Int)<=v.s.journal*128-v.s.used
     .obtain⟨N8,PX⟩:=yQ hw l Sp hf c2 c3 c4 c5
      refine Or.inr ⟨_,_,_,fun e=>?_,N8,PX,rfl,rfl,rfl⟩
      show NJ ⟨e,v.s,v.c,v.dead⟩ l=_
      rw[nD (v:=⟨e,v.s,v.c,v.dead⟩) hd c1 c2 c3 c4 c5]
      congr 1
      have e1:bX l (Ng (Nk ⟨e,v.s,v.c,v.dead⟩) l l.length).1++[aK Ni,Nz (Nn v.c (Ng (Nk ⟨e,v.s,v.c,v.dead⟩) l l.length).1).1 (NZ (Ng (Nk ⟨e,v.s,v.c,v.dead⟩) l l.length).1)]=(ND l (Ng (Nk v) l l.length).1++[Ni]).map aK++[Nz (Nn v.c (Ng (Nk v) l l.length).1).1 (NZ (Ng (Nk v) l l.length).1)]:=by
       unfold bX
       rw[Ms,Mi]
       rfl
      show NK (bX l (Ng (Nk ⟨e,v.s,v.c,v.dead⟩) l l.length).1++[aK Ni,Nz (Nn v.c (Ng (Nk ⟨e,v.s,v.c,v.dead⟩) l l.length).1).1 (NZ (Ng (Nk ⟨e,v.s,v.c,v.dead⟩) l l.length).1)]) ⟨e,v.s,v.c,v.dead⟩=_
      rw[e1,qJ (ND l (Ng (Nk v) l l.length).1++[Ni]) [fun d=>Nm d v.s.journal v.s.used (NZ (Ng (Nk v) l l.length).1),Ni,aE (bw v.s (v.s.used+(NZ (Ng (Nk v) l l.length).1).length))] _ (bw v.s (v.s.used+(NZ (Ng (Nk v) l l.length).1).length)) (Nn v.c (Ng (Nk v) l l.length).1).1 ⟨e,v.s,v.c,v.dead⟩ (fun d=>wF _ _ _)]
      congr 2
      simp
     .by_cases c6:(aG (Nn v.c (Ng (Nk v) l l.length).1).1).2=0
      .by_cases c7:NI (Ng (Nk v) l l.length).2 (Nv (aG (Nn v.c (Ng (Nk v) l l.length).1).1).1.length)=0
       .obtain⟨p1,p2,p3⟩:=rW hw l hf c3
        have Zg:dz (Nn v.c (Ng (Nk v) l l.length).1).1=(aG (Nn v.c (Ng (Nk v) l l.length).1).1).1:=by unfold aG;rw[if_pos p1]
        have QH:=(sI hw.mounted.lies (by have:=hw.may.1.2.2.2.1;omega) l p3).2 _ (fR _ _) (fun k hk=>ix (n:=Nv (aG (Nn v.c (Ng (Nk v) l l.length).1).1).1.length) hk)
        obtain⟨N8,PX⟩:=rH hw (ND l (Ng (Nk v) l l.length).1) (nP _ _) (j5 _ _ (vG hw l)) (fun e hq hs=>tE hw l c2 e hq hs) p1 p2 Zg (fun k hk=>eK _ _ _ (Md _) k hk) c7 QH
        refine Or.inr ⟨_,_,_,fun e=>?_,N8,PX,rfl,rfl,rfl⟩
        show NJ ⟨e,v.s,v.c,v.dead⟩ l=_
        rw[nB (v:=⟨e,v.s,v.c,v.dead⟩) hd c1 c2 c3 c4 c5 c6 c7]
        congr 1
        show NK ((ND l (Ng (Nk v) l l.length).1).map aK++[NO (Nn v.c (Ng (Nk v) l l.length).1).1 (aG (Nn v.c (Ng (Nk v) l l.length).1).1).1 (Np (Ng (Nk v) l l.length).2 (Nv (aG (Nn v.c (Ng (Nk v) l l.length).1).1).1.length))]) ⟨e,v.s,v.c,v.dead⟩=_
        generalize (aG (Nn v.c (Ng (Nk v) l l.length).1).1).1=t at*
        generalize Np (Ng (Nk v) l l.length).2 (Nv t.length)=R at*
        rw[qJ (ND l (Ng (Nk v) l l.length).1) [fun d=>NF d R t,Ni,aE (bZ v.s t.length R)] _ (bZ v.s t.length R) (Nn v.c (Ng (Nk v) l l.length).1).1 ⟨e,v.s,v.c,v.dead⟩ (fun d=>wD _ _ _ _)]
        congr 2
        simp
       .exact Or.inl ⟨100,by decide,fun e=>rT (v:=⟨e,v.s,v.c,v.dead⟩) hd c1 c2 c3 c4 c5 c6 c7⟩
      .exact Or.inl ⟨_,c6,fun e=>rS (v:=⟨e,v.s,v.c,v.dead⟩) hd c1 c2 c3 c4 c5 c6⟩
    .exact Or.inl ⟨_,c4,fun e=>uq (v:=⟨e,v.s,v.c,v.dead⟩) hd c1 c2 c3 c4⟩
   .exact Or.inl ⟨_,c3,fun e=>pB (v:=⟨e,v.s,v.c,v.dead⟩) hd c1 c2 c3⟩
  .exact Or.inl ⟨100,by decide,fun e=>qI (v:=⟨e,v.s,v.c,v.dead⟩) hd c1 c2⟩
 .exact Or.inl ⟨_,c1,fun e=>pA (v:=⟨e,v.s,v.c,v.dead⟩) hd c1⟩
theorem DM (hL:Oi v.s.sectors v.s.journal (NN v.c++v.s.runs)) (hj:0<=v.s.journal) {R:List (Int×Int)} (hR:Pl 0 R) (Yv:∀k,aC R k=true->aC (Nk v) k=true):Oi v.s.sectors v.s.journal (NN v.c++R):=by
 have h:=(sI (v:=v) hL hj [] (c':=v.c) ⟨[],by simp[Ng]⟩).2 R hR (fun k hk=>Yv k hk)
 exact h
theorem sU (hw:iI v) (hd:v.dead=false):wK v cP:=by
 by_cases c1:(aG v.c).2=0
 .by_cases c2:NI (Nk v) (Nv (aG v.c).1.length)=0
  .have Zg:dz v.c=(aG v.c).1:=by unfold aG;rw[if_pos hw.cat]
   have QH:=DM hw.mounted.lies (by have:=hw.may.1.2.2.2.1;omega) (fR (Nk v) (Nv (aG v.c).1.length)) (fun k hk=>ix hk)
   obtain⟨N8,PX⟩:=rH hw [] (fun f hf=>by cases hf) (fun f hf=>by cases hf) (fun e hq hs=>⟨rfl,hq,by show e.stand.length=_;rw[hs]⟩) hw.cat hw.fitI Zg (fun k hk=>hk) c2 QH
   refine Or.inr ⟨_,_,_,fun e=>?_,N8,PX,rfl,rfl,rfl⟩
   rw[ke (v:=⟨e,v.s,v.c,v.dead⟩) hd c1 c2]
   rfl
  .exact Or.inl ⟨100,by decide,fun e=>mv (v:=⟨e,v.s,v.c,v.dead⟩) hd c1 c2⟩
 .exact Or.inl ⟨_,c1,fun e=>mu (v:=⟨e,v.s,v.c,v.dead⟩) hd c1⟩
section
variable {P:Program} {ops:Array Oper} {Q:Exit->Act->World->Prop} {md:Region.Mode} {C:World->Prop} {st:Nat}
def fv (P:Program) (md:Region.Mode) (ops:Array Oper) (Q:Exit->Act->World->Prop) (C:World->Prop) (st:Nat):Nat->Array Bool->Act->World->Prop
 |0,L,a,w=>Region.ready md ops L=[]/\Q .normal a w
 |fuel+1,L,a,w=>(Region.ready md ops L=[]->Q .normal a w)/\
  ∀i∈Region.ready md ops L,wpOp P ops Q i (fun a' w'=>((L.setIfInBounds i true).getD st true=false->C w')/\fv P md ops Q C st fuel (L.setIfInBounds i true) a' w') a w
theorem th:∀(fuel:Nat) (L:Array Bool) (a:Act) (w:World),fv P md ops Q C st fuel L a w->wpAny P md ops Q fuel L a w
 |0,_,_,_,h=>h
 |fuel+1,_,_,_,h=>⟨h.1,fun i hi=>wpOp_mono (fun a' w' h'=>th fuel _ a' w' h'.2) (h.2 i hi)⟩
theorem ij {j:Nat} (h:(L.setIfInBounds i true).getD j true=false):L.getD j true=false:=by
 by_cases Vu:i=j
 .subst Vu
  rcases Nat.lt_or_ge i L.size with h'|h'
  .simp[h']at h
  .simp[Array.getElem?_eq_none h']at h
 .rw[getD_set_ne true Vu]at h;exact h
theorem pg:∀(fuel:Nat) (L:Array Bool) (a:Act) (w:World),L.getD st true=true->wpAny P md ops Q fuel L a w->fv P md ops Q C st fuel L a w
 |0,_,_,_,_,h=>h
 |fuel+1,L,_,_,hl,h=>⟨h.1,fun i hi=>wpOp_mono (fun a' w' h'=>by
   have hs:(L.setIfInBounds i true).getD st true=true:=by
    cases hc:(L.setIfInBounds i true).getD st true with
    |true=>rfl
    |false=>rw[ij hc]at hl;cases hl
   exact⟨fun h0=>(by rw[hs]at h0;cases h0),pg fuel _ a' w' hs h'⟩) (h.2 i hi)⟩
theorem yI (hr:Region.ready md ops L=[st]) (h:wpAnyH P md ops Q (fun _=>True) (fuel+1) L a w):fv P md ops Q C st (fuel+1) L a w:=by
 refine⟨h.1 |> fun g h0=>g h0,fun i hi=>?_⟩
 have hi':=hi
 rw[hr]at hi'
 obtain rfl:i=st:=by simpa using hi'
 have hs:(L.setIfInBounds i true).getD i true=true:=by
  rcases Nat.lt_or_ge i L.size with h'|h'
  .simp[h']
  .simp[Array.getElem?_eq_none h']
 exact wpOp_mono (fun a' w' h'=>⟨fun h0=>(by rw[hs]at h0;cases h0),pg fuel _ a' w' hs (wpAny_of_held _ _ _ _ h'.2)⟩) (h.2 i hi)
theorem M58 {A:Prop}(h:A:=by
 have h1:=OL e he hb
 have h0:=(mem_ready.1 hr).1
 rw[heq]at h1
 rcases Nat.lt_or_ge i L.size with h'|h'
 .simp[h']at h0 h1;rw[h0]at h1;cases h1
 .simp[Array.getElem?_eq_none h']at h1):A:=h
theorem wT {i:Nat} {oi:Oper} {v:Value} (hi:ops[i]? =some oi) (hsel:∀(j:Nat) (o:Oper) cs b,ops[j]? =some o->o.op≠.select cs b)
  (hQ:∀c a w,Q (.panic c) (a.put oi.dst v) w->Q (.panic c) a w) (Ot:st≠i) (N8:∀o,ops[st]? =some o->∃e∈o.after,Region.binds md e=true/\e.on=i):
  ∀(fuel:Nat) (L:Array Bool) (a:Act) (w:World),
   (∀j oj,ops[j]? =some oj->j≠i->L.getD j true=false->(∀e∈oj.after,Region.binds md e=true->e.on≠i)->oi.apart ops oj=true)->
   i∈Region.ready md ops L->L.getD st true=false->YieldsIf P ops C oi v a->C w->
   fv P md ops Q C st fuel (L.setIfInBounds i true) (a.put oi.dst v) w->fv P md ops Q C st (fuel+1) L a w:=by
 intro fuel
 induction fuel with
 |zero=>
  intro L a w _ hr hl hy hS H
  refine⟨fun h=>(by rw[h]at hr;cases hr),fun j hj=>?_⟩
  by_cases S9:j=i
  .subst S9;exact hy.wpOp hi hS ⟨fun _=>hS,H⟩
  .have:=ready_mono hj S9
   rw[H.1]at this
   cases this
 |succ fuel ih=>
  intro L a w Q9 hr hl hy hS H
  refine⟨fun h=>(by rw[h]at hr;cases hr),fun j hj=>?_⟩
  by_cases S9:j=i
  .subst S9;exact hy.wpOp hi hS ⟨fun _=>hS,H⟩
  .have h1:=H.2 j (ready_mono hj S9)
   obtain⟨aaZ,oj,hoj,OL⟩:=mem_ready.1 hj
   have Yq:∀e∈oj.after,Region.binds md e=true->e.on≠i:=fun e he hb heq=>by
    exact M58
   have hjs:j≠st:=fun hh=>by
    subst hh
    obtain⟨e,he,hb,heq⟩:=N8 oj hoj
    exact Yq e he hb heq
   have hl1:(L.setIfInBounds j true).getD st true=false:=by rw[getD_set_ne true hjs];exact hl
   have Zt:((L.setIfInBounds i true).setIfInBounds j true).getD st true=false:=by rw[getD_set_ne true hjs,getD_set_ne true (Ne.symm Ot)];exact hl
   have h2:=wpOp_putIf hoj (Q9 j oj hoj S9 aaZ Yq) (fun cs b=>hsel i oi cs b hi) (fun cs b=>hsel j oj cs b hoj) hQ hy h1
   have Ub:∀k ok,ops[k]? =some ok->k≠i->(L.setIfInBounds j true).getD k true=false->
     (∀e∈ok.after,Region.binds md e=true->e.on≠i)->oi.apart ops ok=true:=fun k ok hk hki hun OF=>Q9 k ok hk hki (ij hun) OF
   refine wpOp_mono (fun a' w' h3=>⟨fun _=>h3.2.1 Zt,ih (L.setIfInBounds j true) a' w' Ub (ready_mono hr (Ne.symm S9)) hl1 h3.1 (h3.2.1 Zt) ?_⟩) h2
   rw[Array.setIfInBounds_comm _ _ S9]
   exact h3.2.2
theorem yH {i:Nat} {oi:Oper} {v:Value} (hi:ops[i]? =some oi) (hsel:∀(j:Nat) (o:Oper) cs b,ops[j]? =some o->o.op≠.select cs b)
  (hQ:∀c a w,Q (.panic c) (a.put oi.dst v) w->Q (.panic c) a w) (Ot:st≠i):
  ∀(fuel:Nat) (L:Array Bool) (a:Act) (w:World),
   (∀j oj,ops[j]? =some oj->j≠i->L.getD j true=false->(∀e∈oj.after,Region.binds md e=true->e.on≠i)->oi.apart ops oj=true)->
   i∈Region.ready md ops L->YieldsIf P ops (fun _=>True) oi v a->(L.getD st true=false->C w)->
   fv P md ops Q C st fuel (L.setIfInBounds i true) (a.put oi.dst v) w->fv P md ops Q C st (fuel+1) L a w:=by
 intro fuel
 induction fuel with
 |zero=>
  intro L a w _ hr hy hS H
  refine⟨fun h=>(by rw[h]at hr;cases hr),fun j hj=>?_⟩
  by_cases S9:j=i
  .subst S9;exact hy.wpOp hi trivial ⟨fun h0=>hS (ij h0),H⟩
  .have:=ready_mono hj S9
   rw[H.1]at this
   cases this
 |succ fuel ih=>
  intro L a w Q9 hr hy hS H
  refine⟨fun h=>(by rw[h]at hr;cases hr),fun j hj=>?_⟩
  by_cases S9:j=i
  .subst S9;exact hy.wpOp hi trivial ⟨fun h0=>hS (ij h0),H⟩
  .have h1:=H.2 j (ready_mono hj S9)
   obtain⟨aaZ,oj,hoj,OL⟩:=mem_ready.1 hj
   have Yq:∀e∈oj.after,Region.binds md e=true->e.on≠i:=fun e he hb heq=>by
    exact M58
   have Zt:(L.setIfInBounds j true).getD st true=false->((L.setIfInBounds i true).setIfInBounds j true).getD st true=false:=fun h0=>by
    rw[Array.setIfInBounds_comm _ _ (Ne.symm S9),getD_set_ne true (Ne.symm Ot)];exact h0
   have h2:=wpOp_putIf hoj (Q9 j oj hoj S9 aaZ Yq) (fun cs b=>hsel i oi cs b hi) (fun cs b=>hsel j oj cs b hoj) hQ hy h1
   have Ub:∀k ok,ops[k]? =some ok->k≠i->(L.setIfInBounds j true).getD k true=false->
     (∀e∈ok.after,Region.binds md e=true->e.on≠i)->oi.apart ops ok=true:=fun k ok hk hki hun OF=>Q9 k ok hk hki (ij hun) OF
   refine wpOp_mono (fun a' w' h3=>⟨fun h0=>h3.2.1 (Zt h0),ih (L.setIfInBounds j true) a' w' Ub (ready_mono hr (Ne.symm S9)) h3.1 (fun h0=>h3.2.1 (Zt h0)) ?_⟩) h2
   rw[Array.setIfInBounds_comm _ _ S9]
   exact h3.2.2
def wU (md:Region.Mode) (ops:Array Oper) (st i:Nat):Bool:=match ops[st]? with
 |some o=>o.after.any (fun e=>Region.binds md e&&e.on==i)
 |none=>true
theorem yK (h:wU md ops st i=true):∀o,ops[st]? =some o->∃e∈o.after,Region.binds md e=true/\e.on=i:=by
 intro o ho
 unfold wU at h
 rw[ho]at h
 obtain⟨e,he,hb⟩:=Array.any_eq_true'.1 h
 simp only[MJ,beq_iff_eq]at hb
 exact⟨e,he,hb.1,hb.2⟩
theorem jM {oi:Oper} {v:Value} {d:Option Tmp} (hi:ops[i]? =some oi) (hd:oi.dst=d)
  (hs:Region.noSelect ops=true) (hf:Region.free md ops L i=true) (hr:(Region.ready md ops L).contains i=true) (hw:wU md ops st i=true) (hn:(st==i)=false) (hl:L.getD st true=false)
  (hQ:∀c a w,Q (.panic c) (a.put d v) w->Q (.panic c) a w) (hy:YieldsIf P ops C oi v a) (hC:C w)
  (h:fv P md ops Q C st fuel (L.setIfInBounds i true) (a.put d v) w):fv P md ops Q C st (fuel+1) L a w:=by
 subst hd
 exact wT hi (Region.noSelect_spec hs) hQ (by simpa using hn) (yK hw) fuel L a w (Region.free_spec hi hf) (by simpa using hr) hl hy hC h
theorem ER {oi:Oper} {v:Value} {d:Option Tmp} (hi:ops[i]? =some oi) (hd:oi.dst=d)
  (hs:Region.noSelect ops=true) (hf:Region.free md ops L i=true) (hr:(Region.ready md ops L).contains i=true) (hn:(st==i)=false)
  (hQ:∀c a w,Q (.panic c) (a.put d v) w->Q (.panic c) a w) (hy:YieldsIf P ops (fun _=>True) oi v a) (hC:C w)
  (h:fv P md ops Q C st fuel (L.setIfInBounds i true) (a.put d v) w):fv P md ops Q C st (fuel+1) L a w:=by
 subst hd
 exact yH hi (Region.noSelect_spec hs) hQ (by simpa using hn) fuel L a w (Region.free_spec hi hf) (by simpa using hr) hy (fun _=>hC) h
theorem FB {oi:Oper} {d:Option Tmp} (hi:ops[i]? =some oi) (hd:oi.dst=d)
  (hr:Region.ready md ops L=[i]) (hw:Region.wanted oi (yielded ops a.tmps)=true)
  (h:∀K:Act->World->Prop,Shut (∀v w,C w->(C w->fv P md ops Q C st fuel (L.setIfInBounds i true) (a.put d v) w)->K (a.put d v) w)->Oper.wp P oi a w K Q):fv P md ops Q C st (fuel+1) L a w:=by
 subst hd
 refine⟨fun h0=>(by rw[h0]at hr;cases hr),fun j hj=>?_⟩
 rw[hr]at hj
 obtain rfl:j=i:=by simpa using hj
 unfold Go.wpOp
 simp only[hi,hw,if_true]
 refine .inl (h _ ?_)
 show ∀v w,_->_->_
 intro v w h1 h2
 exact⟨fun _=>h1,h2 h1⟩
theorem yG {id:Nat} (hm:P.follows .mixedOrders=true) (st:Nat) (hC:C w.drew)
  (h:C w.drew->fv P .any ops Q C st ops.size (Array.replicate ops.size false) a w.drew):(Code.region id ops true).wp P Q a w:=
 wp_region_any hm (th _ _ _ _ (h hC))
end
theorem BV (us:List (Nf×Value)):∀(k:Nat) (hk:k<us.length) (v:Value),(Nx us).set (k*4+3) v=Nx (us.set k (us[k].1,v)):=by
 induction us with
 |nil=>intro k hk;simp at hk
 |cons a us ih=>
  intro k hk v
  cases k with
  |zero=>simp[Nx]
  |succ k=>
   have e:(k+1)*4+3=(k*4+3)+1+1+1+1:=by omega
   rw[e]
   have:=ih k (by simpa using hk) v
   simp[Nx]at this ⊢
   exact this
structure me (w w2:World) (v':Value) (vs:List (Nf×Value)) (k:Nat) (wr:World) (us:List (Nf×Value)):Prop where
 same:us.map (·.1)=vs.map (·.1)
 row:wr.ownsRow w.heap.size 113 4 v' vs.length (Nx us)
 done:∀j (hj:j<us.length),j<k->bd wr us[j]/\bJ (fun x=>x<w2.heap.size) us[j].2 us[j].1.runs.length
 rest:∀j (hj:j<us.length) (Sr:j<vs.length),k<=j->us[j]=vs[j]
 kept:aa [] w wr
 size:w2.heap.size<=wr.heap.size
theorem me.step {w2 w5:World} {g c':Nat} {v3:Value} {vs:List (Nf×Value)} (hn:vs.length=n) (h:me w w2 (.slice (some ⟨g,0,none⟩) n c') vs k wr us) (hk:k<us.length) (Ns:k<vs.length) (k5:aa [] wr w5)
  (h3:af w5 v3 vs[k].1.runs wr.heap.size w5.heap.size) (OJ:bd w vs[k]) (hg:g<w2.heap.size) (T4:w.heap.size<=g):
  me w w2 (.slice (some ⟨g,0,none⟩) n c') vs (k+1) (w5.setCell ⟨g,k*4+3,none⟩ v3) (us.set k (us[k].1,v3)):=by
 subst hn
 have hus:us[k]=vs[k]:=h.rest k hk Ns (Md _)
 have kg:aa [g] w5 (w5.setCell ⟨g,k*4+3,none⟩ v3):=(aa.refl [g] w5).setCell (Or.inl (by simp)) _
 have O4:=h.size
 have hs5:=k5.size
 refine⟨?_,?_,fun j hj Vs=>?_,fun j hj Sr Vs=>?_,(h.kept.trans k5).setCell (Or.inr T4) _,?_⟩
 .rw[<-h.same,List.map_set]
  refine List.ext_getElem (by simp) (fun i h1 h2=>?_)
  rw[List.getElem_set]
  split
  .rename_i e;subst e;simp
  .rfl
 .have:=(World.ownsRow.stored (au h.row k5 (by simp)) (k*4+3) v3).1
  rw[BV us k hk v3]at this
  exact this
 .by_cases e:j=k
  .subst e
   rw[List.getElem_set_self]
   have ON:bJ (fun x=>x<wr.heap.size) v3 vs[j].1.runs.length:=h3.J7 (fun x hx=>hx)
   refine⟨⟨?_,?_⟩,?_⟩
   .show af _ v3 us[j].1.runs 0 _
    rw[hus]
    exact(h3.cf kg ON (fun x hx=>by
     obtain rfl:x=g:=by simpa using hx
     show x<_
     omega)).jK
   .rw[hus];exact OJ.2
   .show bJ _ v3 us[j].1.runs.length
    rw[hus]
    intro g' off sp n' c e hn hg'
    exact ON g' off sp n' c e hn (Mo hg' O4)
  .have hj0:j<us.length:=by simpa using hj
   rw[List.getElem_set_ne (fun hh=>e hh.symm)]
   obtain⟨d1,d2⟩:=h.done j hj0 (by omega)
   refine⟨⟨((d1.kept0 k5).1.cf kg d2 (fun x hx=>by
     obtain rfl:x=g:=by simpa using hx
     exact hg)).jK,d1.2⟩,d2⟩
 .have hj0:j<us.length:=by simpa using hj
  rw[List.getElem_set_ne (by omega)]
  exact h.rest j hj0 Sr (by omega)
 .have:=kg.size
  omega
theorem me.off (V:Value) (n:Nat) (hn:n=us.length) (hr:wr.ownsRow w.heap.size 113 4 V n (Nx us)) (h:∀x∈us,bd wr x/\bJ (fun x=>x<w.heap.size) x.2 x.1.runs.length):ax (fun x=>x<w.heap.size) wr V (us.map (·.1)):=by
 subst hn
 exact ax.bo hr (fun x hx=>hx) h
theorem xd (v:Value) (l:List Nf) (w:World) (h:aS w v l) (hl:l.length<=1000000) (hr:∀x∈l,x.runs.length<=1000000):
  Calls Tryz.prog 67 #[v] w (nK (fun x=>x<w.heap.size) l w):=by
 obtain⟨vs,rfl,Qe,OJ⟩:=h
 have Q1:∀y∈vs,iF y.2:=fun y hy=>(OJ y hy).iN
 rw[Mm]at hl
 have Pe:=td v vs.length (Nx vs) w Qe (iA Q1) hl
 obtain⟨pv,cv,rfl⟩:=Qe.shape
 have Ql:=Mb OJ
 have HR:=Mb hr
 clear Qe Q1 OJ hr
 go_enter Tryz.func67,Tryz.ntmps67
 go_wp2_with fail
 refine Pe.mono ?_;rintro e w2 ⟨v',rfl,Nt,k2⟩
 obtain⟨p',c',rfl⟩:=(cj.bo Nt).shape
 have OK:=Mb Nt
 have K2:=Mb k2
 clear Nt k2 Pe
 go_wp2_with fail
 go_loopw [9] (fun i wr=>∃(k:Nat) (us:List (Nf×Value)),k<=vs.length/\i=.int .i64 (k:Nat)/\me w w2 (.slice p' vs.length c') vs k wr us) (fun i _=>vs.length-(intOf i).toNat)
 case atStart=>exact⟨0,vs,Mu _,rfl,⟨rfl,OK.out,fun j hj h0=>(by omega),fun j _ _ _=>rfl,K2.out,Md _⟩⟩
 case round=>
  obtain⟨k,us,hk,rfl,hA⟩:=hrel
  have hlen:us.length=vs.length:=by have:=congrArg List.length hA.same;simpa using this
  by_cases Ns:k<vs.length
  .have i1:(k:Int)<vs.length:=by omega
   obtain⟨g,cap,hv',T4,Xr⟩:=hA.row.form (by omega)
   injection hv' with e1 e2 e3
   subst e1
   subst e3
   have hku:k<us.length:=by omega
   have hus:=hA.rest k hku Ns (Md _)
   have NW:wr.cell? ⟨g,k*4+3,none⟩=some vs[k].2:=by
    rw[hA.row.cellAt _ (by omega),(tZ us k hku).2.2.2,hus]
   have NT:=((Ql.out _ (Mh Ns)).kept0 hA.kept).1
   have Po:=HR.out vs[k].1 (List.mem_map_of_mem (Mh Ns))
   obtain⟨pk,ck,hvk⟩:=NT.shape
   rw[hvk]at NW NT
   have Pe:=Dr _ _ _ _ wr NT Po
   have HA:=Mb hA
   have NU:=Mb Ns
   have Oa:=Mb hlen
   have adv:=hA.row.frozenAt (k*4+3)
   have Sn:=Mb Pe
   have HG:=Mb (And.intro T4 Xr)
   have HG3:=Mb (Mn OK.out g rfl)
   have HKU:=Mb hku
   clear hA hlen hus NT hk hku Po hvk T4 Xr
   go_wp2_with fail
   refine Sn.out.mono ?_;rintro e w5 ⟨⟨v3,rfl,h3⟩,k5⟩
   obtain⟨p3,c3,rfl⟩:=h3.shape
   have Od:=au HA.out.row k5 (by simp)
   have adl:w5.cell? ⟨g,k*4+3,none⟩=some (.slice pk vs[k].1.runs.length ck):=(k5.cell (by exact HG.out.2) (by simp)).trans NW
   have adW:=Od.frozenAt (k*4+3)
   have K5:=Mb k5
   have H3:=Mb h3
   clear Od NW adv h3 k5
   go_wp2_with fail
   go_roundw
   case rel=>exact⟨k+1,us.set k ((us[k]'HKU.out).1,.slice p3 vs[k].1.runs.length c3),NU.out,by go_num,me.step rfl HA.out HKU.out NU.out K5.out H3.out (Ql.out _ (Mh NU.out)) HG3.out.2 HG3.out.1⟩
   case measure=>(have hh:=NU.out;simp[intOf]<;>omega)
  .have i1:¬(k:Int)<vs.length:=by omega
   have HA:=Mb hA
   have Oa:=Mb hlen
   have V0:k=vs.length:=by omega
   have HKN:=Mb V0
   clear hA hlen V0 hk
   go_wp2_with fail
   go_ret
   have hA:=HA.out
   refine⟨_,rfl,?_,hA.kept⟩
   have e:vs.map (·.1)=us.map (·.1):=hA.same.symm
   rw[e]
   refine me.off _ _ Oa.out.symm hA.row (fun x hx=>?_)
   obtain⟨j,hj,rfl⟩:=MO.1 hx
   obtain⟨d1,d2⟩:=hA.done j hj (by have:=HKN.out;have:=Oa.out;omega)
   exact⟨d1,fun g off sp n' c e' hn hg'=>d2 g off sp n' c e' hn (Mo hg' K2.out.size)⟩
end Go.Proofs.YtdkimcnlhmhpgaaGreat

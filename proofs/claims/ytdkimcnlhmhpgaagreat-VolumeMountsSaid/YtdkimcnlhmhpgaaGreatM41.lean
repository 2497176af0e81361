/- -/
import Derived.Test.YtdkimcnlhmhpgaaGreatM39
import Derived.Test.YtdkimcnlhmhpgaaGreatM40
set_option maxHeartbeats 32000000
set_option maxRecDepth 100000
namespace Go.Proofs.YtdkimcnlhmhpgaaGreat
open Go.Proofs.Tryz Go.RowKit
variable {r rlo:Nat} {MX:Option (SB×au)} {d:DK} {w:World}
def qy (r:Nat) (dn:Bool) (MX:Option (SB×au)) (w:World) (e:Ending) (w':World):Prop:=
 ((dn=true/\e=.returned (.tuple #[.pointer none,(90:Int)]))\/(dn=false/\MX=none/\e=.returned (.tuple #[.pointer none,(110:Int)]))\/
 (dn=false/\∃s c,MX=some (s,c)/\∃R sv vb vm vn,w.heap.size<=R/\ae w' R (bL r s sv c vb vm vn false) 202/\af w' sv s.runs w R/\av (fun x=>x<w.heap.size\/x=R) w' (.agg #[.int .u32 c.nextBox,.int .u32 c.nextMan,vb,vm,vn]) c/\e=.returned (.tuple #[.pointer (some ⟨R,0,none⟩),(0:Int)])))/\NP [] w w'
def iB (r:Nat) (d:DK) (w:World) (e:Ending) (w':World):Prop:=qy r d.down (Ql d) w e w'
theorem nv {w w':World} (h:MX=none) (k:NP [] w w'):qy r false MX w (.returned (.tuple #[.pointer none,(110:Int)])) w':=⟨Or.inr (Or.inl ⟨rfl,h,rfl⟩),k⟩
theorem Hm {w w':World} (k:NP [] w w'):qy r true MX w (.returned (.tuple #[.pointer none,(90:Int)])) w':=⟨Or.inl ⟨rfl,rfl⟩,k⟩
theorem JC {r R:Nat} {MX:Option (SB×au)} {s:SB} {c:au} {sv vb vm vn:Value} {w w':World} (h:MX=some (s,c)) (h1:w.heap.size<=R) (o:ae w' R (bL r s sv c vb vm vn false) 202) (hr:af w' sv s.runs w R) (hc:av (fun x=>x<w.heap.size\/x=R) w' (.agg #[(c.nextBox,()),(c.nextMan,()),vb,vm,vn]) c) (k:NP [] w w'):qy r false MX w (.returned (.tuple #[R,(0:Int)])) w':=⟨Or.inr (Or.inr ⟨rfl,s,c,h,R,sv,vb,vm,vn,h1,o,hr,hc,rfl⟩),k⟩
theorem yG {s:SB} (hm:s.may) (hs:s.sectors=(d.stand.length:Int)) (hd:d.down=false):Oi d s.journal s.used=0:=by
 unfold Oi
 rw[zO hm hs,if_neg _b,if_neg ai!]
theorem M85 {A:Prop}(h:A:=by
 go_wp2_with fail
 go_ret2
 exact nv (by rw[TE.out,Pk.out];rfl) (Ry.out.trans K37.out)):A:=h
theorem M52 {A:Prop}(h:A:=by
 clear aae XB hw8
 refine hK.out _ _ (Ow.out _ K5A.out) (fun hHeld=>nM ?_)
 clear hK K
 refine tS ?_
 refine Ng _c ?_ _
 try simp only[List.set_cons_succ,List.set_cons_zero]
 go_wp2_with fail
 go_meet
 exact⟨_,_,_,_,_,_,_,rfl,rfl,O17.out,K5A.out,Z9.out,abn.out⟩):A:=h
theorem Hl (hD:QA w r rlo d) (hn:d.stand.length<=96):
  am! 70 #[.pointer (some ⟨r,0,none⟩)] w (iB r d w):=by
 have ZH:Hid (∀W,NP [] w W->am! 128 #[r,(0:Int)] W fun e w'=>e=.returned (.tuple #[.string (bs (Pc d 0)),(OM d 0:Int)])/\W=w'):=tK (fun W k=>(hD.aJ k).read 0)
 have VP:Hid (∀W,NP [] w W->am! 128 #[r,(1:Int)] W fun e w'=>e=.returned (.tuple #[.string (bs (Pc d 1)),(OM d 1:Int)])/\W=w'):=tK (fun W k=>(hD.aJ k).read 1)
 have ZF:∀i,(Pc d i).length<=1000000:=fun i=>by
  exact adI
 have Sy:Hid (∀W,am! 129 #[.string (bs (Pc d 0)),.string (bs (Pc d 1))] W (fO true false (Pc d 0) (Pc d 1) W)):=tK (fun W=>KN _ _ W (ZF 0) (ZF 1))
 have aar:Hid (∀W (s:SB) (v:Value) (PU PC:Nat),NP [] w W->af W v s.runs PU PC->s.may->am! 130 #[r,.agg (s.cells v)] W (kS d s W)):=tK (fun W s v PU PC k hr hm=>Ju (hD.aJ k) _a s v PU PC hr hm)
 have Xb:Hid (∀W (s:SB),NP [] w W->s.may->s.sectors=(d.stand.length:Int)->am! 131 #[r,s.used] W fun e w'=>e=.returned (.tuple #[.string (bs (Pq d s.journal s.used)),(Oi d s.journal s.used:Int)])/\W=w'):=tK (fun W s k hm hs=>JD s.journal s.used (hD.aJ k) (zO hm hs))
 have HLD:Hid (d.down=false->∀s:SB,s.may->s.sectors=(d.stand.length:Int)->Oi d s.journal s.used=0):=tK (fun hd s hm hs=>yG hm hs hd)
 have Xj:Hid (∀j u,(Pq d j u).length<=128*d.stand.length):=tK (fun j u=>me hD.fit j u)
 have Vb:Hid (∀W j u,am! 132 #[.string (bs (Pq d j u))] W (kh (Pq d j u) W)):=tK (fun W j u=>GE _ W (by have:=me hD.fit j u;omega))
 have VK:=tK (qJ (d:=d))
 have Ul:=tK (fun s=>uX (d:=d) (s:=s))
 have RZ:=tK (fun s=>pA (a:=Pc d 0) (b:=Pc d 1) (s:=s))
 have XZ:=tK (fun o=>xg (a:=Pc d 0) (b:=Pc d 1) (o:=o))
 have HBA:=tK (fun s c h=>rY hD.fit (s:=s) (c:=c) h)
 unfold fO at Sy
 unfold SB.cells at Sy
 have⟨ps,cs,ps2,cs2,y0,y1,y2,y3,y4,_⟩:=hD.ref.mz
 have SZ:Hid (∀W,NP [] w W->W.cell? r=(ps,d.stand.length,cs)):=tK (fun W k=>(k.cell (a:=r) hD.lt _b).trans y0)
 have HN:Hid (d.stand.length<=96):=tK hn
 have Ub:=tK (fun s=>qF (d:=d) (s:=s))
 have Xc:=tK (fun s=>qE (d:=d) (s:=s))
 have HX4:=tK (fun s c0 ls=>uA (d:=d) (s:=s) (c0:=c0) (ls:=ls))
 unfold iB
 generalize Ql d=MX at*
 generalize Pc d 0=R0 at*
 generalize Pc d 1=R1 at*
 generalize OM d 0=A0 at*
 generalize OM d 1=A1 at*
 clear hD hn ZF y0 y1 y2 y3
 go_enter func70,ntmps70
 cases RP:d.down
 .rw[RP]at y4
  go_wp2_with fail
  refine(ZH.out _ (NP.refl _ _)).mono ?_;rintro e w0 ⟨rfl,rfl⟩
  go_wp2_with fail
  refine(VP.out _ (NP.refl _ _)).mono ?_;rintro e w0 ⟨rfl,rfl⟩
  go_wp2_with fail
  refine(Sy.out _).mono ?_;rintro e w2 ⟨⟨o,v,hpick,rfl,Oe⟩,k2⟩
  have Wn:=XZ.out o hpick
  generalize hps:mK o=pp at*
  obtain⟨sq,se,jr,us,sz,rs⟩:=pp
  simp only at*
  obtain⟨pv,cv,rfl⟩:=Oe.shape
  have⟨K2,Ra⟩:=_f k2 Oe
  have o8:=ae.new w2 #[.int .u64 sq,se,jr,us,sz,(pv,rs.length,cv)] 58
  have k8:=(NP.refl [] w2).alloc (.cells #[.int .u64 sq,se,jr,us,sz,(pv,rs.length,cv)] 58)
  have⟨O8,K8,HDN⟩:=gg! o8 k8 RP
  clear hpick Oe k2 k8 RP ZH VP Sy XZ y4
  cases o with
  |none=>
   have TE:=tK (VK.out Wn)
   clear Wn hps o8
   go_upto_region 6 with fail
   have Ry:=tK (K2.out.trans K8.out)
   generalize w2.alloc (.cells #[.int .u64 sq,se,jr,us,sz,(pv,rs.length,cv)] 58)=w3 at*
   generalize d.stand.length=NN at*
   have Ow:Hid (∀W,NP [] w3 W->W.cell? (aa w2 1)=se/\W.cell? r=(ps,NN,cs)):=tK (fun W k=>⟨(k.own O8.out _b).c6.2.1,SZ.out W (Ry.out.trans k)⟩)
   generalize w2.heap.size=n8 at*
   refine MK (S:=(fun W=>W.cell? (aa n8 1)=se/\W.cell? r=(ps,NN,cs))) _c _J (fun hHeld=>?_)
   refine tS ?_
   refine Ng _c ?_ _
   try simp only[List.set_cons_succ,List.set_cons_zero]
   go_wp2_with fail
   go_ret2
   exact nv (TE.out) (Ry.out.trans ((NP.refl [] w3).drew))
  |some l=>
   have V2:jM R0 R1=some ⟨sq,se,jr,us,sz,rs⟩:=by rw[Wn];exact congrArg some hps
   have hM:=Ul.out _ V2
   have Ya:=tK (RZ.out _ V2).1
   have XX:=tK hM
   clear o8 Wn V2 hps hM VK Ul RZ
   go_upto_region 6 with fail
   have Ry:=tK (K2.out.trans K8.out)
   have Tc:Hid (w.heap.size<=w2.heap.size/\w2.heap.size<(w2.alloc (.cells #[.int .u64 sq,se,jr,us,sz,(pv,rs.length,cv)] 58)).heap.size):=tK ⟨K2.out.size,_b⟩
   have Vc:=tK (Ra.out.kept0 K8.out)
   generalize w2.alloc (.cells #[.int .u64 sq,se,jr,us,sz,(pv,rs.length,cv)] 58)=w3 at*
   obtain⟨NN,hNN⟩:∃N,d.stand.length=N:=⟨_,rfl⟩
   rw[hNN]at SZ
   have Ow:Hid (∀W,NP [] w3 W->W.cell? (aa w2 1)=se/\W.cell? r=(ps,NN,cs)):=tK (fun W k=>⟨(k.own O8.out _b).c6.2.1,SZ.out W (Ry.out.trans k)⟩)
   obtain⟨n8,hn8⟩:∃n8,w2.heap.size=n8:=⟨_,rfl⟩
   simp only[hn8]at O8 Tc Ow Vc ⊢
   have Uf:=tK hNN
   have RS:Hid (w.heap.size<=n8/\n8<w3.heap.size):=tK Tc.out
   have hrw:=Vc.out.weaken (lo':=w.heap.size) (hi':=n8) _a (MG _) (by have:=Tc.out;omega)
   have Vc:=tK hrw
   clear hrw
   clear hNN K2 Ra
   refine MK (S:=(fun W=>W.cell? (aa n8 1)=se/\W.cell? r=(ps,NN,cs))) _c _J (fun hHeld=>?_)
   refine tS ?_
   refine Ng _c ?_ _
   try simp only[List.set_cons_succ,List.set_cons_zero]
   by_cases hse:se=(NN:Int)
   .have e1:(se != (NN:Int))=false:=by rw[hse];simp
    have Zt:se=(d.stand.length:Int):=by rw[hse,Uf.out]
    have TE:=tK (XX.out.trans (if_pos Zt))
    have HSE:=tK Zt
    have K3:=tK (Ry.out.trans ((NP.refl [] w3).drew))
    have K3d:=tK ((NP.refl [] w3).drew)
    have Oo:=aar.out _ ⟨sq,se,jr,us,sz,rs⟩ _ _ _ K3.out (Vc.out.kept0 K3d.out) Ya.out
    have HBS:=tK Oo
    unfold kS SB.cells at HBS
    have Ss:=tK (fun W (k:NP [] w3 W)=>Xb.out W ⟨sq,se,jr,us,sz,rs⟩ (Ry.out.trans k) Ya.out Zt)
    have HRE:=tK (fun W=>Vb.out W jr us)
    unfold kh at HRE
    have HLX:=tK (HLD.out HDN.out ⟨sq,se,jr,us,sz,rs⟩ Ya.out Zt)
    have HF:=tK (Xj.out jr us)
    have X1:=tK (Ub.out ⟨sq,se,jr,us,sz,rs⟩)
    have X3:=tK (Xc.out ⟨sq,se,jr,us,sz,rs⟩)
    have X4:=tK (HX4.out ⟨sq,se,jr,us,sz,rs⟩)
    have BA:=tK (HBA.out ⟨sq,se,jr,us,sz,rs⟩)
    have O83:=tK (K3d.out.own O8.out _b)
    have⟨x0,x1,x2,x3,x4,x5⟩:=O83.out.c6
    simp only at Ss HLX X3 X4
    clear hse Zt Oo XX aar Xb Vb HLD Xj Ub Xc HX4 HBA
    generalize Pn d ⟨sq,se,jr,us,sz,rs⟩=SX at*
    generalize PA d ⟨sq,se,jr,us,sz,rs⟩=BX at*
    generalize Pq d jr us=X at*
    generalize Oi d jr us=G at*
    go_wp2_with fail
    refine HBS.out.mono ?_;rintro e w4 ⟨⟨c0,v0,hbx,Oz,rfl⟩|⟨hbx,rfl⟩,k4⟩
    .obtain⟨vb,vm,vn,rfl,hb,TF,QT,SU,TS⟩:=id Oz
     obtain⟨p1,c1,rfl⟩:=hb.plain.shape
     obtain⟨p2,c2,rfl⟩:=TF.plain.shape
     obtain⟨p3,c3,rfl⟩:=QT.plain.shape
     have⟨QK,SP⟩:=_f Oz hbx
     have Xo:=tK (BA.out c0 hbx)
     have Zm:=tK (K3d.out.trans k4)
     have o6:=ae.new w4 #[(c0.nextBox,()),(c0.nextMan,()),(p1,c0.boxes.length,c1),(p2,c0.mans.length,c2),(p3,c0.names.length,c3)] 52
     have k6:=(NP.refl [] w4).alloc (.cells #[(c0.nextBox,()),(c0.nextMan,()),(p1,c0.boxes.length,c1),(p2,c0.mans.length,c2),(p3,c0.names.length,c3)] 52)
     have⟨z0,z1,z2,z3,z4⟩:=o6.k5
     have⟨O6,K6⟩:=_f o6 k6
     have O84:=tK (k6.own (k4.own O83.out _b) _b)
     clear x0 x1 x2 x3 x4 x5
     have⟨x0,x1,x2,x3,x4,x5⟩:=O84.out.c6
     clear o6 k6 Oz hb TF QT SU TS hbx k4 BA HBS
     go_wp2_with fail
     have K36:=tK (Zm.out.trans K6.out)
     have HC6:=tK (((QK.out.cI (T:=fun x=>x<w.heap.size) (fun x hx=>by have h1:=Ry.out.size;show x<w3.heap.size;omega)).more (T:=fun x=>x=w4.heap.size) (fun x hx=>by rw[hx];exact MG _)).kept0 K6.out)
     have Yu:Hid (w3.heap.size<=w4.heap.size/\w4.heap.size<(w4.alloc (.cells #[(c0.nextBox,()),(c0.nextMan,()),(p1,c0.boxes.length,c1),(p2,c0.mans.length,c2),(p3,c0.names.length,c3)] 52)).heap.size):=tK ⟨Zm.out.size,_b⟩
     generalize w4.alloc (.cells #[(c0.nextBox,()),(c0.nextMan,()),(p1,c0.boxes.length,c1),(p2,c0.mans.length,c2),(p3,c0.names.length,c3)] 52)=w6 at*
     obtain⟨n10,hn10⟩:∃n,w4.heap.size=n:=⟨_,rfl⟩
     simp only[hn10]at O6 Yu HC6 z0 z1 z2 z3 z4 ⊢
     have aeN:Hid (n10≠n8/\n8<w3.heap.size):=tK (by have h1:=Yu.out;have h2:=RS.out;omega)
     clear hn10
     refine(Ss.out _ K36.out).mono ?_;rintro e w6' ⟨rfl,rfl⟩
     go_wp2_with fail
     refine(HRE.out _).mono ?_;rintro e w7 ⟨Rz,k7⟩
     have K37:=tK (K36.out.trans k7)
     have O67:=tK (k7.own O6.out _b)
     have O87:=tK (k7.own O84.out _b)
     have HC7:=tK (HC6.out.kept0 k7)
     have aac:Hid (w6.heap.size<=w7.heap.size):=tK k7.size
     clear k7 z0 z1 z2 z3 z4 x0 x1 x2 x3 x4 x5 Ss HRE
     rcases Rz with⟨ls,v9,P0,Tt,rfl⟩|⟨P0,rfl⟩
     .have VU:=tK Tt
      obtain⟨p9,c9,rfl⟩:=Tt.shape
      have HX6:=tK (X4.out c0 ls SP.out HLX.out P0)
      have TC:=tK (pN P0)
      have ace:=tK (fun l hl=>(kO P0 l hl).1)
      have aeo:(ls.length:Int)<=9223372036854775807:=by
       have:=VU.out.len
       unfold maxLen at this
       omega
      clear Tt P0
      go_wp2_with fail
      go_loopw [16] (fun i wr=>∃(k:Nat) (c:au) (vb vm vn:Value),k<=ls.length/\i=.int .i64 (k:Nat)/\NP [n10] w7 wr/\ae wr n10 #[.int .u32 c.nextBox,.int .u32 c.nextMan,vb,vm,vn] 52/\av (fun x=>x<w.heap.size\/x=n10) wr (.agg #[.int .u32 c.nextBox,.int .u32 c.nextMan,vb,vm,vn]) c/\(bM c0 (ls.take k)=some c/\OL c/\jn c/\cQ c<=cQ c0+(ls.take k).flatten.length)) (fun i _=>ls.length-(intOf i).toNat)
      case atStart=>exact⟨0,c0,_,_,_,Nb _,rfl,NP.refl _ _,O67.out,HC7.out,rfl,Xo.out.1,Xo.out.2.1,_b⟩
      case round=>
       obtain⟨k,c,vb,vm,vn,hk,rfl,Xf,ho10,hcr,hrp,Pz,hfi,Q2⟩:=hrel
       rename World=>wr
       obtain⟨⟨pb,nb,cb,rfl⟩,⟨pm,nm,cm,rfl⟩,⟨pn,nn,cn,rfl⟩⟩:=av.sr hcr
       have⟨XE,YO,XF⟩:=gg! Xf ho10 hcr
       have KR:=tK ((Ry.out.trans K37.out).call Xf (fun x hx=>Or.inr (by
        obtain rfl:x=n10:=_h
        have h1:=Yu.out
        have h2:=RS.out
        omega)))
       clear Xf ho10 hcr
       by_cases NV:k<ls.length
       .have i1:(k:Int)<ls.length:=_a
        have Of:=tK NV
        have⟨bt,off,kv,ct,hpe,Rm⟩:=VU.out.at_ k NV
        injection hpe with hpe Rq hpc
        subst hpe
        subst hpc
        clear Rq
        have⟨Ou,Q8⟩:=Rm wr [n10] XE.out (fun x hx=>by
         obtain rfl:x=n10:=_h
         have h1:=Yu.out
         exact Or.inl h1.2)
        have Ug:=pO NV
        have Qy:=ace.out _ (MJ NV)
        have Ri:=TC.out.1 _ (MJ NV)
        have Ox:=qI (c0:=c0) (c:=c) NV hrp
        obtain⟨pk,ck,rfl⟩:=Q8.shape
        have QC:=tK Q8.oI
        clear Q8
        generalize XD:ls[k]'NV=lk at*
        have acp:Hid (n10<wr.heap.size/\w.heap.size<=wr.heap.size):=tK ⟨YO.out.lt,KR.out.size⟩
        have SG:Hid (∀W (S0:Nat->Prop),NP [] wr W->av S0 W (.agg #[(c.nextBox,()),(c.nextMan,()),(pb,nb,cb),(pm,nm,cm),(pn,nn,cn)]) c->(∀x,S0 x->x<W.heap.size)->am! 133 #[.agg #[(c.nextBox,()),(c.nextMan,()),(pb,nb,cb),(pm,nm,cm),(pn,nn,cn)],(pk,lk.length,ck)] W (dC S0 (N8 c lk) W)):=tK (fun W S0 q hcw hs0=>JJ (S0:=S0) _ c (pk,lk.length,ck) lk _ _ W hcw hs0 Pz.small (QC.out.kept0 q) (fun r hr=>sV (Qy r hr) (Ri r hr)) (fun r hr=>by have:=jz (Qy r hr);omega))
        unfold dC at SG
        have P8:=tK (kE [lk] (c:=c) (c':=(N8 c lk).1) Pz hfi (fun l hl r hr=>by
         obtain rfl:l=lk:=ae!
         exact Ri r hr))
        have aa6:Hid (∀C1,(N8 c lk).2=C1->C1=0->bM c [lk]=some (N8 c lk).1):=tK (fun C1 h1 h2=>by
         show(if(N8 c lk).2=0 then some (N8 c lk).1 else none)=_
         rw[if_pos (h1.trans h2)])
        have⟨Sb,ZL,Wo⟩:=gg! Ox Ug Q2
        have Ow:Hid (∀W,NP [] wr W->W.cell? n10=(c.nextBox,())/\W.cell? (aa n10 1)=(c.nextMan,())/\W.cell? (aa n10 2)=(pb,nb,cb)/\W.cell? (aa n10 3)=(pm,nm,cm)/\W.cell? (aa n10 4)=(pn,nn,cn)/\W.cell? (aa bt (off+k))=(pk,lk.length,ck)):=tK (fun W q=>by
         have⟨a0,a1,a2,a3,a4⟩:=(q.own YO.out _b).k5
         exact⟨a0,a1,a2,a3,a4,(q.cell (a:=(aa bt (off+k))) (sW Ou) _b).trans Ou⟩)
        clear Rm XD Ug Qy Ri Ox hrp Pz hfi Q2 hk QC Ou
        generalize N8 c lk=AP at*
        obtain⟨c5,C5⟩:=AP
        simp only at*
        go_upto_region 16 with fail
        go_cut [17,18] (fun v17 v18 wx=>∃n17 VQ c15 VN c25 VR c35,v17=.pointer (some ⟨n17,0,none⟩)/\v18=C5/\ae wx n17 #[(c5.nextBox,()),(c5.nextMan,()),.slice VQ c5.boxes.length c15,.slice VN c5.mans.length c25,.slice VR c5.names.length c35] 52/\NP [] wr wx/\av (fun x=>x<w.heap.size\/x=n10) wx (.agg #[(c5.nextBox,()),(c5.nextMan,()),.slice VQ c5.boxes.length c15,.slice VN c5.mans.length c25,.slice VR c5.names.length c35]) c5/\wr.heap.size<=n17)
        case first=>
         refine MK (S:=(fun W=>W.cell? n10=(c.nextBox,())/\W.cell? (aa n10 1)=(c.nextMan,())/\W.cell? (aa n10 2)=(pb,nb,cb)/\W.cell? (aa n10 3)=(pm,nm,cm)/\W.cell? (aa n10 4)=(pn,nn,cn)/\W.cell? (aa bt (off+k))=(pk,lk.length,ck))) _c (by exact Ow.out _ ((NP.refl [] wr).drew)) (fun hHeld=>?_)
         refine tS ?_
         refine wpAnyH_ready (rs:=[5,9]) _c _b ?_
         refine(AllReadyH.cons rfl (fun K hK=>?_) (AllReadyH.cons rfl (fun K hK=>?_) AllReadyH.nil))
         .go_simp
          ((with_reducible refine(SG.out _ (fun x=>x<w.heap.size\/x=n10) ((NP.refl [] wr).drew) (XF.out.kept0 ((NP.refl [] wr).drew)) (fun x hx=>by have h1:=acp.out;have h2:(wr.drew).heap.size=wr.heap.size:=_b;omega)).mono ?_));rintro e w5 ⟨v5,rfl,hcat5,k5⟩
          obtain⟨vb5,vm5,vn5,rfl,XP,ZS,hn5,_,_⟩:=id hcat5
          obtain⟨VQ,c15,rfl⟩:=XP.plain.shape
          obtain⟨VN,c25,rfl⟩:=ZS.plain.shape
          obtain⟨VR,c35,rfl⟩:=hn5.plain.shape
          have VO:=tK hcat5
          have K5:=tK (((NP.refl [] wr).drew).trans k5)
          clear hcat5 XP ZS hn5 k5
          go_wp2_with fail
          refine hK.out _ _ (Ow.out _ K5.out) (fun hHeld=>nM ?_)
          clear hK K
          refine tS ?_
          refine rD 9 (fun K hK=>?_)
          go_simp
          refine hK.out _ _ (Ow.out _ (K5.out.alloc _)) (fun hHeld=>nM ?_)
          clear hK K
          have YS:=tK (ae.new w5 #[.int .u32 0,.int .u32 0,(),(),()] 52)
          have acn:=tK ((NP.refl [] w5).alloc (.cells #[.int .u32 0,.int .u32 0,(),(),()] 52))
          have abn:Hid (wr.heap.size<=w5.heap.size):=tK K5.out.size
          refine rD 10 (fun K hK=>?_)
          refine dz rfl 52 _ _ rfl w5 0 #[(c5.nextBox,()),(c5.nextMan,()),(VQ,c5.boxes.length,c15),(VN,c5.mans.length,c25),(VR,c5.names.length,c35)] _g _g (YS.out.drew.there 0 5 _b) _c (NL (cs:=[.int .u32 c5.nextBox,.int .u32 c5.nextMan,.slice VQ c5.boxes.length c15,.slice VN c5.mans.length c25,.slice VR c5.names.length c35]) _l) ?_
          rw[km]
          have aae:=YS.out.aV (c5.nextBox,()) (c5.nextMan,()) (VQ,c5.boxes.length,c15) (VN,c5.mans.length,c25) (VR,c5.names.length,c35)
          have XB:NP [w5.heap.size] (w5.alloc (.cells #[.int .u32 0,.int .u32 0,(),(),()] 52)) ((((((w5.alloc (.cells #[.int .u32 0,.int .u32 0,(),(),()] 52)).setCell w5 (c5.nextBox,())).setCell (aa w5 1) (c5.nextMan,())).setCell (aa w5 2) (VQ,c5.boxes.length,c15)).setCell (aa w5 3) (VN,c5.mans.length,c25)).setCell (aa w5 4) (VR,c5.names.length,c35)):=NP.ay (NP.refl _ _) (Or.inl _b) _ _ _ _ _
          generalize hw8:(((((w5.alloc (.cells #[.int .u32 0,.int .u32 0,(),(),()] 52)).setCell w5 (c5.nextBox,())).setCell (aa w5 1) (c5.nextMan,())).setCell (aa w5 2) (VQ,c5.boxes.length,c15)).setCell (aa w5 3) (VN,c5.mans.length,c25)).setCell (aa w5 4) (VR,c5.names.length,c35)=w8 at*
          have O17:=tK aae
          have K5A:=tK ((K5.out.trans acn.out).call XB (fun x hx=>Or.inr (by
           obtain rfl:x=w5.heap.size:=_h
           exact abn.out)))
          have Z9:=tK ((av.aS (T:=[w5.heap.size]) (((VO.out).more (T:=fun x=>x=w5.heap.size) (fun x hx=>by rw[hx];exact MG _)).kept0 acn.out) XB (fun x hx=>Or.inr _h)).cI (T:=fun x=>x<w.heap.size\/x=n10) (fun x hx=>Or.inl hx))
          exact M52
         .go_simp
          have acZ:=tK (ae.drew (ae.new wr #[.int .u32 0,.int .u32 0,(),(),()] 52))
          have Z8:=tK (((NP.refl [] wr).alloc (.cells #[.int .u32 0,.int .u32 0,(),(),()] 52)).drew)
          refine hK.out _ _ ?_ (fun hHeld=>nM ?_)
          .first|exact Ow.out _ Z8.out|exact Ow.out _ (((NP.refl [] wr).drew).alloc _)
          clear hK K
          have aeB:Hid (av (fun x=>(x<w.heap.size\/x=n10)\/x=wr.heap.size) ((wr.alloc (.cells #[.int .u32 0,.int .u32 0,(),(),()] 52)).drew) (.agg #[(c.nextBox,()),(c.nextMan,()),(pb,nb,cb),(pm,nm,cm),(pn,nn,cn)]) c):=tK (((XF.out).more (T:=fun x=>x=wr.heap.size) (fun x hx=>by rw[hx];exact MG _)).kept0 Z8.out)
          have adO:Hid (wr.heap.size<((wr.alloc (.cells #[.int .u32 0,.int .u32 0,(),(),()] 52)).drew).heap.size):=tK acZ.out.lt
          generalize (wr.alloc (.cells #[.int .u32 0,.int .u32 0,(),(),()] 52)).drew=w4b at*
          refine rD 5 (fun K hK=>?_)
          go_simp
          ((with_reducible refine(SG.out w4b (fun x=>(x<w.heap.size\/x=n10)\/x=wr.heap.size) Z8.out aeB.out (fun x hx=>by have h1:=acp.out;have h2:=adO.out;omega)).mono ?_));rintro e w5 ⟨v5,rfl,hcat5,k5⟩
          obtain⟨vb5,vm5,vn5,rfl,XP,ZS,hn5,_,_⟩:=id hcat5
          obtain⟨VQ,c15,rfl⟩:=XP.plain.shape
          obtain⟨VN,c25,rfl⟩:=ZS.plain.shape
          obtain⟨VR,c35,rfl⟩:=hn5.plain.shape
          have VO:=tK hcat5
          have K5:=tK (Z8.out.trans k5)
          have YS:=tK (k5.own acZ.out _b)
          have abn:Hid (wr.heap.size<=wr.heap.size):=tK (MG _)
          clear hcat5 XP ZS hn5 k5
          go_wp2_with fail
          refine hK.out _ _ (Ow.out _ K5.out) (fun hHeld=>nM ?_)
          clear hK K
          refine tS ?_
          refine rD 10 (fun K hK=>?_)
          refine dz rfl 52 _ _ rfl wr 0 #[(c5.nextBox,()),(c5.nextMan,()),(VQ,c5.boxes.length,c15),(VN,c5.mans.length,c25),(VR,c5.names.length,c35)] _g _g (YS.out.drew.there 0 5 _b) _c (NL (cs:=[.int .u32 c5.nextBox,.int .u32 c5.nextMan,.slice VQ c5.boxes.length c15,.slice VN c5.mans.length c25,.slice VR c5.names.length c35]) _l) ?_
          rw[km]
          have aae:=YS.out.aV (c5.nextBox,()) (c5.nextMan,()) (VQ,c5.boxes.length,c15) (VN,c5.mans.length,c25) (VR,c5.names.length,c35)
          have XB:NP [wr.heap.size] (w5) ((((((w5).setCell wr (c5.nextBox,())).setCell (aa wr 1) (c5.nextMan,())).setCell (aa wr 2) (VQ,c5.boxes.length,c15)).setCell (aa wr 3) (VN,c5.mans.length,c25)).setCell (aa wr 4) (VR,c5.names.length,c35)):=NP.ay (NP.refl _ _) (Or.inl _b) _ _ _ _ _
          generalize hw8:(((((w5).setCell wr (c5.nextBox,())).setCell (aa wr 1) (c5.nextMan,())).setCell (aa wr 2) (VQ,c5.boxes.length,c15)).setCell (aa wr 3) (VN,c5.mans.length,c25)).setCell (aa wr 4) (VR,c5.names.length,c35)=w8 at*
          have O17:=tK aae
          have K5A:=tK (K5.out.call XB (fun x hx=>Or.inr (by
           obtain rfl:x=wr.heap.size:=_h
           exact MG _)))
          have Z9:=tK ((av.aS (T:=[wr.heap.size]) VO.out XB (fun x hx=>Or.inr _h)).cI (T:=fun x=>x<w.heap.size\/x=n10) (fun x hx=>Or.inl hx))
          exact M52
        case rest=>
        obtain⟨n17,VQ,c15,VN,c25,VR,c35,hs17,hs18,ho17,k5a,hc5a,hle⟩:=hcut
        rename World=>w8
        subst hs17 hs18
        have⟨O17,K5A,Z9⟩:=gg! ho17 k5a hc5a
        clear ho17 k5a hc5a hle
        have abD:=tK (K5A.out.own YO.out _b)
        have⟨y0,y1,y2,y3,y4⟩:=abD.out.k5
        have⟨g0,g1,g2,g3,g4⟩:=abD.out.y5
        have⟨q0,q1,q2,q3,q4⟩:=O17.out.k5
        by_cases h0:C5=0
        .have h00:(C5 != 0)=false:=aa!
         have Zo:Hid (bM c0 (ls.take (k+1))=some c5/\OL c5/\jn c5/\cQ c5<=cQ c0+(ls.take (k+1)).flatten.length):=tK (by
          have hs:=Sb.out
          rw[if_pos h0]at hs
          have⟨a1,a2,a3⟩:=P8.out (aa6.out C5 rfl h0)
          refine⟨hs,a1,a2,?_⟩
          have:=Wo.out
          rw[ZL.out,tN]
          simp at a3
          omega)
         clear h0
         go_wp2_with fail
         go_roundw
         case rel=>
          refine⟨k+1,c5,_,_,_,Of.out,_j,NP.ay (XE.out.trans (K5A.out.mono (T:=[n10]) _b)) (Or.inl _b) _ _ _ _ _,abD.out.aV _ _ _ _ _,?_,Zo.out⟩
          exact av.aS Z9.out (NP.ay (NP.refl [n10] _) (Or.inl _b) _ _ _ _ _) (fun x hx=>by
           obtain rfl:x=n10:=_h
           exact Or.inr rfl)
         case measure=>(have hh:=Of.out;simp[intOf]<;>omega)
        .have h00:(C5 != 0)=true:=by simpa using h0
         have Pk:Hid (bM c0 (ls.take (k+1))=none):=tK (by
          have hs:=Sb.out
          rw[if_neg h0]at hs
          exact hs)
         have Zl:=tK (HX6.out.1 (yr c0 ls (k+1) Pk.out))
         have KF:=tK (KR.out.trans K5A.out)
         clear h0
         go_wp2_with fail
         go_ret2
         exact nv (by rw[TE.out,Zl.out];rfl) (KF.out)
       .have i1:¬(k:Int)<ls.length:=_a
        have QY:ls.take k=ls:=Nh _a
        rw[QY]at hrp Q2
        have UF:=rQ.2 hfi
        have TW:=zV Pz UF
        have RD:cQ c<=5000:=by
         exact adw
        have P3:=l7 Pz
        have ZX:=Ya.out.1
        unfold SB.dD at ZX
        simp only at ZX
        have ZG:Hid (∀W,NP [] wr W->am! 135 #[.agg #[(c.nextBox,()),(c.nextMan,()),(pb,nb,cb),(pm,nm,cm),(pn,nn,cn)]] W (bh (OK c) W)):=tK (fun W q=>wZ _ c W (XF.out.plain.kept0 q) (by unfold cQ at RD;exact RD) (by unfold cQ at RD;omega))
        unfold bh at ZG
        have VJ:Hid (∀W u lo hi,af W u (OK c++rs) lo hi->am! 134 #[u,se,jr] W (bG (PB se jr (OK c++rs)) W)):=tK (fun W u lo hi h=>KZ u _ se jr lo hi W h (by rw[tN];unfold cQ at RD;omega) (fun a ha=>by
         rcases Na.1 ha with ha|ha
         .have:=TW a ha;unfold aQ;omega
         .exact qg Ya.out a ha) _a _a (fun a ha=>by
         rcases Na.1 ha with ha|ha
         .have:=TW a ha;omega
         .have:=Cd Ya.out a ha;omega))
        unfold bG at VJ
        have Tu:(OK c).length<=80000:=by unfold cQ at RD;omega
        have Tn:rs.length<=16:=_a
        have⟨Yc,YR⟩:=_f Tu Tn
        have HX7:=tK ((HX6.out).2 c hrp)
        have O8R:=tK (XE.out.own O87.out (by have h1:=aeN.out;have h2:=RS.out;simp only[Nm];omega))
        have Sa:Hid (∀W,NP [] wr W->af W (pv,rs.length,cv) rs w n8):=tK (fun W q=>((Vc.out.kept0 K37.out).kept XE.out (fun x hx=>by
         obtain rfl:x=n10:=_h
         have h1:=RS.out
         have h2:=Yu.out
         exact Or.inr _a)).kept0 q)
        have Ow:Hid (∀W,NP [] wr W->W.cell? n10=(c.nextBox,())/\W.cell? (aa n10 1)=(c.nextMan,())/\W.cell? (aa n10 2)=(pb,nb,cb)/\W.cell? (aa n10 3)=(pm,nm,cm)/\W.cell? (aa n10 4)=(pn,nn,cn)/\W.cell? (aa n8 1)=se/\W.cell? (aa n8 2)=jr/\W.cell? (aa n8 5)=(pv,rs.length,cv)):=tK (fun W q=>by
         have⟨a0,a1,a2,a3,a4⟩:=(q.own YO.out _b).k5
         have⟨b0,b1,b2,b3,b4,b5⟩:=(q.own O8R.out _b).c6
         exact⟨a0,a1,a2,a3,a4,b1,b2,b5⟩)
        clear QY NV hk UF TW RD P3 ZX Tu Tn hrp Pz hfi Q2
        generalize PB se jr (OK c++rs)=LQ at*
        generalize hRC:OK c=RC at*
        clear hRC
        go_upto_region 20 with fail
        refine MK (S:=(fun W=>W.cell? n10=(c.nextBox,())/\W.cell? (aa n10 1)=(c.nextMan,())/\W.cell? (aa n10 2)=(pb,nb,cb)/\W.cell? (aa n10 3)=(pm,nm,cm)/\W.cell? (aa n10 4)=(pn,nn,cn)/\W.cell? (aa n8 1)=se/\W.cell? (aa n8 2)=jr/\W.cell? (aa n8 5)=(pv,rs.length,cv))) _c (by exact Ow.out _ ((NP.refl [] wr).drew)) (fun hHeld=>?_)
        refine tS ?_
        refine rD 1 (fun K hK=>?_)
        go_simp
        ((with_reducible refine(ZG.out _ ((NP.refl [] wr).drew)).mono ?_));rintro e w5 ⟨u,rfl,Ot,k5⟩
        have kk:=((NP.refl [] wr).drew).trans k5
        have abN:=tK (aF Ot (by simp:wr.heap.size<=(wr.drew).heap.size))
        have K5:=tK kk
        obtain⟨pu,cu,rfl⟩:=ah Ot
        clear Ot kk k5
        go_wp2_with fail
        refine hK.out _ _ (Ow.out _ K5.out) (fun hHeld=>nM ?_)
        clear hK K
        have⟨v6,w6,hrun6,Qz,hgr6⟩:=eC wr _ RC.length (NW RC) abN.out (pv,rs.length,cv) rs w n8 (Sa.out _ K5.out) _N o! K5.out.size
        have K6:=tK (K5.out.grown hgr6 (fun q hq=>Or.inr (ML abN.out q hq).1))
        obtain⟨p6,c6,rfl⟩:=ah Qz
        have Yn:w6.ownsRow wr 128 2 (p6,RC.length+rs.length,c6) (RC++rs).length (NW (RC++rs)):=by rw[tN,show NW (RC++rs)=NW RC++NW rs from by simp[NW]];exact Qz
        have⟨Tx,Yw⟩:=_f Yn hrun6
        clear hrun6 Qz hgr6 Yn
        refine rD 4 (fun K hK=>?_)
        refine aO rfl _ _ 56 56 rfl _ _ _g _g Yw.out ?_
        refine hK.out _ _ (Ow.out _ K6.out) (fun hHeld=>nM ?_)
        clear hK K
        refine rD 9 (fun K hK=>?_)
        go_simp
        ((with_reducible refine(VJ.out _ _ _ _ (af.bB Tx.out)).mono ?_));rintro e w9 ⟨bq,rfl,hbq,k9⟩
        have K9:=tK (K6.out.trans k9)
        have HBQ:=tK hbq
        clear k9 hbq
        go_wp2_with fail
        refine hK.out _ _ (Ow.out _ K9.out) (fun hHeld=>nM ?_)
        clear hK K
        refine tS ?_
        refine Ng _c ?_ _
        try simp only[List.set_cons_succ,List.set_cons_zero]
        have KF:=tK (KR.out.trans K9.out)
        cases bq
        .have HQ:=tK (HX7.out.2 (fun h=>by have:=HBQ.out.2 h;cases this))
         go_wp2_with fail
         go_ret2
         exact nv (by rw[TE.out,HQ.out];rfl) (KF.out)
        .have HQ:=tK (HX7.out.1 (HBQ.out.1 rfl))
         have adZ:=tK (K9.out.own YO.out _b)
         have O8F:=tK (K9.out.own O8R.out _b)
         have⟨a0,a1,a2,a3,a4⟩:=adZ.out.k5
         have⟨b0,b1,b2,b3,b4,b5⟩:=O8F.out.c6
         go_wp2_with fail
         go_ret2
         have kV:NP [] w9 (w9.alloc (.cells (bL r ⟨sq,se,jr,us,sz,rs⟩ (pv,rs.length,cv) c (pb,nb,cb) (pm,nm,cm) (pn,nn,cn) false) 202)):=(NP.refl [] w9).alloc _
         refine JC (s:=⟨sq,se,jr,us,sz,rs⟩) (c:=c) (by rw[TE.out,HQ.out];rfl) KF.out.size (ae.new _ _ _) ?_ ?_ (KF.out.trans kV)
         .exact((Sa.out w9 K9.out).kept0 kV).weaken (MG _) (by have h1:=O8F.out.lt;omega) _b
         .refine(((XF.out.kept0 K9.out).cI (T:=fun x=>x<w.heap.size) (fun x hx=>Or.inl hx)).more (T:=fun x=>x=w9.heap.size) (fun x hx=>by omega)).kept0 kV
     .have Pk:=tK (X3.out P0)
      clear P0
      exact M85
    .have Pk:=tK (X1.out hbx)
     have Zm:=tK (K3d.out.trans k4)
     have k6:=(NP.refl [] w4).alloc (.cells #[.int .u32 0,.int .u32 0,(),(),()] 52)
     have K6:=tK k6
     have O84:=tK (k6.own (k4.own O83.out _b) _b)
     clear x0 x1 x2 x3 x4 x5
     have⟨x0,x1,x2,x3,x4,x5⟩:=O84.out.c6
     clear k6 hbx k4 BA HBS
     go_wp2_with fail
     have K36:=tK (Zm.out.trans K6.out)
     generalize w4.alloc (.cells #[.int .u32 0,.int .u32 0,(),(),()] 52)=w6 at*
     refine(Ss.out _ K36.out).mono ?_;rintro e w6' ⟨rfl,rfl⟩
     go_wp2_with fail
     refine(HRE.out _).mono ?_;rintro e w7 ⟨Rz,k7⟩
     have K37:=tK (K36.out.trans k7)
     clear k7
     rcases Rz with⟨ls,v9,P0,Tt,rfl⟩|⟨P0,rfl⟩
     .obtain⟨p9,c9,rfl⟩:=Tt.shape
      clear Tt P0
      exact M85
     .clear P0
      exact M85
   .have e1:(se != (NN:Int))=true:=by simpa using hse
    have TE:=tK (XX.out.trans (if_neg (by rw[Uf.out];exact hse)))
    clear XX
    go_wp2_with fail
    go_ret2
    exact nv (TE.out) (Ry.out.trans ((NP.refl [] w3).drew))
 .rw[RP]at y4
  go_wp2_with fail
  go_ret2
  exact Hm (NP.refl _ _)
theorem Jt {P:Nat->Prop} {R:Nat} {v:VS} (hV:oe P w R r rlo v) (hm:v.s.may) (hc:OL v.c) (hf:v.c.boxes.length+v.c.mans.length+v.c.names.length<=5000):
  am! 139 #[R] w (bh (Oh v) w):=by
 obtain⟨sv,vb,vm,vn,o,⟨PU,PC,Oe⟩,_,Oz⟩:=hV.vol
 have P3:=l7 hc
 have S2:=hm.1
 have Zi:=qg hm
 have YP:=DR Oz.plain
 obtain⟨⟨pb,nb,cb,rfl⟩,⟨pm,nm,cm,rfl⟩,⟨pn,nn,cn,rfl⟩⟩:=av.sr Oz
 have Yx:Hid (∀W,NP [] w W->am! 135 #[.agg #[(v.c.nextBox,()),(v.c.nextMan,()),(pb,nb,cb),(pm,nm,cm),(pn,nn,cn)]] W (bh (OK v.c) W)):=tK (fun W k=>wZ _ v.c W (Oz.plain.kept0 k) hf _a)
 have HO:Hid (∀W,NP [] w W->ae W R (bL r v.s sv v.c (pb,nb,cb) (pm,nm,cm) (pn,nn,cn) v.dead) 202):=tK (fun W k=>k.own o _b)
 have Sa:Hid (∀W,NP [] w W->af W sv v.s.runs PU PC):=tK (fun W k=>Oe.kept0 k)
 unfold SB.dD at S2
 have HMI:Hid (∀W va loa hia vb2 lob Rr,af W va [(2+v.s.journal,v.s.sectors-(2+v.s.journal))] loa hia->af W vb2 (OK v.c++v.s.runs) lob Rr->am! 210 #[va,vb2] W (bh (Oh v) W)):=tK (fun W va loa hia vb2 lob Rr h1 h2=>IV va _ loa hia vb2 _ lob Rr W h1 h2 _b ab! (fun a ha=>by
   obtain rfl:=Nm.1 ha
   unfold aQ;simp only;omega) (fun a ha=>by
   rcases Na.1 ha with ha|ha
   .exact YP a ha
   .exact Zi a ha))
 have Tu:(OK v.c).length<=80000:=_a
 have Tn:v.s.runs.length<=16:=_a
 have j1:1<=v.s.journal:=_a
 have j2:v.s.journal<=v.s.sectors-2:=_a
 have j3:v.s.sectors<=8192:=_a
 have⟨Yc,YR⟩:=_f Tu Tn
 obtain⟨p1,c1,rfl⟩:=Oe.shape
 obtain⟨d,s,c,dead⟩:=v
 obtain⟨sq,se,jr,us,sz,rs⟩:=s
 simp only at*
 obtain⟨fr,hfr⟩:∃fr,fr=2+jr:=⟨_,rfl⟩
 obtain⟨ln,hln⟩:∃ln,ln=se-fr:=⟨_,rfl⟩
 generalize OK c=RC at*
 generalize Oh _=RX at*
 clear hV hm hc hf Oz Oe P3 S2 Zi YP Tu Tn
 have Ow:Hid (∀W,NP [] w W->W.cell? (aa R 2)=se/\W.cell? (aa R 6)=(p1,rs.length,c1)/\W.cell? (aa R 7)=(c.nextBox,())/\W.cell? (aa R 8)=(c.nextMan,())/\W.cell? (aa R 9)=(pb,nb,cb)/\W.cell? (aa R 10)=(pm,nm,cm)/\W.cell? (aa R 11)=(pn,nn,cn)/\W.cell? (aa R 3)=jr):=tK (fun W k=>by
  have⟨_,_,a2,a3,_,_,a6,a7,a8,a9,a10,a11,_⟩:=(HO.out W k).ku
  exact⟨a2,a6,a7,a8,a9,a10,a11,a3⟩)
 clear o
 go_enter func139,ntmps139
 go_upto_region 1 with fail
 refine MK (S:=(fun W=>W.cell? (aa R 2)=se/\W.cell? (aa R 6)=(p1,rs.length,c1)/\W.cell? (aa R 7)=(c.nextBox,())/\W.cell? (aa R 8)=(c.nextMan,())/\W.cell? (aa R 9)=(pb,nb,cb)/\W.cell? (aa R 10)=(pm,nm,cm)/\W.cell? (aa R 11)=(pn,nn,cn)/\W.cell? (aa R 3)=jr)) _c (by exact Ow.out _ ((NP.refl [] w).drew)) (fun hHeld=>?_)
 refine tS ?_
 refine rD 4 (fun K hK=>?_)
 go_simp
 ((with_reducible refine(Yx.out _ ((NP.refl [] w).drew)).mono ?_));rintro e w2 ⟨u,rfl,Ot,k2⟩
 have kk:=((NP.refl [] w).drew).trans k2
 have Vu:w2.ownsRow w 128 2 u RC.length (NW RC):=aF Ot _b
 have⟨K2,Yq⟩:=_f kk Vu
 obtain⟨pu,cu,rfl⟩:=ah Ot
 clear Ot kk k2 Vu
 go_wp2_with fail
 refine hK.out _ _ (Ow.out _ K2.out) (fun hHeld=>nM ?_)
 clear hK K
 have⟨v5,w5,PZ,OG,hgr5⟩:=eC w _ RC.length (NW RC) Yq.out (p1,rs.length,c1) rs PU PC (Sa.out _ K2.out) _N o! K2.out.size
 have K5:=tK (K2.out.grown hgr5 (fun q hq=>Or.inr (ML Yq.out q hq).1))
 obtain⟨p5,c5,rfl⟩:=ah OG
 have TP:w5.ownsRow w 128 2 (p5,RC.length+rs.length,c5) (RC++rs).length (NW (RC++rs)):=by rw[tN,show NW (RC++rs)=NW RC++NW rs from by simp[NW]];exact OG
 have⟨Si,Ru⟩:=_f TP PZ
 clear PZ OG hgr5 TP
 refine rD 10 (fun K hK=>?_)
 refine aO rfl _ _ 56 56 rfl _ _ _g _g Ru.out ?_
 refine hK.out _ _ (Ow.out _ K5.out) (fun hHeld=>nM ?_)
 clear hK K
 refine tS ?_
 refine Ng _c ?_ _
 try simp only[List.set_cons_succ,List.set_cons_zero]
 have⟨a2,_,_,_,_,_,_,a3⟩:=Ow.out _ K5.out
 go_wp2_with fail
 with_reducible refine(HMI.out _ _ w5 (w5.heap.size+1) _ _ _ (uD w5 (2+jr) (se-(2+jr))) (af.bB (MH Si.out _))).mono ?_
 rintro e w6 ⟨u6,rfl,hown6,k6⟩
 have K6:=tK ((K5.out.alloc (.cells #[(2+jr:Int),(se-(2+jr):Int)] 128)).trans k6)
 have aa5:=tK (aF hown6 (K5.out.alloc (.cells #[(2+jr:Int),(se-(2+jr):Int)] 128)).size)
 obtain⟨p6,c6,rfl⟩:=ah hown6
 clear hown6 k6
 go_wp2_with fail
 go_ret
 exact⟨_,rfl,aa5.out,K6.out⟩

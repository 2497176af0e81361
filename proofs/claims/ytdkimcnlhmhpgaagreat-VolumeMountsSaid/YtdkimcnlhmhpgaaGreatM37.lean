/- -/
import Derived.Test.YtdkimcnlhmhpgaaGreatM36
set_option maxHeartbeats 32000000
set_option maxRecDepth 100000
namespace Go.Proofs.YtdkimcnlhmhpgaaGreat
open Go.Proofs.Tryz Go.RowKit
variable {d:DK} {w w0 W:World} {b sb lo k B:Nat} {l:List VC} {T:List Nat} {v:VS}
def ij (b:Nat) (d:DK) (w:World) (e:Ending) (w':World):Prop:=
 ((d.down=true/\e=.returned (.tuple #[.pointer none,(90:Int)]))\/(d.down=false/\Ql d=none/\e=.returned (.tuple #[.pointer none,(110:Int)]))\/
 (d.down=false/\∃s c,Ql d=some (s,c)/\∃B sv vb vm vn,w.heap.size<=B/\ae w' B (bL b s sv c vb vm vn false) 90/\af w' sv s.runs w B/\av (fun x=>x<w.heap.size\/x=B) w' (.agg #[.int .u32 c.nextBox,.int .u32 c.nextMan,vb,vm,vn]) c/\e=.returned (.tuple #[.pointer (some ⟨B,0,none⟩),(0:Int)])))/\NP [] w w'
theorem nB (w:World) (cs TL:Array Value) (t t':TypeId):ae ((w.alloc (.cells cs t)).alloc (.cells TL t')) (w.heap.size+1) TL t':=by
 have h:(w.alloc (.cells cs t)).heap.size=w.heap.size+1:=_b
 rw[<-h]
 exact ae.new _ _ _
theorem qJ (h:jM (Pc d 0) (Pc d 1)=none):Ql d=none:=by unfold Ql;rw[h];rfl
theorem uX {s:SB} (h:jM (Pc d 0) (Pc d 1)=some s):Ql d=if s.sectors=(d.stand.length:Int)then(Pn d s).map fun c=>(s,c)else none:=by unfold Ql;rw[h];rfl
theorem adI {A:Prop}(h:A:=by
 unfold Pc
 split
 .rename_i h0
  have⟨h1,h2,h3⟩:=dh h0
  rw[gj hD.fit _a];omega
 .simp):A:=h
theorem adE {A:Prop}(h:A:=by
 go_wp2_with fail
 go_ret2
 exact⟨Or.inr (Or.inl ⟨HDN.out,TE.out,rfl⟩),Ry.out.trans ((NP.refl [] w3).drew)⟩):A:=h
theorem BW {mb:Nat} (hD:DA w b sb mb lo d) (hn:d.stand.length<=96):
  am! 16 #[b] w (ij b d w):=by
 have⟨n1,n2⟩:=hD.len
 have OZ:Hid (∀W,NP [] w W->am! 36 #[b] W fun e w'=>e=(d.stand.length:Int)/\W=w'):=tK (fun W k=>XH b sb mb lo d W (hD.aJ k).disk)
 have aaK:Hid (∀W,NP [] w W->am! 61 #[b] W fun e w'=>e=.returned (.bool d.down)/\W=w'):=tK (fun W k=>Bt b sb mb lo d W (hD.aJ k).disk)
 have ZH:Hid (∀W,NP [] w W->am! 62 #[b,(0:Int)] W fun e w'=>e=.returned (.tuple #[.string (bs (Pc d 0)),(OM d 0:Int)])/\W=w'):=tK (fun W k=>(hD.aJ k).read 0)
 have VP:Hid (∀W,NP [] w W->am! 62 #[b,(1:Int)] W fun e w'=>e=.returned (.tuple #[.string (bs (Pc d 1)),(OM d 1:Int)])/\W=w'):=tK (fun W k=>(hD.aJ k).read 1)
 have ZF:∀i,(Pc d i).length<=1000000:=fun i=>by
  exact adI
 have Sy:Hid (∀W,am! 63 #[.string (bs (Pc d 0)),.string (bs (Pc d 1))] W (fO (0:Int) (110:Int) (Pc d 0) (Pc d 1) W)):=tK (fun W=>Lg _ _ W (ZF 0) (ZF 1))
 have YB:Hid (∀W (s:SB) (v:Value) (PU PC:Nat),NP [] w W->af W v s.runs PU PC->s.may->am! 64 #[b,.agg (s.cells v)] W (fF (Pn d s) W)):=tK (fun W s v PU PC k hr hm=>I7 (hD.aJ k) hn s v PU PC hr hm)
 have VK:=tK (qJ (d:=d))
 have Ul:=tK (fun s=>uX (d:=d) (s:=s))
 have RZ:=tK (fun s=>pA (a:=Pc d 0) (b:=Pc d 1) (s:=s))
 have XZ:=tK (fun o=>xg (a:=Pc d 0) (b:=Pc d 1) (o:=o))
 unfold fO at Sy
 unfold SB.cells at Sy
 have hnz:((d.stand.length:Int)==0)=false:=by
  have h0:(d.stand.length:Int)≠0:=_a
  simpa using h0
 unfold ij
 generalize Ql d=MX at*
 generalize Pc d 0=R0 at*
 generalize Pc d 1=R1 at*
 generalize OM d 0=A0 at*
 generalize OM d 1=A1 at*
 obtain⟨N,hN⟩:∃N:Int,(d.stand.length:Int)=N:=⟨_,rfl⟩
 rw[hN]at OZ hnz Ul
 have hN1:1<=N/\N<=8192:=_a
 obtain⟨hN2,hN3⟩:=hN1
 clear hD hn n1 n2 ZF hN
 go_enter func16,ntmps16
 go_wp2_with fail
 refine(OZ.out _ (NP.refl _ _)).mono ?_;rintro e w0 ⟨rfl,rfl⟩
 go_wp2_with fail
 refine(aaK.out _ (NP.refl _ _)).mono ?_;rintro e w0 ⟨rfl,rfl⟩
 cases RP:d.down
 .go_wp2_with fail
  refine(ZH.out _ (NP.refl _ _)).mono ?_;rintro e w0 ⟨rfl,rfl⟩
  go_wp2_with fail
  refine(VP.out _ (NP.refl _ _)).mono ?_;rintro e w0 ⟨rfl,rfl⟩
  go_wp2_with fail
  refine(Sy.out _).mono ?_;rintro e w2 ⟨⟨o,v,hpick,rfl,Oe⟩,k2⟩
  have Wn:=XZ.out o hpick
  generalize hps:mK o=ps at*
  obtain⟨sq,se,jr,us,sz,rs⟩:=ps
  simp only at*
  obtain⟨pv,cv,rfl⟩:=Oe.shape
  have⟨K2,Ra⟩:=_f k2 Oe
  have o8:=ae.new w2 #[.int .u64 sq,se,jr,us,sz,(pv,rs.length,cv)] 58
  have k8:=(NP.refl [] w2).alloc (.cells #[.int .u64 sq,se,jr,us,sz,(pv,rs.length,cv)] 58)
  have⟨O8,K8,HDN⟩:=gg! o8 k8 RP
  clear hpick Oe k2 k8 RP ZH VP Sy XZ aaK
  cases o with
  |none=>
   have TE:=tK (VK.out Wn)
   clear Wn hps
   have⟨x0,x1,x2,x3,x4,x5⟩:=o8.c6
   clear o8
   go_upto_region 8 with fail
   have Ry:=tK (K2.out.trans K8.out)
   generalize w2.alloc (.cells #[.int .u64 sq,se,jr,us,sz,(pv,rs.length,cv)] 58)=w3 at*
   have Ow:Hid (∀W,NP [] w3 W->W.cell? (aa w2 1)=se):=tK (fun W k=>(k.own O8.out _b).c6.2.1)
   generalize w2.heap.size=n8 at*
   refine MK (S:=(fun W=>W.cell? (aa n8 1)=se)) _c _J (fun hHeld=>?_)
   refine tS ?_
   refine Ng _c ?_ _
   try simp only[List.set_cons_succ,List.set_cons_zero]
   exact adE
  |some l=>
   have V2:jM R0 R1=some ⟨sq,se,jr,us,sz,rs⟩:=by rw[Wn];exact congrArg some hps
   have hM:=Ul.out _ V2
   have Qy:=(RZ.out _ V2).1
   have Oo:∀W,NP [] w2 W->am! 64 #[b,.agg #[.int .u64 sq,se,jr,us,sz,(pv,rs.length,cv)]] W (fF (Pn d ⟨sq,se,jr,us,sz,rs⟩) W):=fun W k=>YB.out W ⟨sq,se,jr,us,sz,rs⟩ _ _ _ (K2.out.trans k) (Ra.out.kept0 k) Qy
   have⟨OY,XX⟩:=_f Oo hM
   have⟨x0,x1,x2,x3,x4,x5⟩:=o8.c6
   clear o8 Wn V2 hps Oo hM Qy YB VK Ul RZ
   generalize Pn d ⟨sq,se,jr,us,sz,rs⟩=SX at*
   go_upto_region 8 with fail
   have Ry:=tK (K2.out.trans K8.out)
   have Tc:Hid (w.heap.size<=w2.heap.size/\w2.heap.size<(w2.alloc (.cells #[.int .u64 sq,se,jr,us,sz,(pv,rs.length,cv)] 58)).heap.size):=tK ⟨K2.out.size,_b⟩
   generalize w2.alloc (.cells #[.int .u64 sq,se,jr,us,sz,(pv,rs.length,cv)] 58)=w3 at*
   have Ow:Hid (∀W,NP [] w3 W->W.cell? (aa w2 1)=se):=tK (fun W k=>(k.own O8.out _b).c6.2.1)
   obtain⟨n8,hn8⟩:∃n8,w2.heap.size=n8:=⟨_,rfl⟩
   have HN8:=tK hn8
   simp only[hn8]at*
   clear hn8
   refine MK (S:=(fun W=>W.cell? (aa n8 1)=se)) _c _J (fun hHeld=>?_)
   refine tS ?_
   refine rD 6 (fun K hK=>?_)
   go_simp
   ((with_reducible refine(OZ.out _ (Ry.out.trans ((NP.refl [] w3).drew))).mono ?_));rintro e w4 ⟨rfl,Yd⟩
   have ae2:=Yd.symm
   clear Yd
   subst ae2
   go_wp2_with fail
   refine hK.out _ _ (Ow.out _ ((NP.refl [] w3).drew)) (fun hHeld=>nM ?_)
   clear hK K
   refine tS ?_
   refine Ng _c ?_ _
   try simp only[List.set_cons_succ,List.set_cons_zero]
   by_cases hse:se=N
   .subst hse
    have e1:(se != se)=false:=_b
    have TE:=tK (XX.out.trans (if_pos rfl))
    clear XX
    go_wp2_with fail
    refine(OY.out _ ((K8.out.trans ((NP.refl [] w3).drew)))).mono ?_;rintro e w5 ⟨⟨c,vc,hSX,Oz,rfl⟩|⟨hSX,C,hC,y0,y1,p2,m2,c2,p3,m3,c3,p4,m4,c4,rfl⟩,k5⟩
    .obtain⟨vb,vm,vn,rfl,hb,hm,hn,_,_⟩:=id Oz
     obtain⟨p1,c1,rfl⟩:=hb.plain.shape
     obtain⟨p2,c2,rfl⟩:=hm.plain.shape
     obtain⟨p3,c3,rfl⟩:=hn.plain.shape
     have VO:=tK Oz
     have K35:=tK (((NP.refl [] w3).drew).trans k5)
     have HSX:=tK hSX
     have oC:=ae.new w5 #[(c.nextBox,()),(c.nextMan,()),(p1,c.boxes.length,c1),(p2,c.mans.length,c2),(p3,c.names.length,c3)] 52
     have kC:=(NP.refl [] w5).alloc (.cells #[(c.nextBox,()),(c.nextMan,()),(p1,c.boxes.length,c1),(p2,c.mans.length,c2),(p3,c.names.length,c3)] 52)
     have O8C:=tK (kC.own (K35.out.own O8.out _b) _b)
     have KC:=tK kC
     have⟨z0,z1,z2,z3,z4⟩:=oC.k5
     have⟨y0,y1,y2,y3,y4,y5⟩:=O8C.out.c6
     clear hb hm hn oC kC Oz k5 hSX OY
     go_wp2_with fail
     go_ret2
     have PW:=Tc.out
     have hs5:=K35.out.size
     have kV:NP [] w5 _:=KC.out.alloc (.cells (bL b ⟨sq,se,jr,us,sz,rs⟩ (pv,rs.length,cv) c (p1,c.boxes.length,c1) (p2,c.mans.length,c2) (p3,c.names.length,c3) false) 90)
     refine⟨Or.inr (Or.inr ⟨HDN.out,⟨sq,se,jr,us,sz,rs⟩,c,TE.out.trans (by rw[HSX.out];rfl),w5.heap.size+1,(pv,rs.length,cv),(p1,c.boxes.length,c1),(p2,c.mans.length,c2),(p3,c.names.length,c3),_a,nB _ _ _ _ _,?_,?_,rfl⟩),(Ry.out.trans K35.out).trans kV⟩
     .exact(((Ra.out.kept0 K8.out).kept0 K35.out).kept0 kV).weaken (MG _) _a _b
     .refine((VO.out.cI (T:=fun x=>x<w.heap.size) (fun x hx=>?_)).more (T:=fun x=>x=w5.heap.size+1) (fun x hx=>by omega)).kept0 kV
      show x<w3.heap.size
      omega
    .have QI:=Ry.out.trans (((NP.refl [] w3).drew).trans k5)
     have⟨HK5,HSX⟩:=_f QI hSX
     have ZA:MX=none:=TE.out.trans (by rw[hSX];rfl)
     have HMN:=tK ZA
     have oC:=ae.new w5 #[(y0,()),(y1,()),(p2,m2,c2),(p3,m3,c3),(p4,m4,c4)] 52
     have KC:=tK ((NP.refl [] w5).alloc (.cells #[(y0,()),(y1,()),(p2,m2,c2),(p3,m3,c3),(p4,m4,c4)] 52))
     have⟨z0,z1,z2,z3,z4⟩:=oC.k5
     clear oC ZA hSX QI k5 OY Ry TE HSX
     have hC2:(C != 0)=true:=by simpa using hC
     go_wp2_with fail
     go_ret2
     exact⟨Or.inr (Or.inl ⟨HDN.out,HMN.out,rfl⟩),HK5.out.trans KC.out⟩
   .have e1:(se != N)=true:=by simpa using hse
    have TE:=tK (XX.out.trans (if_neg hse))
    clear XX
    exact adE
 .go_wp2_with fail
  go_ret2
  exact⟨Or.inl ⟨RP,rfl⟩,NP.refl _ _⟩
def TD (l:List VC):Nat->List (Nat×VC)
 |0=>[]
 |k+1=>TD l k++(match l[k]? with|some x=>if Oj x.kind then[(k,x)]else[]|none=>[])
theorem pM (l:List VC) (k:Nat) (h:k<l.length):TD l (k+1)=TD l k++(if Oj l[k].kind then[(k,l[k])]else[]):=by
 show TD l k++_=_
 rw[MZ h]
theorem xG {l:List VC}:∀{k:Nat},k<=l.length->∀p∈TD l k,∃h:p.1<l.length,p.1<k/\l[p.1]=p.2/\Oj p.2.kind=true
 |0,_,p,hp=>by simp[TD]at hp
 |k+1,hk,p,hp=>by
  rw[pM l k _a]at hp
  rcases Na.1 hp with hp|hp
  .have⟨h1,h2,h3⟩:=xG _a p hp
   exact⟨h1,_a,h3⟩
  .split at hp
   .rename_i hb
    obtain rfl:=Nm.1 hp
    exact⟨by show k<_;omega,by show k<_;omega,rfl,hb⟩
   .simp at hp
theorem rL (l:List VC):∀k,(TD l k).length<=k
 |0=>MG _
 |k+1=>by
  have:=rL l k
  show(TD l k++_).length<=_
  rw[tN]
  split
  .split
   .simp;omega
   .simp;omega
  .simp;omega
theorem sN:∀(l:List VC) (recs:List ag) (x:VC) (r:ag),l.length=recs.length->Qj (l++[x]) (recs++[r])=Qj l recs++(if Oj x.kind then[fun d=>OQ d r.runs x.bytes]else[])
 |[],[],x,r,_=>by
  show(if Oj x.kind then _ else _)=[]++_
  rw[NI]
  split<;>simp[Qj]
 |[],r'::recs,_,_,h=>by simp at h
 |y::l,[],_,_,h=>by simp at h
 |y::l,q::recs,x,r,h=>by
  have ih:=sN l recs x r _T
  show(if Oj y.kind then(fun d=>OQ d q.runs y.bytes)::Qj (l++[x]) (recs++[r])else Qj (l++[x]) (recs++[r]))=(if Oj y.kind then(fun d=>OQ d q.runs y.bytes)::Qj l recs else Qj l recs)++_
  rw[ih]
  split<;>simp
noncomputable def ft (recs:List ag) (p:Nat×VC) (d:DK):DK×Int:=OQ d (recs.getD p.1 default).runs p.2.bytes
theorem sO (l:List VC) (recs:List ag) (h:l.length=recs.length):∀k,k<=l.length->Qj (l.take k) (recs.take k)=(TD l k).map (ft recs)
 |0,_=>by simp[Qj,TD]
 |k+1,hk=>by
  have ih:=sO l recs h k _a
  rw[MI _a,MI _a,sN _ _ _ _ (by rw[MO,MO];omega),ih,pM l k _a,M0]
  congr 1
  split
  .show[fun d=>_]=[ft recs (k,l[k])]
   congr 1
   funext d
   unfold ft
   simp only
   rw[Nx,MZ _a,Option.getD_some]
  .rfl
theorem EK (l:List VC) (recs:List ag) (h:l.length=recs.length):Qj l recs=(TD l l.length).map (ft recs):=by
 have:=sO l recs h l.length (MG _)
 rw[MU,h,MU]at this
 rw[this,h]
theorem ze (gs:List (DK->DK×Int)) (hs:List (VS->VS×Int)) (v:VS):∀k,k<=gs.length->kr (gs.map aZ++hs) v k=⟨kt gs v.d k,v.s,v.c,v.dead⟩
 |0,_=>rfl
 |k+1,hk=>by
  have ih:=ze gs hs v k _a
  have h1:k<(gs.map aZ++hs).length:=by rw[tN,MP];omega
  rw[q8 _ _ _ h1,ih,ng gs v.d k _a]
  have e:(gs.map aZ++hs)[k]=aZ gs[k]:=by rw[NM (by rw[MP];omega),Ny]
  rw[e]
  rfl
abbrev SQ:=(Nat×VC)×(Nat×Nat)
def B8 (gv gr:Nat) (q:SQ):Array Value:=#[gv,gr,q.2.1,q.2.2]
structure eE (w0 W:World) (l:List VC) (k:Nat) (qs:List SQ):Prop where
 idx:qs.map (·.1)=TD l k
 own:∀q∈qs,w0.heap.size<=q.2.1/\w0.heap.size<=q.2.2/\ae W q.2.1 #[.int .i64 q.1.1] 3/\ae W q.2.2 q.1.2.cells 34
variable {qs:List SQ}
theorem eE.kept {W':World} (h:eE w0 W l k qs) (kk:NP [] W W'):eE w0 W' l k qs:=⟨h.idx,fun q hq=>by
 have⟨h1,h2,h3,h4⟩:=h.own q hq
 exact⟨h1,h2,kk.own h3 _b,kk.own h4 _b⟩⟩
structure dW (T:List Nat) (w0 W:World) (B b sb mb lo gv gr:Nat) (v:VS) (l:List VC) (recs:List ag) (qs:List SQ):Prop where
 vol:aL T w0 B b sb mb lo v
 kept:NP [] w0 W
 gv:w0.heap.size<=gv/\ae W gv #[B] 27
 gr:∃rv,w0.heap.size<=gr/\ae W gr #[rv] 92/\aI w0 W rv recs
 steps:eE w0 W l l.length qs
 len:recs.length=l.length
 pl:∀r∈recs,Pl 0 r.runs
 few:l.length<=1000
 small:∀x∈l,x.bytes.length<=1048576
section
variable {T:List Nat} {w0 W:World} {B b sb mb lo gv gr:Nat} {v:VS} {l:List VC} {recs:List ag} {qs:List SQ}
theorem dW.off (h:dW T w0 W B b sb mb lo gv gr v l recs qs) {g:Nat} (hg:w0.heap.size<=g):bf [B] W b sb mb g:=(h.vol.da.bU h.vol.hT h.kept hg).Jf h.vol.hB
theorem dW.put (h:dW T w0 W B b sb mb lo gv gr v l recs qs) (q:SQ) (hq:q∈qs) {W':World} {u:VS} (hV:aL T W' B b sb mb lo u) (k:PK [B] b sb mb W W') (ho:u.d.ops<=90000) (hw:u.d.waits.length<=1800):
  am! 48 (#[]++B8 gv gr q) W' fun e w'=>e=.returned (.int .i64 (aZ (ft recs q.1) u).2)/\aL T w' B b sb mb lo (aZ (ft recs q.1) u).1/\PK [B] b sb mb W' w':=by
 have⟨PC,QZ,oi,ox⟩:=h.steps.own q hq
 obtain⟨Ty,QL,hm3,hm4⟩:=xG (MG _) q.1 (by rw[<-h.steps.idx];exact ND.2 ⟨q,hq,rfl⟩)
 have⟨rv,TI,og,Q8⟩:=h.gr
 have⟨Ve,ov⟩:=h.gv
 have P7:=Q8.oI
 obtain⟨p,c,rfl⟩:=Q8.shape
 have hil:q.1.1<recs.length:=by rw[h.len];exact Ty
 obtain⟨rb,ro,cs,rfl,e2,⟨kv,rfl,e4,e5⟩,e6,e7,e8,e9⟩:=bS.at_ P7 q.1.1 hil
 have ZV:=e6 4 _ rfl
 have hRO:ep T W b sb mb kv recs[q.1.1].runs:=e4.new h.vol.da h.vol.hT h.kept (MG _)
 obtain⟨⟨PU,hi3,hR⟩,_⟩:=hRO.pk (k.LY h.vol.hB)
 have Rq:=h.pl _ (MJ hil)
 have hpe:ft recs q.1=fun d=>OQ d recs[q.1.1].runs q.1.2.bytes:=by
  funext d
  unfold ft
  rw[Nx,MZ hil,Option.getD_some]
 rw[hpe,Array.empty_append]
 have S2:q.1.2.bytes.length<=1048576:=by rw[<-hm3];exact h.small _ (MJ Ty)
 refine(Eb (T:=T) gv gr q.2.1 q.2.2 rb ro recs.length c q.1.1 kv recs[q.1.1].runs q.1.2.bytes hV (fun W'' k2=>?_) hil (by rw[h.len];have:=h.few;omega) hR (by have:=Rq.gX;omega) (gT Rq) S2 ho hw).mono fun e w' ⟨a1,a2,a3⟩=>⟨a1,a2,a3.mono _b⟩
 have kk:=k.trans (k2.mono (T:=[B]) _b)
 refine⟨(kk.own ov (h.off Ve)).cell 0 _b,(kk.own og (h.off TI)).cell 0 _b,(kk.own oi (h.off PC)).cell 0 _b,?_,?_⟩
 .rw[World.cell?_of_block (w:=W) (a:=⟨rb,_,none⟩) (kk.same (h.off e7) _a)]
  exact ZV
 .have:=(kk.own ox (h.off QZ)).cell 3 (by simp[VC.cells])
  simpa[VC.cells]using this
theorem dW.Dq (h:dW T w0 W B b sb mb lo gv gr v l recs qs):Qj l recs=qs.map (fun q=>ft recs q.1):=by
 rw[EK l recs h.len.symm,<-h.steps.idx,List.map_map]
 rfl
theorem dW.AG (h:dW T w0 W B b sb mb lo gv gr v l recs qs):qs.length<=l.length:=by
 have:=congrArg List.length h.steps.idx
 rw[MP]at this
 rw[this]
 exact rL _ _
theorem dW.ME (h:dW T w0 W B b sb mb lo gv gr v l recs qs) (gs:List (DK->DK×Int)) (hs:List (VS->VS×Int)) (hgs:∀f∈gs,∀e,e.stand.length=v.d.stand.length->Fw v.d.stand.length e (f e).1) (k:Nat) (hk:k<=qs.length+gs.length):
  ∃D,kr ((qs.map (fun q=>ft recs q.1)++gs).map aZ++hs) v k=⟨D,v.s,v.c,v.dead⟩/\Fw (k*v.d.stand.length) v.d D:=by
 refine⟨_,ze _ hs v k (by rw[tN,MP];exact hk),?_⟩
 refine Dx v.d.stand.length _ v.d (fun f hf e he=>?_) k (by rw[tN,MP];exact hk)
 rcases Na.1 hf with hf|hf
 .rw[<-h.Dq]at hf
  exact uj l recs _ f hf e he
 .exact hgs f hf e he
end
def zN (u:Nat×Array Value×Array Value):Value:=.func (.func u.1) u.2.1 u.2.2
def oT (gv gr:Nat) (q:SQ):Nat×Array Value×Array Value:=(48,#[],B8 gv gr q)
theorem Kx {T:List Nat} {w0 W:World} {B b sb mb lo gv gr:Nat} {v:VS} {l:List VC} {recs:List ag} {qs:List SQ} (h:dW T w0 W B b sb mb lo gv gr v l recs qs)
  (gs:List (DK->DK×Int)) (G:VS->VS×Int) (ex:List (Nat×Array Value×Array Value)) (hex:ex.length=gs.length+1) (UN:gs.length<=5)
  (hen:∀u∈ex,Enters prog u.1) (rv:Value) (NU:W.ownsRow w0 42 1 rv (qs.length+ex.length) ((qs.map (oT gv gr)++ex).map zN))
  (hgs:∀f∈gs,∀e,e.stand.length=v.d.stand.length->Fw v.d.stand.length e (f e).1)
  (ho:v.d.ops<=35000) (hw:v.d.waits.length<=700) (hn:v.d.stand.length<=100) (WG:l.length<=8)
  (Ox:∀(j:Nat) (hj:j<ex.length) (W':World) (D:DK),aL T W' B b sb mb lo ⟨D,v.s,v.c,v.dead⟩->PK [B] b sb mb W W'->Fw (8*v.d.stand.length+j*v.d.stand.length) v.d D->
   am! ex[j].1 (ex[j].2.1++ex[j].2.2) W' fun e w'=>e=.returned (.int .i64 (((gs.map aZ++[G])[j]'(by rw[tN,MP,Nq];omega)) ⟨D,v.s,v.c,v.dead⟩).2)/\aL T w' B b sb mb lo (((gs.map aZ++[G])[j]'(by rw[tN,MP,Nq];omega)) ⟨D,v.s,v.c,v.dead⟩).1/\PK [B] b sb mb W' w'):
  am! 37 #[rv] W fun e w'=>e=.returned (.int .i64 (OH (gP l recs++(gs.map aZ++[G])) v).2)/\aL T w' B b sb mb lo (OH (gP l recs++(gs.map aZ++[G])) v).1/\PK [B] b sb mb W w':=by
 have hfs:gP l recs++(gs.map aZ++[G])=(qs.map (fun q=>ft recs q.1)++gs).map aZ++[G]:=by
  unfold gP
  rw[h.Dq,M0,MW]
 obtain⟨g,cap,rfl,g1,g2,g3,g4,g5⟩:=cU NU _a
 have hul:(qs.map (oT gv gr)++ex).length=qs.length+ex.length:=by rw[tN,MP]
 have Ug:((qs.map (fun q=>ft recs q.1)++gs).map aZ++[G]).length=qs.length+ex.length:=by
  rw[tN,MP,tN,MP,Nq];omega
 have hql:=h.AG
 rw[hfs,<-hul]
 refine Kw (T:=T) (S:=[B]) ((qs.map (fun q=>ft recs q.1)++gs).map aZ++[G]) (qs.map (oT gv gr)++ex) (by rw[hul,Ug]) g 0 cap (h.vol.aJ h.kept) (by rw[hul];omega) (fun i hi=>?_) (fun W' k i hi=>?_) (fun k hk W' hV Yj _=>?_)
 .by_cases QZ:i<qs.length
  .rw[NM (by rw[MP];exact QZ),Ny]
   exact enters_of func48 _c rfl
  .rw[List.getElem_append_right (by rw[MP];omega)]
   exact hen _ (MJ _)
 .rw[World.cell?_of_block (w:=W) (a:=⟨g,_,none⟩) (k.same (h.off g1) g2)]
  have:=g5 i (zN ((qs.map (oT gv gr)++ex)[i])) (by rw[List.getElem?_map,MZ hi];rfl)
  rw[Nat.zero_add]
  exact this
 .have hkl:k<qs.length+ex.length:=by rw[hul]at hk;exact hk
  have⟨D,hD,hF⟩:=h.ME gs [G] hgs k _a
  rw[hD]at hV ⊢
  have hF1:=hF.ops
  have hF2:=hF.waits
  by_cases QZ:k<qs.length
  .have hm:k*v.d.stand.length<=8*100:=Nat.mul_le_mul _a hn
   have e1:((qs.map (fun q=>ft recs q.1)++gs).map aZ++[G])[k]'(by rw[Ug];exact hkl)=aZ (ft recs qs[k].1):=by
    rw[NM (by rw[MP,tN,MP];omega),Ny,NM (by rw[MP];exact QZ),Ny]
   have e2:(qs.map (oT gv gr)++ex)[k]=oT gv gr qs[k]:=by rw[NM (by rw[MP];exact QZ),Ny]
   rw[e1,e2]
   exact h.put qs[k] (MJ QZ) hV Yj (by show D.ops<=_;omega) E!
  .obtain⟨j,rfl⟩:∃j,k=qs.length+j:=⟨k-qs.length,_a⟩
   have hj:j<ex.length:=_a
   have e1:((qs.map (fun q=>ft recs q.1)++gs).map aZ++[G])[qs.length+j]'(by rw[Ug];exact hkl)=(gs.map aZ++[G])[j]'(by rw[tN,MP,Nq];omega):=by
    have e:(qs.map (fun q=>ft recs q.1)++gs).map aZ++[G]=(qs.map (fun q=>ft recs q.1)).map aZ++(gs.map aZ++[G]):=by rw[M0,MW]
    rw[List.getElem_of_eq e,List.getElem_append_right (by rw[MP,MP];omega)]
    congr 1
    rw[MP,MP];omega
   have e2:(qs.map (oT gv gr)++ex)[qs.length+j]'hk=ex[j]:=by
    rw[List.getElem_append_right (by rw[MP];omega)]
    congr 1
    rw[MP];omega
   rw[e1,e2]
   refine Ox j hj W' D hV Yj (hF.mono ?_)
   rw[Nat.add_mul]
   exact Nat.add_le_add_right (Nat.mul_le_mul_right _ _a) _
theorem tV {left:List (Int×Int)} (h:Pl 0 left) (l:List VC):∀j,j<=l.length->Pl 0 (Ob left l j).2
 |0,_=>h
 |j+1,hj=>by
  rw[fI left l j _a]
  unfold jL
  split
  .exact lC _ _
  .exact tV h l j _a
def rZ (left:List (Int×Int)) (l:List VC) (w:World) (e:Ending) (w':World):Prop:=
 ((gW left l/\∃rv lv,e=.returned (.tuple #[rv,lv,(0:Int)])/\aI w w' rv (Ob left l l.length).1/\w'.ownsRow w 128 2 lv (Ob left l l.length).2.length (NW (Ob left l l.length).2))\/(¬gW left l/\∃C,C≠0/\(Lit.int .i64 C).wf=true/\e=.returned (.tuple #[(),(),.int .i64 C])))/\NP [] w w'
theorem Kt {mb:Nat} (vl:Value) (l:List VC) (PU PC:Nat) (hV:aL T w B b sb mb lo v) (hm:v.s.may) (hc:OL v.c) (hf:v.c.boxes.length+v.c.mans.length+v.c.names.length<=1000) (hl:gC w vl l PU PC) (WG:l.length<=8192):
  am! 44 #[B,vl] w (rZ (Oh v) l w):=by
 have X8:=tK (Gw hV hm hc _a)
 have Rq:Pl 0 (Oh v):=lC _ _
 have Rf:Hid (∀j,j<=l.length->Pl 0 (Ob (Oh v) l j).2):=tK (tV Rq l)
 have HL:=tK hl
 obtain⟨p1,c1,rfl⟩:=bS.shape hl
 have n2:(l.length:Int)<=8192:=_a
 have HL8:=tK WG
 clear hV hm hc hf hl Rq WG
 unfold rZ
 generalize Oh v=RM at*
 go_enter func44,ntmps44
 go_wp2_with fail
 refine X8.out.mono ?_;rintro e w1 ⟨u1,rfl,hrm,k1⟩
 have⟨aeK,K1⟩:=_f hrm k1
 obtain⟨pr,cr,rfl⟩:=ah hrm
 clear hrm k1 X8
 go_wp2_with fail
 go_loopw [7,8,10,11,12,13,18] (fun lv rv x r ru e i wr=>∃k:Nat,k<=l.length/\i=(k:Int)/\(∀j (h:j<l.length),j<k->Oj l[j].kind=true->OT (Ob RM l j).2 (On l[j].bytes.length)=0)/\wr.ownsRow w 128 2 lv (Ob RM l k).2.length (NW (Ob RM l k).2)/\aI w wr rv (Ob RM l k).1/\NP [] w wr) (fun _ _ _ _ _ _ i _=>l.length-(intOf i).toNat)
 case atStart=>exact⟨0,Nb _,rfl,(fun j _ hj=>by omega),aeK.out,aI.nil _ _,K1.out⟩
 case round=>
  obtain⟨k,hk,rfl,hgood,Qp,PH,hK⟩:=hrel
  by_cases NV:k<l.length
  .have i1:(k:Int)<l.length:=_a
   obtain⟨bl,ol,rfl,r0,r1,r2,r3,Uq,Oq⟩:=gC.at_ (HL.out.kept0 hK) k NV
   have Qu:=fI RM l k NV
   have hlen:=gp RM l k hk
   have abQ:=Rf.out k hk
   have Zk:=tK hgood
   have RY:Hid (Oj l[k].kind=true->OT (Ob RM l k).2 (On l[k].bytes.length)≠0->¬gW RM l):=tK (fun h1 h2 h3=>h2 (h3 k NV h1))
   have RA:Hid ((Oj l[k].kind=true->OT (Ob RM l k).2 (On l[k].bytes.length)=0)->∀j (h:j<l.length),j<k+1->Oj l[j].kind=true->OT (Ob RM l j).2 (On l[j].bytes.length)=0):=tK (fun h1 j hj hjk hb=>by
    by_cases e:j=k
    .subst e;exact h1 hb
    .exact hgood j hj _a hb)
   have⟨Of,HK⟩:=_f NV hK
   obtain⟨p6,c6,rfl⟩:=PH.shape
   rw[hlen]
   have⟨HR,HLF,OZ,aaa⟩:=gh! PH Qp hlen abQ
   obtain⟨pL,cL,rfl⟩:=ah Qp
   have UA:=tK Qu
   clear hgood Qp PH hK hk Qu hlen abQ
   obtain⟨PK1,hPK1⟩:∃P,Ob RM l (k+1)=P:=⟨_,rfl⟩
   rw[hPK1]at UA
   have HPK:=tK hPK1
   clear hPK1
   generalize Ob RM l k=PK at*
   generalize hX:l[k]=X at*
   clear hX NV
   obtain⟨xk,xi,xn,xb⟩:=X
   obtain⟨RL,LL⟩:=PK
   simp only at*
   have HF0:Hid (ag.fits ⟨xk,xi,xn,0,[]⟩):=tK (wP Oq)
   have HF1:Hid (∀R,ag.fits ⟨xk,xi,xn,(xb.length:Int),R⟩):=tK (fun R=>⟨Oq.1,Oq.2.1,Oq.2.2.1,by have h1:xb.length<=1048576:=Oq.2.2.2;exact mn (n:=(xb.length:Int)) _a _a⟩)
   have hxb:(xb.length:Int)<=1048576:=by have h1:xb.length<=1048576:=Oq.2.2.2;omega
   have HCO:Hid (∀W,am! 47 #[xk] W fun e w'=>e=.returned (.bool (Oj xk))/\W=w'):=tK (fun W=>wg xk W)
   have QC:Hid (∀W,am! 95 #[.agg #[xk,(xi,()),xn,xb]] W fun e w'=>e=.returned (.agg #[xk,(xi,()),xn,(0:Int),()])/\NP [] W w'):=tK (fun W=>yZ ⟨xk,xi,xn,xb⟩ W)
   have acs:Hid (∀W,am! 54 #[(xb.length:Int)] W fun e w'=>e=(On xb.length:Int)/\W=w'):=tK (fun W=>sP _ W (mn _a _a))
   have afc:=Ia (xb.length:Int)
   have Xx:On (xb.length:Int)<=8192:=by unfold On;split<;>omega
   have aea:Hid (∀W u lo2 QZ,af W u LL lo2 QZ->am! 53 #[u,(On xb.length:Int)] W (qz LL (On xb.length) W)):=tK (fun W u lo2 QZ h=>GZ u LL _ lo2 QZ W h (by have:=aaa.out.gX;omega) (gT aaa.out) _a _a)
   have ad3:Hid (∀W u lo2 QZ u3 lo3 hi3,af W u LL lo2 QZ->af W u3 (Om LL (On xb.length)) lo3 hi3->am! 96 #[u,u3] W (bh (Pr LL (Om LL (On xb.length))) W)):=tK (fun W u lo2 QZ u3 lo3 hi3 h1 h2=>BT u LL lo2 QZ u3 _ lo3 hi3 W h1 h2 (by have:=aaa.out.gX;omega) (by have:=(pI LL (On xb.length)).gX;omega) (gT aaa.out) (gT (pI _ _)))
   have hLC:OT LL (On (xb.length:Int))=0\/OT LL (On (xb.length:Int))=100:=by unfold OT;rw[if_neg _a];split;exact Or.inr rfl;exact Or.inl rfl
   have Ud:OT LL (On (xb.length:Int))=0->QF LL (On (xb.length:Int))=Om LL (On xb.length):=fun h=>by unfold QF;rw[if_pos h]
   have UZ:=tK Ud
   have hp1:PK1=if Oj xk=true then(RL++[⟨xk,xi,xn,xb.length,Om LL (On xb.length)⟩],Pr LL (Om LL (On xb.length)))else(RL++[⟨xk,xi,xn,0,[]⟩],LL):=UA.out
   have HP1:=tK hp1
   have oX:=ae.new wr #[xk,(xi,()),xn,xb] 34
   have⟨z0,z1,z2,z3⟩:=oX.c4
   have HOX:=tK oX
   have HKX:=tK (HK.out.alloc (.cells #[xk,(xi,()),xn,xb] 34))
   have kx:NP [] wr (wr.alloc (.cells #[xk,(xi,()),xn,xb] 34)):=(NP.refl [] wr).alloc _
   have HRX:=tK (HR.out.kept0 kx)
   have HLX:=tK (MH HLF.out (.cells #[xk,(xi,()),xn,xb] 34))
   clear oX kx hp1 Ud Oq UA
   go_wp2_with fail
   refine(QC.out _).mono ?_;rintro e w3 ⟨rfl,k3⟩
   have Xi:=tK (HKX.out.trans k3)
   have ab1:=k3.own HOX.out _b
   have Z0:=tK ((HRX.out.kept0 k3).kept0 ((NP.refl [] w3).alloc (.cells #[xk,(xi,()),xn,(0:Int),()] 102)))
   have HL4:=tK (MH (ax HLX.out k3 (fun x hx=>by cases hx)) (.cells #[xk,(xi,()),xn,(0:Int),()] 102))
   have ZJ:=tK (HRX.out.kept0 k3)
   have HL3:=tK (ax HLX.out k3 (fun x hx=>by cases hx))
   have abu:Hid (NP [] w3 (w3.alloc (.cells #[xk,(xi,()),xn,(0:Int),()] 102))):=tK ((NP.refl [] w3).alloc _)
   have Ro:=tK (Xi.out.alloc (.cells #[xk,(xi,()),xn,(0:Int),()] 102))
   have oR:=ae.new w3 #[xk,(xi,()),xn,(0:Int),()] 102
   have aaM:(w3.alloc (.cells #[xk,(xi,()),xn,(0:Int),()] 102)).heap.size=w3.heap.size+1:=_b
   have⟨Tc,HOR⟩:=_f aaM oR
   have HGR:Hid (w.heap.size<=w3.heap.size):=tK Xi.out.size
   have ac4:=tK (ab1.alloc (.cells #[xk,(xi,()),xn,(0:Int),()] 102))
   clear z0 z1 z2 z3 k3 ab1 aaM HRX HLX QC
   have⟨z0,z1,z2,z3⟩:=ac4.out.c4
   have⟨y0,y1,y2,y3,y4⟩:=oR.k5
   have s3:=oR.free 3
   have s4:=oR.free 4
   clear oR
   go_upto_region 7 with fail
   generalize hrb:w3.heap.size=rb at*
   generalize w3.alloc (.cells #[xk,(xi,()),xn,(0:Int),()] 102)=w4 at*
   have HRB:=tK hrb
   clear hrb
   go_wp2_with fail
   refine(HCO.out _).mono ?_;rintro e w2 ⟨rfl,rfl⟩
   generalize Oj xk=KB at*
   cases KB
   .have hp:PK1=(RL++[⟨xk,xi,xn,0,[]⟩],LL):=by have h:=HP1.out;rw[if_neg _b]at h;exact h
    have HP:=tK hp
    have abC:=tK (RA.out (fun h=>by cases h))
    have⟨vs,hvs,NU,heach⟩:=Z0.out
    rw[OZ.out]at NU
    have⟨HVS,Pm,VD⟩:=gg! hvs NU heach
    clear hp hvs NU heach RY RA HP1
    obtain⟨i0,q0,q1,q2,q3⟩:=jB
    have m3:k+1<=maxLen:=by have:=Of.out;have:=HL8.out;unfold maxLen;omega
    have m4:(k+1)*64<=140737488355328:=by have:=Of.out;have:=HL8.out;omega
    have Yv:w.heap.size<=w4.heap.size:=Ro.out.size
    go_wp2_with (at_builtin;go_must (refine MT _ rfl (.tmp 48) (.tmp 50) 92 rfl w 102 i0 (.agg #[(0:Int),.int .u32 0,.string {data:=#[]},(0:Int),()]) 5 64 underlying92 q0 q1 q2 q3 rfl _d _ _ _ rfl (MH Pm.out _) w4 1 1 [.int .i64 xk,.int .u32 xi,.string (bs xn),.int .i64 0,.slice none 0 0] rfl rfl ?_ ?_ m3 m4 ?_ ?_))
    .exact kL _ _ _
    .intro u hu;simp at hu;rcases hu with rfl|rfl|rfl|rfl|rfl<;>rfl
    .simp<;>omega
    intro v6 w6 o6 Po _ _
    have TA:aI w w6 v6 PK1.1:=by
     rw[HP.out]
     exact aI.more HVS.out VD.out (by rw[OZ.out];exact Pm.out) (Nf _ _ _ _) HF0.out Po (by rw[OZ.out];exact o6)
    have Q7:NP [] w w6:=(Ro.out.alloc _).grown Po (fun q hq=>Or.inr (ML Pm.out q hq).1)
    have hl6:w6.ownsRow w 128 2 (pL,LL.length,cL) PK1.2.length (NW PK1.2):=by
     rw[HP.out]
     exact dG (MH HL4.out _) (fun g cs hb hc=>Po.block g (NK hc) (fun e=>aB (MH Pm.out _) (show ae _ g cs 128 from hc) _d e.symm))
    have⟨HNW,Tl,HL6⟩:=gg! TA Q7 hl6
    clear TA Q7 hl6 o6 Po
    go_wp2_with fail
    go_roundw
    case rel=>exact⟨k+1,Of.out,_j,abC.out,by rw[HPK.out];exact HL6.out,by rw[HPK.out];exact HNW.out,Tl.out⟩
    case measure=>(have hh:=Of.out;simp[intOf]<;>omega)
   .have hp:PK1=(RL++[⟨xk,xi,xn,xb.length,Om LL (On xb.length)⟩],Pr LL (Om LL (On xb.length))):=by have h:=HP1.out;rw[if_pos rfl]at h;exact h
    have HP:=tK hp
    have T9:Hid (OT LL (On (xb.length:Int))≠0->¬gW RM l):=tK (RY.out rfl)
    clear hp HP1 RY
    go_wp2_with fail
    refine(acs.out _).mono ?_;rintro e w2 ⟨rfl,rfl⟩
    go_wp2_with fail
    refine(aea.out _ _ _ _ (af.bB HL4.out)).mono ?_;rintro e w5 ⟨u5,rfl,OG,k5⟩
    have HK5:=tK (Ro.out.trans k5)
    have HR5:=tK (Z0.out.kept0 k5)
    have HL5:=tK (ax HL4.out k5 (fun x hx=>by cases hx))
    have ae4:=tK (k5.own ac4.out _b)
    have aaj:=tK (k5.own HOR.out _b)
    have Yc:=tK hLC
    have aeC:=tK (abu.out.trans k5)
    rcases hLC with hlc|hlc
    .have ZF:=UZ.out hlc
     have abC:=tK (RA.out (fun _=>hlc))
     rw[ZF]at OG
     rw[hlc]
     have WT:=tK OG
     obtain⟨p5,c5,rfl⟩:=ah OG
     have⟨a0,a1,a2,a3⟩:=ae4.out.c4
     have⟨b0,b1,b2,b3,b4⟩:=aaj.out.k5
     have f3:=aaj.out.free 3
     have f4:=aaj.out.free 4
     clear OG ZF hlc T9 RA k5 y0 y1 y2 y3 y4 z0 z1 z2 z3 s3 s4 Yc
     go_upto_region 12 with fail
     rw[NQ]
     have o6:ae ((w5.setCell (aa rb 3) (xb.length:Int)).setCell (aa rb 4) (p5,(Om LL (On (xb.length:Int))).length,c5)) rb #[xk,(xi,()),xn,(xb.length:Int),(p5,(Om LL (On (xb.length:Int))).length,c5)] 102:=(aaj.out.set 3 _).set 4 _
     have k56:NP [rb] w5 ((w5.setCell (aa rb 3) (xb.length:Int)).setCell (aa rb 4) (p5,(Om LL (On (xb.length:Int))).length,c5)):=((NP.refl [rb] w5).setCell (p:=(aa rb 3)) (Or.inl MY) _).setCell (p:=(aa rb 4)) (Or.inl MY) _
     have k36:NP [] w3 ((w5.setCell (aa rb 3) (xb.length:Int)).setCell (aa rb 4) (p5,(Om LL (On (xb.length:Int))).length,c5)):=(aeC.out.setCell (p:=(aa rb 3)) (Or.inr (by have:=HRB.out;show _<=rb;omega)) _).setCell (p:=(aa rb 4)) (Or.inr (by have:=HRB.out;show _<=rb;omega)) _
     generalize ((w5.setCell (aa rb 3) (xb.length:Int)).setCell (aa rb 4) (p5,(Om LL (On (xb.length:Int))).length,c5))=w6 at*
     have hr6:=ZJ.out.kept0 k36
     have hl6:=ax HL3.out k36 (fun x hx=>by cases hx)
     have Qz:=ax WT.out k56 (fun x hx=>by
      obtain rfl:x=rb:=_h
      have:=Tc.out;have:=HRB.out;omega)
     have Q7:=Xi.out.trans k36
     have⟨Vn,Zz,HL6,aaG,Tl⟩:=gi! o6 hr6 hl6 Qz Q7
     clear o6 k56 k36 hr6 hl6 Qz Q7 a0 a1 a2 a3 b0 b1 b2 b3 b4 f3 f4
     go_wp2_with fail
     with_reducible refine(ad3.out _ _ _ _ _ _ _ (af.bB HL6.out) (af.bB aaG.out)).mono ?_
     rintro e w7 ⟨u7,rfl,VB,k7⟩
     have Un:=tK (Tl.out.trans k7)
     have ho7:=k7.own Vn.out _b
     have hr7:=Zz.out.kept0 k7
     have Uw:=ax aaG.out k7 (fun x hx=>by cases hx)
     have acu:Hid (aE w w7 (p5,(Om LL (On (xb.length:Int))).length,c5) (Om LL (On (xb.length:Int)))):=tK (aF Uw (by have:=HGR.out;have:=Tc.out;have:=HRB.out;omega))
     have adb:=tK (aF VB Tl.out.size)
     obtain⟨p7,c7,rfl⟩:=ah VB
     have⟨b0,b1,b2,b3,b4⟩:=ho7.k5
     obtain⟨vs,hvs,NU,heach⟩:=hr7
     rw[OZ.out]at NU
     have⟨HVS,Pm,VD⟩:=gg! hvs NU heach
     clear k7 ho7 Uw VB hvs NU heach
     obtain⟨i0,q0,q1,q2,q3⟩:=jB
     have m3:k+1<=maxLen:=by have:=Of.out;have:=HL8.out;unfold maxLen;omega
     have m4:(k+1)*64<=140737488355328:=by have:=Of.out;have:=HL8.out;omega
     have Yv:w.heap.size<=w7.heap.size:=Un.out.size
     go_wp2_with (at_builtin;go_must (refine MT _ rfl (.tmp 48) (.tmp 50) 92 rfl w 102 i0 (.agg #[(0:Int),.int .u32 0,.string {data:=#[]},(0:Int),()]) 5 64 underlying92 q0 q1 q2 q3 rfl _d _ _ _ rfl (MH Pm.out _) w7 1 1 [.int .i64 xk,.int .u32 xi,.string (bs xn),.int .i64 (xb.length:Int),.slice p5 (Om LL (On (xb.length:Int))).length c5] rfl rfl ?_ ?_ m3 m4 ?_ ?_))
     .exact kL _ _ _
     .intro u hu;simp at hu;rcases hu with rfl|rfl|rfl|rfl|rfl<;>rfl
     .simp<;>omega
     intro v6 w6 o6 Po _ _
     have TA:aI w w6 v6 PK1.1:=by
      rw[HP.out]
      exact aI.more HVS.out VD.out (by rw[OZ.out];exact Pm.out) acu.out (HF1.out _) Po (by rw[OZ.out];exact o6)
     have Q7:NP [] w w6:=(Un.out.alloc _).grown Po (fun q hq=>Or.inr (ML Pm.out q hq).1)
     have hl6:w6.ownsRow w 128 2 (p7,(Pr LL (Om LL (On (xb.length:Int)))).length,c7) PK1.2.length (NW PK1.2):=by
      rw[HP.out]
      exact dG (MH adb.out _) (fun g cs hb hc=>Po.block g (NK hc) (fun e=>aB (MH Pm.out _) (show ae _ g cs 128 from hc) _d e.symm))
     have⟨HNW,aes,aeZ⟩:=gg! TA Q7 hl6
     clear TA Q7 hl6 o6 Po
     go_wp2_with fail
     go_roundw
     case rel=>exact⟨k+1,Of.out,_j,abC.out,by rw[HPK.out];exact aeZ.out,by rw[HPK.out];exact HNW.out,aes.out⟩
     case measure=>(have hh:=Of.out;simp[intOf]<;>omega)
    .have HB:=tK (T9.out (by rw[hlc];decide))
     rw[hlc]
     obtain⟨p5,c5,rfl⟩:=ah OG
     clear OG hlc T9 RA k5 Yc
     go_wp2_with fail
     go_ret3
     exact⟨Or.inr ⟨HB.out,100,_d,_d,rfl⟩,HK5.out⟩
  .obtain rfl:k=l.length:=_a
   have i1:¬((l.length:Nat):Int)<l.length:=_a
   obtain⟨p6,c6,rfl⟩:=PH.shape
   obtain⟨pL,cL,rfl⟩:=ah Qp
   have⟨HR,HLF,HK⟩:=gg! PH Qp hK
   have HG:Hid (gW RM l):=tK (fun j hj hb=>hgood j hj hj hb)
   clear PH Qp hK hgood
   go_wp2_with fail
   go_ret3
   exact⟨Or.inl ⟨HG.out,_,_,rfl,HR.out,HLF.out⟩,HK.out⟩
theorem I5 {mb:Nat} (h:aL T w B b sb mb lo v) (c:Int):am! 51 #[B,c] w fun e w'=>e=c/\aL T w' B b sb mb lo (Qk (v,c)).1/\NP [B] w w':=by
 exact M19
theorem Ky {T:List Nat} {w0 W:World} {B b sb mb lo gv gr:Nat} {v:VS} {l:List VC} {recs:List ag} {qs:List SQ} (h:dW T w0 W B b sb mb lo gv gr v l recs qs) (c:au) (cb cm cn:Value) (s:List UInt8) (gv2 gt gc:Nat) (rv:Value)
  (NU:W.ownsRow w0 42 1 rv (qs.length+2) ((qs.map (oT gv gr)).map zN++[.func (.func 39) #[b] #[],.func (.func 107) #[] #[gv2,gt,gc]]))
  (hv2:w0.heap.size<=gv2) (ht:w0.heap.size<=gt) (hc:w0.heap.size<=gc) (ov:ae W gv2 #[B] 27) (ot:ae W gt #[s] 9) (oc:ae W gc #[(c.nextBox,()),(c.nextMan,()),cb,cm,cn] 52)
  (Oz:dE T W b sb mb (.agg #[(c.nextBox,()),(c.nextMan,()),cb,cm,cn]) c) (hm:v.s.may) (hq:v.s.seq<=1000000) (hs:s.length<=4000) (ho:v.d.ops<=35000) (hw:v.d.waits.length<=700) (hn:v.d.stand.length<=100) (QX:1<=v.d.stand.length) (WG:l.length<=8):
  am! 37 #[rv] W fun e w'=>e=.returned (.int .i64 (OH (gP l recs++[aZ aA,bg c s]) v).2)/\aL T w' B b sb mb lo (OH (gP l recs++[aZ aA,bg c s]) v).1/\PK [B] b sb mb W w':=by
 refine Kx h [aA] (bg c s) [(39,#[b],#[]),(107,#[],#[gv2,gt,gc])] rfl _b (fun u hu=>?_) rv (by rw[M0];exact NU) (fun f hf e he=>?_) ho hw hn WG (fun j hj W' D hV k hF=>?_)
 .simp only[List.mem_cons,List.not_mem_nil,or_false]at hu
  rcases hu with rfl|rfl
  .exact enters_of func39 _c rfl
  .exact enters_of func107 _c rfl
 .obtain rfl:=Nm.1 hf
  exact(F0 e).mono QX
 .have hFo:=hF.ops
  have hFw:=hF.waits
  match j,hj with
  |0,_=>
   have:=si (T:=[]) hV.da (by show D.ops<_;omega) E!
   exact this.mono fun e w' ⟨a1,a2,a3⟩=>⟨a1,hV.pk a3 a2 (fun x hx=>by cases hx) _b,a3.mono _b⟩
  |1,_=>
   have:=Ed gv2 gt gc c cb cm cn s hV (fun W'' k2=>by
    have kk:=k.trans k2
    have⟨d0,d1,d2,d3,d4⟩:=(kk.own oc (h.off hc)).k5
    exact⟨(kk.own ov (h.off hv2)).cell 0 _b,(kk.own ot (h.off ht)).cell 0 _b,d0,d1,d2,d3,d4⟩) (Oz.pk (k.LY h.vol.hB)) hm hq hs (by show D.ops<=_;omega) E!
   exact this
def tD (T:List Nat) (B b sb mb lo:Nat) (R:VS×Int) (w:World) (e:Ending) (w':World):Prop:=e=R.2/\aL T w' B b sb mb lo R.1/\PK [B] b sb mb w w'
theorem oD (w:World) (B:Nat) (a1 a2 a3 a4 a5:Value):w.setCells B 0 (#[a1,a2,a3,a4,a5]:Array Value).toList=(((((w.setCell B a1).setCell (aa B 1) a2).setCell (aa B 2) a3).setCell (aa B 3) a4).setCell (aa B 4) a5):=rfl
theorem Dp:∃i,prog.info? 42=some i/\i.zero=some .nilFunc/\i.size=1/\i.bytes=8:=by
 have hi:(prog.info? 42).map (fun i=>(i.zero,i.size,i.bytes))=some (some .nilFunc,1,8):=_c
 exact Yh
theorem eE.more {w0 W W':World} {l:List VC} {k:Nat} {qs:List SQ} (h:eE w0 W l k qs) (hk:k<l.length) (hb:Oj l[k].kind=true) {gi gx:Nat} (h1:w0.heap.size<=gi) (h2:w0.heap.size<=gx) (hW:∀g cs t,ae W g cs t->(t=3\/t=34)->ae W' g cs t)
  (oi:ae W' gi #[(k:Int)] 3) (ox:ae W' gx l[k].cells 34):eE w0 W' l (k+1) (qs++[((k,l[k]),(gi,gx))]):=by
 refine⟨?_,fun q hq=>?_⟩
 .rw[M0,h.idx,pM l k hk,if_pos hb]
  rfl
 .rcases Na.1 hq with hq|hq
  .have⟨a1,a2,a3,a4⟩:=h.own q hq
   exact⟨a1,a2,hW _ _ _ a3 (Or.inl rfl),hW _ _ _ a4 (Or.inr rfl)⟩
  .obtain rfl:=Nm.1 hq
   exact⟨h1,h2,oi,ox⟩
theorem eE.AG (h:eE w0 W l k qs):qs.length<=k:=by
 have:=congrArg List.length h.idx
 rw[MP]at this
 rw[this];exact rL _ _
theorem Fk {g:Nat} {l:List Value} {t:TypeId} (o:ae w g l.toArray t):∀(j:Nat) (u:Value),l[j]? =some u->w.cell? (Addr.add g j)=some u:=by
 intro j u hj
 obtain⟨h,rfl⟩:=Nn.1 hj
 rw[Addr.add_mid,Nat.zero_add]
 have:=o.cell j _T
 simpa using this
def IN (w w7:World) (gr:Nat) (l:List VC) (sv kv:Value) (wr:World):Prop:=∃(k:Nat) (qs:List SQ),k<=l.length/\kv=(k:Int)/\wr.ownsRow w7 42 1 sv qs.length ((qs.map (oT w gr)).map zN)/\eE w wr l k qs/\NP [] w7 wr
theorem ur (h:v.dead=false) (h1:P5 v.c l=0) (h2:gW (Oh v) l) (h3:(N8 v.c (Ob (Oh v) l l.length).1).2=0) (h4:cX (Ob (Oh v) l l.length).1=0) (h5:((Pv (Ob (Oh v) l l.length).1).length:Int)<=v.s.journal*128-v.s.used):
  eX v l=Qk (OH (gP l (Ob (Oh v) l l.length).1++[aZ aA,bg (N8 v.c (Ob (Oh v) l l.length).1).1 (Pv (Ob (Oh v) l l.length).1)]) v):=by
 unfold eX;rw[if_neg (by rw[h];simp),if_neg (by rw[h1];simp),if_neg e!,if_neg (by rw[h3];simp),if_neg (by rw[h4];simp),if_pos h5]

/- -/
import Derived.Test.YtdkimcnlhmhpgaaGreatK43
import Derived.Test.YtdkimcnlhmhpgaaGreatK44
set_option maxHeartbeats 16000000
set_option maxRecDepth 100000
namespace Go.Proofs.YtdkimcnlhmhpgaaGreat
open Go.RowKit
variable {d:DK} {W':World}
def mC (b:Nat) (d:DK) (w:World) (e:Ending) (w':World):Prop:=
 ((d.down=true/\e=.returned (.tuple #[.pointer none,.int .i64 90]))\/(d.down=false/\PB d=none/\e=.returned (.tuple #[.pointer none,.int .i64 110]))\/
 (d.down=false/\∃s c,PB d=some (s,c)/\∃B sv vb vm vn,w.heap.size<=B/\ae w' B (bf b s sv c vb vm vn false) 90/\af w' sv s.runs w.heap.size B/\aw (fun x=>x<w.heap.size\/x=B) w' (.agg #[.int .u32 c.nextBox,.int .u32 c.nextMan,vb,vm,vn]) c/\e=.returned (.tuple #[.pointer (some ⟨B,0,none⟩),.int .i64 0])))/\aa [] w w'
theorem tL (w:World) (cs UJ:Array Value) (t t':TypeId):ae ((w.alloc (.cells cs t)).alloc (.cells UJ t')) (w.heap.size+1) UJ t':=by
 have h:(w.alloc (.cells cs t)).heap.size=w.heap.size+1:=by simp
 rw[<-h]
 exact ae.new _ _ _
theorem ze (h:iZ (Og d 0) (Og d 1)=none):PB d=none:=by unfold PB;rw[h];rfl
theorem DC {s:SB} (h:iZ (Og d 0) (Og d 1)=some s):PB d=if s.sectors=(d.stand.length:Int)then(Oq d s).map fun c=>(s,c)else none:=by unfold PB;rw[h];rfl
theorem M88 {A:Prop}(h:A:=by
 go_wp2_with fail
 go_ret2
 exact⟨Or.inr (Or.inl ⟨HDN.out,U5.out,rfl⟩),Ve.out.trans ((aa.refl [] w3).drew)⟩):A:=h
theorem CS {w:World} {b sb mb lo:Nat} (hD:DA w b sb mb lo d) (hn:d.stand.length<=96):
  Calls Tryz.prog 16 #[.pointer (some ⟨b,0,none⟩)] w (mC b d w):=by
 obtain⟨n1,n2⟩:=hD.len
 have Oa:Hid (∀W,aa [] w W->Calls Tryz.prog 36 #[.pointer (some ⟨b,0,none⟩)] W fun e w'=>e=.returned (.int .i64 d.stand.length)/\W=w'):=Mb (fun W k=>Vx b sb mb lo d W (hD.aJ k).disk)
 have YK:Hid (∀W,aa [] w W->Calls Tryz.prog 61 #[.pointer (some ⟨b,0,none⟩)] W fun e w'=>e=.returned (.bool d.down)/\W=w'):=Mb (fun W k=>Hc b sb mb lo d W (hD.aJ k).disk)
 have HR0:Hid (∀W,aa [] w W->Calls Tryz.prog 62 #[.pointer (some ⟨b,0,none⟩),.int .i64 0] W fun e w'=>e=.returned (.tuple #[.string (bs (Og d 0)),.int .i64 (N7 d 0)])/\W=w'):=Mb (fun W k=>(hD.aJ k).read 0)
 have Xw:Hid (∀W,aa [] w W->Calls Tryz.prog 62 #[.pointer (some ⟨b,0,none⟩),.int .i64 1] W fun e w'=>e=.returned (.tuple #[.string (bs (Og d 1)),.int .i64 (N7 d 1)])/\W=w'):=Mb (fun W k=>(hD.aJ k).read 1)
 have VH:∀i,(Og d i).length<=1000000:=fun i=>by
  unfold Og
  split
  .rename_i h0
   obtain⟨h1,h2,h3⟩:=fW h0
   rw[hZ hD.fit (by omega)];omega
  .simp
 have UE:Hid (∀W,Calls Tryz.prog 63 #[.string (bs (Og d 0)),.string (bs (Og d 1))] W (pe (.int .i64 0) (.int .i64 110) (Og d 0) (Og d 1) W)):=Mb (fun W=>La _ _ W (VH 0) (VH 1))
 have WZ:Hid (∀W (s:SB) (v:Value) (OD On:Nat),aa [] w W->af W v s.runs OD On->s.may->Calls Tryz.prog 64 #[.pointer (some ⟨b,0,none⟩),.agg (s.cells v)] W (fX (Oq d s) W)):=Mb (fun W s v OD On k hr hm=>JB (hD.aJ k) hn s v OD On hr hm)
 have HM1:=Mb (ze (d:=d))
 have HM2:=Mb (fun s=>DC (d:=d) (s:=s))
 have SY:=Mb (fun s=>qj (a:=Og d 0) (b:=Og d 1) (s:=s))
 have XQ:=Mb (fun o=>n9 (a:=Og d 0) (b:=Og d 1) (o:=o))
 unfold pe at UE
 unfold SB.cells at UE
 have hnz:((d.stand.length:Int)==0)=false:=by
  have h0:(d.stand.length:Int)≠0:=by omega
  simpa using h0
 unfold mC
 generalize PB d=MX at*
 generalize Og d 0=R0 at*
 generalize Og d 1=R1 at*
 generalize N7 d 0=A0 at*
 generalize N7 d 1=A1 at*
 obtain⟨N,hN⟩:∃N:Int,(d.stand.length:Int)=N:=⟨_,rfl⟩
 rw[hN]at Oa hnz HM2
 have hN1:1<=N/\N<=8192:=by omega
 obtain⟨hN2,hN3⟩:=hN1
 clear hD hn n1 n2 VH hN
 go_enter Tryz.func16,Tryz.ntmps16
 go_wp2_with fail
 refine(Oa.out _ (aa.refl _ _)).mono ?_;rintro e w0 ⟨rfl,rfl⟩
 go_wp2_with fail
 refine(YK.out _ (aa.refl _ _)).mono ?_;rintro e w0 ⟨rfl,rfl⟩
 cases RS:d.down
 .go_wp2_with fail
  refine(HR0.out _ (aa.refl _ _)).mono ?_;rintro e w0 ⟨rfl,rfl⟩
  go_wp2_with fail
  refine(Xw.out _ (aa.refl _ _)).mono ?_;rintro e w0 ⟨rfl,rfl⟩
  go_wp2_with fail
  refine(UE.out _).mono ?_;rintro e w2 ⟨⟨o,v,hpick,rfl,NT⟩,k2⟩
  have Xu:=XQ.out o hpick
  generalize hps:qk o=ps at*
  obtain⟨sq,se,jr,us,sz,rs⟩:=ps
  simp only at*
  obtain⟨pv,cv,rfl⟩:=NT.shape
  have K2:=Mb k2
  have Qn:=Mb NT
  have o8:=ae.new w2 #[.int .u64 sq,.int .i64 se,.int .i64 jr,.int .i64 us,.int .i64 sz,.slice pv rs.length cv] 58
  have k8:=(aa.refl [] w2).alloc (.cells #[.int .u64 sq,.int .i64 se,.int .i64 jr,.int .i64 us,.int .i64 sz,.slice pv rs.length cv] 58)
  have O8:=Mb o8
  have K8:=Mb k8
  have HDN:=Mb RS
  clear hpick NT k2 k8 RS HR0 Xw UE XQ YK
  cases o with
  |none=>
   have U5:=Mb (HM1.out Xu)
   clear Xu hps
   obtain⟨x0,x1,x2,x3,x4,x5⟩:=o8.c6
   clear o8
   go_upto_region 8 with fail
   have Ve:=Mb (K2.out.trans K8.out)
   generalize w2.alloc (.cells #[.int .u64 sq,.int .i64 se,.int .i64 jr,.int .i64 us,.int .i64 sz,.slice pv rs.length cv] 58)=w3 at*
   have Oe:Hid (∀W,aa [] w3 W->W.cell? ⟨w2.heap.size,1,none⟩=some (.int .i64 se)):=Mb (fun W k=>(k.own O8.out (by simp)).c6.2.1)
   generalize w2.heap.size=n8 at*
   refine Ml (S:=(fun W=>W.cell? ⟨n8,1,none⟩=some (.int .i64 se))) (by kernel_rfl) (by exact Oe.out _ ((aa.refl [] w3).drew)) (fun hHeld=>?_)
   refine tk 0 34 ?_
   refine tk 1 35 ?_
   refine tk 2 36 ?_
   refine tn 3 37 ?_
   refine tn 4 38 ?_
   refine tn 5 39 ?_
   refine tn 6 40 ?_
   refine tn 7 41 ?_
   refine tk 8 42 ?_
   refine MM (by kernel_rfl) ?_ _
   try simp only[List.set_cons_succ,List.set_cons_zero]
   exact M88
  |some l=>
   have aaa:iZ R0 R1=some ⟨sq,se,jr,us,sz,rs⟩:=by rw[Xu];exact congrArg some hps
   have hM:=HM2.out _ aaa
   have PX:=(SY.out _ aaa).1
   have N8:∀W,aa [] w2 W->Calls Tryz.prog 64 #[.pointer (some ⟨b,0,none⟩),.agg #[.int .u64 sq,.int .i64 se,.int .i64 jr,.int .i64 us,.int .i64 sz,.slice pv rs.length cv]] W (fX (Oq d ⟨sq,se,jr,us,sz,rs⟩) W):=fun W k=>WZ.out W ⟨sq,se,jr,us,sz,rs⟩ _ _ _ (K2.out.trans k) (Qn.out.kept0 k) PX
   have OM:=Mb N8
   have HMM:=Mb hM
   obtain⟨x0,x1,x2,x3,x4,x5⟩:=o8.c6
   clear o8 Xu aaa hps N8 hM PX WZ HM1 HM2 SY
   generalize Oq d ⟨sq,se,jr,us,sz,rs⟩=SX at*
   go_upto_region 8 with fail
   have Ve:=Mb (K2.out.trans K8.out)
   have HSZ:Hid (w.heap.size<=w2.heap.size/\w2.heap.size<(w2.alloc (.cells #[.int .u64 sq,.int .i64 se,.int .i64 jr,.int .i64 us,.int .i64 sz,.slice pv rs.length cv] 58)).heap.size):=Mb ⟨K2.out.size,by simp⟩
   generalize w2.alloc (.cells #[.int .u64 sq,.int .i64 se,.int .i64 jr,.int .i64 us,.int .i64 sz,.slice pv rs.length cv] 58)=w3 at*
   have Oe:Hid (∀W,aa [] w3 W->W.cell? ⟨w2.heap.size,1,none⟩=some (.int .i64 se)):=Mb (fun W k=>(k.own O8.out (by simp)).c6.2.1)
   obtain⟨n8,hn8⟩:∃n8,w2.heap.size=n8:=⟨_,rfl⟩
   have HN8:=Mb hn8
   simp only[hn8]at*
   clear hn8
   refine Ml (S:=(fun W=>W.cell? ⟨n8,1,none⟩=some (.int .i64 se))) (by kernel_rfl) (by exact Oe.out _ ((aa.refl [] w3).drew)) (fun hHeld=>?_)
   refine tk 0 34 ?_
   refine tk 1 35 ?_
   refine tk 2 36 ?_
   refine tk 3 37 ?_
   refine tk 4 38 ?_
   refine tk 5 39 ?_
   refine rd 6 (fun K hK=>?_)
   go_simp
   ((with_reducible refine(Oa.out _ (Ve.out.trans ((aa.refl [] w3).drew))).mono ?_));rintro e w4 ⟨rfl,TO⟩
   have adJ:=TO.symm
   clear TO
   subst adJ
   go_wp2_with fail
   refine hK.out _ _ ?_ (fun hHeld=>nm ?_)
   .exact Oe.out _ ((aa.refl [] w3).drew)
   clear hK K
   refine tk 7 41 ?_
   refine tk 8 42 ?_
   refine MM (by kernel_rfl) ?_ _
   try simp only[List.set_cons_succ,List.set_cons_zero]
   by_cases XH:se=N
   .subst XH
    have e1:(se != se)=false:=by simp
    have U5:=Mb (HMM.out.trans (if_pos rfl))
    clear HMM
    go_wp2_with fail
    refine(OM.out _ ((K8.out.trans ((aa.refl [] w3).drew)))).mono ?_;rintro e w5 ⟨⟨c,vc,hSX,N5,rfl⟩|⟨hSX,C,hC,y0,y1,p2,m2,c2,p3,m3,c3,p4,m4,c4,rfl⟩,k5⟩
    .obtain⟨vb,vm,vn,rfl,hb,hm,hn,_,_⟩:=id N5
     obtain⟨p1,c1,rfl⟩:=hb.plain.shape
     obtain⟨p2,c2,rfl⟩:=hm.plain.shape
     obtain⟨p3,c3,rfl⟩:=hn.plain.shape
     have HC5:=Mb N5
     have K35:=Mb (((aa.refl [] w3).drew).trans k5)
     have HSX:=Mb hSX
     have oC:=ae.new w5 #[.int .u32 c.nextBox,.int .u32 c.nextMan,.slice p1 c.boxes.length c1,.slice p2 c.mans.length c2,.slice p3 c.names.length c3] 52
     have kC:=(aa.refl [] w5).alloc (.cells #[.int .u32 c.nextBox,.int .u32 c.nextMan,.slice p1 c.boxes.length c1,.slice p2 c.mans.length c2,.slice p3 c.names.length c3] 52)
     have O8C:=Mb (kC.own (K35.out.own O8.out (by simp)) (by simp))
     have KC:=Mb kC
     obtain⟨z0,z1,z2,z3,z4⟩:=oC.k5
     obtain⟨y0,y1,y2,y3,y4,y5⟩:=O8C.out.c6
     clear hb hm hn oC kC N5 k5 hSX OM
     go_wp2_with fail
     go_ret2
     have O4:=HSZ.out
     have hs5:=K35.out.size
     have kV:aa [] w5 _:=KC.out.alloc (.cells (bf b ⟨sq,se,jr,us,sz,rs⟩ (.slice pv rs.length cv) c (.slice p1 c.boxes.length c1) (.slice p2 c.mans.length c2) (.slice p3 c.names.length c3) false) 90)
     refine⟨Or.inr (Or.inr ⟨HDN.out,⟨sq,se,jr,us,sz,rs⟩,c,U5.out.trans (by rw[HSX.out];rfl),w5.heap.size+1,.slice pv rs.length cv,.slice p1 c.boxes.length c1,.slice p2 c.mans.length c2,.slice p3 c.names.length c3,by omega,tL _ _ _ _ _,?_,?_,rfl⟩),(Ve.out.trans K35.out).trans kV⟩
     .exact(((Qn.out.kept0 K8.out).kept0 K35.out).kept0 kV).weaken (Md _) (by omega) (by simp)
     .refine((HC5.out.fI (T:=fun x=>x<w.heap.size) (fun x hx=>?_)).more (T:=fun x=>x=w5.heap.size+1) (fun x hx=>by omega)).kept0 kV
      show x<w3.heap.size
      omega
    .have Ri:=Ve.out.trans (((aa.refl [] w3).drew).trans k5)
     have Sb:=Mb Ri
     have HSX:=Mb hSX
     have SA:MX=none:=U5.out.trans (by rw[hSX];rfl)
     have HMN:=Mb SA
     have oC:=ae.new w5 #[.int .u32 y0,.int .u32 y1,.slice p2 m2 c2,.slice p3 m3 c3,.slice p4 m4 c4] 52
     have KC:=Mb ((aa.refl [] w5).alloc (.cells #[.int .u32 y0,.int .u32 y1,.slice p2 m2 c2,.slice p3 m3 c3,.slice p4 m4 c4] 52))
     obtain⟨z0,z1,z2,z3,z4⟩:=oC.k5
     clear oC SA hSX Ri k5 OM Ve U5 HSX
     have hC2:(C != 0)=true:=by simpa using hC
     go_wp2_with fail
     go_ret2
     exact⟨Or.inr (Or.inl ⟨HDN.out,HMN.out,rfl⟩),Sb.out.trans KC.out⟩
   .have e1:(se != N)=true:=by simpa using XH
    have U5:=Mb (HMM.out.trans (if_neg XH))
    clear HMM
    exact M88
 .go_wp2_with fail
  go_ret2
  exact⟨Or.inl ⟨RS,rfl⟩,aa.refl _ _⟩
def Ru (l:List VC):Nat->List (Nat×VC)
 |0=>[]
 |k+1=>Ru l k++(match l[k]? with|some x=>if NH x.kind then[(k,x)]else[]|none=>[])
theorem mo (l:List VC) (k:Nat) (h:k<l.length):Ru l (k+1)=Ru l k++(if NH l[k].kind then[(k,l[k])]else[]):=by
 show Ru l k++_=_
 rw[Mw h]
theorem xW {l:List VC}:∀{k:Nat},k<=l.length->∀p∈Ru l k,∃h:p.1<l.length,p.1<k/\l[p.1]=p.2/\NH p.2.kind=true
 |0,_,p,hp=>by simp[Ru]at hp
 |k+1,hk,p,hp=>by
  rw[mo l k (by omega)]at hp
  rcases Mj.1 hp with hp|hp
  .obtain⟨h1,h2,h3⟩:=xW (by omega) p hp
   exact⟨h1,by omega,h3⟩
  .split at hp
   .rename_i hb
    obtain rfl:=MB.1 hp
    exact⟨by show k<_;omega,by show k<_;omega,rfl,hb⟩
   .simp at hp
theorem sL (l:List VC):∀k,(Ru l k).length<=k
 |0=>Md _
 |k+1=>by
  have:=sL l k
  show(Ru l k++_).length<=_
  rw[Mc]
  split
  .split
   .simp;omega
   .simp;omega
  .simp;omega
theorem tF:∀(l:List VC) (recs:List ag) (x:VC) (r:ag),l.length=recs.length->ND (l++[x]) (recs++[r])=ND l recs++(if NH x.kind then[fun d=>NF d r.runs x.bytes]else[])
 |[],[],x,r,_=>by
  show(if NH x.kind then _ else _)=[]++_
  rw[Nd]
  split<;>simp[ND]
 |[],r'::recs,_,_,h=>by simp at h
 |y::l,[],_,_,h=>by simp at h
 |y::l,q::recs,x,r,h=>by
  have ih:=tF l recs x r (by simpa using h)
  show(if NH y.kind then(fun d=>NF d q.runs y.bytes)::ND (l++[x]) (recs++[r])else ND (l++[x]) (recs++[r]))=(if NH y.kind then(fun d=>NF d q.runs y.bytes)::ND l recs else ND l recs)++_
  rw[ih]
  split<;>simp
noncomputable def fE (recs:List ag) (p:Nat×VC) (d:DK):DK×Int:=NF d (recs.getD p.1 default).runs p.2.bytes
theorem tG (l:List VC) (recs:List ag) (h:l.length=recs.length):∀k,k<=l.length->ND (l.take k) (recs.take k)=(Ru l k).map (fE recs)
 |0,_=>by simp[ND,Ru]
 |k+1,hk=>by
  have ih:=tG l recs h k (by omega)
  rw[Mf (by omega),Mf (by omega),tF _ _ _ _ (by rw[Mp,Mp];omega),ih,mo l k (by omega),Ms]
  congr 1
  split
  .show[fun d=>_]=[fE recs (k,l[k])]
   congr 1
   funext d
   unfold fE
   simp only
   rw[MD,Mw (by omega),Option.getD_some]
  .rfl
theorem Fm (l:List VC) (recs:List ag) (h:l.length=recs.length):ND l recs=(Ru l l.length).map (fE recs):=by
 have:=tG l recs h l.length (Md _)
 rw[MC,h,MC]at this
 rw[this,h]
theorem Ai (gs:List (DK->DK×Int)) (hs:List (VS->VS×Int)) (v:VS):∀k,k<=gs.length->kr (gs.map aK++hs) v k=⟨ks gs v.d k,v.s,v.c,v.dead⟩
 |0,_=>rfl
 |k+1,hk=>by
  have ih:=Ai gs hs v k (by omega)
  have h1:k<(gs.map aK++hs).length:=by rw[Mc,Mm];omega
  rw[r6 _ _ _ h1,ih,nO gs v.d k (by omega)]
  have e:(gs.map aK++hs)[k]=aK gs[k]:=by rw[List.getElem_append_left (by rw[Mm];omega),MZ]
  rw[e]
  rfl
abbrev SQ:=(Nat×VC)×(Nat×Nat)
def C0 (gv gr:Nat) (q:SQ):Array Value:=#[.pointer (some ⟨gv,0,none⟩),.pointer (some ⟨gr,0,none⟩),.pointer (some ⟨q.2.1,0,none⟩),.pointer (some ⟨q.2.2,0,none⟩)]
structure cT (w0 W:World) (l:List VC) (k:Nat) (qs:List SQ):Prop where
 idx:qs.map (·.1)=Ru l k
 own:∀q∈qs,w0.heap.size<=q.2.1/\w0.heap.size<=q.2.2/\ae W q.2.1 #[.int .i64 q.1.1] 3/\ae W q.2.2 q.1.2.cells 34
theorem cT.kept {w0 W:World} {l:List VC} {k:Nat} {qs:List SQ} (h:cT w0 W l k qs) (kk:aa [] W W'):cT w0 W' l k qs:=⟨h.idx,fun q hq=>by
 obtain⟨h1,h2,h3,h4⟩:=h.own q hq
 exact⟨h1,h2,kk.own h3 (by simp),kk.own h4 (by simp)⟩⟩
structure dM (T:List Nat) (w0 W:World) (B b sb mb lo gv gr:Nat) (v:VS) (l:List VC) (recs:List ag) (qs:List SQ):Prop where
 vol:ay T w0 B b sb mb lo v
 kept:aa [] w0 W
 gv:w0.heap.size<=gv/\ae W gv #[.pointer (some ⟨B,0,none⟩)] 27
 gr:∃rv,w0.heap.size<=gr/\ae W gr #[rv] 92/\aP w0 W rv recs
 steps:cT w0 W l l.length qs
 len:recs.length=l.length
 pl:∀r∈recs,Pl 0 r.runs
 few:l.length<=1000
 small:∀x∈l,x.bytes.length<=1048576
section
variable {T:List Nat} {w0 W:World} {B b sb mb lo gv gr:Nat} {v:VS} {l:List VC} {recs:List ag} {qs:List SQ}
theorem dM.off (h:dM T w0 W B b sb mb lo gv gr v l recs qs) {g:Nat} (hg:w0.heap.size<=g):aW [B] W b sb mb g:=(h.vol.da.bh h.vol.hT h.kept hg).vh h.vol.hB
theorem dM.put (h:dM T w0 W B b sb mb lo gv gr v l recs qs) (q:SQ) (hq:q∈qs) {u:VS} (hV:ay T W' B b sb mb lo u) (k:PK [B] b sb mb W W') (ho:u.d.ops<=90000) (hw:u.d.waits.length<=1800):
  Calls Tryz.prog 48 (#[]++C0 gv gr q) W' fun e w'=>e=.returned (.int .i64 (aK (fE recs q.1) u).2)/\ay T w' B b sb mb lo (aK (fE recs q.1) u).1/\PK [B] b sb mb W' w':=by
 obtain⟨On,PD,oi,ox⟩:=h.steps.own q hq
 obtain⟨W5,Tg,Y0,hm4⟩:=xW (Md _) q.1 (by rw[<-h.steps.idx];exact MV.2 ⟨q,hq,rfl⟩)
 obtain⟨rv,T4,og,Rs⟩:=h.gr
 obtain⟨SV,ov⟩:=h.gv
 have Ph:=Rs.rO
 obtain⟨p,c,rfl⟩:=Rs.shape
 have hil:q.1.1<recs.length:=by rw[h.len];exact W5
 obtain⟨rb,ro,cs,rfl,e2,⟨kv,rfl,e4,e5⟩,e6,e7,e8,e9⟩:=aZ.at_ Ph q.1.1 hil
 have hkv:=e6 4 _ rfl
 have hRO:b8 T W b sb mb kv recs[q.1.1].runs:=e4.new h.vol.da h.vol.hT h.kept (Md _)
 obtain⟨⟨OD,hi3,hR⟩,_⟩:=hRO.pk (k.GR h.vol.hB)
 have Oj:=h.pl _ (Mh hil)
 have hpe:fE recs q.1=fun d=>NF d recs[q.1.1].runs q.1.2.bytes:=by
  funext d
  unfold fE
  rw[MD,Mw hil,Option.getD_some]
 rw[hpe,Array.empty_append]
 have Rn:q.1.2.bytes.length<=1048576:=by rw[<-Y0];exact h.small _ (Mh W5)
 refine(EH (T:=T) gv gr q.2.1 q.2.2 rb ro recs.length c q.1.1 kv recs[q.1.1].runs q.1.2.bytes hV (fun W'' k2=>?_) hil (by rw[h.len];have:=h.few;omega) hR (by have:=Oj.gV;omega) (fY Oj) Rn ho hw).mono fun e w' ⟨a1,a2,a3⟩=>⟨a1,a2,a3.mono (by simp)⟩
 have kk:=k.trans (k2.mono (T:=[B]) (by simp))
 refine⟨(kk.own ov (h.off SV)).cell 0 (by simp),(kk.own og (h.off T4)).cell 0 (by simp),(kk.own oi (h.off On)).cell 0 (by simp),?_,?_⟩
 .rw[World.cell?_of_block (w:=W) (a:=⟨rb,_,none⟩) (kk.same (h.off e7) (by omega))]
  exact hkv
 .have:=(kk.own ox (h.off PD)).cell 3 (by simp[VC.cells])
  simpa[VC.cells]using this
theorem dM.DW (h:dM T w0 W B b sb mb lo gv gr v l recs qs):ND l recs=qs.map (fun q=>fE recs q.1):=by
 rw[Fm l recs h.len.symm,<-h.steps.idx,List.map_map]
 rfl
theorem dM.Bs (h:dM T w0 W B b sb mb lo gv gr v l recs qs):qs.length<=l.length:=by
 have:=congrArg List.length h.steps.idx
 rw[Mm]at this
 rw[this]
 exact sL _ _
theorem dM.Ma (h:dM T w0 W B b sb mb lo gv gr v l recs qs) (gs:List (DK->DK×Int)) (hs:List (VS->VS×Int)) (hgs:∀f∈gs,∀e,e.stand.length=v.d.stand.length->Fw v.d.stand.length e (f e).1) (k:Nat) (hk:k<=qs.length+gs.length):
  ∃D,kr ((qs.map (fun q=>fE recs q.1)++gs).map aK++hs) v k=⟨D,v.s,v.c,v.dead⟩/\Fw (k*v.d.stand.length) v.d D:=by
 refine⟨_,Ai _ hs v k (by rw[Mc,Mm];exact hk),?_⟩
 refine D0 v.d.stand.length _ v.d (fun f hf e he=>?_) k (by rw[Mc,Mm];exact hk)
 rcases Mj.1 hf with hf|hf
 .rw[<-h.DW]at hf
  exact ny l recs _ f hf e he
 .exact hgs f hf e he
end
def we (u:Nat×Array Value×Array Value):Value:=.func (.func u.1) u.2.1 u.2.2
def mZ (gv gr:Nat) (q:SQ):Nat×Array Value×Array Value:=(48,#[],C0 gv gr q)
theorem GP {T:List Nat} {w0 W:World} {B b sb mb lo gv gr:Nat} {v:VS} {l:List VC} {recs:List ag} {qs:List SQ} (h:dM T w0 W B b sb mb lo gv gr v l recs qs)
  (gs:List (DK->DK×Int)) (G:VS->VS×Int) (ex:List (Nat×Array Value×Array Value)) (hex:ex.length=gs.length+1) (Xv:gs.length<=5)
  (hen:∀u∈ex,Enters Tryz.prog u.1) (rv:Value) (Nt:W.ownsRow w0.heap.size 42 1 rv (qs.length+ex.length) ((qs.map (mZ gv gr)++ex).map we))
  (hgs:∀f∈gs,∀e,e.stand.length=v.d.stand.length->Fw v.d.stand.length e (f e).1)
  (ho:v.d.ops<=35000) (hw:v.d.waits.length<=700) (hn:v.d.stand.length<=100) (Sp:l.length<=8)
  (NQ:∀(j:Nat) (hj:j<ex.length) (W':World) (D:DK),ay T W' B b sb mb lo ⟨D,v.s,v.c,v.dead⟩->PK [B] b sb mb W W'->Fw (8*v.d.stand.length+j*v.d.stand.length) v.d D->
   Calls Tryz.prog ex[j].1 (ex[j].2.1++ex[j].2.2) W' fun e w'=>e=.returned (.int .i64 (((gs.map aK++[G])[j]'(by rw[Mc,Mm,MT];omega)) ⟨D,v.s,v.c,v.dead⟩).2)/\ay T w' B b sb mb lo (((gs.map aK++[G])[j]'(by rw[Mc,Mm,MT];omega)) ⟨D,v.s,v.c,v.dead⟩).1/\PK [B] b sb mb W' w'):
  Calls Tryz.prog 37 #[rv] W fun e w'=>e=.returned (.int .i64 (NK (bX l recs++(gs.map aK++[G])) v).2)/\ay T w' B b sb mb lo (NK (bX l recs++(gs.map aK++[G])) v).1/\PK [B] b sb mb W w':=by
 have hfs:bX l recs++(gs.map aK++[G])=(qs.map (fun q=>fE recs q.1)++gs).map aK++[G]:=by
  unfold bX
  rw[h.DW,Ms,Mi]
 obtain⟨g,cap,rfl,g1,g2,g3,g4,g5⟩:=fQ Nt (by omega)
 have hul:(qs.map (mZ gv gr)++ex).length=qs.length+ex.length:=by rw[Mc,Mm]
 have T8:((qs.map (fun q=>fE recs q.1)++gs).map aK++[G]).length=qs.length+ex.length:=by
  rw[Mc,Mm,Mc,Mm,MT];omega
 have hql:=h.Bs
 rw[hfs,<-hul]
 refine KM (T:=T) (S:=[B]) ((qs.map (fun q=>fE recs q.1)++gs).map aK++[G]) (qs.map (mZ gv gr)++ex) (by rw[hul,T8]) g 0 cap (h.vol.aJ h.kept) (by rw[hul];omega) (fun i hi=>?_) (fun W' k i hi=>?_) (fun k hk W' hV Wp _=>?_)
 .by_cases PD:i<qs.length
  .rw[List.getElem_append_left (by rw[Mm];exact PD),MZ]
   exact enters_of Tryz.func48 (by kernel_rfl) rfl
  .rw[List.getElem_append_right (by rw[Mm];omega)]
   exact hen _ (Mh _)
 .rw[World.cell?_of_block (w:=W) (a:=⟨g,_,none⟩) (k.same (h.off g1) g2)]
  have:=g5 i (we ((qs.map (mZ gv gr)++ex)[i])) (by rw[List.getElem?_map,Mw hi];rfl)
  rw[Nat.zero_add]
  exact this
 .have Yr:k<qs.length+ex.length:=by rw[hul]at hk;exact hk
  obtain⟨D,hD,hF⟩:=h.Ma gs [G] hgs k (by omega)
  rw[hD]at hV ⊢
  have hF1:=hF.ops
  have hF2:=hF.waits
  by_cases PD:k<qs.length
  .have hm:k*v.d.stand.length<=8*100:=Nat.mul_le_mul (by omega) hn
   have e1:((qs.map (fun q=>fE recs q.1)++gs).map aK++[G])[k]'(by rw[T8];exact Yr)=aK (fE recs qs[k].1):=by
    rw[List.getElem_append_left (by rw[Mm,Mc,Mm];omega),MZ,List.getElem_append_left (by rw[Mm];exact PD),MZ]
   have e2:(qs.map (mZ gv gr)++ex)[k]=mZ gv gr qs[k]:=by rw[List.getElem_append_left (by rw[Mm];exact PD),MZ]
   rw[e1,e2]
   exact h.put qs[k] (Mh PD) hV Wp (by show D.ops<=_;omega) (by show D.waits.length<=_;omega)
  .obtain⟨j,rfl⟩:∃j,k=qs.length+j:=⟨k-qs.length,by omega⟩
   have hj:j<ex.length:=by omega
   have e1:((qs.map (fun q=>fE recs q.1)++gs).map aK++[G])[qs.length+j]'(by rw[T8];exact Yr)=(gs.map aK++[G])[j]'(by rw[Mc,Mm,MT];omega):=by
    have e:(qs.map (fun q=>fE recs q.1)++gs).map aK++[G]=(qs.map (fun q=>fE recs q.1)).map aK++(gs.map aK++[G]):=by rw[Ms,Mi]
    rw[List.getElem_of_eq e,List.getElem_append_right (by rw[Mm,Mm];omega)]
    congr 1
    rw[Mm,Mm];omega
   have e2:(qs.map (mZ gv gr)++ex)[qs.length+j]'hk=ex[j]:=by
    rw[List.getElem_append_right (by rw[Mm];omega)]
    congr 1
    rw[Mm];omega
   rw[e1,e2]
   refine NQ j hj W' D hV Wp (hF.mono ?_)
   rw[Nat.add_mul]
   exact Nat.add_le_add_right (Nat.mul_le_mul_right _ (by omega)) _
end Go.Proofs.YtdkimcnlhmhpgaaGreat

/- -/
import Derived.Test.YtdkimcnlhmhpgaaGreatK46
import Derived.Test.YtdkimcnlhmhpgaaGreatK48
set_option maxHeartbeats 16000000
set_option maxRecDepth 100000
set_option linter.unusedSimpArgs false
namespace Go.Proofs.YtdkimcnlhmhpgaaGreat
open Go.RowKit
variable {w0 W W' w:World} {l:List VC} {k:Nat} {qs:List SQ} {v:VS}
def kZ (T:List Nat) (B b sb mb lo:Nat) (R:VS×Int) (w:World) (e:Ending) (w':World):Prop:=e=.returned (.int .i64 R.2)/\ay T w' B b sb mb lo R.1/\PK [B] b sb mb w w'
theorem ph (w:World) (B:Nat) (a1 a2 a3 a4 a5:Value):w.setCells B 0 (#[a1,a2,a3,a4,a5]:Array Value).toList=(((((w.setCell ⟨B,0,none⟩ a1).setCell ⟨B,1,none⟩ a2).setCell ⟨B,2,none⟩ a3).setCell ⟨B,3,none⟩ a4).setCell ⟨B,4,none⟩ a5):=rfl
theorem xV:∃i,Tryz.prog.info? 42=some i/\i.zero=some .nilFunc/\i.size=1/\i.bytes=8:=by
 have hi:(Tryz.prog.info? 42).map (fun i=>(i.zero,i.size,i.bytes))=some (some .nilFunc,1,8):=by kernel_rfl
 exact VQ
theorem cT.more (h:cT w0 W l k qs) (hk:k<l.length) (hb:NH l[k].kind=true) {gi gx:Nat} (h1:w0.heap.size<=gi) (h2:w0.heap.size<=gx) (hW:∀g cs t,ae W g cs t->(t=3\/t=34)->ae W' g cs t)
  (oi:ae W' gi #[.int .i64 k] 3) (ox:ae W' gx l[k].cells 34):cT w0 W' l (k+1) (qs++[((k,l[k]),(gi,gx))]):=by
 refine⟨?_,fun q hq=>?_⟩
 .rw[Ms,h.idx,mo l k hk,if_pos hb]
  rfl
 .rcases Mj.1 hq with hq|hq
  .obtain⟨a1,a2,a3,a4⟩:=h.own q hq
   exact⟨a1,a2,hW _ _ _ a3 (Or.inl rfl),hW _ _ _ a4 (Or.inr rfl)⟩
  .obtain rfl:=MB.1 hq
   exact⟨h1,h2,oi,ox⟩
theorem cT.less (h:cT w0 W l k qs) (hk:k<l.length) (hb:NH l[k].kind=false) (kk:aa [] W W'):cT w0 W' l (k+1) qs:=by
 have h2:=h.kept kk
 exact⟨by rw[h.idx,mo l k hk,if_neg (by rw[hb];simp),Nc],h2.own⟩
theorem cT.Bs (h:cT w0 W l k qs):qs.length<=k:=by
 have:=congrArg List.length h.idx
 rw[Mm]at this
 rw[this];exact sL _ _
theorem Fy (w:World) (A B C D E:Array Value) (s t u v x:TypeId):ae (((((w.alloc (.cells A s)).alloc (.cells B t)).alloc (.cells C u)).alloc (.cells D v)).alloc (.cells E x)) w.heap.size A s/\ae (((((w.alloc (.cells A s)).alloc (.cells B t)).alloc (.cells C u)).alloc (.cells D v)).alloc (.cells E x)) (w.heap.size+1) B t/\ae (((((w.alloc (.cells A s)).alloc (.cells B t)).alloc (.cells C u)).alloc (.cells D v)).alloc (.cells E x)) (w.heap.size+2) C u/\ae (((((w.alloc (.cells A s)).alloc (.cells B t)).alloc (.cells C u)).alloc (.cells D v)).alloc (.cells E x)) (w.heap.size+3) D v/\ae (((((w.alloc (.cells A s)).alloc (.cells B t)).alloc (.cells C u)).alloc (.cells D v)).alloc (.cells E x)) (w.heap.size+4) E x:=by
 obtain⟨o1,o2,o3,o4⟩:=jP w A B C D s t u v
 have o5:=ae.new ((((w.alloc (.cells A s)).alloc (.cells B t)).alloc (.cells C u)).alloc (.cells D v)) E x
 simp only[MK]at o5
 exact⟨o1.alloc _,o2.alloc _,o3.alloc _,o4.alloc _,o5⟩
theorem xM {g:Nat} {l:List Value} {t:TypeId} (o:ae w g l.toArray t):∀(j:Nat) (u:Value),l[j]? =some u->w.cell? (Addr.add ⟨g,0,none⟩ j)=some u:=by
 intro j u hj
 obtain⟨h,rfl⟩:=MI.1 hj
 rw[Addr.add_mid,Nat.zero_add]
 have:=o.cell j (by simpa using h)
 simpa using this
theorem xC {u:Value} {c:aj} (h:cC w u c) (hm:aM c) (ht:dj c<=1000):(aG c).1.length<=1000000:=by
 have hl:=il c
 have hb:=qN (l:=N0 c) (fun r hr=>j7 (jU hm r hr) ((h.fit).2.2 r hr))
 unfold dj at ht
 unfold aG
 rw[if_pos hm]
 show(dz c).length<=_
 unfold dz eR jb kO
 simp only[Mc,aq,Mz,List.length_nil]
 split
 .simp<;>omega
 .unfold iL
  simp only[Mc,aq]
  omega
def Jm (w w7:World) (gr:Nat) (l:List VC) (sv kv:Value) (wr:World):Prop:=∃(k:Nat) (qs:List SQ),k<=l.length/\kv=.int .i64 k/\wr.ownsRow w7.heap.size 42 1 sv qs.length ((qs.map (mZ w.heap.size gr)).map we)/\cT w wr l k qs/\aa [] w7 wr
theorem yj (l:List VC) (h:v.dead=true):NJ v l=(v,90):=by unfold NJ;rw[if_pos h]
theorem pA (h:v.dead=false) (h1:Ol v.c l≠0):NJ v l=(v,Ol v.c l):=by unfold NJ;rw[if_neg (by rw[h];simp),if_pos h1]
theorem qI (h:v.dead=false) (h1:Ol v.c l=0) (h2:¬dJ (Nk v) l):NJ v l=(v,100):=by unfold NJ;rw[if_neg (by rw[h];simp),if_neg (by rw[h1];simp),if_pos h2]
theorem pB (h:v.dead=false) (h1:Ol v.c l=0) (h2:dJ (Nk v) l) (h3:(Nn v.c (Ng (Nk v) l l.length).1).2≠0):NJ v l=(v,(Nn v.c (Ng (Nk v) l l.length).1).2):=by
 unfold NJ;rw[if_neg (by rw[h];simp),if_neg (by rw[h1];simp),if_neg (by simpa using h2),if_pos h3]
theorem uq (h:v.dead=false) (h1:Ol v.c l=0) (h2:dJ (Nk v) l) (h3:(Nn v.c (Ng (Nk v) l l.length).1).2=0) (h4:bQ (Ng (Nk v) l l.length).1≠0):NJ v l=(v,bQ (Ng (Nk v) l l.length).1):=by
 unfold NJ;rw[if_neg (by rw[h];simp),if_neg (by rw[h1];simp),if_neg (by simpa using h2),if_neg (by rw[h3];simp),if_pos h4]
theorem nD (h:v.dead=false) (h1:Ol v.c l=0) (h2:dJ (Nk v) l) (h3:(Nn v.c (Ng (Nk v) l l.length).1).2=0) (h4:bQ (Ng (Nk v) l l.length).1=0) (h5:((NZ (Ng (Nk v) l l.length).1).length:Int)<=v.s.journal*128-v.s.used):
  NJ v l=Oy (NK (bX l (Ng (Nk v) l l.length).1++[aK Ni,Nz (Nn v.c (Ng (Nk v) l l.length).1).1 (NZ (Ng (Nk v) l l.length).1)]) v):=by
 unfold NJ;rw[if_neg (by rw[h];simp),if_neg (by rw[h1];simp),if_neg (by simpa using h2),if_neg (by rw[h3];simp),if_neg (by rw[h4];simp),if_pos h5]
theorem rS (h:v.dead=false) (h1:Ol v.c l=0) (h2:dJ (Nk v) l) (h3:(Nn v.c (Ng (Nk v) l l.length).1).2=0) (h4:bQ (Ng (Nk v) l l.length).1=0) (h5:¬((NZ (Ng (Nk v) l l.length).1).length:Int)<=v.s.journal*128-v.s.used) (h6:(aG (Nn v.c (Ng (Nk v) l l.length).1).1).2≠0):
  NJ v l=(v,(aG (Nn v.c (Ng (Nk v) l l.length).1).1).2):=by
 unfold NJ;rw[if_neg (by rw[h];simp),if_neg (by rw[h1];simp),if_neg (by simpa using h2),if_neg (by rw[h3];simp),if_neg (by rw[h4];simp),if_neg h5,if_pos h6]
theorem rT (h:v.dead=false) (h1:Ol v.c l=0) (h2:dJ (Nk v) l) (h3:(Nn v.c (Ng (Nk v) l l.length).1).2=0) (h4:bQ (Ng (Nk v) l l.length).1=0) (h5:¬((NZ (Ng (Nk v) l l.length).1).length:Int)<=v.s.journal*128-v.s.used) (h6:(aG (Nn v.c (Ng (Nk v) l l.length).1).1).2=0) (h7:NI (Ng (Nk v) l l.length).2 (Nv (aG (Nn v.c (Ng (Nk v) l l.length).1).1).1.length)≠0):
  NJ v l=(v,100):=by
 unfold NJ;rw[if_neg (by rw[h];simp),if_neg (by rw[h1];simp),if_neg (by simpa using h2),if_neg (by rw[h3];simp),if_neg (by rw[h4];simp),if_neg h5,if_neg (by rw[h6];simp),if_pos h7]
theorem nB (h:v.dead=false) (h1:Ol v.c l=0) (h2:dJ (Nk v) l) (h3:(Nn v.c (Ng (Nk v) l l.length).1).2=0) (h4:bQ (Ng (Nk v) l l.length).1=0) (h5:¬((NZ (Ng (Nk v) l l.length).1).length:Int)<=v.s.journal*128-v.s.used) (h6:(aG (Nn v.c (Ng (Nk v) l l.length).1).1).2=0) (h7:NI (Ng (Nk v) l l.length).2 (Nv (aG (Nn v.c (Ng (Nk v) l l.length).1).1).1.length)=0):
  NJ v l=Oy (NK (bX l (Ng (Nk v) l l.length).1++[NO (Nn v.c (Ng (Nk v) l l.length).1).1 (aG (Nn v.c (Ng (Nk v) l l.length).1).1).1 (Np (Ng (Nk v) l l.length).2 (Nv (aG (Nn v.c (Ng (Nk v) l l.length).1).1).1.length))]) v):=by
 unfold NJ;rw[if_neg (by rw[h];simp),if_neg (by rw[h1];simp),if_neg (by simpa using h2),if_neg (by rw[h3];simp),if_neg (by rw[h4];simp),if_neg h5,if_neg (by rw[h6];simp),if_neg (by rw[h7];simp)]
theorem M61 {A:Prop}(h:A:=by
 refine MM (by kernel_rfl) ?_ _
 try simp only[List.set_cons_succ,List.set_cons_zero]
 go_wp2_with fail
 go_ret
 rw[HX.out]
 exact⟨rfl,ab9.out,(abQ.out.bM HV.out.aQ).trans K13.out⟩):A:=h
theorem qX {T:List Nat} {B b sb mb lo:Nat} (vl:Value) (l:List VC) (OD On:Nat) (hV:ay T w B b sb mb lo v) (hF:yx 900 v) (hl:fj w vl l OD On) (Sp:l.length<=8) (Rb:∀x∈l,x.fits) (ho:v.d.ops<=35000) (hw:v.d.waits.length<=700) (hn:v.d.stand.length<=100):
  Calls Tryz.prog 11 #[.pointer (some ⟨B,0,none⟩),vl] w (kZ T B b sb mb lo (NJ v l) w):=by
 obtain⟨hm,Pb,Qr,hseq,Zv⟩:=hF
 have Rn:=hm.1
 obtain⟨sv,vb,vm,vn,o,hr,N5⟩:=hV.vol
 obtain⟨RM,hRM⟩:∃R,Nk v=R:=⟨_,rfl⟩
 obtain⟨P,hP⟩:∃P,Ng RM l l.length=P:=⟨_,rfl⟩
 obtain⟨AP,hAP⟩:∃A,Nn v.c P.1=A:=⟨_,rfl⟩
 have Vi:Pl 0 RM:=by rw[<-hRM];exact lK _ _
 have Yd:Pl 0 P.2:=by rw[<-hP];exact uQ Vi l l.length (Md _)
 have hPr:∀r∈P.1,Pl 0 r.runs:=fun r hr=>by rw[<-hP]at hr;exact(mi RM l l.length (Md _) r hr).1
 have YS:P.1.length=l.length:=by rw[<-hP];exact ff RM l _ (Md _)
 have acH:∀r∈P.1,0<=r.id:=fun r hr=>by rw[<-hP]at hr;exact sw RM l (fun x hx=>(bP (Rb x hx).2.1).1) r hr
 have aa3:AP.2=0->aM AP.1:=fun h=>by
  have e:Nn v.c P.1=b9 v.c P.1:=by unfold Nn;rw[if_pos Pb]
  rw[<-hAP,e]at h ⊢
  exact lC Pb acH h
 have abo:dj AP.1<=908:=by
  rw[<-hAP]
  have:=qO P.1 v.c
  unfold dj at this ⊢
  omega
 have PT:Hid (∀W,aa [] w W->Calls Tryz.prog 42 #[.pointer (some ⟨B,0,none⟩)] W fun e w'=>e=.returned (.int .i64 (if v.dead=true then 90 else 0))/\W=w'):=Mb (fun W k=>mX (hV.aJ k))
 have HWR:Hid (∀W,aa [] w W->Calls Tryz.prog 43 #[.pointer (some ⟨B,0,none⟩),vl] W (qQ (Ol v.c l) W)):=Mb (fun W k=>JA vl l OD On (hV.aJ k) Pb (hl.kept0 k))
 have Rw:Hid (∀W,aa [] w W->Calls Tryz.prog 44 #[.pointer (some ⟨B,0,none⟩),vl] W (s8 RM l W)):=Mb (fun W k=>by rw[<-hRM];exact KI vl l OD On (hV.aJ k) hm Pb (by omega) (hl.kept0 k) (by omega))
 have adE:Hid (∀W rv lo2 PD,aa [] w W->cY W rv P.1 lo2 PD->Calls Tryz.prog 45 #[.agg #[.int .u32 v.c.nextBox,.int .u32 v.c.nextMan,vb,vm,vn],rv] W (cE (SD T w b sb mb) AP W)):=Mb (fun W rv lo2 PD k OQ=>by
  rw[<-hAP]
  exact tf (S0:=SD T w b sb mb) _ v.c rv P.1 lo2 PD W (aw.kept0 N5 k) (fun x hx=>Mo (hV.da.qY hV.hT x hx) k.size) Pb.small OQ (fun r hr=>fY (hPr r hr)) (fun r hr=>by have:=(hPr r hr).gV;omega))
 have acC:Hid (∀W rv lo2 PD g,aa [] w W->w.heap.size<=g->g<W.heap.size->cY W rv P.1 lo2 PD->Calls Tryz.prog 45 #[.agg #[.int .u32 v.c.nextBox,.int .u32 v.c.nextMan,vb,vm,vn],rv] W (cE (fun x=>SD T w b sb mb x\/x=g) AP W)):=Mb (fun W rv lo2 PD g k hg hgW OQ=>by
  rw[<-hAP]
  exact tf (S0:=fun x=>SD T w b sb mb x\/x=g) _ v.c rv P.1 lo2 PD W (aw.kept0 (aw.more (T:=fun x=>x=g) N5 (fun x hx=>by subst hx;exact hg)) k) (fun x hx=>(by
   rcases hx with hx|rfl
   .exact Mo (hV.da.qY hV.hT x hx) k.size
   .exact hgW)) Pb.small OQ (fun r hr=>fY (hPr r hr)) (fun r hr=>by have:=(hPr r hr).gV;omega))
 have Yw:Hid (∀W rv lo2 PD,cY W rv P.1 lo2 PD->Calls Tryz.prog 46 #[rv] W (nF P.1 W)):=Mb (fun W rv lo2 PD h=>LM rv P.1 lo2 PD W h (by omega) (fun r hr=>by have:=(hPr r hr).gV;omega))
 have WO:Hid (∀W u,AP.2=0->cC W u AP.1->Calls Tryz.prog 52 #[u] W (iu AP.1 W)):=Mb (fun W u h0 h=>Ez u AP.1 W h (aa3 h0).small (by unfold dj at abo;omega))
 have V6:Hid (∀W u (n:Nat) lo2 PD,n<=1000000000->af W u P.2 lo2 PD->Calls Tryz.prog 53 #[u,.int .i64 (Nv n)] W (lu P.2 (Nv n) W)):=Mb (fun W u n lo2 PD hn h=>uF u P.2 _ lo2 PD W h (by have:=Yd.gV;omega) (fY Yd) (by have:=q8 (n:Int);omega) (by unfold Nv;split<;>omega))
 have HV:=Mb hV
 have ac7:Hid (dj AP.1<=1000):=Mb (by omega)
 have HL:=Mb hl
 have HM:=Mb hm
 have OG:Hid (v.d.ops<=35000/\v.d.waits.length<=700/\v.d.stand.length<=100/\l.length<=8/\v.s.seq<=900/\v.s.journal<=30):=Mb ⟨ho,hw,hn,Sp,hseq,Zv⟩
 have Vb:=Mb Rb
 have aec:=Mb Yd
 have HPR:=Mb hPr
 have aci:=Mb YS
 have acZ:=Mb aa3
 have PG:=Mb hRM
 have HP:=Mb hP
 have Sd:=Mb hAP
 have ZQ:=Mb Rn
 obtain⟨p1,c1,rfl⟩:=aZ.shape hl
 have HO:Hid (∀W,aa [] w W->ae W B (bf b v.s sv v.c vb vm vn v.dead) 90):=Mb (fun W k=>k.own o (by simp))
 have ogv:=ae.new w #[.pointer (some ⟨B,0,none⟩)] 27
 have k1:aa [] w (w.alloc (.cells #[.pointer (some ⟨B,0,none⟩)] 27)):=(aa.refl _ _).alloc _
 have Pi:=Mb k1
 have HGV:=Mb ogv
 clear hm Pb Qr hseq Zv Rn hr N5 Vi Yd hPr YS acH aa3 abo hV hl Sp Rb ho hw hn hRM hP hAP o ogv k1
 unfold kZ
 cases hd:v.dead
 case true=>
  have hX:=yj l hd
  have HX:=Mb hX
  rw[hd,if_pos rfl]at PT
  clear hX hd
  go_enter Tryz.func11,Tryz.ntmps11
  go_wp2_with fail
  refine(PT.out _ Pi.out).mono ?_;rintro e w2 ⟨rfl,rfl⟩
  go_wp2_with fail
  go_ret
  rw[HX.out]
  exact⟨rfl,HV.out.aJ Pi.out,Pi.out.bM HV.out.aQ⟩
 case false=>
  rw[hd,if_neg (by simp)]at PT
  have HD:=Mb hd
  go_enter Tryz.func11,Tryz.ntmps11
  go_wp2_with fail
  refine(PT.out _ Pi.out).mono ?_;rintro e w2 ⟨rfl,rfl⟩
  have y0:=HGV.out.cell 0 (by simp)
  simp only[List.getElem_toArray,List.getElem_cons_zero]at y0
  go_upto_region 4 with fail
  generalize w.alloc (.cells #[.pointer (some ⟨B,0,none⟩)] 27)=w1 at*
  have VE:Hid (∀W,aa [] w1 W->W.cell? ⟨w.heap.size,0,none⟩=some (.pointer (some ⟨B,0,none⟩))):=Mb (fun W k=>(k.own HGV.out (by simp)).cell 0 (by simp))
  go_wp2_with fail
  refine(HWR.out _ Pi.out).mono ?_;rintro e w2 ⟨rfl,k2⟩
  have Rq:=Mb k2
  have y0:=VE.out w2 k2
  clear k2
  by_cases hwx:Ol v.c l=0
  case neg=>
   have HX:=Mb (pA (l:=l) hd hwx)
   have e0:(Ol v.c l==0)=false:=by rw[ME];exact hwx
   clear hwx hd
   go_wp2_with fail
   go_ret
   rw[HX.out]
   exact⟨rfl,HV.out.aJ (Pi.out.trans Rq.out),(Pi.out.trans Rq.out).bM HV.out.aQ⟩
  case pos=>
   have HWX:=Mb hwx
   rw[hwx]
   clear hwx hd
   go_wp2_with fail
   refine(Rw.out w2 (Pi.out.trans Rq.out)).mono ?_;rintro e w3 ⟨h3,k3⟩
   have Ro:=Mb (Rq.out.trans k3)
   have y0:=VE.out w3 (Rq.out.trans k3)
   clear k3
   rcases h3 with⟨OJ,rv,lv,rfl,OT,PH⟩|⟨OF,C,hC0,hCw,rfl⟩
   case inr=>
    have HX:=Mb (qI (l:=l) HD.out HWX.out (by rw[PG.out];exact OF))
    have e0:(C==0)=false:=by rw[ME];exact hC0
    clear OF hC0 hCw
    go_wp2_with fail
    go_ret
    rw[HX.out]
    exact⟨rfl,HV.out.aJ ((Pi.out.trans Ro.out).alloc _),((Pi.out.trans Ro.out).alloc _).bM HV.out.aQ⟩
   case inl=>
    rw[HP.out]at OT PH
    have Ql:=Mb OJ
    obtain⟨pR,cR,rfl⟩:=OT.shape
    obtain⟨pL,cL,rfl⟩:=ai PH
    have ogr:=ae.new w3 #[.slice pR P.1.length cR] 92
    have Td:=Mb (OT.kept0 ((aa.refl [] w3).alloc (.cells #[.slice pR P.1.length cR] 92)))
    have HLF:=Mb (Me PH (.cells #[.slice pR P.1.length cR] 92))
    have k4:=Ro.out.alloc (.cells #[.slice pR P.1.length cR] 92)
    have Pv:=Mb k4
    have Qj:=Mb ogr
    have Vj:Hid (w1.heap.size<=w3.heap.size):=Mb Ro.out.size
    clear OJ OT PH ogr k4
    go_upto_region 10 with fail
    have adI:Hid (w.heap.size<=w3.heap.size):=Mb (MA Pi.out.size Vj.out)
    have YY:=Qj.out.lt
    generalize Qm:w3.heap.size=gr at*
    generalize w3.alloc (.cells #[.slice pR P.1.length cR] 92)=w4 at*
    have ad2:=Mb YY
    clear Qm YY
    have So:Hid (∀W,aa [] w4 W->W.cell? ⟨w.heap.size,0,none⟩=some (.pointer (some ⟨B,0,none⟩))/\W.cell? ⟨gr,0,none⟩=some (.slice pR P.1.length cR)/\W.cell? ⟨B,7,none⟩=some (.int .u32 v.c.nextBox)/\W.cell? ⟨B,8,none⟩=some (.int .u32 v.c.nextMan)/\W.cell? ⟨B,9,none⟩=some vb/\W.cell? ⟨B,10,none⟩=some vm/\W.cell? ⟨B,11,none⟩=some vn):=Mb (fun W k=>by
     obtain⟨a0,_,_,_,_,_,_,a7,a8,a9,a10,a11,_⟩:=(HO.out W ((Pi.out.trans Pv.out).trans k)).jC
     exact⟨VE.out W (Pv.out.trans k),(k.own Qj.out (by simp)).cell 0 (by simp),a7,a8,a9,a10,a11⟩)
    clear y0
    obtain⟨y0,y1,y2,y3,y4,y5,y6⟩:=So.out w4 (aa.refl _ _)
    go_cut [9,10]from 37 to 45 (fun v9 v10 wx=>v9=.int .i64 AP.2/\∃gc x2 x3 x4,v10=.pointer (some ⟨gc,0,none⟩)/\w.heap.size<=gc/\ae wx gc #[.int .u32 AP.1.nextBox,.int .u32 AP.1.nextMan,x2,x3,x4] 52/\cO T wx b sb mb (.agg #[.int .u32 AP.1.nextBox,.int .u32 AP.1.nextMan,x2,x3,x4]) AP.1/\aa [] w4 wx)
    case first=>
     refine Ml (S:=(fun W=>W.cell? ⟨w.heap.size,0,none⟩=some (.pointer (some ⟨B,0,none⟩))/\W.cell? ⟨gr,0,none⟩=some (.slice pR P.1.length cR)/\W.cell? ⟨B,7,none⟩=some (.int .u32 v.c.nextBox)/\W.cell? ⟨B,8,none⟩=some (.int .u32 v.c.nextMan)/\W.cell? ⟨B,9,none⟩=some vb/\W.cell? ⟨B,10,none⟩=some vm/\W.cell? ⟨B,11,none⟩=some vn)) (by kernel_rfl) (by exact So.out _ ((aa.refl [] w4).drew)) (fun hHeld=>?_)
     refine tk 0 38 ?_
     refine tk 1 39 ?_
     refine tk 2 40 ?_
     refine tk 3 41 ?_
     refine tk 4 42 ?_
     refine wpAnyH_ready (rs:=[5,9]) (by kernel_rfl) (by simp) ?_
     refine(AllReadyH.cons rfl (fun K hK=>?_) (AllReadyH.cons rfl (fun K hK=>?_) AllReadyH.nil))
     .skip
      go_simp
      ((with_reducible refine(adE.out _ _ _ _ (((Pi.out.trans Pv.out)).drew) (Td.out.rO.kept0 ((aa.refl [] w4).drew))).mono ?_));rintro e w5 ⟨vc,rfl,hcat5,k5⟩
      have Ra:aa [] w4 w5:=((aa.refl [] w4).drew).trans k5
      have Qd:cO T w5 b sb mb vc AP.1:=aw.Gt hcat5 ((Pi.out.trans Pv.out).trans Ra) HV.out.aQ
      obtain⟨vb5,vm5,vn5,rfl,_⟩:=hcat5
      obtain⟨⟨r1,m1,d1,rfl⟩,⟨r2,m2,d2,rfl⟩,⟨r3,m3,d3,rfl⟩⟩:=cO.nc Qd
      have UR:=Mb Qd
      have Q3:=Mb Ra
      clear Ra k5 Qd
      go_wp2_with fail
      refine hK.out _ _ ?_ (fun hHeld=>nm ?_)
      .exact So.out _ Q3.out
      clear hK K
      refine tk 6 37 ?_
      refine tk 7 44 ?_
      refine tk 8 45 ?_
      have oz:=ae.new w5 #[.int .u32 0,.int .u32 0,.slice none 0 0,.slice none 0 0,.slice none 0 0] 52
      have o6:=oz.de (.int .u32 AP.1.nextBox) (.int .u32 AP.1.nextMan) (.slice r1 m1 d1) (.slice r2 m2 d2) (.slice r3 m3 d3)
      have k6:aa [] w4 ((((((w5.alloc (.cells #[.int .u32 0,.int .u32 0,.slice none 0 0,.slice none 0 0,.slice none 0 0] 52)).setCell ⟨w5.heap.size,0,none⟩ (.int .u32 AP.1.nextBox)).setCell ⟨w5.heap.size,1,none⟩ (.int .u32 AP.1.nextMan)).setCell ⟨w5.heap.size,2,none⟩ (.slice r1 m1 d1)).setCell ⟨w5.heap.size,3,none⟩ (.slice r2 m2 d2)).setCell ⟨w5.heap.size,4,none⟩ (.slice r3 m3 d3)):=((((((Q3.out.alloc (.cells #[.int .u32 0,.int .u32 0,.slice none 0 0,.slice none 0 0,.slice none 0 0] 52)).setCell (p:=⟨w5.heap.size,0,none⟩) (Or.inr Q3.out.size) (.int .u32 AP.1.nextBox)).setCell (p:=⟨w5.heap.size,1,none⟩) (Or.inr Q3.out.size) (.int .u32 AP.1.nextMan)).setCell (p:=⟨w5.heap.size,2,none⟩) (Or.inr Q3.out.size) (.slice r1 m1 d1)).setCell (p:=⟨w5.heap.size,3,none⟩) (Or.inr Q3.out.size) (.slice r2 m2 d2)).setCell (p:=⟨w5.heap.size,4,none⟩) (Or.inr Q3.out.size) (.slice r3 m3 d3))
      have Y7:aa [] w5 ((((((w5.alloc (.cells #[.int .u32 0,.int .u32 0,.slice none 0 0,.slice none 0 0,.slice none 0 0] 52)).setCell ⟨w5.heap.size,0,none⟩ (.int .u32 AP.1.nextBox)).setCell ⟨w5.heap.size,1,none⟩ (.int .u32 AP.1.nextMan)).setCell ⟨w5.heap.size,2,none⟩ (.slice r1 m1 d1)).setCell ⟨w5.heap.size,3,none⟩ (.slice r2 m2 d2)).setCell ⟨w5.heap.size,4,none⟩ (.slice r3 m3 d3)):=(((((((aa.refl [] w5).alloc (.cells #[.int .u32 0,.int .u32 0,.slice none 0 0,.slice none 0 0,.slice none 0 0] 52)).setCell (p:=⟨w5.heap.size,0,none⟩) (Or.inr (Md _)) (.int .u32 AP.1.nextBox)).setCell (p:=⟨w5.heap.size,1,none⟩) (Or.inr (Md _)) (.int .u32 AP.1.nextMan)).setCell (p:=⟨w5.heap.size,2,none⟩) (Or.inr (Md _)) (.slice r1 m1 d1)).setCell (p:=⟨w5.heap.size,3,none⟩) (Or.inr (Md _)) (.slice r2 m2 d2)).setCell (p:=⟨w5.heap.size,4,none⟩) (Or.inr (Md _)) (.slice r3 m3 d3))
      have HOZ:=Mb oz
      have aaU:=Mb Y7
      have Xv:w.heap.size<=w5.heap.size:=MA (Pi.out.trans Pv.out).size Q3.out.size
      have HGL:=Mb Xv
      clear oz Y7 Xv
      refine rd 9 (fun K hK=>?_)
      go_simp
      refine hK.out _ _ ?_ (fun hHeld=>nm ?_)
      .exact So.out _ (Q3.out.alloc (.cells #[.int .u32 0,.int .u32 0,.slice none 0 0,.slice none 0 0,.slice none 0 0] 52))
      clear hK K
      refine rd 10 (fun K hK=>?_)
      refine ee rfl 52 _ _ rfl w5.heap.size 0 #[.int .u32 AP.1.nextBox,.int .u32 AP.1.nextMan,.slice r1 m1 d1,.slice r2 m2 d2,.slice r3 m3 d3] (by simp[Act.eval,Act.put]) (by simp[Act.eval,Act.put]) (HOZ.out.there 0 5 (by simp)) (by kernel_rfl) (all_oneCell_toArray (cs:=[.int .u32 AP.1.nextBox,.int .u32 AP.1.nextMan,.slice r1 m1 d1,.slice r2 m2 d2,.slice r3 m3 d3]) (by intro u hu;simp at hu;rcases hu with rfl|rfl|rfl|rfl|rfl<;>rfl)) ?_
      rw[ph]
      clear HOZ
      generalize ((((((w5.alloc (.cells #[.int .u32 0,.int .u32 0,.slice none 0 0,.slice none 0 0,.slice none 0 0] 52)).setCell ⟨w5.heap.size,0,none⟩ (.int .u32 AP.1.nextBox)).setCell ⟨w5.heap.size,1,none⟩ (.int .u32 AP.1.nextMan)).setCell ⟨w5.heap.size,2,none⟩ (.slice r1 m1 d1)).setCell ⟨w5.heap.size,3,none⟩ (.slice r2 m2 d2)).setCell ⟨w5.heap.size,4,none⟩ (.slice r3 m3 d3))=w6 at*
      have Ty:=Mb o6
      have Qg:=Mb k6
      clear o6 k6
      refine hK.out _ _ ?_ (fun hHeld=>nm ?_)
      .exact So.out _ Qg.out
      clear hK K
      refine tk 11 9 ?_
      refine MM (by kernel_rfl) ?_ _
      try simp only[List.set_cons_succ,List.set_cons_zero]
      go_wp2_with fail
      go_meet
      exact⟨rfl,_,_,_,_,rfl,HGL.out,Ty.out,UR.out.kept0 aaU.out (Mo HV.out.aQ (MA (Pi.out.trans Pv.out).size Q3.out.size)),Qg.out⟩
     .skip
      have HZ:Hid (ae (w4.alloc (.cells #[.int .u32 0,.int .u32 0,.slice none 0 0,.slice none 0 0,.slice none 0 0] 52)) w4.heap.size #[.int .u32 0,.int .u32 0,.slice none 0 0,.slice none 0 0,.slice none 0 0] 52):=Mb (ae.new _ _ _)
      go_simp
      refine hK.out _ _ ?_ (fun hHeld=>nm ?_)
      .first|exact So.out _ ((aa.refl [] w4).alloc (.cells #[.int .u32 0,.int .u32 0,.slice none 0 0,.slice none 0 0,.slice none 0 0] 52)).drew|exact So.out _ ((aa.refl [] w4).drew.alloc (.cells #[.int .u32 0,.int .u32 0,.slice none 0 0,.slice none 0 0,.slice none 0 0] 52))
      clear hK K
      refine rd 5 (fun K hK=>?_)
      go_simp
      ((with_reducible refine(acC.out _ _ _ _ w4.heap.size (by first|exact((Pi.out.trans Pv.out).alloc _).drew|exact((Pi.out.trans Pv.out).drew).alloc _) (Pi.out.trans Pv.out).size (by simp) (by first|exact Td.out.rO.kept0 (((aa.refl [] w4).alloc _).drew)|exact Td.out.rO.kept0 (((aa.refl [] w4).drew).alloc _))).mono ?_));rintro e w5 ⟨vc,rfl,hcat5,k5⟩
      have Ra:aa [] w4 w5:=by first|exact(((aa.refl [] w4).alloc _).drew).trans k5|exact(((aa.refl [] w4).drew).alloc _).trans k5
      have oz5:ae w5 w4.heap.size #[.int .u32 0,.int .u32 0,.slice none 0 0,.slice none 0 0,.slice none 0 0] 52:=by first|exact k5.own HZ.out.drew (by simp)|exact k5.own (ae.new w4.drew #[.int .u32 0,.int .u32 0,.slice none 0 0,.slice none 0 0,.slice none 0 0] 52) (by simp)
      have Qd:cO T w5 b sb mb vc AP.1:=aw.Gt (hcat5.fI (fun x hx=>Or.inl hx)) ((Pi.out.trans Pv.out).trans Ra) HV.out.aQ
      have acx:=Mb hcat5
      obtain⟨vb5,vm5,vn5,rfl,_⟩:=hcat5
      obtain⟨⟨r1,m1,d1,rfl⟩,⟨r2,m2,d2,rfl⟩,⟨r3,m3,d3,rfl⟩⟩:=cO.nc Qd
      have UR:=Mb Qd
      have Q3:=Mb Ra
      have HOZ:=Mb oz5
      clear Ra k5 Qd oz5
      go_wp2_with fail
      refine hK.out _ _ ?_ (fun hHeld=>nm ?_)
      .exact So.out _ Q3.out
      clear hK K
      refine tk 6 37 ?_
      refine tk 7 44 ?_
      refine tk 8 45 ?_
      have o6:=HOZ.out.de (.int .u32 AP.1.nextBox) (.int .u32 AP.1.nextMan) (.slice r1 m1 d1) (.slice r2 m2 d2) (.slice r3 m3 d3)
      have k6:aa [] w4 (((((w5.setCell ⟨w4.heap.size,0,none⟩ (.int .u32 AP.1.nextBox)).setCell ⟨w4.heap.size,1,none⟩ (.int .u32 AP.1.nextMan)).setCell ⟨w4.heap.size,2,none⟩ (.slice r1 m1 d1)).setCell ⟨w4.heap.size,3,none⟩ (.slice r2 m2 d2)).setCell ⟨w4.heap.size,4,none⟩ (.slice r3 m3 d3)):=(((((Q3.out.setCell (p:=⟨w4.heap.size,0,none⟩) (Or.inr (Md _)) (.int .u32 AP.1.nextBox)).setCell (p:=⟨w4.heap.size,1,none⟩) (Or.inr (Md _)) (.int .u32 AP.1.nextMan)).setCell (p:=⟨w4.heap.size,2,none⟩) (Or.inr (Md _)) (.slice r1 m1 d1)).setCell (p:=⟨w4.heap.size,3,none⟩) (Or.inr (Md _)) (.slice r2 m2 d2)).setCell (p:=⟨w4.heap.size,4,none⟩) (Or.inr (Md _)) (.slice r3 m3 d3))
      have Y7:aa [w4.heap.size] w5 (((((w5.setCell ⟨w4.heap.size,0,none⟩ (.int .u32 AP.1.nextBox)).setCell ⟨w4.heap.size,1,none⟩ (.int .u32 AP.1.nextMan)).setCell ⟨w4.heap.size,2,none⟩ (.slice r1 m1 d1)).setCell ⟨w4.heap.size,3,none⟩ (.slice r2 m2 d2)).setCell ⟨w4.heap.size,4,none⟩ (.slice r3 m3 d3)):=((((((aa.refl [w4.heap.size] w5).setCell (p:=⟨w4.heap.size,0,none⟩) (Or.inl Mg) (.int .u32 AP.1.nextBox)).setCell (p:=⟨w4.heap.size,1,none⟩) (Or.inl Mg) (.int .u32 AP.1.nextMan)).setCell (p:=⟨w4.heap.size,2,none⟩) (Or.inl Mg) (.slice r1 m1 d1)).setCell (p:=⟨w4.heap.size,3,none⟩) (Or.inl Mg) (.slice r2 m2 d2)).setCell (p:=⟨w4.heap.size,4,none⟩) (Or.inl Mg) (.slice r3 m3 d3))
      have aaU:=Mb Y7
      clear Y7
      refine rd 10 (fun K hK=>?_)
      refine ee rfl 52 _ _ rfl w4.heap.size 0 #[.int .u32 AP.1.nextBox,.int .u32 AP.1.nextMan,.slice r1 m1 d1,.slice r2 m2 d2,.slice r3 m3 d3] (by simp[Act.eval,Act.put]) (by simp[Act.eval,Act.put]) (HOZ.out.there 0 5 (by simp)) (by kernel_rfl) (all_oneCell_toArray (cs:=[.int .u32 AP.1.nextBox,.int .u32 AP.1.nextMan,.slice r1 m1 d1,.slice r2 m2 d2,.slice r3 m3 d3]) (by intro u hu;simp at hu;rcases hu with rfl|rfl|rfl|rfl|rfl<;>rfl)) ?_
      rw[ph]
      clear HOZ
      generalize (((((w5.setCell ⟨w4.heap.size,0,none⟩ (.int .u32 AP.1.nextBox)).setCell ⟨w4.heap.size,1,none⟩ (.int .u32 AP.1.nextMan)).setCell ⟨w4.heap.size,2,none⟩ (.slice r1 m1 d1)).setCell ⟨w4.heap.size,3,none⟩ (.slice r2 m2 d2)).setCell ⟨w4.heap.size,4,none⟩ (.slice r3 m3 d3))=w6 at*
      have Ty:=Mb o6
      have Qg:=Mb k6
      clear o6 k6
      refine hK.out _ _ ?_ (fun hHeld=>nm ?_)
      .exact So.out _ Qg.out
      clear hK K
      refine tk 11 9 ?_
      refine MM (by kernel_rfl) ?_ _
      try simp only[List.set_cons_succ,List.set_cons_zero]
      have YN:=acx.out.cf aaU.out (fun x hx=>by
       obtain rfl:x=w4.heap.size:=by simpa using hx
       exact Or.inr rfl)
      have abl:Hid (cO T w6 b sb mb (.agg #[.int .u32 AP.1.nextBox,.int .u32 AP.1.nextMan,.slice r1 m1 d1,.slice r2 m2 d2,.slice r3 m3 d3]) AP.1):=Mb (aw.Gt (YN.fI (fun x hx=>Or.inl hx)) ((Pi.out.trans Pv.out).trans Qg.out) HV.out.aQ)
      clear YN
      go_wp2_with fail
      go_meet
      exact⟨rfl,_,_,_,_,rfl,(Pi.out.trans Pv.out).size,Ty.out,abl.out,Qg.out⟩
    case rest=>
     obtain⟨rfl,gc,x2,x3,x4,rfl,hgcl,hgcat,Qd,Ps⟩:=hcut
     rename World=>w6
     obtain⟨⟨r1,m1,d1,rfl⟩,⟨r2,m2,d2,rfl⟩,⟨r3,m3,d3,rfl⟩⟩:=cO.nc Qd
     have adN:=Mb hgcl
     have Ty:=Mb hgcat
     have UR:=Mb Qd
     have Qg:=Mb Ps
     clear hgcl hgcat Qd Ps y0 y1 y2 y3 y4 y5 y6
     obtain⟨y0,y1,y2,y3,y4,y5,y6⟩:=So.out w6 Qg.out
     by_cases Pq:AP.2=0
     case neg=>
      have HX:=Mb (pB (l:=l) HD.out HWX.out (by rw[PG.out];exact Ql.out) (by rw[PG.out,HP.out,Sd.out];exact Pq))
      have e0:(AP.2==0)=false:=by rw[ME];exact Pq
      clear Pq
      go_wp2_with fail
      go_ret
      rw[HX.out,PG.out,HP.out,Sd.out]
      exact⟨rfl,HV.out.aJ ((Pi.out.trans Pv.out).trans Qg.out),((Pi.out.trans Pv.out).trans Qg.out).bM HV.out.aQ⟩
     case pos=>
      have TW:=Mb Pq
      have e0:(AP.2==0)=true:=by rw[Pq];rfl
      clear Pq
      have aaj:=Mb (Yw.out w6 _ _ _ (Td.out.rO.kept0 Qg.out))
      unfold nF at aaj
      obtain⟨Si,hTXO⟩:∃x,NZ P.1=x:=⟨_,rfl⟩
      obtain⟨TXC,hTXC⟩:∃x,bQ P.1=x:=⟨_,rfl⟩
      rw[hTXO,hTXC]at aaj
      have WL:=Mb hTXO
      have Uy:=Mb hTXC
      clear hTXO hTXC
      go_wp2_with fail
      refine aaj.out.mono ?_;rintro e w7 ⟨rfl,k7⟩
      have PL:=Mb (Qg.out.trans k7)
      have SZ:=Mb (UR.out.kept0 k7 (Mo HV.out.aQ ((Pi.out.trans Pv.out).trans Qg.out).size))
      have VW:=Mb (k7.own Ty.out (by simp))
      clear k7 y0 y1 y2 y3 y4 y5 y6
      by_cases Sv:TXC=0
      case neg=>
       have HX:=Mb (uq (l:=l) HD.out HWX.out (by rw[PG.out];exact Ql.out) (by rw[PG.out,HP.out,Sd.out];exact TW.out) (by rw[PG.out,HP.out,Uy.out];exact Sv))
       have e1:(TXC==0)=false:=by rw[ME];exact Sv
       clear Sv
       go_wp2_with fail
       go_ret
       rw[HX.out,PG.out,HP.out,Uy.out]
       exact⟨rfl,HV.out.aJ ((Pi.out.trans Pv.out).trans PL.out),((Pi.out.trans Pv.out).trans PL.out).bM HV.out.aQ⟩
      case pos=>
       subst Sv
       have aes:=Uy
       have Sp:(l.length:Int)<=8:=by have:=OG.out.2.2.2.1;omega
       go_wp2_with fail
       go_loopw [12,13,14,59] (fun sv iv xv kv wr=>Jm w w7 gr l sv kv wr) (fun _ _ _ kv _=>l.length-(intOf kv).toNat)
       case atStart=>exact⟨0,[],Mu _,rfl,MG _ _ _ _,⟨rfl,fun q hq=>by cases hq⟩,aa.refl _ _⟩
       case round=>
        obtain⟨k,qs,hk,rfl,Nt,N8,hK⟩:=hrel
        obtain⟨pS,cS,rfl⟩:=ai Nt
        by_cases Ns:k<l.length
        .have i1:(k:Int)<l.length:=by omega
         obtain⟨bl,ol,rfl,r0,r1,r2,r3,Xb,N4⟩:=fj.at_ (HL.out.kept0 (((Pi.out.trans Pv.out).trans PL.out).trans hK)) k Ns
         have Vw:=Mb hK
         have OK:=Mb Nt
         have OM:=Mb N8
         have NU:=Mb Ns
         have hql:=N8.Bs
         have HQL:=Mb hql
         have HWS:Hid (w.heap.size<=wr.heap.size):=Mb (((Pi.out.trans Pv.out).trans PL.out).trans hK).size
         have HY:Hid (∀W,aa [] wr W->W.cell? ⟨w.heap.size,0,none⟩=some (.pointer (some ⟨B,0,none⟩))):=Mb (fun W k=>VE.out W (((Pv.out.trans PL.out).trans hK).trans k))
         obtain⟨o1,o2⟩:=cQ wr #[.int .i64 (k:Int)] #[.int .i64 (l[k]'Ns).kind,.int .u32 (l[k]'Ns).id,.string (bs (l[k]'Ns).name),.string (bs (l[k]'Ns).bytes)] 3 34
         have k2:aa [] wr ((wr.alloc (.cells #[.int .i64 (k:Int)] 3)).alloc (.cells #[.int .i64 (l[k]'Ns).kind,.int .u32 (l[k]'Ns).id,.string (bs (l[k]'Ns).name),.string (bs (l[k]'Ns).bytes)] 34)):=((aa.refl _ _).alloc _).alloc _
         have HCO:Hid (∀W,Calls Tryz.prog 47 #[.int .i64 (l[k]'Ns).kind] W fun e w'=>e=.returned (.bool (NH (l[k]'Ns).kind))/\W=w'):=Mb (fun W=>xe _ W)
         have ab6:Hid (∀W',NH (l[k]'Ns).kind=true->(∀g cs t,ae wr g cs t->(t=3\/t=34)->ae W' g cs t)->ae W' wr.heap.size #[.int .i64 (k:Int)] 3->ae W' (wr.heap.size+1) #[.int .i64 (l[k]'Ns).kind,.int .u32 (l[k]'Ns).id,.string (bs (l[k]'Ns).name),.string (bs (l[k]'Ns).bytes)] 34->cT w W' l (k+1) (qs++[((k,l[k]'Ns),(wr.heap.size,wr.heap.size+1))])):=Mb (fun W' hb hW oi ox=>N8.more Ns hb HWS.out (by have:=HWS.out;omega) hW oi ox)
         have ab0:Hid (∀W',NH (l[k]'Ns).kind=false->aa [] wr W'->cT w W' l (k+1) qs):=Mb (fun W' hb kk=>N8.less Ns hb kk)
         clear Nt N8 hK hk hql N4
         generalize hX:l[k]'Ns=X at*
         clear hX Ns
         obtain⟨xk,xi,xn,xb⟩:=X
         simp only at*
         obtain⟨z0,z1,z2,z3⟩:=o2.c4
         have z4:=o1.cell 0 (by simp)
         simp only[List.getElem_toArray,List.getElem_cons_zero]at z4
         have HO1:=Mb o1
         have Sw:=Mb o2
         have V5:=Mb k2
         clear o1 o2 k2
         go_wp2_with fail
         refine(HCO.out _).mono ?_;rintro e w8 ⟨rfl,rfl⟩
         cases YA:NH xk
         .have Yc:=Mb (ab0.out _ YA V5.out)
          have Xw:=Mb (Me (Me OK.out (.cells #[.int .i64 (k:Int)] 3)) (.cells #[.int .i64 xk,.int .u32 xi,.string (bs xn),.string (bs xb)] 34))
          clear YA
          go_wp2_with fail
          go_roundw
          case rel=>exact⟨k+1,qs,NU.out,by go_num,Xw.out,Yc.out,Vw.out.trans V5.out⟩
          case measure=>(have hh:=NU.out;simp[intOf]<;>omega)
         .have HKB:=Mb YA
          obtain⟨i0,q0,q1,q2,q3⟩:=xV
          have m3:qs.length+1<=maxLen:=by have:=HQL.out;have:=NU.out;unfold maxLen;omega
          have m4:(qs.length+1)*8<=140737488355328:=by have:=HQL.out;have:=NU.out;omega
          have Re:=Me (Me OK.out (.cells #[.int .i64 (k:Int)] 3)) (.cells #[.int .i64 xk,.int .u32 xi,.string (bs xn),.string (bs xb)] 34)
          have Y4:=Mb Re
          clear YA Re
          have QQ:w7.heap.size<=((wr.alloc (.cells #[.int .i64 (k:Int)] 3)).alloc (.cells #[.int .i64 xk,.int .u32 xi,.string (bs xn),.string (bs xb)] 34)).heap.size:=MA Vw.out.size V5.out.size
          generalize hw9:((wr.alloc (.cells #[.int .i64 (k:Int)] 3)).alloc (.cells #[.int .i64 xk,.int .u32 xi,.string (bs xn),.string (bs xb)] 34))=w9 at*
          clear hw9
          go_wp2_with (at_builtin;go_must (refine Mv _ rfl (.tmp 67) (.tmp 69) 98 rfl w7.heap.size 42 i0 .nilFunc 1 8 Tryz.underlying98 q0 q1 q2 q3 rfl (by decide) _ _ _ rfl (Me Y4.out _) ⟨w9.heap.size,0,none⟩ 1 1 [.func (.func 48) #[] #[.pointer (some ⟨w.heap.size,0,none⟩),.pointer (some ⟨gr,0,none⟩),.pointer (some ⟨wr.heap.size,0,none⟩),.pointer (some ⟨wr.heap.size+1,0,none⟩)]] rfl rfl ?_ ?_ m3 m4 ?_ ?_))
          .exact dw _ _ _
          .intro u hu;simp at hu;subst hu;rfl
          .simp<;>omega
          intro v6 Vc o6 OE _ _
          have Pj:=Me Y4.out (.cells #[.func (.func 48) #[] #[.pointer (some ⟨w.heap.size,0,none⟩),.pointer (some ⟨gr,0,none⟩),.pointer (some ⟨wr.heap.size,0,none⟩),.pointer (some ⟨wr.heap.size+1,0,none⟩)]] 42)
          have abL:aa [] w7 Vc:=((Vw.out.trans V5.out).alloc _).grown OE (fun q hq=>Or.inr (Mn Pj q hq).1)
          have hW9:∀g cs t,ae w9 g cs t->(t=3\/t=34)->ae Vc g cs t:=fun g cs t og ht=>(OE.block g (og.alloc _).lt (fun e=>aB Pj (og.alloc _) (by rcases ht with rfl|rfl<;>decide) e.symm)).trans (og.alloc _)
          have ZT:=ab6.out Vc HKB.out (fun g cs t og ht=>hW9 g cs t (V5.out.own og (by simp)) ht) (hW9 _ _ _ HO1.out (Or.inl rfl)) (hW9 _ _ _ Sw.out (Or.inr rfl))
          have acF:=Mb ZT
          have adC:=Mb abL
          have aaB:=Mb o6
          clear Pj abL hW9 ZT o6 OE
          go_wp2_with fail
          go_roundw
          case rel=>exact⟨k+1,_,NU.out,by go_num,by rw[Mc,Ms,Ms,List.map_map];exact aaB.out,acF.out,adC.out⟩
          case measure=>(have hh:=NU.out;simp[intOf]<;>omega)
        .obtain rfl:k=l.length:=by omega
         have i1:¬((l.length:Nat):Int)<l.length:=by omega
         have Vw:=Mb hK
         have OK:=Mb Nt
         have HQL:=Mb N8.Bs
         have abh:Hid (∀W,aa [] w7 W->cT w W l l.length qs->dM T w W B b sb mb lo w.heap.size gr v l P.1 qs):=Mb (fun W k hs=>⟨HV.out,((Pi.out.trans Pv.out).trans PL.out).trans k,⟨Md _,((Pv.out.trans PL.out).trans k).own HGV.out (by simp)⟩,⟨_,adI.out,(PL.out.trans k).own Qj.out (by simp),(Td.out.base (Pi.out.trans Rq.out).size).kept0 (PL.out.trans k)⟩,hs,aci.out,HPR.out,by have:=OG.out.2.2.2.1;omega,fun x hx=>(Vb.out x hx).2.2.2⟩)
         have OM:=Mb N8
         have aaw:∀W,aa [] w7 W->W.cell? ⟨w.heap.size,0,none⟩=some (.pointer (some ⟨B,0,none⟩))/\W.cell? ⟨B,0,none⟩=some (.pointer (some ⟨b,0,none⟩))/\W.cell? ⟨B,3,none⟩=some (.int .i64 v.s.journal)/\W.cell? ⟨B,4,none⟩=some (.int .i64 v.s.used)/\W.cell? ⟨gc,0,none⟩=some (.int .u32 AP.1.nextBox)/\W.cell? ⟨gc,1,none⟩=some (.int .u32 AP.1.nextMan)/\W.cell? ⟨gc,2,none⟩=some (.slice r1 m1 d1)/\W.cell? ⟨gc,3,none⟩=some (.slice r2 m2 d2)/\W.cell? ⟨gc,4,none⟩=some (.slice r3 m3 d3):=fun W k=>by
          obtain⟨a0,_,_,a3,a4,_⟩:=(HO.out W (((Pi.out.trans Pv.out).trans PL.out).trans k)).jC
          obtain⟨e0,e1,e2,e3,e4⟩:=(k.own VW.out (by simp)).k5
          exact⟨VE.out W ((Pv.out.trans PL.out).trans k),a0,a3,a4,e0,e1,e2,e3,e4⟩
         have Uz:=Mb aaw
         obtain⟨y0,y1,y2,y3,y4,y5,y6,y7,y8⟩:=aaw wr Vw.out
         have hj1:1<=v.s.journal:=by have:=ZQ.out;unfold SB.eF at this;omega
         have Xx:v.s.journal<=30:=OG.out.2.2.2.2.2
         have hu1:0<=v.s.used:=by have:=ZQ.out;unfold SB.eF at this;omega
         have hu2:v.s.used<=v.s.journal*128:=by have:=ZQ.out;unfold SB.eF at this;omega
         have O4:(bs Si).size=Si.length:=Nj Si
         clear hK Nt N8 aaw
         go_upto_region 23 with fail
         refine Ml (S:=(fun W=>W.cell? ⟨w.heap.size,0,none⟩=some (.pointer (some ⟨B,0,none⟩))/\W.cell? ⟨B,0,none⟩=some (.pointer (some ⟨b,0,none⟩))/\W.cell? ⟨B,3,none⟩=some (.int .i64 v.s.journal)/\W.cell? ⟨B,4,none⟩=some (.int .i64 v.s.used)/\W.cell? ⟨gc,0,none⟩=some (.int .u32 AP.1.nextBox)/\W.cell? ⟨gc,1,none⟩=some (.int .u32 AP.1.nextMan)/\W.cell? ⟨gc,2,none⟩=some (.slice r1 m1 d1)/\W.cell? ⟨gc,3,none⟩=some (.slice r2 m2 d2)/\W.cell? ⟨gc,4,none⟩=some (.slice r3 m3 d3))) (by kernel_rfl) (by exact Uz.out _ (Vw.out.drew)) (fun hHeld=>?_)
         refine tk 0 72 ?_
         refine tk 1 73 ?_
         refine tk 2 74 ?_
         refine tk 3 75 ?_
         refine tk 4 76 ?_
         refine tk 5 77 ?_
         refine tk 6 78 ?_
         refine tk 7 79 ?_
         refine tk 8 80 ?_
         refine tk 9 81 ?_
         refine tk 10 82 ?_
         refine tk 11 83 ?_
         refine tk 12 84 ?_
         refine tk 13 85 ?_
         refine tk 14 86 ?_
         refine MM (by kernel_rfl) ?_ _
         try simp only[List.set_cons_succ,List.set_cons_zero]
         have kd:aa [] w7 wr.drew:=Vw.out.drew
         have PF:wr.drew.ownsRow w7.heap.size 42 1 (.slice pS qs.length cS) qs.length ((qs.map (mZ w.heap.size gr)).map we):=au OK.out ((aa.refl [] wr).drew) (fun x hx=>by cases hx)
         have hsd:cT w wr.drew l l.length qs:=OM.out.kept ((aa.refl [] wr).drew)
         have Y5:v.s.seq<=1000000:=by have:=OG.out.2.2.2.2.1;omega
         generalize wr.drew=wd at*
         have VG:=Mb kd
         have RO:=Mb PF
         have HSD:=Mb hsd
         have HQ9:=Mb Y5
         clear kd PF hsd Y5 OK OM y0 y1 y2 y3 y4 y5 y6 y7 y8 hHeld
         obtain⟨y0,y1,y2,y3,y4,y5,y6,y7,y8⟩:=Uz.out wd VG.out
         have ab3:Hid (IntKind.i64.wrap (IntKind.i64.wrap (v.s.journal*128)-v.s.used)=v.s.journal*128-v.s.used):=Mb (by rw[IntWalk.i64_in (v.s.journal*128) (by omega),IntWalk.i64_in _ (by omega)])
         by_cases h5:(Si.length:Int)<=v.s.journal*128-v.s.used
         case pos=>
          have HX:=Mb (nD (l:=l) HD.out HWX.out (by rw[PG.out];exact Ql.out) (by rw[PG.out,HP.out,Sd.out];exact TW.out) (by rw[PG.out,HP.out];exact Uy.out) (by rw[PG.out,HP.out,WL.out];exact h5))
          rw[PG.out,HP.out,Sd.out,WL.out]at HX
          have HAF:Hid (∀W,Calls Tryz.prog 50 #[.pointer (some ⟨B,0,none⟩),.agg #[.int .u32 AP.1.nextBox,.int .u32 AP.1.nextMan,.slice r1 m1 d1,.slice r2 m2 d2,.slice r3 m3 d3],.string (bs Si)] W fun e w'=>e=.returned (.func (.func 107) #[] #[.pointer (some ⟨W.heap.size,0,none⟩),.pointer (some ⟨W.heap.size+2,0,none⟩),.pointer (some ⟨W.heap.size+1,0,none⟩)])/\((W.alloc (.cells #[.pointer (some ⟨B,0,none⟩)] 27)).alloc (.cells #[.int .u32 AP.1.nextBox,.int .u32 AP.1.nextMan,.slice r1 m1 d1,.slice r2 m2 d2,.slice r3 m3 d3] 52)).alloc (.cells #[.string (bs Si)] 9)=w'):=Mb (fun W=>EJ B _ _ _ _ _ Si W)
          have HTL:Hid (Si.length<=4000):=Mb (by omega)
          have h5w:(Si.length:Int)<=IntKind.i64.wrap (IntKind.i64.wrap (v.s.journal*128)-v.s.used):=by rw[ab3.out];exact h5
          have aeq:=Mb O4
          clear hj1 Xx hu1 hu2 O4
          go_upto_region 24 with fail
          clear h5w
          refine Ml (S:=(fun W=>W.cell? ⟨w.heap.size,0,none⟩=some (.pointer (some ⟨B,0,none⟩))/\W.cell? ⟨B,0,none⟩=some (.pointer (some ⟨b,0,none⟩))/\W.cell? ⟨B,3,none⟩=some (.int .i64 v.s.journal)/\W.cell? ⟨B,4,none⟩=some (.int .i64 v.s.used)/\W.cell? ⟨gc,0,none⟩=some (.int .u32 AP.1.nextBox)/\W.cell? ⟨gc,1,none⟩=some (.int .u32 AP.1.nextMan)/\W.cell? ⟨gc,2,none⟩=some (.slice r1 m1 d1)/\W.cell? ⟨gc,3,none⟩=some (.slice r2 m2 d2)/\W.cell? ⟨gc,4,none⟩=some (.slice r3 m3 d3))) (by kernel_rfl) (by exact Uz.out _ (VG.out.drew)) (fun hHeld=>?_)
          refine tk 0 87 ?_
          refine tk 1 88 ?_
          refine tk 2 89 ?_
          refine tk 3 90 ?_
          refine tk 4 91 ?_
          refine tk 5 92 ?_
          refine tk 6 93 ?_
          refine tk 7 94 ?_
          refine tk 8 95 ?_
          refine rd 9 (fun K hK=>?_)
          go_simp
          ((with_reducible refine(HAF.out _).mono ?_));rintro e w8 ⟨rfl,rfl⟩
          go_wp2_with fail
          refine hK.out _ _ ?_ (fun hHeld=>nm ?_)
          .exact Uz.out _ ((((VG.out.alloc (.cells #[.pointer (some ⟨B,0,none⟩)] 27)).alloc (.cells #[.int .u32 AP.1.nextBox,.int .u32 AP.1.nextMan,.slice r1 m1 d1,.slice r2 m2 d2,.slice r3 m3 d3] 52)).alloc (.cells #[.string (bs Si)] 9)).drew)
          clear hK K
          refine rd 10 (fun K hK=>?_)
          go_simp
          refine hK.out _ _ ?_ (fun hHeld=>nm ?_)
          .exact Uz.out _ (((((VG.out.alloc (.cells #[.pointer (some ⟨B,0,none⟩)] 27)).alloc (.cells #[.int .u32 AP.1.nextBox,.int .u32 AP.1.nextMan,.slice r1 m1 d1,.slice r2 m2 d2,.slice r3 m3 d3] 52)).alloc (.cells #[.string (bs Si)] 9)).alloc (.cells #[.func (.func 39) #[.pointer (some ⟨b,0,none⟩)] #[],.func (.func 107) #[] #[.pointer (some ⟨wd.heap.size,0,none⟩),.pointer (some ⟨wd.heap.size+2,0,none⟩),.pointer (some ⟨wd.heap.size+1,0,none⟩)]] 42)).drew)
          clear hK K
          obtain⟨o1,o2,o3,o4⟩:=jP wd #[.pointer (some ⟨B,0,none⟩)] #[.int .u32 AP.1.nextBox,.int .u32 AP.1.nextMan,.slice r1 m1 d1,.slice r2 m2 d2,.slice r3 m3 d3] #[.string (bs Si)] #[.func (.func 39) #[.pointer (some ⟨b,0,none⟩)] #[],.func (.func 107) #[] #[.pointer (some ⟨wd.heap.size,0,none⟩),.pointer (some ⟨wd.heap.size+2,0,none⟩),.pointer (some ⟨wd.heap.size+1,0,none⟩)]] 27 52 9 42
          have PM:((((wd.alloc (.cells #[.pointer (some ⟨B,0,none⟩)] 27)).alloc (.cells #[.int .u32 AP.1.nextBox,.int .u32 AP.1.nextMan,.slice r1 m1 d1,.slice r2 m2 d2,.slice r3 m3 d3] 52)).alloc (.cells #[.string (bs Si)] 9)).alloc (.cells #[.func (.func 39) #[.pointer (some ⟨b,0,none⟩)] #[],.func (.func 107) #[] #[.pointer (some ⟨wd.heap.size,0,none⟩),.pointer (some ⟨wd.heap.size+2,0,none⟩),.pointer (some ⟨wd.heap.size+1,0,none⟩)]] 42)).drew.ownsRow w7.heap.size 42 1 (.slice pS qs.length cS) qs.length ((qs.map (mZ w.heap.size gr)).map we):=au RO.out ((((((aa.refl [] wd).alloc (.cells #[.pointer (some ⟨B,0,none⟩)] 27)).alloc (.cells #[.int .u32 AP.1.nextBox,.int .u32 AP.1.nextMan,.slice r1 m1 d1,.slice r2 m2 d2,.slice r3 m3 d3] 52)).alloc (.cells #[.string (bs Si)] 9)).alloc (.cells #[.func (.func 39) #[.pointer (some ⟨b,0,none⟩)] #[],.func (.func 107) #[] #[.pointer (some ⟨wd.heap.size,0,none⟩),.pointer (some ⟨wd.heap.size+2,0,none⟩),.pointer (some ⟨wd.heap.size+1,0,none⟩)]] 42)).drew) (fun x hx=>by cases hx)
          have Uv:aa [] wd ((((wd.alloc (.cells #[.pointer (some ⟨B,0,none⟩)] 27)).alloc (.cells #[.int .u32 AP.1.nextBox,.int .u32 AP.1.nextMan,.slice r1 m1 d1,.slice r2 m2 d2,.slice r3 m3 d3] 52)).alloc (.cells #[.string (bs Si)] 9)).alloc (.cells #[.func (.func 39) #[.pointer (some ⟨b,0,none⟩)] #[],.func (.func 107) #[] #[.pointer (some ⟨wd.heap.size,0,none⟩),.pointer (some ⟨wd.heap.size+2,0,none⟩),.pointer (some ⟨wd.heap.size+1,0,none⟩)]] 42)).drew:=(((((aa.refl [] wd).alloc (.cells #[.pointer (some ⟨B,0,none⟩)] 27)).alloc (.cells #[.int .u32 AP.1.nextBox,.int .u32 AP.1.nextMan,.slice r1 m1 d1,.slice r2 m2 d2,.slice r3 m3 d3] 52)).alloc (.cells #[.string (bs Si)] 9)).alloc (.cells #[.func (.func 39) #[.pointer (some ⟨b,0,none⟩)] #[],.func (.func 107) #[] #[.pointer (some ⟨wd.heap.size,0,none⟩),.pointer (some ⟨wd.heap.size+2,0,none⟩),.pointer (some ⟨wd.heap.size+1,0,none⟩)]] 42)).drew
          have o1d:=o1.drew
          have o2d:=o2.drew
          have o3d:=o3.drew
          have o4d:=o4.drew
          clear o1 o2 o3 o4
          generalize ((((wd.alloc (.cells #[.pointer (some ⟨B,0,none⟩)] 27)).alloc (.cells #[.int .u32 AP.1.nextBox,.int .u32 AP.1.nextMan,.slice r1 m1 d1,.slice r2 m2 d2,.slice r3 m3 d3] 52)).alloc (.cells #[.string (bs Si)] 9)).alloc (.cells #[.func (.func 39) #[.pointer (some ⟨b,0,none⟩)] #[],.func (.func 107) #[] #[.pointer (some ⟨wd.heap.size,0,none⟩),.pointer (some ⟨wd.heap.size+2,0,none⟩),.pointer (some ⟨wd.heap.size+1,0,none⟩)]] 42)).drew=Vc at*
          obtain⟨i0,q0,q1,q2,q3⟩:=xV
          have Qc:w7.heap.size<=Vc.heap.size:=MA VG.out.size Uv.size
          obtain⟨v5,QA,NT,hrow11,Qm,_,_⟩:=run_append_own_at (P:=Tryz.prog) Vc w7.heap.size 98 98 42 i0 .nilFunc 1 8 Tryz.underlying98 q0 q1 q2 q3 rfl (by decide) _ qs.length _ PM ⟨wd.heap.size+3,0,none⟩ 2 2 [.func (.func 39) #[.pointer (some ⟨b,0,none⟩)] #[],.func (.func 107) #[] #[.pointer (some ⟨wd.heap.size,0,none⟩),.pointer (some ⟨wd.heap.size+2,0,none⟩),.pointer (some ⟨wd.heap.size+1,0,none⟩)]] rfl (xM o4d) (by intro u hu;simp at hu;rcases hu with rfl|rfl<;>rfl) (by have:=HQL.out;have:=OG.out.2.2.2.1;unfold maxLen;omega) (by have:=HQL.out;have:=OG.out.2.2.2.1;omega) Qc
          have QK:∀g cs t,ae Vc g cs t->42≠t->ae QA g cs t:=fun g cs t og Ot=>(Qm.block g og.lt (fun e=>aB PM og Ot e.symm)).trans og
          have Q4:aa [] w7 QA:=(VG.out.trans Uv).grown Qm (fun q hq=>Or.inr (Mn PM q hq).1)
          have Tx:cT w QA l l.length qs:=⟨HSD.out.idx,fun q hq=>by
           obtain⟨a1,a2,a3,a4⟩:=HSD.out.own q hq
           exact⟨a1,a2,QK _ _ _ (Uv.own a3 (by simp)) (by decide),QK _ _ _ (Uv.own a4 (by simp)) (by decide)⟩⟩
          have QQ:w.heap.size<=wd.heap.size:=(((Pi.out.trans Pv.out).trans PL.out).trans VG.out).size
          have RZ:=SZ.out.kept0 Q4 (Mo HV.out.aQ ((Pi.out.trans Pv.out).trans PL.out).size)
          have QT:aa [] w QA:=((Pi.out.trans Pv.out).trans PL.out).trans Q4
          obtain⟨p5,c5,rfl⟩:=ai hrow11
          have QL:Hid (∀W,aa [] QA W->Calls Tryz.prog 37 #[.slice p5 (qs.length+2) c5] W fun e w'=>e=.returned (.int .i64 (NK (bX l P.1++[aK Ni,Nz AP.1 Si]) v).2)/\ay T w' B b sb mb lo (NK (bX l P.1++[aK Ni,Nz AP.1 Si]) v).1/\PK [B] b sb mb W w'):=Mb (fun W k=>KO (abh.out W (Q4.trans k) (Tx.kept k)) AP.1 _ _ _ Si wd.heap.size (wd.heap.size+2) (wd.heap.size+1) _ (aH (au hrow11 k (fun x hx=>by cases hx)) ((Pi.out.trans Pv.out).trans PL.out).size) QQ (by omega) (by omega) (k.own (QK _ _ _ o1d (by decide)) (by simp)) (k.own (QK _ _ _ o3d (by decide)) (by simp)) (k.own (QK _ _ _ o2d (by decide)) (by simp)) (RZ.kept0 k (Mo HV.out.aQ QT.size)) HM.out HQ9.out HTL.out OG.out.1 OG.out.2.1 OG.out.2.2.1 HV.out.da.len.1 OG.out.2.2.2.1)
          have Qn:=Mb NT
          have VZ:=Mb Q4
          have abQ:=Mb QT
          have Tz:Hid (∀W,PK [B] b sb mb QA W->W.cell? ⟨w.heap.size,0,none⟩=some (.pointer (some ⟨B,0,none⟩))):=Mb (fun W k=>(k.own (((Pv.out.trans PL.out).trans Q4).own HGV.out (by simp)) ((HV.out.da.bh HV.out.hT QT (Md _)).vh HV.out.hB)).cell 0 (by simp))
          have YE:Hid (b<QA.heap.size):=Mb (Mo HV.out.aQ QT.size)
          clear NT hrow11 Qm QK Q4 Tx QQ RZ QT PM Uv Qc o1d o2d o3d o4d
          refine rd 11 (fun K hK=>?_)
          refine bB rfl _ _ 98 98 rfl _ _ (by simp[Act.eval,Act.put]) (by simp[Act.eval,Act.put]) Qn.out ?_
          refine hK.out _ _ ?_ (fun hHeld=>nm ?_)
          .exact Uz.out _ VZ.out
          clear hK K
          refine tk 12 12 ?_
          refine MM (by kernel_rfl) ?_ _
          try simp only[List.set_cons_succ,List.set_cons_zero]
          clear y0 y1 y2 y3 y4 y5 y6 y7 y8
          generalize NK (bX l P.1++[aK Ni,Nz AP.1 Si]) v=CH at*
          have y0:=Tz.out QA (PK.refl _ _ _ _ _)
          go_upto_region 25 with fail
          refine Ml (S:=(fun W=>W.cell? ⟨w.heap.size,0,none⟩=some (.pointer (some ⟨B,0,none⟩)))) (by kernel_rfl) (by exact Tz.out _ ((aa.refl [] QA).drew.bM YE.out)) (fun hHeld=>?_)
          refine tk 0 99 ?_
          refine tk 1 100 ?_
          refine rd 2 (fun K hK=>?_)
          go_simp
          ((with_reducible refine(QL.out _ ((aa.refl [] QA).drew)).mono ?_));rintro e WG ⟨rfl,hV12,Tj⟩
          have Wr:=((aa.refl [] QA).drew.bM (T:=[B]) (sb:=sb) (mb:=mb) YE.out).trans Tj
          have K12:=Mb Wr
          have Wb:=Mb hV12
          have Xg:Hid (∀W,aa [] WG W->Calls Tryz.prog 51 #[.pointer (some ⟨B,0,none⟩),.int .i64 CH.2] W fun e w'=>e=.returned (.int .i64 CH.2)/\ay T w' B b sb mb lo (Oy CH).1/\aa [B] W w'):=Mb (fun W k=>wV (hV12.aJ k) CH.2)
          clear Wr Tj hV12
          go_wp2_with fail
          refine hK.out _ _ ?_ (fun hHeld=>nm ?_)
          .exact Tz.out _ K12.out
          clear hK K
          refine rd 3 (fun K hK=>?_)
          go_simp
          ((with_reducible refine(Xg.out _ (by first|exact aa.refl _ _|exact(aa.refl _ _).drew)).mono ?_));rintro e w13 ⟨rfl,hV13,k13⟩
          have ab9:=Mb hV13
          have K13:Hid (PK [B] b sb mb QA w13):=Mb (K12.out.trans (by first|exact Wb.out.jO k13|exact Wb.out.jO ((aa.refl [B] WG).drew.trans k13)))
          clear k13 hV13
          go_wp2_with fail
          refine hK.out _ _ ?_ (fun hHeld=>nm ?_)
          .exact Tz.out _ K13.out
          clear hK K
          refine tk 4 4 ?_
          exact M61
         case neg=>
          have h5w:IntKind.i64.wrap (IntKind.i64.wrap (v.s.journal*128)-v.s.used)<(Si.length:Int):=by rw[ab3.out];omega
          obtain⟨PO,hPO⟩:∃x,aG AP.1=x:=⟨_,rfl⟩
          have Zg:=WO.out wd (.agg #[.int .u32 AP.1.nextBox,.int .u32 AP.1.nextMan,.slice r1 m1 d1,.slice r2 m2 d2,.slice r3 m3 d3]) TW.out (SZ.out.plain.kept0 VG.out)
          unfold iu at Zg
          rw[hPO]at Zg
          have W6:PO.1.length<=1000000:=by rw[<-hPO];exact xC SZ.out.plain (acZ.out TW.out) ac7.out
          have HPT:=Mb Zg
          have SF:=Mb hPO
          have YC:=Mb W6
          have adL:(PO.1.length:Int)<=1000000:=by omega
          have ade:(bs PO.1).size=PO.1.length:=Nj _
          have HH5:=Mb h5
          clear hPO Zg W6 h5 hj1 Xx hu1 hu2 O4
          go_wp2_with fail
          refine HPT.out.mono ?_;rintro e w8 ⟨rfl,k8⟩
          have YV:=Mb (VG.out.trans k8)
          have adF:=Mb (au RO.out k8 (fun x hx=>by cases hx))
          have acS:=Mb (HSD.out.kept k8)
          clear k8 h5w y0 y1 y2 y3 y4 y5 y6 y7 y8
          obtain⟨y0,y1,y2,y3,y4,y5,y6,y7,y8⟩:=Uz.out w8 YV.out
          by_cases hp:PO.2=0
          case neg=>
           have HX:=Mb (rS (l:=l) HD.out HWX.out (by rw[PG.out];exact Ql.out) (by rw[PG.out,HP.out,Sd.out];exact TW.out) (by rw[PG.out,HP.out];exact Uy.out) (by rw[PG.out,HP.out,WL.out];have:=HH5.out;omega) (by rw[PG.out,HP.out,Sd.out,SF.out];exact hp))
           rw[PG.out,HP.out,Sd.out,SF.out]at HX
           have e1:(PO.2==0)=false:=by rw[ME];exact hp
           clear hp
           go_wp2_with fail
           go_ret
           rw[HX.out]
           exact⟨rfl,HV.out.aJ (((Pi.out.trans Pv.out).trans PL.out).trans YV.out),(((Pi.out.trans Pv.out).trans PL.out).trans YV.out).bM HV.out.aQ⟩
          case pos=>
           have HP0:=Mb hp
           have e1:(PO.2==0)=true:=by rw[hp];rfl
           have Tl:Hid (∀W,Calls Tryz.prog 54 #[.int .i64 PO.1.length] W fun e w'=>e=.returned (.int .i64 (Nv PO.1.length))/\W=w'):=Mb (fun W=>nY _ W (ly (by omega) (by omega)))
           have Ys:=q8 (PO.1.length:Int)
           have hLC:NI P.2 (Nv (PO.1.length:Int))=0\/NI P.2 (Nv (PO.1.length:Int))=100:=by unfold NI;rw[if_neg (by omega)];split;exact Or.inr rfl;exact Or.inl rfl
           have adQ:=Mb (au HLF.out (PL.out.trans YV.out) (fun x hx=>by cases hx))
           clear hp Ys
           go_wp2_with fail
           refine(Tl.out _).mono ?_;rintro e w9 ⟨rfl,rfl⟩
           go_wp2_with fail
           refine(V6.out _ _ PO.1.length _ _ (by have:=YC.out;omega) (af.bo adQ.out)).mono ?_;rintro e w9 ⟨u9,rfl,Pj,k9⟩
           have XM:=Mb (YV.out.trans k9)
           have acN:=Mb (au adF.out k9 (fun x hx=>by cases hx))
           have abe:=Mb (acS.out.kept k9)
           have ZP:=Mb Pj
           have ac2:Hid (w.heap.size<=w8.heap.size):=Mb (((Pi.out.trans Pv.out).trans PL.out).trans YV.out).size
           clear k9
           rcases hLC with Py|Py
           case inr=>
            have HX:=Mb (rT (l:=l) HD.out HWX.out (by rw[PG.out];exact Ql.out) (by rw[PG.out,HP.out,Sd.out];exact TW.out) (by rw[PG.out,HP.out];exact Uy.out) (by rw[PG.out,HP.out,WL.out];have:=HH5.out;omega) (by rw[PG.out,HP.out,Sd.out,SF.out];exact HP0.out) (by rw[PG.out,HP.out,Sd.out,SF.out,Py];decide))
            rw[Py]
            obtain⟨pU,cU,rfl⟩:=ai Pj
            clear Py Pj
            go_wp2_with fail
            go_ret
            rw[HX.out]
            exact⟨rfl,HV.out.aJ (((Pi.out.trans Pv.out).trans PL.out).trans XM.out),(((Pi.out.trans Pv.out).trans PL.out).trans XM.out).bM HV.out.aQ⟩
           case inl=>
            have HX:=Mb (nB (l:=l) HD.out HWX.out (by rw[PG.out];exact Ql.out) (by rw[PG.out,HP.out,Sd.out];exact TW.out) (by rw[PG.out,HP.out];exact Uy.out) (by rw[PG.out,HP.out,WL.out];have:=HH5.out;omega) (by rw[PG.out,HP.out,Sd.out,SF.out];exact HP0.out) (by rw[PG.out,HP.out,Sd.out,SF.out,Py]))
            rw[PG.out,HP.out,Sd.out,SF.out]at HX
            have hmb:(bZ v.s PO.1.length (Np P.2 (Nv (PO.1.length:Int)))).may:=mz HM.out Py (fun k hk=>by
             have h1:=eK RM l l.length (Md _) k (by rw[HP.out];exact hk)
             rw[<-PG.out]at h1
             have h2:=dI h1
             exact⟨h2.1,h2.2.1⟩)
            have Yy:=Mb hmb
            have VH:OZ P.2 (Nv (PO.1.length:Int))=(Np P.2 (Nv (PO.1.length:Int))):=by unfold OZ;rw[if_pos Py]
            rw[VH]at Pj ZP
            rw[Py]
            obtain⟨pU,cU,rfl⟩:=ai Pj
            have HSF:Hid (∀W,Calls Tryz.prog 55 #[.pointer (some ⟨B,0,none⟩),.agg #[.int .u32 AP.1.nextBox,.int .u32 AP.1.nextMan,.slice r1 m1 d1,.slice r2 m2 d2,.slice r3 m3 d3],.string (bs PO.1),.slice pU (Np P.2 (Nv (PO.1.length:Int))).length cU] W fun e w'=>e=.returned (.func (.func 113) #[] #[.pointer (some ⟨W.heap.size,0,none⟩),.pointer (some ⟨W.heap.size+2,0,none⟩),.pointer (some ⟨W.heap.size+3,0,none⟩),.pointer (some ⟨W.heap.size+1,0,none⟩)])/\(((W.alloc (.cells #[.pointer (some ⟨B,0,none⟩)] 27)).alloc (.cells #[.int .u32 AP.1.nextBox,.int .u32 AP.1.nextMan,.slice r1 m1 d1,.slice r2 m2 d2,.slice r3 m3 d3] 52)).alloc (.cells #[.string (bs PO.1)] 9)).alloc (.cells #[.slice pU (Np P.2 (Nv (PO.1.length:Int))).length cU] 56)=w'):=Mb (fun W=>wW B _ _ _ _ _ pU _ cU PO.1 W)
            have HB7:Hid (b<w7.heap.size):=Mb (Mo HV.out.aQ ((Pi.out.trans Pv.out).trans PL.out).size)
            have T9:Hid (∀W,PK [B] b sb mb w7 W->W.cell? ⟨w.heap.size,0,none⟩=some (.pointer (some ⟨B,0,none⟩))/\W.cell? ⟨gc,0,none⟩=some (.int .u32 AP.1.nextBox)/\W.cell? ⟨gc,1,none⟩=some (.int .u32 AP.1.nextMan)/\W.cell? ⟨gc,2,none⟩=some (.slice r1 m1 d1)/\W.cell? ⟨gc,3,none⟩=some (.slice r2 m2 d2)/\W.cell? ⟨gc,4,none⟩=some (.slice r3 m3 d3)):=Mb (fun W k=>by
             have kk:=(((Pi.out.trans Pv.out).trans PL.out).bM (T:=[B]) (sb:=sb) (mb:=mb) HV.out.aQ)
             obtain⟨e0,e1,e2,e3,e4⟩:=(k.own VW.out ((HV.out.da.bh HV.out.hT ((Pi.out.trans Pv.out).trans PL.out) adN.out).vh HV.out.hB)).k5
             exact⟨(k.own ((Pv.out.trans PL.out).own HGV.out (by simp)) ((HV.out.da.bh HV.out.hT ((Pi.out.trans Pv.out).trans PL.out) (Md _)).vh HV.out.hB)).cell 0 (by simp),e0,e1,e2,e3,e4⟩)
            clear Py Pj hmb VH y0 y1 y2 y3 y4 y5 y6 y7 y8
            obtain⟨y0,y1,y2,y3,y4,y5⟩:=T9.out w9 (XM.out.bM HB7.out)
            go_upto_region 32 with fail
            refine Ml (S:=(fun W=>W.cell? ⟨w.heap.size,0,none⟩=some (.pointer (some ⟨B,0,none⟩))/\W.cell? ⟨gc,0,none⟩=some (.int .u32 AP.1.nextBox)/\W.cell? ⟨gc,1,none⟩=some (.int .u32 AP.1.nextMan)/\W.cell? ⟨gc,2,none⟩=some (.slice r1 m1 d1)/\W.cell? ⟨gc,3,none⟩=some (.slice r2 m2 d2)/\W.cell? ⟨gc,4,none⟩=some (.slice r3 m3 d3))) (by kernel_rfl) (by exact T9.out _ ((XM.out.drew).bM HB7.out)) (fun hHeld=>?_)
            refine tk 0 121 ?_
            refine tk 1 122 ?_
            refine tk 2 123 ?_
            refine tk 3 124 ?_
            refine tk 4 125 ?_
            refine tk 5 126 ?_
            refine rd 6 (fun K hK=>?_)
            go_simp
            ((with_reducible refine(HSF.out _).mono ?_));rintro e Vc ⟨rfl,rfl⟩
            go_wp2_with fail
            refine hK.out _ _ ?_ (fun hHeld=>nm ?_)
            .exact T9.out _ ((((((XM.out.alloc (.cells #[.pointer (some ⟨B,0,none⟩)] 27)).alloc (.cells #[.int .u32 AP.1.nextBox,.int .u32 AP.1.nextMan,.slice r1 m1 d1,.slice r2 m2 d2,.slice r3 m3 d3] 52)).alloc (.cells #[.string (bs PO.1)] 9)).alloc (.cells #[.slice pU (Np P.2 (Nv (PO.1.length:Int))).length cU] 56)).drew).bM HB7.out)
            clear hK K
            refine rd 7 (fun K hK=>?_)
            go_simp
            refine hK.out _ _ ?_ (fun hHeld=>nm ?_)
            .exact T9.out _ (((((((XM.out.alloc (.cells #[.pointer (some ⟨B,0,none⟩)] 27)).alloc (.cells #[.int .u32 AP.1.nextBox,.int .u32 AP.1.nextMan,.slice r1 m1 d1,.slice r2 m2 d2,.slice r3 m3 d3] 52)).alloc (.cells #[.string (bs PO.1)] 9)).alloc (.cells #[.slice pU (Np P.2 (Nv (PO.1.length:Int))).length cU] 56)).alloc (.cells #[.func (.func 113) #[] #[.pointer (some ⟨w9.heap.size,0,none⟩),.pointer (some ⟨w9.heap.size+2,0,none⟩),.pointer (some ⟨w9.heap.size+3,0,none⟩),.pointer (some ⟨w9.heap.size+1,0,none⟩)]] 42)).drew).bM HB7.out)
            clear hK K
            obtain⟨o1,o2,o3,o4,o5⟩:=Fy w9 #[.pointer (some ⟨B,0,none⟩)] #[.int .u32 AP.1.nextBox,.int .u32 AP.1.nextMan,.slice r1 m1 d1,.slice r2 m2 d2,.slice r3 m3 d3] #[.string (bs PO.1)] #[.slice pU (Np P.2 (Nv (PO.1.length:Int))).length cU] #[.func (.func 113) #[] #[.pointer (some ⟨w9.heap.size,0,none⟩),.pointer (some ⟨w9.heap.size+2,0,none⟩),.pointer (some ⟨w9.heap.size+3,0,none⟩),.pointer (some ⟨w9.heap.size+1,0,none⟩)]] 27 52 9 56 42
            have PM:(((((w9.alloc (.cells #[.pointer (some ⟨B,0,none⟩)] 27)).alloc (.cells #[.int .u32 AP.1.nextBox,.int .u32 AP.1.nextMan,.slice r1 m1 d1,.slice r2 m2 d2,.slice r3 m3 d3] 52)).alloc (.cells #[.string (bs PO.1)] 9)).alloc (.cells #[.slice pU (Np P.2 (Nv (PO.1.length:Int))).length cU] 56)).alloc (.cells #[.func (.func 113) #[] #[.pointer (some ⟨w9.heap.size,0,none⟩),.pointer (some ⟨w9.heap.size+2,0,none⟩),.pointer (some ⟨w9.heap.size+3,0,none⟩),.pointer (some ⟨w9.heap.size+1,0,none⟩)]] 42)).drew.ownsRow w7.heap.size 42 1 (.slice pS qs.length cS) qs.length ((qs.map (mZ w.heap.size gr)).map we):=au acN.out (((((((aa.refl [] w9).alloc (.cells #[.pointer (some ⟨B,0,none⟩)] 27)).alloc (.cells #[.int .u32 AP.1.nextBox,.int .u32 AP.1.nextMan,.slice r1 m1 d1,.slice r2 m2 d2,.slice r3 m3 d3] 52)).alloc (.cells #[.string (bs PO.1)] 9)).alloc (.cells #[.slice pU (Np P.2 (Nv (PO.1.length:Int))).length cU] 56)).alloc (.cells #[.func (.func 113) #[] #[.pointer (some ⟨w9.heap.size,0,none⟩),.pointer (some ⟨w9.heap.size+2,0,none⟩),.pointer (some ⟨w9.heap.size+3,0,none⟩),.pointer (some ⟨w9.heap.size+1,0,none⟩)]] 42)).drew) (fun x hx=>by cases hx)
            have Uv:aa [] w9 (((((w9.alloc (.cells #[.pointer (some ⟨B,0,none⟩)] 27)).alloc (.cells #[.int .u32 AP.1.nextBox,.int .u32 AP.1.nextMan,.slice r1 m1 d1,.slice r2 m2 d2,.slice r3 m3 d3] 52)).alloc (.cells #[.string (bs PO.1)] 9)).alloc (.cells #[.slice pU (Np P.2 (Nv (PO.1.length:Int))).length cU] 56)).alloc (.cells #[.func (.func 113) #[] #[.pointer (some ⟨w9.heap.size,0,none⟩),.pointer (some ⟨w9.heap.size+2,0,none⟩),.pointer (some ⟨w9.heap.size+3,0,none⟩),.pointer (some ⟨w9.heap.size+1,0,none⟩)]] 42)).drew:=((((((aa.refl [] w9).alloc (.cells #[.pointer (some ⟨B,0,none⟩)] 27)).alloc (.cells #[.int .u32 AP.1.nextBox,.int .u32 AP.1.nextMan,.slice r1 m1 d1,.slice r2 m2 d2,.slice r3 m3 d3] 52)).alloc (.cells #[.string (bs PO.1)] 9)).alloc (.cells #[.slice pU (Np P.2 (Nv (PO.1.length:Int))).length cU] 56)).alloc (.cells #[.func (.func 113) #[] #[.pointer (some ⟨w9.heap.size,0,none⟩),.pointer (some ⟨w9.heap.size+2,0,none⟩),.pointer (some ⟨w9.heap.size+3,0,none⟩),.pointer (some ⟨w9.heap.size+1,0,none⟩)]] 42)).drew
            have o1d:=o1.drew
            have o2d:=o2.drew
            have o3d:=o3.drew
            have o4d:=o4.drew
            have o5d:=o5.drew
            clear o1 o2 o3 o4 o5
            generalize (((((w9.alloc (.cells #[.pointer (some ⟨B,0,none⟩)] 27)).alloc (.cells #[.int .u32 AP.1.nextBox,.int .u32 AP.1.nextMan,.slice r1 m1 d1,.slice r2 m2 d2,.slice r3 m3 d3] 52)).alloc (.cells #[.string (bs PO.1)] 9)).alloc (.cells #[.slice pU (Np P.2 (Nv (PO.1.length:Int))).length cU] 56)).alloc (.cells #[.func (.func 113) #[] #[.pointer (some ⟨w9.heap.size,0,none⟩),.pointer (some ⟨w9.heap.size+2,0,none⟩),.pointer (some ⟨w9.heap.size+3,0,none⟩),.pointer (some ⟨w9.heap.size+1,0,none⟩)]] 42)).drew=Vc at*
            obtain⟨i0,q0,q1,q2,q3⟩:=xV
            have Qc:w7.heap.size<=Vc.heap.size:=MA XM.out.size Uv.size
            obtain⟨v5,QA,NT,hrow11,Qm,_,_⟩:=run_append_own_at (P:=Tryz.prog) Vc w7.heap.size 98 98 42 i0 .nilFunc 1 8 Tryz.underlying98 q0 q1 q2 q3 rfl (by decide) _ qs.length _ PM ⟨w9.heap.size+4,0,none⟩ 1 1 [.func (.func 113) #[] #[.pointer (some ⟨w9.heap.size,0,none⟩),.pointer (some ⟨w9.heap.size+2,0,none⟩),.pointer (some ⟨w9.heap.size+3,0,none⟩),.pointer (some ⟨w9.heap.size+1,0,none⟩)]] rfl (xM o5d) (by intro u hu;simp at hu;subst hu;rfl) (by have:=HQL.out;have:=OG.out.2.2.2.1;unfold maxLen;omega) (by have:=HQL.out;have:=OG.out.2.2.2.1;omega) Qc
            have QK:∀g cs t,ae Vc g cs t->42≠t->ae QA g cs t:=fun g cs t og Ot=>(Qm.block g og.lt (fun e=>aB PM og Ot e.symm)).trans og
            have Q4:aa [] w7 QA:=(XM.out.trans Uv).grown Qm (fun q hq=>Or.inr (Mn PM q hq).1)
            have Tx:cT w QA l l.length qs:=⟨abe.out.idx,fun q hq=>by
             obtain⟨a1,a2,a3,a4⟩:=abe.out.own q hq
             exact⟨a1,a2,QK _ _ _ (Uv.own a3 (by simp)) (by decide),QK _ _ _ (Uv.own a4 (by simp)) (by decide)⟩⟩
            have QQ:w.heap.size<=w9.heap.size:=(((Pi.out.trans Pv.out).trans PL.out).trans XM.out).size
            have RZ:=SZ.out.kept0 Q4 (Mo HV.out.aQ ((Pi.out.trans Pv.out).trans PL.out).size)
            have QT:aa [] w QA:=((Pi.out.trans Pv.out).trans PL.out).trans Q4
            obtain⟨p5,c5,rfl⟩:=ai hrow11
            have Zr:QA.ownsRow w8.heap.size 128 2 (.slice pU (Np P.2 (Nv (PO.1.length:Int))).length cU) (Np P.2 (Nv (PO.1.length:Int))).length (No (Np P.2 (Nv (PO.1.length:Int)))):=bm (au ZP.out Uv (fun x hx=>by cases hx)) (fun g cs hb hc=>Qm.block g (MY hc) (fun e=>aB PM (show ae _ g cs 128 from hc) (by decide) e.symm))
            have ZW:b8 T QA b sb mb (.slice pU (Np P.2 (Nv (PO.1.length:Int))).length cU) (Np P.2 (Nv (PO.1.length:Int))):=(af.bo Zr).new HV.out.da HV.out.hT QT ac2.out
            have QL:Hid (∀W,aa [] QA W->Calls Tryz.prog 37 #[.slice p5 (qs.length+1) c5] W fun e w'=>e=.returned (.int .i64 (NK (bX l P.1++[NO AP.1 PO.1 (Np P.2 (Nv (PO.1.length:Int)))]) v).2)/\ay T w' B b sb mb lo (NK (bX l P.1++[NO AP.1 PO.1 (Np P.2 (Nv (PO.1.length:Int)))]) v).1/\PK [B] b sb mb W w'):=Mb (fun W k=>KN (abh.out W (Q4.trans k) (Tx.kept k)) AP.1 _ _ _ PO.1 (Np P.2 (Nv (PO.1.length:Int))) (.slice pU (Np P.2 (Nv (PO.1.length:Int))).length cU) w9.heap.size (w9.heap.size+2) (w9.heap.size+3) (w9.heap.size+1) _ (aH (au hrow11 k (fun x hx=>by cases hx)) ((Pi.out.trans Pv.out).trans PL.out).size) QQ (by omega) (by omega) (by omega) (k.own (QK _ _ _ o1d (by decide)) (by simp)) (k.own (QK _ _ _ o3d (by decide)) (by simp)) (k.own (QK _ _ _ o4d (by decide)) (by simp)) (k.own (QK _ _ _ o2d (by decide)) (by simp)) (RZ.kept0 k (Mo HV.out.aQ QT.size)) (ZW.kept0 k (Mo HV.out.aQ QT.size)) (fR _ _) Yy.out HM.out HQ9.out (by have:=YC.out;omega) OG.out.1 OG.out.2.1 OG.out.2.2.1 OG.out.2.2.2.1)
            clear Zr ZW
            have Qn:=Mb NT
            have VZ:=Mb Q4
            have abQ:=Mb QT
            have Tz:Hid (∀W,PK [B] b sb mb QA W->W.cell? ⟨w.heap.size,0,none⟩=some (.pointer (some ⟨B,0,none⟩))):=Mb (fun W k=>(k.own (((Pv.out.trans PL.out).trans Q4).own HGV.out (by simp)) ((HV.out.da.bh HV.out.hT QT (Md _)).vh HV.out.hB)).cell 0 (by simp))
            have YE:Hid (b<QA.heap.size):=Mb (Mo HV.out.aQ QT.size)
            clear NT hrow11 Qm QK Q4 Tx QQ RZ QT PM Uv Qc o1d o2d o3d o4d o5d
            refine rd 8 (fun K hK=>?_)
            refine bB rfl _ _ 98 98 rfl _ _ (by simp[Act.eval,Act.put]) (by simp[Act.eval,Act.put]) Qn.out ?_
            refine hK.out _ _ ?_ (fun hHeld=>nm ?_)
            .exact T9.out _ (VZ.out.bM HB7.out)
            clear hK K
            generalize NK (bX l P.1++[NO AP.1 PO.1 (Np P.2 (Nv (PO.1.length:Int)))]) v=CH at*
            refine rd 9 (fun K hK=>?_)
            go_simp
            ((with_reducible refine(QL.out _ (by first|exact aa.refl _ _|exact(aa.refl [] QA).drew)).mono ?_));rintro e WG ⟨rfl,hV12,Tj⟩
            have Wr:PK [B] b sb mb QA WG:=by first|exact Tj|exact((aa.refl [] QA).drew.bM YE.out).trans Tj
            have K12:=Mb Wr
            have Wb:=Mb hV12
            have Xg:Hid (∀W,aa [] WG W->Calls Tryz.prog 51 #[.pointer (some ⟨B,0,none⟩),.int .i64 CH.2] W fun e w'=>e=.returned (.int .i64 CH.2)/\ay T w' B b sb mb lo (Oy CH).1/\aa [B] W w'):=Mb (fun W k=>wV (hV12.aJ k) CH.2)
            clear Wr Tj hV12
            go_wp2_with fail
            refine hK.out _ _ ?_ (fun hHeld=>nm ?_)
            .exact T9.out _ ((VZ.out.bM HB7.out).trans K12.out)
            clear hK K
            refine rd 10 (fun K hK=>?_)
            go_simp
            ((with_reducible refine(Xg.out _ (by first|exact aa.refl _ _|exact(aa.refl _ _).drew)).mono ?_));rintro e w13 ⟨rfl,hV13,k13⟩
            have ab9:=Mb hV13
            have K13:Hid (PK [B] b sb mb QA w13):=Mb (K12.out.trans (by first|exact Wb.out.jO k13|exact Wb.out.jO ((aa.refl [B] WG).drew.trans k13)))
            clear k13 hV13
            go_wp2_with fail
            refine hK.out _ _ ?_ (fun hHeld=>nm ?_)
            .exact T9.out _ ((VZ.out.bM HB7.out).trans K13.out)
            clear hK K
            refine tk 11 4 ?_
            exact M61
end Go.Proofs.YtdkimcnlhmhpgaaGreat

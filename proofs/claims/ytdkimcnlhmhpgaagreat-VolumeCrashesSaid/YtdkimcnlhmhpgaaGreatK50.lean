/- -/
import Derived.Test.YtdkimcnlhmhpgaaGreatK49
set_option maxHeartbeats 16000000
set_option maxRecDepth 100000
set_option linter.unusedVariables false
set_option linter.unusedSimpArgs false
namespace Go.Proofs.YtdkimcnlhmhpgaaGreat
open Go.RowKit
variable {v:VS} {T:List Nat} {w:World} {B b sb mb lo:Nat}
theorem sV (h:v.dead=true):cP v=(v,90):=by unfold cP;rw[if_pos h]
theorem mu (h:v.dead=false) (h1:(aG v.c).2≠0):cP v=(v,(aG v.c).2):=by unfold cP;rw[if_neg (by rw[h];simp),if_pos h1]
theorem mv (h:v.dead=false) (h1:(aG v.c).2=0) (h2:NI (Nk v) (Nv (aG v.c).1.length)≠0):cP v=(v,100):=by unfold cP;rw[if_neg (by rw[h];simp),if_neg (by rw[h1];simp),if_pos h2]
theorem ke (h:v.dead=false) (h1:(aG v.c).2=0) (h2:NI (Nk v) (Nv (aG v.c).1.length)=0):cP v=Oy (NO v.c (aG v.c).1 (Np (Nk v) (Nv (aG v.c).1.length)) v):=by
 unfold cP;rw[if_neg (by rw[h];simp),if_neg (by rw[h1];simp),if_neg (by rw[h2];simp)]
theorem rG (hV:ay T w B b sb mb lo v) (hF:yx 900 v) (ho:v.d.ops<=35000) (hw:v.d.waits.length<=700) (hn:v.d.stand.length<=100):
  Calls Tryz.prog 13 #[.pointer (some ⟨B,0,none⟩)] w (kZ T B b sb mb lo (cP v) w):=by
 obtain⟨hm,Pb,Qr,hseq,Zv⟩:=hF
 have Rn:=hm.1
 obtain⟨sv,vb,vm,vn,o,hr,N5⟩:=hV.vol
 obtain⟨⟨q1,m1,d1,rfl⟩,⟨q2,m2,d2,rfl⟩,⟨q3,m3,d3,rfl⟩⟩:=cO.nc N5
 obtain⟨RM,hRM⟩:∃R,Nk v=R:=⟨_,rfl⟩
 obtain⟨PO,hPO⟩:∃x,aG v.c=x:=⟨_,rfl⟩
 have Vi:Pl 0 RM:=by rw[<-hRM];exact lK _ _
 have W6:PO.1.length<=1000000:=by rw[<-hPO];exact xC N5.plain Pb (by unfold dj;omega)
 have PT:Hid (∀W,aa [] w W->Calls Tryz.prog 42 #[.pointer (some ⟨B,0,none⟩)] W fun e w'=>e=.returned (.int .i64 (if v.dead=true then 90 else 0))/\W=w'):=Mb (fun W k=>mX (hV.aJ k))
 have WO:Hid (∀W,aa [] w W->Calls Tryz.prog 52 #[.agg #[.int .u32 v.c.nextBox,.int .u32 v.c.nextMan,.slice q1 m1 d1,.slice q2 m2 d2,.slice q3 m3 d3]] W fun e w'=>e=.returned (.tuple #[.string (bs PO.1),.int .i64 PO.2])/\aa [] W w'):=Mb (fun W k=>by
  have:=Ez _ v.c W (N5.plain.kept0 k) Pb.small (by omega)
  unfold iu at this
  rw[hPO]at this
  exact this)
 have Ur:Hid (∀W,aa [] w W->Calls Tryz.prog 56 #[.pointer (some ⟨B,0,none⟩)] W (bG RM W)):=Mb (fun W k=>by rw[<-hRM];exact A9 (hV.aJ k) hm Pb (by omega))
 have Ys:=q8 (PO.1.length:Int)
 have V6:Hid (∀W u lo2 PD,af W u RM lo2 PD->Calls Tryz.prog 53 #[u,.int .i64 (Nv PO.1.length)] W (lu RM (Nv PO.1.length) W)):=Mb (fun W u lo2 PD h=>uF u RM _ lo2 PD W h (by have:=Vi.gV;omega) (fY Vi) (by omega) (by unfold Nv;split<;>omega))
 have Tl:Hid (∀W,Calls Tryz.prog 54 #[.int .i64 PO.1.length] W fun e w'=>e=.returned (.int .i64 (Nv PO.1.length))/\W=w'):=Mb (fun W=>nY _ W (ly (by omega) (by omega)))
 have hLC:NI RM (Nv (PO.1.length:Int))=0\/NI RM (Nv (PO.1.length:Int))=100:=by unfold NI;rw[if_neg (by omega)];split;exact Or.inr rfl;exact Or.inl rfl
 have ZJ:=Mb hLC
 have HSF:Hid (∀W rp rn rc,Calls Tryz.prog 55 #[.pointer (some ⟨B,0,none⟩),.agg #[.int .u32 v.c.nextBox,.int .u32 v.c.nextMan,.slice q1 m1 d1,.slice q2 m2 d2,.slice q3 m3 d3],.string (bs PO.1),.slice rp rn rc] W fun e w'=>e=.returned (.func (.func 113) #[] #[.pointer (some ⟨W.heap.size,0,none⟩),.pointer (some ⟨W.heap.size+2,0,none⟩),.pointer (some ⟨W.heap.size+3,0,none⟩),.pointer (some ⟨W.heap.size+1,0,none⟩)])/\(((W.alloc (.cells #[.pointer (some ⟨B,0,none⟩)] 27)).alloc (.cells #[.int .u32 v.c.nextBox,.int .u32 v.c.nextMan,.slice q1 m1 d1,.slice q2 m2 d2,.slice q3 m3 d3] 52)).alloc (.cells #[.string (bs PO.1)] 9)).alloc (.cells #[.slice rp rn rc] 56)=w'):=Mb (fun W rp rn rc=>wW B _ _ _ _ _ rp rn rc PO.1 W)
 have Oe:Hid (∀W,aa [] w W->W.cell? ⟨B,7,none⟩=some (.int .u32 v.c.nextBox)/\W.cell? ⟨B,8,none⟩=some (.int .u32 v.c.nextMan)/\W.cell? ⟨B,9,none⟩=some (.slice q1 m1 d1)/\W.cell? ⟨B,10,none⟩=some (.slice q2 m2 d2)/\W.cell? ⟨B,11,none⟩=some (.slice q3 m3 d3)):=Mb (fun W k=>by
  obtain⟨_,_,_,_,_,_,_,a7,a8,a9,a10,a11,_⟩:=(k.own o (by simp)).jC
  exact⟨a7,a8,a9,a10,a11⟩)
 have HV:=Mb hV
 have Qw:=Mb N5
 have HM:=Mb hm
 have OG:Hid (v.d.ops<=35000/\v.d.waits.length<=700/\v.d.stand.length<=100/\v.s.seq<=900):=Mb ⟨ho,hw,hn,hseq⟩
 have YC:=Mb W6
 have PG:=Mb hRM
 have SF:=Mb hPO
 have ade:(bs PO.1).size=PO.1.length:=Nj _
 have adL:(PO.1.length:Int)<=1000000:=by omega
 clear hm Pb Qr hseq Zv Rn hr N5 Vi W6 hV ho hw hn hRM hPO o Ys hLC
 unfold kZ
 cases hd:v.dead
 case true=>
  have HX:=Mb (sV hd)
  rw[hd,if_pos rfl]at PT
  clear hd
  go_enter Tryz.func13,Tryz.ntmps13
  go_wp2_with fail
  refine(PT.out _ (aa.refl _ _)).mono ?_;rintro e w1 ⟨rfl,rfl⟩
  go_wp2_with fail
  go_ret
  rw[HX.out]
  exact⟨rfl,HV.out,PK.refl _ _ _ _ _⟩
 case false=>
  have HD:=Mb hd
  rw[hd,if_neg (by simp)]at PT
  clear hd
  obtain⟨y7,y8,y9,y10,y11⟩:=Oe.out w (aa.refl _ _)
  go_enter Tryz.func13,Tryz.ntmps13
  go_wp2_with fail
  refine(PT.out _ (aa.refl _ _)).mono ?_;rintro e w1 ⟨rfl,rfl⟩
  go_wp2_with fail
  refine(WO.out _ (aa.refl _ _)).mono ?_;rintro e w2 ⟨rfl,k2⟩
  have Rq:=Mb k2
  clear k2 y7 y8 y9 y10 y11
  by_cases hp:PO.2=0
  case neg=>
   have HX:=Mb (mu HD.out (by rw[SF.out];exact hp))
   rw[SF.out]at HX
   have e1:(PO.2==0)=false:=by rw[ME];exact hp
   clear hp
   go_wp2_with fail
   go_ret
   rw[HX.out]
   exact⟨rfl,HV.out.aJ Rq.out,Rq.out.bM HV.out.aQ⟩
  case pos=>
   have HP0:=Mb hp
   have e1:(PO.2==0)=true:=by rw[hp];rfl
   clear hp
   go_wp2_with fail
   refine(Ur.out _ Rq.out).mono ?_;rintro e w3 ⟨u3,rfl,Rg,k3⟩
   have Ro:=Mb (Rq.out.trans k3)
   have abR:=Mb Rg
   clear k3 Rg
   go_wp2_with fail
   refine(Tl.out _).mono ?_;rintro e w4 ⟨rfl,rfl⟩
   go_wp2_with fail
   refine(V6.out _ _ _ _ (af.bo abR.out)).mono ?_;rintro e w5 ⟨u5,rfl,Od,k5⟩
   have Sb:=Mb (Ro.out.trans k5)
   have UX:=Mb Od
   have Vj:Hid (w.heap.size<=w3.heap.size):=Mb Ro.out.size
   clear k5
   rcases ZJ.out with Py|Py
   case inr=>
    have HX:=Mb (mv HD.out (by rw[SF.out];exact HP0.out) (by rw[PG.out,SF.out,Py];decide))
    rw[Py]
    obtain⟨pU,cU,rfl⟩:=ai Od
    clear Py Od
    go_wp2_with fail
    go_ret
    rw[HX.out]
    exact⟨rfl,HV.out.aJ Sb.out,Sb.out.bM HV.out.aQ⟩
   case inl=>
    have HX:=Mb (ke HD.out (by rw[SF.out];exact HP0.out) (by rw[PG.out,SF.out];exact Py))
    rw[PG.out,SF.out]at HX
    have hmb:(bZ v.s PO.1.length (Np RM (Nv (PO.1.length:Int)))).may:=mz HM.out Py (fun k hk=>by
     have h1:=hk
     rw[<-PG.out]at h1
     have h2:=dI h1
     exact⟨h2.1,h2.2.1⟩)
    have Yy:=Mb hmb
    have VH:OZ RM (Nv (PO.1.length:Int))=Np RM (Nv (PO.1.length:Int)):=by unfold OZ;rw[if_pos Py]
    rw[VH]at Od UX
    rw[Py]
    obtain⟨pU,cU,rfl⟩:=ai Od
    clear Py Od hmb VH
    generalize hL:Np RM (Nv (PO.1.length:Int))=NR at*
    obtain⟨y7,y8,y9,y10,y11⟩:=Oe.out w5 Sb.out
    go_wp2_with fail
    refine(HSF.out _ _ _ _).mono ?_;rintro e w6 ⟨rfl,rfl⟩
    go_wp2_with fail
    obtain⟨o1,o2,o3,o4⟩:=jP w5 #[.pointer (some ⟨B,0,none⟩)] #[.int .u32 v.c.nextBox,.int .u32 v.c.nextMan,.slice q1 m1 d1,.slice q2 m2 d2,.slice q3 m3 d3] #[.string (bs PO.1)] #[.slice pU NR.length cU] 27 52 9 56
    have k6:aa [] w5 ((((w5.alloc (.cells #[.pointer (some ⟨B,0,none⟩)] 27)).alloc (.cells #[.int .u32 v.c.nextBox,.int .u32 v.c.nextMan,.slice q1 m1 d1,.slice q2 m2 d2,.slice q3 m3 d3] 52)).alloc (.cells #[.string (bs PO.1)] 9)).alloc (.cells #[.slice pU NR.length cU] 56)):=((((aa.refl [] w5).alloc _).alloc _).alloc _).alloc _
    generalize ((((w5.alloc (.cells #[.pointer (some ⟨B,0,none⟩)] 27)).alloc (.cells #[.int .u32 v.c.nextBox,.int .u32 v.c.nextMan,.slice q1 m1 d1,.slice q2 m2 d2,.slice q3 m3 d3] 52)).alloc (.cells #[.string (bs PO.1)] 9)).alloc (.cells #[.slice pU NR.length cU] 56))=w6 at*
    have k06:aa [] w w6:=Sb.out.trans k6
    have abd:w6.ownsRow w3.heap.size 128 2 (.slice pU NR.length cU) NR.length (No NR):=au UX.out k6 (fun x hx=>by cases hx)
    have Sj:b8 T w6 b sb mb (.slice pU NR.length cU) NR:=(af.bo abd).new HV.out.da HV.out.hT k06 Vj.out
    have aaG:w.heap.size<=w5.heap.size:=Sb.out.size
    have ON:∀g,w.heap.size<=g->aW [B] w6 b sb mb g:=fun g hg=>(HV.out.da.bh HV.out.hT k06 hg).vh HV.out.hB
    have Q6:=wX w5.heap.size (w5.heap.size+2) (w5.heap.size+3) (w5.heap.size+1) v.c (.slice q1 m1 d1) (.slice q2 m2 d2) (.slice q3 m3 d3) PO.1 (.slice pU NR.length cU) NR (HV.out.aJ k06) (fun W k=>by
     obtain⟨d0,d1,d2,d3,d4⟩:=(k.own o2 (ON _ (by omega))).k5
     exact⟨(k.own o1 (ON _ (by omega))).cell 0 (by simp),(k.own o3 (ON _ (by omega))).cell 0 (by simp),(k.own o4 (ON _ (by omega))).cell 0 (by simp),d0,d1,d2,d3,d4⟩) (Qw.out.kept0 k06 HV.out.aQ) Sj (by rw[<-hL];exact fR _ _) Yy.out HM.out (by have:=OG.out.2.2.2;omega) (by have:=YC.out;omega) (by have:=OG.out.1;omega) (by have:=OG.out.2.1;omega) (by have:=OG.out.2.2.1;omega)
    have acO:=Mb k06
    clear o1 o2 o3 o4 k6 k06 abd Sj aaG ON y7 y8 y9 y10 y11
    generalize NO v.c PO.1 NR v=CH at*
    refine Q6.mono ?_;rintro e w7 ⟨rfl,YI,k7⟩
    have TN:=Mb YI
    have PL:=Mb ((acO.out.bM HV.out.aQ).trans k7)
    clear YI k7
    go_wp2_with fail
    refine(wV TN.out CH.2).mono ?_;rintro e w8 ⟨rfl,hV8,k8⟩
    have HV8:=Mb hV8
    have YV:=Mb (PL.out.trans (TN.out.jO k8))
    clear hV8 k8
    go_wp2_with fail
    go_ret
    rw[HX.out]
    exact⟨rfl,HV8.out,YV.out⟩
theorem GO (hV:ay T w B b sb mb lo v) (hm:v.s.may) (hc:aM v.c) (hf:v.c.boxes.length+v.c.mans.length+v.c.names.length<=5000):
  Calls Tryz.prog 17 #[.pointer (some ⟨B,0,none⟩)] w fun e w'=>e=.returned (.int .i64 (Oc (Nk v)))/\aa [] w w':=by
 have HR:=Mb (A9 hV hm hc hf)
 have hp:Pl 0 (Nk v):=lK _ _
 have HC:Hid (∀W u OD On,af W u (Nk v) OD On->Calls Tryz.prog 65 #[u] W fun e w'=>e=.returned (.int .i64 (Oc (Nk v)))/\aa [] W w'):=Mb (fun W u OD On h=>CN u _ OD On W h (by have:=hp.gV;omega) (fY hp))
 obtain⟨sv,vb,vm,vn,o,_,_⟩:=hV.vol
 obtain⟨x0,x1,x2,x3,x4,x5,x6,x7,x8,x9,x10,x11,x12⟩:=o.jC
 clear hV hm hc hf hp o x1 x2 x3 x4 x5 x6 x7 x8 x9 x10 x11 x12
 go_enter Tryz.func17,Tryz.ntmps17
 go_wp2_with fail
 refine(HR.out).mono ?_;intro e w2 hg
 obtain⟨u,rfl,hu,k2⟩:=hg.runs
 have HU:=Mb hu
 have K2:=Mb k2
 obtain⟨p,c,rfl⟩:=hu.shape
 clear hu k2 hg
 go_wp2_with fail
 refine(HC.out _ _ _ _ HU.out).mono ?_;rintro e w3 ⟨rfl,k3⟩
 have K3:=Mb (K2.out.trans k3)
 clear k3
 go_wp2_with fail
 go_ret
 exact⟨rfl,K3.out⟩
theorem oN {p:Nf->Bool} {l:List Nf} {x:Nf} (h:NM p l=(x,true)):x∈l:=by
 unfold NM at h
 cases hf:l.find? p with
 |none=>rw[hf]at h;cases h
 |some y=>
  rw[hf]at h
  injection h with h _
  subst h
  exact List.mem_of_find?_eq_some hf
theorem iW {v:Value} {l:List (Int×Int)} {hi:Nat} {t:TypeId} (h:af (w.alloc (.cells #[.int .u32 0,.string {data:=#[]},.int .i64 0,.slice none 0 0] t)) v l lo hi):af w v l 0 w.heap.size:=by
 rcases h with h|⟨b,off,c,e,h2,h3,h4,h5,h6,h7⟩
 .exact Or.inl h
 .have k:=(aa.refl [] w).alloc (.cells #[.int .u32 0,.string {data:=#[]},.int .i64 0,.slice none 0 0] t)
  have O4:(w.alloc (.cells #[.int .u32 0,.string {data:=#[]},.int .i64 0,.slice none 0 0] t)).heap.size=w.heap.size+1:=by simp
  by_cases hb:b<w.heap.size
  .refine Or.inr ⟨b,off,c,e,fun i hi=>?_,Mu _,hb,Md _,h6,h7⟩
   rw[<-k.cell (a:=⟨b,off+i*2,none⟩) hb (by simp),<-k.cell (a:=⟨b,off+i*2+1,none⟩) hb (by simp)]
   exact h2 i hi
  .exfalso
   have Xq:b=w.heap.size:=by omega
   subst Xq
   have o:=ae.new w #[.int .u32 0,.string {data:=#[]},.int .i64 0,.slice none 0 0] t
   obtain⟨c0,c1,c2,c3⟩:=o.c4
   have hp:0<l.length:=MH.2 h6
   obtain⟨g0,g1⟩:=h2 0 hp
   rw[Nat.zero_mul,Nat.add_zero]at g0 g1
   match off,g0,g1 with
   |0,g0,_=>rw[c0]at g0;simp at g0
   |1,g0,_=>rw[c1]at g0;simp at g0
   |2,_,g1=>rw[c3]at g1;simp at g1
   |3,g0,_=>rw[c3]at g0;simp at g0
   |n+4,g0,_=>
    have hn:(w.alloc (.cells #[.int .u32 0,.string {data:=#[]},.int .i64 0,.slice none 0 0] t)).cell? ⟨w.heap.size,n+4,none⟩=none:=by
     have h':(w.alloc (.cells #[.int .u32 0,.string {data:=#[]},.int .i64 0,.slice none 0 0] t)).heap[w.heap.size]? =some (.cells #[.int .u32 0,.string {data:=#[]},.int .i64 0,.slice none 0 0] t (0,0)):=o
     unfold World.cell?
     simp only
     rw[h']
     simp
    rw[hn]at g0;cases g0
def wA (T:List Nat) (B b sb mb lo:Nat) (R:List UInt8×Int×VS) (w:World) (e:Ending) (w':World):Prop:=
 e=.returned (.tuple #[.string (bs R.1),.int .i64 R.2.1])/\ay T w' B b sb mb lo R.2.2/\aa [B] w w'
theorem M62 {A:Prop}(h:A:=by
 unfold cH
 rw[if_neg (by rw[hd];simp),if_neg (by simp),Tt]):A:=h
theorem JC (id:Int) (nm:List UInt8) (hV:ay T w B b sb mb lo v) (hc:aM v.c) (hd:v.dead=false):
  Calls Tryz.prog 15 #[.pointer (some ⟨B,0,none⟩),.int .i64 3,.int .u32 id,.string (bs nm)] w (wA T B b sb mb lo (cH v 3 id nm) w):=by
 have PT:=Mb (mX hV)
 rw[hd,if_neg (by simp)]at PT
 have Tt:fi v.c 3 id nm=NM (fun x=>x.name==nm) v.c.names:=by unfold fi;rw[if_neg (by decide),if_neg (by decide)]
 have PF:cH v 3 id nm=if(NM (fun x=>x.name==nm) v.c.names).2=false then([],6,v)else(Ov v.d (NM (fun x=>x.name==nm) v.c.names).1.runs (NM (fun x=>x.name==nm) v.c.names).1.size,Nr v.d (NM (fun x=>x.name==nm) v.c.names).1.runs (NM (fun x=>x.name==nm) v.c.names).1.size,⟨v.d,v.s,v.c,Nr v.d (NM (fun x=>x.name==nm) v.c.names).1.runs (NM (fun x=>x.name==nm) v.c.names).1.size==90⟩):=by
  exact M62
 obtain⟨sv,vb,vm,vn,o,_,N5⟩:=hV.vol
 have HF:Hid (∀W,aa [] w W->Calls Tryz.prog 59 #[.agg #[.int .u32 v.c.nextBox,.int .u32 v.c.nextMan,vb,vm,vn],.string (bs nm)] W (dN W (NM (fun x=>x.name==nm) v.c.names) W)):=Mb (fun W k=>te _ _ v.c W (N5.plain.kept0 k) hc.small)
 have HO:Hid (∀W,aa [] w W->W.cell? ⟨B,0,none⟩=some (.pointer (some ⟨b,0,none⟩))):=Mb (fun W k=>(k.own o (by simp)).cell 0 (by simp[bf]))
 have hlen:∀x,NM (fun x=>x.name==nm) v.c.names=(x,true)->x.runs.length<=16:=fun x hx=>eV (hc.names.2.1 x (oN hx))
 have HG:Hid (∀(W:World) (u:Value) (OD On:Nat) (x:Nf),aa [] w W->af W u x.runs OD On->x.fits->(∀a∈x.runs,aU a)->x.runs.length<=16->Calls Tryz.prog 60 #[.pointer (some ⟨b,0,none⟩),u,.int .i64 x.size] W fun e w'=>e=.returned (.tuple #[.string (bs (Ov v.d x.runs x.size)),.int .i64 (Nr v.d x.runs x.size)])/\aa [] W w'):=Mb (fun W u OD On (x:Nf) k h1 h2 h3 h4=>ux u x.runs x.size OD On (hV.da.aJ k) h1 (by omega) h3 h2.2.2)
 have HT:Hid (∀W c,aa [] w W->(Lit.int .i64 c).wf=true->Calls Tryz.prog 51 #[.pointer (some ⟨B,0,none⟩),.int .i64 c] W fun e w'=>e=.returned (.int .i64 c)/\ay T w' B b sb mb lo ⟨v.d,v.s,v.c,c==90⟩/\aa [B] W w'):=Mb (fun W c k XI=>by
  have h:=KG (hV.aJ k) c XI
  unfold Oy at h
  rw[hd,Bool.false_or]at h
  exact h)
 have HV:=Mb hV
 have XF:Hid (∀W,aa [] w W->W.cell? ⟨B,0,none⟩=some (.pointer (some ⟨b,0,none⟩))/\W.cell? ⟨B,7,none⟩=some (.int .u32 v.c.nextBox)/\W.cell? ⟨B,8,none⟩=some (.int .u32 v.c.nextMan)/\W.cell? ⟨B,9,none⟩=some vb/\W.cell? ⟨B,10,none⟩=some vm/\W.cell? ⟨B,11,none⟩=some vn):=Mb (fun W k=>by
  obtain⟨a0,_,_,_,_,_,_,a7,a8,a9,a10,a11,_⟩:=(k.own o (by simp)).jC
  exact⟨a0,a7,a8,a9,a10,a11⟩)
 obtain⟨x0,x7,x8,x9,x10,x11⟩:=XF.out (w.alloc (.cells #[.int .u32 0,.string {data:=#[]},.int .i64 0,.slice none 0 0] 113)) ((aa.refl [] w).alloc _)
 rw[PF]
 have Oa:=Mb hlen
 have VE:Hid (∀l n,(Lit.int .i64 (Nr v.d l n)).wf=true):=Mb (fun l n=>by unfold Nr;split;split;decide;decide;decide)
 clear hV hc hd Tt PF N5 hlen o
 generalize NM (fun x=>x.name==nm) v.c.names=X at*
 obtain⟨X,there⟩:=X
 have VX:=ae.new w #[.int .u32 0,.string {data:=#[]},.int .i64 0,.slice none 0 0] 113
 have Uo:=Mb VX
 clear VX
 cases there
 .simp only[if_true]
  go_enter Tryz.func15,Tryz.ntmps15
  go_wp2_with fail
  refine PT.out.mono ?_;rintro e w2 ⟨rfl,rfl⟩
  go_wp2_with fail
  refine(HF.out _ ?_).mono ?_
  .exact(aa.refl _ _).alloc _
  rintro e w3 ⟨kv,rfl,OJ,k3⟩
  obtain⟨pk,ck,ekv⟩:∃p c,kv=.slice p X.runs.length c:=OJ.1.shape
  subst ekv
  unfold Nf.cells
  have ox:=k3.own Uo.out (by simp)
  obtain⟨y0,y1,y2,y3⟩:=ox.c4
  obtain⟨z0,z1,z2,z3⟩:=ox.z4
  have kk:=((aa.refl [] w).alloc (.cells #[.int .u32 0,.string {data:=#[]},.int .i64 0,.slice none 0 0] 113)).trans k3
  have kf:=(((kk.setCell (p:=⟨w.heap.size,0,none⟩) (Or.inr (Md _)) (.int .u32 X.id)).setCell (p:=⟨w.heap.size,1,none⟩) (Or.inr (Md _)) (.string (bs X.name))).setCell (p:=⟨w.heap.size,2,none⟩) (Or.inr (Md _)) (.int .i64 X.size)).setCell (p:=⟨w.heap.size,3,none⟩) (Or.inr (Md _)) (.slice pk X.runs.length ck)
  have KF:=Mb kf
  clear ox kk kf k3 OJ
  go_wp2_with fail
  go_ret2
  exact⟨rfl,HV.out.aJ KF.out,KF.out.mono (by simp)⟩
 .simp only[Bool.true_eq_false,if_false]
  have Rm:=Oa.out X rfl
  have Z5:=Mb Rm
  clear Rm
  go_enter Tryz.func15,Tryz.ntmps15
  go_wp2_with fail
  refine PT.out.mono ?_;rintro e w2 ⟨rfl,rfl⟩
  go_wp2_with fail
  refine(HF.out _ ?_).mono ?_
  .exact(aa.refl _ _).alloc _
  rintro e w3 ⟨kv,rfl,OJ,k3⟩
  obtain⟨pk,ck,ekv⟩:∃p c,kv=.slice p X.runs.length c:=OJ.1.shape
  subst ekv
  unfold Nf.cells
  have ox:=k3.own Uo.out (by simp)
  obtain⟨y0,y1,y2,y3⟩:=ox.c4
  obtain⟨z0,z1,z2,z3⟩:=ox.z4
  have kk:=((aa.refl [] w).alloc (.cells #[.int .u32 0,.string {data:=#[]},.int .i64 0,.slice none 0 0] 113)).trans k3
  have Sg:=Mb kk
  obtain⟨ok1,ok2,ok3⟩:=OJ
  have aag:=Mb ok1
  have TH:=Mb ok2
  have aax:=Mb ok3
  have ZK:=Mb ox
  have Ro:=Mb k3
  clear ox kk k3 ok1 ok2 ok3
  go_upto_region 16 with fail
  have kf:=(((Sg.out.setCell (p:=⟨w.heap.size,0,none⟩) (Or.inr (Md _)) (.int .u32 X.id)).setCell (p:=⟨w.heap.size,1,none⟩) (Or.inr (Md _)) (.string (bs X.name))).setCell (p:=⟨w.heap.size,2,none⟩) (Or.inr (Md _)) (.int .i64 X.size)).setCell (p:=⟨w.heap.size,3,none⟩) (Or.inr (Md _)) (.slice pk X.runs.length ck)
  have of:ae ((((w3.setCell ⟨w.heap.size,0,none⟩ (.int .u32 X.id)).setCell ⟨w.heap.size,1,none⟩ (.string (bs X.name))).setCell ⟨w.heap.size,2,none⟩ (.int .i64 X.size)).setCell ⟨w.heap.size,3,none⟩ (.slice pk X.runs.length ck)) w.heap.size #[.int .u32 X.id,.string (bs X.name),.int .i64 X.size,.slice pk X.runs.length ck] 113:=(((ZK.out.set 0 (.int .u32 X.id)).set 1 (.string (bs X.name))).set 2 (.int .i64 X.size)).set 3 (.slice pk X.runs.length ck)
  generalize ((((w3.setCell ⟨w.heap.size,0,none⟩ (.int .u32 X.id)).setCell ⟨w.heap.size,1,none⟩ (.string (bs X.name))).setCell ⟨w.heap.size,2,none⟩ (.int .i64 X.size)).setCell ⟨w.heap.size,3,none⟩ (.slice pk X.runs.length ck))=w4 at*
  have YO:=(iW aag.out).kept0 kf
  have VP:=Mb YO
  have KF:=Mb kf
  have HOF:=Mb of
  have Uh:Hid (∀W,aa [] w4 W->W.cell? ⟨B,0,none⟩=some (.pointer (some ⟨b,0,none⟩))/\W.cell? ⟨w.heap.size,2,none⟩=some (.int .i64 X.size)/\W.cell? ⟨w.heap.size,3,none⟩=some (.slice pk X.runs.length ck)):=Mb (fun W k=>by
   obtain⟨_,_,e2,e3⟩:=(k.own HOF.out (by simp)).c4
   exact⟨HO.out W (KF.out.trans k),e2,e3⟩)
  clear of kf YO y0 y1 y2 y3 z0 z1 z2 z3 x0 x7 x8 x9 x10 x11
  obtain⟨y0,y1,y2⟩:=Uh.out w4 (aa.refl _ _)
  refine Ml (S:=(fun W=>W.cell? ⟨B,0,none⟩=some (.pointer (some ⟨b,0,none⟩))/\W.cell? ⟨w.heap.size,2,none⟩=some (.int .i64 X.size)/\W.cell? ⟨w.heap.size,3,none⟩=some (.slice pk X.runs.length ck))) (by kernel_rfl) (by exact Uh.out _ ((aa.refl [] w4).drew)) (fun hHeld=>?_)
  refine tk 0 57 ?_
  refine tk 1 58 ?_
  refine tk 2 59 ?_
  refine tk 3 60 ?_
  refine tk 4 61 ?_
  refine tk 5 62 ?_
  refine tk 6 63 ?_
  refine tk 7 64 ?_
  refine rd 8 (fun K hK=>?_)
  go_simp
  ((with_reducible refine(HG.out _ _ _ _ X ((KF.out).drew) (VP.out.kept0 ((aa.refl [] w4).drew)) TH.out aax.out Z5.out).mono ?_));rintro e w5 ⟨rfl,k5⟩
  have Ra:=((aa.refl [] w4).drew).trans k5
  have K5:=Mb Ra
  clear Ra k5
  go_wp2_with fail
  refine hK.out _ _ ?_ (fun hHeld=>Go.Proofs.YtdkimcnlhmhpgaaGreat.nm ?_)
  .exact Uh.out _ K5.out
  clear hK K
  refine tk 9 56 ?_
  refine tk 10 66 ?_
  refine tk 11 67 ?_
  refine tk 12 13 ?_
  refine tk 13 14 ?_
  refine MM (by kernel_rfl) ?_ _
  try simp only[List.set_cons_succ,List.set_cons_zero]
  have KW:=Mb (KF.out.trans K5.out)
  have TZ:=VE.out X.runs X.size
  have HT5:=Mb (HT.out w5 _ (KF.out.trans K5.out) TZ)
  clear TZ y0 y1 y2
  generalize Nr v.d X.runs X.size=GC at*
  generalize Ov v.d X.runs X.size=GX at*
  go_wp2_with fail
  refine HT5.out.mono ?_;rintro e w6 ⟨rfl,hV6,k6⟩
  have HV6:=Mb hV6
  have K6:=Mb ((KW.out.mono (by simp)).trans k6)
  clear hV6 k6
  go_wp2_with fail
  go_ret2
  exact⟨rfl,HV6.out,K6.out⟩
end Go.Proofs.YtdkimcnlhmhpgaaGreat
namespace Go.Proofs.YtdkimcnlhmhpgaaGreat
open Go.ChangeShapes Go.WideShapes Go.ChangeAt Go.RowKit Go.Deep
variable {w w':World} {v:Value} {lo hi:Nat}
def VC.wJ (x:VC):Prop:=(Lit.int .i64 x.kind).wf=true/\(Lit.int .u32 x.id).wf=true/\x.name.length<=maxLen/\x.bytes.length<=maxLen
def s7 (w:World) (cs:List Value) (x:VC):Prop:=cs=[.int .i64 x.kind,.int .u32 x.id,.string (bs x.name),.string (bs x.bytes)]/\x.wJ
def dC (w:World) (v:Value) (l:List VC) (lo hi:Nat):Prop:=aZ 4 s7 w v l lo hi
variable {l:List VC}
theorem dC.kept {S:List Nat} (h:dC w v l lo hi) (k:aa S w w') (hS:∀x∈S,x<lo\/hi<=x):dC w' v l lo hi:=aZ.kept h k hS (fun cs a h=>h)
theorem dC.kept0 (h:dC w v l lo hi) (k:aa [] w w'):dC w' v l lo hi:=h.kept k (fun x hx=>by cases hx)
theorem dC.at_ {p:Option Addr} {n c:Nat} (h:dC w (.slice p n c) l lo hi) (i:Nat) (hi':i<l.length):
  ∃b off,p=some ⟨b,off,none⟩/\w.cell? ⟨b,off+i*4,none⟩=some (.int .i64 l[i].kind)/\w.cell? ⟨b,off+i*4+1,none⟩=some (.int .u32 l[i].id)/\w.cell? ⟨b,off+i*4+2,none⟩=some (.string (bs l[i].name))/\w.cell? ⟨b,off+i*4+3,none⟩=some (.string (bs l[i].bytes))/\b<w.heap.size/\l[i].wJ:=by
 obtain⟨b,off,cs,e1,e2,⟨rfl,e4⟩,e6,e7,e8,e9⟩:=aZ.at_ h i hi'
 exact⟨b,off,e1,e6 0 _ rfl,e6 1 _ rfl,e6 2 _ rfl,e6 3 _ rfl,by omega,e4⟩
instance:Inhabited VC:=⟨⟨0,0,[],[]⟩⟩
section
variable {H:Type} {enc:TypeId×Value->H} {w:World} {base:Nat} {held:Bool} {r:Reach} {b0:Nat}
theorem uG {fuel:Nat} {c:Value} {x:DataW H×List MemPlace} (h:DataW.trod enc Tryz.prog w base (fun _=>true) held fuel 39 [c]=some x):
  ∃l,eA w c l 0 w.heap.size:=by
 rcases Go.Deep.open_bools Tryz.underlying39 Tryz.underlying4 (by kernel_rfl) h with⟨e,_⟩|⟨a,len,cap,B,e,_,hl,hm,_,hx⟩
 .injection e with e
  exact⟨[],Or.inl ⟨rfl,_,_,e⟩⟩
 .injection e with e
  subst e
  by_cases h0:len=0
  .subst h0;exact⟨[],Or.inl ⟨rfl,_,_,rfl⟩⟩
  .obtain⟨b,off,spot⟩:=a
   have Wo:spot=none:=by simpa[Addr.add]using World.cell?_spot (hx 0 (by omega))
   subst Wo
   have hb:b<w.heap.size:=by
    have:=hx 0 (by omega)
    rw[My]at this
    exact World.block_lt_of_cell? _ _ this
   refine⟨(List.range len).map B,Or.inr ⟨b,off,cap,by simp,fun i hi=>?_,Mu _,hb,Md _,fun e=>?_,by simpa using hl,hm⟩⟩
   .have hi':i<len:=by simpa using hi
    have:=hx i (by omega)
    rw[My]at this
    rw[this]
    simp
   .have:=congrArg List.length e
    simp at this;omega
theorem za {fuel:Nat} {cs:List Value} {y:DataW H×List MemPlace} (h:DataW.trod enc Tryz.prog w base (fun _=>true) held fuel 110 cs=some y) (hl:cs.length=4):
  ∃a,s7 w cs a:=by
 have Rt:Tryz.prog.cellsOf 31=1:=by kernel_rfl
 have Th:Tryz.prog.cellsOf 32=1:=by kernel_rfl
 have VJ:Tryz.prog.cellsOf 9=1:=by kernel_rfl
 match cs,hl with
 |[c0,c1,c2,c3],_=>
  obtain⟨xs,n,_,_,_,hlen,hi⟩:=DataW.trod_struct Tryz.underlying110 h
  match xs,hlen with
  |[y0,y1,y2,y3],_=>
   have g0:=hi 0 _ rfl
   have g1:=hi 1 _ rfl
   have g2:=hi 2 _ rfl
   have g3:=hi 3 _ rfl
   simp only[Rt,Th,VJ,List.getElem?_cons_succ,List.getElem?_cons_zero,List.drop_succ_cons,List.drop_zero,List.take_succ_cons,List.take_zero]at g0 g1 g2 g3
   obtain⟨a0,e0,_,w0⟩:=DataW.trod_int Tryz.underlying31 g0
   obtain⟨a1,e1,_,w1⟩:=DataW.trod_int Tryz.underlying32 g1
   obtain⟨a2,e2,_,w2⟩:=DataW.trod_string Tryz.underlying9 g2
   obtain⟨a3,e3,_,w3⟩:=DataW.trod_string Tryz.underlying9 g3
   injection e0 with e0;injection e1 with e1;injection e2 with e2;injection e3 with e3
   subst e0 e1 e2 e3
   refine⟨⟨a0,a1,a2.data.toList,a3.data.toList⟩,by rw[oU,oU],w0,w1,?_,?_⟩
   .show a2.data.toList.length<=maxLen
    simpa using w2
   .show a3.data.toList.length<=maxLen
    simpa using w3
theorem qe {fuel:Nat} {c:Value} {x:DataW H×List MemPlace} (h:DataW.trod enc Tryz.prog w base (fun _=>true) held fuel 36 [c]=some x):∃l,dC w c l 0 w.heap.size:=
 pY (R:=s7) Tryz.underlying36 (by kernel_rfl) (by omega) (fun n cs y=>za) h
theorem open_vbools {d:DataW H} {p:List MemPlace} (hv:Value.okWide Tryz.prog w r b0 39 v) (h:DataW.Trod enc Tryz.prog w base (fun _=>true) held 39 v d p):∃l,eA w v l 0 w.heap.size:=by
 obtain⟨a0,len,cap,rfl⟩:=okWide_slice Tryz.underlying39 hv
 obtain⟨fuel,hf⟩:=h
 exact uG (by simpa[Value.cells]using hf)
theorem open_rchs {d:DataW H} {p:List MemPlace} (hv:Value.okWide Tryz.prog w r b0 36 v) (h:DataW.Trod enc Tryz.prog w base (fun _=>true) held 36 v d p):∃l,dC w v l 0 w.heap.size:=by
 obtain⟨a0,len,cap,rfl⟩:=okWide_slice Tryz.underlying36 hv
 obtain⟨fuel,hf⟩:=h
 exact qe (by simpa[Value.cells]using hf)
end
end Go.Proofs.YtdkimcnlhmhpgaaGreat

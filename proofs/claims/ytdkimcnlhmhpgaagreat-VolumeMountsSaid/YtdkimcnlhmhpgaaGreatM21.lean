/- -/
import Derived.Test.YtdkimcnlhmhpgaaGreatM20
set_option maxHeartbeats 32000000
set_option maxRecDepth 100000
namespace Go.Proofs.YtdkimcnlhmhpgaaGreat
open Go.Proofs.Tryz Go.RowKit
variable {w w0 w' w1:World} {b rb:Nat} {S:List Nat} {v:Value} {l:List (Int×Int)}
def aE (w0 w:World) (v:Value) (l:List (Int×Int)):Prop:=w.ownsRow w0 128 2 v l.length (NW l)
structure dR (w wx:World) (b rb ob xb:Nat) (k:Int) (i:Nat) (t:List UInt8) (z:Nat) (v:Value) (rs:List (Int×Int)) (l:List UInt8) (x:Int):Prop where
 rd:aP wx b l x
 box:ae wx rb #[b] 255
 out:ae wx ob #[(0:Int),.int .u32 0,.string {data:=#[]},(0:Int),()] 102
 rcd:ae wx xb #[k,(i,()),t,(z:Int),v] 102
 row:aE w wx v rs
 kept:NP [b] w wx
 hb:b<w.heap.size
 hrb:w.heap.size<=rb
 hob:w.heap.size<=ob
 hxb:w.heap.size<=xb
 n1:rb≠ob
 n2:rb≠xb
 n3:ob≠xb
theorem ae.lj {x0 x1 x2 x3 x4:Value} {t:TypeId} (h:ae w b #[x0,x1,x2,x3,x4] t) (y0 y1 y2 y3 y4:Value):
  ae (((((w.setCell b y0).setCell (aa b 1) y1).setCell (aa b 2) y2).setCell (aa b 3) y3).setCell (aa b 4) y4) b #[y0,y1,y2,y3,y4] t:=by
 have:=((((h.set 0 y0).set 1 y1).set 2 y2).set 3 y3).set 4 y4
 simpa using this
theorem NP.lj {a:World} (h:NP S a w) (hp:b∈S\/a.heap.size<=b) (y0 y1 y2 y3 y4:Value):NP S a (((((w.setCell b y0).setCell (aa b 1) y1).setCell (aa b 2) y2).setCell (aa b 3) y3).setCell (aa b 4) y4):=
 ((((h.setCell (p:=b) hp y0).setCell (p:=(aa b 1)) hp y1).setCell (p:=(aa b 2)) hp y2).setCell (p:=(aa b 3)) hp y3).setCell (p:=(aa b 4)) hp y4
section
variable {w wx wy:World} {b rb ob xb:Nat} {k:Int} {i:Nat} {t:List UInt8} {z:Nat} {v:Value} {rs:List (Int×Int)} {l l':List UInt8} {x x':Int}
theorem dR.ptr (h:dR w wx b rb ob xb k i t z v rs l x):wx.cell? rb=b:=h.box.cell 0 _b
theorem dR.read (h:dR w wx b rb ob xb k i t z v rs l x) (hR:aP wy b l' x') (kk:NP [b] wx wy):dR w wy b rb ob xb k i t z v rs l' x' where
 rd:=hR
 box:=kk.own h.box (by have:=h.hb;have:=h.hrb;simp;omega)
 out:=kk.own h.out (by have:=h.hb;have:=h.hob;simp;omega)
 rcd:=kk.own h.rcd (by have:=h.hb;have:=h.hxb;simp;omega)
 row:=ax h.row kk (by have:=h.hb;simp;omega)
 kept:=h.kept.call kk _b
 hb:=h.hb
 hrb:=h.hrb
 hob:=h.hob
 hxb:=h.hxb
 n1:=h.n1
 n2:=h.n2
 n3:=h.n3
theorem dR.keep (h:dR w wx b rb ob xb k i t z v rs l x) (kk:NP [] wx wy):dR w wy b rb ob xb k i t z v rs l x:=
 h.read (kk.own h.rd _b) (kk.mono _b)
theorem dR.set (h:dR w wx b rb ob xb k i t z v rs l x) (j:Nat) (u:Value) (k':Int) (i':Nat) (t':List UInt8) (z':Nat)
  (e:(#[.int .i64 k,.int .u32 i,.string (bs t),.int .i64 z,v]:Array Value).setIfInBounds j u=#[.int .i64 k',.int .u32 i',.string (bs t'),.int .i64 z',v]):
  dR w (wx.setCell (aa xb j) u) b rb ob xb k' i' t' z' v rs l x where
 rd:=ae.other h.rd (p:=(aa xb j)) _I u
 box:=h.box.other (p:=(aa xb j)) h.n2 u
 out:=h.out.other (p:=(aa xb j)) h.n3 u
 rcd:=by rw[<-e];exact h.rcd.set j u
 row:=bT h.row (p:=(aa xb j)) (aB h.row h.rcd _d) u
 kept:=h.kept.setCell (p:=(aa xb j)) (Or.inr h.hxb) u
 hb:=h.hb
 hrb:=h.hrb
 hob:=h.hob
 hxb:=h.hxb
 n1:=h.n1
 n2:=h.n2
 n3:=h.n3
end
theorem dR.more {w4 w5:World} {ob xb:Nat} {k:Int} {i:Nat} {t:List UInt8} {z:Nat} {v':Value} {rs:List (Int×Int)} {l:List UInt8} {x:Int} {o:Obj} {a c:Int}
  (h:dR w w4 b rb ob xb k i t z v rs l x) (hg:(w4.alloc o).grownBy w5 v.ownBlock) (hr:w5.ownsRow w 128 2 v' (rs.length+1) (NW rs++[.int .i64 a,.int .i64 c])):
  dR w (w5.setCell (aa xb 4) v') b rb ob xb k i t z v' (rs++[(a,c)]) l x:=by
 have NU:=MH h.row o
 have Q8:=bW NU hg (h.rcd.alloc o) _d
 have QI:NP [b] w w5:=(h.kept.alloc o).grown hg (fun j hj=>Or.inr (by have:=(ML NU j hj).1;omega))
 have hr':w5.ownsRow w 128 2 v' (rs++[(a,c)]).length (NW (rs++[(a,c)])):=by
  rw[bP,tN,Nq];exact hr
 have h4:=Q8.set 4 v'
 exact⟨ae.other (bW NU hg (ae.alloc h.rd o) _d) (p:=(aa xb 4)) _I v',(bW NU hg (h.box.alloc o) _d).other (p:=(aa xb 4)) h.n2 v',(bW NU hg (h.out.alloc o) _d).other (p:=(aa xb 4)) h.n3 v',h4,bT hr' (p:=(aa xb 4)) (aB hr' Q8 _d) v',QI.setCell (p:=(aa xb 4)) (Or.inr h.hxb) v',h.hb,h.hrb,h.hob,h.hxb,h.n1,h.n2,h.n3⟩
def tB (b:Nat) (l:List UInt8) (w:World) (e:Ending) (w':World):Prop:=
 ∃(r:ag) (v:Value),aE w w' v r.runs/\r.fits/\NP [b] w w'/\((∃rest,gk l=some (r,rest)/\aP w' b rest 0/\e=.returned (.tuple #[.agg (r.cells v),true]))\/(gk l=none/\e=.returned (.tuple #[.agg (r.cells v),false])))
theorem M58 {A:Prop}(h:A:=by
 rw[if_neg _d]at e
 have hh:=OY.out
 go_wp2_with fail
 go_meet
 rw[e]
 exact hh):A:=h
theorem M44 {A:Prop}(h:A:=by
 have⟨b0,b1,b2,b3,b4⟩:=QG.rcd.c5
 have Ut:=tK Tb
 clear Tb QG Qn kk2
 go_wp2_with fail
 go_meet
 exact Ut.out):A:=h
theorem Ii (b:Nat) (l:List UInt8) (w:World) (hR:aP w b l 0):
  am! 247 #[.agg #[b]] w (tB b l w):=by
 have VG:=ae.lt hR
 have h8:=fun W h=>Me b l 0 W h
 have hkd:((PP l).1:Int)<256:=by have:(PP l).1<256:=cp 1 l 0;omega
 have o0:=ae.new w #[b] 255
 have o1:=ae.new (w.alloc (.cells #[b] 255)) #[(0:Int),.int .u32 0,.string {data:=#[]},(0:Int),()] 102
 rw[Nd]at o1
 have o0':=o0.alloc (.cells #[(0:Int),.int .u32 0,.string {data:=#[]},(0:Int),()] 102)
 have UM:=(ae.alloc hR (.cells #[b] 255)).alloc (.cells #[(0:Int),.int .u32 0,.string {data:=#[]},(0:Int),()] 102)
 have k0:=((NP.refl [b] w).alloc (.cells #[b] 255)).alloc (.cells #[(0:Int),.int .u32 0,.string {data:=#[]},(0:Int),()] 102)
 have H8:=tK (h8 _ UM)
 have ZQ:Hid (N6 1 l 0=PP l):=rfl
 rw[ZQ.out]at H8
 clear h8 UM o0
 go_enter func247,ntmps247
 go_wp2_with fail
 refine H8.out.mono ?_;rintro e w1 ⟨rfl,hR1,Sd⟩
 have Oo:dR w (w1.alloc (.cells #[((PP l).1:Int),.int .u32 0,.string {data:=#[]},(0:Int),()] 102)) b w (w.heap.size+1) w1 ((PP l).1:Int) 0 [] 0 () [] (PP l).2.1 (PP l).2.2:=by
  have p0:=Sd.own o0' _e
  have p1:=Sd.own o1 _e
  have l0:=p0.lt
  have l1:=p1.lt
  exact⟨ae.alloc hR1 _,p0.alloc _,p1.alloc _,ae.new _ _ _,Nf _ _ _ _,(k0.trans Sd).alloc _,VG,MG _,_a,_a,_a,_a,_a⟩
 have OY:=tK Oo
 clear Oo Sd hR1 k0 o1 o0' H8 hR
 have hjh:=fun W=>pJ ((PP l).1:Int) W
 have eI:iR l=if S4 ((PP l).1:Int)then N6 4 (PP l).2.1 (PP l).2.2 else(0,(PP l).2.1,(PP l).2.2):=rfl
 have eT:tR l=if Px ((PP l).1:Int)then dY (iR l).2.1 (iR l).2.2 else([],(iR l).2.1,(iR l).2.2):=rfl
 have eZ:zR l=if Oj ((PP l).1:Int)then N6 4 (tR l).2.1 (tR l).2.2 else(0,(tR l).2.1,(tR l).2.2):=rfl
 have eN:nR l=if Oj ((PP l).1:Int)then N6 2 (zR l).2.1 (zR l).2.2 else(0,(zR l).2.1,(zR l).2.2):=rfl
 have bz:((zR l).1:Int)<4294967296:=_B
 have bn:((nR l).1:Int)<65536:=by have:=DJ ((PP l).1:Int) (zR l).2.1 (zR l).2.2;have e:nR l=vq ((PP l).1:Int) (zR l).2.1 (zR l).2.2:=rfl;rw[e];omega
 have Oy:=EA l
 have Oq:=pC (min (nR l).1 17) l
 unfold Ps at Oy Oq
 have⟨HJ,EI,ET,EZ,EN,FIN,FIT⟩:=gk! hjh eI eT eZ eN Oy Oq
 have Tj:=Er (min (nR l).1 17) (nR l).2.1 (nR l).2.2
 have P3:=ga (min (nR l).1 17) (nR l).2.1 (nR l).2.2
 have BD:=tK Tj
 clear hjh eI eT eZ eN Oy Oq ZQ Tj
 generalize PP l=KD at*
 generalize iR l=IR at*
 generalize tR l=TR at*
 generalize zR l=ZR at*
 generalize nR l=NR at*
 have⟨kd,l1,x1⟩:=KD
 simp only at*
 have cr:=OY.out.ptr
 have⟨a0,a1,a2,a3,a4⟩:=OY.out.rcd.c5
 go_wp2_with fail
 refine(HJ.out _).mono ?_;rintro e w' ⟨rfl,rfl⟩
 clear HJ
 generalize S4 (kd:Int)=I at*
 generalize Px (kd:Int)=N at*
 generalize Oj (kd:Int)=B at*
 go_upto_if 22 with fail
 go_cut [22] (fun v22 wx=>dR w wx b w (w.heap.size+1) w1 (kd:Int) IR.1 [] 0 () [] IR.2.1 IR.2.2)
 case first=>
  cases I
  .have e:=EI.out
   exact M58
  .have e:=EI.out
   rw[if_pos rfl]at e
   have hu:=np b l1 x1 _ OY.out.rd
   rw[<-e]at hu
   have HU:=tK hu
   clear hu e
   go_wp2_with fail
   refine HU.out.mono ?_;rintro e w2 ⟨rfl,Qn,kk2⟩
   have QG:=OY.out.read Qn kk2
   have Tb:=QG.set 1 (IR.1,()) kd IR.1 [] 0 rfl
   have z1:=QG.rcd.free 1
   exact M44
 case rest=>
  clear OY EI cr a0 a1 a2 a3 a4
  generalize w1.heap.size=xb at*
  have cr:=hcut.ptr
  have⟨a0,a1,a2,a3,a4⟩:=hcut.rcd.c5
  have OY:=tK hcut
  clear hcut
  go_upto_if 27 with fail
  go_cut [27] (fun v27 wx=>dR w wx b w (w.heap.size+1) xb (kd:Int) IR.1 TR.1 0 () [] TR.2.1 TR.2.2)
  case first=>
   cases N
   .have e:=ET.out
    exact M58
   .have e:=ET.out
    rw[if_pos rfl]at e
    have hu:=Js b IR.2.1 IR.2.2 _ OY.out.rd
    rw[<-e]at hu
    have HU:=tK hu
    clear hu e
    go_wp2_with fail
    refine HU.out.mono ?_;rintro e w2 ⟨rfl,Qn,kk2⟩
    have QG:=OY.out.read Qn kk2
    have Tb:=QG.set 2 TR.1 kd IR.1 TR.1 0 rfl
    have z1:=QG.rcd.free 2
    exact M44
  case rest=>
   clear OY ET cr a0 a1 a2 a3 a4
   have cr:=hcut.ptr
   have⟨a0,a1,a2,a3,a4⟩:=hcut.rcd.c5
   have OY:=tK hcut
   clear hcut
   generalize hm:min NR.1 17=m at*
   have afe:m<=17:=_a
   have HM:=tK hm
   go_upto_if 32 with fail
   go_cut [8,9,32] (fun v8 v9 v32 wx=>∃v,dR w wx b w (w.heap.size+1) xb (kd:Int) IR.1 TR.1 ZR.1 v (Od m NR.2.1 NR.2.2).1 (Od m NR.2.1 NR.2.2).2.1 (Od m NR.2.1 NR.2.2).2.2)
   case first=>
    cases B
    .have e1:=EZ.out
     have e2:=EN.out
     rw[if_neg _d]at e1 e2
     have hh:=OY.out
     have hm0:m=0:=by rw[<-hm,e2];rfl
     go_wp2_with fail
     go_meet
     refine⟨(),?_⟩
     rw[hm0,e2,e1]
     exact hh
    .have e1:=EZ.out
     have e2:=EN.out
     rw[if_pos rfl]at e1 e2
     have hu:=np b TR.2.1 TR.2.2 _ OY.out.rd
     rw[<-e1]at hu
     have hv:=fun W (h:aP W b ZR.2.1 ZR.2.2)=>sJ b ZR.2.1 ZR.2.2 W h
     rw[<-e2]at hv
     have⟨HU,HV⟩:=_f hu hv
     have hmi:min (NR.1:Int) 17=(m:Int):=_a
     clear hu hv e1 e2 hm
     go_wp2_with fail
     refine HU.out.mono ?_;rintro e w2 ⟨rfl,Qn,kk2⟩
     have QG:=OY.out.read Qn kk2
     have Tb:=QG.set 3 (ZR.1:Int) kd IR.1 TR.1 ZR.1 rfl
     have z1:=QG.rcd.free 3
     have cr2:=Tb.ptr
     have⟨b0,b1,b2,b3,b4⟩:=QG.rcd.c5
     have Ve:=HV.out _ Tb.rd
     have⟨HV1,Ut⟩:=_f Ve Tb
     clear Tb QG Qn kk2 Ve HU HV
     go_wp2_with fail
     refine HV1.out.mono ?_;rintro e w3 ⟨rfl,Q4,Ti⟩
     have Vx:=Ut.out.read Q4 Ti
     have HS4:=tK Vx
     clear Vx Ti Q4 HV1 Ut b0 b1 b2 b3 b4 z1 cr2 a0 a1 a2 a3 a4 cr OY
     go_wp2_with fail
     go_loopw [9,44] (fun v9 i wr=>∃(j:Nat) (v:Value),j<=m/\i=(j:Int)/\dR w wr b w (w.heap.size+1) xb (kd:Int) IR.1 TR.1 ZR.1 v (Od j NR.2.1 NR.2.2).1 (Od j NR.2.1 NR.2.2).2.1 (Od j NR.2.1 NR.2.2).2.2) (fun _ i _=>m-(intOf i).toNat)
     case atStart=>exact⟨0,_,_a,rfl,HS4.out⟩
     case round=>
      obtain⟨j,v,hj,rfl,Oo⟩:=hrel
      have V5:=ah Oo.row
      rw[ga]at V5
      obtain⟨pv,cv,rfl⟩:=V5
      by_cases NV:j<m
      .have TA:Od (j+1) NR.2.1 NR.2.2=((Od j NR.2.1 NR.2.2).1++[(((N6 2 (Od j NR.2.1 NR.2.2).2.1 (Od j NR.2.1 NR.2.2).2.2).1:Int),((N6 2 (N6 2 (Od j NR.2.1 NR.2.2).2.1 (Od j NR.2.1 NR.2.2).2.2).2.1 (N6 2 (Od j NR.2.1 NR.2.2).2.1 (Od j NR.2.1 NR.2.2).2.2).2.2).1:Int))],
        (N6 2 (N6 2 (Od j NR.2.1 NR.2.2).2.1 (Od j NR.2.1 NR.2.2).2.2).2.1 (N6 2 (Od j NR.2.1 NR.2.2).2.1 (Od j NR.2.1 NR.2.2).2.2).2.2).2):=rfl
       have hlen:=ga j NR.2.1 NR.2.2
       generalize Od j NR.2.1 NR.2.2=RR at*
       have hu:=sJ b RR.2.1 RR.2.2 wr Oo.rd
       have bu:((N6 2 RR.2.1 RR.2.2).1:Int)<65536:=by have:=cp 2 RR.2.1 RR.2.2;omega
       generalize N6 2 RR.2.1 RR.2.2=U1 at*
       have hv:=fun W (h:aP W b U1.2.1 U1.2.2)=>sJ b U1.2.1 U1.2.2 W h
       have bv:((N6 2 U1.2.1 U1.2.2).1:Int)<65536:=by have:=cp 2 U1.2.1 U1.2.2;omega
       generalize N6 2 U1.2.1 U1.2.2=U2 at*
       have cr:=Oo.ptr
       have⟨i0,hi0,Rh,Qc,Qx⟩:=eV
       have⟨RA,OZ,HU,HH,OY,Of⟩:=gj! TA hlen hu hv Oo NV
       have i1:(j:Int)<m:=_a
       have ewv:IntKind.i64.wrap (U2.1:Int)=(U2.1:Int):=IntWalk.i64_in _ _a
       have i2:(m:Int)<=17:=_a
       clear TA hlen hu hv Oo HS4
       go_wp2_with fail
       refine HU.out.mono ?_;rintro e w3 ⟨rfl,Q4,P6⟩
       have Tb:=OY.out.read Q4 P6
       have cr:=Tb.ptr
       have cg:w3.cell? (aa xb 4)=(pv,j,cv):=Tb.rcd.cell 4 _b
       have Ut:=tK Tb
       clear Tb Q4 P6 OY
       have q3:j+1<=maxLen:=_m
       have q4:(j+1)*16<=140737488355328:=_a
       go_wp2_with fail
       go_region_law (first
        |(refine step_append_lies _ _L (.tmp 51) (.tmp 58) 56 _L w 128 i0 (.agg #[(0:Int),(0:Int)]) 2 16 underlying56 hi0 Rh Qc Qx rfl _d _ _ _ _L (MH Sg _) w4 1 1 [.int .i64 (U1.1:Int),.int .i64 (U2.1:Int)] _L rfl (World.news_of_block (Ns w4 _)) _v _d q3 q4 _e (w4.heap.size+1) _b ?_;intro g3' Vt w5 o3 RQ at3 lt3;have Tv:=bW (MH Sg _) RQ (HS4.out.rcd.alloc _) _d;have hc5:w5.cell? (aa xb 4)=(pv,j,cv):=ae.cell Tv 4 _b;have hf5:w5.frozen? (aa xb 4)=false:=Tv.free 4)
        |(go_simp;go_at_call 244;((with_reducible refine(HH.out _ ?_).mono ?_));(first|exact Ut.out.rd|exact ae.drew Ut.out.rd);rintro e w4 ⟨rfl,So,Qo⟩;have Vx:dR w w4 b w (w.heap.size+1) xb (kd:Int) IR.1 TR.1 ZR.1 (pv,j,cv) RR.1 U2.2.1 U2.2.2:=(by first|exact(Ut.out.keep ((NP.refl [] _).drew)).read So Qo|exact Ut.out.read So Qo);have HS4:=tK Vx;have Sg:w4.ownsRow w 128 2 (pv,j,cv) j (NW RR.1):=(by have:=Vx.row;unfold aE at this;rw[OZ.out]at this;exact this);have Yd:w.heap.size<=w4.heap.size:=Vx.kept.size;have cg4:w4.cell? (aa xb 4)=(pv,j,cv):=Vx.rcd.cell 4 _b;have adW:∀o,(w4.alloc o).cell? (aa xb 4)=(pv,j,cv):=fun o=>ae.cell (Vx.rcd.alloc o) 4 _b;clear Vx))
       all_goals go_wp2_with fail
       all_goals
        have hm6:=dR.more HS4.out RQ (by rw[OZ.out];exact o3)
        have ej:Od (j+1) NR.2.1 NR.2.2=(RR.1++[((U1.1:Int),(U2.1:Int))],U2.2):=RA.out
        have TZ:=Of.out
        refine⟨⟨j+1,_,_a,rfl,by rw[ej];exact hm6⟩,?_⟩
        simp[intOf];omega
      .obtain rfl:j=m:=_a
       have OY:=tK Oo
       clear Oo HS4
       go_wp2_with fail
       go_meet
       exact⟨_,OY.out⟩
   case rest=>
    have⟨v,Oo⟩:=hcut
    clear OY cr a0 a1 a2 a3 a4 EZ EN BD
    have Oy:=FIN.out
    have Oq:=FIT.out
    generalize Od m NR.2.1 NR.2.2=RR at*
    have NU:=Oo.row
    have V5:=ah NU
    rw[P3]at V5
    obtain⟨pv,cv,rfl⟩:=V5
    have afj:w.heap.size+1≠b:=_a
    have aff:=Oo.hxb
    have XT:w.heap.size+1≠xb:=Oo.n3
    have hke:∀W,NP [w.heap.size+1] wc W->dR w W b w (w.heap.size+1) xb (kd:Int) IR.1 TR.1 ZR.1 (pv,m,cv) RR.1 RR.2.1 RR.2.2\/True:=fun W _=>Or.inr trivial
    have QQ:∀W,NP [w.heap.size+1] wc W->aP W b RR.2.1 RR.2.2:=fun W kk=>kk.own Oo.rd _e
    have VV:∀W,NP [w.heap.size+1] wc W->aE w W (pv,m,cv) RR.1:=fun W kk=>bI NU kk Oo.out _d
    have hS:∀W,NP [w.heap.size+1] wc W->(W.cell? w=b/\W.cell? xb=(kd:Int)/\W.cell? (aa xb 1)=some (.int .u32 (IR.1:Int))/\W.cell? (aa xb 2)=TR.1/\W.cell? (aa xb 3)=(ZR.1:Int)/\W.cell? (aa xb 4)=(pv,m,cv)):=fun W kk=>by
     have q:=(kk.own Oo.rcd _e).c5
     exact⟨(kk.own Oo.box _b).cell 0 _b,q⟩
    have hE:∀W,NP [w.heap.size+1] wc W->am! 197 #[b] W fun e w'=>e=RR.2.2/\W=w':=fun W kk=>AA b _ _ W (QQ W kk)
    have⟨HE,TC,HRN⟩:=gg! hE QQ VV
    obtain⟨r,hr⟩:∃r:ag,r=⟨(kd:Int),(IR.1:Int),TR.1,(ZR.1:Int),RR.1⟩:=⟨_,rfl⟩
    rw[<-hr]at Oy Oq
    have aeh:RR.1.length<=17:=by rw[P3];omega
    have QY:NP [b] w wc:=Oo.kept
    have hC:∀W,NP [w.heap.size+1] wc W->am! 98 #[.agg #[(kd:Int),.int .u32 (IR.1:Int),TR.1,(ZR.1:Int),(pv,m,cv)]] W fun e w'=>e=(if az r then 0 else 1:Int)/\NP [w.heap.size+1] wc w'/\w'.cell? w=b/\w'.cell? xb=(kd:Int)/\w'.cell? (aa xb 1)=some (.int .u32 (IR.1:Int))/\w'.cell? (aa xb 2)=TR.1/\w'.cell? (aa xb 3)=(ZR.1:Int)/\w'.cell? (aa xb 4)=(pv,m,cv)/\(∀cs:Array Value,ae W (w.heap.size+1) cs 102->ae w' (w.heap.size+1) cs 102):=fun W kk=>by
     have hc:=ta r (pv,m,cv) w W W (by rw[hr];exact af.bB (VV W kk)) (by rw[hr];show RR.1.length<=_;omega) Oq
     rw[hr]at hc
     rw[hr]
     refine hc.mono fun e w' hh=>?_
     have k2:=kk.trans (hh.2.mono _b)
     have⟨s0,s1⟩:=hS w' k2
     exact⟨hh.1,k2,s0,s1.1,s1.2.1,s1.2.2.1,s1.2.2.2.1,s1.2.2.2.2,fun cs o=>hh.2.own o _b⟩
    have HS:=tK hS
    have⟨s0,s1,s2,s3,s4,s5⟩:=hS wc (NP.refl _ _)
    clear hS
    have z0:=Oo.out.z5
    have⟨o0,o1,o2,o3,o4⟩:=Oo.out.c5
    have Ph:∀W ok,NP [w.heap.size+1] wc W->((RR.2.2=0/\az r=true)↔ok=true)->tB b l w (.returned (.tuple #[.agg #[(kd:Int),.int .u32 (IR.1:Int),TR.1,(ZR.1:Int),(pv,m,cv)],.bool ok])) W:=fun W ok kk Pf=>by
     refine⟨r,(pv,m,cv),by rw[hr];exact VV W kk,Oq,QY.call kk _b,?_⟩
     cases ok
     .exact Or.inr ⟨by rw[Oy,if_neg (fun hh=>by have:=Pf.1 hh;cases this)],by rw[hr];rfl⟩
     .have h2:=Pf.2 rfl
      exact Or.inl ⟨RR.2.1,by rw[Oy,if_pos h2],by have:=QQ W kk;rw[h2.1]at this;exact this,by rw[hr];rfl⟩
    have Qd:=tK Ph
    clear hE QQ VV hke Ph Oy Oq FIN FIT
    go_upto_region 15 with fail
    by_cases hx:RR.2.2=0
    .have hdx:(RR.2.2==0)=true:=by rw[hx];rfl
     cases hM:az r
     .rw[hM]at hC
      simp only[Bool.false_eq_true,if_false]at hC
      have HC:=tK hC
      have Pf:=fun W kk=>Qd.out W false kk (by rw[hM];simp)
      have QH:=tK Pf
      clear hC Pf Qd
      go_region_held3 (fun W=>W.cell? w=b/\W.cell? xb=(kd:Int)/\W.cell? (aa xb 1)=some (.int .u32 (IR.1:Int))/\W.cell? (aa xb 2)=TR.1/\W.cell? (aa xb 3)=(ZR.1:Int)/\W.cell? (aa xb 4)=(pv,m,cv)) (first|go_keep|exact HS.out _ _k) (first|(go_at_call 197;((with_reducible refine(HE.out _ ?_).mono ?_));(repeat' first|exact NP.refl _ _|exact Sp|refine NP.drew ?_|refine NP.drewN ?_ _|refine NP.setCell ?_ (Or.inl _b) _);rintro e w' ⟨rfl,rfl⟩)|(go_at_call 98;((with_reducible refine(HC.out _ ?_).mono ?_));(repeat' first|exact NP.refl _ _|exact Sp|refine NP.drew ?_|refine NP.drewN ?_ _|refine NP.setCell ?_ (Or.inl _b) _);rintro e w5 ⟨rfl,Sp,q0,q1,q2,q3,q4,q5,Sf⟩;(first|(have XG:=Sf _ (by(repeat' first|exact Oo.out|refine ae.drew ?_));have⟨u0,u1,u2,u3,u4⟩:=XG.c5;have uz:=XG.z5)|(have XG:=Sf _ (ae.lj (by(repeat' first|exact Oo.out|refine ae.drew ?_)) _ _ _ _ _)))))
      all_goals go_wp2_with fail
      all_goals
       refine MN (v:=.tuple #[.agg #[(kd:Int),.int .u32 (IR.1:Int),TR.1,(ZR.1:Int),(pv,m,cv)],false]) ?_ ?_ ?_
       .refine aj results247 rfl rfl (t:=102) ?_ underlying102 rfl _c
        with_reducible first|exact XG|exact ae.lj XG _ _ _ _ _|exact ae.lj (ae.drew XG) _ _ _ _ _
       .rfl
       .exact QH.out _ _k
     .rw[hM]at hC
      simp only[if_true]at hC
      have HC:=tK hC
      have Pf:=fun W kk=>Qd.out W true kk (by rw[hM];simp[hx])
      have QH:=tK Pf
      clear hC Pf Qd
      go_region_held3 (fun W=>W.cell? w=b/\W.cell? xb=(kd:Int)/\W.cell? (aa xb 1)=some (.int .u32 (IR.1:Int))/\W.cell? (aa xb 2)=TR.1/\W.cell? (aa xb 3)=(ZR.1:Int)/\W.cell? (aa xb 4)=(pv,m,cv)) (first|go_keep|exact HS.out _ _k) (first|(go_at_call 197;((with_reducible refine(HE.out _ ?_).mono ?_));(repeat' first|exact NP.refl _ _|exact Sp|refine NP.drew ?_|refine NP.drewN ?_ _|refine NP.setCell ?_ (Or.inl _b) _);rintro e w' ⟨rfl,rfl⟩)|(go_at_call 98;((with_reducible refine(HC.out _ ?_).mono ?_));(repeat' first|exact NP.refl _ _|exact Sp|refine NP.drew ?_|refine NP.drewN ?_ _|refine NP.setCell ?_ (Or.inl _b) _);rintro e w5 ⟨rfl,Sp,q0,q1,q2,q3,q4,q5,Sf⟩;(first|(have XG:=Sf _ (by(repeat' first|exact Oo.out|refine ae.drew ?_));have⟨u0,u1,u2,u3,u4⟩:=XG.c5;have uz:=XG.z5)|(have XG:=Sf _ (ae.lj (by(repeat' first|exact Oo.out|refine ae.drew ?_)) _ _ _ _ _)))))
      all_goals go_wp2_with fail
      all_goals
       refine MN (v:=.tuple #[.agg #[(kd:Int),.int .u32 (IR.1:Int),TR.1,(ZR.1:Int),(pv,m,cv)],true]) ?_ ?_ ?_
       .refine aj results247 rfl rfl (t:=102) ?_ underlying102 rfl _c
        with_reducible first|exact XG|exact ae.lj XG _ _ _ _ _|exact ae.lj (ae.drew XG) _ _ _ _ _
       .rfl
       .exact QH.out _ _k
    .have hdx:(RR.2.2==0)=false:=_h
     have afd:(RR.2.2 != 0)=true:=_h
     have Pf:=fun W kk=>Qd.out W false kk (by simp[hx])
     have QH:=tK Pf
     clear hC Pf Qd
     refine MK (S:=(fun W=>W.cell? w=b/\W.cell? xb=(kd:Int)/\W.cell? (aa xb 1)=some (.int .u32 (IR.1:Int))/\W.cell? (aa xb 2)=TR.1/\W.cell? (aa xb 3)=(ZR.1:Int)/\W.cell? (aa xb 4)=(pv,m,cv))) _c (by(first|go_keep|exact HS.out _ _i)) (fun hHeld=>?_)
     refine tS ?_
     refine rD 3 (fun K hK=>?_)
     go_simp
     ((with_reducible refine(HE.out _ _i).mono ?_));rintro e w' ⟨rfl,rfl⟩
     go_wp2_with fail
     refine hK.out _ _ ?_ (fun hHeld=>nM ?_)
     ·(first|go_keep|exact HS.out _ _i)
     clear hK K
     refine tS ?_
     refine rD 10 (fun K hK=>?_)
     go_simp
     refine hK.out _ _ ?_ (fun hHeld=>nM ?_)
     ·(first|go_keep|exact HS.out _ _i)
     clear hK K
     refine tS ?_
     refine Ng _c ?_ _
     go_wp2_with fail
     refine MN (v:=.tuple #[.agg #[(kd:Int),.int .u32 (IR.1:Int),TR.1,(ZR.1:Int),(pv,m,cv)],false]) ?_ ?_ ?_
     .refine aj results247 rfl rfl (t:=102) ?_ underlying102 rfl _c
      with_reducible first|exact ae.lj Oo.out _ _ _ _ _|exact ae.drew (ae.lj Oo.out _ _ _ _ _)
     .rfl
     .exact QH.out _ _i
theorem jB:∃i,prog.info? 102=some i/\i.zero=some (.agg #[(0:Int),.int .u32 0,.string {data:=#[]},(0:Int),()])/\i.size=5/\i.bytes=64:=by
 have hi:(prog.info? 102).map (fun i=>(i.zero,i.size,i.bytes))=some (some (.agg #[(0:Int),.int .u32 0,.string {data:=#[]},(0:Int),()]),5,64):=_c
 exact Yh
def bw (l:List (ag×Value)):List Value:=(l.map fun x=>[Value.int .i64 x.1.kind,Value.int .u32 x.1.id,Value.string (bs x.1.name),Value.int .i64 x.1.size,x.2]).flatten
theorem eF (l:List (ag×Value)) (r:ag) (v:Value):bw (l++[(r,v)])=bw l++[Value.int .i64 r.kind,Value.int .u32 r.id,Value.string (bs r.name),Value.int .i64 r.size,v]:=by simp[bw]
theorem jd (l:List (ag×Value)) (i:Nat) (h:i<l.length) (j:Nat) (u:Value) (hj:[Value.int .i64 l[i].1.kind,Value.int .u32 l[i].1.id,Value.string (bs l[i].1.name),Value.int .i64 l[i].1.size,l[i].2][j]? =some u):(bw l)[i*5+j]? =some u:=by
 induction l generalizing i with
 |nil=>simp at h
 |cons a l ih=>
  have e:bw (a::l)=[Value.int .i64 a.1.kind,Value.int .u32 a.1.id,Value.string (bs a.1.name),Value.int .i64 a.1.size,a.2]++bw l:=rfl
  have hj5:j<5:=by
   have:=(Nn.1 hj).1
   simpa using this
  rw[e]
  cases i with
  |zero=>
   rw[List.getElem?_append_left _e]
   simpa using hj
  |succ i=>
   rw[List.getElem?_append_right _e]
   have e1:(i+1)*5+j-[Value.int .i64 a.1.kind,Value.int .u32 a.1.id,Value.string (bs a.1.name),Value.int .i64 a.1.size,a.2].length=i*5+j:=_e
   rw[e1]
   exact ih i _T A!
def aI (w0 w:World) (v:Value) (l:List ag):Prop:=
 ∃vs:List (ag×Value),vs.map (·.1)=l/\w.ownsRow w0 102 5 v l.length (bw vs)/\∀x∈vs,aE w0 w x.2 x.1.runs/\x.1.fits
def mX (w0 w:World) (S:List Nat):Prop:=∀x∈S,x<w0.heap.size\/∃cs t,ae w x cs t/\t≠128/\t≠102
theorem mX.nil (w0 w:World):mX w0 w []:=fun x hx=>by cases hx
theorem lA {w:World} {x:Nat} {cs TL:Array Value} {t t':TypeId} (h:ae w x cs t) (h':w.heap[x]? =some (.cells TL t' (0,0))):t=t':=by
 have o':w.heap[x]? =some (.cells cs t (0,0)):=h
 rw[o']at h'
 injection h' with h'
 injection h' with _ e
theorem aE.aS (h:aE w0 w v l) (k:NP S w w') (hS:∀x∈S,x<w0.heap.size\/∃cs t,ae w x cs t/\t≠128):aE w0 w' v l:=
 cF h k (fun x hx hb cs hc=>by
  rcases hS x hx with h1|⟨TL,t,o,ht⟩
  .omega
  .exact ht (lA o hc))
theorem aE.kept0 (h:aE w0 w v l) (k:NP [] w w'):aE w0 w' v l:=h.aS k (fun x hx=>by cases hx)
theorem aE.base (h:aE w1 w v l) (hb:w0.heap.size<=w1.heap.size):aE w0 w v l:=aF h hb
theorem aE.oI (h:aE w0 w v l):af w v l w0 w:=af.bB h
section
variable {S:List Nat} {w0 w w':World} {v:Value} {l:List ag}
theorem aI.kept (h:aI w0 w v l) (k:NP S w w') (hS:mX w0 w S):aI w0 w' v l:=by
 have⟨vs,h1,h2,h3⟩:=h
 refine⟨vs,h1,cF h2 k (fun x hx hb cs hc=>?_),fun x hx=>⟨(h3 x hx).1.aS k (fun y hy=>?_),(h3 x hx).2⟩⟩
 .rcases hS x hx with h1|⟨TL,t,o,_,ht⟩
  .omega
  .exact ht (lA o hc)
 .rcases hS y hy with h1|⟨TL,t,o,ht,_⟩
  .exact Or.inl h1
  .exact Or.inr ⟨TL,t,o,ht⟩
theorem aI.kept0 (h:aI w0 w v l) (k:NP [] w w'):aI w0 w' v l:=h.kept k (mX.nil _ _)
theorem aI.base (h:aI w1 w v l) (hb:w0.heap.size<=w1.heap.size):aI w0 w v l:=by
 have⟨vs,h1,h2,h3⟩:=h
 exact⟨vs,h1,aF h2 hb,fun x hx=>⟨(h3 x hx).1.base hb,(h3 x hx).2⟩⟩
theorem aI.nil (w0 w:World):aI w0 w () []:=⟨[],rfl,Nf _ _ _ _,fun x hx=>by cases hx⟩
theorem aI.shape (h:aI w0 w v l):∃p c,v=.slice p l.length c:=by
 have⟨vs,h1,h2,h3⟩:=h;exact ah h2
theorem aI.oI (h:aI w0 w v l):bX w v l w0 w:=by
 obtain⟨vs,rfl,h2,h3⟩:=h
 by_cases h0:vs=[]
 .subst h0
  obtain⟨p,c,rfl⟩:=ah h2
  exact Or.inl ⟨rfl,p,c,rfl⟩
 .have hp:0<vs.length:=Nu.2 h0
  obtain⟨g,c,rfl,g1,g2,g3,g4,g5⟩:=cU h2 (by simpa using hp)
  refine Or.inr ⟨g,0,c,rfl,fun i hi=>?_,g1,g2,MG _,fun e=>h0 (List.map_eq_nil_iff.1 e),g3,g4⟩
  have hi':i<vs.length:=_D
  have⟨q1,q2⟩:=h3 _ (MJ hi')
  refine⟨[Value.int .i64 vs[i].1.kind,Value.int .u32 vs[i].1.id,Value.string (bs vs[i].1.name),Value.int .i64 vs[i].1.size,vs[i].2],rfl,⟨vs[i].2,by rw[Ny],by rw[Ny];exact q1.oI,by rw[Ny];exact q2⟩,fun j u hj=>?_⟩
  rw[Nat.zero_add]
  exact g5 _ _ (jd vs i hi' j u hj)
theorem aI.more {v' kv:Value} {r:ag} {o:Obj} {w5:World} {vs:List (ag×Value)} (h1:vs.map (·.1)=l) (h3:∀x∈vs,aE w0 w x.2 x.1.runs/\x.1.fits) (h2:w.ownsRow w0 102 5 v l.length (bw vs))
  (hr:aE w0 w kv r.runs) (hf:r.fits) (hg:(w.alloc o).grownBy w5 v.ownBlock) (hn:w5.ownsRow w0 102 5 v' (l.length+1) (bw vs++[Value.int .i64 r.kind,Value.int .u32 r.id,Value.string (bs r.name),Value.int .i64 r.size,kv])):
  aI w0 w5 v' (l++[r]):=by
 have NU:=MH h2 o
 have hk:∀(u:Value) (rs:List (Int×Int)),aE w0 w u rs->aE w0 w5 u rs:=fun u rs hu=>by
  have hu':aE w0 (w.alloc o) u rs:=MH hu o
  exact dG hu' (fun g cs hb hc=>hg.block g (NK hc) (fun e=>aB NU (show ae (w.alloc o) g cs 128 from hc) _d e.symm))
 refine⟨vs++[(r,kv)],by simp[h1],by rw[eF,tN,Nq];exact hn,fun x hx=>?_⟩
 rcases Na.1 hx with hx|hx
 .exact⟨hk _ _ (h3 x hx).1,(h3 x hx).2⟩
 .have hx:x=(r,kv):=_h
  subst hx
  exact⟨hk _ _ hr,hf⟩
end
structure kc (w wr:World) (rb:Nat) (s:List UInt8) (j:Nat) (v6:Value) (vs:List (ag×Value)) (rest:List UInt8):Prop where
 so:dg j s=some (vs.map (·.1),rest)
 rd:aP wr w rest 0
 box:ae wr rb #[w.heap.size] 255
 row:wr.ownsRow w 102 5 v6 j (bw vs)
 each:∀x∈vs,aE w wr x.2 x.1.runs/\x.1.fits
 len:vs.length=j
 kept:NP [] w wr
 hrb:w.heap.size<rb
theorem kc.new {wr:World} {s:List UInt8} {j:Nat} {v6:Value} {vs:List (ag×Value)} {rest:List UInt8} (h:kc w wr rb s j v6 vs rest):aI w wr v6 (vs.map (·.1)):=
 ⟨vs,rfl,by rw[MP,h.len];exact h.row,h.each⟩
theorem kc.next {w wr w3 w5:World} {rb:Nat} {s:List UInt8} {j:Nat} {v6 v' kv:Value} {vs:List (ag×Value)} {rest rest':List UInt8} {r:ag} {o1 o2:Obj} (h:kc w wr rb s j v6 vs rest) (ho:gk rest=some (r,rest'))
  (kk:NP [w.heap.size] wr w3) (hR:aP w3 w rest' 0) (hr:aE wr w3 kv r.runs) (hf:r.fits)
  (hg:((w3.alloc o1).alloc o2).grownBy w5 v6.ownBlock) (hn:w5.ownsRow w 102 5 v' (j+1) (bw vs++[Value.int .i64 r.kind,Value.int .u32 r.id,Value.string (bs r.name),Value.int .i64 r.size,kv])):
  kc w w5 rb s (j+1) v' (vs++[(r,kv)]) rest':=by
 have T3:w3.ownsRow w 102 5 v6 j (bw vs):=cF h.row kk (fun x hx _ cs hc=>by
  have hx:x=w.heap.size:=_h
  subst hx
  exact absurd (lA h.rd hc) _d)
 have PW:=h.kept.size
 have afu:=h.hrb
 have hb3:=kk.own h.box _e
 have P6:NP [] w w3:=h.kept.call kk (fun x hx=>Or.inr (by
   have:x=w.heap.size:=_h
   omega))
 have Ua:∀x∈vs,aE w w3 x.2 x.1.runs/\x.1.fits:=fun x hx=>⟨(h.each x hx).1.aS kk (fun y hy=>by
  have hy:y=w.heap.size:=N!
  subst hy
  exact Or.inr ⟨_,_,h.rd,_d⟩),(h.each x hx).2⟩
 have TB:=MH (MH T3 o1) o2
 have hk:∀(u:Value) (rs:List (Int×Int)),aE w w3 u rs->aE w w5 u rs:=fun u rs hu=>by
  have hu':aE w ((w3.alloc o1).alloc o2) u rs:=MH (MH hu o1) o2
  exact dG hu' (fun g cs hb hc=>hg.block g (NK hc) (fun e=>aB TB (show ae ((w3.alloc o1).alloc o2) g cs 128 from hc) _d e.symm))
 refine⟨?_,bW TB hg (ae.alloc (ae.alloc hR o1) o2) _d,bW TB hg ((hb3.alloc o1).alloc o2) _d,by rw[eF];exact hn,fun x hx=>?_,by rw[tN,h.len];rfl,((P6.alloc o1).alloc o2).grown hg (fun i hi=>Or.inr (ML TB i hi).1),h.hrb⟩
 .rw[nj h.so ho];simp
 .rcases Na.1 hx with hx|hx
  .exact⟨hk _ _ (Ua x hx).1,(Ua x hx).2⟩
  .have hx:x=(r,kv):=_h
   subst hx
   exact⟨hk _ _ (hr.base PW),hf⟩
def qY (s:List UInt8) (w:World) (e:Ending) (w':World):Prop:=
 ((∃o v,dp s=some o/\aI w w' v o/\e=.returned (.tuple #[v,true]))\/(dp s=none/\∃v,e=.returned (.tuple #[v,false])))/\NP [] w w'
theorem zP:fM [] 0=0:=rfl
theorem vo {l:List UInt8} (h:l≠[]):fM l 0=7:=by unfold fM;rw[if_pos ⟨rfl,h⟩]
theorem FM (s:List UInt8) (w:World):
  am! 196 #[s] w (qY s w):=by
 have QQ:=fun W=>nz (bs s) W
 rw[cC]at QQ
 have TC:=tK QQ
 clear QQ
 go_enter func196,ntmps196
 go_wp2_with fail
 refine(TC.out _).mono ?_;rintro e w1 ⟨rfl,hR,OP⟩
 have ob:=ae.new w1 #[w.heap.size] 255
 have ZZ:=ae.lt hR
 have hu:=sJ w s 0 _ (ae.alloc hR (.cells #[w.heap.size] 255))
 have bn:((N6 2 s 0).1:Int)<65536:=by have:=cp 2 s 0;omega
 have hx0:=fun h=>jx (k:=2) (l:=s) (x:=0) h
 have OF:=fun h=>zW (s:=s) h
 have Vv:=fun h=>tu (s:=s) h
 have Qp:=fun r o h=>tv (s:=s) (r:=r) (o:=o) h
 have Sv:=fun o h1 h2=>pW (s:=s) (o:=o) h1 h2
 have⟨HU,HR,HX0,Pk,Se,Y5,Wv⟩:=gk! hu hR hx0 OF Vv Qp Sv
 clear hu TC hx0 OF Vv Qp Sv hR
 generalize N6 2 s 0=N at*
 go_wp2_with fail
 refine HU.out.mono ?_;rintro e w2 ⟨rfl,Qn,PY⟩
 have ob2:=PY.own ob _e
 have hK:NP [] w w2:=(OP.alloc _).call PY (fun x hx=>Or.inr (by
   have:x=w.heap.size:=_h
   omega))
 clear HU OP PY ob HR
 generalize w1.heap.size=rb at*
 by_cases h1:N.1<1
 .have hb:=Pk.out _a
  have HB:=tK hb
  have h1':(N.1:Int)<1:=_a
  clear hb h1
  go_wp2_with fail
  go_ret2
  exact⟨Or.inr ⟨HB.out,_,rfl⟩,hK⟩
 .by_cases h2:8192<N.1
  .have hb:=Pk.out _a
   have HB:=tK hb
   have h1':(1:Int)<=N.1:=_a
   have h2':(8192:Int)<N.1:=_a
   clear hb h1 h2
   go_wp2_with fail
   go_ret2
   exact⟨Or.inr ⟨HB.out,_,rfl⟩,hK⟩
  .have h1':(1:Int)<=N.1:=_a
   have h2':(N.1:Int)<=8192:=_a
   have hx:=HX0.out _a
   obtain⟨n,s1,x⟩:=N
   simp only at*
   subst hx
   have Oo:kc w w2 rb s1 0 () [] s1:=⟨rfl,Qn,ob2,Nf _ _ _ _,fun x hx=>J!,rfl,hK,_a⟩
   have OY:=tK Oo
   have cr:w2.cell? rb=w.heap.size:=ob2.cell 0 _b
   clear Oo Qn ob2 hK HX0 h1 h2
   generalize QT:(n:Int)=nn at*
   have Uf:=tK QT
   clear QT
   go_wp2_with fail
   go_loopw [6,7,8,23] (fun v6 v7 v8 i wr=>∃(j:Nat) (vs:List (ag×Value)) (rest:List UInt8),j<=n/\i=(j:Int)/\kc w wr rb s1 j v6 vs rest) (fun _ _ _ i _=>n-(intOf i).toNat)
   case atStart=>exact⟨0,[],s1,_a,rfl,OY.out⟩
   case round=>
    obtain⟨j,vs,rest,hj,rfl,Oo⟩:=hrel
    obtain⟨p6,c6,rfl⟩:=ah Oo.row
    have cr:wr.cell? rb=w.heap.size:=Oo.box.cell 0 _b
    have Sa:=tK Oo
    by_cases NV:j<n
    .have Q8:=Ii w rest wr Oo.rd
     have⟨QC,Of⟩:=_f Q8 NV
     have i1:(j:Int)<nn:=_x
     clear Q8 Oo OY
     go_wp2_with fail
     refine QC.out.mono ?_;rintro e w3 ⟨r,kv,NU,Oq,P6,hc⟩
     clear QC
     rcases hc with⟨rest',ho,Q4,rfl⟩|⟨ho,rfl⟩
     .have HO:=tK ho
      have⟨ZJ,Pm,Y9⟩:=gg! Q4 NU Oq
      obtain⟨pk,ck,rfl⟩:=ah NU
      have⟨i0,q0,q1,q2,q3⟩:=jB
      have UC:w3.ownsRow w 102 5 (p6,j,c6) j (bw vs):=cF Sa.out.row P6 (fun x hx _ cs hc=>by
       have hx:x=w.heap.size:=_h
       subst hx
       exact absurd (lA Sa.out.rd hc) _d)
      have abh:=tK UC
      have r3:j+1<=maxLen:=_m
      have r4:(j+1)*64<=140737488355328:=_a
      have adS:w.heap.size<=w3.heap.size:=Nk Sa.out.kept.size P6.size
      clear ho Q4 NU Oq UC
      unfold ag.cells
      go_wp2_with (at_builtin;go_must (refine MT _ rfl (.tmp 32) (.tmp 34) 92 rfl w 102 i0 (.agg #[(0:Int),.int .u32 0,.string {data:=#[]},(0:Int),()]) 5 64 underlying92 q0 q1 q2 q3 rfl _d _ _ _ rfl (MH (MH abh.out _) _) (aa (w3+1) 0) 1 1 [.int .i64 r.kind,.int .u32 r.id,.string (bs r.name),.int .i64 r.size,.slice pk r.runs.length ck] rfl rfl ?_ ?_ r3 r4 ?_ ?_))
      .have:=World.news_of_block (Ns (w3.alloc (.cells #[r.kind,(r.id,()),r.name,r.size,(pk,r.runs.length,ck)] 102)) (.cells #[r.kind,(r.id,()),r.name,r.size,(pk,r.runs.length,ck)] 102))
       simpa only[Nd]using this
      .intro u hu;simp at hu;rcases hu with rfl|rfl|rfl|rfl|rfl<;>rfl
      .simp;omega
      intro v6 w6 o6 Po _ _
      have TA:=kc.next Sa.out HO.out P6 ZJ.out Pm.out Y9.out Po o6
      have RA:=tK TA
      clear TA o6 Po
      go_wp2_with fail
      go_roundw
      case rel=>exact⟨j+1,_,_,Of.out,_j,RA.out⟩
      case measure=>(have hh:=Of.out;simp[intOf];omega)
     .have hb:=Se.out (by rw[kG Sa.out.so ho Of.out])
      have HB:=tK hb
      have QY:NP [] w w3:=Sa.out.kept.call P6 (fun x hx=>Or.inr (by
        have:x=w.heap.size:=_h
        omega))
      obtain⟨pk,ck,rfl⟩:=ah NU
      clear hb ho NU
      unfold ag.cells
      go_wp2_with fail
      go_ret2
      exact⟨Or.inr ⟨HB.out,_,rfl⟩,QY.alloc _⟩
    .obtain rfl:j=n:=_a
     have i1:¬((j:Int)<nn):=_x
     have Ph:=KP w rest 0 wr Oo.rd
     have Vq:=tK Oo.new
     have QY:=Oo.kept
     have R7:=Oo.so
     by_cases hr:rest=[]
     .subst hr
      rw[zP]at Ph
      have hb:=Wv.out _ _x _x R7
      have⟨HB,HE⟩:=_f hb Ph
      clear hb Ph Oo OY R7 Sa
      go_wp2_with fail
      refine HE.out.mono ?_;rintro e w' ⟨rfl,rfl⟩
      go_wp2_with fail
      go_ret2
      exact⟨Or.inl ⟨_,_,HB.out,Vq.out,rfl⟩,QY⟩
     .rw[vo hr]at Ph
      have hb:=Y5.out _ _ R7 hr
      have⟨HB,HE⟩:=_f hb Ph
      clear hb Ph Oo OY R7 Sa hr
      go_wp2_with fail
      refine HE.out.mono ?_;rintro e w' ⟨rfl,rfl⟩
      go_wp2_with fail
      go_ret2
      exact⟨Or.inr ⟨HB.out,_,rfl⟩,QY⟩

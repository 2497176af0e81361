/- -/
import Derived.Test.YtdkimcnlhmhpgaaGreatK27
set_option maxHeartbeats 16000000
set_option maxRecDepth 100000
namespace Go.Proofs.YtdkimcnlhmhpgaaGreat
open Go.RowKit
variable {w:World} {b:Nat}
def bS (w0 w:World) (v:Value) (l:List (Int×Int)):Prop:=w.ownsRow w0.heap.size 128 2 v l.length (No l)
structure dW (w wx:World) (b rb ob xb:Nat) (k:Int) (i:Nat) (t:List UInt8) (z:Nat) (v:Value) (rs:List (Int×Int)) (l:List UInt8) (x:Int):Prop where
 rd:aO wx b l x
 box:ae wx rb #[.pointer (some ⟨b,0,none⟩)] 255
 out:ae wx ob #[.int .i64 0,.int .u32 0,.string {data:=#[]},.int .i64 0,.slice none 0 0] 102
 rcd:ae wx xb #[.int .i64 k,.int .u32 i,.string (bs t),.int .i64 z,v] 102
 row:bS w wx v rs
 kept:aa [b] w wx
 hb:b<w.heap.size
 hrb:w.heap.size<=rb
 hob:w.heap.size<=ob
 hxb:w.heap.size<=xb
 n1:rb≠ob
 n2:rb≠xb
 n3:ob≠xb
theorem ae.pP {x0 x1 x2 x3 x4:Value} {t:TypeId} (h:ae w b #[x0,x1,x2,x3,x4] t) (y0 y1 y2 y3 y4:Value):
  ae (((((w.setCell ⟨b,0,none⟩ y0).setCell ⟨b,1,none⟩ y1).setCell ⟨b,2,none⟩ y2).setCell ⟨b,3,none⟩ y3).setCell ⟨b,4,none⟩ y4) b #[y0,y1,y2,y3,y4] t:=by
 have:=((((h.set 0 y0).set 1 y1).set 2 y2).set 3 y3).set 4 y4
 simpa using this
section
variable {w wx wy:World} {b rb ob xb:Nat} {k:Int} {i:Nat} {t:List UInt8} {z:Nat} {v:Value} {rs:List (Int×Int)} {l l':List UInt8} {x x':Int}
theorem dW.ptr (h:dW w wx b rb ob xb k i t z v rs l x):wx.cell? ⟨rb,0,none⟩=some (.pointer (some ⟨b,0,none⟩)):=h.box.cell 0 (by simp)
theorem dW.read (h:dW w wx b rb ob xb k i t z v rs l x) (hR:aO wy b l' x') (kk:aa [b] wx wy):dW w wy b rb ob xb k i t z v rs l' x' where
 rd:=hR
 box:=kk.own h.box (by have:=h.hb;have:=h.hrb;simp;omega)
 out:=kk.own h.out (by have:=h.hb;have:=h.hob;simp;omega)
 rcd:=kk.own h.rcd (by have:=h.hb;have:=h.hxb;simp;omega)
 row:=au h.row kk (by have:=h.hb;simp;omega)
 kept:=h.kept.call kk (by simp)
 hb:=h.hb
 hrb:=h.hrb
 hob:=h.hob
 hxb:=h.hxb
 n1:=h.n1
 n2:=h.n2
 n3:=h.n3
theorem dW.keep (h:dW w wx b rb ob xb k i t z v rs l x) (kk:aa [] wx wy):dW w wy b rb ob xb k i t z v rs l x:=
 h.read (kk.own h.rd (by simp)) (kk.mono (by simp))
theorem dW.set (h:dW w wx b rb ob xb k i t z v rs l x) (j:Nat) (u:Value) (k':Int) (i':Nat) (t':List UInt8) (z':Nat)
  (e:(#[.int .i64 k,.int .u32 i,.string (bs t),.int .i64 z,v]:Array Value).setIfInBounds j u=#[.int .i64 k',.int .u32 i',.string (bs t'),.int .i64 z',v]):
  dW w (wx.setCell ⟨xb,j,none⟩ u) b rb ob xb k' i' t' z' v rs l x where
 rd:=ae.other h.rd (p:=⟨xb,j,none⟩) (by have:=h.hb;have:=h.hxb;show b≠xb;omega) u
 box:=h.box.other (p:=⟨xb,j,none⟩) h.n2 u
 out:=h.out.other (p:=⟨xb,j,none⟩) h.n3 u
 rcd:=by rw[<-e];exact h.rcd.set j u
 row:=dR h.row (p:=⟨xb,j,none⟩) (aB h.row h.rcd (by decide)) u
 kept:=h.kept.setCell (p:=⟨xb,j,none⟩) (Or.inr h.hxb) u
 hb:=h.hb
 hrb:=h.hrb
 hob:=h.hob
 hxb:=h.hxb
 n1:=h.n1
 n2:=h.n2
 n3:=h.n3
end
theorem dW.more {w4 w5:World} {rb ob xb:Nat} {k:Int} {i:Nat} {t:List UInt8} {z:Nat} {v v':Value} {rs:List (Int×Int)} {l:List UInt8} {x:Int} {o:Obj} {a c:Int}
  (h:dW w w4 b rb ob xb k i t z v rs l x) (hg:(w4.alloc o).grownBy w5 v.ownBlock) (hr:w5.ownsRow w.heap.size 128 2 v' (rs.length+1) (No rs++[.int .i64 a,.int .i64 c])):
  dW w (w5.setCell ⟨xb,4,none⟩ v') b rb ob xb k i t z v' (rs++[(a,c)]) l x:=by
 have Nt:=Me h.row o
 have Rs:=cK Nt hg (h.rcd.alloc o) (by decide)
 have Ri:aa [b] w w5:=(h.kept.alloc o).grown hg (fun j hj=>Or.inr (by have:=(Mn Nt j hj).1;omega))
 have hr':w5.ownsRow w.heap.size 128 2 v' (rs++[(a,c)]).length (No (rs++[(a,c)])):=by
  rw[cD,Mc,MT];exact hr
 have h4:=Rs.set 4 v'
 exact⟨ae.other (cK Nt hg (ae.alloc h.rd o) (by decide)) (p:=⟨xb,4,none⟩) (by have:=h.hb;have:=h.hxb;show b≠xb;omega) v',(cK Nt hg (h.box.alloc o) (by decide)).other (p:=⟨xb,4,none⟩) h.n2 v',(cK Nt hg (h.out.alloc o) (by decide)).other (p:=⟨xb,4,none⟩) h.n3 v',h4,dR hr' (p:=⟨xb,4,none⟩) (aB hr' Rs (by decide)) v',Ri.setCell (p:=⟨xb,4,none⟩) (Or.inr h.hxb) v',h.hb,h.hrb,h.hob,h.hxb,h.n1,h.n2,h.n3⟩
def uC (b:Nat) (l:List UInt8) (w:World) (e:Ending) (w':World):Prop:=
 ∃(r:ag) (v:Value),bS w w' v r.runs/\r.fits/\aa [b] w w'/\((∃rest,je l=some (r,rest)/\aO w' b rest 0/\e=.returned (.tuple #[.agg (r.cells v),.bool true]))\/(je l=none/\e=.returned (.tuple #[.agg (r.cells v),.bool false])))
theorem M98 {A:Prop}(h:A:=by
 rw[if_neg (by decide)]at e
 have hh:=OM.out
 go_wp2_with fail
 go_meet
 rw[e]
 exact hh):A:=h
theorem M82 {A:Prop}(h:A:=by
 obtain⟨b0,b1,b2,b3,b4⟩:=Qt.rcd.c5
 have Se:=Mb Sl
 clear Sl Qt QX kk2
 go_wp2_with fail
 go_meet
 exact Se.out):A:=h
theorem II (b:Nat) (l:List UInt8) (w:World) (hR:aO w b l 0):
  Calls Tryz.prog 247 #[.agg #[.pointer (some ⟨b,0,none⟩)]] w (uC b l w):=by
 have hbw:=ae.lt hR
 have h8:=fun W h=>LS b l 0 W h
 have hkd:((PP l).1:Int)<256:=by have:(PP l).1<256:=dB 1 l 0;omega
 have o0:=ae.new w #[.pointer (some ⟨b,0,none⟩)] 255
 have o1:=ae.new (w.alloc (.cells #[.pointer (some ⟨b,0,none⟩)] 255)) #[.int .i64 0,.int .u32 0,.string {data:=#[]},.int .i64 0,.slice none 0 0] 102
 rw[MK]at o1
 have o0':=o0.alloc (.cells #[.int .i64 0,.int .u32 0,.string {data:=#[]},.int .i64 0,.slice none 0 0] 102)
 have hR0:=(ae.alloc hR (.cells #[.pointer (some ⟨b,0,none⟩)] 255)).alloc (.cells #[.int .i64 0,.int .u32 0,.string {data:=#[]},.int .i64 0,.slice none 0 0] 102)
 have k0:=((aa.refl [b] w).alloc (.cells #[.pointer (some ⟨b,0,none⟩)] 255)).alloc (.cells #[.int .i64 0,.int .u32 0,.string {data:=#[]},.int .i64 0,.slice none 0 0] 102)
 have H8:=Mb (h8 _ hR0)
 have VG:Hid (Ny 1 l 0=PP l):=rfl
 rw[VG.out]at H8
 clear h8 hR0 o0
 go_enter Tryz.func247,Tryz.ntmps247
 go_wp2_with fail
 refine H8.out.mono ?_;rintro e w1 ⟨rfl,hR1,TQ⟩
 have N8:dW w (w1.alloc (.cells #[.int .i64 ((PP l).1:Int),.int .u32 0,.string {data:=#[]},.int .i64 0,.slice none 0 0] 102)) b w.heap.size (w.heap.size+1) w1.heap.size ((PP l).1:Int) 0 [] 0 (.slice none 0 0) [] (PP l).2.1 (PP l).2.2:=by
  have p0:=TQ.own o0' (by simp;omega)
  have p1:=TQ.own o1 (by simp;omega)
  have l0:=p0.lt
  have l1:=p1.lt
  exact⟨ae.alloc hR1 _,p0.alloc _,p1.alloc _,ae.new _ _ _,MG _ _ _ _,(k0.trans TQ).alloc _,hbw,Md _,by omega,by omega,by omega,by omega,by omega⟩
 have OM:=Mb N8
 clear N8 TQ hR1 k0 o1 o0' H8 hR
 have hjh:=fun W=>fx ((PP l).1:Int) W
 have eI:iR l=if Qa ((PP l).1:Int)then Ny 4 (PP l).2.1 (PP l).2.2 else(0,(PP l).2.1,(PP l).2.2):=rfl
 have eT:tR l=if Ob ((PP l).1:Int)then gk (iR l).2.1 (iR l).2.2 else([],(iR l).2.1,(iR l).2.2):=rfl
 have eZ:zR l=if NH ((PP l).1:Int)then Ny 4 (tR l).2.1 (tR l).2.2 else(0,(tR l).2.1,(tR l).2.2):=rfl
 have eN:nR l=if NH ((PP l).1:Int)then Ny 2 (zR l).2.1 (zR l).2.2 else(0,(zR l).2.1,(zR l).2.2):=rfl
 have bz:((zR l).1:Int)<4294967296:=by have:=CY ((PP l).1:Int) (tR l).2.1 (tR l).2.2;have e:zR l=xf ((PP l).1:Int) (tR l).2.1 (tR l).2.2:=rfl;rw[e];omega
 have bn:((nR l).1:Int)<65536:=by have:=Kl ((PP l).1:Int) (zR l).2.1 (zR l).2.2;have e:nR l=yh ((PP l).1:Int) (zR l).2.1 (zR l).2.2:=rfl;rw[e];omega
 have N6:=Fk l
 have N4:=vL (min (nR l).1 17) l
 unfold eL at N6 N4
 have HJ:=Mb hjh
 have EI:=Mb eI
 have ET:=Mb eT
 have EZ:=Mb eZ
 have EN:=Mb eN
 have FIN:=Mb N6
 have FIT:=Mb N4
 have Rr:=E9 (min (nR l).1 17) (nR l).2.1 (nR l).2.2
 have Po:=j6 (min (nR l).1 17) (nR l).2.1 (nR l).2.2
 have BD:=Mb Rr
 clear hjh eI eT eZ eN N6 N4 VG Rr
 generalize PP l=KD at*
 generalize iR l=IR at*
 generalize tR l=TR at*
 generalize zR l=ZR at*
 generalize nR l=NR at*
 obtain⟨kd,l1,x1⟩:=KD
 simp only at*
 have cr:=OM.out.ptr
 obtain⟨a0,a1,a2,a3,a4⟩:=OM.out.rcd.c5
 go_wp2_with fail
 refine(HJ.out _).mono ?_;rintro e w' ⟨rfl,rfl⟩
 clear HJ
 generalize Qa (kd:Int)=I at*
 generalize Ob (kd:Int)=N at*
 generalize NH (kd:Int)=B at*
 go_upto_if 22 with fail
 go_cut [22] (fun v22 wx=>dW w wx b w.heap.size (w.heap.size+1) w1.heap.size (kd:Int) IR.1 [] 0 (.slice none 0 0) [] IR.2.1 IR.2.2)
 case first=>
  cases I
  .have e:=EI.out
   exact M98
  .have e:=EI.out
   rw[if_pos rfl]at e
   have hu:=nU b l1 x1 _ OM.out.rd
   rw[<-e]at hu
   have HU:=Mb hu
   clear hu e
   go_wp2_with fail
   refine HU.out.mono ?_;rintro e w2 ⟨rfl,QX,kk2⟩
   have Qt:=OM.out.read QX kk2
   have Sl:=Qt.set 1 (.int .u32 IR.1) kd IR.1 [] 0 rfl
   have z1:=Qt.rcd.free 1
   exact M82
 case rest=>
  clear OM EI cr a0 a1 a2 a3 a4
  generalize w1.heap.size=xb at*
  have cr:=hcut.ptr
  obtain⟨a0,a1,a2,a3,a4⟩:=hcut.rcd.c5
  have OM:=Mb hcut
  clear hcut
  go_upto_if 27 with fail
  go_cut [27] (fun v27 wx=>dW w wx b w.heap.size (w.heap.size+1) xb (kd:Int) IR.1 TR.1 0 (.slice none 0 0) [] TR.2.1 TR.2.2)
  case first=>
   cases N
   .have e:=ET.out
    exact M98
   .have e:=ET.out
    rw[if_pos rfl]at e
    have hu:=J2 b IR.2.1 IR.2.2 _ OM.out.rd
    rw[<-e]at hu
    have HU:=Mb hu
    clear hu e
    go_wp2_with fail
    refine HU.out.mono ?_;rintro e w2 ⟨rfl,QX,kk2⟩
    have Qt:=OM.out.read QX kk2
    have Sl:=Qt.set 2 (.string (bs TR.1)) kd IR.1 TR.1 0 rfl
    have z1:=Qt.rcd.free 2
    exact M82
  case rest=>
   clear OM ET cr a0 a1 a2 a3 a4
   have cr:=hcut.ptr
   obtain⟨a0,a1,a2,a3,a4⟩:=hcut.rcd.c5
   have OM:=Mb hcut
   clear hcut
   generalize hm:min NR.1 17=m at*
   have ad0:m<=17:=by omega
   have HM:=Mb hm
   go_upto_if 32 with fail
   go_cut [8,9,32] (fun v8 v9 v32 wx=>∃v,dW w wx b w.heap.size (w.heap.size+1) xb (kd:Int) IR.1 TR.1 ZR.1 v (NX m NR.2.1 NR.2.2).1 (NX m NR.2.1 NR.2.2).2.1 (NX m NR.2.1 NR.2.2).2.2)
   case first=>
    cases B
    .have e1:=EZ.out
     have e2:=EN.out
     rw[if_neg (by decide)]at e1 e2
     have hh:=OM.out
     have Vr:m=0:=by rw[<-hm,e2];rfl
     go_wp2_with fail
     go_meet
     refine⟨.slice none 0 0,?_⟩
     rw[Vr,e2,e1]
     exact hh
    .have e1:=EZ.out
     have e2:=EN.out
     rw[if_pos rfl]at e1 e2
     have hu:=nU b TR.2.1 TR.2.2 _ OM.out.rd
     rw[<-e1]at hu
     have hv:=fun W (h:aO W b ZR.2.1 ZR.2.2)=>tC b ZR.2.1 ZR.2.2 W h
     rw[<-e2]at hv
     have HU:=Mb hu
     have HV:=Mb hv
     have hmi:min (NR.1:Int) 17=(m:Int):=by omega
     clear hu hv e1 e2 hm
     go_wp2_with fail
     refine HU.out.mono ?_;rintro e w2 ⟨rfl,QX,kk2⟩
     have Qt:=OM.out.read QX kk2
     have Sl:=Qt.set 3 (.int .i64 (ZR.1:Int)) kd IR.1 TR.1 ZR.1 rfl
     have z1:=Qt.rcd.free 3
     have cr2:=Sl.ptr
     obtain⟨b0,b1,b2,b3,b4⟩:=Qt.rcd.c5
     have SV:=HV.out _ Sl.rd
     have HV1:=Mb SV
     have Se:=Mb Sl
     clear Sl Qt QX kk2 SV HU HV
     go_wp2_with fail
     refine HV1.out.mono ?_;rintro e w3 ⟨rfl,hR3,TL⟩
     have V2:=Se.out.read hR3 TL
     have HS4:=Mb V2
     clear V2 TL hR3 HV1 Se b0 b1 b2 b3 b4 z1 cr2 a0 a1 a2 a3 a4 cr OM
     go_wp2_with fail
     go_loopw [9,44] (fun v9 i wr=>∃(j:Nat) (v:Value),j<=m/\i=.int .i64 j/\dW w wr b w.heap.size (w.heap.size+1) xb (kd:Int) IR.1 TR.1 ZR.1 v (NX j NR.2.1 NR.2.2).1 (NX j NR.2.1 NR.2.2).2.1 (NX j NR.2.1 NR.2.2).2.2) (fun _ i _=>m-(intOf i).toNat)
     case atStart=>exact⟨0,_,by omega,rfl,HS4.out⟩
     case round=>
      obtain⟨j,v,hj,rfl,N8⟩:=hrel
      have XD:=ai N8.row
      rw[j6]at XD
      obtain⟨pv,cv,rfl⟩:=XD
      by_cases Ns:j<m
      .have Tb:NX (j+1) NR.2.1 NR.2.2=((NX j NR.2.1 NR.2.2).1++[(((Ny 2 (NX j NR.2.1 NR.2.2).2.1 (NX j NR.2.1 NR.2.2).2.2).1:Int),((Ny 2 (Ny 2 (NX j NR.2.1 NR.2.2).2.1 (NX j NR.2.1 NR.2.2).2.2).2.1 (Ny 2 (NX j NR.2.1 NR.2.2).2.1 (NX j NR.2.1 NR.2.2).2.2).2.2).1:Int))],
        (Ny 2 (Ny 2 (NX j NR.2.1 NR.2.2).2.1 (NX j NR.2.1 NR.2.2).2.2).2.1 (Ny 2 (NX j NR.2.1 NR.2.2).2.1 (NX j NR.2.1 NR.2.2).2.2).2.2).2):=rfl
       have hlen:=j6 j NR.2.1 NR.2.2
       generalize NX j NR.2.1 NR.2.2=RR at*
       have hu:=tC b RR.2.1 RR.2.2 wr N8.rd
       have bu:((Ny 2 RR.2.1 RR.2.2).1:Int)<65536:=by have:=dB 2 RR.2.1 RR.2.2;omega
       generalize Ny 2 RR.2.1 RR.2.2=U1 at*
       have hv:=fun W (h:aO W b U1.2.1 U1.2.2)=>tC b U1.2.1 U1.2.2 W h
       have bv:((Ny 2 U1.2.1 U1.2.2).1:Int)<65536:=by have:=dB 2 U1.2.1 U1.2.2;omega
       generalize Ny 2 U1.2.1 U1.2.2=U2 at*
       have cr:=N8.ptr
       obtain⟨i0,hi0,hz0,PS,P8⟩:=gT
       have Ue:=Mb Tb
       have Oa:=Mb hlen
       have HU:=Mb hu
       have HH:=Mb hv
       have OM:=Mb N8
       have NU:=Mb Ns
       have i1:(j:Int)<m:=by omega
       have ewv:IntKind.i64.wrap (U2.1:Int)=(U2.1:Int):=IntWalk.i64_in _ (by omega)
       have i2:(m:Int)<=17:=by omega
       clear Tb hlen hu hv N8 HS4
       go_wp2_with fail
       refine HU.out.mono ?_;rintro e w3 ⟨rfl,hR3,PE⟩
       have Sl:=OM.out.read hR3 PE
       have cr:=Sl.ptr
       have cg:w3.cell? ⟨xb,4,none⟩=some (.slice pv j cv):=Sl.rcd.cell 4 (by simp)
       have Se:=Mb Sl
       clear Sl hR3 PE OM
       have q3:j+1<=maxLen:=by unfold maxLen;omega
       have q4:(j+1)*16<=140737488355328:=by omega
       go_wp2_with fail
       go_region_law (first
        |(refine step_append_lies _ (by rfl) (.tmp 51) (.tmp 58) 56 (by rfl) w.heap.size 128 i0 (.agg #[.int .i64 0,.int .i64 0]) 2 16 Tryz.underlying56 hi0 hz0 PS P8 rfl (by decide) _ _ _ (by rfl) (Me Qv _) ⟨w4.heap.size,0,none⟩ 1 1 [.int .i64 (U1.1:Int),.int .i64 (U2.1:Int)] (by rfl) rfl (World.news_of_block (M0 w4 _)) (by intro u hu;simp at hu;rcases hu with rfl|rfl<;>rfl) (by decide) q3 q4 (by simp;omega) (w4.heap.size+1) (by simp) ?_;intro g3' VU w5 o3 Sh at3 lt3;have Xf:=cK (Me Qv _) Sh (HS4.out.rcd.alloc _) (by decide);have hc5:w5.cell? ⟨xb,4,none⟩=some (.slice pv j cv):=ae.cell Xf 4 (by simp);have hf5:w5.frozen? ⟨xb,4,none⟩=false:=Xf.free 4)
        |(go_simp;go_at_call 244;((with_reducible refine(HH.out _ ?_).mono ?_));(first|exact Se.out.rd|exact ae.drew Se.out.rd);rintro e w4 ⟨rfl,Ut,Rp⟩;have V2:dW w w4 b w.heap.size (w.heap.size+1) xb (kd:Int) IR.1 TR.1 ZR.1 (.slice pv j cv) RR.1 U2.2.1 U2.2.2:=(by first|exact(Se.out.keep ((aa.refl [] _).drew)).read Ut Rp|exact Se.out.read Ut Rp);have HS4:=Mb V2;have Qv:w4.ownsRow w.heap.size 128 2 (.slice pv j cv) j (No RR.1):=(by have:=V2.row;unfold bS at this;rw[Oa.out]at this;exact this);have TO:w.heap.size<=w4.heap.size:=V2.kept.size;have cg4:w4.cell? ⟨xb,4,none⟩=some (.slice pv j cv):=V2.rcd.cell 4 (by simp);have adM:∀o,(w4.alloc o).cell? ⟨xb,4,none⟩=some (.slice pv j cv):=fun o=>ae.cell (V2.rcd.alloc o) 4 (by simp);clear V2))
       all_goals go_wp2_with fail
       all_goals
        have hm6:=dW.more HS4.out Sh (by rw[Oa.out];exact o3)
        have ej:NX (j+1) NR.2.1 NR.2.2=(RR.1++[((U1.1:Int),(U2.1:Int))],U2.2):=Ue.out
        have Sa:=NU.out
        refine⟨⟨j+1,_,by omega,rfl,by rw[ej];exact hm6⟩,?_⟩
        simp[intOf];omega
      .obtain rfl:j=m:=by omega
       have OM:=Mb N8
       clear N8 HS4
       go_wp2_with fail
       go_meet
       exact⟨_,OM.out⟩
   case rest=>
    obtain⟨v,N8⟩:=hcut
    clear OM cr a0 a1 a2 a3 a4 EZ EN BD
    have N6:=FIN.out
    have N4:=FIT.out
    generalize NX m NR.2.1 NR.2.2=RR at*
    have Nt:=N8.row
    have XD:=ai Nt
    rw[Po]at XD
    obtain⟨pv,cv,rfl⟩:=XD
    have aeg:w.heap.size+1≠b:=by omega
    have aeb:=N8.hxb
    have hn3:w.heap.size+1≠xb:=N8.n3
    have hke:∀W,aa [w.heap.size+1] wc W->dW w W b w.heap.size (w.heap.size+1) xb (kd:Int) IR.1 TR.1 ZR.1 (.slice pv m cv) RR.1 RR.2.1 RR.2.2\/True:=fun W _=>Or.inr trivial
    have PF:∀W,aa [w.heap.size+1] wc W->aO W b RR.2.1 RR.2.2:=fun W kk=>kk.own N8.rd (by simp;omega)
    have ZN:∀W,aa [w.heap.size+1] wc W->bS w W (.slice pv m cv) RR.1:=fun W kk=>cw Nt kk N8.out (by decide)
    have hS:∀W,aa [w.heap.size+1] wc W->(W.cell? ⟨w.heap.size,0,none⟩=some (.pointer (some ⟨b,0,none⟩))/\W.cell? ⟨xb,0,none⟩=some (.int .i64 (kd:Int))/\W.cell? ⟨xb,1,none⟩=some (.int .u32 (IR.1:Int))/\W.cell? ⟨xb,2,none⟩=some (.string (bs TR.1))/\W.cell? ⟨xb,3,none⟩=some (.int .i64 (ZR.1:Int))/\W.cell? ⟨xb,4,none⟩=some (.slice pv m cv)):=fun W kk=>by
     have q:=(kk.own N8.rcd (by simp;omega)).c5
     exact⟨(kk.own N8.box (by simp)).cell 0 (by simp),q⟩
    have hE:∀W,aa [w.heap.size+1] wc W->Calls Tryz.prog 197 #[.pointer (some ⟨b,0,none⟩)] W fun e w'=>e=.returned (.int .i64 RR.2.2)/\W=w':=fun W kk=>Bm b _ _ W (PF W kk)
    have HE:=Mb hE
    have RO:=Mb PF
    have HRN:=Mb ZN
    obtain⟨r,hr⟩:∃r:ag,r=⟨(kd:Int),(IR.1:Int),TR.1,(ZR.1:Int),RR.1⟩:=⟨_,rfl⟩
    rw[<-hr]at N6 N4
    have adw:RR.1.length<=17:=by rw[Po];omega
    have QC:aa [b] w wc:=N8.kept
    have hC:∀W,aa [w.heap.size+1] wc W->Calls Tryz.prog 98 #[.agg #[.int .i64 (kd:Int),.int .u32 (IR.1:Int),.string (bs TR.1),.int .i64 (ZR.1:Int),.slice pv m cv]] W fun e w'=>e=.returned (.int .i64 (if az r then 0 else 1))/\aa [w.heap.size+1] wc w'/\w'.cell? ⟨w.heap.size,0,none⟩=some (.pointer (some ⟨b,0,none⟩))/\w'.cell? ⟨xb,0,none⟩=some (.int .i64 (kd:Int))/\w'.cell? ⟨xb,1,none⟩=some (.int .u32 (IR.1:Int))/\w'.cell? ⟨xb,2,none⟩=some (.string (bs TR.1))/\w'.cell? ⟨xb,3,none⟩=some (.int .i64 (ZR.1:Int))/\w'.cell? ⟨xb,4,none⟩=some (.slice pv m cv)/\(∀cs:Array Value,ae W (w.heap.size+1) cs 102->ae w' (w.heap.size+1) cs 102):=fun W kk=>by
     have hc:=tV r (.slice pv m cv) w.heap.size W.heap.size W (by rw[hr];exact af.bo (ZN W kk)) (by rw[hr];show RR.1.length<=_;omega) N4
     rw[hr]at hc
     rw[hr]
     refine hc.mono fun e w' hh=>?_
     have k2:=kk.trans (hh.2.mono (by simp))
     obtain⟨s0,s1⟩:=hS w' k2
     exact⟨hh.1,k2,s0,s1.1,s1.2.1,s1.2.2.1,s1.2.2.2.1,s1.2.2.2.2,fun cs o=>hh.2.own o (by simp)⟩
    have HS:=Mb hS
    obtain⟨s0,s1,s2,s3,s4,s5⟩:=hS wc (aa.refl _ _)
    clear hS
    have z0:=N8.out.z5
    obtain⟨o0,o1,o2,o3,o4⟩:=N8.out.c5
    have PN:∀W ok,aa [w.heap.size+1] wc W->((RR.2.2=0/\az r=true)↔ok=true)->uC b l w (.returned (.tuple #[.agg #[.int .i64 (kd:Int),.int .u32 (IR.1:Int),.string (bs TR.1),.int .i64 (ZR.1:Int),.slice pv m cv],.bool ok])) W:=fun W ok kk OJ=>by
     refine⟨r,.slice pv m cv,by rw[hr];exact ZN W kk,N4,QC.call kk (by simp),?_⟩
     cases ok
     .exact Or.inr ⟨by rw[N6,if_neg (fun hh=>by have:=OJ.1 hh;cases this)],by rw[hr];rfl⟩
     .have h2:=OJ.2 rfl
      exact Or.inl ⟨RR.2.1,by rw[N6,if_pos h2],by have:=PF W kk;rw[h2.1]at this;exact this,by rw[hr];rfl⟩
    have OU:=Mb PN
    clear hE PF ZN hke PN N6 N4 FIN FIT
    go_upto_region 15 with fail
    by_cases hx:RR.2.2=0
    .have hdx:(RR.2.2==0)=true:=by rw[hx];rfl
     cases hM:az r
     .rw[hM]at hC
      simp only[Bool.false_eq_true,if_false]at hC
      have HC:=Mb hC
      have OJ:=fun W kk=>OU.out W false kk (by rw[hM];simp)
      have Ql:=Mb OJ
      clear hC OJ OU
      go_region_held3 (fun W=>W.cell? ⟨w.heap.size,0,none⟩=some (.pointer (some ⟨b,0,none⟩))/\W.cell? ⟨xb,0,none⟩=some (.int .i64 (kd:Int))/\W.cell? ⟨xb,1,none⟩=some (.int .u32 (IR.1:Int))/\W.cell? ⟨xb,2,none⟩=some (.string (bs TR.1))/\W.cell? ⟨xb,3,none⟩=some (.int .i64 (ZR.1:Int))/\W.cell? ⟨xb,4,none⟩=some (.slice pv m cv)) (first|go_keep|exact HS.out _ (by repeat' first|exact aa.refl _ _|exact Ra|refine aa.drew ?_|refine aa.drewN ?_ _|refine aa.setCell ?_ (Or.inl (by simp)) _)) (first|(go_at_call 197;((with_reducible refine(HE.out _ ?_).mono ?_));(repeat' first|exact aa.refl _ _|exact Ra|refine aa.drew ?_|refine aa.drewN ?_ _|refine aa.setCell ?_ (Or.inl (by simp)) _);rintro e w' ⟨rfl,rfl⟩)|(go_at_call 98;((with_reducible refine(HC.out _ ?_).mono ?_));(repeat' first|exact aa.refl _ _|exact Ra|refine aa.drew ?_|refine aa.drewN ?_ _|refine aa.setCell ?_ (Or.inl (by simp)) _);rintro e w5 ⟨rfl,Ra,q0,q1,q2,q3,q4,q5,Uw⟩;(first|(have Vd:=Uw _ (by(repeat' first|exact N8.out|refine ae.drew ?_));obtain⟨u0,u1,u2,u3,u4⟩:=Vd.c5;have uz:=Vd.z5)|(have Vd:=Uw _ (ae.pP (by(repeat' first|exact N8.out|refine ae.drew ?_)) _ _ _ _ _)))))
      all_goals go_wp2_with fail
      all_goals
       refine Mx (v:=.tuple #[.agg #[.int .i64 (kd:Int),.int .u32 (IR.1:Int),.string (bs TR.1),.int .i64 (ZR.1:Int),.slice pv m cv],.bool false]) ?_ ?_ ?_
       .refine ak Tryz.results247 rfl rfl (t:=102) ?_ Tryz.underlying102 rfl (by kernel_rfl)
        with_reducible first|exact Vd|exact ae.pP Vd _ _ _ _ _|exact ae.pP (ae.drew Vd) _ _ _ _ _
       .rfl
       .exact Ql.out _ (by repeat' first|exact aa.refl _ _|exact Ra|refine aa.drew ?_|refine aa.drewN ?_ _|refine aa.setCell ?_ (Or.inl (by simp)) _)
     .rw[hM]at hC
      simp only[if_true]at hC
      have HC:=Mb hC
      have OJ:=fun W kk=>OU.out W true kk (by rw[hM];simp[hx])
      have Ql:=Mb OJ
      clear hC OJ OU
      go_region_held3 (fun W=>W.cell? ⟨w.heap.size,0,none⟩=some (.pointer (some ⟨b,0,none⟩))/\W.cell? ⟨xb,0,none⟩=some (.int .i64 (kd:Int))/\W.cell? ⟨xb,1,none⟩=some (.int .u32 (IR.1:Int))/\W.cell? ⟨xb,2,none⟩=some (.string (bs TR.1))/\W.cell? ⟨xb,3,none⟩=some (.int .i64 (ZR.1:Int))/\W.cell? ⟨xb,4,none⟩=some (.slice pv m cv)) (first|go_keep|exact HS.out _ (by repeat' first|exact aa.refl _ _|exact Ra|refine aa.drew ?_|refine aa.drewN ?_ _|refine aa.setCell ?_ (Or.inl (by simp)) _)) (first|(go_at_call 197;((with_reducible refine(HE.out _ ?_).mono ?_));(repeat' first|exact aa.refl _ _|exact Ra|refine aa.drew ?_|refine aa.drewN ?_ _|refine aa.setCell ?_ (Or.inl (by simp)) _);rintro e w' ⟨rfl,rfl⟩)|(go_at_call 98;((with_reducible refine(HC.out _ ?_).mono ?_));(repeat' first|exact aa.refl _ _|exact Ra|refine aa.drew ?_|refine aa.drewN ?_ _|refine aa.setCell ?_ (Or.inl (by simp)) _);rintro e w5 ⟨rfl,Ra,q0,q1,q2,q3,q4,q5,Uw⟩;(first|(have Vd:=Uw _ (by(repeat' first|exact N8.out|refine ae.drew ?_));obtain⟨u0,u1,u2,u3,u4⟩:=Vd.c5;have uz:=Vd.z5)|(have Vd:=Uw _ (ae.pP (by(repeat' first|exact N8.out|refine ae.drew ?_)) _ _ _ _ _)))))
      all_goals go_wp2_with fail
      all_goals
       refine Mx (v:=.tuple #[.agg #[.int .i64 (kd:Int),.int .u32 (IR.1:Int),.string (bs TR.1),.int .i64 (ZR.1:Int),.slice pv m cv],.bool true]) ?_ ?_ ?_
       .refine ak Tryz.results247 rfl rfl (t:=102) ?_ Tryz.underlying102 rfl (by kernel_rfl)
        with_reducible first|exact Vd|exact ae.pP Vd _ _ _ _ _|exact ae.pP (ae.drew Vd) _ _ _ _ _
       .rfl
       .exact Ql.out _ (by repeat' first|exact aa.refl _ _|exact Ra|refine aa.drew ?_|refine aa.drewN ?_ _|refine aa.setCell ?_ (Or.inl (by simp)) _)
    .have hdx:(RR.2.2==0)=false:=by simpa using hx
     have aea:(RR.2.2 != 0)=true:=by simpa using hx
     have OJ:=fun W kk=>OU.out W false kk (by simp[hx])
     have Ql:=Mb OJ
     clear hC OJ OU
     refine Ml (S:=(fun W=>W.cell? ⟨w.heap.size,0,none⟩=some (.pointer (some ⟨b,0,none⟩))/\W.cell? ⟨xb,0,none⟩=some (.int .i64 (kd:Int))/\W.cell? ⟨xb,1,none⟩=some (.int .u32 (IR.1:Int))/\W.cell? ⟨xb,2,none⟩=some (.string (bs TR.1))/\W.cell? ⟨xb,3,none⟩=some (.int .i64 (ZR.1:Int))/\W.cell? ⟨xb,4,none⟩=some (.slice pv m cv))) (by kernel_rfl) (by(first|go_keep|exact HS.out _ (by repeat' first|exact aa.refl _ _|refine aa.drew ?_|refine aa.drewN ?_ _|refine aa.setCell ?_ (Or.inl (by simp)) _))) (fun hHeld=>?_)
     refine tk 0 62 ?_
     refine tk 1 63 ?_
     refine tk 2 64 ?_
     refine rd 3 (fun K hK=>?_)
     go_simp
     ((with_reducible refine(HE.out _ (by repeat' first|exact aa.refl _ _|refine aa.drew ?_|refine aa.drewN ?_ _|refine aa.setCell ?_ (Or.inl (by simp)) _)).mono ?_));rintro e w' ⟨rfl,rfl⟩
     go_wp2_with fail
     refine hK.out _ _ ?_ (fun hHeld=>nm ?_)
     ·(first|go_keep|exact HS.out _ (by repeat' first|exact aa.refl _ _|refine aa.drew ?_|refine aa.drewN ?_ _|refine aa.setCell ?_ (Or.inl (by simp)) _))
     clear hK K
     refine tk 4 66 ?_
     refine tk 5 67 ?_
     refine tn 6 68 ?_
     refine tn 7 69 ?_
     refine tn 8 70 ?_
     refine tk 9 71 ?_
     refine rd 10 (fun K hK=>?_)
     go_simp
     refine hK.out _ _ ?_ (fun hHeld=>nm ?_)
     ·(first|go_keep|exact HS.out _ (by repeat' first|exact aa.refl _ _|refine aa.drew ?_|refine aa.drewN ?_ _|refine aa.setCell ?_ (Or.inl (by simp)) _))
     clear hK K
     refine tk 11 3 ?_
     refine MM (by kernel_rfl) ?_ _
     go_wp2_with fail
     refine Mx (v:=.tuple #[.agg #[.int .i64 (kd:Int),.int .u32 (IR.1:Int),.string (bs TR.1),.int .i64 (ZR.1:Int),.slice pv m cv],.bool false]) ?_ ?_ ?_
     .refine ak Tryz.results247 rfl rfl (t:=102) ?_ Tryz.underlying102 rfl (by kernel_rfl)
      with_reducible first|exact ae.pP N8.out _ _ _ _ _|exact ae.drew (ae.pP N8.out _ _ _ _ _)
     .rfl
     .exact Ql.out _ (by repeat' first|exact aa.refl _ _|refine aa.drew ?_|refine aa.drewN ?_ _|refine aa.setCell ?_ (Or.inl (by simp)) _)
end Go.Proofs.YtdkimcnlhmhpgaaGreat

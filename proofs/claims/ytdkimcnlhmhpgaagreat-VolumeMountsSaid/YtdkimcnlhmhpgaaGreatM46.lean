/- -/
import Derived.Test.YtdkimcnlhmhpgaaGreatM43
import Derived.Test.YtdkimcnlhmhpgaaGreatM45
set_option maxHeartbeats 32000000
set_option maxRecDepth 100000
namespace Go.Proofs.YtdkimcnlhmhpgaaGreat
open Go.Proofs.Tryz Go.ChangeShapes Go.WideShapes Go.RowKit
variable {n:Nat} {img:List UInt8}
section
variable {H:Type} {enc:TypeId×Value->H} {w:World} {base:Nat} {held:Bool} {r:Reach} {b0:Nat}
theorem aaR {v:Value} {d:DataW H} {p:List MemPlace} (hv:Value.okWide prog w r b0 61 v) (h:DataW.Trod enc prog w base (fun _=>true) held 61 v d p):∃l,jJ w v l 0 w:=by
 obtain⟨a0,len,cap,rfl⟩:=okWide_slice underlying61 hv
 obtain⟨fuel,hf⟩:=h
 exact vK (by simpa[Value.cells]using hf)
end
theorem DM {w:World} {b off cap:Nat} {l:List UInt8} (h:∀i (h:i<l.length),w.cell? (aa b (off+i))=some (.int .u8 (l[i].toNat:Int))) (hn:n<=l.length):(convert 61 9 (.slice (some (aa b off)) n cap)).run prog w=.ok (.string (bs (l.take n))) w:=by
 have hl:(l.take n).length=n:=_w
 have h2:=Lib.run_convert_whole (P:=prog) w 61 5 9 underlying61 underlying5 underlying9 b off (bs (l.take n)) (fun i hi=>by
  have hi':i<(l.take n).length:=by rw[<-NQ];exact hi
  have QZ:i<l.length:=_a
  rw[h i QZ]
  have e:(l.take n)[i]'hi'=l[i]:=List.getElem_take
  show some (Value.int .u8 (l[i].toNat:Int))=some (.int .u8 (((l.take n)[i]'hi').toNat:Int))
  rw[e]) cap
 rw[NQ,hl]at h2
 exact h2
theorem Iw {i:Nat} (h:img.length=128*n) (hi:i<n):(PQ img i).length=128:=by
 unfold PQ
 rw[MO,MQ]
 omega
theorem FG (h:img.length=128*n):dA img n n=(List.range n).map (PQ img)/\(∀s∈(List.range n).map (PQ img),s.length=128)/\((List.range n).map (PQ img)).length=n/\((List.range n).map (PQ img)).flatten=img:=by
 have e:dA img n n=(List.range n).map (PQ img):=by unfold dA;rw[Nat.sub_self,List.replicate_zero,NO]
 refine⟨e,fun s hs=>?_,by rw[MP,List.length_range],by rw[<-e];exact De img n h⟩
 obtain⟨i,hi,rfl⟩:=ND.1 hs
 exact Iw h (List.mem_range.1 hi)
theorem abJ (vi:Value) (im:List UInt8) (w:World) (hi:jJ w vi im 0 w):
  am! 5 #[vi] w fun e w'=>e=true/\Below w w w':=by
 have hlen:=hi.len
 unfold maxLen at hlen
 have HAW:=tK (fun W=>Jb W)
 obtain⟨n,hn⟩:∃n,im.length/128=n:=⟨_,rfl⟩
 have hq:(im.length:Int).tdiv 128=(n:Int):=by rw[Int.tdiv_eq_ediv_of_nonneg _a];omega
 have ae1:wrap64 (n:Int)=(n:Int):=IntWalk.wrap64_in _ _a
 obtain⟨pi,ci,rfl⟩:=hi.shape
 by_cases hr:n<1\/90<n
 .have Th:(n:Int)<1\/((1:Int)<=n/\(90:Int)<n):=_a
  clear hi hn hr
  rcases Th with i1|⟨i1,i2⟩
  all_goals
   go_enter func5,ntmps5
   go_wp2_with fail
   refine(HAW.out _).mono ?_;rintro e w2 ⟨rfl,k2⟩
   have HF:=tK k2.below
   clear k2
   go_wp2_with fail
   go_ret
   exact⟨rfl,HF.out⟩
 .have QX:1<=n/\n<=90/\n*128<=im.length:=_a
  have i1:¬(n:Int)<1:=_a
  have i2:¬(90:Int)<n:=_a
  rcases hi with⟨rfl,_⟩|⟨b0,off,c0,e0,hc,_,_,_,Pb,hcap,PT⟩
  .simp at QX;omega
  injection e0 with e1 _ e2
  subst e1 e2
  have HCV:Hid (∀cap,(convert 61 9 (.slice (some (aa b0 off)) (n*128) cap)).run prog w=.ok (.string (bs (im.take (n*128)))) w):=tK (fun cap=>DM hc _a)
  have PX:(im.take (n*128)).length=128*n:=_w
  have⟨e1,e2,e3,e4⟩:=FG PX
  have HN:=tK QX
  obtain⟨N,hN⟩:∃N,n*128=N:=⟨_,rfl⟩
  rw[hN]at HCV HN PX e1 e2 e3 e4
  have hN2:(n:Int)*128=(N:Int):=_a
  have j2:(N:Int)<=(ci:Int):=by have:=HN.out;omega
  have aew:=HCV.out
  clear hN HCV
  clear hr hc
  go_enter func5,ntmps5
  obtain⟨st,Oo⟩:∃st,(List.range n).map (PQ (im.take N))=st:=⟨_,rfl⟩
  rw[Oo]at e1 e2 e3 e4
  have hql:=fun W=>Ld (im.take N) n W PX _a _a
  rw[Oo]at hql
  have Oq:dS (QP st):=⟨fun x hx=>J!,e2⟩
  have hld:=fun W=>J6 (d:=QP st) Oq (by show 1<=st.length;omega) (by show st.length<=8192;omega) W
  have e5:(QP st).stand.flatten=im.take N:=e4
  rw[e5]at hld
  have⟨HLD,HQL,Y9,HE5⟩:=gh! hld hql Oq e5
  have OZ:Hid ((QP st).stand.length<=96):=tK (by show st.length<=96;omega)
  have HD0:Hid ((QP st).down=false/\(QP st).ops=0):=tK ⟨rfl,rfl⟩
  clear Oo e1 e2 e3 e4 e5 PX hql Oq hld QX hlen hn Pb hcap PT
  generalize im.take N=img at*
  generalize hds:QP st=d at*
  have QG:QP d.stand=d:=by rw[<-hds];rfl
  have Ye:=tK QG
  clear hds QG
  go_upto_region 5 with fail
  clear aew hN2 j2 i1 i2 ae1 hq
  go_wp2_with fail
  refine(HLD.out _).mono ?_;rintro e w1 ⟨b,sb,mb,lo,rfl,hD,k1,h1,h2,h3,h4⟩
  rw[Ye.out]at hD
  have⟨HD,K1⟩:=_f hD k1
  clear hD k1 h1 h2 h3 h4 HLD
  go_wp2_with fail
  refine(HQL.out _).mono ?_;rintro e w2 ⟨rfl,hR,k2⟩
  have hS:kQ w2 b sb mb lo w1 w1 d:=⟨HD.out.aJ k2,⟨hR,Y9.out⟩,HD.out.bU (fun x hx=>by cases hx) k2 (MG _),HD.out.sC⟩
  have HS:=tK hS
  have K2:=tK (K1.out.trans k2)
  have VK:=tK (za hS OZ.out none none)
  unfold xW at VK
  clear hR k2 hS HQL
  generalize w1.heap.size=r at*
  go_wp2_with fail
  refine VK.out.mono ?_;rintro e w3 ⟨⟨vp,rp,rfl,hO⟩,k3⟩
  have HO:=tK hO
  have K3:=tK (K2.out.trans k3)
  have o7:=ae.new w3 #[b,r,.pointer vp,.pointer rp] 66
  have k4:=(NP.refl [] w3).alloc (.cells #[b,r,.pointer vp,.pointer rp] 66)
  clear hO k3 VK HS
  go_upto_region 9 with fail
  obtain⟨w4,Yd⟩:∃w4,w3.alloc (.cells #[b,r,.pointer vp,.pointer rp] 66)=w4:=⟨_,rfl⟩
  rw[Yd]at o7 k4 ⊢
  obtain⟨n7,hn7⟩:∃n,w3.heap.size=n:=⟨_,rfl⟩
  rw[hn7]at o7 ⊢
  have O7:=tK o7
  have K4:=tK (K3.out.trans k4)
  have hS4:=(HO.out.aJ k4).side
  have HS4:=tK hS4
  have HOP:=tK (J8 b sb mb lo d w4 hS4.da.disk)
  have HIM:=tK hS4.da.image
  rw[HE5.out]at HIM
  have⟨x0,x1,x2,x3⟩:=o7.c4
  have hz:(d.ops:Int)=0:=by rw[HD0.out.2];rfl
  rw[hz]at HOP
  clear Yd hn7 o7 k4 hS4 hz
  go_wp2_with fail
  refine HOP.out.mono ?_;rintro e w4' ⟨rfl,hW⟩
  subst hW
  go_wp2_with fail
  refine HIM.out.mono ?_;rintro e w5 ⟨rfl,_,k5⟩
  have K5:=tK (K4.out.trans k5)
  have HS5:=tK (HS4.out.aJ k5)
  have O75:=tK (k5.own O7.out _b)
  have Ul:=tK (za HS5.out OZ.out vp rp)
  unfold xW at Ul
  clear x0 x1 x2 x3 k5
  have⟨x0,x1,x2,x3⟩:=O75.out.c4
  go_wp2_with fail
  refine Ul.out.mono ?_;rintro e w6 ⟨⟨vp2,rp2,rfl,hO2⟩,k6⟩
  have hvv:(vp=none/\vp2=none)\/∃B B2,vp=some ⟨B,0,none⟩/\vp2=some ⟨B2,0,none⟩:=by
   rcases HO.out with⟨a1,a2,_⟩|⟨B,R,v,a1,a2,_⟩
   .rcases hO2 with⟨b1,b2,_⟩|⟨B2,R2,v2,b1,b2,_⟩
    .exact Or.inl ⟨a2,b2⟩
    .rw[a1]at b1;cases b1
   .rcases hO2 with⟨b1,b2,_⟩|⟨B2,R2,v2,b1,b2,_⟩
    .rw[a1]at b1;cases b1
    .exact Or.inr ⟨B,B2,a2,b2⟩
  have⟨HVV,HS6⟩:=_f hvv hO2.side
  have K6:=tK (K5.out.trans k6)
  have O76:=tK (k6.own O75.out _b)
  have o9:=ae.new w6 #[b,r,.pointer vp2,.pointer rp2] 66
  have k7:=(NP.refl [] w6).alloc (.cells #[b,r,.pointer vp2,.pointer rp2] 66)
  clear hvv hO2 k6 Ul x0 x1 x2 x3
  go_upto_region 12 with fail
  obtain⟨w7,hw7⟩:∃w7,w6.alloc (.cells #[b,r,.pointer vp2,.pointer rp2] 66)=w7:=⟨_,rfl⟩
  rw[hw7]at o9 k7 ⊢
  obtain⟨n9,hn9⟩:∃n,w6.heap.size=n:=⟨_,rfl⟩
  rw[hn9]at o9 ⊢
  have O77:=tK (k7.own O76.out _b)
  have K7:=tK (K6.out.trans k7)
  have hmt:=BW (HS6.out.aJ k7).da OZ.out
  unfold ij at hmt
  have HMT:=tK hmt
  have⟨x0,x1,x2,x3⟩:=O77.out.c4
  have⟨y0,y1,y2,y3⟩:=o9.c4
  clear hw7 hn9 o9 k7 hmt
  rcases HVV.out with⟨rfl,rfl⟩|⟨B,B2,rfl,rfl⟩
  all_goals
   go_wp2_with fail
   refine HMT.out.mono ?_;rintro e w8 ⟨hc,k8⟩
   have hcc:∃(q:Option Addr) (C:Int),e=.returned (.tuple #[.pointer q,C])/\((C==0)=true\/((C==0)=false/\(C==110)=true)):=by
    rcases hc with⟨h,_⟩|⟨_,_,h⟩|⟨_,s',c',_,B',sv2,vb2,vm2,vn2,_,_,_,_,h⟩
    .rw[HD0.out.1]at h;cases h
    .exact⟨_,110,h,Or.inr ⟨rfl,rfl⟩⟩
    .exact⟨_,0,h,Or.inl rfl⟩
   have K8:=tK (K7.out.trans k8)
   clear hc k8
   obtain⟨q,C,rfl,hC⟩:=hcc
   rcases hC with h0|⟨h0,h1⟩
   all_goals
    go_wp2_with fail
    refine(HAW.out _).mono ?_;rintro e w9 ⟨rfl,k9⟩
    have HF:=tK (K8.out.trans k9).below
    clear k9
    go_wp2_with fail
    go_ret
    exact⟨rfl,HF.out⟩

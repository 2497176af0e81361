/- -/
import Derived.Test.YtdkimcnlhmhpgaaGreatM25
set_option maxHeartbeats 32000000
set_option maxRecDepth 100000
namespace Go.Proofs.YtdkimcnlhmhpgaaGreat
open Go.Proofs.Tryz Go.RowKit
variable {w wa w':World} {base size n:Nat} {e:TypeId} {v u va vb vc:Value} {xs ys zs:List (NS×Value)} {x:NS×Value}
theorem MD (v:Value) (l:List ag) (lo hi:Nat) (w:World) (h:bX w v l lo hi) (hl:l.length<=3000) (Pf:∀r∈l,gB r):
  am! 156 #[v] w fun e w'=>e=.returned (.string (bs (fZ l)))/\NP [] w w':=by
 obtain⟨p,c,rfl⟩:=bS.shape h
 have Tg:(l.length:Int)<=3000:=_a
 have e0:=bC l.length _a
 have hu:=fun W=>Bh l.length W _a
 have⟨HU,H,QH⟩:=gg! hu h Pf
 clear hu h Pf
 go_enter func156,ntmps156
 go_wp2_with fail
 refine(HU.out _).mono ?_;rintro e w1 ⟨rfl,OP⟩
 clear e0
 go_wp2_with fail
 go_loopw [3,4] (fun t i wr=>∃k:Nat,k<=l.length/\i=(k:Int)/\t=.string (bs (NT l.length 2++((l.take k).map OD).flatten))/\NP [] w wr) (fun _ i _=>l.length-(intOf i).toNat)
 case atStart=>exact⟨0,_a,rfl,_b,OP⟩
 case round=>
  obtain⟨k,hk,rfl,rfl,hK⟩:=hrel
  have hlen:=tt hl hk (fun j hj _=>QH.out _ (MJ hj))
  by_cases NV:k<l.length
  .obtain⟨b',off,kv,rfl,c0,c1,c2,c3,c4,hr,Oq,_,hbh,hhw⟩:=(H.out.kept0 hK).at_ k NV
   obtain⟨pk,ck,rfl⟩:=hr.shape
   have ho:=QH.out _ (MJ NV)
   have PF:=uI l k NV
   have XN:=fun W (kk:NP [] wr W)=>Mf l[k] _ lo hi W (hr.kept0 kk) ho
   have Y0:=rm ho
   have⟨Sm,HBY,Of,OZ⟩:=gh! PF XN NV hlen
   have i1:(k:Int)<l.length:=_a
   have y1:(bs (OD l[k])).size<=200:=by rw[NQ];exact Y0
   have y0:(bs (NT l.length 2++((l.take k).map OD).flatten)).size<=600100:=by rw[NQ];exact hlen
   have Tz:Hid (bs (NT l.length 2++((l.take k).map OD).flatten)++bs (OD l[k])=bs (NT l.length 2++((l.take (k+1)).map OD).flatten)):=by
    show _=_;rw[aw,Sm.out];simp only[MW];rfl
   clear PF XN hlen hr Oq ho Y0
   unfold ag.cells at HBY
   generalize bs (OD l[k])=RB at*
   generalize bs (NT l.length 2++((l.take k).map OD).flatten)=S0 at*
   generalize l[k].kind=rk at*
   generalize l[k].id=ri at*
   generalize l[k].name=rn at*
   generalize l[k].size=rs at*
   generalize l[k].runs.length=rr at*
   go_wp2_with fail
   refine(HBY.out _ (NP.refl _ _)).mono ?_;rintro e w3 ⟨rfl,k3⟩
   have kk:=hK.trans k3
   have yy:(S0++RB).size=S0.size+RB.size:=ByteArray.size_append
   go_wp2_with fail
   go_roundw
   case rel=>exact⟨k+1,Of.out,_j,by rw[<-Tz.out],kk⟩
   case measure=>(have hh:=Of.out;simp[intOf];omega)
  .obtain rfl:k=l.length:=_a
   rw[MU]at hlen ⊢
   have Vp:NT l.length 2++(l.map OD).flatten=aN l:=rfl
   rw[Vp]at hlen ⊢
   have e1:=bC (aN l).length _a
   have hz:(bs (aN l)).size=(aN l).length:=NQ _
   have hcr:=iJ (aN l)
   have e2:=bC (PE (aN l)) _a
   have h1:=fun W=>fR (aN l).length W _a
   have h2:=fun W=>Au (bs (aN l)) W K!
   have h3:=fun W=>fR (PE (aN l)) W _a
   rw[cC]at h2
   have Oy:Hid (bs (NT (aN l).length 4)++bs (NT (PE (aN l)) 4)++bs (aN l)=bs (fZ l)):=by
    show _=_;rw[aw,aw,MW];rfl
   have y1:(bs (NT (aN l).length 4)).size=4:=_q
   have y2:(bs (NT (PE (aN l)) 4)).size=4:=_q
   have y3:(bs (aN l)).size<=600100:=K!
   have yy:(bs (NT (aN l).length 4)++bs (NT (PE (aN l)) 4)).size=8:=by rw[ByteArray.size_append,y1,y2]
   have⟨H1,H2,H3⟩:=gg! h1 h2 h3
   have US:((aN l).length:Int)<=600100:=_a
   clear h1 h2 h3 Vp
   generalize bs (NT (aN l).length 4)=M1 at*
   generalize bs (NT (PE (aN l)) 4)=M2 at*
   generalize bs (aN l)=M3 at*
   generalize PE (aN l)=cr at*
   generalize (aN l).length=bl at*
   go_wp2_with fail
   refine(H1.out _).mono ?_;rintro e w2 ⟨rfl,k2⟩
   go_wp2_with fail
   refine(H2.out _).mono ?_;rintro e w3 ⟨rfl,k3⟩
   go_wp2_with fail
   refine(H3.out _).mono ?_;rintro e w4 ⟨rfl,k4⟩
   have kk:=((hK.trans k2).trans k3).trans k4
   go_wp2_with fail
   go_ret
   exact⟨by rw[<-Oy.out];rfl,kk⟩
theorem zj (v:Value) (c:au) (w:World) (h:dJ w v c) (Pz:OL c) (hlen:c.boxes.length+c.mans.length+c.names.length<=3000):
  am! 147 #[v] w fun e w'=>e=.returned (.string (bs (bN c)))/\NP [] w w':=by
 have SZ:Hid (∀W,NP [] w W->am! 208 #[v] W (fm c W)):=tK (fun W q=>xa v c W (h.kept0 q) _a)
 have VU:Hid (∀W u lo hi,bX W u (Ov c) lo hi->(∀r∈Ov c,gB r)->am! 156 #[u] W fun e w'=>e=.returned (.string (bs (fZ (Ov c))))/\NP [] W w'):=tK (fun W u lo hi hu ho=>MD u (Ov c) lo hi W hu (by rw[fN];omega) ho)
 obtain⟨vb,vm,vn,rfl,hb,hm,hn,Rp,Te⟩:=h
 obtain⟨p1,c1,rfl⟩:=hb.shape
 obtain⟨p2,c2,rfl⟩:=hm.shape
 obtain⟨p3,c3,rfl⟩:=hn.shape
 have⟨b1,b2⟩:=eG Rp
 have⟨b3,b4⟩:=eG Te
 have⟨nb,RG⟩:=MM b1
 have⟨nm,Rb⟩:=MM b3
 have EW1:Hid (IntKind.u64.wrap c.nextBox=c.nextBox):=tK (by rw[RG];exact bC nb _a)
 have EW2:Hid (IntKind.u64.wrap c.nextMan=c.nextMan):=tK (by rw[Rb];exact bC nm _a)
 have ZU:Hid (∀W,am! 214 #[.int .u64 c.nextBox,(4:Int)] W fun e w'=>e=.returned (.string (bs (NT nb 4)))/\NP [] W w'):=tK (fun W=>by rw[RG];exact fR nb W _a)
 have YQ:Hid (∀W,am! 214 #[.int .u64 c.nextMan,(4:Int)] W fun e w'=>e=.returned (.string (bs (NT nm 4)))/\NP [] W w'):=tK (fun W=>by rw[Rb];exact fR nm W _a)
 unfold fm at SZ
 have oA:=ae.new w #[(c.nextBox,()),(c.nextMan,()),(p1,c.boxes.length,c1),(p2,c.mans.length,c2),(p3,c.names.length,c3)] 52
 have k0:NP [] w (w.alloc (.cells #[(c.nextBox,()),(c.nextMan,()),(p1,c.boxes.length,c1),(p2,c.mans.length,c2),(p3,c.names.length,c3)] 52)):=(NP.refl _ _).alloc _
 have⟨OA,K0⟩:=_f oA k0
 have HNU:Hid (NT nb 4=NT c.nextBox.toNat 4/\NT nm 4=NT c.nextMan.toNat 4):=tK (by rw[RG,Rb];exact⟨rfl,rfl⟩)
 obtain⟨Sj,hP⟩:∃P,P=jg c.nextBox.toNat c.nextMan.toNat:=⟨_,rfl⟩
 have Vj:Hid (eD c=Sj++(if Ov c=[]then[]else fZ (Ov c))):=tK (by unfold eD;rw[hP])
 have Rf:Hid (Sj.length=12):=tK (by rw[hP];exact mf _ _)
 have HP:Hid (bs (67::65::84::76::NT nb 4)++bs (NT nm 4)=bs Sj):=tK l!
 have P8:=tK (jD Pz)
 have S9:Hid ((Ov c).length<=3000):=tK (by rw[fN];exact hlen)
 have Qd:Hid (∀(l:List UInt8),l.length<=800000->∀W,am! 205 #[l] W fun e w'=>e=.returned (.int .u32 (PE l))/\NP [] W w'):=tK (fun l hl W=>by
  have:=Au (bs l) W P!
  rwa[cC]at this)
 clear oA k0 hb hm hn Rp Te b1 b2 b3 b4 hlen Pz RG Rb hP
 go_enter func147,ntmps147
 go_wp2_with fail
 refine MK (S:=(fun W=>(W.cell? w=(c.nextBox,())/\W.cell? (aa w 1)=(c.nextMan,())))) _c (by exact⟨OA.out.drew.k5.1,OA.out.drew.k5.2.1⟩) (fun hHeld=>?_)
 have e1:=EW1.out
 have e2:=EW2.out
 refine tS ?_
 refine rD 3 (fun K hK=>?_)
 go_simp
 ((with_reducible refine(ZU.out _).mono ?_));rintro e w3 ⟨rfl,k3⟩
 have Uh:=tK (k3.own OA.out.drew _b)
 have K3:=tK (K0.out.drew.trans k3)
 go_wp2_with fail
 refine hK.out _ _ ?_ (fun hHeld=>nM ?_)
 .exact⟨Uh.out.k5.1,Uh.out.k5.2.1⟩
 clear hK K
 refine cT (i:=4) (d:=some 9) (v:=.string (bs ([67,65,84,76]++NT nb 4))) rfl rfl _c _c _c (fun _ _ _ h=>h) (Or.inl ⟨_L,?_⟩) _n ?_
 ·(intro w RI;go_simp;rw[if_neg _X];exact congrArg (fun x=>Result.ok (Next.value (Value.string x)) w) (aw [67,65,84,76] (NT nb 4)))
 try simp only[Act.put,List.setIfInBounds_toArray,List.set_cons_zero,List.set_cons_succ]
 refine rD 8 (fun K hK=>?_)
 go_simp
 ((with_reducible refine(YQ.out _).mono ?_));rintro e w4 ⟨rfl,k4⟩
 have Sh:=tK (k4.own Uh.out _b)
 have K4:=tK (K3.out.trans k4)
 go_wp2_with fail
 refine hK.out _ _ ?_ (fun hHeld=>nM ?_)
 .exact⟨Sh.out.k5.1,Sh.out.k5.2.1⟩
 clear hK K
 refine cT (i:=9) (d:=some 14) (v:=Sj) rfl rfl _c _c _c (fun _ _ _ h=>h) (Or.inl ⟨_L,?_⟩) _n ?_
 ·(intro w RI;go_simp;rw[if_neg (by rw[NQ,NQ,ak];simp only[Nj,ak];omega)];exact congrArg (fun x=>Result.ok (Next.value (Value.string x)) w) HP.out)
 try simp only[Act.put,List.setIfInBounds_toArray,List.set_cons_zero,List.set_cons_succ]
 refine tS ?_
 refine Ng _c ?_ _
 have⟨x0,x1,x2,x3,x4⟩:=Sh.out.k5
 go_wp2_with fail
 refine(SZ.out _ K4.out).mono ?_;rintro e w5 ⟨u,rfl,hu,k5⟩
 have K5:=tK (K4.out.trans k5)
 obtain⟨pu,cu,rfl⟩:=bS.shape hu
 have Pf:∀r∈Ov c,gB r:=fun r hr=>by
  obtain⟨i,hi,rfl⟩:=List.getElem_of_mem hr
  have⟨_,_,_,_,_,_,_,_,_,_,hf,_⟩:=bX.at_ hu i hi
  exact jU (P8.out _ hr) hf
 by_cases h0:Ov c=[]
 .have SC:(Ov c).length=0:=aa!
  have HB:Hid (eD c=Sj):=tK (by rw[Vj.out,if_pos h0,NO])
  have Qc:(bs Sj).size=12:=by rw[NQ];exact Rf.out
  obtain⟨C,hC⟩:∃C:Nat,PE Sj=C:=⟨_,rfl⟩
  have Qg:C<4294967296:=by rw[<-hC];exact iJ _
  have Su:=tK (Qd.out Sj (by have:=Rf.out;omega))
  have S3:=tK (fun W=>fR C W _a)
  have ew3:IntKind.u64.wrap (C:Int)=C:=bC C _a
  have hz3:(bs (NT C 4)).size<=4:=_X
  have Rv:Hid (bs Sj++bs (NT C 4)=bs (bN c)):=tK (by rw[aw];unfold bN dF;rw[HB.out,hC])
  rw[hC]at Su
  clear hC Qg
  clear hu Pf h0
  rw[SC]
  clear SC
  go_wp2_with fail
  refine(Su.out _).mono ?_;rintro e w6 ⟨rfl,k6⟩
  go_wp2_with fail
  refine(S3.out _).mono ?_;rintro e w7 ⟨rfl,k7⟩
  go_wp2_with fail
  go_ret
  exact⟨by rw[<-Rv.out];rfl,(K5.out.trans k6).trans k7⟩
 .have hp1:(0:Int)<(Ov c).length:=by have:=Nu.2 h0;omega
  have hp2:((Ov c).length:Int)<=3000:=by have:=S9.out;omega
  have HT:=tK (VU.out w5 (pu,(Ov c).length,cu) _ _ hu Pf)
  have UY:(fZ (Ov c)).length<=700000:=by
   have h1:=ni Pf
   have h2:=S9.out
   unfold fZ aN
   simp only[tN,ak]
   omega
  obtain⟨TX,hTX⟩:∃T,T=fZ (Ov c):=⟨_,rfl⟩
  rw[<-hTX]at UY HT
  have HB:Hid (eD c=Sj++TX):=tK (by rw[Vj.out,if_neg h0,hTX])
  have Qc:(bs Sj).size=12:=by rw[NQ];exact Rf.out
  have Qx:(bs TX).size<=700000:=by rw[NQ];exact UY
  have hz4:(bs (Sj++TX)).size<=700012:=by rw[NQ,tN,Rf.out];omega
  have HBA:Hid (bs Sj++bs TX=bs (Sj++TX)):=tK (aw _ _)
  obtain⟨C,hC⟩:∃C:Nat,PE (Sj++TX)=C:=⟨_,rfl⟩
  have Qg:C<4294967296:=by rw[<-hC];exact iJ _
  have Su:=tK (Qd.out (Sj++TX) (by have:=Rf.out;rw[tN];omega))
  have S3:=tK (fun W=>fR C W _a)
  have ew3:IntKind.u64.wrap (C:Int)=C:=bC C _a
  have hz3:(bs (NT C 4)).size<=4:=_X
  have Rv:Hid (bs (Sj++TX)++bs (NT C 4)=bs (bN c)):=tK (by rw[aw];unfold bN dF;rw[HB.out,hC])
  rw[hC]at Su
  clear hC Qg
  clear hu Pf h0 hTX UY
  generalize (Ov c).length=n at*
  go_wp2_with fail
  refine(HT.out).mono ?_;rintro e w6 ⟨rfl,k6⟩
  go_wp2_with fail
  rw[HBA.out]
  refine(Su.out _).mono ?_;rintro e w7 ⟨rfl,k7⟩
  go_wp2_with fail
  refine(S3.out _).mono ?_;rintro e w8 ⟨rfl,k8⟩
  go_wp2_with fail
  go_ret
  exact⟨by rw[<-Rv.out];rfl,((K5.out.trans k6).trans k7).trans k8⟩
def eO (l:List UInt8):Option (List UInt8):=if 4<=l.length/\NT (PE (l.take (l.length-4))) 4=l.drop (l.length-4)then some (l.take (l.length-4))else none
def ki (l:List UInt8) (w:World) (e:Ending) (w':World):Prop:=
 ((∃t,eO l=some t/\e=.returned (.tuple #[.string (bs t),(0:Int)]))\/(eO l=none/\∃c:Int,(c==0)=false/\e=.returned (.tuple #[.string (bs []),c])))/\NP [] w w'
theorem uU (a:List UInt8):eO (dF a)=some a:=by
 have h:(dF a).length-4=a.length:=by unfold dF;rw[tN,ak];omega
 unfold eO
 rw[h,if_pos]
 .unfold dF;simp
 .unfold dF;simp[ak]
theorem CM {l t:List UInt8} (h:eO l=some t):l=dF t:=by
 unfold eO at h
 split at h
 .rename_i hh
  injection h with h
  subst h
  unfold dF
  rw[hh.2,List.take_append_drop]
 .cases h
theorem Ka (a b:List UInt8) (w:World) (hb:b.length=4) (hl:a.length<=1000000):
  am! 245 #[.string (bs (a++b))] w (ki (a++b) w):=by
 have hz:(bs (a++b)).size=a.length+4:=by rw[NQ,tN,hb]
 have ha1:(a.length:Int)<=1000000:=_a
 have hs:∀W,am! 103 #[a] W fun e w'=>e=.returned (.int .u32 (PE a))/\W=w':=fun W=>by
  have:=Bu (bs a) W (by rw[NQ];unfold maxLen;omega)
  rwa[cC]at this
 have hc:=iJ a
 have HS:=tK hs
 have HU:=tK (fun W=>eU (PE a) W hc)
 have ho:eO (a++b)=if NT (PE a) 4=b then some a else none:=by
  have h4:(a++b).length-4=a.length:=by rw[tN,hb];omega
  unfold eO
  rw[h4,List.take_left,List.drop_left]
  have h5:4<=(a++b).length:=by rw[tN,hb];omega
  by_cases h6:NT (PE a) 4=b
  .rw[if_pos ⟨h5,h6⟩,if_pos h6]
  .rw[if_neg (fun h=>h6 h.2),if_neg h6]
 have E1:Hid ((bs (a++b)).extract 0 a.length=bs a):=tK (by rw[aY];simp)
 have E2:Hid ((bs (a++b)).extract a.length (a.length+4)=bs b):=tK (by rw[aY,List.drop_left,Nat.add_sub_cancel_left,<-hb,MU])
 have HO:=tK ho
 generalize PE a=c at*
 unfold ki
 clear ho hs hc
 by_cases hq:NT c 4=b
 .have HQ:Hid (bs (NT c 4)=bs b):=tK (by rw[hq])
  have HR:Hid (eO (a++b)=some a):=tK (by rw[HO.out,if_pos hq])
  clear hq HO
  generalize hL:bs (a++b)=L at*
  clear hL
  go_enter func245,ntmps245
  go_wp2_with fail
  refine MK (S:=(fun W=>True)) _c (by trivial) (fun hHeld=>?_)
  refine tS ?_
  refine cT (i:=2) (d:=some 12) (v:=a) rfl rfl _c _c _c (fun _ _ _ h=>h) (Or.inl ⟨_L,?_⟩) _n ?_
  ·(intro w RI;go_simp;rw[E1.out,if_pos _a])
  try simp only[Act.put,List.setIfInBounds_toArray,List.set_cons_zero,List.set_cons_succ]
  refine tS ?_
  refine cT (i:=7) (d:=some 17) (v:=b) rfl rfl _c _c _c (fun _ _ _ h=>h) (Or.inl ⟨_L,?_⟩) _n ?_
  ·(intro w RI;go_simp;rw[E2.out,if_pos _a])
  try simp only[Act.put,List.setIfInBounds_toArray,List.set_cons_zero,List.set_cons_succ]
  refine rD 3 (fun K hK=>?_)
  go_simp
  ((with_reducible refine(HS.out _).mono ?_));rintro e w2 ⟨rfl,rfl⟩
  go_wp2_with fail
  refine hK.out _ _ ?_ (fun hHeld=>nM ?_)
  .trivial
  clear hK K
  refine rD 4 (fun K hK=>?_)
  go_simp
  ((with_reducible refine(HU.out _).mono ?_));rintro e w3 ⟨rfl,k3⟩
  go_wp2_with fail
  refine hK.out _ _ ?_ (fun hHeld=>nM ?_)
  .trivial
  clear hK K
  refine cT (i:=8) (d:=some 18) (v:=false) rfl rfl _c _c _c (fun _ _ _ h=>h) (Or.inl ⟨_L,?_⟩) _n ?_
  ·(intro w RI;go_simp;exact congrArg ByteArray.toList HQ.out)
  try simp only[Act.put,List.setIfInBounds_toArray,List.set_cons_zero,List.set_cons_succ]
  refine Ng _c ?_ _
  go_wp2_with fail
  rw[E1.out]
  go_ret2
  exact⟨Or.inl ⟨_,HR.out,rfl⟩,((NP.refl _ _).drew.trans k3)⟩
 .have HQ:Hid (¬(bs (NT c 4)).toList=(bs b).toList):=tK (fun h=>hq (by
   have h2:∀l:List UInt8,(bs l).toList=l:=fun l=>by simp[bs,ByteArray.toList_eq]
   rwa[h2,h2]at h))
  have HR:Hid (eO (a++b)=none):=tK (by rw[HO.out,if_neg hq])
  clear hq HO
  generalize hL:bs (a++b)=L at*
  clear hL
  go_enter func245,ntmps245
  go_wp2_with fail
  refine MK (S:=(fun W=>True)) _c (by trivial) (fun hHeld=>?_)
  refine tS ?_
  refine cT (i:=2) (d:=some 12) (v:=a) rfl rfl _c _c _c (fun _ _ _ h=>h) (Or.inl ⟨_L,?_⟩) _n ?_
  ·(intro w RI;go_simp;rw[E1.out,if_pos _a])
  try simp only[Act.put,List.setIfInBounds_toArray,List.set_cons_zero,List.set_cons_succ]
  refine tS ?_
  refine cT (i:=7) (d:=some 17) (v:=b) rfl rfl _c _c _c (fun _ _ _ h=>h) (Or.inl ⟨_L,?_⟩) _n ?_
  ·(intro w RI;go_simp;rw[E2.out,if_pos _a])
  try simp only[Act.put,List.setIfInBounds_toArray,List.set_cons_zero,List.set_cons_succ]
  refine rD 3 (fun K hK=>?_)
  go_simp
  ((with_reducible refine(HS.out _).mono ?_));rintro e w2 ⟨rfl,rfl⟩
  go_wp2_with fail
  refine hK.out _ _ ?_ (fun hHeld=>nM ?_)
  .trivial
  clear hK K
  refine rD 4 (fun K hK=>?_)
  go_simp
  ((with_reducible refine(HU.out _).mono ?_));rintro e w3 ⟨rfl,k3⟩
  go_wp2_with fail
  refine hK.out _ _ ?_ (fun hHeld=>nM ?_)
  .trivial
  clear hK K
  refine cT (i:=8) (d:=some 18) (v:=true) rfl rfl _c _c _c (fun _ _ _ h=>h) (Or.inl ⟨_L,?_⟩) _n ?_
  ·(intro w RI;go_simp;exact HQ.out)
  try simp only[Act.put,List.setIfInBounds_toArray,List.set_cons_zero,List.set_cons_succ]
  refine Ng _c ?_ _
  go_wp2_with fail
  go_ret2
  exact⟨Or.inr ⟨HR.out,110,_d,rfl⟩,((NP.refl _ _).drew.trans k3)⟩
theorem LF (l:List UInt8) (w:World) (hl:l.length<=1000000):
  am! 245 #[l] w (ki l w):=by
 by_cases h4:4<=l.length
 .have h:=Ka (l.take (l.length-4)) (l.drop (l.length-4)) w _z _w
  rwa[List.take_append_drop]at h
 .have hz:(bs l).size=l.length:=NQ l
  have h1:(l.length:Int)<4:=_a
  have HR:Hid (eO l=none):=tK (by unfold eO;rw[if_neg (fun h=>h4 h.1)])
  generalize bs l=L at*
  unfold ki
  go_enter func245,ntmps245
  go_wp2_with fail
  go_ret2
  exact⟨Or.inr ⟨HR.out,7,_d,rfl⟩,NP.refl _ _⟩
theorem uH {g:Nat} {xs:List Value} (h:w.ownsRow base e size v n xs) (hg:v.ownBlock=some g):∃cur,w.heap[g]? =some (.cells cur e (0,0)):=by
 rcases h.2 with⟨rfl,_⟩|⟨g',cap,cur,rfl,_,hh,_⟩
 .simp[Value.ownBlock]at hg
 .have e1:g'=g:=y!
  subst e1
  exact⟨cur,hh⟩
def jo (u v:Value):Prop:=∀g,u.ownBlock=some g->v.ownBlock≠some g
theorem jo.symm (h:jo u v):jo v u:=fun g h1 h2=>h g h2 h1
theorem Av {base':Nat} {e':TypeId} {s s' n':Nat} {xs ys:List Value} (h:w.ownsRow base e s u n xs) (h':w.ownsRow base' e' s' v n' ys) (Pb:e≠e'):jo u v:=fun g h1 h2=>by
 have⟨c1,q1⟩:=uH h h1
 have⟨c2,q2⟩:=uH h' h2
 rw[q1]at q2
 injection q2 with q2
 injection q2 with _ ht
 exact Pb ht
theorem pe {xs:List Value} (h:w.ownsRow base e size v n xs) (hg:w.grownBy wa u.ownBlock) (ha:jo v u):wa.ownsRow base e size v n xs:=by
 have NV:=ML h
 have⟨h1,h2⟩:=h
 refine⟨h1,?_⟩
 rcases h2 with h2|⟨g,cap,cur,rfl,hb,hh,r⟩
 .exact Or.inl h2
 .exact Or.inr ⟨g,cap,cur,rfl,hb,(hg.block g (NV g rfl).2 (fun he=>ha g rfl he.symm)).trans hh,r⟩
def dM (base:Nat) (w:World) (x:NS×Value):Prop:=w.ownsRow base 128 2 x.2 x.1.runs.length (NW x.1.runs)/\x.1.fits/\∀r∈x.1.runs,aQ r
theorem dM.ok (h:dM base w x):bd w x:=⟨(af.bB h.1).upto,h.2.1,h.2.2⟩
theorem dM.kept0 (h:dM base w x) (k:NP [] w w'):dM base w' x:=⟨ax h.1 k _b,h.2⟩
structure eP (base:Nat) (w:World) (va vb vc:Value) (xs ys zs:List (NS×Value)):Prop where
 ra:w.ownsRow base 113 4 va xs.length (NX xs)
 rb:w.ownsRow base 113 4 vb ys.length (NX ys)
 rc:w.ownsRow base 113 4 vc zs.length (NX zs)
 ia:∀x∈xs,dM base w x
 ib:∀x∈ys,dM base w x
 ic:∀x∈zs,dM base w x
 ab:jo va vb
 ac:jo va vc
 bc:jo vb vc
theorem eP.cM (h:eP base w va vb vc xs ys zs):eP base w vb vc va ys zs xs:=
 ⟨h.rb,h.rc,h.ra,h.ib,h.ic,h.ia,h.bc,h.ab.symm,h.ac.symm⟩
theorem eP.kept0 (h:eP base w va vb vc xs ys zs) (k:NP [] w w'):eP base w' va vb vc xs ys zs:=
 ⟨ax h.ra k _b,ax h.rb k _b,ax h.rc k _b,fun x hx=>(h.ia x hx).kept0 k,fun x hx=>(h.ib x hx).kept0 k,fun x hx=>(h.ic x hx).kept0 k,h.ab,h.ac,h.bc⟩
theorem eP.set (h:eP base w va vb vc xs ys zs) {g:Nat} {cs:Array Value} (o:ae w g cs 52) (j:Nat) (u:Value):eP base (w.setCell (aa g j) u) va vb vc xs ys zs:=
 have hit:∀x,dM base w x->dM base (w.setCell (aa g j) u) x:=fun x hx=>⟨bT hx.1 (aB hx.1 o _d) u,hx.2⟩
 ⟨bT h.ra (aB h.ra o _d) u,bT h.rb (aB h.rb o _d) u,bT h.rc (aB h.rc o _d) u,fun x hx=>hit x (h.ia x hx),fun x hx=>hit x (h.ib x hx),fun x hx=>hit x (h.ic x hx),h.ab,h.ac,h.bc⟩
theorem eP.add {va':Value} {x:NS×Value} (h:eP base w va vb vc xs ys zs) (hx:dM base w x) (hg:w.grownBy wa va.ownBlock)
  (hr:wa.ownsRow base 113 4 va' (xs.length+1) (NX xs++Pt x.1 x.2)) (hb:va'.ownBlock=va.ownBlock\/va'.ownBlock=some w):eP base wa va' vb vc (xs++[x]) ys zs:=by
 have hit:∀y,dM base w y->dM base wa y:=fun y hy=>⟨pe hy.1 hg (Av hy.1 h.ra _d),hy.2⟩
 have Qf:∀{v:Value} {n:Nat} {ws:List Value},w.ownsRow base 113 4 v n ws->jo va v->jo va' v:=fun hv ha g h1 h2=>by
  rcases hb with hb|hb
  .exact ha g (by rw[<-hb];exact h1) h2
  .rw[hb]at h1
   injection h1 with h1
   have:=(ML hv g h2).2
   omega
 refine⟨?_,pe h.rb hg h.ab.symm,pe h.rc hg h.ac.symm,?_,fun y hy=>hit y (h.ib y hy),fun y hy=>hit y (h.ic y hy),Qf h.rb h.ab,Qf h.rc h.ac,h.bc⟩
 .rw[fx,tN]
  exact hr
 .intro y hy
  rcases Na.1 hy with hy|hy
  .exact hit y (h.ia y hy)
  .have:y=x:=N!
   subst this
   exact hit _ hx
theorem eP.nil (base:Nat) (w:World):eP base w () () () [] [] []:=
 have h:jo () ():=fun g hg=>by simp[Value.ownBlock]at hg
 ⟨Nf _ _ _ _,Nf _ _ _ _,Nf _ _ _ _,fun x hx=>J!,fun x hx=>J!,fun x hx=>J!,h,h,h⟩
def iP (w1 w:World) (bx:Nat) (nb nm:Int) (A B C:List NS):Prop:=
 ∃va vb vc xs ys zs,ae w bx #[(nb,()),(nm,()),va,vb,vc] 52/\eP w1 w va vb vc xs ys zs/\xs.map (·.1)=A/\ys.map (·.1)=B/\zs.map (·.1)=C/\NP [bx] w1 w

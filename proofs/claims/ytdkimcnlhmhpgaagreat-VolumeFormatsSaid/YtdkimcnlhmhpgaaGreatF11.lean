/- -/
import Derived.Test.YtdkimcnlhmhpgaaGreatF10
set_option maxHeartbeats 32000000
set_option maxRecDepth 100000
namespace Go.Proofs.YtdkimcnlhmhpgaaGreat
section
open Go.Proofs.Tryz Go.RowKit
variable {w wa w':World} {base size n:Nat} {e:TypeId} {v u va vb vc:Value} {xs ys zs:List (NS×Value)} {x:NS×Value}
theorem MD (v l lo hi w) (h:bX w v l lo hi) (hl:l.length<=3000) (Pf:∀r∈l,gB r):
  am! 156 #[v] w fun e w'=>e=.returned (.string (bs (fZ l)))/\NP [] w w':=by
 obtain⟨p,c,rfl⟩:=bS.shape h
 have Tg:(l.length:Int)<=3000:=a?
 have e0:=bC l.length a?
 have hu:=fun W=>Bh l.length W a?
 have⟨HU,H,QH⟩:=gg! hu h Pf
 clear hu h Pf
 go_enter func156,ntmps156
 go_wp2_with fail
 refine(HU.out _).mono ?_;rintro e w1 ⟨rfl,OP⟩
 clear e0
 go_wp2_with fail
 go_loopw [3,4] (fun t i wr=>∃k:Nat,k<=l.length/\i=(k:Int)/\t=.string (bs (NT l.length 2++((l.take k).map OD).flatten))/\NP [] w wr) (fun _ i _=>l.length-(intOf i).toNat)
 case atStart=>exact⟨0,a?,rfl,b?,OP⟩
 case round=>
  obtain⟨k,hk,rfl,rfl,hK⟩:=hrel
  have hlen:=tt hl hk (fun j hj _=>QH.out _ (MJ hj))
  by_cases NV:k<l.length
  .obtain⟨b',off,kv,rfl,c0,c1,c2,c3,c4,hr,Oq,_,hbh,hhw⟩:=(H.out.kept0 hK).at_ k NV
   obtain⟨pk,ck,rfl⟩:=hr.shape
   have ho:=QH.out _ (MJ NV)
   have PF:=uI l k NV
   have XN:=fun W (kk:NP [] wr W)=>Mf l[k] _ lo hi W (hr.kept0 kk) ho
   have Y0:=rm ho
   have⟨Sm,HBY,Of,OZ⟩:=gh! PF XN NV hlen
   have i1:(k:Int)<l.length:=a?
   have y1:(bs (OD l[k])).size<=200:=by rw[NQ];exact Y0
   have y0:(bs (NT l.length 2++((l.take k).map OD).flatten)).size<=600100:=by rw[NQ];exact hlen
   have Tz:Hid (bs (NT l.length 2++((l.take k).map OD).flatten)++bs (OD l[k])=bs (NT l.length 2++((l.take (k+1)).map OD).flatten)):=by
    show _=_;rw[aw,Sm.out];simp only[MW];rfl
   clear PF XN hlen hr Oq ho Y0
   unfold ag.cells at HBY
   generalize bs (OD l[k])=RB at*
   generalize bs (NT l.length 2++((l.take k).map OD).flatten)=S0 at*
   generalize l[k].kind=rk at*
   generalize l[k].id=ri at*
   generalize l[k].name=rn at*
   generalize l[k].size=rs at*
   generalize l[k].runs.length=rr at*
   go_wp2_with fail
   refine(HBY.out _ (NP.refl _ _)).mono ?_;rintro e w3 ⟨rfl,k3⟩
   have kk:=hK.trans k3
   have yy:(S0++RB).size=S0.size+RB.size:=ByteArray.size_append
   go_wp2_with fail
   go_roundw
   case rel=>exact⟨k+1,Of.out,j?,by rw[<-Tz.out],kk⟩
   case measure=>(have hh:=Of.out;simp[intOf];omega)
  .obtain rfl:k=l.length:=a?
   rw[MU]at hlen ⊢
   have Vp:NT l.length 2++(l.map OD).flatten=aN l:=rfl
   rw[Vp]at hlen ⊢
   have e1:=bC (aN l).length a?
   have hz:(bs (aN l)).size=(aN l).length:=NQ _
   have hcr:=iJ (aN l)
   have e2:=bC (PE (aN l)) a?
   have h1:=fun W=>fR (aN l).length W a?
   have h2:=fun W=>Au (bs (aN l)) W K!
   have h3:=fun W=>fR (PE (aN l)) W a?
   rw[cC]at h2
   have Oy:Hid (bs (NT (aN l).length 4)++bs (NT (PE (aN l)) 4)++bs (aN l)=bs (fZ l)):=by
    show _=_;rw[aw,aw,MW];rfl
   have y1:(bs (NT (aN l).length 4)).size=4:=q?
   have y2:(bs (NT (PE (aN l)) 4)).size=4:=q?
   have y3:(bs (aN l)).size<=600100:=K!
   have yy:(bs (NT (aN l).length 4)++bs (NT (PE (aN l)) 4)).size=8:=by rw[ByteArray.size_append,y1,y2]
   have⟨H1,H2,H3⟩:=gg! h1 h2 h3
   have US:((aN l).length:Int)<=600100:=a?
   clear h1 h2 h3 Vp
   generalize bs (NT (aN l).length 4)=M1 at*
   generalize bs (NT (PE (aN l)) 4)=M2 at*
   generalize bs (aN l)=M3 at*
   generalize PE (aN l)=cr at*
   generalize (aN l).length=bl at*
   go_wp2_with fail
   refine(H1.out _).mono ?_;rintro e w2 ⟨rfl,k2⟩
   go_wp2_with fail
   refine(H2.out _).mono ?_;rintro e w3 ⟨rfl,k3⟩
   go_wp2_with fail
   refine(H3.out _).mono ?_;rintro e w4 ⟨rfl,k4⟩
   have kk:=((hK.trans k2).trans k3).trans k4
   go_wp2_with fail
   go_ret
   exact⟨by rw[<-Oy.out];rfl,kk⟩
theorem zj (v c w) (h:dJ w v c) (Pz:OL c) (hlen:c.boxes.length+c.mans.length+c.names.length<=3000):
  am! 147 #[v] w fun e w'=>e=.returned (.string (bs (bN c)))/\NP [] w w':=by
 have SZ:=tK fun W q=>xa v c W (h.kept0 q) a?
 have VU:=tK fun W u lo hi hu ho=>MD u (Ov c) lo hi W hu (by rw[fN];omega) ho
 obtain⟨vb,vm,vn,rfl,hb,hm,hn,Rp,Te⟩:=h
 obtain⟨p1,c1,rfl⟩:=hb.shape
 obtain⟨p2,c2,rfl⟩:=hm.shape
 obtain⟨p3,c3,rfl⟩:=hn.shape
 have⟨b1,b2⟩:=eG Rp
 have⟨b3,b4⟩:=eG Te
 have⟨nb,RG⟩:=MM b1
 have⟨nm,Rb⟩:=MM b3
 have EW1:Hid (IntKind.u64.wrap c.nextBox=c.nextBox):=tK (by rw[RG];exact bC nb a?)
 have EW2:Hid (IntKind.u64.wrap c.nextMan=c.nextMan):=tK (by rw[Rb];exact bC nm a?)
 have ZU:Hid (∀W,am! 214 #[.int .u64 c.nextBox,(4:Int)] W fun e w'=>e=.returned (.string (bs (NT nb 4)))/\NP [] W w'):=tK (fun W=>by rw[RG];exact fR nb W a?)
 have YQ:Hid (∀W,am! 214 #[.int .u64 c.nextMan,(4:Int)] W fun e w'=>e=.returned (.string (bs (NT nm 4)))/\NP [] W w'):=tK (fun W=>by rw[Rb];exact fR nm W a?)
 unfold fm at SZ
 have oA:=ae.new w #[(c.nextBox,()),(c.nextMan,()),(p1,c.boxes.length,c1),(p2,c.mans.length,c2),(p3,c.names.length,c3)] 52
 have k0:NP [] w (w.alloc (.cells #[(c.nextBox,()),(c.nextMan,()),(p1,c.boxes.length,c1),(p2,c.mans.length,c2),(p3,c.names.length,c3)] 52)):=(NP.refl _ _).alloc _
 have⟨OA,K0⟩:=f? oA k0
 have HNU:Hid (NT nb 4=NT c.nextBox.toNat 4/\NT nm 4=NT c.nextMan.toNat 4):=tK (by rw[RG,Rb];exact⟨rfl,rfl⟩)
 obtain⟨Sj,hP⟩:∃P,P=jg c.nextBox.toNat c.nextMan.toNat:=⟨_,rfl⟩
 have Vj:Hid (eD c=Sj++(if Ov c=[]then[]else fZ (Ov c))):=tK (by unfold eD;rw[hP])
 have Rf:Hid (Sj.length=12):=tK (by rw[hP];exact mf _ _)
 have HP:Hid (bs (67::65::84::76::NT nb 4)++bs (NT nm 4)=bs Sj):=tK l!
 have P8:=tK (jD Pz)
 have S9:Hid ((Ov c).length<=3000):=tK (by rw[fN];exact hlen)
 have Qd:Hid (∀(l:List UInt8),l.length<=800000->∀W,am! 205 #[l] W fun e w'=>e=.returned (.int .u32 (PE l))/\NP [] W w'):=tK (fun l hl W=>by
  have:=Au (bs l) W P!
  rwa[cC]at this)
 clear oA k0 hb hm hn Rp Te b1 b2 b3 b4 hlen Pz RG Rb hP
 go_enter func147,ntmps147
 go_wp2_with fail
 refine MK (S:=(fun W=>(W.cell? w=(c.nextBox,())/\W.cell? (aa w 1)=(c.nextMan,())))) c? (by exact⟨OA.out.drew.k5.1,OA.out.drew.k5.2.1⟩) (fun hHeld=>?_)
 have e1:=EW1.out
 have e2:=EW2.out
 refine tS ?_
 refine rD 3 (fun K hK=>?_)
 go_simp
 ((with_reducible refine(ZU.out _).mono ?_));rintro e w3 ⟨rfl,k3⟩
 have Uh:=tK (k3.own OA.out.drew b?)
 have K3:=tK (K0.out.drew.trans k3)
 go_wp2_with fail
 refine hK.out _ _ ?_ (fun hHeld=>nM ?_)
 .exact⟨Uh.out.k5.1,Uh.out.k5.2.1⟩
 clear hK K
 refine cT (i:=4) (d:=some 9) (v:=.string (bs ([67,65,84,76]++NT nb 4))) rfl rfl c? c? c? (fun _ _ _ h=>h) (Or.inl ⟨L?,?_⟩) n? ?_
 ·(intro w RI;go_simp;rw[if_neg X?];exact congrArg (fun x=>Result.ok (Next.value (Value.string x)) w) (aw [67,65,84,76] (NT nb 4)))
 try simp only[Act.put,List.setIfInBounds_toArray,List.set_cons_zero,List.set_cons_succ]
 refine rD 8 (fun K hK=>?_)
 go_simp
 ((with_reducible refine(YQ.out _).mono ?_));rintro e w4 ⟨rfl,k4⟩
 have Sh:=tK (k4.own Uh.out b?)
 have K4:=tK (K3.out.trans k4)
 go_wp2_with fail
 refine hK.out _ _ ?_ (fun hHeld=>nM ?_)
 .exact⟨Sh.out.k5.1,Sh.out.k5.2.1⟩
 clear hK K
 refine cT (i:=9) (d:=some 14) (v:=Sj) rfl rfl c? c? c? (fun _ _ _ h=>h) (Or.inl ⟨L?,?_⟩) n? ?_
 ·(intro w RI;go_simp;rw[if_neg (by rw[NQ,NQ,ak];simp only[Nj,ak];omega)];exact congrArg (fun x=>Result.ok (Next.value (Value.string x)) w) HP.out)
 try simp only[Act.put,List.setIfInBounds_toArray,List.set_cons_zero,List.set_cons_succ]
 refine tS ?_
 refine Ng c? ?_ _
 have⟨x0,x1,x2,x3,x4⟩:=Sh.out.k5
 go_wp2_with fail
 refine(SZ.out _ K4.out).mono ?_;rintro e w5 ⟨u,rfl,hu,k5⟩
 have K5:=tK (K4.out.trans k5)
 obtain⟨pu,cu,rfl⟩:=bS.shape hu
 have Pf:∀r∈Ov c,gB r:=fun r hr=>by
  obtain⟨i,hi,rfl⟩:=List.getElem_of_mem hr
  have⟨_,_,_,_,_,_,_,_,_,_,hf,_⟩:=bX.at_ hu i hi
  exact jU (P8.out _ hr) hf
 by_cases h0:Ov c=[]
 .have SC:(Ov c).length=0:=aa!
  have HB:Hid (eD c=Sj):=tK (by rw[Vj.out,if_pos h0,NO])
  have Qc:(bs Sj).size=12:=by rw[NQ];exact Rf.out
  obtain⟨C,hC⟩:∃C:Nat,PE Sj=C:=⟨_,rfl⟩
  have Qg:C<4294967296:=by rw[<-hC];exact iJ _
  have Su:=tK (Qd.out Sj (by have:=Rf.out;omega))
  have S3:=tK (fun W=>fR C W a?)
  have ew3:IntKind.u64.wrap (C:Int)=C:=bC C a?
  have hz3:(bs (NT C 4)).size<=4:=X?
  have Rv:Hid (bs Sj++bs (NT C 4)=bs (bN c)):=tK (by rw[aw];unfold bN dF;rw[HB.out,hC])
  rw[hC]at Su
  clear hC Qg
  clear hu Pf h0
  rw[SC]
  clear SC
  go_wp2_with fail
  refine(Su.out _).mono ?_;rintro e w6 ⟨rfl,k6⟩
  go_wp2_with fail
  refine(S3.out _).mono ?_;rintro e w7 ⟨rfl,k7⟩
  go_wp2_with fail
  go_ret
  exact⟨by rw[<-Rv.out];rfl,(K5.out.trans k6).trans k7⟩
 .have hp1:(0:Int)<(Ov c).length:=by have:=Nu.2 h0;omega
  have hp2:((Ov c).length:Int)<=3000:=by have:=S9.out;omega
  have HT:=tK (VU.out w5 (pu,(Ov c).length,cu) _ _ hu Pf)
  have UY:(fZ (Ov c)).length<=700000:=by
   have h1:=ni Pf
   have h2:=S9.out
   unfold fZ aN
   simp only[tN,ak]
   omega
  obtain⟨TX,hTX⟩:∃T,T=fZ (Ov c):=⟨_,rfl⟩
  rw[<-hTX]at UY HT
  have HB:Hid (eD c=Sj++TX):=tK (by rw[Vj.out,if_neg h0,hTX])
  have Qc:(bs Sj).size=12:=by rw[NQ];exact Rf.out
  have Qx:(bs TX).size<=700000:=by rw[NQ];exact UY
  have hz4:(bs (Sj++TX)).size<=700012:=by rw[NQ,tN,Rf.out];omega
  have HBA:Hid (bs Sj++bs TX=bs (Sj++TX)):=tK (aw _ _)
  obtain⟨C,hC⟩:∃C:Nat,PE (Sj++TX)=C:=⟨_,rfl⟩
  have Qg:C<4294967296:=by rw[<-hC];exact iJ _
  have Su:=tK (Qd.out (Sj++TX) (by have:=Rf.out;rw[tN];omega))
  have S3:=tK (fun W=>fR C W a?)
  have ew3:IntKind.u64.wrap (C:Int)=C:=bC C a?
  have hz3:(bs (NT C 4)).size<=4:=X?
  have Rv:Hid (bs (Sj++TX)++bs (NT C 4)=bs (bN c)):=tK (by rw[aw];unfold bN dF;rw[HB.out,hC])
  rw[hC]at Su
  clear hC Qg
  clear hu Pf h0 hTX UY
  generalize (Ov c).length=n at*
  go_wp2_with fail
  refine(HT.out).mono ?_;rintro e w6 ⟨rfl,k6⟩
  go_wp2_with fail
  rw[HBA.out]
  refine(Su.out _).mono ?_;rintro e w7 ⟨rfl,k7⟩
  go_wp2_with fail
  refine(S3.out _).mono ?_;rintro e w8 ⟨rfl,k8⟩
  go_wp2_with fail
  go_ret
  exact⟨by rw[<-Rv.out];rfl,((K5.out.trans k6).trans k7).trans k8⟩
def eO (l:List UInt8):Option (List UInt8):=if 4<=l.length/\NT (PE (l.take (l.length-4))) 4=l.drop (l.length-4)then some (l.take (l.length-4))else none
def ki (l:List UInt8) (w:World) (e:Ending) (w':World):Prop:=
 ((∃t,eO l=some t/\e=.returned (.tuple #[.string (bs t),(0:Int)]))\/(eO l=none/\∃c:Int,(c==0)=false/\e=.returned (.tuple #[.string (bs []),c])))/\NP [] w w'
theorem uU (a):eO (dF a)=some a:=by
 have h:(dF a).length-4=a.length:=by unfold dF;rw[tN,ak];omega
 unfold eO
 rw[h,if_pos]
 .unfold dF;simp
 .unfold dF;simp[ak]
theorem CM {l t} (h:eO l=some t):l=dF t:=by
 unfold eO at h
 split at h
 .rename_i hh
  injection h with h
  subst h
  unfold dF
  rw[hh.2,List.take_append_drop]
 .cases h
theorem Ka (a b w) (hb:b.length=4) (hl:a.length<=1000000):
  am! 245 #[.string (bs (a++b))] w (ki (a++b) w):=by
 have hz:(bs (a++b)).size=a.length+4:=by rw[NQ,tN,hb]
 have ha1:(a.length:Int)<=1000000:=a?
 have hs:∀W,am! 103 #[a] W fun e w'=>e=.returned (.int .u32 (PE a))/\W=w':=fun W=>by
  have:=Bu (bs a) W (by rw[NQ];unfold maxLen;omega)
  rwa[cC]at this
 have hc:=iJ a
 have HS:=tK hs
 have HU:=tK (fun W=>eU (PE a) W hc)
 have ho:eO (a++b)=if NT (PE a) 4=b then some a else none:=by
  have h4:(a++b).length-4=a.length:=by rw[tN,hb];omega
  unfold eO
  rw[h4,List.take_left,List.drop_left]
  have h5:4<=(a++b).length:=by rw[tN,hb];omega
  by_cases h6:NT (PE a) 4=b
  .rw[if_pos ⟨h5,h6⟩,if_pos h6]
  .rw[if_neg (fun h=>h6 h.2),if_neg h6]
 have E1:Hid ((bs (a++b)).extract 0 a.length=bs a):=tK (by rw[aY];simp)
 have E2:Hid ((bs (a++b)).extract a.length (a.length+4)=bs b):=tK (by rw[aY,List.drop_left,Nat.add_sub_cancel_left,<-hb,MU])
 have HO:=tK ho
 generalize PE a=c at*
 unfold ki
 clear ho hs hc
 by_cases hq:NT c 4=b
 .have HQ:Hid (bs (NT c 4)=bs b):=tK (by rw[hq])
  have HR:Hid (eO (a++b)=some a):=tK (by rw[HO.out,if_pos hq])
  clear hq HO
  generalize hL:bs (a++b)=L at*
  clear hL
  go_enter func245,ntmps245
  go_wp2_with fail
  refine MK (S:=(fun W=>True)) c? (by trivial) (fun hHeld=>?_)
  refine tS ?_
  refine cT (i:=2) (d:=some 12) (v:=a) rfl rfl c? c? c? (fun _ _ _ h=>h) (Or.inl ⟨L?,?_⟩) n? ?_
  ·(intro w RI;go_simp;rw[E1.out,if_pos a?])
  try simp only[Act.put,List.setIfInBounds_toArray,List.set_cons_zero,List.set_cons_succ]
  refine tS ?_
  refine cT (i:=7) (d:=some 17) (v:=b) rfl rfl c? c? c? (fun _ _ _ h=>h) (Or.inl ⟨L?,?_⟩) n? ?_
  ·(intro w RI;go_simp;rw[E2.out,if_pos a?])
  try simp only[Act.put,List.setIfInBounds_toArray,List.set_cons_zero,List.set_cons_succ]
  refine rD 3 (fun K hK=>?_)
  go_simp
  ((with_reducible refine(HS.out _).mono ?_));rintro e w2 ⟨rfl,rfl⟩
  go_wp2_with fail
  refine hK.out _ _ ?_ (fun hHeld=>nM ?_)
  .trivial
  clear hK K
  refine rD 4 (fun K hK=>?_)
  go_simp
  ((with_reducible refine(HU.out _).mono ?_));rintro e w3 ⟨rfl,k3⟩
  go_wp2_with fail
  refine hK.out _ _ ?_ (fun hHeld=>nM ?_)
  .trivial
  clear hK K
  refine cT (i:=8) (d:=some 18) (v:=false) rfl rfl c? c? c? (fun _ _ _ h=>h) (Or.inl ⟨L?,?_⟩) n? ?_
  ·(intro w RI;go_simp;exact congrArg ByteArray.toList HQ.out)
  try simp only[Act.put,List.setIfInBounds_toArray,List.set_cons_zero,List.set_cons_succ]
  refine Ng c? ?_ _
  go_wp2_with fail
  rw[E1.out]
  go_ret2
  exact⟨Or.inl ⟨_,HR.out,rfl⟩,((NP.refl _ _).drew.trans k3)⟩
 .have HQ:Hid (¬(bs (NT c 4)).toList=(bs b).toList):=tK (fun h=>hq (by
   have h2:∀l:List UInt8,(bs l).toList=l:=fun l=>by simp[bs,ByteArray.toList_eq]
   rwa[h2,h2]at h))
  have HR:Hid (eO (a++b)=none):=tK (by rw[HO.out,if_neg hq])
  clear hq HO
  generalize hL:bs (a++b)=L at*
  clear hL
  go_enter func245,ntmps245
  go_wp2_with fail
  refine MK (S:=(fun W=>True)) c? (by trivial) (fun hHeld=>?_)
  refine tS ?_
  refine cT (i:=2) (d:=some 12) (v:=a) rfl rfl c? c? c? (fun _ _ _ h=>h) (Or.inl ⟨L?,?_⟩) n? ?_
  ·(intro w RI;go_simp;rw[E1.out,if_pos a?])
  try simp only[Act.put,List.setIfInBounds_toArray,List.set_cons_zero,List.set_cons_succ]
  refine tS ?_
  refine cT (i:=7) (d:=some 17) (v:=b) rfl rfl c? c? c? (fun _ _ _ h=>h) (Or.inl ⟨L?,?_⟩) n? ?_
  ·(intro w RI;go_simp;rw[E2.out,if_pos a?])
  try simp only[Act.put,List.setIfInBounds_toArray,List.set_cons_zero,List.set_cons_succ]
  refine rD 3 (fun K hK=>?_)
  go_simp
  ((with_reducible refine(HS.out _).mono ?_));rintro e w2 ⟨rfl,rfl⟩
  go_wp2_with fail
  refine hK.out _ _ ?_ (fun hHeld=>nM ?_)
  .trivial
  clear hK K
  refine rD 4 (fun K hK=>?_)
  go_simp
  ((with_reducible refine(HU.out _).mono ?_));rintro e w3 ⟨rfl,k3⟩
  go_wp2_with fail
  refine hK.out _ _ ?_ (fun hHeld=>nM ?_)
  .trivial
  clear hK K
  refine cT (i:=8) (d:=some 18) (v:=true) rfl rfl c? c? c? (fun _ _ _ h=>h) (Or.inl ⟨L?,?_⟩) n? ?_
  ·(intro w RI;go_simp;exact HQ.out)
  try simp only[Act.put,List.setIfInBounds_toArray,List.set_cons_zero,List.set_cons_succ]
  refine Ng c? ?_ _
  go_wp2_with fail
  go_ret2
  exact⟨Or.inr ⟨HR.out,110,d?,rfl⟩,((NP.refl _ _).drew.trans k3)⟩
theorem LF (l:List UInt8) (w:World) (hl:l.length<=1000000):
  am! 245 #[l] w (ki l w):=by
 by_cases h4:4<=l.length
 .have h:=Ka (l.take (l.length-4)) (l.drop (l.length-4)) w z? w?
  rwa[List.take_append_drop]at h
 .have hz:(bs l).size=l.length:=NQ l
  have h1:(l.length:Int)<4:=a?
  have HR:Hid (eO l=none):=tK (by unfold eO;rw[if_neg (fun h=>h4 h.1)])
  generalize bs l=L at*
  unfold ki
  go_enter func245,ntmps245
  go_wp2_with fail
  go_ret2
  exact⟨Or.inr ⟨HR.out,7,d?,rfl⟩,NP.refl _ _⟩
theorem uH {g xs} (h:w.ownsRow base e size v n xs) (hg:v.ownBlock=some g):∃cur,w.heap[g]? =some (.cells cur e (0,0)):=by
 rcases h.2 with⟨rfl,_⟩|⟨g',cap,cur,rfl,_,hh,_⟩
 .simp[Value.ownBlock]at hg
 .have e1:g'=g:=y!
  subst e1
  exact⟨cur,hh⟩
def jo (u v:Value):Prop:=∀g,u.ownBlock=some g->v.ownBlock≠some g
theorem jo.symm (h:jo u v):jo v u:=fun g h1 h2=>h g h2 h1
theorem Av {base'} {e':TypeId} {s s' n' xs ys} (h:w.ownsRow base e s u n xs) (h':w.ownsRow base' e' s' v n' ys) (Pb:e≠e'):jo u v:=fun g h1 h2=>by
 have⟨c1,q1⟩:=uH h h1
 have⟨c2,q2⟩:=uH h' h2
 rw[q1]at q2
 injection q2 with q2
 injection q2 with _ ht
 exact Pb ht
theorem pe {xs} (h:w.ownsRow base e size v n xs) (hg:w.grownBy wa u.ownBlock) (ha:jo v u):wa.ownsRow base e size v n xs:=by
 have NV:=ML h
 have⟨h1,h2⟩:=h
 refine⟨h1,?_⟩
 rcases h2 with h2|⟨g,cap,cur,rfl,hb,hh,r⟩
 .exact Or.inl h2
 .exact Or.inr ⟨g,cap,cur,rfl,hb,(hg.block g (NV g rfl).2 (fun he=>ha g rfl he.symm)).trans hh,r⟩
def dM (base:Nat) (w:World) (x:NS×Value):Prop:=w.ownsRow base 128 2 x.2 x.1.runs.length (NW x.1.runs)/\x.1.fits/\∀r∈x.1.runs,aQ r
theorem dM.ok (h:dM base w x):bd w x:=⟨(af.bB h.1).upto,h.2.1,h.2.2⟩
theorem dM.kept0 (h:dM base w x) (k:NP [] w w'):dM base w' x:=⟨ax h.1 k b?,h.2⟩
structure eP (base:Nat) (w:World) (va vb vc:Value) (xs ys zs:List (NS×Value)):Prop where
 ra:w.ownsRow base 113 4 va xs.length (NX xs)
 rb:w.ownsRow base 113 4 vb ys.length (NX ys)
 rc:w.ownsRow base 113 4 vc zs.length (NX zs)
 ia:∀x∈xs,dM base w x
 ib:∀x∈ys,dM base w x
 ic:∀x∈zs,dM base w x
 ab:jo va vb
 ac:jo va vc
 bc:jo vb vc
theorem eP.cM (h:eP base w va vb vc xs ys zs):eP base w vb vc va ys zs xs:=
 ⟨h.rb,h.rc,h.ra,h.ib,h.ic,h.ia,h.bc,h.ab.symm,h.ac.symm⟩
theorem eP.kept0 (h:eP base w va vb vc xs ys zs) (k:NP [] w w'):eP base w' va vb vc xs ys zs:=
 ⟨ax h.ra k b?,ax h.rb k b?,ax h.rc k b?,fun x hx=>(h.ia x hx).kept0 k,fun x hx=>(h.ib x hx).kept0 k,fun x hx=>(h.ic x hx).kept0 k,h.ab,h.ac,h.bc⟩
theorem eP.set (h:eP base w va vb vc xs ys zs) {g cs} (o:ae w g cs 52) (j u):eP base (w.setCell (aa g j) u) va vb vc xs ys zs:=
 have hit:=fun x (hx:dM base w x)=>And.intro (bT hx.1 (aB hx.1 o d?) u) hx.2
 ⟨bT h.ra (aB h.ra o d?) u,bT h.rb (aB h.rb o d?) u,bT h.rc (aB h.rc o d?) u,fun x hx=>hit x (h.ia x hx),fun x hx=>hit x (h.ib x hx),fun x hx=>hit x (h.ic x hx),h.ab,h.ac,h.bc⟩
theorem eP.add {va'} {x:NS×Value} (h:eP base w va vb vc xs ys zs) (hx:dM base w x) (hg:w.grownBy wa va.ownBlock) (hr:wa.ownsRow base 113 4 va' (xs.length+1) (NX xs++Pt x.1 x.2)) (hb:va'.ownBlock=va.ownBlock\/va'.ownBlock=some w):eP base wa va' vb vc (xs++[x]) ys zs:=by
 have hit:=fun y (hy:dM base w y)=>And.intro (pe hy.1 hg (Av hy.1 h.ra d?)) hy.2
 have Qf:∀{v:Value} {n:Nat} {ws:List Value},w.ownsRow base 113 4 v n ws->jo va v->jo va' v:=fun hv ha g h1 h2=>by
  rcases hb with hb|hb
  .exact ha g (by rw[<-hb];exact h1) h2
  .rw[hb]at h1
   injection h1 with h1
   have:=(ML hv g h2).2
   omega
 refine⟨?_,pe h.rb hg h.ab.symm,pe h.rc hg h.ac.symm,?_,fun y hy=>hit y (h.ib y hy),fun y hy=>hit y (h.ic y hy),Qf h.rb h.ab,Qf h.rc h.ac,h.bc⟩
 .rw[fx,tN]
  exact hr
 .intro y hy
  rcases Na.1 hy with hy|hy
  .exact hit y (h.ia y hy)
  .have:y=x:=N!
   subst this
   exact hit _ hx
theorem eP.nil (base w):eP base w () () () [] [] []:=
 have h:jo () ():=fun g hg=>by simp[Value.ownBlock]at hg
 ⟨Nf _ _ _ _,Nf _ _ _ _,Nf _ _ _ _,fun x hx=>J!,fun x hx=>J!,fun x hx=>J!,h,h,h⟩
def iP (w1 w:World) (bx:Nat) (nb nm:Int) (A B C:List NS):Prop:=
 ∃va vb vc xs ys zs,ae w bx #[(nb,()),(nm,()),va,vb,vc] 52/\eP w1 w va vb vc xs ys zs/\xs.map (·.1)=A/\ys.map (·.1)=B/\zs.map (·.1)=C/\NP [bx] w1 w
end
section
open Go.Proofs.Tryz Go.RowKit
section
variable {c:au} {s t:List UInt8} {ls:List (List ag)} {jr:Int} {l:List (Int×Int)}
def gh (k n:Int) (x:NS) (L:List NS):List NS:=if k=n then L++[x]else L
def eS (r:ag) (w1:World) (bx:Nat) (nb nm:Int) (A B C:List NS) (e:Ending) (w':World):Prop:=
 e=.returned (.bool (decide (r.kind=1\/r.kind=2\/r.kind=3)))/\iP w1 w' bx nb nm (gh r.kind 1 r.item A) (gh r.kind 2 r.item B) (gh r.kind 3 r.item C)
theorem M7 {A:Prop}(h:A:=by
 refine hK.out _ _ ?_ (fun hHeld=>nM ?_)
 .exact Xa.out.c4
 clear hK K
 have P4:=ae.new wx.drew #[(r.id,()),r.name,r.size,(pu,r.runs.length,cu)] 113
 have⟨v5,w5,Oe,OG,hgrow5,_,hblk5⟩:=run_append_own_at (P:=prog) (wx.drew.alloc (.cells #[(r.id,()),r.name,r.size,(pu,r.runs.length,cu)] 113)) w1 50 50 113 i0 _ 4 56 underlying50 hi0 Rh Qc Qx rfl d? _ xs.length (NX xs) Vm.out.ra wx.drew 1 1 [.int .u32 r.id,.string (bs r.name),.int .i64 r.size,.slice pu r.runs.length cu] rfl (fun q u hq=>by
   have WO:=(Nn.1 hq).1
   rw[Ni,Nat.zero_add,P4.cell q ah!]
   rw[<-hq];simp[MZ WO]) t? (by have:=Xy.out.1;unfold maxLen;omega) (by have:=Xy.out.1;omega) S!
 have U6:=(Vm.out.add ITa.out hgrow5 OG hblk5)
 obtain⟨p5,c5,rfl⟩:=ah OG
 obtain⟨T,hT⟩:∃T:List Nat,T=((Value.slice pa xs.length ca).ownBlock).toList:=⟨_,rfl⟩
 have Zh:bx∉T:=fun hb=>by
  rw[hT,NH]at hb
  exact aB Vm.out.ra Yp.out d? hb
 have hTi:∀xc,T=xc->True:=fun _ _=>trivial
 have V7:NP T _ w5:=(NP.refl T _).grown hgrow5 (fun q hq=>Or.inl R!)
 have UJ:=tK (V7.own Yp.out Zh)
 have R5:=tK U6
 have K5:=tK (Zs.out.grown hgrow5 (fun q hq=>Or.inr (ML Vm.out.ra q hq).1))
 have X5:Hid (ae w5 xb #[(r.id,()),r.name,r.size,(pu,r.runs.length,cu)] 113):=tK (V7.own Xa.out (fun hb=>by
  rw[hT,NH]at hb
  exact HXR.out hb))
 have Ra:=tK Oe
 clear OG hgrow5 hT Zh hTi V7 P4 Oe U6 hblk5
 refine rD 7 (fun K hK=>?_)
 refine aO rfl _ _ 50 50 rfl _ _ g? g? Ra.out ?_
 refine hK.out _ _ ?_ (fun hHeld=>nM ?_)
 .exact X5.out.c4
 clear hK K
 refine tS ?_
 have b0:=UJ.out.cell 2 b?
 simp only[List.getElem_toArray,List.getElem_cons_zero,Nt]at b0
 have z0:=UJ.out.free 2
 refine rD 10 (fun K hK=>?_)
 go_simp
 refine hK.out _ _ ?_ (fun hHeld=>nM ?_)
 .exact(X5.out.other (p:=(aa bx 2)) WJ.out _).c4
 clear hK K
 refine Ng c? ?_ _
 go_wp2_with fail
 go_ret
 unfold eS gh
 rw[HK.out]
 refine⟨rfl,_,_,_,(xs++[(r.item,.slice pu r.runs.length cu)]),ys,zs,UJ.out.set 2 _,R5.out.set UJ.out 2 _,?_,?_,?_,K5.out.setCell (p:=(aa bx 2)) (Or.inl b?) _⟩
 .rw[M0,HE.out.1];rfl
 .exact HE.out.2.1
 .exact HE.out.2.2):A:=h
theorem M6 {A:Prop}(h:A:=by
 refine hK.out _ _ ?_ (fun hHeld=>nM ?_)
 .exact Xa.out.c4
 clear hK K
 have P4:=ae.new wx.drew #[(r.id,()),r.name,r.size,(pu,r.runs.length,cu)] 113
 have⟨v5,w5,Oe,OG,hgrow5,_,hblk5⟩:=run_append_own_at (P:=prog) (wx.drew.alloc (.cells #[(r.id,()),r.name,r.size,(pu,r.runs.length,cu)] 113)) w1 50 50 113 i0 _ 4 56 underlying50 hi0 Rh Qc Qx rfl d? _ ys.length (NX ys) Vm.out.cM.ra wx.drew 1 1 [.int .u32 r.id,.string (bs r.name),.int .i64 r.size,.slice pu r.runs.length cu] rfl (fun q u hq=>by
   have WO:=(Nn.1 hq).1
   rw[Ni,Nat.zero_add,P4.cell q ah!]
   rw[<-hq];simp[MZ WO]) t? (by have:=Xy.out.2.1;unfold maxLen;omega) (by have:=Xy.out.2.1;omega) S!
 have U6:=(Vm.out.cM.add ITa.out hgrow5 OG hblk5).cM.cM
 obtain⟨p5,c5,rfl⟩:=ah OG
 obtain⟨T,hT⟩:∃T:List Nat,T=((Value.slice pb ys.length cb).ownBlock).toList:=⟨_,rfl⟩
 have Zh:bx∉T:=fun hb=>by
  rw[hT,NH]at hb
  exact aB Vm.out.cM.ra Yp.out d? hb
 have hTi:∀xc,T=xc->True:=fun _ _=>trivial
 have V7:NP T _ w5:=(NP.refl T _).grown hgrow5 (fun q hq=>Or.inl R!)
 have UJ:=tK (V7.own Yp.out Zh)
 have R5:=tK U6
 have K5:=tK (Zs.out.grown hgrow5 (fun q hq=>Or.inr (ML Vm.out.cM.ra q hq).1))
 have X5:Hid (ae w5 xb #[(r.id,()),r.name,r.size,(pu,r.runs.length,cu)] 113):=tK (V7.own Xa.out (fun hb=>by
  rw[hT,NH]at hb
  exact HXR.out hb))
 have Ra:=tK Oe
 clear OG hgrow5 hT Zh hTi V7 P4 Oe U6 hblk5
 refine rD 7 (fun K hK=>?_)
 refine aO rfl _ _ 50 50 rfl _ _ g? g? Ra.out ?_
 refine hK.out _ _ ?_ (fun hHeld=>nM ?_)
 .exact X5.out.c4
 clear hK K
 refine tS ?_
 have b0:=UJ.out.cell 3 b?
 simp only[List.getElem_toArray,List.getElem_cons_zero,Nt]at b0
 have z0:=UJ.out.free 3
 refine rD 10 (fun K hK=>?_)
 go_simp
 refine hK.out _ _ ?_ (fun hHeld=>nM ?_)
 .exact(X5.out.other (p:=(aa bx 3)) WJ.out _).c4
 clear hK K
 refine Ng c? ?_ _
 go_wp2_with fail
 go_ret
 unfold eS gh
 rw[HK.out]
 refine⟨rfl,_,_,_,xs,(ys++[(r.item,.slice pu r.runs.length cu)]),zs,UJ.out.set 3 _,R5.out.set UJ.out 3 _,?_,?_,?_,K5.out.setCell (p:=(aa bx 3)) (Or.inl b?) _⟩
 .exact HE.out.1
 .rw[M0,HE.out.2.1];rfl
 .exact HE.out.2.2):A:=h
theorem M5 {A:Prop}(h:A:=by
 refine hK.out _ _ ?_ (fun hHeld=>nM ?_)
 .exact Xa.out.c4
 clear hK K
 have P4:=ae.new wx.drew #[(r.id,()),r.name,r.size,(pu,r.runs.length,cu)] 113
 have⟨v5,w5,Oe,OG,hgrow5,_,hblk5⟩:=run_append_own_at (P:=prog) (wx.drew.alloc (.cells #[(r.id,()),r.name,r.size,(pu,r.runs.length,cu)] 113)) w1 50 50 113 i0 _ 4 56 underlying50 hi0 Rh Qc Qx rfl d? _ zs.length (NX zs) Vm.out.cM.cM.ra wx.drew 1 1 [.int .u32 r.id,.string (bs r.name),.int .i64 r.size,.slice pu r.runs.length cu] rfl (fun q u hq=>by
   have WO:=(Nn.1 hq).1
   rw[Ni,Nat.zero_add,P4.cell q ah!]
   rw[<-hq];simp[MZ WO]) t? (by have:=Xy.out.2.2;unfold maxLen;omega) (by have:=Xy.out.2.2;omega) S!
 have U6:=(Vm.out.cM.cM.add ITa.out hgrow5 OG hblk5).cM
 obtain⟨p5,c5,rfl⟩:=ah OG
 obtain⟨T,hT⟩:∃T:List Nat,T=((Value.slice pc zs.length cc).ownBlock).toList:=⟨_,rfl⟩
 have Zh:bx∉T:=fun hb=>by
  rw[hT,NH]at hb
  exact aB Vm.out.cM.cM.ra Yp.out d? hb
 have hTi:∀xc,T=xc->True:=fun _ _=>trivial
 have V7:NP T _ w5:=(NP.refl T _).grown hgrow5 (fun q hq=>Or.inl R!)
 have UJ:=tK (V7.own Yp.out Zh)
 have R5:=tK U6
 have K5:=tK (Zs.out.grown hgrow5 (fun q hq=>Or.inr (ML Vm.out.cM.cM.ra q hq).1))
 have X5:Hid (ae w5 xb #[(r.id,()),r.name,r.size,(pu,r.runs.length,cu)] 113):=tK (V7.own Xa.out (fun hb=>by
  rw[hT,NH]at hb
  exact HXR.out hb))
 have Ra:=tK Oe
 clear OG hgrow5 hT Zh hTi V7 P4 Oe U6 hblk5
 refine rD 7 (fun K hK=>?_)
 refine aO rfl _ _ 50 50 rfl _ _ g? g? Ra.out ?_
 refine hK.out _ _ ?_ (fun hHeld=>nM ?_)
 .exact X5.out.c4
 clear hK K
 refine tS ?_
 have b0:=UJ.out.cell 4 b?
 simp only[List.getElem_toArray,List.getElem_cons_zero,Nt]at b0
 have z0:=UJ.out.free 4
 refine rD 10 (fun K hK=>?_)
 go_simp
 refine hK.out _ _ ?_ (fun hHeld=>nM ?_)
 .exact(X5.out.other (p:=(aa bx 4)) WJ.out _).c4
 clear hK K
 refine Ng c? ?_ _
 go_wp2_with fail
 go_ret
 unfold eS gh
 rw[HK.out]
 refine⟨rfl,_,_,_,xs,ys,(zs++[(r.item,.slice pu r.runs.length cu)]),UJ.out.set 4 _,R5.out.set UJ.out 4 _,?_,?_,?_,K5.out.setCell (p:=(aa bx 4)) (Or.inl b?) _⟩
 .exact HE.out.1
 .exact HE.out.2.1
 .rw[M0,HE.out.2.2];rfl):A:=h
theorem Kl (r rv w1 w bx nb nm A B C lo hi) (hG:iP w1 w bx nb nm A B C) (hbx:bx<w1.heap.size) (Qh:af w rv r.runs lo hi) (hf:r.fits) (Pj:∀a∈r.runs,aQ a) (P3:r.runs.length<=1000000) (hlen:A.length+B.length+C.length<=100000):
  am! 246 #[bx,.agg (r.cells rv)] w (eS r w1 bx nb nm A B C):=by
 have⟨i0,hi0,Rh,Qc,Qx⟩:=fg
 have HC:=tK fun W q=>tX rv r.runs _ _ W (Qh.kept0 q) P3
 have⟨va,vb,vc,xs,ys,zs,oB,r3,e1,e2,e3,kW⟩:=hG
 obtain⟨pa,ca,rfl⟩:=ah r3.ra
 obtain⟨pb,cb,rfl⟩:=ah r3.rb
 obtain⟨pc,cc,rfl⟩:=ah r3.rc
 obtain⟨TQ,crr,rfl⟩:=Qh.shape
 have Xy:Hid (xs.length<=100000/\ys.length<=100000/\zs.length<=100000):=tK (by
  have h1:=congrArg List.length e1
  have h2:=congrArg List.length e2
  have h3:=congrArg List.length e3
  rw[MP]at h1 h2 h3
  omega)
 have HIT:Hid (∀W u,W.ownsRow w1 128 2 u r.runs.length (NW r.runs)->dM w1 W (r.item,u)):=tK (fun W u ho=>⟨ho,ag.jW hf,Pj⟩)
 have HE:=tK (And.intro e1 (And.intro e2 e3))
 have⟨KW,OBX,UX⟩:=gg! kW oB r3
 have SP:Hid (bx<w1.heap.size/\w1.heap.size<=w.heap.size):=tK ⟨hbx,kW.size⟩
 have oR:=ae.new w (r.cells (TQ,r.runs.length,crr)) 102
 have k0:NP [] w (w.alloc (.cells (r.cells (TQ,r.runs.length,crr)) 102)):=(NP.refl _ _).alloc _
 unfold ag.cells at oR k0 ⊢
 unfold bh at HC
 have⟨OR,K0⟩:=f? oR k0
 clear oR k0 Qh hf Pj e1 e2 e3 kW oB r3 hbx hlen P3
 go_enter func246,ntmps246
 go_upto_region 1 with fail
 go_cut [5]from 6 to 15 (fun v5 wx=>∃xb pu cu,v5=.pointer (some ⟨xb,0,none⟩)/\ae wx xb #[(r.id,()),r.name,r.size,.slice pu r.runs.length cu] 113/\wx.ownsRow w 128 2 (.slice pu r.runs.length cu) r.runs.length (NW r.runs)/\ae wx w #[r.kind,(r.id,()),r.name,r.size,(TQ,r.runs.length,crr)] 102/\NP [] w wx/\w.heap.size<=xb)
 case first=>
  refine MK (S:=(fun W=>W.cell? w=r.kind/\W.cell? (aa w 1)=(r.id,())/\W.cell? (aa w 2)=r.name/\W.cell? (aa w 3)=r.size/\W.cell? (aa w 4)=(TQ,r.runs.length,crr))) c? ac! (fun hHeld=>?_)
  refine tS ?_
  refine wpAnyH_ready (rs:=[8,10]) c? b? ?_
  refine(AllReadyH.cons rfl (fun K hK=>?_) (AllReadyH.cons rfl (fun K hK=>?_) AllReadyH.nil))
  .go_simp
   ((with_reducible refine(HC.out _ K0.out.drew).mono ?_));rintro e w5 ⟨u5,rfl,r5,k5⟩
   have K5:=tK ((K0.out.drew).trans k5)
   have o5:=k5.own OR.out.drew b?
   have⟨O5,R5⟩:=f? o5 r5
   clear r5 o5
   obtain⟨pu,cu,rfl⟩:=ah R5.out
   go_wp2_with fail
   refine hK.out _ _ ?_ (fun hHeld=>nM ?_)
   .exact O5.out.k5
   clear hK K
   refine tS ?_
   refine rD 10 (fun K hK=>?_)
   go_simp
   refine hK.out _ _ ?_ (fun hHeld=>nM ?_)
   .go_keep
   clear hK K
   refine rD 11 (fun K hK=>?_)
   go_simp
   refine hK.out _ _ ?_ (fun hHeld=>nM ?_)
   .go_keep
   clear hK K
   refine Ng c? ?_ _
   go_wp2_with fail
   go_meet
   exact⟨_,_,_,rfl,ae.new _ _ _,ax (aF R5.out K0.out.size) ((NP.refl [] w5).alloc _) b?,O5.out.alloc _,K5.out.alloc _,K5.out.size⟩
  .go_simp
   refine hK.out _ _ ?_ (fun hHeld=>nM ?_)
   .go_keep
   clear hK K
   have KB:=tK ((K0.out.alloc (.cells #[.int .u32 0,.string {data:=#[]},(0:Int),()] 113)).drew)
   have OXB:=tK ((ae.new (w.alloc (.cells #[r.kind,(r.id,()),r.name,r.size,(TQ,r.runs.length,crr)] 102)).drew #[.int .u32 0,.string {data:=#[]},(0:Int),()] 113))
   have OB:=tK ((OR.out.alloc (.cells #[.int .u32 0,.string {data:=#[]},(0:Int),()] 113)).drew)
   refine rD 8 (fun K hK=>?_)
   go_simp
   ((with_reducible refine(HC.out _ KB.out).mono ?_));rintro e w5 ⟨u5,rfl,r5,k5⟩
   have K5:=tK ((KB.out).trans k5)
   have o5:=k5.own OB.out b?
   have⟨O5,R5⟩:=f? o5 r5
   clear r5 o5
   obtain⟨pu,cu,rfl⟩:=ah R5.out
   go_wp2_with fail
   refine hK.out _ _ ?_ (fun hHeld=>nM ?_)
   .exact O5.out.k5
   clear hK K
   have UP:=k5.own OXB.out b?
   simp only[Nd,World.size_drew]at UP
   have Zc:=tK UP
   have⟨z0,z1,z2,z3⟩:=UP.c4
   have⟨y0,y1,y2,y3⟩:=UP.z4
   refine tS ?_
   refine rD 11 (fun K hK=>?_)
   go_simp
   refine hK.out _ _ ?_ (fun hHeld=>nM ?_)
   .exact(O5.out.jV (Nat.ne_of_lt (Nat.lt_succ_self _)) _ _ _ _).k5
   clear hK K
   refine Ng c? ?_ _
   go_wp2_with fail
   go_meet
   exact⟨_,_,_,rfl,Zc.out.fU _ _ _ _,bI (aF R5.out KB.out.size) ((NP.refl [w.heap.size+1] w5).fU (Or.inl b?) _ _ _ _) Zc.out d?,O5.out.jV (Nat.ne_of_lt (Nat.lt_succ_self _)) _ _ _ _,K5.out.fU (Or.inr (Nat.le_succ _)) _ _ _ _,Nat.le_succ _⟩
 case rest=>
  obtain⟨xb,pu,cu,rfl,hX,hU,hR,hK,hxb⟩:=hcut
  rename World=>wx
  have X:=tK hX
  have OB:=tK (hK.own OBX.out b?)
  have RW:=tK (UX.out.kept0 hK)
  have IT:=tK (HIT.out _ _ (aF hU SP.out.2))
  have KX:=tK (KW.out.trans (hK.mono b?))
  have WJ:Hid (xb≠bx):=tK (fun e=>by have:=SP.out;omega)
  have⟨y0,y1,y2,y3,y4⟩:=hR.k5
  have HXB:=tK hxb
  clear hX hU hR hK hxb
  by_cases h1:r.kind=1
  .skip
   have HK:=tK h1
   clear h1
   have HXR:Hid ((Value.slice pa xs.length ca).ownBlock≠some xb):=tK (fun e=>by
    have h1:=(ML UX.out.ra xb e).2
    have:=HXB.out
    omega)
   rw[HK.out]at y0
   go_wp2_with fail
   refine MK (S:=(fun W=>W.cell? xb=(r.id,())/\W.cell? (aa xb 1)=r.name/\W.cell? (aa xb 2)=r.size/\W.cell? (aa xb 3)=(pu,r.runs.length,cu))) c? (by exact X.out.drew.c4) (fun hHeld=>?_)
   have bq:=OB.out.drew.cell 2 b?
   simp only[List.getElem_toArray,List.getElem_cons_zero,Nt]at bq
   refine tS ?_
   refine wpAnyH_ready (rs:=[4,6]) c? b? ?_
   refine(AllReadyH.cons rfl (fun K hK=>?_) (AllReadyH.cons rfl (fun K hK=>?_) AllReadyH.nil))
   .skip
    go_simp
    refine hK.out _ _ ?_ (fun hHeld=>nM ?_)
    .exact X.out.drew.c4
    clear hK K
    refine rD 6 (fun K hK=>?_)
    go_simp
    have ka:NP [] wx (wx.drew.alloc (.cells #[(r.id,()),r.name,r.size,(pu,r.runs.length,cu)] 113)):=(NP.refl [] wx).drew.alloc _
    have Yp:=tK (ka.own OB.out b?)
    have Xa:=tK (ka.own X.out b?)
    have Vm:=tK (RW.out.kept0 ka)
    have ITa:=tK (IT.out.kept0 ka)
    have Zs:=tK (KX.out.trans (ka.mono b?))
    clear ka
    exact M7
   .skip
    go_simp
    have ka:NP [] wx (wx.drew.alloc (.cells #[(r.id,()),r.name,r.size,(pu,r.runs.length,cu)] 113)):=(NP.refl [] wx).drew.alloc _
    have Yp:=tK (ka.own OB.out b?)
    have Xa:=tK (ka.own X.out b?)
    have Vm:=tK (RW.out.kept0 ka)
    have ITa:=tK (IT.out.kept0 ka)
    have Zs:=tK (KX.out.trans (ka.mono b?))
    clear ka
    refine hK.out _ _ ?_ (fun hHeld=>nM ?_)
    .exact Xa.out.c4
    clear hK K
    have bq2:=(OB.out.alloc (.cells #[(r.id,()),r.name,r.size,(pu,r.runs.length,cu)] 113)).drew.cell 2 b?
    simp only[List.getElem_toArray,List.getElem_cons_zero,Nt]at bq2
    refine rD 4 (fun K hK=>?_)
    go_simp
    exact M7
  by_cases h2:r.kind=2
  .skip
   have HK:=tK h2
   clear h2
   have HXR:Hid ((Value.slice pb ys.length cb).ownBlock≠some xb):=tK (fun e=>by
    have h1:=(ML UX.out.cM.ra xb e).2
    have:=HXB.out
    omega)
   rw[HK.out]at y0
   go_wp2_with fail
   refine MK (S:=(fun W=>W.cell? xb=(r.id,())/\W.cell? (aa xb 1)=r.name/\W.cell? (aa xb 2)=r.size/\W.cell? (aa xb 3)=(pu,r.runs.length,cu))) c? (by exact X.out.drew.c4) (fun hHeld=>?_)
   have bq:=OB.out.drew.cell 3 b?
   simp only[List.getElem_toArray,List.getElem_cons_zero,Nt]at bq
   refine tS ?_
   refine wpAnyH_ready (rs:=[4,6]) c? b? ?_
   refine(AllReadyH.cons rfl (fun K hK=>?_) (AllReadyH.cons rfl (fun K hK=>?_) AllReadyH.nil))
   .skip
    go_simp
    refine hK.out _ _ ?_ (fun hHeld=>nM ?_)
    .exact X.out.drew.c4
    clear hK K
    refine rD 6 (fun K hK=>?_)
    go_simp
    have ka:NP [] wx (wx.drew.alloc (.cells #[(r.id,()),r.name,r.size,(pu,r.runs.length,cu)] 113)):=(NP.refl [] wx).drew.alloc _
    have Yp:=tK (ka.own OB.out b?)
    have Xa:=tK (ka.own X.out b?)
    have Vm:=tK (RW.out.kept0 ka)
    have ITa:=tK (IT.out.kept0 ka)
    have Zs:=tK (KX.out.trans (ka.mono b?))
    clear ka
    exact M6
   .skip
    go_simp
    have ka:NP [] wx (wx.drew.alloc (.cells #[(r.id,()),r.name,r.size,(pu,r.runs.length,cu)] 113)):=(NP.refl [] wx).drew.alloc _
    have Yp:=tK (ka.own OB.out b?)
    have Xa:=tK (ka.own X.out b?)
    have Vm:=tK (RW.out.kept0 ka)
    have ITa:=tK (IT.out.kept0 ka)
    have Zs:=tK (KX.out.trans (ka.mono b?))
    clear ka
    refine hK.out _ _ ?_ (fun hHeld=>nM ?_)
    .exact Xa.out.c4
    clear hK K
    have bq2:=(OB.out.alloc (.cells #[(r.id,()),r.name,r.size,(pu,r.runs.length,cu)] 113)).drew.cell 3 b?
    simp only[List.getElem_toArray,List.getElem_cons_zero,Nt]at bq2
    refine rD 4 (fun K hK=>?_)
    go_simp
    exact M6
  by_cases h3:r.kind=3
  .skip
   have HK:=tK h3
   clear h3
   have HXR:Hid ((Value.slice pc zs.length cc).ownBlock≠some xb):=tK (fun e=>by
    have h1:=(ML UX.out.cM.cM.ra xb e).2
    have:=HXB.out
    omega)
   rw[HK.out]at y0
   go_wp2_with fail
   refine MK (S:=(fun W=>W.cell? xb=(r.id,())/\W.cell? (aa xb 1)=r.name/\W.cell? (aa xb 2)=r.size/\W.cell? (aa xb 3)=(pu,r.runs.length,cu))) c? (by exact X.out.drew.c4) (fun hHeld=>?_)
   have bq:=OB.out.drew.cell 4 b?
   simp only[List.getElem_toArray,List.getElem_cons_zero,Nt]at bq
   refine tS ?_
   refine wpAnyH_ready (rs:=[4,6]) c? b? ?_
   refine(AllReadyH.cons rfl (fun K hK=>?_) (AllReadyH.cons rfl (fun K hK=>?_) AllReadyH.nil))
   .skip
    go_simp
    refine hK.out _ _ ?_ (fun hHeld=>nM ?_)
    .exact X.out.drew.c4
    clear hK K
    refine rD 6 (fun K hK=>?_)
    go_simp
    have ka:NP [] wx (wx.drew.alloc (.cells #[(r.id,()),r.name,r.size,(pu,r.runs.length,cu)] 113)):=(NP.refl [] wx).drew.alloc _
    have Yp:=tK (ka.own OB.out b?)
    have Xa:=tK (ka.own X.out b?)
    have Vm:=tK (RW.out.kept0 ka)
    have ITa:=tK (IT.out.kept0 ka)
    have Zs:=tK (KX.out.trans (ka.mono b?))
    clear ka
    exact M5
   .skip
    go_simp
    have ka:NP [] wx (wx.drew.alloc (.cells #[(r.id,()),r.name,r.size,(pu,r.runs.length,cu)] 113)):=(NP.refl [] wx).drew.alloc _
    have Yp:=tK (ka.own OB.out b?)
    have Xa:=tK (ka.own X.out b?)
    have Vm:=tK (RW.out.kept0 ka)
    have ITa:=tK (IT.out.kept0 ka)
    have Zs:=tK (KX.out.trans (ka.mono b?))
    clear ka
    refine hK.out _ _ ?_ (fun hHeld=>nM ?_)
    .exact Xa.out.c4
    clear hK K
    have bq2:=(OB.out.alloc (.cells #[(r.id,()),r.name,r.size,(pu,r.runs.length,cu)] 113)).drew.cell 4 b?
    simp only[List.getElem_toArray,List.getElem_cons_zero,Nt]at bq2
    refine rD 4 (fun K hK=>?_)
    go_simp
    exact M5
  have HK:=tK (And.intro h1 (And.intro h2 h3))
  clear h1 h2 h3
  have⟨h1,h2,h3⟩:=HK.out
  have g1:(r.kind==1)=false:=P?
  have g2:(r.kind==2)=false:=e!
  have g3:(r.kind==3)=false:=by simpa using h3
  go_wp2_with fail
  go_ret
  unfold eS gh
  rw[if_neg HK.out.1,if_neg HK.out.2.1,if_neg HK.out.2.2]
  refine⟨by simp[HK.out.1,HK.out.2.1,HK.out.2.2],_,_,_,xs,ys,zs,OB.out,RW.out,HE.out.1,HE.out.2.1,HE.out.2.2,KX.out⟩
def aH (k:Int) (l:List ag):List NS:=(l.filter (fun r=>decide (r.kind=k))).map (·.item)
theorem lG (k l m):aH k (l++m)=aH k l++aH k m:=by unfold aH;rw[List.filter_append,M0]
theorem s7 (k l r):aH k (l++[r])=gh r.kind k r.item (aH k l):=by
 rw[lG]
 unfold gh aH
 by_cases h:r.kind=k<;>simp[h]
theorem kN (k):∀L:List NS,aH k (L.map (·.told k))=L
 |[]=>rfl
 |a::L=>by
  have ih:=kN k L
  unfold aH at ih ⊢
  rw[List.map_cons,List.filter_cons_of_pos (by simp[NS.told]),List.map_cons,ih]
  rfl
theorem fK {k j} (h:j≠k):∀L:List NS,aH k (L.map (·.told j))=[]
 |[]=>rfl
 |a::L=>by
  have ih:=fK h L
  unfold aH at ih ⊢
  rw[List.map_cons,List.filter_cons_of_neg (by simp[NS.told,h])]
  exact ih
theorem Bf (c):aH 1 (Ov c)=c.boxes/\aH 2 (Ov c)=c.mans/\aH 3 (Ov c)=c.names:=by
 unfold Ov
 simp only[lG]
 rw[kN 1,kN 2,kN 3,fK (show(2:Int)≠1 by decide),fK (show(3:Int)≠1 by decide),fK (show(1:Int)≠2 by decide),fK (show(3:Int)≠2 by decide),fK (show(1:Int)≠3 by decide),fK (show(2:Int)≠3 by decide)]
 simp
theorem DT:∀r∈Ov c,r.kind=1\/r.kind=2\/r.kind=3:=by
 intro r hr
 unfold Ov at hr
 simp only[Na,ND]at hr
 rcases hr with(⟨a,_,rfl⟩|⟨a,_,rfl⟩)|⟨a,_,rfl⟩
 .exact Or.inl rfl
 .exact Or.inr (Or.inl rfl)
 .exact Or.inr (Or.inr rfl)
def il (c:au):Prop:=(Lit.int .u32 c.nextBox).wf=true/\(Lit.int .u32 c.nextMan).wf=true/\∀r∈Ov c,r.fits
theorem dJ.fit {w v} (h:dJ w v c):il c:=by
 obtain⟨vb,vm,vn,rfl,hb,hm,hn,Rp,Te⟩:=h
 have hf:∀{u:Value} {L:List NS},aU w u L->∀a∈L,a.fits:=fun{u L} hi a ha=>by
  have⟨vs,hvs,_,Pf⟩:=hi
  rw[<-hvs]at ha
  obtain⟨x,hx,rfl⟩:=ND.1 ha
  exact(Pf x hx).2.1
 refine⟨Rp,Te,fun r hr=>?_⟩
 unfold Ov at hr
 simp only[Na,ND]at hr
 rcases hr with(⟨a,ha,rfl⟩|⟨a,ha,rfl⟩)|⟨a,ha,rfl⟩
 .exact NS.dw (hf hb a ha) d?
 .exact NS.dw (hf hm a ha) d?
 .exact NS.dw (hf hn a ha) d?
def qf (c:au):List UInt8:=if Ov c=[]then[]else fZ (Ov c)
def qM (c:au):List (List ag):=if Ov c=[]then[]else[Ov c]
theorem rJ (c):(qM c).flatten=Ov c:=by
 unfold qM;split
 .rename_i h;rw[h];rfl
 .simp
theorem zv (c):(qM c).length<=1:=by unfold qM;split<;>simp
theorem rX (c):eD c=jg c.nextBox.toNat c.nextMan.toNat++qf c:=rfl
theorem iq (hm:OL c) (hf:il c):O4 (qf c)=some (qM c):=by
 unfold qf qM
 split
 .rfl
 .rename_i h
  have h1:1<=(Ov c).length:=by
   cases e:Ov c with
   |nil=>exact absurd e h
   |cons a t=>simp
  have h2:(Ov c).length<=8192:=by
   have:=hm.boxes.1;have:=hm.mans.1;have:=hm.names.1
   rw[fN];omega
  have:=Cs [Ov c] (fun l hl=>by
   have:l=Ov c:=ae!
   subst this
   exact⟨fun r hr=>⟨jD hm r hr,hf.2.2 r hr⟩,h1,h2⟩)
  simpa using this
def nbT (u:List UInt8):Nat:=(N6 4 u 0).1
def nmT (u:List UInt8):Nat:=(N6 4 (N6 4 u 0).2.1 (N6 4 u 0).2.2).1
theorem Ff (nb nm) (h1:nb<4294967296) (h2:nm<4294967296) (rest):nbT (NT nb 4++(NT nm 4++rest))=nb/\nmT (NT nb 4++(NT nm 4++rest))=nm:=by
 unfold nbT nmT
 rw[ez _ P?]
 simp only
 rw[ez _ e!]
 refine⟨?_,?_⟩<;>first|rfl|trivial
def Qr (u:List UInt8) (ls:List (List ag)):au:=⟨nbT u,nmT u,aH 1 ls.flatten,aH 2 ls.flatten,aH 3 ls.flatten⟩
theorem F1 (hf:il c):(c.nextBox.toNat:Int)=c.nextBox/\c.nextBox.toNat<4294967296/\(c.nextMan.toNat:Int)=c.nextMan/\c.nextMan.toNat<4294967296:=by
 have⟨b1,b2⟩:=eG hf.1
 have⟨b3,b4⟩:=eG hf.2.1
 omega
theorem xO (hf:il c) (rest):Qr (NT c.nextBox.toNat 4++(NT c.nextMan.toNat 4++rest)) (qM c)=c:=by
 have⟨e1,e2,e3,e4⟩:=F1 hf
 have⟨h1,h2⟩:=Ff _ _ e2 e4 rest
 have⟨k1,k2,k3⟩:=Bf c
 unfold Qr
 rw[rJ,h1,h2,e1,e3,k1,k2,k3]
theorem fE (c):12<=(eD c).length/\(eD c).take 4=[67,65,84,76]/\((eD c).take 12).drop 4=NT c.nextBox.toNat 4++(NT c.nextMan.toNat 4++[])/\(eD c).drop 12=qf c:=by
 rw[rX]
 have hl:=mf c.nextBox.toNat c.nextMan.toNat
 refine⟨by rw[tN,hl];omega,?_,?_,?_⟩
 .unfold jg
  simp
 .rw[NC a?,Nh a?]
  unfold jg
  simp
 .rw[List.drop_append_of_le_length a?,List.drop_of_length_le a?];simp
theorem pt (hp:bN c=s) (ho:eO s=some t):t=eD c:=by
 subst hp
 unfold bN at ho
 rw[uU]at ho
 injection ho with ho
 exact ho.symm
theorem xd (hp:bN c=s):eO s=some (eD c):=by subst hp;exact uU _
theorem mP (hm:OL c) (hf:il c) (hp:bN c=s) (ho:eO s=some t) (hr:O4 (t.drop 12)=some ls):
  12<=t.length/\t.take 4=[67,65,84,76]/\ls=qM c/\Qr ((t.take 12).drop 4) ls=c:=by
 have e:=pt hp ho
 subst e
 have⟨h1,h2,h3,h4⟩:=fE c
 rw[h4,iq hm hf]at hr
 injection hr with hr
 subst hr
 refine⟨h1,h2,rfl,?_⟩
 rw[h3]
 exact xO hf []
def fT (s:List UInt8):Prop:=∀c,OL c->il c->bN c≠s
theorem AO (h:eO s=none):fT s:=fun c hm hf hp=>by rw[xd hp]at h;cases h
theorem sS (ho:eO s=some t) (h:¬(12<=t.length/\t.take 4=[67,65,84,76])):fT s:=fun c hm hf hp=>by
 have e:=pt hp ho
 subst e
 exact h ⟨(fE c).1,(fE c).2.1⟩
theorem AN (ho:eO s=some t) (h:O4 (t.drop 12)=none):fT s:=fun c hm hf hp=>by
 have e:=pt hp ho
 subst e
 rw[(fE c).2.2.2,iq hm hf]at h;cases h
theorem AQ (ho:eO s=some t) (hr:O4 (t.drop 12)=some ls) (h:¬ls.length<=1):fT s:=fun c hm hf hp=>by
 obtain⟨_,_,rfl,_⟩:=mP hm hf hp ho hr
 exact h (zv c)
theorem AR (ho:eO s=some t) (hr:O4 (t.drop 12)=some ls) {r} (TF:r∈ls.flatten) (h:¬(r.kind=1\/r.kind=2\/r.kind=3)):fT s:=fun c hm hf hp=>by
 obtain⟨_,_,rfl,_⟩:=mP hm hf hp ho hr
 rw[rJ]at TF
 exact h (DT r TF)
theorem AS (ho:eO s=some t) (hr:O4 (t.drop 12)=some ls) (h:¬(OL (Qr ((t.take 12).drop 4) ls)/\bN (Qr ((t.take 12).drop 4) ls)=s)):fT s:=fun c hm hf hp=>by
 have⟨_,_,_,e⟩:=mP hm hf hp ho hr
 rw[e]at h
 exact h ⟨hm,hp⟩
theorem EP {d} (hc:OL c) (fc:il c) (hd:OL d) (fd:il d) (h:bN c=bN d):c=d:=by
 have ho:=xd (c:=c) rfl
 have hr:O4 ((eD c).drop 12)=some (qM c):=by rw[(fE c).2.2.2,iq hc fc]
 have⟨_,_,_,e1⟩:=mP hc fc rfl ho hr
 have⟨_,_,_,e2⟩:=mP hd fd h.symm ho hr
 rw[<-e1,<-e2]
theorem Hq (hp:bN c=s):16<=s.length:=by
 subst hp
 have:=(fE c).1
 unfold bN dF
 rw[tN,ak];omega
theorem zl (hp:bN c=s):s.take (s.length-4)=eD c:=by
 subst hp
 unfold bN dF
 have:(eD c++NT (PE (eD c)) 4).length-4=(eD c).length:=by rw[tN,ak];omega
 rw[this];simp
theorem EL (hp:bN c=s):∃rest,s.drop 4=NT c.nextBox.toNat 4++(NT c.nextMan.toNat 4++rest):=by
 subst hp
 refine⟨qf c++NT (PE (eD c)) 4,?_⟩
 unfold bN dF
 rw[rX]
 unfold jg
 simp
theorem wX (hm:OL c) (hf:il c) (hp:bN c=s) (hr:O4 ((s.take (s.length-4)).drop 12)=some ls):ls=qM c/\Qr (s.drop 4) ls=c:=by
 rw[zl hp,(fE c).2.2.2,iq hm hf]at hr
 injection hr with hr
 subst hr
 have⟨rest,e⟩:=EL hp
 refine⟨rfl,?_⟩
 rw[e]
 exact xO hf rest
theorem yw (h:¬16<=s.length):fT s:=fun _ _ _ hp=>h (Hq hp)
theorem yx (h:O4 ((s.take (s.length-4)).drop 12)=none):fT s:=fun c hm hf hp=>by
 rw[zl hp,(fE c).2.2.2,iq hm hf]at h;cases h
theorem yz (hr:O4 ((s.take (s.length-4)).drop 12)=some ls) (h:¬ls.length<=1):fT s:=fun c hm hf hp=>by
 obtain⟨rfl,_⟩:=wX hm hf hp hr
 exact h (zv c)
theorem yA (hr:O4 ((s.take (s.length-4)).drop 12)=some ls) (h:¬(OL (Qr (s.drop 4) ls)/\bN (Qr (s.drop 4) ls)=s)):fT s:=fun c hm hf hp=>by
 have⟨_,e⟩:=wX hm hf hp hr
 rw[e]at h
 exact h ⟨hm,hp⟩
def lR (Pe jr:Int) (a:Int×Int):Prop:=1<=a.2/\2<=a.1/\jr<=a.1-2/\a.1<=Pe/\a.2<=Pe-a.1
def oJ (a b:Int×Int):Prop:=¬(a.1<b.1+b.2/\b.1<a.1+a.2)
theorem oJ.symm {a b:Int×Int} (h:oJ a b):oJ b a:=fun hh=>h ⟨hh.2,hh.1⟩
def PB (Pe jr:Int) (l:List (Int×Int)):Prop:=(∀a∈l,lR Pe jr a)/\l.Pairwise oJ
theorem Dg (Pe jr):PB Pe jr []:=⟨fun a ha=>V!,List.Pairwise.nil⟩
theorem sX {Pe jr:Int} {l:List (Int×Int)} {k:Nat} (hk:k<l.length) (h:PB Pe jr (l.take k)) (h1:lR Pe jr l[k]) (h2:∀j (hj:j<k),oJ l[k] (l[j]' a?)):PB Pe jr (l.take (k+1)):=by
 rw[MI hk]
 refine⟨fun a ha=>?_,?_⟩
 .rcases Na.1 ha with ha|ha
  .exact h.1 a ha
  simp_all
 .refine List.pairwise_append.2 ⟨h.2,List.pairwise_singleton _ _,fun a ha b hb=>?_⟩
  have:b=l[k]:=by simpa using hb
  subst this
  obtain⟨j,hj,rfl⟩:=List.mem_take_iff_getElem.1 ha
  exact(h2 j a?).symm
theorem uZ {Pe jr l k} (hk:k<l.length) (h:¬lR Pe jr l[k]):¬PB Pe jr l:=fun hh=>h (hh.1 _ (MJ hk))
theorem Df {Pe jr l k j} (hk:k<l.length) (hj:j<k) (h:¬oJ l[k] (l[j]' a?)):¬PB Pe jr l:=fun hh=>h ((List.pairwise_iff_getElem.1 hh.2 j k a? hk hj).symm)
theorem FH {Pe k j} (h:PB Pe jr (l.take k)) (hk:k<=l.length) (hj:j<k):lR Pe jr (l[j]' a?):=h.1 _ (List.mem_take_iff_getElem.2 ⟨j,a?,rfl⟩)
theorem Bb {Pe l'} (h:l'.Perm l):PB Pe jr l'↔PB Pe jr l:=
 ⟨fun hh=>⟨fun a ha=>hh.1 a (h.mem_iff.2 ha),(List.Perm.pairwise_iff (fun hab=>hab.symm) h).1 hh.2⟩,fun hh=>⟨fun a ha=>hh.1 a (h.mem_iff.1 ha),(List.Perm.pairwise_iff (fun hab=>hab.symm) h).2 hh.2⟩⟩
theorem xz {Pe jr l} (hr:jl l) (hok:∀a∈l,lR Pe jr a) (h:∀k (hk:k+1<l.length),l[k].1+l[k].2<=l[k+1].1):PB Pe jr l:=by
 refine⟨hok,List.pairwise_iff_getElem.2 (fun i j hi hj hij=>?_)⟩
 have h1:l[i].1+l[i].2<=l[j].1:=by
  have h2:=h i a?
  by_cases e:i+1=j
  .grind
  .have:=List.pairwise_iff_getElem.1 hr (i+1) j a? hj a?
   omega
 unfold oJ
 omega
theorem Bc {Pe k} (hk:k+1<l.length) (hr:jl l) (h:l[k+1].1<l[k].1+l[k].2):¬PB Pe jr l:=fun hh=>by
 have h1:=List.pairwise_iff_getElem.1 hr k (k+1) a? hk a?
 have h2:=List.pairwise_iff_getElem.1 hh.2 k (k+1) a? hk a?
 have h3:=(hh.1 _ (MJ hk)).1
 unfold oJ at h2
 omega
end
section
variable {c:au} {t a b:List UInt8} {s:SB}
open Classical in
noncomputable def jQ (t:List UInt8):Option au:=if h:∃c,OL c/\il c/\bN c=t then some (Classical.choose h)else none
theorem vz {c} (hm:OL c) (hf:il c) {t} (hp:bN c=t):jQ t=some c:=by
 have h:∃c,OL c/\il c/\bN c=t:=⟨c,hm,hf,hp⟩
 unfold jQ
 rw[dif_pos h]
 grind [EP]
theorem xP (h:fT t):jQ t=none:=by
 unfold jQ
 rw[dif_neg]
 rintro⟨c,h1,h2,h3⟩
 exact h c h1 h2 h3
theorem tq {t:List UInt8} {c:au} (h:jQ t=some c):OL c/\il c/\bN c=t:=by
 unfold jQ at h
 split at h
 .grind
 .cases h
noncomputable def PA (d:DK) (s:SB):Option au:=if s.size=0 then some cf else if N7 d s.runs s.size=0 then jQ (PV d s.runs s.size)else none
noncomputable def bM:au->List (List ag)->Option au
 |c,[]=>some c
 |c,l::ls=>if(N8 c l).2=0 then bM (N8 c l).1 ls else none
theorem iL:∀(c:au) (ls ms:List (List ag)),bM c (ls++ms)=(bM c ls).bind fun c'=>bM c' ms
 |c,[],ms=>rfl
 |c,l::ls,ms=>by
  show(if(N8 c l).2=0 then bM (N8 c l).1 (ls++ms)else none)=(if(N8 c l).2=0 then bM (N8 c l).1 ls else none).bind _
  split
  .exact iL _ ls ms
  .rfl
open Classical in
noncomputable def Pn (d:DK) (s:SB):Option au:=
 (PA d s).bind fun c=>if Oi d s.journal s.used=0 then((O4 (Pq d s.journal s.used)).bind fun ls=>(bM c ls).bind fun c'=>if PB s.sectors s.journal (OK c'++s.runs)then some c' else none)else none
open Classical in
noncomputable def jM (a b:List UInt8):Option SB:=if lJ a/\¬(nT b/\(PS a).seq<(PS b).seq)then some (PS a)else if nT b/\¬(lJ a/\(PS b).seq<(PS a).seq)then some (PS b)else none
theorem xg {a b} {o:Option (List UInt8)} (h:tC a b o):jM a b=o.map PS:=by
 unfold jM
 rcases h with⟨rfl,h1,h2⟩|⟨rfl,h1,h2⟩|⟨rfl,h1,h2⟩
 .simp_all
 .simp_all
 .by_cases hh:lJ a/\¬(nT b/\(PS a).seq<(PS b).seq)
  .exfalso
   have e1:=h1.2
   have e2:=hh.1.2
   grind
  grind
noncomputable def Ql (d:DK):Option (SB×au):=(jM (Pc d 0) (Pc d 1)).bind fun s=>if s.sectors=(d.stand.length:Int)then(Pn d s).map fun c=>(s,c)else none
structure zZ (d:DK) (s:SB) (c:au):Prop where
 pick:jM (Pc d 0) (Pc d 1)=some s
 sect:s.sectors=(d.stand.length:Int)
 stood:∃c0 ls,PA d s=some c0/\Oi d s.journal s.used=0/\O4 (Pq d s.journal s.used)=some ls/\bM c0 ls=some c
 lies:PB s.sectors s.journal (OK c++s.runs)
open Classical in
theorem AU {d:DK} {s:SB} {c:au}:Ql d=some (s,c)↔zZ d s c:=by
 constructor
 .intro h
  unfold Ql at h
  obtain⟨s',h1,h2⟩:=Option.bind_eq_some_iff.1 h
  split at h2
  .rename_i hs
   obtain⟨c',h3,h4⟩:=Option.map_eq_some_iff.1 h2
   injection h4 with e1 e2
   subst e1 e2
   unfold Pn at h3
   obtain⟨c0,h5,h6⟩:=Option.bind_eq_some_iff.1 h3
   split at h6
   .rename_i hl
    obtain⟨ls,h7,h8⟩:=Option.bind_eq_some_iff.1 h6
    obtain⟨c1,h9,h10⟩:=Option.bind_eq_some_iff.1 h8
    split at h10
    .rename_i hL
     injection h10 with e
     subst e
     exact⟨h1,hs,⟨c0,ls,h5,hl,h7,h9⟩,hL⟩
    .cases h10
   .cases h6
  .cases h2
 .rintro⟨h1,h2,⟨c0,ls,h3,h4,h5,h6⟩,h7⟩
  simp_all [Ql,Pn]
theorem pA (h:jM a b=some s):s.may/\s.seq<18446744073709551616/\(s.aT=a/\s.seq%2=0\/s.aT=b/\s.seq%2=1):=by
 unfold jM at h
 split at h
 .rename_i hh
  injection h with h
  subst h
  exact⟨hh.1.1.2.2.1,(iN a 8 8),Or.inl ⟨hh.1.1.2.2.2,hh.1.2⟩⟩
 .split at h
  .rename_i hh
   injection h with h
   subst h
   exact⟨hh.1.1.2.2.1,(iN b 8 8),Or.inr ⟨hh.1.1.2.2.2,hh.1.2⟩⟩
  .cases h
end
variable {w w':World} {b sb B:Nat} {x0 x1 x2 x3 x4 x5 x6 x7 x8 x9 x10 x11 x12:Value} {t:TypeId} {T:List Nat}
theorem ae.ku (h:ae w b #[x0,x1,x2,x3,x4,x5,x6,x7,x8,x9,x10,x11,x12] t):w.cell? b=some x0/\w.cell? (aa b 1)=some x1/\w.cell? (aa b 2)=some x2/\w.cell? (aa b 3)=some x3/\w.cell? (aa b 4)=some x4/\w.cell? (aa b 5)=some x5/\w.cell? (aa b 6)=some x6/\w.cell? (aa b 7)=some x7/\w.cell? (aa b 8)=some x8/\w.cell? (aa b 9)=some x9/\w.cell? (aa b 10)=some x10/\w.cell? (aa b 11)=some x11/\w.cell? (aa b 12)=some x12:=
 ⟨h.cell 0 b?,h.cell 1 b?,h.cell 2 b?,h.cell 3 b?,h.cell 4 b?,h.cell 5 b?,h.cell 6 b?,h.cell 7 b?,h.cell 8 b?,h.cell 9 b?,h.cell 10 b?,h.cell 11 b?,h.cell 12 b?⟩
theorem ae.LZ (h:ae w b #[x0,x1,x2,x3,x4,x5,x6,x7,x8,x9,x10,x11,x12] t) (u):ae (w.setCell (aa b 12) u) b #[x0,x1,x2,x3,x4,x5,x6,x7,x8,x9,x10,x11,u] t:=h.set 12 u
theorem bf.Jf {mb g} (h:bf T w b sb mb g) (hB:B∈T):bf [B] w b sb mb g:=h.mono (fun x hx=>by
 obtain rfl:x=B:=h?
 exact hB)
theorem PK.LY {mb} (h:PK [B] b sb mb w w') (hB:B∈T):PK T b sb mb w w':=h.mono (fun x hx=>by
 obtain rfl:x=B:=h?
 exact hB)
theorem aD.Lp {w w':World} {b sb mb lo B:Nat} {d:DK} {cs:Array Value} (h:aD w b sb mb lo d) (k:NP [B] w w') (hB:bf [] w b sb mb B) (o:ae w B cs 90):aD w' b sb mb lo d:=by
 obtain⟨wv,n,ob,os,hwr,hm,hn,h2,h3,h4,h5,h6,r⟩:=h
 obtain⟨_,n1,n2,n3,_⟩:=hB
 exact⟨wv,n,k.own ob (by grind),k.own os (by grind),bI hwr k o d?,hm.kept k (by grind),hn,h2,h3,h4,h5,Nk h6 k.size,r⟩
section
variable {T:List Nat} {w w':World} {B b sb mb lo:Nat} {v:VS}
theorem aL.bH (h:aL T w B b sb mb lo v):b<w.heap.size:=h.da.bH
theorem aL.aJ (h:aL T w B b sb mb lo v) (k:NP [] w w'):aL T w' B b sb mb lo v:=
 h.pk (S:=[]) (k.eH h.bH) (h.da.aJ k) (fun x hx=>by cases hx) b?
theorem aL.L1 (h:aL T w B b sb mb lo v) (k:NP [B] w w'):PK T b sb mb w w':=
 k.pk h.bH (fun x hx=>by
  obtain rfl:x=B:=h?
  exact⟨h.off.2.1,Or.inl h.hB⟩)
theorem aL.tW (h:aL T w B b sb mb lo v) (k:NP [B] w w'):PK [B] b sb mb w w':=
 k.pk h.bH (fun x hx=>by
  obtain rfl:x=B:=h?
  exact⟨h.off.2.1,Or.inl MY⟩)
theorem aL.Em (h:aL T w B b sb mb lo v) (k:NP [B] w w') {s c dead sv vb vm vn} (o:ae w' B (bL b s sv c vb vm vn dead) 90) (hr:ep T w b sb mb sv s.runs) (hc:dE T w b sb mb (.agg #[(c.nextBox,()),(c.nextMan,()),vb,vm,vn]) c):
  aL T w' B b sb mb lo ⟨v.d,s,c,dead⟩:=by
 have⟨sv0,vb0,vm0,vn0,o0,_,_⟩:=h.vol
 have hk:=h.L1 k
 exact⟨⟨h.da.disk.Lp k h.off o0,h.da.fit⟩,⟨sv,vb,vm,vn,o,hr.pk hk,hc.pk hk⟩,h.hB,fun x hx=>MR (h.hT x hx) k.size,⟨b?,h.off.2.1,h.off.2.2.1,h.off.2.2.2.1,fun hx=>h.off.2.2.2.2 ((WB.iw (k.cell (a:=(aa b 1)) h.bH (by simp only[Nm];exact fun e=>h.off.2.1 e.symm))).1 hx)⟩⟩
end
end
section
open Go.Proofs.Tryz Go.RowKit
variable {T:List Nat} {w w':World} {B b sb lo:Nat} {v:VS} {S:Nat->Prop} {l:List NS} {x:NS}
theorem BZ {mb} (h:aL T w B b sb mb lo v):am! 42 #[B] w fun e w'=>e=(if v.dead=true then 90 else 0:Int)/\w=w':=by
 have⟨sv,vb,vm,vn,o,_,_⟩:=h.vol
 have⟨x0,x1,x2,x3,x4,x5,x6,x7,x8,x9,x10,x11,x12⟩:=o.ku
 clear h o
 cases hd:v.dead
 .rw[hd]at x12
  clear x1 x2 x3 x4 x5 x6 x7 x8 x9 x10 x11
  rw[if_neg b?]
  go_enter func42,ntmps42
  go_wp2_with fail
  go_ret
  exact⟨rfl,rfl⟩
 .rw[hd]at x12
  clear x1 x2 x3 x4 x5 x6 x7 x8 x9 x10 x11
  rw[if_pos rfl]
  go_enter func42,ntmps42
  go_wp2_with fail
  go_ret
  exact⟨rfl,rfl⟩
theorem M19 {A:Prop}(h:A:=by
 have HS:Hid (∀x,x=(v.dead||c==90)->aL T (w.setCell (aa B 12) (.bool x)) B b sb mb lo (Qk (v,c)).1):=tK (by
  rintro x rfl
  have⟨sv,vb,vm,vn,o,hr,Oz⟩:=h.vol
  exact h.Em ((NP.refl [B] w).setCell (p:=(aa B 12)) (Or.inl b?) _) (o.LZ _) hr Oz)
 have⟨sv,vb,vm,vn,o,_,_⟩:=h.vol
 have⟨x0,x1,x2,x3,x4,x5,x6,x7,x8,x9,x10,x11,x12⟩:=o.ku
 have z12:=o.free 12
 clear h o x0 x1 x2 x3 x4 x5 x6 x7 x8 x9 x10 x11
 generalize hb90:(c==90)=q at*
 generalize Qk (v,c)=R at*
 generalize v.dead=dd at*
 have k1:NP [B] w (w.setCell (aa B 12) (.bool (dd||q))):=(NP.refl [B] w).setCell (p:=(aa B 12)) (Or.inl b?) _
 have K1:=tK k1
 clear k1
 cases dd<;>cases q
 all_goals
  go_enter func51,ntmps51
  go_wp2_with fail
  go_ret
  exact⟨rfl,HS.out _ rfl,K1.out⟩):A:=h
theorem Kr {mb} (h:aL T w B b sb mb lo v) (c) (_:(Lit.int .i64 c).wf=true):am! 51 #[B,c] w fun e w'=>e=c/\aL T w' B b sb mb lo (Qk (v,c)).1/\NP [B] w w':=by
 exact M19
theorem wg (k:Int) (w:World):am! 47 #[k] w fun e w'=>e=.returned (.bool (Oj k))/\w=w':=by
 unfold Oj
 cases h1:(k==1)<;>cases h2:(k==2)<;>cases h3:(k==3)
 all_goals
  go_enter func47,ntmps47
  go_wp2_with fail
  go_ret
  simp
def VC.cells (x:VC):Array Value:=#[x.kind,(x.id,()),x.name,x.bytes]
theorem Kw {T S:List Nat} (fs:List (VS->VS×Int)) (us:List (Nat×Array Value×Array Value)) (hl:us.length=fs.length) (g off c:Nat) {w:World} {B b sb mb lo:Nat} {v:VS} (hV:aL T w B b sb mb lo v) (hn:us.length<=1000)
  (hen:∀(i:Nat) (h:i<us.length),Enters prog us[i].1)
  (hcell:∀W,PK S b sb mb w W->∀(i:Nat) (h:i<us.length),W.cell? (aa g (off+i))=some (.func (.func us[i].1) us[i].2.1 us[i].2.2))
  (hstep:∀(k:Nat) (h:k<us.length) W,aL T W B b sb mb lo (kr fs v k)->PK S b sb mb w W->(∀i (hi:i<k),((fs[i]' a?) (kr fs v i)).2=0)->am! us[k].1 (us[k].2.1++us[k].2.2) W fun e W'=>e=.returned (.int .i64 ((fs[k]'(hl▸h)) (kr fs v k)).2)/\aL T W' B b sb mb lo ((fs[k]'(hl▸h)) (kr fs v k)).1/\PK S b sb mb W W'):
  am! 37 #[.slice (some (aa g off)) us.length c] w fun e w'=>e=.returned (.int .i64 (OH fs v).2)/\aL T w' B b sb mb lo (OH fs v).1/\PK S b sb mb w w':=by
 refine(Jc us (fun k=>if h:k<fs.length then(fs[k] (kr fs v k)).2 else 0) (fun k W=>aL T W B b sb mb lo (kr fs v k)/\PK S b sb mb w W) g off c w hn hen ⟨hV,PK.refl _ _ _ _ _⟩ (fun k W hI i h=>hcell W hI.2 i h) (fun k h W hI hz=>?_)).mono ?_
 .have hk:k<fs.length:=hl▸h
  refine(hstep k h W hI.1 hI.2 (fun i hi=>?_)).mono ?_
  .simp_all
  .rintro e W' ⟨h1,h2,h3⟩
   rw[dif_pos hk,q8 fs v k hk]
   exact⟨h1,h2,hI.2.trans h3⟩
 .rintro e w' (⟨k,h1,h2,h3,h4,h5,h6⟩|⟨h2,h4,h5,h6⟩)
  .have hk:k<fs.length:=hl▸h1
   rw[dif_pos hk]at h3 h4
   rw[q8 fs v k hk]at h5
   rw[qV fs v k hk (fun i hi=>by
    simp_all) h3]
   simp_all
  simp_all [tp]
theorem Kv {T} (n gS gD:Nat) (s rv) {w} {b sb mb lo:Nat} {d} (hD:DA w b sb mb lo d) (hT:∀x∈T,x<w.heap.size) (on:ae w n #[.func (.func 39) #[b] #[],.func (.func 92) #[] #[gS,gD]] 42) (hS:ae w gS (s.cells rv) 58) (hd:ae w gD #[b] 23) (f0:bf T w b sb mb n) (fS:bf T w b sb mb gS) (fD:bf T w b sb mb gD) (hr:ep T w b sb mb rv s.runs) (hm:s.may) (hq:s.seq<18446744073709551616) (ho:d.ops<=80000) (hw:d.waits.length<=8000):
  am! 37 #[.slice (some n) 2 2] w fun e w'=>e=.returned (.int .i64 (aG [aA,cN s] d).2)/\DA w' b sb mb lo (aG [aA,cN s] d).1/\PK T b sb mb w w':=by
 refine Ao [aA,cN s] [(39,#[b],#[]),(92,#[],#[gS,gD])] rfl n 0 2 hD b? (fun k h=>?_) on.lt f0 (fun k h=>?_) (fun k h W hW hk _=>?_)
 .match k,h with
  |0,_=>exact enters_of func39 c? rfl
  |1,_=>exact enters_of func92 c? rfl
 .match k,h with
  |0,_=>exact on.cell 0 b?
  |1,_=>exact on.cell 1 b?
 .have e3:=gU d
  match k,h with
  |0,_=>exact si hW (by show d.ops<_;omega) C!
  |1,_=>
   have:=BY (T:=T) gS gD s rv hW (fun x hx=>MR (hT x hx) hk.size) (hk.own hS fS) (hk.own hd fD) (hr.pk hk) hm hq (fS.pk hk hS.lt) (fD.pk hk hd.lt) (by show(aA d).1.ops<=_;omega) (by show(aA d).1.waits.length<=_;omega)
   exact this
theorem wT (v l i w) (h:aq S w v l) (hS:∀x,S x->x<w.heap.size) (hi:i<l.length) (hl:l.length<=100000):
  am! 288 #[v,(i:Int)] w (fp S (dI l i) w):=by
 have⟨i0,q0,q1,q2,q3⟩:=fg
 have⟨vs,hvs,hraw,Pf,_⟩:=h
 have U3:vs.length=l.length:=by rw[<-hvs,MP]
 rw[<-U3]at hi hl
 obtain⟨p,c,rfl⟩:=hraw.shape
 obtain⟨b,off,rfl,Ou,hb,SR,PT⟩:=hraw.at_ a?
 have afl:=tK hraw
 have j1:(i:Int)<vs.length:=a?
 have j2:(vs.length:Int)<=100000:=a?
 have j3:(vs.length:Int)<=c:=a?
 have j4:(i:Int)+1<=vs.length:=a?
 have j5:(c:Int)<=9223372036854775807:=by unfold maxLen at PT;omega
 have j6:i<=c:=a?
 have WR:Hid (IntKind.i64.wrap ((i:Int)+1)=(i:Int)+1):=tK (IntWalk.i64_in _ a?)
 have hlen:=tb vs
 have Pp:=fB (fun x hx=>(Pf x hx).1.fz)
 obtain⟨A2,UG,hN2⟩:∃A2:Addr,(if c=i+1 then some ((aa b off):Addr)else some (aa b (off+(i+1)*4)))=some A2/\∀W,NP [] w W->∀j u,((NX vs).drop ((i+1)*4))[j]? =some u->W.cell? (A2.add j)=some u:=by
  by_cases hce:c=i+1
  .refine⟨_,if_pos hce,fun W k j u hj=>?_⟩
   rw[List.drop_eq_nil_of_le (by rw[hlen];omega)]at hj
   simp at hj
  .refine⟨_,if_neg hce,fun W k j u hj=>?_⟩
   rw[List.getElem?_drop]at hj
   rw[Ni,Nat.add_assoc]
   exact(k.cell (by exact hb) b?).trans (Ou _ u hj)
 have V9:=tK UG
 have Ts:Hid (((NX vs).take (i*4)).length=i*4/\(∀W,NP [] w W->∀j u,((NX vs).take (i*4))[j]? =some u->W.cell? (((aa b off):Addr).add j)=some u)/\∀u∈(NX vs).take (i*4),u.oneCell'=true):=tK ⟨by rw[MO,hlen];omega,fun W k j u hj=>by
  have TT:=(Nn.1 hj).1
  rw[MO]at TT
  rw[List.getElem?_take_of_lt a?]at hj
  rw[Ni]
  exact(k.cell (by exact hb) b?).trans (Ou _ u hj),fun u hu=>Pp u (NJ hu)⟩
 have Rs:Hid (((NX vs).drop ((i+1)*4)).length=(vs.length-(i+1))*4/\(∀W,NP [] w W->∀j u,((NX vs).drop ((i+1)*4))[j]? =some u->W.cell? (A2.add j)=some u)/\∀u∈(NX vs).drop ((i+1)*4),u.oneCell'=true):=tK ⟨by rw[MQ,hlen];omega,hN2,fun u hu=>Pp u (NF hu)⟩
 have Qd:Hid (∀w' v',w'.ownsRow w 113 4 v' (vs.length-1) (([]++(NX vs).take (i*4))++(NX vs).drop ((i+1)*4))->NP [] w w'->aq S w' v' (dI l i)):=tK (fun w' v' ho k=>by
  rw[NI]at ho
  rw[<-hvs]
  exact aU.DF hi ho hS Pf k)
 clear hlen Pp UG hN2
 have⟨HVS,QH⟩:=f? hvs Pf
 have HB:=tK (And.intro hi (And.intro hl SR))
 clear hraw Ou Pf hvs U3 hi hl SR PT hb
 generalize hVN:vs.length=vn at*
 unfold fp
 go_enter func288,ntmps288
 go_wp2_with fail
 refine MK (S:=(fun W=>True)) c? (by trivial) (fun hHeld=>?_)
 have wr:=WR.out
 refine tS ?_
 refine cT (i:=8) (d:=some 13) (v:=.slice (some A2) (vn-(i+1)) (c-(i+1))) rfl rfl c? c? c? (fun _ _ _ h=>h) (Or.inl ⟨L?,?_⟩) n? ?_
 ·(intro w RI;go_simp;rw[if_pos a?,V9.out])
 try simp only[Act.put,List.setIfInBounds_toArray,List.set_cons_zero,List.set_cons_succ]
 refine rD 0 (fun K hK=>?_)
 go_simp
 refine hK.out _ _ ?_ (fun hHeld=>nM ?_)
 .trivial
 clear hK K
 have KA:NP [] w (w.drew.alloc (.cells #[] 113)):=(NP.refl [] w).drew.alloc _
 have E0:(w.drew.alloc (.cells #[] 113)).ownsRow w 113 4 (.slice (some w) 0 0) 0 []:=bJ w.drew w 113 4 (MG _)
 have⟨v5,w5,PZ,OG,hgr5,_,_⟩:=run_append_own_at (P:=prog) (w.drew.alloc (.cells #[] 113)) w 50 50 113 i0 _ 4 56 underlying50 q0 q1 q2 q3 rfl d? _ 0 ([]) E0 (aa b off) i c ((NX vs).take (i*4)) Ts.out.1 (Ts.out.2.1 _ KA) Ts.out.2.2 p? s? KA.size
 have K5:=tK (KA.grown hgr5 (fun q hq=>Or.inr (ML E0 q hq).1))
 have⟨Si,Ru⟩:=f? OG PZ
 clear hgr5 OG PZ E0
 refine rD 4 (fun K hK=>?_)
 refine aO rfl _ _ 50 50 rfl _ _ g? g? Ru.out ?_
 refine hK.out _ _ ?_ (fun hHeld=>nM ?_)
 .trivial
 clear hK K
 have⟨v6,w6,hrun6,Qz,hgr6,_,_⟩:=run_append_own_at (P:=prog) (w5) w 50 50 113 i0 _ 4 56 underlying50 q0 q1 q2 q3 rfl d? _ (0+i) ([]++(NX vs).take (i*4)) Si.out A2 (vn-(i+1)) (c-(i+1)) ((NX vs).drop ((i+1)*4)) Rs.out.1 (Rs.out.2.1 _ K5.out) Rs.out.2.2 p? s? K5.out.size
 have hNN:0+i+(vn-(i+1))=vn-1:=s?
 rw[hNN]at Qz
 clear hNN
 have K6:=tK (K5.out.grown hgr6 (fun q hq=>Or.inr (ML Si.out q hq).1))
 have⟨Tx,Yw⟩:=f? Qz hrun6
 obtain⟨p6,c6,rfl⟩:=ah Qz
 clear hgr6 Qz hrun6
 refine rD 9 (fun K hK=>?_)
 refine aO rfl _ _ 50 50 rfl _ _ g? g? Yw.out ?_
 refine hK.out _ _ ?_ (fun hHeld=>nM ?_)
 .trivial
 clear hK K
 simp only[List.getElem_toArray,Nt,List.getElem_cons_zero,List.setIfInBounds_toArray,List.set_cons_zero,List.set_cons_succ]
 refine tS ?_
 refine Ng c? ?_ _
 generalize vn-1=N at*
 try simp only[List.set_cons_succ,List.set_cons_zero]
 go_wp2_with fail
 go_ret
 exact⟨(p6,N,c6),rfl,Qd.out _ _ Tx.out K6.out,K6.out⟩
def gd (S:Nat->Prop) (l:List NS) (x:NS) (w:World) (e:Ending) (w':World):Prop:=
 ∃v,e=.returned (.tuple #[v,.int .i64 (OU l x).2])/\aq S w' v (if(OU l x).2=0 then(OU l x).1 else l)/\NP [] w w'
theorem EG {S:Nat->Prop} {l:List NS} {x:NS} {v:Value} {w w':World} (h:¬di l x) (hv:aq S w' v l) (k:NP [] w w'):gd S l x w (.returned (.tuple #[v,(6:Int)])) w':=by
 simp_all [OU,gd]
theorem Cy {S:Nat->Prop} {l:List NS} {x:NS} {v:Value} {w w':World} (h:di l x) (hv:aq S w' v (dI l (PJ l x))) (k:NP [] w w'):gd S l x w (.returned (.tuple #[v,(0:Int)])) w':=by
 simp_all [OU,gd]
theorem AH (v:Value) (l:List NS) (r:ag) (rv:Value) (w:World) (h:aq S w v l) (hS:∀x,S x->x<w.heap.size) (hl:l.length<=100000) (hs:fP rv):
  am! 259 #[v,.agg (r.cells rv)] w (gd S l r.item w):=by
 have HA:=tK fun W q=>L0 v l r.item W (h.plain.kept0 q) a?
 have HW:=tK fun W i (q:NP [] w W) hi=>wT v l i W (h.kept0 q) (fun x hx=>MR (hS x hx) q.size) hi hl
 have HV:=tK h
 obtain⟨pv,cv,rfl⟩:=h.plain.shape
 obtain⟨p,n,c,rfl⟩:=hs
 have oR:=ae.new w (r.cells (p,n,c)) 102
 have k0:NP [] w (w.alloc (.cells (r.cells (p,n,c)) 102)):=(NP.refl _ _).alloc _
 unfold ag.cells at oR k0 ⊢
 have⟨x0,x1,x2,x3,x4⟩:=oR.k5
 have K0:=tK k0
 unfold fY at HA
 unfold fp at HW
 clear oR k0 h hl hS
 by_cases hh:di l r.item
 .have ha:qX l r.item=(PJ l r.item:Int):=by unfold qX;exact if_pos hh
  rw[ha]at HA
  have hi:PJ l r.item<l.length:=hh
  have⟨HI,HH⟩:=f? hi hh
  obtain⟨i,hie⟩:∃i,i=PJ l r.item:=⟨_,rfl⟩
  have HIE:=tK hie
  rw[<-hie]at HA HI
  clear ha hi hh hie
  go_enter func259,ntmps259
  go_wp2_with fail
  refine(HA.out _ K0.out).mono ?_;rintro e w2 ⟨rfl,k2⟩
  have K2:=tK (K0.out.trans k2)
  have i1:¬(i:Int)<0:=a?
  go_wp2_with fail
  refine(HW.out _ i K2.out HI.out).mono ?_;rintro e w3 ⟨u,rfl,hu,k3⟩
  have HU:=tK hu
  clear hu
  obtain⟨pu,cu,rfl⟩:=HU.out.plain.shape
  go_wp2_with fail
  go_ret2
  exact Cy HH.out (by rw[<-HIE.out];exact HU.out) (K2.out.trans k3)
 .have ha:qX l r.item= -1:=by unfold qX;exact if_neg hh
  rw[ha]at HA
  have HH:=tK hh
  clear ha hh
  go_enter func259,ntmps259
  go_wp2_with fail
  refine(HA.out _ K0.out).mono ?_;rintro e w2 ⟨rfl,k2⟩
  have K2:=tK (K0.out.trans k2)
  go_wp2_with fail
  go_ret2
  exact EG HH.out (HV.out.kept0 K2.out) K2.out
theorem dK {ops rest} {o:Oper} {a} {Q:Exit->Act->World->Prop} (hgd:o.guard=none) (s x:Operand) (ho:o.op=.call {callee:=.builtin .append,args:=#[s,x],argTypes:=#[50,50]}) (base v n xs) (hs:a.eval s=v) (Ot:w.ownsRow base 113 4 v n xs) (u m news) (hx:a.eval x=u) (P4:bO w u m 4 news) (h1:∀y∈news,y.oneCell'=true) (h63:n+m<=maxLen) (Qs:(n+m)*56<=140737488355328) (Rk:base<=w.heap.size) (h:∀v' w',w'.ownsRow base 113 4 v' (n+m) (xs++news)->w.grownBy w' v.ownBlock->wpList prog ops Q rest (a.put o.dst v') w'):
  wpList prog ops Q (o::rest) a w:=by
 have⟨i0,q0,q1,q2,q3⟩:=fg
 obtain⟨p,c,rfl⟩:=P4.shape
 have hlen:=P4.1
 cases p with
 |none=>
  have hm:m=0:=by
   rcases P4.2 with⟨h,_⟩|⟨b,off,c',e,_⟩
   .exact h
   .simp at e
  subst hm
  have hn:news=[]:=Nc a?
  subst hn
  refine wpList_plain hgd fun K hK=>?_
  have Oe:=gM (P:=prog) (w:=w) base 50 o.type 113 i0 4 underlying50 q0 v n c xs Ot
  have hx':a.eval x=.slice none 0 c:=hx
  unfold Oper.wp
  simp[execOp,ho,resolve,invoke,builtin,hs,hx',Oe,Result.andThen]
  exact hK _ _ (h v w (by simpa using Ot) (jh _ _))
 |some ad=>
  have Ou:∀j u,news[j]? =some u->w.cell? (ad.add j)=some u:=by
   by_cases h0:m=0
   .subst h0
    have hn:news=[]:=Nc a?
    subst hn
    intro j u hj;simp at hj
   .have⟨b,off,e,h3,_⟩:=P4.at_ a?
    injection e with e
    subst e
    intro j u hj
    rw[Ni]
    exact h3 j u hj
  refine MT w hgd s x 50 ho base 113 i0 _ 4 56 underlying50 q0 q1 q2 q3 rfl d? v n xs hs Ot ad m c news hx hlen Ou h1 h63 Qs Rk ?_
  intro v' w' h2 h3 _ _
  exact h v' w' h2 h3
theorem bO.nil (w p c):bO w (.slice p 0 c) 0 4 []:=⟨rfl,Or.inl ⟨rfl,p,c,rfl⟩⟩
theorem yK {off c vs} (hraw:bO w (.slice (some (aa b off)) vs.length c) vs.length 4 (NX vs)) (k) (hk:k<=vs.length):
  ∃P2:Addr,(if c=k then some ((aa b off):Addr)else some (aa b (off+k*4)))=some P2/\(∀W,NP [] w W->bO W (.slice (some (aa b off)) k c) k 4 (NX (vs.take k)))/\(∀W,NP [] w W->bO W (.slice (some P2) (vs.length-k) (c-k)) (vs.length-k) 4 (NX (vs.drop k))):=by
 have h1:=hraw.sub 0 k (Nb _) hk
 have h2:=hraw.sub k vs.length hk (MG _)
 rw[Nat.zero_mul,Nat.add_zero,Nat.sub_zero,Nat.sub_zero,List.drop_zero,gJ]at h1
 rw[fL,Nh (by rw[tb,MQ];omega)]at h2
 by_cases hc:c=k
 .refine⟨_,if_pos hc,fun W q=>h1.kept0 q,fun W q=>?_⟩
  have h0:vs.length-k=0:=by
   by_cases h:0<vs.length
   .have⟨_,_,_,_,_,h6,_⟩:=hraw.at_ h
    omega
   .omega
  have h3:vs.drop k=[]:=List.drop_eq_nil_of_le a?
  rw[h0,h3]
  exact bO.nil _ _ _
 .exact⟨_,if_neg hc,fun W q=>h1.kept0 q,fun W q=>h2.kept0 q⟩
theorem Ip {S:Nat->Prop} {w w':World} {v':Value} {vs:List (NS×Value)} {x:NS} {xv:Value} (hS:∀x,S x->x<w.heap.size) (Pf:∀y∈vs,bd w y/\bD S y.2 y.1.runs.length) (hx:bd w (x,xv)/\bD S xv x.runs.length) (q:NP [] w w') {k:Nat} (hk:k=Og (vs.map (·.1)) x) {N:Nat} (hN:N=vs.length+1)
  (ho:w'.ownsRow w 113 4 v' N ((([]++NX (vs.take k))++Pt x xv)++NX (vs.drop k))):aq S w' v' (Qm (vs.map (·.1)) x):=by
 subst hk hN
 rw[NI,<-gJ,<-fL]at ho
 exact aU.Ca ho hS Pf hx q
theorem FD (a b):(a.id<b.id/\bY a b=true)\/(¬a.id<b.id/\¬a.id=b.id/\bY a b=false)\/(¬a.id<b.id/\a.id=b.id/\bY a b=iU a.name b.name):=by
 unfold bY
 by_cases h1:a.id<b.id
 .exact Or.inl ⟨h1,by simp[h1]⟩
 .by_cases h2:a.id=b.id
  .exact Or.inr (Or.inr ⟨h1,h2,by simp[h2]⟩)
  .exact Or.inr (Or.inl ⟨h1,h2,by simp[h1,h2]⟩)
theorem M79 {A:Prop}(h:A:=by
 go_wp2_with fail
 go_quiet (fail)
 go_wp2_with fail
 go_roundw
 case rel=>exact⟨k+1,Of.out,j?,HN.out,HK.out.drewN _⟩
 case measure=>(have hh:=Of.out;simp[intOf];omega)):A:=h
theorem M74 {A:Prop}(h:A:=by
 go_wp2_with fail
 go_quiet (fail)
 go_wp2_with fail
 go_meet
 exact⟨by rw[HP.out],HK.out.drewN _⟩):A:=h
theorem M12 {A:Prop}(h:A:=by
 go_wp2_with (at_builtin;go_must (refine dK rfl (.tmp 43) (.tmp 46) rfl w _ 0 [] rfl (bJ _ w 113 4 Tc.out) _ 0 [] rfl (bO.nil _ _ _) Wf.out p? s? F? ?_))
 intro v6 w6 o6 Po
 have K6:=tK ((KWC.out.alloc (.cells #[] 113)).grown Po (fun q hq=>Or.inr (ML (bJ wc w 113 4 Tc.out) q hq).1))
 have K61:=tK ((KC1.out.alloc (.cells #[] 113)).grown Po (fun q hq=>Or.inr (by have hh:q=wc.heap.size:=C?;have:=KC1.out.size;omega)))
 have Tx:=tK o6
 obtain⟨p6,c6,rfl⟩:=ah o6
 have⟨x0,x1,x2,x3⟩:=Ow.out w6 K61.out
 clear o6 Po K61
 go_wp2_with (at_builtin;go_must (refine MT _ rfl (.tmp 48) (.tmp 50) 50 rfl w 113 i0 _ 4 56 underlying50 q0 q1 q2 q3 rfl d? _ _ _ rfl (MH Tx.out _) w6 1 1 (Pt x (px,nx,cx)) rfl rfl ?_ ?_ p? s? ?_ ?_))
 .exact World.news_of_block (Ns w6 _)
 .intro u hu;simp[Pt]at hu;rcases hu with rfl|rfl|rfl|rfl<;>rfl
 .have:=K6.out.size;simp;omega
 intro v7 w7 o7 X9 _ _
 have K7:=tK ((K6.out.alloc _).grown X9 (fun q hq=>Or.inr (ML Tx.out q hq).1))
 have Ze:=tK o7
 obtain⟨p7,c7,rfl⟩:=ah o7
 clear o7 X9 x0 x1 x2 x3
 go_wp2_with (at_builtin;go_must (refine dK rfl (.tmp 52) (.tmp 55) rfl w _ _ _ rfl Ze.out _ (0-0) [] rfl (bO.nil _ _ _) YW.out p? s? (by have:=K7.out.size;omega) ?_))
 intro v8 w8 o8 gr8
 have K8:=tK (K7.out.grown gr8 (fun q hq=>Or.inr (ML Ze.out q hq).1))
 have HF:=tK (Qd.out _ _ (0+0+1+(0-0)) s? K8.out (by first|exact o8|simpa using o8))
 obtain⟨p8,c8,rfl⟩:=ah o8
 clear o8 gr8
 (try generalize 0+0+1+(0-0)=N at*)
 (try generalize 0+1+(0-0)=N at*)
 go_wp2_with fail
 go_ret
 exact⟨_,rfl,HF.out,K8.out⟩):A:=h
theorem KU (v l x xv w) (h:aq S w v l) (hS:∀x,S x->x<w.heap.size) (hx:bd w (x,xv)/\bD S xv x.runs.length) (hl:l.length<=100000):
  am! 287 #[v,.agg (x.cells xv)] w (fp S (Qm l x) w):=by
 obtain⟨pv,cv,rfl⟩:=h.plain.shape
 obtain⟨px,nx,cx,rfl⟩:=hx.1.fz
 obtain⟨W1,hW1⟩:∃W1,W1=w.alloc (.cells (x.cells (px,nx,cx)) 113):=⟨_,rfl⟩
 have k1:NP [] w W1:=H?
 have oX:ae W1 w (x.cells (px,nx,cx)) 113:=U?
 unfold NS.cells at oX hW1 ⊢
 have Ow:=tK fun W (q:NP [] W1 W)=>(q.own oX b?).c4
 have H:=tK (h.plain.kept0 k1)
 have⟨H0,TO,HX,HL,VF⟩:=gi! h hS hx hl k1
 have j1:(l.length:Int)<=100000:=a?
 clear h k1 oX hx hl hS
 unfold fp
 go_enter func287,ntmps287
 go_upto_block 0 with fail
 rw[<-hW1]
 go_cut [5]from 7 to 42 (fun v5 wx=>v5=(Og l x:Int)/\NP [] W1 wx)
 case first=>
  go_wp2_with fail
  go_loopw [5] (fun i wr=>∃k:Nat,k<=l.length/\i=(k:Int)/\(∀j (hj:j<l.length),j<k->bY l[j] x=true)/\NP [] W1 wr) (fun i _=>l.length-(intOf i).toNat)
  case atStart=>exact⟨0,Nb _,rfl,fun j hj h=>absurd h (Nat.not_lt_zero j),NP.refl _ _⟩
  case round=>
   obtain⟨k,hk,rfl,hlo,hK⟩:=hrel
   rename World=>wr
   by_cases NV:k<l.length
   .have i1:(k:Int)<l.length:=a?
    obtain⟨b,off,kv,rfl,hia,hb,RU,hc2,SA⟩:=H.out.ja k NV
    have⟨y0,y1,y2,y3⟩:=SA wr hK
    have⟨x0,x1,x2,x3⟩:=Ow.out wr hK
    have h5:=FD (l[k]'NV) x
    have RA:Hid (bY (l[k]'NV) x=true->∀j (hj:j<l.length),j<k+1->bY l[j] x=true):=tK (fun he j hj hjk=>by
     by_cases e:j=k
     .subst e;exact he
     .exact hlo j hj a?)
    have YT:Hid (bY (l[k]'NV) x=false->Og l x=k):=tK (fun he=>ql (Nat.le_of_lt NV) (fun j hj=>hlo j a? hj) (fun _=>he))
    have⟨HK,Of⟩:=f? hK NV
    clear hia SA hb hlo hK
    generalize hLA:l[k]'NV=A at*
    clear hLA
    rcases h5 with⟨h1,h2⟩|⟨h1,h2,h3⟩|⟨h1,h2,h3⟩
    .have d1:decide (A.id<x.id)=true:=P?
     have HN:=tK (RA.out h2)
     clear h2 h1 RA NV YT
     exact M79
    .have d1:decide (A.id<x.id)=false:=P?
     have d2:(A.id==x.id)=false:=e!
     have HP:=tK (YT.out h3)
     clear h2 h1 h3 RA NV YT
     exact M74
    .have d1:decide (A.id<x.id)=false:=P?
     have d2:(A.id==x.id)=true:=e!
     obtain⟨q,hq⟩:∃q,iU A.name x.name=q:=⟨_,rfl⟩
     rw[hq]at h3
     have d3:Op.bytesLess A.name x.name=q:=hq
     have d4:Op.bytesLess (bs A.name).toList (bs x.name).toList=q:=by rw[bj,bj];exact hq
     cases q with
     |true=>
      have HN:=tK (RA.out h3)
      clear h2 h1 h3 hq RA NV YT
      exact M79
     |false=>
      have HP:=tK (YT.out h3)
      clear h2 h1 h3 hq RA NV YT
      exact M74
   .obtain rfl:k=l.length:=a?
    have d0:decide ((l.length:Int)<l.length)=false:=b?
    have HP:Hid (Og l x=l.length):=tK (ql (MG _) (fun j hj=>hlo j hj hj) (fun hh=>absurd hh (Nat.lt_irrefl _)))
    have HK:=tK hK
    clear hlo hK NV hk
    exact M74
 case rest=>
  obtain⟨rfl,Zb⟩:=hcut
  rename World=>wc
  have⟨i0,q0,q1,q2,q3⟩:=fg
  have⟨vs,hvs,hraw,Pf,_⟩:=H0.out
  have U3:vs.length=l.length:=by rw[<-hvs,MP]
  have KC1:=tK Zb
  have KWC:=tK (VF.out.trans Zb)
  have Tc:Hid (w.heap.size<=wc.heap.size):=tK (VF.out.trans Zb).size
  have Pp:=fB (fun y hy=>(Pf y hy).1.fz)
  have Qd:Hid (∀w' v' N,N=vs.length+1->NP [] w w'->w'.ownsRow w 113 4 v' N ((([]++NX (vs.take (Og l x)))++Pt x (px,nx,cx))++NX (vs.drop (Og l x)))->aq S w' v' (Qm l x)):=tK (fun w' v' N hN q ho=>by
   have:=Ip TO.out Pf HX.out q (k:=Og l x) (by rw[hvs]) hN ho
   rw[hvs]at this
   exact this)
  have Wf:Hid (∀u∈NX (vs.take (Og l x)),u.oneCell'=true):=tK (fun u hu=>Pp u (by rw[<-gJ]at hu;exact NJ hu))
  have YW:Hid (∀u∈NX (vs.drop (Og l x)),u.oneCell'=true):=tK (fun u hu=>Pp u (by rw[<-fL]at hu;exact NF hu))
  have hkl:Og l x<=vs.length:=by rw[U3];exact jv l x
  have HB:Hid (Og l x<=vs.length/\vs.length<=100000):=tK ⟨hkl,by have:=HL.out;omega⟩
  clear Zb Pp
  by_cases h0:vs.length=0
  .have YD:Og l x=0:=a?
   have aa8:vs=[]:=Nc h0
   have e1:NX (vs.take (Og l x))=[]:=by rw[aa8];simp[NX]
   have e2:NX (vs.drop (Og l x))=[]:=by rw[aa8];simp[NX]
   rw[e1,e2]at Qd
   rw[e1]at Wf
   rw[e2]at YW
   rw[YD,h0]at HB
   rw[YD]
   rw[h0]at Qd
   rw[h0]at U3
   rw[<-U3]
   clear e1 e2 YD aa8 hraw Pf hvs U3 h0 hkl H0 H HX j1 HL
   cases pv with
   |none=>
    exact M12
   |some ad=>
    have⟨b,off,ix⟩:=ad
    exact M12
  .rw[<-U3]at hraw
   obtain⟨b,off,rfl,_,_,SR,PT⟩:=hraw.at_ a?
   have⟨P2,hP2,RH,QG⟩:=yK hraw (Og l x) hkl
   have⟨TK,Ye⟩:=f? RH QG
   generalize NX (vs.take (Og l x))=T1 at*
   generalize NX (vs.drop (Og l x))=T2 at*
   rw[<-U3]
   have j2:(vs.length:Int)<=100000:=s?
   have j3:(vs.length:Int)<=cv:=a?
   have j4:(cv:Int)<=9223372036854775807:=by unfold maxLen at PT;omega
   have j5:(Og l x:Int)<=vs.length:=s?
   have j6:(Og l x:Int)<=cv:=s?
   have j7:Og l x<=cv:=a?
   clear RH QG hraw Pf hvs U3 h0 hkl H0 H HX j1 HL SR PT
   generalize Og l x=k at*
   generalize vs.length=n at*
   go_wp2_with (at_builtin;go_must (refine dK rfl (.tmp 43) (.tmp 46) rfl w _ 0 [] rfl (bJ _ w 113 4 Tc.out) _ k T1 rfl (TK.out _ (KWC.out.alloc _)) Wf.out p? s? F? ?_))
   intro v6 w6 o6 Po
   have K6:=tK ((KWC.out.alloc (.cells #[] 113)).grown Po (fun q hq=>Or.inr (ML (bJ wc w 113 4 Tc.out) q hq).1))
   have K61:=tK ((KC1.out.alloc (.cells #[] 113)).grown Po (fun q hq=>Or.inr (by have hh:q=wc.heap.size:=C?;have:=KC1.out.size;omega)))
   have Tx:=tK o6
   obtain⟨p6,c6,rfl⟩:=ah o6
   have⟨x0,x1,x2,x3⟩:=Ow.out w6 K61.out
   clear o6 Po K61
   go_wp2_with (at_builtin;go_must (refine MT _ rfl (.tmp 48) (.tmp 50) 50 rfl w 113 i0 _ 4 56 underlying50 q0 q1 q2 q3 rfl d? _ _ _ rfl (MH Tx.out _) w6 1 1 (Pt x (px,nx,cx)) rfl rfl ?_ ?_ p? s? ?_ ?_))
   .exact World.news_of_block (Ns w6 _)
   .intro u hu;simp[Pt]at hu;rcases hu with rfl|rfl|rfl|rfl<;>rfl
   .have:=K6.out.size;simp;omega
   intro v7 w7 o7 X9 _ _
   have K7:=tK ((K6.out.alloc _).grown X9 (fun q hq=>Or.inr (ML Tx.out q hq).1))
   have Ze:=tK o7
   obtain⟨p7,c7,rfl⟩:=ah o7
   clear o7 X9 x0 x1 x2 x3
   go_wp2_with (at_builtin;go_must (refine dK rfl (.tmp 52) (.tmp 55) rfl w _ _ _ rfl Ze.out _ (n-k) T2 rfl (Ye.out _ K7.out) YW.out p? s? (by have:=K7.out.size;omega) ?_))
   intro v8 w8 o8 gr8
   have K8:=tK (K7.out.grown gr8 (fun q hq=>Or.inr (ML Ze.out q hq).1))
   have HF:=tK (Qd.out _ _ (0+k+1+(n-k)) s? K8.out (by first|exact o8|simpa using o8))
   obtain⟨p8,c8,rfl⟩:=ah o8
   clear o8 gr8
   (try generalize 0+k+1+(n-k)=N at*)
   (try generalize k+1+(n-k)=N at*)
   go_wp2_with fail
   go_ret
   exact⟨_,rfl,HF.out,K8.out⟩
end
end Go.Proofs.YtdkimcnlhmhpgaaGreat

/- -/
import Derived.Test.YtdkimcnlhmhpgaaGreatK29
set_option maxHeartbeats 16000000
set_option maxRecDepth 100000
set_option linter.unusedVariables false
namespace Go.Proofs.YtdkimcnlhmhpgaaGreat
open Go.RowKit
variable {c:aj} {d:DK} {P:Nat->Prop} {l:List (Int×Int)} {k:Nat}
def kO (nb nm:Nat):List UInt8:=[67,65,84,76]++Nh nb 4++Nh nm 4
def jb (c:aj):List UInt8:=kO c.nextBox.toNat c.nextMan.toNat++(if N0 c=[]then[]else iL (N0 c))
def dz (c:aj):List UInt8:=eR (jb c)
open Classical in
noncomputable def aG (c:aj):List UInt8×Int:=if aM c then(dz c,0)else([],110)
def iu (c:aj) (w:World) (e:Ending) (w':World):Prop:=e=.returned (.tuple #[.string (bs (aG c).1),.int .i64 (aG c).2])/\aa [] w w'
theorem mT {s:List UInt8} {C:Int} {w w':World} (h:aG c=(s,C)) (k:aa [] w w'):iu c w (.returned (.tuple #[.string (bs s),.int .i64 C])) w':=by
 unfold iu;rw[h];exact⟨rfl,k⟩
theorem jU (h:aM c):∀r∈N0 c,az r=true:=by
 intro r hr
 unfold N0 at hr
 simp only[Mj,MV]at hr
 rcases hr with(⟨a,ha,rfl⟩|⟨a,ha,rfl⟩)|⟨a,ha,rfl⟩
 .exact h.boxes.2.1 a ha
 .exact h.mans.2.1 a ha
 .exact h.names.2.1 a ha
theorem il (c:aj):(N0 c).length=c.boxes.length+c.mans.length+c.names.length:=by unfold N0;simp[Nat.add_assoc]
theorem Cj (h:iq c):∀r∈N0 c,r.runs.length<=1000000:=by
 intro r hr
 unfold N0 at hr
 simp only[Mj,MV]at hr
 rcases hr with(⟨a,ha,rfl⟩|⟨a,ha,rfl⟩)|⟨a,ha,rfl⟩
 .exact h.1.2 a ha
 .exact h.2.1.2 a ha
 .exact h.2.2.2 a ha
theorem qx (nb nm:Nat):(kO nb nm).length=12:=by unfold kO;simp[aq]
theorem Ez (v:Value) (c:aj) (w:World) (h:cC w v c) (hc:iq c) (hlen:c.boxes.length+c.mans.length+c.names.length<=3000):
  Calls Tryz.prog 52 #[v] w (iu c w):=by
 have PT:Hid (∀W,aa [] w W->Calls Tryz.prog 97 #[v] W (iE c W)):=Mb (fun W q=>CF v c W (h.kept0 q) hc)
 have Td:Hid (∀W,aa [] w W->Calls Tryz.prog 110 #[v] W (lZ c W)):=Mb (fun W q=>wO v c W (h.kept0 q) (by omega))
 have Yw:Hid (∀W u lo hi,cY W u (N0 c) lo hi->Calls Tryz.prog 46 #[u] W (nF (N0 c) W)):=Mb (fun W u lo hi hu=>LM u (N0 c) lo hi W hu (by rw[il];omega) (Cj hc))
 obtain⟨vb,vm,vn,rfl,hb,hm,hn,Pr,hwm⟩:=h
 obtain⟨p1,c1,rfl⟩:=hb.shape
 obtain⟨p2,c2,rfl⟩:=hm.shape
 obtain⟨p3,c3,rfl⟩:=hn.shape
 obtain⟨b1,b2⟩:=bP Pr
 obtain⟨b3,b4⟩:=bP hwm
 obtain⟨nb,RH⟩:=Mr b1
 obtain⟨nm,hnm⟩:=Mr b3
 have hU1:∀W,Calls Tryz.prog 102 #[.int .u32 c.nextBox] W fun e w'=>e=.returned (.string (bs (Nh nb 4)))/\aa [] W w':=fun W=>by rw[RH];exact eh nb W (by omega)
 have hU2:∀W,Calls Tryz.prog 102 #[.int .u32 c.nextMan] W fun e w'=>e=.returned (.string (bs (Nh nm 4)))/\aa [] W w':=fun W=>by rw[hnm];exact eh nm W (by omega)
 have HU1:=Mb hU1
 have HU2:=Mb hU2
 unfold iE at PT
 unfold lZ at Td
 unfold nF at Yw
 have oA:=ae.new w #[.int .u32 c.nextBox,.int .u32 c.nextMan,.slice p1 c.boxes.length c1,.slice p2 c.mans.length c2,.slice p3 c.names.length c3] 52
 have k0:aa [] w (w.alloc (.cells #[.int .u32 c.nextBox,.int .u32 c.nextMan,.slice p1 c.boxes.length c1,.slice p2 c.mans.length c2,.slice p3 c.names.length c3] 52)):=(aa.refl _ _).alloc _
 obtain⟨x0,x1,x2,x3,x4⟩:=oA.k5
 have OA:=Mb oA
 have K0:=Mb k0
 have Sc:=Mb hlen
 clear oA k0 hb hm hn Pr hwm hc hU1 hU2 b1 b2 b3 b4 hlen
 have acj:Nh nb 4=Nh c.nextBox.toNat 4/\Nh nm 4=Nh c.nextMan.toNat 4:=by rw[RH,hnm];exact⟨rfl,rfl⟩
 have HNU:=Mb acj
 clear RH hnm acj
 by_cases Pa:aM c
 .have Wu:lT c=0:=by unfold lT;rw[if_pos Pa]
  have Vl:aG c=(dz c,0):=by unfold aG;rw[if_pos Pa]
  obtain⟨Vt,hP⟩:∃P,P=kO c.nextBox.toNat c.nextMan.toNat:=⟨_,rfl⟩
  have Tr:jb c=Vt++(if N0 c=[]then[]else iL (N0 c)):=by unfold jb;rw[hP]
  have Rw:Hid (Vt.length=12):=Mb (by rw[hP];exact qx _ _)
  have HP:Hid (bs (67::65::84::76::Nh nb 4)++bs (Nh nm 4)=bs Vt):=Mb (by rw[hP,aT];unfold kO;rw[HNU.out.1,HNU.out.2];rfl)
  clear hP
  have Sv:N0 c≠[]->bQ (N0 c)=0/\NZ (N0 c)=iL (N0 c):=fun Ot=>by
   have OL:=jU Pa
   exact CU (l:=N0 c) (MH.2 Ot) (fun j hj=>OL _ (Mh hj))
  have Zi:(∀r∈N0 c,r.fits)->(iL (N0 c)).length<=700000:=fun hf=>by
   have h1:=sg (l:=N0 c) (fun r hr=>j7 (jU Pa r hr) (hf r hr))
   have h2:(N0 c).length<=3000:=by rw[il];exact Sc.out
   unfold iL bO
   simp only[Mc,aq]
   omega
  rw[Wu]at PT
  have SF:=Mb Vl
  have Zj:=Mb Tr
  have adO:=Mb Sv
  have HL2:=Mb Zi
  have Sn:Hid ((N0 c).length<=3000):=Mb (by rw[il];exact Sc.out)
  clear Wu Vl Pa Tr Sv Zi
  go_enter Tryz.func52,Tryz.ntmps52
  go_wp2_with fail
  refine(PT.out _ K0.out).mono ?_;rintro e w2 ⟨rfl,k2⟩
  have K2:=Mb (K0.out.trans k2)
  have UA:=Mb (k2.own OA.out (by simp))
  go_wp2_with fail
  refine Ml (S:=(fun W=>(W.cell? ⟨w.heap.size,0,none⟩=some (.int .u32 c.nextBox)/\W.cell? ⟨w.heap.size,1,none⟩=some (.int .u32 c.nextMan)))) (by kernel_rfl) (by exact⟨UA.out.drew.k5.1,UA.out.drew.k5.2.1⟩) (fun hHeld=>?_)
  refine tk 0 11 ?_
  refine tk 1 12 ?_
  refine tk 4 15 ?_
  refine tk 5 16 ?_
  refine rd 2 (fun K hK=>?_)
  go_simp
  ((with_reducible refine(HU1.out _).mono ?_));rintro e w3 ⟨rfl,k3⟩
  have OA3:=Mb (k3.own UA.out.drew (by simp))
  have K3:=Mb (K2.out.drew.trans k3)
  go_wp2_with fail
  refine hK.out _ _ ?_ (fun hHeld=>Go.Proofs.YtdkimcnlhmhpgaaGreat.nm ?_)
  .exact⟨OA3.out.k5.1,OA3.out.k5.2.1⟩
  clear hK K
  refine bD (i:=3) (d:=some 14) (v:=.string (bs ([67,65,84,76]++Nh nb 4))) rfl rfl (by kernel_rfl) (by kernel_rfl) (by kernel_rfl) (fun _ _ _ h=>h) (Or.inl ⟨by rfl,?_⟩) (by assumption) ?_
  ·(intro w PQ;go_simp;rw[if_neg (by rw[Nj,aq];omega)];exact congrArg (fun x=>Result.ok (Next.value (Value.string x)) w) (aT [67,65,84,76] (Nh nb 4)))
  try simp only[Act.put,List.setIfInBounds_toArray,List.set_cons_zero,List.set_cons_succ]
  refine rd 6 (fun K hK=>?_)
  go_simp
  ((with_reducible refine(HU2.out _).mono ?_));rintro e w4 ⟨rfl,k4⟩
  have Vp:=Mb (k4.own OA3.out (by simp))
  have K4:=Mb (K3.out.trans k4)
  go_wp2_with fail
  refine hK.out _ _ ?_ (fun hHeld=>Go.Proofs.YtdkimcnlhmhpgaaGreat.nm ?_)
  .exact⟨Vp.out.k5.1,Vp.out.k5.2.1⟩
  clear hK K
  refine bD (i:=7) (d:=some 18) (v:=.string (bs Vt)) rfl rfl (by kernel_rfl) (by kernel_rfl) (by kernel_rfl) (fun _ _ _ h=>h) (Or.inl ⟨by rfl,?_⟩) (by assumption) ?_
  ·(intro w PQ;go_simp;rw[if_neg (by rw[Nj,Nj,aq];simp only[Mz,aq];omega)];exact congrArg (fun x=>Result.ok (Next.value (Value.string x)) w) HP.out)
  try simp only[Act.put,List.setIfInBounds_toArray,List.set_cons_zero,List.set_cons_succ]
  refine tk 8 4 ?_
  refine MM (by kernel_rfl) ?_ _
  have hx:=Vp.out.k5
  obtain⟨x0,x1,x2,x3,x4⟩:=hx
  go_wp2_with fail
  refine(Td.out _ K4.out).mono ?_;rintro e w5 ⟨u,rfl,hu,k5⟩
  have K5:=Mb (K4.out.trans k5)
  obtain⟨pu,cu,rfl⟩:=aZ.shape hu
  have N4:∀r∈N0 c,r.fits:=fun r hr=>by
   obtain⟨i,hi,rfl⟩:=List.getElem_of_mem hr
   obtain⟨_,_,_,_,_,_,_,_,_,_,hf,_⟩:=cY.at_ hu i hi
   exact hf
  have HTL:=Mb (HL2.out N4)
  have HU:=Mb hu
  by_cases h0:N0 c=[]
  .have PI:(N0 c).length=0:=by rw[h0];rfl
   have hb:=Zj.out
   rw[if_pos h0,Nc]at hb
   have HB:=Mb hb
   have Tk:Hid (∀W,Calls Tryz.prog 111 #[.string (bs Vt)] W fun e w'=>e=.returned (.string (bs (eR Vt)))/\aa [] W w'):=Mb (fun W=>Ce Vt W (by have:=Rw.out;omega))
   clear hu N4 hb h0
   rw[PI]
   clear PI
   go_wp2_with fail
   refine(Tk.out _).mono ?_;rintro e w6 ⟨rfl,k6⟩
   go_wp2_with fail
   go_ret2
   exact mT (by rw[SF.out];unfold dz;rw[HB.out]) (K5.out.trans k6)
  .have hp:0<(N0 c).length:=MH.2 h0
   have hp1:(0:Int)<(N0 c).length:=by omega
   have hp2:((N0 c).length:Int)<=3000:=by have:=Sn.out;omega
   obtain⟨t1,t2⟩:=adO.out h0
   have hb:=Zj.out
   rw[if_neg h0]at hb
   have hT:=Yw.out w5 (.slice pu (N0 c).length cu) _ _ hu
   rw[t1,t2]at hT
   obtain⟨TX,hTX⟩:∃T,T=iL (N0 c):=⟨_,rfl⟩
   rw[<-hTX]at hT hb
   have Vm:=HTL.out
   rw[<-hTX]at Vm
   have HT:=Mb hT
   have HB:=Mb hb
   have PS:(bs Vt).size=12:=by rw[Nj];exact Rw.out
   have P8:(bs TX).size<=700000:=by rw[Nj];exact Vm
   have HBA:Hid (bs Vt++bs TX=bs (Vt++TX)):=Mb (aT _ _)
   have Tk:Hid (∀W,Calls Tryz.prog 111 #[.string (bs (Vt++TX))] W fun e w'=>e=.returned (.string (bs (eR (Vt++TX))))/\aa [] W w'):=Mb (fun W=>Ce (Vt++TX) W (by have:=Rw.out;rw[Mc];omega))
   clear hu N4 hb h0 hp hT hTX Vm t1 t2
   generalize (N0 c).length=n at*
   go_wp2_with fail
   refine(HT.out).mono ?_;rintro e w6 ⟨rfl,k6⟩
   go_wp2_with fail
   rw[HBA.out]
   refine(Tk.out _).mono ?_;rintro e w7 ⟨rfl,k7⟩
   go_wp2_with fail
   go_ret2
   exact mT (by rw[SF.out];unfold dz;rw[HB.out]) ((K5.out.trans k6).trans k7)
 .have Wu:lT c=110:=by unfold lT;rw[if_neg Pa]
  have Vl:aG c=([],110):=by unfold aG;rw[if_neg Pa]
  rw[Wu]at PT
  have SF:=Mb Vl
  clear Wu Vl Pa
  go_enter Tryz.func52,Tryz.ntmps52
  go_wp2_with fail
  refine(PT.out _ K0.out).mono ?_;rintro e w2 ⟨rfl,k2⟩
  go_wp2_with fail
  go_ret2
  exact mT SF.out (K0.out.trans k2)
theorem wR (v:Value) (c:aj) (w:World) (h:cC w v c) (hlen:c.boxes.length+c.mans.length+c.names.length<=5000) (Rl:(NN c).length<=1000000):
  Calls Tryz.prog 115 #[v] w (bG (NN c) w):=by
 have Td:Hid (∀W,aa [] w W->Calls Tryz.prog 110 #[v] W (lZ c W)):=Mb (fun W q=>wO v c W (h.kept0 q) (by omega))
 unfold lZ at Td
 obtain⟨vb,vm,vn,rfl,hb,hm,hn,_⟩:=h
 obtain⟨p1,c1,rfl⟩:=hb.shape
 obtain⟨p2,c2,rfl⟩:=hm.shape
 obtain⟨p3,c3,rfl⟩:=hn.shape
 have oA:=ae.new w #[.int .u32 c.nextBox,.int .u32 c.nextMan,.slice p1 c.boxes.length c1,.slice p2 c.mans.length c2,.slice p3 c.names.length c3] 52
 have k0:aa [] w (w.alloc (.cells #[.int .u32 c.nextBox,.int .u32 c.nextMan,.slice p1 c.boxes.length c1,.slice p2 c.mans.length c2,.slice p3 c.names.length c3] 52)):=(aa.refl _ _).alloc _
 obtain⟨x0,x1,x2,x3,x4⟩:=oA.k5
 have K0:=Mb k0
 have Sc:Hid ((N0 c).length<=5000):=Mb (by rw[il];exact hlen)
 have aar:Hid (∀k,(((N0 c).take k).map (·.runs)).flatten.length<=1000000):=Mb (fun k=>by
  refine MA ?_ Rl
  unfold NN
  conv=>rhs;rw[<-List.take_append_drop k (N0 c),Ms,MR,Mc]
  omega)
 have HEQ:Hid (NN c=((N0 c).map (·.runs)).flatten):=Mb rfl
 clear oA k0 hb hm hn hlen Rl
 generalize N0 c=L at*
 unfold bG
 generalize NN c=RC at*
 go_enter Tryz.func115,Tryz.ntmps115
 go_wp2_with fail
 refine(Td.out _ K0.out).mono ?_;rintro e w2 ⟨u,rfl,hu,k2⟩
 have K2:=Mb (K0.out.trans k2)
 obtain⟨pu,cu,rfl⟩:=aZ.shape hu
 have HU:=Mb hu
 have hL1:(L.length:Int)<=5000:=by have:=Sc.out;omega
 clear hu
 go_wp2_with fail
 go_loopw [3,9] (fun o i wr=>∃k:Nat,k<=L.length/\i=.int .i64 k/\wr.ownsRow w2.heap.size 128 2 o ((L.take k).map (·.runs)).flatten.length (No ((L.take k).map (·.runs)).flatten)/\aa [] w2 wr) (fun _ i _=>L.length-(intOf i).toNat)
 case atStart=>exact⟨0,Mu _,rfl,MG _ _ _ _,aa.refl _ _⟩
 case round=>
  obtain⟨k,hk,rfl,Nt,hK⟩:=hrel
  by_cases Ns:k<L.length
  .have i1:(k:Int)<L.length:=by omega
   obtain⟨b,off,kv,rfl,r0,r1,r2,r3,r4,NT,N4,WM,hbh,hih⟩:=cY.at_ (HU.out.kept0 hK) k Ns
   have Pc:((L.take (k+1)).map (·.runs)).flatten=((L.take k).map (·.runs)).flatten++(L[k]'Ns).runs:=by
    rw[Mf Ns,Ms,MR];simp
   have ht1:=aar.out (k+1)
   rw[Pc,Mc]at ht1
   obtain⟨pr,cr,rfl⟩:=NT.shape
   obtain⟨po,co,rfl⟩:=ai Nt
   have NU:=Mb Ns
   have Tc:=Mb Pc
   have HT1:=Mb ht1
   have Qn:=Mb (NT.kept0 ((aa.refl [] wr).alloc (.cells #[.int .i64 (L[k]'Ns).kind,.int .u32 (L[k]'Ns).id,.string (bs (L[k]'Ns).name),.int .i64 (L[k]'Ns).size,.slice pr (L[k]'Ns).runs.length cr] 102)))
   have OK:=Mb (Me Nt (.cells #[.int .i64 (L[k]'Ns).kind,.int .u32 (L[k]'Ns).id,.string (bs (L[k]'Ns).name),.int .i64 (L[k]'Ns).size,.slice pr (L[k]'Ns).runs.length cr] 102))
   have Vw:=Mb (hK.alloc (.cells #[.int .i64 (L[k]'Ns).kind,.int .u32 (L[k]'Ns).id,.string (bs (L[k]'Ns).name),.int .i64 (L[k]'Ns).size,.slice pr (L[k]'Ns).runs.length cr] 102))
   have oR:=ae.new wr #[.int .i64 (L[k]'Ns).kind,.int .u32 (L[k]'Ns).id,.string (bs (L[k]'Ns).name),.int .i64 (L[k]'Ns).size,.slice pr (L[k]'Ns).runs.length cr] 102
   obtain⟨y0,y1,y2,y3,y4⟩:=oR.k5
   clear NT N4 WM hbh hih Pc ht1 Nt oR
   generalize hLR:(L[k]'Ns)=R at*
   clear hLR Ns
   generalize ((L.take k).map (·.runs)).flatten=F at*
   go_wp2_with (at_builtin;go_must (refine j4 rfl (.tmp 13) (.tmp 15) rfl w2.heap.size _ _ _ rfl OK.out _ R.runs _ _ rfl Qn.out (by have:=HT1.out;unfold maxLen;omega) (by have:=HT1.out;omega) (by have:=Vw.out.size;omega) ?_))
   intro v' w5 N3 Om
   have HOW:=Mb N3
   have Sb:=Mb (Vw.out.grown Om (fun q hq=>Or.inr (Mn OK.out q hq).1))
   obtain⟨p5,c5,rfl⟩:=ai N3
   clear N3 Om
   go_wp2_with fail
   go_roundw
   case rel=>exact⟨k+1,NU.out,by go_num,by rw[Tc.out,Mc,show No (F++R.runs)=No F++No R.runs from by simp[No]];exact HOW.out,Sb.out⟩
   case measure=>(have h:=NU.out;simp[intOf];omega)
  .obtain rfl:k=L.length:=by omega
   rw[MC,<-HEQ.out]at Nt
   obtain⟨po,co,rfl⟩:=ai Nt
   have i1:¬(L.length:Int)<L.length:=by omega
   have N6:=aH Nt K2.out.size
   have HF:=Mb N6
   have HKF:=Mb (K2.out.trans hK)
   clear Nt N6 hK
   go_wp2_with fail
   go_ret
   exact⟨_,rfl,HF.out,HKF.out⟩
structure VC where
 kind:Int
 id:Int
 name:List UInt8
 bytes:List UInt8
def VC.told (x:VC):ag:=⟨x.kind,x.id,x.name,0,[]⟩
def Nk (v:VS):List (Int×Int):=Oz [(2+v.s.journal,v.s.sectors-(2+v.s.journal))] (NN v.c++v.s.runs)
noncomputable def Ol (c:aj) (l:List VC):Int:=if l.length<1\/8192<l.length then 3 else if l.all (fun x=>NH x.kind||x.bytes.isEmpty)then(Nn c (l.map VC.told)).2 else 1
def iY (s:List ag×List (Int×Int)) (x:VC):List ag×List (Int×Int):=
 if NH x.kind then(s.1++[⟨x.kind,x.id,x.name,x.bytes.length,Np s.2 (Nv x.bytes.length)⟩],Oz s.2 (Np s.2 (Nv x.bytes.length)))else(s.1++[x.told],s.2)
def Ng (left:List (Int×Int)) (l:List VC) (k:Nat):List ag×List (Int×Int):=(l.take k).foldl iY ([],left)
def dJ (left:List (Int×Int)) (l:List VC):Prop:=∀k (h:k<l.length),NH l[k].kind=true->NI (Ng left l k).2 (Nv l[k].bytes.length)=0
theorem eE (left:List (Int×Int)) (l:List VC) (k:Nat) (h:k<l.length):Ng left l (k+1)=iY (Ng left l k) l[k]:=by
 unfold Ng
 exact M83
theorem ff (left:List (Int×Int)) (l:List VC):∀k,k<=l.length->(Ng left l k).1.length=k
 |0,_=>rfl
 |k+1,h=>by
  rw[eE left l k (by omega)]
  have:=ff left l k (by omega)
  unfold iY
  split<;>simp[this]
def NK:List (VS->VS×Int)->VS->VS×Int
 |[],d=>(d,0)
 |f::fs,d=>if(f d).2=0 then NK fs (f d).1 else f d
def kr (fs:List (VS->VS×Int)) (d:VS) (k:Nat):VS:=(fs.take k).foldl (fun x f=>(f x).1) d
theorem r6 (fs:List (VS->VS×Int)) (d:VS) (k:Nat) (h:k<fs.length):kr fs d (k+1)=(fs[k] (kr fs d k)).1:=by
 unfold kr
 exact M83
theorem rU:∀(fs:List (VS->VS×Int)) (d:VS) (k:Nat) (h:k<fs.length),(∀i (hi:i<k),((fs[i]'(by omega)) (kr fs d i)).2=0)->(fs[k] (kr fs d k)).2≠0->NK fs d=fs[k] (kr fs d k)
 |[],d,k,h,_,_=>by simp at h
 |f::fs,d,0,h,_,h2=>by
  have h2':(f d).2≠0:=h2
  show(if(f d).2=0 then _ else f d)=f d
  rw[if_neg h2']
 |f::fs,d,k+1,h,h1,h2=>by
  have h3:(f d).2=0:=h1 0 (by omega)
  show(if(f d).2=0 then NK fs (f d).1 else f d)=_
  rw[if_pos h3]
  exact rU fs (f d).1 k (by simpa using h) (fun i hi=>h1 (i+1) (by omega)) h2
theorem uv:∀(fs:List (VS->VS×Int)) (d:VS),(∀i (hi:i<fs.length),(fs[i] (kr fs d i)).2=0)->NK fs d=(kr fs d fs.length,0)
 |[],d,_=>rfl
 |f::fs,d,h1=>by
  have h3:(f d).2=0:=h1 0 (by simp)
  show(if(f d).2=0 then NK fs (f d).1 else f d)=_
  rw[if_pos h3]
  exact uv fs (f d).1 (fun i hi=>h1 (i+1) (by simpa using hi))
def aK (f:DK->DK×Int) (v:VS):VS×Int:=(⟨(f v.d).1,v.s,v.c,v.dead⟩,(f v.d).2)
def bw (s:SB) (used:Int):SB:=⟨s.seq+1,s.sectors,s.journal,used,s.size,s.runs⟩
def bZ (s:SB) (size:Int) (runs:List (Int×Int)):SB:=⟨s.seq+1,s.sectors,s.journal,0,size,runs⟩
def Nz (c:aj) (tx:List UInt8) (v:VS):VS×Int:=
 if(Nm v.d v.s.journal v.s.used tx).2=0 then
  (if(ah [Ni,aE (bw v.s (v.s.used+tx.length))] (Nm v.d v.s.journal v.s.used tx).1).2=0
  then(⟨(ah [Ni,aE (bw v.s (v.s.used+tx.length))] (Nm v.d v.s.journal v.s.used tx).1).1,bw v.s (v.s.used+tx.length),c,v.dead⟩,0)
  else(⟨(ah [Ni,aE (bw v.s (v.s.used+tx.length))] (Nm v.d v.s.journal v.s.used tx).1).1,v.s,v.c,v.dead⟩,(ah [Ni,aE (bw v.s (v.s.used+tx.length))] (Nm v.d v.s.journal v.s.used tx).1).2))
 else(⟨(Nm v.d v.s.journal v.s.used tx).1,v.s,v.c,v.dead⟩,(Nm v.d v.s.journal v.s.used tx).2)
noncomputable def r7 (s:SB) (t:List UInt8) (runs:List (Int×Int)) (d:DK):DK×Int:=ah [fun d=>NF d runs t,Ni,aE (bZ s t.length runs)] d
noncomputable def NO (c:aj) (t:List UInt8) (runs:List (Int×Int)) (v:VS):VS×Int:=
 if(r7 v.s t runs v.d).2=0 then(⟨(r7 v.s t runs v.d).1,bZ v.s t.length runs,c,v.dead⟩,0)else(⟨(r7 v.s t runs v.d).1,v.s,v.c,v.dead⟩,(r7 v.s t runs v.d).2)
def Oy (p:VS×Int):VS×Int:=(⟨p.1.d,p.1.s,p.1.c,p.1.dead||p.2==90⟩,p.2)
noncomputable def ND:List VC->List ag->List (DK->DK×Int)
 |x::l,r::recs=>if NH x.kind then(fun d=>NF d r.runs x.bytes)::ND l recs else ND l recs
 |_,_=>[]
noncomputable def bX (l:List VC) (recs:List ag):List (VS->VS×Int):=(ND l recs).map aK
theorem eW:∀(fs gs:List (VS->VS×Int)) (v:VS),NK (fs++gs) v=if(NK fs v).2=0 then NK gs (NK fs v).1 else NK fs v
 |[],gs,v=>rfl
 |f::fs,gs,v=>by
  show(if(f v).2=0 then NK (fs++gs) (f v).1 else f v)=_
  have e:NK (f::fs) v=if(f v).2=0 then NK fs (f v).1 else f v:=rfl
  rw[e]
  by_cases h:(f v).2=0
  .rw[if_pos h,if_pos h,eW fs gs]
  .rw[if_neg h,if_neg h,if_neg h]
theorem gH:∀(fs:List (DK->DK×Int)) (v:VS),NK (fs.map aK) v=aK (ah fs) v
 |[],v=>rfl
 |f::fs,v=>by
  show(if(aK f v).2=0 then NK (fs.map aK) (aK f v).1 else aK f v)=_
  rw[gH fs]
  have e:ah (f::fs) v.d=if(f v.d).2=0 then ah fs (f v.d).1 else f v.d:=rfl
  show _=((⟨(ah (f::fs) v.d).1,v.s,v.c,v.dead⟩:VS),(ah (f::fs) v.d).2)
  rw[e]
  by_cases h:(f v.d).2=0
  .rw[if_pos h,if_pos (show(aK f v).2=0 from h)];rfl
  .rw[if_neg h,if_neg (show ¬(aK f v).2=0 from h)];rfl
open Classical in
noncomputable def NJ (v:VS) (l:List VC):VS×Int:=
 if v.dead=true then(v,90)
 else if Ol v.c l≠0 then(v,Ol v.c l)
 else if ¬dJ (Nk v) l then(v,100)
 else if(Nn v.c (Ng (Nk v) l l.length).1).2≠0 then(v,(Nn v.c (Ng (Nk v) l l.length).1).2)
 else if bQ (Ng (Nk v) l l.length).1≠0 then(v,bQ (Ng (Nk v) l l.length).1)
 else if((NZ (Ng (Nk v) l l.length).1).length:Int)<=v.s.journal*128-v.s.used then
  Oy (NK (bX l (Ng (Nk v) l l.length).1++[aK Ni,Nz (Nn v.c (Ng (Nk v) l l.length).1).1 (NZ (Ng (Nk v) l l.length).1)]) v)
 else if(aG (Nn v.c (Ng (Nk v) l l.length).1).1).2≠0 then(v,(aG (Nn v.c (Ng (Nk v) l l.length).1).1).2)
 else if NI (Ng (Nk v) l l.length).2 (Nv (aG (Nn v.c (Ng (Nk v) l l.length).1).1).1.length)≠0 then(v,100)
 else Oy (NK (bX l (Ng (Nk v) l l.length).1++[NO (Nn v.c (Ng (Nk v) l l.length).1).1 (aG (Nn v.c (Ng (Nk v) l l.length).1).1).1 (Np (Ng (Nk v) l l.length).2 (Nv (aG (Nn v.c (Ng (Nk v) l l.length).1).1).1.length))]) v)
noncomputable def cP (v:VS):VS×Int:=
 if v.dead=true then(v,90)
 else if(aG v.c).2≠0 then(v,(aG v.c).2)
 else if NI (Nk v) (Nv (aG v.c).1.length)≠0 then(v,100)
 else Oy (NO v.c (aG v.c).1 (Np (Nk v) (Nv (aG v.c).1.length)) v)
def fi (c:aj) (k id:Int) (nm:List UInt8):Nf×Bool:=if k=1 then NM (fun x=>x.id==id) c.boxes else if k=2 then NM (fun x=>x.id==id) c.mans else NM (fun x=>x.name==nm) c.names
noncomputable def cH (v:VS) (k id:Int) (nm:List UInt8):List UInt8×Int×VS:=
 if v.dead=true then([],90,v)
 else if ¬(k=1\/k=2\/k=3)then([],1,v)
 else if(fi v.c k id nm).2=false then([],6,v)
 else(Ov v.d (fi v.c k id nm).1.runs (fi v.c k id nm).1.size,Nr v.d (fi v.c k id nm).1.runs (fi v.c k id nm).1.size,⟨v.d,v.s,v.c,Nr v.d (fi v.c k id nm).1.runs (fi v.c k id nm).1.size==90⟩)
structure yx (m:Nat) (v:VS):Prop where
 may:v.s.may
 cat:aM v.c
 few:v.c.boxes.length+v.c.mans.length+v.c.names.length<=m
 seq:v.s.seq<=m
 jr:v.s.journal<=30
theorem vy (h:aM c):(NN c).length<=16*(c.boxes.length+c.mans.length+c.names.length):=by
 have h1:=jU h
 have h2:=il c
 unfold NN
 generalize N0 c=l at*
 rw[<-h2]
 clear h2
 induction l with
 |nil=>simp
 |cons r t ih=>
  have h3:=eV (h1 r (by simp))
  have h4:=ih (fun q hq=>h1 q (by simp[hq]))
  simp only[List.map_cons,List.flatten_cons,Mc,Mz]
  omega
theorem Dm (al:List Nat):∀(d:DK) (s:List UInt8),bg d->d.down=false->d.fuse<0->(∀a∈al,a<d.stand.length)->al.Nodup->
  ∃d',eJ al d s=(d',0)/\d'.stand=d.stand/\d'.down=false/\d'.fuse=d.fuse/\bg d'/\d'.ops=d.ops+al.length/\d'.waits.length=d.waits.length+al.length/\(∀i,i∉al->seen d' i=seen d i)/\∀i (h:i<al.length),seen d' al[i]=av (s.drop (128*i)):=by
 induction al with
 |nil=>
  intro d s hf hd Um _ _
  exact⟨d,rfl,rfl,hd,rfl,hf,rfl,rfl,fun _ _=>rfl,fun i h=>absurd h (Nat.not_lt_zero _)⟩
 |cons a t ih=>
  intro d s hf hd Um Ns hnd
  have ha:=Ns a Mg
  obtain⟨Q2,hnt⟩:=List.nodup_cons.1 hnd
  obtain⟨hc,hn⟩:=wS (s:=s) hd Um ha
  have RS:(aL d a (av s)).down=false:=by
   show(if d.fuse=0 then true else d.down)=false
   rw[if_neg (by omega),hd]
  have YQ:(aL d a (av s)).fuse=d.fuse:=by
   show(if 0<d.fuse then d.fuse-1 else d.fuse)=d.fuse
   rw[if_neg (by omega)]
  have N4:bg (aL d a (av s)):=by rw[<-hn];exact hf.write _ _
  have U6:(aL d a (av s)).ops=d.ops+1:=rfl
  have VF:(aL d a (av s)).waits.length=d.waits.length+1:=by show(d.waits++[_]).length=_;rw[Mc];rfl
  obtain⟨d',e1,e2,e3,e4,e5,eo,ew,e6,e7⟩:=ih (aL d a (av s)) (s.drop 128) N4 RS (by rw[YQ];exact Um) (fun x hx=>Ns x (MP _ hx)) hnt
  refine⟨d',?_,e2,e3,e4.trans YQ,e5,by rw[eo,U6,Mz];omega,by rw[ew,VF,Mz];omega,fun i hi=>?_,fun i h=>?_⟩
  .rw[eJ,if_pos hc,hn,e1]
  .rw[e6 i (fun h=>hi (MP _ h)),gE,if_neg (fun h=>hi (by subst h;exact Mg))]
  .cases i with
   |zero=>
    show seen d' a=_
    rw[e6 a Q2,gE,if_pos rfl];rfl
   |succ i=>
    have:=e7 i (by simpa using h)
    rw[List.drop_drop,show 128+128*i=128*(i+1)from by omega]at this
    exact this
theorem zO (al:List Nat):∀(d:DK) (s:List UInt8),(∀i (h:i<al.length),seen d al[i]=av (s.drop (128*i)))->fH d al=jT al.length s:=by
 induction al with
 |nil=>intro d s _;rfl
 |cons a t ih=>
  intro d s h
  have e:fH d (a::t)=seen d a++fH d t:=rfl
  have h0:=h 0 (by simp)
  simp only[Nat.mul_zero,List.drop_zero,List.getElem_cons_zero]at h0
  rw[e,Mz,jT,h0,ih d (s.drop 128) (fun i hi=>by
   have:=h (i+1) (by simpa using hi)
   rw[List.drop_drop,show 128+128*i=128*(i+1)from by omega]
   simpa using this)]
theorem qz {d':DK} (al:List Nat) (h:∀a∈al,seen d' a=seen d a):fH d' al=fH d al:=by
 unfold fH
 congr 1
 exact List.map_congr_left h
structure aF (d:DK):Prop where
 down:d.down=false
 fuse:d.fuse<0
 fit:bg d
structure QS (P:Nat->Prop) (d d':DK):Prop where
 quiet:aF d'
 len:d'.stand.length=d.stand.length
 seen:∀k,k<d.stand.length->P k->seen d' k=seen d k
theorem QS.refl (h:aF d):QS P d d:=⟨h,rfl,fun _ _ _=>rfl⟩
theorem QS.trans {a b c:DK} (h:QS P a b) (k:QS P b c):QS P a c:=⟨k.quiet,k.len.trans h.len,fun i hi hp=>(k.seen i (by rw[h.len];exact hi) hp).trans (h.seen i hi hp)⟩
theorem aF.write (h:aF d) (i:Int) (s:List UInt8) (hP:∀k:Nat,P k->(k:Int)≠i):QS P d (NG d i s):=by
 have hf:=h.fit.write i s
 have hl:=(fk d i s).2.2
 unfold NG at hf hl ⊢
 split at hf
 .rename_i hc
  rw[if_pos hc]at hl ⊢
  obtain⟨h1,h2,h3⟩:=fW hc.1
  refine⟨⟨?_,?_,hf⟩,hl,fun k hk hp=>?_⟩
  .show(if d.fuse=0 then true else d.down)=false
   rw[if_neg (by have:=h.fuse;omega),h.down]
  .show(if 0<d.fuse then d.fuse-1 else d.fuse)<0
   rw[if_neg (by have:=h.fuse;omega)];exact h.fuse
  .rw[gE,if_neg]
   intro e
   have:=hP k hp
   omega
 .rename_i hc
  rw[if_neg hc]
  exact QS.refl h
theorem aF.flush (h:aF d):QS P d (bL d):=by
 have hf:=h.fit.flush
 unfold bL at hf ⊢
 rw[if_neg (by rw[h.down];simp),if_neg (by have:=h.fuse;omega)]at hf ⊢
 refine⟨⟨?_,?_,hf⟩,nQ _ _,fun k hk _=>?_⟩
 .show(if d.fuse=0 then true else d.down)=false
  rw[if_neg (by have:=h.fuse;omega),h.down]
 .show(if 0<d.fuse then d.fuse-1 else d.fuse)<0
  rw[if_neg (by have:=h.fuse;omega)];exact h.fuse
 .exact rJ (dK d) k hk
def QR (P:Nat->Prop) (d:DK) (r:DK×Int):Prop:=QS P d r.1/\r.2≠90
theorem aF.AZ (h:aF d) (i:Int) (s:List UInt8):NV d i s≠90:=by
 have h1:=h.down
 have h2:=h.fuse
 unfold NV
 by_cases hr:i<0\/(d.stand.length:Int)<=i
 .have e:N7 d i=5:=by unfold N7;rw[h1,if_neg (by simp),if_pos hr]
  rw[e,if_pos (by decide)];decide
 .have e:N7 d i=0:=by unfold N7;rw[h1,if_neg (by simp),if_neg hr]
  rw[e,if_neg (by decide)]
  by_cases hs:s.length≠128
  .rw[if_pos hs];decide
  .rw[if_neg hs,if_neg (by omega)];decide
theorem aF.ja (h:aF d):gn d=0:=by
 unfold gn
 rw[if_neg (by rw[h.down];simp),if_neg (by have:=h.fuse;omega)]
theorem eD (h:aF d) (i:Int) (s:List UInt8) (hP:∀k:Nat,P k->(k:Int)≠i):QR P d (Nq i s d):=⟨h.write i s hP,h.AZ i s⟩
theorem dE (h:aF d):QR P d (Ni d):=⟨h.flush,by show gn d≠90;rw[h.ja];decide⟩
theorem Bq (al:List Nat):∀{P:Nat->Prop} {d:DK} (h:aF d) (s:List UInt8),(∀k,P k->k∉al)->QR P d (eJ al d s):=by
 induction al with
 |nil=>intro P d h s _;exact⟨QS.refl h,by show(0:Int)≠90;decide⟩
 |cons a t ih=>
  intro P d h s hP
  have h1:=h.write (P:=P) (a:Int) (av s) (fun k hk e=>hP k hk (by have:k=a:=(by omega);subst this;exact Mg))
  unfold eJ
  split
  .have h2:=ih h1.quiet (s.drop 128) (P:=P) (fun k hk hm=>hP k hk (MP _ hm))
   exact⟨h1.trans h2.1,h2.2⟩
  .exact⟨h1,h.AZ _ _⟩
theorem jt (h:aF d) (l:List (Int×Int)) (s:List UInt8) (hP:∀k,P k->k∉Nu l):QR P d (NF d l s):=by
 unfold NF
 split
 .rw[if_neg (by rw[h.down];simp)]
  exact Bq _ h s hP
 .exact⟨QS.refl h,by show(1:Int)≠90;decide⟩
theorem xA (n:Nat):∀{P:Nat->Prop} {d:DK} (h:aF d) (a:Nat) (s:List UInt8),s.length<=n->(∀k,P k->k<a\/a+(s.length+127)/128<=k)->QR P d (dL d a s):=by
 induction n with
 |zero=>
  intro P d h a s hs _
  have:s=[]:=Mt (by omega)
  subst this
  exact⟨QS.refl h,by show(0:Int)≠90;decide⟩
 |succ n ih=>
  intro P d h a s hs hP
  by_cases h0:s=[]
  .subst h0;exact⟨QS.refl h,by show(0:Int)≠90;decide⟩
  .have hl:0<s.length:=MH.2 h0
   have h1:=h.write (P:=P) (a:Int) (av s) (fun k hk e=>by
    have:=hP k hk
    omega)
   rw[dq h0]
   split
   .have h2:=ih h1.quiet (P:=P) (a+1) (s.drop 128) (by rw[Mq];omega) (fun k hk=>by
     have:=hP k hk
     rw[Mq]
     omega)
    exact⟨h1.trans h2.1,h2.2⟩
   .exact⟨h1,h.AZ _ _⟩
theorem lG (h:aF d) (j u:Int) (s:List UInt8) (hP:∀k:Nat,P k->2+j<=(k:Int)):QR P d (Nm d j u s):=by
 unfold Nm
 split
 .exact⟨QS.refl h,by show(1:Int)≠90;decide⟩
 .rename_i hf
  have hf:aN d.stand.length j u=0:=by simpa using hf
  obtain⟨f1,f2,f3,f4⟩:=gN hf
  split
  .exact⟨QS.refl h,by show(100:Int)≠90;decide⟩
  .rename_i hl
   rw[if_neg (by rw[h.down];simp)]
   split
   .exact⟨QS.refl h,by show(0:Int)≠90;decide⟩
   .refine xA _ h _ _ (Md _) (fun k hk=>Or.inr ?_)
    have h1:=hP k hk
    have h2:((seen d (2+u.toNat/128)).take (u.toNat%128)).length<=u.toNat%128:=by rw[Mp];omega
    rw[Mc]
    omega
theorem iP {P:Nat->Prop}:∀(fs:List (DK->DK×Int)),(∀f∈fs,∀d,aF d->QR P d (f d))->∀{d},aF d->QR P d (ah fs d)
 |[],_,d,h=>⟨QS.refl h,by show(0:Int)≠90;decide⟩
 |f::fs,hf,d,h=>by
  have h1:=hf f (by simp) d h
  unfold ah
  split
  .have h2:=iP fs (fun g hg=>hf g (by simp[hg])) h1.1.quiet
   exact⟨h1.1.trans h2.1,h2.2⟩
  .exact h1
theorem j8 (s:SB) (hP:∀k,P k->2<=k) (h:aF d):QR P d (aE s d):=by
 refine iP [Nq ((s.seq%2:Nat):Int) s.sector,Ni] (fun f hf d h=>?_) h
 simp only[List.mem_cons,List.not_mem_nil,or_false]at hf
 rcases hf with rfl|rfl
 .exact eD h _ _ (fun k hk e=>by have:=hP k hk;omega)
 .exact dE h
theorem Bp (s:SB) (t:List UInt8) (runs:List (Int×Int)) (hP:∀k,P k->2<=k/\k∉Nu runs) (h:aF d):QR P d (r7 s t runs d):=by
 refine iP [fun d=>NF d runs t,Ni,aE (bZ s t.length runs)] (fun f hf d h=>?_) h
 simp only[List.mem_cons,List.not_mem_nil,or_false]at hf
 rcases hf with rfl|rfl|rfl
 .exact jt h runs t (fun k hk=>(hP k hk).2)
 .exact dE h
 .exact j8 _ (fun k hk=>(hP k hk).1) h
def QV (P:Nat->Prop) (v:VS) (r:VS×Int):Prop:=QS P v.d r.1.d/\r.2≠90/\r.1.dead=v.dead/\(r.2≠0->r.1.c=v.c/\r.1.s=v.s)
theorem pw (c:aj) (tx:List UInt8) (v:VS) (hP:∀k:Nat,P k->2<=k/\2+v.s.journal<=(k:Int)) (h:aF v.d):QV P v (Nz c tx v):=by
 have h1:=lG h v.s.journal v.s.used tx (fun k hk=>(hP k hk).2)
 have h2:QR P (Nm v.d v.s.journal v.s.used tx).1 (ah [Ni,aE (bw v.s (v.s.used+tx.length))] (Nm v.d v.s.journal v.s.used tx).1):=by
  refine iP _ (fun f hf d h=>?_) h1.1.quiet
  simp only[List.mem_cons,List.not_mem_nil,or_false]at hf
  rcases hf with rfl|rfl
  .exact dE h
  .exact j8 _ (fun k hk=>(hP k hk).1) h
 unfold Nz
 split
 .split
  .exact⟨h1.1.trans h2.1,by show(0:Int)≠90;decide,rfl,fun hh=>absurd rfl hh⟩
  .exact⟨h1.1.trans h2.1,h2.2,rfl,fun _=>⟨rfl,rfl⟩⟩
 .exact⟨h1.1,h1.2,rfl,fun _=>⟨rfl,rfl⟩⟩
theorem pt (c:aj) (t:List UInt8) (runs:List (Int×Int)) (v:VS) (hP:∀k,P k->2<=k/\k∉Nu runs) (h:aF v.d):QV P v (NO c t runs v):=by
 have h1:=Bp (P:=P) v.s t runs hP h
 unfold NO
 split
 .exact⟨h1.1,by show(0:Int)≠90;decide,rfl,fun hh=>absurd rfl hh⟩
 .exact⟨h1.1,h1.2,rfl,fun _=>⟨rfl,rfl⟩⟩
theorem Dk (fs:List (DK->DK×Int)) (g:VS->VS×Int) (v:VS) (hf:∀f∈fs,∀d,aF d->QR P d (f d)) (hg:∀u:VS,u.s=v.s->u.c=v.c->u.dead=v.dead->aF u.d->QV P u (g u)) (h:aF v.d):QV P v (NK (fs.map aK++[g]) v):=by
 have h1:=iP fs hf h
 rw[eW,gH]
 have e2:(aK (ah fs) v).2=(ah fs v.d).2:=rfl
 by_cases h0:(aK (ah fs) v).2=0
 .rw[if_pos h0]
  have h2:=hg (aK (ah fs) v).1 rfl rfl rfl h1.1.quiet
  show QV P v (if(g (aK (ah fs) v).1).2=0 then((g (aK (ah fs) v).1).1,0)else g (aK (ah fs) v).1)
  obtain⟨a,b,c,d⟩:=h2
  split
  .exact⟨h1.1.trans a,by show(0:Int)≠90;decide,c,fun hh=>absurd rfl hh⟩
  .exact⟨h1.1.trans a,b,c,d⟩
 .rw[if_neg h0]
  exact⟨h1.1,h1.2,rfl,fun _=>⟨rfl,rfl⟩⟩
theorem dQ (h:∀a∈l,0<=a.1) (hk:k∈Nu l):aC l k=true:=by
 obtain⟨r,hr,h1,h2⟩:=pT hk
 have:=h r hr
 exact bF.2 ⟨r,hr,by omega,by omega⟩
theorem jv (h:Pl 0 l):∀a∈l,0<=a.1:=fun a ha=>(h.mem ha).1
theorem sX {f:Nat->Bool} (h:aC (eU f) k=true):k<8192/\f k=true:=by
 obtain⟨m,h1,h2,h3⟩:=(sY f k).1 (bF.1 h)
 have:m=k:=by omega
 subst this
 exact⟨h2,h3⟩
theorem kc {a b:List (Int×Int)} (h:aC (Oz a b) k=true):aC a k=true/\aC b k=false/\k<8192:=by
 obtain⟨h1,h2⟩:=sX h
 simp only[MJ,Bool.not_eq_true']at h2
 exact⟨h2.1,h2.2,h1⟩
theorem ix {n:Int} (h:aC (Np l n) k=true):aC l k=true:=by
 obtain⟨_,h2⟩:=sX h
 unfold qn at h2
 simp only[MJ]at h2
 exact h2.1
theorem fR (l:List (Int×Int)) (n:Int):Pl 0 (Np l n):=et _
theorem lK (a b:List (Int×Int)):Pl 0 (Oz a b):=et _
theorem dI {v:VS} (h:aC (Nk v) k=true):2+v.s.journal<=(k:Int)/\(k:Int)<v.s.sectors/\aC (NN v.c) k=false/\aC v.s.runs k=false:=by
 obtain⟨h1,h2,h3⟩:=kc h
 rw[fp,Bool.or_eq_false_iff]at h2
 obtain⟨r,hr,h4,h5⟩:=bF.1 h1
 obtain rfl:r=(2+v.s.journal,v.s.sectors-(2+v.s.journal)):=by simpa using hr
 simp only at h4 h5
 exact⟨by omega,by omega,h2.1,h2.2⟩
theorem eK (left:List (Int×Int)) (l:List VC):∀j,j<=l.length->∀k,aC (Ng left l j).2 k=true->aC left k=true
 |0,_,k,h=>h
 |j+1,hj,k,h=>by
  rw[eE left l j (by omega)]at h
  unfold iY at h
  split at h
  .exact eK left l j (by omega) k (kc h).1
  .exact eK left l j (by omega) k h
theorem mi (left:List (Int×Int)) (l:List VC):∀j,j<=l.length->∀r∈(Ng left l j).1,Pl 0 r.runs/\∀k,aC r.runs k=true->aC left k=true
 |0,_,r,hr=>by simp[Ng]at hr
 |j+1,hj,r,hr=>by
  rw[eE left l j (by omega)]at hr
  unfold iY at hr
  split at hr
  .rcases Mj.1 hr with hr|hr
   .exact mi left l j (by omega) r hr
   .obtain rfl:=MB.1 hr
    exact⟨fR _ _,fun k hk=>eK left l j (by omega) k (ix hk)⟩
  .rcases Mj.1 hr with hr|hr
   .exact mi left l j (by omega) r hr
   .obtain rfl:=MB.1 hr
    exact⟨trivial,fun k hk=>by simp[VC.told,aC]at hk⟩
theorem fY (h:Pl 0 l):∀a∈l,aU a:=fun a ha=>by
 have:=h.mem ha
 unfold aU
 omega
theorem zb (left:List (Int×Int)) (l:List VC) (j k:Nat) (h:k<=j) (hj:j<=l.length):(Ng left l j).1.take k=(Ng left l k).1:=by
 induction j with
 |zero=>
   obtain rfl:k=0:=by omega
   rfl
 |succ j ih=>
  by_cases e:k=j+1
  .subst e
   rw[Mk (by rw[ff left l _ hj];omega)]
  .rw[eE left l j (by omega)]
   have h1:=ih (by omega) (by omega)
   have hl:=ff left l j (by omega)
   unfold iY
   split
   .rw[MS (by omega)];exact h1
   .rw[MS (by omega)];exact h1
theorem qh (left:List (Int×Int)) (l:List VC) (k:Nat) (h:k<l.length) (h':k<(Ng left l l.length).1.length):(Ng left l l.length).1[k]=if NH l[k].kind then⟨l[k].kind,l[k].id,l[k].name,l[k].bytes.length,Np (Ng left l k).2 (Nv l[k].bytes.length)⟩else l[k].told:=by
 have h1:=zb left l l.length (k+1) (by omega) (Md _)
 have h2:=ff left l k (by omega)
 rw[eE left l k h]at h1
 have h3:((Ng left l l.length).1.take (k+1))[k]? =some (Ng left l l.length).1[k]:=by
  rw[List.getElem?_take,if_pos (by omega),Mw h']
 rw[h1]at h3
 unfold iY at h3
 split at h3<;>rename_i hb
 .rw[List.getElem?_append_right (by omega),h2,Nat.sub_self]at h3
  rw[if_pos hb]
  exact(Option.some.inj h3).symm
 .rw[List.getElem?_append_right (by omega),h2,Nat.sub_self]at h3
  rw[if_neg hb]
  exact(Option.some.inj h3).symm
end Go.Proofs.YtdkimcnlhmhpgaaGreat

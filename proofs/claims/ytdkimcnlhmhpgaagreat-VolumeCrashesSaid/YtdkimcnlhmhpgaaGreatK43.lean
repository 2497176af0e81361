/- -/
import Derived.Test.YtdkimcnlhmhpgaaGreatK40
import Derived.Test.YtdkimcnlhmhpgaaGreatK42
set_option maxHeartbeats 16000000
set_option maxRecDepth 100000
set_option linter.unusedSimpArgs false
namespace Go.Proofs.YtdkimcnlhmhpgaaGreat
open Go.RowKit
variable {d:DK} {s:SB} {c0 c:aj} {ls:List (List ag)} {k:Nat} {w:World}
def fX (SX:Option aj) (w:World) (e:Ending) (w':World):Prop:=
 ((∃c v,SX=some c/\aw (fun x=>x<w.heap.size) w' v c/\e=.returned (.tuple #[v,.int .i64 0]))\/(SX=none/\∃C:Int,(C==0)=false/\∃x0 x1 p2 n2 c2 p3 n3 c3 p4 n4 c4,e=.returned (.tuple #[.agg #[.int .u32 x0,.int .u32 x1,.slice p2 n2 c2,.slice p3 n3 c3,.slice p4 n4 c4],.int .i64 C])))/\aa [] w w'
theorem yP (h:OV d s=none):Oq d s=none:=by unfold Oq;rw[h];rfl
theorem yO (h:NC d s.journal s.used≠0):Oq d s=none:=by
 unfold Oq
 cases OV d s with
 |none=>rfl
 |some c=>
  show(if NC d s.journal s.used=0 then _ else none)=none
  rw[if_neg h]
theorem yN (h:N9 (Oh d s.journal s.used)=none):Oq d s=none:=by
 unfold Oq
 cases OV d s with
 |none=>rfl
 |some c=>
  show(if NC d s.journal s.used=0 then _ else none)=none
  rw[h]
  split<;>rfl
open Classical in
theorem CZ (h1:OV d s=some c0) (h2:NC d s.journal s.used=0) (h3:N9 (Oh d s.journal s.used)=some ls):
  (cp c0 ls=none->Oq d s=none)/\∀c,cp c0 ls=some c->(Oi s.sectors s.journal (NN c++s.runs)->Oq d s=some c)/\(¬Oi s.sectors s.journal (NN c++s.runs)->Oq d s=none):=by
 have e:∀o,cp c0 ls=o->Oq d s=o.bind fun c'=>if Oi s.sectors s.journal (NN c'++s.runs)then some c' else none:=fun o ho=>by
  unfold Oq
  rw[h1]
  show(if NC d s.journal s.used=0 then _ else none)=_
  rw[if_pos h2,h3]
  show(cp c0 ls).bind _=_
  rw[ho]
 refine⟨fun h=>by rw[e _ h];rfl,fun c h=>⟨fun hl=>?_,fun hl=>?_⟩⟩
 .rw[e _ h]
  show(if Oi s.sectors s.journal (NN c++s.runs)then some c else none)=_
  rw[if_pos hl]
 .rw[e _ h]
  show(if Oi s.sectors s.journal (NN c++s.runs)then some c else none)=_
  rw[if_neg hl]
theorem xQ (d:DK) (j u:Int):NC d j u=0\/NC d j u=1\/NC d j u=90:=by
 unfold NC
 split
 .exact Or.inr (Or.inl rfl)
 .split
  .exact Or.inr (Or.inr rfl)
  .exact Or.inl rfl
structure GF (S:Nat->Prop) (w:World) (n4 n6:Nat) (c0:aj) (ls:List (List ag)) (k:Nat) (C:Int) (c:aj) (wr:World) (vb vm vn:Value):Prop where
 own:ae wr n6 #[.int .u32 c.nextBox,.int .u32 c.nextMan,vb,vm,vn] 52
 res:ae wr n4 #[.int .u32 0,.int .u32 0,.slice none 0 0,.slice none 0 0,.slice none 0 0] 52
 cat:aw S wr (.agg #[.int .u32 c.nextBox,.int .u32 c.nextMan,vb,vm,vn]) c
 code:(C=0/\cp c0 (ls.take k)=some c/\aM c/\iJ c/\dj c<=dj c0+(ls.take k).flatten.length)\/(C≠0/\cp c0 (ls.take k)=none)
 kept:aa [] w wr
theorem yX (hk:k<ls.length) (h:cp c0 (ls.take k)=some c):cp c0 (ls.take (k+1))=if(Nn c ls[k]).2=0 then some (Nn c ls[k]).1 else none:=by
 rw[Mf hk,iX,h]
 show(if(Nn c ls[k]).2=0 then cp (Nn c ls[k]).1 []else none)=_
 rfl
theorem Jc (h:aM c) (hf:jf c):∀a∈NN c,0<=a.1/\a.1<=65536/\0<=a.2/\a.2<=65536:=by
 intro a ha
 unfold NN at ha
 obtain⟨l,hl,hal⟩:=List.mem_flatten.1 ha
 obtain⟨r,hr,rfl⟩:=MV.1 hl
 obtain⟨k,hk,rfl⟩:=MO.1 hal
 have:=(j7 (jU h r hr) (hf.2.2 r hr)).rf.2 k hk
 omega
theorem JS (h:s.may):∀a∈s.runs,0<=a.1/\a.1<=65536/\0<=a.2/\a.2<=65536:=by
 intro a ha
 obtain⟨k,hk,rfl⟩:=MO.1 ha
 have h1:=ie (Md _) h.2.1 k hk
 have h2:=eM.1 h1
 have h3:=h.1
 unfold SB.eF at h3
 omega
theorem sf (h:cp c0 (ls.take k)=none):cp c0 (ls.take (k+1))=none:=by
 by_cases hk:k<ls.length
 .rw[Mf hk,iX,h];rfl
 .rw[Mk (by omega)]at h ⊢
  exact h
theorem wE (w:World) (B:Nat) (a1 a2 a3 a4 a5:Value):w.setCells B 0 (#[a1,a2,a3,a4,a5]:Array Value).toList=(((((w.setCell ⟨B,0,none⟩ a1).setCell ⟨B,1,none⟩ a2).setCell ⟨B,2,none⟩ a3).setCell ⟨B,3,none⟩ a4).setCell ⟨B,4,none⟩ a5):=rfl
theorem aw.JN {S:Nat->Prop} {x y vb vm vn:Value} (h:aw S w (.agg #[x,y,vb,vm,vn]) c):(∃p n d,vb=.slice p n d)/\(∃p n d,vm=.slice p n d)/\∃p n d,vn=.slice p n d:=by
 obtain⟨a,b,d,e,h1,h2,h3,_⟩:=h
 injection e with e
 simp only[Array.mk.injEq,List.cons.injEq,and_true]at e
 obtain⟨_,_,rfl,rfl,rfl⟩:=e
 obtain⟨p1,c1,rfl⟩:=h1.plain.shape
 obtain⟨p2,c2,rfl⟩:=h2.plain.shape
 obtain⟨p3,c3,rfl⟩:=h3.plain.shape
 exact⟨⟨_,_,_,rfl⟩,⟨_,_,_,rfl⟩,⟨_,_,_,rfl⟩⟩
theorem dZ.len {w0:World} {v:Value} {l:List (List ag)} (h:dZ w0 w v l):l.length<=maxLen:=by
 obtain⟨vs,h1,h2,h3⟩:=h
 rcases h2.2 with⟨_,h4⟩|⟨g,cap,cur,_,_,_,h5,h6,_⟩
 .have:l.length=0:=by first|exact h4|omega
  omega
 .first|omega|(unfold maxLen at*;omega)
theorem JB {b sb mb lo:Nat} (hD:DA w b sb mb lo d) (hn:d.stand.length<=96) (s:SB) (v:Value) (OD On:Nat) (hr:af w v s.runs OD On) (hm:s.may):
  Calls Tryz.prog 64 #[.pointer (some ⟨b,0,none⟩),.agg (s.cells v)] w (fX (Oq d s) w):=by
 have Xe:=Bg hm
 have Xh:=hm.1
 unfold SB.eF at Xh
 have Uc:Hid (∀W,aa [] w W->Calls Tryz.prog 122 #[.pointer (some ⟨b,0,none⟩),.agg (s.cells v)] W (mG d s W)):=Mb (fun W k=>JG (hD.aJ k) (by omega) s v OD On (hr.kept0 k) hm)
 unfold mG at Uc
 have acI:Hid (∀W,aa [] w W->Calls Tryz.prog 123 #[.pointer (some ⟨b,0,none⟩),.int .i64 s.journal,.int .i64 s.used] W fun e w'=>e=.returned (.tuple #[.string (bs (Oh d s.journal s.used)),.int .i64 (NC d s.journal s.used)])/\W=w'):=Mb (fun W k=>Kb s.journal s.used (hD.aJ k) (ly (by omega) (by omega)) (ly (by omega) (by omega)))
 have Qr:=vT hD.fit s.journal s.used
 have Y3:Hid (∀W,Calls Tryz.prog 124 #[.string (bs (Oh d s.journal s.used))] W (l7 (Oh d s.journal s.used) W)):=Mb (fun W=>G7 _ W (by omega))
 unfold l7 at Y3
 have Zo:=Mb (yP (d:=d) (s:=s))
 have HX2:=Mb (yO (d:=d) (s:=s))
 have HX3:=Mb (yN (d:=d) (s:=s))
 have HX4:=Mb (fun c0 ls=>CZ (d:=d) (s:=s) (c0:=c0) (ls:=ls))
 have ZJ:=Mb (xQ d s.journal s.used)
 have HBA:=Mb (fun c h=>yq hD.fit (s:=s) (c:=c) h)
 have HRN:Hid (∀W,aa [] w W->af W v s.runs OD On):=Mb (fun W k=>hr.kept0 k)
 have XX:=Mb Xe
 have OG:Hid (s.sectors<=8192/\s.journal<=8192/\1<=s.journal/\4<=s.sectors/\s.runs.length<=16):=Mb (by omega)
 have HN:Hid (d.stand.length<=96):=Mb hn
 have Xk:=Mb (JS hm)
 obtain⟨pr,cr,rfl⟩:=hr.shape
 generalize Oq d s=SX at*
 generalize OV d s=BX at*
 have HF:Hid ((Oh d s.journal s.used).length<=128*d.stand.length):=Mb Qr
 obtain⟨sq,se,jr,us,sz,rs⟩:=s
 simp only at*
 generalize Oh d jr us=X at*
 generalize NC d jr us=G at*
 obtain⟨o0,o1⟩:=cQ w #[.int .u64 sq,.int .i64 se,.int .i64 jr,.int .i64 us,.int .i64 sz,.slice pr rs.length cr] #[.int .u32 0,.int .u32 0,.slice none 0 0,.slice none 0 0,.slice none 0 0] 58 52
 have OY:=((aa.refl [] w).alloc (.cells #[.int .u64 sq,.int .i64 se,.int .i64 jr,.int .i64 us,.int .i64 sz,.slice pr rs.length cr] 58)).alloc (.cells #[.int .u32 0,.int .u32 0,.slice none 0 0,.slice none 0 0,.slice none 0 0] 52)
 have acA:((w.alloc (.cells #[.int .u64 sq,.int .i64 se,.int .i64 jr,.int .i64 us,.int .i64 sz,.slice pr rs.length cr] 58)).alloc (.cells #[.int .u32 0,.int .u32 0,.slice none 0 0,.slice none 0 0,.slice none 0 0] 52)).heap.size=w.heap.size+2:=by simp
 have abb:=Mb acA
 clear Xe Xh hr Qr hD hn hm acA
 simp only[SB.cells]at Uc ⊢
 go_enter Tryz.func64,Tryz.ntmps64
 obtain⟨x0,x1,x2,x3,x4,x5⟩:=o0.c6
 have O0:=Mb o0
 have O1:=Mb o1
 have K1:=Mb OY
 clear o0 o1 OY
 go_wp2_with fail
 refine(Uc.out _ K1.out).mono ?_;rintro e w2 ⟨R2,k2⟩
 have O02:=Mb (k2.own O0.out (by simp))
 have VM:=Mb (k2.own O1.out (by simp))
 have K2:=Mb (K1.out.trans k2)
 have XC:Hid (w.heap.size+2<=w2.heap.size):=Mb (by have:=k2.size;rw[abb.out]at this;exact this)
 clear k2 x0 x1 x2 x3 x4 x5
 rcases R2 with⟨c0,v0,hbx,N5,rfl⟩|⟨hbx,C,hC,rfl⟩
 .obtain⟨vb,vm,vn,rfl,hb,Sq,R9,Su,TP⟩:=id N5
  obtain⟨p1,c1,rfl⟩:=hb.plain.shape
  obtain⟨p2,c2,rfl⟩:=Sq.plain.shape
  obtain⟨p3,c3,rfl⟩:=R9.plain.shape
  have ZF:aw (fun x=>x<w.heap.size+2) w2 (.agg #[.int .u32 c0.nextBox,.int .u32 c0.nextMan,.slice p1 c0.boxes.length c1,.slice p2 c0.mans.length c2,.slice p3 c0.names.length c3]) c0:=N5.fI (fun x hx=>by rw[abb.out];exact hx)
  have Z1:=(ZF.more (T:=fun x=>x=w2.heap.size) (fun x hx=>by rw[hx];exact Md _))
  have HC:=Mb Z1
  have Q0:=Mb hbx
  have aaI:=Mb (HBA.out c0 hbx)
  clear N5 hb Sq R9 Su TP ZF Z1 hbx
  have o6:=ae.new w2 #[.int .u32 c0.nextBox,.int .u32 c0.nextMan,.slice p1 c0.boxes.length c1,.slice p2 c0.mans.length c2,.slice p3 c0.names.length c3] 52
  have k6:=(aa.refl [] w2).alloc (.cells #[.int .u32 c0.nextBox,.int .u32 c0.nextMan,.slice p1 c0.boxes.length c1,.slice p2 c0.mans.length c2,.slice p3 c0.names.length c3] 52)
  obtain⟨z0,z1,z2,z3,z4⟩:=o6.k5
  have O6:=Mb o6
  have K6:=Mb k6
  have O0X:=Mb (k6.own O02.out (by simp))
  obtain⟨x0,x1,x2,x3,x4,x5⟩:=O0X.out.c6
  clear o6 k6
  go_wp2_with fail
  have K3:=Mb (K2.out.trans K6.out)
  have TS:=Mb (K6.out.own VM.out (by simp))
  have HC3:=Mb (HC.out.kept0 K6.out)
  have Vj:Hid (w.heap.size+2<=w2.heap.size/\w2.heap.size<(w2.alloc (.cells #[.int .u32 c0.nextBox,.int .u32 c0.nextMan,.slice p1 c0.boxes.length c1,.slice p2 c0.mans.length c2,.slice p3 c0.names.length c3] 52)).heap.size):=Mb ⟨XC.out,by simp⟩
  generalize (w2.alloc (.cells #[.int .u32 c0.nextBox,.int .u32 c0.nextMan,.slice p1 c0.boxes.length c1,.slice p2 c0.mans.length c2,.slice p3 c0.names.length c3] 52))=w3 at*
  generalize hn6:w2.heap.size=n6 at*
  clear hn6 O02 VM K2 XC HC K6
  refine(acI.out _ K3.out).mono ?_;rintro e VO ⟨rfl,rfl⟩
  by_cases hg:G=0
  .have hgg:(G==0)=true:=by rw[hg];rfl
   have hx4:=fun ls Qi=>HX4.out c0 ls Q0.out hg Qi
   have HX5:=Mb hx4
   clear hx4 hg
   go_wp2_with fail
   refine(Y3.out _).mono ?_;rintro e w4 ⟨R2,k4⟩
   have K4:=Mb (K3.out.trans k4)
   have O64:=Mb (k4.own O6.out (by simp))
   have O04:=Mb (k4.own O0X.out (by simp))
   have OR4:=Mb (k4.own TS.out (by simp))
   have HC4:=Mb (HC3.out.kept0 k4)
   have Vo:Hid (w.heap.size+2<=n6/\n6<w3.heap.size/\w3.heap.size<=w4.heap.size):=Mb ⟨Vj.out.1,Vj.out.2,k4.size⟩
   clear k4 z0 z1 z2 z3 z4 x0 x1 x2 x3 x4 x5
   rcases R2 with⟨ls,v9,Qi,Sv,rfl⟩|⟨Qi,rfl⟩
   .have Yw:=Mb Sv
    obtain⟨p9,c9,rfl⟩:=Sv.shape
    have HX6:=Mb (HX5.out ls Qi)
    have RO:=Mb (ua Qi)
    have SY:=Mb (fun l hl=>(uc Qi l hl).1)
    have ad1:(ls.length:Int)<=9223372036854775807:=by
     have:=Yw.out.len
     unfold maxLen at this
     omega
    clear Sv Qi
    go_wp2_with fail
    go_loopw [42,7] (fun i cv wr=>∃(k:Nat) (C:Int) (c:aj) (vb vm vn:Value),k<=ls.length/\i=.int .i64 (k:Nat)/\cv=.int .i64 C/\aa [n6] w4 wr/\GF (fun x=>x<w.heap.size+2\/x=n6) w (w.heap.size+1) n6 c0 ls k C c wr vb vm vn) (fun i _ _=>ls.length-(intOf i).toNat)
    case atStart=>exact⟨0,0,c0,_,_,_,Mu _,rfl,rfl,aa.refl _ _,⟨O64.out,OR4.out,HC4.out,Or.inl ⟨rfl,rfl,aaI.out.1,aaI.out.2.1,by simp⟩,K4.out⟩⟩
    case round=>
     obtain⟨k,C,c,vb,vm,vn,hk,rfl,rfl,Ps,hA⟩:=hrel
     have HA:=Mb hA
     have Qg:=Mb Ps
     obtain⟨⟨pb,nb,cb,rfl⟩,⟨pm,nm,cm,rfl⟩,⟨pn,nn,cn,rfl⟩⟩:=aw.JN hA.cat
     clear hA Ps
     by_cases Ns:k<ls.length
     .have i1:(k:Int)<ls.length:=by omega
      have NU:=Mb Ns
      obtain⟨bt,off,kv,ct,hpe,Q2⟩:=Yw.out.at_ k Ns
      injection hpe with hpe Oj hpc
      subst hpe
      subst hpc
      clear Oj
      obtain⟨NW,Rs⟩:=Q2 wr [n6] Qg.out (fun x hx=>by
       obtain rfl:x=n6:=by simpa using hx
       exact Or.inl Vo.out.2.1)
      have T8:=wg Ns
      have PX:=SY.out _ (Mh Ns)
      have Rb:=RO.out.1 _ (Mh Ns)
      have NQ:=fun c hrp=>yX (c0:=c0) (c:=c) Ns hrp
      obtain⟨pk,ck,rfl⟩:=Rs.shape
      have R7:=Mb Rs.rO
      clear Q2 Rs
      generalize hlk:ls[k]'Ns=lk at*
      clear hlk Ns
      rcases HA.out.code with⟨rfl,hrp,Pa,hfi,Rl⟩|⟨hC,hrp⟩
      .have HM:=Mb Pa
       have HFI:=Mb hfi
       have aar:=Mb Rl
       have Qu:=Mb (NQ c hrp)
       have HFL:=Mb T8
       obtain⟨z0,z1,z2,z3,z4⟩:=HA.out.own.k5
       have Pq:=tf (S0:=fun x=>x<w.heap.size+2\/x=n6) _ c (.slice pk lk.length ck) lk _ _ wr HA.out.cat (fun x hx=>by
        have h1:=Vo.out
        have h2:=Qg.out.size
        rcases hx with hx|hx<;>omega) Pa.small R7.out (fun r hr=>DF (PX r hr) (Rb r hr)) (fun r hr=>by have:=lN (PX r hr);omega)
       unfold cE at Pq
       have QL:=Mb (nT [lk] (c:=c) (c':=(Nn c lk).1) Pa hfi (fun l hl r hr=>by
        obtain rfl:l=lk:=by simpa using hl
        exact Rb r hr))
       have Sd:=Mb Pq
       clear Pq T8 PX Rb NQ hrp Pa hfi Rl hk R7
       have X6:∀C1,(Nn c lk).2=C1->C1=0->cp c [lk]=some (Nn c lk).1:=fun C1 h1 h2=>by
        show(if(Nn c lk).2=0 then some (Nn c lk).1 else none)=_
        rw[if_pos (h1.trans h2)]
       have adj:=Mb X6
       clear X6
       generalize Nn c lk=AP at*
       obtain⟨c5,C5⟩:=AP
       simp only at*
       go_wp2_with fail
       refine Sd.out.mono ?_;rintro e w5 ⟨v5,rfl,hcat5,k5⟩
       obtain⟨vb5,vm5,vn5,rfl,hb5,hm5,hn5,_,_⟩:=id hcat5
       obtain⟨p15,c15,rfl⟩:=hb5.plain.shape
       obtain⟨p25,c25,rfl⟩:=hm5.plain.shape
       obtain⟨p35,c35,rfl⟩:=hn5.plain.shape
       have HC5:=Mb hcat5
       have O5:=Mb (k5.own HA.out.own (by simp))
       have OR5:=Mb (k5.own HA.out.res (by simp))
       have K5:=Mb (HA.out.kept.trans k5)
       have KN5:=Mb (Qg.out.trans (k5.mono (T:=[n6]) (by simp)))
       obtain⟨y0,y1,y2,y3,y4⟩:=O5.out.k5
       obtain⟨g0,g1,g2,g3,g4⟩:=O5.out.y5
       have abG:Hid ((C5=0/\cp c0 (ls.take (k+1))=some c5/\aM c5/\iJ c5/\dj c5<=dj c0+(ls.take (k+1)).flatten.length)\/(C5≠0/\cp c0 (ls.take (k+1))=none)):=Mb (by
        have hs:=Qu.out
        by_cases h0:C5=0
        .rw[if_pos h0]at hs
         obtain⟨a1,a2,a3⟩:=QL.out (adj.out C5 rfl h0)
         refine Or.inl ⟨h0,hs,a1,a2,?_⟩
         have:=aar.out
         rw[HFL.out,Mc]
         simp at a3
         omega
        .rw[if_neg h0]at hs
         exact Or.inr ⟨h0,hs⟩)
       clear hcat5 hb5 hm5 hn5 k5 z0 z1 z2 z3 z4 NW
       go_wp2_with fail
       go_roundw
       case rel=>
        refine⟨k+1,C5,c5,_,_,_,NU.out,by go_num,rfl,aa.bj KN5.out (Or.inl (by simp)) _ _ _ _ _,⟨O5.out.de _ _ _ _ _,?_,?_,abG.out,aa.bj K5.out (Or.inr (by have:=Vo.out;omega)) _ _ _ _ _⟩⟩
        .exact(aa.bj (aa.refl [n6] _) (Or.inl (by simp)) _ _ _ _ _).own OR5.out (by have:=Vo.out;simp;omega)
        .exact aw.cf HC5.out (aa.bj (aa.refl [n6] _) (Or.inl (by simp)) _ _ _ _ _) (fun x hx=>by
          obtain rfl:x=n6:=by simpa using hx
          exact Or.inr rfl)
       case measure=>(have hh:=NU.out;simp[intOf]<;>omega)
      .have hC0:(C==0)=false:=by simpa using hC
       have adf:=Mb (sf hrp)
       have Y6:=Mb hC
       clear T8 PX Rb NQ hrp hC hk R7
       go_wp2_with fail
       go_roundw
       case rel=>exact⟨k+1,C,c,_,_,_,NU.out,by go_num,rfl,Qg.out,⟨HA.out.own,HA.out.res,HA.out.cat,Or.inr ⟨Y6.out,adf.out⟩,HA.out.kept⟩⟩
       case measure=>(have hh:=NU.out;simp[intOf]<;>omega)
     .have i1:¬(k:Int)<ls.length:=by omega
      have QC:ls.take k=ls:=Mk (by omega)
      have Z0:=HA.out.code
      rw[QC]at Z0
      have KK:=Mb HA.out.kept
      clear QC Ns hk
      rcases Z0 with⟨rfl,hrp,Pa,hfi,Rl⟩|⟨hC,hrp⟩
      .have Qz:=sQ.2 hfi
       have Wh:=Jc Pa Qz
       have UP:dj c<=5000:=by
        have h1:=aaI.out.2.2
        have h2:=RO.out.2
        have h3:=HF.out
        have h4:=HN.out
        omega
       have Po:=vy Pa
       have acv:Hid (∀W,aa [] wr W->Calls Tryz.prog 125 #[.agg #[.int .u32 c.nextBox,.int .u32 c.nextMan,.slice pb nb cb,.slice pm nm cm,.slice pn nn cn],.int .i64 se,.int .i64 jr,.slice pr rs.length cr] W (mc (Oi se jr (NN c++rs)) W)):=Mb (fun W q=>Ky _ c se jr _ rs OD On W (HA.out.cat.plain.kept0 q) (by unfold dj at UP;exact UP) (by unfold dj at UP;omega) (HRN.out W (KK.out.trans q)) (by have:=OG.out;omega) (fun a ha=>by
        rcases Mj.1 ha with ha|ha
        .have:=Wh a ha;unfold aU;omega
        .exact XX.out a ha) (by have:=OG.out;omega) (by have:=OG.out;omega) (fun a ha=>by
        have h5:=OG.out
        rcases Mj.1 ha with ha|ha
        .have:=Wh a ha;omega
        .have:=Xk.out a ha;omega))
       unfold mc at acv
       have HX7:=Mb ((HX6.out).2 c hrp)
       have OS:=Mb (Qg.out.own O04.out (by have:=Vo.out;simp;omega))
       clear Qz Wh UP Po hrp Pa hfi Rl
       generalize Oi se jr (NN c++rs)=LQ at*
       have Oe:Hid (∀W,aa [w.heap.size+1] wr W->W.cell? ⟨n6,0,none⟩=some (.int .u32 c.nextBox)/\W.cell? ⟨n6,1,none⟩=some (.int .u32 c.nextMan)/\W.cell? ⟨n6,2,none⟩=some (.slice pb nb cb)/\W.cell? ⟨n6,3,none⟩=some (.slice pm nm cm)/\W.cell? ⟨n6,4,none⟩=some (.slice pn nn cn)/\W.cell? ⟨w.heap.size,1,none⟩=some (.int .i64 se)/\W.cell? ⟨w.heap.size,2,none⟩=some (.int .i64 jr)/\W.cell? ⟨w.heap.size,5,none⟩=some (.slice pr rs.length cr)):=Mb (fun W k=>by
        have O4:=Vo.out
        obtain⟨a0,a1,a2,a3,a4⟩:=(k.own HA.out.own (by simp;omega)).k5
        obtain⟨b0,b1,b2,b3,b4,b5⟩:=(k.own OS.out (by simp)).c6
        exact⟨a0,a1,a2,a3,a4,b1,b2,b5⟩)
       go_upto_region 16 with fail
       refine Ml (S:=(fun W=>W.cell? ⟨n6,0,none⟩=some (.int .u32 c.nextBox)/\W.cell? ⟨n6,1,none⟩=some (.int .u32 c.nextMan)/\W.cell? ⟨n6,2,none⟩=some (.slice pb nb cb)/\W.cell? ⟨n6,3,none⟩=some (.slice pm nm cm)/\W.cell? ⟨n6,4,none⟩=some (.slice pn nn cn)/\W.cell? ⟨w.heap.size,1,none⟩=some (.int .i64 se)/\W.cell? ⟨w.heap.size,2,none⟩=some (.int .i64 jr)/\W.cell? ⟨w.heap.size,5,none⟩=some (.slice pr rs.length cr))) (by kernel_rfl) (by exact Oe.out _ ((aa.refl [w.heap.size+1] wr).drew)) (fun hHeld=>?_)
       refine tk 0 59 ?_
       refine tk 1 60 ?_
       refine tk 2 61 ?_
       refine tk 3 62 ?_
       refine tk 4 63 ?_
       refine tk 5 64 ?_
       refine tk 6 65 ?_
       refine tk 7 66 ?_
       refine rd 8 (fun K hK=>?_)
       go_simp
       ((with_reducible refine(acv.out _ ((aa.refl [] wr).drew)).mono ?_));rintro e w6 ⟨C6,rfl,hC6,k6⟩
       have kk6:=((aa.refl [] wr).drew).trans k6
       have K6:=Mb kk6
       have HC6:=Mb hC6
       have OR6:=Mb (kk6.own HA.out.res (by simp))
       clear k6 kk6 hC6
       go_wp2_with fail
       refine hK.out _ _ ?_ (fun hHeld=>Go.Proofs.YtdkimcnlhmhpgaaGreat.nm ?_)
       .exact Oe.out _ (K6.out.mono (by simp))
       clear hK K
       refine rd 9 (fun K hK=>?_)
       refine ee rfl 52 _ _ rfl (w.heap.size+1) 0 #[.int .u32 c.nextBox,.int .u32 c.nextMan,.slice pb nb cb,.slice pm nm cm,.slice pn nn cn] (by simp[Act.eval,Act.put]) (by simp[Act.eval,Act.put]) (OR6.out.drew.there 0 5 (by simp)) (by kernel_rfl) (all_oneCell_toArray (cs:=[.int .u32 c.nextBox,.int .u32 c.nextMan,.slice pb nb cb,.slice pm nm cm,.slice pn nn cn]) (by intro u hu;simp at hu;rcases hu with rfl|rfl|rfl|rfl|rfl<;>rfl)) ?_
       rw[wE]
       have o9:=OR6.out.de (.int .u32 c.nextBox) (.int .u32 c.nextMan) (.slice pb nb cb) (.slice pm nm cm) (.slice pn nn cn)
       have k9:aa [w.heap.size+1] w6 (((((w6.setCell ⟨w.heap.size+1,0,none⟩ (.int .u32 c.nextBox)).setCell ⟨w.heap.size+1,1,none⟩ (.int .u32 c.nextMan)).setCell ⟨w.heap.size+1,2,none⟩ (.slice pb nb cb)).setCell ⟨w.heap.size+1,3,none⟩ (.slice pm nm cm)).setCell ⟨w.heap.size+1,4,none⟩ (.slice pn nn cn)):=aa.bj (aa.refl _ _) (Or.inl (by simp)) _ _ _ _ _
       generalize (((((w6.setCell ⟨w.heap.size+1,0,none⟩ (.int .u32 c.nextBox)).setCell ⟨w.heap.size+1,1,none⟩ (.int .u32 c.nextMan)).setCell ⟨w.heap.size+1,2,none⟩ (.slice pb nb cb)).setCell ⟨w.heap.size+1,3,none⟩ (.slice pm nm cm)).setCell ⟨w.heap.size+1,4,none⟩ (.slice pn nn cn))=w9 at*
       have O9:=Mb o9
       have K9:=Mb k9
       clear o9 k9
       refine hK.out _ _ ?_ (fun hHeld=>Go.Proofs.YtdkimcnlhmhpgaaGreat.nm ?_)
       .exact Oe.out _ ((K6.out.mono (by simp)).trans K9.out)
       clear hK K
       refine tk 10 5 ?_
       refine MM (by kernel_rfl) ?_ _
       try simp only[List.set_cons_succ,List.set_cons_zero]
       have HKF:Hid (aa [] w w9):=Mb ((KK.out.trans K6.out).call K9.out (fun x hx=>by
        obtain rfl:x=w.heap.size+1:=by simpa using hx
        exact Or.inr (by omega)))
       have HCF:Hid (aw (fun x=>x<w.heap.size) w9 (.agg #[.int .u32 c.nextBox,.int .u32 c.nextMan,.slice pb nb cb,.slice pm nm cm,.slice pn nn cn]) c):=Mb ((aw.cf (HA.out.cat.kept0 K6.out) K9.out (fun x hx=>by
        obtain rfl:x=w.heap.size+1:=by simpa using hx
        exact Or.inl (by omega))).fI (fun x hx=>Or.inl (by omega)))
       rcases HC6.out with⟨rfl,hq⟩|⟨rfl,hq⟩
       .have HQ:=Mb (HX7.out.1 hq)
        clear hq
        go_wp2_with fail
        refine Mx (v:=.tuple #[.agg #[.int .u32 c.nextBox,.int .u32 c.nextMan,.slice pb nb cb,.slice pm nm cm,.slice pn nn cn],.int .i64 0]) (ak Tryz.results64 rfl rfl (t:=52) ?_ Tryz.underlying52 rfl (by kernel_rfl)) rfl ?_
        .exact O9.out
        .unfold fX;exact⟨Or.inl ⟨c,_,HQ.out,HCF.out,rfl⟩,HKF.out⟩
       .have HQ:=Mb (HX7.out.2 hq)
        clear hq
        go_wp2_with fail
        refine Mx (v:=.tuple #[.agg #[.int .u32 c.nextBox,.int .u32 c.nextMan,.slice pb nb cb,.slice pm nm cm,.slice pn nn cn],.int .i64 110]) (ak Tryz.results64 rfl rfl (t:=52) ?_ Tryz.underlying52 rfl (by kernel_rfl)) rfl ?_
        .exact O9.out
        .unfold fX;exact⟨Or.inr ⟨HQ.out,110,by decide,_,_,_,_,_,_,_,_,_,_,_,rfl⟩,HKF.out⟩
      .have hC0:(C==0)=false:=by simpa using hC
       have Pk:=Mb (HX6.out.1 hrp)
       have Y6:=Mb hC0
       obtain⟨z0,z1,z2,z3,z4⟩:=HA.out.own.k5
       obtain⟨y0,y1,y2,y3,y4⟩:=HA.out.res.k5
       obtain⟨g0,g1,g2,g3,g4⟩:=HA.out.res.y5
       clear hrp hC
       go_wp2_with fail
       refine Mx (v:=.tuple #[.agg #[.int .u32 c.nextBox,.int .u32 c.nextMan,.slice pb nb cb,.slice pm nm cm,.slice pn nn cn],.int .i64 C]) (ak Tryz.results64 rfl rfl (t:=52) ?_ Tryz.underlying52 rfl (by kernel_rfl)) rfl ?_
       .exact HA.out.res.de _ _ _ _ _
       .unfold fX;exact⟨Or.inr ⟨Pk.out,C,(by first|exact Y6.out|simpa using Y6.out),_,_,_,_,_,_,_,_,_,_,_,rfl⟩,aa.bj KK.out (Or.inr (by omega)) _ _ _ _ _⟩
   .have Pk:=Mb (HX3.out Qi)
    obtain⟨z0,z1,z2,z3,z4⟩:=O64.out.k5
    obtain⟨y0,y1,y2,y3,y4⟩:=OR4.out.k5
    obtain⟨g0,g1,g2,g3,g4⟩:=OR4.out.y5
    clear Qi
    go_wp2_with fail
    refine wp_loop_rounds 1 ?_
    rw[rounds_succ]
    go_wp2_with fail
    refine Mx (v:=.tuple #[.agg #[.int .u32 c0.nextBox,.int .u32 c0.nextMan,.slice p1 c0.boxes.length c1,.slice p2 c0.mans.length c2,.slice p3 c0.names.length c3],.int .i64 110]) (ak Tryz.results64 rfl rfl (t:=52) ?_ Tryz.underlying52 rfl (by kernel_rfl)) rfl ?_
    .exact OR4.out.de _ _ _ _ _
    .unfold fX;exact⟨Or.inr ⟨Pk.out,110,by decide,_,_,_,_,_,_,_,_,_,_,_,rfl⟩,aa.bj K4.out (Or.inr (by omega)) _ _ _ _ _⟩
  .have hg0:(G==0)=false:=by simpa using hg
   have Pk:=Mb (HX2.out hg)
   have HGG:=Mb hg0
   obtain⟨y0,y1,y2,y3,y4⟩:=TS.out.k5
   obtain⟨g0,g1,g2,g3,g4⟩:=TS.out.y5
   clear hg
   go_wp2_with fail
   refine Mx (v:=.tuple #[.agg #[.int .u32 c0.nextBox,.int .u32 c0.nextMan,.slice p1 c0.boxes.length c1,.slice p2 c0.mans.length c2,.slice p3 c0.names.length c3],.int .i64 G]) (ak Tryz.results64 rfl rfl (t:=52) ?_ Tryz.underlying52 rfl (by kernel_rfl)) rfl ?_
   .exact TS.out.de _ _ _ _ _
   .unfold fX;exact⟨Or.inr ⟨Pk.out,G,(by first|exact HGG.out|simpa using HGG.out),_,_,_,_,_,_,_,_,_,_,_,rfl⟩,aa.bj K3.out (Or.inr (by omega)) _ _ _ _ _⟩
 .have Pk:=Mb (Zo.out hbx)
  have Y6:=Mb hC
  have Ps:=(aa.refl [] w2).alloc (.cells #[.int .u32 0,.int .u32 0,.slice none 0 0,.slice none 0 0,.slice none 0 0] 52)
  have o6:=ae.new w2 #[.int .u32 0,.int .u32 0,.slice none 0 0,.slice none 0 0,.slice none 0 0] 52
  have TS:=Mb (Ps.own VM.out (by simp))
  have K3:=Mb (K2.out.trans Ps)
  obtain⟨z0,z1,z2,z3,z4⟩:=o6.k5
  obtain⟨y0,y1,y2,y3,y4⟩:=TS.out.k5
  obtain⟨g0,g1,g2,g3,g4⟩:=TS.out.y5
  clear o6 Ps hbx
  go_wp2_with fail
  refine Mx (v:=.tuple #[.agg #[.int .u32 0,.int .u32 0,.slice none 0 0,.slice none 0 0,.slice none 0 0],.int .i64 C]) (ak Tryz.results64 rfl rfl (t:=52) ?_ Tryz.underlying52 rfl (by kernel_rfl)) rfl ?_
  .exact TS.out.de _ _ _ _ _
  .unfold fX;exact⟨Or.inr ⟨Pk.out,C,(by first|exact Y6.out|simpa using Y6.out),_,_,_,_,_,_,_,_,_,_,_,rfl⟩,aa.bj K3.out (Or.inr (by omega)) _ _ _ _ _⟩
end Go.Proofs.YtdkimcnlhmhpgaaGreat

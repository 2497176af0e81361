/- -/
import Derived.Test.YtdkimcnlhmhpgaaGreatK54
set_option maxHeartbeats 16000000
set_option maxRecDepth 100000
set_option linter.unusedVariables false
namespace Go.Proofs.YtdkimcnlhmhpgaaGreat
open Go.RowKit
variable {c:aj} {T:List Nat} {w wr w' w1:World} {B b sb mb lo n0 n1 nC n2 B2 b2 sb2 mb2 lo2:Nat} {v u:VS} {vw:Value} {ws:List (List UInt8)} {cv:Array Value} {C:Int}
theorem ug (v:VS) (l:List VC) (Sp:l.length<=8) (h0:0<=v.s.used) (Zv:v.s.journal<=30) (hn:v.d.stand.length<=100):Fw 1200 v.d (NJ v l).1.d:=by
 have Wz:Fw 1200 v.d v.d:=(Fw.refl _).mono (Mu _)
 have Oj:=qf l (Ng (Nk v) l l.length).1
 have W8:=ny l (Ng (Nk v) l l.length).1 v.d.stand.length
 unfold NJ
 split
 .exact Wz
 .split
  .exact Wz
  .split
   .exact Wz
   .split
    .exact Wz
    .split
     .exact Wz
     .split
      .rename_i c5
       generalize (Ng (Nk v) l l.length).1=P at*
       generalize (Nn v.c P).1=AC at*
       generalize NZ P=tx at*
       have Te:=uh (v.d.stand.length+1) 40 (ND l P++[Ni]) (Nz AC tx) v (fun f hf e he=>by
        rcases Mj.1 hf with hf|hf
        .exact(W8 f hf e he).mono (by omega)
        .obtain rfl:=MB.1 hf
         exact(jR e).mono (by omega)) (fun u hu=>(rQ AC tx u).mono (by omega))
       have e:bX l P++[aK Ni,Nz AC tx]=(ND l P++[Ni]).map aK++[Nz AC tx]:=by unfold bX;simp
       rw[e]
       have h2:(ND l P++[Ni]).length<=9:=by rw[Mc,MT];omega
       have h3:(ND l P++[Ni]).length*(v.d.stand.length+1)<=9*101:=Nat.mul_le_mul h2 (by omega)
       exact Te.mono (by omega)
      .split
       .exact Wz
       .split
        .exact Wz
        .have Te:=uh v.d.stand.length (3*(v.d.stand.length+2)) (ND l (Ng (Nk v) l l.length).1) (NO (Nn v.c (Ng (Nk v) l l.length).1).1 (aG (Nn v.c (Ng (Nk v) l l.length).1).1).1 (Np (Ng (Nk v) l l.length).2 (Nv (aG (Nn v.c (Ng (Nk v) l l.length).1).1).1.length))) v W8 (fun u hu=>by rw[<-hu];exact oL _ _ _ u)
         have h3:(ND l (Ng (Nk v) l l.length).1).length*v.d.stand.length<=8*100:=Nat.mul_le_mul (by omega) (by omega)
         unfold bX
         exact Te.mono (by omega)
theorem uT (v:VS) (hn:v.d.stand.length<=100):Fw 1200 v.d (cP v).1.d:=by
 have Wz:Fw 1200 v.d v.d:=(Fw.refl _).mono (Mu _)
 unfold cP
 split
 .exact Wz
 .split
  .exact Wz
  .split
   .exact Wz
   .have h1:=oL v.c (aG v.c).1 (Np (Nk v) (Nv (aG v.c).1.length)) v
    exact h1.mono (by omega)
theorem M53 {A:Prop}(h:A:=by
 rw[em]at kk HD
 clear em
 go_enter Tryz.func31,Tryz.ntmps31
 go_wp2_with fail
 all_goals first
  |(exfalso;omega)
  |(go_end0;(first|exact⟨rfl,HD.out,KQ.out _ kk⟩|exact⟨rfl,HD0.out,KQ.out _ kk0⟩))):A:=h
theorem Kj (b sb mb lo:Nat) (d:DK) (n:Int) (w:World) (h:aI w b sb mb lo d) (hn:n<=9223372036854775807):
  Calls Tryz.prog 31 #[.pointer (some ⟨b,0,none⟩),.int .i64 n] w fun e w'=>e=.returned (.tuple #[])/\aI w' b sb mb lo (PV d n)/\aa [b] w w'/\w'.cell? ⟨b,1,none⟩=w.cell? ⟨b,1,none⟩:=by
 obtain⟨p2,c2,y0,y1,y2,y3,y4,y5,_,_,ho⟩:=h.rI
 have z:w.frozen? ⟨b,3,none⟩=false:=by obtain⟨_,_,o,_⟩:=h;exact o.free 3
 have hbo:∃cs,ae w b cs 138/\1<cs.size:=by obtain⟨_,_,o,_⟩:=h;exact⟨_,o,by simp⟩
 have kq:∀m:Int,aa [b] w (w.setCell ⟨b,3,none⟩ (.int .i64 m))->aa [b] w (w.setCell ⟨b,3,none⟩ (.int .i64 m))/\(w.setCell ⟨b,3,none⟩ (.int .i64 m)).cell? ⟨b,1,none⟩=w.cell? ⟨b,1,none⟩:=fun m k=>⟨k,by
  obtain⟨cs,o,h1⟩:=hbo
  rw[(o.set 3 _).cell 1 (by simpa using h1),o.cell 1 h1,Array.getElem_setIfInBounds]
  rfl⟩
 have KQ:=Mb kq
 clear kq hbo
 have kk:=(aa.refl [b] w).setCell (p:=⟨b,3,none⟩) (Or.inl (by simp)) (.int .i64 (max n (-1)))
 have hD:=aI.nums (d':=PV d n) h kk rfl rfl (by show(-1:Int)<=max n (-1);omega) (by show max n (-1)<=(9223372036854775807:Int);omega) ho (fun v0 v1 v2 o=>o.set 3 _)
 have HD:=Mb hD
 have HD0:=HD
 have kk0:=kk
 clear hD h ho y1
 rcases(by omega:n< -1\/n= -1\/ -1<n)with h1|h1|h1
 .have em:max n (-1)= -1:=by omega
  have h2:n<= -1:=by omega
  exact M53
 .subst h1
  have em:max (-1:Int) (-1)= -1:=by omega
  rw[em]at kk HD
  clear em
  go_enter Tryz.func31,Tryz.ntmps31
  go_wp2_with fail
  all_goals (go_end0;(first|exact⟨rfl,HD.out,KQ.out _ kk⟩|exact⟨rfl,HD0.out,KQ.out _ kk0⟩))
 .have em:max n (-1)=n:=by omega
  have h2:¬(n<= -1):=by omega
  exact M53
theorem vP (h:aM c):∀l,l=c.boxes\/l=c.mans\/l=c.names->l.length<=1000000/\∀x∈l,x.runs.length<=1000000:=fun l hl=>by
 obtain⟨a,b,d⟩:=h.small
 rcases hl with rfl|rfl|rfl
 .exact a
 .exact b
 .exact d
theorem ay.Ck (h:ay T w B b sb mb lo v) (hc:aM v.c):∀W,aa [] w W->Calls Tryz.prog 19 #[.pointer (some ⟨B,0,none⟩)] W fun e w'=>(∃vv,e=.returned vv/\aw (fun x=>x<W.heap.size) w' vv v.c)/\aa [] W w':=fun W k=>by
 obtain⟨sv,vb,vm,vn,o,_,hC⟩:=(h.aJ k).vol
 exact JE o hC.plain (vP hc)
def mF (ws:List (List UInt8)) (w:World) (e:Ending) (w':World):Prop:=(∃u,e=.returned (.tuple #[u,.bool true])/\cj w' u ws.length 1 (qa ws)/\bJ (fun x=>x<w.heap.size) u ws.length)/\aa [] w w'
theorem wY (hV:ay T w B b sb mb lo v) (hq:aF v.d) (hd:v.dead=false) (hc:aM v.c) (OJ:jy (eu v)=true):
  Calls Tryz.prog 30 #[.pointer (some ⟨B,0,none⟩)] w (mF ((eu v).map (·.1)) w):=by
 refine(JF hV hq hd hc (vP hc)).mono fun e w' hh=>?_
 obtain⟨⟨u,he,hr⟩,k⟩:=hh
 rw[OJ]at he
 have e1:qa ((eu v).map (·.1))=sd (eu v):=by unfold qa sd;rw[List.map_map];rfl
 have Qe:=cj.bo hr
 refine⟨⟨u,he,?_,?_⟩,k⟩
 .rw[e1,Mm];exact Qe
 .exact bJ.row hr (fun x hx=>hx) _
theorem bJ.more {S T:Nat->Prop} {v:Value} {n k:Nat} {xs:List Value} (h:bJ S v n) (hr:cj w v n k xs) (hT:∀x,T x->S x\/w.heap.size<=x):bJ T v n:=fun g off sp n' c e hn hg=>by
 rcases hT g hg with h1|h1
 .exact h g off sp n' c e hn h1
 .have:=hr.lV g off sp n' c e hn
  omega
def wB (n0 n1:Nat):Nat->Prop:=fun x=>x<n0\/n1<=x
structure mW (wr:World) (n0 n1:Nat) (vw:Value) (ws:List (List UInt8)) (nC:Nat) (c:aj) (cv:Array Value):Prop where
 row:cj wr vw ws.length 1 (qa ws)
 off:bJ (wB n0 n1) vw ws.length
 own:ae wr nC cv 52
 place:n0<=nC/\nC<n1
 cat:aw (wB n0 n1) wr (.agg cv) c
theorem mW.kept {S:List Nat} (h:mW wr n0 n1 vw ws nC c cv) (k:aa S wr w') (hS:∀x∈S,wB n0 n1 x):mW w' n0 n1 vw ws nC c cv:=
 ⟨h.row.cf k h.off hS,h.off,k.own h.own (fun hx=>by
  have h1:=hS _ hx
  have h2:=h.place
  unfold wB at h1
  omega),h.place,aw.cf h.cat k hS⟩
theorem mW.aJ (h:mW wr n0 n1 vw ws nC c cv) (k:aa [] wr w'):mW w' n0 n1 vw ws nC c cv:=h.kept k (fun x hx=>by cases hx)
structure iU (w wr:World) (n0 n1 n2:Nat) (B b sb mb lo:Nat) (v:VS) (B2 b2 sb2 mb2 lo2:Nat) (u:VS):Prop where
 hv:HV [B] w wr B b sb mb lo v
 lowv:∀x,SD [B] wr b sb mb x->x<n0
 twin:ay (B2::List.range n1) wr B2 b2 sb2 mb2 lo2 u
 lowu:∀x,SD [B2] wr b2 sb2 mb2 x->n1<=x/\x<n2
 ns:n0<=n1/\n2<=wr.heap.size
theorem JQ {x:Nat} (h:SD [] w b sb mb x):SD T w b sb mb x:=fun ho=>h (ho.mono (fun y hy=>by cases hy))
theorem iU.aJ (h:iU w wr n0 n1 n2 B b sb mb lo v B2 b2 sb2 mb2 lo2 u) (k:aa [] wr w'):iU w w' n0 n1 n2 B b sb mb lo v B2 b2 sb2 mb2 lo2 u:=
 ⟨h.hv.aJ k,fun x hx=>h.lowv x (by rw[SD.kept k h.hv.vol.da.aQ]at hx;exact hx),h.twin.aJ k,fun x hx=>h.lowu x (by rw[SD.kept k h.twin.da.aQ]at hx;exact hx),h.ns.1,MA h.ns.2 k.size⟩
theorem iU.fuse {d':DK} (h:iU w wr n0 n1 n2 B b sb mb lo v B2 b2 sb2 mb2 lo2 u) (hk:aa [b] wr w') (hc:w'.cell? ⟨b,1,none⟩=wr.cell? ⟨b,1,none⟩) (hD:DA w' b sb mb lo d'):iU w w' n0 n1 n2 B b sb mb lo ⟨d',v.s,v.c,v.dead⟩ B2 b2 sb2 mb2 lo2 u:=by
 have hp:PK [] b sb mb wr w':=PK.Bw hk hc
 have hBb:B≠b:=h.hv.vol.off.2.1
 have U8:b<n0:=h.lowv b (fun ho=>ho.2.1 rfl)
 have VD:=h.lowu B2 (fun ho=>ho.1 (by simp))
 have ON:aW [] wr b2 sb2 mb2 b:=by
  apply MU
  intro hn
  have:=h.lowu b (JQ hn)
  have:=h.ns
  omega
 have hns:=h.ns
 refine⟨h.hv.pk (hp.mono (fun x hx=>by cases hx)) (h.hv.vol.pk hp hD (fun x hx=>by cases hx) (by simp)),fun x hx=>h.lowv x (fun ho=>hx ⟨ho.1,ho.2.1,ho.2.2.1,ho.2.2.2.1,fun hw=>ho.2.2.2.2 ((WB.gz hc).1 hw)⟩),?_,fun x hx=>h.lowu x (fun ho=>hx (ho.aside h.twin.da.aQ hk (by simp only[MB];exact fun e=>ON.2.1 e.symm))),hns.1,MA hns.2 hp.size⟩
 refine h.twin.aside hk (fun x hx=>?_) (fun x hx=>⟨Mo (h.twin.hT x hx) hp.size,Or.inl hx⟩) (by simp)
 obtain rfl:x=b:=by simpa using hx
 exact⟨MP _ (List.mem_range.2 (by omega)),by omega,ON⟩
structure wM (w wr:World) (n0 n1:Nat) (v:VS) (b sb mb lo:Nat) (d1:DK) (C:Int) (T:List Nat) (B2 b2 sb2 mb2 lo2:Nat) (U:VS):Prop where
 da:DA wr b sb mb lo d1
 kept:aa [] w wr
 new:w.heap.size<=b/\w.heap.size<=sb/\w.heap.size<=mb/\∀k,WB wr b k->w.heap.size<=k
 low:∀x,SD [] wr b sb mb x->wB n0 n1 x
 twin:ay T wr B2 b2 sb2 mb2 lo2 U
 off:∀x,SD [] wr b sb mb x->x∈T/\x≠B2/\aW [] wr b2 sb2 mb2 x
 cuts:∀keep,∃s c,uD v C (Oo d1 keep) U s c
 few:d1.waits.length<=5000/\d1.stand.length<=96
theorem Ec {w2:World} {v0 v1 u1:VS} (h:iU w wr n0 n1 n2 B b sb mb lo v B2 b2 sb2 mb2 lo2 u)
  (k1:PK [B] b sb mb wr w1) (SV:ay [B] w1 B b sb mb lo v1)
  (hu1:ay (B2::(List.range n1++List.range' wr.heap.size (w1.heap.size-wr.heap.size))) w2 B2 b2 sb2 mb2 lo2 u1) (k2:PK [B2] b2 sb2 mb2 w1 w2)
  (hu0:ay (B2::(List.range n1++List.range' wr.heap.size (w1.heap.size-wr.heap.size))) w1 B2 b2 sb2 mb2 lo2 u)
  (hcuts:∀keep,∃s c,uD v0 C (Oo v1.d keep) u1 s c) (Qr:v1.d.waits.length<=5000/\v1.d.stand.length<=96):
  wM w w2 n0 n1 v0 b sb mb lo v1.d C (B2::(List.range n1++List.range' wr.heap.size (w1.heap.size-wr.heap.size))) B2 b2 sb2 mb2 lo2 u1/\∃S,aa S wr w2/\∀x∈S,wB n0 n1 x:=by
 obtain⟨S1,q1,hS1⟩:=k1.mY
 obtain⟨S2,q2,hS2⟩:=k2.mY
 obtain⟨e1,e2⟩:=h.ns
 have abY:∀x∈S1,x<n0:=fun x hx=>h.lowv x (hS1 x hx)
 have adi:=h.lowu B2 (fun ho=>ho.1 (by simp))
 have ad4:=h.lowu b2 (fun ho=>ho.2.1 rfl)
 have abg:b2∉S1:=fun hx=>by have:=abY _ hx;omega
 -- the twin's blocks, behind the volume's call
 have WH:∀x,SD [B2] w1 b2 sb2 mb2 x->n1<=x/\x<n2:=fun x hx=>h.lowu x (fun ho=>hx (ho.aside h.twin.da.aQ q1 abg))
 -- the disk's blocks, behind its call
 have Z8:∀x,SD [] w1 b sb mb x->x<n0\/(wr.heap.size<=x/\x<w1.heap.size):=fun x hx=>by
  have Ns:=SV.da.qY (T:=[]) (fun y hy=>by cases hy) x hx
  by_cases hs:x<wr.heap.size
  .refine Or.inl (h.lowv x (fun ho=>hx ?_))
   exact(ho.pk k1 hs).mono (fun y hy=>by cases hy)
  .exact Or.inr ⟨by omega,Ns⟩
 have acE:∀x∈S2,aW [] w1 b sb mb x:=fun x hx=>by
  apply MU
  intro hn
  have h1:=WH x (hS2 x hx)
  have h2:=Z8 x hn
  omega
 have acK:b∉S2:=fun hx=>(acE b hx).2.1 rfl
 have abW:∀x,SD [] w2 b sb mb x->SD [] w1 b sb mb x:=fun x hx ho=>hx (ho.aside SV.da.aQ q2 acK)
 have aaJ:aa [] w w1:=h.hv.kept.call q1 (fun x hx=>Or.inr (by
  obtain⟨g1,g2,g3,g4,g5⟩:=h.hv.new
  have Vz:=hS1 x hx
  apply MU
  intro Ns
  apply Vz
  refine⟨fun hm=>?_,fun e=>?_,fun e=>?_,fun e=>?_,fun hw=>?_⟩
  .obtain rfl:x=B:=by simpa using hm
   omega
  .subst e;omega
  .subst e;omega
  .subst e;omega
  .have:=g5 x hw;omega))
 have aap:aa [] w w2:=aaJ.call q2 (fun x hx=>Or.inr (by
  have h1:=(WH x (hS2 x hx)).1
  have h2:w.heap.size<=n0:=by
   have:=h.lowv B (fun ho=>ho.1 (by simp))
   have:=h.hv.new.1
   omega
  omega))
 refine⟨⟨SV.da.aside q2 acE,aap,⟨h.hv.new.2.1,h.hv.new.2.2.1,h.hv.new.2.2.2.1,fun g hg=>?_⟩,fun x hx=>?_,hu1,fun x hx=>?_,hcuts,Qr⟩,S1++S2,?_,fun x hx=>?_⟩
 .have T4:=(WB.aside SV.da.aQ q2 acK g).1 hg
  rcases k1.wb g T4 with h1|h1
  .exact h.hv.new.2.2.2.2 g h1
  .have:=h.hv.kept.size;omega
 .rcases Z8 x (abW x hx)with h1|h1
  .exact Or.inl h1
  .exact Or.inr (by omega)
 .have h3:=Z8 x (abW x hx)
  refine⟨MP _ (Mj.2 ?_),by omega,?_⟩
  .rcases h3 with h3|h3
   .exact Or.inl (List.mem_range.2 (by omega))
   .exact Or.inr (List.mem_range'_1.2 (by omega))
  .apply MU
   intro hn
   by_cases hw:WB w2 b2 x
   .rcases k2.wb x hw with h4|h4
    .have:=WH x (fun ho=>ho.2.2.2.2 h4)
     omega
    .have aen:=k1.size
     omega
   .have:SD [B2] w1 b2 sb2 mb2 x:=fun ho=>hn ⟨by simp,ho.2.1,ho.2.2.1,ho.2.2.2.1,hw⟩
    have:=WH x this
    omega
 .exact(q1.mono (fun x hx=>List.mem_append_left _ hx)).trans (q2.mono (fun x hx=>List.mem_append_right _ hx))
 .rcases Mj.1 hx with h1|h1
  .exact Or.inl (abY x h1)
  .exact Or.inr (WH x (hS2 x h1)).1
theorem iU.GQ (h:iU w wr n0 n1 n2 B b sb mb lo v B2 b2 sb2 mb2 lo2 u) (k1:PK [B] b sb mb wr w1):ay (B2::(List.range n1++List.range' wr.heap.size (w1.heap.size-wr.heap.size))) w1 B2 b2 sb2 mb2 lo2 u:=by
 obtain⟨S1,q1,hS1⟩:=k1.mY
 obtain⟨e1,e2⟩:=h.ns
 have adi:=h.lowu B2 (fun ho=>ho.1 (by simp))
 refine h.twin.aside q1 (fun x hx=>?_) (fun x hx=>?_) (by simp)
 .have h1:=h.lowv x (hS1 x hx)
  refine⟨MP _ (List.mem_range.2 (by omega)),by omega,?_⟩
  apply MU
  intro hn
  have:=h.lowu x (JQ hn)
  omega
 .have hs:=q1.size
  simp only[List.mem_cons,Mj,List.mem_range,List.mem_range'_1]at hx ⊢
  rcases hx with rfl|hx|hx
  .exact⟨by omega,Or.inl (Or.inl rfl)⟩
  .have:=h.twin.hT x (MP _ (List.mem_range.2 hx))
   exact⟨by omega,Or.inl (Or.inr hx)⟩
  .exact⟨by omega,Or.inr hx.1⟩
theorem Ia {w3 w7 w8 w9:World} {d2:DK} {sv vb vm vn:Value} (hv:HV [B] w w3 B b sb mb lo v) (k7:aa [] w3 w7) (k8:aa [] w7 w8) (hD2:DA w8 b2 sb2 mb2 lo2 d2) (hn:w7.heap.size<=b2/\w7.heap.size<=sb2/\w7.heap.size<=mb2/\w7.heap.size<=lo2)
  (k9:aa [] w8 w9) (VD:w8.heap.size<=B2) (o:ae w9 B2 (bf b2 v.s sv v.c vb vm vn false) 90) (hr:af w9 sv v.s.runs w8.heap.size B2) (hc:aw (fun x=>x<w8.heap.size\/x=B2) w9 (.agg #[.int .u32 v.c.nextBox,.int .u32 v.c.nextMan,vb,vm,vn]) v.c):
  iU w w9 w3.heap.size w7.heap.size w9.heap.size B b sb mb lo v B2 b2 sb2 mb2 lo2 ⟨d2,v.s,v.c,false⟩:=by
 have h9:=hv.aJ ((k7.trans k8).trans k9)
 have hs7:=k7.size
 have hs8:=k8.size
 have hs9:=k9.size
 obtain⟨n1,n2,n3,n4⟩:=hn
 refine⟨h9,fun x hx=>?_,rF hD2 k9 VD o hr hc (by simp) (fun x hx=>?_),fun x hx=>⟨?_,?_⟩,hs7,Md _⟩
 .rw[SD.kept ((k7.trans k8).trans k9) hv.vol.da.aQ]at hx
  exact hv.vol.da.qY hv.vol.hT x hx
 .simp only[List.mem_cons,List.mem_range]at hx
  rcases hx with rfl|hx
  .exact Or.inr rfl
  .exact Or.inl (by omega)
 .apply MU
  intro Ns
  refine hx ⟨fun hm=>?_,by omega,by omega,by omega,fun hw=>?_⟩
  .obtain rfl:x=B2:=by simpa using hm
   omega
  .have:=(hD2.disk.wb ((hD2.qW k9 x).1 hw)).1
   omega
 .exact(hD2.aJ k9).qY (T:=[B2]) (fun y hy=>by
   obtain rfl:y=B2:=by simpa using hy
   exact o.lt) x hx
theorem CP (h:iI v) (n:Int):iI ⟨PV v.d n,v.s,v.c,v.dead⟩:=
 ⟨h.fit.fuse n,h.down,h.waits,h.may,h.cat,h.fitI,h.seq,gG h.mounted h.fit (h.fit.fuse n) h.waits h.down rfl h.waits h.down,h.len⟩
theorem Ew (hd:v.dead=false) (n:Int):eu ⟨PV v.d n,v.s,v.c,v.dead⟩=eu v:=mA rfl hd hd (fun x hx=>⟨rfl,rfl⟩)
theorem wM.iw {U:VS} {d1:DK} (h:wM w wr n0 n1 v b sb mb lo d1 C T B2 b2 sb2 mb2 lo2 U) (hM:mW wr n0 n1 vw ws nC c cv) (k:PK [] b sb mb wr w'):aa [] w w'/\ay T w' B2 b2 sb2 mb2 lo2 U/\mW w' n0 n1 vw ws nC c cv:=by
 obtain⟨S,q,hS⟩:=k.mY
 obtain⟨a1,a2,a3,a4⟩:=h.new
 refine⟨h.kept.call q (fun x hx=>Or.inr ?_),h.twin.aside q (fun x hx=>h.off x (hS x hx)) (fun x hx=>⟨Mo (h.twin.hT x hx) q.size,Or.inl hx⟩) h.twin.hB,hM.kept q (fun x hx=>h.low x (hS x hx))⟩
 apply MU
 intro Ns
 refine hS x hx ⟨by simp,fun e=>?_,fun e=>?_,fun e=>?_,fun hw=>?_⟩
 .subst e;omega
 .subst e;omega
 .subst e;omega
 .have:=a4 x hw;omega
end Go.Proofs.YtdkimcnlhmhpgaaGreat
namespace Go.Proofs.YtdkimcnlhmhpgaaGreat
open Go.ChangeShapes Go.WideShapes Go.ChangeAt Go.RowKit Go.Deep
variable {w:World} {v:Value} {ls:List (List VC)} {lo hi n:Nat}
def uY (lo hi:Nat) (w:World) (cs:List Value) (l:List VC):Prop:=∃kv,cs=[kv]/\dC w kv l lo hi
def kU (w:World) (v:Value) (ls:List (List VC)) (lo hi:Nat):Prop:=aZ 1 (uY lo hi) w v ls lo hi
theorem kU.kept {S:List Nat} {w':World} (h:kU w v ls lo hi) (k:aa S w w') (hS:∀x∈S,x<lo\/hi<=x):kU w' v ls lo hi:=
 aZ.kept h k hS (fun cs a ⟨kv,e1,e2⟩=>⟨kv,e1,e2.kept k hS⟩)
theorem kU.at_ {p:Option Addr} {c:Nat} (h:kU w (.slice p n c) ls lo hi) (i:Nat) (hi':i<ls.length):
  ∃b off kv,p=some ⟨b,off,none⟩/\w.cell? ⟨b,off+i,none⟩=some kv/\dC w kv ls[i] lo hi:=by
 obtain⟨b,off,cs,e1,e2,⟨kv,rfl,e4⟩,e6,e7⟩:=aZ.at_ h i hi'
 refine⟨b,off,kv,e1,?_,e4⟩
 have:=e6 0 _ rfl
 rw[Nat.mul_one]at this
 exact this
section
variable {H:Type} {enc:TypeId×Value->H} {w:World} {base:Nat} {held:Bool} {r:Reach} {b0:Nat}
theorem Ik {cs:List Value} {y:DataW H×List MemPlace} (hy:DataW.trod enc Tryz.prog w base (fun _=>true) held n 36 cs=some y) (hl:cs.length=1):∃l:List VC,uY 0 w.heap.size w cs l:=by
 match cs,hl with
 |[c],_=>
  obtain⟨l,hl⟩:=qe hy
  exact⟨l,c,rfl,hl⟩
theorem open_rls {d:DataW H} {p:List MemPlace} (hv:Value.okWide Tryz.prog w r b0 75 v) (h:DataW.Trod enc Tryz.prog w base (fun _=>true) held 75 v d p):∃l,kU w v l 0 w.heap.size:=by
 obtain⟨a0,len,cap,rfl⟩:=okWide_slice Tryz.underlying75 hv
 obtain⟨fuel,hf⟩:=h
 exact pY (R:=uY 0 w.heap.size) Tryz.underlying75 (by kernel_rfl) (by omega) (fun n cs y hy hl=>Ik hy hl) (by simpa[Value.cells]using hf)
end
end Go.Proofs.YtdkimcnlhmhpgaaGreat
namespace Go.Proofs.YtdkimcnlhmhpgaaGreat
open Go.RowKit
theorem rD (w:World):(Instr.makeSlice 61 (.int .i64 200) (.int .i64 200)).run Tryz.prog w=.ok (.slice (some ⟨w.heap.size,0,none⟩) 200 200) (w.alloc (.cells (Array.replicate 200 (.int .u8 0)) 5)):=by
 kernel_rfl
theorem yU (w:World):(convert 61 9 (.slice (some ⟨w.heap.size,0,none⟩) 200 200)).run Tryz.prog (w.alloc (.cells (Array.replicate 200 (.int .u8 0)) 5))=.ok (.string (bs cG)) (w.alloc (.cells (Array.replicate 200 (.int .u8 0)) 5)):=by
 have ho:=ae.new w (Array.replicate 200 (Value.int .u8 0)) 5
 have hb:Lib.Bytes (w.alloc (.cells (Array.replicate 200 (.int .u8 0)) 5)) w.heap.size 0 (bs cG):=by
  intro i hi
  have PD:i<200:=by rw[Nj]at hi;unfold cG at hi;rw[MF]at hi;exact hi
  rw[Nat.zero_add,ho.cell i (by simp;exact PD)]
  have hz:i<cG.length:=by unfold cG;rw[MF];exact PD
  have e0:cG[i]=0:=by unfold cG;exact List.getElem_replicate _
  rw[Array.getElem_replicate]
  refine congrArg some (congrArg (Value.int .u8) ?_)
  show(0:Int)=((cG[i]'hz).toNat:Int)
  rw[e0];rfl
 have h:=Lib.run_convert_whole (P:=Tryz.prog) _ 61 5 9 Tryz.underlying61 Tryz.underlying5 Tryz.underlying9 w.heap.size 0 (bs cG) hb 200
 have e:(bs cG).size=200:=by rw[Nj];exact MF
 rw[e]at h
 exact h
theorem Ja {w:World} {g:Nat} {x:VC} (o:ae w g x.cells 34) (h:x.fits):fj w (.slice (some ⟨g,0,none⟩) 1 1) [x] g (g+1):=by
 refine Or.inr ⟨g,0,1,rfl,fun i hi=>?_,Md _,Nat.lt_succ_self _,o.lt,by simp,Md _,by unfold maxLen;omega⟩
 obtain rfl:i=0:=by simpa using hi
 refine⟨[.int .i64 x.kind,.int .u32 x.id,.string (bs x.name),.string (bs x.bytes)],rfl,⟨rfl,h⟩,fun j u hj=>?_⟩
 have hj4:j<4:=by have:=(MI.1 hj).1;simpa using this
 have h2:=(MI.1 hj).2
 rw[Nat.zero_mul,Nat.zero_add,Nat.zero_add,o.cell j (by simpa[VC.cells]using hj4),<-h2]
 rfl
theorem yk:gj.fits:=⟨by decide,by decide,by unfold maxLen;decide,by show(List.replicate 200 (0:UInt8)).length<=1048576;rw[MF];omega⟩
theorem JH (w:World):Calls Tryz.prog 14 #[] w fun e w'=>e=.returned (.bool true)/\aa [] w w':=by
 have TA:=Ha 12 w (by omega) (by omega)
 have XZ:aF (Pw (List.replicate 12 Nl)):=⟨rfl,by decide,bg.new 12⟩
 have PI:(Pw (List.replicate 12 Nl)).stand.length=12:=MF
 have ho0:(Pw (List.replicate 12 Nl)).ops=0:=rfl
 have hw0:(Pw (List.replicate 12 Nl)).waits=[]:=rfl
 generalize Pw (List.replicate 12 Nl)=d0 at*
 obtain⟨f1,f2,f3⟩:=yc XZ 2 (by omega)
 have Y1:(cz 2 d0).1.ops<=100/\(cz 2 d0).1.waits.length<=100:=by
  have h:=mw 2 [Nq 0 Nl,Nq 1 Nl,Ni,aE (bW d0.stand.length 2)] (fun f hf d=>by
   simp only[List.mem_cons,List.not_mem_nil,or_false]at hf
   rcases hf with rfl|rfl|rfl|rfl
   .have:=gY 0 Nl d;exact⟨by omega,by omega,this.2.2⟩
   .have:=gY 1 Nl d;exact⟨by omega,by omega,this.2.2⟩
   .have:=fO d;exact⟨by omega,by omega,this.2.2⟩
   .exact jQ _ d) d0
  have h1:=h.1
  have h2:=h.2.1
  rw[ho0]at h1
  rw[hw0]at h2
  simp only[Mz,List.length_nil]at h1 h2
  exact⟨by show(cz 2 d0).1.ops<=100;unfold cz;omega,by show(cz 2 d0).1.waits.length<=100;unfold cz;omega⟩
 obtain⟨g1,g2,g3,g4⟩:=Gr f2 (by rw[f3,PI])
 have hold:wL [97] cG (NJ ⟨(cz 2 d0).1,bW 12 2,bI,false⟩ [gj]).1:=zL (nm:=[97]) (data:=cG) (v:=⟨(cz 2 d0).1,bW 12 2,bI,false⟩) f2 rfl rfl (by show(1:Int)<=2;omega) g1
 have SU:=Mb TA
 clear TA
 go_enter Tryz.func14,Tryz.ntmps14
 go_wp2_with fail
 refine SU.out.mono ?_;rintro e w1 ⟨b,sb,mb,lo,rfl,hD,k1,hb,hsb,hmb,hlo⟩
 have T3:=Ag (T:=[]) 2 hD (fun x hx=>by cases hx) (by decide) (by omega) (by rw[hw0];simp)
 have Yu:=Mb T3
 have HD:=Mb hD
 have Pi:=Mb k1
 have OG:Hid (w.heap.size<=b/\w.heap.size<=sb/\w.heap.size<=mb/\w.heap.size<=lo):=Mb ⟨hb,hsb,hmb,hlo⟩
 have Zk:=Mb f1
 have HF2:=Mb f2
 have HF3:=Mb f3
 have HG1:=Mb g1
 have HG2:=Mb g2
 have HG3:=Mb g3
 have HG4:=Mb g4
 have UU:=Mb hold
 have Oa:=Mb PI
 have PY:=Mb Y1
 clear T3 hD k1 hb hsb hmb hlo f1 f2 f3 g1 g2 g3 g4 hold XZ PI ho0 hw0 Y1 SU
 go_wp2_with fail
 refine Yu.out.mono ?_;intro e w2 hs
 rcases hs with⟨h,_⟩|⟨_,hD2,P9,hs⟩
 .exfalso
  rw[Oa.out]at h
  omega
 rcases hs with⟨hc,_⟩|⟨_,B,hBge,ON,N3,rfl⟩
 .exact absurd Zk.out hc
 rw[Oa.out]at N3
 have hV2:ay [B] w2 B b sb mb lo ⟨(cz 2 d0).1,bW 12 2,bI,false⟩:=⟨hD2,⟨_,_,_,_,N3,b8.nil none 0,cO.empty _ _ _ _ _⟩,Mg,fun x hx=>by
  obtain rfl:x=B:=by simpa using hx
  exact N3.lt,ON⟩
 have aam:=GO hV2 (lf (by omega) (by omega) (by omega) (by omega)) lO (by show 0+0+0<=5000;omega)
 have hc8:Oc (Nk ⟨(cz 2 d0).1,bW 12 2,bI,false⟩)=8:=by rw[xr];exact mq 4 8 (by omega) (by omega)
 rw[hc8]at aam
 have adR:=Mb aam
 have HV2:=Mb hV2
 have Rq:=Mb P9
 have HBG:=Mb hBge
 clear hD2 P9 hBge ON N3 hV2 aam hc8
 go_wp2_with fail
 refine adR.out.mono ?_;rintro e w3 ⟨rfl,k3⟩
 have Ro:=Mb k3
 have UC:=rD w3
 have YP:=yU w3
 clear k3
 have k34:aa [] w3 ((w3.alloc (.cells (Array.replicate 200 (.int .u8 0)) 5)).alloc (.cells #[.int .i64 3,.int .u32 0,.string {data:=#[97]},.string (bs cG)] 34)):=((aa.refl _ _).alloc _).alloc _
 have och:ae ((w3.alloc (.cells (Array.replicate 200 (.int .u8 0)) 5)).alloc (.cells #[.int .i64 3,.int .u32 0,.string {data:=#[97]},.string (bs cG)] 34)) (w3.heap.size+1) gj.cells 34:=(cQ w3 _ _ _ _).2
 have hV4:=(HV2.out.aJ Ro.out).aJ k34
 have aca:=qX _ [gj] _ _ hV4 ⟨lf (by omega) (by omega) (by omega) (by omega),lO,by show 0+0+0<=900;omega,by show 1<=900;omega,by show(2:Int)<=30;omega⟩ (Ja och yk) (by simp) (fun x hx=>by
  obtain rfl:=MB.1 hx
  exact yk) (by have:=PY.out.1;show(cz 2 d0).1.ops<=35000;omega) (by have:=PY.out.2;show(cz 2 d0).1.waits.length<=700;omega) (by show(cz 2 d0).1.stand.length<=100;rw[HF3.out,Oa.out];omega)
 have acn:=Mb aca
 have aas:=Mb k34
 clear aca k34 och hV4
 go_wp2_with fail
 refine acn.out.mono ?_;rintro e w5 ⟨rfl,hV5,k5⟩
 rw[HG1.out]
 have PF:=JC (T:=[B]) 0 [97] hV5 UU.out.cat UU.out.dead
 rw[BW UU.out 0]at PF
 unfold wA at PF
 have ace:bs [97]={data:=#[97]}:=rfl
 rw[ace]at PF
 simp only at PF
 have RO:=Mb PF
 have Sb:=Mb k5
 have HV5:=Mb hV5
 clear PF k5 hV5 ace acn
 go_wp2_with fail
 refine RO.out.mono ?_;rintro e w6 ⟨rfl,hV6,k6⟩
 have aah:=GO hV6 HG3.out UU.out.cat (by have:=HG4.out;unfold dj at this;omega)
 rw[HG2.out]at aah
 have O4:(bs cG).size=200:=by rw[Nj];exact MF
 have ac8:=Mb aah
 have Qg:=Mb (HV5.out.LH k6)
 have HB6:=Mb hV6.aQ
 clear aah k6 hV6
 go_wp2_with fail
 refine ac8.out.mono ?_;rintro e w7 ⟨rfl,k7⟩
 have Wp:PK [B] b sb mb w1 w7:=(((Rq.out.mono (T:=[B]) (by simp)).trans ((Ro.out.trans aas.out).bM HV2.out.aQ)).trans Sb.out).trans (Qg.out.trans (k7.bM HB6.out))
 have N6:aa [] w w7:=Pi.out.fe (Wp.kept w.heap.size Pi.out.size (fun x hx=>by
  obtain rfl:x=B:=by simpa using hx
  exact MA Pi.out.size HBG.out) OG.out.1 OG.out.2.1 OG.out.2.2.1 (fun k hk=>MA OG.out.2.2.2 (HD.out.disk.wb hk).1))
 have Ux:=Mb N6
 clear Wp N6 k7
 go_wp2_with fail
 go_ret
 exact⟨rfl,Ux.out⟩
theorem qp (k:Int) (h:(Lit.int .u8 k).wf=true):∃n:Nat,k=n/\n<256:=by
 simp only[Lit.wf,MJ,decide_eq_true_eq]at h
 have h1:0<=k:=h.1
 have h2:k<=255:=h.2
 exact⟨k.toNat,by omega,by omega⟩
end Go.Proofs.YtdkimcnlhmhpgaaGreat

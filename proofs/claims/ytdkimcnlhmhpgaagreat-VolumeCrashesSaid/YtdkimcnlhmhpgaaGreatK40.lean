/- -/
import Derived.Test.YtdkimcnlhmhpgaaGreatK38
set_option maxHeartbeats 16000000
set_option maxRecDepth 100000
set_option linter.unusedVariables false
namespace Go.Proofs.YtdkimcnlhmhpgaaGreat
open Go.RowKit
variable {a b l:List (Int×Int)} {c:aj} {d:DK} {OH jr next:Int} {x:Nf} {most:Nat} {turns:Bool} {r:ag} {P:Nat->Prop} {s t:List UInt8} {o:List ag} {ls:List (List ag)} {w:World}
def bT (l L:List (Int×Int)):Prop:=∃m,(l++m).Perm L
theorem bT.refl (l:List (Int×Int)):bT l l:=⟨[],by simp⟩
theorem bT.trans {c:List (Int×Int)} (h:bT a b) (k:bT b c):bT a c:=by
 obtain⟨m,hm⟩:=h
 obtain⟨n,hn⟩:=k
 exact⟨m++n,by rw[<-Mi];exact(hm.append_right n).trans hn⟩
theorem bT.perm {c:List (Int×Int)} (h:bT a b) (k:b.Perm c):bT a c:=by
 obtain⟨m,hm⟩:=h
 exact⟨m,hm.trans k⟩
theorem bT.append {c d:List (Int×Int)} (h:bT a b) (k:bT c d):bT (a++c) (b++d):=by
 obtain⟨m,hm⟩:=h
 obtain⟨n,hn⟩:=k
 refine⟨m++n,?_⟩
 have e:(a++c++(m++n)).Perm ((a++m)++(c++n)):=by
  rw[Mi,Mi]
  refine List.Perm.append_left a ?_
  rw[<-Mi,<-Mi]
  exact List.Perm.append_right n List.perm_append_comm
 exact e.trans (hm.append hn)
theorem bT.lies {L:List (Int×Int)} (h:bT l L) (k:Oi OH jr L):Oi OH jr l:=by
 obtain⟨m,hm⟩:=h
 have h2:=(tQ hm).2 k
 exact⟨fun a ha=>h2.1 a (List.mem_append_left _ ha),(List.pairwise_append.1 h2.2).1⟩
def eS (l:List Nf):List (Int×Int):=(l.map (·.runs)).flatten
theorem tW (a b:List Nf):eS (a++b)=eS a++eS b:=by unfold eS;rw[Ms,MR]
theorem F5 (x:Nf) (b:List Nf):eS (x::b)=x.runs++eS b:=rfl
theorem rK (c:aj):NN c=eS c.boxes++eS c.mans++eS c.names:=by
 unfold NN N0 eS
 simp only[Ms,MR,List.map_map]
 rfl
theorem uR (a b:List Nf) (x:Nf):(eS (a++x::b)).Perm (eS (a++b)++x.runs):=by
 rw[tW,tW,F5,Mi]
 exact List.Perm.append_left _ List.perm_append_comm
theorem IM (l:List Nf) (x:Nf):bT (eS (P0 l x)) (eS l++x.runs):=by
 have h:=uR (l.take (NP l x)) (l.drop (NP l x)) x
 rw[List.take_append_drop]at h
 exact(bT.refl _).perm h
theorem AA (l:List Nf) (i:Nat):bT (eS (ik l i)) (eS l):=by
 by_cases hi:i<l.length
 .have h:=uR (l.take i) (l.drop (i+1)) l[i]
  have e:l.take i++l[i]::l.drop (i+1)=l:=by rw[<-List.drop_eq_getElem_cons hi,List.take_append_drop]
  rw[e]at h
  exact⟨l[i].runs,h.symm⟩
 .have e:ik l i=l:=by
   unfold ik
   rw[Mk (by omega),List.drop_of_length_le (by omega),Nc]
  rw[e];exact bT.refl _
theorem IK (l:List Nf) (i:Nat) (x:Nf):bT (eS (jd l i x)) (eS l++x.runs):=by
 have h:=uR (l.take i) (l.drop (i+1)) x
 exact((bT.refl _).perm h).trans ((AA l i).append (bT.refl _))
theorem qw {l:List Nf} (h0:(NL l x next most turns).2=0):bT (eS (NL l x next most turns).1) (eS l++x.runs):=by
 unfold NL at h0 ⊢
 split
 .exact IK _ _ _
 .rename_i h1
  rw[if_neg h1]at h0
  split at h0
  .cases h0
  .rename_i h2
   rw[if_neg h2]
   split at h0
   .cases h0
   .rename_i h3
    rw[if_neg h3]
    exact IM _ _
theorem sJ {l:List Nf} (h0:(Of l x).2=0):bT (eS (Of l x).1) (eS l):=by
 unfold Of at h0 ⊢
 split
 .exact AA _ _
 .rename_i h1
  rw[if_neg h1]at h0
  cases h0
theorem Fx {c d:List (Int×Int)}:(a++d++b++c).Perm (a++b++c++d):=by
 rw[Mi,Mi,Mi,Mi]
 refine List.Perm.append_left a ?_
 have:(d++(b++c)).Perm ((b++c)++d):=List.perm_append_comm
 rw[Mi]at this
 exact this
theorem Dq {c d:List (Int×Int)}:(a++(b++d)++c).Perm (a++b++c++d):=by
 rw[Mi,Mi,Mi,Mi]
 refine List.Perm.append_left a (List.Perm.append_left b List.perm_append_comm)
theorem FA (h0:(bE c r).2=0):bT (NN (bE c r).1) (NN c++r.runs):=by
 have hr:r.item.runs=r.runs:=rfl
 rw[rK,rK]
 unfold bE at h0 ⊢
 have Wm:∀l:List (Int×Int),bT l (l++r.runs):=fun l=>⟨r.runs,List.Perm.refl _⟩
 by_cases k1:r.kind=1
 .rw[if_pos k1]at h0 ⊢
  have h:=qw h0
  rw[hr]at h
  exact((h.append (bT.refl (eS c.mans))).append (bT.refl (eS c.names))).perm Fx
 .rw[if_neg k1]at h0 ⊢
  by_cases k2:r.kind=2
  .rw[if_pos k2]at h0 ⊢
   have h:=qw h0
   rw[hr]at h
   exact(((bT.refl (eS c.boxes)).append h).append (bT.refl (eS c.names))).perm Dq
  .rw[if_neg k2]at h0 ⊢
   by_cases k3:r.kind=3
   .rw[if_pos k3]at h0 ⊢
    have h:=qw h0
    rw[hr]at h
    have h2:=(bT.refl (eS c.boxes++eS c.mans)).append h
    rw[<-Mi]at h2
    exact h2
   .rw[if_neg k3]at h0 ⊢
    by_cases k4:r.kind=4
    .rw[if_pos k4]at h0 ⊢
     exact(((sJ h0).append (bT.refl (eS c.mans))).append (bT.refl (eS c.names))).trans (Wm _)
    .rw[if_neg k4]at h0 ⊢
     by_cases k5:r.kind=5
     .rw[if_pos k5]at h0 ⊢
      exact(((bT.refl (eS c.boxes)).append (sJ h0)).append (bT.refl (eS c.names))).trans (Wm _)
     .rw[if_neg k5]at h0 ⊢
      exact((bT.refl (eS c.boxes++eS c.mans)).append (sJ h0)).trans (Wm _)
theorem vB:∀(l:List ag) {c:aj},(b9 c l).2=0->bT (NN (b9 c l).1) (NN c++(l.map (·.runs)).flatten)
 |[],c,_=>⟨[],by simp[b9]⟩
 |r::l,c,h0=>by
  unfold b9 at h0 ⊢
  by_cases h1:az r=true
  .rw[if_pos h1]at h0 ⊢
   by_cases h2:(bE c r).2=0
   .rw[if_pos h2]at h0 ⊢
    have h3:=(vB l h0).trans ((FA h2).append (bT.refl (l.map (·.runs)).flatten))
    rw[Mi]at h3
    exact h3
   .rw[if_neg h2]at h0;exact absurd h0 h2
  .rw[if_neg h1]at h0;cases h0
def iJ (c:aj):Prop:=(Lit.int .u32 c.nextBox).wf=true/\(Lit.int .u32 c.nextMan).wf=true/\(∀a∈c.boxes,a.fits)/\(∀a∈c.mans,a.fits)/\∀a∈c.names,a.fits
theorem sQ :jf c↔iJ c:=by
 constructor
 .rintro⟨h1,h2,h3⟩
  refine⟨h1,h2,fun a ha=>?_,fun a ha=>?_,fun a ha=>?_⟩
  .exact(h3 (a.told 1) (by unfold N0;simp only[Mj,MV];exact Or.inl (Or.inl ⟨a,ha,rfl⟩))).2
  .exact(h3 (a.told 2) (by unfold N0;simp only[Mj,MV];exact Or.inl (Or.inr ⟨a,ha,rfl⟩))).2
  .exact(h3 (a.told 3) (by unfold N0;simp only[Mj,MV];exact Or.inr ⟨a,ha,rfl⟩)).2
 .rintro⟨h1,h2,h3,h4,h5⟩
  refine⟨h1,h2,fun r hr=>?_⟩
  unfold N0 at hr
  simp only[Mj,MV]at hr
  rcases hr with(⟨a,ha,rfl⟩|⟨a,ha,rfl⟩)|⟨a,ha,rfl⟩
  .exact Nf.gB (h3 a ha) (by decide)
  .exact Nf.gB (h4 a ha) (by decide)
  .exact Nf.gB (h5 a ha) (by decide)
theorem mU {l:List Nf} (h0:(NL l x next most turns).2=0):∀a∈(NL l x next most turns).1,a=x\/a∈l:=by
 unfold NL at h0 ⊢
 split
 .exact fun a ha=>sD ha
 .rename_i h1
  rw[if_neg h1]at h0
  split at h0
  .cases h0
  .rename_i h2
   rw[if_neg h2]
   split at h0
   .cases h0
   .rename_i h3
    rw[if_neg h3]
    exact fun a ha=>sE ha
theorem oI {l:List Nf} (h0:(Of l x).2=0):∀a∈(Of l x).1,a∈l:=by
 unfold Of at h0 ⊢
 split
 .exact fun a ha=>sF ha
 .rename_i h1
  rw[if_neg h1]at h0
  cases h0
theorem IA (hc:iJ c) (hr:az r=true) (hf:r.fits) (h0:(bE c r).2=0):iJ (bE c r).1:=by
 obtain⟨h1,h2,h3,h4,h5⟩:=hc
 have hi:=lM hr
 have hx:=ag.jk hf
 have hid:0<=r.id:=(bP hf.2.1).1
 unfold bE at h0 ⊢
 by_cases k1:r.kind=1
 .rw[if_pos k1]at h0 ⊢
  refine⟨jc (by show 0<=r.id+1;omega) (by show r.id+1<=_;omega),h2,fun a ha=>?_,h4,h5⟩
  rcases mU h0 a ha with rfl|ha
  .exact hx
  .exact h3 a ha
 .rw[if_neg k1]at h0 ⊢
  by_cases k2:r.kind=2
  .rw[if_pos k2]at h0 ⊢
   have hb:=bP h2
   refine⟨h1,jc (by show 0<=max c.nextMan (r.id+1);omega) (by show max c.nextMan (r.id+1)<=_;omega),h3,fun a ha=>?_,h5⟩
   rcases mU h0 a ha with rfl|ha
   .exact hx
   .exact h4 a ha
  .rw[if_neg k2]at h0 ⊢
   by_cases k3:r.kind=3
   .rw[if_pos k3]at h0 ⊢
    refine⟨h1,h2,h3,h4,fun a ha=>?_⟩
    rcases mU h0 a ha with rfl|ha
    .exact hx
    .exact h5 a ha
   .rw[if_neg k3]at h0 ⊢
    by_cases k4:r.kind=4
    .rw[if_pos k4]at h0 ⊢
     exact⟨h1,h2,fun a ha=>h3 a (oI h0 a ha),h4,h5⟩
    .rw[if_neg k4]at h0 ⊢
     by_cases k5:r.kind=5
     .rw[if_pos k5]at h0 ⊢
      exact⟨h1,h2,h3,fun a ha=>h4 a (oI h0 a ha),h5⟩
     .rw[if_neg k5]at h0 ⊢
      exact⟨h1,h2,h3,h4,fun a ha=>h5 a (oI h0 a ha)⟩
theorem sh:∀(l:List ag) {c:aj},iJ c->(∀r∈l,r.fits)->(b9 c l).2=0->iJ (b9 c l).1
 |[],c,h,_,_=>h
 |r::l,c,h,hf,h0=>by
  unfold b9 at h0 ⊢
  by_cases h1:az r=true
  .rw[if_pos h1]at h0 ⊢
   by_cases h2:(bE c r).2=0
   .rw[if_pos h2]at h0 ⊢
    exact sh l (IA h h1 (hf r (by simp)) h2) (fun q hq=>hf q (by simp[hq])) h0
   .rw[if_neg h2]at h0;exact absurd h0 h2
  .rw[if_neg h1]at h0;cases h0
theorem nZ (left:List (Int×Int)) (l:List VC) (h:∀x∈l,x.fits):∀j,j<=l.length->∀r∈(Ng left l j).1,r.fits
 |0,_,r,hr=>by simp[Ng]at hr
 |j+1,hj,r,hr=>by
  rw[eE left l j (by omega)]at hr
  have hx:=h l[j] (Mh _)
  unfold iY at hr
  split at hr
  .rcases Mj.1 hr with hr|hr
   .exact nZ left l h j (by omega) r hr
   .obtain rfl:=MB.1 hr
    exact⟨hx.1,hx.2.1,hx.2.2.1,ti (by have:=hx.2.2.2;omega)⟩
  .rcases Mj.1 hr with hr|hr
   .exact nZ left l h j (by omega) r hr
   .obtain rfl:=MB.1 hr
    exact si hx
theorem Lw {a b:Int×Int} (ha:1<=a.2/\0<=a.1) (hb:1<=b.2/\0<=b.1) (h:∀k:Nat,a.1<=(k:Int)/\(k:Int)<a.1+a.2->b.1<=(k:Int)/\(k:Int)<b.1+b.2->False):qV a b:=by
 rintro⟨h1,h2⟩
 rcases Int.le_total a.1 b.1 with h3|h3
 .exact h b.1.toNat (by omega) (by omega)
 .exact h a.1.toNat (by omega) (by omega)
theorem xD:∀{a:Int} {l:List (Int×Int)},Pl a l->l.Pairwise qV
 |_,[],_=>List.Pairwise.nil
 |a,r::t,h=>by
  refine List.pairwise_cons.2 ⟨fun x hx=>?_,xD h.2.2.2⟩
  have:=h.2.2.2.mem hx
  unfold qV
  omega
structure gW (P:Nat->Prop) (l:List (Int×Int)):Prop where
 run:∀a∈l,1<=a.2/\0<=a.1
 apart:l.Pairwise qV
 sect:∀k:Nat,aC l k=true->P k
theorem gW.nil (P:Nat->Prop):gW P []:=⟨fun a ha=>(by cases ha),List.Pairwise.nil,fun k hk=>(by simp[aC]at hk)⟩
theorem gW.GW (h:Pl 0 l) (hP:∀k:Nat,aC l k=true->P k):gW P l:=⟨fun a ha=>⟨(h.mem ha).2.1,(h.mem ha).1⟩,xD h,hP⟩
theorem gW.append {Q R:Nat->Prop} {m:List (Int×Int)} (h:gW P l) (k:gW Q m) (hPQ:∀i,P i->Q i->False) (hP:∀i,P i->R i) (hQ:∀i,Q i->R i):gW R (l++m):=by
 refine⟨fun a ha=>?_,List.pairwise_append.2 ⟨h.apart,k.apart,fun a ha b hb=>?_⟩,fun i hi=>?_⟩
 .rcases Mj.1 ha with ha|ha
  .exact h.run a ha
  .exact k.run a ha
 .exact Lw (h.run a ha) (k.run b hb) (fun i hi hj=>hPQ i (h.sect i (bF.2 ⟨a,ha,hi⟩)) (k.sect i (bF.2 ⟨b,hb,hj⟩)))
 .rw[fp,Bool.or_eq_true]at hi
  rcases hi with hi|hi
  .exact hP i (h.sect i hi)
  .exact hQ i (k.sect i hi)
theorem gW.lies (h:gW P l) (hj:0<=jr) (hP:∀k,P k->2+jr<=(k:Int)/\(k:Int)<OH):Oi OH jr l:=by
 refine⟨fun a ha=>?_,h.apart⟩
 obtain⟨h1,h2⟩:=h.run a ha
 have h3:=hP _ (h.sect a.1.toNat (bF.2 ⟨a,ha,by omega,by omega⟩))
 have h4:=hP _ (h.sect (a.1+a.2-1).toNat (bF.2 ⟨a,ha,by omega,by omega⟩))
 unfold mB
 omega
theorem vU (h:Oi OH jr l) (hj:0<=jr):gW (fun k=>aC l k=true/\2+jr<=(k:Int)/\(k:Int)<OH) l:=by
 refine⟨fun a ha=>?_,h.2,fun k hk=>⟨hk,?_⟩⟩
 .have:=h.1 a ha;unfold mB at this;omega
 .obtain⟨a,ha,h1,h2⟩:=bF.1 hk
  have:=h.1 a ha
  unfold mB at this
  omega
theorem vF (left:List (Int×Int)) (l:List VC):∀j,j<=l.length->gW (fun k=>aC left k=true/\aC (Ng left l j).2 k=false) (((Ng left l j).1.map (·.runs)).flatten)
 |0,_=>gW.nil _
 |j+1,hj=>by
  have ih:=vF left l j (by omega)
  rw[eE left l j (by omega)]
  unfold iY
  split
  .simp only
   rw[Ms,MR]
   obtain⟨R,hR⟩:∃R,Np (Ng left l j).2 (Nv l[j].bytes.length)=R:=⟨_,rfl⟩
   have hRp:Pl 0 R:=by rw[<-hR];exact fR _ _
   have Yv:∀k,aC R k=true->aC (Ng left l j).2 k=true:=fun k hk=>by rw[<-hR]at hk;exact ix hk
   rw[hR]
   have h2:gW (fun k=>aC R k=true) ([(⟨l[j].kind,l[j].id,l[j].name,l[j].bytes.length,R⟩:ag)].map (·.runs)).flatten:=by
    show gW _ (R++[])
    rw[Nc]
    exact gW.GW hRp (fun k hk=>hk)
   refine ih.append h2 (fun i h3 h4=>?_) (fun i h3=>⟨h3.1,?_⟩) (fun i h3=>⟨eK left l j (by omega) i (Yv i h3),?_⟩)
   .rw[Yv i h4]at h3;cases h3.2
   .cases e:aC (Oz (Ng left l j).2 R) i with
    |false=>rfl
    |true=>rw[(kc e).1]at h3;cases h3.2
   .cases e:aC (Oz (Ng left l j).2 R) i with
    |false=>rfl
    |true=>have:=(kc e).2.1;rw[h3]at this;cases this
  .simp only
   rw[Ms,MR]
   have e:([l[j].told].map (·.runs)).flatten=([]:List (Int×Int)):=rfl
   rw[e,Nc]
   exact ih
theorem sI {v:VS} (hL:Oi v.s.sectors v.s.journal (NN v.c++v.s.runs)) (hj:0<=v.s.journal) (l:List VC) {c':aj} (hc:bT (NN c') (NN v.c++((Ng (Nk v) l l.length).1.map (·.runs)).flatten)):
  Oi v.s.sectors v.s.journal (NN c'++v.s.runs)/\∀R,Pl 0 R->(∀k,aC R k=true->aC (Ng (Nk v) l l.length).2 k=true)->Oi v.s.sectors v.s.journal (NN c'++R):=by
 have h1:=vU hL hj
 have h2:=vF (Nk v) l l.length (Md _)
 have Pd:∀k,aC (Nk v) k=true->2+v.s.journal<=(k:Int)/\(k:Int)<v.s.sectors/\aC (NN v.c++v.s.runs) k=false:=fun k hk=>by
  obtain⟨a,b,c,d⟩:=dI hk
  exact⟨a,b,by rw[fp,c,d];rfl⟩
 constructor
 .have h3:=h1.append (R:=fun k=>2+v.s.journal<=(k:Int)/\(k:Int)<v.s.sectors) h2 (fun i h4 h5=>by rw[(Pd i h5.1).2.2]at h4;cases h4.1) (fun i h4=>h4.2) (fun i h4=>⟨(Pd i h4.1).1,(Pd i h4.1).2.1⟩)
  have h4:=h3.lies hj (fun k hk=>hk)
  refine bT.lies ?_ h4
  refine((hc.append (bT.refl v.s.runs))).perm ?_
  rw[Mi,Mi]
  exact List.Perm.append_left _ List.perm_append_comm
 .intro R hR Yv
  have hC:gW (fun k=>aC (NN v.c++v.s.runs) k=true/\2+v.s.journal<=(k:Int)/\(k:Int)<v.s.sectors) (NN v.c):=
   ⟨fun a ha=>h1.run a (List.mem_append_left _ ha),(List.pairwise_append.1 h1.apart).1,fun k hk=>h1.sect k (by rw[fp,hk];rfl)⟩
  have h3:=hC.append (R:=fun k=>2+v.s.journal<=(k:Int)/\(k:Int)<v.s.sectors/\aC (Ng (Nk v) l l.length).2 k=false) h2 (fun i h4 h5=>by rw[(Pd i h5.1).2.2]at h4;cases h4.1) (fun i h4=>⟨h4.2.1,h4.2.2,by
   cases e:aC (Ng (Nk v) l l.length).2 i with
   |false=>rfl
   |true=>rw[(Pd i (eK _ _ _ (Md _) i e)).2.2]at h4;cases h4.1⟩) (fun i h4=>⟨(Pd i h4.1).1,(Pd i h4.1).2.1,h4.2⟩)
  have h5:=h3.append (R:=fun k=>2+v.s.journal<=(k:Int)/\(k:Int)<v.s.sectors) (gW.GW hR Yv) (fun i h6 h7=>by rw[h7]at h6;cases h6.2.2) (fun i h6=>⟨h6.1,h6.2.1⟩) (fun i h6=>by
   have:=Pd i (eK _ _ _ (Md _) i h6)
   exact⟨this.1,this.2.1⟩)
  exact bT.lies (hc.append (bT.refl R)) (h5.lies hj (fun k hk=>hk))
theorem tl {n:Nat} {l:List UInt8} {x:Int} (h:(NS (n:Int) l x).2.2=0) (B:List UInt8):NS (n:Int) (l++B) x=((NS (n:Int) l x).1,(NS (n:Int) l x).2.1++B,0):=by
 obtain⟨h1,h2,h3⟩:=jL h
 unfold NS at h ⊢
 subst h1
 rw[if_neg (by simp)]at h ⊢
 split at h
 .cases h
 .rename_i a
  split at h
  .cases h
  .rename_i b
   rw[if_neg a,if_neg (by rw[Mc];omega),if_neg (by simp),if_neg a,if_neg b]
   have hl:(n:Int).toNat<=l.length:=by omega
   simp only
   rw[MS hl,List.drop_append_of_le_length hl]
theorem vN {k:Nat} {l:List UInt8} {x:Int} (h:(Ny k l x).2.2=0) (B:List UInt8):Ny k (l++B) x=((Ny k l x).1,(Ny k l x).2.1++B,0):=by
 have h':(NS (k:Int) l x).2.2=0:=h
 unfold Ny
 rw[tl h' B]
theorem EM {r:List UInt8} (h:gq s=some (o,r)) (B:List UInt8):gq (s++B)=some (o,r++B):=by
 unfold gq at h
 split at h
 .cases h
 .rename_i o' hb
  split at h
  .rename_i hc
   injection h with h
   injection h with e1 e2
   have hbR:bR s=NS (aR s).1 (cR s).2.1 (cR s).2.2:=rfl
   have h1:(NS (aR s).1 (cR s).2.1 (cR s).2.2).2.2=0:=hc.1
   obtain⟨h2,_,_⟩:=jL h1
   have h3:(Ny 4 (aR s).2.1 (aR s).2.2).2.2=0:=h2
   obtain⟨h4,_⟩:=jj h3
   have h5:(Ny 4 s 0).2.2=0:=h4
   have hA:aR (s++B)=((aR s).1,(aR s).2.1++B,(aR s).2.2):=by
    have:=vN h5 B
    unfold aR
    rw[this]
    exact congrArg (fun z=>((Ny 4 s 0).1,(Ny 4 s 0).2.1++B,z)) h5.symm
   have hC:cR (s++B)=((cR s).1,(cR s).2.1++B,(cR s).2.2):=by
    have:=vN h3 B
    unfold cR
    rw[hA]
    simp only
    rw[this]
    exact congrArg (fun z=>((Ny 4 (aR s).2.1 (aR s).2.2).1,(Ny 4 (aR s).2.1 (aR s).2.2).2.1++B,z)) h3.symm
   have hB:bR (s++B)=((bR s).1,(bR s).2.1++B,(bR s).2.2):=by
    have:=tl h1 B
    unfold bR
    rw[hA,hC]
    simp only
    rw[this]
    exact congrArg (fun z=>((NS (aR s).1 (cR s).2.1 (cR s).2.2).1,(NS (aR s).1 (cR s).2.1 (cR s).2.2).2.1++B,z)) h1.symm
   have hy:=uI (s:=s++B) (o:=o') (by rw[hB];exact hb) (by rw[hB];exact hc.1) (by rw[hB,hC];exact hc.2)
   rw[hy,hB,e1]
   simp only
   rw[e2]
  .cases h
theorem xy (n:Nat):∀{A:List UInt8} {ls:List (List ag)},A.length<=n->N9 A=some ls->∀{B:List UInt8} {ms:List (List ag)},N9 B=some ms->N9 (A++B)=some (ls++ms):=by
 induction n with
 |zero=>
  intro A ls hA h B ms hB
  have:A=[]:=Mt (by omega)
  subst this
  rw[qd]at h
  injection h with h
  subst h
  exact hB
 |succ n ih=>
  intro A ls hA h B ms hB
  by_cases h0:A=[]
  .subst h0
   rw[qd]at h
   injection h with h
   subst h
   exact hB
  .cases ht:gq A with
   |none=>rw[tB h0 ht]at h;cases h
   |some p=>
    obtain⟨o,r⟩:=p
    rw[kG h0 ht]at h
    have hl:=nM ht
    cases hr:N9 r with
    |none=>rw[hr]at h;cases h
    |some ls'=>
     rw[hr]at h
     injection h with h
     subst h
     rw[kG (by simp[h0]) (EM ht B),ih (by omega) hr hB]
     rfl
theorem Li (h:je s=some (r,t)):r.fits/\t.length+5<=s.length:=by
 have h0:=h
 unfold je at h
 split at h
 .rename_i hh
  injection h with h
  injection h with h1 h2
  subst h1 h2
  refine⟨vL _ _,?_⟩
  have hk:=sG hh.2
  have hm:=hh.2
  have l5:(eL (nR s).1 s).2.1.length<=(nR s).2.1.length:=vZ _ _ _
  have l4:(nR s).2.1.length<=(zR s).2.1.length:=AI _ _ _
  have l3:(zR s).2.1.length<=(tR s).2.1.length:=AF _ _ _
  have l2:(tR s).2.1.length<=(iR s).2.1.length:=AG _ _ _
  have l1:(iR s).2.1.length<=(PP s).2.1.length:=AH _ _ _
  have ek:(eL (nR s).1 s).1.kind=((PP s).1:Int):=rfl
  have ei:(eL (nR s).1 s).1.id=((iR s).1:Int):=rfl
  have en:(eL (nR s).1 s).1.name=(tR s).1:=rfl
  rw[ek]at hk
  have k0:(PP s).1≠0:=by omega
  have e0:=jj (lJ (k:=1) (l:=s) (x:=0) k0)
  have e0':(PP s).2.1.length+1=s.length:=e0.2
  unfold az aA at hm
  simp only[MJ,Bool.or_eq_true,decide_eq_true_eq,beq_iff_eq]at hm
  obtain⟨m1,m2,m3,m4,_⟩:=hm
  rw[ek,ei]at m2
  rw[ek,en]at m4
  rw[ek]at m1
  rcases m1 with m1|m1
  .rw[m1]at m2
   exact M52
  .rw[m1]at m4
   have hn:(tR s).1≠[]:=by
    intro e;rw[e]at m4;cases m4
   have eT:tR s=gk (iR s).2.1 (iR s).2.2:=by unfold tR vO;rw[m1];rfl
   have eT2:gk (iR s).2.1 (iR s).2.2=NS ((OO 65536 (iR s).2.1 (iR s).2.2).1:Int) (OO 65536 (iR s).2.1 (iR s).2.2).2.1 (OO 65536 (iR s).2.1 (iR s).2.2).2.2:=rfl
   have h0:(NS ((OO 65536 (iR s).2.1 (iR s).2.2).1:Int) (OO 65536 (iR s).2.1 (iR s).2.2).2.1 (OO 65536 (iR s).2.1 (iR s).2.2).2.2).2.2=0:=by
    exact M54
   obtain⟨q1,q2,q3⟩:=jL h0
   have q4:=congrArg List.length q3
   rw[Mc,<-eT2,<-eT]at q4
   have q6:0<(tR s).1.length:=MH.2 hn
   have q5:(OO 65536 (iR s).2.1 (iR s).2.2).2.1.length+4=(iR s).2.1.length:=by
    unfold OO at q1 ⊢
    simp only at q1 ⊢
    split at q1
    .rename_i hb
     exfalso
     unfold nt at q1
     simp only at q1
     split at q1<;>omega
    .rename_i hb
     rw[if_neg hb]
     exact(jj q1).2
   omega
 .cases h
theorem DX:∀(n:Nat) {s t:List UInt8} {o:List ag},eC n s=some (o,t)->(∀r∈o,r.fits)/\t.length+5*n<=s.length/\o.length=n
 |0,s,t,o,h=>by
  exact M87
 |n+1,s,t,o,h=>by
  rw[eC]at h
  split at h
  .cases h
  .rename_i o' r' he
   obtain⟨i1,i2,i3⟩:=DX n he
   split at h
   .cases h
   .rename_i x t' hx
    injection h with h
    injection h with h1 h2
    subst h1 h2
    obtain⟨j1,j2⟩:=Li hx
    exact M63
theorem Ke (h:fF s=some o):(∀r∈o,r.fits)/\5*o.length<=s.length:=by
 unfold fF at h
 split at h
 .split at h
  .rename_i o' he
   injection h with h
   subst h
   obtain⟨i1,i2,i3⟩:=DX _ he
   have:=ig 2 s 0
   exact⟨i1,by omega⟩
  .cases h
 .cases h
theorem LW (h:gq s=some (o,t)):(∀r∈o,r.fits)/\5*o.length+t.length<=s.length:=by
 unfold gq at h
 split at h
 .cases h
 .rename_i o' hb
  split at h
  .rename_i hc
   injection h with h
   injection h with h1 h2
   subst h1 h2
   obtain⟨i1,i2⟩:=Ke hb
   have:=(nE hc.1).2
   exact⟨i1,by omega⟩
  .cases h
theorem AE:∀(f:Nat) {s:List UInt8} {ls:List (List ag)},fC f s=some ls->(∀l∈ls,∀r∈l,r.fits)/\5*ls.flatten.length<=s.length
 |0,s,ls,h=>by
  rw[fC]at h
  split at h
  .injection h with h;subst h;exact⟨fun l hl=>(by cases hl),by simp⟩
  .cases h
 |f+1,s,ls,h=>by
  rw[fC]at h
  split at h
  .injection h with h;subst h;exact⟨fun l hl=>(by cases hl),by simp⟩
  .cases ht:gq s with
   |none=>rw[ht]at h;cases h
   |some p=>
    rw[ht]at h
    simp only[Option.bind_some]at h
    cases hr:fC f p.2 with
    |none=>rw[hr]at h;cases h
    |some ms=>
     rw[hr]at h
     simp only[Option.map_some]at h
     injection h with h
     subst h
     obtain⟨j1,j2⟩:=LW (t:=p.2) ht
     obtain⟨i1,i2⟩:=AE f hr
     refine⟨fun l hl=>?_,by rw[List.flatten_cons,Mc];omega⟩
     rcases List.mem_cons.1 hl with rfl|hl
     .exact j1
     .exact i1 l hl
theorem ua (h:N9 s=some ls):(∀l∈ls,∀r∈l,r.fits)/\5*ls.flatten.length<=s.length:=AE _ h
theorem wh {f:Nat->Bool} {n:Nat} (h:∀k,n<=k->f k=false):∀m,cA f m<=n
 |0=>Mu _
 |m+1=>by
  have ih:=wh h m
  by_cases hm:n<=m
  .unfold cA;rw[h m hm];simpa using ih
  .have:cA f (m+1)<=m+1:=I8 f (m+1)
   omega
theorem xZ (hf:bg d) (l:List (Int×Int)) (n:Int):(Ov d l n).length<=128*d.stand.length:=by
 unfold Ov
 split
 .rename_i h0
  have hX:dA l d.stand.length n:=by
   exact M65
  have h1:=sO hf (al:=Nu l) (fun a ha=>by have:=(hX.lt ha).1;omega)
  have h2:Oc l<=d.stand.length:=wh (fun k hk=>by
   cases e:aC l k with
   |false=>rfl
   |true=>
    obtain⟨a,ha,g1,g2⟩:=bF.1 e
    have h3:=hX.2.2.1.1 a ha
    unfold iG at h3
    omega) 8192
  have h3:=hX.Bf
  have h4:=hX.2.2.2
  rw[Mp,h1]
  omega
 .simp
theorem vT (hf:bg d) (j u:Int):(Oh d j u).length<=128*d.stand.length:=by
 unfold Oh
 split
 .rename_i h0
  unfold NC at h0
  split at h0
  .cases h0
  .rename_i Qz
   have Qz:aN d.stand.length j u=0:=by simpa using Qz
   obtain⟨f1,f2,f3,f4⟩:=gN Qz
   rw[Mp]
   omega
 .simp
theorem Jb (h:jB t=some c):5*dj c<=t.length:=by
 obtain⟨h1,h2,h3⟩:=uw h
 have h4:=(ua (ku h1 h2)).2
 rw[sH,il]at h4
 have h5:(dz c).length=12+(tm c).length+4:=by
  unfold dz eR
  rw[yo,Mc,Mc,qx,aq]
 rw[h3]at h5
 unfold dj
 omega
theorem nT:∀(ls:List (List ag)) {c c':aj},aM c->iJ c->(∀l∈ls,∀r∈l,r.fits)->cp c ls=some c'->aM c'/\iJ c'/\dj c'<=dj c+ls.flatten.length
 |[],c,c',hm,hf,_,h=>by
  injection h with h
  subst h
  exact⟨hm,hf,by simp⟩
 |l::ls,c,c',hm,hf,hl,h=>by
  unfold cp at h
  split at h
  .rename_i h0
   have Pq:Nn c l=b9 c l:=by unfold Nn;rw[if_pos hm]
   have Rl:=qO l c
   rw[Pq]at h h0 Rl
   have T8:=hl l (by simp)
   obtain⟨g1,g2,g3⟩:=nT ls (lC hm (fun r hr=>(bP (T8 r hr).2.1).1) h0) (sh l hf T8 h0) (fun m hm=>hl m (by simp[hm])) h
   refine⟨g1,g2,?_⟩
   rw[List.flatten_cons,Mc]
   omega
  .cases h
theorem D6:iJ bI:=⟨by decide,by decide,fun a ha=>(by cases ha),fun a ha=>(by cases ha),fun a ha=>(by cases ha)⟩
theorem yq (hf:bg d) {s:SB} (h:OV d s=some c):aM c/\iJ c/\5*dj c<=128*d.stand.length:=by
 unfold OV at h
 split at h
 .injection h with h
  subst h
  exact⟨lO,D6,by show 5*(0+0+0)<=_;omega⟩
 .split at h
  .obtain⟨h1,h2,h3⟩:=uw h
   have h4:=Jb h
   have h5:=xZ hf s.runs s.size
   exact⟨h1,sQ.1 h2,by omega⟩
  .cases h
theorem zc (hf:bg d) {s:SB} (h:ez d s c):s.may/\s.seq<18446744073709551616/\aM c/\iJ c/\5*dj c<=256*d.stand.length:=by
 obtain⟨m1,m2,_⟩:=qj h.pick
 obtain⟨c0,ls,h1,h2,h3,h4⟩:=h.stood
 obtain⟨b1,b2,b3⟩:=yq hf h1
 obtain⟨r1,r2⟩:=ua h3
 obtain⟨g1,g2,g3⟩:=nT ls b1 b2 r1 h4
 have:=vT hf s.journal s.used
 exact⟨m1,m2,g1,g2,by omega⟩
def mG (d:DK) (s:SB) (w:World) (e:Ending) (w':World):Prop:=
 ((∃c v,OV d s=some c/\aw (fun x=>x<w.heap.size) w' v c/\e=.returned (.tuple #[v,.int .i64 0]))\/(OV d s=none/\∃C:Int,(C==0)=false/\e=.returned (.tuple #[.agg #[.int .u32 0,.int .u32 0,.slice none 0 0,.slice none 0 0,.slice none 0 0],.int .i64 C])))/\aa [] w w'
theorem zQ (d:DK) (l:List (Int×Int)) (n:Int):Nr d l n=0\/Nr d l n=90\/Nr d l n=1:=by
 unfold Nr
 split
 .split
  .exact Or.inr (Or.inl rfl)
  .exact Or.inl rfl
 .exact Or.inr (Or.inr rfl)
theorem Di (h:N9 t=some ls) (hl:t.length<=s.length) (hs:s.length<=15000):∀l∈ls,l.length<=3000:=fun l QZ=>by
 have h1:=(ua h).2
 have h2:l.length<=ls.flatten.length:=by
  obtain⟨a,b,rfl⟩:=List.append_of_mem QZ
  rw[MR,Mc,List.flatten_cons,Mc]
  omega
 omega
theorem Fz {l:List UInt8} (h:fh l=some t):t.length<=l.length:=by
 unfold fh at h
 split at h
 .injection h with h
  subst h
  rw[Mp];omega
 .cases h
theorem Hi (s:List UInt8) (w:World) (hs:s.length<=15000):Calls Tryz.prog 193 #[.string (bs s)] w (jV s w):=
 LO s w (by omega) (fun t ls ho hr=>Di (s:=s) hr (by have:=Fz ho;rw[Mq];omega) hs)
theorem JG {b sb mb lo:Nat} (hD:DA w b sb mb lo d) (hn:d.stand.length<=100) (s:SB) (v:Value) (OD On:Nat) (hr:af w v s.runs OD On) (hm:s.may):
  Calls Tryz.prog 122 #[.pointer (some ⟨b,0,none⟩),.agg (s.cells v)] w (mG d s w):=by
 have Xe:=Bg hm
 have Xh:=hm.1
 unfold SB.eF at Xh
 have adp:Hid (∀W,aa [] w W->Calls Tryz.prog 60 #[.pointer (some ⟨b,0,none⟩),v,.int .i64 s.size] W fun e w'=>e=.returned (.tuple #[.string (bs (Ov d s.runs s.size)),.int .i64 (Nr d s.runs s.size)])/\aa [] W w'):=Mb (fun W k=>ux v s.runs s.size OD On (hD.aJ k) (hr.kept0 k) (by omega) Xe (ly (by omega) (by omega)))
 have Qr:=xZ hD.fit s.runs s.size
 have Qw:Hid (∀W,Calls Tryz.prog 193 #[.string (bs (Ov d s.runs s.size))] W (jV (Ov d s.runs s.size) W)):=Mb (fun W=>Hi _ W (by omega))
 unfold jV at Qw
 have Ua:Hid (s.size=0->OV d s=some bI):=Mb (fun h=>by unfold OV;rw[if_pos h])
 have HB2:Hid (s.size≠0->Nr d s.runs s.size≠0->OV d s=none):=Mb (fun h g=>by unfold OV;rw[if_neg h,if_neg g])
 have HB3:Hid (s.size≠0->Nr d s.runs s.size=0->OV d s=jB (Ov d s.runs s.size)):=Mb (fun h g=>by unfold OV;rw[if_neg h,if_pos g])
 have HEM:Hid (∀W,Calls Tryz.prog 41 #[] W fun e w'=>e=.returned (.agg #[.int .u32 1,.int .u32 1,.slice none 0 0,.slice none 0 0,.slice none 0 0])/\aa [] W w'):=Mb (fun W=>CD W)
 have TZ:=zQ d s.runs s.size
 obtain⟨pr,cr,rfl⟩:=hr.shape
 unfold mG
 generalize OV d s=BX at*
 generalize Ov d s.runs s.size=X at*
 generalize Nr d s.runs s.size=G at*
 have VE:=Mb TZ
 obtain⟨sq,se,jr,us,sz,rs⟩:=s
 simp only at*
 obtain⟨o0,o1⟩:=cQ w #[.int .u64 sq,.int .i64 se,.int .i64 jr,.int .i64 us,.int .i64 sz,.slice pr rs.length cr] #[.int .u32 0,.int .u32 0,.slice none 0 0,.slice none 0 0,.slice none 0 0] 58 52
 have OY:=((aa.refl [] w).alloc (.cells #[.int .u64 sq,.int .i64 se,.int .i64 jr,.int .i64 us,.int .i64 sz,.slice pr rs.length cr] 58)).alloc (.cells #[.int .u32 0,.int .u32 0,.slice none 0 0,.slice none 0 0,.slice none 0 0] 52)
 clear Xe Xh hr Qr TZ hD hn
 simp only[SB.cells]
 go_enter Tryz.func122,Tryz.ntmps122
 obtain⟨x0,x1,x2,x3,x4,x5⟩:=o0.c6
 have O0:=Mb o0
 have O1:=Mb o1
 have K1:=Mb OY
 clear o0 o1 OY
 by_cases hz:sz=0
 .have hzz:(sz==0)=true:=by rw[hz];rfl
  have Q0:=Mb (Ua.out hz)
  clear hz
  go_wp2_with fail
  refine(HEM.out _).mono ?_;rintro e w2 ⟨rfl,k2⟩
  have VM:=Mb (k2.own O1.out (by simp))
  have K2:=Mb (K1.out.trans k2)
  obtain⟨y0,y1,y2,y3,y4⟩:=VM.out.k5
  obtain⟨g0,g1,g2,g3,g4⟩:=VM.out.y5
  clear k2 x0 x1 x2 x3 x4 x5
  go_wp2_with fail
  refine Mx (v:=.tuple #[.agg #[.int .u32 1,.int .u32 1,.slice none 0 0,.slice none 0 0,.slice none 0 0],.int .i64 0]) (ak Tryz.results122 rfl rfl (t:=52) ?_ Tryz.underlying52 rfl (by kernel_rfl)) rfl ?_
  .exact VM.out.de _ _ _ _ _
  .exact⟨Or.inl ⟨bI,_,Q0.out,⟨_,_,_,rfl,ax.nil _ _,ax.nil _ _,ax.nil _ _,by decide,by decide⟩,rfl⟩,aa.bj K2.out (Or.inr (by omega)) _ _ _ _ _⟩
 .have hzz:(sz==0)=false:=by simpa using hz
  have HZ:=Mb hz
  clear hz
  go_wp2_with fail
  refine(adp.out _ K1.out).mono ?_;rintro e w2 ⟨rfl,k2⟩
  have O02:=Mb (k2.own O0.out (by simp))
  have VM:=Mb (k2.own O1.out (by simp))
  have K2:=Mb (K1.out.trans k2)
  have XC:Hid (w.heap.size+2<=w2.heap.size):=Mb (by have:=k2.size;simpa using this)
  clear k2 x0 x1 x2 x3 x4 x5
  by_cases hg:G=0
  .have hgg:(G==0)=true:=by rw[hg];rfl
   have Q0:=Mb (HB3.out HZ.out hg)
   clear hg
   go_wp2_with fail
   refine(Qw.out _).mono ?_;rintro e w3 ⟨R2,k3⟩
   have TS:=Mb (k3.own VM.out (by simp))
   have K3:=Mb (K2.out.trans k3)
   obtain⟨y0,y1,y2,y3,y4⟩:=TS.out.k5
   obtain⟨g0,g1,g2,g3,g4⟩:=TS.out.y5
   clear k3
   rcases R2 with⟨c,v,Pa,Qz,hpc,N5,rfl⟩|⟨OF,rfl⟩
   .obtain⟨vb,vm,vn,rfl,hb,Sq,R9,Su,TP⟩:=id N5
    obtain⟨p1,c1,rfl⟩:=hb.plain.shape
    obtain⟨p2,c2,rfl⟩:=Sq.plain.shape
    obtain⟨p3,c3,rfl⟩:=R9.plain.shape
    have HC:=Mb N5
    have aa2:Hid (BX=some c):=Mb (Q0.out.trans (wt Pa Qz hpc))
    clear N5 hb Sq R9 Su TP Pa Qz hpc
    go_wp2_with fail
    refine Mx (v:=.tuple #[.agg #[.int .u32 c.nextBox,.int .u32 c.nextMan,.slice p1 c.boxes.length c1,.slice p2 c.mans.length c2,.slice p3 c.names.length c3],.int .i64 0]) (ak Tryz.results122 rfl rfl (t:=52) ?_ Tryz.underlying52 rfl (by kernel_rfl)) rfl ?_
    .exact TS.out.de _ _ _ _ _
    .refine⟨Or.inl ⟨c,_,aa2.out,?_,rfl⟩,aa.bj K3.out (Or.inr (by omega)) _ _ _ _ _⟩
     refine(aw.cf (T:=[w.heap.size+1]) HC.out (aa.bj (aa.refl _ _) (Or.inl (by simp)) _ _ _ _ _) (fun x hx=>?_)).fI (fun x hx=>?_)
     .obtain rfl:x=w.heap.size+1:=by simpa using hx
      have:=XC.out
      show w.heap.size+1<w2.heap.size
      omega
     .have:=XC.out
      show x<w2.heap.size
      omega
   .have aa2:Hid (BX=none):=Mb (Q0.out.trans (Gv OF))
    clear OF
    go_wp2_with fail
    refine Mx (v:=.tuple #[.agg #[.int .u32 0,.int .u32 0,.slice none 0 0,.slice none 0 0,.slice none 0 0],.int .i64 110]) (ak Tryz.results122 rfl rfl (t:=52) ?_ Tryz.underlying52 rfl (by kernel_rfl)) rfl ?_
    .exact TS.out.de _ _ _ _ _
    .exact⟨Or.inr ⟨aa2.out,110,by decide,rfl⟩,aa.bj K3.out (Or.inr (by omega)) _ _ _ _ _⟩
  .have hgg:(G==0)=false:=by simpa using hg
   have Q0:=Mb (HB2.out HZ.out hg)
   have HGG:=Mb hgg
   clear hg
   obtain⟨y0,y1,y2,y3,y4⟩:=VM.out.k5
   obtain⟨g0,g1,g2,g3,g4⟩:=VM.out.y5
   go_wp2_with fail
   refine Mx (v:=.tuple #[.agg #[.int .u32 0,.int .u32 0,.slice none 0 0,.slice none 0 0,.slice none 0 0],.int .i64 G]) (ak Tryz.results122 rfl rfl (t:=52) ?_ Tryz.underlying52 rfl (by kernel_rfl)) rfl ?_
   .exact VM.out.de _ _ _ _ _
   .exact⟨Or.inr ⟨Q0.out,G,HGG.out,rfl⟩,aa.bj K2.out (Or.inr (by omega)) _ _ _ _ _⟩
theorem aw.more {S T:Nat->Prop} {v:Value} (h:aw S w v c) (hT:∀x,T x->w.heap.size<=x):aw (fun x=>S x\/T x) w v c:=by
 obtain⟨a,b,d,e,h1,h2,h3,h4⟩:=h
 exact⟨a,b,d,e,h1.more hT,h2.more hT,h3.more hT,h4⟩
end Go.Proofs.YtdkimcnlhmhpgaaGreat

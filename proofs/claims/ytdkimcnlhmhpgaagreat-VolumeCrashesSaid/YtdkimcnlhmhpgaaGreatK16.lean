/- -/
import Derived.Test.YtdkimcnlhmhpgaaGreatK15
import Derived.Lib.Overlaps
import Derived.Lib.SlBuf
set_option maxHeartbeats 16000000
set_option maxRecDepth 100000
set_option linter.unusedSimpArgs false
namespace Go.Proofs.YtdkimcnlhmhpgaaGreat
open Go.RowKit
variable {w w':World} {v:Value} {n k b:Nat} {cur:List Value} {t:TypeId}
def bd (w:World) (x:Nf×Value):Prop:=af w x.2 x.1.runs 0 w.heap.size/\x.1.fits/\∀r∈x.1.runs,aU r
theorem af.jK {l:List (Int×Int)} {lo hi:Nat} (h:af w v l lo hi):af w v l 0 w.heap.size:=by
 rcases h with h|⟨b,off,c,h1,h2,h3,h4,h5,h6⟩
 .exact Or.inl h
 .exact Or.inr ⟨b,off,c,h1,h2,Mu _,Mo h4 h5,Md _,h6⟩
theorem bd.kept0 {x:Nf×Value} (h:bd w x) (k:aa [] w w'):bd w' x:=⟨(h.1.kept0 k).jK,h.2⟩
theorem bd.iN {x:Nf×Value} (h:bd w x):iF x.2:=by
 obtain⟨p,c,e⟩:=h.1.shape
 exact⟨p,_,c,e⟩
def aS (w:World) (v:Value) (l:List Nf):Prop:=∃vs:List (Nf×Value),vs.map (·.1)=l/\cj w v vs.length 4 (Nx vs)/\∀x∈vs,bd w x
variable {l:List Nf}
theorem aS.kept0 (h:aS w v l) (k:aa [] w w'):aS w' v l:=by
 obtain⟨vs,h1,h2,h3⟩:=h
 exact⟨vs,h1,h2.kept0 k,fun x hx=>(h3 x hx).kept0 k⟩
theorem aS.shape (h:aS w v l):∃p c,v=.slice p l.length c:=by
 obtain⟨vs,rfl,h2,h3⟩:=h
 rw[Mm]
 exact h2.shape
theorem aS.jJ {p:Option Addr} {c:Nat} (h:aS w (.slice p n c) l) (i:Nat) (hi:i<l.length):
  ∃b off kv,p=some ⟨b,off,none⟩/\bd w (l[i],kv)/\b<w.heap.size/\l.length<=c/\c<=maxLen/\∀W,aa [] w W->W.cell? ⟨b,off+i*4,none⟩=some (.int .u32 l[i].id)/\W.cell? ⟨b,off+i*4+1,none⟩=some (.string (bs l[i].name))/\W.cell? ⟨b,off+i*4+2,none⟩=some (.int .i64 l[i].size)/\W.cell? ⟨b,off+i*4+3,none⟩=some kv:=by
 obtain⟨vs,rfl,h2,h3⟩:=h
 have hi':i<vs.length:=by simpa using hi
 obtain⟨p',c',e⟩:=h2.shape
 injection e with e1 e2 e3
 subst e1 e2 e3
 obtain⟨b,off,e,hc,hb,h6,h7⟩:=h2.at_ (by omega)
 subst e
 obtain⟨g0,g1,g2,g3⟩:=tZ vs i hi'
 refine⟨b,off,vs[i].2,rfl,?_,hb,by rw[Mm];exact h6,h7,fun W k=>?_⟩
 .rw[MZ];exact h3 _ (Mh hi')
 .rw[MZ]
  have hk:∀j u,(Nx vs)[j]? =some u->W.cell? ⟨b,off+j,none⟩=some u:=fun j u hj=>(k.cell (by exact hb) (by simp)).trans (hc j u hj)
  exact⟨hk _ _ g0,hk _ _ g1,hk _ _ g2,hk _ _ g3⟩
variable {x:Nf}
theorem DH (h:cV l) {m:Nat} (hm:m<l.length):cX l[m] x=true↔m<NP l x:=by
 constructor
 .intro hl
  by_cases g:m<NP l x
  .exact g
  .rw[h.ge hm (by omega)]at hl;cases hl
 .intro g;exact RA g
def oZ (l:List Nf) (w:World) (e:Ending) (w':World):Prop:=∃q,e=.returned (.bool q)/\(q=true↔cV l)/\aa [] w w'
theorem yW (hk:k+1<l.length) (h:cX l[k] l[k+1]=false) (q:aa [] w w'):oZ l w (.returned (.bool false)) w':=
 ⟨false,rfl,⟨fun h'=>(by cases h'),fun hr=>(by rw[hr.at_ hk (Nat.lt_succ_self k)]at h;cases h)⟩,q⟩
theorem xu {l:List Nf} {w w':World} (h:∀k (hk:k+1<l.length),cX l[k] l[k+1]=true) (q:aa [] w w'):oZ l w (.returned (.bool true)) w':=
 ⟨true,rfl,⟨fun _=>Dd h,fun _=>rfl⟩,q⟩
theorem Kx (v:Value) (l:List Nf) (w:World) (h:aS w v l) (hl:l.length<=1000000):
  Calls Tryz.prog 232 #[v,.func (.func 233) #[] #[]] w (oZ l w):=by
 obtain⟨p,c,rfl⟩:=h.shape
 have H:=Mb h
 have QZ:(l.length:Int)<=1000000:=by omega
 have ho:=CA
 have HO:=Mb ho
 clear h ho
 go_enter Tryz.func232,Tryz.ntmps232
 go_wp2_with fail
 go_loopw [5] (fun i wr=>∃k:Nat,1<=k/\i=.int .i64 k/\(∀j (hj:j+1<l.length),j+1<k->cX l[j] l[j+1]=true)/\aa [] w wr/\k<=1000001) (fun i _=>l.length+1-(intOf i).toNat)
 case atStart=>exact⟨1,Md _,rfl,fun j hj h=>(by omega),aa.refl _ _,by omega⟩
 case round=>
  obtain⟨k,OY,rfl,hd,hK,hkm⟩:=hrel
  by_cases Ns:k<l.length
  .have N8:k<l.length:=Ns
   obtain⟨m,hm⟩:∃m,k=m+1:=⟨k-1,by omega⟩
   have e1:(k:Int)-1=(m:Int):=by omega
   have Sq:m<l.length:=by omega
   have w1:IntKind.i64.wrap (m:Int)=(m:Int):=by rw[IntKind.wrap_i64];omega
   obtain⟨b,off,kva,rfl,_,hb,Rt,Th,HA⟩:=H.out.jJ m Sq
   obtain⟨b',off',kvb,e,_,_,_,_,HB⟩:=H.out.jJ k N8
   injection e with e
   injection e with e2 e3 _
   subst e2 e3
   have QY:=HO.out (l[m]'Sq) (l[k]'N8) kva kvb
   obtain⟨R,hR⟩:∃R,mM (l[m]'Sq) (l[k]'N8)=R:=⟨_,rfl⟩
   have YG:(R<0/\cX (l[m]'Sq) (l[k]'N8)=true)\/(0<=R/\cX (l[m]'Sq) (l[k]'N8)=false):=by
    rw[<-hR]
    cases g:cX (l[m]'Sq) (l[k]'N8)
    .exact Or.inr ⟨by have:=mt q7.1 (by rw[g];decide:¬cX (l[m]'Sq) (l[k]'N8)=true);omega,rfl⟩
    .exact Or.inl ⟨q7.2 g,rfl⟩
   rw[hR]at QY
   have i1:(m:Int)<l.length:=by omega
   have i2:(k:Int)<l.length:=by omega
   have i3:(0:Int)<=m:=by omega
   have HC:=Mb QY
   have Td:=Mb YG
   have HD:=Mb hd
   have HM:=Mb hm
   have NU:=Mb Ns
   have Sg:=Mb hK
   have Xm:Hid (∀W,aa [] w W->(W.cell? ⟨b,off+m*4,none⟩=some (.int .u32 (l[m]'Sq).id)/\W.cell? ⟨b,off+m*4+1,none⟩=some (.string (bs (l[m]'Sq).name))/\W.cell? ⟨b,off+m*4+2,none⟩=some (.int .i64 (l[m]'Sq).size)/\W.cell? ⟨b,off+m*4+3,none⟩=some kva)/\(W.cell? ⟨b,off+k*4,none⟩=some (.int .u32 (l[k]'N8).id)/\W.cell? ⟨b,off+k*4+1,none⟩=some (.string (bs (l[k]'N8).name))/\W.cell? ⟨b,off+k*4+2,none⟩=some (.int .i64 (l[k]'N8).size)/\W.cell? ⟨b,off+k*4+3,none⟩=some kvb)):=Mb (fun W q=>⟨HA W q,HB W q⟩)
   unfold Nf.cells at HC
   clear HA HB QY YG hd hR
   generalize hLA:l[m]'Sq=A at HC Xm Td
   generalize hLB:l[k]'N8=B at HC Xm Td
   have HLA:=Mb hLA
   have HLB:=Mb hLB
   clear hLA hLB Ns hm
   go_wp2_with fail
   refine Ml (S:=(fun W=>(W.cell? ⟨b,off+m*4,none⟩=some (.int .u32 A.id)/\W.cell? ⟨b,off+m*4+1,none⟩=some (.string (bs A.name))/\W.cell? ⟨b,off+m*4+2,none⟩=some (.int .i64 A.size)/\W.cell? ⟨b,off+m*4+3,none⟩=some kva)/\(W.cell? ⟨b,off+k*4,none⟩=some (.int .u32 B.id)/\W.cell? ⟨b,off+k*4+1,none⟩=some (.string (bs B.name))/\W.cell? ⟨b,off+k*4+2,none⟩=some (.int .i64 B.size)/\W.cell? ⟨b,off+k*4+3,none⟩=some kvb))) (by kernel_rfl) (by exact Xm.out _ Sg.out.drew) (fun hHeld=>?_)
   refine tk 0 12 ?_
   refine tk 1 13 ?_
   refine tk 2 14 ?_
   refine tk 3 15 ?_
   refine tk 4 16 ?_
   refine tk 5 17 ?_
   refine tk 6 18 ?_
   refine tk 7 19 ?_
   refine tk 8 20 ?_
   refine tk 9 21 ?_
   refine rd 10 (fun K hK=>?_)
   go_simp
   ((with_reducible refine(HC.out _).mono ?_));rintro e w2 ⟨rfl,k2⟩
   have KK:=Mb (Sg.out.drew.trans k2)
   go_wp2_with fail
   refine hK.out _ _ ?_ (fun hHeld=>nm ?_)
   .exact Xm.out _ KK.out
   clear hK K
   refine tk 11 23 ?_
   refine MM (by kernel_rfl) ?_ _
   rcases Td.out with⟨Xi,Sa⟩|⟨Xi,Sa⟩
   .have Qy:decide (0<=R)=false:=by simp;omega
    go_wp2_with fail
    go_roundw
    case rel=>exact⟨k+1,by omega,by rfl,fun j hj Vs=>by
     by_cases Xx:j+1<k
     .exact HD.out j hj Xx
     .have hjm:j=m:=by have:=HM.out;omega
      subst hjm
      have e4:=HLB.out
      have e5:=HLA.out
      have aaQ:=HM.out
      subst aaQ
      rw[e4,e5];exact Sa,KK.out,by have:=NU.out;omega⟩
    case measure=>(have:=NU.out;simp[intOf];omega)
   .have Qy:decide (0<=R)=true:=by simp;omega
    go_wp2_with fail
    go_ret
    have aaQ:=HM.out
    subst aaQ
    exact yW NU.out (by rw[HLB.out,HLA.out];exact Sa) KK.out
  .have i1:¬(k:Int)<l.length:=by omega
   have Rf:∀j (hj:j+1<l.length),cX l[j] l[j+1]=true:=fun j hj=>hd j hj (by omega)
   have HD:=Mb Rf
   clear hd Rf
   go_wp2_with fail
   go_ret
   exact xu HD.out hK
def gJ (l:List Nf) (x:Nf) (w:World) (e:Ending) (w':World):Prop:=∃q,e=.returned (.tuple #[.int .i64 (NP l x),.bool q])/\(q=true↔dV l x)/\aa [] w w'
theorem xl (hr:cV l) (hk:NP l x=k) (h:l.length<=k) (q:aa [] w w'):gJ l x w (.returned (.tuple #[.int .i64 k,.bool false])) w':=
 ⟨false,by rw[hk],⟨fun h'=>(by cases h'),fun h'=>absurd h' (Fs hr (by omega))⟩,q⟩
theorem yR (hr:cV l) (hk:NP l x=k) (h:k<l.length) {b:Bool} (hb:b=fa l[k] x) (q:aa [] w w'):gJ l x w (.returned (.tuple #[.int .i64 k,.bool b])) w':=by
 subst hk
 exact⟨b,rfl,by rw[hb];exact Fq hr h,q⟩
theorem EA (v:Value) (l:List Nf) (x:Nf) (xv:Value) (w:World) (h:aS w v l) (hl:l.length<=1000000) (hr:cV l):
  Calls Tryz.prog 269 #[v,.agg (x.cells xv),.func (.func 233) #[] #[]] w (gJ l x w):=by
 obtain⟨p,c,rfl⟩:=h.shape
 have H:=Mb h
 have HR:=Mb hr
 have QZ:(l.length:Int)<=1000000:=by omega
 have ho:=CA
 have HO:=Mb ho
 have Vf:=lh l x
 have HP:=Mb Vf
 have oX:=ae.new w (x.cells xv) 113
 have k0:aa [] w (w.alloc (.cells (x.cells xv) 113)):=(aa.refl _ _).alloc _
 unfold Nf.cells at oX k0 ⊢
 obtain⟨x0,x1,x2,x3⟩:=oX.c4
 have OX:=Mb oX
 have K0:=Mb k0
 clear h hr ho Vf oX k0
 go_enter Tryz.func269,Tryz.ntmps269
 go_wp2_with fail
 go_loopw [9,10] (fun i j wr=>∃lo hi:Nat,i=.int .i64 lo/\j=.int .i64 hi/\lo<=NP l x/\NP l x<=hi/\hi<=l.length/\aa [] w wr/\ae wr w.heap.size #[.int .u32 x.id,.string (bs x.name),.int .i64 x.size,xv] 113) (fun i j _=>(intOf j).toNat-(intOf i).toNat)
 case atStart=>exact⟨0,l.length,rfl,rfl,Mu _,HP.out,Md _,K0.out,OX.out⟩
 case round=>
  obtain⟨lo,hi,rfl,rfl,hlo,UH,hle,hK,oX⟩:=hrel
  by_cases Ns:lo<hi
  .have i1:(lo:Int)<hi:=by omega
   obtain⟨m,hm⟩:∃m,(lo+hi)/2=m:=⟨_,rfl⟩
   have e1:((lo:Int)+hi)/2=(m:Int):=by omega
   have Sq:m<l.length:=by omega
   have hmb:lo<=m/\m<hi:=by omega
   have i2:(m:Int)<l.length:=by omega
   obtain⟨b,off,kv,rfl,_,hb,Rt,Th,HA⟩:=H.out.jJ m Sq
   have QY:=HO.out (l[m]'Sq) x kv xv
   obtain⟨R,hR⟩:∃R,mM (l[m]'Sq) x=R:=⟨_,rfl⟩
   have YG:(R<0/\m<NP l x)\/(0<=R/\NP l x<=m):=by
    rw[<-hR]
    by_cases g:m<NP l x
    .exact Or.inl ⟨q7.2 ((DH HR.out Sq).2 g),g⟩
    .refine Or.inr ⟨?_,by omega⟩
     have:=mt q7.1 (fun h=>g ((DH HR.out Sq).1 h))
     omega
   rw[hR]at QY
   unfold Nf.cells at QY
   have HC:=Mb QY
   have Td:=Mb YG
   have Yy:=Mb (And.intro hmb Sq)
   have HLH:=Mb (And.intro hlo (And.intro UH hle))
   have Sg:=Mb hK
   have OX2:=Mb oX
   have Z7:Hid (∀W,aa [] w W->ae W w.heap.size #[.int .u32 x.id,.string (bs x.name),.int .i64 x.size,xv] 113->(W.cell? ⟨b,off+m*4,none⟩=some (.int .u32 (l[m]'Sq).id)/\W.cell? ⟨b,off+m*4+1,none⟩=some (.string (bs (l[m]'Sq).name))/\W.cell? ⟨b,off+m*4+2,none⟩=some (.int .i64 (l[m]'Sq).size)/\W.cell? ⟨b,off+m*4+3,none⟩=some kv)/\(W.cell? ⟨w.heap.size,0,none⟩=some (.int .u32 x.id)/\W.cell? ⟨w.heap.size,1,none⟩=some (.string (bs x.name))/\W.cell? ⟨w.heap.size,2,none⟩=some (.int .i64 x.size)/\W.cell? ⟨w.heap.size,3,none⟩=some xv)):=Mb (fun W q o=>⟨HA W q,o.c4⟩)
   clear HA QY YG hR hmb hlo UH hle Ns hm
   generalize hLA:l[m]'Sq=A at HC Z7
   clear hLA
   obtain⟨P,hP⟩:∃P,NP l x=P:=⟨_,rfl⟩
   rw[hP]at Td HLH
   have HPP:=Mb hP
   clear hP
   go_wp2_with fail
   refine Ml (S:=(fun W=>(W.cell? ⟨b,off+m*4,none⟩=some (.int .u32 A.id)/\W.cell? ⟨b,off+m*4+1,none⟩=some (.string (bs A.name))/\W.cell? ⟨b,off+m*4+2,none⟩=some (.int .i64 A.size)/\W.cell? ⟨b,off+m*4+3,none⟩=some kv)/\(W.cell? ⟨w.heap.size,0,none⟩=some (.int .u32 x.id)/\W.cell? ⟨w.heap.size,1,none⟩=some (.string (bs x.name))/\W.cell? ⟨w.heap.size,2,none⟩=some (.int .i64 x.size)/\W.cell? ⟨w.heap.size,3,none⟩=some xv))) (by kernel_rfl) (by exact Z7.out _ Sg.out.drew OX2.out.drew) (fun hHeld=>?_)
   refine tk 0 24 ?_
   refine tk 1 25 ?_
   refine tk 2 26 ?_
   refine tk 3 27 ?_
   refine tk 4 28 ?_
   refine tk 5 29 ?_
   refine rd 6 (fun K hK=>?_)
   go_simp
   ((with_reducible refine(HC.out _).mono ?_));rintro e w2 ⟨rfl,k2⟩
   have KK:=Mb (Sg.out.drew.trans k2)
   have O2:=Mb (k2.own OX2.out.drew (by simp))
   go_wp2_with fail
   refine hK.out _ _ ?_ (fun hHeld=>nm ?_)
   .exact Z7.out _ KK.out O2.out
   clear hK K
   refine tk 7 31 ?_
   refine MM (by kernel_rfl) ?_ _
   rcases Td.out with⟨Xi,hp⟩|⟨Xi,hp⟩
   .have Qy:decide (R<0)=true:=by simp;omega
    have HP2:=Mb hp
    clear hp
    go_wp2_with fail
    go_roundw
    case rel=>exact⟨m+1,hi,by rfl,rfl,by rw[HPP.out];exact HP2.out,by rw[HPP.out];exact HLH.out.2.1,HLH.out.2.2,KK.out,O2.out⟩
    case measure=>(have:=Yy.out;simp[intOf];omega)
   .have Qy:decide (R<0)=false:=by simp;omega
    have HP2:=Mb hp
    clear hp
    go_wp2_with fail
    go_roundw
    case rel=>exact⟨lo,m,rfl,rfl,by rw[HPP.out];exact HLH.out.1,by rw[HPP.out];exact HP2.out,by have:=Yy.out;omega,KK.out,O2.out⟩
    case measure=>(have:=Yy.out;simp[intOf];omega)
  .obtain rfl:lo=hi:=by omega
   have Wp:NP l x=lo:=by omega
   have i1:¬(lo:Int)<lo:=by omega
   by_cases Sa:lo<l.length
   .have i2:(lo:Int)<l.length:=by omega
    obtain⟨b,off,kv,rfl,_,hb,Rt,Th,HA⟩:=H.out.jJ lo Sa
    have QY:=HO.out (l[lo]'Sa) x kv xv
    obtain⟨R,hR⟩:∃R,mM (l[lo]'Sa) x=R:=⟨_,rfl⟩
    have YG:(R==0)=fa (l[lo]'Sa) x:=by
     rw[<-hR]
     cases g:fa (l[lo]'Sa) x
     .have:=mt vJ.1 (by rw[g];decide:¬fa (l[lo]'Sa) x=true)
      simpa using this
     .simpa using vJ.2 g
    have abu:=fun W (q:aa [] w W)=>yR HR.out Wp Sa YG q
    have aa1:=Mb abu
    rw[hR]at QY
    unfold Nf.cells at QY
    have HC:=Mb QY
    have Sg:=Mb hK
    have OX2:=Mb oX
    have Z7:Hid (∀W,aa [] w W->ae W w.heap.size #[.int .u32 x.id,.string (bs x.name),.int .i64 x.size,xv] 113->(W.cell? ⟨b,off+lo*4,none⟩=some (.int .u32 (l[lo]'Sa).id)/\W.cell? ⟨b,off+lo*4+1,none⟩=some (.string (bs (l[lo]'Sa).name))/\W.cell? ⟨b,off+lo*4+2,none⟩=some (.int .i64 (l[lo]'Sa).size)/\W.cell? ⟨b,off+lo*4+3,none⟩=some kv)/\(W.cell? ⟨w.heap.size,0,none⟩=some (.int .u32 x.id)/\W.cell? ⟨w.heap.size,1,none⟩=some (.string (bs x.name))/\W.cell? ⟨w.heap.size,2,none⟩=some (.int .i64 x.size)/\W.cell? ⟨w.heap.size,3,none⟩=some xv)):=Mb (fun W q o=>⟨HA W q,o.c4⟩)
    clear HA QY hR YG abu hlo UH hle Ns
    generalize hLA:l[lo]'Sa=A at HC Z7
    clear hLA
    go_wp2_with fail
    refine Ml (S:=(fun W=>(W.cell? ⟨b,off+lo*4,none⟩=some (.int .u32 A.id)/\W.cell? ⟨b,off+lo*4+1,none⟩=some (.string (bs A.name))/\W.cell? ⟨b,off+lo*4+2,none⟩=some (.int .i64 A.size)/\W.cell? ⟨b,off+lo*4+3,none⟩=some kv)/\(W.cell? ⟨w.heap.size,0,none⟩=some (.int .u32 x.id)/\W.cell? ⟨w.heap.size,1,none⟩=some (.string (bs x.name))/\W.cell? ⟨w.heap.size,2,none⟩=some (.int .i64 x.size)/\W.cell? ⟨w.heap.size,3,none⟩=some xv))) (by kernel_rfl) (by exact Z7.out _ Sg.out.drew OX2.out.drew) (fun hHeld=>?_)
    refine tk 0 35 ?_
    refine tk 1 36 ?_
    refine tk 2 37 ?_
    refine tk 3 38 ?_
    refine tk 4 39 ?_
    refine tk 5 40 ?_
    refine tk 6 41 ?_
    refine tk 7 42 ?_
    refine tk 8 43 ?_
    refine tk 9 44 ?_
    refine tk 10 45 ?_
    refine rd 11 (fun K hK=>?_)
    go_simp
    ((with_reducible refine(HC.out _).mono ?_));rintro e w2 ⟨rfl,k2⟩
    have KK:=Mb (Sg.out.drew.trans k2)
    have O2:=Mb (k2.own OX2.out.drew (by simp))
    go_wp2_with fail
    refine hK.out _ _ ?_ (fun hHeld=>nm ?_)
    .exact Z7.out _ KK.out O2.out
    clear hK K
    refine tk 12 47 ?_
    refine tk 13 48 ?_
    refine tk 14 6 ?_
    refine tk 15 7 ?_
    refine MM (by kernel_rfl) ?_ _
    go_wp2_with fail
    go_ret2
    exact aa1.out _ KK.out
   .have i2:¬(lo:Int)<l.length:=by omega
    have aa1:=Mb (xl HR.out Wp (by omega) hK.drew)
    clear hlo UH hle Ns
    have Sg:=Mb hK
    have i3:decide ((lo:Int)<l.length)=false:=by simp;omega
    go_wp2_with fail
    refine Ml (S:=(fun _=>True)) (by kernel_rfl) (by trivial) (fun hHeld=>?_)
    refine tk 0 35 ?_
    refine tk 1 36 ?_
    refine tk 2 37 ?_
    refine tk 3 38 ?_
    refine tk 4 39 ?_
    refine tn 5 40 ?_
    refine tn 6 41 ?_
    refine tn 7 42 ?_
    refine tn 8 43 ?_
    refine tn 9 44 ?_
    refine tn 10 45 ?_
    refine tn 11 46 ?_
    refine tn 12 47 ?_
    refine tk 13 48 ?_
    refine tk 14 6 ?_
    refine tk 15 7 ?_
    refine MM (by kernel_rfl) ?_ _
    go_wp2_with fail
    go_ret2
    exact aa1.out
theorem AO (v:Value) (l:List Nf) (x:Nf) (xv:Value) (w:World) (h:aS w v l) (hl:l.length<=1000000) (hr:cV l):
  Calls Tryz.prog 234 #[v,.agg (x.cells xv),.func (.func 233) #[] #[]] w (gJ l x w):=by
 have hb:=fun W (q:aa [] w W)=>EA v l x xv W (h.kept0 q) hl hr
 unfold gJ at hb ⊢
 obtain⟨p,c,rfl⟩:=h.shape
 have HB:=Mb hb
 have oX:=ae.new w (x.cells xv) 113
 have k0:aa [] w (w.alloc (.cells (x.cells xv) 113)):=(aa.refl _ _).alloc _
 unfold Nf.cells at oX k0 HB ⊢
 obtain⟨x0,x1,x2,x3⟩:=oX.c4
 have K0:=Mb k0
 clear h hb oX k0 hr hl
 generalize NP l x=P at*
 go_enter Tryz.func234,Tryz.ntmps234
 go_wp2_with fail
 refine(HB.out _ K0.out).mono ?_;rintro e w2 ⟨q,rfl,hq,k2⟩
 have HQ:=Mb hq
 clear hq
 go_wp2_with fail
 go_ret2
 exact⟨q,rfl,HQ.out,K0.out.trans k2⟩
theorem GK (k:Int) (x:Nf) (xv:Value) (w:World) (hs:iF xv):Calls Tryz.prog 182 #[.int .i64 k,.agg (x.cells xv)] w fun e w'=>e=.returned (.agg ((x.told k).cells xv))/\aa [] w w':=by
 obtain⟨p,n,c,rfl⟩:=hs
 have oX:=ae.new w (x.cells (.slice p n c)) 113
 unfold Nf.cells at oX
 obtain⟨x0,x1,x2,x3⟩:=oX.c4
 clear oX
 unfold Nf.told ag.cells Nf.cells
 go_enter Tryz.func182,Tryz.ntmps182
 go_wp2_with fail
 have o2:=ae.new (w.alloc (.cells #[.int .u32 x.id,.string (bs x.name),.int .i64 x.size,.slice p n c] 113)) #[.int .i64 k,.int .u32 x.id,.string (bs x.name),.int .i64 x.size,.slice p n c] 102
 simp only[MK]at o2
 refine Mx (v:=.agg #[.int .i64 k,.int .u32 x.id,.string (bs x.name),.int .i64 x.size,.slice p n c]) (nf Tryz.results182 rfl (t:=102) ?_ Tryz.underlying102 rfl (by kernel_rfl)) rfl ⟨rfl,?_⟩
 .exact o2
 .exact((aa.refl _ _).alloc _).alloc _
def Nf.same (a b:Nf):Bool:=a.id==b.id&&(a.name==b.name&&(a.size==b.size&&a.runs==b.runs))
theorem Nf.E7 {a b:Nf}:a.same b=true↔a=b:=by
 obtain⟨a1,a2,a3,a4⟩:=a
 obtain⟨b1,b2,b3,b4⟩:=b
 unfold Nf.same
 simp
theorem Nf.four (a b:Nf):((a.id==b.id)=false/\a.same b=false)\/((a.id==b.id)=true/\(a.name==b.name)=false/\a.same b=false)\/((a.id==b.id)=true/\(a.name==b.name)=true/\(a.size==b.size)=false/\a.same b=false)\/((a.id==b.id)=true/\(a.name==b.name)=true/\(a.size==b.size)=true/\a.same b=(a.runs==b.runs)):=by
 unfold Nf.same
 cases a.id==b.id<;>cases a.name==b.name<;>cases a.size==b.size<;>simp
theorem jm (a b:List UInt8) {x:Bool} (h:(a==b)=x):(bs a==bs b)=x/\((bs a).toList==(bs b).toList)=x:=by
 have h1:(bs a==bs b)=x:=by rw[Kp,h]
 exact⟨h1,by rw[dh,dh,h]⟩
def iD (base:Nat) (v:Value) (n:Nat) (xs:List Value) (w:World) (e:Ending) (w':World):Prop:=
 ∃v',e=.returned v'/\w'.ownsRow base 113 4 v' n xs/\∀S,(∀g,v.ownBlock=some g->g∈S)->aa S w w'
def PC:List Value:=[.int .u32 0,.string {data:=#[]},.int .i64 0,.slice none 0 0]
theorem uL (w:World) (ty:TypeId) (b o c k:Nat) (hk:k=1) (hc:∀j,j<4->(w.cell? ⟨b,o+j,none⟩).isSome=true) (hf:∀j,j<4->w.frozen? ⟨b,o+j,none⟩=false):
  (Builtin.clear_ #[50] ty #[.slice (some ⟨b,o,none⟩) k c]).run Tryz.prog w=.ok (.tuple #[]) (w.setCells b o PC):=by
 subst hk
 obtain⟨i0,hi0,hz0,PS,P8⟩:=gh
 have N8:=run_storeCells_cells (P:=Tryz.prog) b o PC 0 w (by simpa[PC]using hc) (by simpa[PC]using hf) (by intro v hv;simp[PC]at hv;rcases hv with rfl|rfl|rfl|rfl<;>rfl)
 rw[Nat.add_zero]at N8
 have hzc:(Builtin.zeroCells (Value.agg #[.int .u32 0,.string {data:=#[]},.int .i64 0,.slice none 0 0]).cells 1).toList=PC:=by
  simp[Builtin.zeroCells,Value.cells,PC,Array.range,List.range,List.range.loop]
 simp[Builtin.clear_,run_underlying Tryz.underlying50,zeroValue,typeInfo,hi0,hz0,hzc,N8]
theorem kK {base g cap:Nat} (o:ae w g cur.toArray 113) (hb:base<=g) (hn:n<=cap) (hc:cap<=maxLen) (hl:cur.length=cap*4):w.ownsRow base 113 4 (.slice (some ⟨g,0,none⟩) n cap) n (cur.take (n*4)):=by
 refine⟨?_,Or.inr ⟨g,cap,cur.toArray,rfl,hb,o,hn,hc,by simpa using hl,rfl⟩⟩
 rw[Mp,hl]
 have:=Nat.mul_le_mul_right 4 hn
 omega
theorem ae.gm (h:ae w b cur.toArray t) (j:Nat) (hj:j<cur.length):w.cell? ⟨b,j,none⟩=some cur[j]:=by
 rw[h.cell j (by simpa using hj)];simp
theorem M81 {A:Prop}(h:A:=by
 intro S hS
 have ZO:=hS g (by simp[Value.ownBlock])
 rw[hW1]
 exact fU (Or.inl ZO) _ _ (fU (Or.inl ZO) _ _ (aa.refl _ _).drew)):A:=h
theorem M73 {A:Prop}(h:A:=by
 have VK:t<cur.length:=by rw[Pe];have:=Nat.mul_le_mul_right 4 hnc;omega
 rw[o.gm t VK,<-Pc,List.getElem?_take_of_lt ht,Mw VK]):A:=h
theorem Hj (base:Nat) (v:Value) (n:Nat) (xs:List Value) (i j:Nat) (w:World) (h:w.ownsRow base 113 4 v n xs) (h1:∀u∈xs,u.oneCell'=true) (hi:i<n) (hj:j=i+1):
  Calls Tryz.prog 236 #[v,.int .i64 i,.int .i64 j] w (iD base v (n-1) (xs.take (i*4)++xs.drop (j*4)) w):=by
 rcases h.2 with⟨_,h0⟩|⟨g,cap,cur0,rfl,hb,hg,hnc,Pb,SK,htake⟩
 .omega
 .obtain⟨cur,rfl⟩:∃cur:List Value,cur0=cur.toArray:=⟨cur0.toList,by simp⟩
  have o:ae w g cur.toArray 113:=hg
  have Pe:cur.length=cap*4:=by simpa using SK
  have Pc:cur.take (n*4)=xs:=by simpa using htake
  have hjn:j<=n:=by omega
  have Vv:=h.1
  obtain⟨i0,hi0,hz0,PS,P8⟩:=gh
  have Ns:i<j:=by omega
  have ab8:cap<=9223372036854775807:=Pb
  obtain⟨news,hnews⟩:∃news,news=xs.drop (j*4):=⟨_,rfl⟩
  have hlen:news.length=(n-j)*4:=by rw[hnews,Mq,Vv];omega
  have NW:∀t,t<n*4->w.cell? ⟨g,t,none⟩=xs[t]? :=fun t ht=>by
   exact M73
  obtain⟨A,hA,Pz⟩:∃A:Addr,(if cap=j then some (⟨g,0,none⟩:Addr)else some ⟨g,j*4,none⟩)=some A/\Hid (∀t u,news[t]? =some u->w.drew.cell? (A.add t)=some u):=by
   by_cases hc:cap=j
   .refine⟨⟨g,0,none⟩,by simp[hc],fun t u hu=>?_⟩
    have h0:news.length=0:=by rw[hlen];omega
    rw[List.length_eq_zero_iff.1 h0]at hu
    simp at hu
   .refine⟨⟨g,j*4,none⟩,by simp[hc],fun t u hu=>?_⟩
    have ht:t<(n-j)*4:=by
     have:=(MI.1 hu).1
     rwa[hlen]at this
    rw[hnews,List.getElem?_drop]at hu
    rw[My]
    show w.cell? _=_
    rw[NW (j*4+t) (by omega)]
    exact hu
  have s1:Hid (news.length=(n-j)*4):=hlen
  have s2:Hid (∀u∈news,u.oneCell'=true):=fun u hu=>h1 u (Nb (by rw[hnews]at hu;exact hu))
  have s3:Hid (∀t,t<news.length->(w.drew.cell? ⟨g,0+i*4+t,none⟩).isSome=true/\w.drew.frozen? ⟨g,0+i*4+t,none⟩=false):=by
   intro t ht
   rw[hlen]at ht
   have VK:0+i*4+t<cur.length:=by rw[Pe];have:=Nat.mul_le_mul_right 4 hnc;omega
   exact⟨by show(w.cell? _).isSome=true;rw[o.gm _ VK];rfl,o.free _⟩
  obtain⟨W1,hW1⟩:∃W1,W1=w.drew.setCells g (0+i*4) news:=⟨_,rfl⟩
  have N4:i*4+news.length<=cur.length:=by rw[hlen,Pe];have:=Nat.mul_le_mul_right 4 hnc;omega
  have Yf:ae W1 g (cF cur (i*4) news).toArray 113:=by rw[hW1,Nat.zero_add];exact(ae.drew o).pM news (i*4) N4
  have Px:(cF cur (i*4) news).length=cap*4:=by rw[gZ N4,Pe]
  have ad9:∀ty,(Builtin.clear_ #[50] ty #[.slice (some ⟨g,(i+(n-j))*4,none⟩) (n-(i+(n-j))) (cap-(i+(n-j)))]).run Tryz.prog W1=.ok (.tuple #[]) (W1.setCells g ((i+(n-j))*4) PC):=fun ty=>
   uL W1 ty g _ _ _ (by omega) (fun t ht=>by rw[Yf.gm _ (by rw[Px];have:=Nat.mul_le_mul_right 4 hnc;omega)];rfl) (fun t ht=>Yf.free _)
  have R2:Hid ((cF (cF cur (i*4) news) ((i+(n-j))*4) PC).take ((n-1)*4)=xs.take (i*4)++xs.drop (j*4)):=by
   show _=_
   have e1:(i+(n-j))*4=(n-1)*4:=by omega
   have e2:(n-1)*4=i*4+news.length:=by rw[hlen];omega
   rw[e1,EX (by rw[Px];have:=Nat.mul_le_mul_right 4 hnc;omega) (Md _),e2,pJ N4,hnews,<-Pc,List.take_take]
   rw[Nat.min_eq_left (by omega)]
  have N6:Hid (∀W,ae W g (cF (cF cur (i*4) news) ((i+(n-j))*4) PC).toArray 113->W.ownsRow base 113 4 (.slice (some ⟨g,0,none⟩) (i+(n-j)) cap) (n-1) (xs.take (i*4)++xs.drop (j*4))):=by
   intro W oW
   have e1:i+(n-j)=n-1:=by omega
   have Qs:(i+(n-j))*4+PC.length<=(cF cur (i*4) news).length:=by rw[Px];have:=Nat.mul_le_mul_right 4 hnc;show _+4<=_;omega
   have:=kK (base:=base) (n:=n-1) (cap:=cap) oW hb (by omega) Pb (by rw[gZ Qs,Px])
   rw[R2.out]at this
   rw[e1]
   exact this
  have hKP:Hid (∀S:List Nat,(∀g',(Value.slice (some ⟨g,0,none⟩) n cap).ownBlock=some g'->g'∈S)->aa S w (W1.setCells g ((i+(n-j))*4) PC)):=by
   exact M81
  have hO:Hid (ae (W1.setCells g ((i+(n-j))*4) PC) g (cF (cF cur (i*4) news) ((i+(n-j))*4) PC).toArray 113):=
   Yf.pM PC _ (by rw[Px];have:=Nat.mul_le_mul_right 4 hnc;show _+4<=_;omega)
  have hW:Hid (W1=w.drew.setCells g (0+i*4) news):=hW1
  have hic:i<=cap:=by omega
  have hjc:j<=cap:=by omega
  have acU:Tryz.prog.info? 113=some i0:=hi0
  clear hW1 Yf NW hnews hlen o hg SK Pe htake Pc N4 Px h h1 Vv R2 hj
  go_enter Tryz.func236,Tryz.ntmps236
  go_wp2_with fail
  go_region_law (refine step_append_room rfl (.tmp 22) (.tmp 25) 50 rfl 113 i0 4 Tryz.underlying50 acU PS g 0 i cap (by simp[Act.eval,Act.put]) A (n-j) (cap-j) news (by simp[Act.eval,Act.put]) s1.out Pz.out s2.out (by omega) s3.out ?_;rw[<-hW.out])
  go_wp2
  go_ret
  exact⟨_,rfl,N6.out _ hO.out,hKP.out⟩
theorem tK {cs:Array Value} (h:ae w b cs t):w.shape? b=some (t,cs.size):=by
 unfold World.shape?
 rw[show w.heap[b]? =some (.cells cs t (0,0))from h]
theorem Ic {xs ys:List Value} {i:Nat} (hx:cur.take (n*4)=xs) (Ph:i<=n) (hys:ys.length=4) (hl:(n+1)*4<=cur.length) (Vv:xs.length=n*4):
  (cF (cF cur ((i+1)*4) (xs.drop (i*4))) (i*4) ys).take ((n+1)*4)=xs.take (i*4)++ys++xs.drop (i*4):=by
 have hd:(xs.drop (i*4)).length=(n-i)*4:=by rw[Mq,Vv];omega
 have h1:(i+1)*4+(xs.drop (i*4)).length<=cur.length:=by rw[hd];omega
 have Px:=gZ h1
 have h2:i*4+ys.length<=(cF cur ((i+1)*4) (xs.drop (i*4))).length:=by rw[Px,hys];omega
 unfold cF at*
 have e1:(cur.take ((i+1)*4)).length=(i+1)*4:=by rw[Mp];omega
 have e2:(cur.take ((i+1)*4)++(xs.drop (i*4)++cur.drop ((i+1)*4+(xs.drop (i*4)).length))).take (i*4)=xs.take (i*4):=by
  rw[MS (by omega),List.take_take,Nat.min_eq_left (by omega),<-hx,List.take_take,Nat.min_eq_left (by omega)]
 have e3:(cur.take ((i+1)*4)++(xs.drop (i*4)++cur.drop ((i+1)*4+(xs.drop (i*4)).length))).drop (i*4+ys.length)=xs.drop (i*4)++cur.drop ((i+1)*4+(xs.drop (i*4)).length):=by
  rw[List.drop_append_of_le_length (by omega),List.drop_of_length_le (by omega),Nd]
 rw[e2,e3]
 have e4:(xs.take (i*4)).length=i*4:=by rw[Mp];omega
 rw[<-Mi,<-Mi,MS (by rw[Mc,Mc];omega),Mk (by rw[Mc,Mc];omega)]
theorem wC (base:Nat) (n:Nat) (xs:List Value) (i m:Nat) (w:World) (g cap:Nat) (cur:List Value) (vb:Nat) (ys:List Value) (o:ae w g cur.toArray 113) (hb:base<=g) (Pb:cap<=maxLen) (Pe:cur.length=cap*4) (Pc:cur.take (n*4)=xs) (Vv:xs.length=n*4)
  (h1:∀u∈xs,u.oneCell'=true) (hi:i<n) (hm:m=1) (Pd:n+m<=cap) (ov:ae w vb ys.toArray 113) (hys:ys.length=4) (h2:∀u∈ys,u.oneCell'=true) (hvb:vb≠g):
  Calls Tryz.prog 270 #[.slice (some ⟨g,0,none⟩) n cap,.int .i64 i,.slice (some ⟨vb,0,none⟩) m m] w (iD base (.slice (some ⟨g,0,none⟩) n cap) (n+1) (xs.take (i*4)++ys++xs.drop (i*4)) w):=by
 obtain⟨i0,hi0,hz0,hz1',hz2'⟩:=gh
 have O4:(Tryz.prog.info? 113).map (·.size)=some 4:=by rw[hi0];simp[hz1']
 have PS:¬((m:Int)=0):=by omega
 have P8:¬((i:Int)=(n:Int)):=by omega
 have ab8:cap<=9223372036854775807:=Pb
 have Yi:∀lb cb,(callFunc 292 #[.slice (some ⟨vb,0,none⟩) m m,.slice (some ⟨g,(i+m)*4,none⟩) lb cb]).run Tryz.prog w=.ok (.value (.bool false)) w:=fun lb cb=>by
  rw[run_callFunc_extern Tryz.func292 (by kernel_rfl) (by kernel_rfl) (by kernel_rfl) (e:=Extern.SlicesOverlaps.overlaps #[50,50] #[4]) (by kernel_rfl),
   Lib.run_overlaps_apart w 50 4 113 Tryz.underlying50 4 Tryz.sizeOf113 ⟨vb,0,none⟩ ⟨g,(i+m)*4,none⟩ m m lb cb hvb _ _ _ _ (tK ov) (tK o) (by simp[Pe];omega) (ov.free _) (ov.free _)]
  rfl
 have Rk:(xs.drop (i*4)).length=(n-i)*4:=by rw[Mq,Vv];omega
 have Su:IntKind.i64.wrap ((i:Int)+(m:Int))=(i:Int)+(m:Int):=by rw[IntKind.wrap_i64];omega
 have TG:(0:Int)<=(i:Int)+(m:Int):=by omega
 have Ph:i<=n:=by omega
 have htn:((i:Int)+(m:Int)).toNat=i+m:=by omega
 have Qo:¬(cap=i+m):=by omega
 have Zx:(i:Int)<=(n:Int)+(m:Int):=by omega
 have hb4:¬(cap=i):=by omega
 have Us:=Nat.mul_le_mul_right 4 Pd
 have N4:(i+m)*4+(xs.drop (i*4)).length<=cur.length:=by rw[Rk,Pe];omega
 have Ww:∀ty dc sc,(Builtin.copy_ #[50,50] ty #[.slice (some ⟨g,(i+m)*4,none⟩) (n+m-(i+m)) dc,.slice (some ⟨g,i*4,none⟩) (n+m-i) sc]).run Tryz.prog w.drew=.ok (.int .i64 ((n-i:Nat):Int)) (w.drew.setCells g ((i+m)*4) (xs.drop (i*4))):=fun ty dc sc=>
  kB w.drew _ _ ty 113 4 g ((i+m)*4) (n+m-(i+m)) dc ⟨g,i*4,none⟩ (n+m-i) sc (n-i) (xs.drop (i*4)) Tryz.underlying50 O4 (by show min _ _=_;omega) Rk
   (fun j v hj=>by
    have Sr:=(MI.1 hj).1
    rw[Rk]at Sr
    rw[List.getElem?_drop]at hj
    rw[My]
    show w.cell? _=_
    have Xx:i*4+j<n*4:=by omega
    have hj3:i*4+j<cur.length:=by omega
    have e:cur[i*4+j]? =some v:=by rw[<-hj,<-Pc,List.getElem?_take_of_lt Xx]
    rw[Mw hj3]at e
    rw[o.gm _ hj3]
    exact e)
   (fun j hj=>by show(w.cell? _).isSome=true;rw[o.gm _ (by omega)];rfl) (fun j hj=>o.free _) (fun v hv=>h1 v (Nb hv))
 obtain⟨W1,hW1⟩:∃W1,W1=w.drew.setCells g ((i+m)*4) (xs.drop (i*4)):=⟨_,rfl⟩
 have o1:ae W1 g (cF cur ((i+m)*4) (xs.drop (i*4))).toArray 113:=by rw[hW1];exact(ae.drew o).pM _ _ N4
 have ov1:ae W1 vb ys.toArray 113:=by rw[hW1];exact(ae.drew ov).Dv hvb _ _
 have Px:=gZ N4
 have Qs:i*4+ys.length<=(cF cur ((i+m)*4) (xs.drop (i*4))).length:=by rw[Px,hys,Pe];omega
 have aao:∀ty dc,(Builtin.copy_ #[50,50] ty #[.slice (some ⟨g,i*4,none⟩) (n+m-i) dc,.slice (some ⟨vb,0,none⟩) m m]).run Tryz.prog W1=.ok (.int .i64 ((m:Nat):Int)) (W1.setCells g (i*4) ys):=fun ty dc=>
  kB W1 _ _ ty 113 4 g (i*4) (n+m-i) dc ⟨vb,0,none⟩ m m m ys Tryz.underlying50 O4 (by show min _ _=_;omega) (by rw[hys,hm])
   (fun j v hj=>by
    have Sr:=(MI.1 hj).1
    rw[My,Nat.zero_add,ov1.gm j Sr,<-hj,Mw Sr])
   (fun j hj=>by rw[o1.gm _ (by omega)];rfl) (fun j hj=>o1.free _) h2
 have hO:Hid (ae (W1.setCells g (i*4) ys) g (cF (cF cur ((i+m)*4) (xs.drop (i*4))) (i*4) ys).toArray 113):=o1.pM _ _ Qs
 have hKP:Hid (∀S:List Nat,(∀g',(Value.slice (some ⟨g,0,none⟩) n cap).ownBlock=some g'->g'∈S)->aa S w (W1.setCells g (i*4) ys)):=by
  exact M81
 have N6:Hid ((W1.setCells g (i*4) ys).ownsRow base 113 4 (.slice (some ⟨g,0,none⟩) (n+m) cap) (n+1) (xs.take (i*4)++ys++xs.drop (i*4))):=by
  have:=kK (base:=base) (n:=n+1) (cap:=cap) hO.out hb (by omega) Pb (by rw[gZ Qs,Px,Pe])
  subst hm
  rw[Ic Pc Ph hys (by omega) Vv]at this
  exact this
 rw[<-hW1]at Ww
 clear hW1 o1 ov1 Px N4 Qs Rk o ov Pe Pc Vv h1 h2 Us hm
 go_enter Tryz.func270,Tryz.ntmps270
 go_wp2_with (simp only[Yi])
 go_region_law (refine step_copy_runJ rfl _ _ 50 50 rfl _ _ (by simp[Act.eval,Act.put]) (by simp[Act.eval,Act.put]) (Ww _ _ _) ?_)
 go_wp2_with (at_builtin;refine Lib.wpList_copy_run _ rfl _ _ 50 50 rfl _ _ rfl rfl (aao _ _) ?_)
 go_ret
 exact⟨_,rfl,N6.out,hKP.out⟩
end Go.Proofs.YtdkimcnlhmhpgaaGreat

/- -/
import Derived.Test.YtdkimcnlhmhpgaaGreatM13
import Derived.Lib.Overlaps
import Derived.Lib.SlBuf
set_option maxHeartbeats 32000000
set_option maxRecDepth 100000
namespace Go.Proofs.YtdkimcnlhmhpgaaGreat
open Go.Proofs.Tryz Go.RowKit
variable {w w':World} {v:Value} {n b:Nat} {cur:List Value} {t:TypeId}
def bd (w:World) (x:NS×Value):Prop:=af w x.2 x.1.runs 0 w.heap.size/\x.1.fits/\∀r∈x.1.runs,aQ r
theorem af.upto {l:List (Int×Int)} {lo hi:Nat} (h:af w v l lo hi):af w v l 0 w:=by
 rcases h with h|⟨b,off,c,h1,h2,h3,h4,h5,h6⟩
 .exact Or.inl h
 .exact Or.inr ⟨b,off,c,h1,h2,Nb _,MR h4 h5,MG _,h6⟩
theorem bd.kept0 {x:NS×Value} (h:bd w x) (k:NP [] w w'):bd w' x:=⟨(h.1.kept0 k).upto,h.2⟩
theorem bd.fz {x:NS×Value} (h:bd w x):fP x.2:=by
 have⟨p,c,e⟩:=h.1.shape
 exact⟨p,_,c,e⟩
def aU (w:World) (v:Value) (l:List NS):Prop:=∃vs:List (NS×Value),vs.map (·.1)=l/\bO w v vs.length 4 (NX vs)/\∀x∈vs,bd w x
variable {l:List NS}
theorem aU.kept0 (h:aU w v l) (k:NP [] w w'):aU w' v l:=by
 have⟨vs,h1,h2,h3⟩:=h
 exact⟨vs,h1,h2.kept0 k,fun x hx=>(h3 x hx).kept0 k⟩
theorem aU.shape (h:aU w v l):∃p c,v=.slice p l.length c:=by
 obtain⟨vs,rfl,h2,h3⟩:=h
 rw[MP]
 exact h2.shape
theorem aU.ja {p:Option Addr} {c:Nat} (h:aU w (p,n,c) l) (i:Nat) (hi:i<l.length):
  ∃b off kv,p=some ⟨b,off,none⟩/\bd w (l[i],kv)/\b<w.heap.size/\l.length<=c/\c<=maxLen/\∀W,NP [] w W->W.cell? ⟨b,off+i*4,none⟩=some (.int .u32 l[i].id)/\W.cell? ⟨b,off+i*4+1,none⟩=some (.string (bs l[i].name))/\W.cell? ⟨b,off+i*4+2,none⟩=some (.int .i64 l[i].size)/\W.cell? ⟨b,off+i*4+3,none⟩=some kv:=by
 obtain⟨vs,rfl,h2,h3⟩:=h
 have hi':i<vs.length:=_D
 have⟨p',c',e⟩:=h2.shape
 injection e with e1 e2 e3
 subst e1 e2 e3
 have⟨b,off,e,hc,hb,h6,h7⟩:=h2.at_ _a
 subst e
 have⟨g0,g1,g2,g3⟩:=tc vs i hi'
 refine⟨b,off,vs[i].2,rfl,?_,hb,by rw[MP];exact h6,h7,fun W k=>?_⟩
 .rw[Ny];exact h3 _ (MJ hi')
 .rw[Ny]
  have hk:∀j u,(NX vs)[j]? =some u->W.cell? ⟨b,off+j,none⟩=some u:=fun j u hj=>(k.cell (by exact hb) _b).trans (hc j u hj)
  exact⟨hk _ _ g0,hk _ _ g1,hk _ _ g2,hk _ _ g3⟩
variable {x:NS}
theorem C9 (h:cG l) {m:Nat} (hm:m<l.length):bY l[m] x=true↔m<Og l x:=by
 constructor
 .intro hl
  by_cases g:m<Og l x
  .exact g
  .rw[h.ge hm _a]at hl;cases hl
 .intro g;exact TM g
def oa (l:List NS) (w:World) (e:Ending) (w':World):Prop:=∃q,e=.returned (.bool q)/\(q=true↔cG l)/\NP [] w w'
theorem yq {k:Nat} (hk:k+1<l.length) {w w':World} (h:bY l[k] l[k+1]=false) (q:NP [] w w'):oa l w (.returned false) w':=
 ⟨false,rfl,⟨fun h'=>(by cases h'),fun hr=>(by rw[hr.at_ hk (Nat.lt_succ_self k)]at h;cases h)⟩,q⟩
theorem wJ {l:List NS} {w w':World} (h:∀k (hk:k+1<l.length),bY l[k] l[k+1]=true) (q:NP [] w w'):oa l w (.returned true) w':=
 ⟨true,rfl,⟨fun _=>pf h,fun _=>rfl⟩,q⟩
theorem Kn (v:Value) (l:List NS) (w:World) (h:aU w v l) (hl:l.length<=1000000):
  am! 232 #[v,.func (.func 233) #[] #[]] w (oa l w):=by
 obtain⟨p,c,rfl⟩:=h.shape
 have H:=tK h
 have Tg:(l.length:Int)<=1000000:=_a
 have ho:=BL
 have HO:=tK ho
 clear h ho
 go_enter func232,ntmps232
 go_wp2_with fail
 go_loopw [5] (fun i wr=>∃k:Nat,1<=k/\i=(k:Int)/\(∀j (hj:j+1<l.length),j+1<k->bY l[j] l[j+1]=true)/\NP [] w wr/\k<=1000001) (fun i _=>l.length+1-(intOf i).toNat)
 case atStart=>exact⟨1,MG _,rfl,fun j hj h=>_a,NP.refl _ _,_a⟩
 case round=>
  obtain⟨k,OP,rfl,hd,hK,hkm⟩:=hrel
  by_cases NV:k<l.length
  .have Oo:k<l.length:=NV
   obtain⟨m,hm⟩:∃m,k=m+1:=⟨k-1,_a⟩
   have e1:(k:Int)-1=(m:Int):=_a
   have TF:m<l.length:=_a
   have w1:IntKind.i64.wrap (m:Int)=(m:Int):=_M
   obtain⟨b,off,kva,rfl,_,hb,RU,hc2,HA⟩:=H.out.ja m TF
   have⟨b',off',kvb,e,_,_,_,_,HB⟩:=H.out.ja k Oo
   injection e with e
   injection e with e2 e3 _
   subst e2 e3
   have Tf:=HO.out (l[m]'TF) (l[k]'Oo) kva kvb
   obtain⟨R,hR⟩:∃R,mu (l[m]'TF) (l[k]'Oo)=R:=⟨_,rfl⟩
   have hRc:(R<0/\bY (l[m]'TF) (l[k]'Oo)=true)\/(0<=R/\bY (l[m]'TF) (l[k]'Oo)=false):=by
    rw[<-hR]
    cases g:bY (l[m]'TF) (l[k]'Oo)
    .exact Or.inr ⟨by have:=mt qn.1 (by rw[g];decide:¬bY (l[m]'TF) (l[k]'Oo)=true);omega,rfl⟩
    .exact Or.inl ⟨qn.2 g,rfl⟩
   rw[hR]at Tf
   have i1:(m:Int)<l.length:=_a
   have i2:(k:Int)<l.length:=_a
   have i3:(0:Int)<=m:=_a
   have⟨HC,SZ,HD,HM,Of,SI⟩:=gj! Tf hRc hd hm NV hK
   have Xv:Hid (∀W,NP [] w W->(W.cell? (aa b (off+m*4))=some (.int .u32 (l[m]'TF).id)/\W.cell? (aa b (off+m*4+1))=some (.string (bs (l[m]'TF).name))/\W.cell? (aa b (off+m*4+2))=some (.int .i64 (l[m]'TF).size)/\W.cell? (aa b (off+m*4+3))=some kva)/\(W.cell? (aa b (off+k*4))=some (.int .u32 (l[k]'Oo).id)/\W.cell? (aa b (off+k*4+1))=some (.string (bs (l[k]'Oo).name))/\W.cell? (aa b (off+k*4+2))=some (.int .i64 (l[k]'Oo).size)/\W.cell? (aa b (off+k*4+3))=some kvb)):=tK (fun W q=>⟨HA W q,HB W q⟩)
   unfold NS.cells at HC
   clear HA HB Tf hRc hd hR
   generalize hLA:l[m]'TF=A at HC Xv SZ
   generalize hLB:l[k]'Oo=B at HC Xv SZ
   have⟨HLA,HLB⟩:=_f hLA hLB
   clear hLA hLB NV hm
   go_wp2_with fail
   refine MK (S:=(fun W=>(W.cell? (aa b (off+m*4))=(A.id,())/\W.cell? (aa b (off+m*4+1))=A.name/\W.cell? (aa b (off+m*4+2))=A.size/\W.cell? (aa b (off+m*4+3))=some kva)/\(W.cell? (aa b (off+k*4))=(B.id,())/\W.cell? (aa b (off+k*4+1))=B.name/\W.cell? (aa b (off+k*4+2))=B.size/\W.cell? (aa b (off+k*4+3))=some kvb))) _c (by exact Xv.out _ SI.out.drew) (fun hHeld=>?_)
   refine tS ?_
   refine rD 10 (fun K hK=>?_)
   go_simp
   ((with_reducible refine(HC.out _).mono ?_));rintro e w2 ⟨rfl,k2⟩
   have KK:=tK (SI.out.drew.trans k2)
   go_wp2_with fail
   refine hK.out _ _ (Xv.out _ KK.out) (fun hHeld=>nM ?_)
   clear hK K
   refine tS ?_
   refine Ng _c ?_ _
   rcases SZ.out with⟨YH,TZ⟩|⟨YH,TZ⟩
   .have QU:decide (0<=R)=false:=_e
    go_wp2_with fail
    go_roundw
    case rel=>exact⟨k+1,_a,_L,fun j hj hjk=>by
     by_cases ZO:j+1<k
     .exact HD.out j hj ZO
     .have hjm:j=m:=by have:=HM.out;omega
      subst hjm
      have e4:=HLB.out
      have e5:=HLA.out
      have abB:=HM.out
      subst abB
      rw[e4,e5];exact TZ,KK.out,by have:=Of.out;omega⟩
    case measure=>(have:=Of.out;simp[intOf];omega)
   .have QU:decide (0<=R)=true:=_e
    go_wp2_with fail
    go_ret
    have abB:=HM.out
    subst abB
    exact yq Of.out (by rw[HLB.out,HLA.out];exact TZ) KK.out
  .have i1:¬(k:Int)<l.length:=_a
   have hd':∀j (hj:j+1<l.length),bY l[j] l[j+1]=true:=fun j hj=>hd j hj _a
   have HD:=tK hd'
   clear hd hd'
   go_wp2_with fail
   go_ret
   exact wJ HD.out hK
def gA (l:List NS) (x:NS) (w:World) (e:Ending) (w':World):Prop:=∃q,e=.returned (.tuple #[(Og l x:Int),.bool q])/\(q=true↔di l x)/\NP [] w w'
theorem wt (hr:cG l) {k:Nat} (hk:Og l x=k) (h:l.length<=k) {w w':World} (q:NP [] w w'):gA l x w (.returned (.tuple #[(k:Int),false])) w':=
 ⟨false,by rw[hk],⟨fun h'=>(by cases h'),fun h'=>absurd h' (EU hr _a)⟩,q⟩
theorem yk (hr:cG l) {k:Nat} (hk:Og l x=k) (h:k<l.length) {b:Bool} (hb:b=cO l[k] x) {w w':World} (q:NP [] w w'):gA l x w (.returned (.tuple #[(k:Int),.bool b])) w':=by
 subst hk
 exact⟨b,rfl,by rw[hb];exact ES hr h,q⟩
theorem D6 (v:Value) (l:List NS) (x:NS) (xv:Value) (w:World) (h:aU w v l) (hl:l.length<=1000000) (hr:cG l):
  am! 269 #[v,.agg (x.cells xv),.func (.func 233) #[] #[]] w (gA l x w):=by
 obtain⟨p,c,rfl⟩:=h.shape
 have⟨H,HR⟩:=_f h hr
 have Tg:(l.length:Int)<=1000000:=_a
 have ho:=BL
 have HO:=tK ho
 have Xp:=jv l x
 have HP:=tK Xp
 have oX:=ae.new w (x.cells xv) 113
 have k0:NP [] w (w.alloc (.cells (x.cells xv) 113)):=(NP.refl _ _).alloc _
 unfold NS.cells at oX k0 ⊢
 have⟨x0,x1,x2,x3⟩:=oX.c4
 have⟨OX,K0⟩:=_f oX k0
 clear h hr ho Xp oX k0
 go_enter func269,ntmps269
 go_wp2_with fail
 go_loopw [9,10] (fun i j wr=>∃lo hi:Nat,i=(lo:Int)/\j=(hi:Int)/\lo<=Og l x/\Og l x<=hi/\hi<=l.length/\NP [] w wr/\ae wr w #[(x.id,()),x.name,x.size,xv] 113) (fun i j _=>(intOf j).toNat-(intOf i).toNat)
 case atStart=>exact⟨0,l.length,rfl,rfl,Nb _,HP.out,MG _,K0.out,OX.out⟩
 case round=>
  obtain⟨lo,hi,rfl,rfl,hlo,WL,hle,hK,oX⟩:=hrel
  by_cases NV:lo<hi
  .have i1:(lo:Int)<hi:=_a
   obtain⟨m,hm⟩:∃m,(lo+hi)/2=m:=⟨_,rfl⟩
   have e1:((lo:Int)+hi)/2=(m:Int):=_a
   have TF:m<l.length:=_a
   have hmb:lo<=m/\m<hi:=_a
   have i2:(m:Int)<l.length:=_a
   obtain⟨b,off,kv,rfl,_,hb,RU,hc2,HA⟩:=H.out.ja m TF
   have Tf:=HO.out (l[m]'TF) x kv xv
   obtain⟨R,hR⟩:∃R,mu (l[m]'TF) x=R:=⟨_,rfl⟩
   have hRc:(R<0/\m<Og l x)\/(0<=R/\Og l x<=m):=by
    rw[<-hR]
    by_cases g:m<Og l x
    .exact Or.inl ⟨qn.2 ((C9 HR.out TF).2 g),g⟩
    .refine Or.inr ⟨?_,_a⟩
     have:=mt qn.1 (fun h=>g ((C9 HR.out TF).1 h))
     omega
   rw[hR]at Tf
   unfold NS.cells at Tf
   have⟨HC,SZ⟩:=_f Tf hRc
   have HMB:=tK (And.intro hmb TF)
   have HLH:=tK (And.intro hlo (And.intro WL hle))
   have⟨SI,OX2⟩:=_f hK oX
   have HAX:Hid (∀W,NP [] w W->ae W w #[(x.id,()),x.name,x.size,xv] 113->(W.cell? (aa b (off+m*4))=some (.int .u32 (l[m]'TF).id)/\W.cell? (aa b (off+m*4+1))=some (.string (bs (l[m]'TF).name))/\W.cell? (aa b (off+m*4+2))=some (.int .i64 (l[m]'TF).size)/\W.cell? (aa b (off+m*4+3))=some kv)/\(W.cell? w=(x.id,())/\W.cell? (aa w 1)=x.name/\W.cell? (aa w 2)=x.size/\W.cell? (aa w 3)=some xv)):=tK (fun W q o=>⟨HA W q,o.c4⟩)
   clear HA Tf hRc hR hmb hlo WL hle NV hm
   generalize hLA:l[m]'TF=A at HC HAX
   clear hLA
   obtain⟨P,hP⟩:∃P,Og l x=P:=⟨_,rfl⟩
   rw[hP]at SZ HLH
   have HPP:=tK hP
   clear hP
   go_wp2_with fail
   refine MK (S:=(fun W=>(W.cell? (aa b (off+m*4))=(A.id,())/\W.cell? (aa b (off+m*4+1))=A.name/\W.cell? (aa b (off+m*4+2))=A.size/\W.cell? (aa b (off+m*4+3))=some kv)/\(W.cell? w=(x.id,())/\W.cell? (aa w 1)=x.name/\W.cell? (aa w 2)=x.size/\W.cell? (aa w 3)=some xv))) _c (by exact HAX.out _ SI.out.drew OX2.out.drew) (fun hHeld=>?_)
   refine tS ?_
   refine rD 6 (fun K hK=>?_)
   go_simp
   ((with_reducible refine(HC.out _).mono ?_));rintro e w2 ⟨rfl,k2⟩
   have KK:=tK (SI.out.drew.trans k2)
   have O2:=tK (k2.own OX2.out.drew _b)
   go_wp2_with fail
   refine hK.out _ _ (HAX.out _ KK.out O2.out) (fun hHeld=>nM ?_)
   clear hK K
   refine tS ?_
   refine Ng _c ?_ _
   rcases SZ.out with⟨YH,hp⟩|⟨YH,hp⟩
   .have QU:decide (R<0)=true:=_e
    have HP2:=tK hp
    clear hp
    go_wp2_with fail
    go_roundw
    case rel=>exact⟨m+1,hi,_L,rfl,by rw[HPP.out];exact HP2.out,by rw[HPP.out];exact HLH.out.2.1,HLH.out.2.2,KK.out,O2.out⟩
    case measure=>(have:=HMB.out;simp[intOf];omega)
   .have QU:decide (R<0)=false:=_e
    have HP2:=tK hp
    clear hp
    go_wp2_with fail
    go_roundw
    case rel=>exact⟨lo,m,rfl,rfl,by rw[HPP.out];exact HLH.out.1,by rw[HPP.out];exact HP2.out,by have:=HMB.out;omega,KK.out,O2.out⟩
    case measure=>(have:=HMB.out;simp[intOf];omega)
  .obtain rfl:lo=hi:=_a
   have Yj:Og l x=lo:=_a
   have i1:¬(lo:Int)<lo:=_a
   by_cases TZ:lo<l.length
   .have i2:(lo:Int)<l.length:=_a
    obtain⟨b,off,kv,rfl,_,hb,RU,hc2,HA⟩:=H.out.ja lo TZ
    have Tf:=HO.out (l[lo]'TZ) x kv xv
    obtain⟨R,hR⟩:∃R,mu (l[lo]'TZ) x=R:=⟨_,rfl⟩
    have hRc:(R==0)=cO (l[lo]'TZ) x:=by
     rw[<-hR]
     cases g:cO (l[lo]'TZ) x
     .have:=mt uT.1 (by rw[g];decide:¬cO (l[lo]'TZ) x=true)
      simpa using this
     .simpa using uT.2 g
    have abU:=fun W (q:NP [] w W)=>yk HR.out Yj TZ hRc q
    have abr:=tK abU
    rw[hR]at Tf
    unfold NS.cells at Tf
    have⟨HC,SI,OX2⟩:=gg! Tf hK oX
    have HAX:Hid (∀W,NP [] w W->ae W w #[(x.id,()),x.name,x.size,xv] 113->(W.cell? (aa b (off+lo*4))=some (.int .u32 (l[lo]'TZ).id)/\W.cell? (aa b (off+lo*4+1))=some (.string (bs (l[lo]'TZ).name))/\W.cell? (aa b (off+lo*4+2))=some (.int .i64 (l[lo]'TZ).size)/\W.cell? (aa b (off+lo*4+3))=some kv)/\(W.cell? w=(x.id,())/\W.cell? (aa w 1)=x.name/\W.cell? (aa w 2)=x.size/\W.cell? (aa w 3)=some xv)):=tK (fun W q o=>⟨HA W q,o.c4⟩)
    clear HA Tf hR hRc abU hlo WL hle NV
    generalize hLA:l[lo]'TZ=A at HC HAX
    clear hLA
    go_wp2_with fail
    refine MK (S:=(fun W=>(W.cell? (aa b (off+lo*4))=(A.id,())/\W.cell? (aa b (off+lo*4+1))=A.name/\W.cell? (aa b (off+lo*4+2))=A.size/\W.cell? (aa b (off+lo*4+3))=some kv)/\(W.cell? w=(x.id,())/\W.cell? (aa w 1)=x.name/\W.cell? (aa w 2)=x.size/\W.cell? (aa w 3)=some xv))) _c (by exact HAX.out _ SI.out.drew OX2.out.drew) (fun hHeld=>?_)
    refine tS ?_
    refine rD 11 (fun K hK=>?_)
    go_simp
    ((with_reducible refine(HC.out _).mono ?_));rintro e w2 ⟨rfl,k2⟩
    have KK:=tK (SI.out.drew.trans k2)
    have O2:=tK (k2.own OX2.out.drew _b)
    go_wp2_with fail
    refine hK.out _ _ (HAX.out _ KK.out O2.out) (fun hHeld=>nM ?_)
    clear hK K
    refine tS ?_
    refine Ng _c ?_ _
    go_wp2_with fail
    go_ret2
    exact abr.out _ KK.out
   .have i2:¬(lo:Int)<l.length:=_a
    have abr:=tK (wt HR.out Yj _a hK.drew)
    clear hlo WL hle NV
    have SI:=tK hK
    have i3:decide ((lo:Int)<l.length)=false:=_e
    go_wp2_with fail
    refine MK (S:=(fun _=>True)) _c (by trivial) (fun hHeld=>?_)
    refine tS ?_
    refine Ng _c ?_ _
    go_wp2_with fail
    go_ret2
    exact abr.out
theorem Ab (v:Value) (l:List NS) (x:NS) (xv:Value) (w:World) (h:aU w v l) (hl:l.length<=1000000) (hr:cG l):
  am! 234 #[v,.agg (x.cells xv),.func (.func 233) #[] #[]] w (gA l x w):=by
 have hb:=fun W (q:NP [] w W)=>D6 v l x xv W (h.kept0 q) hl hr
 unfold gA at hb ⊢
 obtain⟨p,c,rfl⟩:=h.shape
 have HB:=tK hb
 have oX:=ae.new w (x.cells xv) 113
 have k0:NP [] w (w.alloc (.cells (x.cells xv) 113)):=(NP.refl _ _).alloc _
 unfold NS.cells at oX k0 HB ⊢
 have⟨x0,x1,x2,x3⟩:=oX.c4
 have K0:=tK k0
 clear h hb oX k0 hr hl
 generalize Og l x=P at*
 go_enter func234,ntmps234
 go_wp2_with fail
 refine(HB.out _ K0.out).mono ?_;rintro e w2 ⟨q,rfl,hq,k2⟩
 have HQ:=tK hq
 clear hq
 go_wp2_with fail
 go_ret2
 exact⟨q,rfl,HQ.out,K0.out.trans k2⟩
theorem Gu (k:Int) (x:NS) (xv:Value) (w:World) (hs:fP xv):am! 182 #[k,.agg (x.cells xv)] w fun e w'=>e=.returned (.agg ((x.told k).cells xv))/\NP [] w w':=by
 obtain⟨p,n,c,rfl⟩:=hs
 have oX:=ae.new w (x.cells (p,n,c)) 113
 unfold NS.cells at oX
 have⟨x0,x1,x2,x3⟩:=oX.c4
 clear oX
 unfold NS.told ag.cells NS.cells
 go_enter func182,ntmps182
 go_wp2_with fail
 have o2:=ae.new (w.alloc (.cells #[(x.id,()),x.name,x.size,(p,n,c)] 113)) #[k,(x.id,()),x.name,x.size,(p,n,c)] 102
 simp only[Nd]at o2
 refine MN (v:=.agg #[k,(x.id,()),x.name,x.size,(p,n,c)]) (iu results182 rfl (t:=102) ?_ underlying102 rfl _c) rfl ⟨rfl,?_⟩
 .exact o2
 .exact((NP.refl _ _).alloc _).alloc _
def NS.same (a b:NS):Bool:=a.id==b.id&&(a.name==b.name&&(a.size==b.size&&a.runs==b.runs))
theorem NS.Ep {a b:NS}:a.same b=true↔a=b:=by
 have⟨a1,a2,a3,a4⟩:=a
 have⟨b1,b2,b3,b4⟩:=b
 unfold NS.same
 simp
theorem NS.four (a b:NS):((a.id==b.id)=false/\a.same b=false)\/((a.id==b.id)=true/\(a.name==b.name)=false/\a.same b=false)\/((a.id==b.id)=true/\(a.name==b.name)=true/\(a.size==b.size)=false/\a.same b=false)\/((a.id==b.id)=true/\(a.name==b.name)=true/\(a.size==b.size)=true/\a.same b=(a.runs==b.runs)):=by
 unfold NS.same
 cases a.id==b.id<;>cases a.name==b.name<;>cases a.size==b.size<;>simp
theorem iY (a b:List UInt8) {x:Bool} (h:(a==b)=x):(bs a==bs b)=x/\((bs a).toList==(bs b).toList)=x:=by
 have h1:(bs a==bs b)=x:=by rw[Kd,h]
 exact⟨h1,by rw[bj,bj,h]⟩
def iA (base:Nat) (v:Value) (n:Nat) (xs:List Value) (w:World) (e:Ending) (w':World):Prop:=
 ∃v',e=.returned v'/\w'.ownsRow base 113 4 v' n xs/\∀S,(∀g,v.ownBlock=some g->g∈S)->NP S w w'
def QE:List Value:=[.int .u32 0,.string {data:=#[]},.int .i64 0,.slice none 0 0]
theorem tT (w:World) (ty:TypeId) (b o c k:Nat) (hk:k=1) (hc:∀j,j<4->(w.cell? ⟨b,o+j,none⟩).isSome=true) (hf:∀j,j<4->w.frozen? ⟨b,o+j,none⟩=false):
  (Builtin.clear_ #[50] ty #[.slice (some (aa b o)) k c]).run prog w=.ok (.tuple #[]) (w.setCells b o QE):=by
 subst hk
 have⟨i0,hi0,Rh,Qc,Qx⟩:=fg
 have Oo:=run_storeCells_cells (P:=prog) b o QE 0 w (by simpa[QE]using hc) (by simpa[QE]using hf) (by intro v hv;simp[QE]at hv;rcases hv with rfl|rfl|rfl|rfl<;>rfl)
 rw[Nat.add_zero]at Oo
 have hzc:(Builtin.zeroCells (Value.agg #[.int .u32 0,.string {data:=#[]},(0:Int),()]).cells 1).toList=QE:=by
  simp[Builtin.zeroCells,Value.cells,QE,Array.range]
 simp[Builtin.clear_,run_underlying underlying50,zeroValue,typeInfo,hi0,Rh,hzc,Oo]
theorem kK {base g cap:Nat} (o:ae w g cur.toArray 113) (hb:base<=g) (hn:n<=cap) (hc:cap<=maxLen) (hl:cur.length=cap*4):w.ownsRow base 113 4 (g,n,cap) n (cur.take (n*4)):=by
 refine⟨?_,Or.inr ⟨g,cap,cur.toArray,rfl,hb,o,hn,hc,ae!,rfl⟩⟩
 rw[MO,hl]
 have:=Nat.mul_le_mul_right 4 hn
 omega
theorem ae.fQ (h:ae w b cur.toArray t) (j:Nat) (hj:j<cur.length):w.cell? (aa b j)=some cur[j]:=by
 rw[h.cell j A!];simp
theorem adt {A:Prop}(h:A:=by
 intro S hS
 have hgS:=hS g (by simp[Value.ownBlock])
 rw[hW1]
 exact fA (Or.inl hgS) _ _ (fA (Or.inl hgS) _ _ (NP.refl _ _).drew)):A:=h
theorem M90 {A:Prop}(h:A:=by
 have UL:t<cur.length:=by rw[Qg];have:=Nat.mul_le_mul_right 4 SR;omega
 rw[o.fQ t UL,<-PF,List.getElem?_take_of_lt ht,MZ UL]):A:=h
theorem GU (base:Nat) (v:Value) (n:Nat) (xs:List Value) (i j:Nat) (w:World) (h:w.ownsRow base 113 4 v n xs) (h1:∀u∈xs,u.oneCell'=true) (hi:i<n) (hj:j=i+1):
  am! 236 #[v,(i:Int),(j:Int)] w (iA base v (n-1) (xs.take (i*4)++xs.drop (j*4)) w):=by
 rcases h.2 with⟨_,h0⟩|⟨g,cap,cur0,rfl,hb,hg,SR,PT,Sk,htake⟩
 .omega
 .obtain⟨cur,rfl⟩:∃cur:List Value,cur0=cur.toArray:=⟨cur0.toList,_b⟩
  have o:ae w g cur.toArray 113:=hg
  have Qg:cur.length=cap*4:=by simpa using Sk
  have PF:cur.take (n*4)=xs:=af!
  have hjn:j<=n:=_a
  have XM:=h.1
  have⟨i0,hi0,Rh,Qc,Qx⟩:=fg
  have NV:i<j:=_a
  have acz:cap<=9223372036854775807:=PT
  obtain⟨news,hnews⟩:∃news,news=xs.drop (j*4):=⟨_,rfl⟩
  have hlen:news.length=(n-j)*4:=by rw[hnews,MQ,XM];omega
  have Ou:∀t,t<n*4->w.cell? ⟨g,t,none⟩=xs[t]? :=fun t ht=>by
   exact M90
  obtain⟨A,hA,P4⟩:∃A:Addr,(if cap=j then some (g:Addr)else some (aa g (j*4)))=some A/\Hid (∀t u,news[t]? =some u->w.drew.cell? (A.add t)=some u):=by
   by_cases hc:cap=j
   .refine⟨g,by simp[hc],fun t u hu=>?_⟩
    have h0:news.length=0:=by rw[hlen];omega
    rw[List.length_eq_zero_iff.1 h0]at hu
    simp at hu
   .refine⟨(aa g (j*4)),by simp[hc],fun t u hu=>?_⟩
    have ht:t<(n-j)*4:=by
     have:=(Nn.1 hu).1
     rwa[hlen]at this
    rw[hnews,List.getElem?_drop]at hu
    rw[Ni]
    show w.cell? _=_
    rw[Ou (j*4+t) _a]
    exact hu
  have s1:Hid (news.length=(n-j)*4):=hlen
  have s2:Hid (∀u∈news,u.oneCell'=true):=fun u hu=>h1 u (NF (by rw[hnews]at hu;exact hu))
  have s3:Hid (∀t,t<news.length->(w.drew.cell? ⟨g,0+i*4+t,none⟩).isSome=true/\w.drew.frozen? ⟨g,0+i*4+t,none⟩=false):=by
   intro t ht
   rw[hlen]at ht
   have UL:0+i*4+t<cur.length:=by rw[Qg];have:=Nat.mul_le_mul_right 4 SR;omega
   exact⟨by show(w.cell? _).isSome=true;rw[o.fQ _ UL];rfl,o.free _⟩
  obtain⟨W1,hW1⟩:∃W1,W1=w.drew.setCells g (0+i*4) news:=⟨_,rfl⟩
  have Oq:i*4+news.length<=cur.length:=by rw[hlen,Qg];have:=Nat.mul_le_mul_right 4 SR;omega
  have aad:ae W1 g (cJ cur (i*4) news).toArray 113:=by rw[hW1,Nat.zero_add];exact(ae.drew o).oV news (i*4) Oq
  have PX:(cJ cur (i*4) news).length=cap*4:=by rw[gV Oq,Qg]
  have ae0:∀ty,(Builtin.clear_ #[50] ty #[.slice (some (aa g ((i+(n-j))*4))) (n-(i+(n-j))) (cap-(i+(n-j)))]).run prog W1=.ok (.tuple #[]) (W1.setCells g ((i+(n-j))*4) QE):=fun ty=>
   tT W1 ty g _ _ _ _a (fun t ht=>by rw[aad.fQ _ u!];rfl) (fun t ht=>aad.free _)
  have Rz:Hid ((cJ (cJ cur (i*4) news) ((i+(n-j))*4) QE).take ((n-1)*4)=xs.take (i*4)++xs.drop (j*4)):=by
   show _=_
   have e1:(i+(n-j))*4=(n-1)*4:=_a
   have e2:(n-1)*4=i*4+news.length:=by rw[hlen];omega
   rw[e1,Ek u! (MG _),e2,oU Oq,hnews,<-PF,List.take_take]
   rw[Nat.min_eq_left _a]
  have Oy:Hid (∀W,ae W g (cJ (cJ cur (i*4) news) ((i+(n-j))*4) QE).toArray 113->W.ownsRow base 113 4 (g,i+(n-j),cap) (n-1) (xs.take (i*4)++xs.drop (j*4))):=by
   intro W oW
   have e1:i+(n-j)=n-1:=_a
   have Sc:(i+(n-j))*4+QE.length<=(cJ cur (i*4) news).length:=h!
   have:=kK (base:=base) (n:=n-1) (cap:=cap) oW hb _a PT (by rw[gV Sc,PX])
   rw[Rz.out]at this
   rw[e1]
   exact this
  have hKP:Hid (∀S:List Nat,(∀g',(Value.slice (some g) n cap).ownBlock=some g'->g'∈S)->NP S w (W1.setCells g ((i+(n-j))*4) QE)):=by
   exact adt
  have hO:Hid (ae (W1.setCells g ((i+(n-j))*4) QE) g (cJ (cJ cur (i*4) news) ((i+(n-j))*4) QE).toArray 113):=
   aad.oV QE _ h!
  have hW:Hid (W1=w.drew.setCells g (0+i*4) news):=hW1
  have hic:i<=cap:=_a
  have hjc:j<=cap:=_a
  have aeH:prog.info? 113=some i0:=hi0
  clear hW1 aad Ou hnews hlen o hg Sk Qg htake PF Oq PX h h1 XM Rz hj
  go_enter func236,ntmps236
  go_wp2_with fail
  go_region_law (refine step_append_room rfl (.tmp 22) (.tmp 25) 50 rfl 113 i0 4 underlying50 aeH Qc g 0 i cap _g A (n-j) (cap-j) news _g s1.out P4.out s2.out _a s3.out ?_;rw[<-hW.out])
  go_wp2
  go_ret
  exact⟨_,rfl,Oy.out _ hO.out,hKP.out⟩
theorem sR {cs:Array Value} (h:ae w b cs t):w.shape? b=some (t,cs.size):=by
 unfold World.shape?
 rw[show w.heap[b]? =some (.cells cs t (0,0))from h]
theorem Hd {xs ys:List Value} {i:Nat} (hx:cur.take (n*4)=xs) (P7:i<=n) (Uz:ys.length=4) (hl:(n+1)*4<=cur.length) (XM:xs.length=n*4):
  (cJ (cJ cur ((i+1)*4) (xs.drop (i*4))) (i*4) ys).take ((n+1)*4)=xs.take (i*4)++ys++xs.drop (i*4):=by
 have hd:(xs.drop (i*4)).length=(n-i)*4:=by rw[MQ,XM];omega
 have h1:(i+1)*4+(xs.drop (i*4)).length<=cur.length:=by rw[hd];omega
 have PX:=gV h1
 have h2:i*4+ys.length<=(cJ cur ((i+1)*4) (xs.drop (i*4))).length:=by rw[PX,Uz];omega
 unfold cJ at*
 have e1:(cur.take ((i+1)*4)).length=(i+1)*4:=_w
 have e2:(cur.take ((i+1)*4)++(xs.drop (i*4)++cur.drop ((i+1)*4+(xs.drop (i*4)).length))).take (i*4)=xs.take (i*4):=by
  rw[NC _a,List.take_take,Nat.min_eq_left _a,<-hx,List.take_take,Nat.min_eq_left _a]
 have e3:(cur.take ((i+1)*4)++(xs.drop (i*4)++cur.drop ((i+1)*4+(xs.drop (i*4)).length))).drop (i*4+ys.length)=xs.drop (i*4)++cur.drop ((i+1)*4+(xs.drop (i*4)).length):=by
  rw[List.drop_append_of_le_length _a,List.drop_of_length_le _a,NI]
 rw[e2,e3]
 have e4:(xs.take (i*4)).length=i*4:=_w
 rw[<-MW,<-MW,NC (by rw[tN,tN];omega),Nh (by rw[tN,tN];omega)]
theorem vF (base:Nat) (n:Nat) (xs:List Value) (i m:Nat) (w:World) (g cap:Nat) (cur:List Value) (vb:Nat) (ys:List Value) (o:ae w g cur.toArray 113) (hb:base<=g) (PT:cap<=maxLen) (Qg:cur.length=cap*4) (PF:cur.take (n*4)=xs) (XM:xs.length=n*4)
  (h1:∀u∈xs,u.oneCell'=true) (hi:i<n) (hm:m=1) (hroom:n+m<=cap) (ov:ae w vb ys.toArray 113) (Uz:ys.length=4) (h2:∀u∈ys,u.oneCell'=true) (hvb:vb≠g):
  am! 270 #[(g,n,cap),(i:Int),(vb,m,m)] w (iA base (g,n,cap) (n+1) (xs.take (i*4)++ys++xs.drop (i*4)) w):=by
 have⟨i0,hi0,Rh,hz1',hz2'⟩:=fg
 have PW:(prog.info? 113).map (·.size)=some 4:=by rw[hi0];simp[hz1']
 have Qc:¬((m:Int)=0):=_a
 have Qx:¬((i:Int)=(n:Int)):=_a
 have acz:cap<=9223372036854775807:=PT
 have hov:∀lb cb,(callFunc 292 #[(vb,m,m),.slice (some (aa g ((i+m)*4))) lb cb]).run prog w=.ok (.value false) w:=fun lb cb=>by
  rw[run_callFunc_extern func292 _c _c _c (e:=Extern.SlicesOverlaps.overlaps #[50,50] #[4]) _c,
   Lib.run_overlaps_apart w 50 4 113 underlying50 4 sizeOf113 ⟨vb,0,none⟩ ⟨g,(i+m)*4,none⟩ m m lb cb hvb _ _ _ _ (sR ov) (sR o) (by simp[Qg];omega) (ov.free _) (ov.free _)]
  rfl
 have Vf:(xs.drop (i*4)).length=(n-i)*4:=by rw[MQ,XM];omega
 have SU:IntKind.i64.wrap ((i:Int)+(m:Int))=(i:Int)+(m:Int):=_M
 have TG:(0:Int)<=(i:Int)+(m:Int):=_a
 have P7:i<=n:=_a
 have htn:((i:Int)+(m:Int)).toNat=i+m:=_a
 have Q3:¬(cap=i+m):=_a
 have hb3:(i:Int)<=(n:Int)+(m:Int):=_a
 have hb4:¬(cap=i):=_a
 have S7:=Nat.mul_le_mul_right 4 hroom
 have Oq:(i+m)*4+(xs.drop (i*4)).length<=cur.length:=by rw[Vf,Qg];omega
 have YU:∀ty dc sc,(Builtin.copy_ #[50,50] ty #[.slice (some (aa g ((i+m)*4))) (n+m-(i+m)) dc,.slice (some (aa g (i*4))) (n+m-i) sc]).run prog w.drew=.ok ((n-i:Nat):Int) (w.drew.setCells g ((i+m)*4) (xs.drop (i*4))):=fun ty dc sc=>
  kB w.drew _ _ ty 113 4 g ((i+m)*4) (n+m-(i+m)) dc (aa g (i*4)) (n+m-i) sc (n-i) (xs.drop (i*4)) underlying50 PW I! Vf
   (fun j v hj=>by
    have TT:=(Nn.1 hj).1
    rw[Vf]at TT
    rw[List.getElem?_drop]at hj
    rw[Ni]
    show w.cell? _=_
    have ZO:i*4+j<n*4:=_a
    have hj3:i*4+j<cur.length:=_a
    have e:cur[i*4+j]? =some v:=by rw[<-hj,<-PF,List.getElem?_take_of_lt ZO]
    rw[MZ hj3]at e
    rw[o.fQ _ hj3]
    exact e)
   (fun j hj=>by show(w.cell? _).isSome=true;rw[o.fQ _ _a];rfl) (fun j hj=>o.free _) (fun v hv=>h1 v (NF hv))
 obtain⟨W1,hW1⟩:∃W1,W1=w.drew.setCells g ((i+m)*4) (xs.drop (i*4)):=⟨_,rfl⟩
 have o1:ae W1 g (cJ cur ((i+m)*4) (xs.drop (i*4))).toArray 113:=by rw[hW1];exact(ae.drew o).oV _ _ Oq
 have ov1:ae W1 vb ys.toArray 113:=by rw[hW1];exact(ae.drew ov).CK hvb _ _
 have PX:=gV Oq
 have Sc:i*4+ys.length<=(cJ cur ((i+m)*4) (xs.drop (i*4))).length:=by rw[PX,Uz,Qg];omega
 have aa7:∀ty dc,(Builtin.copy_ #[50,50] ty #[.slice (some (aa g (i*4))) (n+m-i) dc,(vb,m,m)]).run prog W1=.ok ((m:Nat):Int) (W1.setCells g (i*4) ys):=fun ty dc=>
  kB W1 _ _ ty 113 4 g (i*4) (n+m-i) dc vb m m m ys underlying50 PW I! (by rw[Uz,hm])
   (fun j v hj=>by
    have TT:=(Nn.1 hj).1
    rw[Ni,Nat.zero_add,ov1.fQ j TT,<-hj,MZ TT])
   (fun j hj=>by rw[o1.fQ _ _a];rfl) (fun j hj=>o1.free _) h2
 have hO:Hid (ae (W1.setCells g (i*4) ys) g (cJ (cJ cur ((i+m)*4) (xs.drop (i*4))) (i*4) ys).toArray 113):=o1.oV _ _ Sc
 have hKP:Hid (∀S:List Nat,(∀g',(Value.slice (some g) n cap).ownBlock=some g'->g'∈S)->NP S w (W1.setCells g (i*4) ys)):=by
  exact adt
 have Oy:Hid ((W1.setCells g (i*4) ys).ownsRow base 113 4 (g,n+m,cap) (n+1) (xs.take (i*4)++ys++xs.drop (i*4))):=by
  have:=kK (base:=base) (n:=n+1) (cap:=cap) hO.out hb _a PT (by rw[gV Sc,PX,Qg])
  subst hm
  rw[Hd PF P7 Uz _a XM]at this
  exact this
 rw[<-hW1]at YU
 clear hW1 o1 ov1 PX Oq Sc Vf o ov Qg PF XM h1 h2 S7 hm
 go_enter func270,ntmps270
 go_wp2_with (simp only[hov])
 go_region_law (refine step_copy_runJ rfl _ _ 50 50 rfl _ _ _g _g (YU _ _ _) ?_)
 go_wp2_with (at_builtin;refine Lib.wpList_copy_run _ rfl _ _ 50 50 rfl _ _ rfl rfl (aa7 _ _) ?_)
 go_ret
 exact⟨_,rfl,Oy.out,hKP.out⟩
theorem Gk (X:Array Value):∃C:List Value,C.toArray=X:=⟨X.toList,_b⟩
theorem xX (base:Nat) (v:Value) (n:Nat) (xs:List Value) (m:Nat) (w:World) (vb:Nat) (ys:List Value) (h:w.ownsRow base 113 4 v n xs) (VG:base<=w.heap.size) (hm:m=1) (hn:n<=1000000) (ov:ae w vb ys.toArray 113) (Uz:ys.length=4) (h2:∀u∈ys,u.oneCell'=true):
  am! 270 #[v,(n:Int),(vb,m,m)] w (iA base v (n+1) (xs++ys) w):=by
 have⟨i0,hi0,Rh,hz1',hz2'⟩:=fg
 have Qc:¬((m:Int)=0):=_a
 have H:=tK h
 have QT:Hid (∀j u,ys[j]? =some u->w.cell? ((vb:Addr).add j)=some u):=fun j u hj=>by
  have TT:=(Nn.1 hj).1
  rw[Ni,Nat.zero_add,ov.fQ j TT,<-hj,MZ TT]
 have H2:=tK h2
 have HYS:Hid (ys.length=m*4):=tK (by rw[Uz,hm])
 have HM:=tK hm
 obtain⟨p,c,rfl⟩:=ah h
 have hcn:n<=c:=by
  rcases h.2 with⟨e,h0⟩|⟨g,cap,cur0,e,_,_,SR,_⟩
  .omega
  .injection e with _ _ e3;omega
 have afn:c<=9223372036854775807:=by
  rcases h.2 with⟨e,h0⟩|⟨g,cap,cur0,e,_,_,_,PT,_⟩
  .injection e with _ _ e3;omega
  .injection e with _ _ e3
   have:cap<=maxLen:=PT
   unfold maxLen at this;omega
 have hp:p=none->c=0:=fun e=>by
  subst e
  rcases h.2 with⟨e,h0⟩|⟨g,cap,cur0,e,_⟩
  .injection e
  .cases e
 clear h h2 Uz hm ov
 cases p with
 |none=>
  obtain rfl:=hp rfl
  obtain rfl:n=0:=_a
  go_enter func270,ntmps270
  go_wp2_with (at_builtin;refine MT w rfl (.tmp 23) (.tmp 24) 50 rfl base 113 i0 _ 4 56 underlying50 hi0 Rh hz1' hz2' rfl _d _ _ xs rfl H.out vb m m ys rfl HYS.out QT.out H2.out (by have:=HM.out;unfold maxLen;omega) (by have:=HM.out;omega) VG ?_)
  intro v' w1 Ot Pi Qw _
  have⟨HO,HG⟩:=_f Ot Pi
  clear Ot Pi Qw
  go_wp2_with fail
  go_ret
  exact⟨_,rfl,by have:=HO.out;rw[HM.out]at this;exact this,fun S hS=>(NP.refl S w).grown HG.out (fun k hk=>Or.inl (hS k hk))⟩
 |some a=>
  have⟨ab,ao,asp⟩:=a
  go_enter func270,ntmps270
  go_wp2_with (at_builtin;refine MT w rfl (.tmp 23) (.tmp 24) 50 rfl base 113 i0 _ 4 56 underlying50 hi0 Rh hz1' hz2' rfl _d _ _ xs rfl H.out vb m m ys rfl HYS.out QT.out H2.out (by have:=HM.out;unfold maxLen;omega) (by have:=HM.out;omega) VG ?_)
  all_goals (intro v' w1 Ot Pi Qw _)
  all_goals (have HO:=tK Ot)
  all_goals (have HG:=tK Pi)
  all_goals (clear Ot Pi Qw)
  all_goals go_wp2_with fail
  all_goals go_ret
  all_goals exact⟨_,rfl,by have:=HO.out;rw[HM.out]at this;exact this,fun S hS=>(NP.refl S w).grown HG.out (fun k hk=>Or.inl (hS k hk))⟩
theorem vT (base:Nat) (n:Nat) (xs:List Value) (i m:Nat) (w:World) (g cap:Nat) (cur:List Value) (vb:Nat) (ys:List Value) (o:ae w g cur.toArray 113) (hb:base<=g) (SR:n<=cap) (PT:cap<=maxLen) (Qg:cur.length=cap*4) (PF:cur.take (n*4)=xs) (XM:xs.length=n*4)
  (h1:∀u∈xs,u.oneCell'=true) (hi:i<n) (hn:n<=1000000) (hm:m=1) (hroom:cap<n+m) (ov:ae w vb ys.toArray 113) (Uz:ys.length=4) (h2:∀u∈ys,u.oneCell'=true):
  am! 270 #[(g,n,cap),(i:Int),(vb,m,m)] w (iA base (g,n,cap) (n+1) (xs.take (i*4)++ys++xs.drop (i*4)) w):=by
 have⟨i0,hi0,Rh,hz1',hz2'⟩:=fg
 have PW:(prog.info? 113).map (·.size)=some 4:=by rw[hi0];simp[hz1']
 have Qc:¬((m:Int)=0):=_a
 have Qx:¬((i:Int)=(n:Int)):=_a
 have acz:cap<=9223372036854775807:=PT
 have adK:g<w.heap.size:=o.lt
 obtain⟨q,hq⟩:∃q,n+m-i=q:=⟨_,rfl⟩
 have hq1:(n:Int)+(m:Int)-(i:Int)=(q:Int):=_a
 have hwq:IntKind.i64.wrap (q:Int)=(q:Int):=_M
 have Vf:(xs.drop (i*4)).length=(n-i)*4:=by rw[MQ,XM];omega
 have UY:(xs.take (i*4)).length=i*4:=by rw[MO,XM];omega
 have Ou:∀t,t<n*4->w.cell? ⟨g,t,none⟩=xs[t]? :=fun t ht=>by
  exact M90
 have hold:(Builtin.firstCells i0.size i (g,i,cap)).run prog w.drew=.ok (xs.take (i*4)).toArray w.drew:=
  run_firstCells_some w.drew i0.size i g i cap (xs.take (i*4)) (by rw[hz1',UY]) (fun j u hj=>by
   have TT:=(Nn.1 hj).1
   rw[UY]at TT
   rw[List.getElem?_take_of_lt TT]at hj
   rw[Ni,Nat.zero_add]
   show w.cell? _=_
   rw[Ou j _a];exact hj)
 have Oe:=fun ty=>Lib.run_append_grow_zeros (P:=prog) w 50 3 ty 113 i0 _ .i64 .i64 underlying50 underlying3 hi0 Rh (some g) i cap (xs.take (i*4)) hold q _a _a _a _a (by rw[hz2'];omega) (by rw[hz2'];exact growslice_fits _a _a)
 have hiq:i+q=n+m:=_a
 rw[hiq]at Oe
 have abo:=grownCap_le_maxLen w (n+m) cap 113 _m
 have hGn:n+m<=grownCap w (n+m) cap 113:=grownCap_ge w _ _ _
 obtain⟨G,hG⟩:∃G,G=grownCap w (n+m) cap 113:=⟨_,rfl⟩
 rw[<-hG]at Oe abo hGn
 have ZM:G<=9223372036854775807:=abo
 have⟨C,hC⟩:=Gk ((xs.take (i*4)).toArray++Builtin.zeroCells (Value.agg #[.int .u32 0,.string {data:=#[]},(0:Int),()]).cells q++Builtin.zeroCells (Value.agg #[.int .u32 0,.string {data:=#[]},(0:Int),()]).cells (G-(n+m)))
 rw[<-hC]at Oe
 have hCt:C.take (i*4)=xs.take (i*4):=by
  have e:=congrArg Array.toList hC
  simp only[Array.toList_append]at e
  rw[e,MW,NC (by rw[UY];exact MG _),Nh (by rw[UY];exact MG _)]
 have hCl:C.length=G*4:=by
  have e:=congrArg Array.size hC
  simp[Builtin.zeroCells,Value.cells,UY]at e
  rw[e]
  omega
 obtain⟨W1,hW1⟩:∃W1,W1=w.drew.alloc (.cells C.toArray 113):=⟨_,rfl⟩
 rw[<-hW1]at Oe
 have o1:ae W1 w C.toArray 113:=by rw[hW1];exact ae.new w.drew _ _
 have k1:∀S,NP S w W1:=fun S=>by rw[hW1];exact(NP.refl S w).drew.alloc _
 have ov1:ae W1 vb ys.toArray 113:=(k1 []).own ov _b
 have og1:ae W1 g cur.toArray 113:=(k1 []).own o _b
 have afk:vb<w.heap.size:=ov.lt
 have WW:i*4+ys.length<=C.length:=by rw[Uz,hCl];omega
 have YU:∀ty dc,(Builtin.copy_ #[50,50] ty #[.slice (some (aa w (i*4))) (n+m-i) dc,(vb,m,m)]).run prog W1=.ok ((m:Nat):Int) (W1.setCells w (i*4) ys):=fun ty dc=>
  kB W1 _ _ ty 113 4 w (i*4) (n+m-i) dc vb m m m ys underlying50 PW I! (by rw[Uz,hm])
   (fun j v hj=>by
    have TT:=(Nn.1 hj).1
    rw[Ni,Nat.zero_add,ov1.fQ j TT,<-hj,MZ TT])
   (fun j hj=>by rw[o1.fQ _ _a];rfl) (fun j hj=>o1.free _) h2
 obtain⟨W2,hW2⟩:∃W2,W2=W1.setCells w (i*4) ys:=⟨_,rfl⟩
 rw[<-hW2]at YU
 have o2:ae W2 w (cJ C (i*4) ys).toArray 113:=by rw[hW2];exact o1.oV _ _ WW
 have k2:∀S,NP S w W2:=fun S=>by rw[hW2];exact fA (Or.inr (MG _)) _ _ (k1 S)
 have og2:ae W2 g cur.toArray 113:=(k2 []).own o _b
 have PX:=gV WW
 have Sc:(i+m)*4+(xs.drop (i*4)).length<=(cJ C (i*4) ys).length:=by rw[PX,Vf,hCl];omega
 have aa7:∀ty dc sc,(Builtin.copy_ #[50,50] ty #[.slice (some (aa w ((i+m)*4))) (n+m-(i+m)) dc,.slice (some (aa g (i*4))) (n-i) sc]).run prog W2.drew=.ok ((n-i:Nat):Int) (W2.drew.setCells w ((i+m)*4) (xs.drop (i*4))):=fun ty dc sc=>
  kB W2.drew _ _ ty 113 4 w ((i+m)*4) (n+m-(i+m)) dc (aa g (i*4)) (n-i) sc (n-i) (xs.drop (i*4)) underlying50 PW I! Vf
   (fun j v hj=>by
    have TT:=(Nn.1 hj).1
    rw[Vf]at TT
    rw[List.getElem?_drop]at hj
    rw[Ni]
    show W2.cell? _=_
    have hj3:i*4+j<n*4:=_a
    rw[(k2 []).cell (by exact adK) _b,Ou _ hj3]
    exact hj)
   (fun j hj=>by show(W2.cell? _).isSome=true;rw[o2.fQ _ _a];rfl) (fun j hj=>o2.free _) (fun v hv=>h1 v (NF hv))
 have hO:Hid (ae (W2.drew.setCells w ((i+m)*4) (xs.drop (i*4))) w (cJ (cJ C (i*4) ys) ((i+m)*4) (xs.drop (i*4))).toArray 113):=(ae.drew o2).oV _ _ Sc
 have hKP:Hid (∀S:List Nat,NP S w (W2.drew.setCells w ((i+m)*4) (xs.drop (i*4)))):=fun S=>fA (Or.inr (MG _)) _ _ (k2 S).drew
 have Oy:Hid ((W2.drew.setCells w ((i+m)*4) (xs.drop (i*4))).ownsRow base 113 4 (w.heap.size,n+m,G) (n+1) (xs.take (i*4)++ys++xs.drop (i*4))):=by
  have:=kK (base:=base) (n:=n+1) (cap:=G) hO.out _a _a abo (by rw[gV Sc,PX,hCl])
  have e1:(n+1)*4=(i+m)*4+(xs.drop (i*4)).length:=by rw[Vf];omega
  have e2:(i+m)*4=i*4+ys.length:=by rw[Uz];omega
  have hE:(cJ (cJ C (i*4) ys) ((i+m)*4) (xs.drop (i*4))).take ((n+1)*4)=xs.take (i*4)++ys++xs.drop (i*4):=by
   rw[e1,oU Sc,e2,oU WW,hCt]
  rw[hE]at this
  rw[show n+m=n+1 by omega]
  exact this
 have TG:(0:Int)<=(i:Int)+(m:Int):=_a
 have P7:i<=n:=_a
 have SU:IntKind.i64.wrap ((i:Int)+(m:Int))=(i:Int)+(m:Int):=_M
 have TS:IntKind.i64.wrap ((n:Int)+(m:Int))=(n:Int)+(m:Int):=_M
 have htn:((i:Int)+(m:Int)).toNat=i+m:=_a
 have Q3:¬(G=i+m):=_a
 have hb3:(i:Int)+(m:Int)<=(n:Int)+(m:Int):=_a
 have hb4:¬(cap=i):=_a
 have XP:¬(G=i):=_a
 have hb6:(i:Int)<=(n:Int)+(m:Int):=_a
 have hb7:i+m<=n+m:=_a
 have hb8:i<=n+m:=_a
 have hb9:(cap:Int)<(n:Int)+(m:Int):=_a
 have hic:i<=cap:=_a
 clear hW1 hW2 o1 o2 ov1 og1 og2 k1 k2 PX WW Sc Vf UY o ov Qg PF XM h1 h2 Ou hold hG hC hCt hCl Uz hm hq hiq
 go_enter func270,ntmps270
 go_wp2_with (at_builtin;refine Lib.wpList_append_run _ rfl _ _ _ _ rfl _ _ rfl rfl _ _ (Oe _) ?_)
 go_wp2_with (at_builtin;refine Lib.wpList_copy_run _ rfl _ _ 50 50 rfl _ _ rfl rfl (YU _ _) ?_)
 go_region_law (refine step_copy_runJ rfl _ _ 50 50 rfl _ _ _g _g (aa7 _ _ _) ?_)
 go_wp2_with fail
 go_ret
 exact⟨_,rfl,Oy.out,fun S _=>hKP.out S⟩
theorem GS (base:Nat) (v:Value) (n:Nat) (xs:List Value) (i:Nat) (w:World) (vb:Nat) (ys:List Value) (h:w.ownsRow base 113 4 v n xs) (VG:base<=w.heap.size) (h1:∀u∈xs,u.oneCell'=true) (hi:i<=n) (hn:n<=1000000) (ov:ae w vb ys.toArray 113) (Uz:ys.length=4) (h2:∀u∈ys,u.oneCell'=true) (hvb:v.ownBlock≠some vb):
  am! 270 #[v,(i:Int),.slice (some vb) 1 1] w (iA base v (n+1) (xs.take (i*4)++ys++xs.drop (i*4)) w):=by
 by_cases P7:i=n
 .subst P7
  have e1:xs.take (i*4)=xs:=by rw[<-h.1];exact MU
  have e2:xs.drop (i*4)=[]:=by rw[<-h.1];exact List.drop_length
  rw[e1,e2,NO]
  exact xX base v i xs 1 w vb ys h VG rfl hn ov Uz h2
 .have h':=h
  rcases h.2 with⟨_,h0⟩|⟨g,cap,cur0,rfl,hb,hg,SR,PT,Sk,htake⟩
  .omega
  .obtain⟨cur,rfl⟩:∃cur:List Value,cur0=cur.toArray:=⟨cur0.toList,_b⟩
   have Pb:vb≠g:=fun e=>hvb (by rw[e];rfl)
   by_cases hr:n+1<=cap
   .exact vF base n xs i 1 w g cap cur vb ys hg hb PT (by simpa using Sk) af! h'.1 h1 _a rfl hr ov Uz h2 Pb
   .exact vT base n xs i 1 w g cap cur vb ys hg hb SR PT (by simpa using Sk) af! h'.1 h1 _a hn rfl _a ov Uz h2

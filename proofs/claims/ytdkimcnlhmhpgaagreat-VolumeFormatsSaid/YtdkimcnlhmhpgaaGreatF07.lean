/- -/
import Derived.Test.YtdkimcnlhmhpgaaGreatF06
import Derived.Lib.Overlaps
import Derived.Lib.SlBuf
set_option maxHeartbeats 32000000
set_option maxRecDepth 100000
namespace Go.Proofs.YtdkimcnlhmhpgaaGreat
section
open Go.Proofs.Tryz Go.RowKit
variable {w w':World} {v:Value} {n b:Nat} {cur:List Value} {t:TypeId}
def bd (w:World) (x:NS×Value):Prop:=af w x.2 x.1.runs 0 w.heap.size/\x.1.fits/\∀r∈x.1.runs,aQ r
theorem af.upto {l lo hi} (h:af w v l lo hi):af w v l 0 w:=by
 rcases h with h|⟨b,off,c,h1,h2,h3,h4,h5,h6⟩
 .exact Or.inl h
 .exact Or.inr ⟨b,off,c,h1,h2,Nb _,MR h4 h5,MG _,h6⟩
theorem bd.kept0 {x:NS×Value} (h:bd w x) (k:NP [] w w'):bd w' x:=⟨(h.1.kept0 k).upto,h.2⟩
theorem bd.fz {x:NS×Value} (h:bd w x):fP x.2:=by
 have⟨p,c,e⟩:=h.1.shape
 exact⟨p,_,c,e⟩
def aU (w:World) (v:Value) (l:List NS):Prop:=∃vs:List (NS×Value),vs.map (·.1)=l/\bO w v vs.length 4 (NX vs)/\∀x∈vs,bd w x
variable {l:List NS}
theorem aU.kept0 (h:aU w v l) (k:NP [] w w'):aU w' v l:=by
 have⟨vs,h1,h2,h3⟩:=h
 exact⟨vs,h1,h2.kept0 k,fun x hx=>(h3 x hx).kept0 k⟩
theorem aU.shape (h:aU w v l):∃p c,v=.slice p l.length c:=by
 obtain⟨vs,rfl,h2,h3⟩:=h
 rw[MP]
 exact h2.shape
theorem aU.ja {p:Option Addr} {c:Nat} (h:aU w (p,n,c) l) (i:Nat) (hi:i<l.length):
  ∃b off kv,p=some ⟨b,off,none⟩/\bd w (l[i],kv)/\b<w.heap.size/\l.length<=c/\c<=maxLen/\∀W,NP [] w W->W.cell? ⟨b,off+i*4,none⟩=some (.int .u32 l[i].id)/\W.cell? ⟨b,off+i*4+1,none⟩=some (.string (bs l[i].name))/\W.cell? ⟨b,off+i*4+2,none⟩=some (.int .i64 l[i].size)/\W.cell? ⟨b,off+i*4+3,none⟩=some kv:=by
 obtain⟨vs,rfl,h2,h3⟩:=h
 have hi':i<vs.length:=D?
 have⟨p',c',e⟩:=h2.shape
 injection e with e1 e2 e3
 subst e1 e2 e3
 have⟨b,off,e,hc,hb,h6,h7⟩:=h2.at_ a?
 subst e
 have⟨g0,g1,g2,g3⟩:=tc vs i hi'
 refine⟨b,off,vs[i].2,rfl,?_,hb,by rw[MP];exact h6,h7,fun W k=>?_⟩
 .rw[Ny];exact h3 _ (MJ hi')
 .rw[Ny]
  have hk:=fun j u hj=>(k.cell (by exact hb) b?).trans (hc j u hj)
  exact⟨hk _ _ g0,hk _ _ g1,hk _ _ g2,hk _ _ g3⟩
variable {x:NS}
theorem C9 (h:cG l) {m} (hm:m<l.length):bY l[m] x=true↔m<Og l x:=by
 constructor
 .intro hl
  by_cases g:m<Og l x
  .exact g
  .rw[h.ge hm a?]at hl;cases hl
 .intro g;exact TM g
def oa (l:List NS) (w:World) (e:Ending) (w':World):Prop:=∃q,e=.returned (.bool q)/\(q=true↔cG l)/\NP [] w w'
theorem yq {k} (hk:k+1<l.length) {w w'} (h:bY l[k] l[k+1]=false) (q:NP [] w w'):oa l w (.returned false) w':=
 ⟨false,rfl,⟨fun h'=>(by cases h'),fun hr=>(by rw[hr.at_ hk (Nat.lt_succ_self k)]at h;cases h)⟩,q⟩
theorem wJ {l w w'} (h:∀k (hk:k+1<l.length),bY l[k] l[k+1]=true) (q:NP [] w w'):oa l w (.returned true) w':=
 ⟨true,rfl,⟨fun _=>pf h,fun _=>rfl⟩,q⟩
theorem Kn (v l w) (h:aU w v l) (hl:l.length<=1000000):
  am! 232 #[v,.func (.func 233) #[] #[]] w (oa l w):=by
 obtain⟨p,c,rfl⟩:=h.shape
 have H:=tK h
 have Tg:(l.length:Int)<=1000000:=a?
 have ho:=BL
 have HO:=tK ho
 clear h ho
 go_enter func232,ntmps232
 go_wp2_with fail
 go_loopw [5] (fun i wr=>∃k:Nat,1<=k/\i=(k:Int)/\(∀j (hj:j+1<l.length),j+1<k->bY l[j] l[j+1]=true)/\NP [] w wr/\k<=1000001) (fun i _=>l.length+1-(intOf i).toNat)
 case atStart=>exact⟨1,MG _,rfl,fun j hj h=>a?,NP.refl _ _,a?⟩
 case round=>
  obtain⟨k,OP,rfl,hd,hK,hkm⟩:=hrel
  by_cases NV:k<l.length
  .have Oo:k<l.length:=NV
   obtain⟨m,hm⟩:∃m,k=m+1:=⟨k-1,a?⟩
   have e1:(k:Int)-1=(m:Int):=a?
   have TF:m<l.length:=a?
   have w1:IntKind.i64.wrap (m:Int)=(m:Int):=M?
   obtain⟨b,off,kva,rfl,_,hb,RU,hc2,HA⟩:=H.out.ja m TF
   have⟨b',off',kvb,e,_,_,_,_,HB⟩:=H.out.ja k Oo
   injection e with e
   injection e with e2 e3 _
   subst e2 e3
   have Tf:=HO.out (l[m]'TF) (l[k]'Oo) kva kvb
   obtain⟨R,hR⟩:∃R,mu (l[m]'TF) (l[k]'Oo)=R:=⟨_,rfl⟩
   have hRc:(R<0/\bY (l[m]'TF) (l[k]'Oo)=true)\/(0<=R/\bY (l[m]'TF) (l[k]'Oo)=false):=by
    rw[<-hR]
    cases g:bY (l[m]'TF) (l[k]'Oo)
    .exact Or.inr ⟨by have:=mt qn.1 (by rw[g];decide:¬bY (l[m]'TF) (l[k]'Oo)=true);omega,rfl⟩
    .exact Or.inl ⟨qn.2 g,rfl⟩
   rw[hR]at Tf
   have i1:(m:Int)<l.length:=a?
   have i2:(k:Int)<l.length:=a?
   have i3:(0:Int)<=m:=a?
   have⟨HC,SZ,HD,HM,Of,SI⟩:=gj! Tf hRc hd hm NV hK
   have Xv:=tK fun W q=>And.intro (HA W q) (HB W q)
   unfold NS.cells at HC
   clear HA HB Tf hRc hd hR
   generalize hLA:l[m]'TF=A at HC Xv SZ
   generalize hLB:l[k]'Oo=B at HC Xv SZ
   have⟨HLA,HLB⟩:=f? hLA hLB
   clear hLA hLB NV hm
   go_wp2_with fail
   refine MK (S:=(fun W=>(W.cell? (aa b (off+m*4))=(A.id,())/\W.cell? (aa b (off+m*4+1))=A.name/\W.cell? (aa b (off+m*4+2))=A.size/\W.cell? (aa b (off+m*4+3))=some kva)/\(W.cell? (aa b (off+k*4))=(B.id,())/\W.cell? (aa b (off+k*4+1))=B.name/\W.cell? (aa b (off+k*4+2))=B.size/\W.cell? (aa b (off+k*4+3))=some kvb))) c? (by exact Xv.out _ SI.out.drew) (fun hHeld=>?_)
   refine tS ?_
   refine rD 10 (fun K hK=>?_)
   go_simp
   ((with_reducible refine(HC.out _).mono ?_));rintro e w2 ⟨rfl,k2⟩
   have KK:=tK (SI.out.drew.trans k2)
   go_wp2_with fail
   refine hK.out _ _ (Xv.out _ KK.out) (fun hHeld=>nM ?_)
   clear hK K
   refine tS ?_
   refine Ng c? ?_ _
   rcases SZ.out with⟨YH,TZ⟩|⟨YH,TZ⟩
   .have QU:decide (0<=R)=false:=e?
    go_wp2_with fail
    go_roundw
    case rel=>exact⟨k+1,a?,L?,fun j hj hjk=>by
     by_cases ZO:j+1<k
     .exact HD.out j hj ZO
     .have hjm:j=m:=by have:=HM.out;omega
      subst hjm
      have e4:=HLB.out
      have e5:=HLA.out
      have abB:=HM.out
      subst abB
      rw[e4,e5];exact TZ,KK.out,by have:=Of.out;omega⟩
    case measure=>(have:=Of.out;simp[intOf];omega)
   .have QU:decide (0<=R)=true:=e?
    go_wp2_with fail
    go_ret
    have abB:=HM.out
    subst abB
    exact yq Of.out (by rw[HLB.out,HLA.out];exact TZ) KK.out
  .have i1:¬(k:Int)<l.length:=a?
   have hd':=fun j hj=>hd j hj a?
   have HD:=tK hd'
   clear hd hd'
   go_wp2_with fail
   go_ret
   exact wJ HD.out hK
def gA (l:List NS) (x:NS) (w:World) (e:Ending) (w':World):Prop:=∃q,e=.returned (.tuple #[(Og l x:Int),.bool q])/\(q=true↔di l x)/\NP [] w w'
theorem wt (hr:cG l) {k} (hk:Og l x=k) (h:l.length<=k) {w w'} (q:NP [] w w'):gA l x w (.returned (.tuple #[(k:Int),false])) w':=
 ⟨false,by rw[hk],⟨fun h'=>(by cases h'),fun h'=>absurd h' (EU hr a?)⟩,q⟩
theorem yk (hr:cG l) {k} (hk:Og l x=k) (h:k<l.length) {b} (hb:b=cO l[k] x) {w w'} (q:NP [] w w'):gA l x w (.returned (.tuple #[(k:Int),.bool b])) w':=by
 subst hk
 exact⟨b,rfl,by rw[hb];exact ES hr h,q⟩
theorem D6 (v l x xv w) (h:aU w v l) (hl:l.length<=1000000) (hr:cG l):
  am! 269 #[v,.agg (x.cells xv),.func (.func 233) #[] #[]] w (gA l x w):=by
 obtain⟨p,c,rfl⟩:=h.shape
 have⟨H,HR⟩:=f? h hr
 have Tg:(l.length:Int)<=1000000:=a?
 have ho:=BL
 have HO:=tK ho
 have Xp:=jv l x
 have HP:=tK Xp
 have oX:=ae.new w (x.cells xv) 113
 have k0:NP [] w (w.alloc (.cells (x.cells xv) 113)):=(NP.refl _ _).alloc _
 unfold NS.cells at oX k0 ⊢
 have⟨x0,x1,x2,x3⟩:=oX.c4
 have⟨OX,K0⟩:=f? oX k0
 clear h hr ho Xp oX k0
 go_enter func269,ntmps269
 go_wp2_with fail
 go_loopw [9,10] (fun i j wr=>∃lo hi:Nat,i=(lo:Int)/\j=(hi:Int)/\lo<=Og l x/\Og l x<=hi/\hi<=l.length/\NP [] w wr/\ae wr w #[(x.id,()),x.name,x.size,xv] 113) (fun i j _=>(intOf j).toNat-(intOf i).toNat)
 case atStart=>exact⟨0,l.length,rfl,rfl,Nb _,HP.out,MG _,K0.out,OX.out⟩
 case round=>
  obtain⟨lo,hi,rfl,rfl,hlo,WL,hle,hK,oX⟩:=hrel
  by_cases NV:lo<hi
  .have i1:(lo:Int)<hi:=a?
   obtain⟨m,hm⟩:∃m,(lo+hi)/2=m:=⟨_,rfl⟩
   have e1:((lo:Int)+hi)/2=(m:Int):=a?
   have TF:m<l.length:=a?
   have hmb:lo<=m/\m<hi:=a?
   have i2:(m:Int)<l.length:=a?
   obtain⟨b,off,kv,rfl,_,hb,RU,hc2,HA⟩:=H.out.ja m TF
   have Tf:=HO.out (l[m]'TF) x kv xv
   obtain⟨R,hR⟩:∃R,mu (l[m]'TF) x=R:=⟨_,rfl⟩
   have hRc:(R<0/\m<Og l x)\/(0<=R/\Og l x<=m):=by
    rw[<-hR]
    by_cases g:m<Og l x
    .exact Or.inl ⟨qn.2 ((C9 HR.out TF).2 g),g⟩
    .refine Or.inr ⟨?_,a?⟩
     have:=mt qn.1 (fun h=>g ((C9 HR.out TF).1 h))
     omega
   rw[hR]at Tf
   unfold NS.cells at Tf
   have⟨HC,SZ⟩:=f? Tf hRc
   have HMB:=tK (And.intro hmb TF)
   have HLH:=tK (And.intro hlo (And.intro WL hle))
   have⟨SI,OX2⟩:=f? hK oX
   have HAX:=tK fun W q (o:ae W w #[(x.id,()),x.name,x.size,xv] 113)=>And.intro (HA W q) o.c4
   clear HA Tf hRc hR hmb hlo WL hle NV hm
   generalize hLA:l[m]'TF=A at HC HAX
   clear hLA
   obtain⟨P,hP⟩:∃P,Og l x=P:=⟨_,rfl⟩
   rw[hP]at SZ HLH
   have HPP:=tK hP
   clear hP
   go_wp2_with fail
   refine MK (S:=(fun W=>(W.cell? (aa b (off+m*4))=(A.id,())/\W.cell? (aa b (off+m*4+1))=A.name/\W.cell? (aa b (off+m*4+2))=A.size/\W.cell? (aa b (off+m*4+3))=some kv)/\(W.cell? w=(x.id,())/\W.cell? (aa w 1)=x.name/\W.cell? (aa w 2)=x.size/\W.cell? (aa w 3)=some xv))) c? (by exact HAX.out _ SI.out.drew OX2.out.drew) (fun hHeld=>?_)
   refine tS ?_
   refine rD 6 (fun K hK=>?_)
   go_simp
   ((with_reducible refine(HC.out _).mono ?_));rintro e w2 ⟨rfl,k2⟩
   have KK:=tK (SI.out.drew.trans k2)
   have O2:=tK (k2.own OX2.out.drew b?)
   go_wp2_with fail
   refine hK.out _ _ (HAX.out _ KK.out O2.out) (fun hHeld=>nM ?_)
   clear hK K
   refine tS ?_
   refine Ng c? ?_ _
   rcases SZ.out with⟨YH,hp⟩|⟨YH,hp⟩
   .have QU:decide (R<0)=true:=e?
    have HP2:=tK hp
    clear hp
    go_wp2_with fail
    go_roundw
    case rel=>exact⟨m+1,hi,L?,rfl,by rw[HPP.out];exact HP2.out,by rw[HPP.out];exact HLH.out.2.1,HLH.out.2.2,KK.out,O2.out⟩
    case measure=>(have:=HMB.out;simp[intOf];omega)
   .have QU:decide (R<0)=false:=e?
    have HP2:=tK hp
    clear hp
    go_wp2_with fail
    go_roundw
    case rel=>exact⟨lo,m,rfl,rfl,by rw[HPP.out];exact HLH.out.1,by rw[HPP.out];exact HP2.out,by have:=HMB.out;omega,KK.out,O2.out⟩
    case measure=>(have:=HMB.out;simp[intOf];omega)
  .obtain rfl:lo=hi:=a?
   have Yj:Og l x=lo:=a?
   have i1:¬(lo:Int)<lo:=a?
   by_cases TZ:lo<l.length
   .have i2:(lo:Int)<l.length:=a?
    obtain⟨b,off,kv,rfl,_,hb,RU,hc2,HA⟩:=H.out.ja lo TZ
    have Tf:=HO.out (l[lo]'TZ) x kv xv
    obtain⟨R,hR⟩:∃R,mu (l[lo]'TZ) x=R:=⟨_,rfl⟩
    have hRc:(R==0)=cO (l[lo]'TZ) x:=by
     rw[<-hR]
     cases g:cO (l[lo]'TZ) x
     .have:=mt uT.1 (by rw[g];decide:¬cO (l[lo]'TZ) x=true)
      simpa using this
     .simpa using uT.2 g
    have abU:=fun W (q:NP [] w W)=>yk HR.out Yj TZ hRc q
    have abr:=tK abU
    rw[hR]at Tf
    unfold NS.cells at Tf
    have⟨HC,SI,OX2⟩:=gg! Tf hK oX
    have HAX:=tK fun W q (o:ae W w #[(x.id,()),x.name,x.size,xv] 113)=>And.intro (HA W q) o.c4
    clear HA Tf hR hRc abU hlo WL hle NV
    generalize hLA:l[lo]'TZ=A at HC HAX
    clear hLA
    go_wp2_with fail
    refine MK (S:=(fun W=>(W.cell? (aa b (off+lo*4))=(A.id,())/\W.cell? (aa b (off+lo*4+1))=A.name/\W.cell? (aa b (off+lo*4+2))=A.size/\W.cell? (aa b (off+lo*4+3))=some kv)/\(W.cell? w=(x.id,())/\W.cell? (aa w 1)=x.name/\W.cell? (aa w 2)=x.size/\W.cell? (aa w 3)=some xv))) c? (by exact HAX.out _ SI.out.drew OX2.out.drew) (fun hHeld=>?_)
    refine tS ?_
    refine rD 11 (fun K hK=>?_)
    go_simp
    ((with_reducible refine(HC.out _).mono ?_));rintro e w2 ⟨rfl,k2⟩
    have KK:=tK (SI.out.drew.trans k2)
    have O2:=tK (k2.own OX2.out.drew b?)
    go_wp2_with fail
    refine hK.out _ _ (HAX.out _ KK.out O2.out) (fun hHeld=>nM ?_)
    clear hK K
    refine tS ?_
    refine Ng c? ?_ _
    go_wp2_with fail
    go_ret2
    exact abr.out _ KK.out
   .have i2:¬(lo:Int)<l.length:=a?
    have abr:=tK (wt HR.out Yj a? hK.drew)
    clear hlo WL hle NV
    have SI:=tK hK
    have i3:decide ((lo:Int)<l.length)=false:=e?
    go_wp2_with fail
    refine MK (S:=(fun _=>True)) c? (by trivial) (fun hHeld=>?_)
    refine tS ?_
    refine Ng c? ?_ _
    go_wp2_with fail
    go_ret2
    exact abr.out
theorem Ab (v l x xv w) (h:aU w v l) (hl:l.length<=1000000) (hr:cG l):
  am! 234 #[v,.agg (x.cells xv),.func (.func 233) #[] #[]] w (gA l x w):=by
 have hb:=fun W (q:NP [] w W)=>D6 v l x xv W (h.kept0 q) hl hr
 unfold gA at hb ⊢
 obtain⟨p,c,rfl⟩:=h.shape
 have HB:=tK hb
 have oX:=ae.new w (x.cells xv) 113
 have k0:NP [] w (w.alloc (.cells (x.cells xv) 113)):=(NP.refl _ _).alloc _
 unfold NS.cells at oX k0 HB ⊢
 have⟨x0,x1,x2,x3⟩:=oX.c4
 have K0:=tK k0
 clear h hb oX k0 hr hl
 generalize Og l x=P at*
 go_enter func234,ntmps234
 go_wp2_with fail
 refine(HB.out _ K0.out).mono ?_;rintro e w2 ⟨q,rfl,hq,k2⟩
 have HQ:=tK hq
 clear hq
 go_wp2_with fail
 go_ret2
 exact⟨q,rfl,HQ.out,K0.out.trans k2⟩
theorem Gu (k:Int) (x:NS) (xv:Value) (w:World) (hs:fP xv):am! 182 #[k,.agg (x.cells xv)] w fun e w'=>e=.returned (.agg ((x.told k).cells xv))/\NP [] w w':=by
 obtain⟨p,n,c,rfl⟩:=hs
 have oX:=ae.new w (x.cells (p,n,c)) 113
 unfold NS.cells at oX
 have⟨x0,x1,x2,x3⟩:=oX.c4
 clear oX
 unfold NS.told ag.cells NS.cells
 go_enter func182,ntmps182
 go_wp2_with fail
 have o2:=ae.new (w.alloc (.cells #[(x.id,()),x.name,x.size,(p,n,c)] 113)) #[k,(x.id,()),x.name,x.size,(p,n,c)] 102
 simp only[Nd]at o2
 refine MN (v:=.agg #[k,(x.id,()),x.name,x.size,(p,n,c)]) (iu results182 rfl (t:=102) ?_ underlying102 rfl c?) rfl ⟨rfl,?_⟩
 .exact o2
 .exact((NP.refl _ _).alloc _).alloc _
def NS.same (a b:NS):Bool:=a.id==b.id&&(a.name==b.name&&(a.size==b.size&&a.runs==b.runs))
theorem NS.Ep {a b:NS}:a.same b=true↔a=b:=by
 have⟨a1,a2,a3,a4⟩:=a
 have⟨b1,b2,b3,b4⟩:=b
 unfold NS.same
 simp
theorem NS.four (a b:NS):((a.id==b.id)=false/\a.same b=false)\/((a.id==b.id)=true/\(a.name==b.name)=false/\a.same b=false)\/((a.id==b.id)=true/\(a.name==b.name)=true/\(a.size==b.size)=false/\a.same b=false)\/((a.id==b.id)=true/\(a.name==b.name)=true/\(a.size==b.size)=true/\a.same b=(a.runs==b.runs)):=by
 unfold NS.same
 cases a.id==b.id<;>cases a.name==b.name<;>cases a.size==b.size<;>simp
theorem iY (a b) {x} (h:(a==b)=x):(bs a==bs b)=x/\((bs a).toList==(bs b).toList)=x:=by
 have h1:(bs a==bs b)=x:=by rw[Kd,h]
 exact⟨h1,by rw[bj,bj,h]⟩
def iA (base:Nat) (v:Value) (n:Nat) (xs:List Value) (w:World) (e:Ending) (w':World):Prop:=
 ∃v',e=.returned v'/\w'.ownsRow base 113 4 v' n xs/\∀S,(∀g,v.ownBlock=some g->g∈S)->NP S w w'
def QE:List Value:=[.int .u32 0,.string {data:=#[]},.int .i64 0,.slice none 0 0]
theorem tT (w) (ty:TypeId) (b o c k) (hk:k=1) (hc:∀j,j<4->(w.cell? ⟨b,o+j,none⟩).isSome=true) (hf:∀j,j<4->w.frozen? ⟨b,o+j,none⟩=false):
  (Builtin.clear_ #[50] ty #[.slice (some (aa b o)) k c]).run prog w=.ok (.tuple #[]) (w.setCells b o QE):=by
 subst hk
 have⟨i0,hi0,Rh,Qc,Qx⟩:=fg
 have Oo:=run_storeCells_cells (P:=prog) b o QE 0 w (by simpa[QE]using hc) (by simpa[QE]using hf) (by intro v hv;simp[QE]at hv;rcases hv with rfl|rfl|rfl|rfl<;>rfl)
 rw[Nat.add_zero]at Oo
 have hzc:(Builtin.zeroCells (Value.agg #[.int .u32 0,.string {data:=#[]},(0:Int),()]).cells 1).toList=QE:=by
  simp[Builtin.zeroCells,Value.cells,QE,Array.range]
 simp[Builtin.clear_,run_underlying underlying50,zeroValue,typeInfo,hi0,Rh,hzc,Oo]
theorem kK {base g cap} (o:ae w g cur.toArray 113) (hb:base<=g) (hn:n<=cap) (hc:cap<=maxLen) (hl:cur.length=cap*4):w.ownsRow base 113 4 (g,n,cap) n (cur.take (n*4)):=by
 refine⟨?_,Or.inr ⟨g,cap,cur.toArray,rfl,hb,o,hn,hc,ae!,rfl⟩⟩
 rw[MO,hl]
 have:=Nat.mul_le_mul_right 4 hn
 omega
theorem ae.fQ (h:ae w b cur.toArray t) (j) (hj:j<cur.length):w.cell? (aa b j)=some cur[j]:=by
 rw[h.cell j A!];simp
theorem adt {A:Prop}(h:A:=by
 intro S hS
 have hgS:=hS g (by simp[Value.ownBlock])
 rw[hW1]
 exact fA (Or.inl hgS) _ _ (fA (Or.inl hgS) _ _ (NP.refl _ _).drew)):A:=h
theorem M90 {A:Prop}(h:A:=by
 have UL:t<cur.length:=by rw[Qg];have:=Nat.mul_le_mul_right 4 SR;omega
 rw[o.fQ t UL,<-PF,List.getElem?_take_of_lt ht,MZ UL]):A:=h
theorem GU (base:Nat) (v) (n:Nat) (xs) (i j:Nat) (w) (h:w.ownsRow base 113 4 v n xs) (h1:∀u∈xs,u.oneCell'=true) (hi:i<n) (hj:j=i+1):
  am! 236 #[v,(i:Int),(j:Int)] w (iA base v (n-1) (xs.take (i*4)++xs.drop (j*4)) w):=by
 rcases h.2 with⟨_,h0⟩|⟨g,cap,cur0,rfl,hb,hg,SR,PT,Sk,htake⟩
 .omega
 .obtain⟨cur,rfl⟩:∃cur:List Value,cur0=cur.toArray:=⟨cur0.toList,b?⟩
  have o:ae w g cur.toArray 113:=hg
  have Qg:cur.length=cap*4:=by simpa using Sk
  have PF:cur.take (n*4)=xs:=af!
  have hjn:j<=n:=a?
  have XM:=h.1
  have⟨i0,hi0,Rh,Qc,Qx⟩:=fg
  have NV:i<j:=a?
  have acz:cap<=9223372036854775807:=PT
  obtain⟨news,hnews⟩:∃news,news=xs.drop (j*4):=⟨_,rfl⟩
  have hlen:news.length=(n-j)*4:=by rw[hnews,MQ,XM];omega
  have Ou:∀t,t<n*4->w.cell? ⟨g,t,none⟩=xs[t]? :=fun t ht=>by
   exact M90
  obtain⟨A,hA,P4⟩:∃A:Addr,(if cap=j then some (g:Addr)else some (aa g (j*4)))=some A/\Hid (∀t u,news[t]? =some u->w.drew.cell? (A.add t)=some u):=by
   by_cases hc:cap=j
   .refine⟨g,by simp[hc],fun t u hu=>?_⟩
    have h0:news.length=0:=by rw[hlen];omega
    rw[List.length_eq_zero_iff.1 h0]at hu
    simp at hu
   .refine⟨(aa g (j*4)),by simp[hc],fun t u hu=>?_⟩
    have ht:t<(n-j)*4:=by
     have:=(Nn.1 hu).1
     rwa[hlen]at this
    rw[hnews,List.getElem?_drop]at hu
    rw[Ni]
    show w.cell? _=_
    rw[Ou (j*4+t) a?]
    exact hu
  have s1:Hid (news.length=(n-j)*4):=hlen
  have s2:Hid (∀u∈news,u.oneCell'=true):=fun u hu=>h1 u (NF (by rw[hnews]at hu;exact hu))
  have s3:Hid (∀t,t<news.length->(w.drew.cell? ⟨g,0+i*4+t,none⟩).isSome=true/\w.drew.frozen? ⟨g,0+i*4+t,none⟩=false):=by
   intro t ht
   rw[hlen]at ht
   have UL:0+i*4+t<cur.length:=by rw[Qg];have:=Nat.mul_le_mul_right 4 SR;omega
   exact⟨by show(w.cell? _).isSome=true;rw[o.fQ _ UL];rfl,o.free _⟩
  obtain⟨W1,hW1⟩:∃W1,W1=w.drew.setCells g (0+i*4) news:=⟨_,rfl⟩
  have Oq:i*4+news.length<=cur.length:=by rw[hlen,Qg];have:=Nat.mul_le_mul_right 4 SR;omega
  have aad:ae W1 g (cJ cur (i*4) news).toArray 113:=by rw[hW1,Nat.zero_add];exact(ae.drew o).oV news (i*4) Oq
  have PX:(cJ cur (i*4) news).length=cap*4:=by rw[gV Oq,Qg]
  have ae0:∀ty,(Builtin.clear_ #[50] ty #[.slice (some (aa g ((i+(n-j))*4))) (n-(i+(n-j))) (cap-(i+(n-j)))]).run prog W1=.ok (.tuple #[]) (W1.setCells g ((i+(n-j))*4) QE):=fun ty=>
   tT W1 ty g _ _ _ a? (fun t ht=>by rw[aad.fQ _ u!];rfl) (fun t ht=>aad.free _)
  have Rz:Hid ((cJ (cJ cur (i*4) news) ((i+(n-j))*4) QE).take ((n-1)*4)=xs.take (i*4)++xs.drop (j*4)):=by
   show _=_
   have e1:(i+(n-j))*4=(n-1)*4:=a?
   have e2:(n-1)*4=i*4+news.length:=by rw[hlen];omega
   rw[e1,Ek u! (MG _),e2,oU Oq,hnews,<-PF,List.take_take]
   rw[Nat.min_eq_left a?]
  have Oy:Hid (∀W,ae W g (cJ (cJ cur (i*4) news) ((i+(n-j))*4) QE).toArray 113->W.ownsRow base 113 4 (g,i+(n-j),cap) (n-1) (xs.take (i*4)++xs.drop (j*4))):=by
   intro W oW
   have e1:i+(n-j)=n-1:=a?
   have Sc:(i+(n-j))*4+QE.length<=(cJ cur (i*4) news).length:=h!
   have:=kK (base:=base) (n:=n-1) (cap:=cap) oW hb a? PT (by rw[gV Sc,PX])
   rw[Rz.out]at this
   rw[e1]
   exact this
  have hKP:Hid (∀S:List Nat,(∀g',(Value.slice (some g) n cap).ownBlock=some g'->g'∈S)->NP S w (W1.setCells g ((i+(n-j))*4) QE)):=by
   exact adt
  have hO:Hid (ae (W1.setCells g ((i+(n-j))*4) QE) g (cJ (cJ cur (i*4) news) ((i+(n-j))*4) QE).toArray 113):=
   aad.oV QE _ h!
  have hW:Hid (W1=w.drew.setCells g (0+i*4) news):=hW1
  have hic:i<=cap:=a?
  have hjc:j<=cap:=a?
  have aeH:prog.info? 113=some i0:=hi0
  clear hW1 aad Ou hnews hlen o hg Sk Qg htake PF Oq PX h h1 XM Rz hj
  go_enter func236,ntmps236
  go_wp2_with fail
  go_region_law (refine step_append_room rfl (.tmp 22) (.tmp 25) 50 rfl 113 i0 4 underlying50 aeH Qc g 0 i cap g? A (n-j) (cap-j) news g? s1.out P4.out s2.out a? s3.out ?_;rw[<-hW.out])
  go_wp2
  go_ret
  exact⟨_,rfl,Oy.out _ hO.out,hKP.out⟩
theorem sR {cs} (h:ae w b cs t):w.shape? b=some (t,cs.size):=by
 unfold World.shape?
 rw[show w.heap[b]? =some (.cells cs t (0,0))from h]
theorem Hd {xs ys i} (hx:cur.take (n*4)=xs) (P7:i<=n) (Uz:ys.length=4) (hl:(n+1)*4<=cur.length) (XM:xs.length=n*4):
  (cJ (cJ cur ((i+1)*4) (xs.drop (i*4))) (i*4) ys).take ((n+1)*4)=xs.take (i*4)++ys++xs.drop (i*4):=by
 have hd:(xs.drop (i*4)).length=(n-i)*4:=by rw[MQ,XM];omega
 have h1:(i+1)*4+(xs.drop (i*4)).length<=cur.length:=by rw[hd];omega
 have PX:=gV h1
 have h2:i*4+ys.length<=(cJ cur ((i+1)*4) (xs.drop (i*4))).length:=by rw[PX,Uz];omega
 unfold cJ at*
 have e1:(cur.take ((i+1)*4)).length=(i+1)*4:=w?
 have e2:(cur.take ((i+1)*4)++(xs.drop (i*4)++cur.drop ((i+1)*4+(xs.drop (i*4)).length))).take (i*4)=xs.take (i*4):=by
  rw[NC a?,List.take_take,Nat.min_eq_left a?,<-hx,List.take_take,Nat.min_eq_left a?]
 have e3:(cur.take ((i+1)*4)++(xs.drop (i*4)++cur.drop ((i+1)*4+(xs.drop (i*4)).length))).drop (i*4+ys.length)=xs.drop (i*4)++cur.drop ((i+1)*4+(xs.drop (i*4)).length):=by
  rw[List.drop_append_of_le_length a?,List.drop_of_length_le a?,NI]
 rw[e2,e3]
 have e4:(xs.take (i*4)).length=i*4:=w?
 rw[<-MW,<-MW,NC (by rw[tN,tN];omega),Nh (by rw[tN,tN];omega)]
theorem vF (base:Nat) (n:Nat) (xs:List Value) (i m:Nat) (w:World) (g cap:Nat) (cur:List Value) (vb:Nat) (ys:List Value) (o:ae w g cur.toArray 113) (hb:base<=g) (PT:cap<=maxLen) (Qg:cur.length=cap*4) (PF:cur.take (n*4)=xs) (XM:xs.length=n*4)
  (h1:∀u∈xs,u.oneCell'=true) (hi:i<n) (hm:m=1) (hroom:n+m<=cap) (ov:ae w vb ys.toArray 113) (Uz:ys.length=4) (h2:∀u∈ys,u.oneCell'=true) (hvb:vb≠g):
  am! 270 #[(g,n,cap),(i:Int),(vb,m,m)] w (iA base (g,n,cap) (n+1) (xs.take (i*4)++ys++xs.drop (i*4)) w):=by
 have⟨i0,hi0,Rh,hz1',hz2'⟩:=fg
 have PW:(prog.info? 113).map (·.size)=some 4:=by rw[hi0];simp[hz1']
 have Qc:¬((m:Int)=0):=a?
 have Qx:¬((i:Int)=(n:Int)):=a?
 have acz:cap<=9223372036854775807:=PT
 have hov:∀lb cb,(callFunc 292 #[(vb,m,m),.slice (some (aa g ((i+m)*4))) lb cb]).run prog w=.ok (.value false) w:=fun lb cb=>by
  rw[run_callFunc_extern func292 c? c? c? (e:=Extern.SlicesOverlaps.overlaps #[50,50] #[4]) c?,
   Lib.run_overlaps_apart w 50 4 113 underlying50 4 sizeOf113 ⟨vb,0,none⟩ ⟨g,(i+m)*4,none⟩ m m lb cb hvb _ _ _ _ (sR ov) (sR o) (by simp[Qg];omega) (ov.free _) (ov.free _)]
  rfl
 have Vf:(xs.drop (i*4)).length=(n-i)*4:=by rw[MQ,XM];omega
 have SU:IntKind.i64.wrap ((i:Int)+(m:Int))=(i:Int)+(m:Int):=M?
 have TG:(0:Int)<=(i:Int)+(m:Int):=a?
 have P7:i<=n:=a?
 have htn:((i:Int)+(m:Int)).toNat=i+m:=a?
 have Q3:¬(cap=i+m):=a?
 have hb3:(i:Int)<=(n:Int)+(m:Int):=a?
 have hb4:¬(cap=i):=a?
 have S7:=Nat.mul_le_mul_right 4 hroom
 have Oq:(i+m)*4+(xs.drop (i*4)).length<=cur.length:=by rw[Vf,Qg];omega
 have YU:∀ty dc sc,(Builtin.copy_ #[50,50] ty #[.slice (some (aa g ((i+m)*4))) (n+m-(i+m)) dc,.slice (some (aa g (i*4))) (n+m-i) sc]).run prog w.drew=.ok ((n-i:Nat):Int) (w.drew.setCells g ((i+m)*4) (xs.drop (i*4))):=fun ty dc sc=>
  kB w.drew _ _ ty 113 4 g ((i+m)*4) (n+m-(i+m)) dc (aa g (i*4)) (n+m-i) sc (n-i) (xs.drop (i*4)) underlying50 PW I! Vf
   (fun j v hj=>by
    have TT:=(Nn.1 hj).1
    rw[Vf]at TT
    rw[List.getElem?_drop]at hj
    rw[Ni]
    show w.cell? _=_
    have ZO:i*4+j<n*4:=a?
    have hj3:i*4+j<cur.length:=a?
    have e:cur[i*4+j]? =some v:=by rw[<-hj,<-PF,List.getElem?_take_of_lt ZO]
    rw[MZ hj3]at e
    rw[o.fQ _ hj3]
    exact e)
   (fun j hj=>by show(w.cell? _).isSome=true;rw[o.fQ _ a?];rfl) (fun j hj=>o.free _) (fun v hv=>h1 v (NF hv))
 obtain⟨W1,hW1⟩:∃W1,W1=w.drew.setCells g ((i+m)*4) (xs.drop (i*4)):=⟨_,rfl⟩
 have o1:ae W1 g (cJ cur ((i+m)*4) (xs.drop (i*4))).toArray 113:=by rw[hW1];exact(ae.drew o).oV _ _ Oq
 have ov1:ae W1 vb ys.toArray 113:=by rw[hW1];exact(ae.drew ov).CK hvb _ _
 have PX:=gV Oq
 have Sc:i*4+ys.length<=(cJ cur ((i+m)*4) (xs.drop (i*4))).length:=by rw[PX,Uz,Qg];omega
 have aa7:∀ty dc,(Builtin.copy_ #[50,50] ty #[.slice (some (aa g (i*4))) (n+m-i) dc,(vb,m,m)]).run prog W1=.ok ((m:Nat):Int) (W1.setCells g (i*4) ys):=fun ty dc=>
  kB W1 _ _ ty 113 4 g (i*4) (n+m-i) dc vb m m m ys underlying50 PW I! (by rw[Uz,hm])
   (fun j v hj=>by
    have TT:=(Nn.1 hj).1
    rw[Ni,Nat.zero_add,ov1.fQ j TT,<-hj,MZ TT])
   (fun j hj=>by rw[o1.fQ _ a?];rfl) (fun j hj=>o1.free _) h2
 have hO:Hid (ae (W1.setCells g (i*4) ys) g (cJ (cJ cur ((i+m)*4) (xs.drop (i*4))) (i*4) ys).toArray 113):=o1.oV _ _ Sc
 have hKP:Hid (∀S:List Nat,(∀g',(Value.slice (some g) n cap).ownBlock=some g'->g'∈S)->NP S w (W1.setCells g (i*4) ys)):=by
  exact adt
 have Oy:Hid ((W1.setCells g (i*4) ys).ownsRow base 113 4 (g,n+m,cap) (n+1) (xs.take (i*4)++ys++xs.drop (i*4))):=by
  have:=kK (base:=base) (n:=n+1) (cap:=cap) hO.out hb a? PT (by rw[gV Sc,PX,Qg])
  subst hm
  rw[Hd PF P7 Uz a? XM]at this
  exact this
 rw[<-hW1]at YU
 clear hW1 o1 ov1 PX Oq Sc Vf o ov Qg PF XM h1 h2 S7 hm
 go_enter func270,ntmps270
 go_wp2_with (simp only[hov])
 go_region_law (refine step_copy_runJ rfl _ _ 50 50 rfl _ _ g? g? (YU _ _ _) ?_)
 go_wp2_with (at_builtin;refine Lib.wpList_copy_run _ rfl _ _ 50 50 rfl _ _ rfl rfl (aa7 _ _) ?_)
 go_ret
 exact⟨_,rfl,Oy.out,hKP.out⟩
theorem Gk (X):∃C:List Value,C.toArray=X:=⟨X.toList,b?⟩
theorem xX (base:Nat) (v) (n:Nat) (xs) (m:Nat) (w) (vb:Nat) (ys) (h:w.ownsRow base 113 4 v n xs) (VG:base<=w.heap.size) (hm:m=1) (hn:n<=1000000) (ov:ae w vb ys.toArray 113) (Uz:ys.length=4) (h2:∀u∈ys,u.oneCell'=true):
  am! 270 #[v,(n:Int),(vb,m,m)] w (iA base v (n+1) (xs++ys) w):=by
 have⟨i0,hi0,Rh,hz1',hz2'⟩:=fg
 have Qc:¬((m:Int)=0):=a?
 have H:=tK h
 have QT:Hid (∀j u,ys[j]? =some u->w.cell? ((vb:Addr).add j)=some u):=fun j u hj=>by
  have TT:=(Nn.1 hj).1
  rw[Ni,Nat.zero_add,ov.fQ j TT,<-hj,MZ TT]
 have H2:=tK h2
 have HYS:Hid (ys.length=m*4):=tK (by rw[Uz,hm])
 have HM:=tK hm
 obtain⟨p,c,rfl⟩:=ah h
 have hcn:n<=c:=by
  rcases h.2 with⟨e,h0⟩|⟨g,cap,cur0,e,_,_,SR,_⟩
  .omega
  .injection e with _ _ e3;omega
 have afn:c<=9223372036854775807:=by
  rcases h.2 with⟨e,h0⟩|⟨g,cap,cur0,e,_,_,_,PT,_⟩
  .injection e with _ _ e3;omega
  .injection e with _ _ e3
   have:cap<=maxLen:=PT
   unfold maxLen at this;omega
 have hp:p=none->c=0:=fun e=>by
  subst e
  rcases h.2 with⟨e,h0⟩|⟨g,cap,cur0,e,_⟩
  .injection e
  .cases e
 clear h h2 Uz hm ov
 cases p with
 |none=>
  obtain rfl:=hp rfl
  obtain rfl:n=0:=a?
  go_enter func270,ntmps270
  go_wp2_with (at_builtin;refine MT w rfl (.tmp 23) (.tmp 24) 50 rfl base 113 i0 _ 4 56 underlying50 hi0 Rh hz1' hz2' rfl d? _ _ xs rfl H.out vb m m ys rfl HYS.out QT.out H2.out (by have:=HM.out;unfold maxLen;omega) (by have:=HM.out;omega) VG ?_)
  intro v' w1 Ot Pi Qw _
  have⟨HO,HG⟩:=f? Ot Pi
  clear Ot Pi Qw
  go_wp2_with fail
  go_ret
  exact⟨_,rfl,by have:=HO.out;rw[HM.out]at this;exact this,fun S hS=>(NP.refl S w).grown HG.out (fun k hk=>Or.inl (hS k hk))⟩
 |some a=>
  have⟨ab,ao,asp⟩:=a
  go_enter func270,ntmps270
  go_wp2_with (at_builtin;refine MT w rfl (.tmp 23) (.tmp 24) 50 rfl base 113 i0 _ 4 56 underlying50 hi0 Rh hz1' hz2' rfl d? _ _ xs rfl H.out vb m m ys rfl HYS.out QT.out H2.out (by have:=HM.out;unfold maxLen;omega) (by have:=HM.out;omega) VG ?_)
  all_goals (intro v' w1 Ot Pi Qw _)
  all_goals (have HO:=tK Ot)
  all_goals (have HG:=tK Pi)
  all_goals (clear Ot Pi Qw)
  all_goals go_wp2_with fail
  all_goals go_ret
  all_goals exact⟨_,rfl,by have:=HO.out;rw[HM.out]at this;exact this,fun S hS=>(NP.refl S w).grown HG.out (fun k hk=>Or.inl (hS k hk))⟩
theorem vT (base:Nat) (n:Nat) (xs:List Value) (i m:Nat) (w:World) (g cap:Nat) (cur:List Value) (vb:Nat) (ys:List Value) (o:ae w g cur.toArray 113) (hb:base<=g) (SR:n<=cap) (PT:cap<=maxLen) (Qg:cur.length=cap*4) (PF:cur.take (n*4)=xs) (XM:xs.length=n*4)
  (h1:∀u∈xs,u.oneCell'=true) (hi:i<n) (hn:n<=1000000) (hm:m=1) (hroom:cap<n+m) (ov:ae w vb ys.toArray 113) (Uz:ys.length=4) (h2:∀u∈ys,u.oneCell'=true):
  am! 270 #[(g,n,cap),(i:Int),(vb,m,m)] w (iA base (g,n,cap) (n+1) (xs.take (i*4)++ys++xs.drop (i*4)) w):=by
 have⟨i0,hi0,Rh,hz1',hz2'⟩:=fg
 have PW:(prog.info? 113).map (·.size)=some 4:=by rw[hi0];simp[hz1']
 have Qc:¬((m:Int)=0):=a?
 have Qx:¬((i:Int)=(n:Int)):=a?
 have acz:cap<=9223372036854775807:=PT
 have adK:g<w.heap.size:=o.lt
 obtain⟨q,hq⟩:∃q,n+m-i=q:=⟨_,rfl⟩
 have hq1:(n:Int)+(m:Int)-(i:Int)=(q:Int):=a?
 have hwq:IntKind.i64.wrap (q:Int)=(q:Int):=M?
 have Vf:(xs.drop (i*4)).length=(n-i)*4:=by rw[MQ,XM];omega
 have UY:(xs.take (i*4)).length=i*4:=by rw[MO,XM];omega
 have Ou:∀t,t<n*4->w.cell? ⟨g,t,none⟩=xs[t]? :=fun t ht=>by
  exact M90
 have hold:(Builtin.firstCells i0.size i (g,i,cap)).run prog w.drew=.ok (xs.take (i*4)).toArray w.drew:=
  run_firstCells_some w.drew i0.size i g i cap (xs.take (i*4)) (by rw[hz1',UY]) (fun j u hj=>by
   have TT:=(Nn.1 hj).1
   rw[UY]at TT
   rw[List.getElem?_take_of_lt TT]at hj
   rw[Ni,Nat.zero_add]
   show w.cell? _=_
   rw[Ou j a?];exact hj)
 have Oe:=fun ty=>Lib.run_append_grow_zeros (P:=prog) w 50 3 ty 113 i0 _ .i64 .i64 underlying50 underlying3 hi0 Rh (some g) i cap (xs.take (i*4)) hold q a? a? a? a? (by rw[hz2'];omega) (by rw[hz2'];exact growslice_fits a? a?)
 have hiq:i+q=n+m:=a?
 rw[hiq]at Oe
 have abo:=grownCap_le_maxLen w (n+m) cap 113 m?
 have hGn:n+m<=grownCap w (n+m) cap 113:=grownCap_ge w _ _ _
 obtain⟨G,hG⟩:∃G,G=grownCap w (n+m) cap 113:=⟨_,rfl⟩
 rw[<-hG]at Oe abo hGn
 have ZM:G<=9223372036854775807:=abo
 have⟨C,hC⟩:=Gk ((xs.take (i*4)).toArray++Builtin.zeroCells (Value.agg #[.int .u32 0,.string {data:=#[]},(0:Int),()]).cells q++Builtin.zeroCells (Value.agg #[.int .u32 0,.string {data:=#[]},(0:Int),()]).cells (G-(n+m)))
 rw[<-hC]at Oe
 have hCt:C.take (i*4)=xs.take (i*4):=by
  have e:=congrArg Array.toList hC
  simp only[Array.toList_append]at e
  rw[e,MW,NC (by rw[UY];exact MG _),Nh (by rw[UY];exact MG _)]
 have hCl:C.length=G*4:=by
  have e:=congrArg Array.size hC
  simp[Builtin.zeroCells,Value.cells,UY]at e
  rw[e]
  omega
 obtain⟨W1,hW1⟩:∃W1,W1=w.drew.alloc (.cells C.toArray 113):=⟨_,rfl⟩
 rw[<-hW1]at Oe
 have o1:ae W1 w C.toArray 113:=by rw[hW1];exact ae.new w.drew _ _
 have k1:∀S,NP S w W1:=fun S=>by rw[hW1];exact(NP.refl S w).drew.alloc _
 have ov1:ae W1 vb ys.toArray 113:=(k1 []).own ov b?
 have og1:ae W1 g cur.toArray 113:=(k1 []).own o b?
 have afk:vb<w.heap.size:=ov.lt
 have WW:i*4+ys.length<=C.length:=by rw[Uz,hCl];omega
 have YU:∀ty dc,(Builtin.copy_ #[50,50] ty #[.slice (some (aa w (i*4))) (n+m-i) dc,(vb,m,m)]).run prog W1=.ok ((m:Nat):Int) (W1.setCells w (i*4) ys):=fun ty dc=>
  kB W1 _ _ ty 113 4 w (i*4) (n+m-i) dc vb m m m ys underlying50 PW I! (by rw[Uz,hm])
   (fun j v hj=>by
    have TT:=(Nn.1 hj).1
    rw[Ni,Nat.zero_add,ov1.fQ j TT,<-hj,MZ TT])
   (fun j hj=>by rw[o1.fQ _ a?];rfl) (fun j hj=>o1.free _) h2
 obtain⟨W2,hW2⟩:∃W2,W2=W1.setCells w (i*4) ys:=⟨_,rfl⟩
 rw[<-hW2]at YU
 have o2:ae W2 w (cJ C (i*4) ys).toArray 113:=by rw[hW2];exact o1.oV _ _ WW
 have k2:∀S,NP S w W2:=fun S=>by rw[hW2];exact fA (Or.inr (MG _)) _ _ (k1 S)
 have og2:ae W2 g cur.toArray 113:=(k2 []).own o b?
 have PX:=gV WW
 have Sc:(i+m)*4+(xs.drop (i*4)).length<=(cJ C (i*4) ys).length:=by rw[PX,Vf,hCl];omega
 have aa7:∀ty dc sc,(Builtin.copy_ #[50,50] ty #[.slice (some (aa w ((i+m)*4))) (n+m-(i+m)) dc,.slice (some (aa g (i*4))) (n-i) sc]).run prog W2.drew=.ok ((n-i:Nat):Int) (W2.drew.setCells w ((i+m)*4) (xs.drop (i*4))):=fun ty dc sc=>
  kB W2.drew _ _ ty 113 4 w ((i+m)*4) (n+m-(i+m)) dc (aa g (i*4)) (n-i) sc (n-i) (xs.drop (i*4)) underlying50 PW I! Vf
   (fun j v hj=>by
    have TT:=(Nn.1 hj).1
    rw[Vf]at TT
    rw[List.getElem?_drop]at hj
    rw[Ni]
    show W2.cell? _=_
    have hj3:i*4+j<n*4:=a?
    rw[(k2 []).cell (by exact adK) b?,Ou _ hj3]
    exact hj)
   (fun j hj=>by show(W2.cell? _).isSome=true;rw[o2.fQ _ a?];rfl) (fun j hj=>o2.free _) (fun v hv=>h1 v (NF hv))
 have hO:Hid (ae (W2.drew.setCells w ((i+m)*4) (xs.drop (i*4))) w (cJ (cJ C (i*4) ys) ((i+m)*4) (xs.drop (i*4))).toArray 113):=(ae.drew o2).oV _ _ Sc
 have hKP:Hid (∀S:List Nat,NP S w (W2.drew.setCells w ((i+m)*4) (xs.drop (i*4)))):=fun S=>fA (Or.inr (MG _)) _ _ (k2 S).drew
 have Oy:Hid ((W2.drew.setCells w ((i+m)*4) (xs.drop (i*4))).ownsRow base 113 4 (w.heap.size,n+m,G) (n+1) (xs.take (i*4)++ys++xs.drop (i*4))):=by
  have:=kK (base:=base) (n:=n+1) (cap:=G) hO.out a? a? abo (by rw[gV Sc,PX,hCl])
  have e1:(n+1)*4=(i+m)*4+(xs.drop (i*4)).length:=by rw[Vf];omega
  have e2:(i+m)*4=i*4+ys.length:=by rw[Uz];omega
  have hE:(cJ (cJ C (i*4) ys) ((i+m)*4) (xs.drop (i*4))).take ((n+1)*4)=xs.take (i*4)++ys++xs.drop (i*4):=by
   rw[e1,oU Sc,e2,oU WW,hCt]
  rw[hE]at this
  rw[show n+m=n+1 by omega]
  exact this
 have TG:(0:Int)<=(i:Int)+(m:Int):=a?
 have P7:i<=n:=a?
 have SU:IntKind.i64.wrap ((i:Int)+(m:Int))=(i:Int)+(m:Int):=M?
 have TS:IntKind.i64.wrap ((n:Int)+(m:Int))=(n:Int)+(m:Int):=M?
 have htn:((i:Int)+(m:Int)).toNat=i+m:=a?
 have Q3:¬(G=i+m):=a?
 have hb3:(i:Int)+(m:Int)<=(n:Int)+(m:Int):=a?
 have hb4:¬(cap=i):=a?
 have XP:¬(G=i):=a?
 have hb6:(i:Int)<=(n:Int)+(m:Int):=a?
 have hb7:i+m<=n+m:=a?
 have hb8:i<=n+m:=a?
 have hb9:(cap:Int)<(n:Int)+(m:Int):=a?
 have hic:i<=cap:=a?
 clear hW1 hW2 o1 o2 ov1 og1 og2 k1 k2 PX WW Sc Vf UY o ov Qg PF XM h1 h2 Ou hold hG hC hCt hCl Uz hm hq hiq
 go_enter func270,ntmps270
 go_wp2_with (at_builtin;refine Lib.wpList_append_run _ rfl _ _ _ _ rfl _ _ rfl rfl _ _ (Oe _) ?_)
 go_wp2_with (at_builtin;refine Lib.wpList_copy_run _ rfl _ _ 50 50 rfl _ _ rfl rfl (YU _ _) ?_)
 go_region_law (refine step_copy_runJ rfl _ _ 50 50 rfl _ _ g? g? (aa7 _ _ _) ?_)
 go_wp2_with fail
 go_ret
 exact⟨_,rfl,Oy.out,fun S _=>hKP.out S⟩
theorem GS (base:Nat) (v) (n:Nat) (xs) (i:Nat) (w) (vb:Nat) (ys) (h:w.ownsRow base 113 4 v n xs) (VG:base<=w.heap.size) (h1:∀u∈xs,u.oneCell'=true) (hi:i<=n) (hn:n<=1000000) (ov:ae w vb ys.toArray 113) (Uz:ys.length=4) (h2:∀u∈ys,u.oneCell'=true) (hvb:v.ownBlock≠some vb):
  am! 270 #[v,(i:Int),.slice (some vb) 1 1] w (iA base v (n+1) (xs.take (i*4)++ys++xs.drop (i*4)) w):=by
 by_cases P7:i=n
 .subst P7
  have e1:xs.take (i*4)=xs:=by rw[<-h.1];exact MU
  have e2:xs.drop (i*4)=[]:=by rw[<-h.1];exact List.drop_length
  rw[e1,e2,NO]
  exact xX base v i xs 1 w vb ys h VG rfl hn ov Uz h2
 .have h':=h
  rcases h.2 with⟨_,h0⟩|⟨g,cap,cur0,rfl,hb,hg,SR,PT,Sk,htake⟩
  .omega
  .obtain⟨cur,rfl⟩:∃cur:List Value,cur0=cur.toArray:=⟨cur0.toList,b?⟩
   have Pb:vb≠g:=fun e=>hvb (by rw[e];rfl)
   by_cases hr:n+1<=cap
   .exact vF base n xs i 1 w g cap cur vb ys hg hb PT (by simpa using Sk) af! h'.1 h1 a? rfl hr ov Uz h2 Pb
   .exact vT base n xs i 1 w g cap cur vb ys hg hb SR PT (by simpa using Sk) af! h'.1 h1 a? hn rfl a? ov Uz h2
end
section
open Go.Proofs.Tryz Go.RowKit
variable {S:Nat->Prop} {w w' W W':World} {v:Value} {l:List NS} {n k base b g:Nat} {xs:List Value} {T:List Nat} {vs:List (NS×Value)} {cs:Array Value} {t:TypeId} {A q:Prop} {c:au}
def bD (S:Nat->Prop) (v:Value) (n:Nat):Prop:=∀g off sp n' c,v=.slice (some ⟨g,off,sp⟩) n' c->0<n->¬S g
def aq (S:Nat->Prop) (w:World) (v:Value) (l:List NS):Prop:=∃vs:List (NS×Value),vs.map (·.1)=l/\bO w v vs.length 4 (NX vs)/\(∀x∈vs,bd w x/\bD S x.2 x.1.runs.length)/\bD S v vs.length
theorem aq.plain (h:aq S w v l):aU w v l:=by
 have⟨vs,h1,h2,h3,_⟩:=h
 exact⟨vs,h1,h2,fun x hx=>(h3 x hx).1⟩
theorem af.off {l lo hi S} (h:af w v l lo hi) (hS:∀x,S x->w.heap.size<=x):bD S v l.length:=by
 intro g off sp n c e hn hg
 rcases h with⟨h,_⟩|⟨b,off',c',e',_,_,h4,h5,_⟩
 .rw[h]at hn;simp at hn
 .rw[e']at e
  injection e with e
  injection e with e
  injection e with e
  subst e
  have:=hS _ hg
  omega
theorem aq.kept0 (h:aq S w v l) (k:NP [] w w'):aq S w' v l:=by
 have⟨vs,h1,h2,h3,h4⟩:=h
 exact⟨vs,h1,h2.kept0 k,fun x hx=>⟨(h3 x hx).1.kept0 k,(h3 x hx).2⟩,h4⟩
theorem bO.aS (h:bO w v n k xs) (q:NP T w w') (ho:bD S v n) (hT:∀x∈T,S x):bO w' v n k xs:=by
 refine⟨h.1,?_⟩
 rcases h.2 with h2|⟨b,off,c,e,h3,h4,h5⟩
 .exact Or.inl h2
 .exact Or.inr ⟨b,off,c,e,fun j u hj=>(q.cell (by exact h4) (fun hb=>ho _ _ _ _ _ e h5.1 (hT _ hb))).trans (h3 j u hj),MR h4 q.size,h5⟩
theorem af.aS {l lo hi S T} (h:af w v l lo hi) (q:NP T w w') (ho:bD S v l.length) (hT:∀x∈T,S x):af w' v l lo hi:=by
 rcases h with h|⟨b,off,c,h1,h2,h3,h4,h5,h6,h7⟩
 .exact Or.inl h
 .have hn:0<l.length:=Nu.2 h6
  have hb:b∉T:=fun hb=>ho _ _ _ _ _ h1 hn (hT _ hb)
  refine Or.inr ⟨b,off,c,h1,fun i hi=>?_,h3,h4,Nk h5 q.size,h6,h7⟩
  have⟨x,y⟩:=h2 i hi
  exact⟨(q.cell d! hb).trans x,(q.cell d! hb).trans y⟩
theorem aq.aS (h:aq S w v l) (k:NP T w w') (hT:∀x∈T,S x):aq S w' v l:=by
 have⟨vs,h1,h2,h3,h4⟩:=h
 exact⟨vs,h1,h2.aS k h4 hT,fun x hx=>⟨⟨((h3 x hx).1.1.aS k (h3 x hx).2 hT).upto,(h3 x hx).1.2⟩,(h3 x hx).2⟩,h4⟩
theorem aq.nil (S w):aq S w () []:=⟨[],rfl,⟨rfl,Or.inl ⟨rfl,none,0,rfl⟩⟩,fun x hx=>J!,fun g off sp n c e=>(by injection e with e;cases e)⟩
theorem bD.row {e:TypeId} (h:w.ownsRow base e k v n xs) (hS:∀x,S x->x<base) (m):bD S v m:=by
 intro g off sp n' c ev _ hg
 have h1:=ML h g (by rw[ev];rcases h.2 with⟨e1,_⟩|⟨g2,cap,cur,e1,_⟩;(rw[e1]at ev;cases ev);(rw[e1]at ev;injection ev with ev;injection ev with ev;injection ev with ev;subst ev;rfl))
 have:=hS _ hg
 omega
theorem aq.bB (h:w.ownsRow base 113 4 v vs.length (NX vs)) (hS:∀x,S x->x<base) (h3:∀x∈vs,bd w x/\bD S x.2 x.1.runs.length):aq S w v (vs.map (·.1)):=⟨vs,rfl,bO.bB h,h3,bD.row h hS _⟩
def fp (S:Nat->Prop) (l:List NS) (w:World) (e:Ending) (w':World):Prop:=∃v,e=.returned v/\aq S w' v l/\NP [] w w'
def Pt (x:NS) (xv:Value):List Value:=[.int .u32 x.id,.string (bs x.name),.int .i64 x.size,xv]
theorem Al (x) {xv} (h:fP xv):∀u∈Pt x xv,u.oneCell'=true:=by
 intro u hu
 obtain⟨p,n,c,rfl⟩:=h
 simp[Pt]at hu
 rcases hu with rfl|rfl|rfl|rfl<;>rfl
theorem Ic {x:NS} {xv:Value}:(vs.take (Og (vs.map (·.1)) x)++[(x,xv)]++vs.drop (Og (vs.map (·.1)) x)).map (·.1)=Qm (vs.map (·.1)) x:=by
 unfold Qm
 rw[M0,M0,List.map_take,List.map_drop]
 simp
theorem aU.Ca {x xv} (h:w'.ownsRow base 113 4 v (vs.length+1) ((NX vs).take (Og (vs.map (·.1)) x*4)++Pt x xv++(NX vs).drop (Og (vs.map (·.1)) x*4))) (hS:∀x,S x->x<base) (h3:∀y∈vs,bd w y/\bD S y.2 y.1.runs.length) (hx:bd w (x,xv)/\bD S xv x.runs.length) (k:NP [] w w'):aq S w' v (Qm (vs.map (·.1)) x):=by
 rw[<-Ic (xv:=xv)]
 refine aq.bB (base:=base) ?_ hS (fun y hy=>?_)
 .have hle:=jv (vs.map (·.1)) x
  rw[MP]at hle
  have e1:(vs.take (Og (vs.map (·.1)) x)++[(x,xv)]++vs.drop (Og (vs.map (·.1)) x)).length=vs.length+1:=by
   rw[tN,tN,MO,MQ,Nq];omega
  rw[e1,fx,fx,<-gJ,<-fL]
  exact h
 .rcases Na.1 hy with hy|hy
  .rcases Na.1 hy with hy|hy
   .have:=h3 y (NJ hy);exact⟨this.1.kept0 k,this.2⟩
   .have:y=(x,xv):=N!
    subst this;exact⟨hx.1.kept0 k,hx.2⟩
  .have:=h3 y (NF hy);exact⟨this.1.kept0 k,this.2⟩
theorem pB (o:ae W b cs t) (h:∀g,v.ownBlock=some g->b<g) (hk:∀S,(∀g,v.ownBlock=some g->g∈S)->NP S W W'):ae W' b cs t:=by
 cases hb:v.ownBlock with
 |none=>exact(hk [] (fun g hg=>by rw[hb]at hg;cases hg)).own o b?
 |some g=>
  have:=h g hb
  exact(hk [g] (fun g' hg=>by rw[hb]at hg;injection hg with hg;simp[hg])).own o e?
theorem nK (k:NP [] w W) (h:∀g,v.ownBlock=some g->w.heap.size<=g) (hk:∀S,(∀g,v.ownBlock=some g->g∈S)->NP S W W'):NP [] w W':=by
 cases hb:v.ownBlock with
 |none=>exact k.call (hk [] (fun g hg=>by rw[hb]at hg;cases hg)) (fun x hx=>by cases hx)
 |some g=>
  refine k.call (hk [g] (fun g' hg=>by rw[hb]at hg;injection hg with hg;simp[hg])) (fun x hx=>?_)
  have:x=g:=h?
  subst this
  exact Or.inr (h _ hb)
theorem adF (h:A:=by
 clear hK K
 refine tS ?_
 refine Ng c? ?_ _
 go_wp2_with fail
 go_ret
 exact Ph.out _ _ K7.out hro7):A:=h
theorem L5 (v l x xv w) (h:aq S w v l) (hS:∀x,S x->x<w.heap.size) (hl:l.length<=100000) (hr:cG l) (hx:bd w (x,xv)/\bD S xv x.runs.length):
  am! 235 #[v,.agg (x.cells xv),.func (.func 233) #[] #[]] w (fp S (Qm l x) w):=by
 have hs:=fun W (q:NP [] w W)=>Ab v l x xv W (h.plain.kept0 q) a? hr
 unfold gA at hs
 have Xp:=jv l x
 obtain⟨vs,rfl,hraw,Pf,_⟩:=h
 rw[MP]at hl Xp
 have Td:=fun y hy=>(Pf y hy).1.fz
 have Qg:=fun W (q:NP [] w W)=>sd v vs.length (NX vs) W (hraw.kept0 q) (fB Td) a?
 obtain⟨px,nx,cx,rfl⟩:fP xv:=hx.1.fz
 have P7:Hid (∀W v' vb,NP [] w W->W.ownsRow w 113 4 v' vs.length (NX vs)->ae W vb #[(x.id,()),x.name,x.size,(px,nx,cx)] 113->v'.ownBlock≠some vb->am! 270 #[v',(Og (vs.map (·.1)) x:Int),.slice (some ⟨vb,0,none⟩) 1 1] W (iA w v' (vs.length+1) ((NX vs).take (Og (vs.map (·.1)) x*4)++Pt x (px,nx,cx)++(NX vs).drop (Og (vs.map (·.1)) x*4)) W)):=
  fun W v' vb q P0 hov Pb=>GS w v' vs.length (NX vs) _ W vb (Pt x (px,nx,cx)) P0 q.size (fB Td) Xp a? hov rfl (Al x ⟨_,_,_,rfl⟩) Pb
 have Ph:Hid (∀W v',NP [] w W->W.ownsRow w 113 4 v' (vs.length+1) ((NX vs).take (Og (vs.map (·.1)) x*4)++Pt x (px,nx,cx)++(NX vs).drop (Og (vs.map (·.1)) x*4))->fp S (Qm (vs.map (·.1)) x) w (.returned v') W):=fun W v' q P0=>⟨v',rfl,aU.Ca P0 hS Pf hx q,q⟩
 have⟨HS,S9⟩:=f? hs Qg
 obtain⟨pv,cv,rfl⟩:=hraw.shape
 unfold iA at P7
 have oX:=ae.new w (x.cells (px,nx,cx)) 113
 have k0:NP [] w (w.alloc (.cells (x.cells (px,nx,cx)) 113)):=(NP.refl _ _).alloc _
 unfold NS.cells at oX k0 HS ⊢
 have⟨x0,x1,x2,x3⟩:=oX.c4
 have⟨OX,K0⟩:=f? oX k0
 clear hs Qg Td Pf hx Xp hS oX k0 hraw hr
 generalize Og (vs.map (·.1)) x=P at*
 generalize Qm (vs.map (·.1)) x=IL at*
 generalize vs.length=L at*
 generalize NX vs=IC at*
 go_enter func235,ntmps235
 go_wp2_with fail
 refine(HS.out _ K0.out).mono ?_;rintro e w2 ⟨q,rfl,hq,k2⟩
 have K2:=tK (K0.out.trans k2)
 have o2:=k2.own OX.out b?
 have O2:=tK o2
 have⟨x0,x1,x2,x3⟩:=o2.c4
 clear hq o2
 go_wp2_with fail
 refine MK (S:=(fun W=>W.cell? w=(x.id,())/\W.cell? (aa w 1)=x.name/\W.cell? (aa w 2)=x.size/\W.cell? (aa w 3)=(px,nx,cx))) c? (by exact O2.out.drew.c4) (fun hHeld=>?_)
 refine tS ?_
 refine wpAnyH_ready (rs:=[1,4]) c? b? ?_
 refine(AllReadyH.cons rfl (fun K hK=>?_) (AllReadyH.cons rfl (fun K hK=>?_) AllReadyH.nil))
 .go_simp
  ((with_reducible refine(S9.out _ K2.out.drew).mono ?_));rintro e w5 ⟨v5,rfl,r5,k5⟩
  have K5:=tK (K2.out.drew.trans k5)
  have o5:=k5.own O2.out.drew b?
  have⟨O5,R5⟩:=f? o5 r5
  clear r5 o5
  go_wp2_with fail
  refine hK.out _ _ ?_ (fun hHeld=>nM ?_)
  .exact O5.out.c4
  clear hK K
  refine rD 4 (fun K hK=>?_)
  go_simp
  refine hK.out _ _ ?_ (fun hHeld=>nM ?_)
  .go_keep
  clear hK K
  have hov:=ae.new w5 #[(x.id,()),x.name,x.size,(px,nx,cx)] 113
  have Wq:=ML R5.out
  have Wd:=MH (aF R5.out K2.out.size) (.cells #[(x.id,()),x.name,x.size,(px,nx,cx)] 113)
  have Pb:v5.ownBlock≠some w5:=fun e=>by have:=(Wq _ e).2;omega
  have Zq:=P7.out _ v5 _ (K5.out.alloc _) Wd hov Pb
  have abd:=tK Zq
  have Zz:=tK (ML Wd)
  have aaU:Hid (∀g,v5.ownBlock=some g->w.heap.size<g):=tK (fun g hg=>by have h1:=(Wq g hg).1;have h2:=O2.out.lt;simp at h1;omega)
  clear hov Wq Wd Pb Zq
  refine rD 5 (fun K hK=>?_)
  go_simp
  ((with_reducible refine abd.out.mono ?_));rintro e w7 ⟨v7,rfl,hro7,SV⟩
  have K7:Hid (NP [] w w7):=tK (nK (K5.out.alloc _) (fun g hg=>(Zz.out g hg).1) SV)
  go_wp2_with fail
  refine hK.out _ _ ?_ (fun hHeld=>nM ?_)
  .exact(pB (O5.out.alloc _) (fun g hg=>aaU.out g hg) SV).c4
  exact adF
 .go_simp
  refine hK.out _ _ ?_ (fun hHeld=>nM ?_)
  .go_keep
  clear hK K
  have hov:=ae.drew (ae.new w2 #[(x.id,()),x.name,x.size,(px,nx,cx)] 113)
  have HOV:=tK hov
  have KB:Hid (NP [] w (w2.alloc (.cells #[(x.id,()),x.name,x.size,(px,nx,cx)] 113)).drew):=tK ((K2.out.alloc _).drew)
  have OB:Hid (ae (w2.alloc (.cells #[(x.id,()),x.name,x.size,(px,nx,cx)] 113)).drew w #[(x.id,()),x.name,x.size,(px,nx,cx)] 113):=tK ((O2.out.alloc _).drew)
  clear hov
  refine rD 1 (fun K hK=>?_)
  go_simp
  ((with_reducible refine(S9.out _ KB.out).mono ?_));rintro e w5 ⟨v5,rfl,r5,k5⟩
  have K5:=tK (KB.out.trans k5)
  have o5:=k5.own OB.out b?
  have O5:=tK o5
  have ab4:=k5.own HOV.out b?
  have Wq:=ML r5
  have Pb:v5.ownBlock≠some w2:=fun e=>by have:=(Wq _ e).1;simp at this;omega
  have Wd:=aF r5 KB.out.size
  have Zq:=P7.out _ v5 _ K5.out Wd ab4 Pb
  have abd:=tK Zq
  have Zz:=tK (ML Wd)
  have aaU:Hid (∀g,v5.ownBlock=some g->w.heap.size<g):=tK (fun g hg=>by have h1:=(Wq g hg).1;have h2:=O2.out.lt;simp at h1;omega)
  clear r5 o5 ab4 Wq Pb Wd Zq
  go_wp2_with fail
  refine hK.out _ _ ?_ (fun hHeld=>nM ?_)
  .exact O5.out.c4
  clear hK K
  refine rD 5 (fun K hK=>?_)
  go_simp
  ((with_reducible refine abd.out.mono ?_));rintro e w7 ⟨v7,rfl,hro7,SV⟩
  have K7:Hid (NP [] w w7):=tK (nK K5.out (fun g hg=>(Zz.out g hg).1) SV)
  go_wp2_with fail
  refine hK.out _ _ ?_ (fun hHeld=>nM ?_)
  .exact(pB O5.out (fun g hg=>aaU.out g hg) SV).c4
  exact adF
def jk (l:List NS):Prop:=l.length<=1000000/\∀a∈l,a.runs.length<=1000000
def ie (c:au):Prop:=jk c.boxes/\jk c.mans/\jk c.names
def dJ (w:World) (v:Value) (c:au):Prop:=∃vb vm vn,v=.agg #[(c.nextBox,()),(c.nextMan,()),vb,vm,vn]/\aU w vb c.boxes/\aU w vm c.mans/\aU w vn c.names/\(Lit.int .u32 c.nextBox).wf=true/\(Lit.int .u32 c.nextMan).wf=true
theorem dJ.kept0 (h:dJ w v c) (k:NP [] w w'):dJ w' v c:=by
 have⟨vb,vm,vn,e,h1,h2,h3,h4⟩:=h
 exact⟨vb,vm,vn,e,h1.kept0 k,h2.kept0 k,h3.kept0 k,h4⟩
theorem ae.k5 {x0 x1 x2 x3 x4} (h:ae w b #[x0,x1,x2,x3,x4] t):w.cell? b=some x0/\w.cell? (aa b 1)=some x1/\w.cell? (aa b 2)=some x2/\w.cell? (aa b 3)=some x3/\w.cell? (aa b 4)=some x4:=
 ⟨h.cell 0 b?,h.cell 1 b?,h.cell 2 b?,h.cell 3 b?,h.cell 4 b?⟩
def bG (q:Prop) (w:World) (e:Ending) (w':World):Prop:=∃b,e=.returned (.bool b)/\(b=true↔q)/\NP [] w w'
theorem aX (h:¬q) {w w'} (k:NP [] w w'):bG q w (.returned false) w':=⟨false,rfl,⟨fun h'=>(by cases h'),fun h'=>absurd h' h⟩,k⟩
theorem gu (h:q) {w w'} (k:NP [] w w'):bG q w (.returned true) w':=⟨true,rfl,⟨fun _=>h,fun _=>rfl⟩,k⟩
theorem B6 {m:List NS} (hl:k<l.length) (hm:k<m.length) (h:l.take k=m.take k) (he:l[k]=m[k]):l.take (k+1)=m.take (k+1):=by
 rw[MI hl,MI hm,h,he]
theorem au.qG (a b:au):((a.nextBox==b.nextBox)=false/\a≠b)\/((a.nextBox==b.nextBox)=true/\(a.nextMan==b.nextMan)=false/\a≠b)\/((a.nextBox==b.nextBox)=true/\(a.nextMan==b.nextMan)=true/\(a=b↔a.boxes=b.boxes/\a.mans=b.mans/\a.names=b.names)):=by
 obtain⟨a1,a2,a3,a4,a5⟩:=a
 obtain⟨b1,b2,b3,b4,b5⟩:=b
 grind
theorem sU (name):(name=[]/\(bs name).toList.isEmpty=true/\(bs name).toList=[]/\name.length=0)\/(name.isEmpty=false/\(bs name).toList.isEmpty=false/\1<=name.length/\name.length<=48/\(name.length:Int)<=48)\/(name.isEmpty=false/\(bs name).toList.isEmpty=false/\1<=name.length/\¬name.length<=48/\(48:Int)<name.length):=by
 rcases nF name with h|⟨h1,h2,h3⟩
 .exact Or.inl h
 .rcases(by omega:(name.length:Int)<=48\/(48:Int)<name.length)with l1|l1
  .exact Or.inr (Or.inl ⟨h1,h2,h3,a?,l1⟩)
  .exact Or.inr (Or.inr ⟨h1,h2,h3,a?,l1⟩)
theorem s9 {A b} (c) (h:b=c) (k:am! n A w (mZ c w)):am! n A w (mZ b w):=h▸k
theorem zE (h:A:=by
 go_enter func98,ntmps98
 go_wp2_with fail
 refine(HH.out _).mono ?_;rintro e w' ⟨rfl,rfl⟩
 go_wp2_with fail
 go_ret
 exact⟨rfl,k0⟩):A:=h
theorem zD (h:A:=by
 refine s9 false T! ?_
 exact zE):A:=h
theorem Dl (h:A:=by
 go_enter func98,ntmps98
 go_wp2_with fail
 refine(HH.out _).mono ?_;rintro e w' ⟨rfl,rfl⟩
 go_wp2_with fail
 refine(HP.out _ k0).mono ?_;rintro e w1 ⟨rfl,k1⟩
 go_wp2_with fail
 go_ret
 exact⟨rfl,k0.trans k1⟩):A:=h
theorem JW {A:Prop} (h:A:=by
 rcases(by omega:size=0\/size≠0)with z1|z1
 .subst z1
  rcases List.eq_nil_or_concat runs with e1|⟨ri,rq,e1⟩
  .subst e1
   have hP:P=true:=by rw[<-ZC];exact rC
   subst hP
   refine s9 true (by unfold gq;simp[*,rC]) ?_
   exact Dl
  .have e2:1<=runs.length:=by rw[e1];simp
   have e3:(0:Int)<runs.length:=a?
   have e4:runs.isEmpty=false:=by rw[e1];simp
   clear e1
   exact zD
 .have z2:(size==0)=false:=by simpa using z1
  have z3:(size != 0)=true:=by simpa using z1
  exact zD):A:=h
theorem ta (r v lo hi w) (h:af w v r.runs lo hi) (hl:r.runs.length<=1000000) (hf:r.fits):
  am! 98 #[.agg (r.cells v)] w (mZ (az r) w):=by
 have⟨k,id,name,size,runs⟩:=r
 have⟨f1,f2,f3,f4⟩:=hf
 simp only at h hl f1 f2 f3 f4
 obtain⟨p,c,rfl⟩:=h.shape
 unfold ag.cells az
 simp only
 have hh:=fun W=>pJ k W
 have⟨id0,id1⟩:=eG f2
 have hsb:=ko f4
 have PW:(bs name).size=name.length:=NQ name
 unfold maxLen at f3
 have k0:NP [] w (w.alloc (.cells #[k,(id,()),name,size,(p,runs.length,c)] 102)):=(NP.refl _ _).alloc _
 have Rq:=fun W (kk:NP [] w W)=>Ij _ runs size lo hi W (h.kept0 kk) hl f4
 unfold lQ at Rq
 have HP:=tK Rq
 clear Rq h f1 f2 f4
 generalize S4 k=I at*
 generalize Px k=N at*
 generalize Oj k=B at*
 generalize ZC:iD runs size=P at*
 rcases(by omega:id=0\/(¬id=0/\1<=id/\id<=4294967294)\/id=4294967295)with rfl|⟨i3,i1,i2⟩|rfl
 rotate_left
 have i4:(id==0)=false:=by simpa using i3
 have i5:(id != 0)=true:=by simpa using i3
 all_goals rcases sU name with⟨rfl,nm2,nm3,nm4⟩|⟨nm1,nm2,nm3,l1,l3⟩|⟨nm1,nm2,nm3,l1,l3⟩
 all_goals cases I<;>cases N<;>cases B<;>(have HH:=tK hh;clear hh;first|(refine s9 false T! ?_;exact zE)|(refine s9 P T! ?_;cases P<;>exact Dl)|exact JW)
def oh (p:NS->Bool) (l:List NS) (w:World) (e:Ending) (w':World):Prop:=((∃i,∃h:i<l.length,p l[i]=true/\(∀j (hj:j<l.length),j<i->p l[j]=false)/\e=.returned (.int .i64 i))\/((∀j (hj:j<l.length),p l[j]=false)/\e=(-1:Int)))/\NP [] w w'
theorem M16 {A:Prop}(h:A:=by
 obtain⟨k,hk,rfl,OF,hK⟩:=hrel
 by_cases NV:k<l.length
 .obtain⟨b,off,kv,rfl,hia,hb,RU,hc2,HA⟩:=H.out.ja k NV
  have Qg:=HP.out wr hK k NV kv (hia.kept0 hK)
  have⟨x0,x1,x2,x3⟩:=HA wr hK
  obtain⟨R,hR⟩:∃R,p (l[k]'NV)=R:=⟨_,rfl⟩
  rw[hR]at Qg
  unfold NS.cells at Qg
  have i1:(k:Int)<l.length:=a?
  have⟨S9,Uc,Pk,SI,Of⟩:=gi! Qg hR OF hK NV
  clear hia Qg hR OF HA hb
  generalize hLA:l[k]'NV=A at x0 x1 x2 x3 S9
  clear hLA
  go_wp2_with fail
  refine S9.out.mono ?_;rintro e w2 ⟨rfl,k2⟩
  have KK:=tK (SI.out.trans k2)
  cases R with
  |true=>
   go_wp2_with fail
   go_ret
   exact⟨Or.inl ⟨k,Of.out,Uc.out,Pk.out,rfl⟩,KK.out⟩
  |false=>
   go_wp2_with fail
   go_roundw
   case rel=>exact⟨k+1,Of.out,j?,fun j hj hjk=>by
    by_cases e:j=k
    .subst e;exact Uc.out
    .exact Pk.out j hj a?,KK.out⟩
   case measure=>(have h:=Of.out;simp[intOf];omega)
 .obtain rfl:k=l.length:=a?
  have Pk:=tK OF
  clear OF
  go_wp2_with fail
  go_ret
  exact⟨Or.inr ⟨fun j hj=>Pk.out j hj hj,rfl⟩,hK⟩):A:=h
theorem Ad (p:NS->Bool) (cv v l w) (h:aU w v l) (hl:l.length<=1000000) (hp:∀W,NP [] w W->∀i (hi:i<l.length) kv,bd W (l[i],kv)->am! 230 #[.agg (l[i].cells kv),cv] W fun e w'=>e=.returned (.bool (p l[i]))/\NP [] W w'):
  am! 187 #[v,.func (.func 230) #[] #[cv]] w (oh p l w):=by
 obtain⟨pa,ca,rfl⟩:=h.shape
 have⟨H,HP⟩:=f? h hp
 have Tg:(l.length:Int)<=1000000:=a?
 clear h hp
 go_enter func187,ntmps187
 go_wp2_with fail
 go_loopw [8] (fun i wr=>∃k:Nat,k<=l.length/\i=(k:Int)/\(∀j (hj:j<l.length),j<k->p l[j]=false)/\NP [] w wr) (fun i _=>l.length-(intOf i).toNat)
 case atStart=>exact⟨0,Nb _,rfl,fun j hj h=>absurd h (Nat.not_lt_zero j),NP.refl _ _⟩
 case round=>
  exact M16
theorem L8 (k:Int) (kb:Nat) (x:NS) (xv:Value) (w:World) (hk:w.cell? kb=k) (hx:bd w (x,xv)) (hl:x.runs.length<=1000000) (YK:(Lit.int .i64 k).wf=true):
  am! 230 #[.agg (x.cells xv),kb] w fun e w'=>e=.returned (.bool (!az (x.told k)))/\NP [] w w':=by
 have ht:=fun W=>Gu k x xv W hx.fz
 have hc:=fun W (q:NP [] w W)=>ta (x.told k) xv _ _ W (hx.1.kept0 q) hl (NS.dw hx.2.1 YK)
 unfold mZ at hc
 obtain⟨p,n,c,rfl⟩:=hx.fz
 obtain⟨M,hM⟩:∃M,az (x.told k)=M:=⟨_,rfl⟩
 rw[hM]
 simp only[hM]at hc
 have oX:=ae.new w (x.cells (p,n,c)) 113
 have k0:NP [] w (w.alloc (.cells (x.cells (p,n,c)) 113)):=(NP.refl _ _).alloc _
 have hkb:kb<w.heap.size:=World.block_lt_of_cell? _ _ hk
 have c0:(w.alloc (.cells (x.cells (p,n,c)) 113)).cell? kb=k:=Lib.cell?_alloc_some _ hk
 unfold NS.told ag.cells at hc ht
 unfold NS.cells at oX k0 c0 ht ⊢
 have⟨x0,x1,x2,x3⟩:=oX.c4
 have⟨K0,HC,HT⟩:=gg! k0 hc ht
 clear oX k0 hc ht hM hkb hk hx
 go_enter func230,ntmps230
 go_wp2_with fail
 refine(HT.out _).mono ?_;rintro e w2 ⟨rfl,k2⟩
 have K2:=tK (K0.out.trans k2)
 go_wp2_with fail
 refine(HC.out _ K2.out).mono ?_;rintro e w3 ⟨rfl,k3⟩
 have K3:=tK (K2.out.trans k3)
 cases M
 .go_wp2_with fail
  go_ret
  exact⟨rfl,K3.out⟩
 .go_wp2_with fail
  go_ret
  exact⟨rfl,K3.out⟩
theorem BP (p:NS->Bool) (cv v l w) (h:aU w v l) (hl:l.length<=1000000) (hp:∀W,NP [] w W->∀i (hi:i<l.length) kv,bd W (l[i],kv)->am! 230 #[.agg (l[i].cells kv),cv] W fun e w'=>e=.returned (.bool (p l[i]))/\NP [] W w'):
  am! 231 #[v,.func (.func 230) #[] #[cv]] w (bG (∃a∈l,p a=true) w):=by
 have hi:=Ad p cv v l w h hl hp
 unfold oh at hi
 obtain⟨pa,ca,rfl⟩:=h.shape
 have HI:=tK hi
 clear hi h hp hl
 go_enter func231,ntmps231
 go_wp2_with fail
 refine HI.out.mono ?_;rintro e w2 ⟨⟨i,hi,h1,h2,rfl⟩|⟨h2,rfl⟩,k2⟩
 .have hx:∃a∈l,p a=true:=⟨_,MJ hi,h1⟩
  have HX:=tK hx
  have i1:(0:Int)<=(i:Int):=a?
  clear hx h1 h2 hi
  go_wp2_with fail
  go_ret
  exact gu HX.out k2
 .have hx:¬ ∃a∈l,p a=true:=by
   rintro⟨a,ha,hpa⟩
   obtain⟨j,hj,rfl⟩:=Nr.1 ha
   rw[h2 j hj]at hpa;cases hpa
  have HX:=tK hx
  clear hx h2
  go_wp2_with fail
  go_ret
  exact aX HX.out k2
theorem tE (k:Int) (v l) (most:Nat) (w) (h:aU w v l) (hl:jk l) (YK:(Lit.int .i64 k).wf=true) (_:most<=1000000):
  am! 167 #[k,v,(most:Int)] w (bG (cE k l most) w):=by
 have o0:=ae.new w #[k] 31
 have k0:NP [] w (w.alloc (.cells #[k] 31)):=(NP.refl _ _).alloc _
 have c0:=o0.cell 0 b?
 have hco:=BP (fun x=> !az (x.told k)) w.heap.size v l _ (h.kept0 k0) hl.1 (fun W q i hi kv hx=>L8 k w _ kv W ((q.cell (by exact o0.lt) b?).trans c0) hx (hl.2 _ (MJ hi)) YK)
 have hri:=fun W (q:NP [] w W)=>Kn v l W (h.kept0 q) hl.1
 unfold bG at hco
 unfold oa at hri
 obtain⟨pa,ca,rfl⟩:=h.shape
 have j1:(l.length:Int)<=1000000:=by have:=hl.1;omega
 have⟨HC,HR,K0⟩:=gg! hco hri k0
 simp only[List.getElem_toArray,List.getElem_cons_zero]at c0
 clear hco hri k0 o0 h hl
 by_cases hlen:l.length<=most
 .have i1:(l.length:Int)<=most:=a?
  go_enter func167,ntmps167
  go_wp2_with fail
  refine HC.out.mono ?_;rintro e w2 ⟨b,rfl,hb,k2⟩
  have K2:=tK (K0.out.trans k2)
  have HB:=tK hb
  clear hb
  cases b with
  |true=>
   go_wp2_with fail
   go_ret
   exact aX (fun Xd=>by
    have⟨a,ha,hna⟩:=HB.out.1 b?
    rw[Xd.2.1 a ha]at hna;cases hna) K2.out
  |false=>
   go_wp2_with fail
   refine(HR.out _ K2.out).mono ?_;rintro e w3 ⟨q,rfl,hq,k3⟩
   have K3:=tK (K2.out.trans k3)
   have HQ:=tK hq
   clear hq
   go_wp2_with fail
   go_ret
   refine⟨q,rfl,⟨fun hq1=>⟨hlen,fun a ha=>?_,HQ.out.1 hq1⟩,fun Xd=>HQ.out.2 Xd.2.2⟩,K3.out⟩
   cases g:az (a.told k)
   .have:=HB.out.2 ⟨a,ha,by simp[g]⟩
    cases this
   .rfl
 .have i1:¬(l.length:Int)<=most:=a?
  go_enter func167,ntmps167
  go_wp2_with fail
  go_ret
  exact aX (fun Xd=>hlen Xd.1) K0.out
theorem BR (next v l w) (h:aU w v l) (hr:cG l) (hl:l.length<=1000000):
  am! 168 #[(next,()),v] w (bG (cZ next l) w):=by
 obtain⟨p,c,rfl⟩:=h.shape
 have hq:= @BI next _ 0 hr
 have HQ:=tK hq
 have j1:(l.length:Int)<=1000000:=a?
 clear hq hr
 by_cases h1:1<=next
 .by_cases h0:l.length=0
  .have i0:(l.length:Int)=0:=a?
   have hy:cZ next l:=HQ.out.2 ⟨h1,Or.inl h0⟩
   have HY:=tK hy
   rw[h0]
   clear hy h h0 i0 j1 hl
   go_enter func168,ntmps168
   go_wp2_with fail
   go_ret
   exact gu HY.out (NP.refl _ _)
  .have i0:¬(l.length:Int)=0:=a?
   have Pb:¬l=[]:=fun e=>h0 (by rw[e];rfl)
   have hb0:((l.length:Int)==0)=false:=by simpa using Pb
   obtain⟨m,hm⟩:∃m,l.length-1=m:=⟨_,rfl⟩
   have TF:m<l.length:=a?
   have e1:(l.length:Int)-1=(m:Int):=a?
   have w1:IntKind.i64.wrap (m:Int)=(m:Int):=M?
   have i1:(m:Int)<l.length:=a?
   have i2:(0:Int)<=m:=a?
   obtain⟨b,off,kv,rfl,_,hb,RU,hc2,HA⟩:=h.ja m TF
   have⟨x0,x1,x2,x3⟩:=HA w (NP.refl _ _)
   have Wu:cZ next l↔(l[m]'TF).id<next:=by
    rw[HQ.out]
    subst hm
    constructor
    .rintro⟨_,h|⟨_,h⟩⟩
     .exact absurd h h0
     .exact h
    .intro h;exact⟨h1,Or.inr ⟨TF,h⟩⟩
   have HQ2:=tK Wu
   clear Wu HQ hm h0 HA h
   generalize l[m]'TF=A at*
   by_cases NV:A.id<next
   .go_enter func168,ntmps168
    go_wp2_with fail
    go_ret
    exact gu (HQ2.out.2 NV) (NP.refl _ _)
   .have Of:=tK NV
    go_enter func168,ntmps168
    go_wp2_with fail
    go_ret
    exact aX (fun q=>absurd (HQ2.out.1 q) Y!) (NP.refl _ _)
 .have H1:=tK h1
  go_enter func168,ntmps168
  go_wp2_with fail
  go_ret
  exact aX (fun q=>absurd q.1 (by have:=H1.out;omega)) (NP.refl _ _)
open Classical in
noncomputable def lK (c:au):Int:=if OL c then 0 else 110
def iC (c:au) (w:World) (e:Ending) (w':World):Prop:=e=(lK c:Int)/\NP [] w w'
theorem jj (h:¬OL c) {w w'} (k:NP [] w w'):iC c w (.returned (110:Int)) w':=by
 unfold iC lK;rw[if_neg h];exact⟨rfl,k⟩
theorem yU (h:OL c) {w w'} (k:NP [] w w'):iC c w (.returned (0:Int)) w':=by
 unfold iC lK;rw[if_pos h];exact⟨rfl,k⟩
theorem BQ (v c w) (h:dJ w v c) (hl:ie c):
  am! 97 #[v] w (iC c w):=by
 obtain⟨vb,vm,vn,rfl,hb,hm,hn,_⟩:=h
 have HB:Hid (∀W,NP [] w W->am! 167 #[(1:Int),vb,(2048:Int)] W (bG (cE 1 c.boxes 2048) W)):=tK (fun W q=>tE 1 vb _ 2048 W (hb.kept0 q) hl.1 d? d?)
 have HM:Hid (∀W,NP [] w W->am! 167 #[(2:Int),vm,(2048:Int)] W (bG (cE 2 c.mans 2048) W)):=tK (fun W q=>tE 2 vm _ 2048 W (hm.kept0 q) hl.2.1 d? d?)
 have HN:Hid (∀W,NP [] w W->am! 167 #[(3:Int),vn,(256:Int)] W (bG (cE 3 c.names 256) W)):=tK (fun W q=>tE 3 vn _ 256 W (hn.kept0 q) hl.2.2 d? d?)
 have Xv:Hid (∀W,NP [] w W->cE 1 c.boxes 2048->am! 168 #[(c.nextBox,()),vb] W (bG (cZ c.nextBox c.boxes) W)):=tK (fun W q hr=>BR _ vb _ W (hb.kept0 q) hr.2.2 hl.1.1)
 have HAM:Hid (∀W,NP [] w W->cE 2 c.mans 2048->am! 168 #[(c.nextMan,()),vm] W (bG (cZ c.nextMan c.mans) W)):=tK (fun W q hr=>BR _ vm _ W (hm.kept0 q) hr.2.2 hl.2.1.1)
 obtain⟨p1,c1,rfl⟩:=hb.shape
 obtain⟨p2,c2,rfl⟩:=hm.shape
 obtain⟨p3,c3,rfl⟩:=hn.shape
 unfold bG at HB HM HN Xv HAM
 clear hb hm hn hl
 generalize c.boxes.length=l1 at*
 generalize c.mans.length=l2 at*
 generalize c.names.length=l3 at*
 generalize RG:c.nextBox=nb at*
 generalize Rb:c.nextMan=nm at*
 have⟨S6,S3⟩:=f? RG Rb
 have oA:=ae.new w #[(nb,()),(nm,()),(p1,l1,c1),(p2,l2,c2),(p3,l3,c3)] 52
 have k0:NP [] w (w.alloc (.cells #[(nb,()),(nm,()),(p1,l1,c1),(p2,l2,c2),(p3,l3,c3)] 52)):=(NP.refl [] w).alloc _
 have K0:=tK k0
 have⟨x0,x1,x2,x3,x4⟩:=oA.k5
 have OA:=tK oA
 clear k0 oA RG Rb
 go_enter func97,ntmps97
 go_wp2_with fail
 refine(HB.out _ K0.out).mono ?_;rintro e w2 ⟨r1,rfl,e1,k2⟩
 have K2:=tK (K0.out.trans k2)
 have E1:=tK e1
 have oA2:=k2.own OA.out b?
 have⟨x0,x1,x2,x3,x4⟩:=oA2.k5
 have UW:=tK oA2
 clear e1 oA2
 cases r1 with
 |false=>
  go_wp2_with fail
  go_ret
  exact jj (fun q=>by have:=E1.out.2 q.boxes;cases this) K2.out
 |true=>
  have G1:=tK (E1.out.1 rfl)
  go_wp2_with fail
  refine(Xv.out _ K2.out G1.out).mono ?_;rintro e w3 ⟨r2,rfl,e2,k3⟩
  have K3:=tK (K2.out.trans k3)
  have E2:=tK e2
  have oA3:=k3.own UW.out b?
  have⟨x0,x1,x2,x3,x4⟩:=oA3.k5
  have Uh:=tK oA3
  clear e2 oA3
  cases r2 with
  |false=>
   go_wp2_with fail
   go_ret
   exact jj (fun q=>by have:=E2.out.2 (by rw[<-S6.out];exact q.nb);cases this) K3.out
  |true=>
   have G2:=tK (E2.out.1 rfl)
   go_wp2_with fail
   refine(HM.out _ K3.out).mono ?_;rintro e w4 ⟨r3,rfl,e3,k4⟩
   have K4:=tK (K3.out.trans k4)
   have E3:=tK e3
   have SY:=k4.own Uh.out b?
   have⟨x0,x1,x2,x3,x4⟩:=SY.k5
   have Sh:=tK SY
   clear e3 SY
   cases r3 with
   |false=>
    go_wp2_with fail
    go_ret
    exact jj (fun q=>by have:=E3.out.2 q.mans;cases this) K4.out
   |true=>
    have G3:=tK (E3.out.1 rfl)
    go_wp2_with fail
    refine(HAM.out _ K4.out G3.out).mono ?_;rintro e w5 ⟨r4,rfl,e4,k5⟩
    have K5:=tK (K4.out.trans k5)
    have E4:=tK e4
    have oA5:=k5.own Sh.out b?
    have⟨x0,x1,x2,x3,x4⟩:=oA5.k5
    clear e4 oA5
    cases r4 with
    |false=>
     go_wp2_with fail
     go_ret
     exact jj (fun q=>by have:=E4.out.2 (by rw[<-S3.out];exact q.nm);cases this) K5.out
    |true=>
     have G4:=tK (E4.out.1 rfl)
     go_wp2_with fail
     refine(HN.out _ K5.out).mono ?_;rintro e w6 ⟨r5,rfl,e5,k6⟩
     have K6:=tK (K5.out.trans k6)
     have E5:=tK e5
     clear e5
     cases r5 with
     |false=>
      go_wp2_with fail
      go_ret
      exact jj (fun q=>by have:=E5.out.2 q.names;cases this) K6.out
     |true=>
      have G5:=tK (E5.out.1 rfl)
      go_wp2_with fail
      go_ret
      exact yU ⟨G1.out,by rw[S6.out];exact G2.out,G3.out,by rw[S3.out];exact G4.out,G5.out⟩ K6.out
theorem ae.jV (h:ae w b cs t) (hb:b≠g) (x y z u):ae ((((w.setCell g x).setCell (aa g 1) y).setCell (aa g 2) z).setCell (aa g 3) u) b cs t:=
 (((h.other (p:=g) hb x).other (p:=(aa g 1)) hb y).other (p:=(aa g 2)) hb z).other (p:=(aa g 3)) hb u
theorem NP.fU {S w0} (h:NP S w0 w) (hg:g∈S\/w0.heap.size<=g) (x y z u):NP S w0 ((((w.setCell g x).setCell (aa g 1) y).setCell (aa g 2) z).setCell (aa g 3) u):=
 (((h.setCell (p:=g) hg x).setCell (p:=(aa g 1)) hg y).setCell (p:=(aa g 2)) hg z).setCell (p:=(aa g 3)) hg u
def cP (S:Nat->Prop) (L:List NS×Int) (w:World) (e:Ending) (w':World):Prop:=∃v,e=.returned (.tuple #[v,L.2])/\aq S w' v L.1/\NP [] w w'
theorem fj {L C} (h:L=(l,C)) (h1:aq S w' v l) (k:NP [] w w'):cP S L w (.returned (.tuple #[v,C])) w':=by
 subst h;exact⟨v,rfl,h1,k⟩
theorem aU.JL {x xv i} (hi:i<vs.length) (h:w'.ownsRow base 113 4 v vs.length ((NX vs).take (i*4)++Pt x xv++(NX vs).drop ((i+1)*4))) (hS:∀x,S x->x<base) (h3:∀y∈vs,bd w y/\bD S y.2 y.1.runs.length) (hx:bd w' (x,xv)/\bD S xv x.runs.length) (k:NP [] w w'):aq S w' v (gL (vs.map (·.1)) i x):=by
 have em:(vs.take i++[(x,xv)]++vs.drop (i+1)).map (·.1)=gL (vs.map (·.1)) i x:=by
  unfold gL
  rw[M0,M0,List.map_take,List.map_drop]
  simp
 rw[<-em]
 refine aq.bB (base:=base) ?_ hS (fun y hy=>?_)
 .have e1:(vs.take i++[(x,xv)]++vs.drop (i+1)).length=vs.length:=by
   rw[tN,tN,MO,MQ,Nq];omega
  rw[e1,fx,fx,<-gJ,<-fL]
  exact h
 .rcases Na.1 hy with hy|hy
  .rcases Na.1 hy with hy|hy
   .have:=h3 y (NJ hy);exact⟨this.1.kept0 k,this.2⟩
   .have:y=(x,xv):=N!
    subst this;exact hx
  .have:=h3 y (NF hy);exact⟨this.1.kept0 k,this.2⟩
theorem Hi {cap i:Nat} {cur:List Value} (o:ae w g cur.toArray 113) (hb:base<=g) (hn:n<=cap) (hc:cap<=maxLen) (hl:cur.length=cap*4) (hi:i<n) (a b c d:Value):
  (w.setCells g (i*4) [a,b,c,d]).ownsRow base 113 4 (g,n,cap) n ((cur.take (n*4)).take (i*4)++[a,b,c,d]++(cur.take (n*4)).drop ((i+1)*4)):=by
 have Oq:i*4+[a,b,c,d].length<=cur.length:=by rw[hl];show _+4<=_;omega
 have h1:=kK (base:=base) (n:=n) (cap:=cap) (o.oV [a,b,c,d] (i*4) Oq) hb hn hc (by rw[gV Oq,hl])
 have e:(cJ cur (i*4) [a,b,c,d]).take (n*4)=(cur.take (n*4)).take (i*4)++[a,b,c,d]++(cur.take (n*4)).drop ((i+1)*4):=by
  have WU:(cur.take (i*4)).length=i*4:=w?
  have hn4:n*4=i*4+4+(n*4-(i*4+4)):=a?
  unfold cJ
  rw[List.take_take,Nat.min_eq_left a?,<-MW,List.take_append,Nh (by rw[tN,WU];show _+4<=_;omega),List.drop_take]
  congr 1
  rw[tN,WU,show(i+1)*4=i*4+[a,b,c,d].length from by show _=_+4;omega]
 rw[e]at h1
 exact h1
def mR (q turns:Bool) (l:List NS) (x:NS) (next:Int) (most:Nat):List NS×Int:=if q&&turns then(gL l (Og l x) x,0)else if q||decide (x.id<next)then([],252)else if decide (most<=l.length)then([],240)else(Qm l x,0)
theorem DO {x next most turns q} (hr:cG l) (hq:q=true↔di l x):Oc l x next most turns=mR q turns l x next most:=by
 unfold Oc mR
 cases q with
 |true=>
  have hh:=hq.1 rfl
  cases turns with
  |true=>rw[if_pos ⟨hh,rfl⟩,ly hr hh];rfl
  |false=>rw[if_neg b?,if_pos (Or.inl hh)];rfl
 |false=>
  have hh:¬di l x:=fun h=>by have:=hq.2 h;cases this
  rw[if_neg (by simp[hh])]
  by_cases h1:x.id<next
  .rw[if_pos (Or.inr h1)];simp[h1]
  .rw[if_neg (by simp[hh,h1])]
   simp[h1]
theorem M84 (h:A:=by
 go_wp2_with fail
 go_ret2
 exact fj HE.out (aq.nil _ _) K3.out):A:=h
theorem vU (v:Value) (l:List NS) (r:ag) (rv:Value) (next:Int) (most:Nat) (turns:Bool) (w:World) (h:aq S w v l) (hS:∀x,S x->x<w.heap.size) (hl:l.length<=100000) (hr:cG l) (Qh:af w rv r.runs 0 w) (hf:r.fits) (Pj:∀a∈r.runs,aQ a) (P3:r.runs.length<=1000000) (hmo:most<=1000000):
  am! 171 #[v,.agg (r.cells rv),(next,()),(most:Int),.bool turns] w (cP S (Oc l r.item next most turns) w):=by
 have HC:=tK fun W q=>tX rv r.runs _ _ W (Qh.kept0 q) P3
 have Vi:Hid (∀W u,W.ownsRow w 128 2 u r.runs.length (NW r.runs)->bd W (r.item,u)/\bD S u r.runs.length):=tK (fun W u ho=>⟨⟨(af.bB ho).upto,ag.jW hf,Pj⟩,bD.row ho hS _⟩)
 have HS:=tK fun W u q=>Ab v l r.item u W (h.plain.kept0 q) a? hr
 have HI:=tK fun W u (q:NP [] w W) hx=>L5 v l r.item u W (h.kept0 q) (fun x hx=>MR (hS x hx) q.size) hl hr hx
 have HT:Hid (∀q:Bool,(q=true↔di l r.item)->Oc l r.item next most turns=mR q turns l r.item next most):=tK (fun q hq=>DO hr hq)
 have HSX:=tK hS
 have Rf:Hid (di l r.item->Og l r.item<l.length):=tK (fun hh=>by rw[ly hr hh];exact hh)
 have⟨vs,hvs,hraw,Pf,_⟩:=h
 have U3:vs.length=l.length:=by rw[<-hvs,MP]
 have Td:=fun y hy=>(Pf y hy).1.fz
 have S9:Hid (∀W,NP [] w W->am! 127 #[v] W fun e w'=>∃v',e=.returned v'/\w'.ownsRow W.heap.size 113 4 v' l.length (NX vs)/\NP [] W w'):=tK (fun W q=>by rw[<-U3];exact sd v vs.length (NX vs) W (hraw.kept0 q) (fB Td) a?)
 obtain⟨pv,cv,rfl⟩:=hraw.shape
 rw[U3]at HS HI S9 ⊢
 obtain⟨TQ,crr,rfl⟩:=Qh.shape
 have aet:Hid (∀w' base v' u,(∀x,S x->x<base)->Og l r.item<l.length->w'.ownsRow base 113 4 v' l.length ((NX vs).take (Og l r.item*4)++Pt r.item u++(NX vs).drop ((Og l r.item+1)*4))->bd w' (r.item,u)/\bD S u r.runs.length->NP [] w w'->aq S w' v' (gL l (Og l r.item) r.item)):=tK (fun w' base v' u hSb hp ho hx k=>by
  rw[<-hvs]at hp ho ⊢
  rw[MP]at hp ho
  exact aU.JL hp ho hSb Pf hx k)
 have oR:=ae.new w (r.cells (TQ,r.runs.length,crr)) 102
 have k0:NP [] w (w.alloc (.cells (r.cells (TQ,r.runs.length,crr)) 102)):=(NP.refl _ _).alloc _
 unfold ag.cells at oR k0 ⊢
 unfold NS.cells at HS HI
 have er1:r.item.id=r.id:=rfl
 have er2:r.item.name=r.name:=rfl
 have er3:r.item.size=r.size:=rfl
 rw[er1,er2,er3]at HS HI
 have⟨x0,x1,x2,x3,x4⟩:=oR.k5
 have⟨OR,K0⟩:=f? oR k0
 have j1:(l.length:Int)<=1000000:=a?
 have j2:(most:Int)<=1000000:=a?
 clear oR k0 hraw Pf Td U3 hvs Qh hf Pj hr er1 er2 er3 hS
 unfold bh at HC
 unfold gA at HS
 unfold fp at HI
 go_enter func171,ntmps171
 go_upto_region 1 with fail
 go_cut [12]from 16 to 25 (fun v12 wx=>∃xb u,v12=.pointer (some ⟨xb,0,none⟩)/\ae wx xb #[(r.id,()),r.name,r.size,u] 113/\(bd wx (r.item,u)/\bD S u r.runs.length)/\ae wx w #[r.kind,(r.id,()),r.name,r.size,(TQ,r.runs.length,crr)] 102/\NP [] w wx/\w.heap.size<=xb)
 case first=>
  refine MK (S:=(fun W=>W.cell? w=r.kind/\W.cell? (aa w 1)=(r.id,())/\W.cell? (aa w 2)=r.name/\W.cell? (aa w 3)=r.size/\W.cell? (aa w 4)=(TQ,r.runs.length,crr))) c? ac! (fun hHeld=>?_)
  refine tS ?_
  refine wpAnyH_ready (rs:=[8,10]) c? b? ?_
  refine(AllReadyH.cons rfl (fun K hK=>?_) (AllReadyH.cons rfl (fun K hK=>?_) AllReadyH.nil))
  .go_simp
   ((with_reducible refine(HC.out _ K0.out.drew).mono ?_));rintro e w5 ⟨u5,rfl,r5,k5⟩
   have K5:=tK ((K0.out.drew).trans k5)
   have o5:=k5.own OR.out.drew b?
   have⟨O5,R5⟩:=f? o5 r5
   clear r5 o5
   obtain⟨pu,cu,rfl⟩:=ah R5.out
   go_wp2_with fail
   refine hK.out _ _ ?_ (fun hHeld=>nM ?_)
   .exact O5.out.k5
   clear hK K
   refine tS ?_
   refine rD 10 (fun K hK=>?_)
   go_simp
   refine hK.out _ _ ?_ (fun hHeld=>nM ?_)
   .go_keep
   clear hK K
   refine rD 11 (fun K hK=>?_)
   go_simp
   refine hK.out _ _ ?_ (fun hHeld=>nM ?_)
   .go_keep
   clear hK K
   refine Ng c? ?_ _
   go_wp2_with fail
   go_meet
   exact⟨_,_,rfl,ae.new _ _ _,⟨(Vi.out _ _ (aF R5.out K0.out.size)).1.kept0 ((NP.refl _ _).alloc _),(Vi.out _ _ (aF R5.out K0.out.size)).2⟩,O5.out.alloc _,K5.out.alloc _,K5.out.size⟩
  .go_simp
   refine hK.out _ _ ?_ (fun hHeld=>nM ?_)
   .go_keep
   clear hK K
   have KB:=tK ((K0.out.alloc (.cells #[.int .u32 0,.string {data:=#[]},(0:Int),()] 113)).drew)
   have OXB:=tK ((ae.new (w.alloc (.cells #[r.kind,(r.id,()),r.name,r.size,(TQ,r.runs.length,crr)] 102)).drew #[.int .u32 0,.string {data:=#[]},(0:Int),()] 113))
   have OB:=tK ((OR.out.alloc (.cells #[.int .u32 0,.string {data:=#[]},(0:Int),()] 113)).drew)
   refine rD 8 (fun K hK=>?_)
   go_simp
   ((with_reducible refine(HC.out _ KB.out).mono ?_));rintro e w5 ⟨u5,rfl,r5,k5⟩
   have K5:=tK ((KB.out).trans k5)
   have o5:=k5.own OB.out b?
   have⟨O5,R5⟩:=f? o5 r5
   clear r5 o5
   obtain⟨pu,cu,rfl⟩:=ah R5.out
   go_wp2_with fail
   refine hK.out _ _ ?_ (fun hHeld=>nM ?_)
   .exact O5.out.k5
   clear hK K
   have UP:=k5.own OXB.out b?
   simp only[Nd,World.size_drew]at UP
   have Zc:=tK UP
   have⟨z0,z1,z2,z3⟩:=UP.c4
   have⟨y0,y1,y2,y3⟩:=UP.z4
   refine tS ?_
   refine rD 11 (fun K hK=>?_)
   go_simp
   refine hK.out _ _ ?_ (fun hHeld=>nM ?_)
   .exact(O5.out.jV (Nat.ne_of_lt (Nat.lt_succ_self _)) _ _ _ _).k5
   clear hK K
   refine Ng c? ?_ _
   go_wp2_with fail
   go_meet
   exact⟨_,_,rfl,Zc.out.fU _ _ _ _,Vi.out _ _ (bI (aF R5.out KB.out.size) ((NP.refl [w.heap.size+1] w5).fU (Or.inl b?) _ _ _ _) Zc.out d?),O5.out.jV (Nat.ne_of_lt (Nat.lt_succ_self _)) _ _ _ _,K5.out.fU (Or.inr (Nat.le_succ _)) _ _ _ _,Nat.le_succ _⟩
 case rest=>
  obtain⟨xb,u,rfl,hX,hIO,hR,hK,hxb⟩:=hcut
  have⟨HX,ZW,HR,HK⟩:=gh! hX hIO hR hK
  obtain⟨pu,nu,cu,rfl⟩:fP u:=hIO.1.fz
  have⟨x0,x1,x2,x3⟩:=hX.c4
  clear hX hIO hR hK
  go_wp2_with fail
  refine(HS.out _ _ HK.out).mono ?_;rintro e w3 ⟨q,rfl,hq,k3⟩
  have YW:=tK (HT.out q hq)
  have HP2:Hid (q=true->Og l r.item<l.length):=tK (fun hh=>Rf.out (hq.1 hh))
  have K3:=tK (HK.out.trans k3)
  have X3:=tK (k3.own HX.out b?)
  have R3:=tK (k3.own HR.out b?)
  have I3:=tK (And.intro (ZW.out.1.kept0 k3) ZW.out.2)
  have⟨x0,x1,x2,x3⟩:=X3.out.c4
  have⟨y0,y1,y2,y3,y4⟩:=R3.out.k5
  clear hq HT Rf
  cases q with
  |true=>
   have hp:=HP2.out rfl
   cases turns with
   |true=>
    have HE:Hid (Oc l r.item next most true=(gL l (Og l r.item) r.item,0)):=tK (by rw[YW.out];rfl)
    go_wp2_with fail
    refine(S9.out _ K3.out).mono ?_;rintro e w4 ⟨v4,rfl,r4,k4⟩
    have K4:=tK (K3.out.trans k4)
    have X4:=tK (k4.own X3.out b?)
    have I4:=tK (I3.out.1.kept0 k4)
    have⟨x0,x1,x2,x3⟩:=X4.out.c4
    rcases r4.2 with⟨_,h0⟩|⟨g,cap,cur0,rfl,hb,hg,SR,PT,Sk,htake⟩
    .omega
    .obtain⟨cur,rfl⟩:∃cur:List Value,cur0=cur.toArray:=⟨cur0.toList,b?⟩
     have o4:ae w4 g cur.toArray 113:=hg
     have Qg:cur.length=cap*4:=by simpa using Sk
     have PF:cur.take (l.length*4)=NX vs:=af!
     have Q0:=Hi o4 hb SR PT Qg hp (r.id,()) r.name r.size (pu,nu,cu)
     rw[PF]at Q0
     have hgx:xb≠g:=fun e=>by
      have h1:=X3.out.lt
      omega
     have QY:NP [] w (w4.setCells g (Og l r.item*4) [.int .u32 r.id,.string (bs r.name),.int .i64 r.size,.slice pu nu cu]):=fA (Or.inr (by have:=K3.out.size;omega)) _ _ K4.out
     have hio:bd (w4.setCells g (Og l r.item*4) [.int .u32 r.id,.string (bs r.name),.int .i64 r.size,.slice pu nu cu]) (r.item,(pu,nu,cu)):=by
      have Qo:NP [g] w4 (w4.setCells g (Og l r.item*4) [.int .u32 r.id,.string (bs r.name),.int .i64 r.size,.slice pu nu cu]):=fA (Or.inl b?) _ _ (NP.refl _ _)
      have h1:af w4 (pu,nu,cu) r.item.runs 0 w3:=af.kept0 I3.out.1.1 k4
      exact⟨(h1.kept Qo (fun x hx=>by
        have:x=g:=h?
        subst this;exact Or.inr hb)).upto,I3.out.1.2⟩
     have Rz:=aet.out _ w3 _ (pu,nu,cu) (fun x hx=>MR (HSX.out x hx) K3.out.size) hp Q0 ⟨hio,I3.out.2⟩ QY
     have⟨ad8,SI⟩:=f? Rz QY
     have UL:∀j,j<4->Og l r.item*4+j<cur.length:=fun j hj=>by omega
     obtain⟨q0,z0⟩:∃q,w4.cell? (aa g (Og l r.item*4))=some q:=⟨_,o4.fQ (Og l r.item*4) (by have:=UL 0 a?;omega)⟩
     obtain⟨q1,z1⟩:∃q,w4.cell? (aa g (Og l r.item*4+1))=some q:=⟨_,o4.fQ (Og l r.item*4+1) (UL 1 a?)⟩
     obtain⟨q2,z2⟩:∃q,w4.cell? (aa g (Og l r.item*4+2))=some q:=⟨_,o4.fQ (Og l r.item*4+2) (UL 2 a?)⟩
     obtain⟨q3,z3⟩:∃q,w4.cell? (aa g (Og l r.item*4+3))=some q:=⟨_,o4.fQ (Og l r.item*4+3) (UL 3 a?)⟩
     have f0:=o4.free (Og l r.item*4)
     have f1:=o4.free (Og l r.item*4+1)
     have f2:=o4.free (Og l r.item*4+2)
     have f3:=o4.free (Og l r.item*4+3)
     have i1:(Og l r.item:Int)<l.length:=a?
     have i2:(l.length:Int)<=cap:=a?
     clear Rz QY hio Q0 UL o4 hg r4 PF htake Sk Qg
     go_wp2_with fail
     go_ret2
     exact fj HE.out ad8.out SI.out
   |false=>
    have HE:Hid (Oc l r.item next most false=([],252)):=tK (by rw[YW.out];rfl)
    exact M84
  |false=>
   by_cases g1:r.id<next
   .have HE:Hid (Oc l r.item next most turns=([],252)):=tK (by rw[YW.out];unfold mR;rw[show(decide (r.item.id<next))=true from MV g1];rfl)
    exact M84
   .by_cases g2:most<=l.length
    .have HE:Hid (Oc l r.item next most turns=([],240)):=tK (by rw[YW.out];unfold mR;rw[show(decide (r.item.id<next))=false from MS g1,MV g2];rfl)
     have i1:(most:Int)<=l.length:=a?
     exact M84
    .have HE:Hid (Oc l r.item next most turns=(Qm l r.item,0)):=tK (by rw[YW.out];unfold mR;rw[show(decide (r.item.id<next))=false from MS g1,MS g2];rfl)
     have i1:¬(most:Int)<=l.length:=a?
     go_wp2_with fail
     refine(HI.out _ _ K3.out I3.out).mono ?_;rintro e w4 ⟨v4,rfl,h4,k4⟩
     have H4:=tK h4
     have K4:=tK (K3.out.trans k4)
     clear h4
     go_wp2_with fail
     go_ret2
     exact fj HE.out H4.out K4.out
end
section
open Go.Proofs.Tryz Go.RowKit
variable {x n g b sb lo hi k:Nat} {y:NS} {S:Nat->Prop} {w w':World} {v x0 x1 x2 x3 x4:Value} {c:au} {T:List Nat} {l:List (Int×Int)} {t:TypeId} {d:DK} {xs:List Value}
theorem NG:type_of% @Classical.byContradiction:=@Classical.byContradiction
theorem AK {x} (h:cO x y=true) (l):Og l x=Og l y:=by
 unfold Og
 congr 2
 funext a
 exact jN h
theorem Bi {x} (h:cO x y=true) (l):PJ l x=PJ l y:=by
 unfold PJ
 congr 2
 funext a
 rw[yP h]
theorem Bl {x} (h:cO x y=true) (l):di l x↔di l y:=by
 unfold di;rw[Bi h]
theorem aU.DF {base vs i} (hi:i<vs.length) (h:w'.ownsRow base 113 4 v (vs.length-1) ((NX vs).take (i*4)++(NX vs).drop ((i+1)*4))) (hS:∀x,S x->x<base) (h3:∀y∈vs,bd w y/\bD S y.2 y.1.runs.length) (k:NP [] w w'):aq S w' v (dI (vs.map (·.1)) i):=by
 have em:(vs.take i++vs.drop (i+1)).map (·.1)=dI (vs.map (·.1)) i:=by
  unfold dI
  rw[M0,List.map_take,List.map_drop]
 rw[<-em]
 refine aq.bB (base:=base) ?_ hS (fun y hy=>?_)
 .have e1:(vs.take i++vs.drop (i+1)).length=vs.length-1:=by
   rw[tN,MO,MQ];omega
  rw[e1,fx,<-gJ,<-fL]
  exact h
 .rcases Na.1 hy with hy|hy
  .have:=h3 y (NJ hy);exact⟨this.1.kept0 k,this.2⟩
  .have:=h3 y (NF hy);exact⟨this.1.kept0 k,this.2⟩
theorem Ae (v:Value) (l:List NS) (r:ag) (rv:Value) (w:World) (h:aq S w v l) (hS:∀x,S x->x<w.heap.size) (hl:l.length<=100000) (hr:cG l) (hs:fP rv):
  am! 172 #[v,.agg (r.cells rv)] w (cP S (OU l r.item) w):=by
 have hek:cO (⟨r.id,r.name,0,[]⟩:NS) r.item=true:=by unfold cO ag.item;simp
 have HS:Hid (∀W,NP [] w W->am! 234 #[v,.agg #[(r.id,()),r.name,(0:Int),()],.func (.func 233) #[] #[]] W fun e w'=>∃q,e=.returned (.tuple #[(Og l r.item:Int),.bool q])/\(q=true↔di l r.item)/\NP [] W w'):=tK (fun W q=>by
  have hh:=Ab v l ⟨r.id,r.name,0,[]⟩ () W (h.plain.kept0 q) a? hr
  unfold gA at hh
  rw[AK hek,Bl hek]at hh
  exact hh)
 have HSX:=tK hS
 have HG0:Hid (¬di l r.item->OU l r.item=([],6)):=tK (fun hh=>by unfold OU;rw[if_neg hh])
 have HG1:Hid (di l r.item->OU l r.item=(dI l (Og l r.item),0)/\Og l r.item<l.length):=tK (fun hh=>by
  unfold OU;rw[if_pos hh,ly hr hh];exact⟨rfl,hh⟩)
 have⟨vs,hvs,hraw,Pf,_⟩:=h
 have U3:vs.length=l.length:=by rw[<-hvs,MP]
 have Td:=fun y hy=>(Pf y hy).1.fz
 have S9:Hid (∀W,NP [] w W->am! 127 #[v] W fun e w'=>∃v',e=.returned v'/\w'.ownsRow W.heap.size 113 4 v' l.length (NX vs)/\NP [] W w'):=tK (fun W q=>by rw[<-U3];exact sd v vs.length (NX vs) W (hraw.kept0 q) (fB Td) a?)
 have HD:=tK fun W v' base (ho:W.ownsRow base 113 4 v' l.length (NX vs)) (hp:Og l r.item<l.length)=>GU base v' l.length (NX vs) _ _ W ho (fB Td) hp rfl
 have Ys:Hid (∀w' base v',(∀x,S x->x<base)->Og l r.item<l.length->w'.ownsRow base 113 4 v' (l.length-1) ((NX vs).take (Og l r.item*4)++(NX vs).drop ((Og l r.item+1)*4))->NP [] w w'->aq S w' v' (dI l (Og l r.item))):=tK (fun w' base v' hSb hp ho k=>by
  rw[<-hvs]at hp ho ⊢
  rw[MP]at hp ho
  exact aU.DF hp ho hSb Pf k)
 obtain⟨pv,cv,rfl⟩:=hraw.shape
 rw[U3]at HS S9 ⊢
 obtain⟨TQ,nrr,crr,rfl⟩:=hs
 have oR:=ae.new w (r.cells (TQ,nrr,crr)) 102
 have k0:NP [] w (w.alloc (.cells (r.cells (TQ,nrr,crr)) 102)):=(NP.refl _ _).alloc _
 unfold ag.cells at oR k0 ⊢
 have⟨x0,x1,x2,x3,x4⟩:=oR.k5
 have K0:=tK k0
 have j1:(l.length:Int)<=1000000:=a?
 clear oR k0 hraw Pf Td U3 hvs hr hek hS
 unfold iA at HD
 go_enter func172,ntmps172
 go_wp2_with fail
 refine(HS.out _ K0.out).mono ?_;rintro e w3 ⟨q,rfl,hq,k3⟩
 have K3:=tK (K0.out.trans k3)
 have HQ:=tK hq
 clear hq
 cases q with
 |false=>
  have HE:=tK (HG0.out (fun hh=>by have:=HQ.out.2 hh;cases this))
  exact M84
 |true=>
  have⟨he,hp⟩:=HG1.out (HQ.out.1 rfl)
  have⟨HE,HP⟩:=f? he hp
  have ae7:((Og l r.item:Nat):Int)+1=((Og l r.item+1:Nat):Int):=a?
  have SU:IntKind.i64.wrap ((Og l r.item+1:Nat):Int)=((Og l r.item+1:Nat):Int):=M?
  clear he hp
  generalize Og l r.item+1=P1 at*
  go_wp2_with fail
  refine(S9.out _ K3.out).mono ?_;rintro e w4 ⟨v4,rfl,r4,k4⟩
  have K4:=tK (K3.out.trans k4)
  have R4:=tK r4
  obtain⟨p4,c4,rfl⟩:=ah r4
  clear r4
  go_wp2_with fail
  refine(HD.out _ _ _ R4.out HP.out).mono ?_;rintro e w5 ⟨v5,rfl,r5,QI⟩
  have Q7:=nK K4.out (fun g hg=>by have h1:=(ML R4.out g hg).1;have h2:=K3.out.size;omega) QI
  have h5:=Ys.out _ w3 _ (fun x hx=>MR (HSX.out x hx) K3.out.size) HP.out r5 Q7
  have⟨H5,K6⟩:=f? h5 Q7
  clear h5 Q7 r5 QI
  go_wp2_with fail
  go_ret2
  exact fj HE.out H5.out K6.out
def av (S:Nat->Prop) (w:World) (v:Value) (c:au):Prop:=∃vb vm vn,v=.agg #[(c.nextBox,()),(c.nextMan,()),vb,vm,vn]/\aq S w vb c.boxes/\aq S w vm c.mans/\aq S w vn c.names/\(Lit.int .u32 c.nextBox).wf=true/\(Lit.int .u32 c.nextMan).wf=true
theorem av.plain (h:av S w v c):dJ w v c:=by
 have⟨a,b,d,e,h1,h2,h3,h4⟩:=h
 exact⟨a,b,d,e,h1.plain,h2.plain,h3.plain,h4⟩
theorem av.kept0 (h:av S w v c) (k:NP [] w w'):av S w' v c:=by
 have⟨a,b,d,e,h1,h2,h3,h4⟩:=h
 exact⟨a,b,d,e,h1.kept0 k,h2.kept0 k,h3.kept0 k,h4⟩
theorem av.aS (h:av S w v c) (k:NP T w w') (hT:∀x∈T,S x):av S w' v c:=by
 have⟨a,b,d,e,h1,h2,h3,h4⟩:=h
 exact⟨a,b,d,e,h1.aS k hT,h2.aS k hT,h3.aS k hT,h4⟩
theorem bD.weaken {T} (h:bD S v n) (hST:∀x,T x->S x):bD T v n:=fun g off sp n' c e hn hg=>h g off sp n' c e hn (hST _ hg)
theorem aq.weaken {T l} (h:aq S w v l) (hST:∀x,T x->S x):aq T w v l:=by
 have⟨vs,h1,h2,h3,h4⟩:=h
 exact⟨vs,h1,h2,fun x hx=>⟨(h3 x hx).1,(h3 x hx).2.weaken hST⟩,h4.weaken hST⟩
theorem bD.or {T} (h:bD S v n) (h2:bD T v n):bD (fun x=>S x\/T x) v n:=fun g off sp n' c e hn hg=>hg.elim (h g off sp n' c e hn) (h2 g off sp n' c e hn)
theorem aq.more {T:Nat->Prop} {l:List NS} (h:aq S w v l) (hT:∀x,T x->w.heap.size<=x):aq (fun x=>S x\/T x) w v l:=by
 have⟨vs,h1,h2,h3,h4⟩:=h
 refine⟨vs,h1,h2,fun x hx=>⟨(h3 x hx).1,(h3 x hx).2.or ((h3 x hx).1.1.off hT)⟩,h4.or (fun g off sp n c e hn hg=>?_)⟩
 have⟨p,c',e'⟩:=h2.shape
 rw[e']at h2
 have⟨b,off',e2,_,hb,_⟩:=h2.at_ hn
 rw[e']at e
 injection e with e
 rw[e2]at e
 injection e with e
 injection e with e
 subst e
 have:=hT _ hg
 omega
def dC (S:Nat->Prop) (L:au×Int) (w:World) (e:Ending) (w':World):Prop:=∃v,e=.returned (.tuple #[v,L.2])/\av S w' v L.1/\NP [] w w'
theorem NP.ay {S w0} (h:NP S w0 w) (hg:g∈S\/w0.heap.size<=g) (a b c d e):NP S w0 (((((w.setCell g a).setCell (aa g 1) b).setCell (aa g 2) c).setCell (aa g 3) d).setCell (aa g 4) e):=
 ((((h.setCell (p:=g) hg a).setCell (p:=(aa g 1)) hg b).setCell (p:=(aa g 2)) hg c).setCell (p:=(aa g 3)) hg d).setCell (p:=(aa g 4)) hg e
theorem ae.y5 (h:ae w b #[x0,x1,x2,x3,x4] t):w.frozen? b=false/\w.frozen? (aa b 1)=false/\w.frozen? (aa b 2)=false/\w.frozen? (aa b 3)=false/\w.frozen? (aa b 4)=false:=⟨h.free 0,h.free 1,h.free 2,h.free 3,h.free 4⟩
theorem ae.aV (h:ae w b #[x0,x1,x2,x3,x4] t) (y0 y1 y2 y3 y4):
  ae (((((w.setCell b y0).setCell (aa b 1) y1).setCell (aa b 2) y2).setCell (aa b 3) y3).setCell (aa b 4) y4) b #[y0,y1,y2,y3,y4] t:=by
 have:=((((h.set 0 y0).set 1 y1).set 2 y2).set 3 y3).set 4 y4
 simpa using this
theorem nA (w:World) (A B C:Array Value) (s t u:TypeId):ae (((w.alloc (.cells A s)).alloc (.cells B t)).alloc (.cells C u)) w A s/\ae (((w.alloc (.cells A s)).alloc (.cells B t)).alloc (.cells C u)) (w.heap.size+1) B t/\ae (((w.alloc (.cells A s)).alloc (.cells B t)).alloc (.cells C u)) (w.heap.size+2) C u:=l9 w A B C s t u
theorem tF {n} (h0:0<=n) (h1:n<=4294967295):(Lit.int .u32 n).wf=true:=by
 simp only[Lit.wf,No,decide_eq_true_eq]
 exact⟨h0,h1⟩
theorem lW {n} (h0:0<=n) (h1:n<=4294967295):IntKind.u32.wrap n=n:=by rw[IntKind.wrap_u32];omega
theorem M92 {A:Prop}(h:A:=by
 rw[if_neg K?]
 rw[if_neg K?]
 rw[if_pos hk]):A:=h
theorem M10 {A:Prop}(h:A:=by
 rw[hLL]at HC ⊢
 have⟨LI,LC⟩:=LL
 simp only at HC ⊢
 rw[hk]at HC OA OB OC K0 y0 ⊢
 clear hLL Pp hk
 go_enter func99,ntmps99
 go_wp2_with fail
 refine(HC.out _ K0.out b?).mono ?_;rintro e w4 ⟨v4,rfl,h4,k4⟩
 have H4:=tK h4
 have K4:=tK (K0.out.trans k4)
 obtain⟨p4,c4,rfl⟩:=h4.plain.shape
 have SY:=k4.own OA.out b?
 have W5:=k4.own OB.out b?
 have TH:=k4.own OC.out b?
 have⟨x0,x1,x2,x3,x4⟩:=SY.k5
 have⟨y0,y1,y2,y3,y4⟩:=W5.k5
 have⟨z0,z1,z2,z3,z4⟩:=TH.k5
 have⟨f0,f1,f2,f3,f4⟩:=SY.y5
 have⟨g0,g1,g2,g3,g4⟩:=TH.y5
 have⟨Sh,Q5⟩:=f? SY TH
 clear h4 SY W5 TH
 go_wp2_with fail
 have Pb:w.heap.size+2≠w.heap.size:=a?
 have oF:=ae.aV ((Q5.out).other (p:=(aa w 4)) Pb (p4,LI.length,c4)) (c.nextBox,()) (c.nextMan,()) (p1,c.boxes.length,c1) (p2,c.mans.length,c2) (p4,LI.length,c4)
 have kF:NP [] w ((((((w4.setCell (aa w 4) (p4,LI.length,c4)).setCell (aa (w+2) 0) (c.nextBox,())).setCell (aa (w+2) 1) (c.nextMan,())).setCell (aa (w+2) 2) (p1,c.boxes.length,c1)).setCell (aa (w+2) 3) (p2,c.mans.length,c2)).setCell (aa (w+2) 4) (p4,LI.length,c4)):=NP.ay ((K4.out).setCell (p:=(aa w 4)) (Or.inr (MG _)) (p4,LI.length,c4)) (Or.inr a?) _ _ _ _ _
 have kT:NP [w.heap.size,w.heap.size+2] w4 ((((((w4.setCell (aa w 4) (p4,LI.length,c4)).setCell (aa (w+2) 0) (c.nextBox,())).setCell (aa (w+2) 1) (c.nextMan,())).setCell (aa (w+2) 2) (p1,c.boxes.length,c1)).setCell (aa (w+2) 3) (p2,c.mans.length,c2)).setCell (aa (w+2) 4) (p4,LI.length,c4)):=NP.ay ((NP.refl _ _).setCell (p:=(aa w 4)) (Or.inl b?) (p4,LI.length,c4)) (Or.inl b?) _ _ _ _ _
 have h5:=(H4.out.aS kT (fun x hx=>by simp at hx;rcases hx with rfl|rfl;exact Or.inr (Or.inl rfl);exact Or.inr (Or.inr rfl))).weaken (T:=S0) (fun x hx=>Or.inl hx)
 refine MN (v:=.tuple #[.agg #[(c.nextBox,()),(c.nextMan,()),(p1,c.boxes.length,c1),(p2,c.mans.length,c2),(p4,LI.length,c4)],LC]) (aj results99 rfl rfl (t:=52) ?_ underlying52 rfl c?) rfl ?_
 .exact oF
 .exact⟨_,rfl,⟨_,_,_,rfl,(HB.out _ kF),(HM.out _ kF),h5,V3.out,XC.out⟩,kF⟩):A:=h
theorem IX {S0} (v c r rv w) (h:av S0 w v c) (Q6:∀x,S0 x->x<w.heap.size) (Pz:OL c) (Qh:af w rv r.runs 0 w) (hf:r.fits) (Pj:∀a∈r.runs,aQ a) (VA:az r=true):
  am! 99 #[v,.agg (r.cells rv)] w (dC S0 (aW c r) w):=by
 have P3:r.runs.length<=1000000:=by have:=nH VA;omega
 have hid:=xw VA
 have Xz:0<=r.id:=(eG hf.2.1).1
 obtain⟨vb,vm,vn,rfl,hb,hm,hn,Rp,Te⟩:=h
 have HB:=tK (fun W (q:NP [] w W)=>hb.kept0 q)
 have HM:=tK (fun W (q:NP [] w W)=>hm.kept0 q)
 have HN:=tK (fun W (q:NP [] w W)=>hn.kept0 q)
 obtain⟨p1,c1,rfl⟩:=hb.plain.shape
 obtain⟨p2,c2,rfl⟩:=hm.plain.shape
 obtain⟨p3,c3,rfl⟩:=hn.plain.shape
 obtain⟨pr,cr,rfl⟩:=Qh.shape
 unfold ag.cells
 have abe:=(eG Rp)
 have aaT:=(eG Te)
 have ZE:Hid ((Lit.int .u32 (r.id+1)).wf=true):=tK (tF a? a?)
 have HW2:Hid ((Lit.int .u32 (max c.nextMan (r.id+1))).wf=true):=tK (tF a? a?)
 have⟨V3,XC⟩:=f? Rp Te
 have⟨oA,oB,oC⟩:=nA w #[(c.nextBox,()),(c.nextMan,()),(p1,c.boxes.length,c1),(p2,c.mans.length,c2),(p3,c.names.length,c3)] #[r.kind,(r.id,()),r.name,r.size,(pr,r.runs.length,cr)] #[.int .u32 0,.int .u32 0,(),(),()] 52 102 52
 have k0:NP [] w (((w.alloc (.cells #[(c.nextBox,()),(c.nextMan,()),(p1,c.boxes.length,c1),(p2,c.mans.length,c2),(p3,c.names.length,c3)] 52)).alloc (.cells #[r.kind,(r.id,()),r.name,r.size,(pr,r.runs.length,cr)] 102)).alloc (.cells #[.int .u32 0,.int .u32 0,(),(),()] 52)):=(((NP.refl _ _).alloc _).alloc _).alloc _
 have SU:IntKind.u32.wrap (r.id+1)=r.id+1:=lW a? a?
 have⟨x0,x1,x2,x3,x4⟩:=oA.k5
 have⟨y0,y1,y2,y3,y4⟩:=oB.k5
 obtain⟨mx,ZA⟩:∃m,max c.nextMan (r.id+1)=m:=⟨_,rfl⟩
 have⟨TE,OA,OB,OC,K0⟩:=gi! ZA oA oB oC k0
 have P8:=tK (And.intro hb (And.intro hm (And.intro hn (And.intro Qh (And.intro hf (And.intro Pj (And.intro P3 (And.intro Pz Q6))))))))
 have VX:=tK VA
 clear oA oB oC k0 hb hm hn Qh hf Pj VA Pz Rp Te abe aaT Q6 P3
 rcases nI VX.out with hk|hk|hk|hk|hk|hk
 .skip
  have Pp:aW c r=({c with boxes:=(Oc c.boxes r.item c.nextBox 2048 false).1,nextBox:=r.id+1},(Oc c.boxes r.item c.nextBox 2048 false).2):=by
   unfold aW
   rw[if_pos hk]
  rw[Pp]
  have HC:Hid (∀W,NP [] w W->w.heap.size+3<=W.heap.size->am! 171 #[(p1,c.boxes.length,c1),.agg #[r.kind,(r.id,()),r.name,r.size,(pr,r.runs.length,cr)],(c.nextBox,()),(2048:Int),false] W (cP (fun x=>S0 x\/(x=w.heap.size\/x=w.heap.size+2)) (Oc c.boxes r.item c.nextBox 2048 false) W)):=tK (fun W q PW=>by
   have⟨hb,hm,hn,Qh,hf,Pj,P3,Pz,Q6⟩:=P8.out
   have T6:∀x,(S0 x\/(x=w.heap.size\/x=w.heap.size+2))->x<W.heap.size:=fun x hx=>by
    rcases hx with hx|hx
    .have:=Q6 x hx;omega
    .omega
   have hh:=vU _ _ r _ c.nextBox 2048 false W ((hb.more (fun x hx=>by omega)).kept0 q) T6 v! Pz.boxes.2.2 (Qh.kept0 q).upto hf Pj P3 d?
   unfold ag.cells at hh
   exact hh)
  unfold cP at HC
  obtain⟨LL,hLL⟩:∃L,Oc c.boxes r.item c.nextBox 2048 false=L:=⟨_,rfl⟩
  rw[hLL]at HC ⊢
  have⟨LI,LC⟩:=LL
  simp only at HC ⊢
  rw[hk]at HC OA OB OC K0 y0 ⊢
  clear hLL Pp hk
  go_enter func99,ntmps99
  go_wp2_with fail
  refine(HC.out _ K0.out b?).mono ?_;rintro e w4 ⟨v4,rfl,h4,k4⟩
  have H4:=tK h4
  have K4:=tK (K0.out.trans k4)
  obtain⟨p4,c4,rfl⟩:=h4.plain.shape
  have SY:=k4.own OA.out b?
  have W5:=k4.own OB.out b?
  have TH:=k4.own OC.out b?
  have⟨x0,x1,x2,x3,x4⟩:=SY.k5
  have⟨y0,y1,y2,y3,y4⟩:=W5.k5
  have⟨z0,z1,z2,z3,z4⟩:=TH.k5
  have⟨f0,f1,f2,f3,f4⟩:=SY.y5
  have⟨g0,g1,g2,g3,g4⟩:=TH.y5
  have⟨Sh,Q5⟩:=f? SY TH
  clear h4 SY W5 TH
  go_wp2_with fail
  have Pb:w.heap.size+2≠w.heap.size:=a?
  have oF:=ae.aV (((Q5.out).other (p:=(aa w 2)) Pb (p4,LI.length,c4)).other (p:=w) Pb (.int .u32 (r.id+1))) (.int .u32 (r.id+1)) (c.nextMan,()) (p4,LI.length,c4) (p2,c.mans.length,c2) (p3,c.names.length,c3)
  have kF:NP [] w (((((((w4.setCell (aa w 2) (p4,LI.length,c4)).setCell w (.int .u32 (r.id+1))).setCell (aa (w+2) 0) (.int .u32 (r.id+1))).setCell (aa (w+2) 1) (c.nextMan,())).setCell (aa (w+2) 2) (p4,LI.length,c4)).setCell (aa (w+2) 3) (p2,c.mans.length,c2)).setCell (aa (w+2) 4) (p3,c.names.length,c3)):=NP.ay (((K4.out).setCell (p:=(aa w 2)) (Or.inr (MG _)) (p4,LI.length,c4)).setCell (p:=w) (Or.inr (MG _)) (.int .u32 (r.id+1))) (Or.inr a?) _ _ _ _ _
  have kT:NP [w.heap.size,w.heap.size+2] w4 (((((((w4.setCell (aa w 2) (p4,LI.length,c4)).setCell w (.int .u32 (r.id+1))).setCell (aa (w+2) 0) (.int .u32 (r.id+1))).setCell (aa (w+2) 1) (c.nextMan,())).setCell (aa (w+2) 2) (p4,LI.length,c4)).setCell (aa (w+2) 3) (p2,c.mans.length,c2)).setCell (aa (w+2) 4) (p3,c.names.length,c3)):=NP.ay (((NP.refl _ _).setCell (p:=(aa w 2)) (Or.inl b?) (p4,LI.length,c4)).setCell (p:=w) (Or.inl b?) (.int .u32 (r.id+1))) (Or.inl b?) _ _ _ _ _
  have h5:=(H4.out.aS kT (fun x hx=>by simp at hx;rcases hx with rfl|rfl;exact Or.inr (Or.inl rfl);exact Or.inr (Or.inr rfl))).weaken (T:=S0) (fun x hx=>Or.inl hx)
  refine MN (v:=.tuple #[.agg #[(.int .u32 (r.id+1)),(c.nextMan,()),(p4,LI.length,c4),(p2,c.mans.length,c2),(p3,c.names.length,c3)],LC]) (aj results99 rfl rfl (t:=52) ?_ underlying52 rfl c?) rfl ?_
  .exact oF
  .exact⟨_,rfl,⟨_,_,_,rfl,h5,(HM.out _ kF),(HN.out _ kF),ZE.out,XC.out⟩,kF⟩
 .skip
  have Pp:aW c r=({c with mans:=(Oc c.mans r.item c.nextMan 2048 true).1,nextMan:=max c.nextMan (r.id+1)},(Oc c.mans r.item c.nextMan 2048 true).2):=by
   unfold aW
   rw[if_neg K?]
   rw[if_pos hk]
  rw[Pp]
  have HC:Hid (∀W,NP [] w W->w.heap.size+3<=W.heap.size->am! 171 #[(p2,c.mans.length,c2),.agg #[r.kind,(r.id,()),r.name,r.size,(pr,r.runs.length,cr)],(c.nextMan,()),(2048:Int),true] W (cP (fun x=>S0 x\/(x=w.heap.size\/x=w.heap.size+2)) (Oc c.mans r.item c.nextMan 2048 true) W)):=tK (fun W q PW=>by
   have⟨hb,hm,hn,Qh,hf,Pj,P3,Pz,Q6⟩:=P8.out
   have T6:∀x,(S0 x\/(x=w.heap.size\/x=w.heap.size+2))->x<W.heap.size:=fun x hx=>by
    rcases hx with hx|hx
    .have:=Q6 x hx;omega
    .omega
   have hh:=vU _ _ r _ c.nextMan 2048 true W ((hm.more (fun x hx=>by omega)).kept0 q) T6 B! Pz.mans.2.2 (Qh.kept0 q).upto hf Pj P3 d?
   unfold ag.cells at hh
   exact hh)
  unfold cP at HC
  obtain⟨LL,hLL⟩:∃L,Oc c.mans r.item c.nextMan 2048 true=L:=⟨_,rfl⟩
  rw[hLL]at HC ⊢
  have⟨LI,LC⟩:=LL
  simp only at HC ⊢
  rw[hk]at HC OA OB OC K0 y0 ⊢
  clear hLL Pp hk
  go_enter func99,ntmps99
  go_wp2_with fail
  refine(HC.out _ K0.out b?).mono ?_;rintro e w4 ⟨v4,rfl,h4,k4⟩
  have H4:=tK h4
  have K4:=tK (K0.out.trans k4)
  obtain⟨p4,c4,rfl⟩:=h4.plain.shape
  have SY:=k4.own OA.out b?
  have W5:=k4.own OB.out b?
  have TH:=k4.own OC.out b?
  have⟨x0,x1,x2,x3,x4⟩:=SY.k5
  have⟨y0,y1,y2,y3,y4⟩:=W5.k5
  have⟨z0,z1,z2,z3,z4⟩:=TH.k5
  have⟨f0,f1,f2,f3,f4⟩:=SY.y5
  have⟨g0,g1,g2,g3,g4⟩:=TH.y5
  have⟨Sh,Q5⟩:=f? SY TH
  clear h4 SY W5 TH
  go_wp2_with fail
  have Pb:w.heap.size+2≠w.heap.size:=a?
  have oF:=ae.aV (((Q5.out).other (p:=(aa w 3)) Pb (p4,LI.length,c4)).other (p:=(aa w 1)) Pb (mx,())) (c.nextBox,()) (mx,()) (p1,c.boxes.length,c1) (p4,LI.length,c4) (p3,c.names.length,c3)
  have kF:NP [] w (((((((w4.setCell (aa w 3) (p4,LI.length,c4)).setCell (aa w 1) (mx,())).setCell (aa (w+2) 0) (c.nextBox,())).setCell (aa (w+2) 1) (mx,())).setCell (aa (w+2) 2) (p1,c.boxes.length,c1)).setCell (aa (w+2) 3) (p4,LI.length,c4)).setCell (aa (w+2) 4) (p3,c.names.length,c3)):=NP.ay (((K4.out).setCell (p:=(aa w 3)) (Or.inr (MG _)) (p4,LI.length,c4)).setCell (p:=(aa w 1)) (Or.inr (MG _)) (mx,())) (Or.inr a?) _ _ _ _ _
  have kT:NP [w.heap.size,w.heap.size+2] w4 (((((((w4.setCell (aa w 3) (p4,LI.length,c4)).setCell (aa w 1) (mx,())).setCell (aa (w+2) 0) (c.nextBox,())).setCell (aa (w+2) 1) (mx,())).setCell (aa (w+2) 2) (p1,c.boxes.length,c1)).setCell (aa (w+2) 3) (p4,LI.length,c4)).setCell (aa (w+2) 4) (p3,c.names.length,c3)):=NP.ay (((NP.refl _ _).setCell (p:=(aa w 3)) (Or.inl b?) (p4,LI.length,c4)).setCell (p:=(aa w 1)) (Or.inl b?) (mx,())) (Or.inl b?) _ _ _ _ _
  have h5:=(H4.out.aS kT (fun x hx=>by simp at hx;rcases hx with rfl|rfl;exact Or.inr (Or.inl rfl);exact Or.inr (Or.inr rfl))).weaken (T:=S0) (fun x hx=>Or.inl hx)
  refine MN (v:=.tuple #[.agg #[(c.nextBox,()),(mx,()),(p1,c.boxes.length,c1),(p4,LI.length,c4),(p3,c.names.length,c3)],LC]) (aj results99 rfl rfl (t:=52) ?_ underlying52 rfl c?) rfl ?_
  .exact oF
  .exact⟨_,rfl,⟨_,_,_,(by rw[<-TE.out]),(HB.out _ kF),h5,(HN.out _ kF),V3.out,HW2.out⟩,kF⟩
 .skip
  have Pp:aW c r=({c with names:=(Oc c.names r.item 0 256 false).1},(Oc c.names r.item 0 256 false).2):=by
   unfold aW
   exact M92
  rw[Pp]
  have HC:Hid (∀W,NP [] w W->w.heap.size+3<=W.heap.size->am! 171 #[(p3,c.names.length,c3),.agg #[r.kind,(r.id,()),r.name,r.size,(pr,r.runs.length,cr)],.int .u32 0,(256:Int),false] W (cP (fun x=>S0 x\/(x=w.heap.size\/x=w.heap.size+2)) (Oc c.names r.item 0 256 false) W)):=tK (fun W q PW=>by
   have⟨hb,hm,hn,Qh,hf,Pj,P3,Pz,Q6⟩:=P8.out
   have T6:∀x,(S0 x\/(x=w.heap.size\/x=w.heap.size+2))->x<W.heap.size:=fun x hx=>by
    rcases hx with hx|hx
    .have:=Q6 x hx;omega
    .omega
   have hh:=vU _ _ r _ 0 256 false W ((hn.more (fun x hx=>by omega)).kept0 q) T6 w! Pz.names.2.2 (Qh.kept0 q).upto hf Pj P3 d?
   unfold ag.cells at hh
   exact hh)
  unfold cP at HC
  obtain⟨LL,hLL⟩:∃L,Oc c.names r.item 0 256 false=L:=⟨_,rfl⟩
  exact M10
 .skip
  have Pp:aW c r=({c with boxes:=(OU c.boxes r.item).1},(OU c.boxes r.item).2):=by
   unfold aW
   rw[if_neg K?]
   exact M92
  rw[Pp]
  have HC:Hid (∀W,NP [] w W->w.heap.size+3<=W.heap.size->am! 172 #[(p1,c.boxes.length,c1),.agg #[r.kind,(r.id,()),r.name,r.size,(pr,r.runs.length,cr)]] W (cP (fun x=>S0 x\/(x=w.heap.size\/x=w.heap.size+2)) (OU c.boxes r.item) W)):=tK (fun W q PW=>by
   have⟨hb,hm,hn,Qh,hf,Pj,P3,Pz,Q6⟩:=P8.out
   have T6:∀x,(S0 x\/(x=w.heap.size\/x=w.heap.size+2))->x<W.heap.size:=fun x hx=>by
    rcases hx with hx|hx
    .have:=Q6 x hx;omega
    .omega
   have hh:=Ae _ _ r (pr,r.runs.length,cr) W ((hb.more (fun x hx=>by omega)).kept0 q) T6 v! Pz.boxes.2.2 ⟨_,_,_,rfl⟩
   unfold ag.cells at hh
   exact hh)
  unfold cP at HC
  obtain⟨LL,hLL⟩:∃L,OU c.boxes r.item=L:=⟨_,rfl⟩
  rw[hLL]at HC ⊢
  have⟨LI,LC⟩:=LL
  simp only at HC ⊢
  rw[hk]at HC OA OB OC K0 y0 ⊢
  clear hLL Pp hk
  go_enter func99,ntmps99
  go_wp2_with fail
  refine(HC.out _ K0.out b?).mono ?_;rintro e w4 ⟨v4,rfl,h4,k4⟩
  have H4:=tK h4
  have K4:=tK (K0.out.trans k4)
  obtain⟨p4,c4,rfl⟩:=h4.plain.shape
  have SY:=k4.own OA.out b?
  have W5:=k4.own OB.out b?
  have TH:=k4.own OC.out b?
  have⟨x0,x1,x2,x3,x4⟩:=SY.k5
  have⟨y0,y1,y2,y3,y4⟩:=W5.k5
  have⟨z0,z1,z2,z3,z4⟩:=TH.k5
  have⟨f0,f1,f2,f3,f4⟩:=SY.y5
  have⟨g0,g1,g2,g3,g4⟩:=TH.y5
  have⟨Sh,Q5⟩:=f? SY TH
  clear h4 SY W5 TH
  go_wp2_with fail
  have Pb:w.heap.size+2≠w.heap.size:=a?
  have oF:=ae.aV ((Q5.out).other (p:=(aa w 2)) Pb (p4,LI.length,c4)) (c.nextBox,()) (c.nextMan,()) (p4,LI.length,c4) (p2,c.mans.length,c2) (p3,c.names.length,c3)
  have kF:NP [] w ((((((w4.setCell (aa w 2) (p4,LI.length,c4)).setCell (aa (w+2) 0) (c.nextBox,())).setCell (aa (w+2) 1) (c.nextMan,())).setCell (aa (w+2) 2) (p4,LI.length,c4)).setCell (aa (w+2) 3) (p2,c.mans.length,c2)).setCell (aa (w+2) 4) (p3,c.names.length,c3)):=NP.ay ((K4.out).setCell (p:=(aa w 2)) (Or.inr (MG _)) (p4,LI.length,c4)) (Or.inr a?) _ _ _ _ _
  have kT:NP [w.heap.size,w.heap.size+2] w4 ((((((w4.setCell (aa w 2) (p4,LI.length,c4)).setCell (aa (w+2) 0) (c.nextBox,())).setCell (aa (w+2) 1) (c.nextMan,())).setCell (aa (w+2) 2) (p4,LI.length,c4)).setCell (aa (w+2) 3) (p2,c.mans.length,c2)).setCell (aa (w+2) 4) (p3,c.names.length,c3)):=NP.ay ((NP.refl _ _).setCell (p:=(aa w 2)) (Or.inl b?) (p4,LI.length,c4)) (Or.inl b?) _ _ _ _ _
  have h5:=(H4.out.aS kT (fun x hx=>by simp at hx;rcases hx with rfl|rfl;exact Or.inr (Or.inl rfl);exact Or.inr (Or.inr rfl))).weaken (T:=S0) (fun x hx=>Or.inl hx)
  refine MN (v:=.tuple #[.agg #[(c.nextBox,()),(c.nextMan,()),(p4,LI.length,c4),(p2,c.mans.length,c2),(p3,c.names.length,c3)],LC]) (aj results99 rfl rfl (t:=52) ?_ underlying52 rfl c?) rfl ?_
  .exact oF
  .exact⟨_,rfl,⟨_,_,_,rfl,h5,(HM.out _ kF),(HN.out _ kF),V3.out,XC.out⟩,kF⟩
 .skip
  have Pp:aW c r=({c with mans:=(OU c.mans r.item).1},(OU c.mans r.item).2):=by
   unfold aW
   rw[if_neg K?]
   rw[if_neg K?]
   exact M92
  rw[Pp]
  have HC:Hid (∀W,NP [] w W->w.heap.size+3<=W.heap.size->am! 172 #[(p2,c.mans.length,c2),.agg #[r.kind,(r.id,()),r.name,r.size,(pr,r.runs.length,cr)]] W (cP (fun x=>S0 x\/(x=w.heap.size\/x=w.heap.size+2)) (OU c.mans r.item) W)):=tK (fun W q PW=>by
   have⟨hb,hm,hn,Qh,hf,Pj,P3,Pz,Q6⟩:=P8.out
   have T6:∀x,(S0 x\/(x=w.heap.size\/x=w.heap.size+2))->x<W.heap.size:=fun x hx=>by
    rcases hx with hx|hx
    .have:=Q6 x hx;omega
    .omega
   have hh:=Ae _ _ r (pr,r.runs.length,cr) W ((hm.more (fun x hx=>by omega)).kept0 q) T6 B! Pz.mans.2.2 ⟨_,_,_,rfl⟩
   unfold ag.cells at hh
   exact hh)
  unfold cP at HC
  obtain⟨LL,hLL⟩:∃L,OU c.mans r.item=L:=⟨_,rfl⟩
  rw[hLL]at HC ⊢
  have⟨LI,LC⟩:=LL
  simp only at HC ⊢
  rw[hk]at HC OA OB OC K0 y0 ⊢
  clear hLL Pp hk
  go_enter func99,ntmps99
  go_wp2_with fail
  refine(HC.out _ K0.out b?).mono ?_;rintro e w4 ⟨v4,rfl,h4,k4⟩
  have H4:=tK h4
  have K4:=tK (K0.out.trans k4)
  obtain⟨p4,c4,rfl⟩:=h4.plain.shape
  have SY:=k4.own OA.out b?
  have W5:=k4.own OB.out b?
  have TH:=k4.own OC.out b?
  have⟨x0,x1,x2,x3,x4⟩:=SY.k5
  have⟨y0,y1,y2,y3,y4⟩:=W5.k5
  have⟨z0,z1,z2,z3,z4⟩:=TH.k5
  have⟨f0,f1,f2,f3,f4⟩:=SY.y5
  have⟨g0,g1,g2,g3,g4⟩:=TH.y5
  have⟨Sh,Q5⟩:=f? SY TH
  clear h4 SY W5 TH
  go_wp2_with fail
  have Pb:w.heap.size+2≠w.heap.size:=a?
  have oF:=ae.aV ((Q5.out).other (p:=(aa w 3)) Pb (p4,LI.length,c4)) (c.nextBox,()) (c.nextMan,()) (p1,c.boxes.length,c1) (p4,LI.length,c4) (p3,c.names.length,c3)
  have kF:NP [] w ((((((w4.setCell (aa w 3) (p4,LI.length,c4)).setCell (aa (w+2) 0) (c.nextBox,())).setCell (aa (w+2) 1) (c.nextMan,())).setCell (aa (w+2) 2) (p1,c.boxes.length,c1)).setCell (aa (w+2) 3) (p4,LI.length,c4)).setCell (aa (w+2) 4) (p3,c.names.length,c3)):=NP.ay ((K4.out).setCell (p:=(aa w 3)) (Or.inr (MG _)) (p4,LI.length,c4)) (Or.inr a?) _ _ _ _ _
  have kT:NP [w.heap.size,w.heap.size+2] w4 ((((((w4.setCell (aa w 3) (p4,LI.length,c4)).setCell (aa (w+2) 0) (c.nextBox,())).setCell (aa (w+2) 1) (c.nextMan,())).setCell (aa (w+2) 2) (p1,c.boxes.length,c1)).setCell (aa (w+2) 3) (p4,LI.length,c4)).setCell (aa (w+2) 4) (p3,c.names.length,c3)):=NP.ay ((NP.refl _ _).setCell (p:=(aa w 3)) (Or.inl b?) (p4,LI.length,c4)) (Or.inl b?) _ _ _ _ _
  have h5:=(H4.out.aS kT (fun x hx=>by simp at hx;rcases hx with rfl|rfl;exact Or.inr (Or.inl rfl);exact Or.inr (Or.inr rfl))).weaken (T:=S0) (fun x hx=>Or.inl hx)
  refine MN (v:=.tuple #[.agg #[(c.nextBox,()),(c.nextMan,()),(p1,c.boxes.length,c1),(p4,LI.length,c4),(p3,c.names.length,c3)],LC]) (aj results99 rfl rfl (t:=52) ?_ underlying52 rfl c?) rfl ?_
  .exact oF
  .exact⟨_,rfl,⟨_,_,_,rfl,(HB.out _ kF),h5,(HN.out _ kF),V3.out,XC.out⟩,kF⟩
 .skip
  have Pp:aW c r=({c with names:=(OU c.names r.item).1},(OU c.names r.item).2):=by
   unfold aW
   rw[if_neg K?]
   rw[if_neg K?]
   rw[if_neg K?]
   rw[if_neg K?]
   rw[if_neg K?]
  rw[Pp]
  have HC:Hid (∀W,NP [] w W->w.heap.size+3<=W.heap.size->am! 172 #[(p3,c.names.length,c3),.agg #[r.kind,(r.id,()),r.name,r.size,(pr,r.runs.length,cr)]] W (cP (fun x=>S0 x\/(x=w.heap.size\/x=w.heap.size+2)) (OU c.names r.item) W)):=tK (fun W q PW=>by
   have⟨hb,hm,hn,Qh,hf,Pj,P3,Pz,Q6⟩:=P8.out
   have T6:∀x,(S0 x\/(x=w.heap.size\/x=w.heap.size+2))->x<W.heap.size:=fun x hx=>by
    rcases hx with hx|hx
    .have:=Q6 x hx;omega
    .omega
   have hh:=Ae _ _ r (pr,r.runs.length,cr) W ((hn.more (fun x hx=>by omega)).kept0 q) T6 w! Pz.names.2.2 ⟨_,_,_,rfl⟩
   unfold ag.cells at hh
   exact hh)
  unfold cP at HC
  obtain⟨LL,hLL⟩:∃L,OU c.names r.item=L:=⟨_,rfl⟩
  exact M10
def bf (T:List Nat) (w:World) (b sb mb g:Nat):Prop:=g∉T/\g≠b/\g≠sb/\g≠mb/\¬WB w b g
theorem bf.pk {mb} (h:bf T w b sb mb g) (k:PK T b sb mb w w') (hg:g<w.heap.size):bf T w' b sb mb g:=
 ⟨h.1,h.2.1,h.2.2.1,h.2.2.2.1,fun hx=>by
  rcases k.wb g hx with h1|h1
  .exact h.2.2.2.2 h1
  .omega⟩
theorem bf.mono {S mb} (h:bf T w b sb mb g) (hST:∀x∈S,x∈T):bf S w b sb mb g:=⟨fun hx=>h.1 (hST g hx),h.2⟩
theorem PK.same {mb} (k:PK T b sb mb w w') (h:bf T w b sb mb g) (hg:g<w.heap.size):w'.heap[g]? =w.heap[g]? :=k.block g hg h.1 h.2.1 h.2.2.1 h.2.2.2.1 h.2.2.2.2
theorem PK.own {mb cs} (k:PK T b sb mb w w') (o:ae w g cs t) (h:bf T w b sb mb g):ae w' g cs t:=(k.same h o.lt).trans o
theorem DA.Ak {mb} (h:DA w b sb mb lo d) {k} (hk:WB w b k):k<w.heap.size:=by
 have⟨_,cs,h1⟩:=h.disk.wb hk
 exact(Array.getElem?_eq_some_iff.1 h1).1
theorem DA.tG {mb} (h:DA w b sb mb lo d) (k:NP [] w w') (g):WB w' b g↔WB w b g:=WB.iw (k.cell (a:=(aa b 1)) h.bH b?)
theorem DA.bU {mb} (h:DA w b sb mb lo d) (hT:∀x∈T,x<w.heap.size) (k:NP [] w w') {g} (hg:w.heap.size<=g):bf T w' b sb mb g:=
 ⟨fun hx=>by have:=hT g hx;omega,by have:=h.bH;omega,by have:=h.sC;omega,by have:=h.vP;omega,fun hx=>by have:=h.Ak ((h.tG k g).1 hx);omega⟩
def SD (T:List Nat) (w:World) (b sb mb:Nat):Nat->Prop:=fun g=>¬bf T w b sb mb g
theorem DA.vL {mb} (h:DA w b sb mb lo d) (hT:∀x∈T,x<w.heap.size):∀x,SD T w b sb mb x->x<w.heap.size:=by
 intro x hx
 apply NG
 intro NV
 exact hx (h.bU hT (NP.refl [] w) a?)
theorem SD.kept {mb} (k:NP [] w w') (hb:b<w.heap.size):SD T w' b sb mb=SD T w b sb mb:=by
 funext g
 unfold SD bf
 rw[WB.iw (k.cell (a:=(aa b 1)) hb b?)]
theorem bD.JP {mb off c m} (h:bD (SD T w b sb mb) (.slice (some (aa g off)) m c) n) (hn:0<n):bf T w b sb mb g:=by
 apply NG
 intro hx
 exact h g off none m c rfl hn hx
theorem bD.pk {mb} (h:bD (SD T w b sb mb) v n) (k:PK T b sb mb w w') (NV:∀g off sp n' c,v=.slice (some ⟨g,off,sp⟩) n' c->0<n->g<w.heap.size):bD (SD T w' b sb mb) v n:=by
 intro g off sp n' c e hn hx
 apply h g off sp n' c e hn
 intro hy
 exact hx (hy.pk k (NV g off sp n' c e hn))
def ep (T:List Nat) (w:World) (b sb mb:Nat) (v:Value) (l:List (Int×Int)):Prop:=(∃lo hi,af w v l lo hi)/\bD (SD T w b sb mb) v l.length
theorem af.pk {mb} (h:af w v l lo hi) (ho:bD (SD T w b sb mb) v l.length) (k:PK T b sb mb w w'):af w' v l lo hi:=by
 rcases h with h|⟨g,off,c,e,h2,h3,h4,h5,h6,h7,h8⟩
 .exact Or.inl h
 .subst e
  have hg:=k.same (ho.JP (Nu.2 h6)) a?
  refine Or.inr ⟨g,off,c,rfl,fun i hi=>?_,h3,h4,Nk h5 k.size,h6,h7,h8⟩
  rw[World.cell?_of_block (w:=w) (a:=⟨g,_,none⟩) hg,World.cell?_of_block (w:=w) (a:=⟨g,_,none⟩) hg]
  exact h2 i hi
theorem af.mT {lo hi} (h:af w v l lo hi):∀g off sp n' c,v=.slice (some ⟨g,off,sp⟩) n' c->0<l.length->g<w.heap.size:=by
 intro g off sp n' c e hn
 rcases h with⟨h,_⟩|⟨b,off',c',e',_,_,h4,h5,_⟩
 .rw[h]at hn;simp at hn
 .rw[e']at e
  injection e with e
  injection e with e
  injection e with e
  subst e
  omega
theorem ep.pk {mb} (h:ep T w b sb mb v l) (k:PK T b sb mb w w'):ep T w' b sb mb v l:=by
 obtain⟨⟨lo,hi,h1⟩,h2⟩:=h
 exact⟨⟨lo,hi,h1.pk h2 k⟩,h2.pk k h1.mT⟩
theorem ep.nil {mb} (a c):ep T w b sb mb (.slice a 0 c) []:=⟨⟨0,0,Or.inl ⟨rfl,a,c,rfl⟩⟩,fun g off sp n' c e hn=>by simp at hn⟩
theorem af.JO {lo hi} (h:af w v l lo hi) (hS:∀x,S x->x<lo):bD S v l.length:=by
 intro g off sp n c e hn hg
 rcases h with⟨h,_⟩|⟨b,off',c',e',_,h3,_⟩
 .rw[h]at hn;simp at hn
 .rw[e']at e
  injection e with e
  injection e with e
  injection e with e
  subst e
  have:=hS _ hg
  omega
theorem af.new {mb PU} (h:af w' v l PU hi) (hD:DA w b sb mb lo d) (hT:∀x∈T,x<w.heap.size) (k:NP [] w w') (hlo:w.heap.size<=PU):ep T w' b sb mb v l:=
 ⟨⟨PU,hi,h⟩,h.JO (fun x hx=>by
  rw[SD.kept k hD.bH]at hx
  have:=hD.vL hT x hx
  omega)⟩
theorem ep.mono {S mb} (h:ep T w b sb mb v l) (hST:∀x∈S,x∈T):ep S w b sb mb v l:=⟨h.1,h.2.weaken (fun _ hx hy=>hx (hy.mono hST))⟩
theorem bO.pk {mb} (h:bO w v n k xs) (ho:bD (SD T w b sb mb) v n) (q:PK T b sb mb w w'):bO w' v n k xs:=by
 have⟨h1,h⟩:=h
 refine⟨h1,?_⟩
 rcases h with h|⟨g,off,c,e,h2,h3,h4,h5⟩
 .exact Or.inl h
 .subst e
  have hg:=q.same (ho.JP h4) h3
  refine Or.inr ⟨g,off,c,rfl,fun j u hj=>?_,MR h3 q.size,h4,h5⟩
  rw[World.cell?_of_block (w:=w) (a:=⟨g,_,none⟩) hg]
  exact h2 j u hj
theorem bO.mT (h:bO w v n k xs):∀g off sp n' c,v=.slice (some ⟨g,off,sp⟩) n' c->0<n->g<w.heap.size:=by
 intro g off sp n' c e hn
 subst e
 rcases h.2 with⟨h0,_⟩|⟨b,off',c',e,h3,h4,_⟩
 .omega
 .injection e with e
  injection e with e
  injection e with e
  subst e
  exact h4
theorem aq.pk {mb l} (h:aq (SD T w b sb mb) w v l) (k:PK T b sb mb w w'):aq (SD T w' b sb mb) w' v l:=by
 have⟨vs,h1,h2,h3,h4⟩:=h
 refine⟨vs,h1,h2.pk h4 k,fun x hx=>⟨⟨((h3 x hx).1.1.pk (h3 x hx).2 k).upto,(h3 x hx).1.2⟩,(h3 x hx).2.pk k (h3 x hx).1.1.mT⟩,h4.pk k h2.mT⟩
def dE (T:List Nat) (w:World) (b sb mb:Nat) (v:Value) (c:au):Prop:=av (SD T w b sb mb) w v c
theorem dE.pk {mb} (h:dE T w b sb mb v c) (k:PK T b sb mb w w'):dE T w' b sb mb v c:=by
 have⟨va,vb,vc,e,h1,h2,h3,h4⟩:=h
 exact⟨va,vb,vc,e,h1.pk k,h2.pk k,h3.pk k,h4⟩
theorem dE.kept0 {mb} (h:dE T w b sb mb v c) (k:NP [] w w') (hb:b<w.heap.size):dE T w' b sb mb v c:=h.pk (k.eH hb)
theorem dE.plain {mb} (h:dE T w b sb mb v c):dJ w v c:=av.plain h
theorem dE.empty (T w b sb mb):dE T w b sb mb (.agg #[.int .u32 1,.int .u32 1,(),(),()]) ⟨1,1,[],[],[]⟩:=⟨_,_,_,rfl,aq.nil _ _,aq.nil _ _,aq.nil _ _,d?,d?⟩
theorem av.Gg {mb} (h:av (SD T w b sb mb) w' v c) (k:NP [] w w') (hb:b<w.heap.size):dE T w' b sb mb v c:=by
 unfold dE
 rw[SD.kept k hb]
 exact h
def Wy (x:Nat):Nat:=if x%2=1 then x/2 ^^^ 3988292384 else x/2
def Ue:Nat->Nat->Nat
 |0,x=>x
 |k+1,x=>Wy (Ue k x)
def Ga (x:Nat) (b:UInt8):Nat:=Ue 8 (x ^^^ b.toNat)
def QD (x:Nat) (l:List UInt8):Nat:=l.foldl Ga x
def PE (l:List UInt8):Nat:=4294967295-QD 4294967295 l
theorem tO (x k):(Wy x).testBit k=(x.testBit (k+1) ^^ (x.testBit 0&&Nat.testBit 3988292384 k)):=by
 unfold Wy
 rw[Nat.testBit_succ,Nat.testBit_zero]
 by_cases h:x%2=1
 .rw[if_pos h,Nat.testBit_xor,MV h,Bool.true_and]
 .rw[if_neg h,MS h,Bool.false_and,Bool.xor_false]
theorem Jg (h:x<2^32):Wy x<2^32:=by
 unfold Wy
 split
 .exact Nat.xor_lt_two_pow a? d?
 .omega
theorem zc (k) (h:x<2^32):Ue k x<2^32:=by
 induction k with
 |zero=>exact h
 |succ k ih=>exact Jg ih
theorem Kz (b:UInt8):b.toNat<2^32:=Nat.lt_trans b.toNat_lt d?
theorem Iy (b:UInt8) (h:x<2^32):Ga x b<2^32:=zc 8 (Nat.xor_lt_two_pow h (Kz b))
theorem zQ (l) (h:x<2^32):QD x l<2^32:=by
 induction l generalizing x with
 |nil=>exact h
 |cons b l ih=>exact ih (Iy b h)
theorem iJ (l):PE l<4294967296:=by unfold PE;omega
theorem vr (x l) (b:UInt8):QD x (l++[b])=Ga (QD x l) b:=by simp[QD,List.foldl_append]
theorem Hc (a c):Wy (a ^^^ 2*c)=Wy a ^^^ c:=by
 apply Nat.eq_of_testBit_eq
 intro k
 rw[tO,Nat.testBit_xor,Nat.testBit_xor,Nat.testBit_xor,tO]
 have e1:(2*c).testBit (k+1)=c.testBit k:=by rw[Nat.testBit_succ];congr 1;omega
 have e2:(2*c).testBit 0=false:=by rw[Nat.testBit_zero];simp
 rw[e1,e2,Bool.xor_false]
 cases a.testBit (k+1)<;>cases c.testBit k<;>simp
def mb (l:List UInt8) (i:Nat):Bool:=match l[i/8]? with|some b=>b.toNat.testBit (i%8)|none=>false
theorem CZ (l i) (h:8*l.length<=i):mb l i=false:=by
 unfold mb;rw[List.getElem?_eq_none a?]
def oG (l:List UInt8):Nat->Nat
 |0=>4294967295
 |i+1=>Wy (oG l i ^^^ (mb l i).toNat)
theorem FX (b t):b/2^t ^^^ (b.testBit t).toNat=2*(b/2^(t+1)):=by
 apply Nat.eq_of_testBit_eq
 intro k
 rw[Nat.testBit_xor,Nat.testBit_div_two_pow]
 cases k with
 |zero=>
  have e:(2*(b/2^(t+1))).testBit 0=false:=by rw[Nat.testBit_zero];simp
  rw[e];cases h:b.testBit t<;>simp[h]
 |succ k=>
  have e:(2*(b/2^(t+1))).testBit (k+1)=(b/2^(t+1)).testBit k:=by rw[Nat.testBit_succ];congr 1;omega
  rw[e,Nat.testBit_div_two_pow]
  have e2:(b.testBit t).toNat.testBit (k+1)=false:=by cases b.testBit t<;>simp[Nat.testBit_succ]
  rw[e2,Bool.xor_false];congr 1;omega
theorem Ey (l j) (hj:j<l.length) (t) (ht:t<=8):oG l (8*j+t)=Ue t (oG l (8*j) ^^^ l[j].toNat) ^^^ l[j].toNat/2^t:=by
 induction t with
 |zero=>
  show oG l (8*j)=(oG l (8*j) ^^^ l[j].toNat) ^^^ _
  rw[Nat.pow_zero,Nat.div_one,Nat.xor_assoc,Nat.xor_self,Nat.xor_zero]
 |succ t ih=>
  have hm:mb l (8*j+t)=l[j].toNat.testBit t:=by
   unfold mb
   have e1:(8*j+t)/8=j:=a?
   have e2:(8*j+t)%8=t:=a?
   rw[e1,e2,MZ hj]
  show Wy (oG l (8*j+t) ^^^ (mb l (8*j+t)).toNat)=Wy (Ue t _) ^^^ _
  rw[ih a?,hm,Nat.xor_assoc,FX,Hc]
theorem Hk (l j) (hj:j<=l.length):oG l (8*j)=QD 4294967295 (l.take j):=by
 induction j with
 |zero=>rfl
 |succ j ih=>
  have h:=Ey l j a? 8 a?
  have e:l[j].toNat/2^8=0:=Nat.div_eq_of_lt l[j].toNat_lt
  rw[e,Nat.xor_zero]at h
  rw[MI a?,vr,<-ih a?]
  exact h
def pb (j:Nat):Bool:=Nat.testBit 4374732215 (32-j)
theorem Hv (k):(decide (k+1<=32)&&pb (k+1))=Nat.testBit 3988292384 k:=by
 by_cases h:k+1<=32
 .rw[MV h,Bool.true_and]
  have:∀k:Fin 32,pb (k.val+1)=Nat.testBit 3988292384 k.val:=by decide+kernel
  exact this ⟨k,a?⟩
 .rw[MS h,Bool.false_and]
  symm
  apply Nat.testBit_lt_two_pow
  exact MR (show 3988292384<2^32 by decide) (Nat.pow_le_pow_right d? a?)
def fs (l:List UInt8):Nat->Nat->Bool
 |0,i=>if i<32 then !(mb l i)else mb l i
 |a+1,i=>if fs l a a&&decide (a<=i/\i<a+33)then(fs l a i != pb (i-a))else fs l a i
theorem J0 (l a i) (h:a<=i):fs l a i=(mb l i ^^ (oG l a).testBit (i-a)):=by
 induction a generalizing i with
 |zero=>
  show(if i<32 then _ else _)=_
  have e:(oG l 0).testBit (i-0)=decide (i<32):=Nat.testBit_two_pow_sub_one 32 i
  rw[e]
  by_cases QO:i<32
  .rw[if_pos QO,MV QO];cases mb l i<;>rfl
  .rw[if_neg QO,MS QO];cases mb l i<;>rfl
 |succ a ih=>
  obtain⟨k,rfl⟩:∃k,i=a+1+k:=⟨i-(a+1),a?⟩
  have i1:=ih a (MG _)
  have i2:=ih (a+1+k) a?
  have e1:a+1+k-a=k+1:=a?
  have e2:a+1+k-(a+1)=k:=a?
  rw[Nat.sub_self]at i1
  rw[e1]at i2
  show(if fs l a a&&decide (a<=a+1+k/\a+1+k<a+33)then(fs l a (a+1+k) != pb (a+1+k-a))else fs l a (a+1+k))=(mb l (a+1+k) ^^ (Wy (oG l a ^^^ (mb l a).toNat)).testBit (a+1+k-(a+1)))
  rw[e1,e2,i2,i1,tO,Nat.testBit_xor,Nat.testBit_xor,<-Hv]
  have e3:(mb l a).toNat.testBit (k+1)=false:=by cases mb l a<;>simp[Nat.testBit_succ]
  have e4:(mb l a).toNat.testBit 0=mb l a:=by cases mb l a<;>rfl
  have e5:decide (a<=a+1+k/\a+1+k<a+33)=decide (k+1<=32):=by
   rw[decide_eq_decide];omega
  rw[e3,e4,e5]
  cases mb l a<;>cases (oG l a).testBit 0<;>cases mb l (a+1+k)<;>cases (oG l a).testBit (k+1)<;>cases decide (k+1<=32)<;>cases pb (k+1)<;>rfl
theorem It (l k):fs l (8*l.length) (8*l.length+k)=(QD 4294967295 l).testBit k:=by
 rw[J0 l _ _ a?,CZ l _ a?,Hk l _ (MG _),MU,Bool.false_xor]
 congr 1;omega
theorem Ix (l k):(PE l).testBit k=(decide (k<32)&& !(QD 4294967295 l).testBit k):=by
 have h:=Nat.testBit_two_pow_sub_succ (n:=32) (zQ l (show 4294967295<2^32 by decide)) k
 have e:PE l=2^32-(QD 4294967295 l+1):=by unfold PE;omega
 rw[e];exact h
theorem DL (l k) (h:k<32):PE l/2^k=2*(PE l/2^(k+1))+(if fs l (8*l.length) (8*l.length+k)=false then 1 else 0):=by
 have hb:=Ix l k
 rw[MV h,Bool.true_and,<-It]at hb
 have e1:PE l/2^(k+1)=PE l/2^k/2:=by rw[Nat.pow_succ,Nat.div_div_eq_div_mul]
 have e2:(PE l).testBit k=decide (PE l/2^k%2=1):=by rw[Nat.testBit_eq_decide_div_mod_eq]
 rw[e2]at hb
 rw[e1]
 cases hf:fs l (8*l.length) (8*l.length+k)
 .rw[hf]at hb
  have:PE l/2^k%2=1:=by simpa using hb
  simp;omega
 .rw[hf]at hb
  have:¬PE l/2^k%2=1:=by simpa using hb
  simp;omega
end
end Go.Proofs.YtdkimcnlhmhpgaaGreat

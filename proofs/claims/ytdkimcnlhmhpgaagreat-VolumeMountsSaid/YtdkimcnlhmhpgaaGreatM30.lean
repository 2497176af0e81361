/- -/
import Derived.Test.YtdkimcnlhmhpgaaGreatM29
set_option maxHeartbeats 32000000
set_option maxRecDepth 100000
namespace Go.Proofs.YtdkimcnlhmhpgaaGreat
section
open Go.Proofs.Tryz Go.RowKit
variable {s:List UInt8} {w w' w1:World} {v:Value} {ls:List (List ag)} {base bx:Nat} {nb nm:Int} {A B C:List NS}
def jI (s:List UInt8) (w:World) (e:Ending) (w':World):Prop:=
 ((∃c v,OL c/\il c/\bN c=s/\av (fun x=>x<w.heap.size) w' v c/\e=.returned (.tuple #[v,(0:Int)]))\/(fT s/\e=.returned (.tuple #[.agg #[.int .u32 0,.int .u32 0,(),(),()],(110:Int)])))/\NP [] w w'
theorem iX (h:fT s) (k:NP [] w w'):jI s w (.returned (.tuple #[.agg #[.int .u32 0,.int .u32 0,(),(),()],(110:Int)])) w':=⟨Or.inr ⟨h,rfl⟩,k⟩
theorem Gf {c:au} (h1:OL c) (h2:bN c=s) (h3:av (fun x=>x<w.heap.size) w' v c) (k:NP [] w w'):jI s w (.returned (.tuple #[v,(0:Int)])) w':=⟨Or.inl ⟨c,v,h1,h3.plain.fit,h2,h3,rfl⟩,k⟩
theorem ve (k:Int) (l:List ag):(aH k l).length<=l.length:=by
 unfold aH;rw[MP];exact List.length_filter_le _ _
theorem vd (l:List ag):(aH 1 l).length+(aH 2 l).length+(aH 3 l).length<=l.length:=by
 induction l with
 |nil=>simp[aH]
 |cons a l ih=>
  have e:∀k,aH k (a::l)=aH k [a]++aH k l:=fun k=>lG k [a] l
  simp only[e,tN,Nj]
  have:(aH 1 [a]).length+(aH 2 [a]).length+(aH 3 [a]).length<=1:=by
   unfold aH
   by_cases h1:a.kind=1
   .simp[h1]
   .by_cases h2:a.kind=2
    .simp[h2]
    .by_cases h3:a.kind=3
     .simp[h3]
     .simp[h1,h2,h3]
  omega
theorem Dj {k:Int} {l:List ag} {a:NS} (h:a∈aH k l):∃r∈l,r.item=a:=by
 unfold aH at h
 obtain⟨r,hr,rfl⟩:=ND.1 h
 exact⟨r,(List.mem_filter.1 hr).1,rfl⟩
theorem nV {u:List UInt8} (h:∀l∈ls,∀r∈l,az r=true) (hl:ls.flatten.length<=3000):ie (Qr u ls)/\(Qr u ls).boxes.length+(Qr u ls).mans.length+(Qr u ls).names.length<=3000:=by
 have hs:∀k,jk (aH k ls.flatten):=fun k=>⟨by have:=ve k ls.flatten;omega,fun a ha=>by
  obtain⟨r,hr,rfl⟩:=Dj ha
  have⟨l,hl,hr⟩:=List.mem_flatten.1 hr
  have:=jz (h l hl r hr)
  show r.runs.length<=_
  omega⟩
 exact⟨⟨hs 1,hs 2,hs 3⟩,Nk (vd _) hl⟩
theorem wG {e:TypeId} {size n:Nat} {xs:List Value} (h:w.ownsRow base e size v n xs) (m:Nat):bD (fun x=>x<base) v m:=by
 intro g off sp n' c hv _ NV
 rcases h.2 with⟨rfl,_⟩|⟨g',cap,cur,rfl,hb,_⟩
 .cases hv
 .injection hv with hv
  injection hv with hv
  injection hv with hv
  subst hv
  omega
theorem eP.tZ {va vb vc:Value} {xs ys zs:List (NS×Value)} (h:eP base w va vb vc xs ys zs):aq (fun x=>x<base) w va (xs.map (·.1)):=
 ⟨xs,rfl,bO.bB h.ra,fun x hx=>⟨(h.ia x hx).ok,wG (h.ia x hx).1 _⟩,wG h.ra _⟩
theorem M98 {A:Prop}(h:A:=by
 have i1:=r.tZ
 have i2:=r.cM.tZ
 have i3:=r.cM.cM.tZ
 rw[e1]at i1
 rw[e2]at i2
 rw[e3]at i3
 exact⟨va,vb,vc,rfl,i1,i2,i3,hb,hm⟩):A:=h
theorem iP.cat (h:iP w1 w bx nb nm A B C) (hb:(Lit.int .u32 nb).wf=true) (hm:(Lit.int .u32 nm).wf=true):
  ∃va vb vc,(fP va/\fP vb/\fP vc)/\ae w bx #[(nb,()),(nm,()),va,vb,vc] 52/\NP [bx] w1 w/\(∀w',NP [] w w'->av (fun x=>x<w1.heap.size) w' (.agg #[(nb,()),(nm,()),va,vb,vc]) ⟨nb,nm,A,B,C⟩/\∀g cs,ae w' g cs 52->∀a b c d e,av (fun x=>x<w1.heap.size) (((((w'.setCell ⟨g,0,none⟩ a).setCell ⟨g,1,none⟩ b).setCell ⟨g,2,none⟩ c).setCell ⟨g,3,none⟩ d).setCell ⟨g,4,none⟩ e) (.agg #[(nb,()),(nm,()),va,vb,vc]) ⟨nb,nm,A,B,C⟩):=by
 obtain⟨va,vb,vc,xs,ys,zs,o,r3,e1,e2,e3,k⟩:=h
 have hc:∀W,eP w1 W va vb vc xs ys zs->av (fun x=>x<w1.heap.size) W (.agg #[(nb,()),(nm,()),va,vb,vc]) ⟨nb,nm,A,B,C⟩:=fun W r=>by
  exact M98
 have PX:∀{v:Value} {n:Nat} {us:List Value},w.ownsRow w1 113 4 v n us->fP v:=fun h=>by
  obtain⟨p,c,rfl⟩:=ah h
  exact⟨_,_,_,rfl⟩
 refine⟨va,vb,vc,⟨PX r3.ra,PX r3.rb,PX r3.rc⟩,o,k,fun w' q=>⟨hc _ (r3.kept0 q),fun g cs og a b c d e=>hc _ ?_⟩⟩
 exact(((((r3.kept0 q).set og 0 a).set (og.set 0 a) 1 b).set ((og.set 0 a).set 1 b) 2 c).set (((og.set 0 a).set 1 b).set 2 c) 3 d).set ((((og.set 0 a).set 1 b).set 2 c).set 3 d) 4 e
theorem iP.kept0 (h:iP w1 w bx nb nm A B C) (k:NP [] w w'):iP w1 w' bx nb nm A B C:=by
 obtain⟨va,vb,vc,xs,ys,zs,o,r3,e1,e2,e3,kk⟩:=h
 exact⟨va,vb,vc,xs,ys,zs,k.own o _b,r3.kept0 k,e1,e2,e3,kk.trans (k.mono (fun x hx=>by cases hx))⟩
theorem cD.at_ {w0:World} {ll:List (List ag)} (h:cD w0 w v ll) (i:Nat) (hi:i<ll.length):
  ∃b off kv c,v=.slice (some ⟨b,off,none⟩) ll.length c/\∀W S,NP S w W->ig w0 w S->W.cell? ⟨b,off+i,none⟩=some kv/\aI w0 W kv ll[i]:=by
 obtain⟨vs,rfl,h2,h3⟩:=h
 have hi':i<vs.length:=_D
 obtain⟨g,c,rfl,g1,g2,g3,g4,g5⟩:=cU h2 _e
 refine⟨g,0,vs[i].2,c,rfl,fun W S k hS=>⟨?_,?_⟩⟩
 .have hr:=cF h2 k (fun x hx hb cs hc=>by
   rcases hS x hx with h1|⟨TL,t,o,_,_,ht⟩
   .omega
   .exact ht (lA o hc))
  have⟨g',c',e,_,_,_,_,g5'⟩:=cU hr _e
  injection e with e
  injection e with e
  injection e with e
  subst e
  rw[Nat.zero_add]
  refine g5' i _ ?_
  simp[hi']
 .rw[Ny]
  exact(h3 _ (MJ hi')).kept k hS.recs
theorem iP.start {w1:World} {bx:Nat} {nb nm:Int} (o:ae w1 bx #[(nb,()),(nm,()),(),(),()] 52):iP w1 w1 bx nb nm [] [] []:=
 ⟨_,_,_,[],[],[],o,eP.nil _ _,rfl,rfl,rfl,NP.refl _ _⟩
theorem pO {k:Nat} (hk:k<ls.length):(ls.take (k+1)).flatten=(ls.take k).flatten++ls[k]:=by
 rw[MI hk,Nv];simp
theorem qo (l:List UInt8) (x:Int):(Lit.int .u32 ((N6 4 l x).1:Int)).wf=true:=by
 have:(N6 4 l x).1<4294967296:=cp 4 l x
 exact tF _a _a
theorem M45 {A:Prop}(h:A:=by
 have⟨y0,y1,y2,y3,y4⟩:=OA7.out.k5
 have⟨g0,g1,g2,g3,g4⟩:=OA7.out.y5
 go_wp2_with fail
 refine MN (v:=.tuple #[.agg #[.int .u32 0,.int .u32 0,(),(),()],(110:Int)]) (aj results193 rfl rfl (t:=52) ?_ underlying52 rfl _c) rfl ?_
 .exact OA7.out.aV _ _ _ _ _
 .exact iX Pk.out (NP.ay K7.out (Or.inr (MG _)) _ _ _ _ _)):A:=h
theorem M24 {A:Prop}(h:A:=by
 have⟨y0,y1,y2,y3,y4⟩:=UW.out.k5
 have⟨g0,g1,g2,g3,g4⟩:=UW.out.y5
 go_wp2_with fail
 refine MN (v:=.tuple #[.agg #[.int .u32 0,.int .u32 0,(),(),()],(110:Int)]) (aj results193 rfl rfl (t:=52) ?_ underlying52 rfl _c) rfl ?_
 .exact UW.out.aV _ _ _ _ _
 .exact iX Pk.out (NP.ay K2.out (Or.inr (MG _)) _ _ _ _ _)):A:=h
theorem M23 {A:Prop}(h:A:=by
 have⟨y0,y1,y2,y3,y4⟩:=WQ.out.k5
 have⟨g0,g1,g2,g3,g4⟩:=WQ.out.y5
 go_wp2_with fail
 refine MN (v:=.tuple #[.agg #[.int .u32 0,.int .u32 0,(),(),()],(110:Int)]) (aj results193 rfl rfl (t:=52) ?_ underlying52 rfl _c) rfl ?_
 .exact WQ.out.aV _ _ _ _ _
 .exact iX Pk.out (NP.ay K9.out (Or.inr (MG _)) _ _ _ _ _)):A:=h
theorem L6 (s:List UInt8) (w:World) (hs:s.length<=1000000) (HL:∀t ls,eO s=some t->O4 (t.drop 12)=some ls->∀l∈ls,l.length<=3000):
  am! 193 #[s] w (jI s w):=by
 have HOP:Hid (∀W,am! 245 #[s] W (ki s W)):=tK (fun W=>LF s W hs)
 have⟨HLL,HS⟩:=_f HL hs
 have oA0:=ae.new w #[.int .u32 0,.int .u32 0,(),(),()] 52
 have OA0:=tK oA0
 have K0:Hid (NP [] w (w.alloc (.cells #[.int .u32 0,.int .u32 0,(),(),()] 52))):=tK ((NP.refl _ _).alloc _)
 clear oA0 HL hs
 go_enter func193,ntmps193
 go_wp2_with fail
 refine(HOP.out _).mono ?_;rintro e w2 ⟨Sq,k2⟩
 have K2:=tK (K0.out.trans k2)
 have UW:=tK (k2.own OA0.out _b)
 clear k2
 rcases Sq with⟨t,Sq,rfl⟩|⟨Sq,cd,hcd,rfl⟩
 .have UY:t.length<=1000000:=by
   have e:=CM Sq
   have:=congrArg List.length e
   unfold dF at this
   rw[tN]at this
   have:=HS.out;omega
  have hz:((bs t).size:Int)=t.length:=ak!
  have Qx:(bs t).size=t.length:=NQ t
  by_cases g1:12<=t.length
  .have d1:decide ((t.length:Int)<12)=false:=_e
   have E4:(bs t).extract 0 4=bs (t.take 4):=by rw[aY];simp
   by_cases g2:t.take 4=[67,65,84,76]
   .have E4':(bs t).extract 0 4={data:=#[67,65,84,76]}:=by rw[E4,g2];rfl
    have E8:(bs t).extract 4 12=bs ((t.take 12).drop 4):=by rw[aY,List.drop_take]
    have E12:(bs t).extract 12 t.length=bs (t.drop 12):=by rw[aY,Nh (Nat.le_of_eq (MQ ..))]
    have Ux:Hid (∀W,am! 188 #[.string ((bs t).extract 4 12)] W fun e w'=>e=.returned (.pointer (some ⟨W.heap.size,0,none⟩))/\aP w' W.heap.size ((t.take 12).drop 4) 0/\NP [] W w'):=tK (fun W=>by
     have:=nz ((bs t).extract 4 12) W
     rw[E8]at this ⊢
     rw[cC]at this
     exact this)
    have HJR:Hid (∀W,am! 124 #[.string ((bs t).extract 12 t.length)] W (lP (t.drop 12) W)):=tK (fun W=>by
     rw[E12]
     exact GI (t.drop 12) W _z)
    have Uy:=tK (fun ls h hh=>AS (ls:=ls) Sq h hh)
    have aam:=tK (fun ls h r hm hh=>AR (ls:=ls) Sq h (r:=r) hm hh)
    have WY:=tK (fun ls h hh=>AQ (ls:=ls) Sq h hh)
    have Se:=tK (fun h=>AN Sq h)
    have YR:=tK (fun ls h=>HLL.out t ls Sq h)
    have i1:(12:Int)<=t.length:=_a
    have i2:(4:Int)<=t.length:=_a
    have j1:(t.length:Int)<=1000000:=_a
    obtain⟨u,hu⟩:∃u,(t.take 12).drop 4=u:=⟨_,rfl⟩
    rw[hu]at Ux Uy
    obtain⟨z,hz'⟩:∃z,t.drop 12=z:=⟨_,rfl⟩
    rw[hz']at HJR Uy aam WY Se YR
    have S6:=tK (qo u 0)
    have S3:=tK (qo (N6 4 u 0).2.1 (N6 4 u 0).2.2)
    clear E4 E8 E12 Sq hu hz' g1 g2 HLL UY
    unfold lP at HJR
    go_wp2_with fail
    refine(Ux.out _).mono ?_;rintro e w3 ⟨rfl,rd3,k3⟩
    have RD3:=tK rd3
    have K3:=tK (K2.out.trans k3)
    have Uh:=tK (k3.own UW.out _b)
    have HB:Hid (w.heap.size<w2.heap.size):=tK UW.out.lt
    clear rd3 k3
    generalize w2.heap.size=rb at*
    go_wp2_with fail
    refine(np rb u 0 _ RD3.out).mono ?_;rintro e w4 ⟨rfl,rd4,k4⟩
    have RD4:=tK rd4
    have K4:=tK (K3.out.call k4 (fun x hx=>Or.inr (by have e:x=rb:=_h;rw[e];have:=HB.out;omega)))
    have Sh:=tK (k4.own Uh.out (by have:=HB.out;simp;omega))
    clear rd4 k4
    go_wp2_with fail
    refine(np rb _ _ _ RD4.out).mono ?_;rintro e w5 ⟨rfl,rd5,k5⟩
    have K5:=tK (K4.out.call k5 (fun x hx=>Or.inr (by have e:x=rb:=_h;rw[e];have:=HB.out;omega)))
    have OA5:=tK (k5.own Sh.out (by have:=HB.out;simp;omega))
    clear rd5 k5
    have ENB:Hid (nbT u=(N6 4 u 0).1):=tK rfl
    have ENM:Hid (nmT u=(N6 4 (N6 4 u 0).2.1 (N6 4 u 0).2.2).1):=tK rfl
    rw[<-ENB.out]at S6
    rw[<-ENM.out]at S3
    rw[<-ENB.out,<-ENM.out]
    obtain⟨nb,RG⟩:∃nb:Int,(nbT u:Int)=nb:=⟨_,rfl⟩
    obtain⟨nm,Rb⟩:∃nm:Int,(nmT u:Int)=nm:=⟨_,rfl⟩
    rw[RG]at S6
    rw[Rb]at S3
    rw[RG,Rb]
    have HCT:Hid (∀ls,Qr u ls=⟨nb,nm,aH 1 ls.flatten,aH 2 ls.flatten,aH 3 ls.flatten⟩):=tK (fun ls=>by unfold Qr;rw[RG,Rb])
    have OB6:=tK (ae.new w5 #[(nb,()),(nm,()),(),(),()] 52)
    have OA6:=tK (OA5.out.alloc (.cells #[(nb,()),(nm,()),(),(),()] 52))
    have K6:=tK (K5.out.alloc (.cells #[(nb,()),(nm,()),(),(),()] 52))
    have Xv:Hid (w.heap.size<w5.heap.size):=tK OA5.out.lt
    clear RG Rb ENB ENM
    go_wp2_with fail
    refine(HJR.out _).mono ?_;rintro e w7 ⟨hjr,k7⟩
    have K7:=tK (K6.out.trans k7)
    have OA7:=tK (k7.own OA6.out _b)
    have OB7:=tK (k7.own OB6.out _b)
    clear k7
    generalize w5.heap.size=bx at*
    rcases hjr with⟨ls,v,P0,Tt,rfl⟩|⟨P0,rfl⟩
    .have VU:=tK Tt
     obtain⟨p8,c8,rfl⟩:=Tt.shape
     have Up:=tK P0
     have HLE:=tK (YR.out ls P0)
     have RZ:=tK (fun l hl=>(kO P0 l hl).1)
     clear Tt
     by_cases g3:ls.length<=1
     .have d3:decide ((ls.length:Int)>1)=false:=_e
      have d3':decide ((1:Int)<ls.length)=false:=d3
      have Ug:ls.flatten.length<=3000:=by
       cases hls:ls with
       |nil=>simp
       |cons a m=>
        have hm:m=[]:=Nc (by rw[hls]at g3;simpa using g3)
        have:=HLE.out a (by rw[hls];simp)
        rw[hm]
        simpa using this
      have ZL:=tK Ug
      have j3:(ls.length:Int)<=1:=_a
      have G0:=tK (iP.start OB7.out)
      have SP:Hid (bx<w7.heap.size):=tK OB7.out.lt
      have abE:Hid (∀k (hk:k<ls.length),∃b off kv,p8=some ⟨b,off,none⟩/\∀W,NP [bx] w7 W->W.cell? ⟨b,off+k,none⟩=some kv/\aI (w5.alloc (.cells #[(nb,()),(nm,()),(),(),()] 52)) W kv ls[k]):=tK (fun k hk=>by
       have⟨b,off,kv,c,e,hh⟩:=VU.out.at_ k hk
       injection e with e
       exact⟨b,off,kv,e,fun W q=>hh W _ q (ig.one OB7.out _d _d _d)⟩)
      have XQ:Hid (∀W,NP [bx] w7 W->ae W w #[.int .u32 0,.int .u32 0,(),(),()] 52):=tK (fun W q=>q.own OA7.out (by have:=Xv.out;simp;omega))
      have V6:Hid (∀W,NP [bx] w7 W->NP [] w W):=tK (fun W q=>K7.out.call q (fun x hx=>Or.inr (by have e:x=bx:=_h;rw[e];have:=Xv.out;omega)))
      clear P0 Ug g3 d1
      go_wp2_with fail
      clear d3 d3'
      go_loopw [57] (fun i wr=>∃k:Nat,k<=ls.length/\i=(k:Int)/\iP w7 wr bx nb nm (aH 1 (ls.take k).flatten) (aH 2 (ls.take k).flatten) (aH 3 (ls.take k).flatten)) (fun i _=>ls.length-(intOf i).toNat)
      case atStart=>exact⟨0,Nb _,rfl,G0.out⟩
      case round=>
       obtain⟨k,hk,rfl,hG⟩:=hrel
       rename World=>wr
       by_cases NV:k<ls.length
       .have i3:(k:Int)<ls.length:=_a
        have⟨va0,vb0,vc0,_,_,hkp,_⟩:=hG.cat S6.out S3.out
        obtain⟨b,off,kv,rfl,ZV⟩:=abE.out k NV
        have⟨hc0,hrec0⟩:=ZV wr hkp
        obtain⟨p9,c9,rfl⟩:=hrec0.shape
        have Tp:Hid (∀W,NP [bx] w7 W->bX W (.slice p9 ls[k].length c9) ls[k] (w5.alloc (.cells #[(nb,()),(nm,()),(),(),()] 52)).heap.size W.heap.size):=tK (fun W q=>(ZV W q).2.oI)
        have⟨HG,Of⟩:=_f hG NV
        have HFT:=tK (pO NV)
        have HML:=tK (RZ.out ls[k] (MJ NV))
        have ac0:=tK (HLE.out ls[k] (MJ NV))
        have aey:Hid (∀r∈ls[k],r∈ls.flatten):=tK (fun r hr=>List.mem_flatten.2 ⟨_,MJ NV,hr⟩)
        have acP:Hid ((ls.take k).flatten.length<=3000):=tK (by
         have h1:(ls.take k).flatten.length+(ls.drop k).flatten.length=ls.flatten.length:=by rw[<-tN,<-Nv,List.take_append_drop]
         have:=ZL.out;omega)
        clear hG hkp ZV hrec0 hk
        obtain⟨acc,hacc⟩:∃acc,(ls.take k).flatten=acc:=⟨_,rfl⟩
        rw[hacc]at HG HFT acP
        clear hacc
        generalize WU:ls[k]'NV=l0 at*
        have i5:(l0.length:Int)<=3000:=by have:=ac0.out;omega
        clear WU NV
        go_wp2_with fail
        obtain⟨wo,rfl⟩:∃wo:World,wo=wr:=⟨_,rfl⟩
        go_loopw [63] (fun i wx=>∃j:Nat,j<=l0.length/\i=(j:Int)/\iP w7 wx bx nb nm (aH 1 (acc++l0.take j)) (aH 2 (acc++l0.take j)) (aH 3 (acc++l0.take j))) (fun i _=>l0.length-(intOf i).toNat)
        case atStart=>exact⟨0,Nb _,rfl,by simpa using HG.out⟩
        case round=>
         obtain⟨j,hj,rfl,ZM⟩:=hrel
         rename World=>wx
         by_cases WE:j<l0.length
         .have i4:(j:Int)<l0.length:=_a
          have⟨va1,vb1,vc1,_,_,hkp1,_⟩:=ZM.cat S6.out S3.out
          obtain⟨b',off',rv,rfl,y0,y1,y2,y3,y4,hruns,Oq,_⟩:=(Tp.out wx hkp1).at_ j WE
          have VA:=HML.out l0[j] (MJ WE)
          have PF:acc++l0.take (j+1)=(acc++l0.take j)++[l0[j]]:=by rw[MI WE,MW]
          have hlen:(aH 1 (acc++l0.take j)).length+(aH 2 (acc++l0.take j)).length+(aH 3 (acc++l0.take j)).length<=100000:=by
           have h1:=vd (acc++l0.take j)
           rw[tN,MO]at h1
           have:=acP.out;have:=ac0.out;omega
          have R7:∀W,NP [] wx W->am! 246 #[bx,.agg (l0[j].cells rv)] W (eS l0[j] w7 bx nb nm (aH 1 (acc++l0.take j)) (aH 2 (acc++l0.take j)) (aH 3 (acc++l0.take j))):=fun W q=>Kl l0[j] rv w7 W bx nb nm _ _ _ _ _ (ZM.kept0 q) SP.out (hruns.kept0 q) Oq (sV VA Oq) (by have:=jz VA;omega) hlen
          unfold eS at R7
          simp only[<-s7]at R7
          rw[<-PF]at R7
          have⟨VH,Yt⟩:=_f R7 WE
          have RY:Hid (¬(l0[j].kind=1\/l0[j].kind=2\/l0[j].kind=3)->fT s):=tK (fun hh=>aam.out ls Up.out l0[j] (aey.out _ (MJ WE)) hh)
          obtain⟨pr,nr,cr,rfl⟩:fP rv:=by
           obtain⟨p,c,rfl⟩:=hruns.shape
           exact⟨_,_,_,rfl⟩
          clear ZM hkp1 hruns Oq VA PF hlen R7 hj
          generalize l0[j]'WE=r at*
          clear WE
          obtain⟨kd,id,nm',sz,rr⟩:=r
          unfold ag.cells at VH
          simp only at VH RY y0 y1 y2 y3 y4
          go_wp2_with fail
          refine(VH.out _ ((NP.refl _ _).alloc _)).mono ?_;rintro e w9 ⟨rfl,hG9⟩
          have HG9:=tK hG9
          have⟨va2,vb2,vc2,_,_,hkp2,_⟩:=hG9.cat S6.out S3.out
          have WQ:=tK (XQ.out w9 hkp2)
          have K9:=tK (V6.out w9 hkp2)
          clear hG9 hkp2 y0 y1 y2 y3 y4
          by_cases hkd:kd=1\/kd=2\/kd=3
          .have dk:decide (kd=1\/kd=2\/kd=3)=true:=MV hkd
           rw[dk]
           clear hkd dk
           go_wp2_with fail
           go_roundw
           case rel=>exact⟨j+1,Yt.out,_G,HG9.out⟩
           case measure=>(have hh:=Yt.out;simp[intOf];omega)
          .have dk:decide (kd=1\/kd=2\/kd=3)=false:=MS hkd
           have Pk:=tK (RY.out hkd)
           rw[dk]
           clear hkd dk
           exact M23
         .obtain rfl:j=l0.length:=_a
          rw[MU,<-HFT.out]at ZM
          have HG2:=tK ZM
          have i4:¬(l0.length:Int)<l0.length:=_a
          clear ZM WE hj
          go_wp2_with fail
          go_roundw
          case rel=>exact⟨k+1,Of.out,_G,HG2.out⟩
          case measure=>(have hh:=Of.out;simp[intOf];omega)
       .obtain rfl:k=ls.length:=_a
        rw[MU]at hG
        obtain⟨va,vb,vc,⟨⟨p1,n1,c1,rfl⟩,⟨p2,n2,c2,rfl⟩,⟨p3,n3,c3,rfl⟩⟩,ob,hkp,Oz⟩:=hG.cat S6.out S3.out
        have hct:=HCT.out ls
        rw[<-hct]at Oz
        have QK:=tK Oz
        have HP:Hid (∀W,NP [] wr W->am! 52 #[.agg #[(nb,()),(nm,()),(p1,n1,c1),(p2,n2,c2),(p3,n3,c3)]] W (lV (Qr u ls) W)):=tK (fun W q=>by
         have⟨RH,QG⟩:=nV (u:=u) RZ.out ZL.out
         exact L4 _ _ W (Oz W q).1.plain RH QG)
        have OB:=tK ob
        have OA:=tK (XQ.out wr hkp)
        have KW:=tK (V6.out wr hkp)
        have HBK:=tK (Uy.out ls Up.out)
        have i3:¬(ls.length:Int)<ls.length:=_a
        have⟨z0,z1,z2,z3,z4⟩:=ob.k5
        clear hG hkp Oz ob NV hk hct
        unfold lV at HP
        generalize Qr u ls=C at*
        go_wp2_with fail
        refine(HP.out _ (NP.refl _ _)).mono ?_;rintro e w9 ⟨rfl,k9⟩
        have K9:=tK (KW.out.trans k9)
        have KX:=tK k9
        have WQ:=tK (k9.own OA.out _b)
        have OB9:=tK (k9.own OB.out _b)
        clear k9 z0 z1 z2 z3 z4
        by_cases hm:OL C
        .have Wm:cY C=(bN C,0):=by unfold cY;rw[if_pos hm]
         rw[Wm]
         have HM:=tK hm
         clear Wm hm
         by_cases hp:bN C=s
         .have q1:((bs (bN C)).toList==(bs s).toList)=true:=by rw[hp];simp
          have HPE:=tK hp
          have Rv:=tK (QK.out w9 KX.out).2
          have⟨z0,z1,z2,z3,z4⟩:=OB9.out.k5
          have⟨y0,y1,y2,y3,y4⟩:=WQ.out.k5
          have⟨g0,g1,g2,g3,g4⟩:=WQ.out.y5
          clear hp
          go_wp2_with fail
          refine MN (v:=.tuple #[.agg #[(nb,()),(nm,()),(p1,n1,c1),(p2,n2,c2),(p3,n3,c3)],(0:Int)]) (aj results193 rfl rfl (t:=52) ?_ underlying52 rfl _c) rfl ?_
          .exact WQ.out.aV _ _ _ _ _
          .exact Gf HM.out HPE.out ((Rv.out _ _ WQ.out _ _ _ _ _).cI (fun x hx=>MR hx K7.out.size)) (NP.ay K9.out (Or.inr (MG _)) _ _ _ _ _)
         .have q1:((bs (bN C)).toList==(bs s).toList)=false:=by rw[bj,bj];simpa using hp
          have Pk:=tK (HBK.out (fun hh=>hp hh.2))
          clear hp
          exact M23
        .have Wm:cY C=([],110):=by unfold cY;rw[if_neg hm]
         rw[Wm]
         have Pk:=tK (HBK.out (fun hh=>hm hh.1))
         clear Wm hm
         exact M23
     .have d3:decide ((ls.length:Int)>1)=true:=_e
      have d3':decide ((1:Int)<ls.length)=true:=d3
      have Pk:=tK (WY.out ls Up.out g3)
      clear g3 P0 d1
      exact M45
    .have Pk:=tK (Se.out P0)
     clear P0 d1
     exact M45
   .have q1:((bs (t.take 4)).toList==[67,65,84,76])=false:=by rw[bj];simpa using g2
    have q0:({data:=#[67,65,84,76]}:ByteArray).toList=[67,65,84,76]:=bj [67,65,84,76]
    have q2:((bs (t.take 4)).toList==({data:=#[67,65,84,76]}:ByteArray).toList)=false:=by rw[q0];exact q1
    have Pk:=tK (sS Sq (fun hh=>g2 hh.2))
    have i2:(4:Int)<=t.length:=_a
    clear Sq g2 g1
    exact M24
  .have d1:decide ((t.length:Int)<12)=true:=_e
   have Pk:=tK (sS Sq (fun hh=>g1 hh.1))
   clear Sq g1
   exact M24
 .have Pk:=tK (AO Sq)
  have aft:(cd != 0)=true:=by simp[bne,hcd]
  clear Sq
  exact M24
end
section
open Go.Proofs.Tryz Go.RowKit Go.Sort Go.Shelf
variable {q:Prop}
theorem AB (a b:List (Int×Int)):NW (a++b)=NW a++NW b:=by unfold NW;simp
def lS (q:Prop) (w:World) (e:Ending) (w':World):Prop:=∃C:Int,e=C/\((C=0/\q)\/(C=110/\¬q))/\NP [] w w'
theorem gI (h:¬q) {w w':World} (k:NP [] w w'):lS q w (.returned (110:Int)) w':=⟨110,rfl,Or.inr ⟨rfl,h⟩,k⟩
theorem xy (h:q) {w w':World} (k:NP [] w w'):lS q w (.returned (0:Int)) w':=⟨0,rfl,Or.inl ⟨rfl,h⟩,k⟩
theorem GV (x y:Int×Int) (W:World):am! 198 #[.agg #[x.1,x.2],.agg #[y.1,y.2]] W fun e w'=>e=(Sl x.1 y.1:Int)/\∃q os',w'=grow (W.drewN q) os':=by
 have UQ:=fun W'=>Ea x.1 y.1 W'
 generalize Sl x.1 y.1=r at UQ ⊢
 go_enter func198,ntmps198
 exact M49
theorem IY (base:Nat) (v:Value) (l:List (Int×Int)) (w:World) (h:w.ownsRow base 128 2 v l.length (NW l)) (hl:l.length<=1000000):
  am! 184 #[v,.func (.func 198) #[] #[]] w (hZ base v l w):=
 Ah 198 base v l w h hl (enters_of func198 _c rfl) GV
theorem M50 {A:Prop}(h:A:=by
 go_wp2_with fail
 rw[Exit.noGoto_ret]
 go_ret
 exact gI HN.out (V6.out.alloc _)):A:=h
theorem Ko (v:Value) (c:au) (Pe jr:Int) (u:Value) (others:List (Int×Int)) (lo hi:Nat) (w:World) (h:dJ w v c) (hlen:c.boxes.length+c.mans.length+c.names.length<=5000) (Q2:(OK c).length<=500000) (hu:af w u others lo hi) (ho:others.length<=100000)
  (Pj:∀a∈OK c++others,aQ a) (hs: -9223372036854775808<=Pe) (hj: -9223372036854775808<=jr/\jr<=9223372036854775807) (S7:∀a∈OK c++others,a.1<=1099511627776/\a.2<=1099511627776/\Pe<=1099511627776):
  am! 125 #[v,Pe,jr,u] w (lS (PB Pe jr (OK c++others)) w):=by
 have ZG:Hid (∀W,NP [] w W->am! 115 #[v] W (bh (OK c) W)):=tK (fun W q=>vV v c W (h.kept0 q) hlen _a)
 have HU:Hid (∀W,NP [] w W->af W u others lo hi):=tK (fun W q=>hu.kept0 q)
 have OZ:Hid ((OK c).length<=500000/\others.length<=100000):=tK ⟨Q2,ho⟩
 have⟨VI,U9⟩:=_f Pj S7
 have HSJ:=tK (And.intro hs hj)
 obtain⟨vb,vm,vn,rfl,hb,hm,hn,_⟩:=h
 obtain⟨p1,c1,rfl⟩:=hb.shape
 obtain⟨p2,c2,rfl⟩:=hm.shape
 obtain⟨p3,c3,rfl⟩:=hn.shape
 obtain⟨pu,cu,rfl⟩:=hu.shape
 obtain⟨R,hR⟩:∃R,OK c=R:=⟨_,rfl⟩
 rw[hR]at ZG OZ VI U9 ⊢
 obtain⟨W1,hW1⟩:∃W1,W1=w.alloc (.cells #[(c.nextBox,()),(c.nextMan,()),(p1,c.boxes.length,c1),(p2,c.mans.length,c2),(p3,c.names.length,c3)] 52):=⟨_,rfl⟩
 have k1:NP [] w W1:=_H
 have oA:ae W1 w #[(c.nextBox,()),(c.nextMan,()),(p1,c.boxes.length,c1),(p2,c.mans.length,c2),(p3,c.names.length,c3)] 52:=_U
 have⟨z0,z1,z2,z3,z4⟩:=oA.k5
 have VF:=tK k1
 have aao:Hid (∀W v' l,l.length<=1000000->W.ownsRow w 128 2 v' l.length (NW l)->am! 184 #[v',.func (.func 198) #[] #[]] W (hZ w v' l W)):=tK (fun W v' l hl hr=>IY w v' l W hr hl)
 unfold bh at ZG
 unfold hZ at aao
 clear Pj S7 hs hj hb hm hn hu ho Q2 hlen hR k1 oA
 go_enter func125,ntmps125
 go_wp2_with fail
 go_step3
 go_wp2_with fail
 rw[<-hW1]
 clear hW1
 refine(ZG.out _ VF.out).mono ?_;rintro e w3 ⟨v3,rfl,r3,k3⟩
 have K3:=tK (VF.out.trans k3)
 have Rn:=tK (aF r3 VF.out.size)
 obtain⟨p3',c3',rfl⟩:=ah r3
 clear r3 k3 z0 z1 z2 z3 z4
 go_wp2_with (at_builtin;go_must (refine gR rfl (.tmp 15) (.tmp 16) rfl w _ _ _ rfl Rn.out _ others lo hi rfl (HU.out _ K3.out) (by have:=OZ.out;unfold maxLen;omega) (by have:=OZ.out;omega) K3.out.size ?_))
 intro v6 w6 o6 Po
 have K6:=tK (K3.out.grown Po (fun q hq=>Or.inr (ML Rn.out q hq).1))
 rw[<-AB,<-tN]at o6
 have ZZ:(R++others).length<=600000:=by rw[tN];have:=OZ.out;omega
 clear Po Rn HU ZG
 generalize R++others=l at*
 have Tx:=tK o6
 obtain⟨p,cc,rfl⟩:=ah o6
 have H:=tK (af.bB o6)
 have Tg:(l.length:Int)<=600000:=_a
 have HL1:=tK ZZ
 clear o6 ZZ
 go_wp2_with fail
 go_step3
 go_wp2_with fail
 go_loopw [10,20] (fun u i wr=>∃k:Nat,k<=l.length/\u=(0:Int)/\i=(k:Int)/\(∀j (hj:j<l.length),j<k->lR Pe jr l[j])/\NP [] w6 wr) (fun _ i _=>l.length-(intOf i).toNat)
 case atStart=>exact⟨0,Nb _,rfl,rfl,fun j hj h=>absurd h (Nat.not_lt_zero j),NP.refl _ _⟩
 case round=>
  obtain⟨k,hk,rfl,rfl,hM,hK⟩:=hrel
  rename World=>wr
  by_cases NV:k<l.length
  .obtain⟨b,off,rfl,c0,c1,hb,hlc,PT⟩:=(H.out.kept0 hK).at_ k NV
   have UB:=VI.out l[k] (MJ NV)
   have Uj:=U9.out l[k] (MJ NV)
   have OF:= @uZ Pe jr l k NV
   have UU:lR Pe jr l[k]->∀j (hj:j<l.length),j<k+1->lR Pe jr l[j]:=fun h1 j hj hjk=>by
    by_cases e:j=k
    .subst e;exact h1
    .exact hM j hj _a
   have i1:(k:Int)<l.length:=_a
   have⟨Of,Pk,Su,HK⟩:=gh! NV OF UU hK
   have V6:=tK (K6.out.trans hK)
   clear OF UU hM hK hk
   generalize l[k]=X at*
   obtain⟨x0,xn⟩:=X
   obtain⟨w1,w2,XU,w4⟩:=UB
   simp only at c0 c1 w1 w2 XU w4 Uj
   unfold lR at Pk Su
   simp only at Pk Su
   have hq:=HSJ.out
   have E1:2<=x0->IntKind.i64.wrap (x0-2)=x0-2:=fun _=>IntWalk.i64_in _ _a
   have E2:2<=x0->x0<=Pe->IntKind.i64.wrap (Pe-x0)=Pe-x0:=fun _ _=>IntWalk.i64_in _ _a
   clear hq
   rcases(by omega:xn<1\/(1<=xn/\x0<2)\/(1<=xn/\2<=x0/\x0-2<jr)\/(1<=xn/\2<=x0/\jr<=x0-2/\Pe<x0)\/(1<=xn/\2<=x0/\jr<=x0-2/\x0<=Pe/\Pe-x0<xn)\/(1<=xn/\2<=x0/\jr<=x0-2/\x0<=Pe/\xn<=Pe-x0))with g1|⟨g1,g2⟩|⟨g1,g2,g3⟩|⟨g1,g2,g3,g4⟩|⟨g1,g2,g3,g4,g5⟩|⟨g1,g2,g3,g4,g5⟩
   .have HN:=tK (Pk.out _a)
    have d1:decide (xn<1)=true:=_e
    clear E1 E2 g1 w1 w2 XU w4 Uj
    exact M50
   .have HN:=tK (Pk.out _a)
    have d1:decide (xn<1)=false:=_e
    have d2:decide (x0<2)=true:=_e
    clear E1 E2 g1 g2 w1 w2 XU w4 Uj
    exact M50
   .have HN:=tK (Pk.out _a)
    have d1:decide (xn<1)=false:=_e
    have d2:decide (x0<2)=false:=_e
    have e1:=E1 g2
    have d3:decide (x0-2<jr)=true:=_e
    clear E1 E2 g1 g2 g3 w1 w2 XU w4 Uj
    exact M50
   .have HN:=tK (Pk.out _a)
    have d1:decide (xn<1)=false:=_e
    have d2:decide (x0<2)=false:=_e
    have e1:=E1 g2
    have d3:decide (x0-2<jr)=false:=_e
    have d4:decide (Pe<x0)=true:=_e
    have d4':decide (x0>Pe)=true:=_e
    clear E1 E2 g1 g2 g3 g4 w1 w2 XU w4 Uj
    exact M50
   .have HN:=tK (Pk.out _a)
    have d1:decide (xn<1)=false:=_e
    have d2:decide (x0<2)=false:=_e
    have e1:=E1 g2
    have d3:decide (x0-2<jr)=false:=_e
    have e2:=E2 g2 g4
    have d4:decide (Pe<x0)=false:=_e
    have d4':decide (x0>Pe)=false:=_e
    have d5:decide (Pe-x0<xn)=true:=_e
    have d5':decide (xn>Pe-x0)=true:=_e
    clear E1 E2 g1 g2 g3 g4 g5 w1 w2 XU w4 Uj
    exact M50
   .have Ye:=tK (Su.out _a)
    have d1:decide (xn<1)=false:=_e
    have d2:decide (x0<2)=false:=_e
    have e1:=E1 g2
    have d3:decide (x0-2<jr)=false:=_e
    have e2:=E2 g2 g4
    have d4:decide (Pe<x0)=false:=_e
    have d4':decide (x0>Pe)=false:=_e
    have d5:decide (Pe-x0<xn)=false:=_e
    have d5':decide (xn>Pe-x0)=false:=_e
    clear E1 E2 g1 g2 g3 g4 g5 w1 w2 XU w4 Uj
    go_wp2_with fail
    go_roundw
    case rel=>exact⟨k+1,Of.out,rfl,_j,Ye.out,HK.out.alloc _⟩
    case measure=>(have hh:=Of.out;simp[intOf];omega)
  .obtain rfl:k=l.length:=_a
   have QH:Hid (∀a∈l,lR Pe jr a):=tK (fun a ha=>by
    obtain⟨j,hj,rfl⟩:=Nr.1 ha
    exact hM j hj hj)
   have HK:=tK hK
   have V6:=tK (K6.out.trans hK)
   have UX:=tK (ax Tx.out hK _b)
   have i1:¬(l.length:Int)<l.length:=_a
   clear hM hK NV hk
   go_wp2_with fail
   refine(aao.out _ _ l (by have:=HL1.out;omega) UX.out).mono ?_;rintro e w7 ⟨rfl,l',Qi,hris,NU,hkt⟩
   have K7:=tK (nK V6.out (fun g hg=>(ML UX.out g hg).1) hkt)
   have YX:=Qi.length_eq
   have HQ:Hid (PB Pe jr l'↔PB Pe jr l):=tK (Bb Qi)
   have Xk:Hid (∀a∈l',lR Pe jr a):=tK (fun a ha=>QH.out a (Qi.mem_iff.1 ha))
   have YY:=tK hris
   have acC:Hid (∀a∈l',a.1<=1099511627776/\a.2<=1099511627776):=tK (fun a ha=>⟨(U9.out a (Qi.mem_iff.1 ha)).1,(U9.out a (Qi.mem_iff.1 ha)).2.1⟩)
   have HR7:=tK (af.bB NU)
   obtain⟨n,hn⟩:∃n,l.length=n:=⟨_,rfl⟩
   have HLL:Hid (l'.length=n):=tK (by rw[YX,hn])
   have VJ:Hid (n<=600000):=tK (by rw[<-hn];exact HL1.out)
   rw[hn]at Tg HR7
   rw[hn]
   clear Qi hris NU hkt YX UX V6 H Tx hn i1
   go_wp2_with fail
   go_loopw [13] (fun i wr=>∃m:Nat,1<=m/\i=(m:Int)/\(∀j (hj:j+1<l'.length),j+1<m->l'[j].1+l'[j].2<=l'[j+1].1)/\m<=n+1/\NP [] w7 wr) (fun i _=>n+1-(intOf i).toNat)
   case atStart=>exact⟨1,MG _,rfl,fun j hj h=>absurd h _a,_a,NP.refl _ _⟩
   case round=>
    obtain⟨m,hm,rfl,hM,ZX,hK⟩:=hrel
    rename World=>wr
    by_cases NV:m<n
    .obtain⟨q,rfl⟩:∃q,m=q+1:=⟨m-1,_a⟩
     have Zv:q+1<l'.length:=by rw[HLL.out];exact NV
     obtain⟨b,off,rfl,c0,c1,hb,hlc,PT⟩:=(HR7.out.kept0 hK).at_ (q+1) Zv
     have⟨b',off',e',d0,d1,_⟩:=(HR7.out.kept0 hK).at_ q _a
     injection e' with e'
     injection e' with e1 e2 _
     subst e1 e2
     have OF:=fun h=>mt HQ.out.2 (Bc Zv YY.out h)
     have UU:l'[q].1+l'[q].2<=l'[q+1].1->∀j (hj:j+1<l'.length),j+1<q+1+1->l'[j].1+l'[j].2<=l'[j+1].1:=fun h1 j hj hjk=>by
      by_cases e:j=q
      .subst e;exact h1
      .exact hM j hj _a
     have aa3:=Xk.out l'[q] (MJ _)
     have acd:=acC.out l'[q] (MJ _)
     have⟨Pk,Su,Of,HK⟩:=gh! OF UU NV hK
     have Un:=tK (K7.out.trans hK)
     have PC:((q+1:Nat):Int)<n:=_a
     have QZ:(q:Int)<n:=_a
     have E1:IntKind.i64.wrap (((q+1:Nat):Int)-1)=(q:Int):=by have:=VJ.out;rw[IntWalk.i64_in _ _a];omega
     clear OF UU hM hK hm ZX
     generalize l'[q+1]=X at*
     generalize l'[q]=Y at*
     obtain⟨x0,xn⟩:=X
     obtain⟨y0,yn⟩:=Y
     unfold lR at aa3
     simp only at c0 c1 d0 d1 aa3 acd Pk Su
     have E2:IntKind.i64.wrap (y0+yn)=y0+yn:=IntWalk.i64_in _ _a
     have HLM:Hid (q+1<n):=tK NV
     obtain⟨m,hme⟩:∃m,q+1=m:=⟨_,rfl⟩
     have HME:=tK hme
     rw[hme]at c0 c1 PC E1 NV
     rw[hme]
     clear hme aa3 acd
     by_cases g1:x0<y0+yn
     .have t1:decide (x0<y0+yn)=true:=MV g1
      have HN:=tK (Pk.out g1)
      clear g1
      go_wp2_with fail
      go_quiet (fail)
      go_wp2_with fail
      rw[Exit.noGoto_ret]
      go_ret
      exact gI HN.out (Un.out.drewN _)
     .have t1:decide (x0<y0+yn)=false:=MS g1
      have HN:=tK (Su.out _a)
      clear g1
      go_wp2_with fail
      go_quiet (fail)
      go_wp2_with fail
      go_roundw
      case rel=>exact⟨m+1,_a,_j,by rw[<-HME.out];exact HN.out,by have:=HLM.out;have:=HME.out;omega,HK.out.drewN _⟩
      case measure=>(have hh:=HLM.out;have:=HME.out;simp[intOf];omega)
    .have Wv:Hid (PB Pe jr l):=tK (HQ.out.1 (xz YY.out Xk.out (fun j hj=>hM j hj (by have:=HLL.out;omega))))
     have Un:=tK (K7.out.trans hK)
     have i1:¬(m:Int)<n:=_a
     clear hM hK NV hm ZX
     go_wp2_with fail
     (try rw[Exit.noGoto_ret])
     go_ret
     exact xy Wv.out Un.out
end
open Go.Proofs.Tryz Go.RowKit
variable {w w':World} {v:Value} {lo hi:Nat}
theorem cE.small {k:Int} {l:List NS} {most:Nat} (h:cE k l most) (hm:most<=1000000):jk l:=⟨Nk h.1 hm,fun a ha=>by
 have:=nH (h.2.1 a ha)
 have e:(a.told k).runs=a.runs:=rfl
 rw[e]at this;omega⟩
theorem OL.small {c:au} (h:OL c):ie c:=⟨h.boxes.small _d,h.mans.small _d,h.names.small _d⟩
def VC.fits (x:VC):Prop:=(Lit.int .i64 x.kind).wf=true/\(Lit.int .u32 x.id).wf=true/\x.name.length<=maxLen/\x.bytes.length<=1048576
def IU (_:World) (cs:List Value) (x:VC):Prop:=cs=[.int .i64 x.kind,.int .u32 x.id,.string (bs x.name),.string (bs x.bytes)]/\x.fits
def gC (w:World) (v:Value) (l:List VC) (lo hi:Nat):Prop:=bS 4 IU w v l lo hi
variable {l:List VC}
theorem gC.kept {S:List Nat} (h:gC w v l lo hi) (k:NP S w w') (hS:∀x∈S,x<lo\/hi<=x):gC w' v l lo hi:=bS.kept h k hS (fun _ _ h=>h)
theorem gC.kept0 (h:gC w v l lo hi) (k:NP [] w w'):gC w' v l lo hi:=h.kept k (fun x hx=>by cases hx)
theorem gC.at_ {p:Option Addr} {n c:Nat} (h:gC w (p,n,c) l lo hi) (i:Nat) (hi':i<l.length):
  ∃b off,p=some ⟨b,off,none⟩/\w.cell? ⟨b,off+i*4,none⟩=some (.int .i64 l[i].kind)/\w.cell? ⟨b,off+i*4+1,none⟩=some (.int .u32 l[i].id)/\w.cell? ⟨b,off+i*4+2,none⟩=some (.string (bs l[i].name))/\w.cell? ⟨b,off+i*4+3,none⟩=some (.string (bs l[i].bytes))/\b<w.heap.size/\l[i].fits:=by
 obtain⟨b,off,cs,e1,e2,⟨rfl,e4⟩,e6,e7,e8,e9⟩:=bS.at_ h i hi'
 exact⟨b,off,e1,e6 0 _ rfl,e6 1 _ rfl,e6 2 _ rfl,e6 3 _ rfl,_a,e4⟩
theorem Gh (s:List UInt8):(bs s).toList.isEmpty=s.isEmpty:=by
 rw[bj]
theorem kL (w:World) (l:List Value) (t:TypeId):∀(j:Nat) (u:Value),l[j]? =some u->(w.alloc (.cells l.toArray t)).cell? (Addr.add w j)=some u:=by
 intro j u hj
 have:=World.news_of_block (Ns w (.cells l.toArray t))
 exact this j u A!
theorem wP {x:VC} (h:x.fits):x.told.fits:=⟨h.1,h.2.1,h.2.2.1,by show(Lit.int .i64 0).wf=true;decide⟩
theorem Gl (p:VC->Bool) (l:List VC) (k:Nat) (h:k<l.length):(l.take (k+1)).all p=((l.take k).all p&&p l[k]):=by
 rw[MI h,List.all_append];simp
theorem Kj (p:VC->Bool) (l:List VC) (k:Nat) (h:k<l.length) (hp:p l[k]=false):l.all p=false:=by
 rw[List.all_eq_false]
 exact⟨_,MJ h,by rw[hp];simp⟩
def pX (C:Int) (w:World) (e:Ending) (w':World):Prop:=e=C/\NP [] w w'
theorem I2 {T:List Nat} {B b sb mb:Nat} {v:VS} (vl:Value) (l:List VC) (PU PC:Nat) (hV:aL T w B b sb mb lo v) (hc:OL v.c) (hl:gC w vl l PU PC):
  am! 43 #[B,vl] w (pX (P5 v.c l) w):=by
 have⟨sv,vb,vm,vn,o,hr,Oz⟩:=hV.vol
 have HO:Hid (∀W,NP [] w W->ae W B (bL b v.s sv v.c vb vm vn v.dead) 90):=tK (fun W k=>k.own o _b)
 have SG:Hid (∀W rv lo2 QZ,NP [] w W->bX W rv (l.map VC.told) lo2 QZ->am! 45 #[.agg #[(v.c.nextBox,()),(v.c.nextMan,()),vb,vm,vn],rv] W (dC (fun _=>False) (N8 v.c (l.map VC.told)) W)):=tK (fun W rv lo2 QZ k Qh=>
  sf (S0:=fun _=>False) _ v.c rv _ lo2 QZ W ((av.kept0 Oz k).cI (fun x hx=>hx.elim)) (fun x hx=>hx.elim) hc.small Qh (fun r hr a ha=>by
   obtain⟨x,hx,rfl⟩:=ND.1 hr
   cases ha) (fun r hr=>by
   obtain⟨x,hx,rfl⟩:=ND.1 hr
   exact Nb _))
 have HL:=tK hl
 obtain⟨p1,c1,rfl⟩:=bS.shape hl
 have hlm:=bS.len hl
 unfold maxLen at hlm
 clear hV hc hl hr Oz
 unfold pX
 by_cases hn:l.length<1\/8192<l.length
 .have hw:P5 v.c l=3:=by unfold P5;rw[if_pos hn]
  rw[hw]
  rcases(by omega:(l.length:Int)<1\/(1<=(l.length:Int)/\8192<(l.length:Int)))with h1|⟨h1,h2⟩
  all_goals
   clear hn
   go_enter func43,ntmps43
   go_wp2_with fail
   go_ret
   exact⟨rfl,NP.refl _ _⟩
 .have n1:1<=(l.length:Int):=_a
  have n2:(l.length:Int)<=8192:=_a
  have HW:Hid (P5 v.c l=if l.all (fun x=>Oj x.kind||x.bytes.isEmpty)then(N8 v.c (l.map VC.told)).2 else 1):=tK (by unfold P5;rw[if_neg hn])
  clear hn hlm
  generalize P5 v.c l=WX at*
  generalize Qf:N8 v.c (l.map VC.told)=AP at*
  clear Qf
  have⟨x0,x1,x2,x3,x4,x5,x6,x7,x8,x9,x10,x11,x12⟩:=o.ku
  clear x0 x1 x2 x3 x4 x5 x6 x12 o
  go_enter func43,ntmps43
  go_wp2_with fail
  go_loopw [5,7,20] (fun rv x i wr=>∃k:Nat,k<=l.length/\i=(k:Int)/\(l.take k).all (fun x=>Oj x.kind||x.bytes.isEmpty)=true/\aI w wr rv ((l.take k).map VC.told)/\NP [] w wr) (fun _ _ i _=>l.length-(intOf i).toNat)
  case atStart=>exact⟨0,Nb _,rfl,rfl,aI.nil _ _,NP.refl _ _⟩
  case round=>
   obtain⟨k,hk,rfl,P9,PH,hK⟩:=hrel
   by_cases NV:k<l.length
   .have i1:(k:Int)<l.length:=_a
    obtain⟨bl,ol,rfl,r0,r1,r2,r3,Uq,Oq⟩:=gC.at_ (HL.out.kept0 hK) k NV
    have Qu:=Gl (fun x=>Oj x.kind||x.bytes.isEmpty) l k NV
    have OF:=Kj (fun x=>Oj x.kind||x.bytes.isEmpty) l k NV
    have acV:(l.take (k+1)).map VC.told=(l.take k).map VC.told++[l[k].told]:=by rw[MI NV,M0];rfl
    have hlen:((l.take k).map VC.told).length=k:=by rw[MP,MO];omega
    rw[P9,Bool.true_and]at Qu
    have⟨UA,Pk,aeL,OZ,Of⟩:=gi! Qu OF acV hlen NV
    have HF:=tK (wP Oq)
    have⟨HK,HR⟩:=_f hK PH
    obtain⟨p6,c6,rfl⟩:=PH.shape
    rw[hlen]
    clear P9 Qu OF acV hlen Oq PH hK hk
    generalize hX:l[k]=X at*
    clear hX NV
    obtain⟨xk,xi,xn,xb⟩:=X
    simp only at*
    have HCO:Hid (∀W,am! 47 #[xk] W fun e w'=>e=.returned (.bool (Oj xk))/\W=w'):=tK (fun W=>wg xk W)
    have WA:=Gh xb
    have oX:=ae.new wr #[xk,(xi,()),xn,xb] 34
    have⟨z0,z1,z2,z3⟩:=oX.c4
    have HKX:=tK (HK.out.alloc (.cells #[xk,(xi,()),xn,xb] 34))
    have HRX:=tK (HR.out.kept0 ((NP.refl [] wr).alloc (.cells #[xk,(xi,()),xn,xb] 34)))
    have QC:Hid (∀W,am! 95 #[.agg #[xk,(xi,()),xn,xb]] W fun e w'=>e=.returned (.agg #[xk,(xi,()),xn,(0:Int),()])/\NP [] W w'):=tK (fun W=>yZ ⟨xk,xi,xn,xb⟩ W)
    clear oX
    have RY:Hid (Oj xk=false->xb.isEmpty=false->WX=1):=tK (fun h1 h2=>by rw[HW.out,Pk.out (by rw[h1,h2];rfl)];rfl)
    have Zk:Hid ((Oj xk||xb.isEmpty)=true->(l.take (k+1)).all (fun x=>Oj x.kind||x.bytes.isEmpty)=true):=tK (fun h=>by rw[UA.out];exact h)
    clear UA Pk
    go_wp2_with fail
    refine(HCO.out _).mono ?_;rintro e w2 ⟨rfl,rfl⟩
    generalize Oj xk=KB at*
    generalize xb.isEmpty=EB at*
    have hgo:Hid ((KB||EB)=true->True):=tK (fun _=>trivial)
    cases KB<;>cases EB
    case false.false=>
     have T9:=tK (RY.out rfl rfl)
     go_wp2_with fail
     go_ret
     exact⟨by rw[T9.out];rfl,HKX.out⟩
    all_goals
     have HG:=tK (Zk.out rfl)
     clear RY Zk HCO
     go_wp2_with fail
     refine(QC.out _).mono ?_;rintro e w3 ⟨rfl,k3⟩
     have Xi:=tK (HKX.out.trans k3)
     have ZJ:=tK (HRX.out.kept0 k3)
     have UC:=HRX.out.kept0 k3
     obtain⟨vs,hvs,NU,heach⟩:=UC
     rw[OZ.out]at NU
     have⟨HVS,Pm,VD⟩:=gg! hvs NU heach
     obtain⟨i0,q0,q1,q2,q3⟩:=jB
     have m3:k+1<=maxLen:=by have:=Of.out;unfold maxLen;omega
     have m4:(k+1)*64<=140737488355328:=Y!
     have adS:w.heap.size<=w3.heap.size:=Xi.out.size
     clear k3 hvs NU heach
     go_wp2_with (at_builtin;go_must (refine MT _ rfl (.tmp 33) (.tmp 36) 92 rfl w 102 i0 (.agg #[(0:Int),.int .u32 0,.string {data:=#[]},(0:Int),()]) 5 64 underlying92 q0 q1 q2 q3 rfl _d _ _ _ rfl (MH Pm.out _) w3 1 1 [.int .i64 xk,.int .u32 xi,.string (bs xn),.int .i64 0,.slice none 0 0] rfl rfl ?_ ?_ m3 m4 ?_ ?_))
     .exact kL _ _ _
     .intro u hu;simp at hu;rcases hu with rfl|rfl|rfl|rfl|rfl<;>rfl
     .simp<;>omega
     intro v6 w6 o6 Po _ _
     have T3:=Pm.out
     have TA:aI w w6 v6 ((l.take (k+1)).map VC.told):=by
      rw[aeL.out]
      exact aI.more HVS.out VD.out (by rw[OZ.out];exact T3) (Nf _ _ _ _) HF.out Po (by rw[OZ.out];exact o6)
     have Q7:NP [] w w6:=(Xi.out.alloc _).grown Po (fun q hq=>Or.inr (ML T3 q hq).1)
     have⟨RA,Tl⟩:=_f TA Q7
     clear TA Q7 T3 o6 Po
     go_wp2_with fail
     go_roundw
     case rel=>exact⟨k+1,Of.out,_j,HG.out,RA.out,Tl.out⟩
     case measure=>(have hh:=Of.out;simp[intOf]<;>omega)
   .obtain rfl:k=l.length:=_a
    rw[MU]at P9 PH
    obtain⟨p6,c6,rfl⟩:=PH.shape
    have HA:=tK (SG.out wr _ _ _ hK PH.oI)
    have HC:=tK (HW.out.trans (by rw[P9]))
    have HK:=tK hK
    have i1:¬((l.length:Nat):Int)<l.length:=_a
    have⟨_,_,_,_,_,_,_,a7,a8,a9,a10,a11,_⟩:=(HO.out _ hK).ku
    rw[MP]
    rw[MP]at HA
    unfold dC at HA
    clear P9 PH hK
    go_wp2_with fail
    refine HA.out.mono ?_;rintro e w4 ⟨vc,rfl,hcat4,k4⟩
    obtain⟨vb4,vm4,vn4,rfl,j1,j2,j3,_⟩:=hcat4
    obtain⟨r1,e1,rfl⟩:=j1.plain.shape
    obtain⟨r2,e2,rfl⟩:=j2.plain.shape
    obtain⟨r3,e3,rfl⟩:=j3.plain.shape
    clear j1 j2 j3
    have Ro:=tK (HK.out.trans k4)
    clear k4
    go_wp2_with fail
    go_ret
    exact⟨by rw[HC.out];rfl,Ro.out.alloc _⟩

/- -/
import Derived.Test.YtdkimcnlhmhpgaaGreatK36
import Derived.Test.YtdkimcnlhmhpgaaGreatK37
set_option maxHeartbeats 16000000
set_option maxRecDepth 100000
set_option linter.unusedVariables false
namespace Go.Proofs.YtdkimcnlhmhpgaaGreat
open Go.RowKit
variable {s:List UInt8} {w w' w1:World} {v:Value} {ls:List (List ag)} {base bx:Nat} {nb nm:Int} {A:Prop} {B C:List Nf}
def jV (s:List UInt8) (w:World) (e:Ending) (w':World):Prop:=
 ((∃c v,aM c/\jf c/\dz c=s/\aw (fun x=>x<w.heap.size) w' v c/\e=.returned (.tuple #[v,.int .i64 0]))\/(jZ s/\e=.returned (.tuple #[.agg #[.int .u32 0,.int .u32 0,.slice none 0 0,.slice none 0 0,.slice none 0 0],.int .i64 110])))/\aa [] w w'
theorem jl (h:jZ s) (k:aa [] w w'):jV s w (.returned (.tuple #[.agg #[.int .u32 0,.int .u32 0,.slice none 0 0,.slice none 0 0,.slice none 0 0],.int .i64 110])) w':=⟨Or.inr ⟨h,rfl⟩,k⟩
theorem Gs {c:aj} (h1:aM c) (h2:dz c=s) (h3:aw (fun x=>x<w.heap.size) w' v c) (k:aa [] w w'):jV s w (.returned (.tuple #[v,.int .i64 0])) w':=⟨Or.inl ⟨c,v,h1,h3.plain.fit,h2,h3,rfl⟩,k⟩
theorem DT (k:Int) (l:List ag):(aY k l).length<=l.length:=by
 unfold aY;rw[Mm];exact List.length_filter_le _ _
theorem vV (l:List ag):(aY 1 l).length+(aY 2 l).length+(aY 3 l).length<=l.length:=by
 induction l with
 |nil=>simp[aY]
 |cons a l ih=>
  have e:∀k,aY k (a::l)=aY k [a]++aY k l:=fun k=>lQ k [a] l
  simp only[e,Mc,Mz]
  have:(aY 1 [a]).length+(aY 2 [a]).length+(aY 3 [a]).length<=1:=by
   unfold aY
   by_cases h1:a.kind=1
   .simp[h1]
   .by_cases h2:a.kind=2
    .simp[h2]
    .by_cases h3:a.kind=3
     .simp[h3]
     .simp[h1,h2,h3]
  omega
theorem DS {k:Int} {l:List ag} {a:Nf} (h:a∈aY k l):∃r∈l,r.item=a:=by
 unfold aY at h
 obtain⟨r,hr,rfl⟩:=MV.1 h
 exact⟨r,(List.mem_filter.1 hr).1,rfl⟩
theorem Ci {u:List UInt8} (h:∀l∈ls,∀r∈l,az r=true) (hl:ls.flatten.length<=3000):iq (Q5 u ls)/\(Q5 u ls).boxes.length+(Q5 u ls).mans.length+(Q5 u ls).names.length<=3000:=by
 have hs:∀k,kj (aY k ls.flatten):=fun k=>⟨by have:=DT k ls.flatten;omega,fun a ha=>by
  obtain⟨r,hr,rfl⟩:=DS ha
  obtain⟨l,hl,hr⟩:=List.mem_flatten.1 hr
  have:=lN (h l hl r hr)
  show r.runs.length<=_
  omega⟩
 exact⟨⟨hs 1,hs 2,hs 3⟩,MA (vV _) hl⟩
theorem xq {e:TypeId} {size n:Nat} {xs:List Value} (h:w.ownsRow base e size v n xs) (m:Nat):bJ (fun x=>x<base) v m:=by
 intro g off sp n' c hv _ Ns
 rcases h.2 with⟨rfl,_⟩|⟨g',cap,cur,rfl,hb,_⟩
 .cases hv
 .injection hv with hv
  injection hv with hv
  injection hv with hv
  subst hv
  omega
theorem gK.FD {va vb vc:Value} {xs ys zs:List (Nf×Value)} (h:gK base w va vb vc xs ys zs):ax (fun x=>x<base) w va (xs.map (·.1)):=
 ⟨xs,rfl,cj.bo h.ra,fun x hx=>⟨(h.ia x hx).ok,xq (h.ia x hx).1 _⟩,xq h.ra _⟩
theorem gp.cat {A:List Nf} (h:gp w1 w bx nb nm A B C) (hb:(Lit.int .u32 nb).wf=true) (hm:(Lit.int .u32 nm).wf=true):
  ∃va vb vc,(iF va/\iF vb/\iF vc)/\ae w bx #[.int .u32 nb,.int .u32 nm,va,vb,vc] 52/\aa [bx] w1 w/\(∀w',aa [] w w'->aw (fun x=>x<w1.heap.size) w' (.agg #[.int .u32 nb,.int .u32 nm,va,vb,vc]) ⟨nb,nm,A,B,C⟩/\∀g cs,ae w' g cs 52->∀a b c d e,aw (fun x=>x<w1.heap.size) (((((w'.setCell ⟨g,0,none⟩ a).setCell ⟨g,1,none⟩ b).setCell ⟨g,2,none⟩ c).setCell ⟨g,3,none⟩ d).setCell ⟨g,4,none⟩ e) (.agg #[.int .u32 nb,.int .u32 nm,va,vb,vc]) ⟨nb,nm,A,B,C⟩):=by
 obtain⟨va,vb,vc,xs,ys,zs,o,r3,e1,e2,e3,k⟩:=h
 have hc:∀W,gK w1.heap.size W va vb vc xs ys zs->aw (fun x=>x<w1.heap.size) W (.agg #[.int .u32 nb,.int .u32 nm,va,vb,vc]) ⟨nb,nm,A,B,C⟩:=fun W r=>by
  have i1:=r.FD
  have i2:=r.eB.FD
  have i3:=r.eB.eB.FD
  rw[e1]at i1
  rw[e2]at i2
  rw[e3]at i3
  exact⟨va,vb,vc,rfl,i1,i2,i3,hb,hm⟩
 have Px:∀{v:Value} {n:Nat} {us:List Value},w.ownsRow w1.heap.size 113 4 v n us->iF v:=fun h=>by
  obtain⟨p,c,rfl⟩:=ai h
  exact⟨_,_,_,rfl⟩
 refine⟨va,vb,vc,⟨Px r3.ra,Px r3.rb,Px r3.rc⟩,o,k,fun w' q=>⟨hc _ (r3.kept0 q),fun g cs og a b c d e=>hc _ ?_⟩⟩
 exact(((((r3.kept0 q).set og 0 a).set (og.set 0 a) 1 b).set ((og.set 0 a).set 1 b) 2 c).set (((og.set 0 a).set 1 b).set 2 c) 3 d).set ((((og.set 0 a).set 1 b).set 2 c).set 3 d) 4 e
theorem gp.kept0 {A:List Nf} (h:gp w1 w bx nb nm A B C) (k:aa [] w w'):gp w1 w' bx nb nm A B C:=by
 obtain⟨va,vb,vc,xs,ys,zs,o,r3,e1,e2,e3,kk⟩:=h
 exact⟨va,vb,vc,xs,ys,zs,k.own o (by simp),r3.kept0 k,e1,e2,e3,kk.trans (k.mono (fun x hx=>by cases hx))⟩
theorem dZ.at_ {w0:World} {ll:List (List ag)} (h:dZ w0 w v ll) (i:Nat) (hi:i<ll.length):
  ∃b off kv c,v=.slice (some ⟨b,off,none⟩) ll.length c/\∀W S,aa S w W->l9 w0 w S->W.cell? ⟨b,off+i,none⟩=some kv/\aP w0 W kv ll[i]:=by
 obtain⟨vs,rfl,h2,h3⟩:=h
 have hi':i<vs.length:=by simpa using hi
 obtain⟨g,c,rfl,g1,g2,g3,g4,g5⟩:=fQ h2 (by simp;omega)
 refine⟨g,0,vs[i].2,c,rfl,fun W S k hS=>⟨?_,?_⟩⟩
 .have hr:=dS h2 k (fun x hx hb cs hc=>by
   rcases hS x hx with h1|⟨UJ,t,o,_,_,ht⟩
   .omega
   .exact ht (nh o hc))
  obtain⟨g',c',e,_,_,_,_,g5'⟩:=fQ hr (by simp;omega)
  injection e with e
  injection e with e
  injection e with e
  subst e
  rw[Nat.zero_add]
  refine g5' i _ ?_
  simp[hi']
 .rw[MZ]
  exact(h3 _ (Mh hi')).kept k hS.recs
theorem gp.start (o:ae w1 bx #[.int .u32 nb,.int .u32 nm,.slice none 0 0,.slice none 0 0,.slice none 0 0] 52):gp w1 w1 bx nb nm [] [] []:=
 ⟨_,_,_,[],[],[],o,gK.nil _ _,rfl,rfl,rfl,aa.refl _ _⟩
theorem wg {k:Nat} (hk:k<ls.length):(ls.take (k+1)).flatten=(ls.take k).flatten++ls[k]:=by
 rw[Mf hk,MR];simp
theorem Ap (l:List UInt8) (x:Int):(Lit.int .u32 ((Ny 4 l x).1:Int)).wf=true:=by
 have:(Ny 4 l x).1<4294967296:=dB 4 l x
 exact jc (by omega) (by omega)
theorem M35 (h:A:=by
 obtain⟨y0,y1,y2,y3,y4⟩:=OA7.out.k5
 obtain⟨g0,g1,g2,g3,g4⟩:=OA7.out.y5
 go_wp2_with fail
 refine Mx (v:=.tuple #[.agg #[.int .u32 0,.int .u32 0,.slice none 0 0,.slice none 0 0,.slice none 0 0],.int .i64 110]) (ak Tryz.results193 rfl rfl (t:=52) ?_ Tryz.underlying52 rfl (by kernel_rfl)) rfl ?_
 .exact OA7.out.de _ _ _ _ _
 .exact jl Pk.out (aa.bj K7.out (Or.inr (Md _)) _ _ _ _ _)):A:=h
theorem M23 (h:A:=by
 obtain⟨y0,y1,y2,y3,y4⟩:=UA.out.k5
 obtain⟨g0,g1,g2,g3,g4⟩:=UA.out.y5
 go_wp2_with fail
 refine Mx (v:=.tuple #[.agg #[.int .u32 0,.int .u32 0,.slice none 0 0,.slice none 0 0,.slice none 0 0],.int .i64 110]) (ak Tryz.results193 rfl rfl (t:=52) ?_ Tryz.underlying52 rfl (by kernel_rfl)) rfl ?_
 .exact UA.out.de _ _ _ _ _
 .exact jl Pk.out (aa.bj K2.out (Or.inr (Md _)) _ _ _ _ _)):A:=h
theorem M22 (h:A:=by
 obtain⟨y0,y1,y2,y3,y4⟩:=ZI.out.k5
 obtain⟨g0,g1,g2,g3,g4⟩:=ZI.out.y5
 go_wp2_with fail
 refine Mx (v:=.tuple #[.agg #[.int .u32 0,.int .u32 0,.slice none 0 0,.slice none 0 0,.slice none 0 0],.int .i64 110]) (ak Tryz.results193 rfl rfl (t:=52) ?_ Tryz.underlying52 rfl (by kernel_rfl)) rfl ?_
 .exact ZI.out.de _ _ _ _ _
 .exact jl Pk.out (aa.bj K9.out (Or.inr (Md _)) _ _ _ _ _)):A:=h
theorem LO (s:List UInt8) (w:World) (hs:s.length<=1000000) (HL:∀t ls,fh s=some t->N9 (t.drop 12)=some ls->∀l∈ls,l.length<=3000):
  Calls Tryz.prog 193 #[.string (bs s)] w (jV s w):=by
 have HOP:Hid (∀W,Calls Tryz.prog 245 #[.string (bs s)] W (km s W)):=Mb (fun W=>Lq s W hs)
 have HLL:=Mb HL
 have HS:=Mb hs
 have oA0:=ae.new w #[.int .u32 0,.int .u32 0,.slice none 0 0,.slice none 0 0,.slice none 0 0] 52
 have OA0:=Mb oA0
 have K0:Hid (aa [] w (w.alloc (.cells #[.int .u32 0,.int .u32 0,.slice none 0 0,.slice none 0 0,.slice none 0 0] 52))):=Mb ((aa.refl _ _).alloc _)
 clear oA0 HL hs
 go_enter Tryz.func193,Tryz.ntmps193
 go_wp2_with fail
 refine(HOP.out _).mono ?_;rintro e w2 ⟨Qk,k2⟩
 have K2:=Mb (K0.out.trans k2)
 have UA:=Mb (k2.own OA0.out (by simp))
 clear k2
 rcases Qk with⟨t,Qk,rfl⟩|⟨Qk,cd,hcd,rfl⟩
 .have Vm:t.length<=1000000:=by
   have e:=Dw Qk
   have:=congrArg List.length e
   unfold eR at this
   rw[Mc]at this
   have:=HS.out;omega
  have hz:((bs t).size:Int)=t.length:=by rw[Nj]
  have P8:(bs t).size=t.length:=Nj t
  by_cases g1:12<=t.length
  .have d1:decide ((t.length:Int)<12)=false:=by simp;omega
   have E4:(bs t).extract 0 4=bs (t.take 4):=by rw[aX];simp
   by_cases g2:t.take 4=[67,65,84,76]
   .have E4':(bs t).extract 0 4={data:=#[67,65,84,76]}:=by rw[E4,g2];rfl
    have E8:(bs t).extract 4 12=bs ((t.take 12).drop 4):=by rw[aX,List.drop_take]
    have E12:(bs t).extract 12 t.length=bs (t.drop 12):=by rw[aX,Mk (Nat.le_of_eq (Mq ..))]
    have HPR:Hid (∀W,Calls Tryz.prog 188 #[.string ((bs t).extract 4 12)] W fun e w'=>e=.returned (.pointer (some ⟨W.heap.size,0,none⟩))/\aO w' W.heap.size ((t.take 12).drop 4) 0/\aa [] W w'):=Mb (fun W=>by
     have:=oh ((bs t).extract 4 12) W
     rw[E8]at this ⊢
     rw[dP]at this
     exact this)
    have HJR:Hid (∀W,Calls Tryz.prog 124 #[.string ((bs t).extract 12 t.length)] W (l7 (t.drop 12) W)):=Mb (fun W=>by
     rw[E12]
     exact G7 (t.drop 12) W (by rw[Mq];omega))
    have V8:=Mb (fun ls h hh=>BC (ls:=ls) Qk h hh)
    have Y2:=Mb (fun ls h r hm hh=>BB (ls:=ls) Qk h (r:=r) hm hh)
    have YU:=Mb (fun ls h hh=>BA (ls:=ls) Qk h hh)
    have UV:=Mb (fun h=>By Qk h)
    have HLS:=Mb (fun ls h=>HLL.out t ls Qk h)
    have i1:(12:Int)<=t.length:=by omega
    have i2:(4:Int)<=t.length:=by omega
    have j1:(t.length:Int)<=1000000:=by omega
    obtain⟨u,hu⟩:∃u,(t.take 12).drop 4=u:=⟨_,rfl⟩
    rw[hu]at HPR V8
    obtain⟨z,hz'⟩:∃z,t.drop 12=z:=⟨_,rfl⟩
    rw[hz']at HJR V8 Y2 YU UV HLS
    have X8:=Mb (Ap u 0)
    have Ye:=Mb (Ap (Ny 4 u 0).2.1 (Ny 4 u 0).2.2)
    clear E4 E8 E12 Qk hu hz' g1 g2 HLL Vm
    unfold l7 at HJR
    go_wp2_with fail
    refine(HPR.out _).mono ?_;rintro e w3 ⟨rfl,rd3,k3⟩
    have RD3:=Mb rd3
    have K3:=Mb (K2.out.trans k3)
    have OA3:=Mb (k3.own UA.out (by simp))
    have HB:Hid (w.heap.size<w2.heap.size):=Mb UA.out.lt
    clear rd3 k3
    generalize w2.heap.size=rb at*
    go_wp2_with fail
    refine(nU rb u 0 _ RD3.out).mono ?_;rintro e w4 ⟨rfl,rd4,k4⟩
    have RD4:=Mb rd4
    have K4:=Mb (K3.out.call k4 (fun x hx=>Or.inr (by have e:x=rb:=(by simpa using hx);rw[e];have:=HB.out;omega)))
    have Vp:=Mb (k4.own OA3.out (by have:=HB.out;simp;omega))
    clear rd4 k4
    go_wp2_with fail
    refine(nU rb _ _ _ RD4.out).mono ?_;rintro e w5 ⟨rfl,rd5,k5⟩
    have K5:=Mb (K4.out.call k5 (fun x hx=>Or.inr (by have e:x=rb:=(by simpa using hx);rw[e];have:=HB.out;omega)))
    have OA5:=Mb (k5.own Vp.out (by have:=HB.out;simp;omega))
    clear rd5 k5
    have ENB:Hid (nbT u=(Ny 4 u 0).1):=Mb rfl
    have ENM:Hid (nmT u=(Ny 4 (Ny 4 u 0).2.1 (Ny 4 u 0).2.2).1):=Mb rfl
    rw[<-ENB.out]at X8
    rw[<-ENM.out]at Ye
    rw[<-ENB.out,<-ENM.out]
    obtain⟨nb,RH⟩:∃nb:Int,(nbT u:Int)=nb:=⟨_,rfl⟩
    obtain⟨nm,hnm⟩:∃nm:Int,(nmT u:Int)=nm:=⟨_,rfl⟩
    rw[RH]at X8
    rw[hnm]at Ye
    rw[RH,hnm]
    have HCT:Hid (∀ls,Q5 u ls=⟨nb,nm,aY 1 ls.flatten,aY 2 ls.flatten,aY 3 ls.flatten⟩):=Mb (fun ls=>by unfold Q5;rw[RH,hnm])
    have OB6:=Mb (ae.new w5 #[.int .u32 nb,.int .u32 nm,.slice none 0 0,.slice none 0 0,.slice none 0 0] 52)
    have OA6:=Mb (OA5.out.alloc (.cells #[.int .u32 nb,.int .u32 nm,.slice none 0 0,.slice none 0 0,.slice none 0 0] 52))
    have K6:=Mb (K5.out.alloc (.cells #[.int .u32 nb,.int .u32 nm,.slice none 0 0,.slice none 0 0,.slice none 0 0] 52))
    have Xm:Hid (w.heap.size<w5.heap.size):=Mb OA5.out.lt
    clear RH hnm ENB ENM
    go_wp2_with fail
    refine(HJR.out _).mono ?_;rintro e w7 ⟨Zv,k7⟩
    have K7:=Mb (K6.out.trans k7)
    have OA7:=Mb (k7.own OA6.out (by simp))
    have OB7:=Mb (k7.own OB6.out (by simp))
    clear k7
    generalize w5.heap.size=bx at*
    rcases Zv with⟨ls,v,Qi,Sv,rfl⟩|⟨Qi,rfl⟩
    .have Yw:=Mb Sv
     obtain⟨p8,c8,rfl⟩:=Sv.shape
     have Ur:=Mb Qi
     have HLE:=Mb (HLS.out ls Qi)
     have SY:=Mb (fun l hl=>(uc Qi l hl).1)
     clear Sv
     by_cases g3:ls.length<=1
     .have d3:decide ((ls.length:Int)>1)=false:=by simp;omega
      have d3':decide ((1:Int)<ls.length)=false:=d3
      have T8:ls.flatten.length<=3000:=by
       cases hls:ls with
       |nil=>simp
       |cons a m=>
        have hm:m=[]:=Mt (by rw[hls]at g3;simpa using g3)
        have:=HLE.out a (by rw[hls];simp)
        rw[hm]
        simpa using this
      have HFL:=Mb T8
      have j3:(ls.length:Int)<=1:=by omega
      have G0:=Mb (gp.start OB7.out)
      have Q0:Hid (bx<w7.heap.size):=Mb OB7.out.lt
      have adh:Hid (∀k (hk:k<ls.length),∃b off kv,p8=some ⟨b,off,none⟩/\∀W,aa [bx] w7 W->W.cell? ⟨b,off+k,none⟩=some kv/\aP (w5.alloc (.cells #[.int .u32 nb,.int .u32 nm,.slice none 0 0,.slice none 0 0,.slice none 0 0] 52)) W kv ls[k]):=Mb (fun k hk=>by
       obtain⟨b,off,kv,c,e,hh⟩:=Yw.out.at_ k hk
       injection e with e
       exact⟨b,off,kv,e,fun W q=>hh W _ q (l9.one OB7.out (by decide) (by decide) (by decide))⟩)
      have XF:Hid (∀W,aa [bx] w7 W->ae W w.heap.size #[.int .u32 0,.int .u32 0,.slice none 0 0,.slice none 0 0,.slice none 0 0] 52):=Mb (fun W q=>q.own OA7.out (by have:=Xm.out;simp;omega))
      have ZM:Hid (∀W,aa [bx] w7 W->aa [] w W):=Mb (fun W q=>K7.out.call q (fun x hx=>Or.inr (by have e:x=bx:=(by simpa using hx);rw[e];have:=Xm.out;omega)))
      clear Qi T8 g3 d1
      go_wp2_with fail
      clear d3 d3'
      go_loopw [57] (fun i wr=>∃k:Nat,k<=ls.length/\i=.int .i64 k/\gp w7 wr bx nb nm (aY 1 (ls.take k).flatten) (aY 2 (ls.take k).flatten) (aY 3 (ls.take k).flatten)) (fun i _=>ls.length-(intOf i).toNat)
      case atStart=>exact⟨0,Mu _,rfl,G0.out⟩
      case round=>
       obtain⟨k,hk,rfl,hG⟩:=hrel
       rename World=>wr
       by_cases Ns:k<ls.length
       .have i3:(k:Int)<ls.length:=by omega
        obtain⟨va0,vb0,vc0,_,_,hkp,_⟩:=hG.cat X8.out Ye.out
        obtain⟨b,off,kv,rfl,hkv⟩:=adh.out k Ns
        obtain⟨hc0,hrec0⟩:=hkv wr hkp
        obtain⟨p9,c9,rfl⟩:=hrec0.shape
        have UM:Hid (∀W,aa [bx] w7 W->cY W (.slice p9 ls[k].length c9) ls[k] (w5.alloc (.cells #[.int .u32 nb,.int .u32 nm,.slice none 0 0,.slice none 0 0,.slice none 0 0] 52)).heap.size W.heap.size):=Mb (fun W q=>(hkv W q).2.rO)
        have HG:=Mb hG
        have NU:=Mb Ns
        have Vb:=Mb (wg Ns)
        have HML:=Mb (SY.out ls[k] (Mh Ns))
        have abT:=Mb (HLE.out ls[k] (Mh Ns))
        have ac9:Hid (∀r∈ls[k],r∈ls.flatten):=Mb (fun r hr=>List.mem_flatten.2 ⟨_,Mh Ns,hr⟩)
        have abE:Hid ((ls.take k).flatten.length<=3000):=Mb (by
         have h1:(ls.take k).flatten.length+(ls.drop k).flatten.length=ls.flatten.length:=by rw[<-Mc,<-MR,List.take_append_drop]
         have:=HFL.out;omega)
        clear hG hkp hkv hrec0 hk
        obtain⟨acc,hacc⟩:∃acc,(ls.take k).flatten=acc:=⟨_,rfl⟩
        rw[hacc]at HG Vb abE
        clear hacc
        generalize UI:ls[k]'Ns=l0 at*
        have i5:(l0.length:Int)<=3000:=by have:=abT.out;omega
        clear UI Ns
        go_wp2_with fail
        obtain⟨wo,rfl⟩:∃wo:World,wo=wr:=⟨_,rfl⟩
        go_loopw [63] (fun i wx=>∃j:Nat,j<=l0.length/\i=.int .i64 j/\gp w7 wx bx nb nm (aY 1 (acc++l0.take j)) (aY 2 (acc++l0.take j)) (aY 3 (acc++l0.take j))) (fun i _=>l0.length-(intOf i).toNat)
        case atStart=>exact⟨0,Mu _,rfl,by simpa using HG.out⟩
        case round=>
         obtain⟨j,hj,rfl,Xo⟩:=hrel
         rename World=>wx
         by_cases hjt:j<l0.length
         .have i4:(j:Int)<l0.length:=by omega
          obtain⟨va1,vb1,vc1,_,_,hkp1,_⟩:=Xo.cat X8.out Ye.out
          obtain⟨b',off',rv,rfl,y0,y1,y2,y3,y4,hruns,N4,_⟩:=(UM.out wx hkp1).at_ j hjt
          have Qf:=HML.out l0[j] (Mh hjt)
          have Pc:acc++l0.take (j+1)=(acc++l0.take j)++[l0[j]]:=by rw[Mf hjt,Mi]
          have hlen:(aY 1 (acc++l0.take j)).length+(aY 2 (acc++l0.take j)).length+(aY 3 (acc++l0.take j)).length<=100000:=by
           have h1:=vV (acc++l0.take j)
           rw[Mc,Mp]at h1
           have:=abE.out;have:=abT.out;omega
          have Sf:∀W,aa [] wx W->Calls Tryz.prog 246 #[.pointer (some ⟨bx,0,none⟩),.agg (l0[j].cells rv)] W (di l0[j] w7 bx nb nm (aY 1 (acc++l0.take j)) (aY 2 (acc++l0.take j)) (aY 3 (acc++l0.take j))):=fun W q=>Kw l0[j] rv w7 W bx nb nm _ _ _ _ _ (Xo.kept0 q) Q0.out (hruns.kept0 q) N4 (DF Qf N4) (by have:=lN Qf;omega) hlen
          unfold di at Sf
          simp only[<-BQ]at Sf
          rw[<-Pc]at Sf
          have Xc:=Mb Sf
          have HJT:=Mb hjt
          have QG:Hid (¬(l0[j].kind=1\/l0[j].kind=2\/l0[j].kind=3)->jZ s):=Mb (fun hh=>Y2.out ls Ur.out l0[j] (ac9.out _ (Mh hjt)) hh)
          obtain⟨pr,nr,cr,rfl⟩:iF rv:=by
           obtain⟨p,c,rfl⟩:=hruns.shape
           exact⟨_,_,_,rfl⟩
          clear Xo hkp1 hruns N4 Qf Pc hlen Sf hj
          generalize l0[j]'hjt=r at*
          clear hjt
          obtain⟨kd,id,nm',sz,rr⟩:=r
          unfold ag.cells at Xc
          simp only at Xc QG y0 y1 y2 y3 y4
          go_wp2_with fail
          refine(Xc.out _ ((aa.refl _ _).alloc _)).mono ?_;rintro e w9 ⟨rfl,hG9⟩
          have HG9:=Mb hG9
          obtain⟨va2,vb2,vc2,_,_,hkp2,_⟩:=hG9.cat X8.out Ye.out
          have ZI:=Mb (XF.out w9 hkp2)
          have K9:=Mb (ZM.out w9 hkp2)
          clear hG9 hkp2 y0 y1 y2 y3 y4
          by_cases hkd:kd=1\/kd=2\/kd=3
          .have dk:decide (kd=1\/kd=2\/kd=3)=true:=MQ hkd
           rw[dk]
           clear hkd dk
           go_wp2_with fail
           go_roundw
           case rel=>exact⟨j+1,HJT.out,by first|rfl|go_num,HG9.out⟩
           case measure=>(have hh:=HJT.out;simp[intOf];omega)
          .have dk:decide (kd=1\/kd=2\/kd=3)=false:=MN hkd
           have Pk:=Mb (QG.out hkd)
           rw[dk]
           clear hkd dk
           exact M22
         .obtain rfl:j=l0.length:=by omega
          rw[MC,<-Vb.out]at Xo
          have HG2:=Mb Xo
          have i4:¬(l0.length:Int)<l0.length:=by omega
          clear Xo hjt hj
          go_wp2_with fail
          go_roundw
          case rel=>exact⟨k+1,NU.out,by first|rfl|go_num,HG2.out⟩
          case measure=>(have hh:=NU.out;simp[intOf];omega)
       .obtain rfl:k=ls.length:=by omega
        rw[MC]at hG
        obtain⟨va,vb,vc,⟨⟨p1,n1,c1,rfl⟩,⟨p2,n2,c2,rfl⟩,⟨p3,n3,c3,rfl⟩⟩,ob,hkp,N5⟩:=hG.cat X8.out Ye.out
        have hct:=HCT.out ls
        rw[<-hct]at N5
        have Qw:=Mb N5
        have HP:Hid (∀W,aa [] wr W->Calls Tryz.prog 52 #[.agg #[.int .u32 nb,.int .u32 nm,.slice p1 n1 c1,.slice p2 n2 c2,.slice p3 n3 c3]] W (iu (Q5 u ls) W)):=Mb (fun W q=>by
         obtain⟨Q6,Qt⟩:=Ci (u:=u) SY.out HFL.out
         exact Ez _ _ W (N5 W q).1.plain Q6 Qt)
        have OB:=Mb ob
        have OA:=Mb (XF.out wr hkp)
        have KW:=Mb (ZM.out wr hkp)
        have HBK:=Mb (V8.out ls Ur.out)
        have i3:¬(ls.length:Int)<ls.length:=by omega
        obtain⟨z0,z1,z2,z3,z4⟩:=ob.k5
        clear hG hkp N5 ob Ns hk hct
        unfold iu at HP
        generalize Q5 u ls=C at*
        go_wp2_with fail
        refine(HP.out _ (aa.refl _ _)).mono ?_;rintro e w9 ⟨rfl,k9⟩
        have K9:=Mb (KW.out.trans k9)
        have KX:=Mb k9
        have ZI:=Mb (k9.own OA.out (by simp))
        have OB9:=Mb (k9.own OB.out (by simp))
        clear k9 z0 z1 z2 z3 z4
        by_cases hm:aM C
        .have Vl:aG C=(dz C,0):=by unfold aG;rw[if_pos hm]
         rw[Vl]
         have HM:=Mb hm
         clear Vl hm
         by_cases hp:dz C=s
         .have q1:((bs (dz C)).toList==(bs s).toList)=true:=by rw[hp];simp
          have HPE:=Mb hp
          have Ux:=Mb (Qw.out w9 KX.out).2
          obtain⟨z0,z1,z2,z3,z4⟩:=OB9.out.k5
          obtain⟨y0,y1,y2,y3,y4⟩:=ZI.out.k5
          obtain⟨g0,g1,g2,g3,g4⟩:=ZI.out.y5
          clear hp
          go_wp2_with fail
          refine Mx (v:=.tuple #[.agg #[.int .u32 nb,.int .u32 nm,.slice p1 n1 c1,.slice p2 n2 c2,.slice p3 n3 c3],.int .i64 0]) (ak Tryz.results193 rfl rfl (t:=52) ?_ Tryz.underlying52 rfl (by kernel_rfl)) rfl ?_
          .exact ZI.out.de _ _ _ _ _
          .exact Gs HM.out HPE.out ((Ux.out _ _ ZI.out _ _ _ _ _).fI (fun x hx=>Mo hx K7.out.size)) (aa.bj K9.out (Or.inr (Md _)) _ _ _ _ _)
         .have q1:((bs (dz C)).toList==(bs s).toList)=false:=by rw[dh,dh];simpa using hp
          have Pk:=Mb (HBK.out (fun hh=>hp hh.2))
          clear hp
          exact M22
        .have Vl:aG C=([],110):=by unfold aG;rw[if_neg hm]
         rw[Vl]
         have Pk:=Mb (HBK.out (fun hh=>hm hh.1))
         clear Vl hm
         exact M22
     .have d3:decide ((ls.length:Int)>1)=true:=by simp;omega
      have d3':decide ((1:Int)<ls.length)=true:=d3
      have Pk:=Mb (YU.out ls Ur.out g3)
      clear g3 Qi d1
      exact M35
    .have Pk:=Mb (UV.out Qi)
     clear Qi d1
     exact M35
   .have q1:((bs (t.take 4)).toList==[67,65,84,76])=false:=by rw[dh];simpa using g2
    have q0:({data:=#[67,65,84,76]}:ByteArray).toList=[67,65,84,76]:=dh [67,65,84,76]
    have q2:((bs (t.take 4)).toList==({data:=#[67,65,84,76]}:ByteArray).toList)=false:=by rw[q0];exact q1
    have Pk:=Mb (tM Qk (fun hh=>g2 hh.2))
    have i2:(4:Int)<=t.length:=by omega
    clear Qk g2 g1
    exact M23
  .have d1:decide ((t.length:Int)<12)=true:=by simp;omega
   have Pk:=Mb (tM Qk (fun hh=>g1 hh.1))
   clear Qk g1
   exact M23
 .have Pk:=Mb (Bz Qk)
  have ad5:(cd != 0)=true:=by simp[bne,hcd]
  clear Qk
  exact M23
end Go.Proofs.YtdkimcnlhmhpgaaGreat
namespace Go.Proofs.YtdkimcnlhmhpgaaGreat
open Go.RowKit Go.Sort Go.Shelf
variable {q:Prop} {w w':World}
theorem Bo (a b:List (Int×Int)):No (a++b)=No a++No b:=by unfold No;simp
def mc (q:Prop) (w:World) (e:Ending) (w':World):Prop:=∃C:Int,e=.returned (.int .i64 C)/\((C=0/\q)\/(C=110/\¬q))/\aa [] w w'
theorem gR (h:¬q) (k:aa [] w w'):mc q w (.returned (.int .i64 110)) w':=⟨110,rfl,Or.inr ⟨rfl,h⟩,k⟩
theorem xR (h:q) (k:aa [] w w'):mc q w (.returned (.int .i64 0)) w':=⟨0,rfl,Or.inl ⟨rfl,h⟩,k⟩
theorem Hq (x y:Int×Int) (W:World):Calls Tryz.prog 198 #[.agg #[.int .i64 x.1,.int .i64 x.2],.agg #[.int .i64 y.1,.int .i64 y.2]] W fun e w'=>e=.returned (.int .i64 (Qx x.1 y.1))/\∃q os',w'=grow (W.drewN q) os':=by
 have SR:=fun W'=>EG x.1 y.1 W'
 generalize Qx x.1 y.1=r at SR ⊢
 go_enter Tryz.func198,Tryz.ntmps198
 exact M37
theorem Jv (base:Nat) (v:Value) (l:List (Int×Int)) (w:World) (h:w.ownsRow base 128 2 v l.length (No l)) (hl:l.length<=1000000):
  Calls Tryz.prog 184 #[v,.func (.func 198) #[] #[]] w (im base v l w):=
 AY 198 base v l w h hl (enters_of Tryz.func198 (by kernel_rfl) rfl) Hq
theorem M39 {A:Prop}(h:A:=by
 go_wp2_with fail
 rw[Exit.noGoto_ret]
 go_ret
 exact gR HN.out (ZM.out.alloc _)):A:=h
theorem Ky (v:Value) (c:aj) (OH jr:Int) (u:Value) (others:List (Int×Int)) (lo hi:Nat) (w:World) (h:cC w v c) (hlen:c.boxes.length+c.mans.length+c.names.length<=5000) (Rl:(NN c).length<=500000) (hu:af w u others lo hi) (ho:others.length<=100000)
  (Ox:∀a∈NN c++others,aU a) (hs: -9223372036854775808<=OH) (hj: -9223372036854775808<=jr/\jr<=9223372036854775807) (Us:∀a∈NN c++others,a.1<=1099511627776/\a.2<=1099511627776/\OH<=1099511627776):
  Calls Tryz.prog 125 #[v,.int .i64 OH,.int .i64 jr,u] w (mc (Oi OH jr (NN c++others)) w):=by
 have HRU:Hid (∀W,aa [] w W->Calls Tryz.prog 115 #[v] W (bG (NN c) W)):=Mb (fun W q=>wR v c W (h.kept0 q) hlen (by omega))
 have HU:Hid (∀W,aa [] w W->af W u others lo hi):=Mb (fun W q=>hu.kept0 q)
 have Oa:Hid ((NN c).length<=500000/\others.length<=100000):=Mb ⟨Rl,ho⟩
 have XX:=Mb Ox
 have Yo:=Mb Us
 have HSJ:=Mb (And.intro hs hj)
 obtain⟨vb,vm,vn,rfl,hb,hm,hn,_⟩:=h
 obtain⟨p1,c1,rfl⟩:=hb.shape
 obtain⟨p2,c2,rfl⟩:=hm.shape
 obtain⟨p3,c3,rfl⟩:=hn.shape
 obtain⟨pu,cu,rfl⟩:=hu.shape
 obtain⟨R,hR⟩:∃R,NN c=R:=⟨_,rfl⟩
 rw[hR]at HRU Oa XX Yo ⊢
 obtain⟨W1,hW1⟩:∃W1,W1=w.alloc (.cells #[.int .u32 c.nextBox,.int .u32 c.nextMan,.slice p1 c.boxes.length c1,.slice p2 c.mans.length c2,.slice p3 c.names.length c3] 52):=⟨_,rfl⟩
 have k1:aa [] w W1:=by rw[hW1];exact(aa.refl _ _).alloc _
 have oA:ae W1 w.heap.size #[.int .u32 c.nextBox,.int .u32 c.nextMan,.slice p1 c.boxes.length c1,.slice p2 c.mans.length c2,.slice p3 c.names.length c3] 52:=by rw[hW1];exact ae.new _ _ _
 obtain⟨z0,z1,z2,z3,z4⟩:=oA.k5
 have KW1:=Mb k1
 have ZV:Hid (∀W v' l,l.length<=1000000->W.ownsRow w.heap.size 128 2 v' l.length (No l)->Calls Tryz.prog 184 #[v',.func (.func 198) #[] #[]] W (im w.heap.size v' l W)):=Mb (fun W v' l hl hr=>Jv w.heap.size v' l W hr hl)
 unfold bG at HRU
 unfold im at ZV
 clear Ox Us hs hj hb hm hn hu ho Rl hlen hR k1 oA
 go_enter Tryz.func125,Tryz.ntmps125
 go_wp2_with fail
 go_step3
 go_wp2_with fail
 rw[<-hW1]
 clear hW1
 refine(HRU.out _ KW1.out).mono ?_;rintro e w3 ⟨v3,rfl,r3,k3⟩
 have K3:=Mb (KW1.out.trans k3)
 have SO:=Mb (aH r3 KW1.out.size)
 obtain⟨p3',c3',rfl⟩:=ai r3
 clear r3 k3 z0 z1 z2 z3 z4
 go_wp2_with (at_builtin;go_must (refine j4 rfl (.tmp 15) (.tmp 16) rfl w.heap.size _ _ _ rfl SO.out _ others lo hi rfl (HU.out _ K3.out) (by have:=Oa.out;unfold maxLen;omega) (by have:=Oa.out;omega) K3.out.size ?_))
 intro v6 w6 o6 OE
 have K6:=Mb (K3.out.grown OE (fun q hq=>Or.inr (Mn SO.out q hq).1))
 rw[<-Bo,<-Mc]at o6
 have hl1:(R++others).length<=600000:=by rw[Mc];have:=Oa.out;omega
 clear OE SO HU HRU
 generalize R++others=l at*
 have abF:=Mb o6
 obtain⟨p,cc,rfl⟩:=ai o6
 have H:=Mb (af.bo o6)
 have QZ:(l.length:Int)<=600000:=by omega
 have Yc:=Mb hl1
 clear o6 hl1
 go_wp2_with fail
 go_step3
 go_wp2_with fail
 go_loopw [10,20] (fun u i wr=>∃k:Nat,k<=l.length/\u=.int .i64 0/\i=.int .i64 k/\(∀j (hj:j<l.length),j<k->mB OH jr l[j])/\aa [] w6 wr) (fun _ i _=>l.length-(intOf i).toNat)
 case atStart=>exact⟨0,Mu _,rfl,rfl,fun j hj h=>absurd h (Nat.not_lt_zero j),aa.refl _ _⟩
 case round=>
  obtain⟨k,hk,rfl,rfl,hM,hK⟩:=hrel
  rename World=>wr
  by_cases Ns:k<l.length
  .obtain⟨b,off,rfl,c0,c1,hb,Py,Pb⟩:=(H.out.kept0 hK).at_ k Ns
   have Yz:=XX.out l[k] (Mh Ns)
   have VL:=Yo.out l[k] (Mh Ns)
   have OF:= @DO OH jr l k Ns
   have Vk:mB OH jr l[k]->∀j (hj:j<l.length),j<k+1->mB OH jr l[j]:=fun h1 j hj Vs=>by
    by_cases e:j=k
    .subst e;exact h1
    .exact hM j hj (by omega)
   have i1:(k:Int)<l.length:=by omega
   have NU:=Mb Ns
   have Pk:=Mb OF
   have UT:=Mb Vk
   have HK:=Mb hK
   have ZM:=Mb (K6.out.trans hK)
   clear OF Vk hM hK hk
   generalize l[k]=X at*
   obtain⟨x0,xn⟩:=X
   obtain⟨w1,w2,VO,w4⟩:=Yz
   simp only at c0 c1 w1 w2 VO w4 VL
   unfold mB at Pk UT
   simp only at Pk UT
   have hq:=HSJ.out
   have E1:2<=x0->IntKind.i64.wrap (x0-2)=x0-2:=fun _=>IntWalk.i64_in _ (by omega)
   have E2:2<=x0->x0<=OH->IntKind.i64.wrap (OH-x0)=OH-x0:=fun _ _=>IntWalk.i64_in _ (by omega)
   clear hq
   rcases(by omega:xn<1\/(1<=xn/\x0<2)\/(1<=xn/\2<=x0/\x0-2<jr)\/(1<=xn/\2<=x0/\jr<=x0-2/\OH<x0)\/(1<=xn/\2<=x0/\jr<=x0-2/\x0<=OH/\OH-x0<xn)\/(1<=xn/\2<=x0/\jr<=x0-2/\x0<=OH/\xn<=OH-x0))with g1|⟨g1,g2⟩|⟨g1,g2,g3⟩|⟨g1,g2,g3,g4⟩|⟨g1,g2,g3,g4,g5⟩|⟨g1,g2,g3,g4,g5⟩
   .have HN:=Mb (Pk.out (by omega))
    have d1:decide (xn<1)=true:=by simp;omega
    clear E1 E2 g1 w1 w2 VO w4 VL
    exact M39
   .have HN:=Mb (Pk.out (by omega))
    have d1:decide (xn<1)=false:=by simp;omega
    have d2:decide (x0<2)=true:=by simp;omega
    clear E1 E2 g1 g2 w1 w2 VO w4 VL
    exact M39
   .have HN:=Mb (Pk.out (by omega))
    have d1:decide (xn<1)=false:=by simp;omega
    have d2:decide (x0<2)=false:=by simp;omega
    have e1:=E1 g2
    have d3:decide (x0-2<jr)=true:=by simp;omega
    clear E1 E2 g1 g2 g3 w1 w2 VO w4 VL
    exact M39
   .have HN:=Mb (Pk.out (by omega))
    have d1:decide (xn<1)=false:=by simp;omega
    have d2:decide (x0<2)=false:=by simp;omega
    have e1:=E1 g2
    have d3:decide (x0-2<jr)=false:=by simp;omega
    have d4:decide (OH<x0)=true:=by simp;omega
    have d4':decide (x0>OH)=true:=by simp;omega
    clear E1 E2 g1 g2 g3 g4 w1 w2 VO w4 VL
    exact M39
   .have HN:=Mb (Pk.out (by omega))
    have d1:decide (xn<1)=false:=by simp;omega
    have d2:decide (x0<2)=false:=by simp;omega
    have e1:=E1 g2
    have d3:decide (x0-2<jr)=false:=by simp;omega
    have e2:=E2 g2 g4
    have d4:decide (OH<x0)=false:=by simp;omega
    have d4':decide (x0>OH)=false:=by simp;omega
    have d5:decide (OH-x0<xn)=true:=by simp;omega
    have d5':decide (xn>OH-x0)=true:=by simp;omega
    clear E1 E2 g1 g2 g3 g4 g5 w1 w2 VO w4 VL
    exact M39
   .have XC:=Mb (UT.out (by omega))
    have d1:decide (xn<1)=false:=by simp;omega
    have d2:decide (x0<2)=false:=by simp;omega
    have e1:=E1 g2
    have d3:decide (x0-2<jr)=false:=by simp;omega
    have e2:=E2 g2 g4
    have d4:decide (OH<x0)=false:=by simp;omega
    have d4':decide (x0>OH)=false:=by simp;omega
    have d5:decide (OH-x0<xn)=false:=by simp;omega
    have d5':decide (xn>OH-x0)=false:=by simp;omega
    clear E1 E2 g1 g2 g3 g4 g5 w1 w2 VO w4 VL
    go_wp2_with fail
    go_roundw
    case rel=>exact⟨k+1,NU.out,rfl,by go_num,XC.out,HK.out.alloc _⟩
    case measure=>(have hh:=NU.out;simp[intOf];omega)
  .obtain rfl:k=l.length:=by omega
   have Ql:Hid (∀a∈l,mB OH jr a):=Mb (fun a ha=>by
    obtain⟨j,hj,rfl⟩:=MO.1 ha
    exact hM j hj hj)
   have HK:=Mb hK
   have ZM:=Mb (K6.out.trans hK)
   have Tf:=Mb (au abF.out hK (by simp))
   have i1:¬(l.length:Int)<l.length:=by omega
   clear hM hK Ns hk
   go_wp2_with fail
   refine(ZV.out _ _ l (by have:=Yc.out;omega) Tf.out).mono ?_;rintro e w7 ⟨rfl,l',Pm,hris,Nt,hkt⟩
   have K7:=Mb (oE ZM.out (fun g hg=>(Mn Tf.out g hg).1) hkt)
   have hll:=Pm.length_eq
   have HQ:Hid (Oi OH jr l'↔Oi OH jr l):=Mb (tQ Pm)
   have TH:Hid (∀a∈l',mB OH jr a):=Mb (fun a ha=>Ql.out a (Pm.mem_iff.1 ha))
   have WW:=Mb hris
   have acB:Hid (∀a∈l',a.1<=1099511627776/\a.2<=1099511627776):=Mb (fun a ha=>⟨(Yo.out a (Pm.mem_iff.1 ha)).1,(Yo.out a (Pm.mem_iff.1 ha)).2.1⟩)
   have HR7:=Mb (af.bo Nt)
   obtain⟨n,hn⟩:∃n,l.length=n:=⟨_,rfl⟩
   have HLL:Hid (l'.length=n):=Mb (by rw[hll,hn])
   have HLI:Hid (n<=600000):=Mb (by rw[<-hn];exact Yc.out)
   rw[hn]at QZ HR7
   rw[hn]
   clear Pm hris Nt hkt hll Tf ZM H abF hn i1
   go_wp2_with fail
   go_loopw [13] (fun i wr=>∃m:Nat,1<=m/\i=.int .i64 m/\(∀j (hj:j+1<l'.length),j+1<m->l'[j].1+l'[j].2<=l'[j+1].1)/\m<=n+1/\aa [] w7 wr) (fun i _=>n+1-(intOf i).toNat)
   case atStart=>exact⟨1,Md _,rfl,fun j hj h=>absurd h (by omega),by omega,aa.refl _ _⟩
   case round=>
    obtain⟨m,hm,rfl,hM,hmn,hK⟩:=hrel
    rename World=>wr
    by_cases Ns:m<n
    .obtain⟨q,rfl⟩:∃q,m=q+1:=⟨m-1,by omega⟩
     have aae:q+1<l'.length:=by rw[HLL.out];exact Ns
     obtain⟨b,off,rfl,c0,c1,hb,Py,Pb⟩:=(HR7.out.kept0 hK).at_ (q+1) aae
     obtain⟨b',off',e',d0,d1,_⟩:=(HR7.out.kept0 hK).at_ q (by omega)
     injection e' with e'
     injection e' with e1 e2 _
     subst e1 e2
     have OF:=fun h=>mt HQ.out.2 (BM aae WW.out h)
     have Vk:l'[q].1+l'[q].2<=l'[q+1].1->∀j (hj:j+1<l'.length),j+1<q+1+1->l'[j].1+l'[j].2<=l'[j+1].1:=fun h1 j hj Vs=>by
      by_cases e:j=q
      .subst e;exact h1
      .exact hM j hj (by omega)
     have aaf:=TH.out l'[q] (Mh _)
     have ab5:=acB.out l'[q] (Mh _)
     have Pk:=Mb OF
     have UT:=Mb Vk
     have NU:=Mb Ns
     have HK:=Mb hK
     have PL:=Mb (K7.out.trans hK)
     have On:((q+1:Nat):Int)<n:=by omega
     have PD:(q:Int)<n:=by omega
     have E1:IntKind.i64.wrap (((q+1:Nat):Int)-1)=(q:Int):=by have:=HLI.out;rw[IntWalk.i64_in _ (by omega)];omega
     clear OF Vk hM hK hm hmn
     generalize l'[q+1]=X at*
     generalize l'[q]=Y at*
     obtain⟨x0,xn⟩:=X
     obtain⟨y0,yn⟩:=Y
     unfold mB at aaf
     simp only at c0 c1 d0 d1 aaf ab5 Pk UT
     have E2:IntKind.i64.wrap (y0+yn)=y0+yn:=IntWalk.i64_in _ (by omega)
     have HLM:Hid (q+1<n):=Mb Ns
     obtain⟨m,hme⟩:∃m,q+1=m:=⟨_,rfl⟩
     have HME:=Mb hme
     rw[hme]at c0 c1 On E1 Ns
     rw[hme]
     clear hme aaf ab5
     by_cases g1:x0<y0+yn
     .have t1:decide (x0<y0+yn)=true:=MQ g1
      have HN:=Mb (Pk.out g1)
      clear g1
      go_wp2_with fail
      go_quiet (fail)
      go_wp2_with fail
      rw[Exit.noGoto_ret]
      go_ret
      exact gR HN.out (PL.out.drewN _)
     .have t1:decide (x0<y0+yn)=false:=MN g1
      have HN:=Mb (UT.out (by omega))
      clear g1
      go_wp2_with fail
      go_quiet (fail)
      go_wp2_with fail
      go_roundw
      case rel=>exact⟨m+1,by omega,by go_num,by rw[<-HME.out];exact HN.out,by have:=HLM.out;have:=HME.out;omega,HK.out.drewN _⟩
      case measure=>(have hh:=HLM.out;have:=HME.out;simp[intOf];omega)
    .have Z2:Hid (Oi OH jr l):=Mb (HQ.out.1 (xS WW.out TH.out (fun j hj=>hM j hj (by have:=HLL.out;omega))))
     have PL:=Mb (K7.out.trans hK)
     have i1:¬(m:Int)<n:=by omega
     clear hM hK Ns hm hmn
     go_wp2_with fail
     (try rw[Exit.noGoto_ret])
     go_ret
     exact xR Z2.out PL.out
end Go.Proofs.YtdkimcnlhmhpgaaGreat
namespace Go.Proofs.YtdkimcnlhmhpgaaGreat
open Go.RowKit
variable {w w':World} {v:Value} {lo hi:Nat}
theorem fZ.small {k:Int} {l:List Nf} {most:Nat} (h:fZ k l most) (hm:most<=1000000):kj l:=⟨MA h.1 hm,fun a ha=>by
 have:=eV (h.2.1 a ha)
 have e:(a.told k).runs=a.runs:=rfl
 rw[e]at this;omega⟩
theorem aM.small {c:aj} (h:aM c):iq c:=⟨h.boxes.small (by decide),h.mans.small (by decide),h.names.small (by decide)⟩
def VC.fits (x:VC):Prop:=(Lit.int .i64 x.kind).wf=true/\(Lit.int .u32 x.id).wf=true/\x.name.length<=maxLen/\x.bytes.length<=1048576
def Jo (w:World) (cs:List Value) (x:VC):Prop:=cs=[.int .i64 x.kind,.int .u32 x.id,.string (bs x.name),.string (bs x.bytes)]/\x.fits
def fj (w:World) (v:Value) (l:List VC) (lo hi:Nat):Prop:=aZ 4 Jo w v l lo hi
variable {l:List VC}
theorem fj.kept {S:List Nat} (h:fj w v l lo hi) (k:aa S w w') (hS:∀x∈S,x<lo\/hi<=x):fj w' v l lo hi:=aZ.kept h k hS (fun cs a h=>h)
theorem fj.kept0 (h:fj w v l lo hi) (k:aa [] w w'):fj w' v l lo hi:=h.kept k (fun x hx=>by cases hx)
theorem fj.at_ {p:Option Addr} {n c:Nat} (h:fj w (.slice p n c) l lo hi) (i:Nat) (hi':i<l.length):
  ∃b off,p=some ⟨b,off,none⟩/\w.cell? ⟨b,off+i*4,none⟩=some (.int .i64 l[i].kind)/\w.cell? ⟨b,off+i*4+1,none⟩=some (.int .u32 l[i].id)/\w.cell? ⟨b,off+i*4+2,none⟩=some (.string (bs l[i].name))/\w.cell? ⟨b,off+i*4+3,none⟩=some (.string (bs l[i].bytes))/\b<w.heap.size/\l[i].fits:=by
 obtain⟨b,off,cs,e1,e2,⟨rfl,e4⟩,e6,e7,e8,e9⟩:=aZ.at_ h i hi'
 exact⟨b,off,e1,e6 0 _ rfl,e6 1 _ rfl,e6 2 _ rfl,e6 3 _ rfl,by omega,e4⟩
theorem Gx (s:List UInt8):(bs s).toList.isEmpty=s.isEmpty:=by
 rw[dh]
theorem dw (w:World) (l:List Value) (t:TypeId):∀(j:Nat) (u:Value),l[j]? =some u->(w.alloc (.cells l.toArray t)).cell? (Addr.add ⟨w.heap.size,0,none⟩ j)=some u:=by
 intro j u hj
 have:=World.news_of_block (M0 w (.cells l.toArray t))
 exact this j u (by simpa using hj)
theorem si {x:VC} (h:x.fits):x.told.fits:=⟨h.1,h.2.1,h.2.2.1,by show(Lit.int .i64 0).wf=true;decide⟩
theorem GE (p:VC->Bool) (l:List VC) (k:Nat) (h:k<l.length):(l.take (k+1)).all p=((l.take k).all p&&p l[k]):=by
 rw[Mf h,List.all_append];simp
theorem Ku (p:VC->Bool) (l:List VC) (k:Nat) (h:k<l.length) (hp:p l[k]=false):l.all p=false:=by
 rw[List.all_eq_false]
 exact⟨_,Mh h,by rw[hp];simp⟩
def qQ (C:Int) (w:World) (e:Ending) (w':World):Prop:=e=.returned (.int .i64 C)/\aa [] w w'
theorem JA {T:List Nat} {B b sb mb:Nat} {v:VS} (vl:Value) (l:List VC) (OD On:Nat) (hV:ay T w B b sb mb lo v) (hc:aM v.c) (hl:fj w vl l OD On):
  Calls Tryz.prog 43 #[.pointer (some ⟨B,0,none⟩),vl] w (qQ (Ol v.c l) w):=by
 obtain⟨sv,vb,vm,vn,o,hr,N5⟩:=hV.vol
 have HO:Hid (∀W,aa [] w W->ae W B (bf b v.s sv v.c vb vm vn v.dead) 90):=Mb (fun W k=>k.own o (by simp))
 have Sd:Hid (∀W rv lo2 PD,aa [] w W->cY W rv (l.map VC.told) lo2 PD->Calls Tryz.prog 45 #[.agg #[.int .u32 v.c.nextBox,.int .u32 v.c.nextMan,vb,vm,vn],rv] W (cE (fun _=>False) (Nn v.c (l.map VC.told)) W)):=Mb (fun W rv lo2 PD k OQ=>
  tf (S0:=fun _=>False) _ v.c rv _ lo2 PD W ((aw.kept0 N5 k).fI (fun x hx=>hx.elim)) (fun x hx=>hx.elim) hc.small OQ (fun r hr a ha=>by
   obtain⟨x,hx,rfl⟩:=MV.1 hr
   cases ha) (fun r hr=>by
   obtain⟨x,hx,rfl⟩:=MV.1 hr
   exact Mu _))
 have HL:=Mb hl
 obtain⟨p1,c1,rfl⟩:=aZ.shape hl
 have Sx:=aZ.len hl
 unfold maxLen at Sx
 clear hV hc hl hr N5
 unfold qQ
 by_cases hn:l.length<1\/8192<l.length
 .have hw:Ol v.c l=3:=by unfold Ol;rw[if_pos hn]
  rw[hw]
  rcases(by omega:(l.length:Int)<1\/(1<=(l.length:Int)/\8192<(l.length:Int)))with h1|⟨h1,h2⟩
  all_goals
   clear hn
   go_enter Tryz.func43,Tryz.ntmps43
   go_wp2_with fail
   go_ret
   exact⟨rfl,aa.refl _ _⟩
 .have n1:1<=(l.length:Int):=by omega
  have n2:(l.length:Int)<=8192:=by omega
  have HW:Hid (Ol v.c l=if l.all (fun x=>NH x.kind||x.bytes.isEmpty)then(Nn v.c (l.map VC.told)).2 else 1):=Mb (by unfold Ol;rw[if_neg hn])
  clear hn Sx
  generalize Ol v.c l=WX at*
  generalize Pq:Nn v.c (l.map VC.told)=AP at*
  clear Pq
  obtain⟨x0,x1,x2,x3,x4,x5,x6,x7,x8,x9,x10,x11,x12⟩:=o.jC
  clear x0 x1 x2 x3 x4 x5 x6 x12 o
  go_enter Tryz.func43,Tryz.ntmps43
  go_wp2_with fail
  go_loopw [5,7,20] (fun rv x i wr=>∃k:Nat,k<=l.length/\i=.int .i64 k/\(l.take k).all (fun x=>NH x.kind||x.bytes.isEmpty)=true/\aP w wr rv ((l.take k).map VC.told)/\aa [] w wr) (fun _ _ i _=>l.length-(intOf i).toNat)
  case atStart=>exact⟨0,Mu _,rfl,rfl,aP.nil _ _,aa.refl _ _⟩
  case round=>
   obtain⟨k,hk,rfl,OL,OT,hK⟩:=hrel
   by_cases Ns:k<l.length
   .have i1:(k:Int)<l.length:=by omega
    obtain⟨bl,ol,rfl,r0,r1,r2,r3,Xb,N4⟩:=fj.at_ (HL.out.kept0 hK) k Ns
    have Pt:=GE (fun x=>NH x.kind||x.bytes.isEmpty) l k Ns
    have OF:=Ku (fun x=>NH x.kind||x.bytes.isEmpty) l k Ns
    have Ws:(l.take (k+1)).map VC.told=(l.take k).map VC.told++[l[k].told]:=by rw[Mf Ns,Ms];rfl
    have hlen:((l.take k).map VC.told).length=k:=by rw[Mm,Mp];omega
    rw[OL,Bool.true_and]at Pt
    have SG:=Mb Pt
    have Pk:=Mb OF
    have Qp:=Mb Ws
    have Oa:=Mb hlen
    have NU:=Mb Ns
    have HF:=Mb (si N4)
    have HK:=Mb hK
    have HR:=Mb OT
    obtain⟨p6,c6,rfl⟩:=OT.shape
    rw[hlen]
    clear OL Pt OF Ws hlen N4 OT hK hk
    generalize hX:l[k]=X at*
    clear hX Ns
    obtain⟨xk,xi,xn,xb⟩:=X
    simp only at*
    have HCO:Hid (∀W,Calls Tryz.prog 47 #[.int .i64 xk] W fun e w'=>e=.returned (.bool (NH xk))/\W=w'):=Mb (fun W=>xe xk W)
    have Xq:=Gx xb
    have oX:=ae.new wr #[.int .i64 xk,.int .u32 xi,.string (bs xn),.string (bs xb)] 34
    obtain⟨z0,z1,z2,z3⟩:=oX.c4
    have HKX:=Mb (HK.out.alloc (.cells #[.int .i64 xk,.int .u32 xi,.string (bs xn),.string (bs xb)] 34))
    have HRX:=Mb (HR.out.kept0 ((aa.refl [] wr).alloc (.cells #[.int .i64 xk,.int .u32 xi,.string (bs xn),.string (bs xb)] 34)))
    have R7:Hid (∀W,Calls Tryz.prog 95 #[.agg #[.int .i64 xk,.int .u32 xi,.string (bs xn),.string (bs xb)]] W fun e w'=>e=.returned (.agg #[.int .i64 xk,.int .u32 xi,.string (bs xn),.int .i64 0,.slice none 0 0])/\aa [] W w'):=Mb (fun W=>Af ⟨xk,xi,xn,xb⟩ W)
    clear oX
    have QG:Hid (NH xk=false->xb.isEmpty=false->WX=1):=Mb (fun h1 h2=>by rw[HW.out,Pk.out (by rw[h1,h2];rfl)];rfl)
    have V9:Hid ((NH xk||xb.isEmpty)=true->(l.take (k+1)).all (fun x=>NH x.kind||x.bytes.isEmpty)=true):=Mb (fun h=>by rw[SG.out];exact h)
    clear SG Pk
    go_wp2_with fail
    refine(HCO.out _).mono ?_;rintro e w2 ⟨rfl,rfl⟩
    generalize NH xk=KB at*
    generalize xb.isEmpty=EB at*
    have hgo:Hid ((KB||EB)=true->True):=Mb (fun _=>trivial)
    cases KB<;>cases EB
    case false.false=>
     have Ua:=Mb (QG.out rfl rfl)
     go_wp2_with fail
     go_ret
     exact⟨by rw[Ua.out];rfl,HKX.out⟩
    all_goals
     have HG:=Mb (V9.out rfl)
     clear QG V9 HCO
     go_wp2_with fail
     refine(R7.out _).mono ?_;rintro e w3 ⟨rfl,k3⟩
     have Ro:=Mb (HKX.out.trans k3)
     have XG:=Mb (HRX.out.kept0 k3)
     have TM:=HRX.out.kept0 k3
     obtain⟨vs,hvs,Nt,heach⟩:=TM
     rw[Oa.out]at Nt
     have HVS:=Mb hvs
     have OK:=Mb Nt
     have TB:=Mb heach
     obtain⟨i0,q0,q1,q2,q3⟩:=nv
     have m3:k+1<=maxLen:=by have:=NU.out;unfold maxLen;omega
     have m4:(k+1)*64<=140737488355328:=by have:=NU.out;omega
     have ady:w.heap.size<=w3.heap.size:=Ro.out.size
     clear k3 hvs Nt heach
     go_wp2_with (at_builtin;go_must (refine Mv _ rfl (.tmp 33) (.tmp 36) 92 rfl w.heap.size 102 i0 (.agg #[.int .i64 0,.int .u32 0,.string {data:=#[]},.int .i64 0,.slice none 0 0]) 5 64 Tryz.underlying92 q0 q1 q2 q3 rfl (by decide) _ _ _ rfl (Me OK.out _) ⟨w3.heap.size,0,none⟩ 1 1 [.int .i64 xk,.int .u32 xi,.string (bs xn),.int .i64 0,.slice none 0 0] rfl rfl ?_ ?_ m3 m4 ?_ ?_))
     .exact dw _ _ _
     .intro u hu;simp at hu;rcases hu with rfl|rfl|rfl|rfl|rfl<;>rfl
     .simp<;>omega
     intro v6 w6 o6 OE _ _
     have Rg:=OK.out
     have Tb:aP w w6 v6 ((l.take (k+1)).map VC.told):=by
      rw[Qp.out]
      exact aP.more HVS.out TB.out (by rw[Oa.out];exact Rg) (MG _ _ _ _) HF.out OE (by rw[Oa.out];exact o6)
     have Ps:aa [] w w6:=(Ro.out.alloc _).grown OE (fun q hq=>Or.inr (Mn Rg q hq).1)
     have Ue:=Mb Tb
     have Qg:=Mb Ps
     clear Tb Ps Rg o6 OE
     go_wp2_with fail
     go_roundw
     case rel=>exact⟨k+1,NU.out,by go_num,HG.out,Ue.out,Qg.out⟩
     case measure=>(have hh:=NU.out;simp[intOf]<;>omega)
   .obtain rfl:k=l.length:=by omega
    rw[MC]at OL OT
    obtain⟨p6,c6,rfl⟩:=OT.shape
    have HA:=Mb (Sd.out wr _ _ _ hK OT.rO)
    have HC:=Mb (HW.out.trans (by rw[OL]))
    have HK:=Mb hK
    have i1:¬((l.length:Nat):Int)<l.length:=by omega
    obtain⟨_,_,_,_,_,_,_,a7,a8,a9,a10,a11,_⟩:=(HO.out _ hK).jC
    rw[Mm]
    rw[Mm]at HA
    unfold cE at HA
    clear OL OT hK
    go_wp2_with fail
    refine HA.out.mono ?_;rintro e w4 ⟨vc,rfl,hcat4,k4⟩
    obtain⟨vb4,vm4,vn4,rfl,j1,j2,j3,_⟩:=hcat4
    obtain⟨r1,e1,rfl⟩:=j1.plain.shape
    obtain⟨r2,e2,rfl⟩:=j2.plain.shape
    obtain⟨r3,e3,rfl⟩:=j3.plain.shape
    clear j1 j2 j3
    have Pv:=Mb (HK.out.trans k4)
    clear k4
    go_wp2_with fail
    go_ret
    exact⟨by rw[HC.out];rfl,Pv.out.alloc _⟩
end Go.Proofs.YtdkimcnlhmhpgaaGreat

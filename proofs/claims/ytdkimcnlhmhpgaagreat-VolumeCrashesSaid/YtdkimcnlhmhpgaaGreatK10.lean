/- -/
import Derived.Test.YtdkimcnlhmhpgaaGreatK09
import Derived.RangeFuncNested
import Derived.OwnWalkIn
import Derived.TacticsInMore
import Derived.LoopNIn
import Derived.LoopIn
import Derived.Deep.RegionHeld3
set_option maxHeartbeats 16000000
set_option maxRecDepth 100000
namespace Go.Proofs.YtdkimcnlhmhpgaaGreat
open Go.RowKit Go.Shelf
variable {n₀:Nat} {w:World}
theorem MW:type_of% @List.getElem_cons_succ:=@List.getElem_cons_succ
theorem MO:type_of% @List.mem_iff_getElem:=@List.mem_iff_getElem
attribute [local go_sem] Oper.semAt_some
def mD (n₀:Nat) (W W':World):Prop:=Below n₀ W W'/\∀(k:Nat) cs f,W.heap[k]? =some (.cells cs 128 f)->W'.heap[k]? =some (.cells cs 128 f)
theorem mD.trans {A B C:World} (h:mD n₀ A B) (k:mD n₀ B C):mD n₀ A C:=⟨h.1.trans k.1,fun i cs f hi=>k.2 i cs f (h.2 i cs f hi)⟩
theorem mD.JK (hn:n₀<=w.heap.size) (W:World) (l:Nat) (o o':Obj) (hl:w.heap.size<=l) (h:W.heap[l]? =some o) (hc:o.isCells=false) (hw:o.isWalk=false):mD n₀ W (W.putObj l o'):=
 ⟨belowK_b hn W l o o' hl h hc hw,fun k cs f hk=>by
  have Ot:k≠l:=fun e=>by subst e;rw[h]at hk;cases hk;cases hc
  exact(World.putObj_heap_other (by omega)).trans hk⟩
theorem af.Eo {w':World} {v:Value} {l:List (Int×Int)} {lo hi:Nat} (h:af w v l lo hi) (k:Below n₀ w w') (hh:hi<=n₀):af w' v l lo hi:=by
 rcases h with h|⟨b,off,c,h1,h2,h3,h4,h5,h6,h7,h8⟩
 .exact Or.inl h
 .refine Or.inr ⟨b,off,c,h1,fun i hi'=>?_,h3,h4,MA h5 k.size,h6,h7,h8⟩
  rw[k.cell (by show b<_;omega),k.cell (by show b<_;omega)]
  exact h2 i hi'
theorem C4 (l:List (Int×Int)) (k:Nat) (h:k<l.length) (j:Nat) (hj:j<=l[k].2.toNat):Nu (l.take k)++(List.range j).map (fun i=>l[k].1.toNat+i) <+: Nu l:=by
 have e:Nu l=Nu (l.take k)++((List.range l[k].2.toNat).map (fun i=>l[k].1.toNat+i)++Nu (l.drop (k+1))):=by
  rw[<-Mi,<-ts l k h,<-pV,List.take_append_drop]
 rw[e]
 refine List.prefix_append_right_inj _ |>.2 ?_
 refine List.IsPrefix.trans ?_ (List.prefix_append _ _)
 have:List.range j=(List.range l[k].2.toNat).take j:=by rw[List.take_range,Nat.min_eq_left hj]
 rw[this,List.map_take]
 exact List.take_prefix _ _
theorem Gi (n:Nat) (hn:1<=n) (l B1 B2 n₀ lo hi:Nat) (sv:Value) (rl:List (Int×Int)) (hm:eQ 0 8192 rl) (Po:rl.length<=1000000) (J Jx:List Nat->World->Prop) (W:World)
  (hJ:AbidesFrom W.heap.size J)
  (hY:∀pre x W1,J pre W1->pre.length<(Nu rl).length->YieldAt Fence.wide (n-1) Tryz.prog l #[.int .i64 ((x:Nat):Int)] W1 fun e W'=>
   (e=.returned (.bool true)/\J (pre++[x]) W'/\mD n₀ W1 W')\/(e=.returned (.bool false)/\Jx (pre++[x]) W'))
  (hB1:W.cell? ⟨B1,0,none⟩=some (.bool true)) (VD:W.cell? ⟨B2,0,none⟩=some sv) (hR:af W sv rl lo hi) (UH:hi<=n₀) (U7:n₀<=W.heap.size) (h0:J [] W):
  CallsIn Fence.wide n Tryz.prog 179 #[.func (.yield l) #[] #[],.pointer (some ⟨B1,0,none⟩),.pointer (some ⟨B2,0,none⟩)] W fun e W'=>(∃v,e=.returned v)/\
   ((∃ys,ys=Nu rl/\J ys W')\/(∃pre,pre <+: Nu rl/\Jx pre W')):=by
 obtain⟨p,c,rfl⟩:=hR.shape
 refine callsIn_of_wp Tryz.func179 rfl trivial ?_ rfl
 simp only[Tryz.ntmps179,List.size_toArray,Mz,List.length_nil,Nat.reduceAdd,Nat.reduceSub,Array.replicate_succ,Array.replicate_zero,List.push_toArray,List.append_toArray,Nd,List.cons_append]
 gi_wp2
 gi_loopw [11] (fun i wr=>∃k:Nat,k<=rl.length/\i=.int .i64 k/\J (Nu (rl.take k)) wr/\Below n₀ W wr) (fun i _=>rl.length-(intOf i).toNat)
 case atStart=>exact⟨0,Mu _,rfl,h0,Below.refl _ _⟩
 case round=>
  obtain⟨wo,rfl⟩:∃wo:World,wo=wr:=⟨_,rfl⟩
  obtain⟨k,hk,rfl,hJs,hB⟩:=hrel
  by_cases Ns:k<rl.length
  .have hRw:=hR.Eo hB UH
   have Pc:=ts rl k Ns
   have hpr:=C4 rl k Ns
   have OJ:=hm.1 _ (Mh Ns)
   obtain⟨b,off,rfl,c0,c1,hb,Py,Pb⟩:=hRw.at_ k Ns
   unfold iG at OJ
   generalize rl[k]=r at*
   obtain⟨ra,rn⟩:=r
   obtain⟨o1,o2,o3,o4⟩:=OJ
   simp only at o1 o2 o3 o4 c0 c1 Pc hpr
   obtain⟨a,rfl⟩:=Mr o1
   obtain⟨m,rfl⟩:=Mr (show 0<=rn by omega)
   simp only[ML]at Pc hpr
   have O4:=hB.size
   have hJa:=fun(o:Obj)=>hJ _ wo (wo.alloc o) none hJs (World.grownBy_alloc wo o none) (fun r e=>by cases e)
   have hBa:=fun(o:Obj)=>hB.alloc (by omega) o
   have i1:(k:Int)<rl.length:=by omega
   have oo:=ae.new wo #[.int .i64 (a:Int),.int .i64 (m:Int)] 128
   have hJ0:=hJa (.cells #[.int .i64 (a:Int),.int .i64 (m:Int)] 128)
   have Zs:=hBa (.cells #[.int .i64 (a:Int),.int .i64 (m:Int)] 128)
   have Yz:wrap64 ((k:Int)+1)=(k:Int)+1:=IntWalk.wrap64_in _ (by omega)
   have HPR:=Mb hpr
   have Tc:=Mb Pc
   have HY:=Mb hY
   have HJ0:=Mb hJ0
   have UN:=Mb Zs
   have HOO:=Mb oo
   have NU:=Mb Ns
   have HO:=Mb (And.intro o2 o4)
   clear hpr Pc hY hm hJa hBa hJ hJs hB hR hRw hJ0 Zs oo Py Pb UH U7 O4 hb Po hk o1 o2 o3 o4 Ns
   gi_wp2
   gi_loopw [17] (fun i wx=>∃j:Nat,j<=m/\i=.int .i64 j/\J (Nu (rl.take k)++(List.range j).map (fun i=>a+i)) wx/\Below n₀ W wx/\ae wx wo.heap.size #[.int .i64 (a:Int),.int .i64 (m:Int)] 128) (fun i _=>m-(intOf i).toNat)
   case atStart=>exact⟨0,Mu _,rfl,by simpa using HJ0.out,UN.out,HOO.out⟩
   case round=>
    obtain⟨j,hj,rfl,hJx,hBx,ox⟩:=hrel
    obtain⟨hr0,Vq⟩:=ox.c2
    by_cases hjm:j<m
    .have hlen:(Nu (rl.take k)++(List.range j).map (fun i=>a+i)).length<(Nu rl).length:=by
      have:=(HPR.out (j+1) (by omega)).length_le
      simp only[Mc,Mm,List.length_range]at this ⊢
      omega
     have Pt:(Nu (rl.take k)++(List.range j).map (fun i=>a+i))++[a+j]=Nu (rl.take k)++(List.range (j+1)).map (fun i=>a+i):=by
      rw[List.range_succ,Ms,Mi];rfl
     obtain⟨fn,tmps,assign,body,hy,hRd⟩:=HY.out _ (a+j) wr hJx hlen
     rw[Pt]at hRd
     simp only[Int.natCast_add]at hy
     have i2:(j:Int)<m:=by omega
     have hwj:wrap64 ((j:Int)+1)=(j:Int)+1:=IntWalk.wrap64_in _ (by have:=HO.out;omega)
     have hw:wrap64 ((a:Int)+(j:Int))=(a:Int)+(j:Int):=IntWalk.wrap64_in _ (by have:=HO.out;omega)
     have HJM:=Mb hjm
     have Q0:=Mb hBx
     have ZK:=Mb ox
     clear hlen Pt hjm hj hBx ox hJx
     gi_wp2
     refine hRd.mono ?_
     rintro e W3 (⟨rfl,hJ3,PE⟩|⟨rfl,hJx3⟩)
     .gi_wp2
      go_roundw
      case rel=>exact⟨j+1,HJM.out,by simp[hwj],hJ3,Q0.out.trans PE.1,PE.2 _ _ _ ZK.out⟩
      case measure=>(have:=HJM.out;simp only[hwj];clear hwj Yz hw;simp[intOf];omega)
     .gi_wp2
      refine Mx (results_none rfl _ _ _) rfl ?_
      exact⟨⟨_,rfl⟩,.inr ⟨_,HPR.out (j+1) HJM.out,hJx3⟩⟩
    .obtain rfl:j=m:=by omega
     gi_wp2
     go_roundw
     case rel=>exact⟨k+1,NU.out,by simp[Yz],by rw[Tc.out];exact hJx,hBx⟩
     case measure=>(have:=NU.out;simp only[Yz];clear Yz;simp[intOf];omega)
  .obtain rfl:k=rl.length:=by omega
   gi_wp2
   go_end0
   exact⟨⟨_,rfl⟩,.inl ⟨_,by rw[MC],hJs⟩⟩
end Go.Proofs.YtdkimcnlhmhpgaaGreat
namespace Go.Proofs.YtdkimcnlhmhpgaaGreat
open Go.RowKit
variable {P:Program} {a:Act} {w w':World} {f s z size:Int} {l t:List (Int×Int)} {n:Nat} {A:Prop}
theorem bD {ops:Array Oper} {Q:Exit->Act->World->Prop} {md:Region.Mode} {S:World->Prop} {i:Nat} {oi:Oper} {v:Value} {d:Option Tmp} {fuel:Nat} {listed:Array Bool} (hi:ops[i]? =some oi) (hd:oi.dst=d)
  (hs:Region.noSelect ops=true) (hf:Region.free md ops listed i=true) (hr:(Region.ready md ops listed).contains i=true)
  (hQ:∀c a w,Q (.panic c) (a.put d v) w->Q (.panic c) a w) (hy:YieldsIf P ops S oi v a) (hS:S w)
  (h:wpAnyH P md ops Q S fuel (listed.setIfInBounds i true) (a.put d v) w):wpAnyH P md ops Q S (fuel+1) listed a w:=by
 subst hd
 exact wpAnyH_take hi hs hf hr hQ hy hS h
def Lz (F:Act->World->Prop) (e:Exit) (a:Act) (w:World):Prop:=e=.normal/\F a w
theorem Ae {c:Code} {F K:Act->World->Prop} {Q:Exit->Act->World->Prop} (h:c.wp P (Lz F) a w) (h2:∀a w,F a w->K a w):c.wp P (Exit.then K Q) a w:=
 wp_mono h (fun e a w he=>by obtain⟨rfl,hf⟩:=he;exact h2 a w hf)
def ma (f s:Int) (l:List (Int×Int)) (w:World) (e:Ending) (w':World):Prop:=∃r,e=.returned (.bool r)/\(r=true↔eQ f s l)/\aa [] w w'
theorem mN (h:¬eQ f s l) (k:aa [] w w'):ma f s l w (.returned (.bool false)) w':=⟨false,rfl,⟨fun q=>(by cases q),fun q=>absurd q h⟩,k⟩
theorem xO (h:eQ f s l) (k:aa [] w w'):ma f s l w (.returned (.bool true)) w':=⟨true,rfl,⟨fun _=>h,fun _=>rfl⟩,k⟩
theorem M50 {A:Prop}(h:A:=by
 have Ur:=Mb Qi
 have OY:aa [] w w1:=((aa.refl _ _).alloc _).grown Om (fun k hk=>Or.inr (by simp[Value.ownBlock]at hk;omega))
 clear N3 Om QE Qi
 go_wp2_with fail
 go_ret
 exact⟨_,rfl,Ur.out,OY⟩):A:=h
theorem lj (v:Value) (l:List (Int×Int)) (lo hi:Nat) (w:World) (h:af w v l lo hi) (hl:l.length<=1000000):
  Calls Tryz.prog 69 #[v] w (bG l w):=by
 obtain⟨i0,hi0,hz0,PS,P8⟩:=gT
 have q22:∀(w:World) (a:Option Addr) (n c n' c':Nat),(binOp .eql 56 (.slice a n c) (.slice none n' c')).run Tryz.prog w=.ok (.bool a.isNone) w:=fun w a n c n' c'=>Lib.run_eql_slice_nil w _ _ a n c n' c' Tryz.underlying56
 obtain⟨p,c,rfl⟩:=h.shape
 unfold bG
 cases p with
 |none=>
  have UI:l=[]:=by
   rcases h with⟨h,_⟩|⟨b,off,c',e,_⟩
   .exact h
   .simp at e
  subst UI
  go_enter Tryz.func69,Tryz.ntmps69
  go_wp2_with fail
  go_ret
  exact⟨_,rfl,MG _ _ _ _,aa.refl _ _⟩
 |some ad=>
  have NW:∀j u,(No l)[j]? =some u->w.cell? (ad.add j)=some u:=by
   rcases h with⟨rfl,_⟩|⟨b,off,c',e,h2⟩
   .intro j u hj;simp[No]at hj
   .simp at e
    exact M27
  have A:=Mb NW
  clear NW h
  have Vq:=dv l
  have QU:=kH l
  have Xw:=Mb Vq
  have HR2:=Mb QU
  clear Vq QU
  go_enter Tryz.func69,Tryz.ntmps69
  go_wp2_with (at_builtin;refine wpList_append_own _ rfl _ _ 56 rfl w.heap.size 128 i0 _ 2 16 Tryz.underlying56 hi0 hz0 PS P8 rfl (by decide) _ _ _ rfl (World.ownsRow_made w #[] 0 (Md _) (Mu _) (by simp)) ad l.length c (No l) rfl ?qc1 ?qc2 ?qc3 ?qc4 ?qc5 ?qc6 ?_)
  case qc1=>exact Xw.out
  case qc2=>intro j u hj;exact Lib.cell?_alloc_some _ (A.out j u hj)
  case qc3=>exact HR2.out
  case qc4=>unfold maxLen;omega
  case qc5=>omega
  case qc6=>simp
  intro v' w1 N3 Om QE
  have Qi:w1.ownsRow w.heap.size 128 2 v' l.length (No l):=by simpa using N3
  exact M50
theorem zi {f z:Int} {t:List (Int×Int)} (hr:jE t) (OJ:∀j (hj:j<t.length),iG f z t[j]) (Tq:∀j (hj:j+1<t.length),t[j].1+t[j].2<=t[j+1].1):eQ f z t:=by
 refine⟨fun a ha=>?_,?_⟩
 .obtain⟨j,hj,rfl⟩:=MO.1 ha
  exact OJ j hj
 .rw[List.pairwise_iff_getElem]
  intro i j hi hj Vu
  refine Or.inl ?_
  have h1:=Tq i (by omega)
  by_cases e:j=i+1
  .subst e;exact h1
  .have h2:=List.pairwise_iff_getElem.1 hr (i+1) j (by omega) hj (by omega)
   omega
theorem BI (hr:jE t) (hn:n+1<t.length) (h1:1<=t[n+1].2) (h:t[n+1].1<t[n].1+t[n].2):¬eQ f z t:=fun hm=>by
 have h2:=List.pairwise_iff_getElem.1 hm.2 n (n+1) (by omega) hn (by omega)
 have h3:=List.pairwise_iff_getElem.1 hr n (n+1) (by omega) hn (by omega)
 rcases h2 with h2|h2<;>omega
def yB (f z:Int) (t:List (Int×Int)) (k:Nat):Prop:=(∀j (hj:j<t.length),j<k->iG f z t[j])/\∀j (hj:j+1<t.length),j+1<k->t[j].1+t[j].2<=t[j+1].1
theorem Dx (f z:Int) (t:List (Int×Int)):yB f z t 0:=⟨fun j _ h=>by omega,fun j _ h=>by omega⟩
theorem FC (h0:0<t.length) (h:iG f z t[0]):yB f z t 1:=⟨fun j _ hj=>by
 obtain rfl:j=0:=by omega
 exact h,fun j _ h=>by omega⟩
theorem Dy (hn:n+1<t.length) (h:yB f z t (n+1)) (h1:iG f z t[n+1]) (h2:t[n].1+t[n].2<=t[n+1].1):yB f z t (n+1+1):=by
 refine⟨fun j hj Vs=>?_,fun j hj Vs=>?_⟩
 .by_cases e:j=n+1
  .subst e;exact h1
  .exact h.1 j hj (by omega)
 .by_cases e:j=n
  .subst e;exact h2
  .exact h.2 j hj (by omega)
theorem M92 (h:A:=by
 have YM:=Mb R9
 clear R9
 go_wp2_with fail
 go_ret
 exact mN YM.out (Vw.out _ ((aa.refl _ _).alloc _))):A:=h
theorem Jz (v:Value) (l:List (Int×Int)) (f z:Int) (lo hi:Nat) (w:World) (h:af w v l lo hi) (hl:l.length<=1000000) (Ox:∀a∈l,aU a) (f1: -9223372036854775808<=f) (f2:f<=9223372036854775807) (s1: -9223372036854775808<=z) (s2:z<=9223372036854775807):
  Calls Tryz.prog 178 #[v,.int .i64 f,.int .i64 z] w (ma f z l w):=by
 have hc:=lj v l lo hi w h hl
 unfold bG at hc
 obtain⟨p,c,rfl⟩:=h.shape
 have HC:=Mb hc
 have XX:=Mb Ox
 have Sf:=fun v1 w1 (r1:w1.ownsRow w.heap.size 128 2 v1 l.length (No l))=>Jw w.heap.size v1 l w1 r1 hl
 unfold im at Sf
 have Xc:=Mb Sf
 clear h hc Ox Sf
 generalize hN:l.length=N at*
 have HN:=Mb hN
 clear hN
 go_enter Tryz.func178,Tryz.ntmps178
 go_wp2_with fail
 refine HC.out.mono ?_;rintro e w1 ⟨v1,rfl,r1,k1⟩
 have Sf:=Xc.out _ _ r1
 have Xc:=Mb Sf
 obtain⟨p1,c1,rfl⟩:=ai r1
 clear Sf r1
 go_wp2_with fail
 refine Xc.out.mono ?_;rintro e w3 ⟨rfl,t,Pm,hris,Sl,k3⟩
 have K3:aa [] w w3:=by
  rcases Sl.2 with⟨e1,_⟩|⟨g,cap,cur,e1,hb,_⟩
  .exact k1.call (k3 [] (fun g hg=>by rw[e1]at hg;simp[Value.ownBlock]at hg)) (fun x hx=>by cases hx)
  .refine k1.call (k3 [g] (fun g' hg=>?_)) (fun x hx=>Or.inr ?_)
   .rw[e1]at hg
    have:g=g':=by simpa[Value.ownBlock]using hg
    simp[this]
   .have hx:x=g:=by simpa using hx
    omega
 have Px:N=t.length:=by rw[<-HN.out];exact Pm.length_eq.symm
 clear HN
 subst Px
 have hS:=af.bo Sl
 have hmp:eQ f z t↔eQ f z l:=DG Pm
 have UK:∀a∈t,aU a:=fun a ha=>XX.out a (Pm.mem_iff.1 ha)
 have HS:=Mb hS
 have HMP:=Mb hmp
 have HWT:=Mb UK
 have WW:=Mb hris
 clear hS hmp UK hris Sl k3 Xc XX Pm HC
 have j1:(t.length:Int)<=1000000:=by omega
 have hw3:=K3.size
 go_wp2_with fail
 go_loopw [16] (fun i wr=>∃k:Nat,k<=t.length/\i=.int .i64 k/\yB f z t k/\aa [] w3 wr) (fun i _=>t.length-(intOf i).toNat)
 case atStart=>exact⟨0,by omega,rfl,Dx _ _ _,aa.refl _ _⟩
 case round=>
  obtain⟨k,hk,rfl,hO,hK⟩:=hrel
  by_cases Ns:k<t.length
  .obtain⟨b,off,rfl,c0,c1,hb,Py,Pb⟩:=(HS.out.kept0 hK).at_ k Ns
   have Yz:=HWT.out t[k] (Mh Ns)
   have OF:¬iG f z t[k]->¬eQ f z l:=fun hh hm=>hh ((HMP.out.2 hm).1 _ (Mh Ns))
   have i1:(k:Int)<t.length:=by omega
   have Pk:=Mb OF
   have NU:=Mb Ns
   have HO:=Mb hO
   have Zp:∀wx,aa [] wr wx->aa [] w wx:=fun wx hx=>(K3.trans hK).trans hx
   have Vw:=Mb Zp
   clear OF hO Zp
   rcases Nat.eq_zero_or_pos k with rfl|aaF
   .have Pn:=fun hh=>FC (f:=f) (z:=z) Ns hh
    have aaY:=Mb Pn
    clear Pn
    generalize t[0]=X at*
    obtain⟨x0,xn⟩:=X
    obtain⟨w1',w2',VO,w4'⟩:=Yz
    unfold iG at Pk aaY
    simp only[Nat.zero_mul,Nat.add_zero]at c0 c1
    simp only at c0 c1 w1' w2' VO w4' Pk aaY
    rcases(by omega:x0<f\/(f<=x0/\xn<1)\/(f<=x0/\1<=xn/\z<=x0)\/(f<=x0/\1<=xn/\x0<z/\0<=x0/\z-x0<xn)\/(f<=x0/\1<=xn/\x0<z/\x0<0/\z<x0+xn)\/((f<=x0/\1<=xn/\x0<z/\0<=x0/\xn<=z-x0)\/(f<=x0/\1<=xn/\x0<z/\x0<0/\x0+xn<=z)))with g1|⟨g1,g2⟩|⟨g1,g2,g3⟩|⟨g1,g2,g3,g4,g5⟩|⟨g1,g2,g3,g4,g5⟩|⟨g1,g2,g3,g4,g5⟩|⟨g1,g2,g3,g4,g5⟩
    iterate 5
     .have R9:=Pk.out (by omega)
      exact M92
    all_goals
     have OJ:=aaY.out (by omega)
     have Ql:=Mb OJ
     clear OJ
     go_wp2_with fail
     go_quiet (fail)
     go_wp2_with fail
     go_roundw
     case rel=>exact⟨0+1,NU.out,by go_num,Ql.out,(hK.alloc _).drewN _⟩
     case measure=>(have hh:=NU.out;simp[intOf];omega)
   .obtain⟨n,rfl⟩:∃n,k=n+1:=⟨k-1,by omega⟩
    obtain⟨b',off',e',d0,d1,_⟩:=(HS.out.kept0 hK).at_ n (by omega)
    injection e' with e'
    injection e' with e1 e2 _
    subst e1 e2
    have hnl:n<t.length:=by omega
    have acu:=HO.out.1 n hnl (by omega)
    have Vk:=fun h1 h2=>Dy Ns HO.out h1 h2
    have Pe:1<=t[n+1].2->t[n+1].1<t[n].1+t[n].2->¬eQ f z l:=fun h1 h2 hm=>BI WW.out Ns h1 h2 (HMP.out.2 hm)
    have UT:=Mb Vk
    have Sn:=Mb Pe
    clear Vk Pe HO aaF
    generalize t[n+1]=X at*
    generalize t[n]=Y at*
    obtain⟨x0,xn⟩:=X
    obtain⟨y0,yn⟩:=Y
    obtain⟨w1',w2',VO,w4'⟩:=Yz
    obtain⟨q1,q2,q3,q4⟩:=acu
    unfold iG at Pk UT
    simp only at c0 c1 w1' w2' VO w4' Pk UT d0 d1 q1 q2 q3 q4 Sn
    have i2:(n:Int)+1<t.length:=by omega
    have i3:(n:Int)<t.length:=by omega
    rcases(by omega:x0<f\/(f<=x0/\xn<1)\/(f<=x0/\1<=xn/\z<=x0)\/(f<=x0/\1<=xn/\x0<z/\0<=x0/\z-x0<xn)\/(f<=x0/\1<=xn/\x0<z/\x0<0/\z<x0+xn)\/((f<=x0/\1<=xn/\x0<z/\0<=x0/\xn<=z-x0)\/(f<=x0/\1<=xn/\x0<z/\x0<0/\x0+xn<=z)))with g1|⟨g1,g2⟩|⟨g1,g2,g3⟩|⟨g1,g2,g3,g4,g5⟩|⟨g1,g2,g3,g4,g5⟩|⟨g1,g2,g3,g4,g5⟩|⟨g1,g2,g3,g4,g5⟩
    iterate 5
     .have R9:=Pk.out (by omega)
      exact M92
    all_goals
     by_cases Pq:y0+yn<=x0
     .have OJ:=UT.out (by omega) Pq
      have Ql:=Mb OJ
      clear OJ
      go_wp2_with fail
      go_quiet (fail)
      go_wp2_with fail
      go_roundw
      case rel=>exact⟨n+1+1,NU.out,by go_num,Ql.out,(hK.alloc _).drewN _⟩
      case measure=>(have hh:=NU.out;simp[intOf];omega)
     .have R9:=Sn.out g2 (by omega)
      have YM:=Mb R9
      clear R9
      go_wp2_with fail
      go_quiet (fail)
      go_wp2_with fail
      go_ret
      exact mN YM.out (Vw.out _ (((aa.refl _ _).alloc _).drewN _))
  .obtain rfl:k=t.length:=by omega
   have hM:eQ f z l:=HMP.out.1 (zi WW.out (fun j hj=>hO.1 j hj hj) (fun j hj=>hO.2 j hj hj))
   have HM:=Mb hM
   clear hM hO
   go_wp2_with fail
   go_ret
   exact xO HM.out (K3.trans hK)
structure SB where
 seq:Nat
 sectors:Int
 journal:Int
 used:Int
 size:Int
 runs:List (Int×Int)
def SB.cells (s:SB) (v:Value):Array Value:=#[.int .u64 s.seq,.int .i64 s.sectors,.int .i64 s.journal,.int .i64 s.used,.int .i64 s.size,v]
def SB.eF (s:SB):Prop:=1<=s.seq/\4<=s.sectors/\s.sectors<=8192/\1<=s.journal/\s.journal<=s.sectors-2/\0<=s.used/\s.used<=s.journal*128/\0<=s.size/\s.size<=1048576/\s.runs.length<=16
def SB.may (s:SB):Prop:=s.eF/\lies (2+s.journal) s.sectors s.runs=true/\Nw s.runs=Nv s.size
theorem SB.vM (s:SB):(¬s.eF/\((s.seq<1)\/(1<=s.seq/\s.sectors<4)\/(1<=s.seq/\4<=s.sectors/\8192<s.sectors)\/
  ((1<=s.seq/\4<=s.sectors/\s.sectors<=8192)/\((s.journal<1)\/(1<=s.journal/\s.sectors-2<s.journal)\/
  ((1<=s.journal/\s.journal<=s.sectors-2)/\((s.used<0)\/(0<=s.used/\s.journal*128<s.used)\/
  ((0<=s.used/\s.used<=s.journal*128)/\((s.size<0)\/(0<=s.size/\1048576<s.size)\/(0<=s.size/\s.size<=1048576/\16<s.runs.length)))))))))\/
  (s.eF/\1<=s.seq/\4<=s.sectors/\s.sectors<=8192/\1<=s.journal/\s.journal<=s.sectors-2/\0<=s.used/\s.used<=s.journal*128/\0<=s.size/\s.size<=1048576/\s.runs.length<=16):=by
 by_cases h:s.eF
 .exact Or.inr ⟨h,h⟩
 .refine Or.inl ⟨h,?_⟩
  unfold SB.eF at h
  omega
theorem Ds (s:SB) (v:Value) (lo hi:Nat) (w:World) (h:af w v s.runs lo hi) (OF:¬s.eF) (hl:s.runs.length<=1000000):
  Calls Tryz.prog 164 #[.agg (s.cells v)] w fun e w'=>e=.returned (.int .i64 1)/\aa [] w w':=by
 obtain⟨p,c,rfl⟩:=h.shape
 have hc:=s.vM
 obtain⟨sq,a,b,u,z,l⟩:=s
 simp only[SB.cells]at*
 rcases hc with⟨_,hc⟩|⟨hy,_⟩
 .clear h OF
  rcases hc with g1|⟨g1,g2⟩|⟨g1,g2,g3⟩|⟨⟨g1,g2,g3⟩,g4|⟨g4,g5⟩|⟨⟨g4,g5⟩,g6|⟨g6,g7⟩|⟨⟨g6,g7⟩,g8|⟨g8,g9⟩|⟨g8,g9,g10⟩⟩⟩⟩
  all_goals
   go_enter Tryz.func164,Tryz.ntmps164
   go_wp2_with fail
   go_ret
   exact⟨rfl,(aa.refl _ _).alloc _⟩
 .exact absurd hy OF
def Ex (s:SB) (w:World) (e:Ending) (w':World):Prop:=((s.may/\e=.returned (.int .i64 0))\/(¬s.may/\e=.returned (.int .i64 1)))/\aa [] w w'
theorem M97 (h:A:=by
 go_wp2_with fail
 go_ret
 exact⟨Or.inr ⟨HX.out,rfl⟩,((aa.refl _ _).alloc _).trans hk⟩):A:=h
theorem Dt (s:SB) (v:Value) (lo hi:Nat) (w:World) (h:af w v s.runs lo hi) (hl:s.runs.length<=1000000):
  Calls Tryz.prog 164 #[.agg (s.cells v)] w (Ex s w):=by
 by_cases OF:s.eF
 .have hc:=s.vM
  rcases hc with⟨hy,_⟩|⟨_,g1,g2,g3,g4,g5,g6,g7,g8,g9,g10⟩
  .exact absurd OF hy
  .have XP:=fun w h=>LU v s.runs lo hi (2+s.journal) s.sectors w h hl (by omega) (by omega) (by omega) g3
   have Wd:=fun w=>nY s.size w (by simp only[Lit.wf,MJ,decide_eq_true_eq];exact⟨by show(-9223372036854775808:Int)<=_;omega,by show _<=(9223372036854775807:Int);omega⟩)
   have WE:lies (2+s.journal) s.sectors s.runs=true->Nw s.runs=Nv s.size->s.may:=fun a b=>⟨OF,a,b⟩
   have Rx:lies (2+s.journal) s.sectors s.runs=false->¬s.may:=fun a hm=>by rw[hm.2.1]at a;cases a
   have Qy:Nw s.runs≠Nv s.size->¬s.may:=fun a hm=>a hm.2.2
   have HY:=Mb WE
   have Wa:=Mb Rx
   have Xp:=Mb Qy
   obtain⟨p,c,rfl⟩:=h.shape
   clear WE Rx Qy OF
   unfold SB.cells
   generalize s.seq=sq at*
   generalize s.sectors=a at*
   generalize s.journal=b at*
   generalize s.used=u at*
   generalize s.size=z at*
   generalize s.runs=l at*
   have hk0:∀w',aa [] w w'->af w' (.slice p l.length c) l lo hi:=fun w' hk=>h.kept0 hk
   clear h
   have HK:=Mb hk0
   clear hk0
   go_enter Tryz.func164,Tryz.ntmps164
   have o:=ae.new w #[.int .u64 (sq:Int),.int .i64 a,.int .i64 b,.int .i64 u,.int .i64 z,.slice p l.length c] 58
   go_wp2_with fail
   refine(XP _ (HK.out _ ((aa.refl _ _).alloc _))).mono ?_;rintro e w1 ⟨rfl,hk⟩
   have o1:=hk.own o (by simp)
   have c4:=o1.cell 4 (by simp)
   simp only[List.getElem_toArray,MW,List.getElem_cons_zero]at c4
   cases hL:lies (2+b) a l
   .have HX:=Mb (Wa.out hL)
    rw[if_neg (by simp)]
    clear hL XP Wd
    exact M97
   .rw[if_pos rfl]
    by_cases hq:Nw l=Nv z
    .have HX:=Mb (HY.out hL hq)
     have Q8:(Nw l==Nv z)=true:=by simpa using hq
     clear hL XP hq
     generalize Nw l=m at*
     generalize Nv z=n at*
     go_wp2_with fail
     refine(Wd _).mono ?_;rintro e w2 ⟨rfl,rfl⟩
     go_wp2_with fail
     go_ret
     exact⟨Or.inl ⟨HX.out,rfl⟩,((aa.refl _ _).alloc _).trans hk⟩
    .have HX:=Mb (Xp.out hq)
     have Q8:(Nw l==Nv z)=false:=by simpa using hq
     clear hL XP hq
     generalize Nw l=m at*
     generalize Nv z=n at*
     go_wp2_with fail
     refine(Wd _).mono ?_;rintro e w2 ⟨rfl,rfl⟩
     exact M97
 .exact(Ds s v lo hi w h OF hl).mono fun e w' hh=>⟨Or.inr ⟨fun hm=>OF hm.1,hh.1⟩,hh.2⟩
def rC (l:List (Int×Int)) (n size:Int) (w:World) (e:Ending) (w':World):Prop:=∃r,e=.returned (.bool r)/\(r=true↔dA l n size)/\aa [] w w'
theorem kQ {n:Int} (h:¬dA l n size) (k:aa [] w w'):rC l n size w (.returned (.bool false)) w':=⟨false,rfl,⟨fun q=>(by cases q),fun q=>absurd q h⟩,k⟩
theorem zS {n:Int} (h:dA l n size) (k:aa [] w w'):rC l n size w (.returned (.bool true)) w':=⟨true,rfl,⟨fun _=>h,fun _=>rfl⟩,k⟩
theorem L3 (v:Value) (l:List (Int×Int)) (n size:Int) (lo hi:Nat) (w:World) (h:af w v l lo hi) (hl:l.length<=1000000) (Ox:∀a∈l,aU a) (hn:(Lit.int .i64 n).wf=true) (hs:(Lit.int .i64 size).wf=true):
  Calls Tryz.prog 177 #[v,.int .i64 n,.int .i64 size] w (rC l n size w):=by
 have bn:=fA hn
 have bz:=fA hs
 obtain⟨m,hm⟩:∃m,min n 8192=m:=⟨_,rfl⟩
 have HM:∀W,aa [] w W->Calls Tryz.prog 178 #[v,.int .i64 0,.int .i64 m] W (ma 0 m l W):=fun W k=>Jz v l 0 m lo hi W (h.kept0 k) hl Ox (by omega) (by omega) (by omega) (by omega)
 have HC:∀W,aa [] w W->Calls Tryz.prog 65 #[v] W fun e w'=>e=.returned (.int .i64 (Oc l))/\aa [] W w':=fun W k=>CN v l lo hi W (h.kept0 k) hl Ox
 have HN:=fun W=>nY size W hs
 have hfx:dA l n size↔(0<=size/\l.length<=16/\eQ 0 m l/\(Oc l:Int)=Nv size):=by rw[<-hm];rfl
 have HF:=Mb hfx
 obtain⟨p,c,rfl⟩:=h.shape
 obtain⟨N,hN⟩:∃N:Int,(l.length:Int)=N:=⟨_,rfl⟩
 have ab7:l.length<=16↔N<=16:=by omega
 have HNI:=Mb ab7
 obtain⟨C,hC⟩:∃C:Int,(Oc l:Int)=C:=⟨_,rfl⟩
 rw[hC]at HF
 have HC':∀W,aa [] w W->Calls Tryz.prog 65 #[.slice p l.length c] W fun e w'=>e=.returned (.int .i64 C)/\aa [] W w':=by rw[<-hC];exact HC
 generalize Nv size=q at*
 clear HC hfx ab7 h hl Ox hn hs hC
 by_cases h1:0<=size
 .by_cases h2:N<=16
  .go_enter Tryz.func177,Tryz.ntmps177
   go_wp2_with fail
   refine(HM _ (aa.refl _ _)).mono ?_;rintro e w1 ⟨r,rfl,hr,k1⟩
   have HR:=Mb hr
   clear hr
   cases r with
   |false=>
    go_wp2_with fail
    go_ret
    exact kQ (fun hf=>by have:=HR.out.2 (HF.out.1 hf).2.2.1;cases this) k1
   |true=>
    go_wp2_with fail
    refine(HC' _ k1).mono ?_;rintro e w2 ⟨rfl,k2⟩
    have Tj:=k1.trans k2
    go_wp2_with fail
    refine(HN _).mono ?_;rintro e w3 ⟨rfl,rfl⟩
    by_cases he:C=q
    .have e1:(C==q)=true:=by simp[he]
     have e2:decide (C=q)=true:=by simp[he]
     have HE:=Mb he
     clear he
     go_wp2_with fail
     go_ret
     exact zS (HF.out.2 ⟨h1,HNI.out.2 h2,HR.out.1 (by simp),HE.out⟩) Tj
    .have e1:(C==q)=false:=by simp[he]
     have e2:decide (C=q)=false:=by simp[he]
     have HE:=Mb he
     clear he
     go_wp2_with fail
     go_ret
     exact kQ (fun hf=>HE.out (HF.out.1 hf).2.2.2) Tj
  .go_enter Tryz.func177,Tryz.ntmps177
   go_wp2_with fail
   go_ret
   exact kQ (fun hf=>by have:=HNI.out.1 (HF.out.1 hf).2.1;omega) (aa.refl _ _)
 .go_enter Tryz.func177,Tryz.ntmps177
  go_wp2_with fail
  go_ret
  exact kQ (fun hf=>by have:=(HF.out.1 hf).1;omega) (aa.refl _ _)
theorem B4 {d:DK} {l:List (Int×Int)} {size:Int} (h:¬dA l d.stand.length size):Nr d l size=1:=if_neg h
theorem zP {d:DK} {l:List (Int×Int)} {size:Int} (h:dA l d.stand.length size):Nr d l size=if d.down=true then 90 else 0:=if_pos h
theorem ti (h:n<=100000000):(Lit.int .i64 (n:Int)).wf=true:=by
 simp only[Lit.wf,MJ,decide_eq_true_eq]
 exact⟨by show(-9223372036854775808:Int)<=_;omega,by show _<=(9223372036854775807:Int);omega⟩
theorem Ep {Inv:DK->World->Prop} {b:Nat} (hO:s9 Inv b) (d:DK) (v:Value) (l:List (Int×Int)) (size:Int) (lo hi:Nat) (w:World) (hI:Inv d w) (h:af w v l lo hi) (hl:l.length<=1000000) (Ox:∀a∈l,aU a) (hs:(Lit.int .i64 size).wf=true):
  Calls Tryz.prog 104 #[.pointer (some ⟨b,0,none⟩),v,.int .i64 size] w fun e w'=>e=.returned (.int .i64 (Nr d l size))/\aa [] w w':=by
 obtain⟨n1,n2⟩:=hO.len hI
 have HL:∀W,aa [] w W->Calls Tryz.prog 36 #[.pointer (some ⟨b,0,none⟩)] W fun e w'=>e=.returned (.int .i64 d.stand.length)/\W=w':=fun W k=>hO.lenC (hO.keep hI k)
 have HD:∀W,aa [] w W->Calls Tryz.prog 61 #[.pointer (some ⟨b,0,none⟩)] W fun e w'=>e=.returned (.bool d.down)/\W=w':=fun W k=>hO.downC (hO.keep hI k)
 have HF:∀W,aa [] w W->Calls Tryz.prog 177 #[v,.int .i64 d.stand.length,.int .i64 size] W (rC l d.stand.length size W):=fun W k=>L3 v l _ size lo hi W (h.kept0 k) hl Ox (ti (by omega)) hs
 have HG0:=Mb (@B4 d l size)
 have HG1:=Mb (@zP d l size)
 clear h hl Ox hs
 generalize Nr d l size=G at*
 obtain⟨N,hN⟩:∃N:Int,(d.stand.length:Int)=N:=⟨_,rfl⟩
 have hN1:1<=N:=by omega
 have hN2:N<=8192:=by omega
 rw[hN]at HL HF HG0 HG1
 clear hN n1 n2
 generalize d.down=D at*
 have k0:=aa.refl [] w
 go_enter Tryz.func104,Tryz.ntmps104
 go_wp2_with fail
 refine(HL _ k0).mono ?_;rintro e w1 ⟨rfl,rfl⟩
 go_wp2_with fail
 refine(HL _ k0).mono ?_;rintro e w1 ⟨rfl,rfl⟩
 go_wp2_with fail
 refine(HF _ k0).mono ?_;rintro e w1 ⟨r,rfl,hr,k1⟩
 have HR:=Mb hr
 clear hr
 cases r with
 |false=>
  go_wp2_with fail
  go_ret
  exact⟨by rw[HG0.out (fun hf=>by have:=HR.out.2 hf;cases this)];rfl,k1⟩
 |true=>
  go_wp2_with fail
  refine(HD _ k1).mono ?_;rintro e w2 ⟨rfl,rfl⟩
  cases D with
  |false=>
   go_wp2_with fail
   go_ret
   exact⟨by rw[HG1.out (HR.out.1 (by simp))];rfl,k1⟩
  |true=>
   go_wp2_with fail
   go_ret
   exact⟨by rw[HG1.out (HR.out.1 (by simp))];rfl,k1⟩
open Classical in
noncomputable def jq (l:List (Int×Int)):List Nat:=if eQ 0 8192 l then Nu l else[]
theorem M71 (h:A:=by
 unfold Oc
 have:∀f k,cA f k<=k:=fun f k=>by
  induction k with
  |zero=>exact Md _
  |succ k ih=>simp only[cA];split<;>omega
 exact this _ _):A:=h
theorem E6 (h:eQ 0 8192 l):(Nu l).length<=8192:=by
 have h1:=qC h (by omega)
 have h2:=vp h.1
 have h3:Oc l<=8192:=by
  exact M71
 omega
theorem nS (l:List (Int×Int)):(jq l).length<=8192:=by
 unfold jq
 split
 .rename_i h;exact E6 h
 .exact Mu _
theorem C7 (h:eQ 0 8192 l):jq l=Nu l:=if_pos h
theorem vq {n:Int} (h:dA l n size):jq l=Nu l:=C7 ⟨fun a ha=>by
 have:=h.2.2.1.1 a ha
 unfold iG at this ⊢
 omega,h.2.2.1.2⟩
theorem IQ:∃i,Tryz.prog.info? 3=some i/\i.zero=some (.int .i64 0)/\i.size=1/\i.bytes=8:=by
 have hi:(Tryz.prog.info? 3).map (fun i=>(i.zero,i.size,i.bytes))=some (some (.int .i64 0),1,8):=by kernel_rfl
 exact VQ
def mn (l:List Nat):List Value:=l.map fun k=>.int .i64 ((k:Nat):Int)
end Go.Proofs.YtdkimcnlhmhpgaaGreat
namespace Go.Proofs.YtdkimcnlhmhpgaaGreat
open Go.RowKit Go.Shelf
variable {v:Value} {lo hi:Nat} {A:Prop}
attribute [local go_sem] Oper.semAt_some
theorem af.wide {w:World} {l:List (Int×Int)} (h:af w v l lo hi):af w v l 0 w.heap.size:=by
 rcases h with h|⟨b,off,c,h1,h2,h3,h4,h5,h6,h7,h8⟩
 .exact Or.inl h
 .exact Or.inr ⟨b,off,c,h1,h2,Mu _,by omega,Md _,h6,h7,h8⟩
theorem Gj (n:Nat) (l B1 B2:Nat) (J:List Nat->World->Prop) (W:World) (hB1:W.cell? ⟨B1,0,none⟩=some (.bool false)) (h0:J [] W):
  CallsIn Fence.wide n Tryz.prog 179 #[.func (.yield l) #[] #[],.pointer (some ⟨B1,0,none⟩),.pointer (some ⟨B2,0,none⟩)] W fun e W'=>(∃v,e=.returned v)/\J [] W':=by
 refine callsIn_of_wp Tryz.func179 rfl trivial ?_ rfl
 simp only[Tryz.ntmps179,List.size_toArray,Mz,List.length_nil,Nat.reduceAdd,Nat.reduceSub,Array.replicate_succ,Array.replicate_zero,List.push_toArray,List.append_toArray,Nd,List.cons_append]
 gi_wp2
 refine Mx (results_none rfl _ _ _) rfl ?_
 exact⟨⟨_,rfl⟩,h0⟩
def uB (n n₀:Nat) (l:List (Int×Int)) (v:Value) (w:World):Prop:=
 ∃B1 B2:Nat,v=.func (.func 179) #[] #[.pointer (some ⟨B1,0,none⟩),.pointer (some ⟨B2,0,none⟩)]/\
  SeqStopsK Fence.wide n Tryz.prog 179 #[.pointer (some ⟨B1,0,none⟩),.pointer (some ⟨B2,0,none⟩)] (fun k:Nat=>#[Value.int .i64 ((k:Nat):Int)]) (mD n₀) (fun xs=>xs=jq l) (fun pre=>pre <+: jq l) (jq l).length w
theorem EP (n:Nat) (hn:1<=n) (n₀ B1 B2:Nat) (sv:Value) (l:List (Int×Int)) (hl:l.length<=1000000) (r:Bool) (hr:r=true↔eQ 0 8192 l) (w:World) (h1:w.cell? ⟨B1,0,none⟩=some (.bool r)) (l1:B1<w.heap.size)
  (h2:w.cell? ⟨B2,0,none⟩=some sv) (l2:B2<w.heap.size) (hR:af w sv l lo hi) (UH:hi<=n₀) (U7:n₀<=w.heap.size):
  uB n n₀ l (.func (.func 179) #[] #[.pointer (some ⟨B1,0,none⟩),.pointer (some ⟨B2,0,none⟩)]) w:=by
 refine⟨B1,B2,rfl,fun lp J Jx W hW hJ hJx hY h0=>?_⟩
 have c1:=(hW.cell (p:=⟨B1,0,none⟩) l1).trans h1
 have c2:=(hW.cell (p:=⟨B2,0,none⟩) l2).trans h2
 cases r with
 |false=>
  have e:jq l=[]:=if_neg (fun h=>by have:=hr.2 h;cases this)
  exact(Gj n lp B1 B2 J W c1 h0).mono fun e' W' ⟨he,hj⟩=>⟨he,.inl ⟨[],e.symm,hj⟩⟩
 |true=>
  have hm:=hr.1 rfl
  have e:jq l=Nu l:=if_pos hm
  rw[e]at hY ⊢
  exact Gi n hn lp B1 B2 n₀ lo hi sv l hm hl J Jx W hJ hY c1 c2 (hR.Eo (hW.mono (Md _)) (by omega)) UH (by have:=hW.size;omega) h0
theorem Er (n:Nat) (hn:1<=n) (n₀:Nat) (v:Value) (l:List (Int×Int)) (lo hi:Nat) (w:World) (h:af w v l lo hi) (hl:l.length<=1000000) (Ox:∀a∈l,aU a) (UH:hi<=n₀) (U7:n₀<=w.heap.size):
  Calls Tryz.prog 105 #[v] w fun e w'=>∃f,e=.returned f/\aa [] w w'/\uB n n₀ l f w':=by
 have hmf:∀(fn:Fn) (first cap:Array Value) (w:World),(Instr.makeFunc fn first cap).run Tryz.prog w=.ok (.func fn first cap) w:=fun _ _ _ _=>rfl
 have HM:∀W,aa [] w W->Calls Tryz.prog 178 #[v,.int .i64 0,.int .i64 8192] W (ma 0 8192 l W):=fun W k=>Jz v l 0 8192 lo hi W (h.kept0 k) hl Ox (by omega) (by omega) (by omega) (by omega)
 have HW:=Mb h
 have k0:=(aa.refl [] w).alloc (.cells #[v] 56)
 have o0:=ae.new w #[v] 56
 obtain⟨p,c,rfl⟩:=h.shape
 clear h
 go_enter Tryz.func105,Tryz.ntmps105
 go_wp2_with fail
 refine(HM _ k0).mono ?_;rintro e w1 ⟨r,rfl,hr,k1⟩
 have HR:=Mb hr
 clear hr
 have o1:=k1.own o0 (by simp)
 have k01:=k0.trans k1
 go_wp2_with fail
 go_ret
 have HR':=HR.out
 have kA:=k01.alloc (.cells #[.bool r] 4)
 have oA:=ae.new w1 #[.bool r] 4
 have oB:ae (w1.alloc (.cells #[.bool r] 4)) w.heap.size #[.slice p l.length c] 56:=((aa.refl [] w1).alloc _).own o1 (by simp)
 have sz:=kA.size
 exact⟨_,rfl,kA,EP n hn n₀ w1.heap.size w.heap.size _ l hl r HR' _ (Boxed.cell (t:=4) oA) oA.lt (Boxed.cell (t:=56) oB) oB.lt (HW.out.kept0 kA) UH (MA U7 sz)⟩
attribute [local go_sem] Oper.semAt_some
theorem M95 (h:A:=by
 subst e'
 rw[show W.heap[i]? =_ from hv]at hk
 injection hk with hk
 injection hk with _ ht'
 exact ht ht'):A:=h
theorem M49 (h:A:=by
 rcases Nt.2 with⟨rfl,_⟩|⟨g,cap,cur,rfl,_,hgb,_⟩
 .simp[Value.ownBlock]
 .intro e'
  obtain rfl:i=g:=by simpa[Value.ownBlock]using e'
  rw[hgb]at hk
  injection hk with hk
  injection hk with _ he'
  exact he he'):A:=h
theorem BO {W w1:World} {n₀ B base size k:Nat} {t e:TypeId} {v':Value} {xs:List Value} {tmp:Obj} (hv:Boxed W B t v) (ht:t≠128) (Nt:W.ownsRow base e size v k xs) (he:e≠128)
  (Om:(W.alloc tmp).grownBy w1 v.ownBlock) (hb:Below n₀ W (w1.setCell ⟨B,0,none⟩ v')):mD n₀ W (w1.setCell ⟨B,0,none⟩ v'):=by
 refine⟨hb,fun i cs f hk=>?_⟩
 have Ns:i<W.heap.size:=(Array.getElem?_eq_some_iff.1 hk).1
 have h1:i≠B:=fun e'=>by
  exact M95
 have h2:some i≠v.ownBlock:=by
  exact M49
 exact(Below.heap_setCell _ _ _ _ h1).trans ((Om.block i (by simp;omega) h2).trans ((Below.heap_alloc _ _ _ Ns).trans hk))
end Go.Proofs.YtdkimcnlhmhpgaaGreat
namespace Go.Proofs.YtdkimcnlhmhpgaaGreat
open Go.RowKit Go.Shelf
variable {P:Program} {w W w1:World} {v v':Value} {B base size k n₀:Nat} {e t:TypeId} {xs:List Value}
theorem LR {n:Nat} {fn:Func} {R:Ending->World->Prop} {tmps:Array Value} (hv:(results fn tmps).run P w=.ok v w) (h:R (.returned v) w):
  bodyPostM Fence.wide n P fn R .ret {tmps:=tmps,defers:=[]} w:=⟨v,hv,h⟩
theorem tz {n:Nat} {P:Program} {fn:Func} {R:Ending->World->Prop} {tmps:Array Value} {w:World} {v:Value} {D:Nat} (hK:w.heap[D]? =some (.deferred (some []))) (hv:(results fn tmps).run P (w.putObj D (.deferred none))=.ok v (w.putObj D (.deferred none))) (h:R (.returned v) (w.putObj D (.deferred none))):
  bodyPostM Fence.wide n P fn R .ret {tmps:=tmps,defers:=[{target:=.collected D,args:=#[]}]} w:=⟨by simp,.inl ⟨_,_,rfl,run_takeDeferred hK,v,hv,h⟩⟩
theorem iS (w:World) (D:Nat) (o:Obj):aa [D] w (w.putObj D o):=
 (aa.refl [D] w).grown (grownBy_putObj' w D o) (fun k hk=>by injection hk with hk;exact Or.inl (by simp[hk]))
theorem oG {w2:World} (k:aa [] w w2) (h:Below B w2 W) (hB:w.heap.size<=B):aa [] w W:=
 ⟨h.os.trans k.os,h.tape.trans k.tape,h.output.trans k.output,MA k.size h.size,fun j hj _=>(h.block j (by omega)).trans (k.block j hj (by simp))⟩
theorem xp (h:W.ownsRow base e size v k xs) (hk:0<k):∃g cap,v=.slice (some ⟨g,0,none⟩) k cap:=by
 rcases h.2 with⟨_,h0⟩|⟨g,cap,_,rfl,_⟩
 .omega
 .exact⟨g,cap,rfl⟩
theorem s6 (g k:Nat):(⟨g,0,none⟩:Addr).add k=⟨g,k,none⟩:=by
 unfold Addr.add
 by_cases h:k=0
 .subst h;rfl
 .simp[h]
theorem tq (a b:List UInt8):Lib.strCells (bs (a++b))=Lib.strCells (bs a)++Lib.strCells (bs b):=by simp[Lib.strCells,bs]
theorem ko {F:Fence} {n':Nat} {ops:Array Oper} {rest:List Oper} {o:Oper} {a:Act} {Q:Exit->Act->World->Prop} (w:World) (hgd:o.guard=none) (sl x:Operand) (t u:TypeId)
  (ho:o.op=.call {callee:=.builtin .append,args:=#[sl,x],argTypes:=#[t,u]})
  (base:Nat) (e:TypeId) (i:TypeInfo) (ht:P.underlying t=some (.slice e)) (hu:P.underlying u=some .string) (hi:P.info? e=some i) (hz:i.zero=some (.int .u8 0))
  (PR:i.size=1) (VI:i.bytes=1)
  (v:Value) (n:Nat) (xs:List Value) (hs:a.eval sl=v) (N3:w.ownsRow base e 1 v n xs) (s:ByteArray) (hx:a.eval x=.string s)
  (h63:n+s.size<=maxLen) (Qb:n+s.size<=140737488355328) (Qc:base<=w.heap.size)
  (h:∀v' w',w'.ownsRow base e 1 v' (n+s.size) (xs++Lib.strCells s)->w.grownBy w' v.ownBlock->(v'=.slice none 0 0↔v=.slice none 0 0/\s.size=0)->wpListIn F n' P ops Q rest (a.put o.dst v') w'):wpListIn F n' P ops Q (o::rest) a w:=by
 refine wpListIn_plain hgd fun K hK=>?_
 obtain⟨v',w',hr,h2,h3,h4⟩:=Lib.run_append_own_string (P:=P) w base t u o.type e i ht hu hi hz PR VI v n xs N3 s h63 Qb Qc
 unfold Oper.wpIn
 refine⟨?_,?_⟩
 .simp[Oper.about,ho,resolve,Target.leads,Sem.run_pure]
 .rw[Oper.semAt_plain F _ _ (by rw[ho];intro c hc';cases hc')]
  simp[execOp,ho,resolve,invoke,builtin,hs,hx,hr,Result.andThen]
  exact hK _ _ (h v' w' h2 h3 h4)
theorem Boxed.Es {m:Nat} {ys:List Value}
  (hv:Boxed W B t v) (hte:t≠e) (Nt:W.ownsRow n₀ e size v k xs) (hn₀:n₀<=W.heap.size) (hB:n₀<=B)
  (P4:w1.ownsRow n₀ e size v' m ys) (Om:W.grownBy w1 v.ownBlock):
  Boxed w1 B t v/\Boxed (w1.setCell ⟨B,0,none⟩ v') B t v'/\(w1.setCell ⟨B,0,none⟩ v').ownsRow n₀ e size v' m ys/\KeepsOthers W (w1.setCell ⟨B,0,none⟩ v')/\Below n₀ W (w1.setCell ⟨B,0,none⟩ v'):=by
 have SV:Boxed w1 B t v:=hv.kept Om (hv.not_row hte Nt)
 refine⟨SV,SV.set v',P4.kept (grownBy_setCell' w1 B v') (.inr (SV.not_row hte P4).symm),?_,?_⟩
 .refine(KeepsOthers.of_grownBy Om fun j o ej hj=>?_).trans (KeepsOthers.setCell _ _ _)
  rcases Nt.2 with⟨rfl,_⟩|⟨g,cap,cur,rfl,_,hgb,_⟩
  .simp[Value.ownBlock]at ej
  .obtain rfl:g=j:=by simpa[Value.ownBlock]using ej
   rw[hgb]at hj;cases hj;rfl
 .refine((Below.refl n₀ W).grown Om hn₀ fun j ej=>?_).setCell (p:=⟨B,0,none⟩) hB v'
  rcases Nt.2 with⟨rfl,_⟩|⟨g,cap,cur,rfl,hb,_,_⟩
  .simp[Value.ownBlock]at ej
  .obtain rfl:g=j:=by simpa[Value.ownBlock]using ej
   exact hb
theorem zt (hv:Boxed W B t v) (ht:t≠128) (Nt:W.ownsRow base e size v k xs) (he:e≠128)
  (Om:W.grownBy w1 v.ownBlock) (hb:Below n₀ W (w1.setCell ⟨B,0,none⟩ v')):mD n₀ W (w1.setCell ⟨B,0,none⟩ v'):=by
 refine⟨hb,fun i cs f hk=>?_⟩
 have Ns:i<W.heap.size:=(Array.getElem?_eq_some_iff.1 hk).1
 have h1:i≠B:=fun e'=>by
  exact M95
 have h2:some i≠v.ownBlock:=by
  exact M49
 exact(Below.heap_setCell _ _ _ _ h1).trans ((Om.block i Ns h2).trans hk)
end Go.Proofs.YtdkimcnlhmhpgaaGreat
namespace Go.Proofs.YtdkimcnlhmhpgaaGreat
open Go.RowKit
variable {lim fuel:Nat} {w w':World} {v:Value} {P:Program} {S:World->Prop} {listed:Array Bool} {a:Act} {B:Prop}
def bH (lim:Nat) (w w':World):Prop:=
 w.heap.size<=w'.heap.size/\∀g o,lim<=g->w.heap[g]? =some o->(∀cs f,o≠.cells cs 206 f)->w'.heap[g]? =some o
theorem bH.trans {a b c:World} (h:bH lim a b) (k:bH lim b c):bH lim a c:=
 ⟨MA h.1 k.1,fun g o hg ho ht=>k.2 g o hg (h.2 g o hg ho ht) ht⟩
theorem aa.lX (k:aa [] w w') (lim:Nat):bH lim w w':=⟨k.size,fun g o _ ho _=>by
 rw[k.block g (Array.getElem?_eq_some_iff.1 ho).1 (by simp)];exact ho⟩
theorem Cx.lX {b sb mb lo r:Nat} (k:Cx b sb mb lo r w w') (h1:b<lim) (h2:sb<lim) (h3:mb<lim) (h4:r<lim):bH lim w w':=
 ⟨k.2.2.2.1,fun g o hg ho ht=>by
  have Ns:=(Array.getElem?_eq_some_iff.1 ho).1
  rw[k.2.2.2.2 g Ns (by omega) (by omega) (by omega) (by omega) (Or.inr (fun cs f hc=>by
   rw[ho]at hc
   injection hc with hc
   exact ht cs f hc))]
  exact ho⟩
theorem bH.own {g:Nat} {cs:Array Value} {t:TypeId} (k:bH lim w w') (o:ae w g cs t) (hg:lim<=g) (ht:t≠206):ae w' g cs t:=
 k.2 g _ hg o (fun UJ f e=>by injection e with _ e;exact ht e)
theorem bH.row {base:Nat} {e:TypeId} {size:Nat} {n:Nat} {xs:List Value} (k:bH lim w w') (h:w.ownsRow base e size v n xs) (hb:lim<=base) (ht:e≠206):w'.ownsRow base e size v n xs:=
 bm h (fun g cs hg hc=>by
  have:=k.2 g _ (by omega) hc (fun UJ f e'=>by injection e' with _ e';exact ht e')
  rw[this,hc])
theorem bH.obj {D:Nat} {o:Obj} (k:bH lim w w') (h:w.heap[D]? =some o) (hD:lim<=D) (ho:∀cs t f,o≠.cells cs t f):w'.heap[D]? =some o:=
 k.2 D o hD h (fun cs f=>ho cs _ f)
theorem aI.putD {w w':World} {D b sb mb dlo:Nat} {x:Option (List Deferred)} {e:DK} (hD:aI w b sb mb dlo e) (ho:w.heap[D]? =some (.deferred x)) (k:aa [D] w w'):aI w' b sb mb dlo e:=by
 obtain⟨wv2,n,ob,os,hw,hm,hn,g2,g3,g4,g5,g6,g7⟩:=hD
 have ne:∀g cs t,w.heap[g]? =some (.cells cs t (0,0))->g∉[D]:=by
  intro g cs t hc hx
  have hx:g=D:=by simpa using hx
  subst hx
  rw[ho]at hc
  cases hc
 refine⟨wv2,n,k.own ob (ne b _ _ ob),k.own os (ne sb _ _ os),dS hw k (fun g hg _ cs hc=>ne g _ _ hc hg),hm.kept k ?_,hn,g2,g3,g4,g5,MA g6 k.size,g7⟩
 intro hx
 have hx:mb=D:=by simpa using hx
 subst hx
 obtain⟨D,⟨es,clock,hh,_⟩,_⟩:=hm
 rw[hh]at ho
 cases ho
structure pf (Inv:DK->World->Prop) (b lim:Nat):Prop where
 ops:s9 Inv b
 writeB:∀{d w} (i:Int) (s:List UInt8),Inv d w->d.ops<100000->d.waits.length<=10000->Calls Tryz.prog 88 #[.pointer (some ⟨b,0,none⟩),.int .i64 i,.string (bs s)] w fun e w'=>e=.returned (.int .i64 (NV d i s))/\Inv (NG d i s) w'/\bH lim w w'
 putD:∀{d w w' D x},Inv d w->w.heap[D]? =some (.deferred x)->aa [D] w w'->lim<=D->Inv d w'
theorem tk {ops:Array Oper} {Q:Exit->Act->World->Prop} {md:Region.Mode} {oi:Oper} (i d:Nat) (hb:B)
  (hS:S w:=by assumption)
  (hi:ops[i]? =some oi:=by rfl) (hd:oi.dst=some d:=by rfl)
  (hs:Region.noSelect ops=true:=by kernel_rfl) (hf:Region.free md ops listed i=true:=by kernel_rfl) (hr:(Region.ready md ops listed).contains i=true:=by kernel_rfl)
  (hQ:∀c a w,Q (.panic c) (a.put (some d) v) w->Q (.panic c) a w:=by exact fun _ _ _ h=>h)
  (hy:YieldsIf P ops S oi v a:=by exact Or.inl ⟨by rfl,by(intro w PQ;(try dsimp only at PQ);go_simp;try with_reducible rfl)⟩)
  (hB:B->wpAnyH P md ops Q S fuel (listed.setIfInBounds i true) (a.put (some d) v) w:=by(intro hb;simp only[Act.put,List.setIfInBounds_toArray,List.set_cons_zero,List.set_cons_succ];exact hb)):wpAnyH P md ops Q S (fuel+1) listed a w:=
 bD hi hd hs hf hr hQ hy hS (hB hb)
theorem tn {ops:Array Oper} {Q:Exit->Act->World->Prop} {md:Region.Mode} {oi:Oper} (i d:Nat) (hb:B)
  (hS:S w:=by assumption)
  (hi:ops[i]? =some oi:=by rfl) (hd:oi.dst=some d:=by rfl)
  (hs:Region.noSelect ops=true:=by kernel_rfl) (hf:Region.free md ops listed i=true:=by kernel_rfl) (hr:(Region.ready md ops listed).contains i=true:=by kernel_rfl)
  (hQ:∀c a w,Q (.panic c) (a.put (some d) undef) w->Q (.panic c) a w:=by exact fun _ _ _ h=>h)
  (hy:YieldsIf P ops S oi undef a:=by exact Or.inr ⟨by rfl,rfl⟩)
  (hB:B->wpAnyH P md ops Q S fuel (listed.setIfInBounds i true) (a.put (some d) undef) w:=by(intro hb;simp only[Act.put,List.setIfInBounds_toArray,List.set_cons_zero,List.set_cons_succ];exact hb)):wpAnyH P md ops Q S (fuel+1) listed a w:=
 bD hi hd hs hf hr hQ hy hS (hB hb)
theorem nm {A:Prop} (b:B) (h:B->A:=by(intro hb;(try simp only[Act.put,List.setIfInBounds_toArray,List.set_cons_zero,List.set_cons_succ]);exact hb)):A:=h b
theorem rd {ops:Array Oper} {Q:Exit->Act->World->Prop} {md:Region.Mode} {o:Oper} (i:Nat)
  (h:∀K':Act->World->Prop,Shut (∀a w,S w->(S w->wpAnyH P md ops Q S fuel (listed.setIfInBounds i true) a w)->K' a w)->if Region.wanted o (yielded ops a.tmps)=true then Oper.wp P o a w K' Q else K' (a.put o.dst undef) w)
  (hr:Region.ready md ops listed=[i]:=by kernel_rfl) (ho:ops[i]? =some o:=by rfl):wpAnyH P md ops Q S (fuel+1) listed a w:=
 wpAnyH_ready hr (by simp) (AllReadyH.cons ho h AllReadyH.nil)
end Go.Proofs.YtdkimcnlhmhpgaaGreat

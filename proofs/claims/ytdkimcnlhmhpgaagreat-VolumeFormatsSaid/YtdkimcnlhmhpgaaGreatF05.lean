/- -/
import Derived.Test.YtdkimcnlhmhpgaaGreatF04
import Derived.RangeFuncNested
import Derived.OwnWalkIn
import Derived.TacticsInMore
import Derived.LoopNIn
import Derived.LoopIn
import Derived.Deep.RegionHeld3
set_option maxHeartbeats 32000000
set_option maxRecDepth 100000
namespace Go.Proofs.YtdkimcnlhmhpgaaGreat
section
section
open Go.Proofs.Tryz Go.RowKit
variable {f s:Int} {l:List (Int×Int)}
theorem Nr:type_of% @List.mem_iff_getElem:=@List.mem_iff_getElem
theorem Ng:type_of% @wpAnyH_done:=@wpAnyH_done
theorem MK:type_of% @wp_region_held_drew:=@wp_region_held_drew
theorem ko {n} (h:(Lit.int .i64 n).wf=true): -9223372036854775808<=n/\n<=9223372036854775807:=by
 simp only[Lit.wf,No,decide_eq_true_eq]at h
 exact h
def On (n:Int):Int:=if n<1 then 0 else(n-1)/128+1
theorem sP (n w) (hn:(Lit.int .i64 n).wf=true):
  am! 54 #[n] w fun e w'=>e=(On n:Int)/\w=w':=by
 have hb:=ko hn
 unfold On
 by_cases h:n<1
 .rw[if_pos h]
  go_enter func54,ntmps54
  go_wp2_with fail
  go_ret
  exact⟨rfl,rfl⟩
 .rw[if_neg h]
  go_enter func54,ntmps54
  go_wp2_with fail
  go_ret
  exact⟨rfl,rfl⟩
def uu (f s:Int) (l:List (Int×Int)) (w:World) (e:Ending) (w':World):Prop:=e=.returned (if lies f s l then .tuple #[(NZ l:Int),true]else .tuple #[(0:Int),false])/\NP [] w w'
theorem sY {w w'} (h:lies f s l=false) (hk:NP [] w w'):uu f s l w (.returned (.tuple #[(0:Int),false])) w':=by
 refine⟨?_,hk⟩;rw[h];rfl
theorem yH {w w'} (h:lies f s l=true) (hk:NP [] w w'):uu f s l w (.returned (.tuple #[(NZ l:Int),true])) w':=by
 refine⟨?_,hk⟩;rw[h];rfl
theorem mv {f s} {a:Int×Int}:(iM f s a=false/\(a.1<f\/(f<=a.1/\a.2<1)\/(f<=a.1/\1<=a.2/\s<a.1)\/(f<=a.1/\1<=a.2/\a.1<=s/\s-a.1<a.2)))\/(iM f s a=true/\f<=a.1/\1<=a.2/\a.1<=s/\a.2<=s-a.1):=by
 cases h:iM f s a
 .refine Or.inl ⟨rfl,?_⟩
  have h':¬(f<=a.1/\1<=a.2/\a.1<=s/\a.2<=s-a.1):=fun hh=>by rw[dN.2 hh]at h;cases h
  omega
 .exact Or.inr ⟨rfl,dN.1 h⟩
theorem mD {a b:Int×Int}:(dQ a b=false/\a.1<b.1+b.2/\b.1<a.1+a.2)\/(dQ a b=true/\(b.1+b.2<=a.1\/(a.1<b.1+b.2/\a.1+a.2<=b.1))):=by
 cases h:dQ a b
 .refine Or.inl ⟨rfl,?_⟩
  have h':¬(a.1+a.2<=b.1\/b.1+b.2<=a.1):=fun hh=>by rw[vD.2 hh]at h;cases h
  omega
 .have:=vD.1 h
  exact Or.inr ⟨rfl,a?⟩
theorem M72 {A:Prop}(h:A:=by
 clear hAP c0 c1
 have hge:(k:Int)<=m:=a?
 clear Wc RO
 go_wp2_with fail
 go_roundw
 case rel=>exact⟨k+1,a?,j?,by rw[Qe.out],HL,QJ⟩
 case measure=>simp[intOf];omega):A:=h
theorem M38 {A:Prop}(h:A:=by
 clear r0 c0 c1
 rcases r1 with r1|⟨r1,r2⟩
 all_goals
  go_wp2_with fail
  go_roundw
  case rel=>exact⟨m+1,a?,j?,by rw[Xg.out,hAP.out,R0.out];rfl,QJ.alloc _,ho.alloc _⟩
  case measure=>simp[intOf];omega):A:=h
theorem Mk (v l) (lo hi:Nat) (f s:Int) (w) (h:af w v l lo hi) (hl:l.length<=1000000) (hf:0<=f) (hf2:f<=100000) (hs:0<=s) (QG:s<=8192):
  am! 223 #[v,f,s] w (uu f s l w):=by
 obtain⟨p,c,rfl⟩:=h.shape
 go_enter func223,ntmps223
 go_wp2_with fail
 go_loopw [8,15] (fun a i wr=>∃k:Nat,k<=l.length/\i=(k:Int)/\a=(NZ (l.take k):Int)/\Aside (dP f s l k=true)/\NP [] w wr) (fun _ i _=>l.length-(intOf i).toNat)
 case atStart=>exact⟨0,a?,rfl,by simp[NZ],rfl,NP.refl _ _⟩
 case round=>
  obtain⟨k,hk,rfl,rfl,hL,hK⟩:=hrel
  by_cases NV:k<l.length
  .obtain⟨b,off,rfl,c0,c1,hb,hlc,PT⟩:=(h.kept0 hK).at_ k NV
   unfold maxLen at PT
   have OF:=ue f s l k NV
   have P9:Aside (∀m,(l.take m).all (dQ l[k])=true->m=k->iM f s l[k]=true->dP f s l (k+1)=true):=fun m h1 h2 h3=>by
    subst h2;rw[iy f s l m NV,hL.out,h3,h1];rfl
   have Qe:Hid (NZ (l.take (k+1))=NZ (l.take k)+l[k].2):=gH l k NV
   have Tj:=oO (Nat.le_of_lt NV) hL.out hf QG
   have hks:(8192:Int)*k<=8192000000:=a?
   have Rx:=mE l[k] l
   rcases @mv f s l[k]with⟨h0,UD⟩|⟨h0,g1,g2,g3,g4⟩
   .have HN:Hid (lies f s l=false):=OF aa!
    clear OF P9 Qe h0 Rx
    generalize l[k]=a at*
    generalize NZ (l.take k)=sm at*
    rcases UD with g1|⟨g1,g2⟩|⟨g1,g2,g3⟩|⟨g1,g2,g3,g4⟩
    all_goals
     go_wp2_with fail
     go_ret2
     exact sY HN.out (hK.alloc _)
   .have TV:Hid ((l.take k).all (dQ l[k])=false->lies f s l=false):=fun hh=>OF W!
    have⟨H0,HA⟩:=f? h0 Rx
    have Ox:=fun m hm=>kp l[k] l m hm
    have OY:=tK Ox
    have Vr:=fJ (Nat.le_of_lt NV) hL.out
    have QH:=tK Vr
    clear OF h0 Rx Ox Vr
    generalize l[k]=a at*
    generalize NZ (l.take k)=sm at*
    go_wp2_with fail
    obtain⟨wo,rfl⟩:∃wo:World,wo=wr:=⟨_,rfl⟩
    go_loopw [48] (fun i wr=>∃m:Nat,m<=k/\i=(m:Int)/\Aside ((l.take m).all (dQ a)=true)/\NP [] w wr/\ae wr wo #[a.1,a.2] 128) (fun i _=>k-(intOf i).toNat)
    case atStart=>exact⟨0,a?,rfl,rfl,hK.alloc _,ae.new _ _ _⟩
    case round=>
     obtain⟨m,hm,rfl,hAP,QJ,ho⟩:=hrel
     have⟨d0,d1⟩:=ho.c2
     have adg:=ho.lt
     by_cases RO:m<k
     .obtain⟨b',off',WA,e0,e1,Q3,-,-⟩:=(h.kept0 QJ).at_ m a?
      injection WA with WA
      injection WA with hbe1 hbe2 _
      subst hbe1 hbe2
      have hob:=dN.1 (QH.out m RO)
      have Q9:=OY.out m a?
      have TY:=HA.out m k a? RO
      have⟨Xg,YC⟩:=f? Q9 TY
      have hc:= @mD a l[m]
      clear Q9 TY
      generalize l[m]=bb at*
      have⟨q1,q2,q3,q4⟩:=hob
      rcases hc with⟨r0,r1,r2⟩|⟨r0,r1⟩
      .have HN:Hid (lies f s l=false):=TV.out (YC.out r0)
       clear r0 c0 c1
       go_wp2_with fail
       go_ret2
       exact sY HN.out (QJ.alloc _)
      .have R0:=tK r0
       exact M38
     .have Wc:m=k:=a?
      have HL:Aside (dP f s l (k+1)=true):=P9.out m hAP.out Wc H0.out
      exact M72
  .obtain rfl:k=l.length:=a?
   have HY:Hid (lies f s l=true):=hL.out
   have HS:Hid (NZ (l.take l.length)=NZ l):=by show _=_;rw[MU]
   clear hL
   generalize NZ (l.take l.length)=sm at*
   go_wp2_with fail
   go_ret2
   rw[HS.out]
   exact yH HY.out hK
theorem IA (f g:Nat->Bool) (k) (h:∀m,m<k->f m=true->g m=false):PM (fun m=>f m||g m) k=PM f k+PM g k:=by
 induction k with
 |zero=>rfl
 |succ k ih=>
  have h1:=ih (fun m hm=>h m a?)
  have h2:=h k a?
  simp only[PM,h1]
  by_cases hf:f k=true
  .simp[hf,h2 hf];omega
  .by_cases hg:g k=true
   .simp[hf,hg];omega
   .simp[hf,hg]
theorem DQ (k):PM (fun _=>false) k=0:=by
 induction k with
 |zero=>rfl
 |succ k ih=>simp only[PM,ih];rfl
theorem xL (a n k):PM (fun m=>decide (a<=m/\m<a+n)) k=min k (a+n)-min k a:=by
 induction k with
 |zero=>simp[PM]
 |succ k ih=>
  simp only[PM,ih]
  by_cases h:a<=k/\k<a+n
  .simp[h];omega
  .simp[h];omega
theorem vt (h:dv 0 s l) (hs:s<=8192):(OV l:Int)=NZ l:=by
 unfold OV
 induction l with
 |nil=>
  have:PM (OE []) 8192=0:=DQ 8192
  rw[this];rfl
 |cons r t ih=>
  have⟨h1,h2⟩:=h
  have⟨hp,ht⟩:=List.pairwise_cons.1 h2
  have hr:=h1 r MY
  unfold gQ at hr
  have⟨a,ha⟩:=MM hr.1
  have⟨n,hn⟩:=MM (show 0<=r.2 by omega)
  have he:∀m,OE (r::t) m=(decide (a<=m/\m<a+n)||OE t m):=fun m=>by
   unfold OE
   rw[List.any_cons]
   congr 1
   rw[ha,hn]
   by_cases hc:a<=m/\m<a+n
   .rw[MV hc,MV a?,MV a?];rfl
   .rw[MS hc]
    by_cases RU:a<=m
    .rw[MV a?,MS a?];rfl
    .rw[MS a?];rfl
  have acb:=tj (f:=OE (r::t)) (g:=fun m=>decide (a<=m/\m<a+n)||OE t m) 8192 (fun m _=>he m)
  have hor:=IA (fun m=>decide (a<=m/\m<a+n)) (OE t) 8192 (fun m _ hm=>by
   have hm:=of_decide_eq_true hm
   cases hb:OE t m
   .rfl
   .exfalso
    have⟨x,hx,y1,y2⟩:=dr.1 hb
    have:=hp x hx
    unfold fG at this
    omega)
  have hih:=ih ⟨fun x hx=>h1 x (Nz _ hx),ht⟩
  have Oe:=xL a n 8192
  have PX:NZ (r::t)=r.2+NZ t:=by unfold NZ;simp
  rw[acb,hor,Oe,PX]
  omega
def NY (l:List (Int×Int)):List Nat:=(l.map fun r=>(List.range r.2.toNat).map fun k=>r.1.toNat+k).flatten
theorem sA (r:Int×Int) (l):NY (r::l)=((List.range r.2.toNat).map fun k=>r.1.toNat+k)++NY l:=rfl
theorem lq (a b):NY (a++b)=NY a++NY b:=by unfold NY;rw[M0,Nv]
theorem kz (l:List (Int×Int)) (k:Nat) (h:k<l.length):NY (l.take (k+1))=NY (l.take k)++(List.range l[k].2.toNat).map fun j=>l[k].1.toNat+j:=by
 rw[MI h,lq]
 congr 1
 simp[NY]
theorem uB (h:∀a∈l,gQ 0 s a):((NY l).length:Int)=NZ l:=by
 induction l with
 |nil=>rfl
 |cons r t ih=>
  have hr:=h r MY
  unfold gQ at hr
  have PX:NZ (r::t)=r.2+NZ t:=by unfold NZ;simp
  have:=ih (fun x hx=>h x (Nz _ hx))
  rw[sA,tN,MP,List.length_range,PX]
  omega
theorem oY {m} (hm:m∈NY l):∃r∈l,r.1.toNat<=m/\m<r.1.toNat+r.2.toNat:=by
 unfold NY at hm
 rw[List.mem_flatten]at hm
 have⟨x,hx,ZA⟩:=hm
 obtain⟨r,hr,rfl⟩:=ND.1 hx
 obtain⟨k,hk,rfl⟩:=ND.1 ZA
 have:=List.mem_range.1 hk
 exact⟨r,hr,a?,a?⟩
theorem En (h:∀a∈l,gQ 0 s a) {m} (hm:m∈NY l):(m:Int)<s:=by
 have⟨r,hr,h1,h2⟩:=oY hm
 have:=h r hr
 unfold gQ at this
 omega
theorem mo (h:dv 0 s l):(NY l).Nodup:=by
 induction l with
 |nil=>exact List.nodup_nil
 |cons r t ih=>
  have⟨h1,h2⟩:=h
  have⟨hp,ht⟩:=List.pairwise_cons.1 h2
  have hr:=h1 r MY
  unfold gQ at hr
  rw[sA,List.nodup_append]
  refine⟨?_,ih ⟨fun x hx=>h1 x (Nz _ hx),ht⟩,fun a ha b hb e=>?_⟩
  .rw[List.nodup_iff_pairwise_ne,List.pairwise_map]
   exact(List.nodup_iff_pairwise_ne.1 List.nodup_range).imp (fun Pb he=>Pb a?)
  .subst e
   obtain⟨k,hk,rfl⟩:=ND.1 ha
   have hk:=List.mem_range.1 hk
   have⟨x,hx,y1,y2⟩:=oY hb
   have UT:=h1 x (Nz _ hx)
   have Qf:=hp x hx
   unfold fG at Qf
   unfold gQ at UT
   omega
def dO (l:List (Int×Int)) (n size:Int):Prop:=0<=size/\l.length<=16/\dv 0 (min n 8192) l/\(OV l:Int)=On size
theorem dO.wC {n size} (h:dO l n size):((NY l).length:Int)=On size:=by
 have⟨h1,h2,h3,h4⟩:=h
 rw[uB h3.1,<-vt h3 a?,h4]
theorem dO.lt {n size} (h:dO l n size) {m} (hm:m∈NY l):(m:Int)<n/\m<8192:=by
 have:=En h.2.2.1.1 hm
 omega
def gN:List Nat->DK->List UInt8->DK×Int
 |[],d,_=>(d,0)
 |a::t,d,s=>if OW d a (aC s)=0 then gN t (OJ d a (aC s)) (s.drop 128)else(OJ d a (aC s),OW d a (aC s))
open Classical in
noncomputable def OQ (d:DK) (l:List (Int×Int)) (s:List UInt8):DK×Int:=
 if dO l d.stand.length s.length then(if d.down=true then(d,90)else gN (NY l) d s)else(d,1)
def cz (d:DK) (al:List Nat):List UInt8:=(al.map (seen d)).flatten
open Classical in
noncomputable def N7 (d:DK) (l:List (Int×Int)) (size:Int):Int:=if dO l d.stand.length size then(if d.down=true then 90 else 0)else 1
open Classical in
noncomputable def PV (d:DK) (l:List (Int×Int)) (size:Int):List UInt8:=if N7 d l size=0 then(cz d (NY l)).take size.toNat else[]
theorem lI {d} (hf:dS d) {al} (h:∀a∈al,a<d.stand.length):(cz d al).length=128*al.length:=by
 induction al with
 |nil=>rfl
 |cons a t ih=>
  have e:cz d (a::t)=seen d a++cz d t:=rfl
  rw[e,tN,gj hf (h a MY),ih (fun x hx=>h x (Nz _ hx)),Nj]
  omega
theorem Dv (d:DK) (al:List Nat) (k:Nat) (h:k<al.length):cz d (al.take (k+1))=cz d (al.take k)++seen d al[k]:=by
 unfold cz
 rw[MI h,M0,Nv]
 simp
end
section
open Go.Proofs.Tryz Go.RowKit Go.Shelf
variable {n₀:Nat} {w:World}
attribute [local go_sem] Oper.semAt_some
def ml (n₀:Nat) (W W':World):Prop:=Below n₀ W W'/\∀(k:Nat) cs f,W.heap[k]? =some (.cells cs 128 f)->W'.heap[k]? =some (.cells cs 128 f)
theorem ml.trans {A B C} (h:ml n₀ A B) (k:ml n₀ B C):ml n₀ A C:=⟨h.1.trans k.1,fun i cs f hi=>k.2 i cs f (h.2 i cs f hi)⟩
theorem ml.Je (hn:n₀<=w.heap.size) (W l o o') (hl:w.heap.size<=l) (h:W.heap[l]? =some o) (hc:o.isCells=false) (hw:o.isWalk=false):ml n₀ W (W.putObj l o'):=
 ⟨belowK_b hn W l o o' hl h hc hw,fun k cs f hk=>by
  have Pb:k≠l:=fun e=>by subst e;rw[h]at hk;cases hk;cases hc
  exact(World.putObj_heap_other a?).trans hk⟩
theorem af.DW {w' v l lo hi} (h:af w v l lo hi) (k:Below n₀ w w') (hh:hi<=n₀):af w' v l lo hi:=by
 rcases h with h|⟨b,off,c,h1,h2,h3,h4,h5,h6,h7,h8⟩
 .exact Or.inl h
 .refine Or.inr ⟨b,off,c,h1,fun i hi'=>?_,h3,h4,Nk h5 k.size,h6,h7,h8⟩
  rw[k.cell d!,k.cell d!]
  exact h2 i hi'
theorem Cc (l k) (h:k<l.length) (j) (hj:j<=l[k].2.toNat):NY (l.take k)++(List.range j).map (fun i=>l[k].1.toNat+i) <+: NY l:=by
 have e:NY l=NY (l.take k)++((List.range l[k].2.toNat).map (fun i=>l[k].1.toNat+i)++NY (l.drop (k+1))):=by
  rw[<-MW,<-kz l k h,<-lq,List.take_append_drop]
 rw[e]
 refine List.prefix_append_right_inj _ |>.2 ?_
 refine List.IsPrefix.trans ?_ (List.prefix_append _ _)
 have:List.range j=(List.range l[k].2.toNat).take j:=by rw[List.take_range,Nat.min_eq_left hj]
 rw[this,List.map_take]
 exact List.take_prefix _ _
theorem F6 (n:Nat) (hn:1<=n) (l B1 B2 n₀ lo hi:Nat) (sv:Value) (rl:List (Int×Int)) (hm:dv 0 8192 rl) (P3:rl.length<=1000000) (J Jx:List Nat->World->Prop) (W:World)
  (hJ:AbidesFrom W J)
  (hY:∀pre x W1,J pre W1->pre.length<(NY rl).length->YieldAt Fence.wide (n-1) prog l #[.int .i64 ((x:Nat):Int)] W1 fun e W'=>
   (e=true/\J (pre++[x]) W'/\ml n₀ W1 W')\/(e=false/\Jx (pre++[x]) W'))
  (hB1:W.cell? B1=true) (hB2:W.cell? B2=some sv) (hR:af W sv rl lo hi) (WL:hi<=n₀) (Wx:n₀<=W.heap.size) (h0:J [] W):
  CallsIn Fence.wide n prog 179 #[.func (.yield l) #[] #[],B1,B2] W fun e W'=>(∃v,e=.returned v)/\
   ((∃ys,ys=NY rl/\J ys W')\/(∃pre,pre <+: NY rl/\Jx pre W')):=by
 obtain⟨p,c,rfl⟩:=hR.shape
 refine callsIn_of_wp func179 rfl trivial ?_ rfl
 simp only[ntmps179,List.size_toArray,Nj,List.length_nil,Nat.reduceAdd,Nat.reduceSub,Array.replicate_succ,Array.replicate_zero,List.push_toArray,List.append_toArray,NI,List.cons_append]
 gi_wp2
 gi_loopw [11] (fun i wr=>∃k:Nat,k<=rl.length/\i=(k:Int)/\J (NY (rl.take k)) wr/\Below n₀ W wr) (fun i _=>rl.length-(intOf i).toNat)
 case atStart=>exact⟨0,Nb _,rfl,h0,Below.refl _ _⟩
 case round=>
  obtain⟨wo,rfl⟩:∃wo:World,wo=wr:=⟨_,rfl⟩
  obtain⟨k,hk,rfl,hJs,hB⟩:=hrel
  by_cases NV:k<rl.length
  .have hRw:=hR.DW hB WL
   have PF:=kz rl k NV
   have XR:=Cc rl k NV
   have Pf:=hm.1 _ (MJ NV)
   obtain⟨b,off,rfl,c0,c1,hb,hlc,PT⟩:=hRw.at_ k NV
   unfold gQ at Pf
   generalize rl[k]=r at*
   have⟨ra,rn⟩:=r
   have⟨o1,o2,o3,o4⟩:=Pf
   simp only at o1 o2 o3 o4 c0 c1 PF XR
   obtain⟨a,rfl⟩:=MM o1
   obtain⟨m,rfl⟩:=MM (show 0<=rn by omega)
   simp only[Nw]at PF XR
   have PW:=hB.size
   have hJa:=fun(o:Obj)=>hJ _ wo (wo.alloc o) none hJs (World.grownBy_alloc wo o none) (fun r e=>by cases e)
   have hBa:=fun(o:Obj)=>hB.alloc a? o
   have i1:(k:Int)<rl.length:=a?
   have oo:=ae.new wo #[(a:Int),(m:Int)] 128
   have hJ0:=hJa (.cells #[(a:Int),(m:Int)] 128)
   have hB0:=hBa (.cells #[(a:Int),(m:Int)] 128)
   have UB:wrap64 ((k:Int)+1)=(k:Int)+1:=IntWalk.wrap64_in _ a?
   have⟨Ux,Sm,HY,HJ0,ZB,HOO,Of⟩:=gk! XR PF hY hJ0 hB0 oo NV
   have HO:=tK (And.intro o2 o4)
   clear XR PF hY hm hJa hBa hJ hJs hB hR hRw hJ0 hB0 oo hlc PT WL Wx PW hb P3 hk o1 o2 o3 o4 NV
   gi_wp2
   gi_loopw [17] (fun i wx=>∃j:Nat,j<=m/\i=(j:Int)/\J (NY (rl.take k)++(List.range j).map (fun i=>a+i)) wx/\Below n₀ W wx/\ae wx wo #[(a:Int),(m:Int)] 128) (fun i _=>m-(intOf i).toNat)
   case atStart=>exact⟨0,Nb _,rfl,by simpa using HJ0.out,ZB.out,HOO.out⟩
   case round=>
    obtain⟨j,hj,rfl,hJx,hBx,ox⟩:=hrel
    have⟨hr0,Tm⟩:=ox.c2
    by_cases hjm:j<m
    .have hlen:(NY (rl.take k)++(List.range j).map (fun i=>a+i)).length<(NY rl).length:=by
      have:=(Ux.out (j+1) a?).length_le
      simp only[tN,MP,List.length_range]at this ⊢
      omega
     have Qu:(NY (rl.take k)++(List.range j).map (fun i=>a+i))++[a+j]=NY (rl.take k)++(List.range (j+1)).map (fun i=>a+i):=by
      rw[List.range_succ,M0,MW];rfl
     have⟨fn,tmps,assign,body,hy,hRd⟩:=HY.out _ (a+j) wr hJx hlen
     rw[Qu]at hRd
     simp only[Int.natCast_add]at hy
     have i2:(j:Int)<m:=a?
     have hwj:wrap64 ((j:Int)+1)=(j:Int)+1:=IntWalk.wrap64_in _ O!
     have hw:wrap64 ((a:Int)+(j:Int))=(a:Int)+(j:Int):=IntWalk.wrap64_in _ O!
     have⟨HJM,SP,HOX⟩:=gg! hjm hBx ox
     clear hlen Qu hjm hj hBx ox hJx
     gi_wp2
     refine hRd.mono ?_
     rintro e W3 (⟨rfl,hJ3,P6⟩|⟨rfl,hJx3⟩)
     .gi_wp2
      go_roundw
      case rel=>exact⟨j+1,HJM.out,by simp,hJ3,SP.out.trans P6.1,P6.2 _ _ _ HOX.out⟩
      case measure=>(have:=HJM.out;(try simp only[hwj]);clear hwj UB hw;simp[intOf];omega)
     .gi_wp2
      refine MN (results_none rfl _ _ _) rfl ?_
      exact⟨⟨_,rfl⟩,.inr ⟨_,Ux.out (j+1) HJM.out,hJx3⟩⟩
    .obtain rfl:j=m:=a?
     gi_wp2
     go_roundw
     case rel=>exact⟨k+1,Of.out,by simp[UB],by rw[Sm.out];exact hJx,hBx⟩
     case measure=>(have:=Of.out;(try simp only[UB]);clear UB;simp[intOf];omega)
  .obtain rfl:k=rl.length:=a?
   gi_wp2
   go_end0
   exact⟨⟨_,rfl⟩,.inl ⟨_,by rw[MU],hJs⟩⟩
end
open Go.Proofs.Tryz Go.RowKit
variable {P:Program} {S:World->Prop} {v:Value} {fuel:Nat} {listed:Array Bool} {a:Act} {w:World} {A B:Prop} {f s z:Int} {l t:List (Int×Int)}
theorem cT {ops} {Q:Exit->Act->World->Prop} {md:Region.Mode} {i} {oi:Oper} {d} (hi:ops[i]? =some oi) (hd:oi.dst=d) (hs:Region.noSelect ops=true) (hf:Region.free md ops listed i=true) (hr:(Region.ready md ops listed).contains i=true) (hQ:∀c a w,Q (.panic c) (a.put d v) w->Q (.panic c) a w) (hy:YieldsIf P ops S oi v a) (hS:S w) (h:wpAnyH P md ops Q S fuel (listed.setIfInBounds i true) (a.put d v) w):wpAnyH P md ops Q S (fuel+1) listed a w:=by
 subst hd
 exact wpAnyH_take hi hs hf hr hQ hy hS h
def LU (F:Act->World->Prop) (e:Exit) (a:Act) (w:World):Prop:=e=.normal/\F a w
theorem yY {c:Code} {F K:Act->World->Prop} {Q:Exit->Act->World->Prop} (h:c.wp P (LU F) a w) (h2:∀a w,F a w->K a w):c.wp P (Exit.then K Q) a w:=
 wp_mono h (fun e a w he=>by obtain⟨rfl,hf⟩:=he;exact h2 a w hf)
theorem nM (b:B) (h:B->A:=by(intro hb;(try simp only[Act.put,List.setIfInBounds_toArray,List.set_cons_zero,List.set_cons_succ]);exact hb)):A:=h b
theorem rD {ops} {Q:Exit->Act->World->Prop} {md:Region.Mode} {o:Oper} (i) (h:∀K':Act->World->Prop,Shut (∀a w,S w->(S w->wpAnyH P md ops Q S fuel (listed.setIfInBounds i true) a w)->K' a w)->if Region.wanted o (yielded ops a.tmps)=true then Oper.wp P o a w K' Q else K' (a.put o.dst undef) w) (hr:Region.ready md ops listed=[i]:=by kernel_rfl) (ho:ops[i]? =some o:=by rfl):wpAnyH P md ops Q S (fuel+1) listed a w:=
 wpAnyH_ready hr b? (AllReadyH.cons ho h AllReadyH.nil)
theorem Pu {ops} {Q:Exit->Act->World->Prop} {md:Region.Mode} {oi:Oper} {d} (i) (hb:B) (hi:ops[i]? =some oi:=by rfl) (hd:oi.dst=some d:=by rfl) (hr:(Region.ready md ops listed).contains i=true:=by decide+kernel) (hy:YieldsIf P ops S oi v a:=by first|exact Or.inl ⟨L?,by(intro w RI;(try dsimp only at RI);go_simp<;>with_reducible rfl)⟩|exact Or.inr ⟨L?,rfl⟩) (hS:S w:=by assumption) (hs:Region.noSelect ops=true:=by kernel_rfl) (hf:Region.free md ops listed i=true:=by kernel_rfl) (hQ:∀c a w,Q (.panic c) (a.put (some d) v) w->Q (.panic c) a w:=by first|exact fun _ _ _ h=>h|exact fun _ _ _ h=>by cases h.1) (hB:B->wpAnyH P md ops Q S fuel (listed.setIfInBounds i true) (a.put (some d) v) w:=by(intro hb;simp only[Act.put,List.setIfInBounds_toArray,List.set_cons_zero,List.set_cons_succ];exact hb)):wpAnyH P md ops Q S (fuel+1) listed a w:=
 cT hi hd hs hf hr hQ hy hS (hB hb)
structure Wt (B:Prop):Prop where
 out:B
theorem tS (hb:B) (h:Wt B->A:=by(intro hb;(try refine Pu 0 ?_);(try refine Pu 1 ?_);(try refine Pu 2 ?_);(try refine Pu 3 ?_);(try refine Pu 4 ?_);(try refine Pu 5 ?_);(try refine Pu 6 ?_);(try refine Pu 7 ?_);(try refine Pu 8 ?_);(try refine Pu 9 ?_);(try refine Pu 10 ?_);(try refine Pu 11 ?_);(try refine Pu 12 ?_);(try refine Pu 13 ?_);(try refine Pu 14 ?_);(try refine Pu 15 ?_);(try refine Pu 16 ?_);(try refine Pu 17 ?_);(try refine Pu 18 ?_);(try refine Pu 19 ?_);(try refine Pu 20 ?_);(try refine Pu 21 ?_);(try refine Pu 22 ?_);(try refine Pu 23 ?_);(try refine Pu 24 ?_);(try refine Pu 25 ?_);(try refine Pu 26 ?_);(try refine Pu 27 ?_);(try refine Pu 28 ?_);(try refine Pu 29 ?_);(try refine Pu 30 ?_);(try refine Pu 31 ?_);(try refine Pu 32 ?_);(try refine Pu 33 ?_);(try refine Pu 34 ?_);(try refine Pu 35 ?_);(try refine Pu 36 ?_);(try refine Pu 37 ?_);(try refine Pu 38 ?_);(try refine Pu 39 ?_);(try refine Pu 40 ?_);(try refine Pu 41 ?_);(try refine Pu 42 ?_);(try refine Pu 43 ?_);(try refine Pu 44 ?_);(try refine Pu 45 ?_);(try refine Pu 46 ?_);(try refine Pu 47 ?_);(try refine Pu 48 ?_);(try refine Pu 49 ?_);(try refine Pu 50 ?_);(try refine Pu 51 ?_);(try refine Pu 52 ?_);(try refine Pu 53 ?_);(try refine Pu 54 ?_);(try refine Pu 55 ?_);(try refine Pu 56 ?_);(try refine Pu 57 ?_);(try refine Pu 58 ?_);(try refine Pu 59 ?_);(try refine Pu 60 ?_);(try refine Pu 61 ?_);(try refine Pu 62 ?_);(try refine Pu 63 ?_);(try refine Pu 64 ?_);(try refine Pu 65 ?_);(try refine Pu 66 ?_);(try refine Pu 67 ?_);(try refine Pu 68 ?_);(try refine Pu 69 ?_);(try refine Pu 70 ?_);(try refine Pu 71 ?_);(try refine Pu 72 ?_);(try refine Pu 73 ?_);(try refine Pu 74 ?_);(try refine Pu 75 ?_);(try refine Pu 76 ?_);(try refine Pu 77 ?_);(try refine Pu 78 ?_);(try refine Pu 79 ?_);(try refine Pu 80 ?_);(try refine Pu 81 ?_);(try refine Pu 82 ?_);(try refine Pu 83 ?_);(try refine Pu 84 ?_);(try refine Pu 85 ?_);(try refine Pu 86 ?_);(try refine Pu 87 ?_);(try refine Pu 88 ?_);(try refine Pu 89 ?_);exact hb.out)):A:=h ⟨hb⟩
def ik (f s:Int) (l:List (Int×Int)) (w:World) (e:Ending) (w':World):Prop:=∃r,e=.returned (.bool r)/\(r=true↔dv f s l)/\NP [] w w'
theorem iG {w w'} (h:¬dv f s l) (k:NP [] w w'):ik f s l w (.returned false) w':=⟨false,rfl,⟨fun q=>(by cases q),fun q=>absurd q h⟩,k⟩
theorem pF {w w'} (h:dv f s l) (k:NP [] w w'):ik f s l w (.returned true) w':=⟨true,rfl,⟨fun _=>h,fun _=>rfl⟩,k⟩
theorem M42 {A:Prop}(h:A:=by
 skip
 try simp only[Act.put,List.setIfInBounds_toArray,List.set_cons_zero,List.set_cons_succ]
 refine tS ?_
 refine Ng c? ?_ _
 go_wp2_with fail
 go_meet
 exact⟨HR.out.symm,(by repeat' first|exact ho|refine ae.alloc ?_ _|refine ae.drewN ?_ _|refine ae.drew ?_),(by repeat' first|exact QJ|refine NP.alloc ?_ _|refine NP.drewN ?_ _|refine NP.drew ?_)⟩):A:=h
theorem IW (v l) (f s:Int) (lo hi:Nat) (w) (h:af w v l lo hi) (hl:l.length<=1000000) (Pj:∀a∈l,aQ a) (_: -9223372036854775808<=f) (_:f<=9223372036854775807) (s1: -9223372036854775808<=s) (s2:s<=9223372036854775807):
  am! 262 #[v,f,s] w (ik f s l w):=by
 obtain⟨p,c,rfl⟩:=h.shape
 have⟨H,VI⟩:=f? h Pj
 have Tg:(l.length:Int)<=1000000:=a?
 clear h Pj
 go_enter func262,ntmps262
 go_wp2_with fail
 go_loopw [7] (fun i wr=>∃k:Nat,k<=l.length/\i=(k:Int)/\dv f s (l.take k)/\NP [] w wr) (fun i _=>l.length-(intOf i).toNat)
 case atStart=>exact⟨0,a?,rfl,Fq _ _,NP.refl _ _⟩
 case round=>
  obtain⟨k,hk,rfl,hM,hK⟩:=hrel
  by_cases NV:k<l.length
  .obtain⟨b,off,rfl,c0,c1,hb,hlc,PT⟩:=(H.out.kept0 hK).at_ k NV
   have UB:=VI.out l[k] (MJ NV)
   have OF:= @Fp f s l k NV
   have TV:=fun j hj=> @Fo f s l k j NV hj
   have UU:=C4 NV hM
   have i1:(k:Int)<l.length:=a?
   have⟨Of,Pk,Zl,Su⟩:=gh! NV OF TV UU
   have YK:∀j (hj:j<k),aQ (l[j]' a?):=fun j hj=>VI.out _ (MJ _)
   have YN:∀j (hj:j<k),gQ f s (l[j]' a?):=fun j hj=>hM.1 _ (by rw[List.mem_take_iff_getElem];exact⟨j,a?,rfl⟩)
   have⟨V6,HKO⟩:=f? YK YN
   clear OF TV UU hM YK YN
   generalize l[k]=X at*
   have⟨x0,xn⟩:=X
   have abH:=UB
   have⟨w1,w2,w3,w4⟩:=abH
   have HWK:=tK UB
   clear UB
   simp only at c0 c1 w1 w2 w3 w4
   unfold gQ at Pk Su
   simp only at Pk Su
   rcases(by omega:x0<f\/(f<=x0/\xn<1)\/(f<=x0/\1<=xn/\s<=x0)\/(f<=x0/\1<=xn/\x0<s/\0<=x0/\s-x0<xn)\/(f<=x0/\1<=xn/\x0<s/\x0<0/\s<x0+xn)\/((f<=x0/\1<=xn/\x0<s/\0<=x0/\xn<=s-x0)\/(f<=x0/\1<=xn/\x0<s/\x0<0/\x0+xn<=s)))with g1|⟨g1,g2⟩|⟨g1,g2,g3⟩|⟨g1,g2,g3,g4,g5⟩|⟨g1,g2,g3,g4,g5⟩|⟨g1,g2,g3,g4,g5⟩|⟨g1,g2,g3,g4,g5⟩
   iterate 5
    .have QT:=Pk.out a?
     have HN:=tK QT
     clear QT
     go_wp2_with fail
     go_ret
     exact iG HN.out (hK.alloc _)
   all_goals
    have Pf:f<=x0/\1<=xn/\x0<s/\x0+xn<=s:=a?
    have QH:=tK Pf
    clear Pf
    have o0:=ae.new wr #[x0,xn] 128
    go_wp2_with fail
    obtain⟨wo,rfl⟩:∃wo:World,wo=wr:=⟨_,rfl⟩
    go_loopw [9] (fun i wx=>∃m:Nat,m<=k/\i=(m:Int)/\(∀j (hj:j<m) (hjl:j<l.length),fG (x0,xn) l[j])/\ae wx wo #[x0,xn] 128/\NP [] w wx) (fun i _=>k-(intOf i).toNat)
    case atStart=>exact⟨0,a?,rfl,fun j hj=>absurd hj a?,o0,hK.alloc _⟩
    case round=>
     obtain⟨m,hm,rfl,Qf,ho,QJ⟩:=hrel
     by_cases RO:m<k
     .have Te:=V6.out m RO
      have hom:=HKO.out m RO
      have Rb:=Zl.out m RO
      have⟨b',off',e',d0,d1,_⟩:=(H.out.kept0 QJ).at_ m a?
      injection e' with e'
      injection e' with e1 e2 _
      subst e1 e2
      have Xd:m<l.length:=a?
      have ha:∀(ha2:fG (x0,xn) (l[m]'Xd)),∀j (hj:j<m+1) (hjl:j<l.length),fG (x0,xn) l[j]:=fun ha2 j hj hjl=>by
       by_cases e:j=m
       .subst e;exact ha2
       .exact Qf j a? hjl
      have⟨SG,S3,HMK⟩:=gg! ha Rb RO
      clear ha Rb Qf
      generalize l[m]=Y at*
      have⟨y0,yn⟩:=Y
      have Qc:=fun W=>Gv x0 xn y0 yn W HWK.out Te g2
      have Qx:=fun W=>Gv y0 yn x0 xn W Te HWK.out hom.2.1
      have⟨q1,q2,q3,q4⟩:=hom
      simp only at d0 d1 q1 q2 q3 q4
      have x0c:wr.cell? wo=x0:=ho.cell 0 b?
      have x1c:wr.cell? (aa wo 1)=xn:=ho.cell 1 b?
      have i2:(m:Int)<k:=a?
      have i3:(m:Int)<l.length:=a?
      have ZH:∃R:Bool,(decide (x0<=y0/\y0<x0+xn)||decide (y0<=x0/\x0<y0+yn))=R:=⟨_,rfl⟩
      have⟨R,hR⟩:=ZH
      have Uc:=tK hR
      clear hR
      go_upto_region 10 with fail
      go_cut [81]from 63 to 81 (fun v wx=>v=.bool R/\ae wx wo #[x0,xn] 128/\NP [] w wx)
      case first=>
       rcases(by omega:(x0<=y0/\y0<x0+xn)\/¬(x0<=y0/\y0<x0+xn))with t1|t1
       .rw[MV t1]at Qc
        have HR:Hid (Value.bool R=true):=tK (by rw[<-Uc.out,MV t1];rfl)
        clear Qx Te q1 q2 q3 q4 t1
        refine MK (S:=(fun W=>W.cell? wo=x0/\W.cell? (aa wo 1)=xn/\W.cell? (aa b (off+m*2))=y0/\W.cell? (aa b (off+m*2+1))=yn)) c? (by go_keep) (fun hHeld=>?_)
        refine tS ?_
        refine wpAnyH_ready (rs:=[5]) c? b? ?_
        refine AllReadyH.cons rfl (fun K hK=>?_) AllReadyH.nil
        go_simp
        ((with_reducible refine(Qc _).mono ?_));rintro e w' ⟨rfl,rfl⟩
        go_wp2_with fail
        refine hK.out _ _ ?_ (fun hHeld2=>?_)
        .go_keep
        clear hK K hHeld
        exact M42
       .rw[MS t1]at Qc
        obtain⟨R2,Qn⟩:∃R2:Bool,decide (y0<=x0/\x0<y0+yn)=R2:=⟨_,rfl⟩
        rw[Qn]at Qx
        have HR:Hid (Value.bool R=.bool R2):=tK (by rw[<-Uc.out,MS t1,Qn];rfl)
        clear Te q1 q2 q3 q4 t1 Qn
        refine MK (S:=(fun W=>W.cell? wo=x0/\W.cell? (aa wo 1)=xn/\W.cell? (aa b (off+m*2))=y0/\W.cell? (aa b (off+m*2+1))=yn)) c? (by go_keep) (fun hHeld=>?_)
        refine tS ?_
        refine wpAnyH_ready (rs:=[5]) c? b? ?_
        refine AllReadyH.cons rfl (fun K hK=>?_) AllReadyH.nil
        go_simp
        ((with_reducible refine(Qc _).mono ?_));rintro e w' ⟨rfl,rfl⟩
        go_wp2_with fail
        refine hK.out _ _ ?_ (fun hHeld2=>?_)
        .go_keep
        clear hK K hHeld
        skip
        try simp only[Act.put,List.setIfInBounds_toArray,List.set_cons_zero,List.set_cons_succ]
        refine tS ?_
        refine wpAnyH_ready (rs:=[12]) c? b? ?_
        refine AllReadyH.cons rfl (fun K hK=>?_) AllReadyH.nil
        go_simp
        ((with_reducible refine(Qx _).mono ?_));rintro e w' ⟨rfl,rfl⟩
        go_wp2_with fail
        refine hK.out _ _ ?_ (fun hHeld3=>?_)
        .exact⟨(by repeat' first|exact x0c|refine Lib.cell?_alloc_some _ ?_),(by repeat' first|exact x1c|refine Lib.cell?_alloc_some _ ?_),(by repeat' first|exact d0|refine Lib.cell?_alloc_some _ ?_),(by repeat' first|exact d1|refine Lib.cell?_alloc_some _ ?_)⟩
        clear hK K hHeld2
        exact M42
      case rest=>
       obtain⟨rfl,ho2,V4⟩:=hcut
       cases R
       .have TY:=SG.out (by
         have h9:=Uc.out
         rw[Bool.or_eq_false_iff,decide_eq_false_iff_not,decide_eq_false_iff_not]at h9
         unfold fG;simp only;omega)
        have V9:=tK TY
        clear TY Te q1 q2 q3 q4 Uc
        go_wp2_with fail
        go_roundw
        case rel=>exact⟨m+1,HMK.out,j?,V9.out,ho2,V4⟩
        case measure=>(have hh:=HMK.out;simp[intOf];omega)
       .have QT:=S3.out (by
         have h9:=Uc.out
         rw[Bool.or_eq_true,decide_eq_true_eq,decide_eq_true_eq]at h9
         unfold fG;simp only;omega)
        have HN:=tK QT
        clear QT Te q1 q2 q3 q4 Uc
        go_wp2_with fail
        go_ret
        exact iG HN.out V4
     .obtain rfl:m=k:=a?
      have ZT:=Su.out QH.out (fun j hj=>Qf j hj _)
      have Zj:=tK ZT
      clear ZT Qf
      go_wp2_with fail
      go_roundw
      case rel=>exact⟨m+1,Of.out,j?,Zj.out,QJ⟩
      case measure=>(have hh:=Of.out;simp[intOf];omega)
  .obtain rfl:k=l.length:=a?
   rw[MU]at hM
   have HM:=tK hM
   clear hM
   go_wp2_with fail
   go_ret
   exact pF HM.out hK
theorem M67 {A:Prop}(h:A:=by
 have Up:=tK P0
 have OP:NP [] w w1:=((NP.refl _ _).alloc _).grown Pi (fun k hk=>Or.inr (by simp[Value.ownBlock]at hk;omega))
 clear Ot Pi Qw P0
 go_wp2_with fail
 go_ret
 exact⟨_,rfl,Up.out,OP⟩):A:=h
theorem tX (v l lo hi w) (h:af w v l lo hi) (hl:l.length<=1000000):
  am! 69 #[v] w (bh l w):=by
 have⟨i0,hi0,Rh,Qc,Qx⟩:=eV
 have q22:=fun w a n c n' c'=>Lib.run_eql_slice_nil w _ _ a n c n' c' underlying56
 obtain⟨p,c,rfl⟩:=h.shape
 unfold bh
 cases p with
 |none=>
  have WU:l=[]:=by
   rcases h with⟨h,_⟩|⟨b,off,c',e,_⟩
   .exact h
   .simp at e
  subst WU
  go_enter func69,ntmps69
  go_wp2_with fail
  go_ret
  exact⟨_,rfl,Nf _ _ _ _,NP.refl _ _⟩
 |some ad=>
  have Ou:∀j u,(NW l)[j]? =some u->w.cell? (ad.add j)=some u:=by
   rcases h with⟨rfl,_⟩|⟨b,off,c',e,h2⟩
   .intro j u hj;simp[NW]at hj
   .simp at e
    exact M30
  have A:=tK Ou
  clear Ou h
  have Tm:=dm l
  have Th:=kH l
  have⟨VP,HR2⟩:=f? Tm Th
  clear Tm Th
  go_enter func69,ntmps69
  go_wp2_with (at_builtin;refine wpList_append_own _ rfl _ _ 56 rfl w 128 i0 _ 2 16 underlying56 hi0 Rh Qc Qx rfl d? _ _ _ rfl (World.ownsRow_made w #[] 0 (MG _) (Nb _) b?) ad l.length c (NW l) rfl ?qc1 ?qc2 ?qc3 ?qc4 ?qc5 ?qc6 ?_)
  case qc1=>exact VP.out
  case qc2=>intro j u hj;exact Lib.cell?_alloc_some _ (A.out j u hj)
  case qc3=>exact HR2.out
  case qc4=>unfold maxLen;omega
  case qc5=>omega
  case qc6=>simp
  intro v' w1 Ot Pi Qw
  have P0:w1.ownsRow w 128 2 v' l.length (NW l):=by simpa using Ot
  exact M67
theorem yE {f z t} (hr:jl t) (Pf:∀j (hj:j<t.length),gQ f z t[j]) (hch:∀j (hj:j+1<t.length),t[j].1+t[j].2<=t[j+1].1):dv f z t:=by
 refine⟨fun a ha=>?_,?_⟩
 .obtain⟨j,hj,rfl⟩:=Nr.1 ha
  exact Pf j hj
 .rw[List.pairwise_iff_getElem]
  intro i j hi hj VM
  refine Or.inl ?_
  have h1:=hch i a?
  by_cases e:j=i+1
  .subst e;exact h1
  .have h2:=List.pairwise_iff_getElem.1 hr (i+1) j a? hj a?
   omega
theorem AY {n} (hr:jl t) (hn:n+1<t.length) (h1:1<=t[n+1].2) (h:t[n+1].1<t[n].1+t[n].2):¬dv f z t:=fun hm=>by
 have h2:=List.pairwise_iff_getElem.1 hm.2 n (n+1) a? hn a?
 have h3:=List.pairwise_iff_getElem.1 hr n (n+1) a? hn a?
 rcases h2 with h2|h2<;>omega
def xV (f z:Int) (t:List (Int×Int)) (k:Nat):Prop:=(∀j (hj:j<t.length),j<k->gQ f z t[j])/\∀j (hj:j+1<t.length),j+1<k->t[j].1+t[j].2<=t[j+1].1
theorem CO (f z t):xV f z t 0:=⟨fun j _ h=>by omega,fun j _ h=>by omega⟩
theorem Fb (h0:0<t.length) (h:gQ f z t[0]):xV f z t 1:=⟨fun j _ hj=>by
 obtain rfl:j=0:=a?
 exact h,fun j _ h=>by omega⟩
theorem CP {n} (hn:n+1<t.length) (h:xV f z t (n+1)) (h1:gQ f z t[n+1]) (h2:t[n].1+t[n].2<=t[n+1].1):xV f z t (n+1+1):=by
 refine⟨fun j hj hjk=>?_,fun j hj hjk=>?_⟩
 .by_cases e:j=n+1
  .subst e;exact h1
  .exact h.1 j hj a?
 .by_cases e:j=n
  .subst e;exact h2
  .exact h.2 j hj a?
theorem adG (h:A:=by
 have Uf:=tK QT
 clear QT
 go_wp2_with fail
 go_ret
 exact iG Uf.out (W4.out _ ((NP.refl _ _).alloc _))):A:=h
theorem I1 (v l) (f z:Int) (lo hi:Nat) (w) (h:af w v l lo hi) (hl:l.length<=1000000) (Pj:∀a∈l,aQ a) (f1: -9223372036854775808<=f) (f2:f<=9223372036854775807) (s1: -9223372036854775808<=z) (s2:z<=9223372036854775807):
  am! 178 #[v,f,z] w (ik f z l w):=by
 have hc:=tX v l lo hi w h hl
 unfold bh at hc
 obtain⟨p,c,rfl⟩:=h.shape
 have⟨HC,VI⟩:=f? hc Pj
 have R7:=fun v1 w1 (r1:w1.ownsRow w 128 2 v1 l.length (NW l))=>IZ w v1 l w1 r1 hl
 unfold hZ at R7
 have VH:=tK R7
 clear h hc Pj R7
 generalize hN:l.length=N at*
 have HN:=tK hN
 clear hN
 go_enter func178,ntmps178
 go_wp2_with fail
 refine HC.out.mono ?_;rintro e w1 ⟨v1,rfl,r1,k1⟩
 have R7:=VH.out _ _ r1
 have VH:=tK R7
 obtain⟨p1,c1,rfl⟩:=ah r1
 clear R7 r1
 go_wp2_with fail
 refine VH.out.mono ?_;rintro e w3 ⟨rfl,t,Qi,hris,Tb,k3⟩
 have K3:NP [] w w3:=by
  rcases Tb.2 with⟨e1,_⟩|⟨g,cap,cur,e1,hb,_⟩
  .exact k1.call (k3 [] (fun g hg=>by rw[e1]at hg;simp[Value.ownBlock]at hg)) (fun x hx=>by cases hx)
  .refine k1.call (k3 [g] (fun g' hg=>?_)) (fun x hx=>Or.inr ?_)
   .rw[e1]at hg
    have:g=g':=y!
    simp[this]
   .have hx:x=g:=h?
    omega
 have PX:N=t.length:=by rw[<-HN.out];exact Qi.length_eq.symm
 clear HN
 subst PX
 have hS:=af.bB Tb
 have hmp:dv f z t↔dv f z l:=C7 Qi
 have hwt:=fun a ha=>VI.out a (Qi.mem_iff.1 ha)
 have⟨HS,HMP,HWT,YY⟩:=gh! hS hmp hwt hris
 clear hS hmp hwt hris Tb k3 VH VI Qi HC
 have j1:(t.length:Int)<=1000000:=a?
 have hw3:=K3.size
 go_wp2_with fail
 go_loopw [16] (fun i wr=>∃k:Nat,k<=t.length/\i=(k:Int)/\xV f z t k/\NP [] w3 wr) (fun i _=>t.length-(intOf i).toNat)
 case atStart=>exact⟨0,a?,rfl,CO _ _ _,NP.refl _ _⟩
 case round=>
  obtain⟨k,hk,rfl,hO,hK⟩:=hrel
  by_cases NV:k<t.length
  .obtain⟨b,off,rfl,c0,c1,hb,hlc,PT⟩:=(HS.out.kept0 hK).at_ k NV
   have UB:=HWT.out t[k] (MJ NV)
   have OF:¬gQ f z t[k]->¬dv f z l:=fun hh hm=>hh ((HMP.out.2 hm).1 _ (MJ NV))
   have i1:(k:Int)<t.length:=a?
   have⟨Pk,Of,HO⟩:=gg! OF NV hO
   have aat:=fun wx (hx:NP [] wr wx)=>(K3.trans hK).trans hx
   have W4:=tK aat
   clear OF hO aat
   rcases Nat.eq_zero_or_pos k with rfl|YA
   .have Pp:=fun hh=>Fb (f:=f) (z:=z) NV hh
    have Qt:=tK Pp
    clear Pp
    generalize t[0]=X at*
    have⟨x0,xn⟩:=X
    have⟨w1',w2',XU,w4'⟩:=UB
    unfold gQ at Pk Qt
    simp only[Nat.zero_mul,Nat.add_zero]at c0 c1
    simp only at c0 c1 w1' w2' XU w4' Pk Qt
    rcases(by omega:x0<f\/(f<=x0/\xn<1)\/(f<=x0/\1<=xn/\z<=x0)\/(f<=x0/\1<=xn/\x0<z/\0<=x0/\z-x0<xn)\/(f<=x0/\1<=xn/\x0<z/\x0<0/\z<x0+xn)\/((f<=x0/\1<=xn/\x0<z/\0<=x0/\xn<=z-x0)\/(f<=x0/\1<=xn/\x0<z/\x0<0/\x0+xn<=z)))with g1|⟨g1,g2⟩|⟨g1,g2,g3⟩|⟨g1,g2,g3,g4,g5⟩|⟨g1,g2,g3,g4,g5⟩|⟨g1,g2,g3,g4,g5⟩|⟨g1,g2,g3,g4,g5⟩
    iterate 5
     .have QT:=Pk.out a?
      exact adG
    all_goals
     have Pf:=Qt.out a?
     have QH:=tK Pf
     clear Pf
     go_wp2_with fail
     go_quiet (fail)
     go_wp2_with fail
     go_roundw
     case rel=>exact⟨0+1,Of.out,j?,QH.out,(hK.alloc _).drewN _⟩
     case measure=>(have hh:=Of.out;simp[intOf];omega)
   .obtain⟨n,rfl⟩:∃n,k=n+1:=⟨k-1,a?⟩
    have⟨b',off',e',d0,d1,_⟩:=(HS.out.kept0 hK).at_ n a?
    injection e' with e'
    injection e' with e1 e2 _
    subst e1 e2
    have hnl:n<t.length:=a?
    have T8:=HO.out.1 n hnl a?
    have UU:=fun h1 h2=>CP NV HO.out h1 h2
    have Qg:1<=t[n+1].2->t[n+1].1<t[n].1+t[n].2->¬dv f z l:=fun h1 h2 hm=>AY YY.out NV h1 h2 (HMP.out.2 hm)
    have⟨Su,S9⟩:=f? UU Qg
    clear UU Qg HO YA
    generalize t[n+1]=X at*
    generalize t[n]=Y at*
    have⟨x0,xn⟩:=X
    have⟨y0,yn⟩:=Y
    have⟨w1',w2',XU,w4'⟩:=UB
    have⟨q1,q2,q3,q4⟩:=T8
    unfold gQ at Pk Su
    simp only at c0 c1 w1' w2' XU w4' Pk Su d0 d1 q1 q2 q3 q4 S9
    have i2:(n:Int)+1<t.length:=a?
    have i3:(n:Int)<t.length:=a?
    rcases(by omega:x0<f\/(f<=x0/\xn<1)\/(f<=x0/\1<=xn/\z<=x0)\/(f<=x0/\1<=xn/\x0<z/\0<=x0/\z-x0<xn)\/(f<=x0/\1<=xn/\x0<z/\x0<0/\z<x0+xn)\/((f<=x0/\1<=xn/\x0<z/\0<=x0/\xn<=z-x0)\/(f<=x0/\1<=xn/\x0<z/\x0<0/\x0+xn<=z)))with g1|⟨g1,g2⟩|⟨g1,g2,g3⟩|⟨g1,g2,g3,g4,g5⟩|⟨g1,g2,g3,g4,g5⟩|⟨g1,g2,g3,g4,g5⟩|⟨g1,g2,g3,g4,g5⟩
    iterate 5
     .have QT:=Pk.out a?
      exact adG
    all_goals
     by_cases Qf:y0+yn<=x0
     .have Pf:=Su.out a? Qf
      have QH:=tK Pf
      clear Pf
      go_wp2_with fail
      go_quiet (fail)
      go_wp2_with fail
      go_roundw
      case rel=>exact⟨n+1+1,Of.out,j?,QH.out,(hK.alloc _).drewN _⟩
      case measure=>(have hh:=Of.out;simp[intOf];omega)
     .have QT:=S9.out g2 a?
      have Uf:=tK QT
      clear QT
      go_wp2_with fail
      go_quiet (fail)
      go_wp2_with fail
      go_ret
      exact iG Uf.out (W4.out _ (((NP.refl _ _).alloc _).drewN _))
  .obtain rfl:k=t.length:=a?
   have hM:dv f z l:=HMP.out.1 (yE YY.out (fun j hj=>hO.1 j hj hj) (fun j hj=>hO.2 j hj hj))
   have HM:=tK hM
   clear hM hO
   go_wp2_with fail
   go_ret
   exact pF HM.out (K3.trans hK)
end
section
section
open Go.Proofs.Tryz Go.RowKit
variable {A:Prop} {f s:Int} {l:List (Int×Int)}
theorem Nt:type_of% @List.getElem_cons_succ:=@List.getElem_cons_succ
structure SB where
 seq:Nat
 sectors:Int
 journal:Int
 used:Int
 size:Int
 runs:List (Int×Int)
def SB.cells (s:SB) (v:Value):Array Value:=#[.int .u64 s.seq,s.sectors,s.journal,s.used,s.size,v]
def SB.dD (s:SB):Prop:=1<=s.seq/\4<=s.sectors/\s.sectors<=8192/\1<=s.journal/\s.journal<=s.sectors-2/\0<=s.used/\s.used<=s.journal*128/\0<=s.size/\s.size<=1048576/\s.runs.length<=16
def SB.may (s:SB):Prop:=s.dD/\lies (2+s.journal) s.sectors s.runs=true/\NZ s.runs=On s.size
theorem SB.ma (s:SB):(¬s.dD/\((s.seq<1)\/(1<=s.seq/\s.sectors<4)\/(1<=s.seq/\4<=s.sectors/\8192<s.sectors)\/
  ((1<=s.seq/\4<=s.sectors/\s.sectors<=8192)/\((s.journal<1)\/(1<=s.journal/\s.sectors-2<s.journal)\/
  ((1<=s.journal/\s.journal<=s.sectors-2)/\((s.used<0)\/(0<=s.used/\s.journal*128<s.used)\/
  ((0<=s.used/\s.used<=s.journal*128)/\((s.size<0)\/(0<=s.size/\1048576<s.size)\/(0<=s.size/\s.size<=1048576/\16<s.runs.length)))))))))\/
  (s.dD/\1<=s.seq/\4<=s.sectors/\s.sectors<=8192/\1<=s.journal/\s.journal<=s.sectors-2/\0<=s.used/\s.used<=s.journal*128/\0<=s.size/\s.size<=1048576/\s.runs.length<=16):=by
 by_cases h:s.dD
 .exact Or.inr ⟨h,h⟩
 .refine Or.inl ⟨h,?_⟩
  unfold SB.dD at h
  omega
theorem CG (s:SB) (v:Value) (lo hi:Nat) (w:World) (h:af w v s.runs lo hi) (OF:¬s.dD) (hl:s.runs.length<=1000000):
  am! 164 #[.agg (s.cells v)] w fun e w'=>e=(1:Int)/\NP [] w w':=by
 obtain⟨p,c,rfl⟩:=h.shape
 have hc:=s.ma
 have⟨sq,a,b,u,z,l⟩:=s
 simp only[SB.cells]at*
 rcases hc with⟨_,hc⟩|⟨hy,_⟩
 .clear h OF
  rcases hc with g1|⟨g1,g2⟩|⟨g1,g2,g3⟩|⟨⟨g1,g2,g3⟩,g4|⟨g4,g5⟩|⟨⟨g4,g5⟩,g6|⟨g6,g7⟩|⟨⟨g6,g7⟩,g8|⟨g8,g9⟩|⟨g8,g9,g10⟩⟩⟩⟩
  all_goals
   go_enter func164,ntmps164
   go_wp2_with fail
   go_ret
   exact⟨rfl,(NP.refl _ _).alloc _⟩
 .exact absurd hy OF
def D3 (s:SB) (w:World) (e:Ending) (w':World):Prop:=((s.may/\e=(0:Int))\/(¬s.may/\e=(1:Int)))/\NP [] w w'
theorem adv (h:A:=by
 go_wp2_with fail
 go_ret
 exact⟨Or.inr ⟨HX.out,rfl⟩,((NP.refl _ _).alloc _).trans hk⟩):A:=h
theorem CI (s v lo hi w) (h:af w v s.runs lo hi) (hl:s.runs.length<=1000000):
  am! 164 #[.agg (s.cells v)] w (D3 s w):=by
 by_cases OF:s.dD
 .have hc:=s.ma
  rcases hc with⟨hy,_⟩|⟨_,g1,g2,g3,g4,g5,g6,g7,g8,g9,g10⟩
  .exact absurd OF hy
  .have aaf:=fun w h=>Mk v s.runs lo hi (2+s.journal) s.sectors w h hl a? a? a? g3
   have Y6:=fun w=>sP s.size w o?
   have Sv:lies (2+s.journal) s.sectors s.runs=true->NZ s.runs=On s.size->s.may:=fun a b=>⟨OF,a,b⟩
   have QX:lies (2+s.journal) s.sectors s.runs=false->¬s.may:=fun a hm=>by rw[hm.2.1]at a;cases a
   have QU:NZ s.runs≠On s.size->¬s.may:=fun a hm=>a hm.2.2
   have⟨HY,Ts,Rs⟩:=gg! Sv QX QU
   obtain⟨p,c,rfl⟩:=h.shape
   clear Sv QX QU OF
   unfold SB.cells
   generalize s.seq=sq at*
   generalize s.sectors=a at*
   generalize s.journal=b at*
   generalize s.used=u at*
   generalize s.size=z at*
   generalize s.runs=l at*
   have YD:∀w',NP [] w w'->af w' (p,l.length,c) l lo hi:=fun w' hk=>h.kept0 hk
   clear h
   have HK:=tK YD
   clear YD
   go_enter func164,ntmps164
   have o:=ae.new w #[.int .u64 (sq:Int),a,b,u,z,(p,l.length,c)] 58
   go_wp2_with fail
   refine(aaf _ (HK.out _ ((NP.refl _ _).alloc _))).mono ?_;rintro e w1 ⟨rfl,hk⟩
   have o1:=hk.own o b?
   have c4:=o1.cell 4 b?
   simp only[List.getElem_toArray,Nt,List.getElem_cons_zero]at c4
   cases hL:lies (2+b) a l
   .have HX:=tK (Ts.out hL)
    rw[if_neg b?]
    clear hL aaf Y6
    exact adv
   .rw[if_pos rfl]
    by_cases hq:NZ l=On z
    .have HX:=tK (HY.out hL hq)
     have Wu:(NZ l==On z)=true:=by simpa using hq
     clear hL aaf hq
     generalize NZ l=m at*
     generalize On z=n at*
     go_wp2_with fail
     refine(Y6 _).mono ?_;rintro e w2 ⟨rfl,rfl⟩
     go_wp2_with fail
     go_ret
     exact⟨Or.inl ⟨HX.out,rfl⟩,((NP.refl _ _).alloc _).trans hk⟩
    .have HX:=tK (Rs.out hq)
     have Wu:(NZ l==On z)=false:=by simpa using hq
     clear hL aaf hq
     generalize NZ l=m at*
     generalize On z=n at*
     go_wp2_with fail
     refine(Y6 _).mono ?_;rintro e w2 ⟨rfl,rfl⟩
     exact adv
 .exact(CG s v lo hi w h OF hl).mono fun e w' hh=>⟨Or.inr ⟨fun hm=>OF hm.1,hh.1⟩,hh.2⟩
def nZ (f s:Int) (l:List (Int×Int)) (w:World) (e:Ending) (w':World):Prop:=e=.returned (.bool (lies f s l&&decide (l.length<=16)))/\NP [] w w'
theorem qH {w w'} (h:lies f s l=false) (hk:NP [] w w'):nZ f s l w (.returned false) w':=by
 refine⟨?_,hk⟩;rw[h];rfl
theorem wE {w w'} (h:lies f s l=true) (hk:NP [] w w'):nZ f s l w (.returned (.bool (decide ((l.length:Int)<=16)))) w':=by
 refine⟨?_,hk⟩
 rw[h,Bool.true_and]
 have:decide ((l.length:Int)<=16)=decide (l.length<=16):=by rw[decide_eq_decide];omega
 rw[this]
theorem Gy (v l) (lo hi:Nat) (f s:Int) (w) (h:af w v l lo hi) (hl:l.length<=1000000) (hf:0<=f) (hf2:f<=100000) (hs:0<=s) (QG:s<=8192):
  am! 283 #[v,f,s] w (nZ f s l w):=by
 obtain⟨p,c,rfl⟩:=h.shape
 go_enter func283,ntmps283
 go_wp2_with fail
 go_loopw [7] (fun i wr=>∃k:Nat,k<=l.length/\i=(k:Int)/\Aside (dP f s l k=true)/\NP [] w wr) (fun i _=>l.length-(intOf i).toNat)
 case atStart=>exact⟨0,a?,rfl,rfl,NP.refl _ _⟩
 case round=>
  obtain⟨k,hk,rfl,hL,hK⟩:=hrel
  by_cases NV:k<l.length
  .obtain⟨b,off,rfl,c0,c1,hb,hlc,PT⟩:=(h.kept0 hK).at_ k NV
   unfold maxLen at PT
   have OF:=ue f s l k NV
   have P9:Aside (∀m,(l.take m).all (dQ l[k])=true->m=k->iM f s l[k]=true->dP f s l (k+1)=true):=fun m h1 h2 h3=>by
    subst h2;rw[iy f s l m NV,hL.out,h3,h1];rfl
   have hks:(8192:Int)*k<=8192000000:=a?
   have Rx:=mE l[k] l
   rcases @mv f s l[k]with⟨h0,UD⟩|⟨h0,g1,g2,g3,g4⟩
   .have HN:Hid (lies f s l=false):=OF aa!
    clear OF P9 h0 Rx
    generalize l[k]=a at*
    rcases UD with g1|⟨g1,g2⟩|⟨g1,g2,g3⟩|⟨g1,g2,g3,g4⟩
    all_goals
     go_wp2_with fail
     go_ret
     exact qH HN.out (hK.alloc _)
   .have TV:Hid ((l.take k).all (dQ l[k])=false->lies f s l=false):=fun hh=>OF W!
    have⟨H0,HA⟩:=f? h0 Rx
    have Ox:=fun m hm=>kp l[k] l m hm
    have OY:=tK Ox
    have Vr:=fJ (Nat.le_of_lt NV) hL.out
    have QH:=tK Vr
    clear OF h0 Rx Ox Vr
    generalize l[k]=a at*
    go_wp2_with fail
    obtain⟨wo,rfl⟩:∃wo:World,wo=wr:=⟨_,rfl⟩
    go_loopw [9] (fun i wr=>∃m:Nat,m<=k/\i=(m:Int)/\Aside ((l.take m).all (dQ a)=true)/\NP [] w wr/\ae wr wo #[a.1,a.2] 128) (fun i _=>k-(intOf i).toNat)
    case atStart=>exact⟨0,a?,rfl,rfl,hK.alloc _,ae.new _ _ _⟩
    case round=>
     obtain⟨m,hm,rfl,hAP,QJ,ho⟩:=hrel
     have⟨d0,d1⟩:=ho.c2
     have adg:=ho.lt
     by_cases RO:m<k
     .obtain⟨b',off',WA,e0,e1,Q3,-,-⟩:=(h.kept0 QJ).at_ m a?
      injection WA with WA
      injection WA with hbe1 hbe2 _
      subst hbe1 hbe2
      have hob:=dN.1 (QH.out m RO)
      have Q9:=OY.out m a?
      have TY:=HA.out m k a? RO
      have⟨Xg,YC⟩:=f? Q9 TY
      have hc:= @mD a l[m]
      clear Q9 TY
      generalize l[m]=bb at*
      have⟨q1,q2,q3,q4⟩:=hob
      rcases hc with⟨r0,r1,r2⟩|⟨r0,r1⟩
      .have HN:Hid (lies f s l=false):=TV.out (YC.out r0)
       clear r0 c0 c1
       go_wp2_with fail
       go_ret
       exact qH HN.out (QJ.alloc _)
      .have R0:=tK r0
       exact M38
     .have Wc:m=k:=a?
      have HL:Aside (dP f s l (k+1)=true):=P9.out m hAP.out Wc H0.out
      clear hAP c0 c1
      have hge:(k:Int)<=m:=a?
      clear Wc RO
      go_wp2_with fail
      go_roundw
      case rel=>exact⟨k+1,a?,j?,HL,QJ⟩
      case measure=>simp[intOf];omega
  .obtain rfl:k=l.length:=a?
   have HY:Hid (lies f s l=true):=hL.out
   clear hL
   go_wp2_with fail
   go_ret
   exact wE HY.out hK
theorem Aw (n w) (hn:(Lit.int .i64 n).wf=true):
  am! 146 #[n] w fun e w'=>e=(On n:Int)/\w=w':=by
 have hb:=ko hn
 unfold On
 by_cases h:n<1
 .rw[if_pos h]
  go_enter func146,ntmps146
  go_wp2_with fail
  go_ret
  exact⟨rfl,rfl⟩
 .rw[if_neg h]
  go_enter func146,ntmps146
  go_wp2_with fail
  go_ret
  exact⟨rfl,rfl⟩
theorem zg (v l lo hi f s w) (h:af w v l lo hi) (hl:l.length<=1000000) (hL:lies f s l=true) (hf:0<=f) (QG:s<=8192):
  am! 284 #[v] w fun e w'=>e=(NZ l:Int)/\w=w':=by
 obtain⟨p,c,rfl⟩:=h.shape
 have HL:=tK hL
 clear hL
 go_enter func284,ntmps284
 go_wp2_with fail
 go_loop [3,4] (fun a i=>∃k:Nat,k<=l.length/\i=(k:Int)/\a=(NZ (l.take k):Int)) (fun _ i=>l.length-(intOf i).toNat)
 case atStart=>exact⟨0,a?,rfl,by simp[NZ]⟩
 case round=>
  obtain⟨k,hk,rfl,rfl⟩:=hrel
  by_cases NV:k<l.length
  .obtain⟨b,off,rfl,c0,c1,hb,hlc,PT⟩:=h.at_ k NV
   have Qe:Hid (NZ (l.take (k+1))=NZ (l.take k)+l[k].2):=gH l k NV
   have XD:dP f s l k=true:=by
    cases hh:dP f s l k
    .have h2:=qN f s l k l.length a? hh
     rw[show dP f s l l.length=lies f s l from rfl,HL.out]at h2;cases h2
    .rfl
   have Tj:=oO (Nat.le_of_lt NV) XD hf QG
   have Pf:=dN.1 (fJ (MG _) HL.out k NV)
   have hks:(8192:Int)*k<=8192000000:=a?
   clear XD
   generalize l[k]=a at*
   generalize NZ (l.take k)=sm at*
   have⟨q1,q2,q3,q4⟩:=Pf
   go_wp2_with fail
   go_round
   case rel=>exact⟨k+1,a?,j?,by rw[Qe.out]⟩
   case measure=>simp[intOf];omega
  .obtain rfl:k=l.length:=a?
   have HS:Hid (NZ (l.take l.length)=NZ l):=by show _=_;rw[MU]
   generalize NZ (l.take l.length)=sm at*
   go_wp2_with fail
   go_ret
   rw[HS.out]
   exact⟨rfl,rfl⟩
theorem Hj (s:SB) (v:Value) (lo hi:Nat) (w:World) (h:af w v s.runs lo hi) (OF:¬s.dD) (hl:s.runs.length<=1000000):
  am! 249 #[.agg (s.cells v)] w fun e w'=>e=false/\NP [] w w':=by
 obtain⟨p,c,rfl⟩:=h.shape
 have hc:=s.ma
 have⟨sq,a,b,u,z,l⟩:=s
 simp only[SB.cells]at*
 rcases hc with⟨_,hc⟩|⟨hy,_⟩
 .clear h OF
  rcases hc with g1|⟨g1,g2⟩|⟨g1,g2,g3⟩|⟨⟨g1,g2,g3⟩,g4|⟨g4,g5⟩|⟨⟨g4,g5⟩,g6|⟨g6,g7⟩|⟨⟨g6,g7⟩,g8|⟨g8,g9⟩|⟨g8,g9,g10⟩⟩⟩⟩
  all_goals
   go_enter func249,ntmps249
   go_wp2_with fail
   go_ret
   exact⟨rfl,(NP.refl _ _).alloc _⟩
 .exact absurd hy OF
def lf (l:List (Int×Int)) (n size:Int) (w:World) (e:Ending) (w':World):Prop:=∃r,e=.returned (.bool r)/\(r=true↔dO l n size)/\NP [] w w'
theorem fC {n size w w'} (h:¬dO l n size) (k:NP [] w w'):lf l n size w (.returned false) w':=⟨false,rfl,⟨fun q=>(by cases q),fun q=>absurd q h⟩,k⟩
theorem qS {n size w w'} (h:dO l n size) (k:NP [] w w'):lf l n size w (.returned true) w':=⟨true,rfl,⟨fun _=>h,fun _=>rfl⟩,k⟩
theorem ads (h:A:=by
 go_wp2_with fail
 go_ret
 exact fC (fun hf=>by have:=HR.out.2 (HF.out.1 hf).2.2.1;cases this) k1):A:=h
theorem adz (h:A:=by
 go_wp2_with fail
 go_ret
 exact fC (fun hf=>by have:=HNI.out.1 (HF.out.1 hf).2.1;omega) (NP.refl _ _)):A:=h
theorem M93 {A:Prop}(h:A:=by
 have e2:decide (C=q)=false:=by simp[he]
 have HE:=tK he
 clear he
 go_wp2_with fail
 go_ret
 exact fC (fun hf=>HE.out (HF.out.1 hf).2.2.2) Wb):A:=h
theorem Mv (v l n size lo hi w) (h:af w v l lo hi) (hl:l.length<=1000000) (Pj:∀a∈l,aQ a) (hn:(Lit.int .i64 n).wf=true) (hs:(Lit.int .i64 size).wf=true):
  am! 177 #[v,n,size] w (lf l n size w):=by
 have bn:=ko hn
 have bz:=ko hs
 obtain⟨m,hm⟩:∃m,min n 8192=m:=⟨_,rfl⟩
 have HM:=fun W k=>I1 v l 0 m lo hi W (h.kept0 k) hl Pj a? a? a? a?
 have HC:=fun W k=>BU v l lo hi W (h.kept0 k) hl Pj
 have HN:=fun W=>sP size W hs
 have hfx:dO l n size↔(0<=size/\l.length<=16/\dv 0 m l/\(OV l:Int)=On size):=by rw[<-hm];rfl
 have HF:=tK hfx
 obtain⟨p,c,rfl⟩:=h.shape
 obtain⟨N,hN⟩:∃N:Int,(l.length:Int)=N:=⟨_,rfl⟩
 have Y1:l.length<=16↔N<=16:=a?
 have HNI:=tK Y1
 obtain⟨C,hC⟩:∃C:Int,(OV l:Int)=C:=⟨_,rfl⟩
 rw[hC]at HF
 have HC':∀W,NP [] w W->am! 65 #[(p,l.length,c)] W fun e w'=>e=C/\NP [] W w':=by rw[<-hC];exact HC
 generalize On size=q at*
 clear HC hfx Y1 h hl Pj hn hs hC
 by_cases h1:0<=size
 .by_cases h2:N<=16
  .go_enter func177,ntmps177
   go_wp2_with fail
   refine(HM _ (NP.refl _ _)).mono ?_;rintro e w1 ⟨r,rfl,hr,k1⟩
   have HR:=tK hr
   clear hr
   cases r with
   |false=>
    exact ads
   |true=>
    go_wp2_with fail
    refine(HC' _ k1).mono ?_;rintro e w2 ⟨rfl,k2⟩
    have Wb:=k1.trans k2
    go_wp2_with fail
    refine(HN _).mono ?_;rintro e w3 ⟨rfl,rfl⟩
    by_cases he:C=q
    .have e1:(C==q)=true:=by simp[he]
     have e2:decide (C=q)=true:=by simp[he]
     have HE:=tK he
     clear he
     go_wp2_with fail
     go_ret
     exact qS (HF.out.2 ⟨h1,HNI.out.2 h2,HR.out.1 b?,HE.out⟩) Wb
    .have e1:(C==q)=false:=by simp[he]
     exact M93
  .go_enter func177,ntmps177
   exact adz
 .go_enter func177,ntmps177
  go_wp2_with fail
  go_ret
  exact fC (fun hf=>by have:=(HF.out.1 hf).1;omega) (NP.refl _ _)
theorem Mi (v l n size lo hi w) (h:af w v l lo hi) (hl:l.length<=1000000) (Pj:∀a∈l,aQ a) (hn:(Lit.int .i64 n).wf=true) (hs:(Lit.int .i64 size).wf=true):
  am! 217 #[v,n,size] w (lf l n size w):=by
 have bn:=ko hn
 have bz:=ko hs
 obtain⟨m,hm⟩:∃m,min n 8192=m:=⟨_,rfl⟩
 have HM:=fun W k=>IW v l 0 m lo hi W (h.kept0 k) hl Pj a? a? a? a?
 have HC:=fun W k=>BO v l lo hi W (h.kept0 k) hl Pj
 have HN:=fun W=>Aw size W hs
 have hfx:dO l n size↔(0<=size/\l.length<=16/\dv 0 m l/\(OV l:Int)=On size):=by rw[<-hm];rfl
 have HF:=tK hfx
 obtain⟨p,c,rfl⟩:=h.shape
 obtain⟨N,hN⟩:∃N:Int,(l.length:Int)=N:=⟨_,rfl⟩
 have Y1:l.length<=16↔N<=16:=a?
 have HNI:=tK Y1
 obtain⟨C,hC⟩:∃C:Int,(OV l:Int)=C:=⟨_,rfl⟩
 rw[hC]at HF
 have HC':∀W,NP [] w W->am! 138 #[(p,l.length,c)] W fun e w'=>e=C/\NP [] W w':=by rw[<-hC];exact HC
 generalize On size=q at*
 clear HC hfx Y1 h hl Pj hn hs hC
 by_cases h1:size<0
 .go_enter func217,ntmps217
  go_wp2_with fail
  go_ret
  exact fC (fun hf=>by have:=(HF.out.1 hf).1;omega) (NP.refl _ _)
 .by_cases h2:16<N
  .go_enter func217,ntmps217
   exact adz
  .go_enter func217,ntmps217
   go_wp2_with fail
   refine(HM _ (NP.refl _ _)).mono ?_;rintro e w1 ⟨r,rfl,hr,k1⟩
   have HR:=tK hr
   clear hr
   cases r with
   |false=>
    exact ads
   |true=>
    go_wp2_with fail
    refine(HC' _ k1).mono ?_;rintro e w2 ⟨rfl,k2⟩
    have Wb:=k1.trans k2
    go_wp2_with fail
    refine(HN _).mono ?_;rintro e w3 ⟨rfl,rfl⟩
    by_cases he:C=q
    .have e1:(C==q)=true:=by simp[he]
     have e2:decide (C=q)=true:=by simp[he]
     have HE:=tK he
     clear he
     go_wp2_with fail
     go_ret
     exact qS (HF.out.2 ⟨a?,HNI.out.2 a?,HR.out.1 b?,HE.out⟩) Wb
    .have e1:(C==q)=false:=by simp[he]
     exact M93
theorem Bo {d l size} (h:¬dO l d.stand.length size):N7 d l size=1:=if_neg h
theorem yN {d l size} (h:dO l d.stand.length size):N7 d l size=if d.down=true then 90 else 0:=if_pos h
theorem vY {n:Nat} (h:n<=100000000):(Lit.int .i64 (n:Int)).wf=true:=by
 simp only[Lit.wf,No,decide_eq_true_eq]
 exact⟨by show(-9223372036854775808:Int)<=_;omega,by show _<=(9223372036854775807:Int);omega⟩
theorem DX {Inv:DK->World->Prop} {b} (hO:r7 Inv b) (d v l size lo hi w) (hI:Inv d w) (h:af w v l lo hi) (hl:l.length<=1000000) (Pj:∀a∈l,aQ a) (hs:(Lit.int .i64 size).wf=true):
  am! 104 #[b,v,size] w fun e w'=>e=(N7 d l size:Int)/\NP [] w w':=by
 have⟨n1,n2⟩:=hO.len hI
 have HL:∀W,NP [] w W->am! 36 #[b] W fun e w'=>e=(d.stand.length:Int)/\W=w':=fun W k=>hO.lenC (hO.keep hI k)
 have HD:∀W,NP [] w W->am! 61 #[b] W fun e w'=>e=.returned (.bool d.down)/\W=w':=fun W k=>hO.downC (hO.keep hI k)
 have HF:∀W,NP [] w W->am! 177 #[v,(d.stand.length:Int),size] W (lf l d.stand.length size W):=fun W k=>Mv v l _ size lo hi W (h.kept0 k) hl Pj (vY a?) hs
 have HG0:=tK (@Bo d l size)
 have HG1:=tK (@yN d l size)
 clear h hl Pj hs
 generalize N7 d l size=G at*
 obtain⟨N,hN⟩:∃N:Int,(d.stand.length:Int)=N:=⟨_,rfl⟩
 have hN1:1<=N:=a?
 have hN2:N<=8192:=a?
 rw[hN]at HL HF HG0 HG1
 clear hN n1 n2
 generalize d.down=D at*
 have k0:=NP.refl [] w
 go_enter func104,ntmps104
 go_wp2_with fail
 refine(HL _ k0).mono ?_;rintro e w1 ⟨rfl,rfl⟩
 go_wp2_with fail
 refine(HL _ k0).mono ?_;rintro e w1 ⟨rfl,rfl⟩
 go_wp2_with fail
 refine(HF _ k0).mono ?_;rintro e w1 ⟨r,rfl,hr,k1⟩
 have HR:=tK hr
 clear hr
 cases r with
 |false=>
  go_wp2_with fail
  go_ret
  exact⟨by rw[HG0.out (fun hf=>by have:=HR.out.2 hf;cases this)];rfl,k1⟩
 |true=>
  go_wp2_with fail
  refine(HD _ k1).mono ?_;rintro e w2 ⟨rfl,rfl⟩
  cases D with
  |false=>
   go_wp2_with fail
   go_ret
   exact⟨by rw[HG1.out (HR.out.1 b?)];rfl,k1⟩
  |true=>
   go_wp2_with fail
   go_ret
   exact⟨by rw[HG1.out (HR.out.1 b?)];rfl,k1⟩
open Classical in
noncomputable def eM (l:List (Int×Int)):List Nat:=if dv 0 8192 l then NY l else[]
theorem wB (h:dv 0 8192 l):(NY l).length<=8192:=by
 have h1:=vt h a?
 have h2:=uB h.1
 have h3:OV l<=8192:=by
  unfold OV
  have:∀f k,PM f k<=k:=fun f k=>by
   induction k with
   |zero=>exact MG _
   |succ k ih=>simp only[PM];split<;>omega
  exact this _ _
 omega
theorem lr (l):(eM l).length<=8192:=by
 unfold eM
 split
 .rename_i h;exact wB h
 .exact Nb _
theorem uC (h:dv 0 8192 l):eM l=NY l:=if_pos h
theorem Eo (h:¬dv 0 8192 l):eM l=[]:=if_neg h
theorem oZ {n size} (h:dO l n size):eM l=NY l:=uC ⟨fun a ha=>by
 have:=h.2.2.1.1 a ha
 unfold gQ at this ⊢
 omega,h.2.2.1.2⟩
theorem zG:∃i,prog.info? 3=some i/\i.zero=(0:Int)/\i.size=1/\i.bytes=8:=by
 have hi:(prog.info? 3).map (fun i=>(i.zero,i.size,i.bytes))=some (some (.int .i64 0),1,8):=c?
 exact Yh
def fv (l:List Nat):List Value:=l.map fun k=>((k:Nat):Int)
end
section
open Go.Proofs.Tryz Go.RowKit Go.Shelf
variable {w W w1:World} {v v':Value} {A:Prop} {n₀ B base size k:Nat} {t e:TypeId} {xs:List Value} {P:Program}
attribute [local go_sem] Oper.semAt_some
theorem af.wide {l lo hi} (h:af w v l lo hi):af w v l 0 w:=by
 rcases h with h|⟨b,off,c,h1,h2,h3,h4,h5,h6,h7,h8⟩
 .exact Or.inl h
 .exact Or.inr ⟨b,off,c,h1,h2,Nb _,a?,MG _,h6,h7,h8⟩
theorem F7 (n:Nat) (l B1 B2:Nat) (J:List Nat->World->Prop) (W:World) (hB1:W.cell? B1=false) (h0:J [] W):
  CallsIn Fence.wide n prog 179 #[.func (.yield l) #[] #[],B1,B2] W fun e W'=>(∃v,e=.returned v)/\J [] W':=by
 refine callsIn_of_wp func179 rfl trivial ?_ rfl
 simp only[ntmps179,List.size_toArray,Nj,List.length_nil,Nat.reduceAdd,Nat.reduceSub,Array.replicate_succ,Array.replicate_zero,List.push_toArray,List.append_toArray,NI,List.cons_append]
 gi_wp2
 simp_all [MN,results_none]
def tA (n n₀:Nat) (l:List (Int×Int)) (v:Value) (w:World):Prop:=
 ∃B1 B2:Nat,v=.func (.func 179) #[] #[B1,B2]/\
  SeqStopsK Fence.wide n prog 179 #[B1,B2] (fun k:Nat=>#[Value.int .i64 ((k:Nat):Int)]) (ml n₀) (fun xs=>xs=eM l) (fun pre=>pre <+: eM l) (eM l).length w
theorem Ee (n:Nat) (hn:1<=n) (n₀ B1 B2:Nat) (sv l) (hl:l.length<=1000000) (r) (hr:r=true↔dv 0 8192 l) (w) (h1:w.cell? B1=some (.bool r)) (l1:B1<w.heap.size) (h2:w.cell? B2=some sv) (l2:B2<w.heap.size) {lo hi:Nat} (hR:af w sv l lo hi) (WL:hi<=n₀) (Wx:n₀<=w.heap.size):
  tA n n₀ l (.func (.func 179) #[] #[B1,B2]) w:=by
 refine⟨B1,B2,rfl,fun lp J Jx W hW hJ hJx hY h0=>?_⟩
 have c1:=(hW.cell (p:=B1) l1).trans h1
 have c2:=(hW.cell (p:=B2) l2).trans h2
 cases r with
 |false=>
  have e:eM l=[]:=if_neg (fun h=>by have:=hr.2 h;cases this)
  exact(F7 n lp B1 B2 J W c1 h0).mono fun e' W' ⟨he,hj⟩=>⟨he,.inl ⟨[],e.symm,hj⟩⟩
 |true=>
  have hm:=hr.1 rfl
  have e:eM l=NY l:=if_pos hm
  rw[e]at hY ⊢
  exact F6 n hn lp B1 B2 n₀ lo hi sv l hm hl J Jx W hJ hY c1 c2 (hR.DW (hW.mono (MG _)) a?) WL (by have:=hW.size;omega) h0
theorem DY (n) (hn:1<=n) (n₀ v l lo hi w) (h:af w v l lo hi) (hl:l.length<=1000000) (Pj:∀a∈l,aQ a) (WL:hi<=n₀) (Wx:n₀<=w.heap.size):
  am! 105 #[v] w fun e w'=>∃f,e=.returned f/\NP [] w w'/\tA n n₀ l f w':=by
 have hmf:∀(fn:Fn) (first cap:Array Value) (w:World),(Instr.makeFunc fn first cap).run prog w=.ok (.func fn first cap) w:=fun _ _ _ _=>rfl
 have HM:=fun W k=>I1 v l 0 8192 lo hi W (h.kept0 k) hl Pj a? a? a? a?
 have HW:=tK h
 have k0:=(NP.refl [] w).alloc (.cells #[v] 56)
 have o0:=ae.new w #[v] 56
 obtain⟨p,c,rfl⟩:=h.shape
 clear h
 go_enter func105,ntmps105
 go_wp2_with fail
 refine(HM _ k0).mono ?_;rintro e w1 ⟨r,rfl,hr,k1⟩
 have HR:=tK hr
 clear hr
 have o1:=k1.own o0 b?
 have k01:=k0.trans k1
 go_wp2_with fail
 go_ret
 have HR':=HR.out
 have kA:=k01.alloc (.cells #[.bool r] 4)
 have oA:=ae.new w1 #[.bool r] 4
 have oB:ae (w1.alloc (.cells #[.bool r] 4)) w #[(p,l.length,c)] 56:=((NP.refl [] w1).alloc _).own o1 b?
 have sz:=kA.size
 exact⟨_,rfl,kA,Ee n hn n₀ w1 w _ l hl r HR' _ (Boxed.cell (t:=4) oA) oA.lt (Boxed.cell (t:=56) oB) oB.lt (HW.out.kept0 kA) WL (Nk Wx sz)⟩
attribute [local go_sem] Oper.semAt_some
theorem adC (h:A:=by
 subst e'
 rw[show W.heap[i]? =_ from hv]at hk
 injection hk with hk
 injection hk with _ ht'
 exact ht ht'):A:=h
theorem M65 (h:A:=by
 rcases NU.2 with⟨rfl,_⟩|⟨g,cap,cur,rfl,_,hgb,_⟩
 .simp[Value.ownBlock]
 .intro e'
  obtain rfl:i=g:=by simpa[Value.ownBlock]using e'
  rw[hgb]at hk
  injection hk with hk
  injection hk with _ he'
  exact he he'):A:=h
theorem Be {tmp} (hv:Boxed W B t v) (ht:t≠128) (NU:W.ownsRow base e size v k xs) (he:e≠128) (Pi:(W.alloc tmp).grownBy w1 v.ownBlock) (hb:Below n₀ W (w1.setCell B v')):ml n₀ W (w1.setCell B v'):=by
 refine⟨hb,fun i cs f hk=>?_⟩
 have NV:i<W.heap.size:=(Array.getElem?_eq_some_iff.1 hk).1
 have h1:i≠B:=fun e'=>by
  exact adC
 have h2:some i≠v.ownBlock:=by
  exact M65
 exact(Below.heap_setCell _ _ _ _ h1).trans ((Pi.block i e? h2).trans ((Below.heap_alloc _ _ _ NV).trans hk))
theorem Md {n} {fn:Func} {R:Ending->World->Prop} {tmps} (hv:(results fn tmps).run P w=.ok v w) (h:R (.returned v) w):
  bodyPostM Fence.wide n P fn R .ret {tmps:=tmps,defers:=[]} w:=⟨v,hv,h⟩
theorem sF {n} {P:Program} {fn:Func} {R:Ending->World->Prop} {tmps w v D} (hK:w.heap[D]? =some (.deferred (some []))) (hv:(results fn tmps).run P (w.putObj D (.deferred none))=.ok v (w.putObj D (.deferred none))) (h:R (.returned v) (w.putObj D (.deferred none))):
  bodyPostM Fence.wide n P fn R .ret {tmps:=tmps,defers:=[{target:=.collected D,args:=#[]}]} w:=⟨b?,.inl ⟨_,_,rfl,run_takeDeferred hK,v,hv,h⟩⟩
theorem iI (w D o):NP [D] w (w.putObj D o):=
 (NP.refl [D] w).grown (grownBy_putObj' w D o) (fun k hk=>by simp_all)
theorem nL {w2} (k:NP [] w w2) (h:Below B w2 W) (hB:w.heap.size<=B):NP [] w W:=
 ⟨h.os.trans k.os,h.tape.trans k.tape,h.output.trans k.output,Nk k.size h.size,fun j hj _=>(h.block j a?).trans (k.block j hj b?)⟩
theorem wF (h:W.ownsRow base e size v k xs) (hk:0<k):∃g cap,v=.slice (some ⟨g,0,none⟩) k cap:=by
 rcases h.2 with⟨_,h0⟩|⟨g,cap,_,rfl,_⟩
 .omega
 .exact⟨g,cap,rfl⟩
theorem nY (g k:Nat):(g:Addr).add k=(aa g k):=by
 grind [Addr.add]
theorem sn (a b):Lib.strCells (bs (a++b))=Lib.strCells (bs a)++Lib.strCells (bs b):=by simp[Lib.strCells,bs]
theorem kj {F:Fence} {n' ops rest} {o:Oper} {a} {Q:Exit->Act->World->Prop} (w) (hgd:o.guard=none) (sl x:Operand) (t u:TypeId) (ho:o.op=.call {callee:=.builtin .append,args:=#[sl,x],argTypes:=#[t,u]}) (base) (e:TypeId) (i:TypeInfo) (ht:P.underlying t=some (.slice e)) (hu:P.underlying u=some .string) (hi:P.info? e=some i) (hz:i.zero=some (.int .u8 0)) (QW:i.size=1) (XN:i.bytes=1) (v n xs) (hs:a.eval sl=v) (Ot:w.ownsRow base e 1 v n xs) (s:ByteArray) (hx:a.eval x=.string s) (h63:n+s.size<=maxLen) (Qs:n+s.size<=140737488355328) (Rk:base<=w.heap.size) (h:∀v' w',w'.ownsRow base e 1 v' (n+s.size) (xs++Lib.strCells s)->w.grownBy w' v.ownBlock->(v'=.slice none 0 0↔v=.slice none 0 0/\s.size=0)->wpListIn F n' P ops Q rest (a.put o.dst v') w'):wpListIn F n' P ops Q (o::rest) a w:=by
 refine wpListIn_plain hgd fun K hK=>?_
 have⟨v',w',hr,h2,h3,h4⟩:=Lib.run_append_own_string (P:=P) w base t u o.type e i ht hu hi hz QW XN v n xs Ot s h63 Qs Rk
 unfold Oper.wpIn
 refine⟨?_,?_⟩
 .simp[Oper.about,ho,resolve,Target.leads,Sem.run_pure]
 .rw[Oper.semAt_plain F _ _ (by rw[ho];intro c hc';cases hc')]
  simp[execOp,ho,resolve,invoke,builtin,hs,hx,hr,Result.andThen]
  exact hK _ _ (h v' w' h2 h3 h4)
theorem Boxed.D0 {m ys} (hv:Boxed W B t v) (hte:t≠e) (NU:W.ownsRow n₀ e size v k xs) (hn₀:n₀<=W.heap.size) (hB:n₀<=B) (Rj:w1.ownsRow n₀ e size v' m ys) (Pi:W.grownBy w1 v.ownBlock):
  Boxed w1 B t v/\Boxed (w1.setCell B v') B t v'/\(w1.setCell B v').ownsRow n₀ e size v' m ys/\KeepsOthers W (w1.setCell B v')/\Below n₀ W (w1.setCell B v'):=by
 have Ve:Boxed w1 B t v:=hv.kept Pi (hv.not_row hte NU)
 refine⟨Ve,Ve.set v',Rj.kept (grownBy_setCell' w1 B v') (.inr (Ve.not_row hte Rj).symm),?_,?_⟩
 .refine(KeepsOthers.of_grownBy Pi fun j o ej hj=>?_).trans (KeepsOthers.setCell _ _ _)
  rcases NU.2 with⟨rfl,_⟩|⟨g,cap,cur,rfl,_,hgb,_⟩
  .simp[Value.ownBlock]at ej
  .obtain rfl:g=j:=by simpa[Value.ownBlock]using ej
   rw[hgb]at hj;cases hj;rfl
 .refine((Below.refl n₀ W).grown Pi hn₀ fun j ej=>?_).setCell (p:=B) hB v'
  rcases NU.2 with⟨rfl,_⟩|⟨g,cap,cur,rfl,hb,_,_⟩
  .simp[Value.ownBlock]at ej
  .obtain rfl:g=j:=by simpa[Value.ownBlock]using ej
   exact hb
theorem yI (hv:Boxed W B t v) (ht:t≠128) (NU:W.ownsRow base e size v k xs) (he:e≠128) (Pi:W.grownBy w1 v.ownBlock) (hb:Below n₀ W (w1.setCell B v')):ml n₀ W (w1.setCell B v'):=by
 refine⟨hb,fun i cs f hk=>?_⟩
 have NV:i<W.heap.size:=(Array.getElem?_eq_some_iff.1 hk).1
 have h1:i≠B:=fun e'=>by
  exact adC
 have h2:some i≠v.ownBlock:=by
  exact M65
 exact(Below.heap_setCell _ _ _ _ h1).trans ((Pi.block i NV h2).trans hk)
end
open Go.Proofs.Tryz Go.RowKit
variable {lim:Nat} {w w':World}
def bF (lim:Nat) (w w':World):Prop:=
 w.heap.size<=w'.heap.size/\∀g o,lim<=g->w.heap[g]? =some o->(∀cs f,o≠.cells cs 206 f)->w'.heap[g]? =some o
theorem bF.trans {a b c} (h:bF lim a b) (k:bF lim b c):bF lim a c:=
 ⟨Nk h.1 k.1,fun g o hg ho ht=>k.2 g o hg (h.2 g o hg ho ht) ht⟩
theorem NP.j9 (k:NP [] w w') (lim):bF lim w w':=⟨k.size,fun g o _ ho _=>by
 rw[k.block g (Array.getElem?_eq_some_iff.1 ho).1 b?];exact ho⟩
theorem vR.j9 {b sb mb lo r lim:Nat} {w w':World} (k:vR b sb mb lo r w w') (h1:b<lim) (h2:sb<lim) (h3:mb<lim) (h4:r<lim):bF lim w w':=
 ⟨k.2.2.2.1,fun g o hg ho ht=>by
  have hlt:=(Array.getElem?_eq_some_iff.1 ho).1
  rw[k.2.2.2.2 g hlt a? a? a? a? (Or.inr (fun cs f hc=>by
   simp_all))]
  exact ho⟩
theorem bF.own {lim w w' g cs} {t:TypeId} (k:bF lim w w') (o:ae w g cs t) (hg:lim<=g) (ht:t≠206):ae w' g cs t:=
 k.2 g _ hg o (fun cs' f e=>by simp_all)
theorem bF.row {lim w w' base} {e:TypeId} {size v n xs} (k:bF lim w w') (h:w.ownsRow base e size v n xs) (hb:lim<=base) (ht:e≠206):w'.ownsRow base e size v n xs:=
 dG h (fun g cs hg hc=>by
  have:=k.2 g _ a? hc (fun cs' f e'=>by simp_all)
  rw[this,hc])
theorem bF.obj {D o} (k:bF lim w w') (h:w.heap[D]? =some o) (hD:lim<=D) (ho:∀cs t f,o≠.cells cs t f):w'.heap[D]? =some o:=
 k.2 D o hD h (fun cs f=>ho cs _ f)
theorem aD.putD {w w' D b sb mb dlo} {x:Option (List Deferred)} {e} (hD:aD w b sb mb dlo e) (ho:w.heap[D]? =some (.deferred x)) (k:NP [D] w w'):aD w' b sb mb dlo e:=by
 obtain⟨wv2,n,ob,os,hw,hm,hn,g2,g3,g4,g5,g6,g7⟩:=hD
 have ne:∀g cs t,w.heap[g]? =some (.cells cs t (0,0))->g∉[D]:=by
  intro g cs t hc hx
  have hx:g=D:=h?
  subst hx
  rw[ho]at hc
  cases hc
 refine⟨wv2,n,k.own ob (ne b _ _ ob),k.own os (ne sb _ _ os),cF hw k (fun g hg _ cs hc=>ne g _ _ hc hg),hm.kept k ?_,hn,g2,g3,g4,g5,Nk g6 k.size,g7⟩
 intro hx
 have hx:mb=D:=h?
 subst hx
 obtain⟨D,⟨es,clock,hh,_⟩,_⟩:=hm
 simp_all
structure om (Inv:DK->World->Prop) (b lim:Nat):Prop where
 ops:r7 Inv b
 writeB:∀{d w} (i:Int) (s:List UInt8),Inv d w->d.ops<100000->d.waits.length<=10000->am! 88 #[b,i,s] w fun e w'=>e=(OW d i s:Int)/\Inv (OJ d i s) w'/\bF lim w w'
 putD:∀{d w w' D x},Inv d w->w.heap[D]? =some (.deferred x)->NP [D] w w'->lim<=D->Inv d w'
structure GP (Inv:DK->World->Prop) (r lim:Nat):Prop where
 ops:Gp Inv r
 stands:∀{d w},Inv d w->∃p c,w.cell? r=some (.slice p d.stand.length c)
 writeB:∀{d w} (i:Int) (s:List UInt8),Inv d w->d.ops<100000->d.waits.length<20000->am! 140 #[r,i,s] w fun e w'=>e=(OW d i s:Int)/\Inv (OJ d i s) w'/\bF lim w w'
end
section
section
open Go.Proofs.Tryz Go.RowKit Go.Shelf
variable {Inv:DK->World->Prop} {lim b k B base:Nat} {d:DK} {w0 w:World} {al:List Nat}
attribute [local go_sem] Oper.semAt_some
def mW (Inv:DK->World->Prop) (lim:Nat) (d:DK) (l:List (Int×Int)) (s:List UInt8) (w:World) (e:Ending) (w':World):Prop:=e=.returned (.int .i64 (OQ d l s).2)/\Inv (OQ d l s).1 w'/\bF lim w w'
theorem nw {d' l s C w w'} (h:OQ d l s=(d',C)) (hI:Inv d' w') (hA:bF lim w w'):mW Inv lim d l s w (.returned C) w':=by
 unfold mW;rw[h];exact⟨rfl,hI,hA⟩
theorem bF.putD (h:bF lim w0 w) {D} (hD:w0.heap.size<=D) (o):bF lim w0 (w.putObj D o):=
 ⟨Nk h.1 (iI w D o).size,fun g x hg hx ht=>by
  have hl:=(Array.getElem?_eq_some_iff.1 hx).1
  exact((iI w D o).block g (by have:=h.1;omega) e?).trans (h.2 g x hg hx ht)⟩
theorem xh (x0 x1 x2 x3 x4 x5 x6 x7 x8 x9 x10 x11 x12 x13 x14 x15 x16 x17 x18 x19 x20 x21 x22 x23 x24 x25 x26 x27 x28 x29 x30 x31 x32 x33 x34 x35 x36 x37 x38 x39 x40 x41 x42 x43 x44 x45 x46 x47 x48 x49 x50 x51 x52 ds):∃u:Nat->Value,({tmps:=#[x0,x1,x2,x3,x4,x5,x6,x7,x8,x9,x10,x11,x12,x13,x14,x15,x16,x17,x18,x19,x20,x21,x22,x23,x24,x25,x26,x27,x28,x29,x30,x31,x32,x33,x34,x35,x36,x37,x38,x39,x40,x41,x42,x43,x44,x45,x46,x47,x48,x49,x50,x51,x52],defers:=ds}:Act)={tmps:=#[x0,x1,x2,(u 3),(u 4),(u 5),(u 6),(u 7),x8,(u 9),x10,(u 11),(u 12),(u 13),(u 14),(u 15),(u 16),(u 17),(u 18),(u 19),(u 20),(u 21),(u 22),(u 23),(u 24),(u 25),(u 26),(u 27),(u 28),(u 29),(u 30),(u 31),(u 32),(u 33),(u 34),(u 35),(u 36),(u 37),(u 38),(u 39),(u 40),(u 41),(u 42),(u 43),(u 44),(u 45),(u 46),(u 47),(u 48),(u 49),(u 50),(u 51),(u 52)],defers:=ds}:=
 ⟨fun n=>[x0,x1,x2,x3,x4,x5,x6,x7,x8,x9,x10,x11,x12,x13,x14,x15,x16,x17,x18,x19,x20,x21,x22,x23,x24,x25,x26,x27,x28,x29,x30,x31,x32,x33,x34,x35,x36,x37,x38,x39,x40,x41,x42,x43,x44,x45,x46,x47,x48,x49,x50,x51,x52].getD n undef,rfl⟩
structure et (Inv:DK->World->Prop) (lim:Nat) (w0:World) (al:List Nat) (R:DK×Int) (k:Nat) (d:DK) (rs:List UInt8) (B D base:Nat) (rv:Value) (w:World):Prop where
 inv:Inv d w
 box:Boxed w B 172 rv
 row:w.ownsRow base 3 1 rv al.length (fv al)
 mark:w.heap[D]? =some (.deferred (some []))
 asd:bF lim w0 w
 lB:w0.heap.size<=B
 lD:w0.heap.size<=D
 lb:w0.heap.size<=base
 hk:k<=al.length
 here:gN (al.drop k) d rs=R
 ops:d.ops+(al.length-k)<=99000
 waits:d.waits.length+(al.length-k)<=10000
 rsl:rs.length<=1048576
def My (Inv:DK->World->Prop) (lim b:Nat) (w0:World) (v:Value) (al:List Nat) (R:DK×Int) (a':Act) (w':World):Prop:=
 ∃(k:Nat) (d':DK) (rs:List UInt8) (B D base:Nat) (rv:Value) (sv:ByteArray) (x:Int),sv=bs rs/\x=(k:Int)/\(∃u:Nat->Value,a'={tmps:=#[b,v,.string sv,(u 3),(u 4),(u 5),(u 6),(u 7),B,(u 9),x,(u 11),(u 12),(u 13),(u 14),(u 15),(u 16),(u 17),(u 18),(u 19),(u 20),(u 21),(u 22),(u 23),(u 24),(u 25),(u 26),(u 27),(u 28),(u 29),(u 30),(u 31),(u 32),(u 33),(u 34),(u 35),(u 36),(u 37),(u 38),(u 39),(u 40),(u 41),(u 42),(u 43),(u 44),(u 45),(u 46),(u 47),(u 48),(u 49),(u 50),(u 51),(u 52)],defers:=[{target:=.collected D,args:=#[]}]})/\et Inv lim w0 al R k d' rs B D base rv w'
def Gr (al:List Nat) (a':Act) (_:World):Nat:=al.length-(intOf (a'.tmps.getD 10 undef)).toNat
theorem et.keep (O:om Inv b lim) {al} {R:DK×Int} {k d rs B D base rv w0 w w'} (h:et Inv lim w0 al R k d rs B D base rv w) (q:NP [] w w'):et Inv lim w0 al R k d rs B D base rv w':=
 ⟨O.ops.keep h.inv q,(q.block B (by have:=(Array.getElem?_eq_some_iff.1 h.box).1;exact this) b?).trans h.box,ax h.row q b?,(q.block D (Array.getElem?_eq_some_iff.1 h.mark).1 b?).trans h.mark,h.asd.trans (q.j9 lim),h.lB,h.lD,h.lb,h.hk,h.here,h.ops,h.waits,h.rsl⟩
theorem et.at_ {R:DK×Int} {rs D rv} (h:et Inv lim w0 al R k d rs B D base rv w) (hk:k<al.length):
  ∃g c,rv=.slice (some ⟨g,0,none⟩) al.length c/\w.cell? B=some (.slice (some ⟨g,0,none⟩) al.length c)/\w.cell? ⟨g,k,none⟩=some (.int .i64 ((al[k]:Nat):Int)):=by
 have hb:=h.box.cell
 rcases h.row.2 with⟨_,h0⟩|⟨g,c,cur,rfl,_⟩
 .omega
 .refine⟨g,c,rfl,hb,?_⟩
  have:=h.row.cells (g:=g) rfl k ((al[k]:Nat):Int) (by simp[fv,hk])
  rwa[nY]at this
theorem zm (x0 x1 x2 x3 x4 x5 x6 x7 x8 x9 x10 x11 x12 x13 x14 x15 x16 x17 x18 x19 x20 x21 x22 x23 x24 x25 x26 x27 x28 x29 x30 x31 x32 x33 x34 x35 x36 x37 x38 x39 x40 x41 x42 x43 x44 x45 x46 x47 x48 x49 x50 x51 x52 ds):∃u:Nat->Value,({tmps:=#[x0,x1,x2,x3,x4,x5,x6,x7,x8,x9,x10,x11,x12,x13,x14,x15,x16,x17,x18,x19,x20,x21,x22,x23,x24,x25,x26,x27,x28,x29,x30,x31,x32,x33,x34,x35,x36,x37,x38,x39,x40,x41,x42,x43,x44,x45,x46,x47,x48,x49,x50,x51,x52],defers:=ds}:Act)={tmps:=#[x0,x1,x2,(u 3),(u 4),(u 5),(u 6),(u 7),x8,(u 9),x10,x11,x12,(u 13),(u 14),(u 15),(u 16),(u 17),(u 18),(u 19),(u 20),(u 21),(u 22),(u 23),(u 24),(u 25),(u 26),(u 27),(u 28),(u 29),(u 30),(u 31),(u 32),(u 33),(u 34),(u 35),(u 36),(u 37),(u 38),(u 39),(u 40),(u 41),(u 42),(u 43),(u 44),(u 45),(u 46),(u 47),(u 48),(u 49),(u 50),(u 51),(u 52)],defers:=ds}:=
 ⟨fun n=>[x0,x1,x2,x3,x4,x5,x6,x7,x8,x9,x10,x11,x12,x13,x14,x15,x16,x17,x18,x19,x20,x21,x22,x23,x24,x25,x26,x27,x28,x29,x30,x31,x32,x33,x34,x35,x36,x37,x38,x39,x40,x41,x42,x43,x44,x45,x46,x47,x48,x49,x50,x51,x52].getD n undef,rfl⟩
def Kk (Inv:DK->World->Prop) (lim b B D:Nat) (v:Value) (rs:List UInt8) (k:Nat) (nn C:Int) (dn:DK) (w':World) (a':Act) (w3:World):Prop:=
 (∃u':Nat->Value,a'={tmps:=#[b,v,rs,(u' 3),(u' 4),(u' 5),(u' 6),(u' 7),B,(u' 9),(k:Int),(nn:Int),C,(u' 13),(u' 14),(u' 15),(u' 16),(u' 17),(u' 18),(u' 19),(u' 20),(u' 21),(u' 22),(u' 23),(u' 24),(u' 25),(u' 26),(u' 27),(u' 28),(u' 29),(u' 30),(u' 31),(u' 32),(u' 33),(u' 34),(u' 35),(u' 36),(u' 37),(u' 38),(u' 39),(u' 40),(u' 41),(u' 42),(u' 43),(u' 44),(u' 45),(u' 46),(u' 47),(u' 48),(u' 49),(u' 50),(u' 51),(u' 52)],defers:=[{target:=.collected D,args:=#[]}]})/\∃W,NP [] w' W/\bF lim W w3/\Inv dn w3
theorem uN (h:k<al.length) (d rs):gN (al.drop k) d rs=if OW d al[k] (aC rs)=0 then gN (al.drop (k+1)) (OJ d al[k] (aC rs)) (rs.drop 128)else(OJ d al[k] (aC rs),OW d al[k] (aC rs)):=by
 rw[List.drop_eq_getElem_cons h,gN]
theorem DU {g c:Nat} (hb:Boxed w B 172 (g,al.length,c)) (hr:w.ownsRow base 3 1 (g,al.length,c) al.length (fv al)) {k:Nat} (hk:k<al.length):
  w.cell? B=(g,al.length,c)/\w.cell? (aa g k)=some (.int .i64 ((al[k]:Nat):Int)):=by
 refine⟨hb.cell,?_⟩
 have:=hr.cells (g:=g) rfl k ((al[k]:Nat):Int) (by simp[fv,hk])
 rwa[nY]at this
section
variable {Inv:DK->World->Prop} {b lim:Nat} {al:List Nat} {R:DK×Int} {k:Nat} {d:DK} {rs:List UInt8} {B D base:Nat} {rv:Value} {w0 w W W3:World}
theorem et.Ke (O:om Inv b lim) (h:et Inv lim w0 al R k d rs B D base rv w) (hlim:lim<=w0.heap.size) (q:NP [] w W) (a:bF lim W W3):Boxed W3 B 172 rv:=a.own ((h.keep O q).box) (by have:=h.lB;omega) d?
theorem et.Jm (O:om Inv b lim) (h:et Inv lim w0 al R k d rs B D base rv w) (hlim:lim<=w0.heap.size) (q:NP [] w W) (a:bF lim W W3):W3.ownsRow base 3 1 rv al.length (fv al):=a.row ((h.keep O q).row) (by have:=h.lb;omega) d?
theorem et.GH (O:om Inv b lim) (h:et Inv lim w0 al R k d rs B D base rv w) (hlim:lim<=w0.heap.size) (q:NP [] w W) (a:bF lim W W3):W3.heap[D]? =some (.deferred (some [])):=a.obj ((h.keep O q).mark) (by have:=h.lD;omega) (fun _ _ _ e=>by cases e)
theorem et.next (O:om Inv b lim) (h:et Inv lim w0 al R k d rs B D base rv w) (hlim:lim<=w0.heap.size) (hk:k<al.length) (q:NP [] w W) (a:bF lim W W3) (hI:Inv (OJ d al[k] (aC rs)) W3) (hC:OW d al[k] (aC rs)=0):
  et Inv lim w0 al R (k+1) (OJ d al[k] (aC rs)) (rs.drop 128) B D base rv W3:=by
 have hh:=h.here
 rw[uN hk,if_pos hC]at hh
 have ho:=fy d (al[k]:Int) (aC rs)
 have h1:=h.ops
 have h2:=h.waits
 exact⟨hI,h.Ke O hlim q a,h.Jm O hlim q a,h.GH O hlim q a,(h.asd.trans (q.j9 lim)).trans a,h.lB,h.lD,h.lb,hk,hh,a?,a?,by rw[MQ];have:=h.rsl;omega⟩
theorem et.stop (O:om Inv b lim) (h:et Inv lim w0 al R k d rs B D base rv w) (hlim:lim<=w0.heap.size) (hk:k<al.length) (q:NP [] w W) (a:bF lim W W3) (hI:Inv (OJ d al[k] (aC rs)) W3) (hC:¬OW d al[k] (aC rs)=0):
  W3.heap[D]? =some (.deferred (some []))/\R=(OJ d al[k] (aC rs),OW d al[k] (aC rs))/\Inv (OJ d al[k] (aC rs)) (W3.putObj D (.deferred none))/\bF lim w0 (W3.putObj D (.deferred none)):=by
 have hh:=h.here
 rw[uN hk,if_neg hC]at hh
 have hm:=h.GH O hlim q a
 exact⟨hm,hh.symm,O.putD hI hm (iI _ _ _) (by have:=h.lD;omega),bF.putD ((h.asd.trans (q.j9 lim)).trans a) h.lD _⟩
theorem et.fin (O:om Inv b lim) (h:et Inv lim w0 al R k d rs B D base rv w) (hlim:lim<=w0.heap.size) (hk:k=al.length) (q:NP [] w W):
  W.heap[D]? =some (.deferred (some []))/\R=(d,0)/\Inv d (W.putObj D (.deferred none))/\bF lim w0 (W.putObj D (.deferred none)):=by
 have hh:=h.here
 rw[hk,List.drop_length]at hh
 have h':=h.keep O q
 exact⟨h'.mark,hh.symm,O.putD h'.inv h'.mark (iI _ _ _) (by have:=h.lD;omega),bF.putD h'.asd h.lD _⟩
end
theorem M32 {A:Prop}(h:A:=by
 refine tS ?_
 refine rD 8 (fun K hK=>?_)
 go_simp
 (with_reducible refine(HPF.out _).mono ?_);rintro e w2 ⟨rfl,k2⟩
 have kk:=kk.trans k2
 go_wp2_with fail
 refine hK.out _ _ (HS.out _ kk) (fun hHeld=>nM ?_)
 clear hK K
 refine rD 9 (fun K hK=>?_)
 go_simp
 (with_reducible refine(HW.out _ kk).mono ?_);rintro e w3 ⟨rfl,hI3,hA3⟩
 go_wp2_with fail
 refine hK.out _ _ (Ut.out _ _ kk hA3) (fun hHeld=>nM ?_)
 clear hK K
 refine tS ?_
 refine Ng c? ?_ _
 exact⟨rfl,zm ..,_,kk,hA3,hI3⟩):A:=h
theorem M29 {A:Prop}(h:A:=by
 rintro a3 w3 ⟨⟨u',rfl⟩,W,kk,hA3,hI3⟩
 by_cases hC:C=0
 .subst hC
  have HN:=tK (RA.out _ _ kk hA3 hI3 rfl)
  clear hI3 hA3 RA Qd
  go_wp2_with fail
  go_step3
  refine⟨rfl,⟨k+1,dn,rs.drop 128,B,D,base,_,_,_,YE.out,(show(k:Int)+1=((k+1:Nat):Int)by omega),(xh ..),HN.out⟩,?_⟩
  have hh:=Of.out
  simp[Gr,intOf];omega
 .have HE:=tK (Qd.out _ _ kk hA3 hI3 hC)
  clear hI3 hA3 RA Qd
  go_wp2_with fail
  simp only[Exit.jump]
  exact sF (v:=C) HE.out.1 (by simp[results,f49,go_sem]) HE.out.2):A:=h
theorem Mt (O:om Inv b lim) (d:DK) (v:Value) (l:List (Int×Int)) (s:List UInt8) (lo hi:Nat) (w:World) (hI:Inv d w) (hlim:lim<=w.heap.size) (h:af w v l lo hi) (hl:l.length<=1000000) (Pj:∀a∈l,aQ a)
  (hs:s.length<=1048576) (ho:d.ops<=90000) (hw:d.waits.length<=1800):
  am! 49 #[b,v,s] w (mW Inv lim d l s w):=by
 have PW:(bs s).size=s.length:=NQ s
 have HC:=DX O.ops d v l s.length lo hi w hI h hl Pj (vY a?)
 have HE:∀W,NP [] w W->am! 105 #[v] W fun e w'=>∃f,e=.returned f/\NP [] W w'/\tA 5 w l f w':=fun W k=>DY 5 a? w v l 0 w W (h.wide.kept0 k) hl Pj (MG _) k.size
 clear h Pj
 by_cases hG:N7 d l s.length=0
 .have hX:dO l d.stand.length s.length/\¬d.down=true:=by
   unfold N7 at hG
   by_cases hf:dO l d.stand.length s.length
   .rw[if_pos hf]at hG
    by_cases hd:d.down=true
    .rw[if_pos hd]at hG;omega
    .exact⟨hf,hd⟩
   .rw[if_neg hf]at hG;omega
  have hPX:OQ d l s=gN (NY l) d s:=by unfold OQ;rw[if_pos hX.1,if_neg hX.2]
  have TN:=hX.1.wC
  have ZD:eM l=NY l:=oZ hX.1
  have hal:(NY l).length<=8192:=by rw[<-ZD];exact lr l
  rw[hG]at HC
  have hHI:=fun W (k:NP [] w W)=>O.ops.keep hI k
  clear hX TN hI hG
  have k0:=NP.refl [] w
  have XZ:=tK hPX
  have⟨i0,q0,q1,q2,q3⟩:=zG
  refine(callsIn_wide (n:=6)).1 ?_
  refine callsIn_of_wp_marks func49 rfl trivial ?_ rfl
  simp only[ntmps49,List.size_toArray,Nj,List.length_nil,Nat.reduceAdd,Nat.reduceSub,Array.replicate_succ,Array.replicate_zero,List.push_toArray,List.append_toArray,NI,List.cons_append]
  refine wpIn_wide.2 ?_
  go_wp2_with fail
  refine lX 0 (My Inv lim b w v (NY l) (gN (NY l) d s)) (Gr (NY l)) rfl ?_ ?_
  .rintro a' w' ⟨k,d',rs,B,D,base,rv,sv,x,rfl,rfl,⟨u,rfl⟩,hP⟩
   have hzr:(bs rs).size=rs.length:=NQ rs
   by_cases NV:k<(NY l).length
   .have afs:rs.length<=1048576:=hP.rsl
    obtain⟨g,c,rfl,cB,cg⟩:=hP.at_ NV
    have Sr:=fun W (q:NP [] w' W)=>O.writeB (((NY l)[k]:Nat):Int) (aC rs) (O.ops.keep hP.inv q) (by have:=hP.ops;omega) (by have:=hP.waits;omega)
    have HS:Hid (∀W,NP [] w' W->W.cell? B=(g,(NY l).length,c)/\W.cell? (aa g k)=some (.int .i64 (((NY l)[k]:Nat):Int))):=tK (fun W q=>DU (hP.keep O q).box (hP.keep O q).row NV)
    have Ut:Hid (∀W W3,NP [] w' W->bF lim W W3->W3.cell? B=(g,(NY l).length,c)/\W3.cell? (aa g k)=some (.int .i64 (((NY l)[k]:Nat):Int))):=tK (fun W W3 q a=>DU (hP.Ke O hlim q a) (hP.Jm O hlim q a) NV)
    have RA:Hid (∀W W3,NP [] w' W->bF lim W W3->Inv (OJ d' (((NY l)[k]:Nat):Int) (aC rs)) W3->OW d' (((NY l)[k]:Nat):Int) (aC rs)=0->et Inv lim w (NY l) (gN (NY l) d s) (k+1) (OJ d' (((NY l)[k]:Nat):Int) (aC rs)) (rs.drop 128) B D base (g,(NY l).length,c) W3):=tK (fun W W3 q a hI hC=>hP.next O hlim NV q a hI hC)
    have Qd:Hid (∀W W3,NP [] w' W->bF lim W W3->Inv (OJ d' (((NY l)[k]:Nat):Int) (aC rs)) W3->¬OW d' (((NY l)[k]:Nat):Int) (aC rs)=0->W3.heap[D]? =some (.deferred (some []))/\mW Inv lim d l s w (.returned (OW d' (((NY l)[k]:Nat):Int) (aC rs):Int)) (W3.putObj D (.deferred none))):=tK (fun W W3 q a hI hC=>by
     have⟨e1,e2,e3,e4⟩:=hP.stop O hlim NV q a hI hC
     exact⟨e1,nw (XZ.out.trans e2) e3 e4⟩)
    generalize OW d' (((NY l)[k]:Nat):Int) (aC rs)=C at*
    generalize OJ d' (((NY l)[k]:Nat):Int) (aC rs)=dn at*
    generalize (NY l)[k]=y at*
    have⟨HW,Of⟩:=f? Sr NV
    have i1:((k:Int)==((NY l).length:Int))=false:=y?
    have i2:(k:Int)<(NY l).length:=a?
    have i3:¬((k:Int)=(NY l).length):=a?
    have HWK:Hid (wrap64 ((k:Int)+1)=(k:Int)+1):=tK (IntWalk.wrap64_in _ a?)
    clear Sr hP
    rcases(by omega:rs.length<=128\/128<rs.length)with g1|g1
    .have Wl:=fun W=>lz ((bs rs).extract 0 rs.length) 128 W k! a?
     have Zu:Pg ((bs rs).extract 0 rs.length).data.toList 128=aC rs:=by
      rw[aY,cC];unfold aC
      rw[Nh g1];simp
     rw[Zu]at Wl
     have HPF:=tK Wl
     have YE:Hid (ByteArray.empty=bs (rs.drop 128)):=by
      show _=_;rw[List.drop_of_length_le g1];rfl
     have g2:(rs.length:Int)<=128:=a?
     have ZX:min (rs.length:Int) 128=rs.length:=a?
     clear Wl Zu
     go_wp2_with fail
     have kk:NP [] w' w'.drew:=(NP.refl _ _).drew
     refine yY (F:=Kk Inv lim b B D v rs k ((rs.length:Nat):Int) C dn w') ?_ ?_
     .refine MK (S:=(fun W=>W.cell? B=(g,(NY l).length,c)/\W.cell? (aa g k)=some (.int .i64 ((y:Nat):Int)))) c? (by first|exact HS.out _ kk|go_keep) (fun hHeld=>?_)
      exact M32
     exact M29
    .have Wl:=fun W=>lz ((bs rs).extract 0 128) 128 W k! a?
     have Zu:Pg ((bs rs).extract 0 128).data.toList 128=aC rs:=by
      rw[aY,cC];unfold aC
      simp
     rw[Zu]at Wl
     have HPF:=tK Wl
     have YE:Hid ((bs rs).extract 128 rs.length=bs (rs.drop 128)):=by
      show _=_;rw[aY,Nh z?]
     have g2:(128:Int)<rs.length:=a?
     have g3:(128:Int)<=rs.length:=a?
     have ZX:min (rs.length:Int) 128=128:=a?
     clear Wl Zu
     go_wp2_with fail
     have kk:NP [] w' w'.drew:=(NP.refl _ _).drew
     refine yY (F:=Kk Inv lim b B D v rs k (128) C dn w') ?_ ?_
     .refine MK (S:=(fun W=>W.cell? B=(g,(NY l).length,c)/\W.cell? (aa g k)=some (.int .i64 ((y:Nat):Int)))) c? (by first|exact HS.out _ kk|go_keep) (fun hHeld=>?_)
      exact M32
     exact M29
   .have hke:k=(NY l).length:=by have:=hP.hk;omega
    have hb:=hP.box.cell
    obtain⟨pu,cu,rfl⟩:=ah hP.row
    have⟨e1,e2,e3,e4⟩:=hP.fin O hlim hke (NP.refl _ _)
    have HE:=tK (nw (XZ.out.trans e2) e3 e4)
    have HM:=tK e1
    subst hke
    clear e1 e2 e3 e4 hP
    go_wp2_with fail
    simp only[Exit.jump]
    exact sF (v:=(0:Int)) HM.out (by simp[results,f49,go_sem]) HE.out
  .intro Y3
   go_wp2_with fail
   refine HC.mono ?_;rintro e w1 ⟨rfl,k1⟩
   go_wp2_with fail
   refine(HE _ (k1.alloc _)).mono ?_;rintro e w2 ⟨f,rfl,k2,B1,B2,rfl,hT⟩
   go_wp2_with fail
   have Wb:=(k1.alloc (.cells #[()] 172)).trans k2
   have o8:ae w2 w1 #[()] 172:=k2.own (ae.new w1 _ _) b?
   have RH:w.heap.size<=w1.heap.size:=k1.size
   have QG:w1.heap.size+1<=w2.heap.size:=Z?
   have hN8:=lr l
   refine(wpIn_wide (n:=6)).1 ?_
   refine wpIn_rangeFunc_ownG rfl a? (gf:=179) (lb:=#[B1,B2]) rfl trivial (enters_of func179 c? rfl)
    hT (fun h k=>ml.trans h k) (ml.Je (w:=w2) a?) (Below.refl _ w2) (fun _=>rfl)
    (fun(pre:List Nat) W=>(∃v,Boxed W w1 172 v/\W.ownsRow w1 3 1 v pre.length (fv pre)/\True)/\Below w1 w2 W)
    (fun c (pre:List Nat) W=>False)
    (OwnFrom.and (Go.Own.from (holdsRow_own w1 w1 172 3 1 (fun pre:List Nat=>pre.length) (fun pre:List Nat=>fv pre) (fun(pre:List Nat) v=>True)) _) (ownFrom_below a? a?))
    (fun c=>ownFrom_pure _ (fun pre:List Nat=>False))
    ⟨⟨_,o8,Nf _ _ _ _,trivial⟩,Below.refl _ w2⟩
    (fun x=>{tmps:=#[.pointer (some ⟨b,0,none⟩),v,.string (bs s),undef,undef,undef,.int .i64 0,.int .i64 0,.pointer (some ⟨w1.heap.size,0,none⟩),.int .i64 ((x:Nat):Int),undef,undef,undef,.pointer (some ⟨b,0,none⟩),v,.string (bs s),.int .i64 (s.length:Int),.int .i64 0,.int .i64 0,.bool false,undef,v,.func (.func 179) #[] #[.pointer (some ⟨B1,0,none⟩),.pointer (some ⟨B2,0,none⟩)],.int .i64 ((x:Nat):Int),undef,undef,undef,undef,undef,undef,undef,undef,undef,undef,undef,undef,undef,undef,undef,undef,undef,undef,undef,undef,undef,undef,undef,undef,undef,undef,undef,undef,undef],defers:=[]}) ?assign ?body ?done ?stop
   case assign=>
    intro l x W K hK
    gi_wp2
    exact hK
   case body=>
    rintro lp pre x W ⟨⟨u,hv,NU,-⟩,hB⟩ NV
    have hc:=hv.cell
    have aeX:=hB.size
    obtain⟨pu,cu,rfl⟩:=ah NU
    gi_wp2_with (gi_at_builtin;refine wpListIn_append_own _ rfl _ _ 172 rfl w1 3 i0 (0:Int) 1 8 underlying172 q0 q1 q2 q3 rfl d? _ _ _ rfl (NU.alloc _) W 1 1 [.int .i64 ((x:Nat):Int)] rfl rfl (cell_one_new _ _ _) (by simp[Value.oneCell']) m? a? e? ?_;intro v' w2 Rj Pi _;obtain⟨g',cap',rfl⟩:=ownsRow_succ Rj;have⟨Ve,hv2,Th,PY,Q3⟩:=hv.appended d? NU a? (MG _) Rj Pi;have RU:=Ve.cell;have hf1:=Ve.frozen)
    exact⟨PY.from _,Be hv d? NU d? Pi (Q3.mono (show w.heap.size<=w1.heap.size by omega)),⟨_,hv2,by simpa[fv]using Th,trivial⟩,hB.trans Q3⟩
   case done=>
    rintro D xs W hD rfl ⟨⟨u,hv,NU,-⟩,hB⟩ hK
    have kW:=nL Wb hB a?
    rw[ZD]at NU
    have hP0:et Inv lim w (NY l) (gN (NY l) d s) 0 d s w1 D w1 u W:=⟨hHI W kW,hv,NU,hK,kW.j9 lim,a?,a?,a?,Nb _,rfl,a?,a?,hs⟩
    have HP0:=tK hP0
    clear hP0 hv NU hK
    go_wp2_with fail
    go_step3
    rename_i hcont
    refine hcont _ _ (Y3 _ _ ⟨0,d,s,w1.heap.size,D,w1.heap.size,u,bs s,0,rfl,rfl,xh ..,HP0.out⟩)
   case stop=>
    rintro D c pre W hD Xu h hK
    exact h.elim
 .have ZM:OQ d l s=(d,N7 d l s.length):=by
   unfold OQ N7 at*
   by_cases hf:dO l d.stand.length s.length
   .rw[if_pos hf]at hG ⊢
    by_cases hd:d.down=true
    .rw[if_pos hd,if_pos hf,if_pos hd]
    .rw[if_neg hd]at hG;exact absurd rfl hG
   .rw[if_neg hf,if_neg hf]
  have Qd:Hid (∀W,NP [] w W->mW Inv lim d l s w (.returned (N7 d l s.length:Int)) W):=tK (fun W q=>nw ZM (O.ops.keep hI q) (q.j9 lim))
  clear ZM HE
  generalize N7 d l s.length=G at*
  have e1:(G != 0)=true:=by simp[hG]
  go_enter func49,ntmps49
  go_wp2_with fail
  go_step3
  go_wp2_with fail
  refine HC.mono ?_;rintro e w1 ⟨rfl,k1⟩
  have HE:=tK (Qd.out _ k1)
  clear Qd
  go_wp2_with fail
  rw[Exit.noGoto_ret]
  go_ret
  exact HE.out
end
section
open Go.Proofs.Tryz Go.RowKit
theorem wz (l k) (h:k<l.length) (j) (hj:j<=l[k].2.toNat):(NY (l.take k)).length+j<=(NY l).length:=by
 have e:(NY l).length=(NY (l.take (k+1))).length+(NY (l.drop (k+1))).length:=by
  rw[<-tN,<-lq,List.take_append_drop]
 rw[e,kz l k h,tN,MP,List.length_range]
 omega
theorem Le (v l lo hi w) (h:af w v l lo hi) (hl:l.length<=1000000) (Pj:∀a∈l,aQ a):
  am! 218 #[v] w fun e w'=>∃u,e=.returned u/\w'.ownsRow w 3 1 u (eM l).length (fv (eM l))/\NP [] w w':=by
 have HM:=fun W k=>IW v l 0 8192 lo hi W (h.kept0 k) hl Pj a? a? a? a?
 have HW:=tK h
 have⟨i0,q0,q1,q2,q3⟩:=zG
 obtain⟨p,c,rfl⟩:=h.shape
 clear h Pj
 go_enter func218,ntmps218
 go_wp2_with fail
 refine(HM _ (NP.refl _ _)).mono ?_;rintro e w1 ⟨r,rfl,hr,k1⟩
 have HR:=tK hr
 clear hr HM
 cases r with
 |false=>
  have e0:eM l=[]:=Eo (fun h=>by have:=HR.out.2 h;cases this)
  have E0:=tK e0
  clear e0
  go_wp2_with fail
  go_ret
  exact⟨_,rfl,by rw[E0.out];exact Nf _ _ _ _,k1⟩
 |true=>
  have hm:dv 0 8192 l:=HR.out.1 rfl
  have e0:eM l=NY l:=uC hm
  have⟨E0,TE⟩:=f? e0 hm
  clear e0 hm HR
  go_wp2_with fail
  go_loopw [4,3] (fun i u wx=>∃k:Nat,k<=l.length/\i=(k:Int)/\wx.ownsRow w 3 1 u (NY (l.take k)).length (fv (NY (l.take k)))/\NP [] w wx) (fun i _ _=>l.length-(intOf i).toNat)
  case atStart=>exact⟨0,a?,rfl,Nf _ _ _ _,k1⟩
  case round=>
   obtain⟨k,hk,rfl,NU,hK⟩:=hrel
   by_cases NV:k<l.length
   .have PF:=kz l k NV
    have hle:=wz l k NV
    have WG:=wB TE.out
    have Pf:=TE.out.1 _ (MJ NV)
    have Rm:∀W,NP [] w W->∃b off,p=some ⟨b,off,none⟩/\W.cell? ⟨b,off+k*2,none⟩=some (.int .i64 l[k].1)/\W.cell? ⟨b,off+k*2+1,none⟩=some (.int .i64 l[k].2)/\b<W.heap.size/\l.length<=c/\c<=maxLen:=fun W kW=>(HW.out.kept0 kW).at_ k NV
    unfold gQ at Pf
    generalize l[k]=r at*
    have⟨ra,rn⟩:=r
    have⟨o1,o2,o3,o4⟩:=Pf
    simp only at o1 o2 o3 o4 PF hle Rm
    obtain⟨a,rfl⟩:=MM o1
    obtain⟨m,rfl⟩:=MM (show 0<=rn by omega)
    simp only[Nw]at PF hle
    have i1:(k:Int)<l.length:=a?
    have UB:wrap64 ((k:Int)+1)=(k:Int)+1:=IntWalk.wrap64_in _ a?
    have HWK:=tK UB
    clear UB
    have⟨Sm,HLE,HL8,Of,HAT⟩:=gi! PF hle WG NV Rm
    have HO:=tK (And.intro o2 o4)
    obtain⟨b,off,rfl,_,_,hb,hlc,PT⟩:=Rm _ hK
    clear PF hle WG NV Rm o1 o2 o3 o4 hk hb hlc PT
    go_wp2_with fail
    go_loopw [5,3] (fun j u wx=>∃q:Nat,q<=m/\j=(q:Int)/\wx.ownsRow w 3 1 u ((NY (l.take k)).length+q) (fv (NY (l.take k))++fv ((List.range q).map fun i=>a+i))/\NP [] w wx) (fun j _ _=>m-(intOf j).toNat)
    case atStart=>exact⟨0,Nb _,rfl,by simpa[fv]using NU,hK⟩
    case round=>
     clear NU hK
     obtain⟨q,hq,rfl,NU,hK⟩:=hrel
     have⟨b',off',e',c0,c1,hb,hlc,PT⟩:=HAT.out _ hK
     obtain⟨rfl,rfl⟩:b=b'/\off=off':=by simpa using e'
     by_cases hqm:q<m
     .obtain⟨pu,cu,rfl⟩:=ah NU
      have aeb:=HLE.out (q+1) a?
      have WG:=HL8.out
      have i2:(q:Int)<m:=a?
      have HWJ:Hid (wrap64 ((q:Int)+1)=(q:Int)+1):=tK (IntWalk.wrap64_in _ O!)
      have HWA:Hid (wrap64 ((a:Int)+(q:Int))=(a:Int)+(q:Int)):=tK (IntWalk.wrap64_in _ O!)
      have HQM:=tK hqm
      clear i2 hqm
      have r3:(NY (l.take k)).length+q+1<=maxLen:=m?
      have r4:((NY (l.take k)).length+q+1)*8<=140737488355328:=a?
      have i2:(q:Int)<m:=by have:=HQM.out;omega
      have QG:=hK.size
      clear hq aeb WG
      have⟨ZJ,Z0⟩:=f? r3 r4
      clear r3 r4
      have hw:=HWA.out
      go_wp2_with (at_builtin;go_must (refine MT _ rfl (.tmp 25) (.tmp 33) 172 rfl w 3 i0 (0:Int) 1 8 underlying172 q0 q1 q2 q3 rfl d? _ _ _ rfl (MH NU _) wr 1 1 [.int .i64 ((a:Int)+(q:Int))] rfl rfl ?_ ?_ ZJ.out Z0.out ?_ ?_))
      .rfl
      .clear hw;first|omega|(simp;omega)
      intro v6 w6 o6 Po _ _
      have k6:NP [] w w6:=(hK.alloc _).grown Po (fun g hg=>Or.inr (ML NU g hg).1)
      have Vn:=tK o6
      clear Po NU o6 hw
      go_wp2_with fail
      go_roundw
      case rel=>exact⟨q+1,HQM.out,by simp,by simpa[fv,List.range_succ,<-Nat.add_assoc]using Vn.out,k6⟩
      case measure=>(have hh:=HQM.out;(try simp only[HWJ.out]);simp[intOf];omega)
     .obtain rfl:q=m:=a?
      have HRW:=tK NU
      clear NU
      go_wp2_with fail
      go_roundw
      case rel=>exact⟨k+1,Of.out,by simp,by rw[Sm.out];simpa[fv]using HRW.out,hK⟩
      case measure=>(have hh:=Of.out;simp[intOf];(try rw[HWK.out]);omega)
   .obtain rfl:k=l.length:=a?
    rw[MU]at NU
    go_wp2_with fail
    go_ret
    exact⟨_,rfl,by rw[E0.out];exact NU,hK⟩
theorem JT {W w1} (h:NP [] W w1):∀b o,b<W.heap.size->w1.cell? ⟨b,o,none⟩=W.cell? ⟨b,o,none⟩:=fun b o hb=>h.cell (a:=⟨b,o,none⟩) hb b?
theorem Gb (c:UInt8) (B:Nat) (W) (h:W.cell? B=some (.int .u8 (c.toNat:Int))):(convert 61 9 (.slice (some B) 1 1)).run prog W=.ok (.string (bs [c])) W:=by
 have hb:Lib.Bytes W B 0 (bs [c]):=by
  intro i hi
  rw[NQ]at hi
  have:i=0:=by simp at hi;exact hi
  subst this
  rw[Nat.zero_add,h];rfl
 have:=Lib.run_convert_whole (P:=prog) W 61 5 9 underlying61 underlying5 underlying9 B 0 (bs [c]) hb 1
 rw[NQ]at this
 exact this
theorem ry (k:Nat):∀(n:Nat) (w:World),n<18446744073709551616->k<=8->
  am! 214 #[.int .u64 n,(k:Int)] w fun e w'=>e=.returned (.string (bs (NT n k)))/\NP [] w w':=by
 induction k with
 |zero=>
  intro n w hn hk
  go_enter func214,ntmps214
  go_wp2_with fail
  go_ret
  exact⟨rfl,NP.refl _ _⟩
 |succ k ih=>
  intro n w hn hk
  have H:=fun w=>ih (n/256) w a? a?
  have hc0:((UInt8.ofNat n).toNat:Int)=(n:Int)%256:=by rw[UInt8.toNat_ofNat'];rfl
  have e1:IntKind.u8.wrap ((n:Int).tmod 256)=((UInt8.ofNat n).toNat:Int):=by
   rw[hc0,Int.tmod_eq_emod_of_nonneg a?,IntKind.wrap_u8];omega
  have e2:IntKind.u64.wrap ((n:Int)/256)=((n/256:Nat):Int):=by rw[IntKind.wrap_u64];omega
  have e3:IntKind.i64.wrap (k:Int)=(k:Int):=IntWalk.i64_in _ a?
  have Tk:=fun(B:Nat) (W:World) (h:W.cell? B=some (.int .u8 ((UInt8.ofNat n).toNat:Int)))=>Gb (UInt8.ofNat n) B W h
  have hz:(bs (NT (n/256) k)).size<=8:=X?
  have Qc:(bs [UInt8.ofNat n]).size<=1:=by rw[NQ];simp
  have Qx:¬((bs [UInt8.ofNat n]).size+(bs (NT (n/256) k)).size>9223372036854775807):=a?
  have Oy:Hid (bs [UInt8.ofNat n]++bs (NT (n/256) k)=bs (NT n (k+1))):=by
   show bs [UInt8.ofNat n]++bs (NT (n/256) k)=_
   rw[aw];rfl
  clear hc0
  generalize bs [UInt8.ofNat n]=c0 at*
  generalize ((UInt8.ofNat n).toNat:Int)=c1 at*
  generalize NT n (k+1)=N at*
  generalize NT (n/256) k=M at*
  generalize n/256=m at*
  clear ih
  go_enter func214,ntmps214
  go_wp2_with fail
  go_region_with ((go_at_call 214;refine(H _).mono ?_;rintro e w1 ⟨rfl,OP⟩;have Zb:=JT OP))
  all_goals go_wp2_with fail
  all_goals go_ret
  all_goals refine⟨by show Ending.returned (Value.string (c0++bs M))=_;rw[Oy.out],?_⟩
  all_goals first|exact(((NP.refl _ _).alloc _).drew).trans OP|exact((NP.refl _ _).drew.trans OP).alloc _
theorem GA (s:ByteArray) (w) (hs:s.size<4294967296):
  am! 264 #[.string s] w fun e w'=>e=.returned (.string (bs (dj s.data.toList)))/\NP [] w w':=by
 have h:=fun w=>ry 4 s.size w a? a?
 have hz:(bs (NT s.size 4)).size<=4:=X?
 have Oy:=tK (tr (NT s.size 4) s)
 go_enter func264,ntmps264
 go_wp2_with fail
 refine(h _).mono ?_;rintro e w1 ⟨rfl,hk⟩
 go_wp2_with fail
 go_ret
 refine⟨?_,hk⟩
 show Ending.returned (Value.string (bs (NT s.size 4)++s))=_
 rw[Oy.out,dj,iT]
theorem KT (s:ByteArray) (n:Int) (w) (hs:s.size<=1000000) (hn:n<=1000000):
  am! 261 #[.string s,n] w fun e w'=>e=.returned (.string (bs (Pg s.data.toList n)))/\NP [] w w':=by
 by_cases hle:n<=s.size
 .have e:Pg s.data.toList n=s.data.toList:=by
   unfold Pg;rw[iT,show(n-(s.size:Int)).toNat=0 from by omega];simp
  rw[e,nW]
  clear e
  go_enter func261,ntmps261
  go_wp2_with fail
  go_ret
  exact⟨rfl,NP.refl _ _⟩
 .obtain⟨d,hd⟩:∃d:Nat,n-(s.size:Int)=d:=⟨(n-s.size).toNat,a?⟩
  have e:Pg s.data.toList n=s.data.toList++List.replicate d 0:=by
   unfold Pg;rw[iT,show(n-(s.size:Int)).toNat=d from by omega]
  have hi:(prog.info? 5).map (fun i=>(i.zero,i.size,i.bytes))=some (some (.int .u8 0),1,1):=c?
  have⟨i0,hi0,Rh,Qc,Qx⟩:=info_parts hi
  have RO:∀w:World,(Instr.makeSlice 61 (d:Int) (d:Int)).run prog w=.ok (w.heap.size,d,d) (w.alloc (.cells (fk (List.replicate d 0)) 5)):=fun w=>by
   have h:=run_make (P:=prog) w 61 5 i0 (.int .u8 0) underlying61 hi0 Rh .i64 .i64 d d a? a? (by rw[Qx];omega) a?
   rw[h,Qc]
   congr 3
   apply Array.toList_inj.1
   simp[fk,Value.cells,toList_madeCells_one]
  have Tk:=Lib.run_convert_whole (P:=prog) _ 61 5 9 underlying61 underlying5 underlying9 _ _ _ (uS (ae.new w (fk (List.replicate d 0)) 5)) d
  rw[NQ,Np]at Tk
  have hz:(bs (List.replicate d 0)).size<=1000000:=by rw[NQ];simp;omega
  have Oy:Hid (s++bs (List.replicate d 0)=bs (s.data.toList++List.replicate d 0)):=by
   show s++bs (List.replicate d 0)=_
   rw[<-aw,nW]
  rw[e]
  have NV:(s.size:Int)<n:=a?
  generalize List.replicate d (0:UInt8)=R at*
  clear e hle
  go_enter func261,ntmps261
  go_wp2_with fail
  go_ret
  exact⟨by show Ending.returned (Value.string (s++bs R))=_;rw[Oy.out],(NP.refl _ _).alloc _⟩
end
open Go.Proofs.Tryz Go.RowKit Go.Shelf
theorem Jl {w:World} {base:Nat} {rv:Value} {al:List Nat} (h:w.ownsRow base 3 1 rv al.length (fv al)) {k:Nat} (hk:k<al.length):
  ∃g c,rv=.slice (some ⟨g,0,none⟩) al.length c/\w.cell? ⟨g,k,none⟩=some (.int .i64 ((al[k]:Nat):Int))/\g<w.heap.size/\base<=g/\al.length<=c/\c<=maxLen:=by
 rcases h.2 with⟨_,h0⟩|⟨g,c,cur,rfl,h1,h2,h3,h4,_⟩
 .omega
 .refine⟨g,c,rfl,?_,NK h2,h1,h3,h4⟩
  have:=h.cells (g:=g) rfl k ((al[k]:Nat):Int) (by simp[fv,hk])
  rwa[nY]at this
end
end Go.Proofs.YtdkimcnlhmhpgaaGreat

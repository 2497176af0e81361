/- -/
import Derived.Test.YtdkimcnlhmhpgaaGreatM07
import Derived.RangeFuncNested
import Derived.OwnWalkIn
import Derived.TacticsInMore
import Derived.LoopNIn
import Derived.LoopIn
import Derived.Deep.RegionHeld3
set_option maxHeartbeats 32000000
set_option maxRecDepth 100000
namespace Go.Proofs.YtdkimcnlhmhpgaaGreat
section
open Go.Proofs.Tryz Go.RowKit
variable {f s:Int} {l:List (Int×Int)}
theorem Nr:type_of% @List.mem_iff_getElem:=@List.mem_iff_getElem
theorem Ng:type_of% @wpAnyH_done:=@wpAnyH_done
theorem MK:type_of% @wp_region_held_drew:=@wp_region_held_drew
theorem ko {n:Int} (h:(Lit.int .i64 n).wf=true): -9223372036854775808<=n/\n<=9223372036854775807:=by
 simp only[Lit.wf,No,decide_eq_true_eq]at h
 exact h
def On (n:Int):Int:=if n<1 then 0 else(n-1)/128+1
theorem sP (n:Int) (w:World) (hn:(Lit.int .i64 n).wf=true):
  am! 54 #[n] w fun e w'=>e=(On n:Int)/\w=w':=by
 have hb:=ko hn
 unfold On
 by_cases h:n<1
 .rw[if_pos h]
  go_enter func54,ntmps54
  go_wp2_with fail
  go_ret
  exact⟨rfl,rfl⟩
 .rw[if_neg h]
  go_enter func54,ntmps54
  go_wp2_with fail
  go_ret
  exact⟨rfl,rfl⟩
def uu (f s:Int) (l:List (Int×Int)) (w:World) (e:Ending) (w':World):Prop:=e=.returned (if lies f s l then .tuple #[(NZ l:Int),true]else .tuple #[(0:Int),false])/\NP [] w w'
theorem sY {w w':World} (h:lies f s l=false) (hk:NP [] w w'):uu f s l w (.returned (.tuple #[(0:Int),false])) w':=by
 refine⟨?_,hk⟩;rw[h];rfl
theorem yH {w w':World} (h:lies f s l=true) (hk:NP [] w w'):uu f s l w (.returned (.tuple #[(NZ l:Int),true])) w':=by
 refine⟨?_,hk⟩;rw[h];rfl
theorem mv {f s:Int} {a:Int×Int}:(iM f s a=false/\(a.1<f\/(f<=a.1/\a.2<1)\/(f<=a.1/\1<=a.2/\s<a.1)\/(f<=a.1/\1<=a.2/\a.1<=s/\s-a.1<a.2)))\/(iM f s a=true/\f<=a.1/\1<=a.2/\a.1<=s/\a.2<=s-a.1):=by
 cases h:iM f s a
 .refine Or.inl ⟨rfl,?_⟩
  have h':¬(f<=a.1/\1<=a.2/\a.1<=s/\a.2<=s-a.1):=fun hh=>by rw[dN.2 hh]at h;cases h
  omega
 .exact Or.inr ⟨rfl,dN.1 h⟩
theorem mD {a b:Int×Int}:(dQ a b=false/\a.1<b.1+b.2/\b.1<a.1+a.2)\/(dQ a b=true/\(b.1+b.2<=a.1\/(a.1<b.1+b.2/\a.1+a.2<=b.1))):=by
 cases h:dQ a b
 .refine Or.inl ⟨rfl,?_⟩
  have h':¬(a.1+a.2<=b.1\/b.1+b.2<=a.1):=fun hh=>by rw[vD.2 hh]at h;cases h
  omega
 .have:=vD.1 h
  exact Or.inr ⟨rfl,_a⟩
theorem M72 {A:Prop}(h:A:=by
 clear hAP c0 c1
 have hge:(k:Int)<=m:=_a
 clear Wc RO
 go_wp2_with fail
 go_roundw
 case rel=>exact⟨k+1,_a,_j,by rw[Qe.out],HL,QJ⟩
 case measure=>simp[intOf];omega):A:=h
theorem M38 {A:Prop}(h:A:=by
 clear r0 c0 c1
 rcases r1 with r1|⟨r1,r2⟩
 all_goals
  go_wp2_with fail
  go_roundw
  case rel=>exact⟨m+1,_a,_j,by rw[Xg.out,hAP.out,R0.out];rfl,QJ.alloc _,ho.alloc _⟩
  case measure=>simp[intOf];omega):A:=h
theorem Mk (v:Value) (l:List (Int×Int)) (lo hi:Nat) (f s:Int) (w:World) (h:af w v l lo hi) (hl:l.length<=1000000) (hf:0<=f) (hf2:f<=100000) (hs:0<=s) (QG:s<=8192):
  am! 223 #[v,f,s] w (uu f s l w):=by
 obtain⟨p,c,rfl⟩:=h.shape
 go_enter func223,ntmps223
 go_wp2_with fail
 go_loopw [8,15] (fun a i wr=>∃k:Nat,k<=l.length/\i=(k:Int)/\a=(NZ (l.take k):Int)/\Aside (dP f s l k=true)/\NP [] w wr) (fun _ i _=>l.length-(intOf i).toNat)
 case atStart=>exact⟨0,_a,rfl,by simp[NZ],rfl,NP.refl _ _⟩
 case round=>
  obtain⟨k,hk,rfl,rfl,hL,hK⟩:=hrel
  by_cases NV:k<l.length
  .obtain⟨b,off,rfl,c0,c1,hb,hlc,PT⟩:=(h.kept0 hK).at_ k NV
   unfold maxLen at PT
   have OF:=ue f s l k NV
   have P9:Aside (∀m,(l.take m).all (dQ l[k])=true->m=k->iM f s l[k]=true->dP f s l (k+1)=true):=fun m h1 h2 h3=>by
    subst h2;rw[iy f s l m NV,hL.out,h3,h1];rfl
   have Qe:Hid (NZ (l.take (k+1))=NZ (l.take k)+l[k].2):=gH l k NV
   have Tj:=oO (Nat.le_of_lt NV) hL.out hf QG
   have hks:(8192:Int)*k<=8192000000:=_a
   have Rx:=mE l[k] l
   rcases @mv f s l[k]with⟨h0,UD⟩|⟨h0,g1,g2,g3,g4⟩
   .have HN:Hid (lies f s l=false):=OF aa!
    clear OF P9 Qe h0 Rx
    generalize l[k]=a at*
    generalize NZ (l.take k)=sm at*
    rcases UD with g1|⟨g1,g2⟩|⟨g1,g2,g3⟩|⟨g1,g2,g3,g4⟩
    all_goals
     go_wp2_with fail
     go_ret2
     exact sY HN.out (hK.alloc _)
   .have TV:Hid ((l.take k).all (dQ l[k])=false->lies f s l=false):=fun hh=>OF W!
    have⟨H0,HA⟩:=_f h0 Rx
    have Ox:=fun m hm=>kp l[k] l m hm
    have OY:=tK Ox
    have Vr:=fJ (Nat.le_of_lt NV) hL.out
    have QH:=tK Vr
    clear OF h0 Rx Ox Vr
    generalize l[k]=a at*
    generalize NZ (l.take k)=sm at*
    go_wp2_with fail
    obtain⟨wo,rfl⟩:∃wo:World,wo=wr:=⟨_,rfl⟩
    go_loopw [48] (fun i wr=>∃m:Nat,m<=k/\i=(m:Int)/\Aside ((l.take m).all (dQ a)=true)/\NP [] w wr/\ae wr wo #[a.1,a.2] 128) (fun i _=>k-(intOf i).toNat)
    case atStart=>exact⟨0,_a,rfl,rfl,hK.alloc _,ae.new _ _ _⟩
    case round=>
     obtain⟨m,hm,rfl,hAP,QJ,ho⟩:=hrel
     have⟨d0,d1⟩:=ho.c2
     have adg:=ho.lt
     by_cases RO:m<k
     .obtain⟨b',off',WA,e0,e1,Q3,-,-⟩:=(h.kept0 QJ).at_ m _a
      injection WA with WA
      injection WA with hbe1 hbe2 _
      subst hbe1 hbe2
      have hob:=dN.1 (QH.out m RO)
      have Q9:=OY.out m _a
      have TY:=HA.out m k _a RO
      have⟨Xg,YC⟩:=_f Q9 TY
      have hc:= @mD a l[m]
      clear Q9 TY
      generalize l[m]=bb at*
      have⟨q1,q2,q3,q4⟩:=hob
      rcases hc with⟨r0,r1,r2⟩|⟨r0,r1⟩
      .have HN:Hid (lies f s l=false):=TV.out (YC.out r0)
       clear r0 c0 c1
       go_wp2_with fail
       go_ret2
       exact sY HN.out (QJ.alloc _)
      .have R0:=tK r0
       exact M38
     .have Wc:m=k:=_a
      have HL:Aside (dP f s l (k+1)=true):=P9.out m hAP.out Wc H0.out
      exact M72
  .obtain rfl:k=l.length:=_a
   have HY:Hid (lies f s l=true):=hL.out
   have HS:Hid (NZ (l.take l.length)=NZ l):=by show _=_;rw[MU]
   clear hL
   generalize NZ (l.take l.length)=sm at*
   go_wp2_with fail
   go_ret2
   rw[HS.out]
   exact yH HY.out hK
theorem IA (f g:Nat->Bool) (k:Nat) (h:∀m,m<k->f m=true->g m=false):PM (fun m=>f m||g m) k=PM f k+PM g k:=by
 induction k with
 |zero=>rfl
 |succ k ih=>
  have h1:=ih (fun m hm=>h m _a)
  have h2:=h k _a
  simp only[PM,h1]
  by_cases hf:f k=true
  .simp[hf,h2 hf];omega
  .by_cases hg:g k=true
   .simp[hf,hg];omega
   .simp[hf,hg]
theorem DQ (k:Nat):PM (fun _=>false) k=0:=by
 induction k with
 |zero=>rfl
 |succ k ih=>simp only[PM,ih];rfl
theorem xL (a n k:Nat):PM (fun m=>decide (a<=m/\m<a+n)) k=min k (a+n)-min k a:=by
 induction k with
 |zero=>simp[PM]
 |succ k ih=>
  simp only[PM,ih]
  by_cases h:a<=k/\k<a+n
  .simp[h];omega
  .simp[h];omega
theorem vt (h:dv 0 s l) (hs:s<=8192):(OV l:Int)=NZ l:=by
 unfold OV
 induction l with
 |nil=>
  have:PM (OE []) 8192=0:=DQ 8192
  rw[this];rfl
 |cons r t ih=>
  have⟨h1,h2⟩:=h
  have⟨hp,ht⟩:=List.pairwise_cons.1 h2
  have hr:=h1 r MY
  unfold gQ at hr
  have⟨a,ha⟩:=MM hr.1
  have⟨n,hn⟩:=MM (show 0<=r.2 by omega)
  have he:∀m,OE (r::t) m=(decide (a<=m/\m<a+n)||OE t m):=fun m=>by
   unfold OE
   rw[List.any_cons]
   congr 1
   rw[ha,hn]
   by_cases hc:a<=m/\m<a+n
   .rw[MV hc,MV _a,MV _a];rfl
   .rw[MS hc]
    by_cases RU:a<=m
    .rw[MV _a,MS _a];rfl
    .rw[MS _a];rfl
  have acb:=tj (f:=OE (r::t)) (g:=fun m=>decide (a<=m/\m<a+n)||OE t m) 8192 (fun m _=>he m)
  have hor:=IA (fun m=>decide (a<=m/\m<a+n)) (OE t) 8192 (fun m _ hm=>by
   have hm:=of_decide_eq_true hm
   cases hb:OE t m
   .rfl
   .exfalso
    have⟨x,hx,y1,y2⟩:=dr.1 hb
    have:=hp x hx
    unfold fG at this
    omega)
  have hih:=ih ⟨fun x hx=>h1 x (Nz _ hx),ht⟩
  have Oe:=xL a n 8192
  have PX:NZ (r::t)=r.2+NZ t:=by unfold NZ;simp
  rw[acb,hor,Oe,PX]
  omega
def NY (l:List (Int×Int)):List Nat:=(l.map fun r=>(List.range r.2.toNat).map fun k=>r.1.toNat+k).flatten
theorem sA (r:Int×Int) (l:List (Int×Int)):NY (r::l)=((List.range r.2.toNat).map fun k=>r.1.toNat+k)++NY l:=rfl
theorem lq (a b:List (Int×Int)):NY (a++b)=NY a++NY b:=by unfold NY;rw[M0,Nv]
theorem kz (l:List (Int×Int)) (k:Nat) (h:k<l.length):NY (l.take (k+1))=NY (l.take k)++(List.range l[k].2.toNat).map fun j=>l[k].1.toNat+j:=by
 rw[MI h,lq]
 congr 1
 simp[NY]
theorem uB (h:∀a∈l,gQ 0 s a):((NY l).length:Int)=NZ l:=by
 induction l with
 |nil=>rfl
 |cons r t ih=>
  have hr:=h r MY
  unfold gQ at hr
  have PX:NZ (r::t)=r.2+NZ t:=by unfold NZ;simp
  have:=ih (fun x hx=>h x (Nz _ hx))
  rw[sA,tN,MP,List.length_range,PX]
  omega
theorem oY {m:Nat} (hm:m∈NY l):∃r∈l,r.1.toNat<=m/\m<r.1.toNat+r.2.toNat:=by
 unfold NY at hm
 rw[List.mem_flatten]at hm
 have⟨x,hx,ZA⟩:=hm
 obtain⟨r,hr,rfl⟩:=ND.1 hx
 obtain⟨k,hk,rfl⟩:=ND.1 ZA
 have:=List.mem_range.1 hk
 exact⟨r,hr,_a,_a⟩
theorem En (h:∀a∈l,gQ 0 s a) {m:Nat} (hm:m∈NY l):(m:Int)<s:=by
 have⟨r,hr,h1,h2⟩:=oY hm
 have:=h r hr
 unfold gQ at this
 omega
theorem mo (h:dv 0 s l):(NY l).Nodup:=by
 induction l with
 |nil=>exact List.nodup_nil
 |cons r t ih=>
  have⟨h1,h2⟩:=h
  have⟨hp,ht⟩:=List.pairwise_cons.1 h2
  have hr:=h1 r MY
  unfold gQ at hr
  rw[sA,List.nodup_append]
  refine⟨?_,ih ⟨fun x hx=>h1 x (Nz _ hx),ht⟩,fun a ha b hb e=>?_⟩
  .rw[List.nodup_iff_pairwise_ne,List.pairwise_map]
   exact(List.nodup_iff_pairwise_ne.1 List.nodup_range).imp (fun Pb he=>Pb _a)
  .subst e
   obtain⟨k,hk,rfl⟩:=ND.1 ha
   have hk:=List.mem_range.1 hk
   have⟨x,hx,y1,y2⟩:=oY hb
   have UT:=h1 x (Nz _ hx)
   have Qf:=hp x hx
   unfold fG at Qf
   unfold gQ at UT
   omega
def dO (l:List (Int×Int)) (n size:Int):Prop:=0<=size/\l.length<=16/\dv 0 (min n 8192) l/\(OV l:Int)=On size
theorem dO.wC {n size:Int} (h:dO l n size):((NY l).length:Int)=On size:=by
 have⟨h1,h2,h3,h4⟩:=h
 rw[uB h3.1,<-vt h3 _a,h4]
theorem dO.lt {n size:Int} (h:dO l n size) {m:Nat} (hm:m∈NY l):(m:Int)<n/\m<8192:=by
 have:=En h.2.2.1.1 hm
 omega
def gN:List Nat->DK->List UInt8->DK×Int
 |[],d,_=>(d,0)
 |a::t,d,s=>if OW d a (aC s)=0 then gN t (OJ d a (aC s)) (s.drop 128)else(OJ d a (aC s),OW d a (aC s))
open Classical in
noncomputable def OQ (d:DK) (l:List (Int×Int)) (s:List UInt8):DK×Int:=
 if dO l d.stand.length s.length then(if d.down=true then(d,90)else gN (NY l) d s)else(d,1)
def cz (d:DK) (al:List Nat):List UInt8:=(al.map (seen d)).flatten
open Classical in
noncomputable def N7 (d:DK) (l:List (Int×Int)) (size:Int):Int:=if dO l d.stand.length size then(if d.down=true then 90 else 0)else 1
open Classical in
noncomputable def PV (d:DK) (l:List (Int×Int)) (size:Int):List UInt8:=if N7 d l size=0 then(cz d (NY l)).take size.toNat else[]
theorem lI {d:DK} (hf:dS d) {al:List Nat} (h:∀a∈al,a<d.stand.length):(cz d al).length=128*al.length:=by
 induction al with
 |nil=>rfl
 |cons a t ih=>
  have e:cz d (a::t)=seen d a++cz d t:=rfl
  rw[e,tN,gj hf (h a MY),ih (fun x hx=>h x (Nz _ hx)),Nj]
  omega
theorem Dv (d:DK) (al:List Nat) (k:Nat) (h:k<al.length):cz d (al.take (k+1))=cz d (al.take k)++seen d al[k]:=by
 unfold cz
 rw[MI h,M0,Nv]
 simp
end
section
open Go.Proofs.Tryz Go.RowKit Go.Shelf
variable {n₀:Nat} {w:World}
attribute [local go_sem] Oper.semAt_some
def ml (n₀:Nat) (W W':World):Prop:=Below n₀ W W'/\∀(k:Nat) cs f,W.heap[k]? =some (.cells cs 128 f)->W'.heap[k]? =some (.cells cs 128 f)
theorem ml.trans {A B C:World} (h:ml n₀ A B) (k:ml n₀ B C):ml n₀ A C:=⟨h.1.trans k.1,fun i cs f hi=>k.2 i cs f (h.2 i cs f hi)⟩
theorem ml.Je (hn:n₀<=w.heap.size) (W:World) (l:Nat) (o o':Obj) (hl:w.heap.size<=l) (h:W.heap[l]? =some o) (hc:o.isCells=false) (hw:o.isWalk=false):ml n₀ W (W.putObj l o'):=
 ⟨belowK_b hn W l o o' hl h hc hw,fun k cs f hk=>by
  have Pb:k≠l:=fun e=>by subst e;rw[h]at hk;cases hk;cases hc
  exact(World.putObj_heap_other _a).trans hk⟩
theorem af.DW {w':World} {v:Value} {l:List (Int×Int)} {lo hi:Nat} (h:af w v l lo hi) (k:Below n₀ w w') (hh:hi<=n₀):af w' v l lo hi:=by
 rcases h with h|⟨b,off,c,h1,h2,h3,h4,h5,h6,h7,h8⟩
 .exact Or.inl h
 .refine Or.inr ⟨b,off,c,h1,fun i hi'=>?_,h3,h4,Nk h5 k.size,h6,h7,h8⟩
  rw[k.cell d!,k.cell d!]
  exact h2 i hi'
theorem Cc (l:List (Int×Int)) (k:Nat) (h:k<l.length) (j:Nat) (hj:j<=l[k].2.toNat):NY (l.take k)++(List.range j).map (fun i=>l[k].1.toNat+i) <+: NY l:=by
 have e:NY l=NY (l.take k)++((List.range l[k].2.toNat).map (fun i=>l[k].1.toNat+i)++NY (l.drop (k+1))):=by
  rw[<-MW,<-kz l k h,<-lq,List.take_append_drop]
 rw[e]
 refine List.prefix_append_right_inj _ |>.2 ?_
 refine List.IsPrefix.trans ?_ (List.prefix_append _ _)
 have:List.range j=(List.range l[k].2.toNat).take j:=by rw[List.take_range,Nat.min_eq_left hj]
 rw[this,List.map_take]
 exact List.take_prefix _ _
theorem F6 (n:Nat) (hn:1<=n) (l B1 B2 n₀ lo hi:Nat) (sv:Value) (rl:List (Int×Int)) (hm:dv 0 8192 rl) (P3:rl.length<=1000000) (J Jx:List Nat->World->Prop) (W:World)
  (hJ:AbidesFrom W J)
  (hY:∀pre x W1,J pre W1->pre.length<(NY rl).length->YieldAt Fence.wide (n-1) prog l #[.int .i64 ((x:Nat):Int)] W1 fun e W'=>
   (e=true/\J (pre++[x]) W'/\ml n₀ W1 W')\/(e=false/\Jx (pre++[x]) W'))
  (hB1:W.cell? B1=true) (hB2:W.cell? B2=some sv) (hR:af W sv rl lo hi) (WL:hi<=n₀) (Wx:n₀<=W.heap.size) (h0:J [] W):
  CallsIn Fence.wide n prog 179 #[.func (.yield l) #[] #[],B1,B2] W fun e W'=>(∃v,e=.returned v)/\
   ((∃ys,ys=NY rl/\J ys W')\/(∃pre,pre <+: NY rl/\Jx pre W')):=by
 obtain⟨p,c,rfl⟩:=hR.shape
 refine callsIn_of_wp func179 rfl trivial ?_ rfl
 simp only[ntmps179,List.size_toArray,Nj,List.length_nil,Nat.reduceAdd,Nat.reduceSub,Array.replicate_succ,Array.replicate_zero,List.push_toArray,List.append_toArray,NI,List.cons_append]
 gi_wp2
 gi_loopw [11] (fun i wr=>∃k:Nat,k<=rl.length/\i=(k:Int)/\J (NY (rl.take k)) wr/\Below n₀ W wr) (fun i _=>rl.length-(intOf i).toNat)
 case atStart=>exact⟨0,Nb _,rfl,h0,Below.refl _ _⟩
 case round=>
  obtain⟨wo,rfl⟩:∃wo:World,wo=wr:=⟨_,rfl⟩
  obtain⟨k,hk,rfl,hJs,hB⟩:=hrel
  by_cases NV:k<rl.length
  .have hRw:=hR.DW hB WL
   have PF:=kz rl k NV
   have XR:=Cc rl k NV
   have Pf:=hm.1 _ (MJ NV)
   obtain⟨b,off,rfl,c0,c1,hb,hlc,PT⟩:=hRw.at_ k NV
   unfold gQ at Pf
   generalize rl[k]=r at*
   have⟨ra,rn⟩:=r
   have⟨o1,o2,o3,o4⟩:=Pf
   simp only at o1 o2 o3 o4 c0 c1 PF XR
   obtain⟨a,rfl⟩:=MM o1
   obtain⟨m,rfl⟩:=MM (show 0<=rn by omega)
   simp only[Nw]at PF XR
   have PW:=hB.size
   have hJa:=fun(o:Obj)=>hJ _ wo (wo.alloc o) none hJs (World.grownBy_alloc wo o none) (fun r e=>by cases e)
   have hBa:=fun(o:Obj)=>hB.alloc _a o
   have i1:(k:Int)<rl.length:=_a
   have oo:=ae.new wo #[(a:Int),(m:Int)] 128
   have hJ0:=hJa (.cells #[(a:Int),(m:Int)] 128)
   have hB0:=hBa (.cells #[(a:Int),(m:Int)] 128)
   have UB:wrap64 ((k:Int)+1)=(k:Int)+1:=IntWalk.wrap64_in _ _a
   have⟨Ux,Sm,HY,HJ0,ZB,HOO,Of⟩:=gk! XR PF hY hJ0 hB0 oo NV
   have HO:=tK (And.intro o2 o4)
   clear XR PF hY hm hJa hBa hJ hJs hB hR hRw hJ0 hB0 oo hlc PT WL Wx PW hb P3 hk o1 o2 o3 o4 NV
   gi_wp2
   gi_loopw [17] (fun i wx=>∃j:Nat,j<=m/\i=(j:Int)/\J (NY (rl.take k)++(List.range j).map (fun i=>a+i)) wx/\Below n₀ W wx/\ae wx wo #[(a:Int),(m:Int)] 128) (fun i _=>m-(intOf i).toNat)
   case atStart=>exact⟨0,Nb _,rfl,by simpa using HJ0.out,ZB.out,HOO.out⟩
   case round=>
    obtain⟨j,hj,rfl,hJx,hBx,ox⟩:=hrel
    have⟨hr0,Tm⟩:=ox.c2
    by_cases hjm:j<m
    .have hlen:(NY (rl.take k)++(List.range j).map (fun i=>a+i)).length<(NY rl).length:=by
      have:=(Ux.out (j+1) _a).length_le
      simp only[tN,MP,List.length_range]at this ⊢
      omega
     have Qu:(NY (rl.take k)++(List.range j).map (fun i=>a+i))++[a+j]=NY (rl.take k)++(List.range (j+1)).map (fun i=>a+i):=by
      rw[List.range_succ,M0,MW];rfl
     have⟨fn,tmps,assign,body,hy,hRd⟩:=HY.out _ (a+j) wr hJx hlen
     rw[Qu]at hRd
     simp only[Int.natCast_add]at hy
     have i2:(j:Int)<m:=_a
     have hwj:wrap64 ((j:Int)+1)=(j:Int)+1:=IntWalk.wrap64_in _ O!
     have hw:wrap64 ((a:Int)+(j:Int))=(a:Int)+(j:Int):=IntWalk.wrap64_in _ O!
     have⟨HJM,SP,HOX⟩:=gg! hjm hBx ox
     clear hlen Qu hjm hj hBx ox hJx
     gi_wp2
     refine hRd.mono ?_
     rintro e W3 (⟨rfl,hJ3,P6⟩|⟨rfl,hJx3⟩)
     .gi_wp2
      go_roundw
      case rel=>exact⟨j+1,HJM.out,by simp,hJ3,SP.out.trans P6.1,P6.2 _ _ _ HOX.out⟩
      case measure=>(have:=HJM.out;(try simp only[hwj]);clear hwj UB hw;simp[intOf];omega)
     .gi_wp2
      refine MN (results_none rfl _ _ _) rfl ?_
      exact⟨⟨_,rfl⟩,.inr ⟨_,Ux.out (j+1) HJM.out,hJx3⟩⟩
    .obtain rfl:j=m:=_a
     gi_wp2
     go_roundw
     case rel=>exact⟨k+1,Of.out,by simp[UB],by rw[Sm.out];exact hJx,hBx⟩
     case measure=>(have:=Of.out;(try simp only[UB]);clear UB;simp[intOf];omega)
  .obtain rfl:k=rl.length:=_a
   gi_wp2
   go_end0
   exact⟨⟨_,rfl⟩,.inl ⟨_,by rw[MU],hJs⟩⟩
end
open Go.Proofs.Tryz Go.RowKit
variable {P:Program} {S:World->Prop} {v:Value} {fuel:Nat} {listed:Array Bool} {a:Act} {w:World} {A B:Prop} {f s z:Int} {l t:List (Int×Int)}
theorem cT {ops:Array Oper} {Q:Exit->Act->World->Prop} {md:Region.Mode} {i:Nat} {oi:Oper} {d:Option Tmp} (hi:ops[i]? =some oi) (hd:oi.dst=d)
  (hs:Region.noSelect ops=true) (hf:Region.free md ops listed i=true) (hr:(Region.ready md ops listed).contains i=true)
  (hQ:∀c a w,Q (.panic c) (a.put d v) w->Q (.panic c) a w) (hy:YieldsIf P ops S oi v a) (hS:S w)
  (h:wpAnyH P md ops Q S fuel (listed.setIfInBounds i true) (a.put d v) w):wpAnyH P md ops Q S (fuel+1) listed a w:=by
 subst hd
 exact wpAnyH_take hi hs hf hr hQ hy hS h
def LU (F:Act->World->Prop) (e:Exit) (a:Act) (w:World):Prop:=e=.normal/\F a w
theorem yY {c:Code} {F K:Act->World->Prop} {Q:Exit->Act->World->Prop} (h:c.wp P (LU F) a w) (h2:∀a w,F a w->K a w):c.wp P (Exit.then K Q) a w:=
 wp_mono h (fun e a w he=>by obtain⟨rfl,hf⟩:=he;exact h2 a w hf)
theorem nM (b:B) (h:B->A:=by(intro hb;(try simp only[Act.put,List.setIfInBounds_toArray,List.set_cons_zero,List.set_cons_succ]);exact hb)):A:=h b
theorem rD {ops:Array Oper} {Q:Exit->Act->World->Prop} {md:Region.Mode} {o:Oper} (i:Nat)
  (h:∀K':Act->World->Prop,Shut (∀a w,S w->(S w->wpAnyH P md ops Q S fuel (listed.setIfInBounds i true) a w)->K' a w)->if Region.wanted o (yielded ops a.tmps)=true then Oper.wp P o a w K' Q else K' (a.put o.dst undef) w)
  (hr:Region.ready md ops listed=[i]:=by kernel_rfl) (ho:ops[i]? =some o:=by rfl):wpAnyH P md ops Q S (fuel+1) listed a w:=
 wpAnyH_ready hr _b (AllReadyH.cons ho h AllReadyH.nil)
theorem Pu {ops:Array Oper} {Q:Exit->Act->World->Prop} {md:Region.Mode} {oi:Oper} {d:Tmp} (i:Nat) (hb:B)
  (hi:ops[i]? =some oi:=by rfl) (hd:oi.dst=some d:=by rfl)
  (hr:(Region.ready md ops listed).contains i=true:=by decide+kernel)
  (hy:YieldsIf P ops S oi v a:=by first|exact Or.inl ⟨_L,by(intro w RI;(try dsimp only at RI);go_simp<;>with_reducible rfl)⟩|exact Or.inr ⟨_L,rfl⟩)
  (hS:S w:=by assumption)
  (hs:Region.noSelect ops=true:=by kernel_rfl) (hf:Region.free md ops listed i=true:=by kernel_rfl)
  (hQ:∀c a w,Q (.panic c) (a.put (some d) v) w->Q (.panic c) a w:=by first|exact fun _ _ _ h=>h|exact fun _ _ _ h=>nomatch h.1)
  (hB:B->wpAnyH P md ops Q S fuel (listed.setIfInBounds i true) (a.put (some d) v) w:=by(intro hb;simp only[Act.put,List.setIfInBounds_toArray,List.set_cons_zero,List.set_cons_succ];exact hb)):wpAnyH P md ops Q S (fuel+1) listed a w:=
 cT hi hd hs hf hr hQ hy hS (hB hb)
structure Wt (B:Prop):Prop where
 out:B
theorem tS (hb:B) (h:Wt B->A:=by(intro hb;(try refine Pu 0 ?_);(try refine Pu 1 ?_);(try refine Pu 2 ?_);(try refine Pu 3 ?_);(try refine Pu 4 ?_);(try refine Pu 5 ?_);(try refine Pu 6 ?_);(try refine Pu 7 ?_);(try refine Pu 8 ?_);(try refine Pu 9 ?_);(try refine Pu 10 ?_);(try refine Pu 11 ?_);(try refine Pu 12 ?_);(try refine Pu 13 ?_);(try refine Pu 14 ?_);(try refine Pu 15 ?_);(try refine Pu 16 ?_);(try refine Pu 17 ?_);(try refine Pu 18 ?_);(try refine Pu 19 ?_);(try refine Pu 20 ?_);(try refine Pu 21 ?_);(try refine Pu 22 ?_);(try refine Pu 23 ?_);(try refine Pu 24 ?_);(try refine Pu 25 ?_);(try refine Pu 26 ?_);(try refine Pu 27 ?_);(try refine Pu 28 ?_);(try refine Pu 29 ?_);(try refine Pu 30 ?_);(try refine Pu 31 ?_);(try refine Pu 32 ?_);(try refine Pu 33 ?_);(try refine Pu 34 ?_);(try refine Pu 35 ?_);(try refine Pu 36 ?_);(try refine Pu 37 ?_);(try refine Pu 38 ?_);(try refine Pu 39 ?_);(try refine Pu 40 ?_);(try refine Pu 41 ?_);(try refine Pu 42 ?_);(try refine Pu 43 ?_);(try refine Pu 44 ?_);(try refine Pu 45 ?_);(try refine Pu 46 ?_);(try refine Pu 47 ?_);(try refine Pu 48 ?_);(try refine Pu 49 ?_);(try refine Pu 50 ?_);(try refine Pu 51 ?_);(try refine Pu 52 ?_);(try refine Pu 53 ?_);(try refine Pu 54 ?_);(try refine Pu 55 ?_);(try refine Pu 56 ?_);(try refine Pu 57 ?_);(try refine Pu 58 ?_);(try refine Pu 59 ?_);(try refine Pu 60 ?_);(try refine Pu 61 ?_);(try refine Pu 62 ?_);(try refine Pu 63 ?_);(try refine Pu 64 ?_);(try refine Pu 65 ?_);(try refine Pu 66 ?_);(try refine Pu 67 ?_);(try refine Pu 68 ?_);(try refine Pu 69 ?_);(try refine Pu 70 ?_);(try refine Pu 71 ?_);(try refine Pu 72 ?_);(try refine Pu 73 ?_);(try refine Pu 74 ?_);(try refine Pu 75 ?_);(try refine Pu 76 ?_);(try refine Pu 77 ?_);(try refine Pu 78 ?_);(try refine Pu 79 ?_);(try refine Pu 80 ?_);(try refine Pu 81 ?_);(try refine Pu 82 ?_);(try refine Pu 83 ?_);(try refine Pu 84 ?_);(try refine Pu 85 ?_);(try refine Pu 86 ?_);(try refine Pu 87 ?_);(try refine Pu 88 ?_);(try refine Pu 89 ?_);exact hb.out)):A:=h ⟨hb⟩
def ik (f s:Int) (l:List (Int×Int)) (w:World) (e:Ending) (w':World):Prop:=∃r,e=.returned (.bool r)/\(r=true↔dv f s l)/\NP [] w w'
theorem iG {w w':World} (h:¬dv f s l) (k:NP [] w w'):ik f s l w (.returned false) w':=⟨false,rfl,⟨fun q=>(by cases q),fun q=>absurd q h⟩,k⟩
theorem pF {w w':World} (h:dv f s l) (k:NP [] w w'):ik f s l w (.returned true) w':=⟨true,rfl,⟨fun _=>h,fun _=>rfl⟩,k⟩
theorem M42 {A:Prop}(h:A:=by
 skip
 try simp only[Act.put,List.setIfInBounds_toArray,List.set_cons_zero,List.set_cons_succ]
 refine tS ?_
 refine Ng _c ?_ _
 go_wp2_with fail
 go_meet
 exact⟨HR.out.symm,(by repeat' first|exact ho|refine ae.alloc ?_ _|refine ae.drewN ?_ _|refine ae.drew ?_),(by repeat' first|exact QJ|refine NP.alloc ?_ _|refine NP.drewN ?_ _|refine NP.drew ?_)⟩):A:=h
theorem IW (v:Value) (l:List (Int×Int)) (f s:Int) (lo hi:Nat) (w:World) (h:af w v l lo hi) (hl:l.length<=1000000) (Pj:∀a∈l,aQ a) (_: -9223372036854775808<=f) (_:f<=9223372036854775807) (s1: -9223372036854775808<=s) (s2:s<=9223372036854775807):
  am! 262 #[v,f,s] w (ik f s l w):=by
 obtain⟨p,c,rfl⟩:=h.shape
 have⟨H,VI⟩:=_f h Pj
 have Tg:(l.length:Int)<=1000000:=_a
 clear h Pj
 go_enter func262,ntmps262
 go_wp2_with fail
 go_loopw [7] (fun i wr=>∃k:Nat,k<=l.length/\i=(k:Int)/\dv f s (l.take k)/\NP [] w wr) (fun i _=>l.length-(intOf i).toNat)
 case atStart=>exact⟨0,_a,rfl,Fq _ _,NP.refl _ _⟩
 case round=>
  obtain⟨k,hk,rfl,hM,hK⟩:=hrel
  by_cases NV:k<l.length
  .obtain⟨b,off,rfl,c0,c1,hb,hlc,PT⟩:=(H.out.kept0 hK).at_ k NV
   have UB:=VI.out l[k] (MJ NV)
   have OF:= @Fp f s l k NV
   have TV:=fun j hj=> @Fo f s l k j NV hj
   have UU:=C4 NV hM
   have i1:(k:Int)<l.length:=_a
   have⟨Of,Pk,Zl,Su⟩:=gh! NV OF TV UU
   have YK:∀j (hj:j<k),aQ (l[j]' _a):=fun j hj=>VI.out _ (MJ _)
   have YN:∀j (hj:j<k),gQ f s (l[j]' _a):=fun j hj=>hM.1 _ (by rw[List.mem_take_iff_getElem];exact⟨j,_a,rfl⟩)
   have⟨V6,HKO⟩:=_f YK YN
   clear OF TV UU hM YK YN
   generalize l[k]=X at*
   have⟨x0,xn⟩:=X
   have abH:=UB
   have⟨w1,w2,w3,w4⟩:=abH
   have HWK:=tK UB
   clear UB
   simp only at c0 c1 w1 w2 w3 w4
   unfold gQ at Pk Su
   simp only at Pk Su
   rcases(by omega:x0<f\/(f<=x0/\xn<1)\/(f<=x0/\1<=xn/\s<=x0)\/(f<=x0/\1<=xn/\x0<s/\0<=x0/\s-x0<xn)\/(f<=x0/\1<=xn/\x0<s/\x0<0/\s<x0+xn)\/((f<=x0/\1<=xn/\x0<s/\0<=x0/\xn<=s-x0)\/(f<=x0/\1<=xn/\x0<s/\x0<0/\x0+xn<=s)))with g1|⟨g1,g2⟩|⟨g1,g2,g3⟩|⟨g1,g2,g3,g4,g5⟩|⟨g1,g2,g3,g4,g5⟩|⟨g1,g2,g3,g4,g5⟩|⟨g1,g2,g3,g4,g5⟩
   iterate 5
    .have QT:=Pk.out _a
     have HN:=tK QT
     clear QT
     go_wp2_with fail
     go_ret
     exact iG HN.out (hK.alloc _)
   all_goals
    have Pf:f<=x0/\1<=xn/\x0<s/\x0+xn<=s:=_a
    have QH:=tK Pf
    clear Pf
    have o0:=ae.new wr #[x0,xn] 128
    go_wp2_with fail
    obtain⟨wo,rfl⟩:∃wo:World,wo=wr:=⟨_,rfl⟩
    go_loopw [9] (fun i wx=>∃m:Nat,m<=k/\i=(m:Int)/\(∀j (hj:j<m) (hjl:j<l.length),fG (x0,xn) l[j])/\ae wx wo #[x0,xn] 128/\NP [] w wx) (fun i _=>k-(intOf i).toNat)
    case atStart=>exact⟨0,_a,rfl,fun j hj=>absurd hj _a,o0,hK.alloc _⟩
    case round=>
     obtain⟨m,hm,rfl,Qf,ho,QJ⟩:=hrel
     by_cases RO:m<k
     .have Te:=V6.out m RO
      have hom:=HKO.out m RO
      have Rb:=Zl.out m RO
      have⟨b',off',e',d0,d1,_⟩:=(H.out.kept0 QJ).at_ m _a
      injection e' with e'
      injection e' with e1 e2 _
      subst e1 e2
      have Xd:m<l.length:=_a
      have ha:∀(ha2:fG (x0,xn) (l[m]'Xd)),∀j (hj:j<m+1) (hjl:j<l.length),fG (x0,xn) l[j]:=fun ha2 j hj hjl=>by
       by_cases e:j=m
       .subst e;exact ha2
       .exact Qf j _a hjl
      have⟨SG,S3,HMK⟩:=gg! ha Rb RO
      clear ha Rb Qf
      generalize l[m]=Y at*
      have⟨y0,yn⟩:=Y
      have Qc:=fun W=>Gv x0 xn y0 yn W HWK.out Te g2
      have Qx:=fun W=>Gv y0 yn x0 xn W Te HWK.out hom.2.1
      have⟨q1,q2,q3,q4⟩:=hom
      simp only at d0 d1 q1 q2 q3 q4
      have x0c:wr.cell? wo=x0:=ho.cell 0 _b
      have x1c:wr.cell? (aa wo 1)=xn:=ho.cell 1 _b
      have i2:(m:Int)<k:=_a
      have i3:(m:Int)<l.length:=_a
      have ZH:∃R:Bool,(decide (x0<=y0/\y0<x0+xn)||decide (y0<=x0/\x0<y0+yn))=R:=⟨_,rfl⟩
      have⟨R,hR⟩:=ZH
      have Uc:=tK hR
      clear hR
      go_upto_region 10 with fail
      go_cut [81]from 63 to 81 (fun v wx=>v=.bool R/\ae wx wo #[x0,xn] 128/\NP [] w wx)
      case first=>
       rcases(by omega:(x0<=y0/\y0<x0+xn)\/¬(x0<=y0/\y0<x0+xn))with t1|t1
       .rw[MV t1]at Qc
        have HR:Hid (Value.bool R=true):=tK (by rw[<-Uc.out,MV t1];rfl)
        clear Qx Te q1 q2 q3 q4 t1
        refine MK (S:=(fun W=>W.cell? wo=x0/\W.cell? (aa wo 1)=xn/\W.cell? (aa b (off+m*2))=y0/\W.cell? (aa b (off+m*2+1))=yn)) _c (by go_keep) (fun hHeld=>?_)
        refine tS ?_
        refine wpAnyH_ready (rs:=[5]) _c _b ?_
        refine AllReadyH.cons rfl (fun K hK=>?_) AllReadyH.nil
        go_simp
        ((with_reducible refine(Qc _).mono ?_));rintro e w' ⟨rfl,rfl⟩
        go_wp2_with fail
        refine hK.out _ _ ?_ (fun hHeld2=>?_)
        .go_keep
        clear hK K hHeld
        exact M42
       .rw[MS t1]at Qc
        obtain⟨R2,Qn⟩:∃R2:Bool,decide (y0<=x0/\x0<y0+yn)=R2:=⟨_,rfl⟩
        rw[Qn]at Qx
        have HR:Hid (Value.bool R=.bool R2):=tK (by rw[<-Uc.out,MS t1,Qn];rfl)
        clear Te q1 q2 q3 q4 t1 Qn
        refine MK (S:=(fun W=>W.cell? wo=x0/\W.cell? (aa wo 1)=xn/\W.cell? (aa b (off+m*2))=y0/\W.cell? (aa b (off+m*2+1))=yn)) _c (by go_keep) (fun hHeld=>?_)
        refine tS ?_
        refine wpAnyH_ready (rs:=[5]) _c _b ?_
        refine AllReadyH.cons rfl (fun K hK=>?_) AllReadyH.nil
        go_simp
        ((with_reducible refine(Qc _).mono ?_));rintro e w' ⟨rfl,rfl⟩
        go_wp2_with fail
        refine hK.out _ _ ?_ (fun hHeld2=>?_)
        .go_keep
        clear hK K hHeld
        skip
        try simp only[Act.put,List.setIfInBounds_toArray,List.set_cons_zero,List.set_cons_succ]
        refine tS ?_
        refine wpAnyH_ready (rs:=[12]) _c _b ?_
        refine AllReadyH.cons rfl (fun K hK=>?_) AllReadyH.nil
        go_simp
        ((with_reducible refine(Qx _).mono ?_));rintro e w' ⟨rfl,rfl⟩
        go_wp2_with fail
        refine hK.out _ _ ?_ (fun hHeld3=>?_)
        .exact⟨(by repeat' first|exact x0c|refine Lib.cell?_alloc_some _ ?_),(by repeat' first|exact x1c|refine Lib.cell?_alloc_some _ ?_),(by repeat' first|exact d0|refine Lib.cell?_alloc_some _ ?_),(by repeat' first|exact d1|refine Lib.cell?_alloc_some _ ?_)⟩
        clear hK K hHeld2
        exact M42
      case rest=>
       obtain⟨rfl,ho2,V4⟩:=hcut
       cases R
       .have TY:=SG.out (by
         have h9:=Uc.out
         rw[Bool.or_eq_false_iff,decide_eq_false_iff_not,decide_eq_false_iff_not]at h9
         unfold fG;simp only;omega)
        have V9:=tK TY
        clear TY Te q1 q2 q3 q4 Uc
        go_wp2_with fail
        go_roundw
        case rel=>exact⟨m+1,HMK.out,_j,V9.out,ho2,V4⟩
        case measure=>(have hh:=HMK.out;simp[intOf];omega)
       .have QT:=S3.out (by
         have h9:=Uc.out
         rw[Bool.or_eq_true,decide_eq_true_eq,decide_eq_true_eq]at h9
         unfold fG;simp only;omega)
        have HN:=tK QT
        clear QT Te q1 q2 q3 q4 Uc
        go_wp2_with fail
        go_ret
        exact iG HN.out V4
     .obtain rfl:m=k:=_a
      have ZT:=Su.out QH.out (fun j hj=>Qf j hj _)
      have Zj:=tK ZT
      clear ZT Qf
      go_wp2_with fail
      go_roundw
      case rel=>exact⟨m+1,Of.out,_j,Zj.out,QJ⟩
      case measure=>(have hh:=Of.out;simp[intOf];omega)
  .obtain rfl:k=l.length:=_a
   rw[MU]at hM
   have HM:=tK hM
   clear hM
   go_wp2_with fail
   go_ret
   exact pF HM.out hK
theorem M67 {A:Prop}(h:A:=by
 have Up:=tK P0
 have OP:NP [] w w1:=((NP.refl _ _).alloc _).grown Pi (fun k hk=>Or.inr (by simp[Value.ownBlock]at hk;omega))
 clear Ot Pi Qw P0
 go_wp2_with fail
 go_ret
 exact⟨_,rfl,Up.out,OP⟩):A:=h
theorem tX (v:Value) (l:List (Int×Int)) (lo hi:Nat) (w:World) (h:af w v l lo hi) (hl:l.length<=1000000):
  am! 69 #[v] w (bh l w):=by
 have⟨i0,hi0,Rh,Qc,Qx⟩:=eV
 have q22:∀(w:World) (a:Option Addr) (n c n' c':Nat),(binOp .eql 56 (a,n,c) (.slice none n' c')).run prog w=.ok (.bool a.isNone) w:=fun w a n c n' c'=>Lib.run_eql_slice_nil w _ _ a n c n' c' underlying56
 obtain⟨p,c,rfl⟩:=h.shape
 unfold bh
 cases p with
 |none=>
  have WU:l=[]:=by
   rcases h with⟨h,_⟩|⟨b,off,c',e,_⟩
   .exact h
   .simp at e
  subst WU
  go_enter func69,ntmps69
  go_wp2_with fail
  go_ret
  exact⟨_,rfl,Nf _ _ _ _,NP.refl _ _⟩
 |some ad=>
  have Ou:∀j u,(NW l)[j]? =some u->w.cell? (ad.add j)=some u:=by
   rcases h with⟨rfl,_⟩|⟨b,off,c',e,h2⟩
   .intro j u hj;simp[NW]at hj
   .simp at e
    exact M30
  have A:=tK Ou
  clear Ou h
  have Tm:=dm l
  have Th:=kH l
  have⟨VP,HR2⟩:=_f Tm Th
  clear Tm Th
  go_enter func69,ntmps69
  go_wp2_with (at_builtin;refine wpList_append_own _ rfl _ _ 56 rfl w 128 i0 _ 2 16 underlying56 hi0 Rh Qc Qx rfl _d _ _ _ rfl (World.ownsRow_made w #[] 0 (MG _) (Nb _) _b) ad l.length c (NW l) rfl ?qc1 ?qc2 ?qc3 ?qc4 ?qc5 ?qc6 ?_)
  case qc1=>exact VP.out
  case qc2=>intro j u hj;exact Lib.cell?_alloc_some _ (A.out j u hj)
  case qc3=>exact HR2.out
  case qc4=>unfold maxLen;omega
  case qc5=>omega
  case qc6=>simp
  intro v' w1 Ot Pi Qw
  have P0:w1.ownsRow w 128 2 v' l.length (NW l):=by simpa using Ot
  exact M67
theorem yE {f z:Int} {t:List (Int×Int)} (hr:jl t) (Pf:∀j (hj:j<t.length),gQ f z t[j]) (hch:∀j (hj:j+1<t.length),t[j].1+t[j].2<=t[j+1].1):dv f z t:=by
 refine⟨fun a ha=>?_,?_⟩
 .obtain⟨j,hj,rfl⟩:=Nr.1 ha
  exact Pf j hj
 .rw[List.pairwise_iff_getElem]
  intro i j hi hj VM
  refine Or.inl ?_
  have h1:=hch i _a
  by_cases e:j=i+1
  .subst e;exact h1
  .have h2:=List.pairwise_iff_getElem.1 hr (i+1) j _a hj _a
   omega
theorem AY {n:Nat} (hr:jl t) (hn:n+1<t.length) (h1:1<=t[n+1].2) (h:t[n+1].1<t[n].1+t[n].2):¬dv f z t:=fun hm=>by
 have h2:=List.pairwise_iff_getElem.1 hm.2 n (n+1) _a hn _a
 have h3:=List.pairwise_iff_getElem.1 hr n (n+1) _a hn _a
 rcases h2 with h2|h2<;>omega
def xV (f z:Int) (t:List (Int×Int)) (k:Nat):Prop:=(∀j (hj:j<t.length),j<k->gQ f z t[j])/\∀j (hj:j+1<t.length),j+1<k->t[j].1+t[j].2<=t[j+1].1
theorem CO (f z:Int) (t:List (Int×Int)):xV f z t 0:=⟨fun j _ h=>by omega,fun j _ h=>by omega⟩
theorem Fb (h0:0<t.length) (h:gQ f z t[0]):xV f z t 1:=⟨fun j _ hj=>by
 obtain rfl:j=0:=_a
 exact h,fun j _ h=>by omega⟩
theorem CP {n:Nat} (hn:n+1<t.length) (h:xV f z t (n+1)) (h1:gQ f z t[n+1]) (h2:t[n].1+t[n].2<=t[n+1].1):xV f z t (n+1+1):=by
 refine⟨fun j hj hjk=>?_,fun j hj hjk=>?_⟩
 .by_cases e:j=n+1
  .subst e;exact h1
  .exact h.1 j hj _a
 .by_cases e:j=n
  .subst e;exact h2
  .exact h.2 j hj _a
theorem adG (h:A:=by
 have Uf:=tK QT
 clear QT
 go_wp2_with fail
 go_ret
 exact iG Uf.out (W4.out _ ((NP.refl _ _).alloc _))):A:=h
theorem I1 (v:Value) (l:List (Int×Int)) (f z:Int) (lo hi:Nat) (w:World) (h:af w v l lo hi) (hl:l.length<=1000000) (Pj:∀a∈l,aQ a) (f1: -9223372036854775808<=f) (f2:f<=9223372036854775807) (s1: -9223372036854775808<=z) (s2:z<=9223372036854775807):
  am! 178 #[v,f,z] w (ik f z l w):=by
 have hc:=tX v l lo hi w h hl
 unfold bh at hc
 obtain⟨p,c,rfl⟩:=h.shape
 have⟨HC,VI⟩:=_f hc Pj
 have R7:=fun v1 w1 (r1:w1.ownsRow w 128 2 v1 l.length (NW l))=>IZ w v1 l w1 r1 hl
 unfold hZ at R7
 have VH:=tK R7
 clear h hc Pj R7
 generalize hN:l.length=N at*
 have HN:=tK hN
 clear hN
 go_enter func178,ntmps178
 go_wp2_with fail
 refine HC.out.mono ?_;rintro e w1 ⟨v1,rfl,r1,k1⟩
 have R7:=VH.out _ _ r1
 have VH:=tK R7
 obtain⟨p1,c1,rfl⟩:=ah r1
 clear R7 r1
 go_wp2_with fail
 refine VH.out.mono ?_;rintro e w3 ⟨rfl,t,Qi,hris,Tb,k3⟩
 have K3:NP [] w w3:=by
  rcases Tb.2 with⟨e1,_⟩|⟨g,cap,cur,e1,hb,_⟩
  .exact k1.call (k3 [] (fun g hg=>by rw[e1]at hg;simp[Value.ownBlock]at hg)) (fun x hx=>by cases hx)
  .refine k1.call (k3 [g] (fun g' hg=>?_)) (fun x hx=>Or.inr ?_)
   .rw[e1]at hg
    have:g=g':=y!
    simp[this]
   .have hx:x=g:=_h
    omega
 have PX:N=t.length:=by rw[<-HN.out];exact Qi.length_eq.symm
 clear HN
 subst PX
 have hS:=af.bB Tb
 have hmp:dv f z t↔dv f z l:=C7 Qi
 have hwt:∀a∈t,aQ a:=fun a ha=>VI.out a (Qi.mem_iff.1 ha)
 have⟨HS,HMP,HWT,YY⟩:=gh! hS hmp hwt hris
 clear hS hmp hwt hris Tb k3 VH VI Qi HC
 have j1:(t.length:Int)<=1000000:=_a
 have hw3:=K3.size
 go_wp2_with fail
 go_loopw [16] (fun i wr=>∃k:Nat,k<=t.length/\i=(k:Int)/\xV f z t k/\NP [] w3 wr) (fun i _=>t.length-(intOf i).toNat)
 case atStart=>exact⟨0,_a,rfl,CO _ _ _,NP.refl _ _⟩
 case round=>
  obtain⟨k,hk,rfl,hO,hK⟩:=hrel
  by_cases NV:k<t.length
  .obtain⟨b,off,rfl,c0,c1,hb,hlc,PT⟩:=(HS.out.kept0 hK).at_ k NV
   have UB:=HWT.out t[k] (MJ NV)
   have OF:¬gQ f z t[k]->¬dv f z l:=fun hh hm=>hh ((HMP.out.2 hm).1 _ (MJ NV))
   have i1:(k:Int)<t.length:=_a
   have⟨Pk,Of,HO⟩:=gg! OF NV hO
   have aat:∀wx,NP [] wr wx->NP [] w wx:=fun wx hx=>(K3.trans hK).trans hx
   have W4:=tK aat
   clear OF hO aat
   rcases Nat.eq_zero_or_pos k with rfl|YA
   .have Pp:=fun hh=>Fb (f:=f) (z:=z) NV hh
    have Qt:=tK Pp
    clear Pp
    generalize t[0]=X at*
    have⟨x0,xn⟩:=X
    have⟨w1',w2',XU,w4'⟩:=UB
    unfold gQ at Pk Qt
    simp only[Nat.zero_mul,Nat.add_zero]at c0 c1
    simp only at c0 c1 w1' w2' XU w4' Pk Qt
    rcases(by omega:x0<f\/(f<=x0/\xn<1)\/(f<=x0/\1<=xn/\z<=x0)\/(f<=x0/\1<=xn/\x0<z/\0<=x0/\z-x0<xn)\/(f<=x0/\1<=xn/\x0<z/\x0<0/\z<x0+xn)\/((f<=x0/\1<=xn/\x0<z/\0<=x0/\xn<=z-x0)\/(f<=x0/\1<=xn/\x0<z/\x0<0/\x0+xn<=z)))with g1|⟨g1,g2⟩|⟨g1,g2,g3⟩|⟨g1,g2,g3,g4,g5⟩|⟨g1,g2,g3,g4,g5⟩|⟨g1,g2,g3,g4,g5⟩|⟨g1,g2,g3,g4,g5⟩
    iterate 5
     .have QT:=Pk.out _a
      exact adG
    all_goals
     have Pf:=Qt.out _a
     have QH:=tK Pf
     clear Pf
     go_wp2_with fail
     go_quiet (fail)
     go_wp2_with fail
     go_roundw
     case rel=>exact⟨0+1,Of.out,_j,QH.out,(hK.alloc _).drewN _⟩
     case measure=>(have hh:=Of.out;simp[intOf];omega)
   .obtain⟨n,rfl⟩:∃n,k=n+1:=⟨k-1,_a⟩
    have⟨b',off',e',d0,d1,_⟩:=(HS.out.kept0 hK).at_ n _a
    injection e' with e'
    injection e' with e1 e2 _
    subst e1 e2
    have hnl:n<t.length:=_a
    have T8:=HO.out.1 n hnl _a
    have UU:=fun h1 h2=>CP NV HO.out h1 h2
    have Qg:1<=t[n+1].2->t[n+1].1<t[n].1+t[n].2->¬dv f z l:=fun h1 h2 hm=>AY YY.out NV h1 h2 (HMP.out.2 hm)
    have⟨Su,S9⟩:=_f UU Qg
    clear UU Qg HO YA
    generalize t[n+1]=X at*
    generalize t[n]=Y at*
    have⟨x0,xn⟩:=X
    have⟨y0,yn⟩:=Y
    have⟨w1',w2',XU,w4'⟩:=UB
    have⟨q1,q2,q3,q4⟩:=T8
    unfold gQ at Pk Su
    simp only at c0 c1 w1' w2' XU w4' Pk Su d0 d1 q1 q2 q3 q4 S9
    have i2:(n:Int)+1<t.length:=_a
    have i3:(n:Int)<t.length:=_a
    rcases(by omega:x0<f\/(f<=x0/\xn<1)\/(f<=x0/\1<=xn/\z<=x0)\/(f<=x0/\1<=xn/\x0<z/\0<=x0/\z-x0<xn)\/(f<=x0/\1<=xn/\x0<z/\x0<0/\z<x0+xn)\/((f<=x0/\1<=xn/\x0<z/\0<=x0/\xn<=z-x0)\/(f<=x0/\1<=xn/\x0<z/\x0<0/\x0+xn<=z)))with g1|⟨g1,g2⟩|⟨g1,g2,g3⟩|⟨g1,g2,g3,g4,g5⟩|⟨g1,g2,g3,g4,g5⟩|⟨g1,g2,g3,g4,g5⟩|⟨g1,g2,g3,g4,g5⟩
    iterate 5
     .have QT:=Pk.out _a
      exact adG
    all_goals
     by_cases Qf:y0+yn<=x0
     .have Pf:=Su.out _a Qf
      have QH:=tK Pf
      clear Pf
      go_wp2_with fail
      go_quiet (fail)
      go_wp2_with fail
      go_roundw
      case rel=>exact⟨n+1+1,Of.out,_j,QH.out,(hK.alloc _).drewN _⟩
      case measure=>(have hh:=Of.out;simp[intOf];omega)
     .have QT:=S9.out g2 _a
      have Uf:=tK QT
      clear QT
      go_wp2_with fail
      go_quiet (fail)
      go_wp2_with fail
      go_ret
      exact iG Uf.out (W4.out _ (((NP.refl _ _).alloc _).drewN _))
  .obtain rfl:k=t.length:=_a
   have hM:dv f z l:=HMP.out.1 (yE YY.out (fun j hj=>hO.1 j hj hj) (fun j hj=>hO.2 j hj hj))
   have HM:=tK hM
   clear hM hO
   go_wp2_with fail
   go_ret
   exact pF HM.out (K3.trans hK)

/- -/
import Derived.Test.YtdkimcnlhmhpgaaGreatShelf2
import Derived.Test.YtdkimcnlhmhpgaaGreatK01
import Derived.Test.YtdkimcnlhmhpgaaGreatK04
set_option maxHeartbeats 16000000
set_option maxRecDepth 100000
namespace Go.Proofs.YtdkimcnlhmhpgaaGreat
open Go.RowKit Go.Maps
variable {w w':World} {b k sb mb lo:Nat} {T S:List Nat} {d:DK}
theorem MN:type_of% @decide_eq_false:=@decide_eq_false
theorem Mv:type_of% @wpList_append_own_at:=@wpList_append_own_at
theorem Mn:type_of% @World.ownsRow.lt:=@World.ownsRow.lt
theorem Me:type_of% @World.ownsRow.alloc:=@World.ownsRow.alloc
def WB (w:World) (b k:Nat):Prop:=∃v,w.cell? ⟨b,1,none⟩=some v/\v.ownBlock=some k
structure PK (T:List Nat) (b sb mb:Nat) (w w':World):Prop where
 os:w'.os=w.os
 tape:w'.tape=w.tape
 output:w'.output=w.output
 size:w.heap.size<=w'.heap.size
 block:∀k,k<w.heap.size->k∉T->k≠b->k≠sb->k≠mb->¬WB w b k->w'.heap[k]? =w.heap[k]?
 wb:∀k,WB w' b k->WB w b k\/w.heap.size<=k
theorem WB.gz (h:w'.cell? ⟨b,1,none⟩=w.cell? ⟨b,1,none⟩):WB w' b k↔WB w b k:=by unfold WB;rw[h]
theorem PK.refl (T:List Nat) (b sb mb:Nat) (w:World):PK T b sb mb w w:=⟨rfl,rfl,rfl,Md _,fun _ _ _ _ _ _ _=>rfl,fun _ h=>Or.inl h⟩
theorem PK.trans {a:World} (h:PK T b sb mb a w) (k:PK T b sb mb w w'):PK T b sb mb a w':=by
 refine⟨k.os.trans h.os,k.tape.trans h.tape,k.output.trans h.output,MA h.size k.size,fun i hi h1 h2 h3 h4 h5=>?_,fun i hi=>?_⟩
 .rw[k.block i (Mo hi h.size) h1 h2 h3 h4 (fun hw=>by
   rcases h.wb i hw with h6|h6
   .exact h5 h6
   .omega)]
  exact h.block i hi h1 h2 h3 h4 h5
 .rcases k.wb i hi with h6|h6
  .exact h.wb i h6
  .exact Or.inr (MA h.size h6)
theorem PK.mono (h:PK S b sb mb w w') (hST:∀x∈S,x∈T):PK T b sb mb w w':=
 ⟨h.os,h.tape,h.output,h.size,fun k hk h1=>h.block k hk (fun h2=>h1 (hST k h2)),h.wb⟩
theorem aa.pk (h:aa S w w') (hb:b<w.heap.size) (hS:∀x∈S,x≠b/\(x∈T\/w.heap.size<=x)):PK T b sb mb w w':=
 ⟨h.os,h.tape,h.output,h.size,fun k hk h1 _ _ _ _=>h.block k hk (fun hx=>by
  rcases(hS k hx).2 with h2|h2
  .exact h1 h2
  .omega),fun k hk=>Or.inl ((WB.gz (h.cell (a:=⟨b,1,none⟩) hb (fun hx=>(hS b hx).1 rfl))).1 hk)⟩
theorem aa.bM (h:aa [] w w') (hb:b<w.heap.size):PK T b sb mb w w':=h.pk hb (fun x hx=>by cases hx)
theorem PK.kept (h:PK T b sb mb w w') (B:Nat) (hB:B<=w.heap.size) (h1:∀x∈T,B<=x) (h2:B<=b) (h3:B<=sb) (h4:B<=mb) (h5:∀k,WB w b k->B<=k):Below B w w':=
 ⟨h.os,h.tape,h.output,h.size,fun k hk=>h.block k (by omega) (fun hx=>by have:=h1 k hx;omega) (by omega) (by omega) (by omega) (fun hx=>by have:=h5 k hx;omega)⟩
theorem aI.aQ (h:aI w b sb mb lo d):b<w.heap.size:=by obtain⟨_,_,o,_⟩:=h;exact o.lt
theorem aI.wb (h:aI w b sb mb lo d) (hk:WB w b k):lo<=k/\∃cs,w.heap[k]? =some (.cells cs 206 (0,0)):=by
 obtain⟨wv,n,o,os,hw,_⟩:=h
 obtain⟨v,h1,h2⟩:=hk
 have h3:=o.cell 1 (by simp)
 rw[h1]at h3
 have e:v=wv:=by injection h3
 subst e
 rcases hw.2 with⟨rfl,_⟩|⟨g',cap,cur,rfl,hge,hh,_⟩
 .simp[Value.ownBlock]at h2
 .have e1:g'=k:=by simpa[Value.ownBlock]using h2
  subst e1
  exact⟨hge,cur,hh⟩
theorem PK.Lk (h:PK [] b sb mb w w') (hD:aI w b sb mb lo d):Cw b sb mb lo w w':=
 ⟨h.os,h.tape,h.output,h.size,fun k hk h1 h2 h3 h4=>h.block k hk (by simp) h1 h2 h3 (fun hx=>by
  obtain⟨h5,cs,h6⟩:=hD.wb hx
  rcases h4 with h4|h4
  .omega
  .exact h4 cs _ h6)⟩
theorem qB (b sb mb lo:Nat) (d:DK) (w:World) (h:aI w b sb mb lo d) (ho:d.ops<100000):Calls Tryz.prog 90 #[.pointer (some ⟨b,0,none⟩)] w fun e w'=>e=.returned (.bool (decide (d.fuse=0)))/\aI w' b sb mb lo (dK d)/\aa [b] w w'/\w'.cell? ⟨b,1,none⟩=w.cell? ⟨b,1,none⟩:=by
 have hn:=fun(d':DK) (w':World) (k:aa [b] w w')=>aI.nums (d':=d') h k
 have HN:=Mb hn
 clear hn
 obtain⟨wv,n,o,os,hw,hm,g1,g2,g3,g4,g5,g6,g7,g8,g9,g10,g11⟩:=h
 obtain⟨p,c,rfl⟩:=ai hw
 obtain⟨c0,c1,c2,c3,c4,c5⟩:=o.c6
 have z:=o.z6
 clear os hw hm
 obtain⟨st,wa,fu,op,dn⟩:=d
 simp only at*
 obtain⟨q,hq⟩:∃q,q=op+1:=⟨_,rfl⟩
 have Qk:((op:Int)+1)=(q:Int):=by omega
 have HQ:=Mb hq
 have HO:=Mb ho
 clear hq g11
 have ad7:(op:Int)<=100000:=by omega
 rcases(by omega:fu=0\/fu= -1\/0<fu)with rfl|rfl|hp
 .go_enter Tryz.func90,Tryz.ntmps90
  go_wp2_with fail
  go_ret
  have kk:=((aa.refl [b] w).setCell (p:=⟨b,4,none⟩) (Or.inl (by simp)) (.int .i64 q)).setCell (p:=⟨b,5,none⟩) (Or.inl (by simp)) (.bool true)
  refine⟨rfl,HN.out (dK ⟨st,wa,0,op,dn⟩) _ kk rfl rfl (by show(-1:Int)<=0;omega) (by show(0:Int)<=9223372036854775807;omega) (by have:=HO.out;show op+1<=_;omega) (fun v0 v1 v2 o=>?_),kk,by rw[((o.set 4 _).set 5 _).cell 1 (by simp),o.cell 1 (by simp)];rfl⟩
  show ae _ b #[v0,v1,v2,.int .i64 0,.int .i64 ((op+1:Nat):Int),.bool true] _
  rw[<-HQ.out]
  exact(o.set 4 _).set 5 _
 .go_enter Tryz.func90,Tryz.ntmps90
  go_wp2_with fail
  go_ret
  have kk:=(aa.refl [b] w).setCell (p:=⟨b,4,none⟩) (Or.inl (by simp)) (.int .i64 q)
  refine⟨rfl,HN.out (dK ⟨st,wa,-1,op,dn⟩) _ kk rfl rfl (by show(-1:Int)<= -1;omega) (by show(-1:Int)<=9223372036854775807;omega) (by have:=HO.out;show op+1<=_;omega) (fun v0 v1 v2 o=>?_),kk,by rw[(o.set 4 _).cell 1 (by simp),o.cell 1 (by simp)];rfl⟩
  show ae _ b #[v0,v1,v2,.int .i64 (-1),.int .i64 ((op+1:Nat):Int),.bool dn] _
  rw[<-HQ.out]
  exact o.set 4 _
 .have Ot:(fu==0)=false:=by rw[ME];omega
  have hdc:decide (fu=0)=false:=MN (by omega)
  rw[hdc]
  go_enter Tryz.func90,Tryz.ntmps90
  go_wp2_with fail
  go_ret
  have kk:=((aa.refl [b] w).setCell (p:=⟨b,4,none⟩) (Or.inl (by simp)) (.int .i64 q)).setCell (p:=⟨b,3,none⟩) (Or.inl (by simp)) (.int .i64 (fu-1))
  have ef:(dK ⟨st,wa,fu,op,dn⟩).fuse=fu-1:=by show(if 0<fu then fu-1 else fu)=_;rw[if_pos hp]
  have ed:(dK ⟨st,wa,fu,op,dn⟩).down=dn:=by show(if fu=0 then true else dn)=_;rw[if_neg (by omega)]
  refine⟨rfl,HN.out (dK ⟨st,wa,fu,op,dn⟩) _ kk rfl rfl (by rw[ef];omega) (by rw[ef];omega) (by have:=HO.out;show op+1<=_;omega) (fun v0 v1 v2 o=>?_),kk,by rw[((o.set 4 _).set 3 _).cell 1 (by simp),o.cell 1 (by simp)];rfl⟩
  rw[ef,ed]
  show ae _ b #[v0,v1,v2,.int .i64 (fu-1),.int .i64 ((op+1:Nat):Int),.bool dn] _
  rw[<-HQ.out]
  exact(o.set 4 _).set 3 _
theorem IY (b sb mb lo:Nat) (d:DK) (i:Nat) (s:List UInt8) (w:World) (h:aI w b sb mb lo d) (hd:d.down=false) (hi:i<d.stand.length) (hs:s.length=128) (ho:d.ops<100000) (VF:d.waits.length<=10000):
  Calls Tryz.prog 88 #[.pointer (some ⟨b,0,none⟩),.int .i64 i,.string (bs s)] w fun e w'=>e=.returned (.int .i64 (if d.fuse=0 then 90 else 0))/\aI w' b sb mb lo (aL d i s)/\PK [] b sb mb w w':=by
 have hr:=Eb b sb mb lo d i w h
 have e0:N7 d i=0:=by unfold N7;rw[hd,if_neg (by simp),if_neg (by omega)]
 rw[e0]at hr
 have Qk:=qB b sb mb lo d w h ho
 have hz:(bs s).size=128:=by rw[Nj,hs]
 have Rn:(bs s).size<=maxLen:=by rw[hz];decide
 have hi8:i<=8192:=by obtain⟨_,_,_,_,_,_,_,_,_,_,_,_,_,h8,_⟩:=h;omega
 obtain⟨i0,q0,q1,q2,q3⟩:=F6
 clear h e0 hd
 have HI:=Mb hi
 clear hi
 have key:∀(fb:Bool) (fc:Int),decide (d.fuse=0)=fb->(if d.fuse=0 then(90:Int)else 0)=fc->(fb=true/\fc=90\/fb=false/\fc=0)->
   Calls Tryz.prog 88 #[.pointer (some ⟨b,0,none⟩),.int .i64 i,.string (bs s)] w fun e w'=>e=.returned (.int .i64 fc)/\aI w' b sb mb lo (aL d i s)/\PK [] b sb mb w w':=by
  intro fb fc hfb Qz aaW
  rw[hfb]at Qk
  clear hfb Qz
  rcases aaW with⟨rfl,rfl⟩|⟨rfl,rfl⟩
  all_goals
   go_enter Tryz.func88,Tryz.ntmps88
   go_wp2_with fail
   refine hr.mono ?_;rintro e w' ⟨rfl,rfl⟩
   go_wp2_with fail
   refine Qk.mono ?_;rintro e w1 ⟨rfl,h1,k1,Rt⟩
   obtain⟨wv,n,o,os,hw,hm,hn,g2,g3,g4,g5,g6,g7,g8,g9,g10,g11⟩:=h1
   obtain⟨p,c,rfl⟩:=ai hw
   obtain⟨c0,c1,c2,c3,c4,c5⟩:=o.c6
   have z:=o.z6
   have XI:w.cell? ⟨b,1,none⟩=some (.slice p (dK d).waits.length c):=by rw[<-Rt];exact o.cell 1 (by simp)
   have aei:(dK d).waits.length<=10000:=VF
   have r3:(dK d).waits.length+1<=maxLen:=by unfold maxLen;omega
   have r4:((dK d).waits.length+1)*24<=140737488355328:=by omega
   clear hr Qk
   go_wp2_with (at_builtin;go_must (refine Mv _ rfl (.tmp 24) (.tmp 28) 135 rfl lo 206 i0 (.agg #[.int .i64 0,.string ⟨#[]⟩]) 2 24 Tryz.underlying135 q0 q1 q2 q3 rfl (by decide) _ _ _ rfl (Me hw _) ⟨w1.heap.size,0,none⟩ 1 1 [.int .i64 i,.string (bs s)] rfl rfl ?_ ?_ ?_ ?_ ?_ ?_))
   .exact World.news_of_block (M0 w1 _)
   .intro u hu;simp at hu;rcases hu with rfl|rfl<;>rfl
   .exact r3
   .exact r4
   .simp;omega
   intro v5 w5 o3 Sh _ hv5
   obtain⟨p5,c5',rfl⟩:=ai o3
   have HV5:=Mb hv5
   have HCW:=Mb XI
   clear hv5 XI Rt
   have o5:=cK (Me hw _) Sh (o.alloc _) (by decide)
   have os5:=cK (Me hw _) Sh (os.alloc _) (by decide)
   have hm5:=(hm.alloc (.cells #[.int .i64 i,.string (bs s)] 206)).block (Sh.block mb (hm.alloc _).lt (fun he=>by have:=(Mn hw mb he.symm).1;omega))
   have aaG:=Sh.size
   simp only[MK]at aaG
   obtain⟨y0,y1,y2,y3,y4,y5⟩:=o5.c6
   have zy:=o5.z6
   obtain⟨gb,T4,Xr⟩:∃gb,(∀j,(Value.slice p (dK d).waits.length c).ownBlock=some j->j=gb)/\(gb=b\/(Value.slice p (dK d).waits.length c).ownBlock=some gb):=by
    cases hb:(Value.slice p (dK d).waits.length c).ownBlock with
    |none=>exact⟨b,(fun j hj=>by cases hj),Or.inl rfl⟩
    |some g=>exact⟨g,(fun j hj=>by injection hj with hj;exact hj.symm),Or.inr rfl⟩
   have hK5:aa [b,mb,gb] w w5:=((k1.mono (T:=[b,mb,gb]) (by simp)).alloc (.cells #[.int .i64 i,.string (bs s)] 206)).grown Sh (fun j hj=>Or.inl (by rw[T4 j hj];simp))
   clear c0 c1 c2 c3 c4 c5 z o os hm hw Sh
   obtain⟨D,N3,hf⟩:=hm5.other (p:=⟨b,1,none⟩) (by show mb≠b;omega) (.slice p5 ((dK d).waits.length+1) c5')
   go_wp2_with (at_mapUpdate;go_must (refine wpList_mapUpdate_own _ rfl _ _ _ 136 rfl 3 9 DV Tryz.underlying136 _ mb n _ rfl N3 ?_ _ _ _ rfl rfl (Az i hi8) _ [] (plainElem_string Tryz.underlying9 Rn) ?_))
   .unfold maxLen;omega
   intro w7 TJ Xd
   go_wp2_with fail
   go_ret
   have QD:=(aa.refl [mb] _).grown Xd (fun k hk=>Or.inl (by simp at hk;simp[hk]))
   have acy:=QD.size
   have e:eY (d.waits++[(i,s)])=fun j=>if i=j then some s else eY d.waits j:=funext fun j=>jX _ _ _
   have o7:=QD.own (o5.set 1 (.slice p5 ((dK d).waits.length+1) c5')) (by simp;omega)
   have os7:=QD.own (os5.other (p:=⟨b,1,none⟩) (by show sb≠b;omega) (.slice p5 ((dK d).waits.length+1) c5')) (by simp;omega)
   have hr7:=au (dR o3 (p:=⟨b,1,none⟩) (aB o3 o5 (by decide)) (.slice p5 ((dK d).waits.length+1) c5')) QD (by simp;omega)
   have hm7:=cW.put (w:=w7) N3.isMap hf i hi8 s TJ
   have hsx:(w5.setCell ⟨b,1,none⟩ (.slice p5 ((dK d).waits.length+1) c5')).heap.size=w5.heap.size:=by simp[World.setCell]
   have hlen:(d.waits++[(i,s)]).length=(dK d).waits.length+1:=by simp[dK]
   have V3:=((hK5.setCell (p:=⟨b,1,none⟩) (Or.inl (by simp)) (.slice p5 ((dK d).waits.length+1) c5')).trans (QD.mono (T:=[b,mb,gb]) (by simp)))
   have hdk:PK [] b sb mb w w7:=by
    refine⟨V3.os,V3.tape,V3.output,V3.size,fun k hk _ e1 e2 e3 e4=>V3.block k hk (fun hx=>?_),fun k hx=>?_⟩
    .simp only[List.mem_cons,List.not_mem_nil,or_false]at hx
     rcases hx with hx|hx|hx
     .exact e1 hx
     .exact e3 hx
     .rcases Xr with h|h
      .exact e1 (hx.trans h)
      .exact e4 ⟨_,HCW.out,by rw[hx];exact h⟩
    .obtain⟨v,h1,h2⟩:=hx
     have h3:=o7.cell 1 (by simp)
     rw[h1]at h3
     have e:v=.slice p5 ((dK d).waits.length+1) c5':=by injection h3
     subst e
     rcases HV5.out with h4|h4
     .exact Or.inl ⟨_,HCW.out,h4▸h2⟩
     .right
      rw[h2]at h4
      injection h4 with h4
      have:=k1.size
      (try simp only[MK]at h4)
      omega
   refine⟨rfl,⟨.slice p5 ((dK d).waits.length+1) c5',n+1,o7,os7,?_,?_,?_,g2,g3,g4,g5,by omega,g7,g8,g9,g10,g11⟩,hdk⟩
   .show w7.ownsRow lo _ 2 _ (d.waits++[(i,s)]).length (iK (d.waits++[(i,s)]))
    rw[hlen,yJ];exact hr7
   .show cW w7 mb (n+1) (eY (d.waits++[(i,s)]))
    rw[e];exact hm7
   .show n+1<=(d.waits++[(i,s)]).length
    rw[hlen];omega
 by_cases hf:d.fuse=0
 .have:=key true 90 (MQ hf) (if_pos hf) (Or.inl ⟨rfl,rfl⟩)
  rw[if_pos hf];exact this
 .have:=key false 0 (MN hf) (if_neg hf) (Or.inr ⟨rfl,rfl⟩)
  rw[if_neg hf];exact this
theorem PK.J9 {T:List Nat} {b sb mb:Nat} {w w':World} {cs:Array Value} {t:TypeId} (h:aa [sb,b,mb] w w') (o:ae w' b cs t) (h1:cs[1]? =some (.slice none 0 0)):PK T b sb mb w w':=
 ⟨h.os,h.tape,h.output,h.size,fun k hk _ e1 e2 e3 _=>h.block k hk (by simp[e1,e2,e3]),fun k hk=>by
  obtain⟨v,h2,h3⟩:=hk
  obtain⟨Ns,h4⟩:=Array.getElem?_eq_some_iff.1 h1
  have h5:=o.cell 1 Ns
  rw[h2,h4]at h5
  injection h5 with h5
  subst h5
  simp[Value.ownBlock]at h3⟩
theorem M86 {A:Prop}(h:A:=by
 rcases TP.2 with⟨e1,e2⟩|⟨g',cap,cur,e1,hge,_⟩
 .omega
 .injection e1 with e1
  exact⟨g',e1,hge⟩):A:=h
theorem zX (b sb mb lo:Nat) (d:DK) (w:World) (h:aI w b sb mb lo d) (hfine:∀x∈d.waits,x.1<d.stand.length) (VF:d.waits.length<=10000):
  Calls Tryz.prog 75 #[.pointer (some ⟨b,0,none⟩),.func (.func 91) #[] #[]] w fun e w'=>e=.returned (.tuple #[])/\aI w' b sb mb lo (fq d (fun _=>true))/\PK [] b sb mb w w':=by
 obtain⟨wv,n,o,os,hw,hm,hn,g2,g3,g4,g5,g6,g7,g8,g9,g10,g11⟩:=h
 obtain⟨p,c,rfl⟩:=ai hw
 obtain⟨c0,c1,c2,c3,c4,c5⟩:=o.c6
 obtain⟨st,ws,fu,op,dn⟩:=d
 simp only at*
 go_enter Tryz.func75,Tryz.ntmps75
 go_wp2_with fail
 go_loopw [11] (fun i wr=>∃k:Nat,k<=ws.length/\i=.int .i64 k/\ae wr sb (bA (sk st ws (fun _=>true) k)) 9/\aa [sb] w wr) (fun i _=>ws.length-(intOf i).toNat)
 case atStart=>exact⟨0,by omega,rfl,os,aa.refl _ _⟩
 case round=>
  obtain⟨k,hk,rfl,os2,hK⟩:=hrel
  have o2:=hK.own o (by simp;omega)
  have TP:=au hw hK (by simp;omega)
  by_cases Ns:k<ws.length
  .obtain⟨gw,rfl,hgw⟩:∃gw,p=some ⟨gw,0,none⟩/\lo<=gw:=by
    exact M86
   obtain⟨q1,q2⟩:=tj ws k Ns
   have w1c:=World.ownsRow.cells TP rfl (k*2) _ q1
   have w2c:=World.ownsRow.cells TP rfl (k*2+1) _ q2
   rw[My,Nat.zero_add]at w1c w2c
   have Q2:ws[k].1<st.length:=hfine _ (Mh _)
   have Px:(sk st ws (fun _=>true) k).length=st.length:=iO _ _ _ _
   have NQ:=na st ws (fun _=>true) k Ns
   obtain⟨d0,d1,d2,d3,d4,d5⟩:=o2.c6
   have hgs:gw<wr.heap.size:=tO w1c
   have ada:=os2.lt
   have OM:=Mb NQ
   have NU:=Mb Ns
   have Tk:=Mb Px
   clear NQ Px q1 q2 c0 c1 c2 c3 c4 c5
   generalize ws[k].1=at1 at*
   generalize ws[k].2=dt at*
   have i1:(at1:Int)<st.length:=by omega
   have ot:=ae.new wr #[.int .i64 (at1:Int),.string (bs dt)] 206
   have XB:=os2.alloc (.cells #[.int .i64 (at1:Int),.string (bs dt)] 206)
   have o3:=o2.alloc (.cells #[.int .i64 (at1:Int),.string (bs dt)] 206)
   have XY:=hK.alloc (.cells #[.int .i64 (at1:Int),.string (bs dt)] 206)
   obtain⟨e0,e1,e2,e3,e4,e5⟩:=o3.c6
   obtain⟨f0,f1⟩:=ot.c2
   have PR:at1<(bA (sk st ws (fun _=>true) k)).size:=by simp[bA,Tk.out];exact Q2
   obtain⟨v0,s0⟩:∃v0,(wr.alloc (.cells #[.int .i64 (at1:Int),.string (bs dt)] 206)).cell? ⟨sb,at1,none⟩=some v0:=⟨_,XB.cell at1 PR⟩
   have zs:=XB.free at1
   go_wp2_with fail
   refine(LZ _ _).mono ?_;rintro e w' ⟨rfl,rfl⟩
   go_wp2_with fail
   go_region
   have N6:ae ((wr.setCell ⟨sb,at1,none⟩ (.string (bs dt))).alloc (.cells #[.int .i64 (at1:Int),.string (bs dt)] 206)).drew sb (bA (sk st ws (fun _=>true) (k+1))) 9:=by
    rw[OM.out]
    simp only[if_true]
    rw[<-ky]
    exact((os2.set at1 _).alloc _).drew
   have Yk:=((hK.setCell (p:=⟨sb,at1,none⟩) (Or.inl (by simp)) (.string (bs dt))).alloc (.cells #[.int .i64 (at1:Int),.string (bs dt)] 206)).drew
   go_wp2_with fail
   go_roundw
   case rel=>exact⟨k+1,NU.out,by go_num,N6,Yk⟩
   case measure=>(have hh:=NU.out;simp[intOf];omega)
  .obtain rfl:k=ws.length:=by omega
   obtain⟨d0,d1,d2,d3,d4,d5⟩:=o2.c6
   have z2:=o2.z6
   have Tg:=hm.kept hK (by simp;omega)
   have Y0:=Tg.other (p:=⟨b,1,none⟩) (by show mb≠b;omega) (.slice none 0 0)
   have XB:=os2.other (p:=⟨b,1,none⟩) (by show sb≠b;omega) (.slice none 0 0)
   have o3:=o2.set 1 (.slice none 0 0)
   have hsx:(wr.setCell ⟨b,1,none⟩ (.slice none 0 0)).heap.size=wr.heap.size:=by simp[World.setCell]
   have PE:=(hK.mono (T:=[sb,b,mb]) (by simp)).setCell (p:=⟨b,1,none⟩) (Or.inl (by simp)) (.slice none 0 0)
   have hlen:(sk st ws (fun _=>true) ws.length).length=st.length:=iO _ _ _ _
   obtain⟨w7,hrun7,hm7,QD⟩:=Y0.Eh 0
   go_wp2_with fail
   go_end0
   have acy:=QD.size
   have adH:=hK.size
   refine⟨rfl,⟨.slice none 0 0,0,?_,QD.own XB (by simp;omega),MG _ _ _ _,hm7,Md _,g2,g3,g4,g5,by omega,?_,?_,g9,g10,g11⟩,?_⟩
   .have:=QD.own o3 (by simp;omega)
    show ae w7 b #[.slice (some ⟨sb,0,none⟩) (sk st ws (fun _=>true) ws.length).length (sk st ws (fun _=>true) ws.length).length,_,_,_,_,_] _
    rw[hlen];exact this
   .show 1<=(sk st ws (fun _=>true) ws.length).length
    rw[hlen];exact g7
   .show(sk st ws (fun _=>true) ws.length).length<=8192
    rw[hlen];exact g8
   .exact PK.J9 (PE.trans (QD.mono (by simp))) (QD.own o3 (by simp;omega)) (by simp)
theorem uV (b sb mb lo:Nat) (d:DK) (v:Value) (keep:List Bool) (g OD On:Nat) (w:World) (h:aI w b sb mb lo d) (hfine:∀x∈d.waits,x.1<d.stand.length) (VF:d.waits.length<=10000) (hg:ae w g #[v] 39) (hgsb:g≠sb) (hb:eA w v keep OD On) (hbs:sb<OD\/On<=sb) (Yr:keep.length<=maxLen):
  Calls Tryz.prog 75 #[.pointer (some ⟨b,0,none⟩),.func (.func 144) #[] #[.pointer (some ⟨g,0,none⟩)]] w fun e w'=>e=.returned (.tuple #[])/\aI w' b sb mb lo (fq d (kept keep))/\PK [] b sb mb w w':=by
 obtain⟨wv,n,o,os,hw,hm,hn,g2,g3,g4,g5,g6,g7,g8,g9,g10,g11⟩:=h
 obtain⟨p,c,rfl⟩:=ai hw
 obtain⟨c0,c1,c2,c3,c4,c5⟩:=o.c6
 obtain⟨st,ws,fu,op,dn⟩:=d
 simp only at*
 go_enter Tryz.func75,Tryz.ntmps75
 go_wp2_with fail
 go_loopw [11] (fun i wr=>∃k:Nat,k<=ws.length/\i=.int .i64 k/\ae wr sb (bA (sk st ws (kept keep) k)) 9/\aa [sb] w wr) (fun i _=>ws.length-(intOf i).toNat)
 case atStart=>exact⟨0,by omega,rfl,os,aa.refl _ _⟩
 case round=>
  obtain⟨k,hk,rfl,os2,hK⟩:=hrel
  have o2:=hK.own o (by simp;omega)
  have TP:=au hw hK (by simp;omega)
  by_cases Ns:k<ws.length
  .obtain⟨gw,rfl,hgw⟩:∃gw,p=some ⟨gw,0,none⟩/\lo<=gw:=by
    exact M86
   obtain⟨q1,q2⟩:=tj ws k Ns
   have w1c:=World.ownsRow.cells TP rfl (k*2) _ q1
   have w2c:=World.ownsRow.cells TP rfl (k*2+1) _ q2
   rw[My,Nat.zero_add]at w1c w2c
   have Q2:ws[k].1<st.length:=hfine _ (Mh _)
   have Px:(sk st ws (kept keep) k).length=st.length:=iO _ _ _ _
   have NQ:=na st ws (kept keep) k Ns
   obtain⟨d0,d1,d2,d3,d4,d5⟩:=o2.c6
   have hgs:gw<wr.heap.size:=tO w1c
   have ada:=os2.lt
   have OM:=Mb NQ
   have NU:=Mb Ns
   have Tk:=Mb Px
   clear NQ Px q1 q2 c0 c1 c2 c3 c4 c5
   generalize ws[k].1=at1 at*
   generalize ws[k].2=dt at*
   have i1:(at1:Int)<st.length:=by omega
   have ot:=ae.new wr #[.int .i64 (at1:Int),.string (bs dt)] 206
   have XB:=os2.alloc (.cells #[.int .i64 (at1:Int),.string (bs dt)] 206)
   have o3:=o2.alloc (.cells #[.int .i64 (at1:Int),.string (bs dt)] 206)
   have XY:=hK.alloc (.cells #[.int .i64 (at1:Int),.string (bs dt)] 206)
   obtain⟨e0,e1,e2,e3,e4,e5⟩:=o3.c6
   obtain⟨f0,f1⟩:=ot.c2
   have PR:at1<(bA (sk st ws (kept keep) k)).size:=by simp[bA,Tk.out];exact Q2
   obtain⟨v0,s0⟩:∃v0,(wr.alloc (.cells #[.int .i64 (at1:Int),.string (bs dt)] 206)).cell? ⟨sb,at1,none⟩=some v0:=⟨_,XB.cell at1 PR⟩
   have zs:=XB.free at1
   have YA:k<=1000000:=by omega
   have Tq:∀(k:Nat) (W:World),aa [sb] w W->k<=1000000->Calls Tryz.prog 144 #[.int .i64 k,.pointer (some ⟨g,0,none⟩)] W fun e w'=>e=.returned (.bool (kept keep k))/\W=w':=fun k W hk P9=>I1 g k v keep OD On W (hk.own hg (by simpa using hgsb)) (hb.kept hk (fun x hx=>by simp at hx;omega)) Yr P9
   go_wp2_with fail
   refine(Tq k _ XY YA).mono ?_;rintro e w' ⟨rfl,rfl⟩
   have Rc:=OM.out
   cases hkp:kept keep k
   .rw[hkp]at Rc
    simp only[Bool.false_eq_true,if_false]at Rc
    have N6:ae (wr.alloc (.cells #[.int .i64 (at1:Int),.string (bs dt)] 206)) sb (bA (sk st ws (kept keep) (k+1))) 9:=by
     rw[Rc];exact XB
    have HF:=Mb N6
    clear Rc hkp N6
    go_wp2_with fail
    go_roundw
    case rel=>exact⟨k+1,NU.out,by go_num,HF.out,XY⟩
    case measure=>(have hh:=NU.out;simp[intOf];omega)
   .rw[hkp]at Rc
    simp only[if_true]at Rc
    have N6:ae ((wr.setCell ⟨sb,at1,none⟩ (.string (bs dt))).alloc (.cells #[.int .i64 (at1:Int),.string (bs dt)] 206)).drew sb (bA (sk st ws (kept keep) (k+1))) 9:=by
     rw[Rc,<-ky]
     exact((os2.set at1 _).alloc _).drew
    have Yk:=((hK.setCell (p:=⟨sb,at1,none⟩) (Or.inl (by simp)) (.string (bs dt))).alloc (.cells #[.int .i64 (at1:Int),.string (bs dt)] 206)).drew
    have HF:=Mb N6
    clear Rc hkp N6
    go_wp2_with fail
    go_region
    exact M40
  .obtain rfl:k=ws.length:=by omega
   obtain⟨d0,d1,d2,d3,d4,d5⟩:=o2.c6
   have z2:=o2.z6
   have Tg:=hm.kept hK (by simp;omega)
   have Y0:=Tg.other (p:=⟨b,1,none⟩) (by show mb≠b;omega) (.slice none 0 0)
   have XB:=os2.other (p:=⟨b,1,none⟩) (by show sb≠b;omega) (.slice none 0 0)
   have o3:=o2.set 1 (.slice none 0 0)
   have hsx:(wr.setCell ⟨b,1,none⟩ (.slice none 0 0)).heap.size=wr.heap.size:=by simp[World.setCell]
   have PE:=(hK.mono (T:=[sb,b,mb]) (by simp)).setCell (p:=⟨b,1,none⟩) (Or.inl (by simp)) (.slice none 0 0)
   have hlen:(sk st ws (kept keep) ws.length).length=st.length:=iO _ _ _ _
   obtain⟨w7,hrun7,hm7,QD⟩:=Y0.Eh 0
   go_wp2_with fail
   go_end0
   have acy:=QD.size
   have adH:=hK.size
   refine⟨rfl,⟨.slice none 0 0,0,?_,QD.own XB (by simp;omega),MG _ _ _ _,hm7,Md _,g2,g3,g4,g5,by omega,?_,?_,g9,g10,g11⟩,?_⟩
   .have:=QD.own o3 (by simp;omega)
    show ae w7 b #[.slice (some ⟨sb,0,none⟩) (sk st ws (kept keep) ws.length).length (sk st ws (kept keep) ws.length).length,_,_,_,_,_] _
    rw[hlen];exact this
   .show 1<=(sk st ws (kept keep) ws.length).length
    rw[hlen];exact g7
   .show(sk st ws (kept keep) ws.length).length<=8192
    rw[hlen];exact g8
   .exact PK.J9 (PE.trans (QD.mono (by simp))) (QD.own o3 (by simp;omega)) (by simp)
theorem PK.Bw (h:aa [b] w w') (hc:w'.cell? ⟨b,1,none⟩=w.cell? ⟨b,1,none⟩):PK [] b sb mb w w':=
 ⟨h.os,h.tape,h.output,h.size,fun k hk _ e1 _ _ _=>h.block k hk (by simpa using e1),fun k hk=>Or.inl ((WB.gz hc).1 hk)⟩
theorem zZ (b sb mb lo:Nat) (d:DK) (w:World) (h:aI w b sb mb lo d) (hd:d.down=false) (hf:d.fuse=0) (ho:d.ops<100000):Calls Tryz.prog 39 #[.pointer (some ⟨b,0,none⟩)] w fun e w'=>e=.returned (.int .i64 90)/\aI w' b sb mb lo (dK d)/\PK [] b sb mb w w':=by
 have hr:=ui b sb mb lo d w h
 have Qk:=qB b sb mb lo d w h ho
 unfold lg at hr
 rw[hd]at hr
 rw[MQ hf]at Qk
 simp only[Bool.false_eq_true,if_false]at hr
 clear h hd hf
 go_enter Tryz.func39,Tryz.ntmps39
 go_wp2_with fail
 refine hr.mono ?_;rintro e w' ⟨rfl,rfl⟩
 go_wp2_with fail
 refine Qk.mono ?_;rintro e w1 ⟨rfl,h1,k1,Rt⟩
 go_wp2_with fail
 go_ret
 exact⟨rfl,h1,PK.Bw k1 Rt⟩
theorem I0 (b sb mb lo:Nat) (d:DK) (w:World) (h:aI w b sb mb lo d) (hd:d.down=false) (hf:d.fuse≠0) (ho:d.ops<100000) (hfine:∀x∈d.waits,x.1<d.stand.length) (VF:d.waits.length<=10000):
  Calls Tryz.prog 39 #[.pointer (some ⟨b,0,none⟩)] w fun e w'=>e=.returned (.int .i64 0)/\aI w' b sb mb lo (fq (dK d) (fun _=>true))/\PK [] b sb mb w w':=by
 have hr:=ui b sb mb lo d w h
 have Qk:=qB b sb mb lo d w h ho
 have WS:=fun W (hW:aI W b sb mb lo (dK d))=>zX b sb mb lo (dK d) W hW hfine VF
 unfold lg at hr
 rw[hd]at hr
 rw[MN hf]at Qk
 simp only[Bool.false_eq_true,if_false]at hr
 clear h hd hf
 have acM:=Mb WS
 clear WS
 go_enter Tryz.func39,Tryz.ntmps39
 go_wp2_with fail
 refine hr.mono ?_;rintro e w' ⟨rfl,rfl⟩
 go_wp2_with fail
 refine Qk.mono ?_;rintro e w1 ⟨rfl,h1,k1,Rt⟩
 go_wp2_with fail
 refine(acM.out _ h1).mono ?_;rintro e w2 ⟨rfl,h2,k2⟩
 go_wp2_with fail
 go_ret
 exact⟨rfl,h2,(PK.Bw k1 Rt).trans k2⟩
theorem IZ (b sb mb lo:Nat) (d:DK) (v:Value) (keep:List Bool) (OD On:Nat) (w:World) (h:aI w b sb mb lo d) (hfine:∀x∈d.waits,x.1<d.stand.length) (VF:d.waits.length<=10000) (hb:eA w v keep OD On) (hbs:sb<OD\/On<=sb) (Yr:keep.length<=maxLen):
  Calls Tryz.prog 28 #[.pointer (some ⟨b,0,none⟩),v] w fun e w'=>e=.returned (.tuple #[])/\aI w' b sb mb lo (Oo d keep)/\PK [] b sb mb w w':=by
 obtain⟨p,c,rfl⟩:=hb.shape
 have hA:=h.keep ((aa.refl [] w).alloc (.cells #[.slice p keep.length c] 39)) (fun x hx=>by cases hx)
 have hbA:=hb.kept ((aa.refl [] w).alloc (.cells #[.slice p keep.length c] 39)) (fun x hx=>by cases hx)
 have hsb:sb<w.heap.size:=by obtain⟨_,_,_,os,_⟩:=h;exact os.lt
 have Xb:b<w.heap.size:=by obtain⟨_,_,o,_⟩:=h;exact o.lt
 have WS:=uV b sb mb lo d (.slice p keep.length c) keep w.heap.size OD On _ hA hfine VF (ae.new w _ _) (by omega) hbA hbs Yr
 have hkA:=(aa.refl [] w).alloc (.cells #[.slice p keep.length c] 39)
 have HS:=Mb WS
 clear WS hbA hb h
 go_enter Tryz.func28,Tryz.ntmps28
 go_wp2_with fail
 refine(Kk _ _ _ _).mono ?_;rintro e w' ⟨rfl,rfl⟩
 go_wp2_with fail
 refine HS.out.mono ?_;rintro e w2 ⟨rfl,h2,k2⟩
 obtain⟨wv2,n2,o2,_⟩:=id h2
 have Sw:=Mb o2
 clear o2
 obtain⟨p2,c2,y0,y1,y2,y3,y4,y5,_⟩:=h2.rI
 have z:w2.frozen? ⟨b,3,none⟩=false/\w2.frozen? ⟨b,5,none⟩=false:=by
  obtain⟨_,_,o,_⟩:=h2;exact⟨o.free 3,o.free 5⟩
 go_wp2_with fail
 go_end0
 have kk:=((aa.refl [b] w2).setCell (p:=⟨b,3,none⟩) (Or.inl (by simp)) (.int .i64 (-1))).setCell (p:=⟨b,5,none⟩) (Or.inl (by simp)) (.bool false)
 have ho:(fq d (kept keep)).ops<=100000:=by obtain⟨_,_,_,_,_,_,_,_,_,_,_,_,_,_,_,_,h11⟩:=h2;exact h11
 refine⟨rfl,aI.nums (d':=Oo d keep) h2 kk rfl rfl (by show(-1:Int)<= -1;omega) (by show(-1:Int)<=9223372036854775807;omega) ho (fun v0 v1 v2 o=>(o.set 3 _).set 5 _),?_⟩
 exact((hkA.bM Xb).trans k2).trans (PK.Bw kk (by rw[(((Sw.out).set 3 _).set 5 _).cell 1 (by simp),Sw.out.cell 1 (by simp)];rfl))
end Go.Proofs.YtdkimcnlhmhpgaaGreat
namespace Go.Proofs.YtdkimcnlhmhpgaaGreat
open Go.RowKit Go.Sort Go.Shelf
def jS (x:Int×Int):List Value:=[.int .i64 x.1,.int .i64 x.2]
theorem sP (l:List (Int×Int)):flatK jS 2 l.toArray=(No l).toArray:=by
 apply Array.ext
 .rw[size_flatK,List.size_toArray,List.size_toArray,dv]
 .intro t h1 h2
  have ht:t<l.length*2:=by simpa using h1
  have h:=get_flatK jS 2 l.toArray t (by simpa using ht)
  rw[getElem!_pos _ t h1]at h
  rw[h]
  have hi:t/2<l.length:=by omega
  rw[getElem!_pos l.toArray (t/2) (by simpa using hi)]
  obtain⟨g1,g2⟩:=kI l (t/2) hi
  rcases Nat.mod_two_eq_zero_or_one t with hm|hm
  .have e:t/2*2=t:=by omega
   rw[e]at g1
   rw[hm]
   have:=(MI.1 g1).2
   simp only[List.getElem_toArray]
   rw[this];rfl
  .have e:t/2*2+1=t:=by omega
   rw[e]at g2
   rw[hm]
   have:=(MI.1 g2).2
   simp only[List.getElem_toArray]
   rw[this];rfl
theorem re (x y:Int×Int):ltOf (fun x y:Int×Int=>Qx x.1 y.1) x y=decide (x.1<y.1):=by
 unfold ltOf Qx
 by_cases h1:x.1<y.1
 .simp[h1]
 .by_cases h2:y.1<x.1<;>simp[h1,h2]
theorem ES:SWO (ltOf fun x y:Int×Int=>Qx x.1 y.1):={
 irrefl:=fun x=>by rw[re];simp
 trans:=fun x y z h1 h2=>by rw[re]at*;simp at*;omega
 ntrans:=fun x y z h1 h2=>by rw[re]at*;simp at*;omega}
theorem M37 {A:Prop}(h:A:=by
 go_wp2_with (go_at_call 186;refine(SR _).mono ?_;rintro e w' ⟨rfl,rfl⟩)
 go_ret
 exact⟨rfl,0,_,by rw[alloc_eq_grow,alloc_eq_grow,grow_grow];rfl⟩):A:=h
theorem Hs (x y:Int×Int) (W:World):Calls Tryz.prog 185 #[.agg #[.int .i64 x.1,.int .i64 x.2],.agg #[.int .i64 y.1,.int .i64 y.2]] W fun e w'=>e=.returned (.int .i64 (Qx x.1 y.1))/\∃q os',w'=grow (W.drewN q) os':=by
 have SR:=fun W'=>EG x.1 y.1 W'
 generalize Qx x.1 y.1=r at SR ⊢
 go_enter Tryz.func185,Tryz.ntmps185
 exact M37
theorem Hr (x y:Int×Int) (W:World):Calls Tryz.prog 238 #[.agg #[.int .i64 x.1,.int .i64 x.2],.agg #[.int .i64 y.1,.int .i64 y.2]] W fun e w'=>e=.returned (.int .i64 (Qx x.1 y.1))/\∃q os',w'=grow (W.drewN q) os':=by
 have SR:=fun W'=>EG x.1 y.1 W'
 generalize Qx x.1 y.1=r at SR ⊢
 go_enter Tryz.func238,Tryz.ntmps238
 exact M37
theorem EY {w:World} {g cap base:Nat} {l:List (Int×Int)} (h:w.ownsRow base 128 2 (.slice (some ⟨g,0,none⟩) l.length cap) l.length (No l)) (m:Nat) (d':Array (Int×Int)) (os:Array Obj) (hd:d'.size=l.length):
  (sortWorldK jS 2 w g 0 m d' os).ownsRow base 128 2 (.slice (some ⟨g,0,none⟩) l.length cap) l.length (No d'.toList)/\aa [g] w (sortWorldK jS 2 w g 0 m d' os):=by
 obtain⟨hl,⟨e,_⟩|⟨g',cap',cur,e,hb,hg,hnc,Pb,SK,htake⟩⟩:=h
 .simp at e
 .injection e with e e2 e3
  injection e with e
  injection e with e _ _
  subst e e3
  have Ns:=MY hg
  have aal:(sortWorldK jS 2 w g 0 m d' os).heap[g]? =some (.cells (putCells id 0 (flatK jS 2 d') cur) 128 (0,0)):=by
   unfold sortWorldK
   rw[heap_grow_old _ _ (by show g<(putRowK jS 2 (Go.Sort.ahead w m) g 0 d').heap.size;simp[putRowK,putRow,mapBlock,Go.Sort.ahead];exact Ns)]
   simp[putRowK,putRow,mapBlock,Go.Sort.ahead,Array.getElem?_modify,hg,onCells]
  have O4:(putCells id 0 (flatK jS 2 d') cur).size=cur.size:=by simp[putCells]
  refine⟨⟨by rw[dv,<-hd];simp,Or.inr ⟨g,cap,_,rfl,hb,aal,hnc,Pb,by rw[O4,SK],?_⟩⟩,⟨rfl,rfl,rfl,?_,fun k hk hS=>?_⟩⟩
  .have hf:=sP d'.toList
   rw[Array.toArray_toList]at hf
   rw[hf]
   apply List.ext_getElem?
   intro i
   by_cases hi:i<l.length*2
   .rw[List.getElem?_take_of_lt hi]
    have hic:i<cur.size:=by rw[SK];have:=Nat.mul_le_mul_right 2 hnc;omega
    have hir:i<(No d'.toList).length:=by rw[dv];simp[hd];exact hi
    rw[Array.getElem?_toList,Mw hir]
    unfold putCells
    rw[Array.getElem?_mapIdx,Array.getElem?_eq_getElem hic]
    simp only[Option.map_some,List.size_toArray,Nat.zero_add,Nat.sub_zero,id]
    rw[if_pos ⟨Mu _,hir⟩,getElem!_pos _ i (by simpa using hir)]
    simp
   .rw[List.getElem?_eq_none (by rw[Mp];omega),List.getElem?_eq_none (by rw[dv];simp[hd];omega)]
  .unfold sortWorldK
   simp[putRowK,putRow,mapBlock,Go.Sort.ahead]
  .have Ot:g≠k:=by simpa using fun e=>hS (by simp[e])
   unfold sortWorldK
   rw[heap_grow_old _ _ (by show k<(putRowK jS 2 (Go.Sort.ahead w m) g 0 d').heap.size;simp[putRowK,putRow,mapBlock,Go.Sort.ahead];exact hk)]
   simp[putRowK,putRow,mapBlock,Go.Sort.ahead,Array.getElem?_modify,Ot]
def jE (l:List (Int×Int)):Prop:=List.Pairwise (fun a b=>a.1<=b.1) l
theorem Dc {d:Array (Int×Int)} (h:SortedIn (ltOf fun x y:Int×Int=>Qx x.1 y.1) 0 d.size d):jE d.toList:=by
 unfold jE
 rw[List.pairwise_iff_getElem]
 intro i j hi hj Vu
 have hi':i<d.size:=by simpa using hi
 have Sr:j<d.size:=by simpa using hj
 have:=h i j (Mu _) Vu Sr
 rw[re,getElem!_pos d i hi',getElem!_pos d j Sr]at this
 simp at this
 simpa using this
def im (base:Nat) (v:Value) (l:List (Int×Int)) (w:World) (e:Ending) (w':World):Prop:=
 e=.returned (.tuple #[])/\∃l':List (Int×Int),l'.Perm l/\jE l'/\w'.ownsRow base 128 2 v l.length (No l')/\∀S,(∀g,v.ownBlock=some g->g∈S)->aa S w w'
theorem AX (c:Nat) (p:Option Addr) (f:Nat) (w:World):Calls Tryz.prog 271 #[.slice p 0 c,.int .i64 0,.int .i64 0,.func (.func f) #[] #[]] w fun e w'=>e=.returned (.tuple #[])/\w=w':=by
 go_enter Tryz.func271,Tryz.ntmps271
 go_wp2_with fail
 refine wp_loop_rounds 1 ?_
 rw[rounds_succ]
 go_wp2_with fail
 go_end0
 exact⟨rfl,rfl⟩
theorem CK (c:Nat) (p:Option Addr) (lim:Int) (f:Nat) (w:World):Calls Tryz.prog 239 #[.slice p 0 c,.int .i64 0,.int .i64 0,.int .i64 lim,.func (.func f) #[] #[]] w fun e w'=>e=.returned (.tuple #[])/\w=w':=by
 go_enter Tryz.func239,Tryz.ntmps239
 go_wp2_with fail
 refine wp_loop_rounds 1 ?_
 rw[rounds_succ]
 go_wp2_with (go_at_call 271;refine(AX _ _ _ _).mono ?_;rintro e w' ⟨rfl,rfl⟩)
 (try simp only[Exit.inBlock,Exit.then]);refine Mx (results_none rfl _ _ _) rfl ?_
 exact⟨rfl,rfl⟩
theorem AY (f base:Nat) (v:Value) (l:List (Int×Int)) (w:World) (h:w.ownsRow base 128 2 v l.length (No l)) (hl:l.length<=1000000)
  (eg:∀args w,(callFunc f args).run Tryz.prog w=.ok (.enter f args) w)
  (hf:∀(x y:Int×Int) (W:World),Calls Tryz.prog f #[.agg #[.int .i64 x.1,.int .i64 x.2],.agg #[.int .i64 y.1,.int .i64 y.2]] W fun e w'=>e=.returned (.int .i64 (Qx x.1 y.1))/\∃q os',w'=grow (W.drewN q) os'):
  Calls Tryz.prog 184 #[v,.func (.func f) #[] #[]] w (im base v l w):=by
 by_cases h0:l.length=0
 .have UI:l=[]:=Mt h0
  subst UI
  have H:=Mb h
  obtain⟨p,c,rfl⟩:=ai h
  clear h hf eg hl
  have hb:=fun W=>Tryz.bits_Len 0 W (by omega) (by omega)
  go_enter Tryz.func184,Tryz.ntmps184
  go_wp2_with (first
   |(go_at_call 240;refine(hb _).mono ?_;rintro e w' ⟨rfl,rfl⟩)
   |(go_at_call 239;refine(CK _ _ _ _ _).mono ?_;rintro e w' ⟨rfl,rfl⟩))
  go_end0
  exact⟨rfl,[],List.Perm.refl _,List.Pairwise.nil,H.out,fun S _=>aa.refl _ _⟩
 .obtain⟨g,c,rfl,hb,Ns,hnc,Pb,NW⟩:=fQ h (by omega)
  have hd:l.toArray.size=l.length:=by simp
  have hH:HoldsK jS 2 w g 0 l.toArray:=by
   intro j hj
   have Xx:j<(No l).length:=by rw[sP]at hj;simpa using hj
   rw[sP,Nat.zero_add]
   refine⟨?_,World.ownsRow.frozenAt h j⟩
   rw[NW j _ (Mw Xx),getElem!_pos _ j (by simpa using Xx)]
   simp
  have Pe:CmpLays Tryz.prog f #[] jS 2 (fun x y=>Qx x.1 y.1) g 0 l.toArray.size w:=fun _ _ _ _ x y=>hf x y _
  have SR:=AnyQ.slices_SortFunc Tryz.sortRun 2 Tryz.isAgg128 Tryz.sizeOf128 jS (fun _=>rfl) (fun x v hv=>by simp[jS]at hv;rcases hv with rfl|rfl<;>rfl) (fun x y=>Qx x.1 y.1) ES f #[] g 0 c l.toArray w eg Pe hH Ns (by rw[hd];omega)
  rw[hd]at SR
  refine SR.mono fun e w' ⟨he,d',n,os,hp,hs,hw⟩=>?_
  obtain⟨hp1,_,hp3⟩:=hp
  have hds:d'.size=l.length:=by rw[hp1,hd]
  obtain⟨r1,r2⟩:=EY h n d' os hds
  rw[<-hds]at hs
  have Pm:d'.toList.Perm l:=by
   have e1:(d'.extract 0 l.length).toList=d'.toList:=by rw[<-hds];simp
   have e2:(l.toArray.extract 0 l.length).toList=l:=by simp
   rwa[e1,e2]at hp3
  subst hw
  exact⟨he,d'.toList,Pm,Dc hs,r1,fun S hS=>r2.mono (fun x hx=>by
   have hx:x=g:=by simpa using hx
   subst hx;exact hS x (by simp[Value.ownBlock]))⟩
theorem Jy (base:Nat) (v:Value) (l:List (Int×Int)) (w:World) (h:w.ownsRow base 128 2 v l.length (No l)) (hl:l.length<=1000000):
  Calls Tryz.prog 184 #[v,.func (.func 185) #[] #[]] w (im base v l w):=
 AY 185 base v l w h hl (enters_of Tryz.func185 (by kernel_rfl) rfl) Hs
theorem Jw (base:Nat) (v:Value) (l:List (Int×Int)) (w:World) (h:w.ownsRow base 128 2 v l.length (No l)) (hl:l.length<=1000000):
  Calls Tryz.prog 184 #[v,.func (.func 238) #[] #[]] w (im base v l w):=
 AY 238 base v l w h hl (enters_of Tryz.func238 (by kernel_rfl) rfl) Hr
end Go.Proofs.YtdkimcnlhmhpgaaGreat

/- -/
import Derived.Test.YtdkimcnlhmhpgaaGreatRows
import Derived.Test.YtdkimcnlhmhpgaaGreatM06
set_option maxHeartbeats 32000000
set_option maxRecDepth 100000
namespace Go.Proofs.YtdkimcnlhmhpgaaGreat
section
open Go.Proofs.Tryz Go.RowKit Go.Maps
variable {d:DK} {b sb lo:Nat} {w w':World}
theorem Ny:type_of% @List.getElem_map:=@List.getElem_map
theorem Nu:type_of% @List.length_pos_iff:=@List.length_pos_iff
theorem MW:type_of% @List.append_assoc:=@List.append_assoc
theorem MQ:type_of% @List.length_drop:=@List.length_drop
theorem Do:∃i,prog.info? 208=some i/\i.zero=some (.agg #[(0:Int),.string ⟨#[]⟩])/\i.size=2/\i.bytes=24:=by
 have hi:(prog.info? 208).map (fun i=>(i.zero,i.size,i.bytes))=some (some (.agg #[(0:Int),.string ⟨#[]⟩]),2,24):=_c
 exact Yh
theorem M63 {A:Prop}(h:A:=by
 go_enter func140,ntmps140
 go_wp2_with fail
 go_ret
 exact⟨rfl,rfl⟩):A:=h
theorem Cz (r lo:Nat) (d:DK) (i:Int) (s:ByteArray) (w:World) (h:eK w r lo d) (OF:OM d i≠0):am! 140 #[r,i,.string s] w fun e w'=>e=(OM d i:Int)/\w=w':=by
 have⟨p,c,p',c',c0,c1,c2,c3,c4,hs,hw,h1,h2,h3,h4,h5⟩:=h.mz
 unfold OM at*
 clear hs hw h
 generalize d.stand.length=n at*
 cases hd:d.down
 .rw[hd]at c4 OF
  simp only[Bool.false_eq_true,if_false]at OF ⊢
  clear hd
  rcases(by omega:i<0\/(0<=i/\i<n)\/(0<=i/\¬(i<n)))with g1|⟨g1,g2⟩|⟨g1,g2⟩
  .rw[if_pos (Or.inl g1)]
   clear OF
   exact M63
  .rw[if_neg _a]at OF
   exact absurd rfl OF
  .rw[if_pos (Or.inr _a)]
   clear OF
   exact M63
 .rw[hd]at c4
  simp only[if_true]
  clear hd OF
  exact M63
theorem AI (r lo:Nat) (d:DK) (i:Int) (s:ByteArray) (w:World) (h:eK w r lo d) (h0:OM d i=0) (hs:s.size≠128):am! 140 #[r,i,.string s] w fun e w'=>e=(1:Int)/\w=w':=by
 have⟨p,c,p',c',c0,c1,c2,c3,c4,RH,hw,h1,h2,h3,h4,h5⟩:=h.mz
 have hx:((s.size:Int)==128)=false:=_y
 unfold OM at h0
 cases hd:d.down
 .rw[hd,if_neg _b]at h0
  have hi:0<=i/\i<d.stand.length:=by
   by_cases hc:i<0\/(d.stand.length:Int)<=i
   .rw[if_pos hc]at h0;omega
   .omega
  have⟨g1,g2⟩:=hi
  rw[hd]at c4
  clear hs RH hw h h0 hd
  generalize d.stand.length=n at*
  exact M63
 .rw[hd,if_pos rfl]at h0;omega
theorem JH (r lo:Nat) (d:DK) (i:Nat) (s:List UInt8) (w:World) (h:eK w r lo d) (hd:d.down=false) (hi:i<d.stand.length) (hs:s.length=128) (ho:d.ops<100000) (WH:d.waits.length<20000):
  am! 140 #[r,(i:Int),s] w fun e w'=>e=(if d.fuse=0 then 90 else 0:Int)/\eK w' r lo (cW d i s)/\NP [r] w w':=by
 have hz:(bs s).size=128:=by rw[NQ,hs]
 have⟨i0,q0,q1,q2,q3⟩:=Do
 have H:=tK h
 have⟨sv,wv,o⟩:=h.own
 have zo:=o.free 1
 have⟨p,c,p',c',c0,c1,c2,c3,c4,hsr,Sr,h1,h2,h3,h4,h5⟩:=h.mz
 rw[hd]at c4
 have i1:(i:Int)<d.stand.length:=_a
 have rlt:=o.lt
 have HO:Hid (d.ops<100000):=ho
 have HWL:Hid (d.waits.length<20000):=WH
 have hem:=bJ w w 208 2 (MG _)
 have acF:=MH Sr (.cells #[] 208)
 have oA:=o.alloc (.cells #[] 208)
 have r3:0+d.waits.length<=maxLen:=_m
 have r4:(0+d.waits.length)*24<=140737488355328:=_a
 have r5:d.waits.length+1<=maxLen:=_m
 have r6:(d.waits.length+1)*24<=140737488355328:=_a
 have hcut:∀W,eK W r lo ⟨d.stand,d.waits++[(i,s)],d.fuse,d.ops,d.down⟩->am! 211 #[r] W fun e w'=>e=.returned (.bool (decide (d.fuse=0)))/\eK w' r lo (cW d i s)/\NP [r] W w':=fun W hW=>Mj r lo _ W hW ho
 have Oy:∀W v,NP [r] w W->W.ownsRow w 208 2 v (d.waits.length+1) (PG d.waits++[.int .i64 i,.string (bs s)])->(∀v0 v1,ae w r #[v0,v1,d.fuse,(d.ops:Int),.bool d.down] 134->ae W r #[v0,v,d.fuse,(d.ops:Int),.bool d.down] 134)->eK W r lo ⟨d.stand,d.waits++[(i,s)],d.fuse,d.ops,d.down⟩:=by
  intro W v k hv ho2
  have⟨sv,wv,o,hs,hw,h1,h2,h3,h4,h5,h6,h7⟩:=h
  refine⟨sv,v,ho2 _ _ o,bI hs k o _d,?_,Nk h1 k.size,h2,h3,h4,h5,h6,?_⟩
  .have e1:(d.waits++[(i,s)]).length=d.waits.length+1:=_b
   show W.ownsRow lo _ 2 v (d.waits++[(i,s)]).length (PG (d.waits++[(i,s)]))
   rw[e1,qD]
   exact aF hv h1
  .show(d.waits++[(i,s)]).length<=20000
   rw[tN,Nq];omega
 have Rv:=tK Oy
 clear h hs Sr Oy
 have key:∀(fb:Bool) (fc:Int),decide (d.fuse=0)=fb->(if d.fuse=0 then(90:Int)else 0)=fc->(fb=true/\fc=90\/fb=false/\fc=0)->
   am! 140 #[r,(i:Int),s] w fun e w'=>e=fc/\eK w' r lo (cW d i s)/\NP [r] w w':=by
  intro fb fc hfb UF Wg
  rw[hfb]at hcut
  have aeY:=tK hcut
  clear hfb UF hcut
  rcases Wg with⟨rfl,rfl⟩|⟨rfl,rfl⟩
  all_goals
   go_enter func140,ntmps140
   go_wp2_with (at_builtin;go_must (refine oL rfl (.tmp 26) (.tmp 30) 132 rfl w lo 208 i0 (.agg #[(0:Int),.string ⟨#[]⟩]) 2 24 underlying132 q0 q1 q2 q3 rfl _d _ _ _ rfl hem _ _ _ rfl acF (Aj _) r3 r4 _b ?_))
   intro v5 w5 o3 RQ aeS
   have k5:NP [] w w5:=((NP.refl [] w).alloc _).grown RQ (fun g hg=>by
    have:w.heap.size=g:=y!
    exact Or.inr _a)
   have hs5:=k5.size
   clear RQ aeS hem acF oA c0 c1 c2 c3 c4
   go_wp2_with (at_builtin;go_must (refine MT _ rfl (.tmp 31) (.tmp 35) 132 rfl w 208 i0 (.agg #[(0:Int),.string ⟨#[]⟩]) 2 24 underlying132 q0 q1 q2 q3 rfl _d _ _ _ rfl (MH o3 _) w5 1 1 [.int .i64 i,.string (bs s)] rfl rfl ?_ ?_ r5 r6 ?_ ?_))
   .exact World.news_of_block (Ns w5 _)
   .intro u hu;simp at hu;rcases hu with rfl|rfl<;>rfl
   .simp;omega
   intro v6 w6 o6 Po _ _
   have k6:NP [] w w6:=(k5.alloc _).grown Po (fun g hg=>Or.inr (ML o3 g hg).1)
   obtain⟨p6,c6,rfl⟩:=ah o6
   have or6:=k6.own o _b
   have z6:=or6.free 1
   have⟨y0,y1,_⟩:=or6.c5
   have kk:=(k6.mono (T:=[r]) _b).setCell (p:=(aa r 1)) (Or.inl _b) (p6,d.waits.length+1,c6)
   have o7:=bT o6 (p:=(aa r 1)) (aB o6 or6 _d) (p6,d.waits.length+1,c6)
   have hR:=Rv.out _ (p6,d.waits.length+1,c6) kk o7 (fun v0 v1 o=>(k6.own o _b).set 1 _)
   have ae3:=tK hR
   clear Po o3 o6 o7 hR k5
   go_wp2_with fail
   refine(aeY.out _ ae3.out).mono ?_;rintro e w8 ⟨rfl,r8,k8⟩
   go_wp2_with fail
   go_ret
   exact⟨rfl,r8,kk.trans k8⟩
 by_cases hf:d.fuse=0
 .exact key true _ (MV hf) rfl (Or.inl ⟨rfl,if_pos hf⟩)
 .exact key false _ (MS hf) rfl (Or.inr ⟨rfl,if_neg hf⟩)
theorem Ld (img:List UInt8) (n:Nat) (w:World) (hl:img.length=128*n) (h1:1<=n) (h2:n<=8192):
  am! 24 #[img] w fun e w'=>e=.returned w.heap.size/\eK w' w w (QP ((List.range n).map (PQ img)))/\NP [] w w':=by
 have⟨i0,q0,q1,q2,q3⟩:=zF
 have hz:(bs img).size=128*n:=by rw[NQ,hl]
 have hq:((128*n:Nat):Int)=128*(n:Int):=_a
 have o:=ae.new w #[(),(),(-1:Int),(0:Int),false] 134
 have i1:(n:Int)<=8192:=_a
 have i2:(1:Int)<=n:=_a
 have HX:Hid (∀k,(bs img).extract (128*k) (128*k+128)=bs (PQ img k)):=qU img
 go_enter func24,ntmps24
 go_wp2_with fail
 go_loopw [4] (fun i wr=>∃(k:Nat) (v:Value),k<=n/\i=(128*(k:Int):Int)/\ae wr w #[v,(),(-1:Int),(0:Int),false] 134/\wr.ownsRow w 9 1 v k (ky ((List.range k).map (PQ img)))/\NP [] w wr) (fun i _=>128*n-(intOf i).toNat)
 case atStart=>exact⟨0,_,_a,rfl,o,Nf _ _ _ _,(NP.refl _ _).alloc _⟩
 case round=>
  obtain⟨k,v,hk,rfl,orr,NU,hK⟩:=hrel
  by_cases NV:k<n
  .have Of:=tK NV
   have i3:128*(k:Int)<128*n:=_a
   have i4:128*(k:Int)+128<=128*n:=_a
   have t1:(128*(k:Int)).toNat=128*k:=_a
   have t2:(128*(k:Int)+128).toNat=128*k+128:=_a
   have hx:=HX.out k
   obtain⟨p,c,rfl⟩:=ah NU
   have r3:k+1<=maxLen:=_m
   have r4:(k+1)*16<=140737488355328:=_a
   have PW:=hK.size
   have rlt:=orr.lt
   have⟨c0,_⟩:=orr.c5
   have zr:=orr.free 0
   have RG:((wr.alloc (.cells #[.string (bs (PQ img k))] 9)).drew).heap[wr.heap.size]? =some (.cells #[.string (bs (PQ img k))] 9 (0,0)):=Ns wr (.cells #[.string (bs (PQ img k))] 9)
   have ec:ky ((List.range (k+1)).map (PQ img))=ky ((List.range k).map (PQ img))++[.string (bs (PQ img k))]:=by unfold ky;rw[List.range_succ];simp
   have⟨HEC,S6⟩:=_f ec RG
   clear RG ec
   generalize hCC:bs (PQ img k)=CC at*
   have HCC:=tK hCC
   clear hCC
   have i5:(0:Int)<=128*(k:Int):=_a
   have i6:128*(k:Int)<=128*(k:Int)+128:=_a
   have rr5:w.heap.size<=wr.heap.size+1:=_a
   have wx:IntKind.i64.wrap (128*(k:Int)+128)=128*(k:Int)+128:=IntWalk.i64_in _ _a
   go_wp2_with fail
   go_region_law (first
    |(refine step_append_lies _ _L (.tmp 17) (.tmp 23) 76 _L w 9 i0 (.string ⟨#[]⟩) 1 16 underlying76 q0 q1 q2 q3 rfl _d _ _ _ _L (World.ownsRow.drew (MH NU _)) wr 1 1 [.string CC] _L rfl (World.news_of_block S6.out) (by intro u hu;simp at hu;subst hu;rfl) _d r3 r4 (by simpa using rr5) (wr.heap.size+1) _b ?_;intro g3 Vt w5 o3 RQ at3 lt3;have Tv:=bW (World.ownsRow.drew (MH NU _)) RQ (ae.drew (orr.alloc _)) _d;have hc5:=ae.cell Tv 0 _b;have hf5:=Tv.free 0))
   all_goals go_wp2_with fail
   all_goals
    have hKf:NP [] w (w5.setCell w (g3,k+1,Vt)):=NP.setCell (NP.grown (NP.drew (hK.alloc _)) RQ (fun j hj=>Or.inr (ML NU j hj).1)) (p:=w) (Or.inr (MG _)) _
    have o6:=bT o3 (p:=w) (aB o3 Tv _d) (g3,k+1,Vt)
    rw[<-HEC.out]at o6
    clear wx
    refine⟨⟨k+1,_,Of.out,_j,Tv.set 0 _,o6,hKf⟩,?_⟩
    have hh:=Of.out
    simp[intOf];omega
  .obtain rfl:k=n:=_a
   go_wp2_with fail
   go_ret
   refine⟨rfl,⟨v,(),orr,?_,Nf _ _ _ _,hK.size,MG _,?_,?_,rfl,Nb _,Nb _⟩,hK⟩
   .show wr.ownsRow _ _ 1 v ((List.range k).map (PQ img)).length (ky ((List.range k).map (PQ img)))
    rw[MP,List.length_range];exact NU
   .show 1<=((List.range k).map (PQ img)).length
    rw[MP,List.length_range];omega
   .show((List.range k).map (PQ img)).length<=8192
    rw[MP,List.length_range];omega
def Pc (d:DK) (i:Int):List UInt8:=if OM d i=0 then seen d i.toNat else[]
def OW (d:DK) (i:Int) (s:List UInt8):Int:=if OM d i≠0 then OM d i else if s.length≠128 then 1 else if d.fuse=0 then 90 else 0
def OJ (d:DK) (i:Int) (s:List UInt8):DK:=if OM d i=0/\s.length=128 then cW d i.toNat s else d
def qv (d:DK):Int:=if d.down=true then 90 else if d.fuse=0 then 90 else 0
def iO (d:DK):DK:=if d.down=true then d else if d.fuse=0 then dq d else kX (dq d) (fun _=>true)
structure dS (d:DK):Prop where
 fine:∀x∈d.waits,x.1<d.stand.length/\x.2.length=128
 all:∀s∈d.stand,s.length=128
theorem dS.op (h:dS d):dS (dq d):=⟨h.fine,h.all⟩
theorem dh {i:Int} (h:OM d i=0):d.down=false/\0<=i/\i<d.stand.length:=by
 unfold OM at h
 cases hd:d.down
 .rw[hd,if_neg _b]at h
  by_cases hc:i<0\/(d.stand.length:Int)<=i
  .rw[if_pos hc]at h;omega
  .exact⟨rfl,_a,_a⟩
 .rw[hd,if_pos rfl]at h;omega
theorem dS.write (h:dS d) (i:Int) (s:List UInt8):dS (OJ d i s):=by
 unfold OJ
 split
 .rename_i hc
  have⟨_,h1,h2⟩:=dh hc.1
  refine⟨fun x hx=>?_,h.all⟩
  have hx:x∈d.waits++[(i.toNat,s)]:=hx
  rw[Na]at hx
  rcases hx with hx|hx
  .exact h.fine x hx
  .have hx:x=(i.toNat,s):=_h
   subst hx
   exact⟨by show i.toNat<d.stand.length;omega,hc.2⟩
 .exact h
theorem dS.settle (h:dS d) (k:Nat->Bool):dS (kX d k):=
 ⟨(fun x hx=>by cases hx),Jh (p:=fun s=>s.length=128) _ _ _ h.all (fun x hx=>(h.fine x hx).2) _ (MG _)⟩
theorem dS.flush (h:dS d):dS (iO d):=by
 unfold iO
 split
 .exact h
 .split
  .exact h.op
  .exact h.op.settle _
theorem dS.new (n:Nat):dS (QP (List.replicate n N9)):=by
 refine⟨(fun x hx=>by cases hx),fun s hs=>?_⟩
 have:=List.eq_of_mem_replicate hs
 subst this;unfold N9;rw[Np]
structure LX (W0 w:World) (b sb mb lo:Nat) (d:DK):Prop where
 disk:aD w b sb mb lo d
 kept:NP [] W0 w
 hb:W0.heap.size<=b
 hsb:W0.heap.size<=sb
 hmb:W0.heap.size<=mb
 hlo:W0.heap.size<=lo
 fit:dS d
section
variable {W0 w:World} {b sb mb lo:Nat} {d:DK}
theorem Mw (n:Nat) (w:World) (h1:1<=n) (h2:n<=8192):
  am! 9 #[(n:Int)] w fun e w'=>∃b sb mb lo,e=.returned (.tuple #[.pointer (some ⟨b,0,none⟩),(0:Int)])/\LX w w' b sb mb lo (QP (List.replicate n N9)):=
 (Mq n w h1 h2).mono fun e w' ⟨b,sb,mb,lo,he,hD,z1,z2,z3,k⟩=>⟨b,sb,mb,lo,he,hD,k,z3,z1,z2,(by have:=aD.L2 hD;omega),dS.new n⟩
end
def vR (b sb mb lo r:Nat) (w w':World):Prop:=
 w'.os=w.os/\w'.tape=w.tape/\w'.output=w.output/\w.heap.size<=w'.heap.size/\∀k,k<w.heap.size->k≠b->k≠sb->k≠mb->k≠r->(k<lo\/∀cs f,w.heap[k]? ≠some (.cells cs 206 f))->w'.heap[k]? =w.heap[k]?
theorem BK.both {mb:Nat} (h:BK b sb mb lo w w') (r:Nat):vR b sb mb lo r w w':=
 ⟨h.1,h.2.1,h.2.2.1,h.2.2.2.1,fun k hk e1 e2 e3 _ e4=>h.2.2.2.2 k hk e1 e2 e3 e4⟩
theorem NP.both {mb r:Nat} (h:NP [r] w w'):vR b sb mb lo r w w':=
 ⟨h.os,h.tape,h.output,h.size,fun k hk e1 e2 e3 e5 _=>h.block k hk (by simpa using e5)⟩
section
variable {W0 w:World} {b sb mb lo r rlo:Nat} {d rd:DK}
theorem eK.kept0 (h:eK w r rlo rd) (k:NP [] w w'):eK w' r rlo rd:=h.kept k (fun x hx=>by cases hx)
end
end
section
open Go.Proofs.Tryz Go.RowKit
variable {w:World} {b:Nat} {t:TypeId}
def NT:Nat->Nat->List UInt8
 |_,0=>[]
 |n,k+1=>UInt8.ofNat n::NT (n/256) k
theorem ak (n k:Nat):(NT n k).length=k:=by
 induction k generalizing n with
 |zero=>rfl
 |succ k ih=>simp[NT,ih]
theorem CT (n k:Nat):NT n (k+1)=NT n k++[UInt8.ofNat (n/256^k)]:=by
 induction k generalizing n with
 |zero=>simp[NT]
 |succ k ih=>
  rw[NT,ih (n/256),NT,Nat.div_div_eq_div_mul,Nat.pow_succ,Nat.mul_comm 256]
  rfl
def fk (l:List UInt8):Array Value:=(l.map fun b=>Value.int .u8 (b.toNat:Int)).toArray
theorem qW (l:List UInt8):(fk l).size=l.length:=by simp[fk]
theorem BE (l:List UInt8) (i:Nat) (c:UInt8):(fk l).setIfInBounds i (.int .u8 (c.toNat:Int))=fk (l.set i c):=by
 apply Array.toList_inj.1
 simp[fk]
theorem uS {l:List UInt8} (h:ae w b (fk l) t):Lib.Bytes w b 0 (bs l):=by
 intro i hi
 rw[NQ]at hi
 rw[Nat.zero_add,h.cell i (by rw[qW];exact hi)]
 simp only[fk,List.getElem_toArray,Ny]
 rfl
theorem Fg {n k i:Nat} (ho:ae w b (fk (NT n i++List.replicate (k-i) 0)) t) (NV:i<k):
  ae (w.setCell (aa b i) (.int .u8 ((n:Int)/2^(8*i)%256))) b (fk (NT n (i+1)++List.replicate (k-(i+1)) 0)) t:=by
 have h:=ho.set i (.int .u8 ((UInt8.ofNat (n/256^i)).toNat:Int))
 rw[BE]at h
 have e1:((UInt8.ofNat (n/256^i)).toNat:Int)=(n:Int)/2^(8*i)%256:=by
  rw[UInt8.toNat_ofNat']
  have:(2:Nat)^(8*i)=256^i:=by rw[Nat.pow_mul]
  rw[<-this]
  simp
 have e2:(NT n i++List.replicate (k-i) 0).set i (UInt8.ofNat (n/256^i))=NT n (i+1)++List.replicate (k-(i+1)) 0:=by
  obtain⟨d,hd⟩:∃d,k-i=d+1:=⟨k-i-1,_a⟩
  have hd':k-(i+1)=d:=_a
  rw[hd,hd',List.replicate_succ,CT,List.set_append_right _ _ (by rw[ak];exact MG _),ak,Nat.sub_self]
  simp
 rw[e1,e2]at h
 exact h
theorem qm (n k:Nat) (w:World) (_:n<2^64) (hk:k<=8):
  am! 173 #[.int .u64 n,(k:Int)] w fun e w'=>e=.returned (.string (bs (NT n k)))/\NP [] w w':=by
 have hi:(prog.info? 5).map (fun i=>(i.zero,i.size,i.bytes))=some (some (.int .u8 0),1,1):=_c
 have⟨i0,hi0,Rh,Qc,Qx⟩:=info_parts hi
 have RO:∀w:World,(Instr.makeSlice 61 (k:Int) (k:Int)).run prog w=.ok (w.heap.size,k,k) (w.alloc (.cells (fk (List.replicate k 0)) 5)):=fun w=>by
  have h:=run_make (P:=prog) w 61 5 i0 (.int .u8 0) underlying61 hi0 Rh .i64 .i64 k k _a _a (by rw[Qx];omega) _a
  rw[h,Qc]
  congr 3
  apply Array.toList_inj.1
  simp[fk,Value.cells,toList_madeCells_one]
 go_enter func173,ntmps173
 go_wp2_with fail
 go_loopw [11] (fun x wr=>∃i:Nat,i<=k/\x=(i:Int)/\ae wr w (fk (NT n i++List.replicate (k-i) 0)) 5/\NP [] w wr) (fun x _=>k-(intOf x).toNat)
 case atStart=>exact⟨0,Nb _,rfl,ae.new _ _ _,(NP.refl _ _).alloc _⟩
 case round=>
  obtain⟨i,hik,rfl,ho,hkp⟩:=hrel
  by_cases NV:i<k
  .have c0:∃v,wr.cell? (aa w i)=some v:=⟨_,ho.cell i (by rw[qW];simp[ak];omega)⟩
   have⟨v,c0⟩:=c0
   have z0:=ho.free i
   go_wp2_with fail
   go_roundw
   case rel=>exact⟨i+1,_a,_j,Fg ho NV,hkp.setCell (Or.inr (MG _)) _⟩
   case measure=>simp[intOf];omega
  .obtain rfl:i=k:=_a
   have hb:=uS ho
   have e:NT n i++List.replicate (i-i) 0=NT n i:=by rw[Nat.sub_self];simp
   rw[e]at hb
   have Tk:=Lib.run_convert_whole (P:=prog) wr 61 5 9 underlying61 underlying5 underlying9 _ _ _ hb i
   rw[NQ,ak]at Tk
   go_wp2_with fail
   go_ret
   exact⟨rfl,hkp⟩
theorem mL (n:Nat) (w:World) (hn:n<256):
  am! 174 #[.int .u8 n] w fun e w'=>e=.returned (.string (bs (NT n 1)))/\NP [] w w':=by
 have h:∀w,am! 173 #[.int .u64 n,(1:Int)] w fun e w'=>e=.returned (.string (bs (NT n 1)))/\NP [] w w':=fun w=>qm n 1 w _a _a
 go_enter func174,ntmps174
 go_wp2_with fail
 refine(h _).mono ?_;rintro e w1 ⟨rfl,hk⟩
 go_wp2_with fail
 go_ret
 exact⟨rfl,hk⟩
theorem mM (n:Nat) (w:World) (hn:n<65536):
  am! 100 #[.int .u16 n] w fun e w'=>e=.returned (.string (bs (NT n 2)))/\NP [] w w':=by
 have h:∀w,am! 173 #[.int .u64 n,(2:Int)] w fun e w'=>e=.returned (.string (bs (NT n 2)))/\NP [] w w':=fun w=>qm n 2 w _a _a
 go_enter func100,ntmps100
 go_wp2_with fail
 refine(h _).mono ?_;rintro e w1 ⟨rfl,hk⟩
 go_wp2_with fail
 go_ret
 exact⟨rfl,hk⟩
theorem eU (n:Nat) (w:World) (hn:n<4294967296):
  am! 102 #[(n,())] w fun e w'=>e=.returned (.string (bs (NT n 4)))/\NP [] w w':=by
 have h:∀w,am! 173 #[.int .u64 n,(4:Int)] w fun e w'=>e=.returned (.string (bs (NT n 4)))/\NP [] w w':=fun w=>qm n 4 w _a _a
 go_enter func102,ntmps102
 go_wp2_with fail
 refine(h _).mono ?_;rintro e w1 ⟨rfl,hk⟩
 go_wp2_with fail
 go_ret
 exact⟨rfl,hk⟩
theorem Hx (n:Nat) (w:World) (hn:n<18446744073709551616):
  am! 229 #[.int .u64 n] w fun e w'=>e=.returned (.string (bs (NT n 8)))/\NP [] w w':=by
 have h:∀w,am! 173 #[.int .u64 n,(8:Int)] w fun e w'=>e=.returned (.string (bs (NT n 8)))/\NP [] w w':=fun w=>qm n 8 w _a _a
 go_enter func229,ntmps229
 go_wp2_with fail
 refine(h _).mono ?_;rintro e w1 ⟨rfl,hk⟩
 go_wp2_with fail
 go_ret
 exact⟨rfl,hk⟩
def dj (l:List UInt8):List UInt8:=NT l.length 4++l
theorem tr (a:List UInt8) (s:ByteArray):bs a++s=bs (a++s.data.toList):=by
 apply ByteArray.ext;apply Array.toList_inj.1;simp[bs,ByteArray.data_append]
theorem iT (s:ByteArray):s.data.toList.length=s.size:=_b
theorem xl (s:ByteArray) (w:World) (hs:s.size<4294967296):
  am! 175 #[.string s] w fun e w'=>e=.returned (.string (bs (dj s.data.toList)))/\NP [] w w':=by
 have h:=fun w=>eU s.size w _a
 have hz:(bs (NT s.size 4)).size<=4:=_X
 have Oy:=tK (tr (NT s.size 4) s)
 go_enter func175,ntmps175
 go_wp2_with fail
 refine(h _).mono ?_;rintro e w1 ⟨rfl,hk⟩
 go_wp2_with fail
 go_ret
 refine⟨?_,hk⟩
 show Ending.returned (Value.string (bs (NT s.size 4)++s))=_
 rw[Oy.out,dj,iT]
def aP (w:World) (b:Nat) (l:List UInt8) (e:Int):Prop:=ae w b #[l,e] 290
theorem nz (s:ByteArray) (w:World):
  am! 188 #[.string s] w fun e w'=>e=.returned w.heap.size/\aP w' w s.data.toList 0/\NP [] w w':=by
 go_enter func188,ntmps188
 go_wp2_with fail
 go_ret
 refine⟨rfl,?_,(NP.refl _ _).alloc _⟩
 have h:=ae.new w #[.string s,(0:Int)] 290
 unfold aP
 rw[nW]
 exact h
def PD (e x:Int):Int:=if x=0 then e else x
theorem jf (e:Int):PD e 0=e:=rfl
theorem s8 {e x:Int} (h:x≠0):PD e x=x:=if_neg h
theorem xm (b:Nat) (l:List UInt8) (x e:Int) (w:World) (hR:aP w b l x):
  am! 242 #[b,e] w fun r w'=>r=.returned (.tuple #[])/\aP w' b [] (PD e x)/\NP [b] w w':=by
 have c0:w.cell? b=l:=ae.cell hR 0 _b
 have c1:w.cell? (aa b 1)=x:=ae.cell hR 1 _b
 have z0:=ae.free hR 0
 have z1:=ae.free hR 1
 by_cases hx:x=0
 .subst hx
  rw[jf]
  go_enter func242,ntmps242
  go_wp2_with fail
  go_end0
  refine⟨rfl,?_,((NP.refl _ _).setCell (Or.inl _b) _).setCell (Or.inl _b) _⟩
  have h2:=(ae.set hR 0 (.string {data:=#[]})).set 1 e
  unfold aP
  simpa[bs]using h2
 .have hd:(x==0)=false:=_h
  rw[s8 hx]
  go_enter func242,ntmps242
  go_wp2_with fail
  go_end0
  refine⟨rfl,?_,(NP.refl _ _).setCell (Or.inl _b) _⟩
  have h2:=ae.set hR 0 (.string {data:=#[]})
  unfold aP
  simpa[bs]using h2
def Ol (n:Int) (l:List UInt8) (x:Int):List UInt8×List UInt8×Int:=
 if x≠0 then([],l,x)else if n<0 then([],[],1)else if(l.length:Int)<n then([],[],10)else(l.take n.toNat,l.drop n.toNat,0)
theorem ny (b:Nat) (l:List UInt8) (x n:Int) (w:World) (hR:aP w b l x):
  am! 189 #[b,n] w fun r w'=>r=.returned (.string (bs (Ol n l x).1))/\aP w' b (Ol n l x).2.1 (Ol n l x).2.2/\NP [b] w w':=by
 have c0:w.cell? b=l:=ae.cell hR 0 _b
 have c1:w.cell? (aa b 1)=x:=ae.cell hR 1 _b
 have z0:=ae.free hR 0
 have z1:=ae.free hR 1
 by_cases hx:x=0
 .have hf:=fun e=>xm b l x e w hR
  subst hx
  simp only[jf]at hf
  by_cases hn:n<0
  .have ht:Ol n l 0=([],[],1):=by simp[Ol,hn]
   rw[ht]
   clear ht
   go_enter func189,ntmps189
   go_wp2_with fail
   refine(hf 1).mono ?_;rintro e w1 ⟨rfl,hR1,hk⟩
   go_wp2_with fail
   go_ret
   exact⟨rfl,hR1,hk⟩
  .have Wx:0<=n:=_a
   have PW:((bs l).size:Int)=l.length:=ak!
   by_cases hl:(l.length:Int)<n
   .have ht:Ol n l 0=([],[],10):=by simp[Ol,hn,hl]
    rw[ht]
    have Tg:((bs l).size:Int)<n:=by rw[PW];exact hl
    clear ht PW
    go_enter func189,ntmps189
    go_wp2_with fail
    refine(hf 10).mono ?_;rintro e w1 ⟨rfl,hR1,hk⟩
    go_wp2_with fail
    go_ret
    exact⟨rfl,hR1,hk⟩
   .have ht:Ol n l 0=(l.take n.toNat,l.drop n.toNat,0):=by simp[Ol,hn,hl]
    rw[ht]
    obtain⟨k,rfl⟩:=MM Wx
    have Tg:(k:Int)<=((bs l).size:Int):=by rw[PW];omega
    have Z4:k<=(bs l).size:=_a
    have e1:=tK (aY l 0 k)
    have e2:=tK (aY l k (bs l).size)
    clear ht PW hf
    go_enter func189,ntmps189
    go_wp2_with fail
    go_ret
    have e1':(bs l).extract 0 k=bs (l.take k):=by rw[e1.out];simp
    have e2':(bs l).extract k (bs l).size=bs (l.drop k):=by rw[e2.out,Nh (by rw[NQ];simp)]
    refine⟨?_,?_,(NP.refl _ _).setCell (Or.inl _b) _⟩
    .show Ending.returned (Value.string ((bs l).extract 0 k))=_
     rw[e1']
    .have h2:=ae.set hR 0 (.string ((bs l).extract k (bs l).size))
     unfold aP
     rw[e2']at h2 ⊢
     simpa using h2
 .have ht:Ol n l x=([],l,x):=by simp[Ol,hx]
  rw[ht]
  have hd:(x==0)=false:=_h
  have UH:(x != 0)=true:=_h
  clear ht
  go_enter func189,ntmps189
  go_wp2_with fail
  go_ret
  exact⟨rfl,hR,NP.refl _ _⟩
def RN:List UInt8->Nat
 |[]=>0
 |c::l=>c.toNat+256*RN l
theorem mO (l:List UInt8):RN l<256^l.length:=by
 induction l with
 |nil=>simp[RN]
 |cons c l ih=>
  have:=c.toNat_lt
  simp only[RN,Nj,Nat.pow_succ]
  omega
theorem FJ (l:List UInt8) (c:UInt8):RN (l++[c])=RN l+256^l.length*c.toNat:=by
 induction l with
 |nil=>simp[RN]
 |cons d l ih=>
  simp only[List.cons_append,RN,ih,Nj,Nat.pow_succ]
  rw[Nat.mul_add,<-Nat.mul_assoc,Nat.mul_comm 256 (256^l.length)];omega
theorem xA (n k:Nat):RN (NT n k)=n%256^k:=by
 induction k generalizing n with
 |zero=>simp[NT,RN,Nat.mod_one]
 |succ k ih=>
  have e:(UInt8.ofNat n).toNat=n%256:=by rw[UInt8.toNat_ofNat']
  simp only[NT,RN,ih]
  rw[e,Nat.pow_succ,Nat.mul_comm (256^k) 256,Nat.mod_mul]
def N6 (k:Nat) (l:List UInt8) (x:Int):Nat×List UInt8×Int:=(RN (Ol k l x).1,(Ol k l x).2)
theorem lZ (n:Int) (l:List UInt8) (x:Int):(Ol n l x).1.length<=n.toNat:=by
 unfold Ol;split
 .simp
 .split
  .simp
  .split
   .simp
   .simp;omega
theorem H6 (t:List UInt8) (j:Nat) (hj:j<t.length) (hl:t.length<=8) (hb:j<(bs t).size):
  bits .or .u64 (RN (t.take j)) (IntKind.u64.wrap (IntKind.u64.wrap ((bs t)[j].toNat:Int)*2^(8*j)))=(RN (t.take (j+1)):Int):=by
 have hc:(bs t)[j].toNat<256:=by have:=(bs t)[j].toNat_lt;omega
 have NV:=mO (t.take j)
 have hlj:(t.take j).length=j:=_e
 rw[hlj]at NV
 have hp:(256:Nat)^j=2^(8*j):=by rw[Nat.pow_mul]
 have hpj:(2:Nat)^(8*j)<=2^56:=Nat.pow_le_pow_right _d _a
 have hm:(bs t)[j].toNat*2^(8*j)<2^64:=by
  have:=Nat.mul_le_mul (Nat.le_of_lt_succ hc) hpj
  omega
 have hts:t.take (j+1)=t.take j++[t[j]]:=by rw[MI hj];rfl
 have hg:(bs t)[j]=t[j]:=rfl
 have w1:IntKind.u64.wrap ((bs t)[j].toNat:Int)=((bs t)[j].toNat:Int):=by simp[IntKind.wrap,IntKind.signed,IntKind.bits];omega
 have w2:IntKind.u64.wrap (((bs t)[j].toNat*2^(8*j):Nat):Int)=(((bs t)[j].toNat*2^(8*j):Nat):Int):=by
  have h:(((bs t)[j].toNat*2^(8*j):Nat):Int)<18446744073709551616:=_a
  have h0:(0:Int)<=(((bs t)[j].toNat*2^(8*j):Nat):Int):=_a
  generalize (((bs t)[j].toNat*2^(8*j):Nat):Int)=X at*
  simp[IntKind.wrap,IntKind.signed,IntKind.bits];omega
 have e:((bs t)[j].toNat:Int)*2^(8*j)=(((bs t)[j].toNat*2^(8*j):Nat):Int):=_b
 rw[w1,e,w2,bits_or_u64_nat _ _ _a _a]
 congr 1
 rw[hts,FJ,hlj,hp,Nat.or_comm,Nat.mul_comm (bs t)[j].toNat,<-Nat.two_pow_add_eq_or_of_lt _a,hg]
 omega
theorem je (b k:Nat) (l:List UInt8) (x:Int) (w:World) (hR:aP w b l x) (hk:k<=8):
  am! 243 #[b,(k:Int)] w fun r w'=>r=.returned (.int .u64 (N6 k l x).1)/\aP w' b (N6 k l x).2.1 (N6 k l x).2.2/\NP [b] w w':=by
 have ht:=ny b l x k w hR
 have UY:=lZ k l x
 unfold N6
 generalize Ol (k:Int) l x=t at*
 have hlen:t.1.length<=8:=_a
 have PW:((bs t.1).size:Int)=t.1.length:=ak!
 have aeM:(bs t.1).size=t.1.length:=ak!
 go_enter func243,ntmps243
 go_wp2_with fail
 refine ht.mono ?_;rintro e w1 ⟨rfl,hR1,OP⟩
 go_wp2_with fail
 go_loop [6,13] (fun v i=>∃j:Nat,j<=t.1.length/\i=(j:Int)/\v=.int .u64 (RN (t.1.take j))) (fun _ i=>t.1.length-(intOf i).toNat)
 case atStart=>exact⟨0,Nb _,rfl,rfl⟩
 case round=>
  obtain⟨j,hj,rfl,rfl⟩:=hrel
  by_cases NV:j<t.1.length
  .have Ox:=tK (H6 t.1 j NV hlen (by rw[NQ];exact NV))
   go_wp2_with fail
   go_round
   case rel=>exact⟨j+1,_a,_j,by rw[<-Ox.out]⟩
   case measure=>simp[intOf];omega
  .have Oy:=tK (show t.1.take j=t.1 from Nh _a)
   go_wp2_with fail
   go_ret
   exact⟨by show Ending.returned (Value.int .u64 (RN (t.1.take j)))=_;rw[Oy.out],hR1,OP⟩
theorem cp (k:Nat) (l:List UInt8) (x:Int):(N6 k l x).1<256^k:=by
 have h1:=mO (Ol k l x).1
 have h2:=lZ k l x
 have h3:(256:Nat)^(Ol k l x).1.length<=256^k:=Nat.pow_le_pow_right _d _a
 show RN _<_
 omega
theorem Me (b:Nat) (l:List UInt8) (x:Int) (w:World) (hR:aP w b l x):
  am! 281 #[b] w fun r w'=>r=.returned (.int .u8 (N6 1 l x).1)/\aP w' b (N6 1 l x).2.1 (N6 1 l x).2.2/\NP [b] w w':=by
 have hn:am! 243 #[b,(1:Int)] w fun r w'=>r=.returned (.int .u64 (N6 1 l x).1)/\aP w' b (N6 1 l x).2.1 (N6 1 l x).2.2/\NP [b] w w':=je b 1 l x w hR _a
 have hb:=cp 1 l x
 have UR:((N6 1 l x).1:Int)<256:=_a
 clear hb
 generalize N6 1 l x=u at*
 go_enter func281,ntmps281
 go_wp2_with fail
 refine hn.mono ?_;rintro e w1 ⟨rfl,hR1,OP⟩
 go_wp2_with fail
 go_ret
 exact⟨rfl,hR1,OP⟩
theorem sJ (b:Nat) (l:List UInt8) (x:Int) (w:World) (hR:aP w b l x):
  am! 244 #[b] w fun r w'=>r=.returned (.int .u16 (N6 2 l x).1)/\aP w' b (N6 2 l x).2.1 (N6 2 l x).2.2/\NP [b] w w':=by
 have hn:am! 243 #[b,(2:Int)] w fun r w'=>r=.returned (.int .u64 (N6 2 l x).1)/\aP w' b (N6 2 l x).2.1 (N6 2 l x).2.2/\NP [b] w w':=je b 2 l x w hR _a
 have hb:=cp 2 l x
 have UR:((N6 2 l x).1:Int)<65536:=_a
 clear hb
 generalize N6 2 l x=u at*
 go_enter func244,ntmps244
 go_wp2_with fail
 refine hn.mono ?_;rintro e w1 ⟨rfl,hR1,OP⟩
 go_wp2_with fail
 go_ret
 exact⟨rfl,hR1,OP⟩
theorem np (b:Nat) (l:List UInt8) (x:Int) (w:World) (hR:aP w b l x):
  am! 195 #[b] w fun r w'=>r=.returned (.int .u32 (N6 4 l x).1)/\aP w' b (N6 4 l x).2.1 (N6 4 l x).2.2/\NP [b] w w':=by
 have hn:am! 243 #[b,(4:Int)] w fun r w'=>r=.returned (.int .u64 (N6 4 l x).1)/\aP w' b (N6 4 l x).2.1 (N6 4 l x).2.2/\NP [b] w w':=je b 4 l x w hR _a
 have hb:=cp 4 l x
 have UR:((N6 4 l x).1:Int)<4294967296:=_a
 clear hb
 generalize N6 4 l x=u at*
 go_enter func195,ntmps195
 go_wp2_with fail
 refine hn.mono ?_;rintro e w1 ⟨rfl,hR1,OP⟩
 go_wp2_with fail
 go_ret
 exact⟨rfl,hR1,OP⟩
theorem KO (b:Nat) (l:List UInt8) (x:Int) (w:World) (hR:aP w b l x):
  am! 190 #[b] w fun r w'=>r=.returned (.int .u64 (N6 8 l x).1)/\aP w' b (N6 8 l x).2.1 (N6 8 l x).2.2/\NP [b] w w':=by
 have hn:am! 243 #[b,(8:Int)] w fun r w'=>r=.returned (.int .u64 (N6 8 l x).1)/\aP w' b (N6 8 l x).2.1 (N6 8 l x).2.2/\NP [b] w w':=je b 8 l x w hR _a
 have hb:=cp 8 l x
 have UR:((N6 8 l x).1:Int)<18446744073709551616:=_a
 clear hb
 generalize N6 8 l x=u at*
 go_enter func190,ntmps190
 go_wp2_with fail
 refine hn.mono ?_;rintro e w1 ⟨rfl,hR1,OP⟩
 go_wp2_with fail
 go_ret
 exact⟨rfl,hR1,OP⟩
def PN (most:Nat) (l:List UInt8) (x:Int):Nat×List UInt8×Int:=
 let u:=N6 4 l x
 if most<u.1 then(0,[],PD 2 u.2.2)else u
theorem EE (b most:Nat) (l:List UInt8) (x:Int) (w:World) (hR:aP w b l x) (hm:most<1000000000):
  am! 299 #[b,(most:Int)] w fun r w'=>r=.returned (.int .i64 (PN most l x).1)/\aP w' b (PN most l x).2.1 (PN most l x).2.2/\NP [b] w w':=by
 have hn:am! 243 #[b,(4:Int)] w fun r w'=>r=.returned (.int .u64 (N6 4 l x).1)/\aP w' b (N6 4 l x).2.1 (N6 4 l x).2.2/\NP [b] w w':=je b 4 l x w hR _a
 have hb:=cp 4 l x
 unfold PN
 generalize N6 4 l x=u at*
 by_cases NV:most<u.1
 .rw[if_pos NV]
  go_enter func299,ntmps299
  go_wp2_with fail
  refine hn.mono ?_;rintro e w1 ⟨rfl,hR1,OP⟩
  go_wp2_with fail
  refine(xm b u.2.1 u.2.2 2 _ hR1).mono ?_;rintro e w2 ⟨rfl,Qn,PY⟩
  go_wp2_with fail
  go_ret
  exact⟨rfl,Qn,OP.trans PY⟩
 .rw[if_neg NV]
  go_enter func299,ntmps299
  go_wp2_with fail
  refine hn.mono ?_;rintro e w1 ⟨rfl,hR1,OP⟩
  go_wp2_with fail
  go_ret
  exact⟨rfl,hR1,OP⟩
def dY (l:List UInt8) (x:Int):List UInt8×List UInt8×Int:=
 let u:=PN 65536 l x
 Ol u.1 u.2.1 u.2.2
theorem Js (b:Nat) (l:List UInt8) (x:Int) (w:World) (hR:aP w b l x):
  am! 282 #[b] w fun r w'=>r=.returned (.string (bs (dY l x).1))/\aP w' b (dY l x).2.1 (dY l x).2.2/\NP [b] w w':=by
 have hn:am! 299 #[b,(65536:Int)] w fun r w'=>r=.returned (.int .i64 (PN 65536 l x).1)/\aP w' b (PN 65536 l x).2.1 (PN 65536 l x).2.2/\NP [b] w w':=EE b 65536 l x w hR _a
 unfold dY
 generalize PN 65536 l x=u at*
 go_enter func282,ntmps282
 go_wp2_with fail
 refine hn.mono ?_;rintro e w1 ⟨rfl,hR1,OP⟩
 go_wp2_with fail
 refine(ny b u.2.1 u.2.2 u.1 _ hR1).mono ?_;rintro e w2 ⟨rfl,Qn,PY⟩
 go_wp2_with fail
 go_ret
 exact⟨rfl,Qn,OP.trans PY⟩
theorem Ct (b:Nat) (l:List UInt8) (x:Int) (w:World) (hR:aP w b l x):
  am! 194 #[b] w fun r w'=>r=(l.length:Int)/\w=w':=by
 have c0:w.cell? b=l:=ae.cell hR 0 _b
 have hz:=NQ l
 go_enter func194,ntmps194
 go_wp2_with fail
 go_ret
 exact⟨rfl,rfl⟩
theorem AA (b:Nat) (l:List UInt8) (x:Int) (w:World) (hR:aP w b l x):
  am! 197 #[b] w fun r w'=>r=x/\w=w':=by
 have c1:w.cell? (aa b 1)=x:=ae.cell hR 1 _b
 go_enter func197,ntmps197
 go_wp2_with fail
 go_ret
 exact⟨rfl,rfl⟩
def fM (l:List UInt8) (x:Int):Int:=if x=0/\l≠[]then 7 else x
theorem adx {A:Prop}(h:A:=by
 go_wp2_with fail
 refine h1.mono ?_;rintro e w1 ⟨rfl,rfl⟩
 go_wp2_with fail
 go_ret
 exact⟨rfl,rfl⟩):A:=h
theorem KP (b:Nat) (l:List UInt8) (x:Int) (w:World) (hR:aP w b l x):
  am! 248 #[b] w fun r w'=>r=(fM l x:Int)/\w=w':=by
 have h1:=AA b l x w hR
 have h2:=Ct b l x w hR
 by_cases hx:x=0
 .subst hx
  by_cases hl:l=[]
  .subst hl
   have he:fM [] 0=0:=by simp[fM]
   rw[he]
   simp only[List.length_nil]at h2
   clear he
   go_enter func248,ntmps248
   go_wp2_with fail
   refine h1.mono ?_;rintro e w1 ⟨rfl,rfl⟩
   go_wp2_with fail
   refine h2.mono ?_;rintro e w1 ⟨rfl,rfl⟩
   exact adx
  .have he:fM l 0=7:=by simp[fM,hl]
   have YA:0<l.length:=Nu.2 hl
   rw[he]
   clear he hl
   go_enter func248,ntmps248
   go_wp2_with fail
   refine h1.mono ?_;rintro e w1 ⟨rfl,rfl⟩
   go_wp2_with fail
   refine h2.mono ?_;rintro e w1 ⟨rfl,rfl⟩
   go_wp2_with fail
   go_ret
   exact⟨rfl,rfl⟩
 .have he:fM l x=x:=by simp[fM,hx]
  have hd:(x==0)=false:=_h
  rw[he]
  clear he
  go_enter func248,ntmps248
  go_wp2_with fail
  refine h1.mono ?_;rintro e w1 ⟨rfl,rfl⟩
  exact adx
def Pg (l:List UInt8) (n:Int):List UInt8:=l++List.replicate (n-l.length).toNat 0
theorem yt (k:Nat):Lib.repeatL [0] k=List.replicate k 0:=by
 induction k with
 |zero=>rfl
 |succ k ih=>rw[Lib.repeatL,ih];rfl
theorem lz (s:ByteArray) (n:Int) (w:World) (hs:s.size<=1000000) (hn:n<=1000000):
  am! 106 #[.string s,n] w fun e w'=>e=.returned (.string (bs (Pg s.data.toList n)))/\NP [] w w':=by
 by_cases hle:n<=s.size
 .have e:Pg s.data.toList n=s.data.toList:=by
   unfold Pg;rw[iT,show(n-(s.size:Int)).toNat=0 from by omega];simp
  rw[e,nW]
  clear e
  go_enter func106,ntmps106
  go_wp2_with fail
  go_ret
  exact⟨rfl,NP.refl _ _⟩
 .obtain⟨d,hd⟩:∃d:Nat,n-(s.size:Int)=d:=⟨(n-s.size).toNat,_a⟩
  have e:Pg s.data.toList n=s.data.toList++List.replicate d 0:=by
   unfold Pg;rw[iT,show(n-(s.size:Int)).toNat=d from by omega]
  have Z2:∀w,am! 34 #[.string {data:=#[0]},(d:Int)] w fun e w'=>e=.returned (.string (bs (List.replicate d 0)))/\Below w.heap.size w w':=fun w=>by
   have h:=strings_Repeat {data:=#[0]} d w _a (by show 1*d<=_;omega)
   have e:(⟨(Lib.repeatL (ByteArray.mk #[0]).data.toList d).toArray⟩:ByteArray)=bs (List.replicate d 0):=by
    show bs (Lib.repeatL [0] d)=_
    rw[yt]
   rw[e]at h
   exact h
  have hz:(bs (List.replicate d 0)).size<=1000000:=by rw[NQ];simp;omega
  have Oy:Hid (s++bs (List.replicate d 0)=bs (s.data.toList++List.replicate d 0)):=by
   show s++bs (List.replicate d 0)=_
   rw[<-aw,nW]
  rw[e]
  have NV:(s.size:Int)<n:=_a
  clear e hle
  go_enter func106,ntmps106
  go_wp2_with fail
  refine(Z2 _).mono ?_;rintro e w1 ⟨rfl,hb⟩
  go_wp2_with fail
  go_ret
  exact⟨by show Ending.returned (Value.string (s++bs (List.replicate d 0)))=_;rw[Oy.out],NP.xp hb⟩
end
open Go.Proofs.Tryz Go.ChangeShapes Go.WideShapes Go.ChangeAt Go.RowKit Go.Deep
variable {d:DK} {w:World} {r lo hi:Nat} {v:Value} {l:List UInt8}
theorem Bd {l:List (Nat×List UInt8)} {i:Nat} {s:List UInt8} (h:eJ l i=some s):(i,s)∈l:=by
 suffices ∀(l m:List (Nat×List UInt8)),m++l=m++l->∀n,n<=l.length->eJ (l.take n) i=some s->(i,s)∈l by
  exact this l [] rfl l.length (MG _) (by rwa[MU])
 intro l m _ n
 induction n with
 |zero=>intro _ h;rw[List.take_zero,sZ]at h;cases h
 |succ n ih=>
  intro hn h
  rw[MI _a,iH]at h
  split at h
  .rename_i he
   injection h with h
   have:l[n]=(i,s):=Prod.ext he h
   rw[<-this];exact MJ _
  .exact ih _a h
theorem gj (hf:dS d) {i:Nat} (hi:i<d.stand.length):(seen d i).length=128:=by
 unfold seen
 cases h:eJ d.waits i with
 |some s=>exact(hf.fine _ (Bd h)).2
 |none=>
  show(d.stand.getD i []).length=128
  rw[Nx,MZ hi]
  exact hf.all _ (MJ hi)
structure r7 (Inv:DK->World->Prop) (b:Nat):Prop where
 len:∀{d w},Inv d w->1<=d.stand.length/\d.stand.length<=8192
 fit:∀{d w},Inv d w->dS d
 keep:∀{d w w'},Inv d w->NP [] w w'->Inv d w'
 lenC:∀{d w},Inv d w->am! 36 #[b] w fun e w'=>e=.returned (.int .i64 d.stand.length)/\w=w'
 downC:∀{d w},Inv d w->am! 61 #[b] w fun e w'=>e=.returned (.bool d.down)/\w=w'
 readC:∀{d w} (i:Int),Inv d w->am! 62 #[b,i] w fun e w'=>e=.returned (.tuple #[.string (bs (Pc d i)),(OM d i:Int)])/\w=w'
 writeC:∀{d w} (i:Int) (s:List UInt8),Inv d w->d.ops<100000->d.waits.length<=10000->am! 88 #[b,i,s] w fun e w'=>e=(OW d i s:Int)/\Inv (OJ d i s) w'
theorem fy (d:DK) (i:Int) (s:List UInt8):(OJ d i s).ops<=d.ops+1/\(OJ d i s).waits.length<=d.waits.length+1/\(OJ d i s).stand.length=d.stand.length:=by
 unfold OJ
 split
 .unfold cW;simp
 .simp
def aC (s:List UInt8):List UInt8:=Pg (s.take 128) 128
theorem mi (s:List UInt8):(aC s).length=128:=by
 unfold aC Pg
 have:(s.take 128).length<=128:=List.length_take_le _ _
 rw[tN,Np];omega
structure Gp (Inv:DK->World->Prop) (r:Nat):Prop where
 len:∀{d w},Inv d w->1<=d.stand.length/\d.stand.length<=8192
 fit:∀{d w},Inv d w->dS d
 keep:∀{d w w'},Inv d w->NP [] w w'->Inv d w'
 down:∀{d w},Inv d w->w.cell? (aa r 4)=some (.bool d.down)
 readC:∀{d w} (i:Int),Inv d w->am! 128 #[r,i] w fun e w'=>e=.returned (.tuple #[.string (bs (Pc d i)),(OM d i:Int)])/\w=w'
 writeC:∀{d w} (i:Int) (s:List UInt8),Inv d w->d.ops<100000->d.waits.length<20000->am! 140 #[r,i,s] w fun e w'=>e=(OW d i s:Int)/\Inv (OJ d i s) w'
theorem eK.Lt (h:eK w r lo d):w.cell? (aa r 4)=some (.bool d.down):=by
 have⟨p,c,p',c',_,_,_,_,c4,_⟩:=h.mz
 exact c4
theorem eK.lens (h:eK w r lo d):1<=d.stand.length/\d.stand.length<=8192:=by
 have⟨sv,wv,o,hs,hw,h1,h2,h3,h4,_⟩:=h
 exact⟨h3,h4⟩
theorem Hf (st:List (List UInt8)) (ws:List (Nat×List UInt8)) (n i:Nat) (hn:n<=ws.length) (hi:i<st.length):(sk st ws (fun _=>true) n).getD i []=(eJ (ws.take n) i).getD (st.getD i []):=by
 induction n with
 |zero=>rfl
 |succ n ih=>
  rw[tP _ _ _ _ _a,if_pos rfl,MI _a,iH]
  by_cases h:ws[n].1=i
  .rw[if_pos h]
   subst h
   rw[Nx,List.getElem?_set_self (by rw[su];exact hi)]
   rfl
  .rw[if_neg h,<-ih _a,Nx,List.getElem?_set_ne h,<-Nx]
theorem yi (d:DK) (i:Nat) (hi:i<d.stand.length):seen (kX d (fun _=>true)) i=seen d i:=by
 have:=Hf d.stand d.waits d.waits.length i (MG _) hi
 rw[MU]at this
 unfold seen
 exact this
theorem jc (d:DK) (a i:Nat) (s:List UInt8):seen (cW d a s) i=if a=i then s else seen d i:=by
 unfold seen cW
 simp only[iH]
 split<;>rfl
theorem sx (d:DK) (k:Nat->Bool):(kX d k).stand.length=d.stand.length:=su _ _ _ _
def mS:Nat->List UInt8->List UInt8
 |0,_=>[]
 |m+1,W=>aC W++mS m (W.drop 128)
theorem tl (W:List UInt8):∃z,aC W=W.take 128++z:=⟨_,rfl⟩
theorem xM (m:Nat) (W:List UInt8) (h:W.length<=128*m):(mS m W).take W.length=W:=by
 induction m generalizing W with
 |zero=>
  have:W=[]:=Nc _a
  subst this;rfl
 |succ m ih=>
  rw[mS]
  by_cases hs:W.length<=128
  .have⟨z,hz⟩:=tl W
   rw[hz,Nh hs,MW,NC (MG _),MU]
  .have e:=ih (W.drop 128) _z
   rw[MQ]at e
   have hc:aC W=W.take 128:=by
    have⟨z,hz⟩:=tl W
    have hl:=mi W
    rw[hz,tN,MO]at hl
    have:z=[]:=Nc _a
    rw[hz,this,NO]
   rw[hc,List.take_append,MO,Nat.min_eq_left _a,e,Nh _w,List.take_append_drop]
theorem vW {a:Nat} {s:List UInt8} (hd:d.down=false) (Xr:d.fuse<0) (ha:a<d.stand.length):OW d a (aC s)=0/\OJ d a (aC s)=cW d a (aC s):=by
 have Rm:OM d (a:Int)=0:=by
  unfold OM
  rw[hd,if_neg _b,if_neg _a]
 refine⟨?_,?_⟩
 .unfold OW
  rw[Rm,mi,if_neg _b,if_neg _b,if_neg _a]
 .unfold OJ
  rw[if_pos ⟨Rm,mi s⟩,Nw]
def jJ (w:World) (v:Value) (l:List UInt8) (lo hi:Nat):Prop:=
 (l=[]/\∃a c,v=.slice a 0 c)\/
 ∃b off c,v=.slice (some ⟨b,off,none⟩) l.length c/\(∀i (h:i<l.length),w.cell? ⟨b,off+i,none⟩=some (.int .u8 (l[i].toNat:Int)))/\lo<=b/\b<hi/\hi<=w.heap.size/\l≠[]/\l.length<=c/\c<=maxLen
theorem jJ.shape (h:jJ w v l lo hi):∃p c,v=.slice p l.length c:=by
 exact M69
theorem jJ.len (h:jJ w v l lo hi):l.length<=maxLen:=by
 exact adJ
section
variable {H:Type} {enc:TypeId×Value->H} {w:World} {base:Nat} {held:Bool} {r:Reach} {b0:Nat}
theorem vK {fuel:Nat} {c:Value} {x:DataW H×List MemPlace} (h:DataW.trod enc prog w base (fun _=>true) held fuel 61 [c]=some x):∃l,jJ w c l 0 w:=by
 rcases open_ints underlying61 underlying5 _c h with⟨Sk,_⟩|⟨x,l,c,ss,Sk,_,hl,hm,hz,_,Ou,hwz⟩
 .simp at Sk
  subst Sk
  exact⟨[],Or.inl ⟨rfl,_,_,rfl⟩⟩
 .simp at Sk
  subst Sk
  simp only[if_true]at hz
  by_cases h0:l=0
  .subst h0;exact⟨[],Or.inl ⟨rfl,_,_,rfl⟩⟩
  .have⟨b,off,spot⟩:=x
   have ade:spot=none:=by simpa[Addr.add]using World.cell?_spot (Ou 0 _a)
   subst ade
   have hb:b<w.heap.size:=by
    have:=Ou 0 _a
    rw[Ni]at this
    exact World.block_lt_of_cell? _ _ this
   refine⟨(List.range l).map fun i=>UInt8.ofNat (ss.getD i 0).toNat,Or.inr ⟨b,off,c,_b,fun i hi=>?_,Nb _,hb,MG _,fun e=>?_,ae!,hm⟩⟩
   .have hi':i<l:=_D
    have hc:=Ou i _a
    rw[Ni]at hc
    rw[hc]
    have PX:i<ss.length:=_a
    have hw:=hwz _ (MJ PX)
    have hg:ss.getD i 0=ss[i]:=by simp[List.getD,MZ PX]
    have h8:0<=ss[i]/\ss[i]<=255:=by
     simp only[Lit.wf,No,decide_eq_true_eq]at hw
     exact⟨by have:=hw.1;exact this,by have:=hw.2;exact this⟩
    simp only[Ny,List.getElem_range]
    rw[UInt8.toNat_ofNat',hg]
    have e:((ss[i].toNat%256:Nat):Int)=ss[i]:=_a
    simp only[show 2^8=256 from rfl,e]
   .have:=congrArg List.length e
    simp at this;omega
end

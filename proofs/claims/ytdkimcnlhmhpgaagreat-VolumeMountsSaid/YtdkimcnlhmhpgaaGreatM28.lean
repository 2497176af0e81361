/- -/
import Derived.Test.YtdkimcnlhmhpgaaGreatM27
set_option maxHeartbeats 32000000
set_option maxRecDepth 100000
namespace Go.Proofs.YtdkimcnlhmhpgaaGreat
open Go.Proofs.Tryz Go.RowKit
variable {T:List Nat} {w w':World} {B b sb lo:Nat} {v:VS} {S:Nat->Prop} {l:List NS} {x:NS}
theorem BZ {mb:Nat} (h:aL T w B b sb mb lo v):am! 42 #[B] w fun e w'=>e=(if v.dead=true then 90 else 0:Int)/\w=w':=by
 have⟨sv,vb,vm,vn,o,_,_⟩:=h.vol
 have⟨x0,x1,x2,x3,x4,x5,x6,x7,x8,x9,x10,x11,x12⟩:=o.ku
 clear h o
 cases hd:v.dead
 .rw[hd]at x12
  clear x1 x2 x3 x4 x5 x6 x7 x8 x9 x10 x11
  rw[if_neg _b]
  go_enter func42,ntmps42
  go_wp2_with fail
  go_ret
  exact⟨rfl,rfl⟩
 .rw[hd]at x12
  clear x1 x2 x3 x4 x5 x6 x7 x8 x9 x10 x11
  rw[if_pos rfl]
  go_enter func42,ntmps42
  go_wp2_with fail
  go_ret
  exact⟨rfl,rfl⟩
theorem M19 {A:Prop}(h:A:=by
 have HS:Hid (∀x,x=(v.dead||c==90)->aL T (w.setCell (aa B 12) (.bool x)) B b sb mb lo (Qk (v,c)).1):=tK (by
  rintro x rfl
  have⟨sv,vb,vm,vn,o,hr,Oz⟩:=h.vol
  exact h.Em ((NP.refl [B] w).setCell (p:=(aa B 12)) (Or.inl _b) _) (o.LZ _) hr Oz)
 have⟨sv,vb,vm,vn,o,_,_⟩:=h.vol
 have⟨x0,x1,x2,x3,x4,x5,x6,x7,x8,x9,x10,x11,x12⟩:=o.ku
 have z12:=o.free 12
 clear h o x0 x1 x2 x3 x4 x5 x6 x7 x8 x9 x10 x11
 generalize hb90:(c==90)=q at*
 generalize Qk (v,c)=R at*
 generalize v.dead=dd at*
 have k1:NP [B] w (w.setCell (aa B 12) (.bool (dd||q))):=(NP.refl [B] w).setCell (p:=(aa B 12)) (Or.inl _b) _
 have K1:=tK k1
 clear k1
 cases dd<;>cases q
 all_goals
  go_enter func51,ntmps51
  go_wp2_with fail
  go_ret
  exact⟨rfl,HS.out _ rfl,K1.out⟩):A:=h
theorem Kr {mb:Nat} (h:aL T w B b sb mb lo v) (c:Int) (_:(Lit.int .i64 c).wf=true):am! 51 #[B,c] w fun e w'=>e=c/\aL T w' B b sb mb lo (Qk (v,c)).1/\NP [B] w w':=by
 exact M19
theorem wg (k:Int) (w:World):am! 47 #[k] w fun e w'=>e=.returned (.bool (Oj k))/\w=w':=by
 unfold Oj
 cases h1:(k==1)<;>cases h2:(k==2)<;>cases h3:(k==3)
 all_goals
  go_enter func47,ntmps47
  go_wp2_with fail
  go_ret
  exact⟨rfl,rfl⟩
def VC.cells (x:VC):Array Value:=#[x.kind,(x.id,()),x.name,x.bytes]
theorem Kw {T S:List Nat} (fs:List (VS->VS×Int)) (us:List (Nat×Array Value×Array Value)) (hl:us.length=fs.length) (g off c:Nat) {w:World} {B b sb mb lo:Nat} {v:VS} (hV:aL T w B b sb mb lo v) (hn:us.length<=1000)
  (hen:∀(i:Nat) (h:i<us.length),Enters prog us[i].1)
  (Ou:∀W,PK S b sb mb w W->∀(i:Nat) (h:i<us.length),W.cell? (aa g (off+i))=some (.func (.func us[i].1) us[i].2.1 us[i].2.2))
  (Ox:∀(k:Nat) (h:k<us.length) W,aL T W B b sb mb lo (kr fs v k)->PK S b sb mb w W->(∀i (hi:i<k),((fs[i]' _a) (kr fs v i)).2=0)->am! us[k].1 (us[k].2.1++us[k].2.2) W fun e W'=>e=.returned (.int .i64 ((fs[k]'(hl▸h)) (kr fs v k)).2)/\aL T W' B b sb mb lo ((fs[k]'(hl▸h)) (kr fs v k)).1/\PK S b sb mb W W'):
  am! 37 #[.slice (some (aa g off)) us.length c] w fun e w'=>e=.returned (.int .i64 (OH fs v).2)/\aL T w' B b sb mb lo (OH fs v).1/\PK S b sb mb w w':=by
 refine(Jc us (fun k=>if h:k<fs.length then(fs[k] (kr fs v k)).2 else 0) (fun k W=>aL T W B b sb mb lo (kr fs v k)/\PK S b sb mb w W) g off c w hn hen ⟨hV,PK.refl _ _ _ _ _⟩ (fun k W hI i h=>Ou W hI.2 i h) (fun k h W hI hz=>?_)).mono ?_
 .have hk:k<fs.length:=hl▸h
  refine(Ox k h W hI.1 hI.2 (fun i hi=>?_)).mono ?_
  .have:=hz i hi
   rw[dif_pos _a]at this
   exact this
  .rintro e W' ⟨h1,h2,h3⟩
   rw[dif_pos hk,q8 fs v k hk]
   exact⟨h1,h2,hI.2.trans h3⟩
 .rintro e w' (⟨k,h1,h2,h3,h4,h5,h6⟩|⟨h2,h4,h5,h6⟩)
  .have hk:k<fs.length:=hl▸h1
   rw[dif_pos hk]at h3 h4
   rw[q8 fs v k hk]at h5
   rw[qV fs v k hk (fun i hi=>by
    have:=h2 i hi
    rw[dif_pos _a]at this
    exact this) h3]
   exact⟨h4,h5,h6⟩
  .rw[tp fs v (fun i hi=>by
    have:=h2 i _a
    rw[dif_pos hi]at this
    exact this)]
   rw[hl]at h5
   exact⟨h4,h5,h6⟩
theorem Kv {T:List Nat} (n gS gD:Nat) (s:SB) (rv:Value) {w:World} {b sb mb lo:Nat} {d:DK} (hD:DA w b sb mb lo d) (hT:∀x∈T,x<w.heap.size)
  (on:ae w n #[.func (.func 39) #[b] #[],.func (.func 92) #[] #[gS,gD]] 42)
  (hS:ae w gS (s.cells rv) 58) (hd:ae w gD #[b] 23)
  (f0:bf T w b sb mb n) (fS:bf T w b sb mb gS) (fD:bf T w b sb mb gD) (hr:ep T w b sb mb rv s.runs)
  (hm:s.may) (hq:s.seq<18446744073709551616) (ho:d.ops<=80000) (hw:d.waits.length<=8000):
  am! 37 #[.slice (some n) 2 2] w fun e w'=>e=.returned (.int .i64 (aG [aA,cN s] d).2)/\DA w' b sb mb lo (aG [aA,cN s] d).1/\PK T b sb mb w w':=by
 refine Ao [aA,cN s] [(39,#[b],#[]),(92,#[],#[gS,gD])] rfl n 0 2 hD _b (fun k h=>?_) on.lt f0 (fun k h=>?_) (fun k h W hW hk _=>?_)
 .match k,h with
  |0,_=>exact enters_of func39 _c rfl
  |1,_=>exact enters_of func92 _c rfl
 .match k,h with
  |0,_=>exact on.cell 0 _b
  |1,_=>exact on.cell 1 _b
 .have e3:=gU d
  match k,h with
  |0,_=>exact si hW (by show d.ops<_;omega) C!
  |1,_=>
   have:=BY (T:=T) gS gD s rv hW (fun x hx=>MR (hT x hx) hk.size) (hk.own hS fS) (hk.own hd fD) (hr.pk hk) hm hq (fS.pk hk hS.lt) (fD.pk hk hd.lt) (by show(aA d).1.ops<=_;omega) (by show(aA d).1.waits.length<=_;omega)
   exact this
theorem wT (v:Value) (l:List NS) (i:Nat) (w:World) (h:aq S w v l) (hS:∀x,S x->x<w.heap.size) (hi:i<l.length) (hl:l.length<=100000):
  am! 288 #[v,(i:Int)] w (fp S (dI l i) w):=by
 have⟨i0,q0,q1,q2,q3⟩:=fg
 have⟨vs,hvs,hraw,Pf,_⟩:=h
 have U3:vs.length=l.length:=by rw[<-hvs,MP]
 rw[<-U3]at hi hl
 obtain⟨p,c,rfl⟩:=hraw.shape
 obtain⟨b,off,rfl,Ou,hb,SR,PT⟩:=hraw.at_ _a
 have afl:=tK hraw
 have j1:(i:Int)<vs.length:=_a
 have j2:(vs.length:Int)<=100000:=_a
 have j3:(vs.length:Int)<=c:=_a
 have j4:(i:Int)+1<=vs.length:=_a
 have j5:(c:Int)<=9223372036854775807:=by unfold maxLen at PT;omega
 have j6:i<=c:=_a
 have WR:Hid (IntKind.i64.wrap ((i:Int)+1)=(i:Int)+1):=tK (IntWalk.i64_in _ _a)
 have hlen:=tb vs
 have Pp:=fB (fun x hx=>(Pf x hx).1.fz)
 obtain⟨A2,UG,hN2⟩:∃A2:Addr,(if c=i+1 then some ((aa b off):Addr)else some (aa b (off+(i+1)*4)))=some A2/\∀W,NP [] w W->∀j u,((NX vs).drop ((i+1)*4))[j]? =some u->W.cell? (A2.add j)=some u:=by
  by_cases hce:c=i+1
  .refine⟨_,if_pos hce,fun W k j u hj=>?_⟩
   rw[List.drop_eq_nil_of_le (by rw[hlen];omega)]at hj
   simp at hj
  .refine⟨_,if_neg hce,fun W k j u hj=>?_⟩
   rw[List.getElem?_drop]at hj
   rw[Ni,Nat.add_assoc]
   exact(k.cell (by exact hb) _b).trans (Ou _ u hj)
 have V9:=tK UG
 have Ts:Hid (((NX vs).take (i*4)).length=i*4/\(∀W,NP [] w W->∀j u,((NX vs).take (i*4))[j]? =some u->W.cell? (((aa b off):Addr).add j)=some u)/\∀u∈(NX vs).take (i*4),u.oneCell'=true):=tK ⟨by rw[MO,hlen];omega,fun W k j u hj=>by
  have TT:=(Nn.1 hj).1
  rw[MO]at TT
  rw[List.getElem?_take_of_lt _a]at hj
  rw[Ni]
  exact(k.cell (by exact hb) _b).trans (Ou _ u hj),fun u hu=>Pp u (NJ hu)⟩
 have Rs:Hid (((NX vs).drop ((i+1)*4)).length=(vs.length-(i+1))*4/\(∀W,NP [] w W->∀j u,((NX vs).drop ((i+1)*4))[j]? =some u->W.cell? (A2.add j)=some u)/\∀u∈(NX vs).drop ((i+1)*4),u.oneCell'=true):=tK ⟨by rw[MQ,hlen];omega,hN2,fun u hu=>Pp u (NF hu)⟩
 have Qd:Hid (∀w' v',w'.ownsRow w 113 4 v' (vs.length-1) (([]++(NX vs).take (i*4))++(NX vs).drop ((i+1)*4))->NP [] w w'->aq S w' v' (dI l i)):=tK (fun w' v' ho k=>by
  rw[NI]at ho
  rw[<-hvs]
  exact aU.DF hi ho hS Pf k)
 clear hlen Pp UG hN2
 have⟨HVS,QH⟩:=_f hvs Pf
 have HB:=tK (And.intro hi (And.intro hl SR))
 clear hraw Ou Pf hvs U3 hi hl SR PT hb
 generalize hVN:vs.length=vn at*
 unfold fp
 go_enter func288,ntmps288
 go_wp2_with fail
 refine MK (S:=(fun W=>True)) _c (by trivial) (fun hHeld=>?_)
 have wr:=WR.out
 refine tS ?_
 refine cT (i:=8) (d:=some 13) (v:=.slice (some A2) (vn-(i+1)) (c-(i+1))) rfl rfl _c _c _c (fun _ _ _ h=>h) (Or.inl ⟨_L,?_⟩) _n ?_
 ·(intro w RI;go_simp;rw[if_pos _a,V9.out])
 try simp only[Act.put,List.setIfInBounds_toArray,List.set_cons_zero,List.set_cons_succ]
 refine rD 0 (fun K hK=>?_)
 go_simp
 refine hK.out _ _ ?_ (fun hHeld=>nM ?_)
 .trivial
 clear hK K
 have KA:NP [] w (w.drew.alloc (.cells #[] 113)):=(NP.refl [] w).drew.alloc _
 have E0:(w.drew.alloc (.cells #[] 113)).ownsRow w 113 4 (.slice (some w) 0 0) 0 []:=bJ w.drew w 113 4 (MG _)
 have⟨v5,w5,PZ,OG,hgr5,_,_⟩:=run_append_own_at (P:=prog) (w.drew.alloc (.cells #[] 113)) w 50 50 113 i0 _ 4 56 underlying50 q0 q1 q2 q3 rfl _d _ 0 ([]) E0 (aa b off) i c ((NX vs).take (i*4)) Ts.out.1 (Ts.out.2.1 _ KA) Ts.out.2.2 _p _s KA.size
 have K5:=tK (KA.grown hgr5 (fun q hq=>Or.inr (ML E0 q hq).1))
 have⟨Si,Ru⟩:=_f OG PZ
 clear hgr5 OG PZ E0
 refine rD 4 (fun K hK=>?_)
 refine aO rfl _ _ 50 50 rfl _ _ _g _g Ru.out ?_
 refine hK.out _ _ ?_ (fun hHeld=>nM ?_)
 .trivial
 clear hK K
 have⟨v6,w6,hrun6,Qz,hgr6,_,_⟩:=run_append_own_at (P:=prog) (w5) w 50 50 113 i0 _ 4 56 underlying50 q0 q1 q2 q3 rfl _d _ (0+i) ([]++(NX vs).take (i*4)) Si.out A2 (vn-(i+1)) (c-(i+1)) ((NX vs).drop ((i+1)*4)) Rs.out.1 (Rs.out.2.1 _ K5.out) Rs.out.2.2 _p _s K5.out.size
 have hNN:0+i+(vn-(i+1))=vn-1:=_s
 rw[hNN]at Qz
 clear hNN
 have K6:=tK (K5.out.grown hgr6 (fun q hq=>Or.inr (ML Si.out q hq).1))
 have⟨Tx,Yw⟩:=_f Qz hrun6
 obtain⟨p6,c6,rfl⟩:=ah Qz
 clear hgr6 Qz hrun6
 refine rD 9 (fun K hK=>?_)
 refine aO rfl _ _ 50 50 rfl _ _ _g _g Yw.out ?_
 refine hK.out _ _ ?_ (fun hHeld=>nM ?_)
 .trivial
 clear hK K
 simp only[List.getElem_toArray,Nt,List.getElem_cons_zero,List.setIfInBounds_toArray,List.set_cons_zero,List.set_cons_succ]
 refine tS ?_
 refine Ng _c ?_ _
 generalize vn-1=N at*
 try simp only[List.set_cons_succ,List.set_cons_zero]
 go_wp2_with fail
 go_ret
 exact⟨(p6,N,c6),rfl,Qd.out _ _ Tx.out K6.out,K6.out⟩
def gd (S:Nat->Prop) (l:List NS) (x:NS) (w:World) (e:Ending) (w':World):Prop:=
 ∃v,e=.returned (.tuple #[v,.int .i64 (OU l x).2])/\aq S w' v (if(OU l x).2=0 then(OU l x).1 else l)/\NP [] w w'
theorem EG {v:Value} (h:¬di l x) (hv:aq S w' v l) (k:NP [] w w'):gd S l x w (.returned (.tuple #[v,(6:Int)])) w':=by
 have e:OU l x=([],6):=by unfold OU;rw[if_neg h]
 unfold gd
 rw[e]
 exact⟨v,rfl,hv,k⟩
theorem Cy {v:Value} (h:di l x) (hv:aq S w' v (dI l (PJ l x))) (k:NP [] w w'):gd S l x w (.returned (.tuple #[v,(0:Int)])) w':=by
 have e:OU l x=(dI l (PJ l x),0):=by unfold OU;rw[if_pos h]
 unfold gd
 rw[e]
 exact⟨v,rfl,hv,k⟩
theorem AH (v:Value) (l:List NS) (r:ag) (rv:Value) (w:World) (h:aq S w v l) (hS:∀x,S x->x<w.heap.size) (hl:l.length<=100000) (hs:fP rv):
  am! 259 #[v,.agg (r.cells rv)] w (gd S l r.item w):=by
 have HA:Hid (∀W,NP [] w W->am! 216 #[v,(r.id,()),r.name] W (fY l r.item W)):=tK (fun W q=>L0 v l r.item W (h.plain.kept0 q) _a)
 have HW:Hid (∀W (i:Nat),NP [] w W->i<l.length->am! 288 #[v,(i:Int)] W (fp S (dI l i) W)):=tK (fun W i q hi=>wT v l i W (h.kept0 q) (fun x hx=>MR (hS x hx) q.size) hi hl)
 have HV:=tK h
 obtain⟨pv,cv,rfl⟩:=h.plain.shape
 obtain⟨p,n,c,rfl⟩:=hs
 have oR:=ae.new w (r.cells (p,n,c)) 102
 have k0:NP [] w (w.alloc (.cells (r.cells (p,n,c)) 102)):=(NP.refl _ _).alloc _
 unfold ag.cells at oR k0 ⊢
 have⟨x0,x1,x2,x3,x4⟩:=oR.k5
 have K0:=tK k0
 unfold fY at HA
 unfold fp at HW
 clear oR k0 h hl hS
 by_cases hh:di l r.item
 .have ha:qX l r.item=(PJ l r.item:Int):=by unfold qX;exact if_pos hh
  rw[ha]at HA
  have hi:PJ l r.item<l.length:=hh
  have⟨HI,HH⟩:=_f hi hh
  obtain⟨i,hie⟩:∃i,i=PJ l r.item:=⟨_,rfl⟩
  have HIE:=tK hie
  rw[<-hie]at HA HI
  clear ha hi hh hie
  go_enter func259,ntmps259
  go_wp2_with fail
  refine(HA.out _ K0.out).mono ?_;rintro e w2 ⟨rfl,k2⟩
  have K2:=tK (K0.out.trans k2)
  have i1:¬(i:Int)<0:=_a
  go_wp2_with fail
  refine(HW.out _ i K2.out HI.out).mono ?_;rintro e w3 ⟨u,rfl,hu,k3⟩
  have HU:=tK hu
  clear hu
  obtain⟨pu,cu,rfl⟩:=HU.out.plain.shape
  go_wp2_with fail
  go_ret2
  exact Cy HH.out (by rw[<-HIE.out];exact HU.out) (K2.out.trans k3)
 .have ha:qX l r.item= -1:=by unfold qX;exact if_neg hh
  rw[ha]at HA
  have HH:=tK hh
  clear ha hh
  go_enter func259,ntmps259
  go_wp2_with fail
  refine(HA.out _ K0.out).mono ?_;rintro e w2 ⟨rfl,k2⟩
  have K2:=tK (K0.out.trans k2)
  go_wp2_with fail
  go_ret2
  exact EG HH.out (HV.out.kept0 K2.out) K2.out
theorem dK {ops:Array Oper} {rest:List Oper} {o:Oper} {a:Act} {Q:Exit->Act->World->Prop} (hgd:o.guard=none) (s x:Operand)
  (ho:o.op=.call {callee:=.builtin .append,args:=#[s,x],argTypes:=#[50,50]})
  (base:Nat) (v:Value) (n:Nat) (xs:List Value) (hs:a.eval s=v) (Ot:w.ownsRow base 113 4 v n xs)
  (u:Value) (m:Nat) (news:List Value) (hx:a.eval x=u) (P4:bO w u m 4 news) (h1:∀y∈news,y.oneCell'=true)
  (h63:n+m<=maxLen) (Qs:(n+m)*56<=140737488355328) (Rk:base<=w.heap.size)
  (h:∀v' w',w'.ownsRow base 113 4 v' (n+m) (xs++news)->w.grownBy w' v.ownBlock->wpList prog ops Q rest (a.put o.dst v') w'):
  wpList prog ops Q (o::rest) a w:=by
 have⟨i0,q0,q1,q2,q3⟩:=fg
 obtain⟨p,c,rfl⟩:=P4.shape
 have hlen:=P4.1
 cases p with
 |none=>
  have hm:m=0:=by
   rcases P4.2 with⟨h,_⟩|⟨b,off,c',e,_⟩
   .exact h
   .simp at e
  subst hm
  have hn:news=[]:=Nc _a
  subst hn
  refine wpList_plain hgd fun K hK=>?_
  have Oe:=gM (P:=prog) (w:=w) base 50 o.type 113 i0 4 underlying50 q0 v n c xs Ot
  have hx':a.eval x=.slice none 0 c:=hx
  unfold Oper.wp
  simp[execOp,ho,resolve,invoke,builtin,hs,hx',Oe,Result.andThen]
  exact hK _ _ (h v w (by simpa using Ot) (jh _ _))
 |some ad=>
  have Ou:∀j u,news[j]? =some u->w.cell? (ad.add j)=some u:=by
   by_cases h0:m=0
   .subst h0
    have hn:news=[]:=Nc _a
    subst hn
    intro j u hj;simp at hj
   .have⟨b,off,e,h3,_⟩:=P4.at_ _a
    injection e with e
    subst e
    intro j u hj
    rw[Ni]
    exact h3 j u hj
  refine MT w hgd s x 50 ho base 113 i0 _ 4 56 underlying50 q0 q1 q2 q3 rfl _d v n xs hs Ot ad m c news hx hlen Ou h1 h63 Qs Rk ?_
  intro v' w' h2 h3 _ _
  exact h v' w' h2 h3
theorem bO.nil (w:World) (p:Option Addr) (c:Nat):bO w (.slice p 0 c) 0 4 []:=⟨rfl,Or.inl ⟨rfl,p,c,rfl⟩⟩
theorem yK {off c:Nat} {vs:List (NS×Value)} (hraw:bO w (.slice (some (aa b off)) vs.length c) vs.length 4 (NX vs)) (k:Nat) (hk:k<=vs.length):
  ∃P2:Addr,(if c=k then some ((aa b off):Addr)else some (aa b (off+k*4)))=some P2/\(∀W,NP [] w W->bO W (.slice (some (aa b off)) k c) k 4 (NX (vs.take k)))/\(∀W,NP [] w W->bO W (.slice (some P2) (vs.length-k) (c-k)) (vs.length-k) 4 (NX (vs.drop k))):=by
 have h1:=hraw.sub 0 k (Nb _) hk
 have h2:=hraw.sub k vs.length hk (MG _)
 rw[Nat.zero_mul,Nat.add_zero,Nat.sub_zero,Nat.sub_zero,List.drop_zero,gJ]at h1
 rw[fL,Nh (by rw[tb,MQ];omega)]at h2
 by_cases hc:c=k
 .refine⟨_,if_pos hc,fun W q=>h1.kept0 q,fun W q=>?_⟩
  have h0:vs.length-k=0:=by
   by_cases h:0<vs.length
   .have⟨_,_,_,_,_,h6,_⟩:=hraw.at_ h
    omega
   .omega
  have h3:vs.drop k=[]:=List.drop_eq_nil_of_le _a
  rw[h0,h3]
  exact bO.nil _ _ _
 .exact⟨_,if_neg hc,fun W q=>h1.kept0 q,fun W q=>h2.kept0 q⟩
theorem Ip {S:Nat->Prop} {w w':World} {v':Value} {vs:List (NS×Value)} {x:NS} {xv:Value} (hS:∀x,S x->x<w.heap.size) (Pf:∀y∈vs,bd w y/\bD S y.2 y.1.runs.length) (hx:bd w (x,xv)/\bD S xv x.runs.length) (q:NP [] w w') {k:Nat} (hk:k=Og (vs.map (·.1)) x) {N:Nat} (hN:N=vs.length+1)
  (ho:w'.ownsRow w 113 4 v' N ((([]++NX (vs.take k))++Pt x xv)++NX (vs.drop k))):aq S w' v' (Qm (vs.map (·.1)) x):=by
 subst hk hN
 rw[NI,<-gJ,<-fL]at ho
 exact aU.Ca ho hS Pf hx q
theorem FD (a b:NS):(a.id<b.id/\bY a b=true)\/(¬a.id<b.id/\¬a.id=b.id/\bY a b=false)\/(¬a.id<b.id/\a.id=b.id/\bY a b=iU a.name b.name):=by
 unfold bY
 by_cases h1:a.id<b.id
 .exact Or.inl ⟨h1,by simp[h1]⟩
 .by_cases h2:a.id=b.id
  .exact Or.inr (Or.inr ⟨h1,h2,by simp[h2]⟩)
  .exact Or.inr (Or.inl ⟨h1,h2,by simp[h1,h2]⟩)
theorem M79 {A:Prop}(h:A:=by
 go_wp2_with fail
 go_quiet (fail)
 go_wp2_with fail
 go_roundw
 case rel=>exact⟨k+1,Of.out,_j,HN.out,HK.out.drewN _⟩
 case measure=>(have hh:=Of.out;simp[intOf];omega)):A:=h
theorem M74 {A:Prop}(h:A:=by
 go_wp2_with fail
 go_quiet (fail)
 go_wp2_with fail
 go_meet
 exact⟨by rw[HP.out],HK.out.drewN _⟩):A:=h
theorem M12 {A:Prop}(h:A:=by
 go_wp2_with (at_builtin;go_must (refine dK rfl (.tmp 43) (.tmp 46) rfl w _ 0 [] rfl (bJ _ w 113 4 Tc.out) _ 0 [] rfl (bO.nil _ _ _) Wf.out _p _s _F ?_))
 intro v6 w6 o6 Po
 have K6:=tK ((KWC.out.alloc (.cells #[] 113)).grown Po (fun q hq=>Or.inr (ML (bJ wc w 113 4 Tc.out) q hq).1))
 have K61:=tK ((KC1.out.alloc (.cells #[] 113)).grown Po (fun q hq=>Or.inr (by have hh:q=wc.heap.size:=_C;have:=KC1.out.size;omega)))
 have Tx:=tK o6
 obtain⟨p6,c6,rfl⟩:=ah o6
 have⟨x0,x1,x2,x3⟩:=Ow.out w6 K61.out
 clear o6 Po K61
 go_wp2_with (at_builtin;go_must (refine MT _ rfl (.tmp 48) (.tmp 50) 50 rfl w 113 i0 _ 4 56 underlying50 q0 q1 q2 q3 rfl _d _ _ _ rfl (MH Tx.out _) w6 1 1 (Pt x (px,nx,cx)) rfl rfl ?_ ?_ _p _s ?_ ?_))
 .exact World.news_of_block (Ns w6 _)
 .intro u hu;simp[Pt]at hu;rcases hu with rfl|rfl|rfl|rfl<;>rfl
 .have:=K6.out.size;simp;omega
 intro v7 w7 o7 X9 _ _
 have K7:=tK ((K6.out.alloc _).grown X9 (fun q hq=>Or.inr (ML Tx.out q hq).1))
 have Ze:=tK o7
 obtain⟨p7,c7,rfl⟩:=ah o7
 clear o7 X9 x0 x1 x2 x3
 go_wp2_with (at_builtin;go_must (refine dK rfl (.tmp 52) (.tmp 55) rfl w _ _ _ rfl Ze.out _ (0-0) [] rfl (bO.nil _ _ _) YW.out _p _s (by have:=K7.out.size;omega) ?_))
 intro v8 w8 o8 gr8
 have K8:=tK (K7.out.grown gr8 (fun q hq=>Or.inr (ML Ze.out q hq).1))
 have HF:=tK (Qd.out _ _ (0+0+1+(0-0)) _s K8.out (by first|exact o8|simpa using o8))
 obtain⟨p8,c8,rfl⟩:=ah o8
 clear o8 gr8
 (try generalize 0+0+1+(0-0)=N at*)
 (try generalize 0+1+(0-0)=N at*)
 go_wp2_with fail
 go_ret
 exact⟨_,rfl,HF.out,K8.out⟩):A:=h
theorem KU (v:Value) (l:List NS) (x:NS) (xv:Value) (w:World) (h:aq S w v l) (hS:∀x,S x->x<w.heap.size) (hx:bd w (x,xv)/\bD S xv x.runs.length) (hl:l.length<=100000):
  am! 287 #[v,.agg (x.cells xv)] w (fp S (Qm l x) w):=by
 obtain⟨pv,cv,rfl⟩:=h.plain.shape
 obtain⟨px,nx,cx,rfl⟩:=hx.1.fz
 obtain⟨W1,hW1⟩:∃W1,W1=w.alloc (.cells (x.cells (px,nx,cx)) 113):=⟨_,rfl⟩
 have k1:NP [] w W1:=_H
 have oX:ae W1 w (x.cells (px,nx,cx)) 113:=_U
 unfold NS.cells at oX hW1 ⊢
 have Ow:Hid (∀W,NP [] W1 W->W.cell? w=(x.id,())/\W.cell? (aa w 1)=x.name/\W.cell? (aa w 2)=x.size/\W.cell? (aa w 3)=(px,nx,cx)):=tK (fun W q=>(q.own oX _b).c4)
 have H:=tK (h.plain.kept0 k1)
 have⟨H0,TO,HX,HL,VF⟩:=gi! h hS hx hl k1
 have j1:(l.length:Int)<=100000:=_a
 clear h k1 oX hx hl hS
 unfold fp
 go_enter func287,ntmps287
 go_upto_block 0 with fail
 rw[<-hW1]
 go_cut [5]from 7 to 42 (fun v5 wx=>v5=(Og l x:Int)/\NP [] W1 wx)
 case first=>
  go_wp2_with fail
  go_loopw [5] (fun i wr=>∃k:Nat,k<=l.length/\i=(k:Int)/\(∀j (hj:j<l.length),j<k->bY l[j] x=true)/\NP [] W1 wr) (fun i _=>l.length-(intOf i).toNat)
  case atStart=>exact⟨0,Nb _,rfl,fun j hj h=>absurd h (Nat.not_lt_zero j),NP.refl _ _⟩
  case round=>
   obtain⟨k,hk,rfl,hlo,hK⟩:=hrel
   rename World=>wr
   by_cases NV:k<l.length
   .have i1:(k:Int)<l.length:=_a
    obtain⟨b,off,kv,rfl,hia,hb,RU,hc2,SA⟩:=H.out.ja k NV
    have⟨y0,y1,y2,y3⟩:=SA wr hK
    have⟨x0,x1,x2,x3⟩:=Ow.out wr hK
    have h5:=FD (l[k]'NV) x
    have RA:Hid (bY (l[k]'NV) x=true->∀j (hj:j<l.length),j<k+1->bY l[j] x=true):=tK (fun he j hj hjk=>by
     by_cases e:j=k
     .subst e;exact he
     .exact hlo j hj _a)
    have YT:Hid (bY (l[k]'NV) x=false->Og l x=k):=tK (fun he=>ql (Nat.le_of_lt NV) (fun j hj=>hlo j _a hj) (fun _=>he))
    have⟨HK,Of⟩:=_f hK NV
    clear hia SA hb hlo hK
    generalize hLA:l[k]'NV=A at*
    clear hLA
    rcases h5 with⟨h1,h2⟩|⟨h1,h2,h3⟩|⟨h1,h2,h3⟩
    .have d1:decide (A.id<x.id)=true:=_P
     have HN:=tK (RA.out h2)
     clear h2 h1 RA NV YT
     exact M79
    .have d1:decide (A.id<x.id)=false:=_P
     have d2:(A.id==x.id)=false:=e!
     have HP:=tK (YT.out h3)
     clear h2 h1 h3 RA NV YT
     exact M74
    .have d1:decide (A.id<x.id)=false:=_P
     have d2:(A.id==x.id)=true:=e!
     obtain⟨q,hq⟩:∃q,iU A.name x.name=q:=⟨_,rfl⟩
     rw[hq]at h3
     have d3:Op.bytesLess A.name x.name=q:=hq
     have d4:Op.bytesLess (bs A.name).toList (bs x.name).toList=q:=by rw[bj,bj];exact hq
     cases q with
     |true=>
      have HN:=tK (RA.out h3)
      clear h2 h1 h3 hq RA NV YT
      exact M79
     |false=>
      have HP:=tK (YT.out h3)
      clear h2 h1 h3 hq RA NV YT
      exact M74
   .obtain rfl:k=l.length:=_a
    have d0:decide ((l.length:Int)<l.length)=false:=_b
    have HP:Hid (Og l x=l.length):=tK (ql (MG _) (fun j hj=>hlo j hj hj) (fun hh=>absurd hh (Nat.lt_irrefl _)))
    have HK:=tK hK
    clear hlo hK NV hk
    exact M74
 case rest=>
  obtain⟨rfl,Zb⟩:=hcut
  rename World=>wc
  have⟨i0,q0,q1,q2,q3⟩:=fg
  have⟨vs,hvs,hraw,Pf,_⟩:=H0.out
  have U3:vs.length=l.length:=by rw[<-hvs,MP]
  have KC1:=tK Zb
  have KWC:=tK (VF.out.trans Zb)
  have Tc:Hid (w.heap.size<=wc.heap.size):=tK (VF.out.trans Zb).size
  have Pp:=fB (fun y hy=>(Pf y hy).1.fz)
  have Qd:Hid (∀w' v' N,N=vs.length+1->NP [] w w'->w'.ownsRow w 113 4 v' N ((([]++NX (vs.take (Og l x)))++Pt x (px,nx,cx))++NX (vs.drop (Og l x)))->aq S w' v' (Qm l x)):=tK (fun w' v' N hN q ho=>by
   have:=Ip TO.out Pf HX.out q (k:=Og l x) (by rw[hvs]) hN ho
   rw[hvs]at this
   exact this)
  have Wf:Hid (∀u∈NX (vs.take (Og l x)),u.oneCell'=true):=tK (fun u hu=>Pp u (by rw[<-gJ]at hu;exact NJ hu))
  have YW:Hid (∀u∈NX (vs.drop (Og l x)),u.oneCell'=true):=tK (fun u hu=>Pp u (by rw[<-fL]at hu;exact NF hu))
  have hkl:Og l x<=vs.length:=by rw[U3];exact jv l x
  have HB:Hid (Og l x<=vs.length/\vs.length<=100000):=tK ⟨hkl,by have:=HL.out;omega⟩
  clear Zb Pp
  by_cases h0:vs.length=0
  .have YD:Og l x=0:=_a
   have aa8:vs=[]:=Nc h0
   have e1:NX (vs.take (Og l x))=[]:=by rw[aa8];simp[NX]
   have e2:NX (vs.drop (Og l x))=[]:=by rw[aa8];simp[NX]
   rw[e1,e2]at Qd
   rw[e1]at Wf
   rw[e2]at YW
   rw[YD,h0]at HB
   rw[YD]
   rw[h0]at Qd
   rw[h0]at U3
   rw[<-U3]
   clear e1 e2 YD aa8 hraw Pf hvs U3 h0 hkl H0 H HX j1 HL
   cases pv with
   |none=>
    exact M12
   |some ad=>
    have⟨b,off,ix⟩:=ad
    exact M12
  .rw[<-U3]at hraw
   obtain⟨b,off,rfl,_,_,SR,PT⟩:=hraw.at_ _a
   have⟨P2,hP2,RH,QG⟩:=yK hraw (Og l x) hkl
   have⟨TK,Ye⟩:=_f RH QG
   generalize NX (vs.take (Og l x))=T1 at*
   generalize NX (vs.drop (Og l x))=T2 at*
   rw[<-U3]
   have j2:(vs.length:Int)<=100000:=_s
   have j3:(vs.length:Int)<=cv:=_a
   have j4:(cv:Int)<=9223372036854775807:=by unfold maxLen at PT;omega
   have j5:(Og l x:Int)<=vs.length:=_s
   have j6:(Og l x:Int)<=cv:=_s
   have j7:Og l x<=cv:=_a
   clear RH QG hraw Pf hvs U3 h0 hkl H0 H HX j1 HL SR PT
   generalize Og l x=k at*
   generalize vs.length=n at*
   go_wp2_with (at_builtin;go_must (refine dK rfl (.tmp 43) (.tmp 46) rfl w _ 0 [] rfl (bJ _ w 113 4 Tc.out) _ k T1 rfl (TK.out _ (KWC.out.alloc _)) Wf.out _p _s _F ?_))
   intro v6 w6 o6 Po
   have K6:=tK ((KWC.out.alloc (.cells #[] 113)).grown Po (fun q hq=>Or.inr (ML (bJ wc w 113 4 Tc.out) q hq).1))
   have K61:=tK ((KC1.out.alloc (.cells #[] 113)).grown Po (fun q hq=>Or.inr (by have hh:q=wc.heap.size:=_C;have:=KC1.out.size;omega)))
   have Tx:=tK o6
   obtain⟨p6,c6,rfl⟩:=ah o6
   have⟨x0,x1,x2,x3⟩:=Ow.out w6 K61.out
   clear o6 Po K61
   go_wp2_with (at_builtin;go_must (refine MT _ rfl (.tmp 48) (.tmp 50) 50 rfl w 113 i0 _ 4 56 underlying50 q0 q1 q2 q3 rfl _d _ _ _ rfl (MH Tx.out _) w6 1 1 (Pt x (px,nx,cx)) rfl rfl ?_ ?_ _p _s ?_ ?_))
   .exact World.news_of_block (Ns w6 _)
   .intro u hu;simp[Pt]at hu;rcases hu with rfl|rfl|rfl|rfl<;>rfl
   .have:=K6.out.size;simp;omega
   intro v7 w7 o7 X9 _ _
   have K7:=tK ((K6.out.alloc _).grown X9 (fun q hq=>Or.inr (ML Tx.out q hq).1))
   have Ze:=tK o7
   obtain⟨p7,c7,rfl⟩:=ah o7
   clear o7 X9 x0 x1 x2 x3
   go_wp2_with (at_builtin;go_must (refine dK rfl (.tmp 52) (.tmp 55) rfl w _ _ _ rfl Ze.out _ (n-k) T2 rfl (Ye.out _ K7.out) YW.out _p _s (by have:=K7.out.size;omega) ?_))
   intro v8 w8 o8 gr8
   have K8:=tK (K7.out.grown gr8 (fun q hq=>Or.inr (ML Ze.out q hq).1))
   have HF:=tK (Qd.out _ _ (0+k+1+(n-k)) _s K8.out (by first|exact o8|simpa using o8))
   obtain⟨p8,c8,rfl⟩:=ah o8
   clear o8 gr8
   (try generalize 0+k+1+(n-k)=N at*)
   (try generalize k+1+(n-k)=N at*)
   go_wp2_with fail
   go_ret
   exact⟨_,rfl,HF.out,K8.out⟩

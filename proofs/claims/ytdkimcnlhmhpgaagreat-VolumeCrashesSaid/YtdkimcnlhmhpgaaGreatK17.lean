/- -/
import Derived.Test.YtdkimcnlhmhpgaaGreatK16
set_option maxHeartbeats 16000000
set_option maxRecDepth 100000
namespace Go.Proofs.YtdkimcnlhmhpgaaGreat
open Go.RowKit
variable {S:Nat->Prop} {w w' W W':World} {v xv:Value} {l:List Nf} {lo hi n k base b:Nat} {xs:List Value} {T:List Nat} {vs:List (Nf×Value)} {x:Nf} {t:TypeId} {q:Prop}
theorem GB (X:Array Value):∃C:List Value,C.toArray=X:=⟨X.toList,by simp⟩
theorem yD (base:Nat) (v:Value) (n:Nat) (xs:List Value) (m:Nat) (w:World) (vb:Nat) (ys:List Value) (h:w.ownsRow base 113 4 v n xs) (hbw:base<=w.heap.size) (hm:m=1) (hn:n<=1000000) (ov:ae w vb ys.toArray 113) (hys:ys.length=4) (h2:∀u∈ys,u.oneCell'=true):
  Calls Tryz.prog 270 #[v,.int .i64 n,.slice (some ⟨vb,0,none⟩) m m] w (iD base v (n+1) (xs++ys) w):=by
 obtain⟨i0,hi0,hz0,hz1',hz2'⟩:=gh
 have PS:¬((m:Int)=0):=by omega
 have H:=Mb h
 have R9:Hid (∀j u,ys[j]? =some u->w.cell? ((⟨vb,0,none⟩:Addr).add j)=some u):=fun j u hj=>by
  have Sr:=(MI.1 hj).1
  rw[My,Nat.zero_add,ov.gm j Sr,<-hj,Mw Sr]
 have H2:=Mb h2
 have HYS:Hid (ys.length=m*4):=Mb (by rw[hys,hm])
 have HM:=Mb hm
 obtain⟨p,c,rfl⟩:=ai h
 have hcn:n<=c:=by
  rcases h.2 with⟨e,h0⟩|⟨g,cap,cur0,e,_,_,hnc,_⟩
  .omega
  .injection e with _ _ e3;omega
 have aek:c<=9223372036854775807:=by
  rcases h.2 with⟨e,h0⟩|⟨g,cap,cur0,e,_,_,_,Pb,_⟩
  .injection e with _ _ e3;omega
  .injection e with _ _ e3
   have:cap<=maxLen:=Pb
   unfold maxLen at this;omega
 have hp:p=none->c=0:=fun e=>by
  subst e
  rcases h.2 with⟨e,h0⟩|⟨g,cap,cur0,e,_⟩
  .injection e
  .cases e
 clear h h2 hys hm ov
 cases p with
 |none=>
  obtain rfl:=hp rfl
  obtain rfl:n=0:=by omega
  go_enter Tryz.func270,Tryz.ntmps270
  go_wp2_with (at_builtin;refine Mv w rfl (.tmp 23) (.tmp 24) 50 rfl base 113 i0 _ 4 56 Tryz.underlying50 hi0 hz0 hz1' hz2' rfl (by decide) _ _ xs rfl H.out ⟨vb,0,none⟩ m m ys rfl HYS.out R9.out H2.out (by have:=HM.out;unfold maxLen;omega) (by have:=HM.out;omega) hbw ?_)
  intro v' w1 N3 Om QE _
  have HO:=Mb N3
  have HG:=Mb Om
  clear N3 Om QE
  go_wp2_with fail
  go_ret
  exact⟨_,rfl,by have:=HO.out;rw[HM.out]at this;exact this,fun S hS=>(aa.refl S w).grown HG.out (fun k hk=>Or.inl (hS k hk))⟩
 |some a=>
  obtain⟨ab,ao,asp⟩:=a
  go_enter Tryz.func270,Tryz.ntmps270
  go_wp2_with (at_builtin;refine Mv w rfl (.tmp 23) (.tmp 24) 50 rfl base 113 i0 _ 4 56 Tryz.underlying50 hi0 hz0 hz1' hz2' rfl (by decide) _ _ xs rfl H.out ⟨vb,0,none⟩ m m ys rfl HYS.out R9.out H2.out (by have:=HM.out;unfold maxLen;omega) (by have:=HM.out;omega) hbw ?_)
  all_goals (intro v' w1 N3 Om QE _)
  all_goals (have HO:=Mb N3)
  all_goals (have HG:=Mb Om)
  all_goals (clear N3 Om QE)
  all_goals go_wp2_with fail
  all_goals go_ret
  all_goals exact⟨_,rfl,by have:=HO.out;rw[HM.out]at this;exact this,fun S hS=>(aa.refl S w).grown HG.out (fun k hk=>Or.inl (hS k hk))⟩
theorem wP (base:Nat) (n:Nat) (xs:List Value) (i m:Nat) (w:World) (g cap:Nat) (cur:List Value) (vb:Nat) (ys:List Value) (o:ae w g cur.toArray 113) (hb:base<=g) (hnc:n<=cap) (Pb:cap<=maxLen) (Pe:cur.length=cap*4) (Pc:cur.take (n*4)=xs) (Vv:xs.length=n*4)
  (h1:∀u∈xs,u.oneCell'=true) (hi:i<n) (hn:n<=1000000) (hm:m=1) (Pd:cap<n+m) (ov:ae w vb ys.toArray 113) (hys:ys.length=4) (h2:∀u∈ys,u.oneCell'=true):
  Calls Tryz.prog 270 #[.slice (some ⟨g,0,none⟩) n cap,.int .i64 i,.slice (some ⟨vb,0,none⟩) m m] w (iD base (.slice (some ⟨g,0,none⟩) n cap) (n+1) (xs.take (i*4)++ys++xs.drop (i*4)) w):=by
 obtain⟨i0,hi0,hz0,hz1',hz2'⟩:=gh
 have O4:(Tryz.prog.info? 113).map (·.size)=some 4:=by rw[hi0];simp[hz1']
 have PS:¬((m:Int)=0):=by omega
 have P8:¬((i:Int)=(n:Int)):=by omega
 have ab8:cap<=9223372036854775807:=Pb
 have acP:g<w.heap.size:=o.lt
 obtain⟨q,hq⟩:∃q,n+m-i=q:=⟨_,rfl⟩
 have hq1:(n:Int)+(m:Int)-(i:Int)=(q:Int):=by omega
 have hwq:IntKind.i64.wrap (q:Int)=(q:Int):=by rw[IntKind.wrap_i64];omega
 have Rk:(xs.drop (i*4)).length=(n-i)*4:=by rw[Mq,Vv];omega
 have Vm:(xs.take (i*4)).length=i*4:=by rw[Mp,Vv];omega
 have NW:∀t,t<n*4->w.cell? ⟨g,t,none⟩=xs[t]? :=fun t ht=>by
  exact M73
 have hold:(Builtin.firstCells i0.size i (.slice (some ⟨g,0,none⟩) i cap)).run Tryz.prog w.drew=.ok (xs.take (i*4)).toArray w.drew:=
  run_firstCells_some w.drew i0.size i ⟨g,0,none⟩ i cap (xs.take (i*4)) (by rw[hz1',Vm]) (fun j u hj=>by
   have Sr:=(MI.1 hj).1
   rw[Vm]at Sr
   rw[List.getElem?_take_of_lt Sr]at hj
   rw[My,Nat.zero_add]
   show w.cell? _=_
   rw[NW j (by omega)];exact hj)
 have NT:=fun ty=>Lib.run_append_grow_zeros (P:=Tryz.prog) w 50 3 ty 113 i0 _ .i64 .i64 Tryz.underlying50 Tryz.underlying3 hi0 hz0 (some ⟨g,0,none⟩) i cap (xs.take (i*4)) hold q (by omega) (by omega) (by omega) (by omega) (by rw[hz2'];omega) (by rw[hz2'];exact growslice_fits (by omega) (by omega))
 have hiq:i+q=n+m:=by omega
 rw[hiq]at NT
 have aaM:=grownCap_le_maxLen w (n+m) cap 113 (by unfold maxLen;omega)
 have hGn:n+m<=grownCap w (n+m) cap 113:=grownCap_ge w _ _ _
 obtain⟨G,hG⟩:∃G,G=grownCap w (n+m) cap 113:=⟨_,rfl⟩
 rw[<-hG]at NT aaM hGn
 have Xo:G<=9223372036854775807:=aaM
 obtain⟨C,hC⟩:=GB ((xs.take (i*4)).toArray++Builtin.zeroCells (Value.agg #[.int .u32 0,.string {data:=#[]},.int .i64 0,.slice none 0 0]).cells q++Builtin.zeroCells (Value.agg #[.int .u32 0,.string {data:=#[]},.int .i64 0,.slice none 0 0]).cells (G-(n+m)))
 rw[<-hC]at NT
 have hCt:C.take (i*4)=xs.take (i*4):=by
  have e:=congrArg Array.toList hC
  simp only[Array.toList_append]at e
  rw[e,Mi,MS (by rw[Vm];exact Md _),Mk (by rw[Vm];exact Md _)]
 have hCl:C.length=G*4:=by
  have e:=congrArg Array.size hC
  simp[Builtin.zeroCells,Value.cells,Vm]at e
  rw[e]
  omega
 obtain⟨W1,hW1⟩:∃W1,W1=w.drew.alloc (.cells C.toArray 113):=⟨_,rfl⟩
 rw[<-hW1]at NT
 have o1:ae W1 w.heap.size C.toArray 113:=by rw[hW1];exact ae.new w.drew _ _
 have k1:∀S,aa S w W1:=fun S=>by rw[hW1];exact(aa.refl S w).drew.alloc _
 have ov1:ae W1 vb ys.toArray 113:=(k1 []).own ov (by simp)
 have og1:ae W1 g cur.toArray 113:=(k1 []).own o (by simp)
 have aem:vb<w.heap.size:=ov.lt
 have UL:i*4+ys.length<=C.length:=by rw[hys,hCl];omega
 have Ww:∀ty dc,(Builtin.copy_ #[50,50] ty #[.slice (some ⟨w.heap.size,i*4,none⟩) (n+m-i) dc,.slice (some ⟨vb,0,none⟩) m m]).run Tryz.prog W1=.ok (.int .i64 ((m:Nat):Int)) (W1.setCells w.heap.size (i*4) ys):=fun ty dc=>
  kB W1 _ _ ty 113 4 w.heap.size (i*4) (n+m-i) dc ⟨vb,0,none⟩ m m m ys Tryz.underlying50 O4 (by show min _ _=_;omega) (by rw[hys,hm])
   (fun j v hj=>by
    have Sr:=(MI.1 hj).1
    rw[My,Nat.zero_add,ov1.gm j Sr,<-hj,Mw Sr])
   (fun j hj=>by rw[o1.gm _ (by omega)];rfl) (fun j hj=>o1.free _) h2
 obtain⟨W2,hW2⟩:∃W2,W2=W1.setCells w.heap.size (i*4) ys:=⟨_,rfl⟩
 rw[<-hW2]at Ww
 have o2:ae W2 w.heap.size (cF C (i*4) ys).toArray 113:=by rw[hW2];exact o1.pM _ _ UL
 have k2:∀S,aa S w W2:=fun S=>by rw[hW2];exact fU (Or.inr (Md _)) _ _ (k1 S)
 have og2:ae W2 g cur.toArray 113:=(k2 []).own o (by simp)
 have Px:=gZ UL
 have Qs:(i+m)*4+(xs.drop (i*4)).length<=(cF C (i*4) ys).length:=by rw[Px,Rk,hCl];omega
 have aao:∀ty dc sc,(Builtin.copy_ #[50,50] ty #[.slice (some ⟨w.heap.size,(i+m)*4,none⟩) (n+m-(i+m)) dc,.slice (some ⟨g,i*4,none⟩) (n-i) sc]).run Tryz.prog W2.drew=.ok (.int .i64 ((n-i:Nat):Int)) (W2.drew.setCells w.heap.size ((i+m)*4) (xs.drop (i*4))):=fun ty dc sc=>
  kB W2.drew _ _ ty 113 4 w.heap.size ((i+m)*4) (n+m-(i+m)) dc ⟨g,i*4,none⟩ (n-i) sc (n-i) (xs.drop (i*4)) Tryz.underlying50 O4 (by show min _ _=_;omega) Rk
   (fun j v hj=>by
    have Sr:=(MI.1 hj).1
    rw[Rk]at Sr
    rw[List.getElem?_drop]at hj
    rw[My]
    show W2.cell? _=_
    have hj3:i*4+j<n*4:=by omega
    rw[(k2 []).cell (by exact acP) (by simp),NW _ hj3]
    exact hj)
   (fun j hj=>by show(W2.cell? _).isSome=true;rw[o2.gm _ (by omega)];rfl) (fun j hj=>o2.free _) (fun v hv=>h1 v (Nb hv))
 have hO:Hid (ae (W2.drew.setCells w.heap.size ((i+m)*4) (xs.drop (i*4))) w.heap.size (cF (cF C (i*4) ys) ((i+m)*4) (xs.drop (i*4))).toArray 113):=(ae.drew o2).pM _ _ Qs
 have hKP:Hid (∀S:List Nat,aa S w (W2.drew.setCells w.heap.size ((i+m)*4) (xs.drop (i*4)))):=fun S=>fU (Or.inr (Md _)) _ _ (k2 S).drew
 have N6:Hid ((W2.drew.setCells w.heap.size ((i+m)*4) (xs.drop (i*4))).ownsRow base 113 4 (.slice (some ⟨w.heap.size,0,none⟩) (n+m) G) (n+1) (xs.take (i*4)++ys++xs.drop (i*4))):=by
  have:=kK (base:=base) (n:=n+1) (cap:=G) hO.out (by omega) (by omega) aaM (by rw[gZ Qs,Px,hCl])
  have e1:(n+1)*4=(i+m)*4+(xs.drop (i*4)).length:=by rw[Rk];omega
  have e2:(i+m)*4=i*4+ys.length:=by rw[hys];omega
  have hE:(cF (cF C (i*4) ys) ((i+m)*4) (xs.drop (i*4))).take ((n+1)*4)=xs.take (i*4)++ys++xs.drop (i*4):=by
   rw[e1,pJ Qs,e2,pJ UL,hCt]
  rw[hE]at this
  rw[show n+m=n+1 by omega]
  exact this
 have TG:(0:Int)<=(i:Int)+(m:Int):=by omega
 have Ph:i<=n:=by omega
 have Su:IntKind.i64.wrap ((i:Int)+(m:Int))=(i:Int)+(m:Int):=by rw[IntKind.wrap_i64];omega
 have TP:IntKind.i64.wrap ((n:Int)+(m:Int))=(n:Int)+(m:Int):=by rw[IntKind.wrap_i64];omega
 have htn:((i:Int)+(m:Int)).toNat=i+m:=by omega
 have Qo:¬(G=i+m):=by omega
 have Zx:(i:Int)+(m:Int)<=(n:Int)+(m:Int):=by omega
 have hb4:¬(cap=i):=by omega
 have hb5:¬(G=i):=by omega
 have hb6:(i:Int)<=(n:Int)+(m:Int):=by omega
 have hb7:i+m<=n+m:=by omega
 have hb8:i<=n+m:=by omega
 have hb9:(cap:Int)<(n:Int)+(m:Int):=by omega
 have hic:i<=cap:=by omega
 clear hW1 hW2 o1 o2 ov1 og1 og2 k1 k2 Px UL Qs Rk Vm o ov Pe Pc Vv h1 h2 NW hold hG hC hCt hCl hys hm hq hiq
 go_enter Tryz.func270,Tryz.ntmps270
 go_wp2_with (at_builtin;refine Lib.wpList_append_run _ rfl _ _ _ _ rfl _ _ rfl rfl _ _ (NT _) ?_)
 go_wp2_with (at_builtin;refine Lib.wpList_copy_run _ rfl _ _ 50 50 rfl _ _ rfl rfl (Ww _ _) ?_)
 go_region_law (refine step_copy_runJ rfl _ _ 50 50 rfl _ _ (by simp[Act.eval,Act.put]) (by simp[Act.eval,Act.put]) (aao _ _ _) ?_)
 go_wp2_with fail
 go_ret
 exact⟨_,rfl,N6.out,fun S _=>hKP.out S⟩
theorem Hh (base:Nat) (v:Value) (n:Nat) (xs:List Value) (i:Nat) (w:World) (vb:Nat) (ys:List Value) (h:w.ownsRow base 113 4 v n xs) (hbw:base<=w.heap.size) (h1:∀u∈xs,u.oneCell'=true) (hi:i<=n) (hn:n<=1000000) (ov:ae w vb ys.toArray 113) (hys:ys.length=4) (h2:∀u∈ys,u.oneCell'=true) (hvb:v.ownBlock≠some vb):
  Calls Tryz.prog 270 #[v,.int .i64 i,.slice (some ⟨vb,0,none⟩) 1 1] w (iD base v (n+1) (xs.take (i*4)++ys++xs.drop (i*4)) w):=by
 by_cases Ph:i=n
 .subst Ph
  have e1:xs.take (i*4)=xs:=by rw[<-h.1];exact MC
  have e2:xs.drop (i*4)=[]:=by rw[<-h.1];exact List.drop_length
  rw[e1,e2,Nc]
  exact yD base v i xs 1 w vb ys h hbw rfl hn ov hys h2
 .have h':=h
  rcases h.2 with⟨_,h0⟩|⟨g,cap,cur0,rfl,hb,hg,hnc,Pb,SK,htake⟩
  .omega
  .obtain⟨cur,rfl⟩:∃cur:List Value,cur0=cur.toArray:=⟨cur0.toList,by simp⟩
   have Ot:vb≠g:=fun e=>hvb (by rw[e];rfl)
   by_cases hr:n+1<=cap
   .exact wC base n xs i 1 w g cap cur vb ys hg hb Pb (by simpa using SK) (by simpa using htake) h'.1 h1 (by omega) rfl hr ov hys h2 Ot
   .exact wP base n xs i 1 w g cap cur vb ys hg hb hnc Pb (by simpa using SK) (by simpa using htake) h'.1 h1 (by omega) hn rfl (by omega) ov hys h2
def bJ (S:Nat->Prop) (v:Value) (n:Nat):Prop:=∀g off sp n' c,v=.slice (some ⟨g,off,sp⟩) n' c->0<n->¬S g
def ax (S:Nat->Prop) (w:World) (v:Value) (l:List Nf):Prop:=∃vs:List (Nf×Value),vs.map (·.1)=l/\cj w v vs.length 4 (Nx vs)/\(∀x∈vs,bd w x/\bJ S x.2 x.1.runs.length)/\bJ S v vs.length
theorem ax.plain (h:ax S w v l):aS w v l:=by
 obtain⟨vs,h1,h2,h3,_⟩:=h
 exact⟨vs,h1,h2,fun x hx=>(h3 x hx).1⟩
theorem af.off {l:List (Int×Int)} (h:af w v l lo hi) (hS:∀x,S x->w.heap.size<=x):bJ S v l.length:=by
 intro g off sp n c e hn hg
 rcases h with⟨h,_⟩|⟨b,off',c',e',_,_,h4,h5,_⟩
 .rw[h]at hn;simp at hn
 .rw[e']at e
  injection e with e
  injection e with e
  injection e with e
  subst e
  have:=hS _ hg
  omega
theorem ax.kept0 (h:ax S w v l) (k:aa [] w w'):ax S w' v l:=by
 obtain⟨vs,h1,h2,h3,h4⟩:=h
 exact⟨vs,h1,h2.kept0 k,fun x hx=>⟨(h3 x hx).1.kept0 k,(h3 x hx).2⟩,h4⟩
theorem cj.cf (h:cj w v n k xs) (q:aa T w w') (ho:bJ S v n) (hT:∀x∈T,S x):cj w' v n k xs:=by
 refine⟨h.1,?_⟩
 rcases h.2 with h2|⟨b,off,c,e,h3,h4,h5⟩
 .exact Or.inl h2
 .exact Or.inr ⟨b,off,c,e,fun j u hj=>(q.cell (by exact h4) (fun hb=>ho _ _ _ _ _ e h5.1 (hT _ hb))).trans (h3 j u hj),Mo h4 q.size,h5⟩
theorem af.cf {l:List (Int×Int)} (h:af w v l lo hi) (q:aa T w w') (ho:bJ S v l.length) (hT:∀x∈T,S x):af w' v l lo hi:=by
 rcases h with h|⟨b,off,c,h1,h2,h3,h4,h5,h6,h7⟩
 .exact Or.inl h
 .have hn:0<l.length:=MH.2 h6
  have hb:b∉T:=fun hb=>ho _ _ _ _ _ h1 hn (hT _ hb)
  refine Or.inr ⟨b,off,c,h1,fun i hi=>?_,h3,h4,MA h5 q.size,h6,h7⟩
  obtain⟨x,y⟩:=h2 i hi
  exact⟨(q.cell (by show b<_;omega) hb).trans x,(q.cell (by show b<_;omega) hb).trans y⟩
theorem ax.cf (h:ax S w v l) (k:aa T w w') (hT:∀x∈T,S x):ax S w' v l:=by
 obtain⟨vs,h1,h2,h3,h4⟩:=h
 exact⟨vs,h1,h2.cf k h4 hT,fun x hx=>⟨⟨((h3 x hx).1.1.cf k (h3 x hx).2 hT).jK,(h3 x hx).1.2⟩,(h3 x hx).2⟩,h4⟩
theorem ax.nil (S:Nat->Prop) (w:World):ax S w (.slice none 0 0) []:=⟨[],rfl,⟨rfl,Or.inl ⟨rfl,none,0,rfl⟩⟩,fun x hx=>(by cases hx),fun g off sp n c e=>(by injection e with e;cases e)⟩
theorem bJ.row {e:TypeId} (h:w.ownsRow base e k v n xs) (hS:∀x,S x->x<base) (m:Nat):bJ S v m:=by
 intro g off sp n' c ev _ hg
 have h1:=Mn h g (by rw[ev];rcases h.2 with⟨e1,_⟩|⟨g2,cap,cur,e1,_⟩;(rw[e1]at ev;cases ev);(rw[e1]at ev;injection ev with ev;injection ev with ev;injection ev with ev;subst ev;rfl))
 have:=hS _ hg
 omega
theorem ax.bo (h:w.ownsRow base 113 4 v vs.length (Nx vs)) (hS:∀x,S x->x<base) (h3:∀x∈vs,bd w x/\bJ S x.2 x.1.runs.length):ax S w v (vs.map (·.1)):=⟨vs,rfl,cj.bo h,h3,bJ.row h hS _⟩
def nK (S:Nat->Prop) (l:List Nf) (w:World) (e:Ending) (w':World):Prop:=∃v,e=.returned v/\ax S w' v l/\aa [] w w'
def PZ (x:Nf) (xv:Value):List Value:=[.int .u32 x.id,.string (bs x.name),.int .i64 x.size,xv]
theorem A8 (x:Nf) (h:iF xv):∀u∈PZ x xv,u.oneCell'=true:=by
 intro u hu
 obtain⟨p,n,c,rfl⟩:=h
 simp[PZ]at hu
 rcases hu with rfl|rfl|rfl|rfl<;>rfl
theorem IE :(vs.take (NP (vs.map (·.1)) x)++[(x,xv)]++vs.drop (NP (vs.map (·.1)) x)).map (·.1)=P0 (vs.map (·.1)) x:=by
 unfold P0
 rw[Ms,Ms,List.map_take,List.map_drop]
 simp
theorem aS.JP (h:w'.ownsRow base 113 4 v (vs.length+1) ((Nx vs).take (NP (vs.map (·.1)) x*4)++PZ x xv++(Nx vs).drop (NP (vs.map (·.1)) x*4))) (hS:∀x,S x->x<base) (h3:∀y∈vs,bd w y/\bJ S y.2 y.1.runs.length) (hx:bd w (x,xv)/\bJ S xv x.runs.length) (k:aa [] w w'):ax S w' v (P0 (vs.map (·.1)) x):=by
 rw[<-IE (xv:=xv)]
 refine ax.bo (base:=base) ?_ hS (fun y hy=>?_)
 .have hle:=lh (vs.map (·.1)) x
  rw[Mm]at hle
  have e1:(vs.take (NP (vs.map (·.1)) x)++[(x,xv)]++vs.drop (NP (vs.map (·.1)) x)).length=vs.length+1:=by
   rw[Mc,Mc,Mp,Mq,MT];omega
  rw[e1,fK,fK,<-mR,<-jY]
  exact h
 .rcases Mj.1 hy with hy|hy
  .rcases Mj.1 hy with hy|hy
   .have:=h3 y (List.mem_of_mem_take hy);exact⟨this.1.kept0 k,this.2⟩
   .have:y=(x,xv):=by simpa using hy
    subst this;exact⟨hx.1.kept0 k,hx.2⟩
  .have:=h3 y (Nb hy);exact⟨this.1.kept0 k,this.2⟩
theorem ql {cs:Array Value} (o:ae W b cs t) (h:∀g,v.ownBlock=some g->b<g) (hk:∀S,(∀g,v.ownBlock=some g->g∈S)->aa S W W'):ae W' b cs t:=by
 cases hb:v.ownBlock with
 |none=>exact(hk [] (fun g hg=>by rw[hb]at hg;cases hg)).own o (by simp)
 |some g=>
  have:=h g hb
  exact(hk [g] (fun g' hg=>by rw[hb]at hg;injection hg with hg;simp[hg])).own o (by simp;omega)
theorem oE (k:aa [] w W) (h:∀g,v.ownBlock=some g->w.heap.size<=g) (hk:∀S,(∀g,v.ownBlock=some g->g∈S)->aa S W W'):aa [] w W':=by
 cases hb:v.ownBlock with
 |none=>exact k.call (hk [] (fun g hg=>by rw[hb]at hg;cases hg)) (fun x hx=>by cases hx)
 |some g=>
  refine k.call (hk [g] (fun g' hg=>by rw[hb]at hg;injection hg with hg;simp[hg])) (fun x hx=>?_)
  have:x=g:=by simpa using hx
  subst this
  exact Or.inr (h _ hb)
theorem M84 {A:Prop}(h:A:=by
 clear hK K
 refine tk 6 6 ?_
 refine MM (by kernel_rfl) ?_ _
 go_wp2_with fail
 go_ret
 exact PN.out _ _ K7.out hro7):A:=h
theorem LN (v:Value) (l:List Nf) (x:Nf) (xv:Value) (w:World) (h:ax S w v l) (hS:∀x,S x->x<w.heap.size) (hl:l.length<=100000) (hr:cV l) (hx:bd w (x,xv)/\bJ S xv x.runs.length):
  Calls Tryz.prog 235 #[v,.agg (x.cells xv),.func (.func 233) #[] #[]] w (nK S (P0 l x) w):=by
 have hs:=fun W (q:aa [] w W)=>AO v l x xv W (h.plain.kept0 q) (by omega) hr
 unfold gJ at hs
 have Vf:=lh l x
 obtain⟨vs,rfl,Qe,OJ,_⟩:=h
 rw[Mm]at hl Vf
 have Q1:∀y∈vs,iF y.2:=fun y hy=>(OJ y hy).1.iN
 have Pe:=fun W (q:aa [] w W)=>td v vs.length (Nx vs) W (Qe.kept0 q) (iA Q1) (by omega)
 obtain⟨px,nx,cx,rfl⟩:iF xv:=hx.1.iN
 have Ph:Hid (∀W v' vb,aa [] w W->W.ownsRow w.heap.size 113 4 v' vs.length (Nx vs)->ae W vb #[.int .u32 x.id,.string (bs x.name),.int .i64 x.size,.slice px nx cx] 113->v'.ownBlock≠some vb->Calls Tryz.prog 270 #[v',.int .i64 (NP (vs.map (·.1)) x),.slice (some ⟨vb,0,none⟩) 1 1] W (iD w.heap.size v' (vs.length+1) ((Nx vs).take (NP (vs.map (·.1)) x*4)++PZ x (.slice px nx cx)++(Nx vs).drop (NP (vs.map (·.1)) x*4)) W)):=
  fun W v' vb q Qi Yi Ot=>Hh w.heap.size v' vs.length (Nx vs) _ W vb (PZ x (.slice px nx cx)) Qi q.size (iA Q1) Vf (by omega) Yi rfl (A8 x ⟨_,_,_,rfl⟩) Ot
 have PN:Hid (∀W v',aa [] w W->W.ownsRow w.heap.size 113 4 v' (vs.length+1) ((Nx vs).take (NP (vs.map (·.1)) x*4)++PZ x (.slice px nx cx)++(Nx vs).drop (NP (vs.map (·.1)) x*4))->nK S (P0 (vs.map (·.1)) x) w (.returned v') W):=fun W v' q Qi=>⟨v',rfl,aS.JP Qi hS OJ hx q,q⟩
 have HS:=Mb hs
 have Sn:=Mb Pe
 obtain⟨pv,cv,rfl⟩:=Qe.shape
 unfold iD at Ph
 have oX:=ae.new w (x.cells (.slice px nx cx)) 113
 have k0:aa [] w (w.alloc (.cells (x.cells (.slice px nx cx)) 113)):=(aa.refl _ _).alloc _
 unfold Nf.cells at oX k0 HS ⊢
 obtain⟨x0,x1,x2,x3⟩:=oX.c4
 have OX:=Mb oX
 have K0:=Mb k0
 clear hs Pe Q1 OJ hx Vf hS oX k0 Qe hr
 generalize NP (vs.map (·.1)) x=P at*
 generalize P0 (vs.map (·.1)) x=IL at*
 generalize vs.length=L at*
 generalize Nx vs=IC at*
 go_enter Tryz.func235,Tryz.ntmps235
 go_wp2_with fail
 refine(HS.out _ K0.out).mono ?_;rintro e w2 ⟨q,rfl,hq,k2⟩
 have K2:=Mb (K0.out.trans k2)
 have o2:=k2.own OX.out (by simp)
 have O2:=Mb o2
 obtain⟨x0,x1,x2,x3⟩:=o2.c4
 clear hq o2
 go_wp2_with fail
 refine Ml (S:=(fun W=>W.cell? ⟨w.heap.size,0,none⟩=some (.int .u32 x.id)/\W.cell? ⟨w.heap.size,1,none⟩=some (.string (bs x.name))/\W.cell? ⟨w.heap.size,2,none⟩=some (.int .i64 x.size)/\W.cell? ⟨w.heap.size,3,none⟩=some (.slice px nx cx))) (by kernel_rfl) (by exact O2.out.drew.c4) (fun hHeld=>?_)
 refine tk 0 16 ?_
 refine tk 2 18 ?_
 refine tk 3 19 ?_
 refine wpAnyH_ready (rs:=[1,4]) (by kernel_rfl) (by simp) ?_
 refine(AllReadyH.cons rfl (fun K hK=>?_) (AllReadyH.cons rfl (fun K hK=>?_) AllReadyH.nil))
 .go_simp
  ((with_reducible refine(Sn.out _ K2.out.drew).mono ?_));rintro e w5 ⟨v5,rfl,r5,k5⟩
  have K5:=Mb (K2.out.drew.trans k5)
  have o5:=k5.own O2.out.drew (by simp)
  have O5:=Mb o5
  have R5:=Mb r5
  clear r5 o5
  go_wp2_with fail
  refine hK.out _ _ ?_ (fun hHeld=>nm ?_)
  .exact O5.out.c4
  clear hK K
  refine rd 4 (fun K hK=>?_)
  go_simp
  refine hK.out _ _ ?_ (fun hHeld=>nm ?_)
  .go_keep
  clear hK K
  have Yi:=ae.new w5 #[.int .u32 x.id,.string (bs x.name),.int .i64 x.size,.slice px nx cx] 113
  have TY:=Mn R5.out
  have Sj:=Me (aH R5.out K2.out.size) (.cells #[.int .u32 x.id,.string (bs x.name),.int .i64 x.size,.slice px nx cx] 113)
  have Ot:v5.ownBlock≠some w5.heap.size:=fun e=>by have:=(TY _ e).2;omega
  have WQ:=Ph.out _ v5 _ (K5.out.alloc _) Sj Yi Ot
  have aa6:=Mb WQ
  have HR6:=Mb (Mn Sj)
  have Tu:Hid (∀g,v5.ownBlock=some g->w.heap.size<g):=Mb (fun g hg=>by have h1:=(TY g hg).1;have h2:=O2.out.lt;simp at h1;omega)
  clear Yi TY Sj Ot WQ
  refine rd 5 (fun K hK=>?_)
  go_simp
  ((with_reducible refine aa6.out.mono ?_));rintro e w7 ⟨v7,rfl,hro7,QD⟩
  have K7:Hid (aa [] w w7):=Mb (oE (K5.out.alloc _) (fun g hg=>(HR6.out g hg).1) QD)
  go_wp2_with fail
  refine hK.out _ _ ?_ (fun hHeld=>nm ?_)
  .exact(ql (O5.out.alloc _) (fun g hg=>Tu.out g hg) QD).c4
  exact M84
 .go_simp
  refine hK.out _ _ ?_ (fun hHeld=>nm ?_)
  .go_keep
  clear hK K
  have Yi:=ae.drew (ae.new w2 #[.int .u32 x.id,.string (bs x.name),.int .i64 x.size,.slice px nx cx] 113)
  have HOV:=Mb Yi
  have KB:Hid (aa [] w (w2.alloc (.cells #[.int .u32 x.id,.string (bs x.name),.int .i64 x.size,.slice px nx cx] 113)).drew):=Mb ((K2.out.alloc _).drew)
  have OB:Hid (ae (w2.alloc (.cells #[.int .u32 x.id,.string (bs x.name),.int .i64 x.size,.slice px nx cx] 113)).drew w.heap.size #[.int .u32 x.id,.string (bs x.name),.int .i64 x.size,.slice px nx cx] 113):=Mb ((O2.out.alloc _).drew)
  clear Yi
  refine rd 1 (fun K hK=>?_)
  go_simp
  ((with_reducible refine(Sn.out _ KB.out).mono ?_));rintro e w5 ⟨v5,rfl,r5,k5⟩
  have K5:=Mb (KB.out.trans k5)
  have o5:=k5.own OB.out (by simp)
  have O5:=Mb o5
  have abj:=k5.own HOV.out (by simp)
  have TY:=Mn r5
  have Ot:v5.ownBlock≠some w2.heap.size:=fun e=>by have:=(TY _ e).1;simp at this;omega
  have Sj:=aH r5 KB.out.size
  have WQ:=Ph.out _ v5 _ K5.out Sj abj Ot
  have aa6:=Mb WQ
  have HR6:=Mb (Mn Sj)
  have Tu:Hid (∀g,v5.ownBlock=some g->w.heap.size<g):=Mb (fun g hg=>by have h1:=(TY g hg).1;have h2:=O2.out.lt;simp at h1;omega)
  clear r5 o5 abj TY Ot Sj WQ
  go_wp2_with fail
  refine hK.out _ _ ?_ (fun hHeld=>nm ?_)
  .exact O5.out.c4
  clear hK K
  refine rd 5 (fun K hK=>?_)
  go_simp
  ((with_reducible refine aa6.out.mono ?_));rintro e w7 ⟨v7,rfl,hro7,QD⟩
  have K7:Hid (aa [] w w7):=Mb (oE K5.out (fun g hg=>(HR6.out g hg).1) QD)
  go_wp2_with fail
  refine hK.out _ _ ?_ (fun hHeld=>nm ?_)
  .exact(ql O5.out (fun g hg=>Tu.out g hg) QD).c4
  exact M84
def kj (l:List Nf):Prop:=l.length<=1000000/\∀a∈l,a.runs.length<=1000000
def iq (c:aj):Prop:=kj c.boxes/\kj c.mans/\kj c.names
def cC (w:World) (v:Value) (c:aj):Prop:=∃vb vm vn,v=.agg #[.int .u32 c.nextBox,.int .u32 c.nextMan,vb,vm,vn]/\aS w vb c.boxes/\aS w vm c.mans/\aS w vn c.names/\(Lit.int .u32 c.nextBox).wf=true/\(Lit.int .u32 c.nextMan).wf=true
theorem cC.kept0 {c:aj} (h:cC w v c) (k:aa [] w w'):cC w' v c:=by
 obtain⟨vb,vm,vn,e,h1,h2,h3,h4⟩:=h
 exact⟨vb,vm,vn,e,h1.kept0 k,h2.kept0 k,h3.kept0 k,h4⟩
theorem ae.k5 {x0 x1 x2 x3 x4:Value} (h:ae w b #[x0,x1,x2,x3,x4] t):w.cell? ⟨b,0,none⟩=some x0/\w.cell? ⟨b,1,none⟩=some x1/\w.cell? ⟨b,2,none⟩=some x2/\w.cell? ⟨b,3,none⟩=some x3/\w.cell? ⟨b,4,none⟩=some x4:=
 ⟨h.cell 0 (by simp),h.cell 1 (by simp),h.cell 2 (by simp),h.cell 3 (by simp),h.cell 4 (by simp)⟩
def dr (q:Prop) (w:World) (e:Ending) (w':World):Prop:=∃b,e=.returned (.bool b)/\(b=true↔q)/\aa [] w w'
theorem eP (h:¬q) (k:aa [] w w'):dr q w (.returned (.bool false)) w':=⟨false,rfl,⟨fun h'=>(by cases h'),fun h'=>absurd h' h⟩,k⟩
theorem kS (h:q) (k:aa [] w w'):dr q w (.returned (.bool true)) w':=⟨true,rfl,⟨fun _=>h,fun _=>rfl⟩,k⟩
theorem CX {m:List Nf} (hl:k<l.length) (hm:k<m.length) (h:l.take k=m.take k) (he:l[k]=m[k]):l.take (k+1)=m.take (k+1):=by
 rw[Mf hl,Mf hm,h,he]
theorem aj.rI (a b:aj):((a.nextBox==b.nextBox)=false/\a≠b)\/((a.nextBox==b.nextBox)=true/\(a.nextMan==b.nextMan)=false/\a≠b)\/((a.nextBox==b.nextBox)=true/\(a.nextMan==b.nextMan)=true/\(a=b↔a.boxes=b.boxes/\a.mans=b.mans/\a.names=b.names)):=by
 obtain⟨a1,a2,a3,a4,a5⟩:=a
 obtain⟨b1,b2,b3,b4,b5⟩:=b
 by_cases h1:a1=b1
 .by_cases h2:a2=b2
  .exact Or.inr (Or.inr ⟨by simpa using h1,by simpa using h2,by simp[h1,h2]⟩)
  .exact Or.inr (Or.inl ⟨by simpa using h1,by simpa using h2,by simp[h2]⟩)
 .exact Or.inl ⟨by simpa using h1,by simp[h1]⟩
end Go.Proofs.YtdkimcnlhmhpgaaGreat

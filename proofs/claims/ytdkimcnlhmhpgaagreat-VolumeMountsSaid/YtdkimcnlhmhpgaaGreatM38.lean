/- -/
import Derived.Test.YtdkimcnlhmhpgaaGreatM37
set_option maxHeartbeats 32000000
set_option maxRecDepth 100000
namespace Go.Proofs.YtdkimcnlhmhpgaaGreat
section
open Go.Proofs.Tryz Go.RowKit
variable {T:List Nat} {w:World} {B b sb lo:Nat} {v:VS}
theorem Am {mb:Nat} (hV:aL T w B b sb mb lo v) (hm:v.s.may) (hc:OL v.c) (hf:v.c.boxes.length+v.c.mans.length+v.c.names.length<=5000):
  am! 17 #[B] w fun e w'=>e=(OV (Oh v):Int)/\NP [] w w':=by
 have HR:=tK (Gw hV hm hc hf)
 have hp:Pl 0 (Oh v):=lC _ _
 have HC:Hid (∀W u PU PC,af W u (Oh v) PU PC->am! 65 #[u] W fun e w'=>e=(OV (Oh v):Int)/\NP [] W w'):=tK (fun W u PU PC h=>BU u _ PU PC W h (by have:=hp.gX;omega) (gT hp))
 have⟨sv,vb,vm,vn,o,_,_⟩:=hV.vol
 have⟨x0,x1,x2,x3,x4,x5,x6,x7,x8,x9,x10,x11,x12⟩:=o.ku
 clear hV hm hc hf hp o x1 x2 x3 x4 x5 x6 x7 x8 x9 x10 x11 x12
 go_enter func17,ntmps17
 go_wp2_with fail
 refine(HR.out).mono ?_;intro e w2 hg
 obtain⟨u,rfl,hu,k2⟩:=hg.runs
 have⟨HU,K2⟩:=_f hu k2
 obtain⟨p,c,rfl⟩:=hu.shape
 clear hu k2 hg
 go_wp2_with fail
 refine(HC.out _ _ _ _ HU.out).mono ?_;rintro e w3 ⟨rfl,k3⟩
 have K3:=tK (K2.out.trans k3)
 clear k3
 go_wp2_with fail
 go_ret
 exact⟨rfl,K3.out⟩
theorem F3 {p:NS->Bool} {l:List NS} {x:NS} (h:PI p l=(x,true)):x∈l:=by
 unfold PI at h
 cases hf:l.find? p with
 |none=>rw[hf]at h;cases h
 |some y=>
  rw[hf]at h
  injection h with h _
  subst h
  exact List.mem_of_find?_eq_some hf
theorem vH {w:World} {v:Value} {l:List (Int×Int)} {lo hi:Nat} {t:TypeId} (h:af (w.alloc (.cells #[.int .u32 0,.string {data:=#[]},(0:Int),()] t)) v l lo hi):af w v l 0 w:=by
 rcases h with h|⟨b,off,c,e,h2,h3,h4,h5,h6,h7⟩
 .exact Or.inl h
 .have k:=(NP.refl [] w).alloc (.cells #[.int .u32 0,.string {data:=#[]},(0:Int),()] t)
  have PW:(w.alloc (.cells #[.int .u32 0,.string {data:=#[]},(0:Int),()] t)).heap.size=w.heap.size+1:=_b
  by_cases hb:b<w.heap.size
  .refine Or.inr ⟨b,off,c,e,fun i hi=>?_,Nb _,hb,MG _,h6,h7⟩
   rw[<-k.cell (a:=(aa b (off+i*2))) hb _b,<-k.cell (a:=(aa b (off+i*2+1))) hb _b]
   exact h2 i hi
  .exfalso
   have WA:b=w.heap.size:=_a
   subst WA
   have o:=ae.new w #[.int .u32 0,.string {data:=#[]},(0:Int),()] t
   have⟨c0,c1,c2,c3⟩:=o.c4
   have hp:0<l.length:=Nu.2 h6
   have⟨g0,g1⟩:=h2 0 hp
   rw[Nat.zero_mul,Nat.add_zero]at g0 g1
   match off,g0,g1 with
   |0,g0,_=>rw[c0]at g0;simp at g0
   |1,g0,_=>rw[c1]at g0;simp at g0
   |2,_,g1=>rw[c3]at g1;simp at g1
   |3,g0,_=>rw[c3]at g0;simp at g0
   |n+4,g0,_=>
    have hn:(w.alloc (.cells #[.int .u32 0,.string {data:=#[]},(0:Int),()] t)).cell? (aa w (n+4))=none:=by
     have h':(w.alloc (.cells #[.int .u32 0,.string {data:=#[]},(0:Int),()] t)).heap[w.heap.size]? =some (.cells #[.int .u32 0,.string {data:=#[]},(0:Int),()] t (0,0)):=o
     unfold World.cell?
     simp only
     rw[h']
     simp
    rw[hn]at g0;cases g0
def vE (T:List Nat) (B b sb mb lo:Nat) (R:List UInt8×Int×VS) (w:World) (e:Ending) (w':World):Prop:=
 e=.returned (.tuple #[R.1,R.2.1])/\aL T w' B b sb mb lo R.2.2/\NP [B] w w'
theorem I8 {mb:Nat} (id:Int) (nm:List UInt8) (hV:aL T w B b sb mb lo v) (hc:OL v.c) (hd:v.dead=false):
  am! 15 #[B,(3:Int),(id,()),nm] w (vE T B b sb mb lo (sH v 3 id nm) w):=by
 have Tq:=tK (BZ hV)
 rw[hd,if_neg _b]at Tq
 have ab2:lN v.c 3 id nm=PI (fun x=>x.name==nm) v.c.names:=by unfold lN;rw[if_neg _d,if_neg _d]
 have QQ:sH v 3 id nm=if(PI (fun x=>x.name==nm) v.c.names).2=false then([],6,v)else(PV v.d (PI (fun x=>x.name==nm) v.c.names).1.runs (PI (fun x=>x.name==nm) v.c.names).1.size,N7 v.d (PI (fun x=>x.name==nm) v.c.names).1.runs (PI (fun x=>x.name==nm) v.c.names).1.size,⟨v.d,v.s,v.c,N7 v.d (PI (fun x=>x.name==nm) v.c.names).1.runs (PI (fun x=>x.name==nm) v.c.names).1.size==90⟩):=by
  unfold sH
  rw[if_neg ai!,if_neg _b,ab2]
 have⟨sv,vb,vm,vn,o,_,Oz⟩:=hV.vol
 have HF:Hid (∀W,NP [] w W->am! 59 #[.agg #[(v.c.nextBox,()),(v.c.nextMan,()),vb,vm,vn],nm] W (lT W (PI (fun x=>x.name==nm) v.c.names) W)):=tK (fun W k=>Af _ _ v.c W (Oz.plain.kept0 k) hc.small)
 have HO:Hid (∀W,NP [] w W->W.cell? B=b):=tK (fun W k=>(k.own o _b).cell 0 (by simp[bL]))
 have hlen:∀x,PI (fun x=>x.name==nm) v.c.names=(x,true)->x.runs.length<=16:=fun x hx=>nH (hc.names.2.1 x (F3 hx))
 have HG:Hid (∀(W:World) (u:Value) (PU PC:Nat) (x:NS),NP [] w W->af W u x.runs PU PC->x.fits->(∀a∈x.runs,aQ a)->x.runs.length<=16->am! 60 #[b,u,x.size] W fun e w'=>e=.returned (.tuple #[.string (bs (PV v.d x.runs x.size)),(N7 v.d x.runs x.size:Int)])/\NP [] W w'):=tK (fun W u PU PC (x:NS) k h1 h2 h3 h4=>GO u x.runs x.size PU PC (hV.da.aJ k) h1 _a h3 h2.2.2)
 have HT:Hid (∀W c,NP [] w W->(Lit.int .i64 c).wf=true->am! 51 #[B,.int .i64 c] W fun e w'=>e=.returned (.int .i64 c)/\aL T w' B b sb mb lo ⟨v.d,v.s,v.c,c==90⟩/\NP [B] W w'):=tK (fun W c k hcw=>by
  have h:=Kr (hV.aJ k) c hcw
  unfold Qk at h
  rw[hd,Bool.false_or]at h
  exact h)
 have HV:=tK hV
 have XQ:Hid (∀W,NP [] w W->W.cell? B=b/\W.cell? (aa B 7)=(v.c.nextBox,())/\W.cell? (aa B 8)=(v.c.nextMan,())/\W.cell? (aa B 9)=some vb/\W.cell? (aa B 10)=some vm/\W.cell? (aa B 11)=some vn):=tK (fun W k=>by
  have⟨a0,_,_,_,_,_,_,a7,a8,a9,a10,a11,_⟩:=(k.own o _b).ku
  exact⟨a0,a7,a8,a9,a10,a11⟩)
 have⟨x0,x7,x8,x9,x10,x11⟩:=XQ.out (w.alloc (.cells #[.int .u32 0,.string {data:=#[]},(0:Int),()] 113)) ((NP.refl [] w).alloc _)
 rw[QQ]
 have OZ:=tK hlen
 have Z6:Hid (∀l n,(Lit.int .i64 (N7 v.d l n)).wf=true):=tK (fun l n=>by unfold N7;split;split;decide;decide;decide)
 clear hV hc hd ab2 QQ Oz hlen o
 generalize PI (fun x=>x.name==nm) v.c.names=X at*
 obtain⟨X,there⟩:=X
 have oXA:=ae.new w #[.int .u32 0,.string {data:=#[]},(0:Int),()] 113
 have ach:=tK oXA
 clear oXA
 cases there
 .simp only[if_true]
  go_enter func15,ntmps15
  go_wp2_with fail
  refine Tq.out.mono ?_;rintro e w2 ⟨rfl,rfl⟩
  go_wp2_with fail
  refine(HF.out _ ?_).mono ?_
  .exact(NP.refl _ _).alloc _
  rintro e w3 ⟨kv,rfl,Pf,k3⟩
  obtain⟨pk,ck,ekv⟩:∃p c,kv=.slice p X.runs.length c:=Pf.1.shape
  subst ekv
  unfold NS.cells
  have ox:=k3.own ach.out _b
  have⟨y0,y1,y2,y3⟩:=ox.c4
  have⟨z0,z1,z2,z3⟩:=ox.z4
  have kk:=((NP.refl [] w).alloc (.cells #[.int .u32 0,.string {data:=#[]},(0:Int),()] 113)).trans k3
  have kf:=(((kk.setCell (p:=w) (Or.inr (MG _)) (X.id,())).setCell (p:=(aa w 1)) (Or.inr (MG _)) X.name).setCell (p:=(aa w 2)) (Or.inr (MG _)) X.size).setCell (p:=(aa w 3)) (Or.inr (MG _)) (pk,X.runs.length,ck)
  have KF:=tK kf
  clear ox kk kf k3 Pf
  go_wp2_with fail
  go_ret2
  exact⟨rfl,HV.out.aJ KF.out,KF.out.mono _b⟩
 .simp only[Bool.true_eq_false,if_false]
  have RV:=OZ.out X rfl
  have aez:=tK RV
  clear RV
  go_enter func15,ntmps15
  go_wp2_with fail
  refine Tq.out.mono ?_;rintro e w2 ⟨rfl,rfl⟩
  go_wp2_with fail
  refine(HF.out _ ?_).mono ?_
  .exact(NP.refl _ _).alloc _
  rintro e w3 ⟨kv,rfl,Pf,k3⟩
  obtain⟨pk,ck,ekv⟩:∃p c,kv=.slice p X.runs.length c:=Pf.1.shape
  subst ekv
  unfold NS.cells
  have ox:=k3.own ach.out _b
  have⟨y0,y1,y2,y3⟩:=ox.c4
  have⟨z0,z1,z2,z3⟩:=ox.z4
  have kk:=((NP.refl [] w).alloc (.cells #[.int .u32 0,.string {data:=#[]},(0:Int),()] 113)).trans k3
  have SI:=tK kk
  obtain⟨ok1,ok2,ok3⟩:=Pf
  have⟨adL,Xk,adU,HOX,Xi⟩:=gi! ok1 ok2 ok3 ox k3
  clear ox kk k3 ok1 ok2 ok3
  go_upto_region 16 with fail
  have kf:=(((SI.out.setCell (p:=w) (Or.inr (MG _)) (X.id,())).setCell (p:=(aa w 1)) (Or.inr (MG _)) X.name).setCell (p:=(aa w 2)) (Or.inr (MG _)) X.size).setCell (p:=(aa w 3)) (Or.inr (MG _)) (pk,X.runs.length,ck)
  have of:ae ((((w3.setCell w (X.id,())).setCell (aa w 1) X.name).setCell (aa w 2) X.size).setCell (aa w 3) (pk,X.runs.length,ck)) w #[(X.id,()),X.name,X.size,(pk,X.runs.length,ck)] 113:=(((HOX.out.set 0 (X.id,())).set 1 X.name).set 2 X.size).set 3 (pk,X.runs.length,ck)
  generalize ((((w3.setCell w (X.id,())).setCell (aa w 1) X.name).setCell (aa w 2) X.size).setCell (aa w 3) (pk,X.runs.length,ck))=w4 at*
  have hr4:=(vH adL.out).kept0 kf
  have⟨Z0,KF,HOF⟩:=gg! hr4 kf of
  have aby:Hid (∀W,NP [] w4 W->W.cell? B=b/\W.cell? (aa w 2)=X.size/\W.cell? (aa w 3)=(pk,X.runs.length,ck)):=tK (fun W k=>by
   have⟨_,_,e2,e3⟩:=(k.own HOF.out _b).c4
   exact⟨HO.out W (KF.out.trans k),e2,e3⟩)
  clear of kf hr4 y0 y1 y2 y3 z0 z1 z2 z3 x0 x7 x8 x9 x10 x11
  have⟨y0,y1,y2⟩:=aby.out w4 (NP.refl _ _)
  refine MK (S:=(fun W=>W.cell? B=b/\W.cell? (aa w 2)=X.size/\W.cell? (aa w 3)=(pk,X.runs.length,ck))) _c (by exact aby.out _ ((NP.refl [] w4).drew)) (fun hHeld=>?_)
  refine tS ?_
  refine rD 8 (fun K hK=>?_)
  go_simp
  ((with_reducible refine(HG.out _ _ _ _ X ((KF.out).drew) (Z0.out.kept0 ((NP.refl [] w4).drew)) Xk.out adU.out aez.out).mono ?_));rintro e w5 ⟨rfl,k5⟩
  have Sp:=((NP.refl [] w4).drew).trans k5
  have K5:=tK Sp
  clear Sp k5
  go_wp2_with fail
  refine hK.out _ _ (aby.out _ K5.out) (fun hHeld=>nM ?_)
  clear hK K
  refine tS ?_
  refine Ng _c ?_ _
  try simp only[List.set_cons_succ,List.set_cons_zero]
  have KW:=tK (KF.out.trans K5.out)
  have U0:=Z6.out X.runs X.size
  have HT5:=tK (HT.out w5 _ (KF.out.trans K5.out) U0)
  clear U0 y0 y1 y2
  generalize N7 v.d X.runs X.size=GC at*
  generalize PV v.d X.runs X.size=GX at*
  go_wp2_with fail
  refine HT5.out.mono ?_;rintro e w6 ⟨rfl,hV6,k6⟩
  have HV6:=tK hV6
  have K6:=tK ((KW.out.mono _b).trans k6)
  clear hV6 k6
  go_wp2_with fail
  go_ret2
  exact⟨rfl,HV6.out,K6.out⟩
end
section
open Go.Proofs.Tryz Go.ChangeShapes Go.WideShapes Go.ChangeAt Go.RowKit Go.Deep
instance:Inhabited VC:=⟨⟨0,0,[],[]⟩⟩
section
variable {H:Type} {enc:TypeId×Value->H} {w:World} {base:Nat} {held:Bool} {r:Reach} {b0:Nat}
end
end
open Go.Proofs.Tryz Go.RowKit
variable {S T T':List Nat} {w w' w1:World} {b sb lo base bx:Nat} {d:DK} {v:Value} {c:au} {s:List UInt8} {nb nm:Int} {A B C:List NS}
theorem aD.aside {mb:Nat} (h:aD w b sb mb lo d) (k:NP S w w') (hS:∀x∈S,bf [] w b sb mb x):aD w' b sb mb lo d:=by
 obtain⟨wv,n,ob,os,Sr,hm,hn,h2,h3,h4,h5,h6,r⟩:=h
 have n1:b∉S:=fun hx=>(hS b hx).2.1 rfl
 have n2:sb∉S:=fun hx=>(hS sb hx).2.2.1 rfl
 have n3:mb∉S:=fun hx=>(hS mb hx).2.2.2.1 rfl
 have hr:w'.ownsRow lo 206 2 wv d.waits.length (PG d.waits):=by
  obtain⟨r1,r2⟩:=Sr
  refine⟨r1,?_⟩
  rcases r2 with r2|⟨g,cap,cur,rfl,hg,hh,r⟩
  .exact Or.inl r2
  .refine Or.inr ⟨g,cap,cur,rfl,hg,(k.block g (NK hh) (fun hx=>?_)).trans hh,r⟩
   exact(hS g hx).2.2.2.2 ⟨_,ob.cell 1 _b,rfl⟩
 exact⟨wv,n,k.own ob n1,k.own os n2,hr,hm.kept k n3,hn,h2,h3,h4,h5,Nk h6 k.size,r⟩
theorem DA.aside {mb:Nat} (h:DA w b sb mb lo d) (k:NP S w w') (hS:∀x∈S,bf [] w b sb mb x):DA w' b sb mb lo d:=⟨h.disk.aside k hS,h.fit⟩
theorem WB.aside (hb:b<w.heap.size) (k:NP S w w') (hS:b∉S) (g:Nat):WB w' b g↔WB w b g:=WB.iw (k.cell (a:=(aa b 1)) hb hS)
theorem bf.aside {mb g:Nat} (h:bf T w b sb mb g) (hb:b<w.heap.size) (k:NP S w w') (hS:b∉S):bf T w' b sb mb g:=⟨h.1,h.2.1,h.2.2.1,h.2.2.2.1,fun hx=>h.2.2.2.2 ((WB.aside hb k hS g).1 hx)⟩
theorem wD {mb:Nat} (hb:b<w.heap.size) (k:NP S w w') (hS:b∉S) (hT':∀x∈T',x∈T\/w.heap.size<=x):∀g,SD T' w' b sb mb g->SD T w b sb mb g\/w.heap.size<=g:=by
 intro g hg
 by_cases NV:w.heap.size<=g
 .exact Or.inr NV
 .refine Or.inl fun ho=>hg ⟨fun hx=>?_,ho.2.1,ho.2.2.1,ho.2.2.2.1,fun hx=>ho.2.2.2.2 ((WB.aside hb k hS g).1 hx)⟩
  rcases hT' g hx with h|h
  .exact ho.1 h
  .exact NV h
theorem dE.aside {mb:Nat} (h:dE T w b sb mb v c) (hb:b<w.heap.size) (k:NP S w w') (hST:∀x∈S,x∈T) (hS:b∉S) (hT':∀x∈T',x∈T\/w.heap.size<=x):dE T' w' b sb mb v c:=by
 have h1:av (SD T w b sb mb) w' v c:=av.aS h k (fun x hx ho=>ho.1 (hST x hx))
 have h0:av (fun x=>SD T w b sb mb x\/w.heap.size<=x) w v c:=av.more h (fun x hx=>hx)
 have h2:av (fun x=>SD T w b sb mb x\/w.heap.size<=x) w' v c:=av.aS h0 k (fun x hx=>Or.inl (fun ho=>ho.1 (hST x hx)))
 exact h2.cI (fun g hg=>wD hb k hS hT' g hg)
theorem ep.aside {mb:Nat} {l:List (Int×Int)} (h:ep T w b sb mb v l) (hb:b<w.heap.size) (k:NP S w w') (hST:∀x∈S,x∈T) (hS:b∉S) (hT':∀x∈T',x∈T\/w.heap.size<=x):ep T' w' b sb mb v l:=by
 obtain⟨⟨lo,hi,h1⟩,h2⟩:=h
 refine⟨⟨lo,hi,h1.aS k h2 (fun x hx ho=>ho.1 (hST x hx))⟩,fun g off sp n' c e hn hg=>?_⟩
 rcases wD hb k hS hT' g hg with h3|h3
 .exact h2 g off sp n' c e hn h3
 .have:=h1.mT g off sp n' c e hn
  omega
theorem aL.aside {B mb:Nat} {v:VS} (h:aL T w B b sb mb lo v) (k:NP S w w') (hS:∀x∈S,x∈T/\x≠B/\bf [] w b sb mb x) (hT':∀x∈T',x<w'.heap.size/\(x∈T\/w.heap.size<=x)) (hB:B∈T'):aL T' w' B b sb mb lo v:=by
 have Xq:b∉S:=fun hx=>(hS b hx).2.2.2.1 rfl
 obtain⟨hD,⟨sv,vb,vm,vn,o,hr,hc⟩,_,_,RT⟩:=h
 have hBS:B∉S:=fun hx=>(hS B hx).2.1 rfl
 exact⟨hD.aside k (fun x hx=>(hS x hx).2.2),⟨sv,vb,vm,vn,k.own o hBS,hr.aside hD.bH k (fun x hx=>(hS x hx).1) Xq (fun x hx=>(hT' x hx).2),hc.aside hD.bH k (fun x hx=>(hS x hx).1) Xq (fun x hx=>(hT' x hx).2)⟩,hB,fun x hx=>(hT' x hx).1,RT.aside hD.bH k Xq⟩
theorem ye {T:List Nat} {w w':World} {B b sb mb lo:Nat} {d:DK} {s:SB} {c:au} {sv vb vm vn:Value} (hD:DA w b sb mb lo d) (k:NP [] w w') (hB:w.heap.size<=B) (o:ae w' B (bL b s sv c vb vm vn false) 90) (hr:af w' sv s.runs w B) (hc:av (fun x=>x<w.heap.size\/x=B) w' (.agg #[(c.nextBox,()),(c.nextMan,()),vb,vm,vn]) c)
  (hBT:B∈T) (hT:∀x∈T,x<w.heap.size\/x=B):aL T w' B b sb mb lo ⟨d,s,c,false⟩:=by
 have hsd:∀g,SD T w' b sb mb g->g<w.heap.size\/g=B:=fun g hg=>by
  apply NG
  intro hn
  have h1:w.heap.size<=g/\g≠B:=_a
  refine hg ⟨fun hx=>?_,by have:=hD.bH;omega,by have:=hD.sC;omega,by have:=hD.vP;omega,fun hx=>by have:=hD.Ak ((hD.tG k g).1 hx);omega⟩
  rcases hT g hx with h|h
  .omega
  .exact h1.2 h
 refine⟨hD.aJ k,⟨sv,vb,vm,vn,o,⟨⟨_,_,hr⟩,fun g off sp n' c' e hn hg=>?_⟩,hc.cI hsd⟩,hBT,fun x hx=>?_,hD.bU (fun x hx=>by cases hx) k hB⟩
 .rcases hr with⟨h0,_⟩|⟨g',off',c'',e',_,h3,h4,_⟩
  .rw[h0]at hn;simp at hn
  .rw[e']at e
   injection e with e
   injection e with e
   injection e with e
   subst e
   rcases hsd _ hg with h|h<;>omega
 .rcases hT x hx with h|h
  .exact MR h k.size
  .rw[h];exact o.lt
theorem Ba {st:List (List UInt8)} {n:Nat} (h:∀s∈st,s.length=128) (hn:st.length=n):dA st.flatten n n=st/\st.flatten.length=128*n:=by
 have hl:st.flatten.length=128*n:=by
  rw[<-hn]
  clear hn
  induction st with
  |nil=>rfl
  |cons a t ih=>
   rw[List.flatten_cons,tN,h a _b,ih (fun s hs=>h s (by simp[hs])),Nj]
   omega
 refine⟨List.ext_getElem (by rw[nJ _ _ _ (MG _),hn]) (fun i h1 h2=>?_),hl⟩
 have h3:=FF st.flatten n i _a
 rw[Nx,MZ h1,Option.getD_some]at h3
 exact h3.trans (F9 st h i h2)
theorem J6 (hf:dS d) (h1:1<=d.stand.length) (h2:d.stand.length<=8192) (w:World):
  am! 22 #[d.stand.flatten] w fun e w'=>∃b sb mb lo,e=.returned (.tuple #[.pointer (some ⟨b,0,none⟩),(0:Int)])/\DA w' b sb mb lo (QP d.stand)/\NP [] w w'/\w.heap.size<=b/\w.heap.size<=sb/\w.heap.size<=mb/\w.heap.size<=lo:=by
 have⟨e1,e2⟩:=Ba hf.all rfl
 refine(Lz d.stand.flatten d.stand.length w e2 h1 h2).mono fun e w' hh=>?_
 obtain⟨b,sb,mb,lo,he,hD,g1,g2,g3,k⟩:=hh
 rw[e1]at hD
 refine⟨b,sb,mb,lo,he,⟨hD,⟨fun x hx=>J!,hf.all⟩⟩,k,g3,g1,g2,?_⟩
 have:=(aD.L2 hD).1
 omega
theorem eK.aside {S:List Nat} {w w':World} {r rlo:Nat} {d:DK} (h:eK w r rlo d) (k:NP S w w') (hr:r∉S) (hS:∀x∈S,rlo<=x->∀cs,w.heap[x]? ≠some (.cells cs 9 (0,0))/\w.heap[x]? ≠some (.cells cs 208 (0,0))):eK w' r rlo d:=by
 obtain⟨sv,wv,o,hsr,Sr,h1,h2,r3⟩:=h
 exact⟨sv,wv,k.own o hr,cF hsr k (fun x hx hb cs=>(hS x hx hb cs).1),cF Sr k (fun x hx hb cs=>(hS x hx hb cs).2),Nk h1 k.size,h2,r3⟩
theorem zn {x:Nat} {cs TL:Array Value} {t t':TypeId} (o:ae w x cs t) (h:t≠t'):w.heap[x]? ≠some (.cells TL t' (0,0)):=fun hc=>by
 have o':w.heap[x]? =some (.cells cs t (0,0)):=o
 rw[o']at hc
 injection hc with hc
 injection hc with _ ht
 exact h ht
structure oe (P:Nat->Prop) (w:World) (R r rlo:Nat) (v:VS):Prop where
 qa:QA w r rlo v.d
 vol:∃sv vb vm vn,ae w R (bL r v.s sv v.c vb vm vn v.dead) 202/\(∃lo hi,af w sv v.s.runs lo hi)/\bD P sv v.s.runs.length/\av P w (.agg #[(v.c.nextBox,()),(v.c.nextMan,()),vb,vm,vn]) v.c
 hr:P r
 hR:P R
 lt:∀x,P x->x<w.heap.size
 ne:R≠r
section
variable {P:Nat->Prop} {w w':World} {R r rlo:Nat} {v:VS}
theorem oe.kept {d':DK} (h:oe P w R r rlo v) (k:NP S w w') (hS:∀x∈S,P x) (hRS:R∉S) (hq:QA w' r rlo d'):oe P w' R r rlo ⟨d',v.s,v.c,v.dead⟩:=by
 obtain⟨sv,vb,vm,vn,o,⟨lo,hi,hr⟩,P0,hc⟩:=h.vol
 exact⟨hq,⟨sv,vb,vm,vn,k.own o hRS,⟨lo,hi,hr.aS k P0 hS⟩,P0,av.aS hc k hS⟩,h.hr,h.hR,fun x hx=>MR (h.lt x hx) k.size,h.ne⟩
theorem oe.aJ (h:oe P w R r rlo v) (k:NP [] w w'):oe P w' R r rlo v:=h.kept k (fun x hx=>by cases hx) _b (h.qa.aJ k)
end
def jG (s:List UInt8) (w:World) (e:Ending) (w':World):Prop:=
 ((∃c v,OL c/\il c/\bN c=s/\av (fun x=>x<w.heap.size) w' v c/\e=.returned (.tuple #[v,true]))\/(fT s/\e=.returned (.tuple #[.agg #[.int .u32 0,.int .u32 0,(),(),()],false])))/\NP [] w w'
theorem jt (h:fT s) (k:NP [] w w'):jG s w (.returned (.tuple #[.agg #[.int .u32 0,.int .u32 0,(),(),()],false])) w':=⟨Or.inr ⟨h,rfl⟩,k⟩
theorem wW (h1:OL c) (h2:bN c=s) (h3:av (fun x=>x<w.heap.size) w' v c) (k:NP [] w w'):jG s w (.returned (.tuple #[v,true])) w':=⟨Or.inl ⟨c,v,h1,h3.plain.fit,h2,h3,rfl⟩,k⟩
def qZ (w1:World) (v:Value):Prop:=∀g,v.ownBlock=some g->w1.heap.size<=g
theorem qZ.nil (w1:World):qZ w1 ():=fun g hg=>by simp[Value.ownBlock]at hg
def fo (base:Nat) (w1 w:World) (bx:Nat) (nb nm:Int) (A B C:List NS):Prop:=
 ∃va vb vc xs ys zs,ae w bx #[(nb,()),(nm,()),va,vb,vc] 52/\eP base w va vb vc xs ys zs/\xs.map (·.1)=A/\ys.map (·.1)=B/\zs.map (·.1)=C/\NP [bx] w1 w/\(qZ w1 va/\qZ w1 vb/\qZ w1 vc)
theorem fo.start {base:Nat} {w1:World} {bx:Nat} {nb nm:Int} (o:ae w1 bx #[(nb,()),(nm,()),(),(),()] 52):fo base w1 w1 bx nb nm [] [] []:=
 ⟨_,_,_,[],[],[],o,eP.nil _ _,rfl,rfl,rfl,NP.refl _ _,qZ.nil _,qZ.nil _,qZ.nil _⟩
theorem fo.kept0 (h:fo base w1 w bx nb nm A B C) (k:NP [] w w'):fo base w1 w' bx nb nm A B C:=by
 obtain⟨va,vb,vc,xs,ys,zs,o,r3,e1,e2,e3,kk,hlo⟩:=h
 exact⟨va,vb,vc,xs,ys,zs,k.own o _b,r3.kept0 k,e1,e2,e3,kk.trans (k.mono (fun x hx=>by cases hx)),hlo⟩
theorem fo.cat (h:fo base w1 w bx nb nm A B C) (hb:(Lit.int .u32 nb).wf=true) (hm:(Lit.int .u32 nm).wf=true):
  ∃va vb vc,(fP va/\fP vb/\fP vc)/\ae w bx #[(nb,()),(nm,()),va,vb,vc] 52/\NP [bx] w1 w/\(∀w',NP [] w w'->av (fun x=>x<base) w' (.agg #[(nb,()),(nm,()),va,vb,vc]) ⟨nb,nm,A,B,C⟩/\∀g cs,ae w' g cs 52->∀a b c d e,av (fun x=>x<base) (((((w'.setCell ⟨g,0,none⟩ a).setCell ⟨g,1,none⟩ b).setCell ⟨g,2,none⟩ c).setCell ⟨g,3,none⟩ d).setCell ⟨g,4,none⟩ e) (.agg #[(nb,()),(nm,()),va,vb,vc]) ⟨nb,nm,A,B,C⟩):=by
 obtain⟨va,vb,vc,xs,ys,zs,o,r3,e1,e2,e3,k,_⟩:=h
 have hc:∀W,eP base W va vb vc xs ys zs->av (fun x=>x<base) W (.agg #[(nb,()),(nm,()),va,vb,vc]) ⟨nb,nm,A,B,C⟩:=fun W r=>by
  exact M98
 have PX:∀{v:Value} {n:Nat} {us:List Value},w.ownsRow base 113 4 v n us->fP v:=fun h=>by
  obtain⟨p,c,rfl⟩:=ah h
  exact⟨_,_,_,rfl⟩
 refine⟨va,vb,vc,⟨PX r3.ra,PX r3.rb,PX r3.rc⟩,o,k,fun w' q=>⟨hc _ (r3.kept0 q),fun g cs og a b c d e=>hc _ ?_⟩⟩
 exact(((((r3.kept0 q).set og 0 a).set (og.set 0 a) 1 b).set ((og.set 0 a).set 1 b) 2 c).set (((og.set 0 a).set 1 b).set 2 c) 3 d).set ((((og.set 0 a).set 1 b).set 2 c).set 3 d) 4 e
theorem fo.put {w6:World} {ob:Obj} {va vb vc v6:Value} {xs ys zs:List (NS×Value)} {x:NS×Value} {cs:Array Value} (o:ae w bx cs 52) (r:eP base w va vb vc xs ys zs) (hx:dM base w x) (kk:NP [bx] w1 w) (hlo:qZ w1 va)
  (hg:(w.alloc ob).grownBy w6 va.ownBlock) (hr:w6.ownsRow base 113 4 v6 (xs.length+1) (NX xs++Pt x.1 x.2)) (hb:v6.ownBlock=va.ownBlock\/v6.ownBlock=some (w.alloc ob).heap.size):
  ae w6 bx cs 52/\eP base w6 v6 vb vc (xs++[x]) ys zs/\NP [bx] w1 w6/\qZ w1 v6/\(∀g TL t,ae w g TL t->t≠113->ae w6 g TL t):=by
 have k1:NP [] w (w.alloc ob):=(NP.refl _ _).alloc _
 have Ot:∀g TL t,ae w g TL t->t≠113->ae w6 g TL t:=fun g TL t o ht=>by
  have o1:=o.alloc ob
  have Pb:=aB (MH r.ra ob) o1 (fun e=>ht e.symm)
  have:w6.heap[g]? =(w.alloc ob).heap[g]? :=hg.block g o1.lt (fun e=>Pb e.symm)
  show w6.heap[g]? =_
  rw[this]
  exact o1
 refine⟨Ot _ _ _ o _d,(r.kept0 k1).add (hx.kept0 k1) hg hr hb,(kk.alloc ob).grown hg (fun q hq=>Or.inr (hlo q hq)),fun g e=>?_,Ot⟩
 rcases hb with hb|hb
 .exact hlo g (by rw[<-hb];exact e)
 .rw[hb]at e
  injection e with e
  have h1:=kk.size
  have h2:=k1.size
  omega

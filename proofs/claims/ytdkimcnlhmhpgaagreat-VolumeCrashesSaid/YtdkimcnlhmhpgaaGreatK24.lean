/- -/
import Derived.Test.YtdkimcnlhmhpgaaGreatK21
set_option maxHeartbeats 16000000
set_option maxRecDepth 100000
namespace Go.Proofs.YtdkimcnlhmhpgaaGreat
open Go.RowKit
variable {w:World}
def qv:Nf:=⟨0,[],0,[]⟩
def NM (p:Nf->Bool) (l:List Nf):Nf×Bool:=match l.find? p with
 |some x=>(x,true)
 |none=>(qv,false)
def dN (wb:World) (X:Nf×Bool) (w:World) (e:Ending) (w':World):Prop:=∃kv,e=.returned (.tuple #[.agg (X.1.cells kv),.bool X.2])/\bd wb (X.1,kv)/\aa [] w w'
theorem sS {p:Nf->Bool} {l:List Nf} {i:Nat} (hi:i<l.length) (h:p l[i]=true) (h0:∀j (hj:j<l.length),j<i->p l[j]=false):NM p l=(l[i],true):=by
 have:l.find? p=some l[i]:=List.find?_eq_some_iff_getElem.2 ⟨h,i,hi,rfl,fun j hj=>by simp[h0 j (by omega) hj]⟩
 unfold NM;rw[this]
theorem sR {p:Nf->Bool} {l:List Nf} (h0:∀j (hj:j<l.length),p l[j]=false):NM p l=(qv,false):=by
 have:l.find? p=none:=List.find?_eq_none.2 (fun x hx=>by
  obtain⟨j,hj,rfl⟩:=MO.1 hx
  simp[h0 j hj])
 unfold NM;rw[this]
theorem qu (w:World):bd w (qv,.slice none 0 0):=⟨Or.inl ⟨rfl,none,0,rfl⟩,⟨by decide,by simp[qv,maxLen],by decide⟩,fun r hr=>by simp[qv]at hr⟩
theorem gU {wb:World} {X:Nf×Bool} {x:Nf} {b:Bool} {kv:Value} {w':World} (h:X=(x,b)) (h1:bd wb (x,kv)) (k:aa [] w w'):dN wb X w (.returned (.tuple #[.agg (x.cells kv),.bool b])) w':=by subst h;exact⟨kv,rfl,h1,k⟩
theorem ae.nX {b:Nat} {x0 x1 x2 x3:Value} {t:TypeId} (h:ae w b #[x0,x1,x2,x3] t) (y0 y1 y2 y3:Value):
  ae ((((w.setCell ⟨b,0,none⟩ y0).setCell ⟨b,1,none⟩ y1).setCell ⟨b,2,none⟩ y2).setCell ⟨b,3,none⟩ y3) b #[y0,y1,y2,y3] t:=by
 have:=(((h.set 0 y0).set 1 y1).set 2 y2).set 3 y3
 simpa using this
theorem CD (w:World):Calls Tryz.prog 41 #[] w fun e w'=>e=.returned (.agg #[.int .u32 1,.int .u32 1,.slice none 0 0,.slice none 0 0,.slice none 0 0])/\aa [] w w':=by
 go_enter Tryz.func41,Tryz.ntmps41
 go_wp2_with fail
 have o:=ae.new w #[.int .u32 1,.int .u32 1,.slice none 0 0,.slice none 0 0,.slice none 0 0] 52
 refine Mx (v:=.agg #[.int .u32 1,.int .u32 1,.slice none 0 0,.slice none 0 0,.slice none 0 0]) (nf Tryz.results41 rfl (t:=52) ?_ Tryz.underlying52 rfl (by kernel_rfl)) rfl ⟨rfl,(aa.refl _ _).alloc _⟩
 exact o
theorem AS (p:Nf->Bool) (cv:Value) (v:Value) (l:List Nf) (w:World) (h:aS w v l) (hl:l.length<=1000000)
  (hp:∀W,aa [] w W->∀i (hi:i<l.length) kv,bd W (l[i],kv)->Calls Tryz.prog 117 #[.agg (l[i].cells kv),cv] W fun e w'=>e=.returned (.bool (p l[i]))/\aa [] W w'):
  Calls Tryz.prog 187 #[v,.func (.func 117) #[] #[cv]] w (ir p l w):=by
 obtain⟨pa,ca,rfl⟩:=h.shape
 have H:=Mb h
 have HP:=Mb hp
 have QZ:(l.length:Int)<=1000000:=by omega
 clear h hp
 go_enter Tryz.func187,Tryz.ntmps187
 go_wp2_with fail
 go_loopw [8] (fun i wr=>∃k:Nat,k<=l.length/\i=.int .i64 k/\(∀j (hj:j<l.length),j<k->p l[j]=false)/\aa [] w wr) (fun i _=>l.length-(intOf i).toNat)
 case atStart=>exact⟨0,Mu _,rfl,fun j hj h=>absurd h (Nat.not_lt_zero j),aa.refl _ _⟩
 case round=>
  exact M8
theorem M24 {A:Prop}(h:A:=by
 clear h2
 go_wp2_with fail
 refine Mx (v:=.tuple #[.agg #[.int .u32 0,.string {data:=#[]},.int .i64 0,.slice none 0 0],.bool false]) (ak Tryz.results116 rfl rfl (t:=113) ?_ Tryz.underlying113 rfl (by kernel_rfl)) rfl ?_
 .exact O2.out.nX _ _ _ _
 .exact gU (kv:=.slice none 0 0) HE.out (qu _) (aa.dU K2.out (Or.inr (Md _)) _ _ _ _)):A:=h
theorem M14 {A:Prop}(h:A:=by
 obtain⟨b,off,kv,rfl,hia,hb,Rt,Th,HA⟩:=UN.out.jJ i hi
 obtain⟨y0,y1,y2,y3⟩:=HA w2 (UQ.out.trans K2.out)
 obtain⟨pk,nk,ck,rfl⟩:=hia.iN
 have i1:(i:Int)<l.length:=by omega
 have i2:(0:Int)<=(i:Int):=by omega
 have HIA:=Mb hia
 clear h1 h2 hia HA hb
 generalize l[i]'hi=A at*
 go_wp2_with fail
 refine Mx (v:=.tuple #[.agg #[.int .u32 A.id,.string (bs A.name),.int .i64 A.size,.slice pk nk ck],.bool true]) (ak Tryz.results116 rfl rfl (t:=113) ?_ Tryz.underlying113 rfl (by kernel_rfl)) rfl ?_
 .exact O2.out.nX _ _ _ _
 .have QC:aa [w.heap.size] w2 ((((w2.setCell ⟨w.heap.size,0,none⟩ (.int .u32 A.id)).setCell ⟨w.heap.size,1,none⟩ (.string (bs A.name))).setCell ⟨w.heap.size,2,none⟩ (.int .i64 A.size)).setCell ⟨w.heap.size,3,none⟩ (.slice pk nk ck)):=aa.dU (aa.refl _ _) (Or.inl (by simp)) _ _ _ _
  have hko:aa [] w ((((w2.setCell ⟨w.heap.size,0,none⟩ (.int .u32 A.id)).setCell ⟨w.heap.size,1,none⟩ (.string (bs A.name))).setCell ⟨w.heap.size,2,none⟩ (.int .i64 A.size)).setCell ⟨w.heap.size,3,none⟩ (.slice pk nk ck)):=aa.dU K2.out (Or.inr (Md _)) _ _ _ _
  refine gU (kv:=.slice pk nk ck) HE.out HIA.out hko):A:=h
theorem AW (p:Nf->Bool) (cv:Value) (v:Value) (l:List Nf) (wb w:World) (Pr:aa [] wb w) (U8:aS wb v l) (hl:l.length<=1000000)
  (hp:∀W,aa [] w W->∀i (hi:i<l.length) kv,bd W (l[i],kv)->Calls Tryz.prog 117 #[.agg (l[i].cells kv),cv] W fun e w'=>e=.returned (.bool (p l[i]))/\aa [] W w'):
  Calls Tryz.prog 116 #[v,.func (.func 117) #[] #[cv]] w (dN wb (NM p l) w):=by
 have h:=U8.kept0 Pr
 have UN:=Mb U8
 have UQ:=Mb Pr
 have k0:aa [] w (w.alloc (.cells #[.int .u32 0,.string {data:=#[]},.int .i64 0,.slice none 0 0] 113)):=(aa.refl _ _).alloc _
 have o0:=ae.new w #[.int .u32 0,.string {data:=#[]},.int .i64 0,.slice none 0 0] 113
 have hi:=AS p cv v l _ (h.kept0 k0) hl (fun W q i hi kv hx=>hp W (k0.trans q) i hi kv hx)
 unfold ir at hi
 obtain⟨pa,ca,rfl⟩:=h.shape
 have H:=Mb h
 have HI:=Mb hi
 have K0:=Mb k0
 have O0:=Mb o0
 have QZ:(l.length:Int)<=1000000:=by omega
 clear hi h hp k0 o0 U8 Pr
 go_enter Tryz.func116,Tryz.ntmps116
 go_wp2_with fail
 refine HI.out.mono ?_;rintro e w2 ⟨RD,k2⟩
 have K2:=Mb (K0.out.trans k2)
 have O2:=Mb (k2.own O0.out (by simp))
 obtain⟨x0,x1,x2,x3⟩:=O2.out.c4
 obtain⟨f0,f1,f2,f3⟩:=O2.out.z4
 rcases RD with⟨i,hi,h1,h2,rfl⟩|⟨h2,rfl⟩
 .have HE:=Mb (sS hi h1 h2)
  exact M14
 .have HE:=Mb (sR h2)
  exact M24
theorem Cz (id:Int) (kb:Nat) (x:Nf) (xv:Value) (w:World) (hk:w.cell? ⟨kb,0,none⟩=some (.int .u32 id)) (hs:iF xv):
  Calls Tryz.prog 117 #[.agg (x.cells xv),.pointer (some ⟨kb,0,none⟩)] w fun e w'=>e=.returned (.bool (x.id==id))/\aa [] w w':=by
 obtain⟨p,n,c,rfl⟩:=hs
 have oX:=ae.new w (x.cells (.slice p n c)) 113
 have k0:aa [] w (w.alloc (.cells (x.cells (.slice p n c)) 113)):=(aa.refl _ _).alloc _
 have c0:(w.alloc (.cells (x.cells (.slice p n c)) 113)).cell? ⟨kb,0,none⟩=some (.int .u32 id):=Lib.cell?_alloc_some _ hk
 unfold Nf.cells at oX k0 c0 ⊢
 obtain⟨x0,x1,x2,x3⟩:=oX.c4
 have K0:=Mb k0
 clear oX k0 hk
 obtain⟨R,hR⟩:∃R,(x.id==id)=R:=⟨_,rfl⟩
 skip
 rw[hR]
 have HR:=Mb hR
 go_enter Tryz.func117,Tryz.ntmps117
 go_wp2_with fail
 go_ret
 exact⟨rfl,K0.out⟩
theorem CJ (id:Int) (v:Value) (c:aj) (w:World) (h:cC w v c) (hc:iq c):
  Calls Tryz.prog 57 #[v,.int .u32 id] w (dN w (NM (fun x=>x.id==id) c.boxes) w):=by
 obtain⟨vb,vm,vn,rfl,hb,hm,hn,_⟩:=h
 obtain⟨p1,c1,rfl⟩:=hb.shape
 obtain⟨p2,c2,rfl⟩:=hm.shape
 obtain⟨p3,c3,rfl⟩:=hn.shape
 obtain⟨oA,oB,oC⟩:=fg w #[.int .u32 c.nextBox,.int .u32 c.nextMan,.slice p1 c.boxes.length c1,.slice p2 c.mans.length c2,.slice p3 c.names.length c3] #[.int .u32 id] #[.int .u32 0,.string {data:=#[]},.int .i64 0,.slice none 0 0] 52 32 113
 have k0:aa [] w (((w.alloc (.cells #[.int .u32 c.nextBox,.int .u32 c.nextMan,.slice p1 c.boxes.length c1,.slice p2 c.mans.length c2,.slice p3 c.names.length c3] 52)).alloc (.cells #[.int .u32 id] 32)).alloc (.cells #[.int .u32 0,.string {data:=#[]},.int .i64 0,.slice none 0 0] 113)):=(((aa.refl _ _).alloc _).alloc _).alloc _
 have Wt:=oB.cell 0 (by simp)
 have hf:=AW (fun x=>x.id==id) (.pointer (some ⟨w.heap.size+1,0,none⟩)) _ c.boxes w _ k0 hb hc.1.1 (fun W q i hi kv hx=>Cz _ (w.heap.size+1) _ kv W ((q.cell (by exact oB.lt) (by simp)).trans Wt) hx.iN)
 unfold dN at hf
 have HF:=Mb hf
 obtain⟨x0,x1,x2,x3,x4⟩:=oA.k5
 have OC:=Mb oC
 have K0:=Mb k0
 clear hf Wt oA oB oC k0 hb hm hn hc
 generalize NM (fun x=>x.id==id) c.boxes=X at*
 obtain⟨X1,X2⟩:=X
 simp only at HF
 go_enter Tryz.func57,Tryz.ntmps57
 go_wp2_with fail
 refine HF.out.mono ?_;rintro e w2 ⟨kv,rfl,UY,k2⟩
 have K2:=Mb (K0.out.trans k2)
 have O2:=Mb (k2.own OC.out (by simp))
 have Zn:=Mb UY
 obtain⟨pk,nk,ck,rfl⟩:=UY.iN
 obtain⟨x0,x1,x2,x3⟩:=O2.out.c4
 obtain⟨f0,f1,f2,f3⟩:=O2.out.z4
 clear UY
 unfold Nf.cells
 go_wp2_with fail
 refine Mx (v:=.tuple #[.agg #[.int .u32 X1.id,.string (bs X1.name),.int .i64 X1.size,.slice pk nk ck],.bool X2]) (ak Tryz.results57 rfl rfl (t:=113) ?_ Tryz.underlying113 rfl (by kernel_rfl)) rfl ?_
 .exact O2.out.nX _ _ _ _
 .exact⟨.slice pk nk ck,rfl,Zn.out,aa.dU K2.out (Or.inr (by show w.heap.size<=w.heap.size+1+1;omega)) _ _ _ _⟩
theorem AR (p:Nf->Bool) (cv:Value) (v:Value) (l:List Nf) (w:World) (h:aS w v l) (hl:l.length<=1000000)
  (hp:∀W,aa [] w W->∀i (hi:i<l.length) kv,bd W (l[i],kv)->Calls Tryz.prog 118 #[.agg (l[i].cells kv),cv] W fun e w'=>e=.returned (.bool (p l[i]))/\aa [] W w'):
  Calls Tryz.prog 187 #[v,.func (.func 118) #[] #[cv]] w (ir p l w):=by
 obtain⟨pa,ca,rfl⟩:=h.shape
 have H:=Mb h
 have HP:=Mb hp
 have QZ:(l.length:Int)<=1000000:=by omega
 clear h hp
 go_enter Tryz.func187,Tryz.ntmps187
 go_wp2_with fail
 go_loopw [8] (fun i wr=>∃k:Nat,k<=l.length/\i=.int .i64 k/\(∀j (hj:j<l.length),j<k->p l[j]=false)/\aa [] w wr) (fun i _=>l.length-(intOf i).toNat)
 case atStart=>exact⟨0,Mu _,rfl,fun j hj h=>absurd h (Nat.not_lt_zero j),aa.refl _ _⟩
 case round=>
  exact M8
theorem AV (p:Nf->Bool) (cv:Value) (v:Value) (l:List Nf) (wb w:World) (Pr:aa [] wb w) (U8:aS wb v l) (hl:l.length<=1000000)
  (hp:∀W,aa [] w W->∀i (hi:i<l.length) kv,bd W (l[i],kv)->Calls Tryz.prog 118 #[.agg (l[i].cells kv),cv] W fun e w'=>e=.returned (.bool (p l[i]))/\aa [] W w'):
  Calls Tryz.prog 116 #[v,.func (.func 118) #[] #[cv]] w (dN wb (NM p l) w):=by
 have h:=U8.kept0 Pr
 have UN:=Mb U8
 have UQ:=Mb Pr
 have k0:aa [] w (w.alloc (.cells #[.int .u32 0,.string {data:=#[]},.int .i64 0,.slice none 0 0] 113)):=(aa.refl _ _).alloc _
 have o0:=ae.new w #[.int .u32 0,.string {data:=#[]},.int .i64 0,.slice none 0 0] 113
 have hi:=AR p cv v l _ (h.kept0 k0) hl (fun W q i hi kv hx=>hp W (k0.trans q) i hi kv hx)
 unfold ir at hi
 obtain⟨pa,ca,rfl⟩:=h.shape
 have H:=Mb h
 have HI:=Mb hi
 have K0:=Mb k0
 have O0:=Mb o0
 have QZ:(l.length:Int)<=1000000:=by omega
 clear hi h hp k0 o0 U8 Pr
 go_enter Tryz.func116,Tryz.ntmps116
 go_wp2_with fail
 refine HI.out.mono ?_;rintro e w2 ⟨RD,k2⟩
 have K2:=Mb (K0.out.trans k2)
 have O2:=Mb (k2.own O0.out (by simp))
 obtain⟨x0,x1,x2,x3⟩:=O2.out.c4
 obtain⟨f0,f1,f2,f3⟩:=O2.out.z4
 rcases RD with⟨i,hi,h1,h2,rfl⟩|⟨h2,rfl⟩
 .have HE:=Mb (sS hi h1 h2)
  exact M14
 .have HE:=Mb (sR h2)
  exact M24
theorem Cy (id:Int) (kb:Nat) (x:Nf) (xv:Value) (w:World) (hk:w.cell? ⟨kb,0,none⟩=some (.int .u32 id)) (hs:iF xv):
  Calls Tryz.prog 118 #[.agg (x.cells xv),.pointer (some ⟨kb,0,none⟩)] w fun e w'=>e=.returned (.bool (x.id==id))/\aa [] w w':=by
 obtain⟨p,n,c,rfl⟩:=hs
 have oX:=ae.new w (x.cells (.slice p n c)) 113
 have k0:aa [] w (w.alloc (.cells (x.cells (.slice p n c)) 113)):=(aa.refl _ _).alloc _
 have c0:(w.alloc (.cells (x.cells (.slice p n c)) 113)).cell? ⟨kb,0,none⟩=some (.int .u32 id):=Lib.cell?_alloc_some _ hk
 unfold Nf.cells at oX k0 c0 ⊢
 obtain⟨x0,x1,x2,x3⟩:=oX.c4
 have K0:=Mb k0
 clear oX k0 hk
 obtain⟨R,hR⟩:∃R,(x.id==id)=R:=⟨_,rfl⟩
 skip
 rw[hR]
 have HR:=Mb hR
 go_enter Tryz.func118,Tryz.ntmps118
 go_wp2_with fail
 go_ret
 exact⟨rfl,K0.out⟩
theorem CI (id:Int) (v:Value) (c:aj) (w:World) (h:cC w v c) (hc:iq c):
  Calls Tryz.prog 58 #[v,.int .u32 id] w (dN w (NM (fun x=>x.id==id) c.mans) w):=by
 obtain⟨vb,vm,vn,rfl,hb,hm,hn,_⟩:=h
 obtain⟨p1,c1,rfl⟩:=hb.shape
 obtain⟨p2,c2,rfl⟩:=hm.shape
 obtain⟨p3,c3,rfl⟩:=hn.shape
 obtain⟨oA,oB,oC⟩:=fg w #[.int .u32 c.nextBox,.int .u32 c.nextMan,.slice p1 c.boxes.length c1,.slice p2 c.mans.length c2,.slice p3 c.names.length c3] #[.int .u32 id] #[.int .u32 0,.string {data:=#[]},.int .i64 0,.slice none 0 0] 52 32 113
 have k0:aa [] w (((w.alloc (.cells #[.int .u32 c.nextBox,.int .u32 c.nextMan,.slice p1 c.boxes.length c1,.slice p2 c.mans.length c2,.slice p3 c.names.length c3] 52)).alloc (.cells #[.int .u32 id] 32)).alloc (.cells #[.int .u32 0,.string {data:=#[]},.int .i64 0,.slice none 0 0] 113)):=(((aa.refl _ _).alloc _).alloc _).alloc _
 have Wt:=oB.cell 0 (by simp)
 have hf:=AV (fun x=>x.id==id) (.pointer (some ⟨w.heap.size+1,0,none⟩)) _ c.mans w _ k0 hm hc.2.1.1 (fun W q i hi kv hx=>Cy _ (w.heap.size+1) _ kv W ((q.cell (by exact oB.lt) (by simp)).trans Wt) hx.iN)
 unfold dN at hf
 have HF:=Mb hf
 obtain⟨x0,x1,x2,x3,x4⟩:=oA.k5
 have OC:=Mb oC
 have K0:=Mb k0
 clear hf Wt oA oB oC k0 hb hm hn hc
 generalize NM (fun x=>x.id==id) c.mans=X at*
 obtain⟨X1,X2⟩:=X
 simp only at HF
 go_enter Tryz.func58,Tryz.ntmps58
 go_wp2_with fail
 refine HF.out.mono ?_;rintro e w2 ⟨kv,rfl,UY,k2⟩
 have K2:=Mb (K0.out.trans k2)
 have O2:=Mb (k2.own OC.out (by simp))
 have Zn:=Mb UY
 obtain⟨pk,nk,ck,rfl⟩:=UY.iN
 obtain⟨x0,x1,x2,x3⟩:=O2.out.c4
 obtain⟨f0,f1,f2,f3⟩:=O2.out.z4
 clear UY
 unfold Nf.cells
 go_wp2_with fail
 refine Mx (v:=.tuple #[.agg #[.int .u32 X1.id,.string (bs X1.name),.int .i64 X1.size,.slice pk nk ck],.bool X2]) (ak Tryz.results58 rfl rfl (t:=113) ?_ Tryz.underlying113 rfl (by kernel_rfl)) rfl ?_
 .exact O2.out.nX _ _ _ _
 .exact⟨.slice pk nk ck,rfl,Zn.out,aa.dU K2.out (Or.inr (by show w.heap.size<=w.heap.size+1+1;omega)) _ _ _ _⟩
theorem yE (p:Nf->Bool) (cv:Value) (v:Value) (l:List Nf) (w:World) (h:aS w v l) (hl:l.length<=1000000)
  (hp:∀W,aa [] w W->∀i (hi:i<l.length) kv,bd W (l[i],kv)->Calls Tryz.prog 119 #[.agg (l[i].cells kv),cv] W fun e w'=>e=.returned (.bool (p l[i]))/\aa [] W w'):
  Calls Tryz.prog 187 #[v,.func (.func 119) #[] #[cv]] w (ir p l w):=by
 obtain⟨pa,ca,rfl⟩:=h.shape
 have H:=Mb h
 have HP:=Mb hp
 have QZ:(l.length:Int)<=1000000:=by omega
 clear h hp
 go_enter Tryz.func187,Tryz.ntmps187
 go_wp2_with fail
 go_loopw [8] (fun i wr=>∃k:Nat,k<=l.length/\i=.int .i64 k/\(∀j (hj:j<l.length),j<k->p l[j]=false)/\aa [] w wr) (fun i _=>l.length-(intOf i).toNat)
 case atStart=>exact⟨0,Mu _,rfl,fun j hj h=>absurd h (Nat.not_lt_zero j),aa.refl _ _⟩
 case round=>
  exact M8
theorem yF (p:Nf->Bool) (cv:Value) (v:Value) (l:List Nf) (wb w:World) (Pr:aa [] wb w) (U8:aS wb v l) (hl:l.length<=1000000)
  (hp:∀W,aa [] w W->∀i (hi:i<l.length) kv,bd W (l[i],kv)->Calls Tryz.prog 119 #[.agg (l[i].cells kv),cv] W fun e w'=>e=.returned (.bool (p l[i]))/\aa [] W w'):
  Calls Tryz.prog 116 #[v,.func (.func 119) #[] #[cv]] w (dN wb (NM p l) w):=by
 have h:=U8.kept0 Pr
 have UN:=Mb U8
 have UQ:=Mb Pr
 have k0:aa [] w (w.alloc (.cells #[.int .u32 0,.string {data:=#[]},.int .i64 0,.slice none 0 0] 113)):=(aa.refl _ _).alloc _
 have o0:=ae.new w #[.int .u32 0,.string {data:=#[]},.int .i64 0,.slice none 0 0] 113
 have hi:=yE p cv v l _ (h.kept0 k0) hl (fun W q i hi kv hx=>hp W (k0.trans q) i hi kv hx)
 unfold ir at hi
 obtain⟨pa,ca,rfl⟩:=h.shape
 have H:=Mb h
 have HI:=Mb hi
 have K0:=Mb k0
 have O0:=Mb o0
 have QZ:(l.length:Int)<=1000000:=by omega
 clear hi h hp k0 o0 U8 Pr
 go_enter Tryz.func116,Tryz.ntmps116
 go_wp2_with fail
 refine HI.out.mono ?_;rintro e w2 ⟨RD,k2⟩
 have K2:=Mb (K0.out.trans k2)
 have O2:=Mb (k2.own O0.out (by simp))
 obtain⟨x0,x1,x2,x3⟩:=O2.out.c4
 obtain⟨f0,f1,f2,f3⟩:=O2.out.z4
 rcases RD with⟨i,hi,h1,h2,rfl⟩|⟨h2,rfl⟩
 .have HE:=Mb (sS hi h1 h2)
  exact M14
 .have HE:=Mb (sR h2)
  exact M24
theorem AQ (nm:List UInt8) (kb:Nat) (x:Nf) (xv:Value) (w:World) (hk:w.cell? ⟨kb,0,none⟩=some (.string (bs nm))) (hs:iF xv):
  Calls Tryz.prog 119 #[.agg (x.cells xv),.pointer (some ⟨kb,0,none⟩)] w fun e w'=>e=.returned (.bool (x.name==nm))/\aa [] w w':=by
 obtain⟨p,n,c,rfl⟩:=hs
 have oX:=ae.new w (x.cells (.slice p n c)) 113
 have k0:aa [] w (w.alloc (.cells (x.cells (.slice p n c)) 113)):=(aa.refl _ _).alloc _
 have c0:(w.alloc (.cells (x.cells (.slice p n c)) 113)).cell? ⟨kb,0,none⟩=some (.string (bs nm)):=Lib.cell?_alloc_some _ hk
 unfold Nf.cells at oX k0 c0 ⊢
 obtain⟨x0,x1,x2,x3⟩:=oX.c4
 have K0:=Mb k0
 clear oX k0 hk
 obtain⟨R,hR⟩:∃R,(x.name==nm)=R:=⟨_,rfl⟩
 obtain⟨g1,g2⟩:=jm x.name nm hR
 rw[hR]
 have HR:=Mb hR
 go_enter Tryz.func119,Tryz.ntmps119
 go_wp2_with fail
 go_ret
 exact⟨rfl,K0.out⟩
theorem te (nm:List UInt8) (v:Value) (c:aj) (w:World) (h:cC w v c) (hc:iq c):
  Calls Tryz.prog 59 #[v,.string (bs nm)] w (dN w (NM (fun x=>x.name==nm) c.names) w):=by
 obtain⟨vb,vm,vn,rfl,hb,hm,hn,_⟩:=h
 obtain⟨p1,c1,rfl⟩:=hb.shape
 obtain⟨p2,c2,rfl⟩:=hm.shape
 obtain⟨p3,c3,rfl⟩:=hn.shape
 obtain⟨oA,oB,oC⟩:=fg w #[.int .u32 c.nextBox,.int .u32 c.nextMan,.slice p1 c.boxes.length c1,.slice p2 c.mans.length c2,.slice p3 c.names.length c3] #[.string (bs nm)] #[.int .u32 0,.string {data:=#[]},.int .i64 0,.slice none 0 0] 52 9 113
 have k0:aa [] w (((w.alloc (.cells #[.int .u32 c.nextBox,.int .u32 c.nextMan,.slice p1 c.boxes.length c1,.slice p2 c.mans.length c2,.slice p3 c.names.length c3] 52)).alloc (.cells #[.string (bs nm)] 9)).alloc (.cells #[.int .u32 0,.string {data:=#[]},.int .i64 0,.slice none 0 0] 113)):=(((aa.refl _ _).alloc _).alloc _).alloc _
 have Wt:=oB.cell 0 (by simp)
 have hf:=yF (fun x=>x.name==nm) (.pointer (some ⟨w.heap.size+1,0,none⟩)) _ c.names w _ k0 hn hc.2.2.1 (fun W q i hi kv hx=>AQ _ (w.heap.size+1) _ kv W ((q.cell (by exact oB.lt) (by simp)).trans Wt) hx.iN)
 unfold dN at hf
 have HF:=Mb hf
 obtain⟨x0,x1,x2,x3,x4⟩:=oA.k5
 have OC:=Mb oC
 have K0:=Mb k0
 clear hf Wt oA oB oC k0 hb hm hn hc
 generalize NM (fun x=>x.name==nm) c.names=X at*
 obtain⟨X1,X2⟩:=X
 simp only at HF
 go_enter Tryz.func59,Tryz.ntmps59
 go_wp2_with fail
 refine HF.out.mono ?_;rintro e w2 ⟨kv,rfl,UY,k2⟩
 have K2:=Mb (K0.out.trans k2)
 have O2:=Mb (k2.own OC.out (by simp))
 have Zn:=Mb UY
 obtain⟨pk,nk,ck,rfl⟩:=UY.iN
 obtain⟨x0,x1,x2,x3⟩:=O2.out.c4
 obtain⟨f0,f1,f2,f3⟩:=O2.out.z4
 clear UY
 unfold Nf.cells
 go_wp2_with fail
 refine Mx (v:=.tuple #[.agg #[.int .u32 X1.id,.string (bs X1.name),.int .i64 X1.size,.slice pk nk ck],.bool X2]) (ak Tryz.results59 rfl rfl (t:=113) ?_ Tryz.underlying113 rfl (by kernel_rfl)) rfl ?_
 .exact O2.out.nX _ _ _ _
 .exact⟨.slice pk nk ck,rfl,Zn.out,aa.dU K2.out (Or.inr (by show w.heap.size<=w.heap.size+1+1;omega)) _ _ _ _⟩
end Go.Proofs.YtdkimcnlhmhpgaaGreat

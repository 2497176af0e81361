/- -/
import Derived.Test.YtdkimcnlhmhpgaaGreatM17
set_option maxHeartbeats 32000000
set_option maxRecDepth 100000
namespace Go.Proofs.YtdkimcnlhmhpgaaGreat
open Go.Proofs.Tryz Go.RowKit
variable {w w':World} {b:Nat} {S T:List Nat} {A:Prop} {x:Int} {l:List UInt8}
theorem EO (al:List Nat):∀(d:DK) (s:List UInt8),(gN al d s).1.ops<=d.ops+al.length/\(gN al d s).1.waits.length<=d.waits.length+al.length/\(gN al d s).1.stand.length=d.stand.length:=by
 induction al with
 |nil=>intro d s;exact⟨MG _,MG _,rfl⟩
 |cons a t ih=>
  intro d s
  have h1:=fy d a (aC s)
  unfold gN
  rw[Nj]
  split
  .have h2:=ih (OJ d a (aC s)) (s.drop 128)
   exact⟨by(try dsimp only);omega,by(try dsimp only);omega,by rw[h2.2.2,h1.2.2]⟩
  .exact⟨by(try dsimp only);omega,by(try dsimp only);omega,h1.2.2⟩
theorem Fj (n:Nat):∀l:List Nat,l.Nodup->(∀m∈l,m<n)->l.length<=n:=by
 induction n with
 |zero=>intro l _ h;cases l with
  |nil=>exact MG _
  |cons a t=>exact absurd (h a MY) _a
 |succ n ih=>
  intro l hn h
  have h1:=ih (l.erase n) (hn.erase n) (fun m hm=>by
   have h2:=hn.mem_erase_iff.1 hm
   have:=h m h2.2
   omega)
  by_cases hm:n∈l
  .have:=List.length_erase_of_mem hm
   omega
  .rw[List.erase_of_not_mem hm]at h1
   omega
theorem F2 {l:List (Int×Int)} {n:Nat} {size:Int} (h:dO l n size):(NY l).length<=n:=
 Fj n _ (mo h.2.2.1) (fun m hm=>by have:=(h.lt hm).1;omega)
theorem rA (d:DK) (l:List (Int×Int)) (s:List UInt8):(OQ d l s).1.ops<=d.ops+d.stand.length/\(OQ d l s).1.waits.length<=d.waits.length+d.stand.length/\(OQ d l s).1.stand.length=d.stand.length:=by
 unfold OQ
 split
 .rename_i h
  have hf:=F2 h
  split
  .exact⟨by(try dsimp only);omega,by(try dsimp only);omega,rfl⟩
  .have:=EO (NY l) d s
   exact⟨by(try dsimp only);omega,by(try dsimp only);omega,this.2.2⟩
 .exact⟨by(try dsimp only);omega,by(try dsimp only);omega,rfl⟩
theorem DD (d:DK):(iO d).ops<=d.ops+1/\(iO d).waits.length<=d.waits.length/\(iO d).stand.length=d.stand.length:=by
 unfold iO
 split
 .exact⟨by(try dsimp only);omega,by(try dsimp only);omega,rfl⟩
 .split
  .exact⟨MG _,MG _,rfl⟩
  .exact⟨MG _,Nb _,sx _ _⟩
theorem IJ (n:Nat):∀(d:DK) (a:Nat) (s:List UInt8),s.length<=n->(fW d a s).1.waits.length<=d.waits.length+s.length/\(fW d a s).1.ops<=d.ops+s.length:=by
 induction n with
 |zero=>
  intro d a s hs
  have:s=[]:=Nc _a
  subst this
  exact⟨MG _,MG _⟩
 |succ n ih=>
  intro d a s hs
  by_cases h0:s=[]
  .subst h0
   exact⟨MG _,MG _⟩
  .have hl:0<s.length:=Nu.2 h0
   have⟨w1,w2,_⟩:=fy d (a:Int) (aC s)
   rw[iK h0]
   split
   .have:=ih (OJ d a (aC s)) (a+1) (s.drop 128) _z
    rw[MQ]at this
    omega
   .simp only
    omega
theorem tw (d:DK) (j u:Int) (S:List UInt8):(Oa d j u S).1.waits.length<=d.waits.length+128+S.length/\(Oa d j u S).1.ops<=d.ops+128+S.length:=by
 unfold Oa
 split
 .simp only;omega
 .split
  .simp only;omega
  .split
   .simp only;omega
   .split
    .simp only;omega
    .have h:=IJ _ d (2+u.toNat/128) ((seen d (2+u.toNat/128)).take (u.toNat%128)++S) (MG _)
     have h2:((seen d (2+u.toNat/128)).take (u.toNat%128)).length<=128:=_w
     rw[tN]at h
     omega
def pK:NS:=⟨0,[],0,[]⟩
def PI (p:NS->Bool) (l:List NS):NS×Bool:=match l.find? p with
 |some x=>(x,true)
 |none=>(pK,false)
def lT (wb:World) (X:NS×Bool) (w:World) (e:Ending) (w':World):Prop:=∃kv,e=.returned (.tuple #[.agg (X.1.cells kv),.bool X.2])/\bd wb (X.1,kv)/\NP [] w w'
theorem F5 {p:NS->Bool} {l:List NS} {i:Nat} (hi:i<l.length) (h:p l[i]=true) (h0:∀j (hj:j<l.length),j<i->p l[j]=false):PI p l=(l[i],true):=by
 have:l.find? p=some l[i]:=List.find?_eq_some_iff_getElem.2 ⟨h,i,hi,rfl,fun j hj=>by simp[h0 j _a hj]⟩
 unfold PI;rw[this]
theorem F4 {p:NS->Bool} {l:List NS} (h0:∀j (hj:j<l.length),p l[j]=false):PI p l=(pK,false):=by
 have:l.find? p=none:=List.find?_eq_none.2 (fun x hx=>by
  obtain⟨j,hj,rfl⟩:=Nr.1 hx
  simp[h0 j hj])
 unfold PI;rw[this]
theorem Dm (w:World):bd w (pK,()):=⟨Or.inl ⟨rfl,none,0,rfl⟩,⟨_d,by simp[pK,maxLen],_d⟩,fun r hr=>by simp[pK]at hr⟩
theorem qT {wb:World} {X:NS×Bool} {x:NS} {b:Bool} {kv:Value} (h:X=(x,b)) (h1:bd wb (x,kv)) (k:NP [] w w'):lT wb X w (.returned (.tuple #[.agg (x.cells kv),.bool b])) w':=by subst h;exact⟨kv,rfl,h1,k⟩
theorem ae.AJ {x0 x1 x2 x3:Value} {t:TypeId} (h:ae w b #[x0,x1,x2,x3] t) (y0 y1 y2 y3:Value):
  ae ((((w.setCell b y0).setCell (aa b 1) y1).setCell (aa b 2) y2).setCell (aa b 3) y3) b #[y0,y1,y2,y3] t:=by
 have:=(((h.set 0 y0).set 1 y1).set 2 y2).set 3 y3
 simpa using this
theorem BM (w:World):am! 41 #[] w fun e w'=>e=.returned (.agg #[.int .u32 1,.int .u32 1,(),(),()])/\NP [] w w':=by
 go_enter func41,ntmps41
 go_wp2_with fail
 have o:=ae.new w #[.int .u32 1,.int .u32 1,(),(),()] 52
 refine MN (v:=.agg #[.int .u32 1,.int .u32 1,(),(),()]) (iu results41 rfl (t:=52) ?_ underlying52 rfl _c) rfl ⟨rfl,(NP.refl _ _).alloc _⟩
 exact o
theorem xY (p:NS->Bool) (cv:Value) (v:Value) (l:List NS) (w:World) (h:aU w v l) (hl:l.length<=1000000)
  (hp:∀W,NP [] w W->∀i (hi:i<l.length) kv,bd W (l[i],kv)->am! 119 #[.agg (l[i].cells kv),cv] W fun e w'=>e=.returned (.bool (p l[i]))/\NP [] W w'):
  am! 187 #[v,.func (.func 119) #[] #[cv]] w (oh p l w):=by
 obtain⟨pa,ca,rfl⟩:=h.shape
 have⟨H,HP⟩:=_f h hp
 have Tg:(l.length:Int)<=1000000:=_a
 clear h hp
 go_enter func187,ntmps187
 go_wp2_with fail
 go_loopw [8] (fun i wr=>∃k:Nat,k<=l.length/\i=(k:Int)/\(∀j (hj:j<l.length),j<k->p l[j]=false)/\NP [] w wr) (fun i _=>l.length-(intOf i).toNat)
 case atStart=>exact⟨0,Nb _,rfl,fun j hj h=>absurd h (Nat.not_lt_zero j),NP.refl _ _⟩
 case round=>
  exact M16
theorem xZ (p:NS->Bool) (cv:Value) (v:Value) (l:List NS) (wb w:World) (Rp:NP [] wb w) (hb0:aU wb v l) (hl:l.length<=1000000)
  (hp:∀W,NP [] w W->∀i (hi:i<l.length) kv,bd W (l[i],kv)->am! 119 #[.agg (l[i].cells kv),cv] W fun e w'=>e=.returned (.bool (p l[i]))/\NP [] W w'):
  am! 116 #[v,.func (.func 119) #[] #[cv]] w (lT wb (PI p l) w):=by
 have h:=hb0.kept0 Rp
 have⟨ZB,V3⟩:=_f hb0 Rp
 have k0:NP [] w (w.alloc (.cells #[.int .u32 0,.string {data:=#[]},(0:Int),()] 113)):=(NP.refl _ _).alloc _
 have o0:=ae.new w #[.int .u32 0,.string {data:=#[]},(0:Int),()] 113
 have hi:=xY p cv v l _ (h.kept0 k0) hl (fun W q i hi kv hx=>hp W (k0.trans q) i hi kv hx)
 unfold oh at hi
 obtain⟨pa,ca,rfl⟩:=h.shape
 have⟨H,HI,K0,O0⟩:=gh! h hi k0 o0
 have Tg:(l.length:Int)<=1000000:=_a
 clear hi h hp k0 o0 hb0 Rp
 go_enter func116,ntmps116
 go_wp2_with fail
 refine HI.out.mono ?_;rintro e w2 ⟨abL,k2⟩
 have K2:=tK (K0.out.trans k2)
 have O2:=tK (k2.own O0.out _b)
 have⟨x0,x1,x2,x3⟩:=O2.out.c4
 have⟨f0,f1,f2,f3⟩:=O2.out.z4
 rcases abL with⟨i,hi,h1,h2,rfl⟩|⟨h2,rfl⟩
 .have HE:=tK (F5 hi h1 h2)
  obtain⟨b,off,kv,rfl,hia,hb,RU,hc2,HA⟩:=ZB.out.ja i hi
  have⟨y0,y1,y2,y3⟩:=HA w2 (V3.out.trans K2.out)
  obtain⟨pk,nk,ck,rfl⟩:=hia.fz
  have i1:(i:Int)<l.length:=_a
  have i2:(0:Int)<=(i:Int):=_a
  have SA:=tK hia
  clear h1 h2 hia HA hb
  generalize l[i]'hi=A at*
  go_wp2_with fail
  refine MN (v:=.tuple #[.agg #[(A.id,()),A.name,A.size,(pk,nk,ck)],true]) (aj results116 rfl rfl (t:=113) ?_ underlying113 rfl _c) rfl ?_
  .exact O2.out.AJ _ _ _ _
  .have QY:NP [w.heap.size] w2 ((((w2.setCell w (A.id,())).setCell (aa w 1) A.name).setCell (aa w 2) A.size).setCell (aa w 3) (pk,nk,ck)):=NP.fU (NP.refl _ _) (Or.inl _b) _ _ _ _
   have hko:NP [] w ((((w2.setCell w (A.id,())).setCell (aa w 1) A.name).setCell (aa w 2) A.size).setCell (aa w 3) (pk,nk,ck)):=NP.fU K2.out (Or.inr (MG _)) _ _ _ _
   refine qT (kv:=(pk,nk,ck)) HE.out SA.out hko
 .have HE:=tK (F4 h2)
  clear h2
  go_wp2_with fail
  refine MN (v:=.tuple #[.agg #[.int .u32 0,.string {data:=#[]},(0:Int),()],false]) (aj results116 rfl rfl (t:=113) ?_ underlying113 rfl _c) rfl ?_
  .exact O2.out.AJ _ _ _ _
  .exact qT (kv:=()) HE.out (Dm _) (NP.fU K2.out (Or.inr (MG _)) _ _ _ _)
theorem Ac (nm:List UInt8) (kb:Nat) (x:NS) (xv:Value) (w:World) (hk:w.cell? kb=nm) (hs:fP xv):
  am! 119 #[.agg (x.cells xv),kb] w fun e w'=>e=.returned (.bool (x.name==nm))/\NP [] w w':=by
 obtain⟨p,n,c,rfl⟩:=hs
 have oX:=ae.new w (x.cells (p,n,c)) 113
 have k0:NP [] w (w.alloc (.cells (x.cells (p,n,c)) 113)):=(NP.refl _ _).alloc _
 have c0:(w.alloc (.cells (x.cells (p,n,c)) 113)).cell? kb=nm:=Lib.cell?_alloc_some _ hk
 unfold NS.cells at oX k0 c0 ⊢
 have⟨x0,x1,x2,x3⟩:=oX.c4
 have K0:=tK k0
 clear oX k0 hk
 obtain⟨R,hR⟩:∃R,(x.name==nm)=R:=⟨_,rfl⟩
 have⟨g1,g2⟩:=iY x.name nm hR
 rw[hR]
 have HR:=tK hR
 go_enter func119,ntmps119
 go_wp2_with fail
 go_ret
 exact⟨rfl,K0.out⟩
theorem Af (nm:List UInt8) (v:Value) (c:au) (w:World) (h:dJ w v c) (hc:ie c):
  am! 59 #[v,nm] w (lT w (PI (fun x=>x.name==nm) c.names) w):=by
 obtain⟨vb,vm,vn,rfl,hb,hm,hn,_⟩:=h
 obtain⟨p1,c1,rfl⟩:=hb.shape
 obtain⟨p2,c2,rfl⟩:=hm.shape
 obtain⟨p3,c3,rfl⟩:=hn.shape
 have⟨oA,oB,oC⟩:=nA w #[(c.nextBox,()),(c.nextMan,()),(p1,c.boxes.length,c1),(p2,c.mans.length,c2),(p3,c.names.length,c3)] #[nm] #[.int .u32 0,.string {data:=#[]},(0:Int),()] 52 9 113
 have k0:NP [] w (((w.alloc (.cells #[(c.nextBox,()),(c.nextMan,()),(p1,c.boxes.length,c1),(p2,c.mans.length,c2),(p3,c.names.length,c3)] 52)).alloc (.cells #[nm] 9)).alloc (.cells #[.int .u32 0,.string {data:=#[]},(0:Int),()] 113)):=(((NP.refl _ _).alloc _).alloc _).alloc _
 have hcb:=oB.cell 0 _b
 have hf:=xZ (fun x=>x.name==nm) ↑(w+1:Nat) _ c.names w _ k0 hn hc.2.2.1 (fun W q i hi kv hx=>Ac _ (w.heap.size+1) _ kv W ((q.cell (by exact oB.lt) _b).trans hcb) hx.fz)
 unfold lT at hf
 have HF:=tK hf
 have⟨x0,x1,x2,x3,x4⟩:=oA.k5
 have⟨OC,K0⟩:=_f oC k0
 clear hf hcb oA oB oC k0 hb hm hn hc
 generalize PI (fun x=>x.name==nm) c.names=X at*
 have⟨X1,X2⟩:=X
 simp only at HF
 go_enter func59,ntmps59
 go_wp2_with fail
 refine HF.out.mono ?_;rintro e w2 ⟨kv,rfl,hio,k2⟩
 have K2:=tK (K0.out.trans k2)
 have O2:=tK (k2.own OC.out _b)
 have ZW:=tK hio
 obtain⟨pk,nk,ck,rfl⟩:=hio.fz
 have⟨x0,x1,x2,x3⟩:=O2.out.c4
 have⟨f0,f1,f2,f3⟩:=O2.out.z4
 clear hio
 unfold NS.cells
 go_wp2_with fail
 refine MN (v:=.tuple #[.agg #[(X1.id,()),X1.name,X1.size,(pk,nk,ck)],.bool X2]) (aj results59 rfl rfl (t:=113) ?_ underlying113 rfl _c) rfl ?_
 .exact O2.out.AJ _ _ _ _
 .exact⟨(pk,nk,ck),rfl,ZW.out,NP.fU K2.out (Or.inr _V) _ _ _ _⟩
theorem pU (m:Nat):∀(fs:List (DK->DK×Int)),(∀f∈fs,∀d,(f d).1.ops<=d.ops+m/\(f d).1.waits.length<=d.waits.length+m/\(f d).1.stand.length=d.stand.length)->∀d,(aG fs d).1.ops<=d.ops+fs.length*m/\(aG fs d).1.waits.length<=d.waits.length+fs.length*m/\(aG fs d).1.stand.length=d.stand.length
 |[],_,d=>⟨by simp[aG],by simp[aG],rfl⟩
 |f::fs,h,d=>by
  have h1:=h f _b d
  have h2:=pU m fs (fun g hg=>h g (by simp[hg])) (f d).1
  unfold aG
  rw[Nj,Nat.add_mul]
  split
  .exact⟨_a,_a,h2.2.2.trans h1.2.2⟩
  .exact⟨_a,_a,h1.2.2⟩
theorem jS (i:Int) (s:List UInt8) (d:DK):(aM i s d).1.ops<=d.ops+1/\(aM i s d).1.waits.length<=d.waits.length+1/\(aM i s d).1.stand.length=d.stand.length:=fy d i s
theorem gU (d:DK):(aA d).1.ops<=d.ops+1/\(aA d).1.waits.length<=d.waits.length+1/\(aA d).1.stand.length=d.stand.length:=by
 have⟨h1,h2,h3⟩:=DD d
 exact⟨h1,by show(iO d).waits.length<=_;omega,h3⟩
theorem FK (s:SB) (d:DK):(cN s d).1.ops<=d.ops+2/\(cN s d).1.waits.length<=d.waits.length+2/\(cN s d).1.stand.length=d.stand.length:=by
 refine pU 1 [aM ((s.seq%2:Nat):Int) s.aT,aA] (fun f hf d=>?_) d
 simp only[List.mem_cons,List.not_mem_nil,or_false]at hf
 rcases hf with rfl|rfl
 .exact jS _ _ _
 .exact gU _
structure VS where
 d:DK
 s:SB
 c:au
 dead:Bool
def bL (b:Nat) (s:SB) (sv:Value) (c:au) (vb vm vn:Value) (dead:Bool):Array Value:=#[b,.int .u64 s.seq,s.sectors,s.journal,s.used,s.size,sv,(c.nextBox,()),(c.nextMan,()),vb,vm,vn,.bool dead]
structure aL (T:List Nat) (w:World) (B b sb mb lo:Nat) (v:VS):Prop where
 da:DA w b sb mb lo v.d
 vol:∃sv vb vm vn,ae w B (bL b v.s sv v.c vb vm vn v.dead) 90/\ep T w b sb mb sv v.s.runs/\dE T w b sb mb (.agg #[(v.c.nextBox,()),(v.c.nextMan,()),vb,vm,vn]) v.c
 hB:B∈T
 hT:∀x∈T,x<w.heap.size
 off:bf [] w b sb mb B
theorem aL.pk {B sb mb lo:Nat} {v:VS} {d':DK} (h:aL T w B b sb mb lo v) (k:PK S b sb mb w w') (hD:DA w' b sb mb lo d') (hS:∀x∈S,x∈T) (hBS:B∉S):aL T w' B b sb mb lo ⟨d',v.s,v.c,v.dead⟩:=by
 have⟨sv,vb,vm,vn,h1,h2,h3⟩:=h.vol
 have RT:bf S w b sb mb B:=⟨hBS,h.off.2⟩
 exact⟨hD,⟨sv,vb,vm,vn,k.own h1 RT,h2.pk (k.mono hS),h3.pk (k.mono hS)⟩,h.hB,fun x hx=>MR (h.hT x hx) k.size,⟨_b,(RT.pk k h1.lt).2⟩⟩
def dX (n j:Int):SB:=⟨1,n,j,0,0,[]⟩
theorem qh {n j:Int} (h1:1<=j) (h2:4<=n) (h3:j<=n-2) (h4:n<=8192):(dX n j).may:=
 ⟨⟨MG _,h2,h4,h1,h3,Int.le_refl _,by show(0:Int)<=j*128;omega,Int.le_refl _,by show(0:Int)<=1048576;omega,by show 0<=16;omega⟩,rfl,rfl⟩
def du (j:Int) (d:DK):DK×Int:=aG [aM 0 N9,aM 1 N9,aA,cN (dX d.stand.length j)] d
theorem G8 {T:List Nat} (n g1 g2 g3 g4 g5 g6 gS gD:Nat) (j:Int) (_:Value) {w:World} {b sb mb lo:Nat} {d:DK} (hD:DA w b sb mb lo d) (hT:∀x∈T,x<w.heap.size)
  (on:ae w n #[.func (.func 87) #[] #[g1,g2,g3],.func (.func 87) #[] #[g4,g5,g6],.func (.func 39) #[b] #[],.func (.func 92) #[] #[gS,gD]] 42)
  (h1:ae w g1 #[b] 23) (h2:ae w g2 #[(0:Int)] 3) (h3:ae w g3 #[N9] 9)
  (h4:ae w g4 #[b] 23) (h5:ae w g5 #[(1:Int)] 3) (h6:ae w g6 #[N9] 9)
  (hS:ae w gS ((dX d.stand.length j).cells ()) 58) (hd:ae w gD #[b] 23)
  (f0:bf T w b sb mb n) (f1:bf T w b sb mb g1) (f2:bf T w b sb mb g2) (f3:bf T w b sb mb g3) (f4:bf T w b sb mb g4) (f5:bf T w b sb mb g5) (f6:bf T w b sb mb g6) (fS:bf T w b sb mb gS) (fD:bf T w b sb mb gD)
  (hm:(dX d.stand.length j).may) (ho:d.ops<=80000) (hw:d.waits.length<=8000):
  am! 37 #[.slice (some n) 4 4] w fun e w'=>e=.returned (.int .i64 (du j d).2)/\DA w' b sb mb lo (du j d).1/\PK T b sb mb w w':=by
 refine Ao [aM 0 N9,aM 1 N9,aA,cN (dX d.stand.length j)] [(87,#[],#[g1,g2,g3]),(87,#[],#[g4,g5,g6]),(39,#[b],#[]),(92,#[],#[gS,gD])] rfl n 0 4 hD _b (fun k h=>?_) on.lt f0 (fun k h=>?_) (fun k h W hW hk _=>?_)
 .match k,h with
  |0,_=>exact enters_of func87 _c rfl
  |1,_=>exact enters_of func87 _c rfl
  |2,_=>exact enters_of func39 _c rfl
  |3,_=>exact enters_of func92 _c rfl
 .match k,h with
  |0,_=>exact on.cell 0 _b
  |1,_=>exact on.cell 1 _b
  |2,_=>exact on.cell 2 _b
  |3,_=>exact on.cell 3 _b
 .have e1:=jS 0 N9 d
  have e2:=jS 1 N9 (aM 0 N9 d).1
  have e3:=gU (aM 1 N9 (aM 0 N9 d).1).1
  match k,h with
  |0,_=>
   have:=tH (T:=T) g1 g2 g3 0 N9 hW (hk.own h1 f1) (hk.own h2 f2) (hk.own h3 f3) (by show d.ops<_;omega) C!
   exact this
  |1,_=>
   have:=tH (T:=T) g4 g5 g6 1 N9 hW (hk.own h4 f4) (hk.own h5 f5) (hk.own h6 f6) (by show(aM 0 N9 d).1.ops<_;omega) (by show(aM 0 N9 d).1.waits.length<=_;omega)
   exact this
  |2,_=>exact si hW (by show(aM 1 N9 (aM 0 N9 d).1).1.ops<_;omega) (by show(aM 1 N9 (aM 0 N9 d).1).1.waits.length<=_;omega)
  |3,_=>
   have:=BY (T:=T) gS gD (dX d.stand.length j) () hW (fun x hx=>MR (hT x hx) hk.size) (hk.own hS fS) (hk.own hd fD) (ep.nil none 0) hm (by show 1<_;omega) (fS.pk hk hS.lt) (fD.pk hk hd.lt) (by show(aA (aM 1 N9 (aM 0 N9 d).1).1).1.ops<=_;omega) (by show(aA (aM 1 N9 (aM 0 N9 d).1).1).1.waits.length<=_;omega)
   exact this
def z8 (T:List Nat) (b sb mb lo:Nat) (d:DK) (j:Int) (w:World) (e:Ending) (w':World):Prop:=
 ((j<1\/(d.stand.length:Int)<4\/(d.stand.length:Int)-2<j)/\e=.returned (.tuple #[.pointer none,(1:Int)])/\w=w')\/
 ((1<=j/\4<=(d.stand.length:Int)/\j<=(d.stand.length:Int)-2)/\DA w' b sb mb lo (du j d).1/\PK T b sb mb w w'/\
  (((du j d).2≠0/\e=.returned (.tuple #[.pointer none,.int .i64 (du j d).2]))\/
  ((du j d).2=0/\∃B,w.heap.size<=B/\bf [] w' b sb mb B/\ae w' B (bL b (dX d.stand.length j) () ⟨1,1,[],[],[]⟩ () () () false) 90/\e=.returned (.tuple #[.pointer (some ⟨B,0,none⟩),(0:Int)]))))
theorem M59 (h:A:=by
 go_wp2_with fail
 refine HDL.out.mono ?_;rintro e w' ⟨rfl,rfl⟩
 go_wp2_with fail
 go_ret2
 exact Or.inl ⟨_a,rfl,rfl⟩):A:=h
theorem G7 (j:Int) {w:World} {b sb mb lo:Nat} {d:DK} (hD:DA w b sb mb lo d) (hT:∀x∈T,x<w.heap.size) (hj:(Lit.int .i64 j).wf=true) (ho:d.ops<=80000) (hw:d.waits.length<=8000):
  am! 10 #[b,j] w (z8 T b sb mb lo d j w):=by
 have hlen:=hD.len
 have Vf:=XH b sb mb lo d w hD.disk
 have⟨j1,j2⟩:=ko hj
 obtain⟨n,hn⟩:∃n,d.stand.length=n:=⟨_,rfl⟩
 have HA:Hid (1<=j->4<=(n:Int)->j<=(n:Int)-2->∀W,NP [] w W->∀n1 g1 g2 g3 g4 g5 g6 gS gD,w.heap.size<=n1->w.heap.size<=g1->w.heap.size<=g2->w.heap.size<=g3->w.heap.size<=g4->w.heap.size<=g5->w.heap.size<=g6->w.heap.size<=gS->w.heap.size<=gD->
   ae W n1 #[.func (.func 87) #[] #[g1,g2,g3],.func (.func 87) #[] #[g4,g5,g6],.func (.func 39) #[b] #[],.func (.func 92) #[] #[gS,gD]] 42->
   ae W g1 #[b] 23->ae W g2 #[(0:Int)] 3->ae W g3 #[N9] 9->
   ae W g4 #[b] 23->ae W g5 #[(1:Int)] 3->ae W g6 #[N9] 9->
   ae W gS #[.int .u64 1,(n:Int),j,(0:Int),(0:Int),()] 58->ae W gD #[b] 23->
   am! 37 #[.slice (some n1) 4 4] W fun e w'=>e=.returned (.int .i64 (du j d).2)/\DA w' b sb mb lo (du j d).1/\PK T b sb mb W w'):=tK (fun c1 c2 c3 W k n1 g1 g2 g3 g4 g5 g6 gS gD a0 a1 a2 a3 a4 a5 a6 a7 a8 o0 o1 o2 o3 o4 o5 o6 o7 o8=>
  G8 n1 g1 g2 g3 g4 g5 g6 gS gD j () (hD.aJ k) (fun x hx=>MR (hT x hx) k.size) o0 o1 o2 o3 o4 o5 o6 (by rw[hn];exact o7) o8 (hD.bU hT k a0) (hD.bU hT k a1) (hD.bU hT k a2) (hD.bU hT k a3) (hD.bU hT k a4) (hD.bU hT k a5) (hD.bU hT k a6) (hD.bU hT k a7) (hD.bU hT k a8) (by rw[hn];exact qh c1 c2 c3 _a) ho hw)
 have HW:Hid (∀i W,am! 38 #[b,.int .i64 i,N9] W fun e w'=>e=.returned (.func (.func 87) #[] #[.pointer (some ⟨W.heap.size,0,none⟩),.pointer (some ⟨W.heap.size+1,0,none⟩),.pointer (some ⟨W.heap.size+2,0,none⟩)])/\((W.alloc (.cells #[b] 23)).alloc (.cells #[.int .i64 i] 3)).alloc (.cells #[N9] 9)=w'):=tK (fun i W=>BV b i N9 W)
 have HL:Hid (∀W,am! 40 #[b,.agg #[.int .u64 1,(n:Int),j,(0:Int),(0:Int),()]] W fun e w'=>e=.returned (.func (.func 92) #[] #[.pointer (some ⟨W.heap.size+1,0,none⟩),.pointer (some ⟨W.heap.size,0,none⟩)])/\(W.alloc (.cells #[b] 23)).alloc (.cells #[.int .u64 1,(n:Int),j,(0:Int),(0:Int),()] 58)=w'):=tK (fun W=>Gx b (dX n j) () W)
 have⟨HD,HT⟩:=_f hD hT
 rw[hn]at Vf
 have i1:(1:Int)<=n:=_a
 have i2:(n:Int)<=8192:=_a
 have g0:((n:Int)==0)=false:=_y
 unfold z8
 rw[hn]
 have HDL:=tK Vf
 have RO:=qC
 have XL:=yp
 have hHN:=tK hn
 clear hD hT Vf hj hlen hn ho hw
 generalize hF:du j d=F at*
 generalize N9=Z at*
 rcases(by omega:j<1\/(1<=j/\(n:Int)<4)\/(1<=j/\4<=(n:Int)/\(n:Int)-2<j)\/(1<=j/\4<=(n:Int)/\j<=(n:Int)-2))with c1|⟨c1,c2⟩|⟨c1,c2,c3⟩|⟨c1,c2,c3⟩
 .go_enter func10,ntmps10
  exact M59
 .go_enter func10,ntmps10
  exact M59
 .go_enter func10,ntmps10
  exact M59
 .have P8:=tK (HA.out c1 c2 c3)
  have acr:=XL (w.alloc (.cells #[.int .u64 1,(n:Int),j,(0:Int),(0:Int),()] 58))
  rw[Nd]at acr
  clear HA
  go_enter func10,ntmps10
  go_wp2_with fail
  refine HDL.out.mono ?_;rintro e w' ⟨rfl,rfl⟩
  go_upto_region 8 with fail
  have RH:((w.alloc (.cells #[.int .u64 1,(n:Int),j,(0:Int),(0:Int),()] 58)).alloc (.cells (Array.replicate 128 (.int .u8 0)) 5)).heap.size=w.heap.size+1+1:=by simp only[Nd]
  have os1:ae ((w.alloc (.cells #[.int .u64 1,(n:Int),j,(0:Int),(0:Int),()] 58)).alloc (.cells (Array.replicate 128 (.int .u8 0)) 5)) w #[.int .u64 1,(n:Int),j,(0:Int),(0:Int),()] 58:=(ch w #[.int .u64 1,(n:Int),j,(0:Int),(0:Int),()] (Array.replicate 128 (.int .u8 0)) _ _).1
  have k1:NP [] w ((w.alloc (.cells #[.int .u64 1,(n:Int),j,(0:Int),(0:Int),()] 58)).alloc (.cells (Array.replicate 128 (.int .u8 0)) 5)):=((NP.refl [] w).alloc _).alloc _
  generalize ((w.alloc (.cells #[.int .u64 1,(n:Int),j,(0:Int),(0:Int),()] 58)).alloc (.cells (Array.replicate 128 (.int .u8 0)) 5))=w1 at*
  have RT:bf T w1 b sb mb w:=HD.out.bU HT.out k1 (MG _)
  have T9:Hid (b<w1.heap.size):=tK (MR HD.out.bH k1.size)
  have Wa:Hid (∀W,PK T b sb mb w1 W->ae W w #[.int .u64 1,(n:Int),j,(0:Int),(0:Int),()] 58):=tK (fun W k=>k.own os1 RT)
  have⟨x0,x1,x2,x3,x4,x5⟩:=os1.c6
  have⟨K1,TK,aeI⟩:=gg! k1 RH RT
  clear k1 RH os1 RT RO XL acr
  go_cut [9]from 33 to 45 (fun v9 wx=>v9=F.2/\DA wx b sb mb lo F.1/\PK T b sb mb w wx/\ae wx w #[.int .u64 1,(n:Int),j,(0:Int),(0:Int),()] 58)
  case first=>
   refine MK (S:=(fun W=>W.cell? w=some (.int .u64 1)/\W.cell? (aa w 1)=(n:Int)/\W.cell? (aa w 2)=j/\W.cell? (aa w 3)=(0:Int)/\W.cell? (aa w 4)=(0:Int)/\W.cell? (aa w 5)=())) _c (by exact(Wa.out _ (((NP.refl [] w1).drew).eH T9.out)).c6) (fun hHeld=>?_)
   refine tS ?_
   refine rD 2 (fun K hK=>?_)
   go_simp
   ((with_reducible refine(HW.out _ _).mono ?_));rintro e w2 ⟨rfl,rfl⟩
   go_wp2_with fail
   refine hK.out _ _ ((Wa.out _ (((((NP.refl [] w1).alloc _).alloc _).alloc _).drew.eH T9.out)).c6) (fun hHeld=>nM ?_)
   clear hK K
   refine rD 5 (fun K hK=>?_)
   go_simp
   ((with_reducible refine(HW.out _ _).mono ?_));rintro e w2 ⟨rfl,rfl⟩
   go_wp2_with fail
   refine hK.out _ _ ((Wa.out _ ((((((((NP.refl [] w1).alloc _).alloc _).alloc _).alloc _).alloc _).alloc _).drew.eH T9.out)).c6) (fun hHeld=>nM ?_)
   clear hK K
   refine rD 10 (fun K hK=>?_)
   go_simp
   ((with_reducible refine(HL.out _).mono ?_));rintro e w2 ⟨rfl,rfl⟩
   go_wp2_with fail
   refine hK.out _ _ ((Wa.out _ ((((((((((NP.refl [] w1).alloc _).alloc _).alloc _).alloc _).alloc _).alloc _).alloc _).alloc _).drew.eH T9.out)).c6) (fun hHeld=>nM ?_)
   clear hK K
   refine rD 11 (fun K hK=>?_)
   go_simp
   refine hK.out _ _ ((Wa.out _ (((((((((((NP.refl [] w1).alloc _).alloc _).alloc _).alloc _).alloc _).alloc _).alloc _).alloc _).alloc _).drew.eH T9.out)).c6) (fun hHeld=>nM ?_)
   clear hK K
   have⟨o1,o2,o3,o4,o5,o6,o7,o8⟩:=uR w1 #[b] #[(0:Int)] #[Z] #[b] #[(1:Int)] #[Z] #[b] #[.int .u64 1,(n:Int),j,(0:Int),(0:Int),()] 23 3 9 23 3 9 23 58
   have o9:ae (((((((((w1.alloc (.cells #[b] 23)).alloc (.cells #[(0:Int)] 3)).alloc (.cells #[Z] 9)).alloc (.cells #[b] 23)).alloc (.cells #[(1:Int)] 3)).alloc (.cells #[Z] 9)).alloc (.cells #[b] 23)).alloc (.cells #[.int .u64 1,(n:Int),j,(0:Int),(0:Int),()] 58)).alloc (.cells #[.func (.func 87) #[] #[w1.heap.size,↑(w1+1:Nat),↑(w1.heap.size+1+1:Nat)],.func (.func 87) #[] #[↑(w1.heap.size+1+1+1:Nat),↑(w1.heap.size+1+1+1+1:Nat),↑(w1.heap.size+1+1+1+1+1:Nat)],.func (.func 39) #[b] #[],.func (.func 92) #[] #[↑(w1.heap.size+1+1+1+1+1+1+1:Nat),↑(w1.heap.size+1+1+1+1+1+1:Nat)]] 42)) (w1.heap.size+1+1+1+1+1+1+1+1) #[.func (.func 87) #[] #[w1.heap.size,↑(w1+1:Nat),↑(w1.heap.size+1+1:Nat)],.func (.func 87) #[] #[↑(w1.heap.size+1+1+1:Nat),↑(w1.heap.size+1+1+1+1:Nat),↑(w1.heap.size+1+1+1+1+1:Nat)],.func (.func 39) #[b] #[],.func (.func 92) #[] #[↑(w1.heap.size+1+1+1+1+1+1+1:Nat),↑(w1.heap.size+1+1+1+1+1+1:Nat)]] 42:=by have:=ae.new ((((((((w1.alloc (.cells #[b] 23)).alloc (.cells #[(0:Int)] 3)).alloc (.cells #[Z] 9)).alloc (.cells #[b] 23)).alloc (.cells #[(1:Int)] 3)).alloc (.cells #[Z] 9)).alloc (.cells #[b] 23)).alloc (.cells #[.int .u64 1,(n:Int),j,(0:Int),(0:Int),()] 58)) #[.func (.func 87) #[] #[w1.heap.size,↑(w1+1:Nat),↑(w1.heap.size+1+1:Nat)],.func (.func 87) #[] #[↑(w1.heap.size+1+1+1:Nat),↑(w1.heap.size+1+1+1+1:Nat),↑(w1.heap.size+1+1+1+1+1:Nat)],.func (.func 39) #[b] #[],.func (.func 92) #[] #[↑(w1.heap.size+1+1+1+1+1+1+1:Nat),↑(w1.heap.size+1+1+1+1+1+1:Nat)]] 42;simpa only[Nd]using this
   refine rD 12 (fun K hK=>?_)
   go_simp
   ((with_reducible refine(P8.out _ ((K1.out.trans ((((((((((NP.refl [] w1).alloc _).alloc _).alloc _).alloc _).alloc _).alloc _).alloc _).alloc _).alloc _)).drew) _ w1 (w1.heap.size+1) (w1.heap.size+1+1) (w1.heap.size+1+1+1) (w1.heap.size+1+1+1+1) (w1.heap.size+1+1+1+1+1) (w1.heap.size+1+1+1+1+1+1+1) (w1.heap.size+1+1+1+1+1+1) _E _E _E _E _E _E _E _E _E o9.drew (o1.alloc _).drew (o2.alloc _).drew (o3.alloc _).drew (o4.alloc _).drew (o5.alloc _).drew (o6.alloc _).drew (o8.alloc _).drew (o7.alloc _).drew).mono ?_));rintro e w5 ⟨rfl,hD5,k5⟩
   have Sd:=((((((((((((NP.refl [] w1).alloc (.cells #[b] 23)).alloc (.cells #[(0:Int)] 3)).alloc (.cells #[Z] 9)).alloc (.cells #[b] 23)).alloc (.cells #[(1:Int)] 3)).alloc (.cells #[Z] 9)).alloc (.cells #[b] 23)).alloc (.cells #[.int .u64 1,(n:Int),j,(0:Int),(0:Int),()] 58)).alloc (.cells #[.func (.func 87) #[] #[w1.heap.size,↑(w1+1:Nat),↑(w1.heap.size+1+1:Nat)],.func (.func 87) #[] #[↑(w1.heap.size+1+1+1:Nat),↑(w1.heap.size+1+1+1+1:Nat),↑(w1.heap.size+1+1+1+1+1:Nat)],.func (.func 39) #[b] #[],.func (.func 92) #[] #[↑(w1.heap.size+1+1+1+1+1+1+1:Nat),↑(w1.heap.size+1+1+1+1+1+1:Nat)]] 42)).drew).eH (T:=T) (sb:=sb) (mb:=mb) T9.out).trans k5
   have⟨KK1,HD5⟩:=_f Sd hD5
   clear hD5 Sd k5 o1 o2 o3 o4 o5 o6 o7 o8 o9
   go_wp2_with fail
   refine hK.out _ _ ((Wa.out _ KK1.out).c6) (fun hHeld=>nM ?_)
   clear hK K
   refine tS ?_
   refine Ng _c ?_ _
   try simp only[List.set_cons_succ,List.set_cons_zero]
   go_wp2_with fail
   go_meet
   exact⟨rfl,HD5.out,(K1.out.eH HD.out.bH).trans KK1.out,Wa.out _ KK1.out⟩
  case rest=>
   obtain⟨rfl,hD2,kk,os2⟩:=hcut
   rename World=>w2
   have⟨HD2,KK⟩:=_f hD2 kk
   have aa0:Hid (∀W,NP [] w2 W->ae W w #[.int .u64 1,(n:Int),j,(0:Int),(0:Int),()] 58):=tK (fun W k=>k.own os2 _b)
   have HEM:Hid (∀W,am! 41 #[] W fun e w'=>e=.returned (.agg #[.int .u32 1,.int .u32 1,(),(),()])/\NP [] W w'):=tK (fun W=>BM W)
   have HC:Hid (1<=j/\4<=(n:Int)/\j<=(n:Int)-2):=tK ⟨c1,c2,c3⟩
   clear hD2 kk x0 x1 x2 x3 x4 x5 P8 HW HL HDL HT Wa K1 TK aeI T9 c1 c2 c3
   by_cases h0:F.2=0
   .have e0:(F.2==0)=true:=aa!
    have H0:=tK h0
    clear h0
    have QU:∀x∈([]:List Nat),x<w2.heap.size:=fun x hx=>by cases hx
    have Rs:=tK QU
    clear QU
    have⟨x0,x1,x2,x3,x4,x5⟩:=os2.c6
    clear os2
    go_upto_region 11 with fail
    refine MK (S:=(fun W=>W.cell? w=some (.int .u64 1)/\W.cell? (aa w 1)=(n:Int)/\W.cell? (aa w 2)=j/\W.cell? (aa w 3)=(0:Int)/\W.cell? (aa w 4)=(0:Int)/\W.cell? (aa w 5)=())) _c (by exact(aa0.out _ (NP.refl [] w2).drew).c6) (fun hHeld=>?_)
    refine tS ?_
    refine rD 2 (fun K hK=>?_)
    go_simp
    ((with_reducible refine(HEM.out _).mono ?_));rintro e w3 ⟨rfl,k3⟩
    have Ti:=((NP.refl [] w2).drew).trans k3
    have K3:=tK Ti
    clear k3 Ti
    go_wp2_with fail
    refine hK.out _ _ ((aa0.out _ K3.out).c6) (fun hHeld=>nM ?_)
    clear hK K
    refine tS ?_
    refine rD 4 (fun K hK=>?_)
    go_simp
    refine hK.out _ _ ((aa0.out _ ((K3.out.drew).alloc _)).c6) (fun hHeld=>nM ?_)
    clear hK K
    refine tS ?_
    refine Ng _c ?_ _
    try simp only[List.set_cons_succ,List.set_cons_zero]
    go_wp2_with fail
    go_ret2
    have k4:=(K3.out).alloc (.cells (bL b (dX n j) () ⟨1,1,[],[],[]⟩ () () () false) 90)
    refine Or.inr ⟨HC.out,HD2.out.aJ k4,KK.out.trans (k4.eH HD2.out.bH),Or.inr ⟨H0.out,_,Nk KK.out.size K3.out.size,HD2.out.bU (T:=[]) (w':=_) Rs.out k4 K3.out.size,ae.new _ _ _,rfl⟩⟩
   .have e0:(F.2==0)=false:=by rw[Nl];exact h0
    have H0:=tK h0
    clear h0 os2
    go_wp2_with fail
    go_ret2
    exact Or.inr ⟨HC.out,HD2.out,KK.out,Or.inl ⟨H0.out,rfl⟩⟩
theorem yJ {e:Int} (he:e≠0):PD e x≠0:=by
 unfold PD;split<;>assumption
theorem nf {n:Nat} (h:(Ol n l x).2.2=0):x=0/\(Ol n l x).1.length=n/\(Ol n l x).1++(Ol n l x).2.1=l:=by
 unfold Ol at h ⊢
 split at h
 .exact absurd h _n
 .split at h
  .simp at h
  .split at h
   .simp at h
   .rename_i h1 h2 h3
    rw[if_neg h1,if_neg h2,if_neg h3]
    refine⟨_P,by simp;omega,_b⟩
theorem oM (a r:List UInt8) (n:Nat) (h:a.length=n):Ol n (a++r) 0=(a,r,0):=by
 subst h
 unfold Ol
 rw[if_neg _b,if_neg _a,if_neg _e]
 simp
theorem xq (n k:Nat) (r:List UInt8):N6 k (NT n k++r) 0=(n%256^k,r,0):=by
 unfold N6
 rw[oM _ _ _ (ak n k),xA]
theorem FI (m n:Nat) (r:List UInt8) (hm:m<=65536) (h:n<=m):PN m (NT n 4++r) 0=(n,r,0):=by
 unfold PN
 rw[xq,Nat.mod_eq_of_lt _a]
 simp only
 rw[if_neg _a]
theorem B5 (a r:List UInt8) (h:a.length<=65536):dY (dj a++r) 0=(a,r,0):=by
 unfold dY dj
 rw[MW,FI _ _ _ _a h]
 exact oM a r _ rfl
def aK (w:World) (b:Nat) (l:List UInt8) (x:Int):Prop:=∃(S:List UInt8) (at_:Nat),ae w b #[S,(at_:Int),x] 263/\at_<=S.length/\S.length<=1000000/\l=S.drop at_/\(x≠0->l=[])
theorem aK.map (h:aK w b l x) (f:∀cs,ae w b cs 263->ae w' b cs 263):aK w' b l x:=by
 have⟨S,a,o,r⟩:=h;exact⟨S,a,f _ o,r⟩
theorem aK.other (h:aK w b l x) {p:Addr} (hp:b≠p.block) (u:Value):aK (w.setCell p u) b l x:=h.map fun _ k=>k.other hp u
theorem aK.lt (h:aK w b l x):b<w.heap.size:=by
 have⟨S,a,h,_⟩:=h;exact h.lt
theorem aK.kept (h:aK w b l x) (k:NP S w w') (hb:b∉S):aK w' b l x:=by
 have⟨T,a,h1,h2⟩:=h;exact⟨T,a,k.own h1 hb,h2⟩
theorem aK.err (h:aK w b l x):w.cell? (aa b 2)=x:=by
 have⟨T,a,h1,h2⟩:=h;exact h1.cell 2 _b
theorem Ch (b:Nat) (l:List UInt8) (x e:Int) (w:World) (hR:aK w b l x) (_:e≠0):
  am! 250 #[b,e] w fun r w'=>r=.returned (.tuple #[])/\aK w' b [] (PD e x)/\NP [b] w w':=by
 have⟨S,a,hO,h1,h2,h3,h4⟩:=hR
 have c0:w.cell? b=S:=ae.cell hO 0 _b
 have c1:w.cell? (aa b 1)=(a:Int):=ae.cell hO 1 _b
 have c2:w.cell? (aa b 2)=x:=ae.cell hO 2 _b
 have z0:=ae.free hO 0
 have z1:=ae.free hO 1
 have z2:=ae.free hO 2
 by_cases hx:x=0
 .subst hx
  rw[jf]
  have hd:((0:Int)==0)=true:=rfl
  go_enter func250,ntmps250
  go_wp2_with fail
  go_end0
  refine⟨rfl,⟨S,S.length,?_,MG _,h2,_b,fun _=>rfl⟩,((NP.refl _ _).setCell (Or.inl _b) _).setCell (Or.inl _b) _⟩
  have h5:=(ae.set hO 2 e).set 1 (.int .i64 (bs S).size)
  rw[NQ]at h5 ⊢
  simpa using h5
 .have hd:(x==0)=false:=_h
  rw[s8 hx]
  have hl:=h4 hx
  subst h3
  go_enter func250,ntmps250
  go_wp2_with fail
  go_end0
  exact⟨rfl,⟨S,a,hO,h1,h2,hl.symm,fun _=>rfl⟩,NP.refl _ _⟩
theorem mH (b:Nat) (l:List UInt8) (x n:Int) (w:World) (hR:aK w b l x):
  am! 203 #[b,n] w fun r w'=>r=.returned (.string (bs (Ol n l x).1))/\aK w' b (Ol n l x).2.1 (Ol n l x).2.2/\NP [b] w w':=by
 have hf:=fun e w1 (h:aK w1 b l x) (he:e≠0)=>Ch b l x e w1 h he
 have UM:=hR
 have⟨S,a,hO,h1,h2,h3,h4⟩:=hR
 have c0:w.cell? b=S:=ae.cell hO 0 _b
 have c1:w.cell? (aa b 1)=(a:Int):=ae.cell hO 1 _b
 have c2:w.cell? (aa b 2)=x:=ae.cell hO 2 _b
 have z1:=ae.free hO 1
 by_cases hx:x=0
 .subst hx
  simp only[jf]at hf
  have hd:((0:Int)==0)=true:=rfl
  by_cases hn:n<0
  .have ht:Ol n l 0=([],[],1):=by simp[Ol,hn]
   rw[ht]
   clear ht
   go_enter func203,ntmps203
   go_wp2_with fail
   refine(hf 1 _ UM _d).mono ?_;rintro e w1 ⟨rfl,hR1,hk⟩
   go_wp2_with fail
   go_ret
   exact⟨rfl,hR1,hk⟩
  .have Wx:0<=n:=_a
   have PW:((bs S).size:Int)=S.length:=ak!
   have YX:l.length=S.length-a:=by rw[h3];simp
   have e1:IntKind.i64.wrap (((bs S).size:Int)-(a:Int))=(l.length:Int):=by rw[IntWalk.i64_in _ _a];omega
   have e1':((bs S).size:Int)-(a:Int)=(l.length:Int):=_a
   have Uq:(l.length:Int)<=1000000:=_a
   by_cases hl:(l.length:Int)<n
   .have ht:Ol n l 0=([],[],10):=by simp[Ol,hn,hl]
    rw[ht]
    clear ht
    go_enter func203,ntmps203
    go_wp2_with fail
    go_quiet (fail)
    go_wp2_with fail
    refine(hf 10 _ ⟨S,a,hO.drewN _,h1,h2,h3,h4⟩ _d).mono ?_;rintro e w1 ⟨rfl,hR1,hk⟩
    go_wp2_with fail
    go_ret
    exact⟨rfl,hR1,((NP.refl _ _).drewN _).trans hk⟩
   .have ht:Ol n l 0=(l.take n.toNat,l.drop n.toNat,0):=by simp[Ol,hn,hl]
    rw[ht]
    obtain⟨k,rfl⟩:=MM Wx
    have e2:IntKind.i64.wrap ((a:Int)+(k:Int))=((a+k:Nat):Int):=by rw[IntWalk.i64_in _ _a];omega
    have e3:(bs S).extract a (a+k)=bs (l.take k):=by rw[aY,h3];simp
    have PY:a+k<=(bs S).size:=_a
    clear ht hf
    go_enter func203,ntmps203
    go_wp2_with fail
    go_quiet (fail)
    go_wp2_with fail
    go_quiet (fail)
    go_wp2_with fail
    go_ret
    refine⟨?_,⟨S,a+k,?_,_a,h2,by rw[h3];simp,fun h=>absurd rfl h⟩,((NP.refl _ _).drewN _).setCell (Or.inl _b) _⟩
    .show Ending.returned (Value.string ((bs S).extract a (a+k)))=_
     rw[e3];rfl
    .have h5:=fun n=>(ae.drewN hO n).set 1 ((a:Int)+k:Int)
     simpa using h5 _
 .have ht:Ol n l x=([],l,x):=by simp[Ol,hx]
  rw[ht]
  have hd:(x==0)=false:=_h
  have UH:(x != 0)=true:=_h
  clear ht
  go_enter func203,ntmps203
  go_wp2_with fail
  go_ret
  exact⟨rfl,UM,NP.refl _ _⟩
theorem Ih (t:List UInt8) (j:Nat) (hj:j<t.length) (hl:t.length<=8) (hb:j<(bs t).size):
  RN (t.drop (j+1))<256^7/\(RN (t.drop (j+1)):Int)*256+((bs t)[j].toNat:Int)=(RN (t.drop j):Int):=by
 have h1:t.drop j=t[j]::t.drop (j+1):=List.drop_eq_getElem_cons hj
 have h2:=mO (t.drop (j+1))
 have h3:(256:Nat)^(t.drop (j+1)).length<=256^7:=Nat.pow_le_pow_right _d _e
 refine⟨_a,?_⟩
 rw[h1,RN]
 have hg:(bs t)[j]=t[j]:=rfl
 rw[hg];omega
theorem sD (b k:Nat) (l:List UInt8) (x:Int) (w:World) (hR:aK w b l x) (hk:k<=8):
  am! 202 #[b,(k:Int)] w fun r w'=>r=.returned (.int .u64 (N6 k l x).1)/\aK w' b (N6 k l x).2.1 (N6 k l x).2.2/\NP [b] w w':=by
 have ht:=mH b l x k w hR
 have UY:=lZ k l x
 unfold N6
 generalize Ol (k:Int) l x=t at*
 have hlen:t.1.length<=8:=_a
 have PW:((bs t.1).size:Int)=t.1.length:=ak!
 have aeM:(bs t.1).size=t.1.length:=ak!
 go_enter func202,ntmps202
 go_wp2_with fail
 refine ht.mono ?_;rintro e w1 ⟨rfl,hR1,OP⟩
 go_wp2_with fail
 go_loop [6,7] (fun v i=>∃j:Nat,j<=t.1.length/\i=((j:Int)-1:Int)/\v=.int .u64 (RN (t.1.drop j))) (fun _ i=>(intOf i+1).toNat)
 case atStart=>exact⟨t.1.length,MG _,_j,by simp[RN]⟩
 case round=>
  obtain⟨j,hj,rfl,rfl⟩:=hrel
  by_cases NV:0<j
  .obtain⟨i,rfl⟩:∃i,j=i+1:=⟨j-1,_a⟩
   have Rr:i<(bs t.1).size:=_a
   have⟨g1,g2⟩:=Ih t.1 i _a hlen Rr
   have Ox:=tK g2
   have g3:(bs t.1)[i].toNat<256:=(bs t.1)[i].toNat_lt
   clear g2
   go_wp2_with fail
   go_round
   case rel=>exact⟨i,_a,_j,by rw[<-Ox.out]⟩
   case measure=>simp[intOf]
  .have Oy:Hid (t.1.drop j=t.1):=by
    show t.1.drop j=t.1
    rw[show j=0 from by omega];rfl
   go_wp2_with fail
   go_ret
   exact⟨by show Ending.returned (Value.int .u64 (RN (t.1.drop j)))=_;rw[Oy.out],hR1,OP⟩
theorem Jj (b:Nat) (l:List UInt8) (x:Int) (w:World) (hR:aK w b l x):
  am! 285 #[b] w fun r w'=>r=.returned (.string (bs (dY l x).1))/\aK w' b (dY l x).2.1 (dY l x).2.2/\NP [b] w w':=by
 have hn:am! 202 #[b,(4:Int)] w fun r w'=>r=.returned (.int .u64 (N6 4 l x).1)/\aK w' b (N6 4 l x).2.1 (N6 4 l x).2.2/\NP [b] w w':=sD b 4 l x w hR _a
 have hb:=cp 4 l x
 have Q3:((N6 4 l x).1:Int)<4294967296:=_a
 unfold dY PN
 simp only
 generalize N6 4 l x=u at*
 clear hb
 by_cases NV:65536<u.1
 .rw[if_pos NV]
  have YD:PD 2 u.2.2≠0:=yJ _d
  have e1:Ol (0:Nat) [] (PD 2 u.2.2)=([],[],PD 2 u.2.2):=if_pos YD
  simp only[e1]
  have ht:=fun w1 (h:aK w1 b [] (PD 2 u.2.2))=>mH b [] (PD 2 u.2.2) u.1 w1 h
  have e2:Ol (u.1:Int) [] (PD 2 u.2.2)=([],[],PD 2 u.2.2):=if_pos YD
  rw[e2]at ht
  have hf:=fun w1 (h:aK w1 b u.2.1 u.2.2)=>Ch b u.2.1 u.2.2 2 w1 h _d
  generalize PD 2 u.2.2=ke at*
  have Zv:(65536:Int)<u.1:=_a
  clear e1 e2 NV
  go_enter func285,ntmps285
  go_wp2_with fail
  refine hn.mono ?_;rintro e w1 ⟨rfl,hR1,OP⟩
  go_wp2_with fail
  refine(hf _ hR1).mono ?_;rintro e w2 ⟨rfl,Qn,PY⟩
  go_wp2_with fail
  refine(ht _ Qn).mono ?_;rintro e w3 ⟨rfl,Q4,P6⟩
  go_wp2_with fail
  go_ret
  exact⟨rfl,Q4,(OP.trans PY).trans P6⟩
 .rw[if_neg NV]
  have ht:=fun w1 (h:aK w1 b u.2.1 u.2.2)=>mH b u.2.1 u.2.2 u.1 w1 h
  generalize Ol (u.1:Int) u.2.1 u.2.2=t at*
  have Zv:(u.1:Int)<=65536:=_a
  have hun:(0:Int)<=u.1:=_a
  clear NV
  generalize (u.1:Int)=n at*
  go_enter func285,ntmps285
  go_wp2_with fail
  refine hn.mono ?_;rintro e w1 ⟨rfl,hR1,OP⟩
  go_wp2_with fail
  refine(ht _ hR1).mono ?_;rintro e w3 ⟨rfl,Q4,P6⟩
  go_wp2_with fail
  go_ret
  exact⟨rfl,Q4,OP.trans P6⟩
theorem Jk (b:Nat) (l:List UInt8) (x:Int) (w:World) (hR:aK w b l x):
  am! 201 #[b] w fun r w'=>r=(l.length:Int)/\∃n,w'=w.drewN n:=by
 have⟨S,a,hO,h1,h2,h3,h4⟩:=hR
 have c0:w.cell? b=S:=ae.cell hO 0 _b
 have c1:w.cell? (aa b 1)=(a:Int):=ae.cell hO 1 _b
 have PW:((bs S).size:Int)=S.length:=ak!
 have YX:l.length=S.length-a:=by rw[h3];simp
 have e1:IntKind.i64.wrap (((bs S).size:Int)-(a:Int))=(l.length:Int):=by rw[IntWalk.i64_in _ _a];omega
 have Oy:Hid ((S.length:Int)-(a:Int)=(l.length:Int)):=by show(S.length:Int)-(a:Int)=(l.length:Int);omega
 clear h3 h4
 go_enter func201,ntmps201
 go_wp2_with fail
 go_quiet (fail)
 go_wp2_with fail
 go_ret
 exact⟨by show Ending.returned (Value.int .i64 ((S.length:Int)-a))=_;rw[Oy.out],_,rfl⟩
theorem M66 (h:A:=by
 go_enter func253,ntmps253
 go_wp2_with fail
 go_quiet (fail)
 go_wp2_with fail
 go_ret
 exact⟨rfl,_,rfl⟩):A:=h
theorem Gz (b:Nat) (l:List UInt8) (x:Int) (w:World) (hR:aK w b l x):
  am! 253 #[b] w fun r w'=>r=(fM l x:Int)/\∃n,w'=w.drewN n:=by
 have⟨S,a,hO,h1,h2,h3,h4⟩:=hR
 have c0:w.cell? b=S:=ae.cell hO 0 _b
 have c1:w.cell? (aa b 1)=(a:Int):=ae.cell hO 1 _b
 have c2:w.cell? (aa b 2)=x:=ae.cell hO 2 _b
 have PW:((bs S).size:Int)=S.length:=ak!
 have YX:l.length=S.length-a:=by rw[h3];simp
 by_cases hx:x=0
 .subst hx
  have hd:decide ((0:Int)=0)=true:=rfl
  have UH:((0:Int)==0)=true:=rfl
  by_cases hl:l=[]
  .have he:fM l 0=0:=by simp[fM,hl]
   have NV:¬((a:Int)<((bs S).size:Int)):=by rw[hl]at YX;simp at YX;omega
   have US:decide ((a:Int)<((bs S).size:Int))=false:=MS NV
   rw[he]
   clear h3 h4 YX hl
   exact M66
  .have he:fM l 0=7:=by simp[fM,hl]
   have NV:((a:Int)<((bs S).size:Int)):=by have:0<l.length:=Nu.2 hl;omega
   have US:decide ((a:Int)<((bs S).size:Int))=true:=MV NV
   rw[he]
   clear h3 h4 YX hl
   exact M66
 .have he:fM l x=x:=by simp[fM,hx]
  have hd:(x==0)=false:=_h
  have UH:decide (x=0)=false:=_h
  rw[he]
  clear h3 h4 YX
  exact M66

/- -/
import Derived.Test.YtdkimcnlhmhpgaaGreatK14
import Derived.Test.YtdkimcnlhmhpgaaGreatK21
set_option maxHeartbeats 16000000
set_option maxRecDepth 100000
set_option linter.unusedVariables false
namespace Go.Proofs.YtdkimcnlhmhpgaaGreat
open Go.RowKit
variable {T S:List Nat} {w w':World} {b sb mb g lo k n hi x:Nat} {d:DK} {v:Value} {l:List (Int×Int)} {xs:List Value} {c:aj}
theorem MU:type_of% @Classical.byContradiction:=@Classical.byContradiction
def aW (T:List Nat) (w:World) (b sb mb g:Nat):Prop:=g∉T/\g≠b/\g≠sb/\g≠mb/\¬WB w b g
theorem aW.pk (h:aW T w b sb mb g) (k:PK T b sb mb w w') (hg:g<w.heap.size):aW T w' b sb mb g:=
 ⟨h.1,h.2.1,h.2.2.1,h.2.2.2.1,fun hx=>by
  rcases k.wb g hx with h1|h1
  .exact h.2.2.2.2 h1
  .omega⟩
theorem aW.mono (h:aW T w b sb mb g) (hST:∀x∈S,x∈T):aW S w b sb mb g:=⟨fun hx=>h.1 (hST g hx),h.2⟩
theorem PK.same (k:PK T b sb mb w w') (h:aW T w b sb mb g) (hg:g<w.heap.size):w'.heap[g]? =w.heap[g]? :=k.block g hg h.1 h.2.1 h.2.2.1 h.2.2.2.1 h.2.2.2.2
theorem PK.own {cs:Array Value} {t:TypeId} (k:PK T b sb mb w w') (o:ae w g cs t) (h:aW T w b sb mb g):ae w' g cs t:=(k.same h o.lt).trans o
theorem DA.GM (h:DA w b sb mb lo d) (hk:WB w b k):k<w.heap.size:=by
 obtain⟨_,cs,h1⟩:=h.disk.wb hk
 exact(Array.getElem?_eq_some_iff.1 h1).1
theorem DA.qW (h:DA w b sb mb lo d) (k:aa [] w w') (g:Nat):WB w' b g↔WB w b g:=WB.gz (k.cell (a:=⟨b,1,none⟩) h.aQ (by simp))
theorem DA.bh (h:DA w b sb mb lo d) (hT:∀x∈T,x<w.heap.size) (k:aa [] w w') (hg:w.heap.size<=g):aW T w' b sb mb g:=
 ⟨fun hx=>by have:=hT g hx;omega,by have:=h.aQ;omega,by have:=h.Bh;omega,by have:=h.BG;omega,fun hx=>by have:=h.GM ((h.qW k g).1 hx);omega⟩
def SD (T:List Nat) (w:World) (b sb mb:Nat):Nat->Prop:=fun g=>¬aW T w b sb mb g
theorem DA.qY (h:DA w b sb mb lo d) (hT:∀x∈T,x<w.heap.size):∀x,SD T w b sb mb x->x<w.heap.size:=by
 intro x hx
 apply MU
 intro Ns
 exact hx (h.bh hT (aa.refl [] w) (by omega))
theorem SD.kept (k:aa [] w w') (hb:b<w.heap.size):SD T w' b sb mb=SD T w b sb mb:=by
 funext g
 unfold SD aW
 rw[WB.gz (k.cell (a:=⟨b,1,none⟩) hb (by simp))]
theorem bJ.J8 {off c:Nat} {m:Nat} (h:bJ (SD T w b sb mb) (.slice (some ⟨g,off,none⟩) m c) n) (hn:0<n):aW T w b sb mb g:=by
 apply MU
 intro hx
 exact h g off none m c rfl hn hx
theorem bJ.pk (h:bJ (SD T w b sb mb) v n) (k:PK T b sb mb w w') (Ns:∀g off sp n' c,v=.slice (some ⟨g,off,sp⟩) n' c->0<n->g<w.heap.size):bJ (SD T w' b sb mb) v n:=by
 intro g off sp n' c e hn hx
 apply h g off sp n' c e hn
 intro hy
 exact hx (hy.pk k (Ns g off sp n' c e hn))
def b8 (T:List Nat) (w:World) (b sb mb:Nat) (v:Value) (l:List (Int×Int)):Prop:=(∃lo hi,af w v l lo hi)/\bJ (SD T w b sb mb) v l.length
theorem af.pk (h:af w v l lo hi) (ho:bJ (SD T w b sb mb) v l.length) (k:PK T b sb mb w w'):af w' v l lo hi:=by
 rcases h with h|⟨g,off,c,e,h2,h3,h4,h5,h6,h7,h8⟩
 .exact Or.inl h
 .subst e
  have hg:=k.same (ho.J8 (MH.2 h6)) (by omega)
  refine Or.inr ⟨g,off,c,rfl,fun i hi=>?_,h3,h4,MA h5 k.size,h6,h7,h8⟩
  rw[World.cell?_of_block (w:=w) (a:=⟨g,_,none⟩) hg,World.cell?_of_block (w:=w) (a:=⟨g,_,none⟩) hg]
  exact h2 i hi
theorem af.lV (h:af w v l lo hi):∀g off sp n' c,v=.slice (some ⟨g,off,sp⟩) n' c->0<l.length->g<w.heap.size:=by
 intro g off sp n' c e hn
 rcases h with⟨h,_⟩|⟨b,off',c',e',_,_,h4,h5,_⟩
 .rw[h]at hn;simp at hn
 .rw[e']at e
  injection e with e
  injection e with e
  injection e with e
  subst e
  omega
theorem b8.pk (h:b8 T w b sb mb v l) (k:PK T b sb mb w w'):b8 T w' b sb mb v l:=by
 obtain⟨⟨lo,hi,h1⟩,h2⟩:=h
 exact⟨⟨lo,hi,h1.pk h2 k⟩,h2.pk k h1.lV⟩
theorem b8.kept0 (h:b8 T w b sb mb v l) (k:aa [] w w') (hb:b<w.heap.size):b8 T w' b sb mb v l:=h.pk (k.bM hb)
theorem b8.nil (a:Option Addr) (c:Nat):b8 T w b sb mb (.slice a 0 c) []:=⟨⟨0,0,Or.inl ⟨rfl,a,c,rfl⟩⟩,fun g off sp n' c e hn=>by simp at hn⟩
theorem af.J7 {S:Nat->Prop} (h:af w v l lo hi) (hS:∀x,S x->x<lo):bJ S v l.length:=by
 intro g off sp n c e hn hg
 rcases h with⟨h,_⟩|⟨b,off',c',e',_,h3,_⟩
 .rw[h]at hn;simp at hn
 .rw[e']at e
  injection e with e
  injection e with e
  injection e with e
  subst e
  have:=hS _ hg
  omega
theorem af.new {OD:Nat} (h:af w' v l OD hi) (hD:DA w b sb mb lo d) (hT:∀x∈T,x<w.heap.size) (k:aa [] w w') (hlo:w.heap.size<=OD):b8 T w' b sb mb v l:=
 ⟨⟨OD,hi,h⟩,h.J7 (fun x hx=>by
  rw[SD.kept k hD.aQ]at hx
  have:=hD.qY hT x hx
  omega)⟩
theorem b8.mono (h:b8 T w b sb mb v l) (hST:∀x∈S,x∈T):b8 S w b sb mb v l:=⟨h.1,h.2.weaken (fun x hx hy=>hx (hy.mono hST))⟩
theorem cj.pk (h:cj w v n k xs) (ho:bJ (SD T w b sb mb) v n) (q:PK T b sb mb w w'):cj w' v n k xs:=by
 obtain⟨h1,h⟩:=h
 refine⟨h1,?_⟩
 rcases h with h|⟨g,off,c,e,h2,h3,h4,h5⟩
 .exact Or.inl h
 .subst e
  have hg:=q.same (ho.J8 h4) h3
  refine Or.inr ⟨g,off,c,rfl,fun j u hj=>?_,Mo h3 q.size,h4,h5⟩
  rw[World.cell?_of_block (w:=w) (a:=⟨g,_,none⟩) hg]
  exact h2 j u hj
theorem cj.lV (h:cj w v n k xs):∀g off sp n' c,v=.slice (some ⟨g,off,sp⟩) n' c->0<n->g<w.heap.size:=by
 intro g off sp n' c e hn
 subst e
 rcases h.2 with⟨h0,_⟩|⟨b,off',c',e,h3,h4,_⟩
 .omega
 .injection e with e
  injection e with e
  injection e with e
  subst e
  exact h4
theorem ax.pk {l:List Nf} (h:ax (SD T w b sb mb) w v l) (k:PK T b sb mb w w'):ax (SD T w' b sb mb) w' v l:=by
 obtain⟨vs,h1,h2,h3,h4⟩:=h
 refine⟨vs,h1,h2.pk h4 k,fun x hx=>⟨⟨((h3 x hx).1.1.pk (h3 x hx).2 k).jK,(h3 x hx).1.2⟩,(h3 x hx).2.pk k (h3 x hx).1.1.lV⟩,h4.pk k h2.lV⟩
def cO (T:List Nat) (w:World) (b sb mb:Nat) (v:Value) (c:aj):Prop:=aw (SD T w b sb mb) w v c
theorem cO.pk (h:cO T w b sb mb v c) (k:PK T b sb mb w w'):cO T w' b sb mb v c:=by
 obtain⟨va,vb,vc,e,h1,h2,h3,h4⟩:=h
 exact⟨va,vb,vc,e,h1.pk k,h2.pk k,h3.pk k,h4⟩
theorem cO.kept0 (h:cO T w b sb mb v c) (k:aa [] w w') (hb:b<w.heap.size):cO T w' b sb mb v c:=h.pk (k.bM hb)
theorem cO.plain (h:cO T w b sb mb v c):cC w v c:=aw.plain h
theorem cO.empty (T:List Nat) (w:World) (b sb mb:Nat):cO T w b sb mb (.agg #[.int .u32 1,.int .u32 1,.slice none 0 0,.slice none 0 0,.slice none 0 0]) ⟨1,1,[],[],[]⟩:=⟨_,_,_,rfl,ax.nil _ _,ax.nil _ _,ax.nil _ _,by decide,by decide⟩
theorem aw.Gt (h:aw (SD T w b sb mb) w' v c) (k:aa [] w w') (hb:b<w.heap.size):cO T w' b sb mb v c:=by
 unfold cO
 rw[SD.kept k hb]
 exact h
def stp (x:Nat):Nat:=if x%2=1 then x/2 ^^^ 3988292384 else x/2
def S8:Nat->Nat->Nat
 |0,x=>x
 |k+1,x=>stp (S8 k x)
def Gm (x:Nat) (b:UInt8):Nat:=S8 8 (x ^^^ b.toNat)
def P2 (x:Nat) (l:List UInt8):Nat:=l.foldl Gm x
def Qh (l:List UInt8):Nat:=4294967295-P2 4294967295 l
theorem JL (h:x<2^32):stp x<2^32:=by
 unfold stp
 split
 .exact Nat.xor_lt_two_pow (by omega) (by decide)
 .omega
theorem Ah (k:Nat) (h:x<2^32):S8 k x<2^32:=by
 induction k with
 |zero=>exact h
 |succ k ih=>exact JL ih
theorem KP (b:UInt8):b.toNat<2^32:=Nat.lt_trans b.toNat_lt (by decide)
theorem I5 (b:UInt8) (h:x<2^32):Gm x b<2^32:=Ah 8 (Nat.xor_lt_two_pow h (KP b))
theorem I2 (l:List UInt8) (h:x<2^32):P2 x l<2^32:=by
 induction l generalizing x with
 |nil=>exact h
 |cons b l ih=>exact ih (I5 b h)
theorem uj (l:List UInt8):Qh l<4294967296:=by unfold Qh;omega
theorem Ed (x:Nat) (l:List UInt8) (b:UInt8):P2 x (l++[b])=Gm (P2 x l) b:=by simp[P2,List.foldl_append]
end Go.Proofs.YtdkimcnlhmhpgaaGreat
namespace Go.Proofs.YtdkimcnlhmhpgaaGreat
open Go.RowKit
variable {T S:List Nat} {w w':World} {b sb g lo k n hi x:Nat} {d:DK} {v:Value} {l:List (Int×Int)} {xs:List Value} {c:aj}
def mb (l:List UInt8) (i:Nat):Bool:=match l[i/8]? with|some b=>b.toNat.testBit (i%8)|none=>false
def pb (j:Nat):Bool:=Nat.testBit 4374732215 (32-j)
def fs (l:List UInt8):Nat->Nat->Bool
 |0,i=>if i<32 then !(mb l i)else mb l i
 |a+1,i=>if fs l a a&&decide (a<=i/\i<a+33)then(fs l a i != pb (i-a))else fs l a i
theorem EV (x:Nat) (hx:x<4294967296):bits .xor .u32 (x/2:Int) (bits .and .u32 3988292384 (IntKind.u32.wrap (-(bits .and .u32 x 1))))=(stp x:Int):=by
 have e1:bits .and .u32 (x:Int) 1=((x%2:Nat):Int):=by
  have:=u32_and_nat x 1 hx (by decide)
  rw[Nat.and_one_is_mod]at this
  exact this
 rw[e1,IntKind.wrap_u32]
 have e2:((x:Int)/2)=((x/2:Nat):Int):=by omega
 rw[e2]
 unfold stp
 by_cases h:x%2=1
 .rw[if_pos h,h]
  have e3:(-((1:Nat):Int))%4294967296=((4294967295:Nat):Int):=by decide
  rw[e3,show(3988292384:Int)=((3988292384:Nat):Int)from rfl,u32_and_nat _ _ (by decide) (by decide)]
  rw[show 3988292384 &&& 4294967295=3988292384 from by decide,u32_xor_nat _ _ (by omega) (by decide)]
 .have h0:x%2=0:=by omega
  rw[if_neg h,h0]
  have e3:(-((0:Nat):Int))%4294967296=((0:Nat):Int):=by decide
  rw[e3,show(3988292384:Int)=((3988292384:Nat):Int)from rfl,u32_and_nat _ _ (by decide) (by decide)]
  rw[show 3988292384 &&& 0=0 from by decide,u32_xor_nat _ _ (by omega) (by decide),Nat.xor_zero]
theorem Aj {a b:Int} (h:a=b):Ending.returned (.int .u32 a)=.returned (.int .u32 b):=by rw[h]
theorem Lp (x:Nat) (w:World) (hx:x<4294967296):
  Calls Tryz.prog 237 #[.int .u32 x] w fun e w'=>e=.returned (.int .u32 (stp x))/\w=w':=by
 have H:=Mb (EV x hx)
 go_enter Tryz.func237,Tryz.ntmps237
 go_wp2_with fail
 go_ret
 exact⟨Aj H.out,rfl⟩
theorem EE (x:Nat) (h:x<4294967296):4294967295 ^^^ x=4294967295-x:=by
 apply Nat.eq_of_testBit_eq
 intro k
 have h1:=Nat.testBit_two_pow_sub_succ (n:=32) (show x<2^32 from h) k
 have e:2^32-(x+1)=4294967295-x:=by omega
 rw[e]at h1
 have h2:Nat.testBit 4294967295 k=decide (k<32):=Nat.testBit_two_pow_sub_one 32 k
 rw[Nat.testBit_xor,h1,h2]
 by_cases hk:k<32
 .rw[MQ hk];cases x.testBit k<;>rfl
 .rw[MN hk]
  have:x.testBit k=false:=Nat.testBit_lt_two_pow (Mo (show x<2^32 from h) (Nat.pow_le_pow_right (by decide) (by omega)))
  rw[this];rfl
theorem Aq (x:Nat) (h:x<4294967296):bits .xor .u32 IntKind.u32.max (x:Int)=((4294967295-x:Nat):Int):=by
 rw[show IntKind.u32.max=((4294967295:Nat):Int)from rfl,u32_xor_nat _ _ (by decide) h,EE x h]
theorem Lr (s0:Nat) (s:ByteArray) (w:World) (h0:s0<4294967296) (hs:s.size<=maxLen):
  Calls Tryz.prog 176 #[.int .u32 s0,.string s] w fun e w'=>e=.returned (.int .u32 ((4294967295-P2 (4294967295-s0) s.data.toList:Nat):Int))/\w=w':=by
 unfold maxLen at hs
 have Px:s.data.toList.length=s.size:=by simp
 have Tk:=Mb Px
 clear Px
 have e0:=Aq s0 h0
 have Ns:4294967295-s0<4294967296:=by omega
 generalize 4294967295-s0=x0 at*
 go_enter Tryz.func176,Tryz.ntmps176
 go_wp2_with fail
 go_loop [5,11] (fun x i=>∃k:Nat,k<=s.size/\i=.int .i64 k/\x=.int .u32 (P2 x0 (s.data.toList.take k))) (fun _ i=>s.size-(intOf i).toNat)
 case atStart=>exact⟨0,by omega,rfl,rfl⟩
 case round=>
  obtain⟨k,hk,rfl,rfl⟩:=hrel
  have hb:P2 x0 (s.data.toList.take k)<4294967296:=I2 _ Ns
  by_cases Ns:k<s.size
  .have hg:s.data.toList[k]'(by rw[Tk.out];exact Ns)=s[k]:=rfl
   have hv:Hid (P2 x0 (s.data.toList.take (k+1))=S8 8 (P2 x0 (s.data.toList.take k) ^^^ s[k].toNat)):=by
    show _=_
    rw[Mf (by rw[Tk.out];exact Ns),Ed,hg];rfl
   have hc:s[k].toNat<256:=s[k].toNat_lt
   have e1:bits .xor .u32 (P2 x0 (s.data.toList.take k)) (s[k].toNat:Int)=((P2 x0 (s.data.toList.take k) ^^^ s[k].toNat:Nat):Int):=u32_xor_nat _ _ hb (by omega)
   have Qo:(P2 x0 (s.data.toList.take k) ^^^ s[k].toNat)<2^32:=Nat.xor_lt_two_pow (n:=32) hb (by omega)
   generalize P2 x0 (s.data.toList.take k) ^^^ s[k].toNat=y at*
   generalize P2 x0 (s.data.toList.take k)=x at*
   clear hg
   go_wp2_with fail
   go_loop [5,20] (fun x j=>∃m:Nat,m<=8/\j=.int .i64 m/\x=.int .u32 (S8 m y)) (fun _ j=>8-(intOf j).toNat)
   case atStart=>exact⟨0,by omega,rfl,rfl⟩
   case round=>
    obtain⟨m,hm,rfl,rfl⟩:=hrel
    have Zx:S8 m y<4294967296:=Ah m Qo
    by_cases hm8:m<8
    .have Yt:Hid (S8 (m+1) y=stp (S8 m y)):=rfl
     generalize S8 m y=z at*
     go_wp2_with fail
     refine(Lp _ _ Zx).mono ?_;rintro e w' ⟨rfl,rfl⟩
     go_wp2_with fail
     go_round
     case rel=>exact⟨m+1,by omega,by go_num,by rw[Yt.out]⟩
     case measure=>simp[intOf];omega
    .obtain rfl:m=8:=by omega
     go_wp2_with fail
     go_round
     case rel=>exact⟨k+1,by omega,by go_num,by rw[hv.out]⟩
     case measure=>simp[intOf];omega
  .obtain rfl:k=s.size:=by omega
   have hw:s.data.toList.take s.size=s.data.toList:=Mk (by rw[Tk.out];exact Md _)
   have HW:=Mb hw
   clear hw
   have e2:=Aq _ hb
   have HF:Hid (((4294967295-P2 x0 (s.data.toList.take s.size):Nat):Int)=((4294967295-P2 x0 s.data.toList:Nat):Int)):=by show _=_;rw[HW.out]
   generalize 4294967295-P2 x0 (s.data.toList.take s.size)=r at*
   go_wp2_with fail
   go_ret
   exact⟨Aj HF.out,rfl⟩
theorem Cd (s:ByteArray) (w:World) (hs:s.size<=maxLen):
  Calls Tryz.prog 103 #[.string s] w fun e w'=>e=.returned (.int .u32 (Qh s.data.toList))/\w=w':=by
 have h:=fun w=>Lr 0 s w (by omega) hs
 have e:4294967295-P2 (4294967295-0) s.data.toList=Qh s.data.toList:=rfl
 rw[e]at h
 go_enter Tryz.func103,Tryz.ntmps103
 go_wp2_with fail
 refine(h _).mono ?_;rintro e w' ⟨rfl,rfl⟩
 go_wp2_with fail
 go_ret
 exact⟨rfl,rfl⟩
def eR (l:List UInt8):List UInt8:=l++Nh (Qh l) 4
theorem Ce (l:List UInt8) (w:World) (hs:l.length<=1000000):
  Calls Tryz.prog 111 #[.string (bs l)] w fun e w'=>e=.returned (.string (bs (eR l)))/\aa [] w w':=by
 have hz:(bs l).size=l.length:=Nj l
 have h:=fun w=>Cd (bs l) w (by unfold maxLen;omega)
 rw[dP]at h
 have hc:=uj l
 have hu:=fun w=>eh (Qh l) w hc
 have P8:(bs (Nh (Qh l) 4)).size<=4:=by rw[Nj,aq];omega
 have N6:Hid (bs l++bs (Nh (Qh l) 4)=bs (eR l)):=by show bs l++bs _=_;rw[aT];rfl
 generalize Qh l=c at*
 go_enter Tryz.func111,Tryz.ntmps111
 go_wp2_with fail
 refine(h _).mono ?_;rintro e w' ⟨rfl,rfl⟩
 go_wp2_with fail
 refine(hu _).mono ?_;rintro e w1 ⟨rfl,hk⟩
 go_wp2_with fail
 go_ret
 exact⟨by rw[<-N6.out];rfl,hk⟩
theorem GT (n:Nat) (w:World) (hn:n<18446744073709551616):
  Calls Tryz.prog 94 #[.int .u64 n] w fun e w'=>e=.returned (.int .i64 ((n%2:Nat):Int))/\w=w':=by
 have e1:0<=(n:Int)%2:=by omega
 have e2:(n:Int)%2<=1:=by omega
 go_enter Tryz.func94,Tryz.ntmps94
 go_wp2_with fail
 go_ret
 refine⟨?_,rfl⟩
 show Ending.returned (Value.int .i64 ((n:Int)%2))=Ending.returned (Value.int .i64 ((n%2:Nat):Int))
 rw[Int.natCast_emod];rfl
theorem GU (s:SB) (v:Value) (lo hi:Nat) (w:World) (h:af w v s.runs lo hi) (hl:s.runs.length<=1000000) (hq:s.seq<=9223372036854775808):
  Calls Tryz.prog 108 #[.agg (s.cells v)] w fun e w'=>(∃v',e=.returned (.agg (SB.cells {s with seq:=s.seq+1} v'))/\af w' v' s.runs w.heap.size w'.heap.size)/\aa [] w w':=by
 have hC:=fun w' (hk:aa [] w w')=>Dr v s.runs lo hi w' (h.kept0 hk) hl
 have HC:=Mb hC
 obtain⟨p,c,rfl⟩:=h.shape
 obtain⟨o1,o2⟩:=cQ w (s.cells (.slice p s.runs.length c)) (SB.cells ⟨0,0,0,0,0,[]⟩ (.slice none 0 0)) 58 58
 clear hC h
 unfold SB.cells at*
 obtain⟨c0,c1,c2,c3,c4,c5⟩:=o1.c6
 have z0:=o1.z6
 obtain⟨p1,p2⟩:=cQ w #[.int .u64 ((s.seq:Int)+1),.int .i64 s.sectors,.int .i64 s.journal,.int .i64 s.used,.int .i64 s.size,.slice p s.runs.length c] #[.int .u64 0,.int .i64 0,.int .i64 0,.int .i64 0,.int .i64 0,.slice none 0 0] 58 58
 go_enter Tryz.func108,Tryz.ntmps108
 go_wp2_with fail
 refine(HC.out _ (((aa.refl _ _).alloc _).alloc _)).mono ?_;rintro e w1 ⟨⟨v',rfl,hr⟩,hk⟩
 obtain⟨pp,cc,rfl⟩:=hr.shape
 have q1:=hk.own p1 (by simp)
 have q2:=hk.own p2 (by simp)
 have QC:aa [] w w1:=(((aa.refl _ _).alloc _).alloc _).trans hk
 obtain⟨d0,d1,d2,d3,d4,d5⟩:=q1.c6
 have z1:=q1.z6
 have z2:=q2.z6
 obtain⟨f0,f1,f2,f3,f4,f5⟩:=q2.c6
 go_wp2_with fail
 have hS:=aa.gC ((aa.refl [w.heap.size,w.heap.size+1] w1).setCell (p:=⟨w.heap.size,5,none⟩) (Or.inl (by simp)) (.slice pp s.runs.length cc)) (b:=w.heap.size+1) (Or.inl (by simp)) (.int .u64 ((s.seq:Int)+1)) (.int .i64 s.sectors) (.int .i64 s.journal) (.int .i64 s.used) (.int .i64 s.size) (.slice pp s.runs.length cc)
 have QU:=hr.kept hS (fun x hx=>by simp at hx ⊢;omega)
 refine Mx (v:=.agg #[.int .u64 ((s.seq:Int)+1),.int .i64 s.sectors,.int .i64 s.journal,.int .i64 s.used,.int .i64 s.size,.slice pp s.runs.length cc]) ?_ ?_ ?_
 .exact nf Tryz.results108 rfl ((q2.other (p:=⟨w.heap.size,5,none⟩) (by simp) _).gC _ _ _ _ _ _) Tryz.underlying58 rfl (by kernel_rfl)
 .rfl
 .refine⟨⟨_,rfl,QU.weaken (by simp;omega) (by simp[World.setCell]) (Md _)⟩,?_⟩
  exact QC.call hS (fun x hx=>by simp at hx;omega)
theorem KZ (b:Nat) (l:List UInt8) (w:World) (hR:aO w b l 0) (h4:4<=l.length):
  Calls Tryz.prog 191 #[.agg #[.pointer (some ⟨b,0,none⟩)]] w fun e w'=>e=.returned (.int .i64 (Rh (l.take 4)))/\aO w' b (l.drop 4) 0/\aa [b] w w':=by
 have hu:=fun w h=>nU b l 0 w h
 have e:Ny 4 l 0=(Rh (l.take 4),l.drop 4,0):=by
  unfold Ny NS
  rw[if_neg (by simp),if_neg (by omega),if_neg (by omega)];rfl
 rw[e]at hu
 have hb:=qo (l.take 4)
 rw[Mp,Nat.min_eq_left h4]at hb
 have UW:(Rh (l.take 4):Int)<4294967296:=by omega
 have QX:=ae.alloc hR (.cells #[.pointer (some ⟨b,0,none⟩)] 251)
 clear e hb
 generalize Rh (l.take 4)=n at*
 go_enter Tryz.func191,Tryz.ntmps191
 go_wp2_with fail
 refine(hu _ QX).mono ?_;rintro e w1 ⟨rfl,hR1,OY⟩
 go_wp2_with fail
 go_ret
 exact⟨rfl,hR1,((aa.refl _ _).alloc _).trans OY⟩
theorem Lb (b:Nat) (l:List UInt8) (w:World) (hR:aO w b l 0) (h4:2<=l.length):
  Calls Tryz.prog 192 #[.agg #[.pointer (some ⟨b,0,none⟩)]] w fun e w'=>e=.returned (.int .i64 (Rh (l.take 2)))/\aO w' b (l.drop 2) 0/\aa [b] w w':=by
 have hu:=fun w h=>tC b l 0 w h
 have e:Ny 2 l 0=(Rh (l.take 2),l.drop 2,0):=by
  unfold Ny NS
  rw[if_neg (by simp),if_neg (by omega),if_neg (by omega)];rfl
 rw[e]at hu
 have hb:=qo (l.take 2)
 rw[Mp,Nat.min_eq_left h4]at hb
 have UW:(Rh (l.take 2):Int)<65536:=by omega
 have QX:=ae.alloc hR (.cells #[.pointer (some ⟨b,0,none⟩)] 251)
 clear e hb
 generalize Rh (l.take 2)=n at*
 go_enter Tryz.func192,Tryz.ntmps192
 go_wp2_with fail
 refine(hu _ QX).mono ?_;rintro e w1 ⟨rfl,hR1,OY⟩
 go_wp2_with fail
 go_ret
 exact⟨rfl,hR1,((aa.refl _ _).alloc _).trans OY⟩
def ah:List (DK->DK×Int)->DK->DK×Int
 |[],d=>(d,0)
 |f::fs,d=>if(f d).2=0 then ah fs (f d).1 else f d
def Nq (i:Int) (s:List UInt8) (d:DK):DK×Int:=(NG d i s,NV d i s)
def Ni (d:DK):DK×Int:=(bL d,gn d)
def ks (fs:List (DK->DK×Int)) (d:DK) (k:Nat):DK:=(fs.take k).foldl (fun x f=>(f x).1) d
theorem M83 {A:Prop}(h:A:=by
 rw[Mf h,List.foldl_append]
 rfl):A:=h
theorem nO (fs:List (DK->DK×Int)) (d:DK) (k:Nat) (h:k<fs.length):ks fs d (k+1)=(fs[k] (ks fs d k)).1:=by
 unfold ks
 exact M83
theorem ur:∀(fs:List (DK->DK×Int)) (d:DK) (k:Nat) (h:k<fs.length),(∀i (hi:i<k),((fs[i]'(by omega)) (ks fs d i)).2=0)->(fs[k] (ks fs d k)).2≠0->ah fs d=fs[k] (ks fs d k)
 |[],d,k,h,_,_=>by simp at h
 |f::fs,d,0,h,_,h2=>by
  have h2':(f d).2≠0:=h2
  show(if(f d).2=0 then _ else f d)=f d
  rw[if_neg h2']
 |f::fs,d,k+1,h,h1,h2=>by
  have h3:(f d).2=0:=h1 0 (by omega)
  show(if(f d).2=0 then ah fs (f d).1 else f d)=_
  rw[if_pos h3]
  exact ur fs (f d).1 k (by simpa using h) (fun i hi=>h1 (i+1) (by omega)) h2
theorem wq:∀(fs:List (DK->DK×Int)) (d:DK),(∀i (hi:i<fs.length),(fs[i] (ks fs d i)).2=0)->ah fs d=(ks fs d fs.length,0)
 |[],d,_=>rfl
 |f::fs,d,h1=>by
  have h3:(f d).2=0:=h1 0 (by simp)
  show(if(f d).2=0 then ah fs (f d).1 else f d)=_
  rw[if_pos h3]
  exact wq fs (f d).1 (fun i hi=>h1 (i+1) (by simpa using hi))
theorem wG {T:List Nat} (fs:List (DK->DK×Int)) (us:List (Nat×Array Value×Array Value)) (hl:us.length=fs.length) (g off c:Nat) {w:World} {b sb mb lo:Nat} {d:DK} (hD:DA w b sb mb lo d) (hn:us.length<=1000)
  (hen:∀(i:Nat) (h:i<us.length),Enters Tryz.prog us[i].1)
  (hg:g<w.heap.size) (ho:aW T w b sb mb g)
  (NW:∀(i:Nat) (h:i<us.length),w.cell? ⟨g,off+i,none⟩=some (.func (.func us[i].1) us[i].2.1 us[i].2.2))
  (NQ:∀(k:Nat) (h:k<us.length) W,DA W b sb mb lo (ks fs d k)->PK T b sb mb w W->(∀i (hi:i<k),((fs[i]'(by omega)) (ks fs d i)).2=0)->Calls Tryz.prog us[k].1 (us[k].2.1++us[k].2.2) W fun e W'=>e=.returned (.int .i64 ((fs[k]'(hl▸h)) (ks fs d k)).2)/\DA W' b sb mb lo ((fs[k]'(hl▸h)) (ks fs d k)).1/\PK T b sb mb W W'):
  Calls Tryz.prog 37 #[.slice (some ⟨g,off,none⟩) us.length c] w fun e w'=>e=.returned (.int .i64 (ah fs d).2)/\DA w' b sb mb lo (ah fs d).1/\PK T b sb mb w w':=by
 refine(JI us (fun k=>if h:k<fs.length then(fs[k] (ks fs d k)).2 else 0) (fun k W=>DA W b sb mb lo (ks fs d k)/\PK T b sb mb w W) g off c w hn hen ⟨hD,PK.refl _ _ _ _ _⟩ (fun k W hI i h=>?_) (fun k h W hI hz=>?_)).mono ?_
 .rw[World.cell?_of_block (w:=w) (a:=⟨g,_,none⟩) (hI.2.same ho hg)]
  exact NW i h
 .have hk:k<fs.length:=hl▸h
  refine(NQ k h W hI.1 hI.2 (fun i hi=>?_)).mono ?_
  .have:=hz i hi
   rw[dif_pos (by omega)]at this
   exact this
  .rintro e W' ⟨h1,h2,h3⟩
   rw[dif_pos hk,nO fs d k hk]
   exact⟨h1,h2,hI.2.trans h3⟩
 .rintro e w' (⟨k,h1,h2,h3,h4,h5,h6⟩|⟨h2,h4,h5,h6⟩)
  .have hk:k<fs.length:=hl▸h1
   rw[dif_pos hk]at h3 h4
   rw[nO fs d k hk]at h5
   rw[ur fs d k hk (fun i hi=>by
    have:=h2 i hi
    rw[dif_pos (by omega)]at this
    exact this) h3]
   exact⟨h4,h5,h6⟩
  .rw[wq fs d (fun i hi=>by
    have:=h2 i (by omega)
    rw[dif_pos hi]at this
    exact this)]
   rw[hl]at h5
   exact⟨h4,h5,h6⟩
theorem CQ (b:Nat) (i:Int) (s:List UInt8) (w:World):
  Calls Tryz.prog 38 #[.pointer (some ⟨b,0,none⟩),.int .i64 i,.string (bs s)] w fun e w'=>e=.returned (.func (.func 87) #[] #[.pointer (some ⟨w.heap.size,0,none⟩),.pointer (some ⟨w.heap.size+1,0,none⟩),.pointer (some ⟨w.heap.size+2,0,none⟩)])/\((w.alloc (.cells #[.pointer (some ⟨b,0,none⟩)] 23)).alloc (.cells #[.int .i64 i] 3)).alloc (.cells #[.string (bs s)] 9)=w':=by
 go_enter Tryz.func38,Tryz.ntmps38
 go_wp2_with fail
 go_ret
 exact⟨rfl,rfl⟩
theorem uH {T:List Nat} (g1 g2 g3:Nat) (i:Int) (s:List UInt8) {w:World} {b sb mb lo:Nat} {d:DK} (hD:DA w b sb mb lo d) (h1:ae w g1 #[.pointer (some ⟨b,0,none⟩)] 23) (h2:ae w g2 #[.int .i64 i] 3) (h3:ae w g3 #[.string (bs s)] 9) (ho:d.ops<100000) (hw:d.waits.length<=10000):
  Calls Tryz.prog 87 #[.pointer (some ⟨g1,0,none⟩),.pointer (some ⟨g2,0,none⟩),.pointer (some ⟨g3,0,none⟩)] w fun e w'=>e=.returned (.int .i64 (Nq i s d).2)/\DA w' b sb mb lo (Nq i s d).1/\PK T b sb mb w w':=by
 have hW:=hD.write i s ho hw
 have c1:=h1.cell 0 (by simp)
 have c2:=h2.cell 0 (by simp)
 have c3:=h3.cell 0 (by simp)
 simp only[List.getElem_toArray,List.getElem_cons_zero]at c1 c2 c3
 clear hD h1 h2 h3
 unfold Nq
 go_enter Tryz.func87,Tryz.ntmps87
 go_wp2_with fail
 refine hW.mono ?_;rintro e w2 ⟨rfl,h4,h5⟩
 go_wp2_with fail
 go_ret
 exact⟨rfl,h4,h5.mono (by simp)⟩
theorem Lj (n:Int) (w:World):
  Calls Tryz.prog 224 #[.int .i64 n] w fun e w'=>e=.returned (.func (.func 225) #[] #[.pointer (some ⟨w.heap.size,0,none⟩)])/\w.alloc (.cells #[.int .i64 n] 3)=w':=by
 go_enter Tryz.func224,Tryz.ntmps224
 go_wp2_with fail
 go_ret
 exact⟨rfl,rfl⟩
theorem G9 (n:Int) (w:World):
  Calls Tryz.prog 226 #[.int .i64 n] w fun e w'=>e=.returned (.func (.func 227) #[] #[.pointer (some ⟨w.heap.size,0,none⟩)])/\w.alloc (.cells #[.int .i64 n] 3)=w':=by
 go_enter Tryz.func226,Tryz.ntmps226
 go_wp2_with fail
 go_ret
 exact⟨rfl,rfl⟩
inductive Ly
 |hd (s:SB) (v:Value)
 |wd (n:Nat)
 |hf (n:Nat)
def cM:List UInt8:=[83,72,69,65,70,48,48,49]
def Ly.fl:Ly->List UInt8
 |.hd s _=>cM++Nh s.seq 8
 |.wd n=>Nh n 4
 |.hf n=>Nh n 2
def kX (w:World) (lo:Nat) (v:Value):Ly->Prop
 |.hd s u=>∃g,lo<=g/\v=.func (.func 228) #[] #[.pointer (some ⟨g,0,none⟩)]/\ae w g (s.cells u) 58/\s.seq<18446744073709551616
 |.wd n=>∃g,lo<=g/\v=.func (.func 225) #[] #[.pointer (some ⟨g,0,none⟩)]/\ae w g #[.int .i64 n] 3/\n<4294967296
 |.hf n=>∃g,lo<=g/\v=.func (.func 227) #[] #[.pointer (some ⟨g,0,none⟩)]/\ae w g #[.int .i64 n] 3/\n<65536
theorem kX.kept {y:Ly} (h:kX w lo v y) (k:aa S w w') (hS:∀x∈S,x<lo):kX w' lo v y:=by
 have key:∀g,lo<=g->g∉S:=fun g hg hx=>by have:=hS g hx;omega
 cases y with
 |hd s u=>obtain⟨g,h1,h2,h3,h4⟩:=h;exact⟨g,h1,h2,k.own h3 (key g h1),h4⟩
 |wd n=>obtain⟨g,h1,h2,h3,h4⟩:=h;exact⟨g,h1,h2,k.own h3 (key g h1),h4⟩
 |hf n=>obtain⟨g,h1,h2,h3,h4⟩:=h;exact⟨g,h1,h2,k.own h3 (key g h1),h4⟩
theorem Ls (g n:Nat) (w:World) (h:ae w g #[.int .i64 n] 3) (hn:n<4294967296):
  Calls Tryz.prog 225 #[.pointer (some ⟨g,0,none⟩)] w fun e w'=>e=.returned (.string (bs (Nh n 4)))/\aa [] w w':=by
 have hu:=fun w=>eh n w hn
 have c0:w.cell? ⟨g,0,none⟩=some (.int .i64 (n:Int)):=h.cell 0 (by simp)
 have e1:IntKind.u32.wrap (n:Int)=(n:Int):=by rw[IntKind.wrap_u32];omega
 go_enter Tryz.func225,Tryz.ntmps225
 go_wp2_with fail
 refine(hu _).mono ?_;rintro e w1 ⟨rfl,hk⟩
 go_wp2_with fail
 go_ret
 exact⟨rfl,hk⟩
theorem Lt (g n:Nat) (w:World) (h:ae w g #[.int .i64 n] 3) (hn:n<65536):
  Calls Tryz.prog 227 #[.pointer (some ⟨g,0,none⟩)] w fun e w'=>e=.returned (.string (bs (Nh n 2)))/\aa [] w w':=by
 have hu:=fun w=>gu n w hn
 have c0:w.cell? ⟨g,0,none⟩=some (.int .i64 (n:Int)):=h.cell 0 (by simp)
 go_enter Tryz.func227,Tryz.ntmps227
 go_wp2_with fail
 refine(hu _).mono ?_;rintro e w1 ⟨rfl,hk⟩
 go_wp2_with fail
 go_ret
 exact⟨rfl,hk⟩
theorem Lu (g:Nat) (s:SB) (u:Value) (w:World) (h:ae w g (s.cells u) 58) (hn:s.seq<18446744073709551616):
  Calls Tryz.prog 228 #[.pointer (some ⟨g,0,none⟩)] w fun e w'=>e=.returned (.string (bs (cM++Nh s.seq 8)))/\aa [] w w':=by
 have hu:=fun w=>Iv s.seq w hn
 have c0:w.cell? ⟨g,0,none⟩=some (.int .u64 (s.seq:Int)):=ae.cell h 0 (by simp[SB.cells])
 have hz:(bs (Nh s.seq 8)).size<=8:=by rw[Nj,aq];omega
 have N6:Hid (bs cM++bs (Nh s.seq 8)=bs (cM++Nh s.seq 8)):=by show bs cM++_=_;rw[aT]
 generalize Nh s.seq 8=N at*
 go_enter Tryz.func228,Tryz.ntmps228
 go_wp2_with fail
 refine(hu _).mono ?_;rintro e w1 ⟨rfl,hk⟩
 go_wp2_with fail
 go_ret
 exact⟨by rw[<-N6.out];rfl,hk⟩
end Go.Proofs.YtdkimcnlhmhpgaaGreat

/- -/
import Derived.Test.YtdkimcnlhmhpgaaGreatM16
set_option maxHeartbeats 32000000
set_option maxRecDepth 100000
namespace Go.Proofs.YtdkimcnlhmhpgaaGreat
open Go.Proofs.Tryz Go.RowKit
variable {T:List Nat} {w w':World} {lo base n b:Nat} {v x0 x1:Value} {t:TypeId}
theorem Ei (x:Nat) (hx:x<4294967296):bits .xor .u32 (x/2:Int) (bits .and .u32 3988292384 (IntKind.u32.wrap (-(bits .and .u32 x 1))))=(Wy x:Int):=by
 have e1:bits .and .u32 (x:Int) 1=((x%2:Nat):Int):=by
  have:=u32_and_nat x 1 hx _d
  rw[Nat.and_one_is_mod]at this
  exact this
 rw[e1,IntKind.wrap_u32]
 have e2:((x:Int)/2)=((x/2:Nat):Int):=_a
 rw[e2]
 unfold Wy
 by_cases h:x%2=1
 .rw[if_pos h,h]
  have e3:(-((1:Nat):Int))%4294967296=((4294967295:Nat):Int):=_d
  rw[e3,show(3988292384:Int)=((3988292384:Nat):Int)from rfl,u32_and_nat _ _ _d _d]
  rw[show 3988292384 &&& 4294967295=3988292384 from by decide,u32_xor_nat _ _ _a _d]
 .have h0:x%2=0:=_a
  rw[if_neg h,h0]
  have e3:(-((0:Nat):Int))%4294967296=((0:Nat):Int):=_d
  rw[e3,show(3988292384:Int)=((3988292384:Nat):Int)from rfl,u32_and_nat _ _ _d _d]
  rw[show 3988292384 &&& 0=0 from by decide,u32_xor_nat _ _ _a _d,Nat.xor_zero]
theorem zh {a b:Int} (h:a=b):Ending.returned (a,())=.returned (b,()):=by rw[h]
theorem LD (x:Nat) (w:World) (hx:x<4294967296):
  am! 237 #[(x,())] w fun e w'=>e=.returned (.int .u32 (Wy x))/\w=w':=by
 have H:=tK (Ei x hx)
 go_enter func237,ntmps237
 go_wp2_with fail
 go_ret
 exact⟨zh H.out,rfl⟩
theorem D8 (x:Nat) (h:x<4294967296):4294967295 ^^^ x=4294967295-x:=by
 apply Nat.eq_of_testBit_eq
 intro k
 have h1:=Nat.testBit_two_pow_sub_succ (n:=32) (show x<2^32 from h) k
 have e:2^32-(x+1)=4294967295-x:=_a
 rw[e]at h1
 have h2:Nat.testBit 4294967295 k=decide (k<32):=Nat.testBit_two_pow_sub_one 32 k
 rw[Nat.testBit_xor,h1,h2]
 by_cases hk:k<32
 .rw[MV hk];cases x.testBit k<;>rfl
 .rw[MS hk]
  have:x.testBit k=false:=Nat.testBit_lt_two_pow (MR (show x<2^32 from h) (Nat.pow_le_pow_right _d _a))
  rw[this];rfl
theorem zt (x:Nat) (h:x<4294967296):bits .xor .u32 IntKind.u32.max (x:Int)=((4294967295-x:Nat):Int):=by
 rw[show IntKind.u32.max=((4294967295:Nat):Int)from rfl,u32_xor_nat _ _ _d h,D8 x h]
theorem LG (s0:Nat) (s:ByteArray) (w:World) (h0:s0<4294967296) (hs:s.size<=maxLen):
  am! 176 #[(s0,()),.string s] w fun e w'=>e=.returned (.int .u32 ((4294967295-QD (4294967295-s0) s.data.toList:Nat):Int))/\w=w':=by
 unfold maxLen at hs
 have PX:s.data.toList.length=s.size:=_b
 have TO:=tK PX
 clear PX
 have e0:=zt s0 h0
 have NV:4294967295-s0<4294967296:=_a
 generalize 4294967295-s0=x0 at*
 go_enter func176,ntmps176
 go_wp2_with fail
 go_loop [5,11] (fun x i=>∃k:Nat,k<=s.size/\i=(k:Int)/\x=.int .u32 (QD x0 (s.data.toList.take k))) (fun _ i=>s.size-(intOf i).toNat)
 case atStart=>exact⟨0,_a,rfl,rfl⟩
 case round=>
  obtain⟨k,hk,rfl,rfl⟩:=hrel
  have hb:QD x0 (s.data.toList.take k)<4294967296:=zQ _ NV
  by_cases NV:k<s.size
  .have hg:s.data.toList[k]' L!=s[k]:=rfl
   have hv:Hid (QD x0 (s.data.toList.take (k+1))=Ue 8 (QD x0 (s.data.toList.take k) ^^^ s[k].toNat)):=by
    show _=_
    rw[MI L!,vr,hg];rfl
   have hc:s[k].toNat<256:=s[k].toNat_lt
   have e1:bits .xor .u32 (QD x0 (s.data.toList.take k)) (s[k].toNat:Int)=((QD x0 (s.data.toList.take k) ^^^ s[k].toNat:Nat):Int):=u32_xor_nat _ _ hb _a
   have Q3:(QD x0 (s.data.toList.take k) ^^^ s[k].toNat)<2^32:=Nat.xor_lt_two_pow (n:=32) hb _a
   generalize QD x0 (s.data.toList.take k) ^^^ s[k].toNat=y at*
   generalize QD x0 (s.data.toList.take k)=x at*
   clear hg
   go_wp2_with fail
   go_loop [5,20] (fun x j=>∃m:Nat,m<=8/\j=(m:Int)/\x=.int .u32 (Ue m y)) (fun _ j=>8-(intOf j).toNat)
   case atStart=>exact⟨0,_a,rfl,rfl⟩
   case round=>
    obtain⟨m,hm,rfl,rfl⟩:=hrel
    have hb3:Ue m y<4294967296:=zc m Q3
    by_cases hm8:m<8
    .have hv2:Hid (Ue (m+1) y=Wy (Ue m y)):=rfl
     generalize Ue m y=z at*
     go_wp2_with fail
     refine(LD _ _ hb3).mono ?_;rintro e w' ⟨rfl,rfl⟩
     go_wp2_with fail
     go_round
     case rel=>exact⟨m+1,_a,_j,by rw[hv2.out]⟩
     case measure=>simp[intOf];omega
    .obtain rfl:m=8:=_a
     go_wp2_with fail
     go_round
     case rel=>exact⟨k+1,_a,_j,by rw[hv.out]⟩
     case measure=>simp[intOf];omega
  .obtain rfl:k=s.size:=_a
   have hw:s.data.toList.take s.size=s.data.toList:=Nh (by rw[TO.out];exact MG _)
   have HW:=tK hw
   clear hw
   have e2:=zt _ hb
   have HF:Hid (((4294967295-QD x0 (s.data.toList.take s.size):Nat):Int)=((4294967295-QD x0 s.data.toList:Nat):Int)):=by show _=_;rw[HW.out]
   generalize 4294967295-QD x0 (s.data.toList.take s.size)=r at*
   go_wp2_with fail
   go_ret
   exact⟨zh HF.out,rfl⟩
theorem Bu (s:ByteArray) (w:World) (hs:s.size<=maxLen):
  am! 103 #[.string s] w fun e w'=>e=.returned (.int .u32 (PE s.data.toList))/\w=w':=by
 have h:=fun w=>LG 0 s w _a hs
 have e:4294967295-QD (4294967295-0) s.data.toList=PE s.data.toList:=rfl
 rw[e]at h
 go_enter func103,ntmps103
 go_wp2_with fail
 refine(h _).mono ?_;rintro e w' ⟨rfl,rfl⟩
 go_wp2_with fail
 go_ret
 exact⟨rfl,rfl⟩
def dF (l:List UInt8):List UInt8:=l++NT (PE l) 4
theorem Bv (l:List UInt8) (w:World) (hs:l.length<=1000000):
  am! 111 #[l] w fun e w'=>e=.returned (.string (bs (dF l)))/\NP [] w w':=by
 have hz:(bs l).size=l.length:=NQ l
 have h:=fun w=>Bu (bs l) w _m
 rw[cC]at h
 have hc:=iJ l
 have hu:=fun w=>eU (PE l) w hc
 have Qx:(bs (NT (PE l) 4)).size<=4:=_X
 have Oy:Hid (bs l++bs (NT (PE l) 4)=bs (dF l)):=by show bs l++bs _=_;rw[aw];rfl
 generalize PE l=c at*
 go_enter func111,ntmps111
 go_wp2_with fail
 refine(h _).mono ?_;rintro e w' ⟨rfl,rfl⟩
 go_wp2_with fail
 refine(hu _).mono ?_;rintro e w1 ⟨rfl,hk⟩
 go_wp2_with fail
 go_ret
 exact⟨by rw[<-Oy.out];rfl,hk⟩
theorem GG (n:Nat) (w:World) (hn:n<18446744073709551616):
  am! 94 #[.int .u64 n] w fun e w'=>e=((n%2:Nat):Int)/\w=w':=by
 have e1:0<=(n:Int)%2:=_a
 have e2:(n:Int)%2<=1:=_a
 go_enter func94,ntmps94
 go_wp2_with fail
 go_ret
 refine⟨?_,rfl⟩
 show Ending.returned (Value.int .i64 ((n:Int)%2))=Ending.returned (Value.int .i64 ((n%2:Nat):Int))
 rw[Int.natCast_emod];rfl
theorem Li (s:SB) (v:Value) (lo hi:Nat) (w:World) (h:af w v s.runs lo hi) (hl:s.runs.length<=1000000) (hq:s.seq<=9223372036854775808):
  am! 108 #[.agg (s.cells v)] w fun e w'=>(∃v',e=.returned (.agg (SB.cells {s with seq:=s.seq+1} v'))/\af w' v' s.runs w w')/\NP [] w w':=by
 have hC:=fun w' (hk:NP [] w w')=>xj v s.runs lo hi w' (h.kept0 hk) hl
 have HC:=tK hC
 obtain⟨p,c,rfl⟩:=h.shape
 have⟨o1,o2⟩:=ch w (s.cells (p,s.runs.length,c)) (SB.cells ⟨0,0,0,0,0,[]⟩ ()) 58 58
 clear hC h
 unfold SB.cells at*
 have⟨c0,c1,c2,c3,c4,c5⟩:=o1.c6
 have z0:=o1.z6
 have⟨p1,p2⟩:=ch w #[.int .u64 ((s.seq:Int)+1),s.sectors,s.journal,s.used,s.size,(p,s.runs.length,c)] #[.int .u64 0,(0:Int),(0:Int),(0:Int),(0:Int),()] 58 58
 go_enter func108,ntmps108
 go_wp2_with fail
 refine(HC.out _ (((NP.refl _ _).alloc _).alloc _)).mono ?_;rintro e w1 ⟨⟨v',rfl,hr⟩,hk⟩
 obtain⟨pp,cc,rfl⟩:=hr.shape
 have q1:=hk.own p1 _b
 have q2:=hk.own p2 _b
 have QY:NP [] w w1:=(((NP.refl _ _).alloc _).alloc _).trans hk
 have⟨d0,d1,d2,d3,d4,d5⟩:=q1.c6
 have z1:=q1.z6
 have z2:=q2.z6
 have⟨f0,f1,f2,f3,f4,f5⟩:=q2.c6
 go_wp2_with fail
 have hS:=NP.bp ((NP.refl [w.heap.size,w.heap.size+1] w1).setCell (p:=(aa w 5)) (Or.inl _b) (pp,s.runs.length,cc)) (b:=w.heap.size+1) (Or.inl _b) (.int .u64 ((s.seq:Int)+1)) s.sectors s.journal s.used s.size (pp,s.runs.length,cc)
 have Th:=hr.kept hS (fun x hx=>by simp at hx ⊢;omega)
 refine MN (v:=.agg #[.int .u64 ((s.seq:Int)+1),s.sectors,s.journal,s.used,s.size,(pp,s.runs.length,cc)]) ?_ ?_ ?_
 .exact iu results108 rfl ((q2.other (p:=(aa w 5)) _b _).bp _ _ _ _ _ _) underlying58 rfl _c
 .rfl
 .refine⟨⟨_,rfl,Th.weaken _e z! (MG _)⟩,?_⟩
  exact QY.call hS (fun x hx=>by simp at hx;omega)
theorem Lf (b:Nat) (l:List UInt8) (w:World) (hR:aP w b l 0) (h4:4<=l.length):
  am! 191 #[.agg #[b]] w fun e w'=>e=(RN (l.take 4):Int)/\aP w' b (l.drop 4) 0/\NP [b] w w':=by
 have hu:=fun w h=>np b l 0 w h
 have e:N6 4 l 0=(RN (l.take 4),l.drop 4,0):=by
  unfold N6 Ol
  rw[if_neg _b,if_neg _a,if_neg _a];rfl
 rw[e]at hu
 have hb:=mO (l.take 4)
 rw[MO,Nat.min_eq_left h4]at hb
 have UR:(RN (l.take 4):Int)<4294967296:=_a
 have Qn:=ae.alloc hR (.cells #[b] 251)
 clear e hb
 generalize RN (l.take 4)=n at*
 go_enter func191,ntmps191
 go_wp2_with fail
 refine(hu _ Qn).mono ?_;rintro e w1 ⟨rfl,hR1,OP⟩
 go_wp2_with fail
 go_ret
 exact⟨rfl,hR1,((NP.refl _ _).alloc _).trans OP⟩
theorem Lj (b:Nat) (l:List UInt8) (w:World) (hR:aP w b l 0) (h4:2<=l.length):
  am! 192 #[.agg #[b]] w fun e w'=>e=(RN (l.take 2):Int)/\aP w' b (l.drop 2) 0/\NP [b] w w':=by
 have hu:=fun w h=>sJ b l 0 w h
 have e:N6 2 l 0=(RN (l.take 2),l.drop 2,0):=by
  unfold N6 Ol
  rw[if_neg _b,if_neg _a,if_neg _a];rfl
 rw[e]at hu
 have hb:=mO (l.take 2)
 rw[MO,Nat.min_eq_left h4]at hb
 have UR:(RN (l.take 2):Int)<65536:=_a
 have Qn:=ae.alloc hR (.cells #[b] 251)
 clear e hb
 generalize RN (l.take 2)=n at*
 go_enter func192,ntmps192
 go_wp2_with fail
 refine(hu _ Qn).mono ?_;rintro e w1 ⟨rfl,hR1,OP⟩
 go_wp2_with fail
 go_ret
 exact⟨rfl,hR1,((NP.refl _ _).alloc _).trans OP⟩
def aG:List (DK->DK×Int)->DK->DK×Int
 |[],d=>(d,0)
 |f::fs,d=>if(f d).2=0 then aG fs (f d).1 else f d
def aM (i:Int) (s:List UInt8) (d:DK):DK×Int:=(OJ d i s,OW d i s)
def aA (d:DK):DK×Int:=(iO d,qv d)
def kt (fs:List (DK->DK×Int)) (d:DK) (k:Nat):DK:=(fs.take k).foldl (fun x f=>(f x).1) d
theorem abI {A:Prop}(h:A:=by
 rw[MI h,List.foldl_append]
 rfl):A:=h
theorem ng (fs:List (DK->DK×Int)) (d:DK) (k:Nat) (h:k<fs.length):kt fs d (k+1)=(fs[k] (kt fs d k)).1:=by
 unfold kt
 exact abI
theorem tm:∀(fs:List (DK->DK×Int)) (d:DK) (k:Nat) (h:k<fs.length),(∀i (hi:i<k),((fs[i]' _a) (kt fs d i)).2=0)->(fs[k] (kt fs d k)).2≠0->aG fs d=fs[k] (kt fs d k)
 |[],d,k,h,_,_=>by simp at h
 |f::fs,d,0,h,_,h2=>by
  have h2':(f d).2≠0:=h2
  show(if(f d).2=0 then _ else f d)=f d
  rw[if_neg h2']
 |f::fs,d,k+1,h,h1,h2=>by
  have h3:(f d).2=0:=h1 0 _a
  show(if(f d).2=0 then aG fs (f d).1 else f d)=_
  rw[if_pos h3]
  exact tm fs (f d).1 k _T (fun i hi=>h1 (i+1) _a) h2
theorem vy:∀(fs:List (DK->DK×Int)) (d:DK),(∀i (hi:i<fs.length),(fs[i] (kt fs d i)).2=0)->aG fs d=(kt fs d fs.length,0)
 |[],d,_=>rfl
 |f::fs,d,h1=>by
  have h3:(f d).2=0:=h1 0 _b
  show(if(f d).2=0 then aG fs (f d).1 else f d)=_
  rw[if_pos h3]
  exact vy fs (f d).1 (fun i hi=>h1 (i+1) _D)
theorem Ao {T:List Nat} (fs:List (DK->DK×Int)) (us:List (Nat×Array Value×Array Value)) (hl:us.length=fs.length) (g off c:Nat) {w:World} {b sb mb lo:Nat} {d:DK} (hD:DA w b sb mb lo d) (hn:us.length<=1000)
  (hen:∀(i:Nat) (h:i<us.length),Enters prog us[i].1)
  (hg:g<w.heap.size) (ho:bf T w b sb mb g)
  (Ou:∀(i:Nat) (h:i<us.length),w.cell? (aa g (off+i))=some (.func (.func us[i].1) us[i].2.1 us[i].2.2))
  (Ox:∀(k:Nat) (h:k<us.length) W,DA W b sb mb lo (kt fs d k)->PK T b sb mb w W->(∀i (hi:i<k),((fs[i]' _a) (kt fs d i)).2=0)->am! us[k].1 (us[k].2.1++us[k].2.2) W fun e W'=>e=.returned (.int .i64 ((fs[k]'(hl▸h)) (kt fs d k)).2)/\DA W' b sb mb lo ((fs[k]'(hl▸h)) (kt fs d k)).1/\PK T b sb mb W W'):
  am! 37 #[.slice (some (aa g off)) us.length c] w fun e w'=>e=.returned (.int .i64 (aG fs d).2)/\DA w' b sb mb lo (aG fs d).1/\PK T b sb mb w w':=by
 refine(Jc us (fun k=>if h:k<fs.length then(fs[k] (kt fs d k)).2 else 0) (fun k W=>DA W b sb mb lo (kt fs d k)/\PK T b sb mb w W) g off c w hn hen ⟨hD,PK.refl _ _ _ _ _⟩ (fun k W hI i h=>?_) (fun k h W hI hz=>?_)).mono ?_
 .rw[World.cell?_of_block (w:=w) (a:=⟨g,_,none⟩) (hI.2.same ho hg)]
  exact Ou i h
 .have hk:k<fs.length:=hl▸h
  refine(Ox k h W hI.1 hI.2 (fun i hi=>?_)).mono ?_
  .have:=hz i hi
   rw[dif_pos _a]at this
   exact this
  .rintro e W' ⟨h1,h2,h3⟩
   rw[dif_pos hk,ng fs d k hk]
   exact⟨h1,h2,hI.2.trans h3⟩
 .rintro e w' (⟨k,h1,h2,h3,h4,h5,h6⟩|⟨h2,h4,h5,h6⟩)
  .have hk:k<fs.length:=hl▸h1
   rw[dif_pos hk]at h3 h4
   rw[ng fs d k hk]at h5
   rw[tm fs d k hk (fun i hi=>by
    have:=h2 i hi
    rw[dif_pos _a]at this
    exact this) h3]
   exact⟨h4,h5,h6⟩
  .rw[vy fs d (fun i hi=>by
    have:=h2 i _a
    rw[dif_pos hi]at this
    exact this)]
   rw[hl]at h5
   exact⟨h4,h5,h6⟩
theorem BV (b:Nat) (i:Int) (s:List UInt8) (w:World):
  am! 38 #[b,i,s] w fun e w'=>e=.returned (.func (.func 87) #[] #[w.heap.size,↑(w+1:Nat),↑(w+2:Nat)])/\((w.alloc (.cells #[b] 23)).alloc (.cells #[i] 3)).alloc (.cells #[s] 9)=w':=by
 go_enter func38,ntmps38
 go_wp2_with fail
 go_ret
 exact⟨rfl,rfl⟩
theorem tH (g1 g2 g3:Nat) (i:Int) (s:List UInt8) {w:World} {b sb mb lo:Nat} {d:DK} (hD:DA w b sb mb lo d) (h1:ae w g1 #[b] 23) (h2:ae w g2 #[i] 3) (h3:ae w g3 #[s] 9) (ho:d.ops<100000) (hw:d.waits.length<=10000):
  am! 87 #[g1,g2,g3] w fun e w'=>e=.returned (.int .i64 (aM i s d).2)/\DA w' b sb mb lo (aM i s d).1/\PK T b sb mb w w':=by
 have hW:=hD.write i s ho hw
 have c1:=h1.cell 0 _b
 have c2:=h2.cell 0 _b
 have c3:=h3.cell 0 _b
 simp only[List.getElem_toArray,List.getElem_cons_zero]at c1 c2 c3
 clear hD h1 h2 h3
 unfold aM
 go_enter func87,ntmps87
 go_wp2_with fail
 refine hW.mono ?_;rintro e w2 ⟨rfl,h4,h5⟩
 go_wp2_with fail
 go_ret
 exact⟨rfl,h4,h5.mono _b⟩
theorem Ls (n:Int) (w:World):
  am! 224 #[n] w fun e w'=>e=.returned (.func (.func 225) #[] #[w.heap.size])/\w.alloc (.cells #[n] 3)=w':=by
 go_enter func224,ntmps224
 go_wp2_with fail
 go_ret
 exact⟨rfl,rfl⟩
theorem GK (n:Int) (w:World):
  am! 226 #[n] w fun e w'=>e=.returned (.func (.func 227) #[] #[w.heap.size])/\w.alloc (.cells #[n] 3)=w':=by
 go_enter func226,ntmps226
 go_wp2_with fail
 go_ret
 exact⟨rfl,rfl⟩
inductive Ly
 |hd (s:SB) (v:Value)
 |wd (n:Nat)
 |hf (n:Nat)
def fe:List UInt8:=[83,72,69,65,70,48,48,49]
def Ly.eQ:Ly->List UInt8
 |.hd s _=>fe++NT s.seq 8
 |.wd n=>NT n 4
 |.hf n=>NT n 2
def kU (w:World) (lo:Nat) (v:Value):Ly->Prop
 |.hd s u=>∃g,lo<=g/\v=.func (.func 228) #[] #[.pointer (some ⟨g,0,none⟩)]/\ae w g (s.cells u) 58/\s.seq<18446744073709551616
 |.wd n=>∃g,lo<=g/\v=.func (.func 225) #[] #[.pointer (some ⟨g,0,none⟩)]/\ae w g #[(n:Int)] 3/\n<4294967296
 |.hf n=>∃g,lo<=g/\v=.func (.func 227) #[] #[.pointer (some ⟨g,0,none⟩)]/\ae w g #[(n:Int)] 3/\n<65536
variable {y:Ly}
theorem kU.kept {S:List Nat} (h:kU w lo v y) (k:NP S w w') (hS:∀x∈S,x<lo):kU w' lo v y:=by
 have key:∀g,lo<=g->g∉S:=fun g hg hx=>by have:=hS g hx;omega
 cases y with
 |hd s u=>have⟨g,h1,h2,h3,h4⟩:=h;exact⟨g,h1,h2,k.own h3 (key g h1),h4⟩
 |wd n=>have⟨g,h1,h2,h3,h4⟩:=h;exact⟨g,h1,h2,k.own h3 (key g h1),h4⟩
 |hf n=>have⟨g,h1,h2,h3,h4⟩:=h;exact⟨g,h1,h2,k.own h3 (key g h1),h4⟩
theorem LH (g n:Nat) (w:World) (h:ae w g #[(n:Int)] 3) (hn:n<4294967296):
  am! 225 #[g] w fun e w'=>e=.returned (.string (bs (NT n 4)))/\NP [] w w':=by
 have hu:=fun w=>eU n w hn
 have c0:w.cell? g=(n:Int):=h.cell 0 _b
 have e1:IntKind.u32.wrap (n:Int)=(n:Int):=by rw[IntKind.wrap_u32];omega
 go_enter func225,ntmps225
 go_wp2_with fail
 refine(hu _).mono ?_;rintro e w1 ⟨rfl,hk⟩
 go_wp2_with fail
 go_ret
 exact⟨rfl,hk⟩
theorem LJ (g n:Nat) (w:World) (h:ae w g #[(n:Int)] 3) (hn:n<65536):
  am! 227 #[g] w fun e w'=>e=.returned (.string (bs (NT n 2)))/\NP [] w w':=by
 have hu:=fun w=>mM n w hn
 have c0:w.cell? g=(n:Int):=h.cell 0 _b
 go_enter func227,ntmps227
 go_wp2_with fail
 refine(hu _).mono ?_;rintro e w1 ⟨rfl,hk⟩
 go_wp2_with fail
 go_ret
 exact⟨rfl,hk⟩
theorem LK (g:Nat) (s:SB) (u:Value) (w:World) (h:ae w g (s.cells u) 58) (hn:s.seq<18446744073709551616):
  am! 228 #[g] w fun e w'=>e=.returned (.string (bs (fe++NT s.seq 8)))/\NP [] w w':=by
 have hu:=fun w=>Hx s.seq w hn
 have c0:w.cell? g=some (.int .u64 (s.seq:Int)):=ae.cell h 0 (by simp[SB.cells])
 have hz:(bs (NT s.seq 8)).size<=8:=_X
 have Oy:Hid (bs fe++bs (NT s.seq 8)=bs (fe++NT s.seq 8)):=by show bs fe++_=_;rw[aw]
 generalize NT s.seq 8=N at*
 go_enter func228,ntmps228
 go_wp2_with fail
 refine(hu _).mono ?_;rintro e w1 ⟨rfl,hk⟩
 go_wp2_with fail
 go_ret
 exact⟨by rw[<-Oy.out];rfl,hk⟩
theorem kU.grown {rv:Value} {xs:List Value} (h:kU w lo v y) (Ot:w.ownsRow base 70 1 rv n xs) (hg:w.grownBy w' rv.ownBlock):kU w' lo v y:=by
 have key:∀g cs t,ae w g cs t->70≠t->ae w' g cs t:=fun g cs t o Pb=>by
  refine Eq.trans (hg.block g o.lt ?_) o
  rcases Ot.2 with⟨rfl,_⟩|⟨g',cap,cur,rfl,_,hh,_⟩
  .simp[Value.ownBlock]
  .intro he
   have e:g=g':=by simpa[Value.ownBlock]using he
   subst e
   have o':w.heap[g]? =some (.cells cs t (0,0)):=o
   rw[o']at hh
   injection hh with hh
   injection hh with _ ht
   exact Pb ht.symm
 cases y with
 |hd s u=>have⟨g,h1,h2,h3,h4⟩:=h;exact⟨g,h1,h2,key g _ _ h3 _d,h4⟩
 |wd n=>have⟨g,h1,h2,h3,h4⟩:=h;exact⟨g,h1,h2,key g _ _ h3 _d,h4⟩
 |hf n=>have⟨g,h1,h2,h3,h4⟩:=h;exact⟨g,h1,h2,key g _ _ h3 _d,h4⟩
theorem JN {x2 x3 x4 x5:Value} (h:ae w b #[x0,x1,x2,x3,x4,x5] t):w.cell? (aa b 1)=some x1/\w.cell? (aa b 2)=some x2/\w.cell? (aa b 3)=some x3/\w.cell? (aa b 4)=some x4/\w.cell? (aa b 5)=some x5:=h.c6.2
theorem xo (h:ae w b #[x0,x1] t):w.cell? b=some x0/\w.cell? (aa b 1)=some x1:=h.c2
theorem Hy {g:Nat} {cs:Array Value} {e:TypeId} (h:ae w g cs e) (hn:cs.size=n) (hb:base<=g) (hm:n<=maxLen):w.ownsRow base e 1 (g,n,n) n cs.toList:=
 ⟨by simp[hn],Or.inr ⟨g,n,cs,rfl,hb,h,MG _,hm,by simp[hn],by rw[Nh (by simp[hn])]⟩⟩
def SB.oH (s:SB) (v:Value) (k:Nat):List Ly:=
 [.hd s v,.wd s.sectors.toNat,.wd s.journal.toNat,.wd s.used.toNat,.wd s.size.toNat,.hf s.runs.length,.hf 0]++((s.runs.take k).map fun r=>[Ly.hf r.1.toNat,Ly.hf r.2.toNat]).flatten
theorem SB.FA (s:SB) (v:Value) (k:Nat) (h:k<s.runs.length):s.oH v (k+1)=s.oH v k++[.hf s.runs[k].1.toNat,.hf s.runs[k].2.toNat]:=by
 unfold SB.oH
 rw[MI h,M0,Nv,<-MW]
 rfl
def mY (w:World) (lo:Nat) (v:Value) (zs:List (Value×Ly)):Prop:=
 w.ownsRow lo 70 1 v zs.length (zs.map (·.1))/\∀z∈zs,kU w lo z.1 z.2
theorem FV:∃i,prog.info? 70=some i/\i.zero=some .nilFunc/\i.size=1/\i.bytes=8:=by
 have hi:(prog.info? 70).map (fun i=>(i.zero,i.size,i.bytes))=some (some .nilFunc,1,8):=_c
 exact Yh
def GR (w wx:World) (v:Value) (s:SB) (u:Value):Prop:=
 ∃zs,mY wx w v zs/\zs.map (·.2)=s.oH u 0/\ae wx w (s.cells u) 58/\NP [] w wx
theorem Ln (w:World) (sq a b u z n:Nat) (l:List (Int×Int)) (v:Value) (hn:l.length=n) (hsq:sq<18446744073709551616) (ha:a<4294967296) (hb:b<4294967296) (hu:u<4294967296) (hz:z<4294967296) (QU:n<65536):
  GR w ((((((((w.alloc (.cells #[.int .u64 (sq:Int),(a:Int),(b:Int),(u:Int),(z:Int),v] 58)).alloc (.cells #[(a:Int)] 3)).alloc (.cells #[(b:Int)] 3)).alloc (.cells #[(u:Int)] 3)).alloc (.cells #[(z:Int)] 3)).alloc (.cells #[(n:Int)] 3)).alloc (.cells #[(0:Int)] 3)).alloc (.cells #[.func (.func 228) #[] #[w.heap.size],.func (.func 225) #[] #[↑(w+1:Nat)],.func (.func 225) #[] #[↑(w.heap.size+1+1:Nat)],.func (.func 225) #[] #[↑(w.heap.size+1+1+1:Nat)],.func (.func 225) #[] #[↑(w.heap.size+1+1+1+1:Nat)],.func (.func 227) #[] #[↑(w.heap.size+1+1+1+1+1:Nat)],.func (.func 227) #[] #[↑(w.heap.size+1+1+1+1+1+1:Nat)]] 70)).drew (.slice (some (aa (w.heap.size+1+1+1+1+1+1+1) 0)) 7 7) ⟨sq,a,b,u,z,l⟩ v:=by
 have⟨o0,o1,o2,o3,o4,o5,o6,o7⟩:=uR w #[.int .u64 (sq:Int),(a:Int),(b:Int),(u:Int),(z:Int),v] #[(a:Int)] #[(b:Int)] #[(u:Int)] #[(z:Int)] #[(n:Int)] #[(0:Int)] #[.func (.func 228) #[] #[w.heap.size],.func (.func 225) #[] #[↑(w+1:Nat)],.func (.func 225) #[] #[↑(w.heap.size+1+1:Nat)],.func (.func 225) #[] #[↑(w.heap.size+1+1+1:Nat)],.func (.func 225) #[] #[↑(w.heap.size+1+1+1+1:Nat)],.func (.func 227) #[] #[↑(w.heap.size+1+1+1+1+1:Nat)],.func (.func 227) #[] #[↑(w.heap.size+1+1+1+1+1+1:Nat)]] 58 3 3 3 3 3 3 70
 have hr:=Hy (base:=w.heap.size) o7 (n:=7) rfl _a _m
 refine⟨[(.func (.func 228) #[] #[w.heap.size],.hd ⟨sq,a,b,u,z,l⟩ v),(.func (.func 225) #[] #[↑(w+1:Nat)],.wd a),(.func (.func 225) #[] #[↑(w.heap.size+1+1:Nat)],.wd b),(.func (.func 225) #[] #[↑(w.heap.size+1+1+1:Nat)],.wd u),(.func (.func 225) #[] #[↑(w.heap.size+1+1+1+1:Nat)],.wd z),(.func (.func 227) #[] #[↑(w.heap.size+1+1+1+1+1:Nat)],.hf n),(.func (.func 227) #[] #[↑(w.heap.size+1+1+1+1+1+1:Nat)],.hf 0)],⟨hr,?_⟩,?_,o0,?_⟩
 .intro y hy
  simp only[List.mem_cons,List.not_mem_nil,or_false]at hy
  rcases hy with rfl|rfl|rfl|rfl|rfl|rfl|rfl
  .exact⟨_,MG _,rfl,o0,hsq⟩
  .exact⟨_,_a,rfl,o1,ha⟩
  .exact⟨_,_a,rfl,o2,hb⟩
  .exact⟨_,_a,rfl,o3,hu⟩
  .exact⟨_,_a,rfl,o4,hz⟩
  .exact⟨_,_a,rfl,o5,QU⟩
  .exact⟨_,_a,rfl,o6,_a⟩
 .subst hn
  simp[SB.oH]
 .exact((((((((((NP.refl _ _).alloc _).alloc _).alloc _).alloc _).alloc _).alloc _).alloc _).alloc _).drew)
theorem Di {w wr w5:World} {v:Value} {zs:List (Value×Ly)} {n1 n2 g cap:Nat} (h:mY wr w v zs) (hw:w.heap.size<=wr.heap.size) (h1:n1<65536) (h2:n2<65536)
  (o3:w5.ownsRow w 70 1 (g,zs.length+2,cap) (zs.length+2) (zs.map (·.1)++[.func (.func 227) #[] #[↑(wr+1:Nat)],.func (.func 227) #[] #[↑(wr.heap.size+1+1:Nat)]]))
  (gr:World.grownBy ((((wr.alloc (.cells #[(n1:Int),(n2:Int)] 128)).alloc (.cells #[(n1:Int)] 3)).alloc (.cells #[(n2:Int)] 3)).alloc (.cells #[.func (.func 227) #[] #[↑(wr+1:Nat)],.func (.func 227) #[] #[↑(wr.heap.size+1+1:Nat)]] 70)).drew w5 v.ownBlock):
  mY w5 w (g,zs.length+2,cap) (zs++[(.func (.func 227) #[] #[↑(wr+1:Nat)],.hf n1),(.func (.func 227) #[] #[↑(wr.heap.size+1+1:Nat)],.hf n2)]):=by
 have⟨Ot,hlay⟩:=h
 have abA:=World.ownsRow.drew (MH (MH (MH (MH Ot (.cells #[(n1:Int),(n2:Int)] 128)) (.cells #[(n1:Int)] 3)) (.cells #[(n2:Int)] 3)) (.cells #[.func (.func 227) #[] #[↑(wr+1:Nat)],.func (.func 227) #[] #[↑(wr.heap.size+1+1:Nat)]] 70))
 have k4:NP [] wr ((((wr.alloc (.cells #[(n1:Int),(n2:Int)] 128)).alloc (.cells #[(n1:Int)] 3)).alloc (.cells #[(n2:Int)] 3)).alloc (.cells #[.func (.func 227) #[] #[↑(wr+1:Nat)],.func (.func 227) #[] #[↑(wr.heap.size+1+1:Nat)]] 70)).drew:=((((((NP.refl _ _).alloc _).alloc _).alloc _).alloc _).drew)
 have⟨_,q1,q2,_⟩:=nD wr #[(n1:Int),(n2:Int)] #[(n1:Int)] #[(n2:Int)] #[.func (.func 227) #[] #[↑(wr+1:Nat)],.func (.func 227) #[] #[↑(wr.heap.size+1+1:Nat)]] 128 3 3 70
 refine⟨by simpa using o3,fun y hy=>?_⟩
 rw[Na]at hy
 rcases hy with hy|hy
 .exact((hlay y hy).kept k4 _b).grown abA gr
 .simp only[List.mem_cons,List.not_mem_nil,or_false]at hy
  rcases hy with rfl|rfl
  .exact kU.grown (y:=.hf n1) ⟨_,_a,rfl,q1.drew,h1⟩ abA gr
  .exact kU.grown (y:=.hf n2) ⟨_,_a,rfl,q2.drew,h2⟩ abA gr
theorem EY (sq a b u z:Nat) (l:List (Int×Int)) (v:Value) (lo hi:Nat) (w:World) (h:af w v l lo hi) (hq:sq<18446744073709551616) (ha:a<=8192) (hb:b<=8192) (hu:u<=1048576) (hz:z<=1048576) (hl:l.length<=16)
  (Pf:∀k (hk:k<l.length),0<=l[k].1/\l[k].1<=8192/\0<=l[k].2/\l[k].2<=8192):
  am! 165 #[.agg #[.int .u64 (sq:Int),(a:Int),(b:Int),(u:Int),(z:Int),v]] w fun e w'=>(∃r zs,e=.returned r/\mY w' w r zs/\zs.map (·.2)=(SB.mk sq a b u z l).oH v l.length)/\NP [] w w':=by
 have⟨i0,hi0,Rh,Qc,Qx⟩:=FV
 obtain⟨p,c,rfl⟩:=h.shape
 have Ss:=tK Pf
 clear Pf
 have hL0:=Ln w sq a b u z l.length l (p,l.length,c) rfl hq _a _a _a _a _a
 have HL0:=tK hL0
 clear hL0
 have o:=ae.new w #[.int .u64 (sq:Int),(a:Int),(b:Int),(u:Int),(z:Int),(p,l.length,c)] 58
 have⟨d0,d1,d2,d3,d4,d5⟩:=o.c6
 go_enter func165,ntmps165
 go_upto_region 3 with fail
 go_cut [5] (fun v5 wx=>GR w wx v5 ⟨sq,a,b,u,z,l⟩ (p,l.length,c))
 case first=>
  go_region_held3 (fun w'=>w'.cell? (aa w 1)=(a:Int)/\w'.cell? (aa w 2)=(b:Int)/\w'.cell? (aa w 3)=(u:Int)/\w'.cell? (aa w 4)=(z:Int)/\w'.cell? (aa w 5)=(p,l.length,c)) ((refine JN (x0:=.int .u64 (sq:Int)) (t:=58) ?_;(repeat' first|exact o|refine ae.drew ?_|refine ae.alloc ?_ _)))
   (first
    |(go_at_call 224;((with_reducible refine(Ls _ _).mono ?_));rintro e w' ⟨rfl,rfl⟩)
    |(go_at_call 226;((with_reducible refine(GK _ _).mono ?_));rintro e w' ⟨rfl,rfl⟩))
  all_goals go_wp2_with fail
  all_goals go_meet
  all_goals exact HL0.out
 case rest=>
  have⟨zs,hlays,YF,ho,Zb⟩:=hcut
  unfold SB.cells at ho
  have⟨d0,d1,d2,d3,d4,d5⟩:=ho.c6
  have HZ:=tK YF
  clear YF
  go_wp2_with fail
  go_loopw [5,36] (fun v i wr=>∃(k:Nat) (zs:List (Value×Ly)),k<=l.length/\i=(k:Int)/\mY wr w v zs/\Aside (zs.map (·.2)=(SB.mk sq a b u z l).oH (p,l.length,c) k/\zs.length=7+2*k)/\NP [] w wr) (fun _ i _=>l.length-(intOf i).toNat)
  case atStart=>exact⟨0,zs,_a,rfl,hlays,⟨HZ.out,by have:=congrArg List.length HZ.out;rw[MP]at this;rw[this];rfl⟩,Zb⟩
  case round=>
   obtain⟨k,zs,hk,rfl,hlays,hA,hK⟩:=hrel
   by_cases NV:k<l.length
   .obtain⟨b',off,rfl,c0,c1,UR,hlc,PT⟩:=(h.kept0 hK).at_ k NV
    obtain⟨p',cap',rfl⟩:=ah hlays.1
    have Ot:=hlays.1
    have Tj:=Ss.out k NV
    have Qu:=SB.FA (SB.mk sq a b u z l) (.slice (some (aa b' off)) l.length c) k NV
    simp only at Qu
    have⟨n1,QX⟩:=MM Tj.1
    have⟨n2,QU⟩:=MM Tj.2.2.1
    rw[QX]at c0 Qu Tj
    rw[QU]at c1 Qu Tj
    rw[Nw,Nw]at Qu
    have Su:=tK Qu
    have hzl:zs.length<=100:=by have:=hA.2;omega
    have hws:=hK.size
    have TG:n1<65536:=_a
    have Q3:n2<65536:=_a
    have Pb:some wr.heap.size≠(Value.slice p' zs.length cap').ownBlock:=fun e=>by have:=(ML Ot _ e.symm).2;omega
    have Ox:=fun w5 g cap=> @Di w wr w5 (p',zs.length,cap') zs n1 n2 g cap hlays hws TG Q3
    have⟨Sb,WJ,HK,HOW⟩:=gh! Ox Pb hK Ot
    have o1:=ae.new wr #[(n1:Int),(n2:Int)] 128
    clear Qu QX QU Tj hlays Ox Pb hK
    go_wp2_with fail
    go_region_held3 (fun w'=>w'.cell? wr=(n1:Int)/\w'.cell? (aa wr 1)=(n2:Int)) (first|go_keep|((refine xo (t:=128) ?_;(repeat' first|exact o1|refine ae.drew ?_|refine ae.alloc ?_ _))))
     (first
      |(go_at_call 226;((with_reducible refine(GK _ _).mono ?_));rintro e w' ⟨rfl,rfl⟩)
      |(refine step_append_lies _ _L (.tmp 40) (.tmp 49) 226 _L w.heap.size 70 i0 .nilFunc 1 8 underlying226 hi0 Rh Qc Qx rfl _d _ _ _ _L (World.ownsRow.drew (MH (MH (MH (MH HOW.out _) _) _) _)) ⟨wr.heap.size+1+1+1,0,none⟩ 2 2 [.func (.func 227) #[] #[.pointer (some ⟨wr.heap.size+1,0,none⟩)],.func (.func 227) #[] #[.pointer (some ⟨wr.heap.size+1+1,0,none⟩)]] _L rfl (World.news_of_block (nD wr _ _ _ _ _ _ _ _).2.2.2) _v _d _m _a _e (wr.heap.size+1+1+1+1) _b ?_;intro g3 Vt w5 o3 RQ at3 lt3;have y0:w5.cell? ⟨wr.heap.size,0,none⟩=some (.int .i64 (n1:Int)):=(by rw[RQ.cell_far ⟨wr.heap.size,0,none⟩ _e WJ.out];exact(xo (t:=128) (by(repeat' first|exact o1|refine ae.drew ?_|refine ae.alloc ?_ _))).1);have y1:w5.cell? ⟨wr.heap.size,1,none⟩=some (.int .i64 (n2:Int)):=(by rw[RQ.cell_far ⟨wr.heap.size,1,none⟩ _e WJ.out];exact(xo (t:=128) (by(repeat' first|exact o1|refine ae.drew ?_|refine ae.alloc ?_ _))).2)))
    have hL5:=Sb.out w5 g3 Vt o3 RQ
    have QI:NP [] w w5:=(((((HK.out.alloc _).alloc _).alloc _).alloc _).drew).grown RQ (fun g hg=>Or.inr (ML HOW.out g hg).1)
    clear RQ o3 at3 y0 y1
    go_wp2_with fail
    go_roundw
    case rel=>exact⟨k+1,_,_a,_j,hL5,⟨by rw[M0,hA.1,Su.out];rfl,by have:=hA.2;simp;omega⟩,QI⟩
    case measure=>simp[intOf];omega
   .obtain rfl:k=l.length:=_a
    have hA1:=tK hA.1
    clear hA
    go_wp2_with fail
    go_ret
    exact⟨⟨_,zs,rfl,hlays,hA1.out⟩,hK⟩
def eB (l:List (Int×Int)):List UInt8:=(l.map fun r=>NT r.1.toNat 2++NT r.2.toNat 2).flatten
def SB.body (s:SB):List UInt8:=
 fe++NT s.seq 8++NT s.sectors.toNat 4++NT s.journal.toNat 4++NT s.used.toNat 4++NT s.size.toNat 4++NT s.runs.length 2++NT 0 2++eB s.runs
def SB.aT (s:SB):List UInt8:=dF (Pg s.body 124)
theorem FB (l:List (Int×Int)):(((l.map fun r=>[Ly.hf r.1.toNat,Ly.hf r.2.toNat]).flatten).map Ly.eQ).flatten=eB l:=by
 induction l with
 |nil=>rfl
 |cons a l ih=>
  simp only[List.map_cons,List.flatten_cons,M0,Nv,eB]
  rw[ih]
  simp[Ly.eQ,eB]
theorem FC (s:SB) (v:Value):((s.oH v s.runs.length).map Ly.eQ).flatten=s.body:=by
 unfold SB.oH
 rw[MU,M0,Nv,FB]
 simp[Ly.eQ,SB.body]
theorem uF (l:List (Int×Int)):(eB l).length=4*l.length:=by
 induction l with
 |nil=>rfl
 |cons a l ih=>simp only[eB,List.map_cons,List.flatten_cons,tN,ak,Nj]at*;omega
theorem rW (s:SB):s.body.length=36+4*s.runs.length:=by
 simp only[SB.body,tN,ak,uF,fe,Nj,List.length_nil]
theorem rR (l:List UInt8) (h:l.length<=124):(Pg l 124).length=124:=by
 unfold Pg;rw[tN,Np];omega
theorem sy (s:SB) (h:s.runs.length<=16):s.aT.length=128:=by
 unfold SB.aT dF
 rw[tN,ak,rR _ (by rw[rW];omega)]
theorem Hu (s:SB) (v:Value) (lo hi:Nat) (w:World) (h:af w v s.runs lo hi) (hm:s.may) (hq:s.seq<18446744073709551616):
  am! 165 #[.agg (s.cells v)] w fun e w'=>(∃r zs,e=.returned r/\mY w' w r zs/\zs.map (·.2)=s.oH v s.runs.length)/\NP [] w w':=by
 obtain⟨⟨g1,g2,g3,g4,g5,g6,g7,g8,g9,g10⟩,hL,_⟩:=hm
 have hLO:=fJ (MG _) hL
 have⟨sq,a,b,u,z,l⟩:=s
 simp only at*
 obtain⟨a,rfl⟩:=MM (show 0<=a by omega)
 obtain⟨b,rfl⟩:=MM (show 0<=b by omega)
 obtain⟨u,rfl⟩:=MM (show 0<=u by omega)
 obtain⟨z,rfl⟩:=MM (show 0<=z by omega)
 exact EY sq a b u z l v lo hi w h hq _a _a _a _a g10 (fun k hk=>by
  have:=dN.1 (hLO k hk)
  omega)
theorem M34 {A:Prop}(h:A:=by
 go_wp2_with fail
 refine(hc _ ho).mono ?_;rintro e w3 ⟨rfl,P6⟩
 go_wp2_with fail
 go_roundw
 case rel=>exact⟨k+1,Of.out,_j,by rw[YW.out,<-Oy.out],hK.trans P6⟩
 case measure=>(have hh:=Of.out;simp[intOf];omega)):A:=h
theorem JM (s:SB) (v:Value) (lo hi:Nat) (w:World) (h:af w v s.runs lo hi) (hm:s.may) (hq:s.seq<18446744073709551616):
  am! 93 #[.agg (s.cells v)] w fun e w'=>e=.returned (.tuple #[s.aT,(0:Int)])/\NP [] w w':=by
 have RV:s.runs.length<=16:=hm.1.2.2.2.2.2.2.2.2.2
 have hC:=fun w' (hk:NP [] w w')=>(CI s v lo hi w' (h.kept0 hk) _a).mono fun e w'' hh=>(show e=(0:Int)/\NP [] w' w'' from⟨by
  rcases hh.1 with⟨_,e1⟩|⟨e1,_⟩
  .exact e1
  .exact absurd hm e1,hh.2⟩)
 have hF:=fun w' (hk:NP [] w w')=>Hu s v lo hi w' (h.kept0 hk) hm hq
 have o:=ae.new w (s.cells v) 58
 have hb:=rW s
 have Tr:=FC s v
 have HB:=tK Tr
 have U5:=fun w=>lz (bs s.body) 124 w P! _a
 rw[cC]at U5
 have aaE:=fun w=>Bv (Pg s.body 124) w (by rw[rR _ _a];omega)
 have aai:dF (Pg s.body 124)=s.aT:=rfl
 rw[aai]at aaE
 have⟨HC,HF⟩:=_f hC hF
 clear hC hF h hm Tr aai
 generalize Pg s.body 124=FL at*
 generalize s.aT=SL at*
 unfold SB.cells at*
 go_enter func93,ntmps93
 have⟨d0,d1,d2,d3,d4,d5⟩:=o.c6
 go_wp2_with fail
 refine(HC.out _ ((NP.refl _ _).alloc _)).mono ?_;rintro e w1 ⟨rfl,OP⟩
 have o1:=OP.own o _b
 have⟨d0,d1,d2,d3,d4,d5⟩:=o1.c6
 go_wp2_with fail
 refine(HF.out _ (((NP.refl _ _).alloc _).trans OP)).mono ?_;rintro e w2 ⟨⟨r,zs,rfl,⟨Ot,hlay⟩,YF⟩,PY⟩
 have hzl:zs.length=(s.oH v s.runs.length).length:=by rw[<-YF,MP]
 have acx:zs.length=7+2*s.runs.length:=by
  rw[hzl];unfold SB.oH;rw[MU,tN]
  have:∀l:List (Int×Int),((l.map fun r=>[Ly.hf r.1.toNat,Ly.hf r.2.toNat]).flatten).length=2*l.length:=fun l=>by
   induction l with
   |nil=>rfl
   |cons a l ih=>simp only[List.map_cons,List.flatten_cons,tN,Nj,ih,List.length_nil];omega
  rw[this];rfl
 have Tt:(zs.map fun z=>z.2.eQ).flatten=s.body:=by
  rw[<-HB.out,<-YF,List.map_map];rfl
 have HT:=tK Tt
 have QY:NP [] w w2:=(((NP.refl _ _).alloc _).trans OP).trans PY
 have afo:w.heap.size<=w1.heap.size:=by have:=OP.size;simp at this;omega
 clear hzl YF Tt HF HC HB
 obtain⟨g,cap,rfl,hg⟩:∃g cap,r=.slice (some ⟨g,0,none⟩) zs.length cap/\(Value.slice (some ⟨g,0,none⟩) zs.length cap).ownBlock=some g:=by
  rcases Ot.2 with⟨_,hx⟩|⟨g,cap,cur,rfl,_⟩
  .omega
  .exact⟨g,cap,rfl,rfl⟩
 have hzb:zs.length<=100:=_a
 have H2:=tK acx
 clear acx
 go_wp2_with fail
 go_loopw [5,16] (fun t i wr=>∃k:Nat,k<=zs.length/\i=(k:Int)/\t=.string (bs ((zs.take k).map fun z=>z.2.eQ).flatten)/\NP [] w2 wr) (fun _ i _=>zs.length-(intOf i).toNat)
 case atStart=>exact⟨0,_a,rfl,rfl,NP.refl _ _⟩
 case round=>
  obtain⟨k,hk,rfl,rfl,hK⟩:=hrel
  by_cases NV:k<zs.length
  .have RF:=ax Ot hK _b
   have Yb:=(hlay zs[k] (MJ _)).kept hK _b
   have Ou:=World.ownsRow.cells RF hg k zs[k].1 (by simp[NV])
   rw[Ni,Nat.zero_add]at Ou
   have S7:((zs.take (k+1)).map fun z=>z.2.eQ).flatten=((zs.take k).map fun z=>z.2.eQ).flatten++zs[k].2.eQ:=by
    rw[MI NV,M0,Nv]
    congr 1;simp
   have PW:(((zs.take k).map fun z=>z.2.eQ).flatten).length<=1000:=by
    have e1:(zs.map fun z=>z.2.eQ).flatten=((zs.take k).map fun z=>z.2.eQ).flatten++((zs.drop k).map fun z=>z.2.eQ).flatten:=by
     rw[<-Nv,<-M0,List.take_append_drop]
    have e2:=congrArg List.length (e1.symm.trans HT.out)
    rw[tN]at e2;omega
   have acI:(bs ((zs.take k).map fun z=>z.2.eQ).flatten).size<=1000:=by rw[NQ];exact PW
   have Oy:Hid (bs ((zs.take k).map fun z=>z.2.eQ).flatten++bs zs[k].2.eQ=bs ((zs.take (k+1)).map fun z=>z.2.eQ).flatten):=by
    show bs _++bs _=_;rw[aw,S7]
   have Of:=tK NV
   clear S7 PW RF
   generalize ((zs.take k).map fun z=>z.2.eQ).flatten=T at*
   generalize hT2:((zs.take (k+1)).map fun z=>z.2.eQ).flatten=T2 at*
   have YW:=tK hT2
   clear hT2
   generalize zs[k].1=f at*
   generalize zs[k].2=y at*
   cases y with
   |hd s' u=>
    obtain⟨g',_,rfl,ho,hs⟩:=Yb
    have Qx:(bs (Ly.hd s' u).eQ).size<=100:=by rw[NQ];simp[Ly.eQ,ak,fe]
    have hc:=fun w h=>LK g' s' u w h hs
    rw[show fe++NT s'.seq 8=(Ly.hd s' u).eQ from rfl]at hc
    generalize (Ly.hd s' u).eQ=tx at*
    exact M34
   |wd n=>
    obtain⟨g',_,rfl,ho,hs⟩:=Yb
    have Qx:(bs (Ly.wd n).eQ).size<=100:=by rw[NQ];simp[Ly.eQ,ak]
    have hc:=fun w h=>LH g' n w h hs
    rw[show NT n 4=(Ly.wd n).eQ from rfl]at hc
    generalize (Ly.wd n).eQ=tx at*
    exact M34
   |hf n=>
    obtain⟨g',_,rfl,ho,hs⟩:=Yb
    have Qx:(bs (Ly.hf n).eQ).size<=100:=by rw[NQ];simp[Ly.eQ,ak]
    have hc:=fun w h=>LJ g' n w h hs
    rw[show NT n 2=(Ly.hf n).eQ from rfl]at hc
    generalize (Ly.hf n).eQ=tx at*
    exact M34
  .obtain rfl:k=zs.length:=_a
   have e1:((zs.take zs.length).map fun z=>z.2.eQ).flatten=s.body:=by rw[MU];exact HT.out
   rw[e1]at*
   clear e1
   generalize s.body=B at*
   go_wp2_with fail
   refine(U5 _).mono ?_;rintro e w3 ⟨rfl,P6⟩
   go_wp2_with fail
   refine(aaE _).mono ?_;rintro e w4 ⟨rfl,Qo⟩
   go_wp2_with fail
   go_ret2
   exact⟨rfl,((QY.trans hK).trans P6).trans Qo⟩
theorem Hs (s:SB) (v:Value) (lo hi:Nat) (w:World) (h:af w v s.runs lo hi) (hl:s.runs.length<=1000000) (hm:¬s.may):
  am! 93 #[.agg (s.cells v)] w fun e w'=>e=.returned (.tuple #[.string (bs []),(1:Int)])/\NP [] w w':=by
 have hC:=fun w' (hk:NP [] w w')=>(CI s v lo hi w' (h.kept0 hk) hl).mono fun e w'' hh=>(show e=(1:Int)/\NP [] w' w'' from⟨by
  rcases hh.1 with⟨e1,_⟩|⟨_,e1⟩
  .exact absurd e1 hm
  .exact e1,hh.2⟩)
 have o:=ae.new w (s.cells v) 58
 have HC:=tK hC
 clear hC h hm
 unfold SB.cells at*
 go_enter func93,ntmps93
 have⟨d0,d1,d2,d3,d4,d5⟩:=o.c6
 go_wp2_with fail
 refine(HC.out _ ((NP.refl _ _).alloc _)).mono ?_;rintro e w1 ⟨rfl,OP⟩
 go_wp2_with fail
 go_ret2
 exact⟨rfl,((NP.refl _ _).alloc _).trans OP⟩
theorem si {sb mb:Nat} {d:DK} (hD:DA w b sb mb lo d) (ho:d.ops<100000) (hw:d.waits.length<=10000):
  am! 39 (#[.pointer (some ⟨b,0,none⟩)]++#[]) w fun e w'=>e=.returned (.int .i64 (aA d).2)/\DA w' b sb mb lo (aA d).1/\PK T b sb mb w w':=by
 rw[Array.append_empty]
 exact(hD.flush ho hw).mono fun e w' ⟨h1,h2,h3⟩=>⟨h1,h2,h3.mono _b⟩
theorem Ku {T:List Nat} (n g1 g2 g3:Nat) (i:Int) (s:List UInt8) {w:World} {b sb mb lo:Nat} {d:DK} (hD:DA w b sb mb lo d)
  (on:ae w n #[.func (.func 87) #[] #[g1,g2,g3],.func (.func 39) #[b] #[]] 42)
  (h1:ae w g1 #[b] 23) (h2:ae w g2 #[i] 3) (h3:ae w g3 #[s] 9)
  (f0:bf T w b sb mb n) (f1:bf T w b sb mb g1) (f2:bf T w b sb mb g2) (f3:bf T w b sb mb g3) (ho:d.ops<=90000) (hw:d.waits.length<=9000):
  am! 37 #[.slice (some n) 2 2] w fun e w'=>e=.returned (.int .i64 (aG [aM i s,aA] d).2)/\DA w' b sb mb lo (aG [aM i s,aA] d).1/\PK T b sb mb w w':=by
 refine Ao [aM i s,aA] [(87,#[],#[g1,g2,g3]),(39,#[b],#[])] rfl n 0 2 hD _b (fun k h=>?_) on.lt f0 (fun k h=>?_) (fun k h W hW hk _=>?_)
 .match k,h with
  |0,_=>exact enters_of func87 _c rfl
  |1,_=>exact enters_of func39 _c rfl
 .match k,h with
  |0,_=>exact on.cell 0 _b
  |1,_=>exact on.cell 1 _b
 .match k,h with
  |0,_=>
   have:=tH (T:=T) g1 g2 g3 i s hW (hk.own h1 f1) (hk.own h2 f2) (hk.own h3 f3) (by show d.ops<_;omega) C!
   exact this
  |1,_=>
   have⟨e1,e2,_⟩:=fy d i s
   exact si hW (by show(OJ d i s).ops<_;omega) (by show(OJ d i s).waits.length<=_;omega)
def cN (s:SB) (d:DK):DK×Int:=aG [aM ((s.seq%2:Nat):Int) s.aT,aA] d
theorem Gx (b:Nat) (s:SB) (v:Value) (w:World):
  am! 40 #[b,.agg (s.cells v)] w fun e w'=>e=.returned (.func (.func 92) #[] #[↑(w+1:Nat),w.heap.size])/\(w.alloc (.cells #[b] 23)).alloc (.cells (s.cells v) 58)=w':=by
 unfold SB.cells
 go_enter func40,ntmps40
 go_wp2_with fail
 go_ret
 exact⟨rfl,rfl⟩
theorem BY (gS gD:Nat) (s:SB) (v:Value) {w:World} {b sb mb lo:Nat} {d:DK} (hD:DA w b sb mb lo d) (hT:∀x∈T,x<w.heap.size) (hS:ae w gS (s.cells v) 58) (hd:ae w gD #[b] 23)
  (hr:ep T w b sb mb v s.runs) (hm:s.may) (hq:s.seq<18446744073709551616) (fS:bf T w b sb mb gS) (fD:bf T w b sb mb gD) (ho:d.ops<=90000) (hw:d.waits.length<=9000):
  am! 92 #[gS,gD] w fun e w'=>e=.returned (.int .i64 (cN s d).2)/\DA w' b sb mb lo (cN s d).1/\PK T b sb mb w w':=by
 have⟨PU,PC,Oe⟩:=hr.1
 have hP:=JM s v PU PC w Oe hm hq
 have hSL:=fun W=>GG s.seq W hq
 have hWR:=fun W=>BV b ((s.seq%2:Nat):Int) s.aT W
 unfold cN
 have HA:Hid (∀W,NP [] w W->∀n g1 g2 g3,w.heap.size<=n->w.heap.size<=g1->w.heap.size<=g2->w.heap.size<=g3->ae W n #[.func (.func 87) #[] #[.pointer (some ⟨g1,0,none⟩),.pointer (some ⟨g2,0,none⟩),.pointer (some ⟨g3,0,none⟩)],.func (.func 39) #[b] #[]] 42->
   ae W g1 #[b] 23->ae W g2 #[((s.seq%2:Nat):Int)] 3->ae W g3 #[s.aT] 9->
   am! 37 #[.slice (some n) 2 2] W fun e w'=>e=.returned (.int .i64 (aG [aM ((s.seq%2:Nat):Int) s.aT,aA] d).2)/\DA w' b sb mb lo (aG [aM ((s.seq%2:Nat):Int) s.aT,aA] d).1/\PK T b sb mb W w'):=tK (fun W k n g1 g2 g3 a0 a1 a2 a3 o0 o1 o2 o3=>
  Ku n g1 g2 g3 _ _ (hD.aJ k) o0 o1 o2 o3 (hD.bU hT k a0) (hD.bU hT k a1) (hD.bU hT k a2) (hD.bU hT k a3) ho hw)
 have Wa:Hid (∀W,PK T b sb mb w W->W.cell? gD=b/\W.cell? gS=some (.int .u64 s.seq)):=tK (fun W k=>⟨(k.own hd fD).cell 0 _b,(k.own hS fS).cell 0 (by simp[SB.cells])⟩)
 have HB:=tK hD.bH
 have Q6:=hS
 unfold SB.cells at hS hP
 have⟨x0,x1,x2,x3,x4,x5⟩:=hS.c6
 have⟨HX,HQ,HP,TO,HWR⟩:=gi! hS hq hP hSL hWR
 clear hD hT hS hd hr hm hq fS fD ho hw Oe hP hSL hWR Q6
 generalize hch:aG [aM ((s.seq%2:Nat):Int) s.aT,aA] d=CH at*
 clear hch
 generalize hss:s.aT=SS at*
 clear hss
 obtain⟨sq,se,jr,us,sz,rs⟩:=s
 simp only at*
 generalize Sw:((sq%2:Nat):Int)=SLT at*
 clear Sw
 go_enter func92,ntmps92
 go_wp2_with fail
 refine HP.out.mono ?_;rintro e w1 ⟨rfl,k1⟩
 have⟨z1,z2⟩:=Wa.out _ (k1.eH HB.out)
 have K1:=tK k1
 clear k1 x0 x1 x2 x3 x4 x5
 go_upto_region 4 with fail
 go_cut [2]from 13 to 22 (fun v2 wx=>v2=CH.2/\DA wx b sb mb lo CH.1/\PK T b sb mb w wx)
 case first=>
  refine MK (S:=(fun W=>W.cell? gD=b/\W.cell? gS=some (.int .u64 sq))) _c (by exact Wa.out _ ((K1.out.drew).eH HB.out)) (fun hHeld=>?_)
  refine tS ?_
  refine rD 3 (fun K hK=>?_)
  go_simp
  ((with_reducible refine(TO.out _).mono ?_));rintro e w2 ⟨rfl,rfl⟩
  go_wp2_with fail
  refine hK.out _ _ (Wa.out _ ((K1.out.drew).eH HB.out)) (fun hHeld=>nM ?_)
  clear hK K
  refine rD 5 (fun K hK=>?_)
  go_simp
  ((with_reducible refine(HWR.out _).mono ?_));rintro e w2 ⟨rfl,rfl⟩
  go_wp2_with fail
  refine hK.out _ _ (Wa.out _ ((((K1.out.drew.alloc _).alloc _).alloc _).eH HB.out)) (fun hHeld=>nM ?_)
  clear hK K
  refine rD 8 (fun K hK=>?_)
  go_simp
  refine hK.out _ _ (Wa.out _ ((((((K1.out.alloc _).alloc _).alloc _).alloc _).drew).eH HB.out)) (fun hHeld=>nM ?_)
  clear hK K
  have⟨o1,o2,o3,o4⟩:=nD w1 #[b] #[SLT] #[SS] #[.func (.func 87) #[] #[w1.heap.size,↑(w1+1:Nat),↑(w1+2:Nat)],.func (.func 39) #[b] #[]] 23 3 9 42
  have RH:=K1.out.size
  refine rD 9 (fun K hK=>?_)
  go_simp
  ((with_reducible refine(HA.out _ (((((K1.out.alloc _).alloc _).alloc _).alloc _).drew) _ w1 (w1.heap.size+1) (w1.heap.size+2) _a RH _a _a o4.drew o1.drew o2.drew o3.drew).mono ?_));rintro e w5 ⟨rfl,hD5,k5⟩
  have Sp:=((((((K1.out.alloc (.cells #[b] 23)).alloc (.cells #[SLT] 3)).alloc (.cells #[SS] 9)).alloc (.cells #[.func (.func 87) #[] #[w1.heap.size,↑(w1+1:Nat),↑(w1+2:Nat)],.func (.func 39) #[b] #[]] 42)).drew).eH (T:=T) (sb:=sb) (mb:=mb) HB.out).trans k5
  have⟨KK5,HD5⟩:=_f Sp hD5
  clear hD5 Sp k5 o1 o2 o3 o4
  go_wp2_with fail
  refine hK.out _ _ (Wa.out _ (KK5.out)) (fun hHeld=>nM ?_)
  clear hK K
  refine tS ?_
  refine Ng _c ?_ _
  try simp only[List.set_cons_succ,List.set_cons_zero]
  go_wp2_with fail
  go_meet
  exact⟨rfl,HD5.out,KK5.out⟩
 case rest=>
  obtain⟨rfl,h1,h2⟩:=hcut
  go_wp2_with fail
  go_ret
  exact⟨rfl,h1,h2⟩

/- -/
import Derived.Test.YtdkimcnlhmhpgaaGreatF07
set_option maxHeartbeats 32000000
set_option maxRecDepth 100000
namespace Go.Proofs.YtdkimcnlhmhpgaaGreat
section
open Go.Proofs.Tryz Go.RowKit
variable {T:List Nat} {w w':World} {lo base n b:Nat} {v x0 x1:Value} {t:TypeId}
theorem Ei (x:Nat) (hx:x<4294967296):bits .xor .u32 (x/2:Int) (bits .and .u32 3988292384 (IntKind.u32.wrap (-(bits .and .u32 x 1))))=(Wy x:Int):=by
 have e1:bits .and .u32 (x:Int) 1=((x%2:Nat):Int):=by
  have:=u32_and_nat x 1 hx d?
  rw[Nat.and_one_is_mod]at this
  exact this
 rw[e1,IntKind.wrap_u32]
 have e2:((x:Int)/2)=((x/2:Nat):Int):=a?
 rw[e2]
 unfold Wy
 by_cases h:x%2=1
 .rw[if_pos h,h]
  have e3:(-((1:Nat):Int))%4294967296=((4294967295:Nat):Int):=d?
  rw[e3,show(3988292384:Int)=((3988292384:Nat):Int)from rfl,u32_and_nat _ _ d? d?]
  rw[show 3988292384 &&& 4294967295=3988292384 from by decide,u32_xor_nat _ _ a? d?]
 .have h0:x%2=0:=a?
  rw[if_neg h,h0]
  have e3:(-((0:Nat):Int))%4294967296=((0:Nat):Int):=d?
  rw[e3,show(3988292384:Int)=((3988292384:Nat):Int)from rfl,u32_and_nat _ _ d? d?]
  rw[show 3988292384 &&& 0=0 from by decide,u32_xor_nat _ _ a? d?,Nat.xor_zero]
theorem zh {a b:Int} (h:a=b):Ending.returned (a,())=.returned (b,()):=by rw[h]
theorem LD (x w) (hx:x<4294967296):
  am! 237 #[(x,())] w fun e w'=>e=.returned (.int .u32 (Wy x))/\w=w':=by
 have H:=tK (Ei x hx)
 go_enter func237,ntmps237
 go_wp2_with fail
 go_ret
 exact⟨zh H.out,rfl⟩
theorem D8 (x) (h:x<4294967296):4294967295 ^^^ x=4294967295-x:=by
 apply Nat.eq_of_testBit_eq
 intro k
 have h1:=Nat.testBit_two_pow_sub_succ (n:=32) (show x<2^32 from h) k
 have e:2^32-(x+1)=4294967295-x:=a?
 rw[e]at h1
 have h2:Nat.testBit 4294967295 k=decide (k<32):=Nat.testBit_two_pow_sub_one 32 k
 rw[Nat.testBit_xor,h1,h2]
 by_cases hk:k<32
 .rw[MV hk];cases x.testBit k<;>rfl
 .rw[MS hk]
  have:x.testBit k=false:=Nat.testBit_lt_two_pow (MR (show x<2^32 from h) (Nat.pow_le_pow_right d? a?))
  rw[this];rfl
theorem zt (x:Nat) (h:x<4294967296):bits .xor .u32 IntKind.u32.max (x:Int)=((4294967295-x:Nat):Int):=by
 rw[show IntKind.u32.max=((4294967295:Nat):Int)from rfl,u32_xor_nat _ _ d? h,D8 x h]
theorem LG (s0) (s:ByteArray) (w) (h0:s0<4294967296) (hs:s.size<=maxLen):
  am! 176 #[(s0,()),.string s] w fun e w'=>e=.returned (.int .u32 ((4294967295-QD (4294967295-s0) s.data.toList:Nat):Int))/\w=w':=by
 unfold maxLen at hs
 have PX:s.data.toList.length=s.size:=b?
 have TO:=tK PX
 clear PX
 have e0:=zt s0 h0
 have NV:4294967295-s0<4294967296:=a?
 generalize 4294967295-s0=x0 at*
 go_enter func176,ntmps176
 go_wp2_with fail
 go_loop [5,11] (fun x i=>∃k:Nat,k<=s.size/\i=(k:Int)/\x=.int .u32 (QD x0 (s.data.toList.take k))) (fun _ i=>s.size-(intOf i).toNat)
 case atStart=>exact⟨0,a?,rfl,rfl⟩
 case round=>
  obtain⟨k,hk,rfl,rfl⟩:=hrel
  have hb:QD x0 (s.data.toList.take k)<4294967296:=zQ _ NV
  by_cases NV:k<s.size
  .have hg:s.data.toList[k]' L!=s[k]:=rfl
   have hv:Hid (QD x0 (s.data.toList.take (k+1))=Ue 8 (QD x0 (s.data.toList.take k) ^^^ s[k].toNat)):=by
    show _=_
    rw[MI L!,vr,hg];rfl
   have hc:s[k].toNat<256:=s[k].toNat_lt
   have e1:bits .xor .u32 (QD x0 (s.data.toList.take k)) (s[k].toNat:Int)=((QD x0 (s.data.toList.take k) ^^^ s[k].toNat:Nat):Int):=u32_xor_nat _ _ hb a?
   have Q3:(QD x0 (s.data.toList.take k) ^^^ s[k].toNat)<2^32:=Nat.xor_lt_two_pow (n:=32) hb a?
   generalize QD x0 (s.data.toList.take k) ^^^ s[k].toNat=y at*
   generalize QD x0 (s.data.toList.take k)=x at*
   clear hg
   go_wp2_with fail
   go_loop [5,20] (fun x j=>∃m:Nat,m<=8/\j=(m:Int)/\x=.int .u32 (Ue m y)) (fun _ j=>8-(intOf j).toNat)
   case atStart=>exact⟨0,a?,rfl,rfl⟩
   case round=>
    obtain⟨m,hm,rfl,rfl⟩:=hrel
    have hb3:Ue m y<4294967296:=zc m Q3
    by_cases hm8:m<8
    .have hv2:Hid (Ue (m+1) y=Wy (Ue m y)):=rfl
     generalize Ue m y=z at*
     go_wp2_with fail
     refine(LD _ _ hb3).mono ?_;rintro e w' ⟨rfl,rfl⟩
     go_wp2_with fail
     go_round
     case rel=>exact⟨m+1,a?,j?,by rw[hv2.out]⟩
     case measure=>simp[intOf];omega
    .obtain rfl:m=8:=a?
     go_wp2_with fail
     go_round
     case rel=>exact⟨k+1,a?,j?,by rw[hv.out]⟩
     case measure=>simp[intOf];omega
  .obtain rfl:k=s.size:=a?
   have hw:s.data.toList.take s.size=s.data.toList:=Nh (by rw[TO.out];exact MG _)
   have HW:=tK hw
   clear hw
   have e2:=zt _ hb
   have HF:Hid (((4294967295-QD x0 (s.data.toList.take s.size):Nat):Int)=((4294967295-QD x0 s.data.toList:Nat):Int)):=by show _=_;rw[HW.out]
   generalize 4294967295-QD x0 (s.data.toList.take s.size)=r at*
   go_wp2_with fail
   go_ret
   exact⟨zh HF.out,rfl⟩
theorem Bu (s:ByteArray) (w) (hs:s.size<=maxLen):
  am! 103 #[.string s] w fun e w'=>e=.returned (.int .u32 (PE s.data.toList))/\w=w':=by
 have h:=fun w=>LG 0 s w a? hs
 have e:4294967295-QD (4294967295-0) s.data.toList=PE s.data.toList:=rfl
 rw[e]at h
 go_enter func103,ntmps103
 go_wp2_with fail
 refine(h _).mono ?_;rintro e w' ⟨rfl,rfl⟩
 go_wp2_with fail
 go_ret
 exact⟨rfl,rfl⟩
def dF (l:List UInt8):List UInt8:=l++NT (PE l) 4
theorem Bv (l:List UInt8) (w:World) (hs:l.length<=1000000):
  am! 111 #[l] w fun e w'=>e=.returned (.string (bs (dF l)))/\NP [] w w':=by
 have hz:(bs l).size=l.length:=NQ l
 have h:=fun w=>Bu (bs l) w m?
 rw[cC]at h
 have hc:=iJ l
 have hu:=fun w=>eU (PE l) w hc
 have Qx:(bs (NT (PE l) 4)).size<=4:=X?
 have Oy:Hid (bs l++bs (NT (PE l) 4)=bs (dF l)):=by show bs l++bs _=_;rw[aw];rfl
 generalize PE l=c at*
 go_enter func111,ntmps111
 go_wp2_with fail
 refine(h _).mono ?_;rintro e w' ⟨rfl,rfl⟩
 go_wp2_with fail
 refine(hu _).mono ?_;rintro e w1 ⟨rfl,hk⟩
 go_wp2_with fail
 go_ret
 exact⟨by rw[<-Oy.out];rfl,hk⟩
theorem GG (n:Nat) (w) (hn:n<18446744073709551616):
  am! 94 #[.int .u64 n] w fun e w'=>e=((n%2:Nat):Int)/\w=w':=by
 have e1:0<=(n:Int)%2:=a?
 have e2:(n:Int)%2<=1:=a?
 go_enter func94,ntmps94
 go_wp2_with fail
 go_ret
 refine⟨?_,rfl⟩
 show Ending.returned (Value.int .i64 ((n:Int)%2))=Ending.returned (Value.int .i64 ((n%2:Nat):Int))
 rw[Int.natCast_emod];rfl
theorem Li (s:SB) (v:Value) (lo hi:Nat) (w:World) (h:af w v s.runs lo hi) (hl:s.runs.length<=1000000) (hq:s.seq<=9223372036854775808):
  am! 108 #[.agg (s.cells v)] w fun e w'=>(∃v',e=.returned (.agg (SB.cells {s with seq:=s.seq+1} v'))/\af w' v' s.runs w w')/\NP [] w w':=by
 have hC:=fun w' (hk:NP [] w w')=>xj v s.runs lo hi w' (h.kept0 hk) hl
 have HC:=tK hC
 obtain⟨p,c,rfl⟩:=h.shape
 have⟨o1,o2⟩:=ch w (s.cells (p,s.runs.length,c)) (SB.cells ⟨0,0,0,0,0,[]⟩ ()) 58 58
 clear hC h
 unfold SB.cells at*
 have⟨c0,c1,c2,c3,c4,c5⟩:=o1.c6
 have z0:=o1.z6
 have⟨p1,p2⟩:=ch w #[.int .u64 ((s.seq:Int)+1),s.sectors,s.journal,s.used,s.size,(p,s.runs.length,c)] #[.int .u64 0,(0:Int),(0:Int),(0:Int),(0:Int),()] 58 58
 go_enter func108,ntmps108
 go_wp2_with fail
 refine(HC.out _ (((NP.refl _ _).alloc _).alloc _)).mono ?_;rintro e w1 ⟨⟨v',rfl,hr⟩,hk⟩
 obtain⟨pp,cc,rfl⟩:=hr.shape
 have q1:=hk.own p1 b?
 have q2:=hk.own p2 b?
 have QY:NP [] w w1:=(((NP.refl _ _).alloc _).alloc _).trans hk
 have⟨d0,d1,d2,d3,d4,d5⟩:=q1.c6
 have z1:=q1.z6
 have z2:=q2.z6
 have⟨f0,f1,f2,f3,f4,f5⟩:=q2.c6
 go_wp2_with fail
 have hS:=NP.bp ((NP.refl [w.heap.size,w.heap.size+1] w1).setCell (p:=(aa w 5)) (Or.inl b?) (pp,s.runs.length,cc)) (b:=w.heap.size+1) (Or.inl b?) (.int .u64 ((s.seq:Int)+1)) s.sectors s.journal s.used s.size (pp,s.runs.length,cc)
 have Th:=hr.kept hS (fun x hx=>by simp at hx ⊢;omega)
 refine MN (v:=.agg #[.int .u64 ((s.seq:Int)+1),s.sectors,s.journal,s.used,s.size,(pp,s.runs.length,cc)]) ?_ ?_ ?_
 .exact iu results108 rfl ((q2.other (p:=(aa w 5)) b? _).bp _ _ _ _ _ _) underlying58 rfl c?
 .rfl
 .refine⟨⟨_,rfl,Th.weaken e? z! (MG _)⟩,?_⟩
  exact QY.call hS (fun x hx=>by simp at hx;omega)
theorem Lf (b l w) (hR:aP w b l 0) (h4:4<=l.length):
  am! 191 #[.agg #[b]] w fun e w'=>e=(RN (l.take 4):Int)/\aP w' b (l.drop 4) 0/\NP [b] w w':=by
 have hu:=fun w h=>np b l 0 w h
 have e:N6 4 l 0=(RN (l.take 4),l.drop 4,0):=by
  unfold N6 Ol
  rw[if_neg b?,if_neg a?,if_neg a?];rfl
 rw[e]at hu
 have hb:=mO (l.take 4)
 rw[MO,Nat.min_eq_left h4]at hb
 have UR:(RN (l.take 4):Int)<4294967296:=a?
 have Qn:=ae.alloc hR (.cells #[b] 251)
 clear e hb
 generalize RN (l.take 4)=n at*
 go_enter func191,ntmps191
 go_wp2_with fail
 refine(hu _ Qn).mono ?_;rintro e w1 ⟨rfl,hR1,OP⟩
 go_wp2_with fail
 go_ret
 exact⟨rfl,hR1,((NP.refl _ _).alloc _).trans OP⟩
theorem Lj (b l w) (hR:aP w b l 0) (h4:2<=l.length):
  am! 192 #[.agg #[b]] w fun e w'=>e=(RN (l.take 2):Int)/\aP w' b (l.drop 2) 0/\NP [b] w w':=by
 have hu:=fun w h=>sJ b l 0 w h
 have e:N6 2 l 0=(RN (l.take 2),l.drop 2,0):=by
  unfold N6 Ol
  rw[if_neg b?,if_neg a?,if_neg a?];rfl
 rw[e]at hu
 have hb:=mO (l.take 2)
 rw[MO,Nat.min_eq_left h4]at hb
 have UR:(RN (l.take 2):Int)<65536:=a?
 have Qn:=ae.alloc hR (.cells #[b] 251)
 clear e hb
 generalize RN (l.take 2)=n at*
 go_enter func192,ntmps192
 go_wp2_with fail
 refine(hu _ Qn).mono ?_;rintro e w1 ⟨rfl,hR1,OP⟩
 go_wp2_with fail
 go_ret
 exact⟨rfl,hR1,((NP.refl _ _).alloc _).trans OP⟩
def aG:List (DK->DK×Int)->DK->DK×Int
 |[],d=>(d,0)
 |f::fs,d=>if(f d).2=0 then aG fs (f d).1 else f d
def aM (i:Int) (s:List UInt8) (d:DK):DK×Int:=(OJ d i s,OW d i s)
def aA (d:DK):DK×Int:=(iO d,qv d)
def kt (fs:List (DK->DK×Int)) (d:DK) (k:Nat):DK:=(fs.take k).foldl (fun x f=>(f x).1) d
theorem abI {A:Prop}(h:A:=by
 rw[MI h,List.foldl_append]
 rfl):A:=h
theorem ng (fs d k) (h:k<fs.length):kt fs d (k+1)=(fs[k] (kt fs d k)).1:=by
 grind [kt,MI]
theorem tm:∀(fs:List (DK->DK×Int)) (d:DK) (k:Nat) (h:k<fs.length),(∀i (hi:i<k),((fs[i]' a?) (kt fs d i)).2=0)->(fs[k] (kt fs d k)).2≠0->aG fs d=fs[k] (kt fs d k)
 |[],d,k,h,_,_=>by simp at h
 |f::fs,d,0,h,_,h2=>by
  have h2':(f d).2≠0:=h2
  show(if(f d).2=0 then _ else f d)=f d
  grind
 |f::fs,d,k+1,h,h1,h2=>by
  have h3:(f d).2=0:=h1 0 a?
  show(if(f d).2=0 then aG fs (f d).1 else f d)=_
  rw[if_pos h3]
  exact tm fs (f d).1 k T? (fun i hi=>h1 (i+1) a?) h2
theorem vy:∀(fs:List (DK->DK×Int)) (d:DK),(∀i (hi:i<fs.length),(fs[i] (kt fs d i)).2=0)->aG fs d=(kt fs d fs.length,0)
 |[],d,_=>rfl
 |f::fs,d,h1=>by
  have h3:(f d).2=0:=h1 0 b?
  show(if(f d).2=0 then aG fs (f d).1 else f d)=_
  rw[if_pos h3]
  exact vy fs (f d).1 (fun i hi=>h1 (i+1) D?)
theorem Ao {T:List Nat} (fs:List (DK->DK×Int)) (us:List (Nat×Array Value×Array Value)) (hl:us.length=fs.length) (g off c:Nat) {w:World} {b sb mb lo:Nat} {d:DK} (hD:DA w b sb mb lo d) (hn:us.length<=1000)
  (hen:∀(i:Nat) (h:i<us.length),Enters prog us[i].1)
  (hg:g<w.heap.size) (ho:bf T w b sb mb g)
  (hcell:∀(i:Nat) (h:i<us.length),w.cell? (aa g (off+i))=some (.func (.func us[i].1) us[i].2.1 us[i].2.2))
  (hstep:∀(k:Nat) (h:k<us.length) W,DA W b sb mb lo (kt fs d k)->PK T b sb mb w W->(∀i (hi:i<k),((fs[i]' a?) (kt fs d i)).2=0)->am! us[k].1 (us[k].2.1++us[k].2.2) W fun e W'=>e=.returned (.int .i64 ((fs[k]'(hl▸h)) (kt fs d k)).2)/\DA W' b sb mb lo ((fs[k]'(hl▸h)) (kt fs d k)).1/\PK T b sb mb W W'):
  am! 37 #[.slice (some (aa g off)) us.length c] w fun e w'=>e=.returned (.int .i64 (aG fs d).2)/\DA w' b sb mb lo (aG fs d).1/\PK T b sb mb w w':=by
 refine(Jc us (fun k=>if h:k<fs.length then(fs[k] (kt fs d k)).2 else 0) (fun k W=>DA W b sb mb lo (kt fs d k)/\PK T b sb mb w W) g off c w hn hen ⟨hD,PK.refl _ _ _ _ _⟩ (fun k W hI i h=>?_) (fun k h W hI hz=>?_)).mono ?_
 .rw[World.cell?_of_block (w:=w) (a:=⟨g,_,none⟩) (hI.2.same ho hg)]
  simp
 .have hk:k<fs.length:=hl▸h
  refine(hstep k h W hI.1 hI.2 (fun i hi=>?_)).mono ?_
  .simp_all
  .rintro e W' ⟨h1,h2,h3⟩
   rw[dif_pos hk,ng fs d k hk]
   exact⟨h1,h2,hI.2.trans h3⟩
 .rintro e w' (⟨k,h1,h2,h3,h4,h5,h6⟩|⟨h2,h4,h5,h6⟩)
  .have hk:k<fs.length:=hl▸h1
   rw[dif_pos hk]at h3 h4
   rw[ng fs d k hk]at h5
   rw[tm fs d k hk (fun i hi=>by
    simp_all) h3]
   simp_all
  simp_all [vy]
theorem BV (b:Nat) (i:Int) (s:List UInt8) (w:World):
  am! 38 #[b,i,s] w fun e w'=>e=.returned (.func (.func 87) #[] #[w.heap.size,↑(w+1:Nat),↑(w+2:Nat)])/\((w.alloc (.cells #[b] 23)).alloc (.cells #[i] 3)).alloc (.cells #[s] 9)=w':=by
 go_enter func38,ntmps38
 go_wp2_with fail
 go_ret
 simp
theorem tH (g1 g2 g3:Nat) (i:Int) (s:List UInt8) {w:World} {b sb mb lo:Nat} {d:DK} (hD:DA w b sb mb lo d) (h1:ae w g1 #[b] 23) (h2:ae w g2 #[i] 3) (h3:ae w g3 #[s] 9) (ho:d.ops<100000) (hw:d.waits.length<=10000):
  am! 87 #[g1,g2,g3] w fun e w'=>e=.returned (.int .i64 (aM i s d).2)/\DA w' b sb mb lo (aM i s d).1/\PK T b sb mb w w':=by
 have hW:=hD.write i s ho hw
 have c1:=h1.cell 0 b?
 have c2:=h2.cell 0 b?
 have c3:=h3.cell 0 b?
 simp only[List.getElem_toArray,List.getElem_cons_zero]at c1 c2 c3
 clear hD h1 h2 h3
 unfold aM
 go_enter func87,ntmps87
 go_wp2_with fail
 refine hW.mono ?_;rintro e w2 ⟨rfl,h4,h5⟩
 go_wp2_with fail
 go_ret
 exact⟨rfl,h4,h5.mono b?⟩
theorem Ls (n:Int) (w:World):
  am! 224 #[n] w fun e w'=>e=.returned (.func (.func 225) #[] #[w.heap.size])/\w.alloc (.cells #[n] 3)=w':=by
 go_enter func224,ntmps224
 go_wp2_with fail
 go_ret
 simp
theorem GK (n:Int) (w:World):
  am! 226 #[n] w fun e w'=>e=.returned (.func (.func 227) #[] #[w.heap.size])/\w.alloc (.cells #[n] 3)=w':=by
 go_enter func226,ntmps226
 go_wp2_with fail
 go_ret
 simp
inductive Ly
 |hd (s:SB) (v:Value)
 |wd (n:Nat)
 |hf (n:Nat)
def fe:List UInt8:=[83,72,69,65,70,48,48,49]
def Ly.eQ:Ly->List UInt8
 |.hd s _=>fe++NT s.seq 8
 |.wd n=>NT n 4
 |.hf n=>NT n 2
def kU (w:World) (lo:Nat) (v:Value):Ly->Prop
 |.hd s u=>∃g,lo<=g/\v=.func (.func 228) #[] #[.pointer (some ⟨g,0,none⟩)]/\ae w g (s.cells u) 58/\s.seq<18446744073709551616
 |.wd n=>∃g,lo<=g/\v=.func (.func 225) #[] #[.pointer (some ⟨g,0,none⟩)]/\ae w g #[(n:Int)] 3/\n<4294967296
 |.hf n=>∃g,lo<=g/\v=.func (.func 227) #[] #[.pointer (some ⟨g,0,none⟩)]/\ae w g #[(n:Int)] 3/\n<65536
variable {y:Ly}
theorem kU.kept {S} (h:kU w lo v y) (k:NP S w w') (hS:∀x∈S,x<lo):kU w' lo v y:=by
 have key:∀g,lo<=g->g∉S:=fun g hg hx=>by have:=hS g hx;omega
 cases y with
 |hd s u=>have⟨g,h1,h2,h3,h4⟩:=h;exact⟨g,h1,h2,k.own h3 (key g h1),h4⟩
 |wd n=>have⟨g,h1,h2,h3,h4⟩:=h;exact⟨g,h1,h2,k.own h3 (key g h1),h4⟩
 |hf n=>have⟨g,h1,h2,h3,h4⟩:=h;exact⟨g,h1,h2,k.own h3 (key g h1),h4⟩
theorem LH (g n:Nat) (w) (h:ae w g #[(n:Int)] 3) (hn:n<4294967296):
  am! 225 #[g] w fun e w'=>e=.returned (.string (bs (NT n 4)))/\NP [] w w':=by
 have hu:=fun w=>eU n w hn
 have c0:w.cell? g=(n:Int):=h.cell 0 b?
 have e1:IntKind.u32.wrap (n:Int)=(n:Int):=by rw[IntKind.wrap_u32];omega
 go_enter func225,ntmps225
 go_wp2_with fail
 refine(hu _).mono ?_;rintro e w1 ⟨rfl,hk⟩
 go_wp2_with fail
 go_ret
 exact⟨rfl,hk⟩
theorem LJ (g n:Nat) (w) (h:ae w g #[(n:Int)] 3) (hn:n<65536):
  am! 227 #[g] w fun e w'=>e=.returned (.string (bs (NT n 2)))/\NP [] w w':=by
 have hu:=fun w=>mM n w hn
 have c0:w.cell? g=(n:Int):=h.cell 0 b?
 go_enter func227,ntmps227
 go_wp2_with fail
 refine(hu _).mono ?_;rintro e w1 ⟨rfl,hk⟩
 go_wp2_with fail
 go_ret
 exact⟨rfl,hk⟩
theorem LK (g:Nat) (s:SB) (u:Value) (w:World) (h:ae w g (s.cells u) 58) (hn:s.seq<18446744073709551616):
  am! 228 #[g] w fun e w'=>e=.returned (.string (bs (fe++NT s.seq 8)))/\NP [] w w':=by
 have hu:=fun w=>Hx s.seq w hn
 have c0:w.cell? g=some (.int .u64 (s.seq:Int)):=ae.cell h 0 (by simp[SB.cells])
 have hz:(bs (NT s.seq 8)).size<=8:=X?
 have hfin:Hid (bs fe++bs (NT s.seq 8)=bs (fe++NT s.seq 8)):=rfl
 generalize NT s.seq 8=N at*
 go_enter func228,ntmps228
 go_wp2_with fail
 refine(hu _).mono ?_;rintro e w1 ⟨rfl,hk⟩
 go_wp2_with fail
 go_ret
 exact⟨L?,hk⟩
theorem kU.grown {rv xs} (h:kU w lo v y) (Ot:w.ownsRow base 70 1 rv n xs) (hg:w.grownBy w' rv.ownBlock):kU w' lo v y:=by
 have key:∀g cs t,ae w g cs t->70≠t->ae w' g cs t:=fun g cs t o Pb=>by
  refine Eq.trans (hg.block g o.lt ?_) o
  rcases Ot.2 with⟨rfl,_⟩|⟨g',cap,cur,rfl,_,hh,_⟩
  .simp[Value.ownBlock]
  .intro he
   have e:g=g':=by simpa[Value.ownBlock]using he
   subst e
   have o':w.heap[g]? =some (.cells cs t (0,0)):=o
   rw[o']at hh
   injection hh with hh
   injection hh with _ ht
   exact Pb ht.symm
 cases y with
 |hd s u=>have⟨g,h1,h2,h3,h4⟩:=h;exact⟨g,h1,h2,key g _ _ h3 d?,h4⟩
 |wd n=>have⟨g,h1,h2,h3,h4⟩:=h;exact⟨g,h1,h2,key g _ _ h3 d?,h4⟩
 |hf n=>have⟨g,h1,h2,h3,h4⟩:=h;exact⟨g,h1,h2,key g _ _ h3 d?,h4⟩
theorem JN {x2 x3 x4 x5} (h:ae w b #[x0,x1,x2,x3,x4,x5] t):w.cell? (aa b 1)=some x1/\w.cell? (aa b 2)=some x2/\w.cell? (aa b 3)=some x3/\w.cell? (aa b 4)=some x4/\w.cell? (aa b 5)=some x5:=h.c6.2
theorem xo (h:ae w b #[x0,x1] t):w.cell? b=some x0/\w.cell? (aa b 1)=some x1:=h.c2
theorem Hy {g cs} {e:TypeId} (h:ae w g cs e) (hn:cs.size=n) (hb:base<=g) (hm:n<=maxLen):w.ownsRow base e 1 (g,n,n) n cs.toList:=
 ⟨by simp[hn],Or.inr ⟨g,n,cs,rfl,hb,h,MG _,hm,by simp[hn],by rw[Nh (by simp[hn])]⟩⟩
def SB.oH (s:SB) (v:Value) (k:Nat):List Ly:=
 [.hd s v,.wd s.sectors.toNat,.wd s.journal.toNat,.wd s.used.toNat,.wd s.size.toNat,.hf s.runs.length,.hf 0]++((s.runs.take k).map fun r=>[Ly.hf r.1.toNat,Ly.hf r.2.toNat]).flatten
theorem SB.FA (s:SB) (v:Value) (k:Nat) (h:k<s.runs.length):s.oH v (k+1)=s.oH v k++[.hf s.runs[k].1.toNat,.hf s.runs[k].2.toNat]:=by
 unfold SB.oH
 rw[MI h,M0,Nv,<-MW]
 rfl
def mY (w:World) (lo:Nat) (v:Value) (zs:List (Value×Ly)):Prop:=
 w.ownsRow lo 70 1 v zs.length (zs.map (·.1))/\∀z∈zs,kU w lo z.1 z.2
theorem FV:∃i,prog.info? 70=some i/\i.zero=some .nilFunc/\i.size=1/\i.bytes=8:=by
 have hi:(prog.info? 70).map (fun i=>(i.zero,i.size,i.bytes))=some (some .nilFunc,1,8):=c?
 exact Yh
def GR (w wx:World) (v:Value) (s:SB) (u:Value):Prop:=
 ∃zs,mY wx w v zs/\zs.map (·.2)=s.oH u 0/\ae wx w (s.cells u) 58/\NP [] w wx
theorem Ln (w) (sq a b u z n:Nat) (l v) (hn:l.length=n) (hsq:sq<18446744073709551616) (ha:a<4294967296) (hb:b<4294967296) (hu:u<4294967296) (hz:z<4294967296) (QU:n<65536):
  GR w ((((((((w.alloc (.cells #[.int .u64 (sq:Int),(a:Int),(b:Int),(u:Int),(z:Int),v] 58)).alloc (.cells #[(a:Int)] 3)).alloc (.cells #[(b:Int)] 3)).alloc (.cells #[(u:Int)] 3)).alloc (.cells #[(z:Int)] 3)).alloc (.cells #[(n:Int)] 3)).alloc (.cells #[(0:Int)] 3)).alloc (.cells #[.func (.func 228) #[] #[w.heap.size],.func (.func 225) #[] #[↑(w+1:Nat)],.func (.func 225) #[] #[↑(w.heap.size+1+1:Nat)],.func (.func 225) #[] #[↑(w.heap.size+1+1+1:Nat)],.func (.func 225) #[] #[↑(w.heap.size+1+1+1+1:Nat)],.func (.func 227) #[] #[↑(w.heap.size+1+1+1+1+1:Nat)],.func (.func 227) #[] #[↑(w.heap.size+1+1+1+1+1+1:Nat)]] 70)).drew (.slice (some (aa (w.heap.size+1+1+1+1+1+1+1) 0)) 7 7) ⟨sq,a,b,u,z,l⟩ v:=by
 have⟨o0,o1,o2,o3,o4,o5,o6,o7⟩:=uR w #[.int .u64 (sq:Int),(a:Int),(b:Int),(u:Int),(z:Int),v] #[(a:Int)] #[(b:Int)] #[(u:Int)] #[(z:Int)] #[(n:Int)] #[(0:Int)] #[.func (.func 228) #[] #[w.heap.size],.func (.func 225) #[] #[↑(w+1:Nat)],.func (.func 225) #[] #[↑(w.heap.size+1+1:Nat)],.func (.func 225) #[] #[↑(w.heap.size+1+1+1:Nat)],.func (.func 225) #[] #[↑(w.heap.size+1+1+1+1:Nat)],.func (.func 227) #[] #[↑(w.heap.size+1+1+1+1+1:Nat)],.func (.func 227) #[] #[↑(w.heap.size+1+1+1+1+1+1:Nat)]] 58 3 3 3 3 3 3 70
 have hr:=Hy (base:=w.heap.size) o7 (n:=7) rfl a? m?
 refine⟨[(.func (.func 228) #[] #[w.heap.size],.hd ⟨sq,a,b,u,z,l⟩ v),(.func (.func 225) #[] #[↑(w+1:Nat)],.wd a),(.func (.func 225) #[] #[↑(w.heap.size+1+1:Nat)],.wd b),(.func (.func 225) #[] #[↑(w.heap.size+1+1+1:Nat)],.wd u),(.func (.func 225) #[] #[↑(w.heap.size+1+1+1+1:Nat)],.wd z),(.func (.func 227) #[] #[↑(w.heap.size+1+1+1+1+1:Nat)],.hf n),(.func (.func 227) #[] #[↑(w.heap.size+1+1+1+1+1+1:Nat)],.hf 0)],⟨hr,?_⟩,?_,o0,?_⟩
 .intro y hy
  simp only[List.mem_cons,List.not_mem_nil,or_false]at hy
  rcases hy with rfl|rfl|rfl|rfl|rfl|rfl|rfl
  .exact⟨_,MG _,rfl,o0,hsq⟩
  .exact⟨_,a?,rfl,o1,ha⟩
  .exact⟨_,a?,rfl,o2,hb⟩
  .exact⟨_,a?,rfl,o3,hu⟩
  .exact⟨_,a?,rfl,o4,hz⟩
  .exact⟨_,a?,rfl,o5,QU⟩
  .exact⟨_,a?,rfl,o6,a?⟩
 .subst hn
  simp[SB.oH]
 .exact((((((((((NP.refl _ _).alloc _).alloc _).alloc _).alloc _).alloc _).alloc _).alloc _).alloc _).drew)
theorem Di {w wr w5:World} {v:Value} {zs:List (Value×Ly)} {n1 n2 g cap:Nat} (h:mY wr w v zs) (hw:w.heap.size<=wr.heap.size) (h1:n1<65536) (h2:n2<65536)
  (o3:w5.ownsRow w 70 1 (g,zs.length+2,cap) (zs.length+2) (zs.map (·.1)++[.func (.func 227) #[] #[↑(wr+1:Nat)],.func (.func 227) #[] #[↑(wr.heap.size+1+1:Nat)]]))
  (gr:World.grownBy ((((wr.alloc (.cells #[(n1:Int),(n2:Int)] 128)).alloc (.cells #[(n1:Int)] 3)).alloc (.cells #[(n2:Int)] 3)).alloc (.cells #[.func (.func 227) #[] #[↑(wr+1:Nat)],.func (.func 227) #[] #[↑(wr.heap.size+1+1:Nat)]] 70)).drew w5 v.ownBlock):
  mY w5 w (g,zs.length+2,cap) (zs++[(.func (.func 227) #[] #[↑(wr+1:Nat)],.hf n1),(.func (.func 227) #[] #[↑(wr.heap.size+1+1:Nat)],.hf n2)]):=by
 have⟨Ot,hlay⟩:=h
 have abA:=World.ownsRow.drew (MH (MH (MH (MH Ot (.cells #[(n1:Int),(n2:Int)] 128)) (.cells #[(n1:Int)] 3)) (.cells #[(n2:Int)] 3)) (.cells #[.func (.func 227) #[] #[↑(wr+1:Nat)],.func (.func 227) #[] #[↑(wr.heap.size+1+1:Nat)]] 70))
 have k4:NP [] wr ((((wr.alloc (.cells #[(n1:Int),(n2:Int)] 128)).alloc (.cells #[(n1:Int)] 3)).alloc (.cells #[(n2:Int)] 3)).alloc (.cells #[.func (.func 227) #[] #[↑(wr+1:Nat)],.func (.func 227) #[] #[↑(wr.heap.size+1+1:Nat)]] 70)).drew:=((((((NP.refl _ _).alloc _).alloc _).alloc _).alloc _).drew)
 have⟨_,q1,q2,_⟩:=nD wr #[(n1:Int),(n2:Int)] #[(n1:Int)] #[(n2:Int)] #[.func (.func 227) #[] #[↑(wr+1:Nat)],.func (.func 227) #[] #[↑(wr.heap.size+1+1:Nat)]] 128 3 3 70
 refine⟨by simpa using o3,fun y hy=>?_⟩
 rw[Na]at hy
 rcases hy with hy|hy
 .exact((hlay y hy).kept k4 b?).grown abA gr
 .simp only[List.mem_cons,List.not_mem_nil,or_false]at hy
  rcases hy with rfl|rfl
  .exact kU.grown (y:=.hf n1) ⟨_,a?,rfl,q1.drew,h1⟩ abA gr
  .exact kU.grown (y:=.hf n2) ⟨_,a?,rfl,q2.drew,h2⟩ abA gr
theorem EY (sq a b u z:Nat) (l v) (lo hi:Nat) (w) (h:af w v l lo hi) (hq:sq<18446744073709551616) (ha:a<=8192) (hb:b<=8192) (hu:u<=1048576) (hz:z<=1048576) (hl:l.length<=16) (Pf:∀k (hk:k<l.length),0<=l[k].1/\l[k].1<=8192/\0<=l[k].2/\l[k].2<=8192):
  am! 165 #[.agg #[.int .u64 (sq:Int),(a:Int),(b:Int),(u:Int),(z:Int),v]] w fun e w'=>(∃r zs,e=.returned r/\mY w' w r zs/\zs.map (·.2)=(SB.mk sq a b u z l).oH v l.length)/\NP [] w w':=by
 have⟨i0,hi0,Rh,Qc,Qx⟩:=FV
 obtain⟨p,c,rfl⟩:=h.shape
 have Ss:=tK Pf
 clear Pf
 have hL0:=Ln w sq a b u z l.length l (p,l.length,c) rfl hq a? a? a? a? a?
 have HL0:=tK hL0
 clear hL0
 have o:=ae.new w #[.int .u64 (sq:Int),(a:Int),(b:Int),(u:Int),(z:Int),(p,l.length,c)] 58
 have⟨d0,d1,d2,d3,d4,d5⟩:=o.c6
 go_enter func165,ntmps165
 go_upto_region 3 with fail
 go_cut [5] (fun v5 wx=>GR w wx v5 ⟨sq,a,b,u,z,l⟩ (p,l.length,c))
 case first=>
  go_region_held3 (fun w'=>w'.cell? (aa w 1)=(a:Int)/\w'.cell? (aa w 2)=(b:Int)/\w'.cell? (aa w 3)=(u:Int)/\w'.cell? (aa w 4)=(z:Int)/\w'.cell? (aa w 5)=(p,l.length,c)) ((refine JN (x0:=.int .u64 (sq:Int)) (t:=58) ?_;(repeat' first|exact o|refine ae.drew ?_|refine ae.alloc ?_ _)))
   (first
    |(go_at_call 224;((with_reducible refine(Ls _ _).mono ?_));rintro e w' ⟨rfl,rfl⟩)
    |(go_at_call 226;((with_reducible refine(GK _ _).mono ?_));rintro e w' ⟨rfl,rfl⟩))
  all_goals go_wp2_with fail
  all_goals go_meet
  all_goals exact HL0.out
 case rest=>
  have⟨zs,hlays,YF,ho,Zb⟩:=hcut
  unfold SB.cells at ho
  have⟨d0,d1,d2,d3,d4,d5⟩:=ho.c6
  have HZ:=tK YF
  clear YF
  go_wp2_with fail
  go_loopw [5,36] (fun v i wr=>∃(k:Nat) (zs:List (Value×Ly)),k<=l.length/\i=(k:Int)/\mY wr w v zs/\Aside (zs.map (·.2)=(SB.mk sq a b u z l).oH (p,l.length,c) k/\zs.length=7+2*k)/\NP [] w wr) (fun _ i _=>l.length-(intOf i).toNat)
  case atStart=>exact⟨0,zs,a?,rfl,hlays,⟨HZ.out,by have:=congrArg List.length HZ.out;rw[MP]at this;rw[this];rfl⟩,Zb⟩
  case round=>
   obtain⟨k,zs,hk,rfl,hlays,hA,hK⟩:=hrel
   by_cases NV:k<l.length
   .obtain⟨b',off,rfl,c0,c1,UR,hlc,PT⟩:=(h.kept0 hK).at_ k NV
    obtain⟨p',cap',rfl⟩:=ah hlays.1
    have Ot:=hlays.1
    have Tj:=Ss.out k NV
    have Qu:=SB.FA (SB.mk sq a b u z l) (.slice (some (aa b' off)) l.length c) k NV
    simp only at Qu
    have⟨n1,QX⟩:=MM Tj.1
    have⟨n2,QU⟩:=MM Tj.2.2.1
    rw[QX]at c0 Qu Tj
    rw[QU]at c1 Qu Tj
    rw[Nw,Nw]at Qu
    have Su:=tK Qu
    have hzl:zs.length<=100:=by have:=hA.2;omega
    have hws:=hK.size
    have TG:n1<65536:=a?
    have Q3:n2<65536:=a?
    have Pb:some wr.heap.size≠(Value.slice p' zs.length cap').ownBlock:=fun e=>by have:=(ML Ot _ e.symm).2;omega
    have Ox:=fun w5 g cap=> @Di w wr w5 (p',zs.length,cap') zs n1 n2 g cap hlays hws TG Q3
    have⟨Sb,WJ,HK,HOW⟩:=gh! Ox Pb hK Ot
    have o1:=ae.new wr #[(n1:Int),(n2:Int)] 128
    clear Qu QX QU Tj hlays Ox Pb hK
    go_wp2_with fail
    go_region_held3 (fun w'=>w'.cell? wr=(n1:Int)/\w'.cell? (aa wr 1)=(n2:Int)) (first|go_keep|((refine xo (t:=128) ?_;(repeat' first|exact o1|refine ae.drew ?_|refine ae.alloc ?_ _))))
     (first
      |(go_at_call 226;((with_reducible refine(GK _ _).mono ?_));rintro e w' ⟨rfl,rfl⟩)
      |(refine step_append_lies _ L? (.tmp 40) (.tmp 49) 226 L? w.heap.size 70 i0 .nilFunc 1 8 underlying226 hi0 Rh Qc Qx rfl d? _ _ _ L? (World.ownsRow.drew (MH (MH (MH (MH HOW.out _) _) _) _)) ⟨wr.heap.size+1+1+1,0,none⟩ 2 2 [.func (.func 227) #[] #[.pointer (some ⟨wr.heap.size+1,0,none⟩)],.func (.func 227) #[] #[.pointer (some ⟨wr.heap.size+1+1,0,none⟩)]] L? rfl (World.news_of_block (nD wr _ _ _ _ _ _ _ _).2.2.2) v? d? m? a? e? (wr.heap.size+1+1+1+1) b? ?_;intro g3 Vt w5 o3 RQ at3 lt3;have y0:w5.cell? ⟨wr.heap.size,0,none⟩=some (.int .i64 (n1:Int)):=(by rw[RQ.cell_far ⟨wr.heap.size,0,none⟩ e? WJ.out];exact(xo (t:=128) (by(repeat' first|exact o1|refine ae.drew ?_|refine ae.alloc ?_ _))).1);have y1:w5.cell? ⟨wr.heap.size,1,none⟩=some (.int .i64 (n2:Int)):=(by rw[RQ.cell_far ⟨wr.heap.size,1,none⟩ e? WJ.out];exact(xo (t:=128) (by(repeat' first|exact o1|refine ae.drew ?_|refine ae.alloc ?_ _))).2)))
    have hL5:=Sb.out w5 g3 Vt o3 RQ
    have QI:NP [] w w5:=(((((HK.out.alloc _).alloc _).alloc _).alloc _).drew).grown RQ (fun g hg=>Or.inr (ML HOW.out g hg).1)
    clear RQ o3 at3 y0 y1
    go_wp2_with fail
    go_roundw
    case rel=>exact⟨k+1,_,a?,j?,hL5,⟨by rw[M0,hA.1,Su.out];rfl,by have:=hA.2;simp;omega⟩,QI⟩
    case measure=>simp[intOf];omega
   .obtain rfl:k=l.length:=a?
    have hA1:=tK hA.1
    clear hA
    go_wp2_with fail
    go_ret
    exact⟨⟨_,zs,rfl,hlays,hA1.out⟩,hK⟩
def eB (l:List (Int×Int)):List UInt8:=(l.map fun r=>NT r.1.toNat 2++NT r.2.toNat 2).flatten
def SB.body (s:SB):List UInt8:=
 fe++NT s.seq 8++NT s.sectors.toNat 4++NT s.journal.toNat 4++NT s.used.toNat 4++NT s.size.toNat 4++NT s.runs.length 2++NT 0 2++eB s.runs
def SB.aT (s:SB):List UInt8:=dF (Pg s.body 124)
theorem FB (l):(((l.map fun r=>[Ly.hf r.1.toNat,Ly.hf r.2.toNat]).flatten).map Ly.eQ).flatten=eB l:=by
 induction l with
 |nil=>rfl
 |cons a l ih=>
  simp only[List.map_cons,List.flatten_cons,M0,Nv,eB]
  rw[ih]
  simp[Ly.eQ,eB]
theorem FC (s:SB) (v:Value):((s.oH v s.runs.length).map Ly.eQ).flatten=s.body:=by
 unfold SB.oH
 rw[MU,M0,Nv,FB]
 simp[Ly.eQ,SB.body]
theorem uF (l):(eB l).length=4*l.length:=by
 induction l with
 |nil=>rfl
 |cons a l ih=>simp only[eB,List.map_cons,List.flatten_cons,tN,ak,Nj]at*;omega
theorem rW (s:SB):s.body.length=36+4*s.runs.length:=by
 simp only[SB.body,tN,ak,uF,fe,Nj,List.length_nil]
theorem rR (l) (h:l.length<=124):(Pg l 124).length=124:=by
 unfold Pg;rw[tN,Np];omega
theorem sy (s:SB) (h:s.runs.length<=16):s.aT.length=128:=by
 unfold SB.aT dF
 rw[tN,ak,rR _ (by rw[rW];omega)]
theorem Hu (s:SB) (v:Value) (lo hi:Nat) (w:World) (h:af w v s.runs lo hi) (hm:s.may) (hq:s.seq<18446744073709551616):
  am! 165 #[.agg (s.cells v)] w fun e w'=>(∃r zs,e=.returned r/\mY w' w r zs/\zs.map (·.2)=s.oH v s.runs.length)/\NP [] w w':=by
 obtain⟨⟨g1,g2,g3,g4,g5,g6,g7,g8,g9,g10⟩,hL,_⟩:=hm
 have hLO:=fJ (MG _) hL
 have⟨sq,a,b,u,z,l⟩:=s
 simp only at*
 obtain⟨a,rfl⟩:=MM (show 0<=a by omega)
 obtain⟨b,rfl⟩:=MM (show 0<=b by omega)
 obtain⟨u,rfl⟩:=MM (show 0<=u by omega)
 obtain⟨z,rfl⟩:=MM (show 0<=z by omega)
 exact EY sq a b u z l v lo hi w h hq a? a? a? a? g10 (fun k hk=>by
  have:=dN.1 (hLO k hk)
  omega)
theorem M34 {A:Prop}(h:A:=by
 go_wp2_with fail
 refine(hc _ ho).mono ?_;rintro e w3 ⟨rfl,P6⟩
 go_wp2_with fail
 go_roundw
 case rel=>exact⟨k+1,Of.out,j?,by rw[YW.out,<-Oy.out],hK.trans P6⟩
 case measure=>(have hh:=Of.out;simp[intOf];omega)):A:=h
theorem JM (s:SB) (v:Value) (lo hi:Nat) (w:World) (h:af w v s.runs lo hi) (hm:s.may) (hq:s.seq<18446744073709551616):
  am! 93 #[.agg (s.cells v)] w fun e w'=>e=.returned (.tuple #[s.aT,(0:Int)])/\NP [] w w':=by
 have RV:s.runs.length<=16:=hm.1.2.2.2.2.2.2.2.2.2
 have hC:=fun w' (hk:NP [] w w')=>(CI s v lo hi w' (h.kept0 hk) a?).mono fun e w'' hh=>(show e=(0:Int)/\NP [] w' w'' from⟨by
  rcases hh.1 with⟨_,e1⟩|⟨e1,_⟩
  .exact e1
  .exact absurd hm e1,hh.2⟩)
 have hF:=fun w' (hk:NP [] w w')=>Hu s v lo hi w' (h.kept0 hk) hm hq
 have o:=ae.new w (s.cells v) 58
 have hb:=rW s
 have Tr:=FC s v
 have HB:=tK Tr
 have U5:=fun w=>lz (bs s.body) 124 w P! a?
 rw[cC]at U5
 have aaE:=fun w=>Bv (Pg s.body 124) w (by rw[rR _ a?];omega)
 have aai:dF (Pg s.body 124)=s.aT:=rfl
 rw[aai]at aaE
 have⟨HC,HF⟩:=f? hC hF
 clear hC hF h hm Tr aai
 generalize Pg s.body 124=FL at*
 generalize s.aT=SL at*
 unfold SB.cells at*
 go_enter func93,ntmps93
 have⟨d0,d1,d2,d3,d4,d5⟩:=o.c6
 go_wp2_with fail
 refine(HC.out _ ((NP.refl _ _).alloc _)).mono ?_;rintro e w1 ⟨rfl,OP⟩
 have o1:=OP.own o b?
 have⟨d0,d1,d2,d3,d4,d5⟩:=o1.c6
 go_wp2_with fail
 refine(HF.out _ (((NP.refl _ _).alloc _).trans OP)).mono ?_;rintro e w2 ⟨⟨r,zs,rfl,⟨Ot,hlay⟩,YF⟩,PY⟩
 have hzl:zs.length=(s.oH v s.runs.length).length:=by rw[<-YF,MP]
 have acx:zs.length=7+2*s.runs.length:=by
  rw[hzl];unfold SB.oH;rw[MU,tN]
  have:∀l:List (Int×Int),((l.map fun r=>[Ly.hf r.1.toNat,Ly.hf r.2.toNat]).flatten).length=2*l.length:=fun l=>by
   induction l with
   |nil=>rfl
   |cons a l ih=>simp only[List.map_cons,List.flatten_cons,tN,Nj,ih,List.length_nil];omega
  rw[this];rfl
 have Tt:(zs.map fun z=>z.2.eQ).flatten=s.body:=by
  rw[<-HB.out,<-YF,List.map_map];rfl
 have HT:=tK Tt
 have QY:NP [] w w2:=(((NP.refl _ _).alloc _).trans OP).trans PY
 have afo:w.heap.size<=w1.heap.size:=by have:=OP.size;simp at this;omega
 clear hzl YF Tt HF HC HB
 obtain⟨g,cap,rfl,hg⟩:∃g cap,r=.slice (some ⟨g,0,none⟩) zs.length cap/\(Value.slice (some ⟨g,0,none⟩) zs.length cap).ownBlock=some g:=by
  rcases Ot.2 with⟨_,hx⟩|⟨g,cap,cur,rfl,_⟩
  .omega
  .exact⟨g,cap,rfl,rfl⟩
 have hzb:zs.length<=100:=a?
 have H2:=tK acx
 clear acx
 go_wp2_with fail
 go_loopw [5,16] (fun t i wr=>∃k:Nat,k<=zs.length/\i=(k:Int)/\t=.string (bs ((zs.take k).map fun z=>z.2.eQ).flatten)/\NP [] w2 wr) (fun _ i _=>zs.length-(intOf i).toNat)
 case atStart=>exact⟨0,a?,rfl,rfl,NP.refl _ _⟩
 case round=>
  obtain⟨k,hk,rfl,rfl,hK⟩:=hrel
  by_cases NV:k<zs.length
  .have RF:=ax Ot hK b?
   have Yb:=(hlay zs[k] (MJ _)).kept hK b?
   have Ou:=World.ownsRow.cells RF hg k zs[k].1 (by simp[NV])
   rw[Ni,Nat.zero_add]at Ou
   have S7:((zs.take (k+1)).map fun z=>z.2.eQ).flatten=((zs.take k).map fun z=>z.2.eQ).flatten++zs[k].2.eQ:=by
    rw[MI NV,M0,Nv]
    congr 1;simp
   have PW:(((zs.take k).map fun z=>z.2.eQ).flatten).length<=1000:=by
    have e1:(zs.map fun z=>z.2.eQ).flatten=((zs.take k).map fun z=>z.2.eQ).flatten++((zs.drop k).map fun z=>z.2.eQ).flatten:=by
     rw[<-Nv,<-M0,List.take_append_drop]
    have e2:=congrArg List.length (e1.symm.trans HT.out)
    rw[tN]at e2;omega
   have acI:(bs ((zs.take k).map fun z=>z.2.eQ).flatten).size<=1000:=by rw[NQ];exact PW
   have Oy:Hid (bs ((zs.take k).map fun z=>z.2.eQ).flatten++bs zs[k].2.eQ=bs ((zs.take (k+1)).map fun z=>z.2.eQ).flatten):=by
    show bs _++bs _=_;rw[aw,S7]
   have Of:=tK NV
   clear S7 PW RF
   generalize ((zs.take k).map fun z=>z.2.eQ).flatten=T at*
   generalize hT2:((zs.take (k+1)).map fun z=>z.2.eQ).flatten=T2 at*
   have YW:=tK hT2
   clear hT2
   generalize zs[k].1=f at*
   generalize zs[k].2=y at*
   cases y with
   |hd s' u=>
    obtain⟨g',_,rfl,ho,hs⟩:=Yb
    have Qx:(bs (Ly.hd s' u).eQ).size<=100:=by rw[NQ];simp[Ly.eQ,ak,fe]
    have hc:=fun w h=>LK g' s' u w h hs
    rw[show fe++NT s'.seq 8=(Ly.hd s' u).eQ from rfl]at hc
    generalize (Ly.hd s' u).eQ=tx at*
    exact M34
   |wd n=>
    obtain⟨g',_,rfl,ho,hs⟩:=Yb
    have Qx:(bs (Ly.wd n).eQ).size<=100:=by rw[NQ];simp[Ly.eQ,ak]
    have hc:=fun w h=>LH g' n w h hs
    rw[show NT n 4=(Ly.wd n).eQ from rfl]at hc
    generalize (Ly.wd n).eQ=tx at*
    exact M34
   |hf n=>
    obtain⟨g',_,rfl,ho,hs⟩:=Yb
    have Qx:(bs (Ly.hf n).eQ).size<=100:=by rw[NQ];simp[Ly.eQ,ak]
    have hc:=fun w h=>LJ g' n w h hs
    rw[show NT n 2=(Ly.hf n).eQ from rfl]at hc
    generalize (Ly.hf n).eQ=tx at*
    exact M34
  .obtain rfl:k=zs.length:=a?
   have e1:((zs.take zs.length).map fun z=>z.2.eQ).flatten=s.body:=by rw[MU];exact HT.out
   rw[e1]at*
   clear e1
   generalize s.body=B at*
   go_wp2_with fail
   refine(U5 _).mono ?_;rintro e w3 ⟨rfl,P6⟩
   go_wp2_with fail
   refine(aaE _).mono ?_;rintro e w4 ⟨rfl,Qo⟩
   go_wp2_with fail
   go_ret2
   exact⟨rfl,((QY.trans hK).trans P6).trans Qo⟩
theorem Hs (s:SB) (v:Value) (lo hi:Nat) (w:World) (h:af w v s.runs lo hi) (hl:s.runs.length<=1000000) (hm:¬s.may):
  am! 93 #[.agg (s.cells v)] w fun e w'=>e=.returned (.tuple #[.string (bs []),(1:Int)])/\NP [] w w':=by
 have hC:=fun w' (hk:NP [] w w')=>(CI s v lo hi w' (h.kept0 hk) hl).mono fun e w'' hh=>(show e=(1:Int)/\NP [] w' w'' from⟨by
  rcases hh.1 with⟨e1,_⟩|⟨_,e1⟩
  .exact absurd e1 hm
  .exact e1,hh.2⟩)
 have o:=ae.new w (s.cells v) 58
 have HC:=tK hC
 clear hC h hm
 unfold SB.cells at*
 go_enter func93,ntmps93
 have⟨d0,d1,d2,d3,d4,d5⟩:=o.c6
 go_wp2_with fail
 refine(HC.out _ ((NP.refl _ _).alloc _)).mono ?_;rintro e w1 ⟨rfl,OP⟩
 go_wp2_with fail
 go_ret2
 exact⟨rfl,((NP.refl _ _).alloc _).trans OP⟩
theorem si {sb mb d} (hD:DA w b sb mb lo d) (ho:d.ops<100000) (hw:d.waits.length<=10000):
  am! 39 (#[.pointer (some ⟨b,0,none⟩)]++#[]) w fun e w'=>e=.returned (.int .i64 (aA d).2)/\DA w' b sb mb lo (aA d).1/\PK T b sb mb w w':=by
 rw[Array.append_empty]
 exact(hD.flush ho hw).mono fun e w' ⟨h1,h2,h3⟩=>⟨h1,h2,h3.mono b?⟩
theorem Ku {T:List Nat} (n g1 g2 g3:Nat) (i:Int) (s:List UInt8) {w:World} {b sb mb lo:Nat} {d:DK} (hD:DA w b sb mb lo d)
  (on:ae w n #[.func (.func 87) #[] #[g1,g2,g3],.func (.func 39) #[b] #[]] 42)
  (h1:ae w g1 #[b] 23) (h2:ae w g2 #[i] 3) (h3:ae w g3 #[s] 9)
  (f0:bf T w b sb mb n) (f1:bf T w b sb mb g1) (f2:bf T w b sb mb g2) (f3:bf T w b sb mb g3) (ho:d.ops<=90000) (hw:d.waits.length<=9000):
  am! 37 #[.slice (some n) 2 2] w fun e w'=>e=.returned (.int .i64 (aG [aM i s,aA] d).2)/\DA w' b sb mb lo (aG [aM i s,aA] d).1/\PK T b sb mb w w':=by
 refine Ao [aM i s,aA] [(87,#[],#[g1,g2,g3]),(39,#[b],#[])] rfl n 0 2 hD b? (fun k h=>?_) on.lt f0 (fun k h=>?_) (fun k h W hW hk _=>?_)
 .match k,h with
  |0,_=>exact enters_of func87 c? rfl
  |1,_=>exact enters_of func39 c? rfl
 .match k,h with
  |0,_=>exact on.cell 0 b?
  |1,_=>exact on.cell 1 b?
 .match k,h with
  |0,_=>
   have:=tH (T:=T) g1 g2 g3 i s hW (hk.own h1 f1) (hk.own h2 f2) (hk.own h3 f3) (by show d.ops<_;omega) C!
   exact this
  |1,_=>
   have⟨e1,e2,_⟩:=fy d i s
   exact si hW (by show(OJ d i s).ops<_;omega) (by show(OJ d i s).waits.length<=_;omega)
def cN (s:SB) (d:DK):DK×Int:=aG [aM ((s.seq%2:Nat):Int) s.aT,aA] d
theorem Gx (b:Nat) (s:SB) (v:Value) (w:World):
  am! 40 #[b,.agg (s.cells v)] w fun e w'=>e=.returned (.func (.func 92) #[] #[↑(w+1:Nat),w.heap.size])/\(w.alloc (.cells #[b] 23)).alloc (.cells (s.cells v) 58)=w':=by
 unfold SB.cells
 go_enter func40,ntmps40
 go_wp2_with fail
 go_ret
 exact⟨rfl,rfl⟩
theorem BY (gS gD s v) {w b sb mb lo d} (hD:DA w b sb mb lo d) (hT:∀x∈T,x<w.heap.size) (hS:ae w gS (s.cells v) 58) (hd:ae w gD #[b] 23) (hr:ep T w b sb mb v s.runs) (hm:s.may) (hq:s.seq<18446744073709551616) (fS:bf T w b sb mb gS) (fD:bf T w b sb mb gD) (ho:d.ops<=90000) (hw:d.waits.length<=9000):
  am! 92 #[gS,gD] w fun e w'=>e=.returned (.int .i64 (cN s d).2)/\DA w' b sb mb lo (cN s d).1/\PK T b sb mb w w':=by
 have⟨PU,PC,Oe⟩:=hr.1
 have hP:=JM s v PU PC w Oe hm hq
 have hSL:=fun W=>GG s.seq W hq
 have hWR:=fun W=>BV b ((s.seq%2:Nat):Int) s.aT W
 unfold cN
 have HA:Hid (∀W,NP [] w W->∀n g1 g2 g3,w.heap.size<=n->w.heap.size<=g1->w.heap.size<=g2->w.heap.size<=g3->ae W n #[.func (.func 87) #[] #[.pointer (some ⟨g1,0,none⟩),.pointer (some ⟨g2,0,none⟩),.pointer (some ⟨g3,0,none⟩)],.func (.func 39) #[b] #[]] 42->
   ae W g1 #[b] 23->ae W g2 #[((s.seq%2:Nat):Int)] 3->ae W g3 #[s.aT] 9->
   am! 37 #[.slice (some n) 2 2] W fun e w'=>e=.returned (.int .i64 (aG [aM ((s.seq%2:Nat):Int) s.aT,aA] d).2)/\DA w' b sb mb lo (aG [aM ((s.seq%2:Nat):Int) s.aT,aA] d).1/\PK T b sb mb W w'):=tK (fun W k n g1 g2 g3 a0 a1 a2 a3 o0 o1 o2 o3=>
  Ku n g1 g2 g3 _ _ (hD.aJ k) o0 o1 o2 o3 (hD.bU hT k a0) (hD.bU hT k a1) (hD.bU hT k a2) (hD.bU hT k a3) ho hw)
 have Wa:Hid (∀W,PK T b sb mb w W->W.cell? gD=b/\W.cell? gS=some (.int .u64 s.seq)):=tK (fun W k=>⟨(k.own hd fD).cell 0 b?,(k.own hS fS).cell 0 (by simp[SB.cells])⟩)
 have HB:=tK hD.bH
 have Q6:=hS
 unfold SB.cells at hS hP
 have⟨x0,x1,x2,x3,x4,x5⟩:=hS.c6
 have⟨HX,HQ,HP,TO,HWR⟩:=gi! hS hq hP hSL hWR
 clear hD hT hS hd hr hm hq fS fD ho hw Oe hP hSL hWR Q6
 generalize hch:aG [aM ((s.seq%2:Nat):Int) s.aT,aA] d=CH at*
 clear hch
 generalize hss:s.aT=SS at*
 clear hss
 obtain⟨sq,se,jr,us,sz,rs⟩:=s
 simp only at*
 generalize Sw:((sq%2:Nat):Int)=SLT at*
 clear Sw
 go_enter func92,ntmps92
 go_wp2_with fail
 refine HP.out.mono ?_;rintro e w1 ⟨rfl,k1⟩
 have⟨z1,z2⟩:=Wa.out _ (k1.eH HB.out)
 have K1:=tK k1
 clear k1 x0 x1 x2 x3 x4 x5
 go_upto_region 4 with fail
 go_cut [2]from 13 to 22 (fun v2 wx=>v2=CH.2/\DA wx b sb mb lo CH.1/\PK T b sb mb w wx)
 case first=>
  refine MK (S:=(fun W=>W.cell? gD=b/\W.cell? gS=some (.int .u64 sq))) c? (by exact Wa.out _ ((K1.out.drew).eH HB.out)) (fun hHeld=>?_)
  refine tS ?_
  refine rD 3 (fun K hK=>?_)
  go_simp
  ((with_reducible refine(TO.out _).mono ?_));rintro e w2 ⟨rfl,rfl⟩
  go_wp2_with fail
  refine hK.out _ _ (Wa.out _ ((K1.out.drew).eH HB.out)) (fun hHeld=>nM ?_)
  clear hK K
  refine rD 5 (fun K hK=>?_)
  go_simp
  ((with_reducible refine(HWR.out _).mono ?_));rintro e w2 ⟨rfl,rfl⟩
  go_wp2_with fail
  refine hK.out _ _ (Wa.out _ ((((K1.out.drew.alloc _).alloc _).alloc _).eH HB.out)) (fun hHeld=>nM ?_)
  clear hK K
  refine rD 8 (fun K hK=>?_)
  go_simp
  refine hK.out _ _ (Wa.out _ ((((((K1.out.alloc _).alloc _).alloc _).alloc _).drew).eH HB.out)) (fun hHeld=>nM ?_)
  clear hK K
  have⟨o1,o2,o3,o4⟩:=nD w1 #[b] #[SLT] #[SS] #[.func (.func 87) #[] #[w1.heap.size,↑(w1+1:Nat),↑(w1+2:Nat)],.func (.func 39) #[b] #[]] 23 3 9 42
  have RH:=K1.out.size
  refine rD 9 (fun K hK=>?_)
  go_simp
  ((with_reducible refine(HA.out _ (((((K1.out.alloc _).alloc _).alloc _).alloc _).drew) _ w1 (w1.heap.size+1) (w1.heap.size+2) a? RH a? a? o4.drew o1.drew o2.drew o3.drew).mono ?_));rintro e w5 ⟨rfl,hD5,k5⟩
  have Sp:=((((((K1.out.alloc (.cells #[b] 23)).alloc (.cells #[SLT] 3)).alloc (.cells #[SS] 9)).alloc (.cells #[.func (.func 87) #[] #[w1.heap.size,↑(w1+1:Nat),↑(w1+2:Nat)],.func (.func 39) #[b] #[]] 42)).drew).eH (T:=T) (sb:=sb) (mb:=mb) HB.out).trans k5
  have⟨KK5,HD5⟩:=f? Sp hD5
  clear hD5 Sp k5 o1 o2 o3 o4
  go_wp2_with fail
  refine hK.out _ _ (Wa.out _ (KK5.out)) (fun hHeld=>nM ?_)
  clear hK K
  refine tS ?_
  refine Ng c? ?_ _
  try simp only[List.set_cons_succ,List.set_cons_zero]
  go_wp2_with fail
  go_meet
  exact⟨rfl,HD5.out,KK5.out⟩
 case rest=>
  obtain⟨rfl,h1,h2⟩:=hcut
  go_wp2_with fail
  go_ret
  exact⟨rfl,h1,h2⟩
end
section
open Go.Proofs.Tryz Go.RowKit
variable {w w':World} {b:Nat} {S T:List Nat} {A:Prop} {x:Int} {l:List UInt8}
theorem EO (al):∀(d:DK) (s:List UInt8),(gN al d s).1.ops<=d.ops+al.length/\(gN al d s).1.waits.length<=d.waits.length+al.length/\(gN al d s).1.stand.length=d.stand.length:=by
 induction al with
 |nil=>intro d s;exact⟨MG _,MG _,rfl⟩
 |cons a t ih=>
  grind [fy,gN]
theorem Fj (n):∀l:List Nat,l.Nodup->(∀m∈l,m<n)->l.length<=n:=by
 induction n with
 |zero=>intro l _ h;cases l with
  |nil=>simp
  |cons a t=>grind [MY]
 |succ n ih=>
  intro l hn h
  have h1:=ih (l.erase n) (hn.erase n) (fun m hm=>by
   grind)
  grind
theorem F2 {l} {n:Nat} {size:Int} (h:dO l n size):(NY l).length<=n:=
 Fj n _ (mo h.2.2.1) (fun m hm=>by have:=(h.lt hm).1;omega)
theorem rA (d l s):(OQ d l s).1.ops<=d.ops+d.stand.length/\(OQ d l s).1.waits.length<=d.waits.length+d.stand.length/\(OQ d l s).1.stand.length=d.stand.length:=by
 unfold OQ
 split
 .rename_i h
  have hf:=F2 h
  grind [EO]
 simp
theorem DD (d):(iO d).ops<=d.ops+1/\(iO d).waits.length<=d.waits.length/\(iO d).stand.length=d.stand.length:=by
 unfold iO
 split
 .omega
 .split
  .exact⟨MG _,MG _,rfl⟩
  .exact⟨MG _,Nb _,sx _ _⟩
theorem IJ (n):∀(d:DK) (a:Nat) (s:List UInt8),s.length<=n->(fW d a s).1.waits.length<=d.waits.length+s.length/\(fW d a s).1.ops<=d.ops+s.length:=by
 induction n with
 |zero=>
  intro d a s hs
  have:s=[]:=Nc a?
  subst this
  exact⟨MG _,MG _⟩
 |succ n ih=>
  intro d a s hs
  by_cases h0:s=[]
  .grind
  grind [fy,iK]
theorem tw (d j u S):(Oa d j u S).1.waits.length<=d.waits.length+128+S.length/\(Oa d j u S).1.ops<=d.ops+128+S.length:=by
 unfold Oa
 split
 .grind
 .split
  .grind
  .split
   .grind
   .split
    .grind
    .have h:=IJ _ d (2+u.toNat/128) ((seen d (2+u.toNat/128)).take (u.toNat%128)++S) (MG _)
     grind
def pK:NS:=⟨0,[],0,[]⟩
def PI (p:NS->Bool) (l:List NS):NS×Bool:=match l.find? p with
 |some x=>(x,true)
 |none=>(pK,false)
def lT (wb:World) (X:NS×Bool) (w:World) (e:Ending) (w':World):Prop:=∃kv,e=.returned (.tuple #[.agg (X.1.cells kv),.bool X.2])/\bd wb (X.1,kv)/\NP [] w w'
theorem F5 {p:NS->Bool} {l i} (hi:i<l.length) (h:p l[i]=true) (h0:∀j (hj:j<l.length),j<i->p l[j]=false):PI p l=(l[i],true):=by
 have:l.find? p=some l[i]:=List.find?_eq_some_iff_getElem.2 ⟨h,i,hi,rfl,fun j hj=>by simp[h0 j a? hj]⟩
 unfold PI;rw[this]
theorem F4 {p:NS->Bool} {l} (h0:∀j (hj:j<l.length),p l[j]=false):PI p l=(pK,false):=by
 have:l.find? p=none:=List.find?_eq_none.2 (fun x hx=>by
  obtain⟨j,hj,rfl⟩:=Nr.1 hx
  simp[h0 j hj])
 unfold PI;rw[this]
theorem Dm (w):bd w (pK,()):=⟨Or.inl ⟨rfl,none,0,rfl⟩,⟨d?,by simp[pK,maxLen],d?⟩,fun r hr=>by simp[pK]at hr⟩
theorem qT {wb} {X:NS×Bool} {x b kv} (h:X=(x,b)) (h1:bd wb (x,kv)) (k:NP [] w w'):lT wb X w (.returned (.tuple #[.agg (x.cells kv),.bool b])) w':=by subst h;exact⟨kv,rfl,h1,k⟩
theorem ae.AJ {x0 x1 x2 x3} {t:TypeId} (h:ae w b #[x0,x1,x2,x3] t) (y0 y1 y2 y3):
  ae ((((w.setCell b y0).setCell (aa b 1) y1).setCell (aa b 2) y2).setCell (aa b 3) y3) b #[y0,y1,y2,y3] t:=by
 have:=(((h.set 0 y0).set 1 y1).set 2 y2).set 3 y3
 simpa using this
theorem BM (w):am! 41 #[] w fun e w'=>e=.returned (.agg #[.int .u32 1,.int .u32 1,(),(),()])/\NP [] w w':=by
 go_enter func41,ntmps41
 go_wp2_with fail
 have o:=ae.new w #[.int .u32 1,.int .u32 1,(),(),()] 52
 refine MN (v:=.agg #[.int .u32 1,.int .u32 1,(),(),()]) (iu results41 rfl (t:=52) ?_ underlying52 rfl c?) rfl ⟨rfl,(NP.refl _ _).alloc _⟩
 exact o
theorem xY (p:NS->Bool) (cv v l w) (h:aU w v l) (hl:l.length<=1000000) (hp:∀W,NP [] w W->∀i (hi:i<l.length) kv,bd W (l[i],kv)->am! 119 #[.agg (l[i].cells kv),cv] W fun e w'=>e=.returned (.bool (p l[i]))/\NP [] W w'):
  am! 187 #[v,.func (.func 119) #[] #[cv]] w (oh p l w):=by
 obtain⟨pa,ca,rfl⟩:=h.shape
 have⟨H,HP⟩:=f? h hp
 have Tg:(l.length:Int)<=1000000:=a?
 clear h hp
 go_enter func187,ntmps187
 go_wp2_with fail
 go_loopw [8] (fun i wr=>∃k:Nat,k<=l.length/\i=(k:Int)/\(∀j (hj:j<l.length),j<k->p l[j]=false)/\NP [] w wr) (fun i _=>l.length-(intOf i).toNat)
 case atStart=>exact⟨0,Nb _,rfl,fun j hj h=>absurd h (Nat.not_lt_zero j),NP.refl _ _⟩
 case round=>
  exact M16
theorem xZ (p:NS->Bool) (cv v l wb w) (Rp:NP [] wb w) (hb0:aU wb v l) (hl:l.length<=1000000) (hp:∀W,NP [] w W->∀i (hi:i<l.length) kv,bd W (l[i],kv)->am! 119 #[.agg (l[i].cells kv),cv] W fun e w'=>e=.returned (.bool (p l[i]))/\NP [] W w'):
  am! 116 #[v,.func (.func 119) #[] #[cv]] w (lT wb (PI p l) w):=by
 have h:=hb0.kept0 Rp
 have⟨ZB,V3⟩:=f? hb0 Rp
 have k0:NP [] w (w.alloc (.cells #[.int .u32 0,.string {data:=#[]},(0:Int),()] 113)):=(NP.refl _ _).alloc _
 have o0:=ae.new w #[.int .u32 0,.string {data:=#[]},(0:Int),()] 113
 have hi:=xY p cv v l _ (h.kept0 k0) hl (fun W q i hi kv hx=>hp W (k0.trans q) i hi kv hx)
 unfold oh at hi
 obtain⟨pa,ca,rfl⟩:=h.shape
 have⟨H,HI,K0,O0⟩:=gh! h hi k0 o0
 have Tg:(l.length:Int)<=1000000:=a?
 clear hi h hp k0 o0 hb0 Rp
 go_enter func116,ntmps116
 go_wp2_with fail
 refine HI.out.mono ?_;rintro e w2 ⟨abL,k2⟩
 have K2:=tK (K0.out.trans k2)
 have O2:=tK (k2.own O0.out b?)
 have⟨x0,x1,x2,x3⟩:=O2.out.c4
 have⟨f0,f1,f2,f3⟩:=O2.out.z4
 rcases abL with⟨i,hi,h1,h2,rfl⟩|⟨h2,rfl⟩
 .have HE:=tK (F5 hi h1 h2)
  obtain⟨b,off,kv,rfl,hia,hb,RU,hc2,HA⟩:=ZB.out.ja i hi
  have⟨y0,y1,y2,y3⟩:=HA w2 (V3.out.trans K2.out)
  obtain⟨pk,nk,ck,rfl⟩:=hia.fz
  have i1:(i:Int)<l.length:=a?
  have i2:(0:Int)<=(i:Int):=a?
  have SA:=tK hia
  clear h1 h2 hia HA hb
  generalize l[i]'hi=A at*
  go_wp2_with fail
  refine MN (v:=.tuple #[.agg #[(A.id,()),A.name,A.size,(pk,nk,ck)],true]) (aj results116 rfl rfl (t:=113) ?_ underlying113 rfl c?) rfl ?_
  .exact O2.out.AJ _ _ _ _
  .have QY:NP [w.heap.size] w2 ((((w2.setCell w (A.id,())).setCell (aa w 1) A.name).setCell (aa w 2) A.size).setCell (aa w 3) (pk,nk,ck)):=NP.fU (NP.refl _ _) (Or.inl b?) _ _ _ _
   have hko:NP [] w ((((w2.setCell w (A.id,())).setCell (aa w 1) A.name).setCell (aa w 2) A.size).setCell (aa w 3) (pk,nk,ck)):=NP.fU K2.out (Or.inr (MG _)) _ _ _ _
   refine qT (kv:=(pk,nk,ck)) HE.out SA.out hko
 .have HE:=tK (F4 h2)
  clear h2
  go_wp2_with fail
  refine MN (v:=.tuple #[.agg #[.int .u32 0,.string {data:=#[]},(0:Int),()],false]) (aj results116 rfl rfl (t:=113) ?_ underlying113 rfl c?) rfl ?_
  .exact O2.out.AJ _ _ _ _
  .exact qT (kv:=()) HE.out (Dm _) (NP.fU K2.out (Or.inr (MG _)) _ _ _ _)
theorem Ac (nm:List UInt8) (kb:Nat) (x:NS) (xv:Value) (w:World) (hk:w.cell? kb=nm) (hs:fP xv):
  am! 119 #[.agg (x.cells xv),kb] w fun e w'=>e=.returned (.bool (x.name==nm))/\NP [] w w':=by
 obtain⟨p,n,c,rfl⟩:=hs
 have oX:=ae.new w (x.cells (p,n,c)) 113
 have k0:NP [] w (w.alloc (.cells (x.cells (p,n,c)) 113)):=(NP.refl _ _).alloc _
 have c0:(w.alloc (.cells (x.cells (p,n,c)) 113)).cell? kb=nm:=Lib.cell?_alloc_some _ hk
 unfold NS.cells at oX k0 c0 ⊢
 have⟨x0,x1,x2,x3⟩:=oX.c4
 have K0:=tK k0
 clear oX k0 hk
 obtain⟨R,hR⟩:∃R,(x.name==nm)=R:=⟨_,rfl⟩
 have⟨g1,g2⟩:=iY x.name nm hR
 rw[hR]
 have HR:=tK hR
 go_enter func119,ntmps119
 go_wp2_with fail
 go_ret
 exact⟨rfl,K0.out⟩
theorem Af (nm:List UInt8) (v:Value) (c:au) (w:World) (h:dJ w v c) (hc:ie c):
  am! 59 #[v,nm] w (lT w (PI (fun x=>x.name==nm) c.names) w):=by
 obtain⟨vb,vm,vn,rfl,hb,hm,hn,_⟩:=h
 obtain⟨p1,c1,rfl⟩:=hb.shape
 obtain⟨p2,c2,rfl⟩:=hm.shape
 obtain⟨p3,c3,rfl⟩:=hn.shape
 have⟨oA,oB,oC⟩:=nA w #[(c.nextBox,()),(c.nextMan,()),(p1,c.boxes.length,c1),(p2,c.mans.length,c2),(p3,c.names.length,c3)] #[nm] #[.int .u32 0,.string {data:=#[]},(0:Int),()] 52 9 113
 have k0:NP [] w (((w.alloc (.cells #[(c.nextBox,()),(c.nextMan,()),(p1,c.boxes.length,c1),(p2,c.mans.length,c2),(p3,c.names.length,c3)] 52)).alloc (.cells #[nm] 9)).alloc (.cells #[.int .u32 0,.string {data:=#[]},(0:Int),()] 113)):=(((NP.refl _ _).alloc _).alloc _).alloc _
 have hcb:=oB.cell 0 b?
 have hf:=xZ (fun x=>x.name==nm) ↑(w+1:Nat) _ c.names w _ k0 hn hc.2.2.1 (fun W q i hi kv hx=>Ac _ (w.heap.size+1) _ kv W ((q.cell (by exact oB.lt) b?).trans hcb) hx.fz)
 unfold lT at hf
 have HF:=tK hf
 have⟨x0,x1,x2,x3,x4⟩:=oA.k5
 have⟨OC,K0⟩:=f? oC k0
 clear hf hcb oA oB oC k0 hb hm hn hc
 generalize PI (fun x=>x.name==nm) c.names=X at*
 have⟨X1,X2⟩:=X
 simp only at HF
 go_enter func59,ntmps59
 go_wp2_with fail
 refine HF.out.mono ?_;rintro e w2 ⟨kv,rfl,hio,k2⟩
 have K2:=tK (K0.out.trans k2)
 have O2:=tK (k2.own OC.out b?)
 have ZW:=tK hio
 obtain⟨pk,nk,ck,rfl⟩:=hio.fz
 have⟨x0,x1,x2,x3⟩:=O2.out.c4
 have⟨f0,f1,f2,f3⟩:=O2.out.z4
 clear hio
 unfold NS.cells
 go_wp2_with fail
 refine MN (v:=.tuple #[.agg #[(X1.id,()),X1.name,X1.size,(pk,nk,ck)],.bool X2]) (aj results59 rfl rfl (t:=113) ?_ underlying113 rfl c?) rfl ?_
 .exact O2.out.AJ _ _ _ _
 .exact⟨(pk,nk,ck),rfl,ZW.out,NP.fU K2.out (Or.inr V?) _ _ _ _⟩
theorem pU (m):∀(fs:List (DK->DK×Int)),(∀f∈fs,∀d,(f d).1.ops<=d.ops+m/\(f d).1.waits.length<=d.waits.length+m/\(f d).1.stand.length=d.stand.length)->∀d,(aG fs d).1.ops<=d.ops+fs.length*m/\(aG fs d).1.waits.length<=d.waits.length+fs.length*m/\(aG fs d).1.stand.length=d.stand.length
 |[],_,d=>⟨by simp[aG],by simp[aG],rfl⟩
 |f::fs,h,d=>by
  have h1:=h f b? d
  have h2:=pU m fs (fun g hg=>h g (by simp[hg])) (f d).1
  unfold aG
  rw[Nj,Nat.add_mul]
  split
  .exact⟨a?,a?,h2.2.2.trans h1.2.2⟩
  .exact⟨a?,a?,h1.2.2⟩
theorem jS (i s d):(aM i s d).1.ops<=d.ops+1/\(aM i s d).1.waits.length<=d.waits.length+1/\(aM i s d).1.stand.length=d.stand.length:=fy d i s
theorem gU (d):(aA d).1.ops<=d.ops+1/\(aA d).1.waits.length<=d.waits.length+1/\(aA d).1.stand.length=d.stand.length:=by
 have⟨h1,h2,h3⟩:=DD d
 exact⟨h1,by show(iO d).waits.length<=_;omega,h3⟩
theorem FK (s d):(cN s d).1.ops<=d.ops+2/\(cN s d).1.waits.length<=d.waits.length+2/\(cN s d).1.stand.length=d.stand.length:=by
 refine pU 1 [aM ((s.seq%2:Nat):Int) s.aT,aA] (fun f hf d=>?_) d
 simp only[List.mem_cons,List.not_mem_nil,or_false]at hf
 rcases hf with rfl|rfl
 .exact jS _ _ _
 .exact gU _
structure VS where
 d:DK
 s:SB
 c:au
 dead:Bool
def bL (b:Nat) (s:SB) (sv:Value) (c:au) (vb vm vn:Value) (dead:Bool):Array Value:=#[b,.int .u64 s.seq,s.sectors,s.journal,s.used,s.size,sv,(c.nextBox,()),(c.nextMan,()),vb,vm,vn,.bool dead]
structure aL (T:List Nat) (w:World) (B b sb mb lo:Nat) (v:VS):Prop where
 da:DA w b sb mb lo v.d
 vol:∃sv vb vm vn,ae w B (bL b v.s sv v.c vb vm vn v.dead) 90/\ep T w b sb mb sv v.s.runs/\dE T w b sb mb (.agg #[(v.c.nextBox,()),(v.c.nextMan,()),vb,vm,vn]) v.c
 hB:B∈T
 hT:∀x∈T,x<w.heap.size
 off:bf [] w b sb mb B
theorem aL.pk {B sb mb lo v d'} (h:aL T w B b sb mb lo v) (k:PK S b sb mb w w') (hD:DA w' b sb mb lo d') (hS:∀x∈S,x∈T) (hBS:B∉S):aL T w' B b sb mb lo ⟨d',v.s,v.c,v.dead⟩:=by
 have⟨sv,vb,vm,vn,h1,h2,h3⟩:=h.vol
 have RT:bf S w b sb mb B:=⟨hBS,h.off.2⟩
 exact⟨hD,⟨sv,vb,vm,vn,k.own h1 RT,h2.pk (k.mono hS),h3.pk (k.mono hS)⟩,h.hB,fun x hx=>MR (h.hT x hx) k.size,⟨b?,(RT.pk k h1.lt).2⟩⟩
def dX (n j:Int):SB:=⟨1,n,j,0,0,[]⟩
theorem qh {n j} (h1:1<=j) (h2:4<=n) (h3:j<=n-2) (h4:n<=8192):(dX n j).may:=
 ⟨⟨MG _,h2,h4,h1,h3,Int.le_refl _,by show(0:Int)<=j*128;omega,Int.le_refl _,by show(0:Int)<=1048576;omega,by show 0<=16;omega⟩,rfl,rfl⟩
def du (j:Int) (d:DK):DK×Int:=aG [aM 0 N9,aM 1 N9,aA,cN (dX d.stand.length j)] d
theorem G8 {T:List Nat} (n g1 g2 g3 g4 g5 g6 gS gD:Nat) (j:Int) (_:Value) {w:World} {b sb mb lo:Nat} {d:DK} (hD:DA w b sb mb lo d) (hT:∀x∈T,x<w.heap.size)
  (on:ae w n #[.func (.func 87) #[] #[g1,g2,g3],.func (.func 87) #[] #[g4,g5,g6],.func (.func 39) #[b] #[],.func (.func 92) #[] #[gS,gD]] 42)
  (h1:ae w g1 #[b] 23) (h2:ae w g2 #[(0:Int)] 3) (h3:ae w g3 #[N9] 9)
  (h4:ae w g4 #[b] 23) (h5:ae w g5 #[(1:Int)] 3) (h6:ae w g6 #[N9] 9)
  (hS:ae w gS ((dX d.stand.length j).cells ()) 58) (hd:ae w gD #[b] 23)
  (f0:bf T w b sb mb n) (f1:bf T w b sb mb g1) (f2:bf T w b sb mb g2) (f3:bf T w b sb mb g3) (f4:bf T w b sb mb g4) (f5:bf T w b sb mb g5) (f6:bf T w b sb mb g6) (fS:bf T w b sb mb gS) (fD:bf T w b sb mb gD)
  (hm:(dX d.stand.length j).may) (ho:d.ops<=80000) (hw:d.waits.length<=8000):
  am! 37 #[.slice (some n) 4 4] w fun e w'=>e=.returned (.int .i64 (du j d).2)/\DA w' b sb mb lo (du j d).1/\PK T b sb mb w w':=by
 refine Ao [aM 0 N9,aM 1 N9,aA,cN (dX d.stand.length j)] [(87,#[],#[g1,g2,g3]),(87,#[],#[g4,g5,g6]),(39,#[b],#[]),(92,#[],#[gS,gD])] rfl n 0 4 hD b? (fun k h=>?_) on.lt f0 (fun k h=>?_) (fun k h W hW hk _=>?_)
 .match k,h with
  |0,_=>exact enters_of func87 c? rfl
  |1,_=>exact enters_of func87 c? rfl
  |2,_=>exact enters_of func39 c? rfl
  |3,_=>exact enters_of func92 c? rfl
 .match k,h with
  |0,_=>exact on.cell 0 b?
  |1,_=>exact on.cell 1 b?
  |2,_=>exact on.cell 2 b?
  |3,_=>exact on.cell 3 b?
 .have e1:=jS 0 N9 d
  have e2:=jS 1 N9 (aM 0 N9 d).1
  have e3:=gU (aM 1 N9 (aM 0 N9 d).1).1
  match k,h with
  |0,_=>
   have:=tH (T:=T) g1 g2 g3 0 N9 hW (hk.own h1 f1) (hk.own h2 f2) (hk.own h3 f3) (by show d.ops<_;omega) C!
   exact this
  |1,_=>
   have:=tH (T:=T) g4 g5 g6 1 N9 hW (hk.own h4 f4) (hk.own h5 f5) (hk.own h6 f6) (by show(aM 0 N9 d).1.ops<_;omega) (by show(aM 0 N9 d).1.waits.length<=_;omega)
   exact this
  |2,_=>exact si hW (by show(aM 1 N9 (aM 0 N9 d).1).1.ops<_;omega) (by show(aM 1 N9 (aM 0 N9 d).1).1.waits.length<=_;omega)
  |3,_=>
   have:=BY (T:=T) gS gD (dX d.stand.length j) () hW (fun x hx=>MR (hT x hx) hk.size) (hk.own hS fS) (hk.own hd fD) (ep.nil none 0) hm (by show 1<_;omega) (fS.pk hk hS.lt) (fD.pk hk hd.lt) (by show(aA (aM 1 N9 (aM 0 N9 d).1).1).1.ops<=_;omega) (by show(aA (aM 1 N9 (aM 0 N9 d).1).1).1.waits.length<=_;omega)
   exact this
def z8 (T:List Nat) (b sb mb lo:Nat) (d:DK) (j:Int) (w:World) (e:Ending) (w':World):Prop:=
 ((j<1\/(d.stand.length:Int)<4\/(d.stand.length:Int)-2<j)/\e=.returned (.tuple #[.pointer none,(1:Int)])/\w=w')\/
 ((1<=j/\4<=(d.stand.length:Int)/\j<=(d.stand.length:Int)-2)/\DA w' b sb mb lo (du j d).1/\PK T b sb mb w w'/\
  (((du j d).2≠0/\e=.returned (.tuple #[.pointer none,.int .i64 (du j d).2]))\/
  ((du j d).2=0/\∃B,w.heap.size<=B/\bf [] w' b sb mb B/\ae w' B (bL b (dX d.stand.length j) () ⟨1,1,[],[],[]⟩ () () () false) 90/\e=.returned (.tuple #[.pointer (some ⟨B,0,none⟩),(0:Int)]))))
theorem M59 (h:A:=by
 go_wp2_with fail
 refine HDL.out.mono ?_;rintro e w' ⟨rfl,rfl⟩
 go_wp2_with fail
 go_ret2
 exact Or.inl ⟨a?,rfl,rfl⟩):A:=h
theorem G7 (j) {w b sb mb lo d} (hD:DA w b sb mb lo d) (hT:∀x∈T,x<w.heap.size) (hj:(Lit.int .i64 j).wf=true) (ho:d.ops<=80000) (hw:d.waits.length<=8000):
  am! 10 #[b,j] w (z8 T b sb mb lo d j w):=by
 have hlen:=hD.len
 have Vf:=XH b sb mb lo d w hD.disk
 have⟨j1,j2⟩:=ko hj
 obtain⟨n,hn⟩:∃n,d.stand.length=n:=⟨_,rfl⟩
 have HA:Hid (1<=j->4<=(n:Int)->j<=(n:Int)-2->∀W,NP [] w W->∀n1 g1 g2 g3 g4 g5 g6 gS gD,w.heap.size<=n1->w.heap.size<=g1->w.heap.size<=g2->w.heap.size<=g3->w.heap.size<=g4->w.heap.size<=g5->w.heap.size<=g6->w.heap.size<=gS->w.heap.size<=gD->
   ae W n1 #[.func (.func 87) #[] #[g1,g2,g3],.func (.func 87) #[] #[g4,g5,g6],.func (.func 39) #[b] #[],.func (.func 92) #[] #[gS,gD]] 42->
   ae W g1 #[b] 23->ae W g2 #[(0:Int)] 3->ae W g3 #[N9] 9->
   ae W g4 #[b] 23->ae W g5 #[(1:Int)] 3->ae W g6 #[N9] 9->
   ae W gS #[.int .u64 1,(n:Int),j,(0:Int),(0:Int),()] 58->ae W gD #[b] 23->
   am! 37 #[.slice (some n1) 4 4] W fun e w'=>e=.returned (.int .i64 (du j d).2)/\DA w' b sb mb lo (du j d).1/\PK T b sb mb W w'):=tK (fun c1 c2 c3 W k n1 g1 g2 g3 g4 g5 g6 gS gD a0 a1 a2 a3 a4 a5 a6 a7 a8 o0 o1 o2 o3 o4 o5 o6 o7 o8=>
  G8 n1 g1 g2 g3 g4 g5 g6 gS gD j () (hD.aJ k) (fun x hx=>MR (hT x hx) k.size) o0 o1 o2 o3 o4 o5 o6 (by rw[hn];exact o7) o8 (hD.bU hT k a0) (hD.bU hT k a1) (hD.bU hT k a2) (hD.bU hT k a3) (hD.bU hT k a4) (hD.bU hT k a5) (hD.bU hT k a6) (hD.bU hT k a7) (hD.bU hT k a8) (by rw[hn];exact qh c1 c2 c3 a?) ho hw)
 have HW:Hid (∀i W,am! 38 #[b,.int .i64 i,N9] W fun e w'=>e=.returned (.func (.func 87) #[] #[.pointer (some ⟨W.heap.size,0,none⟩),.pointer (some ⟨W.heap.size+1,0,none⟩),.pointer (some ⟨W.heap.size+2,0,none⟩)])/\((W.alloc (.cells #[b] 23)).alloc (.cells #[.int .i64 i] 3)).alloc (.cells #[N9] 9)=w'):=tK (fun i W=>BV b i N9 W)
 have HL:Hid (∀W,am! 40 #[b,.agg #[.int .u64 1,(n:Int),j,(0:Int),(0:Int),()]] W fun e w'=>e=.returned (.func (.func 92) #[] #[.pointer (some ⟨W.heap.size+1,0,none⟩),.pointer (some ⟨W.heap.size,0,none⟩)])/\(W.alloc (.cells #[b] 23)).alloc (.cells #[.int .u64 1,(n:Int),j,(0:Int),(0:Int),()] 58)=w'):=tK (fun W=>Gx b (dX n j) () W)
 have⟨HD,HT⟩:=f? hD hT
 rw[hn]at Vf
 have i1:(1:Int)<=n:=a?
 have i2:(n:Int)<=8192:=a?
 have g0:((n:Int)==0)=false:=y?
 unfold z8
 rw[hn]
 have HDL:=tK Vf
 have RO:=qC
 have XL:=yp
 have hHN:=tK hn
 clear hD hT Vf hj hlen hn ho hw
 generalize hF:du j d=F at*
 generalize N9=Z at*
 rcases(by omega:j<1\/(1<=j/\(n:Int)<4)\/(1<=j/\4<=(n:Int)/\(n:Int)-2<j)\/(1<=j/\4<=(n:Int)/\j<=(n:Int)-2))with c1|⟨c1,c2⟩|⟨c1,c2,c3⟩|⟨c1,c2,c3⟩
 .go_enter func10,ntmps10
  exact M59
 .go_enter func10,ntmps10
  exact M59
 .go_enter func10,ntmps10
  exact M59
 .have P8:=tK (HA.out c1 c2 c3)
  have acr:=XL (w.alloc (.cells #[.int .u64 1,(n:Int),j,(0:Int),(0:Int),()] 58))
  rw[Nd]at acr
  clear HA
  go_enter func10,ntmps10
  go_wp2_with fail
  refine HDL.out.mono ?_;rintro e w' ⟨rfl,rfl⟩
  go_upto_region 8 with fail
  have RH:((w.alloc (.cells #[.int .u64 1,(n:Int),j,(0:Int),(0:Int),()] 58)).alloc (.cells (Array.replicate 128 (.int .u8 0)) 5)).heap.size=w.heap.size+1+1:=by simp only[Nd]
  have os1:ae ((w.alloc (.cells #[.int .u64 1,(n:Int),j,(0:Int),(0:Int),()] 58)).alloc (.cells (Array.replicate 128 (.int .u8 0)) 5)) w #[.int .u64 1,(n:Int),j,(0:Int),(0:Int),()] 58:=(ch w #[.int .u64 1,(n:Int),j,(0:Int),(0:Int),()] (Array.replicate 128 (.int .u8 0)) _ _).1
  have k1:NP [] w ((w.alloc (.cells #[.int .u64 1,(n:Int),j,(0:Int),(0:Int),()] 58)).alloc (.cells (Array.replicate 128 (.int .u8 0)) 5)):=((NP.refl [] w).alloc _).alloc _
  generalize ((w.alloc (.cells #[.int .u64 1,(n:Int),j,(0:Int),(0:Int),()] 58)).alloc (.cells (Array.replicate 128 (.int .u8 0)) 5))=w1 at*
  have RT:bf T w1 b sb mb w:=HD.out.bU HT.out k1 (MG _)
  have T9:Hid (b<w1.heap.size):=tK (MR HD.out.bH k1.size)
  have Wa:Hid (∀W,PK T b sb mb w1 W->ae W w #[.int .u64 1,(n:Int),j,(0:Int),(0:Int),()] 58):=tK (fun W k=>k.own os1 RT)
  have⟨x0,x1,x2,x3,x4,x5⟩:=os1.c6
  have⟨K1,TK,aeI⟩:=gg! k1 RH RT
  clear k1 RH os1 RT RO XL acr
  go_cut [9]from 33 to 45 (fun v9 wx=>v9=F.2/\DA wx b sb mb lo F.1/\PK T b sb mb w wx/\ae wx w #[.int .u64 1,(n:Int),j,(0:Int),(0:Int),()] 58)
  case first=>
   refine MK (S:=(fun W=>W.cell? w=some (.int .u64 1)/\W.cell? (aa w 1)=(n:Int)/\W.cell? (aa w 2)=j/\W.cell? (aa w 3)=(0:Int)/\W.cell? (aa w 4)=(0:Int)/\W.cell? (aa w 5)=())) c? (by exact(Wa.out _ (((NP.refl [] w1).drew).eH T9.out)).c6) (fun hHeld=>?_)
   refine tS ?_
   refine rD 2 (fun K hK=>?_)
   go_simp
   ((with_reducible refine(HW.out _ _).mono ?_));rintro e w2 ⟨rfl,rfl⟩
   go_wp2_with fail
   refine hK.out _ _ ((Wa.out _ (((((NP.refl [] w1).alloc _).alloc _).alloc _).drew.eH T9.out)).c6) (fun hHeld=>nM ?_)
   clear hK K
   refine rD 5 (fun K hK=>?_)
   go_simp
   ((with_reducible refine(HW.out _ _).mono ?_));rintro e w2 ⟨rfl,rfl⟩
   go_wp2_with fail
   refine hK.out _ _ ((Wa.out _ ((((((((NP.refl [] w1).alloc _).alloc _).alloc _).alloc _).alloc _).alloc _).drew.eH T9.out)).c6) (fun hHeld=>nM ?_)
   clear hK K
   refine rD 10 (fun K hK=>?_)
   go_simp
   ((with_reducible refine(HL.out _).mono ?_));rintro e w2 ⟨rfl,rfl⟩
   go_wp2_with fail
   refine hK.out _ _ ((Wa.out _ ((((((((((NP.refl [] w1).alloc _).alloc _).alloc _).alloc _).alloc _).alloc _).alloc _).alloc _).drew.eH T9.out)).c6) (fun hHeld=>nM ?_)
   clear hK K
   refine rD 11 (fun K hK=>?_)
   go_simp
   refine hK.out _ _ ((Wa.out _ (((((((((((NP.refl [] w1).alloc _).alloc _).alloc _).alloc _).alloc _).alloc _).alloc _).alloc _).alloc _).drew.eH T9.out)).c6) (fun hHeld=>nM ?_)
   clear hK K
   have⟨o1,o2,o3,o4,o5,o6,o7,o8⟩:=uR w1 #[b] #[(0:Int)] #[Z] #[b] #[(1:Int)] #[Z] #[b] #[.int .u64 1,(n:Int),j,(0:Int),(0:Int),()] 23 3 9 23 3 9 23 58
   have o9:ae (((((((((w1.alloc (.cells #[b] 23)).alloc (.cells #[(0:Int)] 3)).alloc (.cells #[Z] 9)).alloc (.cells #[b] 23)).alloc (.cells #[(1:Int)] 3)).alloc (.cells #[Z] 9)).alloc (.cells #[b] 23)).alloc (.cells #[.int .u64 1,(n:Int),j,(0:Int),(0:Int),()] 58)).alloc (.cells #[.func (.func 87) #[] #[w1.heap.size,↑(w1+1:Nat),↑(w1.heap.size+1+1:Nat)],.func (.func 87) #[] #[↑(w1.heap.size+1+1+1:Nat),↑(w1.heap.size+1+1+1+1:Nat),↑(w1.heap.size+1+1+1+1+1:Nat)],.func (.func 39) #[b] #[],.func (.func 92) #[] #[↑(w1.heap.size+1+1+1+1+1+1+1:Nat),↑(w1.heap.size+1+1+1+1+1+1:Nat)]] 42)) (w1.heap.size+1+1+1+1+1+1+1+1) #[.func (.func 87) #[] #[w1.heap.size,↑(w1+1:Nat),↑(w1.heap.size+1+1:Nat)],.func (.func 87) #[] #[↑(w1.heap.size+1+1+1:Nat),↑(w1.heap.size+1+1+1+1:Nat),↑(w1.heap.size+1+1+1+1+1:Nat)],.func (.func 39) #[b] #[],.func (.func 92) #[] #[↑(w1.heap.size+1+1+1+1+1+1+1:Nat),↑(w1.heap.size+1+1+1+1+1+1:Nat)]] 42:=by have:=ae.new ((((((((w1.alloc (.cells #[b] 23)).alloc (.cells #[(0:Int)] 3)).alloc (.cells #[Z] 9)).alloc (.cells #[b] 23)).alloc (.cells #[(1:Int)] 3)).alloc (.cells #[Z] 9)).alloc (.cells #[b] 23)).alloc (.cells #[.int .u64 1,(n:Int),j,(0:Int),(0:Int),()] 58)) #[.func (.func 87) #[] #[w1.heap.size,↑(w1+1:Nat),↑(w1.heap.size+1+1:Nat)],.func (.func 87) #[] #[↑(w1.heap.size+1+1+1:Nat),↑(w1.heap.size+1+1+1+1:Nat),↑(w1.heap.size+1+1+1+1+1:Nat)],.func (.func 39) #[b] #[],.func (.func 92) #[] #[↑(w1.heap.size+1+1+1+1+1+1+1:Nat),↑(w1.heap.size+1+1+1+1+1+1:Nat)]] 42;simpa only[Nd]using this
   refine rD 12 (fun K hK=>?_)
   go_simp
   ((with_reducible refine(P8.out _ ((K1.out.trans ((((((((((NP.refl [] w1).alloc _).alloc _).alloc _).alloc _).alloc _).alloc _).alloc _).alloc _).alloc _)).drew) _ w1 (w1.heap.size+1) (w1.heap.size+1+1) (w1.heap.size+1+1+1) (w1.heap.size+1+1+1+1) (w1.heap.size+1+1+1+1+1) (w1.heap.size+1+1+1+1+1+1+1) (w1.heap.size+1+1+1+1+1+1) E? E? E? E? E? E? E? E? E? o9.drew (o1.alloc _).drew (o2.alloc _).drew (o3.alloc _).drew (o4.alloc _).drew (o5.alloc _).drew (o6.alloc _).drew (o8.alloc _).drew (o7.alloc _).drew).mono ?_));rintro e w5 ⟨rfl,hD5,k5⟩
   have Sd:=((((((((((((NP.refl [] w1).alloc (.cells #[b] 23)).alloc (.cells #[(0:Int)] 3)).alloc (.cells #[Z] 9)).alloc (.cells #[b] 23)).alloc (.cells #[(1:Int)] 3)).alloc (.cells #[Z] 9)).alloc (.cells #[b] 23)).alloc (.cells #[.int .u64 1,(n:Int),j,(0:Int),(0:Int),()] 58)).alloc (.cells #[.func (.func 87) #[] #[w1.heap.size,↑(w1+1:Nat),↑(w1.heap.size+1+1:Nat)],.func (.func 87) #[] #[↑(w1.heap.size+1+1+1:Nat),↑(w1.heap.size+1+1+1+1:Nat),↑(w1.heap.size+1+1+1+1+1:Nat)],.func (.func 39) #[b] #[],.func (.func 92) #[] #[↑(w1.heap.size+1+1+1+1+1+1+1:Nat),↑(w1.heap.size+1+1+1+1+1+1:Nat)]] 42)).drew).eH (T:=T) (sb:=sb) (mb:=mb) T9.out).trans k5
   have⟨KK1,HD5⟩:=f? Sd hD5
   clear hD5 Sd k5 o1 o2 o3 o4 o5 o6 o7 o8 o9
   go_wp2_with fail
   refine hK.out _ _ ((Wa.out _ KK1.out).c6) (fun hHeld=>nM ?_)
   clear hK K
   refine tS ?_
   refine Ng c? ?_ _
   try simp only[List.set_cons_succ,List.set_cons_zero]
   go_wp2_with fail
   go_meet
   exact⟨rfl,HD5.out,(K1.out.eH HD.out.bH).trans KK1.out,Wa.out _ KK1.out⟩
  case rest=>
   obtain⟨rfl,hD2,kk,os2⟩:=hcut
   rename World=>w2
   have⟨HD2,KK⟩:=f? hD2 kk
   have aa0:Hid (∀W,NP [] w2 W->ae W w #[.int .u64 1,(n:Int),j,(0:Int),(0:Int),()] 58):=tK (fun W k=>k.own os2 b?)
   have HEM:Hid (∀W,am! 41 #[] W fun e w'=>e=.returned (.agg #[.int .u32 1,.int .u32 1,(),(),()])/\NP [] W w'):=tK (fun W=>BM W)
   have HC:Hid (1<=j/\4<=(n:Int)/\j<=(n:Int)-2):=tK ⟨c1,c2,c3⟩
   clear hD2 kk x0 x1 x2 x3 x4 x5 P8 HW HL HDL HT Wa K1 TK aeI T9 c1 c2 c3
   by_cases h0:F.2=0
   .have e0:(F.2==0)=true:=aa!
    have H0:=tK h0
    clear h0
    have QU:∀x∈([]:List Nat),x<w2.heap.size:=fun x hx=>by cases hx
    have Rs:=tK QU
    clear QU
    have⟨x0,x1,x2,x3,x4,x5⟩:=os2.c6
    clear os2
    go_upto_region 11 with fail
    refine MK (S:=(fun W=>W.cell? w=some (.int .u64 1)/\W.cell? (aa w 1)=(n:Int)/\W.cell? (aa w 2)=j/\W.cell? (aa w 3)=(0:Int)/\W.cell? (aa w 4)=(0:Int)/\W.cell? (aa w 5)=())) c? (by exact(aa0.out _ (NP.refl [] w2).drew).c6) (fun hHeld=>?_)
    refine tS ?_
    refine rD 2 (fun K hK=>?_)
    go_simp
    ((with_reducible refine(HEM.out _).mono ?_));rintro e w3 ⟨rfl,k3⟩
    have Ti:=((NP.refl [] w2).drew).trans k3
    have K3:=tK Ti
    clear k3 Ti
    go_wp2_with fail
    refine hK.out _ _ ((aa0.out _ K3.out).c6) (fun hHeld=>nM ?_)
    clear hK K
    refine tS ?_
    refine rD 4 (fun K hK=>?_)
    go_simp
    refine hK.out _ _ ((aa0.out _ ((K3.out.drew).alloc _)).c6) (fun hHeld=>nM ?_)
    clear hK K
    refine tS ?_
    refine Ng c? ?_ _
    try simp only[List.set_cons_succ,List.set_cons_zero]
    go_wp2_with fail
    go_ret2
    have k4:=(K3.out).alloc (.cells (bL b (dX n j) () ⟨1,1,[],[],[]⟩ () () () false) 90)
    refine Or.inr ⟨HC.out,HD2.out.aJ k4,KK.out.trans (k4.eH HD2.out.bH),Or.inr ⟨H0.out,_,Nk KK.out.size K3.out.size,HD2.out.bU (T:=[]) (w':=_) Rs.out k4 K3.out.size,ae.new _ _ _,rfl⟩⟩
   .have e0:(F.2==0)=false:=by rw[Nl];exact h0
    have H0:=tK h0
    clear h0 os2
    go_wp2_with fail
    go_ret2
    exact Or.inr ⟨HC.out,HD2.out,KK.out,Or.inl ⟨H0.out,rfl⟩⟩
theorem yJ {e} (he:e≠0):PD e x≠0:=by
 unfold PD;split<;>assumption
theorem nf {n:Nat} (h:(Ol n l x).2.2=0):x=0/\(Ol n l x).1.length=n/\(Ol n l x).1++(Ol n l x).2.1=l:=by
 unfold Ol at h ⊢
 split at h
 .exact absurd h n?
 .split at h
  .simp at h
  .split at h
   .simp at h
   .rename_i h1 h2 h3
    rw[if_neg h1,if_neg h2,if_neg h3]
    refine⟨P?,by simp;omega,b?⟩
theorem oM (a r) (n:Nat) (h:a.length=n):Ol n (a++r) 0=(a,r,0):=by
 subst h
 unfold Ol
 rw[if_neg b?,if_neg a?,if_neg e?]
 simp
theorem xq (n k r):N6 k (NT n k++r) 0=(n%256^k,r,0):=by
 unfold N6
 rw[oM _ _ _ (ak n k),xA]
theorem FI (m n r) (hm:m<=65536) (h:n<=m):PN m (NT n 4++r) 0=(n,r,0):=by
 unfold PN
 rw[xq,Nat.mod_eq_of_lt a?]
 simp only
 rw[if_neg a?]
theorem B5 (a r) (h:a.length<=65536):dY (dj a++r) 0=(a,r,0):=by
 unfold dY dj
 rw[MW,FI _ _ _ a? h]
 exact oM a r _ rfl
def aK (w:World) (b:Nat) (l:List UInt8) (x:Int):Prop:=∃(S:List UInt8) (at_:Nat),ae w b #[S,(at_:Int),x] 263/\at_<=S.length/\S.length<=1000000/\l=S.drop at_/\(x≠0->l=[])
theorem aK.map (h:aK w b l x) (f:∀cs,ae w b cs 263->ae w' b cs 263):aK w' b l x:=by
 have⟨S,a,o,r⟩:=h;exact⟨S,a,f _ o,r⟩
theorem aK.other (h:aK w b l x) {p:Addr} (hp:b≠p.block) (u):aK (w.setCell p u) b l x:=h.map fun _ k=>k.other hp u
theorem aK.lt (h:aK w b l x):b<w.heap.size:=by
 have⟨S,a,h,_⟩:=h;exact h.lt
theorem aK.kept (h:aK w b l x) (k:NP S w w') (hb:b∉S):aK w' b l x:=by
 have⟨T,a,h1,h2⟩:=h;exact⟨T,a,k.own h1 hb,h2⟩
theorem aK.err (h:aK w b l x):w.cell? (aa b 2)=x:=by
 have⟨T,a,h1,h2⟩:=h;exact h1.cell 2 b?
theorem Ch (b:Nat) (l) (x e:Int) (w) (hR:aK w b l x) (_:e≠0):
  am! 250 #[b,e] w fun r w'=>r=.returned (.tuple #[])/\aK w' b [] (PD e x)/\NP [b] w w':=by
 have⟨S,a,hO,h1,h2,h3,h4⟩:=hR
 have c0:w.cell? b=S:=ae.cell hO 0 b?
 have c1:w.cell? (aa b 1)=(a:Int):=ae.cell hO 1 b?
 have c2:w.cell? (aa b 2)=x:=ae.cell hO 2 b?
 have z0:=ae.free hO 0
 have z1:=ae.free hO 1
 have z2:=ae.free hO 2
 by_cases hx:x=0
 .subst hx
  rw[jf]
  have hd:((0:Int)==0)=true:=rfl
  go_enter func250,ntmps250
  go_wp2_with fail
  go_end0
  refine⟨rfl,⟨S,S.length,?_,MG _,h2,b?,fun _=>rfl⟩,((NP.refl _ _).setCell (Or.inl b?) _).setCell (Or.inl b?) _⟩
  have h5:=(ae.set hO 2 e).set 1 (.int .i64 (bs S).size)
  rw[NQ]at h5 ⊢
  simpa using h5
 .have hd:(x==0)=false:=h?
  rw[s8 hx]
  have hl:=h4 hx
  subst h3
  go_enter func250,ntmps250
  go_wp2_with fail
  go_end0
  exact⟨rfl,⟨S,a,hO,h1,h2,hl.symm,fun _=>rfl⟩,NP.refl _ _⟩
theorem mH (b:Nat) (l) (x n:Int) (w) (hR:aK w b l x):
  am! 203 #[b,n] w fun r w'=>r=.returned (.string (bs (Ol n l x).1))/\aK w' b (Ol n l x).2.1 (Ol n l x).2.2/\NP [b] w w':=by
 have hf:=fun e w1 (h:aK w1 b l x) (he:e≠0)=>Ch b l x e w1 h he
 have UM:=hR
 have⟨S,a,hO,h1,h2,h3,h4⟩:=hR
 have c0:w.cell? b=S:=ae.cell hO 0 b?
 have c1:w.cell? (aa b 1)=(a:Int):=ae.cell hO 1 b?
 have c2:w.cell? (aa b 2)=x:=ae.cell hO 2 b?
 have z1:=ae.free hO 1
 by_cases hx:x=0
 .subst hx
  simp only[jf]at hf
  have hd:((0:Int)==0)=true:=rfl
  by_cases hn:n<0
  .have ht:Ol n l 0=([],[],1):=by simp[Ol,hn]
   rw[ht]
   clear ht
   go_enter func203,ntmps203
   go_wp2_with fail
   refine(hf 1 _ UM d?).mono ?_;rintro e w1 ⟨rfl,hR1,hk⟩
   go_wp2_with fail
   go_ret
   exact⟨rfl,hR1,hk⟩
  .have Wx:0<=n:=a?
   have PW:((bs S).size:Int)=S.length:=ak!
   have YX:l.length=S.length-a:=by rw[h3];simp
   have e1:IntKind.i64.wrap (((bs S).size:Int)-(a:Int))=(l.length:Int):=by rw[IntWalk.i64_in _ a?];omega
   have e1':((bs S).size:Int)-(a:Int)=(l.length:Int):=a?
   have Uq:(l.length:Int)<=1000000:=a?
   by_cases hl:(l.length:Int)<n
   .have ht:Ol n l 0=([],[],10):=by simp[Ol,hn,hl]
    rw[ht]
    clear ht
    go_enter func203,ntmps203
    go_wp2_with fail
    go_quiet (fail)
    go_wp2_with fail
    refine(hf 10 _ ⟨S,a,hO.drewN _,h1,h2,h3,h4⟩ d?).mono ?_;rintro e w1 ⟨rfl,hR1,hk⟩
    go_wp2_with fail
    go_ret
    exact⟨rfl,hR1,((NP.refl _ _).drewN _).trans hk⟩
   .have ht:Ol n l 0=(l.take n.toNat,l.drop n.toNat,0):=by simp[Ol,hn,hl]
    rw[ht]
    obtain⟨k,rfl⟩:=MM Wx
    have e2:IntKind.i64.wrap ((a:Int)+(k:Int))=((a+k:Nat):Int):=by rw[IntWalk.i64_in _ a?];omega
    have e3:(bs S).extract a (a+k)=bs (l.take k):=by rw[aY,h3];simp
    have PY:a+k<=(bs S).size:=a?
    clear ht hf
    go_enter func203,ntmps203
    go_wp2_with fail
    go_quiet (fail)
    go_wp2_with fail
    go_quiet (fail)
    go_wp2_with fail
    go_ret
    refine⟨?_,⟨S,a+k,?_,a?,h2,by rw[h3];simp,fun h=>absurd rfl h⟩,((NP.refl _ _).drewN _).setCell (Or.inl b?) _⟩
    .show Ending.returned (Value.string ((bs S).extract a (a+k)))=_
     rw[e3];rfl
    .have h5:=fun n=>(ae.drewN hO n).set 1 ((a:Int)+k:Int)
     simpa using h5 _
 .have ht:Ol n l x=([],l,x):=by simp[Ol,hx]
  rw[ht]
  have hd:(x==0)=false:=h?
  have UH:(x != 0)=true:=h?
  clear ht
  go_enter func203,ntmps203
  go_wp2_with fail
  go_ret
  exact⟨rfl,UM,NP.refl _ _⟩
theorem Ih (t j) (hj:j<t.length) (hl:t.length<=8) (hb:j<(bs t).size):
  RN (t.drop (j+1))<256^7/\(RN (t.drop (j+1)):Int)*256+((bs t)[j].toNat:Int)=(RN (t.drop j):Int):=by
 have h1:t.drop j=t[j]::t.drop (j+1):=List.drop_eq_getElem_cons hj
 have h2:=mO (t.drop (j+1))
 have h3:(256:Nat)^(t.drop (j+1)).length<=256^7:=Nat.pow_le_pow_right d? e?
 refine⟨a?,?_⟩
 rw[h1,RN]
 have hg:(bs t)[j]=t[j]:=rfl
 rw[hg];omega
theorem sD (b k:Nat) (l) (x:Int) (w) (hR:aK w b l x) (hk:k<=8):
  am! 202 #[b,(k:Int)] w fun r w'=>r=.returned (.int .u64 (N6 k l x).1)/\aK w' b (N6 k l x).2.1 (N6 k l x).2.2/\NP [b] w w':=by
 have ht:=mH b l x k w hR
 have UY:=lZ k l x
 unfold N6
 generalize Ol (k:Int) l x=t at*
 have hlen:t.1.length<=8:=a?
 have PW:((bs t.1).size:Int)=t.1.length:=ak!
 have aeM:(bs t.1).size=t.1.length:=ak!
 go_enter func202,ntmps202
 go_wp2_with fail
 refine ht.mono ?_;rintro e w1 ⟨rfl,hR1,OP⟩
 go_wp2_with fail
 go_loop [6,7] (fun v i=>∃j:Nat,j<=t.1.length/\i=((j:Int)-1:Int)/\v=.int .u64 (RN (t.1.drop j))) (fun _ i=>(intOf i+1).toNat)
 case atStart=>exact⟨t.1.length,MG _,j?,by simp[RN]⟩
 case round=>
  obtain⟨j,hj,rfl,rfl⟩:=hrel
  by_cases NV:0<j
  .obtain⟨i,rfl⟩:∃i,j=i+1:=⟨j-1,a?⟩
   have Rr:i<(bs t.1).size:=a?
   have⟨g1,g2⟩:=Ih t.1 i a? hlen Rr
   have Ox:=tK g2
   have g3:(bs t.1)[i].toNat<256:=(bs t.1)[i].toNat_lt
   clear g2
   go_wp2_with fail
   go_round
   case rel=>exact⟨i,a?,j?,by rw[<-Ox.out]⟩
   case measure=>simp[intOf]
  .have Oy:Hid (t.1.drop j=t.1):=by
    show t.1.drop j=t.1
    rw[show j=0 from by omega];rfl
   go_wp2_with fail
   go_ret
   exact⟨by show Ending.returned (Value.int .u64 (RN (t.1.drop j)))=_;rw[Oy.out],hR1,OP⟩
theorem Jj (b l x w) (hR:aK w b l x):
  am! 285 #[b] w fun r w'=>r=.returned (.string (bs (dY l x).1))/\aK w' b (dY l x).2.1 (dY l x).2.2/\NP [b] w w':=by
 have hn:am! 202 #[b,(4:Int)] w fun r w'=>r=.returned (.int .u64 (N6 4 l x).1)/\aK w' b (N6 4 l x).2.1 (N6 4 l x).2.2/\NP [b] w w':=sD b 4 l x w hR a?
 have hb:=cp 4 l x
 have Q3:((N6 4 l x).1:Int)<4294967296:=a?
 unfold dY PN
 simp only
 generalize N6 4 l x=u at*
 clear hb
 by_cases NV:65536<u.1
 .rw[if_pos NV]
  have YD:PD 2 u.2.2≠0:=yJ d?
  have e1:Ol (0:Nat) [] (PD 2 u.2.2)=([],[],PD 2 u.2.2):=if_pos YD
  simp only[e1]
  have ht:=fun w1 (h:aK w1 b [] (PD 2 u.2.2))=>mH b [] (PD 2 u.2.2) u.1 w1 h
  have e2:Ol (u.1:Int) [] (PD 2 u.2.2)=([],[],PD 2 u.2.2):=if_pos YD
  rw[e2]at ht
  have hf:=fun w1 (h:aK w1 b u.2.1 u.2.2)=>Ch b u.2.1 u.2.2 2 w1 h d?
  generalize PD 2 u.2.2=ke at*
  have Zv:(65536:Int)<u.1:=a?
  clear e1 e2 NV
  go_enter func285,ntmps285
  go_wp2_with fail
  refine hn.mono ?_;rintro e w1 ⟨rfl,hR1,OP⟩
  go_wp2_with fail
  refine(hf _ hR1).mono ?_;rintro e w2 ⟨rfl,Qn,PY⟩
  go_wp2_with fail
  refine(ht _ Qn).mono ?_;rintro e w3 ⟨rfl,Q4,P6⟩
  go_wp2_with fail
  go_ret
  exact⟨rfl,Q4,(OP.trans PY).trans P6⟩
 .rw[if_neg NV]
  have ht:=fun w1 (h:aK w1 b u.2.1 u.2.2)=>mH b u.2.1 u.2.2 u.1 w1 h
  generalize Ol (u.1:Int) u.2.1 u.2.2=t at*
  have Zv:(u.1:Int)<=65536:=a?
  have hun:(0:Int)<=u.1:=a?
  clear NV
  generalize (u.1:Int)=n at*
  go_enter func285,ntmps285
  go_wp2_with fail
  refine hn.mono ?_;rintro e w1 ⟨rfl,hR1,OP⟩
  go_wp2_with fail
  refine(ht _ hR1).mono ?_;rintro e w3 ⟨rfl,Q4,P6⟩
  go_wp2_with fail
  go_ret
  exact⟨rfl,Q4,OP.trans P6⟩
theorem Jk (b l x w) (hR:aK w b l x):
  am! 201 #[b] w fun r w'=>r=(l.length:Int)/\∃n,w'=w.drewN n:=by
 have⟨S,a,hO,h1,h2,h3,h4⟩:=hR
 have c0:w.cell? b=S:=ae.cell hO 0 b?
 have c1:w.cell? (aa b 1)=(a:Int):=ae.cell hO 1 b?
 have PW:((bs S).size:Int)=S.length:=ak!
 have YX:l.length=S.length-a:=by rw[h3];simp
 have e1:IntKind.i64.wrap (((bs S).size:Int)-(a:Int))=(l.length:Int):=by rw[IntWalk.i64_in _ a?];omega
 have Oy:Hid ((S.length:Int)-(a:Int)=(l.length:Int)):=by show(S.length:Int)-(a:Int)=(l.length:Int);omega
 clear h3 h4
 go_enter func201,ntmps201
 go_wp2_with fail
 go_quiet (fail)
 go_wp2_with fail
 go_ret
 exact⟨by show Ending.returned (Value.int .i64 ((S.length:Int)-a))=_;rw[Oy.out],_,rfl⟩
theorem M66 (h:A:=by
 go_enter func253,ntmps253
 go_wp2_with fail
 go_quiet (fail)
 go_wp2_with fail
 go_ret
 exact⟨rfl,_,rfl⟩):A:=h
theorem Gz (b l x w) (hR:aK w b l x):
  am! 253 #[b] w fun r w'=>r=(fM l x:Int)/\∃n,w'=w.drewN n:=by
 have⟨S,a,hO,h1,h2,h3,h4⟩:=hR
 have c0:w.cell? b=S:=ae.cell hO 0 b?
 have c1:w.cell? (aa b 1)=(a:Int):=ae.cell hO 1 b?
 have c2:w.cell? (aa b 2)=x:=ae.cell hO 2 b?
 have PW:((bs S).size:Int)=S.length:=ak!
 have YX:l.length=S.length-a:=by rw[h3];simp
 by_cases hx:x=0
 .subst hx
  have hd:decide ((0:Int)=0)=true:=rfl
  have UH:((0:Int)==0)=true:=rfl
  by_cases hl:l=[]
  .have he:fM l 0=0:=by simp[fM,hl]
   have NV:¬((a:Int)<((bs S).size:Int)):=by rw[hl]at YX;simp at YX;omega
   have US:decide ((a:Int)<((bs S).size:Int))=false:=MS NV
   rw[he]
   clear h3 h4 YX hl
   exact M66
  .have he:fM l 0=7:=by simp[fM,hl]
   have NV:((a:Int)<((bs S).size:Int)):=by have:0<l.length:=Nu.2 hl;omega
   have US:decide ((a:Int)<((bs S).size:Int))=true:=MV NV
   rw[he]
   clear h3 h4 YX hl
   exact M66
 .have he:fM l x=x:=by simp[fM,hx]
  have hd:(x==0)=false:=h?
  have UH:decide (x=0)=false:=h?
  rw[he]
  clear h3 h4 YX
  exact M66
end
section
open Go.Proofs.Tryz Go.RowKit
def bQ (l:List (Int×Int)):List UInt8:=(l.map fun r=>NT r.1.toNat 2++NT r.2.toNat 2).flatten
theorem qO (l:List (Int×Int)) (k:Nat) (h:k<l.length):bQ (l.take (k+1))=bQ (l.take k)++(NT l[k].1.toNat 2++NT l[k].2.toNat 2):=by
 unfold bQ;rw[MI h,M0,Nv]
 congr 1
theorem nO (l):(bQ l).length=4*l.length:=by
 induction l with
 |nil=>rfl
 |cons a l ih=>simp only[bQ,List.map_cons,List.flatten_cons,tN,ak,Nj]at*;omega
def cq (l:List (Int×Int)):List UInt8:=NT l.length 2++bQ l
def OD (r:ag):List UInt8:=NT r.kind.toNat 1++((if S4 r.kind then NT r.id.toNat 4 else[])++((if Px r.kind then dj r.name else[])++(if Oj r.kind then NT r.size.toNat 4++cq r.runs else[])))
theorem adA {A:Prop}(h:A:=by
 have:IntKind.u64.wrap (n:Int)=(n:Int)%18446744073709551616:=c!
 rw[this];omega):A:=h
theorem bC (n:Nat) (h:n<18446744073709551616):IntKind.u64.wrap (n:Int)=n:=by
 exact adA
theorem rK (n:Nat) (h:n<4294967296):IntKind.u32.wrap (n:Int)=n:=by
 have:IntKind.u32.wrap (n:Int)=(n:Int)%4294967296:=c!
 rw[this];omega
theorem nN (n:Nat) (h:n<65536):IntKind.u16.wrap (n:Int)=n:=by
 have:IntKind.u16.wrap (n:Int)=(n:Int)%65536:=c!
 rw[this];omega
theorem qu (n:Nat) (w) (hn:n<18446744073709551616):
  am! 214 #[.int .u64 n,(1:Int)] w fun e w'=>e=.returned (.string (bs (NT n 1)))/\NP [] w w':=ry 1 n w hn a?
theorem Bh (n:Nat) (w) (hn:n<18446744073709551616):
  am! 214 #[.int .u64 n,(2:Int)] w fun e w'=>e=.returned (.string (bs (NT n 2)))/\NP [] w w':=ry 2 n w hn a?
theorem fR (n:Nat) (w) (hn:n<18446744073709551616):
  am! 214 #[.int .u64 n,(4:Int)] w fun e w'=>e=.returned (.string (bs (NT n 4)))/\NP [] w w':=ry 4 n w hn a?
def dL (l:List (Int×Int)):Prop:=l.length<=16/\∀k (hk:k<l.length),0<=l[k].1/\l[k].1<65536/\0<=l[k].2/\l[k].2<65536
structure gB (r:ag):Prop where
 k1:1<=r.kind
 k6:r.kind<=6
 i0:0<=r.id
 i1:r.id<=4294967294
 nm:r.name.length<=48
 s0:0<=r.size
 s1:r.size<=1048576
 rf:dL r.runs
theorem Ht {l n} (h:iD l n=true):0<=n/\n<=1048576/\dL l:=by
 unfold iD at h
 simp only[No,decide_eq_true_eq]at h
 have⟨h1,h2,h3,h4,_⟩:=h
 refine⟨h2,h3,h1,fun k hk=>?_⟩
 have:=dN.1 (fJ (MG _) h4 k hk)
 omega
theorem jU {r} (h:az r=true) (hf:r.fits):gB r:=by
 unfold az gq at h
 simp only[No,decide_eq_true_eq]at h
 have⟨h1,h2,h3,h4,h5,h6,h7⟩:=h
 have⟨p1,p2,p3⟩:=Ht h7
 have⟨i0,_⟩:=eG hf.2.1
 have hk:1<=r.kind/\r.kind<=6:=by
  unfold S4 Px at h1
  simp only[Bool.or_eq_true,beq_iff_eq]at h1
  omega
 exact⟨hk.1,hk.2,i0,h3,h5,p1,p2,p3⟩
theorem qj (v l lo hi w) (h:af w v l lo hi) (hl:dL l):
  am! 265 #[v] w fun e w'=>e=.returned (.string (bs (cq l)))/\NP [] w w':=by
 have⟨hl,hlo⟩:=hl
 obtain⟨p,c,rfl⟩:=h.shape
 have w5:=bC l.length a?
 have h5:=fun W=>Bh l.length W a?
 have⟨H5,H,Ss⟩:=gg! h5 h hlo
 have Tg:(l.length:Int)<=16:=a?
 clear h5 h hlo
 go_enter func265,ntmps265
 go_wp2_with fail
 refine(H5.out _).mono ?_;rintro e w1 ⟨rfl,OP⟩
 clear w5
 go_wp2_with fail
 go_loopw [3,4] (fun t i wr=>∃k:Nat,k<=l.length/\i=(k:Int)/\t=.string (bs (NT l.length 2++bQ (l.take k)))/\NP [] w wr) (fun _ i _=>l.length-(intOf i).toNat)
 case atStart=>exact⟨0,a?,rfl,by simp[bQ],OP⟩
 case round=>
  obtain⟨k,hk,rfl,rfl,hK⟩:=hrel
  by_cases NV:k<l.length
  .obtain⟨b',off,rfl,c0,c1,UR,hlc,PT⟩:=(H.out.kept0 hK).at_ k NV
   have Tj:=Ss.out k NV
   have Vw:=qO l k NV
   have⟨n1,QX⟩:=MM Tj.1
   have⟨n2,QU⟩:=MM Tj.2.2.1
   rw[QX]at c0 Vw Tj
   rw[QU]at c1 Vw Tj
   rw[Nw,Nw]at Vw
   have Tz:Hid (bs (NT l.length 2++bQ (l.take k))++bs (NT n1 2)++bs (NT n2 2)=bs (NT l.length 2++bQ (l.take (k+1)))):=by
    show _=_;rw[aw,aw,Vw];simp only[MW]
   have e1:=bC n1 a?
   have e2:=bC n2 a?
   have y1:(bs (NT n1 2)).size=2:=q?
   have y2:(bs (NT n2 2)).size=2:=q?
   have y0:(bs (NT l.length 2++bQ (l.take k))).size<=1000:=by rw[NQ,tN,ak,nO,MO];omega
   have hh:=fun(n:Nat) W (hn:n<18446744073709551616) (hkx:NP [] wr W)=>(Bh n W hn).mono fun e w' hh=>(show e=.returned (.string (bs (NT n 2)))/\NP [] wr w'/\(w'.cell? (aa b' (off+k*2))=(n1:Int)/\w'.cell? (aa b' (off+k*2+1))=(n2:Int))from⟨hh.1,hkx.trans hh.2,by
    have Xm:=hkx.trans hh.2
    refine⟨?_,?_⟩
    .rw[Xm.cell UR b?];exact c0
    .rw[Xm.cell UR b?];exact c1⟩)
   have g1:=fun W hk=>hh n1 W a? hk
   have g2:=fun W hk=>hh n2 W a? hk
   have⟨G1,G2⟩:=f? g1 g2
   have i1:(k:Int)<l.length:=a?
   have Of:=tK NV
   clear Vw QX QU hh g1 g2
   generalize bs (NT l.length 2++bQ (l.take k))=T0 at*
   generalize hT1:bs (NT l.length 2++bQ (l.take (k+1)))=T1 at*
   have Wf:=tK hT1
   clear hT1
   generalize bs (NT n1 2)=M1 at*
   generalize bs (NT n2 2)=M2 at*
   have yy:(T0++M1).size=T0.size+M1.size:=ByteArray.size_append
   have qc1:∀W,(Op.stringOp .add T0 M1).run prog W=.ok (.string (T0++M1)) W:=fun W=>by first|(simp[Op.stringOp];omega)
   have qc2:∀W,(Op.stringOp .add (T0++M1) M2).run prog W=.ok (.string (T0++M1++M2)) W:=fun W=>by first|(simp[Op.stringOp];omega)
   clear yy
   go_wp2_with fail
   go_region_held3 (fun w'=>w'.cell? (aa b' (off+k*2))=(n1:Int)/\w'.cell? (aa b' (off+k*2+1))=(n2:Int)) (go_keep)
    (first
     |(go_at_call 214;((with_reducible refine(G1.out _ ?_).mono ?_));(first|exact NP.refl _ _|exact(NP.refl _ _).drew|exact(NP.refl _ _).drewN _);rintro e w1 ⟨rfl,Sd,q0,q1⟩)
     |(go_at_call 214;((with_reducible refine(G2.out _ ?_).mono ?_));(first|exact Sd|exact Sd.drew|exact Sd.drewN _);rintro e w1 ⟨rfl,kk2,q0,q1⟩))
   all_goals go_wp2_with fail
   all_goals go_roundw
   all_goals first
    |exact⟨k+1,Of.out,j?,by rw[Wf.out,<-Tz.out],hK.trans t!⟩
    |(have hh:=Of.out;simp[intOf];omega)
  .obtain rfl:k=l.length:=a?
   rw[MU]
   go_wp2_with fail
   go_ret
   exact⟨rfl,hK⟩
theorem df (l):(dj l).length=4+l.length:=by unfold dj;rw[tN,ak]
theorem uf {A:Prop} (h:A:=by
 go_enter func101,ntmps101
 go_wp2_with fail
 refine(HJ.out _).mono ?_;rintro e w' ⟨rfl,rfl⟩
 go_wp2_with fail
 refine(H8.out _).mono ?_;rintro e w1 ⟨rfl,k1⟩
 have o1:=k1.own o0 b?
 have⟨a0,a1,a2,a3,a4⟩:=o1.c5
 go_wp2_with fail
 refine(S5.out _).mono ?_;rintro e w2 ⟨rfl,k2⟩
 have oP:=k2.own o1 b?
 have⟨b0,b1,b2,b3,b4⟩:=oP.c5
 have kP:=(k0.trans k1).trans k2
 clear a0 a1 a2 a3 a4 o1 o0 HJ H8 S5
 go_wp2_with fail
 generalize hT0:M8++M9=T0 at*
 have t0:T0.size<=100:=by rw[YL.out,NQ];exact Rf.out
 clear hT0
 have aba:Hid (T0++(bs (NT z 4)++bs (NT runs.length 2))=bs (PR++(NT z 4++(NT runs.length 2++bQ (runs.take 0))))):=tK (by
  rw[YL.out,aw,aw]
  simp[bQ])
 have y1:(bs (NT z 4)).size=4:=q?
 have y2:(bs (NT runs.length 2)).size=2:=q?
 have hz:=fun W=>eU z W a?
 have hn:=fun W=>mM runs.length W a?
 have⟨HZ,HN⟩:=f? hz hn
 have e1:=rK z a?
 have e2:=nN runs.length a?
 clear hz hn
 generalize bs (NT z 4)=M1 at*
 generalize bs (NT runs.length 2)=M2 at*
 have yy:(M1++M2).size=M1.size+M2.size:=ByteArray.size_append
 have qc1:∀W,(Op.stringOp .add M1 M2).run prog W=.ok (.string (M1++M2)) W:=fun W=>by first|(simp[Op.stringOp];omega)
 have qc2:∀W,(Op.stringOp .add T0 (M1++M2)).run prog W=.ok (.string (T0++(M1++M2))) W:=fun W=>by first|(simp[Op.stringOp];omega)
 clear yy
 have kk:=kP.drew
 have ob:=oP.drew
 go_region_held3 (fun W=>W.cell? ⟨w.heap.size,3,none⟩=some (.int .i64 (z:Int))/\W.cell? ⟨w.heap.size,4,none⟩=some (.slice p runs.length c)) (go_keep)
  (first
   |(go_at_call 102;((with_reducible refine(HZ.out _).mono ?_));rintro e w' ⟨rfl,k'⟩;have kk:=kk.trans k';have ob:=k'.own ob b?;have⟨c0,c1,c2,c3,c4⟩:=ob.c5)
   |(go_at_call 100;((with_reducible refine(HN.out _).mono ?_));rintro e w' ⟨rfl,k'⟩;have kk:=kk.trans k';have ob:=k'.own ob b?;have⟨c0,c1,c2,c3,c4⟩:=ob.c5))
 all_goals
  clear qc1 qc2 e1 e2
  have hs:=(show Hid (w'.heap.size=w'.heap.size)from rfl)
  go_wp2_with fail
  go_loopw [6,48] (fun t ii wr=>∃k:Nat,k<=runs.length/\ii=.int .i64 k/\t=.string (bs (PR++(NT z 4++(NT runs.length 2++bQ (runs.take k)))))/\NP [] w wr) (fun _ ii _=>runs.length-(intOf ii).toNat)
  case atStart=>exact⟨0,a?,rfl,congrArg Value.string aba.out,kk⟩
  case round=>
   obtain⟨k,hk,rfl,rfl,hK⟩:=hrel
   by_cases NV:k<runs.length
   .obtain⟨b',off,rfl,g0,g1,UR,hlc,PT⟩:=(H.out.kept0 hK).at_ k NV
    have Tj:=Ss.out k NV
    have Vw:=qO runs k NV
    have⟨n1,QX⟩:=MM Tj.1
    have⟨n2,QU⟩:=MM Tj.2.2.1
    rw[QX]at g0 Vw Tj
    rw[QU]at g1 Vw Tj
    rw[Nw,Nw]at Vw
    have Tz:Hid (bs (PR++(NT z 4++(NT runs.length 2++bQ (runs.take k))))++(bs (NT n1 2)++bs (NT n2 2))=bs (PR++(NT z 4++(NT runs.length 2++bQ (runs.take (k+1)))))):=by
     show _=_;rw[aw,aw,Vw];simp only[MW]
    have e1:=nN n1 a?
    have e2:=nN n2 a?
    have y1:(bs (NT n1 2)).size=2:=q?
    have y2:(bs (NT n2 2)).size=2:=q?
    have y0:(bs (PR++(NT z 4++(NT runs.length 2++bQ (runs.take k))))).size<=1000:=by rw[NQ];simp[ak,nO];have:=Rf.out;omega
    have h1:=fun W=>mM n1 W a?
    have h2:=fun W=>mM n2 W a?
    have⟨G1,G2⟩:=f? h1 h2
    have i1:(k:Int)<runs.length:=a?
    have Of:=tK NV
    have oR:=ae.new wr #[.int .i64 (n1:Int),.int .i64 (n2:Int)] 128
    have kR:NP [] w (wr.alloc (.cells #[.int .i64 (n1:Int),.int .i64 (n2:Int)] 128)):=hK.alloc _
    clear Vw QX QU h1 h2
    generalize bs (PR++(NT z 4++(NT runs.length 2++bQ (runs.take k))))=S0 at*
    generalize hT1:bs (PR++(NT z 4++(NT runs.length 2++bQ (runs.take (k+1)))))=T1 at*
    have Wf:=tK hT1
    clear hT1
    generalize bs (NT n1 2)=N1 at*
    generalize bs (NT n2 2)=N2 at*
    have yy:(N1++N2).size=N1.size+N2.size:=ByteArray.size_append
    have qc1:∀W,(Op.stringOp .add N1 N2).run prog W=.ok (.string (N1++N2)) W:=fun W=>by first|(simp[Op.stringOp];omega)
    have qc2:∀W,(Op.stringOp .add S0 (N1++N2)).run prog W=.ok (.string (S0++(N1++N2))) W:=fun W=>by first|(simp[Op.stringOp];omega)
    clear yy
    go_wp2_with fail
    have kq:=kR.drew
    have oq:=oR.drew
    go_region_held3 (fun W=>W.cell? ⟨wr.heap.size,0,none⟩=some (.int .i64 (n1:Int))/\W.cell? ⟨wr.heap.size,1,none⟩=some (.int .i64 (n2:Int))) (first|go_keep|((have qq:=oq.c2;exact qq)))
     (first
      |(go_at_call 100;((with_reducible refine(G1.out _).mono ?_));rintro e w' ⟨rfl,k'⟩;have kq:=kq.trans k';have oq:=k'.own oq b?;have⟨x0,x1⟩:=oq.c2)
      |(go_at_call 100;((with_reducible refine(G2.out _).mono ?_));rintro e w' ⟨rfl,k'⟩;have kq:=kq.trans k';have oq:=k'.own oq b?;have⟨x0,x1⟩:=oq.c2))
    all_goals
     go_wp2_with fail
     go_roundw
     case rel=>exact⟨k+1,Of.out,j?,by rw[Wf.out,<-Tz.out],kq⟩
     case measure=>(have hh:=Of.out;simp[intOf];omega)
   .obtain rfl:k=runs.length:=a?
    rw[MU]
    have Oy:Hid (bs (PR++(NT z 4++(NT runs.length 2++bQ runs)))=bs RL):=tK (by
     rw[RE.out];unfold cq;simp only[MW])
    go_wp2_with fail
    go_ret
    exact⟨by rw[<-Oy.out];rfl,hK⟩):A:=h
theorem xC {A:Prop} (h:A:=by
 go_enter func101,ntmps101
 go_wp2_with fail
 refine(HJ.out _).mono ?_;rintro e w' ⟨rfl,rfl⟩
 go_wp2_with fail
 refine(H8.out _).mono ?_;rintro e w1 ⟨rfl,k1⟩
 have o1:=k1.own o0 b?
 have⟨a0,a1,a2,a3,a4⟩:=o1.c5
 go_wp2_with fail
 refine(S5.out _).mono ?_;rintro e w2 ⟨rfl,k2⟩
 have oP:=k2.own o1 b?
 have⟨b0,b1,b2,b3,b4⟩:=oP.c5
 have kP:=(k0.trans k1).trans k2
 clear a0 a1 a2 a3 a4 o1 o0 HJ H8 S5
 go_wp2_with fail
 go_ret
 exact⟨by rw[RE.out,YL.out];rfl,kP⟩):A:=h
theorem Cq (i z:Nat) (name runs):OD ⟨1,i,name,z,runs⟩=NT 1 1++(NT i 4++(NT z 4++cq runs)):=by
 unfold OD
 rw[show S4 (ag.mk 1 i name z runs).kind=true from rfl,show Px (ag.mk 1 i name z runs).kind=false from rfl,show Oj (ag.mk 1 i name z runs).kind=true from rfl]
 simp
theorem Fd (i z:Nat) (name:List UInt8) (runs:List (Int×Int)) (v:Value) (lo hi:Nat) (w:World) (h:af w v runs lo hi) (PC:i<4294967296) (Qc:z<=1048576) (_:name.length<=48) (hrf:dL runs):
  am! 101 #[.agg #[(1:Int),.int .u32 (i:Int),name,(z:Int),v]] w fun e w'=>e=.returned (.string (bs (OD ⟨1,i,name,z,runs⟩)))/\NP [] w w':=by
 obtain⟨p,c,rfl⟩:=h.shape
 have⟨RV,hlo⟩:=hrf
 have hj:=fun W=>pJ 1 W
 have h8:=fun W=>mL 1 W d?
 have QO:=fun W=>eU i W PC
 skip
 have o0:=ae.new w #[(1:Int),.int .u32 (i:Int),name,(z:Int),(p,runs.length,c)] 102
 have k0:NP [] w (w.alloc (.cells #[(1:Int),.int .u32 (i:Int),name,(z:Int),(p,runs.length,c)] 102)):=(NP.refl _ _).alloc _
 have Rg:=Cq i z name runs
 have s1:(bs (NT 1 1)).size=1:=q?
 have s2:(bs (NT i 4)).size<=60:=W?
 have Tg:(runs.length:Int)<=16:=a?
 have⟨HJ,H8,S5,H,Ss⟩:=gi! hj h8 QO h hlo
 clear hj h8 QO h hlo
 obtain⟨PR,hPR⟩:∃x,x=NT 1 1++NT i 4:=⟨_,rfl⟩
 have RE:Hid (OD ⟨1,i,name,z,runs⟩=PR++(NT z 4++cq runs)):=tK Q!
 have Rf:Hid (PR.length<=100):=tK A?
 have YL:Hid (bs (NT 1 1)++bs (NT i 4)=bs PR):=tK ad!
 clear Rg hPR
 generalize bs (NT 1 1)=M8 at*
 generalize bs (NT i 4)=M9 at*
 generalize OD ⟨1,i,name,z,runs⟩=RL at*
 exact uf
theorem Cp (i z:Nat) (name runs):OD ⟨2,i,name,z,runs⟩=NT 2 1++(NT i 4++(NT z 4++cq runs)):=by
 unfold OD
 rw[show S4 (ag.mk 2 i name z runs).kind=true from rfl,show Px (ag.mk 2 i name z runs).kind=false from rfl,show Oj (ag.mk 2 i name z runs).kind=true from rfl]
 simp
theorem FR (i z:Nat) (name:List UInt8) (runs:List (Int×Int)) (v:Value) (lo hi:Nat) (w:World) (h:af w v runs lo hi) (PC:i<4294967296) (Qc:z<=1048576) (_:name.length<=48) (hrf:dL runs):
  am! 101 #[.agg #[(2:Int),.int .u32 (i:Int),name,(z:Int),v]] w fun e w'=>e=.returned (.string (bs (OD ⟨2,i,name,z,runs⟩)))/\NP [] w w':=by
 obtain⟨p,c,rfl⟩:=h.shape
 have⟨RV,hlo⟩:=hrf
 have hj:=fun W=>pJ 2 W
 have h8:=fun W=>mL 2 W d?
 have QO:=fun W=>eU i W PC
 skip
 have o0:=ae.new w #[(2:Int),.int .u32 (i:Int),name,(z:Int),(p,runs.length,c)] 102
 have k0:NP [] w (w.alloc (.cells #[(2:Int),.int .u32 (i:Int),name,(z:Int),(p,runs.length,c)] 102)):=(NP.refl _ _).alloc _
 have Rg:=Cp i z name runs
 have s1:(bs (NT 2 1)).size=1:=q?
 have s2:(bs (NT i 4)).size<=60:=W?
 have Tg:(runs.length:Int)<=16:=a?
 have⟨HJ,H8,S5,H,Ss⟩:=gi! hj h8 QO h hlo
 clear hj h8 QO h hlo
 obtain⟨PR,hPR⟩:∃x,x=NT 2 1++NT i 4:=⟨_,rfl⟩
 have RE:Hid (OD ⟨2,i,name,z,runs⟩=PR++(NT z 4++cq runs)):=tK Q!
 have Rf:Hid (PR.length<=100):=tK A?
 have YL:Hid (bs (NT 2 1)++bs (NT i 4)=bs PR):=tK ad!
 clear Rg hPR
 generalize bs (NT 2 1)=M8 at*
 generalize bs (NT i 4)=M9 at*
 generalize OD ⟨2,i,name,z,runs⟩=RL at*
 exact uf
theorem Co (i z:Nat) (name runs):OD ⟨3,i,name,z,runs⟩=NT 3 1++(dj name++(NT z 4++cq runs)):=by
 unfold OD
 rw[show S4 (ag.mk 3 i name z runs).kind=false from rfl,show Px (ag.mk 3 i name z runs).kind=true from rfl,show Oj (ag.mk 3 i name z runs).kind=true from rfl]
 simp
theorem FQ (i z:Nat) (name:List UInt8) (runs:List (Int×Int)) (v:Value) (lo hi:Nat) (w:World) (h:af w v runs lo hi) (_:i<4294967296) (Qc:z<=1048576) (Rb:name.length<=48) (hrf:dL runs):
  am! 101 #[.agg #[(3:Int),.int .u32 (i:Int),name,(z:Int),v]] w fun e w'=>e=.returned (.string (bs (OD ⟨3,i,name,z,runs⟩)))/\NP [] w w':=by
 obtain⟨p,c,rfl⟩:=h.shape
 have⟨RV,hlo⟩:=hrf
 have hj:=fun W=>pJ 3 W
 have h8:=fun W=>mL 3 W d?
 have QO:=fun W=>xl (bs name) W P!
 rw[cC]at QO
 have o0:=ae.new w #[(3:Int),.int .u32 (i:Int),name,(z:Int),(p,runs.length,c)] 102
 have k0:NP [] w (w.alloc (.cells #[(3:Int),.int .u32 (i:Int),name,(z:Int),(p,runs.length,c)] 102)):=(NP.refl _ _).alloc _
 have Rg:=Co i z name runs
 have s1:(bs (NT 3 1)).size=1:=q?
 have s2:(bs (dj name)).size<=60:=by rw[NQ];rw[df];omega
 have Tg:(runs.length:Int)<=16:=a?
 have⟨HJ,H8,S5,H,Ss⟩:=gi! hj h8 QO h hlo
 clear hj h8 QO h hlo
 obtain⟨PR,hPR⟩:∃x,x=NT 3 1++dj name:=⟨_,rfl⟩
 have RE:Hid (OD ⟨3,i,name,z,runs⟩=PR++(NT z 4++cq runs)):=tK Q!
 have Rf:Hid (PR.length<=100):=tK A?
 have YL:Hid (bs (NT 3 1)++bs (dj name)=bs PR):=tK ad!
 clear Rg hPR
 generalize bs (NT 3 1)=M8 at*
 generalize bs (dj name)=M9 at*
 generalize OD ⟨3,i,name,z,runs⟩=RL at*
 exact uf
theorem Cn (i z:Nat) (name runs):OD ⟨4,i,name,z,runs⟩=NT 4 1++(NT i 4):=by
 unfold OD
 rw[show S4 (ag.mk 4 i name z runs).kind=true from rfl,show Px (ag.mk 4 i name z runs).kind=false from rfl,show Oj (ag.mk 4 i name z runs).kind=false from rfl]
 simp
theorem FP (i z:Nat) (name:List UInt8) (runs:List (Int×Int)) (v:Value) (lo hi:Nat) (w:World) (h:af w v runs lo hi) (PC:i<4294967296) (_:z<=1048576) (_:name.length<=48) (hrf:dL runs):
  am! 101 #[.agg #[(4:Int),.int .u32 (i:Int),name,(z:Int),v]] w fun e w'=>e=.returned (.string (bs (OD ⟨4,i,name,z,runs⟩)))/\NP [] w w':=by
 obtain⟨p,c,rfl⟩:=h.shape
 have⟨RV,hlo⟩:=hrf
 have hj:=fun W=>pJ 4 W
 have h8:=fun W=>mL 4 W d?
 have QO:=fun W=>eU i W PC
 skip
 have o0:=ae.new w #[(4:Int),.int .u32 (i:Int),name,(z:Int),(p,runs.length,c)] 102
 have k0:NP [] w (w.alloc (.cells #[(4:Int),.int .u32 (i:Int),name,(z:Int),(p,runs.length,c)] 102)):=(NP.refl _ _).alloc _
 have Rg:=Cn i z name runs
 have s1:(bs (NT 4 1)).size=1:=q?
 have s2:(bs (NT i 4)).size<=60:=W?
 have Tg:(runs.length:Int)<=16:=a?
 have⟨HJ,H8,S5,H,Ss⟩:=gi! hj h8 QO h hlo
 clear hj h8 QO h hlo
 obtain⟨PR,hPR⟩:∃x,x=NT 4 1++NT i 4:=⟨_,rfl⟩
 have RE:Hid (OD ⟨4,i,name,z,runs⟩=PR):=tK (by rw[hPR,Rg])
 have Rf:Hid (PR.length<=100):=tK A?
 have YL:Hid (bs (NT 4 1)++bs (NT i 4)=bs PR):=tK ad!
 clear Rg hPR
 generalize bs (NT 4 1)=M8 at*
 generalize bs (NT i 4)=M9 at*
 generalize OD ⟨4,i,name,z,runs⟩=RL at*
 exact xC
theorem Cm (i z:Nat) (name runs):OD ⟨5,i,name,z,runs⟩=NT 5 1++(NT i 4):=by
 unfold OD
 rw[show S4 (ag.mk 5 i name z runs).kind=true from rfl,show Px (ag.mk 5 i name z runs).kind=false from rfl,show Oj (ag.mk 5 i name z runs).kind=false from rfl]
 simp
theorem FO (i z:Nat) (name:List UInt8) (runs:List (Int×Int)) (v:Value) (lo hi:Nat) (w:World) (h:af w v runs lo hi) (PC:i<4294967296) (_:z<=1048576) (_:name.length<=48) (hrf:dL runs):
  am! 101 #[.agg #[(5:Int),.int .u32 (i:Int),name,(z:Int),v]] w fun e w'=>e=.returned (.string (bs (OD ⟨5,i,name,z,runs⟩)))/\NP [] w w':=by
 obtain⟨p,c,rfl⟩:=h.shape
 have⟨RV,hlo⟩:=hrf
 have hj:=fun W=>pJ 5 W
 have h8:=fun W=>mL 5 W d?
 have QO:=fun W=>eU i W PC
 skip
 have o0:=ae.new w #[(5:Int),.int .u32 (i:Int),name,(z:Int),(p,runs.length,c)] 102
 have k0:NP [] w (w.alloc (.cells #[(5:Int),.int .u32 (i:Int),name,(z:Int),(p,runs.length,c)] 102)):=(NP.refl _ _).alloc _
 have Rg:=Cm i z name runs
 have s1:(bs (NT 5 1)).size=1:=q?
 have s2:(bs (NT i 4)).size<=60:=W?
 have Tg:(runs.length:Int)<=16:=a?
 have⟨HJ,H8,S5,H,Ss⟩:=gi! hj h8 QO h hlo
 clear hj h8 QO h hlo
 obtain⟨PR,hPR⟩:∃x,x=NT 5 1++NT i 4:=⟨_,rfl⟩
 have RE:Hid (OD ⟨5,i,name,z,runs⟩=PR):=tK (by rw[hPR,Rg])
 have Rf:Hid (PR.length<=100):=tK A?
 have YL:Hid (bs (NT 5 1)++bs (NT i 4)=bs PR):=tK ad!
 clear Rg hPR
 generalize bs (NT 5 1)=M8 at*
 generalize bs (NT i 4)=M9 at*
 generalize OD ⟨5,i,name,z,runs⟩=RL at*
 exact xC
theorem Cl (i z:Nat) (name runs):OD ⟨6,i,name,z,runs⟩=NT 6 1++(dj name):=by
 unfold OD
 rw[show S4 (ag.mk 6 i name z runs).kind=false from rfl,show Px (ag.mk 6 i name z runs).kind=true from rfl,show Oj (ag.mk 6 i name z runs).kind=false from rfl]
 simp
theorem FN (i z:Nat) (name:List UInt8) (runs:List (Int×Int)) (v:Value) (lo hi:Nat) (w:World) (h:af w v runs lo hi) (_:i<4294967296) (_:z<=1048576) (Rb:name.length<=48) (hrf:dL runs):
  am! 101 #[.agg #[(6:Int),.int .u32 (i:Int),name,(z:Int),v]] w fun e w'=>e=.returned (.string (bs (OD ⟨6,i,name,z,runs⟩)))/\NP [] w w':=by
 obtain⟨p,c,rfl⟩:=h.shape
 have⟨RV,hlo⟩:=hrf
 have hj:=fun W=>pJ 6 W
 have h8:=fun W=>mL 6 W d?
 have QO:=fun W=>xl (bs name) W P!
 rw[cC]at QO
 have o0:=ae.new w #[(6:Int),.int .u32 (i:Int),name,(z:Int),(p,runs.length,c)] 102
 have k0:NP [] w (w.alloc (.cells #[(6:Int),.int .u32 (i:Int),name,(z:Int),(p,runs.length,c)] 102)):=(NP.refl _ _).alloc _
 have Rg:=Cl i z name runs
 have s1:(bs (NT 6 1)).size=1:=q?
 have s2:(bs (dj name)).size<=60:=by rw[NQ];rw[df];omega
 have Tg:(runs.length:Int)<=16:=a?
 have⟨HJ,H8,S5,H,Ss⟩:=gi! hj h8 QO h hlo
 clear hj h8 QO h hlo
 obtain⟨PR,hPR⟩:∃x,x=NT 6 1++dj name:=⟨_,rfl⟩
 have RE:Hid (OD ⟨6,i,name,z,runs⟩=PR):=tK (by rw[hPR,Rg])
 have Rf:Hid (PR.length<=100):=tK A?
 have YL:Hid (bs (NT 6 1)++bs (dj name)=bs PR):=tK ad!
 clear Rg hPR
 generalize bs (NT 6 1)=M8 at*
 generalize bs (dj name)=M9 at*
 generalize OD ⟨6,i,name,z,runs⟩=RL at*
 exact xC
theorem JX (r v lo hi w) (h:af w v r.runs lo hi) (Pf:gB r):
  am! 101 #[.agg (r.cells v)] w fun e w'=>e=.returned (.string (bs (OD r)))/\NP [] w w':=by
 have⟨k,id,name,size,runs⟩:=r
 have⟨h1,h6,i0,i1,nm,s0,s1,rf⟩:=Pf
 simp only at h h1 h6 i0 i1 nm s0 s1 rf
 obtain⟨i,rfl⟩:=MM i0
 obtain⟨z,rfl⟩:=MM s0
 unfold ag.cells
 simp only
 rcases(by omega:k=1\/k=2\/k=3\/k=4\/k=5\/k=6)with rfl|rfl|rfl|rfl|rfl|rfl
 .exact Fd i z name runs v lo hi w h a? a? nm rf
 .exact FR i z name runs v lo hi w h a? a? nm rf
 .exact FQ i z name runs v lo hi w h a? a? nm rf
 .exact FP i z name runs v lo hi w h a? a? nm rf
 .exact FO i z name runs v lo hi w h a? a? nm rf
 .exact FN i z name runs v lo hi w h a? a? nm rf
theorem gm (l):(cq l).length=2+4*l.length:=by unfold cq;rw[tN,ak,nO]
theorem JB (i z:Nat) (name:List UInt8) (runs:List (Int×Int)) (v:Value) (lo hi:Nat) (w:World) (h:af w v runs lo hi) (PC:i<4294967296) (Qc:z<=1048576) (_:name.length<=48) (hrf:dL runs):
  am! 219 #[.agg #[(1:Int),.int .u32 (i:Int),name,(z:Int),v]] w fun e w'=>e=.returned (.string (bs (OD ⟨1,i,name,z,runs⟩)))/\NP [] w w':=by
 obtain⟨p,c,rfl⟩:=h.shape
 have RV:=hrf.1
 have hj:=fun W=>pq 1 W
 have h8:=fun W=>qu 1 W d?
 have QO:=fun W=>fR i W a?
 skip
 have hq:=fun W (k:NP [] w W)=>qj _ runs lo hi W (h.kept0 k) hrf
 have hz:=fun W=>fR z W a?
 have o0:=ae.new w #[(1:Int),.int .u32 (i:Int),name,(z:Int),(p,runs.length,c)] 102
 have k0:NP [] w (w.alloc (.cells #[(1:Int),.int .u32 (i:Int),name,(z:Int),(p,runs.length,c)] 102)):=(NP.refl _ _).alloc _
 have Rg:=Cq i z name runs
 have s1:(bs (NT 1 1)).size=1:=q?
 have s2:(bs (NT i 4)).size<=60:=W?
 have s3:(bs (NT z 4)).size=4:=q?
 have s4:(bs (cq runs)).size<=100:=U!
 have⟨RE,HJ,H8,S5,HQ,HZ⟩:=gj! Rg hj h8 QO hq hz
 have e0:=bC i a?
 have e1:=bC z a?
 clear Rg hj h8 QO h hq hz
 go_enter func219,ntmps219
 go_wp2_with fail
 refine(HJ.out _).mono ?_;rintro e w' ⟨rfl,rfl⟩
 go_wp2_with fail
 refine(H8.out _).mono ?_;rintro e w1 ⟨rfl,k1⟩
 have o1:=k1.own o0 b?
 have⟨a0,a1,a2,a3,a4⟩:=o1.c5
 go_wp2_with fail
 refine(S5.out _).mono ?_;rintro e w2 ⟨rfl,k2⟩
 have oP:=k2.own o1 b?
 have⟨b0,b1,b2,b3,b4⟩:=oP.c5
 have kP:=(k0.trans k1).trans k2
 clear a0 a1 a2 a3 a4 o1 o0 HJ H8 S5
 go_wp2_with fail
 generalize hT0:bs (NT 1 1)++bs (NT i 4)=T0 at*
 have HT0:Hid (T0=bs (NT 1 1++NT i 4)):=tK (by rw[<-hT0,aw])
 have t0:T0.size<=100:=D!
 clear hT0
 have Oy:Hid (T0++bs (NT z 4)++bs (cq runs)=bs (OD ⟨1,i,name,z,runs⟩)):=tK (by
  rw[HT0.out,aw,aw,RE.out];simp only[MW])
 generalize bs (NT z 4)=M1 at*
 generalize bs (cq runs)=M2 at*
 have yy:(T0++M1).size=T0.size+M1.size:=ByteArray.size_append
 have qc1:∀W,(Op.stringOp .add T0 M1).run prog W=.ok (.string (T0++M1)) W:=fun W=>by first|(simp[Op.stringOp];omega)
 have qc2:∀W,(Op.stringOp .add (T0++M1) M2).run prog W=.ok (.string (T0++M1++M2)) W:=fun W=>by first|(simp[Op.stringOp];omega)
 clear yy
 have kk:=kP.drew
 have ob:=oP.drew
 go_region_held3 (fun W=>W.cell? (aa w 3)=(z:Int)/\W.cell? (aa w 4)=(p,runs.length,c)) (go_keep)
  (first
   |(go_at_call 214;((with_reducible refine(HZ.out _).mono ?_));rintro e w' ⟨rfl,k'⟩;have kk:=kk.trans k';have ob:=k'.own ob b?;have⟨c0,c1,c2,c3,c4⟩:=ob.c5)
   |(go_at_call 265;((with_reducible refine(HQ.out _ kk).mono ?_));rintro e w' ⟨rfl,k'⟩;have kk:=kk.trans k';have ob:=k'.own ob b?;have⟨c0,c1,c2,c3,c4⟩:=ob.c5))
 all_goals
  go_wp2_with fail
  go_ret
  exact⟨by rw[<-Oy.out];rfl,kk⟩
theorem JA (i z:Nat) (name:List UInt8) (runs:List (Int×Int)) (v:Value) (lo hi:Nat) (w:World) (h:af w v runs lo hi) (PC:i<4294967296) (Qc:z<=1048576) (_:name.length<=48) (hrf:dL runs):
  am! 219 #[.agg #[(2:Int),.int .u32 (i:Int),name,(z:Int),v]] w fun e w'=>e=.returned (.string (bs (OD ⟨2,i,name,z,runs⟩)))/\NP [] w w':=by
 obtain⟨p,c,rfl⟩:=h.shape
 have RV:=hrf.1
 have hj:=fun W=>pq 2 W
 have h8:=fun W=>qu 2 W d?
 have QO:=fun W=>fR i W a?
 skip
 have hq:=fun W (k:NP [] w W)=>qj _ runs lo hi W (h.kept0 k) hrf
 have hz:=fun W=>fR z W a?
 have o0:=ae.new w #[(2:Int),.int .u32 (i:Int),name,(z:Int),(p,runs.length,c)] 102
 have k0:NP [] w (w.alloc (.cells #[(2:Int),.int .u32 (i:Int),name,(z:Int),(p,runs.length,c)] 102)):=(NP.refl _ _).alloc _
 have Rg:=Cp i z name runs
 have s1:(bs (NT 2 1)).size=1:=q?
 have s2:(bs (NT i 4)).size<=60:=W?
 have s3:(bs (NT z 4)).size=4:=q?
 have s4:(bs (cq runs)).size<=100:=U!
 have⟨RE,HJ,H8,S5,HQ,HZ⟩:=gj! Rg hj h8 QO hq hz
 have e0:=bC i a?
 have e1:=bC z a?
 clear Rg hj h8 QO h hq hz
 go_enter func219,ntmps219
 go_wp2_with fail
 refine(HJ.out _).mono ?_;rintro e w' ⟨rfl,rfl⟩
 go_wp2_with fail
 refine(H8.out _).mono ?_;rintro e w1 ⟨rfl,k1⟩
 have o1:=k1.own o0 b?
 have⟨a0,a1,a2,a3,a4⟩:=o1.c5
 go_wp2_with fail
 refine(S5.out _).mono ?_;rintro e w2 ⟨rfl,k2⟩
 have oP:=k2.own o1 b?
 have⟨b0,b1,b2,b3,b4⟩:=oP.c5
 have kP:=(k0.trans k1).trans k2
 clear a0 a1 a2 a3 a4 o1 o0 HJ H8 S5
 go_wp2_with fail
 generalize hT0:bs (NT 2 1)++bs (NT i 4)=T0 at*
 have HT0:Hid (T0=bs (NT 2 1++NT i 4)):=tK (by rw[<-hT0,aw])
 have t0:T0.size<=100:=D!
 clear hT0
 have Oy:Hid (T0++bs (NT z 4)++bs (cq runs)=bs (OD ⟨2,i,name,z,runs⟩)):=tK (by
  rw[HT0.out,aw,aw,RE.out];simp only[MW])
 generalize bs (NT z 4)=M1 at*
 generalize bs (cq runs)=M2 at*
 have yy:(T0++M1).size=T0.size+M1.size:=ByteArray.size_append
 have qc1:∀W,(Op.stringOp .add T0 M1).run prog W=.ok (.string (T0++M1)) W:=fun W=>by first|(simp[Op.stringOp];omega)
 have qc2:∀W,(Op.stringOp .add (T0++M1) M2).run prog W=.ok (.string (T0++M1++M2)) W:=fun W=>by first|(simp[Op.stringOp];omega)
 clear yy
 have kk:=kP.drew
 have ob:=oP.drew
 go_region_held3 (fun W=>W.cell? (aa w 3)=(z:Int)/\W.cell? (aa w 4)=(p,runs.length,c)) (go_keep)
  (first
   |(go_at_call 214;((with_reducible refine(HZ.out _).mono ?_));rintro e w' ⟨rfl,k'⟩;have kk:=kk.trans k';have ob:=k'.own ob b?;have⟨c0,c1,c2,c3,c4⟩:=ob.c5)
   |(go_at_call 265;((with_reducible refine(HQ.out _ kk).mono ?_));rintro e w' ⟨rfl,k'⟩;have kk:=kk.trans k';have ob:=k'.own ob b?;have⟨c0,c1,c2,c3,c4⟩:=ob.c5))
 all_goals
  go_wp2_with fail
  go_ret
  exact⟨by rw[<-Oy.out];rfl,kk⟩
theorem Jz (i z:Nat) (name:List UInt8) (runs:List (Int×Int)) (v:Value) (lo hi:Nat) (w:World) (h:af w v runs lo hi) (PC:i<4294967296) (Qc:z<=1048576) (Rb:name.length<=48) (hrf:dL runs):
  am! 219 #[.agg #[(3:Int),.int .u32 (i:Int),name,(z:Int),v]] w fun e w'=>e=.returned (.string (bs (OD ⟨3,i,name,z,runs⟩)))/\NP [] w w':=by
 obtain⟨p,c,rfl⟩:=h.shape
 have RV:=hrf.1
 have hj:=fun W=>pq 3 W
 have h8:=fun W=>qu 3 W d?
 have QO:=fun W=>GA (bs name) W P!
 rw[cC]at QO
 have hq:=fun W (k:NP [] w W)=>qj _ runs lo hi W (h.kept0 k) hrf
 have hz:=fun W=>fR z W a?
 have o0:=ae.new w #[(3:Int),.int .u32 (i:Int),name,(z:Int),(p,runs.length,c)] 102
 have k0:NP [] w (w.alloc (.cells #[(3:Int),.int .u32 (i:Int),name,(z:Int),(p,runs.length,c)] 102)):=(NP.refl _ _).alloc _
 have Rg:=Co i z name runs
 have s1:(bs (NT 3 1)).size=1:=q?
 have s2:(bs (dj name)).size<=60:=by rw[NQ];rw[df];omega
 have s3:(bs (NT z 4)).size=4:=q?
 have s4:(bs (cq runs)).size<=100:=U!
 have⟨RE,HJ,H8,S5,HQ,HZ⟩:=gj! Rg hj h8 QO hq hz
 have e0:=bC i a?
 have e1:=bC z a?
 clear Rg hj h8 QO h hq hz
 go_enter func219,ntmps219
 go_wp2_with fail
 refine(HJ.out _).mono ?_;rintro e w' ⟨rfl,rfl⟩
 go_wp2_with fail
 refine(H8.out _).mono ?_;rintro e w1 ⟨rfl,k1⟩
 have o1:=k1.own o0 b?
 have⟨a0,a1,a2,a3,a4⟩:=o1.c5
 go_wp2_with fail
 refine(S5.out _).mono ?_;rintro e w2 ⟨rfl,k2⟩
 have oP:=k2.own o1 b?
 have⟨b0,b1,b2,b3,b4⟩:=oP.c5
 have kP:=(k0.trans k1).trans k2
 clear a0 a1 a2 a3 a4 o1 o0 HJ H8 S5
 go_wp2_with fail
 generalize hT0:bs (NT 3 1)++bs (dj name)=T0 at*
 have HT0:Hid (T0=bs (NT 3 1++dj name)):=tK (by rw[<-hT0,aw])
 have t0:T0.size<=100:=D!
 clear hT0
 have Oy:Hid (T0++bs (NT z 4)++bs (cq runs)=bs (OD ⟨3,i,name,z,runs⟩)):=tK (by
  rw[HT0.out,aw,aw,RE.out];simp only[MW])
 generalize bs (NT z 4)=M1 at*
 generalize bs (cq runs)=M2 at*
 have yy:(T0++M1).size=T0.size+M1.size:=ByteArray.size_append
 have qc1:∀W,(Op.stringOp .add T0 M1).run prog W=.ok (.string (T0++M1)) W:=fun W=>by first|(simp[Op.stringOp];omega)
 have qc2:∀W,(Op.stringOp .add (T0++M1) M2).run prog W=.ok (.string (T0++M1++M2)) W:=fun W=>by first|(simp[Op.stringOp];omega)
 clear yy
 have kk:=kP.drew
 have ob:=oP.drew
 go_region_held3 (fun W=>W.cell? (aa w 3)=(z:Int)/\W.cell? (aa w 4)=(p,runs.length,c)) (go_keep)
  (first
   |(go_at_call 214;((with_reducible refine(HZ.out _).mono ?_));rintro e w' ⟨rfl,k'⟩;have kk:=kk.trans k';have ob:=k'.own ob b?;have⟨c0,c1,c2,c3,c4⟩:=ob.c5)
   |(go_at_call 265;((with_reducible refine(HQ.out _ kk).mono ?_));rintro e w' ⟨rfl,k'⟩;have kk:=kk.trans k';have ob:=k'.own ob b?;have⟨c0,c1,c2,c3,c4⟩:=ob.c5))
 all_goals
  go_wp2_with fail
  go_ret
  exact⟨by rw[<-Oy.out];rfl,kk⟩
theorem Jy (i z:Nat) (name:List UInt8) (runs:List (Int×Int)) (v:Value) (lo hi:Nat) (w:World) (h:af w v runs lo hi) (PC:i<4294967296) (Qc:z<=1048576) (_:name.length<=48) (hrf:dL runs):
  am! 219 #[.agg #[(4:Int),.int .u32 (i:Int),name,(z:Int),v]] w fun e w'=>e=.returned (.string (bs (OD ⟨4,i,name,z,runs⟩)))/\NP [] w w':=by
 obtain⟨p,c,rfl⟩:=h.shape
 have RV:=hrf.1
 have hj:=fun W=>pq 4 W
 have h8:=fun W=>qu 4 W d?
 have QO:=fun W=>fR i W a?
 skip
 have hq:=fun W (k:NP [] w W)=>qj _ runs lo hi W (h.kept0 k) hrf
 have hz:=fun W=>fR z W a?
 have o0:=ae.new w #[(4:Int),.int .u32 (i:Int),name,(z:Int),(p,runs.length,c)] 102
 have k0:NP [] w (w.alloc (.cells #[(4:Int),.int .u32 (i:Int),name,(z:Int),(p,runs.length,c)] 102)):=(NP.refl _ _).alloc _
 have Rg:=Cn i z name runs
 have s1:(bs (NT 4 1)).size=1:=q?
 have s2:(bs (NT i 4)).size<=60:=W?
 have s3:(bs (NT z 4)).size=4:=q?
 have s4:(bs (cq runs)).size<=100:=U!
 have⟨RE,HJ,H8,S5,HQ,HZ⟩:=gj! Rg hj h8 QO hq hz
 have e0:=bC i a?
 have e1:=bC z a?
 clear Rg hj h8 QO h hq hz
 go_enter func219,ntmps219
 go_wp2_with fail
 refine(HJ.out _).mono ?_;rintro e w' ⟨rfl,rfl⟩
 go_wp2_with fail
 refine(H8.out _).mono ?_;rintro e w1 ⟨rfl,k1⟩
 have o1:=k1.own o0 b?
 have⟨a0,a1,a2,a3,a4⟩:=o1.c5
 go_wp2_with fail
 refine(S5.out _).mono ?_;rintro e w2 ⟨rfl,k2⟩
 have oP:=k2.own o1 b?
 have⟨b0,b1,b2,b3,b4⟩:=oP.c5
 have kP:=(k0.trans k1).trans k2
 clear a0 a1 a2 a3 a4 o1 o0 HJ H8 S5
 go_wp2_with fail
 go_ret
 exact⟨by rw[RE.out,<-aw];rfl,kP⟩
theorem Jw (i z:Nat) (name:List UInt8) (runs:List (Int×Int)) (v:Value) (lo hi:Nat) (w:World) (h:af w v runs lo hi) (PC:i<4294967296) (Qc:z<=1048576) (_:name.length<=48) (hrf:dL runs):
  am! 219 #[.agg #[(5:Int),.int .u32 (i:Int),name,(z:Int),v]] w fun e w'=>e=.returned (.string (bs (OD ⟨5,i,name,z,runs⟩)))/\NP [] w w':=by
 obtain⟨p,c,rfl⟩:=h.shape
 have RV:=hrf.1
 have hj:=fun W=>pq 5 W
 have h8:=fun W=>qu 5 W d?
 have QO:=fun W=>fR i W a?
 skip
 have hq:=fun W (k:NP [] w W)=>qj _ runs lo hi W (h.kept0 k) hrf
 have hz:=fun W=>fR z W a?
 have o0:=ae.new w #[(5:Int),.int .u32 (i:Int),name,(z:Int),(p,runs.length,c)] 102
 have k0:NP [] w (w.alloc (.cells #[(5:Int),.int .u32 (i:Int),name,(z:Int),(p,runs.length,c)] 102)):=(NP.refl _ _).alloc _
 have Rg:=Cm i z name runs
 have s1:(bs (NT 5 1)).size=1:=q?
 have s2:(bs (NT i 4)).size<=60:=W?
 have s3:(bs (NT z 4)).size=4:=q?
 have s4:(bs (cq runs)).size<=100:=U!
 have⟨RE,HJ,H8,S5,HQ,HZ⟩:=gj! Rg hj h8 QO hq hz
 have e0:=bC i a?
 have e1:=bC z a?
 clear Rg hj h8 QO h hq hz
 go_enter func219,ntmps219
 go_wp2_with fail
 refine(HJ.out _).mono ?_;rintro e w' ⟨rfl,rfl⟩
 go_wp2_with fail
 refine(H8.out _).mono ?_;rintro e w1 ⟨rfl,k1⟩
 have o1:=k1.own o0 b?
 have⟨a0,a1,a2,a3,a4⟩:=o1.c5
 go_wp2_with fail
 refine(S5.out _).mono ?_;rintro e w2 ⟨rfl,k2⟩
 have oP:=k2.own o1 b?
 have⟨b0,b1,b2,b3,b4⟩:=oP.c5
 have kP:=(k0.trans k1).trans k2
 clear a0 a1 a2 a3 a4 o1 o0 HJ H8 S5
 go_wp2_with fail
 go_ret
 exact⟨by rw[RE.out,<-aw];rfl,kP⟩
theorem Jv (i z:Nat) (name:List UInt8) (runs:List (Int×Int)) (v:Value) (lo hi:Nat) (w:World) (h:af w v runs lo hi) (PC:i<4294967296) (Qc:z<=1048576) (Rb:name.length<=48) (hrf:dL runs):
  am! 219 #[.agg #[(6:Int),.int .u32 (i:Int),name,(z:Int),v]] w fun e w'=>e=.returned (.string (bs (OD ⟨6,i,name,z,runs⟩)))/\NP [] w w':=by
 obtain⟨p,c,rfl⟩:=h.shape
 have RV:=hrf.1
 have hj:=fun W=>pq 6 W
 have h8:=fun W=>qu 6 W d?
 have QO:=fun W=>GA (bs name) W P!
 rw[cC]at QO
 have hq:=fun W (k:NP [] w W)=>qj _ runs lo hi W (h.kept0 k) hrf
 have hz:=fun W=>fR z W a?
 have o0:=ae.new w #[(6:Int),.int .u32 (i:Int),name,(z:Int),(p,runs.length,c)] 102
 have k0:NP [] w (w.alloc (.cells #[(6:Int),.int .u32 (i:Int),name,(z:Int),(p,runs.length,c)] 102)):=(NP.refl _ _).alloc _
 have Rg:=Cl i z name runs
 have s1:(bs (NT 6 1)).size=1:=q?
 have s2:(bs (dj name)).size<=60:=by rw[NQ];rw[df];omega
 have s3:(bs (NT z 4)).size=4:=q?
 have s4:(bs (cq runs)).size<=100:=U!
 have⟨RE,HJ,H8,S5,HQ,HZ⟩:=gj! Rg hj h8 QO hq hz
 have e0:=bC i a?
 have e1:=bC z a?
 clear Rg hj h8 QO h hq hz
 go_enter func219,ntmps219
 go_wp2_with fail
 refine(HJ.out _).mono ?_;rintro e w' ⟨rfl,rfl⟩
 go_wp2_with fail
 refine(H8.out _).mono ?_;rintro e w1 ⟨rfl,k1⟩
 have o1:=k1.own o0 b?
 have⟨a0,a1,a2,a3,a4⟩:=o1.c5
 go_wp2_with fail
 refine(S5.out _).mono ?_;rintro e w2 ⟨rfl,k2⟩
 have oP:=k2.own o1 b?
 have⟨b0,b1,b2,b3,b4⟩:=oP.c5
 have kP:=(k0.trans k1).trans k2
 clear a0 a1 a2 a3 a4 o1 o0 HJ H8 S5
 go_wp2_with fail
 go_ret
 exact⟨by rw[RE.out,<-aw];rfl,kP⟩
theorem Mf (r v lo hi w) (h:af w v r.runs lo hi) (Pf:gB r):
  am! 219 #[.agg (r.cells v)] w fun e w'=>e=.returned (.string (bs (OD r)))/\NP [] w w':=by
 have⟨k,id,name,size,runs⟩:=r
 have⟨h1,h6,i0,i1,nm,s0,s1,rf⟩:=Pf
 simp only at h h1 h6 i0 i1 nm s0 s1 rf
 obtain⟨i,rfl⟩:=MM i0
 obtain⟨z,rfl⟩:=MM s0
 unfold ag.cells
 simp only
 rcases(by omega:k=1\/k=2\/k=3\/k=4\/k=5\/k=6)with rfl|rfl|rfl|rfl|rfl|rfl
 .exact JB i z name runs v lo hi w h a? a? nm rf
 .exact JA i z name runs v lo hi w h a? a? nm rf
 .exact Jz i z name runs v lo hi w h a? a? nm rf
 .exact Jy i z name runs v lo hi w h a? a? nm rf
 .exact Jw i z name runs v lo hi w h a? a? nm rf
 .exact Jv i z name runs v lo hi w h a? a? nm rf
end
end Go.Proofs.YtdkimcnlhmhpgaaGreat

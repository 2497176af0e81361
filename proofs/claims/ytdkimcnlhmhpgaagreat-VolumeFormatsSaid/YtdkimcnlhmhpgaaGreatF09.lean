/- -/
import Derived.Test.YtdkimcnlhmhpgaaGreatF08
set_option maxHeartbeats 32000000
set_option maxRecDepth 100000
namespace Go.Proofs.YtdkimcnlhmhpgaaGreat
section
section
open Go.Proofs.Tryz Go.RowKit
theorem mG (n:Nat) (hn:n<=1000000000) (w):(Instr.makeSlice 39 (n:Int) (n:Int)).run prog w=.ok (w.heap.size,n,n) (w.alloc (.cells (Array.replicate n false) 4)):=by
 have⟨i0,h1,h2,h3,h4⟩:=nP
 exact lu _ _ i0 _ underlying39 h1 h2 h3 rfl n Z! a? w
def Re (l:List UInt8) (m:Nat):Nat->Value:=fun j=>.bool (decide (j<m)&&mb l j)
theorem yW (l k m) (hk:k<l.length) (hm:m<8):Re l (8*k+m+1) (8*k+m)=.bool (((l[k].toNat/2^m:Nat):Int)%2==1):=by
 unfold Re mb
 have e1:(8*k+m)/8=k:=a?
 have e2:(8*k+m)%8=m:=a?
 rw[e1,e2,MZ hk]
 simp only[Nat.testBit_eq_decide_div_mod_eq]
 rw[MV a?,Bool.true_and]
 congr 1
 by_cases h:l[k].toNat/2^m%2=1
 .rw[MV h];symm;simp only[beq_iff_eq];omega
 .rw[MS h];symm;simp only[Nl,ne_eq];omega
theorem KQ (s:ByteArray) (w) (hs:s.size<=1000000):
  am! 254 #[.string s] w fun e w'=>e=.returned (w.heap.size,8*s.size,8*s.size)/\Rw w' w 4 (8*s.size) (fun j=>.bool (mb s.data.toList j))/\NP [] w w':=by
 have PX:s.data.toList.length=s.size:=b?
 have TO:=tK PX
 clear PX
 have RO:=mG (8*s.size) a?
 have e8:((8*s.size:Nat):Int)=8*(s.size:Int):=a?
 rw[e8]at RO
 have r0:=Rw.made w 4 (8*s.size) false
 clear e8
 go_enter func254,ntmps254
 go_wp2_with fail
 go_loopw [4] (fun i wr=>∃k:Nat,k<=s.size/\i=(k:Int)/\Rw wr w 4 (8*s.size) (Re s.data.toList (8*k))/\NP [] w wr) (fun i _=>s.size-(intOf i).toNat)
 case atStart=>exact⟨0,a?,rfl,r0.congr (fun j _=>by unfold Re;simp),(NP.refl _ _).alloc _⟩
 case round=>
  obtain⟨k,hk,rfl,hR,hK⟩:=hrel
  by_cases NV:k<s.size
  .obtain⟨wo,rfl⟩:∃wo:World,wo=wr:=⟨_,rfl⟩
   have hg:s.data.toList[k]' L!=s[k]:=rfl
   have Oo:=fun m hm=>yW s.data.toList k m L! hm
   rw[hg]at Oo
   have OY:=tK Oo
   have hc:s[k].toNat<256:=s[k].toNat_lt
   clear Oo hg
   generalize hcc:s[k].toNat=c at*
   go_wp2_with fail
   clear hcc
   go_loopw [5,6] (fun b j wr=>∃m:Nat,m<=8/\j=(m:Int)/\b=.int .u8 ((c/2^m:Nat):Int)/\Rw wr w 4 (8*s.size) (Re s.data.toList (8*k+m))/\NP [] w wr) (fun _ j _=>8-(intOf j).toNat)
   case atStart=>exact⟨0,a?,rfl,b?,hR,hK⟩
   case round=>
    obtain⟨m,hm,rfl,rfl,hR,hK⟩:=hrel
    by_cases hm8:m<8
    .have Z1:8*k+m<8*s.size:=a?
     have c0:=hR.cell (8*k+m) Z1
     have f0:=hR.free (8*k+m)
     have hn:=hR.set (8*k+m) Z1 (.bool (((c/2^m:Nat):Int)%2==1)) (Re s.data.toList (8*k+(m+1))) (OY.out m hm8) (fun j _ hj=>by unfold Re;congr 2;rw[decide_eq_decide];omega)
     have PY:NP [] w (wr.setCell (aa w (8*k+m)) (.bool (((c/2^m:Nat):Int)%2==1))):=hK.setCell (Or.inr (MG _)) _
     have hd:c/2^(m+1)=c/2^m/2:=by rw[Nat.pow_succ,Nat.div_div_eq_div_mul]
     have HD:=tK hd
     have hb:c/2^m<256:=Nat.lt_of_le_of_lt (Nat.div_le_self _ _) hc
     generalize Re s.data.toList (8*k+m) (8*k+m)=v at*
     clear hR hK hd
     generalize c/2^m=d at*
     go_wp2_with fail
     go_roundw
     case rel=>exact⟨m+1,a?,j?,by rw[HD.out];rfl,hn,PY⟩
     case measure=>simp[intOf];omega
    .obtain rfl:m=8:=a?
     go_wp2_with fail
     go_roundw
     case rel=>exact⟨k+1,a?,j?,hR.congr (fun j _=>by rw[show 8*(k+1)=8*k+8 from by omega]),hK⟩
     case measure=>simp[intOf];omega
  .obtain rfl:k=s.size:=a?
   have hf:Rw wr w 4 (8*s.size) (fun j=>.bool (mb s.data.toList j)):=hR.congr (fun j hj=>by unfold Re;rw[MV hj,Bool.true_and])
   go_wp2_with fail
   go_ret
   exact⟨rfl,hf,hK⟩
def Rc (i:Nat):Nat->Value:=fun j=>.bool (decide (i<=j)&&pb j)
theorem yu (i) (_:i<=32):Rc i i=.bool (((4374732215/2^(32-i):Nat):Int)%2==1):=by
 unfold Rc pb
 rw[MV (MG _),Bool.true_and,Nat.testBit_eq_decide_div_mod_eq]
 congr 1
 by_cases h:4374732215/2^(32-i)%2=1
 .rw[MV h];symm;simp only[beq_iff_eq];omega
 .rw[MS h];symm;simp only[Nl,ne_eq];omega
theorem Lh (i):4374732215/2^i<=4374732215:=Nat.div_le_self _ _
def IP (w:World) (n i:Value) (wr:World):Prop:=
 ((∃k:Nat,k<=32/\i=(k:Int)/\n=.int .u64 ((4374732215/2^(32-k):Nat):Int)/\Rw wr w 4 33 (Rc (k+1)))\/(i=(-1:Int)/\Rw wr w 4 33 (Rc 0)))/\NP [] w wr
theorem KM (w):
  am! 255 #[] w fun e w'=>e=.returned (.slice (some w) 33 33)/\Rw w' w 4 33 (fun j=>.bool (pb j))/\NP [] w w':=by
 have RO:=mG 33 a?
 have r0:=Rw.made w 4 33 false
 generalize Array.replicate 33 (Value.bool false)=cs at*
 have e8:((33:Nat):Int)=33:=rfl
 rw[e8]at RO
 clear e8
 go_enter func255,ntmps255
 go_wp2_with fail
 go_loopw [1,3] (IP w) (fun _ i _=>(intOf i+1).toNat)
 case atStart=>exact⟨Or.inl ⟨32,a?,rfl,rfl,r0.congr (fun j hj=>by unfold Rc;rw[MS a?];rfl)⟩,(NP.refl _ _).alloc _⟩
 case round=>
  obtain⟨⟨k,hk,rfl,rfl,hR⟩|⟨rfl,hR⟩,hK⟩:=hrel
  .have Z1:k<33:=a?
   have c0:=hR.cell k Z1
   have f0:=hR.free k
   have hn:=hR.set k Z1 (.bool (((4374732215/2^(32-k):Nat):Int)%2==1)) (Rc k) (yu k hk) (fun j _ hj=>by unfold Rc;congr 2;rw[decide_eq_decide];omega)
   have PY:NP [] w (wr.setCell (aa w k) (.bool (((4374732215/2^(32-k):Nat):Int)%2==1))):=hK.setCell (Or.inr (MG _)) _
   have hb:=Lh (32-k)
   have hd:∀m,k=m+1->4374732215/2^(32-m)=4374732215/2^(32-k)/2:=fun m hm=>by rw[show 32-m=(32-k)+1 from by omega,Nat.pow_succ,Nat.div_div_eq_div_mul]
   have HD:=tK hd
   generalize Rc (k+1) k=v at*
   clear hR hK hd
   generalize 4374732215/2^(32-k)=d at*
   have hd:d<4374732216:=a?
   clear hb
   go_wp2_with fail
   go_roundw
   case rel=>
    cases k with
    |zero=>exact⟨Or.inr ⟨rfl,hn⟩,PY⟩
    |succ m=>exact⟨Or.inl ⟨m,a?,j?,by rw[HD.out m rfl];rfl,hn⟩,PY⟩
   case measure=>simp[intOf]
  .have hf:Rw wr w 4 33 (fun j=>.bool (pb j)):=hR.congr (fun j hj=>by unfold Rc;rw[MV (Nb _),Bool.true_and])
   go_wp2_with fail
   go_ret
   exact⟨rfl,hf,hK⟩
theorem ou (z n):Builtin.zeroCells #[z] n=Array.replicate n z:=by
 apply Array.ext
 .simp[Builtin.zeroCells]
 .intro i h1 h2;simp[Builtin.zeroCells,Nat.mod_one]
theorem BB (w g n) (f:Nat->Value) (hR:Rw w g 4 n f) (hn:n<=8000000):
  ∃cap W',(Builtin.append_ #[39,3] 39 #[(g,n,n),(32:Int)]).run prog w=.ok (.slice (some w) (n+32) cap) W'/\Rw W' w 4 (n+32) (fun j=>if j<n then f j else false)/\NP [] w W':=by
 have⟨i0,h1,h2,h3,h4⟩:=nP
 have hold:=run_firstCells_some (P:=prog) (w:=w.drew) i0.size n g n n ((List.range n).map f) (by rw[h3];simp) (fun j v hj=>by
  have hjn:j<n:=by
   rcases Nat.lt_or_ge j n with h|h
   .exact h
   .rw[List.getElem?_eq_none T?]at hj;cases hj
  have hv:v=f j:=by simpa[hjn]using hj.symm
  rw[Ni,Nat.zero_add,hv]
  exact hR.cell j hjn)
 have Oq:Builtin.nextslicecap (n+32) n<=2*(n+32):=nextslicecap_le a?
 have h:=Lib.run_append_grow_zeros (P:=prog) w 39 3 39 4 i0 false .i64 .i64 underlying39 underlying3 h1 h2 (some g) n n _ hold 32 a? (by rw[h3];omega) a? a? Z! Z!
 refine⟨_,_,h,⟨_,ae.new w.drew _ 4,?_⟩,(NP.refl _ _).drew.alloc _⟩
 .intro i hi
  rw[show(Value.bool false).cells=#[.bool false]from rfl,ou,ou,Array.append_assoc]
  show _=some (if i<n then f i else Value.bool false)
  by_cases P7:i<n
  .rw[Array.getElem?_append_left (by simpa using P7),if_pos P7];simp[P7]
  .rw[Array.getElem?_append_right (by simpa using P7),if_neg P7,Array.getElem?_append_left e?,Array.getElem?_replicate,if_pos e?]
def LB (f:Nat->Bool):Nat->Value:=fun j=>.bool (f j)
def jw (l:List UInt8) (a j:Nat):Nat->Bool:=fun i=>if decide (a<=i/\i<a+j)then(fs l a i != pb (i-a))else fs l a i
theorem CJ (l a i):jw l a 0 i=fs l a i:=by unfold jw;rw[MS a?];rfl
theorem Hw (l a j):LB (jw l a (j+1)) (a+j)=.bool (fs l a (a+j) != pb j):=by
 unfold LB jw;rw[MV a?,if_pos rfl,Nat.add_sub_cancel_left]
theorem E6 (l a j i) (h:i≠a+j):LB (jw l a (j+1)) i=LB (jw l a j) i:=by
 have e:decide (a<=i/\i<a+(j+1))=decide (a<=i/\i<a+j):=by rw[decide_eq_decide];omega
 unfold LB jw;rw[e]
theorem E7 (l a) (h:fs l a a=true) (i):jw l a 33 i=fs l (a+1) i:=by
 show(if decide (a<=i/\i<a+33)=true then _ else _)=(if fs l a a&&decide (a<=i/\i<a+33)then _ else _)
 rw[h,Bool.true_and]
theorem Is (l a) (h:fs l a a=false) (i):fs l a i=fs l (a+1) i:=by
 show _=(if fs l a a&&decide (a<=i/\i<a+33)then _ else _)
 rw[h,Bool.false_and];rfl
def uk (l:List UInt8) (k:Nat):Nat->Bool:=fun j=>if j<k then !(mb l j)else mb l j
theorem adH {A:Prop}(h:A:=by
 go_wp2_with fail
 go_roundw
 case rel=>exact⟨k+1,a?,j?,hR',hP,hK⟩
 case measure=>simp[intOf];omega):A:=h
theorem M43 {A:Prop}(h:A:=by
 have⟨HD2,HD3⟩:=f? UH hd3
 clear hd UH hd3 hle hb ev
 generalize PE l/2^(k+1)=d at*
 go_wp2_with fail
 go_roundw
 case rel=>
  cases k with
  |zero=>exact⟨Or.inr ⟨rfl,by rw[<-HD3.out rfl];congr 1;omega⟩,trivial⟩
  |succ m=>exact⟨Or.inl ⟨m,a?,j?,by rw[<-HD2.out m rfl];congr 1;omega⟩,trivial⟩
 case measure=>simp[intOf]):A:=h
theorem Au (s:ByteArray) (w) (hs:s.size<=1000000):
  am! 205 #[.string s] w fun e w'=>e=.returned (.int .u32 (PE s.data.toList))/\NP [] w w':=by
 have hb:=fun w=>KQ s w hs
 have Oy:=DL s.data.toList
 rw[show s.data.toList.length=s.size by simp]at Oy
 have Ph:∀i,8*s.size<=i->mb s.data.toList i=false:=fun i hi=>CZ _ _ D?
 have Qg:=iJ s.data.toList
 generalize s.data.toList=l at*
 generalize hn:8*s.size=n at*
 have QU:n<=8000000:=a?
 clear hn hs
 have⟨HF,HE⟩:=f? Oy Ph
 clear Oy Ph
 go_enter func205,ntmps205
 go_wp2_with fail
 refine(hb _).mono ?_;rintro e w1 ⟨rfl,hR1,OP⟩
 have⟨cap,w2,Ym,Qn,PY⟩:=BB w1 _ n _ hR1 QU
 have Q4:Rw w2 w1 4 (n+32) (LB (mb l)):=Qn.congr (fun j hj=>by
  unfold LB
  by_cases h:j<n
  .rw[if_pos h]
  .rw[if_neg h,HE.out j a?])
 have P6:=OP.trans PY
 have RH:w.heap.size<=w1.heap.size:=OP.size
 clear hR1 Qn OP PY hb
 go_wp2_with (at_builtin;refine qA rfl _ _ _ rfl _ _ rfl rfl _ _ Ym ?_)
 refine(KM _).mono ?_;rintro e w3 ⟨rfl,hP,Qo⟩
 have So:=Q4.kept Qo b?
 have QI:=P6.trans Qo
 have QG:w1.heap.size<w2.heap.size:=Q4.lt
 have hGP:w1.heap.size≠w2.heap.size:=a?
 clear Q4 P6 Qo Ym
 generalize w2.heap.size=P at*
 generalize w1.heap.size=G at*
 go_wp2_with fail
 go_loopw [5] (fun i wr=>∃k:Nat,k<=32/\i=(k:Int)/\Rw wr G 4 (n+32) (LB (uk l k))/\Rw wr P 4 33 (LB pb)/\NP [] w wr) (fun i _=>32-(intOf i).toNat)
 case atStart=>exact⟨0,a?,rfl,So,hP,QI⟩
 case round=>
  obtain⟨k,hk,rfl,hR,hP,hK⟩:=hrel
  by_cases NV:k<32
  .have Z1:k<n+32:=a?
   have c0:=hR.cell k Z1
   have f0:=hR.free k
   have ev:LB (uk l k) k=.bool (mb l k):=by unfold LB uk;rw[if_neg a?]
   rw[ev]at c0
   have hn':=hR.set k Z1 (.bool (!(mb l k))) (LB (uk l (k+1))) (by unfold LB uk;rw[if_pos a?]) (fun j _ hj=>by unfold LB uk;by_cases h:j<k;rw[if_pos h,if_pos a?];rw[if_neg h,if_neg a?])
   have hP':=hP.other (p:=(aa G k)) (Ne.symm hGP) (.bool (!(mb l k)))
   have hK':=hK.setCell (p:=(aa G k)) (Or.inr RH) (.bool (!(mb l k)))
   clear hR hP hK ev
   generalize mb l k=b at*
   go_wp2_with fail
   go_roundw
   case rel=>exact⟨k+1,a?,j?,hn',hP',hK'⟩
   case measure=>simp[intOf];omega
  .obtain rfl:k=32:=a?
   have UM:Rw wr G 4 (n+32) (LB (fs l 0)):=hR
   clear hR So
   go_wp2_with fail
   go_loopw [6] (fun i wr=>∃k:Nat,k<=n/\i=(k:Int)/\Rw wr G 4 (n+32) (LB (fs l k))/\Rw wr P 4 33 (LB pb)/\NP [] w wr) (fun i _=>n-(intOf i).toNat)
   case atStart=>exact⟨0,a?,rfl,UM,hP,hK⟩
   case round=>
    obtain⟨k,hk,rfl,hR,hP,hK⟩:=hrel
    by_cases NV:k<n
    .have c0:=hR.cell k a?
     have Z1:(k:Int)<n+32:=a?
     cases hb:fs l k k
     .have ev:LB (fs l k) k=false:=by unfold LB;rw[hb]
      rw[ev]at c0
      have hR':Rw wr G 4 (n+32) (LB (fs l (k+1))):=hR.congr (fun j _=>by unfold LB;rw[Is l k hb])
      clear hR hb ev
      exact adH
     .have ev:LB (fs l k) k=true:=by unfold LB;rw[hb]
      rw[ev]at c0
      have hR':Rw wr G 4 (n+32) (LB (jw l k 0)):=hR.congr (fun j _=>by unfold LB;rw[CJ])
      have HB:=tK hb
      clear hR hb ev
      go_wp2_with fail
      clear c0
      obtain⟨wo,rfl⟩:∃wo:World,wo=wr:=⟨_,rfl⟩
      go_loopw [7] (fun i wr=>∃j:Nat,j<=33/\i=(j:Int)/\Rw wr G 4 (n+32) (LB (jw l k j))/\Rw wr P 4 33 (LB pb)/\NP [] w wr) (fun i _=>33-(intOf i).toNat)
      case atStart=>exact⟨0,a?,rfl,hR',hP,hK⟩
      case round=>
       obtain⟨j,hj,rfl,hR,hP,hK⟩:=hrel
       by_cases hj3:j<33
       .have acM:k+j<n+32:=a?
        have c1:=hR.cell (k+j) acM
        have f1:=hR.free (k+j)
        have c2:=hP.cell j hj3
        have e1:LB (jw l k j) (k+j)=.bool (fs l k (k+j)):=by unfold LB jw;rw[MS a?];rfl
        have e2:LB pb j=.bool (pb j):=rfl
        rw[e1]at c1
        rw[e2]at c2
        have hn':=hR.set (k+j) acM (.bool (fs l k (k+j) != pb j)) (LB (jw l k (j+1))) (Hw l k j) (fun i _ hi=>E6 l k j i hi)
        have hP':=hP.other (p:=(aa G (k+j))) (Ne.symm hGP) (.bool (fs l k (k+j) != pb j))
        have hK':=hK.setCell (p:=(aa G (k+j))) (Or.inr RH) (.bool (fs l k (k+j) != pb j))
        clear hR hP hK e1 e2
        generalize fs l k (k+j)=b1 at*
        generalize pb j=b2 at*
        go_wp2_with fail
        go_region
        go_wp2_with fail
        go_roundw
        case rel=>exact⟨j+1,a?,j?,hn'.drew,hP'.drew,hK'.drew⟩
        case measure=>simp[intOf];omega
       .obtain rfl:j=33:=a?
        have hR':Rw wr G 4 (n+32) (LB (fs l (k+1))):=hR.congr (fun i _=>by unfold LB;rw[E7 l k HB.out])
        clear hR
        exact adH
    .obtain rfl:n=k:=a?
     have ae0:PE l<4294967296:=Qg
     clear NV
     go_wp2_with fail
     obtain⟨wo,rfl⟩:∃wo:World,wo=wr:=⟨_,rfl⟩
     go_loopw [8,9] (fun v i wr=>((∃k:Nat,k<=31/\i=(k:Int)/\v=.int .u32 ((PE l/2^(k+1):Nat):Int))\/(i=(-1:Int)/\v=.int .u32 (PE l)))/\wr=wo) (fun _ i _=>(intOf i+1).toNat)
     case atStart=>exact⟨Or.inl ⟨31,a?,rfl,by rw[Nat.div_eq_of_lt (show PE l<2^(31+1)from Qg)];rfl⟩,rfl⟩
     case round=>
      obtain⟨⟨k,hk,rfl,rfl⟩|⟨rfl,rfl⟩,rfl⟩:=hrel
      .have c0:=hR.cell (n+k) a?
       have Z1:(n:Int)+k<n+32:=a?
       have hd:=HF.out k a?
       have hle:PE l/2^k<=PE l:=Nat.div_le_self _ _
       cases hb:fs l n (n+k)
       .have ev:LB (fs l n) (n+k)=false:=by unfold LB;rw[hb]
        rw[ev]at c0
        rw[hb,if_pos rfl]at hd
        have UH:∀m,k=m+1->2*(PE l/2^(k+1))+1=PE l/2^(m+1):=fun m hm=>by subst hm;exact hd.symm
        have hd3:k=0->2*(PE l/2^(k+1))+1=PE l:=fun hm=>by subst hm;rw[<-hd];simp
        have hx:2*(PE l/2^(k+1))+1<4294967296:=a?
        exact M43
       .have ev:LB (fs l n) (n+k)=true:=by unfold LB;rw[hb]
        rw[ev]at c0
        rw[hb,if_neg b?,Nat.add_zero]at hd
        have UH:∀m,k=m+1->2*(PE l/2^(k+1))=PE l/2^(m+1):=fun m hm=>by subst hm;exact hd.symm
        have hd3:k=0->2*(PE l/2^(k+1))=PE l:=fun hm=>by subst hm;rw[<-hd];simp
        have hx:2*(PE l/2^(k+1))<4294967296:=a?
        exact M43
      .go_wp2_with fail
       go_ret
       exact⟨rfl,hK⟩
end
section
open Go.Proofs.Tryz Go.ChangeShapes Go.WideShapes Go.ChangeAt Go.RowKit Go.Deep
variable {w w':World} {v:Value} {l:List ag} {lo hi:Nat}
def Gn (lo hi:Nat) (w:World) (cs:List Value) (a:ag):Prop:=∃kv,cs=[.int .i64 a.kind,.int .u32 a.id,.string (bs a.name),.int .i64 a.size,kv]/\af w kv a.runs lo hi/\a.fits
def bX (w:World) (v:Value) (l:List ag) (lo hi:Nat):Prop:=bS 5 (Gn lo hi) w v l lo hi
theorem bX.kept {S} (h:bX w v l lo hi) (k:NP S w w') (hS:∀x∈S,x<lo\/hi<=x):bX w' v l lo hi:=
 bS.kept h k hS (fun _ _ ⟨kv,e1,e2,e3⟩=>⟨kv,e1,e2.kept k hS,e3⟩)
theorem bX.kept0 (h:bX w v l lo hi) (k:NP [] w w'):bX w' v l lo hi:=h.kept k (fun x hx=>by cases hx)
theorem bX.at_ {p:Option Addr} {n c:Nat} (h:bX w (p,n,c) l lo hi) (i:Nat) (hi':i<l.length):
  ∃b off kv,p=some ⟨b,off,none⟩/\w.cell? ⟨b,off+i*5,none⟩=some (.int .i64 l[i].kind)/\w.cell? ⟨b,off+i*5+1,none⟩=some (.int .u32 l[i].id)/\w.cell? ⟨b,off+i*5+2,none⟩=some (.string (bs l[i].name))/\w.cell? ⟨b,off+i*5+3,none⟩=some (.int .i64 l[i].size)/\w.cell? ⟨b,off+i*5+4,none⟩=some kv/\af w kv l[i].runs lo hi/\l[i].fits/\lo<=b/\b<hi/\hi<=w.heap.size:=by
 obtain⟨b,off,cs,e1,e2,⟨kv,rfl,e4,e5⟩,e6,e7⟩:=bS.at_ h i hi'
 exact⟨b,off,kv,e1,e6 0 _ rfl,e6 1 _ rfl,e6 2 _ rfl,e6 3 _ rfl,e6 4 _ rfl,e4,e5,e7⟩
section
variable {H:Type} {enc:TypeId×Value->H} {w:World} {base:Nat} {held:Bool} {r:Reach} {b0:Nat}
end
def aN (l:List ag):List UInt8:=NT l.length 2++(l.map OD).flatten
def fZ (l:List ag):List UInt8:=NT (aN l).length 4++(NT (PE (aN l)) 4++aN l)
theorem rm {r} (h:gB r):(OD r).length<=200:=by
 obtain⟨_,_,_,_,nM,_,_,rf⟩:=h
 have:=rf.1
 grind [OD,ak,df,gm]
theorem ni (h:∀r∈l,gB r):(l.map OD).flatten.length<=200*l.length:=by
 induction l with
 |nil=>simp
 |cons a t ih=>
  have h1:=rm (h a MY)
  have h2:=ih (fun r hr=>h r (Nz _ hr))
  rw[List.map_cons,List.flatten_cons,tN,Nj];omega
theorem uI (l:List ag) (k:Nat) (h:k<l.length):((l.take (k+1)).map OD).flatten=((l.take k).map OD).flatten++OD l[k]:=by
 rw[MI h,M0,Nv]
 simp
end
open Go.Proofs.Tryz Go.RowKit
variable {l r s s0:List UInt8} {k n m:Nat} {x:Int} {o:List ag} {out:List (List ag)}
def cX (l:List ag):Int:=if l.length=0 then 3 else if l.all az then 0 else 1
def Pv (l:List ag):List UInt8:=if cX l=0 then fZ l else[]
def mU (l:List ag) (w:World) (e:Ending) (w':World):Prop:=e=.returned (.tuple #[.string (bs (Pv l)),(cX l:Int)])/\NP [] w w'
theorem G9 {l} (h:l.length=0):cX l=3/\Pv l=[]:=by
 have e:cX l=3:=by unfold cX;rw[if_pos h]
 exact⟨e,by unfold Pv;rw[e,if_neg d?]⟩
theorem KE {l} (hk:k<l.length) (h:az l[k]=false):cX l=1/\Pv l=[]:=by
 have e:cX l=1:=by
  unfold cX
  rw[if_neg a?,if_neg]
  intro ha
  have:=List.all_eq_true.1 ha l[k] (MJ hk)
  rw[h]at this;cases this
 exact⟨e,by unfold Pv;rw[e,if_neg d?]⟩
theorem B3 {l} (h0:0<l.length) (h:∀j (hj:j<l.length),az l[j]=true):cX l=0/\Pv l=fZ l:=by
 have e:cX l=0:=by
  unfold cX
  rw[if_neg a?,if_pos]
  rw[List.all_eq_true]
  intro r hr
  obtain⟨j,hj,rfl⟩:=Nr.1 hr
  exact h j hj
 exact⟨e,by unfold Pv;rw[if_pos e]⟩
theorem uw {l C w w'} (h:cX l=C/\Pv l=[]) (k:NP [] w w'):mU l w (.returned (.tuple #[.string {data:=#[]},C])) w':=by
 refine⟨?_,k⟩
 rw[h.1,h.2];rfl
theorem tt {l:List ag} {k:Nat} (hl:l.length<=3000) (hk:k<=l.length) (h:∀j (hj:j<l.length),j<k->gB l[j]):(NT l.length 2++((l.take k).map OD).flatten).length<=600100:=by
 have:=ni (l:=l.take k) (fun r hr=>by
  rw[List.mem_take_iff_getElem]at hr
  obtain⟨j,hj,rfl⟩:=hr
  exact h j a? a?)
 rw[tN,ak]
 have h2:(l.take k).length<=3000:=w?
 omega
theorem L3 (v l lo hi w) (h:bX w v l lo hi) (hl:l.length<=3000) (P3:∀r∈l,r.runs.length<=1000000):
  am! 46 #[v] w (mU l w):=by
 obtain⟨p,c,rfl⟩:=bS.shape h
 have Tg:(l.length:Int)<=3000:=a?
 by_cases h0:l.length=0
 .have hs:=uw (w:=w) (w':=w) (G9 h0) (NP.refl _ _)
  have HS:=tK hs
  have h0':(l.length:Int)<1:=a?
  clear hs h hl P3 h0
  go_enter func46,ntmps46
  go_wp2_with fail
  go_ret2
  exact HS.out
 .have h1':(1:Int)<=l.length:=a?
  have e0:=nN l.length a?
  have hu:=fun W=>mM l.length W a?
  have⟨HU,H,XV⟩:=gg! hu h P3
  clear hu h P3
  go_enter func46,ntmps46
  go_wp2_with fail
  refine(HU.out _).mono ?_;rintro e w1 ⟨rfl,OP⟩
  clear e0
  go_wp2_with fail
  go_loopw [4,22] (fun t i wr=>∃k:Nat,k<=l.length/\i=(k:Int)/\t=.string (bs (NT l.length 2++((l.take k).map OD).flatten))/\(∀j (hj:j<l.length),j<k->az l[j]=true/\gB l[j])/\NP [] w wr) (fun _ i _=>l.length-(intOf i).toNat)
  case atStart=>exact⟨0,a?,rfl,b?,fun j _ hj=>absurd hj a?,OP⟩
  case round=>
   obtain⟨k,hk,rfl,rfl,Pf,hK⟩:=hrel
   have hlen:=tt hl hk (fun j hj hjk=>(Pf j hj hjk).2)
   by_cases NV:k<l.length
   .obtain⟨b',off,kv,rfl,c0,c1,c2,c3,c4,hr,Oq,_,hbh,hhw⟩:=(H.out.kept0 hK).at_ k NV
    have Oe:l[k].runs.length<=1000000:=XV.out _ (MJ NV)
    obtain⟨pk,ck,rfl⟩:=hr.shape
    have OF:=fun(hm:az l[k]=false)=>KE NV hm
    have UU:az l[k]=true->gB l[k]->∀j (hj:j<l.length),j<k+1->az l[j]=true/\gB l[j]:=fun h1 h2 j hj hjk=>by
     by_cases e:j=k
     .subst e;exact⟨h1,h2⟩
     .exact Pf j hj a?
    have PF:=uI l k NV
    have ka:NP [] wr (wr.alloc (.cells (l[k].cells (.slice pk l[k].runs.length ck)) 102)):=(NP.refl _ _).alloc _
    have hch:=ta l[k] _ lo hi _ (hr.kept0 ka) Oe Oq
    have XN:=fun W (kk:NP [] wr W) (ho:gB l[k])=>JX l[k] _ lo hi W (hr.kept0 kk) ho
    have hoo:=fun(hm:az l[k]=true)=>jU (r:=l[k]) hm Oq
    have abZ:=fun(ho:gB l[k])=>rm (r:=l[k]) ho
    have oA:=ae.new wr (l[k].cells (.slice pk l[k].runs.length ck)) 102
    have⟨Pk,Su,Sm,Tq,HBY,HOO,ad0,QH,Of,OZ,KA,OA⟩:=ge! OF UU PF hch XN hoo abZ Pf NV hlen ka oA
    have i1:(k:Int)<l.length:=a?
    clear OF UU PF hch XN hoo abZ Pf hlen hr Oq Oe ka oA
    unfold mZ at Tq
    unfold ag.cells at Tq HBY KA OA
    generalize hm:az l[k]=M at*
    have HM:=tK hm
    clear hm
    generalize l[k].kind=rk at*
    generalize l[k].id=ri at*
    generalize l[k].name=rn at*
    generalize l[k].size=rs at*
    generalize l[k].runs.length=rr at*
    cases M
    .have hs:=Pk.out rfl
     have HS:=tK hs
     clear hs
     go_wp2_with fail
     refine Tq.out.mono ?_;rintro e w2 ⟨rfl,k2⟩
     have kk:=(hK.trans KA.out).trans k2
     go_wp2_with fail
     go_ret2
     exact uw HS.out kk
    .have ho:=HOO.out rfl
     have HO:=tK ho
     have Y0:=ad0.out ho
     have Q3:=fun W kk=>HBY.out W kk ho
     have Zd:=tK Q3
     clear ho Q3
     have y1:(bs (OD l[k])).size<=200:=by rw[NQ];exact Y0
     have y0:(bs (NT l.length 2++((l.take k).map OD).flatten)).size<=600100:=by rw[NQ];exact OZ.out
     have Tz:Hid (bs (NT l.length 2++((l.take k).map OD).flatten)++bs (OD l[k])=bs (NT l.length 2++((l.take (k+1)).map OD).flatten)):=by
      show _=_;rw[aw,Sm.out];simp only[MW];rfl
     clear Y0
     generalize bs (OD l[k])=RB at*
     generalize bs (NT l.length 2++((l.take k).map OD).flatten)=S0 at*
     go_wp2_with fail
     refine Tq.out.mono ?_;rintro e w2 ⟨rfl,k2⟩
     have o2:=k2.own OA.out b?
     have⟨d0,d1,d2,d3,d4⟩:=o2.c5
     have k02:=KA.out.trans k2
     go_wp2_with fail
     refine(Zd.out _ k02).mono ?_;rintro e w3 ⟨rfl,k3⟩
     have kk:=hK.trans (k02.trans k3)
     have yy:(S0++RB).size=S0.size+RB.size:=ByteArray.size_append
     go_wp2_with fail
     go_roundw
     case rel=>exact⟨k+1,Of.out,j?,by rw[<-Tz.out],Su.out (by first|rfl|trivial) HO.out,kk⟩
     case measure=>(have hh:=Of.out;simp[intOf];omega)
   .obtain rfl:k=l.length:=a?
    have⟨ec,eo⟩:=B3 (l:=l) a? (fun j hj=>(Pf j hj hj).1)
    rw[MU]at hlen ⊢
    have Vp:NT l.length 2++(l.map OD).flatten=aN l:=rfl
    rw[Vp]at hlen ⊢
    have e1:=rK (aN l).length a?
    have hz:(bs (aN l)).size=(aN l).length:=NQ _
    have hcr:=iJ (aN l)
    have h1:=fun W=>eU (aN l).length W a?
    have h2:=fun W=>Bu (bs (aN l)) W (by rw[hz];unfold maxLen;omega)
    have h3:=fun W=>eU (PE (aN l)) W a?
    rw[cC]at h2
    have Oy:Hid (bs (NT (aN l).length 4)++bs (NT (PE (aN l)) 4)++bs (aN l)=bs (Pv l)):=by
     show _=_;rw[eo,aw,aw,MW];rfl
    have y1:(bs (NT (aN l).length 4)).size=4:=q?
    have y2:(bs (NT (PE (aN l)) 4)).size=4:=q?
    have y3:(bs (aN l)).size<=600100:=K!
    have yy:(bs (NT (aN l).length 4)++bs (NT (PE (aN l)) 4)).size=8:=by rw[ByteArray.size_append,y1,y2]
    have⟨EC,H1,H2,H3,QH⟩:=gi! ec h1 h2 h3 Pf
    have US:((aN l).length:Int)<=600100:=a?
    clear ec eo h1 h2 h3 Pf Vp
    generalize bs (NT (aN l).length 4)=M1 at*
    generalize bs (NT (PE (aN l)) 4)=M2 at*
    generalize bs (aN l)=M3 at*
    generalize PE (aN l)=cr at*
    generalize (aN l).length=bl at*
    go_wp2_with fail
    refine(H1.out _).mono ?_;rintro e w2 ⟨rfl,k2⟩
    go_wp2_with fail
    refine(H2.out _).mono ?_;rintro e w' ⟨rfl,rfl⟩
    go_wp2_with fail
    refine(H3.out _).mono ?_;rintro e w3 ⟨rfl,k3⟩
    have kk:=(hK.trans k2).trans k3
    go_wp2_with fail
    go_ret2
    exact⟨by rw[EC.out,<-Oy.out];rfl,kk⟩
theorem B7 (n l) {x} (h:x≠0):Ol n l x=([],l,x):=by unfold Ol;rw[if_pos h]
theorem xr (k l) {x} (h:x≠0):N6 k l x=(0,l,x):=by unfold N6;rw[B7 _ _ h];rfl
theorem lh {n} (h:(Ol n l x).2.2≠0):(Ol n l x).1=[]:=by
 unfold Ol at h ⊢
 split
 .rfl
 .rename_i h1
  rw[if_neg h1]at h
  split
  .rfl
  .rename_i h2
   rw[if_neg h2]at h
   split
   .rfl
   .rename_i h3
    rw[if_neg h3]at h
    exact absurd rfl h
theorem zq (h:(N6 k l x).2.2≠0):(N6 k l x).1=0:=by
 unfold N6 at h ⊢
 rw[show(Ol (k:Int) l x).1=[]from lh h];rfl
theorem jx (h:(N6 k l x).1≠0):(N6 k l x).2.2=0:=by
 by_cases hx:(N6 k l x).2.2=0
 .exact hx
 .exact absurd (zq hx) h
def qP (k:Int) (l:List UInt8) (x:Int):Nat×List UInt8×Int:=if S4 k then N6 4 l x else(0,l,x)
def uV (k:Int) (l:List UInt8) (x:Int):List UInt8×List UInt8×Int:=if Px k then dY l x else([],l,x)
def ux (k:Int) (l:List UInt8) (x:Int):Nat×List UInt8×Int:=if Oj k then N6 4 l x else(0,l,x)
def vq (k:Int) (l:List UInt8) (x:Int):Nat×List UInt8×Int:=if Oj k then N6 2 l x else(0,l,x)
def Od:Nat->List UInt8->Int->List (Int×Int)×List UInt8×Int
 |0,l,x=>([],l,x)
 |n+1,l,x=>((Od n l x).1++[(((N6 2 (Od n l x).2.1 (Od n l x).2.2).1:Int),((N6 2 (N6 2 (Od n l x).2.1 (Od n l x).2.2).2.1 (N6 2 (Od n l x).2.1 (Od n l x).2.2).2.2).1:Int))],
   (N6 2 (N6 2 (Od n l x).2.1 (Od n l x).2.2).2.1 (N6 2 (Od n l x).2.1 (Od n l x).2.2).2.2).2)
theorem ga (n l x):(Od n l x).1.length=n:=by
 induction n with
 |zero=>rfl
 |succ n ih=>rw[Od,tN,ih];rfl
theorem Cg (h:(Od n l x).2.2≠0) (hm:n<=m):(Od m l x).2.2≠0:=by
 induction m with
 |zero=>
  have:n=0:=a?
  subst this;exact h
 |succ m ih=>
  by_cases e:n=m+1
  .subst e;exact h
  .have h1:=ih a?
   rw[Od]
   simp only
   rw[xr 2 _ h1]
   simp only
   rw[xr 2 _ h1]
   exact h1
theorem Er (n l x):∀a∈(Od n l x).1,0<=a.1/\a.1<65536/\0<=a.2/\a.2<65536:=by
 induction n with
 |zero=>intro a ha;cases ha
 |succ n ih=>
  intro a ha
  rw[Od]at ha
  rcases Na.1 ha with h|h
  .exact ih a h
  .have e:=Nm.1 h
   subst e
   have h1:=cp 2 (Od n l x).2.1 (Od n l x).2.2
   have h2:=cp 2 (N6 2 (Od n l x).2.1 (Od n l x).2.2).2.1 (N6 2 (Od n l x).2.1 (Od n l x).2.2).2.2
   simp only
   omega
def PP (l:List UInt8):Nat×List UInt8×Int:=N6 1 l 0
def iR (l:List UInt8):Nat×List UInt8×Int:=qP (PP l).1 (PP l).2.1 (PP l).2.2
def tR (l:List UInt8):List UInt8×List UInt8×Int:=uV (PP l).1 (iR l).2.1 (iR l).2.2
def zR (l:List UInt8):Nat×List UInt8×Int:=ux (PP l).1 (tR l).2.1 (tR l).2.2
def nR (l:List UInt8):Nat×List UInt8×Int:=vq (PP l).1 (zR l).2.1 (zR l).2.2
def Ps (m:Nat) (l:List UInt8):ag×List UInt8×Int:=
 (⟨(PP l).1,(iR l).1,(tR l).1,(zR l).1,(Od m (nR l).2.1 (nR l).2.2).1⟩,(Od m (nR l).2.1 (nR l).2.2).2)
def gk (l:List UInt8):Option (ag×List UInt8):=if(Ps (nR l).1 l).2.2=0/\az (Ps (nR l).1 l).1=true then some ((Ps (nR l).1 l).1,(Ps (nR l).1 l).2.1)else none
theorem jz {r} (h:az r=true):r.runs.length<=16:=by
 unfold az gq at h
 simp only[No,decide_eq_true_eq]at h
 have h7:=h.2.2.2.2.2.2
 unfold iD at h7
 simp only[No,decide_eq_true_eq]at h7
 exact h7.1
theorem EA (l):gk l=if(Ps (min (nR l).1 17) l).2.2=0/\az (Ps (min (nR l).1 17) l).1=true then some ((Ps (min (nR l).1 17) l).1,(Ps (min (nR l).1 17) l).2.1)else none:=by
 by_cases h:(nR l).1<=17
 .rw[Nat.min_eq_left h];rfl
 .rw[Nat.min_eq_right a?]
  unfold gk
  rw[if_neg,if_neg]
  .rintro⟨_,h2⟩
   have:=jz h2
   simp only[Ps,ga]at this
   omega
  .rintro⟨_,h2⟩
   have:=jz h2
   simp only[Ps,ga]at this
   omega
theorem wQ (h:(Ps (nR l).1 l).2.2=0) (hm:az (Ps (nR l).1 l).1=true):gk l=some ((Ps (nR l).1 l).1,(Ps (nR l).1 l).2.1):=by
 unfold gk;rw[if_pos ⟨h,hm⟩]
theorem ED (h:(Ps m l).2.2≠0) (hm:m<=(nR l).1):gk l=none:=by
 unfold gk
 rw[if_neg]
 rintro⟨h1,_⟩
 exact Cg (n:=m) h hm h1
theorem wR (h:az (Ps (nR l).1 l).1=false):gk l=none:=by
 unfold gk
 rw[if_neg]
 rintro⟨_,h1⟩
 rw[h]at h1;cases h1
theorem xH (k l x):(Lit.int .u32 ((qP k l x).1:Int)).wf=true:=by
 have h:(qP k l x).1<4294967296:=by
  unfold qP
  split
  .exact cp 4 l x
  .exact Nat.zero_lt_succ _
 simp only[Lit.wf,No,decide_eq_true_eq]
 exact⟨by show(0:Int)<=_;omega,by show _<=(4294967295:Int);omega⟩
theorem Dh (m l x):(PN m l x).1<=m:=by
 unfold PN
 simp only
 split
 .exact Nb _
 .omega
theorem yf (l x):(dY l x).1.length<=65536:=by
 unfold dY
 simp only
 have h1:=lZ (PN 65536 l x).1 (PN 65536 l x).2.1 (PN 65536 l x).2.2
 have h2:=Dh 65536 l x
 omega
theorem CU (k l x):(uV k l x).1.length<=65536:=by
 unfold uV
 split
 .exact yf l x
 .simp
theorem wi (k l x):(ux k l x).1<4294967296:=by
 unfold ux
 split
 .exact cp 4 l x
 .exact Nat.zero_lt_succ _
theorem DJ (k l x):(vq k l x).1<65536:=by
 unfold vq
 split
 .exact cp 2 l x
 .exact Nat.zero_lt_succ _
theorem mn {n} (h1: -9223372036854775808<=n) (h2:n<=9223372036854775807):(Lit.int .i64 n).wf=true:=by
 simp only[Lit.wf,No,decide_eq_true_eq]
 exact⟨h1,h2⟩
theorem pC (m l):(Ps m l).1.fits:=by
 refine⟨?_,xH _ _ _,?_,?_⟩
 .have:(PP l).1<256:=cp 1 l 0
  exact mn (by show _<=((PP l).1:Int);omega) (by show((PP l).1:Int)<=_;omega)
 .have:(tR l).1.length<=65536:=CU _ _ _
  show(tR l).1.length<=maxLen
  unfold maxLen;omega
 .have:(zR l).1<4294967296:=wi _ _ _
  exact mn (by show _<=((zR l).1:Int);omega) (by show((zR l).1:Int)<=_;omega)
def dg:Nat->List UInt8->Option (List ag×List UInt8)
 |0,s=>some ([],s)
 |n+1,s=>match dg n s with
  |none=>none
  |some (o,r)=>match gk r with
   |none=>none
   |some (x,r')=>some (o++[x],r')
theorem nj {r' x} (h:dg n s=some (o,r)) (hx:gk r=some (x,r')):dg (n+1) s=some (o++[x],r'):=by
 rw[dg,h];simp only;rw[hx]
theorem kG (h:dg n s=some (o,r)) (hx:gk r=none) (hm:n<m):dg m s=none:=by
 induction m with
 |zero=>omega
 |succ m ih=>
  by_cases e:n=m
  .subst e;rw[dg,h];simp only;rw[hx]
  .rw[dg,ih a?]
def dp (s:List UInt8):Option (List ag):=
 if 1<=(N6 2 s 0).1/\(N6 2 s 0).1<=8192 then(match dg (N6 2 s 0).1 (N6 2 s 0).2.1 with
  |some (o,[])=>some o
  |_=>none)else none
theorem zW (h:¬(1<=(N6 2 s 0).1/\(N6 2 s 0).1<=8192)):dp s=none:=by unfold dp;rw[if_neg h]
theorem tu (h:dg (N6 2 s 0).1 (N6 2 s 0).2.1=none):dp s=none:=by
 unfold dp;split
 .rw[h]
 .rfl
theorem tv (h:dg (N6 2 s 0).1 (N6 2 s 0).2.1=some (o,r)) (hr:r≠[]):dp s=none:=by
 unfold dp;split
 .rw[h]
  cases r with
  |nil=>exact absurd rfl hr
  |cons a t=>rfl
 .rfl
theorem pW (h1:1<=(N6 2 s 0).1) (h2:(N6 2 s 0).1<=8192) (h:dg (N6 2 s 0).1 (N6 2 s 0).2.1=some (o,[])):dp s=some o:=by
 unfold dp;rw[if_pos ⟨h1,h2⟩,h]
def aR (s:List UInt8):Nat×List UInt8×Int:=N6 4 s 0
def cR (s:List UInt8):Nat×List UInt8×Int:=N6 4 (aR s).2.1 (aR s).2.2
def bR (s:List UInt8):List UInt8×List UInt8×Int:=Ol (aR s).1 (cR s).2.1 (cR s).2.2
def gO (s:List UInt8):Option (List ag×List UInt8):=match dp (bR s).1 with
 |none=>none
 |some o=>if(bR s).2.2=0/\PE (bR s).1=(cR s).1 then some (o,(bR s).2.1)else none
theorem wh (h:dp (bR s).1=none):gO s=none:=by unfold gO;rw[h]
theorem tL (h:(bR s).2.2≠0):gO s=none:=by
 unfold gO
 split
 .rfl
 .rw[if_neg (fun hh=>h hh.1)]
theorem zb (h:PE (bR s).1≠(cR s).1):gO s=none:=by
 unfold gO
 split
 .rfl
 .rw[if_neg (fun hh=>h hh.2)]
theorem tJ (h:dp (bR s).1=some o) (h2:(bR s).2.2=0) (h3:PE (bR s).1=(cR s).1):gO s=some (o,(bR s).2.1):=by
 unfold gO;rw[h];simp only;rw[if_pos ⟨h2,h3⟩]
theorem jy (h:(N6 k l x).2.2=0):x=0/\(N6 k l x).2.1.length+k=l.length:=by
 unfold N6 at h ⊢
 have⟨h1,h2,h3⟩:=nf (n:=k) h
 have h4:=congrArg List.length h3
 rw[tN,h2]at h4
 exact⟨h1,by show(Ol (k:Int) l x).2.1.length+k=_;omega⟩
theorem iZ (h:(bR s).2.2=0):(bR s).1.length=(aR s).1/\(bR s).1.length+(bR s).2.1.length+8<=s.length:=by
 have e:bR s=Ol (aR s).1 (cR s).2.1 (cR s).2.2:=rfl
 rw[e]at h ⊢
 have⟨h1,h2,h3⟩:=nf h
 have h4:=congrArg List.length h3
 rw[tN]at h4
 refine⟨h2,?_⟩
 have⟨h5,h6⟩:=jy (k:=4) (l:=(aR s).2.1) (x:=(aR s).2.2) h1
 have⟨h7,h8⟩:=jy (k:=4) (l:=s) (x:=0) h5
 have e2:(N6 4 (aR s).2.1 (aR s).2.2).2.1=(cR s).2.1:=rfl
 have e3:(N6 4 s 0).2.1=(aR s).2.1:=rfl
 rw[e2]at h6
 rw[e3]at h8
 omega
theorem q7 (h:gO s=some (o,r)):r.length+8<=s.length:=by
 unfold gO at h
 split at h
 .cases h
 .split at h
  .rename_i hc
   injection h with h
   injection h with _ h
   have:=(iZ hc.1).2
   rw[<-h];omega
  .cases h
def fq:Nat->List UInt8->Option (List (List ag))
 |0,s=>if s=[]then some []else none
 |f+1,s=>if s=[]then some []else(gO s).bind fun p=>(fq f p.2).map fun ls=>p.1::ls
theorem Az (f g s) (hf:s.length<=f) (hg:s.length<=g):fq f s=fq g s:=by
 induction f generalizing g s with
 |zero=>
  have:s=[]:=Nc a?
  subst this
  cases g<;>simp[fq]
 |succ f ih=>
  cases g with
  |zero=>
   have:s=[]:=Nc a?
   subst this
   simp[fq]
  |succ g=>
   rw[fq,fq]
   split
   .rfl
   .cases ht:gO s with
    |none=>rfl
    |some x=>
     have⟨o,r⟩:=x
     have:=q7 ht
     simp only[Option.bind_some]
     rw[ih g r a? a?]
def O4 (s:List UInt8):Option (List (List ag)):=fq s.length s
theorem Cr:O4 []=some []:=rfl
theorem Ay (hs:s≠[]) (h:gO s=none):O4 s=none:=by
 have hl:0<s.length:=Nu.2 hs
 obtain⟨f,hf⟩:∃f,s.length=f+1:=⟨s.length-1,a?⟩
 unfold O4
 rw[hf,fq,if_neg hs,h]
 rfl
theorem sI (hs:s≠[]) (h:gO s=some (o,r)):O4 s=(O4 r).map (fun ls=>o::ls):=by
 have hl:0<s.length:=Nu.2 hs
 obtain⟨f,hf⟩:∃f,s.length=f+1:=⟨s.length-1,a?⟩
 have:=q7 h
 unfold O4
 rw[hf,fq,if_neg hs,h]
 simp only[Option.bind_some]
 rw[Az f r.length r a? (MG _)]
def eA (s0:List UInt8) (out:List (List ag)) (s:List UInt8):Prop:=O4 s0=(O4 s).map (fun ls=>out++ls)
theorem eA.start (s):eA s [] s:=by unfold eA;cases O4 s<;>rfl
theorem eA.step {o} (h:eA s0 out s) (hs:s≠[]) (ht:gO s=some (o,r)):eA s0 (out++[o]) r:=by
 unfold eA at h ⊢
 rw[h,sI hs ht]
 cases O4 r<;>simp
theorem eA.end_ (h:eA s0 out s) (hs:s=[]):O4 s0=some out:=by
 unfold eA at h
 subst hs
 rw[h,Cr];simp
theorem eA.no (h:eA s0 out s) (hs:s≠[]) (ht:gO s=none):O4 s0=none:=by
 unfold eA at h
 rw[h,Ay hs ht];rfl
theorem ez (r) (h:n<256^k):N6 k (NT n k++r) 0=(n,r,0):=by rw[xq,Nat.mod_eq_of_lt h]
theorem Cf (l) (h:dL l) (r k) (hk:k<=l.length):Od k (bQ l++r) 0=(l.take k,bQ (l.drop k)++r,0):=by
 induction k with
 |zero=>simp[Od]
 |succ k ih=>
  have NV:k<l.length:=a?
  have⟨a1,a2,b1,b2⟩:=h.2 k NV
  have e1:l.drop k=l[k]::l.drop (k+1):=List.drop_eq_getElem_cons NV
  have e2:bQ (l.drop k)++r=NT l[k].1.toNat 2++(NT l[k].2.toNat 2++(bQ (l.drop (k+1))++r)):=by
   rw[e1];unfold bQ;rw[List.map_cons,List.flatten_cons];simp only[MW]
  rw[Od,ih a?]
  simp only
  rw[e2,ez _ a?]
  simp only
  rw[ez _ a?]
  simp only
  rw[MI NV,Int.toNat_of_nonneg a1,Int.toNat_of_nonneg b1]
theorem AZ {r} (h:az r=true):(S4 r.kind=false->r.id=0)/\(Px r.kind=false->r.name=[])/\(Oj r.kind=false->r.size=0/\r.runs=[]):=by
 unfold az gq at h
 simp only[No,Bool.or_eq_true,decide_eq_true_eq,beq_iff_eq]at h
 have⟨h1,h2,h3,h4,h5,h6,h7⟩:=h
 refine⟨fun e=>?_,fun e=>?_,fun e=>?_⟩
 .rw[e]at h2
  have:=of_decide_eq_false h2.symm
  omega
 .rw[e]at h4
  cases hn:r.name with
  |nil=>rfl
  |cons a t=>rw[hn]at h4;cases h4
 .rcases h6 with h6|⟨h6,h8⟩
  .rw[e]at h6;cases h6
  .exact⟨h6,List.isEmpty_iff.1 h8⟩
theorem Ez {r} (h:az r=true) (hf:r.fits) (rest):gk (OD r++rest)=some (r,rest):=by
 have ok:=jU h hf
 have⟨p1,p2,p3⟩:=AZ h
 have⟨k1,k6,i0,i1,nm,s0,s1,rf⟩:=ok
 have hk:PP (OD r++rest)=(r.kind.toNat,(if S4 r.kind then NT r.id.toNat 4 else[])++((if Px r.kind then dj r.name else[])++((if Oj r.kind then NT r.size.toNat 4++cq r.runs else[])++rest)),0):=by
  unfold PP OD
  rw[MW,ez _ a?]
  simp only[MW]
 have ek:(((r.kind.toNat:Nat)):Int)=r.kind:=a?
 have hi:iR (OD r++rest)=(r.id.toNat,(if Px r.kind then dj r.name else[])++((if Oj r.kind then NT r.size.toNat 4++cq r.runs else[])++rest),0):=by
  unfold iR
  rw[hk]
  simp only[ek]
  unfold qP
  cases hI:S4 r.kind
  .have:=p1 hI
   simp[this]
  .simp only[if_true]
   rw[ez _ a?]
 have ht:tR (OD r++rest)=(r.name,(if Oj r.kind then NT r.size.toNat 4++cq r.runs else[])++rest,0):=by
  unfold tR
  rw[hk,hi]
  simp only[ek]
  unfold uV
  cases hN:Px r.kind
  .have:=p2 hN
   simp[this]
  .simp only[if_true]
   rw[B5 _ _ a?]
 have hz:zR (OD r++rest)=(r.size.toNat,(if Oj r.kind then cq r.runs else[])++rest,0):=by
  unfold zR
  rw[hk,ht]
  simp only[ek]
  unfold ux
  cases hB:Oj r.kind
  .have:=(p3 hB).1
   simp[this]
  .simp only[if_true,MW]
   rw[ez _ a?]
 have hn:nR (OD r++rest)=(r.runs.length,bQ r.runs++rest,0):=by
  unfold nR
  rw[hk,hz]
  simp only[ek]
  unfold vq
  cases hB:Oj r.kind
  .have:=(p3 hB).2
   simp[this,bQ]
  .simp only[if_true]
   unfold cq
   rw[MW,ez _ (by have:=rf.1;omega)]
 have Pp:Ps (nR (OD r++rest)).1 (OD r++rest)=(r,rest,0):=by
  unfold Ps
  rw[hn,hk,hi,ht,hz]
  simp only
  rw[Cf r.runs rf rest _ (MG _)]
  have e1:((r.kind.toNat:Nat):Int)=r.kind:=ek
  have e2:((r.id.toNat:Nat):Int)=r.id:=a?
  have e3:((r.size.toNat:Nat):Int)=r.size:=a?
  simp[e1,e2,e3,bQ]
 rw[wQ (by rw[Pp]) (by rw[Pp];exact h),Pp]
theorem Ck (l:List ag) (h:∀r∈l,az r=true/\r.fits) (rest:List UInt8) (k:Nat) (hk:k<=l.length):dg k ((l.map OD).flatten++rest)=some (l.take k,((l.drop k).map OD).flatten++rest):=by
 induction k with
 |zero=>simp[dg]
 |succ k ih=>
  have NV:k<l.length:=a?
  have⟨h1,h2⟩:=h _ (MJ NV)
  have e1:l.drop k=l[k]::l.drop (k+1):=List.drop_eq_getElem_cons NV
  have e2:((l.drop k).map OD).flatten++rest=OD l[k]++(((l.drop (k+1)).map OD).flatten++rest):=by
   rw[e1,List.map_cons,List.flatten_cons,MW]
  rw[nj (ih a?) (by rw[e2];exact Ez h1 h2 _),MI NV]
theorem DV (l) (h:∀r∈l,az r=true/\r.fits) (h1:1<=l.length) (h2:l.length<=8192):dp (aN l)=some l:=by
 have e:N6 2 (aN l) 0=(l.length,(l.map OD).flatten,0):=by
  unfold aN
  rw[ez _ a?]
 have hr:=Ck l h [] l.length (MG _)
 simp only[NO,MU,List.drop_length,List.map_nil,List.flatten_nil]at hr
 exact pW (by rw[e];exact h1) (by rw[e];exact h2) (by rw[e];exact hr)
theorem vC {l} (h:∀r∈l,gB r):(aN l).length<=2+200*l.length:=by
 have:=ni h
 unfold aN
 rw[tN,ak];omega
theorem Ha (l) (h:∀r∈l,az r=true/\r.fits) (h1:1<=l.length) (h2:l.length<=8192) (rest):gO (fZ l++rest)=some (l,rest):=by
 have hb:=vC (l:=l) (fun r hr=>jU (h r hr).1 (h r hr).2)
 have ha:aR (fZ l++rest)=((aN l).length,NT (PE (aN l)) 4++(aN l++rest),0):=by
  unfold aR fZ
  rw[MW,ez _ a?,MW]
 have hc:cR (fZ l++rest)=(PE (aN l),aN l++rest,0):=by
  unfold cR
  rw[ha]
  simp only
  rw[ez _ (iJ _)]
 have ht:bR (fZ l++rest)=(aN l,rest,0):=by
  unfold bR
  rw[ha,hc]
  simp only
  exact oM _ _ _ rfl
 have:=tJ (s:=fZ l++rest) (o:=l) (by rw[ht];exact DV l h h1 h2) (by rw[ht]) (by rw[ht,hc])
 rw[this,ht]
theorem Jd (l rest):fZ l++rest≠[]:=by
 intro e
 have:=congrArg List.length e
 unfold fZ at this
 rw[tN,tN,ak]at this
 simp at this
theorem Cs (ls) (h:∀l∈ls,(∀r∈l,az r=true/\r.fits)/\1<=l.length/\l.length<=8192):O4 (ls.map fZ).flatten=some ls:=by
 induction ls with
 |nil=>rfl
 |cons a t ih=>
  have⟨h1,h2,h3⟩:=h a MY
  rw[List.map_cons,List.flatten_cons,sI (Jd _ _) (Ha a h1 h2 h3 _),ih (fun l hl=>h l (Nz _ hl))]
  rfl
end
section
open Go.Proofs.Tryz Go.RowKit
variable {w w0 w' w1:World} {b rb:Nat} {S:List Nat} {v:Value} {l:List (Int×Int)}
def aE (w0 w:World) (v:Value) (l:List (Int×Int)):Prop:=w.ownsRow w0 128 2 v l.length (NW l)
structure dR (w wx:World) (b rb ob xb:Nat) (k:Int) (i:Nat) (t:List UInt8) (z:Nat) (v:Value) (rs:List (Int×Int)) (l:List UInt8) (x:Int):Prop where
 rd:aP wx b l x
 box:ae wx rb #[b] 255
 out:ae wx ob #[(0:Int),.int .u32 0,.string {data:=#[]},(0:Int),()] 102
 rcd:ae wx xb #[k,(i,()),t,(z:Int),v] 102
 row:aE w wx v rs
 kept:NP [b] w wx
 hb:b<w.heap.size
 hrb:w.heap.size<=rb
 hob:w.heap.size<=ob
 hxb:w.heap.size<=xb
 n1:rb≠ob
 n2:rb≠xb
 n3:ob≠xb
theorem ae.lj {x0 x1 x2 x3 x4} {t:TypeId} (h:ae w b #[x0,x1,x2,x3,x4] t) (y0 y1 y2 y3 y4):
  ae (((((w.setCell b y0).setCell (aa b 1) y1).setCell (aa b 2) y2).setCell (aa b 3) y3).setCell (aa b 4) y4) b #[y0,y1,y2,y3,y4] t:=by
 have:=((((h.set 0 y0).set 1 y1).set 2 y2).set 3 y3).set 4 y4
 simpa using this
theorem NP.lj {a} (h:NP S a w) (hp:b∈S\/a.heap.size<=b) (y0 y1 y2 y3 y4):NP S a (((((w.setCell b y0).setCell (aa b 1) y1).setCell (aa b 2) y2).setCell (aa b 3) y3).setCell (aa b 4) y4):=
 ((((h.setCell (p:=b) hp y0).setCell (p:=(aa b 1)) hp y1).setCell (p:=(aa b 2)) hp y2).setCell (p:=(aa b 3)) hp y3).setCell (p:=(aa b 4)) hp y4
section
variable {w wx wy:World} {b rb ob xb:Nat} {k:Int} {i:Nat} {t:List UInt8} {z:Nat} {v:Value} {rs:List (Int×Int)} {l l':List UInt8} {x x':Int}
theorem dR.ptr (h:dR w wx b rb ob xb k i t z v rs l x):wx.cell? rb=b:=h.box.cell 0 b?
theorem dR.read (h:dR w wx b rb ob xb k i t z v rs l x) (hR:aP wy b l' x') (kk:NP [b] wx wy):dR w wy b rb ob xb k i t z v rs l' x' where
 rd:=hR
 box:=kk.own h.box (by have:=h.hb;have:=h.hrb;simp;omega)
 out:=kk.own h.out (by have:=h.hb;have:=h.hob;simp;omega)
 rcd:=kk.own h.rcd (by have:=h.hb;have:=h.hxb;simp;omega)
 row:=ax h.row kk (by have:=h.hb;simp;omega)
 kept:=h.kept.call kk b?
 hb:=h.hb
 hrb:=h.hrb
 hob:=h.hob
 hxb:=h.hxb
 n1:=h.n1
 n2:=h.n2
 n3:=h.n3
theorem dR.keep (h:dR w wx b rb ob xb k i t z v rs l x) (kk:NP [] wx wy):dR w wy b rb ob xb k i t z v rs l x:=
 h.read (kk.own h.rd b?) (kk.mono b?)
theorem dR.set (h:dR w wx b rb ob xb k i t z v rs l x) (j:Nat) (u) (k':Int) (i':Nat) (t') (z':Nat) (e:(#[.int .i64 k,.int .u32 i,.string (bs t),.int .i64 z,v]:Array Value).setIfInBounds j u=#[.int .i64 k',.int .u32 i',.string (bs t'),.int .i64 z',v]):
  dR w (wx.setCell (aa xb j) u) b rb ob xb k' i' t' z' v rs l x where
 rd:=ae.other h.rd (p:=(aa xb j)) I? u
 box:=h.box.other (p:=(aa xb j)) h.n2 u
 out:=h.out.other (p:=(aa xb j)) h.n3 u
 rcd:=by rw[<-e];exact h.rcd.set j u
 row:=bT h.row (p:=(aa xb j)) (aB h.row h.rcd d?) u
 kept:=h.kept.setCell (p:=(aa xb j)) (Or.inr h.hxb) u
 hb:=h.hb
 hrb:=h.hrb
 hob:=h.hob
 hxb:=h.hxb
 n1:=h.n1
 n2:=h.n2
 n3:=h.n3
end
theorem dR.more {w4 w5 ob xb k i t z v' rs l x o a c} (h:dR w w4 b rb ob xb k i t z v rs l x) (hg:(w4.alloc o).grownBy w5 v.ownBlock) (hr:w5.ownsRow w 128 2 v' (rs.length+1) (NW rs++[.int .i64 a,.int .i64 c])):
  dR w (w5.setCell (aa xb 4) v') b rb ob xb k i t z v' (rs++[(a,c)]) l x:=by
 have NU:=MH h.row o
 have Q8:=bW NU hg (h.rcd.alloc o) d?
 have QI:NP [b] w w5:=(h.kept.alloc o).grown hg (fun j hj=>Or.inr (by have:=(ML NU j hj).1;omega))
 have hr':w5.ownsRow w 128 2 v' (rs++[(a,c)]).length (NW (rs++[(a,c)])):=by
  rw[bP,tN,Nq];exact hr
 have h4:=Q8.set 4 v'
 exact⟨ae.other (bW NU hg (ae.alloc h.rd o) d?) (p:=(aa xb 4)) I? v',(bW NU hg (h.box.alloc o) d?).other (p:=(aa xb 4)) h.n2 v',(bW NU hg (h.out.alloc o) d?).other (p:=(aa xb 4)) h.n3 v',h4,bT hr' (p:=(aa xb 4)) (aB hr' Q8 d?) v',QI.setCell (p:=(aa xb 4)) (Or.inr h.hxb) v',h.hb,h.hrb,h.hob,h.hxb,h.n1,h.n2,h.n3⟩
def tB (b:Nat) (l:List UInt8) (w:World) (e:Ending) (w':World):Prop:=
 ∃(r:ag) (v:Value),aE w w' v r.runs/\r.fits/\NP [b] w w'/\((∃rest,gk l=some (r,rest)/\aP w' b rest 0/\e=.returned (.tuple #[.agg (r.cells v),true]))\/(gk l=none/\e=.returned (.tuple #[.agg (r.cells v),false])))
theorem M58 {A:Prop}(h:A:=by
 rw[if_neg d?]at e
 have hh:=OY.out
 go_wp2_with fail
 go_meet
 rw[e]
 exact hh):A:=h
theorem M44 {A:Prop}(h:A:=by
 have⟨b0,b1,b2,b3,b4⟩:=QG.rcd.c5
 have Ut:=tK Tb
 clear Tb QG Qn kk2
 go_wp2_with fail
 go_meet
 exact Ut.out):A:=h
theorem Ii (b l w) (hR:aP w b l 0):
  am! 247 #[.agg #[b]] w (tB b l w):=by
 have VG:=ae.lt hR
 have h8:=fun W h=>Me b l 0 W h
 have hkd:((PP l).1:Int)<256:=by have:(PP l).1<256:=cp 1 l 0;omega
 have o0:=ae.new w #[b] 255
 have o1:=ae.new (w.alloc (.cells #[b] 255)) #[(0:Int),.int .u32 0,.string {data:=#[]},(0:Int),()] 102
 rw[Nd]at o1
 have o0':=o0.alloc (.cells #[(0:Int),.int .u32 0,.string {data:=#[]},(0:Int),()] 102)
 have UM:=(ae.alloc hR (.cells #[b] 255)).alloc (.cells #[(0:Int),.int .u32 0,.string {data:=#[]},(0:Int),()] 102)
 have k0:=((NP.refl [b] w).alloc (.cells #[b] 255)).alloc (.cells #[(0:Int),.int .u32 0,.string {data:=#[]},(0:Int),()] 102)
 have H8:=tK (h8 _ UM)
 have ZQ:Hid (N6 1 l 0=PP l):=rfl
 rw[ZQ.out]at H8
 clear h8 UM o0
 go_enter func247,ntmps247
 go_wp2_with fail
 refine H8.out.mono ?_;rintro e w1 ⟨rfl,hR1,Sd⟩
 have Oo:dR w (w1.alloc (.cells #[((PP l).1:Int),.int .u32 0,.string {data:=#[]},(0:Int),()] 102)) b w (w.heap.size+1) w1 ((PP l).1:Int) 0 [] 0 () [] (PP l).2.1 (PP l).2.2:=by
  have p0:=Sd.own o0' e?
  have p1:=Sd.own o1 e?
  have l0:=p0.lt
  have l1:=p1.lt
  exact⟨ae.alloc hR1 _,p0.alloc _,p1.alloc _,ae.new _ _ _,Nf _ _ _ _,(k0.trans Sd).alloc _,VG,MG _,a?,a?,a?,a?,a?⟩
 have OY:=tK Oo
 clear Oo Sd hR1 k0 o1 o0' H8 hR
 have hjh:=fun W=>pJ ((PP l).1:Int) W
 have eI:iR l=if S4 ((PP l).1:Int)then N6 4 (PP l).2.1 (PP l).2.2 else(0,(PP l).2.1,(PP l).2.2):=rfl
 have eT:tR l=if Px ((PP l).1:Int)then dY (iR l).2.1 (iR l).2.2 else([],(iR l).2.1,(iR l).2.2):=rfl
 have eZ:zR l=if Oj ((PP l).1:Int)then N6 4 (tR l).2.1 (tR l).2.2 else(0,(tR l).2.1,(tR l).2.2):=rfl
 have eN:nR l=if Oj ((PP l).1:Int)then N6 2 (zR l).2.1 (zR l).2.2 else(0,(zR l).2.1,(zR l).2.2):=rfl
 have bz:((zR l).1:Int)<4294967296:=B?
 have bn:((nR l).1:Int)<65536:=by have:=DJ ((PP l).1:Int) (zR l).2.1 (zR l).2.2;have e:nR l=vq ((PP l).1:Int) (zR l).2.1 (zR l).2.2:=rfl;rw[e];omega
 have Oy:=EA l
 have Oq:=pC (min (nR l).1 17) l
 unfold Ps at Oy Oq
 have⟨HJ,EI,ET,EZ,EN,FIN,FIT⟩:=gk! hjh eI eT eZ eN Oy Oq
 have Tj:=Er (min (nR l).1 17) (nR l).2.1 (nR l).2.2
 have P3:=ga (min (nR l).1 17) (nR l).2.1 (nR l).2.2
 have BD:=tK Tj
 clear hjh eI eT eZ eN Oy Oq ZQ Tj
 generalize PP l=KD at*
 generalize iR l=IR at*
 generalize tR l=TR at*
 generalize zR l=ZR at*
 generalize nR l=NR at*
 have⟨kd,l1,x1⟩:=KD
 simp only at*
 have cr:=OY.out.ptr
 have⟨a0,a1,a2,a3,a4⟩:=OY.out.rcd.c5
 go_wp2_with fail
 refine(HJ.out _).mono ?_;rintro e w' ⟨rfl,rfl⟩
 clear HJ
 generalize S4 (kd:Int)=I at*
 generalize Px (kd:Int)=N at*
 generalize Oj (kd:Int)=B at*
 go_upto_if 22 with fail
 go_cut [22] (fun v22 wx=>dR w wx b w (w.heap.size+1) w1 (kd:Int) IR.1 [] 0 () [] IR.2.1 IR.2.2)
 case first=>
  cases I
  .have e:=EI.out
   exact M58
  .have e:=EI.out
   rw[if_pos rfl]at e
   have hu:=np b l1 x1 _ OY.out.rd
   rw[<-e]at hu
   have HU:=tK hu
   clear hu e
   go_wp2_with fail
   refine HU.out.mono ?_;rintro e w2 ⟨rfl,Qn,kk2⟩
   have QG:=OY.out.read Qn kk2
   have Tb:=QG.set 1 (IR.1,()) kd IR.1 [] 0 rfl
   have z1:=QG.rcd.free 1
   exact M44
 case rest=>
  clear OY EI cr a0 a1 a2 a3 a4
  generalize w1.heap.size=xb at*
  have cr:=hcut.ptr
  have⟨a0,a1,a2,a3,a4⟩:=hcut.rcd.c5
  have OY:=tK hcut
  clear hcut
  go_upto_if 27 with fail
  go_cut [27] (fun v27 wx=>dR w wx b w (w.heap.size+1) xb (kd:Int) IR.1 TR.1 0 () [] TR.2.1 TR.2.2)
  case first=>
   cases N
   .have e:=ET.out
    exact M58
   .have e:=ET.out
    rw[if_pos rfl]at e
    have hu:=Js b IR.2.1 IR.2.2 _ OY.out.rd
    rw[<-e]at hu
    have HU:=tK hu
    clear hu e
    go_wp2_with fail
    refine HU.out.mono ?_;rintro e w2 ⟨rfl,Qn,kk2⟩
    have QG:=OY.out.read Qn kk2
    have Tb:=QG.set 2 TR.1 kd IR.1 TR.1 0 rfl
    have z1:=QG.rcd.free 2
    exact M44
  case rest=>
   clear OY ET cr a0 a1 a2 a3 a4
   have cr:=hcut.ptr
   have⟨a0,a1,a2,a3,a4⟩:=hcut.rcd.c5
   have OY:=tK hcut
   clear hcut
   generalize hm:min NR.1 17=m at*
   have afe:m<=17:=a?
   have HM:=tK hm
   go_upto_if 32 with fail
   go_cut [8,9,32] (fun v8 v9 v32 wx=>∃v,dR w wx b w (w.heap.size+1) xb (kd:Int) IR.1 TR.1 ZR.1 v (Od m NR.2.1 NR.2.2).1 (Od m NR.2.1 NR.2.2).2.1 (Od m NR.2.1 NR.2.2).2.2)
   case first=>
    cases B
    .have e1:=EZ.out
     have e2:=EN.out
     rw[if_neg d?]at e1 e2
     have hh:=OY.out
     have hm0:m=0:=by rw[<-hm,e2];rfl
     go_wp2_with fail
     go_meet
     refine⟨(),?_⟩
     rw[hm0,e2,e1]
     exact hh
    .have e1:=EZ.out
     have e2:=EN.out
     rw[if_pos rfl]at e1 e2
     have hu:=np b TR.2.1 TR.2.2 _ OY.out.rd
     rw[<-e1]at hu
     have hv:=fun W (h:aP W b ZR.2.1 ZR.2.2)=>sJ b ZR.2.1 ZR.2.2 W h
     rw[<-e2]at hv
     have⟨HU,HV⟩:=f? hu hv
     have hmi:min (NR.1:Int) 17=(m:Int):=a?
     clear hu hv e1 e2 hm
     go_wp2_with fail
     refine HU.out.mono ?_;rintro e w2 ⟨rfl,Qn,kk2⟩
     have QG:=OY.out.read Qn kk2
     have Tb:=QG.set 3 (ZR.1:Int) kd IR.1 TR.1 ZR.1 rfl
     have z1:=QG.rcd.free 3
     have cr2:=Tb.ptr
     have⟨b0,b1,b2,b3,b4⟩:=QG.rcd.c5
     have Ve:=HV.out _ Tb.rd
     have⟨HV1,Ut⟩:=f? Ve Tb
     clear Tb QG Qn kk2 Ve HU HV
     go_wp2_with fail
     refine HV1.out.mono ?_;rintro e w3 ⟨rfl,Q4,Ti⟩
     have Vx:=Ut.out.read Q4 Ti
     have HS4:=tK Vx
     clear Vx Ti Q4 HV1 Ut b0 b1 b2 b3 b4 z1 cr2 a0 a1 a2 a3 a4 cr OY
     go_wp2_with fail
     go_loopw [9,44] (fun v9 i wr=>∃(j:Nat) (v:Value),j<=m/\i=(j:Int)/\dR w wr b w (w.heap.size+1) xb (kd:Int) IR.1 TR.1 ZR.1 v (Od j NR.2.1 NR.2.2).1 (Od j NR.2.1 NR.2.2).2.1 (Od j NR.2.1 NR.2.2).2.2) (fun _ i _=>m-(intOf i).toNat)
     case atStart=>exact⟨0,_,a?,rfl,HS4.out⟩
     case round=>
      obtain⟨j,v,hj,rfl,Oo⟩:=hrel
      have V5:=ah Oo.row
      rw[ga]at V5
      obtain⟨pv,cv,rfl⟩:=V5
      by_cases NV:j<m
      .have TA:Od (j+1) NR.2.1 NR.2.2=((Od j NR.2.1 NR.2.2).1++[(((N6 2 (Od j NR.2.1 NR.2.2).2.1 (Od j NR.2.1 NR.2.2).2.2).1:Int),((N6 2 (N6 2 (Od j NR.2.1 NR.2.2).2.1 (Od j NR.2.1 NR.2.2).2.2).2.1 (N6 2 (Od j NR.2.1 NR.2.2).2.1 (Od j NR.2.1 NR.2.2).2.2).2.2).1:Int))],
        (N6 2 (N6 2 (Od j NR.2.1 NR.2.2).2.1 (Od j NR.2.1 NR.2.2).2.2).2.1 (N6 2 (Od j NR.2.1 NR.2.2).2.1 (Od j NR.2.1 NR.2.2).2.2).2.2).2):=rfl
       have hlen:=ga j NR.2.1 NR.2.2
       generalize Od j NR.2.1 NR.2.2=RR at*
       have hu:=sJ b RR.2.1 RR.2.2 wr Oo.rd
       have bu:((N6 2 RR.2.1 RR.2.2).1:Int)<65536:=by have:=cp 2 RR.2.1 RR.2.2;omega
       generalize N6 2 RR.2.1 RR.2.2=U1 at*
       have hv:=fun W (h:aP W b U1.2.1 U1.2.2)=>sJ b U1.2.1 U1.2.2 W h
       have bv:((N6 2 U1.2.1 U1.2.2).1:Int)<65536:=by have:=cp 2 U1.2.1 U1.2.2;omega
       generalize N6 2 U1.2.1 U1.2.2=U2 at*
       have cr:=Oo.ptr
       have⟨i0,hi0,Rh,Qc,Qx⟩:=eV
       have⟨RA,OZ,HU,HH,OY,Of⟩:=gj! TA hlen hu hv Oo NV
       have i1:(j:Int)<m:=a?
       have ewv:IntKind.i64.wrap (U2.1:Int)=(U2.1:Int):=IntWalk.i64_in _ a?
       have i2:(m:Int)<=17:=a?
       clear TA hlen hu hv Oo HS4
       go_wp2_with fail
       refine HU.out.mono ?_;rintro e w3 ⟨rfl,Q4,P6⟩
       have Tb:=OY.out.read Q4 P6
       have cr:=Tb.ptr
       have cg:w3.cell? (aa xb 4)=(pv,j,cv):=Tb.rcd.cell 4 b?
       have Ut:=tK Tb
       clear Tb Q4 P6 OY
       have q3:j+1<=maxLen:=m?
       have q4:(j+1)*16<=140737488355328:=a?
       go_wp2_with fail
       go_region_law (first
        |(refine step_append_lies _ L? (.tmp 51) (.tmp 58) 56 L? w 128 i0 (.agg #[(0:Int),(0:Int)]) 2 16 underlying56 hi0 Rh Qc Qx rfl d? _ _ _ L? (MH Sg _) w4 1 1 [.int .i64 (U1.1:Int),.int .i64 (U2.1:Int)] L? rfl (World.news_of_block (Ns w4 _)) v? d? q3 q4 e? (w4.heap.size+1) b? ?_;intro g3' Vt w5 o3 RQ at3 lt3;have Tv:=bW (MH Sg _) RQ (HS4.out.rcd.alloc _) d?;have hc5:w5.cell? (aa xb 4)=(pv,j,cv):=ae.cell Tv 4 b?;have hf5:w5.frozen? (aa xb 4)=false:=Tv.free 4)
        |(go_simp;go_at_call 244;((with_reducible refine(HH.out _ ?_).mono ?_));(first|exact Ut.out.rd|exact ae.drew Ut.out.rd);rintro e w4 ⟨rfl,So,Qo⟩;have Vx:dR w w4 b w (w.heap.size+1) xb (kd:Int) IR.1 TR.1 ZR.1 (pv,j,cv) RR.1 U2.2.1 U2.2.2:=(by first|exact(Ut.out.keep ((NP.refl [] _).drew)).read So Qo|exact Ut.out.read So Qo);have HS4:=tK Vx;have Sg:w4.ownsRow w 128 2 (pv,j,cv) j (NW RR.1):=(by have:=Vx.row;unfold aE at this;rw[OZ.out]at this;exact this);have Yd:w.heap.size<=w4.heap.size:=Vx.kept.size;have cg4:w4.cell? (aa xb 4)=(pv,j,cv):=Vx.rcd.cell 4 b?;have adW:∀o,(w4.alloc o).cell? (aa xb 4)=(pv,j,cv):=fun o=>ae.cell (Vx.rcd.alloc o) 4 b?;clear Vx))
       all_goals go_wp2_with fail
       all_goals
        have hm6:=dR.more HS4.out RQ (by rw[OZ.out];exact o3)
        have ej:Od (j+1) NR.2.1 NR.2.2=(RR.1++[((U1.1:Int),(U2.1:Int))],U2.2):=RA.out
        have TZ:=Of.out
        refine⟨⟨j+1,_,a?,rfl,by rw[ej];exact hm6⟩,?_⟩
        simp[intOf];omega
      .obtain rfl:j=m:=a?
       have OY:=tK Oo
       clear Oo HS4
       go_wp2_with fail
       go_meet
       exact⟨_,OY.out⟩
   case rest=>
    have⟨v,Oo⟩:=hcut
    clear OY cr a0 a1 a2 a3 a4 EZ EN BD
    have Oy:=FIN.out
    have Oq:=FIT.out
    generalize Od m NR.2.1 NR.2.2=RR at*
    have NU:=Oo.row
    have V5:=ah NU
    rw[P3]at V5
    obtain⟨pv,cv,rfl⟩:=V5
    have afj:w.heap.size+1≠b:=a?
    have aff:=Oo.hxb
    have XT:w.heap.size+1≠xb:=Oo.n3
    have hke:∀W,NP [w.heap.size+1] wc W->dR w W b w (w.heap.size+1) xb (kd:Int) IR.1 TR.1 ZR.1 (pv,m,cv) RR.1 RR.2.1 RR.2.2\/True:=fun W _=>Or.inr trivial
    have QQ:∀W,NP [w.heap.size+1] wc W->aP W b RR.2.1 RR.2.2:=fun W kk=>kk.own Oo.rd e?
    have VV:∀W,NP [w.heap.size+1] wc W->aE w W (pv,m,cv) RR.1:=fun W kk=>bI NU kk Oo.out d?
    have hS:∀W,NP [w.heap.size+1] wc W->(W.cell? w=b/\W.cell? xb=(kd:Int)/\W.cell? (aa xb 1)=some (.int .u32 (IR.1:Int))/\W.cell? (aa xb 2)=TR.1/\W.cell? (aa xb 3)=(ZR.1:Int)/\W.cell? (aa xb 4)=(pv,m,cv)):=fun W kk=>by
     have q:=(kk.own Oo.rcd e?).c5
     exact⟨(kk.own Oo.box b?).cell 0 b?,q⟩
    have hE:∀W,NP [w.heap.size+1] wc W->am! 197 #[b] W fun e w'=>e=RR.2.2/\W=w':=fun W kk=>AA b _ _ W (QQ W kk)
    have⟨HE,TC,HRN⟩:=gg! hE QQ VV
    obtain⟨r,hr⟩:∃r:ag,r=⟨(kd:Int),(IR.1:Int),TR.1,(ZR.1:Int),RR.1⟩:=⟨_,rfl⟩
    rw[<-hr]at Oy Oq
    have aeh:RR.1.length<=17:=by rw[P3];omega
    have QY:NP [b] w wc:=Oo.kept
    have hC:∀W,NP [w.heap.size+1] wc W->am! 98 #[.agg #[(kd:Int),.int .u32 (IR.1:Int),TR.1,(ZR.1:Int),(pv,m,cv)]] W fun e w'=>e=(if az r then 0 else 1:Int)/\NP [w.heap.size+1] wc w'/\w'.cell? w=b/\w'.cell? xb=(kd:Int)/\w'.cell? (aa xb 1)=some (.int .u32 (IR.1:Int))/\w'.cell? (aa xb 2)=TR.1/\w'.cell? (aa xb 3)=(ZR.1:Int)/\w'.cell? (aa xb 4)=(pv,m,cv)/\(∀cs:Array Value,ae W (w.heap.size+1) cs 102->ae w' (w.heap.size+1) cs 102):=fun W kk=>by
     have hc:=ta r (pv,m,cv) w W W (by rw[hr];exact af.bB (VV W kk)) (by rw[hr];show RR.1.length<=_;omega) Oq
     rw[hr]at hc
     rw[hr]
     refine hc.mono fun e w' hh=>?_
     have k2:=kk.trans (hh.2.mono b?)
     have⟨s0,s1⟩:=hS w' k2
     exact⟨hh.1,k2,s0,s1.1,s1.2.1,s1.2.2.1,s1.2.2.2.1,s1.2.2.2.2,fun cs o=>hh.2.own o b?⟩
    have HS:=tK hS
    have⟨s0,s1,s2,s3,s4,s5⟩:=hS wc (NP.refl _ _)
    clear hS
    have z0:=Oo.out.z5
    have⟨o0,o1,o2,o3,o4⟩:=Oo.out.c5
    have Ph:∀W ok,NP [w.heap.size+1] wc W->((RR.2.2=0/\az r=true)↔ok=true)->tB b l w (.returned (.tuple #[.agg #[(kd:Int),.int .u32 (IR.1:Int),TR.1,(ZR.1:Int),(pv,m,cv)],.bool ok])) W:=fun W ok kk Pf=>by
     refine⟨r,(pv,m,cv),by rw[hr];exact VV W kk,Oq,QY.call kk b?,?_⟩
     cases ok
     .exact Or.inr ⟨by rw[Oy,if_neg (fun hh=>by have:=Pf.1 hh;cases this)],by rw[hr];rfl⟩
     .have h2:=Pf.2 rfl
      exact Or.inl ⟨RR.2.1,by rw[Oy,if_pos h2],by have:=QQ W kk;rw[h2.1]at this;exact this,by rw[hr];rfl⟩
    have Qd:=tK Ph
    clear hE QQ VV hke Ph Oy Oq FIN FIT
    go_upto_region 15 with fail
    by_cases hx:RR.2.2=0
    .have hdx:(RR.2.2==0)=true:=by rw[hx];rfl
     cases hM:az r
     .rw[hM]at hC
      simp only[Bool.false_eq_true,if_false]at hC
      have HC:=tK hC
      have Pf:=fun W kk=>Qd.out W false kk (by rw[hM];simp)
      have QH:=tK Pf
      clear hC Pf Qd
      go_region_held3 (fun W=>W.cell? w=b/\W.cell? xb=(kd:Int)/\W.cell? (aa xb 1)=some (.int .u32 (IR.1:Int))/\W.cell? (aa xb 2)=TR.1/\W.cell? (aa xb 3)=(ZR.1:Int)/\W.cell? (aa xb 4)=(pv,m,cv)) (first|go_keep|exact HS.out _ k?) (first|(go_at_call 197;((with_reducible refine(HE.out _ ?_).mono ?_));(repeat' first|exact NP.refl _ _|exact Sp|refine NP.drew ?_|refine NP.drewN ?_ _|refine NP.setCell ?_ (Or.inl b?) _);rintro e w' ⟨rfl,rfl⟩)|(go_at_call 98;((with_reducible refine(HC.out _ ?_).mono ?_));(repeat' first|exact NP.refl _ _|exact Sp|refine NP.drew ?_|refine NP.drewN ?_ _|refine NP.setCell ?_ (Or.inl b?) _);rintro e w5 ⟨rfl,Sp,q0,q1,q2,q3,q4,q5,Sf⟩;(first|(have XG:=Sf _ (by(repeat' first|exact Oo.out|refine ae.drew ?_));have⟨u0,u1,u2,u3,u4⟩:=XG.c5;have uz:=XG.z5)|(have XG:=Sf _ (ae.lj (by(repeat' first|exact Oo.out|refine ae.drew ?_)) _ _ _ _ _)))))
      all_goals go_wp2_with fail
      all_goals
       refine MN (v:=.tuple #[.agg #[(kd:Int),.int .u32 (IR.1:Int),TR.1,(ZR.1:Int),(pv,m,cv)],false]) ?_ ?_ ?_
       .refine aj results247 rfl rfl (t:=102) ?_ underlying102 rfl c?
        with_reducible first|exact XG|exact ae.lj XG _ _ _ _ _|exact ae.lj (ae.drew XG) _ _ _ _ _
       .rfl
       .exact QH.out _ k?
     .rw[hM]at hC
      simp only[if_true]at hC
      have HC:=tK hC
      have Pf:=fun W kk=>Qd.out W true kk (by rw[hM];simp[hx])
      have QH:=tK Pf
      clear hC Pf Qd
      go_region_held3 (fun W=>W.cell? w=b/\W.cell? xb=(kd:Int)/\W.cell? (aa xb 1)=some (.int .u32 (IR.1:Int))/\W.cell? (aa xb 2)=TR.1/\W.cell? (aa xb 3)=(ZR.1:Int)/\W.cell? (aa xb 4)=(pv,m,cv)) (first|go_keep|exact HS.out _ k?) (first|(go_at_call 197;((with_reducible refine(HE.out _ ?_).mono ?_));(repeat' first|exact NP.refl _ _|exact Sp|refine NP.drew ?_|refine NP.drewN ?_ _|refine NP.setCell ?_ (Or.inl b?) _);rintro e w' ⟨rfl,rfl⟩)|(go_at_call 98;((with_reducible refine(HC.out _ ?_).mono ?_));(repeat' first|exact NP.refl _ _|exact Sp|refine NP.drew ?_|refine NP.drewN ?_ _|refine NP.setCell ?_ (Or.inl b?) _);rintro e w5 ⟨rfl,Sp,q0,q1,q2,q3,q4,q5,Sf⟩;(first|(have XG:=Sf _ (by(repeat' first|exact Oo.out|refine ae.drew ?_));have⟨u0,u1,u2,u3,u4⟩:=XG.c5;have uz:=XG.z5)|(have XG:=Sf _ (ae.lj (by(repeat' first|exact Oo.out|refine ae.drew ?_)) _ _ _ _ _)))))
      all_goals go_wp2_with fail
      all_goals
       refine MN (v:=.tuple #[.agg #[(kd:Int),.int .u32 (IR.1:Int),TR.1,(ZR.1:Int),(pv,m,cv)],true]) ?_ ?_ ?_
       .refine aj results247 rfl rfl (t:=102) ?_ underlying102 rfl c?
        with_reducible first|exact XG|exact ae.lj XG _ _ _ _ _|exact ae.lj (ae.drew XG) _ _ _ _ _
       .rfl
       .exact QH.out _ k?
    .have hdx:(RR.2.2==0)=false:=h?
     have afd:(RR.2.2 != 0)=true:=h?
     have Pf:=fun W kk=>Qd.out W false kk (by simp[hx])
     have QH:=tK Pf
     clear hC Pf Qd
     refine MK (S:=(fun W=>W.cell? w=b/\W.cell? xb=(kd:Int)/\W.cell? (aa xb 1)=some (.int .u32 (IR.1:Int))/\W.cell? (aa xb 2)=TR.1/\W.cell? (aa xb 3)=(ZR.1:Int)/\W.cell? (aa xb 4)=(pv,m,cv))) c? (by(first|go_keep|exact HS.out _ i?)) (fun hHeld=>?_)
     refine tS ?_
     refine rD 3 (fun K hK=>?_)
     go_simp
     ((with_reducible refine(HE.out _ i?).mono ?_));rintro e w' ⟨rfl,rfl⟩
     go_wp2_with fail
     refine hK.out _ _ ?_ (fun hHeld=>nM ?_)
     ·(first|go_keep|exact HS.out _ i?)
     clear hK K
     refine tS ?_
     refine rD 10 (fun K hK=>?_)
     go_simp
     refine hK.out _ _ ?_ (fun hHeld=>nM ?_)
     ·(first|go_keep|exact HS.out _ i?)
     clear hK K
     refine tS ?_
     refine Ng c? ?_ _
     go_wp2_with fail
     refine MN (v:=.tuple #[.agg #[(kd:Int),.int .u32 (IR.1:Int),TR.1,(ZR.1:Int),(pv,m,cv)],false]) ?_ ?_ ?_
     .refine aj results247 rfl rfl (t:=102) ?_ underlying102 rfl c?
      with_reducible first|exact ae.lj Oo.out _ _ _ _ _|exact ae.drew (ae.lj Oo.out _ _ _ _ _)
     .rfl
     .exact QH.out _ i?
theorem jB:∃i,prog.info? 102=some i/\i.zero=some (.agg #[(0:Int),.int .u32 0,.string {data:=#[]},(0:Int),()])/\i.size=5/\i.bytes=64:=by
 have hi:(prog.info? 102).map (fun i=>(i.zero,i.size,i.bytes))=some (some (.agg #[(0:Int),.int .u32 0,.string {data:=#[]},(0:Int),()]),5,64):=c?
 exact Yh
def bw (l:List (ag×Value)):List Value:=(l.map fun x=>[Value.int .i64 x.1.kind,Value.int .u32 x.1.id,Value.string (bs x.1.name),Value.int .i64 x.1.size,x.2]).flatten
theorem eF (l r v):bw (l++[(r,v)])=bw l++[Value.int .i64 r.kind,Value.int .u32 r.id,Value.string (bs r.name),Value.int .i64 r.size,v]:=by simp[bw]
theorem jd (l i) (h:i<l.length) (j u) (hj:[Value.int .i64 l[i].1.kind,Value.int .u32 l[i].1.id,Value.string (bs l[i].1.name),Value.int .i64 l[i].1.size,l[i].2][j]? =some u):(bw l)[i*5+j]? =some u:=by
 induction l generalizing i with
 |nil=>simp at h
 |cons a l ih=>
  have e:bw (a::l)=[Value.int .i64 a.1.kind,Value.int .u32 a.1.id,Value.string (bs a.1.name),Value.int .i64 a.1.size,a.2]++bw l:=rfl
  have hj5:j<5:=by
   have:=(Nn.1 hj).1
   simpa using this
  rw[e]
  cases i with
  |zero=>
   rw[List.getElem?_append_left e?]
   simpa using hj
  |succ i=>
   rw[List.getElem?_append_right e?]
   have e1:(i+1)*5+j-[Value.int .i64 a.1.kind,Value.int .u32 a.1.id,Value.string (bs a.1.name),Value.int .i64 a.1.size,a.2].length=i*5+j:=e?
   rw[e1]
   exact ih i T? A!
def aI (w0 w:World) (v:Value) (l:List ag):Prop:=
 ∃vs:List (ag×Value),vs.map (·.1)=l/\w.ownsRow w0 102 5 v l.length (bw vs)/\∀x∈vs,aE w0 w x.2 x.1.runs/\x.1.fits
def mX (w0 w:World) (S:List Nat):Prop:=∀x∈S,x<w0.heap.size\/∃cs t,ae w x cs t/\t≠128/\t≠102
theorem mX.nil (w0 w):mX w0 w []:=fun x hx=>by cases hx
theorem lA {w x cs TL} {t t':TypeId} (h:ae w x cs t) (h':w.heap[x]? =some (.cells TL t' (0,0))):t=t':=by
 have o':w.heap[x]? =some (.cells cs t (0,0)):=h
 rw[o']at h'
 injection h' with h'
 injection h' with _ e
theorem aE.aS (h:aE w0 w v l) (k:NP S w w') (hS:∀x∈S,x<w0.heap.size\/∃cs t,ae w x cs t/\t≠128):aE w0 w' v l:=
 cF h k (fun x hx hb cs hc=>by
  rcases hS x hx with h1|⟨TL,t,o,ht⟩
  .omega
  .exact ht (lA o hc))
theorem aE.kept0 (h:aE w0 w v l) (k:NP [] w w'):aE w0 w' v l:=h.aS k (fun x hx=>by cases hx)
theorem aE.base (h:aE w1 w v l) (hb:w0.heap.size<=w1.heap.size):aE w0 w v l:=aF h hb
theorem aE.oI (h:aE w0 w v l):af w v l w0 w:=af.bB h
section
variable {S:List Nat} {w0 w w':World} {v:Value} {l:List ag}
theorem aI.kept (h:aI w0 w v l) (k:NP S w w') (hS:mX w0 w S):aI w0 w' v l:=by
 have⟨vs,h1,h2,h3⟩:=h
 refine⟨vs,h1,cF h2 k (fun x hx hb cs hc=>?_),fun x hx=>⟨(h3 x hx).1.aS k (fun y hy=>?_),(h3 x hx).2⟩⟩
 .rcases hS x hx with h1|⟨TL,t,o,_,ht⟩
  .omega
  .exact ht (lA o hc)
 .rcases hS y hy with h1|⟨TL,t,o,ht,_⟩
  .exact Or.inl h1
  .exact Or.inr ⟨TL,t,o,ht⟩
theorem aI.kept0 (h:aI w0 w v l) (k:NP [] w w'):aI w0 w' v l:=h.kept k (mX.nil _ _)
theorem aI.base (h:aI w1 w v l) (hb:w0.heap.size<=w1.heap.size):aI w0 w v l:=by
 have⟨vs,h1,h2,h3⟩:=h
 exact⟨vs,h1,aF h2 hb,fun x hx=>⟨(h3 x hx).1.base hb,(h3 x hx).2⟩⟩
theorem aI.nil (w0 w):aI w0 w () []:=⟨[],rfl,Nf _ _ _ _,fun x hx=>by cases hx⟩
theorem aI.shape (h:aI w0 w v l):∃p c,v=.slice p l.length c:=by
 have⟨vs,h1,h2,h3⟩:=h;exact ah h2
theorem aI.oI (h:aI w0 w v l):bX w v l w0 w:=by
 obtain⟨vs,rfl,h2,h3⟩:=h
 by_cases h0:vs=[]
 .subst h0
  obtain⟨p,c,rfl⟩:=ah h2
  exact Or.inl ⟨rfl,p,c,rfl⟩
 .have hp:0<vs.length:=Nu.2 h0
  obtain⟨g,c,rfl,g1,g2,g3,g4,g5⟩:=cU h2 (by simpa using hp)
  refine Or.inr ⟨g,0,c,rfl,fun i hi=>?_,g1,g2,MG _,fun e=>h0 (List.map_eq_nil_iff.1 e),g3,g4⟩
  have hi':i<vs.length:=D?
  have⟨q1,q2⟩:=h3 _ (MJ hi')
  refine⟨[Value.int .i64 vs[i].1.kind,Value.int .u32 vs[i].1.id,Value.string (bs vs[i].1.name),Value.int .i64 vs[i].1.size,vs[i].2],rfl,⟨vs[i].2,by rw[Ny],by rw[Ny];exact q1.oI,by rw[Ny];exact q2⟩,fun j u hj=>?_⟩
  rw[Nat.zero_add]
  exact g5 _ _ (jd vs i hi' j u hj)
theorem aI.more {v' kv r o w5 vs} (h1:vs.map (·.1)=l) (h3:∀x∈vs,aE w0 w x.2 x.1.runs/\x.1.fits) (h2:w.ownsRow w0 102 5 v l.length (bw vs)) (hr:aE w0 w kv r.runs) (hf:r.fits) (hg:(w.alloc o).grownBy w5 v.ownBlock) (hn:w5.ownsRow w0 102 5 v' (l.length+1) (bw vs++[Value.int .i64 r.kind,Value.int .u32 r.id,Value.string (bs r.name),Value.int .i64 r.size,kv])):
  aI w0 w5 v' (l++[r]):=by
 have NU:=MH h2 o
 have hk:∀(u:Value) (rs:List (Int×Int)),aE w0 w u rs->aE w0 w5 u rs:=fun u rs hu=>by
  have hu':aE w0 (w.alloc o) u rs:=MH hu o
  exact dG hu' (fun g cs hb hc=>hg.block g (NK hc) (fun e=>aB NU (show ae (w.alloc o) g cs 128 from hc) d? e.symm))
 refine⟨vs++[(r,kv)],by simp[h1],by rw[eF,tN,Nq];exact hn,fun x hx=>?_⟩
 rcases Na.1 hx with hx|hx
 .exact⟨hk _ _ (h3 x hx).1,(h3 x hx).2⟩
 .have hx:x=(r,kv):=h?
  subst hx
  exact⟨hk _ _ hr,hf⟩
end
structure kc (w wr:World) (rb:Nat) (s:List UInt8) (j:Nat) (v6:Value) (vs:List (ag×Value)) (rest:List UInt8):Prop where
 so:dg j s=some (vs.map (·.1),rest)
 rd:aP wr w rest 0
 box:ae wr rb #[w.heap.size] 255
 row:wr.ownsRow w 102 5 v6 j (bw vs)
 each:∀x∈vs,aE w wr x.2 x.1.runs/\x.1.fits
 len:vs.length=j
 kept:NP [] w wr
 hrb:w.heap.size<rb
theorem kc.new {wr s j v6 vs rest} (h:kc w wr rb s j v6 vs rest):aI w wr v6 (vs.map (·.1)):=
 ⟨vs,rfl,by rw[MP,h.len];exact h.row,h.each⟩
theorem kc.next {w wr w3 w5 rb s j v6 v' kv vs rest rest' r o1 o2} (h:kc w wr rb s j v6 vs rest) (ho:gk rest=some (r,rest')) (kk:NP [w.heap.size] wr w3) (hR:aP w3 w rest' 0) (hr:aE wr w3 kv r.runs) (hf:r.fits) (hg:((w3.alloc o1).alloc o2).grownBy w5 v6.ownBlock) (hn:w5.ownsRow w 102 5 v' (j+1) (bw vs++[Value.int .i64 r.kind,Value.int .u32 r.id,Value.string (bs r.name),Value.int .i64 r.size,kv])):
  kc w w5 rb s (j+1) v' (vs++[(r,kv)]) rest':=by
 have T3:w3.ownsRow w 102 5 v6 j (bw vs):=cF h.row kk (fun x hx _ cs hc=>by
  have hx:x=w.heap.size:=h?
  subst hx
  exact absurd (lA h.rd hc) d?)
 have PW:=h.kept.size
 have afu:=h.hrb
 have hb3:=kk.own h.box e?
 have P6:NP [] w w3:=h.kept.call kk (fun x hx=>Or.inr (by
   have:x=w.heap.size:=h?
   omega))
 have Ua:∀x∈vs,aE w w3 x.2 x.1.runs/\x.1.fits:=fun x hx=>⟨(h.each x hx).1.aS kk (fun y hy=>by
  have hy:y=w.heap.size:=N!
  subst hy
  exact Or.inr ⟨_,_,h.rd,d?⟩),(h.each x hx).2⟩
 have TB:=MH (MH T3 o1) o2
 have hk:∀(u:Value) (rs:List (Int×Int)),aE w w3 u rs->aE w w5 u rs:=fun u rs hu=>by
  have hu':aE w ((w3.alloc o1).alloc o2) u rs:=MH (MH hu o1) o2
  exact dG hu' (fun g cs hb hc=>hg.block g (NK hc) (fun e=>aB TB (show ae ((w3.alloc o1).alloc o2) g cs 128 from hc) d? e.symm))
 refine⟨?_,bW TB hg (ae.alloc (ae.alloc hR o1) o2) d?,bW TB hg ((hb3.alloc o1).alloc o2) d?,by rw[eF];exact hn,fun x hx=>?_,by rw[tN,h.len];rfl,((P6.alloc o1).alloc o2).grown hg (fun i hi=>Or.inr (ML TB i hi).1),h.hrb⟩
 .rw[nj h.so ho];simp
 .rcases Na.1 hx with hx|hx
  .exact⟨hk _ _ (Ua x hx).1,(Ua x hx).2⟩
  .have hx:x=(r,kv):=h?
   subst hx
   exact⟨hk _ _ (hr.base PW),hf⟩
def qY (s:List UInt8) (w:World) (e:Ending) (w':World):Prop:=
 ((∃o v,dp s=some o/\aI w w' v o/\e=.returned (.tuple #[v,true]))\/(dp s=none/\∃v,e=.returned (.tuple #[v,false])))/\NP [] w w'
theorem zP:fM [] 0=0:=rfl
theorem vo {l} (h:l≠[]):fM l 0=7:=by unfold fM;rw[if_pos ⟨rfl,h⟩]
theorem FM (s:List UInt8) (w:World):
  am! 196 #[s] w (qY s w):=by
 have QQ:=fun W=>nz (bs s) W
 rw[cC]at QQ
 have TC:=tK QQ
 clear QQ
 go_enter func196,ntmps196
 go_wp2_with fail
 refine(TC.out _).mono ?_;rintro e w1 ⟨rfl,hR,OP⟩
 have ob:=ae.new w1 #[w.heap.size] 255
 have ZZ:=ae.lt hR
 have hu:=sJ w s 0 _ (ae.alloc hR (.cells #[w.heap.size] 255))
 have bn:((N6 2 s 0).1:Int)<65536:=by have:=cp 2 s 0;omega
 have hx0:=fun h=>jx (k:=2) (l:=s) (x:=0) h
 have OF:=fun h=>zW (s:=s) h
 have Vv:=fun h=>tu (s:=s) h
 have Qp:=fun r o h=>tv (s:=s) (r:=r) (o:=o) h
 have Sv:=fun o h1 h2=>pW (s:=s) (o:=o) h1 h2
 have⟨HU,HR,HX0,Pk,Se,Y5,Wv⟩:=gk! hu hR hx0 OF Vv Qp Sv
 clear hu TC hx0 OF Vv Qp Sv hR
 generalize N6 2 s 0=N at*
 go_wp2_with fail
 refine HU.out.mono ?_;rintro e w2 ⟨rfl,Qn,PY⟩
 have ob2:=PY.own ob e?
 have hK:NP [] w w2:=(OP.alloc _).call PY (fun x hx=>Or.inr (by
   have:x=w.heap.size:=h?
   omega))
 clear HU OP PY ob HR
 generalize w1.heap.size=rb at*
 by_cases h1:N.1<1
 .have hb:=Pk.out a?
  have HB:=tK hb
  have h1':(N.1:Int)<1:=a?
  clear hb h1
  go_wp2_with fail
  go_ret2
  exact⟨Or.inr ⟨HB.out,_,rfl⟩,hK⟩
 .by_cases h2:8192<N.1
  .have hb:=Pk.out a?
   have HB:=tK hb
   have h1':(1:Int)<=N.1:=a?
   have h2':(8192:Int)<N.1:=a?
   clear hb h1 h2
   go_wp2_with fail
   go_ret2
   exact⟨Or.inr ⟨HB.out,_,rfl⟩,hK⟩
  .have h1':(1:Int)<=N.1:=a?
   have h2':(N.1:Int)<=8192:=a?
   have hx:=HX0.out a?
   obtain⟨n,s1,x⟩:=N
   simp only at*
   subst hx
   have Oo:kc w w2 rb s1 0 () [] s1:=⟨rfl,Qn,ob2,Nf _ _ _ _,fun x hx=>J!,rfl,hK,a?⟩
   have OY:=tK Oo
   have cr:w2.cell? rb=w.heap.size:=ob2.cell 0 b?
   clear Oo Qn ob2 hK HX0 h1 h2
   generalize QT:(n:Int)=nn at*
   have Uf:=tK QT
   clear QT
   go_wp2_with fail
   go_loopw [6,7,8,23] (fun v6 v7 v8 i wr=>∃(j:Nat) (vs:List (ag×Value)) (rest:List UInt8),j<=n/\i=(j:Int)/\kc w wr rb s1 j v6 vs rest) (fun _ _ _ i _=>n-(intOf i).toNat)
   case atStart=>exact⟨0,[],s1,a?,rfl,OY.out⟩
   case round=>
    obtain⟨j,vs,rest,hj,rfl,Oo⟩:=hrel
    obtain⟨p6,c6,rfl⟩:=ah Oo.row
    have cr:wr.cell? rb=w.heap.size:=Oo.box.cell 0 b?
    have Sa:=tK Oo
    by_cases NV:j<n
    .have Q8:=Ii w rest wr Oo.rd
     have⟨QC,Of⟩:=f? Q8 NV
     have i1:(j:Int)<nn:=x?
     clear Q8 Oo OY
     go_wp2_with fail
     refine QC.out.mono ?_;rintro e w3 ⟨r,kv,NU,Oq,P6,hc⟩
     clear QC
     rcases hc with⟨rest',ho,Q4,rfl⟩|⟨ho,rfl⟩
     .have HO:=tK ho
      have⟨ZJ,Pm,Y9⟩:=gg! Q4 NU Oq
      obtain⟨pk,ck,rfl⟩:=ah NU
      have⟨i0,q0,q1,q2,q3⟩:=jB
      have UC:w3.ownsRow w 102 5 (p6,j,c6) j (bw vs):=cF Sa.out.row P6 (fun x hx _ cs hc=>by
       have hx:x=w.heap.size:=h?
       subst hx
       exact absurd (lA Sa.out.rd hc) d?)
      have abh:=tK UC
      have r3:j+1<=maxLen:=m?
      have r4:(j+1)*64<=140737488355328:=a?
      have adS:w.heap.size<=w3.heap.size:=Nk Sa.out.kept.size P6.size
      clear ho Q4 NU Oq UC
      unfold ag.cells
      go_wp2_with (at_builtin;go_must (refine MT _ rfl (.tmp 32) (.tmp 34) 92 rfl w 102 i0 (.agg #[(0:Int),.int .u32 0,.string {data:=#[]},(0:Int),()]) 5 64 underlying92 q0 q1 q2 q3 rfl d? _ _ _ rfl (MH (MH abh.out _) _) (aa (w3+1) 0) 1 1 [.int .i64 r.kind,.int .u32 r.id,.string (bs r.name),.int .i64 r.size,.slice pk r.runs.length ck] rfl rfl ?_ ?_ r3 r4 ?_ ?_))
      .have:=World.news_of_block (Ns (w3.alloc (.cells #[r.kind,(r.id,()),r.name,r.size,(pk,r.runs.length,ck)] 102)) (.cells #[r.kind,(r.id,()),r.name,r.size,(pk,r.runs.length,ck)] 102))
       simpa only[Nd]using this
      .intro u hu;simp at hu;rcases hu with rfl|rfl|rfl|rfl|rfl<;>rfl
      .simp;omega
      intro v6 w6 o6 Po _ _
      have TA:=kc.next Sa.out HO.out P6 ZJ.out Pm.out Y9.out Po o6
      have RA:=tK TA
      clear TA o6 Po
      go_wp2_with fail
      go_roundw
      case rel=>exact⟨j+1,_,_,Of.out,j?,RA.out⟩
      case measure=>(have hh:=Of.out;simp[intOf];omega)
     .have hb:=Se.out (by rw[kG Sa.out.so ho Of.out])
      have HB:=tK hb
      have QY:NP [] w w3:=Sa.out.kept.call P6 (fun x hx=>Or.inr (by
        have:x=w.heap.size:=h?
        omega))
      obtain⟨pk,ck,rfl⟩:=ah NU
      clear hb ho NU
      unfold ag.cells
      go_wp2_with fail
      go_ret2
      exact⟨Or.inr ⟨HB.out,_,rfl⟩,QY.alloc _⟩
    .obtain rfl:j=n:=a?
     have i1:¬((j:Int)<nn):=x?
     have Ph:=KP w rest 0 wr Oo.rd
     have Vq:=tK Oo.new
     have QY:=Oo.kept
     have R7:=Oo.so
     by_cases hr:rest=[]
     .subst hr
      rw[zP]at Ph
      have hb:=Wv.out _ x? x? R7
      have⟨HB,HE⟩:=f? hb Ph
      clear hb Ph Oo OY R7 Sa
      go_wp2_with fail
      refine HE.out.mono ?_;rintro e w' ⟨rfl,rfl⟩
      go_wp2_with fail
      go_ret2
      exact⟨Or.inl ⟨_,_,HB.out,Vq.out,rfl⟩,QY⟩
     .rw[vo hr]at Ph
      have hb:=Y5.out _ _ R7 hr
      have⟨HB,HE⟩:=f? hb Ph
      clear hb Ph Oo OY R7 Sa hr
      go_wp2_with fail
      refine HE.out.mono ?_;rintro e w' ⟨rfl,rfl⟩
      go_wp2_with fail
      go_ret2
      exact⟨Or.inr ⟨HB.out,_,rfl⟩,QY⟩
end
section
open Go.Proofs.Tryz Go.RowKit
variable {w:World} {c:au}
theorem NH:type_of% @Option.mem_toList:=@Option.mem_toList
theorem aO {P:Program} {ops} {o:Oper} {a} {K:Act->World->Prop} {Q:Exit->Act->World->Prop} {E:Prop} (hg:o.guard=none) (d x:Operand) (dT sT:TypeId) (Sq:o.op=Op.call {callee:=Callee.builtin Builtin.append,args:=#[d,x],argTypes:=#[dT,sT]}) (v u) (hd:a.eval d=v) (hx:a.eval x=u) {v' w'} (hr:(Builtin.append_ #[dT,sT] o.type #[v,u]).run P w=.ok v' w') (hK:K (a.put o.dst v') w'):
  if Region.wanted o (yielded ops a.tmps)=true then Oper.wp P o a w K Q else E:=by
 have hw:Region.wanted o (yielded ops a.tmps)=true:=by simp[Region.wanted,hg]
 rw[if_pos hw]
 unfold Oper.wp
 simp[execOp,Sq,resolve,invoke,builtin,hd,hx,hr,Result.andThen]
 exact hK
def gG (w0 w:World) (bx:Nat) (l:List ag):Prop:=
 ∃v vs,ae w bx #[v] 92/\vs.map (·.1)=l/\w.ownsRow w0 102 5 v vs.length (bw vs)/\(∀x∈vs,af w0 x.2 x.1.runs 0 w0.heap.size/\x.1.fits)/\NP [] w0 w/\w0.heap.size<=bx
theorem M22 {A:Prop}(h:A:=by
 by_cases h0:vs=[]
 .subst h0
  obtain⟨p,c,rfl⟩:=ah h3
  exact Or.inl ⟨rfl,p,c,rfl⟩
 .have hp:0<vs.length:=Nu.2 h0
  obtain⟨g,c,rfl,g1,g2,g3,g4,g5⟩:=cU h3 (by simpa using hp)
  refine Or.inr ⟨g,0,c,b?,fun i hi=>?_,Nb _,g2,MG _,fun e=>h0 (List.map_eq_nil_iff.1 e),by simpa using g3,g4⟩
  have hi':i<vs.length:=D?
  have⟨q1,q2⟩:=h4 _ (MJ hi')
  refine⟨[Value.int .i64 vs[i].1.kind,Value.int .u32 vs[i].1.id,Value.string (bs vs[i].1.name),Value.int .i64 vs[i].1.size,vs[i].2],rfl,⟨vs[i].2,by rw[Ny],by rw[Ny];exact(q1.kept0 h5).upto,by rw[Ny];exact q2⟩,fun j u hj=>?_⟩
  rw[Nat.zero_add]
  exact g5 _ _ (jd vs i hi' j u hj)):A:=h
theorem gG.val {w0 bx l} (h:gG w0 w bx l):∃v,ae w bx #[v] 92/\bX w v l 0 w.heap.size/\NP [] w0 w:=by
 obtain⟨v,vs,h1,rfl,h3,h4,h5,h6⟩:=h
 refine⟨v,h1,?_,h5⟩
 exact M22
theorem lY {l:List NS} {k:Int} {j:Nat} (h:j<l.length):(l.take (j+1)).map (·.told k)=(l.take j).map (·.told k)++[(l[j]'h).told k]:=by
 rw[MI h,M0];rfl
theorem M4 {A:Prop}(h:A:=by
 clear hK K
 have P4:=ae.new w3 #[k,(A.id,()),A.name,A.size,(pk,nk,ck)] 102
 have⟨v5,w5,Oe,OG,hgrow5,_,_⟩:=run_append_own_at (P:=prog) (w3.alloc (.cells #[k,(A.id,()),A.name,A.size,(pk,nk,ck)] 102)) w0 92 92 102 i0 _ 5 64 underlying92 hi0 Rh Qc Qx rfl d? _ vs.length (bw vs) (MH Rn.out _) w3 1 1 [.int .i64 k,.int .u32 A.id,.string (bs A.name),.int .i64 A.size,.slice pk nk ck] rfl (fun q u hq=>by
  have WO:=(Nn.1 hq).1
  rw[Ni,Nat.zero_add,P4.cell q ah!]
  rw[<-hq];simp[MZ WO]) l? b! ag! (by have:=K3.out.size;simp;omega)
 obtain⟨p5,c5,rfl⟩:=ah OG
 obtain⟨T,hT⟩:∃T:List Nat,T=((Value.slice pv vs.length cv).ownBlock).toList:=⟨_,rfl⟩
 have Zh:bx∉T:=fun hb=>by
  rw[hT,NH]at hb
  exact aB Rn.out Uk.out d? hb
 have hTi:wr.heap.size∉T:=fun hb=>by
  rw[hT,NH]at hb
  exact aB Rn.out OI3.out d? hb
 have V7:NP T _ w5:=(NP.refl T _).grown hgrow5 (fun q hq=>Or.inl R!)
 have UJ:=tK (V7.own (Uk.out.alloc _) Zh)
 have OI5:=tK (V7.own (OI3.out.alloc _) hTi)
 have K5:=tK ((K3.out.alloc _).grown hgrow5 (fun q hq=>Or.inr (ML Rn.out q hq).1))
 have⟨Si,Ra⟩:=f? OG Oe
 clear OG hgrow5 hT Zh hTi V7 P4 Oe
 refine rD 5 (fun K hK=>?_)
 refine aO rfl _ _ 92 92 rfl _ _ g? g? Ra.out ?_
 refine hK.out _ _ ?_ (fun hHeld=>nM ?_)
 .exact OI5.out.c4
 clear hK K
 have b0:=UJ.out.cell 0 b?
 simp only[List.getElem_toArray,List.getElem_cons_zero]at b0
 have z0:=UJ.out.free 0
 refine rD 6 (fun K hK=>?_)
 go_simp
 refine hK.out _ _ ?_ (fun hHeld=>nM ?_)
 .exact(OI5.out.other (p:=bx) WJ.out _).c4
 clear hK K
 refine Ng c? ?_ _
 go_wp2_with fail
 go_roundw
 case rel=>
  refine⟨j+1,Of.out,j?,.slice p5 (vs.length+1) c5,vs++[(A.told k,.slice pk nk ck)],?_,?_,?_,?_,?_,SP.out⟩
  .exact UJ.out.set 0 _
  .rw[M0,HVS.out,MW,Sm.out];rfl
  .rw[eF,tN,Nq]
   exact bI Si.out ((NP.refl [bx] w5).setCell (p:=bx) (Or.inl b?) _) UJ.out d?
  .intro x hx
   rcases Na.1 hx with hx|hx
   .exact HVR.out x hx
   .have:x=(A.told k,.slice pk nk ck):=h?
    subst this;exact Vq.out
  .exact K5.out.setCell (p:=bx) (Or.inr SP.out) _
 case measure=>(have h:=Of.out;simp[intOf];omega)):A:=h
theorem D7 (k vl l L bx w0 w) (h:aU w0 vl l) (hA:gG w0 w bx L) (hlen:L.length+l.length<=100000) (YK:(Lit.int .i64 k).wf=true):
  am! 181 #[k,vl,bx] w fun e w'=>e=.returned (.tuple #[])/\gG w0 w' bx (L++l.map (·.told k)):=by
 have⟨i0,hi0,Rh,Qc,Qx⟩:=jB
 obtain⟨p,c,rfl⟩:=h.shape
 have⟨H,HA,OZ⟩:=gg! h hA hlen
 have Tg:(l.length:Int)<=1000000:=a?
 clear h hA hlen
 go_enter func181,ntmps181
 go_wp2_with fail
 go_loopw [9] (fun i wr=>∃j:Nat,j<=l.length/\i=(j:Int)/\gG w0 wr bx (L++(l.take j).map (·.told k))) (fun i _=>l.length-(intOf i).toNat)
 case atStart=>exact⟨0,Nb _,rfl,by simpa using HA.out⟩
 case round=>
  obtain⟨j,hj,rfl,hR⟩:=hrel
  by_cases NV:j<l.length
  .have i1:(j:Int)<l.length:=a?
   obtain⟨b,off,kv,rfl,hia,hb,RU,hc2,SA⟩:=H.out.ja j NV
   have PF:=lY (k:=k) NV
   have⟨v,vs,ho,hvs,NU,hvr,hK,hbx⟩:=hR
   have⟨y0,y1,y2,y3⟩:=SA wr hK
   have Rt:=fun W=>Gu k (l[j]'NV) kv W hia.fz
   have SF:af w0 kv ((l[j]'NV).told k).runs 0 w0.heap.size/\((l[j]'NV).told k).fits:=⟨hia.1,NS.dw hia.2.1 YK⟩
   obtain⟨pk,nk,ck,rfl⟩:=hia.fz
   have Y7:vs.length<=100000:=by
    have:=congrArg List.length hvs
    rw[MP,tN,MP,MO]at this
    have:=OZ.out
    omega
   have⟨HVS,Sm,Vq,HVR,HT,Of,Zp,V6,SP⟩:=gb! hvs PF SF hvr Rt NV Y7 hK hbx
   have WJ:Hid (wr.heap.size≠bx):=tK (fun e=>by have:=ho.lt;omega)
   unfold NS.told ag.cells NS.cells at HT
   clear hvs PF SF hvr Rt hia SA hb Y7
   generalize hLA:l[j]'NV=A at*
   clear hLA
   have OB:=tK (ho.alloc (.cells #[(A.id,()),A.name,A.size,(pk,nk,ck)] 113))
   have OI:=tK (ae.new wr #[(A.id,()),A.name,A.size,(pk,nk,ck)] 113)
   have UX:=tK (MH NU (.cells #[(A.id,()),A.name,A.size,(pk,nk,ck)] 113))
   have KW:=tK (hK.alloc (.cells #[(A.id,()),A.name,A.size,(pk,nk,ck)] 113))
   clear ho NU hK hbx NV
   obtain⟨pv,cv,rfl⟩:=ah UX.out
   go_wp2_with fail
   refine MK (S:=(fun W=>(W.cell? wr=(A.id,())/\W.cell? (aa wr 1)=A.name/\W.cell? (aa wr 2)=A.size/\W.cell? (aa wr 3)=(pk,nk,ck)))) c? (by exact OI.out.drew.c4) (fun hHeld=>?_)
   have b1:=OB.out.drew.cell 0 b?
   simp only[List.getElem_toArray,List.getElem_cons_zero]at b1
   refine tS ?_
   refine wpAnyH_ready (rs:=[0,3]) c? b? ?_
   refine(AllReadyH.cons rfl (fun K hK=>?_) (AllReadyH.cons rfl (fun K hK=>?_) AllReadyH.nil))
   .skip
    go_simp
    refine hK.out _ _ ?_ (fun hHeld=>nM ?_)
    .exact OI.out.drew.c4
    clear hK K
    refine rD 3 (fun K hK=>?_)
    go_simp
    ((with_reducible refine(HT.out _).mono ?_));rintro e w3 ⟨rfl,k3⟩
    have Uk:=tK (k3.own OB.out.drew b?)
    have OI3:=tK (k3.own OI.out.drew b?)
    have Rn:=tK (ax (World.ownsRow.drew UX.out) k3 b?)
    have K3:=tK (KW.out.drew.trans k3)
    go_wp2_with fail
    refine hK.out _ _ ?_ (fun hHeld=>nM ?_)
    .exact OI3.out.c4
    clear hK K
    refine rD 4 (fun K hK=>?_)
    go_simp
    refine hK.out _ _ ?_ (fun hHeld=>nM ?_)
    .go_keep
    exact M4
   .skip
    go_simp
    ((with_reducible refine(HT.out _).mono ?_));rintro e w3 ⟨rfl,k3⟩
    have Uk:=tK (k3.own OB.out.drew b?)
    have OI3:=tK (k3.own OI.out.drew b?)
    have Rn:=tK (ax (World.ownsRow.drew UX.out) k3 b?)
    have K3:=tK (KW.out.drew.trans k3)
    go_wp2_with fail
    refine hK.out _ _ ?_ (fun hHeld=>nM ?_)
    .exact OI3.out.c4
    clear hK K
    have b3:=Uk.out.cell 0 b?
    simp only[List.getElem_toArray,List.getElem_cons_zero]at b3
    refine wpAnyH_ready (rs:=[0,4]) c? b? ?_
    refine(AllReadyH.cons rfl (fun K hK=>?_) (AllReadyH.cons rfl (fun K hK=>?_) AllReadyH.nil))
    .skip
     go_simp
     refine hK.out _ _ ?_ (fun hHeld=>nM ?_)
     .exact OI3.out.c4
     clear hK K
     refine rD 4 (fun K hK=>?_)
     go_simp
     refine hK.out _ _ ?_ (fun hHeld=>nM ?_)
     .go_keep
     exact M4
    .skip
     go_simp
     refine hK.out _ _ ?_ (fun hHeld=>nM ?_)
     .go_keep
     clear hK K
     have b4:=(Uk.out.alloc (.cells #[k,(A.id,()),A.name,A.size,(pk,nk,ck)] 102)).cell 0 b?
     simp only[List.getElem_toArray,List.getElem_cons_zero]at b4
     refine rD 0 (fun K hK=>?_)
     go_simp
     refine hK.out _ _ ?_ (fun hHeld=>nM ?_)
     .exact(OI3.out.alloc _).c4
     exact M4
  .obtain rfl:j=l.length:=a?
   rw[MU]at hR
   have HRF:=tK hR
   have i1:¬(l.length:Int)<l.length:=a?
   clear hR
   go_wp2_with fail
   refine bodyPost_end (results_none rfl _ _ _) rfl ?_
   exact⟨rfl,HRF.out⟩
def fm (c:au) (w:World) (e:Ending) (w':World):Prop:=∃u,e=.returned u/\bX w' u (Ov c) 0 w'.heap.size/\NP [] w w'
theorem vS (v c w) (h:dJ w v c) (hlen:c.boxes.length+c.mans.length+c.names.length<=100000):
  am! 110 #[v] w (fm c w):=by
 obtain⟨vb,vm,vn,rfl,hb,hm,hn,_⟩:=h
 have⟨p1,c1,e1⟩:=hb.shape
 have⟨p2,c2,e2⟩:=hm.shape
 have⟨p3,c3,e3⟩:=hn.shape
 obtain⟨W1,hW1⟩:∃W1,W1=w.alloc (.cells #[(c.nextBox,()),(c.nextMan,()),vb,vm,vn] 52):=⟨_,rfl⟩
 have k1:NP [] w W1:=H?
 have HB:=tK fun W L (hA:gG W1 W (w.heap.size+1) L) (hL:L.length=0)=>D7 1 vb _ L _ W1 W (hb.kept0 k1) hA a? d?
 have HM:=tK fun W L (hA:gG W1 W (w.heap.size+1) L) (hL:L.length=c.boxes.length)=>D7 2 vm _ L _ W1 W (hm.kept0 k1) hA a? d?
 have HN:=tK fun W L (hA:gG W1 W (w.heap.size+1) L) (hL:L.length=c.boxes.length+c.mans.length)=>D7 3 vn _ L _ W1 W (hn.kept0 k1) hA a? d?
 subst e1 e2 e3
 have oA:ae W1 w #[(c.nextBox,()),(c.nextMan,()),(p1,c.boxes.length,c1),(p2,c.mans.length,c2),(p3,c.names.length,c3)] 52:=U?
 have RH:W1.heap.size=w.heap.size+1:=by rw[hW1];simp
 have oB:ae (W1.alloc (.cells #[()] 92)) (w.heap.size+1) #[()] 92:=by rw[<-RH];exact ae.new _ _ _
 have hA0:gG W1 (W1.alloc (.cells #[()] 92)) (w.heap.size+1) []:=⟨(),[],oB,rfl,Nf _ _ _ _,fun x hx=>J!,(NP.refl _ _).alloc _,a?⟩
 rw[hW1]at hA0
 have Ow:Hid (∀W,NP [] W1 W->W.cell? (aa w 2)=(p1,c.boxes.length,c1)/\W.cell? (aa w 3)=(p2,c.mans.length,c2)/\W.cell? (aa w 4)=(p3,c.names.length,c3)):=tK (fun W q=>by
  have⟨_,_,x2,x3,x4⟩:=(q.own oA b?).k5
  exact⟨x2,x3,x4⟩)
 rw[hW1]at HB HM HN Ow k1
 have HA0:=tK hA0
 have⟨x2,x3,x4⟩:=Ow.out _ ((NP.refl _ _).alloc (.cells #[()] 92))
 have K1:=tK k1
 have HC:Hid ((([]++c.boxes.map (·.told 1))++c.mans.map (·.told 2))++c.names.map (·.told 3)=Ov c):=tK (by unfold Ov;simp)
 have HL1:Hid (([]++c.boxes.map (·.told 1):List ag).length=c.boxes.length):=tK b?
 have HL2:Hid ((([]++c.boxes.map (·.told 1))++c.mans.map (·.told 2):List ag).length=c.boxes.length+c.mans.length):=tK b?
 clear oA oB hA0 hb hm hn hlen k1 RH hW1 W1
 go_enter func110,ntmps110
 go_wp2_with fail
 refine(HB.out _ _ HA0.out rfl).mono ?_;rintro e w2 ⟨rfl,UG⟩
 have V9:=tK UG
 have⟨u2,ou2,_,kk2⟩:=UG.val
 have⟨x2,x3,x4⟩:=Ow.out _ kk2
 clear UG ou2 kk2
 go_wp2_with fail
 refine(HM.out _ _ V9.out HL1.out).mono ?_;rintro e w3 ⟨rfl,hA3⟩
 have HA3:=tK hA3
 have⟨u3,ou3,_,Ti⟩:=hA3.val
 have⟨x2,x3,x4⟩:=Ow.out _ Ti
 clear hA3 ou3 Ti
 go_wp2_with fail
 refine(HN.out _ _ HA3.out HL2.out).mono ?_;rintro e w4 ⟨rfl,hA4⟩
 rw[HC.out]at hA4
 have⟨u4,ou4,hin4,kk4⟩:=hA4.val
 have HI4:=tK hin4
 have K4:=tK (K1.out.trans kk4)
 have b4:=ou4.cell 0 b?
 simp only[List.getElem_toArray,List.getElem_cons_zero]at b4
 clear hA4 hin4 kk4
 go_wp2_with fail
 go_ret
 exact⟨_,rfl,HI4.out,K4.out⟩
def jg (nb nm:Nat):List UInt8:=[67,65,84,76]++NT nb 4++NT nm 4
def eD (c:au):List UInt8:=jg c.nextBox.toNat c.nextMan.toNat++(if Ov c=[]then[]else fZ (Ov c))
def bN (c:au):List UInt8:=dF (eD c)
open Classical in
noncomputable def cY (c:au):List UInt8×Int:=if OL c then(bN c,0)else([],110)
def lV (c:au) (w:World) (e:Ending) (w':World):Prop:=e=.returned (.tuple #[.string (bs (cY c).1),.int .i64 (cY c).2])/\NP [] w w'
theorem mA {s C w'} (h:cY c=(s,C)) (k:NP [] w w'):lV c w (.returned (.tuple #[s,C])) w':=by
 unfold lV;rw[h];exact⟨rfl,k⟩
theorem jD (h:OL c):∀r∈Ov c,az r=true:=by
 intro r hr
 unfold Ov at hr
 simp only[Na,ND]at hr
 rcases hr with(⟨a,ha,rfl⟩|⟨a,ha,rfl⟩)|⟨a,ha,rfl⟩
 .exact h.boxes.2.1 a ha
 .exact h.mans.2.1 a ha
 .exact h.names.2.1 a ha
theorem fN (c):(Ov c).length=c.boxes.length+c.mans.length+c.names.length:=by unfold Ov;simp[Nat.add_assoc]
theorem By (h:ie c):∀r∈Ov c,r.runs.length<=1000000:=by
 intro r hr
 unfold Ov at hr
 simp only[Na,ND]at hr
 rcases hr with(⟨a,ha,rfl⟩|⟨a,ha,rfl⟩)|⟨a,ha,rfl⟩
 .exact h.1.2 a ha
 .exact h.2.1.2 a ha
 .exact h.2.2.2 a ha
theorem mf (nb nm):(jg nb nm).length=12:=by unfold jg;simp[ak]
theorem L4 (v c w) (h:dJ w v c) (hc:ie c) (hlen:c.boxes.length+c.mans.length+c.names.length<=3000):
  am! 52 #[v] w (lV c w):=by
 have Tq:=tK fun W q=>BQ v c W (h.kept0 q) hc
 have SZ:=tK fun W q=>vS v c W (h.kept0 q) a?
 have VU:=tK fun W u lo hi hu=>L3 u (Ov c) lo hi W hu (by rw[fN];omega) (By hc)
 obtain⟨vb,vm,vn,rfl,hb,hm,hn,Rp,Te⟩:=h
 obtain⟨p1,c1,rfl⟩:=hb.shape
 obtain⟨p2,c2,rfl⟩:=hm.shape
 obtain⟨p3,c3,rfl⟩:=hn.shape
 have⟨b1,b2⟩:=eG Rp
 have⟨b3,b4⟩:=eG Te
 have⟨nb,RG⟩:=MM b1
 have⟨nm,Rb⟩:=MM b3
 have hU1:∀W,am! 102 #[(c.nextBox,())] W fun e w'=>e=.returned (.string (bs (NT nb 4)))/\NP [] W w':=fun W=>by rw[RG];exact eU nb W a?
 have hU2:∀W,am! 102 #[(c.nextMan,())] W fun e w'=>e=.returned (.string (bs (NT nm 4)))/\NP [] W w':=fun W=>by rw[Rb];exact eU nm W a?
 have⟨ZU,YQ⟩:=f? hU1 hU2
 unfold iC at Tq
 unfold fm at SZ
 unfold mU at VU
 have oA:=ae.new w #[(c.nextBox,()),(c.nextMan,()),(p1,c.boxes.length,c1),(p2,c.mans.length,c2),(p3,c.names.length,c3)] 52
 have k0:NP [] w (w.alloc (.cells #[(c.nextBox,()),(c.nextMan,()),(p1,c.boxes.length,c1),(p2,c.mans.length,c2),(p3,c.names.length,c3)] 52)):=(NP.refl _ _).alloc _
 have⟨x0,x1,x2,x3,x4⟩:=oA.k5
 have⟨OA,K0,Xy⟩:=gg! oA k0 hlen
 clear oA k0 hb hm hn Rp Te hc hU1 hU2 b1 b2 b3 b4 hlen
 have abK:NT nb 4=NT c.nextBox.toNat 4/\NT nm 4=NT c.nextMan.toNat 4:=by rw[RG,Rb];exact⟨rfl,rfl⟩
 have HNU:=tK abK
 clear RG Rb abK
 by_cases Pz:OL c
 .have Zg:lK c=0:=by unfold lK;rw[if_pos Pz]
  have Wm:cY c=(bN c,0):=by unfold cY;rw[if_pos Pz]
  obtain⟨Sj,hP⟩:∃P,P=jg c.nextBox.toNat c.nextMan.toNat:=⟨_,rfl⟩
  have Tr:eD c=Sj++(if Ov c=[]then[]else fZ (Ov c)):=by unfold eD;rw[hP]
  have Rf:Hid (Sj.length=12):=tK (by rw[hP];exact mf _ _)
  have HP:Hid (bs (67::65::84::76::NT nb 4)++bs (NT nm 4)=bs Sj):=tK l!
  clear hP
  have Tt:Ov c≠[]->cX (Ov c)=0/\Pv (Ov c)=fZ (Ov c):=fun Pb=>by
   have P9:=jD Pz
   exact B3 (l:=Ov c) (Nu.2 Pb) (fun j hj=>P9 _ (MJ hj))
  have aaz:(∀r∈Ov c,r.fits)->(fZ (Ov c)).length<=700000:=fun hf=>by
   have h1:=ni (l:=Ov c) (fun r hr=>jU (jD Pz r hr) (hf r hr))
   have h2:(Ov c).length<=3000:=by rw[fN];exact Xy.out
   unfold fZ aN
   simp only[tN,ak]
   omega
  rw[Zg]at Tq
  have⟨YT,Vj,aeg,HL2⟩:=gh! Wm Tr Tt aaz
  have S9:Hid ((Ov c).length<=3000):=tK (by rw[fN];exact Xy.out)
  clear Zg Wm Pz Tr Tt aaz
  go_enter func52,ntmps52
  go_wp2_with fail
  refine(Tq.out _ K0.out).mono ?_;rintro e w2 ⟨rfl,k2⟩
  have K2:=tK (K0.out.trans k2)
  have UW:=tK (k2.own OA.out b?)
  go_wp2_with fail
  refine MK (S:=(fun W=>(W.cell? w=(c.nextBox,())/\W.cell? (aa w 1)=(c.nextMan,())))) c? (by exact⟨UW.out.drew.k5.1,UW.out.drew.k5.2.1⟩) (fun hHeld=>?_)
  refine tS ?_
  refine rD 2 (fun K hK=>?_)
  go_simp
  ((with_reducible refine(ZU.out _).mono ?_));rintro e w3 ⟨rfl,k3⟩
  have Uh:=tK (k3.own UW.out.drew b?)
  have K3:=tK (K2.out.drew.trans k3)
  go_wp2_with fail
  refine hK.out _ _ ?_ (fun hHeld=>nM ?_)
  .exact⟨Uh.out.k5.1,Uh.out.k5.2.1⟩
  clear hK K
  refine cT (i:=3) (d:=some 14) (v:=.string (bs ([67,65,84,76]++NT nb 4))) rfl rfl c? c? c? (fun _ _ _ h=>h) (Or.inl ⟨L?,?_⟩) n? ?_
  ·(intro w RI;go_simp;rw[if_neg X?];exact congrArg (fun x=>Result.ok (Next.value (Value.string x)) w) (aw [67,65,84,76] (NT nb 4)))
  try simp only[Act.put,List.setIfInBounds_toArray,List.set_cons_zero,List.set_cons_succ]
  refine rD 6 (fun K hK=>?_)
  go_simp
  ((with_reducible refine(YQ.out _).mono ?_));rintro e w4 ⟨rfl,k4⟩
  have Sh:=tK (k4.own Uh.out b?)
  have K4:=tK (K3.out.trans k4)
  go_wp2_with fail
  refine hK.out _ _ ?_ (fun hHeld=>nM ?_)
  .exact⟨Sh.out.k5.1,Sh.out.k5.2.1⟩
  clear hK K
  refine cT (i:=7) (d:=some 18) (v:=Sj) rfl rfl c? c? c? (fun _ _ _ h=>h) (Or.inl ⟨L?,?_⟩) n? ?_
  ·(intro w RI;go_simp;rw[if_neg (by rw[NQ,NQ,ak];simp only[Nj,ak];omega)];exact congrArg (fun x=>Result.ok (Next.value (Value.string x)) w) HP.out)
  try simp only[Act.put,List.setIfInBounds_toArray,List.set_cons_zero,List.set_cons_succ]
  refine tS ?_
  refine Ng c? ?_ _
  have hx:=Sh.out.k5
  have⟨x0,x1,x2,x3,x4⟩:=hx
  go_wp2_with fail
  refine(SZ.out _ K4.out).mono ?_;rintro e w5 ⟨u,rfl,hu,k5⟩
  have K5:=tK (K4.out.trans k5)
  obtain⟨pu,cu,rfl⟩:=bS.shape hu
  have Oq:∀r∈Ov c,r.fits:=fun r hr=>by
   obtain⟨i,hi,rfl⟩:=List.getElem_of_mem hr
   have⟨_,_,_,_,_,_,_,_,_,_,hf,_⟩:=bX.at_ hu i hi
   exact hf
  have HTL:=tK (HL2.out Oq)
  have HU:=tK hu
  by_cases h0:Ov c=[]
  .have SC:(Ov c).length=0:=aa!
   have hb:=Vj.out
   rw[if_pos h0,NO]at hb
   have HB:=tK hb
   have TO:=tK fun W=>Bv Sj W (by have:=Rf.out;omega)
   clear hu Oq hb h0
   rw[SC]
   clear SC
   go_wp2_with fail
   refine(TO.out _).mono ?_;rintro e w6 ⟨rfl,k6⟩
   go_wp2_with fail
   go_ret2
   exact mA (by rw[YT.out];unfold bN;rw[HB.out]) (K5.out.trans k6)
  .have hp:0<(Ov c).length:=Nu.2 h0
   have hp1:(0:Int)<(Ov c).length:=a?
   have hp2:((Ov c).length:Int)<=3000:=by have:=S9.out;omega
   have⟨t1,t2⟩:=aeg.out h0
   have hb:=Vj.out
   rw[if_neg h0]at hb
   have hT:=VU.out w5 (pu,(Ov c).length,cu) _ _ hu
   rw[t1,t2]at hT
   obtain⟨TX,hTX⟩:∃T,T=fZ (Ov c):=⟨_,rfl⟩
   rw[<-hTX]at hT hb
   have UY:=HTL.out
   rw[<-hTX]at UY
   have⟨HT,HB⟩:=f? hT hb
   have Qc:(bs Sj).size=12:=by rw[NQ];exact Rf.out
   have Qx:(bs TX).size<=700000:=by rw[NQ];exact UY
   have HBA:Hid (bs Sj++bs TX=bs (Sj++TX)):=tK (aw _ _)
   have TO:=tK fun W=>Bv (Sj++TX) W (by have:=Rf.out;rw[tN];omega)
   clear hu Oq hb h0 hp hT hTX UY t1 t2
   generalize (Ov c).length=n at*
   go_wp2_with fail
   refine(HT.out).mono ?_;rintro e w6 ⟨rfl,k6⟩
   go_wp2_with fail
   rw[HBA.out]
   refine(TO.out _).mono ?_;rintro e w7 ⟨rfl,k7⟩
   go_wp2_with fail
   go_ret2
   exact mA (by rw[YT.out];unfold bN;rw[HB.out]) ((K5.out.trans k6).trans k7)
 .have Zg:lK c=110:=by unfold lK;rw[if_neg Pz]
  have Wm:cY c=([],110):=by unfold cY;rw[if_neg Pz]
  rw[Zg]at Tq
  have YT:=tK Wm
  clear Zg Wm Pz
  go_enter func52,ntmps52
  go_wp2_with fail
  refine(Tq.out _ K0.out).mono ?_;rintro e w2 ⟨rfl,k2⟩
  go_wp2_with fail
  go_ret2
  exact mA YT.out (K0.out.trans k2)
theorem M51 {A:Prop}(h:A:=by
 rw[MU,<-HEQ.out]at NU
 obtain⟨po,co,rfl⟩:=ah NU
 have i1:¬(L.length:Int)<L.length:=a?
 have Oy:=aF NU K2.out.size
 have HF:=tK Oy
 have HKF:=tK (K2.out.trans hK)
 clear NU Oy hK
 go_wp2_with fail
 go_ret
 exact⟨_,rfl,HF.out,HKF.out⟩):A:=h
theorem M39 {A:Prop}(h:A:=by
 intro v' w5 Ot Pi
 have HOW:=tK Ot
 have HK5:=tK (W4.out.grown Pi (fun q hq=>Or.inr (ML Pm.out q hq).1))
 obtain⟨p5,c5,rfl⟩:=ah Ot
 clear Ot Pi
 go_wp2_with fail
 go_roundw
 case rel=>exact⟨k+1,Of.out,j?,by rw[Sm.out,tN,show NW (F++R.runs)=NW F++NW R.runs from by simp[NW]];exact HOW.out,HK5.out⟩
 case measure=>(have h:=Of.out;simp[intOf];omega)):A:=h
theorem vV (v c w) (h:dJ w v c) (hlen:c.boxes.length+c.mans.length+c.names.length<=5000) (Q2:(OK c).length<=1000000):
  am! 115 #[v] w (bh (OK c) w):=by
 have SZ:=tK fun W q=>vS v c W (h.kept0 q) a?
 unfold fm at SZ
 obtain⟨vb,vm,vn,rfl,hb,hm,hn,_⟩:=h
 obtain⟨p1,c1,rfl⟩:=hb.shape
 obtain⟨p2,c2,rfl⟩:=hm.shape
 obtain⟨p3,c3,rfl⟩:=hn.shape
 have oA:=ae.new w #[(c.nextBox,()),(c.nextMan,()),(p1,c.boxes.length,c1),(p2,c.mans.length,c2),(p3,c.names.length,c3)] 52
 have k0:NP [] w (w.alloc (.cells #[(c.nextBox,()),(c.nextMan,()),(p1,c.boxes.length,c1),(p2,c.mans.length,c2),(p3,c.names.length,c3)] 52)):=(NP.refl _ _).alloc _
 have⟨x0,x1,x2,x3,x4⟩:=oA.k5
 have K0:=tK k0
 have Xy:Hid ((Ov c).length<=5000):=tK (by rw[fN];exact hlen)
 have Wo:Hid (∀k,(((Ov c).take k).map (·.runs)).flatten.length<=1000000):=tK (fun k=>by
  refine Nk ?_ Q2
  unfold OK
  conv=>rhs;rw[<-List.take_append_drop k (Ov c),M0,Nv,tN]
  omega)
 have HEQ:Hid (OK c=((Ov c).map (·.runs)).flatten):=tK rfl
 clear oA k0 hb hm hn hlen Q2
 generalize Ov c=L at*
 unfold bh
 generalize OK c=RC at*
 go_enter func115,ntmps115
 go_wp2_with fail
 refine(SZ.out _ K0.out).mono ?_;rintro e w2 ⟨u,rfl,hu,k2⟩
 have K2:=tK (K0.out.trans k2)
 obtain⟨pu,cu,rfl⟩:=bS.shape hu
 have HU:=tK hu
 have hL1:(L.length:Int)<=5000:=by have:=Xy.out;omega
 clear hu
 go_wp2_with fail
 go_loopw [3,9] (fun o i wr=>∃k:Nat,k<=L.length/\i=(k:Int)/\wr.ownsRow w2 128 2 o ((L.take k).map (·.runs)).flatten.length (NW ((L.take k).map (·.runs)).flatten)/\NP [] w2 wr) (fun _ i _=>L.length-(intOf i).toNat)
 case atStart=>exact⟨0,Nb _,rfl,Nf _ _ _ _,NP.refl _ _⟩
 case round=>
  obtain⟨k,hk,rfl,NU,hK⟩:=hrel
  by_cases NV:k<L.length
  .have i1:(k:Int)<L.length:=a?
   obtain⟨b,off,kv,rfl,r0,r1,r2,r3,r4,Oe,Oq,US,hbh,hih⟩:=bX.at_ (HU.out.kept0 hK) k NV
   have PF:((L.take (k+1)).map (·.runs)).flatten=((L.take k).map (·.runs)).flatten++(L[k]'NV).runs:=by
    rw[MI NV,M0,Nv];simp
   have ht1:=Wo.out (k+1)
   rw[PF,tN]at ht1
   obtain⟨pr,cr,rfl⟩:=Oe.shape
   obtain⟨po,co,rfl⟩:=ah NU
   have⟨Of,Sm,Wf⟩:=gg! NV PF ht1
   have Ra:=tK (Oe.kept0 ((NP.refl [] wr).alloc (.cells #[.int .i64 (L[k]'NV).kind,.int .u32 (L[k]'NV).id,.string (bs (L[k]'NV).name),.int .i64 (L[k]'NV).size,(pr,(L[k]'NV).runs.length,cr)] 102)))
   have Pm:=tK (MH NU (.cells #[.int .i64 (L[k]'NV).kind,.int .u32 (L[k]'NV).id,.string (bs (L[k]'NV).name),.int .i64 (L[k]'NV).size,(pr,(L[k]'NV).runs.length,cr)] 102))
   have W4:=tK (hK.alloc (.cells #[.int .i64 (L[k]'NV).kind,.int .u32 (L[k]'NV).id,.string (bs (L[k]'NV).name),.int .i64 (L[k]'NV).size,(pr,(L[k]'NV).runs.length,cr)] 102))
   have oR:=ae.new wr #[.int .i64 (L[k]'NV).kind,.int .u32 (L[k]'NV).id,.string (bs (L[k]'NV).name),.int .i64 (L[k]'NV).size,(pr,(L[k]'NV).runs.length,cr)] 102
   have⟨y0,y1,y2,y3,y4⟩:=oR.k5
   clear Oe Oq US hbh hih PF ht1 NU oR
   generalize Ud:(L[k]'NV)=R at*
   clear Ud NV
   generalize ((L.take k).map (·.runs)).flatten=F at*
   go_wp2_with (at_builtin;go_must (refine gR rfl (.tmp 13) (.tmp 15) rfl w2 _ _ _ rfl Pm.out _ R.runs _ _ rfl Ra.out (by have:=Wf.out;unfold maxLen;omega) (by have:=Wf.out;omega) (by have:=W4.out.size;omega) ?_))
   exact M39
  .obtain rfl:k=L.length:=a?
   exact M51
structure VC where
 kind:Int
 id:Int
 name:List UInt8
 bytes:List UInt8
def VC.told (x:VC):ag:=⟨x.kind,x.id,x.name,0,[]⟩
def Oh (v:VS):List (Int×Int):=Pr [(2+v.s.journal,v.s.sectors-(2+v.s.journal))] (OK v.c++v.s.runs)
noncomputable def P5 (c:au) (l:List VC):Int:=if l.length<1\/8192<l.length then 3 else if l.all (fun x=>Oj x.kind||x.bytes.isEmpty)then(N8 c (l.map VC.told)).2 else 1
def jL (s:List ag×List (Int×Int)) (x:VC):List ag×List (Int×Int):=
 if Oj x.kind then(s.1++[⟨x.kind,x.id,x.name,x.bytes.length,Om s.2 (On x.bytes.length)⟩],Pr s.2 (Om s.2 (On x.bytes.length)))else(s.1++[x.told],s.2)
def Ob (left:List (Int×Int)) (l:List VC) (k:Nat):List ag×List (Int×Int):=(l.take k).foldl jL ([],left)
def gW (left:List (Int×Int)) (l:List VC):Prop:=∀k (h:k<l.length),Oj l[k].kind=true->OT (Ob left l k).2 (On l[k].bytes.length)=0
theorem fI (left l k) (h:k<l.length):Ob left l (k+1)=jL (Ob left l k) l[k]:=by
 unfold Ob
 exact abI
theorem gp (left l):∀k,k<=l.length->(Ob left l k).1.length=k
 |0,_=>rfl
 |k+1,h=>by
  rw[fI left l k a?]
  have:=gp left l k a?
  unfold jL
  split<;>simp[this]
def OH:List (VS->VS×Int)->VS->VS×Int
 |[],d=>(d,0)
 |f::fs,d=>if(f d).2=0 then OH fs (f d).1 else f d
def kr (fs:List (VS->VS×Int)) (d:VS) (k:Nat):VS:=(fs.take k).foldl (fun x f=>(f x).1) d
theorem q8 (fs d k) (h:k<fs.length):kr fs d (k+1)=(fs[k] (kr fs d k)).1:=by
 unfold kr
 exact abI
theorem qV:∀(fs:List (VS->VS×Int)) (d:VS) (k:Nat) (h:k<fs.length),(∀i (hi:i<k),((fs[i]' a?) (kr fs d i)).2=0)->(fs[k] (kr fs d k)).2≠0->OH fs d=fs[k] (kr fs d k)
 |[],d,k,h,_,_=>by simp at h
 |f::fs,d,0,h,_,h2=>by
  have h2':(f d).2≠0:=h2
  show(if(f d).2=0 then _ else f d)=f d
  rw[if_neg h2']
 |f::fs,d,k+1,h,h1,h2=>by
  have h3:(f d).2=0:=h1 0 a?
  show(if(f d).2=0 then OH fs (f d).1 else f d)=_
  rw[if_pos h3]
  exact qV fs (f d).1 k T? (fun i hi=>h1 (i+1) a?) h2
theorem tp:∀(fs:List (VS->VS×Int)) (d:VS),(∀i (hi:i<fs.length),(fs[i] (kr fs d i)).2=0)->OH fs d=(kr fs d fs.length,0)
 |[],d,_=>rfl
 |f::fs,d,h1=>by
  have h3:(f d).2=0:=h1 0 b?
  show(if(f d).2=0 then OH fs (f d).1 else f d)=_
  rw[if_pos h3]
  exact tp fs (f d).1 (fun i hi=>h1 (i+1) D?)
def aZ (f:DK->DK×Int) (v:VS):VS×Int:=(⟨(f v.d).1,v.s,v.c,v.dead⟩,(f v.d).2)
def dH (s:SB) (used:Int):SB:=⟨s.seq+1,s.sectors,s.journal,used,s.size,s.runs⟩
def BF (s:SB) (size:Int) (runs:List (Int×Int)):SB:=⟨s.seq+1,s.sectors,s.journal,0,size,runs⟩
def bg (c:au) (tx:List UInt8) (v:VS):VS×Int:=
 if(Oa v.d v.s.journal v.s.used tx).2=0 then
  (if(aG [aA,cN (dH v.s (v.s.used+tx.length))] (Oa v.d v.s.journal v.s.used tx).1).2=0
  then(⟨(aG [aA,cN (dH v.s (v.s.used+tx.length))] (Oa v.d v.s.journal v.s.used tx).1).1,dH v.s (v.s.used+tx.length),c,v.dead⟩,0)
  else(⟨(aG [aA,cN (dH v.s (v.s.used+tx.length))] (Oa v.d v.s.journal v.s.used tx).1).1,v.s,v.c,v.dead⟩,(aG [aA,cN (dH v.s (v.s.used+tx.length))] (Oa v.d v.s.journal v.s.used tx).1).2))
 else(⟨(Oa v.d v.s.journal v.s.used tx).1,v.s,v.c,v.dead⟩,(Oa v.d v.s.journal v.s.used tx).2)
noncomputable def wk (s:SB) (t:List UInt8) (runs:List (Int×Int)) (d:DK):DK×Int:=aG [fun d=>OQ d runs t,aA,cN (BF s t.length runs)] d
noncomputable def ir (c:au) (t:List UInt8) (runs:List (Int×Int)) (v:VS):VS×Int:=
 if(wk v.s t runs v.d).2=0 then(⟨(wk v.s t runs v.d).1,BF v.s t.length runs,c,v.dead⟩,0)else(⟨(wk v.s t runs v.d).1,v.s,v.c,v.dead⟩,(wk v.s t runs v.d).2)
def Qk (p:VS×Int):VS×Int:=(⟨p.1.d,p.1.s,p.1.c,p.1.dead||p.2==90⟩,p.2)
noncomputable def Qj:List VC->List ag->List (DK->DK×Int)
 |x::l,r::recs=>if Oj x.kind then(fun d=>OQ d r.runs x.bytes)::Qj l recs else Qj l recs
 |_,_=>[]
noncomputable def gP (l:List VC) (recs:List ag):List (VS->VS×Int):=(Qj l recs).map aZ
theorem kn:∀(fs gs:List (VS->VS×Int)) (v:VS),OH (fs++gs) v=if(OH fs v).2=0 then OH gs (OH fs v).1 else OH fs v
 |[],gs,v=>rfl
 |f::fs,gs,v=>by
  show(if(f v).2=0 then OH (fs++gs) (f v).1 else f v)=_
  have e:OH (f::fs) v=if(f v).2=0 then OH fs (f v).1 else f v:=rfl
  rw[e]
  by_cases h:(f v).2=0
  .rw[if_pos h,if_pos h,kn fs gs]
  .rw[if_neg h,if_neg h,if_neg h]
theorem nU:∀(fs:List (DK->DK×Int)) (v:VS),OH (fs.map aZ) v=aZ (aG fs) v
 |[],v=>rfl
 |f::fs,v=>by
  show(if(aZ f v).2=0 then OH (fs.map aZ) (aZ f v).1 else aZ f v)=_
  rw[nU fs]
  have e:aG (f::fs) v.d=if(f v.d).2=0 then aG fs (f v.d).1 else f v.d:=rfl
  show _=((⟨(aG (f::fs) v.d).1,v.s,v.c,v.dead⟩:VS),(aG (f::fs) v.d).2)
  rw[e]
  by_cases h:(f v.d).2=0
  .rw[if_pos h,if_pos (show(aZ f v).2=0 from h)];rfl
  .rw[if_neg h,if_neg (show ¬(aZ f v).2=0 from h)];rfl
open Classical in
noncomputable def eX (v:VS) (l:List VC):VS×Int:=
 if v.dead=true then(v,90)
 else if P5 v.c l≠0 then(v,P5 v.c l)
 else if ¬gW (Oh v) l then(v,100)
 else if(N8 v.c (Ob (Oh v) l l.length).1).2≠0 then(v,(N8 v.c (Ob (Oh v) l l.length).1).2)
 else if cX (Ob (Oh v) l l.length).1≠0 then(v,cX (Ob (Oh v) l l.length).1)
 else if((Pv (Ob (Oh v) l l.length).1).length:Int)<=v.s.journal*128-v.s.used then
  Qk (OH (gP l (Ob (Oh v) l l.length).1++[aZ aA,bg (N8 v.c (Ob (Oh v) l l.length).1).1 (Pv (Ob (Oh v) l l.length).1)]) v)
 else if(cY (N8 v.c (Ob (Oh v) l l.length).1).1).2≠0 then(v,(cY (N8 v.c (Ob (Oh v) l l.length).1).1).2)
 else if OT (Ob (Oh v) l l.length).2 (On (cY (N8 v.c (Ob (Oh v) l l.length).1).1).1.length)≠0 then(v,100)
 else Qk (OH (gP l (Ob (Oh v) l l.length).1++[ir (N8 v.c (Ob (Oh v) l l.length).1).1 (cY (N8 v.c (Ob (Oh v) l l.length).1).1).1 (Om (Ob (Oh v) l l.length).2 (On (cY (N8 v.c (Ob (Oh v) l l.length).1).1).1.length))]) v)
def lN (c:au) (k id:Int) (nm:List UInt8):NS×Bool:=if k=1 then PI (fun x=>x.id==id) c.boxes else if k=2 then PI (fun x=>x.id==id) c.mans else PI (fun x=>x.name==nm) c.names
noncomputable def sH (v:VS) (k id:Int) (nm:List UInt8):List UInt8×Int×VS:=
 if v.dead=true then([],90,v)
 else if ¬(k=1\/k=2\/k=3)then([],1,v)
 else if(lN v.c k id nm).2=false then([],6,v)
 else(PV v.d (lN v.c k id nm).1.runs (lN v.c k id nm).1.size,N7 v.d (lN v.c k id nm).1.runs (lN v.c k id nm).1.size,⟨v.d,v.s,v.c,N7 v.d (lN v.c k id nm).1.runs (lN v.c k id nm).1.size==90⟩)
structure Mx (m:Nat) (v:VS):Prop where
 may:v.s.may
 cat:OL v.c
 few:v.c.boxes.length+v.c.mans.length+v.c.names.length<=m
 seq:v.s.seq<=m
 jr:v.s.journal<=30
theorem l7 (h:OL c):(OK c).length<=16*(c.boxes.length+c.mans.length+c.names.length):=by
 have h1:=jD h
 have h2:=fN c
 unfold OK
 generalize Ov c=l at*
 rw[<-h2]
 clear h2
 induction l with
 |nil=>simp
 |cons r t ih=>
  have h3:=nH (h1 r b?)
  have h4:=ih (fun q hq=>h1 q (by simp[hq]))
  simp only[List.map_cons,List.flatten_cons,tN,Nj]
  omega
theorem CA (al):∀(d:DK) (s:List UInt8),dS d->d.down=false->d.fuse<0->(∀a∈al,a<d.stand.length)->al.Nodup->
  ∃d',gN al d s=(d',0)/\d'.stand=d.stand/\d'.down=false/\d'.fuse=d.fuse/\dS d'/\d'.ops=d.ops+al.length/\d'.waits.length=d.waits.length+al.length/\(∀i,i∉al->seen d' i=seen d i)/\∀i (h:i<al.length),seen d' al[i]=aC (s.drop (128*i)):=by
 induction al with
 |nil=>
  intro d s hf hd Xr _ _
  exact⟨d,rfl,rfl,hd,rfl,hf,rfl,rfl,fun _ _=>rfl,fun i h=>absurd h (Nat.not_lt_zero _)⟩
 |cons a t ih=>
  intro d s hf hd Xr NV hnd
  have ha:=NV a MY
  have⟨Rm,hnt⟩:=List.nodup_cons.1 hnd
  have⟨hc,hn⟩:=vW (s:=s) hd Xr ha
  have RP:(cW d a (aC s)).down=false:=by
   show(if d.fuse=0 then true else d.down)=false
   rw[if_neg a?,hd]
  have hfn:(cW d a (aC s)).fuse=d.fuse:=by
   show(if 0<d.fuse then d.fuse-1 else d.fuse)=d.fuse
   rw[if_neg a?]
  have Oq:dS (cW d a (aC s)):=by rw[<-hn];exact hf.write _ _
  have aab:(cW d a (aC s)).ops=d.ops+1:=rfl
  have WH:(cW d a (aC s)).waits.length=d.waits.length+1:=by show(d.waits++[_]).length=_;rw[tN];rfl
  have⟨d',e1,e2,e3,e4,e5,eo,ew,e6,e7⟩:=ih (cW d a (aC s)) (s.drop 128) Oq RP (by rw[hfn];exact Xr) (fun x hx=>NV x (Nz _ hx)) hnt
  refine⟨d',?_,e2,e3,e4.trans hfn,e5,by rw[eo,aab,Nj];omega,by rw[ew,WH,Nj];omega,fun i hi=>?_,fun i h=>?_⟩
  .rw[gN,if_pos hc,hn,e1]
  .rw[e6 i (fun h=>hi (Nz _ h)),jc,if_neg (fun h=>hi (by subst h;exact MY))]
  .cases i with
   |zero=>
    show seen d' a=_
    rw[e6 a Rm,jc,if_pos rfl];rfl
   |succ i=>
    have:=e7 i T?
    rw[List.drop_drop,show 128+128*i=128*(i+1)from by omega]at this
    exact this
theorem yM (al):∀(d:DK) (s:List UInt8),(∀i (h:i<al.length),seen d al[i]=aC (s.drop (128*i)))->cz d al=mS al.length s:=by
 induction al with
 |nil=>intro d s _;rfl
 |cons a t ih=>
  intro d s h
  have e:cz d (a::t)=seen d a++cz d t:=rfl
  have h0:=h 0 b?
  simp only[Nat.mul_zero,List.drop_zero,List.getElem_cons_zero]at h0
  rw[e,Nj,mS,h0,ih d (s.drop 128) (fun i hi=>by
   have:=h (i+1) D?
   rw[List.drop_drop,show 128+128*i=128*(i+1)from by omega]
   simpa using this)]
theorem Dw {d d'} (al) (h:∀a∈al,seen d' a=seen d a):cz d' al=cz d al:=by
 unfold cz
 congr 1
 exact List.map_congr_left h
end
end Go.Proofs.YtdkimcnlhmhpgaaGreat

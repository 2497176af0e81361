/- -/
import Derived.Test.YtdkimcnlhmhpgaaGreatM19
set_option maxHeartbeats 32000000
set_option maxRecDepth 100000
namespace Go.Proofs.YtdkimcnlhmhpgaaGreat
section
open Go.Proofs.Tryz Go.RowKit
theorem mG (n:Nat) (hn:n<=1000000000) (w:World):(Instr.makeSlice 39 (n:Int) (n:Int)).run prog w=.ok (w.heap.size,n,n) (w.alloc (.cells (Array.replicate n false) 4)):=by
 have⟨i0,h1,h2,h3,h4⟩:=nP
 exact lu _ _ i0 _ underlying39 h1 h2 h3 rfl n Z! _a w
def Re (l:List UInt8) (m:Nat):Nat->Value:=fun j=>.bool (decide (j<m)&&mb l j)
theorem yW (l:List UInt8) (k m:Nat) (hk:k<l.length) (hm:m<8):Re l (8*k+m+1) (8*k+m)=.bool (((l[k].toNat/2^m:Nat):Int)%2==1):=by
 unfold Re mb
 have e1:(8*k+m)/8=k:=_a
 have e2:(8*k+m)%8=m:=_a
 rw[e1,e2,MZ hk]
 simp only[Nat.testBit_eq_decide_div_mod_eq]
 rw[MV _a,Bool.true_and]
 congr 1
 by_cases h:l[k].toNat/2^m%2=1
 .rw[MV h];symm;simp only[beq_iff_eq];omega
 .rw[MS h];symm;simp only[Nl,ne_eq];omega
theorem KQ (s:ByteArray) (w:World) (hs:s.size<=1000000):
  am! 254 #[.string s] w fun e w'=>e=.returned (w.heap.size,8*s.size,8*s.size)/\Rw w' w 4 (8*s.size) (fun j=>.bool (mb s.data.toList j))/\NP [] w w':=by
 have PX:s.data.toList.length=s.size:=_b
 have TO:=tK PX
 clear PX
 have RO:=mG (8*s.size) _a
 have e8:((8*s.size:Nat):Int)=8*(s.size:Int):=_a
 rw[e8]at RO
 have r0:=Rw.made w 4 (8*s.size) false
 clear e8
 go_enter func254,ntmps254
 go_wp2_with fail
 go_loopw [4] (fun i wr=>∃k:Nat,k<=s.size/\i=(k:Int)/\Rw wr w 4 (8*s.size) (Re s.data.toList (8*k))/\NP [] w wr) (fun i _=>s.size-(intOf i).toNat)
 case atStart=>exact⟨0,_a,rfl,r0.congr (fun j _=>by unfold Re;simp),(NP.refl _ _).alloc _⟩
 case round=>
  obtain⟨k,hk,rfl,hR,hK⟩:=hrel
  by_cases NV:k<s.size
  .obtain⟨wo,rfl⟩:∃wo:World,wo=wr:=⟨_,rfl⟩
   have hg:s.data.toList[k]' L!=s[k]:=rfl
   have Oo:=fun m hm=>yW s.data.toList k m L! hm
   rw[hg]at Oo
   have OY:=tK Oo
   have hc:s[k].toNat<256:=s[k].toNat_lt
   clear Oo hg
   generalize hcc:s[k].toNat=c at*
   go_wp2_with fail
   clear hcc
   go_loopw [5,6] (fun b j wr=>∃m:Nat,m<=8/\j=(m:Int)/\b=.int .u8 ((c/2^m:Nat):Int)/\Rw wr w 4 (8*s.size) (Re s.data.toList (8*k+m))/\NP [] w wr) (fun _ j _=>8-(intOf j).toNat)
   case atStart=>exact⟨0,_a,rfl,_b,hR,hK⟩
   case round=>
    obtain⟨m,hm,rfl,rfl,hR,hK⟩:=hrel
    by_cases hm8:m<8
    .have Z1:8*k+m<8*s.size:=_a
     have c0:=hR.cell (8*k+m) Z1
     have f0:=hR.free (8*k+m)
     have hn:=hR.set (8*k+m) Z1 (.bool (((c/2^m:Nat):Int)%2==1)) (Re s.data.toList (8*k+(m+1))) (OY.out m hm8) (fun j _ hj=>by unfold Re;congr 2;rw[decide_eq_decide];omega)
     have PY:NP [] w (wr.setCell (aa w (8*k+m)) (.bool (((c/2^m:Nat):Int)%2==1))):=hK.setCell (Or.inr (MG _)) _
     have hd:c/2^(m+1)=c/2^m/2:=by rw[Nat.pow_succ,Nat.div_div_eq_div_mul]
     have HD:=tK hd
     have hb:c/2^m<256:=Nat.lt_of_le_of_lt (Nat.div_le_self _ _) hc
     generalize Re s.data.toList (8*k+m) (8*k+m)=v at*
     clear hR hK hd
     generalize c/2^m=d at*
     go_wp2_with fail
     go_roundw
     case rel=>exact⟨m+1,_a,_j,by rw[HD.out];rfl,hn,PY⟩
     case measure=>simp[intOf];omega
    .obtain rfl:m=8:=_a
     go_wp2_with fail
     go_roundw
     case rel=>exact⟨k+1,_a,_j,hR.congr (fun j _=>by rw[show 8*(k+1)=8*k+8 from by omega]),hK⟩
     case measure=>simp[intOf];omega
  .obtain rfl:k=s.size:=_a
   have hf:Rw wr w 4 (8*s.size) (fun j=>.bool (mb s.data.toList j)):=hR.congr (fun j hj=>by unfold Re;rw[MV hj,Bool.true_and])
   go_wp2_with fail
   go_ret
   exact⟨rfl,hf,hK⟩
def Rc (i:Nat):Nat->Value:=fun j=>.bool (decide (i<=j)&&pb j)
theorem yu (i:Nat) (_:i<=32):Rc i i=.bool (((4374732215/2^(32-i):Nat):Int)%2==1):=by
 unfold Rc pb
 rw[MV (MG _),Bool.true_and,Nat.testBit_eq_decide_div_mod_eq]
 congr 1
 by_cases h:4374732215/2^(32-i)%2=1
 .rw[MV h];symm;simp only[beq_iff_eq];omega
 .rw[MS h];symm;simp only[Nl,ne_eq];omega
theorem Lh (i:Nat):4374732215/2^i<=4374732215:=Nat.div_le_self _ _
def IP (w:World) (n i:Value) (wr:World):Prop:=
 ((∃k:Nat,k<=32/\i=(k:Int)/\n=.int .u64 ((4374732215/2^(32-k):Nat):Int)/\Rw wr w 4 33 (Rc (k+1)))\/(i=(-1:Int)/\Rw wr w 4 33 (Rc 0)))/\NP [] w wr
theorem KM (w:World):
  am! 255 #[] w fun e w'=>e=.returned (.slice (some w) 33 33)/\Rw w' w 4 33 (fun j=>.bool (pb j))/\NP [] w w':=by
 have RO:=mG 33 _a
 have r0:=Rw.made w 4 33 false
 generalize Array.replicate 33 (Value.bool false)=cs at*
 have e8:((33:Nat):Int)=33:=rfl
 rw[e8]at RO
 clear e8
 go_enter func255,ntmps255
 go_wp2_with fail
 go_loopw [1,3] (IP w) (fun _ i _=>(intOf i+1).toNat)
 case atStart=>exact⟨Or.inl ⟨32,_a,rfl,rfl,r0.congr (fun j hj=>by unfold Rc;rw[MS _a];rfl)⟩,(NP.refl _ _).alloc _⟩
 case round=>
  obtain⟨⟨k,hk,rfl,rfl,hR⟩|⟨rfl,hR⟩,hK⟩:=hrel
  .have Z1:k<33:=_a
   have c0:=hR.cell k Z1
   have f0:=hR.free k
   have hn:=hR.set k Z1 (.bool (((4374732215/2^(32-k):Nat):Int)%2==1)) (Rc k) (yu k hk) (fun j _ hj=>by unfold Rc;congr 2;rw[decide_eq_decide];omega)
   have PY:NP [] w (wr.setCell (aa w k) (.bool (((4374732215/2^(32-k):Nat):Int)%2==1))):=hK.setCell (Or.inr (MG _)) _
   have hb:=Lh (32-k)
   have hd:∀m,k=m+1->4374732215/2^(32-m)=4374732215/2^(32-k)/2:=fun m hm=>by rw[show 32-m=(32-k)+1 from by omega,Nat.pow_succ,Nat.div_div_eq_div_mul]
   have HD:=tK hd
   generalize Rc (k+1) k=v at*
   clear hR hK hd
   generalize 4374732215/2^(32-k)=d at*
   have hd:d<4374732216:=_a
   clear hb
   go_wp2_with fail
   go_roundw
   case rel=>
    cases k with
    |zero=>exact⟨Or.inr ⟨rfl,hn⟩,PY⟩
    |succ m=>exact⟨Or.inl ⟨m,_a,_j,by rw[HD.out m rfl];rfl,hn⟩,PY⟩
   case measure=>simp[intOf]
  .have hf:Rw wr w 4 33 (fun j=>.bool (pb j)):=hR.congr (fun j hj=>by unfold Rc;rw[MV (Nb _),Bool.true_and])
   go_wp2_with fail
   go_ret
   exact⟨rfl,hf,hK⟩
theorem ou (z:Value) (n:Nat):Builtin.zeroCells #[z] n=Array.replicate n z:=by
 apply Array.ext
 .simp[Builtin.zeroCells]
 .intro i h1 h2;simp[Builtin.zeroCells,Nat.mod_one]
theorem BB (w:World) (g n:Nat) (f:Nat->Value) (hR:Rw w g 4 n f) (hn:n<=8000000):
  ∃cap W',(Builtin.append_ #[39,3] 39 #[(g,n,n),(32:Int)]).run prog w=.ok (.slice (some w) (n+32) cap) W'/\Rw W' w 4 (n+32) (fun j=>if j<n then f j else false)/\NP [] w W':=by
 have⟨i0,h1,h2,h3,h4⟩:=nP
 have hold:=run_firstCells_some (P:=prog) (w:=w.drew) i0.size n g n n ((List.range n).map f) (by rw[h3];simp) (fun j v hj=>by
  have hjn:j<n:=by
   rcases Nat.lt_or_ge j n with h|h
   .exact h
   .rw[List.getElem?_eq_none _T]at hj;cases hj
  have hv:v=f j:=by simpa[hjn]using hj.symm
  rw[Ni,Nat.zero_add,hv]
  exact hR.cell j hjn)
 have Oq:Builtin.nextslicecap (n+32) n<=2*(n+32):=nextslicecap_le _a
 have h:=Lib.run_append_grow_zeros (P:=prog) w 39 3 39 4 i0 false .i64 .i64 underlying39 underlying3 h1 h2 (some g) n n _ hold 32 _a (by rw[h3];omega) _a _a Z! Z!
 refine⟨_,_,h,⟨_,ae.new w.drew _ 4,?_⟩,(NP.refl _ _).drew.alloc _⟩
 .intro i hi
  rw[show(Value.bool false).cells=#[.bool false]from rfl,ou,ou,Array.append_assoc]
  show _=some (if i<n then f i else Value.bool false)
  by_cases P7:i<n
  .rw[Array.getElem?_append_left (by simpa using P7),if_pos P7];simp[P7]
  .rw[Array.getElem?_append_right (by simpa using P7),if_neg P7,Array.getElem?_append_left _e,Array.getElem?_replicate,if_pos _e]
def LB (f:Nat->Bool):Nat->Value:=fun j=>.bool (f j)
def jw (l:List UInt8) (a j:Nat):Nat->Bool:=fun i=>if decide (a<=i/\i<a+j)then(fs l a i != pb (i-a))else fs l a i
theorem CJ (l:List UInt8) (a i:Nat):jw l a 0 i=fs l a i:=by unfold jw;rw[MS _a];rfl
theorem Hw (l:List UInt8) (a j:Nat):LB (jw l a (j+1)) (a+j)=.bool (fs l a (a+j) != pb j):=by
 unfold LB jw;rw[MV _a,if_pos rfl,Nat.add_sub_cancel_left]
theorem E6 (l:List UInt8) (a j i:Nat) (h:i≠a+j):LB (jw l a (j+1)) i=LB (jw l a j) i:=by
 have e:decide (a<=i/\i<a+(j+1))=decide (a<=i/\i<a+j):=by rw[decide_eq_decide];omega
 unfold LB jw;rw[e]
theorem E7 (l:List UInt8) (a:Nat) (h:fs l a a=true) (i:Nat):jw l a 33 i=fs l (a+1) i:=by
 show(if decide (a<=i/\i<a+33)=true then _ else _)=(if fs l a a&&decide (a<=i/\i<a+33)then _ else _)
 rw[h,Bool.true_and]
theorem Is (l:List UInt8) (a:Nat) (h:fs l a a=false) (i:Nat):fs l a i=fs l (a+1) i:=by
 show _=(if fs l a a&&decide (a<=i/\i<a+33)then _ else _)
 rw[h,Bool.false_and];rfl
def uk (l:List UInt8) (k:Nat):Nat->Bool:=fun j=>if j<k then !(mb l j)else mb l j
theorem adH {A:Prop}(h:A:=by
 go_wp2_with fail
 go_roundw
 case rel=>exact⟨k+1,_a,_j,hR',hP,hK⟩
 case measure=>simp[intOf];omega):A:=h
theorem M43 {A:Prop}(h:A:=by
 have⟨HD2,HD3⟩:=_f UH hd3
 clear hd UH hd3 hle hb ev
 generalize PE l/2^(k+1)=d at*
 go_wp2_with fail
 go_roundw
 case rel=>
  cases k with
  |zero=>exact⟨Or.inr ⟨rfl,by rw[<-HD3.out rfl];congr 1;omega⟩,trivial⟩
  |succ m=>exact⟨Or.inl ⟨m,_a,_j,by rw[<-HD2.out m rfl];congr 1;omega⟩,trivial⟩
 case measure=>simp[intOf]):A:=h
theorem Au (s:ByteArray) (w:World) (hs:s.size<=1000000):
  am! 205 #[.string s] w fun e w'=>e=.returned (.int .u32 (PE s.data.toList))/\NP [] w w':=by
 have hb:=fun w=>KQ s w hs
 have Oy:=DL s.data.toList
 rw[show s.data.toList.length=s.size by simp]at Oy
 have Ph:∀i,8*s.size<=i->mb s.data.toList i=false:=fun i hi=>CZ _ _ _D
 have Qg:=iJ s.data.toList
 generalize s.data.toList=l at*
 generalize hn:8*s.size=n at*
 have QU:n<=8000000:=_a
 clear hn hs
 have⟨HF,HE⟩:=_f Oy Ph
 clear Oy Ph
 go_enter func205,ntmps205
 go_wp2_with fail
 refine(hb _).mono ?_;rintro e w1 ⟨rfl,hR1,OP⟩
 have⟨cap,w2,Ym,Qn,PY⟩:=BB w1 _ n _ hR1 QU
 have Q4:Rw w2 w1 4 (n+32) (LB (mb l)):=Qn.congr (fun j hj=>by
  unfold LB
  by_cases h:j<n
  .rw[if_pos h]
  .rw[if_neg h,HE.out j _a])
 have P6:=OP.trans PY
 have RH:w.heap.size<=w1.heap.size:=OP.size
 clear hR1 Qn OP PY hb
 go_wp2_with (at_builtin;refine qA rfl _ _ _ rfl _ _ rfl rfl _ _ Ym ?_)
 refine(KM _).mono ?_;rintro e w3 ⟨rfl,hP,Qo⟩
 have So:=Q4.kept Qo _b
 have QI:=P6.trans Qo
 have QG:w1.heap.size<w2.heap.size:=Q4.lt
 have hGP:w1.heap.size≠w2.heap.size:=_a
 clear Q4 P6 Qo Ym
 generalize w2.heap.size=P at*
 generalize w1.heap.size=G at*
 go_wp2_with fail
 go_loopw [5] (fun i wr=>∃k:Nat,k<=32/\i=(k:Int)/\Rw wr G 4 (n+32) (LB (uk l k))/\Rw wr P 4 33 (LB pb)/\NP [] w wr) (fun i _=>32-(intOf i).toNat)
 case atStart=>exact⟨0,_a,rfl,So,hP,QI⟩
 case round=>
  obtain⟨k,hk,rfl,hR,hP,hK⟩:=hrel
  by_cases NV:k<32
  .have Z1:k<n+32:=_a
   have c0:=hR.cell k Z1
   have f0:=hR.free k
   have ev:LB (uk l k) k=.bool (mb l k):=by unfold LB uk;rw[if_neg _a]
   rw[ev]at c0
   have hn':=hR.set k Z1 (.bool (!(mb l k))) (LB (uk l (k+1))) (by unfold LB uk;rw[if_pos _a]) (fun j _ hj=>by unfold LB uk;by_cases h:j<k;rw[if_pos h,if_pos _a];rw[if_neg h,if_neg _a])
   have hP':=hP.other (p:=(aa G k)) (Ne.symm hGP) (.bool (!(mb l k)))
   have hK':=hK.setCell (p:=(aa G k)) (Or.inr RH) (.bool (!(mb l k)))
   clear hR hP hK ev
   generalize mb l k=b at*
   go_wp2_with fail
   go_roundw
   case rel=>exact⟨k+1,_a,_j,hn',hP',hK'⟩
   case measure=>simp[intOf];omega
  .obtain rfl:k=32:=_a
   have UM:Rw wr G 4 (n+32) (LB (fs l 0)):=hR
   clear hR So
   go_wp2_with fail
   go_loopw [6] (fun i wr=>∃k:Nat,k<=n/\i=(k:Int)/\Rw wr G 4 (n+32) (LB (fs l k))/\Rw wr P 4 33 (LB pb)/\NP [] w wr) (fun i _=>n-(intOf i).toNat)
   case atStart=>exact⟨0,_a,rfl,UM,hP,hK⟩
   case round=>
    obtain⟨k,hk,rfl,hR,hP,hK⟩:=hrel
    by_cases NV:k<n
    .have c0:=hR.cell k _a
     have Z1:(k:Int)<n+32:=_a
     cases hb:fs l k k
     .have ev:LB (fs l k) k=false:=by unfold LB;rw[hb]
      rw[ev]at c0
      have hR':Rw wr G 4 (n+32) (LB (fs l (k+1))):=hR.congr (fun j _=>by unfold LB;rw[Is l k hb])
      clear hR hb ev
      exact adH
     .have ev:LB (fs l k) k=true:=by unfold LB;rw[hb]
      rw[ev]at c0
      have hR':Rw wr G 4 (n+32) (LB (jw l k 0)):=hR.congr (fun j _=>by unfold LB;rw[CJ])
      have HB:=tK hb
      clear hR hb ev
      go_wp2_with fail
      clear c0
      obtain⟨wo,rfl⟩:∃wo:World,wo=wr:=⟨_,rfl⟩
      go_loopw [7] (fun i wr=>∃j:Nat,j<=33/\i=(j:Int)/\Rw wr G 4 (n+32) (LB (jw l k j))/\Rw wr P 4 33 (LB pb)/\NP [] w wr) (fun i _=>33-(intOf i).toNat)
      case atStart=>exact⟨0,_a,rfl,hR',hP,hK⟩
      case round=>
       obtain⟨j,hj,rfl,hR,hP,hK⟩:=hrel
       by_cases hj3:j<33
       .have acM:k+j<n+32:=_a
        have c1:=hR.cell (k+j) acM
        have f1:=hR.free (k+j)
        have c2:=hP.cell j hj3
        have e1:LB (jw l k j) (k+j)=.bool (fs l k (k+j)):=by unfold LB jw;rw[MS _a];rfl
        have e2:LB pb j=.bool (pb j):=rfl
        rw[e1]at c1
        rw[e2]at c2
        have hn':=hR.set (k+j) acM (.bool (fs l k (k+j) != pb j)) (LB (jw l k (j+1))) (Hw l k j) (fun i _ hi=>E6 l k j i hi)
        have hP':=hP.other (p:=(aa G (k+j))) (Ne.symm hGP) (.bool (fs l k (k+j) != pb j))
        have hK':=hK.setCell (p:=(aa G (k+j))) (Or.inr RH) (.bool (fs l k (k+j) != pb j))
        clear hR hP hK e1 e2
        generalize fs l k (k+j)=b1 at*
        generalize pb j=b2 at*
        go_wp2_with fail
        go_region
        go_wp2_with fail
        go_roundw
        case rel=>exact⟨j+1,_a,_j,hn'.drew,hP'.drew,hK'.drew⟩
        case measure=>simp[intOf];omega
       .obtain rfl:j=33:=_a
        have hR':Rw wr G 4 (n+32) (LB (fs l (k+1))):=hR.congr (fun i _=>by unfold LB;rw[E7 l k HB.out])
        clear hR
        exact adH
    .obtain rfl:n=k:=_a
     have ae0:PE l<4294967296:=Qg
     clear NV
     go_wp2_with fail
     obtain⟨wo,rfl⟩:∃wo:World,wo=wr:=⟨_,rfl⟩
     go_loopw [8,9] (fun v i wr=>((∃k:Nat,k<=31/\i=(k:Int)/\v=.int .u32 ((PE l/2^(k+1):Nat):Int))\/(i=(-1:Int)/\v=.int .u32 (PE l)))/\wr=wo) (fun _ i _=>(intOf i+1).toNat)
     case atStart=>exact⟨Or.inl ⟨31,_a,rfl,by rw[Nat.div_eq_of_lt (show PE l<2^(31+1)from Qg)];rfl⟩,rfl⟩
     case round=>
      obtain⟨⟨k,hk,rfl,rfl⟩|⟨rfl,rfl⟩,rfl⟩:=hrel
      .have c0:=hR.cell (n+k) _a
       have Z1:(n:Int)+k<n+32:=_a
       have hd:=HF.out k _a
       have hle:PE l/2^k<=PE l:=Nat.div_le_self _ _
       cases hb:fs l n (n+k)
       .have ev:LB (fs l n) (n+k)=false:=by unfold LB;rw[hb]
        rw[ev]at c0
        rw[hb,if_pos rfl]at hd
        have UH:∀m,k=m+1->2*(PE l/2^(k+1))+1=PE l/2^(m+1):=fun m hm=>by subst hm;exact hd.symm
        have hd3:k=0->2*(PE l/2^(k+1))+1=PE l:=fun hm=>by subst hm;rw[<-hd];simp
        have hx:2*(PE l/2^(k+1))+1<4294967296:=_a
        exact M43
       .have ev:LB (fs l n) (n+k)=true:=by unfold LB;rw[hb]
        rw[ev]at c0
        rw[hb,if_neg _b,Nat.add_zero]at hd
        have UH:∀m,k=m+1->2*(PE l/2^(k+1))=PE l/2^(m+1):=fun m hm=>by subst hm;exact hd.symm
        have hd3:k=0->2*(PE l/2^(k+1))=PE l:=fun hm=>by subst hm;rw[<-hd];simp
        have hx:2*(PE l/2^(k+1))<4294967296:=_a
        exact M43
      .go_wp2_with fail
       go_ret
       exact⟨rfl,hK⟩
end
section
open Go.Proofs.Tryz Go.ChangeShapes Go.WideShapes Go.ChangeAt Go.RowKit Go.Deep
variable {w w':World} {v:Value} {l:List ag} {lo hi:Nat}
def Gn (lo hi:Nat) (w:World) (cs:List Value) (a:ag):Prop:=∃kv,cs=[.int .i64 a.kind,.int .u32 a.id,.string (bs a.name),.int .i64 a.size,kv]/\af w kv a.runs lo hi/\a.fits
def bX (w:World) (v:Value) (l:List ag) (lo hi:Nat):Prop:=bS 5 (Gn lo hi) w v l lo hi
theorem bX.kept {S:List Nat} (h:bX w v l lo hi) (k:NP S w w') (hS:∀x∈S,x<lo\/hi<=x):bX w' v l lo hi:=
 bS.kept h k hS (fun _ _ ⟨kv,e1,e2,e3⟩=>⟨kv,e1,e2.kept k hS,e3⟩)
theorem bX.kept0 (h:bX w v l lo hi) (k:NP [] w w'):bX w' v l lo hi:=h.kept k (fun x hx=>by cases hx)
theorem bX.at_ {p:Option Addr} {n c:Nat} (h:bX w (p,n,c) l lo hi) (i:Nat) (hi':i<l.length):
  ∃b off kv,p=some ⟨b,off,none⟩/\w.cell? ⟨b,off+i*5,none⟩=some (.int .i64 l[i].kind)/\w.cell? ⟨b,off+i*5+1,none⟩=some (.int .u32 l[i].id)/\w.cell? ⟨b,off+i*5+2,none⟩=some (.string (bs l[i].name))/\w.cell? ⟨b,off+i*5+3,none⟩=some (.int .i64 l[i].size)/\w.cell? ⟨b,off+i*5+4,none⟩=some kv/\af w kv l[i].runs lo hi/\l[i].fits/\lo<=b/\b<hi/\hi<=w.heap.size:=by
 obtain⟨b,off,cs,e1,e2,⟨kv,rfl,e4,e5⟩,e6,e7⟩:=bS.at_ h i hi'
 exact⟨b,off,kv,e1,e6 0 _ rfl,e6 1 _ rfl,e6 2 _ rfl,e6 3 _ rfl,e6 4 _ rfl,e4,e5,e7⟩
section
variable {H:Type} {enc:TypeId×Value->H} {w:World} {base:Nat} {held:Bool} {r:Reach} {b0:Nat}
end
def aN (l:List ag):List UInt8:=NT l.length 2++(l.map OD).flatten
def fZ (l:List ag):List UInt8:=NT (aN l).length 4++(NT (PE (aN l)) 4++aN l)
theorem rm {r:ag} (h:gB r):(OD r).length<=200:=by
 have⟨_,_,_,_,nm,_,_,rf⟩:=h
 have:=rf.1
 unfold OD
 rw[tN,tN,tN,ak]
 split<;>split<;>split<;>simp[ak,df,gm]<;>omega
theorem ni (h:∀r∈l,gB r):(l.map OD).flatten.length<=200*l.length:=by
 induction l with
 |nil=>simp
 |cons a t ih=>
  have h1:=rm (h a MY)
  have h2:=ih (fun r hr=>h r (Nz _ hr))
  rw[List.map_cons,List.flatten_cons,tN,Nj];omega
theorem uI (l:List ag) (k:Nat) (h:k<l.length):((l.take (k+1)).map OD).flatten=((l.take k).map OD).flatten++OD l[k]:=by
 rw[MI h,M0,Nv]
 congr 1
 simp
end
open Go.Proofs.Tryz Go.RowKit
variable {l r s s0:List UInt8} {k n m:Nat} {x:Int} {o:List ag} {out:List (List ag)}
def cX (l:List ag):Int:=if l.length=0 then 3 else if l.all az then 0 else 1
def Pv (l:List ag):List UInt8:=if cX l=0 then fZ l else[]
def mU (l:List ag) (w:World) (e:Ending) (w':World):Prop:=e=.returned (.tuple #[.string (bs (Pv l)),(cX l:Int)])/\NP [] w w'
theorem G9 {l:List ag} (h:l.length=0):cX l=3/\Pv l=[]:=by
 have e:cX l=3:=by unfold cX;rw[if_pos h]
 exact⟨e,by unfold Pv;rw[e,if_neg _d]⟩
theorem KE {l:List ag} (hk:k<l.length) (h:az l[k]=false):cX l=1/\Pv l=[]:=by
 have e:cX l=1:=by
  unfold cX
  rw[if_neg _a,if_neg]
  intro ha
  have:=List.all_eq_true.1 ha l[k] (MJ hk)
  rw[h]at this;cases this
 exact⟨e,by unfold Pv;rw[e,if_neg _d]⟩
theorem B3 {l:List ag} (h0:0<l.length) (h:∀j (hj:j<l.length),az l[j]=true):cX l=0/\Pv l=fZ l:=by
 have e:cX l=0:=by
  unfold cX
  rw[if_neg _a,if_pos]
  rw[List.all_eq_true]
  intro r hr
  obtain⟨j,hj,rfl⟩:=Nr.1 hr
  exact h j hj
 exact⟨e,by unfold Pv;rw[if_pos e]⟩
theorem uw {l:List ag} {C:Int} {w w':World} (h:cX l=C/\Pv l=[]) (k:NP [] w w'):mU l w (.returned (.tuple #[.string {data:=#[]},C])) w':=by
 refine⟨?_,k⟩
 rw[h.1,h.2];rfl
theorem tt {l:List ag} {k:Nat} (hl:l.length<=3000) (hk:k<=l.length) (h:∀j (hj:j<l.length),j<k->gB l[j]):(NT l.length 2++((l.take k).map OD).flatten).length<=600100:=by
 have:=ni (l:=l.take k) (fun r hr=>by
  rw[List.mem_take_iff_getElem]at hr
  obtain⟨j,hj,rfl⟩:=hr
  exact h j _a _a)
 rw[tN,ak]
 have h2:(l.take k).length<=3000:=_w
 omega
theorem L3 (v:Value) (l:List ag) (lo hi:Nat) (w:World) (h:bX w v l lo hi) (hl:l.length<=3000) (P3:∀r∈l,r.runs.length<=1000000):
  am! 46 #[v] w (mU l w):=by
 obtain⟨p,c,rfl⟩:=bS.shape h
 have Tg:(l.length:Int)<=3000:=_a
 by_cases h0:l.length=0
 .have hs:=uw (w:=w) (w':=w) (G9 h0) (NP.refl _ _)
  have HS:=tK hs
  have h0':(l.length:Int)<1:=_a
  clear hs h hl P3 h0
  go_enter func46,ntmps46
  go_wp2_with fail
  go_ret2
  exact HS.out
 .have h1':(1:Int)<=l.length:=_a
  have e0:=nN l.length _a
  have hu:=fun W=>mM l.length W _a
  have⟨HU,H,XV⟩:=gg! hu h P3
  clear hu h P3
  go_enter func46,ntmps46
  go_wp2_with fail
  refine(HU.out _).mono ?_;rintro e w1 ⟨rfl,OP⟩
  clear e0
  go_wp2_with fail
  go_loopw [4,22] (fun t i wr=>∃k:Nat,k<=l.length/\i=(k:Int)/\t=.string (bs (NT l.length 2++((l.take k).map OD).flatten))/\(∀j (hj:j<l.length),j<k->az l[j]=true/\gB l[j])/\NP [] w wr) (fun _ i _=>l.length-(intOf i).toNat)
  case atStart=>exact⟨0,_a,rfl,_b,fun j _ hj=>absurd hj _a,OP⟩
  case round=>
   obtain⟨k,hk,rfl,rfl,Pf,hK⟩:=hrel
   have hlen:=tt hl hk (fun j hj hjk=>(Pf j hj hjk).2)
   by_cases NV:k<l.length
   .obtain⟨b',off,kv,rfl,c0,c1,c2,c3,c4,hr,Oq,_,hbh,hhw⟩:=(H.out.kept0 hK).at_ k NV
    have Oe:l[k].runs.length<=1000000:=XV.out _ (MJ NV)
    obtain⟨pk,ck,rfl⟩:=hr.shape
    have OF:=fun(hm:az l[k]=false)=>KE NV hm
    have UU:az l[k]=true->gB l[k]->∀j (hj:j<l.length),j<k+1->az l[j]=true/\gB l[j]:=fun h1 h2 j hj hjk=>by
     by_cases e:j=k
     .subst e;exact⟨h1,h2⟩
     .exact Pf j hj _a
    have PF:=uI l k NV
    have ka:NP [] wr (wr.alloc (.cells (l[k].cells (.slice pk l[k].runs.length ck)) 102)):=(NP.refl _ _).alloc _
    have hch:=ta l[k] _ lo hi _ (hr.kept0 ka) Oe Oq
    have XN:=fun W (kk:NP [] wr W) (ho:gB l[k])=>JX l[k] _ lo hi W (hr.kept0 kk) ho
    have hoo:=fun(hm:az l[k]=true)=>jU (r:=l[k]) hm Oq
    have abZ:=fun(ho:gB l[k])=>rm (r:=l[k]) ho
    have oA:=ae.new wr (l[k].cells (.slice pk l[k].runs.length ck)) 102
    have⟨Pk,Su,Sm,Tq,HBY,HOO,ad0,QH,Of,OZ,KA,OA⟩:=ge! OF UU PF hch XN hoo abZ Pf NV hlen ka oA
    have i1:(k:Int)<l.length:=_a
    clear OF UU PF hch XN hoo abZ Pf hlen hr Oq Oe ka oA
    unfold mZ at Tq
    unfold ag.cells at Tq HBY KA OA
    generalize hm:az l[k]=M at*
    have HM:=tK hm
    clear hm
    generalize l[k].kind=rk at*
    generalize l[k].id=ri at*
    generalize l[k].name=rn at*
    generalize l[k].size=rs at*
    generalize l[k].runs.length=rr at*
    cases M
    .have hs:=Pk.out rfl
     have HS:=tK hs
     clear hs
     go_wp2_with fail
     refine Tq.out.mono ?_;rintro e w2 ⟨rfl,k2⟩
     have kk:=(hK.trans KA.out).trans k2
     go_wp2_with fail
     go_ret2
     exact uw HS.out kk
    .have ho:=HOO.out rfl
     have HO:=tK ho
     have Y0:=ad0.out ho
     have Q3:=fun W kk=>HBY.out W kk ho
     have Zd:=tK Q3
     clear ho Q3
     have y1:(bs (OD l[k])).size<=200:=by rw[NQ];exact Y0
     have y0:(bs (NT l.length 2++((l.take k).map OD).flatten)).size<=600100:=by rw[NQ];exact OZ.out
     have Tz:Hid (bs (NT l.length 2++((l.take k).map OD).flatten)++bs (OD l[k])=bs (NT l.length 2++((l.take (k+1)).map OD).flatten)):=by
      show _=_;rw[aw,Sm.out];simp only[MW];rfl
     clear Y0
     generalize bs (OD l[k])=RB at*
     generalize bs (NT l.length 2++((l.take k).map OD).flatten)=S0 at*
     go_wp2_with fail
     refine Tq.out.mono ?_;rintro e w2 ⟨rfl,k2⟩
     have o2:=k2.own OA.out _b
     have⟨d0,d1,d2,d3,d4⟩:=o2.c5
     have k02:=KA.out.trans k2
     go_wp2_with fail
     refine(Zd.out _ k02).mono ?_;rintro e w3 ⟨rfl,k3⟩
     have kk:=hK.trans (k02.trans k3)
     have yy:(S0++RB).size=S0.size+RB.size:=ByteArray.size_append
     go_wp2_with fail
     go_roundw
     case rel=>exact⟨k+1,Of.out,_j,by rw[<-Tz.out],Su.out (by first|rfl|trivial) HO.out,kk⟩
     case measure=>(have hh:=Of.out;simp[intOf];omega)
   .obtain rfl:k=l.length:=_a
    have⟨ec,eo⟩:=B3 (l:=l) _a (fun j hj=>(Pf j hj hj).1)
    rw[MU]at hlen ⊢
    have Vp:NT l.length 2++(l.map OD).flatten=aN l:=rfl
    rw[Vp]at hlen ⊢
    have e1:=rK (aN l).length _a
    have hz:(bs (aN l)).size=(aN l).length:=NQ _
    have hcr:=iJ (aN l)
    have h1:=fun W=>eU (aN l).length W _a
    have h2:=fun W=>Bu (bs (aN l)) W (by rw[hz];unfold maxLen;omega)
    have h3:=fun W=>eU (PE (aN l)) W _a
    rw[cC]at h2
    have Oy:Hid (bs (NT (aN l).length 4)++bs (NT (PE (aN l)) 4)++bs (aN l)=bs (Pv l)):=by
     show _=_;rw[eo,aw,aw,MW];rfl
    have y1:(bs (NT (aN l).length 4)).size=4:=_q
    have y2:(bs (NT (PE (aN l)) 4)).size=4:=_q
    have y3:(bs (aN l)).size<=600100:=K!
    have yy:(bs (NT (aN l).length 4)++bs (NT (PE (aN l)) 4)).size=8:=by rw[ByteArray.size_append,y1,y2]
    have⟨EC,H1,H2,H3,QH⟩:=gi! ec h1 h2 h3 Pf
    have US:((aN l).length:Int)<=600100:=_a
    clear ec eo h1 h2 h3 Pf Vp
    generalize bs (NT (aN l).length 4)=M1 at*
    generalize bs (NT (PE (aN l)) 4)=M2 at*
    generalize bs (aN l)=M3 at*
    generalize PE (aN l)=cr at*
    generalize (aN l).length=bl at*
    go_wp2_with fail
    refine(H1.out _).mono ?_;rintro e w2 ⟨rfl,k2⟩
    go_wp2_with fail
    refine(H2.out _).mono ?_;rintro e w' ⟨rfl,rfl⟩
    go_wp2_with fail
    refine(H3.out _).mono ?_;rintro e w3 ⟨rfl,k3⟩
    have kk:=(hK.trans k2).trans k3
    go_wp2_with fail
    go_ret2
    exact⟨by rw[EC.out,<-Oy.out];rfl,kk⟩
theorem B7 (n:Int) (l:List UInt8) {x:Int} (h:x≠0):Ol n l x=([],l,x):=by unfold Ol;rw[if_pos h]
theorem xr (k:Nat) (l:List UInt8) {x:Int} (h:x≠0):N6 k l x=(0,l,x):=by unfold N6;rw[B7 _ _ h];rfl
theorem lh {n:Int} (h:(Ol n l x).2.2≠0):(Ol n l x).1=[]:=by
 unfold Ol at h ⊢
 split
 .rfl
 .rename_i h1
  rw[if_neg h1]at h
  split
  .rfl
  .rename_i h2
   rw[if_neg h2]at h
   split
   .rfl
   .rename_i h3
    rw[if_neg h3]at h
    exact absurd rfl h
theorem zq (h:(N6 k l x).2.2≠0):(N6 k l x).1=0:=by
 unfold N6 at h ⊢
 rw[show(Ol (k:Int) l x).1=[]from lh h];rfl
theorem jx (h:(N6 k l x).1≠0):(N6 k l x).2.2=0:=by
 by_cases hx:(N6 k l x).2.2=0
 .exact hx
 .exact absurd (zq hx) h
def qP (k:Int) (l:List UInt8) (x:Int):Nat×List UInt8×Int:=if S4 k then N6 4 l x else(0,l,x)
def uV (k:Int) (l:List UInt8) (x:Int):List UInt8×List UInt8×Int:=if Px k then dY l x else([],l,x)
def ux (k:Int) (l:List UInt8) (x:Int):Nat×List UInt8×Int:=if Oj k then N6 4 l x else(0,l,x)
def vq (k:Int) (l:List UInt8) (x:Int):Nat×List UInt8×Int:=if Oj k then N6 2 l x else(0,l,x)
def Od:Nat->List UInt8->Int->List (Int×Int)×List UInt8×Int
 |0,l,x=>([],l,x)
 |n+1,l,x=>((Od n l x).1++[(((N6 2 (Od n l x).2.1 (Od n l x).2.2).1:Int),((N6 2 (N6 2 (Od n l x).2.1 (Od n l x).2.2).2.1 (N6 2 (Od n l x).2.1 (Od n l x).2.2).2.2).1:Int))],
   (N6 2 (N6 2 (Od n l x).2.1 (Od n l x).2.2).2.1 (N6 2 (Od n l x).2.1 (Od n l x).2.2).2.2).2)
theorem ga (n:Nat) (l:List UInt8) (x:Int):(Od n l x).1.length=n:=by
 induction n with
 |zero=>rfl
 |succ n ih=>rw[Od,tN,ih];rfl
theorem Cg (h:(Od n l x).2.2≠0) (hm:n<=m):(Od m l x).2.2≠0:=by
 induction m with
 |zero=>
  have:n=0:=_a
  subst this;exact h
 |succ m ih=>
  by_cases e:n=m+1
  .subst e;exact h
  .have h1:=ih _a
   rw[Od]
   simp only
   rw[xr 2 _ h1]
   simp only
   rw[xr 2 _ h1]
   exact h1
theorem Er (n:Nat) (l:List UInt8) (x:Int):∀a∈(Od n l x).1,0<=a.1/\a.1<65536/\0<=a.2/\a.2<65536:=by
 induction n with
 |zero=>intro a ha;cases ha
 |succ n ih=>
  intro a ha
  rw[Od]at ha
  rcases Na.1 ha with h|h
  .exact ih a h
  .have e:=Nm.1 h
   subst e
   have h1:=cp 2 (Od n l x).2.1 (Od n l x).2.2
   have h2:=cp 2 (N6 2 (Od n l x).2.1 (Od n l x).2.2).2.1 (N6 2 (Od n l x).2.1 (Od n l x).2.2).2.2
   simp only
   omega
def PP (l:List UInt8):Nat×List UInt8×Int:=N6 1 l 0
def iR (l:List UInt8):Nat×List UInt8×Int:=qP (PP l).1 (PP l).2.1 (PP l).2.2
def tR (l:List UInt8):List UInt8×List UInt8×Int:=uV (PP l).1 (iR l).2.1 (iR l).2.2
def zR (l:List UInt8):Nat×List UInt8×Int:=ux (PP l).1 (tR l).2.1 (tR l).2.2
def nR (l:List UInt8):Nat×List UInt8×Int:=vq (PP l).1 (zR l).2.1 (zR l).2.2
def Ps (m:Nat) (l:List UInt8):ag×List UInt8×Int:=
 (⟨(PP l).1,(iR l).1,(tR l).1,(zR l).1,(Od m (nR l).2.1 (nR l).2.2).1⟩,(Od m (nR l).2.1 (nR l).2.2).2)
def gk (l:List UInt8):Option (ag×List UInt8):=if(Ps (nR l).1 l).2.2=0/\az (Ps (nR l).1 l).1=true then some ((Ps (nR l).1 l).1,(Ps (nR l).1 l).2.1)else none
theorem jz {r:ag} (h:az r=true):r.runs.length<=16:=by
 unfold az gq at h
 simp only[No,decide_eq_true_eq]at h
 have h7:=h.2.2.2.2.2.2
 unfold iD at h7
 simp only[No,decide_eq_true_eq]at h7
 exact h7.1
theorem EA (l:List UInt8):gk l=if(Ps (min (nR l).1 17) l).2.2=0/\az (Ps (min (nR l).1 17) l).1=true then some ((Ps (min (nR l).1 17) l).1,(Ps (min (nR l).1 17) l).2.1)else none:=by
 by_cases h:(nR l).1<=17
 .rw[Nat.min_eq_left h];rfl
 .rw[Nat.min_eq_right _a]
  unfold gk
  rw[if_neg,if_neg]
  .rintro⟨_,h2⟩
   have:=jz h2
   simp only[Ps,ga]at this
   omega
  .rintro⟨_,h2⟩
   have:=jz h2
   simp only[Ps,ga]at this
   omega
theorem wQ (h:(Ps (nR l).1 l).2.2=0) (hm:az (Ps (nR l).1 l).1=true):gk l=some ((Ps (nR l).1 l).1,(Ps (nR l).1 l).2.1):=by
 unfold gk;rw[if_pos ⟨h,hm⟩]
theorem ED (h:(Ps m l).2.2≠0) (hm:m<=(nR l).1):gk l=none:=by
 unfold gk
 rw[if_neg]
 rintro⟨h1,_⟩
 exact Cg (n:=m) h hm h1
theorem wR (h:az (Ps (nR l).1 l).1=false):gk l=none:=by
 unfold gk
 rw[if_neg]
 rintro⟨_,h1⟩
 rw[h]at h1;cases h1
theorem xH (k:Int) (l:List UInt8) (x:Int):(Lit.int .u32 ((qP k l x).1:Int)).wf=true:=by
 have h:(qP k l x).1<4294967296:=by
  unfold qP
  split
  .exact cp 4 l x
  .exact Nat.zero_lt_succ _
 simp only[Lit.wf,No,decide_eq_true_eq]
 exact⟨by show(0:Int)<=_;omega,by show _<=(4294967295:Int);omega⟩
theorem Dh (m:Nat) (l:List UInt8) (x:Int):(PN m l x).1<=m:=by
 unfold PN
 simp only
 split
 .exact Nb _
 .omega
theorem yf (l:List UInt8) (x:Int):(dY l x).1.length<=65536:=by
 unfold dY
 simp only
 have h1:=lZ (PN 65536 l x).1 (PN 65536 l x).2.1 (PN 65536 l x).2.2
 have h2:=Dh 65536 l x
 omega
theorem CU (k:Int) (l:List UInt8) (x:Int):(uV k l x).1.length<=65536:=by
 unfold uV
 split
 .exact yf l x
 .simp
theorem wi (k:Int) (l:List UInt8) (x:Int):(ux k l x).1<4294967296:=by
 unfold ux
 split
 .exact cp 4 l x
 .exact Nat.zero_lt_succ _
theorem DJ (k:Int) (l:List UInt8) (x:Int):(vq k l x).1<65536:=by
 unfold vq
 split
 .exact cp 2 l x
 .exact Nat.zero_lt_succ _
theorem mn {n:Int} (h1: -9223372036854775808<=n) (h2:n<=9223372036854775807):(Lit.int .i64 n).wf=true:=by
 simp only[Lit.wf,No,decide_eq_true_eq]
 exact⟨h1,h2⟩
theorem pC (m:Nat) (l:List UInt8):(Ps m l).1.fits:=by
 refine⟨?_,xH _ _ _,?_,?_⟩
 .have:(PP l).1<256:=cp 1 l 0
  exact mn (by show _<=((PP l).1:Int);omega) (by show((PP l).1:Int)<=_;omega)
 .have:(tR l).1.length<=65536:=CU _ _ _
  show(tR l).1.length<=maxLen
  unfold maxLen;omega
 .have:(zR l).1<4294967296:=wi _ _ _
  exact mn (by show _<=((zR l).1:Int);omega) (by show((zR l).1:Int)<=_;omega)
def dg:Nat->List UInt8->Option (List ag×List UInt8)
 |0,s=>some ([],s)
 |n+1,s=>match dg n s with
  |none=>none
  |some (o,r)=>match gk r with
   |none=>none
   |some (x,r')=>some (o++[x],r')
theorem nj {r':List UInt8} {x:ag} (h:dg n s=some (o,r)) (hx:gk r=some (x,r')):dg (n+1) s=some (o++[x],r'):=by
 rw[dg,h];simp only;rw[hx]
theorem kG (h:dg n s=some (o,r)) (hx:gk r=none) (hm:n<m):dg m s=none:=by
 induction m with
 |zero=>omega
 |succ m ih=>
  by_cases e:n=m
  .subst e;rw[dg,h];simp only;rw[hx]
  .rw[dg,ih _a]
def dp (s:List UInt8):Option (List ag):=
 if 1<=(N6 2 s 0).1/\(N6 2 s 0).1<=8192 then(match dg (N6 2 s 0).1 (N6 2 s 0).2.1 with
  |some (o,[])=>some o
  |_=>none)else none
theorem zW (h:¬(1<=(N6 2 s 0).1/\(N6 2 s 0).1<=8192)):dp s=none:=by unfold dp;rw[if_neg h]
theorem tu (h:dg (N6 2 s 0).1 (N6 2 s 0).2.1=none):dp s=none:=by
 unfold dp;split
 .rw[h]
 .rfl
theorem tv (h:dg (N6 2 s 0).1 (N6 2 s 0).2.1=some (o,r)) (hr:r≠[]):dp s=none:=by
 unfold dp;split
 .rw[h]
  cases r with
  |nil=>exact absurd rfl hr
  |cons a t=>rfl
 .rfl
theorem pW (h1:1<=(N6 2 s 0).1) (h2:(N6 2 s 0).1<=8192) (h:dg (N6 2 s 0).1 (N6 2 s 0).2.1=some (o,[])):dp s=some o:=by
 unfold dp;rw[if_pos ⟨h1,h2⟩,h]
def aR (s:List UInt8):Nat×List UInt8×Int:=N6 4 s 0
def cR (s:List UInt8):Nat×List UInt8×Int:=N6 4 (aR s).2.1 (aR s).2.2
def bR (s:List UInt8):List UInt8×List UInt8×Int:=Ol (aR s).1 (cR s).2.1 (cR s).2.2
def gO (s:List UInt8):Option (List ag×List UInt8):=match dp (bR s).1 with
 |none=>none
 |some o=>if(bR s).2.2=0/\PE (bR s).1=(cR s).1 then some (o,(bR s).2.1)else none
theorem wh (h:dp (bR s).1=none):gO s=none:=by unfold gO;rw[h]
theorem tL (h:(bR s).2.2≠0):gO s=none:=by
 unfold gO
 split
 .rfl
 .rw[if_neg (fun hh=>h hh.1)]
theorem zb (h:PE (bR s).1≠(cR s).1):gO s=none:=by
 unfold gO
 split
 .rfl
 .rw[if_neg (fun hh=>h hh.2)]
theorem tJ (h:dp (bR s).1=some o) (h2:(bR s).2.2=0) (h3:PE (bR s).1=(cR s).1):gO s=some (o,(bR s).2.1):=by
 unfold gO;rw[h];simp only;rw[if_pos ⟨h2,h3⟩]
theorem jy (h:(N6 k l x).2.2=0):x=0/\(N6 k l x).2.1.length+k=l.length:=by
 unfold N6 at h ⊢
 have⟨h1,h2,h3⟩:=nf (n:=k) h
 have h4:=congrArg List.length h3
 rw[tN,h2]at h4
 exact⟨h1,by show(Ol (k:Int) l x).2.1.length+k=_;omega⟩
theorem iZ (h:(bR s).2.2=0):(bR s).1.length=(aR s).1/\(bR s).1.length+(bR s).2.1.length+8<=s.length:=by
 have e:bR s=Ol (aR s).1 (cR s).2.1 (cR s).2.2:=rfl
 rw[e]at h ⊢
 have⟨h1,h2,h3⟩:=nf h
 have h4:=congrArg List.length h3
 rw[tN]at h4
 refine⟨h2,?_⟩
 have⟨h5,h6⟩:=jy (k:=4) (l:=(aR s).2.1) (x:=(aR s).2.2) h1
 have⟨h7,h8⟩:=jy (k:=4) (l:=s) (x:=0) h5
 have e2:(N6 4 (aR s).2.1 (aR s).2.2).2.1=(cR s).2.1:=rfl
 have e3:(N6 4 s 0).2.1=(aR s).2.1:=rfl
 rw[e2]at h6
 rw[e3]at h8
 omega
theorem q7 (h:gO s=some (o,r)):r.length+8<=s.length:=by
 unfold gO at h
 split at h
 .cases h
 .split at h
  .rename_i hc
   injection h with h
   injection h with _ h
   have:=(iZ hc.1).2
   rw[<-h];omega
  .cases h
def fq:Nat->List UInt8->Option (List (List ag))
 |0,s=>if s=[]then some []else none
 |f+1,s=>if s=[]then some []else(gO s).bind fun p=>(fq f p.2).map fun ls=>p.1::ls
theorem Az (f g:Nat) (s:List UInt8) (hf:s.length<=f) (hg:s.length<=g):fq f s=fq g s:=by
 induction f generalizing g s with
 |zero=>
  have:s=[]:=Nc _a
  subst this
  cases g<;>simp[fq]
 |succ f ih=>
  cases g with
  |zero=>
   have:s=[]:=Nc _a
   subst this
   simp[fq]
  |succ g=>
   rw[fq,fq]
   split
   .rfl
   .cases ht:gO s with
    |none=>rfl
    |some x=>
     have⟨o,r⟩:=x
     have:=q7 ht
     simp only[Option.bind_some]
     rw[ih g r _a _a]
def O4 (s:List UInt8):Option (List (List ag)):=fq s.length s
theorem Cr:O4 []=some []:=rfl
theorem Ay (hs:s≠[]) (h:gO s=none):O4 s=none:=by
 have hl:0<s.length:=Nu.2 hs
 obtain⟨f,hf⟩:∃f,s.length=f+1:=⟨s.length-1,_a⟩
 unfold O4
 rw[hf,fq,if_neg hs,h]
 rfl
theorem sI (hs:s≠[]) (h:gO s=some (o,r)):O4 s=(O4 r).map (fun ls=>o::ls):=by
 have hl:0<s.length:=Nu.2 hs
 obtain⟨f,hf⟩:∃f,s.length=f+1:=⟨s.length-1,_a⟩
 have:=q7 h
 unfold O4
 rw[hf,fq,if_neg hs,h]
 simp only[Option.bind_some]
 rw[Az f r.length r _a (MG _)]
def eA (s0:List UInt8) (out:List (List ag)) (s:List UInt8):Prop:=O4 s0=(O4 s).map (fun ls=>out++ls)
theorem eA.start (s:List UInt8):eA s [] s:=by unfold eA;cases O4 s<;>rfl
theorem eA.step {o:List ag} (h:eA s0 out s) (hs:s≠[]) (ht:gO s=some (o,r)):eA s0 (out++[o]) r:=by
 unfold eA at h ⊢
 rw[h,sI hs ht]
 cases O4 r<;>simp
theorem eA.end_ (h:eA s0 out s) (hs:s=[]):O4 s0=some out:=by
 unfold eA at h
 subst hs
 rw[h,Cr];simp
theorem eA.no (h:eA s0 out s) (hs:s≠[]) (ht:gO s=none):O4 s0=none:=by
 unfold eA at h
 rw[h,Ay hs ht];rfl
theorem ez (r:List UInt8) (h:n<256^k):N6 k (NT n k++r) 0=(n,r,0):=by rw[xq,Nat.mod_eq_of_lt h]
theorem Cf (l:List (Int×Int)) (h:dL l) (r:List UInt8) (k:Nat) (hk:k<=l.length):Od k (bQ l++r) 0=(l.take k,bQ (l.drop k)++r,0):=by
 induction k with
 |zero=>simp[Od]
 |succ k ih=>
  have NV:k<l.length:=_a
  have⟨a1,a2,b1,b2⟩:=h.2 k NV
  have e1:l.drop k=l[k]::l.drop (k+1):=List.drop_eq_getElem_cons NV
  have e2:bQ (l.drop k)++r=NT l[k].1.toNat 2++(NT l[k].2.toNat 2++(bQ (l.drop (k+1))++r)):=by
   rw[e1];unfold bQ;rw[List.map_cons,List.flatten_cons];simp only[MW]
  rw[Od,ih _a]
  simp only
  rw[e2,ez _ _a]
  simp only
  rw[ez _ _a]
  simp only
  rw[MI NV,Int.toNat_of_nonneg a1,Int.toNat_of_nonneg b1]
theorem AZ {r:ag} (h:az r=true):(S4 r.kind=false->r.id=0)/\(Px r.kind=false->r.name=[])/\(Oj r.kind=false->r.size=0/\r.runs=[]):=by
 unfold az gq at h
 simp only[No,Bool.or_eq_true,decide_eq_true_eq,beq_iff_eq]at h
 have⟨h1,h2,h3,h4,h5,h6,h7⟩:=h
 refine⟨fun e=>?_,fun e=>?_,fun e=>?_⟩
 .rw[e]at h2
  have:=of_decide_eq_false h2.symm
  omega
 .rw[e]at h4
  cases hn:r.name with
  |nil=>rfl
  |cons a t=>rw[hn]at h4;cases h4
 .rcases h6 with h6|⟨h6,h8⟩
  .rw[e]at h6;cases h6
  .exact⟨h6,List.isEmpty_iff.1 h8⟩
theorem Ez {r:ag} (h:az r=true) (hf:r.fits) (rest:List UInt8):gk (OD r++rest)=some (r,rest):=by
 have ok:=jU h hf
 have⟨p1,p2,p3⟩:=AZ h
 have⟨k1,k6,i0,i1,nm,s0,s1,rf⟩:=ok
 have hk:PP (OD r++rest)=(r.kind.toNat,(if S4 r.kind then NT r.id.toNat 4 else[])++((if Px r.kind then dj r.name else[])++((if Oj r.kind then NT r.size.toNat 4++cq r.runs else[])++rest)),0):=by
  unfold PP OD
  rw[MW,ez _ _a]
  simp only[MW]
 have ek:(((r.kind.toNat:Nat)):Int)=r.kind:=_a
 have hi:iR (OD r++rest)=(r.id.toNat,(if Px r.kind then dj r.name else[])++((if Oj r.kind then NT r.size.toNat 4++cq r.runs else[])++rest),0):=by
  unfold iR
  rw[hk]
  simp only[ek]
  unfold qP
  cases hI:S4 r.kind
  .have:=p1 hI
   simp[this]
  .simp only[if_true]
   rw[ez _ _a]
 have ht:tR (OD r++rest)=(r.name,(if Oj r.kind then NT r.size.toNat 4++cq r.runs else[])++rest,0):=by
  unfold tR
  rw[hk,hi]
  simp only[ek]
  unfold uV
  cases hN:Px r.kind
  .have:=p2 hN
   simp[this]
  .simp only[if_true]
   rw[B5 _ _ _a]
 have hz:zR (OD r++rest)=(r.size.toNat,(if Oj r.kind then cq r.runs else[])++rest,0):=by
  unfold zR
  rw[hk,ht]
  simp only[ek]
  unfold ux
  cases hB:Oj r.kind
  .have:=(p3 hB).1
   simp[this]
  .simp only[if_true,MW]
   rw[ez _ _a]
 have hn:nR (OD r++rest)=(r.runs.length,bQ r.runs++rest,0):=by
  unfold nR
  rw[hk,hz]
  simp only[ek]
  unfold vq
  cases hB:Oj r.kind
  .have:=(p3 hB).2
   simp[this,bQ]
  .simp only[if_true]
   unfold cq
   rw[MW,ez _ (by have:=rf.1;omega)]
 have Pp:Ps (nR (OD r++rest)).1 (OD r++rest)=(r,rest,0):=by
  unfold Ps
  rw[hn,hk,hi,ht,hz]
  simp only
  rw[Cf r.runs rf rest _ (MG _)]
  have e1:((r.kind.toNat:Nat):Int)=r.kind:=ek
  have e2:((r.id.toNat:Nat):Int)=r.id:=_a
  have e3:((r.size.toNat:Nat):Int)=r.size:=_a
  simp[e1,e2,e3,bQ]
 rw[wQ (by rw[Pp]) (by rw[Pp];exact h),Pp]
theorem Ck (l:List ag) (h:∀r∈l,az r=true/\r.fits) (rest:List UInt8) (k:Nat) (hk:k<=l.length):dg k ((l.map OD).flatten++rest)=some (l.take k,((l.drop k).map OD).flatten++rest):=by
 induction k with
 |zero=>simp[dg]
 |succ k ih=>
  have NV:k<l.length:=_a
  have⟨h1,h2⟩:=h _ (MJ NV)
  have e1:l.drop k=l[k]::l.drop (k+1):=List.drop_eq_getElem_cons NV
  have e2:((l.drop k).map OD).flatten++rest=OD l[k]++(((l.drop (k+1)).map OD).flatten++rest):=by
   rw[e1,List.map_cons,List.flatten_cons,MW]
  rw[nj (ih _a) (by rw[e2];exact Ez h1 h2 _),MI NV]
theorem DV (l:List ag) (h:∀r∈l,az r=true/\r.fits) (h1:1<=l.length) (h2:l.length<=8192):dp (aN l)=some l:=by
 have e:N6 2 (aN l) 0=(l.length,(l.map OD).flatten,0):=by
  unfold aN
  rw[ez _ _a]
 have hr:=Ck l h [] l.length (MG _)
 simp only[NO,MU,List.drop_length,List.map_nil,List.flatten_nil]at hr
 exact pW (by rw[e];exact h1) (by rw[e];exact h2) (by rw[e];exact hr)
theorem vC {l:List ag} (h:∀r∈l,gB r):(aN l).length<=2+200*l.length:=by
 have:=ni h
 unfold aN
 rw[tN,ak];omega
theorem Ha (l:List ag) (h:∀r∈l,az r=true/\r.fits) (h1:1<=l.length) (h2:l.length<=8192) (rest:List UInt8):gO (fZ l++rest)=some (l,rest):=by
 have hb:=vC (l:=l) (fun r hr=>jU (h r hr).1 (h r hr).2)
 have ha:aR (fZ l++rest)=((aN l).length,NT (PE (aN l)) 4++(aN l++rest),0):=by
  unfold aR fZ
  rw[MW,ez _ _a,MW]
 have hc:cR (fZ l++rest)=(PE (aN l),aN l++rest,0):=by
  unfold cR
  rw[ha]
  simp only
  rw[ez _ (iJ _)]
 have ht:bR (fZ l++rest)=(aN l,rest,0):=by
  unfold bR
  rw[ha,hc]
  simp only
  exact oM _ _ _ rfl
 have:=tJ (s:=fZ l++rest) (o:=l) (by rw[ht];exact DV l h h1 h2) (by rw[ht]) (by rw[ht,hc])
 rw[this,ht]
theorem Jd (l:List ag) (rest:List UInt8):fZ l++rest≠[]:=by
 intro e
 have:=congrArg List.length e
 unfold fZ at this
 rw[tN,tN,ak]at this
 simp at this
theorem Cs (ls:List (List ag)) (h:∀l∈ls,(∀r∈l,az r=true/\r.fits)/\1<=l.length/\l.length<=8192):O4 (ls.map fZ).flatten=some ls:=by
 induction ls with
 |nil=>rfl
 |cons a t ih=>
  have⟨h1,h2,h3⟩:=h a MY
  rw[List.map_cons,List.flatten_cons,sI (Jd _ _) (Ha a h1 h2 h3 _),ih (fun l hl=>h l (Nz _ hl))]
  rfl

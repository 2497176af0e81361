/- -/
import Derived.Test.YtdkimcnlhmhpgaaGreatK08
set_option maxHeartbeats 16000000
set_option maxRecDepth 100000
namespace Go.Proofs.YtdkimcnlhmhpgaaGreat
open Go.RowKit
theorem MH:type_of% @List.length_pos_iff:=@List.length_pos_iff
theorem Mq:type_of% @List.length_drop:=@List.length_drop
theorem Mi:type_of% @List.append_assoc:=@List.append_assoc
def NS (n:Int) (l:List UInt8) (x:Int):List UInt8×List UInt8×Int:=
 if x≠0 then([],l,x)else if n<0 then([],[],1)else if(l.length:Int)<n then([],[],10)else(l.take n.toNat,l.drop n.toNat,0)
theorem oe (b:Nat) (l:List UInt8) (x n:Int) (w:World) (hR:aO w b l x):
  Calls Tryz.prog 189 #[.pointer (some ⟨b,0,none⟩),.int .i64 n] w fun r w'=>r=.returned (.string (bs (NS n l x).1))/\aO w' b (NS n l x).2.1 (NS n l x).2.2/\aa [b] w w':=by
 have c0:w.cell? ⟨b,0,none⟩=some (.string (bs l)):=ae.cell hR 0 (by simp)
 have c1:w.cell? ⟨b,1,none⟩=some (.int .i64 x):=ae.cell hR 1 (by simp)
 have z0:=ae.free hR 0
 have z1:=ae.free hR 1
 by_cases hx:x=0
 .have hf:=fun e=>xH b l x e w hR
  subst hx
  simp only[qt]at hf
  by_cases hn:n<0
  .have ht:NS n l 0=([],[],1):=by simp[NS,hn]
   rw[ht]
   clear ht
   go_enter Tryz.func189,Tryz.ntmps189
   go_wp2_with fail
   refine(hf 1).mono ?_;rintro e w1 ⟨rfl,hR1,hk⟩
   go_wp2_with fail
   go_ret
   exact⟨rfl,hR1,hk⟩
  .have U7:0<=n:=by omega
   have O4:((bs l).size:Int)=l.length:=by rw[Nj]
   by_cases hl:(l.length:Int)<n
   .have ht:NS n l 0=([],[],10):=by simp[NS,hn,hl]
    rw[ht]
    have QZ:((bs l).size:Int)<n:=by rw[O4];exact hl
    clear ht O4
    go_enter Tryz.func189,Tryz.ntmps189
    go_wp2_with fail
    refine(hf 10).mono ?_;rintro e w1 ⟨rfl,hR1,hk⟩
    go_wp2_with fail
    go_ret
    exact⟨rfl,hR1,hk⟩
   .have ht:NS n l 0=(l.take n.toNat,l.drop n.toNat,0):=by simp[NS,hn,hl]
    rw[ht]
    obtain⟨k,rfl⟩:=Mr U7
    have QZ:(k:Int)<=((bs l).size:Int):=by rw[O4];omega
    have Zt:k<=(bs l).size:=by omega
    have e1:=Mb (aX l 0 k)
    have e2:=Mb (aX l k (bs l).size)
    clear ht O4 hf
    go_enter Tryz.func189,Tryz.ntmps189
    go_wp2_with fail
    go_ret
    have e1':(bs l).extract 0 k=bs (l.take k):=by rw[e1.out];simp
    have e2':(bs l).extract k (bs l).size=bs (l.drop k):=by rw[e2.out,Mk (by rw[Nj];simp)]
    refine⟨?_,?_,(aa.refl _ _).setCell (Or.inl (by simp)) _⟩
    .show Ending.returned (Value.string ((bs l).extract 0 k))=_
     rw[e1']
    .have h2:=ae.set hR 0 (.string ((bs l).extract k (bs l).size))
     unfold aO
     rw[e2']at h2 ⊢
     simpa using h2
 .have ht:NS n l x=([],l,x):=by simp[NS,hx]
  rw[ht]
  have hd:(x==0)=false:=by simpa using hx
  have hd2:(x != 0)=true:=by simpa using hx
  clear ht
  go_enter Tryz.func189,Tryz.ntmps189
  go_wp2_with fail
  go_ret
  exact⟨rfl,hR,aa.refl _ _⟩
def Rh:List UInt8->Nat
 |[]=>0
 |c::l=>c.toNat+256*Rh l
theorem qo (l:List UInt8):Rh l<256^l.length:=by
 induction l with
 |nil=>simp[Rh]
 |cons c l ih=>
  have:=c.toNat_lt
  simp only[Rh,Mz,Nat.pow_succ]
  omega
theorem FW (l:List UInt8) (c:UInt8):Rh (l++[c])=Rh l+256^l.length*c.toNat:=by
 induction l with
 |nil=>simp[Rh]
 |cons d l ih=>
  simp only[List.cons_append,Rh,ih,Mz,Nat.pow_succ]
  rw[Nat.mul_add,<-Nat.mul_assoc,Nat.mul_comm 256 (256^l.length)];omega
theorem xT (n k:Nat):Rh (Nh n k)=n%256^k:=by
 induction k generalizing n with
 |zero=>simp[Nh,Rh,Nat.mod_one]
 |succ k ih=>
  have e:(UInt8.ofNat n).toNat=n%256:=by rw[UInt8.toNat_ofNat']
  simp only[Nh,Rh,ih]
  rw[e,Nat.pow_succ,Nat.mul_comm (256^k) 256,Nat.mod_mul]
def Ny (k:Nat) (l:List UInt8) (x:Int):Nat×List UInt8×Int:=(Rh (NS k l x).1,(NS k l x).2)
theorem pH (n:Int) (l:List UInt8) (x:Int):(NS n l x).1.length<=n.toNat:=by
 unfold NS;split
 .simp
 .split
  .simp
  .split
   .simp
   .simp;omega
theorem Iy (t:List UInt8) (j:Nat) (hj:j<t.length) (hl:t.length<=8) (hb:j<(bs t).size):
  bits .or .u64 (Rh (t.take j)) (IntKind.u64.wrap (IntKind.u64.wrap ((bs t)[j].toNat:Int)*2^(8*j)))=(Rh (t.take (j+1)):Int):=by
 have hc:(bs t)[j].toNat<256:=by have:=(bs t)[j].toNat_lt;omega
 have Ns:=qo (t.take j)
 have hlj:(t.take j).length=j:=by simp;omega
 rw[hlj]at Ns
 have hp:(256:Nat)^j=2^(8*j):=by rw[Nat.pow_mul]
 have hpj:(2:Nat)^(8*j)<=2^56:=Nat.pow_le_pow_right (by decide) (by omega)
 have hm:(bs t)[j].toNat*2^(8*j)<2^64:=by
  have:=Nat.mul_le_mul (Nat.le_of_lt_succ hc) hpj
  omega
 have hts:t.take (j+1)=t.take j++[t[j]]:=by rw[Mf hj];rfl
 have hg:(bs t)[j]=t[j]:=rfl
 have w1:IntKind.u64.wrap ((bs t)[j].toNat:Int)=((bs t)[j].toNat:Int):=by simp[IntKind.wrap,IntKind.signed,IntKind.bits];omega
 have w2:IntKind.u64.wrap (((bs t)[j].toNat*2^(8*j):Nat):Int)=(((bs t)[j].toNat*2^(8*j):Nat):Int):=by
  have h:(((bs t)[j].toNat*2^(8*j):Nat):Int)<18446744073709551616:=by omega
  have h0:(0:Int)<=(((bs t)[j].toNat*2^(8*j):Nat):Int):=by omega
  generalize (((bs t)[j].toNat*2^(8*j):Nat):Int)=X at*
  simp[IntKind.wrap,IntKind.signed,IntKind.bits];omega
 have e:((bs t)[j].toNat:Int)*2^(8*j)=(((bs t)[j].toNat*2^(8*j):Nat):Int):=by simp
 rw[w1,e,w2,bits_or_u64_nat _ _ (by omega) (by omega)]
 congr 1
 rw[hts,FW,hlj,hp,Nat.or_comm,Nat.mul_comm (bs t)[j].toNat,<-Nat.two_pow_add_eq_or_of_lt (by omega),hg]
 omega
theorem jw (b k:Nat) (l:List UInt8) (x:Int) (w:World) (hR:aO w b l x) (hk:k<=8):
  Calls Tryz.prog 243 #[.pointer (some ⟨b,0,none⟩),.int .i64 k] w fun r w'=>r=.returned (.int .u64 (Ny k l x).1)/\aO w' b (Ny k l x).2.1 (Ny k l x).2.2/\aa [b] w w':=by
 have ht:=oe b l x k w hR
 have Vm:=pH k l x
 unfold Ny
 generalize NS (k:Int) l x=t at*
 have hlen:t.1.length<=8:=by omega
 have O4:((bs t.1).size:Int)=t.1.length:=by rw[Nj]
 have Tp:(bs t.1).size=t.1.length:=by rw[Nj]
 go_enter Tryz.func243,Tryz.ntmps243
 go_wp2_with fail
 refine ht.mono ?_;rintro e w1 ⟨rfl,hR1,OY⟩
 go_wp2_with fail
 go_loop [6,13] (fun v i=>∃j:Nat,j<=t.1.length/\i=.int .i64 j/\v=.int .u64 (Rh (t.1.take j))) (fun _ i=>t.1.length-(intOf i).toNat)
 case atStart=>exact⟨0,Mu _,rfl,rfl⟩
 case round=>
  obtain⟨j,hj,rfl,rfl⟩:=hrel
  by_cases Ns:j<t.1.length
  .have NQ:=Mb (Iy t.1 j Ns hlen (by rw[Nj];exact Ns))
   go_wp2_with fail
   go_round
   case rel=>exact⟨j+1,by omega,by go_num,by rw[<-NQ.out]⟩
   case measure=>simp[intOf];omega
  .have N6:=Mb (show t.1.take j=t.1 from Mk (by omega))
   go_wp2_with fail
   go_ret
   exact⟨by show Ending.returned (Value.int .u64 (Rh (t.1.take j)))=_;rw[N6.out],hR1,OY⟩
theorem dB (k:Nat) (l:List UInt8) (x:Int):(Ny k l x).1<256^k:=by
 have h1:=qo (NS k l x).1
 have h2:=pH k l x
 have h3:(256:Nat)^(NS k l x).1.length<=256^k:=Nat.pow_le_pow_right (by decide) (by omega)
 show Rh _<_
 omega
theorem LS (b:Nat) (l:List UInt8) (x:Int) (w:World) (hR:aO w b l x):
  Calls Tryz.prog 281 #[.pointer (some ⟨b,0,none⟩)] w fun r w'=>r=.returned (.int .u8 (Ny 1 l x).1)/\aO w' b (Ny 1 l x).2.1 (Ny 1 l x).2.2/\aa [b] w w':=by
 have hn:Calls Tryz.prog 243 #[.pointer (some ⟨b,0,none⟩),.int .i64 1] w fun r w'=>r=.returned (.int .u64 (Ny 1 l x).1)/\aO w' b (Ny 1 l x).2.1 (Ny 1 l x).2.2/\aa [b] w w':=jw b 1 l x w hR (by omega)
 have hb:=dB 1 l x
 have UW:((Ny 1 l x).1:Int)<256:=by omega
 clear hb
 generalize Ny 1 l x=u at*
 go_enter Tryz.func281,Tryz.ntmps281
 go_wp2_with fail
 refine hn.mono ?_;rintro e w1 ⟨rfl,hR1,OY⟩
 go_wp2_with fail
 go_ret
 exact⟨rfl,hR1,OY⟩
theorem tC (b:Nat) (l:List UInt8) (x:Int) (w:World) (hR:aO w b l x):
  Calls Tryz.prog 244 #[.pointer (some ⟨b,0,none⟩)] w fun r w'=>r=.returned (.int .u16 (Ny 2 l x).1)/\aO w' b (Ny 2 l x).2.1 (Ny 2 l x).2.2/\aa [b] w w':=by
 have hn:Calls Tryz.prog 243 #[.pointer (some ⟨b,0,none⟩),.int .i64 2] w fun r w'=>r=.returned (.int .u64 (Ny 2 l x).1)/\aO w' b (Ny 2 l x).2.1 (Ny 2 l x).2.2/\aa [b] w w':=jw b 2 l x w hR (by omega)
 have hb:=dB 2 l x
 have UW:((Ny 2 l x).1:Int)<65536:=by omega
 clear hb
 generalize Ny 2 l x=u at*
 go_enter Tryz.func244,Tryz.ntmps244
 go_wp2_with fail
 refine hn.mono ?_;rintro e w1 ⟨rfl,hR1,OY⟩
 go_wp2_with fail
 go_ret
 exact⟨rfl,hR1,OY⟩
theorem nU (b:Nat) (l:List UInt8) (x:Int) (w:World) (hR:aO w b l x):
  Calls Tryz.prog 195 #[.pointer (some ⟨b,0,none⟩)] w fun r w'=>r=.returned (.int .u32 (Ny 4 l x).1)/\aO w' b (Ny 4 l x).2.1 (Ny 4 l x).2.2/\aa [b] w w':=by
 have hn:Calls Tryz.prog 243 #[.pointer (some ⟨b,0,none⟩),.int .i64 4] w fun r w'=>r=.returned (.int .u64 (Ny 4 l x).1)/\aO w' b (Ny 4 l x).2.1 (Ny 4 l x).2.2/\aa [b] w w':=jw b 4 l x w hR (by omega)
 have hb:=dB 4 l x
 have UW:((Ny 4 l x).1:Int)<4294967296:=by omega
 clear hb
 generalize Ny 4 l x=u at*
 go_enter Tryz.func195,Tryz.ntmps195
 go_wp2_with fail
 refine hn.mono ?_;rintro e w1 ⟨rfl,hR1,OY⟩
 go_wp2_with fail
 go_ret
 exact⟨rfl,hR1,OY⟩
theorem KV (b:Nat) (l:List UInt8) (x:Int) (w:World) (hR:aO w b l x):
  Calls Tryz.prog 190 #[.pointer (some ⟨b,0,none⟩)] w fun r w'=>r=.returned (.int .u64 (Ny 8 l x).1)/\aO w' b (Ny 8 l x).2.1 (Ny 8 l x).2.2/\aa [b] w w':=by
 have hn:Calls Tryz.prog 243 #[.pointer (some ⟨b,0,none⟩),.int .i64 8] w fun r w'=>r=.returned (.int .u64 (Ny 8 l x).1)/\aO w' b (Ny 8 l x).2.1 (Ny 8 l x).2.2/\aa [b] w w':=jw b 8 l x w hR (by omega)
 have hb:=dB 8 l x
 have UW:((Ny 8 l x).1:Int)<18446744073709551616:=by omega
 clear hb
 generalize Ny 8 l x=u at*
 go_enter Tryz.func190,Tryz.ntmps190
 go_wp2_with fail
 refine hn.mono ?_;rintro e w1 ⟨rfl,hR1,OY⟩
 go_wp2_with fail
 go_ret
 exact⟨rfl,hR1,OY⟩
def OO (most:Nat) (l:List UInt8) (x:Int):Nat×List UInt8×Int:=
 let u:=Ny 4 l x
 if most<u.1 then(0,[],nt 2 u.2.2)else u
theorem Fl (b most:Nat) (l:List UInt8) (x:Int) (w:World) (hR:aO w b l x) (hm:most<1000000000):
  Calls Tryz.prog 299 #[.pointer (some ⟨b,0,none⟩),.int .i64 most] w fun r w'=>r=.returned (.int .i64 (OO most l x).1)/\aO w' b (OO most l x).2.1 (OO most l x).2.2/\aa [b] w w':=by
 have hn:Calls Tryz.prog 243 #[.pointer (some ⟨b,0,none⟩),.int .i64 4] w fun r w'=>r=.returned (.int .u64 (Ny 4 l x).1)/\aO w' b (Ny 4 l x).2.1 (Ny 4 l x).2.2/\aa [b] w w':=jw b 4 l x w hR (by omega)
 have hb:=dB 4 l x
 unfold OO
 generalize Ny 4 l x=u at*
 by_cases Ns:most<u.1
 .rw[if_pos Ns]
  go_enter Tryz.func299,Tryz.ntmps299
  go_wp2_with fail
  refine hn.mono ?_;rintro e w1 ⟨rfl,hR1,OY⟩
  go_wp2_with fail
  refine(xH b u.2.1 u.2.2 2 _ hR1).mono ?_;rintro e w2 ⟨rfl,QX,P9⟩
  go_wp2_with fail
  go_ret
  exact⟨rfl,QX,OY.trans P9⟩
 .rw[if_neg Ns]
  go_enter Tryz.func299,Tryz.ntmps299
  go_wp2_with fail
  refine hn.mono ?_;rintro e w1 ⟨rfl,hR1,OY⟩
  go_wp2_with fail
  go_ret
  exact⟨rfl,hR1,OY⟩
def gk (l:List UInt8) (x:Int):List UInt8×List UInt8×Int:=
 let u:=OO 65536 l x
 NS u.1 u.2.1 u.2.2
theorem J2 (b:Nat) (l:List UInt8) (x:Int) (w:World) (hR:aO w b l x):
  Calls Tryz.prog 282 #[.pointer (some ⟨b,0,none⟩)] w fun r w'=>r=.returned (.string (bs (gk l x).1))/\aO w' b (gk l x).2.1 (gk l x).2.2/\aa [b] w w':=by
 have hn:Calls Tryz.prog 299 #[.pointer (some ⟨b,0,none⟩),.int .i64 65536] w fun r w'=>r=.returned (.int .i64 (OO 65536 l x).1)/\aO w' b (OO 65536 l x).2.1 (OO 65536 l x).2.2/\aa [b] w w':=Fl b 65536 l x w hR (by omega)
 unfold gk
 generalize OO 65536 l x=u at*
 go_enter Tryz.func282,Tryz.ntmps282
 go_wp2_with fail
 refine hn.mono ?_;rintro e w1 ⟨rfl,hR1,OY⟩
 go_wp2_with fail
 refine(oe b u.2.1 u.2.2 u.1 _ hR1).mono ?_;rintro e w2 ⟨rfl,QX,P9⟩
 go_wp2_with fail
 go_ret
 exact⟨rfl,QX,OY.trans P9⟩
theorem Dj (b:Nat) (l:List UInt8) (x:Int) (w:World) (hR:aO w b l x):
  Calls Tryz.prog 194 #[.pointer (some ⟨b,0,none⟩)] w fun r w'=>r=.returned (.int .i64 l.length)/\w=w':=by
 have c0:w.cell? ⟨b,0,none⟩=some (.string (bs l)):=ae.cell hR 0 (by simp)
 have hz:=Nj l
 go_enter Tryz.func194,Tryz.ntmps194
 go_wp2_with fail
 go_ret
 exact⟨rfl,rfl⟩
theorem Bm (b:Nat) (l:List UInt8) (x:Int) (w:World) (hR:aO w b l x):
  Calls Tryz.prog 197 #[.pointer (some ⟨b,0,none⟩)] w fun r w'=>r=.returned (.int .i64 x)/\w=w':=by
 have c1:w.cell? ⟨b,1,none⟩=some (.int .i64 x):=ae.cell hR 1 (by simp)
 go_enter Tryz.func197,Tryz.ntmps197
 go_wp2_with fail
 go_ret
 exact⟨rfl,rfl⟩
def mS (l:List UInt8) (x:Int):Int:=if x=0/\l≠[]then 7 else x
theorem M94 {A:Prop}(h:A:=by
 go_wp2_with fail
 refine h1.mono ?_;rintro e w1 ⟨rfl,rfl⟩
 go_wp2_with fail
 go_ret
 exact⟨rfl,rfl⟩):A:=h
theorem KY (b:Nat) (l:List UInt8) (x:Int) (w:World) (hR:aO w b l x):
  Calls Tryz.prog 248 #[.pointer (some ⟨b,0,none⟩)] w fun r w'=>r=.returned (.int .i64 (mS l x))/\w=w':=by
 have h1:=Bm b l x w hR
 have h2:=Dj b l x w hR
 by_cases hx:x=0
 .subst hx
  by_cases hl:l=[]
  .subst hl
   have he:mS [] 0=0:=by simp[mS]
   rw[he]
   simp only[List.length_nil]at h2
   clear he
   go_enter Tryz.func248,Tryz.ntmps248
   go_wp2_with fail
   refine h1.mono ?_;rintro e w1 ⟨rfl,rfl⟩
   go_wp2_with fail
   refine h2.mono ?_;rintro e w1 ⟨rfl,rfl⟩
   exact M94
  .have he:mS l 0=7:=by simp[mS,hl]
   have aaF:0<l.length:=MH.2 hl
   rw[he]
   clear he hl
   go_enter Tryz.func248,Tryz.ntmps248
   go_wp2_with fail
   refine h1.mono ?_;rintro e w1 ⟨rfl,rfl⟩
   go_wp2_with fail
   refine h2.mono ?_;rintro e w1 ⟨rfl,rfl⟩
   go_wp2_with fail
   go_ret
   exact⟨rfl,rfl⟩
 .have he:mS l x=x:=by simp[mS,hx]
  have hd:(x==0)=false:=by simpa using hx
  rw[he]
  clear he
  go_enter Tryz.func248,Tryz.ntmps248
  go_wp2_with fail
  refine h1.mono ?_;rintro e w1 ⟨rfl,rfl⟩
  exact M94
def Pg (l:List UInt8) (n:Int):List UInt8:=l++List.replicate (n-l.length).toNat 0
theorem yY (k:Nat):Lib.repeatL [0] k=List.replicate k 0:=by
 induction k with
 |zero=>rfl
 |succ k ih=>rw[Lib.repeatL,ih];rfl
theorem lI (s:ByteArray) (n:Int) (w:World) (hs:s.size<=1000000) (hn:n<=1000000):
  Calls Tryz.prog 106 #[.string s,.int .i64 n] w fun e w'=>e=.returned (.string (bs (Pg s.data.toList n)))/\aa [] w w':=by
 by_cases hle:n<=s.size
 .have e:Pg s.data.toList n=s.data.toList:=by
   unfold Pg;rw[pK,show(n-(s.size:Int)).toNat=0 from by omega];simp
  rw[e,oU]
  clear e
  go_enter Tryz.func106,Tryz.ntmps106
  go_wp2_with fail
  go_ret
  exact⟨rfl,aa.refl _ _⟩
 .obtain⟨d,hd⟩:∃d:Nat,n-(s.size:Int)=d:=⟨(n-s.size).toNat,by omega⟩
  have e:Pg s.data.toList n=s.data.toList++List.replicate d 0:=by
   unfold Pg;rw[pK,show(n-(s.size:Int)).toNat=d from by omega]
  have X6:∀w,Calls Tryz.prog 34 #[.string {data:=#[0]},.int .i64 d] w fun e w'=>e=.returned (.string (bs (List.replicate d 0)))/\Below w.heap.size w w':=fun w=>by
   have h:=Tryz.strings_Repeat {data:=#[0]} d w (by omega) (by show 1*d<=_;omega)
   have e:(⟨(Lib.repeatL (ByteArray.mk #[0]).data.toList d).toArray⟩:ByteArray)=bs (List.replicate d 0):=by
    show bs (Lib.repeatL [0] d)=_
    rw[yY]
   rw[e]at h
   exact h
  have hz:(bs (List.replicate d 0)).size<=1000000:=by rw[Nj];simp;omega
  have N6:Hid (s++bs (List.replicate d 0)=bs (s.data.toList++List.replicate d 0)):=by
   show s++bs (List.replicate d 0)=_
   rw[<-aT,oU]
  rw[e]
  have Ns:(s.size:Int)<n:=by omega
  clear e hle
  go_enter Tryz.func106,Tryz.ntmps106
  go_wp2_with fail
  refine(X6 _).mono ?_;rintro e w1 ⟨rfl,hb⟩
  go_wp2_with fail
  go_ret
  exact⟨by show Ending.returned (Value.string (s++bs (List.replicate d 0)))=_;rw[N6.out],aa.xK hb⟩
end Go.Proofs.YtdkimcnlhmhpgaaGreat
namespace Go.Proofs.YtdkimcnlhmhpgaaGreat
open Go.ChangeShapes Go.WideShapes Go.ChangeAt Go.RowKit Go.Deep
variable {i:Nat} {s:List UInt8} {d:DK}
theorem tU {l:List (Nat×List UInt8)} (h:eY l i=some s):(i,s)∈l:=by
 suffices ∀(l m:List (Nat×List UInt8)),m++l=m++l->∀n,n<=l.length->eY (l.take n) i=some s->(i,s)∈l by
  exact this l [] rfl l.length (Md _) (by rwa[MC])
 intro l m _ n
 induction n with
 |zero=>intro _ h;rw[List.take_zero,BN]at h;cases h
 |succ n ih=>
  intro hn h
  rw[Mf (by omega),jX]at h
  split at h
  .rename_i he
   injection h with h
   have:l[n]=(i,s):=Prod.ext he h
   rw[<-this];exact Mh _
  .exact ih (by omega) h
theorem hZ (hf:bg d) (hi:i<d.stand.length):(seen d i).length=128:=by
 unfold seen
 cases h:eY d.waits i with
 |some s=>exact(hf.fine _ (tU h)).2
 |none=>
  show(d.stand.getD i []).length=128
  rw[MD,Mw hi]
  exact hf.all _ (Mh hi)
structure s9 (Inv:DK->World->Prop) (b:Nat):Prop where
 len:∀{d w},Inv d w->1<=d.stand.length/\d.stand.length<=8192
 fit:∀{d w},Inv d w->bg d
 keep:∀{d w w'},Inv d w->aa [] w w'->Inv d w'
 lenC:∀{d w},Inv d w->Calls Tryz.prog 36 #[.pointer (some ⟨b,0,none⟩)] w fun e w'=>e=.returned (.int .i64 d.stand.length)/\w=w'
 downC:∀{d w},Inv d w->Calls Tryz.prog 61 #[.pointer (some ⟨b,0,none⟩)] w fun e w'=>e=.returned (.bool d.down)/\w=w'
 readC:∀{d w} (i:Int),Inv d w->Calls Tryz.prog 62 #[.pointer (some ⟨b,0,none⟩),.int .i64 i] w fun e w'=>e=.returned (.tuple #[.string (bs (Og d i)),.int .i64 (N7 d i)])/\w=w'
 writeC:∀{d w} (i:Int) (s:List UInt8),Inv d w->d.ops<100000->d.waits.length<=10000->Calls Tryz.prog 88 #[.pointer (some ⟨b,0,none⟩),.int .i64 i,.string (bs s)] w fun e w'=>e=.returned (.int .i64 (NV d i s))/\Inv (NG d i s) w'
theorem fk (d:DK) (i:Int) (s:List UInt8):(NG d i s).ops<=d.ops+1/\(NG d i s).waits.length<=d.waits.length+1/\(NG d i s).stand.length=d.stand.length:=by
 unfold NG
 split
 .unfold aL;simp
 .simp
def av (s:List UInt8):List UInt8:=Pg (s.take 128) 128
theorem mr (s:List UInt8):(av s).length=128:=by
 unfold av Pg
 have:(s.take 128).length<=128:=List.length_take_le _ _
 rw[Mc,MF];omega
theorem KU (st:List (List UInt8)) (ws:List (Nat×List UInt8)) (keep:Nat->Bool) (n i:Nat) (hn:n<=ws.length):(sk st ws keep n).getD i []=st.getD i []\/∃x∈ws,x.1=i/\(sk st ws keep n).getD i []=x.2:=by
 induction n with
 |zero=>exact Or.inl rfl
 |succ n ih=>
  rw[na _ _ _ _ (by omega)]
  split
  .by_cases h:ws[n].1=i/\i<st.length
   .refine Or.inr ⟨ws[n],Mh _,h.1,?_⟩
    obtain⟨h,hl⟩:=h
    subst h
    rw[MD,List.getElem?_set_self (by rw[iO];exact hl)]
    rfl
   .have e:((sk st ws keep n).set ws[n].1 ws[n].2).getD i []=(sk st ws keep n).getD i []:=by
     rw[MD,MD]
     by_cases h1:ws[n].1=i
     .have h2:¬i<st.length:=fun h2=>h ⟨h1,h2⟩
      rw[List.getElem?_eq_none (by rw[List.length_set,iO];omega),List.getElem?_eq_none (by rw[iO];omega)]
     .rw[List.getElem?_set_ne h1]
    rw[e]
    exact ih (by omega)
  .exact ih (by omega)
theorem If (st:List (List UInt8)) (ws:List (Nat×List UInt8)) (n i:Nat) (hn:n<=ws.length) (hi:i<st.length):(sk st ws (fun _=>true) n).getD i []=(eY (ws.take n) i).getD (st.getD i []):=by
 induction n with
 |zero=>rfl
 |succ n ih=>
  rw[na _ _ _ _ (by omega),if_pos rfl,Mf (by omega),jX]
  by_cases h:ws[n].1=i
  .rw[if_pos h]
   subst h
   rw[MD,List.getElem?_set_self (by rw[iO];exact hi)]
   rfl
  .rw[if_neg h,<-ih (by omega),MD,List.getElem?_set_ne h,<-MD]
theorem rJ (d:DK) (i:Nat) (hi:i<d.stand.length):seen (fq d (fun _=>true)) i=seen d i:=by
 have:=If d.stand d.waits d.waits.length i (Md _) hi
 rw[MC]at this
 unfold seen
 exact this
theorem gE (d:DK) (a i:Nat) (s:List UInt8):seen (aL d a s) i=if a=i then s else seen d i:=by
 unfold seen aL
 simp only[jX]
 split<;>rfl
theorem nQ (d:DK) (k:Nat->Bool):(fq d k).stand.length=d.stand.length:=iO _ _ _ _
theorem Do (d:DK) (k:List Bool):(Oo d k).stand.length=d.stand.length:=iO _ _ _ _
def jT:Nat->List UInt8->List UInt8
 |0,_=>[]
 |m+1,W=>av W++jT m (W.drop 128)
theorem oO (W:List UInt8):∃z,av W=W.take 128++z:=⟨_,rfl⟩
theorem qG (m:Nat) (W:List UInt8) (h:W.length<=128*m):(jT m W).take W.length=W:=by
 induction m generalizing W with
 |zero=>
  have:W=[]:=Mt (by omega)
  subst this;rfl
 |succ m ih=>
  rw[jT]
  by_cases hs:W.length<=128
  .obtain⟨z,hz⟩:=oO W
   rw[hz,Mk hs,Mi,MS (Md _),MC]
  .have e:=ih (W.drop 128) (by rw[Mq];omega)
   rw[Mq]at e
   have hc:av W=W.take 128:=by
    obtain⟨z,hz⟩:=oO W
    have hl:=mr W
    rw[hz,Mc,Mp]at hl
    have:z=[]:=Mt (by omega)
    rw[hz,this,Nc]
   rw[hc,List.take_append,Mp,Nat.min_eq_left (by omega),e,Mk (by rw[Mp];omega),List.take_append_drop]
theorem wS {a:Nat} (hd:d.down=false) (Um:d.fuse<0) (ha:a<d.stand.length):NV d a (av s)=0/\NG d a (av s)=aL d a (av s):=by
 have Q2:N7 d (a:Int)=0:=by
  unfold N7
  rw[hd,if_neg (by simp),if_neg (by omega)]
 refine⟨?_,?_⟩
 .unfold NV
  rw[Q2,mr,if_neg (by simp),if_neg (by simp),if_neg (by omega)]
 .unfold NG
  rw[if_pos ⟨Q2,mr s⟩,ML]
theorem Ei (p s:List UInt8) (h:p.length<=128):(av (p++s)).take p.length=p:=by
 obtain⟨z,hz⟩:=oO (p++s)
 rw[hz,MS (by rw[Mp,Mc];omega),List.take_take,Nat.min_eq_left h,MS (Md _),MC]
section
variable {H:Type} {enc:TypeId×Value->H} {w:World} {base:Nat} {held:Bool} {r:Reach} {b0:Nat}
end
end Go.Proofs.YtdkimcnlhmhpgaaGreat
namespace Go.Proofs.YtdkimcnlhmhpgaaGreat
open Go.RowKit
variable {n f s size:Int} {l:List (Int×Int)} {w w':World} {m:Nat}
theorem fA (h:(Lit.int .i64 n).wf=true): -9223372036854775808<=n/\n<=9223372036854775807:=by
 simp only[Lit.wf,MJ,decide_eq_true_eq]at h
 exact h
def Nv (n:Int):Int:=if n<1 then 0 else(n-1)/128+1
theorem nY (n:Int) (w:World) (hn:(Lit.int .i64 n).wf=true):
  Calls Tryz.prog 54 #[.int .i64 n] w fun e w'=>e=.returned (.int .i64 (Nv n))/\w=w':=by
 have hb:=fA hn
 unfold Nv
 by_cases h:n<1
 .rw[if_pos h]
  go_enter Tryz.func54,Tryz.ntmps54
  go_wp2_with fail
  go_ret
  exact⟨rfl,rfl⟩
 .rw[if_neg h]
  go_enter Tryz.func54,Tryz.ntmps54
  go_wp2_with fail
  go_ret
  exact⟨rfl,rfl⟩
def uZ (f s:Int) (l:List (Int×Int)) (w:World) (e:Ending) (w':World):Prop:=e=.returned (if lies f s l then .tuple #[.int .i64 (Nw l),.bool true]else .tuple #[.int .i64 0,.bool false])/\aa [] w w'
theorem tS (h:lies f s l=false) (hk:aa [] w w'):uZ f s l w (.returned (.tuple #[.int .i64 0,.bool false])) w':=by
 refine⟨?_,hk⟩;rw[h];rfl
theorem zr (h:lies f s l=true) (hk:aa [] w w'):uZ f s l w (.returned (.tuple #[.int .i64 (Nw l),.bool true])) w':=by
 refine⟨?_,hk⟩;rw[h];rfl
theorem rM {f s:Int} {a:Int×Int}:(jx f s a=false/\(a.1<f\/(f<=a.1/\a.2<1)\/(f<=a.1/\1<=a.2/\s<a.1)\/(f<=a.1/\1<=a.2/\a.1<=s/\s-a.1<a.2)))\/(jx f s a=true/\f<=a.1/\1<=a.2/\a.1<=s/\a.2<=s-a.1):=by
 cases h:jx f s a
 .refine Or.inl ⟨rfl,?_⟩
  have h':¬(f<=a.1/\1<=a.2/\a.1<=s/\a.2<=s-a.1):=fun hh=>by rw[eM.2 hh]at h;cases h
  omega
 .exact Or.inr ⟨rfl,eM.1 h⟩
theorem rY {a b:Int×Int}:(apart a b=false/\a.1<b.1+b.2/\b.1<a.1+a.2)\/(apart a b=true/\(b.1+b.2<=a.1\/(a.1<b.1+b.2/\a.1+a.2<=b.1))):=by
 cases h:apart a b
 .refine Or.inl ⟨rfl,?_⟩
  have h':¬(a.1+a.2<=b.1\/b.1+b.2<=a.1):=fun hh=>by rw[qP.2 hh]at h;cases h
  omega
 .have:=qP.1 h
  exact Or.inr ⟨rfl,by omega⟩
theorem M55 {A:Prop}(h:A:=by
 clear hAP c0 c1
 have hge:(k:Int)<=m:=by omega
 clear Yp UC
 go_wp2_with fail
 go_roundw
 case rel=>exact⟨k+1,by omega,by go_num,by rw[PU.out],HL,hK2⟩
 case measure=>simp[intOf];omega):A:=h
theorem M48 {A:Prop}(h:A:=by
 clear r0 c0 c1
 rcases r1 with r1|⟨r1,r2⟩
 all_goals
  go_wp2_with fail
  go_roundw
  case rel=>exact⟨m+1,by omega,by go_num,by rw[WK.out,hAP.out,R0.out];rfl,hK2.alloc _,ho.alloc _⟩
  case measure=>simp[intOf];omega):A:=h
theorem LU (v:Value) (l:List (Int×Int)) (lo hi:Nat) (f s:Int) (w:World) (h:af w v l lo hi) (hl:l.length<=1000000) (hf:0<=f) (hf2:f<=100000) (hs:0<=s) (Qt:s<=8192):
  Calls Tryz.prog 223 #[v,.int .i64 f,.int .i64 s] w (uZ f s l w):=by
 obtain⟨p,c,rfl⟩:=h.shape
 go_enter Tryz.func223,Tryz.ntmps223
 go_wp2_with fail
 go_loopw [8,15] (fun a i wr=>∃k:Nat,k<=l.length/\i=.int .i64 k/\a=.int .i64 (Nw (l.take k))/\Aside (fT f s l k=true)/\aa [] w wr) (fun _ i _=>l.length-(intOf i).toNat)
 case atStart=>exact⟨0,by omega,rfl,by simp[Nw],rfl,aa.refl _ _⟩
 case round=>
  obtain⟨k,hk,rfl,rfl,hL,hK⟩:=hrel
  by_cases Ns:k<l.length
  .obtain⟨b,off,rfl,c0,c1,hb,Py,Pb⟩:=(h.kept0 hK).at_ k Ns
   unfold maxLen at Pb
   have OF:=Ay f s l k Ns
   have OL:Aside (∀m,(l.take m).all (apart l[k])=true->m=k->jx f s l[k]=true->fT f s l (k+1)=true):=fun m h1 h2 h3=>by
    subst h2;rw[iy f s l m Ns,hL.out,h3,h1];rfl
   have PU:Hid (Nw (l.take (k+1))=Nw (l.take k)+l[k].2):=iM l k Ns
   have Rr:=vi (Nat.le_of_lt Ns) hL.out hf Qt
   have hks:(8192:Int)*k<=8192000000:=by omega
   have RV:=rZ l[k] l
   rcases @rM f s l[k]with⟨h0,hbad⟩|⟨h0,g1,g2,g3,g4⟩
   .have HN:Hid (lies f s l=false):=OF (by rw[h0];rfl)
    clear OF OL PU h0 RV
    generalize l[k]=a at*
    generalize Nw (l.take k)=sm at*
    rcases hbad with g1|⟨g1,g2⟩|⟨g1,g2,g3⟩|⟨g1,g2,g3,g4⟩
    all_goals
     go_wp2_with fail
     go_ret2
     exact tS HN.out (hK.alloc _)
   .have aan:Hid ((l.take k).all (apart l[k])=false->lies f s l=false):=fun hh=>OF (by rw[hh,Bool.and_false])
    have H0:=Mb h0
    have HA:=Mb RV
    have NQ:=fun m hm=>pC l[k] l m hm
    have OM:=Mb NQ
    have Wl:=ie (Nat.le_of_lt Ns) hL.out
    have Ql:=Mb Wl
    clear OF h0 RV NQ Wl
    generalize l[k]=a at*
    generalize Nw (l.take k)=sm at*
    go_wp2_with fail
    obtain⟨wo,rfl⟩:∃wo:World,wo=wr:=⟨_,rfl⟩
    go_loopw [48] (fun i wr=>∃m:Nat,m<=k/\i=.int .i64 m/\Aside ((l.take m).all (apart a)=true)/\aa [] w wr/\ae wr wo.heap.size #[.int .i64 a.1,.int .i64 a.2] 128) (fun i _=>k-(intOf i).toNat)
    case atStart=>exact⟨0,by omega,rfl,rfl,hK.alloc _,ae.new _ _ _⟩
    case round=>
     obtain⟨m,hm,rfl,hAP,hK2,ho⟩:=hrel
     obtain⟨d0,d1⟩:=ho.c2
     have adG:=ho.lt
     by_cases UC:m<k
     .obtain⟨b',off',Xq,e0,e1,Qo,-,-⟩:=(h.kept0 hK2).at_ m (by omega)
      injection Xq with Xq
      injection Xq with hbe1 hbe2 _
      subst hbe1 hbe2
      have hob:=eM.1 (Ql.out m UC)
      have S3:=OM.out m (by omega)
      have WJ:=HA.out m k (by omega) UC
      have WK:=Mb S3
      have aa7:=Mb WJ
      have hc:= @rY a l[m]
      clear S3 WJ
      generalize l[m]=bb at*
      obtain⟨q1,q2,q3,q4⟩:=hob
      rcases hc with⟨r0,r1,r2⟩|⟨r0,r1⟩
      .have HN:Hid (lies f s l=false):=aan.out (aa7.out r0)
       clear r0 c0 c1
       go_wp2_with fail
       go_ret2
       exact tS HN.out (hK2.alloc _)
      .have R0:=Mb r0
       exact M48
     .have Yp:m=k:=by omega
      have HL:Aside (fT f s l (k+1)=true):=OL.out m hAP.out Yp H0.out
      exact M55
  .obtain rfl:k=l.length:=by omega
   have HY:Hid (lies f s l=true):=hL.out
   have HS:Hid (Nw (l.take l.length)=Nw l):=by show _=_;rw[MC]
   clear hL
   generalize Nw (l.take l.length)=sm at*
   go_wp2_with fail
   go_ret2
   rw[HS.out]
   exact zr HY.out hK
theorem I7 (f g:Nat->Bool) (k:Nat) (h:∀m,m<k->f m=true->g m=false):cA (fun m=>f m||g m) k=cA f k+cA g k:=by
 induction k with
 |zero=>rfl
 |succ k ih=>
  have h1:=ih (fun m hm=>h m (by omega))
  have h2:=h k (by omega)
  simp only[cA,h1]
  by_cases hf:f k=true
  .simp[hf,h2 hf];omega
  .by_cases hg:g k=true
   .simp[hf,hg];omega
   .simp[hf,hg]
theorem Eg (k:Nat):cA (fun _=>false) k=0:=by
 induction k with
 |zero=>rfl
 |succ k ih=>simp only[cA,ih];rfl
theorem yi (a n k:Nat):cA (fun m=>decide (a<=m/\m<a+n)) k=min k (a+n)-min k a:=by
 induction k with
 |zero=>simp[cA]
 |succ k ih=>
  simp only[cA,ih]
  by_cases h:a<=k/\k<a+n
  .simp[h];omega
  .simp[h];omega
theorem qC (h:eQ 0 s l) (hs:s<=8192):(Oc l:Int)=Nw l:=by
 unfold Oc
 induction l with
 |nil=>
  have:cA (aC []) 8192=0:=Eg 8192
  rw[this];rfl
 |cons r t ih=>
  obtain⟨h1,h2⟩:=h
  obtain⟨hp,ht⟩:=List.pairwise_cons.1 h2
  have hr:=h1 r Mg
  unfold iG at hr
  obtain⟨a,ha⟩:=Mr hr.1
  obtain⟨n,hn⟩:=Mr (show 0<=r.2 by omega)
  have he:∀m,aC (r::t) m=(decide (a<=m/\m<a+n)||aC t m):=fun m=>by
   unfold aC
   rw[List.any_cons]
   congr 1
   rw[ha,hn]
   by_cases hc:a<=m/\m<a+n
   .rw[MQ hc,MQ (by omega),MQ (by omega)];rfl
   .rw[MN hc]
    by_cases Rt:a<=m
    .rw[MQ (by omega),MN (by omega)];rfl
    .rw[MN (by omega)];rfl
  have abC:=uk (f:=aC (r::t)) (g:=fun m=>decide (a<=m/\m<a+n)||aC t m) 8192 (fun m _=>he m)
  have hor:=I7 (fun m=>decide (a<=m/\m<a+n)) (aC t) 8192 (fun m _ hm=>by
   have hm:=of_decide_eq_true hm
   cases hb:aC t m
   .rfl
   .exfalso
    obtain⟨x,hx,y1,y2⟩:=bF.1 hb
    have:=hp x hx
    unfold kn at this
    omega)
  have hih:=ih ⟨fun x hx=>h1 x (MP _ hx),ht⟩
  have NT:=yi a n 8192
  have Px:Nw (r::t)=r.2+Nw t:=by unfold Nw;simp
  rw[abC,hor,NT,Px]
  omega
def Nu (l:List (Int×Int)):List Nat:=(l.map fun r=>(List.range r.2.toNat).map fun k=>r.1.toNat+k).flatten
theorem tt (r:Int×Int) (l:List (Int×Int)):Nu (r::l)=((List.range r.2.toNat).map fun k=>r.1.toNat+k)++Nu l:=rfl
theorem pV (a b:List (Int×Int)):Nu (a++b)=Nu a++Nu b:=by unfold Nu;rw[Ms,MR]
theorem ts (l:List (Int×Int)) (k:Nat) (h:k<l.length):Nu (l.take (k+1))=Nu (l.take k)++(List.range l[k].2.toNat).map fun j=>l[k].1.toNat+j:=by
 rw[Mf h,pV]
 congr 1
 simp[Nu]
theorem vp (h:∀a∈l,iG 0 s a):((Nu l).length:Int)=Nw l:=by
 induction l with
 |nil=>rfl
 |cons r t ih=>
  have hr:=h r Mg
  unfold iG at hr
  have Px:Nw (r::t)=r.2+Nw t:=by unfold Nw;simp
  have:=ih (fun x hx=>h x (MP _ hx))
  rw[tt,Mc,Mm,List.length_range,Px]
  omega
theorem pT (hm:m∈Nu l):∃r∈l,r.1.toNat<=m/\m<r.1.toNat+r.2.toNat:=by
 unfold Nu at hm
 rw[List.mem_flatten]at hm
 obtain⟨x,hx,SA⟩:=hm
 obtain⟨r,hr,rfl⟩:=MV.1 hx
 obtain⟨k,hk,rfl⟩:=MV.1 SA
 have:=List.mem_range.1 hk
 exact⟨r,hr,by omega,by omega⟩
theorem E0 (h:∀a∈l,iG 0 s a) (hm:m∈Nu l):(m:Int)<s:=by
 obtain⟨r,hr,h1,h2⟩:=pT hm
 have:=h r hr
 unfold iG at this
 omega
theorem mK (h:eQ 0 s l):(Nu l).Nodup:=by
 induction l with
 |nil=>exact List.nodup_nil
 |cons r t ih=>
  obtain⟨h1,h2⟩:=h
  obtain⟨hp,ht⟩:=List.pairwise_cons.1 h2
  have hr:=h1 r Mg
  unfold iG at hr
  rw[tt,List.nodup_append]
  refine⟨?_,ih ⟨fun x hx=>h1 x (MP _ hx),ht⟩,fun a ha b hb e=>?_⟩
  .rw[List.nodup_iff_pairwise_ne,List.pairwise_map]
   exact(List.nodup_iff_pairwise_ne.1 List.nodup_range).imp (fun Ot he=>Ot (by omega))
  .subst e
   obtain⟨k,hk,rfl⟩:=MV.1 ha
   have hk:=List.mem_range.1 hk
   obtain⟨x,hx,y1,y2⟩:=pT hb
   have Vz:=h1 x (MP _ hx)
   have Pq:=hp x hx
   unfold kn at Pq
   unfold iG at Vz
   omega
def dA (l:List (Int×Int)) (n size:Int):Prop:=0<=size/\l.length<=16/\eQ 0 (min n 8192) l/\(Oc l:Int)=Nv size
theorem dA.Bf (h:dA l n size):((Nu l).length:Int)=Nv size:=by
 obtain⟨h1,h2,h3,h4⟩:=h
 rw[vp h3.1,<-qC h3 (by omega),h4]
theorem dA.lt (h:dA l n size) (hm:m∈Nu l):(m:Int)<n/\m<8192:=by
 have:=E0 h.2.2.1.1 hm
 omega
def eJ:List Nat->DK->List UInt8->DK×Int
 |[],d,_=>(d,0)
 |a::t,d,s=>if NV d a (av s)=0 then eJ t (NG d a (av s)) (s.drop 128)else(NG d a (av s),NV d a (av s))
open Classical in
noncomputable def NF (d:DK) (l:List (Int×Int)) (s:List UInt8):DK×Int:=
 if dA l d.stand.length s.length then(if d.down=true then(d,90)else eJ (Nu l) d s)else(d,1)
def fH (d:DK) (al:List Nat):List UInt8:=(al.map (seen d)).flatten
open Classical in
noncomputable def Nr (d:DK) (l:List (Int×Int)) (size:Int):Int:=if dA l d.stand.length size then(if d.down=true then 90 else 0)else 1
open Classical in
noncomputable def Ov (d:DK) (l:List (Int×Int)) (size:Int):List UInt8:=if Nr d l size=0 then(fH d (Nu l)).take size.toNat else[]
theorem sO {d:DK} (hf:bg d) {al:List Nat} (h:∀a∈al,a<d.stand.length):(fH d al).length=128*al.length:=by
 induction al with
 |nil=>rfl
 |cons a t ih=>
  have e:fH d (a::t)=seen d a++fH d t:=rfl
  rw[e,Mc,hZ hf (h a Mg),ih (fun x hx=>h x (MP _ hx)),Mz]
  omega
end Go.Proofs.YtdkimcnlhmhpgaaGreat
